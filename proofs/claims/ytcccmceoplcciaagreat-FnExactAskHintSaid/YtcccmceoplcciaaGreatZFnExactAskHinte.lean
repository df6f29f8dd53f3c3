/- A part of what the row of FnExactAskHint uses. Conditions: as each theorem states. -/
import Derived.Test.YtcccmceoplcciaaGreatZFnExactAskHintd
namespace Go.Proofs.YtcccmceoplcciaaGreat.AE
open Go Go.RowKit
set_option linter.unusedVariables false
set_option linter.unusedSimpArgs false
set_option maxRecDepth 20000
set_option maxHeartbeats 2000000
noncomputable section
def inS (g:D.Grid) (c:Int) (s:D.Slot):Prop:=c∈Qo g s s.Length.toNat
instance (g:D.Grid) (c:Int) (s:D.Slot):Decidable (inS g c s):=Classical.propDecidable _
def atL (g:D.Grid) (c:Int):List D.Slot→Nat→List Int
 | [],_=> []
 | s::r,n=>(if inS g c s then [((n:Nat):Int)] else [])++atL g c r (n+1)
theorem Qgr (g:D.Grid) (c:Int) (s:D.Slot):∀(l:List D.Slot) (n:Nat),atL g c (l++ [s]) n=atL g c l n++(if inS g c s then [((n+l.length:Nat):Int)] else [])
 | [],n=>by simp [atL]
 | x::r,n=>by
  rw [List.cons_append,atL,atL,Qgr g c s r (n+1),List.append_assoc]
  simp only [List.length_cons,show n+1+r.length=n+(r.length+1) by omega]
def ZW (g:D.Grid) (c:Int) (i:Nat):List Int:=atL g c ((Qc g).take i) 0
theorem Qci {g:D.Grid} {c:Int} {i:Nat} {s:D.Slot} (h:(Qc g)[i]? =some s):ZW g c (i+1)=ZW g c i++(if inS g c s then [((i:Nat):Int)] else []):=by
 have hi:=(List.getElem?_eq_some_iff.1 h).1
 unfold ZW
 rw [List.take_add_one,h,Option.toList_some,Qgr]
 simp [Nat.min_eq_left (Nat.le_of_lt hi)]
theorem QhT (g:D.Grid) (c:Int):∀(l:List D.Slot) (n:Nat),(atL g c l n).length≤l.length
 | [],n=>by simp [atL]
 | x::r,n=>by
  have:=QhT g c r (n+1)
  rw [atL,List.length_append,List.length_cons]
  split<;>simp only [List.length_cons,List.length_nil]<;>omega
theorem Qh5 (g:D.Grid) (c:Int) (i:Nat):(ZW g c i).length≤(Qc g).length:=by
 have:=QhT g c ((Qc g).take i) 0
 rw [List.length_take] at this
 unfold ZW
 omega
theorem Qhj {g:D.Grid} {i:Nat} {s:D.Slot} (h:(Qc g)[i]? =some s):(if s∈Qc g then Qo g s s.Length.toNat else [])=Qo g s s.Length.toNat:=if_pos (List.mem_of_getElem? h)
theorem Qib (g:D.Grid) (s:D.Slot):(if s∈Qc g then Qo g s s.Length.toNat else []).length≤6:=by
 split
 ·rename_i h
  rw [Jt]
  have:=(Qa8 h).2.2.2
  omega
 ·simp
end
theorem QaM (n:Nat) (g:D.Grid) (c:Int) (hc:g.Cells.size≤maxLen):Pure (Qr Tryz.prog (n+5)) 159 [(T.agg (Qb false g)),(tI c)] (T.sl true 1 ((ZW g c (Qc g).length).map (Qa true))):=by
 refine Pure.intro (rs:= [ResultVar.tmp 4]) Tryz.func159 rfl rfl rfl (E0:= [(0,(T.agg (Qb false g))),(1,(tI c))]) rfl ?_
 obtain ⟨hlim,hmx,hmax⟩:=QG
 have hsl:=ZL g
 refine sr (kO (B.box (ts:=(Qb false g)) (tv (T.agg (Qb false g)) rfl) nofun rfl) (fO (OF.assign VEv.nils) (nt (sr (kO (OM.slice0 Zz zo3 (by kernel_rfl) rfl (by rw [Ze];decide) Ze) (aO (T.os 1 1 0 0) rfl (nt (sr (lO (OL.loadOn (us:=(Qb false g)) (tv (T.op 0 0) rfl) rfl Q3 QW (lb rfl) rfl) (cO (OC.callF (us:= [(T.agg (Qb false g))]) (r:=(T.sl true 4 ((Qc g).map (Qh true)))) (r':=(T.os 4 2 0 (((Qc g).map (Qh true)).length))) (objs:= [(Obj.rows 4 ((Qc g).map (Qh true)))]) rfl (vc (tv (T.agg (Qb false g)) rfl) vn) (LendL.cons (lg Qv) ln) (ZV (n+1) g (by assumption)) rfl) (aO (T.os 4 2 0 (((Qc g).map (Qh true)).length)) rfl ?_)))))))))))
 refine nt (sq (sr (fO (OF.assign (VEv.int .i64 0)) (nt (VRun.block ?_)))))
 have he1: []=((ZW g c 0).map (Qa true)):=by rfl
 refine VRun.loop (A:=Nat) (fun s_=> [(1,(tI c)),(2,(T.op 0 0)),(4,T.nils),(5,(T.os 1 2 0 (((ZW g c s_).map (Qa true)).length))),(6,(T.os 4 1 0 (((Qc g).map (Qh true)).length))),(7,(tN s_))]) (fun s_=>Q4 [(0,(Obj.cells (Qb false g))),(1,(Obj.rows 4 ((Qc g).map (Qh true)))),(2,(Obj.rows 1 ((ZW g c s_).map (Qa true))))]) 3 (fun s_=>s_≤(Qc g).length) (fun s_=>(Qc g).length - s_) (0:Nat) ?_ (Wk.mk (fun k=>if k=1 then 2 else if k=2 then 1 else k) ?_ ?_ ?_) ?_
 ·(simp;done)
 ·exact (b2 (b2 (b2 (bc ⟨(congrArg (fun n_=>T.os 1 1 0 n_) (show 0=((ZW g c 0).map (Qa true)).length from (by rfl))),rfl⟩ (b2 (b2 bn))))))
 ·exact (b3 (b3 (bc ⟨(congrArg (fun l_=>some (Obj.rows 1 l_)) he1),(lb rfl),rfl⟩ bn)))
 ·exact nd rfl
 rintro i (hI':i≤(Qc g).length)
 show VRun _ _ _ [(1,(tI c)),(2,(T.op 0 0)),(4,T.nils),(5,(T.os 1 2 0 (((ZW g c i).map (Qa true)).length))),(6,(T.os 4 1 0 (((Qc g).map (Qh true)).length))),(7,(tN i))] (Q4 [(0,(Obj.cells (Qb false g))),(1,(Obj.rows 4 ((Qc g).map (Qh true)))),(2,(Obj.rows 1 ((ZW g c i).map (Qa true))))]) 3 _
 have hI1:=hI'
 have hal:=Qh5 g c i
 refine sq (sr (mO (tN i) rfl (mO (T.os 4 1 0 (((Qc g).map (Qh true)).length)) rfl (lO (B.lenO (m:=(Qc g).length) (tv (T.os 4 1 0 (((Qc g).map (Qh true)).length)) rfl) Z5 (List.length_map ..)) (fO (Zn (tv (tN i) rfl) (tv (tN ((Qc g).length)) rfl)) (nt ?_))))))
 refine cd (i<(Qc g).length) rfl (fun fhc0=> ?_) fun fhc0=> ?_
 ·refine sk ?_
  refine tn (sq (VRun.block (sq (VRun.draw (B:= [[],[],[],[2,1],[1,2,3],[3,2,1,4,0],[],[6,0,4,1,2,3,5]]) (by kernel_rfl) (by kernel_rfl) (lD (OL.loadOn (us:=(Qb false g)) (tv (T.op 0 0) rfl) rfl Q3 QW (lb rfl) rfl) rfl rfl (mD (T.os 4 1 0 (((Qc g).map (Qh true)).length)) rfl rfl (mD (tN i) rfl rfl ?_)))))))
  obtain ⟨x1,hx1⟩:∃x,(Qc g)[i]? =some x:=⟨_,List.getElem?_eq_getElem (by omega)⟩
  refine fD (B.indexAddrO (i:=i) (tv (T.os 4 1 0 (((Qc g).map (Qh true)).length)) rfl) (tv (tN i) rfl) rfl (by (simp only [List.length_map];omega)) Z5 Zb QaP) rfl rfl (lD (OL.loadPn (us:=(Qh false x1)) (row:=(Qh true x1)) (tv (T.orp 4 1 i 0) rfl) rfl (Qw _ hx1) Qc5 Zb (lb rfl) rfl (bc rfl (bc rfl (bc rfl (bc rfl bn))))) rfl rfl (VRunD.quiet (bi:= [3,2,1,4,0]) rfl VWant.always rfl rfl rfl bn (OC.callF (us:= [(T.agg (Qb false g)),(T.agg (Qh false x1))]) (r:=(T.sl true 1 ((if x1∈Qc g then Qo g x1 x1.Length.toNat else []).map (Qa true)))) (r':=(T.os 1 3 0 (((if x1∈Qc g then Qo g x1 x1.Length.toNat else []).map (Qa true)).length))) (objs:= [(Obj.rows 1 ((if x1∈Qc g then Qo g x1 x1.Length.toNat else []).map (Qa true)))]) rfl (vc (tv (T.agg (Qb false g)) rfl) (vc (tv (T.agg (Qh false x1)) rfl) vn)) (LendL.cons (lg Qv) (LendL.cons (lg okeSlot) ln)) (QaL (n+0) g x1 (by assumption)) rfl) (mD (tI c) rfl rfl (VRunD.quiet (bi:= [6,0,4,1,2,3,5]) rfl VWant.always rfl rfl rfl bn (cS (us:= [(rd 1 Qa (if x1∈Qc g then Qo g x1 x1.Length.toNat else [])),(tI c)]) (vc (tv (T.os 1 3 0 (((if x1∈Qc g then Qo g x1 x1.Length.toNat else []).map (Qa true)).length)) rfl) (vc (tv (tI c) rfl) vn)) (LendL.cons (Lend.os rfl rfl (okInt.fzMap _ _)) (lp rfl ln)) (Qfp (n+3) (if x1∈Qc g then Qo g x1 x1.Length.toNat else []) c (by exact Nat.le_trans (Qib g _) (by decide))) rfl rfl) (VRunD.nil (tn ?_))))))
  refine cd (c∈(if x1∈Qc g then Qo g x1 x1.Length.toNat else [])) rfl (fun fhc1=> ?_) fun fhc1=> ?_
  ·rw [Qhj hx1] at fhc1
   have q1:inS g c x1:=fhc1
   refine VRun.region (mO (T.os 1 2 0 (((ZW g c i).map (Qa true)).length)) rfl (mO (tN i) rfl (kO (OM.buildSlice (l:= [(tN i)]) (VEvp.cons (tv (tN i) rfl) VEvp.nil) rfl (by decide) (bc (nofun) bn) (bc ((bc (rfl) bn)) bn) (bc (rfl) bn) Zz zo3 (by kernel_rfl) rfl (by rw [Ze];decide) Ze (Nat.le_of_ble_eq_true rfl)) (cO (B.append (rows:=((ZW g c i).map (Qa true))) (rows2:= [[(tN i)]]) (rows3:=((ZW g c i++ [((i:Nat):Int)]).map (Qa true))) (VDst.own (tv (T.os 1 2 0 (((ZW g c i).map (Qa true)).length)) rfl) rfl rfl) (VSrc.own (tv (T.os 1 4 0 1) rfl) rfl rfl Zz (bc (bc rfl bn) bn)) (by decide) Zz Ze (by decide) zo3 rfl (of_decide_eq_true (by kernel_rfl)) (by (simp only [List.length_map,List.length_append,List.length_cons,List.length_nil,List.length_replicate,List.length_set,List.length_drop,List.length_take,Jo] at *;omega)) ((List.map_append (f:=Qa true) (l₁:=ZW g c i) (l₂:= [((i:Nat):Int)])).symm)) (aO (T.os 1 5 0 (((ZW g c i++ [((i:Nat):Int)]).map (Qa true)).length)) rfl (VRunO.nil (vinB.n (tn (VRun.region (mO (tN i) rfl (fO (QD (tv (tN i) rfl) (VEv.int .i64 1) (by omega)) ?_)))))))))))
   refine aO (tN (i+1)) rfl (VRunO.nil (tn ?_))
   have he2:(ZW g c i++ [((i:Nat):Int)])=ZW g c (i+1):=by rw [Qci hx1,if_pos q1]
   refine ⟨(i+1:Nat),?_,?_,Wk.mk (fun k=>if k=2 then 5 else k) ?_ ?_ ?_⟩
   ·trivial
   ·omega
   ·exact (b2 (b2 (b2 (bc ⟨(congrArg (fun l_=>T.os 1 5 0 (List.map (Qa true) l_).length) he2),rfl⟩ (b2 (b2 bn))))))
   ·exact (b3 (b3 (bc ⟨(congrArg (fun l_=>some (Obj.rows 1 (List.map (Qa true) l_))) he2),(lb rfl),rfl⟩ bn)))
   ·exact nd rfl
  rw [Qhj hx1] at fhc1
  have q1:¬inS g c x1:=fhc1
  refine sk (vinB.n (tn (VRun.region (mO (tN i) rfl (fO (QD (tv (tN i) rfl) (VEv.int .i64 1) (by omega)) (aO (tN (i+1)) rfl (VRunO.nil (tn ?_))))))))
  have he3:ZW g c i=ZW g c (i+1):=by rw [Qci hx1,if_neg q1,List.append_nil]
  refine ⟨(i+1:Nat),?_,?_,Wk.mk (fun k=>k) ?_ ?_ ?_⟩
  ·trivial
  ·omega
  ·exact (b2 (b2 (b2 (bc ⟨(congrArg (fun l_=>T.os 1 2 0 (List.map (Qa true) l_).length) he3),rfl⟩ (b2 (b2 bn))))))
  ·exact (b3 (b3 (bc ⟨(congrArg (fun l_=>some (Obj.rows 1 (List.map (Qa true) l_))) he3),(lb rfl),rfl⟩ bn)))
  ·exact nd rfl
 refine VRun.exit (vthn.e (vthn.e (vinB.e (tn (sr (mO (T.os 1 2 0 (((ZW g c i).map (Qa true)).length)) rfl (aO (T.os 1 2 0 (((ZW g c i).map (Qa true)).length)) rfl (nt (rt ?_)))))))))
 refine vfin.eq (r':=(T.sl true 1 ((ZW g c i).map (Qa true)))) ?_ (vfin.r (VRes.tmp (t:=(T.os 1 2 0 (((ZW g c i).map (Qa true)).length))) rfl VRes.nil) (Give.os rfl rfl (okInt.cleanMap _)))
 show (T.sl true 1 ((ZW g c i).map (Qa true)))=(T.sl true 1 ((ZW g c (Qc g).length).map (Qa true)))
 refine congrArg (fun l_=>T.sl true 1 (List.map (Qa true) l_)) ?_
 rw [show i=(Qc g).length from by omega]
noncomputable section
theorem Qhx {g:D.Grid} {i:Nat} {x:List Int} (h:(QP g)[i]? =some x):∃s,(Qc g)[i]? =some s∧x=Qo g s s.Length.toNat:=by
 unfold QP at h
 rw [List.getElem?_map] at h
 obtain ⟨s,h1,h2⟩:=Option.map_eq_some_iff.1 h
 exact ⟨s,h1,h2.symm⟩
theorem QdB {g:D.Grid} {s:D.Slot} {i:Nat} (h:(Qc g)[i]? =some s):(Qo g s s.Length.toNat).length≤6:=by
 rw [Jt]
 have:=(Qa8 (List.mem_of_getElem? h)).2.2.2
 omega
end
theorem Qd9 (n:Nat) (g:D.Grid) (c:Int) (hc:g.Cells.size≤maxLen):Pure (Qr Tryz.prog (n+5)) 186 [(T.agg (Qb false g)),(tI c)] (T.sl true 1 ((ZW g c (Qc g).length).map (Qa true))):=by
 refine Pure.intro (rs:= [ResultVar.tmp 4]) Tryz.func186 rfl rfl rfl (E0:= [(0,(T.agg (Qb false g))),(1,(tI c))]) rfl ?_
 obtain ⟨hlim,hmx,hmax⟩:=QG
 have hsl:=ZL g
 have hll:=Qcm g
 refine sr (kO (B.box (ts:=(Qb false g)) (tv (T.agg (Qb false g)) rfl) nofun rfl) (fO (OF.assign VEv.nils) (nt (sr (fO (OF.assign VEv.nils) (nt (sq (sr (lO (OL.loadOn (us:=(Qb false g)) (tv (T.op 0 0) rfl) rfl Q3 QW (lb rfl) rfl) (cO (OC.callF (us:= [(T.agg (Qb false g))]) (r:=(T.sl true 1 ((QP g).map ((YR 1 Qa) true)))) (r':=(T.os 1 1 0 (((QP g).map ((YR 1 Qa) true)).length))) (objs:= [(Obj.rows 1 ((QP g).map ((YR 1 Qa) true)))]) rfl (vc (tv (T.agg (Qb false g)) rfl) vn) (LendL.cons (lg Qv) ln) (J3 (n+0) g (by assumption)) rfl) (lO (B.lenO (m:=(QP g).length) (tv (T.os 1 1 0 (((QP g).map ((YR 1 Qa) true)).length)) rfl) QfA (List.length_map ..)) ?_)))))))))))
 refine fO (OF.move (VEv.int .i64 0)) (nt (VRun.block (VRun.wk (Wk.freeze (sz:=1) (k:=1) (rows':=((QP g).map ((YR 1 Qa) false))) [9] (bc rfl bn) rfl rfl ((QkH okInt).fzMap _ _)) (VRun.wk (Wk.phantom 5 1 rfl) ?_))))
 have he1: []=((ZW g c 0).map (Qa true)):=by rfl
 refine VRun.loop (A:=Nat) (fun s_=> [(1,(tI c)),(4,T.nils),(5,(T.os 1 0 0 (((ZW g c s_).map (Qa true)).length))),(9,(rd 1 (YR 1 Qa) (QP g))),(10,(tN ((QP g).length))),(11,(tN s_))]) (fun s_=>Q4 [(0,(Obj.rows 1 ((ZW g c s_).map (Qa true))))]) 1 (fun s_=>s_≤(QP g).length) (fun s_=>(QP g).length - s_) (0:Nat) ?_ (Wk.mk (fun k=>if k=0 then 2 else k) ?_ ?_ ?_) ?_
 ·(simp;done)
 ·exact (b2 (b2 (bc ⟨(congrArg (fun n_=>T.os 1 2 0 n_) (show 0=((ZW g c 0).map (Qa true)).length from (by rfl))),rfl⟩ (b2 (b2 (b2 bn))))))
 ·exact (bc ⟨(congrArg (fun l_=>some (Obj.rows 1 l_)) he1),(lb rfl),rfl⟩ bn)
 ·exact nd rfl
 rintro i (hI':i≤(QP g).length)
 show VRun _ _ _ [(1,(tI c)),(4,T.nils),(5,(T.os 1 0 0 (((ZW g c i).map (Qa true)).length))),(9,(rd 1 (YR 1 Qa) (QP g))),(10,(tN ((QP g).length))),(11,(tN i))] (Q4 [(0,(Obj.rows 1 ((ZW g c i).map (Qa true))))]) 1 _
 have hI1:=hI'
 have hal:=Qh5 g c i
 refine sr (fO (Zn (tv (tN i) rfl) (tv (tN ((QP g).length)) rfl)) (nt (sq ?_)))
 refine cd (i<(QP g).length) rfl (fun fhc0=> ?_) fun fhc0=> ?_
 ·refine sk ?_
  refine tn (sq (VRun.block (sr (mO (tN i) rfl ?_))))
  obtain ⟨x1,hx1⟩:∃x,(QP g)[i]? =some x:=⟨_,List.getElem?_eq_getElem (by omega)⟩
  obtain ⟨y1,hy1,hq1⟩:=Qhx hx1
  refine fO (OF.indexAddrR (row:=((YR 1 Qa) false x1)) (i:=i) (tv (rd 1 (YR 1 Qa) (QP g)) rfl) (tv (tN i) rfl) rfl (Qw _ hx1) QfA Qbp QcT) (lO (OL.loadR1 (t:=(rd 1 Qa x1)) (tv (T.rp [(rd 1 Qa x1)]) rfl) rfl YZ) (aO (tN i) rfl (aO (rd 1 Qa x1) rfl (nt (sr (mO (rd 1 Qa x1) rfl (mO (tI c) rfl (cO (cS (vc (tv (rd 1 Qa x1) rfl) (vc (tv (tI c) rfl) vn)) (ZU rfl) (Jw (n+2) x1 c (by (rw [hq1];exact Nat.le_trans (QdB hy1) (by decide)))) rfl rfl) (nt ?_)))))))))
  refine cd (c∈x1) rfl (fun fhc1=> ?_) fun fhc1=> ?_
  ·have q1:inS g c y1:=by rw [inS,← hq1];exact fhc1
   refine VRun.region (mO (T.os 1 0 0 (((ZW g c i).map (Qa true)).length)) rfl (mO (tN i) rfl (kO (OM.buildSlice (l:= [(tN i)]) (VEvp.cons (tv (tN i) rfl) VEvp.nil) rfl (by decide) (bc (nofun) bn) (bc ((bc (rfl) bn)) bn) (bc (rfl) bn) Zz zo3 (by kernel_rfl) rfl (by rw [Ze];decide) Ze (Nat.le_of_ble_eq_true rfl)) (cO (B.append (rows:=((ZW g c i).map (Qa true))) (rows2:= [[(tN i)]]) (rows3:=((ZW g c i++ [((i:Nat):Int)]).map (Qa true))) (VDst.own (tv (T.os 1 0 0 (((ZW g c i).map (Qa true)).length)) rfl) rfl rfl) (VSrc.own (tv (T.os 1 1 0 1) rfl) rfl rfl Zz (bc (bc rfl bn) bn)) (by decide) Zz Ze (by decide) zo3 rfl (of_decide_eq_true (by kernel_rfl)) (by (simp only [List.length_map,List.length_append,List.length_cons,List.length_nil,List.length_replicate,List.length_set,List.length_drop,List.length_take,Jo] at *;omega)) ((List.map_append (f:=Qa true) (l₁:=ZW g c i) (l₂:= [((i:Nat):Int)])).symm)) (aO (T.os 1 2 0 (((ZW g c i++ [((i:Nat):Int)]).map (Qa true)).length)) rfl (VRunO.nil (vinB.n (tn (VRun.region (fO (QD (tv (tN i) rfl) (VEv.int .i64 1) (by omega)) (mO (tN (i+1)) rfl ?_)))))))))))
   refine VRunO.nil (tn ?_)
   have he2:(ZW g c i++ [((i:Nat):Int)])=ZW g c (i+1):=by rw [Qci hy1,if_pos q1]
   refine ⟨(i+1:Nat),?_,?_,Wk.mk (fun k=>if k=0 then 2 else k) ?_ ?_ ?_⟩
   ·trivial
   ·omega
   ·exact (b2 (b2 (bc ⟨(congrArg (fun l_=>T.os 1 2 0 (List.map (Qa true) l_).length) he2),rfl⟩ (b2 (b2 (b2 bn))))))
   ·exact (bc ⟨(congrArg (fun l_=>some (Obj.rows 1 (List.map (Qa true) l_))) he2),(lb rfl),rfl⟩ bn)
   ·exact nd rfl
  have q1:¬inS g c y1:=by rw [inS,← hq1];exact fhc1
  refine sk (vinB.n (tn (VRun.region (fO (QD (tv (tN i) rfl) (VEv.int .i64 1) (by omega)) (mO (tN (i+1)) rfl (VRunO.nil (tn ?_)))))))
  have he3:ZW g c i=ZW g c (i+1):=by rw [Qci hy1,if_neg q1,List.append_nil]
  refine ⟨(i+1:Nat),?_,?_,Wk.mk (fun k=>k) ?_ ?_ ?_⟩
  ·trivial
  ·omega
  ·exact (b2 (b2 (bc ⟨(congrArg (fun l_=>T.os 1 0 0 (List.map (Qa true) l_).length) he3),rfl⟩ (b2 (b2 (b2 bn))))))
  ·exact (bc ⟨(congrArg (fun l_=>some (Obj.rows 1 (List.map (Qa true) l_))) he3),(lb rfl),rfl⟩ bn)
  ·exact nd rfl
 refine VRun.exit (vthn.e (vthn.e (vinB.e (tn (sr (mO (T.os 1 0 0 (((ZW g c i).map (Qa true)).length)) rfl (aO (T.os 1 0 0 (((ZW g c i).map (Qa true)).length)) rfl (nt (rt ?_)))))))))
 refine vfin.eq (r':=(T.sl true 1 ((ZW g c i).map (Qa true)))) ?_ (vfin.r (VRes.tmp (t:=(T.os 1 0 0 (((ZW g c i).map (Qa true)).length))) rfl VRes.nil) (Give.os rfl rfl (okInt.cleanMap _)))
 show (T.sl true 1 ((ZW g c i).map (Qa true)))=(T.sl true 1 ((ZW g c (Qc g).length).map (Qa true)))
 refine congrArg (fun l_=>T.sl true 1 (List.map (Qa true) l_)) ?_
 rw [show i=(Qc g).length from by omega]
noncomputable section
def chk (g:D.Grid) (c:Int):Prop:=(ZW g c (Qc g).length).length=2
instance (g:D.Grid) (c:Int):Decidable (chk g c):=Classical.propDecidable _
end
theorem QcE (n:Nat) (g:D.Grid) (c:Int) (hc:g.Cells.size≤maxLen):Pure (Qr Tryz.prog (n+6)) 183 [(T.agg (Qb false g)),(tI c)] (tB (decide (chk g c))):=by
 refine Pure.intro (rs:= [ResultVar.tmp 4]) Tryz.func183 rfl rfl rfl (E0:= [(0,(T.agg (Qb false g))),(1,(tI c))]) rfl ?_
 obtain ⟨hlim,hmx,hmax⟩:=QG
 refine sr (kO (B.box (ts:=(Qb false g)) (tv (T.agg (Qb false g)) rfl) nofun rfl) (fO (OF.assign (VEv.bool false)) (nt (sr (lO (OL.loadOn (us:=(Qb false g)) (tv (T.op 0 0) rfl) rfl Q3 QW (lb rfl) rfl) (mO (tI c) rfl (cO (OC.callF (us:= [(T.agg (Qb false g)),(tI c)]) (r:=(T.sl true 1 ((ZW g c (Qc g).length).map (Qa true)))) (r':=(T.os 1 1 0 (((ZW g c (Qc g).length).map (Qa true)).length))) (objs:= [(Obj.rows 1 ((ZW g c (Qc g).length).map (Qa true)))]) rfl (vc (tv (T.agg (Qb false g)) rfl) (vc (tv (tI c) rfl) vn)) (LendL.cons (lg Qv) (lp rfl ln)) (QaM (n+0) g c (by assumption)) rfl) (lO (B.lenO (m:=(ZW g c (Qc g).length).length) (tv (T.os 1 1 0 (((ZW g c (Qc g).length).map (Qa true)).length)) rfl) Zz (List.length_map ..)) (fO (B.eql (c:=(decide ((ZW g c (Qc g).length).length=2))) (tv (tN ((ZW g c (Qc g).length).length)) rfl) (VEv.int .i64 2) (Q6 (by omega))) (aO (tB (decide ((ZW g c (Qc g).length).length=2))) rfl (nt ?_)))))))))))
 refine rt (vb (b':=(decide ((ZW g c (Qc g).length).length=2))) rfl ?_)
 exact Q6 Iff.rfl
theorem QcK (n:Nat) (g:D.Grid) (c:Int) (hc:g.Cells.size≤maxLen):Pure (Qr Tryz.prog (n+6)) 162 [(T.agg (Qb false g)),(tI c)] (tB (decide (chk g c))):=by
 refine Pure.intro (rs:= [ResultVar.tmp 4]) Tryz.func162 rfl rfl rfl (E0:= [(0,(T.agg (Qb false g))),(1,(tI c))]) rfl ?_
 obtain ⟨hlim,hmx,hmax⟩:=QG
 refine sr (kO (B.box (ts:=(Qb false g)) (tv (T.agg (Qb false g)) rfl) nofun rfl) (fO (OF.assign (VEv.bool false)) (nt (sr (lO (OL.loadOn (us:=(Qb false g)) (tv (T.op 0 0) rfl) rfl Q3 QW (lb rfl) rfl) (mO (tI c) rfl (cO (OC.callF (us:= [(T.agg (Qb false g)),(tI c)]) (r:=(T.sl true 1 ((ZW g c (Qc g).length).map (Qa true)))) (r':=(T.os 1 1 0 (((ZW g c (Qc g).length).map (Qa true)).length))) (objs:= [(Obj.rows 1 ((ZW g c (Qc g).length).map (Qa true)))]) rfl (vc (tv (T.agg (Qb false g)) rfl) (vc (tv (tI c) rfl) vn)) (LendL.cons (lg Qv) (lp rfl ln)) (Qd9 (n+0) g c (by assumption)) rfl) (lO (B.lenO (m:=(ZW g c (Qc g).length).length) (tv (T.os 1 1 0 (((ZW g c (Qc g).length).map (Qa true)).length)) rfl) Zz (List.length_map ..)) (fO (B.eql (c:=(decide ((ZW g c (Qc g).length).length=2))) (tv (tN ((ZW g c (Qc g).length).length)) rfl) (VEv.int .i64 2) (Q6 (by omega))) (aO (tB (decide ((ZW g c (Qc g).length).length=2))) rfl (nt ?_)))))))))))
 refine rt (vb (b':=(decide ((ZW g c (Qc g).length).length=2))) rfl ?_)
 exact Q6 Iff.rfl
end Go.Proofs.YtcccmceoplcciaaGreat.AE
namespace Go.Proofs.YtcccmceoplcciaaGreat.AE
open Go Go.RowKit
set_option linter.unusedVariables false
set_option linter.unusedSimpArgs false
set_option maxRecDepth 20000
set_option maxHeartbeats 2000000
noncomputable section
def nUn (g:D.Grid) (l:List Int):Nat:=(l.filter fun c=> !decide (chk g c)).length
theorem Qhf (g:D.Grid) (l:List Int):nUn g l≤l.length:=List.length_filter_le _ _
theorem Qb0 {g:D.Grid} {l:List Int} {i:Nat} {x:Int} (h:l[i]? =some x):nUn g (l.take (i+1))=nUn g (l.take i)+(if chk g x then 0 else 1):=by
 unfold nUn
 rw [List.take_add_one,h,List.filter_append,List.length_append]
 by_cases hc:chk g x<;>simp [hc]
def unG (g:D.Grid) (slot:Int):Int:=if 0≤slot then (match (Qc g)[slot.toNat]? with | some s=>((nUn g (Qo g s s.Length.toNat):Nat):Int) | none=> -1) else -1
theorem Qjt {g:D.Grid} {slot:Int} (h:¬(0≤slot∧slot<(((Qc g).length:Nat):Int))):unG g slot= -1:=by
 unfold unG
 by_cases h1:0≤slot
 ·rw [if_pos h1,List.getElem?_eq_none (by omega)]
 ·rw [if_neg h1]
theorem Qka {g:D.Grid} {slot:Int} {s:D.Slot} (h1:0≤slot) (h:(Qc g)[slot.toNat]? =some s):unG g slot=((nUn g (Qo g s s.Length.toNat):Nat):Int):=by
 unfold unG
 rw [if_pos h1,h]
theorem QgL {α:Type} {l:List α} {i:Nat} (h1:i≤l.length) (h2:¬i<l.length):l.take i=l:=List.take_of_length_le (by omega)
theorem Qdd {α:Type} (l:List α) (i:Nat):(l.take i).length≤i:=by rw [List.length_take];omega
end
theorem QbI (n:Nat) (g:D.Grid) (slot:Int) (hc:g.Cells.size≤maxLen):Pure (Qr Tryz.prog (n+7)) 158 [(T.agg (Qb false g)),(tI slot)] (tI (unG g slot)):=by
 refine Pure.intro (rs:= [ResultVar.tmp 4]) Tryz.func158 rfl rfl rfl (E0:= [(0,(T.agg (Qb false g))),(1,(tI slot))]) rfl ?_
 obtain ⟨hlim,hmx,hmax⟩:=QG
 have hsl:=ZL g
 refine sr (kO (B.box (ts:=(Qb false g)) (tv (T.agg (Qb false g)) rfl) nofun rfl) (fO (OF.assign (VEv.int .i64 0)) (nt (sr (lO (OL.loadOn (us:=(Qb false g)) (tv (T.op 0 0) rfl) rfl Q3 QW (lb rfl) rfl) (cO (OC.callF (us:= [(T.agg (Qb false g))]) (r:=(T.sl true 4 ((Qc g).map (Qh true)))) (r':=(T.os 4 1 0 (((Qc g).map (Qh true)).length))) (objs:= [(Obj.rows 4 ((Qc g).map (Qh true)))]) rfl (vc (tv (T.agg (Qb false g)) rfl) vn) (LendL.cons (lg Qv) ln) (ZV (n+3) g (by assumption)) rfl) (aO (T.os 4 1 0 (((Qc g).map (Qh true)).length)) rfl (nt (sq (sr (mO (tI slot) rfl ?_)))))))))))
 refine mO (T.os 4 1 0 (((Qc g).map (Qh true)).length)) rfl (lO (B.lenO (m:=(Qc g).length) (tv (T.os 4 1 0 (((Qc g).map (Qh true)).length)) rfl) Z5 (List.length_map ..)) (fO (B.sub (n:=((((Qc g).length:Nat):Int) - 1)) (tv (tN ((Qc g).length)) rfl) (VEv.int .i64 1) (by (rw [Qt (by omega)];done))) (cO (cS (vc (tv (tI slot) rfl) (vc (VEv.int .i64 0) (vc (tv (tI ((((Qc g).length:Nat):Int) - 1)) rfl) vn))) (ZU rfl) (QO (n+5) slot 0 ((((Qc g).length:Nat):Int) - 1)) rfl rfl) (fO (QZ (tv (tB (decide (0≤slot∧slot≤((((Qc g).length:Nat):Int) - 1)))) rfl)) (nt ?_)))))
 refine cn (0≤slot∧slot≤((((Qc g).length:Nat):Int) - 1)) rfl (fun fhc0=> ?_) fun fhc0=> ?_
 ·refine sr ?_
  refine fO (OF.assign (VEv.int .i64 (-1))) (nt (rt (tr (vi (n':=(-1)) rfl ?_))))
  exact (Qjt (by omega)).symm
 have hs0:0≤slot:=by omega
 refine sk (tn (sq (VRun.draw (B:= [[],[],[],[2,1],[1,2,3],[3,2,1,4,0],[0,4,1,2,3,5]]) (by kernel_rfl) (by kernel_rfl) (lD (OL.loadOn (us:=(Qb false g)) (tv (T.op 0 0) rfl) rfl Q3 QW (lb rfl) rfl) rfl rfl (mD (T.os 4 1 0 (((Qc g).map (Qh true)).length)) rfl rfl (mD (tI slot) rfl rfl ?_))))))
 obtain ⟨x1,hx1⟩:∃x,(Qc g)[(Int.toNat slot)]? =some x:=⟨_,List.getElem?_eq_getElem (by omega)⟩
 refine fD (B.indexAddrO (i:=(Int.toNat slot)) (tv (T.os 4 1 0 (((Qc g).map (Qh true)).length)) rfl) (tv (tI slot) rfl) (by omega) (by (simp only [List.length_map];omega)) Z5 Zb QaP) rfl rfl (lD (OL.loadPn (us:=(Qh false x1)) (row:=(Qh true x1)) (tv (T.orp 4 1 (Int.toNat slot) 0) rfl) rfl (Qw _ hx1) Qc5 Zb (lb rfl) rfl (bc rfl (bc rfl (bc rfl (bc rfl bn))))) rfl rfl (VRunD.quiet (bi:= [3,2,1,4,0]) rfl VWant.always rfl rfl rfl bn (OC.callF (us:= [(T.agg (Qb false g)),(T.agg (Qh false x1))]) (r:=(T.sl true 1 ((if x1∈Qc g then Qo g x1 x1.Length.toNat else []).map (Qa true)))) (r':=(T.os 1 2 0 (((if x1∈Qc g then Qo g x1 x1.Length.toNat else []).map (Qa true)).length))) (objs:= [(Obj.rows 1 ((if x1∈Qc g then Qo g x1 x1.Length.toNat else []).map (Qa true)))]) rfl (vc (tv (T.agg (Qb false g)) rfl) (vc (tv (T.agg (Qh false x1)) rfl) vn)) (LendL.cons (lg Qv) (LendL.cons (lg okeSlot) ln)) (QaL (n+2) g x1 (by assumption)) rfl) (fD (OF.assign (tv (T.os 1 2 0 (((if x1∈Qc g then Qo g x1 x1.Length.toNat else []).map (Qa true)).length)) rfl)) rfl rfl (VRunD.nil (tn (sr (fO (OF.assign (VEv.int .i64 0)) (nt (sq (sr (fO (OF.assign (VEv.int .i64 0)) ?_)))))))))))
 refine nt (VRun.block ?_)
 refine VRun.loop (A:=Nat×Nat) (fun s_=> [(2,(T.op 0 0)),(4,(tN 0)),(6,(T.os 1 1 0 (((if x1∈Qc g then Qo g x1 x1.Length.toNat else []).map (Qa true)).length))),(7,(tN s_.2)),(8,(tN s_.1))]) (fun s_=>Q4 [(0,(Obj.cells (Qb false g))),(1,(Obj.rows 1 ((if x1∈Qc g then Qo g x1 x1.Length.toNat else []).map (Qa true))))]) 2 (fun s_=>s_.1≤(if x1∈Qc g then Qo g x1 x1.Length.toNat else []).length∧s_.2=nUn g ((if x1∈Qc g then Qo g x1 x1.Length.toNat else []).take s_.1)) (fun s_=>(if x1∈Qc g then Qo g x1 x1.Length.toNat else []).length - s_.1) ((0,0):Nat×Nat) ?_ (Wk.mk (fun k=>if k=1 then 2 else k) ?_ ?_ ?_) ?_
 ·exact ⟨Nat.zero_le _,rfl⟩
 ·exact (b2 (b2 (b2 (b2 (b2 bn)))))
 ·exact (b3 (b3 bn))
 ·exact nd rfl
 rintro ⟨i,m⟩ (hI':i≤(if x1∈Qc g then Qo g x1 x1.Length.toNat else []).length∧m=nUn g ((if x1∈Qc g then Qo g x1 x1.Length.toNat else []).take i))
 show VRun _ _ _ [(2,(T.op 0 0)),(4,(tN 0)),(6,(T.os 1 1 0 (((if x1∈Qc g then Qo g x1 x1.Length.toNat else []).map (Qa true)).length))),(7,(tN m)),(8,(tN i))] (Q4 [(0,(Obj.cells (Qb false g))),(1,(Obj.rows 1 ((if x1∈Qc g then Qo g x1 x1.Length.toNat else []).map (Qa true))))]) 2 _
 have hI1:=hI'.1
 have hl6:=Qib g x1
 have hn6:=Qhf g ((if x1∈Qc g then Qo g x1 x1.Length.toNat else []).take i)
 have ht6:=Qdd (if x1∈Qc g then Qo g x1 x1.Length.toNat else []) i
 have hI2:=hI'.2
 refine sq (sr (mO (tN i) rfl (mO (T.os 1 1 0 (((if x1∈Qc g then Qo g x1 x1.Length.toNat else []).map (Qa true)).length)) rfl (lO (B.lenO (m:=(if x1∈Qc g then Qo g x1 x1.Length.toNat else []).length) (tv (T.os 1 1 0 (((if x1∈Qc g then Qo g x1 x1.Length.toNat else []).map (Qa true)).length)) rfl) Zz (List.length_map ..)) (fO (Zn (tv (tN i) rfl) (tv (tN ((if x1∈Qc g then Qo g x1 x1.Length.toNat else []).length)) rfl)) (nt ?_))))))
 refine cd (i<(if x1∈Qc g then Qo g x1 x1.Length.toNat else []).length) rfl (fun fhc1=> ?_) fun fhc1=> ?_
 ·refine sk ?_
  refine tn (sq (VRun.block (sq (VRun.draw (B:= [[],[],[],[2,1],[1,2,3],[3,2,1,4,0],[0,4,1,2,3,5]]) (by kernel_rfl) (by kernel_rfl) (lD (OL.loadOn (us:=(Qb false g)) (tv (T.op 0 0) rfl) rfl Q3 QW (lb rfl) rfl) rfl rfl (mD (T.os 1 1 0 (((if x1∈Qc g then Qo g x1 x1.Length.toNat else []).map (Qa true)).length)) rfl rfl (mD (tN i) rfl rfl ?_)))))))
  obtain ⟨x2,hx2⟩:∃x,(if x1∈Qc g then Qo g x1 x1.Length.toNat else [])[i]? =some x:=⟨_,List.getElem?_eq_getElem (by omega)⟩
  refine fD (B.indexAddrO (i:=i) (tv (T.os 1 1 0 (((if x1∈Qc g then Qo g x1 x1.Length.toNat else []).map (Qa true)).length)) rfl) (tv (tN i) rfl) rfl (by (simp only [List.length_map];omega)) Zz Ze Yr) rfl rfl (lD (OL.loadP1 (t:=(tI x2)) (row:=(Qa true x2)) (tv (T.orp 1 1 i 0) rfl) rfl (Qw _ hx2) rfl rfl QR) rfl rfl (VRunD.quiet (bi:= [3,2,1,4,0]) rfl VWant.always rfl rfl rfl bn (cS (vc (tv (T.agg (Qb false g)) rfl) (vc (tv (tI x2) rfl) vn)) (LendL.cons (lg Qv) (lp rfl ln)) (QcE (n+0) g x2 (by assumption)) rfl rfl) (fD (QZ (tv (tB (decide (chk g x2))) rfl)) rfl rfl (VRunD.nil (tn ?_)))))
  refine cn (chk g x2) rfl (fun fhc2=> ?_) fun fhc2=> ?_
  ·refine VRun.region ?_
   refine mO (tN m) rfl (fO (QD (tv (tN m) rfl) (VEv.int .i64 1) (by omega)) (aO (tN (m+1)) rfl (VRunO.nil (vinB.n (tn (VRun.region (mO (tN i) rfl (fO (QD (tv (tN i) rfl) (VEv.int .i64 1) (by omega)) (aO (tN (i+1)) rfl (VRunO.nil (tn ?_)))))))))))
   refine ⟨((i+1,m+(if chk g x2 then 0 else 1)):Nat×Nat),?_,?_,Wk.mk (fun k=>k) ?_ ?_ ?_⟩
   ·exact ⟨by omega,by rw [Qb0 hx2,← hI2]⟩
   ·omega
   ·exact (b2 (b2 (b2 (bc ⟨(congrArg (T.int .i64) (show (((m+1):Nat):Int)=(((m+(if chk g x2 then 0 else 1)):Nat):Int) from (by (rw [if_neg fhc2];done)))),rfl⟩ (b2 bn)))))
   ·exact (b3 (b3 bn))
   ·exact nd rfl
  refine sk (vinB.n (tn (VRun.region (mO (tN i) rfl (fO (QD (tv (tN i) rfl) (VEv.int .i64 1) (by omega)) (aO (tN (i+1)) rfl (VRunO.nil (tn ?_))))))))
  refine ⟨((i+1,m+(if chk g x2 then 0 else 1)):Nat×Nat),?_,?_,Wk.mk (fun k=>k) ?_ ?_ ?_⟩
  ·exact ⟨by omega,by rw [Qb0 hx2,← hI2]⟩
  ·omega
  ·exact (b2 (b2 (b2 (bc ⟨(congrArg (T.int .i64) (show ((m:Nat):Int)=(((m+(if chk g x2 then 0 else 1)):Nat):Int) from (by (rw [if_pos fhc2];omega)))),rfl⟩ (b2 bn)))))
  ·exact (b3 (b3 bn))
  ·exact nd rfl
 refine VRun.exit (vthn.e (vthn.e (vinB.e (tn (sr (mO (tN m) rfl (aO (tN m) rfl (nt (rt (vi (n':=((m:Nat):Int)) rfl ?_))))))))))
 rw [Qka hs0 hx1,hI2,QgL hI1 fhc1,Qhj hx1]
theorem QbN (n:Nat) (g:D.Grid) (slot:Int) (hc:g.Cells.size≤maxLen):Pure (Qr Tryz.prog (n+7)) 138 [(T.agg (Qb false g)),(tI slot)] (tI (unG g slot)):=by
 refine Pure.intro (rs:= [ResultVar.tmp 4]) Tryz.func138 rfl rfl rfl (E0:= [(0,(T.agg (Qb false g))),(1,(tI slot))]) rfl ?_
 obtain ⟨hlim,hmx,hmax⟩:=QG
 have hsl:=ZL g
 have hll:=Qcm g
 refine sr (kO (B.box (ts:=(Qb false g)) (tv (T.agg (Qb false g)) rfl) nofun rfl) (fO (OF.assign (VEv.int .i64 0)) (nt (sr (lO (OL.loadOn (us:=(Qb false g)) (tv (T.op 0 0) rfl) rfl Q3 QW (lb rfl) rfl) (cO (OC.callF (us:= [(T.agg (Qb false g))]) (r:=(T.sl true 1 ((QP g).map ((YR 1 Qa) true)))) (r':=(T.os 1 1 0 (((QP g).map ((YR 1 Qa) true)).length))) (objs:= [(Obj.rows 1 ((QP g).map ((YR 1 Qa) true)))]) rfl (vc (tv (T.agg (Qb false g)) rfl) vn) (LendL.cons (lg Qv) ln) (J3 (n+2) g (by assumption)) rfl) (aO (T.os 1 1 0 (((QP g).map ((YR 1 Qa) true)).length)) rfl (nt (sq (sr (mO (tI slot) rfl ?_)))))))))))
 refine mO (T.os 1 1 0 (((QP g).map ((YR 1 Qa) true)).length)) rfl (lO (B.lenO (m:=(QP g).length) (tv (T.os 1 1 0 (((QP g).map ((YR 1 Qa) true)).length)) rfl) QfA (List.length_map ..)) (cO (cS (vc (tv (tI slot) rfl) (vc (tv (tN ((QP g).length)) rfl) vn)) (ZU rfl) (YS (n+5) slot (((QP g).length:Nat):Int)) rfl rfl) (fO (QZ (tv (tB (decide (0≤slot∧slot<(((QP g).length:Nat):Int)))) rfl)) (nt ?_))))
 refine cn (0≤slot∧slot<(((QP g).length:Nat):Int)) rfl (fun fhc0=> ?_) fun fhc0=> ?_
 ·refine sr ?_
  refine fO (OF.assign (VEv.int .i64 (-1))) (nt (rt (tr (vi (n':=(-1)) rfl ?_))))
  exact (Qjt (by omega)).symm
 refine sk (tn (sr (fO (OF.assign (VEv.int .i64 0)) (nt (sq (VRun.wk (Wk.freeze (sz:=1) (k:=1) (rows':=((QP g).map ((YR 1 Qa) false))) [5,10,12] (bc rfl (bc rfl (bc rfl bn))) rfl rfl ((QkH okInt).fzMap _ _)) ?_))))))
 have hs0:0≤slot:=by omega
 refine sr (mO (rd 1 (YR 1 Qa) (QP g)) rfl (mO (tI slot) rfl ?_))
 obtain ⟨x1,hx1⟩:∃x,(QP g)[(Int.toNat slot)]? =some x:=⟨_,List.getElem?_eq_getElem (by omega)⟩
 obtain ⟨y1,hy1,hq1⟩:=Qhx hx1
 refine fO (OF.indexAddrR (row:=((YR 1 Qa) false x1)) (i:=(Int.toNat slot)) (tv (rd 1 (YR 1 Qa) (QP g)) rfl) (tv (tI slot) rfl) (by omega) (Qw _ hx1) QfA Qbp QcT) (lO (OL.loadR1 (t:=(rd 1 Qa x1)) (tv (T.rp [(rd 1 Qa x1)]) rfl) rfl YZ) (lO (B.lenR (m:=x1.length) (tv (rd 1 Qa x1) rfl) Zz (List.length_map ..)) (fO (OF.move (VEv.int .i64 0)) (nt (VRun.block ?_)))))
 refine VRun.loop (A:=Nat×Nat) (fun s_=> [(2,(T.op 0 0)),(4,(tN 0)),(6,(tN s_.2)),(19,(rd 1 Qa x1)),(20,(tN x1.length)),(21,(tN s_.1))]) (fun s_=>Q4 [(0,(Obj.cells (Qb false g)))]) 1 (fun s_=>s_.1≤x1.length∧s_.2=nUn g (x1.take s_.1)) (fun s_=>x1.length - s_.1) ((0,0):Nat×Nat) ?_ (Wk.mk (fun k=>k) ?_ ?_ ?_) ?_
 ·exact ⟨Nat.zero_le _,rfl⟩
 ·exact (b2 (b2 (b2 (b2 (b2 (b2 bn))))))
 ·exact (b3 bn)
 ·exact nd rfl
 rintro ⟨i,m⟩ (hI':i≤x1.length∧m=nUn g (x1.take i))
 show VRun _ _ _ [(2,(T.op 0 0)),(4,(tN 0)),(6,(tN m)),(19,(rd 1 Qa x1)),(20,(tN x1.length)),(21,(tN i))] (Q4 [(0,(Obj.cells (Qb false g)))]) 1 _
 have hI1:=hI'.1
 have hl6:=QdB hy1
 rw [← hq1] at hl6
 have hn6:=Qhf g (x1.take i)
 have ht6:=Qdd x1 i
 have hI2:=hI'.2
 refine sr (fO (Zn (tv (tN i) rfl) (tv (tN x1.length) rfl)) (nt (sq ?_)))
 refine cd (i<x1.length) rfl (fun fhc1=> ?_) fun fhc1=> ?_
 ·refine sk ?_
  refine tn (sq (VRun.block (sr ?_)))
  obtain ⟨x2,hx2⟩:∃x,x1[i]? =some x:=⟨_,List.getElem?_eq_getElem (by omega)⟩
  skip
  refine fO (OF.indexAddrR (row:=(Qa false x2)) (i:=i) (tv (rd 1 Qa x1) rfl) (tv (tN i) rfl) rfl (Qw _ hx2) Zz Ze Yr) (lO (OL.loadR1 (t:=(tI x2)) (tv (T.rp [(tI x2)]) rfl) rfl QR) (aO (tI x2) rfl (nt (sr (lO (OL.loadOn (us:=(Qb false g)) (tv (T.op 0 0) rfl) rfl Q3 QW (lb rfl) rfl) (mO (tI x2) rfl (cO (cS (vc (tv (T.agg (Qb false g)) rfl) (vc (tv (tI x2) rfl) vn)) (LendL.cons (lg Qv) (lp rfl ln)) (QcK (n+0) g x2 (by assumption)) rfl rfl) (fO (QZ (tv (tB (decide (chk g x2))) rfl)) (nt ?_)))))))))
  refine cn (chk g x2) rfl (fun fhc2=> ?_) fun fhc2=> ?_
  ·refine VRun.region ?_
   refine mO (tN m) rfl (fO (QD (tv (tN m) rfl) (VEv.int .i64 1) (by omega)) (aO (tN (m+1)) rfl (VRunO.nil (vinB.n (tn (VRun.region (fO (QD (tv (tN i) rfl) (VEv.int .i64 1) (by omega)) (mO (tN (i+1)) rfl (VRunO.nil (tn ?_))))))))))
   refine ⟨((i+1,m+(if chk g x2 then 0 else 1)):Nat×Nat),?_,?_,Wk.mk (fun k=>k) ?_ ?_ ?_⟩
   ·exact ⟨by omega,by rw [Qb0 hx2,← hI2]⟩
   ·omega
   ·exact (b2 (b2 (bc ⟨(congrArg (T.int .i64) (show (((m+1):Nat):Int)=(((m+(if chk g x2 then 0 else 1)):Nat):Int) from (by (rw [if_neg fhc2];done)))),rfl⟩ (b2 (b2 (b2 bn))))))
   ·exact (b3 bn)
   ·exact nd rfl
  refine sk (vinB.n (tn (VRun.region (fO (QD (tv (tN i) rfl) (VEv.int .i64 1) (by omega)) (mO (tN (i+1)) rfl (VRunO.nil (tn ?_)))))))
  refine ⟨((i+1,m+(if chk g x2 then 0 else 1)):Nat×Nat),?_,?_,Wk.mk (fun k=>k) ?_ ?_ ?_⟩
  ·exact ⟨by omega,by rw [Qb0 hx2,← hI2]⟩
  ·omega
  ·exact (b2 (b2 (bc ⟨(congrArg (T.int .i64) (show ((m:Nat):Int)=(((m+(if chk g x2 then 0 else 1)):Nat):Int) from (by (rw [if_pos fhc2];omega)))),rfl⟩ (b2 (b2 (b2 bn))))))
  ·exact (b3 bn)
  ·exact nd rfl
 refine VRun.exit (vthn.e (vthn.e (vinB.e (tn (sr (mO (tN m) rfl (aO (tN m) rfl (nt (rt (vi (n':=((m:Nat):Int)) rfl ?_))))))))))
 rw [Qka hs0 hy1,hI2,QgL hI1 fhc1,hq1]
end Go.Proofs.YtcccmceoplcciaaGreat.AE
namespace Go.Proofs.YtcccmceoplcciaaGreat.AE
open Go Go.RowKit
set_option linter.unusedVariables false
set_option linter.unusedSimpArgs false
set_option maxRecDepth 20000
set_option maxHeartbeats 2000000
noncomputable section
def Qdv (g:D.Grid) (i:Nat) (s:D.Slot):Prop:=s.Length<2*unG g ((i:Nat):Int)
def Qil (g:D.Grid) (c:Int):Prop:=∃s∈Qc g,inS g c s
def Qag (g:D.Grid) (c:Nat):Prop:=Qx g.Cells c=46∧¬Qil g ((c:Nat):Int)
def Qa1 (g:D.Grid):Prop:=(∃i s,(Qc g)[i]? =some s∧Qdv g i s)∨∃c,c<g.Cells.size∧gridOk g∧Qag g c
instance (g:D.Grid):Decidable (Qa1 g):=Classical.propDecidable _
theorem Qh3 (g:D.Grid) (c:Int):∀(l:List D.Slot) (n:Nat),(atL g c l n).length=0↔¬∃s∈l,inS g c s
 | [],n=>by simp [atL]
 | x::r,n=>by
  have:=Qh3 g c r (n+1)
  rw [atL,List.length_append]
  by_cases h:inS g c x
  ·rw [if_pos h];simp [h]
  ·rw [if_neg h,List.length_nil,Nat.zero_add,this];simp [h]
theorem atG_none {g:D.Grid} {c:Int}:(ZW g c (Qc g).length).length=0↔¬Qil g c:=by
 unfold ZW
 rw [List.take_length]
 exact Qh3 g c _ _
theorem QjZ (g:D.Grid) (i:Int): -1≤unG g i∧unG g i≤6:=by
 unfold unG
 split
 ·split
  ·rename_i s hs
   have h1:=Qhf g (Qo g s s.Length.toNat)
   have h2:=QdB hs
   omega
  ·omega
 ·omega
def NoBad (g:D.Grid) (i:Nat):Prop:=i≤(Qc g).length∧∀j s,j<i→(Qc g)[j]? =some s→¬Qdv g j s
theorem NoBad.start (g:D.Grid):NoBad g 0:=⟨Nat.zero_le _,fun j s hj=>by omega⟩
theorem NoBad.next {g:D.Grid} {i:Nat} {s:D.Slot} (h:NoBad g i) (hx:(Qc g)[i]? =some s) (hn:¬Qdv g i s):NoBad g (i+1):=by
 have:=(List.getElem?_eq_some_iff.1 hx).1
 refine ⟨by omega,fun j y hj hy=> ?_⟩
 rcases Nat.lt_or_ge j i with h1 | h1
 ·exact h.2 j y h1 hy
 ·obtain rfl:j=i:=by omega
  rw [hx] at hy
  exact Option.some.inj hy▸hn
theorem Qja {g:D.Grid} {i:Nat} (h:NoBad g i) (hi:¬i<(Qc g).length) (h2:∀c,c<g.Cells.size→¬(gridOk g∧Qag g c)):¬Qa1 g:=by
 rintro (⟨j,s,h3,h4⟩ | ⟨c,h3,h4⟩)
 ·have:=(List.getElem?_eq_some_iff.1 h3).1
  exact h.2 j s (by omega) h3 h4
 ·exact h2 c h3 h4
def mapOf (m:List (Int×Int)) (p:Int→Prop):Prop:=∀c,(p c→QaW m c=1)∧(¬p c→QaW m c=0)
def Qe0 (g:D.Grid) (i:Nat) (c:Int):Prop:=∃x∈(QP g).take i,c∈x
theorem QiX (g:D.Grid) (c:Int):¬Qe0 g 0 c:=by rintro ⟨x,hx,_⟩;simp at hx
theorem QiP {g:D.Grid} {i:Nat} {x:List Int} (h:(QP g)[i]? =some x) (c:Int):Qe0 g (i+1) c↔Qe0 g i c∨c∈x:=by
 unfold Qe0
 rw [List.take_add_one,h]
 constructor
 ·rintro ⟨y,hy,hc⟩
  rcases List.mem_append.1 hy with hy | hy
  ·exact .inl ⟨y,hy,hc⟩
  ·obtain rfl:=List.mem_singleton.1 hy
   exact .inr hc
 ·rintro (⟨y,hy,hc⟩ | hc)
  ·exact ⟨y,List.mem_append_left _ hy,hc⟩
  ·exact ⟨x,List.mem_append_right _ (by simp),hc⟩
theorem Qb5 {g:D.Grid} {i:Nat} (h:¬i<(QP g).length) (c:Int):Qe0 g i c↔Qil g c:=by
 unfold Qe0 Qil
 rw [List.take_of_length_le (by omega)]
 unfold QP inS
 constructor
 ·rintro ⟨x,hx,hc⟩
  obtain ⟨s,hs,rfl⟩:=List.mem_map.1 hx
  exact ⟨s,hs,hc⟩
 ·rintro ⟨s,hs,hc⟩
  exact ⟨_,List.mem_map.2 ⟨s,hs,rfl⟩,hc⟩
theorem mapOf.congr {m:List (Int×Int)} {p q:Int→Prop} (h:mapOf m p) (e:∀c,p c↔q c):mapOf m q:=fun c=>by rw [← e c];exact h c
theorem mapOf.put {m:List (Int×Int)} {p:Int→Prop} {n:Int} (h:mapOf m p):mapOf (Qbo m n 1) (fun c=>p c∨c=n):=fun c=>by
 rw [Qgu]
 by_cases e:c=n
 ·rw [if_pos e];exact ⟨fun _=>rfl,fun h2=>absurd (.inr e) h2⟩
 ·rw [if_neg e]
  exact ⟨fun h2=>(h c).1 (h2.resolve_right e),fun h2=>(h c).2 fun h3=>h2 (.inl h3)⟩
theorem QeM {l:List Int} {i:Nat} {x:Int} (h:l[i]? =some x) (c:Int):c∈l.take (i+1)↔c∈l.take i∨c=x:=by
 rw [List.take_add_one,h]
 simp
def Qa0 (f:ByteArray) (c:Nat):Prop:=¬(97≤Qx f c∧Qx f c≤122)
def QfO (g:D.Grid) (f:ByteArray):Prop:=∃c,c<g.Cells.size∧Qag g c∧Qa0 f c
instance (g:D.Grid) (f:ByteArray):Decidable (QfO g f):=Classical.propDecidable _
end
theorem Qdz (n:Nat) (g:D.Grid) (hc:g.Cells.size≤maxLen):Pure (Qr Tryz.prog (n+8)) 135 [(T.agg (Qb false g))] (tB (decide (Qa1 g))):=by
 refine Pure.intro (rs:= [ResultVar.tmp 2]) Tryz.func135 rfl rfl rfl (E0:= [(0,(T.agg (Qb false g)))]) rfl ?_
 obtain ⟨hlim,hmx,hmax⟩:=QG
 have hsl:=ZL g
 refine sr (kO (B.box (ts:=(Qb false g)) (tv (T.agg (Qb false g)) rfl) nofun rfl) (fO (OF.assign (VEv.bool false)) (nt (sr (lO (OL.loadOn (us:=(Qb false g)) (tv (T.op 0 0) rfl) rfl Q3 QW (lb rfl) rfl) (cO (OC.callF (us:= [(T.agg (Qb false g))]) (r:=(T.sl true 4 ((Qc g).map (Qh true)))) (r':=(T.os 4 1 0 (((Qc g).map (Qh true)).length))) (objs:= [(Obj.rows 4 ((Qc g).map (Qh true)))]) rfl (vc (tv (T.agg (Qb false g)) rfl) vn) (LendL.cons (lg Qv) ln) (ZV (n+4) g (by assumption)) rfl) (aO (T.os 4 1 0 (((Qc g).map (Qh true)).length)) rfl (nt (sq (sr (fO (OF.assign (VEv.int .i64 0)) ?_)))))))))))
 refine nt (VRun.block ?_)
 refine VRun.loop (A:=Nat) (fun s_=> [(1,(T.op 0 0)),(3,(T.os 4 1 0 (((Qc g).map (Qh true)).length))),(4,(tN s_))]) (fun s_=>Q4 [(0,(Obj.cells (Qb false g))),(1,(Obj.rows 4 ((Qc g).map (Qh true))))]) 2 (fun s_=>NoBad g s_) (fun s_=>(Qc g).length - s_) (0:Nat) ?_ (Wk.mk (fun k=>k) ?_ ?_ ?_) ?_
 ·exact NoBad.start _
 ·exact (b2 (b2 (b2 bn)))
 ·exact (b3 (b3 bn))
 ·exact nd rfl
 rintro i (hI':NoBad g i)
 show VRun _ _ _ [(1,(T.op 0 0)),(3,(T.os 4 1 0 (((Qc g).map (Qh true)).length))),(4,(tN i))] (Q4 [(0,(Obj.cells (Qb false g))),(1,(Obj.rows 4 ((Qc g).map (Qh true))))]) 2 _
 have hI1:=hI'.1
 have hNB:=hI'
 have hub:=QjZ g ((i:Nat):Int)
 refine sq (sr (mO (tN i) rfl (mO (T.os 4 1 0 (((Qc g).map (Qh true)).length)) rfl (lO (B.lenO (m:=(Qc g).length) (tv (T.os 4 1 0 (((Qc g).map (Qh true)).length)) rfl) Z5 (List.length_map ..)) (fO (Zn (tv (tN i) rfl) (tv (tN ((Qc g).length)) rfl)) (nt ?_))))))
 refine cd (i<(Qc g).length) rfl (fun fhc0=> ?_) fun fhc0=> ?_
 ·refine sk ?_
  refine tn (sq (VRun.block (sq (VRun.draw (B:= [[],[],[1,0],[0,1,2],[],[],[5,4],[4,5,6],[6,5,4,7],[7,4,5,6,8,2,1,0,3]]) (by kernel_rfl) (by kernel_rfl) (lD (OL.loadOn (us:=(Qb false g)) (tv (T.op 0 0) rfl) rfl Q3 QW (lb rfl) rfl) rfl rfl (mD (tN i) rfl rfl (VRunD.quiet (bi:= [1,0]) rfl VWant.always rfl rfl rfl bn (cS (vc (tv (T.agg (Qb false g)) rfl) (vc (tv (tN i) rfl) vn)) (LendL.cons (lg Qv) (lp rfl ln)) (QbI (n+0) g ((i:Nat):Int) (by assumption)) rfl rfl) (fD (B.mul (n:=(2*unG g ((i:Nat):Int))) (VEv.int .i64 2) (tv (tI (unG g ((i:Nat):Int))) rfl) (by (rw [Qt (by omega)];done))) rfl rfl (mD (T.os 4 1 0 (((Qc g).map (Qh true)).length)) rfl rfl (mD (tN i) rfl rfl ?_))))))))))
  obtain ⟨x1,hx1⟩:∃x,(Qc g)[i]? =some x:=⟨_,List.getElem?_eq_getElem (by omega)⟩
  refine fD (B.indexAddrO (i:=i) (tv (T.os 4 1 0 (((Qc g).map (Qh true)).length)) rfl) (tv (tN i) rfl) rfl (by (simp only [List.length_map];omega)) Z5 Zb QaP) rfl rfl (fD (OF.fieldAddrP (tv (T.orp 4 1 i 0) rfl) QaA) rfl rfl (lD (OL.loadP1 (t:=(tI x1.Length)) (row:=(Qh true x1)) (tv (T.orp 4 1 i 3) rfl) rfl (Qw _ hx1) rfl rfl QR) rfl rfl (fD (xgt (tv (tI (2*unG g ((i:Nat):Int))) rfl) (tv (tI x1.Length) rfl)) rfl rfl (VRunD.nil (tn ?_)))))
  refine cd (x1.Length<(2*unG g ((i:Nat):Int))) rfl (fun fhc1=> ?_) fun fhc1=> ?_
  ·have q1:Qdv g i x1:=by unfold Qdv;omega
   refine sr (fO (OF.assign (VEv.bool true)) (nt (rt (vinB.r (tr (tr (vinB.r (tr (vb (b':=true) rfl ?_)))))))))
   symm;rw [decide_eq_true_eq];exact .inl ⟨i,x1,hx1,q1⟩
  have q1:¬Qdv g i x1:=by unfold Qdv;omega
  refine sk (vinB.n (tn (VRun.region (mO (tN i) rfl (fO (QD (tv (tN i) rfl) (VEv.int .i64 1) (by omega)) (aO (tN (i+1)) rfl (VRunO.nil (tn ?_))))))))
  refine ⟨(i+1:Nat),?_,?_,Wk.mk (fun k=>k) ?_ ?_ ?_⟩
  ·exact hI'.next hx1 q1
  ·omega
  ·exact (b2 (b2 (b2 bn)))
  ·exact (b3 (b3 bn))
  ·exact nd rfl
 refine VRun.exit (vthn.e (vthn.e (vinB.e (tn (sq (sr (fO (OF.assign (VEv.int .i64 0)) (nt (VRun.block ?_)))))))))
 refine VRun.loop (A:=Nat) (fun s_=> [(1,(T.op 0 0)),(5,(tN s_))]) (fun s_=>Q4 [(0,(Obj.cells (Qb false g)))]) 1 (fun s_=>s_≤g.Cells.size∧∀c,c<s_→¬(gridOk g∧Qag g c)) (fun s_=>g.Cells.size - s_) (0:Nat) ?_ (Wk.mk (fun k=>k) ?_ ?_ ?_) ?_
 ·exact ⟨Nat.zero_le _,fun c hc=>by omega⟩
 ·exact (b2 (b2 bn))
 ·exact (b3 bn)
 ·exact nd rfl
 rintro k (hI':k≤g.Cells.size∧∀c,c<k→¬(gridOk g∧Qag g c))
 show VRun _ _ _ [(1,(T.op 0 0)),(5,(tN k))] (Q4 [(0,(Obj.cells (Qb false g)))]) 1 _
 have hJ1:=hI'.1
 refine sq (sr (mO (tN k) rfl (lf (tS g.Cells) rfl QC rfl rfl Z6 (lO (B.lenS (tv (tS g.Cells) rfl) U9) (fO (Zn (tv (tN k) rfl) (tv (tN g.Cells.size) rfl)) (nt ?_))))))
 refine cd (k<g.Cells.size) rfl (fun fhc2=> ?_) fun fhc2=> ?_
 ·refine sk ?_
  refine tn (sq (VRun.block (sr (lO (OL.loadOn (us:=(Qb false g)) (tv (T.op 0 0) rfl) rfl Q3 QW (lb rfl) rfl) (mO (tN k) rfl (cO (cS (vc (tv (T.agg (Qb false g)) rfl) (vc (tv (tN k) rfl) vn)) (LendL.cons (lg Qv) (lp rfl ln)) (Qen (n+4) g ((k:Nat):Int) (by assumption)) rfl rfl) (mO (tB (decide (gridOk g∧(0≤((k:Nat):Int)∧((k:Nat):Int)≤((g.Cells.size:Nat):Int) - 1)∧Qx g.Cells (Int.toNat ((k:Nat):Int))=46))) rfl ?_)))))))
  refine gw (gridOk g∧(0≤((k:Nat):Int)∧((k:Nat):Int)≤((g.Cells.size:Nat):Int) - 1)∧Qx g.Cells (Int.toNat ((k:Nat):Int))=46) (fun fhg34_1=> ?_) fun fhg34_1=> ?_
  ·refine gL (dy fhg34_1) rfl rfl (OL.loadOn (us:=(Qb false g)) (tv (T.op 0 0) rfl) rfl Q3 QW (lb rfl) rfl) ?_
   refine gF (dy fhg34_1) rfl rfl (OF.move (tv (tN k) rfl)) (VRunO.chain (VWant.on rfl rfl (dy fhg34_1)) (OC.callF (us:= [(T.agg (Qb false g)),(tN k)]) (r:=(T.sl true 1 ((ZW g ((k:Nat):Int) (Qc g).length).map (Qa true)))) (r':=(T.os 1 1 0 (((ZW g ((k:Nat):Int) (Qc g).length).map (Qa true)).length))) (objs:= [(Obj.rows 1 ((ZW g ((k:Nat):Int) (Qc g).length).map (Qa true)))]) rfl (vc (tv (T.agg (Qb false g)) rfl) (vc (tv (tN k) rfl) vn)) (LendL.cons (lg Qv) (lp rfl ln)) (QaM (n+2) g ((k:Nat):Int) (by assumption)) rfl) (gL (dy fhg34_1) rfl rfl (B.lenO (m:=(ZW g ((k:Nat):Int) (Qc g).length).length) (tv (T.os 1 1 0 (((ZW g ((k:Nat):Int) (Qc g).length).map (Qa true)).length)) rfl) Zz (List.length_map ..)) (gF (dy fhg34_1) rfl rfl (B.eql (c:=(decide ((ZW g ((k:Nat):Int) (Qc g).length).length=0))) (tv (tN ((ZW g ((k:Nat):Int) (Qc g).length).length)) rfl) (VEv.int .i64 0) (Q6 (by omega))) (fO (OF.pickT (VEv.tmpB rfl (dy fhg34_1)) (tv (tB (decide ((ZW g ((k:Nat):Int) (Qc g).length).length=0))) rfl)) (nt ?_)))))
   refine cd ((ZW g ((k:Nat):Int) (Qc g).length).length=0) rfl (fun fhc3=> ?_) fun fhc3=> ?_
   ·refine sr ?_
    refine fO (OF.assign (VEv.bool true)) (nt (rt (vinB.r (tr (tr (vinB.r (tr (vb (b':=true) rfl ?_))))))))
    symm;rw [decide_eq_true_eq];exact .inr ⟨k,fhc2,fhg34_1.1,fhg34_1.2.2,atG_none.1 fhc3⟩
   refine sk (vinB.n (tn (VRun.region (mO (tN k) rfl (fO (QD (tv (tN k) rfl) (VEv.int .i64 1) (by omega)) (aO (tN (k+1)) rfl (VRunO.nil (tn ?_))))))))
   refine ⟨(k+1:Nat),?_,?_,Wk.mk (fun k=>k) ?_ ?_ ?_⟩
   ·exact QQ (ok:=fun c=>¬(gridOk g∧Qag g c)) hI' fhc2 (fun h=>fhc3 (atG_none.2 h.2.2))
   ·omega
   ·exact (b2 (b2 bn))
   ·exact (b3 bn)
   ·exact nd rfl
  refine QA 5 3 true 34 (dz fhg34_1) rfl rfl rfl (fO (OF.pickF (VEv.tmpB rfl (dz fhg34_1)) (VEv.bool false)) (nt (cf rfl (sk (vinB.n (tn (VRun.region (mO (tN k) rfl (fO (QD (tv (tN k) rfl) (VEv.int .i64 1) (by omega)) (aO (tN (k+1)) rfl (VRunO.nil ?_)))))))))))
  refine tn ?_
  refine ⟨(k+1:Nat),?_,?_,Wk.mk (fun k=>k) ?_ ?_ ?_⟩
  ·exact QQ (ok:=fun c=>¬(gridOk g∧Qag g c)) hI' fhc2 (fun h=>fhg34_1 ⟨h.1,⟨by omega,by omega⟩,h.2.1⟩)
  ·omega
  ·exact (b2 (b2 bn))
  ·exact (b3 bn)
  ·exact nd rfl
 refine VRun.exit (vthn.e (vthn.e (vinB.e (tn (sr (fO (OF.assign (VEv.bool false)) (nt (rt (vb (b':=false) rfl ?_)))))))))
 symm;rw [decide_eq_false_iff_not];exact Qja hNB fhc0 (Y8 (ok:=fun c=>¬(gridOk g∧Qag g c)) hI' fhc2)
theorem QfC (n:Nat) (g:D.Grid) (f:ByteArray) (hc:g.Cells.size≤maxLen) (hf:g.Cells.size≤f.size):Pure (Qr Tryz.prog (n+5)) 139 [(T.agg (Qb false g)),(tS f)] (tB (decide (QfO g f))):=by
 refine Pure.intro (rs:= [ResultVar.tmp 4]) Tryz.func139 rfl rfl rfl (E0:= [(0,(T.agg (Qb false g))),(1,(tS f))]) rfl ?_
 obtain ⟨hlim,hmx,hmax⟩:=QG
 have hsl:=ZL g
 have hll:=Qcm g
 refine sr (kO (B.box (ts:=(Qb false g)) (tv (T.agg (Qb false g)) rfl) nofun rfl) (fO (OF.assign (VEv.bool false)) (nt (sr (kO B.makeMap (aO (T.om 1) rfl (nt (sq (sr (lO (OL.loadOn (us:=(Qb false g)) (tv (T.op 0 0) rfl) rfl Q3 QW (lb rfl) rfl) (cO (OC.callF (us:= [(T.agg (Qb false g))]) (r:=(T.sl true 1 ((QP g).map ((YR 1 Qa) true)))) (r':=(T.os 1 2 0 (((QP g).map ((YR 1 Qa) true)).length))) (objs:= [(Obj.rows 1 ((QP g).map ((YR 1 Qa) true)))]) rfl (vc (tv (T.agg (Qb false g)) rfl) vn) (LendL.cons (lg Qv) ln) (J3 (n+0) g (by assumption)) rfl) ?_)))))))))))
 refine lO (B.lenO (m:=(QP g).length) (tv (T.os 1 2 0 (((QP g).map ((YR 1 Qa) true)).length)) rfl) QfA (List.length_map ..)) (fO (OF.move (VEv.int .i64 0)) (nt (VRun.block (VRun.wk (Wk.freeze (sz:=1) (k:=2) (rows':=((QP g).map ((YR 1 Qa) false))) [13] (bc rfl bn) rfl rfl ((QkH okInt).fzMap _ _)) ?_))))
 have he1:([]:List (Int×Int))= []:=by rfl
 refine VRun.loop (A:=Nat×(List (Int×Int))) (fun s_=> [(1,(tS f)),(2,(T.op 0 0)),(4,(tB false)),(5,(T.om 1)),(13,(rd 1 (YR 1 Qa) (QP g))),(14,(tN ((QP g).length))),(15,(tN s_.1))]) (fun s_=>Q4 [(0,(Obj.cells (Qb false g))),(1,(Obj.map (eM s_.2)))]) 2 (fun s_=>s_.1≤(QP g).length∧mapOf s_.2 (Qe0 g s_.1)) (fun s_=>(QP g).length - s_.1) ((0,[]):Nat×(List (Int×Int))) ?_ (Wk.mk (fun k=>k) ?_ ?_ ?_) ?_
 ·exact ⟨Nat.zero_le _,fun c=>⟨fun h=>absurd h (QiX g c),fun _=>rfl⟩⟩
 ·exact (b2 (b2 (b2 (b2 (b2 (b2 (b2 bn)))))))
 ·exact (b3 (bc ⟨(congrArg (fun l_=>some (Obj.map (eM l_))) he1),(lb rfl),rfl⟩ bn))
 ·exact nd rfl
 rintro ⟨i,m⟩ (hI':i≤(QP g).length∧mapOf m (Qe0 g i))
 show VRun _ _ _ [(1,(tS f)),(2,(T.op 0 0)),(4,(tB false)),(5,(T.om 1)),(13,(rd 1 (YR 1 Qa) (QP g))),(14,(tN ((QP g).length))),(15,(tN i))] (Q4 [(0,(Obj.cells (Qb false g))),(1,(Obj.map (eM m)))]) 2 _
 have hI1:=hI'.1
 have hM:=hI'.2
 refine sr (fO (Zn (tv (tN i) rfl) (tv (tN ((QP g).length)) rfl)) (nt (sq ?_)))
 refine cd (i<(QP g).length) rfl (fun fhc0=> ?_) fun fhc0=> ?_
 ·refine sk ?_
  refine tn (sq (VRun.block (sr ?_)))
  obtain ⟨x1,hx1⟩:∃x,(QP g)[i]? =some x:=⟨_,List.getElem?_eq_getElem (by omega)⟩
  obtain ⟨y1,hy1,hq1⟩:=Qhx hx1
  refine fO (OF.indexAddrR (row:=((YR 1 Qa) false x1)) (i:=i) (tv (rd 1 (YR 1 Qa) (QP g)) rfl) (tv (tN i) rfl) rfl (Qw _ hx1) QfA Qbp QcT) (lO (OL.loadR1 (t:=(rd 1 Qa x1)) (tv (T.rp [(rd 1 Qa x1)]) rfl) rfl YZ) (aO (rd 1 Qa x1) rfl (nt (sr (mO (rd 1 Qa x1) rfl (lO (B.lenR (m:=x1.length) (tv (rd 1 Qa x1) rfl) Zz (List.length_map ..)) (fO (OF.move (VEv.int .i64 0)) (nt (VRun.block ?_)))))))))
  refine VRun.loop (A:=Nat×(List (Int×Int))) (fun s_=> [(1,(tS f)),(2,(T.op 0 0)),(4,(tB false)),(5,(T.om 1)),(13,(rd 1 (YR 1 Qa) (QP g))),(14,(tN ((QP g).length))),(15,(tN i)),(19,(rd 1 Qa x1)),(20,(tN x1.length)),(21,(tN s_.1))]) (fun s_=>Q4 [(0,(Obj.cells (Qb false g))),(1,(Obj.map (eM s_.2)))]) 2 (fun s_=>s_.1≤x1.length∧mapOf s_.2 (fun c=>Qe0 g i c∨c∈x1.take s_.1)) (fun s_=>x1.length - s_.1) ((0,m):Nat×(List (Int×Int))) ?_ (Wk.mk (fun k=>k) ?_ ?_ ?_) ?_
  ·exact ⟨Nat.zero_le _,hM.congr fun c=>by simp⟩
  ·exact (b2 (b2 (b2 (b2 (b2 (b2 (b2 (b2 (b2 (b2 bn))))))))))
  ·exact (b3 (b3 bn))
  ·exact nd rfl
  rintro ⟨k,w⟩ (hI':k≤x1.length∧mapOf w (fun c=>Qe0 g i c∨c∈x1.take k))
  show VRun _ _ _ [(1,(tS f)),(2,(T.op 0 0)),(4,(tB false)),(5,(T.om 1)),(13,(rd 1 (YR 1 Qa) (QP g))),(14,(tN ((QP g).length))),(15,(tN i)),(19,(rd 1 Qa x1)),(20,(tN x1.length)),(21,(tN k))] (Q4 [(0,(Obj.cells (Qb false g))),(1,(Obj.map (eM w)))]) 2 _
  have hJ1:=hI'.1
  have hl6:=QdB hy1
  rw [← hq1] at hl6
  refine sr (fO (Zn (tv (tN k) rfl) (tv (tN x1.length) rfl)) (nt (sq ?_)))
  refine cd (k<x1.length) rfl (fun fhc1=> ?_) fun fhc1=> ?_
  ·refine sk ?_
   refine tn (sq (VRun.block (sr ?_)))
   obtain ⟨x2,hx2⟩:∃x,x1[k]? =some x:=⟨_,List.getElem?_eq_getElem (by omega)⟩
   skip
   refine fO (OF.indexAddrR (row:=(Qa false x2)) (i:=k) (tv (rd 1 Qa x1) rfl) (tv (tN k) rfl) rfl (Qw _ hx2) Zz Ze Yr) (lO (OL.loadR1 (t:=(tI x2)) (tv (T.rp [(tI x2)]) rfl) rfl QR) (aO (tI x2) rfl (nt (VRun.region (mO (T.om 1) rfl (mO (tI x2) rfl (cO (B.mapSet (l:=w) (l':=(Qbo w x2 1)) (tv (T.om 1) rfl) (tv (tI x2) rfl) (VEv.int .i64 1) rfl Qmu U3 rfl) (VRunO.nil (vinB.n (tn (VRun.region ?_)))))))))))
   refine fO (QD (tv (tN k) rfl) (VEv.int .i64 1) (by omega)) (mO (tN (k+1)) rfl (VRunO.nil (tn ?_)))
   refine ⟨((k+1,Qbo w x2 1):Nat×(List (Int×Int))),?_,?_,Wk.mk (fun k=>k) ?_ ?_ ?_⟩
   ·exact ⟨by omega,hI'.2.put.congr fun c=>by rw [QeM hx2,or_assoc]⟩
   ·omega
   ·exact (b2 (b2 (b2 (b2 (b2 (b2 (b2 (b2 (b2 (b2 bn))))))))))
   ·exact (b3 (b3 bn))
   ·exact nd rfl
  refine VRun.exit (vthn.e (vthn.e (vinB.e (vinB.n (tn (VRun.region (fO (QD (tv (tN i) rfl) (VEv.int .i64 1) (by omega)) (mO (tN (i+1)) rfl (VRunO.nil (tn ?_))))))))))
  refine ⟨((i+1,w):Nat×(List (Int×Int))),?_,?_,Wk.mk (fun k=>k) ?_ ?_ ?_⟩
  ·exact ⟨by omega,hI'.2.congr fun c=>by rw [QiP hx1,List.take_of_length_le (by omega)]⟩
  ·omega
  ·exact (b2 (b2 (b2 (b2 (b2 (b2 (b2 bn)))))))
  ·exact (b3 (b3 bn))
  ·exact nd rfl
 refine VRun.exit (vthn.e (vthn.e (vinB.e (tn (sq (sr (lf (tS g.Cells) rfl QC rfl rfl Z6 (lO (B.lenS (tv (tS g.Cells) rfl) U9) (fO (OF.move (VEv.int .i64 0)) (nt (VRun.block ?_)))))))))))
 refine VRun.loop (A:=Nat) (fun s_=> [(1,(tS f)),(2,(T.op 0 0)),(5,(T.om 1)),(31,(tN g.Cells.size)),(32,(tN s_))]) (fun s_=>Q4 [(0,(Obj.cells (Qb false g))),(1,(Obj.map (eM m)))]) 2 (fun s_=>s_≤g.Cells.size∧∀j,j<s_→¬(Qag g j∧Qa0 f j)) (fun s_=>g.Cells.size - s_) (0:Nat) ?_ (Wk.mk (fun k=>k) ?_ ?_ ?_) ?_
 ·exact ⟨Nat.zero_le _,fun c hc=>by omega⟩
 ·exact (b2 (b2 (b2 (b2 (b2 bn)))))
 ·exact (b3 (b3 bn))
 ·exact nd rfl
 rintro c (hI':c≤g.Cells.size∧∀j,j<c→¬(Qag g j∧Qa0 f j))
 show VRun _ _ _ [(1,(tS f)),(2,(T.op 0 0)),(5,(T.om 1)),(31,(tN g.Cells.size)),(32,(tN c))] (Q4 [(0,(Obj.cells (Qb false g))),(1,(Obj.map (eM m)))]) 2 _
 have hJ1:=hI'.1
 refine sr (fO (Zn (tv (tN c) rfl) (tv (tN g.Cells.size) rfl)) (nt (sq ?_)))
 refine cd (c<g.Cells.size) rfl (fun fhc2=> ?_) fun fhc2=> ?_
 ·refine sk ?_
  refine tn (sq (VRun.block (sr (mO (tN c) rfl (aO (tN c) rfl (nt (sr (lf (tS g.Cells) rfl QC rfl rfl Z6 (mO (tN c) rfl ?_)))))))))
  have hb2:c<g.Cells.size:=(by omega)
  refine fO (xix (tv (tS g.Cells) rfl) (tv (tN c) rfl) hb2 U9) (fO (Y4 (tv (T.int .u8 (Qx g.Cells c)) rfl) (VEv.int .u8 46)) (mO (tB (decide (Qx g.Cells c=46))) rfl ?_))
  refine gw (Qx g.Cells c=46) (fun fhg40_3=> ?_) fun fhg40_3=> ?_
  ·refine gF (dy fhg40_3) rfl rfl (OF.move (tv (T.om 1) rfl)) ?_
   refine gF (dy fhg40_3) rfl rfl (OF.move (tv (tN c) rfl)) (gL (dy fhg40_3) rfl rfl (B.mapGet (l:=m) (n:=((c:Nat):Int)) (tv (T.om 1) rfl) (tv (tN c) rfl) rfl Qmu U3 zo3) (gF (dy fhg40_3) rfl rfl (Y4 (tv (tI (QaW m ((c:Nat):Int))) rfl) (VEv.int .i64 0)) (fO (OF.pickT (VEv.tmpB rfl (dy fhg40_3)) (tv (tB (decide (QaW m ((c:Nat):Int)=0))) rfl)) (mO (tB (decide (QaW m ((c:Nat):Int)=0))) rfl ?_))))
   refine gw (QaW m ((c:Nat):Int)=0) (fun fhg46_4=> ?_) fun fhg46_4=> ?_
   ·refine gF (dy fhg46_4) rfl rfl (OF.move (tv (tS f) rfl)) ?_
    refine gF (dy fhg46_4) rfl rfl (OF.move (tv (tN c) rfl)) ?_
    have hb5:c<f.size:=(by omega)
    refine gF (dy fhg46_4) rfl rfl (xix (tv (tS f) rfl) (tv (tN c) rfl) hb5 U9) (VRunO.chain (VWant.on rfl rfl (dy fhg46_4)) (cS (vc (tv (T.int .u8 (Qx f c)) rfl) vn) (ZU rfl) (Y9 (n+3) (Qx f c)) rfl rfl) (gF (dy fhg46_4) rfl rfl (QZ (tv (tB (decide (97≤(Qx f c)∧(Qx f c)≤122))) rfl)) (fO (OF.pickT (VEv.tmpB rfl (dy fhg46_4)) (tv (tB (!(decide (97≤(Qx f c)∧(Qx f c)≤122)))) rfl)) (nt ?_))))
    refine cn (97≤(Qx f c)∧(Qx f c)≤122) rfl (fun fhc3=> ?_) fun fhc3=> ?_
    ·refine sr ?_
     refine fO (OF.assign (VEv.bool true)) (nt (rt (vinB.r (tr (tr (vinB.r (tr (vb (b':=true) rfl ?_))))))))
     symm;rw [decide_eq_true_eq];refine ⟨c,fhc2,⟨?_,fun h=> ?_⟩,?_⟩
     ·omega
     ·have hq:=(hM ((c:Nat):Int)).1 ((Qb5 fhc0 _).2 h);omega
     ·unfold Qa0;omega
    refine sk (vinB.n (tn (VRun.region (fO (QD (tv (tN c) rfl) (VEv.int .i64 1) (by omega)) (mO (tN (c+1)) rfl (VRunO.nil (tn ?_)))))))
    refine ⟨(c+1:Nat),?_,?_,Wk.mk (fun k=>k) ?_ ?_ ?_⟩
    ·refine QQ (ok:=fun j=>¬(Qag g j∧Qa0 f j)) hI' fhc2 ?_
     rintro ⟨⟨a1,a2⟩,a3⟩
     have hq:=(hM ((c:Nat):Int)).2 (fun h=>a2 ((Qb5 fhc0 _).1 h))
     unfold Qa0 at a3;omega
    ·omega
    ·exact (b2 (b2 (b2 (b2 (b2 bn)))))
    ·exact (b3 (b3 bn))
    ·exact nd rfl
   refine QA 5 11 true 46 (dz fhg46_4) rfl rfl rfl (fO (OF.pickF (VEv.tmpB rfl (dz fhg46_4)) (VEv.bool false)) (nt (cf rfl (sk (vinB.n (tn (VRun.region (fO (QD (tv (tN c) rfl) (VEv.int .i64 1) (by omega)) (mO (tN (c+1)) rfl (VRunO.nil (tn ?_)))))))))))
   refine ⟨(c+1:Nat),?_,?_,Wk.mk (fun k=>k) ?_ ?_ ?_⟩
   ·refine QQ (ok:=fun j=>¬(Qag g j∧Qa0 f j)) hI' fhc2 ?_
    rintro ⟨⟨a1,a2⟩,a3⟩
    have hq:=(hM ((c:Nat):Int)).2 (fun h=>a2 ((Qb5 fhc0 _).1 h))
    unfold Qa0 at a3;omega
   ·omega
   ·exact (b2 (b2 (b2 (b2 (b2 bn)))))
   ·exact (b3 (b3 bn))
   ·exact nd rfl
  refine QA 4 5 true 40 (dz fhg40_3) rfl rfl rfl (fO (OF.pickF (VEv.tmpB rfl (dz fhg40_3)) (VEv.bool false)) (mO (tB false) rfl (QA 5 11 true 46 (b:=false) rfl rfl rfl rfl (fO (OF.pickF (tv (tB false) rfl) (VEv.bool false)) (nt (cf rfl (sk (vinB.n (tn (VRun.region (fO (QD (tv (tN c) rfl) (VEv.int .i64 1) (by omega)) ?_)))))))))))
  refine mO (tN (c+1)) rfl (VRunO.nil (tn ?_))
  refine ⟨(c+1:Nat),?_,?_,Wk.mk (fun k=>k) ?_ ?_ ?_⟩
  ·refine QQ (ok:=fun j=>¬(Qag g j∧Qa0 f j)) hI' fhc2 ?_
   rintro ⟨⟨a1,a2⟩,a3⟩
   have hq:=(hM ((c:Nat):Int)).2 (fun h=>a2 ((Qb5 fhc0 _).1 h))
   unfold Qa0 at a3;omega
  ·omega
  ·exact (b2 (b2 (b2 (b2 (b2 bn)))))
  ·exact (b3 (b3 bn))
  ·exact nd rfl
 refine VRun.exit (vthn.e (vthn.e (vinB.e (tn (sr (fO (OF.assign (VEv.bool false)) (nt (rt (vb (b':=false) rfl ?_)))))))))
 symm;rw [decide_eq_false_iff_not];rintro ⟨c,h1,h2,h3⟩;exact hI'.2 c (by omega) ⟨h2,h3⟩
end Go.Proofs.YtcccmceoplcciaaGreat.AE
namespace Go.Proofs.YtcccmceoplcciaaGreat.AE
open Go Go.RowKit
set_option linter.unusedVariables false
set_option linter.unusedSimpArgs false
set_option maxRecDepth 20000
set_option maxHeartbeats 2000000
noncomputable section
def on (s:List Bool) (j:Nat):Bool:=s[j]?.getD false
theorem QjP {s:List Bool} {j:Nat} (h:on s j=true):j<s.length:=by
 rcases Nat.lt_or_ge j s.length with h1 | h1
 ·exact h1
 ·rw [on,List.getElem?_eq_none h1] at h;cases h
theorem Qcn {s:List Bool} {i j:Nat} (hi:i<s.length):on (s.set i true) j=(if j=i then true else on s j):=by
 unfold on
 rw [List.getElem?_set]
 by_cases h:i=j
 ·subst h;simp [hi]
 ·rw [if_neg h,if_neg (fun e=>h e.symm)]
theorem Qjv {s t:List Bool} (hl:s.length=t.length) (h:∀j,on s j=true↔on t j=true):s=t:=by
 refine List.ext_getElem? fun j=> ?_
 rcases Nat.lt_or_ge j s.length with h1 | h1
 ·have h2:j<t.length:=by omega
  have h3:=h j
  unfold on at h3
  rw [List.getElem?_eq_getElem h1,List.getElem?_eq_getElem h2] at h3 ⊢
  simp only [Option.getD_some] at h3
  rw [Bool.eq_iff_iff.2 h3]
 ·rw [List.getElem?_eq_none h1,List.getElem?_eq_none (by omega)]
theorem on_no {s:List Bool} {j:Nat}:on s j=false↔¬on s j=true:=by cases on s j<;>simp
def wG (g:D.Grid):Nat:=g.Cols.toNat
def adj (g:D.Grid) (i j:Nat):Prop:=(j=i+1∧i % wG g+1<wG g)∨(i=j+1∧j % wG g+1<wG g)∨j=i+wG g∨i=j+wG g
inductive Rch (g:D.Grid) (s:List Bool):Nat→Prop
 | base {j:Nat} (h:on s j=true):Rch g s j
 | step {i j:Nat} (h:Rch g s i) (ha:adj g i j) (hj:j<s.length) (hw:Qx g.Cells j=46):Rch g s j
instance (g:D.Grid) (s:List Bool) (j:Nat):Decidable (Rch g s j):=Classical.propDecidable _
def Q9 (g:D.Grid) (s:List Bool):List Bool:=(List.range s.length).map fun j=>decide (Rch g s j)
theorem Rch.lt {g:D.Grid} {s:List Bool} {j:Nat} (h:Rch g s j):j<s.length:=by
 cases h with
 | base h=>exact QjP h
 | step _ _ hj _=>exact hj
theorem QbA (g:D.Grid) (s:List Bool):(Q9 g s).length=s.length:=by simp [Q9]
theorem on_reachL {g:D.Grid} {s:List Bool} {j:Nat}:on (Q9 g s) j=true↔Rch g s j:=by
 unfold on Q9
 rw [List.getElem?_map]
 rcases Nat.lt_or_ge j s.length with h1 | h1
 ·rw [List.getElem?_eq_getElem (by simpa using h1),List.getElem_range]
  simp
 ·rw [List.getElem?_eq_none (by simpa using h1)]
  simp only [Option.map_none,Option.getD_none,Bool.false_eq_true,false_iff]
  intro h
  have:=h.lt
  omega
def Qjq (g:D.Grid) (s:List Bool) (i:Nat):Prop:=∃j,adj g j i∧on s j=true
theorem Qkk {i w:Nat} (h:0<i % w) (hw:i % w<w):(i - 1) % w+1=i % w∧1≤i:=by
 have h1:i % w≤i:=Nat.mod_le _ _
 have h2:=Nat.div_add_mod i w
 refine ⟨?_,by omega⟩
 have e:i - 1=(i % w - 1)+w*(i / w):=by omega
 rw [e,Nat.add_mul_mod_self_left,Nat.mod_eq_of_lt (by omega)]
 omega
theorem Qkh {i w:Nat} (h:i % w+1<w):(i+1) % w=i % w+1:=by
 have h2:=Nat.div_add_mod i w
 have e:i+1=(i % w+1)+w*(i / w):=by omega
 rw [e,Nat.add_mul_mod_self_left,Nat.mod_eq_of_lt h]
theorem QgT {g:D.Grid} {s:List Bool} {i:Nat} (hw:2≤g.Cols) (hl:i<s.length) :
  ((((0<i % g.Cols.toNat∧on s (i - 1)=true)∨(((i % g.Cols.toNat+1:Nat):Int)<g.Cols∧on s (i+1)=true))∨(g.Cols≤((i:Nat):Int)∧on s (i - g.Cols.toNat)=true))∨(i+g.Cols.toNat<s.length∧on s (i+g.Cols.toNat)=true))↔Qjq g s i:=by
 have hm:i % g.Cols.toNat<g.Cols.toNat:=Nat.mod_lt _ (by omega)
 constructor
 ·rintro (((⟨h1,h2⟩ | ⟨h1,h2⟩) | ⟨h1,h2⟩) | ⟨h1,h2⟩)
  ·obtain ⟨h3,h4⟩:=Qkk h1 hm
   exact ⟨i - 1, .inl ⟨by omega,by unfold wG;omega⟩,h2⟩
  ·exact ⟨i+1, .inr (.inl ⟨rfl,by unfold wG;omega⟩),h2⟩
  ·exact ⟨i - g.Cols.toNat, .inr (.inr (.inl (by unfold wG;omega))),h2⟩
  ·exact ⟨i+g.Cols.toNat, .inr (.inr (.inr (by unfold wG;omega))),h2⟩
 ·rintro ⟨j,(⟨h1,h2⟩ | ⟨h1,h2⟩ | h1 | h1),h3⟩
  ·refine .inl (.inl (.inl ⟨?_,by rw [show i - 1=j by omega];exact h3⟩))
   unfold wG at h2
   rw [h1,Qkh h2];omega
  ·refine .inl (.inl (.inr ⟨by unfold wG at h2;omega,by rw [← h1];exact h3⟩))
  ·unfold wG at h1
   refine .inl (.inr ⟨by omega,by rw [show i - g.Cols.toNat=j by omega];exact h3⟩)
  ·unfold wG at h1
   have:=QjP h3
   exact .inr ⟨by omega,by rw [← h1];exact h3⟩
def RS (g:D.Grid) (s0 s:List Bool):Prop:=s.length=s0.length∧(∀j,on s0 j=true→on s j=true)∧∀j,on s j=true→Rch g s0 j
theorem RS.start (g:D.Grid) (s:List Bool):RS g s s:=⟨rfl,fun _ h=>h,fun _ h=> .base h⟩
theorem RS.put {g:D.Grid} {s0 s:List Bool} {i:Nat} (h:RS g s0 s) (hi:i<s.length) (hw:Qx g.Cells i=46) (hn:Qjq g s i):RS g s0 (s.set i true):=by
 obtain ⟨h1,h2,h3⟩:=h
 refine ⟨by simpa using h1,fun j hj=> ?_,fun j hj=> ?_⟩
 ·rw [Qcn hi];split
  ·rfl
  ·exact h2 j hj
 ·rw [Qcn hi] at hj
  split at hj
  ·rename_i e
   subst e
   obtain ⟨k,hk,hk2⟩:=hn
   exact .step (h3 k hk2) hk (by omega) hw
  ·exact h3 j hj
def Qg2 (g:D.Grid) (s:List Bool) (i:Nat):Prop:=Qx g.Cells i=46∧on s i=false∧Qjq g s i
instance (g:D.Grid) (s:List Bool) (i:Nat):Decidable (Qg2 g s i):=Classical.propDecidable _
def YB (g:D.Grid) (s:List Bool) (i:Nat):List Bool:=if Qg2 g s i then s.set i true else s
def Qbv (g:D.Grid) (ag:Bool) (s:List Bool) (i:Nat):Bool:=if Qg2 g s i then true else ag
theorem Qi4 {g:D.Grid} {s:List Bool} {ag:Bool} {i:Nat} (h:Qg2 g s i):s.set i true=YB g s i∧true=Qbv g ag s i:=⟨(if_pos h).symm,(if_pos h).symm⟩
theorem Qic {g:D.Grid} {s:List Bool} {ag:Bool} {i:Nat} (h:¬Qg2 g s i):s=YB g s i∧ag=Qbv g ag s i:=⟨(if_neg h).symm,(if_neg h).symm⟩
def Inv1 (g:D.Grid) (s0 s:List Bool) (i:Nat) (s1:List Bool) (ag:Bool):Prop:=i≤s0.length∧RS g s0 s1∧(ag=false→s1=s∧∀j,j<i→¬Qg2 g s j)∧(ag=true→s1.count false<s.count false)∧s1.count false≤s.count false
theorem Inv1.start {g:D.Grid} {s0 s:List Bool} (h:RS g s0 s):Inv1 g s0 s 0 s false:=⟨Nat.zero_le _,h,fun _=>⟨rfl,fun j hj=>by omega⟩,(fun h=>by cases h),Nat.le_refl _⟩
theorem Qco {s:List Bool} {i:Nat} (hi:i<s.length) (h:on s i=false):(s.set i true).count false+1=s.count false:=by
 have h2:s[i]=false:=by
  unfold on at h
  rw [List.getElem?_eq_getElem hi] at h
  exact h
 have h3:0<s.count false:=List.count_pos_iff.2 (h2▸List.getElem_mem hi)
 rw [List.count_set hi]
 simp [h2]
 omega
theorem Inv1.next {g:D.Grid} {s0 s s1:List Bool} {i:Nat} {ag:Bool} (h:Inv1 g s0 s i s1 ag) (hi:i<s1.length):Inv1 g s0 s (i+1) (YB g s1 i) (Qbv g ag s1 i):=by
 obtain ⟨h1,h2,h3,h4,h5⟩:=h
 have hl:=h2.1
 unfold YB Qbv
 by_cases hw:Qg2 g s1 i
 ·rw [if_pos hw,if_pos hw]
  have hc:=Qco hi hw.2.1
  exact ⟨by omega,h2.put hi hw.1 hw.2.2,(fun e=>by cases e),(fun _=>by omega),by omega⟩
 ·rw [if_neg hw,if_neg hw]
  refine ⟨by omega,h2,fun e=> ?_,h4,h5⟩
  obtain ⟨h6,h7⟩:=h3 e
  subst h6
  refine ⟨rfl,fun j hj=> ?_⟩
  rcases Nat.lt_or_ge j i with g1 | g1
  ·exact h7 j g1
  ·obtain rfl:j=i:=by omega
   exact hw
def Inv0 (g:D.Grid) (s0 s:List Bool) (ag:Bool):Prop:=RS g s0 s∧(ag=false→∀j,j<s0.length→¬Qg2 g s j)
theorem Inv1.done {g:D.Grid} {s0 s s1:List Bool} {i:Nat} {ag:Bool} (h:Inv1 g s0 s i s1 ag) (hi:¬i<s1.length):Inv0 g s0 s1 ag:=by
 obtain ⟨h1,h2,h3,h4,h5⟩:=h
 have hl:=h2.1
 refine ⟨h2,fun e j hj=> ?_⟩
 obtain ⟨h6,h7⟩:=h3 e
 rw [h6]
 exact h7 j (by omega)
theorem Inv1.dec {g:D.Grid} {s0 s s1:List Bool} {i:Nat} {ag ag0:Bool} (h:Inv1 g s0 s i s1 ag) (h0:ag0=true):s1.count false+(if ag=true then 1 else 0)<s.count false+(if ag0=true then 1 else 0):=by
 obtain ⟨h1,h2,h3,h4,h5⟩:=h
 rw [if_pos h0]
 split
 ·rename_i e
  have:=h4 e
  omega
 ·omega
theorem Inv0.done {g:D.Grid} {s0 s:List Bool} {ag:Bool} (h:Inv0 g s0 s ag) (ha:¬ag=true):s=Q9 g s0:=by
 obtain ⟨⟨h1,h2,h3⟩,h4⟩:=h
 refine Qjv (by rw [QbA,h1]) fun j=> ?_
 rw [on_reachL]
 refine ⟨h3 j,fun hj=> ?_⟩
 have h5:=h4 (by cases ag<;>simp_all)
 induction hj with
 | base h=>exact h2 _ h
 | step h ha hj hw ih =>
  rename_i i k
  cases hk:on s k with
  | true=>rfl
  | false=>exact absurd ⟨hw,hk,i,ha,ih⟩ (h5 k hj)
end
theorem Qdy (n:Nat) (g:D.Grid) (seen:List Bool) (cell:Nat) (hg:gridOk g) (hc:cell<seen.length) (hs:seen.length=g.Cells.size):Loan (Qr Tryz.prog (n+1)) 182 1 (List.map (Qm true) seen) [(T.agg (Qb false g)),(T.os 1 0 0 ((seen.map (Qm true)).length)),(tN cell)] (T.os 1 0 0 (List.map (Qm true) (Q9 g (seen.set cell true))).length) (List.map (Qm true) (Q9 g (seen.set cell true))):=by
 refine Loan.intro (rs:= [ResultVar.tmp 6]) (j:=1) (pin:=(T.os 1 0 0 ((seen.map (Qm true)).length))) Tryz.func182 rfl rfl rfl (by kernel_rfl) rfl (.os _ _) (.os _ _) (Zl (fun _=>rfl) _) (Zl (fun _=>rfl) _) (E0:= [(0,(T.agg (Qb false g))),(1,(T.os 1 0 0 ((seen.map (Qm true)).length))),(2,(tN cell))]) rfl ?_
 obtain ⟨hlim,hmx,hmax⟩:=QG
 have hsz:=hg.size
 have hA:=hg.1
 have hB:=hg.2.1
 refine sr (kO (B.box (ts:=(Qb false g)) (tv (T.agg (Qb false g)) rfl) nofun rfl) (fO (OF.assign VEv.nils) (nt (sr (mO (T.os 1 0 0 ((seen.map (Qm true)).length)) rfl (mO (tN cell) rfl ?_))))))
 obtain ⟨x1,hx1⟩:∃x,seen[cell]? =some x:=⟨_,List.getElem?_eq_getElem (by omega)⟩
 skip
 refine fO (B.indexAddrO (i:=cell) (tv (T.os 1 0 0 ((seen.map (Qm true)).length)) rfl) (tv (tN cell) rfl) rfl (by (simp only [List.length_map];omega)) YT sz4 if4) (cO (B.storeP (us:= [(tB true)]) (rows':=((seen.set cell true).map (Qm true))) (row:=(Qm true x1)) (tv (T.orp 1 0 cell 0) rfl) (VEv.bool true) nofun rfl (Qw _ hx1) rfl (lb rfl) if4 sz4 (bc rfl bn) (by intro r hr t ht;obtain ⟨x,_,rfl⟩:=List.mem_map.1 hr;rw [QfB] at ht;exact ZD (okBool.pl _ t ht)) (Zy rfl)) (nt (sq (sr (fO (OF.assign (VEv.bool true)) (nt (VRun.block ?_)))))))
 refine VRun.loop (A:=Bool×(List Bool)) (fun s_=> [(1,(T.os 1 1 0 ((s_.2.map (Qm true)).length))),(3,(T.op 0 0)),(6,T.nils),(7,(tB s_.1))]) (fun s_=>Q4 [(0,(Obj.cells (Qb false g))),(1,(Obj.rows 1 (s_.2.map (Qm true))))]) 2 (fun s_=>Inv0 g (seen.set cell true) s_.2 s_.1) (fun s_=>s_.2.count false+(if s_.1=true then 1 else 0)) ((true,seen.set cell true):Bool×(List Bool)) ?_ (Wk.mk (fun k=>if k=0 then 1 else if k=1 then 0 else k) ?_ ?_ ?_) ?_
 ·exact ⟨RS.start _ _,fun h=>by cases h⟩
 ·exact (bc ⟨(congrArg (fun n_=>T.os 1 0 0 n_) (show (seen.map (Qm true)).length=((seen.set cell true).map (Qm true)).length from (by (simp;done)))),rfl⟩ (b2 (b2 (b2 bn))))
 ·exact (b3 (b3 bn))
 ·exact nd rfl
 rintro ⟨ag,s⟩ (hI':Inv0 g (seen.set cell true) s ag)
 show VRun _ _ _ [(1,(T.os 1 1 0 ((s.map (Qm true)).length))),(3,(T.op 0 0)),(6,T.nils),(7,(tB ag))] (Q4 [(0,(Obj.cells (Qb false g))),(1,(Obj.rows 1 (s.map (Qm true))))]) 2 _
 have hI1:=hI'
 have hl0:s.length=g.Cells.size:=by have:=hI'.1.1;rw [List.length_set] at this;omega
 refine sq (sr (mO (tB ag) rfl (nt ?_)))
 refine VRun.cond (tv (tB ag) rfl) (fun hc0=> ?_) (fun hc0=> ?_)
 ·have fhc0:ag=true:=hc0
  refine sk (tn (VRun.block (sr (fO (OF.assign (VEv.bool false)) (nt (sr (fO (OF.assign (VEv.int .i64 0)) (nt (VRun.block ?_)))))))))
  refine VRun.loop (A:=Nat×(List Bool)×Bool) (fun s_=> [(1,(T.os 1 1 0 ((s_.2.1.map (Qm true)).length))),(3,(T.op 0 0)),(6,T.nils),(7,(tB s_.2.2)),(8,(tN s_.1))]) (fun s_=>Q4 [(0,(Obj.cells (Qb false g))),(1,(Obj.rows 1 (s_.2.1.map (Qm true))))]) 2 (fun s_=>Inv1 g (seen.set cell true) s s_.1 s_.2.1 s_.2.2) (fun s_=>s_.2.1.length - s_.1) ((0,s,false):Nat×(List Bool)×Bool) ?_ (Wk.mk (fun k=>k) ?_ ?_ ?_) ?_
  ·exact Inv1.start hI1.1
  ·exact (b2 (b2 (b2 (b2 (b2 bn)))))
  ·exact (b3 (b3 bn))
  ·exact nd rfl
  rintro ⟨i,s1,ag1⟩ (hI':Inv1 g (seen.set cell true) s i s1 ag1)
  show VRun _ _ _ [(1,(T.os 1 1 0 ((s1.map (Qm true)).length))),(3,(T.op 0 0)),(6,T.nils),(7,(tB ag1)),(8,(tN i))] (Q4 [(0,(Obj.cells (Qb false g))),(1,(Obj.rows 1 (s1.map (Qm true))))]) 2 _
  have hJ1:=hI'.1
  have hl1:s1.length=g.Cells.size:=by have:=hI'.2.1.1;rw [List.length_set] at this;omega
  refine sq (sr (mO (tN i) rfl (mO (T.os 1 1 0 ((s1.map (Qm true)).length)) rfl (lO (B.lenO (m:=s1.length) (tv (T.os 1 1 0 ((s1.map (Qm true)).length)) rfl) YT (List.length_map ..)) (fO (Zn (tv (tN i) rfl) (tv (tN s1.length) rfl)) (nt ?_))))))
  refine cd (i<s1.length) rfl (fun fhc1=> ?_) fun fhc1=> ?_
  ·refine sk ?_
   refine tn (sq (VRun.block (sq (sr (mO (T.os 1 1 0 ((s1.map (Qm true)).length)) rfl (mO (tN i) rfl ?_))))))
   obtain ⟨x2,hx2⟩:∃x,s1[i]? =some x:=⟨_,List.getElem?_eq_getElem (by omega)⟩
   (have e2:on s1 i=x2:=by rw [on,hx2];rfl)
   refine fO (B.indexAddrO (i:=i) (tv (T.os 1 1 0 ((s1.map (Qm true)).length)) rfl) (tv (tN i) rfl) rfl (by (simp only [List.length_map];omega)) YT sz4 if4) (lO (OL.loadP1 (t:=(tB x2)) (row:=(Qm true x2)) (tv (T.orp 1 1 i 0) rfl) rfl (Qw _ hx2) rfl rfl st4) (mO (tB x2) rfl ?_))
   refine VRunO.joinB 6 [26,27,28,29,30] 31 (tB (decide ((x2=true)∨(¬(Qx g.Cells i=46))))) ?_ ?_
   ·refine Qck x2 (fun hg25_1=> ?_) (fun hg25_1=> ?_)
    ·have fhg25_1:x2=true:=hg25_1
     refine QA 5 4 false 25 hg25_1 rfl rfl rfl (fO (OF.pickT (VEv.tmpB rfl hg25_1) (VEv.bool true)) (VRunO.nil ?_))
     exact jq (congrArg T.bool (jOT (dT _) hg25_1)) (js rfl (js rfl (js rfl (js rfl (js rfl (jn))))))
    ·have fhg25_1:x2=false:=hg25_1
     refine Yg (tS g.Cells) hg25_1 rfl rfl rfl rfl QC rfl rfl Z6 (gF hg25_1 rfl rfl (OF.move (tv (tN i) rfl)) ?_)
     have hb2:i<g.Cells.size:=(by omega)
     refine gF hg25_1 rfl rfl (xix (tv (tS g.Cells) rfl) (tv (tN i) rfl) hb2 U9) (gF hg25_1 rfl rfl (xne (tv (T.int .u8 (Qx g.Cells i)) rfl) (VEv.int .u8 46)) (fO (OF.pickF (VEv.tmpB rfl hg25_1) (tv (tB (!(decide (Qx g.Cells i=46)))) rfl)) (VRunO.nil ?_)))
     exact jq (congrArg T.bool (jOF (dT _) hg25_1 dN)) (js rfl (js rfl (js rfl (js rfl (js rfl (jn))))))
   refine nt ?_
   refine cd ((x2=true)∨(¬(Qx g.Cells i=46))) rfl (fun fhc2=> ?_) fun fhc2=> ?_
   ·have q1:=Qic (g:=g) (s:=s1) (ag:=ag1) (i:=i) (by rintro ⟨h1,h2,h3⟩;rw [e2] at h2;rcases fhc2 with h4 | h4;rw [h2] at h4;cases h4;exact h4 h1)
    refine VRun.exit (vthn.e (vinB.e (tn (VRun.region (mO (tN i) rfl (fO (QD (tv (tN i) rfl) (VEv.int .i64 1) (by omega)) (aO (tN (i+1)) rfl (VRunO.nil (tn ?_)))))))))
    have he3:s1=(YB g s1 i):=by exact q1.1
    refine ⟨((i+1,YB g s1 i,Qbv g ag1 s1 i):Nat×(List Bool)×Bool),?_,?_,Wk.mk (fun k=>k) ?_ ?_ ?_⟩
    ·exact hI'.next fhc1
    ·show (YB g s1 i).length - (i+1)<s1.length - i
     have e1:(YB g s1 i).length=s1.length:=by unfold YB;split<;>simp
     rw [e1];omega
    ·exact (bc ⟨(congrArg (fun l_=>T.os 1 1 0 (List.map (Qm true) l_).length) he3),rfl⟩ (b2 (b2 (bc ⟨(congrArg T.bool (show ag1=(Qbv g ag1 s1 i) from (by exact q1.2))),rfl⟩ (b2 bn)))))
    ·exact (b3 (bc ⟨(congrArg (fun l_=>some (Obj.rows 1 (List.map (Qm true) l_))) he3),(lb rfl),rfl⟩ bn))
    ·exact nd rfl
   refine sk (tn ?_)
   have hci:=Qcb hg (show i<g.Cells.size by omega)
   obtain ⟨m,hm⟩:∃m,m=i % g.Cols.toNat:=⟨_,rfl⟩
   have hq1:0<m→1≤i:=by rw [hm];exact hci.2.1
   have hm6:m<g.Cols.toNat:=by rw [hm];exact hci.1.1
   have hq4:((m+1:Nat):Int)<g.Cols→i+1<g.Cells.size:=by rw [hm];exact hci.2.2.2.1 1
   clear hci
   refine sr (mO (tN i) rfl (lf (tI g.Cols) rfl Zd rfl rfl QR (fO (B.rem (n:=((m:Nat):Int)) (tv (tN i) rfl) (tv (tI g.Cols) rfl) (by omega) (by (rw [hm];refine Qkx ?_;omega))) (aO (tN m) rfl (nt (sr (mO (tN m) rfl (fO (B.gtr (c:=(decide (0<m))) (tv (tN m) rfl) (VEv.int .i64 0) (by exact Q6 (by omega))) (mO (tB (decide (0<m))) rfl ?_)))))))))
   refine VRunO.joinB 6 [39,40,41,42,43] 44 (tB (decide ((0<m)∧((s1[i - 1]?.getD false)=true)))) ?_ ?_
   ·refine gw (0<m) (fun fhg38_4=> ?_) fun fhg38_4=> ?_
    ·refine gF (dy fhg38_4) rfl rfl (OF.move (tv (T.os 1 1 0 ((s1.map (Qm true)).length)) rfl)) ?_
     refine gF (dy fhg38_4) rfl rfl (OF.move (tv (tN i) rfl)) (gF (dy fhg38_4) rfl rfl (B.sub (n:=((i - 1:Nat):Int)) (tv (tN i) rfl) (VEv.int .i64 1) (by (rw [Qt (by omega)];omega))) ?_)
     have hy5:s1[i - 1]? =some (s1[i - 1]?.getD false):=JR false (by omega)
     refine gF (dy fhg38_4) rfl rfl (B.indexAddrO (i:=i - 1) (tv (T.os 1 1 0 ((s1.map (Qm true)).length)) rfl) (tv (tN (i - 1)) rfl) rfl (by (simp only [List.length_map];omega)) YT sz4 if4) (gL (dy fhg38_4) rfl rfl (OL.loadP1 (t:=(tB (s1[i - 1]?.getD false))) (row:=(Qm true (s1[i - 1]?.getD false))) (tv (T.orp 1 1 (i - 1) 0) rfl) rfl (Qw _ hy5) rfl rfl st4) (fO (OF.pickT (VEv.tmpB rfl (dy fhg38_4)) (tv (tB (s1[i - 1]?.getD false)) rfl)) (VRunO.nil ?_)))
     exact jq (congrArg T.bool (kAT fhg38_4 (dT _))) (js rfl (js rfl (js rfl (js rfl (js rfl (jn))))))
    ·refine QA 5 2 true 38 (dz fhg38_4) rfl rfl rfl ?_
     refine fO (OF.pickF (VEv.tmpB rfl (dz fhg38_4)) (VEv.bool false)) (VRunO.nil ?_)
     exact jq (congrArg T.bool (kAF fhg38_4)) (js rfl (js rfl (js rfl (js rfl (js rfl (jn))))))
   refine mO (tB (decide ((0<m)∧((s1[i - 1]?.getD false)=true)))) rfl ?_
   refine VRunO.joinB 13 [46,47,48,49,50,51,52,53,54,55,56,57] 58 (tB (decide (((0<m)∧((s1[i - 1]?.getD false)=true))∨(((((m+1):Nat):Int)<g.Cols)∧((s1[(i+1)]?.getD false)=true))))) ?_ ?_
   ·refine gw ((0<m)∧((s1[i - 1]?.getD false)=true)) (fun fhg45_6=> ?_) fun fhg45_6=> ?_
    ·refine QA 6 9 false 45 (dy fhg45_6) rfl rfl rfl ?_
     refine JZ 5 15 true 51 rfl rfl rfl (oO rfl rfl (dy fhg45_6) (fO (OF.pickT (VEv.tmpB rfl (dy fhg45_6)) (VEv.bool true)) (VRunO.nil ?_)))
     exact jq (congrArg T.bool (kOT fhg45_6)) (js rfl (js rfl (js rfl (js rfl (js rfl (js rfl (js rfl (js rfl (js rfl (js rfl (js rfl (js rfl (jn)))))))))))))
    ·refine gF (dz fhg45_6) rfl rfl (OF.move (tv (tN m) rfl)) ?_
     refine gF (dz fhg45_6) rfl rfl (QD (tv (tN m) rfl) (VEv.int .i64 1) (by omega)) (Yg (tI g.Cols) (dz fhg45_6) rfl rfl rfl rfl Zd rfl rfl QR (gF (dz fhg45_6) rfl rfl (xls (tv (tN (m+1)) rfl) (tv (tI g.Cols) rfl)) (gF (dz fhg45_6) rfl rfl (OF.move (tv (tB (decide ((((m+1):Nat):Int)<g.Cols))) rfl)) ?_)))
     refine VRunO.joinB 6 [52,53,54,55,56] 57 (tB (decide (((((m+1):Nat):Int)<g.Cols)∧((s1[(i+1)]?.getD false)=true)))) ?_ ?_
     ·refine gw ((((m+1):Nat):Int)<g.Cols) (fun fhg51_7=> ?_) fun fhg51_7=> ?_
      ·refine gF (dy fhg51_7) rfl rfl (OF.move (tv (T.os 1 1 0 ((s1.map (Qm true)).length)) rfl)) ?_
       refine gF (dy fhg51_7) rfl rfl (OF.move (tv (tN i) rfl)) (gF (dy fhg51_7) rfl rfl (QD (tv (tN i) rfl) (VEv.int .i64 1) (by omega)) ?_)
       have hy8:s1[(i+1)]? =some (s1[(i+1)]?.getD false):=JR false (by omega)
       refine gF (dy fhg51_7) rfl rfl (B.indexAddrO (i:=(i+1)) (tv (T.os 1 1 0 ((s1.map (Qm true)).length)) rfl) (tv (tN (i+1)) rfl) rfl (by (simp only [List.length_map];omega)) YT sz4 if4) (gL (dy fhg51_7) rfl rfl (OL.loadP1 (t:=(tB (s1[(i+1)]?.getD false))) (row:=(Qm true (s1[(i+1)]?.getD false))) (tv (T.orp 1 1 (i+1) 0) rfl) rfl (Qw _ hy8) rfl rfl st4) (gF (dz fhg45_6) rfl rfl (OF.pickT (VEv.tmpB rfl (dy fhg51_7)) (tv (tB (s1[(i+1)]?.getD false)) rfl)) (VRunO.nil ?_)))
       exact jq (congrArg T.bool (kAT fhg51_7 (dT _))) (js rfl (js rfl (js rfl (js rfl (js rfl (jn))))))
      ·refine QA 5 15 true 51 (dz fhg51_7) rfl rfl rfl ?_
       refine gF (dz fhg45_6) rfl rfl (OF.pickF (VEv.tmpB rfl (dz fhg51_7)) (VEv.bool false)) (VRunO.nil ?_)
       exact jq (congrArg T.bool (kAF fhg51_7)) (js rfl (js rfl (js rfl (js rfl (js rfl (jn))))))
     refine fO (OF.pickF (VEv.tmpB rfl (dz fhg45_6)) (tv (tB (decide (((((m+1):Nat):Int)<g.Cols)∧((s1[(i+1)]?.getD false)=true)))) rfl)) (VRunO.nil ?_)
     exact jq (congrArg T.bool (kOF fhg45_6 rfl)) (js rfl (js rfl (js rfl (js rfl (js rfl (js rfl (js rfl (js rfl (js rfl (js rfl (js rfl (js rfl (jn)))))))))))))
   refine mO (tB (decide (((0<m)∧((s1[i - 1]?.getD false)=true))∨(((((m+1):Nat):Int)<g.Cols)∧((s1[(i+1)]?.getD false)=true))))) rfl ?_
   refine VRunO.joinB 14 [60,61,62,63,64,65,66,67,68,69,70,71,72] 73 (tB (decide ((((0<m)∧((s1[i - 1]?.getD false)=true))∨(((((m+1):Nat):Int)<g.Cols)∧((s1[(i+1)]?.getD false)=true)))∨((g.Cols≤((i:Nat):Int))∧((s1[i - g.Cols.toNat]?.getD false)=true))))) ?_ ?_
   ·refine gw (((0<m)∧((s1[i - 1]?.getD false)=true))∨(((((m+1):Nat):Int)<g.Cols)∧((s1[(i+1)]?.getD false)=true))) (fun fhg59_9=> ?_) fun fhg59_9=> ?_
    ·refine QA 5 23 false 59 (dy fhg59_9) rfl rfl rfl ?_
     refine JZ 7 28 true 64 rfl rfl rfl (oO rfl rfl (dy fhg59_9) (fO (OF.pickT (VEv.tmpB rfl (dy fhg59_9)) (VEv.bool true)) (VRunO.nil ?_)))
     exact jq (congrArg T.bool (kOT fhg59_9)) (js rfl (js rfl (js rfl (js rfl (js rfl (js rfl (js rfl (js rfl (js rfl (js rfl (js rfl (js rfl (js rfl (jn))))))))))))))
    ·refine gF (dz fhg59_9) rfl rfl (OF.move (tv (tN i) rfl)) ?_
     refine Yg (tI g.Cols) (dz fhg59_9) rfl rfl rfl rfl Zd rfl rfl QR (gF (dz fhg59_9) rfl rfl (xge (tv (tN i) rfl) (tv (tI g.Cols) rfl)) (gF (dz fhg59_9) rfl rfl (OF.move (tv (tB (decide (g.Cols≤((i:Nat):Int)))) rfl)) ?_))
     refine VRunO.joinB 8 [65,66,67,68,69,70,71] 72 (tB (decide ((g.Cols≤((i:Nat):Int))∧((s1[i - g.Cols.toNat]?.getD false)=true)))) ?_ ?_
     ·refine gw (g.Cols≤((i:Nat):Int)) (fun fhg64_10=> ?_) fun fhg64_10=> ?_
      ·refine gF (dy fhg64_10) rfl rfl (OF.move (tv (T.os 1 1 0 ((s1.map (Qm true)).length)) rfl)) ?_
       refine gF (dy fhg64_10) rfl rfl (OF.move (tv (tN i) rfl)) (Yg (tI g.Cols) (dy fhg64_10) rfl rfl rfl rfl Zd rfl rfl QR (gF (dy fhg64_10) rfl rfl (B.sub (n:=((i - g.Cols.toNat:Nat):Int)) (tv (tN i) rfl) (tv (tI g.Cols) rfl) (by (rw [Qt (by omega)];omega))) ?_))
       have hy11:s1[i - g.Cols.toNat]? =some (s1[i - g.Cols.toNat]?.getD false):=JR false (by omega)
       refine gF (dy fhg64_10) rfl rfl (B.indexAddrO (i:=i - g.Cols.toNat) (tv (T.os 1 1 0 ((s1.map (Qm true)).length)) rfl) (tv (tN (i - g.Cols.toNat)) rfl) rfl (by (simp only [List.length_map];omega)) YT sz4 if4) (gL (dy fhg64_10) rfl rfl (OL.loadP1 (t:=(tB (s1[i - g.Cols.toNat]?.getD false))) (row:=(Qm true (s1[i - g.Cols.toNat]?.getD false))) (tv (T.orp 1 1 (i - g.Cols.toNat) 0) rfl) rfl (Qw _ hy11) rfl rfl st4) (gF (dz fhg59_9) rfl rfl (OF.pickT (VEv.tmpB rfl (dy fhg64_10)) (tv (tB (s1[i - g.Cols.toNat]?.getD false)) rfl)) (VRunO.nil ?_)))
       exact jq (congrArg T.bool (kAT fhg64_10 (dT _))) (js rfl (js rfl (js rfl (js rfl (js rfl (js rfl (js rfl (jn))))))))
      ·refine QA 7 28 true 64 (dz fhg64_10) rfl rfl rfl ?_
       refine gF (dz fhg59_9) rfl rfl (OF.pickF (VEv.tmpB rfl (dz fhg64_10)) (VEv.bool false)) (VRunO.nil ?_)
       exact jq (congrArg T.bool (kAF fhg64_10)) (js rfl (js rfl (js rfl (js rfl (js rfl (js rfl (js rfl (jn))))))))
     refine fO (OF.pickF (VEv.tmpB rfl (dz fhg59_9)) (tv (tB (decide ((g.Cols≤((i:Nat):Int))∧((s1[i - g.Cols.toNat]?.getD false)=true)))) rfl)) (VRunO.nil ?_)
     exact jq (congrArg T.bool (kOF fhg59_9 rfl)) (js rfl (js rfl (js rfl (js rfl (js rfl (js rfl (js rfl (js rfl (js rfl (js rfl (js rfl (js rfl (js rfl (jn))))))))))))))
   refine mO (tB (decide ((((0<m)∧((s1[i - 1]?.getD false)=true))∨(((((m+1):Nat):Int)<g.Cols)∧((s1[(i+1)]?.getD false)=true)))∨((g.Cols≤((i:Nat):Int))∧((s1[i - g.Cols.toNat]?.getD false)=true))))) rfl ?_
   refine VRunO.joinB 17 [75,76,77,78,79,80,81,82,83,84,85,86,87,88,89,90] 91 (tB (decide (((((0<m)∧((s1[i - 1]?.getD false)=true))∨(((((m+1):Nat):Int)<g.Cols)∧((s1[(i+1)]?.getD false)=true)))∨((g.Cols≤((i:Nat):Int))∧((s1[i - g.Cols.toNat]?.getD false)=true)))∨((i+g.Cols.toNat<s1.length)∧((s1[i+g.Cols.toNat]?.getD false)=true))))) ?_ ?_
   ·refine gw ((((0<m)∧((s1[i - 1]?.getD false)=true))∨(((((m+1):Nat):Int)<g.Cols)∧((s1[(i+1)]?.getD false)=true)))∨((g.Cols≤((i:Nat):Int))∧((s1[i - g.Cols.toNat]?.getD false)=true))) (fun fhg74_12=> ?_) fun fhg74_12=> ?_
    ·refine QA 8 38 false 74 (dy fhg74_12) rfl rfl rfl ?_
     refine JZ 7 46 true 82 rfl rfl rfl (oO rfl rfl (dy fhg74_12) (fO (OF.pickT (VEv.tmpB rfl (dy fhg74_12)) (VEv.bool true)) (VRunO.nil ?_)))
     exact jq (congrArg T.bool (kOT fhg74_12)) (js rfl (js rfl (js rfl (js rfl (js rfl (js rfl (js rfl (js rfl (js rfl (js rfl (js rfl (js rfl (js rfl (js rfl (js rfl (js rfl (jn)))))))))))))))))
    ·refine gF (dz fhg74_12) rfl rfl (OF.move (tv (tN i) rfl)) ?_
     refine Yg (tI g.Cols) (dz fhg74_12) rfl rfl rfl rfl Zd rfl rfl QR (gF (dz fhg74_12) rfl rfl (B.add (n:=((i+g.Cols.toNat:Nat):Int)) (tv (tN i) rfl) (tv (tI g.Cols) rfl) (by (rw [Qt (by omega)];omega))) (gF (dz fhg74_12) rfl rfl (OF.move (tv (T.os 1 1 0 ((s1.map (Qm true)).length)) rfl)) (gL (dz fhg74_12) rfl rfl (B.lenO (m:=s1.length) (tv (T.os 1 1 0 ((s1.map (Qm true)).length)) rfl) YT (List.length_map ..)) (gF (dz fhg74_12) rfl rfl (Zn (tv (tN (i+g.Cols.toNat)) rfl) (tv (tN s1.length) rfl)) (gF (dz fhg74_12) rfl rfl (OF.move (tv (tB (decide (i+g.Cols.toNat<s1.length))) rfl)) ?_)))))
     refine VRunO.joinB 8 [83,84,85,86,87,88,89] 90 (tB (decide ((i+g.Cols.toNat<s1.length)∧((s1[i+g.Cols.toNat]?.getD false)=true)))) ?_ ?_
     ·refine gw (i+g.Cols.toNat<s1.length) (fun fhg82_13=> ?_) fun fhg82_13=> ?_
      ·refine gF (dy fhg82_13) rfl rfl (OF.move (tv (T.os 1 1 0 ((s1.map (Qm true)).length)) rfl)) ?_
       refine gF (dy fhg82_13) rfl rfl (OF.move (tv (tN i) rfl)) (Yg (tI g.Cols) (dy fhg82_13) rfl rfl rfl rfl Zd rfl rfl QR (gF (dy fhg82_13) rfl rfl (B.add (n:=((i+g.Cols.toNat:Nat):Int)) (tv (tN i) rfl) (tv (tI g.Cols) rfl) (by (rw [Qt (by omega)];omega))) ?_))
       have hy14:s1[i+g.Cols.toNat]? =some (s1[i+g.Cols.toNat]?.getD false):=JR false (by omega)
       refine gF (dy fhg82_13) rfl rfl (B.indexAddrO (i:=i+g.Cols.toNat) (tv (T.os 1 1 0 ((s1.map (Qm true)).length)) rfl) (tv (tN (i+g.Cols.toNat)) rfl) rfl (by (simp only [List.length_map];omega)) YT sz4 if4) (gL (dy fhg82_13) rfl rfl (OL.loadP1 (t:=(tB (s1[i+g.Cols.toNat]?.getD false))) (row:=(Qm true (s1[i+g.Cols.toNat]?.getD false))) (tv (T.orp 1 1 (i+g.Cols.toNat) 0) rfl) rfl (Qw _ hy14) rfl rfl st4) (gF (dz fhg74_12) rfl rfl (OF.pickT (VEv.tmpB rfl (dy fhg82_13)) (tv (tB (s1[i+g.Cols.toNat]?.getD false)) rfl)) (VRunO.nil ?_)))
       exact jq (congrArg T.bool (kAT fhg82_13 (dT _))) (js rfl (js rfl (js rfl (js rfl (js rfl (js rfl (js rfl (jn))))))))
      ·refine QA 7 46 true 82 (dz fhg82_13) rfl rfl rfl ?_
       refine gF (dz fhg74_12) rfl rfl (OF.pickF (VEv.tmpB rfl (dz fhg82_13)) (VEv.bool false)) (VRunO.nil ?_)
       exact jq (congrArg T.bool (kAF fhg82_13)) (js rfl (js rfl (js rfl (js rfl (js rfl (js rfl (js rfl (jn))))))))
     refine fO (OF.pickF (VEv.tmpB rfl (dz fhg74_12)) (tv (tB (decide ((i+g.Cols.toNat<s1.length)∧((s1[i+g.Cols.toNat]?.getD false)=true)))) rfl)) (VRunO.nil ?_)
     exact jq (congrArg T.bool (kOF fhg74_12 rfl)) (js rfl (js rfl (js rfl (js rfl (js rfl (js rfl (js rfl (js rfl (js rfl (js rfl (js rfl (js rfl (js rfl (js rfl (js rfl (js rfl (jn)))))))))))))))))
   refine aO (tB (decide (((((0<m)∧((s1[i - 1]?.getD false)=true))∨(((((m+1):Nat):Int)<g.Cols)∧((s1[(i+1)]?.getD false)=true)))∨((g.Cols≤((i:Nat):Int))∧((s1[i - g.Cols.toNat]?.getD false)=true)))∨((i+g.Cols.toNat<s1.length)∧((s1[i+g.Cols.toNat]?.getD false)=true))))) rfl (nt (sr (mO (tB (decide (((((0<m)∧((s1[i - 1]?.getD false)=true))∨(((((m+1):Nat):Int)<g.Cols)∧((s1[(i+1)]?.getD false)=true)))∨((g.Cols≤((i:Nat):Int))∧((s1[i - g.Cols.toNat]?.getD false)=true)))∨((i+g.Cols.toNat<s1.length)∧((s1[i+g.Cols.toNat]?.getD false)=true))))) rfl (nt ?_))))
   refine cd (((((0<m)∧((s1[i - 1]?.getD false)=true))∨(((((m+1):Nat):Int)<g.Cols)∧((s1[(i+1)]?.getD false)=true)))∨((g.Cols≤((i:Nat):Int))∧((s1[i - g.Cols.toNat]?.getD false)=true)))∨((i+g.Cols.toNat<s1.length)∧((s1[i+g.Cols.toNat]?.getD false)=true))) rfl (fun fhc3=> ?_) fun fhc3=> ?_
   ·rw [hm] at fhc3
    have q1:=Qi4 (g:=g) (s:=s1) (ag:=ag1) (i:=i) ⟨by omega,on_no.2 (fun h=>fhc2 (.inl (e2.symm.trans h))),(QgT hB.1 fhc1).1 fhc3⟩
    refine sr (mO (T.os 1 1 0 ((s1.map (Qm true)).length)) rfl (mO (tN i) rfl (fO (B.indexAddrO (i:=i) (tv (T.os 1 1 0 ((s1.map (Qm true)).length)) rfl) (tv (tN i) rfl) rfl (by (simp only [List.length_map];omega)) YT sz4 if4) (cO (B.storeP (us:= [(tB true)]) (rows':=((s1.set i true).map (Qm true))) (row:=(Qm true x2)) (tv (T.orp 1 1 i 0) rfl) (VEv.bool true) nofun rfl (Qw _ hx2) rfl (lb rfl) if4 sz4 (bc rfl bn) (by intro r hr t ht;obtain ⟨x,_,rfl⟩:=List.mem_map.1 hr;rw [QfB] at ht;exact ZD (okBool.pl _ t ht)) (Zy rfl)) (nt (VRun.region (fO (OF.assign (VEv.bool true)) (VRunO.nil (vinB.n (tn (VRun.region ?_)))))))))))
    refine mO (tN i) rfl (fO (QD (tv (tN i) rfl) (VEv.int .i64 1) (by omega)) (aO (tN (i+1)) rfl (VRunO.nil (tn ?_))))
    have he15:(s1.set i true)=(YB g s1 i):=by exact q1.1
    refine ⟨((i+1,YB g s1 i,Qbv g ag1 s1 i):Nat×(List Bool)×Bool),?_,?_,Wk.mk (fun k=>k) ?_ ?_ ?_⟩
    ·exact hI'.next fhc1
    ·show (YB g s1 i).length - (i+1)<s1.length - i
     have e1:(YB g s1 i).length=s1.length:=by unfold YB;split<;>simp
     rw [e1];omega
    ·exact (bc ⟨(congrArg (fun n_=>T.os 1 1 0 n_) (show (s1.map (Qm true)).length=((YB g s1 i).map (Qm true)).length from (by (rw [← q1.1];simp;done)))),rfl⟩ (b2 (b2 (bc ⟨(congrArg T.bool (show true=(Qbv g ag1 s1 i) from (by exact q1.2))),rfl⟩ (b2 bn)))))
    ·exact (b3 (bc ⟨(congrArg (fun l_=>some (Obj.rows 1 (List.map (Qm true) l_))) he15),(lb rfl),rfl⟩ bn))
    ·exact nd rfl
   rw [hm] at fhc3
   have q1:=Qic (g:=g) (s:=s1) (ag:=ag1) (i:=i) (by rintro ⟨h1,h2,h3⟩;exact fhc3 ((QgT hB.1 fhc1).2 h3))
   refine sk (vinB.n (tn (VRun.region (mO (tN i) rfl (fO (QD (tv (tN i) rfl) (VEv.int .i64 1) (by omega)) (aO (tN (i+1)) rfl (VRunO.nil (tn ?_))))))))
   have he16:s1=(YB g s1 i):=by exact q1.1
   refine ⟨((i+1,YB g s1 i,Qbv g ag1 s1 i):Nat×(List Bool)×Bool),?_,?_,Wk.mk (fun k=>k) ?_ ?_ ?_⟩
   ·exact hI'.next fhc1
   ·show (YB g s1 i).length - (i+1)<s1.length - i
    have e1:(YB g s1 i).length=s1.length:=by unfold YB;split<;>simp
    rw [e1];omega
   ·exact (bc ⟨(congrArg (fun l_=>T.os 1 1 0 (List.map (Qm true) l_).length) he16),rfl⟩ (b2 (b2 (bc ⟨(congrArg T.bool (show ag1=(Qbv g ag1 s1 i) from (by exact q1.2))),rfl⟩ (b2 bn)))))
   ·exact (b3 (bc ⟨(congrArg (fun l_=>some (Obj.rows 1 (List.map (Qm true) l_))) he16),(lb rfl),rfl⟩ bn))
   ·exact nd rfl
  refine VRun.exit (vthn.e (vthn.e (vinB.e (vinB.n (tn ?_)))))
  refine ⟨((ag1,s1):Bool×(List Bool)),?_,?_,Wk.mk (fun k=>k) ?_ ?_ ?_⟩
  ·exact hI'.done fhc1
  ·exact hI'.dec fhc0
  ·exact (b2 (b2 (b2 (b2 bn))))
  ·exact (b3 (b3 bn))
  ·exact nd rfl
 have fhc0:ag=false:=hc0
 refine VRun.exit (vthn.e (vthn.e (vinB.e (tn (sr (mO (T.os 1 1 0 ((s.map (Qm true)).length)) rfl (aO (T.os 1 1 0 ((s.map (Qm true)).length)) rfl (nt (rt ?_)))))))))
 have hnew:s=Q9 g (seen.set cell true):=by
  exact hI'.done (by simp [fhc0])
 exact vloan.r 1 (VRes.tmp (t:=(T.os 1 1 0 ((s.map (Qm true)).length))) rfl VRes.nil) (congrArg (fun l_=>T.os 1 1 0 (List.map (Qm true) l_).length) hnew) (congrArg (fun n_=>T.os 1 1 0 n_) (show (s.map (Qm true)).length=(seen.map (Qm true)).length from (by (simp only [List.length_map,QbA,List.length_set];omega)))) rfl (congrArg (List.map (Qm true)) hnew)
end Go.Proofs.YtcccmceoplcciaaGreat.AE
namespace Go.Proofs.YtcccmceoplcciaaGreat.AE
open Go Go.RowKit
set_option linter.unusedVariables false
set_option linter.unusedSimpArgs false
set_option maxRecDepth 20000
set_option maxHeartbeats 2000000
noncomputable section
def QeU (a b:List Bool):List Bool:=List.zipWith (fun x y=>x || y) a b
def ZH (a b:List Bool) (k:Nat):List Bool:=(QeU a b).take k++a.drop k
theorem Jp {a b:List Bool} (h:b.length=a.length):(QeU a b).length=a.length:=by simp [QeU,h]
theorem QcO {a b:List Bool} {k:Nat} (h:b.length=a.length) (hk:k≤a.length):(ZH a b k).length=a.length:=by
 unfold ZH
 rw [List.length_append,List.length_take,Jp h,List.length_drop];omega
theorem Qjo {a b:List Bool} {k:Nat} {x:Bool} (h:b.length=a.length) (hk:k<a.length) (hx:(ZH a b k)[k]? =some x):x=on a k:=by
 unfold ZH at hx
 rw [List.getElem?_append_right (by rw [List.length_take,Jp h];omega),List.length_take,Jp h,Nat.min_eq_left (by omega),Nat.sub_self,List.getElem?_drop,Nat.add_zero] at hx
 rw [on,hx];rfl
theorem QhL {a b:List Bool} (h:b.length=a.length) (j:Nat):on (QeU a b) j=(on a j || on b j):=by
 unfold on QeU
 rw [List.getElem?_zipWith]
 rcases Nat.lt_or_ge j a.length with h1 | h1
 ·rw [List.getElem?_eq_getElem h1,List.getElem?_eq_getElem (by omega)];rfl
 ·rw [List.getElem?_eq_none h1,List.getElem?_eq_none (by omega)];rfl
theorem Qhk {a b:List Bool} {k:Nat} {v:Bool} (h:b.length=a.length) (hk:k<a.length) (hv:v=(on a k || on b k)):(ZH a b k).set k v=ZH a b (k+1):=by
 have hl:=Jp h
 have hu:(QeU a b)[k]? =some v:=by
  have h1:=QhL h k
  unfold on at h1 hv
  rw [List.getElem?_eq_getElem (by omega)] at h1 ⊢
  rw [hv,← h1];rfl
 unfold ZH
 rw [List.set_append_right _ _ (by rw [List.length_take];omega),List.length_take,hl,Nat.min_eq_left (by omega),Nat.sub_self,List.drop_eq_getElem_cons hk,List.set_cons_zero,List.take_add_one,hu]
 simp
theorem QhE {a b:List Bool} {k:Nat} (h:b.length=a.length) (hk:¬k<a.length):ZH a b k=QeU a b:=by
 unfold ZH
 rw [List.take_of_length_le (by rw [Jp h];omega),List.drop_of_length_le (by omega),List.append_nil]
def fresh (g:D.Grid) (i:Nat):List Bool:=Q9 g ((List.replicate g.Cells.size false).set i true)
def Qcl (g:D.Grid) (s:List Bool) (i:Nat):Prop:=Qx g.Cells i=46∧on s i=false
instance (g:D.Grid) (s:List Bool) (i:Nat):Decidable (Qcl g s i):=Classical.propDecidable _
def Qn (g:D.Grid):Nat→Nat×List Bool
 | 0=>(0,List.replicate g.Cells.size false)
 | i+1=>if Qcl g (Qn g i).2 i then ((Qn g i).1+1,QeU (Qn g i).2 (fresh g i)) else Qn g i
theorem Qaj (g:D.Grid) (i:Nat):(fresh g i).length=g.Cells.size:=by simp [fresh,QbA]
theorem YU (g:D.Grid):∀i,(Qn g i).2.length=g.Cells.size
 | 0=>by simp [Qn]
 | i+1=>by
  have h:=YU g i
  unfold Qn
  split
  ·simp only;rw [Jp (by rw [Qaj,h])];exact h
  ·exact h
theorem Qc0 (g:D.Grid):∀i,(Qn g i).1≤i
 | 0=>Nat.le_refl _
 | i+1=>by
  have h:=Qc0 g i
  unfold Qn
  split
  ·simp only;omega
  ·omega
theorem QcR {g:D.Grid} {i:Nat} (h:Qcl g (Qn g i).2 i):(Qn g (i+1)).1=(Qn g i).1+1∧(Qn g (i+1)).2=QeU (Qn g i).2 (fresh g i):=by
 rw [Qn,if_pos h];exact ⟨rfl,rfl⟩
theorem QaK {g:D.Grid} {i:Nat} (h:¬Qcl g (Qn g i).2 i):Qn g (i+1)=Qn g i:=by
 rw [Qn,if_neg h]
def ZR (g:D.Grid):Nat:=if gridOk g then (Qn g g.Cells.size).1 else 0
theorem Qe4 {g:D.Grid} {i:Nat} (h1:i≤g.Cells.size) (h2:gridOk g∨i=0) (h3:¬(i<g.Cells.size∧gridOk g)):(Qn g i).1=ZR g:=by
 unfold ZR
 by_cases hg:gridOk g
 ·rw [if_pos hg,show i=g.Cells.size by have:¬i<g.Cells.size:=fun h=>h3 ⟨h,hg⟩;omega]
 ·rw [if_neg hg,h2.resolve_left hg];rfl
theorem orB (x y:Bool):decide (x=true∨y=true)=(x || y):=by cases x<;>cases y<;>rfl
end
theorem Qd5 (n:Nat) (g:D.Grid) (hc:g.Cells.size≤mx):Pure (Qr Tryz.prog (n+3)) 157 [(T.agg (Qb false g))] (tN (ZR g)):=by
 refine Pure.intro (rs:= [ResultVar.tmp 2]) Tryz.func157 rfl rfl rfl (E0:= [(0,(T.agg (Qb false g)))]) rfl ?_
 obtain ⟨hlim,hmx,hmax⟩:=QG
 refine sr (kO (B.box (ts:=(Qb false g)) (tv (T.agg (Qb false g)) rfl) nofun rfl) (fO (OF.assign (VEv.int .i64 0)) (nt (sr (fO (OF.assign (VEv.int .i64 0)) (nt (sr (kO (OM.slice0 YT zo4 (by kernel_rfl) rfl (by rw [sz4];decide) sz4) (aO (T.os 1 1 0 0) rfl (nt (sq ?_)))))))))))
 refine sr (fO (OF.assign (VEv.int .i64 0)) (nt (VRun.block ?_)))
 have he1: []=((List.replicate 0 false).map (Qm true)):=by rfl
 refine VRun.loop (A:=Nat) (fun s_=> [(1,(T.op 0 0)),(2,(tN 0)),(3,(tN 0)),(4,(T.os 1 1 0 (((List.replicate s_ false).map (Qm true)).length))),(5,(tN s_))]) (fun s_=>Q4 [(0,(Obj.cells (Qb false g))),(1,(Obj.rows 1 ((List.replicate s_ false).map (Qm true))))]) 2 (fun s_=>s_≤g.Cells.size) (fun s_=>g.Cells.size - s_) (0:Nat) ?_ (Wk.mk (fun k=>k) ?_ ?_ ?_) ?_
 ·(simp;done)
 ·exact (b2 (b2 (b2 (bc ⟨(congrArg (fun n_=>T.os 1 1 0 n_) (show 0=((List.replicate 0 false).map (Qm true)).length from (by rfl))),rfl⟩ (b2 bn)))))
 ·exact (b3 (bc ⟨(congrArg (fun l_=>some (Obj.rows 1 l_)) he1),(lb rfl),rfl⟩ bn))
 ·exact nd rfl
 rintro k (hI':k≤g.Cells.size)
 show VRun _ _ _ [(1,(T.op 0 0)),(2,(tN 0)),(3,(tN 0)),(4,(T.os 1 1 0 (((List.replicate k false).map (Qm true)).length))),(5,(tN k))] (Q4 [(0,(Obj.cells (Qb false g))),(1,(Obj.rows 1 ((List.replicate k false).map (Qm true))))]) 2 _
 have hK1:=hI'
 refine sq (sr (mO (tN k) rfl (lf (tS g.Cells) rfl QC rfl rfl Z6 (lO (B.lenS (tv (tS g.Cells) rfl) U9) (fO (Zn (tv (tN k) rfl) (tv (tN g.Cells.size) rfl)) (nt ?_))))))
 refine cd (k<g.Cells.size) rfl (fun fhc0=> ?_) fun fhc0=> ?_
 ·refine sk ?_
  refine tn (sq (VRun.block (VRun.region (mO (T.os 1 1 0 (((List.replicate k false).map (Qm true)).length)) rfl (kO (OM.buildSlice (l:= [(tB false)]) (VEvp.cons (VEv.bool false) VEvp.nil) rfl (by decide) (bc (nofun) bn) (bc ((bc (rfl) bn)) bn) (bc (rfl) bn) YT zo4 (by kernel_rfl) rfl (by rw [sz4];decide) sz4 (Nat.le_of_ble_eq_true rfl)) (cO (B.append (rows:=((List.replicate k false).map (Qm true))) (rows2:= [[(tB false)]]) (rows3:=((List.replicate k false++ [false]).map (Qm true))) (VDst.own (tv (T.os 1 1 0 (((List.replicate k false).map (Qm true)).length)) rfl) rfl rfl) (VSrc.own (tv (T.os 1 2 0 1) rfl) rfl rfl YT (bc (bc rfl bn) bn)) (by decide) YT sz4 (by decide) zo4 rfl (of_decide_eq_true (by kernel_rfl)) (by (simp only [List.length_map,List.length_append,List.length_cons,List.length_nil,List.length_replicate,List.length_set,List.length_drop,List.length_take,Jo] at *;omega)) ((List.map_append (f:=Qm true) (l₁:=List.replicate k false) (l₂:= [false])).symm)) (aO (T.os 1 3 0 (((List.replicate k false++ [false]).map (Qm true)).length)) rfl (VRunO.nil (vinB.n (tn (VRun.region ?_)))))))))))
  refine mO (tN k) rfl (fO (QD (tv (tN k) rfl) (VEv.int .i64 1) (by omega)) (aO (tN (k+1)) rfl (VRunO.nil (tn ?_))))
  have he2:(List.replicate k false++ [false])=List.replicate (k+1) false:=by rw [List.replicate_succ']
  refine ⟨(k+1:Nat),?_,?_,Wk.mk (fun k=>if k=1 then 3 else k) ?_ ?_ ?_⟩
  ·trivial
  ·omega
  ·exact (b2 (b2 (b2 (bc ⟨(congrArg (fun l_=>T.os 1 3 0 (List.map (Qm true) l_).length) he2),rfl⟩ (b2 bn)))))
  ·exact (b3 (bc ⟨(congrArg (fun l_=>some (Obj.rows 1 (List.map (Qm true) l_))) he2),(lb rfl),rfl⟩ bn))
  ·exact nd rfl
 refine VRun.exit (vthn.e (vthn.e (vinB.e (tn (sq (sr (fO (OF.assign (VEv.int .i64 0)) (nt (VRun.block ?_)))))))))
 have he3:List.replicate k false=(Qn g 0).2:=by (show List.replicate k false=List.replicate g.Cells.size false;rw [show k=g.Cells.size by omega])
 refine VRun.loop (A:=Nat) (fun s_=> [(1,(T.op 0 0)),(2,(tN 0)),(3,(tN ((Qn g s_).1))),(4,(T.os 1 1 0 ((((Qn g s_).2).map (Qm true)).length))),(6,(tN s_))]) (fun s_=>Q4 [(0,(Obj.cells (Qb false g))),(1,(Obj.rows 1 (((Qn g s_).2).map (Qm true))))]) 2 (fun s_=>s_≤g.Cells.size∧(gridOk g∨s_=0)) (fun s_=>g.Cells.size - s_) (0:Nat) ?_ (Wk.mk (fun k=>k) ?_ ?_ ?_) ?_
 ·exact ⟨Nat.zero_le _, .inr rfl⟩
 ·exact (b2 (b2 (bc ⟨(congrArg (T.int .i64) (show 0=(((Qn g 0).1:Nat):Int) from (by rfl))),rfl⟩ (bc ⟨(congrArg (fun l_=>T.os 1 1 0 (List.map (Qm true) l_).length) he3),rfl⟩ (b2 bn)))))
 ·exact (b3 (bc ⟨(congrArg (fun l_=>some (Obj.rows 1 (List.map (Qm true) l_))) he3),(lb rfl),rfl⟩ bn))
 ·exact nd rfl
 rintro i (hI':i≤g.Cells.size∧(gridOk g∨i=0))
 show VRun _ _ _ [(1,(T.op 0 0)),(2,(tN 0)),(3,(tN ((Qn g i).1))),(4,(T.os 1 1 0 ((((Qn g i).2).map (Qm true)).length))),(6,(tN i))] (Q4 [(0,(Obj.cells (Qb false g))),(1,(Obj.rows 1 (((Qn g i).2).map (Qm true))))]) 2 _
 have hI1:=hI'.1
 have hpl:=YU g i
 have hpn:=Qc0 g i
 refine sq (sr (mO (tN i) rfl (lf (tS g.Cells) rfl QC rfl rfl Z6 (lO (B.lenS (tv (tS g.Cells) rfl) U9) (fO (Zn (tv (tN i) rfl) (tv (tN g.Cells.size) rfl)) (mO (tB (decide (i<g.Cells.size))) rfl ?_))))))
 refine VRunO.joinB 3 [27,28] 29 (tB (decide ((i<g.Cells.size)∧(gridOk g)))) ?_ ?_
 ·refine gw (i<g.Cells.size) (fun fhg26_4=> ?_) fun fhg26_4=> ?_
  ·refine gL (dy fhg26_4) rfl rfl (OL.loadOn (us:=(Qb false g)) (tv (T.op 0 0) rfl) rfl Q3 QW (lb rfl) rfl) ?_
   refine VRunO.chain (VWant.on rfl rfl (dy fhg26_4)) (cS (vc (tv (T.agg (Qb false g)) rfl) vn) (LendL.cons (lg Qv) ln) (ZM (n+0) g (by omega)) rfl rfl) (fO (OF.pickT (VEv.tmpB rfl (dy fhg26_4)) (tv (tB (decide (gridOk g))) rfl)) (VRunO.nil ?_))
   exact jq (congrArg T.bool (kAT fhg26_4 rfl)) (js rfl (js rfl (jn)))
  ·refine QA 2 5 true 26 (dz fhg26_4) rfl rfl rfl ?_
   refine fO (OF.pickF (VEv.tmpB rfl (dz fhg26_4)) (VEv.bool false)) (VRunO.nil ?_)
   exact jq (congrArg T.bool (kAF fhg26_4)) (js rfl (js rfl (jn)))
 refine nt ?_
 refine cd ((i<g.Cells.size)∧(gridOk g)) rfl (fun fhc1=> ?_) fun fhc1=> ?_
 ·refine sk ?_
  refine tn (sq (VRun.block (sr (lf (tS g.Cells) rfl QC rfl rfl Z6 (mO (tN i) rfl ?_)))))
  have hb5:i<g.Cells.size:=(by omega)
  refine fO (xix (tv (tS g.Cells) rfl) (tv (tN i) rfl) hb5 U9) (fO (Y4 (tv (T.int .u8 (Qx g.Cells i)) rfl) (VEv.int .u8 46)) (mO (tB (decide (Qx g.Cells i=46))) rfl ?_))
  refine VRunO.joinB 6 [38,39,40,41,42] 43 (tB (decide ((Qx g.Cells i=46)∧((!(((Qn g i).2)[i]?.getD false))=true)))) ?_ ?_
  ·refine gw (Qx g.Cells i=46) (fun fhg37_6=> ?_) fun fhg37_6=> ?_
   ·refine gF (dy fhg37_6) rfl rfl (OF.move (tv (T.os 1 1 0 ((((Qn g i).2).map (Qm true)).length)) rfl)) ?_
    refine gF (dy fhg37_6) rfl rfl (OF.move (tv (tN i) rfl)) ?_
    have hy7:((Qn g i).2)[i]? =some (((Qn g i).2)[i]?.getD false):=JR false (by omega)
    refine gF (dy fhg37_6) rfl rfl (B.indexAddrO (i:=i) (tv (T.os 1 1 0 ((((Qn g i).2).map (Qm true)).length)) rfl) (tv (tN i) rfl) rfl (by (simp only [List.length_map];omega)) YT sz4 if4) (gL (dy fhg37_6) rfl rfl (OL.loadP1 (t:=(tB (((Qn g i).2)[i]?.getD false))) (row:=(Qm true (((Qn g i).2)[i]?.getD false))) (tv (T.orp 1 1 i 0) rfl) rfl (Qw _ hy7) rfl rfl st4) (gF (dy fhg37_6) rfl rfl (QZ (tv (tB (((Qn g i).2)[i]?.getD false)) rfl)) (fO (OF.pickT (VEv.tmpB rfl (dy fhg37_6)) (tv (tB (!(((Qn g i).2)[i]?.getD false))) rfl)) (VRunO.nil ?_))))
    exact jq (congrArg T.bool (kAT fhg37_6 (dT _))) (js rfl (js rfl (js rfl (js rfl (js rfl (jn))))))
   ·refine QA 5 5 true 37 (dz fhg37_6) rfl rfl rfl ?_
    refine fO (OF.pickF (VEv.tmpB rfl (dz fhg37_6)) (VEv.bool false)) (VRunO.nil ?_)
    exact jq (congrArg T.bool (kAF fhg37_6)) (js rfl (js rfl (js rfl (js rfl (js rfl (jn))))))
  refine nt ?_
  refine cd ((Qx g.Cells i=46)∧((!(((Qn g i).2)[i]?.getD false))=true)) rfl (fun fhc2=> ?_) fun fhc2=> ?_
  ·have q0:Qcl g (Qn g i).2 i:=⟨fhc2.1,by simpa [on] using fhc2.2⟩
   have q1:=QcR q0
   have hgs:=fhc1.2.size
   refine sr (mO (tN ((Qn g i).1)) rfl (fO (QD (tv (tN ((Qn g i).1)) rfl) (VEv.int .i64 1) (by omega)) (aO (tN ((Qn g i).1+1)) rfl (nt (sr (kO (OM.slice0 YT zo4 (by kernel_rfl) rfl (by rw [sz4];decide) sz4) (aO (T.os 1 2 0 0) rfl (nt (sq (sr (fO (OF.assign (VEv.int .i64 0)) ?_)))))))))))
   refine nt (VRun.block ?_)
   have he8: []=((List.replicate 0 false).map (Qm true)):=by rfl
   refine VRun.loop (A:=Nat) (fun s_=> [(1,(T.op 0 0)),(2,(tN 0)),(3,(tN ((Qn g i).1+1))),(4,(T.os 1 1 0 ((((Qn g i).2).map (Qm true)).length))),(6,(tN i)),(7,(T.os 1 2 0 (((List.replicate s_ false).map (Qm true)).length))),(8,(tN s_))]) (fun s_=>Q4 [(0,(Obj.cells (Qb false g))),(1,(Obj.rows 1 (((Qn g i).2).map (Qm true)))),(2,(Obj.rows 1 ((List.replicate s_ false).map (Qm true))))]) 3 (fun s_=>s_≤(Qn g i).2.length) (fun s_=>(Qn g i).2.length - s_) (0:Nat) ?_ (Wk.mk (fun k=>k) ?_ ?_ ?_) ?_
   ·(simp;done)
   ·exact (b2 (b2 (b2 (b2 (b2 (bc ⟨(congrArg (fun n_=>T.os 1 2 0 n_) (show 0=((List.replicate 0 false).map (Qm true)).length from (by rfl))),rfl⟩ (b2 bn)))))))
   ·exact (b3 (b3 (bc ⟨(congrArg (fun l_=>some (Obj.rows 1 l_)) he8),(lb rfl),rfl⟩ bn)))
   ·exact nd rfl
   rintro k1 (hI':k1≤(Qn g i).2.length)
   show VRun _ _ _ [(1,(T.op 0 0)),(2,(tN 0)),(3,(tN ((Qn g i).1+1))),(4,(T.os 1 1 0 ((((Qn g i).2).map (Qm true)).length))),(6,(tN i)),(7,(T.os 1 2 0 (((List.replicate k1 false).map (Qm true)).length))),(8,(tN k1))] (Q4 [(0,(Obj.cells (Qb false g))),(1,(Obj.rows 1 (((Qn g i).2).map (Qm true)))),(2,(Obj.rows 1 ((List.replicate k1 false).map (Qm true))))]) 3 _
   have hK1:=hI'
   refine sq (sr (mO (tN k1) rfl (mO (T.os 1 1 0 ((((Qn g i).2).map (Qm true)).length)) rfl (lO (B.lenO (m:=((Qn g i).2).length) (tv (T.os 1 1 0 ((((Qn g i).2).map (Qm true)).length)) rfl) YT (List.length_map ..)) (fO (Zn (tv (tN k1) rfl) (tv (tN (((Qn g i).2).length)) rfl)) (nt ?_))))))
   refine cd (k1<((Qn g i).2).length) rfl (fun fhc3=> ?_) fun fhc3=> ?_
   ·refine sk ?_
    refine tn (sq (VRun.block (VRun.region (mO (T.os 1 2 0 (((List.replicate k1 false).map (Qm true)).length)) rfl (kO (OM.buildSlice (l:= [(tB false)]) (VEvp.cons (VEv.bool false) VEvp.nil) rfl (by decide) (bc (nofun) bn) (bc ((bc (rfl) bn)) bn) (bc (rfl) bn) YT zo4 (by kernel_rfl) rfl (by rw [sz4];decide) sz4 (Nat.le_of_ble_eq_true rfl)) (cO (B.append (rows:=((List.replicate k1 false).map (Qm true))) (rows2:= [[(tB false)]]) (rows3:=((List.replicate k1 false++ [false]).map (Qm true))) (VDst.own (tv (T.os 1 2 0 (((List.replicate k1 false).map (Qm true)).length)) rfl) rfl rfl) (VSrc.own (tv (T.os 1 3 0 1) rfl) rfl rfl YT (bc (bc rfl bn) bn)) (by decide) YT sz4 (by decide) zo4 rfl (of_decide_eq_true (by kernel_rfl)) (by (simp only [List.length_map,List.length_append,List.length_cons,List.length_nil,List.length_replicate,List.length_set,List.length_drop,List.length_take,Jo] at *;omega)) ((List.map_append (f:=Qm true) (l₁:=List.replicate k1 false) (l₂:= [false])).symm)) (aO (T.os 1 4 0 (((List.replicate k1 false++ [false]).map (Qm true)).length)) rfl (VRunO.nil (vinB.n (tn (VRun.region ?_)))))))))))
    refine mO (tN k1) rfl (fO (QD (tv (tN k1) rfl) (VEv.int .i64 1) (by omega)) (aO (tN (k1+1)) rfl (VRunO.nil (tn ?_))))
    have he9:(List.replicate k1 false++ [false])=List.replicate (k1+1) false:=by rw [List.replicate_succ']
    refine ⟨(k1+1:Nat),?_,?_,Wk.mk (fun k=>if k=2 then 4 else k) ?_ ?_ ?_⟩
    ·trivial
    ·omega
    ·exact (b2 (b2 (b2 (b2 (b2 (bc ⟨(congrArg (fun l_=>T.os 1 4 0 (List.map (Qm true) l_).length) he9),rfl⟩ (b2 bn)))))))
    ·exact (b3 (b3 (bc ⟨(congrArg (fun l_=>some (Obj.rows 1 (List.map (Qm true) l_))) he9),(lb rfl),rfl⟩ bn)))
    ·exact nd rfl
   have hk6:k1=g.Cells.size:=by omega
   have hq4:(fresh g i).length=(Qn g i).2.length:=by rw [Qaj,hpl]
   have hfr:Q9 g ((List.replicate k1 false).set i true)=fresh g i:=by rw [fresh,hk6]
   have hrl:(Q9 g ((List.replicate k1 false).set i true)).length=g.Cells.size:=by rw [hfr,Qaj]
   refine VRun.exit (vthn.e (vthn.e (vinB.e (tn (sr (lO (OL.loadOn (us:=(Qb false g)) (tv (T.op 0 0) rfl) rfl Q3 QW (lb rfl) rfl) (mO (T.os 1 2 0 (((List.replicate k1 false).map (Qm true)).length)) rfl (mO (tN i) rfl (cO (OC.callLoan (ts:= [(T.agg (Qb false g)),(T.os 1 0 0 (((List.replicate k1 false).map (Qm true)).length)),(tN i)]) (k:=2) (r:=(T.os 1 0 0 (((Q9 g ((List.replicate k1 false).set i true)).map (Qm true)).length))) (rows:=((List.replicate k1 false).map (Qm true))) (rows':=((Q9 g ((List.replicate k1 false).set i true)).map (Qm true))) rfl (vc (tv (T.agg (Qb false g)) rfl) (vc (tv (T.os 1 2 0 (((List.replicate k1 false).map (Qm true)).length)) rfl) (vc (tv (tN i) rfl) vn))) rfl rfl rfl (LRes.os _ _) rfl (Zl (fun _=>rfl) _) (Zl (fun _=>rfl) _) (Qdy (n+1) g (List.replicate k1 false) i (by exact fhc1.2) (by (simp only [List.length_replicate];omega)) (by (simp only [List.length_replicate];omega)))) (aO (T.os 1 2 0 (((Q9 g ((List.replicate k1 false).set i true)).map (Qm true)).length)) rfl (nt ?_)))))))))))
   refine sr (fO (OF.assign (VEv.int .i64 0)) (nt (VRun.block ?_)))
   have he10:(Qn g i).2=ZH (Qn g i).2 (fresh g i) 0:=by rfl
   refine VRun.loop (A:=Nat) (fun s_=> [(1,(T.op 0 0)),(2,(tN 0)),(3,(tN ((Qn g i).1+1))),(4,(T.os 1 2 0 (((ZH (Qn g i).2 (fresh g i) s_).map (Qm true)).length))),(6,(tN i)),(7,(T.os 1 1 0 (((Q9 g ((List.replicate k1 false).set i true)).map (Qm true)).length))),(9,(tN s_))]) (fun s_=>Q4 [(0,(Obj.cells (Qb false g))),(1,(Obj.rows 1 ((Q9 g ((List.replicate k1 false).set i true)).map (Qm true)))),(2,(Obj.rows 1 ((ZH (Qn g i).2 (fresh g i) s_).map (Qm true))))]) 3 (fun s_=>s_≤(Qn g i).2.length) (fun s_=>(Qn g i).2.length - s_) (0:Nat) ?_ (Wk.mk (fun k=>if k=1 then 2 else if k=2 then 1 else k) ?_ ?_ ?_) ?_
   ·(simp;done)
   ·exact (b2 (b2 (b2 (bc ⟨(congrArg (fun l_=>T.os 1 1 0 (List.map (Qm true) l_).length) he10),rfl⟩ (b2 (b2 (b2 bn)))))))
   ·exact (b3 (b3 (bc ⟨(congrArg (fun l_=>some (Obj.rows 1 (List.map (Qm true) l_))) he10),(lb rfl),rfl⟩ bn)))
   ·exact nd rfl
   rintro j (hI':j≤(Qn g i).2.length)
   show VRun _ _ _ [(1,(T.op 0 0)),(2,(tN 0)),(3,(tN ((Qn g i).1+1))),(4,(T.os 1 2 0 (((ZH (Qn g i).2 (fresh g i) j).map (Qm true)).length))),(6,(tN i)),(7,(T.os 1 1 0 (((Q9 g ((List.replicate k1 false).set i true)).map (Qm true)).length))),(9,(tN j))] (Q4 [(0,(Obj.cells (Qb false g))),(1,(Obj.rows 1 ((Q9 g ((List.replicate k1 false).set i true)).map (Qm true)))),(2,(Obj.rows 1 ((ZH (Qn g i).2 (fresh g i) j).map (Qm true))))]) 3 _
   have hJ1:=hI'
   have hzl:=QcO hq4 hJ1
   refine sq (sr (mO (tN j) rfl (mO (T.os 1 2 0 (((ZH (Qn g i).2 (fresh g i) j).map (Qm true)).length)) rfl (lO (B.lenO (m:=(ZH (Qn g i).2 (fresh g i) j).length) (tv (T.os 1 2 0 (((ZH (Qn g i).2 (fresh g i) j).map (Qm true)).length)) rfl) YT (List.length_map ..)) (fO (Zn (tv (tN j) rfl) (tv (tN ((ZH (Qn g i).2 (fresh g i) j).length)) rfl)) (nt ?_))))))
   refine cd (j<(ZH (Qn g i).2 (fresh g i) j).length) rfl (fun fhc4=> ?_) fun fhc4=> ?_
   ·refine sk ?_
    refine tn (sq (VRun.block (VRun.region (mO (T.os 1 2 0 (((ZH (Qn g i).2 (fresh g i) j).map (Qm true)).length)) rfl (mO (tN j) rfl (mO (T.os 1 2 0 (((ZH (Qn g i).2 (fresh g i) j).map (Qm true)).length)) rfl (mO (tN j) rfl ?_)))))))
    obtain ⟨x1,hx1⟩:∃x,(ZH (Qn g i).2 (fresh g i) j)[j]? =some x:=⟨_,List.getElem?_eq_getElem (by omega)⟩
    have e3:x1=on (Qn g i).2 j:=Qjo hq4 (by omega) hx1
    refine fO (B.indexAddrO (i:=j) (tv (T.os 1 2 0 (((ZH (Qn g i).2 (fresh g i) j).map (Qm true)).length)) rfl) (tv (tN j) rfl) rfl (by (simp only [List.length_map];omega)) YT sz4 if4) (lO (OL.loadP1 (t:=(tB x1)) (row:=(Qm true x1)) (tv (T.orp 1 2 j 0) rfl) rfl (Qw _ hx1) rfl rfl st4) (mO (tB x1) rfl ?_))
    refine VRunO.joinB 5 [73,74,75,76] 77 (tB (decide ((x1=true)∨(((Q9 g ((List.replicate k1 false).set i true))[j]?.getD false)=true)))) ?_ ?_
    ·refine Qck x1 (fun hg72_11=> ?_) (fun hg72_11=> ?_)
     ·have fhg72_11:x1=true:=hg72_11
      refine QA 4 6 false 72 hg72_11 rfl rfl rfl (fO (OF.pickT (VEv.tmpB rfl hg72_11) (VEv.bool true)) (VRunO.nil ?_))
      exact jq (congrArg T.bool (jOT (dT _) hg72_11)) (js rfl (js rfl (js rfl (js rfl (jn)))))
     ·have fhg72_11:x1=false:=hg72_11
      refine gF hg72_11 rfl rfl (OF.move (tv (T.os 1 1 0 (((Q9 g ((List.replicate k1 false).set i true)).map (Qm true)).length)) rfl)) (gF hg72_11 rfl rfl (OF.move (tv (tN j) rfl)) ?_)
      have hy12:(Q9 g ((List.replicate k1 false).set i true))[j]? =some ((Q9 g ((List.replicate k1 false).set i true))[j]?.getD false):=JR false (by omega)
      refine gF hg72_11 rfl rfl (B.indexAddrO (i:=j) (tv (T.os 1 1 0 (((Q9 g ((List.replicate k1 false).set i true)).map (Qm true)).length)) rfl) (tv (tN j) rfl) rfl (by (simp only [List.length_map];omega)) YT sz4 if4) (gL hg72_11 rfl rfl (OL.loadP1 (t:=(tB ((Q9 g ((List.replicate k1 false).set i true))[j]?.getD false))) (row:=(Qm true ((Q9 g ((List.replicate k1 false).set i true))[j]?.getD false))) (tv (T.orp 1 1 j 0) rfl) rfl (Qw _ hy12) rfl rfl st4) (fO (OF.pickF (VEv.tmpB rfl hg72_11) (tv (tB ((Q9 g ((List.replicate k1 false).set i true))[j]?.getD false)) rfl)) (VRunO.nil ?_)))
      exact jq (congrArg T.bool (jOF (dT _) hg72_11 (dT _))) (js rfl (js rfl (js rfl (js rfl (jn)))))
    refine fO (B.indexAddrO (i:=j) (tv (T.os 1 2 0 (((ZH (Qn g i).2 (fresh g i) j).map (Qm true)).length)) rfl) (tv (tN j) rfl) rfl (by (simp only [List.length_map];omega)) YT sz4 if4) (cO (B.storeP (us:= [(tB (decide ((x1=true)∨(((Q9 g ((List.replicate k1 false).set i true))[j]?.getD false)=true))))]) (rows':=(((ZH (Qn g i).2 (fresh g i) j).set j (decide ((x1=true)∨(((Q9 g ((List.replicate k1 false).set i true))[j]?.getD false)=true)))).map (Qm true))) (row:=(Qm true x1)) (tv (T.orp 1 2 j 0) rfl) (tv (tB (decide ((x1=true)∨(((Q9 g ((List.replicate k1 false).set i true))[j]?.getD false)=true)))) rfl) nofun rfl (Qw _ hx1) rfl (lb rfl) if4 sz4 (bc rfl bn) (by intro r hr t ht;obtain ⟨x,_,rfl⟩:=List.mem_map.1 hr;rw [QfB] at ht;exact ZD (okBool.pl _ t ht)) (Zy rfl)) (VRunO.nil (vinB.n (tn (VRun.region (mO (tN j) rfl (fO (QD (tv (tN j) rfl) (VEv.int .i64 1) (by omega)) (aO (tN (j+1)) rfl (VRunO.nil (tn ?_))))))))))
    have he13:((ZH (Qn g i).2 (fresh g i) j).set j (decide ((x1=true)∨(((Q9 g ((List.replicate k1 false).set i true))[j]?.getD false)=true))))=ZH (Qn g i).2 (fresh g i) (j+1):=by (refine Qhk hq4 (by omega) ?_;rw [e3,hfr];exact orB _ _)
    refine ⟨(j+1:Nat),?_,?_,Wk.mk (fun k=>k) ?_ ?_ ?_⟩
    ·omega
    ·omega
    ·exact (b2 (b2 (b2 (bc ⟨(congrArg (fun n_=>T.os 1 2 0 n_) (show ((ZH (Qn g i).2 (fresh g i) j).map (Qm true)).length=((ZH (Qn g i).2 (fresh g i) (j+1)).map (Qm true)).length from (by (simp only [List.length_map,List.length_set];rw [QcO hq4 hJ1,QcO hq4 (by omega)])))),rfl⟩ (b2 (b2 (b2 bn)))))))
    ·exact (b3 (b3 (bc ⟨(congrArg (fun l_=>some (Obj.rows 1 (List.map (Qm true) l_))) he13),(lb rfl),rfl⟩ bn)))
    ·exact nd rfl
   have hq5:¬j<(Qn g i).2.length:=by omega
   refine VRun.exit (vthn.e (vthn.e (vinB.e (vinB.n (tn (VRun.region (mO (tN i) rfl (fO (QD (tv (tN i) rfl) (VEv.int .i64 1) (by omega)) (aO (tN (i+1)) rfl (VRunO.nil (tn ?_)))))))))))
   have he14:ZH (Qn g i).2 (fresh g i) j=(Qn g (i+1)).2:=by (rw [q1.2];exact QhE hq4 hq5)
   refine ⟨(i+1:Nat),?_,?_,Wk.mk (fun k=>if k=1 then 2 else k) ?_ ?_ ?_⟩
   ·exact ⟨by omega, .inl fhc1.2⟩
   ·omega
   ·exact (b2 (b2 (bc ⟨(congrArg (T.int .i64) (show ((((Qn g i).1+1):Nat):Int)=(((Qn g (i+1)).1:Nat):Int) from (by omega))),rfl⟩ (bc ⟨(congrArg (fun l_=>T.os 1 2 0 (List.map (Qm true) l_).length) he14),rfl⟩ (b2 bn)))))
   ·exact (b3 (bc ⟨(congrArg (fun l_=>some (Obj.rows 1 (List.map (Qm true) l_))) he14),(lb rfl),rfl⟩ bn))
   ·exact nd rfl
  have q0:¬Qcl g (Qn g i).2 i:=fun h=>fhc2 ⟨h.1,by have:=h.2;unfold on at this;rw [this];rfl⟩
  refine sk (vinB.n (tn (VRun.region (mO (tN i) rfl (fO (QD (tv (tN i) rfl) (VEv.int .i64 1) (by omega)) (aO (tN (i+1)) rfl (VRunO.nil (tn ?_))))))))
  have he15:(Qn g i).2=(Qn g (i+1)).2:=by (rw [QaK q0];done)
  refine ⟨(i+1:Nat),?_,?_,Wk.mk (fun k=>k) ?_ ?_ ?_⟩
  ·exact ⟨by omega, .inl fhc1.2⟩
  ·omega
  ·exact (b2 (b2 (bc ⟨(congrArg (T.int .i64) (show (((Qn g i).1:Nat):Int)=(((Qn g (i+1)).1:Nat):Int) from (by (rw [QaK q0];done)))),rfl⟩ (bc ⟨(congrArg (fun l_=>T.os 1 1 0 (List.map (Qm true) l_).length) he15),rfl⟩ (b2 bn)))))
  ·exact (b3 (bc ⟨(congrArg (fun l_=>some (Obj.rows 1 (List.map (Qm true) l_))) he15),(lb rfl),rfl⟩ bn))
  ·exact nd rfl
 refine VRun.exit (vthn.e (vthn.e (vinB.e (tn (sr (mO (tN ((Qn g i).1)) rfl (aO (tN ((Qn g i).1)) rfl (nt (rt (vi (n':=(((Qn g i).1:Nat):Int)) rfl ?_))))))))))
 exact congrArg (fun x:Nat=>(x:Int)) (Qe4 hI1 hI'.2 fhc1)
end Go.Proofs.YtcccmceoplcciaaGreat.AE
namespace Go.Proofs.YtcccmceoplcciaaGreat.AE
open Go Go.RowKit
set_option linter.unusedVariables false
set_option linter.unusedSimpArgs false
set_option maxRecDepth 20000
set_option maxHeartbeats 2000000
noncomputable section
def inG (g:D.Grid) (r c:Int):Prop:=(0≤r∧r<g.Rows)∧(0≤c∧c<g.Cols)
def ZI (g:D.Grid) (r c:Int):Nat:=Int.toNat (r*g.Cols+c)
def QkK (g:D.Grid) (m:List Bool) (r c:Int):Prop:=inG g r c∧Qx g.Cells (ZI g r c)=46∧on m (ZI g r c)=false
instance (g:D.Grid) (m:List Bool) (r c:Int):Decidable (QkK g m r c):=Classical.propDecidable _
def YN : Nat→D.Grid→List Bool→Int→Int→List Bool
 | 0,_,m,_,_=>m
 | d+1,g,m,r,c=>if QkK g m r c then YN d g (YN d g (YN d g (YN d g (m.set (ZI g r c) true) (r - 1) c) (r+1) c) r (c - 1)) r (c+1) else m
theorem Qb1 {g:D.Grid} {r c:Int} (hg:gridOk g) (h1:0≤r∧r<g.Rows) (h2:0≤c∧c<g.Cols):(0≤r*g.Cols∧r*g.Cols≤36)∧0≤r*g.Cols+c∧r*g.Cols+c<((g.Cells.size:Nat):Int):=by
 have hs:=hg.2.2.1
 have hz:=hg.size
 have e1:0≤r*g.Cols:=Int.mul_nonneg h1.1 (by omega)
 have e2:(r+1)*g.Cols≤g.Rows*g.Cols:=Int.mul_le_mul_of_nonneg_right (by omega) (by omega)
 rw [Int.add_mul,Int.one_mul] at e2
 omega
theorem YE {g:D.Grid} (hg:gridOk g) (a b:Nat):ZI g ((a:Nat):Int) ((b:Nat):Int)=a*wG g+b:=by
 obtain ⟨w,hw⟩:=Int.eq_ofNat_of_zero_le (show 0≤g.Cols by have:=hg.2.1;omega)
 unfold ZI wG
 rw [hw]
 show Int.toNat (((a:Nat):Int)*((w:Nat):Int)+((b:Nat):Int))=a*w+b
 rw [← Int.natCast_mul,← Int.natCast_add,Int.toNat_natCast]
theorem Qi6 {g:D.Grid} (hg:gridOk g):g.Cells.size=g.Rows.toNat*wG g:=by
 obtain ⟨⟨a1,a2⟩,⟨b1,b2⟩,hs,_⟩:=hg
 obtain ⟨w,hw⟩:=Int.eq_ofNat_of_zero_le (show 0≤g.Cols by omega)
 obtain ⟨r,hr⟩:=Int.eq_ofNat_of_zero_le (show 0≤g.Rows by omega)
 unfold wG
 rw [hw,hr] at hs ⊢
 exact_mod_cast hs
theorem Qfv {g:D.Grid} {r c:Int} (hg:gridOk g) (h:inG g r c):∃a b:Nat,r=a∧c=b∧a<g.Rows.toNat∧b<wG g:=by
 obtain ⟨⟨h1,h2⟩,h3,h4⟩:=h
 exact ⟨r.toNat,c.toNat,by omega,by omega,by omega,by unfold wG;omega⟩
theorem QlH {g:D.Grid} {r c r' c':Int} (hg:gridOk g) (h:inG g r c) (h':inG g r' c') (hn:(r'=r∧(c'=c+1∨c'=c - 1))∨(c'=c∧(r'=r+1∨r'=r - 1))):adj g (ZI g r c) (ZI g r' c'):=by
 obtain ⟨a,b,rfl,rfl,ha,hb⟩:=Qfv hg h
 obtain ⟨a',b',rfl,rfl,ha',hb'⟩:=Qfv hg h'
 rw [YE hg,YE hg]
 have hm:(a*wG g+b) % wG g=b:=by rw [Nat.mul_comm,Nat.mul_add_mod,Nat.mod_eq_of_lt hb]
 have hm':(a'*wG g+b') % wG g=b':=by rw [Nat.mul_comm,Nat.mul_add_mod,Nat.mod_eq_of_lt hb']
 rcases hn with ⟨h1,h2 | h2⟩ | ⟨h1,h2 | h2⟩
 ·obtain rfl:a'=a:=by omega
  exact .inl ⟨by omega,by rw [hm];omega⟩
 ·obtain rfl:a'=a:=by omega
  exact .inr (.inl ⟨by omega,by rw [hm'];omega⟩)
 ·obtain rfl:b'=b:=by omega
  obtain rfl:a'=a+1:=by omega
  exact .inr (.inr (.inl (by rw [Nat.add_mul,Nat.one_mul];omega)))
 ·obtain rfl:b'=b:=by omega
  obtain rfl:a=a'+1:=by omega
  exact .inr (.inr (.inr (by rw [Nat.add_mul,Nat.one_mul];omega)))
theorem QiH {g:D.Grid} {r c:Int} {y:Nat} (hg:gridOk g) (h:inG g r c) (hy:y<g.Cells.size) (ha:adj g (ZI g r c) y) :
  (inG g (r - 1) c∧y=ZI g (r - 1) c)∨(inG g (r+1) c∧y=ZI g (r+1) c)∨(inG g r (c - 1)∧y=ZI g r (c - 1))∨(inG g r (c+1)∧y=ZI g r (c+1)):=by
 have hsz:=Qi6 hg
 obtain ⟨⟨h1,h2⟩,h3,h4⟩:=h
 obtain ⟨a,b,rfl,rfl,ha',hb⟩:=Qfv hg ⟨⟨h1,h2⟩,h3,h4⟩
 rw [YE hg] at ha
 have hm:(a*wG g+b) % wG g=b:=by rw [Nat.mul_comm,Nat.mul_add_mod,Nat.mod_eq_of_lt hb]
 have hw:((wG g:Nat):Int)=g.Cols:=by have:=hg.2.1;unfold wG;omega
 rcases ha with ⟨e1,e2⟩ | ⟨e1,e2⟩ | e1 | e1
 ·rw [hm] at e2
  refine .inr (.inr (.inr ⟨⟨⟨h1,h2⟩,by omega,by omega⟩,?_⟩))
  rw [show ((b:Nat):Int)+1=((b+1:Nat):Int) by omega,YE hg];omega
 ·have hb1:1≤b:=by
   rcases Nat.eq_zero_or_pos b with h0 | h0
   ·subst h0
    exfalso
    have ha0:0<a:=by
     rcases Nat.eq_zero_or_pos a with g0 | g0
     ·subst g0;omega
     ·exact g0
    obtain ⟨a1,rfl⟩:∃a1,a=a1+1:=⟨a - 1,by omega⟩
    have e3:y=a1*wG g+(wG g - 1):=by rw [Nat.add_mul,Nat.one_mul] at e1;omega
    rw [e3,Nat.mul_comm,Nat.mul_add_mod,Nat.mod_eq_of_lt (by omega)] at e2
    omega
   ·exact h0
  refine .inr (.inr (.inl ⟨⟨⟨h1,h2⟩,by omega,by omega⟩,?_⟩))
  rw [show ((b:Nat):Int) - 1=((b - 1:Nat):Int) by omega,YE hg];omega
 ·have ha1:a+1<g.Rows.toNat:=by
   rcases Nat.lt_or_ge (a+1) g.Rows.toNat with g0 | g0
   ·exact g0
   ·have e4:g.Rows.toNat=a+1:=by omega
    rw [e4,Nat.add_mul,Nat.one_mul] at hsz
    omega
  refine .inr (.inl ⟨⟨⟨by omega,by omega⟩,h3,h4⟩,?_⟩)
  rw [show ((a:Nat):Int)+1=((a+1:Nat):Int) by omega,YE hg,Nat.add_mul,Nat.one_mul];omega
 ·have ha0:0<a:=by
   rcases Nat.eq_zero_or_pos a with g0 | g0
   ·subst g0;omega
   ·exact g0
  obtain ⟨a1,rfl⟩:∃a1,a=a1+1:=⟨a - 1,by omega⟩
  refine .inl ⟨⟨⟨by omega,by omega⟩,h3,h4⟩,?_⟩
  rw [show ((a1+1:Nat):Int) - 1=((a1:Nat):Int) by omega,YE hg]
  rw [Nat.add_mul,Nat.one_mul] at e1;omega
theorem Qa4 {g:D.Grid} {r c:Int} (hg:gridOk g) (h:inG g r c):ZI g r c<g.Cells.size:=by
 have:=Qb1 hg h.1 h.2
 unfold ZI
 omega
theorem ZF (g:D.Grid):∀d m r c,(YN d g m r c).length=m.length
 | 0,m,r,c=>rfl
 | d+1,m,r,c=>by
  rw [YN]
  split
  ·rw [ZF g d,ZF g d,ZF g d,ZF g d,List.length_set]
  ·rfl
theorem ZT {g:D.Grid} {j:Nat}:∀d m r c,on m j=true→on (YN d g m r c) j=true
 | 0,m,r,c,h=>h
 | d+1,m,r,c,h=>by
  rw [YN]
  split
  ·refine ZT d _ _ _ (ZT d _ _ _ (ZT d _ _ _ (ZT d _ _ _ ?_)))
   have hlt:=QjP h
   unfold on at h ⊢
   rw [List.getElem?_set]
   split
   ·rename_i e
    subst e
    rw [if_pos hlt];rfl
   ·exact h
  ·exact h
theorem Qga {s:List Bool} {i:Nat}:(s.set i true).count false≤s.count false:=by
 rcases Nat.lt_or_ge i s.length with h | h
 ·rw [List.count_set h];simp
 ·rw [List.set_eq_of_length_le h];exact Nat.le_refl _
theorem Y1 (g:D.Grid):∀d m r c,(YN d g m r c).count false≤m.count false
 | 0,m,r,c=>Nat.le_refl _
 | d+1,m,r,c=>by
  rw [YN]
  split
  ·exact Nat.le_trans (Y1 g d _ _ _) (Nat.le_trans (Y1 g d _ _ _) (Nat.le_trans (Y1 g d _ _ _) (Nat.le_trans (Y1 g d _ _ _) Qga)))
  ·exact Nat.le_refl _
theorem Qaf {g:D.Grid} (hg:gridOk g) {P:Nat→Prop} (hP:∀i j,P i→adj g i j→j<g.Cells.size→Qx g.Cells j=46→P j):∀d m r c,m.length=g.Cells.size→(inG g r c→Qx g.Cells (ZI g r c)=46→P (ZI g r c))→∀j,on (YN d g m r c) j=true→on m j=true∨P j
 | 0,m,r,c,_,_,j,hj=> .inl hj
 | d+1,m,r,c,hl,h,j,hj=>by
  rw [YN] at hj
  split at hj
  ·rename_i hgo
   obtain ⟨g1,g2,g3⟩:=hgo
   have hv:=h g1 g2
   have nb:∀r' c',((r'=r∧(c'=c+1∨c'=c - 1))∨(c'=c∧(r'=r+1∨r'=r - 1)))→inG g r' c'→Qx g.Cells (ZI g r' c')=46→P (ZI g r' c'):=fun r' c' hn hi hw=>hP _ _ hv (QlH hg g1 hi hn) (Qa4 hg hi) hw
   have l1:(m.set (ZI g r c) true).length=g.Cells.size:=by rw [List.length_set,hl]
   rcases Qaf hg hP d _ _ _ (by rw [ZF,ZF,ZF,l1]) (nb r (c+1) (.inl ⟨rfl, .inl rfl⟩)) j hj with hj | hj
   ·rcases Qaf hg hP d _ _ _ (by rw [ZF,ZF,l1]) (nb r (c - 1) (.inl ⟨rfl, .inr rfl⟩)) j hj with hj | hj
    ·rcases Qaf hg hP d _ _ _ (by rw [ZF,l1]) (nb (r+1) c (.inr ⟨rfl, .inl rfl⟩)) j hj with hj | hj
     ·rcases Qaf hg hP d _ _ _ l1 (nb (r - 1) c (.inr ⟨rfl, .inr rfl⟩)) j hj with hj | hj
      ·rw [Qcn (by rw [hl];exact Qa4 hg g1)] at hj
       split at hj
       ·rename_i e
        rw [e];exact .inr hv
       ·exact .inl hj
      ·exact .inr hj
     ·exact .inr hj
    ·exact .inr hj
   ·exact .inr hj
  ·exact .inl hj
theorem Qep {g:D.Grid} (hg:gridOk g) {d:Nat} {m:List Bool} {r c:Int} (hl:m.length=g.Cells.size) (hc:m.count false<d) (hi:inG g r c) (hw:Qx g.Cells (ZI g r c)=46):on (YN d g m r c) (ZI g r c)=true:=by
 cases d with
 | zero=>omega
 | succ d =>
  rw [YN]
  split
  ·refine ZT d _ _ _ (ZT d _ _ _ (ZT d _ _ _ (ZT d _ _ _ ?_)))
   rw [Qcn (by rw [hl];exact Qa4 hg hi),if_pos rfl]
  ·rename_i hn
   cases ho:on m (ZI g r c) with
   | true=>rfl
   | false=>exact absurd ⟨hi,hw,ho⟩ hn
theorem Qem {g:D.Grid} (hg:gridOk g):∀d m r c,m.length=g.Cells.size→m.count false<d→∀x y,on (YN d g m r c) x=true→¬on m x=true→adj g x y→y<g.Cells.size→Qx g.Cells y=46→on (YN d g m r c) y=true
 | 0,m,r,c,_,hc,x,y,_,_,_,_,_=>by omega
 | d+1,m,r,c,hl,hc,x,y,hx,hnx,ha,hy,hw=>by
  rw [YN] at hx ⊢
  by_cases hgo:QkK g m r c
  ·rw [if_pos hgo] at hx ⊢
   obtain ⟨g1,g2,g3⟩:=hgo
   have hcl:=Qa4 hg g1
   have l1:(m.set (ZI g r c) true).length=g.Cells.size:=by rw [List.length_set,hl]
   have c1:(m.set (ZI g r c) true).count false<d:=by
    have:=Qco (by rw [hl];exact hcl) g3
    omega
   generalize hm1:m.set (ZI g r c) true=m1 at *
   have c2:=Y1 g d m1 (r - 1) c
   have l2:=ZF g d m1 (r - 1) c
   generalize hm2:YN d g m1 (r - 1) c=m2 at *
   have c3:=Y1 g d m2 (r+1) c
   have l3:=ZF g d m2 (r+1) c
   generalize hm3:YN d g m2 (r+1) c=m3 at *
   have c4:=Y1 g d m3 r (c - 1)
   have l4:=ZF g d m3 r (c - 1)
   generalize hm4:YN d g m3 r (c - 1)=m4 at *
   have up4:∀j,on m4 j=true→on (YN d g m4 r (c+1)) j=true:=fun j h=>ZT d _ _ _ h
   have up3:∀j,on m3 j=true→on m4 j=true:=fun j h=>hm4▸ZT d _ _ _ h
   have up2:∀j,on m2 j=true→on m3 j=true:=fun j h=>hm3▸ZT d _ _ _ h
   by_cases h4:on m4 x=true
   ·by_cases h3:on m3 x=true
    ·by_cases h2:on m2 x=true
     ·by_cases h1:on m1 x=true
      ·have hxv:x=ZI g r c:=by
        rw [← hm1,Qcn (by rw [hl];exact hcl)] at h1
        split at h1
        ·assumption
        ·exact absurd h1 hnx
       subst hxv
       rcases QiH hg g1 hy ha with ⟨k1,rfl⟩ | ⟨k1,rfl⟩ | ⟨k1,rfl⟩ | ⟨k1,rfl⟩
       ·exact up4 _ (up3 _ (up2 _ (hm2▸Qep hg l1 c1 k1 hw)))
       ·exact up4 _ (up3 _ (hm3▸Qep hg (by omega) (by omega) k1 hw))
       ·exact up4 _ (hm4▸Qep hg (by omega) (by omega) k1 hw)
       ·exact Qep hg (by omega) (by omega) k1 hw
      ·exact up4 _ (up3 _ (up2 _ (hm2▸Qem hg d m1 (r - 1) c l1 c1 x y (hm2▸h2) h1 ha hy hw)))
     ·exact up4 _ (up3 _ (hm3▸Qem hg d m2 (r+1) c (by omega) (by omega) x y (hm3▸h3) h2 ha hy hw))
    ·exact up4 _ (hm4▸Qem hg d m3 r (c - 1) (by omega) (by omega) x y (hm4▸h4) h3 ha hy hw)
   ·exact Qem hg d m4 r (c+1) (by omega) (by omega) x y hx h4 ha hy hw
  ·rw [if_neg hgo] at hx
   exact absurd hx hnx
def Qh6 (g:D.Grid) (s:List Bool):Prop:=∀x y,on s x=true→adj g x y→y<g.Cells.size→Qx g.Cells y=46→on s y=true
theorem QjD (n j:Nat):on (List.replicate n false) j=false:=by
 unfold on
 rw [List.getElem?_replicate]
 split<;>rfl
theorem QgZ {g:D.Grid} {i j:Nat} (hi:i<g.Cells.size):on ((List.replicate g.Cells.size false).set i true) j=true↔j=i:=by
 rw [Qcn (by simpa using hi),QjD]
 split<;>simp [*]
theorem Qbx {g:D.Grid}:∀i,i≤g.Cells.size→Qh6 g (Qn g i).2
 | 0,_=>fun x y hx=>by rw [Qn,QjD] at hx;cases hx
 | i+1,hi=>by
  have ih:=Qbx (g:=g) i (by omega)
  by_cases hn:Qcl g (Qn g i).2 i
  ·rw [(QcR hn).2]
   intro x y hx ha hy hw
   have hl:(fresh g i).length=(Qn g i).2.length:=by rw [Qaj,YU]
   rw [QhL hl,Bool.or_eq_true] at hx ⊢
   rcases hx with hx | hx
   ·exact .inl (ih x y hx ha hy hw)
   ·exact .inr (on_reachL.2 (.step (on_reachL.1 hx) ha (by simpa using hy) hw))
  ·rw [QaK hn];exact ih
theorem Qkt {g:D.Grid} (hg:gridOk g) {d i:Nat} {m:List Bool} (hl:m.length=g.Cells.size) (hi:i<g.Cells.size) (hc:m.count false<d) (hcl:Qh6 g m) (hw:Qx g.Cells i=46) :
  YN d g m ((i / wG g:Nat):Int) ((i % wG g:Nat):Int)=QeU m (fresh g i):=by
 have hlf:(fresh g i).length=m.length:=by rw [Qaj,hl]
 have hci:ZI g ((i / wG g:Nat):Int) ((i % wG g:Nat):Int)=i:=by
  rw [YE hg,Nat.mul_comm];exact Nat.div_add_mod i _
 obtain ⟨⟨q1,q2⟩,_⟩:=Qcb hg hi
 have hin:inG g ((i / wG g:Nat):Int) ((i % wG g:Nat):Int):=by
  have hA:=hg.1
  have hB:=hg.2.1
  unfold wG
  generalize i / g.Cols.toNat=q at *
  generalize i % g.Cols.toNat=m' at *
  exact ⟨⟨by omega,by omega⟩,by omega,by omega⟩
 refine Qjv (by rw [ZF,Jp hlf]) fun j=> ?_
 rw [QhL hlf,Bool.or_eq_true]
 constructor
 ·intro hj
  rcases Qaf hg (P:=fun j=>Rch g ((List.replicate g.Cells.size false).set i true) j) (fun a b h ha hb hw=> .step h ha (by simpa using hb) hw) d m _ _ hl (fun _ _=>by rw [hci];exact .base ((QgZ hi).2 rfl)) j hj with h | h
  ·exact .inl h
  ·exact .inr (on_reachL.2 h)
 ·rintro (hj | hj)
  ·exact ZT d _ _ _ hj
  ·have hr:=on_reachL.1 hj
   clear hj
   induction hr with
   | base h =>
    obtain rfl:=(QgZ hi).1 h
    have:=Qep hg hl hc hin (by rw [hci];exact hw)
    rwa [hci] at this
   | step h ha hb hw2 ih =>
    rename_i a b
    have hb':b<g.Cells.size:=by simpa using hb
    by_cases hma:on m a=true
    ·exact ZT d _ _ _ (hcl a b hma ha hb' hw2)
    ·exact Qem hg d m _ _ hl hc a b ih hma ha hb' hw2
end
theorem QcQ (n:Nat) (nn:Nat) (g:D.Grid):∀(d:Nat) (met:List Bool) (r:Int) (c:Int) (hg:gridOk g) (hn:nn=g.Cells.size) (hl:met.length=nn) (hr: -1≤r∧r≤6) (hc: -1≤c∧c≤6) (hu:met.count false<d),Loan (Qr Tryz.prog (n+d+1)) 185 1 (List.map (Qm true) met) [(tI r),(tI c),(T.rp (Qb false g)),(T.vp [(T.os 1 0 0 nn)]),(vtT 185 (T.rp (Qb false g)) (T.vp [(T.os 1 0 0 nn)]) d)] (T.tup []) (List.map (Qm true) (YN d g met r c)):=by
 intro d
 induction d with
 | zero=>intro met r c hg hn hl hr hc hu;exact absurd hu (Nat.not_lt_zero _)
 | succ d ih =>
 intro met r c hg hn hl hr hc hu
 refine Loan.intro (n:=n+d+1) (rs:= []) (j:=3) (pin:=(T.vp [(T.os 1 0 0 nn)])) Tryz.func185 rfl rfl rfl (by kernel_rfl) rfl (.vp _ _) .none (Zl (fun _=>rfl) _) (Zl (fun _=>rfl) _) (E0:= [(0,(tI r)),(1,(tI c)),(2,(T.rp (Qb false g))),(3,(T.vp [(T.os 1 0 0 nn)])),(4,(vtT 185 (T.rp (Qb false g)) (T.vp [(T.os 1 0 0 nn)]) (d+1)))]) rfl ?_
 obtain ⟨hlim,hmx,hmax⟩:=QG
 have hsz:=hg.size
 have hA:=hg.1
 have hB:=hg.2.1
 refine sq (sr (mO (tI r) rfl (lr (tI g.Rows) rfl (lb rfl) J4 rfl QR (cO (cS (vc (tv (tI r) rfl) (vc (tv (tI g.Rows) rfl) vn)) (ZU rfl) (YS (n+d+0) r g.Rows) rfl rfl) (fO (QZ (tv (tB (decide (0≤r∧r<g.Rows))) rfl)) (mO (tB (!(decide (0≤r∧r<g.Rows)))) rfl ?_))))))
 refine VRunO.joinB 6 [13,14,15,16,17] 18 (tB (decide ((¬(0≤r∧r<g.Rows))∨(¬(0≤c∧c<g.Cols))))) ?_ ?_
 ·refine gn (0≤r∧r<g.Rows) (fun fhg12_1=> ?_) fun fhg12_1=> ?_
  ·refine QA 5 5 false 12 (ny fhg12_1) rfl rfl rfl ?_
   refine fO (OF.pickT (VEv.tmpB rfl (ny fhg12_1)) (VEv.bool true)) (VRunO.nil ?_)
   exact jq (congrArg T.bool (kOT fhg12_1)) (js rfl (js rfl (js rfl (js rfl (js rfl (jn))))))
  ·refine gF (nz fhg12_1) rfl rfl (OF.move (tv (tI c) rfl)) ?_
   refine glr (tI g.Cols) (nz fhg12_1) rfl rfl rfl rfl (lb rfl) Zd rfl QR (VRunO.chain (VWant.on rfl rfl (nz fhg12_1)) (cS (vc (tv (tI c) rfl) (vc (tv (tI g.Cols) rfl) vn)) (ZU rfl) (YS (n+d+0) c g.Cols) rfl rfl) (gF (nz fhg12_1) rfl rfl (QZ (tv (tB (decide (0≤c∧c<g.Cols))) rfl)) (fO (OF.pickF (VEv.tmpB rfl (nz fhg12_1)) (tv (tB (!(decide (0≤c∧c<g.Cols)))) rfl)) (VRunO.nil ?_))))
   exact jq (congrArg T.bool (kOF (not_not_intro fhg12_1) dN)) (js rfl (js rfl (js rfl (js rfl (js rfl (jn))))))
 refine mO (tB (decide ((¬(0≤r∧r<g.Rows))∨(¬(0≤c∧c<g.Cols))))) rfl ?_
 refine VRunO.joinB 10 [20,21,22,23,24,25,26,27,28] 29 (tB (decide (((¬(0≤r∧r<g.Rows))∨(¬(0≤c∧c<g.Cols)))∨((met[(Int.toNat ((r*g.Cols)+c))]?.getD false)=true)))) ?_ ?_
 ·refine gw ((¬(0≤r∧r<g.Rows))∨(¬(0≤c∧c<g.Cols))) (fun fhg19_2=> ?_) fun fhg19_2=> ?_
  ·refine QA 9 12 false 19 (dy fhg19_2) rfl rfl rfl ?_
   refine fO (OF.pickT (VEv.tmpB rfl (dy fhg19_2)) (VEv.bool true)) (VRunO.nil ?_)
   exact jq (congrArg T.bool (kOT fhg19_2)) (js rfl (js rfl (js rfl (js rfl (js rfl (js rfl (js rfl (js rfl (js rfl (jn))))))))))
  ·have hz:=Qb1 hg (r:=r) (c:=c) (by omega) (by omega)
   refine gL (dz fhg19_2) rfl rfl (OL.loadV1 (t:=(T.os 1 0 0 nn)) (tv (T.vp [(T.os 1 0 0 nn)]) rfl) rfl QjK) (gF (dz fhg19_2) rfl rfl (OF.move (tv (tI r) rfl)) (glr (tI g.Cols) (dz fhg19_2) rfl rfl rfl rfl (lb rfl) Zd rfl QR (gF (dz fhg19_2) rfl rfl (B.mul (n:=(r*g.Cols)) (tv (tI r) rfl) (tv (tI g.Cols) rfl) (by (rw [Qt (by omega)];done))) (gF (dz fhg19_2) rfl rfl (OF.move (tv (tI c) rfl)) (gF (dz fhg19_2) rfl rfl (B.add (n:=((r*g.Cols)+c)) (tv (tI (r*g.Cols)) rfl) (tv (tI c) rfl) (by (rw [Qt (by omega)];done))) ?_)))))
   have hy3:met[(Int.toNat ((r*g.Cols)+c))]? =some (met[(Int.toNat ((r*g.Cols)+c))]?.getD false):=JR false (by omega)
   refine gF (dz fhg19_2) rfl rfl (B.indexAddrO (i:=(Int.toNat ((r*g.Cols)+c))) (tv (T.os 1 0 0 nn) rfl) (tv (tI ((r*g.Cols)+c)) rfl) (by omega) (by omega) YT sz4 if4) (gL (dz fhg19_2) rfl rfl (OL.loadP1 (t:=(tB (met[(Int.toNat ((r*g.Cols)+c))]?.getD false))) (row:=(Qm true (met[(Int.toNat ((r*g.Cols)+c))]?.getD false))) (tv (T.orp 1 0 (Int.toNat ((r*g.Cols)+c)) 0) rfl) rfl (Qw _ hy3) rfl rfl st4) (fO (OF.pickF (VEv.tmpB rfl (dz fhg19_2)) (tv (tB (met[(Int.toNat ((r*g.Cols)+c))]?.getD false)) rfl)) (VRunO.nil ?_)))
   exact jq (congrArg T.bool (kOF fhg19_2 (dT _))) (js rfl (js rfl (js rfl (js rfl (js rfl (js rfl (js rfl (js rfl (js rfl (jn))))))))))
 refine mO (tB (decide (((¬(0≤r∧r<g.Rows))∨(¬(0≤c∧c<g.Cols)))∨((met[(Int.toNat ((r*g.Cols)+c))]?.getD false)=true)))) rfl ?_
 refine VRunO.joinB 11 [31,32,33,34,35,36,37,38,39,40] 41 (tB (decide ((((¬(0≤r∧r<g.Rows))∨(¬(0≤c∧c<g.Cols)))∨((met[(Int.toNat ((r*g.Cols)+c))]?.getD false)=true))∨(¬(Qx g.Cells (Int.toNat ((r*g.Cols)+c))=46))))) ?_ ?_
 ·refine gw (((¬(0≤r∧r<g.Rows))∨(¬(0≤c∧c<g.Cols)))∨((met[(Int.toNat ((r*g.Cols)+c))]?.getD false)=true)) (fun fhg30_4=> ?_) fun fhg30_4=> ?_
  ·refine QA 10 23 false 30 (dy fhg30_4) rfl rfl rfl ?_
   refine fO (OF.pickT (VEv.tmpB rfl (dy fhg30_4)) (VEv.bool true)) (VRunO.nil ?_)
   exact jq (congrArg T.bool (kOT fhg30_4)) (js rfl (js rfl (js rfl (js rfl (js rfl (js rfl (js rfl (js rfl (js rfl (js rfl (jn)))))))))))
  ·have hz:=Qb1 hg (r:=r) (c:=c) (by omega) (by omega)
   refine glr (tS g.Cells) (dz fhg30_4) rfl rfl rfl rfl (lb rfl) QC rfl Z6 (gF (dz fhg30_4) rfl rfl (OF.move (tv (tI r) rfl)) (glr (tI g.Cols) (dz fhg30_4) rfl rfl rfl rfl (lb rfl) Zd rfl QR (gF (dz fhg30_4) rfl rfl (B.mul (n:=(r*g.Cols)) (tv (tI r) rfl) (tv (tI g.Cols) rfl) (by (rw [Qt (by omega)];done))) (gF (dz fhg30_4) rfl rfl (OF.move (tv (tI c) rfl)) (gF (dz fhg30_4) rfl rfl (B.add (n:=((r*g.Cols)+c)) (tv (tI (r*g.Cols)) rfl) (tv (tI c) rfl) (by (rw [Qt (by omega)];done))) ?_)))))
   have hb5:(Int.toNat ((r*g.Cols)+c))<g.Cells.size:=(by omega)
   refine gF (dz fhg30_4) rfl rfl (B.index (n:=(Qx g.Cells (Int.toNat ((r*g.Cols)+c)))) (i:=(Int.toNat ((r*g.Cols)+c))) (tv (tS g.Cells) rfl) (tv (tI ((r*g.Cols)+c)) rfl) (by omega) hb5 U9 (JD hb5)) (gF (dz fhg30_4) rfl rfl (xne (tv (T.int .u8 (Qx g.Cells (Int.toNat ((r*g.Cols)+c)))) rfl) (VEv.int .u8 46)) (fO (OF.pickF (VEv.tmpB rfl (dz fhg30_4)) (tv (tB (!(decide (Qx g.Cells (Int.toNat ((r*g.Cols)+c))=46)))) rfl)) (VRunO.nil ?_)))
   exact jq (congrArg T.bool (kOF fhg30_4 dN)) (js rfl (js rfl (js rfl (js rfl (js rfl (js rfl (js rfl (js rfl (js rfl (js rfl (jn)))))))))))
 refine nt ?_
 refine cd ((((¬(0≤r∧r<g.Rows))∨(¬(0≤c∧c<g.Cols)))∨((met[(Int.toNat ((r*g.Cols)+c))]?.getD false)=true))∨(¬(Qx g.Cells (Int.toNat ((r*g.Cols)+c))=46))) rfl (fun fhc0=> ?_) fun fhc0=> ?_
 ·refine rt ?_
  refine tr ?_
  have hnew:met=YN (d+1) g met r c:=by
   rw [YN,if_neg];rintro ⟨h1,h2,h3⟩;rcases fhc0 with (h | h) | h;exact h.elim (fun h=>h h1.1) (fun h=>h h1.2);exact on_no.1 h3 h;exact h h2
  exact vloan.r 0 VRes.nil rfl rfl rfl (congrArg (List.map (Qm true)) hnew)
 have hz:=Qb1 hg (r:=r) (c:=c) (by omega) (by omega)
 have hin:inG g r c:=⟨by omega,by omega⟩
 have hgo:QkK g met r c:=⟨hin,by unfold ZI;omega,on_no.2 (fun h=>fhc0 (.inl (.inr h)))⟩
 have hct:=Qco (s:=met) (i:=ZI g r c) (by rw [hl,hn];exact Qa4 hg hin) hgo.2.2
 unfold ZI at hct
 have d1:=Y1 g d (met.set (Int.toNat (r*g.Cols+c)) true) (r - 1) c
 have d2:=Y1 g d (YN d g (met.set (Int.toNat (r*g.Cols+c)) true) (r - 1) c) (r+1) c
 have d3:=Y1 g d (YN d g (YN d g (met.set (Int.toNat (r*g.Cols+c)) true) (r - 1) c) (r+1) c) r (c - 1)
 refine sk (tn (sr (lO (OL.loadV1 (t:=(T.os 1 0 0 nn)) (tv (T.vp [(T.os 1 0 0 nn)]) rfl) rfl QjK) (mO (tI r) rfl (lr (tI g.Cols) rfl (lb rfl) Zd rfl QR (fO (B.mul (n:=(r*g.Cols)) (tv (tI r) rfl) (tv (tI g.Cols) rfl) (by (rw [Qt (by omega)];done))) (mO (tI c) rfl (fO (B.add (n:=((r*g.Cols)+c)) (tv (tI (r*g.Cols)) rfl) (tv (tI c) rfl) (by (rw [Qt (by omega)];done))) ?_))))))))
 obtain ⟨x1,hx1⟩:∃x,met[(Int.toNat ((r*g.Cols)+c))]? =some x:=⟨_,List.getElem?_eq_getElem (by omega)⟩
 refine fO (B.indexAddrO (i:=(Int.toNat ((r*g.Cols)+c))) (tv (T.os 1 0 0 nn) rfl) (tv (tI ((r*g.Cols)+c)) rfl) (by omega) (by omega) YT sz4 if4) (cO (B.storeP (us:= [(tB true)]) (rows':=((met.set (Int.toNat ((r*g.Cols)+c)) true).map (Qm true))) (row:=(Qm true x1)) (tv (T.orp 1 0 (Int.toNat ((r*g.Cols)+c)) 0) rfl) (VEv.bool true) nofun rfl (Qw _ hx1) rfl (lb rfl) if4 sz4 (bc rfl bn) (by intro r hr t ht;obtain ⟨x,_,rfl⟩:=List.mem_map.1 hr;rw [QfB] at ht;exact ZD (okBool.pl _ t ht)) (Zy rfl)) (nt (sr (lO (OL.loadV1 (t:=(T.fn 185 [(T.rp (Qb false g)),(T.vp [(T.os 1 0 0 nn)]),(vtT 185 (T.rp (Qb false g)) (T.vp [(T.os 1 0 0 nn)]) d)])) (tv (vtT 185 (T.rp (Qb false g)) (T.vp [(T.os 1 0 0 nn)]) (d+1)) rfl) rfl Qgy) (mO (tI r) rfl (fO (B.sub (n:=(r - 1)) (tv (tI r) rfl) (VEv.int .i64 1) (by (rw [Qt (by omega)];done))) (mO (tI c) rfl (cO (OC.callvLoan (ts:= [(tI (r - 1)),(tI c),(T.rp (Qb false g)),(T.vp [(T.os 1 0 0 nn)]),(vtT 185 (T.rp (Qb false g)) (T.vp [(T.os 1 0 0 nn)]) d)]) (k:=0) (r:=(T.tup [])) (rows:=((met.set (Int.toNat ((r*g.Cols)+c)) true).map (Qm true))) (rows':=((YN d g (met.set (Int.toNat ((r*g.Cols)+c)) true) (r - 1) c).map (Qm true))) rfl rfl (vc (tv (tI (r - 1)) rfl) (vc (tv (tI c) rfl) vn)) rfl (by simp only [Qab,ren,Qbf,List.cons_append,List.nil_append]) (tl rfl (tl rfl (tl rfl (tl rfl (tl (Qcx rfl rfl _) rfl))))) LRes.none rfl (Zl (fun _=>rfl) _) (Zl (fun _=>rfl) _) (ih (met.set (Int.toNat ((r*g.Cols)+c)) true) (r - 1) c (by assumption) (by assumption) (by (simp only [ZF,List.length_set];omega)) (by omega) (by assumption) (by omega))) (nt (sr (lO (OL.loadV1 (t:=(T.fn 185 [(T.rp (Qb false g)),(T.vp [(T.os 1 0 0 nn)]),(vtT 185 (T.rp (Qb false g)) (T.vp [(T.os 1 0 0 nn)]) d)])) (tv (vtT 185 (T.rp (Qb false g)) (T.vp [(T.os 1 0 0 nn)]) (d+1)) rfl) rfl Qgy) ?_)))))))))))
 refine mO (tI r) rfl (fO (B.add (n:=(r+1)) (tv (tI r) rfl) (VEv.int .i64 1) (by (rw [Qt (by omega)];done))) (mO (tI c) rfl (cO (OC.callvLoan (ts:= [(tI (r+1)),(tI c),(T.rp (Qb false g)),(T.vp [(T.os 1 0 0 nn)]),(vtT 185 (T.rp (Qb false g)) (T.vp [(T.os 1 0 0 nn)]) d)]) (k:=0) (r:=(T.tup [])) (rows:=((YN d g (met.set (Int.toNat ((r*g.Cols)+c)) true) (r - 1) c).map (Qm true))) (rows':=((YN d g (YN d g (met.set (Int.toNat ((r*g.Cols)+c)) true) (r - 1) c) (r+1) c).map (Qm true))) rfl rfl (vc (tv (tI (r+1)) rfl) (vc (tv (tI c) rfl) vn)) rfl (by simp only [Qab,ren,Qbf,List.cons_append,List.nil_append]) (tl rfl (tl rfl (tl rfl (tl rfl (tl (Qcx rfl rfl _) rfl))))) LRes.none rfl (Zl (fun _=>rfl) _) (Zl (fun _=>rfl) _) (ih (YN d g (met.set (Int.toNat ((r*g.Cols)+c)) true) (r - 1) c) (r+1) c (by assumption) (by assumption) (by (simp only [ZF,List.length_set];omega)) (by omega) (by assumption) (by omega))) (nt (sr (lO (OL.loadV1 (t:=(T.fn 185 [(T.rp (Qb false g)),(T.vp [(T.os 1 0 0 nn)]),(vtT 185 (T.rp (Qb false g)) (T.vp [(T.os 1 0 0 nn)]) d)])) (tv (vtT 185 (T.rp (Qb false g)) (T.vp [(T.os 1 0 0 nn)]) (d+1)) rfl) rfl Qgy) (mO (tI r) rfl (mO (tI c) rfl (fO (B.sub (n:=(c - 1)) (tv (tI c) rfl) (VEv.int .i64 1) (by (rw [Qt (by omega)];done))) (cO (OC.callvLoan (ts:= [(tI r),(tI (c - 1)),(T.rp (Qb false g)),(T.vp [(T.os 1 0 0 nn)]),(vtT 185 (T.rp (Qb false g)) (T.vp [(T.os 1 0 0 nn)]) d)]) (k:=0) (r:=(T.tup [])) (rows:=((YN d g (YN d g (met.set (Int.toNat ((r*g.Cols)+c)) true) (r - 1) c) (r+1) c).map (Qm true))) (rows':=((YN d g (YN d g (YN d g (met.set (Int.toNat ((r*g.Cols)+c)) true) (r - 1) c) (r+1) c) r (c - 1)).map (Qm true))) rfl rfl (vc (tv (tI r) rfl) (vc (tv (tI (c - 1)) rfl) vn)) rfl (by simp only [Qab,ren,Qbf,List.cons_append,List.nil_append]) (tl rfl (tl rfl (tl rfl (tl rfl (tl (Qcx rfl rfl _) rfl))))) LRes.none rfl (Zl (fun _=>rfl) _) (Zl (fun _=>rfl) _) (ih (YN d g (YN d g (met.set (Int.toNat ((r*g.Cols)+c)) true) (r - 1) c) (r+1) c) r (c - 1) (by assumption) (by assumption) (by (simp only [ZF,List.length_set];omega)) (by assumption) (by omega) (by omega))) (nt ?_)))))))))))
 refine VRun.region (lO (OL.loadV1 (t:=(T.fn 185 [(T.rp (Qb false g)),(T.vp [(T.os 1 0 0 nn)]),(vtT 185 (T.rp (Qb false g)) (T.vp [(T.os 1 0 0 nn)]) d)])) (tv (vtT 185 (T.rp (Qb false g)) (T.vp [(T.os 1 0 0 nn)]) (d+1)) rfl) rfl Qgy) (mO (tI r) rfl (mO (tI c) rfl (fO (B.add (n:=(c+1)) (tv (tI c) rfl) (VEv.int .i64 1) (by (rw [Qt (by omega)];done))) (cO (OC.callvLoan (ts:= [(tI r),(tI (c+1)),(T.rp (Qb false g)),(T.vp [(T.os 1 0 0 nn)]),(vtT 185 (T.rp (Qb false g)) (T.vp [(T.os 1 0 0 nn)]) d)]) (k:=0) (r:=(T.tup [])) (rows:=((YN d g (YN d g (YN d g (met.set (Int.toNat ((r*g.Cols)+c)) true) (r - 1) c) (r+1) c) r (c - 1)).map (Qm true))) (rows':=((YN d g (YN d g (YN d g (YN d g (met.set (Int.toNat ((r*g.Cols)+c)) true) (r - 1) c) (r+1) c) r (c - 1)) r (c+1)).map (Qm true))) rfl rfl (vc (tv (tI r) rfl) (vc (tv (tI (c+1)) rfl) vn)) rfl (by simp only [Qab,ren,Qbf,List.cons_append,List.nil_append]) (tl rfl (tl rfl (tl rfl (tl rfl (tl (Qcx rfl rfl _) rfl))))) LRes.none rfl (Zl (fun _=>rfl) _) (Zl (fun _=>rfl) _) (ih (YN d g (YN d g (YN d g (met.set (Int.toNat ((r*g.Cols)+c)) true) (r - 1) c) (r+1) c) r (c - 1)) r (c+1) (by assumption) (by assumption) (by (simp only [ZF,List.length_set];omega)) (by assumption) (by omega) (by omega))) (VRunO.nil ?_))))))
 have hnew:YN d g (YN d g (YN d g (YN d g (met.set (Int.toNat ((r*g.Cols)+c)) true) (r - 1) c) (r+1) c) r (c - 1)) r (c+1)=YN (d+1) g met r c:=by
  rw [YN,if_pos hgo];rfl
 exact vloan.n 0 VRes.nil rfl rfl rfl (congrArg (List.map (Qm true)) hnew)
theorem Qd6 (n:Nat) (g:D.Grid) (hc:g.Cells.size≤mx):Pure (Qr Tryz.prog (n+39)) 161 [(T.agg (Qb false g))] (tN (ZR g)):=by
 refine Pure.intro (rs:= [ResultVar.tmp 2]) Tryz.func161 rfl rfl rfl (E0:= [(0,(T.agg (Qb false g)))]) rfl ?_
 obtain ⟨hlim,hmx,hmax⟩:=QG
 refine sr (kO (B.box (ts:=(Qb false g)) (tv (T.agg (Qb false g)) rfl) nofun rfl) (fO (OF.assign (VEv.int .i64 0)) (nt (sq (sr (lO (OL.loadOn (us:=(Qb false g)) (tv (T.op 0 0) rfl) rfl Q3 QW (lb rfl) rfl) (cO (cS (vc (tv (T.agg (Qb false g)) rfl) vn) (LendL.cons (lg Qv) ln) (Z2 (n+36) g (by omega)) rfl rfl) (fO (QZ (tv (tB (decide (gridOk g))) rfl)) (nt ?_)))))))))
 refine cn (gridOk g) rfl (fun fhc0=> ?_) fun fhc0=> ?_
 ·refine sr ?_
  refine fO (OF.assign (VEv.int .i64 0)) (nt (rt (tr (vi (n':=0) rfl ?_))))
  rw [ZR,if_neg (by simpa using fhc0)];rfl
 have hgo:gridOk g:=by simpa using fhc0
 have hsz:=hgo.size
 have hA:=hgo.1
 have hB:=hgo.2.1
 refine sk (tn (sr (lf (tS g.Cells) rfl QC rfl rfl Z6 (lO (B.lenS (tv (tS g.Cells) rfl) U9) (kO (B.makeZ (n:=g.Cells.size) (m:=((List.replicate g.Cells.size false).map (Qm true)).length) (rows:=((List.replicate g.Cells.size false).map (Qm true))) (zr:=(Qm true false)) (tv (tN g.Cells.size) rfl) (tv (tN g.Cells.size) rfl) rfl YT zo4 zc4 rfl (by rw [sz4];decide) (by omega) (of_decide_eq_true (by kernel_rfl)) (Z0.bool Z0.nil) sz4 (List.map_replicate ..).symm (by rw [List.length_map,List.length_replicate])) (kO (B.alloc (t:=T.nils) (ts:= [T.nils]) Qmf Qmn nofun (fun _=> .nils) rfl) (cO (B.storeO (us:= [(T.os 1 1 0 (((List.replicate g.Cells.size false).map (Qm true)).length))]) (ws:= [(T.os 1 1 0 (((List.replicate g.Cells.size false).map (Qm true)).length))]) (tv (T.op 2 0) rfl) (tv (T.os 1 1 0 (((List.replicate g.Cells.size false).map (Qm true)).length)) rfl) nofun rfl rfl (lb rfl) Ql7 Qmm (bc rfl bn) rfl) (nt (sr (kO (B.alloc (t:=T.fn0) (ts:= [T.fn0]) (show Q5 Tryz.prog 178=some .nilFunc by kernel_rfl) (show closedV .nilFunc=true by kernel_rfl) nofun (fun _=> .fn0) rfl) (nt ?_)))))))))))
 refine sr (fO (OF.makeFunc (vc (tv (T.op 0 0) rfl) (vc (tv (T.op 2 0) rfl) (vc (tv (T.op 3 0) rfl) vn)))) (cO (B.storeO (us:= [(T.fn 185 [(T.op 0 0),(T.op 2 0),(T.op 3 0)])]) (ws:= [(T.fn 185 [(T.op 0 0),(T.op 2 0),(T.op 3 0)])]) (tv (T.op 3 0) rfl) (tv (T.fn 185 [(T.op 0 0),(T.op 2 0),(T.op 3 0)]) rfl) nofun rfl rfl (lb rfl) Qme Qmg (bc rfl bn) rfl) (nt (VRun.wk (Wk.recv (sz:=1) (k:=1) (us:=(Qb false g)) (f:=185) 38 (d1:=1) (d2:=3) (d3:=4) rfl rfl rfl rfl rfl rfl (by decide) (by decide) (by decide) (bc rfl (bc rfl (bc rfl bn)))) (sr (fO (OF.assign (VEv.int .i64 0)) (nt (sq (sr (lr (tS g.Cells) rfl (lb rfl) QC rfl Z6 (lO (B.lenS (tv (tS g.Cells) rfl) U9) ?_)))))))))))
 refine fO (OF.move (VEv.int .i64 0)) (nt (VRun.block ?_))
 have he1:(List.replicate g.Cells.size false)=(Qn g 0).2:=by rfl
 refine VRun.loop (A:=Nat) (fun s_=> [(1,(T.rp (Qb false g))),(2,(tN 0)),(3,(T.vp [(T.os 1 0 0 (((List.replicate g.Cells.size false).map (Qm true)).length))])),(4,(vtT 185 (T.rp (Qb false g)) (T.vp [(T.os 1 0 0 (((List.replicate g.Cells.size false).map (Qm true)).length))]) 38)),(5,(tN ((Qn g s_).1))),(17,(tN g.Cells.size)),(18,(tN s_))]) (fun s_=>Q4 [(0,(Obj.rows 1 (((Qn g s_).2).map (Qm true))))]) 1 (fun s_=>s_≤g.Cells.size) (fun s_=>g.Cells.size - s_) (0:Nat) ?_ (Wk.mk (fun k=>if k=0 then 1 else k) ?_ ?_ ?_) ?_
 ·(simp;done)
 ·exact (b2 (b2 (b2 (b2 (bc ⟨(congrArg (T.int .i64) (show 0=(((Qn g 0).1:Nat):Int) from (by rfl))),rfl⟩ (b2 (b2 bn)))))))
 ·exact (bc ⟨(congrArg (fun l_=>some (Obj.rows 1 (List.map (Qm true) l_))) he1),(lb rfl),rfl⟩ bn)
 ·exact nd rfl
 rintro i (hI':i≤g.Cells.size)
 show VRun _ _ _ [(1,(T.rp (Qb false g))),(2,(tN 0)),(3,(T.vp [(T.os 1 0 0 (((List.replicate g.Cells.size false).map (Qm true)).length))])),(4,(vtT 185 (T.rp (Qb false g)) (T.vp [(T.os 1 0 0 (((List.replicate g.Cells.size false).map (Qm true)).length))]) 38)),(5,(tN ((Qn g i).1))),(17,(tN g.Cells.size)),(18,(tN i))] (Q4 [(0,(Obj.rows 1 (((Qn g i).2).map (Qm true))))]) 1 _
 have hI1:=hI'
 have hpl:=YU g i
 have hpn:=Qc0 g i
 refine sr (fO (Zn (tv (tN i) rfl) (tv (tN g.Cells.size) rfl)) (nt (sq ?_)))
 refine cd (i<g.Cells.size) rfl (fun fhc1=> ?_) fun fhc1=> ?_
 ·refine sk ?_
  refine tn (sq (VRun.block (sr (mO (tN i) rfl (aO (tN i) rfl (nt (sr (lr (tS g.Cells) rfl (lb rfl) QC rfl Z6 (mO (tN i) rfl ?_)))))))))
  have hb2:i<g.Cells.size:=(by omega)
  refine fO (xix (tv (tS g.Cells) rfl) (tv (tN i) rfl) hb2 U9) (fO (Y4 (tv (T.int .u8 (Qx g.Cells i)) rfl) (VEv.int .u8 46)) (mO (tB (decide (Qx g.Cells i=46))) rfl ?_))
  refine VRunO.joinB 6 [27,28,29,30,31] 32 (tB (decide ((Qx g.Cells i=46)∧((!(((Qn g i).2)[i]?.getD false))=true)))) ?_ ?_
  ·refine gw (Qx g.Cells i=46) (fun fhg26_3=> ?_) fun fhg26_3=> ?_
   ·refine gL (dy fhg26_3) rfl rfl (OL.loadV1 (t:=(T.os 1 0 0 (((List.replicate g.Cells.size false).map (Qm true)).length))) (tv (T.vp [(T.os 1 0 0 (((List.replicate g.Cells.size false).map (Qm true)).length))]) rfl) rfl QjK) ?_
    refine gF (dy fhg26_3) rfl rfl (OF.move (tv (tN i) rfl)) ?_
    have hy4:((Qn g i).2)[i]? =some (((Qn g i).2)[i]?.getD false):=JR false (by omega)
    refine gF (dy fhg26_3) rfl rfl (B.indexAddrO (i:=i) (tv (T.os 1 0 0 (((List.replicate g.Cells.size false).map (Qm true)).length)) rfl) (tv (tN i) rfl) rfl (by (simp only [List.length_map,List.length_replicate];omega)) YT sz4 if4) (gL (dy fhg26_3) rfl rfl (OL.loadP1 (t:=(tB (((Qn g i).2)[i]?.getD false))) (row:=(Qm true (((Qn g i).2)[i]?.getD false))) (tv (T.orp 1 0 i 0) rfl) rfl (Qw _ hy4) rfl rfl st4) (gF (dy fhg26_3) rfl rfl (QZ (tv (tB (((Qn g i).2)[i]?.getD false)) rfl)) (fO (OF.pickT (VEv.tmpB rfl (dy fhg26_3)) (tv (tB (!(((Qn g i).2)[i]?.getD false))) rfl)) (VRunO.nil ?_))))
    exact jq (congrArg T.bool (kAT fhg26_3 (dT _))) (js rfl (js rfl (js rfl (js rfl (js rfl (jn))))))
   ·refine QA 5 5 true 26 (dz fhg26_3) rfl rfl rfl ?_
    refine fO (OF.pickF (VEv.tmpB rfl (dz fhg26_3)) (VEv.bool false)) (VRunO.nil ?_)
    exact jq (congrArg T.bool (kAF fhg26_3)) (js rfl (js rfl (js rfl (js rfl (js rfl (jn))))))
  refine nt ?_
  refine cd ((Qx g.Cells i=46)∧((!(((Qn g i).2)[i]?.getD false))=true)) rfl (fun fhc2=> ?_) fun fhc2=> ?_
  ·have q0:Qcl g (Qn g i).2 i:=⟨fhc2.1,by simpa [on] using fhc2.2⟩
   have q1:=QcR q0
   have hci:=Qcb hgo (show i<g.Cells.size by omega)
   have hq0:0≤((i:Nat):Int) / ((g.Cols.toNat:Nat):Int):=Int.ediv_nonneg (by omega) (by omega)
   have hm0:0≤((i:Nat):Int) % ((g.Cols.toNat:Nat):Int):=Int.emod_nonneg _ (by omega)
   refine sr (mO (tN ((Qn g i).1)) rfl (fO (QD (tv (tN ((Qn g i).1)) rfl) (VEv.int .i64 1) (by omega)) (aO (tN ((Qn g i).1+1)) rfl (nt (VRun.draw (B:= [[],[],[],[2],[2,3,1],[],[],[6],[6,7,5],[5,7,6,8,1,3,2,4,0]]) (by kernel_rfl) (by kernel_rfl) (lD (OL.loadV1 (t:=(T.fn 185 [(T.rp (Qb false g)),(T.vp [(T.os 1 0 0 (((List.replicate g.Cells.size false).map (Qm true)).length))]),(vtT 185 (T.rp (Qb false g)) (T.vp [(T.os 1 0 0 (((List.replicate g.Cells.size false).map (Qm true)).length))]) 37)])) (tv (vtT 185 (T.rp (Qb false g)) (T.vp [(T.os 1 0 0 (((List.replicate g.Cells.size false).map (Qm true)).length))]) 38) rfl) rfl Qgy) rfl rfl (mD (tN i) rfl rfl (fD (B.fieldAddrR (us:=((Qb false g).drop 1)) (tv (T.rp (Qb false g)) rfl) (lb rfl) Zd rfl) rfl rfl (lD (OL.loadR1 (t:=(tI g.Cols)) (tv (T.rp ((Qb false g).drop 1)) rfl) rfl QR) rfl rfl (fD (B.quo (n:=((i / g.Cols.toNat:Nat):Int)) (tv (tN i) rfl) (tv (tI g.Cols) rfl) (by omega) (by (refine QlD ?_ ?_<;>omega))) rfl rfl (mD (tN i) rfl rfl ?_)))))))))))
   refine fD (B.fieldAddrR (us:=((Qb false g).drop 1)) (tv (T.rp (Qb false g)) rfl) (lb rfl) Zd rfl) rfl rfl (lD (OL.loadR1 (t:=(tI g.Cols)) (tv (T.rp ((Qb false g).drop 1)) rfl) rfl QR) rfl rfl (fD (B.rem (n:=((i % g.Cols.toNat:Nat):Int)) (tv (tN i) rfl) (tv (tI g.Cols) rfl) (by omega) (by (refine Qkx ?_;omega))) rfl rfl (VRunD.chain (bi:= [5,7,6,8,1,3,2,4,0]) rfl VWant.always rfl rfl rfl (by kernel_rfl) (OC.callvLoan (ts:= [(tN (i / g.Cols.toNat)),(tN (i % g.Cols.toNat)),(T.rp (Qb false g)),(T.vp [(T.os 1 0 0 (((List.replicate g.Cells.size false).map (Qm true)).length))]),(vtT 185 (T.rp (Qb false g)) (T.vp [(T.os 1 0 0 (((List.replicate g.Cells.size false).map (Qm true)).length))]) 37)]) (k:=0) (r:=(T.tup [])) (rows:=(((Qn g i).2).map (Qm true))) (rows':=((YN 37 g ((Qn g i).2) ((i / g.Cols.toNat:Nat):Int) ((i % g.Cols.toNat:Nat):Int)).map (Qm true))) rfl rfl (vc (tv (tN (i / g.Cols.toNat)) rfl) (vc (tv (tN (i % g.Cols.toNat)) rfl) vn)) rfl (by simp only [Qab,ren,Qbf,List.cons_append,List.nil_append]) (tl rfl (tl rfl (tl rfl (tl rfl (tl (Qcx rfl rfl _) rfl))))) LRes.none rfl (Zl (fun _=>rfl) _) (Zl (fun _=>rfl) _) (QcQ (n+0) (((List.replicate g.Cells.size false).map (Qm true)).length) g 37 ((Qn g i).2) ((i / g.Cols.toNat:Nat):Int) ((i % g.Cols.toNat:Nat):Int) (by exact fhc0) (by (simp only [YU,List.length_map,List.length_replicate];done)) (by (simp only [List.length_map,List.length_replicate];omega)) (by omega) (by omega) (by (refine Nat.lt_of_le_of_lt List.count_le_length ?_;rw [YU];omega)))) (VRunD.nil (vinB.n (tn (VRun.region (fO (QD (tv (tN i) rfl) (VEv.int .i64 1) (by omega)) (mO (tN (i+1)) rfl (VRunO.nil (tn ?_)))))))))))
   have he5:YN 37 g ((Qn g i).2) ((i / g.Cols.toNat:Nat):Int) ((i % g.Cols.toNat:Nat):Int)=(Qn g (i+1)).2:=by (rw [q1.2];exact Qkt hgo hpl fhc1 (Nat.lt_of_le_of_lt List.count_le_length (by omega)) (Qbx i hI1) q0.1)
   refine ⟨(i+1:Nat),?_,?_,Wk.mk (fun k=>k) ?_ ?_ ?_⟩
   ·trivial
   ·omega
   ·exact (b2 (b2 (b2 (b2 (bc ⟨(congrArg (T.int .i64) (show ((((Qn g i).1+1):Nat):Int)=(((Qn g (i+1)).1:Nat):Int) from (by omega))),rfl⟩ (b2 (b2 bn)))))))
   ·exact (bc ⟨(congrArg (fun l_=>some (Obj.rows 1 (List.map (Qm true) l_))) he5),(lb rfl),rfl⟩ bn)
   ·exact nd rfl
  have q0:¬Qcl g (Qn g i).2 i:=fun h=>fhc2 ⟨h.1,by have:=h.2;unfold on at this;rw [this];rfl⟩
  refine sk (vinB.n (tn (VRun.region (fO (QD (tv (tN i) rfl) (VEv.int .i64 1) (by omega)) (mO (tN (i+1)) rfl (VRunO.nil (tn ?_)))))))
  have he6:(Qn g i).2=(Qn g (i+1)).2:=by (rw [QaK q0];done)
  refine ⟨(i+1:Nat),?_,?_,Wk.mk (fun k=>k) ?_ ?_ ?_⟩
  ·trivial
  ·omega
  ·exact (b2 (b2 (b2 (b2 (bc ⟨(congrArg (T.int .i64) (show (((Qn g i).1:Nat):Int)=(((Qn g (i+1)).1:Nat):Int) from (by (rw [QaK q0];done)))),rfl⟩ (b2 (b2 bn)))))))
  ·exact (bc ⟨(congrArg (fun l_=>some (Obj.rows 1 (List.map (Qm true) l_))) he6),(lb rfl),rfl⟩ bn)
  ·exact nd rfl
 refine VRun.exit (vthn.e (vthn.e (vinB.e (tn (sr (mO (tN ((Qn g i).1)) rfl (aO (tN ((Qn g i).1)) rfl (nt (rt (vi (n':=(((Qn g i).1:Nat):Int)) rfl ?_))))))))))
 exact congrArg (fun x:Nat=>(x:Int)) (Qe4 hI1 (.inl hgo) (by omega))
end Go.Proofs.YtcccmceoplcciaaGreat.AE
namespace Go.Proofs.YtcccmceoplcciaaGreat.AE
open Go Go.RowKit
set_option linter.unusedVariables false
set_option linter.unusedSimpArgs false
set_option maxRecDepth 20000
set_option maxHeartbeats 2000000
noncomputable section
def ZP (g:D.Grid):Int:=if ¬gridOk g then 1 else if ¬Qdo g then 2 else if ¬ZR g=1 then 3 else if QbC g then 4 else if Qa1 g then 5 else 0
theorem QhC {g:D.Grid} (h:∀j s,j<(Qc g).length→(Qc g)[j]? =some s→¬Qdv g j s) (hg:gridOk g):QfO g g.Cells↔Qa1 g:=by
 constructor
 ·rintro ⟨c,h1,h2,_⟩
  exact .inr ⟨c,h1,hg,h2⟩
 ·rintro (⟨j,s,h3,h4⟩ | ⟨c,h1,_,h2⟩)
  ·exact absurd h4 (h j s (List.getElem?_eq_some_iff.1 h3).1 h3)
  ·refine ⟨c,h1,h2,?_⟩
   unfold Qa0
   have:=h2.1
   omega
end
theorem QbO (n:Nat) (g:D.Grid) (hc:g.Cells.size≤mx):Pure (Qr Tryz.prog (n+4)) 133 [(T.agg (Qb false g))] (tB (decide (ZR g=1))):=by
 refine Pure.intro (rs:= [ResultVar.tmp 2]) Tryz.func133 rfl rfl rfl (E0:= [(0,(T.agg (Qb false g)))]) rfl ?_
 obtain ⟨hlim,hmx,hmax⟩:=QG
 refine sr (kO (B.box (ts:=(Qb false g)) (tv (T.agg (Qb false g)) rfl) nofun rfl) (fO (OF.assign (VEv.bool false)) (nt (sr (lO (OL.loadOn (us:=(Qb false g)) (tv (T.op 0 0) rfl) rfl Q3 QW (lb rfl) rfl) (cO (cS (vc (tv (T.agg (Qb false g)) rfl) vn) (LendL.cons (lg Qv) ln) (Qd5 (n+0) g (by assumption)) rfl rfl) (fO (B.eql (c:=(decide (ZR g=1))) (tv (tN (ZR g)) rfl) (VEv.int .i64 1) (Q6 (by omega))) (aO (tB (decide (ZR g=1))) rfl (nt (rt ?_))))))))))
 exact vb rfl rfl
theorem QbJ (n:Nat) (g:D.Grid) (hc:g.Cells.size≤mx):Pure (Qr Tryz.prog (n+40)) 137 [(T.agg (Qb false g))] (tB (decide (ZR g=1))):=by
 refine Pure.intro (rs:= [ResultVar.tmp 2]) Tryz.func137 rfl rfl rfl (E0:= [(0,(T.agg (Qb false g)))]) rfl ?_
 obtain ⟨hlim,hmx,hmax⟩:=QG
 refine sr (kO (B.box (ts:=(Qb false g)) (tv (T.agg (Qb false g)) rfl) nofun rfl) (fO (OF.assign (VEv.bool false)) (nt (sr (lO (OL.loadOn (us:=(Qb false g)) (tv (T.op 0 0) rfl) rfl Q3 QW (lb rfl) rfl) (cO (cS (vc (tv (T.agg (Qb false g)) rfl) vn) (LendL.cons (lg Qv) ln) (Qd6 (n+0) g (by assumption)) rfl rfl) (fO (B.eql (c:=(decide (ZR g=1))) (tv (tN (ZR g)) rfl) (VEv.int .i64 1) (Q6 (by omega))) (aO (tB (decide (ZR g=1))) rfl (nt (rt ?_))))))))))
 exact vb rfl rfl
theorem QeS (n:Nat) (g:D.Grid) (hc:g.Cells.size≤mx):Pure (Qr Tryz.prog (n+9)) 104 [(T.agg (Qb false g))] (tI (ZP g)):=by
 refine Pure.intro (rs:= [ResultVar.tmp 2]) Tryz.func104 rfl rfl rfl (E0:= [(0,(T.agg (Qb false g)))]) rfl ?_
 obtain ⟨hlim,hmx,hmax⟩:=QG
 refine sr (kO (B.box (ts:=(Qb false g)) (tv (T.agg (Qb false g)) rfl) nofun rfl) (fO (OF.assign (VEv.int .i64 0)) (nt (sq (VRun.block (sr (lO (OL.loadOn (us:=(Qb false g)) (tv (T.op 0 0) rfl) rfl Q3 QW (lb rfl) rfl) (cO (cS (vc (tv (T.agg (Qb false g)) rfl) vn) (LendL.cons (lg Qv) ln) (ZM (n+6) g (by omega)) rfl rfl) (fO (QZ (tv (tB (decide (gridOk g))) rfl)) (aO (tB (!(decide (gridOk g)))) rfl (nt ?_)))))))))))
 refine cn (gridOk g) rfl (fun fhc0=> ?_) fun fhc0=> ?_
 ·refine sr ?_
  refine fO (OF.assign (VEv.int .i64 1)) (nt (rt (vinB.r (tr (vi (n':=1) rfl ?_)))))
  exact (if_pos (by assumption)).symm
 refine sr (lO (OL.loadOn (us:=(Qb false g)) (tv (T.op 0 0) rfl) rfl Q3 QW (lb rfl) rfl) (cO (cS (vc (tv (T.agg (Qb false g)) rfl) vn) (LendL.cons (lg Qv) ln) (QbH (n+4) g (by omega)) rfl rfl) (fO (QZ (tv (tB (decide (Qdo g))) rfl)) (aO (tB (!(decide (Qdo g)))) rfl (nt ?_)))))
 refine cn (Qdo g) rfl (fun fhc1=> ?_) fun fhc1=> ?_
 ·refine sr ?_
  refine fO (OF.assign (VEv.int .i64 2)) (nt (rt (vinB.r (tr (vi (n':=2) rfl ?_)))))
  (simp only [ZP];simp [*];done)
 refine sr (lO (OL.loadOn (us:=(Qb false g)) (tv (T.op 0 0) rfl) rfl Q3 QW (lb rfl) rfl) (cO (cS (vc (tv (T.agg (Qb false g)) rfl) vn) (LendL.cons (lg Qv) ln) (QbO (n+4) g (by assumption)) rfl rfl) (fO (QZ (tv (tB (decide (ZR g=1))) rfl)) (aO (tB (!(decide (ZR g=1)))) rfl (nt ?_)))))
 refine cn (ZR g=1) rfl (fun fhc2=> ?_) fun fhc2=> ?_
 ·refine sr ?_
  refine fO (OF.assign (VEv.int .i64 3)) (nt (rt (vinB.r (tr (vi (n':=3) rfl ?_)))))
  (simp only [ZP];simp [*];done)
 refine sr (lO (OL.loadOn (us:=(Qb false g)) (tv (T.op 0 0) rfl) rfl Q3 QW (lb rfl) rfl) (cO (cS (vc (tv (T.agg (Qb false g)) rfl) vn) (LendL.cons (lg Qv) ln) (Qdu (n+4) g (by omega)) rfl rfl) (aO (tB (decide (QbC g))) rfl (nt ?_))))
 refine cd (QbC g) rfl (fun fhc3=> ?_) fun fhc3=> ?_
 ·refine sr ?_
  refine fO (OF.assign (VEv.int .i64 4)) (nt (rt (vinB.r (tr (vi (n':=4) rfl ?_)))))
  (simp only [ZP];simp [*];done)
 refine sr (lO (OL.loadOn (us:=(Qb false g)) (tv (T.op 0 0) rfl) rfl Q3 QW (lb rfl) rfl) (cO (cS (vc (tv (T.agg (Qb false g)) rfl) vn) (LendL.cons (lg Qv) ln) (Qdz (n+0) g (by omega)) rfl rfl) (aO (tB (decide (Qa1 g))) rfl (nt ?_))))
 refine cd (Qa1 g) rfl (fun fhc4=> ?_) fun fhc4=> ?_
 ·refine sr ?_
  refine fO (OF.assign (VEv.int .i64 5)) (nt (rt (vinB.r (tr (vi (n':=5) rfl ?_)))))
  (simp only [ZP];simp [*];done)
 refine sk (vinB.n (tn (sr (fO (OF.assign (VEv.int .i64 0)) (nt (rt (vi (n':=0) rfl ?_)))))))
 (simp only [ZP];simp [*];done)
theorem QeY (n:Nat) (g:D.Grid) (hc:g.Cells.size≤mx):Pure (Qr Tryz.prog (n+41)) 106 [(T.agg (Qb false g))] (tI (ZP g)):=by
 refine Pure.intro (rs:= [ResultVar.tmp 2]) Tryz.func106 rfl rfl rfl (E0:= [(0,(T.agg (Qb false g)))]) rfl ?_
 obtain ⟨hlim,hmx,hmax⟩:=QG
 have hsl:=ZL g
 refine sr (kO (B.box (ts:=(Qb false g)) (tv (T.agg (Qb false g)) rfl) nofun rfl) (fO (OF.assign (VEv.int .i64 0)) (nt (sq (VRun.block (sr (lO (OL.loadOn (us:=(Qb false g)) (tv (T.op 0 0) rfl) rfl Q3 QW (lb rfl) rfl) (cO (cS (vc (tv (T.agg (Qb false g)) rfl) vn) (LendL.cons (lg Qv) ln) (Z2 (n+38) g (by omega)) rfl rfl) (fO (QZ (tv (tB (decide (gridOk g))) rfl)) (aO (tB (!(decide (gridOk g)))) rfl (nt ?_)))))))))))
 refine cn (gridOk g) rfl (fun fhc0=> ?_) fun fhc0=> ?_
 ·refine sr ?_
  refine fO (OF.assign (VEv.int .i64 1)) (nt (rt (vinB.r (tr (vi (n':=1) rfl ?_)))))
  exact (if_pos fhc0).symm
 refine sr (lO (OL.loadOn (us:=(Qb false g)) (tv (T.op 0 0) rfl) rfl Q3 QW (lb rfl) rfl) (cO (cS (vc (tv (T.agg (Qb false g)) rfl) vn) (LendL.cons (lg Qv) ln) (QbQ (n+36) g (by omega)) rfl rfl) (fO (QZ (tv (tB (decide (Qdo g))) rfl)) (aO (tB (!(decide (Qdo g)))) rfl (nt ?_)))))
 refine cn (Qdo g) rfl (fun fhc1=> ?_) fun fhc1=> ?_
 ·refine sr ?_
  refine fO (OF.assign (VEv.int .i64 2)) (nt (rt (vinB.r (tr (vi (n':=2) rfl ?_)))))
  unfold ZP;rw [if_neg (not_not_intro fhc0),if_pos fhc1]
 refine sr (lO (OL.loadOn (us:=(Qb false g)) (tv (T.op 0 0) rfl) rfl Q3 QW (lb rfl) rfl) (cO (cS (vc (tv (T.agg (Qb false g)) rfl) vn) (LendL.cons (lg Qv) ln) (QbJ (n+0) g (by assumption)) rfl rfl) (fO (QZ (tv (tB (decide (ZR g=1))) rfl)) (aO (tB (!(decide (ZR g=1)))) rfl (nt ?_)))))
 refine cn (ZR g=1) rfl (fun fhc2=> ?_) fun fhc2=> ?_
 ·refine sr ?_
  refine fO (OF.assign (VEv.int .i64 3)) (nt (rt (vinB.r (tr (vi (n':=3) rfl ?_)))))
  unfold ZP;rw [if_neg (not_not_intro fhc0),if_neg (not_not_intro fhc1),if_pos fhc2]
 refine sk (vinB.n (tn (sr (lO (OL.loadOn (us:=(Qb false g)) (tv (T.op 0 0) rfl) rfl Q3 QW (lb rfl) rfl) (cO (OC.callF (us:= [(T.agg (Qb false g))]) (r:=(T.sl true 4 ((Qc g).map (Qh true)))) (r':=(T.os 4 1 0 (((Qc g).map (Qh true)).length))) (objs:= [(Obj.rows 4 ((Qc g).map (Qh true)))]) rfl (vc (tv (T.agg (Qb false g)) rfl) vn) (LendL.cons (lg Qv) ln) (Jv (n+37) g (by omega)) rfl) (aO (T.os 4 1 0 (((Qc g).map (Qh true)).length)) rfl (nt (sq (sr (mO (T.os 4 1 0 (((Qc g).map (Qh true)).length)) rfl (lO (B.lenO (m:=(Qc g).length) (tv (T.os 4 1 0 (((Qc g).map (Qh true)).length)) rfl) Z5 (List.length_map ..)) ?_)))))))))))
 refine fO (OF.move (VEv.int .i64 0)) (nt (VRun.block ?_))
 refine VRun.loop (A:=Nat) (fun s_=> [(1,(T.op 0 0)),(3,(T.os 4 1 0 (((Qc g).map (Qh true)).length))),(22,(T.os 4 1 0 (((Qc g).map (Qh true)).length))),(23,(tN ((Qc g).length))),(24,(tN s_))]) (fun s_=>Q4 [(0,(Obj.cells (Qb false g))),(1,(Obj.rows 4 ((Qc g).map (Qh true))))]) 2 (fun s_=>NoneTo (fun s:D.Slot=>s.Length<3) (Qc g) s_) (fun s_=>(Qc g).length - s_) (0:Nat) ?_ (Wk.mk (fun k=>k) ?_ ?_ ?_) ?_
 ·exact NoneTo.start _ _
 ·exact (b2 (b2 (b2 (b2 (b2 bn)))))
 ·exact (b3 (b3 bn))
 ·exact nd rfl
 rintro i (hI':NoneTo (fun s:D.Slot=>s.Length<3) (Qc g) i)
 show VRun _ _ _ [(1,(T.op 0 0)),(3,(T.os 4 1 0 (((Qc g).map (Qh true)).length))),(22,(T.os 4 1 0 (((Qc g).map (Qh true)).length))),(23,(tN ((Qc g).length))),(24,(tN i))] (Q4 [(0,(Obj.cells (Qb false g))),(1,(Obj.rows 4 ((Qc g).map (Qh true))))]) 2 _
 have hI1:=hI'.1
 have hns:=hI'
 refine sr (fO (Zn (tv (tN i) rfl) (tv (tN ((Qc g).length)) rfl)) (nt (sq ?_)))
 refine cd (i<(Qc g).length) rfl (fun fhc3=> ?_) fun fhc3=> ?_
 ·have hx0:=fhc3
  refine sk (tn (sq (VRun.block (sr ?_))))
  obtain ⟨x1,hx1⟩:∃x,(Qc g)[i]? =some x:=⟨_,List.getElem?_eq_getElem (by omega)⟩
  refine fO (B.indexAddrO (i:=i) (tv (T.os 4 1 0 (((Qc g).map (Qh true)).length)) rfl) (tv (tN i) rfl) rfl (by (simp only [List.length_map];omega)) Z5 Zb QaP) (lO (OL.loadPn (us:=(Qh false x1)) (row:=(Qh true x1)) (tv (T.orp 4 1 i 0) rfl) rfl (Qw _ hx1) Qc5 Zb (lb rfl) rfl (bc rfl (bc rfl (bc rfl (bc rfl bn))))) (kO (B.alloc (t:=(T.agg [(tN 0),(tB false),(tN 0),(tN 0)])) (ts:= [(tN 0),(tB false),(tN 0),(tN 0)]) Yp Qjm nofun (fun _=> .agg _ _ rfl (Yi (RL.cons (.int _ _) (RL.cons (.bool _) (RL.cons (.int _ _) (RL.cons (.int _ _) (RL.nil _))))))) rfl) (cO (B.storeO (us:=(Qh false x1)) (ws:=(Qh false x1)) (tv (T.op 2 0) rfl) (tv (T.agg (Qh false x1)) rfl) nofun rfl rfl (lb rfl) QaP Zb (bc rfl (bc rfl (bc rfl (bc rfl bn)))) rfl) (nt (sr (lf (tI x1.Length) rfl QaA rfl rfl QR (fO (xls (tv (tI x1.Length) rfl) (VEv.int .i64 3)) (nt ?_))))))))
  refine cd (x1.Length<3) rfl (fun fhc4=> ?_) fun fhc4=> ?_
  ·refine sr ?_
   refine fO (OF.assign (VEv.int .i64 4)) (nt (rt (vinB.r (tr (tr (vinB.r (tr (vi (n':=4) rfl ?_))))))))
   unfold ZP;rw [if_neg (not_not_intro fhc0),if_neg (not_not_intro fhc1),if_neg (not_not_intro fhc2),if_pos (show QbC g from ⟨x1,List.mem_of_getElem? hx1,fhc4⟩)]
  refine sk (vinB.n (tn (VRun.region (fO (QD (tv (tN i) rfl) (VEv.int .i64 1) (by omega)) (mO (tN (i+1)) rfl (VRunO.nil (tn ?_)))))))
  refine ⟨(i+1:Nat),?_,?_,Wk.mk (fun k=>k) ?_ ?_ ?_⟩
  ·exact hI'.next hx1 fhc4
  ·omega
  ·exact (b2 (b2 (b2 (b2 (b2 bn)))))
  ·exact (b3 (b3 bn))
  ·exact nd rfl
 have hsh:¬QbC g:=by rintro ⟨y,hy,hy2⟩;exact hns.mem fhc3 y hy hy2
 refine VRun.exit (vthn.e (vthn.e (vinB.e (tn (sq (sr (mO (T.os 4 1 0 (((Qc g).map (Qh true)).length)) rfl (lO (B.lenO (m:=(Qc g).length) (tv (T.os 4 1 0 (((Qc g).map (Qh true)).length)) rfl) Z5 (List.length_map ..)) (fO (OF.move (VEv.int .i64 0)) (nt (VRun.block ?_)))))))))))
 refine VRun.loop (A:=Nat) (fun s_=> [(1,(T.op 0 0)),(32,(T.os 4 1 0 (((Qc g).map (Qh true)).length))),(33,(tN ((Qc g).length))),(34,(tN s_))]) (fun s_=>Q4 [(0,(Obj.cells (Qb false g))),(1,(Obj.rows 4 ((Qc g).map (Qh true))))]) 2 (fun s_=>NoBad g s_) (fun s_=>(Qc g).length - s_) (0:Nat) ?_ (Wk.mk (fun k=>k) ?_ ?_ ?_) ?_
 ·exact NoBad.start _
 ·exact (b2 (b2 (b2 (b2 bn))))
 ·exact (b3 (b3 bn))
 ·exact nd rfl
 rintro k (hI':NoBad g k)
 show VRun _ _ _ [(1,(T.op 0 0)),(32,(T.os 4 1 0 (((Qc g).map (Qh true)).length))),(33,(tN ((Qc g).length))),(34,(tN k))] (Q4 [(0,(Obj.cells (Qb false g))),(1,(Obj.rows 4 ((Qc g).map (Qh true))))]) 2 _
 have hJ1:=hI'.1
 have hub:=QjZ g ((k:Nat):Int)
 refine sr (fO (Zn (tv (tN k) rfl) (tv (tN ((Qc g).length)) rfl)) (nt (sq ?_)))
 refine cd (k<(Qc g).length) rfl (fun fhc5=> ?_) fun fhc5=> ?_
 ·refine sk ?_
  refine tn (sq (VRun.block (sr (mO (tN k) rfl ?_))))
  obtain ⟨x1,hx1⟩:∃x,(Qc g)[k]? =some x:=⟨_,List.getElem?_eq_getElem (by omega)⟩
  refine fO (B.indexAddrO (i:=k) (tv (T.os 4 1 0 (((Qc g).map (Qh true)).length)) rfl) (tv (tN k) rfl) rfl (by (simp only [List.length_map];omega)) Z5 Zb QaP) (lO (OL.loadPn (us:=(Qh false x1)) (row:=(Qh true x1)) (tv (T.orp 4 1 k 0) rfl) rfl (Qw _ hx1) Qc5 Zb (lb rfl) rfl (bc rfl (bc rfl (bc rfl (bc rfl bn))))) (kO (B.alloc (t:=(T.agg [(tN 0),(tB false),(tN 0),(tN 0)])) (ts:= [(tN 0),(tB false),(tN 0),(tN 0)]) Yp Qjm nofun (fun _=> .agg _ _ rfl (Yi (RL.cons (.int _ _) (RL.cons (.bool _) (RL.cons (.int _ _) (RL.cons (.int _ _) (RL.nil _))))))) rfl) (aO (tN k) rfl (cO (B.storeO (us:=(Qh false x1)) (ws:=(Qh false x1)) (tv (T.op 2 0) rfl) (tv (T.agg (Qh false x1)) rfl) nofun rfl rfl (lb rfl) QaP Zb (bc rfl (bc rfl (bc rfl (bc rfl bn)))) rfl) (nt (sq (VRun.draw (B:= [[],[],[1,0],[0,1,2],[],[4],[4,5,2,1,0,3]]) (by kernel_rfl) (by kernel_rfl) (lD (OL.loadOn (us:=(Qb false g)) (tv (T.op 0 0) rfl) rfl Q3 QW (lb rfl) rfl) rfl rfl (mD (tN k) rfl rfl (VRunD.quiet (bi:= [1,0]) rfl VWant.always rfl rfl rfl bn (cS (vc (tv (T.agg (Qb false g)) rfl) (vc (tv (tN k) rfl) vn)) (LendL.cons (lg Qv) (lp rfl ln)) (QbN (n+33) g ((k:Nat):Int) (by omega)) rfl rfl) (fD (B.mul (n:=(2*unG g ((k:Nat):Int))) (VEv.int .i64 2) (tv (tI (unG g ((k:Nat):Int))) rfl) (by (rw [Qt (by omega)];done))) rfl rfl ?_)))))))))))
  refine fD (OF.fieldAddrO (tv (T.op 2 0) rfl) QaA) rfl rfl (lD (OL.loadO1 (t:=(tI x1.Length)) (tv (T.op 2 3) rfl) rfl rfl QR) rfl rfl (fD (xgt (tv (tI (2*unG g ((k:Nat):Int))) rfl) (tv (tI x1.Length) rfl)) rfl rfl (VRunD.nil (tn ?_))))
  refine cd (x1.Length<(2*unG g ((k:Nat):Int))) rfl (fun fhc6=> ?_) fun fhc6=> ?_
  ·have q1:Qdv g k x1:=by unfold Qdv;omega
   refine sr (fO (OF.assign (VEv.int .i64 5)) (nt (rt (vinB.r (tr (tr (vinB.r (tr (vi (n':=5) rfl ?_)))))))))
   unfold ZP;rw [if_neg (not_not_intro fhc0),if_neg (not_not_intro fhc1),if_neg (not_not_intro fhc2),if_neg hsh,if_pos (show Qa1 g from .inl ⟨k,x1,hx1,q1⟩)]
  have q1:¬Qdv g k x1:=by unfold Qdv;omega
  refine sk (vinB.n (tn (VRun.region (fO (QD (tv (tN k) rfl) (VEv.int .i64 1) (by omega)) (mO (tN (k+1)) rfl (VRunO.nil (tn ?_)))))))
  refine ⟨(k+1:Nat),?_,?_,Wk.mk (fun k=>k) ?_ ?_ ?_⟩
  ·exact hI'.next hx1 q1
  ·omega
  ·exact (b2 (b2 (b2 (b2 bn))))
  ·exact (b3 (b3 bn))
  ·exact nd rfl
 have hal:=QhC (g:=g) (fun j s hj=>hI'.2 j s (by omega)) (by simpa using fhc0)
 refine VRun.exit (vthn.e (vthn.e (vinB.e (tn (sq (sr (lO (OL.loadOn (us:=(Qb false g)) (tv (T.op 0 0) rfl) rfl Q3 QW (lb rfl) rfl) (lf (tS g.Cells) rfl QC rfl rfl Z6 (cO (cS (vc (tv (T.agg (Qb false g)) rfl) (vc (tv (tS g.Cells) rfl) vn)) (LendL.cons (lg Qv) (lp rfl ln)) (QfC (n+35) g g.Cells (by omega) (by omega)) rfl rfl) (nt ?_))))))))))
 refine cd (QfO g g.Cells) rfl (fun fhc7=> ?_) fun fhc7=> ?_
 ·refine sr ?_
  refine fO (OF.assign (VEv.int .i64 5)) (nt (rt (tr (vi (n':=5) rfl ?_))))
  unfold ZP;rw [if_neg (not_not_intro fhc0),if_neg (not_not_intro fhc1),if_neg (not_not_intro fhc2),if_neg hsh,if_pos (hal.1 fhc7)]
 refine sk (tn (sr (fO (OF.assign (VEv.int .i64 0)) (nt (rt (vi (n':=0) rfl ?_))))))
 unfold ZP;rw [if_neg (not_not_intro fhc0),if_neg (not_not_intro fhc1),if_neg (not_not_intro fhc2),if_neg hsh,if_neg (fun h=>fhc7 (hal.2 h))]
end Go.Proofs.YtcccmceoplcciaaGreat.AE
namespace Go.Proofs.YtcccmceoplcciaaGreat.AE
open Go Go.RowKit
set_option linter.unusedVariables false
set_option linter.unusedSimpArgs false
set_option maxRecDepth 20000
set_option maxHeartbeats 2000000
noncomputable section
def okC (c:D.Clue):Prop:=(1≤c.Sense∧c.Sense≤99)∧Yd c.Play
end
end Go.Proofs.YtcccmceoplcciaaGreat.AE
namespace Go.Proofs.YtcccmceoplcciaaGreat.AE
open Go Go.RowKit
set_option linter.unusedVariables false
set_option linter.unusedSimpArgs false
set_option maxRecDepth 20000
set_option maxHeartbeats 2000000
noncomputable section
def Qee : Nat→Int→ByteArray→ByteArray
 | 0,_,acc=>acc
 | f+1,k,acc=>if 0<k then Qee f (k.tdiv 10) (YJ [IntKind.u8.wrap (48+k.tmod 10)]++acc) else acc
def QaF (k:Int):ByteArray:=if k≤0 then ⟨#[109,48]⟩ else ⟨#[109]⟩++Qee k.toNat k ⟨#[]⟩
theorem QiY {f:Nat} {k:Int} {acc:ByteArray} (hk:0<k) (hf:k.toNat≤f):0≤k.tdiv 10∧(k.tdiv 10).toNat≤f - 1∧Qee f k acc=Qee (f - 1) (k.tdiv 10) (YJ [IntKind.u8.wrap (48+k.tmod 10)]++acc):=by
 have h1:k.tdiv 10=k / 10:=Int.tdiv_eq_ediv_of_nonneg (by omega)
 cases f with
 | zero=>omega
 | succ f =>
  refine ⟨by omega,by omega,?_⟩
  simp only [Qee,if_pos hk]
  rfl
theorem Qjh {f:Nat} {k:Int} {acc:ByteArray} (hk:¬ 0<k):Qee f k acc=acc:=by
 cases f with
 | zero=>rfl
 | succ f=>simp only [Qee,if_neg hk]
theorem Qj7 (n:Int):(YJ [n]).size=1:=rfl
theorem QlF {k:Int} (h:0<k):0≤k.tmod 10∧k.tmod 10<10∧0≤k.tdiv 10∧k.tdiv 10≤k:=by
 rw [Int.tmod_eq_emod_of_nonneg (by omega),Int.tdiv_eq_ediv_of_nonneg (by omega)]
 omega
end
theorem Qdt (n:Nat) (q:Int) (hq:q≤Jo):Pure (Qr Tryz.prog (n+1)) 102 [(tI q)] (tS (QaF q)):=by
 refine Pure.intro (rs:= [ResultVar.tmp 2]) Tryz.func102 rfl rfl rfl (E0:= [(0,(tI q))]) rfl ?_
 obtain ⟨hlim,hmx,hmax⟩:=QG
 refine sr (fO (OF.assign (VEv.str (⟨#[]⟩:ByteArray))) (nt (sq (sr (mO (tI q) rfl (fO (xle (tv (tI q) rfl) (VEv.int .i64 0)) (nt ?_)))))))
 refine cd (q≤0) rfl (fun fhc0=> ?_) fun fhc0=> ?_
 ·refine sr ?_
  refine fO (OF.assign (VEv.str (⟨#[109,48]⟩:ByteArray))) (nt (rt (tr ?_)))
  refine vfin.eq (r':=(tS (⟨#[109,48]⟩:ByteArray))) ?_ (vfin.r (VRes.tmp (t:=(tS (⟨#[109,48]⟩:ByteArray))) rfl VRes.nil) (Give.str _))
  show (tS (⟨#[109,48]⟩:ByteArray))=(tS (QaF q))
  refine congrArg T.str ?_
  exact (if_pos fhc0).symm
 refine sk (tn (sr (fO (OF.assign (VEv.str (⟨#[]⟩:ByteArray))) (nt (sq (VRun.block ?_))))))
 refine VRun.loop (A:=Int×Nat×ByteArray) (fun s_=> [(0,(tI s_.1)),(2,(tS (⟨#[]⟩:ByteArray))),(3,(tS s_.2.2))]) (fun s_=>Q4 []) 0 (fun s_=>0≤s_.1∧s_.1.toNat≤s_.2.1∧s_.2.2.size+s_.2.1≤q.toNat∧Qee q.toNat q ⟨#[]⟩=Qee s_.2.1 s_.1 s_.2.2) (fun s_=>s_.2.1) ((q,q.toNat,⟨#[]⟩):Int×Nat×ByteArray) ?_ (Wk.mk (fun k=>k) ?_ ?_ ?_) ?_
 ·exact ⟨by omega,Nat.le_refl _,by show 0+q.toNat≤q.toNat;omega,rfl⟩
 ·exact (b2 (b2 (bc ⟨(congrArg T.str (show (⟨#[]⟩:ByteArray)=⟨#[]⟩ from (by rfl))),rfl⟩ bn)))
 ·exact bn
 ·exact nd rfl
 rintro ⟨k,f,acc⟩ (hI':0≤k∧k.toNat≤f∧acc.size+f≤q.toNat∧Qee q.toNat q ⟨#[]⟩=Qee f k acc)
 show VRun _ _ _ [(0,(tI k)),(2,(tS (⟨#[]⟩:ByteArray))),(3,(tS acc))] (Q4 []) 0 _
 have hI1:=hI'.1
 have hI2:=hI'.2.1
 have hI3:=hI'.2.2.1
 have hI4:=hI'.2.2.2
 refine sq (sr (mO (tI k) rfl (fO (xgt (tv (tI k) rfl) (VEv.int .i64 0)) (nt ?_))))
 refine cd (0<k) rfl (fun fhc1=> ?_) fun fhc1=> ?_
 ·obtain ⟨m1,m2,m3,m4⟩:=QlF fhc1
  refine sk (tn (VRun.block (sr (mO (tI k) rfl (fO (B.rem (n:=(k.tmod 10)) (tv (tI k) rfl) (VEv.int .i64 10) (by omega) (by rfl)) (fO (B.add (n:=(48+(k.tmod 10))) (VEv.int .i64 48) (tv (tI (k.tmod 10)) rfl) (by (rw [Qt (by omega)];done))) (fO (OF.convI (tv (tI (48+(k.tmod 10))) rfl) (k0:= .i64) U3 U5) (kO (OM.buildSlice (l:= [(T.int .u8 (IntKind.u8.wrap (48+(k.tmod 10))))]) (VEvp.cons (tv (T.int .u8 (IntKind.u8.wrap (48+(k.tmod 10)))) rfl) VEvp.nil) rfl (by decide) (bc (nofun) bn) (bc ((bc (rfl) bn)) bn) (bc (rfl) bn) QfZ zo5 (by kernel_rfl) rfl (by rw [sz5];decide) sz5 (Nat.le_of_ble_eq_true rfl)) (lO (B.convBS (l:= [IntKind.u8.wrap (48+(k.tmod 10))]) (tv (T.os 1 0 0 1) rfl) rfl rfl QfZ U5 U9) (mO (tS acc) rfl (fO (B.sadd (tv (tS (YJ [IntKind.u8.wrap (48+(k.tmod 10))])) rfl) (tv (tS acc) rfl) (by (simp only [Qj7];omega))) ?_)))))))))))
  refine aO (tS ((YJ [IntKind.u8.wrap (48+(k.tmod 10))])++acc)) rfl (nt (VRun.region (mO (tI k) rfl (fO (B.quo (n:=(k.tdiv 10)) (tv (tI k) rfl) (VEv.int .i64 10) (by omega) (by (rw [Qt (by omega)];done))) (aO (tI (k.tdiv 10)) rfl (VRunO.nil (vinB.n (tn ?_))))))))
  obtain ⟨n1,n2,n3⟩:=QiY (acc:=acc) fhc1 hI2
  refine ⟨((k.tdiv 10,f - 1,YJ [IntKind.u8.wrap (48+k.tmod 10)]++acc):Int×Nat×ByteArray),?_,?_,Wk.mk (fun k=>k) ?_ ?_ ?_⟩
  ·exact ⟨n1,n2,by show (YJ _++acc).size+(f - 1)≤q.toNat;rw [ByteArray.size_append,Qj7];omega,hI4.trans n3⟩
  ·(simp only [];omega)
  ·exact (b2 (b2 (bc ⟨(congrArg T.str (show ((YJ [IntKind.u8.wrap (48+(k.tmod 10))])++acc)=(YJ [IntKind.u8.wrap (48+k.tmod 10)]++acc) from (by rfl))),rfl⟩ bn)))
  ·exact bn
  ·exact nd rfl
 refine VRun.exit (vthn.e (vthn.e (vinB.e (tn (sr (mO (tS acc) rfl (fO (B.sadd (VEv.str (⟨#[109]⟩:ByteArray)) (tv (tS acc) rfl) (by (rw [show (⟨#[109]⟩:ByteArray).size=1 from rfl];omega))) (aO (tS ((⟨#[109]⟩:ByteArray)++acc)) rfl (nt (rt ?_))))))))))
 refine vfin.eq (r':=(tS ((⟨#[109]⟩:ByteArray)++acc))) ?_ (vfin.r (VRes.tmp (t:=(tS ((⟨#[109]⟩:ByteArray)++acc))) rfl VRes.nil) (Give.str _))
 show (tS ((⟨#[109]⟩:ByteArray)++acc))=(tS (QaF q))
 refine congrArg T.str ?_
 unfold QaF
 rw [if_neg fhc0,hI4,Qjh fhc1]
end Go.Proofs.YtcccmceoplcciaaGreat.AE
namespace Go.Proofs.YtcccmceoplcciaaGreat.AE
open Go Go.RowKit
set_option linter.unusedVariables false
set_option linter.unusedSimpArgs false
set_option maxRecDepth 20000
set_option maxHeartbeats 2000000
noncomputable section
def Zk (k:Nat):D.Step:=(D.Step.mk ((k:Nat):Int) (QaF ((k+1:Nat):Int)) ((k+2:Nat):Int) ((k+3:Nat):Int))
end
theorem Qcs (n:Nat) (a:List D.Step) (k:Nat) (hk:k+4*a.length≤Jo):Mut (Qr Tryz.prog (n+2)) 52 4 (a.map (Qj true)) [(tN k)] (some ((k+4*a.length:Nat):Int)) ((Jj Zk 4 k a.length).map (Qj true)):=by
 refine Mut.intro (rt:=4) Tryz.func52 rfl rfl rfl (by kernel_rfl) (Zl (fun _=>rfl) _) (Zl (fun _=>rfl) _) (E0:= [(1,(tN k))]) rfl ?_
 obtain ⟨hlim,hmx,hmax⟩:=QG
 refine sr (fO (OF.assign (VEv.int .i64 0)) (nt (sq (sr (fO (OF.assign (VEv.int .i64 0)) (nt (VRun.block ?_)))))))
 have he1:a=YP Zk 4 k a 0:=by rfl
 refine VRun.loop (A:=Nat) (fun s_=> [(0,(T.os 4 0 0 (((YP Zk 4 k a s_).map (Qj true)).length))),(1,(tN (k+4*s_))),(4,(tN 0)),(5,(tN s_))]) (fun s_=>Q4 [(0,(Obj.rows 4 ((YP Zk 4 k a s_).map (Qj true))))]) 1 (fun s_=>s_≤a.length) (fun s_=>a.length - s_) (0:Nat) ?_ (Wk.mk (fun k=>k) ?_ ?_ ?_) ?_
 ·(simp;done)
 ·exact (bc ⟨(congrArg (fun l_=>T.os 4 0 0 (List.map (Qj true) l_).length) he1),rfl⟩ (bc ⟨(congrArg (T.int .i64) (show ((k:Nat):Int)=((k+4*0:Nat):Int) from (by rfl))),rfl⟩ (b2 (b2 bn))))
 ·exact (bc ⟨(congrArg (fun l_=>some (Obj.rows 4 (List.map (Qj true) l_))) he1),(lb rfl),rfl⟩ bn)
 ·exact nd rfl
 rintro i (hI':i≤a.length)
 show VRun _ _ _ [(0,(T.os 4 0 0 (((YP Zk 4 k a i).map (Qj true)).length))),(1,(tN (k+4*i))),(4,(tN 0)),(5,(tN i))] (Q4 [(0,(Obj.rows 4 ((YP Zk 4 k a i).map (Qj true))))]) 1 _
 have hml:=Qbd (f:=Zk) (w:=4) (k:=k) hI'
 refine sq (sr (mO (tN i) rfl (mO (T.os 4 0 0 (((YP Zk 4 k a i).map (Qj true)).length)) rfl (lO (B.lenO (m:=(YP Zk 4 k a i).length) (tv (T.os 4 0 0 (((YP Zk 4 k a i).map (Qj true)).length)) rfl) U81 (List.length_map ..)) (fO (Zn (tv (tN i) rfl) (tv (tN ((YP Zk 4 k a i).length)) rfl)) (nt ?_))))))
 refine cd (i<(YP Zk 4 k a i).length) rfl (fun fhc0=> ?_) fun fhc0=> ?_
 ·refine sk ?_
  refine tn (sq (VRun.block (sr (mO (T.os 4 0 0 (((YP Zk 4 k a i).map (Qj true)).length)) rfl (mO (tN i) rfl (mO (tN (k+4*i)) rfl ?_))))))
  obtain ⟨x1,hx1⟩:∃x,(YP Zk 4 k a i)[i]? =some x:=⟨_,List.getElem?_eq_getElem (by omega)⟩
  refine fO (B.indexAddrO (i:=i) (tv (T.os 4 0 0 (((YP Zk 4 k a i).map (Qj true)).length)) rfl) (tv (tN i) rfl) rfl (by (simp only [List.length_map];omega)) U81 Ye JH) (fO (OF.fieldAddrP (tv (T.orp 4 0 i 0) rfl) Q2) (cO (B.storeP (us:= [(tN (k+4*i))]) (rows':=(((YP Zk 4 k a i).set i (D.Step.mk ((k+4*i:Nat):Int) x1.Word x1.A x1.B)).map (Qj true))) (row:=(Qj true x1)) (tv (T.orp 4 0 i 0) rfl) (tv (tN (k+4*i)) rfl) nofun rfl (Qw _ hx1) rfl (lb rfl) Yr Ze (bc rfl bn) (by intro r hr t ht;obtain ⟨x,_,rfl⟩:=List.mem_map.1 hr;rw [QdP] at ht;exact ZD (okeStep.pl _ t ht)) (Zy rfl)) (nt (sr (mO (tN (k+4*i)) rfl (fO (QD (tv (tN (k+4*i)) rfl) (VEv.int .i64 1) (by omega)) (aO (tN (k+4*i+1)) rfl (nt (sr (mO (T.os 4 0 0 (((YP Zk 4 k a i).map (Qj true)).length)) rfl (mO (tN i) rfl ?_)))))))))))
  refine mO (tN (k+4*i+1)) rfl (cO (cS (vc (tv (tN (k+4*i+1)) rfl) vn) (ZU rfl) (Qdt (n+0) (((k+4*i+1):Nat):Int) (by omega)) rfl rfl) (fO (B.indexAddrO (i:=i) (tv (T.os 4 0 0 (((YP Zk 4 k a i).map (Qj true)).length)) rfl) (tv (tN i) rfl) rfl (by (simp only [List.length_map];omega)) U81 Ye JH) (fO (OF.fieldAddrP (tv (T.orp 4 0 i 0) rfl) JN) (cO (B.storeP (us:= [(tS (QaF (((k+4*i+1):Nat):Int)))]) (rows':=((((YP Zk 4 k a i).set i (D.Step.mk ((k+4*i:Nat):Int) x1.Word x1.A x1.B)).set i (D.Step.mk ((k+4*i:Nat):Int) (QaF (((k+4*i+1):Nat):Int)) x1.A x1.B)).map (Qj true))) (row:=(Qj true (D.Step.mk ((k+4*i:Nat):Int) x1.Word x1.A x1.B))) (tv (T.orp 4 0 i 1) rfl) (tv (tS (QaF (((k+4*i+1):Nat):Int))) rfl) nofun rfl (Qw _ (Qfq (by omega))) rfl (lb rfl) if9 sz9 (bc rfl bn) (by intro r hr t ht;obtain ⟨x,_,rfl⟩:=List.mem_map.1 hr;rw [QdP] at ht;exact ZD (okeStep.pl _ t ht)) (Zy rfl)) (nt (sr (mO (tN (k+4*i+1)) rfl (fO (QD (tv (tN (k+4*i+1)) rfl) (VEv.int .i64 1) (by omega)) (aO (tN ((k+4*i+1)+1)) rfl (nt (sr ?_)))))))))))
  refine mO (T.os 4 0 0 (((YP Zk 4 k a i).map (Qj true)).length)) rfl (mO (tN i) rfl (mO (tN ((k+4*i+1)+1)) rfl (fO (B.indexAddrO (i:=i) (tv (T.os 4 0 0 (((YP Zk 4 k a i).map (Qj true)).length)) rfl) (tv (tN i) rfl) rfl (by (simp only [List.length_map];omega)) U81 Ye JH) (fO (OF.fieldAddrP (tv (T.orp 4 0 i 0) rfl) Yv) (cO (B.storeP (us:= [(tN ((k+4*i+1)+1))]) (rows':=(((((YP Zk 4 k a i).set i (D.Step.mk ((k+4*i:Nat):Int) x1.Word x1.A x1.B)).set i (D.Step.mk ((k+4*i:Nat):Int) (QaF (((k+4*i+1):Nat):Int)) x1.A x1.B)).set i (D.Step.mk ((k+4*i:Nat):Int) (QaF (((k+4*i+1):Nat):Int)) ((((k+4*i+1)+1):Nat):Int) x1.B)).map (Qj true))) (row:=(Qj true (D.Step.mk ((k+4*i:Nat):Int) (QaF (((k+4*i+1):Nat):Int)) x1.A x1.B))) (tv (T.orp 4 0 i 2) rfl) (tv (tN ((k+4*i+1)+1)) rfl) nofun rfl (Qw _ (Qfq (by (simp only [List.length_set];omega)))) rfl (lb rfl) Yr Ze (bc rfl bn) (by intro r hr t ht;obtain ⟨x,_,rfl⟩:=List.mem_map.1 hr;rw [QdP] at ht;exact ZD (okeStep.pl _ t ht)) (Zy rfl)) (nt (sr (mO (tN ((k+4*i+1)+1)) rfl (fO (QD (tv (tN ((k+4*i+1)+1)) rfl) (VEv.int .i64 1) (by omega)) (aO (tN (((k+4*i+1)+1)+1)) rfl (nt ?_)))))))))))
  refine sr (mO (T.os 4 0 0 (((YP Zk 4 k a i).map (Qj true)).length)) rfl (mO (tN i) rfl (mO (tN (((k+4*i+1)+1)+1)) rfl (fO (B.indexAddrO (i:=i) (tv (T.os 4 0 0 (((YP Zk 4 k a i).map (Qj true)).length)) rfl) (tv (tN i) rfl) rfl (by (simp only [List.length_map];omega)) U81 Ye JH) (fO (OF.fieldAddrP (tv (T.orp 4 0 i 0) rfl) Z8) (cO (B.storeP (us:= [(tN (((k+4*i+1)+1)+1))]) (rows':=((((((YP Zk 4 k a i).set i (D.Step.mk ((k+4*i:Nat):Int) x1.Word x1.A x1.B)).set i (D.Step.mk ((k+4*i:Nat):Int) (QaF (((k+4*i+1):Nat):Int)) x1.A x1.B)).set i (D.Step.mk ((k+4*i:Nat):Int) (QaF (((k+4*i+1):Nat):Int)) ((((k+4*i+1)+1):Nat):Int) x1.B)).set i (D.Step.mk ((k+4*i:Nat):Int) (QaF (((k+4*i+1):Nat):Int)) ((((k+4*i+1)+1):Nat):Int) (((((k+4*i+1)+1)+1):Nat):Int))).map (Qj true))) (row:=(Qj true (D.Step.mk ((k+4*i:Nat):Int) (QaF (((k+4*i+1):Nat):Int)) ((((k+4*i+1)+1):Nat):Int) x1.B))) (tv (T.orp 4 0 i 3) rfl) (tv (tN (((k+4*i+1)+1)+1)) rfl) nofun rfl (Qw _ (Qfq (by (simp only [List.length_set];omega)))) rfl (lb rfl) Yr Ze (bc rfl bn) (by intro r hr t ht;obtain ⟨x,_,rfl⟩:=List.mem_map.1 hr;rw [QdP] at ht;exact ZD (okeStep.pl _ t ht)) (Zy rfl)) (nt (VRun.region (mO (tN (((k+4*i+1)+1)+1)) rfl (fO (QD (tv (tN (((k+4*i+1)+1)+1)) rfl) (VEv.int .i64 1) (by omega)) (aO (tN ((((k+4*i+1)+1)+1)+1)) rfl ?_)))))))))))
  refine VRunO.nil (vinB.n (tn (VRun.region (mO (tN i) rfl (fO (QD (tv (tN i) rfl) (VEv.int .i64 1) (by omega)) (aO (tN (i+1)) rfl (VRunO.nil (tn ?_))))))))
  have hi1:i+1≤a.length:=by omega
  have he2:(((((YP Zk 4 k a i).set i (D.Step.mk ((k+4*i:Nat):Int) x1.Word x1.A x1.B)).set i (D.Step.mk ((k+4*i:Nat):Int) (QaF (((k+4*i+1):Nat):Int)) x1.A x1.B)).set i (D.Step.mk ((k+4*i:Nat):Int) (QaF (((k+4*i+1):Nat):Int)) ((((k+4*i+1)+1):Nat):Int) x1.B)).set i (D.Step.mk ((k+4*i:Nat):Int) (QaF (((k+4*i+1):Nat):Int)) ((((k+4*i+1)+1):Nat):Int) (((((k+4*i+1)+1)+1):Nat):Int)))=YP Zk 4 k a (i+1):=by (simp only [List.set_set];refine Qh1 ?_;omega)
  refine ⟨(i+1:Nat),?_,?_,Wk.mk (fun k=>k) ?_ ?_ ?_⟩
  ·trivial
  ·omega
  ·exact (bc ⟨(congrArg (fun n_=>T.os 4 0 0 n_) (show ((YP Zk 4 k a i).map (Qj true)).length=((YP Zk 4 k a (i+1)).map (Qj true)).length from (by rw [List.length_map,List.length_map,Qbd hI',Qbd hi1]))),rfl⟩ (bc ⟨(congrArg (T.int .i64) (show ((((((k+4*i+1)+1)+1)+1):Nat):Int)=((k+4*(i+1):Nat):Int) from (by rfl))),rfl⟩ (b2 (b2 bn))))
  ·exact (bc ⟨(congrArg (fun l_=>some (Obj.rows 4 (List.map (Qj true) l_))) he2),(lb rfl),rfl⟩ bn)
  ·exact nd rfl
 refine VRun.exit (vthn.e (vthn.e (vinB.e (tn (sr (mO (tN (k+4*i)) rfl (aO (tN (k+4*i)) rfl (nt (rt ?_)))))))))
 refine vmut.r (r0:=((k+4*i:Nat):Int)) (rows:=((YP Zk 4 k a i).map (Qj true))) rfl rfl rfl ?_ ?_ rfl
 ·(push_cast;omega)
 ·show List.map _ (YP Zk 4 k a i)=List.map _ (Jj Zk 4 k a.length)
  refine congrArg (List.map _) ?_
  exact Qie hI' (by omega)
noncomputable section
def Zi (k:Nat):Int:=((k:Nat):Int)
end
theorem QaC (n:Nat) (a:List Int) (k:Nat) (hk:k+1*a.length≤Jo):Mut (Qr Tryz.prog (n+1)) 21 1 (a.map (Qa true)) [(tN k)] (some ((k+1*a.length:Nat):Int)) ((Jj Zi 1 k a.length).map (Qa true)):=by
 refine Mut.intro (rt:=4) Tryz.func21 rfl rfl rfl (by kernel_rfl) (Zl (fun _=>rfl) _) (Zl (fun _=>rfl) _) (E0:= [(1,(tN k))]) rfl ?_
 obtain ⟨hlim,hmx,hmax⟩:=QG
 refine sr (fO (OF.assign (VEv.int .i64 0)) (nt (sq (sr (fO (OF.assign (VEv.int .i64 0)) (nt (VRun.block ?_)))))))
 have he1:a=YP Zi 1 k a 0:=by rfl
 refine VRun.loop (A:=Nat) (fun s_=> [(0,(T.os 1 0 0 (((YP Zi 1 k a s_).map (Qa true)).length))),(1,(tN (k+1*s_))),(4,(tN 0)),(5,(tN s_))]) (fun s_=>Q4 [(0,(Obj.rows 1 ((YP Zi 1 k a s_).map (Qa true))))]) 1 (fun s_=>s_≤a.length) (fun s_=>a.length - s_) (0:Nat) ?_ (Wk.mk (fun k=>k) ?_ ?_ ?_) ?_
 ·(simp;done)
 ·exact (bc ⟨(congrArg (fun l_=>T.os 1 0 0 (List.map (Qa true) l_).length) he1),rfl⟩ (bc ⟨(congrArg (T.int .i64) (show ((k:Nat):Int)=((k+1*0:Nat):Int) from (by rfl))),rfl⟩ (b2 (b2 bn))))
 ·exact (bc ⟨(congrArg (fun l_=>some (Obj.rows 1 (List.map (Qa true) l_))) he1),(lb rfl),rfl⟩ bn)
 ·exact nd rfl
 rintro i (hI':i≤a.length)
 show VRun _ _ _ [(0,(T.os 1 0 0 (((YP Zi 1 k a i).map (Qa true)).length))),(1,(tN (k+1*i))),(4,(tN 0)),(5,(tN i))] (Q4 [(0,(Obj.rows 1 ((YP Zi 1 k a i).map (Qa true))))]) 1 _
 have hml:=Qbd (f:=Zi) (w:=1) (k:=k) hI'
 refine sq (sr (mO (tN i) rfl (mO (T.os 1 0 0 (((YP Zi 1 k a i).map (Qa true)).length)) rfl (lO (B.lenO (m:=(YP Zi 1 k a i).length) (tv (T.os 1 0 0 (((YP Zi 1 k a i).map (Qa true)).length)) rfl) Zz (List.length_map ..)) (fO (Zn (tv (tN i) rfl) (tv (tN ((YP Zi 1 k a i).length)) rfl)) (nt ?_))))))
 refine cd (i<(YP Zi 1 k a i).length) rfl (fun fhc0=> ?_) fun fhc0=> ?_
 ·refine sk ?_
  refine tn (sq (VRun.block (sr (mO (T.os 1 0 0 (((YP Zi 1 k a i).map (Qa true)).length)) rfl (mO (tN i) rfl (mO (tN (k+1*i)) rfl ?_))))))
  obtain ⟨x1,hx1⟩:∃x,(YP Zi 1 k a i)[i]? =some x:=⟨_,List.getElem?_eq_getElem (by omega)⟩
  refine fO (B.indexAddrO (i:=i) (tv (T.os 1 0 0 (((YP Zi 1 k a i).map (Qa true)).length)) rfl) (tv (tN i) rfl) rfl (by (simp only [List.length_map];omega)) Zz Ze Yr) (cO (B.storeP (us:= [(tN (k+1*i))]) (rows':=(((YP Zi 1 k a i).set i ((k+1*i:Nat):Int)).map (Qa true))) (row:=(Qa true x1)) (tv (T.orp 1 0 i 0) rfl) (tv (tN (k+1*i)) rfl) nofun rfl (Qw _ hx1) rfl (lb rfl) Yr Ze (bc rfl bn) (by intro r hr t ht;obtain ⟨x,_,rfl⟩:=List.mem_map.1 hr;rw [Qk0] at ht;exact ZD (okInt.pl _ t ht)) (Zy rfl)) (nt (VRun.region (mO (tN (k+1*i)) rfl (fO (QD (tv (tN (k+1*i)) rfl) (VEv.int .i64 1) (by omega)) (aO (tN (k+1*i+1)) rfl (VRunO.nil (vinB.n (tn (VRun.region (mO (tN i) rfl ?_)))))))))))
  refine fO (QD (tv (tN i) rfl) (VEv.int .i64 1) (by omega)) (aO (tN (i+1)) rfl (VRunO.nil (tn ?_)))
  have hi1:i+1≤a.length:=by omega
  have he2:((YP Zi 1 k a i).set i ((k+1*i:Nat):Int))=YP Zi 1 k a (i+1):=by (refine Qh1 ?_;omega)
  refine ⟨(i+1:Nat),?_,?_,Wk.mk (fun k=>k) ?_ ?_ ?_⟩
  ·trivial
  ·omega
  ·exact (bc ⟨(congrArg (fun n_=>T.os 1 0 0 n_) (show ((YP Zi 1 k a i).map (Qa true)).length=((YP Zi 1 k a (i+1)).map (Qa true)).length from (by rw [List.length_map,List.length_map,Qbd hI',Qbd hi1]))),rfl⟩ (bc ⟨(congrArg (T.int .i64) (show (((k+1*i+1):Nat):Int)=((k+1*(i+1):Nat):Int) from (by rfl))),rfl⟩ (b2 (b2 bn))))
  ·exact (bc ⟨(congrArg (fun l_=>some (Obj.rows 1 (List.map (Qa true) l_))) he2),(lb rfl),rfl⟩ bn)
  ·exact nd rfl
 refine VRun.exit (vthn.e (vthn.e (vinB.e (tn (sr (mO (tN (k+1*i)) rfl (aO (tN (k+1*i)) rfl (nt (rt ?_)))))))))
 refine vmut.r (r0:=((k+1*i:Nat):Int)) (rows:=((YP Zi 1 k a i).map (Qa true))) rfl rfl rfl ?_ ?_ rfl
 ·(push_cast;omega)
 ·show List.map _ (YP Zi 1 k a i)=List.map _ (Jj Zi 1 k a.length)
  refine congrArg (List.map _) ?_
  exact Qie hI' (by omega)
theorem Qds (n:Nat) (a:List Int) (k:Nat) (hh:a=Jj Zi 1 k a.length) (hk:k+1*a.length≤Jo):Pure (Qr Tryz.prog (n+1)) 22 [(rd 1 Qa a),(tN k)] (tN (k+1*a.length)):=by
 refine Pure.intro (rs:= [ResultVar.tmp 4]) Tryz.func22 rfl rfl rfl (E0:= [(0,(rd 1 Qa a)),(1,(tN k))]) rfl ?_
 obtain ⟨hlim,hmx,hmax⟩:=QG
 refine sr (fO (OF.assign (VEv.int .i64 0)) (nt (sq (sr (fO (OF.assign (VEv.int .i64 0)) (nt (VRun.block ?_)))))))
 refine VRun.loop (A:=Nat) (fun s_=> [(0,(rd 1 Qa a)),(1,(tN (k+1*s_))),(5,(tN s_))]) (fun s_=>Q4 []) 0 (fun s_=>s_≤a.length) (fun s_=>a.length - s_) (0:Nat) ?_ (Wk.mk (fun k=>k) ?_ ?_ ?_) ?_
 ·(simp;done)
 ·exact (b2 (bc ⟨(congrArg (T.int .i64) (show ((k:Nat):Int)=((k+1*0:Nat):Int) from (by rfl))),rfl⟩ (b2 bn)))
 ·exact bn
 ·exact nd rfl
 rintro i (hI':i≤a.length)
 show VRun _ _ _ [(0,(rd 1 Qa a)),(1,(tN (k+1*i))),(5,(tN i))] (Q4 []) 0 _
 refine sq (sr (mO (tN i) rfl (mO (rd 1 Qa a) rfl (lO (B.lenR (m:=a.length) (tv (rd 1 Qa a) rfl) Zz (List.length_map ..)) (fO (Zn (tv (tN i) rfl) (tv (tN a.length) rfl)) (nt ?_))))))
 refine cd (i<a.length) rfl (fun fhc0=> ?_) fun fhc0=> ?_
 ·refine sk ?_
  refine tn (sq (VRun.block (sq (sr (mO (rd 1 Qa a) rfl (mO (tN i) rfl ?_))))))
  obtain ⟨x1,hx1⟩:∃x,a[i]? =some x:=⟨_,List.getElem?_eq_getElem (by omega)⟩
  refine fO (OF.indexAddrR (row:=(Qa false x1)) (i:=i) (tv (rd 1 Qa a) rfl) (tv (tN i) rfl) rfl (Qw _ hx1) Zz Ze Yr) (lO (OL.loadR1 (t:=(tI x1)) (tv (T.rp [(tI x1)]) rfl) rfl QR) (mO (tN (k+1*i)) rfl (fO (xne (tv (tI x1) rfl) (tv (tN (k+1*i)) rfl)) (nt ?_))))
  refine cn (x1=((k+1*i:Nat):Int)) rfl (fun fhc1=> ?_) fun fhc1=> ?_
  ·exact absurd (Qlf hh hx1) fhc1
  refine sk (tn (VRun.region (mO (tN (k+1*i)) rfl (fO (QD (tv (tN (k+1*i)) rfl) (VEv.int .i64 1) (by omega)) (aO (tN (k+1*i+1)) rfl (VRunO.nil (vinB.n (tn (VRun.region (mO (tN i) rfl (fO (QD (tv (tN i) rfl) (VEv.int .i64 1) (by omega)) ?_)))))))))))
  refine aO (tN (i+1)) rfl (VRunO.nil (tn ?_))
  refine ⟨(i+1:Nat),?_,?_,Wk.mk (fun k=>k) ?_ ?_ ?_⟩
  ·trivial
  ·omega
  ·exact (b2 (bc ⟨(congrArg (T.int .i64) (show (((k+1*i+1):Nat):Int)=((k+1*(i+1):Nat):Int) from (by rfl))),rfl⟩ (b2 bn)))
  ·exact bn
  ·exact nd rfl
 refine VRun.exit (vthn.e (vthn.e (vinB.e (tn (sr (mO (tN (k+1*i)) rfl (aO (tN (k+1*i)) rfl (nt (rt (vi (n':=((k+1*i:Nat):Int)) rfl ?_))))))))))
 omega
end Go.Proofs.YtcccmceoplcciaaGreat.AE
namespace Go.Proofs.YtcccmceoplcciaaGreat.AE
open Go Go.RowKit
set_option linter.unusedVariables false
set_option linter.unusedSimpArgs false
set_option maxRecDepth 20000
set_option maxHeartbeats 2000000
noncomputable section
def QM (c:D.Clue):Nat:=1+4*c.Play.length
def ZN (k:Nat) (c:D.Clue):D.Clue:=D.Clue.mk ((k:Nat):Int) (Jj Zk 4 (k+1) c.Play.length)
theorem Qkz (k:Nat) (c:D.Clue):QM (ZN k c)=QM c:=by unfold QM ZN;simp only [YM]
theorem QkV (c:D.Clue):QM c≤5*(1+QN c):=by
 have:=QU (z:=Zu) c.Play
 unfold QM QN
 omega
def Y2 : Nat→List D.Clue→List D.Clue:=mkL ZN QM
def QI : Nat→List D.Clue→Nat:=Y7 QM
theorem Zo (k k2:Nat) (l:List D.Clue):QI k (Y2 k2 l)=QI k l:=Qha Qkz k k2 l
theorem Qhz (k:Nat) (l:List D.Clue):QI k l≤k+5*zL QN l:=QjG QkV k l
theorem Qc9 (k:Nat) (l:List D.Clue):(Y2 k l).length=l.length:=Qay k l
end
theorem QcJ (n:Nat) (a:List D.Clue) (k:Nat) (hk:QI k a≤Jo):LoanM (Qr Tryz.prog (n+3)) 76 [(2,(a.map (Qg true)))] [(T.os 2 0 0 ((a.map (Qg true)).length)),(tN k)] (tN (QI k a)) [(2,((Y2 k a).map (Qg true)))]:=by
 refine LoanM.intro (rs:= [ResultVar.tmp 4]) [(0,(T.os 2 0 0 ((a.map (Qg true)).length)))] Tryz.func76 rfl rfl rfl rfl (bc ⟨by kernel_rfl,rfl⟩ bn) (PinsTo.at (And.intro trivial ⟨_,(.head _),(.os _ _)⟩)) (.int _ _) (bc (okeClue.cleanMap _) bn) (E0:= [(0,(T.os 2 0 0 ((a.map (Qg true)).length))),(1,(tN k))]) rfl (fun asg=> ?_)
 obtain ⟨hlim,hmx,hmax⟩:=QG
 show VRun _ _ _ [(0,(T.os 2 0 0 ((a.map (Qg true)).length))),(1,(tN k))] (Q4 [(0,(Obj.rowsN 2 (a.map (Qg true)) (asg 0)))]) 1 _
 have hk2:=hk
 unfold QI at hk2
 have hla:=Qh2 (w:=QM) (fun x=>Nat.le_add_right _ _) k a
 refine sr (fO (OF.assign (VEv.int .i64 0)) (nt (sq (sr (fO (OF.assign (VEv.int .i64 0)) (nt (VRun.block ?_)))))))
 have he1:a=mkT ZN QM k a 0:=by rfl
 refine VRun.loop (A:=Nat) (fun s_=> [(0,(T.os 2 0 0 (((mkT ZN QM k a s_).map (Qg true)).length))),(1,(tN (Y7 QM k (a.take s_)))),(4,(tN 0)),(5,(tN s_))]) (fun s_=>Q4 [(0,(Obj.rowsN 2 ((mkT ZN QM k a s_).map (Qg true)) (asg 0)))]) 1 (fun s_=>s_≤a.length) (fun s_=>a.length - s_) (0:Nat) ?_ (Wk.mk (fun k=>k) ?_ ?_ ?_) ?_
 ·(simp;done)
 ·exact (bc ⟨(congrArg (fun l_=>T.os 2 0 0 (List.map (Qg true) l_).length) he1),rfl⟩ (bc ⟨(congrArg (T.int .i64) (show ((k:Nat):Int)=((Y7 QM k (a.take 0):Nat):Int) from (by rfl))),rfl⟩ (b2 (b2 bn))))
 ·exact (bc ⟨(congrArg (fun l_=>some (Obj.rowsN 2 (List.map (Qg true) l_) (asg 0))) he1),(lb rfl),rfl⟩ bn)
 ·exact nd rfl
 rintro i (hI':i≤a.length)
 show VRun _ _ _ [(0,(T.os 2 0 0 (((mkT ZN QM k a i).map (Qg true)).length))),(1,(tN (Y7 QM k (a.take i)))),(4,(tN 0)),(5,(tN i))] (Q4 [(0,(Obj.rowsN 2 ((mkT ZN QM k a i).map (Qg true)) (asg 0)))]) 1 _
 have hml:=QdE (f:=ZN) (w:=QM) k a i
 have hme:=QgX (w:=QM) k a i
 refine sq (sr (mO (tN i) rfl (mO (T.os 2 0 0 (((mkT ZN QM k a i).map (Qg true)).length)) rfl (lO (B.lenO (m:=(mkT ZN QM k a i).length) (tv (T.os 2 0 0 (((mkT ZN QM k a i).map (Qg true)).length)) rfl) U35 (List.length_map ..)) (fO (Zn (tv (tN i) rfl) (tv (tN ((mkT ZN QM k a i).length)) rfl)) (nt ?_))))))
 refine cd (i<(mkT ZN QM k a i).length) rfl (fun fhc0=> ?_) fun fhc0=> ?_
 ·refine sk ?_
  refine tn (sq (VRun.block (sr (mO (T.os 2 0 0 (((mkT ZN QM k a i).map (Qg true)).length)) rfl (mO (tN i) rfl (mO (tN (Y7 QM k (a.take i))) rfl ?_))))))
  obtain ⟨x1,hx1⟩:∃x,(mkT ZN QM k a i)[i]? =some x:=⟨_,List.getElem?_eq_getElem (by omega)⟩
  (have hy1:=Qla (show i<a.length by omega) hx1;have hnx:=Qjl (w:=QM) (k:=k) hy1;have hnt:=QgX (w:=QM) k a (i+1);have hw2:QM x1=1+4*x1.Play.length:=rfl)
  refine fO (B.indexAddrO (i:=i) (tv (T.os 2 0 0 (((mkT ZN QM k a i).map (Qg true)).length)) rfl) (tv (tN i) rfl) rfl (by (simp only [List.length_map];omega)) U35 QaJ Qf4) (fO (OF.fieldAddrP (tv (T.orp 2 0 i 0) rfl) Qcv) (cO (B.storeN (t0:=(tI x1.Sense)) (rows':=(((mkT ZN QM k a i).set i (D.Clue.mk ((Y7 QM k (a.take i):Nat):Int) x1.Play)).map (Qg true))) (row:=(Qg true x1)) (tv (T.orp 2 0 i 0) rfl) (tv (tN (Y7 QM k (a.take i))) rfl) rfl rfl (Qw _ hx1) rfl rfl Yr Ze (Zy rfl)) (nt (sr (mO (tN (Y7 QM k (a.take i))) rfl (fO (QD (tv (tN (Y7 QM k (a.take i))) rfl) (VEv.int .i64 1) (by omega)) (aO (tN (Y7 QM k (a.take i)+1)) rfl (nt (VRun.region (mO (T.os 2 0 0 (((mkT ZN QM k a i).map (Qg true)).length)) rfl (mO (tN i) rfl ?_)))))))))))
  refine fO (B.indexAddrO (i:=i) (tv (T.os 2 0 0 (((mkT ZN QM k a i).map (Qg true)).length)) rfl) (tv (tN i) rfl) rfl (by (simp only [List.length_map];omega)) U35 QaJ Qf4) (fO (OF.fieldAddrP (tv (T.orp 2 0 i 0) rfl) QcW) (VRunO.nest (row:=(Qg true (D.Clue.mk ((Y7 QM k (a.take i):Nat):Int) x1.Play))) (rs:=(x1.Play.map (Qj true))) (rs':=((Jj Zk 4 (Y7 QM k (a.take i)+1) x1.Play.length).map (Qj true))) (rows':=((((mkT ZN QM k a i).set i (D.Clue.mk ((Y7 QM k (a.take i):Nat):Int) x1.Play)).set i (D.Clue.mk ((Y7 QM k (a.take i):Nat):Int) (Jj Zk 4 (Y7 QM k (a.take i)+1) x1.Play.length))).map (Qg true))) (n:=(((Y7 QM k (a.take i)+1):Nat):Int)) (r:=(((Y7 QM k (a.take i)+1)+4*x1.Play.length:Nat):Int)) rfl (tv (T.orp 2 0 i 1) rfl) rfl (Qw _ (Qfq (by omega))) rfl QjC (tv (tN (Y7 QM k (a.take i)+1)) rfl) rfl (Qcs (n+0) x1.Play (Y7 QM k (a.take i)+1) (by omega)) (okeStep.cleanMap _) (Zy rfl) (aO (tN ((Y7 QM k (a.take i)+1)+4*x1.Play.length)) rfl (VRunO.nil (vinB.n (tn (VRun.region (mO (tN i) rfl (fO (QD (tv (tN i) rfl) (VEv.int .i64 1) (by omega)) (aO (tN (i+1)) rfl (VRunO.nil ?_)))))))))))
  refine tn ?_
  have he2:(((mkT ZN QM k a i).set i (D.Clue.mk ((Y7 QM k (a.take i):Nat):Int) x1.Play)).set i (D.Clue.mk ((Y7 QM k (a.take i):Nat):Int) (Jj Zk 4 (Y7 QM k (a.take i)+1) x1.Play.length)))=mkT ZN QM k a (i+1):=by (rw [List.set_set];exact QkF hy1 rfl)
  refine ⟨(i+1:Nat),?_,?_,Wk.mk (fun k=>k) ?_ ?_ ?_⟩
  ·omega
  ·omega
  ·exact (bc ⟨(congrArg (fun n_=>T.os 2 0 0 n_) (show ((mkT ZN QM k a i).map (Qg true)).length=((mkT ZN QM k a (i+1)).map (Qg true)).length from (by rw [List.length_map,List.length_map,QdE,QdE]))),rfl⟩ (bc ⟨(congrArg (T.int .i64) (show (((Y7 QM k (a.take i)+1)+4*x1.Play.length:Nat):Int)=((Y7 QM k (a.take (i+1)):Nat):Int) from (by omega))),rfl⟩ (b2 (b2 bn))))
  ·exact (bc ⟨(congrArg (fun l_=>some (Obj.rowsN 2 (List.map (Qg true) l_) (asg 0))) he2),(lb rfl),rfl⟩ bn)
  ·exact nd rfl
 refine VRun.exit (vthn.e (vthn.e (vinB.e (tn (sr (mO (tN (Y7 QM k (a.take i))) rfl (aO (tN (Y7 QM k (a.take i))) rfl (nt (rt ?_)))))))))
 have hnew0:mkT ZN QM k a i=Y2 k a:=by
  exact Qjz (by omega)
 exact vloanM.r (L1:= [(2,((mkT ZN QM k a i).map (Qg true)))]) (fun k=>k) (VRes.tmp (t:=(tN (Y7 QM k (a.take i)))) rfl VRes.nil) (congrArg (T.int .i64) (show ((Y7 QM k (a.take i):Nat):Int)=((QI k a:Nat):Int) by rw [List.take_of_length_le (by omega)];rfl)) (bc (congrArg (fun n_=>T.os 2 0 0 n_) (show ((mkT ZN QM k a i).map (Qg true)).length=(a.map (Qg true)).length from (by rw [List.length_map,List.length_map,QdE]))) bn) (And.intro rfl (trivial)) (by rw [hnew0])
end Go.Proofs.YtcccmceoplcciaaGreat.AE
namespace Go.Proofs.YtcccmceoplcciaaGreat.AE
open Go Go.RowKit
set_option linter.unusedVariables false
set_option linter.unusedSimpArgs false
set_option maxRecDepth 20000
set_option maxHeartbeats 2000000
noncomputable section
def ZO (p:D.Puzzle):Prop:=ZP p.Grid=0∧p.Clues.length=(Qc p.Grid).length∧p.Seals.length=(Qc p.Grid).length∧(1≤p.Salt∧p.Salt≤9999)∧∀c∈p.Clues,okC c
instance (p:D.Puzzle):Decidable (ZO p):=Classical.propDecidable _
def noC (c:D.Clue):Prop:=¬okC c
instance (c:D.Clue):Decidable (noC c):=Classical.propDecidable _
end
theorem Qb3 (n:Nat) (c:D.Clue) (hz:QN c≤mx):Pure (Qr Tryz.prog (n+5)) 109 [(T.agg (Qg false c))] (tB (decide (noC c))):=by
 refine Pure.intro (rs:= [ResultVar.tmp 2]) Tryz.func109 rfl rfl rfl (E0:= [(0,(T.agg (Qg false c)))]) rfl ?_
 obtain ⟨hlim,hmx,hmax⟩:=QG
 refine sr (kO (B.box (ts:=(Qg false c)) (tv (T.agg (Qg false c)) rfl) nofun rfl) (fO (OF.assign (VEv.bool false)) (nt (sr (lO (OL.loadOn (us:=(Qg false c)) (tv (T.op 0 0) rfl) rfl Qht QaJ (lb rfl) rfl) (cO (cS (vc (tv (T.agg (Qg false c)) rfl) vn) (LendL.cons (lg okeClue) ln) (QeG (n+0) c (by assumption)) rfl rfl) (fO (QZ (tv (tB (decide ((1≤c.Sense∧c.Sense≤99)∧Yd c.Play))) rfl)) (aO (tB (!(decide ((1≤c.Sense∧c.Sense≤99)∧Yd c.Play)))) rfl (nt (rt (vb (b':=(!(decide ((1≤c.Sense∧c.Sense≤99)∧Yd c.Play)))) rfl ?_)))))))))))
 rw [dN];exact Q6 Iff.rfl
theorem Zv (n:Nat) (l:List D.Clue) (hz:zL QN l≤mx):Pure (Qr Tryz.prog (n+6)) 141 [(rd 2 Qg l),(T.fn 109 [])] (tI (ixF noC l)):=by
 refine Pure.intro (rs:= [ResultVar.tmp 4]) Tryz.func141 rfl rfl rfl (E0:= [(0,(rd 2 Qg l)),(1,(T.fn 109 []))]) rfl ?_
 obtain ⟨hlim,hmx,hmax⟩:=QG
 have hl:=QU (z:=QN) l
 refine sr (fO (OF.assign (VEv.int .i64 0)) (nt (sq (sr (mO (rd 2 Qg l) rfl (lO (B.lenR (m:=l.length) (tv (rd 2 Qg l) rfl) U35 (List.length_map ..)) (fO (OF.move (VEv.int .i64 0)) (nt (VRun.block ?_)))))))))
 refine VRun.loop (A:=Nat) (fun s_=> [(0,(rd 2 Qg l)),(1,(T.fn 109 [])),(7,(tN l.length)),(8,(tN s_))]) (fun s_=>Q4 []) 0 (fun s_=>NoneTo noC l s_) (fun s_=>l.length - s_) (0:Nat) ?_ (Wk.mk (fun k=>k) ?_ ?_ ?_) ?_
 ·exact NoneTo.start _ _
 ·exact (b2 (b2 (b2 (b2 bn))))
 ·exact bn
 ·exact nd rfl
 rintro i (hI':NoneTo noC l i)
 show VRun _ _ _ [(0,(rd 2 Qg l)),(1,(T.fn 109 [])),(7,(tN l.length)),(8,(tN i))] (Q4 []) 0 _
 have hI1:=hI'.1
 refine sr (fO (Zn (tv (tN i) rfl) (tv (tN l.length) rfl)) (nt (sq ?_)))
 refine cd (i<l.length) rfl (fun fhc0=> ?_) fun fhc0=> ?_
 ·refine sk ?_
  refine tn (sq (VRun.block (sr (mO (tN i) rfl (aO (tN i) rfl (nt (sr (mO (T.fn 109 []) rfl (mO (rd 2 Qg l) rfl (mO (tN i) rfl ?_))))))))))
  obtain ⟨x1,hx1⟩:∃x,l[i]? =some x:=⟨_,List.getElem?_eq_getElem (by omega)⟩
  refine fO (OF.indexAddrR (row:=(Qg false x1)) (i:=i) (tv (rd 2 Qg l) rfl) (tv (tN i) rfl) rfl (Qw _ hx1) U35 QaJ Qf4) (lO (OL.loadRn (us:=(Qg false x1)) (tv (T.rp (Qg false x1)) rfl) Qht QaJ (lb rfl) rfl) (cO (OC.callv (us:= [(T.agg (Qg false x1))]) (ucaps:= []) (r:=(tB (decide (noC x1)))) (r':=(tB (decide (noC x1)))) (objs:= []) rfl rfl (vc (tv (T.agg (Qg false x1)) rfl) vn) (LendL.cons (lg okeClue) ln) ln (Qb3 (n+0) x1 (by exact Nat.le_trans (Qfj hx1) hz)) rfl) (nt ?_)))
  refine cd (noC x1) rfl (fun fhc1=> ?_) fun fhc1=> ?_
  ·refine sr ?_
   refine mO (tN i) rfl (aO (tN i) rfl (nt (rt (vinB.r (tr (tr (vinB.r (tr (vi (n':=((i:Nat):Int)) rfl ?_)))))))))
   exact (Qcw hx1 fhc1 hI'.2).symm
  refine sk (vinB.n (tn (VRun.region (fO (QD (tv (tN i) rfl) (VEv.int .i64 1) (by omega)) (mO (tN (i+1)) rfl (VRunO.nil (tn ?_)))))))
  refine ⟨(i+1:Nat),?_,?_,Wk.mk (fun k=>k) ?_ ?_ ?_⟩
  ·exact hI'.next hx1 fhc1
  ·omega
  ·exact (b2 (b2 (b2 (b2 bn))))
  ·exact bn
  ·exact nd rfl
 refine VRun.exit (vthn.e (vthn.e (vinB.e (tn (sr (fO (OF.assign (VEv.int .i64 (-1))) (nt (rt (vi (n':=(-1)) rfl ?_)))))))))
 exact (Qef (hI'.all fhc0)).symm
theorem Zp (n:Nat) (l:List D.Clue) (hz:zL QN l≤mx):Pure (Qr Tryz.prog (n+7)) 108 [(rd 2 Qg l),(T.fn 109 [])] (tB (decide (∃c∈l,noC c))):=by
 refine Pure.intro (rs:= [ResultVar.tmp 4]) Tryz.func108 rfl rfl rfl (E0:= [(0,(rd 2 Qg l)),(1,(T.fn 109 []))]) rfl ?_
 obtain ⟨hlim,hmx,hmax⟩:=QG
 refine sr (fO (OF.assign (VEv.bool false)) (nt (sr (mO (rd 2 Qg l) rfl (mO (T.fn 109 []) rfl (cO (cS (us:= [(rd 2 Qg l),(T.fn 109 [])]) (vc (tv (rd 2 Qg l) rfl) (vc (tv (T.fn 109 []) rfl) vn)) (lp rfl (LendL.cons (Lend.fn ln) ln)) (Zv (n+0) l (by assumption)) rfl rfl) (fO (xge (tv (tI (ixF noC l)) rfl) (VEv.int .i64 0)) (aO (tB (decide (0≤ixF noC l))) rfl (nt (rt (vb (b':=(decide (0≤ixF noC l))) rfl ?_)))))))))))
 refine Q6 ?_;exact Qhy
theorem Qdh (n:Nat) (a:D.Puzzle) (hz:QH a≤mx):Pure (Qr Tryz.prog (n+10)) 57 [(T.agg (Qq false a))] (tB (decide (ZO a))):=by
 refine Pure.intro (rs:= [ResultVar.tmp 2]) Tryz.func57 rfl rfl rfl (E0:= [(0,(T.agg (Qq false a)))]) rfl ?_
 obtain ⟨hlim,hmx,hmax⟩:=QG
 simp only [QH,ZB] at hz
 have hl:=QU (z:=QN) a.Clues
 have hl2:=QU (z:=zI) a.Seals
 refine sr (kO (B.box (ts:=(Qq false a)) (tv (T.agg (Qq false a)) rfl) nofun rfl) (fO (OF.assign (VEv.bool false)) (nt (sq (sr (fO (OF.assign (VEv.int .i64 0)) (nt (VRun.block ?_))))))))
 refine VRun.loop (A:=Nat) (fun s_=> [(1,(T.op 0 0)),(3,(tN s_))]) (fun s_=>Q4 [(0,(Obj.cells (Qq false a)))]) 1 (fun s_=>NoneTo noC a.Clues s_) (fun s_=>a.Clues.length - s_) (0:Nat) ?_ (Wk.mk (fun k=>k) ?_ ?_ ?_) ?_
 ·exact NoneTo.start _ _
 ·exact (b2 (b2 bn))
 ·exact (b3 bn)
 ·exact nd rfl
 rintro i (hI':NoneTo noC a.Clues i)
 show VRun _ _ _ [(1,(T.op 0 0)),(3,(tN i))] (Q4 [(0,(Obj.cells (Qq false a)))]) 1 _
 have hI1:=hI'.1
 refine sq (sr (mO (tN i) rfl (lf (rd 2 Qg a.Clues) rfl YW rfl rfl Qdp (lO (B.lenR (m:=a.Clues.length) (tv (rd 2 Qg a.Clues) rfl) U35 (List.length_map ..)) (fO (Zn (tv (tN i) rfl) (tv (tN a.Clues.length) rfl)) (nt ?_))))))
 refine cd (i<a.Clues.length) rfl (fun fhc0=> ?_) fun fhc0=> ?_
 ·refine sk ?_
  refine tn (sq (VRun.block (sr (lf (rd 2 Qg a.Clues) rfl YW rfl rfl Qdp (mO (tN i) rfl ?_)))))
  obtain ⟨x1,hx1⟩:∃x,a.Clues[i]? =some x:=⟨_,List.getElem?_eq_getElem (by omega)⟩
  refine fO (OF.indexAddrR (row:=(Qg false x1)) (i:=i) (tv (rd 2 Qg a.Clues) rfl) (tv (tN i) rfl) rfl (Qw _ hx1) U35 QaJ Qf4) (lO (OL.loadRn (us:=(Qg false x1)) (tv (T.rp (Qg false x1)) rfl) Qht QaJ (lb rfl) rfl) (cO (cS (vc (tv (T.agg (Qg false x1)) rfl) vn) (LendL.cons (lg okeClue) ln) (QeK (n+4) x1 (by exact Nat.le_trans (Qfj hx1) (by omega))) rfl rfl) (fO (QZ (tv (tB (decide ((1≤x1.Sense∧x1.Sense≤99)∧Yd x1.Play))) rfl)) (nt ?_))))
  refine cn ((1≤x1.Sense∧x1.Sense≤99)∧Yd x1.Play) rfl (fun fhc1=> ?_) fun fhc1=> ?_
  ·refine sr ?_
   refine fO (OF.assign (VEv.bool false)) (nt (rt (vinB.r (tr (tr (vinB.r (tr (vb (b':=false) rfl ?_))))))))
   symm;rw [decide_eq_false_iff_not];rintro ⟨_,_,_,_,h⟩;exact fhc1 (h x1 (List.mem_of_getElem? hx1))
  refine sk (vinB.n (tn (VRun.region (mO (tN i) rfl (fO (QD (tv (tN i) rfl) (VEv.int .i64 1) (by omega)) (aO (tN (i+1)) rfl (VRunO.nil (tn ?_))))))))
  refine ⟨(i+1:Nat),?_,?_,Wk.mk (fun k=>k) ?_ ?_ ?_⟩
  ·exact hI'.next hx1 (fun h=>h fhc1)
  ·omega
  ·exact (b2 (b2 bn))
  ·exact (b3 bn)
  ·exact nd rfl
 refine VRun.exit (vthn.e (vthn.e (vinB.e (tn (sr (fO (OF.fieldAddrO (tv (T.op 0 0) rfl) Qax) (lO (OL.loadOn (us:=(Qb false a.Grid)) (tv (T.op 0 0) rfl) rfl Q3 QW (lb rfl) rfl) (cO (OC.callF (us:= [(T.agg (Qb false a.Grid))]) (r:=(T.sl true 4 ((Qc a.Grid).map (Qh true)))) (r':=(T.os 4 1 0 (((Qc a.Grid).map (Qh true)).length))) (objs:= [(Obj.rows 4 ((Qc a.Grid).map (Qh true)))]) rfl (vc (tv (T.agg (Qb false a.Grid)) rfl) vn) (LendL.cons (lg Qv) ln) (ZV (n+6) a.Grid (by omega)) rfl) (lO (B.lenO (m:=(Qc a.Grid).length) (tv (T.os 4 1 0 (((Qc a.Grid).map (Qh true)).length)) rfl) Z5 (List.length_map ..)) (aO (tN ((Qc a.Grid).length)) rfl (nt ?_)))))))))))
 refine sr (fO (OF.fieldAddrO (tv (T.op 0 0) rfl) Qax) (lO (OL.loadOn (us:=(Qb false a.Grid)) (tv (T.op 0 0) rfl) rfl Q3 QW (lb rfl) rfl) (cO (cS (vc (tv (T.agg (Qb false a.Grid)) rfl) vn) (LendL.cons (lg Qv) ln) (QeS (n+0) a.Grid (by omega)) rfl rfl) (fO (Y4 (tv (tI (ZP a.Grid)) rfl) (VEv.int .i64 0)) (mO (tB (decide (ZP a.Grid=0))) rfl ?_)))))
 refine VRunO.joinB 6 [28,29,30,31,32] 33 (tB (decide ((ZP a.Grid=0)∧(a.Clues.length=(Qc a.Grid).length)))) ?_ ?_
 ·refine gw (ZP a.Grid=0) (fun fhg27_1=> ?_) fun fhg27_1=> ?_
  ·refine Yg (rd 2 Qg a.Clues) (dy fhg27_1) rfl rfl rfl rfl YW rfl rfl Qdp ?_
   refine gL (dy fhg27_1) rfl rfl (B.lenR (m:=a.Clues.length) (tv (rd 2 Qg a.Clues) rfl) U35 (List.length_map ..)) (gF (dy fhg27_1) rfl rfl (OF.move (tv (tN ((Qc a.Grid).length)) rfl)) (gF (dy fhg27_1) rfl rfl (QkS (tv (tN a.Clues.length) rfl) (tv (tN ((Qc a.Grid).length)) rfl)) (fO (OF.pickT (VEv.tmpB rfl (dy fhg27_1)) (tv (tB (decide (a.Clues.length=(Qc a.Grid).length))) rfl)) (VRunO.nil ?_))))
   exact jq (congrArg T.bool (kAT fhg27_1 rfl)) (js rfl (js rfl (js rfl (js rfl (js rfl (jn))))))
  ·refine QA 5 4 true 27 (dz fhg27_1) rfl rfl rfl ?_
   refine fO (OF.pickF (VEv.tmpB rfl (dz fhg27_1)) (VEv.bool false)) (VRunO.nil ?_)
   exact jq (congrArg T.bool (kAF fhg27_1)) (js rfl (js rfl (js rfl (js rfl (js rfl (jn))))))
 refine mO (tB (decide ((ZP a.Grid=0)∧(a.Clues.length=(Qc a.Grid).length)))) rfl ?_
 refine VRunO.joinB 6 [35,36,37,38,39] 40 (tB (decide (((ZP a.Grid=0)∧(a.Clues.length=(Qc a.Grid).length))∧(a.Seals.length=(Qc a.Grid).length)))) ?_ ?_
 ·refine gw ((ZP a.Grid=0)∧(a.Clues.length=(Qc a.Grid).length)) (fun fhg34_2=> ?_) fun fhg34_2=> ?_
  ·refine Yg (rd 1 Qa a.Seals) (dy fhg34_2) rfl rfl rfl rfl QcX rfl rfl YZ ?_
   refine gL (dy fhg34_2) rfl rfl (B.lenR (m:=a.Seals.length) (tv (rd 1 Qa a.Seals) rfl) Zz (List.length_map ..)) (gF (dy fhg34_2) rfl rfl (OF.move (tv (tN ((Qc a.Grid).length)) rfl)) (gF (dy fhg34_2) rfl rfl (QkS (tv (tN a.Seals.length) rfl) (tv (tN ((Qc a.Grid).length)) rfl)) (fO (OF.pickT (VEv.tmpB rfl (dy fhg34_2)) (tv (tB (decide (a.Seals.length=(Qc a.Grid).length))) rfl)) (VRunO.nil ?_))))
   exact jq (congrArg T.bool (kAT fhg34_2 rfl)) (js rfl (js rfl (js rfl (js rfl (js rfl (jn))))))
  ·refine QA 5 11 true 34 (dz fhg34_2) rfl rfl rfl ?_
   refine fO (OF.pickF (VEv.tmpB rfl (dz fhg34_2)) (VEv.bool false)) (VRunO.nil ?_)
   exact jq (congrArg T.bool (kAF fhg34_2)) (js rfl (js rfl (js rfl (js rfl (js rfl (jn))))))
 refine mO (tB (decide (((ZP a.Grid=0)∧(a.Clues.length=(Qc a.Grid).length))∧(a.Seals.length=(Qc a.Grid).length)))) rfl ?_
 refine VRunO.joinB 4 [42,43,44] 45 (tB (decide ((((ZP a.Grid=0)∧(a.Clues.length=(Qc a.Grid).length))∧(a.Seals.length=(Qc a.Grid).length))∧(1≤a.Salt∧a.Salt≤9999)))) ?_ ?_
 ·refine gw (((ZP a.Grid=0)∧(a.Clues.length=(Qc a.Grid).length))∧(a.Seals.length=(Qc a.Grid).length)) (fun fhg41_3=> ?_) fun fhg41_3=> ?_
  ·refine Yg (tI a.Salt) (dy fhg41_3) rfl rfl rfl rfl QdZ rfl rfl QR ?_
   refine VRunO.chain (VWant.on rfl rfl (dy fhg41_3)) (cS (vc (tv (tI a.Salt) rfl) (vc (VEv.int .i64 1) (vc (VEv.int .i64 9999) vn))) (ZU rfl) (QO (n+8) a.Salt 1 9999) rfl rfl) (fO (OF.pickT (VEv.tmpB rfl (dy fhg41_3)) (tv (tB (decide (1≤a.Salt∧a.Salt≤9999))) rfl)) (VRunO.nil ?_))
   exact jq (congrArg T.bool (kAT fhg41_3 rfl)) (js rfl (js rfl (js rfl (jn))))
  ·refine QA 3 18 true 41 (dz fhg41_3) rfl rfl rfl ?_
   refine fO (OF.pickF (VEv.tmpB rfl (dz fhg41_3)) (VEv.bool false)) (VRunO.nil ?_)
   exact jq (congrArg T.bool (kAF fhg41_3)) (js rfl (js rfl (js rfl (jn))))
 refine aO (tB (decide ((((ZP a.Grid=0)∧(a.Clues.length=(Qc a.Grid).length))∧(a.Seals.length=(Qc a.Grid).length))∧(1≤a.Salt∧a.Salt≤9999)))) rfl (nt (rt (vb (b':=(decide ((((ZP a.Grid=0)∧(a.Clues.length=(Qc a.Grid).length))∧(a.Seals.length=(Qc a.Grid).length))∧(1≤a.Salt∧a.Salt≤9999)))) rfl ?_)))
 refine Q6 ⟨fun h=>⟨h.1.1.1,h.1.1.2,h.1.2,h.2,fun c hc=>Classical.byContradiction fun e=>hI'.mem fhc0 c hc e⟩,fun h=>⟨⟨⟨h.1,h.2.1⟩,h.2.2.1⟩,h.2.2.2.1⟩⟩
theorem Qdr (n:Nat) (a:D.Puzzle) (hz:QH a≤mx):Pure (Qr Tryz.prog (n+42)) 62 [(T.agg (Qq false a))] (tB (decide (ZO a))):=by
 refine Pure.intro (rs:= [ResultVar.tmp 2]) Tryz.func62 rfl rfl rfl (E0:= [(0,(T.agg (Qq false a)))]) rfl ?_
 obtain ⟨hlim,hmx,hmax⟩:=QG
 simp only [QH,ZB] at hz
 have hl:=QU (z:=QN) a.Clues
 have hl2:=QU (z:=zI) a.Seals
 refine sr (kO (B.box (ts:=(Qq false a)) (tv (T.agg (Qq false a)) rfl) nofun rfl) (fO (OF.assign (VEv.bool false)) (nt (sq (sr (fO (OF.fieldAddrO (tv (T.op 0 0) rfl) Qax) (lO (OL.loadOn (us:=(Qb false a.Grid)) (tv (T.op 0 0) rfl) rfl Q3 QW (lb rfl) rfl) (cO (cS (vc (tv (T.agg (Qb false a.Grid)) rfl) vn) (LendL.cons (lg Qv) ln) (QeY (n+0) a.Grid (by omega)) rfl rfl) (fO (xne (tv (tI (ZP a.Grid)) rfl) (VEv.int .i64 0)) (nt ?_))))))))))
 refine cn (ZP a.Grid=0) rfl (fun fhc0=> ?_) fun fhc0=> ?_
 ·refine sr ?_
  refine fO (OF.assign (VEv.bool false)) (nt (rt (tr (vb (b':=false) rfl ?_))))
  symm;rw [decide_eq_false_iff_not];intro h;exact fhc0 h.1
 refine sk (tn (sr (fO (OF.fieldAddrO (tv (T.op 0 0) rfl) Qax) (lO (OL.loadOn (us:=(Qb false a.Grid)) (tv (T.op 0 0) rfl) rfl Q3 QW (lb rfl) rfl) (cO (OC.callF (us:= [(T.agg (Qb false a.Grid))]) (r:=(T.sl true 4 ((Qc a.Grid).map (Qh true)))) (r':=(T.os 4 1 0 (((Qc a.Grid).map (Qh true)).length))) (objs:= [(Obj.rows 4 ((Qc a.Grid).map (Qh true)))]) rfl (vc (tv (T.agg (Qb false a.Grid)) rfl) vn) (LendL.cons (lg Qv) ln) (Jv (n+38) a.Grid (by omega)) rfl) (lO (B.lenO (m:=(Qc a.Grid).length) (tv (T.os 4 1 0 (((Qc a.Grid).map (Qh true)).length)) rfl) Z5 (List.length_map ..)) (aO (tN ((Qc a.Grid).length)) rfl (nt (sr (lf (rd 2 Qg a.Clues) rfl YW rfl rfl Qdp (lO (B.lenR (m:=a.Clues.length) (tv (rd 2 Qg a.Clues) rfl) U35 (List.length_map ..)) ?_)))))))))))
 refine mO (tN ((Qc a.Grid).length)) rfl (fO (QkS (tv (tN a.Clues.length) rfl) (tv (tN ((Qc a.Grid).length)) rfl)) (mO (tB (decide (a.Clues.length=(Qc a.Grid).length))) rfl ?_))
 refine gw (a.Clues.length=(Qc a.Grid).length) (fun fhg17_1=> ?_) fun fhg17_1=> ?_
 ·refine Yg (rd 1 Qa a.Seals) (dy fhg17_1) rfl rfl rfl rfl QcX rfl rfl YZ ?_
  refine gL (dy fhg17_1) rfl rfl (B.lenR (m:=a.Seals.length) (tv (rd 1 Qa a.Seals) rfl) Zz (List.length_map ..)) (gF (dy fhg17_1) rfl rfl (OF.move (tv (tN ((Qc a.Grid).length)) rfl)) (gF (dy fhg17_1) rfl rfl (QkS (tv (tN a.Seals.length) rfl) (tv (tN ((Qc a.Grid).length)) rfl)) (fO (OF.pickT (VEv.tmpB rfl (dy fhg17_1)) (tv (tB (decide (a.Seals.length=(Qc a.Grid).length))) rfl)) (mO (tB (decide (a.Seals.length=(Qc a.Grid).length))) rfl ?_))))
  refine gw (a.Seals.length=(Qc a.Grid).length) (fun fhg24_2=> ?_) fun fhg24_2=> ?_
  ·refine Yg (tI a.Salt) (dy fhg24_2) rfl rfl rfl rfl QdZ rfl rfl QR ?_
   refine VRunO.chain (VWant.on rfl rfl (dy fhg24_2)) (cS (vc (tv (tI a.Salt) rfl) (vc (VEv.int .i64 1) (vc (VEv.int .i64 9999) vn))) (ZU rfl) (QV (n+40) a.Salt 1 9999) rfl rfl) (fO (OF.pickT (VEv.tmpB rfl (dy fhg24_2)) (tv (tB (decide (1≤a.Salt∧a.Salt≤9999))) rfl)) (mO (tB (decide (1≤a.Salt∧a.Salt≤9999))) rfl ?_))
   refine gw (1≤a.Salt∧a.Salt≤9999) (fun fhg29_3=> ?_) fun fhg29_3=> ?_
   ·refine Yg (rd 2 Qg a.Clues) (dy fhg29_3) rfl rfl rfl rfl YW rfl rfl Qdp ?_
    refine VRunO.chain (VWant.on rfl rfl (dy fhg29_3)) (cS (us:= [(rd 2 Qg a.Clues),(T.fn 109 [])]) (vc (tv (rd 2 Qg a.Clues) rfl) (vc (VEv.func 109) vn)) (lp rfl (LendL.cons (Lend.fn ln) ln)) (Zp (n+34) a.Clues (by omega)) rfl rfl) (gF (dy fhg29_3) rfl rfl (QZ (tv (tB (decide (∃c∈a.Clues,noC c))) rfl)) (fO (OF.pickT (VEv.tmpB rfl (dy fhg29_3)) (tv (tB (!(decide (∃c∈a.Clues,noC c)))) rfl)) (aO (tB (!(decide (∃c∈a.Clues,noC c)))) rfl (nt (rt (vb (b':=(!(decide (∃c∈a.Clues,noC c)))) rfl ?_))))))
    (rw [dN];refine Q6 ⟨fun h=>⟨?_,?_,?_,?_,fun c hc=>Classical.byContradiction fun e=>h ⟨c,hc,e⟩⟩,fun h=> ?_⟩<;>first | assumption | (rintro ⟨c,hc,hb⟩;exact hb (h.2.2.2.2 c hc)))
   refine QA 4 17 true 29 (dz fhg29_3) rfl rfl rfl (fO (OF.pickF (VEv.tmpB rfl (dz fhg29_3)) (VEv.bool false)) (aO (tB false) rfl (nt (rt (vb (b':=false) rfl ?_)))))
   (symm;rw [decide_eq_false_iff_not];rintro ⟨h1,h2,h3,h4,h5⟩;contradiction)
  refine QA 3 12 true 24 (dz fhg24_2) rfl rfl rfl (fO (OF.pickF (VEv.tmpB rfl (dz fhg24_2)) (VEv.bool false)) (mO (tB false) rfl (QA 4 17 true 29 (b:=false) rfl rfl rfl rfl (fO (OF.pickF (tv (tB false) rfl) (VEv.bool false)) (aO (tB false) rfl (nt (rt (vb (b':=false) rfl ?_))))))))
  (symm;rw [decide_eq_false_iff_not];rintro ⟨h1,h2,h3,h4,h5⟩;contradiction)
 refine QA 5 5 true 17 (dz fhg17_1) rfl rfl rfl (fO (OF.pickF (VEv.tmpB rfl (dz fhg17_1)) (VEv.bool false)) (mO (tB false) rfl (QA 3 12 true 24 (b:=false) rfl rfl rfl rfl (fO (OF.pickF (tv (tB false) rfl) (VEv.bool false)) (mO (tB false) rfl (QA 4 17 true 29 (b:=false) rfl rfl rfl rfl (fO (OF.pickF (tv (tB false) rfl) (VEv.bool false)) (aO (tB false) rfl (nt (rt (vb (b':=false) rfl ?_)))))))))))
 (symm;rw [decide_eq_false_iff_not];rintro ⟨h1,h2,h3,h4,h5⟩;contradiction)
end Go.Proofs.YtcccmceoplcciaaGreat.AE
namespace Go.Proofs.YtcccmceoplcciaaGreat.AE
open Go Go.RowKit
set_option linter.unusedVariables false
set_option linter.unusedSimpArgs false
set_option maxRecDepth 20000
set_option maxHeartbeats 2000000
noncomputable section
def Zm : List Int→Int→List Int
 | [],n=> [n]
 | x::r,n=>if x<n then x::Zm r n else if x=n then x::r else n::x::r
theorem l9put_mem {l:List Int} {n y:Int}:y∈Zm l n↔y∈l∨y=n:=by
 induction l with
 | nil=>simp [Zm]
 | cons x r ih =>
  simp only [Zm]
  split
  ·simp only [List.mem_cons,ih,or_assoc]
  ·split
   ·rename_i h1 h2
    subst h2
    simp only [List.mem_cons]
    exact ⟨.inl,fun h=>h.elim id .inl⟩
   ·simp only [List.mem_cons]
    exact or_comm
theorem QiF {l:List Int} {n:Int}:(Zm l n).length≤l.length+1:=by
 induction l with
 | nil=>simp [Zm]
 | cons x r ih =>
  simp only [Zm]
  split
  ·simp only [List.length_cons];omega
  ·split<;>simp
theorem Qit {l:List Int} {n:Int} (h:l.Pairwise (· < ·)):(Zm l n).Pairwise (· < ·):=by
 induction l with
 | nil=>simp [Zm]
 | cons x r ih =>
  have h1:=List.pairwise_cons.1 h
  simp only [Zm]
  split
  ·rename_i hx
   refine List.pairwise_cons.2 ⟨fun y hy=> ?_,ih h1.2⟩
   rcases l9put_mem.1 hy with h2 | h2
   ·exact h1.1 y h2
   ·exact h2▸hx
  ·split
   ·exact h
   ·refine List.pairwise_cons.2 ⟨fun y hy=> ?_,h⟩
    rcases List.mem_cons.1 hy with h2 | h2
    ·omega
    ·have:=h1.1 y h2
     omega
theorem Qk4 {n:Int}:∀ {l:List Int} {k:Nat},(∀j y,j<k→l[j]? =some y→y<n)→l[k]? =some n→l=Zm l n
 | [],_,_,h=>by simp at h
 | x::r,0,_,h=>by
  obtain rfl:x=n:=by simpa using h
  simp [Zm]
 | x::r,k+1,h1,h=>by
  have h2:=h1 0 x (by omega) (by simp)
  simp only [Zm,if_pos h2]
  rw [← Qk4 (k:=k) (fun j y hj hy=>h1 (j+1) y (by omega) (by simpa using hy)) (by simpa using h)]
theorem Qhu {n:Int}:∀ {l:List Int} {k:Nat},(∀j y,j<k→l[j]? =some y→y<n)→k≤l.length→(∀y,l[k]? =some y→n<y)→(l.take k++ [n])++l.drop k=Zm l n
 | [],k,_,h,_=>by
  obtain rfl:k=0:=by simpa using h
  rfl
 | x::r,0,_,_,h=>by
  have h2:=h x (by simp)
  simp only [Zm]
  rw [if_neg (by omega),if_neg (by omega)]
  rfl
 | x::r,k+1,h1,h,h3=>by
  have h2:=h1 0 x (by omega) (by simp)
  simp only [Zm,if_pos h2]
  rw [← Qhu (k:=k) (fun j y hj hy=>h1 (j+1) y (by omega) (by simpa using hy)) (by simpa using h) (fun y hy=>h3 y (by simpa using hy))]
  rfl
theorem QgD {α:Type} {l:List α} {i:Nat} {x y:α} (hx:l[i]? =some x) (hy:l[i]? =some y):y=x:=by
 rw [hx] at hy
 exact (Option.some.inj hy).symm
end
theorem Qfy (n:Nat) (l:List Int) (v:Int) (hl:l.length≤mx):Pure (Qr Tryz.prog (n+1)) 48 [(rd 1 Qa l),(tI v)] (T.sl true 1 ((Zm l v).map (Qa true))):=by
 refine Pure.intro (rs:= [ResultVar.tmp 4]) Tryz.func48 rfl rfl rfl (E0:= [(0,(rd 1 Qa l)),(1,(tI v))]) rfl ?_
 obtain ⟨hlim,hmx,hmax⟩:=QG
 refine sr (fO (OF.assign VEv.nils) (nt (sr (fO (OF.assign (VEv.int .i64 0)) (nt (sq (VRun.block ?_)))))))
 refine VRun.loop (A:=Nat) (fun s_=> [(0,(rd 1 Qa l)),(1,(tI v)),(4,T.nils),(5,(tN s_))]) (fun s_=>Q4 []) 0 (fun s_=>s_≤l.length∧∀j y,j<s_→l[j]? =some y→y<v) (fun s_=>l.length - s_) (0:Nat) ?_ (Wk.mk (fun k=>k) ?_ ?_ ?_) ?_
 ·exact ⟨Nat.zero_le _,fun j y hj=>by omega⟩
 ·exact (b2 (b2 (b2 (b2 bn))))
 ·exact bn
 ·exact nd rfl
 rintro k (hI':k≤l.length∧∀j y,j<k→l[j]? =some y→y<v)
 show VRun _ _ _ [(0,(rd 1 Qa l)),(1,(tI v)),(4,T.nils),(5,(tN k))] (Q4 []) 0 _
 have hI1:=hI'.1
 refine sq (sr (mO (tN k) rfl (mO (rd 1 Qa l) rfl (lO (B.lenR (m:=l.length) (tv (rd 1 Qa l) rfl) Zz (List.length_map ..)) (fO (Zn (tv (tN k) rfl) (tv (tN l.length) rfl)) (mO (tB (decide (k<l.length))) rfl ?_))))))
 refine gw (k<l.length) (fun fhg10_1=> ?_) fun fhg10_1=> ?_
 ·refine gF (dy fhg10_1) rfl rfl (OF.move (tv (rd 1 Qa l) rfl)) ?_
  refine gF (dy fhg10_1) rfl rfl (OF.move (tv (tN k) rfl)) ?_
  obtain ⟨x1,hx1⟩:∃x,l[k]? =some x:=⟨_,List.getElem?_eq_getElem (by omega)⟩
  refine gF (dy fhg10_1) rfl rfl (OF.indexAddrR (row:=(Qa false x1)) (i:=k) (tv (rd 1 Qa l) rfl) (tv (tN k) rfl) rfl (Qw _ hx1) Zz Ze Yr) (gL (dy fhg10_1) rfl rfl (OL.loadR1 (t:=(tI x1)) (tv (T.rp [(tI x1)]) rfl) rfl QR) (gF (dy fhg10_1) rfl rfl (OF.move (tv (tI v) rfl)) (gF (dy fhg10_1) rfl rfl (xls (tv (tI x1) rfl) (tv (tI v) rfl)) (fO (OF.pickT (VEv.tmpB rfl (dy fhg10_1)) (tv (tB (decide (x1<v))) rfl)) (nt ?_)))))
  refine cd (x1<v) rfl (fun fhc0=> ?_) fun fhc0=> ?_
  ·refine sk ?_
   refine tn (VRun.block (VRun.region (mO (tN k) rfl (fO (QD (tv (tN k) rfl) (VEv.int .i64 1) (by omega)) (aO (tN (k+1)) rfl (VRunO.nil (vinB.n (tn ?_))))))))
   refine ⟨(k+1:Nat),?_,?_,Wk.mk (fun k=>k) ?_ ?_ ?_⟩
   ·refine ⟨by omega,fun j y hj hy=> ?_⟩
    rcases Nat.lt_or_ge j k with h1 | h1
    ·exact hI'.2 j y h1 hy
    ·obtain rfl:j=k:=(by omega);obtain rfl:=QgD hx1 hy;assumption
   ·omega
   ·exact (b2 (b2 (b2 (b2 bn))))
   ·exact bn
   ·exact nd rfl
  refine VRun.exit (vthn.e (vthn.e (vinB.e (tn (sq (sr (mO (tN k) rfl (mO (rd 1 Qa l) rfl (lO (B.lenR (m:=l.length) (tv (rd 1 Qa l) rfl) Zz (List.length_map ..)) (fO (Zn (tv (tN k) rfl) (tv (tN l.length) rfl)) (mO (tB (decide (k<l.length))) rfl ?_)))))))))))
  refine gF (dy fhg10_1) rfl rfl (OF.move (tv (rd 1 Qa l) rfl)) (gF (dy fhg10_1) rfl rfl (OF.move (tv (tN k) rfl)) (gF (dy fhg10_1) rfl rfl (OF.indexAddrR (row:=(Qa false x1)) (i:=k) (tv (rd 1 Qa l) rfl) (tv (tN k) rfl) rfl (Qw _ hx1) Zz Ze Yr) (gL (dy fhg10_1) rfl rfl (OL.loadR1 (t:=(tI x1)) (tv (T.rp [(tI x1)]) rfl) rfl QR) (gF (dy fhg10_1) rfl rfl (OF.move (tv (tI v) rfl)) (gF (dy fhg10_1) rfl rfl (Y4 (tv (tI x1) rfl) (tv (tI v) rfl)) (fO (OF.pickT (VEv.tmpB rfl (dy fhg10_1)) (tv (tB (decide (x1=v))) rfl)) (nt ?_)))))))
  refine cd (x1=v) rfl (fun fhc1=> ?_) fun fhc1=> ?_
  ·refine sr ?_
   refine kO (OM.slice0 Zz zo3 (by kernel_rfl) rfl (by rw [Ze];decide) Ze) (mO (rd 1 Qa l) rfl (cO (B.append (rows:= []) (rows2:=(l.map (Qa false))) (rows3:=(l.map (Qa true))) (VDst.own (tv (T.os 1 0 0 0) rfl) rfl rfl) (VSrc.read (tv (rd 1 Qa l) rfl) Zz (okInt.okMap _ _)) nofun Zz Ze (by decide) zo3 rfl (of_decide_eq_true (by kernel_rfl)) (by (simp only [List.length_map,List.length_append,List.length_cons,List.length_nil,List.length_replicate,List.length_set,List.length_drop,List.length_take,Jo] at *;omega)) (List.nil_append _)) (aO (T.os 1 1 0 ((l.map (Qa true)).length)) rfl (nt (rt (tr ?_))))))
   refine vfin.eq (r':=(T.sl true 1 (l.map (Qa true)))) ?_ (vfin.r (VRes.tmp (t:=(T.os 1 1 0 ((l.map (Qa true)).length))) rfl VRes.nil) (Give.os rfl rfl (okInt.cleanMap _)))
   show (T.sl true 1 (l.map (Qa true)))=(T.sl true 1 ((Zm l v).map (Qa true)))
   refine congrArg (fun l_=>T.sl true 1 (List.map (Qa true) l_)) ?_
   (refine Qk4 hI'.2 ?_;simp_all;done)
  refine sk (tn (sq (VRun.draw (B:= [[],[],[],[2,1],[1,2,3,0],[],[5],[5,6,0,3,2,1,4],[],[],[9,8],[8,9,10,4,1,2,3,0,6,5,7],[7,5,6,0,3,2,1,4,10,9,8,11]]) (by kernel_rfl) (by kernel_rfl) (VRunD.make rfl VWant.always rfl (OM.slice0 Zz zo3 (by kernel_rfl) rfl (by rw [Ze];decide) Ze) (mD (rd 1 Qa l) rfl rfl (mD (tN k) rfl rfl (lD (show OL _ _ _ _ _ (T.sl false 1 ((l.take k).map (Qa false))) by rw [List.map_take];exact (OL.sliceRHi (j:=k) (tv (rd 1 Qa l) rfl) (tv (tN k) rfl) rfl (by (simp only [List.length_map];omega)) Zz Ze Yr)) rfl rfl (VRunD.quiet (bi:= [1,2,3,0]) rfl VWant.always rfl rfl rfl (bc (lb rfl) bn) (B.append (rows:= []) (rows2:=((l.take k).map (Qa false))) (rows3:=((l.take k).map (Qa true))) (VDst.own (tv (T.os 1 0 0 0) rfl) rfl rfl) (VSrc.read (tv (rd 1 Qa (l.take k)) rfl) Zz (okInt.okMap _ _)) nofun Zz Ze (by decide) zo3 rfl (of_decide_eq_true (by kernel_rfl)) (by (simp only [List.length_map,List.length_append,List.length_cons,List.length_nil,List.length_replicate,List.length_set,List.length_drop,List.length_take,Jo] at *;omega)) (List.nil_append _)) (mD (tI v) rfl rfl (VRunD.make rfl VWant.always rfl (OM.buildSlice (l:= [(tI v)]) (VEvp.cons (tv (tI v) rfl) VEvp.nil) rfl (by decide) (bc (nofun) bn) (bc ((bc (rfl) bn)) bn) (bc (rfl) bn) Zz zo3 (by kernel_rfl) rfl (by rw [Ze];decide) Ze (Nat.le_of_ble_eq_true rfl)) (VRunD.quiet (bi:= [5,6,0,3,2,1,4]) rfl VWant.always rfl rfl rfl (bc (lb rfl) (bc (lb rfl) bn)) (B.append (rows:=((l.take k).map (Qa true))) (rows2:= [[(tI v)]]) (rows3:=(((l.take k)++ [v]).map (Qa true))) (VDst.own (tv (T.os 1 1 0 (((l.take k).map (Qa true)).length)) rfl) rfl rfl) (VSrc.own (tv (T.os 1 2 0 1) rfl) rfl rfl Zz (bc (bc rfl bn) bn)) (by decide) Zz Ze (by decide) zo3 rfl (of_decide_eq_true (by kernel_rfl)) (by (simp only [List.length_map,List.length_append,List.length_cons,List.length_nil,List.length_replicate,List.length_set,List.length_drop,List.length_take,Jo] at *;omega)) ((List.map_append (f:=Qa true) (l₁:=(l.take k)) (l₂:= [v])).symm)) ?_)))))))))))
  refine mD (rd 1 Qa l) rfl rfl (mD (tN k) rfl rfl (lD (show OL _ _ _ _ _ (T.sl false 1 ((l.drop k).map (Qa false))) by rw [List.map_drop];exact (OL.sliceRLo (i:=k) (tv (rd 1 Qa l) rfl) (tv (tN k) rfl) rfl (by (simp only [List.length_map];omega)) Zz Ze Yr)) rfl rfl (VRunD.quiet (bi:= [8,9,10,4,1,2,3,0,6,5,7]) rfl VWant.always rfl rfl rfl (bc (lb rfl) bn) (B.append (rows:=(((l.take k)++ [v]).map (Qa true))) (rows2:=((l.drop k).map (Qa false))) (rows3:=((((l.take k)++ [v])++(l.drop k)).map (Qa true))) (VDst.own (tv (T.os 1 3 0 ((((l.take k)++ [v]).map (Qa true)).length)) rfl) rfl rfl) (VSrc.read (tv (rd 1 Qa (l.drop k)) rfl) Zz (okInt.okMap _ _)) nofun Zz Ze (by decide) zo3 rfl (of_decide_eq_true (by kernel_rfl)) (by (simp only [List.length_map,List.length_append,List.length_cons,List.length_nil,List.length_replicate,List.length_set,List.length_drop,List.length_take,Jo] at *;omega)) ((List.map_append (f:=Qa true) (l₁:=((l.take k)++ [v])) (l₂:=(l.drop k))).symm)) (fD (OF.assign (tv (T.os 1 4 0 (((((l.take k)++ [v])++(l.drop k)).map (Qa true)).length)) rfl)) rfl rfl (VRunD.nil (tn (rt ?_)))))))
  refine vfin.eq (r':=(T.sl true 1 ((((l.take k)++ [v])++(l.drop k)).map (Qa true)))) ?_ (vfin.r (VRes.tmp (t:=(T.os 1 4 0 (((((l.take k)++ [v])++(l.drop k)).map (Qa true)).length))) rfl VRes.nil) (Give.os rfl rfl (okInt.cleanMap _)))
  show (T.sl true 1 ((((l.take k)++ [v])++(l.drop k)).map (Qa true)))=(T.sl true 1 ((Zm l v).map (Qa true)))
  refine congrArg (fun l_=>T.sl true 1 (List.map (Qa true) l_)) ?_
  (refine Qhu hI'.2 hI1 ?_;intro y hy;obtain rfl:=QgD hx1 hy;omega)
 refine QA 6 4 true 10 (dz fhg10_1) rfl rfl rfl (fO (OF.pickF (VEv.tmpB rfl (dz fhg10_1)) (VEv.bool false)) (nt (cf rfl (VRun.exit (vthn.e (vthn.e (vinB.e (tn (sq (sr (mO (tN k) rfl ?_)))))))))))
 refine mO (rd 1 Qa l) rfl (lO (B.lenR (m:=l.length) (tv (rd 1 Qa l) rfl) Zz (List.length_map ..)) (fO (Zn (tv (tN k) rfl) (tv (tN l.length) rfl)) (mO (tB (decide (k<l.length))) rfl (QA 6 4 true 24 (dz fhg10_1) rfl rfl rfl (fO (OF.pickF (VEv.tmpB rfl (dz fhg10_1)) (VEv.bool false)) (nt (cf rfl (sk (tn (sq (VRun.draw (B:= [[],[],[],[2,1],[1,2,3,0],[],[5],[5,6,0,3,2,1,4],[],[],[9,8],[8,9,10,4,1,2,3,0,6,5,7],[7,5,6,0,3,2,1,4,10,9,8,11]]) (by kernel_rfl) (by kernel_rfl) ?_)))))))))))
 refine VRunD.make rfl VWant.always rfl (OM.slice0 Zz zo3 (by kernel_rfl) rfl (by rw [Ze];decide) Ze) (mD (rd 1 Qa l) rfl rfl (mD (tN k) rfl rfl (lD (show OL _ _ _ _ _ (T.sl false 1 ((l.take k).map (Qa false))) by rw [List.map_take];exact (OL.sliceRHi (j:=k) (tv (rd 1 Qa l) rfl) (tv (tN k) rfl) rfl (by (simp only [List.length_map];omega)) Zz Ze Yr)) rfl rfl (VRunD.quiet (bi:= [1,2,3,0]) rfl VWant.always rfl rfl rfl (bc (lb rfl) bn) (B.append (rows:= []) (rows2:=((l.take k).map (Qa false))) (rows3:=((l.take k).map (Qa true))) (VDst.own (tv (T.os 1 0 0 0) rfl) rfl rfl) (VSrc.read (tv (rd 1 Qa (l.take k)) rfl) Zz (okInt.okMap _ _)) nofun Zz Ze (by decide) zo3 rfl (of_decide_eq_true (by kernel_rfl)) (by (simp only [List.length_map,List.length_append,List.length_cons,List.length_nil,List.length_replicate,List.length_set,List.length_drop,List.length_take,Jo] at *;omega)) (List.nil_append _)) (mD (tI v) rfl rfl (VRunD.make rfl VWant.always rfl (OM.buildSlice (l:= [(tI v)]) (VEvp.cons (tv (tI v) rfl) VEvp.nil) rfl (by decide) (bc (nofun) bn) (bc ((bc (rfl) bn)) bn) (bc (rfl) bn) Zz zo3 (by kernel_rfl) rfl (by rw [Ze];decide) Ze (Nat.le_of_ble_eq_true rfl)) (VRunD.quiet (bi:= [5,6,0,3,2,1,4]) rfl VWant.always rfl rfl rfl (bc (lb rfl) (bc (lb rfl) bn)) (B.append (rows:=((l.take k).map (Qa true))) (rows2:= [[(tI v)]]) (rows3:=(((l.take k)++ [v]).map (Qa true))) (VDst.own (tv (T.os 1 1 0 (((l.take k).map (Qa true)).length)) rfl) rfl rfl) (VSrc.own (tv (T.os 1 2 0 1) rfl) rfl rfl Zz (bc (bc rfl bn) bn)) (by decide) Zz Ze (by decide) zo3 rfl (of_decide_eq_true (by kernel_rfl)) (by (simp only [List.length_map,List.length_append,List.length_cons,List.length_nil,List.length_replicate,List.length_set,List.length_drop,List.length_take,Jo] at *;omega)) ((List.map_append (f:=Qa true) (l₁:=(l.take k)) (l₂:= [v])).symm)) (mD (rd 1 Qa l) rfl rfl (mD (tN k) rfl rfl (lD (show OL _ _ _ _ _ (T.sl false 1 ((l.drop k).map (Qa false))) by rw [List.map_drop];exact (OL.sliceRLo (i:=k) (tv (rd 1 Qa l) rfl) (tv (tN k) rfl) rfl (by (simp only [List.length_map];omega)) Zz Ze Yr)) rfl rfl (VRunD.quiet (bi:= [8,9,10,4,1,2,3,0,6,5,7]) rfl VWant.always rfl rfl rfl (bc (lb rfl) bn) (B.append (rows:=(((l.take k)++ [v]).map (Qa true))) (rows2:=((l.drop k).map (Qa false))) (rows3:=((((l.take k)++ [v])++(l.drop k)).map (Qa true))) (VDst.own (tv (T.os 1 3 0 ((((l.take k)++ [v]).map (Qa true)).length)) rfl) rfl rfl) (VSrc.read (tv (rd 1 Qa (l.drop k)) rfl) Zz (okInt.okMap _ _)) nofun Zz Ze (by decide) zo3 rfl (of_decide_eq_true (by kernel_rfl)) (by (simp only [List.length_map,List.length_append,List.length_cons,List.length_nil,List.length_replicate,List.length_set,List.length_drop,List.length_take,Jo] at *;omega)) ((List.map_append (f:=Qa true) (l₁:=((l.take k)++ [v])) (l₂:=(l.drop k))).symm)) ?_)))))))))))
 refine fD (OF.assign (tv (T.os 1 4 0 (((((l.take k)++ [v])++(l.drop k)).map (Qa true)).length)) rfl)) rfl rfl (VRunD.nil (tn (rt ?_)))
 refine vfin.eq (r':=(T.sl true 1 ((((l.take k)++ [v])++(l.drop k)).map (Qa true)))) ?_ (vfin.r (VRes.tmp (t:=(T.os 1 4 0 (((((l.take k)++ [v])++(l.drop k)).map (Qa true)).length))) rfl VRes.nil) (Give.os rfl rfl (okInt.cleanMap _)))
 show (T.sl true 1 ((((l.take k)++ [v])++(l.drop k)).map (Qa true)))=(T.sl true 1 ((Zm l v).map (Qa true)))
 refine congrArg (fun l_=>T.sl true 1 (List.map (Qa true) l_)) ?_
 (refine Qhu hI'.2 hI1 ?_;intro y hy;have:=(List.getElem?_eq_some_iff.1 hy).1;omega)
end Go.Proofs.YtcccmceoplcciaaGreat.AE
namespace Go.Proofs.YtcccmceoplcciaaGreat.AE
open Go Go.RowKit
set_option linter.unusedVariables false
set_option linter.unusedSimpArgs false
set_option maxRecDepth 20000
set_option maxHeartbeats 2000000
noncomputable section
def QbY (l:List Int):Prop:=l.Pairwise (· < ·)
def YF (l:List Int):List Int:=Lib.compact (Yo l)
theorem Qet : ∀ {a b:List Int},QbY a→QbY b→(∀x,x∈a↔x∈b)→a=b
 | [],[],_,_,_=>rfl
 | [],y::s,_,_,h=>by have:=(h y).2 (by simp);simp at this
 | x::r,[],_,_,h=>by have:=(h x).1 (by simp);simp at this
 | x::r,y::s,h1,h2,h=>by
  have a1:=List.pairwise_cons.1 h1
  have b1:=List.pairwise_cons.1 h2
  have hxy:x=y:=by
   have e1:=(h x).1 (by simp)
   have e2:=(h y).2 (by simp)
   rcases List.mem_cons.1 e1 with e1 | e1
   ·exact e1
   ·rcases List.mem_cons.1 e2 with e2 | e2
    ·exact e2.symm
    ·have:=a1.1 y e2
     have:=b1.1 x e1
     omega
  subst hxy
  rw [Qet a1.2 b1.2 (fun z=> ?_)]
  have hz:=h z
  simp only [List.mem_cons] at hz
  refine ⟨fun e=> ?_,fun e=> ?_⟩
  ·have:=a1.1 z e
   rcases hz.1 (.inr e) with e1 | e1
   ·omega
   ·exact e1
  ·have:=b1.1 z e
   rcases hz.2 (.inr e) with e1 | e1
   ·omega
   ·exact e1
theorem Qe6 (d:Array Int) (hs:∀j,j+1<d.size→d[j]! ≤d[j+1]!):∀m,m≤d.size→QbY (Lib.compactUpTo d m)∧(∀x∈Lib.compactUpTo d m,0<m∧x≤d[m - 1]!)∧(∀j,j<m→d[j]! ∈Lib.compactUpTo d m)∧(∀x∈Lib.compactUpTo d m,∃j,j<m∧x=d[j]!)
 | 0,_=>⟨List.Pairwise.nil,fun x hx=>by simp [Lib.compactUpTo] at hx,fun j hj=>by omega,fun x hx=>by simp [Lib.compactUpTo] at hx⟩
 | m+1,hm=>by
  obtain ⟨h1,h2,h3,h4⟩:=Qe6 d hs m (by omega)
  rw [Lib.compactUpTo_succ]
  by_cases hk:Lib.keeps d m=true
  ·rw [if_pos hk]
   have hlt:∀x∈Lib.compactUpTo d m,x<d[m]! :=fun x hx=>by
    obtain ⟨h5,h6⟩:=h2 x hx
    have h7:=hs (m - 1) (by omega)
    rw [show m - 1+1=m by omega] at h7
    have h8:d[m]! ≠d[m - 1]! :=fun e=>by
     rw [Lib.keeps_neg h5 e] at hk
     cases hk
    omega
   refine ⟨List.pairwise_append.2 ⟨h1,List.pairwise_singleton _ _,fun x hx y hy=> ?_⟩,fun x hx=> ?_,fun j hj=> ?_,fun x hx=> ?_⟩
   ·obtain rfl:=List.mem_singleton.1 hy
    exact hlt x hx
   ·rw [Nat.add_sub_cancel]
    rcases List.mem_append.1 hx with hx | hx
    ·have:=hlt x hx
     omega
    ·obtain rfl:=List.mem_singleton.1 hx
     omega
   ·rcases Nat.lt_or_ge j m with h | h
    ·exact List.mem_append.2 (.inl (h3 j h))
    ·obtain rfl:j=m:=by omega
     exact List.mem_append.2 (.inr (List.mem_singleton.2 rfl))
   ·rcases List.mem_append.1 hx with hx | hx
    ·obtain ⟨j,hj,e⟩:=h4 x hx
     exact ⟨j,by omega,e⟩
    ·exact ⟨m,by omega,List.mem_singleton.1 hx⟩
  ·have hm0:0<m:=Nat.pos_of_ne_zero (fun e=>hk (by rw [e];exact Lib.keeps_lt_one d 0 (by omega)))
   have he:d[m]! =d[m - 1]! :=Classical.byContradiction fun e=>hk (Lib.keeps_pos e)
   rw [if_neg hk,List.append_nil]
   refine ⟨h1,fun x hx=>⟨by omega,?_⟩,fun j hj=> ?_,fun x hx=> ?_⟩
   ·rw [Nat.add_sub_cancel,he]
    exact (h2 x hx).2
   ·rcases Nat.lt_or_ge j m with h | h
    ·exact h3 j h
    ·obtain rfl:j=m:=by omega
     rw [he]
     exact h3 (j - 1) (by omega)
   ·obtain ⟨j,hj,e⟩:=h4 x hx
    exact ⟨j,by omega,e⟩
theorem Qg7 (l:List Int):(Yo l).Pairwise (· ≤ ·):=by
 have:=List.pairwise_mergeSort (le:=fun x y:Int=>decide (x≤y)) (by intro a b c;simp;omega) (by intro a b;simp;omega) l
 exact this.imp (fun h=>by simpa using h)
theorem QiM {l:List Int} {x:Int}:x∈Yo l↔x∈l:=List.mem_mergeSort
theorem Qdb {l:List Int} (hl:l.Pairwise (· ≤ ·)):QbY (Lib.compact l)∧∀x,x∈Lib.compact l↔x∈l:=by
 obtain ⟨h1,_,h3,h4⟩:=Qe6 l.toArray (fun j hj=>by
  have hj':j+1<l.length:=by simpa using hj
  have:=List.pairwise_iff_getElem.1 hl j (j+1) (by omega) hj' (by omega)
  simpa [show j<l.length by omega,hj'] using this) l.length (by simp)
 refine ⟨h1,fun x=>⟨fun hx=> ?_,fun hx=> ?_⟩⟩
 ·obtain ⟨j,hj,e⟩:=h4 x hx
  rw [e]
  simp [hj]
 ·obtain ⟨j,hj,e⟩:=List.getElem_of_mem hx
  have:=h3 j hj
  simp only [List.getElem!_toArray,getElem!_pos l j hj,e] at this
  exact this
theorem QdM (l:List Int):QbY (YF l):=(Qdb (Qg7 l)).1
theorem Qgz {l:List Int} {x:Int}:x∈YF l↔x∈l:=((Qdb (Qg7 l)).2 x).trans QiM
theorem srtd_eq {l:List Int}:YF l=l↔QbY l:=⟨fun h=>h▸QdM l,fun h=>Qet (QdM l) h (fun _=>Qgz)⟩
theorem QjA {l:List Int} {v:Int} (h:QbY l):YF (l++ [v])=Zm l v:=Qet (QdM _) (Qit h) (fun x=>by rw [Qgz,l9put_mem];simp)
theorem Qkc (l:List Int):(YF l).length≤l.length:=by
 have:=Qed (Yo l)
 rw [Jf] at this
 exact this
def QgG (n:Int) (l:List Int) (j:Nat):Prop:=∃x,l[j]? =some x∧(0≤x∧x≤n)∧(0<j→∃y,l[j - 1]? =some y∧¬x≤y)
theorem asc_of {n:Int} {l:List Int}:(∀j,j<l.length→QgG n l j)↔(∀x∈l,0≤x∧x≤n)∧QbY l:=by
 refine ⟨fun h=>⟨fun x hx=> ?_,?_⟩,fun h j hj=> ?_⟩
 ·obtain ⟨j,hj,e⟩:=List.getElem_of_mem hx
  obtain ⟨y,h1,h2,_⟩:=h j hj
  rw [List.getElem?_eq_getElem hj,e] at h1
  cases h1
  exact h2
 ·have key:∀k i (hi:i<l.length) (hk:i+k+1<l.length),l[i]<l[i+k+1]:=by
   intro k
   induction k with
   | zero =>
    intro i hi hk
    obtain ⟨x,h1,_,h3⟩:=h (i+0+1) hk
    obtain ⟨y,h4,h5⟩:=h3 (by omega)
    rw [List.getElem?_eq_getElem hk] at h1
    rw [show i+0+1 - 1=i by omega,List.getElem?_eq_getElem hi] at h4
    have e1:=Option.some.inj h1
    have e2:=Option.some.inj h4
    omega
   | succ k ih =>
    intro i hi hk
    have a1:=ih i hi (by omega)
    obtain ⟨x,h1,_,h3⟩:=h (i+(k+1)+1) hk
    obtain ⟨y,h4,h5⟩:=h3 (by omega)
    rw [List.getElem?_eq_getElem hk] at h1
    rw [show i+(k+1)+1 - 1=i+k+1 by omega,List.getElem?_eq_getElem (show i+k+1<l.length by omega)] at h4
    have e1:=Option.some.inj h1
    have e2:=Option.some.inj h4
    omega
  refine List.pairwise_iff_getElem.2 (fun i j hi hj hij=> ?_)
  have:=key (j - i - 1) i hi (by omega)
  simp only [show i+(j - i - 1)+1=j by omega] at this
  exact this
 ·refine ⟨l[j],List.getElem?_eq_getElem hj,h.1 _ (List.getElem_mem hj),fun h0=>⟨l[j - 1],List.getElem?_eq_getElem (by omega),?_⟩⟩
  have:=List.pairwise_iff_getElem.1 h.2 (j - 1) j (by omega) hj (by omega)
  omega
end
theorem YA (n:Nat) (a:List Int) (ha:a.length≤mx+1):Pure (Qr Tryz.prog (n+1)) 113 [(rd 1 Qa a)] (T.sl true 1 (a.map (Qa true))):=by
 refine Pure.intro (rs:= [ResultVar.tmp 2]) Tryz.func113 rfl rfl rfl (E0:= [(0,(rd 1 Qa a))]) rfl ?_
 obtain ⟨hlim,hmx,hmax⟩:=QG
 refine sr (fO (OF.assign VEv.nils) (nt (sq (sr (mO (rd 1 Qa a) rfl ?_)))))
 refine VRunO.nilEq VWant.always (tv (rd 1 Qa a) rfl) VEv.nils Zz (fun bn1 hbn1=> ?_)
 refine nt ?_
 refine VRun.cond (tv (tB bn1) rfl) (fun hc0=> ?_) (fun hc0=> ?_)
 ·have fhc0:bn1=true:=hc0
  have ebn1:=hbn1 hc0
  refine sr (fO (OF.assign VEv.nils) (nt (rt (tr ?_))))
  refine vfin.eq (r':=(T.sl true 1 [])) ?_ (vfin.r (VRes.tmp (t:=T.nils) rfl VRes.nil) (Give.nils 1))
  show (T.sl true 1 [])=(T.sl true 1 (a.map (Qa true)))
  refine congrArg (fun l_=>T.sl true 1 (List.map (Qa true) l_)) (a₁:= []) ?_
  exact (List.map_eq_nil_iff.1 ebn1).symm
 have fhc0:bn1=false:=hc0
 refine sk (tn (sr (kO (OM.slice0 Zz zo3 (by kernel_rfl) rfl (by rw [Ze];decide) Ze) (mO (rd 1 Qa a) rfl (cO (B.append (rows:= []) (rows2:=(a.map (Qa false))) (rows3:=(a.map (Qa true))) (VDst.own (tv (T.os 1 0 0 0) rfl) rfl rfl) (VSrc.read (tv (rd 1 Qa a) rfl) Zz (okInt.okMap _ _)) nofun Zz Ze (by decide) zo3 rfl (of_decide_eq_true (by kernel_rfl)) (by (simp only [List.length_map,List.length_append,List.length_cons,List.length_nil,List.length_replicate,List.length_set,List.length_drop,List.length_take,Jo] at *;omega)) (List.nil_append _)) (aO (T.os 1 1 0 ((a.map (Qa true)).length)) rfl (nt (rt ?_))))))))
 refine vfin.eq (r':=(T.sl true 1 (a.map (Qa true)))) ?_ (vfin.r (VRes.tmp (t:=(T.os 1 1 0 ((a.map (Qa true)).length))) rfl VRes.nil) (Give.os rfl rfl (okInt.cleanMap _)))
 rfl
theorem Qat (n:Nat) (a:List Int) (ha:a.length≤mx+1):Loan (Qr Tryz.prog (n+1)) 114 1 (List.map (Qa true) a) [(T.os 1 0 0 ((a.map (Qa true)).length))] (T.tup []) (List.map (Qa true) (Yo a)):=by
 obtain ⟨hlim,hmx,hmax⟩:=QG
 exact QjJ n rfl rfl a (by omega)
theorem JK (n:Nat) (a:List Int) (ha:a.length≤mx+1):Loan (Qr Tryz.prog (n+1)) 115 1 (List.map (Qa true) a) [(T.os 1 0 0 ((a.map (Qa true)).length))] (T.os 1 0 0 (List.map (Qa true) (Lib.compact a)).length) (List.map (Qa true) (Lib.compact a)):=by
 obtain ⟨hlim,hmx,hmax⟩:=QG
 exact Qjf n rfl rfl a (by omega)
theorem JT (n:Nat) (a:List Int) (ha:a.length≤mx+1):Pure (Qr Tryz.prog (n+2)) 67 [(rd 1 Qa a)] (T.sl true 1 ((YF a).map (Qa true))):=by
 refine Pure.intro (rs:= [ResultVar.tmp 2]) Tryz.func67 rfl rfl rfl (E0:= [(0,(rd 1 Qa a))]) rfl ?_
 obtain ⟨hlim,hmx,hmax⟩:=QG
 have hsl:=Jf a
 refine sr (fO (OF.assign VEv.nils) (nt (sr (mO (rd 1 Qa a) rfl (cO (OC.callF (us:= [(rd 1 Qa a)]) (r:=(T.sl true 1 (a.map (Qa true)))) (r':=(T.os 1 0 0 ((a.map (Qa true)).length))) (objs:= [(Obj.rows 1 (a.map (Qa true)))]) rfl (vc (tv (rd 1 Qa a) rfl) vn) (ZU rfl) (YA (n+0) a (by assumption)) rfl) (aO (T.os 1 0 0 ((a.map (Qa true)).length)) rfl (nt (sr (mO (T.os 1 0 0 ((a.map (Qa true)).length)) rfl (cO (OC.callLoan (ts:= [(T.os 1 0 0 ((a.map (Qa true)).length))]) (k:=0) (r:=(T.tup [])) (rows:=(a.map (Qa true))) (rows':=((Yo a).map (Qa true))) rfl (vc (tv (T.os 1 0 0 ((a.map (Qa true)).length)) rfl) vn) rfl rfl rfl LRes.none rfl (Zl (fun _=>rfl) _) (Zl (fun _=>rfl) _) (Qat (n+0) a (by assumption))) (nt ?_)))))))))))
 refine sr (mO (T.os 1 0 0 ((a.map (Qa true)).length)) rfl (cO (OC.callLoan (ts:= [(T.os 1 0 0 ((a.map (Qa true)).length))]) (k:=0) (r:=(T.os 1 0 0 (((Lib.compact (Yo a)).map (Qa true)).length))) (rows:=((Yo a).map (Qa true))) (rows':=((Lib.compact (Yo a)).map (Qa true))) rfl (vc (tv (T.os 1 0 0 ((a.map (Qa true)).length)) rfl) vn) rfl rfl rfl (LRes.os _ _) rfl (Zl (fun _=>rfl) _) (Zl (fun _=>rfl) _) (Loan.len (by simp only [List.length_map,Jf]) (JK (n+0) (Yo a) (by omega)))) (aO (T.os 1 0 0 (((Lib.compact (Yo a)).map (Qa true)).length)) rfl (nt (rt ?_)))))
 refine vfin.eq (r':=(T.sl true 1 ((Lib.compact (Yo a)).map (Qa true)))) ?_ (vfin.r (VRes.tmp (t:=(T.os 1 0 0 (((Lib.compact (Yo a)).map (Qa true)).length))) rfl VRes.nil) (Give.os rfl rfl (okInt.cleanMap _)))
 show (T.sl true 1 ((Lib.compact (Yo a)).map (Qa true)))=(T.sl true 1 ((YF a).map (Qa true)))
 refine congrArg (fun l_=>T.sl true 1 (List.map (Qa true) l_)) ?_
 rfl
theorem QfF (n:Nat) (l:List Int) (a:Int) (b:Int) (hl:l.length≤mx+1):Pure (Qr Tryz.prog (n+2)) 65 [(rd 1 Qa l),(tI a),(tI b)] (tB (decide (∀x∈l,a≤x∧x≤b))):=by
 refine Pure.intro (rs:= [ResultVar.tmp 6]) Tryz.func65 rfl rfl rfl (E0:= [(0,(rd 1 Qa l)),(1,(tI a)),(2,(tI b))]) rfl ?_
 obtain ⟨hlim,hmx,hmax⟩:=QG
 refine sr (fO (OF.assign (VEv.bool false)) (nt (sq (sr (mO (rd 1 Qa l) rfl (lO (B.lenR (m:=l.length) (tv (rd 1 Qa l) rfl) Zz (List.length_map ..)) (fO (OF.move (VEv.int .i64 0)) (nt (VRun.block ?_)))))))))
 refine VRun.loop (A:=Nat) (fun s_=> [(1,(tI a)),(2,(tI b)),(9,(rd 1 Qa l)),(10,(tN l.length)),(11,(tN s_))]) (fun s_=>Q4 []) 0 (fun s_=>s_≤l.length∧∀j,j<s_→∃x,l[j]? =some x∧(a≤x∧x≤b)) (fun s_=>l.length - s_) (0:Nat) ?_ (Wk.mk (fun k=>k) ?_ ?_ ?_) ?_
 ·exact ⟨Nat.zero_le _,fun j hj=>by omega⟩
 ·exact (b2 (b2 (b2 (b2 (b2 bn)))))
 ·exact bn
 ·exact nd rfl
 rintro i (hI':i≤l.length∧∀j,j<i→∃x,l[j]? =some x∧(a≤x∧x≤b))
 show VRun _ _ _ [(1,(tI a)),(2,(tI b)),(9,(rd 1 Qa l)),(10,(tN l.length)),(11,(tN i))] (Q4 []) 0 _
 have hI0:=hI'
 refine sr (fO (Zn (tv (tN i) rfl) (tv (tN l.length) rfl)) (nt (sq ?_)))
 refine cd (i<l.length) rfl (fun fhc0=> ?_) fun fhc0=> ?_
 ·refine sk ?_
  refine tn (sq (VRun.block (sr ?_)))
  obtain ⟨x1,hx1⟩:∃x,l[i]? =some x:=⟨_,List.getElem?_eq_getElem (by omega)⟩
  refine fO (OF.indexAddrR (row:=(Qa false x1)) (i:=i) (tv (rd 1 Qa l) rfl) (tv (tN i) rfl) rfl (Qw _ hx1) Zz Ze Yr) (lO (OL.loadR1 (t:=(tI x1)) (tv (T.rp [(tI x1)]) rfl) rfl QR) (aO (tI x1) rfl (nt (sr (mO (tI x1) rfl (mO (tI a) rfl (mO (tI b) rfl (cO (cS (vc (tv (tI x1) rfl) (vc (tv (tI a) rfl) (vc (tv (tI b) rfl) vn))) (ZU rfl) (QV (n+0) x1 a b) rfl rfl) (fO (QZ (tv (tB (decide (a≤x1∧x1≤b))) rfl)) (nt ?_))))))))))
  refine cn (a≤x1∧x1≤b) rfl (fun fhc1=> ?_) fun fhc1=> ?_
  ·refine sr ?_
   refine fO (OF.assign (VEv.bool false)) (nt (rt (vinB.r (tr (tr (vinB.r (tr (vb (b':=false) rfl ?_))))))))
   symm;rw [decide_eq_false_iff_not];intro h;have:=h x1 (List.mem_of_getElem? hx1);omega
  refine sk (vinB.n (tn (VRun.region (fO (QD (tv (tN i) rfl) (VEv.int .i64 1) (by omega)) (mO (tN (i+1)) rfl (VRunO.nil (tn ?_)))))))
  refine ⟨(i+1:Nat),?_,?_,Wk.mk (fun k=>k) ?_ ?_ ?_⟩
  ·exact QQ hI0 fhc0 ⟨x1,hx1,by omega⟩
  ·omega
  ·exact (b2 (b2 (b2 (b2 (b2 bn)))))
  ·exact bn
  ·exact nd rfl
 refine VRun.exit (vthn.e (vthn.e (vinB.e (tn (sr (fO (OF.assign (VEv.bool true)) (nt (rt (vb (b':=true) rfl ?_)))))))))
 symm;rw [decide_eq_true_eq];intro x hx;obtain ⟨j,hj,e⟩:=List.getElem_of_mem hx;obtain ⟨y,h1,h2⟩:=Y8 hI' fhc0 j hj;rw [List.getElem?_eq_getElem hj,e] at h1;cases h1;exact h2
end Go.Proofs.YtcccmceoplcciaaGreat.AE
