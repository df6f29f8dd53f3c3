/- A part of what the row of FnExactNewDraft uses. Conditions: as each theorem states. -/
import Derived.Test.YthifchndolccgaaDoorZFnExactNewDraftc
namespace Go.Proofs.YthifchndolccgaaDoor.AE
open Go Go.RowKit
set_option linter.unusedVariables false
set_option linter.unusedSimpArgs false
set_option maxRecDepth 20000
set_option maxHeartbeats 2000000
noncomputable section
theorem QbC (g:D.Grid):∀i,∀s∈(Qc g i).1,s.Cell<((i:Nat):Int)
 | 0,s,hs=>by simp [Qc] at hs
 | i+1,s,hs=>by
  rw [ZJ,List.mem_append,List.mem_append] at hs
  rcases hs with (hs | hs) | hs
  ·have:=QbC g i s hs
   omega
  ·split at hs
   ·obtain rfl:=List.mem_singleton.1 hs
    simp only;omega
   ·cases hs
  ·split at hs
   ·obtain rfl:=List.mem_singleton.1 hs
    simp only;omega
   ·cases hs
theorem QaH (g:D.Grid):∀i,(Qc g i).1.Nodup
 | 0=>by simp [Qc]
 | i+1=>by
  have h:=QbC g i
  rw [ZJ,List.nodup_append,List.nodup_append]
  refine ⟨⟨QaH g i,by split<;>simp,fun a ha b hb e=> ?_⟩,by split<;>simp,fun a ha b hb e=> ?_⟩
  ·split at hb
   ·obtain rfl:=List.mem_singleton.1 hb
    have:=h a ha
    rw [e] at this
    simp only at this
    omega
   ·cases hb
  ·split at hb
   ·obtain rfl:=List.mem_singleton.1 hb
    rcases List.mem_append.1 ha with ha | ha
    ·have:=h a ha
     rw [e] at this
     simp only at this
     omega
    ·split at ha
     ·obtain rfl:=List.mem_singleton.1 ha
      cases e
     ·cases ha
   ·cases hb
theorem QdL (g:D.Grid):(Qb g).Nodup:=by
 unfold Qb
 split
 ·exact QaH g _
 ·simp
def YC (g:D.Grid) (s:D.Slot) (i:Nat):List Int:=if s∈(Qb g).take i then Qm g s s.Length.toNat else []
theorem Qi9 {g:D.Grid} {s x:D.Slot} {i:Nat} (h:(Qb g)[i]? =some x) (hn:¬x=s):YC g s (i+1)=YC g s i:=by
 unfold YC
 rw [List.take_add_one,h]
 simp [show ¬s=x from fun e=>hn e.symm]
theorem Qhg {g:D.Grid} {s x:D.Slot} {i:Nat} (h:(Qb g)[i]? =some x) (hn:x=s):YC g s i= []:=by
 subst hn
 refine if_neg fun hm=> ?_
 have hd:=QdL g
 have hi:=(List.getElem?_eq_some_iff.1 h).1
 rw [← List.take_append_drop i (Qb g),List.nodup_append] at hd
 refine hd.2.2 x hm x ?_ rfl
 rw [List.drop_eq_getElem_cons hi,(List.getElem?_eq_some_iff.1 h).2]
 exact List.mem_cons_self
theorem Qh8 {g:D.Grid} {s x:D.Slot} {i:Nat} (h:(Qb g)[i]? =some x) (hn:x=s):YC g s (i+1)=Qm g s s.Length.toNat:=by
 subst hn
 refine if_pos ?_
 rw [List.take_add_one,h]
 simp
theorem Qip {g:D.Grid} {s x:D.Slot} {i k:Nat} (h:(Qb g)[i]? =some x) (hn:x=s) (h1:¬((k:Nat):Int)<s.Length) (h2:k≤s.Length.toNat):Qm g s k=YC g s (i+1):=by
 rw [Qh8 h hn,show k=s.Length.toNat by omega]
theorem Qic (g:D.Grid) (s:D.Slot) {i:Nat} (h:(Qb g).length≤i):YC g s i=if s∈Qb g then Qm g s s.Length.toNat else []:=by
 rw [YC,List.take_of_length_le h]
end
theorem Jw (n:Nat) (g:D.Grid) (s:D.Slot) (hc:g.Cells.size≤maxLen):Pure (Qw Tryd.prog (n+4)) 119 [(T.agg (Qa false g)),(T.agg (Qg false s))] (T.sl true 1 ((if s∈Qb g then Qm g s s.Length.toNat else []).map (Ql true))):=by
 refine Pure.intro (rs:= [ResultVar.tmp 4]) Tryd.func119 rfl rfl rfl (E0:= [(0,(T.agg (Qa false g))),(1,(T.agg (Qg false s)))]) rfl ?_
 obtain ⟨hlim,hmx,hmax⟩:=QR
 have hsl:=QZ g
 refine sr (kO (B.box (ts:=(Qa false g)) (tv (T.agg (Qa false g)) rfl) nofun rfl) (kO (B.box (ts:=(Qg false s)) (tv (T.agg (Qg false s)) rfl) nofun rfl) (fO (OF.assign VEv.nils) (nt (sr (kO (OM.slice0 JY zo3 (by kernel_rfl) rfl (by rw [YK];decide) YK) (aO (T.os 1 2 0 0) rfl (nt (sr (lO (OL.loadOn (us:=(Qa false g)) (tv (T.op 0 0) rfl) rfl QO QM (lb rfl) rfl) (cO (OC.callF (r':=(T.os 4 3 0 (((Qb g).map (Qg true)).length))) (objs:= [(Obj.rows 4 ((Qb g).map (Qg true)))]) rfl (vc (tv (T.agg (Qa false g)) rfl) vn) (LendL.cons (lg Qq) ln) (Zk (n+0) g (by assumption)) rfl) ?_)))))))))))
 refine aO (T.os 4 3 0 (((Qb g).map (Qg true)).length)) rfl (nt (sq (sr (fO (OF.assign (VEv.int .i64 0)) (nt (VRun.block ?_))))))
 have he1: []=((YC g s 0).map (Ql true)):=by rfl
 refine VRun.loop (A:=Nat) (fun s_=> [(2,(T.op 0 0)),(3,(T.op 1 0)),(4,T.nils),(5,(T.os 1 3 0 (((YC g s s_).map (Ql true)).length))),(6,(T.os 4 2 0 (((Qb g).map (Qg true)).length))),(7,(tN s_))]) (fun s_=>Q4 [(0,(Obj.cells (Qa false g))),(1,(Obj.cells (Qg false s))),(2,(Obj.rows 4 ((Qb g).map (Qg true)))),(3,(Obj.rows 1 ((YC g s s_).map (Ql true))))]) 4 (fun s_=>s_≤(Qb g).length) (fun s_=>(Qb g).length - s_) (0:Nat) ?_ (Wk.mk (fun k=>if k=2 then 3 else if k=3 then 2 else k) ?_ ?_ ?_) ?_
 ·(simp;done)
 ·exact (b2 (b2 (b2 (bc ⟨(congrArg (fun n_=>T.os 1 2 0 n_) (show 0=((YC g s 0).map (Ql true)).length from (by rfl))),rfl⟩ (b2 (b2 bn))))))
 ·exact (b3 (b3 (b3 (bc ⟨(congrArg (fun l_=>some (Obj.rows 1 l_)) he1),(lb rfl),rfl⟩ bn))))
 ·exact nd rfl
 rintro i (hI':i≤(Qb g).length)
 show VRun _ _ _ [(2,(T.op 0 0)),(3,(T.op 1 0)),(4,T.nils),(5,(T.os 1 3 0 (((YC g s i).map (Ql true)).length))),(6,(T.os 4 2 0 (((Qb g).map (Qg true)).length))),(7,(tN i))] (Q4 [(0,(Obj.cells (Qa false g))),(1,(Obj.cells (Qg false s))),(2,(Obj.rows 4 ((Qb g).map (Qg true)))),(3,(Obj.rows 1 ((YC g s i).map (Ql true))))]) 4 _
 have hI1:=hI'
 refine sq (sr (mO (tN i) rfl (mO (T.os 4 2 0 (((Qb g).map (Qg true)).length)) rfl (lO (B.lenO (m:=(Qb g).length) (tv (T.os 4 2 0 (((Qb g).map (Qg true)).length)) rfl) Jl (List.length_map ..)) (fO (Zx (tv (tN i) rfl) (tv (tN ((Qb g).length)) rfl)) (nt ?_))))))
 refine cd (i<(Qb g).length) rfl (fun fhc0=> ?_) fun fhc0=> ?_
 ·refine sk ?_
  refine tn (sq (VRun.block (sq (sq (VRun.draw (B:= [[],[],[1,0],[0,1,2],[],[4,2,1,0,3]]) (by kernel_rfl) (by kernel_rfl) (mD (T.os 4 2 0 (((Qb g).map (Qg true)).length)) rfl rfl (mD (tN i) rfl rfl ?_)))))))
  obtain ⟨x1,hx1⟩:∃x,(Qb g)[i]? =some x:=⟨_,List.getElem?_eq_getElem (by omega)⟩
  refine fD (B.indexAddrO (i:=i) (tv (T.os 4 2 0 (((Qb g).map (Qg true)).length)) rfl) (tv (tN i) rfl) rfl (by (simp only [List.length_map];omega)) Jl Zr Qcs) rfl rfl (lD (OL.loadPn (us:=(Qg false x1)) (row:=(Qg true x1)) (tv (T.orp 4 2 i 0) rfl) rfl (QA _ hx1) QeH Zr (lb rfl) rfl (bc rfl (bc rfl (bc rfl (bc rfl bn))))) rfl rfl (lD (OL.loadOn (us:=(Qg false s)) (tv (T.op 1 0) rfl) rfl QeH Zr (lb rfl) rfl) rfl rfl (fD (B.neq98 (a:=x1) (b:=s) (m:=false) (m':=false) (tv (T.agg (Qg false x1)) rfl) (tv (T.agg (Qg false s)) rfl)) rfl rfl (VRunD.nil (tn ?_)))))
  refine cn (x1=s) rfl (fun fhc1=> ?_) fun fhc1=> ?_
  ·refine VRun.exit ?_
   refine vthn.e (vinB.e (tn (VRun.region (mO (tN i) rfl (fO (QF (tv (tN i) rfl) (VEv.int .i64 1) (by omega)) (aO (tN (i+1)) rfl (VRunO.nil (tn ?_))))))))
   have he2:YC g s i=YC g s (i+1):=by exact (Qi9 hx1 fhc1).symm
   refine ⟨(i+1:Nat),?_,?_,Wk.mk (fun k=>k) ?_ ?_ ?_⟩
   ·trivial
   ·omega
   ·exact (b2 (b2 (b2 (bc ⟨(congrArg (fun l_=>T.os 1 3 0 (List.map (Ql true) l_).length) he2),rfl⟩ (b2 (b2 bn))))))
   ·exact (b3 (b3 (b3 (bc ⟨(congrArg (fun l_=>some (Obj.rows 1 (List.map (Ql true) l_))) he2),(lb rfl),rfl⟩ bn))))
   ·exact nd rfl
  have hok:Qd1 g s:=fhc1▸JV (List.mem_of_getElem? hx1)
  obtain ⟨hg,hcc,hll⟩:=hok
  have hB:=hg.2.1
  refine sk (tn (sr (fO (OF.assign (VEv.int .i64 0)) (nt (VRun.block ?_)))))
  have he3:YC g s i=Qm g s 0:=by (rw [Qhg hx1 fhc1];rfl)
  refine VRun.loop (A:=Nat) (fun s_=> [(2,(T.op 0 0)),(3,(T.op 1 0)),(4,T.nils),(5,(T.os 1 3 0 (((Qm g s s_).map (Ql true)).length))),(6,(T.os 4 2 0 (((Qb g).map (Qg true)).length))),(7,(tN i)),(8,(tN s_))]) (fun s_=>Q4 [(0,(Obj.cells (Qa false g))),(1,(Obj.cells (Qg false s))),(2,(Obj.rows 4 ((Qb g).map (Qg true)))),(3,(Obj.rows 1 ((Qm g s s_).map (Ql true))))]) 4 (fun s_=>s_≤s.Length.toNat) (fun s_=>s.Length.toNat - s_) (0:Nat) ?_ (Wk.mk (fun k=>k) ?_ ?_ ?_) ?_
  ·(simp;done)
  ·exact (b2 (b2 (b2 (bc ⟨(congrArg (fun l_=>T.os 1 3 0 (List.map (Ql true) l_).length) he3),rfl⟩ (b2 (b2 (b2 bn)))))))
  ·exact (b3 (b3 (b3 (bc ⟨(congrArg (fun l_=>some (Obj.rows 1 (List.map (Ql true) l_))) he3),(lb rfl),rfl⟩ bn))))
  ·exact nd rfl
  rintro k (hI':k≤s.Length.toNat)
  show VRun _ _ _ [(2,(T.op 0 0)),(3,(T.op 1 0)),(4,T.nils),(5,(T.os 1 3 0 (((Qm g s k).map (Ql true)).length))),(6,(T.os 4 2 0 (((Qb g).map (Qg true)).length))),(7,(tN i)),(8,(tN k))] (Q4 [(0,(Obj.cells (Qa false g))),(1,(Obj.cells (Qg false s))),(2,(Obj.rows 4 ((Qb g).map (Qg true)))),(3,(Obj.rows 1 ((Qm g s k).map (Ql true))))]) 4 _
  have hJ1:=hI'
  have hN:=QbP (n:=k) (c:=g.Cols) (by omega) hB.1 hB.2
  have hcl:=Yn g s k
  refine sq (sr (mO (tN k) rfl (lf (tI s.Length) rfl Qao rfl rfl Zo (fO (xls (tv (tN k) rfl) (tv (tI s.Length) rfl)) (nt ?_)))))
  refine cd (((k:Nat):Int)<s.Length) rfl (fun fhc2=> ?_) fun fhc2=> ?_
  ·refine sk ?_
   refine tn (sq (VRun.block (sr (lf (tB s.Down) rfl QhK rfl rfl st4 (nt ?_)))))
   refine VRun.cond (tv (tB s.Down) rfl) (fun hc3=> ?_) (fun hc3=> ?_)
   ·have fhc3:s.Down=true:=hc3
    refine VRun.region (mO (T.os 1 3 0 (((Qm g s k).map (Ql true)).length)) rfl (lf (tI s.Cell) rfl Qdy rfl rfl Zo (mO (tN k) rfl (lf (tI g.Cols) rfl QV rfl rfl Zo (fO (B.mul (n:=(((k:Nat):Int)*g.Cols)) (tv (tN k) rfl) (tv (tI g.Cols) rfl) (by (refine Qdg ?_ ?_ ?_<;>omega))) (fO (B.add (n:=(s.Cell+(((k:Nat):Int)*g.Cols))) (tv (tI s.Cell) rfl) (tv (tI (((k:Nat):Int)*g.Cols)) rfl) (by (rw [Qz (by omega)];done))) (kO (OM.buildSlice (l:= [(tI (s.Cell+(((k:Nat):Int)*g.Cols)))]) (VEvp.cons (tv (tI (s.Cell+(((k:Nat):Int)*g.Cols))) rfl) VEvp.nil) rfl (by decide) (bc (nofun) bn) (bc ((bc (rfl) bn)) bn) (bc (rfl) bn) JY zo3 (by kernel_rfl) rfl (by rw [YK];decide) YK (Nat.le_of_ble_eq_true rfl)) (cO (B.append (rows:=((Qm g s k).map (Ql true))) (rows2:= [[(tI (s.Cell+(((k:Nat):Int)*g.Cols)))]]) (rows3:=((Qm g s k++ [(s.Cell+(((k:Nat):Int)*g.Cols))]).map (Ql true))) (VDst.own (tv (T.os 1 3 0 (((Qm g s k).map (Ql true)).length)) rfl) rfl rfl) (VSrc.own (tv (T.os 1 4 0 1) rfl) rfl rfl JY (bc (bc rfl bn) bn)) (by decide) JY YK (by decide) zo3 rfl (of_decide_eq_true (by kernel_rfl)) (by (simp only [List.length_map,List.length_append,List.length_cons,List.length_nil,List.length_replicate,List.length_set,List.length_drop,List.length_take,Z7] at *;omega)) ((List.map_append (f:=Ql true) (l₁:=Qm g s k) (l₂:= [(s.Cell+(((k:Nat):Int)*g.Cols))])).symm)) (aO (T.os 1 5 0 (((Qm g s k++ [(s.Cell+(((k:Nat):Int)*g.Cols))]).map (Ql true)).length)) rfl (VRunO.nil (vinB.n ?_)))))))))))
    refine tn (VRun.region (mO (tN k) rfl (fO (QF (tv (tN k) rfl) (VEv.int .i64 1) (by omega)) (aO (tN (k+1)) rfl (VRunO.nil (tn ?_))))))
    have he4:(Qm g s k++ [(s.Cell+(((k:Nat):Int)*g.Cols))])=Qm g s (k+1):=by rw [YI,Qda,if_pos fhc3]
    refine ⟨(k+1:Nat),?_,?_,Wk.mk (fun k=>if k=3 then 5 else k) ?_ ?_ ?_⟩
    ·omega
    ·omega
    ·exact (b2 (b2 (b2 (bc ⟨(congrArg (fun l_=>T.os 1 5 0 (List.map (Ql true) l_).length) he4),rfl⟩ (b2 (b2 (b2 bn)))))))
    ·exact (b3 (b3 (b3 (bc ⟨(congrArg (fun l_=>some (Obj.rows 1 (List.map (Ql true) l_))) he4),(lb rfl),rfl⟩ bn))))
    ·exact nd rfl
   have fhc3:s.Down=false:=hc3
   refine VRun.region (mO (T.os 1 3 0 (((Qm g s k).map (Ql true)).length)) rfl (lf (tI s.Cell) rfl Qdy rfl rfl Zo (mO (tN k) rfl (fO (B.add (n:=(s.Cell+((k:Nat):Int))) (tv (tI s.Cell) rfl) (tv (tN k) rfl) (by (rw [Qz (by omega)];done))) (kO (OM.buildSlice (l:= [(tI (s.Cell+((k:Nat):Int)))]) (VEvp.cons (tv (tI (s.Cell+((k:Nat):Int))) rfl) VEvp.nil) rfl (by decide) (bc (nofun) bn) (bc ((bc (rfl) bn)) bn) (bc (rfl) bn) JY zo3 (by kernel_rfl) rfl (by rw [YK];decide) YK (Nat.le_of_ble_eq_true rfl)) (cO (B.append (rows:=((Qm g s k).map (Ql true))) (rows2:= [[(tI (s.Cell+((k:Nat):Int)))]]) (rows3:=((Qm g s k++ [(s.Cell+((k:Nat):Int))]).map (Ql true))) (VDst.own (tv (T.os 1 3 0 (((Qm g s k).map (Ql true)).length)) rfl) rfl rfl) (VSrc.own (tv (T.os 1 4 0 1) rfl) rfl rfl JY (bc (bc rfl bn) bn)) (by decide) JY YK (by decide) zo3 rfl (of_decide_eq_true (by kernel_rfl)) (by (simp only [List.length_map,List.length_append,List.length_cons,List.length_nil,List.length_replicate,List.length_set,List.length_drop,List.length_take,Z7] at *;omega)) ((List.map_append (f:=Ql true) (l₁:=Qm g s k) (l₂:= [(s.Cell+((k:Nat):Int))])).symm)) (aO (T.os 1 5 0 (((Qm g s k++ [(s.Cell+((k:Nat):Int))]).map (Ql true)).length)) rfl (VRunO.nil (vinB.n (tn (VRun.region ?_)))))))))))
   refine mO (tN k) rfl (fO (QF (tv (tN k) rfl) (VEv.int .i64 1) (by omega)) (aO (tN (k+1)) rfl (VRunO.nil (tn ?_))))
   have he5:(Qm g s k++ [(s.Cell+((k:Nat):Int))])=Qm g s (k+1):=by (rw [YI,Qda,fhc3];simp;done)
   refine ⟨(k+1:Nat),?_,?_,Wk.mk (fun k=>if k=3 then 5 else k) ?_ ?_ ?_⟩
   ·omega
   ·omega
   ·exact (b2 (b2 (b2 (bc ⟨(congrArg (fun l_=>T.os 1 5 0 (List.map (Ql true) l_).length) he5),rfl⟩ (b2 (b2 (b2 bn)))))))
   ·exact (b3 (b3 (b3 (bc ⟨(congrArg (fun l_=>some (Obj.rows 1 (List.map (Ql true) l_))) he5),(lb rfl),rfl⟩ bn))))
   ·exact nd rfl
  refine VRun.exit (vthn.e (vthn.e (vinB.e (vinB.n (tn (VRun.region (mO (tN i) rfl (fO (QF (tv (tN i) rfl) (VEv.int .i64 1) (by omega)) (aO (tN (i+1)) rfl (VRunO.nil (tn ?_)))))))))))
  have he6:Qm g s k=YC g s (i+1):=by exact Qip hx1 fhc1 fhc2 hJ1
  refine ⟨(i+1:Nat),?_,?_,Wk.mk (fun k=>k) ?_ ?_ ?_⟩
  ·trivial
  ·omega
  ·exact (b2 (b2 (b2 (bc ⟨(congrArg (fun l_=>T.os 1 3 0 (List.map (Ql true) l_).length) he6),rfl⟩ (b2 (b2 bn))))))
  ·exact (b3 (b3 (b3 (bc ⟨(congrArg (fun l_=>some (Obj.rows 1 (List.map (Ql true) l_))) he6),(lb rfl),rfl⟩ bn))))
  ·exact nd rfl
 refine VRun.exit (vthn.e (vthn.e (vinB.e (tn (sr (mO (T.os 1 3 0 (((YC g s i).map (Ql true)).length)) rfl (aO (T.os 1 3 0 (((YC g s i).map (Ql true)).length)) rfl (nt (rt ?_)))))))))
 refine vfin.eq (r':=(T.sl true 1 ((YC g s i).map (Ql true)))) ?_ (vfin.r (VRes.tmp (t:=(T.os 1 3 0 (((YC g s i).map (Ql true)).length))) rfl VRes.nil) (Give.os rfl rfl (okInt.cleanMap _)))
 refine congrArg (fun l_=>T.sl true 1 (List.map (Ql true) l_)) ?_
 exact Qic g s (by omega)
end Go.Proofs.YthifchndolccgaaDoor.AE
namespace Go.Proofs.YthifchndolccgaaDoor.AE
open Go Go.RowKit
set_option linter.unusedVariables false
set_option linter.unusedSimpArgs false
set_option maxRecDepth 20000
set_option maxHeartbeats 2000000
noncomputable section
def inS (g:D.Grid) (c:Int) (s:D.Slot):Prop:=c∈Qm g s s.Length.toNat
instance (g:D.Grid) (c:Int) (s:D.Slot):Decidable (inS g c s):=Classical.propDecidable _
def atL (g:D.Grid) (c:Int):List D.Slot→Nat→List Int
 | [],_=> []
 | s::r,n=>(if inS g c s then [((n:Nat):Int)] else [])++atL g c r (n+1)
theorem QeQ (g:D.Grid) (c:Int) (s:D.Slot):∀(l:List D.Slot) (n:Nat),atL g c (l++ [s]) n=atL g c l n++(if inS g c s then [((n+l.length:Nat):Int)] else [])
 | [],n=>by simp [atL]
 | x::r,n=>by
  rw [List.cons_append,atL,atL,QeQ g c s r (n+1),List.append_assoc]
  simp only [List.length_cons,show n+1+r.length=n+(r.length+1) by omega]
def Zz (g:D.Grid) (c:Int) (i:Nat):List Int:=atL g c ((Qb g).take i) 0
theorem QaO {g:D.Grid} {c:Int} {i:Nat} {s:D.Slot} (h:(Qb g)[i]? =some s):Zz g c (i+1)=Zz g c i++(if inS g c s then [((i:Nat):Int)] else []):=by
 have hi:=(List.getElem?_eq_some_iff.1 h).1
 unfold Zz
 rw [List.take_add_one,h,Option.toList_some,QeQ]
 simp [Nat.min_eq_left (Nat.le_of_lt hi)]
theorem QfM (g:D.Grid) (c:Int):∀(l:List D.Slot) (n:Nat),(atL g c l n).length≤l.length
 | [],n=>by simp [atL]
 | x::r,n=>by
  have:=QfM g c r (n+1)
  rw [atL,List.length_append,List.length_cons]
  split<;>simp only [List.length_cons,List.length_nil]<;>omega
theorem QfG (g:D.Grid) (c:Int) (i:Nat):(Zz g c i).length≤(Qb g).length:=by
 have:=QfM g c ((Qb g).take i) 0
 rw [List.length_take] at this
 unfold Zz
 omega
theorem QfB {g:D.Grid} {i:Nat} {s:D.Slot} (h:(Qb g)[i]? =some s):(if s∈Qb g then Qm g s s.Length.toNat else [])=Qm g s s.Length.toNat:=if_pos (List.mem_of_getElem? h)
theorem QfR (g:D.Grid) (s:D.Slot):(if s∈Qb g then Qm g s s.Length.toNat else []).length≤6:=by
 split
 ·rename_i h
  rw [Yn]
  have:=(JV h).2.2.2
  omega
 ·simp
end
theorem Jr (n:Nat) (g:D.Grid) (c:Int) (hc:g.Cells.size≤maxLen):Pure (Qw Tryd.prog (n+5)) 99 [(T.agg (Qa false g)),(tI c)] (T.sl true 1 ((Zz g c (Qb g).length).map (Ql true))):=by
 refine Pure.intro (rs:= [ResultVar.tmp 4]) Tryd.func99 rfl rfl rfl (E0:= [(0,(T.agg (Qa false g))),(1,(tI c))]) rfl ?_
 obtain ⟨hlim,hmx,hmax⟩:=QR
 have hsl:=QZ g
 refine sr (kO (B.box (ts:=(Qa false g)) (tv (T.agg (Qa false g)) rfl) nofun rfl) (fO (OF.assign VEv.nils) (nt (sr (kO (OM.slice0 JY zo3 (by kernel_rfl) rfl (by rw [YK];decide) YK) (aO (T.os 1 1 0 0) rfl (nt (sr (lO (OL.loadOn (us:=(Qa false g)) (tv (T.op 0 0) rfl) rfl QO QM (lb rfl) rfl) (cO (OC.callF (r':=(T.os 4 2 0 (((Qb g).map (Qg true)).length))) (objs:= [(Obj.rows 4 ((Qb g).map (Qg true)))]) rfl (vc (tv (T.agg (Qa false g)) rfl) vn) (LendL.cons (lg Qq) ln) (Zk (n+1) g (by assumption)) rfl) (aO (T.os 4 2 0 (((Qb g).map (Qg true)).length)) rfl ?_)))))))))))
 refine nt (sq (sr (fO (OF.assign (VEv.int .i64 0)) (nt (VRun.block ?_)))))
 have he1: []=((Zz g c 0).map (Ql true)):=by rfl
 refine VRun.loop (A:=Nat) (fun s_=> [(1,(tI c)),(2,(T.op 0 0)),(4,T.nils),(5,(T.os 1 2 0 (((Zz g c s_).map (Ql true)).length))),(6,(T.os 4 1 0 (((Qb g).map (Qg true)).length))),(7,(tN s_))]) (fun s_=>Q4 [(0,(Obj.cells (Qa false g))),(1,(Obj.rows 4 ((Qb g).map (Qg true)))),(2,(Obj.rows 1 ((Zz g c s_).map (Ql true))))]) 3 (fun s_=>s_≤(Qb g).length) (fun s_=>(Qb g).length - s_) (0:Nat) ?_ (Wk.mk (fun k=>if k=1 then 2 else if k=2 then 1 else k) ?_ ?_ ?_) ?_
 ·(simp;done)
 ·exact (b2 (b2 (b2 (bc ⟨(congrArg (fun n_=>T.os 1 1 0 n_) (show 0=((Zz g c 0).map (Ql true)).length from (by rfl))),rfl⟩ (b2 (b2 bn))))))
 ·exact (b3 (b3 (bc ⟨(congrArg (fun l_=>some (Obj.rows 1 l_)) he1),(lb rfl),rfl⟩ bn)))
 ·exact nd rfl
 rintro i (hI':i≤(Qb g).length)
 show VRun _ _ _ [(1,(tI c)),(2,(T.op 0 0)),(4,T.nils),(5,(T.os 1 2 0 (((Zz g c i).map (Ql true)).length))),(6,(T.os 4 1 0 (((Qb g).map (Qg true)).length))),(7,(tN i))] (Q4 [(0,(Obj.cells (Qa false g))),(1,(Obj.rows 4 ((Qb g).map (Qg true)))),(2,(Obj.rows 1 ((Zz g c i).map (Ql true))))]) 3 _
 have hI1:=hI'
 have hal:=QfG g c i
 refine sq (sr (mO (tN i) rfl (mO (T.os 4 1 0 (((Qb g).map (Qg true)).length)) rfl (lO (B.lenO (m:=(Qb g).length) (tv (T.os 4 1 0 (((Qb g).map (Qg true)).length)) rfl) Jl (List.length_map ..)) (fO (Zx (tv (tN i) rfl) (tv (tN ((Qb g).length)) rfl)) (nt ?_))))))
 refine cd (i<(Qb g).length) rfl (fun fhc0=> ?_) fun fhc0=> ?_
 ·refine sk ?_
  refine tn (sq (VRun.block (sq (VRun.draw (B:= [[],[],[],[2,1],[1,2,3],[3,2,1,4,0],[],[6,0,4,1,2,3,5]]) (by kernel_rfl) (by kernel_rfl) (lD (OL.loadOn (us:=(Qa false g)) (tv (T.op 0 0) rfl) rfl QO QM (lb rfl) rfl) rfl rfl (mD (T.os 4 1 0 (((Qb g).map (Qg true)).length)) rfl rfl (mD (tN i) rfl rfl ?_)))))))
  obtain ⟨x1,hx1⟩:∃x,(Qb g)[i]? =some x:=⟨_,List.getElem?_eq_getElem (by omega)⟩
  refine fD (B.indexAddrO (i:=i) (tv (T.os 4 1 0 (((Qb g).map (Qg true)).length)) rfl) (tv (tN i) rfl) rfl (by (simp only [List.length_map];omega)) Jl Zr Qcs) rfl rfl (lD (OL.loadPn (us:=(Qg false x1)) (row:=(Qg true x1)) (tv (T.orp 4 1 i 0) rfl) rfl (QA _ hx1) QeH Zr (lb rfl) rfl (bc rfl (bc rfl (bc rfl (bc rfl bn))))) rfl rfl (VRunD.quiet (bi:= [3,2,1,4,0]) rfl VWant.always rfl rfl rfl bn (OC.callF (r':=(T.os 1 3 0 (((if x1∈Qb g then Qm g x1 x1.Length.toNat else []).map (Ql true)).length))) (objs:= [(Obj.rows 1 ((if x1∈Qb g then Qm g x1 x1.Length.toNat else []).map (Ql true)))]) rfl (vc (tv (T.agg (Qa false g)) rfl) (vc (tv (T.agg (Qg false x1)) rfl) vn)) (LendL.cons (lg Qq) (LendL.cons (lg okeSlot) ln)) (Jw (n+0) g x1 (by assumption)) rfl) (mD (tI c) rfl rfl (VRunD.quiet (bi:= [6,0,4,1,2,3,5]) rfl VWant.always rfl rfl rfl bn (cS (us:= [(rd 1 Ql (if x1∈Qb g then Qm g x1 x1.Length.toNat else [])),(tI c)]) (vc (tv (T.os 1 3 0 (((if x1∈Qb g then Qm g x1 x1.Length.toNat else []).map (Ql true)).length)) rfl) (vc (tv (tI c) rfl) vn)) (LendL.cons (Lend.os rfl rfl (okInt.fzMap _ _)) (lp rfl ln)) (QdN (n+3) (if x1∈Qb g then Qm g x1 x1.Length.toNat else []) c (by exact Nat.le_trans (QfR g _) (by decide))) rfl rfl) (VRunD.nil (tn ?_))))))
  refine cd (c∈(if x1∈Qb g then Qm g x1 x1.Length.toNat else [])) rfl (fun fhc1=> ?_) fun fhc1=> ?_
  ·rw [QfB hx1] at fhc1
   have q1:inS g c x1:=fhc1
   refine VRun.region (mO (T.os 1 2 0 (((Zz g c i).map (Ql true)).length)) rfl (mO (tN i) rfl (kO (OM.buildSlice (l:= [(tN i)]) (VEvp.cons (tv (tN i) rfl) VEvp.nil) rfl (by decide) (bc (nofun) bn) (bc ((bc (rfl) bn)) bn) (bc (rfl) bn) JY zo3 (by kernel_rfl) rfl (by rw [YK];decide) YK (Nat.le_of_ble_eq_true rfl)) (cO (B.append (rows:=((Zz g c i).map (Ql true))) (rows2:= [[(tN i)]]) (rows3:=((Zz g c i++ [((i:Nat):Int)]).map (Ql true))) (VDst.own (tv (T.os 1 2 0 (((Zz g c i).map (Ql true)).length)) rfl) rfl rfl) (VSrc.own (tv (T.os 1 4 0 1) rfl) rfl rfl JY (bc (bc rfl bn) bn)) (by decide) JY YK (by decide) zo3 rfl (of_decide_eq_true (by kernel_rfl)) (by (simp only [List.length_map,List.length_append,List.length_cons,List.length_nil,List.length_replicate,List.length_set,List.length_drop,List.length_take,Z7] at *;omega)) ((List.map_append (f:=Ql true) (l₁:=Zz g c i) (l₂:= [((i:Nat):Int)])).symm)) (aO (T.os 1 5 0 (((Zz g c i++ [((i:Nat):Int)]).map (Ql true)).length)) rfl (VRunO.nil (vinB.n (tn (VRun.region (mO (tN i) rfl (fO (QF (tv (tN i) rfl) (VEv.int .i64 1) (by omega)) ?_)))))))))))
   refine aO (tN (i+1)) rfl (VRunO.nil (tn ?_))
   have he2:(Zz g c i++ [((i:Nat):Int)])=Zz g c (i+1):=by rw [QaO hx1,if_pos q1]
   refine ⟨(i+1:Nat),?_,?_,Wk.mk (fun k=>if k=2 then 5 else k) ?_ ?_ ?_⟩
   ·trivial
   ·omega
   ·exact (b2 (b2 (b2 (bc ⟨(congrArg (fun l_=>T.os 1 5 0 (List.map (Ql true) l_).length) he2),rfl⟩ (b2 (b2 bn))))))
   ·exact (b3 (b3 (bc ⟨(congrArg (fun l_=>some (Obj.rows 1 (List.map (Ql true) l_))) he2),(lb rfl),rfl⟩ bn)))
   ·exact nd rfl
  rw [QfB hx1] at fhc1
  have q1:¬inS g c x1:=fhc1
  refine sk (vinB.n (tn (VRun.region (mO (tN i) rfl (fO (QF (tv (tN i) rfl) (VEv.int .i64 1) (by omega)) (aO (tN (i+1)) rfl (VRunO.nil (tn ?_))))))))
  have he3:Zz g c i=Zz g c (i+1):=by rw [QaO hx1,if_neg q1,List.append_nil]
  refine ⟨(i+1:Nat),?_,?_,Wk.mk (fun k=>k) ?_ ?_ ?_⟩
  ·trivial
  ·omega
  ·exact (b2 (b2 (b2 (bc ⟨(congrArg (fun l_=>T.os 1 2 0 (List.map (Ql true) l_).length) he3),rfl⟩ (b2 (b2 bn))))))
  ·exact (b3 (b3 (bc ⟨(congrArg (fun l_=>some (Obj.rows 1 (List.map (Ql true) l_))) he3),(lb rfl),rfl⟩ bn)))
  ·exact nd rfl
 refine VRun.exit (vthn.e (vthn.e (vinB.e (tn (sr (mO (T.os 1 2 0 (((Zz g c i).map (Ql true)).length)) rfl (aO (T.os 1 2 0 (((Zz g c i).map (Ql true)).length)) rfl (nt (rt ?_)))))))))
 refine vfin.eq (r':=(T.sl true 1 ((Zz g c i).map (Ql true)))) ?_ (vfin.r (VRes.tmp (t:=(T.os 1 2 0 (((Zz g c i).map (Ql true)).length))) rfl VRes.nil) (Give.os rfl rfl (okInt.cleanMap _)))
 refine congrArg (fun l_=>T.sl true 1 (List.map (Ql true) l_)) ?_
 rw [show i=(Qb g).length from by omega]
noncomputable section
theorem Qe9 {g:D.Grid} {i:Nat} {x:List Int} (h:(QJ g)[i]? =some x):∃s,(Qb g)[i]? =some s∧x=Qm g s s.Length.toNat:=by
 unfold QJ at h
 rw [List.getElem?_map] at h
 obtain ⟨s,h1,h2⟩:=Option.map_eq_some_iff.1 h
 exact ⟨s,h1,h2.symm⟩
theorem QbY {g:D.Grid} {s:D.Slot} {i:Nat} (h:(Qb g)[i]? =some s):(Qm g s s.Length.toNat).length≤6:=by
 rw [Yn]
 have:=(JV (List.mem_of_getElem? h)).2.2.2
 omega
end
theorem Qb2 (n:Nat) (g:D.Grid) (c:Int) (hc:g.Cells.size≤maxLen):Pure (Qw Tryd.prog (n+5)) 124 [(T.agg (Qa false g)),(tI c)] (T.sl true 1 ((Zz g c (Qb g).length).map (Ql true))):=by
 refine Pure.intro (rs:= [ResultVar.tmp 4]) Tryd.func124 rfl rfl rfl (E0:= [(0,(T.agg (Qa false g))),(1,(tI c))]) rfl ?_
 obtain ⟨hlim,hmx,hmax⟩:=QR
 have hsl:=QZ g
 have hll:=QaG g
 refine sr (kO (B.box (ts:=(Qa false g)) (tv (T.agg (Qa false g)) rfl) nofun rfl) (fO (OF.assign VEv.nils) (nt (sr (fO (OF.assign VEv.nils) (nt (sq (sr (lO (OL.loadOn (us:=(Qa false g)) (tv (T.op 0 0) rfl) rfl QO QM (lb rfl) rfl) (cO (OC.callF (r':=(T.os 1 1 0 (((QJ g).map ((Yd 1 Ql) true)).length))) (objs:= [(Obj.rows 1 ((QJ g).map ((Yd 1 Ql) true)))]) rfl (vc (tv (T.agg (Qa false g)) rfl) vn) (LendL.cons (lg Qq) ln) (YO (n+0) g (by assumption)) rfl) (lO (B.lenO (m:=(QJ g).length) (tv (T.os 1 1 0 (((QJ g).map ((Yd 1 Ql) true)).length)) rfl) QdJ (List.length_map ..)) ?_)))))))))))
 refine fO (OF.move (VEv.int .i64 0)) (nt (VRun.block (VRun.wk (Wk.freeze (sz:=1) (k:=1) (rows':=((QJ g).map ((Yd 1 Ql) false))) [9] (bc rfl bn) rfl rfl ((Qif okInt).fzMap _ _)) (VRun.wk (Wk.phantom 5 1 rfl) ?_))))
 have he1: []=((Zz g c 0).map (Ql true)):=by rfl
 refine VRun.loop (A:=Nat) (fun s_=> [(1,(tI c)),(4,T.nils),(5,(T.os 1 0 0 (((Zz g c s_).map (Ql true)).length))),(9,(rd 1 (Yd 1 Ql) (QJ g))),(10,(tN ((QJ g).length))),(11,(tN s_))]) (fun s_=>Q4 [(0,(Obj.rows 1 ((Zz g c s_).map (Ql true))))]) 1 (fun s_=>s_≤(QJ g).length) (fun s_=>(QJ g).length - s_) (0:Nat) ?_ (Wk.mk (fun k=>if k=0 then 2 else k) ?_ ?_ ?_) ?_
 ·(simp;done)
 ·exact (b2 (b2 (bc ⟨(congrArg (fun n_=>T.os 1 2 0 n_) (show 0=((Zz g c 0).map (Ql true)).length from (by rfl))),rfl⟩ (b2 (b2 (b2 bn))))))
 ·exact (bc ⟨(congrArg (fun l_=>some (Obj.rows 1 l_)) he1),(lb rfl),rfl⟩ bn)
 ·exact nd rfl
 rintro i (hI':i≤(QJ g).length)
 show VRun _ _ _ [(1,(tI c)),(4,T.nils),(5,(T.os 1 0 0 (((Zz g c i).map (Ql true)).length))),(9,(rd 1 (Yd 1 Ql) (QJ g))),(10,(tN ((QJ g).length))),(11,(tN i))] (Q4 [(0,(Obj.rows 1 ((Zz g c i).map (Ql true))))]) 1 _
 have hI1:=hI'
 have hal:=QfG g c i
 refine sr (fO (Zx (tv (tN i) rfl) (tv (tN ((QJ g).length)) rfl)) (nt (sq ?_)))
 refine cd (i<(QJ g).length) rfl (fun fhc0=> ?_) fun fhc0=> ?_
 ·refine sk ?_
  refine tn (sq (VRun.block (sr (mO (tN i) rfl ?_))))
  obtain ⟨x1,hx1⟩:∃x,(QJ g)[i]? =some x:=⟨_,List.getElem?_eq_getElem (by omega)⟩
  obtain ⟨y1,hy1,hq1⟩:=Qe9 hx1
  refine fO (OF.indexAddrR (row:=((Yd 1 Ql) false x1)) (i:=i) (tv (rd 1 (Yd 1 Ql) (QJ g)) rfl) (tv (tN i) rfl) rfl (QA _ hx1) QdJ Qf8 Qja) (lO (OL.loadR1 (t:=(rd 1 Ql x1)) (tv (T.rp [(rd 1 Ql x1)]) rfl) rfl Qjl) (aO (tN i) rfl (aO (rd 1 Ql x1) rfl (nt (sr (mO (rd 1 Ql x1) rfl (mO (tI c) rfl (cO (cS (vc (tv (rd 1 Ql x1) rfl) (vc (tv (tI c) rfl) vn)) (lps rfl) (Yr (n+2) x1 c (by (rw [hq1];exact Nat.le_trans (QbY hy1) (by decide)))) rfl rfl) (nt ?_)))))))))
  refine cd (c∈x1) rfl (fun fhc1=> ?_) fun fhc1=> ?_
  ·have q1:inS g c y1:=by rw [inS,← hq1];exact fhc1
   refine VRun.region (mO (T.os 1 0 0 (((Zz g c i).map (Ql true)).length)) rfl (mO (tN i) rfl (kO (OM.buildSlice (l:= [(tN i)]) (VEvp.cons (tv (tN i) rfl) VEvp.nil) rfl (by decide) (bc (nofun) bn) (bc ((bc (rfl) bn)) bn) (bc (rfl) bn) JY zo3 (by kernel_rfl) rfl (by rw [YK];decide) YK (Nat.le_of_ble_eq_true rfl)) (cO (B.append (rows:=((Zz g c i).map (Ql true))) (rows2:= [[(tN i)]]) (rows3:=((Zz g c i++ [((i:Nat):Int)]).map (Ql true))) (VDst.own (tv (T.os 1 0 0 (((Zz g c i).map (Ql true)).length)) rfl) rfl rfl) (VSrc.own (tv (T.os 1 1 0 1) rfl) rfl rfl JY (bc (bc rfl bn) bn)) (by decide) JY YK (by decide) zo3 rfl (of_decide_eq_true (by kernel_rfl)) (by (simp only [List.length_map,List.length_append,List.length_cons,List.length_nil,List.length_replicate,List.length_set,List.length_drop,List.length_take,Z7] at *;omega)) ((List.map_append (f:=Ql true) (l₁:=Zz g c i) (l₂:= [((i:Nat):Int)])).symm)) (aO (T.os 1 2 0 (((Zz g c i++ [((i:Nat):Int)]).map (Ql true)).length)) rfl (VRunO.nil (vinB.n (tn (VRun.region (fO (QF (tv (tN i) rfl) (VEv.int .i64 1) (by omega)) (mO (tN (i+1)) rfl ?_)))))))))))
   refine VRunO.nil (tn ?_)
   have he2:(Zz g c i++ [((i:Nat):Int)])=Zz g c (i+1):=by rw [QaO hy1,if_pos q1]
   refine ⟨(i+1:Nat),?_,?_,Wk.mk (fun k=>if k=0 then 2 else k) ?_ ?_ ?_⟩
   ·trivial
   ·omega
   ·exact (b2 (b2 (bc ⟨(congrArg (fun l_=>T.os 1 2 0 (List.map (Ql true) l_).length) he2),rfl⟩ (b2 (b2 (b2 bn))))))
   ·exact (bc ⟨(congrArg (fun l_=>some (Obj.rows 1 (List.map (Ql true) l_))) he2),(lb rfl),rfl⟩ bn)
   ·exact nd rfl
  have q1:¬inS g c y1:=by rw [inS,← hq1];exact fhc1
  refine sk (vinB.n (tn (VRun.region (fO (QF (tv (tN i) rfl) (VEv.int .i64 1) (by omega)) (mO (tN (i+1)) rfl (VRunO.nil (tn ?_)))))))
  have he3:Zz g c i=Zz g c (i+1):=by rw [QaO hy1,if_neg q1,List.append_nil]
  refine ⟨(i+1:Nat),?_,?_,Wk.mk (fun k=>k) ?_ ?_ ?_⟩
  ·trivial
  ·omega
  ·exact (b2 (b2 (bc ⟨(congrArg (fun l_=>T.os 1 0 0 (List.map (Ql true) l_).length) he3),rfl⟩ (b2 (b2 (b2 bn))))))
  ·exact (bc ⟨(congrArg (fun l_=>some (Obj.rows 1 (List.map (Ql true) l_))) he3),(lb rfl),rfl⟩ bn)
  ·exact nd rfl
 refine VRun.exit (vthn.e (vthn.e (vinB.e (tn (sr (mO (T.os 1 0 0 (((Zz g c i).map (Ql true)).length)) rfl (aO (T.os 1 0 0 (((Zz g c i).map (Ql true)).length)) rfl (nt (rt ?_)))))))))
 refine vfin.eq (r':=(T.sl true 1 ((Zz g c i).map (Ql true)))) ?_ (vfin.r (VRes.tmp (t:=(T.os 1 0 0 (((Zz g c i).map (Ql true)).length))) rfl VRes.nil) (Give.os rfl rfl (okInt.cleanMap _)))
 refine congrArg (fun l_=>T.sl true 1 (List.map (Ql true) l_)) ?_
 rw [show i=(Qb g).length from by omega]
noncomputable section
def chk (g:D.Grid) (c:Int):Prop:=(Zz g c (Qb g).length).length=2
instance (g:D.Grid) (c:Int):Decidable (chk g c):=Classical.propDecidable _
end
theorem Qa5 (n:Nat) (g:D.Grid) (c:Int) (hc:g.Cells.size≤maxLen):Pure (Qw Tryd.prog (n+6)) 120 [(T.agg (Qa false g)),(tI c)] (tB (decide (chk g c))):=by
 refine Pure.intro (rs:= [ResultVar.tmp 4]) Tryd.func120 rfl rfl rfl (E0:= [(0,(T.agg (Qa false g))),(1,(tI c))]) rfl ?_
 obtain ⟨hlim,hmx,hmax⟩:=QR
 refine sr (kO (B.box (ts:=(Qa false g)) (tv (T.agg (Qa false g)) rfl) nofun rfl) (fO (OF.assign (VEv.bool false)) (nt (sr (lO (OL.loadOn (us:=(Qa false g)) (tv (T.op 0 0) rfl) rfl QO QM (lb rfl) rfl) (mO (tI c) rfl (cO (OC.callF (r':=(T.os 1 1 0 (((Zz g c (Qb g).length).map (Ql true)).length))) (objs:= [(Obj.rows 1 ((Zz g c (Qb g).length).map (Ql true)))]) rfl (vc (tv (T.agg (Qa false g)) rfl) (vc (tv (tI c) rfl) vn)) (LendL.cons (lg Qq) (lp rfl ln)) (Jr (n+0) g c (by assumption)) rfl) (lO (B.lenO (m:=(Zz g c (Qb g).length).length) (tv (T.os 1 1 0 (((Zz g c (Qb g).length).map (Ql true)).length)) rfl) JY (List.length_map ..)) (fO (B.eql (c:=(decide ((Zz g c (Qb g).length).length=2))) (tv (tN ((Zz g c (Qb g).length).length)) rfl) (VEv.int .i64 2) (Zb (by omega))) (aO (tB (decide ((Zz g c (Qb g).length).length=2))) rfl (nt ?_)))))))))))
 refine rt (vb (b':=(decide ((Zz g c (Qb g).length).length=2))) rfl ?_)
 exact Zb Iff.rfl
theorem Qbc (n:Nat) (g:D.Grid) (c:Int) (hc:g.Cells.size≤maxLen):Pure (Qw Tryd.prog (n+6)) 104 [(T.agg (Qa false g)),(tI c)] (tB (decide (chk g c))):=by
 refine Pure.intro (rs:= [ResultVar.tmp 4]) Tryd.func104 rfl rfl rfl (E0:= [(0,(T.agg (Qa false g))),(1,(tI c))]) rfl ?_
 obtain ⟨hlim,hmx,hmax⟩:=QR
 refine sr (kO (B.box (ts:=(Qa false g)) (tv (T.agg (Qa false g)) rfl) nofun rfl) (fO (OF.assign (VEv.bool false)) (nt (sr (lO (OL.loadOn (us:=(Qa false g)) (tv (T.op 0 0) rfl) rfl QO QM (lb rfl) rfl) (mO (tI c) rfl (cO (OC.callF (r':=(T.os 1 1 0 (((Zz g c (Qb g).length).map (Ql true)).length))) (objs:= [(Obj.rows 1 ((Zz g c (Qb g).length).map (Ql true)))]) rfl (vc (tv (T.agg (Qa false g)) rfl) (vc (tv (tI c) rfl) vn)) (LendL.cons (lg Qq) (lp rfl ln)) (Qb2 (n+0) g c (by assumption)) rfl) (lO (B.lenO (m:=(Zz g c (Qb g).length).length) (tv (T.os 1 1 0 (((Zz g c (Qb g).length).map (Ql true)).length)) rfl) JY (List.length_map ..)) (fO (B.eql (c:=(decide ((Zz g c (Qb g).length).length=2))) (tv (tN ((Zz g c (Qb g).length).length)) rfl) (VEv.int .i64 2) (Zb (by omega))) (aO (tB (decide ((Zz g c (Qb g).length).length=2))) rfl (nt ?_)))))))))))
 refine rt (vb (b':=(decide ((Zz g c (Qb g).length).length=2))) rfl ?_)
 exact Zb Iff.rfl
end Go.Proofs.YthifchndolccgaaDoor.AE
namespace Go.Proofs.YthifchndolccgaaDoor.AE
open Go Go.RowKit
set_option linter.unusedVariables false
set_option linter.unusedSimpArgs false
set_option maxRecDepth 20000
set_option maxHeartbeats 2000000
noncomputable section
def nUn (g:D.Grid) (l:List Int):Nat:=(l.filter fun c=> !decide (chk g c)).length
theorem Qfo (g:D.Grid) (l:List Int):nUn g l≤l.length:=List.length_filter_le _ _
theorem QaK {g:D.Grid} {l:List Int} {i:Nat} {x:Int} (h:l[i]? =some x):nUn g (l.take (i+1))=nUn g (l.take i)+(if chk g x then 0 else 1):=by
 unfold nUn
 rw [List.take_add_one,h,List.filter_append,List.length_append]
 by_cases hc:chk g x<;>simp [hc]
def unG (g:D.Grid) (slot:Int):Int:=if 0≤slot then (match (Qb g)[slot.toNat]? with | some s=>((nUn g (Qm g s s.Length.toNat):Nat):Int) | none=> -1) else -1
theorem Qhh {g:D.Grid} {slot:Int} (h:¬(0≤slot∧slot<(((Qb g).length:Nat):Int))):unG g slot= -1:=by
 unfold unG
 by_cases h1:0≤slot
 ·rw [if_pos h1,List.getElem?_eq_none (by omega)]
 ·rw [if_neg h1]
theorem Qhs {g:D.Grid} {slot:Int} {s:D.Slot} (h1:0≤slot) (h:(Qb g)[slot.toNat]? =some s):unG g slot=((nUn g (Qm g s s.Length.toNat):Nat):Int):=by
 unfold unG
 rw [if_pos h1,h]
theorem Qck {α:Type} {l:List α} {i:Nat} (h1:i≤l.length) (h2:¬i<l.length):l.take i=l:=List.take_of_length_le (by omega)
theorem JA {α:Type} (l:List α) (i:Nat):(l.take i).length≤i:=by rw [List.length_take];omega
end
theorem J7 (n:Nat) (g:D.Grid) (slot:Int) (hc:g.Cells.size≤maxLen):Pure (Qw Tryd.prog (n+7)) 98 [(T.agg (Qa false g)),(tI slot)] (tI (unG g slot)):=by
 refine Pure.intro (rs:= [ResultVar.tmp 4]) Tryd.func98 rfl rfl rfl (E0:= [(0,(T.agg (Qa false g))),(1,(tI slot))]) rfl ?_
 obtain ⟨hlim,hmx,hmax⟩:=QR
 have hsl:=QZ g
 refine sr (kO (B.box (ts:=(Qa false g)) (tv (T.agg (Qa false g)) rfl) nofun rfl) (fO (OF.assign (VEv.int .i64 0)) (nt (sr (lO (OL.loadOn (us:=(Qa false g)) (tv (T.op 0 0) rfl) rfl QO QM (lb rfl) rfl) (cO (OC.callF (r':=(T.os 4 1 0 (((Qb g).map (Qg true)).length))) (objs:= [(Obj.rows 4 ((Qb g).map (Qg true)))]) rfl (vc (tv (T.agg (Qa false g)) rfl) vn) (LendL.cons (lg Qq) ln) (Zk (n+3) g (by assumption)) rfl) (aO (T.os 4 1 0 (((Qb g).map (Qg true)).length)) rfl (nt (sq (sr (mO (tI slot) rfl ?_)))))))))))
 refine mO (T.os 4 1 0 (((Qb g).map (Qg true)).length)) rfl (lO (B.lenO (m:=(Qb g).length) (tv (T.os 4 1 0 (((Qb g).map (Qg true)).length)) rfl) Jl (List.length_map ..)) (fO (B.sub (n:=((((Qb g).length:Nat):Int) - 1)) (tv (tN ((Qb g).length)) rfl) (VEv.int .i64 1) (by (rw [Qz (by omega)];done))) (cO (cS (vc (tv (tI slot) rfl) (vc (VEv.int .i64 0) (vc (tv (tI ((((Qb g).length:Nat):Int) - 1)) rfl) vn))) (lps rfl) (YF (n+5) slot 0 ((((Qb g).length:Nat):Int) - 1)) rfl rfl) (fO (ZL (tv (tB (decide (0≤slot∧slot≤((((Qb g).length:Nat):Int) - 1)))) rfl)) (nt ?_)))))
 refine cn (0≤slot∧slot≤((((Qb g).length:Nat):Int) - 1)) rfl (fun fhc0=> ?_) fun fhc0=> ?_
 ·refine sr ?_
  refine fO (OF.assign (VEv.int .i64 (-1))) (nt (rt (tr (vi (n':=(-1)) rfl ?_))))
  exact (Qhh (by omega)).symm
 have hs0:0≤slot:=by omega
 refine sk (tn (sq (VRun.draw (B:= [[],[],[],[2,1],[1,2,3],[3,2,1,4,0],[0,4,1,2,3,5]]) (by kernel_rfl) (by kernel_rfl) (lD (OL.loadOn (us:=(Qa false g)) (tv (T.op 0 0) rfl) rfl QO QM (lb rfl) rfl) rfl rfl (mD (T.os 4 1 0 (((Qb g).map (Qg true)).length)) rfl rfl (mD (tI slot) rfl rfl ?_))))))
 obtain ⟨x1,hx1⟩:∃x,(Qb g)[(Int.toNat slot)]? =some x:=⟨_,List.getElem?_eq_getElem (by omega)⟩
 refine fD (B.indexAddrO (i:=(Int.toNat slot)) (tv (T.os 4 1 0 (((Qb g).map (Qg true)).length)) rfl) (tv (tI slot) rfl) (by omega) (by (simp only [List.length_map];omega)) Jl Zr Qcs) rfl rfl (lD (OL.loadPn (us:=(Qg false x1)) (row:=(Qg true x1)) (tv (T.orp 4 1 (Int.toNat slot) 0) rfl) rfl (QA _ hx1) QeH Zr (lb rfl) rfl (bc rfl (bc rfl (bc rfl (bc rfl bn))))) rfl rfl (VRunD.quiet (bi:= [3,2,1,4,0]) rfl VWant.always rfl rfl rfl bn (OC.callF (r':=(T.os 1 2 0 (((if x1∈Qb g then Qm g x1 x1.Length.toNat else []).map (Ql true)).length))) (objs:= [(Obj.rows 1 ((if x1∈Qb g then Qm g x1 x1.Length.toNat else []).map (Ql true)))]) rfl (vc (tv (T.agg (Qa false g)) rfl) (vc (tv (T.agg (Qg false x1)) rfl) vn)) (LendL.cons (lg Qq) (LendL.cons (lg okeSlot) ln)) (Jw (n+2) g x1 (by assumption)) rfl) (fD (OF.assign (tv (T.os 1 2 0 (((if x1∈Qb g then Qm g x1 x1.Length.toNat else []).map (Ql true)).length)) rfl)) rfl rfl (VRunD.nil (tn (sr (fO (OF.assign (VEv.int .i64 0)) (nt (sq (sr (fO (OF.assign (VEv.int .i64 0)) ?_)))))))))))
 refine nt (VRun.block ?_)
 refine VRun.loop (A:=Nat×Nat) (fun s_=> [(2,(T.op 0 0)),(4,(tN 0)),(6,(T.os 1 1 0 (((if x1∈Qb g then Qm g x1 x1.Length.toNat else []).map (Ql true)).length))),(7,(tN s_.2)),(8,(tN s_.1))]) (fun s_=>Q4 [(0,(Obj.cells (Qa false g))),(1,(Obj.rows 1 ((if x1∈Qb g then Qm g x1 x1.Length.toNat else []).map (Ql true))))]) 2 (fun s_=>s_.1≤(if x1∈Qb g then Qm g x1 x1.Length.toNat else []).length∧s_.2=nUn g ((if x1∈Qb g then Qm g x1 x1.Length.toNat else []).take s_.1)) (fun s_=>(if x1∈Qb g then Qm g x1 x1.Length.toNat else []).length - s_.1) ((0,0):Nat×Nat) ?_ (Wk.mk (fun k=>if k=1 then 2 else k) ?_ ?_ ?_) ?_
 ·exact ⟨Nat.zero_le _,rfl⟩
 ·exact (b2 (b2 (b2 (b2 (b2 bn)))))
 ·exact (b3 (b3 bn))
 ·exact nd rfl
 rintro ⟨i,m⟩ (hI':i≤(if x1∈Qb g then Qm g x1 x1.Length.toNat else []).length∧m=nUn g ((if x1∈Qb g then Qm g x1 x1.Length.toNat else []).take i))
 show VRun _ _ _ [(2,(T.op 0 0)),(4,(tN 0)),(6,(T.os 1 1 0 (((if x1∈Qb g then Qm g x1 x1.Length.toNat else []).map (Ql true)).length))),(7,(tN m)),(8,(tN i))] (Q4 [(0,(Obj.cells (Qa false g))),(1,(Obj.rows 1 ((if x1∈Qb g then Qm g x1 x1.Length.toNat else []).map (Ql true))))]) 2 _
 have hI1:=hI'.1
 have hl6:=QfR g x1
 have hn6:=Qfo g ((if x1∈Qb g then Qm g x1 x1.Length.toNat else []).take i)
 have ht6:=JA (if x1∈Qb g then Qm g x1 x1.Length.toNat else []) i
 have hI2:=hI'.2
 refine sq (sr (mO (tN i) rfl (mO (T.os 1 1 0 (((if x1∈Qb g then Qm g x1 x1.Length.toNat else []).map (Ql true)).length)) rfl (lO (B.lenO (m:=(if x1∈Qb g then Qm g x1 x1.Length.toNat else []).length) (tv (T.os 1 1 0 (((if x1∈Qb g then Qm g x1 x1.Length.toNat else []).map (Ql true)).length)) rfl) JY (List.length_map ..)) (fO (Zx (tv (tN i) rfl) (tv (tN ((if x1∈Qb g then Qm g x1 x1.Length.toNat else []).length)) rfl)) (nt ?_))))))
 refine cd (i<(if x1∈Qb g then Qm g x1 x1.Length.toNat else []).length) rfl (fun fhc1=> ?_) fun fhc1=> ?_
 ·refine sk ?_
  refine tn (sq (VRun.block (sq (VRun.draw (B:= [[],[],[],[2,1],[1,2,3],[3,2,1,4,0],[0,4,1,2,3,5]]) (by kernel_rfl) (by kernel_rfl) (lD (OL.loadOn (us:=(Qa false g)) (tv (T.op 0 0) rfl) rfl QO QM (lb rfl) rfl) rfl rfl (mD (T.os 1 1 0 (((if x1∈Qb g then Qm g x1 x1.Length.toNat else []).map (Ql true)).length)) rfl rfl (mD (tN i) rfl rfl ?_)))))))
  obtain ⟨x2,hx2⟩:∃x,(if x1∈Qb g then Qm g x1 x1.Length.toNat else [])[i]? =some x:=⟨_,List.getElem?_eq_getElem (by omega)⟩
  refine fD (B.indexAddrO (i:=i) (tv (T.os 1 1 0 (((if x1∈Qb g then Qm g x1 x1.Length.toNat else []).map (Ql true)).length)) rfl) (tv (tN i) rfl) rfl (by (simp only [List.length_map];omega)) JY YK if3) rfl rfl (lD (OL.loadP1 (t:=(tI x2)) (row:=(Ql true x2)) (tv (T.orp 1 1 i 0) rfl) rfl (QA _ hx2) rfl rfl Zo) rfl rfl (VRunD.quiet (bi:= [3,2,1,4,0]) rfl VWant.always rfl rfl rfl bn (cS (vc (tv (T.agg (Qa false g)) rfl) (vc (tv (tI x2) rfl) vn)) (LendL.cons (lg Qq) (lp rfl ln)) (Qa5 (n+0) g x2 (by assumption)) rfl rfl) (fD (ZL (tv (tB (decide (chk g x2))) rfl)) rfl rfl (VRunD.nil (tn ?_)))))
  refine cn (chk g x2) rfl (fun fhc2=> ?_) fun fhc2=> ?_
  ·refine VRun.region ?_
   refine mO (tN m) rfl (fO (QF (tv (tN m) rfl) (VEv.int .i64 1) (by omega)) (aO (tN (m+1)) rfl (VRunO.nil (vinB.n (tn (VRun.region (mO (tN i) rfl (fO (QF (tv (tN i) rfl) (VEv.int .i64 1) (by omega)) (aO (tN (i+1)) rfl (VRunO.nil (tn ?_)))))))))))
   refine ⟨((i+1,m+(if chk g x2 then 0 else 1)):Nat×Nat),?_,?_,Wk.mk (fun k=>k) ?_ ?_ ?_⟩
   ·exact ⟨by omega,by rw [QaK hx2,← hI2]⟩
   ·omega
   ·exact (b2 (b2 (b2 (bc ⟨(congrArg (T.int .i64) (show (((m+1):Nat):Int)=(((m+(if chk g x2 then 0 else 1)):Nat):Int) from (by (rw [if_neg fhc2];done)))),rfl⟩ (b2 bn)))))
   ·exact (b3 (b3 bn))
   ·exact nd rfl
  refine sk (vinB.n (tn (VRun.region (mO (tN i) rfl (fO (QF (tv (tN i) rfl) (VEv.int .i64 1) (by omega)) (aO (tN (i+1)) rfl (VRunO.nil (tn ?_))))))))
  refine ⟨((i+1,m+(if chk g x2 then 0 else 1)):Nat×Nat),?_,?_,Wk.mk (fun k=>k) ?_ ?_ ?_⟩
  ·exact ⟨by omega,by rw [QaK hx2,← hI2]⟩
  ·omega
  ·exact (b2 (b2 (b2 (bc ⟨(congrArg (T.int .i64) (show ((m:Nat):Int)=(((m+(if chk g x2 then 0 else 1)):Nat):Int) from (by (rw [if_pos fhc2];omega)))),rfl⟩ (b2 bn)))))
  ·exact (b3 (b3 bn))
  ·exact nd rfl
 refine VRun.exit (vthn.e (vthn.e (vinB.e (tn (sr (mO (tN m) rfl (aO (tN m) rfl (nt (rt (vi (n':=((m:Nat):Int)) rfl ?_))))))))))
 rw [Qhs hs0 hx1,hI2,Qck hI1 fhc1,QfB hx1]
theorem Qaf (n:Nat) (g:D.Grid) (slot:Int) (hc:g.Cells.size≤maxLen):Pure (Qw Tryd.prog (n+7)) 78 [(T.agg (Qa false g)),(tI slot)] (tI (unG g slot)):=by
 refine Pure.intro (rs:= [ResultVar.tmp 4]) Tryd.func78 rfl rfl rfl (E0:= [(0,(T.agg (Qa false g))),(1,(tI slot))]) rfl ?_
 obtain ⟨hlim,hmx,hmax⟩:=QR
 have hsl:=QZ g
 have hll:=QaG g
 refine sr (kO (B.box (ts:=(Qa false g)) (tv (T.agg (Qa false g)) rfl) nofun rfl) (fO (OF.assign (VEv.int .i64 0)) (nt (sr (lO (OL.loadOn (us:=(Qa false g)) (tv (T.op 0 0) rfl) rfl QO QM (lb rfl) rfl) (cO (OC.callF (r':=(T.os 1 1 0 (((QJ g).map ((Yd 1 Ql) true)).length))) (objs:= [(Obj.rows 1 ((QJ g).map ((Yd 1 Ql) true)))]) rfl (vc (tv (T.agg (Qa false g)) rfl) vn) (LendL.cons (lg Qq) ln) (YO (n+2) g (by assumption)) rfl) (aO (T.os 1 1 0 (((QJ g).map ((Yd 1 Ql) true)).length)) rfl (nt (sq (sr (mO (tI slot) rfl ?_)))))))))))
 refine mO (T.os 1 1 0 (((QJ g).map ((Yd 1 Ql) true)).length)) rfl (lO (B.lenO (m:=(QJ g).length) (tv (T.os 1 1 0 (((QJ g).map ((Yd 1 Ql) true)).length)) rfl) QdJ (List.length_map ..)) (cO (cS (vc (tv (tI slot) rfl) (vc (tv (tN ((QJ g).length)) rfl) vn)) (lps rfl) (QaT (n+5) slot (((QJ g).length:Nat):Int)) rfl rfl) (fO (ZL (tv (tB (decide (0≤slot∧slot<(((QJ g).length:Nat):Int)))) rfl)) (nt ?_))))
 refine cn (0≤slot∧slot<(((QJ g).length:Nat):Int)) rfl (fun fhc0=> ?_) fun fhc0=> ?_
 ·refine sr ?_
  refine fO (OF.assign (VEv.int .i64 (-1))) (nt (rt (tr (vi (n':=(-1)) rfl ?_))))
  exact (Qhh (by omega)).symm
 refine sk (tn (sr (fO (OF.assign (VEv.int .i64 0)) (nt (sq (VRun.wk (Wk.freeze (sz:=1) (k:=1) (rows':=((QJ g).map ((Yd 1 Ql) false))) [5,10,12] (bc rfl (bc rfl (bc rfl bn))) rfl rfl ((Qif okInt).fzMap _ _)) ?_))))))
 have hs0:0≤slot:=by omega
 refine sr (mO (rd 1 (Yd 1 Ql) (QJ g)) rfl (mO (tI slot) rfl ?_))
 obtain ⟨x1,hx1⟩:∃x,(QJ g)[(Int.toNat slot)]? =some x:=⟨_,List.getElem?_eq_getElem (by omega)⟩
 obtain ⟨y1,hy1,hq1⟩:=Qe9 hx1
 refine fO (OF.indexAddrR (row:=((Yd 1 Ql) false x1)) (i:=(Int.toNat slot)) (tv (rd 1 (Yd 1 Ql) (QJ g)) rfl) (tv (tI slot) rfl) (by omega) (QA _ hx1) QdJ Qf8 Qja) (lO (OL.loadR1 (t:=(rd 1 Ql x1)) (tv (T.rp [(rd 1 Ql x1)]) rfl) rfl Qjl) (lO (B.lenR (m:=x1.length) (tv (rd 1 Ql x1) rfl) JY (List.length_map ..)) (fO (OF.move (VEv.int .i64 0)) (nt (VRun.block ?_)))))
 refine VRun.loop (A:=Nat×Nat) (fun s_=> [(2,(T.op 0 0)),(4,(tN 0)),(6,(tN s_.2)),(19,(rd 1 Ql x1)),(20,(tN x1.length)),(21,(tN s_.1))]) (fun s_=>Q4 [(0,(Obj.cells (Qa false g)))]) 1 (fun s_=>s_.1≤x1.length∧s_.2=nUn g (x1.take s_.1)) (fun s_=>x1.length - s_.1) ((0,0):Nat×Nat) ?_ (Wk.mk (fun k=>k) ?_ ?_ ?_) ?_
 ·exact ⟨Nat.zero_le _,rfl⟩
 ·exact (b2 (b2 (b2 (b2 (b2 (b2 bn))))))
 ·exact (b3 bn)
 ·exact nd rfl
 rintro ⟨i,m⟩ (hI':i≤x1.length∧m=nUn g (x1.take i))
 show VRun _ _ _ [(2,(T.op 0 0)),(4,(tN 0)),(6,(tN m)),(19,(rd 1 Ql x1)),(20,(tN x1.length)),(21,(tN i))] (Q4 [(0,(Obj.cells (Qa false g)))]) 1 _
 have hI1:=hI'.1
 have hl6:=QbY hy1
 rw [← hq1] at hl6
 have hn6:=Qfo g (x1.take i)
 have ht6:=JA x1 i
 have hI2:=hI'.2
 refine sr (fO (Zx (tv (tN i) rfl) (tv (tN x1.length) rfl)) (nt (sq ?_)))
 refine cd (i<x1.length) rfl (fun fhc1=> ?_) fun fhc1=> ?_
 ·refine sk ?_
  refine tn (sq (VRun.block (sr ?_)))
  obtain ⟨x2,hx2⟩:∃x,x1[i]? =some x:=⟨_,List.getElem?_eq_getElem (by omega)⟩
  skip
  refine fO (OF.indexAddrR (row:=(Ql false x2)) (i:=i) (tv (rd 1 Ql x1) rfl) (tv (tN i) rfl) rfl (QA _ hx2) JY YK if3) (lO (OL.loadR1 (t:=(tI x2)) (tv (T.rp [(tI x2)]) rfl) rfl Zo) (aO (tI x2) rfl (nt (sr (lO (OL.loadOn (us:=(Qa false g)) (tv (T.op 0 0) rfl) rfl QO QM (lb rfl) rfl) (mO (tI x2) rfl (cO (cS (vc (tv (T.agg (Qa false g)) rfl) (vc (tv (tI x2) rfl) vn)) (LendL.cons (lg Qq) (lp rfl ln)) (Qbc (n+0) g x2 (by assumption)) rfl rfl) (fO (ZL (tv (tB (decide (chk g x2))) rfl)) (nt ?_)))))))))
  refine cn (chk g x2) rfl (fun fhc2=> ?_) fun fhc2=> ?_
  ·refine VRun.region ?_
   refine mO (tN m) rfl (fO (QF (tv (tN m) rfl) (VEv.int .i64 1) (by omega)) (aO (tN (m+1)) rfl (VRunO.nil (vinB.n (tn (VRun.region (fO (QF (tv (tN i) rfl) (VEv.int .i64 1) (by omega)) (mO (tN (i+1)) rfl (VRunO.nil (tn ?_))))))))))
   refine ⟨((i+1,m+(if chk g x2 then 0 else 1)):Nat×Nat),?_,?_,Wk.mk (fun k=>k) ?_ ?_ ?_⟩
   ·exact ⟨by omega,by rw [QaK hx2,← hI2]⟩
   ·omega
   ·exact (b2 (b2 (bc ⟨(congrArg (T.int .i64) (show (((m+1):Nat):Int)=(((m+(if chk g x2 then 0 else 1)):Nat):Int) from (by (rw [if_neg fhc2];done)))),rfl⟩ (b2 (b2 (b2 bn))))))
   ·exact (b3 bn)
   ·exact nd rfl
  refine sk (vinB.n (tn (VRun.region (fO (QF (tv (tN i) rfl) (VEv.int .i64 1) (by omega)) (mO (tN (i+1)) rfl (VRunO.nil (tn ?_)))))))
  refine ⟨((i+1,m+(if chk g x2 then 0 else 1)):Nat×Nat),?_,?_,Wk.mk (fun k=>k) ?_ ?_ ?_⟩
  ·exact ⟨by omega,by rw [QaK hx2,← hI2]⟩
  ·omega
  ·exact (b2 (b2 (bc ⟨(congrArg (T.int .i64) (show ((m:Nat):Int)=(((m+(if chk g x2 then 0 else 1)):Nat):Int) from (by (rw [if_pos fhc2];omega)))),rfl⟩ (b2 (b2 (b2 bn))))))
  ·exact (b3 bn)
  ·exact nd rfl
 refine VRun.exit (vthn.e (vthn.e (vinB.e (tn (sr (mO (tN m) rfl (aO (tN m) rfl (nt (rt (vi (n':=((m:Nat):Int)) rfl ?_))))))))))
 rw [Qhs hs0 hy1,hI2,Qck hI1 fhc1,hq1]
end Go.Proofs.YthifchndolccgaaDoor.AE
namespace Go.Proofs.YthifchndolccgaaDoor.AE
open Go Go.RowKit
set_option linter.unusedVariables false
set_option linter.unusedSimpArgs false
set_option maxRecDepth 20000
set_option maxHeartbeats 2000000
noncomputable section
def QbJ (g:D.Grid) (i:Nat) (s:D.Slot):Prop:=s.Length<2*unG g ((i:Nat):Int)
def QfV (g:D.Grid) (c:Int):Prop:=∃s∈Qb g,inS g c s
def Y1 (g:D.Grid) (c:Nat):Prop:=QK g.Cells c=46∧¬QfV g ((c:Nat):Int)
def JM (g:D.Grid):Prop:=(∃i s,(Qb g)[i]? =some s∧QbJ g i s)∨∃c,c<g.Cells.size∧gridOk g∧Y1 g c
instance (g:D.Grid):Decidable (JM g):=Classical.propDecidable _
theorem QfP (g:D.Grid) (c:Int):∀(l:List D.Slot) (n:Nat),(atL g c l n).length=0↔¬∃s∈l,inS g c s
 | [],n=>by simp [atL]
 | x::r,n=>by
  have:=QfP g c r (n+1)
  rw [atL,List.length_append]
  by_cases h:inS g c x
  ·rw [if_pos h];simp [h]
  ·rw [if_neg h,List.length_nil,Nat.zero_add,this];simp [h]
theorem atG_none {g:D.Grid} {c:Int}:(Zz g c (Qb g).length).length=0↔¬QfV g c:=by
 unfold Zz
 rw [List.take_length]
 exact QfP g c _ _
theorem QgL (g:D.Grid) (i:Int): -1≤unG g i∧unG g i≤6:=by
 unfold unG
 split
 ·split
  ·rename_i s hs
   have h1:=Qfo g (Qm g s s.Length.toNat)
   have h2:=QbY hs
   omega
  ·omega
 ·omega
def NoBad (g:D.Grid) (i:Nat):Prop:=i≤(Qb g).length∧∀j s,j<i→(Qb g)[j]? =some s→¬QbJ g j s
theorem NoBad.start (g:D.Grid):NoBad g 0:=⟨Nat.zero_le _,fun j s hj=>by omega⟩
theorem NoBad.next {g:D.Grid} {i:Nat} {s:D.Slot} (h:NoBad g i) (hx:(Qb g)[i]? =some s) (hn:¬QbJ g i s):NoBad g (i+1):=by
 have:=(List.getElem?_eq_some_iff.1 hx).1
 refine ⟨by omega,fun j y hj hy=> ?_⟩
 rcases Nat.lt_or_ge j i with h1 | h1
 ·exact h.2 j y h1 hy
 ·obtain rfl:j=i:=by omega
  rw [hx] at hy
  exact Option.some.inj hy▸hn
theorem QgS {g:D.Grid} {i:Nat} (h:NoBad g i) (hi:¬i<(Qb g).length) (h2:∀c,c<g.Cells.size→¬(gridOk g∧Y1 g c)):¬JM g:=by
 rintro (⟨j,s,h3,h4⟩ | ⟨c,h3,h4⟩)
 ·have:=(List.getElem?_eq_some_iff.1 h3).1
  exact h.2 j s (by omega) h3 h4
 ·exact h2 c h3 h4
def mapOf (m:List (Int×Int)) (p:Int→Prop):Prop:=∀c,(p c→Jt m c=1)∧(¬p c→Jt m c=0)
def QcZ (g:D.Grid) (i:Nat) (c:Int):Prop:=∃x∈(QJ g).take i,c∈x
theorem Qgj (g:D.Grid) (c:Int):¬QcZ g 0 c:=by rintro ⟨x,hx,_⟩;simp at hx
theorem Qf9 {g:D.Grid} {i:Nat} {x:List Int} (h:(QJ g)[i]? =some x) (c:Int):QcZ g (i+1) c↔QcZ g i c∨c∈x:=by
 unfold QcZ
 rw [List.take_add_one,h]
 constructor
 ·rintro ⟨y,hy,hc⟩
  rcases List.mem_append.1 hy with hy | hy
  ·exact .inl ⟨y,hy,hc⟩
  ·obtain rfl:=List.mem_singleton.1 hy
   exact .inr hc
 ·rintro (⟨y,hy,hc⟩ | hc)
  ·exact ⟨y,List.mem_append_left _ hy,hc⟩
  ·exact ⟨x,List.mem_append_right _ (by simp),hc⟩
theorem Qaz {g:D.Grid} {i:Nat} (h:¬i<(QJ g).length) (c:Int):QcZ g i c↔QfV g c:=by
 unfold QcZ QfV
 rw [List.take_of_length_le (by omega)]
 unfold QJ inS
 constructor
 ·rintro ⟨x,hx,hc⟩
  obtain ⟨s,hs,rfl⟩:=List.mem_map.1 hx
  exact ⟨s,hs,hc⟩
 ·rintro ⟨s,hs,hc⟩
  exact ⟨_,List.mem_map.2 ⟨s,hs,rfl⟩,hc⟩
theorem mapOf.congr {m:List (Int×Int)} {p q:Int→Prop} (h:mapOf m p) (e:∀c,p c↔q c):mapOf m q:=fun c=>by rw [← e c];exact h c
theorem mapOf.put {m:List (Int×Int)} {p:Int→Prop} {n:Int} (h:mapOf m p):mapOf (J0 m n 1) (fun c=>p c∨c=n):=fun c=>by
 rw [QeP]
 by_cases e:c=n
 ·rw [if_pos e];exact ⟨fun _=>rfl,fun h2=>absurd (.inr e) h2⟩
 ·rw [if_neg e]
  exact ⟨fun h2=>(h c).1 (h2.resolve_right e),fun h2=>(h c).2 fun h3=>h2 (.inl h3)⟩
theorem QcV {l:List Int} {i:Nat} {x:Int} (h:l[i]? =some x) (c:Int):c∈l.take (i+1)↔c∈l.take i∨c=x:=by
 rw [List.take_add_one,h]
 simp
def Jz (f:ByteArray) (c:Nat):Prop:=¬(97≤QK f c∧QK f c≤122)
def QdK (g:D.Grid) (f:ByteArray):Prop:=∃c,c<g.Cells.size∧Y1 g c∧Jz f c
instance (g:D.Grid) (f:ByteArray):Decidable (QdK g f):=Classical.propDecidable _
end
theorem QbG (n:Nat) (g:D.Grid) (hc:g.Cells.size≤maxLen):Pure (Qw Tryd.prog (n+8)) 73 [(T.agg (Qa false g))] (tB (decide (JM g))):=by
 refine Pure.intro (rs:= [ResultVar.tmp 2]) Tryd.func73 rfl rfl rfl (E0:= [(0,(T.agg (Qa false g)))]) rfl ?_
 obtain ⟨hlim,hmx,hmax⟩:=QR
 have hsl:=QZ g
 refine sr (kO (B.box (ts:=(Qa false g)) (tv (T.agg (Qa false g)) rfl) nofun rfl) (fO (OF.assign (VEv.bool false)) (nt (sr (lO (OL.loadOn (us:=(Qa false g)) (tv (T.op 0 0) rfl) rfl QO QM (lb rfl) rfl) (cO (OC.callF (r':=(T.os 4 1 0 (((Qb g).map (Qg true)).length))) (objs:= [(Obj.rows 4 ((Qb g).map (Qg true)))]) rfl (vc (tv (T.agg (Qa false g)) rfl) vn) (LendL.cons (lg Qq) ln) (Zk (n+4) g (by assumption)) rfl) (aO (T.os 4 1 0 (((Qb g).map (Qg true)).length)) rfl (nt (sq (sr (fO (OF.assign (VEv.int .i64 0)) ?_)))))))))))
 refine nt (VRun.block ?_)
 refine VRun.loop (A:=Nat) (fun s_=> [(1,(T.op 0 0)),(3,(T.os 4 1 0 (((Qb g).map (Qg true)).length))),(4,(tN s_))]) (fun s_=>Q4 [(0,(Obj.cells (Qa false g))),(1,(Obj.rows 4 ((Qb g).map (Qg true))))]) 2 (fun s_=>NoBad g s_) (fun s_=>(Qb g).length - s_) (0:Nat) ?_ (Wk.mk (fun k=>k) ?_ ?_ ?_) ?_
 ·exact NoBad.start _
 ·exact (b2 (b2 (b2 bn)))
 ·exact (b3 (b3 bn))
 ·exact nd rfl
 rintro i (hI':NoBad g i)
 show VRun _ _ _ [(1,(T.op 0 0)),(3,(T.os 4 1 0 (((Qb g).map (Qg true)).length))),(4,(tN i))] (Q4 [(0,(Obj.cells (Qa false g))),(1,(Obj.rows 4 ((Qb g).map (Qg true))))]) 2 _
 have hI1:=hI'.1
 have hNB:=hI'
 have hub:=QgL g ((i:Nat):Int)
 refine sq (sr (mO (tN i) rfl (mO (T.os 4 1 0 (((Qb g).map (Qg true)).length)) rfl (lO (B.lenO (m:=(Qb g).length) (tv (T.os 4 1 0 (((Qb g).map (Qg true)).length)) rfl) Jl (List.length_map ..)) (fO (Zx (tv (tN i) rfl) (tv (tN ((Qb g).length)) rfl)) (nt ?_))))))
 refine cd (i<(Qb g).length) rfl (fun fhc0=> ?_) fun fhc0=> ?_
 ·refine sk ?_
  refine tn (sq (VRun.block (sq (VRun.draw (B:= [[],[],[1,0],[0,1,2],[],[],[5,4],[4,5,6],[6,5,4,7],[7,4,5,6,8,2,1,0,3]]) (by kernel_rfl) (by kernel_rfl) (lD (OL.loadOn (us:=(Qa false g)) (tv (T.op 0 0) rfl) rfl QO QM (lb rfl) rfl) rfl rfl (mD (tN i) rfl rfl (VRunD.quiet (bi:= [1,0]) rfl VWant.always rfl rfl rfl bn (cS (vc (tv (T.agg (Qa false g)) rfl) (vc (tv (tN i) rfl) vn)) (LendL.cons (lg Qq) (lp rfl ln)) (J7 (n+0) g ((i:Nat):Int) (by assumption)) rfl rfl) (fD (B.mul (n:=(2*unG g ((i:Nat):Int))) (VEv.int .i64 2) (tv (tI (unG g ((i:Nat):Int))) rfl) (by (rw [Qz (by omega)];done))) rfl rfl (mD (T.os 4 1 0 (((Qb g).map (Qg true)).length)) rfl rfl (mD (tN i) rfl rfl ?_))))))))))
  obtain ⟨x1,hx1⟩:∃x,(Qb g)[i]? =some x:=⟨_,List.getElem?_eq_getElem (by omega)⟩
  refine fD (B.indexAddrO (i:=i) (tv (T.os 4 1 0 (((Qb g).map (Qg true)).length)) rfl) (tv (tN i) rfl) rfl (by (simp only [List.length_map];omega)) Jl Zr Qcs) rfl rfl (fD (OF.fieldAddrP (tv (T.orp 4 1 i 0) rfl) Qao) rfl rfl (lD (OL.loadP1 (t:=(tI x1.Length)) (row:=(Qg true x1)) (tv (T.orp 4 1 i 3) rfl) rfl (QA _ hx1) rfl rfl Zo) rfl rfl (fD (xgt (tv (tI (2*unG g ((i:Nat):Int))) rfl) (tv (tI x1.Length) rfl)) rfl rfl (VRunD.nil (tn ?_)))))
  refine cd (x1.Length<(2*unG g ((i:Nat):Int))) rfl (fun fhc1=> ?_) fun fhc1=> ?_
  ·have q1:QbJ g i x1:=by unfold QbJ;omega
   refine sr (fO (OF.assign (VEv.bool true)) (nt (rt (vinB.r (tr (tr (vinB.r (tr (vb (b':=true) rfl ?_)))))))))
   symm;rw [decide_eq_true_eq];exact .inl ⟨i,x1,hx1,q1⟩
  have q1:¬QbJ g i x1:=by unfold QbJ;omega
  refine sk (vinB.n (tn (VRun.region (mO (tN i) rfl (fO (QF (tv (tN i) rfl) (VEv.int .i64 1) (by omega)) (aO (tN (i+1)) rfl (VRunO.nil (tn ?_))))))))
  refine ⟨(i+1:Nat),?_,?_,Wk.mk (fun k=>k) ?_ ?_ ?_⟩
  ·exact hI'.next hx1 q1
  ·omega
  ·exact (b2 (b2 (b2 bn)))
  ·exact (b3 (b3 bn))
  ·exact nd rfl
 refine VRun.exit (vthn.e (vthn.e (vinB.e (tn (sq (sr (fO (OF.assign (VEv.int .i64 0)) (nt (VRun.block ?_)))))))))
 refine VRun.loop (A:=Nat) (fun s_=> [(1,(T.op 0 0)),(5,(tN s_))]) (fun s_=>Q4 [(0,(Obj.cells (Qa false g)))]) 1 (fun s_=>s_≤g.Cells.size∧∀c,c<s_→¬(gridOk g∧Y1 g c)) (fun s_=>g.Cells.size - s_) (0:Nat) ?_ (Wk.mk (fun k=>k) ?_ ?_ ?_) ?_
 ·exact ⟨Nat.zero_le _,fun c hc=>by omega⟩
 ·exact (b2 (b2 bn))
 ·exact (b3 bn)
 ·exact nd rfl
 rintro k (hI':k≤g.Cells.size∧∀c,c<k→¬(gridOk g∧Y1 g c))
 show VRun _ _ _ [(1,(T.op 0 0)),(5,(tN k))] (Q4 [(0,(Obj.cells (Qa false g)))]) 1 _
 have hJ1:=hI'.1
 refine sq (sr (mO (tN k) rfl (lf (tS g.Cells) rfl QC rfl rfl ZX (lO (B.lenS (tv (tS g.Cells) rfl) U9) (fO (Zx (tv (tN k) rfl) (tv (tN g.Cells.size) rfl)) (nt ?_))))))
 refine cd (k<g.Cells.size) rfl (fun fhc2=> ?_) fun fhc2=> ?_
 ·refine sk ?_
  refine tn (sq (VRun.block (sr (lO (OL.loadOn (us:=(Qa false g)) (tv (T.op 0 0) rfl) rfl QO QM (lb rfl) rfl) (mO (tN k) rfl (cO (cS (vc (tv (T.agg (Qa false g)) rfl) (vc (tv (tN k) rfl) vn)) (LendL.cons (lg Qq) (lp rfl ln)) (Qct (n+4) g ((k:Nat):Int) (by assumption)) rfl rfl) (mO (tB (decide (gridOk g∧(0≤((k:Nat):Int)∧((k:Nat):Int)≤((g.Cells.size:Nat):Int) - 1)∧QK g.Cells (Int.toNat ((k:Nat):Int))=46))) rfl ?_)))))))
  refine gw (gridOk g∧(0≤((k:Nat):Int)∧((k:Nat):Int)≤((g.Cells.size:Nat):Int) - 1)∧QK g.Cells (Int.toNat ((k:Nat):Int))=46) (fun fhg34_1=> ?_) fun fhg34_1=> ?_
  ·refine gL (dy fhg34_1) rfl rfl (OL.loadOn (us:=(Qa false g)) (tv (T.op 0 0) rfl) rfl QO QM (lb rfl) rfl) ?_
   refine gF (dy fhg34_1) rfl rfl (OF.move (tv (tN k) rfl)) (VRunO.chain (VWant.on rfl rfl (dy fhg34_1)) (OC.callF (r':=(T.os 1 1 0 (((Zz g ((k:Nat):Int) (Qb g).length).map (Ql true)).length))) (objs:= [(Obj.rows 1 ((Zz g ((k:Nat):Int) (Qb g).length).map (Ql true)))]) rfl (vc (tv (T.agg (Qa false g)) rfl) (vc (tv (tN k) rfl) vn)) (LendL.cons (lg Qq) (lp rfl ln)) (Jr (n+2) g ((k:Nat):Int) (by assumption)) rfl) (gL (dy fhg34_1) rfl rfl (B.lenO (m:=(Zz g ((k:Nat):Int) (Qb g).length).length) (tv (T.os 1 1 0 (((Zz g ((k:Nat):Int) (Qb g).length).map (Ql true)).length)) rfl) JY (List.length_map ..)) (gF (dy fhg34_1) rfl rfl (B.eql (c:=(decide ((Zz g ((k:Nat):Int) (Qb g).length).length=0))) (tv (tN ((Zz g ((k:Nat):Int) (Qb g).length).length)) rfl) (VEv.int .i64 0) (Zb (by omega))) (fO (OF.pickT (VEv.tmpB rfl (dy fhg34_1)) (tv (tB (decide ((Zz g ((k:Nat):Int) (Qb g).length).length=0))) rfl)) (nt ?_)))))
   refine cd ((Zz g ((k:Nat):Int) (Qb g).length).length=0) rfl (fun fhc3=> ?_) fun fhc3=> ?_
   ·refine sr ?_
    refine fO (OF.assign (VEv.bool true)) (nt (rt (vinB.r (tr (tr (vinB.r (tr (vb (b':=true) rfl ?_))))))))
    symm;rw [decide_eq_true_eq];exact .inr ⟨k,fhc2,fhg34_1.1,fhg34_1.2.2,atG_none.1 fhc3⟩
   refine sk (vinB.n (tn (VRun.region (mO (tN k) rfl (fO (QF (tv (tN k) rfl) (VEv.int .i64 1) (by omega)) (aO (tN (k+1)) rfl (VRunO.nil (tn ?_))))))))
   refine ⟨(k+1:Nat),?_,?_,Wk.mk (fun k=>k) ?_ ?_ ?_⟩
   ·exact Yh (ok:=fun c=>¬(gridOk g∧Y1 g c)) hI' fhc2 (fun h=>fhc3 (atG_none.2 h.2.2))
   ·omega
   ·exact (b2 (b2 bn))
   ·exact (b3 bn)
   ·exact nd rfl
  refine QY 5 3 true 34 (dz fhg34_1) rfl rfl rfl (fO (OF.pickF (VEv.tmpB rfl (dz fhg34_1)) (VEv.bool false)) (nt (cf rfl (sk (vinB.n (tn (VRun.region (mO (tN k) rfl (fO (QF (tv (tN k) rfl) (VEv.int .i64 1) (by omega)) (aO (tN (k+1)) rfl (VRunO.nil ?_)))))))))))
  refine tn ?_
  refine ⟨(k+1:Nat),?_,?_,Wk.mk (fun k=>k) ?_ ?_ ?_⟩
  ·exact Yh (ok:=fun c=>¬(gridOk g∧Y1 g c)) hI' fhc2 (fun h=>fhg34_1 ⟨h.1,⟨by omega,by omega⟩,h.2.1⟩)
  ·omega
  ·exact (b2 (b2 bn))
  ·exact (b3 bn)
  ·exact nd rfl
 refine VRun.exit (vthn.e (vthn.e (vinB.e (tn (sr (fO (OF.assign (VEv.bool false)) (nt (rt (vb (b':=false) rfl ?_)))))))))
 symm;rw [decide_eq_false_iff_not];exact QgS hNB fhc0 (Qfl (ok:=fun c=>¬(gridOk g∧Y1 g c)) hI' fhc2)
theorem QdH (n:Nat) (g:D.Grid) (f:ByteArray) (hc:g.Cells.size≤maxLen) (hf:g.Cells.size≤f.size):Pure (Qw Tryd.prog (n+5)) 79 [(T.agg (Qa false g)),(tS f)] (tB (decide (QdK g f))):=by
 refine Pure.intro (rs:= [ResultVar.tmp 4]) Tryd.func79 rfl rfl rfl (E0:= [(0,(T.agg (Qa false g))),(1,(tS f))]) rfl ?_
 obtain ⟨hlim,hmx,hmax⟩:=QR
 have hsl:=QZ g
 have hll:=QaG g
 refine sr (kO (B.box (ts:=(Qa false g)) (tv (T.agg (Qa false g)) rfl) nofun rfl) (fO (OF.assign (VEv.bool false)) (nt (sr (kO B.makeMap (aO (T.om 1) rfl (nt (sq (sr (lO (OL.loadOn (us:=(Qa false g)) (tv (T.op 0 0) rfl) rfl QO QM (lb rfl) rfl) (cO (OC.callF (r':=(T.os 1 2 0 (((QJ g).map ((Yd 1 Ql) true)).length))) (objs:= [(Obj.rows 1 ((QJ g).map ((Yd 1 Ql) true)))]) rfl (vc (tv (T.agg (Qa false g)) rfl) vn) (LendL.cons (lg Qq) ln) (YO (n+0) g (by assumption)) rfl) ?_)))))))))))
 refine lO (B.lenO (m:=(QJ g).length) (tv (T.os 1 2 0 (((QJ g).map ((Yd 1 Ql) true)).length)) rfl) QdJ (List.length_map ..)) (fO (OF.move (VEv.int .i64 0)) (nt (VRun.block (VRun.wk (Wk.freeze (sz:=1) (k:=2) (rows':=((QJ g).map ((Yd 1 Ql) false))) [13] (bc rfl bn) rfl rfl ((Qif okInt).fzMap _ _)) ?_))))
 have he1:([]:List (Int×Int))= []:=by rfl
 refine VRun.loop (A:=Nat×(List (Int×Int))) (fun s_=> [(1,(tS f)),(2,(T.op 0 0)),(4,(tB false)),(5,(T.om 1)),(13,(rd 1 (Yd 1 Ql) (QJ g))),(14,(tN ((QJ g).length))),(15,(tN s_.1))]) (fun s_=>Q4 [(0,(Obj.cells (Qa false g))),(1,(Obj.map (eM s_.2)))]) 2 (fun s_=>s_.1≤(QJ g).length∧mapOf s_.2 (QcZ g s_.1)) (fun s_=>(QJ g).length - s_.1) ((0,[]):Nat×(List (Int×Int))) ?_ (Wk.mk (fun k=>k) ?_ ?_ ?_) ?_
 ·exact ⟨Nat.zero_le _,fun c=>⟨fun h=>absurd h (Qgj g c),fun _=>rfl⟩⟩
 ·exact (b2 (b2 (b2 (b2 (b2 (b2 (b2 bn)))))))
 ·exact (b3 (bc ⟨(congrArg (fun l_=>some (Obj.map (eM l_))) he1),(lb rfl),rfl⟩ bn))
 ·exact nd rfl
 rintro ⟨i,m⟩ (hI':i≤(QJ g).length∧mapOf m (QcZ g i))
 show VRun _ _ _ [(1,(tS f)),(2,(T.op 0 0)),(4,(tB false)),(5,(T.om 1)),(13,(rd 1 (Yd 1 Ql) (QJ g))),(14,(tN ((QJ g).length))),(15,(tN i))] (Q4 [(0,(Obj.cells (Qa false g))),(1,(Obj.map (eM m)))]) 2 _
 have hI1:=hI'.1
 have hM:=hI'.2
 refine sr (fO (Zx (tv (tN i) rfl) (tv (tN ((QJ g).length)) rfl)) (nt (sq ?_)))
 refine cd (i<(QJ g).length) rfl (fun fhc0=> ?_) fun fhc0=> ?_
 ·refine sk ?_
  refine tn (sq (VRun.block (sr ?_)))
  obtain ⟨x1,hx1⟩:∃x,(QJ g)[i]? =some x:=⟨_,List.getElem?_eq_getElem (by omega)⟩
  obtain ⟨y1,hy1,hq1⟩:=Qe9 hx1
  refine fO (OF.indexAddrR (row:=((Yd 1 Ql) false x1)) (i:=i) (tv (rd 1 (Yd 1 Ql) (QJ g)) rfl) (tv (tN i) rfl) rfl (QA _ hx1) QdJ Qf8 Qja) (lO (OL.loadR1 (t:=(rd 1 Ql x1)) (tv (T.rp [(rd 1 Ql x1)]) rfl) rfl Qjl) (aO (rd 1 Ql x1) rfl (nt (sr (mO (rd 1 Ql x1) rfl (lO (B.lenR (m:=x1.length) (tv (rd 1 Ql x1) rfl) JY (List.length_map ..)) (fO (OF.move (VEv.int .i64 0)) (nt (VRun.block ?_)))))))))
  refine VRun.loop (A:=Nat×(List (Int×Int))) (fun s_=> [(1,(tS f)),(2,(T.op 0 0)),(4,(tB false)),(5,(T.om 1)),(13,(rd 1 (Yd 1 Ql) (QJ g))),(14,(tN ((QJ g).length))),(15,(tN i)),(19,(rd 1 Ql x1)),(20,(tN x1.length)),(21,(tN s_.1))]) (fun s_=>Q4 [(0,(Obj.cells (Qa false g))),(1,(Obj.map (eM s_.2)))]) 2 (fun s_=>s_.1≤x1.length∧mapOf s_.2 (fun c=>QcZ g i c∨c∈x1.take s_.1)) (fun s_=>x1.length - s_.1) ((0,m):Nat×(List (Int×Int))) ?_ (Wk.mk (fun k=>k) ?_ ?_ ?_) ?_
  ·exact ⟨Nat.zero_le _,hM.congr fun c=>by simp⟩
  ·exact (b2 (b2 (b2 (b2 (b2 (b2 (b2 (b2 (b2 (b2 bn))))))))))
  ·exact (b3 (b3 bn))
  ·exact nd rfl
  rintro ⟨k,w⟩ (hI':k≤x1.length∧mapOf w (fun c=>QcZ g i c∨c∈x1.take k))
  show VRun _ _ _ [(1,(tS f)),(2,(T.op 0 0)),(4,(tB false)),(5,(T.om 1)),(13,(rd 1 (Yd 1 Ql) (QJ g))),(14,(tN ((QJ g).length))),(15,(tN i)),(19,(rd 1 Ql x1)),(20,(tN x1.length)),(21,(tN k))] (Q4 [(0,(Obj.cells (Qa false g))),(1,(Obj.map (eM w)))]) 2 _
  have hJ1:=hI'.1
  have hl6:=QbY hy1
  rw [← hq1] at hl6
  refine sr (fO (Zx (tv (tN k) rfl) (tv (tN x1.length) rfl)) (nt (sq ?_)))
  refine cd (k<x1.length) rfl (fun fhc1=> ?_) fun fhc1=> ?_
  ·refine sk ?_
   refine tn (sq (VRun.block (sr ?_)))
   obtain ⟨x2,hx2⟩:∃x,x1[k]? =some x:=⟨_,List.getElem?_eq_getElem (by omega)⟩
   skip
   refine fO (OF.indexAddrR (row:=(Ql false x2)) (i:=k) (tv (rd 1 Ql x1) rfl) (tv (tN k) rfl) rfl (QA _ hx2) JY YK if3) (lO (OL.loadR1 (t:=(tI x2)) (tv (T.rp [(tI x2)]) rfl) rfl Zo) (aO (tI x2) rfl (nt (VRun.region (mO (T.om 1) rfl (mO (tI x2) rfl (cO (B.mapSet (l:=w) (l':=(J0 w x2 1)) (tv (T.om 1) rfl) (tv (tI x2) rfl) (VEv.int .i64 1) rfl QjA U3 rfl) (VRunO.nil (vinB.n (tn (VRun.region ?_)))))))))))
   refine fO (QF (tv (tN k) rfl) (VEv.int .i64 1) (by omega)) (mO (tN (k+1)) rfl (VRunO.nil (tn ?_)))
   refine ⟨((k+1,J0 w x2 1):Nat×(List (Int×Int))),?_,?_,Wk.mk (fun k=>k) ?_ ?_ ?_⟩
   ·exact ⟨by omega,hI'.2.put.congr fun c=>by rw [QcV hx2,or_assoc]⟩
   ·omega
   ·exact (b2 (b2 (b2 (b2 (b2 (b2 (b2 (b2 (b2 (b2 bn))))))))))
   ·exact (b3 (b3 bn))
   ·exact nd rfl
  refine VRun.exit (vthn.e (vthn.e (vinB.e (vinB.n (tn (VRun.region (fO (QF (tv (tN i) rfl) (VEv.int .i64 1) (by omega)) (mO (tN (i+1)) rfl (VRunO.nil (tn ?_))))))))))
  refine ⟨((i+1,w):Nat×(List (Int×Int))),?_,?_,Wk.mk (fun k=>k) ?_ ?_ ?_⟩
  ·exact ⟨by omega,hI'.2.congr fun c=>by rw [Qf9 hx1,List.take_of_length_le (by omega)]⟩
  ·omega
  ·exact (b2 (b2 (b2 (b2 (b2 (b2 (b2 bn)))))))
  ·exact (b3 (b3 bn))
  ·exact nd rfl
 refine VRun.exit (vthn.e (vthn.e (vinB.e (tn (sq (sr (lf (tS g.Cells) rfl QC rfl rfl ZX (lO (B.lenS (tv (tS g.Cells) rfl) U9) (fO (OF.move (VEv.int .i64 0)) (nt (VRun.block ?_)))))))))))
 refine VRun.loop (A:=Nat) (fun s_=> [(1,(tS f)),(2,(T.op 0 0)),(5,(T.om 1)),(31,(tN g.Cells.size)),(32,(tN s_))]) (fun s_=>Q4 [(0,(Obj.cells (Qa false g))),(1,(Obj.map (eM m)))]) 2 (fun s_=>s_≤g.Cells.size∧∀j,j<s_→¬(Y1 g j∧Jz f j)) (fun s_=>g.Cells.size - s_) (0:Nat) ?_ (Wk.mk (fun k=>k) ?_ ?_ ?_) ?_
 ·exact ⟨Nat.zero_le _,fun c hc=>by omega⟩
 ·exact (b2 (b2 (b2 (b2 (b2 bn)))))
 ·exact (b3 (b3 bn))
 ·exact nd rfl
 rintro c (hI':c≤g.Cells.size∧∀j,j<c→¬(Y1 g j∧Jz f j))
 show VRun _ _ _ [(1,(tS f)),(2,(T.op 0 0)),(5,(T.om 1)),(31,(tN g.Cells.size)),(32,(tN c))] (Q4 [(0,(Obj.cells (Qa false g))),(1,(Obj.map (eM m)))]) 2 _
 have hJ1:=hI'.1
 refine sr (fO (Zx (tv (tN c) rfl) (tv (tN g.Cells.size) rfl)) (nt (sq ?_)))
 refine cd (c<g.Cells.size) rfl (fun fhc2=> ?_) fun fhc2=> ?_
 ·refine sk ?_
  refine tn (sq (VRun.block (sr (mO (tN c) rfl (aO (tN c) rfl (nt (sr (lf (tS g.Cells) rfl QC rfl rfl ZX (mO (tN c) rfl ?_)))))))))
  have hb2:c<g.Cells.size:=(by omega)
  refine fO (xix (tv (tS g.Cells) rfl) (tv (tN c) rfl) hb2 U9) (fO (xeq (tv (T.int .u8 (QK g.Cells c)) rfl) (VEv.int .u8 46)) (mO (tB (decide (QK g.Cells c=46))) rfl ?_))
  refine gw (QK g.Cells c=46) (fun fhg40_3=> ?_) fun fhg40_3=> ?_
  ·refine gF (dy fhg40_3) rfl rfl (OF.move (tv (T.om 1) rfl)) ?_
   refine gF (dy fhg40_3) rfl rfl (OF.move (tv (tN c) rfl)) (gL (dy fhg40_3) rfl rfl (B.mapGet (l:=m) (n:=((c:Nat):Int)) (tv (T.om 1) rfl) (tv (tN c) rfl) rfl QjA U3 zo3) (gF (dy fhg40_3) rfl rfl (xeq (tv (tI (Jt m ((c:Nat):Int))) rfl) (VEv.int .i64 0)) (fO (OF.pickT (VEv.tmpB rfl (dy fhg40_3)) (tv (tB (decide (Jt m ((c:Nat):Int)=0))) rfl)) (mO (tB (decide (Jt m ((c:Nat):Int)=0))) rfl ?_))))
   refine gw (Jt m ((c:Nat):Int)=0) (fun fhg46_4=> ?_) fun fhg46_4=> ?_
   ·refine gF (dy fhg46_4) rfl rfl (OF.move (tv (tS f) rfl)) ?_
    refine gF (dy fhg46_4) rfl rfl (OF.move (tv (tN c) rfl)) ?_
    have hb5:c<f.size:=(by omega)
    refine gF (dy fhg46_4) rfl rfl (xix (tv (tS f) rfl) (tv (tN c) rfl) hb5 U9) (VRunO.chain (VWant.on rfl rfl (dy fhg46_4)) (cS (vc (tv (T.int .u8 (QK f c)) rfl) vn) (lps rfl) (QbT (n+3) (QK f c)) rfl rfl) (gF (dy fhg46_4) rfl rfl (ZL (tv (tB (decide (97≤(QK f c)∧(QK f c)≤122))) rfl)) (fO (OF.pickT (VEv.tmpB rfl (dy fhg46_4)) (tv (tB (!(decide (97≤(QK f c)∧(QK f c)≤122)))) rfl)) (nt ?_))))
    refine cn (97≤(QK f c)∧(QK f c)≤122) rfl (fun fhc3=> ?_) fun fhc3=> ?_
    ·refine sr ?_
     refine fO (OF.assign (VEv.bool true)) (nt (rt (vinB.r (tr (tr (vinB.r (tr (vb (b':=true) rfl ?_))))))))
     symm;rw [decide_eq_true_eq];refine ⟨c,fhc2,⟨?_,fun h=> ?_⟩,?_⟩
     ·omega
     ·have hq:=(hM ((c:Nat):Int)).1 ((Qaz fhc0 _).2 h);omega
     ·unfold Jz;omega
    refine sk (vinB.n (tn (VRun.region (fO (QF (tv (tN c) rfl) (VEv.int .i64 1) (by omega)) (mO (tN (c+1)) rfl (VRunO.nil (tn ?_)))))))
    refine ⟨(c+1:Nat),?_,?_,Wk.mk (fun k=>k) ?_ ?_ ?_⟩
    ·refine Yh (ok:=fun j=>¬(Y1 g j∧Jz f j)) hI' fhc2 ?_
     rintro ⟨⟨a1,a2⟩,a3⟩
     have hq:=(hM ((c:Nat):Int)).2 (fun h=>a2 ((Qaz fhc0 _).1 h))
     unfold Jz at a3;omega
    ·omega
    ·exact (b2 (b2 (b2 (b2 (b2 bn)))))
    ·exact (b3 (b3 bn))
    ·exact nd rfl
   refine QY 5 11 true 46 (dz fhg46_4) rfl rfl rfl (fO (OF.pickF (VEv.tmpB rfl (dz fhg46_4)) (VEv.bool false)) (nt (cf rfl (sk (vinB.n (tn (VRun.region (fO (QF (tv (tN c) rfl) (VEv.int .i64 1) (by omega)) (mO (tN (c+1)) rfl (VRunO.nil (tn ?_)))))))))))
   refine ⟨(c+1:Nat),?_,?_,Wk.mk (fun k=>k) ?_ ?_ ?_⟩
   ·refine Yh (ok:=fun j=>¬(Y1 g j∧Jz f j)) hI' fhc2 ?_
    rintro ⟨⟨a1,a2⟩,a3⟩
    have hq:=(hM ((c:Nat):Int)).2 (fun h=>a2 ((Qaz fhc0 _).1 h))
    unfold Jz at a3;omega
   ·omega
   ·exact (b2 (b2 (b2 (b2 (b2 bn)))))
   ·exact (b3 (b3 bn))
   ·exact nd rfl
  refine QY 4 5 true 40 (dz fhg40_3) rfl rfl rfl (fO (OF.pickF (VEv.tmpB rfl (dz fhg40_3)) (VEv.bool false)) (mO (tB false) rfl (QY 5 11 true 46 (b:=false) rfl rfl rfl rfl (fO (OF.pickF (tv (tB false) rfl) (VEv.bool false)) (nt (cf rfl (sk (vinB.n (tn (VRun.region (fO (QF (tv (tN c) rfl) (VEv.int .i64 1) (by omega)) ?_)))))))))))
  refine mO (tN (c+1)) rfl (VRunO.nil (tn ?_))
  refine ⟨(c+1:Nat),?_,?_,Wk.mk (fun k=>k) ?_ ?_ ?_⟩
  ·refine Yh (ok:=fun j=>¬(Y1 g j∧Jz f j)) hI' fhc2 ?_
   rintro ⟨⟨a1,a2⟩,a3⟩
   have hq:=(hM ((c:Nat):Int)).2 (fun h=>a2 ((Qaz fhc0 _).1 h))
   unfold Jz at a3;omega
  ·omega
  ·exact (b2 (b2 (b2 (b2 (b2 bn)))))
  ·exact (b3 (b3 bn))
  ·exact nd rfl
 refine VRun.exit (vthn.e (vthn.e (vinB.e (tn (sr (fO (OF.assign (VEv.bool false)) (nt (rt (vb (b':=false) rfl ?_)))))))))
 symm;rw [decide_eq_false_iff_not];rintro ⟨c,h1,h2,h3⟩;exact hI'.2 c (by omega) ⟨h2,h3⟩
end Go.Proofs.YthifchndolccgaaDoor.AE
namespace Go.Proofs.YthifchndolccgaaDoor.AE
open Go Go.RowKit
set_option linter.unusedVariables false
set_option linter.unusedSimpArgs false
set_option maxRecDepth 20000
set_option maxHeartbeats 2000000
noncomputable section
def on (s:List Bool) (j:Nat):Bool:=s[j]?.getD false
theorem Qhd {s:List Bool} {j:Nat} (h:on s j=true):j<s.length:=by
 rcases Nat.lt_or_ge j s.length with h1 | h1
 ·exact h1
 ·rw [on,List.getElem?_eq_none h1] at h;cases h
theorem Qbn {s:List Bool} {i j:Nat} (hi:i<s.length):on (s.set i true) j=(if j=i then true else on s j):=by
 unfold on
 rw [List.getElem?_set]
 by_cases h:i=j
 ·subst h;simp [hi]
 ·rw [if_neg h,if_neg (fun e=>h e.symm)]
theorem QhN {s t:List Bool} (hl:s.length=t.length) (h:∀j,on s j=true↔on t j=true):s=t:=by
 refine List.ext_getElem? fun j=> ?_
 rcases Nat.lt_or_ge j s.length with h1 | h1
 ·have h2:j<t.length:=by omega
  have h3:=h j
  unfold on at h3
  rw [List.getElem?_eq_getElem h1,List.getElem?_eq_getElem h2] at h3 ⊢
  simp only [Option.getD_some] at h3
  rw [Bool.eq_iff_iff.2 h3]
 ·rw [List.getElem?_eq_none h1,List.getElem?_eq_none (by omega)]
theorem on_no {s:List Bool} {j:Nat}:on s j=false↔¬on s j=true:=by cases on s j<;>simp
def wG (g:D.Grid):Nat:=g.Cols.toNat
def adj (g:D.Grid) (i j:Nat):Prop:=(j=i+1∧i % wG g+1<wG g)∨(i=j+1∧j % wG g+1<wG g)∨j=i+wG g∨i=j+wG g
inductive Rch (g:D.Grid) (s:List Bool):Nat→Prop
 | base {j:Nat} (h:on s j=true):Rch g s j
 | step {i j:Nat} (h:Rch g s i) (ha:adj g i j) (hj:j<s.length) (hw:QK g.Cells j=46):Rch g s j
instance (g:D.Grid) (s:List Bool) (j:Nat):Decidable (Rch g s j):=Classical.propDecidable _
def QU (g:D.Grid) (s:List Bool):List Bool:=(List.range s.length).map fun j=>decide (Rch g s j)
theorem Rch.lt {g:D.Grid} {s:List Bool} {j:Nat} (h:Rch g s j):j<s.length:=by
 cases h with
 | base h=>exact Qhd h
 | step _ _ hj _=>exact hj
theorem Qae (g:D.Grid) (s:List Bool):(QU g s).length=s.length:=by simp [QU]
theorem on_reachL {g:D.Grid} {s:List Bool} {j:Nat}:on (QU g s) j=true↔Rch g s j:=by
 unfold on QU
 rw [List.getElem?_map]
 rcases Nat.lt_or_ge j s.length with h1 | h1
 ·rw [List.getElem?_eq_getElem (by simpa using h1),List.getElem_range]
  simp
 ·rw [List.getElem?_eq_none (by simpa using h1)]
  simp only [Option.map_none,Option.getD_none,Bool.false_eq_true,false_iff]
  intro h
  have:=h.lt
  omega
def Qhp (g:D.Grid) (s:List Bool) (i:Nat):Prop:=∃j,adj g j i∧on s j=true
theorem QgW {i w:Nat} (h:0<i % w) (hw:i % w<w):(i - 1) % w+1=i % w∧1≤i:=by
 have h1:i % w≤i:=Nat.mod_le _ _
 have h2:=Nat.div_add_mod i w
 refine ⟨?_,by omega⟩
 have e:i - 1=(i % w - 1)+w*(i / w):=by omega
 rw [e,Nat.add_mul_mod_self_left,Nat.mod_eq_of_lt (by omega)]
 omega
theorem QhA {i w:Nat} (h:i % w+1<w):(i+1) % w=i % w+1:=by
 have h2:=Nat.div_add_mod i w
 have e:i+1=(i % w+1)+w*(i / w):=by omega
 rw [e,Nat.add_mul_mod_self_left,Nat.mod_eq_of_lt h]
theorem QeN {g:D.Grid} {s:List Bool} {i:Nat} (hw:2≤g.Cols) (hl:i<s.length) :
  ((((0<i % g.Cols.toNat∧on s (i - 1)=true)∨(((i % g.Cols.toNat+1:Nat):Int)<g.Cols∧on s (i+1)=true))∨(g.Cols≤((i:Nat):Int)∧on s (i - g.Cols.toNat)=true))∨(i+g.Cols.toNat<s.length∧on s (i+g.Cols.toNat)=true))↔Qhp g s i:=by
 have hm:i % g.Cols.toNat<g.Cols.toNat:=Nat.mod_lt _ (by omega)
 constructor
 ·rintro (((⟨h1,h2⟩ | ⟨h1,h2⟩) | ⟨h1,h2⟩) | ⟨h1,h2⟩)
  ·obtain ⟨h3,h4⟩:=QgW h1 hm
   exact ⟨i - 1, .inl ⟨by omega,by unfold wG;omega⟩,h2⟩
  ·exact ⟨i+1, .inr (.inl ⟨rfl,by unfold wG;omega⟩),h2⟩
  ·exact ⟨i - g.Cols.toNat, .inr (.inr (.inl (by unfold wG;omega))),h2⟩
  ·exact ⟨i+g.Cols.toNat, .inr (.inr (.inr (by unfold wG;omega))),h2⟩
 ·rintro ⟨j,(⟨h1,h2⟩ | ⟨h1,h2⟩ | h1 | h1),h3⟩
  ·refine .inl (.inl (.inl ⟨?_,by rw [show i - 1=j by omega];exact h3⟩))
   unfold wG at h2
   rw [h1,QhA h2];omega
  ·refine .inl (.inl (.inr ⟨by unfold wG at h2;omega,by rw [← h1];exact h3⟩))
  ·unfold wG at h1
   refine .inl (.inr ⟨by omega,by rw [show i - g.Cols.toNat=j by omega];exact h3⟩)
  ·unfold wG at h1
   have:=Qhd h3
   exact .inr ⟨by omega,by rw [← h1];exact h3⟩
def RS (g:D.Grid) (s0 s:List Bool):Prop:=s.length=s0.length∧(∀j,on s0 j=true→on s j=true)∧∀j,on s j=true→Rch g s0 j
theorem RS.start (g:D.Grid) (s:List Bool):RS g s s:=⟨rfl,fun _ h=>h,fun _ h=> .base h⟩
theorem RS.put {g:D.Grid} {s0 s:List Bool} {i:Nat} (h:RS g s0 s) (hi:i<s.length) (hw:QK g.Cells i=46) (hn:Qhp g s i):RS g s0 (s.set i true):=by
 obtain ⟨h1,h2,h3⟩:=h
 refine ⟨by simpa using h1,fun j hj=> ?_,fun j hj=> ?_⟩
 ·rw [Qbn hi];split
  ·rfl
  ·exact h2 j hj
 ·rw [Qbn hi] at hj
  split at hj
  ·rename_i e
   subst e
   obtain ⟨k,hk,hk2⟩:=hn
   exact .step (h3 k hk2) hk (by omega) hw
  ·exact h3 j hj
def QeJ (g:D.Grid) (s:List Bool) (i:Nat):Prop:=QK g.Cells i=46∧on s i=false∧Qhp g s i
instance (g:D.Grid) (s:List Bool) (i:Nat):Decidable (QeJ g s i):=Classical.propDecidable _
def ZO (g:D.Grid) (s:List Bool) (i:Nat):List Bool:=if QeJ g s i then s.set i true else s
def J3 (g:D.Grid) (ag:Bool) (s:List Bool) (i:Nat):Bool:=if QeJ g s i then true else ag
theorem Qg5 {g:D.Grid} {s:List Bool} {ag:Bool} {i:Nat} (h:QeJ g s i):s.set i true=ZO g s i∧true=J3 g ag s i:=⟨(if_pos h).symm,(if_pos h).symm⟩
theorem Qf0 {g:D.Grid} {s:List Bool} {ag:Bool} {i:Nat} (h:¬QeJ g s i):s=ZO g s i∧ag=J3 g ag s i:=⟨(if_neg h).symm,(if_neg h).symm⟩
def Inv1 (g:D.Grid) (s0 s:List Bool) (i:Nat) (s1:List Bool) (ag:Bool):Prop:=i≤s0.length∧RS g s0 s1∧(ag=false→s1=s∧∀j,j<i→¬QeJ g s j)∧(ag=true→s1.count false<s.count false)∧s1.count false≤s.count false
theorem Inv1.start {g:D.Grid} {s0 s:List Bool} (h:RS g s0 s):Inv1 g s0 s 0 s false:=⟨Nat.zero_le _,h,fun _=>⟨rfl,fun j hj=>by omega⟩,(fun h=>by cases h),Nat.le_refl _⟩
theorem Qa1 {s:List Bool} {i:Nat} (hi:i<s.length) (h:on s i=false):(s.set i true).count false+1=s.count false:=by
 have h2:s[i]=false:=by
  unfold on at h
  rw [List.getElem?_eq_getElem hi] at h
  exact h
 have h3:0<s.count false:=List.count_pos_iff.2 (h2▸List.getElem_mem hi)
 rw [List.count_set hi]
 simp [h2]
 omega
theorem Inv1.next {g:D.Grid} {s0 s s1:List Bool} {i:Nat} {ag:Bool} (h:Inv1 g s0 s i s1 ag) (hi:i<s1.length):Inv1 g s0 s (i+1) (ZO g s1 i) (J3 g ag s1 i):=by
 obtain ⟨h1,h2,h3,h4,h5⟩:=h
 have hl:=h2.1
 unfold ZO J3
 by_cases hw:QeJ g s1 i
 ·rw [if_pos hw,if_pos hw]
  have hc:=Qa1 hi hw.2.1
  exact ⟨by omega,h2.put hi hw.1 hw.2.2,(fun e=>by cases e),(fun _=>by omega),by omega⟩
 ·rw [if_neg hw,if_neg hw]
  refine ⟨by omega,h2,fun e=> ?_,h4,h5⟩
  obtain ⟨h6,h7⟩:=h3 e
  subst h6
  refine ⟨rfl,fun j hj=> ?_⟩
  rcases Nat.lt_or_ge j i with g1 | g1
  ·exact h7 j g1
  ·obtain rfl:j=i:=by omega
   exact hw
def Inv0 (g:D.Grid) (s0 s:List Bool) (ag:Bool):Prop:=RS g s0 s∧(ag=false→∀j,j<s0.length→¬QeJ g s j)
theorem Inv1.done {g:D.Grid} {s0 s s1:List Bool} {i:Nat} {ag:Bool} (h:Inv1 g s0 s i s1 ag) (hi:¬i<s1.length):Inv0 g s0 s1 ag:=by
 obtain ⟨h1,h2,h3,h4,h5⟩:=h
 have hl:=h2.1
 refine ⟨h2,fun e j hj=> ?_⟩
 obtain ⟨h6,h7⟩:=h3 e
 rw [h6]
 exact h7 j (by omega)
theorem Inv1.dec {g:D.Grid} {s0 s s1:List Bool} {i:Nat} {ag ag0:Bool} (h:Inv1 g s0 s i s1 ag) (h0:ag0=true):s1.count false+(if ag=true then 1 else 0)<s.count false+(if ag0=true then 1 else 0):=by
 obtain ⟨h1,h2,h3,h4,h5⟩:=h
 rw [if_pos h0]
 split
 ·rename_i e
  have:=h4 e
  omega
 ·omega
theorem Inv0.done {g:D.Grid} {s0 s:List Bool} {ag:Bool} (h:Inv0 g s0 s ag) (ha:¬ag=true):s=QU g s0:=by
 obtain ⟨⟨h1,h2,h3⟩,h4⟩:=h
 refine QhN (by rw [Qae,h1]) fun j=> ?_
 rw [on_reachL]
 refine ⟨h3 j,fun hj=> ?_⟩
 have h5:=h4 (by cases ag<;>simp_all)
 induction hj with
 | base h=>exact h2 _ h
 | step h ha hj hw ih =>
  rename_i i k
  cases hk:on s k with
  | true=>rfl
  | false=>exact absurd ⟨hw,hk,i,ha,ih⟩ (h5 k hj)
end
theorem QbH (n:Nat) (g:D.Grid) (seen:List Bool) (cell:Nat) (hg:gridOk g) (hc:cell<seen.length) (hs:seen.length=g.Cells.size):Loan (Qw Tryd.prog (n+1)) 118 1 (List.map (Qi true) seen) [(T.agg (Qa false g)),(T.os 1 0 0 ((seen.map (Qi true)).length)),(tN cell)] (T.os 1 0 0 (List.map (Qi true) (QU g (seen.set cell true))).length) (List.map (Qi true) (QU g (seen.set cell true))):=by
 refine Loan.intro (rs:= [ResultVar.tmp 6]) (j:=1) (pin:=(T.os 1 0 0 ((seen.map (Qi true)).length))) Tryd.func118 rfl rfl rfl (by kernel_rfl) rfl (.os _ _) (.os _ _) (ZG (fun _=>rfl) _) (ZG (fun _=>rfl) _) (E0:= [(0,(T.agg (Qa false g))),(1,(T.os 1 0 0 ((seen.map (Qi true)).length))),(2,(tN cell))]) rfl ?_
 obtain ⟨hlim,hmx,hmax⟩:=QR
 have hsz:=hg.size
 have hA:=hg.1
 have hB:=hg.2.1
 refine sr (kO (B.box (ts:=(Qa false g)) (tv (T.agg (Qa false g)) rfl) nofun rfl) (fO (OF.assign VEv.nils) (nt (sr (mO (T.os 1 0 0 ((seen.map (Qi true)).length)) rfl (mO (tN cell) rfl ?_))))))
 obtain ⟨x1,hx1⟩:∃x,seen[cell]? =some x:=⟨_,List.getElem?_eq_getElem (by omega)⟩
 skip
 refine fO (B.indexAddrO (i:=cell) (tv (T.os 1 0 0 ((seen.map (Qi true)).length)) rfl) (tv (tN cell) rfl) rfl (by (simp only [List.length_map];omega)) Z4 sz4 if4) (cO (B.storeP (us:= [(tB true)]) (rows':=((seen.set cell true).map (Qi true))) (row:=(Qi true x1)) (tv (T.orp 1 0 cell 0) rfl) (VEv.bool true) nofun rfl (QA _ hx1) rfl (lb rfl) if4 sz4 (bc rfl bn) (by intro r hr t ht;obtain ⟨x,_,rfl⟩:=List.mem_map.1 hr;rw [QdD] at ht;exact Zv (okBool.pl _ t ht)) (Zs rfl)) (nt (sq (sr (fO (OF.assign (VEv.bool true)) (nt (VRun.block ?_)))))))
 refine VRun.loop (A:=Bool×(List Bool)) (fun s_=> [(1,(T.os 1 1 0 ((s_.2.map (Qi true)).length))),(3,(T.op 0 0)),(6,T.nils),(7,(tB s_.1))]) (fun s_=>Q4 [(0,(Obj.cells (Qa false g))),(1,(Obj.rows 1 (s_.2.map (Qi true))))]) 2 (fun s_=>Inv0 g (seen.set cell true) s_.2 s_.1) (fun s_=>s_.2.count false+(if s_.1=true then 1 else 0)) ((true,seen.set cell true):Bool×(List Bool)) ?_ (Wk.mk (fun k=>if k=0 then 1 else if k=1 then 0 else k) ?_ ?_ ?_) ?_
 ·exact ⟨RS.start _ _,fun h=>by cases h⟩
 ·exact (bc ⟨(congrArg (fun n_=>T.os 1 0 0 n_) (show (seen.map (Qi true)).length=((seen.set cell true).map (Qi true)).length from (by (simp;done)))),rfl⟩ (b2 (b2 (b2 bn))))
 ·exact (b3 (b3 bn))
 ·exact nd rfl
 rintro ⟨ag,s⟩ (hI':Inv0 g (seen.set cell true) s ag)
 show VRun _ _ _ [(1,(T.os 1 1 0 ((s.map (Qi true)).length))),(3,(T.op 0 0)),(6,T.nils),(7,(tB ag))] (Q4 [(0,(Obj.cells (Qa false g))),(1,(Obj.rows 1 (s.map (Qi true))))]) 2 _
 have hI1:=hI'
 have hl0:s.length=g.Cells.size:=by have:=hI'.1.1;rw [List.length_set] at this;omega
 refine sq (sr (mO (tB ag) rfl (nt ?_)))
 refine VRun.cond (tv (tB ag) rfl) (fun hc0=> ?_) (fun hc0=> ?_)
 ·have fhc0:ag=true:=hc0
  refine sk (tn (VRun.block (sr (fO (OF.assign (VEv.bool false)) (nt (sr (fO (OF.assign (VEv.int .i64 0)) (nt (VRun.block ?_)))))))))
  refine VRun.loop (A:=Nat×(List Bool)×Bool) (fun s_=> [(1,(T.os 1 1 0 ((s_.2.1.map (Qi true)).length))),(3,(T.op 0 0)),(6,T.nils),(7,(tB s_.2.2)),(8,(tN s_.1))]) (fun s_=>Q4 [(0,(Obj.cells (Qa false g))),(1,(Obj.rows 1 (s_.2.1.map (Qi true))))]) 2 (fun s_=>Inv1 g (seen.set cell true) s s_.1 s_.2.1 s_.2.2) (fun s_=>s_.2.1.length - s_.1) ((0,s,false):Nat×(List Bool)×Bool) ?_ (Wk.mk (fun k=>k) ?_ ?_ ?_) ?_
  ·exact Inv1.start hI1.1
  ·exact (b2 (b2 (b2 (b2 (b2 bn)))))
  ·exact (b3 (b3 bn))
  ·exact nd rfl
  rintro ⟨i,s1,ag1⟩ (hI':Inv1 g (seen.set cell true) s i s1 ag1)
  show VRun _ _ _ [(1,(T.os 1 1 0 ((s1.map (Qi true)).length))),(3,(T.op 0 0)),(6,T.nils),(7,(tB ag1)),(8,(tN i))] (Q4 [(0,(Obj.cells (Qa false g))),(1,(Obj.rows 1 (s1.map (Qi true))))]) 2 _
  have hJ1:=hI'.1
  have hl1:s1.length=g.Cells.size:=by have:=hI'.2.1.1;rw [List.length_set] at this;omega
  refine sq (sr (mO (tN i) rfl (mO (T.os 1 1 0 ((s1.map (Qi true)).length)) rfl (lO (B.lenO (m:=s1.length) (tv (T.os 1 1 0 ((s1.map (Qi true)).length)) rfl) Z4 (List.length_map ..)) (fO (Zx (tv (tN i) rfl) (tv (tN s1.length) rfl)) (nt ?_))))))
  refine cd (i<s1.length) rfl (fun fhc1=> ?_) fun fhc1=> ?_
  ·refine sk ?_
   refine tn (sq (VRun.block (sq (sr (mO (T.os 1 1 0 ((s1.map (Qi true)).length)) rfl (mO (tN i) rfl ?_))))))
   obtain ⟨x2,hx2⟩:∃x,s1[i]? =some x:=⟨_,List.getElem?_eq_getElem (by omega)⟩
   (have e2:on s1 i=x2:=by rw [on,hx2];rfl)
   refine fO (B.indexAddrO (i:=i) (tv (T.os 1 1 0 ((s1.map (Qi true)).length)) rfl) (tv (tN i) rfl) rfl (by (simp only [List.length_map];omega)) Z4 sz4 if4) (lO (OL.loadP1 (t:=(tB x2)) (row:=(Qi true x2)) (tv (T.orp 1 1 i 0) rfl) rfl (QA _ hx2) rfl rfl st4) (mO (tB x2) rfl ?_))
   refine VRunO.joinB 6 [26,27,28,29,30] 31 (tB (decide ((x2=true)∨(¬(QK g.Cells i=46))))) ?_ ?_
   ·refine Qen x2 (fun hg25_1=> ?_) (fun hg25_1=> ?_)
    ·have fhg25_1:x2=true:=hg25_1
     refine QY 5 4 false 25 hg25_1 rfl rfl rfl (fO (OF.pickT (VEv.tmpB rfl hg25_1) (VEv.bool true)) (VRunO.nil ?_))
     exact jq (congrArg T.bool (jOT (dT _) hg25_1)) (js rfl (js rfl (js rfl (js rfl (js rfl (jn))))))
    ·have fhg25_1:x2=false:=hg25_1
     refine glf (tS g.Cells) hg25_1 rfl rfl rfl rfl QC rfl rfl ZX (gF hg25_1 rfl rfl (OF.move (tv (tN i) rfl)) ?_)
     have hb2:i<g.Cells.size:=(by omega)
     refine gF hg25_1 rfl rfl (xix (tv (tS g.Cells) rfl) (tv (tN i) rfl) hb2 U9) (gF hg25_1 rfl rfl (xne (tv (T.int .u8 (QK g.Cells i)) rfl) (VEv.int .u8 46)) (fO (OF.pickF (VEv.tmpB rfl hg25_1) (tv (tB (!(decide (QK g.Cells i=46)))) rfl)) (VRunO.nil ?_)))
     exact jq (congrArg T.bool (jOF (dT _) hg25_1 dN)) (js rfl (js rfl (js rfl (js rfl (js rfl (jn))))))
   refine nt ?_
   refine cd ((x2=true)∨(¬(QK g.Cells i=46))) rfl (fun fhc2=> ?_) fun fhc2=> ?_
   ·have q1:=Qf0 (g:=g) (s:=s1) (ag:=ag1) (i:=i) (by rintro ⟨h1,h2,h3⟩;rw [e2] at h2;rcases fhc2 with h4 | h4;rw [h2] at h4;cases h4;exact h4 h1)
    refine VRun.exit (vthn.e (vinB.e (tn (VRun.region (mO (tN i) rfl (fO (QF (tv (tN i) rfl) (VEv.int .i64 1) (by omega)) (aO (tN (i+1)) rfl (VRunO.nil (tn ?_)))))))))
    have he3:s1=(ZO g s1 i):=by exact q1.1
    refine ⟨((i+1,ZO g s1 i,J3 g ag1 s1 i):Nat×(List Bool)×Bool),?_,?_,Wk.mk (fun k=>k) ?_ ?_ ?_⟩
    ·exact hI'.next fhc1
    ·show (ZO g s1 i).length - (i+1)<s1.length - i
     have e1:(ZO g s1 i).length=s1.length:=by unfold ZO;split<;>simp
     rw [e1];omega
    ·exact (bc ⟨(congrArg (fun l_=>T.os 1 1 0 (List.map (Qi true) l_).length) he3),rfl⟩ (b2 (b2 (bc ⟨(congrArg T.bool (show ag1=(J3 g ag1 s1 i) from (by exact q1.2))),rfl⟩ (b2 bn)))))
    ·exact (b3 (bc ⟨(congrArg (fun l_=>some (Obj.rows 1 (List.map (Qi true) l_))) he3),(lb rfl),rfl⟩ bn))
    ·exact nd rfl
   refine sk (tn ?_)
   have hci:=QaF hg (show i<g.Cells.size by omega)
   obtain ⟨m,hm⟩:∃m,m=i % g.Cols.toNat:=⟨_,rfl⟩
   have hq1:0<m→1≤i:=by rw [hm];exact hci.2.1
   have hm6:m<g.Cols.toNat:=by rw [hm];exact hci.1.1
   have hq4:((m+1:Nat):Int)<g.Cols→i+1<g.Cells.size:=by rw [hm];exact hci.2.2.2.1 1
   clear hci
   refine sr (mO (tN i) rfl (lf (tI g.Cols) rfl QV rfl rfl Zo (fO (B.rem (n:=((m:Nat):Int)) (tv (tN i) rfl) (tv (tI g.Cols) rfl) (by omega) (by (rw [hm];refine Qil ?_;omega))) (aO (tN m) rfl (nt (sr (mO (tN m) rfl (fO (B.gtr (c:=(decide (0<m))) (tv (tN m) rfl) (VEv.int .i64 0) (by exact Zb (by omega))) (mO (tB (decide (0<m))) rfl ?_)))))))))
   refine VRunO.joinB 6 [39,40,41,42,43] 44 (tB (decide ((0<m)∧((s1[i - 1]?.getD false)=true)))) ?_ ?_
   ·refine gw (0<m) (fun fhg38_4=> ?_) fun fhg38_4=> ?_
    ·refine gF (dy fhg38_4) rfl rfl (OF.move (tv (T.os 1 1 0 ((s1.map (Qi true)).length)) rfl)) ?_
     refine gF (dy fhg38_4) rfl rfl (OF.move (tv (tN i) rfl)) (gF (dy fhg38_4) rfl rfl (B.sub (n:=((i - 1:Nat):Int)) (tv (tN i) rfl) (VEv.int .i64 1) (by (rw [Qz (by omega)];omega))) ?_)
     have hy5:s1[i - 1]? =some (s1[i - 1]?.getD false):=YH false (by omega)
     refine gF (dy fhg38_4) rfl rfl (B.indexAddrO (i:=i - 1) (tv (T.os 1 1 0 ((s1.map (Qi true)).length)) rfl) (tv (tN (i - 1)) rfl) rfl (by (simp only [List.length_map];omega)) Z4 sz4 if4) (gL (dy fhg38_4) rfl rfl (OL.loadP1 (t:=(tB (s1[i - 1]?.getD false))) (row:=(Qi true (s1[i - 1]?.getD false))) (tv (T.orp 1 1 (i - 1) 0) rfl) rfl (QA _ hy5) rfl rfl st4) (fO (OF.pickT (VEv.tmpB rfl (dy fhg38_4)) (tv (tB (s1[i - 1]?.getD false)) rfl)) (VRunO.nil ?_)))
     exact jq (congrArg T.bool (kAT fhg38_4 (dT _))) (js rfl (js rfl (js rfl (js rfl (js rfl (jn))))))
    ·refine QY 5 2 true 38 (dz fhg38_4) rfl rfl rfl ?_
     refine fO (OF.pickF (VEv.tmpB rfl (dz fhg38_4)) (VEv.bool false)) (VRunO.nil ?_)
     exact jq (congrArg T.bool (kAF fhg38_4)) (js rfl (js rfl (js rfl (js rfl (js rfl (jn))))))
   refine mO (tB (decide ((0<m)∧((s1[i - 1]?.getD false)=true)))) rfl ?_
   refine VRunO.joinB 13 [46,47,48,49,50,51,52,53,54,55,56,57] 58 (tB (decide (((0<m)∧((s1[i - 1]?.getD false)=true))∨(((((m+1):Nat):Int)<g.Cols)∧((s1[(i+1)]?.getD false)=true))))) ?_ ?_
   ·refine gw ((0<m)∧((s1[i - 1]?.getD false)=true)) (fun fhg45_6=> ?_) fun fhg45_6=> ?_
    ·refine QY 6 9 false 45 (dy fhg45_6) rfl rfl rfl ?_
     refine Qfy 5 15 true 51 rfl rfl rfl (oO rfl rfl (dy fhg45_6) (fO (OF.pickT (VEv.tmpB rfl (dy fhg45_6)) (VEv.bool true)) (VRunO.nil ?_)))
     exact jq (congrArg T.bool (kOT fhg45_6)) (js rfl (js rfl (js rfl (js rfl (js rfl (js rfl (js rfl (js rfl (js rfl (js rfl (js rfl (js rfl (jn)))))))))))))
    ·refine gF (dz fhg45_6) rfl rfl (OF.move (tv (tN m) rfl)) ?_
     refine gF (dz fhg45_6) rfl rfl (QF (tv (tN m) rfl) (VEv.int .i64 1) (by omega)) (glf (tI g.Cols) (dz fhg45_6) rfl rfl rfl rfl QV rfl rfl Zo (gF (dz fhg45_6) rfl rfl (xls (tv (tN (m+1)) rfl) (tv (tI g.Cols) rfl)) (gF (dz fhg45_6) rfl rfl (OF.move (tv (tB (decide ((((m+1):Nat):Int)<g.Cols))) rfl)) ?_)))
     refine VRunO.joinB 6 [52,53,54,55,56] 57 (tB (decide (((((m+1):Nat):Int)<g.Cols)∧((s1[(i+1)]?.getD false)=true)))) ?_ ?_
     ·refine gw ((((m+1):Nat):Int)<g.Cols) (fun fhg51_7=> ?_) fun fhg51_7=> ?_
      ·refine gF (dy fhg51_7) rfl rfl (OF.move (tv (T.os 1 1 0 ((s1.map (Qi true)).length)) rfl)) ?_
       refine gF (dy fhg51_7) rfl rfl (OF.move (tv (tN i) rfl)) (gF (dy fhg51_7) rfl rfl (QF (tv (tN i) rfl) (VEv.int .i64 1) (by omega)) ?_)
       have hy8:s1[(i+1)]? =some (s1[(i+1)]?.getD false):=YH false (by omega)
       refine gF (dy fhg51_7) rfl rfl (B.indexAddrO (i:=(i+1)) (tv (T.os 1 1 0 ((s1.map (Qi true)).length)) rfl) (tv (tN (i+1)) rfl) rfl (by (simp only [List.length_map];omega)) Z4 sz4 if4) (gL (dy fhg51_7) rfl rfl (OL.loadP1 (t:=(tB (s1[(i+1)]?.getD false))) (row:=(Qi true (s1[(i+1)]?.getD false))) (tv (T.orp 1 1 (i+1) 0) rfl) rfl (QA _ hy8) rfl rfl st4) (gF (dz fhg45_6) rfl rfl (OF.pickT (VEv.tmpB rfl (dy fhg51_7)) (tv (tB (s1[(i+1)]?.getD false)) rfl)) (VRunO.nil ?_)))
       exact jq (congrArg T.bool (kAT fhg51_7 (dT _))) (js rfl (js rfl (js rfl (js rfl (js rfl (jn))))))
      ·refine QY 5 15 true 51 (dz fhg51_7) rfl rfl rfl ?_
       refine gF (dz fhg45_6) rfl rfl (OF.pickF (VEv.tmpB rfl (dz fhg51_7)) (VEv.bool false)) (VRunO.nil ?_)
       exact jq (congrArg T.bool (kAF fhg51_7)) (js rfl (js rfl (js rfl (js rfl (js rfl (jn))))))
     refine fO (OF.pickF (VEv.tmpB rfl (dz fhg45_6)) (tv (tB (decide (((((m+1):Nat):Int)<g.Cols)∧((s1[(i+1)]?.getD false)=true)))) rfl)) (VRunO.nil ?_)
     exact jq (congrArg T.bool (kOF fhg45_6 rfl)) (js rfl (js rfl (js rfl (js rfl (js rfl (js rfl (js rfl (js rfl (js rfl (js rfl (js rfl (js rfl (jn)))))))))))))
   refine mO (tB (decide (((0<m)∧((s1[i - 1]?.getD false)=true))∨(((((m+1):Nat):Int)<g.Cols)∧((s1[(i+1)]?.getD false)=true))))) rfl ?_
   refine VRunO.joinB 14 [60,61,62,63,64,65,66,67,68,69,70,71,72] 73 (tB (decide ((((0<m)∧((s1[i - 1]?.getD false)=true))∨(((((m+1):Nat):Int)<g.Cols)∧((s1[(i+1)]?.getD false)=true)))∨((g.Cols≤((i:Nat):Int))∧((s1[i - g.Cols.toNat]?.getD false)=true))))) ?_ ?_
   ·refine gw (((0<m)∧((s1[i - 1]?.getD false)=true))∨(((((m+1):Nat):Int)<g.Cols)∧((s1[(i+1)]?.getD false)=true))) (fun fhg59_9=> ?_) fun fhg59_9=> ?_
    ·refine QY 5 23 false 59 (dy fhg59_9) rfl rfl rfl ?_
     refine Qfy 7 28 true 64 rfl rfl rfl (oO rfl rfl (dy fhg59_9) (fO (OF.pickT (VEv.tmpB rfl (dy fhg59_9)) (VEv.bool true)) (VRunO.nil ?_)))
     exact jq (congrArg T.bool (kOT fhg59_9)) (js rfl (js rfl (js rfl (js rfl (js rfl (js rfl (js rfl (js rfl (js rfl (js rfl (js rfl (js rfl (js rfl (jn))))))))))))))
    ·refine gF (dz fhg59_9) rfl rfl (OF.move (tv (tN i) rfl)) ?_
     refine glf (tI g.Cols) (dz fhg59_9) rfl rfl rfl rfl QV rfl rfl Zo (gF (dz fhg59_9) rfl rfl (xge (tv (tN i) rfl) (tv (tI g.Cols) rfl)) (gF (dz fhg59_9) rfl rfl (OF.move (tv (tB (decide (g.Cols≤((i:Nat):Int)))) rfl)) ?_))
     refine VRunO.joinB 8 [65,66,67,68,69,70,71] 72 (tB (decide ((g.Cols≤((i:Nat):Int))∧((s1[i - g.Cols.toNat]?.getD false)=true)))) ?_ ?_
     ·refine gw (g.Cols≤((i:Nat):Int)) (fun fhg64_10=> ?_) fun fhg64_10=> ?_
      ·refine gF (dy fhg64_10) rfl rfl (OF.move (tv (T.os 1 1 0 ((s1.map (Qi true)).length)) rfl)) ?_
       refine gF (dy fhg64_10) rfl rfl (OF.move (tv (tN i) rfl)) (glf (tI g.Cols) (dy fhg64_10) rfl rfl rfl rfl QV rfl rfl Zo (gF (dy fhg64_10) rfl rfl (B.sub (n:=((i - g.Cols.toNat:Nat):Int)) (tv (tN i) rfl) (tv (tI g.Cols) rfl) (by (rw [Qz (by omega)];omega))) ?_))
       have hy11:s1[i - g.Cols.toNat]? =some (s1[i - g.Cols.toNat]?.getD false):=YH false (by omega)
       refine gF (dy fhg64_10) rfl rfl (B.indexAddrO (i:=i - g.Cols.toNat) (tv (T.os 1 1 0 ((s1.map (Qi true)).length)) rfl) (tv (tN (i - g.Cols.toNat)) rfl) rfl (by (simp only [List.length_map];omega)) Z4 sz4 if4) (gL (dy fhg64_10) rfl rfl (OL.loadP1 (t:=(tB (s1[i - g.Cols.toNat]?.getD false))) (row:=(Qi true (s1[i - g.Cols.toNat]?.getD false))) (tv (T.orp 1 1 (i - g.Cols.toNat) 0) rfl) rfl (QA _ hy11) rfl rfl st4) (gF (dz fhg59_9) rfl rfl (OF.pickT (VEv.tmpB rfl (dy fhg64_10)) (tv (tB (s1[i - g.Cols.toNat]?.getD false)) rfl)) (VRunO.nil ?_)))
       exact jq (congrArg T.bool (kAT fhg64_10 (dT _))) (js rfl (js rfl (js rfl (js rfl (js rfl (js rfl (js rfl (jn))))))))
      ·refine QY 7 28 true 64 (dz fhg64_10) rfl rfl rfl ?_
       refine gF (dz fhg59_9) rfl rfl (OF.pickF (VEv.tmpB rfl (dz fhg64_10)) (VEv.bool false)) (VRunO.nil ?_)
       exact jq (congrArg T.bool (kAF fhg64_10)) (js rfl (js rfl (js rfl (js rfl (js rfl (js rfl (js rfl (jn))))))))
     refine fO (OF.pickF (VEv.tmpB rfl (dz fhg59_9)) (tv (tB (decide ((g.Cols≤((i:Nat):Int))∧((s1[i - g.Cols.toNat]?.getD false)=true)))) rfl)) (VRunO.nil ?_)
     exact jq (congrArg T.bool (kOF fhg59_9 rfl)) (js rfl (js rfl (js rfl (js rfl (js rfl (js rfl (js rfl (js rfl (js rfl (js rfl (js rfl (js rfl (js rfl (jn))))))))))))))
   refine mO (tB (decide ((((0<m)∧((s1[i - 1]?.getD false)=true))∨(((((m+1):Nat):Int)<g.Cols)∧((s1[(i+1)]?.getD false)=true)))∨((g.Cols≤((i:Nat):Int))∧((s1[i - g.Cols.toNat]?.getD false)=true))))) rfl ?_
   refine VRunO.joinB 17 [75,76,77,78,79,80,81,82,83,84,85,86,87,88,89,90] 91 (tB (decide (((((0<m)∧((s1[i - 1]?.getD false)=true))∨(((((m+1):Nat):Int)<g.Cols)∧((s1[(i+1)]?.getD false)=true)))∨((g.Cols≤((i:Nat):Int))∧((s1[i - g.Cols.toNat]?.getD false)=true)))∨((i+g.Cols.toNat<s1.length)∧((s1[i+g.Cols.toNat]?.getD false)=true))))) ?_ ?_
   ·refine gw ((((0<m)∧((s1[i - 1]?.getD false)=true))∨(((((m+1):Nat):Int)<g.Cols)∧((s1[(i+1)]?.getD false)=true)))∨((g.Cols≤((i:Nat):Int))∧((s1[i - g.Cols.toNat]?.getD false)=true))) (fun fhg74_12=> ?_) fun fhg74_12=> ?_
    ·refine QY 8 38 false 74 (dy fhg74_12) rfl rfl rfl ?_
     refine Qfy 7 46 true 82 rfl rfl rfl (oO rfl rfl (dy fhg74_12) (fO (OF.pickT (VEv.tmpB rfl (dy fhg74_12)) (VEv.bool true)) (VRunO.nil ?_)))
     exact jq (congrArg T.bool (kOT fhg74_12)) (js rfl (js rfl (js rfl (js rfl (js rfl (js rfl (js rfl (js rfl (js rfl (js rfl (js rfl (js rfl (js rfl (js rfl (js rfl (js rfl (jn)))))))))))))))))
    ·refine gF (dz fhg74_12) rfl rfl (OF.move (tv (tN i) rfl)) ?_
     refine glf (tI g.Cols) (dz fhg74_12) rfl rfl rfl rfl QV rfl rfl Zo (gF (dz fhg74_12) rfl rfl (B.add (n:=((i+g.Cols.toNat:Nat):Int)) (tv (tN i) rfl) (tv (tI g.Cols) rfl) (by (rw [Qz (by omega)];omega))) (gF (dz fhg74_12) rfl rfl (OF.move (tv (T.os 1 1 0 ((s1.map (Qi true)).length)) rfl)) (gL (dz fhg74_12) rfl rfl (B.lenO (m:=s1.length) (tv (T.os 1 1 0 ((s1.map (Qi true)).length)) rfl) Z4 (List.length_map ..)) (gF (dz fhg74_12) rfl rfl (Zx (tv (tN (i+g.Cols.toNat)) rfl) (tv (tN s1.length) rfl)) (gF (dz fhg74_12) rfl rfl (OF.move (tv (tB (decide (i+g.Cols.toNat<s1.length))) rfl)) ?_)))))
     refine VRunO.joinB 8 [83,84,85,86,87,88,89] 90 (tB (decide ((i+g.Cols.toNat<s1.length)∧((s1[i+g.Cols.toNat]?.getD false)=true)))) ?_ ?_
     ·refine gw (i+g.Cols.toNat<s1.length) (fun fhg82_13=> ?_) fun fhg82_13=> ?_
      ·refine gF (dy fhg82_13) rfl rfl (OF.move (tv (T.os 1 1 0 ((s1.map (Qi true)).length)) rfl)) ?_
       refine gF (dy fhg82_13) rfl rfl (OF.move (tv (tN i) rfl)) (glf (tI g.Cols) (dy fhg82_13) rfl rfl rfl rfl QV rfl rfl Zo (gF (dy fhg82_13) rfl rfl (B.add (n:=((i+g.Cols.toNat:Nat):Int)) (tv (tN i) rfl) (tv (tI g.Cols) rfl) (by (rw [Qz (by omega)];omega))) ?_))
       have hy14:s1[i+g.Cols.toNat]? =some (s1[i+g.Cols.toNat]?.getD false):=YH false (by omega)
       refine gF (dy fhg82_13) rfl rfl (B.indexAddrO (i:=i+g.Cols.toNat) (tv (T.os 1 1 0 ((s1.map (Qi true)).length)) rfl) (tv (tN (i+g.Cols.toNat)) rfl) rfl (by (simp only [List.length_map];omega)) Z4 sz4 if4) (gL (dy fhg82_13) rfl rfl (OL.loadP1 (t:=(tB (s1[i+g.Cols.toNat]?.getD false))) (row:=(Qi true (s1[i+g.Cols.toNat]?.getD false))) (tv (T.orp 1 1 (i+g.Cols.toNat) 0) rfl) rfl (QA _ hy14) rfl rfl st4) (gF (dz fhg74_12) rfl rfl (OF.pickT (VEv.tmpB rfl (dy fhg82_13)) (tv (tB (s1[i+g.Cols.toNat]?.getD false)) rfl)) (VRunO.nil ?_)))
       exact jq (congrArg T.bool (kAT fhg82_13 (dT _))) (js rfl (js rfl (js rfl (js rfl (js rfl (js rfl (js rfl (jn))))))))
      ·refine QY 7 46 true 82 (dz fhg82_13) rfl rfl rfl ?_
       refine gF (dz fhg74_12) rfl rfl (OF.pickF (VEv.tmpB rfl (dz fhg82_13)) (VEv.bool false)) (VRunO.nil ?_)
       exact jq (congrArg T.bool (kAF fhg82_13)) (js rfl (js rfl (js rfl (js rfl (js rfl (js rfl (js rfl (jn))))))))
     refine fO (OF.pickF (VEv.tmpB rfl (dz fhg74_12)) (tv (tB (decide ((i+g.Cols.toNat<s1.length)∧((s1[i+g.Cols.toNat]?.getD false)=true)))) rfl)) (VRunO.nil ?_)
     exact jq (congrArg T.bool (kOF fhg74_12 rfl)) (js rfl (js rfl (js rfl (js rfl (js rfl (js rfl (js rfl (js rfl (js rfl (js rfl (js rfl (js rfl (js rfl (js rfl (js rfl (js rfl (jn)))))))))))))))))
   refine aO (tB (decide (((((0<m)∧((s1[i - 1]?.getD false)=true))∨(((((m+1):Nat):Int)<g.Cols)∧((s1[(i+1)]?.getD false)=true)))∨((g.Cols≤((i:Nat):Int))∧((s1[i - g.Cols.toNat]?.getD false)=true)))∨((i+g.Cols.toNat<s1.length)∧((s1[i+g.Cols.toNat]?.getD false)=true))))) rfl (nt (sr (mO (tB (decide (((((0<m)∧((s1[i - 1]?.getD false)=true))∨(((((m+1):Nat):Int)<g.Cols)∧((s1[(i+1)]?.getD false)=true)))∨((g.Cols≤((i:Nat):Int))∧((s1[i - g.Cols.toNat]?.getD false)=true)))∨((i+g.Cols.toNat<s1.length)∧((s1[i+g.Cols.toNat]?.getD false)=true))))) rfl (nt ?_))))
   refine cd (((((0<m)∧((s1[i - 1]?.getD false)=true))∨(((((m+1):Nat):Int)<g.Cols)∧((s1[(i+1)]?.getD false)=true)))∨((g.Cols≤((i:Nat):Int))∧((s1[i - g.Cols.toNat]?.getD false)=true)))∨((i+g.Cols.toNat<s1.length)∧((s1[i+g.Cols.toNat]?.getD false)=true))) rfl (fun fhc3=> ?_) fun fhc3=> ?_
   ·rw [hm] at fhc3
    have q1:=Qg5 (g:=g) (s:=s1) (ag:=ag1) (i:=i) ⟨by omega,on_no.2 (fun h=>fhc2 (.inl (e2.symm.trans h))),(QeN hB.1 fhc1).1 fhc3⟩
    refine sr (mO (T.os 1 1 0 ((s1.map (Qi true)).length)) rfl (mO (tN i) rfl (fO (B.indexAddrO (i:=i) (tv (T.os 1 1 0 ((s1.map (Qi true)).length)) rfl) (tv (tN i) rfl) rfl (by (simp only [List.length_map];omega)) Z4 sz4 if4) (cO (B.storeP (us:= [(tB true)]) (rows':=((s1.set i true).map (Qi true))) (row:=(Qi true x2)) (tv (T.orp 1 1 i 0) rfl) (VEv.bool true) nofun rfl (QA _ hx2) rfl (lb rfl) if4 sz4 (bc rfl bn) (by intro r hr t ht;obtain ⟨x,_,rfl⟩:=List.mem_map.1 hr;rw [QdD] at ht;exact Zv (okBool.pl _ t ht)) (Zs rfl)) (nt (VRun.region (fO (OF.assign (VEv.bool true)) (VRunO.nil (vinB.n (tn (VRun.region ?_)))))))))))
    refine mO (tN i) rfl (fO (QF (tv (tN i) rfl) (VEv.int .i64 1) (by omega)) (aO (tN (i+1)) rfl (VRunO.nil (tn ?_))))
    have he15:(s1.set i true)=(ZO g s1 i):=by exact q1.1
    refine ⟨((i+1,ZO g s1 i,J3 g ag1 s1 i):Nat×(List Bool)×Bool),?_,?_,Wk.mk (fun k=>k) ?_ ?_ ?_⟩
    ·exact hI'.next fhc1
    ·show (ZO g s1 i).length - (i+1)<s1.length - i
     have e1:(ZO g s1 i).length=s1.length:=by unfold ZO;split<;>simp
     rw [e1];omega
    ·exact (bc ⟨(congrArg (fun n_=>T.os 1 1 0 n_) (show (s1.map (Qi true)).length=((ZO g s1 i).map (Qi true)).length from (by (rw [← q1.1];simp;done)))),rfl⟩ (b2 (b2 (bc ⟨(congrArg T.bool (show true=(J3 g ag1 s1 i) from (by exact q1.2))),rfl⟩ (b2 bn)))))
    ·exact (b3 (bc ⟨(congrArg (fun l_=>some (Obj.rows 1 (List.map (Qi true) l_))) he15),(lb rfl),rfl⟩ bn))
    ·exact nd rfl
   rw [hm] at fhc3
   have q1:=Qf0 (g:=g) (s:=s1) (ag:=ag1) (i:=i) (by rintro ⟨h1,h2,h3⟩;exact fhc3 ((QeN hB.1 fhc1).2 h3))
   refine sk (vinB.n (tn (VRun.region (mO (tN i) rfl (fO (QF (tv (tN i) rfl) (VEv.int .i64 1) (by omega)) (aO (tN (i+1)) rfl (VRunO.nil (tn ?_))))))))
   have he16:s1=(ZO g s1 i):=by exact q1.1
   refine ⟨((i+1,ZO g s1 i,J3 g ag1 s1 i):Nat×(List Bool)×Bool),?_,?_,Wk.mk (fun k=>k) ?_ ?_ ?_⟩
   ·exact hI'.next fhc1
   ·show (ZO g s1 i).length - (i+1)<s1.length - i
    have e1:(ZO g s1 i).length=s1.length:=by unfold ZO;split<;>simp
    rw [e1];omega
   ·exact (bc ⟨(congrArg (fun l_=>T.os 1 1 0 (List.map (Qi true) l_).length) he16),rfl⟩ (b2 (b2 (bc ⟨(congrArg T.bool (show ag1=(J3 g ag1 s1 i) from (by exact q1.2))),rfl⟩ (b2 bn)))))
   ·exact (b3 (bc ⟨(congrArg (fun l_=>some (Obj.rows 1 (List.map (Qi true) l_))) he16),(lb rfl),rfl⟩ bn))
   ·exact nd rfl
  refine VRun.exit (vthn.e (vthn.e (vinB.e (vinB.n (tn ?_)))))
  refine ⟨((ag1,s1):Bool×(List Bool)),?_,?_,Wk.mk (fun k=>k) ?_ ?_ ?_⟩
  ·exact hI'.done fhc1
  ·exact hI'.dec fhc0
  ·exact (b2 (b2 (b2 (b2 bn))))
  ·exact (b3 (b3 bn))
  ·exact nd rfl
 have fhc0:ag=false:=hc0
 refine VRun.exit (vthn.e (vthn.e (vinB.e (tn (sr (mO (T.os 1 1 0 ((s.map (Qi true)).length)) rfl (aO (T.os 1 1 0 ((s.map (Qi true)).length)) rfl (nt (rt ?_)))))))))
 have hnew:s=QU g (seen.set cell true):=by
  exact hI'.done (by simp [fhc0])
 exact vloan.r 1 (VRes.tmp (t:=(T.os 1 1 0 ((s.map (Qi true)).length))) rfl VRes.nil) (congrArg (fun l_=>T.os 1 1 0 (List.map (Qi true) l_).length) hnew) (congrArg (fun n_=>T.os 1 1 0 n_) (show (s.map (Qi true)).length=(seen.map (Qi true)).length from (by (simp only [List.length_map,Qae,List.length_set];omega)))) rfl (congrArg (List.map (Qi true)) hnew)
end Go.Proofs.YthifchndolccgaaDoor.AE
namespace Go.Proofs.YthifchndolccgaaDoor.AE
open Go Go.RowKit
set_option linter.unusedVariables false
set_option linter.unusedSimpArgs false
set_option maxRecDepth 20000
set_option maxHeartbeats 2000000
noncomputable section
def QcT (a b:List Bool):List Bool:=List.zipWith (fun x y=>x || y) a b
def Zc (a b:List Bool) (k:Nat):List Bool:=(QcT a b).take k++a.drop k
theorem Yo {a b:List Bool} (h:b.length=a.length):(QcT a b).length=a.length:=by simp [QcT,h]
theorem Qbe {a b:List Bool} {k:Nat} (h:b.length=a.length) (hk:k≤a.length):(Zc a b k).length=a.length:=by
 unfold Zc
 rw [List.length_append,List.length_take,Yo h,List.length_drop];omega
theorem QhI {a b:List Bool} {k:Nat} {x:Bool} (h:b.length=a.length) (hk:k<a.length) (hx:(Zc a b k)[k]? =some x):x=on a k:=by
 unfold Zc at hx
 rw [List.getElem?_append_right (by rw [List.length_take,Yo h];omega),List.length_take,Yo h,Nat.min_eq_left (by omega),Nat.sub_self,List.getElem?_drop,Nat.add_zero] at hx
 rw [on,hx];rfl
theorem Qfc {a b:List Bool} (h:b.length=a.length) (j:Nat):on (QcT a b) j=(on a j || on b j):=by
 unfold on QcT
 rw [List.getElem?_zipWith]
 rcases Nat.lt_or_ge j a.length with h1 | h1
 ·rw [List.getElem?_eq_getElem h1,List.getElem?_eq_getElem (by omega)];rfl
 ·rw [List.getElem?_eq_none h1,List.getElem?_eq_none (by omega)];rfl
theorem QfD {a b:List Bool} {k:Nat} {v:Bool} (h:b.length=a.length) (hk:k<a.length) (hv:v=(on a k || on b k)):(Zc a b k).set k v=Zc a b (k+1):=by
 have hl:=Yo h
 have hu:(QcT a b)[k]? =some v:=by
  have h1:=Qfc h k
  unfold on at h1 hv
  rw [List.getElem?_eq_getElem (by omega)] at h1 ⊢
  rw [hv,← h1];rfl
 unfold Zc
 rw [List.set_append_right _ _ (by rw [List.length_take];omega),List.length_take,hl,Nat.min_eq_left (by omega),Nat.sub_self,List.drop_eq_getElem_cons hk,List.set_cons_zero,List.take_add_one,hu]
 simp
theorem Qe8 {a b:List Bool} {k:Nat} (h:b.length=a.length) (hk:¬k<a.length):Zc a b k=QcT a b:=by
 unfold Zc
 rw [List.take_of_length_le (by rw [Yo h];omega),List.drop_of_length_le (by omega),List.append_nil]
def fresh (g:D.Grid) (i:Nat):List Bool:=QU g ((List.replicate g.Cells.size false).set i true)
def QaD (g:D.Grid) (s:List Bool) (i:Nat):Prop:=QK g.Cells i=46∧on s i=false
instance (g:D.Grid) (s:List Bool) (i:Nat):Decidable (QaD g s i):=Classical.propDecidable _
def Qj (g:D.Grid):Nat→Nat×List Bool
 | 0=>(0,List.replicate g.Cells.size false)
 | i+1=>if QaD g (Qj g i).2 i then ((Qj g i).1+1,QcT (Qj g i).2 (fresh g i)) else Qj g i
theorem YZ (g:D.Grid) (i:Nat):(fresh g i).length=g.Cells.size:=by simp [fresh,Qae]
theorem Z1 (g:D.Grid):∀i,(Qj g i).2.length=g.Cells.size
 | 0=>by simp [Qj]
 | i+1=>by
  have h:=Z1 g i
  unfold Qj
  split
  ·simp only;rw [Yo (by rw [YZ,h])];exact h
  ·exact h
theorem Qbo (g:D.Grid):∀i,(Qj g i).1≤i
 | 0=>Nat.le_refl _
 | i+1=>by
  have h:=Qbo g i
  unfold Qj
  split
  ·simp only;omega
  ·omega
theorem Qa2 {g:D.Grid} {i:Nat} (h:QaD g (Qj g i).2 i):(Qj g (i+1)).1=(Qj g i).1+1∧(Qj g (i+1)).2=QcT (Qj g i).2 (fresh g i):=by
 rw [Qj,if_pos h];exact ⟨rfl,rfl⟩
theorem JJ {g:D.Grid} {i:Nat} (h:¬QaD g (Qj g i).2 i):Qj g (i+1)=Qj g i:=by
 rw [Qj,if_neg h]
def Zm (g:D.Grid):Nat:=if gridOk g then (Qj g g.Cells.size).1 else 0
theorem Qdk {g:D.Grid} {i:Nat} (h1:i≤g.Cells.size) (h2:gridOk g∨i=0) (h3:¬(i<g.Cells.size∧gridOk g)):(Qj g i).1=Zm g:=by
 unfold Zm
 by_cases hg:gridOk g
 ·rw [if_pos hg,show i=g.Cells.size by have:¬i<g.Cells.size:=fun h=>h3 ⟨h,hg⟩;omega]
 ·rw [if_neg hg,h2.resolve_left hg];rfl
theorem orB (x y:Bool):decide (x=true∨y=true)=(x || y):=by cases x<;>cases y<;>rfl
end
theorem QcC (n:Nat) (g:D.Grid) (hc:g.Cells.size≤mx):Pure (Qw Tryd.prog (n+3)) 97 [(T.agg (Qa false g))] (tN (Zm g)):=by
 refine Pure.intro (rs:= [ResultVar.tmp 2]) Tryd.func97 rfl rfl rfl (E0:= [(0,(T.agg (Qa false g)))]) rfl ?_
 obtain ⟨hlim,hmx,hmax⟩:=QR
 refine sr (kO (B.box (ts:=(Qa false g)) (tv (T.agg (Qa false g)) rfl) nofun rfl) (fO (OF.assign (VEv.int .i64 0)) (nt (sr (fO (OF.assign (VEv.int .i64 0)) (nt (sr (kO (OM.slice0 Z4 zo4 (by kernel_rfl) rfl (by rw [sz4];decide) sz4) (aO (T.os 1 1 0 0) rfl (nt (sq ?_)))))))))))
 refine sr (fO (OF.assign (VEv.int .i64 0)) (nt (VRun.block ?_)))
 have he1: []=((List.replicate 0 false).map (Qi true)):=by rfl
 refine VRun.loop (A:=Nat) (fun s_=> [(1,(T.op 0 0)),(2,(tN 0)),(3,(tN 0)),(4,(T.os 1 1 0 (((List.replicate s_ false).map (Qi true)).length))),(5,(tN s_))]) (fun s_=>Q4 [(0,(Obj.cells (Qa false g))),(1,(Obj.rows 1 ((List.replicate s_ false).map (Qi true))))]) 2 (fun s_=>s_≤g.Cells.size) (fun s_=>g.Cells.size - s_) (0:Nat) ?_ (Wk.mk (fun k=>k) ?_ ?_ ?_) ?_
 ·(simp;done)
 ·exact (b2 (b2 (b2 (bc ⟨(congrArg (fun n_=>T.os 1 1 0 n_) (show 0=((List.replicate 0 false).map (Qi true)).length from (by rfl))),rfl⟩ (b2 bn)))))
 ·exact (b3 (bc ⟨(congrArg (fun l_=>some (Obj.rows 1 l_)) he1),(lb rfl),rfl⟩ bn))
 ·exact nd rfl
 rintro k (hI':k≤g.Cells.size)
 show VRun _ _ _ [(1,(T.op 0 0)),(2,(tN 0)),(3,(tN 0)),(4,(T.os 1 1 0 (((List.replicate k false).map (Qi true)).length))),(5,(tN k))] (Q4 [(0,(Obj.cells (Qa false g))),(1,(Obj.rows 1 ((List.replicate k false).map (Qi true))))]) 2 _
 have hK1:=hI'
 refine sq (sr (mO (tN k) rfl (lf (tS g.Cells) rfl QC rfl rfl ZX (lO (B.lenS (tv (tS g.Cells) rfl) U9) (fO (Zx (tv (tN k) rfl) (tv (tN g.Cells.size) rfl)) (nt ?_))))))
 refine cd (k<g.Cells.size) rfl (fun fhc0=> ?_) fun fhc0=> ?_
 ·refine sk ?_
  refine tn (sq (VRun.block (VRun.region (mO (T.os 1 1 0 (((List.replicate k false).map (Qi true)).length)) rfl (kO (OM.buildSlice (l:= [(tB false)]) (VEvp.cons (VEv.bool false) VEvp.nil) rfl (by decide) (bc (nofun) bn) (bc ((bc (rfl) bn)) bn) (bc (rfl) bn) Z4 zo4 (by kernel_rfl) rfl (by rw [sz4];decide) sz4 (Nat.le_of_ble_eq_true rfl)) (cO (B.append (rows:=((List.replicate k false).map (Qi true))) (rows2:= [[(tB false)]]) (rows3:=((List.replicate k false++ [false]).map (Qi true))) (VDst.own (tv (T.os 1 1 0 (((List.replicate k false).map (Qi true)).length)) rfl) rfl rfl) (VSrc.own (tv (T.os 1 2 0 1) rfl) rfl rfl Z4 (bc (bc rfl bn) bn)) (by decide) Z4 sz4 (by decide) zo4 rfl (of_decide_eq_true (by kernel_rfl)) (by (simp only [List.length_map,List.length_append,List.length_cons,List.length_nil,List.length_replicate,List.length_set,List.length_drop,List.length_take,Z7] at *;omega)) ((List.map_append (f:=Qi true) (l₁:=List.replicate k false) (l₂:= [false])).symm)) (aO (T.os 1 3 0 (((List.replicate k false++ [false]).map (Qi true)).length)) rfl (VRunO.nil (vinB.n (tn (VRun.region ?_)))))))))))
  refine mO (tN k) rfl (fO (QF (tv (tN k) rfl) (VEv.int .i64 1) (by omega)) (aO (tN (k+1)) rfl (VRunO.nil (tn ?_))))
  have he2:(List.replicate k false++ [false])=List.replicate (k+1) false:=by rw [List.replicate_succ']
  refine ⟨(k+1:Nat),?_,?_,Wk.mk (fun k=>if k=1 then 3 else k) ?_ ?_ ?_⟩
  ·trivial
  ·omega
  ·exact (b2 (b2 (b2 (bc ⟨(congrArg (fun l_=>T.os 1 3 0 (List.map (Qi true) l_).length) he2),rfl⟩ (b2 bn)))))
  ·exact (b3 (bc ⟨(congrArg (fun l_=>some (Obj.rows 1 (List.map (Qi true) l_))) he2),(lb rfl),rfl⟩ bn))
  ·exact nd rfl
 refine VRun.exit (vthn.e (vthn.e (vinB.e (tn (sq (sr (fO (OF.assign (VEv.int .i64 0)) (nt (VRun.block ?_)))))))))
 have he3:List.replicate k false=(Qj g 0).2:=by (show List.replicate k false=List.replicate g.Cells.size false;rw [show k=g.Cells.size by omega])
 refine VRun.loop (A:=Nat) (fun s_=> [(1,(T.op 0 0)),(2,(tN 0)),(3,(tN ((Qj g s_).1))),(4,(T.os 1 1 0 ((((Qj g s_).2).map (Qi true)).length))),(6,(tN s_))]) (fun s_=>Q4 [(0,(Obj.cells (Qa false g))),(1,(Obj.rows 1 (((Qj g s_).2).map (Qi true))))]) 2 (fun s_=>s_≤g.Cells.size∧(gridOk g∨s_=0)) (fun s_=>g.Cells.size - s_) (0:Nat) ?_ (Wk.mk (fun k=>k) ?_ ?_ ?_) ?_
 ·exact ⟨Nat.zero_le _, .inr rfl⟩
 ·exact (b2 (b2 (bc ⟨(congrArg (T.int .i64) (show 0=(((Qj g 0).1:Nat):Int) from (by rfl))),rfl⟩ (bc ⟨(congrArg (fun l_=>T.os 1 1 0 (List.map (Qi true) l_).length) he3),rfl⟩ (b2 bn)))))
 ·exact (b3 (bc ⟨(congrArg (fun l_=>some (Obj.rows 1 (List.map (Qi true) l_))) he3),(lb rfl),rfl⟩ bn))
 ·exact nd rfl
 rintro i (hI':i≤g.Cells.size∧(gridOk g∨i=0))
 show VRun _ _ _ [(1,(T.op 0 0)),(2,(tN 0)),(3,(tN ((Qj g i).1))),(4,(T.os 1 1 0 ((((Qj g i).2).map (Qi true)).length))),(6,(tN i))] (Q4 [(0,(Obj.cells (Qa false g))),(1,(Obj.rows 1 (((Qj g i).2).map (Qi true))))]) 2 _
 have hI1:=hI'.1
 have hpl:=Z1 g i
 have hpn:=Qbo g i
 refine sq (sr (mO (tN i) rfl (lf (tS g.Cells) rfl QC rfl rfl ZX (lO (B.lenS (tv (tS g.Cells) rfl) U9) (fO (Zx (tv (tN i) rfl) (tv (tN g.Cells.size) rfl)) (mO (tB (decide (i<g.Cells.size))) rfl ?_))))))
 refine VRunO.joinB 3 [27,28] 29 (tB (decide ((i<g.Cells.size)∧(gridOk g)))) ?_ ?_
 ·refine gw (i<g.Cells.size) (fun fhg26_4=> ?_) fun fhg26_4=> ?_
  ·refine gL (dy fhg26_4) rfl rfl (OL.loadOn (us:=(Qa false g)) (tv (T.op 0 0) rfl) rfl QO QM (lb rfl) rfl) ?_
   refine VRunO.chain (VWant.on rfl rfl (dy fhg26_4)) (cS (vc (tv (T.agg (Qa false g)) rfl) vn) (LendL.cons (lg Qq) ln) (Zi (n+0) g (by omega)) rfl rfl) (fO (OF.pickT (VEv.tmpB rfl (dy fhg26_4)) (tv (tB (decide (gridOk g))) rfl)) (VRunO.nil ?_))
   exact jq (congrArg T.bool (kAT fhg26_4 rfl)) (js rfl (js rfl (jn)))
  ·refine QY 2 5 true 26 (dz fhg26_4) rfl rfl rfl ?_
   refine fO (OF.pickF (VEv.tmpB rfl (dz fhg26_4)) (VEv.bool false)) (VRunO.nil ?_)
   exact jq (congrArg T.bool (kAF fhg26_4)) (js rfl (js rfl (jn)))
 refine nt ?_
 refine cd ((i<g.Cells.size)∧(gridOk g)) rfl (fun fhc1=> ?_) fun fhc1=> ?_
 ·refine sk ?_
  refine tn (sq (VRun.block (sr (lf (tS g.Cells) rfl QC rfl rfl ZX (mO (tN i) rfl ?_)))))
  have hb5:i<g.Cells.size:=(by omega)
  refine fO (xix (tv (tS g.Cells) rfl) (tv (tN i) rfl) hb5 U9) (fO (xeq (tv (T.int .u8 (QK g.Cells i)) rfl) (VEv.int .u8 46)) (mO (tB (decide (QK g.Cells i=46))) rfl ?_))
  refine VRunO.joinB 6 [38,39,40,41,42] 43 (tB (decide ((QK g.Cells i=46)∧((!(((Qj g i).2)[i]?.getD false))=true)))) ?_ ?_
  ·refine gw (QK g.Cells i=46) (fun fhg37_6=> ?_) fun fhg37_6=> ?_
   ·refine gF (dy fhg37_6) rfl rfl (OF.move (tv (T.os 1 1 0 ((((Qj g i).2).map (Qi true)).length)) rfl)) ?_
    refine gF (dy fhg37_6) rfl rfl (OF.move (tv (tN i) rfl)) ?_
    have hy7:((Qj g i).2)[i]? =some (((Qj g i).2)[i]?.getD false):=YH false (by omega)
    refine gF (dy fhg37_6) rfl rfl (B.indexAddrO (i:=i) (tv (T.os 1 1 0 ((((Qj g i).2).map (Qi true)).length)) rfl) (tv (tN i) rfl) rfl (by (simp only [List.length_map];omega)) Z4 sz4 if4) (gL (dy fhg37_6) rfl rfl (OL.loadP1 (t:=(tB (((Qj g i).2)[i]?.getD false))) (row:=(Qi true (((Qj g i).2)[i]?.getD false))) (tv (T.orp 1 1 i 0) rfl) rfl (QA _ hy7) rfl rfl st4) (gF (dy fhg37_6) rfl rfl (ZL (tv (tB (((Qj g i).2)[i]?.getD false)) rfl)) (fO (OF.pickT (VEv.tmpB rfl (dy fhg37_6)) (tv (tB (!(((Qj g i).2)[i]?.getD false))) rfl)) (VRunO.nil ?_))))
    exact jq (congrArg T.bool (kAT fhg37_6 (dT _))) (js rfl (js rfl (js rfl (js rfl (js rfl (jn))))))
   ·refine QY 5 5 true 37 (dz fhg37_6) rfl rfl rfl ?_
    refine fO (OF.pickF (VEv.tmpB rfl (dz fhg37_6)) (VEv.bool false)) (VRunO.nil ?_)
    exact jq (congrArg T.bool (kAF fhg37_6)) (js rfl (js rfl (js rfl (js rfl (js rfl (jn))))))
  refine nt ?_
  refine cd ((QK g.Cells i=46)∧((!(((Qj g i).2)[i]?.getD false))=true)) rfl (fun fhc2=> ?_) fun fhc2=> ?_
  ·have q0:QaD g (Qj g i).2 i:=⟨fhc2.1,by simpa [on] using fhc2.2⟩
   have q1:=Qa2 q0
   have hgs:=fhc1.2.size
   refine sr (mO (tN ((Qj g i).1)) rfl (fO (QF (tv (tN ((Qj g i).1)) rfl) (VEv.int .i64 1) (by omega)) (aO (tN ((Qj g i).1+1)) rfl (nt (sr (kO (OM.slice0 Z4 zo4 (by kernel_rfl) rfl (by rw [sz4];decide) sz4) (aO (T.os 1 2 0 0) rfl (nt (sq (sr (fO (OF.assign (VEv.int .i64 0)) ?_)))))))))))
   refine nt (VRun.block ?_)
   have he8: []=((List.replicate 0 false).map (Qi true)):=by rfl
   refine VRun.loop (A:=Nat) (fun s_=> [(1,(T.op 0 0)),(2,(tN 0)),(3,(tN ((Qj g i).1+1))),(4,(T.os 1 1 0 ((((Qj g i).2).map (Qi true)).length))),(6,(tN i)),(7,(T.os 1 2 0 (((List.replicate s_ false).map (Qi true)).length))),(8,(tN s_))]) (fun s_=>Q4 [(0,(Obj.cells (Qa false g))),(1,(Obj.rows 1 (((Qj g i).2).map (Qi true)))),(2,(Obj.rows 1 ((List.replicate s_ false).map (Qi true))))]) 3 (fun s_=>s_≤(Qj g i).2.length) (fun s_=>(Qj g i).2.length - s_) (0:Nat) ?_ (Wk.mk (fun k=>k) ?_ ?_ ?_) ?_
   ·(simp;done)
   ·exact (b2 (b2 (b2 (b2 (b2 (bc ⟨(congrArg (fun n_=>T.os 1 2 0 n_) (show 0=((List.replicate 0 false).map (Qi true)).length from (by rfl))),rfl⟩ (b2 bn)))))))
   ·exact (b3 (b3 (bc ⟨(congrArg (fun l_=>some (Obj.rows 1 l_)) he8),(lb rfl),rfl⟩ bn)))
   ·exact nd rfl
   rintro k1 (hI':k1≤(Qj g i).2.length)
   show VRun _ _ _ [(1,(T.op 0 0)),(2,(tN 0)),(3,(tN ((Qj g i).1+1))),(4,(T.os 1 1 0 ((((Qj g i).2).map (Qi true)).length))),(6,(tN i)),(7,(T.os 1 2 0 (((List.replicate k1 false).map (Qi true)).length))),(8,(tN k1))] (Q4 [(0,(Obj.cells (Qa false g))),(1,(Obj.rows 1 (((Qj g i).2).map (Qi true)))),(2,(Obj.rows 1 ((List.replicate k1 false).map (Qi true))))]) 3 _
   have hK1:=hI'
   refine sq (sr (mO (tN k1) rfl (mO (T.os 1 1 0 ((((Qj g i).2).map (Qi true)).length)) rfl (lO (B.lenO (m:=((Qj g i).2).length) (tv (T.os 1 1 0 ((((Qj g i).2).map (Qi true)).length)) rfl) Z4 (List.length_map ..)) (fO (Zx (tv (tN k1) rfl) (tv (tN (((Qj g i).2).length)) rfl)) (nt ?_))))))
   refine cd (k1<((Qj g i).2).length) rfl (fun fhc3=> ?_) fun fhc3=> ?_
   ·refine sk ?_
    refine tn (sq (VRun.block (VRun.region (mO (T.os 1 2 0 (((List.replicate k1 false).map (Qi true)).length)) rfl (kO (OM.buildSlice (l:= [(tB false)]) (VEvp.cons (VEv.bool false) VEvp.nil) rfl (by decide) (bc (nofun) bn) (bc ((bc (rfl) bn)) bn) (bc (rfl) bn) Z4 zo4 (by kernel_rfl) rfl (by rw [sz4];decide) sz4 (Nat.le_of_ble_eq_true rfl)) (cO (B.append (rows:=((List.replicate k1 false).map (Qi true))) (rows2:= [[(tB false)]]) (rows3:=((List.replicate k1 false++ [false]).map (Qi true))) (VDst.own (tv (T.os 1 2 0 (((List.replicate k1 false).map (Qi true)).length)) rfl) rfl rfl) (VSrc.own (tv (T.os 1 3 0 1) rfl) rfl rfl Z4 (bc (bc rfl bn) bn)) (by decide) Z4 sz4 (by decide) zo4 rfl (of_decide_eq_true (by kernel_rfl)) (by (simp only [List.length_map,List.length_append,List.length_cons,List.length_nil,List.length_replicate,List.length_set,List.length_drop,List.length_take,Z7] at *;omega)) ((List.map_append (f:=Qi true) (l₁:=List.replicate k1 false) (l₂:= [false])).symm)) (aO (T.os 1 4 0 (((List.replicate k1 false++ [false]).map (Qi true)).length)) rfl (VRunO.nil (vinB.n (tn (VRun.region ?_)))))))))))
    refine mO (tN k1) rfl (fO (QF (tv (tN k1) rfl) (VEv.int .i64 1) (by omega)) (aO (tN (k1+1)) rfl (VRunO.nil (tn ?_))))
    have he9:(List.replicate k1 false++ [false])=List.replicate (k1+1) false:=by rw [List.replicate_succ']
    refine ⟨(k1+1:Nat),?_,?_,Wk.mk (fun k=>if k=2 then 4 else k) ?_ ?_ ?_⟩
    ·trivial
    ·omega
    ·exact (b2 (b2 (b2 (b2 (b2 (bc ⟨(congrArg (fun l_=>T.os 1 4 0 (List.map (Qi true) l_).length) he9),rfl⟩ (b2 bn)))))))
    ·exact (b3 (b3 (bc ⟨(congrArg (fun l_=>some (Obj.rows 1 (List.map (Qi true) l_))) he9),(lb rfl),rfl⟩ bn)))
    ·exact nd rfl
   have hk6:k1=g.Cells.size:=by omega
   have hq4:(fresh g i).length=(Qj g i).2.length:=by rw [YZ,hpl]
   have hfr:QU g ((List.replicate k1 false).set i true)=fresh g i:=by rw [fresh,hk6]
   have hrl:(QU g ((List.replicate k1 false).set i true)).length=g.Cells.size:=by rw [hfr,YZ]
   refine VRun.exit (vthn.e (vthn.e (vinB.e (tn (sr (lO (OL.loadOn (us:=(Qa false g)) (tv (T.op 0 0) rfl) rfl QO QM (lb rfl) rfl) (mO (T.os 1 2 0 (((List.replicate k1 false).map (Qi true)).length)) rfl (mO (tN i) rfl (cO (OC.callLoan (ts:= [(T.agg (Qa false g)),(T.os 1 0 0 (((List.replicate k1 false).map (Qi true)).length)),(tN i)]) (k:=2) (r:=(T.os 1 0 0 (((QU g ((List.replicate k1 false).set i true)).map (Qi true)).length))) (rows:=((List.replicate k1 false).map (Qi true))) (rows':=((QU g ((List.replicate k1 false).set i true)).map (Qi true))) rfl (vc (tv (T.agg (Qa false g)) rfl) (vc (tv (T.os 1 2 0 (((List.replicate k1 false).map (Qi true)).length)) rfl) (vc (tv (tN i) rfl) vn))) rfl rfl rfl (LRes.os _ _) rfl (ZG (fun _=>rfl) _) (ZG (fun _=>rfl) _) (QbH (n+1) g (List.replicate k1 false) i (by exact fhc1.2) (by (simp only [List.length_replicate];omega)) (by (simp only [List.length_replicate];omega)))) (aO (T.os 1 2 0 (((QU g ((List.replicate k1 false).set i true)).map (Qi true)).length)) rfl (nt ?_)))))))))))
   refine sr (fO (OF.assign (VEv.int .i64 0)) (nt (VRun.block ?_)))
   have he10:(Qj g i).2=Zc (Qj g i).2 (fresh g i) 0:=by rfl
   refine VRun.loop (A:=Nat) (fun s_=> [(1,(T.op 0 0)),(2,(tN 0)),(3,(tN ((Qj g i).1+1))),(4,(T.os 1 2 0 (((Zc (Qj g i).2 (fresh g i) s_).map (Qi true)).length))),(6,(tN i)),(7,(T.os 1 1 0 (((QU g ((List.replicate k1 false).set i true)).map (Qi true)).length))),(9,(tN s_))]) (fun s_=>Q4 [(0,(Obj.cells (Qa false g))),(1,(Obj.rows 1 ((QU g ((List.replicate k1 false).set i true)).map (Qi true)))),(2,(Obj.rows 1 ((Zc (Qj g i).2 (fresh g i) s_).map (Qi true))))]) 3 (fun s_=>s_≤(Qj g i).2.length) (fun s_=>(Qj g i).2.length - s_) (0:Nat) ?_ (Wk.mk (fun k=>if k=1 then 2 else if k=2 then 1 else k) ?_ ?_ ?_) ?_
   ·(simp;done)
   ·exact (b2 (b2 (b2 (bc ⟨(congrArg (fun l_=>T.os 1 1 0 (List.map (Qi true) l_).length) he10),rfl⟩ (b2 (b2 (b2 bn)))))))
   ·exact (b3 (b3 (bc ⟨(congrArg (fun l_=>some (Obj.rows 1 (List.map (Qi true) l_))) he10),(lb rfl),rfl⟩ bn)))
   ·exact nd rfl
   rintro j (hI':j≤(Qj g i).2.length)
   show VRun _ _ _ [(1,(T.op 0 0)),(2,(tN 0)),(3,(tN ((Qj g i).1+1))),(4,(T.os 1 2 0 (((Zc (Qj g i).2 (fresh g i) j).map (Qi true)).length))),(6,(tN i)),(7,(T.os 1 1 0 (((QU g ((List.replicate k1 false).set i true)).map (Qi true)).length))),(9,(tN j))] (Q4 [(0,(Obj.cells (Qa false g))),(1,(Obj.rows 1 ((QU g ((List.replicate k1 false).set i true)).map (Qi true)))),(2,(Obj.rows 1 ((Zc (Qj g i).2 (fresh g i) j).map (Qi true))))]) 3 _
   have hJ1:=hI'
   have hzl:=Qbe hq4 hJ1
   refine sq (sr (mO (tN j) rfl (mO (T.os 1 2 0 (((Zc (Qj g i).2 (fresh g i) j).map (Qi true)).length)) rfl (lO (B.lenO (m:=(Zc (Qj g i).2 (fresh g i) j).length) (tv (T.os 1 2 0 (((Zc (Qj g i).2 (fresh g i) j).map (Qi true)).length)) rfl) Z4 (List.length_map ..)) (fO (Zx (tv (tN j) rfl) (tv (tN ((Zc (Qj g i).2 (fresh g i) j).length)) rfl)) (nt ?_))))))
   refine cd (j<(Zc (Qj g i).2 (fresh g i) j).length) rfl (fun fhc4=> ?_) fun fhc4=> ?_
   ·refine sk ?_
    refine tn (sq (VRun.block (VRun.region (mO (T.os 1 2 0 (((Zc (Qj g i).2 (fresh g i) j).map (Qi true)).length)) rfl (mO (tN j) rfl (mO (T.os 1 2 0 (((Zc (Qj g i).2 (fresh g i) j).map (Qi true)).length)) rfl (mO (tN j) rfl ?_)))))))
    obtain ⟨x1,hx1⟩:∃x,(Zc (Qj g i).2 (fresh g i) j)[j]? =some x:=⟨_,List.getElem?_eq_getElem (by omega)⟩
    have e3:x1=on (Qj g i).2 j:=QhI hq4 (by omega) hx1
    refine fO (B.indexAddrO (i:=j) (tv (T.os 1 2 0 (((Zc (Qj g i).2 (fresh g i) j).map (Qi true)).length)) rfl) (tv (tN j) rfl) rfl (by (simp only [List.length_map];omega)) Z4 sz4 if4) (lO (OL.loadP1 (t:=(tB x1)) (row:=(Qi true x1)) (tv (T.orp 1 2 j 0) rfl) rfl (QA _ hx1) rfl rfl st4) (mO (tB x1) rfl ?_))
    refine VRunO.joinB 5 [73,74,75,76] 77 (tB (decide ((x1=true)∨(((QU g ((List.replicate k1 false).set i true))[j]?.getD false)=true)))) ?_ ?_
    ·refine Qen x1 (fun hg72_11=> ?_) (fun hg72_11=> ?_)
     ·have fhg72_11:x1=true:=hg72_11
      refine QY 4 6 false 72 hg72_11 rfl rfl rfl (fO (OF.pickT (VEv.tmpB rfl hg72_11) (VEv.bool true)) (VRunO.nil ?_))
      exact jq (congrArg T.bool (jOT (dT _) hg72_11)) (js rfl (js rfl (js rfl (js rfl (jn)))))
     ·have fhg72_11:x1=false:=hg72_11
      refine gF hg72_11 rfl rfl (OF.move (tv (T.os 1 1 0 (((QU g ((List.replicate k1 false).set i true)).map (Qi true)).length)) rfl)) (gF hg72_11 rfl rfl (OF.move (tv (tN j) rfl)) ?_)
      have hy12:(QU g ((List.replicate k1 false).set i true))[j]? =some ((QU g ((List.replicate k1 false).set i true))[j]?.getD false):=YH false (by omega)
      refine gF hg72_11 rfl rfl (B.indexAddrO (i:=j) (tv (T.os 1 1 0 (((QU g ((List.replicate k1 false).set i true)).map (Qi true)).length)) rfl) (tv (tN j) rfl) rfl (by (simp only [List.length_map];omega)) Z4 sz4 if4) (gL hg72_11 rfl rfl (OL.loadP1 (t:=(tB ((QU g ((List.replicate k1 false).set i true))[j]?.getD false))) (row:=(Qi true ((QU g ((List.replicate k1 false).set i true))[j]?.getD false))) (tv (T.orp 1 1 j 0) rfl) rfl (QA _ hy12) rfl rfl st4) (fO (OF.pickF (VEv.tmpB rfl hg72_11) (tv (tB ((QU g ((List.replicate k1 false).set i true))[j]?.getD false)) rfl)) (VRunO.nil ?_)))
      exact jq (congrArg T.bool (jOF (dT _) hg72_11 (dT _))) (js rfl (js rfl (js rfl (js rfl (jn)))))
    refine fO (B.indexAddrO (i:=j) (tv (T.os 1 2 0 (((Zc (Qj g i).2 (fresh g i) j).map (Qi true)).length)) rfl) (tv (tN j) rfl) rfl (by (simp only [List.length_map];omega)) Z4 sz4 if4) (cO (B.storeP (us:= [(tB (decide ((x1=true)∨(((QU g ((List.replicate k1 false).set i true))[j]?.getD false)=true))))]) (rows':=(((Zc (Qj g i).2 (fresh g i) j).set j (decide ((x1=true)∨(((QU g ((List.replicate k1 false).set i true))[j]?.getD false)=true)))).map (Qi true))) (row:=(Qi true x1)) (tv (T.orp 1 2 j 0) rfl) (tv (tB (decide ((x1=true)∨(((QU g ((List.replicate k1 false).set i true))[j]?.getD false)=true)))) rfl) nofun rfl (QA _ hx1) rfl (lb rfl) if4 sz4 (bc rfl bn) (by intro r hr t ht;obtain ⟨x,_,rfl⟩:=List.mem_map.1 hr;rw [QdD] at ht;exact Zv (okBool.pl _ t ht)) (Zs rfl)) (VRunO.nil (vinB.n (tn (VRun.region (mO (tN j) rfl (fO (QF (tv (tN j) rfl) (VEv.int .i64 1) (by omega)) (aO (tN (j+1)) rfl (VRunO.nil (tn ?_))))))))))
    have he13:((Zc (Qj g i).2 (fresh g i) j).set j (decide ((x1=true)∨(((QU g ((List.replicate k1 false).set i true))[j]?.getD false)=true))))=Zc (Qj g i).2 (fresh g i) (j+1):=by (refine QfD hq4 (by omega) ?_;rw [e3,hfr];exact orB _ _)
    refine ⟨(j+1:Nat),?_,?_,Wk.mk (fun k=>k) ?_ ?_ ?_⟩
    ·omega
    ·omega
    ·exact (b2 (b2 (b2 (bc ⟨(congrArg (fun n_=>T.os 1 2 0 n_) (show ((Zc (Qj g i).2 (fresh g i) j).map (Qi true)).length=((Zc (Qj g i).2 (fresh g i) (j+1)).map (Qi true)).length from (by (simp only [List.length_map,List.length_set];rw [Qbe hq4 hJ1,Qbe hq4 (by omega)])))),rfl⟩ (b2 (b2 (b2 bn)))))))
    ·exact (b3 (b3 (bc ⟨(congrArg (fun l_=>some (Obj.rows 1 (List.map (Qi true) l_))) he13),(lb rfl),rfl⟩ bn)))
    ·exact nd rfl
   have hq5:¬j<(Qj g i).2.length:=by omega
   refine VRun.exit (vthn.e (vthn.e (vinB.e (vinB.n (tn (VRun.region (mO (tN i) rfl (fO (QF (tv (tN i) rfl) (VEv.int .i64 1) (by omega)) (aO (tN (i+1)) rfl (VRunO.nil (tn ?_)))))))))))
   have he14:Zc (Qj g i).2 (fresh g i) j=(Qj g (i+1)).2:=by (rw [q1.2];exact Qe8 hq4 hq5)
   refine ⟨(i+1:Nat),?_,?_,Wk.mk (fun k=>if k=1 then 2 else k) ?_ ?_ ?_⟩
   ·exact ⟨by omega, .inl fhc1.2⟩
   ·omega
   ·exact (b2 (b2 (bc ⟨(congrArg (T.int .i64) (show ((((Qj g i).1+1):Nat):Int)=(((Qj g (i+1)).1:Nat):Int) from (by omega))),rfl⟩ (bc ⟨(congrArg (fun l_=>T.os 1 2 0 (List.map (Qi true) l_).length) he14),rfl⟩ (b2 bn)))))
   ·exact (b3 (bc ⟨(congrArg (fun l_=>some (Obj.rows 1 (List.map (Qi true) l_))) he14),(lb rfl),rfl⟩ bn))
   ·exact nd rfl
  have q0:¬QaD g (Qj g i).2 i:=fun h=>fhc2 ⟨h.1,by have:=h.2;unfold on at this;rw [this];rfl⟩
  refine sk (vinB.n (tn (VRun.region (mO (tN i) rfl (fO (QF (tv (tN i) rfl) (VEv.int .i64 1) (by omega)) (aO (tN (i+1)) rfl (VRunO.nil (tn ?_))))))))
  have he15:(Qj g i).2=(Qj g (i+1)).2:=by (rw [JJ q0];done)
  refine ⟨(i+1:Nat),?_,?_,Wk.mk (fun k=>k) ?_ ?_ ?_⟩
  ·exact ⟨by omega, .inl fhc1.2⟩
  ·omega
  ·exact (b2 (b2 (bc ⟨(congrArg (T.int .i64) (show (((Qj g i).1:Nat):Int)=(((Qj g (i+1)).1:Nat):Int) from (by (rw [JJ q0];done)))),rfl⟩ (bc ⟨(congrArg (fun l_=>T.os 1 1 0 (List.map (Qi true) l_).length) he15),rfl⟩ (b2 bn)))))
  ·exact (b3 (bc ⟨(congrArg (fun l_=>some (Obj.rows 1 (List.map (Qi true) l_))) he15),(lb rfl),rfl⟩ bn))
  ·exact nd rfl
 refine VRun.exit (vthn.e (vthn.e (vinB.e (tn (sr (mO (tN ((Qj g i).1)) rfl (aO (tN ((Qj g i).1)) rfl (nt (rt (vi (n':=(((Qj g i).1:Nat):Int)) rfl ?_))))))))))
 exact congrArg (fun x:Nat=>(x:Int)) (Qdk hI1 hI'.2 fhc1)
end Go.Proofs.YthifchndolccgaaDoor.AE
namespace Go.Proofs.YthifchndolccgaaDoor.AE
open Go Go.RowKit
set_option linter.unusedVariables false
set_option linter.unusedSimpArgs false
set_option maxRecDepth 20000
set_option maxHeartbeats 2000000
noncomputable section
def inG (g:D.Grid) (r c:Int):Prop:=(0≤r∧r<g.Rows)∧(0≤c∧c<g.Cols)
def Zd (g:D.Grid) (r c:Int):Nat:=Int.toNat (r*g.Cols+c)
def QhZ (g:D.Grid) (m:List Bool) (r c:Int):Prop:=inG g r c∧QK g.Cells (Zd g r c)=46∧on m (Zd g r c)=false
instance (g:D.Grid) (m:List Bool) (r c:Int):Decidable (QhZ g m r c):=Classical.propDecidable _
def ZV : Nat→D.Grid→List Bool→Int→Int→List Bool
 | 0,_,m,_,_=>m
 | d+1,g,m,r,c=>if QhZ g m r c then ZV d g (ZV d g (ZV d g (ZV d g (m.set (Zd g r c) true) (r - 1) c) (r+1) c) r (c - 1)) r (c+1) else m
theorem QaM {g:D.Grid} {r c:Int} (hg:gridOk g) (h1:0≤r∧r<g.Rows) (h2:0≤c∧c<g.Cols):(0≤r*g.Cols∧r*g.Cols≤36)∧0≤r*g.Cols+c∧r*g.Cols+c<((g.Cells.size:Nat):Int):=by
 have hs:=hg.2.2.1
 have hz:=hg.size
 have e1:0≤r*g.Cols:=Int.mul_nonneg h1.1 (by omega)
 have e2:(r+1)*g.Cols≤g.Rows*g.Cols:=Int.mul_le_mul_of_nonneg_right (by omega) (by omega)
 rw [Int.add_mul,Int.one_mul] at e2
 omega
theorem ZP {g:D.Grid} (hg:gridOk g) (a b:Nat):Zd g ((a:Nat):Int) ((b:Nat):Int)=a*wG g+b:=by
 obtain ⟨w,hw⟩:=Int.eq_ofNat_of_zero_le (show 0≤g.Cols by have:=hg.2.1;omega)
 unfold Zd wG
 rw [hw]
 show Int.toNat (((a:Nat):Int)*((w:Nat):Int)+((b:Nat):Int))=a*w+b
 rw [← Int.natCast_mul,← Int.natCast_add,Int.toNat_natCast]
theorem Qg3 {g:D.Grid} (hg:gridOk g):g.Cells.size=g.Rows.toNat*wG g:=by
 obtain ⟨⟨a1,a2⟩,⟨b1,b2⟩,hs,_⟩:=hg
 obtain ⟨w,hw⟩:=Int.eq_ofNat_of_zero_le (show 0≤g.Cols by omega)
 obtain ⟨r,hr⟩:=Int.eq_ofNat_of_zero_le (show 0≤g.Rows by omega)
 unfold wG
 rw [hw,hr] at hs ⊢
 exact_mod_cast hs
theorem QdZ {g:D.Grid} {r c:Int} (hg:gridOk g) (h:inG g r c):∃a b:Nat,r=a∧c=b∧a<g.Rows.toNat∧b<wG g:=by
 obtain ⟨⟨h1,h2⟩,h3,h4⟩:=h
 exact ⟨r.toNat,c.toNat,by omega,by omega,by omega,by unfold wG;omega⟩
theorem QiT {g:D.Grid} {r c r' c':Int} (hg:gridOk g) (h:inG g r c) (h':inG g r' c') (hn:(r'=r∧(c'=c+1∨c'=c - 1))∨(c'=c∧(r'=r+1∨r'=r - 1))):adj g (Zd g r c) (Zd g r' c'):=by
 obtain ⟨a,b,rfl,rfl,ha,hb⟩:=QdZ hg h
 obtain ⟨a',b',rfl,rfl,ha',hb'⟩:=QdZ hg h'
 rw [ZP hg,ZP hg]
 have hm:(a*wG g+b) % wG g=b:=by rw [Nat.mul_comm,Nat.mul_add_mod,Nat.mod_eq_of_lt hb]
 have hm':(a'*wG g+b') % wG g=b':=by rw [Nat.mul_comm,Nat.mul_add_mod,Nat.mod_eq_of_lt hb']
 rcases hn with ⟨h1,h2 | h2⟩ | ⟨h1,h2 | h2⟩
 ·obtain rfl:a'=a:=by omega
  exact .inl ⟨by omega,by rw [hm];omega⟩
 ·obtain rfl:a'=a:=by omega
  exact .inr (.inl ⟨by omega,by rw [hm'];omega⟩)
 ·obtain rfl:b'=b:=by omega
  obtain rfl:a'=a+1:=by omega
  exact .inr (.inr (.inl (by rw [Nat.add_mul,Nat.one_mul];omega)))
 ·obtain rfl:b'=b:=by omega
  obtain rfl:a=a'+1:=by omega
  exact .inr (.inr (.inr (by rw [Nat.add_mul,Nat.one_mul];omega)))
theorem Qgt {g:D.Grid} {r c:Int} {y:Nat} (hg:gridOk g) (h:inG g r c) (hy:y<g.Cells.size) (ha:adj g (Zd g r c) y) :
  (inG g (r - 1) c∧y=Zd g (r - 1) c)∨(inG g (r+1) c∧y=Zd g (r+1) c)∨(inG g r (c - 1)∧y=Zd g r (c - 1))∨(inG g r (c+1)∧y=Zd g r (c+1)):=by
 have hsz:=Qg3 hg
 obtain ⟨⟨h1,h2⟩,h3,h4⟩:=h
 obtain ⟨a,b,rfl,rfl,ha',hb⟩:=QdZ hg ⟨⟨h1,h2⟩,h3,h4⟩
 rw [ZP hg] at ha
 have hm:(a*wG g+b) % wG g=b:=by rw [Nat.mul_comm,Nat.mul_add_mod,Nat.mod_eq_of_lt hb]
 have hw:((wG g:Nat):Int)=g.Cols:=by have:=hg.2.1;unfold wG;omega
 rcases ha with ⟨e1,e2⟩ | ⟨e1,e2⟩ | e1 | e1
 ·rw [hm] at e2
  refine .inr (.inr (.inr ⟨⟨⟨h1,h2⟩,by omega,by omega⟩,?_⟩))
  rw [show ((b:Nat):Int)+1=((b+1:Nat):Int) by omega,ZP hg];omega
 ·have hb1:1≤b:=by
   rcases Nat.eq_zero_or_pos b with h0 | h0
   ·subst h0
    exfalso
    have ha0:0<a:=by
     rcases Nat.eq_zero_or_pos a with g0 | g0
     ·subst g0;omega
     ·exact g0
    obtain ⟨a1,rfl⟩:∃a1,a=a1+1:=⟨a - 1,by omega⟩
    have e3:y=a1*wG g+(wG g - 1):=by rw [Nat.add_mul,Nat.one_mul] at e1;omega
    rw [e3,Nat.mul_comm,Nat.mul_add_mod,Nat.mod_eq_of_lt (by omega)] at e2
    omega
   ·exact h0
  refine .inr (.inr (.inl ⟨⟨⟨h1,h2⟩,by omega,by omega⟩,?_⟩))
  rw [show ((b:Nat):Int) - 1=((b - 1:Nat):Int) by omega,ZP hg];omega
 ·have ha1:a+1<g.Rows.toNat:=by
   rcases Nat.lt_or_ge (a+1) g.Rows.toNat with g0 | g0
   ·exact g0
   ·have e4:g.Rows.toNat=a+1:=by omega
    rw [e4,Nat.add_mul,Nat.one_mul] at hsz
    omega
  refine .inr (.inl ⟨⟨⟨by omega,by omega⟩,h3,h4⟩,?_⟩)
  rw [show ((a:Nat):Int)+1=((a+1:Nat):Int) by omega,ZP hg,Nat.add_mul,Nat.one_mul];omega
 ·have ha0:0<a:=by
   rcases Nat.eq_zero_or_pos a with g0 | g0
   ·subst g0;omega
   ·exact g0
  obtain ⟨a1,rfl⟩:∃a1,a=a1+1:=⟨a - 1,by omega⟩
  refine .inl ⟨⟨⟨by omega,by omega⟩,h3,h4⟩,?_⟩
  rw [show ((a1+1:Nat):Int) - 1=((a1:Nat):Int) by omega,ZP hg]
  rw [Nat.add_mul,Nat.one_mul] at e1;omega
theorem Js {g:D.Grid} {r c:Int} (hg:gridOk g) (h:inG g r c):Zd g r c<g.Cells.size:=by
 have:=QaM hg h.1 h.2
 unfold Zd
 omega
theorem Za (g:D.Grid):∀d m r c,(ZV d g m r c).length=m.length
 | 0,m,r,c=>rfl
 | d+1,m,r,c=>by
  rw [ZV]
  split
  ·rw [Za g d,Za g d,Za g d,Za g d,List.length_set]
  ·rfl
theorem Zj {g:D.Grid} {j:Nat}:∀d m r c,on m j=true→on (ZV d g m r c) j=true
 | 0,m,r,c,h=>h
 | d+1,m,r,c,h=>by
  rw [ZV]
  split
  ·refine Zj d _ _ _ (Zj d _ _ _ (Zj d _ _ _ (Zj d _ _ _ ?_)))
   have hlt:=Qhd h
   unfold on at h ⊢
   rw [List.getElem?_set]
   split
   ·rename_i e
    subst e
    rw [if_pos hlt];rfl
   ·exact h
  ·exact h
theorem Qdw {s:List Bool} {i:Nat}:(s.set i true).count false≤s.count false:=by
 rcases Nat.lt_or_ge i s.length with h | h
 ·rw [List.count_set h];simp
 ·rw [List.set_eq_of_length_le h];exact Nat.le_refl _
theorem Z8 (g:D.Grid):∀d m r c,(ZV d g m r c).count false≤m.count false
 | 0,m,r,c=>Nat.le_refl _
 | d+1,m,r,c=>by
  rw [ZV]
  split
  ·exact Nat.le_trans (Z8 g d _ _ _) (Nat.le_trans (Z8 g d _ _ _) (Nat.le_trans (Z8 g d _ _ _) (Nat.le_trans (Z8 g d _ _ _) Qdw)))
  ·exact Nat.le_refl _
theorem Y8 {g:D.Grid} (hg:gridOk g) {P:Nat→Prop} (hP:∀i j,P i→adj g i j→j<g.Cells.size→QK g.Cells j=46→P j):∀d m r c,m.length=g.Cells.size→(inG g r c→QK g.Cells (Zd g r c)=46→P (Zd g r c))→∀j,on (ZV d g m r c) j=true→on m j=true∨P j
 | 0,m,r,c,_,_,j,hj=> .inl hj
 | d+1,m,r,c,hl,h,j,hj=>by
  rw [ZV] at hj
  split at hj
  ·rename_i hgo
   obtain ⟨g1,g2,g3⟩:=hgo
   have hv:=h g1 g2
   have nb:∀r' c',((r'=r∧(c'=c+1∨c'=c - 1))∨(c'=c∧(r'=r+1∨r'=r - 1)))→inG g r' c'→QK g.Cells (Zd g r' c')=46→P (Zd g r' c'):=fun r' c' hn hi hw=>hP _ _ hv (QiT hg g1 hi hn) (Js hg hi) hw
   have l1:(m.set (Zd g r c) true).length=g.Cells.size:=by rw [List.length_set,hl]
   rcases Y8 hg hP d _ _ _ (by rw [Za,Za,Za,l1]) (nb r (c+1) (.inl ⟨rfl, .inl rfl⟩)) j hj with hj | hj
   ·rcases Y8 hg hP d _ _ _ (by rw [Za,Za,l1]) (nb r (c - 1) (.inl ⟨rfl, .inr rfl⟩)) j hj with hj | hj
    ·rcases Y8 hg hP d _ _ _ (by rw [Za,l1]) (nb (r+1) c (.inr ⟨rfl, .inl rfl⟩)) j hj with hj | hj
     ·rcases Y8 hg hP d _ _ _ l1 (nb (r - 1) c (.inr ⟨rfl, .inr rfl⟩)) j hj with hj | hj
      ·rw [Qbn (by rw [hl];exact Js hg g1)] at hj
       split at hj
       ·rename_i e
        rw [e];exact .inr hv
       ·exact .inl hj
      ·exact .inr hj
     ·exact .inr hj
    ·exact .inr hj
   ·exact .inr hj
  ·exact .inl hj
theorem Qci {g:D.Grid} (hg:gridOk g) {d:Nat} {m:List Bool} {r c:Int} (hl:m.length=g.Cells.size) (hc:m.count false<d) (hi:inG g r c) (hw:QK g.Cells (Zd g r c)=46):on (ZV d g m r c) (Zd g r c)=true:=by
 cases d with
 | zero=>omega
 | succ d =>
  rw [ZV]
  split
  ·refine Zj d _ _ _ (Zj d _ _ _ (Zj d _ _ _ (Zj d _ _ _ ?_)))
   rw [Qbn (by rw [hl];exact Js hg hi),if_pos rfl]
  ·rename_i hn
   cases ho:on m (Zd g r c) with
   | true=>rfl
   | false=>exact absurd ⟨hi,hw,ho⟩ hn
theorem Qcp {g:D.Grid} (hg:gridOk g):∀d m r c,m.length=g.Cells.size→m.count false<d→∀x y,on (ZV d g m r c) x=true→¬on m x=true→adj g x y→y<g.Cells.size→QK g.Cells y=46→on (ZV d g m r c) y=true
 | 0,m,r,c,_,hc,x,y,_,_,_,_,_=>by omega
 | d+1,m,r,c,hl,hc,x,y,hx,hnx,ha,hy,hw=>by
  rw [ZV] at hx ⊢
  by_cases hgo:QhZ g m r c
  ·rw [if_pos hgo] at hx ⊢
   obtain ⟨g1,g2,g3⟩:=hgo
   have hcl:=Js hg g1
   have l1:(m.set (Zd g r c) true).length=g.Cells.size:=by rw [List.length_set,hl]
   have c1:(m.set (Zd g r c) true).count false<d:=by
    have:=Qa1 (by rw [hl];exact hcl) g3
    omega
   generalize hm1:m.set (Zd g r c) true=m1 at *
   have c2:=Z8 g d m1 (r - 1) c
   have l2:=Za g d m1 (r - 1) c
   generalize hm2:ZV d g m1 (r - 1) c=m2 at *
   have c3:=Z8 g d m2 (r+1) c
   have l3:=Za g d m2 (r+1) c
   generalize hm3:ZV d g m2 (r+1) c=m3 at *
   have c4:=Z8 g d m3 r (c - 1)
   have l4:=Za g d m3 r (c - 1)
   generalize hm4:ZV d g m3 r (c - 1)=m4 at *
   have up4:∀j,on m4 j=true→on (ZV d g m4 r (c+1)) j=true:=fun j h=>Zj d _ _ _ h
   have up3:∀j,on m3 j=true→on m4 j=true:=fun j h=>hm4▸Zj d _ _ _ h
   have up2:∀j,on m2 j=true→on m3 j=true:=fun j h=>hm3▸Zj d _ _ _ h
   by_cases h4:on m4 x=true
   ·by_cases h3:on m3 x=true
    ·by_cases h2:on m2 x=true
     ·by_cases h1:on m1 x=true
      ·have hxv:x=Zd g r c:=by
        rw [← hm1,Qbn (by rw [hl];exact hcl)] at h1
        split at h1
        ·assumption
        ·exact absurd h1 hnx
       subst hxv
       rcases Qgt hg g1 hy ha with ⟨k1,rfl⟩ | ⟨k1,rfl⟩ | ⟨k1,rfl⟩ | ⟨k1,rfl⟩
       ·exact up4 _ (up3 _ (up2 _ (hm2▸Qci hg l1 c1 k1 hw)))
       ·exact up4 _ (up3 _ (hm3▸Qci hg (by omega) (by omega) k1 hw))
       ·exact up4 _ (hm4▸Qci hg (by omega) (by omega) k1 hw)
       ·exact Qci hg (by omega) (by omega) k1 hw
      ·exact up4 _ (up3 _ (up2 _ (hm2▸Qcp hg d m1 (r - 1) c l1 c1 x y (hm2▸h2) h1 ha hy hw)))
     ·exact up4 _ (up3 _ (hm3▸Qcp hg d m2 (r+1) c (by omega) (by omega) x y (hm3▸h3) h2 ha hy hw))
    ·exact up4 _ (hm4▸Qcp hg d m3 r (c - 1) (by omega) (by omega) x y (hm4▸h4) h3 ha hy hw)
   ·exact Qcp hg d m4 r (c+1) (by omega) (by omega) x y hx h4 ha hy hw
  ·rw [if_neg hgo] at hx
   exact absurd hx hnx
def Qf3 (g:D.Grid) (s:List Bool):Prop:=∀x y,on s x=true→adj g x y→y<g.Cells.size→QK g.Cells y=46→on s y=true
theorem QgO (n j:Nat):on (List.replicate n false) j=false:=by
 unfold on
 rw [List.getElem?_replicate]
 split<;>rfl
theorem Qes {g:D.Grid} {i j:Nat} (hi:i<g.Cells.size):on ((List.replicate g.Cells.size false).set i true) j=true↔j=i:=by
 rw [Qbn (by simpa using hi),QgO]
 split<;>simp [*]
theorem J6 {g:D.Grid}:∀i,i≤g.Cells.size→Qf3 g (Qj g i).2
 | 0,_=>fun x y hx=>by rw [Qj,QgO] at hx;cases hx
 | i+1,hi=>by
  have ih:=J6 (g:=g) i (by omega)
  by_cases hn:QaD g (Qj g i).2 i
  ·rw [(Qa2 hn).2]
   intro x y hx ha hy hw
   have hl:(fresh g i).length=(Qj g i).2.length:=by rw [YZ,Z1]
   rw [Qfc hl,Bool.or_eq_true] at hx ⊢
   rcases hx with hx | hx
   ·exact .inl (ih x y hx ha hy hw)
   ·exact .inr (on_reachL.2 (.step (on_reachL.1 hx) ha (by simpa using hy) hw))
  ·rw [JJ hn];exact ih
theorem QhR {g:D.Grid} (hg:gridOk g) {d i:Nat} {m:List Bool} (hl:m.length=g.Cells.size) (hi:i<g.Cells.size) (hc:m.count false<d) (hcl:Qf3 g m) (hw:QK g.Cells i=46) :
  ZV d g m ((i / wG g:Nat):Int) ((i % wG g:Nat):Int)=QcT m (fresh g i):=by
 have hlf:(fresh g i).length=m.length:=by rw [YZ,hl]
 have hci:Zd g ((i / wG g:Nat):Int) ((i % wG g:Nat):Int)=i:=by
  rw [ZP hg,Nat.mul_comm];exact Nat.div_add_mod i _
 obtain ⟨⟨q1,q2⟩,_⟩:=QaF hg hi
 have hin:inG g ((i / wG g:Nat):Int) ((i % wG g:Nat):Int):=by
  have hA:=hg.1
  have hB:=hg.2.1
  unfold wG
  generalize i / g.Cols.toNat=q at *
  generalize i % g.Cols.toNat=m' at *
  exact ⟨⟨by omega,by omega⟩,by omega,by omega⟩
 refine QhN (by rw [Za,Yo hlf]) fun j=> ?_
 rw [Qfc hlf,Bool.or_eq_true]
 constructor
 ·intro hj
  rcases Y8 hg (P:=fun j=>Rch g ((List.replicate g.Cells.size false).set i true) j) (fun a b h ha hb hw=> .step h ha (by simpa using hb) hw) d m _ _ hl (fun _ _=>by rw [hci];exact .base ((Qes hi).2 rfl)) j hj with h | h
  ·exact .inl h
  ·exact .inr (on_reachL.2 h)
 ·rintro (hj | hj)
  ·exact Zj d _ _ _ hj
  ·have hr:=on_reachL.1 hj
   clear hj
   induction hr with
   | base h =>
    obtain rfl:=(Qes hi).1 h
    have:=Qci hg hl hc hin (by rw [hci];exact hw)
    rwa [hci] at this
   | step h ha hb hw2 ih =>
    rename_i a b
    have hb':b<g.Cells.size:=by simpa using hb
    by_cases hma:on m a=true
    ·exact Zj d _ _ _ (hcl a b hma ha hb' hw2)
    ·exact Qcp hg d m _ _ hl hc a b ih hma ha hb' hw2
end
theorem Qbr (n:Nat) (nn:Nat) (g:D.Grid):∀(d:Nat) (met:List Bool) (r:Int) (c:Int) (hg:gridOk g) (hn:nn=g.Cells.size) (hl:met.length=nn) (hr: -1≤r∧r≤6) (hc: -1≤c∧c≤6) (hu:met.count false<d),Loan (Qw Tryd.prog (n+d+1)) 122 1 (List.map (Qi true) met) [(tI r),(tI c),(T.rp (Qa false g)),(T.vp [(T.os 1 0 0 nn)]),(vtT 122 (T.rp (Qa false g)) (T.vp [(T.os 1 0 0 nn)]) d)] (T.tup []) (List.map (Qi true) (ZV d g met r c)):=by
 intro d
 induction d with
 | zero=>intro met r c hg hn hl hr hc hu;exact absurd hu (Nat.not_lt_zero _)
 | succ d ih =>
 intro met r c hg hn hl hr hc hu
 refine Loan.intro (n:=n+d+1) (rs:= []) (j:=3) (pin:=(T.vp [(T.os 1 0 0 nn)])) Tryd.func122 rfl rfl rfl (by kernel_rfl) rfl (.vp _ _) .none (ZG (fun _=>rfl) _) (ZG (fun _=>rfl) _) (E0:= [(0,(tI r)),(1,(tI c)),(2,(T.rp (Qa false g))),(3,(T.vp [(T.os 1 0 0 nn)])),(4,(vtT 122 (T.rp (Qa false g)) (T.vp [(T.os 1 0 0 nn)]) (d+1)))]) rfl ?_
 obtain ⟨hlim,hmx,hmax⟩:=QR
 have hsz:=hg.size
 have hA:=hg.1
 have hB:=hg.2.1
 refine sq (sr (mO (tI r) rfl (lr (tI g.Rows) rfl (lb rfl) YU rfl Zo (cO (cS (vc (tv (tI r) rfl) (vc (tv (tI g.Rows) rfl) vn)) (lps rfl) (QaT (n+d+0) r g.Rows) rfl rfl) (fO (ZL (tv (tB (decide (0≤r∧r<g.Rows))) rfl)) (mO (tB (!(decide (0≤r∧r<g.Rows)))) rfl ?_))))))
 refine VRunO.joinB 6 [13,14,15,16,17] 18 (tB (decide ((¬(0≤r∧r<g.Rows))∨(¬(0≤c∧c<g.Cols))))) ?_ ?_
 ·refine gn (0≤r∧r<g.Rows) (fun fhg12_1=> ?_) fun fhg12_1=> ?_
  ·refine QY 5 5 false 12 (ny fhg12_1) rfl rfl rfl ?_
   refine fO (OF.pickT (VEv.tmpB rfl (ny fhg12_1)) (VEv.bool true)) (VRunO.nil ?_)
   exact jq (congrArg T.bool (kOT fhg12_1)) (js rfl (js rfl (js rfl (js rfl (js rfl (jn))))))
  ·refine gF (nz fhg12_1) rfl rfl (OF.move (tv (tI c) rfl)) ?_
   refine glr (tI g.Cols) (nz fhg12_1) rfl rfl rfl rfl (lb rfl) QV rfl Zo (VRunO.chain (VWant.on rfl rfl (nz fhg12_1)) (cS (vc (tv (tI c) rfl) (vc (tv (tI g.Cols) rfl) vn)) (lps rfl) (QaT (n+d+0) c g.Cols) rfl rfl) (gF (nz fhg12_1) rfl rfl (ZL (tv (tB (decide (0≤c∧c<g.Cols))) rfl)) (fO (OF.pickF (VEv.tmpB rfl (nz fhg12_1)) (tv (tB (!(decide (0≤c∧c<g.Cols)))) rfl)) (VRunO.nil ?_))))
   exact jq (congrArg T.bool (kOF (not_not_intro fhg12_1) dN)) (js rfl (js rfl (js rfl (js rfl (js rfl (jn))))))
 refine mO (tB (decide ((¬(0≤r∧r<g.Rows))∨(¬(0≤c∧c<g.Cols))))) rfl ?_
 refine VRunO.joinB 10 [20,21,22,23,24,25,26,27,28] 29 (tB (decide (((¬(0≤r∧r<g.Rows))∨(¬(0≤c∧c<g.Cols)))∨((met[(Int.toNat ((r*g.Cols)+c))]?.getD false)=true)))) ?_ ?_
 ·refine gw ((¬(0≤r∧r<g.Rows))∨(¬(0≤c∧c<g.Cols))) (fun fhg19_2=> ?_) fun fhg19_2=> ?_
  ·refine QY 9 12 false 19 (dy fhg19_2) rfl rfl rfl ?_
   refine fO (OF.pickT (VEv.tmpB rfl (dy fhg19_2)) (VEv.bool true)) (VRunO.nil ?_)
   exact jq (congrArg T.bool (kOT fhg19_2)) (js rfl (js rfl (js rfl (js rfl (js rfl (js rfl (js rfl (js rfl (js rfl (jn))))))))))
  ·have hz:=QaM hg (r:=r) (c:=c) (by omega) (by omega)
   refine gL (dz fhg19_2) rfl rfl (OL.loadV1 (t:=(T.os 1 0 0 nn)) (tv (T.vp [(T.os 1 0 0 nn)]) rfl) rfl Qg4) (gF (dz fhg19_2) rfl rfl (OF.move (tv (tI r) rfl)) (glr (tI g.Cols) (dz fhg19_2) rfl rfl rfl rfl (lb rfl) QV rfl Zo (gF (dz fhg19_2) rfl rfl (B.mul (n:=(r*g.Cols)) (tv (tI r) rfl) (tv (tI g.Cols) rfl) (by (rw [Qz (by omega)];done))) (gF (dz fhg19_2) rfl rfl (OF.move (tv (tI c) rfl)) (gF (dz fhg19_2) rfl rfl (B.add (n:=((r*g.Cols)+c)) (tv (tI (r*g.Cols)) rfl) (tv (tI c) rfl) (by (rw [Qz (by omega)];done))) ?_)))))
   have hy3:met[(Int.toNat ((r*g.Cols)+c))]? =some (met[(Int.toNat ((r*g.Cols)+c))]?.getD false):=YH false (by omega)
   refine gF (dz fhg19_2) rfl rfl (B.indexAddrO (i:=(Int.toNat ((r*g.Cols)+c))) (tv (T.os 1 0 0 nn) rfl) (tv (tI ((r*g.Cols)+c)) rfl) (by omega) (by omega) Z4 sz4 if4) (gL (dz fhg19_2) rfl rfl (OL.loadP1 (t:=(tB (met[(Int.toNat ((r*g.Cols)+c))]?.getD false))) (row:=(Qi true (met[(Int.toNat ((r*g.Cols)+c))]?.getD false))) (tv (T.orp 1 0 (Int.toNat ((r*g.Cols)+c)) 0) rfl) rfl (QA _ hy3) rfl rfl st4) (fO (OF.pickF (VEv.tmpB rfl (dz fhg19_2)) (tv (tB (met[(Int.toNat ((r*g.Cols)+c))]?.getD false)) rfl)) (VRunO.nil ?_)))
   exact jq (congrArg T.bool (kOF fhg19_2 (dT _))) (js rfl (js rfl (js rfl (js rfl (js rfl (js rfl (js rfl (js rfl (js rfl (jn))))))))))
 refine mO (tB (decide (((¬(0≤r∧r<g.Rows))∨(¬(0≤c∧c<g.Cols)))∨((met[(Int.toNat ((r*g.Cols)+c))]?.getD false)=true)))) rfl ?_
 refine VRunO.joinB 11 [31,32,33,34,35,36,37,38,39,40] 41 (tB (decide ((((¬(0≤r∧r<g.Rows))∨(¬(0≤c∧c<g.Cols)))∨((met[(Int.toNat ((r*g.Cols)+c))]?.getD false)=true))∨(¬(QK g.Cells (Int.toNat ((r*g.Cols)+c))=46))))) ?_ ?_
 ·refine gw (((¬(0≤r∧r<g.Rows))∨(¬(0≤c∧c<g.Cols)))∨((met[(Int.toNat ((r*g.Cols)+c))]?.getD false)=true)) (fun fhg30_4=> ?_) fun fhg30_4=> ?_
  ·refine QY 10 23 false 30 (dy fhg30_4) rfl rfl rfl ?_
   refine fO (OF.pickT (VEv.tmpB rfl (dy fhg30_4)) (VEv.bool true)) (VRunO.nil ?_)
   exact jq (congrArg T.bool (kOT fhg30_4)) (js rfl (js rfl (js rfl (js rfl (js rfl (js rfl (js rfl (js rfl (js rfl (js rfl (jn)))))))))))
  ·have hz:=QaM hg (r:=r) (c:=c) (by omega) (by omega)
   refine glr (tS g.Cells) (dz fhg30_4) rfl rfl rfl rfl (lb rfl) QC rfl ZX (gF (dz fhg30_4) rfl rfl (OF.move (tv (tI r) rfl)) (glr (tI g.Cols) (dz fhg30_4) rfl rfl rfl rfl (lb rfl) QV rfl Zo (gF (dz fhg30_4) rfl rfl (B.mul (n:=(r*g.Cols)) (tv (tI r) rfl) (tv (tI g.Cols) rfl) (by (rw [Qz (by omega)];done))) (gF (dz fhg30_4) rfl rfl (OF.move (tv (tI c) rfl)) (gF (dz fhg30_4) rfl rfl (B.add (n:=((r*g.Cols)+c)) (tv (tI (r*g.Cols)) rfl) (tv (tI c) rfl) (by (rw [Qz (by omega)];done))) ?_)))))
   have hb5:(Int.toNat ((r*g.Cols)+c))<g.Cells.size:=(by omega)
   refine gF (dz fhg30_4) rfl rfl (B.index (n:=(QK g.Cells (Int.toNat ((r*g.Cols)+c)))) (i:=(Int.toNat ((r*g.Cols)+c))) (tv (tS g.Cells) rfl) (tv (tI ((r*g.Cols)+c)) rfl) (by omega) hb5 U9 (Ya hb5)) (gF (dz fhg30_4) rfl rfl (xne (tv (T.int .u8 (QK g.Cells (Int.toNat ((r*g.Cols)+c)))) rfl) (VEv.int .u8 46)) (fO (OF.pickF (VEv.tmpB rfl (dz fhg30_4)) (tv (tB (!(decide (QK g.Cells (Int.toNat ((r*g.Cols)+c))=46)))) rfl)) (VRunO.nil ?_)))
   exact jq (congrArg T.bool (kOF fhg30_4 dN)) (js rfl (js rfl (js rfl (js rfl (js rfl (js rfl (js rfl (js rfl (js rfl (js rfl (jn)))))))))))
 refine nt ?_
 refine cd ((((¬(0≤r∧r<g.Rows))∨(¬(0≤c∧c<g.Cols)))∨((met[(Int.toNat ((r*g.Cols)+c))]?.getD false)=true))∨(¬(QK g.Cells (Int.toNat ((r*g.Cols)+c))=46))) rfl (fun fhc0=> ?_) fun fhc0=> ?_
 ·refine rt ?_
  refine tr ?_
  have hnew:met=ZV (d+1) g met r c:=by
   rw [ZV,if_neg];rintro ⟨h1,h2,h3⟩;rcases fhc0 with (h | h) | h;exact h.elim (fun h=>h h1.1) (fun h=>h h1.2);exact on_no.1 h3 h;exact h h2
  exact vloan.r 0 VRes.nil rfl rfl rfl (congrArg (List.map (Qi true)) hnew)
 have hz:=QaM hg (r:=r) (c:=c) (by omega) (by omega)
 have hin:inG g r c:=⟨by omega,by omega⟩
 have hgo:QhZ g met r c:=⟨hin,by unfold Zd;omega,on_no.2 (fun h=>fhc0 (.inl (.inr h)))⟩
 have hct:=Qa1 (s:=met) (i:=Zd g r c) (by rw [hl,hn];exact Js hg hin) hgo.2.2
 unfold Zd at hct
 have d1:=Z8 g d (met.set (Int.toNat (r*g.Cols+c)) true) (r - 1) c
 have d2:=Z8 g d (ZV d g (met.set (Int.toNat (r*g.Cols+c)) true) (r - 1) c) (r+1) c
 have d3:=Z8 g d (ZV d g (ZV d g (met.set (Int.toNat (r*g.Cols+c)) true) (r - 1) c) (r+1) c) r (c - 1)
 refine sk (tn (sr (lO (OL.loadV1 (t:=(T.os 1 0 0 nn)) (tv (T.vp [(T.os 1 0 0 nn)]) rfl) rfl Qg4) (mO (tI r) rfl (lr (tI g.Cols) rfl (lb rfl) QV rfl Zo (fO (B.mul (n:=(r*g.Cols)) (tv (tI r) rfl) (tv (tI g.Cols) rfl) (by (rw [Qz (by omega)];done))) (mO (tI c) rfl (fO (B.add (n:=((r*g.Cols)+c)) (tv (tI (r*g.Cols)) rfl) (tv (tI c) rfl) (by (rw [Qz (by omega)];done))) ?_))))))))
 obtain ⟨x1,hx1⟩:∃x,met[(Int.toNat ((r*g.Cols)+c))]? =some x:=⟨_,List.getElem?_eq_getElem (by omega)⟩
 refine fO (B.indexAddrO (i:=(Int.toNat ((r*g.Cols)+c))) (tv (T.os 1 0 0 nn) rfl) (tv (tI ((r*g.Cols)+c)) rfl) (by omega) (by omega) Z4 sz4 if4) (cO (B.storeP (us:= [(tB true)]) (rows':=((met.set (Int.toNat ((r*g.Cols)+c)) true).map (Qi true))) (row:=(Qi true x1)) (tv (T.orp 1 0 (Int.toNat ((r*g.Cols)+c)) 0) rfl) (VEv.bool true) nofun rfl (QA _ hx1) rfl (lb rfl) if4 sz4 (bc rfl bn) (by intro r hr t ht;obtain ⟨x,_,rfl⟩:=List.mem_map.1 hr;rw [QdD] at ht;exact Zv (okBool.pl _ t ht)) (Zs rfl)) (nt (sr (lO (OL.loadV1 (t:=(T.fn 122 [(T.rp (Qa false g)),(T.vp [(T.os 1 0 0 nn)]),(vtT 122 (T.rp (Qa false g)) (T.vp [(T.os 1 0 0 nn)]) d)])) (tv (vtT 122 (T.rp (Qa false g)) (T.vp [(T.os 1 0 0 nn)]) (d+1)) rfl) rfl Qec) (mO (tI r) rfl (fO (B.sub (n:=(r - 1)) (tv (tI r) rfl) (VEv.int .i64 1) (by (rw [Qz (by omega)];done))) (mO (tI c) rfl (cO (OC.callvLoan (ts:= [(tI (r - 1)),(tI c),(T.rp (Qa false g)),(T.vp [(T.os 1 0 0 nn)]),(vtT 122 (T.rp (Qa false g)) (T.vp [(T.os 1 0 0 nn)]) d)]) (k:=0) (r:=(T.tup [])) (rows:=((met.set (Int.toNat ((r*g.Cols)+c)) true).map (Qi true))) (rows':=((ZV d g (met.set (Int.toNat ((r*g.Cols)+c)) true) (r - 1) c).map (Qi true))) rfl rfl (vc (tv (tI (r - 1)) rfl) (vc (tv (tI c) rfl) vn)) rfl (by simp only [YY,ren,JP,List.cons_append,List.nil_append]) (tl rfl (tl rfl (tl rfl (tl rfl (tl (Qbb rfl rfl _) rfl))))) LRes.none rfl (ZG (fun _=>rfl) _) (ZG (fun _=>rfl) _) (ih (met.set (Int.toNat ((r*g.Cols)+c)) true) (r - 1) c (by assumption) (by assumption) (by (simp only [Za,List.length_set];omega)) (by omega) (by assumption) (by omega))) (nt (sr (lO (OL.loadV1 (t:=(T.fn 122 [(T.rp (Qa false g)),(T.vp [(T.os 1 0 0 nn)]),(vtT 122 (T.rp (Qa false g)) (T.vp [(T.os 1 0 0 nn)]) d)])) (tv (vtT 122 (T.rp (Qa false g)) (T.vp [(T.os 1 0 0 nn)]) (d+1)) rfl) rfl Qec) ?_)))))))))))
 refine mO (tI r) rfl (fO (B.add (n:=(r+1)) (tv (tI r) rfl) (VEv.int .i64 1) (by (rw [Qz (by omega)];done))) (mO (tI c) rfl (cO (OC.callvLoan (ts:= [(tI (r+1)),(tI c),(T.rp (Qa false g)),(T.vp [(T.os 1 0 0 nn)]),(vtT 122 (T.rp (Qa false g)) (T.vp [(T.os 1 0 0 nn)]) d)]) (k:=0) (r:=(T.tup [])) (rows:=((ZV d g (met.set (Int.toNat ((r*g.Cols)+c)) true) (r - 1) c).map (Qi true))) (rows':=((ZV d g (ZV d g (met.set (Int.toNat ((r*g.Cols)+c)) true) (r - 1) c) (r+1) c).map (Qi true))) rfl rfl (vc (tv (tI (r+1)) rfl) (vc (tv (tI c) rfl) vn)) rfl (by simp only [YY,ren,JP,List.cons_append,List.nil_append]) (tl rfl (tl rfl (tl rfl (tl rfl (tl (Qbb rfl rfl _) rfl))))) LRes.none rfl (ZG (fun _=>rfl) _) (ZG (fun _=>rfl) _) (ih (ZV d g (met.set (Int.toNat ((r*g.Cols)+c)) true) (r - 1) c) (r+1) c (by assumption) (by assumption) (by (simp only [Za,List.length_set];omega)) (by omega) (by assumption) (by omega))) (nt (sr (lO (OL.loadV1 (t:=(T.fn 122 [(T.rp (Qa false g)),(T.vp [(T.os 1 0 0 nn)]),(vtT 122 (T.rp (Qa false g)) (T.vp [(T.os 1 0 0 nn)]) d)])) (tv (vtT 122 (T.rp (Qa false g)) (T.vp [(T.os 1 0 0 nn)]) (d+1)) rfl) rfl Qec) (mO (tI r) rfl (mO (tI c) rfl (fO (B.sub (n:=(c - 1)) (tv (tI c) rfl) (VEv.int .i64 1) (by (rw [Qz (by omega)];done))) (cO (OC.callvLoan (ts:= [(tI r),(tI (c - 1)),(T.rp (Qa false g)),(T.vp [(T.os 1 0 0 nn)]),(vtT 122 (T.rp (Qa false g)) (T.vp [(T.os 1 0 0 nn)]) d)]) (k:=0) (r:=(T.tup [])) (rows:=((ZV d g (ZV d g (met.set (Int.toNat ((r*g.Cols)+c)) true) (r - 1) c) (r+1) c).map (Qi true))) (rows':=((ZV d g (ZV d g (ZV d g (met.set (Int.toNat ((r*g.Cols)+c)) true) (r - 1) c) (r+1) c) r (c - 1)).map (Qi true))) rfl rfl (vc (tv (tI r) rfl) (vc (tv (tI (c - 1)) rfl) vn)) rfl (by simp only [YY,ren,JP,List.cons_append,List.nil_append]) (tl rfl (tl rfl (tl rfl (tl rfl (tl (Qbb rfl rfl _) rfl))))) LRes.none rfl (ZG (fun _=>rfl) _) (ZG (fun _=>rfl) _) (ih (ZV d g (ZV d g (met.set (Int.toNat ((r*g.Cols)+c)) true) (r - 1) c) (r+1) c) r (c - 1) (by assumption) (by assumption) (by (simp only [Za,List.length_set];omega)) (by assumption) (by omega) (by omega))) (nt ?_)))))))))))
 refine VRun.region (lO (OL.loadV1 (t:=(T.fn 122 [(T.rp (Qa false g)),(T.vp [(T.os 1 0 0 nn)]),(vtT 122 (T.rp (Qa false g)) (T.vp [(T.os 1 0 0 nn)]) d)])) (tv (vtT 122 (T.rp (Qa false g)) (T.vp [(T.os 1 0 0 nn)]) (d+1)) rfl) rfl Qec) (mO (tI r) rfl (mO (tI c) rfl (fO (B.add (n:=(c+1)) (tv (tI c) rfl) (VEv.int .i64 1) (by (rw [Qz (by omega)];done))) (cO (OC.callvLoan (ts:= [(tI r),(tI (c+1)),(T.rp (Qa false g)),(T.vp [(T.os 1 0 0 nn)]),(vtT 122 (T.rp (Qa false g)) (T.vp [(T.os 1 0 0 nn)]) d)]) (k:=0) (r:=(T.tup [])) (rows:=((ZV d g (ZV d g (ZV d g (met.set (Int.toNat ((r*g.Cols)+c)) true) (r - 1) c) (r+1) c) r (c - 1)).map (Qi true))) (rows':=((ZV d g (ZV d g (ZV d g (ZV d g (met.set (Int.toNat ((r*g.Cols)+c)) true) (r - 1) c) (r+1) c) r (c - 1)) r (c+1)).map (Qi true))) rfl rfl (vc (tv (tI r) rfl) (vc (tv (tI (c+1)) rfl) vn)) rfl (by simp only [YY,ren,JP,List.cons_append,List.nil_append]) (tl rfl (tl rfl (tl rfl (tl rfl (tl (Qbb rfl rfl _) rfl))))) LRes.none rfl (ZG (fun _=>rfl) _) (ZG (fun _=>rfl) _) (ih (ZV d g (ZV d g (ZV d g (met.set (Int.toNat ((r*g.Cols)+c)) true) (r - 1) c) (r+1) c) r (c - 1)) r (c+1) (by assumption) (by assumption) (by (simp only [Za,List.length_set];omega)) (by assumption) (by omega) (by omega))) (VRunO.nil ?_))))))
 have hnew:ZV d g (ZV d g (ZV d g (ZV d g (met.set (Int.toNat ((r*g.Cols)+c)) true) (r - 1) c) (r+1) c) r (c - 1)) r (c+1)=ZV (d+1) g met r c:=by
  rw [ZV,if_pos hgo];rfl
 exact vloan.n 0 VRes.nil rfl rfl rfl (congrArg (List.map (Qi true)) hnew)
theorem Qch (n:Nat) (g:D.Grid) (hc:g.Cells.size≤mx):Pure (Qw Tryd.prog (n+39)) 102 [(T.agg (Qa false g))] (tN (Zm g)):=by
 refine Pure.intro (rs:= [ResultVar.tmp 2]) Tryd.func102 rfl rfl rfl (E0:= [(0,(T.agg (Qa false g)))]) rfl ?_
 obtain ⟨hlim,hmx,hmax⟩:=QR
 refine sr (kO (B.box (ts:=(Qa false g)) (tv (T.agg (Qa false g)) rfl) nofun rfl) (fO (OF.assign (VEv.int .i64 0)) (nt (sq (sr (lO (OL.loadOn (us:=(Qa false g)) (tv (T.op 0 0) rfl) rfl QO QM (lb rfl) rfl) (cO (cS (vc (tv (T.agg (Qa false g)) rfl) vn) (LendL.cons (lg Qq) ln) (Zw (n+36) g (by omega)) rfl rfl) (fO (ZL (tv (tB (decide (gridOk g))) rfl)) (nt ?_)))))))))
 refine cn (gridOk g) rfl (fun fhc0=> ?_) fun fhc0=> ?_
 ·refine sr ?_
  refine fO (OF.assign (VEv.int .i64 0)) (nt (rt (tr (vi (n':=0) rfl ?_))))
  rw [Zm,if_neg (by simpa using fhc0)];rfl
 have hgo:gridOk g:=by simpa using fhc0
 have hsz:=hgo.size
 have hA:=hgo.1
 have hB:=hgo.2.1
 refine sk (tn (sr (lf (tS g.Cells) rfl QC rfl rfl ZX (lO (B.lenS (tv (tS g.Cells) rfl) U9) (kO (B.makeZ (n:=g.Cells.size) (m:=((List.replicate g.Cells.size false).map (Qi true)).length) (rows:=((List.replicate g.Cells.size false).map (Qi true))) (zr:=(Qi true false)) (tv (tN g.Cells.size) rfl) (tv (tN g.Cells.size) rfl) rfl Z4 zo4 zc4 rfl (by rw [sz4];decide) (by omega) (of_decide_eq_true (by kernel_rfl)) (Z0.bool Z0.nil) sz4 (List.map_replicate ..).symm (by rw [List.length_map,List.length_replicate])) (kO (B.alloc (t:=T.nils) (ts:= [T.nils]) QjR QjL nofun (fun _=> .nils) rfl) (cO (B.storeW (us:= [(T.os 1 1 0 (((List.replicate g.Cells.size false).map (Qi true)).length))]) (tv (T.op 2 0) rfl) (tv (T.os 1 1 0 (((List.replicate g.Cells.size false).map (Qi true)).length)) rfl) nofun rfl rfl rfl QjI QjH (bc rfl bn)) (nt (sr (kO (B.alloc (t:=T.fn0) (ts:= [T.fn0]) (show QS Tryd.prog 132=some .nilFunc by kernel_rfl) (show closedV .nilFunc=true by kernel_rfl) nofun (fun _=> .fn0) rfl) (nt ?_)))))))))))
 refine sr (fO (OF.makeFunc (vc (tv (T.op 0 0) rfl) (vc (tv (T.op 2 0) rfl) (vc (tv (T.op 3 0) rfl) vn)))) (cO (B.storeW (us:= [(T.fn 122 [(T.op 0 0),(T.op 2 0),(T.op 3 0)])]) (tv (T.op 3 0) rfl) (tv (T.fn 122 [(T.op 0 0),(T.op 2 0),(T.op 3 0)]) rfl) nofun rfl rfl rfl QjK QjD (bc rfl bn)) (nt (VRun.wk (Wk.recv (sz:=1) (k:=1) (us:=(Qa false g)) (f:=122) 38 (d1:=1) (d2:=3) (d3:=4) rfl rfl rfl rfl rfl rfl (by decide) (by decide) (by decide) (bc rfl (bc rfl (bc rfl bn)))) (sr (fO (OF.assign (VEv.int .i64 0)) (nt (sq (sr (lr (tS g.Cells) rfl (lb rfl) QC rfl ZX (lO (B.lenS (tv (tS g.Cells) rfl) U9) ?_)))))))))))
 refine fO (OF.move (VEv.int .i64 0)) (nt (VRun.block ?_))
 have he1:(List.replicate g.Cells.size false)=(Qj g 0).2:=by rfl
 refine VRun.loop (A:=Nat) (fun s_=> [(1,(T.rp (Qa false g))),(2,(tN 0)),(3,(T.vp [(T.os 1 0 0 (((List.replicate g.Cells.size false).map (Qi true)).length))])),(4,(vtT 122 (T.rp (Qa false g)) (T.vp [(T.os 1 0 0 (((List.replicate g.Cells.size false).map (Qi true)).length))]) 38)),(5,(tN ((Qj g s_).1))),(17,(tN g.Cells.size)),(18,(tN s_))]) (fun s_=>Q4 [(0,(Obj.rows 1 (((Qj g s_).2).map (Qi true))))]) 1 (fun s_=>s_≤g.Cells.size) (fun s_=>g.Cells.size - s_) (0:Nat) ?_ (Wk.mk (fun k=>if k=0 then 1 else k) ?_ ?_ ?_) ?_
 ·(simp;done)
 ·exact (b2 (b2 (b2 (b2 (bc ⟨(congrArg (T.int .i64) (show 0=(((Qj g 0).1:Nat):Int) from (by rfl))),rfl⟩ (b2 (b2 bn)))))))
 ·exact (bc ⟨(congrArg (fun l_=>some (Obj.rows 1 (List.map (Qi true) l_))) he1),(lb rfl),rfl⟩ bn)
 ·exact nd rfl
 rintro i (hI':i≤g.Cells.size)
 show VRun _ _ _ [(1,(T.rp (Qa false g))),(2,(tN 0)),(3,(T.vp [(T.os 1 0 0 (((List.replicate g.Cells.size false).map (Qi true)).length))])),(4,(vtT 122 (T.rp (Qa false g)) (T.vp [(T.os 1 0 0 (((List.replicate g.Cells.size false).map (Qi true)).length))]) 38)),(5,(tN ((Qj g i).1))),(17,(tN g.Cells.size)),(18,(tN i))] (Q4 [(0,(Obj.rows 1 (((Qj g i).2).map (Qi true))))]) 1 _
 have hI1:=hI'
 have hpl:=Z1 g i
 have hpn:=Qbo g i
 refine sr (fO (Zx (tv (tN i) rfl) (tv (tN g.Cells.size) rfl)) (nt (sq ?_)))
 refine cd (i<g.Cells.size) rfl (fun fhc1=> ?_) fun fhc1=> ?_
 ·refine sk ?_
  refine tn (sq (VRun.block (sr (mO (tN i) rfl (aO (tN i) rfl (nt (sr (lr (tS g.Cells) rfl (lb rfl) QC rfl ZX (mO (tN i) rfl ?_)))))))))
  have hb2:i<g.Cells.size:=(by omega)
  refine fO (xix (tv (tS g.Cells) rfl) (tv (tN i) rfl) hb2 U9) (fO (xeq (tv (T.int .u8 (QK g.Cells i)) rfl) (VEv.int .u8 46)) (mO (tB (decide (QK g.Cells i=46))) rfl ?_))
  refine VRunO.joinB 6 [27,28,29,30,31] 32 (tB (decide ((QK g.Cells i=46)∧((!(((Qj g i).2)[i]?.getD false))=true)))) ?_ ?_
  ·refine gw (QK g.Cells i=46) (fun fhg26_3=> ?_) fun fhg26_3=> ?_
   ·refine gL (dy fhg26_3) rfl rfl (OL.loadV1 (t:=(T.os 1 0 0 (((List.replicate g.Cells.size false).map (Qi true)).length))) (tv (T.vp [(T.os 1 0 0 (((List.replicate g.Cells.size false).map (Qi true)).length))]) rfl) rfl Qg4) ?_
    refine gF (dy fhg26_3) rfl rfl (OF.move (tv (tN i) rfl)) ?_
    have hy4:((Qj g i).2)[i]? =some (((Qj g i).2)[i]?.getD false):=YH false (by omega)
    refine gF (dy fhg26_3) rfl rfl (B.indexAddrO (i:=i) (tv (T.os 1 0 0 (((List.replicate g.Cells.size false).map (Qi true)).length)) rfl) (tv (tN i) rfl) rfl (by (simp only [List.length_map,List.length_replicate];omega)) Z4 sz4 if4) (gL (dy fhg26_3) rfl rfl (OL.loadP1 (t:=(tB (((Qj g i).2)[i]?.getD false))) (row:=(Qi true (((Qj g i).2)[i]?.getD false))) (tv (T.orp 1 0 i 0) rfl) rfl (QA _ hy4) rfl rfl st4) (gF (dy fhg26_3) rfl rfl (ZL (tv (tB (((Qj g i).2)[i]?.getD false)) rfl)) (fO (OF.pickT (VEv.tmpB rfl (dy fhg26_3)) (tv (tB (!(((Qj g i).2)[i]?.getD false))) rfl)) (VRunO.nil ?_))))
    exact jq (congrArg T.bool (kAT fhg26_3 (dT _))) (js rfl (js rfl (js rfl (js rfl (js rfl (jn))))))
   ·refine QY 5 5 true 26 (dz fhg26_3) rfl rfl rfl ?_
    refine fO (OF.pickF (VEv.tmpB rfl (dz fhg26_3)) (VEv.bool false)) (VRunO.nil ?_)
    exact jq (congrArg T.bool (kAF fhg26_3)) (js rfl (js rfl (js rfl (js rfl (js rfl (jn))))))
  refine nt ?_
  refine cd ((QK g.Cells i=46)∧((!(((Qj g i).2)[i]?.getD false))=true)) rfl (fun fhc2=> ?_) fun fhc2=> ?_
  ·have q0:QaD g (Qj g i).2 i:=⟨fhc2.1,by simpa [on] using fhc2.2⟩
   have q1:=Qa2 q0
   have hci:=QaF hgo (show i<g.Cells.size by omega)
   have hq0:0≤((i:Nat):Int) / ((g.Cols.toNat:Nat):Int):=Int.ediv_nonneg (by omega) (by omega)
   have hm0:0≤((i:Nat):Int) % ((g.Cols.toNat:Nat):Int):=Int.emod_nonneg _ (by omega)
   refine sr (mO (tN ((Qj g i).1)) rfl (fO (QF (tv (tN ((Qj g i).1)) rfl) (VEv.int .i64 1) (by omega)) (aO (tN ((Qj g i).1+1)) rfl (nt (VRun.draw (B:= [[],[],[],[2],[2,3,1],[],[],[6],[6,7,5],[5,7,6,8,1,3,2,4,0]]) (by kernel_rfl) (by kernel_rfl) (lD (OL.loadV1 (t:=(T.fn 122 [(T.rp (Qa false g)),(T.vp [(T.os 1 0 0 (((List.replicate g.Cells.size false).map (Qi true)).length))]),(vtT 122 (T.rp (Qa false g)) (T.vp [(T.os 1 0 0 (((List.replicate g.Cells.size false).map (Qi true)).length))]) 37)])) (tv (vtT 122 (T.rp (Qa false g)) (T.vp [(T.os 1 0 0 (((List.replicate g.Cells.size false).map (Qi true)).length))]) 38) rfl) rfl Qec) rfl rfl (mD (tN i) rfl rfl (fD (B.fieldAddrR (us:=((Qa false g).drop 1)) (tv (T.rp (Qa false g)) rfl) (lb rfl) QV rfl) rfl rfl (lD (OL.loadR1 (t:=(tI g.Cols)) (tv (T.rp ((Qa false g).drop 1)) rfl) rfl Zo) rfl rfl (fD (B.quo (n:=((i / g.Cols.toNat:Nat):Int)) (tv (tN i) rfl) (tv (tI g.Cols) rfl) (by omega) (by (refine QiV ?_ ?_<;>omega))) rfl rfl (mD (tN i) rfl rfl ?_)))))))))))
   refine fD (B.fieldAddrR (us:=((Qa false g).drop 1)) (tv (T.rp (Qa false g)) rfl) (lb rfl) QV rfl) rfl rfl (lD (OL.loadR1 (t:=(tI g.Cols)) (tv (T.rp ((Qa false g).drop 1)) rfl) rfl Zo) rfl rfl (fD (B.rem (n:=((i % g.Cols.toNat:Nat):Int)) (tv (tN i) rfl) (tv (tI g.Cols) rfl) (by omega) (by (refine Qil ?_;omega))) rfl rfl (VRunD.chain (bi:= [5,7,6,8,1,3,2,4,0]) rfl VWant.always rfl rfl rfl (by kernel_rfl) (OC.callvLoan (ts:= [(tN (i / g.Cols.toNat)),(tN (i % g.Cols.toNat)),(T.rp (Qa false g)),(T.vp [(T.os 1 0 0 (((List.replicate g.Cells.size false).map (Qi true)).length))]),(vtT 122 (T.rp (Qa false g)) (T.vp [(T.os 1 0 0 (((List.replicate g.Cells.size false).map (Qi true)).length))]) 37)]) (k:=0) (r:=(T.tup [])) (rows:=(((Qj g i).2).map (Qi true))) (rows':=((ZV 37 g ((Qj g i).2) ((i / g.Cols.toNat:Nat):Int) ((i % g.Cols.toNat:Nat):Int)).map (Qi true))) rfl rfl (vc (tv (tN (i / g.Cols.toNat)) rfl) (vc (tv (tN (i % g.Cols.toNat)) rfl) vn)) rfl (by simp only [YY,ren,JP,List.cons_append,List.nil_append]) (tl rfl (tl rfl (tl rfl (tl rfl (tl (Qbb rfl rfl _) rfl))))) LRes.none rfl (ZG (fun _=>rfl) _) (ZG (fun _=>rfl) _) (Qbr (n+0) (((List.replicate g.Cells.size false).map (Qi true)).length) g 37 ((Qj g i).2) ((i / g.Cols.toNat:Nat):Int) ((i % g.Cols.toNat:Nat):Int) (by exact fhc0) (by (simp only [Z1,List.length_map,List.length_replicate];done)) (by (simp only [List.length_map,List.length_replicate];omega)) (by omega) (by omega) (by (refine Nat.lt_of_le_of_lt List.count_le_length ?_;rw [Z1];omega)))) (VRunD.nil (vinB.n (tn (VRun.region (fO (QF (tv (tN i) rfl) (VEv.int .i64 1) (by omega)) (mO (tN (i+1)) rfl (VRunO.nil (tn ?_)))))))))))
   have he5:ZV 37 g ((Qj g i).2) ((i / g.Cols.toNat:Nat):Int) ((i % g.Cols.toNat:Nat):Int)=(Qj g (i+1)).2:=by (rw [q1.2];exact QhR hgo hpl fhc1 (Nat.lt_of_le_of_lt List.count_le_length (by omega)) (J6 i hI1) q0.1)
   refine ⟨(i+1:Nat),?_,?_,Wk.mk (fun k=>k) ?_ ?_ ?_⟩
   ·trivial
   ·omega
   ·exact (b2 (b2 (b2 (b2 (bc ⟨(congrArg (T.int .i64) (show ((((Qj g i).1+1):Nat):Int)=(((Qj g (i+1)).1:Nat):Int) from (by omega))),rfl⟩ (b2 (b2 bn)))))))
   ·exact (bc ⟨(congrArg (fun l_=>some (Obj.rows 1 (List.map (Qi true) l_))) he5),(lb rfl),rfl⟩ bn)
   ·exact nd rfl
  have q0:¬QaD g (Qj g i).2 i:=fun h=>fhc2 ⟨h.1,by have:=h.2;unfold on at this;rw [this];rfl⟩
  refine sk (vinB.n (tn (VRun.region (fO (QF (tv (tN i) rfl) (VEv.int .i64 1) (by omega)) (mO (tN (i+1)) rfl (VRunO.nil (tn ?_)))))))
  have he6:(Qj g i).2=(Qj g (i+1)).2:=by (rw [JJ q0];done)
  refine ⟨(i+1:Nat),?_,?_,Wk.mk (fun k=>k) ?_ ?_ ?_⟩
  ·trivial
  ·omega
  ·exact (b2 (b2 (b2 (b2 (bc ⟨(congrArg (T.int .i64) (show (((Qj g i).1:Nat):Int)=(((Qj g (i+1)).1:Nat):Int) from (by (rw [JJ q0];done)))),rfl⟩ (b2 (b2 bn)))))))
  ·exact (bc ⟨(congrArg (fun l_=>some (Obj.rows 1 (List.map (Qi true) l_))) he6),(lb rfl),rfl⟩ bn)
  ·exact nd rfl
 refine VRun.exit (vthn.e (vthn.e (vinB.e (tn (sr (mO (tN ((Qj g i).1)) rfl (aO (tN ((Qj g i).1)) rfl (nt (rt (vi (n':=(((Qj g i).1:Nat):Int)) rfl ?_))))))))))
 exact congrArg (fun x:Nat=>(x:Int)) (Qdk hI1 (.inl hgo) (by omega))
end Go.Proofs.YthifchndolccgaaDoor.AE
namespace Go.Proofs.YthifchndolccgaaDoor.AE
open Go Go.RowKit
set_option linter.unusedVariables false
set_option linter.unusedSimpArgs false
set_option maxRecDepth 20000
set_option maxHeartbeats 2000000
noncomputable section
def QB (g:D.Grid):Int:=if ¬gridOk g then 1 else if ¬QbS g then 2 else if ¬Zm g=1 then 3 else if Qag g then 4 else if JM g then 5 else 0
theorem Qfi {g:D.Grid} (h:QB g=0):gridOk g:=by
 unfold QB at h
 by_cases hg:gridOk g
 ·exact hg
 ·rw [if_pos hg] at h;cases h
theorem Qft {g:D.Grid} (h:∀j s,j<(Qb g).length→(Qb g)[j]? =some s→¬QbJ g j s) (hg:gridOk g):QdK g g.Cells↔JM g:=by
 constructor
 ·rintro ⟨c,h1,h2,_⟩
  exact .inr ⟨c,h1,hg,h2⟩
 ·rintro (⟨j,s,h3,h4⟩ | ⟨c,h1,_,h2⟩)
  ·exact absurd h4 (h j s (List.getElem?_eq_some_iff.1 h3).1 h3)
  ·refine ⟨c,h1,h2,?_⟩
   unfold Jz
   have:=h2.1
   omega
end
theorem J8 (n:Nat) (g:D.Grid) (hc:g.Cells.size≤mx):Pure (Qw Tryd.prog (n+4)) 71 [(T.agg (Qa false g))] (tB (decide (Zm g=1))):=by
 refine Pure.intro (rs:= [ResultVar.tmp 2]) Tryd.func71 rfl rfl rfl (E0:= [(0,(T.agg (Qa false g)))]) rfl ?_
 obtain ⟨hlim,hmx,hmax⟩:=QR
 refine sr (kO (B.box (ts:=(Qa false g)) (tv (T.agg (Qa false g)) rfl) nofun rfl) (fO (OF.assign (VEv.bool false)) (nt (sr (lO (OL.loadOn (us:=(Qa false g)) (tv (T.op 0 0) rfl) rfl QO QM (lb rfl) rfl) (cO (cS (vc (tv (T.agg (Qa false g)) rfl) vn) (LendL.cons (lg Qq) ln) (QcC (n+0) g (by assumption)) rfl rfl) (fO (B.eql (c:=(decide (Zm g=1))) (tv (tN (Zm g)) rfl) (VEv.int .i64 1) (Zb (by omega))) (aO (tB (decide (Zm g=1))) rfl (nt (rt ?_))))))))))
 exact vb rfl rfl
theorem Qal (n:Nat) (g:D.Grid) (hc:g.Cells.size≤mx):Pure (Qw Tryd.prog (n+40)) 77 [(T.agg (Qa false g))] (tB (decide (Zm g=1))):=by
 refine Pure.intro (rs:= [ResultVar.tmp 2]) Tryd.func77 rfl rfl rfl (E0:= [(0,(T.agg (Qa false g)))]) rfl ?_
 obtain ⟨hlim,hmx,hmax⟩:=QR
 refine sr (kO (B.box (ts:=(Qa false g)) (tv (T.agg (Qa false g)) rfl) nofun rfl) (fO (OF.assign (VEv.bool false)) (nt (sr (lO (OL.loadOn (us:=(Qa false g)) (tv (T.op 0 0) rfl) rfl QO QM (lb rfl) rfl) (cO (cS (vc (tv (T.agg (Qa false g)) rfl) vn) (LendL.cons (lg Qq) ln) (Qch (n+0) g (by assumption)) rfl rfl) (fO (B.eql (c:=(decide (Zm g=1))) (tv (tN (Zm g)) rfl) (VEv.int .i64 1) (Zb (by omega))) (aO (tB (decide (Zm g=1))) rfl (nt (rt ?_))))))))))
 exact vb rfl rfl
theorem QcJ (n:Nat) (g:D.Grid) (hc:g.Cells.size≤mx):Pure (Qw Tryd.prog (n+9)) 49 [(T.agg (Qa false g))] (tI (QB g)):=by
 refine Pure.intro (rs:= [ResultVar.tmp 2]) Tryd.func49 rfl rfl rfl (E0:= [(0,(T.agg (Qa false g)))]) rfl ?_
 obtain ⟨hlim,hmx,hmax⟩:=QR
 refine sr (kO (B.box (ts:=(Qa false g)) (tv (T.agg (Qa false g)) rfl) nofun rfl) (fO (OF.assign (VEv.int .i64 0)) (nt (sq (VRun.block (sr (lO (OL.loadOn (us:=(Qa false g)) (tv (T.op 0 0) rfl) rfl QO QM (lb rfl) rfl) (cO (cS (vc (tv (T.agg (Qa false g)) rfl) vn) (LendL.cons (lg Qq) ln) (Zi (n+6) g (by omega)) rfl rfl) (fO (ZL (tv (tB (decide (gridOk g))) rfl)) (aO (tB (!(decide (gridOk g)))) rfl (nt ?_)))))))))))
 refine cn (gridOk g) rfl (fun fhc0=> ?_) fun fhc0=> ?_
 ·refine sr ?_
  refine fO (OF.assign (VEv.int .i64 1)) (nt (rt (vinB.r (tr (vi (n':=1) rfl ?_)))))
  exact (if_pos (by assumption)).symm
 refine sr (lO (OL.loadOn (us:=(Qa false g)) (tv (T.op 0 0) rfl) rfl QO QM (lb rfl) rfl) (cO (cS (vc (tv (T.agg (Qa false g)) rfl) vn) (LendL.cons (lg Qq) ln) (Qak (n+4) g (by omega)) rfl rfl) (fO (ZL (tv (tB (decide (QbS g))) rfl)) (aO (tB (!(decide (QbS g)))) rfl (nt ?_)))))
 refine cn (QbS g) rfl (fun fhc1=> ?_) fun fhc1=> ?_
 ·refine sr ?_
  refine fO (OF.assign (VEv.int .i64 2)) (nt (rt (vinB.r (tr (vi (n':=2) rfl ?_)))))
  (simp only [QB];simp [*];done)
 refine sr (lO (OL.loadOn (us:=(Qa false g)) (tv (T.op 0 0) rfl) rfl QO QM (lb rfl) rfl) (cO (cS (vc (tv (T.agg (Qa false g)) rfl) vn) (LendL.cons (lg Qq) ln) (J8 (n+4) g (by assumption)) rfl rfl) (fO (ZL (tv (tB (decide (Zm g=1))) rfl)) (aO (tB (!(decide (Zm g=1)))) rfl (nt ?_)))))
 refine cn (Zm g=1) rfl (fun fhc2=> ?_) fun fhc2=> ?_
 ·refine sr ?_
  refine fO (OF.assign (VEv.int .i64 3)) (nt (rt (vinB.r (tr (vi (n':=3) rfl ?_)))))
  (simp only [QB];simp [*];done)
 refine sr (lO (OL.loadOn (us:=(Qa false g)) (tv (T.op 0 0) rfl) rfl QO QM (lb rfl) rfl) (cO (cS (vc (tv (T.agg (Qa false g)) rfl) vn) (LendL.cons (lg Qq) ln) (QbQ (n+4) g (by omega)) rfl rfl) (aO (tB (decide (Qag g))) rfl (nt ?_))))
 refine cd (Qag g) rfl (fun fhc3=> ?_) fun fhc3=> ?_
 ·refine sr ?_
  refine fO (OF.assign (VEv.int .i64 4)) (nt (rt (vinB.r (tr (vi (n':=4) rfl ?_)))))
  (simp only [QB];simp [*];done)
 refine sr (lO (OL.loadOn (us:=(Qa false g)) (tv (T.op 0 0) rfl) rfl QO QM (lb rfl) rfl) (cO (cS (vc (tv (T.agg (Qa false g)) rfl) vn) (LendL.cons (lg Qq) ln) (QbG (n+0) g (by omega)) rfl rfl) (aO (tB (decide (JM g))) rfl (nt ?_))))
 refine cd (JM g) rfl (fun fhc4=> ?_) fun fhc4=> ?_
 ·refine sr ?_
  refine fO (OF.assign (VEv.int .i64 5)) (nt (rt (vinB.r (tr (vi (n':=5) rfl ?_)))))
  (simp only [QB];simp [*];done)
 refine sk (vinB.n (tn (sr (fO (OF.assign (VEv.int .i64 0)) (nt (rt (vi (n':=0) rfl ?_)))))))
 (simp only [QB];simp [*];done)
theorem Qc0 (n:Nat) (g:D.Grid) (hc:g.Cells.size≤mx):Pure (Qw Tryd.prog (n+41)) 52 [(T.agg (Qa false g))] (tI (QB g)):=by
 refine Pure.intro (rs:= [ResultVar.tmp 2]) Tryd.func52 rfl rfl rfl (E0:= [(0,(T.agg (Qa false g)))]) rfl ?_
 obtain ⟨hlim,hmx,hmax⟩:=QR
 have hsl:=QZ g
 refine sr (kO (B.box (ts:=(Qa false g)) (tv (T.agg (Qa false g)) rfl) nofun rfl) (fO (OF.assign (VEv.int .i64 0)) (nt (sq (VRun.block (sr (lO (OL.loadOn (us:=(Qa false g)) (tv (T.op 0 0) rfl) rfl QO QM (lb rfl) rfl) (cO (cS (vc (tv (T.agg (Qa false g)) rfl) vn) (LendL.cons (lg Qq) ln) (Zw (n+38) g (by omega)) rfl rfl) (fO (ZL (tv (tB (decide (gridOk g))) rfl)) (aO (tB (!(decide (gridOk g)))) rfl (nt ?_)))))))))))
 refine cn (gridOk g) rfl (fun fhc0=> ?_) fun fhc0=> ?_
 ·refine sr ?_
  refine fO (OF.assign (VEv.int .i64 1)) (nt (rt (vinB.r (tr (vi (n':=1) rfl ?_)))))
  exact (if_pos fhc0).symm
 refine sr (lO (OL.loadOn (us:=(Qa false g)) (tv (T.op 0 0) rfl) rfl QO QM (lb rfl) rfl) (cO (cS (vc (tv (T.agg (Qa false g)) rfl) vn) (LendL.cons (lg Qq) ln) (Qac (n+36) g (by omega)) rfl rfl) (fO (ZL (tv (tB (decide (QbS g))) rfl)) (aO (tB (!(decide (QbS g)))) rfl (nt ?_)))))
 refine cn (QbS g) rfl (fun fhc1=> ?_) fun fhc1=> ?_
 ·refine sr ?_
  refine fO (OF.assign (VEv.int .i64 2)) (nt (rt (vinB.r (tr (vi (n':=2) rfl ?_)))))
  unfold QB;rw [if_neg (not_not_intro fhc0),if_pos fhc1]
 refine sr (lO (OL.loadOn (us:=(Qa false g)) (tv (T.op 0 0) rfl) rfl QO QM (lb rfl) rfl) (cO (cS (vc (tv (T.agg (Qa false g)) rfl) vn) (LendL.cons (lg Qq) ln) (Qal (n+0) g (by assumption)) rfl rfl) (fO (ZL (tv (tB (decide (Zm g=1))) rfl)) (aO (tB (!(decide (Zm g=1)))) rfl (nt ?_)))))
 refine cn (Zm g=1) rfl (fun fhc2=> ?_) fun fhc2=> ?_
 ·refine sr ?_
  refine fO (OF.assign (VEv.int .i64 3)) (nt (rt (vinB.r (tr (vi (n':=3) rfl ?_)))))
  unfold QB;rw [if_neg (not_not_intro fhc0),if_neg (not_not_intro fhc1),if_pos fhc2]
 refine sk (vinB.n (tn (sr (lO (OL.loadOn (us:=(Qa false g)) (tv (T.op 0 0) rfl) rfl QO QM (lb rfl) rfl) (cO (OC.callF (r':=(T.os 4 1 0 (((Qb g).map (Qg true)).length))) (objs:= [(Obj.rows 4 ((Qb g).map (Qg true)))]) rfl (vc (tv (T.agg (Qa false g)) rfl) vn) (LendL.cons (lg Qq) ln) (Yu (n+37) g (by omega)) rfl) (aO (T.os 4 1 0 (((Qb g).map (Qg true)).length)) rfl (nt (sq (sr (mO (T.os 4 1 0 (((Qb g).map (Qg true)).length)) rfl (lO (B.lenO (m:=(Qb g).length) (tv (T.os 4 1 0 (((Qb g).map (Qg true)).length)) rfl) Jl (List.length_map ..)) ?_)))))))))))
 refine fO (OF.move (VEv.int .i64 0)) (nt (VRun.block ?_))
 refine VRun.loop (A:=Nat) (fun s_=> [(1,(T.op 0 0)),(3,(T.os 4 1 0 (((Qb g).map (Qg true)).length))),(22,(T.os 4 1 0 (((Qb g).map (Qg true)).length))),(23,(tN ((Qb g).length))),(24,(tN s_))]) (fun s_=>Q4 [(0,(Obj.cells (Qa false g))),(1,(Obj.rows 4 ((Qb g).map (Qg true))))]) 2 (fun s_=>NoneTo (fun s:D.Slot=>s.Length<3) (Qb g) s_) (fun s_=>(Qb g).length - s_) (0:Nat) ?_ (Wk.mk (fun k=>k) ?_ ?_ ?_) ?_
 ·exact NoneTo.start _ _
 ·exact (b2 (b2 (b2 (b2 (b2 bn)))))
 ·exact (b3 (b3 bn))
 ·exact nd rfl
 rintro i (hI':NoneTo (fun s:D.Slot=>s.Length<3) (Qb g) i)
 show VRun _ _ _ [(1,(T.op 0 0)),(3,(T.os 4 1 0 (((Qb g).map (Qg true)).length))),(22,(T.os 4 1 0 (((Qb g).map (Qg true)).length))),(23,(tN ((Qb g).length))),(24,(tN i))] (Q4 [(0,(Obj.cells (Qa false g))),(1,(Obj.rows 4 ((Qb g).map (Qg true))))]) 2 _
 have hI1:=hI'.1
 have hns:=hI'
 refine sr (fO (Zx (tv (tN i) rfl) (tv (tN ((Qb g).length)) rfl)) (nt (sq ?_)))
 refine cd (i<(Qb g).length) rfl (fun fhc3=> ?_) fun fhc3=> ?_
 ·have hx0:=fhc3
  refine sk (tn (sq (VRun.block (sr ?_))))
  obtain ⟨x1,hx1⟩:∃x,(Qb g)[i]? =some x:=⟨_,List.getElem?_eq_getElem (by omega)⟩
  refine fO (B.indexAddrO (i:=i) (tv (T.os 4 1 0 (((Qb g).map (Qg true)).length)) rfl) (tv (tN i) rfl) rfl (by (simp only [List.length_map];omega)) Jl Zr Qcs) (lO (OL.loadPn (us:=(Qg false x1)) (row:=(Qg true x1)) (tv (T.orp 4 1 i 0) rfl) rfl (QA _ hx1) QeH Zr (lb rfl) rfl (bc rfl (bc rfl (bc rfl (bc rfl bn))))) (kO (B.alloc (t:=(T.agg [(tN 0),(tB false),(tN 0),(tN 0)])) (ts:= [(tN 0),(tB false),(tN 0),(tN 0)]) YD Qjg nofun (fun _=> .agg _ _ rfl (Y5 (RL.cons (.int _ _) (RL.cons (.bool _) (RL.cons (.int _ _) (RL.cons (.int _ _) (RL.nil _))))))) rfl) (cO (B.storeW (us:=(Qg false x1)) (tv (T.op 2 0) rfl) (tv (T.agg (Qg false x1)) rfl) nofun rfl rfl rfl Qcs Zr (bc rfl (bc rfl (bc rfl (bc rfl bn))))) (nt (sr (lf (tI x1.Length) rfl Qao rfl rfl Zo (fO (xls (tv (tI x1.Length) rfl) (VEv.int .i64 3)) (nt ?_))))))))
  refine cd (x1.Length<3) rfl (fun fhc4=> ?_) fun fhc4=> ?_
  ·refine sr ?_
   refine fO (OF.assign (VEv.int .i64 4)) (nt (rt (vinB.r (tr (tr (vinB.r (tr (vi (n':=4) rfl ?_))))))))
   unfold QB;rw [if_neg (not_not_intro fhc0),if_neg (not_not_intro fhc1),if_neg (not_not_intro fhc2),if_pos (show Qag g from ⟨x1,List.mem_of_getElem? hx1,fhc4⟩)]
  refine sk (vinB.n (tn (VRun.region (fO (QF (tv (tN i) rfl) (VEv.int .i64 1) (by omega)) (mO (tN (i+1)) rfl (VRunO.nil (tn ?_)))))))
  refine ⟨(i+1:Nat),?_,?_,Wk.mk (fun k=>k) ?_ ?_ ?_⟩
  ·exact hI'.next hx1 fhc4
  ·omega
  ·exact (b2 (b2 (b2 (b2 (b2 bn)))))
  ·exact (b3 (b3 bn))
  ·exact nd rfl
 have hsh:¬Qag g:=by rintro ⟨y,hy,hy2⟩;exact hns.mem fhc3 y hy hy2
 refine VRun.exit (vthn.e (vthn.e (vinB.e (tn (sq (sr (mO (T.os 4 1 0 (((Qb g).map (Qg true)).length)) rfl (lO (B.lenO (m:=(Qb g).length) (tv (T.os 4 1 0 (((Qb g).map (Qg true)).length)) rfl) Jl (List.length_map ..)) (fO (OF.move (VEv.int .i64 0)) (nt (VRun.block ?_)))))))))))
 refine VRun.loop (A:=Nat) (fun s_=> [(1,(T.op 0 0)),(32,(T.os 4 1 0 (((Qb g).map (Qg true)).length))),(33,(tN ((Qb g).length))),(34,(tN s_))]) (fun s_=>Q4 [(0,(Obj.cells (Qa false g))),(1,(Obj.rows 4 ((Qb g).map (Qg true))))]) 2 (fun s_=>NoBad g s_) (fun s_=>(Qb g).length - s_) (0:Nat) ?_ (Wk.mk (fun k=>k) ?_ ?_ ?_) ?_
 ·exact NoBad.start _
 ·exact (b2 (b2 (b2 (b2 bn))))
 ·exact (b3 (b3 bn))
 ·exact nd rfl
 rintro k (hI':NoBad g k)
 show VRun _ _ _ [(1,(T.op 0 0)),(32,(T.os 4 1 0 (((Qb g).map (Qg true)).length))),(33,(tN ((Qb g).length))),(34,(tN k))] (Q4 [(0,(Obj.cells (Qa false g))),(1,(Obj.rows 4 ((Qb g).map (Qg true))))]) 2 _
 have hJ1:=hI'.1
 have hub:=QgL g ((k:Nat):Int)
 refine sr (fO (Zx (tv (tN k) rfl) (tv (tN ((Qb g).length)) rfl)) (nt (sq ?_)))
 refine cd (k<(Qb g).length) rfl (fun fhc5=> ?_) fun fhc5=> ?_
 ·refine sk ?_
  refine tn (sq (VRun.block (sr (mO (tN k) rfl ?_))))
  obtain ⟨x1,hx1⟩:∃x,(Qb g)[k]? =some x:=⟨_,List.getElem?_eq_getElem (by omega)⟩
  refine fO (B.indexAddrO (i:=k) (tv (T.os 4 1 0 (((Qb g).map (Qg true)).length)) rfl) (tv (tN k) rfl) rfl (by (simp only [List.length_map];omega)) Jl Zr Qcs) (lO (OL.loadPn (us:=(Qg false x1)) (row:=(Qg true x1)) (tv (T.orp 4 1 k 0) rfl) rfl (QA _ hx1) QeH Zr (lb rfl) rfl (bc rfl (bc rfl (bc rfl (bc rfl bn))))) (kO (B.alloc (t:=(T.agg [(tN 0),(tB false),(tN 0),(tN 0)])) (ts:= [(tN 0),(tB false),(tN 0),(tN 0)]) YD Qjg nofun (fun _=> .agg _ _ rfl (Y5 (RL.cons (.int _ _) (RL.cons (.bool _) (RL.cons (.int _ _) (RL.cons (.int _ _) (RL.nil _))))))) rfl) (aO (tN k) rfl (cO (B.storeW (us:=(Qg false x1)) (tv (T.op 2 0) rfl) (tv (T.agg (Qg false x1)) rfl) nofun rfl rfl rfl Qcs Zr (bc rfl (bc rfl (bc rfl (bc rfl bn))))) (nt (sq (VRun.draw (B:= [[],[],[1,0],[0,1,2],[],[4],[4,5,2,1,0,3]]) (by kernel_rfl) (by kernel_rfl) (lD (OL.loadOn (us:=(Qa false g)) (tv (T.op 0 0) rfl) rfl QO QM (lb rfl) rfl) rfl rfl (mD (tN k) rfl rfl (VRunD.quiet (bi:= [1,0]) rfl VWant.always rfl rfl rfl bn (cS (vc (tv (T.agg (Qa false g)) rfl) (vc (tv (tN k) rfl) vn)) (LendL.cons (lg Qq) (lp rfl ln)) (Qaf (n+33) g ((k:Nat):Int) (by omega)) rfl rfl) (fD (B.mul (n:=(2*unG g ((k:Nat):Int))) (VEv.int .i64 2) (tv (tI (unG g ((k:Nat):Int))) rfl) (by (rw [Qz (by omega)];done))) rfl rfl ?_)))))))))))
  refine fD (OF.fieldAddrO (tv (T.op 2 0) rfl) Qao) rfl rfl (lD (OL.loadO1 (t:=(tI x1.Length)) (tv (T.op 2 3) rfl) rfl rfl Zo) rfl rfl (fD (xgt (tv (tI (2*unG g ((k:Nat):Int))) rfl) (tv (tI x1.Length) rfl)) rfl rfl (VRunD.nil (tn ?_))))
  refine cd (x1.Length<(2*unG g ((k:Nat):Int))) rfl (fun fhc6=> ?_) fun fhc6=> ?_
  ·have q1:QbJ g k x1:=by unfold QbJ;omega
   refine sr (fO (OF.assign (VEv.int .i64 5)) (nt (rt (vinB.r (tr (tr (vinB.r (tr (vi (n':=5) rfl ?_)))))))))
   unfold QB;rw [if_neg (not_not_intro fhc0),if_neg (not_not_intro fhc1),if_neg (not_not_intro fhc2),if_neg hsh,if_pos (show JM g from .inl ⟨k,x1,hx1,q1⟩)]
  have q1:¬QbJ g k x1:=by unfold QbJ;omega
  refine sk (vinB.n (tn (VRun.region (fO (QF (tv (tN k) rfl) (VEv.int .i64 1) (by omega)) (mO (tN (k+1)) rfl (VRunO.nil (tn ?_)))))))
  refine ⟨(k+1:Nat),?_,?_,Wk.mk (fun k=>k) ?_ ?_ ?_⟩
  ·exact hI'.next hx1 q1
  ·omega
  ·exact (b2 (b2 (b2 (b2 bn))))
  ·exact (b3 (b3 bn))
  ·exact nd rfl
 have hal:=Qft (g:=g) (fun j s hj=>hI'.2 j s (by omega)) (by simpa using fhc0)
 refine VRun.exit (vthn.e (vthn.e (vinB.e (tn (sq (sr (lO (OL.loadOn (us:=(Qa false g)) (tv (T.op 0 0) rfl) rfl QO QM (lb rfl) rfl) (lf (tS g.Cells) rfl QC rfl rfl ZX (cO (cS (vc (tv (T.agg (Qa false g)) rfl) (vc (tv (tS g.Cells) rfl) vn)) (LendL.cons (lg Qq) (lp rfl ln)) (QdH (n+35) g g.Cells (by omega) (by omega)) rfl rfl) (nt ?_))))))))))
 refine cd (QdK g g.Cells) rfl (fun fhc7=> ?_) fun fhc7=> ?_
 ·refine sr ?_
  refine fO (OF.assign (VEv.int .i64 5)) (nt (rt (tr (vi (n':=5) rfl ?_))))
  unfold QB;rw [if_neg (not_not_intro fhc0),if_neg (not_not_intro fhc1),if_neg (not_not_intro fhc2),if_neg hsh,if_pos (hal.1 fhc7)]
 refine sk (tn (sr (fO (OF.assign (VEv.int .i64 0)) (nt (rt (vi (n':=0) rfl ?_))))))
 unfold QB;rw [if_neg (not_not_intro fhc0),if_neg (not_not_intro fhc1),if_neg (not_not_intro fhc2),if_neg hsh,if_neg (fun h=>fhc7 (hal.2 h))]
end Go.Proofs.YthifchndolccgaaDoor.AE
namespace Go.Proofs.YthifchndolccgaaDoor.AE
open Go Go.RowKit
set_option linter.unusedVariables false
set_option linter.unusedSimpArgs false
set_option maxRecDepth 20000
set_option maxHeartbeats 2000000
noncomputable section
def Qcf : Nat→Int→ByteArray→ByteArray
 | 0,_,acc=>acc
 | f+1,k,acc=>if 0<k then Qcf f (k.tdiv 10) (ZZ [IntKind.u8.wrap (48+k.tmod 10)]++acc) else acc
def Je (k:Int):ByteArray:=if k≤0 then ⟨#[109,48]⟩ else ⟨#[109]⟩++Qcf k.toNat k ⟨#[]⟩
theorem Qgw {f:Nat} {k:Int} {acc:ByteArray} (hk:0<k) (hf:k.toNat≤f):0≤k.tdiv 10∧(k.tdiv 10).toNat≤f - 1∧Qcf f k acc=Qcf (f - 1) (k.tdiv 10) (ZZ [IntKind.u8.wrap (48+k.tmod 10)]++acc):=by
 have h1:k.tdiv 10=k / 10:=Int.tdiv_eq_ediv_of_nonneg (by omega)
 cases f with
 | zero=>omega
 | succ f =>
  refine ⟨by omega,by omega,?_⟩
  simp only [Qcf,if_pos hk]
  rfl
theorem Qhj {f:Nat} {k:Int} {acc:ByteArray} (hk:¬ 0<k):Qcf f k acc=acc:=by
 cases f with
 | zero=>rfl
 | succ f=>simp only [Qcf,if_neg hk]
theorem QgZ (n:Int):(ZZ [n]).size=1:=rfl
theorem Qjo {k:Int} (h:0<k):0≤k.tmod 10∧k.tmod 10<10∧0≤k.tdiv 10∧k.tdiv 10≤k:=by
 rw [Int.tmod_eq_emod_of_nonneg (by omega),Int.tdiv_eq_ediv_of_nonneg (by omega)]
 omega
end
theorem Ji (n:Nat) (q:Int) (hq:q≤Z7):Pure (Qw Tryd.prog (n+1)) 48 [(tI q)] (tS (Je q)):=by
 refine Pure.intro (rs:= [ResultVar.tmp 2]) Tryd.func48 rfl rfl rfl (E0:= [(0,(tI q))]) rfl ?_
 obtain ⟨hlim,hmx,hmax⟩:=QR
 refine sr (fO (OF.assign (VEv.str (⟨#[]⟩:ByteArray))) (nt (sq (sr (mO (tI q) rfl (fO (xle (tv (tI q) rfl) (VEv.int .i64 0)) (nt ?_)))))))
 refine cd (q≤0) rfl (fun fhc0=> ?_) fun fhc0=> ?_
 ·refine sr ?_
  refine fO (OF.assign (VEv.str (⟨#[109,48]⟩:ByteArray))) (nt (rt (tr ?_)))
  refine vfin.eq (r':=(tS (⟨#[109,48]⟩:ByteArray))) ?_ (vfin.r (VRes.tmp (t:=(tS (⟨#[109,48]⟩:ByteArray))) rfl VRes.nil) (Give.str _))
  refine congrArg T.str ?_
  exact (if_pos fhc0).symm
 refine sk (tn (sr (fO (OF.assign (VEv.str (⟨#[]⟩:ByteArray))) (nt (sq (VRun.block ?_))))))
 refine VRun.loop (A:=Int×Nat×ByteArray) (fun s_=> [(0,(tI s_.1)),(2,(tS (⟨#[]⟩:ByteArray))),(3,(tS s_.2.2))]) (fun s_=>Q4 []) 0 (fun s_=>0≤s_.1∧s_.1.toNat≤s_.2.1∧s_.2.2.size+s_.2.1≤q.toNat∧Qcf q.toNat q ⟨#[]⟩=Qcf s_.2.1 s_.1 s_.2.2) (fun s_=>s_.2.1) ((q,q.toNat,⟨#[]⟩):Int×Nat×ByteArray) ?_ (Wk.mk (fun k=>k) ?_ ?_ ?_) ?_
 ·exact ⟨by omega,Nat.le_refl _,by show 0+q.toNat≤q.toNat;omega,rfl⟩
 ·exact (b2 (b2 (bc ⟨(congrArg T.str (show (⟨#[]⟩:ByteArray)=⟨#[]⟩ from (by rfl))),rfl⟩ bn)))
 ·exact bn
 ·exact nd rfl
 rintro ⟨k,f,acc⟩ (hI':0≤k∧k.toNat≤f∧acc.size+f≤q.toNat∧Qcf q.toNat q ⟨#[]⟩=Qcf f k acc)
 show VRun _ _ _ [(0,(tI k)),(2,(tS (⟨#[]⟩:ByteArray))),(3,(tS acc))] (Q4 []) 0 _
 have hI1:=hI'.1
 have hI2:=hI'.2.1
 have hI3:=hI'.2.2.1
 have hI4:=hI'.2.2.2
 refine sq (sr (mO (tI k) rfl (fO (xgt (tv (tI k) rfl) (VEv.int .i64 0)) (nt ?_))))
 refine cd (0<k) rfl (fun fhc1=> ?_) fun fhc1=> ?_
 ·obtain ⟨m1,m2,m3,m4⟩:=Qjo fhc1
  refine sk (tn (VRun.block (sr (mO (tI k) rfl (fO (B.rem (n:=(k.tmod 10)) (tv (tI k) rfl) (VEv.int .i64 10) (by omega) (by rfl)) (fO (B.add (n:=(48+(k.tmod 10))) (VEv.int .i64 48) (tv (tI (k.tmod 10)) rfl) (by (rw [Qz (by omega)];done))) (fO (OF.convI (tv (tI (48+(k.tmod 10))) rfl) (k0:= .i64) U3 U5) (kO (OM.buildSlice (l:= [(T.int .u8 (IntKind.u8.wrap (48+(k.tmod 10))))]) (VEvp.cons (tv (T.int .u8 (IntKind.u8.wrap (48+(k.tmod 10)))) rfl) VEvp.nil) rfl (by decide) (bc (nofun) bn) (bc ((bc (rfl) bn)) bn) (bc (rfl) bn) U88 zo5 (by kernel_rfl) rfl (by rw [sz5];decide) sz5 (Nat.le_of_ble_eq_true rfl)) (lO (B.convBS (l:= [IntKind.u8.wrap (48+(k.tmod 10))]) (tv (T.os 1 0 0 1) rfl) rfl rfl U88 U5 U9) (mO (tS acc) rfl (fO (B.sadd (tv (tS (ZZ [IntKind.u8.wrap (48+(k.tmod 10))])) rfl) (tv (tS acc) rfl) (by (simp only [QgZ];omega))) ?_)))))))))))
  refine aO (tS ((ZZ [IntKind.u8.wrap (48+(k.tmod 10))])++acc)) rfl (nt (VRun.region (mO (tI k) rfl (fO (B.quo (n:=(k.tdiv 10)) (tv (tI k) rfl) (VEv.int .i64 10) (by omega) (by (rw [Qz (by omega)];done))) (aO (tI (k.tdiv 10)) rfl (VRunO.nil (vinB.n (tn ?_))))))))
  obtain ⟨n1,n2,n3⟩:=Qgw (acc:=acc) fhc1 hI2
  refine ⟨((k.tdiv 10,f - 1,ZZ [IntKind.u8.wrap (48+k.tmod 10)]++acc):Int×Nat×ByteArray),?_,?_,Wk.mk (fun k=>k) ?_ ?_ ?_⟩
  ·exact ⟨n1,n2,by show (ZZ _++acc).size+(f - 1)≤q.toNat;rw [ByteArray.size_append,QgZ];omega,hI4.trans n3⟩
  ·(simp only [];omega)
  ·exact (b2 (b2 (bc ⟨(congrArg T.str (show ((ZZ [IntKind.u8.wrap (48+(k.tmod 10))])++acc)=(ZZ [IntKind.u8.wrap (48+k.tmod 10)]++acc) from (by rfl))),rfl⟩ bn)))
  ·exact bn
  ·exact nd rfl
 refine VRun.exit (vthn.e (vthn.e (vinB.e (tn (sr (mO (tS acc) rfl (fO (B.sadd (VEv.str (⟨#[109]⟩:ByteArray)) (tv (tS acc) rfl) (by (rw [show (⟨#[109]⟩:ByteArray).size=1 from rfl];omega))) (aO (tS ((⟨#[109]⟩:ByteArray)++acc)) rfl (nt (rt ?_))))))))))
 refine vfin.eq (r':=(tS ((⟨#[109]⟩:ByteArray)++acc))) ?_ (vfin.r (VRes.tmp (t:=(tS ((⟨#[109]⟩:ByteArray)++acc))) rfl VRes.nil) (Give.str _))
 refine congrArg T.str ?_
 unfold Je
 rw [if_neg fhc0,hI4,Qhj fhc1]
end Go.Proofs.YthifchndolccgaaDoor.AE
namespace Go.Proofs.YthifchndolccgaaDoor.AE
open Go Go.RowKit
set_option linter.unusedVariables false
set_option linter.unusedSimpArgs false
set_option maxRecDepth 20000
set_option maxHeartbeats 2000000
noncomputable section
def QX (k:Nat):D.Step:=(D.Step.mk ((k:Nat):Int) (Je ((k+1:Nat):Int)) ((k+2:Nat):Int) ((k+3:Nat):Int))
end
theorem Qbh (n:Nat) (a:List D.Step) (k:Nat) (hk:k+4*a.length≤Z7):Mut (Qw Tryd.prog (n+2)) 47 4 (a.map (Qp true)) [(tN k)] (some ((k+4*a.length:Nat):Int)) ((mkN QX 4 k a.length).map (Qp true)):=by
 refine Mut.intro (rt:=4) Tryd.func47 rfl rfl rfl (by kernel_rfl) (ZG (fun _=>rfl) _) (ZG (fun _=>rfl) _) (E0:= [(1,(tN k))]) rfl ?_
 obtain ⟨hlim,hmx,hmax⟩:=QR
 refine sr (fO (OF.assign (VEv.int .i64 0)) (nt (sq (sr (fO (OF.assign (VEv.int .i64 0)) (nt (VRun.block ?_)))))))
 have he1:a=Jo QX 4 k a 0:=by rfl
 refine VRun.loop (A:=Nat) (fun s_=> [(0,(T.os 4 0 0 (((Jo QX 4 k a s_).map (Qp true)).length))),(1,(tN (k+4*s_))),(4,(tN 0)),(5,(tN s_))]) (fun s_=>Q4 [(0,(Obj.rows 4 ((Jo QX 4 k a s_).map (Qp true))))]) 1 (fun s_=>s_≤a.length) (fun s_=>a.length - s_) (0:Nat) ?_ (Wk.mk (fun k=>k) ?_ ?_ ?_) ?_
 ·(simp;done)
 ·exact (bc ⟨(congrArg (fun l_=>T.os 4 0 0 (List.map (Qp true) l_).length) he1),rfl⟩ (bc ⟨(congrArg (T.int .i64) (show ((k:Nat):Int)=((k+4*0:Nat):Int) from (by rfl))),rfl⟩ (b2 (b2 bn))))
 ·exact (bc ⟨(congrArg (fun l_=>some (Obj.rows 4 (List.map (Qp true) l_))) he1),(lb rfl),rfl⟩ bn)
 ·exact nd rfl
 rintro i (hI':i≤a.length)
 show VRun _ _ _ [(0,(T.os 4 0 0 (((Jo QX 4 k a i).map (Qp true)).length))),(1,(tN (k+4*i))),(4,(tN 0)),(5,(tN i))] (Q4 [(0,(Obj.rows 4 ((Jo QX 4 k a i).map (Qp true))))]) 1 _
 have hml:=QdE (f:=QX) (w:=4) (k:=k) hI'
 refine sq (sr (mO (tN i) rfl (mO (T.os 4 0 0 (((Jo QX 4 k a i).map (Qp true)).length)) rfl (lO (B.lenO (m:=(Jo QX 4 k a i).length) (tv (T.os 4 0 0 (((Jo QX 4 k a i).map (Qp true)).length)) rfl) U41 (List.length_map ..)) (fO (Zx (tv (tN i) rfl) (tv (tN ((Jo QX 4 k a i).length)) rfl)) (nt ?_))))))
 refine cd (i<(Jo QX 4 k a i).length) rfl (fun fhc0=> ?_) fun fhc0=> ?_
 ·refine sk ?_
  refine tn (sq (VRun.block (sr (mO (T.os 4 0 0 (((Jo QX 4 k a i).map (Qp true)).length)) rfl (mO (tN i) rfl (mO (tN (k+4*i)) rfl ?_))))))
  obtain ⟨x1,hx1⟩:∃x,(Jo QX 4 k a i)[i]? =some x:=⟨_,List.getElem?_eq_getElem (by omega)⟩
  refine fO (B.indexAddrO (i:=i) (tv (T.os 4 0 0 (((Jo QX 4 k a i).map (Qp true)).length)) rfl) (tv (tN i) rfl) rfl (by (simp only [List.length_map];omega)) U41 Qad QcQ) (fO (OF.fieldAddrP (tv (T.orp 4 0 i 0) rfl) Qdr) (cO (B.storeP (us:= [(tN (k+4*i))]) (rows':=(((Jo QX 4 k a i).set i (D.Step.mk ((k+4*i:Nat):Int) x1.Word x1.A x1.B)).map (Qp true))) (row:=(Qp true x1)) (tv (T.orp 4 0 i 0) rfl) (tv (tN (k+4*i)) rfl) nofun rfl (QA _ hx1) rfl (lb rfl) if3 YK (bc rfl bn) (by intro r hr t ht;obtain ⟨x,_,rfl⟩:=List.mem_map.1 hr;rw [QdQ] at ht;exact Zv (okeStep.pl _ t ht)) (Zs rfl)) (nt (sr (mO (tN (k+4*i)) rfl (fO (QF (tv (tN (k+4*i)) rfl) (VEv.int .i64 1) (by omega)) (aO (tN (k+4*i+1)) rfl (nt (sr (mO (T.os 4 0 0 (((Jo QX 4 k a i).map (Qp true)).length)) rfl (mO (tN i) rfl ?_)))))))))))
  refine mO (tN (k+4*i+1)) rfl (cO (cS (vc (tv (tN (k+4*i+1)) rfl) vn) (lps rfl) (Ji (n+0) (((k+4*i+1):Nat):Int) (by omega)) rfl rfl) (fO (B.indexAddrO (i:=i) (tv (T.os 4 0 0 (((Jo QX 4 k a i).map (Qp true)).length)) rfl) (tv (tN i) rfl) rfl (by (simp only [List.length_map];omega)) U41 Qad QcQ) (fO (OF.fieldAddrP (tv (T.orp 4 0 i 0) rfl) Qdo) (cO (B.storeP (us:= [(tS (Je (((k+4*i+1):Nat):Int)))]) (rows':=((((Jo QX 4 k a i).set i (D.Step.mk ((k+4*i:Nat):Int) x1.Word x1.A x1.B)).set i (D.Step.mk ((k+4*i:Nat):Int) (Je (((k+4*i+1):Nat):Int)) x1.A x1.B)).map (Qp true))) (row:=(Qp true (D.Step.mk ((k+4*i:Nat):Int) x1.Word x1.A x1.B))) (tv (T.orp 4 0 i 1) rfl) (tv (tS (Je (((k+4*i+1):Nat):Int))) rfl) nofun rfl (QA _ (Qd4 (by omega))) rfl (lb rfl) if9 sz9 (bc rfl bn) (by intro r hr t ht;obtain ⟨x,_,rfl⟩:=List.mem_map.1 hr;rw [QdQ] at ht;exact Zv (okeStep.pl _ t ht)) (Zs rfl)) (nt (sr (mO (tN (k+4*i+1)) rfl (fO (QF (tv (tN (k+4*i+1)) rfl) (VEv.int .i64 1) (by omega)) (aO (tN ((k+4*i+1)+1)) rfl (nt (sr ?_)))))))))))
  refine mO (T.os 4 0 0 (((Jo QX 4 k a i).map (Qp true)).length)) rfl (mO (tN i) rfl (mO (tN ((k+4*i+1)+1)) rfl (fO (B.indexAddrO (i:=i) (tv (T.os 4 0 0 (((Jo QX 4 k a i).map (Qp true)).length)) rfl) (tv (tN i) rfl) rfl (by (simp only [List.length_map];omega)) U41 Qad QcQ) (fO (OF.fieldAddrP (tv (T.orp 4 0 i 0) rfl) Qds) (cO (B.storeP (us:= [(tN ((k+4*i+1)+1))]) (rows':=(((((Jo QX 4 k a i).set i (D.Step.mk ((k+4*i:Nat):Int) x1.Word x1.A x1.B)).set i (D.Step.mk ((k+4*i:Nat):Int) (Je (((k+4*i+1):Nat):Int)) x1.A x1.B)).set i (D.Step.mk ((k+4*i:Nat):Int) (Je (((k+4*i+1):Nat):Int)) ((((k+4*i+1)+1):Nat):Int) x1.B)).map (Qp true))) (row:=(Qp true (D.Step.mk ((k+4*i:Nat):Int) (Je (((k+4*i+1):Nat):Int)) x1.A x1.B))) (tv (T.orp 4 0 i 2) rfl) (tv (tN ((k+4*i+1)+1)) rfl) nofun rfl (QA _ (Qd4 (by (simp only [List.length_set];omega)))) rfl (lb rfl) if3 YK (bc rfl bn) (by intro r hr t ht;obtain ⟨x,_,rfl⟩:=List.mem_map.1 hr;rw [QdQ] at ht;exact Zv (okeStep.pl _ t ht)) (Zs rfl)) (nt (sr (mO (tN ((k+4*i+1)+1)) rfl (fO (QF (tv (tN ((k+4*i+1)+1)) rfl) (VEv.int .i64 1) (by omega)) (aO (tN (((k+4*i+1)+1)+1)) rfl (nt ?_)))))))))))
  refine sr (mO (T.os 4 0 0 (((Jo QX 4 k a i).map (Qp true)).length)) rfl (mO (tN i) rfl (mO (tN (((k+4*i+1)+1)+1)) rfl (fO (B.indexAddrO (i:=i) (tv (T.os 4 0 0 (((Jo QX 4 k a i).map (Qp true)).length)) rfl) (tv (tN i) rfl) rfl (by (simp only [List.length_map];omega)) U41 Qad QcQ) (fO (OF.fieldAddrP (tv (T.orp 4 0 i 0) rfl) QdP) (cO (B.storeP (us:= [(tN (((k+4*i+1)+1)+1))]) (rows':=((((((Jo QX 4 k a i).set i (D.Step.mk ((k+4*i:Nat):Int) x1.Word x1.A x1.B)).set i (D.Step.mk ((k+4*i:Nat):Int) (Je (((k+4*i+1):Nat):Int)) x1.A x1.B)).set i (D.Step.mk ((k+4*i:Nat):Int) (Je (((k+4*i+1):Nat):Int)) ((((k+4*i+1)+1):Nat):Int) x1.B)).set i (D.Step.mk ((k+4*i:Nat):Int) (Je (((k+4*i+1):Nat):Int)) ((((k+4*i+1)+1):Nat):Int) (((((k+4*i+1)+1)+1):Nat):Int))).map (Qp true))) (row:=(Qp true (D.Step.mk ((k+4*i:Nat):Int) (Je (((k+4*i+1):Nat):Int)) ((((k+4*i+1)+1):Nat):Int) x1.B))) (tv (T.orp 4 0 i 3) rfl) (tv (tN (((k+4*i+1)+1)+1)) rfl) nofun rfl (QA _ (Qd4 (by (simp only [List.length_set];omega)))) rfl (lb rfl) if3 YK (bc rfl bn) (by intro r hr t ht;obtain ⟨x,_,rfl⟩:=List.mem_map.1 hr;rw [QdQ] at ht;exact Zv (okeStep.pl _ t ht)) (Zs rfl)) (nt (VRun.region (mO (tN (((k+4*i+1)+1)+1)) rfl (fO (QF (tv (tN (((k+4*i+1)+1)+1)) rfl) (VEv.int .i64 1) (by omega)) (aO (tN ((((k+4*i+1)+1)+1)+1)) rfl ?_)))))))))))
  refine VRunO.nil (vinB.n (tn (VRun.region (mO (tN i) rfl (fO (QF (tv (tN i) rfl) (VEv.int .i64 1) (by omega)) (aO (tN (i+1)) rfl (VRunO.nil (tn ?_))))))))
  have hi1:i+1≤a.length:=by omega
  have he2:(((((Jo QX 4 k a i).set i (D.Step.mk ((k+4*i:Nat):Int) x1.Word x1.A x1.B)).set i (D.Step.mk ((k+4*i:Nat):Int) (Je (((k+4*i+1):Nat):Int)) x1.A x1.B)).set i (D.Step.mk ((k+4*i:Nat):Int) (Je (((k+4*i+1):Nat):Int)) ((((k+4*i+1)+1):Nat):Int) x1.B)).set i (D.Step.mk ((k+4*i:Nat):Int) (Je (((k+4*i+1):Nat):Int)) ((((k+4*i+1)+1):Nat):Int) (((((k+4*i+1)+1)+1):Nat):Int)))=Jo QX 4 k a (i+1):=by (simp only [List.set_set];refine Qik ?_;omega)
  refine ⟨(i+1:Nat),?_,?_,Wk.mk (fun k=>k) ?_ ?_ ?_⟩
  ·trivial
  ·omega
  ·exact (bc ⟨(congrArg (fun n_=>T.os 4 0 0 n_) (show ((Jo QX 4 k a i).map (Qp true)).length=((Jo QX 4 k a (i+1)).map (Qp true)).length from (by rw [List.length_map,List.length_map,QdE hI',QdE hi1]))),rfl⟩ (bc ⟨(congrArg (T.int .i64) (show ((((((k+4*i+1)+1)+1)+1):Nat):Int)=((k+4*(i+1):Nat):Int) from (by rfl))),rfl⟩ (b2 (b2 bn))))
  ·exact (bc ⟨(congrArg (fun l_=>some (Obj.rows 4 (List.map (Qp true) l_))) he2),(lb rfl),rfl⟩ bn)
  ·exact nd rfl
 refine VRun.exit (vthn.e (vthn.e (vinB.e (tn (sr (mO (tN (k+4*i)) rfl (aO (tN (k+4*i)) rfl (nt (rt ?_)))))))))
 refine vmut.r (r0:=((k+4*i:Nat):Int)) (rows:=((Jo QX 4 k a i).map (Qp true))) rfl rfl rfl ?_ ?_ rfl
 ·(push_cast;omega)
 ·show List.map _ (Jo QX 4 k a i)=List.map _ (mkN QX 4 k a.length)
  refine congrArg (List.map _) ?_
  exact Qh7 hI' (by omega)
theorem QaU (n:Nat) (a:List D.Step) (k:Nat) (hh:a=mkN QX 4 k a.length) (hk:k+4*a.length≤Z7):Pure (Qw Tryd.prog (n+2)) 81 [(rd 4 Qp a),(tN k)] (tN (k+4*a.length)):=by
 refine Pure.intro (rs:= [ResultVar.tmp 4]) Tryd.func81 rfl rfl rfl (E0:= [(0,(rd 4 Qp a)),(1,(tN k))]) rfl ?_
 obtain ⟨hlim,hmx,hmax⟩:=QR
 refine sr (fO (OF.assign (VEv.int .i64 0)) (nt (sq (sr (fO (OF.assign (VEv.int .i64 0)) (nt (VRun.block ?_)))))))
 refine VRun.loop (A:=Nat) (fun s_=> [(0,(rd 4 Qp a)),(1,(tN (k+4*s_))),(5,(tN s_))]) (fun s_=>Q4 []) 0 (fun s_=>s_≤a.length) (fun s_=>a.length - s_) (0:Nat) ?_ (Wk.mk (fun k=>k) ?_ ?_ ?_) ?_
 ·(simp;done)
 ·exact (b2 (bc ⟨(congrArg (T.int .i64) (show ((k:Nat):Int)=((k+4*0:Nat):Int) from (by rfl))),rfl⟩ (b2 bn)))
 ·exact bn
 ·exact nd rfl
 rintro i (hI':i≤a.length)
 show VRun _ _ _ [(0,(rd 4 Qp a)),(1,(tN (k+4*i))),(5,(tN i))] (Q4 []) 0 _
 refine sq (sr (mO (tN i) rfl (mO (rd 4 Qp a) rfl (lO (B.lenR (m:=a.length) (tv (rd 4 Qp a) rfl) U41 (List.length_map ..)) (fO (Zx (tv (tN i) rfl) (tv (tN a.length) rfl)) (nt ?_))))))
 refine cd (i<a.length) rfl (fun fhc0=> ?_) fun fhc0=> ?_
 ·refine sk ?_
  refine tn (sq (VRun.block (sq (sr (mO (rd 4 Qp a) rfl (mO (tN i) rfl ?_))))))
  obtain ⟨x1,hx1⟩:∃x,a[i]? =some x:=⟨_,List.getElem?_eq_getElem (by omega)⟩
  refine fO (OF.indexAddrR (row:=(Qp false x1)) (i:=i) (tv (rd 4 Qp a) rfl) (tv (tN i) rfl) rfl (QA _ hx1) U41 Qad QcQ) (lr (tI x1.Kind) rfl (lb rfl) Qdr rfl Zo (mO (tN (k+4*i)) rfl (fO (xne (tv (tI x1.Kind) rfl) (tv (tN (k+4*i)) rfl)) (nt ?_))))
  refine cn (x1.Kind=((k+4*i:Nat):Int)) rfl (fun fhc1=> ?_) fun fhc1=> ?_
  ·exact absurd (congrArg (fun x=>x.Kind) (QdB hh hx1)) fhc1
  refine sk (tn (sr (mO (tN (k+4*i)) rfl (fO (QF (tv (tN (k+4*i)) rfl) (VEv.int .i64 1) (by omega)) (aO (tN (k+4*i+1)) rfl (nt (sq (sq (VRun.draw (B:= [[],[],[1,0],[0,1,2],[2,1,0,3],[],[5],[5,6,3,0,1,2,4]]) (by kernel_rfl) (by kernel_rfl) (mD (rd 4 Qp a) rfl rfl (mD (tN i) rfl rfl ?_)))))))))))
  refine fD (OF.indexAddrR (row:=(Qp false x1)) (i:=i) (tv (rd 4 Qp a) rfl) (tv (tN i) rfl) rfl (QA _ hx1) U41 Qad QcQ) rfl rfl (fD (B.fieldAddrR (us:=((Qp false x1).drop 1)) (tv (T.rp (Qp false x1)) rfl) (lb rfl) Qdo rfl) rfl rfl (lD (OL.loadR1 (t:=(tS x1.Word)) (tv (T.rp ((Qp false x1).drop 1)) rfl) rfl ZX) rfl rfl (mD (tN (k+4*i+1)) rfl rfl (VRunD.quiet (bi:= [5]) rfl VWant.always rfl rfl rfl bn (cS (vc (tv (tN (k+4*i+1)) rfl) vn) (lps rfl) (Ji (n+0) (((k+4*i+1):Nat):Int) (by omega)) rfl rfl) (fD (B.sneq (c:=(!(decide (x1.Word=Je (((k+4*i+1):Nat):Int))))) (tv (tS x1.Word) rfl) (tv (tS (Je (((k+4*i+1):Nat):Int))) rfl) rfl) rfl rfl (VRunD.nil (tn ?_)))))))
  refine cn (x1.Word=Je (((k+4*i+1):Nat):Int)) rfl (fun fhc2=> ?_) fun fhc2=> ?_
  ·exact absurd (congrArg (fun x=>x.Word) (QdB hh hx1)) fhc2
  refine sk (tn (sr (mO (tN (k+4*i+1)) rfl (fO (QF (tv (tN (k+4*i+1)) rfl) (VEv.int .i64 1) (by omega)) (aO (tN ((k+4*i+1)+1)) rfl (nt (sq (sr (mO (rd 4 Qp a) rfl (mO (tN i) rfl (fO (OF.indexAddrR (row:=(Qp false x1)) (i:=i) (tv (rd 4 Qp a) rfl) (tv (tN i) rfl) rfl (QA _ hx1) U41 Qad QcQ) ?_)))))))))))
  refine lr (tI x1.A) rfl (lb rfl) Qds rfl Zo (mO (tN ((k+4*i+1)+1)) rfl (fO (xne (tv (tI x1.A) rfl) (tv (tN ((k+4*i+1)+1)) rfl)) (nt ?_)))
  refine cn (x1.A=((((k+4*i+1)+1):Nat):Int)) rfl (fun fhc3=> ?_) fun fhc3=> ?_
  ·exact absurd (congrArg (fun x=>x.A) (QdB hh hx1)) fhc3
  refine sk (tn (sr (mO (tN ((k+4*i+1)+1)) rfl (fO (QF (tv (tN ((k+4*i+1)+1)) rfl) (VEv.int .i64 1) (by omega)) (aO (tN (((k+4*i+1)+1)+1)) rfl (nt (sq (sr (mO (rd 4 Qp a) rfl (mO (tN i) rfl (fO (OF.indexAddrR (row:=(Qp false x1)) (i:=i) (tv (rd 4 Qp a) rfl) (tv (tN i) rfl) rfl (QA _ hx1) U41 Qad QcQ) ?_)))))))))))
  refine lr (tI x1.B) rfl (lb rfl) QdP rfl Zo (mO (tN (((k+4*i+1)+1)+1)) rfl (fO (xne (tv (tI x1.B) rfl) (tv (tN (((k+4*i+1)+1)+1)) rfl)) (nt ?_)))
  refine cn (x1.B=(((((k+4*i+1)+1)+1):Nat):Int)) rfl (fun fhc4=> ?_) fun fhc4=> ?_
  ·exact absurd (congrArg (fun x=>x.B) (QdB hh hx1)) fhc4
  refine sk (tn (VRun.region (mO (tN (((k+4*i+1)+1)+1)) rfl (fO (QF (tv (tN (((k+4*i+1)+1)+1)) rfl) (VEv.int .i64 1) (by omega)) (aO (tN ((((k+4*i+1)+1)+1)+1)) rfl (VRunO.nil (vinB.n (tn (VRun.region (mO (tN i) rfl (fO (QF (tv (tN i) rfl) (VEv.int .i64 1) (by omega)) ?_)))))))))))
  refine aO (tN (i+1)) rfl (VRunO.nil (tn ?_))
  refine ⟨(i+1:Nat),?_,?_,Wk.mk (fun k=>k) ?_ ?_ ?_⟩
  ·trivial
  ·omega
  ·exact (b2 (bc ⟨(congrArg (T.int .i64) (show ((((((k+4*i+1)+1)+1)+1):Nat):Int)=((k+4*(i+1):Nat):Int) from (by rfl))),rfl⟩ (b2 bn)))
  ·exact bn
  ·exact nd rfl
 refine VRun.exit (vthn.e (vthn.e (vinB.e (tn (sr (mO (tN (k+4*i)) rfl (aO (tN (k+4*i)) rfl (nt (rt (vi (n':=((k+4*i:Nat):Int)) rfl ?_))))))))))
 omega
end Go.Proofs.YthifchndolccgaaDoor.AE
namespace Go.Proofs.YthifchndolccgaaDoor.AE
open Go Go.RowKit
set_option linter.unusedVariables false
set_option linter.unusedSimpArgs false
set_option maxRecDepth 20000
set_option maxHeartbeats 2000000
noncomputable section
def Qt (c:D.Clue):Nat:=1+4*c.Play.length
def Q5 (k:Nat) (c:D.Clue):D.Clue:=D.Clue.mk ((k:Nat):Int) (mkN QX 4 (k+1) c.Play.length)
theorem QfK (k:Nat) (c:D.Clue):Qt (Q5 k c)=Qt c:=by unfold Qt Q5;simp only [Qo]
theorem Qh4 (k:Nat) (c:D.Clue):Q5 k (Q5 k c)=Q5 k c:=by unfold Q5;simp only [Qo]
theorem Qio (c:D.Clue):Qt c≤5*(1+ZU c):=by
 have:=Jh (z:=QeA) c.Play
 unfold Qt ZU
 omega
def QH : Nat→List D.Clue→List D.Clue:=mkL Q5 Qt
def Qy : Nat→List D.Clue→Nat:=Zt Qt
theorem QG (k:Nat) (l:List D.Clue):QH k l=QH k (QH k l):=QeI QfK Qh4 k l
theorem Qe (k k2:Nat) (l:List D.Clue):Qy k (QH k2 l)=Qy k l:=Qey QfK k k2 l
theorem QfC (k:Nat) (l:List D.Clue):Qy k l≤k+5*zL ZU l:=Qhy Qio k l
theorem Qbz (k:Nat) (l:List D.Clue):(QH k l).length=l.length:=Y9 k l
end
theorem Qa9 (n:Nat) (a:List D.Clue) (k:Nat) (hk:Qy k a≤Z7):LoanM (Qw Tryd.prog (n+3)) 56 [(2,(a.map (Qd true)))] [(T.os 2 0 0 ((a.map (Qd true)).length)),(tN k)] (tN (Qy k a)) [(2,((QH k a).map (Qd true)))]:=by
 refine LoanM.intro (rs:= [ResultVar.tmp 4]) [(0,(T.os 2 0 0 ((a.map (Qd true)).length)))] Tryd.func56 rfl rfl rfl rfl (bc ⟨by kernel_rfl,rfl⟩ bn) (PinsTo.at (And.intro trivial ⟨_,(.head _),(.os _ _)⟩)) (.int _ _) (bc (okeClue.cleanMap _) bn) (E0:= [(0,(T.os 2 0 0 ((a.map (Qd true)).length))),(1,(tN k))]) rfl (fun asg=> ?_)
 obtain ⟨hlim,hmx,hmax⟩:=QR
 show VRun _ _ _ [(0,(T.os 2 0 0 ((a.map (Qd true)).length))),(1,(tN k))] (Q4 [(0,(Obj.rowsN 2 (a.map (Qd true)) (asg 0)))]) 1 _
 have hk2:=hk
 unfold Qy at hk2
 have hla:=QdT (w:=Qt) (fun x=>Nat.le_add_right _ _) k a
 refine sr (fO (OF.assign (VEv.int .i64 0)) (nt (sq (sr (fO (OF.assign (VEv.int .i64 0)) (nt (VRun.block ?_)))))))
 have he1:a=J1 Q5 Qt k a 0:=by rfl
 refine VRun.loop (A:=Nat) (fun s_=> [(0,(T.os 2 0 0 (((J1 Q5 Qt k a s_).map (Qd true)).length))),(1,(tN (Zt Qt k (a.take s_)))),(4,(tN 0)),(5,(tN s_))]) (fun s_=>Q4 [(0,(Obj.rowsN 2 ((J1 Q5 Qt k a s_).map (Qd true)) (asg 0)))]) 1 (fun s_=>s_≤a.length) (fun s_=>a.length - s_) (0:Nat) ?_ (Wk.mk (fun k=>k) ?_ ?_ ?_) ?_
 ·(simp;done)
 ·exact (bc ⟨(congrArg (fun l_=>T.os 2 0 0 (List.map (Qd true) l_).length) he1),rfl⟩ (bc ⟨(congrArg (T.int .i64) (show ((k:Nat):Int)=((Zt Qt k (a.take 0):Nat):Int) from (by rfl))),rfl⟩ (b2 (b2 bn))))
 ·exact (bc ⟨(congrArg (fun l_=>some (Obj.rowsN 2 (List.map (Qd true) l_) (asg 0))) he1),(lb rfl),rfl⟩ bn)
 ·exact nd rfl
 rintro i (hI':i≤a.length)
 show VRun _ _ _ [(0,(T.os 2 0 0 (((J1 Q5 Qt k a i).map (Qd true)).length))),(1,(tN (Zt Qt k (a.take i)))),(4,(tN 0)),(5,(tN i))] (Q4 [(0,(Obj.rowsN 2 ((J1 Q5 Qt k a i).map (Qd true)) (asg 0)))]) 1 _
 have hml:=Qb1 (f:=Q5) (w:=Qt) k a i
 have hme:=QaA (w:=Qt) k a i
 refine sq (sr (mO (tN i) rfl (mO (T.os 2 0 0 (((J1 Q5 Qt k a i).map (Qd true)).length)) rfl (lO (B.lenO (m:=(J1 Q5 Qt k a i).length) (tv (T.os 2 0 0 (((J1 Q5 Qt k a i).map (Qd true)).length)) rfl) U50 (List.length_map ..)) (fO (Zx (tv (tN i) rfl) (tv (tN ((J1 Q5 Qt k a i).length)) rfl)) (nt ?_))))))
 refine cd (i<(J1 Q5 Qt k a i).length) rfl (fun fhc0=> ?_) fun fhc0=> ?_
 ·refine sk ?_
  refine tn (sq (VRun.block (sr (mO (T.os 2 0 0 (((J1 Q5 Qt k a i).map (Qd true)).length)) rfl (mO (tN i) rfl (mO (tN (Zt Qt k (a.take i))) rfl ?_))))))
  obtain ⟨x1,hx1⟩:∃x,(J1 Q5 Qt k a i)[i]? =some x:=⟨_,List.getElem?_eq_getElem (by omega)⟩
  (have hy1:=Qi4 (show i<a.length by omega) hx1;have hnx:=Qem (w:=Qt) (k:=k) hy1;have hnt:=QaA (w:=Qt) k a (i+1);have hw2:Qt x1=1+4*x1.Play.length:=rfl)
  refine fO (B.indexAddrO (i:=i) (tv (T.os 2 0 0 (((J1 Q5 Qt k a i).map (Qd true)).length)) rfl) (tv (tN i) rfl) rfl (by (simp only [List.length_map];omega)) U50 YE QeX) (fO (OF.fieldAddrP (tv (T.orp 2 0 i 0) rfl) Qb6) (cO (B.storeN (t0:=(tI x1.Sense)) (rows':=(((J1 Q5 Qt k a i).set i (D.Clue.mk ((Zt Qt k (a.take i):Nat):Int) x1.Play)).map (Qd true))) (row:=(Qd true x1)) (tv (T.orp 2 0 i 0) rfl) (tv (tN (Zt Qt k (a.take i))) rfl) rfl rfl (QA _ hx1) rfl rfl if3 YK (Zs rfl)) (nt (sr (mO (tN (Zt Qt k (a.take i))) rfl (fO (QF (tv (tN (Zt Qt k (a.take i))) rfl) (VEv.int .i64 1) (by omega)) (aO (tN (Zt Qt k (a.take i)+1)) rfl (nt (VRun.region (mO (T.os 2 0 0 (((J1 Q5 Qt k a i).map (Qd true)).length)) rfl (mO (tN i) rfl ?_)))))))))))
  refine fO (B.indexAddrO (i:=i) (tv (T.os 2 0 0 (((J1 Q5 Qt k a i).map (Qd true)).length)) rfl) (tv (tN i) rfl) rfl (by (simp only [List.length_map];omega)) U50 YE QeX) (fO (OF.fieldAddrP (tv (T.orp 2 0 i 0) rfl) Qb5) (VRunO.nest (row:=(Qd true (D.Clue.mk ((Zt Qt k (a.take i):Nat):Int) x1.Play))) (rs:=(x1.Play.map (Qp true))) (rs':=((mkN QX 4 (Zt Qt k (a.take i)+1) x1.Play.length).map (Qp true))) (rows':=((((J1 Q5 Qt k a i).set i (D.Clue.mk ((Zt Qt k (a.take i):Nat):Int) x1.Play)).set i (D.Clue.mk ((Zt Qt k (a.take i):Nat):Int) (mkN QX 4 (Zt Qt k (a.take i)+1) x1.Play.length))).map (Qd true))) (n:=(((Zt Qt k (a.take i)+1):Nat):Int)) (r:=(((Zt Qt k (a.take i)+1)+4*x1.Play.length:Nat):Int)) rfl (tv (T.orp 2 0 i 1) rfl) rfl (QA _ (Qd4 (by omega))) rfl QgY (tv (tN (Zt Qt k (a.take i)+1)) rfl) rfl (Qbh (n+0) x1.Play (Zt Qt k (a.take i)+1) (by omega)) (okeStep.cleanMap _) (Zs rfl) (aO (tN ((Zt Qt k (a.take i)+1)+4*x1.Play.length)) rfl (VRunO.nil (vinB.n (tn (VRun.region (mO (tN i) rfl (fO (QF (tv (tN i) rfl) (VEv.int .i64 1) (by omega)) (aO (tN (i+1)) rfl (VRunO.nil ?_)))))))))))
  refine tn ?_
  have he2:(((J1 Q5 Qt k a i).set i (D.Clue.mk ((Zt Qt k (a.take i):Nat):Int) x1.Play)).set i (D.Clue.mk ((Zt Qt k (a.take i):Nat):Int) (mkN QX 4 (Zt Qt k (a.take i)+1) x1.Play.length)))=J1 Q5 Qt k a (i+1):=by (rw [List.set_set];exact Qii hy1 rfl)
  refine ⟨(i+1:Nat),?_,?_,Wk.mk (fun k=>k) ?_ ?_ ?_⟩
  ·omega
  ·omega
  ·exact (bc ⟨(congrArg (fun n_=>T.os 2 0 0 n_) (show ((J1 Q5 Qt k a i).map (Qd true)).length=((J1 Q5 Qt k a (i+1)).map (Qd true)).length from (by rw [List.length_map,List.length_map,Qb1,Qb1]))),rfl⟩ (bc ⟨(congrArg (T.int .i64) (show (((Zt Qt k (a.take i)+1)+4*x1.Play.length:Nat):Int)=((Zt Qt k (a.take (i+1)):Nat):Int) from (by omega))),rfl⟩ (b2 (b2 bn))))
  ·exact (bc ⟨(congrArg (fun l_=>some (Obj.rowsN 2 (List.map (Qd true) l_) (asg 0))) he2),(lb rfl),rfl⟩ bn)
  ·exact nd rfl
 refine VRun.exit (vthn.e (vthn.e (vinB.e (tn (sr (mO (tN (Zt Qt k (a.take i))) rfl (aO (tN (Zt Qt k (a.take i))) rfl (nt (rt ?_)))))))))
 have hnew0:J1 Q5 Qt k a i=QH k a:=by
  exact QhC (by omega)
 exact vloanM.r (L1:= [(2,((J1 Q5 Qt k a i).map (Qd true)))]) (fun k=>k) (VRes.tmp (t:=(tN (Zt Qt k (a.take i)))) rfl VRes.nil) (congrArg (T.int .i64) (show ((Zt Qt k (a.take i):Nat):Int)=((Qy k a:Nat):Int) by rw [List.take_of_length_le (by omega)];rfl)) (bc (congrArg (fun n_=>T.os 2 0 0 n_) (show ((J1 Q5 Qt k a i).map (Qd true)).length=(a.map (Qd true)).length from (by rw [List.length_map,List.length_map,Qb1]))) bn) (And.intro rfl (trivial)) (by rw [hnew0])
theorem Qbf (n:Nat) (a:List D.Clue) (k:Nat) (hh:a=QH k a) (hk:Qy k a≤Z7):Pure (Qw Tryd.prog (n+3)) 57 [(rd 2 Qd a),(tN k)] (tN (Qy k a)):=by
 refine Pure.intro (rs:= [ResultVar.tmp 4]) Tryd.func57 rfl rfl rfl (E0:= [(0,(rd 2 Qd a)),(1,(tN k))]) rfl ?_
 obtain ⟨hlim,hmx,hmax⟩:=QR
 have hk2:=hk
 unfold Qy at hk2
 have hla:=QdT (w:=Qt) (fun x=>Nat.le_add_right _ _) k a
 refine sr (fO (OF.assign (VEv.int .i64 0)) (nt (sq (sr (fO (OF.assign (VEv.int .i64 0)) (nt (VRun.block ?_)))))))
 refine VRun.loop (A:=Nat) (fun s_=> [(0,(rd 2 Qd a)),(1,(tN (Zt Qt k (a.take s_)))),(5,(tN s_))]) (fun s_=>Q4 []) 0 (fun s_=>s_≤a.length) (fun s_=>a.length - s_) (0:Nat) ?_ (Wk.mk (fun k=>k) ?_ ?_ ?_) ?_
 ·(simp;done)
 ·exact (b2 (bc ⟨(congrArg (T.int .i64) (show ((k:Nat):Int)=((Zt Qt k (a.take 0):Nat):Int) from (by rfl))),rfl⟩ (b2 bn)))
 ·exact bn
 ·exact nd rfl
 rintro i (hI':i≤a.length)
 show VRun _ _ _ [(0,(rd 2 Qd a)),(1,(tN (Zt Qt k (a.take i)))),(5,(tN i))] (Q4 []) 0 _
 have hme:=QaA (w:=Qt) k a i
 refine sq (sr (mO (tN i) rfl (mO (rd 2 Qd a) rfl (lO (B.lenR (m:=a.length) (tv (rd 2 Qd a) rfl) U50 (List.length_map ..)) (fO (Zx (tv (tN i) rfl) (tv (tN a.length) rfl)) (nt ?_))))))
 refine cd (i<a.length) rfl (fun fhc0=> ?_) fun fhc0=> ?_
 ·refine sk ?_
  refine tn (sq (VRun.block (sq (sr (mO (rd 2 Qd a) rfl (mO (tN i) rfl ?_))))))
  obtain ⟨x1,hx1⟩:∃x,a[i]? =some x:=⟨_,List.getElem?_eq_getElem (by omega)⟩
  have hel:=Qhw (f:=Q5) (w:=Qt) hh hx1
  have hnx:=Qem (w:=Qt) (k:=k) hx1
  have hnt:=QaA (w:=Qt) k a (i+1)
  have hsn:=congrArg (fun c:D.Clue=>c.Sense) hel
  have hpl:=congrArg (fun c:D.Clue=>c.Play) hel
  have hw3:Qt x1=1+4*x1.Play.length:=rfl
  refine fO (OF.indexAddrR (row:=(Qd false x1)) (i:=i) (tv (rd 2 Qd a) rfl) (tv (tN i) rfl) rfl (QA _ hx1) U50 YE QeX) (lr (tI x1.Sense) rfl (lb rfl) Qb6 rfl Zo (mO (tN (Zt Qt k (a.take i))) rfl (fO (xne (tv (tI x1.Sense) rfl) (tv (tN (Zt Qt k (a.take i))) rfl)) (nt ?_))))
  refine cn (x1.Sense=((Zt Qt k (a.take i):Nat):Int)) rfl (fun fhc1=> ?_) fun fhc1=> ?_
  ·exact absurd hsn fhc1
  refine sk (tn (sr (mO (tN (Zt Qt k (a.take i))) rfl (fO (QF (tv (tN (Zt Qt k (a.take i))) rfl) (VEv.int .i64 1) (by (have hw2:Qt x1=1+4*x1.Play.length:=rfl;omega))) (aO (tN (Zt Qt k (a.take i)+1)) rfl (nt (sr (mO (rd 2 Qd a) rfl (mO (tN i) rfl (fO (OF.indexAddrR (row:=(Qd false x1)) (i:=i) (tv (rd 2 Qd a) rfl) (tv (tN i) rfl) rfl (QA _ hx1) U50 YE QeX) (lr (rd 4 Qp x1.Play) rfl (lb rfl) Qb5 rfl QgY ?_)))))))))))
  refine mO (tN (Zt Qt k (a.take i)+1)) rfl (cO (cS (vc (tv (rd 4 Qp x1.Play) rfl) (vc (tv (tN (Zt Qt k (a.take i)+1)) rfl) vn)) (lps rfl) (QaU (n+0) x1.Play (Zt Qt k (a.take i)+1) (by exact hpl) (by (have hw2:Qt x1=1+4*x1.Play.length:=rfl;omega))) rfl rfl) (aO (tN ((Zt Qt k (a.take i)+1)+4*x1.Play.length)) rfl (nt (sr (mO (tN ((Zt Qt k (a.take i)+1)+4*x1.Play.length)) rfl (fO (B.lss (c:=(decide ((Zt Qt k (a.take i)+1)+4*x1.Play.length<0))) (tv (tN ((Zt Qt k (a.take i)+1)+4*x1.Play.length)) rfl) (VEv.int .i64 0) (by exact Zb (by omega))) (nt ?_)))))))
  refine cd ((Zt Qt k (a.take i)+1)+4*x1.Play.length<0) rfl (fun fhc2=> ?_) fun fhc2=> ?_
  ·omega
  refine sk (vinB.n (tn (VRun.region (mO (tN i) rfl (fO (QF (tv (tN i) rfl) (VEv.int .i64 1) (by (have hw2:Qt x1=1+4*x1.Play.length:=rfl;omega))) (aO (tN (i+1)) rfl (VRunO.nil (tn ?_))))))))
  refine ⟨(i+1:Nat),?_,?_,Wk.mk (fun k=>k) ?_ ?_ ?_⟩
  ·trivial
  ·omega
  ·exact (b2 (bc ⟨(congrArg (T.int .i64) (show (((Zt Qt k (a.take i)+1)+4*x1.Play.length:Nat):Int)=((Zt Qt k (a.take (i+1)):Nat):Int) from (by omega))),rfl⟩ (b2 bn)))
  ·exact bn
  ·exact nd rfl
 refine VRun.exit (vthn.e (vthn.e (vinB.e (tn (sr (mO (tN (Zt Qt k (a.take i))) rfl (aO (tN (Zt Qt k (a.take i))) rfl (nt (rt (vi (n':=((Zt Qt k (a.take i):Nat):Int)) rfl ?_))))))))))
 exact congrArg (fun x:Nat=>(x:Int)) (by rw [List.take_of_length_le (by omega)];rfl)
theorem Qbq (n:Nat) (a:D.Draft) (k:Nat) (hk:Qy k a.Clues≤Z7):LoanM (Qw Tryd.prog (n+4)) 27 [(2,(a.Clues.map (Qd true)))] [(T.agg [(tI a.Grid.Rows),(tI a.Grid.Cols),(tS a.Grid.Cells),(tS a.Fill),(T.os 2 0 0 ((a.Clues.map (Qd true)).length)),(tI a.Version)]),(tN k)] (tN (Qy k a.Clues)) [(2,((QH k a.Clues).map (Qd true)))]:=by
 refine LoanM.intro (rs:= [ResultVar.tmp 4]) [(0,(T.agg [(tI a.Grid.Rows),(tI a.Grid.Cols),(tS a.Grid.Cells),(tS a.Fill),(T.os 2 0 0 ((a.Clues.map (Qd true)).length)),(tI a.Version)]))] Tryd.func27 rfl rfl rfl rfl (bc ⟨by kernel_rfl,rfl⟩ bn) (PinsTo.at (And.intro trivial ⟨_,(.head _),(.agg 4 rfl (.os _ _))⟩)) (.int _ _) (bc (okeClue.cleanMap _) bn) (E0:= [(0,(T.agg [(tI a.Grid.Rows),(tI a.Grid.Cols),(tS a.Grid.Cells),(tS a.Fill),(T.os 2 0 0 ((a.Clues.map (Qd true)).length)),(tI a.Version)])),(1,(tN k))]) rfl (fun asg=> ?_)
 obtain ⟨hlim,hmx,hmax⟩:=QR
 show VRun _ _ _ [(0,(T.agg [(tI a.Grid.Rows),(tI a.Grid.Cols),(tS a.Grid.Cells),(tS a.Fill),(T.os 2 0 0 ((a.Clues.map (Qd true)).length)),(tI a.Version)])),(1,(tN k))] (Q4 [(0,(Obj.rowsN 2 (a.Clues.map (Qd true)) (asg 0)))]) 1 _
 refine sr (kO (B.box (ts:= [(tI a.Grid.Rows),(tI a.Grid.Cols),(tS a.Grid.Cells),(tS a.Fill),(T.os 2 0 0 ((a.Clues.map (Qd true)).length)),(tI a.Version)]) (tv (T.agg [(tI a.Grid.Rows),(tI a.Grid.Cols),(tS a.Grid.Cells),(tS a.Fill),(T.os 2 0 0 ((a.Clues.map (Qd true)).length)),(tI a.Version)]) rfl) nofun rfl) (fO (OF.assign (VEv.int .i64 0)) (nt (sr (lf (T.os 2 0 0 ((a.Clues.map (Qd true)).length)) rfl Jv rfl rfl QgB (mO (tN k) rfl (cO (OC.callL (ts:= [(T.os 2 0 0 ((a.Clues.map (Qd true)).length)),(tN k)]) [0] (r:=(tN (Qy k a.Clues))) (L:= [(2,(a.Clues.map (Qd true)))]) [(2,((QH k a.Clues).map (Qd true)))] [(Obj.rowsN 2 (a.Clues.map (Qd true)) (asg 0))] rfl (vc (tv (T.os 2 0 0 ((a.Clues.map (Qd true)).length)) rfl) (vc (tv (tN k) rfl) vn)) (by decide) rfl (And.intro (And.intro rfl rfl) (trivial)) (bc (okeClue.cleanMap _) bn) (bc (okeClue.cleanMap _) bn) rfl rfl (.int _ _) (Qa9 (n+0) a.Clues k (by assumption))) (aO (tN (Qy k a.Clues)) rfl (nt (sr (mO (tN (Qy k a.Clues)) rfl ?_)))))))))))
 refine aO (tN (Qy k a.Clues)) rfl (nt (rt ?_))
 have hnew0:QH k a.Clues=QH k a.Clues:=by
  rfl
 exact vloanM.r (L1:= [(2,((QH k a.Clues).map (Qd true)))]) (fun k=>k) (VRes.tmp (t:=(tN (Qy k a.Clues))) rfl VRes.nil) rfl (bc rfl bn) (And.intro rfl (trivial)) (by rw [hnew0])
theorem Y0 (n:Nat) (a:D.Draft) (k:Nat) (hh:a.Clues=QH k a.Clues) (hk:Qy k a.Clues≤Z7):Pure (Qw Tryd.prog (n+4)) 28 [(T.agg (Q9 false a)),(tN k)] (tN (Qy k a.Clues)):=by
 refine Pure.intro (rs:= [ResultVar.tmp 4]) Tryd.func28 rfl rfl rfl (E0:= [(0,(T.agg (Q9 false a))),(1,(tN k))]) rfl ?_
 obtain ⟨hlim,hmx,hmax⟩:=QR
 refine sr (kO (B.box (ts:=(Q9 false a)) (tv (T.agg (Q9 false a)) rfl) nofun rfl) (fO (OF.assign (VEv.int .i64 0)) (nt (sr (lf (rd 2 Qd a.Clues) rfl Jv rfl rfl QgB (mO (tN k) rfl (cO (cS (vc (tv (rd 2 Qd a.Clues) rfl) (vc (tv (tN k) rfl) vn)) (lps rfl) (Qbf (n+0) a.Clues k (by assumption) (by assumption)) rfl rfl) (aO (tN (Qy k a.Clues)) rfl (nt (sq (sr ?_)))))))))))
 refine mO (tN (Qy k a.Clues)) rfl (fO (B.lss (c:=(decide (Qy k a.Clues<0))) (tv (tN (Qy k a.Clues)) rfl) (VEv.int .i64 0) (Zb (by omega))) (nt ?_))
 refine cd (Qy k a.Clues<0) rfl (fun fhc0=> ?_) fun fhc0=> ?_
 ·omega
 refine sk (tn (sr (mO (tN (Qy k a.Clues)) rfl (aO (tN (Qy k a.Clues)) rfl (nt (rt ?_))))))
 exact vi rfl rfl
end Go.Proofs.YthifchndolccgaaDoor.AE
namespace Go.Proofs.YthifchndolccgaaDoor.AE
open Go Go.RowKit
set_option linter.unusedVariables false
set_option linter.unusedSimpArgs false
set_option maxRecDepth 20000
set_option maxHeartbeats 2000000
theorem Qcd (n:Nat) (c:D.Clue) (hz:ZU c≤mx):Pure (Qw Tryd.prog (n+1)) 100 [(T.agg (Qd false c))] (T.agg (Qd true c)):=by
 refine Pure.intro (rs:= [ResultVar.cell 2 43]) Tryd.func100 rfl rfl rfl (E0:= [(0,(T.agg (Qd false c)))]) rfl ?_
 obtain ⟨hlim,hmx,hmax⟩:=QR
 simp only [ZU] at hz
 have hl:=Jh (z:=QeA) c.Play
 refine sr (kO (B.box (ts:=(Qd false c)) (tv (T.agg (Qd false c)) rfl) nofun rfl) (kO (B.alloc (t:=(T.agg [(tN 0),T.nils])) (ts:= [(tN 0),T.nils]) Qd3 QjB nofun (fun _=> .agg _ _ rfl (Y5 (RL.cons (.int _ _) (RL.cons (.nils) (RL.nil _))))) rfl) (nt (sq (VRun.draw (B:= [[],[0],[],[],[3],[3,4,2],[2,4,3,5,0,1],[1,0,5,3,4,2,6]]) (by kernel_rfl) (by kernel_rfl) (fD (OF.fieldAddrO (tv (T.op 0 0) rfl) Qb6) rfl rfl (lD (OL.loadO1 (t:=(tI c.Sense)) (tv (T.op 0 0) rfl) rfl rfl Zo) rfl rfl (VRunD.make rfl VWant.always rfl (OM.slice0 U41 QjF (by kernel_rfl) rfl (by rw [Qad];decide) Qad) (fD (OF.fieldAddrO (tv (T.op 0 0) rfl) Qb5) rfl rfl (lD (OL.loadO1 (t:=(rd 4 Qp c.Play)) (tv (T.op 0 1) rfl) rfl rfl QgY) rfl rfl (VRunD.quiet (bi:= [3,4,2]) rfl VWant.always rfl rfl rfl (bc (lb rfl) bn) (B.append (rows:= []) (rows2:=(c.Play.map (Qp false))) (rows3:=(c.Play.map (Qp true))) (VDst.own (tv (T.os 4 2 0 0) rfl) rfl rfl) (VSrc.read (tv (rd 4 Qp c.Play) rfl) U41 (okeStep.okMap _ _)) nofun U41 Qad (by decide) QjF rfl (of_decide_eq_true (by kernel_rfl)) (by (simp only [List.length_map,List.length_append,List.length_cons,List.length_nil,List.length_replicate,List.length_set,List.length_drop,List.length_take,Z7] at *;omega)) (List.nil_append _)) ?_)))))))))))
 refine fD (OF.build (l:= [(0,(tI c.Sense)),(1,(T.os 4 3 0 ((c.Play.map (Qp true)).length)))]) (zs:= [(tN 0),T.nils]) (out:= [(tI c.Sense),(T.os 4 3 0 ((c.Play.map (Qp true)).length))]) (VEvp.cons (i:=0) (tv (tI c.Sense) rfl) (VEvp.cons (i:=1) (tv (T.os 4 3 0 ((c.Play.map (Qp true)).length)) rfl) VEvp.nil)) (bc nofun (bc nofun bn)) Tryd.underlying43 Qd3 (fun _=>RL.cons (.int _ _) (RL.cons (.nils) (RL.nil _))) (by kernel_rfl) (by kernel_rfl)) rfl rfl (VRunD.chain (bi:= [1,0,5,3,4,2,6]) rfl VWant.always rfl rfl rfl (by kernel_rfl) (B.storeW (us:= [(tI c.Sense),(T.os 4 3 0 ((c.Play.map (Qp true)).length))]) (tv (T.op 1 0) rfl) (tv (T.agg [(tI c.Sense),(T.os 4 3 0 ((c.Play.map (Qp true)).length))]) rfl) nofun rfl rfl rfl QeX YE (bc rfl (bc rfl bn))) (VRunD.nil (tn (rt ?_))))
 refine vfin.eq (r':=(T.agg [(tI c.Sense),(T.sl true 4 (c.Play.map (Qp true)))])) ?_ (vfin.r (VRes.celln (ws:= [(tI c.Sense),(T.os 4 3 0 ((c.Play.map (Qp true)).length))]) rfl rfl Qia YE (lb rfl) rfl VRes.nil) (Give.agg (GiveL.cons (Give.int _ _) (GiveL.cons (Give.os rfl rfl (okeStep.cleanMap _)) GiveL.nil (by decide)) (by decide))))
 rfl
noncomputable section
theorem Qgx {α:Type} {l:List α} {i:Nat} {x:α} (h:l[i]? =some x):l.take i++ [x]=l.take (i+1):=by
 rw [List.take_add_one,h];rfl
end
theorem QbK (n:Nat) (l:List D.Clue) (hz:zL ZU l≤mx):Pure (Qw Tryd.prog (n+2)) 75 [(rd 2 Qd l)] (T.sl true 2 (l.map (Qd true))):=by
 refine Pure.intro (rs:= [ResultVar.tmp 2]) Tryd.func75 rfl rfl rfl (E0:= [(0,(rd 2 Qd l))]) rfl ?_
 obtain ⟨hlim,hmx,hmax⟩:=QR
 have hl:=Jh (z:=ZU) l
 refine sr (fO (OF.assign VEv.nils) (nt (sr (kO (OM.slice0 U50 Qd3 (by kernel_rfl) rfl (by rw [YE];decide) YE) (aO (T.os 2 0 0 0) rfl (nt (sq (sr (fO (OF.assign (VEv.int .i64 0)) (nt (VRun.block ?_)))))))))))
 have he1: []=((l.take 0).map (Qd true)):=by rfl
 refine VRun.loop (A:=Nat) (fun s_=> [(0,(rd 2 Qd l)),(2,T.nils),(3,(T.os 2 0 0 (((l.take s_).map (Qd true)).length))),(4,(tN s_))]) (fun s_=>Q4 [(0,(Obj.rows 2 ((l.take s_).map (Qd true))))]) 1 (fun s_=>s_≤l.length) (fun s_=>l.length - s_) (0:Nat) ?_ (Wk.mk (fun k=>k) ?_ ?_ ?_) ?_
 ·(simp;done)
 ·exact (b2 (b2 (bc ⟨(congrArg (fun n_=>T.os 2 0 0 n_) (show 0=((l.take 0).map (Qd true)).length from (by rfl))),rfl⟩ (b2 bn))))
 ·exact (bc ⟨(congrArg (fun l_=>some (Obj.rows 2 l_)) he1),(lb rfl),rfl⟩ bn)
 ·exact nd rfl
 rintro i (hI':i≤l.length)
 show VRun _ _ _ [(0,(rd 2 Qd l)),(2,T.nils),(3,(T.os 2 0 0 (((l.take i).map (Qd true)).length))),(4,(tN i))] (Q4 [(0,(Obj.rows 2 ((l.take i).map (Qd true))))]) 1 _
 have hI1:=hI'
 have htl:=JA l i
 refine sq (sr (mO (tN i) rfl (mO (rd 2 Qd l) rfl (lO (B.lenR (m:=l.length) (tv (rd 2 Qd l) rfl) U50 (List.length_map ..)) (fO (Zx (tv (tN i) rfl) (tv (tN l.length) rfl)) (nt ?_))))))
 refine cd (i<l.length) rfl (fun fhc0=> ?_) fun fhc0=> ?_
 ·refine sk ?_
  refine tn (sq (VRun.block (VRun.region (mO (T.os 2 0 0 (((l.take i).map (Qd true)).length)) rfl (mO (rd 2 Qd l) rfl (mO (tN i) rfl ?_))))))
  obtain ⟨x1,hx1⟩:∃x,l[i]? =some x:=⟨_,List.getElem?_eq_getElem (by omega)⟩
  refine fO (OF.indexAddrR (row:=(Qd false x1)) (i:=i) (tv (rd 2 Qd l) rfl) (tv (tN i) rfl) rfl (QA _ hx1) U50 YE QeX) (lO (OL.loadRn (us:=(Qd false x1)) (tv (T.rp (Qd false x1)) rfl) Qia YE (lb rfl) rfl) (cO (OC.callF (r':=(T.agg [(tI x1.Sense),(T.os 4 1 0 ((x1.Play.map (Qp true)).length))])) (objs:= [(Obj.rows 4 (x1.Play.map (Qp true)))]) rfl (vc (tv (T.agg (Qd false x1)) rfl) vn) (LendL.cons (lg okeClue) ln) (Qcd (n+0) x1 (by exact Nat.le_trans (Qho hx1) hz)) rfl) ?_))
  refine B.sliceB (t:=(T.agg [(tI x1.Sense),(T.os 4 1 0 ((x1.Play.map (Qp true)).length))])) (us:= [(tI x1.Sense),(T.os 4 1 0 ((x1.Play.map (Qp true)).length))]) (rows:= [[(tI x1.Sense),(T.sl true 4 (x1.Play.map (Qp true)))]]) VWant.always (VEvp.cons (tv (T.agg [(tI x1.Sense),(T.os 4 1 0 ((x1.Play.map (Qp true)).length))]) rfl) VEvp.nil) nofun rfl (Bury.pl rfl (Bury.os rfl rfl Bury.nil (by decide))) rfl (bc rfl bn) rfl U50 Qd3 (by kernel_rfl) rfl (by rw [YE];decide) YE (Nat.le_of_ble_eq_true rfl) ?_
  refine cO (B.append (rows:=((l.take i).map (Qd true))) (rows2:= [[(tI x1.Sense),(T.sl true 4 (x1.Play.map (Qp true)))]]) (rows3:=((l.take i++ [x1]).map (Qd true))) (VDst.own (tv (T.os 2 0 0 (((l.take i).map (Qd true)).length)) rfl) rfl rfl) (VSrc.own (tv (T.os 2 2 0 1) rfl) rfl rfl U50 (bc (bc rfl (bc rfl bn)) bn)) (by decide) U50 YE (by decide) Qd3 rfl (of_decide_eq_true (by kernel_rfl)) (by (rw [List.length_map,List.length_take];simp only [List.length_cons,List.length_nil];omega)) ((List.map_append (f:=Qd true) (l₁:=l.take i) (l₂:= [x1])).symm)) (aO (T.os 2 3 0 (((l.take i++ [x1]).map (Qd true)).length)) rfl (VRunO.nil (vinB.n (tn (VRun.region (mO (tN i) rfl (fO (QF (tv (tN i) rfl) (VEv.int .i64 1) (by omega)) (aO (tN (i+1)) rfl (VRunO.nil (tn ?_))))))))))
  have he2:(l.take i++ [x1])=l.take (i+1):=by exact Qgx hx1
  refine ⟨(i+1:Nat),?_,?_,Wk.mk (fun k=>if k=0 then 3 else k) ?_ ?_ ?_⟩
  ·trivial
  ·omega
  ·exact (b2 (b2 (bc ⟨(congrArg (fun l_=>T.os 2 3 0 (List.map (Qd true) l_).length) he2),rfl⟩ (b2 bn))))
  ·exact (bc ⟨(congrArg (fun l_=>some (Obj.rows 2 (List.map (Qd true) l_))) he2),(lb rfl),rfl⟩ bn)
  ·exact nd rfl
 refine VRun.exit (vthn.e (vthn.e (vinB.e (tn (sr (mO (T.os 2 0 0 (((l.take i).map (Qd true)).length)) rfl (aO (T.os 2 0 0 (((l.take i).map (Qd true)).length)) rfl (nt (rt ?_)))))))))
 refine vfin.eq (r':=(T.sl true 2 ((l.take i).map (Qd true)))) ?_ (vfin.r (VRes.tmp (t:=(T.os 2 0 0 (((l.take i).map (Qd true)).length))) rfl VRes.nil) (Give.os rfl rfl (okeClue.cleanMap _)))
 refine congrArg (fun l_=>T.sl true 2 (List.map (Qd true) l_)) ?_
 rw [Qck hI' fhc0]
theorem Qcj (n:Nat) (a:D.Draft) (hz:YX a≤mx):Pure (Qw Tryd.prog (n+3)) 51 [(T.agg (Q9 false a))] (T.agg (Q9 true a)):=by
 refine Pure.intro (rs:= [ResultVar.cell 2 52]) Tryd.func51 rfl rfl rfl (E0:= [(0,(T.agg (Q9 false a)))]) rfl ?_
 obtain ⟨hlim,hmx,hmax⟩:=QR
 simp only [YX] at hz
 refine sr (kO (B.box (ts:=(Q9 false a)) (tv (T.agg (Q9 false a)) rfl) nofun rfl) (kO (B.alloc (t:=(T.agg [(tN 0),(tN 0),(tS ByteArray.empty),(tS ByteArray.empty),T.nils,(tN 0)])) (ts:= [(tN 0),(tN 0),(tS ByteArray.empty),(tS ByteArray.empty),T.nils,(tN 0)]) Qcc Qfh nofun (fun _=> .agg _ _ rfl (Y5 (RL.cons (.int _ _) (RL.cons (.int _ _) (RL.cons (.str _) (RL.cons (.str _) (RL.cons (.nils) (RL.cons (.int _ _) (RL.nil _))))))))) rfl) (nt (sr (lf (rd 2 Qd a.Clues) rfl Jv rfl rfl QgB (cO (OC.callF (r':=(T.os 2 2 0 ((a.Clues.map (Qd true)).length))) (objs:= [(Obj.rows 2 (a.Clues.map (Qd true)))]) rfl (vc (tv (rd 2 Qd a.Clues) rfl) vn) (lps rfl) (QbK (n+0) a.Clues (by first | assumption | omega)) rfl) (fO (OF.fieldAddrO (tv (T.op 0 0) rfl) Jv) (cO (B.storeO (us:= [(T.os 2 2 0 ((a.Clues.map (Qd true)).length))]) (ws:= [(tI a.Grid.Rows),(tI a.Grid.Cols),(tS a.Grid.Cells),(tS a.Fill),(T.os 2 2 0 ((a.Clues.map (Qd true)).length)),(tI a.Version)]) (tv (T.op 0 4) rfl) (tv (T.os 2 2 0 ((a.Clues.map (Qd true)).length)) rfl) nofun rfl rfl (lb rfl) Qi0 QiZ (bc rfl bn) rfl) (nt (sr (lO (OL.loadOn (us:= [(tI a.Grid.Rows),(tI a.Grid.Cols),(tS a.Grid.Cells),(tS a.Fill),(T.os 2 2 0 ((a.Clues.map (Qd true)).length)),(tI a.Version)]) (tv (T.op 0 0) rfl) rfl Qau Yq (lb rfl) rfl) ?_)))))))))))
 refine cO (B.storeW (us:= [(tI a.Grid.Rows),(tI a.Grid.Cols),(tS a.Grid.Cells),(tS a.Fill),(T.os 2 2 0 ((a.Clues.map (Qd true)).length)),(tI a.Version)]) (tv (T.op 1 0) rfl) (tv (T.agg [(tI a.Grid.Rows),(tI a.Grid.Cols),(tS a.Grid.Cells),(tS a.Fill),(T.os 2 2 0 ((a.Clues.map (Qd true)).length)),(tI a.Version)]) rfl) nofun rfl rfl rfl Qdt Yq (bc rfl (bc rfl (bc rfl (bc rfl (bc rfl (bc rfl bn))))))) (nt (rt ?_))
 refine vfin.eq (r':=(T.agg [(tI a.Grid.Rows),(tI a.Grid.Cols),(tS a.Grid.Cells),(tS a.Fill),(T.sl true 2 (a.Clues.map (Qd true))),(tI a.Version)])) ?_ (vfin.r (VRes.celln (ws:= [(tI a.Grid.Rows),(tI a.Grid.Cols),(tS a.Grid.Cells),(tS a.Fill),(T.os 2 2 0 ((a.Clues.map (Qd true)).length)),(tI a.Version)]) rfl rfl Qau Yq (lb rfl) rfl VRes.nil) (Give.agg (GiveL.cons (Give.int _ _) (GiveL.cons (Give.int _ _) (GiveL.cons (Give.str _) (GiveL.cons (Give.str _) (GiveL.cons (Give.os rfl rfl (okeClue.cleanMap _)) (GiveL.cons (Give.int _ _) GiveL.nil (by decide)) (by decide)) (by decide)) (by decide)) (by decide)) (by decide))))
 first | rfl | (exact Zb (by omega)) | (symm;rw [decide_eq_false_iff_not];omega) | (symm;rw [decide_eq_true_eq];omega) | (simp_all;done)
end Go.Proofs.YthifchndolccgaaDoor.AE
namespace Go.Proofs.YthifchndolccgaaDoor.AE
open Go Go.RowKit
set_option linter.unusedVariables false
set_option linter.unusedSimpArgs false
set_option maxRecDepth 20000
set_option maxHeartbeats 2000000
noncomputable section
theorem QeB : ∀(s:List UInt8),(Lib.index s [46]= -1∧∀b∈s,b≠46)∨∃i:Nat,Lib.index s [46]=i∧i<s.length∧(∀b∈s.take i,b≠46)∧s[i]? =some 46
 | []=> .inl ⟨rfl,fun b hb=>by cases hb⟩
 | b::l=>by
  by_cases hb:b=46
  ·subst hb
   exact .inr ⟨0,by simp [Lib.index],by simp,fun b hb=>by simp at hb,by simp⟩
  ·have hp:([46]:List UInt8).isPrefixOf (b::l)=false:=by
    simp [List.isPrefixOf]
    exact fun e=>hb e.symm
   rcases QeB l with ⟨h1,h2⟩ | ⟨i,h1,h2,h3,h4⟩
   ·refine .inl ⟨?_,fun c hc=> ?_⟩
    ·unfold Lib.index
     rw [hp,h1]
     rfl
    ·rcases List.mem_cons.1 hc with rfl | hc
     ·exact hb
     ·exact h2 c hc
   ·refine .inr ⟨i+1,?_,by simp only [List.length_cons];omega,fun c hc=> ?_,by simpa using h4⟩
    ·unfold Lib.index
     rw [hp,h1]
     have:((i:Int) == -1)=false:=by rw [beq_eq_false_iff_ne];omega
     simp only [this]
     simp
    ·rw [List.take_succ_cons] at hc
     rcases List.mem_cons.1 hc with rfl | hc
     ·exact hb
     ·exact h3 c hc
def swB (b:UInt8):UInt8:=if b=46 then 63 else b
theorem Qis {l:List UInt8} (h:∀b∈l,b≠46):l.map swB=l:=by
 induction l with
 | nil=>rfl
 | cons b r ih =>
  rw [List.map_cons,ih (fun c hc=>h c (by simp [hc]))]
  unfold swB
  rw [if_neg (h b (by simp))]
theorem Qew : ∀(n:Nat) (s:List UInt8),s.length≤n→Lib.replaceK [46] [63] (Lib.count s [46]) s=s.map swB
 | n,s,hn=>by
  rcases QeB s with ⟨h1,h2⟩ | ⟨i,h1,h2,h3,h4⟩
  ·rw [Lib.count_miss h1,Qis h2]
   rfl
  ·match n,hn with
   | 0,hn=>omega
   | n+1,hn =>
    rw [Lib.count_hit (by simp) h1,Nat.add_comm 1,Lib.replaceK_hit _ _ _ _ _ h1]
    have ih:=Qew n (s.drop (i+([46]:List UInt8).length)) (by simp;omega)
    rw [ih]
    have h5:s=s.take i++46::s.drop (i+1):=by
     have h6:=List.drop_eq_getElem_cons h2
     rw [List.getElem?_eq_getElem h2] at h4
     rw [Option.some.inj h4] at h6
     rw [← h6,List.take_append_drop]
    show s.take i++ [63]++(s.drop (i+1)).map swB=s.map swB
    conv=>rhs;rw [h5]
    rw [List.map_append,Qis h3,List.map_cons]
    simp [swB]
def QaC (s o w:ByteArray):ByteArray:=⟨(Lib.replaceAll s.data.toList o.data.toList w.data.toList).toArray⟩
theorem Qgp (s:ByteArray):QaC s ⟨#[46]⟩ ⟨#[63]⟩=⟨(s.data.toList.map swB).toArray⟩:=by
 unfold QaC Lib.replaceAll Lib.replace
 rw [if_neg (by decide)]
 have:Lib.replaceNum s.data.toList [46] (-1)=Lib.count s.data.toList [46]:=by unfold Lib.replaceNum;rw [if_pos (.inl (by decide))]
 show (⟨(Lib.replaceK [46] [63] (Lib.replaceNum s.data.toList [46] (-1)) s.data.toList).toArray⟩:ByteArray)=_
 rw [this,Qew _ _ (Nat.le_refl _)]
theorem R.strInv2 {h:AH} {s:ByteArray} {v:Value} (hr:R h (.str s) v):v= .string s:=by cases hr;rfl
theorem QgQ {P:Program} {f:FuncId} (n:Nat) (hp:Jc f=false) (hq:QgJ f=JD) {s o w:ByteArray} (h1:s.size<4294967281) (h2:1≤o.size) (h3:s.size+Lib.countB s o*w.size≤140737488355328):Pure (Qw P (n+1)) f [.str s, .str o, .str w] (.str (QaC s o w)):=by
 intro h p vs hfr hvs
 match vs,hvs with
 | [],hvs=>exact absurd hvs.1 (by simp)
 | [_],hvs=>exact absurd hvs.1 (by simp)
 | [_,_],hvs=>exact absurd hvs.1 (by simp)
 | [a,b,c],hvs =>
  obtain ⟨g1,hvs⟩:=hvs.tail
  obtain ⟨g2,hvs⟩:=hvs.tail
  obtain ⟨g3,hvs⟩:=hvs.tail
  obtain rfl:=R.strInv2 g1
  obtain rfl:=R.strInv2 g2
  obtain rfl:=R.strInv2 g3
  unfold CallS
  refine ⟨.string (QaC s o w),h,?_,fun _ h=> .inl h,fun _ _=>rfl,[], .fz (.str _),by simp,by simp⟩
  rw [Qw,if_neg (by rw [hp];simp),hq]
  unfold JD
  simp only
  rw [if_pos ⟨h1,h2,h3⟩]
  rfl
 | _::_::_::_::_,hvs=>exact absurd hvs.1 (by simp)
def ZQ (s:ByteArray):Nat→ByteArray
 | 0=>⟨#[]⟩
 | i+1=>ZQ s i++(if QK s i=35 then ⟨#[35]⟩ else ⟨#[63]⟩)
theorem Qa3 (s:ByteArray):∀i,(ZQ s i).size=i
 | 0=>rfl
 | i+1=>by
  rw [ZQ,ByteArray.size_append,Qa3 s i]
  split<;>rfl
theorem Qc2 (s:ByteArray) (hs:∀j,j<s.size→QK s j=46∨QK s j=35):∀i,i≤s.size→(ZQ s i).data.toList=(s.data.toList.take i).map swB
 | 0,_=>rfl
 | i+1,hi=>by
  have ih:=Qc2 s hs i (by omega)
  have hlt:i<s.data.toList.length:=by
   rw [Array.length_toList]
   exact hi
  rw [List.take_succ_eq_append_getElem hlt,List.map_append,← ih,ZQ]
  have hb:=Ya (s:=s) (i:=i) (by omega)
  have hv:s.data.toList[i]=s[i]'(by omega):=rfl
  rw [hv]
  have h35:∀(b:UInt8) (n:Nat),((b.toNat:Nat):Int)=n→n<256→b=UInt8.ofNat n:=fun b n e hn=>by
   have:b.toNat=n:=by omega
   rw [← this];simp
  rcases hs i (by omega) with h | h
  ·rw [h] at hb
   have:=h35 _ 46 hb (by decide)
   rw [if_neg (by omega),this]
   simp only [ByteArray.data_append,Array.toList_append]
   rfl
  ·rw [h] at hb
   have:=h35 _ 35 hb (by decide)
   rw [if_pos h,this]
   simp only [ByteArray.data_append,Array.toList_append]
   rfl
def Zq (g:D.Grid):ByteArray:=if gridOk g then ZQ g.Cells g.Cells.size else ⟨#[]⟩
theorem Qbm (g:D.Grid):(Zq g).size≤g.Cells.size:=by
 unfold Zq
 split
 ·rw [Qa3];exact Nat.le_refl _
 ·exact Nat.zero_le _
theorem Qgi {g:D.Grid} (h:gridOk g):QaC g.Cells ⟨#[46]⟩ ⟨#[63]⟩=Zq g:=by
 have h1:=Qc2 g.Cells (fun j hj=>(h.2.2.2 j hj).symm) g.Cells.size (Nat.le_refl _)
 rw [Qgp,Zq,if_pos h]
 refine Qdi ?_
 rw [h1,List.take_of_length_le (by simp)]
theorem Qh6 {g:D.Grid} {i:Nat} (h1:i≤g.Cells.size) (h2:i=0∨gridOk g) (h3:¬(i<g.Cells.size∧gridOk g)):ZQ g.Cells i=Zq g:=by
 by_cases hg:gridOk g
 ·have h4:i=g.Cells.size:=by
   rcases Nat.lt_or_ge i g.Cells.size with h | h
   ·exact absurd ⟨h,hg⟩ h3
   ·omega
  rw [Zq,if_pos hg,h4]
 ·obtain rfl:=h2.resolve_right hg
  rw [Zq,if_neg hg]
  rfl
theorem Qf7 (s o:ByteArray) (h:1≤o.size):Lib.countB s o≤s.size:=by
 have h1:=Lib.countB_mul_le o h s.size s (Nat.le_refl _)
 have h2:Lib.countB s o*1≤Lib.countB s o*o.size:=Nat.mul_le_mul_left _ h
 omega
end
theorem JG (n:Nat) (s:ByteArray) (o:ByteArray) (w:ByteArray) (hs:s.size≤mx+64) (ho:1≤o.size) (hw:w.size≤1):Pure (Qw Tryd.prog (n+1)) 63 [(tS s),(tS o),(tS w)] (tS (QaC s o w)):=by
 obtain ⟨hlim,hmx,hmax⟩:=QR
 have h1:=Qf7 s o ho
 have h2:Lib.countB s o*w.size≤Lib.countB s o*1:=Nat.mul_le_mul_left _ hw
 exact QgQ n rfl rfl (by omega) ho (by omega)
theorem Qbg (n:Nat) (g:D.Grid) (hc:g.Cells.size≤maxLen - 1):Pure (Qw Tryd.prog (n+3)) 30 [(T.agg (Qa false g))] (tS (Zq g)):=by
 refine Pure.intro (rs:= [ResultVar.tmp 2]) Tryd.func30 rfl rfl rfl (E0:= [(0,(T.agg (Qa false g)))]) rfl ?_
 obtain ⟨hlim,hmx,hmax⟩:=QR
 have e35:(⟨#[35]⟩:ByteArray).size=1:=rfl
 have e63:(⟨#[63]⟩:ByteArray).size=1:=rfl
 refine sr (kO (B.box (ts:=(Qa false g)) (tv (T.agg (Qa false g)) rfl) nofun rfl) (fO (OF.assign (VEv.str (⟨#[]⟩:ByteArray))) (nt (sr (fO (OF.assign (VEv.str (⟨#[]⟩:ByteArray))) (nt (sq (sr (fO (OF.assign (VEv.int .i64 0)) (nt (VRun.block ?_)))))))))))
 refine VRun.loop (A:=Nat) (fun s_=> [(1,(T.op 0 0)),(2,(tS (⟨#[]⟩:ByteArray))),(3,(tS (ZQ g.Cells s_))),(4,(tN s_))]) (fun s_=>Q4 [(0,(Obj.cells (Qa false g)))]) 1 (fun s_=>s_≤g.Cells.size∧(s_=0∨gridOk g)) (fun s_=>g.Cells.size - s_) (0:Nat) ?_ (Wk.mk (fun k=>k) ?_ ?_ ?_) ?_
 ·exact ⟨Nat.zero_le _, .inl rfl⟩
 ·exact (b2 (b2 (bc ⟨(congrArg T.str (show (⟨#[]⟩:ByteArray)=ZQ g.Cells 0 from (by first | rfl | assumption | rfl | (rw [ZQ,if_pos (by assumption)];done) | (rw [ZQ,if_neg (by assumption)];done) | (simp_all;done)))),rfl⟩ (b2 bn))))
 ·exact (b3 bn)
 ·exact nd rfl
 rintro i (hI':i≤g.Cells.size∧(i=0∨gridOk g))
 show VRun _ _ _ [(1,(T.op 0 0)),(2,(tS (⟨#[]⟩:ByteArray))),(3,(tS (ZQ g.Cells i))),(4,(tN i))] (Q4 [(0,(Obj.cells (Qa false g)))]) 1 _
 have hI1:=hI'.1
 have hes:=Qa3 g.Cells i
 refine sq (sr (mO (tN i) rfl (lf (tS g.Cells) rfl QC rfl rfl ZX (lO (B.lenS (tv (tS g.Cells) rfl) U9) (fO (Zx (tv (tN i) rfl) (tv (tN g.Cells.size) rfl)) (mO (tB (decide (i<g.Cells.size))) rfl ?_))))))
 refine VRunO.joinB 3 [11,12] 13 (tB (decide ((i<g.Cells.size)∧(gridOk g)))) ?_ ?_
 ·refine gw (i<g.Cells.size) (fun fhg10_1=> ?_) fun fhg10_1=> ?_
  ·refine gL (dy fhg10_1) rfl rfl (OL.loadOn (us:=(Qa false g)) (tv (T.op 0 0) rfl) rfl QO QM (lb rfl) rfl) ?_
   refine VRunO.chain (VWant.on rfl rfl (dy fhg10_1)) (cS (vc (tv (T.agg (Qa false g)) rfl) vn) (LendL.cons (lg Qq) ln) (Zi (n+0) g (by first | assumption | omega)) rfl rfl) (fO (OF.pickT (VEv.tmpB rfl (dy fhg10_1)) (tv (tB (decide (gridOk g))) rfl)) (VRunO.nil ?_))
   exact jq (congrArg T.bool (kAT fhg10_1 rfl)) (js rfl (js rfl (jn)))
  ·refine QY 2 5 true 10 (dz fhg10_1) rfl rfl rfl ?_
   refine fO (OF.pickF (VEv.tmpB rfl (dz fhg10_1)) (VEv.bool false)) (VRunO.nil ?_)
   exact jq (congrArg T.bool (kAF fhg10_1)) (js rfl (js rfl (jn)))
 refine nt ?_
 refine cd ((i<g.Cells.size)∧(gridOk g)) rfl (fun fhc0=> ?_) fun fhc0=> ?_
 ·refine sk ?_
  refine tn (sq (VRun.block (sr (lf (tS g.Cells) rfl QC rfl rfl ZX (mO (tN i) rfl ?_)))))
  have hb2:i<g.Cells.size:=(by omega)
  refine fO (xix (tv (tS g.Cells) rfl) (tv (tN i) rfl) hb2 U9) (fO (xeq (tv (T.int .u8 (QK g.Cells i)) rfl) (VEv.int .u8 35)) (nt ?_))
  refine cd (QK g.Cells i=35) rfl (fun fhc1=> ?_) fun fhc1=> ?_
  ·refine VRun.region ?_
   refine mO (tS (ZQ g.Cells i)) rfl (fO (B.sadd (tv (tS (ZQ g.Cells i)) rfl) (VEv.str (⟨#[35]⟩:ByteArray)) (by first | omega | (simp only [List.length_map];omega) | (simp only [List.length_map,List.length_append,List.length_cons,List.length_nil,List.length_replicate,List.length_set,List.length_drop,List.length_take,Z7] at *;omega))) (aO (tS (ZQ g.Cells i++(⟨#[35]⟩:ByteArray))) rfl (VRunO.nil (vinB.n (tn (VRun.region (mO (tN i) rfl (fO (QF (tv (tN i) rfl) (VEv.int .i64 1) (by omega)) (aO (tN (i+1)) rfl (VRunO.nil (tn ?_)))))))))))
   refine ⟨(i+1:Nat),?_,?_,Wk.mk (fun k=>k) ?_ ?_ ?_⟩
   ·exact ⟨fhc0.1, .inr fhc0.2⟩
   ·first | omega | (simp only [];omega) | (show _<_;omega) | (simp;omega)
   ·exact (b2 (b2 (bc ⟨(congrArg T.str (show (ZQ g.Cells i++(⟨#[35]⟩:ByteArray))=ZQ g.Cells (i+1) from (by first | rfl | assumption | rfl | (rw [ZQ,if_pos (by assumption)];done) | (rw [ZQ,if_neg (by assumption)];done) | (simp_all;done)))),rfl⟩ (b2 bn))))
   ·exact (b3 bn)
   ·exact nd rfl
  refine VRun.region (mO (tS (ZQ g.Cells i)) rfl (fO (B.sadd (tv (tS (ZQ g.Cells i)) rfl) (VEv.str (⟨#[63]⟩:ByteArray)) (by first | omega | (simp only [List.length_map];omega) | (simp only [List.length_map,List.length_append,List.length_cons,List.length_nil,List.length_replicate,List.length_set,List.length_drop,List.length_take,Z7] at *;omega))) (aO (tS (ZQ g.Cells i++(⟨#[63]⟩:ByteArray))) rfl (VRunO.nil (vinB.n (tn (VRun.region (mO (tN i) rfl (fO (QF (tv (tN i) rfl) (VEv.int .i64 1) (by omega)) (aO (tN (i+1)) rfl (VRunO.nil ?_)))))))))))
  refine tn ?_
  refine ⟨(i+1:Nat),?_,?_,Wk.mk (fun k=>k) ?_ ?_ ?_⟩
  ·exact ⟨fhc0.1, .inr fhc0.2⟩
  ·first | omega | (simp only [];omega) | (show _<_;omega) | (simp;omega)
  ·exact (b2 (b2 (bc ⟨(congrArg T.str (show (ZQ g.Cells i++(⟨#[63]⟩:ByteArray))=ZQ g.Cells (i+1) from (by first | rfl | assumption | rfl | (rw [ZQ,if_pos (by assumption)];done) | (rw [ZQ,if_neg (by assumption)];done) | (simp_all;done)))),rfl⟩ (b2 bn))))
  ·exact (b3 bn)
  ·exact nd rfl
 refine VRun.exit (vthn.e (vthn.e (vinB.e (tn (sr (mO (tS (ZQ g.Cells i)) rfl (aO (tS (ZQ g.Cells i)) rfl (nt (rt ?_)))))))))
 refine vfin.eq (r':=(tS (ZQ g.Cells i))) ?_ (vfin.r (VRes.tmp (t:=(tS (ZQ g.Cells i))) rfl VRes.nil) (Give.str _))
 refine congrArg T.str ?_
 exact Qh6 hI'.1 hI'.2 fhc0
theorem Qbi (n:Nat) (g:D.Grid) (hc:g.Cells.size≤mx):Pure (Qw Tryd.prog (n+3)) 36 [(T.agg (Qa false g))] (tS (Zq g)):=by
 refine Pure.intro (rs:= [ResultVar.tmp 2]) Tryd.func36 rfl rfl rfl (E0:= [(0,(T.agg (Qa false g)))]) rfl ?_
 obtain ⟨hlim,hmx,hmax⟩:=QR
 refine sr (kO (B.box (ts:=(Qa false g)) (tv (T.agg (Qa false g)) rfl) nofun rfl) (fO (OF.assign (VEv.str (⟨#[]⟩:ByteArray))) (nt (sq (sr (lO (OL.loadOn (us:=(Qa false g)) (tv (T.op 0 0) rfl) rfl QO QM (lb rfl) rfl) (cO (cS (vc (tv (T.agg (Qa false g)) rfl) vn) (LendL.cons (lg Qq) ln) (Zw (n+0) g (by first | decide | assumption | omega)) rfl rfl) (fO (ZL (tv (tB (decide (gridOk g))) rfl)) (nt ?_)))))))))
 refine cn (gridOk g) rfl (fun fhc0=> ?_) fun fhc0=> ?_
 ·refine sr ?_
  refine fO (OF.assign (VEv.str (⟨#[]⟩:ByteArray))) (nt (rt (tr ?_)))
  refine vfin.eq (r':=(tS (⟨#[]⟩:ByteArray))) ?_ (vfin.r (VRes.tmp (t:=(tS (⟨#[]⟩:ByteArray))) rfl VRes.nil) (Give.str _))
  refine congrArg T.str ?_
  exact (if_neg fhc0).symm
 refine sk (tn (sr (lf (tS g.Cells) rfl QC rfl rfl ZX (cO (cS (vc (tv (tS g.Cells) rfl) (vc (VEv.str (⟨#[46]⟩:ByteArray)) (vc (VEv.str (⟨#[63]⟩:ByteArray)) vn))) (lps rfl) (JG (n+1) g.Cells (⟨#[46]⟩:ByteArray) (⟨#[63]⟩:ByteArray) (by first | decide | assumption | omega) (by first | decide | assumption | omega) (by first | decide | assumption | omega)) rfl rfl) (aO (tS (QaC g.Cells (⟨#[46]⟩:ByteArray) (⟨#[63]⟩:ByteArray))) rfl (nt (rt ?_)))))))
 refine vfin.eq (r':=(tS (QaC g.Cells (⟨#[46]⟩:ByteArray) (⟨#[63]⟩:ByteArray)))) ?_ (vfin.r (VRes.tmp (t:=(tS (QaC g.Cells (⟨#[46]⟩:ByteArray) (⟨#[63]⟩:ByteArray)))) rfl VRes.nil) (Give.str _))
 refine congrArg T.str ?_
 exact Qgi (by assumption)
end Go.Proofs.YthifchndolccgaaDoor.AE
namespace Go.Proofs.YthifchndolccgaaDoor.AE
open Go Go.RowKit
set_option linter.unusedVariables false
set_option linter.unusedSimpArgs false
set_option maxRecDepth 20000
set_option maxHeartbeats 2000000
noncomputable section
def Qf (g:D.Grid):D.Draft:=if QB g=0 then D.Draft.mk g (Zq g) (List.replicate (Qb g).length (D.Clue.mk 0 [])) 1 else D.Draft.mk (D.Grid.mk 0 0 ⟨#[]⟩) ⟨#[]⟩ [] 0
theorem Qdv {g:D.Grid} (h:¬QB g=0):Qf g=D.Draft.mk (D.Grid.mk 0 0 ⟨#[]⟩) ⟨#[]⟩ [] 0:=if_neg h
theorem Qb4 {g:D.Grid} (h:QB g=0):Qf g=D.Draft.mk g (Zq g) (List.replicate (Qb g).length (D.Clue.mk 0 [])) 1:=if_pos h
theorem Qj3 (n:Nat):zL ZU (List.replicate n (D.Clue.mk 0 []))=n:=by
 induction n with
 | zero=>rfl
 | succ n ih =>
  rw [List.replicate_succ',Qgo,ih]
  rfl
theorem QfQ {g:D.Grid} (h:QB g=0) (n:Nat) (hn:n≤(Qb g).length):YX (D.Draft.mk g (Zq g) (List.replicate n (D.Clue.mk 0 [])) 1)≤200:=by
 have h1:=Qfi h
 have h2:=QiY h1.1.1 h1.1.2 h1.2.1.1 h1.2.1.2
 have h3:=h1.2.2.1
 have h4:=Qbm g
 have h5:=QZ g
 simp only [YX,Ym,Qj3]
 omega
theorem Qjf (g:D.Grid):YX (Qf g)≤200:=by
 by_cases h:QB g=0
 ·rw [Qb4 h]
  exact QfQ h _ (Nat.le_refl _)
 ·rw [Qdv h]
  exact Nat.zero_le _
end
theorem QbL (n:Nat) (g:D.Grid) (hz:Ym g≤mx):Pure (Qw Tryd.prog (n+10)) 24 [(T.agg (Qa false g))] (T.tup [(T.agg (Q9 true (Qf g))),(tB (decide (QB g=0)))]):=by
 refine Pure.intro (rs:= [ResultVar.cell 2 52,ResultVar.tmp 3]) Tryd.func24 rfl rfl rfl (E0:= [(0,(T.agg (Qa false g)))]) rfl ?_
 obtain ⟨hlim,hmx,hmax⟩:=QR
 have hc:=hz
 simp only [Ym] at hc
 have hsl:=QZ g
 have hes:=Qbm g
 refine sr (kO (B.box (ts:=(Qa false g)) (tv (T.agg (Qa false g)) rfl) nofun rfl) (kO (B.alloc (t:=(T.agg [(tN 0),(tN 0),(tS ByteArray.empty),(tS ByteArray.empty),T.nils,(tN 0)])) (ts:= [(tN 0),(tN 0),(tS ByteArray.empty),(tS ByteArray.empty),T.nils,(tN 0)]) Qcc Qfh nofun (fun _=> .agg _ _ rfl (Y5 (RL.cons (.int _ _) (RL.cons (.int _ _) (RL.cons (.str _) (RL.cons (.str _) (RL.cons (.nils) (RL.cons (.int _ _) (RL.nil _))))))))) rfl) (fO (OF.assign (VEv.bool false)) (nt (sq (sr (lO (OL.loadOn (us:=(Qa false g)) (tv (T.op 0 0) rfl) rfl QO QM (lb rfl) rfl) (cO (cS (vc (tv (T.agg (Qa false g)) rfl) vn) (LendL.cons (lg Qq) ln) (QcJ (n+0) g (by first | (refine Nat.le_trans (hzz _ ?_) ?_<;>omega) | assumption | omega)) rfl rfl) (fO (xne (tv (tI (QB g)) rfl) (VEv.int .i64 0)) (nt ?_))))))))))
 refine cn (QB g=0) rfl (fun fhc0=> ?_) fun fhc0=> ?_
 ·refine sr ?_
  refine fO (OF.build (l:= []) (zs:= [(tN 0),(tN 0),(tS ByteArray.empty),(tS ByteArray.empty),T.nils,(tN 0)]) (out:= [(tN 0),(tN 0),(tS ByteArray.empty),(tS ByteArray.empty),T.nils,(tN 0)]) VEvp.nil bn Tryd.underlying52 Qcc (fun _=>RL.cons (.int _ _) (RL.cons (.int _ _) (RL.cons (.str _) (RL.cons (.str _) (RL.cons (.nils) (RL.cons (.int _ _) (RL.nil _))))))) (by kernel_rfl) (by kernel_rfl)) (cO (B.storeW (us:= [(tN 0),(tN 0),(tS ByteArray.empty),(tS ByteArray.empty),T.nils,(tN 0)]) (tv (T.op 1 0) rfl) (tv (T.agg [(tN 0),(tN 0),(tS ByteArray.empty),(tS ByteArray.empty),T.nils,(tN 0)]) rfl) nofun rfl rfl rfl Qdt Yq (bc rfl (bc rfl (bc rfl (bc rfl (bc rfl (bc rfl bn))))))) (fO (OF.assign (VEv.bool false)) (nt (rt (tr ?_)))))
  refine vfin.eq (r':=(T.tup [(T.agg [(tN 0),(tN 0),(tS ByteArray.empty),(tS ByteArray.empty),(T.sl true 2 []),(tN 0)]),(tB false)])) ?_ (vfin.r (VRes.celln (ws:= [(tN 0),(tN 0),(tS ByteArray.empty),(tS ByteArray.empty),T.nils,(tN 0)]) rfl rfl Qau Yq (lb rfl) rfl (VRes.tmp (t:=(tB false)) rfl VRes.nil)) (Give.tup (GiveL.cons (Give.agg (GiveL.cons (Give.int _ _) (GiveL.cons (Give.int _ _) (GiveL.cons (Give.str _) (GiveL.cons (Give.str _) (GiveL.cons (Give.nils 2) (GiveL.cons (Give.int _ _) GiveL.nil (by decide)) (by decide)) (by decide)) (by decide)) (by decide)) (by decide))) (GiveL.cons (Give.bool _) GiveL.nil (by decide)) (by decide))))
  rw [Qdv fhc0,decide_eq_false fhc0];rfl
 have hf0:QB g=0:=fhc0
 have hzz:=QfQ hf0
 refine sk (tn (sq (VRun.draw (B:= [[],[],[1],[1,2,0],[],[0,2,1,3,4]]) (by kernel_rfl) (by kernel_rfl) (lD (OL.loadOn (us:=(Qa false g)) (tv (T.op 0 0) rfl) rfl QO QM (lb rfl) rfl) rfl rfl (lD (OL.loadOn (us:=(Qa false g)) (tv (T.op 0 0) rfl) rfl QO QM (lb rfl) rfl) rfl rfl (VRunD.quiet (bi:= [1]) rfl VWant.always rfl rfl rfl bn (cS (vc (tv (T.agg (Qa false g)) rfl) vn) (LendL.cons (lg Qq) ln) (Qbg (n+6) g (by first | (refine Nat.le_trans (hzz _ ?_) ?_<;>omega) | assumption | omega)) rfl rfl) (fD (OF.build (l:= [(0,(T.agg (Qa false g))),(1,(tS (Zq g))),(3,(tN 1))]) (zs:= [(tN 0),(tN 0),(tS ByteArray.empty),(tS ByteArray.empty),T.nils,(tN 0)]) (out:= [(tI g.Rows),(tI g.Cols),(tS g.Cells),(tS (Zq g)),T.nils,(tN 1)]) (VEvp.cons (i:=0) (tv (T.agg (Qa false g)) rfl) (VEvp.cons (i:=1) (tv (tS (Zq g)) rfl) (VEvp.cons (i:=3) (VEv.int .i64 1) VEvp.nil))) (bc nofun (bc nofun (bc nofun bn))) Tryd.underlying52 Qcc (fun _=>RL.cons (.int _ _) (RL.cons (.int _ _) (RL.cons (.str _) (RL.cons (.str _) (RL.cons (.nils) (RL.cons (.int _ _) (RL.nil _))))))) (by kernel_rfl) (by kernel_rfl)) rfl rfl (VRunD.make rfl VWant.always rfl (B.alloc (t:=(T.agg [(tN 0),(tN 0),(tS ByteArray.empty),(tS ByteArray.empty),T.nils,(tN 0)])) (ts:= [(tN 0),(tN 0),(tS ByteArray.empty),(tS ByteArray.empty),T.nils,(tN 0)]) Qcc Qfh nofun (fun _=> .agg _ _ rfl (Y5 (RL.cons (.int _ _) (RL.cons (.int _ _) (RL.cons (.str _) (RL.cons (.str _) (RL.cons (.nils) (RL.cons (.int _ _) (RL.nil _))))))))) rfl) (VRunD.quiet (bi:= [0,2,1,3,4]) rfl VWant.always rfl rfl rfl (bc (lb rfl) bn) (B.storeW (us:= [(tI g.Rows),(tI g.Cols),(tS g.Cells),(tS (Zq g)),T.nils,(tN 1)]) (tv (T.op 2 0) rfl) (tv (T.agg [(tI g.Rows),(tI g.Cols),(tS g.Cells),(tS (Zq g)),T.nils,(tN 1)]) rfl) nofun rfl rfl rfl Qdt Yq (bc rfl (bc rfl (bc rfl (bc rfl (bc rfl (bc rfl bn))))))) (VRunD.nil (tn ?_)))))))))))
 refine sq (sr (fO (OF.assign (VEv.int .i64 0)) (nt (VRun.block (VRun.wk (Wk.phantomC (us':= [(tI g.Rows),(tI g.Cols),(tS g.Cells),(tS (Zq g)),(T.os 2 3 0 0),(tN 1)]) 2 4 2 rfl rfl rfl) ?_)))))
 have he2: []=((List.replicate 0 (D.Clue.mk 0 [])).map (Qd true)):=by first | rfl | rfl | (exact (List.replicate_succ').symm) | (simp;done) | (simp;done) | omega
 have he1:0=((List.replicate 0 (D.Clue.mk 0 [])).map (Qd true)).length:=by first | rfl | rfl | (exact (List.replicate_succ').symm) | (simp;done) | (simp;done) | omega
 refine VRun.loop (A:=Nat) (fun s_=> [(1,(T.op 0 0)),(2,(T.op 1 0)),(3,(tB false)),(4,(T.op 2 0)),(5,(tN s_))]) (fun s_=>Q4 [(0,(Obj.cells (Qa false g))),(1,(Obj.cells [(tN 0),(tN 0),(tS ByteArray.empty),(tS ByteArray.empty),T.nils,(tN 0)])),(2,(Obj.cells [(tI g.Rows),(tI g.Cols),(tS g.Cells),(tS (Zq g)),(T.os 2 3 0 (((List.replicate s_ (D.Clue.mk 0 [])).map (Qd true)).length)),(tN 1)])),(3,(Obj.rows 2 ((List.replicate s_ (D.Clue.mk 0 [])).map (Qd true))))]) 4 (fun s_=>s_≤(Qb g).length) (fun s_=>(Qb g).length - s_) (0:Nat) ?_ (Wk.mk (fun k=>k) ?_ ?_ ?_) ?_
 ·first | trivial | (simp;done) | omega | (constructor<;>simp)
 ·exact (b2 (b2 (b2 (b2 (b2 bn)))))
 ·exact (b3 (b3 (bc ⟨(congrArg (fun l_=>some (Obj.cells [(tI g.Rows),(tI g.Cols),(tS g.Cells),(tS (Zq g)),(T.os 2 3 0 l_),(tN 1)])) he1),(lb rfl),rfl⟩ (bc ⟨(congrArg (fun l_=>some (Obj.rows 2 l_)) he2),(lb rfl),rfl⟩ bn))))
 ·exact nd rfl
 rintro i (hI':i≤(Qb g).length)
 show VRun _ _ _ [(1,(T.op 0 0)),(2,(T.op 1 0)),(3,(tB false)),(4,(T.op 2 0)),(5,(tN i))] (Q4 [(0,(Obj.cells (Qa false g))),(1,(Obj.cells [(tN 0),(tN 0),(tS ByteArray.empty),(tS ByteArray.empty),T.nils,(tN 0)])),(2,(Obj.cells [(tI g.Rows),(tI g.Cols),(tS g.Cells),(tS (Zq g)),(T.os 2 3 0 (((List.replicate i (D.Clue.mk 0 [])).map (Qd true)).length)),(tN 1)])),(3,(Obj.rows 2 ((List.replicate i (D.Clue.mk 0 [])).map (Qd true))))]) 4 _
 have hI1:=hI'
 have hlr:(List.replicate i (D.Clue.mk 0 [])).length=i:=List.length_replicate
 refine sq (sr (mO (tN i) rfl (lO (OL.loadOn (us:=(Qa false g)) (tv (T.op 0 0) rfl) rfl QO QM (lb rfl) rfl) (cO (OC.callF (r':=(T.os 4 4 0 (((Qb g).map (Qg true)).length))) (objs:= [(Obj.rows 4 ((Qb g).map (Qg true)))]) rfl (vc (tv (T.agg (Qa false g)) rfl) vn) (LendL.cons (lg Qq) ln) (Zk (n+6) g (by first | (refine Nat.le_trans (hzz _ ?_) ?_<;>omega) | assumption | omega)) rfl) (lO (B.lenO (m:=(Qb g).length) (tv (T.os 4 4 0 (((Qb g).map (Qg true)).length)) rfl) Jl (List.length_map ..)) (fO (Zx (tv (tN i) rfl) (tv (tN ((Qb g).length)) rfl)) (nt ?_)))))))
 refine cd (i<(Qb g).length) rfl (fun fhc1=> ?_) fun fhc1=> ?_
 ·refine sk ?_
  refine tn (sq (VRun.block (VRun.region (lf (T.os 2 3 0 (((List.replicate i (D.Clue.mk 0 [])).map (Qd true)).length)) rfl Jv rfl rfl QgB (fO (OF.build (l:= []) (zs:= [(tN 0),T.nils]) (out:= [(tN 0),T.nils]) VEvp.nil bn Tryd.underlying43 Qd3 (fun _=>RL.cons (.int _ _) (RL.cons (.nils) (RL.nil _))) (by kernel_rfl) (by kernel_rfl)) (kO (OM.deN (rows':= [[(tN 0),(T.sl true 4 [])]]) (OM.buildSlice (l:= [(T.agg [(tN 0),T.nils])]) (VEvp.cons (tv (T.agg [(tN 0),T.nils]) rfl) VEvp.nil) rfl (by decide) (bc (nofun) bn) (bc ((bc (rfl) (bc (rfl) bn))) bn) (bc (rfl) bn) U50 Qd3 (by kernel_rfl) rfl (by rw [YE];decide) YE (Nat.le_of_ble_eq_true rfl)) rfl ((bc (rfl) bn)) ⟨Or.inl rfl,⟨Or.inr ⟨rfl,_,rfl⟩,trivial⟩⟩) (cO (B.append (rows:=((List.replicate i (D.Clue.mk 0 [])).map (Qd true))) (rows2:= [[(tN 0),(T.sl true 4 [])]]) (rows3:=((List.replicate i (D.Clue.mk 0 [])++ [(D.Clue.mk 0 [])]).map (Qd true))) (VDst.own (tv (T.os 2 3 0 (((List.replicate i (D.Clue.mk 0 [])).map (Qd true)).length)) rfl) rfl rfl) (VSrc.own (tv (T.os 2 5 0 1) rfl) rfl rfl U50 (bc (bc rfl (bc rfl bn)) bn)) (by decide) U50 YE (by decide) Qd3 rfl (of_decide_eq_true (by kernel_rfl)) (by first | (refine Nat.le_trans (hzz _ ?_) ?_<;>omega) | omega | (simp only [List.length_map];omega) | (simp only [List.length_map,List.length_append,List.length_cons,List.length_nil,List.length_replicate,List.length_set,List.length_drop,List.length_take,Z7] at *;omega)) ((List.map_append (f:=Qd true) (l₁:=List.replicate i (D.Clue.mk 0 [])) (l₂:= [(D.Clue.mk 0 [])])).symm)) (fO (OF.fieldAddrO (tv (T.op 2 0) rfl) Jv) (cO (B.storeO (us:= [(T.os 2 6 0 (((List.replicate i (D.Clue.mk 0 [])++ [(D.Clue.mk 0 [])]).map (Qd true)).length))]) (ws:= [(tI g.Rows),(tI g.Cols),(tS g.Cells),(tS (Zq g)),(T.os 2 6 0 (((List.replicate i (D.Clue.mk 0 [])++ [(D.Clue.mk 0 [])]).map (Qd true)).length)),(tN 1)]) (tv (T.op 2 4) rfl) (tv (T.os 2 6 0 (((List.replicate i (D.Clue.mk 0 [])++ [(D.Clue.mk 0 [])]).map (Qd true)).length)) rfl) nofun rfl rfl (lb rfl) Qi0 QiZ (bc rfl bn) rfl) (VRunO.nil (vinB.n ?_)))))))))))
  refine tn (VRun.region (mO (tN i) rfl (fO (QF (tv (tN i) rfl) (VEv.int .i64 1) (by first | (refine Nat.le_trans (hzz _ ?_) ?_<;>omega) | omega)) (aO (tN (i+1)) rfl (VRunO.nil (tn ?_))))))
  have he4:(List.replicate i (D.Clue.mk 0 [])++ [(D.Clue.mk 0 [])])=List.replicate (i+1) (D.Clue.mk 0 []):=by first | rfl | rfl | (exact (List.replicate_succ').symm) | (simp;done) | (simp;done) | omega
  have he3:((List.replicate i (D.Clue.mk 0 [])++ [(D.Clue.mk 0 [])]).map (Qd true)).length=((List.replicate (i+1) (D.Clue.mk 0 [])).map (Qd true)).length:=by first | rfl | rfl | (exact (List.replicate_succ').symm) | (simp;done) | (simp;done) | omega
  refine ⟨(i+1:Nat),?_,?_,Wk.mk (fun k=>if k=3 then 6 else k) ?_ ?_ ?_⟩
  ·first | trivial | omega | (simp;done) | exact ⟨by omega,hI'.2⟩
  ·first | omega | (simp only [];omega) | (show _<_;omega) | (simp;omega)
  ·exact (b2 (b2 (b2 (b2 (b2 bn)))))
  ·exact (b3 (b3 (bc ⟨(congrArg (fun l_=>some (Obj.cells [(tI g.Rows),(tI g.Cols),(tS g.Cells),(tS (Zq g)),(T.os 2 6 0 l_),(tN 1)])) he3),(lb rfl),rfl⟩ (bc ⟨(congrArg (fun l_=>some (Obj.rows 2 (List.map (Qd true) l_))) he4),(lb rfl),rfl⟩ bn))))
  ·exact nd rfl
 refine VRun.exit (vthn.e (vthn.e (vinB.e (tn (sr (lO (OL.loadOn (us:= [(tI g.Rows),(tI g.Cols),(tS g.Cells),(tS (Zq g)),(T.os 2 3 0 (((List.replicate i (D.Clue.mk 0 [])).map (Qd true)).length)),(tN 1)]) (tv (T.op 2 0) rfl) rfl Qau Yq (lb rfl) rfl) (cO (OC.callF (us:= [(T.agg [(tI g.Rows),(tI g.Cols),(tS g.Cells),(tS (Zq g)),(rd 2 Qd (List.replicate i (D.Clue.mk 0 []))),(tN 1)])]) (r':=(T.agg [(tI g.Rows),(tI g.Cols),(tS g.Cells),(tS (Zq g)),(T.os 2 5 0 (((List.replicate i (D.Clue.mk 0 [])).map (Qd true)).length)),(tI 1)])) (objs:= [(Obj.rows 2 ((List.replicate i (D.Clue.mk 0 [])).map (Qd true)))]) rfl (vc (tv (T.agg [(tI g.Rows),(tI g.Cols),(tS g.Cells),(tS (Zq g)),(T.os 2 3 0 (((List.replicate i (D.Clue.mk 0 [])).map (Qd true)).length)),(tN 1)]) rfl) vn) (LendL.cons (Lend.agg (LendL.cons (Lend.pl rfl) (LendL.cons (Lend.pl rfl) (LendL.cons (Lend.pl rfl) (LendL.cons (Lend.pl rfl) (LendL.cons (Lend.os rfl rfl (okeClue.fzMap _ _)) (LendL.cons (Lend.pl rfl) ln))))))) ln) (Qcj (n+6) (D.Draft.mk g (Zq g) (List.replicate i (D.Clue.mk 0 [])) 1) (by first | (refine Nat.le_trans (hzz _ ?_) ?_<;>omega) | assumption | omega)) rfl) (cO (B.storeW (us:= [(tI g.Rows),(tI g.Cols),(tS g.Cells),(tS (Zq g)),(T.os 2 5 0 (((List.replicate i (D.Clue.mk 0 [])).map (Qd true)).length)),(tI 1)]) (tv (T.op 1 0) rfl) (tv (T.agg [(tI g.Rows),(tI g.Cols),(tS g.Cells),(tS (Zq g)),(T.os 2 5 0 (((List.replicate i (D.Clue.mk 0 [])).map (Qd true)).length)),(tI 1)]) rfl) nofun rfl rfl rfl Qdt Yq (bc rfl (bc rfl (bc rfl (bc rfl (bc rfl (bc rfl bn))))))) (fO (OF.assign (VEv.bool true)) (nt (rt ?_)))))))))))
 refine vfin.eq (r':=(T.tup [(T.agg [(tI g.Rows),(tI g.Cols),(tS g.Cells),(tS (Zq g)),(T.sl true 2 ((List.replicate i (D.Clue.mk 0 [])).map (Qd true))),(tI 1)]),(tB true)])) ?_ (vfin.r (VRes.celln (ws:= [(tI g.Rows),(tI g.Cols),(tS g.Cells),(tS (Zq g)),(T.os 2 5 0 (((List.replicate i (D.Clue.mk 0 [])).map (Qd true)).length)),(tI 1)]) rfl rfl Qau Yq (lb rfl) rfl (VRes.tmp (t:=(tB true)) rfl VRes.nil)) (Give.tup (GiveL.cons (Give.agg (GiveL.cons (Give.int _ _) (GiveL.cons (Give.int _ _) (GiveL.cons (Give.str _) (GiveL.cons (Give.str _) (GiveL.cons (Give.os rfl rfl (okeClue.cleanMap _)) (GiveL.cons (Give.int _ _) GiveL.nil (by decide)) (by decide)) (by decide)) (by decide)) (by decide)) (by decide))) (GiveL.cons (Give.bool _) GiveL.nil (by decide)) (by decide))))
 rw [Qb4 hf0,decide_eq_true hf0,← show i=(Qb g).length by omega];rfl
theorem Jj (n:Nat) (g:D.Grid) (hz:Ym g≤mx):Pure (Qw Tryd.prog (n+42)) 25 [(T.agg (Qa false g))] (T.tup [(T.agg (Q9 true (Qf g))),(tB (decide (QB g=0)))]):=by
 refine Pure.intro (rs:= [ResultVar.cell 2 52,ResultVar.tmp 3]) Tryd.func25 rfl rfl rfl (E0:= [(0,(T.agg (Qa false g)))]) rfl ?_
 obtain ⟨hlim,hmx,hmax⟩:=QR
 have hc:=hz
 simp only [Ym] at hc
 have hsl:=QZ g
 have hes:=Qbm g
 refine sr (kO (B.box (ts:=(Qa false g)) (tv (T.agg (Qa false g)) rfl) nofun rfl) (kO (B.alloc (t:=(T.agg [(tN 0),(tN 0),(tS ByteArray.empty),(tS ByteArray.empty),T.nils,(tN 0)])) (ts:= [(tN 0),(tN 0),(tS ByteArray.empty),(tS ByteArray.empty),T.nils,(tN 0)]) Qcc Qfh nofun (fun _=> .agg _ _ rfl (Y5 (RL.cons (.int _ _) (RL.cons (.int _ _) (RL.cons (.str _) (RL.cons (.str _) (RL.cons (.nils) (RL.cons (.int _ _) (RL.nil _))))))))) rfl) (fO (OF.assign (VEv.bool false)) (nt (sq (sr (lO (OL.loadOn (us:=(Qa false g)) (tv (T.op 0 0) rfl) rfl QO QM (lb rfl) rfl) (cO (cS (vc (tv (T.agg (Qa false g)) rfl) vn) (LendL.cons (lg Qq) ln) (Qc0 (n+0) g (by first | assumption | omega)) rfl rfl) (fO (xne (tv (tI (QB g)) rfl) (VEv.int .i64 0)) (nt ?_))))))))))
 refine cn (QB g=0) rfl (fun fhc0=> ?_) fun fhc0=> ?_
 ·refine sr ?_
  refine fO (OF.build (l:= []) (zs:= [(tN 0),(tN 0),(tS ByteArray.empty),(tS ByteArray.empty),T.nils,(tN 0)]) (out:= [(tN 0),(tN 0),(tS ByteArray.empty),(tS ByteArray.empty),T.nils,(tN 0)]) VEvp.nil bn Tryd.underlying52 Qcc (fun _=>RL.cons (.int _ _) (RL.cons (.int _ _) (RL.cons (.str _) (RL.cons (.str _) (RL.cons (.nils) (RL.cons (.int _ _) (RL.nil _))))))) (by kernel_rfl) (by kernel_rfl)) (cO (B.storeW (us:= [(tN 0),(tN 0),(tS ByteArray.empty),(tS ByteArray.empty),T.nils,(tN 0)]) (tv (T.op 1 0) rfl) (tv (T.agg [(tN 0),(tN 0),(tS ByteArray.empty),(tS ByteArray.empty),T.nils,(tN 0)]) rfl) nofun rfl rfl rfl Qdt Yq (bc rfl (bc rfl (bc rfl (bc rfl (bc rfl (bc rfl bn))))))) (fO (OF.assign (VEv.bool false)) (nt (rt (tr ?_)))))
  refine vfin.eq (r':=(T.tup [(T.agg [(tN 0),(tN 0),(tS ByteArray.empty),(tS ByteArray.empty),(T.sl true 2 []),(tN 0)]),(tB false)])) ?_ (vfin.r (VRes.celln (ws:= [(tN 0),(tN 0),(tS ByteArray.empty),(tS ByteArray.empty),T.nils,(tN 0)]) rfl rfl Qau Yq (lb rfl) rfl (VRes.tmp (t:=(tB false)) rfl VRes.nil)) (Give.tup (GiveL.cons (Give.agg (GiveL.cons (Give.int _ _) (GiveL.cons (Give.int _ _) (GiveL.cons (Give.str _) (GiveL.cons (Give.str _) (GiveL.cons (Give.nils 2) (GiveL.cons (Give.int _ _) GiveL.nil (by decide)) (by decide)) (by decide)) (by decide)) (by decide)) (by decide))) (GiveL.cons (Give.bool _) GiveL.nil (by decide)) (by decide))))
  rw [Qdv fhc0,decide_eq_false fhc0];rfl
 refine sk (tn (sq (VRun.draw (B:= [[],[],[1],[],[1,2,3],[3,2,1,4],[4,1,2,3,5],[5,3,4,6,1,2,0],[0,2,1,6,4,3,5,7],[7,5,3,4,6,1,2,0,8]]) (by kernel_rfl) (by kernel_rfl) (lD (OL.loadOn (us:=(Qa false g)) (tv (T.op 0 0) rfl) rfl QO QM (lb rfl) rfl) rfl rfl (lD (OL.loadOn (us:=(Qa false g)) (tv (T.op 0 0) rfl) rfl QO QM (lb rfl) rfl) rfl rfl (VRunD.quiet (bi:= [1]) rfl VWant.always rfl rfl rfl bn (cS (vc (tv (T.agg (Qa false g)) rfl) vn) (LendL.cons (lg Qq) ln) (Qbi (n+38) g (by first | assumption | omega)) rfl rfl) (lD (OL.loadOn (us:=(Qa false g)) (tv (T.op 0 0) rfl) rfl QO QM (lb rfl) rfl) rfl rfl (VRunD.quiet (bi:= [1,2,3]) rfl VWant.always rfl rfl rfl bn (OC.callF (r':=(T.os 4 2 0 (((Qb g).map (Qg true)).length))) (objs:= [(Obj.rows 4 ((Qb g).map (Qg true)))]) rfl (vc (tv (T.agg (Qa false g)) rfl) vn) (LendL.cons (lg Qq) ln) (Yu (n+38) g (by first | assumption | omega)) rfl) (lD (B.lenO (m:=(Qb g).length) (tv (T.os 4 2 0 (((Qb g).map (Qg true)).length)) rfl) Jl (List.length_map ..)) rfl rfl (VRunD.make rfl VWant.always rfl (B.makeZ (n:=(Qb g).length) (m:=((List.replicate ((Qb g).length) (D.Clue.mk 0 [])).map (Qd true)).length) (rows:=((List.replicate ((Qb g).length) (D.Clue.mk 0 [])).map (Qd true))) (zr:=(Qd true (D.Clue.mk 0 []))) (tv (tN ((Qb g).length)) rfl) (tv (tN ((Qb g).length)) rfl) rfl U50 Qd3 QjB rfl (by rw [YE];decide) (by first | omega | (simp only [List.length_map];omega) | (simp only [List.length_map,List.length_append,List.length_cons,List.length_nil,List.length_replicate,List.length_set,List.length_drop,List.length_take,Z7] at *;omega)) (of_decide_eq_true (by kernel_rfl)) (Z0.int (Z0.sl Z0.nil)) YE (List.map_replicate ..).symm (by rw [List.length_map,List.length_replicate])) (fD (OF.build (l:= [(0,(T.agg (Qa false g))),(1,(tS (Zq g))),(2,(T.os 2 3 0 (((List.replicate ((Qb g).length) (D.Clue.mk 0 [])).map (Qd true)).length))),(3,(tN 1))]) (zs:= [(tN 0),(tN 0),(tS ByteArray.empty),(tS ByteArray.empty),T.nils,(tN 0)]) (out:= [(tI g.Rows),(tI g.Cols),(tS g.Cells),(tS (Zq g)),(T.os 2 3 0 (((List.replicate ((Qb g).length) (D.Clue.mk 0 [])).map (Qd true)).length)),(tN 1)]) (VEvp.cons (i:=0) (tv (T.agg (Qa false g)) rfl) (VEvp.cons (i:=1) (tv (tS (Zq g)) rfl) (VEvp.cons (i:=2) (tv (T.os 2 3 0 (((List.replicate ((Qb g).length) (D.Clue.mk 0 [])).map (Qd true)).length)) rfl) (VEvp.cons (i:=3) (VEv.int .i64 1) VEvp.nil)))) (bc nofun (bc nofun (bc nofun (bc nofun bn)))) Tryd.underlying52 Qcc (fun _=>RL.cons (.int _ _) (RL.cons (.int _ _) (RL.cons (.str _) (RL.cons (.str _) (RL.cons (.nils) (RL.cons (.int _ _) (RL.nil _))))))) (by kernel_rfl) (by kernel_rfl)) rfl rfl ?_)))))))))))
 refine VRunD.chain (bi:= [0,2,1,6,4,3,5,7]) rfl VWant.always rfl rfl rfl (by kernel_rfl) (B.storeW (us:= [(tI g.Rows),(tI g.Cols),(tS g.Cells),(tS (Zq g)),(T.os 2 3 0 (((List.replicate ((Qb g).length) (D.Clue.mk 0 [])).map (Qd true)).length)),(tN 1)]) (tv (T.op 1 0) rfl) (tv (T.agg [(tI g.Rows),(tI g.Cols),(tS g.Cells),(tS (Zq g)),(T.os 2 3 0 (((List.replicate ((Qb g).length) (D.Clue.mk 0 [])).map (Qd true)).length)),(tN 1)]) rfl) nofun rfl rfl rfl Qdt Yq (bc rfl (bc rfl (bc rfl (bc rfl (bc rfl (bc rfl bn))))))) (fD (OF.assign (VEv.bool true)) rfl rfl (VRunD.nil (tn (rt ?_))))
 refine vfin.eq (r':=(T.tup [(T.agg [(tI g.Rows),(tI g.Cols),(tS g.Cells),(tS (Zq g)),(T.sl true 2 ((List.replicate ((Qb g).length) (D.Clue.mk 0 [])).map (Qd true))),(tN 1)]),(tB true)])) ?_ (vfin.r (VRes.celln (ws:= [(tI g.Rows),(tI g.Cols),(tS g.Cells),(tS (Zq g)),(T.os 2 3 0 (((List.replicate ((Qb g).length) (D.Clue.mk 0 [])).map (Qd true)).length)),(tN 1)]) rfl rfl Qau Yq (lb rfl) rfl (VRes.tmp (t:=(tB true)) rfl VRes.nil)) (Give.tup (GiveL.cons (Give.agg (GiveL.cons (Give.int _ _) (GiveL.cons (Give.int _ _) (GiveL.cons (Give.str _) (GiveL.cons (Give.str _) (GiveL.cons (Give.os rfl rfl (okeClue.cleanMap _)) (GiveL.cons (Give.int _ _) GiveL.nil (by decide)) (by decide)) (by decide)) (by decide)) (by decide)) (by decide))) (GiveL.cons (Give.bool _) GiveL.nil (by decide)) (by decide))))
 rw [Qb4 fhc0,decide_eq_true fhc0];rfl
end Go.Proofs.YthifchndolccgaaDoor.AE
