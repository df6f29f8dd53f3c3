/- A part of what the row of FnExactPuzzleAt uses. Conditions: as each theorem states. -/
import Derived.Test.YtcccmceoplcciaaGreatZFnExactPuzzleAtd
namespace Go.Proofs.YtcccmceoplcciaaGreat.AE
open Go Go.RowKit
set_option linter.unusedVariables false
set_option linter.unusedSimpArgs false
set_option maxRecDepth 20000
set_option maxHeartbeats 2000000
noncomputable section
def Qfp (g:D.Grid) (s:D.Slot):Int:=if s.Down=true then g.Cols else 1
def Qm (g:D.Grid) (s:D.Slot) (n:Nat):List Int:=(List.range n).map fun k=>s.Cell+((k:Nat):Int)*Qfp g s
theorem Qaa (g:D.Grid) (s:D.Slot) (n:Nat):(Qm g s n).length=n:=by simp [Qm]
theorem QaD (g:D.Grid) (s:D.Slot) (n:Nat):Qm g s (n+1)=Qm g s n++ [s.Cell+((n:Nat):Int)*Qfp g s]:=by
 simp [Qm,List.range_succ]
def QhT (g:D.Grid) (s:D.Slot):Prop:=gridOk g∧(0≤s.Cell∧s.Cell≤36)∧(0≤s.Length∧s.Length≤6)
theorem Qhk {ok:Nat→Prop} [DecidablePred ok]:∀f n,QaF ok f n≤n+f
 | 0,n=>Nat.le_refl _
 | f+1,n=>by
  simp only [QaF]
  split
  ·have:=Qhk (ok:=ok) f (n+1)
   omega
  ·omega
theorem Qic (g:D.Grid) (cell:Nat) (down:Bool):Qr g cell down≤6:=by
 unfold Qr QgN QgU
 split<;>split<;>first | omega | (have:=Qhk (ok:=slD g cell) 6 0;omega) | (have:=Qhk (ok:=slA g cell) 6 0;omega)
theorem QgS (g:D.Grid) (hg:gridOk g):∀i,i≤g.Cells.size→∀s∈(Qi g i).1,QhT g s
 | 0,_,s,hs=>by simp [Qi] at hs
 | i+1,hi,s,hs=>by
  have hsz:=hg.size
  rw [YK,List.mem_append,List.mem_append] at hs
  rcases hs with (hs | hs) | hs
  ·exact QgS g hg i (by omega) s hs
  ·split at hs
   ·obtain rfl:=List.mem_singleton.1 hs
    have:=Qic g i false
    exact ⟨hg,by simp only;omega,by simp only;omega⟩
   ·cases hs
  ·split at hs
   ·obtain rfl:=List.mem_singleton.1 hs
    have:=Qic g i true
    exact ⟨hg,by simp only;omega,by simp only;omega⟩
   ·cases hs
theorem Qa2 {g:D.Grid} {s:D.Slot} (hs:s∈Qc g):QhT g s:=by
 unfold Qc at hs
 split at hs
 ·exact QgS g ‹_› _ (Nat.le_refl _) s hs
 ·cases hs
end
theorem Qhd (n:Nat) (g:D.Grid) (s:D.Slot) (hs:QhT g s):Pure (Qs Tryz.prog (n+1)) 178 [(T.agg (Qe false g)),(T.agg (Qk false s))] (T.sl true 1 ((Qm g s s.Length.toNat).map (Qb true))):=by
 refine Pure.intro (rs:= [ResultVar.tmp 4]) Tryz.func178 Y Y Y (E0:= [(0,(T.agg (Qe false g))),(1,(T.agg (Qk false s)))]) Y ?_
 obtain ⟨hlim,hmx,hmax⟩:=QG
 obtain ⟨hg,hc,hl⟩:=hs
 have hB:=hg.2.1
 refine sr (kO (B.box (ts:=(Qe false g)) (tv (T.agg (Qe false g)) Y) nofun Y) (kO (B.box (ts:=(Qk false s)) (tv (T.agg (Qk false s)) Y) nofun Y) (fO (OF.assign VEv.nils) (nt (sr (fO (OF.assign (VEv.int .i64 1)) (nt (sq (sr (lf (tB s.Down) Y Qj8 Y Y st4 (nt ?_)))))))))))
 refine VRun.cond (tv (tB s.Down) Y) (fun hc0=> ?_) (fun hc0=> ?_)
 ·have fhc0:s.Down=true:=hc0
  refine VRun.region (lf (tI g.Cols) Y Zx Y Y QQ (aO (tI g.Cols) Y (VRunO.nil (tn (sr (fO (OF.assign VEv.nils) (nt (sq (sr (lf (tI s.Length) Y Qbc Y Y QQ (fO (OF.move (VEv.int .i64 0)) ?_)))))))))))
  refine nt (VRun.block (VRun.wk (Wk.phantom 6 1 Y) ?_))
  have he1: []=((Qm g s 0).map (Qb true)):=by rfl
  refine VRun.loop (A:=Nat) (fun s_=> [(3,(T.op 0 0)),(4,T.nils),(5,(tI g.Cols)),(6,(T.os 1 1 0 (((Qm g s s_).map (Qb true)).length))),(13,(tI s.Length)),(14,(tN s_))]) (fun s_=>QY [(0,(Obj.cells (Qk false s))),(1,(Obj.rows 1 ((Qm g s s_).map (Qb true))))]) 2 (fun s_=>s_≤s.Length.toNat) (fun s_=>s.Length.toNat - s_) (0:Nat) ?_ (Wk.mk (fun k=>if k=0 then 1 else if k=1 then 2 else k) ?_ ?_ ?_) ?_
  ·(simp;done)
  ·exact (b2 (b2 (b2 (bc ⟨(congrArg (fun n_=>T.os 1 2 0 n_) (show 0=((Qm g s 0).map (Qb true)).length from (by rfl))),rfl⟩ (b2 (b2 bn))))))
  ·exact (b3 (bc ⟨(congrArg (fun l_=>some (Obj.rows 1 l_)) he1),(lb Y),rfl⟩ bn))
  ·exact nd Y
  rintro i (hI':i≤s.Length.toNat)
  show VRun _ _ _ [(3,(T.op 0 0)),(4,T.nils),(5,(tI g.Cols)),(6,(T.os 1 1 0 (((Qm g s i).map (Qb true)).length))),(13,(tI s.Length)),(14,(tN i))] (QY [(0,(Obj.cells (Qk false s))),(1,(Obj.rows 1 ((Qm g s i).map (Qb true))))]) 2 _
  have hI1:=hI'
  have hN:=Qe2 (n:=i) (c:=g.Cols) (by omega) hB.1 hB.2
  have hcl:=Qaa g s i
  refine sr (fO (xls (tv (tN i) Y) (tv (tI s.Length) Y)) (nt (sq ?_)))
  refine cd (((i:Nat):Int)<s.Length) Y (fun fhc1=> ?_) fun fhc1=> ?_
  ·refine sk ?_
   refine tn (sq (VRun.block (sr (mO (tN i) Y (aO (tN i) Y (nt (VRun.region (mO (T.os 1 1 0 (((Qm g s i).map (Qb true)).length)) Y (lf (tI s.Cell) Y Qfb Y Y QQ (mO (tN i) Y (mO (tI g.Cols) Y ?_)))))))))))
   refine fO (B.mul (n:=(((i:Nat):Int)*g.Cols)) (tv (tN i) Y) (tv (tI g.Cols) Y) (by (refine QgL ?_ ?_ ?_<;>omega))) (fO (B.add (n:=(s.Cell+(((i:Nat):Int)*g.Cols))) (tv (tI s.Cell) Y) (tv (tI (((i:Nat):Int)*g.Cols)) Y) (by (rw [Qx (by omega)];done))) (kO (OM.buildSlice (l:= [(tI (s.Cell+(((i:Nat):Int)*g.Cols)))]) (VEvp.cons (tv (tI (s.Cell+(((i:Nat):Int)*g.Cols))) Y) VEvp.nil) Y (by decide) (bc (nofun) bn) (bc ((bc (Y) bn)) bn) (bc (Y) bn) Zr JW (by kernel_rfl) Y (by rw [Zd];decide) Zd (Nat.le_of_ble_eq_true Y)) (cO (B.append (rows:=((Qm g s i).map (Qb true))) (rows2:= [[(tI (s.Cell+(((i:Nat):Int)*g.Cols)))]]) (rows3:=((Qm g s i++ [(s.Cell+(((i:Nat):Int)*g.Cols))]).map (Qb true))) (VDst.own (tv (T.os 1 1 0 (((Qm g s i).map (Qb true)).length)) Y) Y Y) (VSrc.own (tv (T.os 1 2 0 1) Y) Y Y Zr (bc (bc Y bn) bn)) (by decide) Zr Zd (by decide) JW Y (of_decide_eq_true (by kernel_rfl)) (by (simp only [List.length_map,List.length_append,List.length_cons,List.length_nil,List.length_replicate,List.length_set,List.length_drop,List.length_take,YG] at *;omega)) ((List.map_append (f:=Qb true) (l₁:=Qm g s i) (l₂:= [(s.Cell+(((i:Nat):Int)*g.Cols))])).symm)) (aO (T.os 1 3 0 (((Qm g s i++ [(s.Cell+(((i:Nat):Int)*g.Cols))]).map (Qb true)).length)) Y (VRunO.nil (vinB.n (tn (VRun.region (fO (Qy (tv (tN i) Y) (VEv.int .i64 1) (by omega)) (mO (tN (i+1)) Y (VRunO.nil ?_)))))))))))
   refine tn ?_
   have he2:(Qm g s i++ [(s.Cell+(((i:Nat):Int)*g.Cols))])=Qm g s (i+1):=by rw [QaD,Qfp,if_pos fhc0]
   refine ⟨(i+1:Nat),?_,?_,Wk.mk (fun k=>if k=1 then 3 else k) ?_ ?_ ?_⟩
   ·omega
   ·omega
   ·exact (b2 (b2 (b2 (bc ⟨(congrArg (fun l_=>T.os 1 3 0 (List.map (Qb true) l_).length) he2),rfl⟩ (b2 (b2 bn))))))
   ·exact (b3 (bc ⟨(congrArg (fun l_=>some (Obj.rows 1 (List.map (Qb true) l_))) he2),(lb Y),rfl⟩ bn))
   ·exact nd Y
  refine VRun.exit (vthn.e (vthn.e (vinB.e (tn (sr (mO (T.os 1 1 0 (((Qm g s i).map (Qb true)).length)) Y (aO (T.os 1 1 0 (((Qm g s i).map (Qb true)).length)) Y (nt (rt ?_)))))))))
  refine vfin.eq (r':=(T.sl true 1 ((Qm g s i).map (Qb true)))) ?_ (vfin.r (VRes.tmp (t:=(T.os 1 1 0 (((Qm g s i).map (Qb true)).length))) Y VRes.nil) (Give.os Y Y (okInt.cleanMap _)))
  refine congrArg (fun l_=>T.sl true 1 (List.map (Qb true) l_)) ?_
  rw [show i=s.Length.toNat from by omega]
 have fhc0:s.Down=false:=hc0
 refine sk (tn (sr (fO (OF.assign VEv.nils) (nt (sq (sr (lf (tI s.Length) Y Qbc Y Y QQ (fO (OF.move (VEv.int .i64 0)) (nt (VRun.block (VRun.wk (Wk.phantom 6 1 Y) ?_)))))))))))
 have he3: []=((Qm g s 0).map (Qb true)):=by rfl
 refine VRun.loop (A:=Nat) (fun s_=> [(3,(T.op 0 0)),(4,T.nils),(5,(tN 1)),(6,(T.os 1 1 0 (((Qm g s s_).map (Qb true)).length))),(13,(tI s.Length)),(14,(tN s_))]) (fun s_=>QY [(0,(Obj.cells (Qk false s))),(1,(Obj.rows 1 ((Qm g s s_).map (Qb true))))]) 2 (fun s_=>s_≤s.Length.toNat) (fun s_=>s.Length.toNat - s_) (0:Nat) ?_ (Wk.mk (fun k=>if k=0 then 1 else if k=1 then 2 else k) ?_ ?_ ?_) ?_
 ·(simp;done)
 ·exact (b2 (b2 (b2 (bc ⟨(congrArg (fun n_=>T.os 1 2 0 n_) (show 0=((Qm g s 0).map (Qb true)).length from (by rfl))),rfl⟩ (b2 (b2 bn))))))
 ·exact (b3 (bc ⟨(congrArg (fun l_=>some (Obj.rows 1 l_)) he3),(lb Y),rfl⟩ bn))
 ·exact nd Y
 rintro i (hI':i≤s.Length.toNat)
 show VRun _ _ _ [(3,(T.op 0 0)),(4,T.nils),(5,(tN 1)),(6,(T.os 1 1 0 (((Qm g s i).map (Qb true)).length))),(13,(tI s.Length)),(14,(tN i))] (QY [(0,(Obj.cells (Qk false s))),(1,(Obj.rows 1 ((Qm g s i).map (Qb true))))]) 2 _
 have hI1:=hI'
 have hN:=Qe2 (n:=i) (c:=g.Cols) (by omega) hB.1 hB.2
 have hcl:=Qaa g s i
 refine sr (fO (xls (tv (tN i) Y) (tv (tI s.Length) Y)) (nt (sq ?_)))
 refine cd (((i:Nat):Int)<s.Length) Y (fun fhc1=> ?_) fun fhc1=> ?_
 ·refine sk ?_
  refine tn (sq (VRun.block (sr (mO (tN i) Y (aO (tN i) Y (nt (VRun.region (mO (T.os 1 1 0 (((Qm g s i).map (Qb true)).length)) Y (lf (tI s.Cell) Y Qfb Y Y QQ (mO (tN i) Y (mO (tN 1) Y ?_)))))))))))
  refine fO (B.mul (n:=(((i*1):Nat):Int)) (tv (tN i) Y) (tv (tN 1) Y) (by (rw [Qx (by omega)];omega))) (fO (B.add (n:=(s.Cell+(((i*1):Nat):Int))) (tv (tI s.Cell) Y) (tv (tN (i*1)) Y) (by (rw [Qx (by omega)];done))) (kO (OM.buildSlice (l:= [(tI (s.Cell+(((i*1):Nat):Int)))]) (VEvp.cons (tv (tI (s.Cell+(((i*1):Nat):Int))) Y) VEvp.nil) Y (by decide) (bc (nofun) bn) (bc ((bc (Y) bn)) bn) (bc (Y) bn) Zr JW (by kernel_rfl) Y (by rw [Zd];decide) Zd (Nat.le_of_ble_eq_true Y)) (cO (B.append (rows:=((Qm g s i).map (Qb true))) (rows2:= [[(tI (s.Cell+(((i*1):Nat):Int)))]]) (rows3:=((Qm g s i++ [(s.Cell+(((i*1):Nat):Int))]).map (Qb true))) (VDst.own (tv (T.os 1 1 0 (((Qm g s i).map (Qb true)).length)) Y) Y Y) (VSrc.own (tv (T.os 1 2 0 1) Y) Y Y Zr (bc (bc Y bn) bn)) (by decide) Zr Zd (by decide) JW Y (of_decide_eq_true (by kernel_rfl)) (by (simp only [List.length_map,List.length_append,List.length_cons,List.length_nil,List.length_replicate,List.length_set,List.length_drop,List.length_take,YG] at *;omega)) ((List.map_append (f:=Qb true) (l₁:=Qm g s i) (l₂:= [(s.Cell+(((i*1):Nat):Int))])).symm)) (aO (T.os 1 3 0 (((Qm g s i++ [(s.Cell+(((i*1):Nat):Int))]).map (Qb true)).length)) Y (VRunO.nil (vinB.n (tn (VRun.region (fO (Qy (tv (tN i) Y) (VEv.int .i64 1) (by omega)) (mO (tN (i+1)) Y (VRunO.nil ?_)))))))))))
  refine tn ?_
  have he4:(Qm g s i++ [(s.Cell+(((i*1):Nat):Int))])=Qm g s (i+1):=by (rw [QaD,Qfp,fhc0];rfl)
  refine ⟨(i+1:Nat),?_,?_,Wk.mk (fun k=>if k=1 then 3 else k) ?_ ?_ ?_⟩
  ·omega
  ·omega
  ·exact (b2 (b2 (b2 (bc ⟨(congrArg (fun l_=>T.os 1 3 0 (List.map (Qb true) l_).length) he4),rfl⟩ (b2 (b2 bn))))))
  ·exact (b3 (bc ⟨(congrArg (fun l_=>some (Obj.rows 1 (List.map (Qb true) l_))) he4),(lb Y),rfl⟩ bn))
  ·exact nd Y
 refine VRun.exit (vthn.e (vthn.e (vinB.e (tn (sr (mO (T.os 1 1 0 (((Qm g s i).map (Qb true)).length)) Y (aO (T.os 1 1 0 (((Qm g s i).map (Qb true)).length)) Y (nt (rt ?_)))))))))
 refine vfin.eq (r':=(T.sl true 1 ((Qm g s i).map (Qb true)))) ?_ (vfin.r (VRes.tmp (t:=(T.os 1 1 0 (((Qm g s i).map (Qb true)).length))) Y VRes.nil) (Give.os Y Y (okInt.cleanMap _)))
 refine congrArg (fun l_=>T.sl true 1 (List.map (Qb true) l_)) ?_
 rw [show i=s.Length.toNat from by omega]
noncomputable section
def QO (g:D.Grid):List (List Int):=(Qc g).map fun s=>Qm g s s.Length.toNat
theorem Qkv {g:D.Grid} {i:Nat} {s:D.Slot} (h:(Qc g)[i]? =some s):(QO g).take (i+1)=(QO g).take i++ [Qm g s s.Length.toNat]:=by
 unfold QO
 rw [List.take_add_one,List.getElem?_map,h]
 rfl
theorem Qa7 (g:D.Grid):(QO g).length=(Qc g).length:=by simp [QO]
end
theorem JG (n:Nat) (g:D.Grid) (hc:g.Cells.size≤maxLen):Pure (Qs Tryz.prog (n+4)) 148 [(T.agg (Qe false g))] (T.sl true 1 ((QO g).map ((Jg 1 Qb) true))):=by
 refine Pure.intro (rs:= [ResultVar.tmp 2]) Tryz.func148 Y Y Y (E0:= [(0,(T.agg (Qe false g)))]) Y ?_
 obtain ⟨hlim,hmx,hmax⟩:=QG
 have hsl:=Zp g
 have hll:=Qa7 g
 refine sr (kO (B.box (ts:=(Qe false g)) (tv (T.agg (Qe false g)) Y) nofun Y) (fO (OF.assign VEv.nils) (nt (sr (fO (OF.assign VEv.nils) (nt (sq (sr (lO (OL.loadOn (us:=(Qe false g)) (tv (T.op 0 0) Y) Y Q4 QX (lb Y) Y) (cO (OC.callF (r':=(T.os 4 1 0 (((Qc g).map (Qk true)).length))) (objs:= [(Obj.rows 4 ((Qc g).map (Qk true)))]) Y (vc (tv (T.agg (Qe false g)) Y) vn) (LendL.cons (lg Qw) ln) (Qaf (n+0) g (by assumption)) Y) (lO (B.lenO (m:=(Qc g).length) (tv (T.os 4 1 0 (((Qc g).map (Qk true)).length)) Y) Yh (List.length_map ..)) ?_)))))))))))
 refine fO (OF.move (VEv.int .i64 0)) (nt (VRun.block (VRun.wk (Wk.phantom 3 1 Y) ?_)))
 have he1: []=(((QO g).take 0).map ((Jg 1 Qb) true)):=by rfl
 refine VRun.loop (A:=Nat) (fun s_=> [(1,(T.op 0 0)),(2,T.nils),(3,(T.os 1 2 0 ((((QO g).take s_).map ((Jg 1 Qb) true)).length))),(7,(T.os 4 1 0 (((Qc g).map (Qk true)).length))),(8,(tN ((Qc g).length))),(9,(tN s_))]) (fun s_=>QY [(0,(Obj.cells (Qe false g))),(1,(Obj.rows 4 ((Qc g).map (Qk true)))),(2,(Obj.rows 1 (((QO g).take s_).map ((Jg 1 Qb) true))))]) 3 (fun s_=>s_≤(Qc g).length) (fun s_=>(Qc g).length - s_) (0:Nat) ?_ (Wk.mk (fun k=>k) ?_ ?_ ?_) ?_
 ·(simp;done)
 ·exact (b2 (b2 (bc ⟨(congrArg (fun n_=>T.os 1 2 0 n_) (show 0=(((QO g).take 0).map ((Jg 1 Qb) true)).length from (by rfl))),rfl⟩ (b2 (b2 (b2 bn))))))
 ·exact (b3 (b3 (bc ⟨(congrArg (fun l_=>some (Obj.rows 1 l_)) he1),(lb Y),rfl⟩ bn)))
 ·exact nd Y
 rintro i (hI':i≤(Qc g).length)
 show VRun _ _ _ [(1,(T.op 0 0)),(2,T.nils),(3,(T.os 1 2 0 ((((QO g).take i).map ((Jg 1 Qb) true)).length))),(7,(T.os 4 1 0 (((Qc g).map (Qk true)).length))),(8,(tN ((Qc g).length))),(9,(tN i))] (QY [(0,(Obj.cells (Qe false g))),(1,(Obj.rows 4 ((Qc g).map (Qk true)))),(2,(Obj.rows 1 (((QO g).take i).map ((Jg 1 Qb) true))))]) 3 _
 have hI1:=hI'
 refine sr (fO (Zb (tv (tN i) Y) (tv (tN ((Qc g).length)) Y)) (nt (sq ?_)))
 refine cd (i<(Qc g).length) Y (fun fhc0=> ?_) fun fhc0=> ?_
 ·refine sk ?_
  refine tn (sq (VRun.block (sr ?_)))
  obtain ⟨x1,hx1⟩:∃x,(Qc g)[i]? =some x:=⟨_,List.getElem?_eq_getElem (by omega)⟩
  refine fO (B.indexAddrO (i:=i) (tv (T.os 4 1 0 (((Qc g).map (Qk true)).length)) Y) (tv (tN i) Y) Y (by (simp only [List.length_map];omega)) Yh Zt Qbt) (lO (OL.loadPn (us:=(Qk false x1)) (row:=(Qk true x1)) (tv (T.orp 4 1 i 0) Y) Y (Qt _ hx1) Qdw Zt (lb Y) Y (bc Y (bc Y (bc Y (bc Y bn))))) (kO (B.alloc (t:=(T.agg [(tN 0),(tB false),(tN 0),(tN 0)])) (ts:= [(tN 0),(tB false),(tN 0),(tN 0)]) YP QlS nofun (fun _=> .agg _ _ Y (Yf (RL.cons (.int _ _) (RL.cons (.bool _) (RL.cons (.int _ _) (RL.cons (.int _ _) (RL.nil _))))))) Y) (cO (B.storeW (us:=(Qk false x1)) (tv (T.op 3 0) Y) (tv (T.agg (Qk false x1)) Y) nofun Y Y Y Qbt Zt (bc Y (bc Y (bc Y (bc Y bn))))) (nt (VRun.region (mO (T.os 1 2 0 ((((QO g).take i).map ((Jg 1 Qb) true)).length)) Y (lO (OL.loadOn (us:=(Qe false g)) (tv (T.op 0 0) Y) Y Q4 QX (lb Y) Y) (lO (OL.loadOn (us:=(Qk false x1)) (tv (T.op 3 0) Y) Y Qdw Zt (lb Y) Y) (cO (OC.callF (r':=(T.os 1 4 0 (((Qm g x1 x1.Length.toNat).map (Qb true)).length))) (objs:= [(Obj.rows 1 ((Qm g x1 x1.Length.toNat).map (Qb true)))]) Y (vc (tv (T.agg (Qe false g)) Y) (vc (tv (T.agg (Qk false x1)) Y) vn)) (LendL.cons (lg Qw) (LendL.cons (lg okeSlot) ln)) (Qhd (n+2) g x1 (by exact Qa2 (List.mem_of_getElem? hx1))) Y) ?_)))))))))
  refine B.sliceB (t:=(T.os 1 4 0 (((Qm g x1 x1.Length.toNat).map (Qb true)).length))) (us:= [(T.os 1 4 0 (((Qm g x1 x1.Length.toNat).map (Qb true)).length))]) (rows:= [[(T.sl true 1 ((Qm g x1 x1.Length.toNat).map (Qb true)))]]) VWant.always (VEvp.cons (tv (T.os 1 4 0 (((Qm g x1 x1.Length.toNat).map (Qb true)).length)) Y) VEvp.nil) nofun Y (Bury.os Y Y Bury.nil (by decide)) Y (bc Y bn) Y Qfg QoH (by kernel_rfl) Y (by rw [QgB];decide) QgB (Nat.le_of_ble_eq_true Y) ?_
  refine cO (B.append (rows:=(((QO g).take i).map ((Jg 1 Qb) true))) (rows2:= [[(T.sl true 1 ((Qm g x1 x1.Length.toNat).map (Qb true)))]]) (rows3:=(((QO g).take i++ [Qm g x1 x1.Length.toNat]).map ((Jg 1 Qb) true))) (VDst.own (tv (T.os 1 2 0 ((((QO g).take i).map ((Jg 1 Qb) true)).length)) Y) Y Y) (VSrc.own (tv (T.os 1 5 0 1) Y) Y Y Qfg (bc (bc Y bn) bn)) (by decide) Qfg QgB (by decide) QoH Y (of_decide_eq_true (by kernel_rfl)) (by (rw [List.length_map,List.length_take];simp only [List.length_cons,List.length_nil];omega)) ((List.map_append (f:=(Jg 1 Qb) true) (l₁:=(QO g).take i) (l₂:= [Qm g x1 x1.Length.toNat])).symm)) (aO (T.os 1 6 0 ((((QO g).take i++ [Qm g x1 x1.Length.toNat]).map ((Jg 1 Qb) true)).length)) Y (VRunO.nil (vinB.n (tn (VRun.region (fO (Qy (tv (tN i) Y) (VEv.int .i64 1) (by omega)) (mO (tN (i+1)) Y (VRunO.nil (tn ?_)))))))))
  have he2:((QO g).take i++ [Qm g x1 x1.Length.toNat])=(QO g).take (i+1):=by exact (Qkv hx1).symm
  refine ⟨(i+1:Nat),?_,?_,Wk.mk (fun k=>if k=2 then 6 else k) ?_ ?_ ?_⟩
  ·trivial
  ·omega
  ·exact (b2 (b2 (bc ⟨(congrArg (fun l_=>T.os 1 6 0 (List.map ((Jg 1 Qb) true) l_).length) he2),rfl⟩ (b2 (b2 (b2 bn))))))
  ·exact (b3 (b3 (bc ⟨(congrArg (fun l_=>some (Obj.rows 1 (List.map ((Jg 1 Qb) true) l_))) he2),(lb Y),rfl⟩ bn)))
  ·exact nd Y
 refine VRun.exit (vthn.e (vthn.e (vinB.e (tn (sr (mO (T.os 1 2 0 ((((QO g).take i).map ((Jg 1 Qb) true)).length)) Y (aO (T.os 1 2 0 ((((QO g).take i).map ((Jg 1 Qb) true)).length)) Y (nt (rt ?_)))))))))
 refine vfin.eq (r':=(T.sl true 1 (((QO g).take i).map ((Jg 1 Qb) true)))) ?_ (vfin.r (VRes.tmp (t:=(T.os 1 2 0 ((((QO g).take i).map ((Jg 1 Qb) true)).length))) Y VRes.nil) (Give.os Y Y ((Qlk okInt).cleanMap _)))
 refine congrArg (fun l_=>T.sl true 1 (List.map ((Jg 1 Qb) true) l_)) ?_
 rw [List.take_of_length_le (by omega)]
noncomputable section
theorem Qeu (g:D.Grid):∀i,∀s∈(Qi g i).1,s.Cell<((i:Nat):Int)
 | 0,s,hs=>by simp [Qi] at hs
 | i+1,s,hs=>by
  rw [YK,List.mem_append,List.mem_append] at hs
  rcases hs with (hs | hs) | hs
  ·have:=Qeu g i s hs
   omega
  ·split at hs
   ·obtain rfl:=List.mem_singleton.1 hs
    simp only;omega
   ·cases hs
  ·split at hs
   ·obtain rfl:=List.mem_singleton.1 hs
    simp only;omega
   ·cases hs
theorem Qdt (g:D.Grid):∀i,(Qi g i).1.Nodup
 | 0=>by simp [Qi]
 | i+1=>by
  have h:=Qeu g i
  rw [YK,List.nodup_append,List.nodup_append]
  refine ⟨⟨Qdt g i,by split<;>simp,fun a ha b hb e=> ?_⟩,by split<;>simp,fun a ha b hb e=> ?_⟩
  ·split at hb
   ·obtain rfl:=List.mem_singleton.1 hb
    have:=h a ha
    rw [e] at this
    simp only at this
    omega
   ·cases hb
  ·split at hb
   ·obtain rfl:=List.mem_singleton.1 hb
    rcases List.mem_append.1 ha with ha | ha
    ·have:=h a ha
     rw [e] at this
     simp only at this
     omega
    ·split at ha
     ·obtain rfl:=List.mem_singleton.1 ha
      cases e
     ·cases ha
   ·cases hb
theorem QhA (g:D.Grid):(Qc g).Nodup:=by
 unfold Qc
 split
 ·exact Qdt g _
 ·simp
def Qaj (g:D.Grid) (s:D.Slot) (i:Nat):List Int:=if s∈(Qc g).take i then Qm g s s.Length.toNat else []
theorem Qn6 {g:D.Grid} {s x:D.Slot} {i:Nat} (h:(Qc g)[i]? =some x) (hn:¬x=s):Qaj g s (i+1)=Qaj g s i:=by
 unfold Qaj
 rw [List.take_add_one,h]
 simp [show ¬s=x from fun e=>hn e.symm]
theorem Qmb {g:D.Grid} {s x:D.Slot} {i:Nat} (h:(Qc g)[i]? =some x) (hn:x=s):Qaj g s i= []:=by
 subst hn
 refine if_neg fun hm=> ?_
 have hd:=QhA g
 have hi:=(List.getElem?_eq_some_iff.1 h).1
 rw [← List.take_append_drop i (Qc g),List.nodup_append] at hd
 refine hd.2.2 x hm x ?_ Y
 rw [List.drop_eq_getElem_cons hi,(List.getElem?_eq_some_iff.1 h).2]
 exact List.mem_cons_self
theorem Qm9 {g:D.Grid} {s x:D.Slot} {i:Nat} (h:(Qc g)[i]? =some x) (hn:x=s):Qaj g s (i+1)=Qm g s s.Length.toNat:=by
 subst hn
 refine if_pos ?_
 rw [List.take_add_one,h]
 simp
theorem Qm1 {g:D.Grid} {s x:D.Slot} {i k:Nat} (h:(Qc g)[i]? =some x) (hn:x=s) (h1:¬((k:Nat):Int)<s.Length) (h2:k≤s.Length.toNat):Qm g s k=Qaj g s (i+1):=by
 rw [Qm9 h hn,show k=s.Length.toNat by omega]
theorem QmH (g:D.Grid) (s:D.Slot) {i:Nat} (h:(Qc g).length≤i):Qaj g s i=if s∈Qc g then Qm g s s.Length.toNat else []:=by
 rw [Qaj,List.take_of_length_le h]
end
theorem Qac (n:Nat) (g:D.Grid) (s:D.Slot) (hc:g.Cells.size≤maxLen):Pure (Qs Tryz.prog (n+4)) 124 [(T.agg (Qe false g)),(T.agg (Qk false s))] (T.sl true 1 ((if s∈Qc g then Qm g s s.Length.toNat else []).map (Qb true))):=by
 refine Pure.intro (rs:= [ResultVar.tmp 4]) Tryz.func124 Y Y Y (E0:= [(0,(T.agg (Qe false g))),(1,(T.agg (Qk false s)))]) Y ?_
 obtain ⟨hlim,hmx,hmax⟩:=QG
 have hsl:=Zp g
 refine sr (kO (B.box (ts:=(Qe false g)) (tv (T.agg (Qe false g)) Y) nofun Y) (kO (B.box (ts:=(Qk false s)) (tv (T.agg (Qk false s)) Y) nofun Y) (fO (OF.assign VEv.nils) (nt (sr (kO (OM.slice0 Zr JW (by kernel_rfl) Y (by rw [Zd];decide) Zd) (aO (T.os 1 2 0 0) Y (nt (sr (lO (OL.loadOn (us:=(Qe false g)) (tv (T.op 0 0) Y) Y Q4 QX (lb Y) Y) (cO (OC.callF (r':=(T.os 4 3 0 (((Qc g).map (Qk true)).length))) (objs:= [(Obj.rows 4 ((Qc g).map (Qk true)))]) Y (vc (tv (T.agg (Qe false g)) Y) vn) (LendL.cons (lg Qw) ln) (ZJ (n+0) g (by assumption)) Y) ?_)))))))))))
 refine aO (T.os 4 3 0 (((Qc g).map (Qk true)).length)) Y (nt (sq (sr (fO (OF.assign (VEv.int .i64 0)) (nt (VRun.block ?_))))))
 have he1: []=((Qaj g s 0).map (Qb true)):=by rfl
 refine VRun.loop (A:=Nat) (fun s_=> [(2,(T.op 0 0)),(3,(T.op 1 0)),(4,T.nils),(5,(T.os 1 3 0 (((Qaj g s s_).map (Qb true)).length))),(6,(T.os 4 2 0 (((Qc g).map (Qk true)).length))),(7,(tN s_))]) (fun s_=>QY [(0,(Obj.cells (Qe false g))),(1,(Obj.cells (Qk false s))),(2,(Obj.rows 4 ((Qc g).map (Qk true)))),(3,(Obj.rows 1 ((Qaj g s s_).map (Qb true))))]) 4 (fun s_=>s_≤(Qc g).length) (fun s_=>(Qc g).length - s_) (0:Nat) ?_ (Wk.mk (fun k=>if k=2 then 3 else if k=3 then 2 else k) ?_ ?_ ?_) ?_
 ·(simp;done)
 ·exact (b2 (b2 (b2 (bc ⟨(congrArg (fun n_=>T.os 1 2 0 n_) (show 0=((Qaj g s 0).map (Qb true)).length from (by rfl))),rfl⟩ (b2 (b2 bn))))))
 ·exact (b3 (b3 (b3 (bc ⟨(congrArg (fun l_=>some (Obj.rows 1 l_)) he1),(lb Y),rfl⟩ bn))))
 ·exact nd Y
 rintro i (hI':i≤(Qc g).length)
 show VRun _ _ _ [(2,(T.op 0 0)),(3,(T.op 1 0)),(4,T.nils),(5,(T.os 1 3 0 (((Qaj g s i).map (Qb true)).length))),(6,(T.os 4 2 0 (((Qc g).map (Qk true)).length))),(7,(tN i))] (QY [(0,(Obj.cells (Qe false g))),(1,(Obj.cells (Qk false s))),(2,(Obj.rows 4 ((Qc g).map (Qk true)))),(3,(Obj.rows 1 ((Qaj g s i).map (Qb true))))]) 4 _
 have hI1:=hI'
 refine sq (sr (mO (tN i) Y (mO (T.os 4 2 0 (((Qc g).map (Qk true)).length)) Y (lO (B.lenO (m:=(Qc g).length) (tv (T.os 4 2 0 (((Qc g).map (Qk true)).length)) Y) Yh (List.length_map ..)) (fO (Zb (tv (tN i) Y) (tv (tN ((Qc g).length)) Y)) (nt ?_))))))
 refine cd (i<(Qc g).length) Y (fun fhc0=> ?_) fun fhc0=> ?_
 ·refine sk ?_
  refine tn (sq (VRun.block (sq (sq (VRun.draw (B:= [[],[],[1,0],[0,1,2],[],[4,2,1,0,3]]) (by kernel_rfl) (by kernel_rfl) (mD (T.os 4 2 0 (((Qc g).map (Qk true)).length)) Y Y (mD (tN i) Y Y ?_)))))))
  obtain ⟨x1,hx1⟩:∃x,(Qc g)[i]? =some x:=⟨_,List.getElem?_eq_getElem (by omega)⟩
  refine fD (B.indexAddrO (i:=i) (tv (T.os 4 2 0 (((Qc g).map (Qk true)).length)) Y) (tv (tN i) Y) Y (by (simp only [List.length_map];omega)) Yh Zt Qbt) Y Y (lD (OL.loadPn (us:=(Qk false x1)) (row:=(Qk true x1)) (tv (T.orp 4 2 i 0) Y) Y (Qt _ hx1) Qdw Zt (lb Y) Y (bc Y (bc Y (bc Y (bc Y bn))))) Y Y (lD (OL.loadOn (us:=(Qk false s)) (tv (T.op 1 0) Y) Y Qdw Zt (lb Y) Y) Y Y (fD (B.neq138 (a:=x1) (b:=s) (m:=false) (m':=false) (tv (T.agg (Qk false x1)) Y) (tv (T.agg (Qk false s)) Y)) Y Y (VRunD.nil (tn ?_)))))
  refine cn (x1=s) Y (fun fhc1=> ?_) fun fhc1=> ?_
  ·refine VRun.exit ?_
   refine vthn.e (vinB.e (tn (VRun.region (mO (tN i) Y (fO (Qy (tv (tN i) Y) (VEv.int .i64 1) (by omega)) (aO (tN (i+1)) Y (VRunO.nil (tn ?_))))))))
   have he2:Qaj g s i=Qaj g s (i+1):=by exact (Qn6 hx1 fhc1).symm
   refine ⟨(i+1:Nat),?_,?_,Wk.mk (fun k=>k) ?_ ?_ ?_⟩
   ·trivial
   ·omega
   ·exact (b2 (b2 (b2 (bc ⟨(congrArg (fun l_=>T.os 1 3 0 (List.map (Qb true) l_).length) he2),rfl⟩ (b2 (b2 bn))))))
   ·exact (b3 (b3 (b3 (bc ⟨(congrArg (fun l_=>some (Obj.rows 1 (List.map (Qb true) l_))) he2),(lb Y),rfl⟩ bn))))
   ·exact nd Y
  have hok:QhT g s:=fhc1▸Qa2 (List.mem_of_getElem? hx1)
  obtain ⟨hg,hcc,hll⟩:=hok
  have hB:=hg.2.1
  refine sk (tn (sr (fO (OF.assign (VEv.int .i64 0)) (nt (VRun.block ?_)))))
  have he3:Qaj g s i=Qm g s 0:=by (rw [Qmb hx1 fhc1];rfl)
  refine VRun.loop (A:=Nat) (fun s_=> [(2,(T.op 0 0)),(3,(T.op 1 0)),(4,T.nils),(5,(T.os 1 3 0 (((Qm g s s_).map (Qb true)).length))),(6,(T.os 4 2 0 (((Qc g).map (Qk true)).length))),(7,(tN i)),(8,(tN s_))]) (fun s_=>QY [(0,(Obj.cells (Qe false g))),(1,(Obj.cells (Qk false s))),(2,(Obj.rows 4 ((Qc g).map (Qk true)))),(3,(Obj.rows 1 ((Qm g s s_).map (Qb true))))]) 4 (fun s_=>s_≤s.Length.toNat) (fun s_=>s.Length.toNat - s_) (0:Nat) ?_ (Wk.mk (fun k=>k) ?_ ?_ ?_) ?_
  ·(simp;done)
  ·exact (b2 (b2 (b2 (bc ⟨(congrArg (fun l_=>T.os 1 3 0 (List.map (Qb true) l_).length) he3),rfl⟩ (b2 (b2 (b2 bn)))))))
  ·exact (b3 (b3 (b3 (bc ⟨(congrArg (fun l_=>some (Obj.rows 1 (List.map (Qb true) l_))) he3),(lb Y),rfl⟩ bn))))
  ·exact nd Y
  rintro k (hI':k≤s.Length.toNat)
  show VRun _ _ _ [(2,(T.op 0 0)),(3,(T.op 1 0)),(4,T.nils),(5,(T.os 1 3 0 (((Qm g s k).map (Qb true)).length))),(6,(T.os 4 2 0 (((Qc g).map (Qk true)).length))),(7,(tN i)),(8,(tN k))] (QY [(0,(Obj.cells (Qe false g))),(1,(Obj.cells (Qk false s))),(2,(Obj.rows 4 ((Qc g).map (Qk true)))),(3,(Obj.rows 1 ((Qm g s k).map (Qb true))))]) 4 _
  have hJ1:=hI'
  have hN:=Qe2 (n:=k) (c:=g.Cols) (by omega) hB.1 hB.2
  have hcl:=Qaa g s k
  refine sq (sr (mO (tN k) Y (lf (tI s.Length) Y Qbc Y Y QQ (fO (xls (tv (tN k) Y) (tv (tI s.Length) Y)) (nt ?_)))))
  refine cd (((k:Nat):Int)<s.Length) Y (fun fhc2=> ?_) fun fhc2=> ?_
  ·refine sk ?_
   refine tn (sq (VRun.block (sr (lf (tB s.Down) Y Qj8 Y Y st4 (nt ?_)))))
   refine VRun.cond (tv (tB s.Down) Y) (fun hc3=> ?_) (fun hc3=> ?_)
   ·have fhc3:s.Down=true:=hc3
    refine VRun.region (mO (T.os 1 3 0 (((Qm g s k).map (Qb true)).length)) Y (lf (tI s.Cell) Y Qfb Y Y QQ (mO (tN k) Y (lf (tI g.Cols) Y Zx Y Y QQ (fO (B.mul (n:=(((k:Nat):Int)*g.Cols)) (tv (tN k) Y) (tv (tI g.Cols) Y) (by (refine QgL ?_ ?_ ?_<;>omega))) (fO (B.add (n:=(s.Cell+(((k:Nat):Int)*g.Cols))) (tv (tI s.Cell) Y) (tv (tI (((k:Nat):Int)*g.Cols)) Y) (by (rw [Qx (by omega)];done))) (kO (OM.buildSlice (l:= [(tI (s.Cell+(((k:Nat):Int)*g.Cols)))]) (VEvp.cons (tv (tI (s.Cell+(((k:Nat):Int)*g.Cols))) Y) VEvp.nil) Y (by decide) (bc (nofun) bn) (bc ((bc (Y) bn)) bn) (bc (Y) bn) Zr JW (by kernel_rfl) Y (by rw [Zd];decide) Zd (Nat.le_of_ble_eq_true Y)) (cO (B.append (rows:=((Qm g s k).map (Qb true))) (rows2:= [[(tI (s.Cell+(((k:Nat):Int)*g.Cols)))]]) (rows3:=((Qm g s k++ [(s.Cell+(((k:Nat):Int)*g.Cols))]).map (Qb true))) (VDst.own (tv (T.os 1 3 0 (((Qm g s k).map (Qb true)).length)) Y) Y Y) (VSrc.own (tv (T.os 1 4 0 1) Y) Y Y Zr (bc (bc Y bn) bn)) (by decide) Zr Zd (by decide) JW Y (of_decide_eq_true (by kernel_rfl)) (by (simp only [List.length_map,List.length_append,List.length_cons,List.length_nil,List.length_replicate,List.length_set,List.length_drop,List.length_take,YG] at *;omega)) ((List.map_append (f:=Qb true) (l₁:=Qm g s k) (l₂:= [(s.Cell+(((k:Nat):Int)*g.Cols))])).symm)) (aO (T.os 1 5 0 (((Qm g s k++ [(s.Cell+(((k:Nat):Int)*g.Cols))]).map (Qb true)).length)) Y (VRunO.nil (vinB.n ?_)))))))))))
    refine tn (VRun.region (mO (tN k) Y (fO (Qy (tv (tN k) Y) (VEv.int .i64 1) (by omega)) (aO (tN (k+1)) Y (VRunO.nil (tn ?_))))))
    have he4:(Qm g s k++ [(s.Cell+(((k:Nat):Int)*g.Cols))])=Qm g s (k+1):=by rw [QaD,Qfp,if_pos fhc3]
    refine ⟨(k+1:Nat),?_,?_,Wk.mk (fun k=>if k=3 then 5 else k) ?_ ?_ ?_⟩
    ·omega
    ·omega
    ·exact (b2 (b2 (b2 (bc ⟨(congrArg (fun l_=>T.os 1 5 0 (List.map (Qb true) l_).length) he4),rfl⟩ (b2 (b2 (b2 bn)))))))
    ·exact (b3 (b3 (b3 (bc ⟨(congrArg (fun l_=>some (Obj.rows 1 (List.map (Qb true) l_))) he4),(lb Y),rfl⟩ bn))))
    ·exact nd Y
   have fhc3:s.Down=false:=hc3
   refine VRun.region (mO (T.os 1 3 0 (((Qm g s k).map (Qb true)).length)) Y (lf (tI s.Cell) Y Qfb Y Y QQ (mO (tN k) Y (fO (B.add (n:=(s.Cell+((k:Nat):Int))) (tv (tI s.Cell) Y) (tv (tN k) Y) (by (rw [Qx (by omega)];done))) (kO (OM.buildSlice (l:= [(tI (s.Cell+((k:Nat):Int)))]) (VEvp.cons (tv (tI (s.Cell+((k:Nat):Int))) Y) VEvp.nil) Y (by decide) (bc (nofun) bn) (bc ((bc (Y) bn)) bn) (bc (Y) bn) Zr JW (by kernel_rfl) Y (by rw [Zd];decide) Zd (Nat.le_of_ble_eq_true Y)) (cO (B.append (rows:=((Qm g s k).map (Qb true))) (rows2:= [[(tI (s.Cell+((k:Nat):Int)))]]) (rows3:=((Qm g s k++ [(s.Cell+((k:Nat):Int))]).map (Qb true))) (VDst.own (tv (T.os 1 3 0 (((Qm g s k).map (Qb true)).length)) Y) Y Y) (VSrc.own (tv (T.os 1 4 0 1) Y) Y Y Zr (bc (bc Y bn) bn)) (by decide) Zr Zd (by decide) JW Y (of_decide_eq_true (by kernel_rfl)) (by (simp only [List.length_map,List.length_append,List.length_cons,List.length_nil,List.length_replicate,List.length_set,List.length_drop,List.length_take,YG] at *;omega)) ((List.map_append (f:=Qb true) (l₁:=Qm g s k) (l₂:= [(s.Cell+((k:Nat):Int))])).symm)) (aO (T.os 1 5 0 (((Qm g s k++ [(s.Cell+((k:Nat):Int))]).map (Qb true)).length)) Y (VRunO.nil (vinB.n (tn (VRun.region ?_)))))))))))
   refine mO (tN k) Y (fO (Qy (tv (tN k) Y) (VEv.int .i64 1) (by omega)) (aO (tN (k+1)) Y (VRunO.nil (tn ?_))))
   have he5:(Qm g s k++ [(s.Cell+((k:Nat):Int))])=Qm g s (k+1):=by (rw [QaD,Qfp,fhc3];simp;done)
   refine ⟨(k+1:Nat),?_,?_,Wk.mk (fun k=>if k=3 then 5 else k) ?_ ?_ ?_⟩
   ·omega
   ·omega
   ·exact (b2 (b2 (b2 (bc ⟨(congrArg (fun l_=>T.os 1 5 0 (List.map (Qb true) l_).length) he5),rfl⟩ (b2 (b2 (b2 bn)))))))
   ·exact (b3 (b3 (b3 (bc ⟨(congrArg (fun l_=>some (Obj.rows 1 (List.map (Qb true) l_))) he5),(lb Y),rfl⟩ bn))))
   ·exact nd Y
  refine VRun.exit (vthn.e (vthn.e (vinB.e (vinB.n (tn (VRun.region (mO (tN i) Y (fO (Qy (tv (tN i) Y) (VEv.int .i64 1) (by omega)) (aO (tN (i+1)) Y (VRunO.nil (tn ?_)))))))))))
  have he6:Qm g s k=Qaj g s (i+1):=by exact Qm1 hx1 fhc1 fhc2 hJ1
  refine ⟨(i+1:Nat),?_,?_,Wk.mk (fun k=>k) ?_ ?_ ?_⟩
  ·trivial
  ·omega
  ·exact (b2 (b2 (b2 (bc ⟨(congrArg (fun l_=>T.os 1 3 0 (List.map (Qb true) l_).length) he6),rfl⟩ (b2 (b2 bn))))))
  ·exact (b3 (b3 (b3 (bc ⟨(congrArg (fun l_=>some (Obj.rows 1 (List.map (Qb true) l_))) he6),(lb Y),rfl⟩ bn))))
  ·exact nd Y
 refine VRun.exit (vthn.e (vthn.e (vinB.e (tn (sr (mO (T.os 1 3 0 (((Qaj g s i).map (Qb true)).length)) Y (aO (T.os 1 3 0 (((Qaj g s i).map (Qb true)).length)) Y (nt (rt ?_)))))))))
 refine vfin.eq (r':=(T.sl true 1 ((Qaj g s i).map (Qb true)))) ?_ (vfin.r (VRes.tmp (t:=(T.os 1 3 0 (((Qaj g s i).map (Qb true)).length))) Y VRes.nil) (Give.os Y Y (okInt.cleanMap _)))
 refine congrArg (fun l_=>T.sl true 1 (List.map (Qb true) l_)) ?_
 exact QmH g s (by omega)
noncomputable section
def inS (g:D.Grid) (c:Int) (s:D.Slot):Prop:=c∈Qm g s s.Length.toNat
instance (g:D.Grid) (c:Int) (s:D.Slot):Decidable (inS g c s):=Classical.propDecidable _
def atL (g:D.Grid) (c:Int):List D.Slot→Nat→List Int
 | [],_=> []
 | s::r,n=>(if inS g c s then [((n:Nat):Int)] else [])++atL g c r (n+1)
theorem QiA (g:D.Grid) (c:Int) (s:D.Slot):∀(l:List D.Slot) (n:Nat),atL g c (l++ [s]) n=atL g c l n++(if inS g c s then [((n+l.length:Nat):Int)] else [])
 | [],n=>by simp [atL]
 | x::r,n=>by
  rw [List.cons_append,atL,atL,QiA g c s r (n+1),List.append_assoc]
  simp only [List.length_cons,show n+1+r.length=n+(r.length+1) by omega]
def Yw (g:D.Grid) (c:Int) (i:Nat):List Int:=atL g c ((Qc g).take i) 0
theorem Qdu {g:D.Grid} {c:Int} {i:Nat} {s:D.Slot} (h:(Qc g)[i]? =some s):Yw g c (i+1)=Yw g c i++(if inS g c s then [((i:Nat):Int)] else []):=by
 have hi:=(List.getElem?_eq_some_iff.1 h).1
 unfold Yw
 rw [List.take_add_one,h,Option.toList_some,QiA]
 simp [Nat.min_eq_left (Nat.le_of_lt hi)]
theorem QjP (g:D.Grid) (c:Int):∀(l:List D.Slot) (n:Nat),(atL g c l n).length≤l.length
 | [],n=>by simp [atL]
 | x::r,n=>by
  have:=QjP g c r (n+1)
  rw [atL,List.length_append,List.length_cons]
  split<;>simp only [List.length_cons,List.length_nil]<;>omega
theorem QjH (g:D.Grid) (c:Int) (i:Nat):(Yw g c i).length≤(Qc g).length:=by
 have:=QjP g c ((Qc g).take i) 0
 rw [List.length_take] at this
 unfold Yw
 omega
theorem Qhp {g:D.Grid} {i:Nat} {s:D.Slot} (h:(Qc g)[i]? =some s):(if s∈Qc g then Qm g s s.Length.toNat else [])=Qm g s s.Length.toNat:=if_pos (List.mem_of_getElem? h)
theorem QhR (g:D.Grid) (s:D.Slot):(if s∈Qc g then Qm g s s.Length.toNat else []).length≤6:=by
 split
 ·rename_i h
  rw [Qaa]
  have:=(Qa2 h).2.2.2
  omega
 ·simp
end
theorem Qb4 (n:Nat) (g:D.Grid) (c:Int) (hc:g.Cells.size≤maxLen):Pure (Qs Tryz.prog (n+5)) 159 [(T.agg (Qe false g)),(tI c)] (T.sl true 1 ((Yw g c (Qc g).length).map (Qb true))):=by
 refine Pure.intro (rs:= [ResultVar.tmp 4]) Tryz.func159 Y Y Y (E0:= [(0,(T.agg (Qe false g))),(1,(tI c))]) Y ?_
 obtain ⟨hlim,hmx,hmax⟩:=QG
 have hsl:=Zp g
 refine sr (kO (B.box (ts:=(Qe false g)) (tv (T.agg (Qe false g)) Y) nofun Y) (fO (OF.assign VEv.nils) (nt (sr (kO (OM.slice0 Zr JW (by kernel_rfl) Y (by rw [Zd];decide) Zd) (aO (T.os 1 1 0 0) Y (nt (sr (lO (OL.loadOn (us:=(Qe false g)) (tv (T.op 0 0) Y) Y Q4 QX (lb Y) Y) (cO (OC.callF (r':=(T.os 4 2 0 (((Qc g).map (Qk true)).length))) (objs:= [(Obj.rows 4 ((Qc g).map (Qk true)))]) Y (vc (tv (T.agg (Qe false g)) Y) vn) (LendL.cons (lg Qw) ln) (ZJ (n+1) g (by assumption)) Y) (aO (T.os 4 2 0 (((Qc g).map (Qk true)).length)) Y ?_)))))))))))
 refine nt (sq (sr (fO (OF.assign (VEv.int .i64 0)) (nt (VRun.block ?_)))))
 have he1: []=((Yw g c 0).map (Qb true)):=by rfl
 refine VRun.loop (A:=Nat) (fun s_=> [(1,(tI c)),(2,(T.op 0 0)),(4,T.nils),(5,(T.os 1 2 0 (((Yw g c s_).map (Qb true)).length))),(6,(T.os 4 1 0 (((Qc g).map (Qk true)).length))),(7,(tN s_))]) (fun s_=>QY [(0,(Obj.cells (Qe false g))),(1,(Obj.rows 4 ((Qc g).map (Qk true)))),(2,(Obj.rows 1 ((Yw g c s_).map (Qb true))))]) 3 (fun s_=>s_≤(Qc g).length) (fun s_=>(Qc g).length - s_) (0:Nat) ?_ (Wk.mk (fun k=>if k=1 then 2 else if k=2 then 1 else k) ?_ ?_ ?_) ?_
 ·(simp;done)
 ·exact (b2 (b2 (b2 (bc ⟨(congrArg (fun n_=>T.os 1 1 0 n_) (show 0=((Yw g c 0).map (Qb true)).length from (by rfl))),rfl⟩ (b2 (b2 bn))))))
 ·exact (b3 (b3 (bc ⟨(congrArg (fun l_=>some (Obj.rows 1 l_)) he1),(lb Y),rfl⟩ bn)))
 ·exact nd Y
 rintro i (hI':i≤(Qc g).length)
 show VRun _ _ _ [(1,(tI c)),(2,(T.op 0 0)),(4,T.nils),(5,(T.os 1 2 0 (((Yw g c i).map (Qb true)).length))),(6,(T.os 4 1 0 (((Qc g).map (Qk true)).length))),(7,(tN i))] (QY [(0,(Obj.cells (Qe false g))),(1,(Obj.rows 4 ((Qc g).map (Qk true)))),(2,(Obj.rows 1 ((Yw g c i).map (Qb true))))]) 3 _
 have hI1:=hI'
 have hal:=QjH g c i
 refine sq (sr (mO (tN i) Y (mO (T.os 4 1 0 (((Qc g).map (Qk true)).length)) Y (lO (B.lenO (m:=(Qc g).length) (tv (T.os 4 1 0 (((Qc g).map (Qk true)).length)) Y) Yh (List.length_map ..)) (fO (Zb (tv (tN i) Y) (tv (tN ((Qc g).length)) Y)) (nt ?_))))))
 refine cd (i<(Qc g).length) Y (fun fhc0=> ?_) fun fhc0=> ?_
 ·refine sk ?_
  refine tn (sq (VRun.block (sq (VRun.draw (B:= [[],[],[],[2,1],[1,2,3],[3,2,1,4,0],[],[6,0,4,1,2,3,5]]) (by kernel_rfl) (by kernel_rfl) (lD (OL.loadOn (us:=(Qe false g)) (tv (T.op 0 0) Y) Y Q4 QX (lb Y) Y) Y Y (mD (T.os 4 1 0 (((Qc g).map (Qk true)).length)) Y Y (mD (tN i) Y Y ?_)))))))
  obtain ⟨x1,hx1⟩:∃x,(Qc g)[i]? =some x:=⟨_,List.getElem?_eq_getElem (by omega)⟩
  refine fD (B.indexAddrO (i:=i) (tv (T.os 4 1 0 (((Qc g).map (Qk true)).length)) Y) (tv (tN i) Y) Y (by (simp only [List.length_map];omega)) Yh Zt Qbt) Y Y (lD (OL.loadPn (us:=(Qk false x1)) (row:=(Qk true x1)) (tv (T.orp 4 1 i 0) Y) Y (Qt _ hx1) Qdw Zt (lb Y) Y (bc Y (bc Y (bc Y (bc Y bn))))) Y Y (VRunD.quiet (bi:= [3,2,1,4,0]) Y VWant.always Y Y Y bn (OC.callF (r':=(T.os 1 3 0 (((if x1∈Qc g then Qm g x1 x1.Length.toNat else []).map (Qb true)).length))) (objs:= [(Obj.rows 1 ((if x1∈Qc g then Qm g x1 x1.Length.toNat else []).map (Qb true)))]) Y (vc (tv (T.agg (Qe false g)) Y) (vc (tv (T.agg (Qk false x1)) Y) vn)) (LendL.cons (lg Qw) (LendL.cons (lg okeSlot) ln)) (Qac (n+0) g x1 (by assumption)) Y) (mD (tI c) Y Y (VRunD.quiet (bi:= [6,0,4,1,2,3,5]) Y VWant.always Y Y Y bn (cS (us:= [(rd 1 Qb (if x1∈Qc g then Qm g x1 x1.Length.toNat else [])),(tI c)]) (vc (tv (T.os 1 3 0 (((if x1∈Qc g then Qm g x1 x1.Length.toNat else []).map (Qb true)).length)) Y) (vc (tv (tI c) Y) vn)) (LendL.cons (Lend.os Y Y (okInt.fzMap _ _)) (lp Y ln)) (Qhc (n+3) (if x1∈Qc g then Qm g x1 x1.Length.toNat else []) c (by exact Nat.le_trans (QhR g _) (by decide))) Y Y) (VRunD.nil (tn ?_))))))
  refine cd (c∈(if x1∈Qc g then Qm g x1 x1.Length.toNat else [])) Y (fun fhc1=> ?_) fun fhc1=> ?_
  ·rw [Qhp hx1] at fhc1
   have q1:inS g c x1:=fhc1
   refine VRun.region (mO (T.os 1 2 0 (((Yw g c i).map (Qb true)).length)) Y (mO (tN i) Y (kO (OM.buildSlice (l:= [(tN i)]) (VEvp.cons (tv (tN i) Y) VEvp.nil) Y (by decide) (bc (nofun) bn) (bc ((bc (Y) bn)) bn) (bc (Y) bn) Zr JW (by kernel_rfl) Y (by rw [Zd];decide) Zd (Nat.le_of_ble_eq_true Y)) (cO (B.append (rows:=((Yw g c i).map (Qb true))) (rows2:= [[(tN i)]]) (rows3:=((Yw g c i++ [((i:Nat):Int)]).map (Qb true))) (VDst.own (tv (T.os 1 2 0 (((Yw g c i).map (Qb true)).length)) Y) Y Y) (VSrc.own (tv (T.os 1 4 0 1) Y) Y Y Zr (bc (bc Y bn) bn)) (by decide) Zr Zd (by decide) JW Y (of_decide_eq_true (by kernel_rfl)) (by (simp only [List.length_map,List.length_append,List.length_cons,List.length_nil,List.length_replicate,List.length_set,List.length_drop,List.length_take,YG] at *;omega)) ((List.map_append (f:=Qb true) (l₁:=Yw g c i) (l₂:= [((i:Nat):Int)])).symm)) (aO (T.os 1 5 0 (((Yw g c i++ [((i:Nat):Int)]).map (Qb true)).length)) Y (VRunO.nil (vinB.n (tn (VRun.region (mO (tN i) Y (fO (Qy (tv (tN i) Y) (VEv.int .i64 1) (by omega)) ?_)))))))))))
   refine aO (tN (i+1)) Y (VRunO.nil (tn ?_))
   have he2:(Yw g c i++ [((i:Nat):Int)])=Yw g c (i+1):=by rw [Qdu hx1,if_pos q1]
   refine ⟨(i+1:Nat),?_,?_,Wk.mk (fun k=>if k=2 then 5 else k) ?_ ?_ ?_⟩
   ·trivial
   ·omega
   ·exact (b2 (b2 (b2 (bc ⟨(congrArg (fun l_=>T.os 1 5 0 (List.map (Qb true) l_).length) he2),rfl⟩ (b2 (b2 bn))))))
   ·exact (b3 (b3 (bc ⟨(congrArg (fun l_=>some (Obj.rows 1 (List.map (Qb true) l_))) he2),(lb Y),rfl⟩ bn)))
   ·exact nd Y
  rw [Qhp hx1] at fhc1
  have q1:¬inS g c x1:=fhc1
  refine sk (vinB.n (tn (VRun.region (mO (tN i) Y (fO (Qy (tv (tN i) Y) (VEv.int .i64 1) (by omega)) (aO (tN (i+1)) Y (VRunO.nil (tn ?_))))))))
  have he3:Yw g c i=Yw g c (i+1):=by rw [Qdu hx1,if_neg q1,List.append_nil]
  refine ⟨(i+1:Nat),?_,?_,Wk.mk (fun k=>k) ?_ ?_ ?_⟩
  ·trivial
  ·omega
  ·exact (b2 (b2 (b2 (bc ⟨(congrArg (fun l_=>T.os 1 2 0 (List.map (Qb true) l_).length) he3),rfl⟩ (b2 (b2 bn))))))
  ·exact (b3 (b3 (bc ⟨(congrArg (fun l_=>some (Obj.rows 1 (List.map (Qb true) l_))) he3),(lb Y),rfl⟩ bn)))
  ·exact nd Y
 refine VRun.exit (vthn.e (vthn.e (vinB.e (tn (sr (mO (T.os 1 2 0 (((Yw g c i).map (Qb true)).length)) Y (aO (T.os 1 2 0 (((Yw g c i).map (Qb true)).length)) Y (nt (rt ?_)))))))))
 refine vfin.eq (r':=(T.sl true 1 ((Yw g c i).map (Qb true)))) ?_ (vfin.r (VRes.tmp (t:=(T.os 1 2 0 (((Yw g c i).map (Qb true)).length))) Y VRes.nil) (Give.os Y Y (okInt.cleanMap _)))
 refine congrArg (fun l_=>T.sl true 1 (List.map (Qb true) l_)) ?_
 rw [show i=(Qc g).length from by omega]
noncomputable section
theorem Qf9 {g:D.Grid} {i:Nat} {x:List Int} (h:(QO g)[i]? =some x):∃s,(Qc g)[i]? =some s∧x=Qm g s s.Length.toNat:=by
 unfold QO at h
 rw [List.getElem?_map] at h
 obtain ⟨s,h1,h2⟩:=Option.map_eq_some_iff.1 h
 exact ⟨s,h1,h2.symm⟩
theorem Qcd {g:D.Grid} {s:D.Slot} {i:Nat} (h:(Qc g)[i]? =some s):(Qm g s s.Length.toNat).length≤6:=by
 rw [Qaa]
 have:=(Qa2 (List.mem_of_getElem? h)).2.2.2
 omega
end
theorem QfE (n:Nat) (g:D.Grid) (c:Int) (hc:g.Cells.size≤maxLen):Pure (Qs Tryz.prog (n+5)) 186 [(T.agg (Qe false g)),(tI c)] (T.sl true 1 ((Yw g c (Qc g).length).map (Qb true))):=by
 refine Pure.intro (rs:= [ResultVar.tmp 4]) Tryz.func186 Y Y Y (E0:= [(0,(T.agg (Qe false g))),(1,(tI c))]) Y ?_
 obtain ⟨hlim,hmx,hmax⟩:=QG
 have hsl:=Zp g
 have hll:=Qa7 g
 refine sr (kO (B.box (ts:=(Qe false g)) (tv (T.agg (Qe false g)) Y) nofun Y) (fO (OF.assign VEv.nils) (nt (sr (fO (OF.assign VEv.nils) (nt (sq (sr (lO (OL.loadOn (us:=(Qe false g)) (tv (T.op 0 0) Y) Y Q4 QX (lb Y) Y) (cO (OC.callF (r':=(T.os 1 1 0 (((QO g).map ((Jg 1 Qb) true)).length))) (objs:= [(Obj.rows 1 ((QO g).map ((Jg 1 Qb) true)))]) Y (vc (tv (T.agg (Qe false g)) Y) vn) (LendL.cons (lg Qw) ln) (JG (n+0) g (by assumption)) Y) (lO (B.lenO (m:=(QO g).length) (tv (T.os 1 1 0 (((QO g).map ((Jg 1 Qb) true)).length)) Y) Qfg (List.length_map ..)) ?_)))))))))))
 refine fO (OF.move (VEv.int .i64 0)) (nt (VRun.block (VRun.wk (Wk.freeze (sz:=1) (k:=1) (rows':=((QO g).map ((Jg 1 Qb) false))) [9] (bc Y bn) Y Y ((Qlk okInt).fzMap _ _)) (VRun.wk (Wk.phantom 5 1 Y) ?_))))
 have he1: []=((Yw g c 0).map (Qb true)):=by rfl
 refine VRun.loop (A:=Nat) (fun s_=> [(1,(tI c)),(4,T.nils),(5,(T.os 1 0 0 (((Yw g c s_).map (Qb true)).length))),(9,(rd 1 (Jg 1 Qb) (QO g))),(10,(tN ((QO g).length))),(11,(tN s_))]) (fun s_=>QY [(0,(Obj.rows 1 ((Yw g c s_).map (Qb true))))]) 1 (fun s_=>s_≤(QO g).length) (fun s_=>(QO g).length - s_) (0:Nat) ?_ (Wk.mk (fun k=>if k=0 then 2 else k) ?_ ?_ ?_) ?_
 ·(simp;done)
 ·exact (b2 (b2 (bc ⟨(congrArg (fun n_=>T.os 1 2 0 n_) (show 0=((Yw g c 0).map (Qb true)).length from (by rfl))),rfl⟩ (b2 (b2 (b2 bn))))))
 ·exact (bc ⟨(congrArg (fun l_=>some (Obj.rows 1 l_)) he1),(lb Y),rfl⟩ bn)
 ·exact nd Y
 rintro i (hI':i≤(QO g).length)
 show VRun _ _ _ [(1,(tI c)),(4,T.nils),(5,(T.os 1 0 0 (((Yw g c i).map (Qb true)).length))),(9,(rd 1 (Jg 1 Qb) (QO g))),(10,(tN ((QO g).length))),(11,(tN i))] (QY [(0,(Obj.rows 1 ((Yw g c i).map (Qb true))))]) 1 _
 have hI1:=hI'
 have hal:=QjH g c i
 refine sr (fO (Zb (tv (tN i) Y) (tv (tN ((QO g).length)) Y)) (nt (sq ?_)))
 refine cd (i<(QO g).length) Y (fun fhc0=> ?_) fun fhc0=> ?_
 ·refine sk ?_
  refine tn (sq (VRun.block (sr (mO (tN i) Y ?_))))
  obtain ⟨x1,hx1⟩:∃x,(QO g)[i]? =some x:=⟨_,List.getElem?_eq_getElem (by omega)⟩
  obtain ⟨y1,hy1,hq1⟩:=Qf9 hx1
  refine fO (OF.indexAddrR (row:=((Jg 1 Qb) false x1)) (i:=i) (tv (rd 1 (Jg 1 Qb) (QO g)) Y) (tv (tN i) Y) Y (Qt _ hx1) Qfg QgB Qi8) (lO (OL.loadR1 (t:=(rd 1 Qb x1)) (tv (T.rp [(rd 1 Qb x1)]) Y) Y QbP) (aO (tN i) Y (aO (rd 1 Qb x1) Y (nt (sr (mO (rd 1 Qb x1) Y (mO (tI c) Y (cO (cS (vc (tv (rd 1 Qb x1) Y) (vc (tv (tI c) Y) vn)) (ZO Y) (J4 (n+2) x1 c (by (rw [hq1];exact Nat.le_trans (Qcd hy1) (by decide)))) Y Y) (nt ?_)))))))))
  refine cd (c∈x1) Y (fun fhc1=> ?_) fun fhc1=> ?_
  ·have q1:inS g c y1:=by rw [inS,← hq1];exact fhc1
   refine VRun.region (mO (T.os 1 0 0 (((Yw g c i).map (Qb true)).length)) Y (mO (tN i) Y (kO (OM.buildSlice (l:= [(tN i)]) (VEvp.cons (tv (tN i) Y) VEvp.nil) Y (by decide) (bc (nofun) bn) (bc ((bc (Y) bn)) bn) (bc (Y) bn) Zr JW (by kernel_rfl) Y (by rw [Zd];decide) Zd (Nat.le_of_ble_eq_true Y)) (cO (B.append (rows:=((Yw g c i).map (Qb true))) (rows2:= [[(tN i)]]) (rows3:=((Yw g c i++ [((i:Nat):Int)]).map (Qb true))) (VDst.own (tv (T.os 1 0 0 (((Yw g c i).map (Qb true)).length)) Y) Y Y) (VSrc.own (tv (T.os 1 1 0 1) Y) Y Y Zr (bc (bc Y bn) bn)) (by decide) Zr Zd (by decide) JW Y (of_decide_eq_true (by kernel_rfl)) (by (simp only [List.length_map,List.length_append,List.length_cons,List.length_nil,List.length_replicate,List.length_set,List.length_drop,List.length_take,YG] at *;omega)) ((List.map_append (f:=Qb true) (l₁:=Yw g c i) (l₂:= [((i:Nat):Int)])).symm)) (aO (T.os 1 2 0 (((Yw g c i++ [((i:Nat):Int)]).map (Qb true)).length)) Y (VRunO.nil (vinB.n (tn (VRun.region (fO (Qy (tv (tN i) Y) (VEv.int .i64 1) (by omega)) (mO (tN (i+1)) Y ?_)))))))))))
   refine VRunO.nil (tn ?_)
   have he2:(Yw g c i++ [((i:Nat):Int)])=Yw g c (i+1):=by rw [Qdu hy1,if_pos q1]
   refine ⟨(i+1:Nat),?_,?_,Wk.mk (fun k=>if k=0 then 2 else k) ?_ ?_ ?_⟩
   ·trivial
   ·omega
   ·exact (b2 (b2 (bc ⟨(congrArg (fun l_=>T.os 1 2 0 (List.map (Qb true) l_).length) he2),rfl⟩ (b2 (b2 (b2 bn))))))
   ·exact (bc ⟨(congrArg (fun l_=>some (Obj.rows 1 (List.map (Qb true) l_))) he2),(lb Y),rfl⟩ bn)
   ·exact nd Y
  have q1:¬inS g c y1:=by rw [inS,← hq1];exact fhc1
  refine sk (vinB.n (tn (VRun.region (fO (Qy (tv (tN i) Y) (VEv.int .i64 1) (by omega)) (mO (tN (i+1)) Y (VRunO.nil (tn ?_)))))))
  have he3:Yw g c i=Yw g c (i+1):=by rw [Qdu hy1,if_neg q1,List.append_nil]
  refine ⟨(i+1:Nat),?_,?_,Wk.mk (fun k=>k) ?_ ?_ ?_⟩
  ·trivial
  ·omega
  ·exact (b2 (b2 (bc ⟨(congrArg (fun l_=>T.os 1 0 0 (List.map (Qb true) l_).length) he3),rfl⟩ (b2 (b2 (b2 bn))))))
  ·exact (bc ⟨(congrArg (fun l_=>some (Obj.rows 1 (List.map (Qb true) l_))) he3),(lb Y),rfl⟩ bn)
  ·exact nd Y
 refine VRun.exit (vthn.e (vthn.e (vinB.e (tn (sr (mO (T.os 1 0 0 (((Yw g c i).map (Qb true)).length)) Y (aO (T.os 1 0 0 (((Yw g c i).map (Qb true)).length)) Y (nt (rt ?_)))))))))
 refine vfin.eq (r':=(T.sl true 1 ((Yw g c i).map (Qb true)))) ?_ (vfin.r (VRes.tmp (t:=(T.os 1 0 0 (((Yw g c i).map (Qb true)).length))) Y VRes.nil) (Give.os Y Y (okInt.cleanMap _)))
 refine congrArg (fun l_=>T.sl true 1 (List.map (Qb true) l_)) ?_
 rw [show i=(Qc g).length from by omega]
noncomputable section
def chk (g:D.Grid) (c:Int):Prop:=(Yw g c (Qc g).length).length=2
instance (g:D.Grid) (c:Int):Decidable (chk g c):=Classical.propDecidable _
end
theorem Qej (n:Nat) (g:D.Grid) (c:Int) (hc:g.Cells.size≤maxLen):Pure (Qs Tryz.prog (n+6)) 183 [(T.agg (Qe false g)),(tI c)] (tB (decide (chk g c))):=by
 refine Pure.intro (rs:= [ResultVar.tmp 4]) Tryz.func183 Y Y Y (E0:= [(0,(T.agg (Qe false g))),(1,(tI c))]) Y ?_
 obtain ⟨hlim,hmx,hmax⟩:=QG
 refine sr (kO (B.box (ts:=(Qe false g)) (tv (T.agg (Qe false g)) Y) nofun Y) (fO (OF.assign (VEv.bool false)) (nt (sr (lO (OL.loadOn (us:=(Qe false g)) (tv (T.op 0 0) Y) Y Q4 QX (lb Y) Y) (mO (tI c) Y (cO (OC.callF (r':=(T.os 1 1 0 (((Yw g c (Qc g).length).map (Qb true)).length))) (objs:= [(Obj.rows 1 ((Yw g c (Qc g).length).map (Qb true)))]) Y (vc (tv (T.agg (Qe false g)) Y) (vc (tv (tI c) Y) vn)) (LendL.cons (lg Qw) (lp Y ln)) (Qb4 (n+0) g c (by assumption)) Y) (lO (B.lenO (m:=(Yw g c (Qc g).length).length) (tv (T.os 1 1 0 (((Yw g c (Qc g).length).map (Qb true)).length)) Y) Zr (List.length_map ..)) (fO (B.eql (c:=(decide ((Yw g c (Qc g).length).length=2))) (tv (tN ((Yw g c (Qc g).length).length)) Y) (VEv.int .i64 2) (Q6 (by omega))) (aO (tB (decide ((Yw g c (Qc g).length).length=2))) Y (nt ?_)))))))))))
 refine rt (vb (b':=(decide ((Yw g c (Qc g).length).length=2))) Y ?_)
 exact Q6 Iff.rfl
theorem QdY (n:Nat) (g:D.Grid) (c:Int) (hc:g.Cells.size≤maxLen):Pure (Qs Tryz.prog (n+6)) 162 [(T.agg (Qe false g)),(tI c)] (tB (decide (chk g c))):=by
 refine Pure.intro (rs:= [ResultVar.tmp 4]) Tryz.func162 Y Y Y (E0:= [(0,(T.agg (Qe false g))),(1,(tI c))]) Y ?_
 obtain ⟨hlim,hmx,hmax⟩:=QG
 refine sr (kO (B.box (ts:=(Qe false g)) (tv (T.agg (Qe false g)) Y) nofun Y) (fO (OF.assign (VEv.bool false)) (nt (sr (lO (OL.loadOn (us:=(Qe false g)) (tv (T.op 0 0) Y) Y Q4 QX (lb Y) Y) (mO (tI c) Y (cO (OC.callF (r':=(T.os 1 1 0 (((Yw g c (Qc g).length).map (Qb true)).length))) (objs:= [(Obj.rows 1 ((Yw g c (Qc g).length).map (Qb true)))]) Y (vc (tv (T.agg (Qe false g)) Y) (vc (tv (tI c) Y) vn)) (LendL.cons (lg Qw) (lp Y ln)) (QfE (n+0) g c (by assumption)) Y) (lO (B.lenO (m:=(Yw g c (Qc g).length).length) (tv (T.os 1 1 0 (((Yw g c (Qc g).length).map (Qb true)).length)) Y) Zr (List.length_map ..)) (fO (B.eql (c:=(decide ((Yw g c (Qc g).length).length=2))) (tv (tN ((Yw g c (Qc g).length).length)) Y) (VEv.int .i64 2) (Q6 (by omega))) (aO (tB (decide ((Yw g c (Qc g).length).length=2))) Y (nt ?_)))))))))))
 refine rt (vb (b':=(decide ((Yw g c (Qc g).length).length=2))) Y ?_)
 exact Q6 Iff.rfl
noncomputable section
def nUn (g:D.Grid) (l:List Int):Nat:=(l.filter fun c=> !decide (chk g c)).length
theorem Qjc (g:D.Grid) (l:List Int):nUn g l≤l.length:=List.length_filter_le _ _
theorem Qc7 {g:D.Grid} {l:List Int} {i:Nat} {x:Int} (h:l[i]? =some x):nUn g (l.take (i+1))=nUn g (l.take i)+(if chk g x then 0 else 1):=by
 unfold nUn
 rw [List.take_add_one,h,List.filter_append,List.length_append]
 by_cases hc:chk g x<;>simp [hc]
def unG (g:D.Grid) (slot:Int):Int:=if 0≤slot then (match (Qc g)[slot.toNat]? with | some s=>((nUn g (Qm g s s.Length.toNat):Nat):Int) | none=> -1) else -1
theorem Qk9 {g:D.Grid} {slot:Int} (h:¬(0≤slot∧slot<(((Qc g).length:Nat):Int))):unG g slot= -1:=by
 unfold unG
 by_cases h1:0≤slot
 ·rw [if_pos h1,List.getElem?_eq_none (by omega)]
 ·rw [if_neg h1]
theorem Qli {g:D.Grid} {slot:Int} {s:D.Slot} (h1:0≤slot) (h:(Qc g)[slot.toNat]? =some s):unG g slot=((nUn g (Qm g s s.Length.toNat):Nat):Int):=by
 unfold unG
 rw [if_pos h1,h]
theorem YD {α:Type} {l:List α} {i:Nat} (h1:i≤l.length) (h2:¬i<l.length):l.take i=l:=List.take_of_length_le (by omega)
theorem Z6 {α:Type} (l:List α) (i:Nat):(l.take i).length≤i:=by rw [List.length_take];omega
end
theorem QcP (n:Nat) (g:D.Grid) (slot:Int) (hc:g.Cells.size≤maxLen):Pure (Qs Tryz.prog (n+7)) 158 [(T.agg (Qe false g)),(tI slot)] (tI (unG g slot)):=by
 refine Pure.intro (rs:= [ResultVar.tmp 4]) Tryz.func158 Y Y Y (E0:= [(0,(T.agg (Qe false g))),(1,(tI slot))]) Y ?_
 obtain ⟨hlim,hmx,hmax⟩:=QG
 have hsl:=Zp g
 refine sr (kO (B.box (ts:=(Qe false g)) (tv (T.agg (Qe false g)) Y) nofun Y) (fO (OF.assign (VEv.int .i64 0)) (nt (sr (lO (OL.loadOn (us:=(Qe false g)) (tv (T.op 0 0) Y) Y Q4 QX (lb Y) Y) (cO (OC.callF (r':=(T.os 4 1 0 (((Qc g).map (Qk true)).length))) (objs:= [(Obj.rows 4 ((Qc g).map (Qk true)))]) Y (vc (tv (T.agg (Qe false g)) Y) vn) (LendL.cons (lg Qw) ln) (ZJ (n+3) g (by assumption)) Y) (aO (T.os 4 1 0 (((Qc g).map (Qk true)).length)) Y (nt (sq (sr (mO (tI slot) Y ?_)))))))))))
 refine mO (T.os 4 1 0 (((Qc g).map (Qk true)).length)) Y (lO (B.lenO (m:=(Qc g).length) (tv (T.os 4 1 0 (((Qc g).map (Qk true)).length)) Y) Yh (List.length_map ..)) (fO (B.sub (n:=((((Qc g).length:Nat):Int) - 1)) (tv (tN ((Qc g).length)) Y) (VEv.int .i64 1) (by (rw [Qx (by omega)];done))) (cO (cS (vc (tv (tI slot) Y) (vc (VEv.int .i64 0) (vc (tv (tI ((((Qc g).length:Nat):Int) - 1)) Y) vn))) (ZO Y) (QT (n+5) slot 0 ((((Qc g).length:Nat):Int) - 1)) Y Y) (fO (Q1 (tv (tB (decide (0≤slot∧slot≤((((Qc g).length:Nat):Int) - 1)))) Y)) (nt ?_)))))
 refine cn (0≤slot∧slot≤((((Qc g).length:Nat):Int) - 1)) Y (fun fhc0=> ?_) fun fhc0=> ?_
 ·refine sr ?_
  refine fO (OF.assign (VEv.int .i64 (-1))) (nt (rt (tr (vi (n':=(-1)) Y ?_))))
  exact (Qk9 (by omega)).symm
 have hs0:0≤slot:=by omega
 refine sk (tn (sq (VRun.draw (B:= [[],[],[],[2,1],[1,2,3],[3,2,1,4,0],[0,4,1,2,3,5]]) (by kernel_rfl) (by kernel_rfl) (lD (OL.loadOn (us:=(Qe false g)) (tv (T.op 0 0) Y) Y Q4 QX (lb Y) Y) Y Y (mD (T.os 4 1 0 (((Qc g).map (Qk true)).length)) Y Y (mD (tI slot) Y Y ?_))))))
 obtain ⟨x1,hx1⟩:∃x,(Qc g)[(Int.toNat slot)]? =some x:=⟨_,List.getElem?_eq_getElem (by omega)⟩
 refine fD (B.indexAddrO (i:=(Int.toNat slot)) (tv (T.os 4 1 0 (((Qc g).map (Qk true)).length)) Y) (tv (tI slot) Y) (by omega) (by (simp only [List.length_map];omega)) Yh Zt Qbt) Y Y (lD (OL.loadPn (us:=(Qk false x1)) (row:=(Qk true x1)) (tv (T.orp 4 1 (Int.toNat slot) 0) Y) Y (Qt _ hx1) Qdw Zt (lb Y) Y (bc Y (bc Y (bc Y (bc Y bn))))) Y Y (VRunD.quiet (bi:= [3,2,1,4,0]) Y VWant.always Y Y Y bn (OC.callF (r':=(T.os 1 2 0 (((if x1∈Qc g then Qm g x1 x1.Length.toNat else []).map (Qb true)).length))) (objs:= [(Obj.rows 1 ((if x1∈Qc g then Qm g x1 x1.Length.toNat else []).map (Qb true)))]) Y (vc (tv (T.agg (Qe false g)) Y) (vc (tv (T.agg (Qk false x1)) Y) vn)) (LendL.cons (lg Qw) (LendL.cons (lg okeSlot) ln)) (Qac (n+2) g x1 (by assumption)) Y) (fD (OF.assign (tv (T.os 1 2 0 (((if x1∈Qc g then Qm g x1 x1.Length.toNat else []).map (Qb true)).length)) Y)) Y Y (VRunD.nil (tn (sr (fO (OF.assign (VEv.int .i64 0)) (nt (sq (sr (fO (OF.assign (VEv.int .i64 0)) ?_)))))))))))
 refine nt (VRun.block ?_)
 refine VRun.loop (A:=Nat×Nat) (fun s_=> [(2,(T.op 0 0)),(4,(tN 0)),(6,(T.os 1 1 0 (((if x1∈Qc g then Qm g x1 x1.Length.toNat else []).map (Qb true)).length))),(7,(tN s_.2)),(8,(tN s_.1))]) (fun s_=>QY [(0,(Obj.cells (Qe false g))),(1,(Obj.rows 1 ((if x1∈Qc g then Qm g x1 x1.Length.toNat else []).map (Qb true))))]) 2 (fun s_=>s_.1≤(if x1∈Qc g then Qm g x1 x1.Length.toNat else []).length∧s_.2=nUn g ((if x1∈Qc g then Qm g x1 x1.Length.toNat else []).take s_.1)) (fun s_=>(if x1∈Qc g then Qm g x1 x1.Length.toNat else []).length - s_.1) ((0,0):Nat×Nat) ?_ (Wk.mk (fun k=>if k=1 then 2 else k) ?_ ?_ ?_) ?_
 ·exact ⟨Nat.zero_le _,rfl⟩
 ·exact (b2 (b2 (b2 (b2 (b2 bn)))))
 ·exact (b3 (b3 bn))
 ·exact nd Y
 rintro ⟨i,m⟩ (hI':i≤(if x1∈Qc g then Qm g x1 x1.Length.toNat else []).length∧m=nUn g ((if x1∈Qc g then Qm g x1 x1.Length.toNat else []).take i))
 show VRun _ _ _ [(2,(T.op 0 0)),(4,(tN 0)),(6,(T.os 1 1 0 (((if x1∈Qc g then Qm g x1 x1.Length.toNat else []).map (Qb true)).length))),(7,(tN m)),(8,(tN i))] (QY [(0,(Obj.cells (Qe false g))),(1,(Obj.rows 1 ((if x1∈Qc g then Qm g x1 x1.Length.toNat else []).map (Qb true))))]) 2 _
 have hI1:=hI'.1
 have hl6:=QhR g x1
 have hn6:=Qjc g ((if x1∈Qc g then Qm g x1 x1.Length.toNat else []).take i)
 have ht6:=Z6 (if x1∈Qc g then Qm g x1 x1.Length.toNat else []) i
 have hI2:=hI'.2
 refine sq (sr (mO (tN i) Y (mO (T.os 1 1 0 (((if x1∈Qc g then Qm g x1 x1.Length.toNat else []).map (Qb true)).length)) Y (lO (B.lenO (m:=(if x1∈Qc g then Qm g x1 x1.Length.toNat else []).length) (tv (T.os 1 1 0 (((if x1∈Qc g then Qm g x1 x1.Length.toNat else []).map (Qb true)).length)) Y) Zr (List.length_map ..)) (fO (Zb (tv (tN i) Y) (tv (tN ((if x1∈Qc g then Qm g x1 x1.Length.toNat else []).length)) Y)) (nt ?_))))))
 refine cd (i<(if x1∈Qc g then Qm g x1 x1.Length.toNat else []).length) Y (fun fhc1=> ?_) fun fhc1=> ?_
 ·refine sk ?_
  refine tn (sq (VRun.block (sq (VRun.draw (B:= [[],[],[],[2,1],[1,2,3],[3,2,1,4,0],[0,4,1,2,3,5]]) (by kernel_rfl) (by kernel_rfl) (lD (OL.loadOn (us:=(Qe false g)) (tv (T.op 0 0) Y) Y Q4 QX (lb Y) Y) Y Y (mD (T.os 1 1 0 (((if x1∈Qc g then Qm g x1 x1.Length.toNat else []).map (Qb true)).length)) Y Y (mD (tN i) Y Y ?_)))))))
  obtain ⟨x2,hx2⟩:∃x,(if x1∈Qc g then Qm g x1 x1.Length.toNat else [])[i]? =some x:=⟨_,List.getElem?_eq_getElem (by omega)⟩
  refine fD (B.indexAddrO (i:=i) (tv (T.os 1 1 0 (((if x1∈Qc g then Qm g x1 x1.Length.toNat else []).map (Qb true)).length)) Y) (tv (tN i) Y) Y (by (simp only [List.length_map];omega)) Zr Zd Yo) Y Y (lD (OL.loadP1 (t:=(tI x2)) (row:=(Qb true x2)) (tv (T.orp 1 1 i 0) Y) Y (Qt _ hx2) Y Y QQ) Y Y (VRunD.quiet (bi:= [3,2,1,4,0]) Y VWant.always Y Y Y bn (cS (vc (tv (T.agg (Qe false g)) Y) (vc (tv (tI x2) Y) vn)) (LendL.cons (lg Qw) (lp Y ln)) (Qej (n+0) g x2 (by assumption)) Y Y) (fD (Q1 (tv (tB (decide (chk g x2))) Y)) Y Y (VRunD.nil (tn ?_)))))
  refine cn (chk g x2) Y (fun fhc2=> ?_) fun fhc2=> ?_
  ·refine VRun.region ?_
   refine mO (tN m) Y (fO (Qy (tv (tN m) Y) (VEv.int .i64 1) (by omega)) (aO (tN (m+1)) Y (VRunO.nil (vinB.n (tn (VRun.region (mO (tN i) Y (fO (Qy (tv (tN i) Y) (VEv.int .i64 1) (by omega)) (aO (tN (i+1)) Y (VRunO.nil (tn ?_)))))))))))
   refine ⟨((i+1,m+(if chk g x2 then 0 else 1)):Nat×Nat),?_,?_,Wk.mk (fun k=>k) ?_ ?_ ?_⟩
   ·exact ⟨by omega,by rw [Qc7 hx2,← hI2]⟩
   ·omega
   ·exact (b2 (b2 (b2 (bc ⟨(congrArg (T.int .i64) (show (((m+1):Nat):Int)=(((m+(if chk g x2 then 0 else 1)):Nat):Int) from (by (rw [if_neg fhc2];done)))),rfl⟩ (b2 bn)))))
   ·exact (b3 (b3 bn))
   ·exact nd Y
  refine sk (vinB.n (tn (VRun.region (mO (tN i) Y (fO (Qy (tv (tN i) Y) (VEv.int .i64 1) (by omega)) (aO (tN (i+1)) Y (VRunO.nil (tn ?_))))))))
  refine ⟨((i+1,m+(if chk g x2 then 0 else 1)):Nat×Nat),?_,?_,Wk.mk (fun k=>k) ?_ ?_ ?_⟩
  ·exact ⟨by omega,by rw [Qc7 hx2,← hI2]⟩
  ·omega
  ·exact (b2 (b2 (b2 (bc ⟨(congrArg (T.int .i64) (show ((m:Nat):Int)=(((m+(if chk g x2 then 0 else 1)):Nat):Int) from (by (rw [if_pos fhc2];omega)))),rfl⟩ (b2 bn)))))
  ·exact (b3 (b3 bn))
  ·exact nd Y
 refine VRun.exit (vthn.e (vthn.e (vinB.e (tn (sr (mO (tN m) Y (aO (tN m) Y (nt (rt (vi (n':=((m:Nat):Int)) Y ?_))))))))))
 rw [Qli hs0 hx1,hI2,YD hI1 fhc1,Qhp hx1]
theorem Qc4 (n:Nat) (g:D.Grid) (slot:Int) (hc:g.Cells.size≤maxLen):Pure (Qs Tryz.prog (n+7)) 138 [(T.agg (Qe false g)),(tI slot)] (tI (unG g slot)):=by
 refine Pure.intro (rs:= [ResultVar.tmp 4]) Tryz.func138 Y Y Y (E0:= [(0,(T.agg (Qe false g))),(1,(tI slot))]) Y ?_
 obtain ⟨hlim,hmx,hmax⟩:=QG
 have hsl:=Zp g
 have hll:=Qa7 g
 refine sr (kO (B.box (ts:=(Qe false g)) (tv (T.agg (Qe false g)) Y) nofun Y) (fO (OF.assign (VEv.int .i64 0)) (nt (sr (lO (OL.loadOn (us:=(Qe false g)) (tv (T.op 0 0) Y) Y Q4 QX (lb Y) Y) (cO (OC.callF (r':=(T.os 1 1 0 (((QO g).map ((Jg 1 Qb) true)).length))) (objs:= [(Obj.rows 1 ((QO g).map ((Jg 1 Qb) true)))]) Y (vc (tv (T.agg (Qe false g)) Y) vn) (LendL.cons (lg Qw) ln) (JG (n+2) g (by assumption)) Y) (aO (T.os 1 1 0 (((QO g).map ((Jg 1 Qb) true)).length)) Y (nt (sq (sr (mO (tI slot) Y ?_)))))))))))
 refine mO (T.os 1 1 0 (((QO g).map ((Jg 1 Qb) true)).length)) Y (lO (B.lenO (m:=(QO g).length) (tv (T.os 1 1 0 (((QO g).map ((Jg 1 Qb) true)).length)) Y) Qfg (List.length_map ..)) (cO (cS (vc (tv (tI slot) Y) (vc (tv (tN ((QO g).length)) Y) vn)) (ZO Y) (Jw (n+5) slot (((QO g).length:Nat):Int)) Y Y) (fO (Q1 (tv (tB (decide (0≤slot∧slot<(((QO g).length:Nat):Int)))) Y)) (nt ?_))))
 refine cn (0≤slot∧slot<(((QO g).length:Nat):Int)) Y (fun fhc0=> ?_) fun fhc0=> ?_
 ·refine sr ?_
  refine fO (OF.assign (VEv.int .i64 (-1))) (nt (rt (tr (vi (n':=(-1)) Y ?_))))
  exact (Qk9 (by omega)).symm
 refine sk (tn (sr (fO (OF.assign (VEv.int .i64 0)) (nt (sq (VRun.wk (Wk.freeze (sz:=1) (k:=1) (rows':=((QO g).map ((Jg 1 Qb) false))) [5,10,12] (bc Y (bc Y (bc Y bn))) Y Y ((Qlk okInt).fzMap _ _)) ?_))))))
 have hs0:0≤slot:=by omega
 refine sr (mO (rd 1 (Jg 1 Qb) (QO g)) Y (mO (tI slot) Y ?_))
 obtain ⟨x1,hx1⟩:∃x,(QO g)[(Int.toNat slot)]? =some x:=⟨_,List.getElem?_eq_getElem (by omega)⟩
 obtain ⟨y1,hy1,hq1⟩:=Qf9 hx1
 refine fO (OF.indexAddrR (row:=((Jg 1 Qb) false x1)) (i:=(Int.toNat slot)) (tv (rd 1 (Jg 1 Qb) (QO g)) Y) (tv (tI slot) Y) (by omega) (Qt _ hx1) Qfg QgB Qi8) (lO (OL.loadR1 (t:=(rd 1 Qb x1)) (tv (T.rp [(rd 1 Qb x1)]) Y) Y QbP) (lO (B.lenR (m:=x1.length) (tv (rd 1 Qb x1) Y) Zr (List.length_map ..)) (fO (OF.move (VEv.int .i64 0)) (nt (VRun.block ?_)))))
 refine VRun.loop (A:=Nat×Nat) (fun s_=> [(2,(T.op 0 0)),(4,(tN 0)),(6,(tN s_.2)),(19,(rd 1 Qb x1)),(20,(tN x1.length)),(21,(tN s_.1))]) (fun s_=>QY [(0,(Obj.cells (Qe false g)))]) 1 (fun s_=>s_.1≤x1.length∧s_.2=nUn g (x1.take s_.1)) (fun s_=>x1.length - s_.1) ((0,0):Nat×Nat) ?_ (Wk.mk (fun k=>k) ?_ ?_ ?_) ?_
 ·exact ⟨Nat.zero_le _,rfl⟩
 ·exact (b2 (b2 (b2 (b2 (b2 (b2 bn))))))
 ·exact (b3 bn)
 ·exact nd Y
 rintro ⟨i,m⟩ (hI':i≤x1.length∧m=nUn g (x1.take i))
 show VRun _ _ _ [(2,(T.op 0 0)),(4,(tN 0)),(6,(tN m)),(19,(rd 1 Qb x1)),(20,(tN x1.length)),(21,(tN i))] (QY [(0,(Obj.cells (Qe false g)))]) 1 _
 have hI1:=hI'.1
 have hl6:=Qcd hy1
 rw [← hq1] at hl6
 have hn6:=Qjc g (x1.take i)
 have ht6:=Z6 x1 i
 have hI2:=hI'.2
 refine sr (fO (Zb (tv (tN i) Y) (tv (tN x1.length) Y)) (nt (sq ?_)))
 refine cd (i<x1.length) Y (fun fhc1=> ?_) fun fhc1=> ?_
 ·refine sk ?_
  refine tn (sq (VRun.block (sr ?_)))
  obtain ⟨x2,hx2⟩:∃x,x1[i]? =some x:=⟨_,List.getElem?_eq_getElem (by omega)⟩
  skip
  refine fO (OF.indexAddrR (row:=(Qb false x2)) (i:=i) (tv (rd 1 Qb x1) Y) (tv (tN i) Y) Y (Qt _ hx2) Zr Zd Yo) (lO (OL.loadR1 (t:=(tI x2)) (tv (T.rp [(tI x2)]) Y) Y QQ) (aO (tI x2) Y (nt (sr (lO (OL.loadOn (us:=(Qe false g)) (tv (T.op 0 0) Y) Y Q4 QX (lb Y) Y) (mO (tI x2) Y (cO (cS (vc (tv (T.agg (Qe false g)) Y) (vc (tv (tI x2) Y) vn)) (LendL.cons (lg Qw) (lp Y ln)) (QdY (n+0) g x2 (by assumption)) Y Y) (fO (Q1 (tv (tB (decide (chk g x2))) Y)) (nt ?_)))))))))
  refine cn (chk g x2) Y (fun fhc2=> ?_) fun fhc2=> ?_
  ·refine VRun.region ?_
   refine mO (tN m) Y (fO (Qy (tv (tN m) Y) (VEv.int .i64 1) (by omega)) (aO (tN (m+1)) Y (VRunO.nil (vinB.n (tn (VRun.region (fO (Qy (tv (tN i) Y) (VEv.int .i64 1) (by omega)) (mO (tN (i+1)) Y (VRunO.nil (tn ?_))))))))))
   refine ⟨((i+1,m+(if chk g x2 then 0 else 1)):Nat×Nat),?_,?_,Wk.mk (fun k=>k) ?_ ?_ ?_⟩
   ·exact ⟨by omega,by rw [Qc7 hx2,← hI2]⟩
   ·omega
   ·exact (b2 (b2 (bc ⟨(congrArg (T.int .i64) (show (((m+1):Nat):Int)=(((m+(if chk g x2 then 0 else 1)):Nat):Int) from (by (rw [if_neg fhc2];done)))),rfl⟩ (b2 (b2 (b2 bn))))))
   ·exact (b3 bn)
   ·exact nd Y
  refine sk (vinB.n (tn (VRun.region (fO (Qy (tv (tN i) Y) (VEv.int .i64 1) (by omega)) (mO (tN (i+1)) Y (VRunO.nil (tn ?_)))))))
  refine ⟨((i+1,m+(if chk g x2 then 0 else 1)):Nat×Nat),?_,?_,Wk.mk (fun k=>k) ?_ ?_ ?_⟩
  ·exact ⟨by omega,by rw [Qc7 hx2,← hI2]⟩
  ·omega
  ·exact (b2 (b2 (bc ⟨(congrArg (T.int .i64) (show ((m:Nat):Int)=(((m+(if chk g x2 then 0 else 1)):Nat):Int) from (by (rw [if_pos fhc2];omega)))),rfl⟩ (b2 (b2 (b2 bn))))))
  ·exact (b3 bn)
  ·exact nd Y
 refine VRun.exit (vthn.e (vthn.e (vinB.e (tn (sr (mO (tN m) Y (aO (tN m) Y (nt (rt (vi (n':=((m:Nat):Int)) Y ?_))))))))))
 rw [Qli hs0 hy1,hI2,YD hI1 fhc1,hq1]
noncomputable section
def QeL (g:D.Grid) (i:Nat) (s:D.Slot):Prop:=s.Length<2*unG g ((i:Nat):Int)
def Qkj (g:D.Grid) (c:Int):Prop:=∃s∈Qc g,inS g c s
def Qa6 (g:D.Grid) (c:Nat):Prop:=QA g.Cells c=46∧¬Qkj g ((c:Nat):Int)
def QbD (g:D.Grid):Prop:=(∃i s,(Qc g)[i]? =some s∧QeL g i s)∨∃c,c<g.Cells.size∧gridOk g∧Qa6 g c
instance (g:D.Grid):Decidable (QbD g):=Classical.propDecidable _
theorem Qj9 (g:D.Grid) (c:Int):∀(l:List D.Slot) (n:Nat),(atL g c l n).length=0↔¬∃s∈l,inS g c s
 | [],n=>by simp [atL]
 | x::r,n=>by
  have:=Qj9 g c r (n+1)
  rw [atL,List.length_append]
  by_cases h:inS g c x
  ·rw [if_pos h];simp [h]
  ·rw [if_neg h,List.length_nil,Nat.zero_add,this];simp [h]
theorem atG_none {g:D.Grid} {c:Int}:(Yw g c (Qc g).length).length=0↔¬Qkj g c:=by
 unfold Yw
 rw [List.take_length]
 exact Qj9 g c _ _
theorem QlE (g:D.Grid) (i:Int): -1≤unG g i∧unG g i≤6:=by
 unfold unG
 split
 ·split
  ·rename_i s hs
   have h1:=Qjc g (Qm g s s.Length.toNat)
   have h2:=Qcd hs
   omega
  ·omega
 ·omega
def NoBad (g:D.Grid) (i:Nat):Prop:=i≤(Qc g).length∧∀j s,j<i→(Qc g)[j]? =some s→¬QeL g j s
theorem NoBad.start (g:D.Grid):NoBad g 0:=⟨Nat.zero_le _,fun j s hj=>by omega⟩
theorem NoBad.next {g:D.Grid} {i:Nat} {s:D.Slot} (h:NoBad g i) (hx:(Qc g)[i]? =some s) (hn:¬QeL g i s):NoBad g (i+1):=by
 have:=(List.getElem?_eq_some_iff.1 hx).1
 refine ⟨by omega,fun j y hj hy=> ?_⟩
 rcases Nat.lt_or_ge j i with h1 | h1
 ·exact h.2 j y h1 hy
 ·obtain rfl:j=i:=by omega
  rw [hx] at hy
  exact Option.some.inj hy▸hn
theorem Qmc {g:D.Grid} {i:Nat} (h:NoBad g i) (hi:¬i<(Qc g).length) (h2:∀c,c<g.Cells.size→¬(gridOk g∧Qa6 g c)):¬QbD g:=by
 rintro (⟨j,s,h3,h4⟩ | ⟨c,h3,h4⟩)
 ·have:=(List.getElem?_eq_some_iff.1 h3).1
  exact h.2 j s (by omega) h3 h4
 ·exact h2 c h3 h4
def mapOf (m:List (Int×Int)) (p:Int→Prop):Prop:=∀c,(p c→QbJ m c=1)∧(¬p c→QbJ m c=0)
def Qgr (g:D.Grid) (i:Nat) (c:Int):Prop:=∃x∈(QO g).take i,c∈x
theorem QkN (g:D.Grid) (c:Int):¬Qgr g 0 c:=by rintro ⟨x,hx,_⟩;simp at hx
theorem QkB {g:D.Grid} {i:Nat} {x:List Int} (h:(QO g)[i]? =some x) (c:Int):Qgr g (i+1) c↔Qgr g i c∨c∈x:=by
 unfold Qgr
 rw [List.take_add_one,h]
 constructor
 ·rintro ⟨y,hy,hc⟩
  rcases List.mem_append.1 hy with hy | hy
  ·exact .inl ⟨y,hy,hc⟩
  ·obtain rfl:=List.mem_singleton.1 hy
   exact .inr hc
 ·rintro (⟨y,hy,hc⟩ | hc)
  ·exact ⟨y,List.mem_append_left _ hy,hc⟩
  ·exact ⟨x,List.mem_append_right _ (by simp),hc⟩
theorem QdB {g:D.Grid} {i:Nat} (h:¬i<(QO g).length) (c:Int):Qgr g i c↔Qkj g c:=by
 unfold Qgr Qkj
 rw [List.take_of_length_le (by omega)]
 unfold QO inS
 constructor
 ·rintro ⟨x,hx,hc⟩
  obtain ⟨s,hs,rfl⟩:=List.mem_map.1 hx
  exact ⟨s,hs,hc⟩
 ·rintro ⟨s,hs,hc⟩
  exact ⟨_,List.mem_map.2 ⟨s,hs,rfl⟩,hc⟩
theorem mapOf.congr {m:List (Int×Int)} {p q:Int→Prop} (h:mapOf m p) (e:∀c,p c↔q c):mapOf m q:=fun c=>by rw [← e c];exact h c
theorem mapOf.put {m:List (Int×Int)} {p:Int→Prop} {n:Int} (h:mapOf m p):mapOf (Qcs m n 1) (fun c=>p c∨c=n):=fun c=>by
 rw [QiT]
 by_cases e:c=n
 ·rw [if_pos e];exact ⟨fun _=>rfl,fun h2=>absurd (.inr e) h2⟩
 ·rw [if_neg e]
  exact ⟨fun h2=>(h c).1 (h2.resolve_right e),fun h2=>(h c).2 fun h3=>h2 (.inl h3)⟩
theorem Qgx {l:List Int} {i:Nat} {x:Int} (h:l[i]? =some x) (c:Int):c∈l.take (i+1)↔c∈l.take i∨c=x:=by
 rw [List.take_add_one,h]
 simp
def Qb3 (f:ByteArray) (c:Nat):Prop:=¬(97≤QA f c∧QA f c≤122)
def Qhg (g:D.Grid) (f:ByteArray):Prop:=∃c,c<g.Cells.size∧Qa6 g c∧Qb3 f c
instance (g:D.Grid) (f:ByteArray):Decidable (Qhg g f):=Classical.propDecidable _
end
theorem QeY (n:Nat) (g:D.Grid) (hc:g.Cells.size≤maxLen):Pure (Qs Tryz.prog (n+8)) 135 [(T.agg (Qe false g))] (tB (decide (QbD g))):=by
 refine Pure.intro (rs:= [ResultVar.tmp 2]) Tryz.func135 Y Y Y (E0:= [(0,(T.agg (Qe false g)))]) Y ?_
 obtain ⟨hlim,hmx,hmax⟩:=QG
 have hsl:=Zp g
 refine sr (kO (B.box (ts:=(Qe false g)) (tv (T.agg (Qe false g)) Y) nofun Y) (fO (OF.assign (VEv.bool false)) (nt (sr (lO (OL.loadOn (us:=(Qe false g)) (tv (T.op 0 0) Y) Y Q4 QX (lb Y) Y) (cO (OC.callF (r':=(T.os 4 1 0 (((Qc g).map (Qk true)).length))) (objs:= [(Obj.rows 4 ((Qc g).map (Qk true)))]) Y (vc (tv (T.agg (Qe false g)) Y) vn) (LendL.cons (lg Qw) ln) (ZJ (n+4) g (by assumption)) Y) (aO (T.os 4 1 0 (((Qc g).map (Qk true)).length)) Y (nt (sq (sr (fO (OF.assign (VEv.int .i64 0)) ?_)))))))))))
 refine nt (VRun.block ?_)
 refine VRun.loop (A:=Nat) (fun s_=> [(1,(T.op 0 0)),(3,(T.os 4 1 0 (((Qc g).map (Qk true)).length))),(4,(tN s_))]) (fun s_=>QY [(0,(Obj.cells (Qe false g))),(1,(Obj.rows 4 ((Qc g).map (Qk true))))]) 2 (fun s_=>NoBad g s_) (fun s_=>(Qc g).length - s_) (0:Nat) ?_ (Wk.mk (fun k=>k) ?_ ?_ ?_) ?_
 ·exact NoBad.start _
 ·exact (b2 (b2 (b2 bn)))
 ·exact (b3 (b3 bn))
 ·exact nd Y
 rintro i (hI':NoBad g i)
 show VRun _ _ _ [(1,(T.op 0 0)),(3,(T.os 4 1 0 (((Qc g).map (Qk true)).length))),(4,(tN i))] (QY [(0,(Obj.cells (Qe false g))),(1,(Obj.rows 4 ((Qc g).map (Qk true))))]) 2 _
 have hI1:=hI'.1
 have hNB:=hI'
 have hub:=QlE g ((i:Nat):Int)
 refine sq (sr (mO (tN i) Y (mO (T.os 4 1 0 (((Qc g).map (Qk true)).length)) Y (lO (B.lenO (m:=(Qc g).length) (tv (T.os 4 1 0 (((Qc g).map (Qk true)).length)) Y) Yh (List.length_map ..)) (fO (Zb (tv (tN i) Y) (tv (tN ((Qc g).length)) Y)) (nt ?_))))))
 refine cd (i<(Qc g).length) Y (fun fhc0=> ?_) fun fhc0=> ?_
 ·refine sk ?_
  refine tn (sq (VRun.block (sq (VRun.draw (B:= [[],[],[1,0],[0,1,2],[],[],[5,4],[4,5,6],[6,5,4,7],[7,4,5,6,8,2,1,0,3]]) (by kernel_rfl) (by kernel_rfl) (lD (OL.loadOn (us:=(Qe false g)) (tv (T.op 0 0) Y) Y Q4 QX (lb Y) Y) Y Y (mD (tN i) Y Y (VRunD.quiet (bi:= [1,0]) Y VWant.always Y Y Y bn (cS (vc (tv (T.agg (Qe false g)) Y) (vc (tv (tN i) Y) vn)) (LendL.cons (lg Qw) (lp Y ln)) (QcP (n+0) g ((i:Nat):Int) (by assumption)) Y Y) (fD (B.mul (n:=(2*unG g ((i:Nat):Int))) (VEv.int .i64 2) (tv (tI (unG g ((i:Nat):Int))) Y) (by (rw [Qx (by omega)];done))) Y Y (mD (T.os 4 1 0 (((Qc g).map (Qk true)).length)) Y Y (mD (tN i) Y Y ?_))))))))))
  obtain ⟨x1,hx1⟩:∃x,(Qc g)[i]? =some x:=⟨_,List.getElem?_eq_getElem (by omega)⟩
  refine fD (B.indexAddrO (i:=i) (tv (T.os 4 1 0 (((Qc g).map (Qk true)).length)) Y) (tv (tN i) Y) Y (by (simp only [List.length_map];omega)) Yh Zt Qbt) Y Y (fD (OF.fieldAddrP (tv (T.orp 4 1 i 0) Y) Qbc) Y Y (lD (OL.loadP1 (t:=(tI x1.Length)) (row:=(Qk true x1)) (tv (T.orp 4 1 i 3) Y) Y (Qt _ hx1) Y Y QQ) Y Y (fD (xgt (tv (tI (2*unG g ((i:Nat):Int))) Y) (tv (tI x1.Length) Y)) Y Y (VRunD.nil (tn ?_)))))
  refine cd (x1.Length<(2*unG g ((i:Nat):Int))) Y (fun fhc1=> ?_) fun fhc1=> ?_
  ·have q1:QeL g i x1:=by unfold QeL;omega
   refine sr (fO (OF.assign (VEv.bool true)) (nt (rt (vinB.r (tr (tr (vinB.r (tr (vb (b':=true) Y ?_)))))))))
   symm;rw [decide_eq_true_eq];exact .inl ⟨i,x1,hx1,q1⟩
  have q1:¬QeL g i x1:=by unfold QeL;omega
  refine sk (vinB.n (tn (VRun.region (mO (tN i) Y (fO (Qy (tv (tN i) Y) (VEv.int .i64 1) (by omega)) (aO (tN (i+1)) Y (VRunO.nil (tn ?_))))))))
  refine ⟨(i+1:Nat),?_,?_,Wk.mk (fun k=>k) ?_ ?_ ?_⟩
  ·exact hI'.next hx1 q1
  ·omega
  ·exact (b2 (b2 (b2 bn)))
  ·exact (b3 (b3 bn))
  ·exact nd Y
 refine VRun.exit (vthn.e (vthn.e (vinB.e (tn (sq (sr (fO (OF.assign (VEv.int .i64 0)) (nt (VRun.block ?_)))))))))
 refine VRun.loop (A:=Nat) (fun s_=> [(1,(T.op 0 0)),(5,(tN s_))]) (fun s_=>QY [(0,(Obj.cells (Qe false g)))]) 1 (fun s_=>s_≤g.Cells.size∧∀c,c<s_→¬(gridOk g∧Qa6 g c)) (fun s_=>g.Cells.size - s_) (0:Nat) ?_ (Wk.mk (fun k=>k) ?_ ?_ ?_) ?_
 ·exact ⟨Nat.zero_le _,fun c hc=>by omega⟩
 ·exact (b2 (b2 bn))
 ·exact (b3 bn)
 ·exact nd Y
 rintro k (hI':k≤g.Cells.size∧∀c,c<k→¬(gridOk g∧Qa6 g c))
 show VRun _ _ _ [(1,(T.op 0 0)),(5,(tN k))] (QY [(0,(Obj.cells (Qe false g)))]) 1 _
 have hJ1:=hI'.1
 refine sq (sr (mO (tN k) Y (lf (tS g.Cells) Y QN Y Y Yp (lO (B.lenS (tv (tS g.Cells) Y) U9) (fO (Zb (tv (tN k) Y) (tv (tN g.Cells.size) Y)) (nt ?_))))))
 refine cd (k<g.Cells.size) Y (fun fhc2=> ?_) fun fhc2=> ?_
 ·refine sk ?_
  refine tn (sq (VRun.block (sr (lO (OL.loadOn (us:=(Qe false g)) (tv (T.op 0 0) Y) Y Q4 QX (lb Y) Y) (mO (tN k) Y (cO (cS (vc (tv (T.agg (Qe false g)) Y) (vc (tv (tN k) Y) vn)) (LendL.cons (lg Qw) (lp Y ln)) (Qfm (n+4) g ((k:Nat):Int) (by assumption)) Y Y) (mO (tB (decide (gridOk g∧(0≤((k:Nat):Int)∧((k:Nat):Int)≤((g.Cells.size:Nat):Int) - 1)∧QA g.Cells (Int.toNat ((k:Nat):Int))=46))) Y ?_)))))))
  refine gw (gridOk g∧(0≤((k:Nat):Int)∧((k:Nat):Int)≤((g.Cells.size:Nat):Int) - 1)∧QA g.Cells (Int.toNat ((k:Nat):Int))=46) (fun fhg34_1=> ?_) fun fhg34_1=> ?_
  ·refine gL (dy fhg34_1) Y Y (OL.loadOn (us:=(Qe false g)) (tv (T.op 0 0) Y) Y Q4 QX (lb Y) Y) ?_
   refine gF (dy fhg34_1) Y Y (OF.move (tv (tN k) Y)) (VRunO.chain (VWant.on Y Y (dy fhg34_1)) (OC.callF (r':=(T.os 1 1 0 (((Yw g ((k:Nat):Int) (Qc g).length).map (Qb true)).length))) (objs:= [(Obj.rows 1 ((Yw g ((k:Nat):Int) (Qc g).length).map (Qb true)))]) Y (vc (tv (T.agg (Qe false g)) Y) (vc (tv (tN k) Y) vn)) (LendL.cons (lg Qw) (lp Y ln)) (Qb4 (n+2) g ((k:Nat):Int) (by assumption)) Y) (gL (dy fhg34_1) Y Y (B.lenO (m:=(Yw g ((k:Nat):Int) (Qc g).length).length) (tv (T.os 1 1 0 (((Yw g ((k:Nat):Int) (Qc g).length).map (Qb true)).length)) Y) Zr (List.length_map ..)) (gF (dy fhg34_1) Y Y (B.eql (c:=(decide ((Yw g ((k:Nat):Int) (Qc g).length).length=0))) (tv (tN ((Yw g ((k:Nat):Int) (Qc g).length).length)) Y) (VEv.int .i64 0) (Q6 (by omega))) (fO (OF.pickT (VEv.tmpB Y (dy fhg34_1)) (tv (tB (decide ((Yw g ((k:Nat):Int) (Qc g).length).length=0))) Y)) (nt ?_)))))
   refine cd ((Yw g ((k:Nat):Int) (Qc g).length).length=0) Y (fun fhc3=> ?_) fun fhc3=> ?_
   ·refine sr ?_
    refine fO (OF.assign (VEv.bool true)) (nt (rt (vinB.r (tr (tr (vinB.r (tr (vb (b':=true) Y ?_))))))))
    symm;rw [decide_eq_true_eq];exact .inr ⟨k,fhc2,fhg34_1.1,fhg34_1.2.2,atG_none.1 fhc3⟩
   refine sk (vinB.n (tn (VRun.region (mO (tN k) Y (fO (Qy (tv (tN k) Y) (VEv.int .i64 1) (by omega)) (aO (tN (k+1)) Y (VRunO.nil (tn ?_))))))))
   refine ⟨(k+1:Nat),?_,?_,Wk.mk (fun k=>k) ?_ ?_ ?_⟩
   ·exact QZ (ok:=fun c=>¬(gridOk g∧Qa6 g c)) hI' fhc2 (fun h=>fhc3 (atG_none.2 h.2.2))
   ·omega
   ·exact (b2 (b2 bn))
   ·exact (b3 bn)
   ·exact nd Y
  refine QE 5 3 true 34 (dz fhg34_1) Y Y Y (fO (OF.pickF (VEv.tmpB Y (dz fhg34_1)) (VEv.bool false)) (nt (cf Y (sk (vinB.n (tn (VRun.region (mO (tN k) Y (fO (Qy (tv (tN k) Y) (VEv.int .i64 1) (by omega)) (aO (tN (k+1)) Y (VRunO.nil ?_)))))))))))
  refine tn ?_
  refine ⟨(k+1:Nat),?_,?_,Wk.mk (fun k=>k) ?_ ?_ ?_⟩
  ·exact QZ (ok:=fun c=>¬(gridOk g∧Qa6 g c)) hI' fhc2 (fun h=>fhg34_1 ⟨h.1,⟨by omega,by omega⟩,h.2.1⟩)
  ·omega
  ·exact (b2 (b2 bn))
  ·exact (b3 bn)
  ·exact nd Y
 refine VRun.exit (vthn.e (vthn.e (vinB.e (tn (sr (fO (OF.assign (VEv.bool false)) (nt (rt (vb (b':=false) Y ?_)))))))))
 symm;rw [decide_eq_false_iff_not];exact Qmc hNB fhc0 (ZY (ok:=fun c=>¬(gridOk g∧Qa6 g c)) hI' fhc2)
theorem QhB (n:Nat) (g:D.Grid) (f:ByteArray) (hc:g.Cells.size≤maxLen) (hf:g.Cells.size≤f.size):Pure (Qs Tryz.prog (n+5)) 139 [(T.agg (Qe false g)),(tS f)] (tB (decide (Qhg g f))):=by
 refine Pure.intro (rs:= [ResultVar.tmp 4]) Tryz.func139 Y Y Y (E0:= [(0,(T.agg (Qe false g))),(1,(tS f))]) Y ?_
 obtain ⟨hlim,hmx,hmax⟩:=QG
 have hsl:=Zp g
 have hll:=Qa7 g
 refine sr (kO (B.box (ts:=(Qe false g)) (tv (T.agg (Qe false g)) Y) nofun Y) (fO (OF.assign (VEv.bool false)) (nt (sr (kO B.makeMap (aO (T.om 1) Y (nt (sq (sr (lO (OL.loadOn (us:=(Qe false g)) (tv (T.op 0 0) Y) Y Q4 QX (lb Y) Y) (cO (OC.callF (r':=(T.os 1 2 0 (((QO g).map ((Jg 1 Qb) true)).length))) (objs:= [(Obj.rows 1 ((QO g).map ((Jg 1 Qb) true)))]) Y (vc (tv (T.agg (Qe false g)) Y) vn) (LendL.cons (lg Qw) ln) (JG (n+0) g (by assumption)) Y) ?_)))))))))))
 refine lO (B.lenO (m:=(QO g).length) (tv (T.os 1 2 0 (((QO g).map ((Jg 1 Qb) true)).length)) Y) Qfg (List.length_map ..)) (fO (OF.move (VEv.int .i64 0)) (nt (VRun.block (VRun.wk (Wk.freeze (sz:=1) (k:=2) (rows':=((QO g).map ((Jg 1 Qb) false))) [13] (bc Y bn) Y Y ((Qlk okInt).fzMap _ _)) ?_))))
 have he1:([]:List (Int×Int))= []:=by rfl
 refine VRun.loop (A:=Nat×(List (Int×Int))) (fun s_=> [(1,(tS f)),(2,(T.op 0 0)),(4,(tB false)),(5,(T.om 1)),(13,(rd 1 (Jg 1 Qb) (QO g))),(14,(tN ((QO g).length))),(15,(tN s_.1))]) (fun s_=>QY [(0,(Obj.cells (Qe false g))),(1,(Obj.map (eM s_.2)))]) 2 (fun s_=>s_.1≤(QO g).length∧mapOf s_.2 (Qgr g s_.1)) (fun s_=>(QO g).length - s_.1) ((0,[]):Nat×(List (Int×Int))) ?_ (Wk.mk (fun k=>k) ?_ ?_ ?_) ?_
 ·exact ⟨Nat.zero_le _,fun c=>⟨fun h=>absurd h (QkN g c),fun _=>rfl⟩⟩
 ·exact (b2 (b2 (b2 (b2 (b2 (b2 (b2 bn)))))))
 ·exact (b3 (bc ⟨(congrArg (fun l_=>some (Obj.map (eM l_))) he1),(lb Y),rfl⟩ bn))
 ·exact nd Y
 rintro ⟨i,m⟩ (hI':i≤(QO g).length∧mapOf m (Qgr g i))
 show VRun _ _ _ [(1,(tS f)),(2,(T.op 0 0)),(4,(tB false)),(5,(T.om 1)),(13,(rd 1 (Jg 1 Qb) (QO g))),(14,(tN ((QO g).length))),(15,(tN i))] (QY [(0,(Obj.cells (Qe false g))),(1,(Obj.map (eM m)))]) 2 _
 have hI1:=hI'.1
 have hM:=hI'.2
 refine sr (fO (Zb (tv (tN i) Y) (tv (tN ((QO g).length)) Y)) (nt (sq ?_)))
 refine cd (i<(QO g).length) Y (fun fhc0=> ?_) fun fhc0=> ?_
 ·refine sk ?_
  refine tn (sq (VRun.block (sr ?_)))
  obtain ⟨x1,hx1⟩:∃x,(QO g)[i]? =some x:=⟨_,List.getElem?_eq_getElem (by omega)⟩
  obtain ⟨y1,hy1,hq1⟩:=Qf9 hx1
  refine fO (OF.indexAddrR (row:=((Jg 1 Qb) false x1)) (i:=i) (tv (rd 1 (Jg 1 Qb) (QO g)) Y) (tv (tN i) Y) Y (Qt _ hx1) Qfg QgB Qi8) (lO (OL.loadR1 (t:=(rd 1 Qb x1)) (tv (T.rp [(rd 1 Qb x1)]) Y) Y QbP) (aO (rd 1 Qb x1) Y (nt (sr (mO (rd 1 Qb x1) Y (lO (B.lenR (m:=x1.length) (tv (rd 1 Qb x1) Y) Zr (List.length_map ..)) (fO (OF.move (VEv.int .i64 0)) (nt (VRun.block ?_)))))))))
  refine VRun.loop (A:=Nat×(List (Int×Int))) (fun s_=> [(1,(tS f)),(2,(T.op 0 0)),(4,(tB false)),(5,(T.om 1)),(13,(rd 1 (Jg 1 Qb) (QO g))),(14,(tN ((QO g).length))),(15,(tN i)),(19,(rd 1 Qb x1)),(20,(tN x1.length)),(21,(tN s_.1))]) (fun s_=>QY [(0,(Obj.cells (Qe false g))),(1,(Obj.map (eM s_.2)))]) 2 (fun s_=>s_.1≤x1.length∧mapOf s_.2 (fun c=>Qgr g i c∨c∈x1.take s_.1)) (fun s_=>x1.length - s_.1) ((0,m):Nat×(List (Int×Int))) ?_ (Wk.mk (fun k=>k) ?_ ?_ ?_) ?_
  ·exact ⟨Nat.zero_le _,hM.congr fun c=>by simp⟩
  ·exact (b2 (b2 (b2 (b2 (b2 (b2 (b2 (b2 (b2 (b2 bn))))))))))
  ·exact (b3 (b3 bn))
  ·exact nd Y
  rintro ⟨k,w⟩ (hI':k≤x1.length∧mapOf w (fun c=>Qgr g i c∨c∈x1.take k))
  show VRun _ _ _ [(1,(tS f)),(2,(T.op 0 0)),(4,(tB false)),(5,(T.om 1)),(13,(rd 1 (Jg 1 Qb) (QO g))),(14,(tN ((QO g).length))),(15,(tN i)),(19,(rd 1 Qb x1)),(20,(tN x1.length)),(21,(tN k))] (QY [(0,(Obj.cells (Qe false g))),(1,(Obj.map (eM w)))]) 2 _
  have hJ1:=hI'.1
  have hl6:=Qcd hy1
  rw [← hq1] at hl6
  refine sr (fO (Zb (tv (tN k) Y) (tv (tN x1.length) Y)) (nt (sq ?_)))
  refine cd (k<x1.length) Y (fun fhc1=> ?_) fun fhc1=> ?_
  ·refine sk ?_
   refine tn (sq (VRun.block (sr ?_)))
   obtain ⟨x2,hx2⟩:∃x,x1[k]? =some x:=⟨_,List.getElem?_eq_getElem (by omega)⟩
   skip
   refine fO (OF.indexAddrR (row:=(Qb false x2)) (i:=k) (tv (rd 1 Qb x1) Y) (tv (tN k) Y) Y (Qt _ hx2) Zr Zd Yo) (lO (OL.loadR1 (t:=(tI x2)) (tv (T.rp [(tI x2)]) Y) Y QQ) (aO (tI x2) Y (nt (VRun.region (mO (T.om 1) Y (mO (tI x2) Y (cO (B.mapSet (l:=w) (l':=(Qcs w x2 1)) (tv (T.om 1) Y) (tv (tI x2) Y) (VEv.int .i64 1) Y Qou U3 Y) (VRunO.nil (vinB.n (tn (VRun.region ?_)))))))))))
   refine fO (Qy (tv (tN k) Y) (VEv.int .i64 1) (by omega)) (mO (tN (k+1)) Y (VRunO.nil (tn ?_)))
   refine ⟨((k+1,Qcs w x2 1):Nat×(List (Int×Int))),?_,?_,Wk.mk (fun k=>k) ?_ ?_ ?_⟩
   ·exact ⟨by omega,hI'.2.put.congr fun c=>by rw [Qgx hx2,or_assoc]⟩
   ·omega
   ·exact (b2 (b2 (b2 (b2 (b2 (b2 (b2 (b2 (b2 (b2 bn))))))))))
   ·exact (b3 (b3 bn))
   ·exact nd Y
  refine VRun.exit (vthn.e (vthn.e (vinB.e (vinB.n (tn (VRun.region (fO (Qy (tv (tN i) Y) (VEv.int .i64 1) (by omega)) (mO (tN (i+1)) Y (VRunO.nil (tn ?_))))))))))
  refine ⟨((i+1,w):Nat×(List (Int×Int))),?_,?_,Wk.mk (fun k=>k) ?_ ?_ ?_⟩
  ·exact ⟨by omega,hI'.2.congr fun c=>by rw [QkB hx1,List.take_of_length_le (by omega)]⟩
  ·omega
  ·exact (b2 (b2 (b2 (b2 (b2 (b2 (b2 bn)))))))
  ·exact (b3 (b3 bn))
  ·exact nd Y
 refine VRun.exit (vthn.e (vthn.e (vinB.e (tn (sq (sr (lf (tS g.Cells) Y QN Y Y Yp (lO (B.lenS (tv (tS g.Cells) Y) U9) (fO (OF.move (VEv.int .i64 0)) (nt (VRun.block ?_)))))))))))
 refine VRun.loop (A:=Nat) (fun s_=> [(1,(tS f)),(2,(T.op 0 0)),(5,(T.om 1)),(31,(tN g.Cells.size)),(32,(tN s_))]) (fun s_=>QY [(0,(Obj.cells (Qe false g))),(1,(Obj.map (eM m)))]) 2 (fun s_=>s_≤g.Cells.size∧∀j,j<s_→¬(Qa6 g j∧Qb3 f j)) (fun s_=>g.Cells.size - s_) (0:Nat) ?_ (Wk.mk (fun k=>k) ?_ ?_ ?_) ?_
 ·exact ⟨Nat.zero_le _,fun c hc=>by omega⟩
 ·exact (b2 (b2 (b2 (b2 (b2 bn)))))
 ·exact (b3 (b3 bn))
 ·exact nd Y
 rintro c (hI':c≤g.Cells.size∧∀j,j<c→¬(Qa6 g j∧Qb3 f j))
 show VRun _ _ _ [(1,(tS f)),(2,(T.op 0 0)),(5,(T.om 1)),(31,(tN g.Cells.size)),(32,(tN c))] (QY [(0,(Obj.cells (Qe false g))),(1,(Obj.map (eM m)))]) 2 _
 have hJ1:=hI'.1
 refine sr (fO (Zb (tv (tN c) Y) (tv (tN g.Cells.size) Y)) (nt (sq ?_)))
 refine cd (c<g.Cells.size) Y (fun fhc2=> ?_) fun fhc2=> ?_
 ·refine sk ?_
  refine tn (sq (VRun.block (sr (mO (tN c) Y (aO (tN c) Y (nt (sr (lf (tS g.Cells) Y QN Y Y Yp (mO (tN c) Y ?_)))))))))
  have hb2:c<g.Cells.size:=(by omega)
  refine fO (xix (tv (tS g.Cells) Y) (tv (tN c) Y) hb2 U9) (fO (Y9 (tv (T.int .u8 (QA g.Cells c)) Y) (VEv.int .u8 46)) (mO (tB (decide (QA g.Cells c=46))) Y ?_))
  refine gw (QA g.Cells c=46) (fun fhg40_3=> ?_) fun fhg40_3=> ?_
  ·refine gF (dy fhg40_3) Y Y (OF.move (tv (T.om 1) Y)) ?_
   refine gF (dy fhg40_3) Y Y (OF.move (tv (tN c) Y)) (gL (dy fhg40_3) Y Y (B.mapGet (l:=m) (n:=((c:Nat):Int)) (tv (T.om 1) Y) (tv (tN c) Y) Y Qou U3 JW) (gF (dy fhg40_3) Y Y (Y9 (tv (tI (QbJ m ((c:Nat):Int))) Y) (VEv.int .i64 0)) (fO (OF.pickT (VEv.tmpB Y (dy fhg40_3)) (tv (tB (decide (QbJ m ((c:Nat):Int)=0))) Y)) (mO (tB (decide (QbJ m ((c:Nat):Int)=0))) Y ?_))))
   refine gw (QbJ m ((c:Nat):Int)=0) (fun fhg46_4=> ?_) fun fhg46_4=> ?_
   ·refine gF (dy fhg46_4) Y Y (OF.move (tv (tS f) Y)) ?_
    refine gF (dy fhg46_4) Y Y (OF.move (tv (tN c) Y)) ?_
    have hb5:c<f.size:=(by omega)
    refine gF (dy fhg46_4) Y Y (xix (tv (tS f) Y) (tv (tN c) Y) hb5 U9) (VRunO.chain (VWant.on Y Y (dy fhg46_4)) (cS (vc (tv (T.int .u8 (QA f c)) Y) vn) (ZO Y) (JK (n+3) (QA f c)) Y Y) (gF (dy fhg46_4) Y Y (Q1 (tv (tB (decide (97≤(QA f c)∧(QA f c)≤122))) Y)) (fO (OF.pickT (VEv.tmpB Y (dy fhg46_4)) (tv (tB (!(decide (97≤(QA f c)∧(QA f c)≤122)))) Y)) (nt ?_))))
    refine cn (97≤(QA f c)∧(QA f c)≤122) Y (fun fhc3=> ?_) fun fhc3=> ?_
    ·refine sr ?_
     refine fO (OF.assign (VEv.bool true)) (nt (rt (vinB.r (tr (tr (vinB.r (tr (vb (b':=true) Y ?_))))))))
     symm;rw [decide_eq_true_eq];refine ⟨c,fhc2,⟨?_,fun h=> ?_⟩,?_⟩
     ·omega
     ·have hq:=(hM ((c:Nat):Int)).1 ((QdB fhc0 _).2 h);omega
     ·unfold Qb3;omega
    refine sk (vinB.n (tn (VRun.region (fO (Qy (tv (tN c) Y) (VEv.int .i64 1) (by omega)) (mO (tN (c+1)) Y (VRunO.nil (tn ?_)))))))
    refine ⟨(c+1:Nat),?_,?_,Wk.mk (fun k=>k) ?_ ?_ ?_⟩
    ·refine QZ (ok:=fun j=>¬(Qa6 g j∧Qb3 f j)) hI' fhc2 ?_
     rintro ⟨⟨a1,a2⟩,a3⟩
     have hq:=(hM ((c:Nat):Int)).2 (fun h=>a2 ((QdB fhc0 _).1 h))
     unfold Qb3 at a3;omega
    ·omega
    ·exact (b2 (b2 (b2 (b2 (b2 bn)))))
    ·exact (b3 (b3 bn))
    ·exact nd Y
   refine QE 5 11 true 46 (dz fhg46_4) Y Y Y (fO (OF.pickF (VEv.tmpB Y (dz fhg46_4)) (VEv.bool false)) (nt (cf Y (sk (vinB.n (tn (VRun.region (fO (Qy (tv (tN c) Y) (VEv.int .i64 1) (by omega)) (mO (tN (c+1)) Y (VRunO.nil (tn ?_)))))))))))
   refine ⟨(c+1:Nat),?_,?_,Wk.mk (fun k=>k) ?_ ?_ ?_⟩
   ·refine QZ (ok:=fun j=>¬(Qa6 g j∧Qb3 f j)) hI' fhc2 ?_
    rintro ⟨⟨a1,a2⟩,a3⟩
    have hq:=(hM ((c:Nat):Int)).2 (fun h=>a2 ((QdB fhc0 _).1 h))
    unfold Qb3 at a3;omega
   ·omega
   ·exact (b2 (b2 (b2 (b2 (b2 bn)))))
   ·exact (b3 (b3 bn))
   ·exact nd Y
  refine QE 4 5 true 40 (dz fhg40_3) Y Y Y (fO (OF.pickF (VEv.tmpB Y (dz fhg40_3)) (VEv.bool false)) (mO (tB false) Y (QE 5 11 true 46 (b:=false) Y Y Y Y (fO (OF.pickF (tv (tB false) Y) (VEv.bool false)) (nt (cf Y (sk (vinB.n (tn (VRun.region (fO (Qy (tv (tN c) Y) (VEv.int .i64 1) (by omega)) ?_)))))))))))
  refine mO (tN (c+1)) Y (VRunO.nil (tn ?_))
  refine ⟨(c+1:Nat),?_,?_,Wk.mk (fun k=>k) ?_ ?_ ?_⟩
  ·refine QZ (ok:=fun j=>¬(Qa6 g j∧Qb3 f j)) hI' fhc2 ?_
   rintro ⟨⟨a1,a2⟩,a3⟩
   have hq:=(hM ((c:Nat):Int)).2 (fun h=>a2 ((QdB fhc0 _).1 h))
   unfold Qb3 at a3;omega
  ·omega
  ·exact (b2 (b2 (b2 (b2 (b2 bn)))))
  ·exact (b3 (b3 bn))
  ·exact nd Y
 refine VRun.exit (vthn.e (vthn.e (vinB.e (tn (sr (fO (OF.assign (VEv.bool false)) (nt (rt (vb (b':=false) Y ?_)))))))))
 symm;rw [decide_eq_false_iff_not];rintro ⟨c,h1,h2,h3⟩;exact hI'.2 c (by omega) ⟨h2,h3⟩
noncomputable section
def on (s:List Bool) (j:Nat):Bool:=s[j]?.getD false
theorem Qla {s:List Bool} {j:Nat} (h:on s j=true):j<s.length:=by
 rcases Nat.lt_or_ge j s.length with h1 | h1
 ·exact h1
 ·rw [on,List.getElem?_eq_none h1] at h;cases h
theorem QdP {s:List Bool} {i j:Nat} (hi:i<s.length):on (s.set i true) j=(if j=i then true else on s j):=by
 unfold on
 rw [List.getElem?_set]
 by_cases h:i=j
 ·subst h;simp [hi]
 ·rw [if_neg h,if_neg (fun e=>h e.symm)]
theorem Qml {s t:List Bool} (hl:s.length=t.length) (h:∀j,on s j=true↔on t j=true):s=t:=by
 refine List.ext_getElem? fun j=> ?_
 rcases Nat.lt_or_ge j s.length with h1 | h1
 ·have h2:j<t.length:=by omega
  have h3:=h j
  unfold on at h3
  rw [List.getElem?_eq_getElem h1,List.getElem?_eq_getElem h2] at h3 ⊢
  simp only [Option.getD_some] at h3
  rw [Bool.eq_iff_iff.2 h3]
 ·rw [List.getElem?_eq_none h1,List.getElem?_eq_none (by omega)]
theorem on_no {s:List Bool} {j:Nat}:on s j=false↔¬on s j=true:=by cases on s j<;>simp
def wG (g:D.Grid):Nat:=g.Cols.toNat
def adj (g:D.Grid) (i j:Nat):Prop:=(j=i+1∧i % wG g+1<wG g)∨(i=j+1∧j % wG g+1<wG g)∨j=i+wG g∨i=j+wG g
inductive Rch (g:D.Grid) (s:List Bool):Nat→Prop
 | base {j:Nat} (h:on s j=true):Rch g s j
 | step {i j:Nat} (h:Rch g s i) (ha:adj g i j) (hj:j<s.length) (hw:QA g.Cells j=46):Rch g s j
instance (g:D.Grid) (s:List Bool) (j:Nat):Decidable (Rch g s j):=Classical.propDecidable _
def Zv (g:D.Grid) (s:List Bool):List Bool:=(List.range s.length).map fun j=>decide (Rch g s j)
theorem Rch.lt {g:D.Grid} {s:List Bool} {j:Nat} (h:Rch g s j):j<s.length:=by
 cases h with
 | base h=>exact Qla h
 | step _ _ hj _=>exact hj
theorem QcS (g:D.Grid) (s:List Bool):(Zv g s).length=s.length:=by simp [Zv]
theorem on_reachL {g:D.Grid} {s:List Bool} {j:Nat}:on (Zv g s) j=true↔Rch g s j:=by
 unfold on Zv
 rw [List.getElem?_map]
 rcases Nat.lt_or_ge j s.length with h1 | h1
 ·rw [List.getElem?_eq_getElem (by simpa using h1),List.getElem_range]
  simp
 ·rw [List.getElem?_eq_none (by simpa using h1)]
  simp only [Option.map_none,Option.getD_none,Bool.false_eq_true,false_iff]
  intro h
  have:=h.lt
  omega
def QlI (g:D.Grid) (s:List Bool) (i:Nat):Prop:=∃j,adj g j i∧on s j=true
theorem QlX {i w:Nat} (h:0<i % w) (hw:i % w<w):(i - 1) % w+1=i % w∧1≤i:=by
 have h1:i % w≤i:=Nat.mod_le _ _
 have h2:=Nat.div_add_mod i w
 refine ⟨?_,by omega⟩
 have e:i - 1=(i % w - 1)+w*(i / w):=by omega
 rw [e,Nat.add_mul_mod_self_left,Nat.mod_eq_of_lt (by omega)]
 omega
theorem Qme {i w:Nat} (h:i % w+1<w):(i+1) % w=i % w+1:=by
 have h2:=Nat.div_add_mod i w
 have e:i+1=(i % w+1)+w*(i / w):=by omega
 rw [e,Nat.add_mul_mod_self_left,Nat.mod_eq_of_lt h]
theorem Qiy {g:D.Grid} {s:List Bool} {i:Nat} (hw:2≤g.Cols) (hl:i<s.length) :
  ((((0<i % g.Cols.toNat∧on s (i - 1)=true)∨(((i % g.Cols.toNat+1:Nat):Int)<g.Cols∧on s (i+1)=true))∨(g.Cols≤((i:Nat):Int)∧on s (i - g.Cols.toNat)=true))∨(i+g.Cols.toNat<s.length∧on s (i+g.Cols.toNat)=true))↔QlI g s i:=by
 have hm:i % g.Cols.toNat<g.Cols.toNat:=Nat.mod_lt _ (by omega)
 constructor
 ·rintro (((⟨h1,h2⟩ | ⟨h1,h2⟩) | ⟨h1,h2⟩) | ⟨h1,h2⟩)
  ·obtain ⟨h3,h4⟩:=QlX h1 hm
   exact ⟨i - 1, .inl ⟨by omega,by unfold wG;omega⟩,h2⟩
  ·exact ⟨i+1, .inr (.inl ⟨rfl,by unfold wG;omega⟩),h2⟩
  ·exact ⟨i - g.Cols.toNat, .inr (.inr (.inl (by unfold wG;omega))),h2⟩
  ·exact ⟨i+g.Cols.toNat, .inr (.inr (.inr (by unfold wG;omega))),h2⟩
 ·rintro ⟨j,(⟨h1,h2⟩ | ⟨h1,h2⟩ | h1 | h1),h3⟩
  ·refine .inl (.inl (.inl ⟨?_,by rw [show i - 1=j by omega];exact h3⟩))
   unfold wG at h2
   rw [h1,Qme h2];omega
  ·refine .inl (.inl (.inr ⟨by unfold wG at h2;omega,by rw [← h1];exact h3⟩))
  ·unfold wG at h1
   refine .inl (.inr ⟨by omega,by rw [show i - g.Cols.toNat=j by omega];exact h3⟩)
  ·unfold wG at h1
   have:=Qla h3
   exact .inr ⟨by omega,by rw [← h1];exact h3⟩
def RS (g:D.Grid) (s0 s:List Bool):Prop:=s.length=s0.length∧(∀j,on s0 j=true→on s j=true)∧∀j,on s j=true→Rch g s0 j
theorem RS.start (g:D.Grid) (s:List Bool):RS g s s:=⟨rfl,fun _ h=>h,fun _ h=> .base h⟩
theorem RS.put {g:D.Grid} {s0 s:List Bool} {i:Nat} (h:RS g s0 s) (hi:i<s.length) (hw:QA g.Cells i=46) (hn:QlI g s i):RS g s0 (s.set i true):=by
 obtain ⟨h1,h2,h3⟩:=h
 refine ⟨by simpa using h1,fun j hj=> ?_,fun j hj=> ?_⟩
 ·rw [QdP hi];split
  ·rfl
  ·exact h2 j hj
 ·rw [QdP hi] at hj
  split at hj
  ·rename_i e
   subst e
   obtain ⟨k,hk,hk2⟩:=hn
   exact .step (h3 k hk2) hk (by omega) hw
  ·exact h3 j hj
def QiF (g:D.Grid) (s:List Bool) (i:Nat):Prop:=QA g.Cells i=46∧on s i=false∧QlI g s i
instance (g:D.Grid) (s:List Bool) (i:Nat):Decidable (QiF g s i):=Classical.propDecidable _
def Y4 (g:D.Grid) (s:List Bool) (i:Nat):List Bool:=if QiF g s i then s.set i true else s
def QcB (g:D.Grid) (ag:Bool) (s:List Bool) (i:Nat):Bool:=if QiF g s i then true else ag
theorem Qk4 {g:D.Grid} {s:List Bool} {ag:Bool} {i:Nat} (h:QiF g s i):s.set i true=Y4 g s i∧true=QcB g ag s i:=⟨(if_pos h).symm,(if_pos h).symm⟩
theorem QjG {g:D.Grid} {s:List Bool} {ag:Bool} {i:Nat} (h:¬QiF g s i):s=Y4 g s i∧ag=QcB g ag s i:=⟨(if_neg h).symm,(if_neg h).symm⟩
def Inv1 (g:D.Grid) (s0 s:List Bool) (i:Nat) (s1:List Bool) (ag:Bool):Prop:=i≤s0.length∧RS g s0 s1∧(ag=false→s1=s∧∀j,j<i→¬QiF g s j)∧(ag=true→s1.count false<s.count false)∧s1.count false≤s.count false
theorem Inv1.start {g:D.Grid} {s0 s:List Bool} (h:RS g s0 s):Inv1 g s0 s 0 s false:=⟨Nat.zero_le _,h,fun _=>⟨rfl,fun j hj=>by omega⟩,(fun h=>by cases h),Nat.le_refl _⟩
theorem Qee {s:List Bool} {i:Nat} (hi:i<s.length) (h:on s i=false):(s.set i true).count false+1=s.count false:=by
 have h2:s[i]=false:=by
  unfold on at h
  rw [List.getElem?_eq_getElem hi] at h
  exact h
 have h3:0<s.count false:=List.count_pos_iff.2 (h2▸List.getElem_mem hi)
 rw [List.count_set hi]
 simp [h2]
 omega
theorem Inv1.next {g:D.Grid} {s0 s s1:List Bool} {i:Nat} {ag:Bool} (h:Inv1 g s0 s i s1 ag) (hi:i<s1.length):Inv1 g s0 s (i+1) (Y4 g s1 i) (QcB g ag s1 i):=by
 obtain ⟨h1,h2,h3,h4,h5⟩:=h
 have hl:=h2.1
 unfold Y4 QcB
 by_cases hw:QiF g s1 i
 ·rw [if_pos hw,if_pos hw]
  have hc:=Qee hi hw.2.1
  exact ⟨by omega,h2.put hi hw.1 hw.2.2,(fun e=>by cases e),(fun _=>by omega),by omega⟩
 ·rw [if_neg hw,if_neg hw]
  refine ⟨by omega,h2,fun e=> ?_,h4,h5⟩
  obtain ⟨h6,h7⟩:=h3 e
  subst h6
  refine ⟨rfl,fun j hj=> ?_⟩
  rcases Nat.lt_or_ge j i with g1 | g1
  ·exact h7 j g1
  ·obtain rfl:j=i:=by omega
   exact hw
def Inv0 (g:D.Grid) (s0 s:List Bool) (ag:Bool):Prop:=RS g s0 s∧(ag=false→∀j,j<s0.length→¬QiF g s j)
theorem Inv1.done {g:D.Grid} {s0 s s1:List Bool} {i:Nat} {ag:Bool} (h:Inv1 g s0 s i s1 ag) (hi:¬i<s1.length):Inv0 g s0 s1 ag:=by
 obtain ⟨h1,h2,h3,h4,h5⟩:=h
 have hl:=h2.1
 refine ⟨h2,fun e j hj=> ?_⟩
 obtain ⟨h6,h7⟩:=h3 e
 rw [h6]
 exact h7 j (by omega)
theorem Inv1.dec {g:D.Grid} {s0 s s1:List Bool} {i:Nat} {ag ag0:Bool} (h:Inv1 g s0 s i s1 ag) (h0:ag0=true):s1.count false+(if ag=true then 1 else 0)<s.count false+(if ag0=true then 1 else 0):=by
 obtain ⟨h1,h2,h3,h4,h5⟩:=h
 rw [if_pos h0]
 split
 ·rename_i e
  have:=h4 e
  omega
 ·omega
theorem Inv0.done {g:D.Grid} {s0 s:List Bool} {ag:Bool} (h:Inv0 g s0 s ag) (ha:¬ag=true):s=Zv g s0:=by
 obtain ⟨⟨h1,h2,h3⟩,h4⟩:=h
 refine Qml (by rw [QcS,h1]) fun j=> ?_
 rw [on_reachL]
 refine ⟨h3 j,fun hj=> ?_⟩
 have h5:=h4 (by cases ag<;>simp_all)
 induction hj with
 | base h=>exact h2 _ h
 | step h ha hj hw ih =>
  rename_i i k
  cases hk:on s k with
  | true=>rfl
  | false=>exact absurd ⟨hw,hk,i,ha,ih⟩ (h5 k hj)
end
theorem QeN (n:Nat) (g:D.Grid) (seen:List Bool) (cell:Nat) (hg:gridOk g) (hc:cell<seen.length) (hs:seen.length=g.Cells.size):Loan (Qs Tryz.prog (n+1)) 182 1 (List.map (Qp true) seen) [(T.agg (Qe false g)),(T.os 1 0 0 ((seen.map (Qp true)).length)),(tN cell)] (T.os 1 0 0 (List.map (Qp true) (Zv g (seen.set cell true))).length) (List.map (Qp true) (Zv g (seen.set cell true))):=by
 refine Loan.intro (rs:= [ResultVar.tmp 6]) (j:=1) (pin:=(T.os 1 0 0 ((seen.map (Qp true)).length))) Tryz.func182 Y Y Y (by kernel_rfl) Y (.os _ _) (.os _ _) (Yb (fun _=>rfl) _) (Yb (fun _=>rfl) _) (E0:= [(0,(T.agg (Qe false g))),(1,(T.os 1 0 0 ((seen.map (Qp true)).length))),(2,(tN cell))]) Y ?_
 obtain ⟨hlim,hmx,hmax⟩:=QG
 have hsz:=hg.size
 have hA:=hg.1
 have hB:=hg.2.1
 refine sr (kO (B.box (ts:=(Qe false g)) (tv (T.agg (Qe false g)) Y) nofun Y) (fO (OF.assign VEv.nils) (nt (sr (mO (T.os 1 0 0 ((seen.map (Qp true)).length)) Y (mO (tN cell) Y ?_))))))
 obtain ⟨x1,hx1⟩:∃x,seen[cell]? =some x:=⟨_,List.getElem?_eq_getElem (by omega)⟩
 skip
 refine fO (B.indexAddrO (i:=cell) (tv (T.os 1 0 0 ((seen.map (Qp true)).length)) Y) (tv (tN cell) Y) Y (by (simp only [List.length_map];omega)) JB sz4 if4) (cO (B.storeP (us:= [(tB true)]) (rows':=((seen.set cell true).map (Qp true))) (row:=(Qp true x1)) (tv (T.orp 1 0 cell 0) Y) (VEv.bool true) nofun Y (Qt _ hx1) Y (lb Y) if4 sz4 (bc Y bn) (by intro r hr t ht;obtain ⟨x,_,rfl⟩:=List.mem_map.1 hr;rw [Qhh] at ht;exact ZV (okBool.pl _ t ht)) (Ze Y)) (nt (sq (sr (fO (OF.assign (VEv.bool true)) (nt (VRun.block ?_)))))))
 refine VRun.loop (A:=Bool×(List Bool)) (fun s_=> [(1,(T.os 1 1 0 ((s_.2.map (Qp true)).length))),(3,(T.op 0 0)),(6,T.nils),(7,(tB s_.1))]) (fun s_=>QY [(0,(Obj.cells (Qe false g))),(1,(Obj.rows 1 (s_.2.map (Qp true))))]) 2 (fun s_=>Inv0 g (seen.set cell true) s_.2 s_.1) (fun s_=>s_.2.count false+(if s_.1=true then 1 else 0)) ((true,seen.set cell true):Bool×(List Bool)) ?_ (Wk.mk (fun k=>if k=0 then 1 else if k=1 then 0 else k) ?_ ?_ ?_) ?_
 ·exact ⟨RS.start _ _,fun h=>by cases h⟩
 ·exact (bc ⟨(congrArg (fun n_=>T.os 1 0 0 n_) (show (seen.map (Qp true)).length=((seen.set cell true).map (Qp true)).length from (by (simp;done)))),rfl⟩ (b2 (b2 (b2 bn))))
 ·exact (b3 (b3 bn))
 ·exact nd Y
 rintro ⟨ag,s⟩ (hI':Inv0 g (seen.set cell true) s ag)
 show VRun _ _ _ [(1,(T.os 1 1 0 ((s.map (Qp true)).length))),(3,(T.op 0 0)),(6,T.nils),(7,(tB ag))] (QY [(0,(Obj.cells (Qe false g))),(1,(Obj.rows 1 (s.map (Qp true))))]) 2 _
 have hI1:=hI'
 have hl0:s.length=g.Cells.size:=by have:=hI'.1.1;rw [List.length_set] at this;omega
 refine sq (sr (mO (tB ag) Y (nt ?_)))
 refine VRun.cond (tv (tB ag) Y) (fun hc0=> ?_) (fun hc0=> ?_)
 ·have fhc0:ag=true:=hc0
  refine sk (tn (VRun.block (sr (fO (OF.assign (VEv.bool false)) (nt (sr (fO (OF.assign (VEv.int .i64 0)) (nt (VRun.block ?_)))))))))
  refine VRun.loop (A:=Nat×(List Bool)×Bool) (fun s_=> [(1,(T.os 1 1 0 ((s_.2.1.map (Qp true)).length))),(3,(T.op 0 0)),(6,T.nils),(7,(tB s_.2.2)),(8,(tN s_.1))]) (fun s_=>QY [(0,(Obj.cells (Qe false g))),(1,(Obj.rows 1 (s_.2.1.map (Qp true))))]) 2 (fun s_=>Inv1 g (seen.set cell true) s s_.1 s_.2.1 s_.2.2) (fun s_=>s_.2.1.length - s_.1) ((0,s,false):Nat×(List Bool)×Bool) ?_ (Wk.mk (fun k=>k) ?_ ?_ ?_) ?_
  ·exact Inv1.start hI1.1
  ·exact (b2 (b2 (b2 (b2 (b2 bn)))))
  ·exact (b3 (b3 bn))
  ·exact nd Y
  rintro ⟨i,s1,ag1⟩ (hI':Inv1 g (seen.set cell true) s i s1 ag1)
  show VRun _ _ _ [(1,(T.os 1 1 0 ((s1.map (Qp true)).length))),(3,(T.op 0 0)),(6,T.nils),(7,(tB ag1)),(8,(tN i))] (QY [(0,(Obj.cells (Qe false g))),(1,(Obj.rows 1 (s1.map (Qp true))))]) 2 _
  have hJ1:=hI'.1
  have hl1:s1.length=g.Cells.size:=by have:=hI'.2.1.1;rw [List.length_set] at this;omega
  refine sq (sr (mO (tN i) Y (mO (T.os 1 1 0 ((s1.map (Qp true)).length)) Y (lO (B.lenO (m:=s1.length) (tv (T.os 1 1 0 ((s1.map (Qp true)).length)) Y) JB (List.length_map ..)) (fO (Zb (tv (tN i) Y) (tv (tN s1.length) Y)) (nt ?_))))))
  refine cd (i<s1.length) Y (fun fhc1=> ?_) fun fhc1=> ?_
  ·refine sk ?_
   refine tn (sq (VRun.block (sq (sr (mO (T.os 1 1 0 ((s1.map (Qp true)).length)) Y (mO (tN i) Y ?_))))))
   obtain ⟨x2,hx2⟩:∃x,s1[i]? =some x:=⟨_,List.getElem?_eq_getElem (by omega)⟩
   (have e2:on s1 i=x2:=by rw [on,hx2];rfl)
   refine fO (B.indexAddrO (i:=i) (tv (T.os 1 1 0 ((s1.map (Qp true)).length)) Y) (tv (tN i) Y) Y (by (simp only [List.length_map];omega)) JB sz4 if4) (lO (OL.loadP1 (t:=(tB x2)) (row:=(Qp true x2)) (tv (T.orp 1 1 i 0) Y) Y (Qt _ hx2) Y Y st4) (mO (tB x2) Y ?_))
   refine VRunO.joinB 6 [26,27,28,29,30] 31 (tB (decide ((x2=true)∨(¬(QA g.Cells i=46))))) ?_ ?_
   ·refine Qdo x2 (fun hg25_1=> ?_) (fun hg25_1=> ?_)
    ·have fhg25_1:x2=true:=hg25_1
     refine QE 5 4 false 25 hg25_1 Y Y Y (fO (OF.pickT (VEv.tmpB Y hg25_1) (VEv.bool true)) (VRunO.nil ?_))
     exact jq (congrArg T.bool (jOT (dT _) hg25_1)) (js Y (js Y (js Y (js Y (js Y (jn))))))
    ·have fhg25_1:x2=false:=hg25_1
     refine Yx (tS g.Cells) hg25_1 Y Y Y Y QN Y Y Yp (gF hg25_1 Y Y (OF.move (tv (tN i) Y)) ?_)
     have hb2:i<g.Cells.size:=(by omega)
     refine gF hg25_1 Y Y (xix (tv (tS g.Cells) Y) (tv (tN i) Y) hb2 U9) (gF hg25_1 Y Y (xne (tv (T.int .u8 (QA g.Cells i)) Y) (VEv.int .u8 46)) (fO (OF.pickF (VEv.tmpB Y hg25_1) (tv (tB (!(decide (QA g.Cells i=46)))) Y)) (VRunO.nil ?_)))
     exact jq (congrArg T.bool (jOF (dT _) hg25_1 dN)) (js Y (js Y (js Y (js Y (js Y (jn))))))
   refine nt ?_
   refine cd ((x2=true)∨(¬(QA g.Cells i=46))) Y (fun fhc2=> ?_) fun fhc2=> ?_
   ·have q1:=QjG (g:=g) (s:=s1) (ag:=ag1) (i:=i) (by rintro ⟨h1,h2,h3⟩;rw [e2] at h2;rcases fhc2 with h4 | h4;rw [h2] at h4;cases h4;exact h4 h1)
    refine VRun.exit (vthn.e (vinB.e (tn (VRun.region (mO (tN i) Y (fO (Qy (tv (tN i) Y) (VEv.int .i64 1) (by omega)) (aO (tN (i+1)) Y (VRunO.nil (tn ?_)))))))))
    have he3:s1=(Y4 g s1 i):=by exact q1.1
    refine ⟨((i+1,Y4 g s1 i,QcB g ag1 s1 i):Nat×(List Bool)×Bool),?_,?_,Wk.mk (fun k=>k) ?_ ?_ ?_⟩
    ·exact hI'.next fhc1
    ·show (Y4 g s1 i).length - (i+1)<s1.length - i
     have e1:(Y4 g s1 i).length=s1.length:=by unfold Y4;split<;>simp
     rw [e1];omega
    ·exact (bc ⟨(congrArg (fun l_=>T.os 1 1 0 (List.map (Qp true) l_).length) he3),rfl⟩ (b2 (b2 (bc ⟨(congrArg T.bool (show ag1=(QcB g ag1 s1 i) from (by exact q1.2))),rfl⟩ (b2 bn)))))
    ·exact (b3 (bc ⟨(congrArg (fun l_=>some (Obj.rows 1 (List.map (Qp true) l_))) he3),(lb Y),rfl⟩ bn))
    ·exact nd Y
   refine sk (tn ?_)
   have hci:=Qcc hg (show i<g.Cells.size by omega)
   obtain ⟨m,hm⟩:∃m,m=i % g.Cols.toNat:=⟨_,rfl⟩
   have hq1:0<m→1≤i:=by rw [hm];exact hci.2.1
   have hm6:m<g.Cols.toNat:=by rw [hm];exact hci.1.1
   have hq4:((m+1:Nat):Int)<g.Cols→i+1<g.Cells.size:=by rw [hm];exact hci.2.2.2.1 1
   clear hci
   refine sr (mO (tN i) Y (lf (tI g.Cols) Y Zx Y Y QQ (fO (B.rem (n:=((m:Nat):Int)) (tv (tN i) Y) (tv (tI g.Cols) Y) (by omega) (by (rw [hm];refine Qm8 ?_;omega))) (aO (tN m) Y (nt (sr (mO (tN m) Y (fO (B.gtr (c:=(decide (0<m))) (tv (tN m) Y) (VEv.int .i64 0) (by exact Q6 (by omega))) (mO (tB (decide (0<m))) Y ?_)))))))))
   refine VRunO.joinB 6 [39,40,41,42,43] 44 (tB (decide ((0<m)∧((s1[i - 1]?.getD false)=true)))) ?_ ?_
   ·refine gw (0<m) (fun fhg38_4=> ?_) fun fhg38_4=> ?_
    ·refine gF (dy fhg38_4) Y Y (OF.move (tv (T.os 1 1 0 ((s1.map (Qp true)).length)) Y)) ?_
     refine gF (dy fhg38_4) Y Y (OF.move (tv (tN i) Y)) (gF (dy fhg38_4) Y Y (B.sub (n:=((i - 1:Nat):Int)) (tv (tN i) Y) (VEv.int .i64 1) (by (rw [Qx (by omega)];omega))) ?_)
     have hy5:s1[i - 1]? =some (s1[i - 1]?.getD false):=QaA false (by omega)
     refine gF (dy fhg38_4) Y Y (B.indexAddrO (i:=i - 1) (tv (T.os 1 1 0 ((s1.map (Qp true)).length)) Y) (tv (tN (i - 1)) Y) Y (by (simp only [List.length_map];omega)) JB sz4 if4) (gL (dy fhg38_4) Y Y (OL.loadP1 (t:=(tB (s1[i - 1]?.getD false))) (row:=(Qp true (s1[i - 1]?.getD false))) (tv (T.orp 1 1 (i - 1) 0) Y) Y (Qt _ hy5) Y Y st4) (fO (OF.pickT (VEv.tmpB Y (dy fhg38_4)) (tv (tB (s1[i - 1]?.getD false)) Y)) (VRunO.nil ?_)))
     exact jq (congrArg T.bool (kAT fhg38_4 (dT _))) (js Y (js Y (js Y (js Y (js Y (jn))))))
    ·refine QE 5 2 true 38 (dz fhg38_4) Y Y Y ?_
     refine fO (OF.pickF (VEv.tmpB Y (dz fhg38_4)) (VEv.bool false)) (VRunO.nil ?_)
     exact jq (congrArg T.bool (kAF fhg38_4)) (js Y (js Y (js Y (js Y (js Y (jn))))))
   refine mO (tB (decide ((0<m)∧((s1[i - 1]?.getD false)=true)))) Y ?_
   refine VRunO.joinB 13 [46,47,48,49,50,51,52,53,54,55,56,57] 58 (tB (decide (((0<m)∧((s1[i - 1]?.getD false)=true))∨(((((m+1):Nat):Int)<g.Cols)∧((s1[(i+1)]?.getD false)=true))))) ?_ ?_
   ·refine gw ((0<m)∧((s1[i - 1]?.getD false)=true)) (fun fhg45_6=> ?_) fun fhg45_6=> ?_
    ·refine QE 6 9 false 45 (dy fhg45_6) Y Y Y ?_
     refine QaQ 5 15 true 51 Y Y Y (oO Y Y (dy fhg45_6) (fO (OF.pickT (VEv.tmpB Y (dy fhg45_6)) (VEv.bool true)) (VRunO.nil ?_)))
     exact jq (congrArg T.bool (kOT fhg45_6)) (js Y (js Y (js Y (js Y (js Y (js Y (js Y (js Y (js Y (js Y (js Y (js Y (jn)))))))))))))
    ·refine gF (dz fhg45_6) Y Y (OF.move (tv (tN m) Y)) ?_
     refine gF (dz fhg45_6) Y Y (Qy (tv (tN m) Y) (VEv.int .i64 1) (by omega)) (Yx (tI g.Cols) (dz fhg45_6) Y Y Y Y Zx Y Y QQ (gF (dz fhg45_6) Y Y (xls (tv (tN (m+1)) Y) (tv (tI g.Cols) Y)) (gF (dz fhg45_6) Y Y (OF.move (tv (tB (decide ((((m+1):Nat):Int)<g.Cols))) Y)) ?_)))
     refine VRunO.joinB 6 [52,53,54,55,56] 57 (tB (decide (((((m+1):Nat):Int)<g.Cols)∧((s1[(i+1)]?.getD false)=true)))) ?_ ?_
     ·refine gw ((((m+1):Nat):Int)<g.Cols) (fun fhg51_7=> ?_) fun fhg51_7=> ?_
      ·refine gF (dy fhg51_7) Y Y (OF.move (tv (T.os 1 1 0 ((s1.map (Qp true)).length)) Y)) ?_
       refine gF (dy fhg51_7) Y Y (OF.move (tv (tN i) Y)) (gF (dy fhg51_7) Y Y (Qy (tv (tN i) Y) (VEv.int .i64 1) (by omega)) ?_)
       have hy8:s1[(i+1)]? =some (s1[(i+1)]?.getD false):=QaA false (by omega)
       refine gF (dy fhg51_7) Y Y (B.indexAddrO (i:=(i+1)) (tv (T.os 1 1 0 ((s1.map (Qp true)).length)) Y) (tv (tN (i+1)) Y) Y (by (simp only [List.length_map];omega)) JB sz4 if4) (gL (dy fhg51_7) Y Y (OL.loadP1 (t:=(tB (s1[(i+1)]?.getD false))) (row:=(Qp true (s1[(i+1)]?.getD false))) (tv (T.orp 1 1 (i+1) 0) Y) Y (Qt _ hy8) Y Y st4) (gF (dz fhg45_6) Y Y (OF.pickT (VEv.tmpB Y (dy fhg51_7)) (tv (tB (s1[(i+1)]?.getD false)) Y)) (VRunO.nil ?_)))
       exact jq (congrArg T.bool (kAT fhg51_7 (dT _))) (js Y (js Y (js Y (js Y (js Y (jn))))))
      ·refine QE 5 15 true 51 (dz fhg51_7) Y Y Y ?_
       refine gF (dz fhg45_6) Y Y (OF.pickF (VEv.tmpB Y (dz fhg51_7)) (VEv.bool false)) (VRunO.nil ?_)
       exact jq (congrArg T.bool (kAF fhg51_7)) (js Y (js Y (js Y (js Y (js Y (jn))))))
     refine fO (OF.pickF (VEv.tmpB Y (dz fhg45_6)) (tv (tB (decide (((((m+1):Nat):Int)<g.Cols)∧((s1[(i+1)]?.getD false)=true)))) Y)) (VRunO.nil ?_)
     exact jq (congrArg T.bool (kOF fhg45_6 Y)) (js Y (js Y (js Y (js Y (js Y (js Y (js Y (js Y (js Y (js Y (js Y (js Y (jn)))))))))))))
   refine mO (tB (decide (((0<m)∧((s1[i - 1]?.getD false)=true))∨(((((m+1):Nat):Int)<g.Cols)∧((s1[(i+1)]?.getD false)=true))))) Y ?_
   refine VRunO.joinB 14 [60,61,62,63,64,65,66,67,68,69,70,71,72] 73 (tB (decide ((((0<m)∧((s1[i - 1]?.getD false)=true))∨(((((m+1):Nat):Int)<g.Cols)∧((s1[(i+1)]?.getD false)=true)))∨((g.Cols≤((i:Nat):Int))∧((s1[i - g.Cols.toNat]?.getD false)=true))))) ?_ ?_
   ·refine gw (((0<m)∧((s1[i - 1]?.getD false)=true))∨(((((m+1):Nat):Int)<g.Cols)∧((s1[(i+1)]?.getD false)=true))) (fun fhg59_9=> ?_) fun fhg59_9=> ?_
    ·refine QE 5 23 false 59 (dy fhg59_9) Y Y Y ?_
     refine QaQ 7 28 true 64 Y Y Y (oO Y Y (dy fhg59_9) (fO (OF.pickT (VEv.tmpB Y (dy fhg59_9)) (VEv.bool true)) (VRunO.nil ?_)))
     exact jq (congrArg T.bool (kOT fhg59_9)) (js Y (js Y (js Y (js Y (js Y (js Y (js Y (js Y (js Y (js Y (js Y (js Y (js Y (jn))))))))))))))
    ·refine gF (dz fhg59_9) Y Y (OF.move (tv (tN i) Y)) ?_
     refine Yx (tI g.Cols) (dz fhg59_9) Y Y Y Y Zx Y Y QQ (gF (dz fhg59_9) Y Y (xge (tv (tN i) Y) (tv (tI g.Cols) Y)) (gF (dz fhg59_9) Y Y (OF.move (tv (tB (decide (g.Cols≤((i:Nat):Int)))) Y)) ?_))
     refine VRunO.joinB 8 [65,66,67,68,69,70,71] 72 (tB (decide ((g.Cols≤((i:Nat):Int))∧((s1[i - g.Cols.toNat]?.getD false)=true)))) ?_ ?_
     ·refine gw (g.Cols≤((i:Nat):Int)) (fun fhg64_10=> ?_) fun fhg64_10=> ?_
      ·refine gF (dy fhg64_10) Y Y (OF.move (tv (T.os 1 1 0 ((s1.map (Qp true)).length)) Y)) ?_
       refine gF (dy fhg64_10) Y Y (OF.move (tv (tN i) Y)) (Yx (tI g.Cols) (dy fhg64_10) Y Y Y Y Zx Y Y QQ (gF (dy fhg64_10) Y Y (B.sub (n:=((i - g.Cols.toNat:Nat):Int)) (tv (tN i) Y) (tv (tI g.Cols) Y) (by (rw [Qx (by omega)];omega))) ?_))
       have hy11:s1[i - g.Cols.toNat]? =some (s1[i - g.Cols.toNat]?.getD false):=QaA false (by omega)
       refine gF (dy fhg64_10) Y Y (B.indexAddrO (i:=i - g.Cols.toNat) (tv (T.os 1 1 0 ((s1.map (Qp true)).length)) Y) (tv (tN (i - g.Cols.toNat)) Y) Y (by (simp only [List.length_map];omega)) JB sz4 if4) (gL (dy fhg64_10) Y Y (OL.loadP1 (t:=(tB (s1[i - g.Cols.toNat]?.getD false))) (row:=(Qp true (s1[i - g.Cols.toNat]?.getD false))) (tv (T.orp 1 1 (i - g.Cols.toNat) 0) Y) Y (Qt _ hy11) Y Y st4) (gF (dz fhg59_9) Y Y (OF.pickT (VEv.tmpB Y (dy fhg64_10)) (tv (tB (s1[i - g.Cols.toNat]?.getD false)) Y)) (VRunO.nil ?_)))
       exact jq (congrArg T.bool (kAT fhg64_10 (dT _))) (js Y (js Y (js Y (js Y (js Y (js Y (js Y (jn))))))))
      ·refine QE 7 28 true 64 (dz fhg64_10) Y Y Y ?_
       refine gF (dz fhg59_9) Y Y (OF.pickF (VEv.tmpB Y (dz fhg64_10)) (VEv.bool false)) (VRunO.nil ?_)
       exact jq (congrArg T.bool (kAF fhg64_10)) (js Y (js Y (js Y (js Y (js Y (js Y (js Y (jn))))))))
     refine fO (OF.pickF (VEv.tmpB Y (dz fhg59_9)) (tv (tB (decide ((g.Cols≤((i:Nat):Int))∧((s1[i - g.Cols.toNat]?.getD false)=true)))) Y)) (VRunO.nil ?_)
     exact jq (congrArg T.bool (kOF fhg59_9 Y)) (js Y (js Y (js Y (js Y (js Y (js Y (js Y (js Y (js Y (js Y (js Y (js Y (js Y (jn))))))))))))))
   refine mO (tB (decide ((((0<m)∧((s1[i - 1]?.getD false)=true))∨(((((m+1):Nat):Int)<g.Cols)∧((s1[(i+1)]?.getD false)=true)))∨((g.Cols≤((i:Nat):Int))∧((s1[i - g.Cols.toNat]?.getD false)=true))))) Y ?_
   refine VRunO.joinB 17 [75,76,77,78,79,80,81,82,83,84,85,86,87,88,89,90] 91 (tB (decide (((((0<m)∧((s1[i - 1]?.getD false)=true))∨(((((m+1):Nat):Int)<g.Cols)∧((s1[(i+1)]?.getD false)=true)))∨((g.Cols≤((i:Nat):Int))∧((s1[i - g.Cols.toNat]?.getD false)=true)))∨((i+g.Cols.toNat<s1.length)∧((s1[i+g.Cols.toNat]?.getD false)=true))))) ?_ ?_
   ·refine gw ((((0<m)∧((s1[i - 1]?.getD false)=true))∨(((((m+1):Nat):Int)<g.Cols)∧((s1[(i+1)]?.getD false)=true)))∨((g.Cols≤((i:Nat):Int))∧((s1[i - g.Cols.toNat]?.getD false)=true))) (fun fhg74_12=> ?_) fun fhg74_12=> ?_
    ·refine QE 8 38 false 74 (dy fhg74_12) Y Y Y ?_
     refine QaQ 7 46 true 82 Y Y Y (oO Y Y (dy fhg74_12) (fO (OF.pickT (VEv.tmpB Y (dy fhg74_12)) (VEv.bool true)) (VRunO.nil ?_)))
     exact jq (congrArg T.bool (kOT fhg74_12)) (js Y (js Y (js Y (js Y (js Y (js Y (js Y (js Y (js Y (js Y (js Y (js Y (js Y (js Y (js Y (js Y (jn)))))))))))))))))
    ·refine gF (dz fhg74_12) Y Y (OF.move (tv (tN i) Y)) ?_
     refine Yx (tI g.Cols) (dz fhg74_12) Y Y Y Y Zx Y Y QQ (gF (dz fhg74_12) Y Y (B.add (n:=((i+g.Cols.toNat:Nat):Int)) (tv (tN i) Y) (tv (tI g.Cols) Y) (by (rw [Qx (by omega)];omega))) (gF (dz fhg74_12) Y Y (OF.move (tv (T.os 1 1 0 ((s1.map (Qp true)).length)) Y)) (gL (dz fhg74_12) Y Y (B.lenO (m:=s1.length) (tv (T.os 1 1 0 ((s1.map (Qp true)).length)) Y) JB (List.length_map ..)) (gF (dz fhg74_12) Y Y (Zb (tv (tN (i+g.Cols.toNat)) Y) (tv (tN s1.length) Y)) (gF (dz fhg74_12) Y Y (OF.move (tv (tB (decide (i+g.Cols.toNat<s1.length))) Y)) ?_)))))
     refine VRunO.joinB 8 [83,84,85,86,87,88,89] 90 (tB (decide ((i+g.Cols.toNat<s1.length)∧((s1[i+g.Cols.toNat]?.getD false)=true)))) ?_ ?_
     ·refine gw (i+g.Cols.toNat<s1.length) (fun fhg82_13=> ?_) fun fhg82_13=> ?_
      ·refine gF (dy fhg82_13) Y Y (OF.move (tv (T.os 1 1 0 ((s1.map (Qp true)).length)) Y)) ?_
       refine gF (dy fhg82_13) Y Y (OF.move (tv (tN i) Y)) (Yx (tI g.Cols) (dy fhg82_13) Y Y Y Y Zx Y Y QQ (gF (dy fhg82_13) Y Y (B.add (n:=((i+g.Cols.toNat:Nat):Int)) (tv (tN i) Y) (tv (tI g.Cols) Y) (by (rw [Qx (by omega)];omega))) ?_))
       have hy14:s1[i+g.Cols.toNat]? =some (s1[i+g.Cols.toNat]?.getD false):=QaA false (by omega)
       refine gF (dy fhg82_13) Y Y (B.indexAddrO (i:=i+g.Cols.toNat) (tv (T.os 1 1 0 ((s1.map (Qp true)).length)) Y) (tv (tN (i+g.Cols.toNat)) Y) Y (by (simp only [List.length_map];omega)) JB sz4 if4) (gL (dy fhg82_13) Y Y (OL.loadP1 (t:=(tB (s1[i+g.Cols.toNat]?.getD false))) (row:=(Qp true (s1[i+g.Cols.toNat]?.getD false))) (tv (T.orp 1 1 (i+g.Cols.toNat) 0) Y) Y (Qt _ hy14) Y Y st4) (gF (dz fhg74_12) Y Y (OF.pickT (VEv.tmpB Y (dy fhg82_13)) (tv (tB (s1[i+g.Cols.toNat]?.getD false)) Y)) (VRunO.nil ?_)))
       exact jq (congrArg T.bool (kAT fhg82_13 (dT _))) (js Y (js Y (js Y (js Y (js Y (js Y (js Y (jn))))))))
      ·refine QE 7 46 true 82 (dz fhg82_13) Y Y Y ?_
       refine gF (dz fhg74_12) Y Y (OF.pickF (VEv.tmpB Y (dz fhg82_13)) (VEv.bool false)) (VRunO.nil ?_)
       exact jq (congrArg T.bool (kAF fhg82_13)) (js Y (js Y (js Y (js Y (js Y (js Y (js Y (jn))))))))
     refine fO (OF.pickF (VEv.tmpB Y (dz fhg74_12)) (tv (tB (decide ((i+g.Cols.toNat<s1.length)∧((s1[i+g.Cols.toNat]?.getD false)=true)))) Y)) (VRunO.nil ?_)
     exact jq (congrArg T.bool (kOF fhg74_12 Y)) (js Y (js Y (js Y (js Y (js Y (js Y (js Y (js Y (js Y (js Y (js Y (js Y (js Y (js Y (js Y (js Y (jn)))))))))))))))))
   refine aO (tB (decide (((((0<m)∧((s1[i - 1]?.getD false)=true))∨(((((m+1):Nat):Int)<g.Cols)∧((s1[(i+1)]?.getD false)=true)))∨((g.Cols≤((i:Nat):Int))∧((s1[i - g.Cols.toNat]?.getD false)=true)))∨((i+g.Cols.toNat<s1.length)∧((s1[i+g.Cols.toNat]?.getD false)=true))))) Y (nt (sr (mO (tB (decide (((((0<m)∧((s1[i - 1]?.getD false)=true))∨(((((m+1):Nat):Int)<g.Cols)∧((s1[(i+1)]?.getD false)=true)))∨((g.Cols≤((i:Nat):Int))∧((s1[i - g.Cols.toNat]?.getD false)=true)))∨((i+g.Cols.toNat<s1.length)∧((s1[i+g.Cols.toNat]?.getD false)=true))))) Y (nt ?_))))
   refine cd (((((0<m)∧((s1[i - 1]?.getD false)=true))∨(((((m+1):Nat):Int)<g.Cols)∧((s1[(i+1)]?.getD false)=true)))∨((g.Cols≤((i:Nat):Int))∧((s1[i - g.Cols.toNat]?.getD false)=true)))∨((i+g.Cols.toNat<s1.length)∧((s1[i+g.Cols.toNat]?.getD false)=true))) Y (fun fhc3=> ?_) fun fhc3=> ?_
   ·rw [hm] at fhc3
    have q1:=Qk4 (g:=g) (s:=s1) (ag:=ag1) (i:=i) ⟨by omega,on_no.2 (fun h=>fhc2 (.inl (e2.symm.trans h))),(Qiy hB.1 fhc1).1 fhc3⟩
    refine sr (mO (T.os 1 1 0 ((s1.map (Qp true)).length)) Y (mO (tN i) Y (fO (B.indexAddrO (i:=i) (tv (T.os 1 1 0 ((s1.map (Qp true)).length)) Y) (tv (tN i) Y) Y (by (simp only [List.length_map];omega)) JB sz4 if4) (cO (B.storeP (us:= [(tB true)]) (rows':=((s1.set i true).map (Qp true))) (row:=(Qp true x2)) (tv (T.orp 1 1 i 0) Y) (VEv.bool true) nofun Y (Qt _ hx2) Y (lb Y) if4 sz4 (bc Y bn) (by intro r hr t ht;obtain ⟨x,_,rfl⟩:=List.mem_map.1 hr;rw [Qhh] at ht;exact ZV (okBool.pl _ t ht)) (Ze Y)) (nt (VRun.region (fO (OF.assign (VEv.bool true)) (VRunO.nil (vinB.n (tn (VRun.region ?_)))))))))))
    refine mO (tN i) Y (fO (Qy (tv (tN i) Y) (VEv.int .i64 1) (by omega)) (aO (tN (i+1)) Y (VRunO.nil (tn ?_))))
    have he15:(s1.set i true)=(Y4 g s1 i):=by exact q1.1
    refine ⟨((i+1,Y4 g s1 i,QcB g ag1 s1 i):Nat×(List Bool)×Bool),?_,?_,Wk.mk (fun k=>k) ?_ ?_ ?_⟩
    ·exact hI'.next fhc1
    ·show (Y4 g s1 i).length - (i+1)<s1.length - i
     have e1:(Y4 g s1 i).length=s1.length:=by unfold Y4;split<;>simp
     rw [e1];omega
    ·exact (bc ⟨(congrArg (fun n_=>T.os 1 1 0 n_) (show (s1.map (Qp true)).length=((Y4 g s1 i).map (Qp true)).length from (by (rw [← q1.1];simp;done)))),rfl⟩ (b2 (b2 (bc ⟨(congrArg T.bool (show true=(QcB g ag1 s1 i) from (by exact q1.2))),rfl⟩ (b2 bn)))))
    ·exact (b3 (bc ⟨(congrArg (fun l_=>some (Obj.rows 1 (List.map (Qp true) l_))) he15),(lb Y),rfl⟩ bn))
    ·exact nd Y
   rw [hm] at fhc3
   have q1:=QjG (g:=g) (s:=s1) (ag:=ag1) (i:=i) (by rintro ⟨h1,h2,h3⟩;exact fhc3 ((Qiy hB.1 fhc1).2 h3))
   refine sk (vinB.n (tn (VRun.region (mO (tN i) Y (fO (Qy (tv (tN i) Y) (VEv.int .i64 1) (by omega)) (aO (tN (i+1)) Y (VRunO.nil (tn ?_))))))))
   have he16:s1=(Y4 g s1 i):=by exact q1.1
   refine ⟨((i+1,Y4 g s1 i,QcB g ag1 s1 i):Nat×(List Bool)×Bool),?_,?_,Wk.mk (fun k=>k) ?_ ?_ ?_⟩
   ·exact hI'.next fhc1
   ·show (Y4 g s1 i).length - (i+1)<s1.length - i
    have e1:(Y4 g s1 i).length=s1.length:=by unfold Y4;split<;>simp
    rw [e1];omega
   ·exact (bc ⟨(congrArg (fun l_=>T.os 1 1 0 (List.map (Qp true) l_).length) he16),rfl⟩ (b2 (b2 (bc ⟨(congrArg T.bool (show ag1=(QcB g ag1 s1 i) from (by exact q1.2))),rfl⟩ (b2 bn)))))
   ·exact (b3 (bc ⟨(congrArg (fun l_=>some (Obj.rows 1 (List.map (Qp true) l_))) he16),(lb Y),rfl⟩ bn))
   ·exact nd Y
  refine VRun.exit (vthn.e (vthn.e (vinB.e (vinB.n (tn ?_)))))
  refine ⟨((ag1,s1):Bool×(List Bool)),?_,?_,Wk.mk (fun k=>k) ?_ ?_ ?_⟩
  ·exact hI'.done fhc1
  ·exact hI'.dec fhc0
  ·exact (b2 (b2 (b2 (b2 bn))))
  ·exact (b3 (b3 bn))
  ·exact nd Y
 have fhc0:ag=false:=hc0
 refine VRun.exit (vthn.e (vthn.e (vinB.e (tn (sr (mO (T.os 1 1 0 ((s.map (Qp true)).length)) Y (aO (T.os 1 1 0 ((s.map (Qp true)).length)) Y (nt (rt ?_)))))))))
 have hnew:s=Zv g (seen.set cell true):=by
  exact hI'.done (by simp [fhc0])
 exact vloan.r 1 (VRes.tmp (t:=(T.os 1 1 0 ((s.map (Qp true)).length))) Y VRes.nil) (congrArg (fun l_=>T.os 1 1 0 (List.map (Qp true) l_).length) hnew) (congrArg (fun n_=>T.os 1 1 0 n_) (show (s.map (Qp true)).length=(seen.map (Qp true)).length from (by (simp only [List.length_map,QcS,List.length_set];omega)))) Y (congrArg (List.map (Qp true)) hnew)
noncomputable section
def Qgl (a b:List Bool):List Bool:=List.zipWith (fun x y=>x || y) a b
def Z1 (a b:List Bool) (k:Nat):List Bool:=(Qgl a b).take k++a.drop k
theorem Qad {a b:List Bool} (h:b.length=a.length):(Qgl a b).length=a.length:=by simp [Qgl,h]
theorem Qeg {a b:List Bool} {k:Nat} (h:b.length=a.length) (hk:k≤a.length):(Z1 a b k).length=a.length:=by
 unfold Z1
 rw [List.length_append,List.length_take,Qad h,List.length_drop];omega
theorem QlG {a b:List Bool} {k:Nat} {x:Bool} (h:b.length=a.length) (hk:k<a.length) (hx:(Z1 a b k)[k]? =some x):x=on a k:=by
 unfold Z1 at hx
 rw [List.getElem?_append_right (by rw [List.length_take,Qad h];omega),List.length_take,Qad h,Nat.min_eq_left (by omega),Nat.sub_self,List.getElem?_drop,Nat.add_zero] at hx
 rw [on,hx];rfl
theorem QiY {a b:List Bool} (h:b.length=a.length) (j:Nat):on (Qgl a b) j=(on a j || on b j):=by
 unfold on Qgl
 rw [List.getElem?_zipWith]
 rcases Nat.lt_or_ge j a.length with h1 | h1
 ·rw [List.getElem?_eq_getElem h1,List.getElem?_eq_getElem (by omega)];rfl
 ·rw [List.getElem?_eq_none h1,List.getElem?_eq_none (by omega)];rfl
theorem Qjp {a b:List Bool} {k:Nat} {v:Bool} (h:b.length=a.length) (hk:k<a.length) (hv:v=(on a k || on b k)):(Z1 a b k).set k v=Z1 a b (k+1):=by
 have hl:=Qad h
 have hu:(Qgl a b)[k]? =some v:=by
  have h1:=QiY h k
  unfold on at h1 hv
  rw [List.getElem?_eq_getElem (by omega)] at h1 ⊢
  rw [hv,← h1];rfl
 unfold Z1
 rw [List.set_append_right _ _ (by rw [List.length_take];omega),List.length_take,hl,Nat.min_eq_left (by omega),Nat.sub_self,List.drop_eq_getElem_cons hk,List.set_cons_zero,List.take_add_one,hu]
 simp
theorem Qi6 {a b:List Bool} {k:Nat} (h:b.length=a.length) (hk:¬k<a.length):Z1 a b k=Qgl a b:=by
 unfold Z1
 rw [List.take_of_length_le (by rw [Qad h];omega),List.drop_of_length_le (by omega),List.append_nil]
def fresh (g:D.Grid) (i:Nat):List Bool:=Zv g ((List.replicate g.Cells.size false).set i true)
def QdE (g:D.Grid) (s:List Bool) (i:Nat):Prop:=QA g.Cells i=46∧on s i=false
instance (g:D.Grid) (s:List Bool) (i:Nat):Decidable (QdE g s i):=Classical.propDecidable _
def Qq (g:D.Grid):Nat→Nat×List Bool
 | 0=>(0,List.replicate g.Cells.size false)
 | i+1=>if QdE g (Qq g i).2 i then ((Qq g i).1+1,Qgl (Qq g i).2 (fresh g i)) else Qq g i
theorem Qa4 (g:D.Grid) (i:Nat):(fresh g i).length=g.Cells.size:=by simp [fresh,QcS]
theorem Jy (g:D.Grid):∀i,(Qq g i).2.length=g.Cells.size
 | 0=>by simp [Qq]
 | i+1=>by
  have h:=Jy g i
  unfold Qq
  split
  ·simp only;rw [Qad (by rw [Qa4,h])];exact h
  ·exact h
theorem QdT (g:D.Grid):∀i,(Qq g i).1≤i
 | 0=>Nat.le_refl _
 | i+1=>by
  have h:=QdT g i
  unfold Qq
  split
  ·simp only;omega
  ·omega
theorem Qeb {g:D.Grid} {i:Nat} (h:QdE g (Qq g i).2 i):(Qq g (i+1)).1=(Qq g i).1+1∧(Qq g (i+1)).2=Qgl (Qq g i).2 (fresh g i):=by
 rw [Qq,if_pos h];exact ⟨rfl,rfl⟩
theorem Qb0 {g:D.Grid} {i:Nat} (h:¬QdE g (Qq g i).2 i):Qq g (i+1)=Qq g i:=by
 rw [Qq,if_neg h]
def Yd (g:D.Grid):Nat:=if gridOk g then (Qq g g.Cells.size).1 else 0
theorem Qg3 {g:D.Grid} {i:Nat} (h1:i≤g.Cells.size) (h2:gridOk g∨i=0) (h3:¬(i<g.Cells.size∧gridOk g)):(Qq g i).1=Yd g:=by
 unfold Yd
 by_cases hg:gridOk g
 ·rw [if_pos hg,show i=g.Cells.size by have:¬i<g.Cells.size:=fun h=>h3 ⟨h,hg⟩;omega]
 ·rw [if_neg hg,h2.resolve_left hg];rfl
theorem orB (x y:Bool):decide (x=true∨y=true)=(x || y):=by cases x<;>cases y<;>rfl
end
theorem QfZ (n:Nat) (g:D.Grid) (hc:g.Cells.size≤mx):Pure (Qs Tryz.prog (n+3)) 157 [(T.agg (Qe false g))] (tN (Yd g)):=by
 refine Pure.intro (rs:= [ResultVar.tmp 2]) Tryz.func157 Y Y Y (E0:= [(0,(T.agg (Qe false g)))]) Y ?_
 obtain ⟨hlim,hmx,hmax⟩:=QG
 refine sr (kO (B.box (ts:=(Qe false g)) (tv (T.agg (Qe false g)) Y) nofun Y) (fO (OF.assign (VEv.int .i64 0)) (nt (sr (fO (OF.assign (VEv.int .i64 0)) (nt (sr (kO (OM.slice0 JB zo4 (by kernel_rfl) Y (by rw [sz4];decide) sz4) (aO (T.os 1 1 0 0) Y (nt (sq ?_)))))))))))
 refine sr (fO (OF.assign (VEv.int .i64 0)) (nt (VRun.block ?_)))
 have he1: []=((List.replicate 0 false).map (Qp true)):=by rfl
 refine VRun.loop (A:=Nat) (fun s_=> [(1,(T.op 0 0)),(2,(tN 0)),(3,(tN 0)),(4,(T.os 1 1 0 (((List.replicate s_ false).map (Qp true)).length))),(5,(tN s_))]) (fun s_=>QY [(0,(Obj.cells (Qe false g))),(1,(Obj.rows 1 ((List.replicate s_ false).map (Qp true))))]) 2 (fun s_=>s_≤g.Cells.size) (fun s_=>g.Cells.size - s_) (0:Nat) ?_ (Wk.mk (fun k=>k) ?_ ?_ ?_) ?_
 ·(simp;done)
 ·exact (b2 (b2 (b2 (bc ⟨(congrArg (fun n_=>T.os 1 1 0 n_) (show 0=((List.replicate 0 false).map (Qp true)).length from (by rfl))),rfl⟩ (b2 bn)))))
 ·exact (b3 (bc ⟨(congrArg (fun l_=>some (Obj.rows 1 l_)) he1),(lb Y),rfl⟩ bn))
 ·exact nd Y
 rintro k (hI':k≤g.Cells.size)
 show VRun _ _ _ [(1,(T.op 0 0)),(2,(tN 0)),(3,(tN 0)),(4,(T.os 1 1 0 (((List.replicate k false).map (Qp true)).length))),(5,(tN k))] (QY [(0,(Obj.cells (Qe false g))),(1,(Obj.rows 1 ((List.replicate k false).map (Qp true))))]) 2 _
 have hK1:=hI'
 refine sq (sr (mO (tN k) Y (lf (tS g.Cells) Y QN Y Y Yp (lO (B.lenS (tv (tS g.Cells) Y) U9) (fO (Zb (tv (tN k) Y) (tv (tN g.Cells.size) Y)) (nt ?_))))))
 refine cd (k<g.Cells.size) Y (fun fhc0=> ?_) fun fhc0=> ?_
 ·refine sk ?_
  refine tn (sq (VRun.block (VRun.region (mO (T.os 1 1 0 (((List.replicate k false).map (Qp true)).length)) Y (kO (OM.buildSlice (l:= [(tB false)]) (VEvp.cons (VEv.bool false) VEvp.nil) Y (by decide) (bc (nofun) bn) (bc ((bc (Y) bn)) bn) (bc (Y) bn) JB zo4 (by kernel_rfl) Y (by rw [sz4];decide) sz4 (Nat.le_of_ble_eq_true Y)) (cO (B.append (rows:=((List.replicate k false).map (Qp true))) (rows2:= [[(tB false)]]) (rows3:=((List.replicate k false++ [false]).map (Qp true))) (VDst.own (tv (T.os 1 1 0 (((List.replicate k false).map (Qp true)).length)) Y) Y Y) (VSrc.own (tv (T.os 1 2 0 1) Y) Y Y JB (bc (bc Y bn) bn)) (by decide) JB sz4 (by decide) zo4 Y (of_decide_eq_true (by kernel_rfl)) (by (simp only [List.length_map,List.length_append,List.length_cons,List.length_nil,List.length_replicate,List.length_set,List.length_drop,List.length_take,YG] at *;omega)) ((List.map_append (f:=Qp true) (l₁:=List.replicate k false) (l₂:= [false])).symm)) (aO (T.os 1 3 0 (((List.replicate k false++ [false]).map (Qp true)).length)) Y (VRunO.nil (vinB.n (tn (VRun.region ?_)))))))))))
  refine mO (tN k) Y (fO (Qy (tv (tN k) Y) (VEv.int .i64 1) (by omega)) (aO (tN (k+1)) Y (VRunO.nil (tn ?_))))
  have he2:(List.replicate k false++ [false])=List.replicate (k+1) false:=by rw [List.replicate_succ']
  refine ⟨(k+1:Nat),?_,?_,Wk.mk (fun k=>if k=1 then 3 else k) ?_ ?_ ?_⟩
  ·trivial
  ·omega
  ·exact (b2 (b2 (b2 (bc ⟨(congrArg (fun l_=>T.os 1 3 0 (List.map (Qp true) l_).length) he2),rfl⟩ (b2 bn)))))
  ·exact (b3 (bc ⟨(congrArg (fun l_=>some (Obj.rows 1 (List.map (Qp true) l_))) he2),(lb Y),rfl⟩ bn))
  ·exact nd Y
 refine VRun.exit (vthn.e (vthn.e (vinB.e (tn (sq (sr (fO (OF.assign (VEv.int .i64 0)) (nt (VRun.block ?_)))))))))
 have he3:List.replicate k false=(Qq g 0).2:=by (show List.replicate k false=List.replicate g.Cells.size false;rw [show k=g.Cells.size by omega])
 refine VRun.loop (A:=Nat) (fun s_=> [(1,(T.op 0 0)),(2,(tN 0)),(3,(tN ((Qq g s_).1))),(4,(T.os 1 1 0 ((((Qq g s_).2).map (Qp true)).length))),(6,(tN s_))]) (fun s_=>QY [(0,(Obj.cells (Qe false g))),(1,(Obj.rows 1 (((Qq g s_).2).map (Qp true))))]) 2 (fun s_=>s_≤g.Cells.size∧(gridOk g∨s_=0)) (fun s_=>g.Cells.size - s_) (0:Nat) ?_ (Wk.mk (fun k=>k) ?_ ?_ ?_) ?_
 ·exact ⟨Nat.zero_le _, .inr Y⟩
 ·exact (b2 (b2 (bc ⟨(congrArg (T.int .i64) (show 0=(((Qq g 0).1:Nat):Int) from (by rfl))),rfl⟩ (bc ⟨(congrArg (fun l_=>T.os 1 1 0 (List.map (Qp true) l_).length) he3),rfl⟩ (b2 bn)))))
 ·exact (b3 (bc ⟨(congrArg (fun l_=>some (Obj.rows 1 (List.map (Qp true) l_))) he3),(lb Y),rfl⟩ bn))
 ·exact nd Y
 rintro i (hI':i≤g.Cells.size∧(gridOk g∨i=0))
 show VRun _ _ _ [(1,(T.op 0 0)),(2,(tN 0)),(3,(tN ((Qq g i).1))),(4,(T.os 1 1 0 ((((Qq g i).2).map (Qp true)).length))),(6,(tN i))] (QY [(0,(Obj.cells (Qe false g))),(1,(Obj.rows 1 (((Qq g i).2).map (Qp true))))]) 2 _
 have hI1:=hI'.1
 have hpl:=Jy g i
 have hpn:=QdT g i
 refine sq (sr (mO (tN i) Y (lf (tS g.Cells) Y QN Y Y Yp (lO (B.lenS (tv (tS g.Cells) Y) U9) (fO (Zb (tv (tN i) Y) (tv (tN g.Cells.size) Y)) (mO (tB (decide (i<g.Cells.size))) Y ?_))))))
 refine VRunO.joinB 3 [27,28] 29 (tB (decide ((i<g.Cells.size)∧(gridOk g)))) ?_ ?_
 ·refine gw (i<g.Cells.size) (fun fhg26_4=> ?_) fun fhg26_4=> ?_
  ·refine gL (dy fhg26_4) Y Y (OL.loadOn (us:=(Qe false g)) (tv (T.op 0 0) Y) Y Q4 QX (lb Y) Y) ?_
   refine VRunO.chain (VWant.on Y Y (dy fhg26_4)) (cS (vc (tv (T.agg (Qe false g)) Y) vn) (LendL.cons (lg Qw) ln) (Z8 (n+0) g (by omega)) Y Y) (fO (OF.pickT (VEv.tmpB Y (dy fhg26_4)) (tv (tB (decide (gridOk g))) Y)) (VRunO.nil ?_))
   exact jq (congrArg T.bool (kAT fhg26_4 Y)) (js Y (js Y (jn)))
  ·refine QE 2 5 true 26 (dz fhg26_4) Y Y Y ?_
   refine fO (OF.pickF (VEv.tmpB Y (dz fhg26_4)) (VEv.bool false)) (VRunO.nil ?_)
   exact jq (congrArg T.bool (kAF fhg26_4)) (js Y (js Y (jn)))
 refine nt ?_
 refine cd ((i<g.Cells.size)∧(gridOk g)) Y (fun fhc1=> ?_) fun fhc1=> ?_
 ·refine sk ?_
  refine tn (sq (VRun.block (sr (lf (tS g.Cells) Y QN Y Y Yp (mO (tN i) Y ?_)))))
  have hb5:i<g.Cells.size:=(by omega)
  refine fO (xix (tv (tS g.Cells) Y) (tv (tN i) Y) hb5 U9) (fO (Y9 (tv (T.int .u8 (QA g.Cells i)) Y) (VEv.int .u8 46)) (mO (tB (decide (QA g.Cells i=46))) Y ?_))
  refine VRunO.joinB 6 [38,39,40,41,42] 43 (tB (decide ((QA g.Cells i=46)∧((!(((Qq g i).2)[i]?.getD false))=true)))) ?_ ?_
  ·refine gw (QA g.Cells i=46) (fun fhg37_6=> ?_) fun fhg37_6=> ?_
   ·refine gF (dy fhg37_6) Y Y (OF.move (tv (T.os 1 1 0 ((((Qq g i).2).map (Qp true)).length)) Y)) ?_
    refine gF (dy fhg37_6) Y Y (OF.move (tv (tN i) Y)) ?_
    have hy7:((Qq g i).2)[i]? =some (((Qq g i).2)[i]?.getD false):=QaA false (by omega)
    refine gF (dy fhg37_6) Y Y (B.indexAddrO (i:=i) (tv (T.os 1 1 0 ((((Qq g i).2).map (Qp true)).length)) Y) (tv (tN i) Y) Y (by (simp only [List.length_map];omega)) JB sz4 if4) (gL (dy fhg37_6) Y Y (OL.loadP1 (t:=(tB (((Qq g i).2)[i]?.getD false))) (row:=(Qp true (((Qq g i).2)[i]?.getD false))) (tv (T.orp 1 1 i 0) Y) Y (Qt _ hy7) Y Y st4) (gF (dy fhg37_6) Y Y (Q1 (tv (tB (((Qq g i).2)[i]?.getD false)) Y)) (fO (OF.pickT (VEv.tmpB Y (dy fhg37_6)) (tv (tB (!(((Qq g i).2)[i]?.getD false))) Y)) (VRunO.nil ?_))))
    exact jq (congrArg T.bool (kAT fhg37_6 (dT _))) (js Y (js Y (js Y (js Y (js Y (jn))))))
   ·refine QE 5 5 true 37 (dz fhg37_6) Y Y Y ?_
    refine fO (OF.pickF (VEv.tmpB Y (dz fhg37_6)) (VEv.bool false)) (VRunO.nil ?_)
    exact jq (congrArg T.bool (kAF fhg37_6)) (js Y (js Y (js Y (js Y (js Y (jn))))))
  refine nt ?_
  refine cd ((QA g.Cells i=46)∧((!(((Qq g i).2)[i]?.getD false))=true)) Y (fun fhc2=> ?_) fun fhc2=> ?_
  ·have q0:QdE g (Qq g i).2 i:=⟨fhc2.1,by simpa [on] using fhc2.2⟩
   have q1:=Qeb q0
   have hgs:=fhc1.2.size
   refine sr (mO (tN ((Qq g i).1)) Y (fO (Qy (tv (tN ((Qq g i).1)) Y) (VEv.int .i64 1) (by omega)) (aO (tN ((Qq g i).1+1)) Y (nt (sr (kO (OM.slice0 JB zo4 (by kernel_rfl) Y (by rw [sz4];decide) sz4) (aO (T.os 1 2 0 0) Y (nt (sq (sr (fO (OF.assign (VEv.int .i64 0)) ?_)))))))))))
   refine nt (VRun.block ?_)
   have he8: []=((List.replicate 0 false).map (Qp true)):=by rfl
   refine VRun.loop (A:=Nat) (fun s_=> [(1,(T.op 0 0)),(2,(tN 0)),(3,(tN ((Qq g i).1+1))),(4,(T.os 1 1 0 ((((Qq g i).2).map (Qp true)).length))),(6,(tN i)),(7,(T.os 1 2 0 (((List.replicate s_ false).map (Qp true)).length))),(8,(tN s_))]) (fun s_=>QY [(0,(Obj.cells (Qe false g))),(1,(Obj.rows 1 (((Qq g i).2).map (Qp true)))),(2,(Obj.rows 1 ((List.replicate s_ false).map (Qp true))))]) 3 (fun s_=>s_≤(Qq g i).2.length) (fun s_=>(Qq g i).2.length - s_) (0:Nat) ?_ (Wk.mk (fun k=>k) ?_ ?_ ?_) ?_
   ·(simp;done)
   ·exact (b2 (b2 (b2 (b2 (b2 (bc ⟨(congrArg (fun n_=>T.os 1 2 0 n_) (show 0=((List.replicate 0 false).map (Qp true)).length from (by rfl))),rfl⟩ (b2 bn)))))))
   ·exact (b3 (b3 (bc ⟨(congrArg (fun l_=>some (Obj.rows 1 l_)) he8),(lb Y),rfl⟩ bn)))
   ·exact nd Y
   rintro k1 (hI':k1≤(Qq g i).2.length)
   show VRun _ _ _ [(1,(T.op 0 0)),(2,(tN 0)),(3,(tN ((Qq g i).1+1))),(4,(T.os 1 1 0 ((((Qq g i).2).map (Qp true)).length))),(6,(tN i)),(7,(T.os 1 2 0 (((List.replicate k1 false).map (Qp true)).length))),(8,(tN k1))] (QY [(0,(Obj.cells (Qe false g))),(1,(Obj.rows 1 (((Qq g i).2).map (Qp true)))),(2,(Obj.rows 1 ((List.replicate k1 false).map (Qp true))))]) 3 _
   have hK1:=hI'
   refine sq (sr (mO (tN k1) Y (mO (T.os 1 1 0 ((((Qq g i).2).map (Qp true)).length)) Y (lO (B.lenO (m:=((Qq g i).2).length) (tv (T.os 1 1 0 ((((Qq g i).2).map (Qp true)).length)) Y) JB (List.length_map ..)) (fO (Zb (tv (tN k1) Y) (tv (tN (((Qq g i).2).length)) Y)) (nt ?_))))))
   refine cd (k1<((Qq g i).2).length) Y (fun fhc3=> ?_) fun fhc3=> ?_
   ·refine sk ?_
    refine tn (sq (VRun.block (VRun.region (mO (T.os 1 2 0 (((List.replicate k1 false).map (Qp true)).length)) Y (kO (OM.buildSlice (l:= [(tB false)]) (VEvp.cons (VEv.bool false) VEvp.nil) Y (by decide) (bc (nofun) bn) (bc ((bc (Y) bn)) bn) (bc (Y) bn) JB zo4 (by kernel_rfl) Y (by rw [sz4];decide) sz4 (Nat.le_of_ble_eq_true Y)) (cO (B.append (rows:=((List.replicate k1 false).map (Qp true))) (rows2:= [[(tB false)]]) (rows3:=((List.replicate k1 false++ [false]).map (Qp true))) (VDst.own (tv (T.os 1 2 0 (((List.replicate k1 false).map (Qp true)).length)) Y) Y Y) (VSrc.own (tv (T.os 1 3 0 1) Y) Y Y JB (bc (bc Y bn) bn)) (by decide) JB sz4 (by decide) zo4 Y (of_decide_eq_true (by kernel_rfl)) (by (simp only [List.length_map,List.length_append,List.length_cons,List.length_nil,List.length_replicate,List.length_set,List.length_drop,List.length_take,YG] at *;omega)) ((List.map_append (f:=Qp true) (l₁:=List.replicate k1 false) (l₂:= [false])).symm)) (aO (T.os 1 4 0 (((List.replicate k1 false++ [false]).map (Qp true)).length)) Y (VRunO.nil (vinB.n (tn (VRun.region ?_)))))))))))
    refine mO (tN k1) Y (fO (Qy (tv (tN k1) Y) (VEv.int .i64 1) (by omega)) (aO (tN (k1+1)) Y (VRunO.nil (tn ?_))))
    have he9:(List.replicate k1 false++ [false])=List.replicate (k1+1) false:=by rw [List.replicate_succ']
    refine ⟨(k1+1:Nat),?_,?_,Wk.mk (fun k=>if k=2 then 4 else k) ?_ ?_ ?_⟩
    ·trivial
    ·omega
    ·exact (b2 (b2 (b2 (b2 (b2 (bc ⟨(congrArg (fun l_=>T.os 1 4 0 (List.map (Qp true) l_).length) he9),rfl⟩ (b2 bn)))))))
    ·exact (b3 (b3 (bc ⟨(congrArg (fun l_=>some (Obj.rows 1 (List.map (Qp true) l_))) he9),(lb Y),rfl⟩ bn)))
    ·exact nd Y
   have hk6:k1=g.Cells.size:=by omega
   have hq4:(fresh g i).length=(Qq g i).2.length:=by rw [Qa4,hpl]
   have hfr:Zv g ((List.replicate k1 false).set i true)=fresh g i:=by rw [fresh,hk6]
   have hrl:(Zv g ((List.replicate k1 false).set i true)).length=g.Cells.size:=by rw [hfr,Qa4]
   refine VRun.exit (vthn.e (vthn.e (vinB.e (tn (sr (lO (OL.loadOn (us:=(Qe false g)) (tv (T.op 0 0) Y) Y Q4 QX (lb Y) Y) (mO (T.os 1 2 0 (((List.replicate k1 false).map (Qp true)).length)) Y (mO (tN i) Y (cO (OC.callLoan (ts:= [(T.agg (Qe false g)),(T.os 1 0 0 (((List.replicate k1 false).map (Qp true)).length)),(tN i)]) (k:=2) (r:=(T.os 1 0 0 (((Zv g ((List.replicate k1 false).set i true)).map (Qp true)).length))) (rows:=((List.replicate k1 false).map (Qp true))) (rows':=((Zv g ((List.replicate k1 false).set i true)).map (Qp true))) Y (vc (tv (T.agg (Qe false g)) Y) (vc (tv (T.os 1 2 0 (((List.replicate k1 false).map (Qp true)).length)) Y) (vc (tv (tN i) Y) vn))) Y Y Y (LRes.os _ _) Y (Yb (fun _=>rfl) _) (Yb (fun _=>rfl) _) (QeN (n+1) g (List.replicate k1 false) i (by exact fhc1.2) (by (simp only [List.length_replicate];omega)) (by (simp only [List.length_replicate];omega)))) (aO (T.os 1 2 0 (((Zv g ((List.replicate k1 false).set i true)).map (Qp true)).length)) Y (nt ?_)))))))))))
   refine sr (fO (OF.assign (VEv.int .i64 0)) (nt (VRun.block ?_)))
   have he10:(Qq g i).2=Z1 (Qq g i).2 (fresh g i) 0:=by rfl
   refine VRun.loop (A:=Nat) (fun s_=> [(1,(T.op 0 0)),(2,(tN 0)),(3,(tN ((Qq g i).1+1))),(4,(T.os 1 2 0 (((Z1 (Qq g i).2 (fresh g i) s_).map (Qp true)).length))),(6,(tN i)),(7,(T.os 1 1 0 (((Zv g ((List.replicate k1 false).set i true)).map (Qp true)).length))),(9,(tN s_))]) (fun s_=>QY [(0,(Obj.cells (Qe false g))),(1,(Obj.rows 1 ((Zv g ((List.replicate k1 false).set i true)).map (Qp true)))),(2,(Obj.rows 1 ((Z1 (Qq g i).2 (fresh g i) s_).map (Qp true))))]) 3 (fun s_=>s_≤(Qq g i).2.length) (fun s_=>(Qq g i).2.length - s_) (0:Nat) ?_ (Wk.mk (fun k=>if k=1 then 2 else if k=2 then 1 else k) ?_ ?_ ?_) ?_
   ·(simp;done)
   ·exact (b2 (b2 (b2 (bc ⟨(congrArg (fun l_=>T.os 1 1 0 (List.map (Qp true) l_).length) he10),rfl⟩ (b2 (b2 (b2 bn)))))))
   ·exact (b3 (b3 (bc ⟨(congrArg (fun l_=>some (Obj.rows 1 (List.map (Qp true) l_))) he10),(lb Y),rfl⟩ bn)))
   ·exact nd Y
   rintro j (hI':j≤(Qq g i).2.length)
   show VRun _ _ _ [(1,(T.op 0 0)),(2,(tN 0)),(3,(tN ((Qq g i).1+1))),(4,(T.os 1 2 0 (((Z1 (Qq g i).2 (fresh g i) j).map (Qp true)).length))),(6,(tN i)),(7,(T.os 1 1 0 (((Zv g ((List.replicate k1 false).set i true)).map (Qp true)).length))),(9,(tN j))] (QY [(0,(Obj.cells (Qe false g))),(1,(Obj.rows 1 ((Zv g ((List.replicate k1 false).set i true)).map (Qp true)))),(2,(Obj.rows 1 ((Z1 (Qq g i).2 (fresh g i) j).map (Qp true))))]) 3 _
   have hJ1:=hI'
   have hzl:=Qeg hq4 hJ1
   refine sq (sr (mO (tN j) Y (mO (T.os 1 2 0 (((Z1 (Qq g i).2 (fresh g i) j).map (Qp true)).length)) Y (lO (B.lenO (m:=(Z1 (Qq g i).2 (fresh g i) j).length) (tv (T.os 1 2 0 (((Z1 (Qq g i).2 (fresh g i) j).map (Qp true)).length)) Y) JB (List.length_map ..)) (fO (Zb (tv (tN j) Y) (tv (tN ((Z1 (Qq g i).2 (fresh g i) j).length)) Y)) (nt ?_))))))
   refine cd (j<(Z1 (Qq g i).2 (fresh g i) j).length) Y (fun fhc4=> ?_) fun fhc4=> ?_
   ·refine sk ?_
    refine tn (sq (VRun.block (VRun.region (mO (T.os 1 2 0 (((Z1 (Qq g i).2 (fresh g i) j).map (Qp true)).length)) Y (mO (tN j) Y (mO (T.os 1 2 0 (((Z1 (Qq g i).2 (fresh g i) j).map (Qp true)).length)) Y (mO (tN j) Y ?_)))))))
    obtain ⟨x1,hx1⟩:∃x,(Z1 (Qq g i).2 (fresh g i) j)[j]? =some x:=⟨_,List.getElem?_eq_getElem (by omega)⟩
    have e3:x1=on (Qq g i).2 j:=QlG hq4 (by omega) hx1
    refine fO (B.indexAddrO (i:=j) (tv (T.os 1 2 0 (((Z1 (Qq g i).2 (fresh g i) j).map (Qp true)).length)) Y) (tv (tN j) Y) Y (by (simp only [List.length_map];omega)) JB sz4 if4) (lO (OL.loadP1 (t:=(tB x1)) (row:=(Qp true x1)) (tv (T.orp 1 2 j 0) Y) Y (Qt _ hx1) Y Y st4) (mO (tB x1) Y ?_))
    refine VRunO.joinB 5 [73,74,75,76] 77 (tB (decide ((x1=true)∨(((Zv g ((List.replicate k1 false).set i true))[j]?.getD false)=true)))) ?_ ?_
    ·refine Qdo x1 (fun hg72_11=> ?_) (fun hg72_11=> ?_)
     ·have fhg72_11:x1=true:=hg72_11
      refine QE 4 6 false 72 hg72_11 Y Y Y (fO (OF.pickT (VEv.tmpB Y hg72_11) (VEv.bool true)) (VRunO.nil ?_))
      exact jq (congrArg T.bool (jOT (dT _) hg72_11)) (js Y (js Y (js Y (js Y (jn)))))
     ·have fhg72_11:x1=false:=hg72_11
      refine gF hg72_11 Y Y (OF.move (tv (T.os 1 1 0 (((Zv g ((List.replicate k1 false).set i true)).map (Qp true)).length)) Y)) (gF hg72_11 Y Y (OF.move (tv (tN j) Y)) ?_)
      have hy12:(Zv g ((List.replicate k1 false).set i true))[j]? =some ((Zv g ((List.replicate k1 false).set i true))[j]?.getD false):=QaA false (by omega)
      refine gF hg72_11 Y Y (B.indexAddrO (i:=j) (tv (T.os 1 1 0 (((Zv g ((List.replicate k1 false).set i true)).map (Qp true)).length)) Y) (tv (tN j) Y) Y (by (simp only [List.length_map];omega)) JB sz4 if4) (gL hg72_11 Y Y (OL.loadP1 (t:=(tB ((Zv g ((List.replicate k1 false).set i true))[j]?.getD false))) (row:=(Qp true ((Zv g ((List.replicate k1 false).set i true))[j]?.getD false))) (tv (T.orp 1 1 j 0) Y) Y (Qt _ hy12) Y Y st4) (fO (OF.pickF (VEv.tmpB Y hg72_11) (tv (tB ((Zv g ((List.replicate k1 false).set i true))[j]?.getD false)) Y)) (VRunO.nil ?_)))
      exact jq (congrArg T.bool (jOF (dT _) hg72_11 (dT _))) (js Y (js Y (js Y (js Y (jn)))))
    refine fO (B.indexAddrO (i:=j) (tv (T.os 1 2 0 (((Z1 (Qq g i).2 (fresh g i) j).map (Qp true)).length)) Y) (tv (tN j) Y) Y (by (simp only [List.length_map];omega)) JB sz4 if4) (cO (B.storeP (us:= [(tB (decide ((x1=true)∨(((Zv g ((List.replicate k1 false).set i true))[j]?.getD false)=true))))]) (rows':=(((Z1 (Qq g i).2 (fresh g i) j).set j (decide ((x1=true)∨(((Zv g ((List.replicate k1 false).set i true))[j]?.getD false)=true)))).map (Qp true))) (row:=(Qp true x1)) (tv (T.orp 1 2 j 0) Y) (tv (tB (decide ((x1=true)∨(((Zv g ((List.replicate k1 false).set i true))[j]?.getD false)=true)))) Y) nofun Y (Qt _ hx1) Y (lb Y) if4 sz4 (bc Y bn) (by intro r hr t ht;obtain ⟨x,_,rfl⟩:=List.mem_map.1 hr;rw [Qhh] at ht;exact ZV (okBool.pl _ t ht)) (Ze Y)) (VRunO.nil (vinB.n (tn (VRun.region (mO (tN j) Y (fO (Qy (tv (tN j) Y) (VEv.int .i64 1) (by omega)) (aO (tN (j+1)) Y (VRunO.nil (tn ?_))))))))))
    have he13:((Z1 (Qq g i).2 (fresh g i) j).set j (decide ((x1=true)∨(((Zv g ((List.replicate k1 false).set i true))[j]?.getD false)=true))))=Z1 (Qq g i).2 (fresh g i) (j+1):=by (refine Qjp hq4 (by omega) ?_;rw [e3,hfr];exact orB _ _)
    refine ⟨(j+1:Nat),?_,?_,Wk.mk (fun k=>k) ?_ ?_ ?_⟩
    ·omega
    ·omega
    ·exact (b2 (b2 (b2 (bc ⟨(congrArg (fun n_=>T.os 1 2 0 n_) (show ((Z1 (Qq g i).2 (fresh g i) j).map (Qp true)).length=((Z1 (Qq g i).2 (fresh g i) (j+1)).map (Qp true)).length from (by (simp only [List.length_map,List.length_set];rw [Qeg hq4 hJ1,Qeg hq4 (by omega)])))),rfl⟩ (b2 (b2 (b2 bn)))))))
    ·exact (b3 (b3 (bc ⟨(congrArg (fun l_=>some (Obj.rows 1 (List.map (Qp true) l_))) he13),(lb Y),rfl⟩ bn)))
    ·exact nd Y
   have hq5:¬j<(Qq g i).2.length:=by omega
   refine VRun.exit (vthn.e (vthn.e (vinB.e (vinB.n (tn (VRun.region (mO (tN i) Y (fO (Qy (tv (tN i) Y) (VEv.int .i64 1) (by omega)) (aO (tN (i+1)) Y (VRunO.nil (tn ?_)))))))))))
   have he14:Z1 (Qq g i).2 (fresh g i) j=(Qq g (i+1)).2:=by (rw [q1.2];exact Qi6 hq4 hq5)
   refine ⟨(i+1:Nat),?_,?_,Wk.mk (fun k=>if k=1 then 2 else k) ?_ ?_ ?_⟩
   ·exact ⟨by omega, .inl fhc1.2⟩
   ·omega
   ·exact (b2 (b2 (bc ⟨(congrArg (T.int .i64) (show ((((Qq g i).1+1):Nat):Int)=(((Qq g (i+1)).1:Nat):Int) from (by omega))),rfl⟩ (bc ⟨(congrArg (fun l_=>T.os 1 2 0 (List.map (Qp true) l_).length) he14),rfl⟩ (b2 bn)))))
   ·exact (b3 (bc ⟨(congrArg (fun l_=>some (Obj.rows 1 (List.map (Qp true) l_))) he14),(lb Y),rfl⟩ bn))
   ·exact nd Y
  have q0:¬QdE g (Qq g i).2 i:=fun h=>fhc2 ⟨h.1,by have:=h.2;unfold on at this;rw [this];rfl⟩
  refine sk (vinB.n (tn (VRun.region (mO (tN i) Y (fO (Qy (tv (tN i) Y) (VEv.int .i64 1) (by omega)) (aO (tN (i+1)) Y (VRunO.nil (tn ?_))))))))
  have he15:(Qq g i).2=(Qq g (i+1)).2:=by (rw [Qb0 q0];done)
  refine ⟨(i+1:Nat),?_,?_,Wk.mk (fun k=>k) ?_ ?_ ?_⟩
  ·exact ⟨by omega, .inl fhc1.2⟩
  ·omega
  ·exact (b2 (b2 (bc ⟨(congrArg (T.int .i64) (show (((Qq g i).1:Nat):Int)=(((Qq g (i+1)).1:Nat):Int) from (by (rw [Qb0 q0];done)))),rfl⟩ (bc ⟨(congrArg (fun l_=>T.os 1 1 0 (List.map (Qp true) l_).length) he15),rfl⟩ (b2 bn)))))
  ·exact (b3 (bc ⟨(congrArg (fun l_=>some (Obj.rows 1 (List.map (Qp true) l_))) he15),(lb Y),rfl⟩ bn))
  ·exact nd Y
 refine VRun.exit (vthn.e (vthn.e (vinB.e (tn (sr (mO (tN ((Qq g i).1)) Y (aO (tN ((Qq g i).1)) Y (nt (rt (vi (n':=(((Qq g i).1:Nat):Int)) Y ?_))))))))))
 exact congrArg (fun x:Nat=>(x:Int)) (Qg3 hI1 hI'.2 fhc1)
noncomputable section
def inG (g:D.Grid) (r c:Int):Prop:=(0≤r∧r<g.Rows)∧(0≤c∧c<g.Cols)
def Z2 (g:D.Grid) (r c:Int):Nat:=Int.toNat (r*g.Cols+c)
def QmU (g:D.Grid) (m:List Bool) (r c:Int):Prop:=inG g r c∧QA g.Cells (Z2 g r c)=46∧on m (Z2 g r c)=false
instance (g:D.Grid) (m:List Bool) (r c:Int):Decidable (QmU g m r c):=Classical.propDecidable _
def Jh : Nat→D.Grid→List Bool→Int→Int→List Bool
 | 0,_,m,_,_=>m
 | d+1,g,m,r,c=>if QmU g m r c then Jh d g (Jh d g (Jh d g (Jh d g (m.set (Z2 g r c) true) (r - 1) c) (r+1) c) r (c - 1)) r (c+1) else m
theorem Qdx {g:D.Grid} {r c:Int} (hg:gridOk g) (h1:0≤r∧r<g.Rows) (h2:0≤c∧c<g.Cols):(0≤r*g.Cols∧r*g.Cols≤36)∧0≤r*g.Cols+c∧r*g.Cols+c<((g.Cells.size:Nat):Int):=by
 have hs:=hg.2.2.1
 have hz:=hg.size
 have e1:0≤r*g.Cols:=Int.mul_nonneg h1.1 (by omega)
 have e2:(r+1)*g.Cols≤g.Rows*g.Cols:=Int.mul_le_mul_of_nonneg_right (by omega) (by omega)
 rw [Int.add_mul,Int.one_mul] at e2
 omega
theorem Y3 {g:D.Grid} (hg:gridOk g) (a b:Nat):Z2 g ((a:Nat):Int) ((b:Nat):Int)=a*wG g+b:=by
 obtain ⟨w,hw⟩:=Int.eq_ofNat_of_zero_le (show 0≤g.Cols by have:=hg.2.1;omega)
 unfold Z2 wG
 rw [hw]
 show Int.toNat (((a:Nat):Int)*((w:Nat):Int)+((b:Nat):Int))=a*w+b
 rw [← Int.natCast_mul,← Int.natCast_add,Int.toNat_natCast]
theorem Qmg {g:D.Grid} (hg:gridOk g):g.Cells.size=g.Rows.toNat*wG g:=by
 obtain ⟨⟨a1,a2⟩,⟨b1,b2⟩,hs,_⟩:=hg
 obtain ⟨w,hw⟩:=Int.eq_ofNat_of_zero_le (show 0≤g.Cols by omega)
 obtain ⟨r,hr⟩:=Int.eq_ofNat_of_zero_le (show 0≤g.Rows by omega)
 unfold wG
 rw [hw,hr] at hs ⊢
 exact_mod_cast hs
theorem QhV {g:D.Grid} {r c:Int} (hg:gridOk g) (h:inG g r c):∃a b:Nat,r=a∧c=b∧a<g.Rows.toNat∧b<wG g:=by
 obtain ⟨⟨h1,h2⟩,h3,h4⟩:=h
 exact ⟨r.toNat,c.toNat,by omega,by omega,by omega,by unfold wG;omega⟩
theorem Qn9 {g:D.Grid} {r c r' c':Int} (hg:gridOk g) (h:inG g r c) (h':inG g r' c') (hn:(r'=r∧(c'=c+1∨c'=c - 1))∨(c'=c∧(r'=r+1∨r'=r - 1))):adj g (Z2 g r c) (Z2 g r' c'):=by
 obtain ⟨a,b,rfl,rfl,ha,hb⟩:=QhV hg h
 obtain ⟨a',b',rfl,rfl,ha',hb'⟩:=QhV hg h'
 rw [Y3 hg,Y3 hg]
 have hm:(a*wG g+b) % wG g=b:=by rw [Nat.mul_comm,Nat.mul_add_mod,Nat.mod_eq_of_lt hb]
 have hm':(a'*wG g+b') % wG g=b':=by rw [Nat.mul_comm,Nat.mul_add_mod,Nat.mod_eq_of_lt hb']
 rcases hn with ⟨h1,h2 | h2⟩ | ⟨h1,h2 | h2⟩
 ·obtain rfl:a'=a:=by omega
  exact .inl ⟨by omega,by rw [hm];omega⟩
 ·obtain rfl:a'=a:=by omega
  exact .inr (.inl ⟨by omega,by rw [hm'];omega⟩)
 ·obtain rfl:b'=b:=by omega
  obtain rfl:a'=a+1:=by omega
  exact .inr (.inr (.inl (by rw [Nat.add_mul,Nat.one_mul];omega)))
 ·obtain rfl:b'=b:=by omega
  obtain rfl:a=a'+1:=by omega
  exact .inr (.inr (.inr (by rw [Nat.add_mul,Nat.one_mul];omega)))
theorem QkA {g:D.Grid} {r c:Int} {y:Nat} (hg:gridOk g) (h:inG g r c) (hy:y<g.Cells.size) (ha:adj g (Z2 g r c) y) :
  (inG g (r - 1) c∧y=Z2 g (r - 1) c)∨(inG g (r+1) c∧y=Z2 g (r+1) c)∨(inG g r (c - 1)∧y=Z2 g r (c - 1))∨(inG g r (c+1)∧y=Z2 g r (c+1)):=by
 have hsz:=Qmg hg
 obtain ⟨⟨h1,h2⟩,h3,h4⟩:=h
 obtain ⟨a,b,rfl,rfl,ha',hb⟩:=QhV hg ⟨⟨h1,h2⟩,h3,h4⟩
 rw [Y3 hg] at ha
 have hm:(a*wG g+b) % wG g=b:=by rw [Nat.mul_comm,Nat.mul_add_mod,Nat.mod_eq_of_lt hb]
 have hw:((wG g:Nat):Int)=g.Cols:=by have:=hg.2.1;unfold wG;omega
 rcases ha with ⟨e1,e2⟩ | ⟨e1,e2⟩ | e1 | e1
 ·rw [hm] at e2
  refine .inr (.inr (.inr ⟨⟨⟨h1,h2⟩,by omega,by omega⟩,?_⟩))
  rw [show ((b:Nat):Int)+1=((b+1:Nat):Int) by omega,Y3 hg];omega
 ·have hb1:1≤b:=by
   rcases Nat.eq_zero_or_pos b with h0 | h0
   ·subst h0
    exfalso
    have ha0:0<a:=by
     rcases Nat.eq_zero_or_pos a with g0 | g0
     ·subst g0;omega
     ·exact g0
    obtain ⟨a1,rfl⟩:∃a1,a=a1+1:=⟨a - 1,by omega⟩
    have e3:y=a1*wG g+(wG g - 1):=by rw [Nat.add_mul,Nat.one_mul] at e1;omega
    rw [e3,Nat.mul_comm,Nat.mul_add_mod,Nat.mod_eq_of_lt (by omega)] at e2
    omega
   ·exact h0
  refine .inr (.inr (.inl ⟨⟨⟨h1,h2⟩,by omega,by omega⟩,?_⟩))
  rw [show ((b:Nat):Int) - 1=((b - 1:Nat):Int) by omega,Y3 hg];omega
 ·have ha1:a+1<g.Rows.toNat:=by
   rcases Nat.lt_or_ge (a+1) g.Rows.toNat with g0 | g0
   ·exact g0
   ·have e4:g.Rows.toNat=a+1:=by omega
    rw [e4,Nat.add_mul,Nat.one_mul] at hsz
    omega
  refine .inr (.inl ⟨⟨⟨by omega,by omega⟩,h3,h4⟩,?_⟩)
  rw [show ((a:Nat):Int)+1=((a+1:Nat):Int) by omega,Y3 hg,Nat.add_mul,Nat.one_mul];omega
 ·have ha0:0<a:=by
   rcases Nat.eq_zero_or_pos a with g0 | g0
   ·subst g0;omega
   ·exact g0
  obtain ⟨a1,rfl⟩:∃a1,a=a1+1:=⟨a - 1,by omega⟩
  refine .inl ⟨⟨⟨by omega,by omega⟩,h3,h4⟩,?_⟩
  rw [show ((a1+1:Nat):Int) - 1=((a1:Nat):Int) by omega,Y3 hg]
  rw [Nat.add_mul,Nat.one_mul] at e1;omega
theorem QbN {g:D.Grid} {r c:Int} (hg:gridOk g) (h:inG g r c):Z2 g r c<g.Cells.size:=by
 have:=Qdx hg h.1 h.2
 unfold Z2
 omega
theorem ZZ (g:D.Grid):∀d m r c,(Jh d g m r c).length=m.length
 | 0,m,r,c=>rfl
 | d+1,m,r,c=>by
  rw [Jh]
  split
  ·rw [ZZ g d,ZZ g d,ZZ g d,ZZ g d,List.length_set]
  ·rfl
theorem Ye {g:D.Grid} {j:Nat}:∀d m r c,on m j=true→on (Jh d g m r c) j=true
 | 0,m,r,c,h=>h
 | d+1,m,r,c,h=>by
  rw [Jh]
  split
  ·refine Ye d _ _ _ (Ye d _ _ _ (Ye d _ _ _ (Ye d _ _ _ ?_)))
   have hlt:=Qla h
   unfold on at h ⊢
   rw [List.getElem?_set]
   split
   ·rename_i e
    subst e
    rw [if_pos hlt];rfl
   ·exact h
  ·exact h
theorem Qhz {s:List Bool} {i:Nat}:(s.set i true).count false≤s.count false:=by
 rcases Nat.lt_or_ge i s.length with h | h
 ·rw [List.count_set h];simp
 ·rw [List.set_eq_of_length_le h];exact Nat.le_refl _
theorem JD (g:D.Grid):∀d m r c,(Jh d g m r c).count false≤m.count false
 | 0,m,r,c=>Nat.le_refl _
 | d+1,m,r,c=>by
  rw [Jh]
  split
  ·exact Nat.le_trans (JD g d _ _ _) (Nat.le_trans (JD g d _ _ _) (Nat.le_trans (JD g d _ _ _) (Nat.le_trans (JD g d _ _ _) Qhz)))
  ·exact Nat.le_refl _
theorem Qa8 {g:D.Grid} (hg:gridOk g) {P:Nat→Prop} (hP:∀i j,P i→adj g i j→j<g.Cells.size→QA g.Cells j=46→P j):∀d m r c,m.length=g.Cells.size→(inG g r c→QA g.Cells (Z2 g r c)=46→P (Z2 g r c))→∀j,on (Jh d g m r c) j=true→on m j=true∨P j
 | 0,m,r,c,_,_,j,hj=> .inl hj
 | d+1,m,r,c,hl,h,j,hj=>by
  rw [Jh] at hj
  split at hj
  ·rename_i hgo
   obtain ⟨g1,g2,g3⟩:=hgo
   have hv:=h g1 g2
   have nb:∀r' c',((r'=r∧(c'=c+1∨c'=c - 1))∨(c'=c∧(r'=r+1∨r'=r - 1)))→inG g r' c'→QA g.Cells (Z2 g r' c')=46→P (Z2 g r' c'):=fun r' c' hn hi hw=>hP _ _ hv (Qn9 hg g1 hi hn) (QbN hg hi) hw
   have l1:(m.set (Z2 g r c) true).length=g.Cells.size:=by rw [List.length_set,hl]
   rcases Qa8 hg hP d _ _ _ (by rw [ZZ,ZZ,ZZ,l1]) (nb r (c+1) (.inl ⟨rfl, .inl Y⟩)) j hj with hj | hj
   ·rcases Qa8 hg hP d _ _ _ (by rw [ZZ,ZZ,l1]) (nb r (c - 1) (.inl ⟨rfl, .inr Y⟩)) j hj with hj | hj
    ·rcases Qa8 hg hP d _ _ _ (by rw [ZZ,l1]) (nb (r+1) c (.inr ⟨rfl, .inl Y⟩)) j hj with hj | hj
     ·rcases Qa8 hg hP d _ _ _ l1 (nb (r - 1) c (.inr ⟨rfl, .inr Y⟩)) j hj with hj | hj
      ·rw [QdP (by rw [hl];exact QbN hg g1)] at hj
       split at hj
       ·rename_i e
        rw [e];exact .inr hv
       ·exact .inl hj
      ·exact .inr hj
     ·exact .inr hj
    ·exact .inr hj
   ·exact .inr hj
  ·exact .inl hj
theorem QfR {g:D.Grid} (hg:gridOk g) {d:Nat} {m:List Bool} {r c:Int} (hl:m.length=g.Cells.size) (hc:m.count false<d) (hi:inG g r c) (hw:QA g.Cells (Z2 g r c)=46):on (Jh d g m r c) (Z2 g r c)=true:=by
 cases d with
 | zero=>omega
 | succ d =>
  rw [Jh]
  split
  ·refine Ye d _ _ _ (Ye d _ _ _ (Ye d _ _ _ (Ye d _ _ _ ?_)))
   rw [QdP (by rw [hl];exact QbN hg hi),if_pos Y]
  ·rename_i hn
   cases ho:on m (Z2 g r c) with
   | true=>rfl
   | false=>exact absurd ⟨hi,hw,ho⟩ hn
theorem QfH {g:D.Grid} (hg:gridOk g):∀d m r c,m.length=g.Cells.size→m.count false<d→∀x y,on (Jh d g m r c) x=true→¬on m x=true→adj g x y→y<g.Cells.size→QA g.Cells y=46→on (Jh d g m r c) y=true
 | 0,m,r,c,_,hc,x,y,_,_,_,_,_=>by omega
 | d+1,m,r,c,hl,hc,x,y,hx,hnx,ha,hy,hw=>by
  rw [Jh] at hx ⊢
  by_cases hgo:QmU g m r c
  ·rw [if_pos hgo] at hx ⊢
   obtain ⟨g1,g2,g3⟩:=hgo
   have hcl:=QbN hg g1
   have l1:(m.set (Z2 g r c) true).length=g.Cells.size:=by rw [List.length_set,hl]
   have c1:(m.set (Z2 g r c) true).count false<d:=by
    have:=Qee (by rw [hl];exact hcl) g3
    omega
   generalize hm1:m.set (Z2 g r c) true=m1 at *
   have c2:=JD g d m1 (r - 1) c
   have l2:=ZZ g d m1 (r - 1) c
   generalize hm2:Jh d g m1 (r - 1) c=m2 at *
   have c3:=JD g d m2 (r+1) c
   have l3:=ZZ g d m2 (r+1) c
   generalize hm3:Jh d g m2 (r+1) c=m3 at *
   have c4:=JD g d m3 r (c - 1)
   have l4:=ZZ g d m3 r (c - 1)
   generalize hm4:Jh d g m3 r (c - 1)=m4 at *
   have up4:∀j,on m4 j=true→on (Jh d g m4 r (c+1)) j=true:=fun j h=>Ye d _ _ _ h
   have up3:∀j,on m3 j=true→on m4 j=true:=fun j h=>hm4▸Ye d _ _ _ h
   have up2:∀j,on m2 j=true→on m3 j=true:=fun j h=>hm3▸Ye d _ _ _ h
   by_cases h4:on m4 x=true
   ·by_cases h3:on m3 x=true
    ·by_cases h2:on m2 x=true
     ·by_cases h1:on m1 x=true
      ·have hxv:x=Z2 g r c:=by
        rw [← hm1,QdP (by rw [hl];exact hcl)] at h1
        split at h1
        ·assumption
        ·exact absurd h1 hnx
       subst hxv
       rcases QkA hg g1 hy ha with ⟨k1,rfl⟩ | ⟨k1,rfl⟩ | ⟨k1,rfl⟩ | ⟨k1,rfl⟩
       ·exact up4 _ (up3 _ (up2 _ (hm2▸QfR hg l1 c1 k1 hw)))
       ·exact up4 _ (up3 _ (hm3▸QfR hg (by omega) (by omega) k1 hw))
       ·exact up4 _ (hm4▸QfR hg (by omega) (by omega) k1 hw)
       ·exact QfR hg (by omega) (by omega) k1 hw
      ·exact up4 _ (up3 _ (up2 _ (hm2▸QfH hg d m1 (r - 1) c l1 c1 x y (hm2▸h2) h1 ha hy hw)))
     ·exact up4 _ (up3 _ (hm3▸QfH hg d m2 (r+1) c (by omega) (by omega) x y (hm3▸h3) h2 ha hy hw))
    ·exact up4 _ (hm4▸QfH hg d m3 r (c - 1) (by omega) (by omega) x y (hm4▸h4) h3 ha hy hw)
   ·exact QfH hg d m4 r (c+1) (by omega) (by omega) x y hx h4 ha hy hw
  ·rw [if_neg hgo] at hx
   exact absurd hx hnx
def Qka (g:D.Grid) (s:List Bool):Prop:=∀x y,on s x=true→adj g x y→y<g.Cells.size→QA g.Cells y=46→on s y=true
theorem QlW (n j:Nat):on (List.replicate n false) j=false:=by
 unfold on
 rw [List.getElem?_replicate]
 split<;>rfl
theorem QiU {g:D.Grid} {i j:Nat} (hi:i<g.Cells.size):on ((List.replicate g.Cells.size false).set i true) j=true↔j=i:=by
 rw [QdP (by simpa using hi),QlW]
 split<;>simp [*]
theorem QcD {g:D.Grid}:∀i,i≤g.Cells.size→Qka g (Qq g i).2
 | 0,_=>fun x y hx=>by rw [Qq,QlW] at hx;cases hx
 | i+1,hi=>by
  have ih:=QcD (g:=g) i (by omega)
  by_cases hn:QdE g (Qq g i).2 i
  ·rw [(Qeb hn).2]
   intro x y hx ha hy hw
   have hl:(fresh g i).length=(Qq g i).2.length:=by rw [Qa4,Jy]
   rw [QiY hl,Bool.or_eq_true] at hx ⊢
   rcases hx with hx | hx
   ·exact .inl (ih x y hx ha hy hw)
   ·exact .inr (on_reachL.2 (.step (on_reachL.1 hx) ha (by simpa using hy) hw))
  ·rw [Qb0 hn];exact ih
theorem Qm2 {g:D.Grid} (hg:gridOk g) {d i:Nat} {m:List Bool} (hl:m.length=g.Cells.size) (hi:i<g.Cells.size) (hc:m.count false<d) (hcl:Qka g m) (hw:QA g.Cells i=46) :
  Jh d g m ((i / wG g:Nat):Int) ((i % wG g:Nat):Int)=Qgl m (fresh g i):=by
 have hlf:(fresh g i).length=m.length:=by rw [Qa4,hl]
 have hci:Z2 g ((i / wG g:Nat):Int) ((i % wG g:Nat):Int)=i:=by
  rw [Y3 hg,Nat.mul_comm];exact Nat.div_add_mod i _
 obtain ⟨⟨q1,q2⟩,_⟩:=Qcc hg hi
 have hin:inG g ((i / wG g:Nat):Int) ((i % wG g:Nat):Int):=by
  have hA:=hg.1
  have hB:=hg.2.1
  unfold wG
  generalize i / g.Cols.toNat=q at *
  generalize i % g.Cols.toNat=m' at *
  exact ⟨⟨by omega,by omega⟩,by omega,by omega⟩
 refine Qml (by rw [ZZ,Qad hlf]) fun j=> ?_
 rw [QiY hlf,Bool.or_eq_true]
 constructor
 ·intro hj
  rcases Qa8 hg (P:=fun j=>Rch g ((List.replicate g.Cells.size false).set i true) j) (fun a b h ha hb hw=> .step h ha (by simpa using hb) hw) d m _ _ hl (fun _ _=>by rw [hci];exact .base ((QiU hi).2 Y)) j hj with h | h
  ·exact .inl h
  ·exact .inr (on_reachL.2 h)
 ·rintro (hj | hj)
  ·exact Ye d _ _ _ hj
  ·have hr:=on_reachL.1 hj
   clear hj
   induction hr with
   | base h =>
    obtain rfl:=(QiU hi).1 h
    have:=QfR hg hl hc hin (by rw [hci];exact hw)
    rwa [hci] at this
   | step h ha hb hw2 ih =>
    rename_i a b
    have hb':b<g.Cells.size:=by simpa using hb
    by_cases hma:on m a=true
    ·exact Ye d _ _ _ (hcl a b hma ha hb' hw2)
    ·exact QfH hg d m _ _ hl hc a b ih hma ha hb' hw2
end
theorem Qd3 (n:Nat) (nn:Nat) (g:D.Grid):∀(d:Nat) (met:List Bool) (r:Int) (c:Int) (hg:gridOk g) (hn:nn=g.Cells.size) (hl:met.length=nn) (hr: -1≤r∧r≤6) (hc: -1≤c∧c≤6) (hu:met.count false<d),Loan (Qs Tryz.prog (n+d+1)) 185 1 (List.map (Qp true) met) [(tI r),(tI c),(T.rp (Qe false g)),(T.vp [(T.os 1 0 0 nn)]),(vtT 185 (T.rp (Qe false g)) (T.vp [(T.os 1 0 0 nn)]) d)] (T.tup []) (List.map (Qp true) (Jh d g met r c)):=by
 intro d
 induction d with
 | zero=>intro met r c hg hn hl hr hc hu;exact absurd hu (Nat.not_lt_zero _)
 | succ d ih =>
 intro met r c hg hn hl hr hc hu
 refine Loan.intro (n:=n+d+1) (rs:= []) (j:=3) (pin:=(T.vp [(T.os 1 0 0 nn)])) Tryz.func185 Y Y Y (by kernel_rfl) Y (.vp _ _) .none (Yb (fun _=>rfl) _) (Yb (fun _=>rfl) _) (E0:= [(0,(tI r)),(1,(tI c)),(2,(T.rp (Qe false g))),(3,(T.vp [(T.os 1 0 0 nn)])),(4,(vtT 185 (T.rp (Qe false g)) (T.vp [(T.os 1 0 0 nn)]) (d+1)))]) Y ?_
 obtain ⟨hlim,hmx,hmax⟩:=QG
 have hsz:=hg.size
 have hA:=hg.1
 have hB:=hg.2.1
 refine sq (sr (mO (tI r) Y (lr (tI g.Rows) Y (lb Y) QaK Y QQ (cO (cS (vc (tv (tI r) Y) (vc (tv (tI g.Rows) Y) vn)) (ZO Y) (Jw (n+d+0) r g.Rows) Y Y) (fO (Q1 (tv (tB (decide (0≤r∧r<g.Rows))) Y)) (mO (tB (!(decide (0≤r∧r<g.Rows)))) Y ?_))))))
 refine VRunO.joinB 6 [13,14,15,16,17] 18 (tB (decide ((¬(0≤r∧r<g.Rows))∨(¬(0≤c∧c<g.Cols))))) ?_ ?_
 ·refine gn (0≤r∧r<g.Rows) (fun fhg12_1=> ?_) fun fhg12_1=> ?_
  ·refine QE 5 5 false 12 (ny fhg12_1) Y Y Y ?_
   refine fO (OF.pickT (VEv.tmpB Y (ny fhg12_1)) (VEv.bool true)) (VRunO.nil ?_)
   exact jq (congrArg T.bool (kOT fhg12_1)) (js Y (js Y (js Y (js Y (js Y (jn))))))
  ·refine gF (nz fhg12_1) Y Y (OF.move (tv (tI c) Y)) ?_
   refine glr (tI g.Cols) (nz fhg12_1) Y Y Y Y (lb Y) Zx Y QQ (VRunO.chain (VWant.on Y Y (nz fhg12_1)) (cS (vc (tv (tI c) Y) (vc (tv (tI g.Cols) Y) vn)) (ZO Y) (Jw (n+d+0) c g.Cols) Y Y) (gF (nz fhg12_1) Y Y (Q1 (tv (tB (decide (0≤c∧c<g.Cols))) Y)) (fO (OF.pickF (VEv.tmpB Y (nz fhg12_1)) (tv (tB (!(decide (0≤c∧c<g.Cols)))) Y)) (VRunO.nil ?_))))
   exact jq (congrArg T.bool (kOF (not_not_intro fhg12_1) dN)) (js Y (js Y (js Y (js Y (js Y (jn))))))
 refine mO (tB (decide ((¬(0≤r∧r<g.Rows))∨(¬(0≤c∧c<g.Cols))))) Y ?_
 refine VRunO.joinB 10 [20,21,22,23,24,25,26,27,28] 29 (tB (decide (((¬(0≤r∧r<g.Rows))∨(¬(0≤c∧c<g.Cols)))∨((met[(Int.toNat ((r*g.Cols)+c))]?.getD false)=true)))) ?_ ?_
 ·refine gw ((¬(0≤r∧r<g.Rows))∨(¬(0≤c∧c<g.Cols))) (fun fhg19_2=> ?_) fun fhg19_2=> ?_
  ·refine QE 9 12 false 19 (dy fhg19_2) Y Y Y ?_
   refine fO (OF.pickT (VEv.tmpB Y (dy fhg19_2)) (VEv.bool true)) (VRunO.nil ?_)
   exact jq (congrArg T.bool (kOT fhg19_2)) (js Y (js Y (js Y (js Y (js Y (js Y (js Y (js Y (js Y (jn))))))))))
  ·have hz:=Qdx hg (r:=r) (c:=c) (by omega) (by omega)
   refine gL (dz fhg19_2) Y Y (OL.loadV1 (t:=(T.os 1 0 0 nn)) (tv (T.vp [(T.os 1 0 0 nn)]) Y) Y QlU) (gF (dz fhg19_2) Y Y (OF.move (tv (tI r) Y)) (glr (tI g.Cols) (dz fhg19_2) Y Y Y Y (lb Y) Zx Y QQ (gF (dz fhg19_2) Y Y (B.mul (n:=(r*g.Cols)) (tv (tI r) Y) (tv (tI g.Cols) Y) (by (rw [Qx (by omega)];done))) (gF (dz fhg19_2) Y Y (OF.move (tv (tI c) Y)) (gF (dz fhg19_2) Y Y (B.add (n:=((r*g.Cols)+c)) (tv (tI (r*g.Cols)) Y) (tv (tI c) Y) (by (rw [Qx (by omega)];done))) ?_)))))
   have hy3:met[(Int.toNat ((r*g.Cols)+c))]? =some (met[(Int.toNat ((r*g.Cols)+c))]?.getD false):=QaA false (by omega)
   refine gF (dz fhg19_2) Y Y (B.indexAddrO (i:=(Int.toNat ((r*g.Cols)+c))) (tv (T.os 1 0 0 nn) Y) (tv (tI ((r*g.Cols)+c)) Y) (by omega) (by omega) JB sz4 if4) (gL (dz fhg19_2) Y Y (OL.loadP1 (t:=(tB (met[(Int.toNat ((r*g.Cols)+c))]?.getD false))) (row:=(Qp true (met[(Int.toNat ((r*g.Cols)+c))]?.getD false))) (tv (T.orp 1 0 (Int.toNat ((r*g.Cols)+c)) 0) Y) Y (Qt _ hy3) Y Y st4) (fO (OF.pickF (VEv.tmpB Y (dz fhg19_2)) (tv (tB (met[(Int.toNat ((r*g.Cols)+c))]?.getD false)) Y)) (VRunO.nil ?_)))
   exact jq (congrArg T.bool (kOF fhg19_2 (dT _))) (js Y (js Y (js Y (js Y (js Y (js Y (js Y (js Y (js Y (jn))))))))))
 refine mO (tB (decide (((¬(0≤r∧r<g.Rows))∨(¬(0≤c∧c<g.Cols)))∨((met[(Int.toNat ((r*g.Cols)+c))]?.getD false)=true)))) Y ?_
 refine VRunO.joinB 11 [31,32,33,34,35,36,37,38,39,40] 41 (tB (decide ((((¬(0≤r∧r<g.Rows))∨(¬(0≤c∧c<g.Cols)))∨((met[(Int.toNat ((r*g.Cols)+c))]?.getD false)=true))∨(¬(QA g.Cells (Int.toNat ((r*g.Cols)+c))=46))))) ?_ ?_
 ·refine gw (((¬(0≤r∧r<g.Rows))∨(¬(0≤c∧c<g.Cols)))∨((met[(Int.toNat ((r*g.Cols)+c))]?.getD false)=true)) (fun fhg30_4=> ?_) fun fhg30_4=> ?_
  ·refine QE 10 23 false 30 (dy fhg30_4) Y Y Y ?_
   refine fO (OF.pickT (VEv.tmpB Y (dy fhg30_4)) (VEv.bool true)) (VRunO.nil ?_)
   exact jq (congrArg T.bool (kOT fhg30_4)) (js Y (js Y (js Y (js Y (js Y (js Y (js Y (js Y (js Y (js Y (jn)))))))))))
  ·have hz:=Qdx hg (r:=r) (c:=c) (by omega) (by omega)
   refine glr (tS g.Cells) (dz fhg30_4) Y Y Y Y (lb Y) QN Y Yp (gF (dz fhg30_4) Y Y (OF.move (tv (tI r) Y)) (glr (tI g.Cols) (dz fhg30_4) Y Y Y Y (lb Y) Zx Y QQ (gF (dz fhg30_4) Y Y (B.mul (n:=(r*g.Cols)) (tv (tI r) Y) (tv (tI g.Cols) Y) (by (rw [Qx (by omega)];done))) (gF (dz fhg30_4) Y Y (OF.move (tv (tI c) Y)) (gF (dz fhg30_4) Y Y (B.add (n:=((r*g.Cols)+c)) (tv (tI (r*g.Cols)) Y) (tv (tI c) Y) (by (rw [Qx (by omega)];done))) ?_)))))
   have hb5:(Int.toNat ((r*g.Cols)+c))<g.Cells.size:=(by omega)
   refine gF (dz fhg30_4) Y Y (B.index (n:=(QA g.Cells (Int.toNat ((r*g.Cols)+c)))) (i:=(Int.toNat ((r*g.Cols)+c))) (tv (tS g.Cells) Y) (tv (tI ((r*g.Cols)+c)) Y) (by omega) hb5 U9 (Jc hb5)) (gF (dz fhg30_4) Y Y (xne (tv (T.int .u8 (QA g.Cells (Int.toNat ((r*g.Cols)+c)))) Y) (VEv.int .u8 46)) (fO (OF.pickF (VEv.tmpB Y (dz fhg30_4)) (tv (tB (!(decide (QA g.Cells (Int.toNat ((r*g.Cols)+c))=46)))) Y)) (VRunO.nil ?_)))
   exact jq (congrArg T.bool (kOF fhg30_4 dN)) (js Y (js Y (js Y (js Y (js Y (js Y (js Y (js Y (js Y (js Y (jn)))))))))))
 refine nt ?_
 refine cd ((((¬(0≤r∧r<g.Rows))∨(¬(0≤c∧c<g.Cols)))∨((met[(Int.toNat ((r*g.Cols)+c))]?.getD false)=true))∨(¬(QA g.Cells (Int.toNat ((r*g.Cols)+c))=46))) Y (fun fhc0=> ?_) fun fhc0=> ?_
 ·refine rt ?_
  refine tr ?_
  have hnew:met=Jh (d+1) g met r c:=by
   rw [Jh,if_neg];rintro ⟨h1,h2,h3⟩;rcases fhc0 with (h | h) | h;exact h.elim (fun h=>h h1.1) (fun h=>h h1.2);exact on_no.1 h3 h;exact h h2
  exact vloan.r 0 VRes.nil Y Y Y (congrArg (List.map (Qp true)) hnew)
 have hz:=Qdx hg (r:=r) (c:=c) (by omega) (by omega)
 have hin:inG g r c:=⟨by omega,by omega⟩
 have hgo:QmU g met r c:=⟨hin,by unfold Z2;omega,on_no.2 (fun h=>fhc0 (.inl (.inr h)))⟩
 have hct:=Qee (s:=met) (i:=Z2 g r c) (by rw [hl,hn];exact QbN hg hin) hgo.2.2
 unfold Z2 at hct
 have d1:=JD g d (met.set (Int.toNat (r*g.Cols+c)) true) (r - 1) c
 have d2:=JD g d (Jh d g (met.set (Int.toNat (r*g.Cols+c)) true) (r - 1) c) (r+1) c
 have d3:=JD g d (Jh d g (Jh d g (met.set (Int.toNat (r*g.Cols+c)) true) (r - 1) c) (r+1) c) r (c - 1)
 refine sk (tn (sr (lO (OL.loadV1 (t:=(T.os 1 0 0 nn)) (tv (T.vp [(T.os 1 0 0 nn)]) Y) Y QlU) (mO (tI r) Y (lr (tI g.Cols) Y (lb Y) Zx Y QQ (fO (B.mul (n:=(r*g.Cols)) (tv (tI r) Y) (tv (tI g.Cols) Y) (by (rw [Qx (by omega)];done))) (mO (tI c) Y (fO (B.add (n:=((r*g.Cols)+c)) (tv (tI (r*g.Cols)) Y) (tv (tI c) Y) (by (rw [Qx (by omega)];done))) ?_))))))))
 obtain ⟨x1,hx1⟩:∃x,met[(Int.toNat ((r*g.Cols)+c))]? =some x:=⟨_,List.getElem?_eq_getElem (by omega)⟩
 refine fO (B.indexAddrO (i:=(Int.toNat ((r*g.Cols)+c))) (tv (T.os 1 0 0 nn) Y) (tv (tI ((r*g.Cols)+c)) Y) (by omega) (by omega) JB sz4 if4) (cO (B.storeP (us:= [(tB true)]) (rows':=((met.set (Int.toNat ((r*g.Cols)+c)) true).map (Qp true))) (row:=(Qp true x1)) (tv (T.orp 1 0 (Int.toNat ((r*g.Cols)+c)) 0) Y) (VEv.bool true) nofun Y (Qt _ hx1) Y (lb Y) if4 sz4 (bc Y bn) (by intro r hr t ht;obtain ⟨x,_,rfl⟩:=List.mem_map.1 hr;rw [Qhh] at ht;exact ZV (okBool.pl _ t ht)) (Ze Y)) (nt (sr (lO (OL.loadV1 (t:=(T.fn 185 [(T.rp (Qe false g)),(T.vp [(T.os 1 0 0 nn)]),(vtT 185 (T.rp (Qe false g)) (T.vp [(T.os 1 0 0 nn)]) d)])) (tv (vtT 185 (T.rp (Qe false g)) (T.vp [(T.os 1 0 0 nn)]) (d+1)) Y) Y Qie) (mO (tI r) Y (fO (B.sub (n:=(r - 1)) (tv (tI r) Y) (VEv.int .i64 1) (by (rw [Qx (by omega)];done))) (mO (tI c) Y (cO (OC.callvLoan (ts:= [(tI (r - 1)),(tI c),(T.rp (Qe false g)),(T.vp [(T.os 1 0 0 nn)]),(vtT 185 (T.rp (Qe false g)) (T.vp [(T.os 1 0 0 nn)]) d)]) (k:=0) (r:=(T.tup [])) (rows:=((met.set (Int.toNat ((r*g.Cols)+c)) true).map (Qp true))) (rows':=((Jh d g (met.set (Int.toNat ((r*g.Cols)+c)) true) (r - 1) c).map (Qp true))) Y Y (vc (tv (tI (r - 1)) Y) (vc (tv (tI c) Y) vn)) Y (by simp only [QaH,ren,Qck,List.cons_append,List.nil_append]) (tl Y (tl Y (tl Y (tl Y (tl (QdL Y Y _) Y))))) LRes.none Y (Yb (fun _=>rfl) _) (Yb (fun _=>rfl) _) (ih (met.set (Int.toNat ((r*g.Cols)+c)) true) (r - 1) c (by assumption) (by assumption) (by (simp only [ZZ,List.length_set];omega)) (by omega) (by assumption) (by omega))) (nt (sr (lO (OL.loadV1 (t:=(T.fn 185 [(T.rp (Qe false g)),(T.vp [(T.os 1 0 0 nn)]),(vtT 185 (T.rp (Qe false g)) (T.vp [(T.os 1 0 0 nn)]) d)])) (tv (vtT 185 (T.rp (Qe false g)) (T.vp [(T.os 1 0 0 nn)]) (d+1)) Y) Y Qie) ?_)))))))))))
 refine mO (tI r) Y (fO (B.add (n:=(r+1)) (tv (tI r) Y) (VEv.int .i64 1) (by (rw [Qx (by omega)];done))) (mO (tI c) Y (cO (OC.callvLoan (ts:= [(tI (r+1)),(tI c),(T.rp (Qe false g)),(T.vp [(T.os 1 0 0 nn)]),(vtT 185 (T.rp (Qe false g)) (T.vp [(T.os 1 0 0 nn)]) d)]) (k:=0) (r:=(T.tup [])) (rows:=((Jh d g (met.set (Int.toNat ((r*g.Cols)+c)) true) (r - 1) c).map (Qp true))) (rows':=((Jh d g (Jh d g (met.set (Int.toNat ((r*g.Cols)+c)) true) (r - 1) c) (r+1) c).map (Qp true))) Y Y (vc (tv (tI (r+1)) Y) (vc (tv (tI c) Y) vn)) Y (by simp only [QaH,ren,Qck,List.cons_append,List.nil_append]) (tl Y (tl Y (tl Y (tl Y (tl (QdL Y Y _) Y))))) LRes.none Y (Yb (fun _=>rfl) _) (Yb (fun _=>rfl) _) (ih (Jh d g (met.set (Int.toNat ((r*g.Cols)+c)) true) (r - 1) c) (r+1) c (by assumption) (by assumption) (by (simp only [ZZ,List.length_set];omega)) (by omega) (by assumption) (by omega))) (nt (sr (lO (OL.loadV1 (t:=(T.fn 185 [(T.rp (Qe false g)),(T.vp [(T.os 1 0 0 nn)]),(vtT 185 (T.rp (Qe false g)) (T.vp [(T.os 1 0 0 nn)]) d)])) (tv (vtT 185 (T.rp (Qe false g)) (T.vp [(T.os 1 0 0 nn)]) (d+1)) Y) Y Qie) (mO (tI r) Y (mO (tI c) Y (fO (B.sub (n:=(c - 1)) (tv (tI c) Y) (VEv.int .i64 1) (by (rw [Qx (by omega)];done))) (cO (OC.callvLoan (ts:= [(tI r),(tI (c - 1)),(T.rp (Qe false g)),(T.vp [(T.os 1 0 0 nn)]),(vtT 185 (T.rp (Qe false g)) (T.vp [(T.os 1 0 0 nn)]) d)]) (k:=0) (r:=(T.tup [])) (rows:=((Jh d g (Jh d g (met.set (Int.toNat ((r*g.Cols)+c)) true) (r - 1) c) (r+1) c).map (Qp true))) (rows':=((Jh d g (Jh d g (Jh d g (met.set (Int.toNat ((r*g.Cols)+c)) true) (r - 1) c) (r+1) c) r (c - 1)).map (Qp true))) Y Y (vc (tv (tI r) Y) (vc (tv (tI (c - 1)) Y) vn)) Y (by simp only [QaH,ren,Qck,List.cons_append,List.nil_append]) (tl Y (tl Y (tl Y (tl Y (tl (QdL Y Y _) Y))))) LRes.none Y (Yb (fun _=>rfl) _) (Yb (fun _=>rfl) _) (ih (Jh d g (Jh d g (met.set (Int.toNat ((r*g.Cols)+c)) true) (r - 1) c) (r+1) c) r (c - 1) (by assumption) (by assumption) (by (simp only [ZZ,List.length_set];omega)) (by assumption) (by omega) (by omega))) (nt ?_)))))))))))
 refine VRun.region (lO (OL.loadV1 (t:=(T.fn 185 [(T.rp (Qe false g)),(T.vp [(T.os 1 0 0 nn)]),(vtT 185 (T.rp (Qe false g)) (T.vp [(T.os 1 0 0 nn)]) d)])) (tv (vtT 185 (T.rp (Qe false g)) (T.vp [(T.os 1 0 0 nn)]) (d+1)) Y) Y Qie) (mO (tI r) Y (mO (tI c) Y (fO (B.add (n:=(c+1)) (tv (tI c) Y) (VEv.int .i64 1) (by (rw [Qx (by omega)];done))) (cO (OC.callvLoan (ts:= [(tI r),(tI (c+1)),(T.rp (Qe false g)),(T.vp [(T.os 1 0 0 nn)]),(vtT 185 (T.rp (Qe false g)) (T.vp [(T.os 1 0 0 nn)]) d)]) (k:=0) (r:=(T.tup [])) (rows:=((Jh d g (Jh d g (Jh d g (met.set (Int.toNat ((r*g.Cols)+c)) true) (r - 1) c) (r+1) c) r (c - 1)).map (Qp true))) (rows':=((Jh d g (Jh d g (Jh d g (Jh d g (met.set (Int.toNat ((r*g.Cols)+c)) true) (r - 1) c) (r+1) c) r (c - 1)) r (c+1)).map (Qp true))) Y Y (vc (tv (tI r) Y) (vc (tv (tI (c+1)) Y) vn)) Y (by simp only [QaH,ren,Qck,List.cons_append,List.nil_append]) (tl Y (tl Y (tl Y (tl Y (tl (QdL Y Y _) Y))))) LRes.none Y (Yb (fun _=>rfl) _) (Yb (fun _=>rfl) _) (ih (Jh d g (Jh d g (Jh d g (met.set (Int.toNat ((r*g.Cols)+c)) true) (r - 1) c) (r+1) c) r (c - 1)) r (c+1) (by assumption) (by assumption) (by (simp only [ZZ,List.length_set];omega)) (by assumption) (by omega) (by omega))) (VRunO.nil ?_))))))
 have hnew:Jh d g (Jh d g (Jh d g (Jh d g (met.set (Int.toNat ((r*g.Cols)+c)) true) (r - 1) c) (r+1) c) r (c - 1)) r (c+1)=Jh (d+1) g met r c:=by
  rw [Jh,if_pos hgo];rfl
 exact vloan.n 0 VRes.nil Y Y Y (congrArg (List.map (Qp true)) hnew)
theorem Qf5 (n:Nat) (g:D.Grid) (hc:g.Cells.size≤mx):Pure (Qs Tryz.prog (n+39)) 161 [(T.agg (Qe false g))] (tN (Yd g)):=by
 refine Pure.intro (rs:= [ResultVar.tmp 2]) Tryz.func161 Y Y Y (E0:= [(0,(T.agg (Qe false g)))]) Y ?_
 obtain ⟨hlim,hmx,hmax⟩:=QG
 refine sr (kO (B.box (ts:=(Qe false g)) (tv (T.agg (Qe false g)) Y) nofun Y) (fO (OF.assign (VEv.int .i64 0)) (nt (sq (sr (lO (OL.loadOn (us:=(Qe false g)) (tv (T.op 0 0) Y) Y Q4 QX (lb Y) Y) (cO (cS (vc (tv (T.agg (Qe false g)) Y) vn) (LendL.cons (lg Qw) ln) (Yr (n+36) g (by omega)) Y Y) (fO (Q1 (tv (tB (decide (gridOk g))) Y)) (nt ?_)))))))))
 refine cn (gridOk g) Y (fun fhc0=> ?_) fun fhc0=> ?_
 ·refine sr ?_
  refine fO (OF.assign (VEv.int .i64 0)) (nt (rt (tr (vi (n':=0) Y ?_))))
  rw [Yd,if_neg (by simpa using fhc0)];rfl
 have hgo:gridOk g:=by simpa using fhc0
 have hsz:=hgo.size
 have hA:=hgo.1
 have hB:=hgo.2.1
 refine sk (tn (sr (lf (tS g.Cells) Y QN Y Y Yp (lO (B.lenS (tv (tS g.Cells) Y) U9) (kO (B.makeZ (n:=g.Cells.size) (m:=((List.replicate g.Cells.size false).map (Qp true)).length) (rows:=((List.replicate g.Cells.size false).map (Qp true))) (zr:=(Qp true false)) (tv (tN g.Cells.size) Y) (tv (tN g.Cells.size) Y) Y JB zo4 zc4 Y (by rw [sz4];decide) (by omega) (of_decide_eq_true (by kernel_rfl)) (Z0.bool Z0.nil) sz4 (List.map_replicate ..).symm (by rw [List.length_map,List.length_replicate])) (kO (B.alloc (t:=T.nils) (ts:= [T.nils]) QoG Qop nofun (fun _=> .nils) Y) (cO (B.storeW (us:= [(T.os 1 1 0 (((List.replicate g.Cells.size false).map (Qp true)).length))]) (tv (T.op 2 0) Y) (tv (T.os 1 1 0 (((List.replicate g.Cells.size false).map (Qp true)).length)) Y) nofun Y Y Y Qov QoJ (bc Y bn)) (nt (sr (kO (B.alloc (t:=T.fn0) (ts:= [T.fn0]) (show Zk Tryz.prog 178=some .nilFunc by kernel_rfl) (show closedV .nilFunc=true by kernel_rfl) nofun (fun _=> .fn0) Y) (nt ?_)))))))))))
 refine sr (fO (OF.makeFunc (vc (tv (T.op 0 0) Y) (vc (tv (T.op 2 0) Y) (vc (tv (T.op 3 0) Y) vn)))) (cO (B.storeW (us:= [(T.fn 185 [(T.op 0 0),(T.op 2 0),(T.op 3 0)])]) (tv (T.op 3 0) Y) (tv (T.fn 185 [(T.op 0 0),(T.op 2 0),(T.op 3 0)]) Y) nofun Y Y Y QoA Qos (bc Y bn)) (nt (VRun.wk (Wk.recv (sz:=1) (k:=1) (us:=(Qe false g)) (f:=185) 38 (d1:=1) (d2:=3) (d3:=4) Y Y Y Y Y Y (by decide) (by decide) (by decide) (bc Y (bc Y (bc Y bn)))) (sr (fO (OF.assign (VEv.int .i64 0)) (nt (sq (sr (lr (tS g.Cells) Y (lb Y) QN Y Yp (lO (B.lenS (tv (tS g.Cells) Y) U9) ?_)))))))))))
 refine fO (OF.move (VEv.int .i64 0)) (nt (VRun.block ?_))
 have he1:(List.replicate g.Cells.size false)=(Qq g 0).2:=by rfl
 refine VRun.loop (A:=Nat) (fun s_=> [(1,(T.rp (Qe false g))),(2,(tN 0)),(3,(T.vp [(T.os 1 0 0 (((List.replicate g.Cells.size false).map (Qp true)).length))])),(4,(vtT 185 (T.rp (Qe false g)) (T.vp [(T.os 1 0 0 (((List.replicate g.Cells.size false).map (Qp true)).length))]) 38)),(5,(tN ((Qq g s_).1))),(17,(tN g.Cells.size)),(18,(tN s_))]) (fun s_=>QY [(0,(Obj.rows 1 (((Qq g s_).2).map (Qp true))))]) 1 (fun s_=>s_≤g.Cells.size) (fun s_=>g.Cells.size - s_) (0:Nat) ?_ (Wk.mk (fun k=>if k=0 then 1 else k) ?_ ?_ ?_) ?_
 ·(simp;done)
 ·exact (b2 (b2 (b2 (b2 (bc ⟨(congrArg (T.int .i64) (show 0=(((Qq g 0).1:Nat):Int) from (by rfl))),rfl⟩ (b2 (b2 bn)))))))
 ·exact (bc ⟨(congrArg (fun l_=>some (Obj.rows 1 (List.map (Qp true) l_))) he1),(lb Y),rfl⟩ bn)
 ·exact nd Y
 rintro i (hI':i≤g.Cells.size)
 show VRun _ _ _ [(1,(T.rp (Qe false g))),(2,(tN 0)),(3,(T.vp [(T.os 1 0 0 (((List.replicate g.Cells.size false).map (Qp true)).length))])),(4,(vtT 185 (T.rp (Qe false g)) (T.vp [(T.os 1 0 0 (((List.replicate g.Cells.size false).map (Qp true)).length))]) 38)),(5,(tN ((Qq g i).1))),(17,(tN g.Cells.size)),(18,(tN i))] (QY [(0,(Obj.rows 1 (((Qq g i).2).map (Qp true))))]) 1 _
 have hI1:=hI'
 have hpl:=Jy g i
 have hpn:=QdT g i
 refine sr (fO (Zb (tv (tN i) Y) (tv (tN g.Cells.size) Y)) (nt (sq ?_)))
 refine cd (i<g.Cells.size) Y (fun fhc1=> ?_) fun fhc1=> ?_
 ·refine sk ?_
  refine tn (sq (VRun.block (sr (mO (tN i) Y (aO (tN i) Y (nt (sr (lr (tS g.Cells) Y (lb Y) QN Y Yp (mO (tN i) Y ?_)))))))))
  have hb2:i<g.Cells.size:=(by omega)
  refine fO (xix (tv (tS g.Cells) Y) (tv (tN i) Y) hb2 U9) (fO (Y9 (tv (T.int .u8 (QA g.Cells i)) Y) (VEv.int .u8 46)) (mO (tB (decide (QA g.Cells i=46))) Y ?_))
  refine VRunO.joinB 6 [27,28,29,30,31] 32 (tB (decide ((QA g.Cells i=46)∧((!(((Qq g i).2)[i]?.getD false))=true)))) ?_ ?_
  ·refine gw (QA g.Cells i=46) (fun fhg26_3=> ?_) fun fhg26_3=> ?_
   ·refine gL (dy fhg26_3) Y Y (OL.loadV1 (t:=(T.os 1 0 0 (((List.replicate g.Cells.size false).map (Qp true)).length))) (tv (T.vp [(T.os 1 0 0 (((List.replicate g.Cells.size false).map (Qp true)).length))]) Y) Y QlU) ?_
    refine gF (dy fhg26_3) Y Y (OF.move (tv (tN i) Y)) ?_
    have hy4:((Qq g i).2)[i]? =some (((Qq g i).2)[i]?.getD false):=QaA false (by omega)
    refine gF (dy fhg26_3) Y Y (B.indexAddrO (i:=i) (tv (T.os 1 0 0 (((List.replicate g.Cells.size false).map (Qp true)).length)) Y) (tv (tN i) Y) Y (by (simp only [List.length_map,List.length_replicate];omega)) JB sz4 if4) (gL (dy fhg26_3) Y Y (OL.loadP1 (t:=(tB (((Qq g i).2)[i]?.getD false))) (row:=(Qp true (((Qq g i).2)[i]?.getD false))) (tv (T.orp 1 0 i 0) Y) Y (Qt _ hy4) Y Y st4) (gF (dy fhg26_3) Y Y (Q1 (tv (tB (((Qq g i).2)[i]?.getD false)) Y)) (fO (OF.pickT (VEv.tmpB Y (dy fhg26_3)) (tv (tB (!(((Qq g i).2)[i]?.getD false))) Y)) (VRunO.nil ?_))))
    exact jq (congrArg T.bool (kAT fhg26_3 (dT _))) (js Y (js Y (js Y (js Y (js Y (jn))))))
   ·refine QE 5 5 true 26 (dz fhg26_3) Y Y Y ?_
    refine fO (OF.pickF (VEv.tmpB Y (dz fhg26_3)) (VEv.bool false)) (VRunO.nil ?_)
    exact jq (congrArg T.bool (kAF fhg26_3)) (js Y (js Y (js Y (js Y (js Y (jn))))))
  refine nt ?_
  refine cd ((QA g.Cells i=46)∧((!(((Qq g i).2)[i]?.getD false))=true)) Y (fun fhc2=> ?_) fun fhc2=> ?_
  ·have q0:QdE g (Qq g i).2 i:=⟨fhc2.1,by simpa [on] using fhc2.2⟩
   have q1:=Qeb q0
   have hci:=Qcc hgo (show i<g.Cells.size by omega)
   have hq0:0≤((i:Nat):Int) / ((g.Cols.toNat:Nat):Int):=Int.ediv_nonneg (by omega) (by omega)
   have hm0:0≤((i:Nat):Int) % ((g.Cols.toNat:Nat):Int):=Int.emod_nonneg _ (by omega)
   refine sr (mO (tN ((Qq g i).1)) Y (fO (Qy (tv (tN ((Qq g i).1)) Y) (VEv.int .i64 1) (by omega)) (aO (tN ((Qq g i).1+1)) Y (nt (VRun.draw (B:= [[],[],[],[2],[2,3,1],[],[],[6],[6,7,5],[5,7,6,8,1,3,2,4,0]]) (by kernel_rfl) (by kernel_rfl) (lD (OL.loadV1 (t:=(T.fn 185 [(T.rp (Qe false g)),(T.vp [(T.os 1 0 0 (((List.replicate g.Cells.size false).map (Qp true)).length))]),(vtT 185 (T.rp (Qe false g)) (T.vp [(T.os 1 0 0 (((List.replicate g.Cells.size false).map (Qp true)).length))]) 37)])) (tv (vtT 185 (T.rp (Qe false g)) (T.vp [(T.os 1 0 0 (((List.replicate g.Cells.size false).map (Qp true)).length))]) 38) Y) Y Qie) Y Y (mD (tN i) Y Y (fD (B.fieldAddrR (us:=((Qe false g).drop 1)) (tv (T.rp (Qe false g)) Y) (lb Y) Zx Y) Y Y (lD (OL.loadR1 (t:=(tI g.Cols)) (tv (T.rp ((Qe false g).drop 1)) Y) Y QQ) Y Y (fD (B.quo (n:=((i / g.Cols.toNat:Nat):Int)) (tv (tN i) Y) (tv (tI g.Cols) Y) (by omega) (by (refine Qnq ?_ ?_<;>omega))) Y Y (mD (tN i) Y Y ?_)))))))))))
   refine fD (B.fieldAddrR (us:=((Qe false g).drop 1)) (tv (T.rp (Qe false g)) Y) (lb Y) Zx Y) Y Y (lD (OL.loadR1 (t:=(tI g.Cols)) (tv (T.rp ((Qe false g).drop 1)) Y) Y QQ) Y Y (fD (B.rem (n:=((i % g.Cols.toNat:Nat):Int)) (tv (tN i) Y) (tv (tI g.Cols) Y) (by omega) (by (refine Qm8 ?_;omega))) Y Y (VRunD.chain (bi:= [5,7,6,8,1,3,2,4,0]) Y VWant.always Y Y Y (by kernel_rfl) (OC.callvLoan (ts:= [(tN (i / g.Cols.toNat)),(tN (i % g.Cols.toNat)),(T.rp (Qe false g)),(T.vp [(T.os 1 0 0 (((List.replicate g.Cells.size false).map (Qp true)).length))]),(vtT 185 (T.rp (Qe false g)) (T.vp [(T.os 1 0 0 (((List.replicate g.Cells.size false).map (Qp true)).length))]) 37)]) (k:=0) (r:=(T.tup [])) (rows:=(((Qq g i).2).map (Qp true))) (rows':=((Jh 37 g ((Qq g i).2) ((i / g.Cols.toNat:Nat):Int) ((i % g.Cols.toNat:Nat):Int)).map (Qp true))) Y Y (vc (tv (tN (i / g.Cols.toNat)) Y) (vc (tv (tN (i % g.Cols.toNat)) Y) vn)) Y (by simp only [QaH,ren,Qck,List.cons_append,List.nil_append]) (tl Y (tl Y (tl Y (tl Y (tl (QdL Y Y _) Y))))) LRes.none Y (Yb (fun _=>rfl) _) (Yb (fun _=>rfl) _) (Qd3 (n+0) (((List.replicate g.Cells.size false).map (Qp true)).length) g 37 ((Qq g i).2) ((i / g.Cols.toNat:Nat):Int) ((i % g.Cols.toNat:Nat):Int) (by exact fhc0) (by (simp only [Jy,List.length_map,List.length_replicate];done)) (by (simp only [List.length_map,List.length_replicate];omega)) (by omega) (by omega) (by (refine Nat.lt_of_le_of_lt List.count_le_length ?_;rw [Jy];omega)))) (VRunD.nil (vinB.n (tn (VRun.region (fO (Qy (tv (tN i) Y) (VEv.int .i64 1) (by omega)) (mO (tN (i+1)) Y (VRunO.nil (tn ?_)))))))))))
   have he5:Jh 37 g ((Qq g i).2) ((i / g.Cols.toNat:Nat):Int) ((i % g.Cols.toNat:Nat):Int)=(Qq g (i+1)).2:=by (rw [q1.2];exact Qm2 hgo hpl fhc1 (Nat.lt_of_le_of_lt List.count_le_length (by omega)) (QcD i hI1) q0.1)
   refine ⟨(i+1:Nat),?_,?_,Wk.mk (fun k=>k) ?_ ?_ ?_⟩
   ·trivial
   ·omega
   ·exact (b2 (b2 (b2 (b2 (bc ⟨(congrArg (T.int .i64) (show ((((Qq g i).1+1):Nat):Int)=(((Qq g (i+1)).1:Nat):Int) from (by omega))),rfl⟩ (b2 (b2 bn)))))))
   ·exact (bc ⟨(congrArg (fun l_=>some (Obj.rows 1 (List.map (Qp true) l_))) he5),(lb Y),rfl⟩ bn)
   ·exact nd Y
  have q0:¬QdE g (Qq g i).2 i:=fun h=>fhc2 ⟨h.1,by have:=h.2;unfold on at this;rw [this];rfl⟩
  refine sk (vinB.n (tn (VRun.region (fO (Qy (tv (tN i) Y) (VEv.int .i64 1) (by omega)) (mO (tN (i+1)) Y (VRunO.nil (tn ?_)))))))
  have he6:(Qq g i).2=(Qq g (i+1)).2:=by (rw [Qb0 q0];done)
  refine ⟨(i+1:Nat),?_,?_,Wk.mk (fun k=>k) ?_ ?_ ?_⟩
  ·trivial
  ·omega
  ·exact (b2 (b2 (b2 (b2 (bc ⟨(congrArg (T.int .i64) (show (((Qq g i).1:Nat):Int)=(((Qq g (i+1)).1:Nat):Int) from (by (rw [Qb0 q0];done)))),rfl⟩ (b2 (b2 bn)))))))
  ·exact (bc ⟨(congrArg (fun l_=>some (Obj.rows 1 (List.map (Qp true) l_))) he6),(lb Y),rfl⟩ bn)
  ·exact nd Y
 refine VRun.exit (vthn.e (vthn.e (vinB.e (tn (sr (mO (tN ((Qq g i).1)) Y (aO (tN ((Qq g i).1)) Y (nt (rt (vi (n':=(((Qq g i).1:Nat):Int)) Y ?_))))))))))
 exact congrArg (fun x:Nat=>(x:Int)) (Qg3 hI1 (.inl hgo) (by omega))
noncomputable section
def Ya (g:D.Grid):Int:=if ¬gridOk g then 1 else if ¬QeU g then 2 else if ¬Yd g=1 then 3 else if QcL g then 4 else if QbD g then 5 else 0
theorem Qje {g:D.Grid} (h:∀j s,j<(Qc g).length→(Qc g)[j]? =some s→¬QeL g j s) (hg:gridOk g):Qhg g g.Cells↔QbD g:=by
 constructor
 ·rintro ⟨c,h1,h2,_⟩
  exact .inr ⟨c,h1,hg,h2⟩
 ·rintro (⟨j,s,h3,h4⟩ | ⟨c,h1,_,h2⟩)
  ·exact absurd h4 (h j s (List.getElem?_eq_some_iff.1 h3).1 h3)
  ·refine ⟨c,h1,h2,?_⟩
   unfold Qb3
   have:=h2.1
   omega
end
theorem QcY (n:Nat) (g:D.Grid) (hc:g.Cells.size≤mx):Pure (Qs Tryz.prog (n+4)) 133 [(T.agg (Qe false g))] (tB (decide (Yd g=1))):=by
 refine Pure.intro (rs:= [ResultVar.tmp 2]) Tryz.func133 Y Y Y (E0:= [(0,(T.agg (Qe false g)))]) Y ?_
 obtain ⟨hlim,hmx,hmax⟩:=QG
 refine sr (kO (B.box (ts:=(Qe false g)) (tv (T.agg (Qe false g)) Y) nofun Y) (fO (OF.assign (VEv.bool false)) (nt (sr (lO (OL.loadOn (us:=(Qe false g)) (tv (T.op 0 0) Y) Y Q4 QX (lb Y) Y) (cO (cS (vc (tv (T.agg (Qe false g)) Y) vn) (LendL.cons (lg Qw) ln) (QfZ (n+0) g (by assumption)) Y Y) (fO (B.eql (c:=(decide (Yd g=1))) (tv (tN (Yd g)) Y) (VEv.int .i64 1) (Q6 (by omega))) (aO (tB (decide (Yd g=1))) Y (nt (rt ?_))))))))))
 exact vb Y Y
theorem QcV (n:Nat) (g:D.Grid) (hc:g.Cells.size≤mx):Pure (Qs Tryz.prog (n+40)) 137 [(T.agg (Qe false g))] (tB (decide (Yd g=1))):=by
 refine Pure.intro (rs:= [ResultVar.tmp 2]) Tryz.func137 Y Y Y (E0:= [(0,(T.agg (Qe false g)))]) Y ?_
 obtain ⟨hlim,hmx,hmax⟩:=QG
 refine sr (kO (B.box (ts:=(Qe false g)) (tv (T.agg (Qe false g)) Y) nofun Y) (fO (OF.assign (VEv.bool false)) (nt (sr (lO (OL.loadOn (us:=(Qe false g)) (tv (T.op 0 0) Y) Y Q4 QX (lb Y) Y) (cO (cS (vc (tv (T.agg (Qe false g)) Y) vn) (LendL.cons (lg Qw) ln) (Qf5 (n+0) g (by assumption)) Y Y) (fO (B.eql (c:=(decide (Yd g=1))) (tv (tN (Yd g)) Y) (VEv.int .i64 1) (Q6 (by omega))) (aO (tB (decide (Yd g=1))) Y (nt (rt ?_))))))))))
 exact vb Y Y
theorem Qgj (n:Nat) (g:D.Grid) (hc:g.Cells.size≤mx):Pure (Qs Tryz.prog (n+9)) 104 [(T.agg (Qe false g))] (tI (Ya g)):=by
 refine Pure.intro (rs:= [ResultVar.tmp 2]) Tryz.func104 Y Y Y (E0:= [(0,(T.agg (Qe false g)))]) Y ?_
 obtain ⟨hlim,hmx,hmax⟩:=QG
 refine sr (kO (B.box (ts:=(Qe false g)) (tv (T.agg (Qe false g)) Y) nofun Y) (fO (OF.assign (VEv.int .i64 0)) (nt (sq (VRun.block (sr (lO (OL.loadOn (us:=(Qe false g)) (tv (T.op 0 0) Y) Y Q4 QX (lb Y) Y) (cO (cS (vc (tv (T.agg (Qe false g)) Y) vn) (LendL.cons (lg Qw) ln) (Z8 (n+6) g (by omega)) Y Y) (fO (Q1 (tv (tB (decide (gridOk g))) Y)) (aO (tB (!(decide (gridOk g)))) Y (nt ?_)))))))))))
 refine cn (gridOk g) Y (fun fhc0=> ?_) fun fhc0=> ?_
 ·refine sr ?_
  refine fO (OF.assign (VEv.int .i64 1)) (nt (rt (vinB.r (tr (vi (n':=1) Y ?_)))))
  exact (if_pos (by assumption)).symm
 refine sr (lO (OL.loadOn (us:=(Qe false g)) (tv (T.op 0 0) Y) Y Q4 QX (lb Y) Y) (cO (cS (vc (tv (T.agg (Qe false g)) Y) vn) (LendL.cons (lg Qw) ln) (QcX (n+4) g (by omega)) Y Y) (fO (Q1 (tv (tB (decide (QeU g))) Y)) (aO (tB (!(decide (QeU g)))) Y (nt ?_)))))
 refine cn (QeU g) Y (fun fhc1=> ?_) fun fhc1=> ?_
 ·refine sr ?_
  refine fO (OF.assign (VEv.int .i64 2)) (nt (rt (vinB.r (tr (vi (n':=2) Y ?_)))))
  (simp only [Ya];simp [*];done)
 refine sr (lO (OL.loadOn (us:=(Qe false g)) (tv (T.op 0 0) Y) Y Q4 QX (lb Y) Y) (cO (cS (vc (tv (T.agg (Qe false g)) Y) vn) (LendL.cons (lg Qw) ln) (QcY (n+4) g (by assumption)) Y Y) (fO (Q1 (tv (tB (decide (Yd g=1))) Y)) (aO (tB (!(decide (Yd g=1)))) Y (nt ?_)))))
 refine cn (Yd g=1) Y (fun fhc2=> ?_) fun fhc2=> ?_
 ·refine sr ?_
  refine fO (OF.assign (VEv.int .i64 3)) (nt (rt (vinB.r (tr (vi (n':=3) Y ?_)))))
  (simp only [Ya];simp [*];done)
 refine sr (lO (OL.loadOn (us:=(Qe false g)) (tv (T.op 0 0) Y) Y Q4 QX (lb Y) Y) (cO (cS (vc (tv (T.agg (Qe false g)) Y) vn) (LendL.cons (lg Qw) ln) (Qe1 (n+4) g (by omega)) Y Y) (aO (tB (decide (QcL g))) Y (nt ?_))))
 refine cd (QcL g) Y (fun fhc3=> ?_) fun fhc3=> ?_
 ·refine sr ?_
  refine fO (OF.assign (VEv.int .i64 4)) (nt (rt (vinB.r (tr (vi (n':=4) Y ?_)))))
  (simp only [Ya];simp [*];done)
 refine sr (lO (OL.loadOn (us:=(Qe false g)) (tv (T.op 0 0) Y) Y Q4 QX (lb Y) Y) (cO (cS (vc (tv (T.agg (Qe false g)) Y) vn) (LendL.cons (lg Qw) ln) (QeY (n+0) g (by omega)) Y Y) (aO (tB (decide (QbD g))) Y (nt ?_))))
 refine cd (QbD g) Y (fun fhc4=> ?_) fun fhc4=> ?_
 ·refine sr ?_
  refine fO (OF.assign (VEv.int .i64 5)) (nt (rt (vinB.r (tr (vi (n':=5) Y ?_)))))
  (simp only [Ya];simp [*];done)
 refine sk (vinB.n (tn (sr (fO (OF.assign (VEv.int .i64 0)) (nt (rt (vi (n':=0) Y ?_)))))))
 (simp only [Ya];simp [*];done)
theorem Qgq (n:Nat) (g:D.Grid) (hc:g.Cells.size≤mx):Pure (Qs Tryz.prog (n+41)) 106 [(T.agg (Qe false g))] (tI (Ya g)):=by
 refine Pure.intro (rs:= [ResultVar.tmp 2]) Tryz.func106 Y Y Y (E0:= [(0,(T.agg (Qe false g)))]) Y ?_
 obtain ⟨hlim,hmx,hmax⟩:=QG
 have hsl:=Zp g
 refine sr (kO (B.box (ts:=(Qe false g)) (tv (T.agg (Qe false g)) Y) nofun Y) (fO (OF.assign (VEv.int .i64 0)) (nt (sq (VRun.block (sr (lO (OL.loadOn (us:=(Qe false g)) (tv (T.op 0 0) Y) Y Q4 QX (lb Y) Y) (cO (cS (vc (tv (T.agg (Qe false g)) Y) vn) (LendL.cons (lg Qw) ln) (Yr (n+38) g (by omega)) Y Y) (fO (Q1 (tv (tB (decide (gridOk g))) Y)) (aO (tB (!(decide (gridOk g)))) Y (nt ?_)))))))))))
 refine cn (gridOk g) Y (fun fhc0=> ?_) fun fhc0=> ?_
 ·refine sr ?_
  refine fO (OF.assign (VEv.int .i64 1)) (nt (rt (vinB.r (tr (vi (n':=1) Y ?_)))))
  exact (if_pos fhc0).symm
 refine sr (lO (OL.loadOn (us:=(Qe false g)) (tv (T.op 0 0) Y) Y Q4 QX (lb Y) Y) (cO (cS (vc (tv (T.agg (Qe false g)) Y) vn) (LendL.cons (lg Qw) ln) (QcN (n+36) g (by omega)) Y Y) (fO (Q1 (tv (tB (decide (QeU g))) Y)) (aO (tB (!(decide (QeU g)))) Y (nt ?_)))))
 refine cn (QeU g) Y (fun fhc1=> ?_) fun fhc1=> ?_
 ·refine sr ?_
  refine fO (OF.assign (VEv.int .i64 2)) (nt (rt (vinB.r (tr (vi (n':=2) Y ?_)))))
  unfold Ya;rw [if_neg (not_not_intro fhc0),if_pos fhc1]
 refine sr (lO (OL.loadOn (us:=(Qe false g)) (tv (T.op 0 0) Y) Y Q4 QX (lb Y) Y) (cO (cS (vc (tv (T.agg (Qe false g)) Y) vn) (LendL.cons (lg Qw) ln) (QcV (n+0) g (by assumption)) Y Y) (fO (Q1 (tv (tB (decide (Yd g=1))) Y)) (aO (tB (!(decide (Yd g=1)))) Y (nt ?_)))))
 refine cn (Yd g=1) Y (fun fhc2=> ?_) fun fhc2=> ?_
 ·refine sr ?_
  refine fO (OF.assign (VEv.int .i64 3)) (nt (rt (vinB.r (tr (vi (n':=3) Y ?_)))))
  unfold Ya;rw [if_neg (not_not_intro fhc0),if_neg (not_not_intro fhc1),if_pos fhc2]
 refine sk (vinB.n (tn (sr (lO (OL.loadOn (us:=(Qe false g)) (tv (T.op 0 0) Y) Y Q4 QX (lb Y) Y) (cO (OC.callF (r':=(T.os 4 1 0 (((Qc g).map (Qk true)).length))) (objs:= [(Obj.rows 4 ((Qc g).map (Qk true)))]) Y (vc (tv (T.agg (Qe false g)) Y) vn) (LendL.cons (lg Qw) ln) (Qaf (n+37) g (by omega)) Y) (aO (T.os 4 1 0 (((Qc g).map (Qk true)).length)) Y (nt (sq (sr (mO (T.os 4 1 0 (((Qc g).map (Qk true)).length)) Y (lO (B.lenO (m:=(Qc g).length) (tv (T.os 4 1 0 (((Qc g).map (Qk true)).length)) Y) Yh (List.length_map ..)) ?_)))))))))))
 refine fO (OF.move (VEv.int .i64 0)) (nt (VRun.block ?_))
 refine VRun.loop (A:=Nat) (fun s_=> [(1,(T.op 0 0)),(3,(T.os 4 1 0 (((Qc g).map (Qk true)).length))),(22,(T.os 4 1 0 (((Qc g).map (Qk true)).length))),(23,(tN ((Qc g).length))),(24,(tN s_))]) (fun s_=>QY [(0,(Obj.cells (Qe false g))),(1,(Obj.rows 4 ((Qc g).map (Qk true))))]) 2 (fun s_=>NoneTo (fun s:D.Slot=>s.Length<3) (Qc g) s_) (fun s_=>(Qc g).length - s_) (0:Nat) ?_ (Wk.mk (fun k=>k) ?_ ?_ ?_) ?_
 ·exact NoneTo.start _ _
 ·exact (b2 (b2 (b2 (b2 (b2 bn)))))
 ·exact (b3 (b3 bn))
 ·exact nd Y
 rintro i (hI':NoneTo (fun s:D.Slot=>s.Length<3) (Qc g) i)
 show VRun _ _ _ [(1,(T.op 0 0)),(3,(T.os 4 1 0 (((Qc g).map (Qk true)).length))),(22,(T.os 4 1 0 (((Qc g).map (Qk true)).length))),(23,(tN ((Qc g).length))),(24,(tN i))] (QY [(0,(Obj.cells (Qe false g))),(1,(Obj.rows 4 ((Qc g).map (Qk true))))]) 2 _
 have hI1:=hI'.1
 have hns:=hI'
 refine sr (fO (Zb (tv (tN i) Y) (tv (tN ((Qc g).length)) Y)) (nt (sq ?_)))
 refine cd (i<(Qc g).length) Y (fun fhc3=> ?_) fun fhc3=> ?_
 ·have hx0:=fhc3
  refine sk (tn (sq (VRun.block (sr ?_))))
  obtain ⟨x1,hx1⟩:∃x,(Qc g)[i]? =some x:=⟨_,List.getElem?_eq_getElem (by omega)⟩
  refine fO (B.indexAddrO (i:=i) (tv (T.os 4 1 0 (((Qc g).map (Qk true)).length)) Y) (tv (tN i) Y) Y (by (simp only [List.length_map];omega)) Yh Zt Qbt) (lO (OL.loadPn (us:=(Qk false x1)) (row:=(Qk true x1)) (tv (T.orp 4 1 i 0) Y) Y (Qt _ hx1) Qdw Zt (lb Y) Y (bc Y (bc Y (bc Y (bc Y bn))))) (kO (B.alloc (t:=(T.agg [(tN 0),(tB false),(tN 0),(tN 0)])) (ts:= [(tN 0),(tB false),(tN 0),(tN 0)]) YP QlS nofun (fun _=> .agg _ _ Y (Yf (RL.cons (.int _ _) (RL.cons (.bool _) (RL.cons (.int _ _) (RL.cons (.int _ _) (RL.nil _))))))) Y) (cO (B.storeW (us:=(Qk false x1)) (tv (T.op 2 0) Y) (tv (T.agg (Qk false x1)) Y) nofun Y Y Y Qbt Zt (bc Y (bc Y (bc Y (bc Y bn))))) (nt (sr (lf (tI x1.Length) Y Qbc Y Y QQ (fO (xls (tv (tI x1.Length) Y) (VEv.int .i64 3)) (nt ?_))))))))
  refine cd (x1.Length<3) Y (fun fhc4=> ?_) fun fhc4=> ?_
  ·refine sr ?_
   refine fO (OF.assign (VEv.int .i64 4)) (nt (rt (vinB.r (tr (tr (vinB.r (tr (vi (n':=4) Y ?_))))))))
   unfold Ya;rw [if_neg (not_not_intro fhc0),if_neg (not_not_intro fhc1),if_neg (not_not_intro fhc2),if_pos (show QcL g from ⟨x1,List.mem_of_getElem? hx1,fhc4⟩)]
  refine sk (vinB.n (tn (VRun.region (fO (Qy (tv (tN i) Y) (VEv.int .i64 1) (by omega)) (mO (tN (i+1)) Y (VRunO.nil (tn ?_)))))))
  refine ⟨(i+1:Nat),?_,?_,Wk.mk (fun k=>k) ?_ ?_ ?_⟩
  ·exact hI'.next hx1 fhc4
  ·omega
  ·exact (b2 (b2 (b2 (b2 (b2 bn)))))
  ·exact (b3 (b3 bn))
  ·exact nd Y
 have hsh:¬QcL g:=by rintro ⟨y,hy,hy2⟩;exact hns.mem fhc3 y hy hy2
 refine VRun.exit (vthn.e (vthn.e (vinB.e (tn (sq (sr (mO (T.os 4 1 0 (((Qc g).map (Qk true)).length)) Y (lO (B.lenO (m:=(Qc g).length) (tv (T.os 4 1 0 (((Qc g).map (Qk true)).length)) Y) Yh (List.length_map ..)) (fO (OF.move (VEv.int .i64 0)) (nt (VRun.block ?_)))))))))))
 refine VRun.loop (A:=Nat) (fun s_=> [(1,(T.op 0 0)),(32,(T.os 4 1 0 (((Qc g).map (Qk true)).length))),(33,(tN ((Qc g).length))),(34,(tN s_))]) (fun s_=>QY [(0,(Obj.cells (Qe false g))),(1,(Obj.rows 4 ((Qc g).map (Qk true))))]) 2 (fun s_=>NoBad g s_) (fun s_=>(Qc g).length - s_) (0:Nat) ?_ (Wk.mk (fun k=>k) ?_ ?_ ?_) ?_
 ·exact NoBad.start _
 ·exact (b2 (b2 (b2 (b2 bn))))
 ·exact (b3 (b3 bn))
 ·exact nd Y
 rintro k (hI':NoBad g k)
 show VRun _ _ _ [(1,(T.op 0 0)),(32,(T.os 4 1 0 (((Qc g).map (Qk true)).length))),(33,(tN ((Qc g).length))),(34,(tN k))] (QY [(0,(Obj.cells (Qe false g))),(1,(Obj.rows 4 ((Qc g).map (Qk true))))]) 2 _
 have hJ1:=hI'.1
 have hub:=QlE g ((k:Nat):Int)
 refine sr (fO (Zb (tv (tN k) Y) (tv (tN ((Qc g).length)) Y)) (nt (sq ?_)))
 refine cd (k<(Qc g).length) Y (fun fhc5=> ?_) fun fhc5=> ?_
 ·refine sk ?_
  refine tn (sq (VRun.block (sr (mO (tN k) Y ?_))))
  obtain ⟨x1,hx1⟩:∃x,(Qc g)[k]? =some x:=⟨_,List.getElem?_eq_getElem (by omega)⟩
  refine fO (B.indexAddrO (i:=k) (tv (T.os 4 1 0 (((Qc g).map (Qk true)).length)) Y) (tv (tN k) Y) Y (by (simp only [List.length_map];omega)) Yh Zt Qbt) (lO (OL.loadPn (us:=(Qk false x1)) (row:=(Qk true x1)) (tv (T.orp 4 1 k 0) Y) Y (Qt _ hx1) Qdw Zt (lb Y) Y (bc Y (bc Y (bc Y (bc Y bn))))) (kO (B.alloc (t:=(T.agg [(tN 0),(tB false),(tN 0),(tN 0)])) (ts:= [(tN 0),(tB false),(tN 0),(tN 0)]) YP QlS nofun (fun _=> .agg _ _ Y (Yf (RL.cons (.int _ _) (RL.cons (.bool _) (RL.cons (.int _ _) (RL.cons (.int _ _) (RL.nil _))))))) Y) (aO (tN k) Y (cO (B.storeW (us:=(Qk false x1)) (tv (T.op 2 0) Y) (tv (T.agg (Qk false x1)) Y) nofun Y Y Y Qbt Zt (bc Y (bc Y (bc Y (bc Y bn))))) (nt (sq (VRun.draw (B:= [[],[],[1,0],[0,1,2],[],[4],[4,5,2,1,0,3]]) (by kernel_rfl) (by kernel_rfl) (lD (OL.loadOn (us:=(Qe false g)) (tv (T.op 0 0) Y) Y Q4 QX (lb Y) Y) Y Y (mD (tN k) Y Y (VRunD.quiet (bi:= [1,0]) Y VWant.always Y Y Y bn (cS (vc (tv (T.agg (Qe false g)) Y) (vc (tv (tN k) Y) vn)) (LendL.cons (lg Qw) (lp Y ln)) (Qc4 (n+33) g ((k:Nat):Int) (by omega)) Y Y) (fD (B.mul (n:=(2*unG g ((k:Nat):Int))) (VEv.int .i64 2) (tv (tI (unG g ((k:Nat):Int))) Y) (by (rw [Qx (by omega)];done))) Y Y ?_)))))))))))
  refine fD (OF.fieldAddrO (tv (T.op 2 0) Y) Qbc) Y Y (lD (OL.loadO1 (t:=(tI x1.Length)) (tv (T.op 2 3) Y) Y Y QQ) Y Y (fD (xgt (tv (tI (2*unG g ((k:Nat):Int))) Y) (tv (tI x1.Length) Y)) Y Y (VRunD.nil (tn ?_))))
  refine cd (x1.Length<(2*unG g ((k:Nat):Int))) Y (fun fhc6=> ?_) fun fhc6=> ?_
  ·have q1:QeL g k x1:=by unfold QeL;omega
   refine sr (fO (OF.assign (VEv.int .i64 5)) (nt (rt (vinB.r (tr (tr (vinB.r (tr (vi (n':=5) Y ?_)))))))))
   unfold Ya;rw [if_neg (not_not_intro fhc0),if_neg (not_not_intro fhc1),if_neg (not_not_intro fhc2),if_neg hsh,if_pos (show QbD g from .inl ⟨k,x1,hx1,q1⟩)]
  have q1:¬QeL g k x1:=by unfold QeL;omega
  refine sk (vinB.n (tn (VRun.region (fO (Qy (tv (tN k) Y) (VEv.int .i64 1) (by omega)) (mO (tN (k+1)) Y (VRunO.nil (tn ?_)))))))
  refine ⟨(k+1:Nat),?_,?_,Wk.mk (fun k=>k) ?_ ?_ ?_⟩
  ·exact hI'.next hx1 q1
  ·omega
  ·exact (b2 (b2 (b2 (b2 bn))))
  ·exact (b3 (b3 bn))
  ·exact nd Y
 have hal:=Qje (g:=g) (fun j s hj=>hI'.2 j s (by omega)) (by simpa using fhc0)
 refine VRun.exit (vthn.e (vthn.e (vinB.e (tn (sq (sr (lO (OL.loadOn (us:=(Qe false g)) (tv (T.op 0 0) Y) Y Q4 QX (lb Y) Y) (lf (tS g.Cells) Y QN Y Y Yp (cO (cS (vc (tv (T.agg (Qe false g)) Y) (vc (tv (tS g.Cells) Y) vn)) (LendL.cons (lg Qw) (lp Y ln)) (QhB (n+35) g g.Cells (by omega) (by omega)) Y Y) (nt ?_))))))))))
 refine cd (Qhg g g.Cells) Y (fun fhc7=> ?_) fun fhc7=> ?_
 ·refine sr ?_
  refine fO (OF.assign (VEv.int .i64 5)) (nt (rt (tr (vi (n':=5) Y ?_))))
  unfold Ya;rw [if_neg (not_not_intro fhc0),if_neg (not_not_intro fhc1),if_neg (not_not_intro fhc2),if_neg hsh,if_pos (hal.1 fhc7)]
 refine sk (tn (sr (fO (OF.assign (VEv.int .i64 0)) (nt (rt (vi (n':=0) Y ?_))))))
 unfold Ya;rw [if_neg (not_not_intro fhc0),if_neg (not_not_intro fhc1),if_neg (not_not_intro fhc2),if_neg hsh,if_neg (fun h=>fhc7 (hal.2 h))]
noncomputable section
def okC (c:D.Clue):Prop:=(1≤c.Sense∧c.Sense≤99)∧ZI c.Play
end
noncomputable section
def QfK : Nat→Int→ByteArray→ByteArray
 | 0,_,acc=>acc
 | f+1,k,acc=>if 0<k then QfK f (k.tdiv 10) (YO [IntKind.u8.wrap (48+k.tmod 10)]++acc) else acc
def Qbb (k:Int):ByteArray:=if k≤0 then ⟨#[109,48]⟩ else ⟨#[109]⟩++QfK k.toNat k ⟨#[]⟩
theorem Qkw {f:Nat} {k:Int} {acc:ByteArray} (hk:0<k) (hf:k.toNat≤f):0≤k.tdiv 10∧(k.tdiv 10).toNat≤f - 1∧QfK f k acc=QfK (f - 1) (k.tdiv 10) (YO [IntKind.u8.wrap (48+k.tmod 10)]++acc):=by
 have h1:k.tdiv 10=k / 10:=Int.tdiv_eq_ediv_of_nonneg (by omega)
 cases f with
 | zero=>omega
 | succ f =>
  refine ⟨by omega,by omega,?_⟩
  simp only [QfK,if_pos hk]
  rfl
theorem Qlj {f:Nat} {k:Int} {acc:ByteArray} (hk:¬ 0<k):QfK f k acc=acc:=by
 cases f with
 | zero=>rfl
 | succ f=>simp only [QfK,if_neg hk]
theorem Qlc (n:Int):(YO [n]).size=1:=rfl
theorem Qn5 {k:Int} (h:0<k):0≤k.tmod 10∧k.tmod 10<10∧0≤k.tdiv 10∧k.tdiv 10≤k:=by
 rw [Int.tmod_eq_emod_of_nonneg (by omega),Int.tdiv_eq_ediv_of_nonneg (by omega)]
 omega
end
theorem Qbu (n:Nat) (q:Int) (hq:q≤YG):Pure (Qs Tryz.prog (n+1)) 102 [(tI q)] (tS (Qbb q)):=by
 refine Pure.intro (rs:= [ResultVar.tmp 2]) Tryz.func102 Y Y Y (E0:= [(0,(tI q))]) Y ?_
 obtain ⟨hlim,hmx,hmax⟩:=QG
 refine sr (fO (OF.assign (VEv.str (⟨#[]⟩:ByteArray))) (nt (sq (sr (mO (tI q) Y (fO (xle (tv (tI q) Y) (VEv.int .i64 0)) (nt ?_)))))))
 refine cd (q≤0) Y (fun fhc0=> ?_) fun fhc0=> ?_
 ·refine sr ?_
  refine fO (OF.assign (VEv.str (⟨#[109,48]⟩:ByteArray))) (nt (rt (tr ?_)))
  refine vfin.eq (r':=(tS (⟨#[109,48]⟩:ByteArray))) ?_ (vfin.r (VRes.tmp (t:=(tS (⟨#[109,48]⟩:ByteArray))) Y VRes.nil) (Give.str _))
  refine congrArg T.str ?_
  exact (if_pos fhc0).symm
 refine sk (tn (sr (fO (OF.assign (VEv.str (⟨#[]⟩:ByteArray))) (nt (sq (VRun.block ?_))))))
 refine VRun.loop (A:=Int×Nat×ByteArray) (fun s_=> [(0,(tI s_.1)),(2,(tS (⟨#[]⟩:ByteArray))),(3,(tS s_.2.2))]) (fun s_=>QY []) 0 (fun s_=>0≤s_.1∧s_.1.toNat≤s_.2.1∧s_.2.2.size+s_.2.1≤q.toNat∧QfK q.toNat q ⟨#[]⟩=QfK s_.2.1 s_.1 s_.2.2) (fun s_=>s_.2.1) ((q,q.toNat,⟨#[]⟩):Int×Nat×ByteArray) ?_ (Wk.mk (fun k=>k) ?_ ?_ ?_) ?_
 ·exact ⟨by omega,Nat.le_refl _,by show 0+q.toNat≤q.toNat;omega,rfl⟩
 ·exact (b2 (b2 (bc ⟨(congrArg T.str (show (⟨#[]⟩:ByteArray)=⟨#[]⟩ from (by rfl))),rfl⟩ bn)))
 ·exact bn
 ·exact nd Y
 rintro ⟨k,f,acc⟩ (hI':0≤k∧k.toNat≤f∧acc.size+f≤q.toNat∧QfK q.toNat q ⟨#[]⟩=QfK f k acc)
 show VRun _ _ _ [(0,(tI k)),(2,(tS (⟨#[]⟩:ByteArray))),(3,(tS acc))] (QY []) 0 _
 have hI1:=hI'.1
 have hI2:=hI'.2.1
 have hI3:=hI'.2.2.1
 have hI4:=hI'.2.2.2
 refine sq (sr (mO (tI k) Y (fO (xgt (tv (tI k) Y) (VEv.int .i64 0)) (nt ?_))))
 refine cd (0<k) Y (fun fhc1=> ?_) fun fhc1=> ?_
 ·obtain ⟨m1,m2,m3,m4⟩:=Qn5 fhc1
  refine sk (tn (VRun.block (sr (mO (tI k) Y (fO (B.rem (n:=(k.tmod 10)) (tv (tI k) Y) (VEv.int .i64 10) (by omega) (by rfl)) (fO (B.add (n:=(48+(k.tmod 10))) (VEv.int .i64 48) (tv (tI (k.tmod 10)) Y) (by (rw [Qx (by omega)];done))) (fO (OF.convI (tv (tI (48+(k.tmod 10))) Y) (k0:= .i64) U3 U5) (kO (OM.buildSlice (l:= [(T.int .u8 (IntKind.u8.wrap (48+(k.tmod 10))))]) (VEvp.cons (tv (T.int .u8 (IntKind.u8.wrap (48+(k.tmod 10)))) Y) VEvp.nil) Y (by decide) (bc (nofun) bn) (bc ((bc (Y) bn)) bn) (bc (Y) bn) Qd2 zo5 (by kernel_rfl) Y (by rw [sz5];decide) sz5 (Nat.le_of_ble_eq_true Y)) (lO (B.convBS (l:= [IntKind.u8.wrap (48+(k.tmod 10))]) (tv (T.os 1 0 0 1) Y) Y Y Qd2 U5 U9) (mO (tS acc) Y (fO (B.sadd (tv (tS (YO [IntKind.u8.wrap (48+(k.tmod 10))])) Y) (tv (tS acc) Y) (by (simp only [Qlc];omega))) ?_)))))))))))
  refine aO (tS ((YO [IntKind.u8.wrap (48+(k.tmod 10))])++acc)) Y (nt (VRun.region (mO (tI k) Y (fO (B.quo (n:=(k.tdiv 10)) (tv (tI k) Y) (VEv.int .i64 10) (by omega) (by (rw [Qx (by omega)];done))) (aO (tI (k.tdiv 10)) Y (VRunO.nil (vinB.n (tn ?_))))))))
  obtain ⟨n1,n2,n3⟩:=Qkw (acc:=acc) fhc1 hI2
  refine ⟨((k.tdiv 10,f - 1,YO [IntKind.u8.wrap (48+k.tmod 10)]++acc):Int×Nat×ByteArray),?_,?_,Wk.mk (fun k=>k) ?_ ?_ ?_⟩
  ·exact ⟨n1,n2,by show (YO _++acc).size+(f - 1)≤q.toNat;rw [ByteArray.size_append,Qlc];omega,hI4.trans n3⟩
  ·(simp only [];omega)
  ·exact (b2 (b2 (bc ⟨(congrArg T.str (show ((YO [IntKind.u8.wrap (48+(k.tmod 10))])++acc)=(YO [IntKind.u8.wrap (48+k.tmod 10)]++acc) from (by rfl))),rfl⟩ bn)))
  ·exact bn
  ·exact nd Y
 refine VRun.exit (vthn.e (vthn.e (vinB.e (tn (sr (mO (tS acc) Y (fO (B.sadd (VEv.str (⟨#[109]⟩:ByteArray)) (tv (tS acc) Y) (by (rw [show (⟨#[109]⟩:ByteArray).size=1 from rfl];omega))) (aO (tS ((⟨#[109]⟩:ByteArray)++acc)) Y (nt (rt ?_))))))))))
 refine vfin.eq (r':=(tS ((⟨#[109]⟩:ByteArray)++acc))) ?_ (vfin.r (VRes.tmp (t:=(tS ((⟨#[109]⟩:ByteArray)++acc))) Y VRes.nil) (Give.str _))
 refine congrArg T.str ?_
 unfold Qbb
 rw [if_neg fhc0,hI4,Qlj fhc1]
noncomputable section
def Zm (k:Nat):D.Step:=(D.Step.mk ((k:Nat):Int) (Qbb ((k+1:Nat):Int)) ((k+2:Nat):Int) ((k+3:Nat):Int))
end
theorem QaX (n:Nat) (a:List D.Step) (k:Nat) (hk:k+4*a.length≤YG):Mut (Qs Tryz.prog (n+2)) 52 4 (a.map (Qg true)) [(tN k)] (some ((k+4*a.length:Nat):Int)) ((YH Zm 4 k a.length).map (Qg true)):=by
 refine Mut.intro (rt:=4) Tryz.func52 Y Y Y (by kernel_rfl) (Yb (fun _=>rfl) _) (Yb (fun _=>rfl) _) (E0:= [(1,(tN k))]) Y ?_
 obtain ⟨hlim,hmx,hmax⟩:=QG
 refine sr (fO (OF.assign (VEv.int .i64 0)) (nt (sq (sr (fO (OF.assign (VEv.int .i64 0)) (nt (VRun.block ?_)))))))
 have he1:a=Js Zm 4 k a 0:=by rfl
 refine VRun.loop (A:=Nat) (fun s_=> [(0,(T.os 4 0 0 (((Js Zm 4 k a s_).map (Qg true)).length))),(1,(tN (k+4*s_))),(4,(tN 0)),(5,(tN s_))]) (fun s_=>QY [(0,(Obj.rows 4 ((Js Zm 4 k a s_).map (Qg true))))]) 1 (fun s_=>s_≤a.length) (fun s_=>a.length - s_) (0:Nat) ?_ (Wk.mk (fun k=>k) ?_ ?_ ?_) ?_
 ·(simp;done)
 ·exact (bc ⟨(congrArg (fun l_=>T.os 4 0 0 (List.map (Qg true) l_).length) he1),rfl⟩ (bc ⟨(congrArg (T.int .i64) (show ((k:Nat):Int)=((k+4*0:Nat):Int) from (by rfl))),rfl⟩ (b2 (b2 bn))))
 ·exact (bc ⟨(congrArg (fun l_=>some (Obj.rows 4 (List.map (Qg true) l_))) he1),(lb Y),rfl⟩ bn)
 ·exact nd Y
 rintro i (hI':i≤a.length)
 show VRun _ _ _ [(0,(T.os 4 0 0 (((Js Zm 4 k a i).map (Qg true)).length))),(1,(tN (k+4*i))),(4,(tN 0)),(5,(tN i))] (QY [(0,(Obj.rows 4 ((Js Zm 4 k a i).map (Qg true))))]) 1 _
 have hml:=Qb8 (f:=Zm) (w:=4) (k:=k) hI'
 refine sq (sr (mO (tN i) Y (mO (T.os 4 0 0 (((Js Zm 4 k a i).map (Qg true)).length)) Y (lO (B.lenO (m:=(Js Zm 4 k a i).length) (tv (T.os 4 0 0 (((Js Zm 4 k a i).map (Qg true)).length)) Y) U81 (List.length_map ..)) (fO (Zb (tv (tN i) Y) (tv (tN ((Js Zm 4 k a i).length)) Y)) (nt ?_))))))
 refine cd (i<(Js Zm 4 k a i).length) Y (fun fhc0=> ?_) fun fhc0=> ?_
 ·refine sk ?_
  refine tn (sq (VRun.block (sr (mO (T.os 4 0 0 (((Js Zm 4 k a i).map (Qg true)).length)) Y (mO (tN i) Y (mO (tN (k+4*i)) Y ?_))))))
  obtain ⟨x1,hx1⟩:∃x,(Js Zm 4 k a i)[i]? =some x:=⟨_,List.getElem?_eq_getElem (by omega)⟩
  refine fO (B.indexAddrO (i:=i) (tv (T.os 4 0 0 (((Js Zm 4 k a i).map (Qg true)).length)) Y) (tv (tN i) Y) Y (by (simp only [List.length_map];omega)) U81 ZQ Je) (fO (OF.fieldAddrP (tv (T.orp 4 0 i 0) Y) Zj) (cO (B.storeP (us:= [(tN (k+4*i))]) (rows':=(((Js Zm 4 k a i).set i (D.Step.mk ((k+4*i:Nat):Int) x1.Word x1.A x1.B)).map (Qg true))) (row:=(Qg true x1)) (tv (T.orp 4 0 i 0) Y) (tv (tN (k+4*i)) Y) nofun Y (Qt _ hx1) Y (lb Y) Yo Zd (bc Y bn) (by intro r hr t ht;obtain ⟨x,_,rfl⟩:=List.mem_map.1 hr;rw [Qfw] at ht;exact ZV (okeStep.pl _ t ht)) (Ze Y)) (nt (sr (mO (tN (k+4*i)) Y (fO (Qy (tv (tN (k+4*i)) Y) (VEv.int .i64 1) (by omega)) (aO (tN (k+4*i+1)) Y (nt (sr (mO (T.os 4 0 0 (((Js Zm 4 k a i).map (Qg true)).length)) Y (mO (tN i) Y ?_)))))))))))
  refine mO (tN (k+4*i+1)) Y (cO (cS (vc (tv (tN (k+4*i+1)) Y) vn) (ZO Y) (Qbu (n+0) (((k+4*i+1):Nat):Int) (by omega)) Y Y) (fO (B.indexAddrO (i:=i) (tv (T.os 4 0 0 (((Js Zm 4 k a i).map (Qg true)).length)) Y) (tv (tN i) Y) Y (by (simp only [List.length_map];omega)) U81 ZQ Je) (fO (OF.fieldAddrP (tv (T.orp 4 0 i 0) Y) JR) (cO (B.storeP (us:= [(tS (Qbb (((k+4*i+1):Nat):Int)))]) (rows':=((((Js Zm 4 k a i).set i (D.Step.mk ((k+4*i:Nat):Int) x1.Word x1.A x1.B)).set i (D.Step.mk ((k+4*i:Nat):Int) (Qbb (((k+4*i+1):Nat):Int)) x1.A x1.B)).map (Qg true))) (row:=(Qg true (D.Step.mk ((k+4*i:Nat):Int) x1.Word x1.A x1.B))) (tv (T.orp 4 0 i 1) Y) (tv (tS (Qbb (((k+4*i+1):Nat):Int))) Y) nofun Y (Qt _ (QbY (by omega))) Y (lb Y) if9 sz9 (bc Y bn) (by intro r hr t ht;obtain ⟨x,_,rfl⟩:=List.mem_map.1 hr;rw [Qfw] at ht;exact ZV (okeStep.pl _ t ht)) (Ze Y)) (nt (sr (mO (tN (k+4*i+1)) Y (fO (Qy (tv (tN (k+4*i+1)) Y) (VEv.int .i64 1) (by omega)) (aO (tN ((k+4*i+1)+1)) Y (nt (sr ?_)))))))))))
  refine mO (T.os 4 0 0 (((Js Zm 4 k a i).map (Qg true)).length)) Y (mO (tN i) Y (mO (tN ((k+4*i+1)+1)) Y (fO (B.indexAddrO (i:=i) (tv (T.os 4 0 0 (((Js Zm 4 k a i).map (Qg true)).length)) Y) (tv (tN i) Y) Y (by (simp only [List.length_map];omega)) U81 ZQ Je) (fO (OF.fieldAddrP (tv (T.orp 4 0 i 0) Y) YI) (cO (B.storeP (us:= [(tN ((k+4*i+1)+1))]) (rows':=(((((Js Zm 4 k a i).set i (D.Step.mk ((k+4*i:Nat):Int) x1.Word x1.A x1.B)).set i (D.Step.mk ((k+4*i:Nat):Int) (Qbb (((k+4*i+1):Nat):Int)) x1.A x1.B)).set i (D.Step.mk ((k+4*i:Nat):Int) (Qbb (((k+4*i+1):Nat):Int)) ((((k+4*i+1)+1):Nat):Int) x1.B)).map (Qg true))) (row:=(Qg true (D.Step.mk ((k+4*i:Nat):Int) (Qbb (((k+4*i+1):Nat):Int)) x1.A x1.B))) (tv (T.orp 4 0 i 2) Y) (tv (tN ((k+4*i+1)+1)) Y) nofun Y (Qt _ (QbY (by (simp only [List.length_set];omega)))) Y (lb Y) Yo Zd (bc Y bn) (by intro r hr t ht;obtain ⟨x,_,rfl⟩:=List.mem_map.1 hr;rw [Qfw] at ht;exact ZV (okeStep.pl _ t ht)) (Ze Y)) (nt (sr (mO (tN ((k+4*i+1)+1)) Y (fO (Qy (tv (tN ((k+4*i+1)+1)) Y) (VEv.int .i64 1) (by omega)) (aO (tN (((k+4*i+1)+1)+1)) Y (nt ?_)))))))))))
  refine sr (mO (T.os 4 0 0 (((Js Zm 4 k a i).map (Qg true)).length)) Y (mO (tN i) Y (mO (tN (((k+4*i+1)+1)+1)) Y (fO (B.indexAddrO (i:=i) (tv (T.os 4 0 0 (((Js Zm 4 k a i).map (Qg true)).length)) Y) (tv (tN i) Y) Y (by (simp only [List.length_map];omega)) U81 ZQ Je) (fO (OF.fieldAddrP (tv (T.orp 4 0 i 0) Y) Yj) (cO (B.storeP (us:= [(tN (((k+4*i+1)+1)+1))]) (rows':=((((((Js Zm 4 k a i).set i (D.Step.mk ((k+4*i:Nat):Int) x1.Word x1.A x1.B)).set i (D.Step.mk ((k+4*i:Nat):Int) (Qbb (((k+4*i+1):Nat):Int)) x1.A x1.B)).set i (D.Step.mk ((k+4*i:Nat):Int) (Qbb (((k+4*i+1):Nat):Int)) ((((k+4*i+1)+1):Nat):Int) x1.B)).set i (D.Step.mk ((k+4*i:Nat):Int) (Qbb (((k+4*i+1):Nat):Int)) ((((k+4*i+1)+1):Nat):Int) (((((k+4*i+1)+1)+1):Nat):Int))).map (Qg true))) (row:=(Qg true (D.Step.mk ((k+4*i:Nat):Int) (Qbb (((k+4*i+1):Nat):Int)) ((((k+4*i+1)+1):Nat):Int) x1.B))) (tv (T.orp 4 0 i 3) Y) (tv (tN (((k+4*i+1)+1)+1)) Y) nofun Y (Qt _ (QbY (by (simp only [List.length_set];omega)))) Y (lb Y) Yo Zd (bc Y bn) (by intro r hr t ht;obtain ⟨x,_,rfl⟩:=List.mem_map.1 hr;rw [Qfw] at ht;exact ZV (okeStep.pl _ t ht)) (Ze Y)) (nt (VRun.region (mO (tN (((k+4*i+1)+1)+1)) Y (fO (Qy (tv (tN (((k+4*i+1)+1)+1)) Y) (VEv.int .i64 1) (by omega)) (aO (tN ((((k+4*i+1)+1)+1)+1)) Y ?_)))))))))))
  refine VRunO.nil (vinB.n (tn (VRun.region (mO (tN i) Y (fO (Qy (tv (tN i) Y) (VEv.int .i64 1) (by omega)) (aO (tN (i+1)) Y (VRunO.nil (tn ?_))))))))
  have hi1:i+1≤a.length:=by omega
  have he2:(((((Js Zm 4 k a i).set i (D.Step.mk ((k+4*i:Nat):Int) x1.Word x1.A x1.B)).set i (D.Step.mk ((k+4*i:Nat):Int) (Qbb (((k+4*i+1):Nat):Int)) x1.A x1.B)).set i (D.Step.mk ((k+4*i:Nat):Int) (Qbb (((k+4*i+1):Nat):Int)) ((((k+4*i+1)+1):Nat):Int) x1.B)).set i (D.Step.mk ((k+4*i:Nat):Int) (Qbb (((k+4*i+1):Nat):Int)) ((((k+4*i+1)+1):Nat):Int) (((((k+4*i+1)+1)+1):Nat):Int)))=Js Zm 4 k a (i+1):=by (simp only [List.set_set];refine QjZ ?_;omega)
  refine ⟨(i+1:Nat),?_,?_,Wk.mk (fun k=>k) ?_ ?_ ?_⟩
  ·trivial
  ·omega
  ·exact (bc ⟨(congrArg (fun n_=>T.os 4 0 0 n_) (show ((Js Zm 4 k a i).map (Qg true)).length=((Js Zm 4 k a (i+1)).map (Qg true)).length from (by rw [List.length_map,List.length_map,Qb8 hI',Qb8 hi1]))),rfl⟩ (bc ⟨(congrArg (T.int .i64) (show ((((((k+4*i+1)+1)+1)+1):Nat):Int)=((k+4*(i+1):Nat):Int) from (by rfl))),rfl⟩ (b2 (b2 bn))))
  ·exact (bc ⟨(congrArg (fun l_=>some (Obj.rows 4 (List.map (Qg true) l_))) he2),(lb Y),rfl⟩ bn)
  ·exact nd Y
 refine VRun.exit (vthn.e (vthn.e (vinB.e (tn (sr (mO (tN (k+4*i)) Y (aO (tN (k+4*i)) Y (nt (rt ?_)))))))))
 refine vmut.r (r0:=((k+4*i:Nat):Int)) (rows:=((Js Zm 4 k a i).map (Qg true))) Y Y Y ?_ ?_ Y
 ·(push_cast;omega)
 ·show List.map _ (Js Zm 4 k a i)=List.map _ (YH Zm 4 k a.length)
  refine congrArg (List.map _) ?_
  exact Qj0 hI' (by omega)
theorem Qep (n:Nat) (a:List D.Step) (k:Nat) (hh:a=YH Zm 4 k a.length) (hk:k+4*a.length≤YG):Pure (Qs Tryz.prog (n+2)) 120 [(rd 4 Qg a),(tN k)] (tN (k+4*a.length)):=by
 refine Pure.intro (rs:= [ResultVar.tmp 4]) Tryz.func120 Y Y Y (E0:= [(0,(rd 4 Qg a)),(1,(tN k))]) Y ?_
 obtain ⟨hlim,hmx,hmax⟩:=QG
 refine sr (fO (OF.assign (VEv.int .i64 0)) (nt (sq (sr (fO (OF.assign (VEv.int .i64 0)) (nt (VRun.block ?_)))))))
 refine VRun.loop (A:=Nat) (fun s_=> [(0,(rd 4 Qg a)),(1,(tN (k+4*s_))),(5,(tN s_))]) (fun s_=>QY []) 0 (fun s_=>s_≤a.length) (fun s_=>a.length - s_) (0:Nat) ?_ (Wk.mk (fun k=>k) ?_ ?_ ?_) ?_
 ·(simp;done)
 ·exact (b2 (bc ⟨(congrArg (T.int .i64) (show ((k:Nat):Int)=((k+4*0:Nat):Int) from (by rfl))),rfl⟩ (b2 bn)))
 ·exact bn
 ·exact nd Y
 rintro i (hI':i≤a.length)
 show VRun _ _ _ [(0,(rd 4 Qg a)),(1,(tN (k+4*i))),(5,(tN i))] (QY []) 0 _
 refine sq (sr (mO (tN i) Y (mO (rd 4 Qg a) Y (lO (B.lenR (m:=a.length) (tv (rd 4 Qg a) Y) U81 (List.length_map ..)) (fO (Zb (tv (tN i) Y) (tv (tN a.length) Y)) (nt ?_))))))
 refine cd (i<a.length) Y (fun fhc0=> ?_) fun fhc0=> ?_
 ·refine sk ?_
  refine tn (sq (VRun.block (sq (sr (mO (rd 4 Qg a) Y (mO (tN i) Y ?_))))))
  obtain ⟨x1,hx1⟩:∃x,a[i]? =some x:=⟨_,List.getElem?_eq_getElem (by omega)⟩
  refine fO (OF.indexAddrR (row:=(Qg false x1)) (i:=i) (tv (rd 4 Qg a) Y) (tv (tN i) Y) Y (Qt _ hx1) U81 ZQ Je) (lr (tI x1.Kind) Y (lb Y) Zj Y QQ (mO (tN (k+4*i)) Y (fO (xne (tv (tI x1.Kind) Y) (tv (tN (k+4*i)) Y)) (nt ?_))))
  refine cn (x1.Kind=((k+4*i:Nat):Int)) Y (fun fhc1=> ?_) fun fhc1=> ?_
  ·exact absurd (congrArg (fun x=>x.Kind) (Qfh hh hx1)) fhc1
  refine sk (tn (sr (mO (tN (k+4*i)) Y (fO (Qy (tv (tN (k+4*i)) Y) (VEv.int .i64 1) (by omega)) (aO (tN (k+4*i+1)) Y (nt (sq (sq (VRun.draw (B:= [[],[],[1,0],[0,1,2],[2,1,0,3],[],[5],[5,6,3,0,1,2,4]]) (by kernel_rfl) (by kernel_rfl) (mD (rd 4 Qg a) Y Y (mD (tN i) Y Y ?_)))))))))))
  refine fD (OF.indexAddrR (row:=(Qg false x1)) (i:=i) (tv (rd 4 Qg a) Y) (tv (tN i) Y) Y (Qt _ hx1) U81 ZQ Je) Y Y (fD (B.fieldAddrR (us:=((Qg false x1).drop 1)) (tv (T.rp (Qg false x1)) Y) (lb Y) JR Y) Y Y (lD (OL.loadR1 (t:=(tS x1.Word)) (tv (T.rp ((Qg false x1).drop 1)) Y) Y Yp) Y Y (mD (tN (k+4*i+1)) Y Y (VRunD.quiet (bi:= [5]) Y VWant.always Y Y Y bn (cS (vc (tv (tN (k+4*i+1)) Y) vn) (ZO Y) (Qbu (n+0) (((k+4*i+1):Nat):Int) (by omega)) Y Y) (fD (B.sneq (c:=(!(decide (x1.Word=Qbb (((k+4*i+1):Nat):Int))))) (tv (tS x1.Word) Y) (tv (tS (Qbb (((k+4*i+1):Nat):Int))) Y) Y) Y Y (VRunD.nil (tn ?_)))))))
  refine cn (x1.Word=Qbb (((k+4*i+1):Nat):Int)) Y (fun fhc2=> ?_) fun fhc2=> ?_
  ·exact absurd (congrArg (fun x=>x.Word) (Qfh hh hx1)) fhc2
  refine sk (tn (sr (mO (tN (k+4*i+1)) Y (fO (Qy (tv (tN (k+4*i+1)) Y) (VEv.int .i64 1) (by omega)) (aO (tN ((k+4*i+1)+1)) Y (nt (sq (sr (mO (rd 4 Qg a) Y (mO (tN i) Y (fO (OF.indexAddrR (row:=(Qg false x1)) (i:=i) (tv (rd 4 Qg a) Y) (tv (tN i) Y) Y (Qt _ hx1) U81 ZQ Je) ?_)))))))))))
  refine lr (tI x1.A) Y (lb Y) YI Y QQ (mO (tN ((k+4*i+1)+1)) Y (fO (xne (tv (tI x1.A) Y) (tv (tN ((k+4*i+1)+1)) Y)) (nt ?_)))
  refine cn (x1.A=((((k+4*i+1)+1):Nat):Int)) Y (fun fhc3=> ?_) fun fhc3=> ?_
  ·exact absurd (congrArg (fun x=>x.A) (Qfh hh hx1)) fhc3
  refine sk (tn (sr (mO (tN ((k+4*i+1)+1)) Y (fO (Qy (tv (tN ((k+4*i+1)+1)) Y) (VEv.int .i64 1) (by omega)) (aO (tN (((k+4*i+1)+1)+1)) Y (nt (sq (sr (mO (rd 4 Qg a) Y (mO (tN i) Y (fO (OF.indexAddrR (row:=(Qg false x1)) (i:=i) (tv (rd 4 Qg a) Y) (tv (tN i) Y) Y (Qt _ hx1) U81 ZQ Je) ?_)))))))))))
  refine lr (tI x1.B) Y (lb Y) Yj Y QQ (mO (tN (((k+4*i+1)+1)+1)) Y (fO (xne (tv (tI x1.B) Y) (tv (tN (((k+4*i+1)+1)+1)) Y)) (nt ?_)))
  refine cn (x1.B=(((((k+4*i+1)+1)+1):Nat):Int)) Y (fun fhc4=> ?_) fun fhc4=> ?_
  ·exact absurd (congrArg (fun x=>x.B) (Qfh hh hx1)) fhc4
  refine sk (tn (VRun.region (mO (tN (((k+4*i+1)+1)+1)) Y (fO (Qy (tv (tN (((k+4*i+1)+1)+1)) Y) (VEv.int .i64 1) (by omega)) (aO (tN ((((k+4*i+1)+1)+1)+1)) Y (VRunO.nil (vinB.n (tn (VRun.region (mO (tN i) Y (fO (Qy (tv (tN i) Y) (VEv.int .i64 1) (by omega)) ?_)))))))))))
  refine aO (tN (i+1)) Y (VRunO.nil (tn ?_))
  refine ⟨(i+1:Nat),?_,?_,Wk.mk (fun k=>k) ?_ ?_ ?_⟩
  ·trivial
  ·omega
  ·exact (b2 (bc ⟨(congrArg (T.int .i64) (show ((((((k+4*i+1)+1)+1)+1):Nat):Int)=((k+4*(i+1):Nat):Int) from (by rfl))),rfl⟩ (b2 bn)))
  ·exact bn
  ·exact nd Y
 refine VRun.exit (vthn.e (vthn.e (vinB.e (tn (sr (mO (tN (k+4*i)) Y (aO (tN (k+4*i)) Y (nt (rt (vi (n':=((k+4*i:Nat):Int)) Y ?_))))))))))
 omega
noncomputable section
def Zl (k:Nat):Int:=((k:Nat):Int)
end
theorem QeV (n:Nat) (a:List Int) (k:Nat) (hk:k+1*a.length≤YG):Mut (Qs Tryz.prog (n+1)) 21 1 (a.map (Qb true)) [(tN k)] (some ((k+1*a.length:Nat):Int)) ((YH Zl 1 k a.length).map (Qb true)):=by
 refine Mut.intro (rt:=4) Tryz.func21 Y Y Y (by kernel_rfl) (Yb (fun _=>rfl) _) (Yb (fun _=>rfl) _) (E0:= [(1,(tN k))]) Y ?_
 obtain ⟨hlim,hmx,hmax⟩:=QG
 refine sr (fO (OF.assign (VEv.int .i64 0)) (nt (sq (sr (fO (OF.assign (VEv.int .i64 0)) (nt (VRun.block ?_)))))))
 have he1:a=Js Zl 1 k a 0:=by rfl
 refine VRun.loop (A:=Nat) (fun s_=> [(0,(T.os 1 0 0 (((Js Zl 1 k a s_).map (Qb true)).length))),(1,(tN (k+1*s_))),(4,(tN 0)),(5,(tN s_))]) (fun s_=>QY [(0,(Obj.rows 1 ((Js Zl 1 k a s_).map (Qb true))))]) 1 (fun s_=>s_≤a.length) (fun s_=>a.length - s_) (0:Nat) ?_ (Wk.mk (fun k=>k) ?_ ?_ ?_) ?_
 ·(simp;done)
 ·exact (bc ⟨(congrArg (fun l_=>T.os 1 0 0 (List.map (Qb true) l_).length) he1),rfl⟩ (bc ⟨(congrArg (T.int .i64) (show ((k:Nat):Int)=((k+1*0:Nat):Int) from (by rfl))),rfl⟩ (b2 (b2 bn))))
 ·exact (bc ⟨(congrArg (fun l_=>some (Obj.rows 1 (List.map (Qb true) l_))) he1),(lb Y),rfl⟩ bn)
 ·exact nd Y
 rintro i (hI':i≤a.length)
 show VRun _ _ _ [(0,(T.os 1 0 0 (((Js Zl 1 k a i).map (Qb true)).length))),(1,(tN (k+1*i))),(4,(tN 0)),(5,(tN i))] (QY [(0,(Obj.rows 1 ((Js Zl 1 k a i).map (Qb true))))]) 1 _
 have hml:=Qb8 (f:=Zl) (w:=1) (k:=k) hI'
 refine sq (sr (mO (tN i) Y (mO (T.os 1 0 0 (((Js Zl 1 k a i).map (Qb true)).length)) Y (lO (B.lenO (m:=(Js Zl 1 k a i).length) (tv (T.os 1 0 0 (((Js Zl 1 k a i).map (Qb true)).length)) Y) Zr (List.length_map ..)) (fO (Zb (tv (tN i) Y) (tv (tN ((Js Zl 1 k a i).length)) Y)) (nt ?_))))))
 refine cd (i<(Js Zl 1 k a i).length) Y (fun fhc0=> ?_) fun fhc0=> ?_
 ·refine sk ?_
  refine tn (sq (VRun.block (sr (mO (T.os 1 0 0 (((Js Zl 1 k a i).map (Qb true)).length)) Y (mO (tN i) Y (mO (tN (k+1*i)) Y ?_))))))
  obtain ⟨x1,hx1⟩:∃x,(Js Zl 1 k a i)[i]? =some x:=⟨_,List.getElem?_eq_getElem (by omega)⟩
  refine fO (B.indexAddrO (i:=i) (tv (T.os 1 0 0 (((Js Zl 1 k a i).map (Qb true)).length)) Y) (tv (tN i) Y) Y (by (simp only [List.length_map];omega)) Zr Zd Yo) (cO (B.storeP (us:= [(tN (k+1*i))]) (rows':=(((Js Zl 1 k a i).set i ((k+1*i:Nat):Int)).map (Qb true))) (row:=(Qb true x1)) (tv (T.orp 1 0 i 0) Y) (tv (tN (k+1*i)) Y) nofun Y (Qt _ hx1) Y (lb Y) Yo Zd (bc Y bn) (by intro r hr t ht;obtain ⟨x,_,rfl⟩:=List.mem_map.1 hr;rw [Qng] at ht;exact ZV (okInt.pl _ t ht)) (Ze Y)) (nt (VRun.region (mO (tN (k+1*i)) Y (fO (Qy (tv (tN (k+1*i)) Y) (VEv.int .i64 1) (by omega)) (aO (tN (k+1*i+1)) Y (VRunO.nil (vinB.n (tn (VRun.region (mO (tN i) Y ?_)))))))))))
  refine fO (Qy (tv (tN i) Y) (VEv.int .i64 1) (by omega)) (aO (tN (i+1)) Y (VRunO.nil (tn ?_)))
  have hi1:i+1≤a.length:=by omega
  have he2:((Js Zl 1 k a i).set i ((k+1*i:Nat):Int))=Js Zl 1 k a (i+1):=by (refine QjZ ?_;omega)
  refine ⟨(i+1:Nat),?_,?_,Wk.mk (fun k=>k) ?_ ?_ ?_⟩
  ·trivial
  ·omega
  ·exact (bc ⟨(congrArg (fun n_=>T.os 1 0 0 n_) (show ((Js Zl 1 k a i).map (Qb true)).length=((Js Zl 1 k a (i+1)).map (Qb true)).length from (by rw [List.length_map,List.length_map,Qb8 hI',Qb8 hi1]))),rfl⟩ (bc ⟨(congrArg (T.int .i64) (show (((k+1*i+1):Nat):Int)=((k+1*(i+1):Nat):Int) from (by rfl))),rfl⟩ (b2 (b2 bn))))
  ·exact (bc ⟨(congrArg (fun l_=>some (Obj.rows 1 (List.map (Qb true) l_))) he2),(lb Y),rfl⟩ bn)
  ·exact nd Y
 refine VRun.exit (vthn.e (vthn.e (vinB.e (tn (sr (mO (tN (k+1*i)) Y (aO (tN (k+1*i)) Y (nt (rt ?_)))))))))
 refine vmut.r (r0:=((k+1*i:Nat):Int)) (rows:=((Js Zl 1 k a i).map (Qb true))) Y Y Y ?_ ?_ Y
 ·(push_cast;omega)
 ·show List.map _ (Js Zl 1 k a i)=List.map _ (YH Zl 1 k a.length)
  refine congrArg (List.map _) ?_
  exact Qj0 hI' (by omega)
theorem QeW (n:Nat) (a:List Int) (k:Nat) (hh:a=YH Zl 1 k a.length) (hk:k+1*a.length≤YG):Pure (Qs Tryz.prog (n+1)) 22 [(rd 1 Qb a),(tN k)] (tN (k+1*a.length)):=by
 refine Pure.intro (rs:= [ResultVar.tmp 4]) Tryz.func22 Y Y Y (E0:= [(0,(rd 1 Qb a)),(1,(tN k))]) Y ?_
 obtain ⟨hlim,hmx,hmax⟩:=QG
 refine sr (fO (OF.assign (VEv.int .i64 0)) (nt (sq (sr (fO (OF.assign (VEv.int .i64 0)) (nt (VRun.block ?_)))))))
 refine VRun.loop (A:=Nat) (fun s_=> [(0,(rd 1 Qb a)),(1,(tN (k+1*s_))),(5,(tN s_))]) (fun s_=>QY []) 0 (fun s_=>s_≤a.length) (fun s_=>a.length - s_) (0:Nat) ?_ (Wk.mk (fun k=>k) ?_ ?_ ?_) ?_
 ·(simp;done)
 ·exact (b2 (bc ⟨(congrArg (T.int .i64) (show ((k:Nat):Int)=((k+1*0:Nat):Int) from (by rfl))),rfl⟩ (b2 bn)))
 ·exact bn
 ·exact nd Y
 rintro i (hI':i≤a.length)
 show VRun _ _ _ [(0,(rd 1 Qb a)),(1,(tN (k+1*i))),(5,(tN i))] (QY []) 0 _
 refine sq (sr (mO (tN i) Y (mO (rd 1 Qb a) Y (lO (B.lenR (m:=a.length) (tv (rd 1 Qb a) Y) Zr (List.length_map ..)) (fO (Zb (tv (tN i) Y) (tv (tN a.length) Y)) (nt ?_))))))
 refine cd (i<a.length) Y (fun fhc0=> ?_) fun fhc0=> ?_
 ·refine sk ?_
  refine tn (sq (VRun.block (sq (sr (mO (rd 1 Qb a) Y (mO (tN i) Y ?_))))))
  obtain ⟨x1,hx1⟩:∃x,a[i]? =some x:=⟨_,List.getElem?_eq_getElem (by omega)⟩
  refine fO (OF.indexAddrR (row:=(Qb false x1)) (i:=i) (tv (rd 1 Qb a) Y) (tv (tN i) Y) Y (Qt _ hx1) Zr Zd Yo) (lO (OL.loadR1 (t:=(tI x1)) (tv (T.rp [(tI x1)]) Y) Y QQ) (mO (tN (k+1*i)) Y (fO (xne (tv (tI x1) Y) (tv (tN (k+1*i)) Y)) (nt ?_))))
  refine cn (x1=((k+1*i:Nat):Int)) Y (fun fhc1=> ?_) fun fhc1=> ?_
  ·exact absurd (Qfh hh hx1) fhc1
  refine sk (tn (VRun.region (mO (tN (k+1*i)) Y (fO (Qy (tv (tN (k+1*i)) Y) (VEv.int .i64 1) (by omega)) (aO (tN (k+1*i+1)) Y (VRunO.nil (vinB.n (tn (VRun.region (mO (tN i) Y (fO (Qy (tv (tN i) Y) (VEv.int .i64 1) (by omega)) ?_)))))))))))
  refine aO (tN (i+1)) Y (VRunO.nil (tn ?_))
  refine ⟨(i+1:Nat),?_,?_,Wk.mk (fun k=>k) ?_ ?_ ?_⟩
  ·trivial
  ·omega
  ·exact (b2 (bc ⟨(congrArg (T.int .i64) (show (((k+1*i+1):Nat):Int)=((k+1*(i+1):Nat):Int) from (by rfl))),rfl⟩ (b2 bn)))
  ·exact bn
  ·exact nd Y
 refine VRun.exit (vthn.e (vthn.e (vinB.e (tn (sr (mO (tN (k+1*i)) Y (aO (tN (k+1*i)) Y (nt (rt (vi (n':=((k+1*i:Nat):Int)) Y ?_))))))))))
 omega
noncomputable section
def QD (c:D.Clue):Nat:=1+4*c.Play.length
def ZR (k:Nat) (c:D.Clue):D.Clue:=D.Clue.mk ((k:Nat):Int) (YH Zm 4 (k+1) c.Play.length)
theorem Qkf (k:Nat) (c:D.Clue):QD (ZR k c)=QD c:=by unfold QD ZR;simp only [Yl]
theorem Qm7 (k:Nat) (c:D.Clue):ZR k (ZR k c)=ZR k c:=by unfold ZR;simp only [Yl]
theorem QmB (c:D.Clue):QD c≤5*(1+QH c):=by
 have:=QU (z:=ZB) c.Play
 unfold QD QH
 omega
def QI : Nat→List D.Clue→List D.Clue:=mkL ZR QD
def Ql : Nat→List D.Clue→Nat:=Q2 QD
theorem QdH (k:Nat) (l:List D.Clue):QI k l=QI k (QI k l):=Qit Qkf Qm7 k l
theorem ZE (k k2:Nat) (l:List D.Clue):Ql k (QI k2 l)=Ql k l:=Qfx Qkf k k2 l
theorem Qfc (k:Nat) (l:List D.Clue):Ql k l≤k+5*zL QH l:=Qjz QmB k l
theorem Qal (k:Nat) (l:List D.Clue):(QI k l).length=l.length:=Qaz k l
end
theorem Qed (n:Nat) (a:List D.Clue) (k:Nat) (hk:Ql k a≤YG):LoanM (Qs Tryz.prog (n+3)) 76 [(2,(a.map (Qd true)))] [(T.os 2 0 0 ((a.map (Qd true)).length)),(tN k)] (tN (Ql k a)) [(2,((QI k a).map (Qd true)))]:=by
 refine LoanM.intro (rs:= [ResultVar.tmp 4]) [(0,(T.os 2 0 0 ((a.map (Qd true)).length)))] Tryz.func76 Y Y Y Y (bc ⟨by kernel_rfl,rfl⟩ bn) (PinsTo.at (And.intro trivial ⟨_,(.head _),(.os _ _)⟩)) (.int _ _) (bc (okeClue.cleanMap _) bn) (E0:= [(0,(T.os 2 0 0 ((a.map (Qd true)).length))),(1,(tN k))]) Y (fun asg=> ?_)
 obtain ⟨hlim,hmx,hmax⟩:=QG
 show VRun _ _ _ [(0,(T.os 2 0 0 ((a.map (Qd true)).length))),(1,(tN k))] (QY [(0,(Obj.rowsN 2 (a.map (Qd true)) (asg 0)))]) 1 _
 have hk2:=hk
 unfold Ql at hk2
 have hla:=Qe6 (w:=QD) (fun x=>Nat.le_add_right _ _) k a
 refine sr (fO (OF.assign (VEv.int .i64 0)) (nt (sq (sr (fO (OF.assign (VEv.int .i64 0)) (nt (VRun.block ?_)))))))
 have he1:a=YS ZR QD k a 0:=by rfl
 refine VRun.loop (A:=Nat) (fun s_=> [(0,(T.os 2 0 0 (((YS ZR QD k a s_).map (Qd true)).length))),(1,(tN (Q2 QD k (a.take s_)))),(4,(tN 0)),(5,(tN s_))]) (fun s_=>QY [(0,(Obj.rowsN 2 ((YS ZR QD k a s_).map (Qd true)) (asg 0)))]) 1 (fun s_=>s_≤a.length) (fun s_=>a.length - s_) (0:Nat) ?_ (Wk.mk (fun k=>k) ?_ ?_ ?_) ?_
 ·(simp;done)
 ·exact (bc ⟨(congrArg (fun l_=>T.os 2 0 0 (List.map (Qd true) l_).length) he1),rfl⟩ (bc ⟨(congrArg (T.int .i64) (show ((k:Nat):Int)=((Q2 QD k (a.take 0):Nat):Int) from (by rfl))),rfl⟩ (b2 (b2 bn))))
 ·exact (bc ⟨(congrArg (fun l_=>some (Obj.rowsN 2 (List.map (Qd true) l_) (asg 0))) he1),(lb Y),rfl⟩ bn)
 ·exact nd Y
 rintro i (hI':i≤a.length)
 show VRun _ _ _ [(0,(T.os 2 0 0 (((YS ZR QD k a i).map (Qd true)).length))),(1,(tN (Q2 QD k (a.take i)))),(4,(tN 0)),(5,(tN i))] (QY [(0,(Obj.rowsN 2 ((YS ZR QD k a i).map (Qd true)) (asg 0)))]) 1 _
 have hml:=Qbi (f:=ZR) (w:=QD) k a i
 have hme:=QaY (w:=QD) k a i
 refine sq (sr (mO (tN i) Y (mO (T.os 2 0 0 (((YS ZR QD k a i).map (Qd true)).length)) Y (lO (B.lenO (m:=(YS ZR QD k a i).length) (tv (T.os 2 0 0 (((YS ZR QD k a i).map (Qd true)).length)) Y) U35 (List.length_map ..)) (fO (Zb (tv (tN i) Y) (tv (tN ((YS ZR QD k a i).length)) Y)) (nt ?_))))))
 refine cd (i<(YS ZR QD k a i).length) Y (fun fhc0=> ?_) fun fhc0=> ?_
 ·refine sk ?_
  refine tn (sq (VRun.block (sr (mO (T.os 2 0 0 (((YS ZR QD k a i).map (Qd true)).length)) Y (mO (tN i) Y (mO (tN (Q2 QD k (a.take i))) Y ?_))))))
  obtain ⟨x1,hx1⟩:∃x,(YS ZR QD k a i)[i]? =some x:=⟨_,List.getElem?_eq_getElem (by omega)⟩
  (have hy1:=QlN (show i<a.length by omega) hx1;have hnx:=Qff (w:=QD) (k:=k) hy1;have hnt:=QaY (w:=QD) k a (i+1);have hw2:QD x1=1+4*x1.Play.length:=rfl)
  refine fO (B.indexAddrO (i:=i) (tv (T.os 2 0 0 (((YS ZR QD k a i).map (Qd true)).length)) Y) (tv (tN i) Y) Y (by (simp only [List.length_map];omega)) U35 ZP Qak) (fO (OF.fieldAddrP (tv (T.orp 2 0 i 0) Y) QaL) (cO (B.storeN (t0:=(tI x1.Sense)) (rows':=(((YS ZR QD k a i).set i (D.Clue.mk ((Q2 QD k (a.take i):Nat):Int) x1.Play)).map (Qd true))) (row:=(Qd true x1)) (tv (T.orp 2 0 i 0) Y) (tv (tN (Q2 QD k (a.take i))) Y) Y Y (Qt _ hx1) Y Y Yo Zd (Ze Y)) (nt (sr (mO (tN (Q2 QD k (a.take i))) Y (fO (Qy (tv (tN (Q2 QD k (a.take i))) Y) (VEv.int .i64 1) (by omega)) (aO (tN (Q2 QD k (a.take i)+1)) Y (nt (VRun.region (mO (T.os 2 0 0 (((YS ZR QD k a i).map (Qd true)).length)) Y (mO (tN i) Y ?_)))))))))))
  refine fO (B.indexAddrO (i:=i) (tv (T.os 2 0 0 (((YS ZR QD k a i).map (Qd true)).length)) Y) (tv (tN i) Y) Y (by (simp only [List.length_map];omega)) U35 ZP Qak) (fO (OF.fieldAddrP (tv (T.orp 2 0 i 0) Y) QaG) (VRunO.nest (row:=(Qd true (D.Clue.mk ((Q2 QD k (a.take i):Nat):Int) x1.Play))) (rs:=(x1.Play.map (Qg true))) (rs':=((YH Zm 4 (Q2 QD k (a.take i)+1) x1.Play.length).map (Qg true))) (rows':=((((YS ZR QD k a i).set i (D.Clue.mk ((Q2 QD k (a.take i):Nat):Int) x1.Play)).set i (D.Clue.mk ((Q2 QD k (a.take i):Nat):Int) (YH Zm 4 (Q2 QD k (a.take i)+1) x1.Play.length))).map (Qd true))) (n:=(((Q2 QD k (a.take i)+1):Nat):Int)) (r:=(((Q2 QD k (a.take i)+1)+4*x1.Play.length:Nat):Int)) Y (tv (T.orp 2 0 i 1) Y) Y (Qt _ (QbY (by omega))) Y Qhl (tv (tN (Q2 QD k (a.take i)+1)) Y) Y (QaX (n+0) x1.Play (Q2 QD k (a.take i)+1) (by omega)) (okeStep.cleanMap _) (Ze Y) (aO (tN ((Q2 QD k (a.take i)+1)+4*x1.Play.length)) Y (VRunO.nil (vinB.n (tn (VRun.region (mO (tN i) Y (fO (Qy (tv (tN i) Y) (VEv.int .i64 1) (by omega)) (aO (tN (i+1)) Y (VRunO.nil ?_)))))))))))
  refine tn ?_
  have he2:(((YS ZR QD k a i).set i (D.Clue.mk ((Q2 QD k (a.take i):Nat):Int) x1.Play)).set i (D.Clue.mk ((Q2 QD k (a.take i):Nat):Int) (YH Zm 4 (Q2 QD k (a.take i)+1) x1.Play.length)))=YS ZR QD k a (i+1):=by (rw [List.set_set];exact Qj1 hy1 Y)
  refine ⟨(i+1:Nat),?_,?_,Wk.mk (fun k=>k) ?_ ?_ ?_⟩
  ·omega
  ·omega
  ·exact (bc ⟨(congrArg (fun n_=>T.os 2 0 0 n_) (show ((YS ZR QD k a i).map (Qd true)).length=((YS ZR QD k a (i+1)).map (Qd true)).length from (by rw [List.length_map,List.length_map,Qbi,Qbi]))),rfl⟩ (bc ⟨(congrArg (T.int .i64) (show (((Q2 QD k (a.take i)+1)+4*x1.Play.length:Nat):Int)=((Q2 QD k (a.take (i+1)):Nat):Int) from (by omega))),rfl⟩ (b2 (b2 bn))))
  ·exact (bc ⟨(congrArg (fun l_=>some (Obj.rowsN 2 (List.map (Qd true) l_) (asg 0))) he2),(lb Y),rfl⟩ bn)
  ·exact nd Y
 refine VRun.exit (vthn.e (vthn.e (vinB.e (tn (sr (mO (tN (Q2 QD k (a.take i))) Y (aO (tN (Q2 QD k (a.take i))) Y (nt (rt ?_)))))))))
 have hnew0:YS ZR QD k a i=QI k a:=by
  exact Qiz (by omega)
 exact vloanM.r (L1:= [(2,((YS ZR QD k a i).map (Qd true)))]) (fun k=>k) (VRes.tmp (t:=(tN (Q2 QD k (a.take i)))) Y VRes.nil) (congrArg (T.int .i64) (show ((Q2 QD k (a.take i):Nat):Int)=((Ql k a:Nat):Int) by rw [List.take_of_length_le (by omega)];rfl)) (bc (congrArg (fun n_=>T.os 2 0 0 n_) (show ((YS ZR QD k a i).map (Qd true)).length=(a.map (Qd true)).length from (by rw [List.length_map,List.length_map,Qbi]))) bn) (And.intro Y (trivial)) (by rw [hnew0])
theorem Qec (n:Nat) (a:List D.Clue) (k:Nat) (hh:a=QI k a) (hk:Ql k a≤YG):Pure (Qs Tryz.prog (n+3)) 77 [(rd 2 Qd a),(tN k)] (tN (Ql k a)):=by
 refine Pure.intro (rs:= [ResultVar.tmp 4]) Tryz.func77 Y Y Y (E0:= [(0,(rd 2 Qd a)),(1,(tN k))]) Y ?_
 obtain ⟨hlim,hmx,hmax⟩:=QG
 have hk2:=hk
 unfold Ql at hk2
 have hla:=Qe6 (w:=QD) (fun x=>Nat.le_add_right _ _) k a
 refine sr (fO (OF.assign (VEv.int .i64 0)) (nt (sq (sr (fO (OF.assign (VEv.int .i64 0)) (nt (VRun.block ?_)))))))
 refine VRun.loop (A:=Nat) (fun s_=> [(0,(rd 2 Qd a)),(1,(tN (Q2 QD k (a.take s_)))),(5,(tN s_))]) (fun s_=>QY []) 0 (fun s_=>s_≤a.length) (fun s_=>a.length - s_) (0:Nat) ?_ (Wk.mk (fun k=>k) ?_ ?_ ?_) ?_
 ·(simp;done)
 ·exact (b2 (bc ⟨(congrArg (T.int .i64) (show ((k:Nat):Int)=((Q2 QD k (a.take 0):Nat):Int) from (by rfl))),rfl⟩ (b2 bn)))
 ·exact bn
 ·exact nd Y
 rintro i (hI':i≤a.length)
 show VRun _ _ _ [(0,(rd 2 Qd a)),(1,(tN (Q2 QD k (a.take i)))),(5,(tN i))] (QY []) 0 _
 have hme:=QaY (w:=QD) k a i
 refine sq (sr (mO (tN i) Y (mO (rd 2 Qd a) Y (lO (B.lenR (m:=a.length) (tv (rd 2 Qd a) Y) U35 (List.length_map ..)) (fO (Zb (tv (tN i) Y) (tv (tN a.length) Y)) (nt ?_))))))
 refine cd (i<a.length) Y (fun fhc0=> ?_) fun fhc0=> ?_
 ·refine sk ?_
  refine tn (sq (VRun.block (sq (sr (mO (rd 2 Qd a) Y (mO (tN i) Y ?_))))))
  obtain ⟨x1,hx1⟩:∃x,a[i]? =some x:=⟨_,List.getElem?_eq_getElem (by omega)⟩
  have hel:=Ql7 (f:=ZR) (w:=QD) hh hx1
  have hnx:=Qff (w:=QD) (k:=k) hx1
  have hnt:=QaY (w:=QD) k a (i+1)
  have hsn:=congrArg (fun c:D.Clue=>c.Sense) hel
  have hpl:=congrArg (fun c:D.Clue=>c.Play) hel
  have hw3:QD x1=1+4*x1.Play.length:=rfl
  refine fO (OF.indexAddrR (row:=(Qd false x1)) (i:=i) (tv (rd 2 Qd a) Y) (tv (tN i) Y) Y (Qt _ hx1) U35 ZP Qak) (lr (tI x1.Sense) Y (lb Y) QaL Y QQ (mO (tN (Q2 QD k (a.take i))) Y (fO (xne (tv (tI x1.Sense) Y) (tv (tN (Q2 QD k (a.take i))) Y)) (nt ?_))))
  refine cn (x1.Sense=((Q2 QD k (a.take i):Nat):Int)) Y (fun fhc1=> ?_) fun fhc1=> ?_
  ·exact absurd hsn fhc1
  refine sk (tn (sr (mO (tN (Q2 QD k (a.take i))) Y (fO (Qy (tv (tN (Q2 QD k (a.take i))) Y) (VEv.int .i64 1) (by (have hw2:QD x1=1+4*x1.Play.length:=rfl;omega))) (aO (tN (Q2 QD k (a.take i)+1)) Y (nt (sr (mO (rd 2 Qd a) Y (mO (tN i) Y (fO (OF.indexAddrR (row:=(Qd false x1)) (i:=i) (tv (rd 2 Qd a) Y) (tv (tN i) Y) Y (Qt _ hx1) U35 ZP Qak) (lr (rd 4 Qg x1.Play) Y (lb Y) QaG Y Qhl ?_)))))))))))
  refine mO (tN (Q2 QD k (a.take i)+1)) Y (cO (cS (vc (tv (rd 4 Qg x1.Play) Y) (vc (tv (tN (Q2 QD k (a.take i)+1)) Y) vn)) (ZO Y) (Qep (n+0) x1.Play (Q2 QD k (a.take i)+1) (by exact hpl) (by (have hw2:QD x1=1+4*x1.Play.length:=rfl;omega))) Y Y) (aO (tN ((Q2 QD k (a.take i)+1)+4*x1.Play.length)) Y (nt (sr (mO (tN ((Q2 QD k (a.take i)+1)+4*x1.Play.length)) Y (fO (B.lss (c:=(decide ((Q2 QD k (a.take i)+1)+4*x1.Play.length<0))) (tv (tN ((Q2 QD k (a.take i)+1)+4*x1.Play.length)) Y) (VEv.int .i64 0) (by exact Q6 (by omega))) (nt ?_)))))))
  refine cd ((Q2 QD k (a.take i)+1)+4*x1.Play.length<0) Y (fun fhc2=> ?_) fun fhc2=> ?_
  ·omega
  refine sk (vinB.n (tn (VRun.region (mO (tN i) Y (fO (Qy (tv (tN i) Y) (VEv.int .i64 1) (by (have hw2:QD x1=1+4*x1.Play.length:=rfl;omega))) (aO (tN (i+1)) Y (VRunO.nil (tn ?_))))))))
  refine ⟨(i+1:Nat),?_,?_,Wk.mk (fun k=>k) ?_ ?_ ?_⟩
  ·trivial
  ·omega
  ·exact (b2 (bc ⟨(congrArg (T.int .i64) (show (((Q2 QD k (a.take i)+1)+4*x1.Play.length:Nat):Int)=((Q2 QD k (a.take (i+1)):Nat):Int) from (by omega))),rfl⟩ (b2 bn)))
  ·exact bn
  ·exact nd Y
 refine VRun.exit (vthn.e (vthn.e (vinB.e (tn (sr (mO (tN (Q2 QD k (a.take i))) Y (aO (tN (Q2 QD k (a.take i))) Y (nt (rt (vi (n':=((Q2 QD k (a.take i):Nat):Int)) Y ?_))))))))))
 exact congrArg (fun x:Nat=>(x:Int)) (by rw [List.take_of_length_le (by omega)];rfl)
end Go.Proofs.YtcccmceoplcciaaGreat.AE
