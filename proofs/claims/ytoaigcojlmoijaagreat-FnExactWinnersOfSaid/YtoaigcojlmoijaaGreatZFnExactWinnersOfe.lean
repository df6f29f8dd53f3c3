/- A part of what the row of FnExactWinnersOf uses. Conditions: as each theorem states. -/
import Derived.Test.YtoaigcojlmoijaaGreatZFnExactWinnersOfd
namespace Go.Proofs.YtoaigcojlmoijaaGreat.AE
open Go Go.RowKit
set_option linter.unusedVariables false
set_option linter.unusedSimpArgs false
set_option maxRecDepth 20000
set_option maxHeartbeats 2000000
noncomputable section
def nUn (g:D.Grid) (l:List Int):Nat:=(l.filter fun c=> !decide (chk g c)).length
theorem QiX (g:D.Grid) (l:List Int):nUn g l≤l.length:=List.length_filter_le _ _
theorem Qdc {g:D.Grid} {l:List Int} {i:Nat} {x:Int} (h:l[i]? =some x):nUn g (l.take (i+1))=nUn g (l.take i)+(if chk g x then 0 else 1):=by
 unfold nUn
 rw [List.take_add_one,h,List.filter_append,List.length_append]
 by_cases hc:chk g x<;>simp [hc]
def unG (g:D.Grid) (slot:Int):Int:=if 0≤slot then (match (Qb g)[slot.toNat]? with | some s=>((nUn g (Qk g s s.Length.toNat):Nat):Int) | none=> -1) else -1
theorem Qlu {g:D.Grid} {slot:Int} (h:¬(0≤slot∧slot<(((Qb g).length:Nat):Int))):unG g slot= -1:=by
 unfold unG
 by_cases h1:0≤slot
 ·rw [if_pos h1,List.getElem?_eq_none (by omega)]
 ·rw [if_neg h1]
theorem Qld {g:D.Grid} {slot:Int} {s:D.Slot} (h1:0≤slot) (h:(Qb g)[slot.toNat]? =some s):unG g slot=((nUn g (Qk g s s.Length.toNat):Nat):Int):=by
 unfold unG
 rw [if_pos h1,h]
theorem Jf {α:Type} {l:List α} {i:Nat} (h1:i≤l.length) (h2:¬i<l.length):l.take i=l:=List.take_of_length_le (by omega)
theorem YK {α:Type} (l:List α) (i:Nat):(l.take i).length≤i:=by rw [List.length_take];omega
end
theorem QcD (n:Nat) (g:D.Grid) (slot:Int) (hc:g.Cells.size≤maxLen):Pure (Qs Tryz.prog (n+7)) 128 [(T.agg (Qd false g)),(tI slot)] (tI (unG g slot)):=by
 refine Pure.intro (rs:= [ResultVar.tmp 4]) Tryz.func128 Y Y Y (E0:= [(0,(T.agg (Qd false g))),(1,(tI slot))]) Y ?_
 obtain ⟨hlim,hmx,hmax⟩:=QA
 have hsl:=Zw g
 refine sr (kO (B.box (ts:=(Qd false g)) (tv (T.agg (Qd false g)) Y) nofun Y) (fO (OF.assign (VEv.int .i64 0)) (nt (sr (lO (OL.loadOn (us:=(Qd false g)) (tv (T.op 0 0) Y) Y Q4 Q0 (lb Y) Y) (cO (OC.callF (r':=(T.os 4 1 0 (((Qb g).map (Qj true)).length))) (objs:= [(Obj.rows 4 ((Qb g).map (Qj true)))]) Y (vc (tv (T.agg (Qd false g)) Y) vn) (LendL.cons (lg Qu) ln) (ZP (n+3) g (by assumption)) Y) (aO (T.os 4 1 0 (((Qb g).map (Qj true)).length)) Y (nt (sq (sr (mO (tI slot) Y ?_)))))))))))
 refine mO (T.os 4 1 0 (((Qb g).map (Qj true)).length)) Y (lO (B.lenO (m:=(Qb g).length) (tv (T.os 4 1 0 (((Qb g).map (Qj true)).length)) Y) U94 (List.length_map ..)) (fO (B.sub (n:=((((Qb g).length:Nat):Int) - 1)) (tv (tN ((Qb g).length)) Y) (VEv.int .i64 1) (by (rw [Qt (by omega)];done))) (cO (cS (vc (tv (tI slot) Y) (vc (VEv.int .i64 0) (vc (tv (tI ((((Qb g).length:Nat):Int) - 1)) Y) vn))) (Z8 Y) (Q2 (n+5) slot 0 ((((Qb g).length:Nat):Int) - 1)) Y Y) (fO (Zd (tv (tB (decide (0≤slot∧slot≤((((Qb g).length:Nat):Int) - 1)))) Y)) (nt ?_)))))
 refine cn (0≤slot∧slot≤((((Qb g).length:Nat):Int) - 1)) Y (fun fhc0=> ?_) fun fhc0=> ?_
 ·refine sr ?_
  refine fO (OF.assign (VEv.int .i64 (-1))) (nt (rt (tr (vi (n':=(-1)) Y ?_))))
  exact (Qlu (by omega)).symm
 have hs0:0≤slot:=by omega
 refine sk (tn (sq (VRun.draw (B:= [[],[],[],[2,1],[1,2,3],[3,2,1,4,0],[0,4,1,2,3,5]]) (by kernel_rfl) (by kernel_rfl) Y (lD (OL.loadOn (us:=(Qd false g)) (tv (T.op 0 0) Y) Y Q4 Q0 (lb Y) Y) Y Y (mD (T.os 4 1 0 (((Qb g).map (Qj true)).length)) Y Y (mD (tI slot) Y Y ?_))))))
 obtain ⟨x1,hx1⟩:∃x,(Qb g)[(Int.toNat slot)]? =some x:=⟨_,List.getElem?_eq_getElem (by omega)⟩
 refine fD (B.indexAddrO (i:=(Int.toNat slot)) (tv (T.os 4 1 0 (((Qb g).map (Qj true)).length)) Y) (tv (tI slot) Y) (by omega) (by (simp only [List.length_map];omega)) U94 Zz QbC) Y Y (lD (OL.loadPn (us:=(Qj false x1)) (row:=(Qj true x1)) (tv (T.orp 4 1 (Int.toNat slot) 0) Y) Y (Qr _ hx1) Qdj Zz (lb Y) Y (bc Y (bc Y (bc Y (bc Y bn))))) Y Y (VRunD.quiet (bi:= [3,2,1,4,0]) Y VWant.always Y Y Y bn (OC.callF (r':=(T.os 1 2 0 (((if x1∈Qb g then Qk g x1 x1.Length.toNat else []).map (Qc true)).length))) (objs:= [(Obj.rows 1 ((if x1∈Qb g then Qk g x1 x1.Length.toNat else []).map (Qc true)))]) Y (vc (tv (T.agg (Qd false g)) Y) (vc (tv (T.agg (Qj false x1)) Y) vn)) (LendL.cons (lg Qu) (LendL.cons (lg okeSlot) ln)) (Qam (n+2) g x1 (by assumption)) Y) (fD (OF.assign (tv (T.os 1 2 0 (((if x1∈Qb g then Qk g x1 x1.Length.toNat else []).map (Qc true)).length)) Y)) Y Y (VRunD.nil (tn (sr (fO (OF.assign (VEv.int .i64 0)) (nt (sq (sr (fO (OF.assign (VEv.int .i64 0)) ?_)))))))))))
 refine nt (VRun.block ?_)
 refine VRun.loop (A:=Nat×Nat) (fun s_=> [(2,(T.op 0 0)),(4,(tN 0)),(6,(T.os 1 1 0 (((if x1∈Qb g then Qk g x1 x1.Length.toNat else []).map (Qc true)).length))),(7,(tN s_.2)),(8,(tN s_.1))]) (fun s_=>QV [(0,(Obj.cells (Qd false g))),(1,(Obj.rows 1 ((if x1∈Qb g then Qk g x1 x1.Length.toNat else []).map (Qc true))))]) 2 (fun s_=>s_.1≤(if x1∈Qb g then Qk g x1 x1.Length.toNat else []).length∧s_.2=nUn g ((if x1∈Qb g then Qk g x1 x1.Length.toNat else []).take s_.1)) (fun s_=>(if x1∈Qb g then Qk g x1 x1.Length.toNat else []).length - s_.1) ((0,0):Nat×Nat) ?_ (Wk.mk (fun k=>if k=1 then 2 else k) ?_ ?_ ?_) ?_
 ·exact ⟨Nat.zero_le _,rfl⟩
 ·exact (b2 (b2 (b2 (b2 (b2 bn)))))
 ·exact (b3 (b3 bn))
 ·exact nd Y
 rintro ⟨i,m⟩ (hI':i≤(if x1∈Qb g then Qk g x1 x1.Length.toNat else []).length∧m=nUn g ((if x1∈Qb g then Qk g x1 x1.Length.toNat else []).take i))
 show VRun _ _ _ [(2,(T.op 0 0)),(4,(tN 0)),(6,(T.os 1 1 0 (((if x1∈Qb g then Qk g x1 x1.Length.toNat else []).map (Qc true)).length))),(7,(tN m)),(8,(tN i))] (QV [(0,(Obj.cells (Qd false g))),(1,(Obj.rows 1 ((if x1∈Qb g then Qk g x1 x1.Length.toNat else []).map (Qc true))))]) 2 _
 have hI1:=hI'.1
 have hl6:=Qhk g x1
 have hn6:=QiX g ((if x1∈Qb g then Qk g x1 x1.Length.toNat else []).take i)
 have ht6:=YK (if x1∈Qb g then Qk g x1 x1.Length.toNat else []) i
 have hI2:=hI'.2
 refine sq (sr (mO (tN i) Y (mO (T.os 1 1 0 (((if x1∈Qb g then Qk g x1 x1.Length.toNat else []).map (Qc true)).length)) Y (lO (B.lenO (m:=(if x1∈Qb g then Qk g x1 x1.Length.toNat else []).length) (tv (T.os 1 1 0 (((if x1∈Qb g then Qk g x1 x1.Length.toNat else []).map (Qc true)).length)) Y) Z1 (List.length_map ..)) (fO (Q5 (tv (tN i) Y) (tv (tN ((if x1∈Qb g then Qk g x1 x1.Length.toNat else []).length)) Y)) (nt ?_))))))
 refine cd (i<(if x1∈Qb g then Qk g x1 x1.Length.toNat else []).length) Y (fun fhc1=> ?_) fun fhc1=> ?_
 ·refine sk ?_
  refine tn (sq (VRun.block (sq (VRun.draw (B:= [[],[],[],[2,1],[1,2,3],[3,2,1,4,0],[0,4,1,2,3,5]]) (by kernel_rfl) (by kernel_rfl) Y (lD (OL.loadOn (us:=(Qd false g)) (tv (T.op 0 0) Y) Y Q4 Q0 (lb Y) Y) Y Y (mD (T.os 1 1 0 (((if x1∈Qb g then Qk g x1 x1.Length.toNat else []).map (Qc true)).length)) Y Y (mD (tN i) Y Y ?_)))))))
  obtain ⟨x2,hx2⟩:∃x,(if x1∈Qb g then Qk g x1 x1.Length.toNat else [])[i]? =some x:=⟨_,List.getElem?_eq_getElem (by omega)⟩
  refine fD (B.indexAddrO (i:=i) (tv (T.os 1 1 0 (((if x1∈Qb g then Qk g x1 x1.Length.toNat else []).map (Qc true)).length)) Y) (tv (tN i) Y) Y (by (simp only [List.length_map];omega)) Z1 ZA YR) Y Y (lD (OL.loadP1 (t:=(tI x2)) (row:=(Qc true x2)) (tv (T.orp 1 1 i 0) Y) Y (Qr _ hx2) Y Y QQ) Y Y (VRunD.quiet (bi:= [3,2,1,4,0]) Y VWant.always Y Y Y bn (cS (vc (tv (T.agg (Qd false g)) Y) (vc (tv (tI x2) Y) vn)) (LendL.cons (lg Qu) (lp Y ln)) (QdW (n+0) g x2 (by assumption)) Y Y) (fD (Zd (tv (tB (decide (chk g x2))) Y)) Y Y (VRunD.nil (tn ?_)))))
  refine cn (chk g x2) Y (fun fhc2=> ?_) fun fhc2=> ?_
  ·refine VRun.region ?_
   refine mO (tN m) Y (fO (Qx (tv (tN m) Y) (VEv.int .i64 1) (by omega)) (aO (tN (m+1)) Y (VRunO.nil (vinB.n (tn (VRun.region (mO (tN i) Y (fO (Qx (tv (tN i) Y) (VEv.int .i64 1) (by omega)) (aO (tN (i+1)) Y (VRunO.nil (tn ?_)))))))))))
   refine ⟨((i+1,m+(if chk g x2 then 0 else 1)):Nat×Nat),?_,?_,Wk.mk (fun k=>k) ?_ ?_ ?_⟩
   ·exact ⟨by omega,by rw [Qdc hx2,← hI2]⟩
   ·omega
   ·exact (b2 (b2 (b2 (bc ⟨(congrArg (T.int .i64) (show (((m+1):Nat):Int)=(((m+(if chk g x2 then 0 else 1)):Nat):Int) from (by (rw [if_neg fhc2];done)))),rfl⟩ (b2 bn)))))
   ·exact (b3 (b3 bn))
   ·exact nd Y
  refine sk (vinB.n (tn (VRun.region (mO (tN i) Y (fO (Qx (tv (tN i) Y) (VEv.int .i64 1) (by omega)) (aO (tN (i+1)) Y (VRunO.nil (tn ?_))))))))
  refine ⟨((i+1,m+(if chk g x2 then 0 else 1)):Nat×Nat),?_,?_,Wk.mk (fun k=>k) ?_ ?_ ?_⟩
  ·exact ⟨by omega,by rw [Qdc hx2,← hI2]⟩
  ·omega
  ·exact (b2 (b2 (b2 (bc ⟨(congrArg (T.int .i64) (show ((m:Nat):Int)=(((m+(if chk g x2 then 0 else 1)):Nat):Int) from (by (rw [if_pos fhc2];omega)))),rfl⟩ (b2 bn)))))
  ·exact (b3 (b3 bn))
  ·exact nd Y
 refine VRun.exit (vthn.e (vthn.e (vinB.e (tn (sr (mO (tN m) Y (aO (tN m) Y (nt (rt (vi (n':=((m:Nat):Int)) Y ?_))))))))))
 rw [Qld hs0 hx1,hI2,Jf hI1 fhc1,Qhv hx1]
theorem QcS (n:Nat) (g:D.Grid) (slot:Int) (hc:g.Cells.size≤maxLen):Pure (Qs Tryz.prog (n+7)) 121 [(T.agg (Qd false g)),(tI slot)] (tI (unG g slot)):=by
 refine Pure.intro (rs:= [ResultVar.tmp 4]) Tryz.func121 Y Y Y (E0:= [(0,(T.agg (Qd false g))),(1,(tI slot))]) Y ?_
 obtain ⟨hlim,hmx,hmax⟩:=QA
 have hsl:=Zw g
 have hll:=Qbc g
 refine sr (kO (B.box (ts:=(Qd false g)) (tv (T.agg (Qd false g)) Y) nofun Y) (fO (OF.assign (VEv.int .i64 0)) (nt (sr (lO (OL.loadOn (us:=(Qd false g)) (tv (T.op 0 0) Y) Y Q4 Q0 (lb Y) Y) (cO (OC.callF (r':=(T.os 1 1 0 (((QI g).map ((Jo 1 Qc) true)).length))) (objs:= [(Obj.rows 1 ((QI g).map ((Jo 1 Qc) true)))]) Y (vc (tv (T.agg (Qd false g)) Y) vn) (LendL.cons (lg Qu) ln) (JC (n+2) g (by assumption)) Y) (aO (T.os 1 1 0 (((QI g).map ((Jo 1 Qc) true)).length)) Y (nt (sq (sr (mO (tI slot) Y ?_)))))))))))
 refine mO (T.os 1 1 0 (((QI g).map ((Jo 1 Qc) true)).length)) Y (lO (B.lenO (m:=(QI g).length) (tv (T.os 1 1 0 (((QI g).map ((Jo 1 Qc) true)).length)) Y) Qfd (List.length_map ..)) (cO (cS (vc (tv (tI slot) Y) (vc (tv (tN ((QI g).length)) Y) vn)) (Z8 Y) (Jy (n+5) slot (((QI g).length:Nat):Int)) Y Y) (fO (Zd (tv (tB (decide (0≤slot∧slot<(((QI g).length:Nat):Int)))) Y)) (nt ?_))))
 refine cn (0≤slot∧slot<(((QI g).length:Nat):Int)) Y (fun fhc0=> ?_) fun fhc0=> ?_
 ·refine sr ?_
  refine fO (OF.assign (VEv.int .i64 (-1))) (nt (rt (tr (vi (n':=(-1)) Y ?_))))
  exact (Qlu (by omega)).symm
 refine sk (tn (sr (fO (OF.assign (VEv.int .i64 0)) (nt (sq (VRun.wk (Wk.freeze (sz:=1) (k:=1) (rows':=((QI g).map ((Jo 1 Qc) false))) [5,10,12] (bc Y (bc Y (bc Y bn))) Y Y ((Qk1 okInt).fzMap _ _)) ?_))))))
 have hs0:0≤slot:=by omega
 refine sr (mO (rd 1 (Jo 1 Qc) (QI g)) Y (mO (tI slot) Y ?_))
 obtain ⟨x1,hx1⟩:∃x,(QI g)[(Int.toNat slot)]? =some x:=⟨_,List.getElem?_eq_getElem (by omega)⟩
 obtain ⟨y1,hy1,hq1⟩:=Qe1 hx1
 refine fO (OF.indexAddrR (row:=((Jo 1 Qc) false x1)) (i:=(Int.toNat slot)) (tv (rd 1 (Jo 1 Qc) (QI g)) Y) (tv (tI slot) Y) (by omega) (Qr _ hx1) Qfd QfV Qjj) (lO (OL.loadR1 (t:=(rd 1 Qc x1)) (tv (T.rp [(rd 1 Qc x1)]) Y) Y Qcm) (lO (B.lenR (m:=x1.length) (tv (rd 1 Qc x1) Y) Z1 (List.length_map ..)) (fO (OF.move (VEv.int .i64 0)) (nt (VRun.block ?_)))))
 refine VRun.loop (A:=Nat×Nat) (fun s_=> [(2,(T.op 0 0)),(4,(tN 0)),(6,(tN s_.2)),(19,(rd 1 Qc x1)),(20,(tN x1.length)),(21,(tN s_.1))]) (fun s_=>QV [(0,(Obj.cells (Qd false g)))]) 1 (fun s_=>s_.1≤x1.length∧s_.2=nUn g (x1.take s_.1)) (fun s_=>x1.length - s_.1) ((0,0):Nat×Nat) ?_ (Wk.mk (fun k=>k) ?_ ?_ ?_) ?_
 ·exact ⟨Nat.zero_le _,rfl⟩
 ·exact (b2 (b2 (b2 (b2 (b2 (b2 bn))))))
 ·exact (b3 bn)
 ·exact nd Y
 rintro ⟨i,m⟩ (hI':i≤x1.length∧m=nUn g (x1.take i))
 show VRun _ _ _ [(2,(T.op 0 0)),(4,(tN 0)),(6,(tN m)),(19,(rd 1 Qc x1)),(20,(tN x1.length)),(21,(tN i))] (QV [(0,(Obj.cells (Qd false g)))]) 1 _
 have hI1:=hI'.1
 have hl6:=Qch hy1
 rw [← hq1] at hl6
 have hn6:=QiX g (x1.take i)
 have ht6:=YK x1 i
 have hI2:=hI'.2
 refine sr (fO (Q5 (tv (tN i) Y) (tv (tN x1.length) Y)) (nt (sq ?_)))
 refine cd (i<x1.length) Y (fun fhc1=> ?_) fun fhc1=> ?_
 ·refine sk ?_
  refine tn (sq (VRun.block (sr ?_)))
  obtain ⟨x2,hx2⟩:∃x,x1[i]? =some x:=⟨_,List.getElem?_eq_getElem (by omega)⟩
  skip
  refine fO (OF.indexAddrR (row:=(Qc false x2)) (i:=i) (tv (rd 1 Qc x1) Y) (tv (tN i) Y) Y (Qr _ hx2) Z1 ZA YR) (lO (OL.loadR1 (t:=(tI x2)) (tv (T.rp [(tI x2)]) Y) Y QQ) (aO (tI x2) Y (nt (sr (lO (OL.loadOn (us:=(Qd false g)) (tv (T.op 0 0) Y) Y Q4 Q0 (lb Y) Y) (mO (tI x2) Y (cO (cS (vc (tv (T.agg (Qd false g)) Y) (vc (tv (tI x2) Y) vn)) (LendL.cons (lg Qu) (lp Y ln)) (QdP (n+0) g x2 (by assumption)) Y Y) (fO (Zd (tv (tB (decide (chk g x2))) Y)) (nt ?_)))))))))
  refine cn (chk g x2) Y (fun fhc2=> ?_) fun fhc2=> ?_
  ·refine VRun.region ?_
   refine mO (tN m) Y (fO (Qx (tv (tN m) Y) (VEv.int .i64 1) (by omega)) (aO (tN (m+1)) Y (VRunO.nil (vinB.n (tn (VRun.region (fO (Qx (tv (tN i) Y) (VEv.int .i64 1) (by omega)) (mO (tN (i+1)) Y (VRunO.nil (tn ?_))))))))))
   refine ⟨((i+1,m+(if chk g x2 then 0 else 1)):Nat×Nat),?_,?_,Wk.mk (fun k=>k) ?_ ?_ ?_⟩
   ·exact ⟨by omega,by rw [Qdc hx2,← hI2]⟩
   ·omega
   ·exact (b2 (b2 (bc ⟨(congrArg (T.int .i64) (show (((m+1):Nat):Int)=(((m+(if chk g x2 then 0 else 1)):Nat):Int) from (by (rw [if_neg fhc2];done)))),rfl⟩ (b2 (b2 (b2 bn))))))
   ·exact (b3 bn)
   ·exact nd Y
  refine sk (vinB.n (tn (VRun.region (fO (Qx (tv (tN i) Y) (VEv.int .i64 1) (by omega)) (mO (tN (i+1)) Y (VRunO.nil (tn ?_)))))))
  refine ⟨((i+1,m+(if chk g x2 then 0 else 1)):Nat×Nat),?_,?_,Wk.mk (fun k=>k) ?_ ?_ ?_⟩
  ·exact ⟨by omega,by rw [Qdc hx2,← hI2]⟩
  ·omega
  ·exact (b2 (b2 (bc ⟨(congrArg (T.int .i64) (show ((m:Nat):Int)=(((m+(if chk g x2 then 0 else 1)):Nat):Int) from (by (rw [if_pos fhc2];omega)))),rfl⟩ (b2 (b2 (b2 bn))))))
  ·exact (b3 bn)
  ·exact nd Y
 refine VRun.exit (vthn.e (vthn.e (vinB.e (tn (sr (mO (tN m) Y (aO (tN m) Y (nt (rt (vi (n':=((m:Nat):Int)) Y ?_))))))))))
 rw [Qld hs0 hy1,hI2,Jf hI1 fhc1,hq1]
noncomputable section
def QeE (g:D.Grid) (i:Nat) (s:D.Slot):Prop:=s.Length<2*unG g ((i:Nat):Int)
def Qj0 (g:D.Grid) (c:Int):Prop:=∃s∈Qb g,inS g c s
def Qa6 (g:D.Grid) (c:Nat):Prop:=Qv g.Cells c=46∧¬Qj0 g ((c:Nat):Int)
def QbX (g:D.Grid):Prop:=(∃i s,(Qb g)[i]? =some s∧QeE g i s)∨∃c,c<g.Cells.size∧gridOk g∧Qa6 g c
instance (g:D.Grid):Decidable (QbX g):=Classical.propDecidable _
theorem QjQ (g:D.Grid) (c:Int):∀(l:List D.Slot) (n:Nat),(atL g c l n).length=0↔¬∃s∈l,inS g c s
 | [],n=>by simp [atL]
 | x::r,n=>by
  have:=QjQ g c r (n+1)
  rw [atL,List.length_append]
  by_cases h:inS g c x
  ·rw [if_pos h];simp [h]
  ·rw [if_neg h,List.length_nil,Nat.zero_add,this];simp [h]
theorem atG_none {g:D.Grid} {c:Int}:(Yx g c (Qb g).length).length=0↔¬Qj0 g c:=by
 unfold Yx
 rw [List.take_length]
 exact QjQ g c _ _
theorem Ql3 (g:D.Grid) (i:Int): -1≤unG g i∧unG g i≤6:=by
 unfold unG
 split
 ·split
  ·rename_i s hs
   have h1:=QiX g (Qk g s s.Length.toNat)
   have h2:=Qch hs
   omega
  ·omega
 ·omega
def NoBad (g:D.Grid) (i:Nat):Prop:=i≤(Qb g).length∧∀j s,j<i→(Qb g)[j]? =some s→¬QeE g j s
theorem NoBad.start (g:D.Grid):NoBad g 0:=⟨Nat.zero_le _,fun j s hj=>by omega⟩
theorem NoBad.next {g:D.Grid} {i:Nat} {s:D.Slot} (h:NoBad g i) (hx:(Qb g)[i]? =some s) (hn:¬QeE g i s):NoBad g (i+1):=by
 have:=(List.getElem?_eq_some_iff.1 hx).1
 refine ⟨by omega,fun j y hj hy=> ?_⟩
 rcases Nat.lt_or_ge j i with h1 | h1
 ·exact h.2 j y h1 hy
 ·obtain rfl:j=i:=by omega
  rw [hx] at hy
  exact Option.some.inj hy▸hn
theorem QkU {g:D.Grid} {i:Nat} (h:NoBad g i) (hi:¬i<(Qb g).length) (h2:∀c,c<g.Cells.size→¬(gridOk g∧Qa6 g c)):¬QbX g:=by
 rintro (⟨j,s,h3,h4⟩ | ⟨c,h3,h4⟩)
 ·have:=(List.getElem?_eq_some_iff.1 h3).1
  exact h.2 j s (by omega) h3 h4
 ·exact h2 c h3 h4
def mapOf (m:List (Int×Int)) (p:Int→Prop):Prop:=∀c,(p c→QbO m c=1)∧(¬p c→QbO m c=0)
def QfX (g:D.Grid) (i:Nat) (c:Int):Prop:=∃x∈(QI g).take i,c∈x
theorem Qkx (g:D.Grid) (c:Int):¬QfX g 0 c:=by rintro ⟨x,hx,_⟩;simp at hx
theorem Qkd {g:D.Grid} {i:Nat} {x:List Int} (h:(QI g)[i]? =some x) (c:Int):QfX g (i+1) c↔QfX g i c∨c∈x:=by
 unfold QfX
 rw [List.take_add_one,h]
 constructor
 ·rintro ⟨y,hy,hc⟩
  rcases List.mem_append.1 hy with hy | hy
  ·exact .inl ⟨y,hy,hc⟩
  ·obtain rfl:=List.mem_singleton.1 hy
   exact .inr hc
 ·rintro (⟨y,hy,hc⟩ | hc)
  ·exact ⟨y,List.mem_append_left _ hy,hc⟩
  ·exact ⟨x,List.mem_append_right _ (by simp),hc⟩
theorem Qdb {g:D.Grid} {i:Nat} (h:¬i<(QI g).length) (c:Int):QfX g i c↔Qj0 g c:=by
 unfold QfX Qj0
 rw [List.take_of_length_le (by omega)]
 unfold QI inS
 constructor
 ·rintro ⟨x,hx,hc⟩
  obtain ⟨s,hs,rfl⟩:=List.mem_map.1 hx
  exact ⟨s,hs,hc⟩
 ·rintro ⟨s,hs,hc⟩
  exact ⟨_,List.mem_map.2 ⟨s,hs,rfl⟩,hc⟩
theorem mapOf.congr {m:List (Int×Int)} {p q:Int→Prop} (h:mapOf m p) (e:∀c,p c↔q c):mapOf m q:=fun c=>by rw [← e c];exact h c
theorem mapOf.put {m:List (Int×Int)} {p:Int→Prop} {n:Int} (h:mapOf m p):mapOf (Qcn m n 1) (fun c=>p c∨c=n):=fun c=>by
 rw [Qh9]
 by_cases e:c=n
 ·rw [if_pos e];exact ⟨fun _=>rfl,fun h2=>absurd (.inr e) h2⟩
 ·rw [if_neg e]
  exact ⟨fun h2=>(h c).1 (h2.resolve_right e),fun h2=>(h c).2 fun h3=>h2 (.inl h3)⟩
theorem Qgn {l:List Int} {i:Nat} {x:Int} (h:l[i]? =some x) (c:Int):c∈l.take (i+1)↔c∈l.take i∨c=x:=by
 rw [List.take_add_one,h]
 simp
def QbV (f:ByteArray) (c:Nat):Prop:=¬(97≤Qv f c∧Qv f c≤122)
def Qhg (g:D.Grid) (f:ByteArray):Prop:=∃c,c<g.Cells.size∧Qa6 g c∧QbV f c
instance (g:D.Grid) (f:ByteArray):Decidable (Qhg g f):=Classical.propDecidable _
end
theorem Qes (n:Nat) (g:D.Grid) (hc:g.Cells.size≤maxLen):Pure (Qs Tryz.prog (n+8)) 118 [(T.agg (Qd false g))] (tB (decide (QbX g))):=by
 refine Pure.intro (rs:= [ResultVar.tmp 2]) Tryz.func118 Y Y Y (E0:= [(0,(T.agg (Qd false g)))]) Y ?_
 obtain ⟨hlim,hmx,hmax⟩:=QA
 have hsl:=Zw g
 refine sr (kO (B.box (ts:=(Qd false g)) (tv (T.agg (Qd false g)) Y) nofun Y) (fO (OF.assign (VEv.bool false)) (nt (sr (lO (OL.loadOn (us:=(Qd false g)) (tv (T.op 0 0) Y) Y Q4 Q0 (lb Y) Y) (cO (OC.callF (r':=(T.os 4 1 0 (((Qb g).map (Qj true)).length))) (objs:= [(Obj.rows 4 ((Qb g).map (Qj true)))]) Y (vc (tv (T.agg (Qd false g)) Y) vn) (LendL.cons (lg Qu) ln) (ZP (n+4) g (by assumption)) Y) (aO (T.os 4 1 0 (((Qb g).map (Qj true)).length)) Y (nt (sq (sr (fO (OF.assign (VEv.int .i64 0)) ?_)))))))))))
 refine nt (VRun.block ?_)
 refine VRun.loop (A:=Nat) (fun s_=> [(1,(T.op 0 0)),(3,(T.os 4 1 0 (((Qb g).map (Qj true)).length))),(4,(tN s_))]) (fun s_=>QV [(0,(Obj.cells (Qd false g))),(1,(Obj.rows 4 ((Qb g).map (Qj true))))]) 2 (fun s_=>NoBad g s_) (fun s_=>(Qb g).length - s_) (0:Nat) ?_ (Wk.mk (fun k=>k) ?_ ?_ ?_) ?_
 ·exact NoBad.start _
 ·exact (b2 (b2 (b2 bn)))
 ·exact (b3 (b3 bn))
 ·exact nd Y
 rintro i (hI':NoBad g i)
 show VRun _ _ _ [(1,(T.op 0 0)),(3,(T.os 4 1 0 (((Qb g).map (Qj true)).length))),(4,(tN i))] (QV [(0,(Obj.cells (Qd false g))),(1,(Obj.rows 4 ((Qb g).map (Qj true))))]) 2 _
 have hI1:=hI'.1
 have hNB:=hI'
 have hub:=Ql3 g ((i:Nat):Int)
 refine sq (sr (mO (tN i) Y (mO (T.os 4 1 0 (((Qb g).map (Qj true)).length)) Y (lO (B.lenO (m:=(Qb g).length) (tv (T.os 4 1 0 (((Qb g).map (Qj true)).length)) Y) U94 (List.length_map ..)) (fO (Q5 (tv (tN i) Y) (tv (tN ((Qb g).length)) Y)) (nt ?_))))))
 refine cd (i<(Qb g).length) Y (fun fhc0=> ?_) fun fhc0=> ?_
 ·refine sk ?_
  refine tn (sq (VRun.block (sq (VRun.draw (B:= [[],[],[1,0],[0,1,2],[],[],[5,4],[4,5,6],[6,5,4,7],[7,4,5,6,8,2,1,0,3]]) (by kernel_rfl) (by kernel_rfl) Y (lD (OL.loadOn (us:=(Qd false g)) (tv (T.op 0 0) Y) Y Q4 Q0 (lb Y) Y) Y Y (mD (tN i) Y Y (VRunD.quiet (bi:= [1,0]) Y VWant.always Y Y Y bn (cS (vc (tv (T.agg (Qd false g)) Y) (vc (tv (tN i) Y) vn)) (LendL.cons (lg Qu) (lp Y ln)) (QcD (n+0) g ((i:Nat):Int) (by assumption)) Y Y) (fD (B.mul (n:=(2*unG g ((i:Nat):Int))) (VEv.int .i64 2) (tv (tI (unG g ((i:Nat):Int))) Y) (by (rw [Qt (by omega)];done))) Y Y (mD (T.os 4 1 0 (((Qb g).map (Qj true)).length)) Y Y (mD (tN i) Y Y ?_))))))))))
  obtain ⟨x1,hx1⟩:∃x,(Qb g)[i]? =some x:=⟨_,List.getElem?_eq_getElem (by omega)⟩
  refine fD (B.indexAddrO (i:=i) (tv (T.os 4 1 0 (((Qb g).map (Qj true)).length)) Y) (tv (tN i) Y) Y (by (simp only [List.length_map];omega)) U94 Zz QbC) Y Y (fD (OF.fieldAddrP (tv (T.orp 4 1 i 0) Y) Qbx) Y Y (lD (OL.loadP1 (t:=(tI x1.Length)) (row:=(Qj true x1)) (tv (T.orp 4 1 i 3) Y) Y (Qr _ hx1) Y Y QQ) Y Y (fD (xgt (tv (tI (2*unG g ((i:Nat):Int))) Y) (tv (tI x1.Length) Y)) Y Y (VRunD.nil (tn ?_)))))
  refine cd (x1.Length<(2*unG g ((i:Nat):Int))) Y (fun fhc1=> ?_) fun fhc1=> ?_
  ·have q1:QeE g i x1:=by unfold QeE;omega
   refine sr (fO (OF.assign (VEv.bool true)) (nt (rt (vinB.r (tr (tr (vinB.r (tr (vb (b':=true) Y ?_)))))))))
   symm;rw [decide_eq_true_eq];exact .inl ⟨i,x1,hx1,q1⟩
  have q1:¬QeE g i x1:=by unfold QeE;omega
  refine sk (vinB.n (tn (VRun.region (mO (tN i) Y (fO (Qx (tv (tN i) Y) (VEv.int .i64 1) (by omega)) (aO (tN (i+1)) Y (VRunO.nil (tn ?_))))))))
  refine ⟨(i+1:Nat),?_,?_,Wk.mk (fun k=>k) ?_ ?_ ?_⟩
  ·exact hI'.next hx1 q1
  ·omega
  ·exact (b2 (b2 (b2 bn)))
  ·exact (b3 (b3 bn))
  ·exact nd Y
 refine VRun.exit (vthn.e (vthn.e (vinB.e (tn (sq (sr (fO (OF.assign (VEv.int .i64 0)) (nt (VRun.block ?_)))))))))
 refine VRun.loop (A:=Nat) (fun s_=> [(1,(T.op 0 0)),(5,(tN s_))]) (fun s_=>QV [(0,(Obj.cells (Qd false g)))]) 1 (fun s_=>s_≤g.Cells.size∧∀c,c<s_→¬(gridOk g∧Qa6 g c)) (fun s_=>g.Cells.size - s_) (0:Nat) ?_ (Wk.mk (fun k=>k) ?_ ?_ ?_) ?_
 ·exact ⟨Nat.zero_le _,fun c hc=>by omega⟩
 ·exact (b2 (b2 bn))
 ·exact (b3 bn)
 ·exact nd Y
 rintro k (hI':k≤g.Cells.size∧∀c,c<k→¬(gridOk g∧Qa6 g c))
 show VRun _ _ _ [(1,(T.op 0 0)),(5,(tN k))] (QV [(0,(Obj.cells (Qd false g)))]) 1 _
 have hJ1:=hI'.1
 refine sq (sr (mO (tN k) Y (lf (tS g.Cells) Y QU Y Y YD (lO (B.lenS (tv (tS g.Cells) Y) U9) (fO (Q5 (tv (tN k) Y) (tv (tN g.Cells.size) Y)) (nt ?_))))))
 refine cd (k<g.Cells.size) Y (fun fhc2=> ?_) fun fhc2=> ?_
 ·refine sk ?_
  refine tn (sq (VRun.block (sr (lO (OL.loadOn (us:=(Qd false g)) (tv (T.op 0 0) Y) Y Q4 Q0 (lb Y) Y) (mO (tN k) Y (cO (cS (vc (tv (T.agg (Qd false g)) Y) (vc (tv (tN k) Y) vn)) (LendL.cons (lg Qu) (lp Y ln)) (Qe6 (n+4) g ((k:Nat):Int) (by assumption)) Y Y) (mO (tB (decide (gridOk g∧(0≤((k:Nat):Int)∧((k:Nat):Int)≤((g.Cells.size:Nat):Int) - 1)∧Qv g.Cells (Int.toNat ((k:Nat):Int))=46))) Y ?_)))))))
  refine gw (gridOk g∧(0≤((k:Nat):Int)∧((k:Nat):Int)≤((g.Cells.size:Nat):Int) - 1)∧Qv g.Cells (Int.toNat ((k:Nat):Int))=46) (fun fhg34_1=> ?_) fun fhg34_1=> ?_
  ·refine gL (dy fhg34_1) Y Y (OL.loadOn (us:=(Qd false g)) (tv (T.op 0 0) Y) Y Q4 Q0 (lb Y) Y) ?_
   refine gF (dy fhg34_1) Y Y (OF.move (tv (tN k) Y)) (VRunO.chain (VWant.on Y Y (dy fhg34_1)) (OC.callF (r':=(T.os 1 1 0 (((Yx g ((k:Nat):Int) (Qb g).length).map (Qc true)).length))) (objs:= [(Obj.rows 1 ((Yx g ((k:Nat):Int) (Qb g).length).map (Qc true)))]) Y (vc (tv (T.agg (Qd false g)) Y) (vc (tv (tN k) Y) vn)) (LendL.cons (lg Qu) (lp Y ln)) (QbQ (n+2) g ((k:Nat):Int) (by assumption)) Y) (gL (dy fhg34_1) Y Y (B.lenO (m:=(Yx g ((k:Nat):Int) (Qb g).length).length) (tv (T.os 1 1 0 (((Yx g ((k:Nat):Int) (Qb g).length).map (Qc true)).length)) Y) Z1 (List.length_map ..)) (gF (dy fhg34_1) Y Y (B.eql (c:=(decide ((Yx g ((k:Nat):Int) (Qb g).length).length=0))) (tv (tN ((Yx g ((k:Nat):Int) (Qb g).length).length)) Y) (VEv.int .i64 0) (Q8 (by omega))) (fO (OF.pickT (VEv.tmpB Y (dy fhg34_1)) (tv (tB (decide ((Yx g ((k:Nat):Int) (Qb g).length).length=0))) Y)) (nt ?_)))))
   refine cd ((Yx g ((k:Nat):Int) (Qb g).length).length=0) Y (fun fhc3=> ?_) fun fhc3=> ?_
   ·refine sr ?_
    refine fO (OF.assign (VEv.bool true)) (nt (rt (vinB.r (tr (tr (vinB.r (tr (vb (b':=true) Y ?_))))))))
    symm;rw [decide_eq_true_eq];exact .inr ⟨k,fhc2,fhg34_1.1,fhg34_1.2.2,atG_none.1 fhc3⟩
   refine sk (vinB.n (tn (VRun.region (mO (tN k) Y (fO (Qx (tv (tN k) Y) (VEv.int .i64 1) (by omega)) (aO (tN (k+1)) Y (VRunO.nil (tn ?_))))))))
   refine ⟨(k+1:Nat),?_,?_,Wk.mk (fun k=>k) ?_ ?_ ?_⟩
   ·exact ZJ (ok:=fun c=>¬(gridOk g∧Qa6 g c)) hI' fhc2 (fun h=>fhc3 (atG_none.2 h.2.2))
   ·omega
   ·exact (b2 (b2 bn))
   ·exact (b3 bn)
   ·exact nd Y
  refine QE 5 3 true 34 (dz fhg34_1) Y Y Y (fO (OF.pickF (VEv.tmpB Y (dz fhg34_1)) (VEv.bool false)) (nt (cf Y (sk (vinB.n (tn (VRun.region (mO (tN k) Y (fO (Qx (tv (tN k) Y) (VEv.int .i64 1) (by omega)) (aO (tN (k+1)) Y (VRunO.nil ?_)))))))))))
  refine tn ?_
  refine ⟨(k+1:Nat),?_,?_,Wk.mk (fun k=>k) ?_ ?_ ?_⟩
  ·exact ZJ (ok:=fun c=>¬(gridOk g∧Qa6 g c)) hI' fhc2 (fun h=>fhg34_1 ⟨h.1,⟨by omega,by omega⟩,h.2.1⟩)
  ·omega
  ·exact (b2 (b2 bn))
  ·exact (b3 bn)
  ·exact nd Y
 refine VRun.exit (vthn.e (vthn.e (vinB.e (tn (sr (fO (OF.assign (VEv.bool false)) (nt (rt (vb (b':=false) Y ?_)))))))))
 symm;rw [decide_eq_false_iff_not];exact QkU hNB fhc0 (QaQ (ok:=fun c=>¬(gridOk g∧Qa6 g c)) hI' fhc2)
theorem Qg9 (n:Nat) (g:D.Grid) (f:ByteArray) (hc:g.Cells.size≤maxLen) (hf:g.Cells.size≤f.size):Pure (Qs Tryz.prog (n+5)) 122 [(T.agg (Qd false g)),(tS f)] (tB (decide (Qhg g f))):=by
 refine Pure.intro (rs:= [ResultVar.tmp 4]) Tryz.func122 Y Y Y (E0:= [(0,(T.agg (Qd false g))),(1,(tS f))]) Y ?_
 obtain ⟨hlim,hmx,hmax⟩:=QA
 have hsl:=Zw g
 have hll:=Qbc g
 refine sr (kO (B.box (ts:=(Qd false g)) (tv (T.agg (Qd false g)) Y) nofun Y) (fO (OF.assign (VEv.bool false)) (nt (sr (kO B.makeMap (aO (T.om 1) Y (nt (sq (sr (lO (OL.loadOn (us:=(Qd false g)) (tv (T.op 0 0) Y) Y Q4 Q0 (lb Y) Y) (cO (OC.callF (r':=(T.os 1 2 0 (((QI g).map ((Jo 1 Qc) true)).length))) (objs:= [(Obj.rows 1 ((QI g).map ((Jo 1 Qc) true)))]) Y (vc (tv (T.agg (Qd false g)) Y) vn) (LendL.cons (lg Qu) ln) (JC (n+0) g (by assumption)) Y) ?_)))))))))))
 refine lO (B.lenO (m:=(QI g).length) (tv (T.os 1 2 0 (((QI g).map ((Jo 1 Qc) true)).length)) Y) Qfd (List.length_map ..)) (fO (OF.move (VEv.int .i64 0)) (nt (VRun.block (VRun.wk (Wk.freeze (sz:=1) (k:=2) (rows':=((QI g).map ((Jo 1 Qc) false))) [13] (bc Y bn) Y Y ((Qk1 okInt).fzMap _ _)) ?_))))
 have he1:([]:List (Int×Int))= []:=by rfl
 refine VRun.loop (A:=Nat×(List (Int×Int))) (fun s_=> [(1,(tS f)),(2,(T.op 0 0)),(4,(tB false)),(5,(T.om 1)),(13,(rd 1 (Jo 1 Qc) (QI g))),(14,(tN ((QI g).length))),(15,(tN s_.1))]) (fun s_=>QV [(0,(Obj.cells (Qd false g))),(1,(Obj.map (eM s_.2)))]) 2 (fun s_=>s_.1≤(QI g).length∧mapOf s_.2 (QfX g s_.1)) (fun s_=>(QI g).length - s_.1) ((0,[]):Nat×(List (Int×Int))) ?_ (Wk.mk (fun k=>k) ?_ ?_ ?_) ?_
 ·exact ⟨Nat.zero_le _,fun c=>⟨fun h=>absurd h (Qkx g c),fun _=>rfl⟩⟩
 ·exact (b2 (b2 (b2 (b2 (b2 (b2 (b2 bn)))))))
 ·exact (b3 (bc ⟨(congrArg (fun l_=>some (Obj.map (eM l_))) he1),(lb Y),rfl⟩ bn))
 ·exact nd Y
 rintro ⟨i,m⟩ (hI':i≤(QI g).length∧mapOf m (QfX g i))
 show VRun _ _ _ [(1,(tS f)),(2,(T.op 0 0)),(4,(tB false)),(5,(T.om 1)),(13,(rd 1 (Jo 1 Qc) (QI g))),(14,(tN ((QI g).length))),(15,(tN i))] (QV [(0,(Obj.cells (Qd false g))),(1,(Obj.map (eM m)))]) 2 _
 have hI1:=hI'.1
 have hM:=hI'.2
 refine sr (fO (Q5 (tv (tN i) Y) (tv (tN ((QI g).length)) Y)) (nt (sq ?_)))
 refine cd (i<(QI g).length) Y (fun fhc0=> ?_) fun fhc0=> ?_
 ·refine sk ?_
  refine tn (sq (VRun.block (sr ?_)))
  obtain ⟨x1,hx1⟩:∃x,(QI g)[i]? =some x:=⟨_,List.getElem?_eq_getElem (by omega)⟩
  obtain ⟨y1,hy1,hq1⟩:=Qe1 hx1
  refine fO (OF.indexAddrR (row:=((Jo 1 Qc) false x1)) (i:=i) (tv (rd 1 (Jo 1 Qc) (QI g)) Y) (tv (tN i) Y) Y (Qr _ hx1) Qfd QfV Qjj) (lO (OL.loadR1 (t:=(rd 1 Qc x1)) (tv (T.rp [(rd 1 Qc x1)]) Y) Y Qcm) (aO (rd 1 Qc x1) Y (nt (sr (mO (rd 1 Qc x1) Y (lO (B.lenR (m:=x1.length) (tv (rd 1 Qc x1) Y) Z1 (List.length_map ..)) (fO (OF.move (VEv.int .i64 0)) (nt (VRun.block ?_)))))))))
  refine VRun.loop (A:=Nat×(List (Int×Int))) (fun s_=> [(1,(tS f)),(2,(T.op 0 0)),(4,(tB false)),(5,(T.om 1)),(13,(rd 1 (Jo 1 Qc) (QI g))),(14,(tN ((QI g).length))),(15,(tN i)),(19,(rd 1 Qc x1)),(20,(tN x1.length)),(21,(tN s_.1))]) (fun s_=>QV [(0,(Obj.cells (Qd false g))),(1,(Obj.map (eM s_.2)))]) 2 (fun s_=>s_.1≤x1.length∧mapOf s_.2 (fun c=>QfX g i c∨c∈x1.take s_.1)) (fun s_=>x1.length - s_.1) ((0,m):Nat×(List (Int×Int))) ?_ (Wk.mk (fun k=>k) ?_ ?_ ?_) ?_
  ·exact ⟨Nat.zero_le _,hM.congr fun c=>by simp⟩
  ·exact (b2 (b2 (b2 (b2 (b2 (b2 (b2 (b2 (b2 (b2 bn))))))))))
  ·exact (b3 (b3 bn))
  ·exact nd Y
  rintro ⟨k,w⟩ (hI':k≤x1.length∧mapOf w (fun c=>QfX g i c∨c∈x1.take k))
  show VRun _ _ _ [(1,(tS f)),(2,(T.op 0 0)),(4,(tB false)),(5,(T.om 1)),(13,(rd 1 (Jo 1 Qc) (QI g))),(14,(tN ((QI g).length))),(15,(tN i)),(19,(rd 1 Qc x1)),(20,(tN x1.length)),(21,(tN k))] (QV [(0,(Obj.cells (Qd false g))),(1,(Obj.map (eM w)))]) 2 _
  have hJ1:=hI'.1
  have hl6:=Qch hy1
  rw [← hq1] at hl6
  refine sr (fO (Q5 (tv (tN k) Y) (tv (tN x1.length) Y)) (nt (sq ?_)))
  refine cd (k<x1.length) Y (fun fhc1=> ?_) fun fhc1=> ?_
  ·refine sk ?_
   refine tn (sq (VRun.block (sr ?_)))
   obtain ⟨x2,hx2⟩:∃x,x1[k]? =some x:=⟨_,List.getElem?_eq_getElem (by omega)⟩
   skip
   refine fO (OF.indexAddrR (row:=(Qc false x2)) (i:=k) (tv (rd 1 Qc x1) Y) (tv (tN k) Y) Y (Qr _ hx2) Z1 ZA YR) (lO (OL.loadR1 (t:=(tI x2)) (tv (T.rp [(tI x2)]) Y) Y QQ) (aO (tI x2) Y (nt (VRun.region (mO (T.om 1) Y (mO (tI x2) Y (cO (B.mapSet (l:=w) (l':=(Qcn w x2 1)) (tv (T.om 1) Y) (tv (tI x2) Y) (VEv.int .i64 1) Y QoF U3 Y) (VRunO.nil (vinB.n (tn (VRun.region ?_)))))))))))
   refine fO (Qx (tv (tN k) Y) (VEv.int .i64 1) (by omega)) (mO (tN (k+1)) Y (VRunO.nil (tn ?_)))
   refine ⟨((k+1,Qcn w x2 1):Nat×(List (Int×Int))),?_,?_,Wk.mk (fun k=>k) ?_ ?_ ?_⟩
   ·exact ⟨by omega,hI'.2.put.congr fun c=>by rw [Qgn hx2,or_assoc]⟩
   ·omega
   ·exact (b2 (b2 (b2 (b2 (b2 (b2 (b2 (b2 (b2 (b2 bn))))))))))
   ·exact (b3 (b3 bn))
   ·exact nd Y
  refine VRun.exit (vthn.e (vthn.e (vinB.e (vinB.n (tn (VRun.region (fO (Qx (tv (tN i) Y) (VEv.int .i64 1) (by omega)) (mO (tN (i+1)) Y (VRunO.nil (tn ?_))))))))))
  refine ⟨((i+1,w):Nat×(List (Int×Int))),?_,?_,Wk.mk (fun k=>k) ?_ ?_ ?_⟩
  ·exact ⟨by omega,hI'.2.congr fun c=>by rw [Qkd hx1,List.take_of_length_le (by omega)]⟩
  ·omega
  ·exact (b2 (b2 (b2 (b2 (b2 (b2 (b2 bn)))))))
  ·exact (b3 (b3 bn))
  ·exact nd Y
 refine VRun.exit (vthn.e (vthn.e (vinB.e (tn (sq (sr (lf (tS g.Cells) Y QU Y Y YD (lO (B.lenS (tv (tS g.Cells) Y) U9) (fO (OF.move (VEv.int .i64 0)) (nt (VRun.block ?_)))))))))))
 refine VRun.loop (A:=Nat) (fun s_=> [(1,(tS f)),(2,(T.op 0 0)),(5,(T.om 1)),(31,(tN g.Cells.size)),(32,(tN s_))]) (fun s_=>QV [(0,(Obj.cells (Qd false g))),(1,(Obj.map (eM m)))]) 2 (fun s_=>s_≤g.Cells.size∧∀j,j<s_→¬(Qa6 g j∧QbV f j)) (fun s_=>g.Cells.size - s_) (0:Nat) ?_ (Wk.mk (fun k=>k) ?_ ?_ ?_) ?_
 ·exact ⟨Nat.zero_le _,fun c hc=>by omega⟩
 ·exact (b2 (b2 (b2 (b2 (b2 bn)))))
 ·exact (b3 (b3 bn))
 ·exact nd Y
 rintro c (hI':c≤g.Cells.size∧∀j,j<c→¬(Qa6 g j∧QbV f j))
 show VRun _ _ _ [(1,(tS f)),(2,(T.op 0 0)),(5,(T.om 1)),(31,(tN g.Cells.size)),(32,(tN c))] (QV [(0,(Obj.cells (Qd false g))),(1,(Obj.map (eM m)))]) 2 _
 have hJ1:=hI'.1
 refine sr (fO (Q5 (tv (tN c) Y) (tv (tN g.Cells.size) Y)) (nt (sq ?_)))
 refine cd (c<g.Cells.size) Y (fun fhc2=> ?_) fun fhc2=> ?_
 ·refine sk ?_
  refine tn (sq (VRun.block (sr (mO (tN c) Y (aO (tN c) Y (nt (sr (lf (tS g.Cells) Y QU Y Y YD (mO (tN c) Y ?_)))))))))
  have hb2:c<g.Cells.size:=(by omega)
  refine fO (xix (tv (tS g.Cells) Y) (tv (tN c) Y) hb2 U9) (fO (J6 (tv (T.int .u8 (Qv g.Cells c)) Y) (VEv.int .u8 46)) (mO (tB (decide (Qv g.Cells c=46))) Y ?_))
  refine gw (Qv g.Cells c=46) (fun fhg40_3=> ?_) fun fhg40_3=> ?_
  ·refine gF (dy fhg40_3) Y Y (OF.move (tv (T.om 1) Y)) ?_
   refine gF (dy fhg40_3) Y Y (OF.move (tv (tN c) Y)) (gL (dy fhg40_3) Y Y (B.mapGet (l:=m) (n:=((c:Nat):Int)) (tv (T.om 1) Y) (tv (tN c) Y) Y QoF U3 zo3) (gF (dy fhg40_3) Y Y (J6 (tv (tI (QbO m ((c:Nat):Int))) Y) (VEv.int .i64 0)) (fO (OF.pickT (VEv.tmpB Y (dy fhg40_3)) (tv (tB (decide (QbO m ((c:Nat):Int)=0))) Y)) (mO (tB (decide (QbO m ((c:Nat):Int)=0))) Y ?_))))
   refine gw (QbO m ((c:Nat):Int)=0) (fun fhg46_4=> ?_) fun fhg46_4=> ?_
   ·refine gF (dy fhg46_4) Y Y (OF.move (tv (tS f) Y)) ?_
    refine gF (dy fhg46_4) Y Y (OF.move (tv (tN c) Y)) ?_
    have hb5:c<f.size:=(by omega)
    refine gF (dy fhg46_4) Y Y (xix (tv (tS f) Y) (tv (tN c) Y) hb5 U9) (VRunO.chain (VWant.on Y Y (dy fhg46_4)) (cS (vc (tv (T.int .u8 (Qv f c)) Y) vn) (Z8 Y) (JV (n+3) (Qv f c)) Y Y) (gF (dy fhg46_4) Y Y (Zd (tv (tB (decide (97≤(Qv f c)∧(Qv f c)≤122))) Y)) (fO (OF.pickT (VEv.tmpB Y (dy fhg46_4)) (tv (tB (!(decide (97≤(Qv f c)∧(Qv f c)≤122)))) Y)) (nt ?_))))
    refine cn (97≤(Qv f c)∧(Qv f c)≤122) Y (fun fhc3=> ?_) fun fhc3=> ?_
    ·refine sr ?_
     refine fO (OF.assign (VEv.bool true)) (nt (rt (vinB.r (tr (tr (vinB.r (tr (vb (b':=true) Y ?_))))))))
     symm;rw [decide_eq_true_eq];refine ⟨c,fhc2,⟨?_,fun h=> ?_⟩,?_⟩
     ·omega
     ·have hq:=(hM ((c:Nat):Int)).1 ((Qdb fhc0 _).2 h);omega
     ·unfold QbV;omega
    refine sk (vinB.n (tn (VRun.region (fO (Qx (tv (tN c) Y) (VEv.int .i64 1) (by omega)) (mO (tN (c+1)) Y (VRunO.nil (tn ?_)))))))
    refine ⟨(c+1:Nat),?_,?_,Wk.mk (fun k=>k) ?_ ?_ ?_⟩
    ·refine ZJ (ok:=fun j=>¬(Qa6 g j∧QbV f j)) hI' fhc2 ?_
     rintro ⟨⟨a1,a2⟩,a3⟩
     have hq:=(hM ((c:Nat):Int)).2 (fun h=>a2 ((Qdb fhc0 _).1 h))
     unfold QbV at a3;omega
    ·omega
    ·exact (b2 (b2 (b2 (b2 (b2 bn)))))
    ·exact (b3 (b3 bn))
    ·exact nd Y
   refine QE 5 11 true 46 (dz fhg46_4) Y Y Y (fO (OF.pickF (VEv.tmpB Y (dz fhg46_4)) (VEv.bool false)) (nt (cf Y (sk (vinB.n (tn (VRun.region (fO (Qx (tv (tN c) Y) (VEv.int .i64 1) (by omega)) (mO (tN (c+1)) Y (VRunO.nil (tn ?_)))))))))))
   refine ⟨(c+1:Nat),?_,?_,Wk.mk (fun k=>k) ?_ ?_ ?_⟩
   ·refine ZJ (ok:=fun j=>¬(Qa6 g j∧QbV f j)) hI' fhc2 ?_
    rintro ⟨⟨a1,a2⟩,a3⟩
    have hq:=(hM ((c:Nat):Int)).2 (fun h=>a2 ((Qdb fhc0 _).1 h))
    unfold QbV at a3;omega
   ·omega
   ·exact (b2 (b2 (b2 (b2 (b2 bn)))))
   ·exact (b3 (b3 bn))
   ·exact nd Y
  refine QE 4 5 true 40 (dz fhg40_3) Y Y Y (fO (OF.pickF (VEv.tmpB Y (dz fhg40_3)) (VEv.bool false)) (mO (tB false) Y (QE 5 11 true 46 (b:=false) Y Y Y Y (fO (OF.pickF (tv (tB false) Y) (VEv.bool false)) (nt (cf Y (sk (vinB.n (tn (VRun.region (fO (Qx (tv (tN c) Y) (VEv.int .i64 1) (by omega)) ?_)))))))))))
  refine mO (tN (c+1)) Y (VRunO.nil (tn ?_))
  refine ⟨(c+1:Nat),?_,?_,Wk.mk (fun k=>k) ?_ ?_ ?_⟩
  ·refine ZJ (ok:=fun j=>¬(Qa6 g j∧QbV f j)) hI' fhc2 ?_
   rintro ⟨⟨a1,a2⟩,a3⟩
   have hq:=(hM ((c:Nat):Int)).2 (fun h=>a2 ((Qdb fhc0 _).1 h))
   unfold QbV at a3;omega
  ·omega
  ·exact (b2 (b2 (b2 (b2 (b2 bn)))))
  ·exact (b3 (b3 bn))
  ·exact nd Y
 refine VRun.exit (vthn.e (vthn.e (vinB.e (tn (sr (fO (OF.assign (VEv.bool false)) (nt (rt (vb (b':=false) Y ?_)))))))))
 symm;rw [decide_eq_false_iff_not];rintro ⟨c,h1,h2,h3⟩;exact hI'.2 c (by omega) ⟨h2,h3⟩
noncomputable section
def on (s:List Bool) (j:Nat):Bool:=s[j]?.getD false
theorem QlQ {s:List Bool} {j:Nat} (h:on s j=true):j<s.length:=by
 rcases Nat.lt_or_ge j s.length with h1 | h1
 ·exact h1
 ·rw [on,List.getElem?_eq_none h1] at h;cases h
theorem QdZ {s:List Bool} {i j:Nat} (hi:i<s.length):on (s.set i true) j=(if j=i then true else on s j):=by
 unfold on
 rw [List.getElem?_set]
 by_cases h:i=j
 ·subst h;simp [hi]
 ·rw [if_neg h,if_neg (fun e=>h e.symm)]
theorem Qlt {s t:List Bool} (hl:s.length=t.length) (h:∀j,on s j=true↔on t j=true):s=t:=by
 refine List.ext_getElem? fun j=> ?_
 rcases Nat.lt_or_ge j s.length with h1 | h1
 ·have h2:j<t.length:=by omega
  have h3:=h j
  unfold on at h3
  rw [List.getElem?_eq_getElem h1,List.getElem?_eq_getElem h2] at h3 ⊢
  simp only [Option.getD_some] at h3
  rw [Bool.eq_iff_iff.2 h3]
 ·rw [List.getElem?_eq_none h1,List.getElem?_eq_none (by omega)]
theorem on_no {s:List Bool} {j:Nat}:on s j=false↔¬on s j=true:=by cases on s j<;>simp
def wG (g:D.Grid):Nat:=g.Cols.toNat
def adj (g:D.Grid) (i j:Nat):Prop:=(j=i+1∧i % wG g+1<wG g)∨(i=j+1∧j % wG g+1<wG g)∨j=i+wG g∨i=j+wG g
inductive Rch (g:D.Grid) (s:List Bool):Nat→Prop
 | base {j:Nat} (h:on s j=true):Rch g s j
 | step {i j:Nat} (h:Rch g s i) (ha:adj g i j) (hj:j<s.length) (hw:Qv g.Cells j=46):Rch g s j
instance (g:D.Grid) (s:List Bool) (j:Nat):Decidable (Rch g s j):=Classical.propDecidable _
def ZD (g:D.Grid) (s:List Bool):List Bool:=(List.range s.length).map fun j=>decide (Rch g s j)
theorem Rch.lt {g:D.Grid} {s:List Bool} {j:Nat} (h:Rch g s j):j<s.length:=by
 cases h with
 | base h=>exact QlQ h
 | step _ _ hj _=>exact hj
theorem QcO (g:D.Grid) (s:List Bool):(ZD g s).length=s.length:=by simp [ZD]
theorem on_reachL {g:D.Grid} {s:List Bool} {j:Nat}:on (ZD g s) j=true↔Rch g s j:=by
 unfold on ZD
 rw [List.getElem?_map]
 rcases Nat.lt_or_ge j s.length with h1 | h1
 ·rw [List.getElem?_eq_getElem (by simpa using h1),List.getElem_range]
  simp
 ·rw [List.getElem?_eq_none (by simpa using h1)]
  simp only [Option.map_none,Option.getD_none,Bool.false_eq_true,false_iff]
  intro h
  have:=h.lt
  omega
def Qlv (g:D.Grid) (s:List Bool) (i:Nat):Prop:=∃j,adj g j i∧on s j=true
theorem QkN {i w:Nat} (h:0<i % w) (hw:i % w<w):(i - 1) % w+1=i % w∧1≤i:=by
 have h1:i % w≤i:=Nat.mod_le _ _
 have h2:=Nat.div_add_mod i w
 refine ⟨?_,by omega⟩
 have e:i - 1=(i % w - 1)+w*(i / w):=by omega
 rw [e,Nat.add_mul_mod_self_left,Nat.mod_eq_of_lt (by omega)]
 omega
theorem Qk3 {i w:Nat} (h:i % w+1<w):(i+1) % w=i % w+1:=by
 have h2:=Nat.div_add_mod i w
 have e:i+1=(i % w+1)+w*(i / w):=by omega
 rw [e,Nat.add_mul_mod_self_left,Nat.mod_eq_of_lt h]
theorem QhX {g:D.Grid} {s:List Bool} {i:Nat} (hw:2≤g.Cols) (hl:i<s.length) :
  ((((0<i % g.Cols.toNat∧on s (i - 1)=true)∨(((i % g.Cols.toNat+1:Nat):Int)<g.Cols∧on s (i+1)=true))∨(g.Cols≤((i:Nat):Int)∧on s (i - g.Cols.toNat)=true))∨(i+g.Cols.toNat<s.length∧on s (i+g.Cols.toNat)=true))↔Qlv g s i:=by
 have hm:i % g.Cols.toNat<g.Cols.toNat:=Nat.mod_lt _ (by omega)
 constructor
 ·rintro (((⟨h1,h2⟩ | ⟨h1,h2⟩) | ⟨h1,h2⟩) | ⟨h1,h2⟩)
  ·obtain ⟨h3,h4⟩:=QkN h1 hm
   exact ⟨i - 1, .inl ⟨by omega,by unfold wG;omega⟩,h2⟩
  ·exact ⟨i+1, .inr (.inl ⟨rfl,by unfold wG;omega⟩),h2⟩
  ·exact ⟨i - g.Cols.toNat, .inr (.inr (.inl (by unfold wG;omega))),h2⟩
  ·exact ⟨i+g.Cols.toNat, .inr (.inr (.inr (by unfold wG;omega))),h2⟩
 ·rintro ⟨j,(⟨h1,h2⟩ | ⟨h1,h2⟩ | h1 | h1),h3⟩
  ·refine .inl (.inl (.inl ⟨?_,by rw [show i - 1=j by omega];exact h3⟩))
   unfold wG at h2
   rw [h1,Qk3 h2];omega
  ·refine .inl (.inl (.inr ⟨by unfold wG at h2;omega,by rw [← h1];exact h3⟩))
  ·unfold wG at h1
   refine .inl (.inr ⟨by omega,by rw [show i - g.Cols.toNat=j by omega];exact h3⟩)
  ·unfold wG at h1
   have:=QlQ h3
   exact .inr ⟨by omega,by rw [← h1];exact h3⟩
def RS (g:D.Grid) (s0 s:List Bool):Prop:=s.length=s0.length∧(∀j,on s0 j=true→on s j=true)∧∀j,on s j=true→Rch g s0 j
theorem RS.start (g:D.Grid) (s:List Bool):RS g s s:=⟨rfl,fun _ h=>h,fun _ h=> .base h⟩
theorem RS.put {g:D.Grid} {s0 s:List Bool} {i:Nat} (h:RS g s0 s) (hi:i<s.length) (hw:Qv g.Cells i=46) (hn:Qlv g s i):RS g s0 (s.set i true):=by
 obtain ⟨h1,h2,h3⟩:=h
 refine ⟨by simpa using h1,fun j hj=> ?_,fun j hj=> ?_⟩
 ·rw [QdZ hi];split
  ·rfl
  ·exact h2 j hj
 ·rw [QdZ hi] at hj
  split at hj
  ·rename_i e
   subst e
   obtain ⟨k,hk,hk2⟩:=hn
   exact .step (h3 k hk2) hk (by omega) hw
  ·exact h3 j hj
def Qh2 (g:D.Grid) (s:List Bool) (i:Nat):Prop:=Qv g.Cells i=46∧on s i=false∧Qlv g s i
instance (g:D.Grid) (s:List Bool) (i:Nat):Decidable (Qh2 g s i):=Classical.propDecidable _
def Y6 (g:D.Grid) (s:List Bool) (i:Nat):List Bool:=if Qh2 g s i then s.set i true else s
def Qcx (g:D.Grid) (ag:Bool) (s:List Bool) (i:Nat):Bool:=if Qh2 g s i then true else ag
theorem QkH {g:D.Grid} {s:List Bool} {ag:Bool} {i:Nat} (h:Qh2 g s i):s.set i true=Y6 g s i∧true=Qcx g ag s i:=⟨(if_pos h).symm,(if_pos h).symm⟩
theorem Qjo {g:D.Grid} {s:List Bool} {ag:Bool} {i:Nat} (h:¬Qh2 g s i):s=Y6 g s i∧ag=Qcx g ag s i:=⟨(if_neg h).symm,(if_neg h).symm⟩
def Inv1 (g:D.Grid) (s0 s:List Bool) (i:Nat) (s1:List Bool) (ag:Bool):Prop:=i≤s0.length∧RS g s0 s1∧(ag=false→s1=s∧∀j,j<i→¬Qh2 g s j)∧(ag=true→s1.count false<s.count false)∧s1.count false≤s.count false
theorem Inv1.start {g:D.Grid} {s0 s:List Bool} (h:RS g s0 s):Inv1 g s0 s 0 s false:=⟨Nat.zero_le _,h,fun _=>⟨rfl,fun j hj=>by omega⟩,(fun h=>by cases h),Nat.le_refl _⟩
theorem QdC {s:List Bool} {i:Nat} (hi:i<s.length) (h:on s i=false):(s.set i true).count false+1=s.count false:=by
 have h2:s[i]=false:=by
  unfold on at h
  rw [List.getElem?_eq_getElem hi] at h
  exact h
 have h3:0<s.count false:=List.count_pos_iff.2 (h2▸List.getElem_mem hi)
 rw [List.count_set hi]
 simp [h2]
 omega
theorem Inv1.next {g:D.Grid} {s0 s s1:List Bool} {i:Nat} {ag:Bool} (h:Inv1 g s0 s i s1 ag) (hi:i<s1.length):Inv1 g s0 s (i+1) (Y6 g s1 i) (Qcx g ag s1 i):=by
 obtain ⟨h1,h2,h3,h4,h5⟩:=h
 have hl:=h2.1
 unfold Y6 Qcx
 by_cases hw:Qh2 g s1 i
 ·rw [if_pos hw,if_pos hw]
  have hc:=QdC hi hw.2.1
  exact ⟨by omega,h2.put hi hw.1 hw.2.2,(fun e=>by cases e),(fun _=>by omega),by omega⟩
 ·rw [if_neg hw,if_neg hw]
  refine ⟨by omega,h2,fun e=> ?_,h4,h5⟩
  obtain ⟨h6,h7⟩:=h3 e
  subst h6
  refine ⟨rfl,fun j hj=> ?_⟩
  rcases Nat.lt_or_ge j i with g1 | g1
  ·exact h7 j g1
  ·obtain rfl:j=i:=by omega
   exact hw
def Inv0 (g:D.Grid) (s0 s:List Bool) (ag:Bool):Prop:=RS g s0 s∧(ag=false→∀j,j<s0.length→¬Qh2 g s j)
theorem Inv1.done {g:D.Grid} {s0 s s1:List Bool} {i:Nat} {ag:Bool} (h:Inv1 g s0 s i s1 ag) (hi:¬i<s1.length):Inv0 g s0 s1 ag:=by
 obtain ⟨h1,h2,h3,h4,h5⟩:=h
 have hl:=h2.1
 refine ⟨h2,fun e j hj=> ?_⟩
 obtain ⟨h6,h7⟩:=h3 e
 rw [h6]
 exact h7 j (by omega)
theorem Inv1.dec {g:D.Grid} {s0 s s1:List Bool} {i:Nat} {ag ag0:Bool} (h:Inv1 g s0 s i s1 ag) (h0:ag0=true):s1.count false+(if ag=true then 1 else 0)<s.count false+(if ag0=true then 1 else 0):=by
 obtain ⟨h1,h2,h3,h4,h5⟩:=h
 rw [if_pos h0]
 split
 ·rename_i e
  have:=h4 e
  omega
 ·omega
theorem Inv0.done {g:D.Grid} {s0 s:List Bool} {ag:Bool} (h:Inv0 g s0 s ag) (ha:¬ag=true):s=ZD g s0:=by
 obtain ⟨⟨h1,h2,h3⟩,h4⟩:=h
 refine Qlt (by rw [QcO,h1]) fun j=> ?_
 rw [on_reachL]
 refine ⟨h3 j,fun hj=> ?_⟩
 have h5:=h4 (by cases ag<;>simp_all)
 induction hj with
 | base h=>exact h2 _ h
 | step h ha hj hw ih =>
  rename_i i k
  cases hk:on s k with
  | true=>rfl
  | false=>exact absurd ⟨hw,hk,i,ha,ih⟩ (h5 k hj)
end
theorem Qew (n:Nat) (g:D.Grid) (seen:List Bool) (cell:Nat) (hg:gridOk g) (hc:cell<seen.length) (hs:seen.length=g.Cells.size):Loan (Qs Tryz.prog (n+1)) 137 1 (List.map (Qo true) seen) [(T.agg (Qd false g)),(T.os 1 0 0 ((seen.map (Qo true)).length)),(tN cell)] (T.os 1 0 0 (List.map (Qo true) (ZD g (seen.set cell true))).length) (List.map (Qo true) (ZD g (seen.set cell true))):=by
 refine Loan.intro (rs:= [ResultVar.tmp 6]) (j:=1) (pin:=(T.os 1 0 0 ((seen.map (Qo true)).length))) Tryz.func137 Y Y Y (by kernel_rfl) Y (.os _ _) (.os _ _) (QL (fun _=>rfl) _) (QL (fun _=>rfl) _) (E0:= [(0,(T.agg (Qd false g))),(1,(T.os 1 0 0 ((seen.map (Qo true)).length))),(2,(tN cell))]) Y ?_
 obtain ⟨hlim,hmx,hmax⟩:=QA
 have hsz:=hg.size
 have hA:=hg.1
 have hB:=hg.2.1
 refine sr (kO (B.box (ts:=(Qd false g)) (tv (T.agg (Qd false g)) Y) nofun Y) (fO (OF.assign VEv.nils) (nt (sr (mO (T.os 1 0 0 ((seen.map (Qo true)).length)) Y (mO (tN cell) Y ?_))))))
 obtain ⟨x1,hx1⟩:∃x,seen[cell]? =some x:=⟨_,List.getElem?_eq_getElem (by omega)⟩
 skip
 refine fO (B.indexAddrO (i:=cell) (tv (T.os 1 0 0 ((seen.map (Qo true)).length)) Y) (tv (tN cell) Y) Y (by (simp only [List.length_map];omega)) Jz sz4 if4) (cO (B.storeP (us:= [(tB true)]) (rows':=((seen.set cell true).map (Qo true))) (row:=(Qo true x1)) (tv (T.orp 1 0 cell 0) Y) (VEv.bool true) nofun Y (Qr _ hx1) Y (lb Y) if4 sz4 (bc Y bn) (by intro r hr t ht;obtain ⟨x,_,rfl⟩:=List.mem_map.1 hr;rw [Qht] at ht;exact QT (okBool.pl _ t ht)) (QZ Y)) (nt (sq (sr (fO (OF.assign (VEv.bool true)) (nt (VRun.block ?_)))))))
 refine VRun.loop (A:=Bool×(List Bool)) (fun s_=> [(1,(T.os 1 1 0 ((s_.2.map (Qo true)).length))),(3,(T.op 0 0)),(6,T.nils),(7,(tB s_.1))]) (fun s_=>QV [(0,(Obj.cells (Qd false g))),(1,(Obj.rows 1 (s_.2.map (Qo true))))]) 2 (fun s_=>Inv0 g (seen.set cell true) s_.2 s_.1) (fun s_=>s_.2.count false+(if s_.1=true then 1 else 0)) ((true,seen.set cell true):Bool×(List Bool)) ?_ (Wk.mk (fun k=>if k=0 then 1 else if k=1 then 0 else k) ?_ ?_ ?_) ?_
 ·exact ⟨RS.start _ _,fun h=>by cases h⟩
 ·exact (bc ⟨(congrArg (fun n_=>T.os 1 0 0 n_) (show (seen.map (Qo true)).length=((seen.set cell true).map (Qo true)).length from (by (simp;done)))),rfl⟩ (b2 (b2 (b2 bn))))
 ·exact (b3 (b3 bn))
 ·exact nd Y
 rintro ⟨ag,s⟩ (hI':Inv0 g (seen.set cell true) s ag)
 show VRun _ _ _ [(1,(T.os 1 1 0 ((s.map (Qo true)).length))),(3,(T.op 0 0)),(6,T.nils),(7,(tB ag))] (QV [(0,(Obj.cells (Qd false g))),(1,(Obj.rows 1 (s.map (Qo true))))]) 2 _
 have hI1:=hI'
 have hl0:s.length=g.Cells.size:=by have:=hI'.1.1;rw [List.length_set] at this;omega
 refine sq (sr (mO (tB ag) Y (nt ?_)))
 refine VRun.cond (tv (tB ag) Y) (fun hc0=> ?_) (fun hc0=> ?_)
 ·have fhc0:ag=true:=hc0
  refine sk (tn (VRun.block (sr (fO (OF.assign (VEv.bool false)) (nt (sr (fO (OF.assign (VEv.int .i64 0)) (nt (VRun.block ?_)))))))))
  refine VRun.loop (A:=Nat×(List Bool)×Bool) (fun s_=> [(1,(T.os 1 1 0 ((s_.2.1.map (Qo true)).length))),(3,(T.op 0 0)),(6,T.nils),(7,(tB s_.2.2)),(8,(tN s_.1))]) (fun s_=>QV [(0,(Obj.cells (Qd false g))),(1,(Obj.rows 1 (s_.2.1.map (Qo true))))]) 2 (fun s_=>Inv1 g (seen.set cell true) s s_.1 s_.2.1 s_.2.2) (fun s_=>s_.2.1.length - s_.1) ((0,s,false):Nat×(List Bool)×Bool) ?_ (Wk.mk (fun k=>k) ?_ ?_ ?_) ?_
  ·exact Inv1.start hI1.1
  ·exact (b2 (b2 (b2 (b2 (b2 bn)))))
  ·exact (b3 (b3 bn))
  ·exact nd Y
  rintro ⟨i,s1,ag1⟩ (hI':Inv1 g (seen.set cell true) s i s1 ag1)
  show VRun _ _ _ [(1,(T.os 1 1 0 ((s1.map (Qo true)).length))),(3,(T.op 0 0)),(6,T.nils),(7,(tB ag1)),(8,(tN i))] (QV [(0,(Obj.cells (Qd false g))),(1,(Obj.rows 1 (s1.map (Qo true))))]) 2 _
  have hJ1:=hI'.1
  have hl1:s1.length=g.Cells.size:=by have:=hI'.2.1.1;rw [List.length_set] at this;omega
  refine sq (sr (mO (tN i) Y (mO (T.os 1 1 0 ((s1.map (Qo true)).length)) Y (lO (B.lenO (m:=s1.length) (tv (T.os 1 1 0 ((s1.map (Qo true)).length)) Y) Jz (List.length_map ..)) (fO (Q5 (tv (tN i) Y) (tv (tN s1.length) Y)) (nt ?_))))))
  refine cd (i<s1.length) Y (fun fhc1=> ?_) fun fhc1=> ?_
  ·refine sk ?_
   refine tn (sq (VRun.block (sq (sr (mO (T.os 1 1 0 ((s1.map (Qo true)).length)) Y (mO (tN i) Y ?_))))))
   obtain ⟨x2,hx2⟩:∃x,s1[i]? =some x:=⟨_,List.getElem?_eq_getElem (by omega)⟩
   (have e2:on s1 i=x2:=by rw [on,hx2];rfl)
   refine fO (B.indexAddrO (i:=i) (tv (T.os 1 1 0 ((s1.map (Qo true)).length)) Y) (tv (tN i) Y) Y (by (simp only [List.length_map];omega)) Jz sz4 if4) (lO (OL.loadP1 (t:=(tB x2)) (row:=(Qo true x2)) (tv (T.orp 1 1 i 0) Y) Y (Qr _ hx2) Y Y st4) (mO (tB x2) Y ?_))
   refine VRunO.joinB 6 [26,27,28,29,30] 31 (tB (decide ((x2=true)∨(¬(Qv g.Cells i=46))))) ?_ ?_
   ·refine Qdm x2 (fun hg25_1=> ?_) (fun hg25_1=> ?_)
    ·have fhg25_1:x2=true:=hg25_1
     refine QE 5 4 false 25 hg25_1 Y Y Y (fO (OF.pickT (VEv.tmpB Y hg25_1) (VEv.bool true)) (VRunO.nil ?_))
     exact jq (congrArg T.bool (jOT (dT _) hg25_1)) (js Y (js Y (js Y (js Y (js Y (jn))))))
    ·have fhg25_1:x2=false:=hg25_1
     refine Yu (tS g.Cells) hg25_1 Y Y Y Y QU Y Y YD (gF hg25_1 Y Y (OF.move (tv (tN i) Y)) ?_)
     have hb2:i<g.Cells.size:=(by omega)
     refine gF hg25_1 Y Y (xix (tv (tS g.Cells) Y) (tv (tN i) Y) hb2 U9) (gF hg25_1 Y Y (xne (tv (T.int .u8 (Qv g.Cells i)) Y) (VEv.int .u8 46)) (fO (OF.pickF (VEv.tmpB Y hg25_1) (tv (tB (!(decide (Qv g.Cells i=46)))) Y)) (VRunO.nil ?_)))
     exact jq (congrArg T.bool (jOF (dT _) hg25_1 dN)) (js Y (js Y (js Y (js Y (js Y (jn))))))
   refine nt ?_
   refine cd ((x2=true)∨(¬(Qv g.Cells i=46))) Y (fun fhc2=> ?_) fun fhc2=> ?_
   ·have q1:=Qjo (g:=g) (s:=s1) (ag:=ag1) (i:=i) (by rintro ⟨h1,h2,h3⟩;rw [e2] at h2;rcases fhc2 with h4 | h4;rw [h2] at h4;cases h4;exact h4 h1)
    refine VRun.exit (vthn.e (vinB.e (tn (VRun.region (mO (tN i) Y (fO (Qx (tv (tN i) Y) (VEv.int .i64 1) (by omega)) (aO (tN (i+1)) Y (VRunO.nil (tn ?_)))))))))
    have he3:s1=(Y6 g s1 i):=by exact q1.1
    refine ⟨((i+1,Y6 g s1 i,Qcx g ag1 s1 i):Nat×(List Bool)×Bool),?_,?_,Wk.mk (fun k=>k) ?_ ?_ ?_⟩
    ·exact hI'.next fhc1
    ·show (Y6 g s1 i).length - (i+1)<s1.length - i
     have e1:(Y6 g s1 i).length=s1.length:=by unfold Y6;split<;>simp
     rw [e1];omega
    ·exact (bc ⟨(congrArg (fun l_=>T.os 1 1 0 (List.map (Qo true) l_).length) he3),rfl⟩ (b2 (b2 (bc ⟨(congrArg T.bool (show ag1=(Qcx g ag1 s1 i) from (by exact q1.2))),rfl⟩ (b2 bn)))))
    ·exact (b3 (bc ⟨(congrArg (fun l_=>some (Obj.rows 1 (List.map (Qo true) l_))) he3),(lb Y),rfl⟩ bn))
    ·exact nd Y
   refine sk (tn ?_)
   have hci:=Qb9 hg (show i<g.Cells.size by omega)
   obtain ⟨m,hm⟩:∃m,m=i % g.Cols.toNat:=⟨_,rfl⟩
   have hq1:0<m→1≤i:=by rw [hm];exact hci.2.1
   have hm6:m<g.Cols.toNat:=by rw [hm];exact hci.1.1
   have hq4:((m+1:Nat):Int)<g.Cols→i+1<g.Cells.size:=by rw [hm];exact hci.2.2.2.1 1
   clear hci
   refine sr (mO (tN i) Y (lf (tI g.Cols) Y ZE Y Y QQ (fO (B.rem (n:=((m:Nat):Int)) (tv (tN i) Y) (tv (tI g.Cols) Y) (by omega) (by (rw [hm];refine Qml ?_;omega))) (aO (tN m) Y (nt (sr (mO (tN m) Y (fO (B.gtr (c:=(decide (0<m))) (tv (tN m) Y) (VEv.int .i64 0) (by exact Q8 (by omega))) (mO (tB (decide (0<m))) Y ?_)))))))))
   refine VRunO.joinB 6 [39,40,41,42,43] 44 (tB (decide ((0<m)∧((s1[i - 1]?.getD false)=true)))) ?_ ?_
   ·refine gw (0<m) (fun fhg38_4=> ?_) fun fhg38_4=> ?_
    ·refine gF (dy fhg38_4) Y Y (OF.move (tv (T.os 1 1 0 ((s1.map (Qo true)).length)) Y)) ?_
     refine gF (dy fhg38_4) Y Y (OF.move (tv (tN i) Y)) (gF (dy fhg38_4) Y Y (B.sub (n:=((i - 1:Nat):Int)) (tv (tN i) Y) (VEv.int .i64 1) (by (rw [Qt (by omega)];omega))) ?_)
     have hy5:s1[i - 1]? =some (s1[i - 1]?.getD false):=Qaz false (by omega)
     refine gF (dy fhg38_4) Y Y (B.indexAddrO (i:=i - 1) (tv (T.os 1 1 0 ((s1.map (Qo true)).length)) Y) (tv (tN (i - 1)) Y) Y (by (simp only [List.length_map];omega)) Jz sz4 if4) (gL (dy fhg38_4) Y Y (OL.loadP1 (t:=(tB (s1[i - 1]?.getD false))) (row:=(Qo true (s1[i - 1]?.getD false))) (tv (T.orp 1 1 (i - 1) 0) Y) Y (Qr _ hy5) Y Y st4) (fO (OF.pickT (VEv.tmpB Y (dy fhg38_4)) (tv (tB (s1[i - 1]?.getD false)) Y)) (VRunO.nil ?_)))
     exact jq (congrArg T.bool (kAT fhg38_4 (dT _))) (js Y (js Y (js Y (js Y (js Y (jn))))))
    ·refine QE 5 2 true 38 (dz fhg38_4) Y Y Y ?_
     refine fO (OF.pickF (VEv.tmpB Y (dz fhg38_4)) (VEv.bool false)) (VRunO.nil ?_)
     exact jq (congrArg T.bool (kAF fhg38_4)) (js Y (js Y (js Y (js Y (js Y (jn))))))
   refine mO (tB (decide ((0<m)∧((s1[i - 1]?.getD false)=true)))) Y ?_
   refine VRunO.joinB 13 [46,47,48,49,50,51,52,53,54,55,56,57] 58 (tB (decide (((0<m)∧((s1[i - 1]?.getD false)=true))∨(((((m+1):Nat):Int)<g.Cols)∧((s1[(i+1)]?.getD false)=true))))) ?_ ?_
   ·refine gw ((0<m)∧((s1[i - 1]?.getD false)=true)) (fun fhg45_6=> ?_) fun fhg45_6=> ?_
    ·refine QE 6 9 false 45 (dy fhg45_6) Y Y Y ?_
     refine Qbv 5 15 true 51 Y Y Y (oO Y Y (dy fhg45_6) (fO (OF.pickT (VEv.tmpB Y (dy fhg45_6)) (VEv.bool true)) (VRunO.nil ?_)))
     exact jq (congrArg T.bool (kOT fhg45_6)) (js Y (js Y (js Y (js Y (js Y (js Y (js Y (js Y (js Y (js Y (js Y (js Y (jn)))))))))))))
    ·refine gF (dz fhg45_6) Y Y (OF.move (tv (tN m) Y)) ?_
     refine gF (dz fhg45_6) Y Y (Qx (tv (tN m) Y) (VEv.int .i64 1) (by omega)) (Yu (tI g.Cols) (dz fhg45_6) Y Y Y Y ZE Y Y QQ (gF (dz fhg45_6) Y Y (xls (tv (tN (m+1)) Y) (tv (tI g.Cols) Y)) (gF (dz fhg45_6) Y Y (OF.move (tv (tB (decide ((((m+1):Nat):Int)<g.Cols))) Y)) ?_)))
     refine VRunO.joinB 6 [52,53,54,55,56] 57 (tB (decide (((((m+1):Nat):Int)<g.Cols)∧((s1[(i+1)]?.getD false)=true)))) ?_ ?_
     ·refine gw ((((m+1):Nat):Int)<g.Cols) (fun fhg51_7=> ?_) fun fhg51_7=> ?_
      ·refine gF (dy fhg51_7) Y Y (OF.move (tv (T.os 1 1 0 ((s1.map (Qo true)).length)) Y)) ?_
       refine gF (dy fhg51_7) Y Y (OF.move (tv (tN i) Y)) (gF (dy fhg51_7) Y Y (Qx (tv (tN i) Y) (VEv.int .i64 1) (by omega)) ?_)
       have hy8:s1[(i+1)]? =some (s1[(i+1)]?.getD false):=Qaz false (by omega)
       refine gF (dy fhg51_7) Y Y (B.indexAddrO (i:=(i+1)) (tv (T.os 1 1 0 ((s1.map (Qo true)).length)) Y) (tv (tN (i+1)) Y) Y (by (simp only [List.length_map];omega)) Jz sz4 if4) (gL (dy fhg51_7) Y Y (OL.loadP1 (t:=(tB (s1[(i+1)]?.getD false))) (row:=(Qo true (s1[(i+1)]?.getD false))) (tv (T.orp 1 1 (i+1) 0) Y) Y (Qr _ hy8) Y Y st4) (gF (dz fhg45_6) Y Y (OF.pickT (VEv.tmpB Y (dy fhg51_7)) (tv (tB (s1[(i+1)]?.getD false)) Y)) (VRunO.nil ?_)))
       exact jq (congrArg T.bool (kAT fhg51_7 (dT _))) (js Y (js Y (js Y (js Y (js Y (jn))))))
      ·refine QE 5 15 true 51 (dz fhg51_7) Y Y Y ?_
       refine gF (dz fhg45_6) Y Y (OF.pickF (VEv.tmpB Y (dz fhg51_7)) (VEv.bool false)) (VRunO.nil ?_)
       exact jq (congrArg T.bool (kAF fhg51_7)) (js Y (js Y (js Y (js Y (js Y (jn))))))
     refine fO (OF.pickF (VEv.tmpB Y (dz fhg45_6)) (tv (tB (decide (((((m+1):Nat):Int)<g.Cols)∧((s1[(i+1)]?.getD false)=true)))) Y)) (VRunO.nil ?_)
     exact jq (congrArg T.bool (kOF fhg45_6 Y)) (js Y (js Y (js Y (js Y (js Y (js Y (js Y (js Y (js Y (js Y (js Y (js Y (jn)))))))))))))
   refine mO (tB (decide (((0<m)∧((s1[i - 1]?.getD false)=true))∨(((((m+1):Nat):Int)<g.Cols)∧((s1[(i+1)]?.getD false)=true))))) Y ?_
   refine VRunO.joinB 14 [60,61,62,63,64,65,66,67,68,69,70,71,72] 73 (tB (decide ((((0<m)∧((s1[i - 1]?.getD false)=true))∨(((((m+1):Nat):Int)<g.Cols)∧((s1[(i+1)]?.getD false)=true)))∨((g.Cols≤((i:Nat):Int))∧((s1[i - g.Cols.toNat]?.getD false)=true))))) ?_ ?_
   ·refine gw (((0<m)∧((s1[i - 1]?.getD false)=true))∨(((((m+1):Nat):Int)<g.Cols)∧((s1[(i+1)]?.getD false)=true))) (fun fhg59_9=> ?_) fun fhg59_9=> ?_
    ·refine QE 5 23 false 59 (dy fhg59_9) Y Y Y ?_
     refine Qbv 7 28 true 64 Y Y Y (oO Y Y (dy fhg59_9) (fO (OF.pickT (VEv.tmpB Y (dy fhg59_9)) (VEv.bool true)) (VRunO.nil ?_)))
     exact jq (congrArg T.bool (kOT fhg59_9)) (js Y (js Y (js Y (js Y (js Y (js Y (js Y (js Y (js Y (js Y (js Y (js Y (js Y (jn))))))))))))))
    ·refine gF (dz fhg59_9) Y Y (OF.move (tv (tN i) Y)) ?_
     refine Yu (tI g.Cols) (dz fhg59_9) Y Y Y Y ZE Y Y QQ (gF (dz fhg59_9) Y Y (xge (tv (tN i) Y) (tv (tI g.Cols) Y)) (gF (dz fhg59_9) Y Y (OF.move (tv (tB (decide (g.Cols≤((i:Nat):Int)))) Y)) ?_))
     refine VRunO.joinB 8 [65,66,67,68,69,70,71] 72 (tB (decide ((g.Cols≤((i:Nat):Int))∧((s1[i - g.Cols.toNat]?.getD false)=true)))) ?_ ?_
     ·refine gw (g.Cols≤((i:Nat):Int)) (fun fhg64_10=> ?_) fun fhg64_10=> ?_
      ·refine gF (dy fhg64_10) Y Y (OF.move (tv (T.os 1 1 0 ((s1.map (Qo true)).length)) Y)) ?_
       refine gF (dy fhg64_10) Y Y (OF.move (tv (tN i) Y)) (Yu (tI g.Cols) (dy fhg64_10) Y Y Y Y ZE Y Y QQ (gF (dy fhg64_10) Y Y (B.sub (n:=((i - g.Cols.toNat:Nat):Int)) (tv (tN i) Y) (tv (tI g.Cols) Y) (by (rw [Qt (by omega)];omega))) ?_))
       have hy11:s1[i - g.Cols.toNat]? =some (s1[i - g.Cols.toNat]?.getD false):=Qaz false (by omega)
       refine gF (dy fhg64_10) Y Y (B.indexAddrO (i:=i - g.Cols.toNat) (tv (T.os 1 1 0 ((s1.map (Qo true)).length)) Y) (tv (tN (i - g.Cols.toNat)) Y) Y (by (simp only [List.length_map];omega)) Jz sz4 if4) (gL (dy fhg64_10) Y Y (OL.loadP1 (t:=(tB (s1[i - g.Cols.toNat]?.getD false))) (row:=(Qo true (s1[i - g.Cols.toNat]?.getD false))) (tv (T.orp 1 1 (i - g.Cols.toNat) 0) Y) Y (Qr _ hy11) Y Y st4) (gF (dz fhg59_9) Y Y (OF.pickT (VEv.tmpB Y (dy fhg64_10)) (tv (tB (s1[i - g.Cols.toNat]?.getD false)) Y)) (VRunO.nil ?_)))
       exact jq (congrArg T.bool (kAT fhg64_10 (dT _))) (js Y (js Y (js Y (js Y (js Y (js Y (js Y (jn))))))))
      ·refine QE 7 28 true 64 (dz fhg64_10) Y Y Y ?_
       refine gF (dz fhg59_9) Y Y (OF.pickF (VEv.tmpB Y (dz fhg64_10)) (VEv.bool false)) (VRunO.nil ?_)
       exact jq (congrArg T.bool (kAF fhg64_10)) (js Y (js Y (js Y (js Y (js Y (js Y (js Y (jn))))))))
     refine fO (OF.pickF (VEv.tmpB Y (dz fhg59_9)) (tv (tB (decide ((g.Cols≤((i:Nat):Int))∧((s1[i - g.Cols.toNat]?.getD false)=true)))) Y)) (VRunO.nil ?_)
     exact jq (congrArg T.bool (kOF fhg59_9 Y)) (js Y (js Y (js Y (js Y (js Y (js Y (js Y (js Y (js Y (js Y (js Y (js Y (js Y (jn))))))))))))))
   refine mO (tB (decide ((((0<m)∧((s1[i - 1]?.getD false)=true))∨(((((m+1):Nat):Int)<g.Cols)∧((s1[(i+1)]?.getD false)=true)))∨((g.Cols≤((i:Nat):Int))∧((s1[i - g.Cols.toNat]?.getD false)=true))))) Y ?_
   refine VRunO.joinB 17 [75,76,77,78,79,80,81,82,83,84,85,86,87,88,89,90] 91 (tB (decide (((((0<m)∧((s1[i - 1]?.getD false)=true))∨(((((m+1):Nat):Int)<g.Cols)∧((s1[(i+1)]?.getD false)=true)))∨((g.Cols≤((i:Nat):Int))∧((s1[i - g.Cols.toNat]?.getD false)=true)))∨((i+g.Cols.toNat<s1.length)∧((s1[i+g.Cols.toNat]?.getD false)=true))))) ?_ ?_
   ·refine gw ((((0<m)∧((s1[i - 1]?.getD false)=true))∨(((((m+1):Nat):Int)<g.Cols)∧((s1[(i+1)]?.getD false)=true)))∨((g.Cols≤((i:Nat):Int))∧((s1[i - g.Cols.toNat]?.getD false)=true))) (fun fhg74_12=> ?_) fun fhg74_12=> ?_
    ·refine QE 8 38 false 74 (dy fhg74_12) Y Y Y ?_
     refine Qbv 7 46 true 82 Y Y Y (oO Y Y (dy fhg74_12) (fO (OF.pickT (VEv.tmpB Y (dy fhg74_12)) (VEv.bool true)) (VRunO.nil ?_)))
     exact jq (congrArg T.bool (kOT fhg74_12)) (js Y (js Y (js Y (js Y (js Y (js Y (js Y (js Y (js Y (js Y (js Y (js Y (js Y (js Y (js Y (js Y (jn)))))))))))))))))
    ·refine gF (dz fhg74_12) Y Y (OF.move (tv (tN i) Y)) ?_
     refine Yu (tI g.Cols) (dz fhg74_12) Y Y Y Y ZE Y Y QQ (gF (dz fhg74_12) Y Y (B.add (n:=((i+g.Cols.toNat:Nat):Int)) (tv (tN i) Y) (tv (tI g.Cols) Y) (by (rw [Qt (by omega)];omega))) (gF (dz fhg74_12) Y Y (OF.move (tv (T.os 1 1 0 ((s1.map (Qo true)).length)) Y)) (gL (dz fhg74_12) Y Y (B.lenO (m:=s1.length) (tv (T.os 1 1 0 ((s1.map (Qo true)).length)) Y) Jz (List.length_map ..)) (gF (dz fhg74_12) Y Y (Q5 (tv (tN (i+g.Cols.toNat)) Y) (tv (tN s1.length) Y)) (gF (dz fhg74_12) Y Y (OF.move (tv (tB (decide (i+g.Cols.toNat<s1.length))) Y)) ?_)))))
     refine VRunO.joinB 8 [83,84,85,86,87,88,89] 90 (tB (decide ((i+g.Cols.toNat<s1.length)∧((s1[i+g.Cols.toNat]?.getD false)=true)))) ?_ ?_
     ·refine gw (i+g.Cols.toNat<s1.length) (fun fhg82_13=> ?_) fun fhg82_13=> ?_
      ·refine gF (dy fhg82_13) Y Y (OF.move (tv (T.os 1 1 0 ((s1.map (Qo true)).length)) Y)) ?_
       refine gF (dy fhg82_13) Y Y (OF.move (tv (tN i) Y)) (Yu (tI g.Cols) (dy fhg82_13) Y Y Y Y ZE Y Y QQ (gF (dy fhg82_13) Y Y (B.add (n:=((i+g.Cols.toNat:Nat):Int)) (tv (tN i) Y) (tv (tI g.Cols) Y) (by (rw [Qt (by omega)];omega))) ?_))
       have hy14:s1[i+g.Cols.toNat]? =some (s1[i+g.Cols.toNat]?.getD false):=Qaz false (by omega)
       refine gF (dy fhg82_13) Y Y (B.indexAddrO (i:=i+g.Cols.toNat) (tv (T.os 1 1 0 ((s1.map (Qo true)).length)) Y) (tv (tN (i+g.Cols.toNat)) Y) Y (by (simp only [List.length_map];omega)) Jz sz4 if4) (gL (dy fhg82_13) Y Y (OL.loadP1 (t:=(tB (s1[i+g.Cols.toNat]?.getD false))) (row:=(Qo true (s1[i+g.Cols.toNat]?.getD false))) (tv (T.orp 1 1 (i+g.Cols.toNat) 0) Y) Y (Qr _ hy14) Y Y st4) (gF (dz fhg74_12) Y Y (OF.pickT (VEv.tmpB Y (dy fhg82_13)) (tv (tB (s1[i+g.Cols.toNat]?.getD false)) Y)) (VRunO.nil ?_)))
       exact jq (congrArg T.bool (kAT fhg82_13 (dT _))) (js Y (js Y (js Y (js Y (js Y (js Y (js Y (jn))))))))
      ·refine QE 7 46 true 82 (dz fhg82_13) Y Y Y ?_
       refine gF (dz fhg74_12) Y Y (OF.pickF (VEv.tmpB Y (dz fhg82_13)) (VEv.bool false)) (VRunO.nil ?_)
       exact jq (congrArg T.bool (kAF fhg82_13)) (js Y (js Y (js Y (js Y (js Y (js Y (js Y (jn))))))))
     refine fO (OF.pickF (VEv.tmpB Y (dz fhg74_12)) (tv (tB (decide ((i+g.Cols.toNat<s1.length)∧((s1[i+g.Cols.toNat]?.getD false)=true)))) Y)) (VRunO.nil ?_)
     exact jq (congrArg T.bool (kOF fhg74_12 Y)) (js Y (js Y (js Y (js Y (js Y (js Y (js Y (js Y (js Y (js Y (js Y (js Y (js Y (js Y (js Y (js Y (jn)))))))))))))))))
   refine aO (tB (decide (((((0<m)∧((s1[i - 1]?.getD false)=true))∨(((((m+1):Nat):Int)<g.Cols)∧((s1[(i+1)]?.getD false)=true)))∨((g.Cols≤((i:Nat):Int))∧((s1[i - g.Cols.toNat]?.getD false)=true)))∨((i+g.Cols.toNat<s1.length)∧((s1[i+g.Cols.toNat]?.getD false)=true))))) Y (nt (sr (mO (tB (decide (((((0<m)∧((s1[i - 1]?.getD false)=true))∨(((((m+1):Nat):Int)<g.Cols)∧((s1[(i+1)]?.getD false)=true)))∨((g.Cols≤((i:Nat):Int))∧((s1[i - g.Cols.toNat]?.getD false)=true)))∨((i+g.Cols.toNat<s1.length)∧((s1[i+g.Cols.toNat]?.getD false)=true))))) Y (nt ?_))))
   refine cd (((((0<m)∧((s1[i - 1]?.getD false)=true))∨(((((m+1):Nat):Int)<g.Cols)∧((s1[(i+1)]?.getD false)=true)))∨((g.Cols≤((i:Nat):Int))∧((s1[i - g.Cols.toNat]?.getD false)=true)))∨((i+g.Cols.toNat<s1.length)∧((s1[i+g.Cols.toNat]?.getD false)=true))) Y (fun fhc3=> ?_) fun fhc3=> ?_
   ·rw [hm] at fhc3
    have q1:=QkH (g:=g) (s:=s1) (ag:=ag1) (i:=i) ⟨by omega,on_no.2 (fun h=>fhc2 (.inl (e2.symm.trans h))),(QhX hB.1 fhc1).1 fhc3⟩
    refine sr (mO (T.os 1 1 0 ((s1.map (Qo true)).length)) Y (mO (tN i) Y (fO (B.indexAddrO (i:=i) (tv (T.os 1 1 0 ((s1.map (Qo true)).length)) Y) (tv (tN i) Y) Y (by (simp only [List.length_map];omega)) Jz sz4 if4) (cO (B.storeP (us:= [(tB true)]) (rows':=((s1.set i true).map (Qo true))) (row:=(Qo true x2)) (tv (T.orp 1 1 i 0) Y) (VEv.bool true) nofun Y (Qr _ hx2) Y (lb Y) if4 sz4 (bc Y bn) (by intro r hr t ht;obtain ⟨x,_,rfl⟩:=List.mem_map.1 hr;rw [Qht] at ht;exact QT (okBool.pl _ t ht)) (QZ Y)) (nt (VRun.region (fO (OF.assign (VEv.bool true)) (VRunO.nil (vinB.n (tn (VRun.region ?_)))))))))))
    refine mO (tN i) Y (fO (Qx (tv (tN i) Y) (VEv.int .i64 1) (by omega)) (aO (tN (i+1)) Y (VRunO.nil (tn ?_))))
    have he15:(s1.set i true)=(Y6 g s1 i):=by exact q1.1
    refine ⟨((i+1,Y6 g s1 i,Qcx g ag1 s1 i):Nat×(List Bool)×Bool),?_,?_,Wk.mk (fun k=>k) ?_ ?_ ?_⟩
    ·exact hI'.next fhc1
    ·show (Y6 g s1 i).length - (i+1)<s1.length - i
     have e1:(Y6 g s1 i).length=s1.length:=by unfold Y6;split<;>simp
     rw [e1];omega
    ·exact (bc ⟨(congrArg (fun n_=>T.os 1 1 0 n_) (show (s1.map (Qo true)).length=((Y6 g s1 i).map (Qo true)).length from (by (rw [← q1.1];simp;done)))),rfl⟩ (b2 (b2 (bc ⟨(congrArg T.bool (show true=(Qcx g ag1 s1 i) from (by exact q1.2))),rfl⟩ (b2 bn)))))
    ·exact (b3 (bc ⟨(congrArg (fun l_=>some (Obj.rows 1 (List.map (Qo true) l_))) he15),(lb Y),rfl⟩ bn))
    ·exact nd Y
   rw [hm] at fhc3
   have q1:=Qjo (g:=g) (s:=s1) (ag:=ag1) (i:=i) (by rintro ⟨h1,h2,h3⟩;exact fhc3 ((QhX hB.1 fhc1).2 h3))
   refine sk (vinB.n (tn (VRun.region (mO (tN i) Y (fO (Qx (tv (tN i) Y) (VEv.int .i64 1) (by omega)) (aO (tN (i+1)) Y (VRunO.nil (tn ?_))))))))
   have he16:s1=(Y6 g s1 i):=by exact q1.1
   refine ⟨((i+1,Y6 g s1 i,Qcx g ag1 s1 i):Nat×(List Bool)×Bool),?_,?_,Wk.mk (fun k=>k) ?_ ?_ ?_⟩
   ·exact hI'.next fhc1
   ·show (Y6 g s1 i).length - (i+1)<s1.length - i
    have e1:(Y6 g s1 i).length=s1.length:=by unfold Y6;split<;>simp
    rw [e1];omega
   ·exact (bc ⟨(congrArg (fun l_=>T.os 1 1 0 (List.map (Qo true) l_).length) he16),rfl⟩ (b2 (b2 (bc ⟨(congrArg T.bool (show ag1=(Qcx g ag1 s1 i) from (by exact q1.2))),rfl⟩ (b2 bn)))))
   ·exact (b3 (bc ⟨(congrArg (fun l_=>some (Obj.rows 1 (List.map (Qo true) l_))) he16),(lb Y),rfl⟩ bn))
   ·exact nd Y
  refine VRun.exit (vthn.e (vthn.e (vinB.e (vinB.n (tn ?_)))))
  refine ⟨((ag1,s1):Bool×(List Bool)),?_,?_,Wk.mk (fun k=>k) ?_ ?_ ?_⟩
  ·exact hI'.done fhc1
  ·exact hI'.dec fhc0
  ·exact (b2 (b2 (b2 (b2 bn))))
  ·exact (b3 (b3 bn))
  ·exact nd Y
 have fhc0:ag=false:=hc0
 refine VRun.exit (vthn.e (vthn.e (vinB.e (tn (sr (mO (T.os 1 1 0 ((s.map (Qo true)).length)) Y (aO (T.os 1 1 0 ((s.map (Qo true)).length)) Y (nt (rt ?_)))))))))
 have hnew:s=ZD g (seen.set cell true):=by
  exact hI'.done (by simp [fhc0])
 exact vloan.r 1 (VRes.tmp (t:=(T.os 1 1 0 ((s.map (Qo true)).length))) Y VRes.nil) (congrArg (fun l_=>T.os 1 1 0 (List.map (Qo true) l_).length) hnew) (congrArg (fun n_=>T.os 1 1 0 n_) (show (s.map (Qo true)).length=(seen.map (Qo true)).length from (by (simp only [List.length_map,QcO,List.length_set];omega)))) Y (congrArg (List.map (Qo true)) hnew)
noncomputable section
def Qga (a b:List Bool):List Bool:=List.zipWith (fun x y=>x || y) a b
def Ya (a b:List Bool) (k:Nat):List Bool:=(Qga a b).take k++a.drop k
theorem Qad {a b:List Bool} (h:b.length=a.length):(Qga a b).length=a.length:=by simp [Qga,h]
theorem Qd4 {a b:List Bool} {k:Nat} (h:b.length=a.length) (hk:k≤a.length):(Ya a b k).length=a.length:=by
 unfold Ya
 rw [List.length_append,List.length_take,Qad h,List.length_drop];omega
theorem QlF {a b:List Bool} {k:Nat} {x:Bool} (h:b.length=a.length) (hk:k<a.length) (hx:(Ya a b k)[k]? =some x):x=on a k:=by
 unfold Ya at hx
 rw [List.getElem?_append_right (by rw [List.length_take,Qad h];omega),List.length_take,Qad h,Nat.min_eq_left (by omega),Nat.sub_self,List.getElem?_drop,Nat.add_zero] at hx
 rw [on,hx];rfl
theorem QiW {a b:List Bool} (h:b.length=a.length) (j:Nat):on (Qga a b) j=(on a j || on b j):=by
 unfold on Qga
 rw [List.getElem?_zipWith]
 rcases Nat.lt_or_ge j a.length with h1 | h1
 ·rw [List.getElem?_eq_getElem h1,List.getElem?_eq_getElem (by omega)];rfl
 ·rw [List.getElem?_eq_none h1,List.getElem?_eq_none (by omega)];rfl
theorem QiQ {a b:List Bool} {k:Nat} {v:Bool} (h:b.length=a.length) (hk:k<a.length) (hv:v=(on a k || on b k)):(Ya a b k).set k v=Ya a b (k+1):=by
 have hl:=Qad h
 have hu:(Qga a b)[k]? =some v:=by
  have h1:=QiW h k
  unfold on at h1 hv
  rw [List.getElem?_eq_getElem (by omega)] at h1 ⊢
  rw [hv,← h1];rfl
 unfold Ya
 rw [List.set_append_right _ _ (by rw [List.length_take];omega),List.length_take,hl,Nat.min_eq_left (by omega),Nat.sub_self,List.drop_eq_getElem_cons hk,List.set_cons_zero,List.take_add_one,hu]
 simp
theorem QiG {a b:List Bool} {k:Nat} (h:b.length=a.length) (hk:¬k<a.length):Ya a b k=Qga a b:=by
 unfold Ya
 rw [List.take_of_length_le (by rw [Qad h];omega),List.drop_of_length_le (by omega),List.append_nil]
def fresh (g:D.Grid) (i:Nat):List Bool:=ZD g ((List.replicate g.Cells.size false).set i true)
def Qc8 (g:D.Grid) (s:List Bool) (i:Nat):Prop:=Qv g.Cells i=46∧on s i=false
instance (g:D.Grid) (s:List Bool) (i:Nat):Decidable (Qc8 g s i):=Classical.propDecidable _
def Qp (g:D.Grid):Nat→Nat×List Bool
 | 0=>(0,List.replicate g.Cells.size false)
 | i+1=>if Qc8 g (Qp g i).2 i then ((Qp g i).1+1,Qga (Qp g i).2 (fresh g i)) else Qp g i
theorem Qbb (g:D.Grid) (i:Nat):(fresh g i).length=g.Cells.size:=by simp [fresh,QcO]
theorem JA (g:D.Grid):∀i,(Qp g i).2.length=g.Cells.size
 | 0=>by simp [Qp]
 | i+1=>by
  have h:=JA g i
  unfold Qp
  split
  ·simp only;rw [Qad (by rw [Qbb,h])];exact h
  ·exact h
theorem QdX (g:D.Grid):∀i,(Qp g i).1≤i
 | 0=>Nat.le_refl _
 | i+1=>by
  have h:=QdX g i
  unfold Qp
  split
  ·simp only;omega
  ·omega
theorem Qdv {g:D.Grid} {i:Nat} (h:Qc8 g (Qp g i).2 i):(Qp g (i+1)).1=(Qp g i).1+1∧(Qp g (i+1)).2=Qga (Qp g i).2 (fresh g i):=by
 rw [Qp,if_pos h];exact ⟨rfl,rfl⟩
theorem QbR {g:D.Grid} {i:Nat} (h:¬Qc8 g (Qp g i).2 i):Qp g (i+1)=Qp g i:=by
 rw [Qp,if_neg h]
def Ym (g:D.Grid):Nat:=if gridOk g then (Qp g g.Cells.size).1 else 0
theorem Qgx {g:D.Grid} {i:Nat} (h1:i≤g.Cells.size) (h2:gridOk g∨i=0) (h3:¬(i<g.Cells.size∧gridOk g)):(Qp g i).1=Ym g:=by
 unfold Ym
 by_cases hg:gridOk g
 ·rw [if_pos hg,show i=g.Cells.size by have:¬i<g.Cells.size:=fun h=>h3 ⟨h,hg⟩;omega]
 ·rw [if_neg hg,h2.resolve_left hg];rfl
theorem orB (x y:Bool):decide (x=true∨y=true)=(x || y):=by cases x<;>cases y<;>rfl
end
theorem QeW (n:Nat) (g:D.Grid) (hc:g.Cells.size≤mx):Pure (Qs Tryz.prog (n+3)) 127 [(T.agg (Qd false g))] (tN (Ym g)):=by
 refine Pure.intro (rs:= [ResultVar.tmp 2]) Tryz.func127 Y Y Y (E0:= [(0,(T.agg (Qd false g)))]) Y ?_
 obtain ⟨hlim,hmx,hmax⟩:=QA
 refine sr (kO (B.box (ts:=(Qd false g)) (tv (T.agg (Qd false g)) Y) nofun Y) (fO (OF.assign (VEv.int .i64 0)) (nt (sr (fO (OF.assign (VEv.int .i64 0)) (nt (sr (kO (OM.slice0 Jz zo4 (by kernel_rfl) Y (by rw [sz4];decide) sz4) (aO (T.os 1 1 0 0) Y (nt (sq ?_)))))))))))
 refine sr (fO (OF.assign (VEv.int .i64 0)) (nt (VRun.block ?_)))
 have he1: []=((List.replicate 0 false).map (Qo true)):=by rfl
 refine VRun.loop (A:=Nat) (fun s_=> [(1,(T.op 0 0)),(2,(tN 0)),(3,(tN 0)),(4,(T.os 1 1 0 (((List.replicate s_ false).map (Qo true)).length))),(5,(tN s_))]) (fun s_=>QV [(0,(Obj.cells (Qd false g))),(1,(Obj.rows 1 ((List.replicate s_ false).map (Qo true))))]) 2 (fun s_=>s_≤g.Cells.size) (fun s_=>g.Cells.size - s_) (0:Nat) ?_ (Wk.mk (fun k=>k) ?_ ?_ ?_) ?_
 ·(simp;done)
 ·exact (b2 (b2 (b2 (bc ⟨(congrArg (fun n_=>T.os 1 1 0 n_) (show 0=((List.replicate 0 false).map (Qo true)).length from (by rfl))),rfl⟩ (b2 bn)))))
 ·exact (b3 (bc ⟨(congrArg (fun l_=>some (Obj.rows 1 l_)) he1),(lb Y),rfl⟩ bn))
 ·exact nd Y
 rintro k (hI':k≤g.Cells.size)
 show VRun _ _ _ [(1,(T.op 0 0)),(2,(tN 0)),(3,(tN 0)),(4,(T.os 1 1 0 (((List.replicate k false).map (Qo true)).length))),(5,(tN k))] (QV [(0,(Obj.cells (Qd false g))),(1,(Obj.rows 1 ((List.replicate k false).map (Qo true))))]) 2 _
 have hK1:=hI'
 refine sq (sr (mO (tN k) Y (lf (tS g.Cells) Y QU Y Y YD (lO (B.lenS (tv (tS g.Cells) Y) U9) (fO (Q5 (tv (tN k) Y) (tv (tN g.Cells.size) Y)) (nt ?_))))))
 refine cd (k<g.Cells.size) Y (fun fhc0=> ?_) fun fhc0=> ?_
 ·refine sk ?_
  refine tn (sq (VRun.block (VRun.region (mO (T.os 1 1 0 (((List.replicate k false).map (Qo true)).length)) Y (kO (OM.buildSlice (l:= [(tB false)]) (VEvp.cons (VEv.bool false) VEvp.nil) Y (by decide) (bc (nofun) bn) (bc ((bc (Y) bn)) bn) (bc (Y) bn) Jz zo4 (by kernel_rfl) Y (by rw [sz4];decide) sz4 (Nat.le_of_ble_eq_true Y)) (cO (B.append (rows:=((List.replicate k false).map (Qo true))) (rows2:= [[(tB false)]]) (rows3:=((List.replicate k false++ [false]).map (Qo true))) (VDst.own (tv (T.os 1 1 0 (((List.replicate k false).map (Qo true)).length)) Y) Y Y) (VSrc.own (tv (T.os 1 2 0 1) Y) Y Y Jz (bc (bc Y bn) bn)) (by decide) Jz sz4 (by decide) zo4 Y (of_decide_eq_true (by kernel_rfl)) (by (simp only [List.length_map,List.length_append,List.length_cons,List.length_nil,List.length_replicate,List.length_set,List.length_drop,List.length_take,Y2] at *;omega)) ((List.map_append (f:=Qo true) (l₁:=List.replicate k false) (l₂:= [false])).symm)) (aO (T.os 1 3 0 (((List.replicate k false++ [false]).map (Qo true)).length)) Y (VRunO.nil (vinB.n (tn (VRun.region ?_)))))))))))
  refine mO (tN k) Y (fO (Qx (tv (tN k) Y) (VEv.int .i64 1) (by omega)) (aO (tN (k+1)) Y (VRunO.nil (tn ?_))))
  have he2:(List.replicate k false++ [false])=List.replicate (k+1) false:=by rw [List.replicate_succ']
  refine ⟨(k+1:Nat),?_,?_,Wk.mk (fun k=>if k=1 then 3 else k) ?_ ?_ ?_⟩
  ·trivial
  ·omega
  ·exact (b2 (b2 (b2 (bc ⟨(congrArg (fun l_=>T.os 1 3 0 (List.map (Qo true) l_).length) he2),rfl⟩ (b2 bn)))))
  ·exact (b3 (bc ⟨(congrArg (fun l_=>some (Obj.rows 1 (List.map (Qo true) l_))) he2),(lb Y),rfl⟩ bn))
  ·exact nd Y
 refine VRun.exit (vthn.e (vthn.e (vinB.e (tn (sq (sr (fO (OF.assign (VEv.int .i64 0)) (nt (VRun.block ?_)))))))))
 have he3:List.replicate k false=(Qp g 0).2:=by (show List.replicate k false=List.replicate g.Cells.size false;rw [show k=g.Cells.size by omega])
 refine VRun.loop (A:=Nat) (fun s_=> [(1,(T.op 0 0)),(2,(tN 0)),(3,(tN ((Qp g s_).1))),(4,(T.os 1 1 0 ((((Qp g s_).2).map (Qo true)).length))),(6,(tN s_))]) (fun s_=>QV [(0,(Obj.cells (Qd false g))),(1,(Obj.rows 1 (((Qp g s_).2).map (Qo true))))]) 2 (fun s_=>s_≤g.Cells.size∧(gridOk g∨s_=0)) (fun s_=>g.Cells.size - s_) (0:Nat) ?_ (Wk.mk (fun k=>k) ?_ ?_ ?_) ?_
 ·exact ⟨Nat.zero_le _, .inr Y⟩
 ·exact (b2 (b2 (bc ⟨(congrArg (T.int .i64) (show 0=(((Qp g 0).1:Nat):Int) from (by rfl))),rfl⟩ (bc ⟨(congrArg (fun l_=>T.os 1 1 0 (List.map (Qo true) l_).length) he3),rfl⟩ (b2 bn)))))
 ·exact (b3 (bc ⟨(congrArg (fun l_=>some (Obj.rows 1 (List.map (Qo true) l_))) he3),(lb Y),rfl⟩ bn))
 ·exact nd Y
 rintro i (hI':i≤g.Cells.size∧(gridOk g∨i=0))
 show VRun _ _ _ [(1,(T.op 0 0)),(2,(tN 0)),(3,(tN ((Qp g i).1))),(4,(T.os 1 1 0 ((((Qp g i).2).map (Qo true)).length))),(6,(tN i))] (QV [(0,(Obj.cells (Qd false g))),(1,(Obj.rows 1 (((Qp g i).2).map (Qo true))))]) 2 _
 have hI1:=hI'.1
 have hpl:=JA g i
 have hpn:=QdX g i
 refine sq (sr (mO (tN i) Y (lf (tS g.Cells) Y QU Y Y YD (lO (B.lenS (tv (tS g.Cells) Y) U9) (fO (Q5 (tv (tN i) Y) (tv (tN g.Cells.size) Y)) (mO (tB (decide (i<g.Cells.size))) Y ?_))))))
 refine VRunO.joinB 3 [27,28] 29 (tB (decide ((i<g.Cells.size)∧(gridOk g)))) ?_ ?_
 ·refine gw (i<g.Cells.size) (fun fhg26_4=> ?_) fun fhg26_4=> ?_
  ·refine gL (dy fhg26_4) Y Y (OL.loadOn (us:=(Qd false g)) (tv (T.op 0 0) Y) Y Q4 Q0 (lb Y) Y) ?_
   refine VRunO.chain (VWant.on Y Y (dy fhg26_4)) (cS (vc (tv (T.agg (Qd false g)) Y) vn) (LendL.cons (lg Qu) ln) (Yg (n+0) g (by omega)) Y Y) (fO (OF.pickT (VEv.tmpB Y (dy fhg26_4)) (tv (tB (decide (gridOk g))) Y)) (VRunO.nil ?_))
   exact jq (congrArg T.bool (kAT fhg26_4 Y)) (js Y (js Y (jn)))
  ·refine QE 2 5 true 26 (dz fhg26_4) Y Y Y ?_
   refine fO (OF.pickF (VEv.tmpB Y (dz fhg26_4)) (VEv.bool false)) (VRunO.nil ?_)
   exact jq (congrArg T.bool (kAF fhg26_4)) (js Y (js Y (jn)))
 refine nt ?_
 refine cd ((i<g.Cells.size)∧(gridOk g)) Y (fun fhc1=> ?_) fun fhc1=> ?_
 ·refine sk ?_
  refine tn (sq (VRun.block (sr (lf (tS g.Cells) Y QU Y Y YD (mO (tN i) Y ?_)))))
  have hb5:i<g.Cells.size:=(by omega)
  refine fO (xix (tv (tS g.Cells) Y) (tv (tN i) Y) hb5 U9) (fO (J6 (tv (T.int .u8 (Qv g.Cells i)) Y) (VEv.int .u8 46)) (mO (tB (decide (Qv g.Cells i=46))) Y ?_))
  refine VRunO.joinB 6 [38,39,40,41,42] 43 (tB (decide ((Qv g.Cells i=46)∧((!(((Qp g i).2)[i]?.getD false))=true)))) ?_ ?_
  ·refine gw (Qv g.Cells i=46) (fun fhg37_6=> ?_) fun fhg37_6=> ?_
   ·refine gF (dy fhg37_6) Y Y (OF.move (tv (T.os 1 1 0 ((((Qp g i).2).map (Qo true)).length)) Y)) ?_
    refine gF (dy fhg37_6) Y Y (OF.move (tv (tN i) Y)) ?_
    have hy7:((Qp g i).2)[i]? =some (((Qp g i).2)[i]?.getD false):=Qaz false (by omega)
    refine gF (dy fhg37_6) Y Y (B.indexAddrO (i:=i) (tv (T.os 1 1 0 ((((Qp g i).2).map (Qo true)).length)) Y) (tv (tN i) Y) Y (by (simp only [List.length_map];omega)) Jz sz4 if4) (gL (dy fhg37_6) Y Y (OL.loadP1 (t:=(tB (((Qp g i).2)[i]?.getD false))) (row:=(Qo true (((Qp g i).2)[i]?.getD false))) (tv (T.orp 1 1 i 0) Y) Y (Qr _ hy7) Y Y st4) (gF (dy fhg37_6) Y Y (Zd (tv (tB (((Qp g i).2)[i]?.getD false)) Y)) (fO (OF.pickT (VEv.tmpB Y (dy fhg37_6)) (tv (tB (!(((Qp g i).2)[i]?.getD false))) Y)) (VRunO.nil ?_))))
    exact jq (congrArg T.bool (kAT fhg37_6 (dT _))) (js Y (js Y (js Y (js Y (js Y (jn))))))
   ·refine QE 5 5 true 37 (dz fhg37_6) Y Y Y ?_
    refine fO (OF.pickF (VEv.tmpB Y (dz fhg37_6)) (VEv.bool false)) (VRunO.nil ?_)
    exact jq (congrArg T.bool (kAF fhg37_6)) (js Y (js Y (js Y (js Y (js Y (jn))))))
  refine nt ?_
  refine cd ((Qv g.Cells i=46)∧((!(((Qp g i).2)[i]?.getD false))=true)) Y (fun fhc2=> ?_) fun fhc2=> ?_
  ·have q0:Qc8 g (Qp g i).2 i:=⟨fhc2.1,by simpa [on] using fhc2.2⟩
   have q1:=Qdv q0
   have hgs:=fhc1.2.size
   refine sr (mO (tN ((Qp g i).1)) Y (fO (Qx (tv (tN ((Qp g i).1)) Y) (VEv.int .i64 1) (by omega)) (aO (tN ((Qp g i).1+1)) Y (nt (sr (kO (OM.slice0 Jz zo4 (by kernel_rfl) Y (by rw [sz4];decide) sz4) (aO (T.os 1 2 0 0) Y (nt (sq (sr (fO (OF.assign (VEv.int .i64 0)) ?_)))))))))))
   refine nt (VRun.block ?_)
   have he8: []=((List.replicate 0 false).map (Qo true)):=by rfl
   refine VRun.loop (A:=Nat) (fun s_=> [(1,(T.op 0 0)),(2,(tN 0)),(3,(tN ((Qp g i).1+1))),(4,(T.os 1 1 0 ((((Qp g i).2).map (Qo true)).length))),(6,(tN i)),(7,(T.os 1 2 0 (((List.replicate s_ false).map (Qo true)).length))),(8,(tN s_))]) (fun s_=>QV [(0,(Obj.cells (Qd false g))),(1,(Obj.rows 1 (((Qp g i).2).map (Qo true)))),(2,(Obj.rows 1 ((List.replicate s_ false).map (Qo true))))]) 3 (fun s_=>s_≤(Qp g i).2.length) (fun s_=>(Qp g i).2.length - s_) (0:Nat) ?_ (Wk.mk (fun k=>k) ?_ ?_ ?_) ?_
   ·(simp;done)
   ·exact (b2 (b2 (b2 (b2 (b2 (bc ⟨(congrArg (fun n_=>T.os 1 2 0 n_) (show 0=((List.replicate 0 false).map (Qo true)).length from (by rfl))),rfl⟩ (b2 bn)))))))
   ·exact (b3 (b3 (bc ⟨(congrArg (fun l_=>some (Obj.rows 1 l_)) he8),(lb Y),rfl⟩ bn)))
   ·exact nd Y
   rintro k1 (hI':k1≤(Qp g i).2.length)
   show VRun _ _ _ [(1,(T.op 0 0)),(2,(tN 0)),(3,(tN ((Qp g i).1+1))),(4,(T.os 1 1 0 ((((Qp g i).2).map (Qo true)).length))),(6,(tN i)),(7,(T.os 1 2 0 (((List.replicate k1 false).map (Qo true)).length))),(8,(tN k1))] (QV [(0,(Obj.cells (Qd false g))),(1,(Obj.rows 1 (((Qp g i).2).map (Qo true)))),(2,(Obj.rows 1 ((List.replicate k1 false).map (Qo true))))]) 3 _
   have hK1:=hI'
   refine sq (sr (mO (tN k1) Y (mO (T.os 1 1 0 ((((Qp g i).2).map (Qo true)).length)) Y (lO (B.lenO (m:=((Qp g i).2).length) (tv (T.os 1 1 0 ((((Qp g i).2).map (Qo true)).length)) Y) Jz (List.length_map ..)) (fO (Q5 (tv (tN k1) Y) (tv (tN (((Qp g i).2).length)) Y)) (nt ?_))))))
   refine cd (k1<((Qp g i).2).length) Y (fun fhc3=> ?_) fun fhc3=> ?_
   ·refine sk ?_
    refine tn (sq (VRun.block (VRun.region (mO (T.os 1 2 0 (((List.replicate k1 false).map (Qo true)).length)) Y (kO (OM.buildSlice (l:= [(tB false)]) (VEvp.cons (VEv.bool false) VEvp.nil) Y (by decide) (bc (nofun) bn) (bc ((bc (Y) bn)) bn) (bc (Y) bn) Jz zo4 (by kernel_rfl) Y (by rw [sz4];decide) sz4 (Nat.le_of_ble_eq_true Y)) (cO (B.append (rows:=((List.replicate k1 false).map (Qo true))) (rows2:= [[(tB false)]]) (rows3:=((List.replicate k1 false++ [false]).map (Qo true))) (VDst.own (tv (T.os 1 2 0 (((List.replicate k1 false).map (Qo true)).length)) Y) Y Y) (VSrc.own (tv (T.os 1 3 0 1) Y) Y Y Jz (bc (bc Y bn) bn)) (by decide) Jz sz4 (by decide) zo4 Y (of_decide_eq_true (by kernel_rfl)) (by (simp only [List.length_map,List.length_append,List.length_cons,List.length_nil,List.length_replicate,List.length_set,List.length_drop,List.length_take,Y2] at *;omega)) ((List.map_append (f:=Qo true) (l₁:=List.replicate k1 false) (l₂:= [false])).symm)) (aO (T.os 1 4 0 (((List.replicate k1 false++ [false]).map (Qo true)).length)) Y (VRunO.nil (vinB.n (tn (VRun.region ?_)))))))))))
    refine mO (tN k1) Y (fO (Qx (tv (tN k1) Y) (VEv.int .i64 1) (by omega)) (aO (tN (k1+1)) Y (VRunO.nil (tn ?_))))
    have he9:(List.replicate k1 false++ [false])=List.replicate (k1+1) false:=by rw [List.replicate_succ']
    refine ⟨(k1+1:Nat),?_,?_,Wk.mk (fun k=>if k=2 then 4 else k) ?_ ?_ ?_⟩
    ·trivial
    ·omega
    ·exact (b2 (b2 (b2 (b2 (b2 (bc ⟨(congrArg (fun l_=>T.os 1 4 0 (List.map (Qo true) l_).length) he9),rfl⟩ (b2 bn)))))))
    ·exact (b3 (b3 (bc ⟨(congrArg (fun l_=>some (Obj.rows 1 (List.map (Qo true) l_))) he9),(lb Y),rfl⟩ bn)))
    ·exact nd Y
   have hk6:k1=g.Cells.size:=by omega
   have hq4:(fresh g i).length=(Qp g i).2.length:=by rw [Qbb,hpl]
   have hfr:ZD g ((List.replicate k1 false).set i true)=fresh g i:=by rw [fresh,hk6]
   have hrl:(ZD g ((List.replicate k1 false).set i true)).length=g.Cells.size:=by rw [hfr,Qbb]
   refine VRun.exit (vthn.e (vthn.e (vinB.e (tn (sr (lO (OL.loadOn (us:=(Qd false g)) (tv (T.op 0 0) Y) Y Q4 Q0 (lb Y) Y) (mO (T.os 1 2 0 (((List.replicate k1 false).map (Qo true)).length)) Y (mO (tN i) Y (cO (OC.callLoan (ts:= [(T.agg (Qd false g)),(T.os 1 0 0 (((List.replicate k1 false).map (Qo true)).length)),(tN i)]) (k:=2) (r:=(T.os 1 0 0 (((ZD g ((List.replicate k1 false).set i true)).map (Qo true)).length))) (rows:=((List.replicate k1 false).map (Qo true))) (rows':=((ZD g ((List.replicate k1 false).set i true)).map (Qo true))) Y (vc (tv (T.agg (Qd false g)) Y) (vc (tv (T.os 1 2 0 (((List.replicate k1 false).map (Qo true)).length)) Y) (vc (tv (tN i) Y) vn))) Y Y Y (LRes.os _ _) Y (QL (fun _=>rfl) _) (QL (fun _=>rfl) _) (Qew (n+1) g (List.replicate k1 false) i (by exact fhc1.2) (by (simp only [List.length_replicate];omega)) (by (simp only [List.length_replicate];omega)))) (aO (T.os 1 2 0 (((ZD g ((List.replicate k1 false).set i true)).map (Qo true)).length)) Y (nt ?_)))))))))))
   refine sr (fO (OF.assign (VEv.int .i64 0)) (nt (VRun.block ?_)))
   have he10:(Qp g i).2=Ya (Qp g i).2 (fresh g i) 0:=by rfl
   refine VRun.loop (A:=Nat) (fun s_=> [(1,(T.op 0 0)),(2,(tN 0)),(3,(tN ((Qp g i).1+1))),(4,(T.os 1 2 0 (((Ya (Qp g i).2 (fresh g i) s_).map (Qo true)).length))),(6,(tN i)),(7,(T.os 1 1 0 (((ZD g ((List.replicate k1 false).set i true)).map (Qo true)).length))),(9,(tN s_))]) (fun s_=>QV [(0,(Obj.cells (Qd false g))),(1,(Obj.rows 1 ((ZD g ((List.replicate k1 false).set i true)).map (Qo true)))),(2,(Obj.rows 1 ((Ya (Qp g i).2 (fresh g i) s_).map (Qo true))))]) 3 (fun s_=>s_≤(Qp g i).2.length) (fun s_=>(Qp g i).2.length - s_) (0:Nat) ?_ (Wk.mk (fun k=>if k=1 then 2 else if k=2 then 1 else k) ?_ ?_ ?_) ?_
   ·(simp;done)
   ·exact (b2 (b2 (b2 (bc ⟨(congrArg (fun l_=>T.os 1 1 0 (List.map (Qo true) l_).length) he10),rfl⟩ (b2 (b2 (b2 bn)))))))
   ·exact (b3 (b3 (bc ⟨(congrArg (fun l_=>some (Obj.rows 1 (List.map (Qo true) l_))) he10),(lb Y),rfl⟩ bn)))
   ·exact nd Y
   rintro j (hI':j≤(Qp g i).2.length)
   show VRun _ _ _ [(1,(T.op 0 0)),(2,(tN 0)),(3,(tN ((Qp g i).1+1))),(4,(T.os 1 2 0 (((Ya (Qp g i).2 (fresh g i) j).map (Qo true)).length))),(6,(tN i)),(7,(T.os 1 1 0 (((ZD g ((List.replicate k1 false).set i true)).map (Qo true)).length))),(9,(tN j))] (QV [(0,(Obj.cells (Qd false g))),(1,(Obj.rows 1 ((ZD g ((List.replicate k1 false).set i true)).map (Qo true)))),(2,(Obj.rows 1 ((Ya (Qp g i).2 (fresh g i) j).map (Qo true))))]) 3 _
   have hJ1:=hI'
   have hzl:=Qd4 hq4 hJ1
   refine sq (sr (mO (tN j) Y (mO (T.os 1 2 0 (((Ya (Qp g i).2 (fresh g i) j).map (Qo true)).length)) Y (lO (B.lenO (m:=(Ya (Qp g i).2 (fresh g i) j).length) (tv (T.os 1 2 0 (((Ya (Qp g i).2 (fresh g i) j).map (Qo true)).length)) Y) Jz (List.length_map ..)) (fO (Q5 (tv (tN j) Y) (tv (tN ((Ya (Qp g i).2 (fresh g i) j).length)) Y)) (nt ?_))))))
   refine cd (j<(Ya (Qp g i).2 (fresh g i) j).length) Y (fun fhc4=> ?_) fun fhc4=> ?_
   ·refine sk ?_
    refine tn (sq (VRun.block (VRun.region (mO (T.os 1 2 0 (((Ya (Qp g i).2 (fresh g i) j).map (Qo true)).length)) Y (mO (tN j) Y (mO (T.os 1 2 0 (((Ya (Qp g i).2 (fresh g i) j).map (Qo true)).length)) Y (mO (tN j) Y ?_)))))))
    obtain ⟨x1,hx1⟩:∃x,(Ya (Qp g i).2 (fresh g i) j)[j]? =some x:=⟨_,List.getElem?_eq_getElem (by omega)⟩
    have e3:x1=on (Qp g i).2 j:=QlF hq4 (by omega) hx1
    refine fO (B.indexAddrO (i:=j) (tv (T.os 1 2 0 (((Ya (Qp g i).2 (fresh g i) j).map (Qo true)).length)) Y) (tv (tN j) Y) Y (by (simp only [List.length_map];omega)) Jz sz4 if4) (lO (OL.loadP1 (t:=(tB x1)) (row:=(Qo true x1)) (tv (T.orp 1 2 j 0) Y) Y (Qr _ hx1) Y Y st4) (mO (tB x1) Y ?_))
    refine VRunO.joinB 5 [73,74,75,76] 77 (tB (decide ((x1=true)∨(((ZD g ((List.replicate k1 false).set i true))[j]?.getD false)=true)))) ?_ ?_
    ·refine Qdm x1 (fun hg72_11=> ?_) (fun hg72_11=> ?_)
     ·have fhg72_11:x1=true:=hg72_11
      refine QE 4 6 false 72 hg72_11 Y Y Y (fO (OF.pickT (VEv.tmpB Y hg72_11) (VEv.bool true)) (VRunO.nil ?_))
      exact jq (congrArg T.bool (jOT (dT _) hg72_11)) (js Y (js Y (js Y (js Y (jn)))))
     ·have fhg72_11:x1=false:=hg72_11
      refine gF hg72_11 Y Y (OF.move (tv (T.os 1 1 0 (((ZD g ((List.replicate k1 false).set i true)).map (Qo true)).length)) Y)) (gF hg72_11 Y Y (OF.move (tv (tN j) Y)) ?_)
      have hy12:(ZD g ((List.replicate k1 false).set i true))[j]? =some ((ZD g ((List.replicate k1 false).set i true))[j]?.getD false):=Qaz false (by omega)
      refine gF hg72_11 Y Y (B.indexAddrO (i:=j) (tv (T.os 1 1 0 (((ZD g ((List.replicate k1 false).set i true)).map (Qo true)).length)) Y) (tv (tN j) Y) Y (by (simp only [List.length_map];omega)) Jz sz4 if4) (gL hg72_11 Y Y (OL.loadP1 (t:=(tB ((ZD g ((List.replicate k1 false).set i true))[j]?.getD false))) (row:=(Qo true ((ZD g ((List.replicate k1 false).set i true))[j]?.getD false))) (tv (T.orp 1 1 j 0) Y) Y (Qr _ hy12) Y Y st4) (fO (OF.pickF (VEv.tmpB Y hg72_11) (tv (tB ((ZD g ((List.replicate k1 false).set i true))[j]?.getD false)) Y)) (VRunO.nil ?_)))
      exact jq (congrArg T.bool (jOF (dT _) hg72_11 (dT _))) (js Y (js Y (js Y (js Y (jn)))))
    refine fO (B.indexAddrO (i:=j) (tv (T.os 1 2 0 (((Ya (Qp g i).2 (fresh g i) j).map (Qo true)).length)) Y) (tv (tN j) Y) Y (by (simp only [List.length_map];omega)) Jz sz4 if4) (cO (B.storeP (us:= [(tB (decide ((x1=true)∨(((ZD g ((List.replicate k1 false).set i true))[j]?.getD false)=true))))]) (rows':=(((Ya (Qp g i).2 (fresh g i) j).set j (decide ((x1=true)∨(((ZD g ((List.replicate k1 false).set i true))[j]?.getD false)=true)))).map (Qo true))) (row:=(Qo true x1)) (tv (T.orp 1 2 j 0) Y) (tv (tB (decide ((x1=true)∨(((ZD g ((List.replicate k1 false).set i true))[j]?.getD false)=true)))) Y) nofun Y (Qr _ hx1) Y (lb Y) if4 sz4 (bc Y bn) (by intro r hr t ht;obtain ⟨x,_,rfl⟩:=List.mem_map.1 hr;rw [Qht] at ht;exact QT (okBool.pl _ t ht)) (QZ Y)) (VRunO.nil (vinB.n (tn (VRun.region (mO (tN j) Y (fO (Qx (tv (tN j) Y) (VEv.int .i64 1) (by omega)) (aO (tN (j+1)) Y (VRunO.nil (tn ?_))))))))))
    have he13:((Ya (Qp g i).2 (fresh g i) j).set j (decide ((x1=true)∨(((ZD g ((List.replicate k1 false).set i true))[j]?.getD false)=true))))=Ya (Qp g i).2 (fresh g i) (j+1):=by (refine QiQ hq4 (by omega) ?_;rw [e3,hfr];exact orB _ _)
    refine ⟨(j+1:Nat),?_,?_,Wk.mk (fun k=>k) ?_ ?_ ?_⟩
    ·omega
    ·omega
    ·exact (b2 (b2 (b2 (bc ⟨(congrArg (fun n_=>T.os 1 2 0 n_) (show ((Ya (Qp g i).2 (fresh g i) j).map (Qo true)).length=((Ya (Qp g i).2 (fresh g i) (j+1)).map (Qo true)).length from (by (simp only [List.length_map,List.length_set];rw [Qd4 hq4 hJ1,Qd4 hq4 (by omega)])))),rfl⟩ (b2 (b2 (b2 bn)))))))
    ·exact (b3 (b3 (bc ⟨(congrArg (fun l_=>some (Obj.rows 1 (List.map (Qo true) l_))) he13),(lb Y),rfl⟩ bn)))
    ·exact nd Y
   have hq5:¬j<(Qp g i).2.length:=by omega
   refine VRun.exit (vthn.e (vthn.e (vinB.e (vinB.n (tn (VRun.region (mO (tN i) Y (fO (Qx (tv (tN i) Y) (VEv.int .i64 1) (by omega)) (aO (tN (i+1)) Y (VRunO.nil (tn ?_)))))))))))
   have he14:Ya (Qp g i).2 (fresh g i) j=(Qp g (i+1)).2:=by (rw [q1.2];exact QiG hq4 hq5)
   refine ⟨(i+1:Nat),?_,?_,Wk.mk (fun k=>if k=1 then 2 else k) ?_ ?_ ?_⟩
   ·exact ⟨by omega, .inl fhc1.2⟩
   ·omega
   ·exact (b2 (b2 (bc ⟨(congrArg (T.int .i64) (show ((((Qp g i).1+1):Nat):Int)=(((Qp g (i+1)).1:Nat):Int) from (by omega))),rfl⟩ (bc ⟨(congrArg (fun l_=>T.os 1 2 0 (List.map (Qo true) l_).length) he14),rfl⟩ (b2 bn)))))
   ·exact (b3 (bc ⟨(congrArg (fun l_=>some (Obj.rows 1 (List.map (Qo true) l_))) he14),(lb Y),rfl⟩ bn))
   ·exact nd Y
  have q0:¬Qc8 g (Qp g i).2 i:=fun h=>fhc2 ⟨h.1,by have:=h.2;unfold on at this;rw [this];rfl⟩
  refine sk (vinB.n (tn (VRun.region (mO (tN i) Y (fO (Qx (tv (tN i) Y) (VEv.int .i64 1) (by omega)) (aO (tN (i+1)) Y (VRunO.nil (tn ?_))))))))
  have he15:(Qp g i).2=(Qp g (i+1)).2:=by (rw [QbR q0];done)
  refine ⟨(i+1:Nat),?_,?_,Wk.mk (fun k=>k) ?_ ?_ ?_⟩
  ·exact ⟨by omega, .inl fhc1.2⟩
  ·omega
  ·exact (b2 (b2 (bc ⟨(congrArg (T.int .i64) (show (((Qp g i).1:Nat):Int)=(((Qp g (i+1)).1:Nat):Int) from (by (rw [QbR q0];done)))),rfl⟩ (bc ⟨(congrArg (fun l_=>T.os 1 1 0 (List.map (Qo true) l_).length) he15),rfl⟩ (b2 bn)))))
  ·exact (b3 (bc ⟨(congrArg (fun l_=>some (Obj.rows 1 (List.map (Qo true) l_))) he15),(lb Y),rfl⟩ bn))
  ·exact nd Y
 refine VRun.exit (vthn.e (vthn.e (vinB.e (tn (sr (mO (tN ((Qp g i).1)) Y (aO (tN ((Qp g i).1)) Y (nt (rt (vi (n':=(((Qp g i).1:Nat):Int)) Y ?_))))))))))
 exact congrArg (fun x:Nat=>(x:Int)) (Qgx hI1 hI'.2 fhc1)
noncomputable section
def inG (g:D.Grid) (r c:Int):Prop:=(0≤r∧r<g.Rows)∧(0≤c∧c<g.Cols)
def Z9 (g:D.Grid) (r c:Int):Nat:=Int.toNat (r*g.Cols+c)
def QmG (g:D.Grid) (m:List Bool) (r c:Int):Prop:=inG g r c∧Qv g.Cells (Z9 g r c)=46∧on m (Z9 g r c)=false
instance (g:D.Grid) (m:List Bool) (r c:Int):Decidable (QmG g m r c):=Classical.propDecidable _
def Jn : Nat→D.Grid→List Bool→Int→Int→List Bool
 | 0,_,m,_,_=>m
 | d+1,g,m,r,c=>if QmG g m r c then Jn d g (Jn d g (Jn d g (Jn d g (m.set (Z9 g r c) true) (r - 1) c) (r+1) c) r (c - 1)) r (c+1) else m
theorem Qdq {g:D.Grid} {r c:Int} (hg:gridOk g) (h1:0≤r∧r<g.Rows) (h2:0≤c∧c<g.Cols):(0≤r*g.Cols∧r*g.Cols≤36)∧0≤r*g.Cols+c∧r*g.Cols+c<((g.Cells.size:Nat):Int):=by
 have hs:=hg.2.2.1
 have hz:=hg.size
 have e1:0≤r*g.Cols:=Int.mul_nonneg h1.1 (by omega)
 have e2:(r+1)*g.Cols≤g.Rows*g.Cols:=Int.mul_le_mul_of_nonneg_right (by omega) (by omega)
 rw [Int.add_mul,Int.one_mul] at e2
 omega
theorem Y5 {g:D.Grid} (hg:gridOk g) (a b:Nat):Z9 g ((a:Nat):Int) ((b:Nat):Int)=a*wG g+b:=by
 obtain ⟨w,hw⟩:=Int.eq_ofNat_of_zero_le (show 0≤g.Cols by have:=hg.2.1;omega)
 unfold Z9 wG
 rw [hw]
 show Int.toNat (((a:Nat):Int)*((w:Nat):Int)+((b:Nat):Int))=a*w+b
 rw [← Int.natCast_mul,← Int.natCast_add,Int.toNat_natCast]
theorem Qla {g:D.Grid} (hg:gridOk g):g.Cells.size=g.Rows.toNat*wG g:=by
 obtain ⟨⟨a1,a2⟩,⟨b1,b2⟩,hs,_⟩:=hg
 obtain ⟨w,hw⟩:=Int.eq_ofNat_of_zero_le (show 0≤g.Cols by omega)
 obtain ⟨r,hr⟩:=Int.eq_ofNat_of_zero_le (show 0≤g.Rows by omega)
 unfold wG
 rw [hw,hr] at hs ⊢
 exact_mod_cast hs
theorem Qhx {g:D.Grid} {r c:Int} (hg:gridOk g) (h:inG g r c):∃a b:Nat,r=a∧c=b∧a<g.Rows.toNat∧b<wG g:=by
 obtain ⟨⟨h1,h2⟩,h3,h4⟩:=h
 exact ⟨r.toNat,c.toNat,by omega,by omega,by omega,by unfold wG;omega⟩
theorem QnT {g:D.Grid} {r c r' c':Int} (hg:gridOk g) (h:inG g r c) (h':inG g r' c') (hn:(r'=r∧(c'=c+1∨c'=c - 1))∨(c'=c∧(r'=r+1∨r'=r - 1))):adj g (Z9 g r c) (Z9 g r' c'):=by
 obtain ⟨a,b,rfl,rfl,ha,hb⟩:=Qhx hg h
 obtain ⟨a',b',rfl,rfl,ha',hb'⟩:=Qhx hg h'
 rw [Y5 hg,Y5 hg]
 have hm:(a*wG g+b) % wG g=b:=by rw [Nat.mul_comm,Nat.mul_add_mod,Nat.mod_eq_of_lt hb]
 have hm':(a'*wG g+b') % wG g=b':=by rw [Nat.mul_comm,Nat.mul_add_mod,Nat.mod_eq_of_lt hb']
 rcases hn with ⟨h1,h2 | h2⟩ | ⟨h1,h2 | h2⟩
 ·obtain rfl:a'=a:=by omega
  exact .inl ⟨by omega,by rw [hm];omega⟩
 ·obtain rfl:a'=a:=by omega
  exact .inr (.inl ⟨by omega,by rw [hm'];omega⟩)
 ·obtain rfl:b'=b:=by omega
  obtain rfl:a'=a+1:=by omega
  exact .inr (.inr (.inl (by rw [Nat.add_mul,Nat.one_mul];omega)))
 ·obtain rfl:b'=b:=by omega
  obtain rfl:a=a'+1:=by omega
  exact .inr (.inr (.inr (by rw [Nat.add_mul,Nat.one_mul];omega)))
theorem Qj4 {g:D.Grid} {r c:Int} {y:Nat} (hg:gridOk g) (h:inG g r c) (hy:y<g.Cells.size) (ha:adj g (Z9 g r c) y) :
  (inG g (r - 1) c∧y=Z9 g (r - 1) c)∨(inG g (r+1) c∧y=Z9 g (r+1) c)∨(inG g r (c - 1)∧y=Z9 g r (c - 1))∨(inG g r (c+1)∧y=Z9 g r (c+1)):=by
 have hsz:=Qla hg
 obtain ⟨⟨h1,h2⟩,h3,h4⟩:=h
 obtain ⟨a,b,rfl,rfl,ha',hb⟩:=Qhx hg ⟨⟨h1,h2⟩,h3,h4⟩
 rw [Y5 hg] at ha
 have hm:(a*wG g+b) % wG g=b:=by rw [Nat.mul_comm,Nat.mul_add_mod,Nat.mod_eq_of_lt hb]
 have hw:((wG g:Nat):Int)=g.Cols:=by have:=hg.2.1;unfold wG;omega
 rcases ha with ⟨e1,e2⟩ | ⟨e1,e2⟩ | e1 | e1
 ·rw [hm] at e2
  refine .inr (.inr (.inr ⟨⟨⟨h1,h2⟩,by omega,by omega⟩,?_⟩))
  rw [show ((b:Nat):Int)+1=((b+1:Nat):Int) by omega,Y5 hg];omega
 ·have hb1:1≤b:=by
   rcases Nat.eq_zero_or_pos b with h0 | h0
   ·subst h0
    exfalso
    have ha0:0<a:=by
     rcases Nat.eq_zero_or_pos a with g0 | g0
     ·subst g0;omega
     ·exact g0
    obtain ⟨a1,rfl⟩:∃a1,a=a1+1:=⟨a - 1,by omega⟩
    have e3:y=a1*wG g+(wG g - 1):=by rw [Nat.add_mul,Nat.one_mul] at e1;omega
    rw [e3,Nat.mul_comm,Nat.mul_add_mod,Nat.mod_eq_of_lt (by omega)] at e2
    omega
   ·exact h0
  refine .inr (.inr (.inl ⟨⟨⟨h1,h2⟩,by omega,by omega⟩,?_⟩))
  rw [show ((b:Nat):Int) - 1=((b - 1:Nat):Int) by omega,Y5 hg];omega
 ·have ha1:a+1<g.Rows.toNat:=by
   rcases Nat.lt_or_ge (a+1) g.Rows.toNat with g0 | g0
   ·exact g0
   ·have e4:g.Rows.toNat=a+1:=by omega
    rw [e4,Nat.add_mul,Nat.one_mul] at hsz
    omega
  refine .inr (.inl ⟨⟨⟨by omega,by omega⟩,h3,h4⟩,?_⟩)
  rw [show ((a:Nat):Int)+1=((a+1:Nat):Int) by omega,Y5 hg,Nat.add_mul,Nat.one_mul];omega
 ·have ha0:0<a:=by
   rcases Nat.eq_zero_or_pos a with g0 | g0
   ·subst g0;omega
   ·exact g0
  obtain ⟨a1,rfl⟩:∃a1,a=a1+1:=⟨a - 1,by omega⟩
  refine .inl ⟨⟨⟨by omega,by omega⟩,h3,h4⟩,?_⟩
  rw [show ((a1+1:Nat):Int) - 1=((a1:Nat):Int) by omega,Y5 hg]
  rw [Nat.add_mul,Nat.one_mul] at e1;omega
theorem QbN {g:D.Grid} {r c:Int} (hg:gridOk g) (h:inG g r c):Z9 g r c<g.Cells.size:=by
 have:=Qdq hg h.1 h.2
 unfold Z9
 omega
theorem Z5 (g:D.Grid):∀d m r c,(Jn d g m r c).length=m.length
 | 0,m,r,c=>rfl
 | d+1,m,r,c=>by
  rw [Jn]
  split
  ·rw [Z5 g d,Z5 g d,Z5 g d,Z5 g d,List.length_set]
  ·rfl
theorem Yl {g:D.Grid} {j:Nat}:∀d m r c,on m j=true→on (Jn d g m r c) j=true
 | 0,m,r,c,h=>h
 | d+1,m,r,c,h=>by
  rw [Jn]
  split
  ·refine Yl d _ _ _ (Yl d _ _ _ (Yl d _ _ _ (Yl d _ _ _ ?_)))
   have hlt:=QlQ h
   unfold on at h ⊢
   rw [List.getElem?_set]
   split
   ·rename_i e
    subst e
    rw [if_pos hlt];rfl
   ·exact h
  ·exact h
theorem Qg5 {s:List Bool} {i:Nat}:(s.set i true).count false≤s.count false:=by
 rcases Nat.lt_or_ge i s.length with h | h
 ·rw [List.count_set h];simp
 ·rw [List.set_eq_of_length_le h];exact Nat.le_refl _
theorem JH (g:D.Grid):∀d m r c,(Jn d g m r c).count false≤m.count false
 | 0,m,r,c=>Nat.le_refl _
 | d+1,m,r,c=>by
  rw [Jn]
  split
  ·exact Nat.le_trans (JH g d _ _ _) (Nat.le_trans (JH g d _ _ _) (Nat.le_trans (JH g d _ _ _) (Nat.le_trans (JH g d _ _ _) Qg5)))
  ·exact Nat.le_refl _
theorem Qa9 {g:D.Grid} (hg:gridOk g) {P:Nat→Prop} (hP:∀i j,P i→adj g i j→j<g.Cells.size→Qv g.Cells j=46→P j):∀d m r c,m.length=g.Cells.size→(inG g r c→Qv g.Cells (Z9 g r c)=46→P (Z9 g r c))→∀j,on (Jn d g m r c) j=true→on m j=true∨P j
 | 0,m,r,c,_,_,j,hj=> .inl hj
 | d+1,m,r,c,hl,h,j,hj=>by
  rw [Jn] at hj
  split at hj
  ·rename_i hgo
   obtain ⟨g1,g2,g3⟩:=hgo
   have hv:=h g1 g2
   have nb:∀r' c',((r'=r∧(c'=c+1∨c'=c - 1))∨(c'=c∧(r'=r+1∨r'=r - 1)))→inG g r' c'→Qv g.Cells (Z9 g r' c')=46→P (Z9 g r' c'):=fun r' c' hn hi hw=>hP _ _ hv (QnT hg g1 hi hn) (QbN hg hi) hw
   have l1:(m.set (Z9 g r c) true).length=g.Cells.size:=by rw [List.length_set,hl]
   rcases Qa9 hg hP d _ _ _ (by rw [Z5,Z5,Z5,l1]) (nb r (c+1) (.inl ⟨rfl, .inl Y⟩)) j hj with hj | hj
   ·rcases Qa9 hg hP d _ _ _ (by rw [Z5,Z5,l1]) (nb r (c - 1) (.inl ⟨rfl, .inr Y⟩)) j hj with hj | hj
    ·rcases Qa9 hg hP d _ _ _ (by rw [Z5,l1]) (nb (r+1) c (.inr ⟨rfl, .inl Y⟩)) j hj with hj | hj
     ·rcases Qa9 hg hP d _ _ _ l1 (nb (r - 1) c (.inr ⟨rfl, .inr Y⟩)) j hj with hj | hj
      ·rw [QdZ (by rw [hl];exact QbN hg g1)] at hj
       split at hj
       ·rename_i e
        rw [e];exact .inr hv
       ·exact .inl hj
      ·exact .inr hj
     ·exact .inr hj
    ·exact .inr hj
   ·exact .inr hj
  ·exact .inl hj
theorem Qe9 {g:D.Grid} (hg:gridOk g) {d:Nat} {m:List Bool} {r c:Int} (hl:m.length=g.Cells.size) (hc:m.count false<d) (hi:inG g r c) (hw:Qv g.Cells (Z9 g r c)=46):on (Jn d g m r c) (Z9 g r c)=true:=by
 cases d with
 | zero=>omega
 | succ d =>
  rw [Jn]
  split
  ·refine Yl d _ _ _ (Yl d _ _ _ (Yl d _ _ _ (Yl d _ _ _ ?_)))
   rw [QdZ (by rw [hl];exact QbN hg hi),if_pos Y]
  ·rename_i hn
   cases ho:on m (Z9 g r c) with
   | true=>rfl
   | false=>exact absurd ⟨hi,hw,ho⟩ hn
theorem Qfc {g:D.Grid} (hg:gridOk g):∀d m r c,m.length=g.Cells.size→m.count false<d→∀x y,on (Jn d g m r c) x=true→¬on m x=true→adj g x y→y<g.Cells.size→Qv g.Cells y=46→on (Jn d g m r c) y=true
 | 0,m,r,c,_,hc,x,y,_,_,_,_,_=>by omega
 | d+1,m,r,c,hl,hc,x,y,hx,hnx,ha,hy,hw=>by
  rw [Jn] at hx ⊢
  by_cases hgo:QmG g m r c
  ·rw [if_pos hgo] at hx ⊢
   obtain ⟨g1,g2,g3⟩:=hgo
   have hcl:=QbN hg g1
   have l1:(m.set (Z9 g r c) true).length=g.Cells.size:=by rw [List.length_set,hl]
   have c1:(m.set (Z9 g r c) true).count false<d:=by
    have:=QdC (by rw [hl];exact hcl) g3
    omega
   generalize hm1:m.set (Z9 g r c) true=m1 at *
   have c2:=JH g d m1 (r - 1) c
   have l2:=Z5 g d m1 (r - 1) c
   generalize hm2:Jn d g m1 (r - 1) c=m2 at *
   have c3:=JH g d m2 (r+1) c
   have l3:=Z5 g d m2 (r+1) c
   generalize hm3:Jn d g m2 (r+1) c=m3 at *
   have c4:=JH g d m3 r (c - 1)
   have l4:=Z5 g d m3 r (c - 1)
   generalize hm4:Jn d g m3 r (c - 1)=m4 at *
   have up4:∀j,on m4 j=true→on (Jn d g m4 r (c+1)) j=true:=fun j h=>Yl d _ _ _ h
   have up3:∀j,on m3 j=true→on m4 j=true:=fun j h=>hm4▸Yl d _ _ _ h
   have up2:∀j,on m2 j=true→on m3 j=true:=fun j h=>hm3▸Yl d _ _ _ h
   by_cases h4:on m4 x=true
   ·by_cases h3:on m3 x=true
    ·by_cases h2:on m2 x=true
     ·by_cases h1:on m1 x=true
      ·have hxv:x=Z9 g r c:=by
        rw [← hm1,QdZ (by rw [hl];exact hcl)] at h1
        split at h1
        ·assumption
        ·exact absurd h1 hnx
       subst hxv
       rcases Qj4 hg g1 hy ha with ⟨k1,rfl⟩ | ⟨k1,rfl⟩ | ⟨k1,rfl⟩ | ⟨k1,rfl⟩
       ·exact up4 _ (up3 _ (up2 _ (hm2▸Qe9 hg l1 c1 k1 hw)))
       ·exact up4 _ (up3 _ (hm3▸Qe9 hg (by omega) (by omega) k1 hw))
       ·exact up4 _ (hm4▸Qe9 hg (by omega) (by omega) k1 hw)
       ·exact Qe9 hg (by omega) (by omega) k1 hw
      ·exact up4 _ (up3 _ (up2 _ (hm2▸Qfc hg d m1 (r - 1) c l1 c1 x y (hm2▸h2) h1 ha hy hw)))
     ·exact up4 _ (up3 _ (hm3▸Qfc hg d m2 (r+1) c (by omega) (by omega) x y (hm3▸h3) h2 ha hy hw))
    ·exact up4 _ (hm4▸Qfc hg d m3 r (c - 1) (by omega) (by omega) x y (hm4▸h4) h3 ha hy hw)
   ·exact Qfc hg d m4 r (c+1) (by omega) (by omega) x y hx h4 ha hy hw
  ·rw [if_neg hgo] at hx
   exact absurd hx hnx
def Qjl (g:D.Grid) (s:List Bool):Prop:=∀x y,on s x=true→adj g x y→y<g.Cells.size→Qv g.Cells y=46→on s y=true
theorem QlX (n j:Nat):on (List.replicate n false) j=false:=by
 unfold on
 rw [List.getElem?_replicate]
 split<;>rfl
theorem Qh1 {g:D.Grid} {i j:Nat} (hi:i<g.Cells.size):on ((List.replicate g.Cells.size false).set i true) j=true↔j=i:=by
 rw [QdZ (by simpa using hi),QlX]
 split<;>simp [*]
theorem Qcv {g:D.Grid}:∀i,i≤g.Cells.size→Qjl g (Qp g i).2
 | 0,_=>fun x y hx=>by rw [Qp,QlX] at hx;cases hx
 | i+1,hi=>by
  have ih:=Qcv (g:=g) i (by omega)
  by_cases hn:Qc8 g (Qp g i).2 i
  ·rw [(Qdv hn).2]
   intro x y hx ha hy hw
   have hl:(fresh g i).length=(Qp g i).2.length:=by rw [Qbb,JA]
   rw [QiW hl,Bool.or_eq_true] at hx ⊢
   rcases hx with hx | hx
   ·exact .inl (ih x y hx ha hy hw)
   ·exact .inr (on_reachL.2 (.step (on_reachL.1 hx) ha (by simpa using hy) hw))
  ·rw [QbR hn];exact ih
theorem QmD {g:D.Grid} (hg:gridOk g) {d i:Nat} {m:List Bool} (hl:m.length=g.Cells.size) (hi:i<g.Cells.size) (hc:m.count false<d) (hcl:Qjl g m) (hw:Qv g.Cells i=46) :
  Jn d g m ((i / wG g:Nat):Int) ((i % wG g:Nat):Int)=Qga m (fresh g i):=by
 have hlf:(fresh g i).length=m.length:=by rw [Qbb,hl]
 have hci:Z9 g ((i / wG g:Nat):Int) ((i % wG g:Nat):Int)=i:=by
  rw [Y5 hg,Nat.mul_comm];exact Nat.div_add_mod i _
 obtain ⟨⟨q1,q2⟩,_⟩:=Qb9 hg hi
 have hin:inG g ((i / wG g:Nat):Int) ((i % wG g:Nat):Int):=by
  have hA:=hg.1
  have hB:=hg.2.1
  unfold wG
  generalize i / g.Cols.toNat=q at *
  generalize i % g.Cols.toNat=m' at *
  exact ⟨⟨by omega,by omega⟩,by omega,by omega⟩
 refine Qlt (by rw [Z5,Qad hlf]) fun j=> ?_
 rw [QiW hlf,Bool.or_eq_true]
 constructor
 ·intro hj
  rcases Qa9 hg (P:=fun j=>Rch g ((List.replicate g.Cells.size false).set i true) j) (fun a b h ha hb hw=> .step h ha (by simpa using hb) hw) d m _ _ hl (fun _ _=>by rw [hci];exact .base ((Qh1 hi).2 Y)) j hj with h | h
  ·exact .inl h
  ·exact .inr (on_reachL.2 h)
 ·rintro (hj | hj)
  ·exact Yl d _ _ _ hj
  ·have hr:=on_reachL.1 hj
   clear hj
   induction hr with
   | base h =>
    obtain rfl:=(Qh1 hi).1 h
    have:=Qe9 hg hl hc hin (by rw [hci];exact hw)
    rwa [hci] at this
   | step h ha hb hw2 ih =>
    rename_i a b
    have hb':b<g.Cells.size:=by simpa using hb
    by_cases hma:on m a=true
    ·exact Yl d _ _ _ (hcl a b hma ha hb' hw2)
    ·exact Qfc hg d m _ _ hl hc a b ih hma ha hb' hw2
end
theorem QdG (n:Nat) (nn:Nat) (g:D.Grid):∀(d:Nat) (met:List Bool) (r:Int) (c:Int) (hg:gridOk g) (hn:nn=g.Cells.size) (hl:met.length=nn) (hr: -1≤r∧r≤6) (hc: -1≤c∧c≤6) (hu:met.count false<d),Loan (Qs Tryz.prog (n+d+1)) 141 1 (List.map (Qo true) met) [(tI r),(tI c),(T.rp (Qd false g)),(T.vp [(T.os 1 0 0 nn)]),(vtT 141 (T.rp (Qd false g)) (T.vp [(T.os 1 0 0 nn)]) d)] (T.tup []) (List.map (Qo true) (Jn d g met r c)):=by
 intro d
 induction d with
 | zero=>intro met r c hg hn hl hr hc hu;exact absurd hu (Nat.not_lt_zero _)
 | succ d ih =>
 intro met r c hg hn hl hr hc hu
 refine Loan.intro (n:=n+d+1) (rs:= []) (j:=3) (pin:=(T.vp [(T.os 1 0 0 nn)])) Tryz.func141 Y Y Y (by kernel_rfl) Y (.vp _ _) .none (QL (fun _=>rfl) _) (QL (fun _=>rfl) _) (E0:= [(0,(tI r)),(1,(tI c)),(2,(T.rp (Qd false g))),(3,(T.vp [(T.os 1 0 0 nn)])),(4,(vtT 141 (T.rp (Qd false g)) (T.vp [(T.os 1 0 0 nn)]) (d+1)))]) Y ?_
 obtain ⟨hlim,hmx,hmax⟩:=QA
 have hsz:=hg.size
 have hA:=hg.1
 have hB:=hg.2.1
 refine sq (sr (mO (tI r) Y (lr (tI g.Rows) Y (lb Y) QaR Y QQ (cO (cS (vc (tv (tI r) Y) (vc (tv (tI g.Rows) Y) vn)) (Z8 Y) (Jy (n+d+0) r g.Rows) Y Y) (fO (Zd (tv (tB (decide (0≤r∧r<g.Rows))) Y)) (mO (tB (!(decide (0≤r∧r<g.Rows)))) Y ?_))))))
 refine VRunO.joinB 6 [13,14,15,16,17] 18 (tB (decide ((¬(0≤r∧r<g.Rows))∨(¬(0≤c∧c<g.Cols))))) ?_ ?_
 ·refine gn (0≤r∧r<g.Rows) (fun fhg12_1=> ?_) fun fhg12_1=> ?_
  ·refine QE 5 5 false 12 (ny fhg12_1) Y Y Y ?_
   refine fO (OF.pickT (VEv.tmpB Y (ny fhg12_1)) (VEv.bool true)) (VRunO.nil ?_)
   exact jq (congrArg T.bool (kOT fhg12_1)) (js Y (js Y (js Y (js Y (js Y (jn))))))
  ·refine gF (nz fhg12_1) Y Y (OF.move (tv (tI c) Y)) ?_
   refine glr (tI g.Cols) (nz fhg12_1) Y Y Y Y (lb Y) ZE Y QQ (VRunO.chain (VWant.on Y Y (nz fhg12_1)) (cS (vc (tv (tI c) Y) (vc (tv (tI g.Cols) Y) vn)) (Z8 Y) (Jy (n+d+0) c g.Cols) Y Y) (gF (nz fhg12_1) Y Y (Zd (tv (tB (decide (0≤c∧c<g.Cols))) Y)) (fO (OF.pickF (VEv.tmpB Y (nz fhg12_1)) (tv (tB (!(decide (0≤c∧c<g.Cols)))) Y)) (VRunO.nil ?_))))
   exact jq (congrArg T.bool (kOF (not_not_intro fhg12_1) dN)) (js Y (js Y (js Y (js Y (js Y (jn))))))
 refine mO (tB (decide ((¬(0≤r∧r<g.Rows))∨(¬(0≤c∧c<g.Cols))))) Y ?_
 refine VRunO.joinB 10 [20,21,22,23,24,25,26,27,28] 29 (tB (decide (((¬(0≤r∧r<g.Rows))∨(¬(0≤c∧c<g.Cols)))∨((met[(Int.toNat ((r*g.Cols)+c))]?.getD false)=true)))) ?_ ?_
 ·refine gw ((¬(0≤r∧r<g.Rows))∨(¬(0≤c∧c<g.Cols))) (fun fhg19_2=> ?_) fun fhg19_2=> ?_
  ·refine QE 9 12 false 19 (dy fhg19_2) Y Y Y ?_
   refine fO (OF.pickT (VEv.tmpB Y (dy fhg19_2)) (VEv.bool true)) (VRunO.nil ?_)
   exact jq (congrArg T.bool (kOT fhg19_2)) (js Y (js Y (js Y (js Y (js Y (js Y (js Y (js Y (js Y (jn))))))))))
  ·have hz:=Qdq hg (r:=r) (c:=c) (by omega) (by omega)
   refine gL (dz fhg19_2) Y Y (OL.loadV1 (t:=(T.os 1 0 0 nn)) (tv (T.vp [(T.os 1 0 0 nn)]) Y) Y QlD) (gF (dz fhg19_2) Y Y (OF.move (tv (tI r) Y)) (glr (tI g.Cols) (dz fhg19_2) Y Y Y Y (lb Y) ZE Y QQ (gF (dz fhg19_2) Y Y (B.mul (n:=(r*g.Cols)) (tv (tI r) Y) (tv (tI g.Cols) Y) (by (rw [Qt (by omega)];done))) (gF (dz fhg19_2) Y Y (OF.move (tv (tI c) Y)) (gF (dz fhg19_2) Y Y (B.add (n:=((r*g.Cols)+c)) (tv (tI (r*g.Cols)) Y) (tv (tI c) Y) (by (rw [Qt (by omega)];done))) ?_)))))
   have hy3:met[(Int.toNat ((r*g.Cols)+c))]? =some (met[(Int.toNat ((r*g.Cols)+c))]?.getD false):=Qaz false (by omega)
   refine gF (dz fhg19_2) Y Y (B.indexAddrO (i:=(Int.toNat ((r*g.Cols)+c))) (tv (T.os 1 0 0 nn) Y) (tv (tI ((r*g.Cols)+c)) Y) (by omega) (by omega) Jz sz4 if4) (gL (dz fhg19_2) Y Y (OL.loadP1 (t:=(tB (met[(Int.toNat ((r*g.Cols)+c))]?.getD false))) (row:=(Qo true (met[(Int.toNat ((r*g.Cols)+c))]?.getD false))) (tv (T.orp 1 0 (Int.toNat ((r*g.Cols)+c)) 0) Y) Y (Qr _ hy3) Y Y st4) (fO (OF.pickF (VEv.tmpB Y (dz fhg19_2)) (tv (tB (met[(Int.toNat ((r*g.Cols)+c))]?.getD false)) Y)) (VRunO.nil ?_)))
   exact jq (congrArg T.bool (kOF fhg19_2 (dT _))) (js Y (js Y (js Y (js Y (js Y (js Y (js Y (js Y (js Y (jn))))))))))
 refine mO (tB (decide (((¬(0≤r∧r<g.Rows))∨(¬(0≤c∧c<g.Cols)))∨((met[(Int.toNat ((r*g.Cols)+c))]?.getD false)=true)))) Y ?_
 refine VRunO.joinB 11 [31,32,33,34,35,36,37,38,39,40] 41 (tB (decide ((((¬(0≤r∧r<g.Rows))∨(¬(0≤c∧c<g.Cols)))∨((met[(Int.toNat ((r*g.Cols)+c))]?.getD false)=true))∨(¬(Qv g.Cells (Int.toNat ((r*g.Cols)+c))=46))))) ?_ ?_
 ·refine gw (((¬(0≤r∧r<g.Rows))∨(¬(0≤c∧c<g.Cols)))∨((met[(Int.toNat ((r*g.Cols)+c))]?.getD false)=true)) (fun fhg30_4=> ?_) fun fhg30_4=> ?_
  ·refine QE 10 23 false 30 (dy fhg30_4) Y Y Y ?_
   refine fO (OF.pickT (VEv.tmpB Y (dy fhg30_4)) (VEv.bool true)) (VRunO.nil ?_)
   exact jq (congrArg T.bool (kOT fhg30_4)) (js Y (js Y (js Y (js Y (js Y (js Y (js Y (js Y (js Y (js Y (jn)))))))))))
  ·have hz:=Qdq hg (r:=r) (c:=c) (by omega) (by omega)
   refine glr (tS g.Cells) (dz fhg30_4) Y Y Y Y (lb Y) QU Y YD (gF (dz fhg30_4) Y Y (OF.move (tv (tI r) Y)) (glr (tI g.Cols) (dz fhg30_4) Y Y Y Y (lb Y) ZE Y QQ (gF (dz fhg30_4) Y Y (B.mul (n:=(r*g.Cols)) (tv (tI r) Y) (tv (tI g.Cols) Y) (by (rw [Qt (by omega)];done))) (gF (dz fhg30_4) Y Y (OF.move (tv (tI c) Y)) (gF (dz fhg30_4) Y Y (B.add (n:=((r*g.Cols)+c)) (tv (tI (r*g.Cols)) Y) (tv (tI c) Y) (by (rw [Qt (by omega)];done))) ?_)))))
   have hb5:(Int.toNat ((r*g.Cols)+c))<g.Cells.size:=(by omega)
   refine gF (dz fhg30_4) Y Y (B.index (n:=(Qv g.Cells (Int.toNat ((r*g.Cols)+c)))) (i:=(Int.toNat ((r*g.Cols)+c))) (tv (tS g.Cells) Y) (tv (tI ((r*g.Cols)+c)) Y) (by omega) hb5 U9 (JP hb5)) (gF (dz fhg30_4) Y Y (xne (tv (T.int .u8 (Qv g.Cells (Int.toNat ((r*g.Cols)+c)))) Y) (VEv.int .u8 46)) (fO (OF.pickF (VEv.tmpB Y (dz fhg30_4)) (tv (tB (!(decide (Qv g.Cells (Int.toNat ((r*g.Cols)+c))=46)))) Y)) (VRunO.nil ?_)))
   exact jq (congrArg T.bool (kOF fhg30_4 dN)) (js Y (js Y (js Y (js Y (js Y (js Y (js Y (js Y (js Y (js Y (jn)))))))))))
 refine nt ?_
 refine cd ((((¬(0≤r∧r<g.Rows))∨(¬(0≤c∧c<g.Cols)))∨((met[(Int.toNat ((r*g.Cols)+c))]?.getD false)=true))∨(¬(Qv g.Cells (Int.toNat ((r*g.Cols)+c))=46))) Y (fun fhc0=> ?_) fun fhc0=> ?_
 ·refine rt ?_
  refine tr ?_
  have hnew:met=Jn (d+1) g met r c:=by
   rw [Jn,if_neg];rintro ⟨h1,h2,h3⟩;rcases fhc0 with (h | h) | h;exact h.elim (fun h=>h h1.1) (fun h=>h h1.2);exact on_no.1 h3 h;exact h h2
  exact vloan.r 0 VRes.nil Y Y Y (congrArg (List.map (Qo true)) hnew)
 have hz:=Qdq hg (r:=r) (c:=c) (by omega) (by omega)
 have hin:inG g r c:=⟨by omega,by omega⟩
 have hgo:QmG g met r c:=⟨hin,by unfold Z9;omega,on_no.2 (fun h=>fhc0 (.inl (.inr h)))⟩
 have hct:=QdC (s:=met) (i:=Z9 g r c) (by rw [hl,hn];exact QbN hg hin) hgo.2.2
 unfold Z9 at hct
 have d1:=JH g d (met.set (Int.toNat (r*g.Cols+c)) true) (r - 1) c
 have d2:=JH g d (Jn d g (met.set (Int.toNat (r*g.Cols+c)) true) (r - 1) c) (r+1) c
 have d3:=JH g d (Jn d g (Jn d g (met.set (Int.toNat (r*g.Cols+c)) true) (r - 1) c) (r+1) c) r (c - 1)
 refine sk (tn (sr (lO (OL.loadV1 (t:=(T.os 1 0 0 nn)) (tv (T.vp [(T.os 1 0 0 nn)]) Y) Y QlD) (mO (tI r) Y (lr (tI g.Cols) Y (lb Y) ZE Y QQ (fO (B.mul (n:=(r*g.Cols)) (tv (tI r) Y) (tv (tI g.Cols) Y) (by (rw [Qt (by omega)];done))) (mO (tI c) Y (fO (B.add (n:=((r*g.Cols)+c)) (tv (tI (r*g.Cols)) Y) (tv (tI c) Y) (by (rw [Qt (by omega)];done))) ?_))))))))
 obtain ⟨x1,hx1⟩:∃x,met[(Int.toNat ((r*g.Cols)+c))]? =some x:=⟨_,List.getElem?_eq_getElem (by omega)⟩
 refine fO (B.indexAddrO (i:=(Int.toNat ((r*g.Cols)+c))) (tv (T.os 1 0 0 nn) Y) (tv (tI ((r*g.Cols)+c)) Y) (by omega) (by omega) Jz sz4 if4) (cO (B.storeP (us:= [(tB true)]) (rows':=((met.set (Int.toNat ((r*g.Cols)+c)) true).map (Qo true))) (row:=(Qo true x1)) (tv (T.orp 1 0 (Int.toNat ((r*g.Cols)+c)) 0) Y) (VEv.bool true) nofun Y (Qr _ hx1) Y (lb Y) if4 sz4 (bc Y bn) (by intro r hr t ht;obtain ⟨x,_,rfl⟩:=List.mem_map.1 hr;rw [Qht] at ht;exact QT (okBool.pl _ t ht)) (QZ Y)) (nt (sr (lO (OL.loadV1 (t:=(T.fn 141 [(T.rp (Qd false g)),(T.vp [(T.os 1 0 0 nn)]),(vtT 141 (T.rp (Qd false g)) (T.vp [(T.os 1 0 0 nn)]) d)])) (tv (vtT 141 (T.rp (Qd false g)) (T.vp [(T.os 1 0 0 nn)]) (d+1)) Y) Y Qih) (mO (tI r) Y (fO (B.sub (n:=(r - 1)) (tv (tI r) Y) (VEv.int .i64 1) (by (rw [Qt (by omega)];done))) (mO (tI c) Y (cO (OC.callvLoan (ts:= [(tI (r - 1)),(tI c),(T.rp (Qd false g)),(T.vp [(T.os 1 0 0 nn)]),(vtT 141 (T.rp (Qd false g)) (T.vp [(T.os 1 0 0 nn)]) d)]) (k:=0) (r:=(T.tup [])) (rows:=((met.set (Int.toNat ((r*g.Cols)+c)) true).map (Qo true))) (rows':=((Jn d g (met.set (Int.toNat ((r*g.Cols)+c)) true) (r - 1) c).map (Qo true))) Y Y (vc (tv (tI (r - 1)) Y) (vc (tv (tI c) Y) vn)) Y (by simp only [QaO,ren,Qb5,List.cons_append,List.nil_append]) (tl Y (tl Y (tl Y (tl Y (tl (QdF Y Y _) Y))))) LRes.none Y (QL (fun _=>rfl) _) (QL (fun _=>rfl) _) (ih (met.set (Int.toNat ((r*g.Cols)+c)) true) (r - 1) c (by assumption) (by assumption) (by (simp only [Z5,List.length_set];omega)) (by omega) (by assumption) (by omega))) (nt (sr (lO (OL.loadV1 (t:=(T.fn 141 [(T.rp (Qd false g)),(T.vp [(T.os 1 0 0 nn)]),(vtT 141 (T.rp (Qd false g)) (T.vp [(T.os 1 0 0 nn)]) d)])) (tv (vtT 141 (T.rp (Qd false g)) (T.vp [(T.os 1 0 0 nn)]) (d+1)) Y) Y Qih) ?_)))))))))))
 refine mO (tI r) Y (fO (B.add (n:=(r+1)) (tv (tI r) Y) (VEv.int .i64 1) (by (rw [Qt (by omega)];done))) (mO (tI c) Y (cO (OC.callvLoan (ts:= [(tI (r+1)),(tI c),(T.rp (Qd false g)),(T.vp [(T.os 1 0 0 nn)]),(vtT 141 (T.rp (Qd false g)) (T.vp [(T.os 1 0 0 nn)]) d)]) (k:=0) (r:=(T.tup [])) (rows:=((Jn d g (met.set (Int.toNat ((r*g.Cols)+c)) true) (r - 1) c).map (Qo true))) (rows':=((Jn d g (Jn d g (met.set (Int.toNat ((r*g.Cols)+c)) true) (r - 1) c) (r+1) c).map (Qo true))) Y Y (vc (tv (tI (r+1)) Y) (vc (tv (tI c) Y) vn)) Y (by simp only [QaO,ren,Qb5,List.cons_append,List.nil_append]) (tl Y (tl Y (tl Y (tl Y (tl (QdF Y Y _) Y))))) LRes.none Y (QL (fun _=>rfl) _) (QL (fun _=>rfl) _) (ih (Jn d g (met.set (Int.toNat ((r*g.Cols)+c)) true) (r - 1) c) (r+1) c (by assumption) (by assumption) (by (simp only [Z5,List.length_set];omega)) (by omega) (by assumption) (by omega))) (nt (sr (lO (OL.loadV1 (t:=(T.fn 141 [(T.rp (Qd false g)),(T.vp [(T.os 1 0 0 nn)]),(vtT 141 (T.rp (Qd false g)) (T.vp [(T.os 1 0 0 nn)]) d)])) (tv (vtT 141 (T.rp (Qd false g)) (T.vp [(T.os 1 0 0 nn)]) (d+1)) Y) Y Qih) (mO (tI r) Y (mO (tI c) Y (fO (B.sub (n:=(c - 1)) (tv (tI c) Y) (VEv.int .i64 1) (by (rw [Qt (by omega)];done))) (cO (OC.callvLoan (ts:= [(tI r),(tI (c - 1)),(T.rp (Qd false g)),(T.vp [(T.os 1 0 0 nn)]),(vtT 141 (T.rp (Qd false g)) (T.vp [(T.os 1 0 0 nn)]) d)]) (k:=0) (r:=(T.tup [])) (rows:=((Jn d g (Jn d g (met.set (Int.toNat ((r*g.Cols)+c)) true) (r - 1) c) (r+1) c).map (Qo true))) (rows':=((Jn d g (Jn d g (Jn d g (met.set (Int.toNat ((r*g.Cols)+c)) true) (r - 1) c) (r+1) c) r (c - 1)).map (Qo true))) Y Y (vc (tv (tI r) Y) (vc (tv (tI (c - 1)) Y) vn)) Y (by simp only [QaO,ren,Qb5,List.cons_append,List.nil_append]) (tl Y (tl Y (tl Y (tl Y (tl (QdF Y Y _) Y))))) LRes.none Y (QL (fun _=>rfl) _) (QL (fun _=>rfl) _) (ih (Jn d g (Jn d g (met.set (Int.toNat ((r*g.Cols)+c)) true) (r - 1) c) (r+1) c) r (c - 1) (by assumption) (by assumption) (by (simp only [Z5,List.length_set];omega)) (by assumption) (by omega) (by omega))) (nt ?_)))))))))))
 refine VRun.region (lO (OL.loadV1 (t:=(T.fn 141 [(T.rp (Qd false g)),(T.vp [(T.os 1 0 0 nn)]),(vtT 141 (T.rp (Qd false g)) (T.vp [(T.os 1 0 0 nn)]) d)])) (tv (vtT 141 (T.rp (Qd false g)) (T.vp [(T.os 1 0 0 nn)]) (d+1)) Y) Y Qih) (mO (tI r) Y (mO (tI c) Y (fO (B.add (n:=(c+1)) (tv (tI c) Y) (VEv.int .i64 1) (by (rw [Qt (by omega)];done))) (cO (OC.callvLoan (ts:= [(tI r),(tI (c+1)),(T.rp (Qd false g)),(T.vp [(T.os 1 0 0 nn)]),(vtT 141 (T.rp (Qd false g)) (T.vp [(T.os 1 0 0 nn)]) d)]) (k:=0) (r:=(T.tup [])) (rows:=((Jn d g (Jn d g (Jn d g (met.set (Int.toNat ((r*g.Cols)+c)) true) (r - 1) c) (r+1) c) r (c - 1)).map (Qo true))) (rows':=((Jn d g (Jn d g (Jn d g (Jn d g (met.set (Int.toNat ((r*g.Cols)+c)) true) (r - 1) c) (r+1) c) r (c - 1)) r (c+1)).map (Qo true))) Y Y (vc (tv (tI r) Y) (vc (tv (tI (c+1)) Y) vn)) Y (by simp only [QaO,ren,Qb5,List.cons_append,List.nil_append]) (tl Y (tl Y (tl Y (tl Y (tl (QdF Y Y _) Y))))) LRes.none Y (QL (fun _=>rfl) _) (QL (fun _=>rfl) _) (ih (Jn d g (Jn d g (Jn d g (met.set (Int.toNat ((r*g.Cols)+c)) true) (r - 1) c) (r+1) c) r (c - 1)) r (c+1) (by assumption) (by assumption) (by (simp only [Z5,List.length_set];omega)) (by assumption) (by omega) (by omega))) (VRunO.nil ?_))))))
 have hnew:Jn d g (Jn d g (Jn d g (Jn d g (met.set (Int.toNat ((r*g.Cols)+c)) true) (r - 1) c) (r+1) c) r (c - 1)) r (c+1)=Jn (d+1) g met r c:=by
  rw [Jn,if_pos hgo];rfl
 exact vloan.n 0 VRes.nil Y Y Y (congrArg (List.map (Qo true)) hnew)
theorem Qe7 (n:Nat) (g:D.Grid) (hc:g.Cells.size≤mx):Pure (Qs Tryz.prog (n+39)) 132 [(T.agg (Qd false g))] (tN (Ym g)):=by
 refine Pure.intro (rs:= [ResultVar.tmp 2]) Tryz.func132 Y Y Y (E0:= [(0,(T.agg (Qd false g)))]) Y ?_
 obtain ⟨hlim,hmx,hmax⟩:=QA
 refine sr (kO (B.box (ts:=(Qd false g)) (tv (T.agg (Qd false g)) Y) nofun Y) (fO (OF.assign (VEv.int .i64 0)) (nt (sq (sr (lO (OL.loadOn (us:=(Qd false g)) (tv (T.op 0 0) Y) Y Q4 Q0 (lb Y) Y) (cO (cS (vc (tv (T.agg (Qd false g)) Y) vn) (LendL.cons (lg Qu) ln) (Yt (n+36) g (by omega)) Y Y) (fO (Zd (tv (tB (decide (gridOk g))) Y)) (nt ?_)))))))))
 refine cn (gridOk g) Y (fun fhc0=> ?_) fun fhc0=> ?_
 ·refine sr ?_
  refine fO (OF.assign (VEv.int .i64 0)) (nt (rt (tr (vi (n':=0) Y ?_))))
  rw [Ym,if_neg (by simpa using fhc0)];rfl
 have hgo:gridOk g:=by simpa using fhc0
 have hsz:=hgo.size
 have hA:=hgo.1
 have hB:=hgo.2.1
 refine sk (tn (sr (lf (tS g.Cells) Y QU Y Y YD (lO (B.lenS (tv (tS g.Cells) Y) U9) (kO (B.makeZ (n:=g.Cells.size) (m:=((List.replicate g.Cells.size false).map (Qo true)).length) (rows:=((List.replicate g.Cells.size false).map (Qo true))) (zr:=(Qo true false)) (tv (tN g.Cells.size) Y) (tv (tN g.Cells.size) Y) Y Jz zo4 zc4 Y (by rw [sz4];decide) (by omega) (of_decide_eq_true (by kernel_rfl)) (Z0.bool Z0.nil) sz4 (List.map_replicate ..).symm (by rw [List.length_map,List.length_replicate])) (kO (B.alloc (t:=T.nils) (ts:= [T.nils]) Qof QoC nofun (fun _=> .nils) Y) (cO (B.storeW (us:= [(T.os 1 1 0 (((List.replicate g.Cells.size false).map (Qo true)).length))]) (tv (T.op 2 0) Y) (tv (T.os 1 1 0 (((List.replicate g.Cells.size false).map (Qo true)).length)) Y) nofun Y Y Y Qor QoA (bc Y bn)) (nt (sr (kO (B.alloc (t:=T.fn0) (ts:= [T.fn0]) (show Zq Tryz.prog 146=some .nilFunc by kernel_rfl) (show closedV .nilFunc=true by kernel_rfl) nofun (fun _=> .fn0) Y) (nt ?_)))))))))))
 refine sr (fO (OF.makeFunc (vc (tv (T.op 0 0) Y) (vc (tv (T.op 2 0) Y) (vc (tv (T.op 3 0) Y) vn)))) (cO (B.storeW (us:= [(T.fn 141 [(T.op 0 0),(T.op 2 0),(T.op 3 0)])]) (tv (T.op 3 0) Y) (tv (T.fn 141 [(T.op 0 0),(T.op 2 0),(T.op 3 0)]) Y) nofun Y Y Y QoI Qob (bc Y bn)) (nt (VRun.wk (Wk.recv (sz:=1) (k:=1) (us:=(Qd false g)) (f:=141) 38 (d1:=1) (d2:=3) (d3:=4) Y Y Y Y Y Y (by decide) (by decide) (by decide) (bc Y (bc Y (bc Y bn)))) (sr (fO (OF.assign (VEv.int .i64 0)) (nt (sq (sr (lr (tS g.Cells) Y (lb Y) QU Y YD (lO (B.lenS (tv (tS g.Cells) Y) U9) ?_)))))))))))
 refine fO (OF.move (VEv.int .i64 0)) (nt (VRun.block ?_))
 have he1:(List.replicate g.Cells.size false)=(Qp g 0).2:=by rfl
 refine VRun.loop (A:=Nat) (fun s_=> [(1,(T.rp (Qd false g))),(2,(tN 0)),(3,(T.vp [(T.os 1 0 0 (((List.replicate g.Cells.size false).map (Qo true)).length))])),(4,(vtT 141 (T.rp (Qd false g)) (T.vp [(T.os 1 0 0 (((List.replicate g.Cells.size false).map (Qo true)).length))]) 38)),(5,(tN ((Qp g s_).1))),(17,(tN g.Cells.size)),(18,(tN s_))]) (fun s_=>QV [(0,(Obj.rows 1 (((Qp g s_).2).map (Qo true))))]) 1 (fun s_=>s_≤g.Cells.size) (fun s_=>g.Cells.size - s_) (0:Nat) ?_ (Wk.mk (fun k=>if k=0 then 1 else k) ?_ ?_ ?_) ?_
 ·(simp;done)
 ·exact (b2 (b2 (b2 (b2 (bc ⟨(congrArg (T.int .i64) (show 0=(((Qp g 0).1:Nat):Int) from (by rfl))),rfl⟩ (b2 (b2 bn)))))))
 ·exact (bc ⟨(congrArg (fun l_=>some (Obj.rows 1 (List.map (Qo true) l_))) he1),(lb Y),rfl⟩ bn)
 ·exact nd Y
 rintro i (hI':i≤g.Cells.size)
 show VRun _ _ _ [(1,(T.rp (Qd false g))),(2,(tN 0)),(3,(T.vp [(T.os 1 0 0 (((List.replicate g.Cells.size false).map (Qo true)).length))])),(4,(vtT 141 (T.rp (Qd false g)) (T.vp [(T.os 1 0 0 (((List.replicate g.Cells.size false).map (Qo true)).length))]) 38)),(5,(tN ((Qp g i).1))),(17,(tN g.Cells.size)),(18,(tN i))] (QV [(0,(Obj.rows 1 (((Qp g i).2).map (Qo true))))]) 1 _
 have hI1:=hI'
 have hpl:=JA g i
 have hpn:=QdX g i
 refine sr (fO (Q5 (tv (tN i) Y) (tv (tN g.Cells.size) Y)) (nt (sq ?_)))
 refine cd (i<g.Cells.size) Y (fun fhc1=> ?_) fun fhc1=> ?_
 ·refine sk ?_
  refine tn (sq (VRun.block (sr (mO (tN i) Y (aO (tN i) Y (nt (sr (lr (tS g.Cells) Y (lb Y) QU Y YD (mO (tN i) Y ?_)))))))))
  have hb2:i<g.Cells.size:=(by omega)
  refine fO (xix (tv (tS g.Cells) Y) (tv (tN i) Y) hb2 U9) (fO (J6 (tv (T.int .u8 (Qv g.Cells i)) Y) (VEv.int .u8 46)) (mO (tB (decide (Qv g.Cells i=46))) Y ?_))
  refine VRunO.joinB 6 [27,28,29,30,31] 32 (tB (decide ((Qv g.Cells i=46)∧((!(((Qp g i).2)[i]?.getD false))=true)))) ?_ ?_
  ·refine gw (Qv g.Cells i=46) (fun fhg26_3=> ?_) fun fhg26_3=> ?_
   ·refine gL (dy fhg26_3) Y Y (OL.loadV1 (t:=(T.os 1 0 0 (((List.replicate g.Cells.size false).map (Qo true)).length))) (tv (T.vp [(T.os 1 0 0 (((List.replicate g.Cells.size false).map (Qo true)).length))]) Y) Y QlD) ?_
    refine gF (dy fhg26_3) Y Y (OF.move (tv (tN i) Y)) ?_
    have hy4:((Qp g i).2)[i]? =some (((Qp g i).2)[i]?.getD false):=Qaz false (by omega)
    refine gF (dy fhg26_3) Y Y (B.indexAddrO (i:=i) (tv (T.os 1 0 0 (((List.replicate g.Cells.size false).map (Qo true)).length)) Y) (tv (tN i) Y) Y (by (simp only [List.length_map,List.length_replicate];omega)) Jz sz4 if4) (gL (dy fhg26_3) Y Y (OL.loadP1 (t:=(tB (((Qp g i).2)[i]?.getD false))) (row:=(Qo true (((Qp g i).2)[i]?.getD false))) (tv (T.orp 1 0 i 0) Y) Y (Qr _ hy4) Y Y st4) (gF (dy fhg26_3) Y Y (Zd (tv (tB (((Qp g i).2)[i]?.getD false)) Y)) (fO (OF.pickT (VEv.tmpB Y (dy fhg26_3)) (tv (tB (!(((Qp g i).2)[i]?.getD false))) Y)) (VRunO.nil ?_))))
    exact jq (congrArg T.bool (kAT fhg26_3 (dT _))) (js Y (js Y (js Y (js Y (js Y (jn))))))
   ·refine QE 5 5 true 26 (dz fhg26_3) Y Y Y ?_
    refine fO (OF.pickF (VEv.tmpB Y (dz fhg26_3)) (VEv.bool false)) (VRunO.nil ?_)
    exact jq (congrArg T.bool (kAF fhg26_3)) (js Y (js Y (js Y (js Y (js Y (jn))))))
  refine nt ?_
  refine cd ((Qv g.Cells i=46)∧((!(((Qp g i).2)[i]?.getD false))=true)) Y (fun fhc2=> ?_) fun fhc2=> ?_
  ·have q0:Qc8 g (Qp g i).2 i:=⟨fhc2.1,by simpa [on] using fhc2.2⟩
   have q1:=Qdv q0
   have hci:=Qb9 hgo (show i<g.Cells.size by omega)
   have hq0:0≤((i:Nat):Int) / ((g.Cols.toNat:Nat):Int):=Int.ediv_nonneg (by omega) (by omega)
   have hm0:0≤((i:Nat):Int) % ((g.Cols.toNat:Nat):Int):=Int.emod_nonneg _ (by omega)
   refine sr (mO (tN ((Qp g i).1)) Y (fO (Qx (tv (tN ((Qp g i).1)) Y) (VEv.int .i64 1) (by omega)) (aO (tN ((Qp g i).1+1)) Y (nt (VRun.draw (B:= [[],[],[],[2],[2,3,1],[],[],[6],[6,7,5],[5,7,6,8,1,3,2,4,0]]) (by kernel_rfl) (by kernel_rfl) Y (lD (OL.loadV1 (t:=(T.fn 141 [(T.rp (Qd false g)),(T.vp [(T.os 1 0 0 (((List.replicate g.Cells.size false).map (Qo true)).length))]),(vtT 141 (T.rp (Qd false g)) (T.vp [(T.os 1 0 0 (((List.replicate g.Cells.size false).map (Qo true)).length))]) 37)])) (tv (vtT 141 (T.rp (Qd false g)) (T.vp [(T.os 1 0 0 (((List.replicate g.Cells.size false).map (Qo true)).length))]) 38) Y) Y Qih) Y Y (mD (tN i) Y Y (fD (B.fieldAddrR (us:=((Qd false g).drop 1)) (tv (T.rp (Qd false g)) Y) (lb Y) ZE Y) Y Y (lD (OL.loadR1 (t:=(tI g.Cols)) (tv (T.rp ((Qd false g).drop 1)) Y) Y QQ) Y Y (fD (B.quo (n:=((i / g.Cols.toNat:Nat):Int)) (tv (tN i) Y) (tv (tI g.Cols) Y) (by omega) (by (refine QnM ?_ ?_<;>omega))) Y Y (mD (tN i) Y Y ?_)))))))))))
   refine fD (B.fieldAddrR (us:=((Qd false g).drop 1)) (tv (T.rp (Qd false g)) Y) (lb Y) ZE Y) Y Y (lD (OL.loadR1 (t:=(tI g.Cols)) (tv (T.rp ((Qd false g).drop 1)) Y) Y QQ) Y Y (fD (B.rem (n:=((i % g.Cols.toNat:Nat):Int)) (tv (tN i) Y) (tv (tI g.Cols) Y) (by omega) (by (refine Qml ?_;omega))) Y Y (VRunD.chain (bi:= [5,7,6,8,1,3,2,4,0]) Y VWant.always Y Y Y (by kernel_rfl) (OC.callvLoan (ts:= [(tN (i / g.Cols.toNat)),(tN (i % g.Cols.toNat)),(T.rp (Qd false g)),(T.vp [(T.os 1 0 0 (((List.replicate g.Cells.size false).map (Qo true)).length))]),(vtT 141 (T.rp (Qd false g)) (T.vp [(T.os 1 0 0 (((List.replicate g.Cells.size false).map (Qo true)).length))]) 37)]) (k:=0) (r:=(T.tup [])) (rows:=(((Qp g i).2).map (Qo true))) (rows':=((Jn 37 g ((Qp g i).2) ((i / g.Cols.toNat:Nat):Int) ((i % g.Cols.toNat:Nat):Int)).map (Qo true))) Y Y (vc (tv (tN (i / g.Cols.toNat)) Y) (vc (tv (tN (i % g.Cols.toNat)) Y) vn)) Y (by simp only [QaO,ren,Qb5,List.cons_append,List.nil_append]) (tl Y (tl Y (tl Y (tl Y (tl (QdF Y Y _) Y))))) LRes.none Y (QL (fun _=>rfl) _) (QL (fun _=>rfl) _) (QdG (n+0) (((List.replicate g.Cells.size false).map (Qo true)).length) g 37 ((Qp g i).2) ((i / g.Cols.toNat:Nat):Int) ((i % g.Cols.toNat:Nat):Int) (by exact fhc0) (by (simp only [JA,List.length_map,List.length_replicate];done)) (by (simp only [List.length_map,List.length_replicate];omega)) (by omega) (by omega) (by (refine Nat.lt_of_le_of_lt List.count_le_length ?_;rw [JA];omega)))) (VRunD.nil (vinB.n (tn (VRun.region (fO (Qx (tv (tN i) Y) (VEv.int .i64 1) (by omega)) (mO (tN (i+1)) Y (VRunO.nil (tn ?_)))))))))))
   have he5:Jn 37 g ((Qp g i).2) ((i / g.Cols.toNat:Nat):Int) ((i % g.Cols.toNat:Nat):Int)=(Qp g (i+1)).2:=by (rw [q1.2];exact QmD hgo hpl fhc1 (Nat.lt_of_le_of_lt List.count_le_length (by omega)) (Qcv i hI1) q0.1)
   refine ⟨(i+1:Nat),?_,?_,Wk.mk (fun k=>k) ?_ ?_ ?_⟩
   ·trivial
   ·omega
   ·exact (b2 (b2 (b2 (b2 (bc ⟨(congrArg (T.int .i64) (show ((((Qp g i).1+1):Nat):Int)=(((Qp g (i+1)).1:Nat):Int) from (by omega))),rfl⟩ (b2 (b2 bn)))))))
   ·exact (bc ⟨(congrArg (fun l_=>some (Obj.rows 1 (List.map (Qo true) l_))) he5),(lb Y),rfl⟩ bn)
   ·exact nd Y
  have q0:¬Qc8 g (Qp g i).2 i:=fun h=>fhc2 ⟨h.1,by have:=h.2;unfold on at this;rw [this];rfl⟩
  refine sk (vinB.n (tn (VRun.region (fO (Qx (tv (tN i) Y) (VEv.int .i64 1) (by omega)) (mO (tN (i+1)) Y (VRunO.nil (tn ?_)))))))
  have he6:(Qp g i).2=(Qp g (i+1)).2:=by (rw [QbR q0];done)
  refine ⟨(i+1:Nat),?_,?_,Wk.mk (fun k=>k) ?_ ?_ ?_⟩
  ·trivial
  ·omega
  ·exact (b2 (b2 (b2 (b2 (bc ⟨(congrArg (T.int .i64) (show (((Qp g i).1:Nat):Int)=(((Qp g (i+1)).1:Nat):Int) from (by (rw [QbR q0];done)))),rfl⟩ (b2 (b2 bn)))))))
  ·exact (bc ⟨(congrArg (fun l_=>some (Obj.rows 1 (List.map (Qo true) l_))) he6),(lb Y),rfl⟩ bn)
  ·exact nd Y
 refine VRun.exit (vthn.e (vthn.e (vinB.e (tn (sr (mO (tN ((Qp g i).1)) Y (aO (tN ((Qp g i).1)) Y (nt (rt (vi (n':=(((Qp g i).1:Nat):Int)) Y ?_))))))))))
 exact congrArg (fun x:Nat=>(x:Int)) (Qgx hI1 (.inl hgo) (by omega))
noncomputable section
def Yh (g:D.Grid):Int:=if ¬gridOk g then 1 else if ¬QeH g then 2 else if ¬Ym g=1 then 3 else if QcP g then 4 else if QbX g then 5 else 0
theorem QiJ {g:D.Grid} (h:∀j s,j<(Qb g).length→(Qb g)[j]? =some s→¬QeE g j s) (hg:gridOk g):Qhg g g.Cells↔QbX g:=by
 constructor
 ·rintro ⟨c,h1,h2,_⟩
  exact .inr ⟨c,h1,hg,h2⟩
 ·rintro (⟨j,s,h3,h4⟩ | ⟨c,h1,_,h2⟩)
  ·exact absurd h4 (h j s (List.getElem?_eq_some_iff.1 h3).1 h3)
  ·refine ⟨c,h1,h2,?_⟩
   unfold QbV
   have:=h2.1
   omega
end
theorem QcI (n:Nat) (g:D.Grid) (hc:g.Cells.size≤mx):Pure (Qs Tryz.prog (n+4)) 116 [(T.agg (Qd false g))] (tB (decide (Ym g=1))):=by
 refine Pure.intro (rs:= [ResultVar.tmp 2]) Tryz.func116 Y Y Y (E0:= [(0,(T.agg (Qd false g)))]) Y ?_
 obtain ⟨hlim,hmx,hmax⟩:=QA
 refine sr (kO (B.box (ts:=(Qd false g)) (tv (T.agg (Qd false g)) Y) nofun Y) (fO (OF.assign (VEv.bool false)) (nt (sr (lO (OL.loadOn (us:=(Qd false g)) (tv (T.op 0 0) Y) Y Q4 Q0 (lb Y) Y) (cO (cS (vc (tv (T.agg (Qd false g)) Y) vn) (LendL.cons (lg Qu) ln) (QeW (n+0) g (by assumption)) Y Y) (fO (B.eql (c:=(decide (Ym g=1))) (tv (tN (Ym g)) Y) (VEv.int .i64 1) (Q8 (by omega))) (aO (tB (decide (Ym g=1))) Y (nt (rt ?_))))))))))
 exact vb Y Y
theorem QcL (n:Nat) (g:D.Grid) (hc:g.Cells.size≤mx):Pure (Qs Tryz.prog (n+40)) 120 [(T.agg (Qd false g))] (tB (decide (Ym g=1))):=by
 refine Pure.intro (rs:= [ResultVar.tmp 2]) Tryz.func120 Y Y Y (E0:= [(0,(T.agg (Qd false g)))]) Y ?_
 obtain ⟨hlim,hmx,hmax⟩:=QA
 refine sr (kO (B.box (ts:=(Qd false g)) (tv (T.agg (Qd false g)) Y) nofun Y) (fO (OF.assign (VEv.bool false)) (nt (sr (lO (OL.loadOn (us:=(Qd false g)) (tv (T.op 0 0) Y) Y Q4 Q0 (lb Y) Y) (cO (cS (vc (tv (T.agg (Qd false g)) Y) vn) (LendL.cons (lg Qu) ln) (Qe7 (n+0) g (by assumption)) Y Y) (fO (B.eql (c:=(decide (Ym g=1))) (tv (tN (Ym g)) Y) (VEv.int .i64 1) (Q8 (by omega))) (aO (tB (decide (Ym g=1))) Y (nt (rt ?_))))))))))
 exact vb Y Y
theorem Qf1 (n:Nat) (g:D.Grid) (hc:g.Cells.size≤mx):Pure (Qs Tryz.prog (n+9)) 103 [(T.agg (Qd false g))] (tI (Yh g)):=by
 refine Pure.intro (rs:= [ResultVar.tmp 2]) Tryz.func103 Y Y Y (E0:= [(0,(T.agg (Qd false g)))]) Y ?_
 obtain ⟨hlim,hmx,hmax⟩:=QA
 refine sr (kO (B.box (ts:=(Qd false g)) (tv (T.agg (Qd false g)) Y) nofun Y) (fO (OF.assign (VEv.int .i64 0)) (nt (sq (VRun.block (sr (lO (OL.loadOn (us:=(Qd false g)) (tv (T.op 0 0) Y) Y Q4 Q0 (lb Y) Y) (cO (cS (vc (tv (T.agg (Qd false g)) Y) vn) (LendL.cons (lg Qu) ln) (Yg (n+6) g (by omega)) Y Y) (fO (Zd (tv (tB (decide (gridOk g))) Y)) (aO (tB (!(decide (gridOk g)))) Y (nt ?_)))))))))))
 refine cn (gridOk g) Y (fun fhc0=> ?_) fun fhc0=> ?_
 ·refine sr ?_
  refine fO (OF.assign (VEv.int .i64 1)) (nt (rt (vinB.r (tr (vi (n':=1) Y ?_)))))
  exact (if_pos (by assumption)).symm
 refine sr (lO (OL.loadOn (us:=(Qd false g)) (tv (T.op 0 0) Y) Y Q4 Q0 (lb Y) Y) (cO (cS (vc (tv (T.agg (Qd false g)) Y) vn) (LendL.cons (lg Qu) ln) (QcK (n+4) g (by omega)) Y Y) (fO (Zd (tv (tB (decide (QeH g))) Y)) (aO (tB (!(decide (QeH g)))) Y (nt ?_)))))
 refine cn (QeH g) Y (fun fhc1=> ?_) fun fhc1=> ?_
 ·refine sr ?_
  refine fO (OF.assign (VEv.int .i64 2)) (nt (rt (vinB.r (tr (vi (n':=2) Y ?_)))))
  (simp only [Yh];simp [*];done)
 refine sr (lO (OL.loadOn (us:=(Qd false g)) (tv (T.op 0 0) Y) Y Q4 Q0 (lb Y) Y) (cO (cS (vc (tv (T.agg (Qd false g)) Y) vn) (LendL.cons (lg Qu) ln) (QcI (n+4) g (by assumption)) Y Y) (fO (Zd (tv (tB (decide (Ym g=1))) Y)) (aO (tB (!(decide (Ym g=1)))) Y (nt ?_)))))
 refine cn (Ym g=1) Y (fun fhc2=> ?_) fun fhc2=> ?_
 ·refine sr ?_
  refine fO (OF.assign (VEv.int .i64 3)) (nt (rt (vinB.r (tr (vi (n':=3) Y ?_)))))
  (simp only [Yh];simp [*];done)
 refine sr (lO (OL.loadOn (us:=(Qd false g)) (tv (T.op 0 0) Y) Y Q4 Q0 (lb Y) Y) (cO (cS (vc (tv (T.agg (Qd false g)) Y) vn) (LendL.cons (lg Qu) ln) (Qen (n+4) g (by omega)) Y Y) (aO (tB (decide (QcP g))) Y (nt ?_))))
 refine cd (QcP g) Y (fun fhc3=> ?_) fun fhc3=> ?_
 ·refine sr ?_
  refine fO (OF.assign (VEv.int .i64 4)) (nt (rt (vinB.r (tr (vi (n':=4) Y ?_)))))
  (simp only [Yh];simp [*];done)
 refine sr (lO (OL.loadOn (us:=(Qd false g)) (tv (T.op 0 0) Y) Y Q4 Q0 (lb Y) Y) (cO (cS (vc (tv (T.agg (Qd false g)) Y) vn) (LendL.cons (lg Qu) ln) (Qes (n+0) g (by omega)) Y Y) (aO (tB (decide (QbX g))) Y (nt ?_))))
 refine cd (QbX g) Y (fun fhc4=> ?_) fun fhc4=> ?_
 ·refine sr ?_
  refine fO (OF.assign (VEv.int .i64 5)) (nt (rt (vinB.r (tr (vi (n':=5) Y ?_)))))
  (simp only [Yh];simp [*];done)
 refine sk (vinB.n (tn (sr (fO (OF.assign (VEv.int .i64 0)) (nt (rt (vi (n':=0) Y ?_)))))))
 (simp only [Yh];simp [*];done)
theorem Qf0 (n:Nat) (g:D.Grid) (hc:g.Cells.size≤mx):Pure (Qs Tryz.prog (n+41)) 105 [(T.agg (Qd false g))] (tI (Yh g)):=by
 refine Pure.intro (rs:= [ResultVar.tmp 2]) Tryz.func105 Y Y Y (E0:= [(0,(T.agg (Qd false g)))]) Y ?_
 obtain ⟨hlim,hmx,hmax⟩:=QA
 have hsl:=Zw g
 refine sr (kO (B.box (ts:=(Qd false g)) (tv (T.agg (Qd false g)) Y) nofun Y) (fO (OF.assign (VEv.int .i64 0)) (nt (sq (VRun.block (sr (lO (OL.loadOn (us:=(Qd false g)) (tv (T.op 0 0) Y) Y Q4 Q0 (lb Y) Y) (cO (cS (vc (tv (T.agg (Qd false g)) Y) vn) (LendL.cons (lg Qu) ln) (Yt (n+38) g (by omega)) Y Y) (fO (Zd (tv (tB (decide (gridOk g))) Y)) (aO (tB (!(decide (gridOk g)))) Y (nt ?_)))))))))))
 refine cn (gridOk g) Y (fun fhc0=> ?_) fun fhc0=> ?_
 ·refine sr ?_
  refine fO (OF.assign (VEv.int .i64 1)) (nt (rt (vinB.r (tr (vi (n':=1) Y ?_)))))
  exact (if_pos fhc0).symm
 refine sr (lO (OL.loadOn (us:=(Qd false g)) (tv (T.op 0 0) Y) Y Q4 Q0 (lb Y) Y) (cO (cS (vc (tv (T.agg (Qd false g)) Y) vn) (LendL.cons (lg Qu) ln) (QcJ (n+36) g (by omega)) Y Y) (fO (Zd (tv (tB (decide (QeH g))) Y)) (aO (tB (!(decide (QeH g)))) Y (nt ?_)))))
 refine cn (QeH g) Y (fun fhc1=> ?_) fun fhc1=> ?_
 ·refine sr ?_
  refine fO (OF.assign (VEv.int .i64 2)) (nt (rt (vinB.r (tr (vi (n':=2) Y ?_)))))
  unfold Yh;rw [if_neg (not_not_intro fhc0),if_pos fhc1]
 refine sr (lO (OL.loadOn (us:=(Qd false g)) (tv (T.op 0 0) Y) Y Q4 Q0 (lb Y) Y) (cO (cS (vc (tv (T.agg (Qd false g)) Y) vn) (LendL.cons (lg Qu) ln) (QcL (n+0) g (by assumption)) Y Y) (fO (Zd (tv (tB (decide (Ym g=1))) Y)) (aO (tB (!(decide (Ym g=1)))) Y (nt ?_)))))
 refine cn (Ym g=1) Y (fun fhc2=> ?_) fun fhc2=> ?_
 ·refine sr ?_
  refine fO (OF.assign (VEv.int .i64 3)) (nt (rt (vinB.r (tr (vi (n':=3) Y ?_)))))
  unfold Yh;rw [if_neg (not_not_intro fhc0),if_neg (not_not_intro fhc1),if_pos fhc2]
 refine sk (vinB.n (tn (sr (lO (OL.loadOn (us:=(Qd false g)) (tv (T.op 0 0) Y) Y Q4 Q0 (lb Y) Y) (cO (OC.callF (r':=(T.os 4 1 0 (((Qb g).map (Qj true)).length))) (objs:= [(Obj.rows 4 ((Qb g).map (Qj true)))]) Y (vc (tv (T.agg (Qd false g)) Y) vn) (LendL.cons (lg Qu) ln) (Qae (n+37) g (by omega)) Y) (aO (T.os 4 1 0 (((Qb g).map (Qj true)).length)) Y (nt (sq (sr (mO (T.os 4 1 0 (((Qb g).map (Qj true)).length)) Y (lO (B.lenO (m:=(Qb g).length) (tv (T.os 4 1 0 (((Qb g).map (Qj true)).length)) Y) U94 (List.length_map ..)) ?_)))))))))))
 refine fO (OF.move (VEv.int .i64 0)) (nt (VRun.block ?_))
 refine VRun.loop (A:=Nat) (fun s_=> [(1,(T.op 0 0)),(3,(T.os 4 1 0 (((Qb g).map (Qj true)).length))),(22,(T.os 4 1 0 (((Qb g).map (Qj true)).length))),(23,(tN ((Qb g).length))),(24,(tN s_))]) (fun s_=>QV [(0,(Obj.cells (Qd false g))),(1,(Obj.rows 4 ((Qb g).map (Qj true))))]) 2 (fun s_=>NoneTo (fun s:D.Slot=>s.Length<3) (Qb g) s_) (fun s_=>(Qb g).length - s_) (0:Nat) ?_ (Wk.mk (fun k=>k) ?_ ?_ ?_) ?_
 ·exact NoneTo.start _ _
 ·exact (b2 (b2 (b2 (b2 (b2 bn)))))
 ·exact (b3 (b3 bn))
 ·exact nd Y
 rintro i (hI':NoneTo (fun s:D.Slot=>s.Length<3) (Qb g) i)
 show VRun _ _ _ [(1,(T.op 0 0)),(3,(T.os 4 1 0 (((Qb g).map (Qj true)).length))),(22,(T.os 4 1 0 (((Qb g).map (Qj true)).length))),(23,(tN ((Qb g).length))),(24,(tN i))] (QV [(0,(Obj.cells (Qd false g))),(1,(Obj.rows 4 ((Qb g).map (Qj true))))]) 2 _
 have hI1:=hI'.1
 have hns:=hI'
 refine sr (fO (Q5 (tv (tN i) Y) (tv (tN ((Qb g).length)) Y)) (nt (sq ?_)))
 refine cd (i<(Qb g).length) Y (fun fhc3=> ?_) fun fhc3=> ?_
 ·have hx0:=fhc3
  refine sk (tn (sq (VRun.block (sr ?_))))
  obtain ⟨x1,hx1⟩:∃x,(Qb g)[i]? =some x:=⟨_,List.getElem?_eq_getElem (by omega)⟩
  refine fO (B.indexAddrO (i:=i) (tv (T.os 4 1 0 (((Qb g).map (Qj true)).length)) Y) (tv (tN i) Y) Y (by (simp only [List.length_map];omega)) U94 Zz QbC) (lO (OL.loadPn (us:=(Qj false x1)) (row:=(Qj true x1)) (tv (T.orp 4 1 i 0) Y) Y (Qr _ hx1) Qdj Zz (lb Y) Y (bc Y (bc Y (bc Y (bc Y bn))))) (kO (B.alloc (t:=(T.agg [(tN 0),(tB false),(tN 0),(tN 0)])) (ts:= [(tN 0),(tB false),(tN 0),(tN 0)]) YS QkK nofun (fun _=> .agg _ _ Y (Jm (RL.cons (.int _ _) (RL.cons (.bool _) (RL.cons (.int _ _) (RL.cons (.int _ _) (RL.nil _))))))) Y) (cO (B.storeW (us:=(Qj false x1)) (tv (T.op 2 0) Y) (tv (T.agg (Qj false x1)) Y) nofun Y Y Y QbC Zz (bc Y (bc Y (bc Y (bc Y bn))))) (nt (sr (lf (tI x1.Length) Y Qbx Y Y QQ (fO (xls (tv (tI x1.Length) Y) (VEv.int .i64 3)) (nt ?_))))))))
  refine cd (x1.Length<3) Y (fun fhc4=> ?_) fun fhc4=> ?_
  ·refine sr ?_
   refine fO (OF.assign (VEv.int .i64 4)) (nt (rt (vinB.r (tr (tr (vinB.r (tr (vi (n':=4) Y ?_))))))))
   unfold Yh;rw [if_neg (not_not_intro fhc0),if_neg (not_not_intro fhc1),if_neg (not_not_intro fhc2),if_pos (show QcP g from ⟨x1,List.mem_of_getElem? hx1,fhc4⟩)]
  refine sk (vinB.n (tn (VRun.region (fO (Qx (tv (tN i) Y) (VEv.int .i64 1) (by omega)) (mO (tN (i+1)) Y (VRunO.nil (tn ?_)))))))
  refine ⟨(i+1:Nat),?_,?_,Wk.mk (fun k=>k) ?_ ?_ ?_⟩
  ·exact hI'.next hx1 fhc4
  ·omega
  ·exact (b2 (b2 (b2 (b2 (b2 bn)))))
  ·exact (b3 (b3 bn))
  ·exact nd Y
 have hsh:¬QcP g:=by rintro ⟨y,hy,hy2⟩;exact hns.mem fhc3 y hy hy2
 refine VRun.exit (vthn.e (vthn.e (vinB.e (tn (sq (sr (mO (T.os 4 1 0 (((Qb g).map (Qj true)).length)) Y (lO (B.lenO (m:=(Qb g).length) (tv (T.os 4 1 0 (((Qb g).map (Qj true)).length)) Y) U94 (List.length_map ..)) (fO (OF.move (VEv.int .i64 0)) (nt (VRun.block ?_)))))))))))
 refine VRun.loop (A:=Nat) (fun s_=> [(1,(T.op 0 0)),(32,(T.os 4 1 0 (((Qb g).map (Qj true)).length))),(33,(tN ((Qb g).length))),(34,(tN s_))]) (fun s_=>QV [(0,(Obj.cells (Qd false g))),(1,(Obj.rows 4 ((Qb g).map (Qj true))))]) 2 (fun s_=>NoBad g s_) (fun s_=>(Qb g).length - s_) (0:Nat) ?_ (Wk.mk (fun k=>k) ?_ ?_ ?_) ?_
 ·exact NoBad.start _
 ·exact (b2 (b2 (b2 (b2 bn))))
 ·exact (b3 (b3 bn))
 ·exact nd Y
 rintro k (hI':NoBad g k)
 show VRun _ _ _ [(1,(T.op 0 0)),(32,(T.os 4 1 0 (((Qb g).map (Qj true)).length))),(33,(tN ((Qb g).length))),(34,(tN k))] (QV [(0,(Obj.cells (Qd false g))),(1,(Obj.rows 4 ((Qb g).map (Qj true))))]) 2 _
 have hJ1:=hI'.1
 have hub:=Ql3 g ((k:Nat):Int)
 refine sr (fO (Q5 (tv (tN k) Y) (tv (tN ((Qb g).length)) Y)) (nt (sq ?_)))
 refine cd (k<(Qb g).length) Y (fun fhc5=> ?_) fun fhc5=> ?_
 ·refine sk ?_
  refine tn (sq (VRun.block (sr (mO (tN k) Y ?_))))
  obtain ⟨x1,hx1⟩:∃x,(Qb g)[k]? =some x:=⟨_,List.getElem?_eq_getElem (by omega)⟩
  refine fO (B.indexAddrO (i:=k) (tv (T.os 4 1 0 (((Qb g).map (Qj true)).length)) Y) (tv (tN k) Y) Y (by (simp only [List.length_map];omega)) U94 Zz QbC) (lO (OL.loadPn (us:=(Qj false x1)) (row:=(Qj true x1)) (tv (T.orp 4 1 k 0) Y) Y (Qr _ hx1) Qdj Zz (lb Y) Y (bc Y (bc Y (bc Y (bc Y bn))))) (kO (B.alloc (t:=(T.agg [(tN 0),(tB false),(tN 0),(tN 0)])) (ts:= [(tN 0),(tB false),(tN 0),(tN 0)]) YS QkK nofun (fun _=> .agg _ _ Y (Jm (RL.cons (.int _ _) (RL.cons (.bool _) (RL.cons (.int _ _) (RL.cons (.int _ _) (RL.nil _))))))) Y) (aO (tN k) Y (cO (B.storeW (us:=(Qj false x1)) (tv (T.op 2 0) Y) (tv (T.agg (Qj false x1)) Y) nofun Y Y Y QbC Zz (bc Y (bc Y (bc Y (bc Y bn))))) (nt (sq (VRun.draw (B:= [[],[],[1,0],[0,1,2],[],[4],[4,5,2,1,0,3]]) (by kernel_rfl) (by kernel_rfl) Y (lD (OL.loadOn (us:=(Qd false g)) (tv (T.op 0 0) Y) Y Q4 Q0 (lb Y) Y) Y Y (mD (tN k) Y Y (VRunD.quiet (bi:= [1,0]) Y VWant.always Y Y Y bn (cS (vc (tv (T.agg (Qd false g)) Y) (vc (tv (tN k) Y) vn)) (LendL.cons (lg Qu) (lp Y ln)) (QcS (n+33) g ((k:Nat):Int) (by omega)) Y Y) (fD (B.mul (n:=(2*unG g ((k:Nat):Int))) (VEv.int .i64 2) (tv (tI (unG g ((k:Nat):Int))) Y) (by (rw [Qt (by omega)];done))) Y Y ?_)))))))))))
  refine fD (OF.fieldAddrO (tv (T.op 2 0) Y) Qbx) Y Y (lD (OL.loadO1 (t:=(tI x1.Length)) (tv (T.op 2 3) Y) Y Y QQ) Y Y (fD (xgt (tv (tI (2*unG g ((k:Nat):Int))) Y) (tv (tI x1.Length) Y)) Y Y (VRunD.nil (tn ?_))))
  refine cd (x1.Length<(2*unG g ((k:Nat):Int))) Y (fun fhc6=> ?_) fun fhc6=> ?_
  ·have q1:QeE g k x1:=by unfold QeE;omega
   refine sr (fO (OF.assign (VEv.int .i64 5)) (nt (rt (vinB.r (tr (tr (vinB.r (tr (vi (n':=5) Y ?_)))))))))
   unfold Yh;rw [if_neg (not_not_intro fhc0),if_neg (not_not_intro fhc1),if_neg (not_not_intro fhc2),if_neg hsh,if_pos (show QbX g from .inl ⟨k,x1,hx1,q1⟩)]
  have q1:¬QeE g k x1:=by unfold QeE;omega
  refine sk (vinB.n (tn (VRun.region (fO (Qx (tv (tN k) Y) (VEv.int .i64 1) (by omega)) (mO (tN (k+1)) Y (VRunO.nil (tn ?_)))))))
  refine ⟨(k+1:Nat),?_,?_,Wk.mk (fun k=>k) ?_ ?_ ?_⟩
  ·exact hI'.next hx1 q1
  ·omega
  ·exact (b2 (b2 (b2 (b2 bn))))
  ·exact (b3 (b3 bn))
  ·exact nd Y
 have hal:=QiJ (g:=g) (fun j s hj=>hI'.2 j s (by omega)) (by simpa using fhc0)
 refine VRun.exit (vthn.e (vthn.e (vinB.e (tn (sq (sr (lO (OL.loadOn (us:=(Qd false g)) (tv (T.op 0 0) Y) Y Q4 Q0 (lb Y) Y) (lf (tS g.Cells) Y QU Y Y YD (cO (cS (vc (tv (T.agg (Qd false g)) Y) (vc (tv (tS g.Cells) Y) vn)) (LendL.cons (lg Qu) (lp Y ln)) (Qg9 (n+35) g g.Cells (by omega) (by omega)) Y Y) (nt ?_))))))))))
 refine cd (Qhg g g.Cells) Y (fun fhc7=> ?_) fun fhc7=> ?_
 ·refine sr ?_
  refine fO (OF.assign (VEv.int .i64 5)) (nt (rt (tr (vi (n':=5) Y ?_))))
  unfold Yh;rw [if_neg (not_not_intro fhc0),if_neg (not_not_intro fhc1),if_neg (not_not_intro fhc2),if_neg hsh,if_pos (hal.1 fhc7)]
 refine sk (tn (sr (fO (OF.assign (VEv.int .i64 0)) (nt (rt (vi (n':=0) Y ?_))))))
 unfold Yh;rw [if_neg (not_not_intro fhc0),if_neg (not_not_intro fhc1),if_neg (not_not_intro fhc2),if_neg hsh,if_neg (fun h=>fhc7 (hal.2 h))]
noncomputable section
def okC (c:D.Clue):Prop:=(1≤c.Sense∧c.Sense≤99)∧YE c.Play
end
noncomputable section
def Qe4 : Nat→Int→ByteArray→ByteArray
 | 0,_,acc=>acc
 | f+1,k,acc=>if 0<k then Qe4 f (k.tdiv 10) (YQ [IntKind.u8.wrap (48+k.tmod 10)]++acc) else acc
def Qa1 (k:Int):ByteArray:=if k≤0 then ⟨#[109,48]⟩ else ⟨#[109]⟩++Qe4 k.toNat k ⟨#[]⟩
theorem Qkt {f:Nat} {k:Int} {acc:ByteArray} (hk:0<k) (hf:k.toNat≤f):0≤k.tdiv 10∧(k.tdiv 10).toNat≤f - 1∧Qe4 f k acc=Qe4 (f - 1) (k.tdiv 10) (YQ [IntKind.u8.wrap (48+k.tmod 10)]++acc):=by
 have h1:k.tdiv 10=k / 10:=Int.tdiv_eq_ediv_of_nonneg (by omega)
 cases f with
 | zero=>omega
 | succ f =>
  refine ⟨by omega,by omega,?_⟩
  simp only [Qe4,if_pos hk]
  rfl
theorem QkZ {f:Nat} {k:Int} {acc:ByteArray} (hk:¬ 0<k):Qe4 f k acc=acc:=by
 cases f with
 | zero=>rfl
 | succ f=>simp only [Qe4,if_neg hk]
theorem QkP (n:Int):(YQ [n]).size=1:=rfl
theorem Qnz {k:Int} (h:0<k):0≤k.tmod 10∧k.tmod 10<10∧0≤k.tdiv 10∧k.tdiv 10≤k:=by
 rw [Int.tmod_eq_emod_of_nonneg (by omega),Int.tdiv_eq_ediv_of_nonneg (by omega)]
 omega
end
theorem QbB (n:Nat) (q:Int) (hq:q≤Y2):Pure (Qs Tryz.prog (n+1)) 28 [(tI q)] (tS (Qa1 q)):=by
 refine Pure.intro (rs:= [ResultVar.tmp 2]) Tryz.func28 Y Y Y (E0:= [(0,(tI q))]) Y ?_
 obtain ⟨hlim,hmx,hmax⟩:=QA
 refine sr (fO (OF.assign (VEv.str (⟨#[]⟩:ByteArray))) (nt (sq (sr (mO (tI q) Y (fO (xle (tv (tI q) Y) (VEv.int .i64 0)) (nt ?_)))))))
 refine cd (q≤0) Y (fun fhc0=> ?_) fun fhc0=> ?_
 ·refine sr ?_
  refine fO (OF.assign (VEv.str (⟨#[109,48]⟩:ByteArray))) (nt (rt (tr ?_)))
  refine vfin.eq (r':=(tS (⟨#[109,48]⟩:ByteArray))) ?_ (vfin.r (VRes.tmp (t:=(tS (⟨#[109,48]⟩:ByteArray))) Y VRes.nil) (Give.str _))
  refine congrArg T.str ?_
  exact (if_pos fhc0).symm
 refine sk (tn (sr (fO (OF.assign (VEv.str (⟨#[]⟩:ByteArray))) (nt (sq (VRun.block ?_))))))
 refine VRun.loop (A:=Int×Nat×ByteArray) (fun s_=> [(0,(tI s_.1)),(2,(tS (⟨#[]⟩:ByteArray))),(3,(tS s_.2.2))]) (fun s_=>QV []) 0 (fun s_=>0≤s_.1∧s_.1.toNat≤s_.2.1∧s_.2.2.size+s_.2.1≤q.toNat∧Qe4 q.toNat q ⟨#[]⟩=Qe4 s_.2.1 s_.1 s_.2.2) (fun s_=>s_.2.1) ((q,q.toNat,⟨#[]⟩):Int×Nat×ByteArray) ?_ (Wk.mk (fun k=>k) ?_ ?_ ?_) ?_
 ·exact ⟨by omega,Nat.le_refl _,by show 0+q.toNat≤q.toNat;omega,rfl⟩
 ·exact (b2 (b2 (bc ⟨(congrArg T.str (show (⟨#[]⟩:ByteArray)=⟨#[]⟩ from (by rfl))),rfl⟩ bn)))
 ·exact bn
 ·exact nd Y
 rintro ⟨k,f,acc⟩ (hI':0≤k∧k.toNat≤f∧acc.size+f≤q.toNat∧Qe4 q.toNat q ⟨#[]⟩=Qe4 f k acc)
 show VRun _ _ _ [(0,(tI k)),(2,(tS (⟨#[]⟩:ByteArray))),(3,(tS acc))] (QV []) 0 _
 have hI1:=hI'.1
 have hI2:=hI'.2.1
 have hI3:=hI'.2.2.1
 have hI4:=hI'.2.2.2
 refine sq (sr (mO (tI k) Y (fO (xgt (tv (tI k) Y) (VEv.int .i64 0)) (nt ?_))))
 refine cd (0<k) Y (fun fhc1=> ?_) fun fhc1=> ?_
 ·obtain ⟨m1,m2,m3,m4⟩:=Qnz fhc1
  refine sk (tn (VRun.block (sr (mO (tI k) Y (fO (B.rem (n:=(k.tmod 10)) (tv (tI k) Y) (VEv.int .i64 10) (by omega) (by rfl)) (fO (B.add (n:=(48+(k.tmod 10))) (VEv.int .i64 48) (tv (tI (k.tmod 10)) Y) (by (rw [Qt (by omega)];done))) (fO (OF.convI (tv (tI (48+(k.tmod 10))) Y) (k0:= .i64) U3 U5) (kO (OM.buildSlice (l:= [(T.int .u8 (IntKind.u8.wrap (48+(k.tmod 10))))]) (VEvp.cons (tv (T.int .u8 (IntKind.u8.wrap (48+(k.tmod 10)))) Y) VEvp.nil) Y (by decide) (bc (nofun) bn) (bc ((bc (Y) bn)) bn) (bc (Y) bn) U76 zo5 (by kernel_rfl) Y (by rw [sz5];decide) sz5 (Nat.le_of_ble_eq_true Y)) (lO (B.convBS (l:= [IntKind.u8.wrap (48+(k.tmod 10))]) (tv (T.os 1 0 0 1) Y) Y Y U76 U5 U9) (mO (tS acc) Y (fO (B.sadd (tv (tS (YQ [IntKind.u8.wrap (48+(k.tmod 10))])) Y) (tv (tS acc) Y) (by (simp only [QkP];omega))) ?_)))))))))))
  refine aO (tS ((YQ [IntKind.u8.wrap (48+(k.tmod 10))])++acc)) Y (nt (VRun.region (mO (tI k) Y (fO (B.quo (n:=(k.tdiv 10)) (tv (tI k) Y) (VEv.int .i64 10) (by omega) (by (rw [Qt (by omega)];done))) (aO (tI (k.tdiv 10)) Y (VRunO.nil (vinB.n (tn ?_))))))))
  obtain ⟨n1,n2,n3⟩:=Qkt (acc:=acc) fhc1 hI2
  refine ⟨((k.tdiv 10,f - 1,YQ [IntKind.u8.wrap (48+k.tmod 10)]++acc):Int×Nat×ByteArray),?_,?_,Wk.mk (fun k=>k) ?_ ?_ ?_⟩
  ·exact ⟨n1,n2,by show (YQ _++acc).size+(f - 1)≤q.toNat;rw [ByteArray.size_append,QkP];omega,hI4.trans n3⟩
  ·(simp only [];omega)
  ·exact (b2 (b2 (bc ⟨(congrArg T.str (show ((YQ [IntKind.u8.wrap (48+(k.tmod 10))])++acc)=(YQ [IntKind.u8.wrap (48+k.tmod 10)]++acc) from (by rfl))),rfl⟩ bn)))
  ·exact bn
  ·exact nd Y
 refine VRun.exit (vthn.e (vthn.e (vinB.e (tn (sr (mO (tS acc) Y (fO (B.sadd (VEv.str (⟨#[109]⟩:ByteArray)) (tv (tS acc) Y) (by (rw [show (⟨#[109]⟩:ByteArray).size=1 from rfl];omega))) (aO (tS ((⟨#[109]⟩:ByteArray)++acc)) Y (nt (rt ?_))))))))))
 refine vfin.eq (r':=(tS ((⟨#[109]⟩:ByteArray)++acc))) ?_ (vfin.r (VRes.tmp (t:=(tS ((⟨#[109]⟩:ByteArray)++acc))) Y VRes.nil) (Give.str _))
 refine congrArg T.str ?_
 unfold Qa1
 rw [if_neg fhc0,hI4,QkZ fhc1]
noncomputable section
def ZL (k:Nat):D.Step:=(D.Step.mk ((k:Nat):Int) (Qa1 ((k+1:Nat):Int)) ((k+2:Nat):Int) ((k+3:Nat):Int))
end
theorem QdU (n:Nat) (a:List D.Step) (k:Nat) (hk:k+4*a.length≤Y2):Mut (Qs Tryz.prog (n+2)) 63 4 (a.map (Ql true)) [(tN k)] (some ((k+4*a.length:Nat):Int)) ((JZ ZL 4 k a.length).map (Ql true)):=by
 refine Mut.intro (rt:=4) Tryz.func63 Y Y Y (by kernel_rfl) (QL (fun _=>rfl) _) (QL (fun _=>rfl) _) (E0:= [(1,(tN k))]) Y ?_
 obtain ⟨hlim,hmx,hmax⟩:=QA
 refine sr (fO (OF.assign (VEv.int .i64 0)) (nt (sq (sr (fO (OF.assign (VEv.int .i64 0)) (nt (VRun.block ?_)))))))
 have he1:a=Yj ZL 4 k a 0:=by rfl
 refine VRun.loop (A:=Nat) (fun s_=> [(0,(T.os 4 0 0 (((Yj ZL 4 k a s_).map (Ql true)).length))),(1,(tN (k+4*s_))),(4,(tN 0)),(5,(tN s_))]) (fun s_=>QV [(0,(Obj.rows 4 ((Yj ZL 4 k a s_).map (Ql true))))]) 1 (fun s_=>s_≤a.length) (fun s_=>a.length - s_) (0:Nat) ?_ (Wk.mk (fun k=>k) ?_ ?_ ?_) ?_
 ·(simp;done)
 ·exact (bc ⟨(congrArg (fun l_=>T.os 4 0 0 (List.map (Ql true) l_).length) he1),rfl⟩ (bc ⟨(congrArg (T.int .i64) (show ((k:Nat):Int)=((k+4*0:Nat):Int) from (by rfl))),rfl⟩ (b2 (b2 bn))))
 ·exact (bc ⟨(congrArg (fun l_=>some (Obj.rows 4 (List.map (Ql true) l_))) he1),(lb Y),rfl⟩ bn)
 ·exact nd Y
 rintro i (hI':i≤a.length)
 show VRun _ _ _ [(0,(T.os 4 0 0 (((Yj ZL 4 k a i).map (Ql true)).length))),(1,(tN (k+4*i))),(4,(tN 0)),(5,(tN i))] (QV [(0,(Obj.rows 4 ((Yj ZL 4 k a i).map (Ql true))))]) 1 _
 have hml:=J5 (f:=ZL) (w:=4) (k:=k) hI'
 refine sq (sr (mO (tN i) Y (mO (T.os 4 0 0 (((Yj ZL 4 k a i).map (Ql true)).length)) Y (lO (B.lenO (m:=(Yj ZL 4 k a i).length) (tv (T.os 4 0 0 (((Yj ZL 4 k a i).map (Ql true)).length)) Y) U87 (List.length_map ..)) (fO (Q5 (tv (tN i) Y) (tv (tN ((Yj ZL 4 k a i).length)) Y)) (nt ?_))))))
 refine cd (i<(Yj ZL 4 k a i).length) Y (fun fhc0=> ?_) fun fhc0=> ?_
 ·refine sk ?_
  refine tn (sq (VRun.block (sr (mO (T.os 4 0 0 (((Yj ZL 4 k a i).map (Ql true)).length)) Y (mO (tN i) Y (mO (tN (k+4*i)) Y ?_))))))
  obtain ⟨x1,hx1⟩:∃x,(Yj ZL 4 k a i)[i]? =some x:=⟨_,List.getElem?_eq_getElem (by omega)⟩
  refine fO (B.indexAddrO (i:=i) (tv (T.os 4 0 0 (((Yj ZL 4 k a i).map (Ql true)).length)) Y) (tv (tN i) Y) Y (by (simp only [List.length_map];omega)) U87 YG Qal) (fO (OF.fieldAddrP (tv (T.orp 4 0 i 0) Y) Zp) (cO (B.storeP (us:= [(tN (k+4*i))]) (rows':=(((Yj ZL 4 k a i).set i (D.Step.mk ((k+4*i:Nat):Int) x1.Word x1.A x1.B)).map (Ql true))) (row:=(Ql true x1)) (tv (T.orp 4 0 i 0) Y) (tv (tN (k+4*i)) Y) nofun Y (Qr _ hx1) Y (lb Y) YR ZA (bc Y bn) (by intro r hr t ht;obtain ⟨x,_,rfl⟩:=List.mem_map.1 hr;rw [Qfn] at ht;exact QT (okeStep.pl _ t ht)) (QZ Y)) (nt (sr (mO (tN (k+4*i)) Y (fO (Qx (tv (tN (k+4*i)) Y) (VEv.int .i64 1) (by omega)) (aO (tN (k+4*i+1)) Y (nt (sr (mO (T.os 4 0 0 (((Yj ZL 4 k a i).map (Ql true)).length)) Y (mO (tN i) Y ?_)))))))))))
  refine mO (tN (k+4*i+1)) Y (cO (cS (vc (tv (tN (k+4*i+1)) Y) vn) (Z8 Y) (QbB (n+0) (((k+4*i+1):Nat):Int) (by omega)) Y Y) (fO (B.indexAddrO (i:=i) (tv (T.os 4 0 0 (((Yj ZL 4 k a i).map (Ql true)).length)) Y) (tv (tN i) Y) Y (by (simp only [List.length_map];omega)) U87 YG Qal) (fO (OF.fieldAddrP (tv (T.orp 4 0 i 0) Y) QaC) (cO (B.storeP (us:= [(tS (Qa1 (((k+4*i+1):Nat):Int)))]) (rows':=((((Yj ZL 4 k a i).set i (D.Step.mk ((k+4*i:Nat):Int) x1.Word x1.A x1.B)).set i (D.Step.mk ((k+4*i:Nat):Int) (Qa1 (((k+4*i+1):Nat):Int)) x1.A x1.B)).map (Ql true))) (row:=(Ql true (D.Step.mk ((k+4*i:Nat):Int) x1.Word x1.A x1.B))) (tv (T.orp 4 0 i 1) Y) (tv (tS (Qa1 (((k+4*i+1):Nat):Int))) Y) nofun Y (Qr _ (QcE (by omega))) Y (lb Y) if9 sz9 (bc Y bn) (by intro r hr t ht;obtain ⟨x,_,rfl⟩:=List.mem_map.1 hr;rw [Qfn] at ht;exact QT (okeStep.pl _ t ht)) (QZ Y)) (nt (sr (mO (tN (k+4*i+1)) Y (fO (Qx (tv (tN (k+4*i+1)) Y) (VEv.int .i64 1) (by omega)) (aO (tN ((k+4*i+1)+1)) Y (nt (sr ?_)))))))))))
  refine mO (T.os 4 0 0 (((Yj ZL 4 k a i).map (Ql true)).length)) Y (mO (tN i) Y (mO (tN ((k+4*i+1)+1)) Y (fO (B.indexAddrO (i:=i) (tv (T.os 4 0 0 (((Yj ZL 4 k a i).map (Ql true)).length)) Y) (tv (tN i) Y) Y (by (simp only [List.length_map];omega)) U87 YG Qal) (fO (OF.fieldAddrP (tv (T.orp 4 0 i 0) Y) YX) (cO (B.storeP (us:= [(tN ((k+4*i+1)+1))]) (rows':=(((((Yj ZL 4 k a i).set i (D.Step.mk ((k+4*i:Nat):Int) x1.Word x1.A x1.B)).set i (D.Step.mk ((k+4*i:Nat):Int) (Qa1 (((k+4*i+1):Nat):Int)) x1.A x1.B)).set i (D.Step.mk ((k+4*i:Nat):Int) (Qa1 (((k+4*i+1):Nat):Int)) ((((k+4*i+1)+1):Nat):Int) x1.B)).map (Ql true))) (row:=(Ql true (D.Step.mk ((k+4*i:Nat):Int) (Qa1 (((k+4*i+1):Nat):Int)) x1.A x1.B))) (tv (T.orp 4 0 i 2) Y) (tv (tN ((k+4*i+1)+1)) Y) nofun Y (Qr _ (QcE (by (simp only [List.length_set];omega)))) Y (lb Y) YR ZA (bc Y bn) (by intro r hr t ht;obtain ⟨x,_,rfl⟩:=List.mem_map.1 hr;rw [Qfn] at ht;exact QT (okeStep.pl _ t ht)) (QZ Y)) (nt (sr (mO (tN ((k+4*i+1)+1)) Y (fO (Qx (tv (tN ((k+4*i+1)+1)) Y) (VEv.int .i64 1) (by omega)) (aO (tN (((k+4*i+1)+1)+1)) Y (nt ?_)))))))))))
  refine sr (mO (T.os 4 0 0 (((Yj ZL 4 k a i).map (Ql true)).length)) Y (mO (tN i) Y (mO (tN (((k+4*i+1)+1)+1)) Y (fO (B.indexAddrO (i:=i) (tv (T.os 4 0 0 (((Yj ZL 4 k a i).map (Ql true)).length)) Y) (tv (tN i) Y) Y (by (simp only [List.length_map];omega)) U87 YG Qal) (fO (OF.fieldAddrP (tv (T.orp 4 0 i 0) Y) Yz) (cO (B.storeP (us:= [(tN (((k+4*i+1)+1)+1))]) (rows':=((((((Yj ZL 4 k a i).set i (D.Step.mk ((k+4*i:Nat):Int) x1.Word x1.A x1.B)).set i (D.Step.mk ((k+4*i:Nat):Int) (Qa1 (((k+4*i+1):Nat):Int)) x1.A x1.B)).set i (D.Step.mk ((k+4*i:Nat):Int) (Qa1 (((k+4*i+1):Nat):Int)) ((((k+4*i+1)+1):Nat):Int) x1.B)).set i (D.Step.mk ((k+4*i:Nat):Int) (Qa1 (((k+4*i+1):Nat):Int)) ((((k+4*i+1)+1):Nat):Int) (((((k+4*i+1)+1)+1):Nat):Int))).map (Ql true))) (row:=(Ql true (D.Step.mk ((k+4*i:Nat):Int) (Qa1 (((k+4*i+1):Nat):Int)) ((((k+4*i+1)+1):Nat):Int) x1.B))) (tv (T.orp 4 0 i 3) Y) (tv (tN (((k+4*i+1)+1)+1)) Y) nofun Y (Qr _ (QcE (by (simp only [List.length_set];omega)))) Y (lb Y) YR ZA (bc Y bn) (by intro r hr t ht;obtain ⟨x,_,rfl⟩:=List.mem_map.1 hr;rw [Qfn] at ht;exact QT (okeStep.pl _ t ht)) (QZ Y)) (nt (VRun.region (mO (tN (((k+4*i+1)+1)+1)) Y (fO (Qx (tv (tN (((k+4*i+1)+1)+1)) Y) (VEv.int .i64 1) (by omega)) (aO (tN ((((k+4*i+1)+1)+1)+1)) Y ?_)))))))))))
  refine VRunO.nil (vinB.n (tn (VRun.region (mO (tN i) Y (fO (Qx (tv (tN i) Y) (VEv.int .i64 1) (by omega)) (aO (tN (i+1)) Y (VRunO.nil (tn ?_))))))))
  have hi1:i+1≤a.length:=by omega
  have he2:(((((Yj ZL 4 k a i).set i (D.Step.mk ((k+4*i:Nat):Int) x1.Word x1.A x1.B)).set i (D.Step.mk ((k+4*i:Nat):Int) (Qa1 (((k+4*i+1):Nat):Int)) x1.A x1.B)).set i (D.Step.mk ((k+4*i:Nat):Int) (Qa1 (((k+4*i+1):Nat):Int)) ((((k+4*i+1)+1):Nat):Int) x1.B)).set i (D.Step.mk ((k+4*i:Nat):Int) (Qa1 (((k+4*i+1):Nat):Int)) ((((k+4*i+1)+1):Nat):Int) (((((k+4*i+1)+1)+1):Nat):Int)))=Yj ZL 4 k a (i+1):=by (simp only [List.set_set];refine QgU ?_;omega)
  refine ⟨(i+1:Nat),?_,?_,Wk.mk (fun k=>k) ?_ ?_ ?_⟩
  ·trivial
  ·omega
  ·exact (bc ⟨(congrArg (fun n_=>T.os 4 0 0 n_) (show ((Yj ZL 4 k a i).map (Ql true)).length=((Yj ZL 4 k a (i+1)).map (Ql true)).length from (by rw [List.length_map,List.length_map,J5 hI',J5 hi1]))),rfl⟩ (bc ⟨(congrArg (T.int .i64) (show ((((((k+4*i+1)+1)+1)+1):Nat):Int)=((k+4*(i+1):Nat):Int) from (by rfl))),rfl⟩ (b2 (b2 bn))))
  ·exact (bc ⟨(congrArg (fun l_=>some (Obj.rows 4 (List.map (Ql true) l_))) he2),(lb Y),rfl⟩ bn)
  ·exact nd Y
 refine VRun.exit (vthn.e (vthn.e (vinB.e (tn (sr (mO (tN (k+4*i)) Y (aO (tN (k+4*i)) Y (nt (rt ?_)))))))))
 refine vmut.r (r0:=((k+4*i:Nat):Int)) (rows:=((Yj ZL 4 k a i).map (Ql true))) Y Y Y ?_ ?_ Y
 ·(push_cast;omega)
 ·show List.map _ (Yj ZL 4 k a i)=List.map _ (JZ ZL 4 k a.length)
  refine congrArg (List.map _) ?_
  exact QgS hI' (by omega)
noncomputable section
def ZO (k:Nat):Int:=((k:Nat):Int)
end
theorem QbD (n:Nat) (a:List Int) (k:Nat) (hk:k+1*a.length≤Y2):Mut (Qs Tryz.prog (n+1)) 16 1 (a.map (Qc true)) [(tN k)] (some ((k+1*a.length:Nat):Int)) ((JZ ZO 1 k a.length).map (Qc true)):=by
 refine Mut.intro (rt:=4) Tryz.func16 Y Y Y (by kernel_rfl) (QL (fun _=>rfl) _) (QL (fun _=>rfl) _) (E0:= [(1,(tN k))]) Y ?_
 obtain ⟨hlim,hmx,hmax⟩:=QA
 refine sr (fO (OF.assign (VEv.int .i64 0)) (nt (sq (sr (fO (OF.assign (VEv.int .i64 0)) (nt (VRun.block ?_)))))))
 have he1:a=Yj ZO 1 k a 0:=by rfl
 refine VRun.loop (A:=Nat) (fun s_=> [(0,(T.os 1 0 0 (((Yj ZO 1 k a s_).map (Qc true)).length))),(1,(tN (k+1*s_))),(4,(tN 0)),(5,(tN s_))]) (fun s_=>QV [(0,(Obj.rows 1 ((Yj ZO 1 k a s_).map (Qc true))))]) 1 (fun s_=>s_≤a.length) (fun s_=>a.length - s_) (0:Nat) ?_ (Wk.mk (fun k=>k) ?_ ?_ ?_) ?_
 ·(simp;done)
 ·exact (bc ⟨(congrArg (fun l_=>T.os 1 0 0 (List.map (Qc true) l_).length) he1),rfl⟩ (bc ⟨(congrArg (T.int .i64) (show ((k:Nat):Int)=((k+1*0:Nat):Int) from (by rfl))),rfl⟩ (b2 (b2 bn))))
 ·exact (bc ⟨(congrArg (fun l_=>some (Obj.rows 1 (List.map (Qc true) l_))) he1),(lb Y),rfl⟩ bn)
 ·exact nd Y
 rintro i (hI':i≤a.length)
 show VRun _ _ _ [(0,(T.os 1 0 0 (((Yj ZO 1 k a i).map (Qc true)).length))),(1,(tN (k+1*i))),(4,(tN 0)),(5,(tN i))] (QV [(0,(Obj.rows 1 ((Yj ZO 1 k a i).map (Qc true))))]) 1 _
 have hml:=J5 (f:=ZO) (w:=1) (k:=k) hI'
 refine sq (sr (mO (tN i) Y (mO (T.os 1 0 0 (((Yj ZO 1 k a i).map (Qc true)).length)) Y (lO (B.lenO (m:=(Yj ZO 1 k a i).length) (tv (T.os 1 0 0 (((Yj ZO 1 k a i).map (Qc true)).length)) Y) Z1 (List.length_map ..)) (fO (Q5 (tv (tN i) Y) (tv (tN ((Yj ZO 1 k a i).length)) Y)) (nt ?_))))))
 refine cd (i<(Yj ZO 1 k a i).length) Y (fun fhc0=> ?_) fun fhc0=> ?_
 ·refine sk ?_
  refine tn (sq (VRun.block (sr (mO (T.os 1 0 0 (((Yj ZO 1 k a i).map (Qc true)).length)) Y (mO (tN i) Y (mO (tN (k+1*i)) Y ?_))))))
  obtain ⟨x1,hx1⟩:∃x,(Yj ZO 1 k a i)[i]? =some x:=⟨_,List.getElem?_eq_getElem (by omega)⟩
  refine fO (B.indexAddrO (i:=i) (tv (T.os 1 0 0 (((Yj ZO 1 k a i).map (Qc true)).length)) Y) (tv (tN i) Y) Y (by (simp only [List.length_map];omega)) Z1 ZA YR) (cO (B.storeP (us:= [(tN (k+1*i))]) (rows':=(((Yj ZO 1 k a i).set i ((k+1*i:Nat):Int)).map (Qc true))) (row:=(Qc true x1)) (tv (T.orp 1 0 i 0) Y) (tv (tN (k+1*i)) Y) nofun Y (Qr _ hx1) Y (lb Y) YR ZA (bc Y bn) (by intro r hr t ht;obtain ⟨x,_,rfl⟩:=List.mem_map.1 hr;rw [QmM] at ht;exact QT (okInt.pl _ t ht)) (QZ Y)) (nt (VRun.region (mO (tN (k+1*i)) Y (fO (Qx (tv (tN (k+1*i)) Y) (VEv.int .i64 1) (by omega)) (aO (tN (k+1*i+1)) Y (VRunO.nil (vinB.n (tn (VRun.region (mO (tN i) Y ?_)))))))))))
  refine fO (Qx (tv (tN i) Y) (VEv.int .i64 1) (by omega)) (aO (tN (i+1)) Y (VRunO.nil (tn ?_)))
  have hi1:i+1≤a.length:=by omega
  have he2:((Yj ZO 1 k a i).set i ((k+1*i:Nat):Int))=Yj ZO 1 k a (i+1):=by (refine QgU ?_;omega)
  refine ⟨(i+1:Nat),?_,?_,Wk.mk (fun k=>k) ?_ ?_ ?_⟩
  ·trivial
  ·omega
  ·exact (bc ⟨(congrArg (fun n_=>T.os 1 0 0 n_) (show ((Yj ZO 1 k a i).map (Qc true)).length=((Yj ZO 1 k a (i+1)).map (Qc true)).length from (by rw [List.length_map,List.length_map,J5 hI',J5 hi1]))),rfl⟩ (bc ⟨(congrArg (T.int .i64) (show (((k+1*i+1):Nat):Int)=((k+1*(i+1):Nat):Int) from (by rfl))),rfl⟩ (b2 (b2 bn))))
  ·exact (bc ⟨(congrArg (fun l_=>some (Obj.rows 1 (List.map (Qc true) l_))) he2),(lb Y),rfl⟩ bn)
  ·exact nd Y
 refine VRun.exit (vthn.e (vthn.e (vinB.e (tn (sr (mO (tN (k+1*i)) Y (aO (tN (k+1*i)) Y (nt (rt ?_)))))))))
 refine vmut.r (r0:=((k+1*i:Nat):Int)) (rows:=((Yj ZO 1 k a i).map (Qc true))) Y Y Y ?_ ?_ Y
 ·(push_cast;omega)
 ·show List.map _ (Yj ZO 1 k a i)=List.map _ (JZ ZO 1 k a.length)
  refine congrArg (List.map _) ?_
  exact QgS hI' (by omega)
theorem QbA (n:Nat) (a:List Int) (k:Nat) (hh:a=JZ ZO 1 k a.length) (hk:k+1*a.length≤Y2):Pure (Qs Tryz.prog (n+1)) 17 [(rd 1 Qc a),(tN k)] (tN (k+1*a.length)):=by
 refine Pure.intro (rs:= [ResultVar.tmp 4]) Tryz.func17 Y Y Y (E0:= [(0,(rd 1 Qc a)),(1,(tN k))]) Y ?_
 obtain ⟨hlim,hmx,hmax⟩:=QA
 refine sr (fO (OF.assign (VEv.int .i64 0)) (nt (sq (sr (fO (OF.assign (VEv.int .i64 0)) (nt (VRun.block ?_)))))))
 refine VRun.loop (A:=Nat) (fun s_=> [(0,(rd 1 Qc a)),(1,(tN (k+1*s_))),(5,(tN s_))]) (fun s_=>QV []) 0 (fun s_=>s_≤a.length) (fun s_=>a.length - s_) (0:Nat) ?_ (Wk.mk (fun k=>k) ?_ ?_ ?_) ?_
 ·(simp;done)
 ·exact (b2 (bc ⟨(congrArg (T.int .i64) (show ((k:Nat):Int)=((k+1*0:Nat):Int) from (by rfl))),rfl⟩ (b2 bn)))
 ·exact bn
 ·exact nd Y
 rintro i (hI':i≤a.length)
 show VRun _ _ _ [(0,(rd 1 Qc a)),(1,(tN (k+1*i))),(5,(tN i))] (QV []) 0 _
 refine sq (sr (mO (tN i) Y (mO (rd 1 Qc a) Y (lO (B.lenR (m:=a.length) (tv (rd 1 Qc a) Y) Z1 (List.length_map ..)) (fO (Q5 (tv (tN i) Y) (tv (tN a.length) Y)) (nt ?_))))))
 refine cd (i<a.length) Y (fun fhc0=> ?_) fun fhc0=> ?_
 ·refine sk ?_
  refine tn (sq (VRun.block (sq (sr (mO (rd 1 Qc a) Y (mO (tN i) Y ?_))))))
  obtain ⟨x1,hx1⟩:∃x,a[i]? =some x:=⟨_,List.getElem?_eq_getElem (by omega)⟩
  refine fO (OF.indexAddrR (row:=(Qc false x1)) (i:=i) (tv (rd 1 Qc a) Y) (tv (tN i) Y) Y (Qr _ hx1) Z1 ZA YR) (lO (OL.loadR1 (t:=(tI x1)) (tv (T.rp [(tI x1)]) Y) Y QQ) (mO (tN (k+1*i)) Y (fO (xne (tv (tI x1) Y) (tv (tN (k+1*i)) Y)) (nt ?_))))
  refine cn (x1=((k+1*i:Nat):Int)) Y (fun fhc1=> ?_) fun fhc1=> ?_
  ·exact absurd (Qm4 hh hx1) fhc1
  refine sk (tn (VRun.region (mO (tN (k+1*i)) Y (fO (Qx (tv (tN (k+1*i)) Y) (VEv.int .i64 1) (by omega)) (aO (tN (k+1*i+1)) Y (VRunO.nil (vinB.n (tn (VRun.region (mO (tN i) Y (fO (Qx (tv (tN i) Y) (VEv.int .i64 1) (by omega)) ?_)))))))))))
  refine aO (tN (i+1)) Y (VRunO.nil (tn ?_))
  refine ⟨(i+1:Nat),?_,?_,Wk.mk (fun k=>k) ?_ ?_ ?_⟩
  ·trivial
  ·omega
  ·exact (b2 (bc ⟨(congrArg (T.int .i64) (show (((k+1*i+1):Nat):Int)=((k+1*(i+1):Nat):Int) from (by rfl))),rfl⟩ (b2 bn)))
  ·exact bn
  ·exact nd Y
 refine VRun.exit (vthn.e (vthn.e (vinB.e (tn (sr (mO (tN (k+1*i)) Y (aO (tN (k+1*i)) Y (nt (rt (vi (n':=((k+1*i:Nat):Int)) Y ?_))))))))))
 omega
noncomputable section
def Zt (k:Nat):D.Entry:=(D.Entry.mk ((k:Nat):Int) ((k+1:Nat):Int) ((k+2:Nat):Int) (Qa1 ((k+3:Nat):Int)))
end
theorem QcZ (n:Nat) (a:List D.Entry) (k:Nat) (hk:k+4*a.length≤Y2):Mut (Qs Tryz.prog (n+2)) 14 4 (a.map (Qa true)) [(tN k)] (some ((k+4*a.length:Nat):Int)) ((JZ Zt 4 k a.length).map (Qa true)):=by
 refine Mut.intro (rt:=4) Tryz.func14 Y Y Y (by kernel_rfl) (QL (fun _=>rfl) _) (QL (fun _=>rfl) _) (E0:= [(1,(tN k))]) Y ?_
 obtain ⟨hlim,hmx,hmax⟩:=QA
 refine sr (fO (OF.assign (VEv.int .i64 0)) (nt (sq (sr (fO (OF.assign (VEv.int .i64 0)) (nt (VRun.block ?_)))))))
 have he1:a=Yj Zt 4 k a 0:=by rfl
 refine VRun.loop (A:=Nat) (fun s_=> [(0,(T.os 4 0 0 (((Yj Zt 4 k a s_).map (Qa true)).length))),(1,(tN (k+4*s_))),(4,(tN 0)),(5,(tN s_))]) (fun s_=>QV [(0,(Obj.rows 4 ((Yj Zt 4 k a s_).map (Qa true))))]) 1 (fun s_=>s_≤a.length) (fun s_=>a.length - s_) (0:Nat) ?_ (Wk.mk (fun k=>k) ?_ ?_ ?_) ?_
 ·(simp;done)
 ·exact (bc ⟨(congrArg (fun l_=>T.os 4 0 0 (List.map (Qa true) l_).length) he1),rfl⟩ (bc ⟨(congrArg (T.int .i64) (show ((k:Nat):Int)=((k+4*0:Nat):Int) from (by rfl))),rfl⟩ (b2 (b2 bn))))
 ·exact (bc ⟨(congrArg (fun l_=>some (Obj.rows 4 (List.map (Qa true) l_))) he1),(lb Y),rfl⟩ bn)
 ·exact nd Y
 rintro i (hI':i≤a.length)
 show VRun _ _ _ [(0,(T.os 4 0 0 (((Yj Zt 4 k a i).map (Qa true)).length))),(1,(tN (k+4*i))),(4,(tN 0)),(5,(tN i))] (QV [(0,(Obj.rows 4 ((Yj Zt 4 k a i).map (Qa true))))]) 1 _
 have hml:=J5 (f:=Zt) (w:=4) (k:=k) hI'
 refine sq (sr (mO (tN i) Y (mO (T.os 4 0 0 (((Yj Zt 4 k a i).map (Qa true)).length)) Y (lO (B.lenO (m:=(Yj Zt 4 k a i).length) (tv (T.os 4 0 0 (((Yj Zt 4 k a i).map (Qa true)).length)) Y) Yb (List.length_map ..)) (fO (Q5 (tv (tN i) Y) (tv (tN ((Yj Zt 4 k a i).length)) Y)) (nt ?_))))))
 refine cd (i<(Yj Zt 4 k a i).length) Y (fun fhc0=> ?_) fun fhc0=> ?_
 ·refine sk ?_
  refine tn (sq (VRun.block (sr (mO (T.os 4 0 0 (((Yj Zt 4 k a i).map (Qa true)).length)) Y (mO (tN i) Y (mO (tN (k+4*i)) Y ?_))))))
  obtain ⟨x1,hx1⟩:∃x,(Yj Zt 4 k a i)[i]? =some x:=⟨_,List.getElem?_eq_getElem (by omega)⟩
  refine fO (B.indexAddrO (i:=i) (tv (T.os 4 0 0 (((Yj Zt 4 k a i).map (Qa true)).length)) Y) (tv (tN i) Y) Y (by (simp only [List.length_map];omega)) Yb Qz Zo) (fO (OF.fieldAddrP (tv (T.orp 4 0 i 0) Y) YH) (cO (B.storeP (us:= [(tN (k+4*i))]) (rows':=(((Yj Zt 4 k a i).set i (D.Entry.mk ((k+4*i:Nat):Int) x1.Issue x1.Tick x1.Fill)).map (Qa true))) (row:=(Qa true x1)) (tv (T.orp 4 0 i 0) Y) (tv (tN (k+4*i)) Y) nofun Y (Qr _ hx1) Y (lb Y) YR ZA (bc Y bn) (by intro r hr t ht;obtain ⟨x,_,rfl⟩:=List.mem_map.1 hr;rw [Yy] at ht;exact QT (okeEntry.pl _ t ht)) (QZ Y)) (nt (sr (mO (tN (k+4*i)) Y (fO (Qx (tv (tN (k+4*i)) Y) (VEv.int .i64 1) (by omega)) (aO (tN (k+4*i+1)) Y (nt (sr (mO (T.os 4 0 0 (((Yj Zt 4 k a i).map (Qa true)).length)) Y (mO (tN i) Y ?_)))))))))))
  refine mO (tN (k+4*i+1)) Y (fO (B.indexAddrO (i:=i) (tv (T.os 4 0 0 (((Yj Zt 4 k a i).map (Qa true)).length)) Y) (tv (tN i) Y) Y (by (simp only [List.length_map];omega)) Yb Qz Zo) (fO (OF.fieldAddrP (tv (T.orp 4 0 i 0) Y) QdO) (cO (B.storeP (us:= [(tN (k+4*i+1))]) (rows':=((((Yj Zt 4 k a i).set i (D.Entry.mk ((k+4*i:Nat):Int) x1.Issue x1.Tick x1.Fill)).set i (D.Entry.mk ((k+4*i:Nat):Int) (((k+4*i+1):Nat):Int) x1.Tick x1.Fill)).map (Qa true))) (row:=(Qa true (D.Entry.mk ((k+4*i:Nat):Int) x1.Issue x1.Tick x1.Fill))) (tv (T.orp 4 0 i 1) Y) (tv (tN (k+4*i+1)) Y) nofun Y (Qr _ (QcE (by omega))) Y (lb Y) YR ZA (bc Y bn) (by intro r hr t ht;obtain ⟨x,_,rfl⟩:=List.mem_map.1 hr;rw [Yy] at ht;exact QT (okeEntry.pl _ t ht)) (QZ Y)) (nt (sr (mO (tN (k+4*i+1)) Y (fO (Qx (tv (tN (k+4*i+1)) Y) (VEv.int .i64 1) (by omega)) (aO (tN ((k+4*i+1)+1)) Y (nt (sr (mO (T.os 4 0 0 (((Yj Zt 4 k a i).map (Qa true)).length)) Y ?_)))))))))))
  refine mO (tN i) Y (mO (tN ((k+4*i+1)+1)) Y (fO (B.indexAddrO (i:=i) (tv (T.os 4 0 0 (((Yj Zt 4 k a i).map (Qa true)).length)) Y) (tv (tN i) Y) Y (by (simp only [List.length_map];omega)) Yb Qz Zo) (fO (OF.fieldAddrP (tv (T.orp 4 0 i 0) Y) Jg) (cO (B.storeP (us:= [(tN ((k+4*i+1)+1))]) (rows':=(((((Yj Zt 4 k a i).set i (D.Entry.mk ((k+4*i:Nat):Int) x1.Issue x1.Tick x1.Fill)).set i (D.Entry.mk ((k+4*i:Nat):Int) (((k+4*i+1):Nat):Int) x1.Tick x1.Fill)).set i (D.Entry.mk ((k+4*i:Nat):Int) (((k+4*i+1):Nat):Int) ((((k+4*i+1)+1):Nat):Int) x1.Fill)).map (Qa true))) (row:=(Qa true (D.Entry.mk ((k+4*i:Nat):Int) (((k+4*i+1):Nat):Int) x1.Tick x1.Fill))) (tv (T.orp 4 0 i 2) Y) (tv (tN ((k+4*i+1)+1)) Y) nofun Y (Qr _ (QcE (by (simp only [List.length_set];omega)))) Y (lb Y) YR ZA (bc Y bn) (by intro r hr t ht;obtain ⟨x,_,rfl⟩:=List.mem_map.1 hr;rw [Yy] at ht;exact QT (okeEntry.pl _ t ht)) (QZ Y)) (nt (sr (mO (tN ((k+4*i+1)+1)) Y (fO (Qx (tv (tN ((k+4*i+1)+1)) Y) (VEv.int .i64 1) (by omega)) (aO (tN (((k+4*i+1)+1)+1)) Y (nt (sr ?_)))))))))))
  refine mO (T.os 4 0 0 (((Yj Zt 4 k a i).map (Qa true)).length)) Y (mO (tN i) Y (mO (tN (((k+4*i+1)+1)+1)) Y (cO (cS (vc (tv (tN (((k+4*i+1)+1)+1)) Y) vn) (Z8 Y) (QbB (n+0) (((((k+4*i+1)+1)+1):Nat):Int) (by omega)) Y Y) (fO (B.indexAddrO (i:=i) (tv (T.os 4 0 0 (((Yj Zt 4 k a i).map (Qa true)).length)) Y) (tv (tN i) Y) Y (by (simp only [List.length_map];omega)) Yb Qz Zo) (fO (OF.fieldAddrP (tv (T.orp 4 0 i 0) Y) Qb0) (cO (B.storeP (us:= [(tS (Qa1 (((((k+4*i+1)+1)+1):Nat):Int)))]) (rows':=((((((Yj Zt 4 k a i).set i (D.Entry.mk ((k+4*i:Nat):Int) x1.Issue x1.Tick x1.Fill)).set i (D.Entry.mk ((k+4*i:Nat):Int) (((k+4*i+1):Nat):Int) x1.Tick x1.Fill)).set i (D.Entry.mk ((k+4*i:Nat):Int) (((k+4*i+1):Nat):Int) ((((k+4*i+1)+1):Nat):Int) x1.Fill)).set i (D.Entry.mk ((k+4*i:Nat):Int) (((k+4*i+1):Nat):Int) ((((k+4*i+1)+1):Nat):Int) (Qa1 (((((k+4*i+1)+1)+1):Nat):Int)))).map (Qa true))) (row:=(Qa true (D.Entry.mk ((k+4*i:Nat):Int) (((k+4*i+1):Nat):Int) ((((k+4*i+1)+1):Nat):Int) x1.Fill))) (tv (T.orp 4 0 i 3) Y) (tv (tS (Qa1 (((((k+4*i+1)+1)+1):Nat):Int))) Y) nofun Y (Qr _ (QcE (by (simp only [List.length_set];omega)))) Y (lb Y) if9 sz9 (bc Y bn) (by intro r hr t ht;obtain ⟨x,_,rfl⟩:=List.mem_map.1 hr;rw [Yy] at ht;exact QT (okeEntry.pl _ t ht)) (QZ Y)) (nt (VRun.region (mO (tN (((k+4*i+1)+1)+1)) Y (fO (Qx (tv (tN (((k+4*i+1)+1)+1)) Y) (VEv.int .i64 1) (by omega)) (aO (tN ((((k+4*i+1)+1)+1)+1)) Y ?_)))))))))))
  refine VRunO.nil (vinB.n (tn (VRun.region (mO (tN i) Y (fO (Qx (tv (tN i) Y) (VEv.int .i64 1) (by omega)) (aO (tN (i+1)) Y (VRunO.nil (tn ?_))))))))
  have hi1:i+1≤a.length:=by omega
  have he2:(((((Yj Zt 4 k a i).set i (D.Entry.mk ((k+4*i:Nat):Int) x1.Issue x1.Tick x1.Fill)).set i (D.Entry.mk ((k+4*i:Nat):Int) (((k+4*i+1):Nat):Int) x1.Tick x1.Fill)).set i (D.Entry.mk ((k+4*i:Nat):Int) (((k+4*i+1):Nat):Int) ((((k+4*i+1)+1):Nat):Int) x1.Fill)).set i (D.Entry.mk ((k+4*i:Nat):Int) (((k+4*i+1):Nat):Int) ((((k+4*i+1)+1):Nat):Int) (Qa1 (((((k+4*i+1)+1)+1):Nat):Int))))=Yj Zt 4 k a (i+1):=by (simp only [List.set_set];refine QgU ?_;omega)
  refine ⟨(i+1:Nat),?_,?_,Wk.mk (fun k=>k) ?_ ?_ ?_⟩
  ·trivial
  ·omega
  ·exact (bc ⟨(congrArg (fun n_=>T.os 4 0 0 n_) (show ((Yj Zt 4 k a i).map (Qa true)).length=((Yj Zt 4 k a (i+1)).map (Qa true)).length from (by rw [List.length_map,List.length_map,J5 hI',J5 hi1]))),rfl⟩ (bc ⟨(congrArg (T.int .i64) (show ((((((k+4*i+1)+1)+1)+1):Nat):Int)=((k+4*(i+1):Nat):Int) from (by rfl))),rfl⟩ (b2 (b2 bn))))
  ·exact (bc ⟨(congrArg (fun l_=>some (Obj.rows 4 (List.map (Qa true) l_))) he2),(lb Y),rfl⟩ bn)
  ·exact nd Y
 refine VRun.exit (vthn.e (vthn.e (vinB.e (tn (sr (mO (tN (k+4*i)) Y (aO (tN (k+4*i)) Y (nt (rt ?_)))))))))
 refine vmut.r (r0:=((k+4*i:Nat):Int)) (rows:=((Yj Zt 4 k a i).map (Qa true))) Y Y Y ?_ ?_ Y
 ·(push_cast;omega)
 ·show List.map _ (Yj Zt 4 k a i)=List.map _ (JZ Zt 4 k a.length)
  refine congrArg (List.map _) ?_
  exact QgS hI' (by omega)
noncomputable section
def QS (c:D.Clue):Nat:=1+4*c.Play.length
def Yi (k:Nat) (c:D.Clue):D.Clue:=D.Clue.mk ((k:Nat):Int) (JZ ZL 4 (k+1) c.Play.length)
theorem Qmd (k:Nat) (c:D.Clue):QS (Yi k c)=QS c:=by unfold QS Yi;simp only [Ji]
theorem Qmf (c:D.Clue):QS c≤5*(1+QY c):=by
 have:=Zs (z:=ZV) c.Play
 unfold QS QY
 omega
def Yq : Nat→List D.Clue→List D.Clue:=mkL Yi QS
def QJ : Nat→List D.Clue→Nat:=JL QS
theorem ZN (k k2:Nat) (l:List D.Clue):QJ k (Yq k2 l)=QJ k l:=Qie Qmd k k2 l
theorem QiF (k:Nat) (l:List D.Clue):QJ k l≤k+5*zL QY l:=Qli Qmf k l
theorem Qea (k:Nat) (l:List D.Clue):(Yq k l).length=l.length:=Qbw k l
end
theorem Qd1 (n:Nat) (a:List D.Clue) (k:Nat) (hk:QJ k a≤Y2):LoanM (Qs Tryz.prog (n+3)) 48 [(2,(a.map (Qh true)))] [(T.os 2 0 0 ((a.map (Qh true)).length)),(tN k)] (tN (QJ k a)) [(2,((Yq k a).map (Qh true)))]:=by
 refine LoanM.intro (rs:= [ResultVar.tmp 4]) [(0,(T.os 2 0 0 ((a.map (Qh true)).length)))] Tryz.func48 Y Y Y Y (bc ⟨by kernel_rfl,rfl⟩ bn) (PinsTo.at (And.intro trivial ⟨_,(.head _),(.os _ _)⟩)) (.int _ _) (bc (okeClue.cleanMap _) bn) (E0:= [(0,(T.os 2 0 0 ((a.map (Qh true)).length))),(1,(tN k))]) Y (fun asg=> ?_)
 obtain ⟨hlim,hmx,hmax⟩:=QA
 show VRun _ _ _ [(0,(T.os 2 0 0 ((a.map (Qh true)).length))),(1,(tN k))] (QV [(0,(Obj.rowsN 2 (a.map (Qh true)) (asg 0)))]) 1 _
 have hk2:=hk
 unfold QJ at hk2
 have hla:=Qjp (w:=QS) (fun x=>Nat.le_add_right _ _) k a
 refine sr (fO (OF.assign (VEv.int .i64 0)) (nt (sq (sr (fO (OF.assign (VEv.int .i64 0)) (nt (VRun.block ?_)))))))
 have he1:a=mkT Yi QS k a 0:=by rfl
 refine VRun.loop (A:=Nat) (fun s_=> [(0,(T.os 2 0 0 (((mkT Yi QS k a s_).map (Qh true)).length))),(1,(tN (JL QS k (a.take s_)))),(4,(tN 0)),(5,(tN s_))]) (fun s_=>QV [(0,(Obj.rowsN 2 ((mkT Yi QS k a s_).map (Qh true)) (asg 0)))]) 1 (fun s_=>s_≤a.length) (fun s_=>a.length - s_) (0:Nat) ?_ (Wk.mk (fun k=>k) ?_ ?_ ?_) ?_
 ·(simp;done)
 ·exact (bc ⟨(congrArg (fun l_=>T.os 2 0 0 (List.map (Qh true) l_).length) he1),rfl⟩ (bc ⟨(congrArg (T.int .i64) (show ((k:Nat):Int)=((JL QS k (a.take 0):Nat):Int) from (by rfl))),rfl⟩ (b2 (b2 bn))))
 ·exact (bc ⟨(congrArg (fun l_=>some (Obj.rowsN 2 (List.map (Qh true) l_) (asg 0))) he1),(lb Y),rfl⟩ bn)
 ·exact nd Y
 rintro i (hI':i≤a.length)
 show VRun _ _ _ [(0,(T.os 2 0 0 (((mkT Yi QS k a i).map (Qh true)).length))),(1,(tN (JL QS k (a.take i)))),(4,(tN 0)),(5,(tN i))] (QV [(0,(Obj.rowsN 2 ((mkT Yi QS k a i).map (Qh true)) (asg 0)))]) 1 _
 have hml:=QeN (f:=Yi) (w:=QS) k a i
 have hme:=Qiu (w:=QS) k a i
 refine sq (sr (mO (tN i) Y (mO (T.os 2 0 0 (((mkT Yi QS k a i).map (Qh true)).length)) Y (lO (B.lenO (m:=(mkT Yi QS k a i).length) (tv (T.os 2 0 0 (((mkT Yi QS k a i).map (Qh true)).length)) Y) U37 (List.length_map ..)) (fO (Q5 (tv (tN i) Y) (tv (tN ((mkT Yi QS k a i).length)) Y)) (nt ?_))))))
 refine cd (i<(mkT Yi QS k a i).length) Y (fun fhc0=> ?_) fun fhc0=> ?_
 ·refine sk ?_
  refine tn (sq (VRun.block (sr (mO (T.os 2 0 0 (((mkT Yi QS k a i).map (Qh true)).length)) Y (mO (tN i) Y (mO (tN (JL QS k (a.take i))) Y ?_))))))
  obtain ⟨x1,hx1⟩:∃x,(mkT Yi QS k a i)[i]? =some x:=⟨_,List.getElem?_eq_getElem (by omega)⟩
  (have hy1:=Qnd (show i<a.length by omega) hx1;have hnx:=Qlw (w:=QS) (k:=k) hy1;have hnt:=Qiu (w:=QS) k a (i+1);have hw2:QS x1=1+4*x1.Play.length:=rfl)
  refine fO (B.indexAddrO (i:=i) (tv (T.os 2 0 0 (((mkT Yi QS k a i).map (Qh true)).length)) Y) (tv (tN i) Y) Y (by (simp only [List.length_map];omega)) U37 QbG Qhs) (fO (OF.fieldAddrP (tv (T.orp 2 0 i 0) Y) QdM) (cO (B.storeN (t0:=(tI x1.Sense)) (rows':=(((mkT Yi QS k a i).set i (D.Clue.mk ((JL QS k (a.take i):Nat):Int) x1.Play)).map (Qh true))) (row:=(Qh true x1)) (tv (T.orp 2 0 i 0) Y) (tv (tN (JL QS k (a.take i))) Y) Y Y (Qr _ hx1) Y Y YR ZA (QZ Y)) (nt (sr (mO (tN (JL QS k (a.take i))) Y (fO (Qx (tv (tN (JL QS k (a.take i))) Y) (VEv.int .i64 1) (by omega)) (aO (tN (JL QS k (a.take i)+1)) Y (nt (VRun.region (mO (T.os 2 0 0 (((mkT Yi QS k a i).map (Qh true)).length)) Y (mO (tN i) Y ?_)))))))))))
  refine fO (B.indexAddrO (i:=i) (tv (T.os 2 0 0 (((mkT Yi QS k a i).map (Qh true)).length)) Y) (tv (tN i) Y) Y (by (simp only [List.length_map];omega)) U37 QbG Qhs) (fO (OF.fieldAddrP (tv (T.orp 2 0 i 0) Y) Qd0) (VRunO.nest (row:=(Qh true (D.Clue.mk ((JL QS k (a.take i):Nat):Int) x1.Play))) (rs:=(x1.Play.map (Ql true))) (rs':=((JZ ZL 4 (JL QS k (a.take i)+1) x1.Play.length).map (Ql true))) (rows':=((((mkT Yi QS k a i).set i (D.Clue.mk ((JL QS k (a.take i):Nat):Int) x1.Play)).set i (D.Clue.mk ((JL QS k (a.take i):Nat):Int) (JZ ZL 4 (JL QS k (a.take i)+1) x1.Play.length))).map (Qh true))) (n:=(((JL QS k (a.take i)+1):Nat):Int)) (r:=(((JL QS k (a.take i)+1)+4*x1.Play.length:Nat):Int)) Y (tv (T.orp 2 0 i 1) Y) Y (Qr _ (QcE (by omega))) Y Qln (tv (tN (JL QS k (a.take i)+1)) Y) Y (QdU (n+0) x1.Play (JL QS k (a.take i)+1) (by omega)) (okeStep.cleanMap _) (QZ Y) (aO (tN ((JL QS k (a.take i)+1)+4*x1.Play.length)) Y (VRunO.nil (vinB.n (tn (VRun.region (mO (tN i) Y (fO (Qx (tv (tN i) Y) (VEv.int .i64 1) (by omega)) (aO (tN (i+1)) Y (VRunO.nil ?_)))))))))))
  refine tn ?_
  have he2:(((mkT Yi QS k a i).set i (D.Clue.mk ((JL QS k (a.take i):Nat):Int) x1.Play)).set i (D.Clue.mk ((JL QS k (a.take i):Nat):Int) (JZ ZL 4 (JL QS k (a.take i)+1) x1.Play.length)))=mkT Yi QS k a (i+1):=by (rw [List.set_set];exact QmJ hy1 Y)
  refine ⟨(i+1:Nat),?_,?_,Wk.mk (fun k=>k) ?_ ?_ ?_⟩
  ·omega
  ·omega
  ·exact (bc ⟨(congrArg (fun n_=>T.os 2 0 0 n_) (show ((mkT Yi QS k a i).map (Qh true)).length=((mkT Yi QS k a (i+1)).map (Qh true)).length from (by rw [List.length_map,List.length_map,QeN,QeN]))),rfl⟩ (bc ⟨(congrArg (T.int .i64) (show (((JL QS k (a.take i)+1)+4*x1.Play.length:Nat):Int)=((JL QS k (a.take (i+1)):Nat):Int) from (by omega))),rfl⟩ (b2 (b2 bn))))
  ·exact (bc ⟨(congrArg (fun l_=>some (Obj.rowsN 2 (List.map (Qh true) l_) (asg 0))) he2),(lb Y),rfl⟩ bn)
  ·exact nd Y
 refine VRun.exit (vthn.e (vthn.e (vinB.e (tn (sr (mO (tN (JL QS k (a.take i))) Y (aO (tN (JL QS k (a.take i))) Y (nt (rt ?_)))))))))
 have hnew0:mkT Yi QS k a i=Yq k a:=by
  exact Qll (by omega)
 exact vloanM.r (L1:= [(2,((mkT Yi QS k a i).map (Qh true)))]) (fun k=>k) (VRes.tmp (t:=(tN (JL QS k (a.take i)))) Y VRes.nil) (congrArg (T.int .i64) (show ((JL QS k (a.take i):Nat):Int)=((QJ k a:Nat):Int) by rw [List.take_of_length_le (by omega)];rfl)) (bc (congrArg (fun n_=>T.os 2 0 0 n_) (show ((mkT Yi QS k a i).map (Qh true)).length=(a.map (Qh true)).length from (by rw [List.length_map,List.length_map,QeN]))) bn) (And.intro Y (trivial)) (by rw [hnew0])
noncomputable section
theorem Qhe {ok:Nat→Prop} [DecidablePred ok]:∀(f n k:Nat),n≤k→k<QaM ok f n→ok k
 | 0,n,k,h1,h2=>by simp only [QaM] at h2;omega
 | f+1,n,k,h1,h2=>by
  simp only [QaM] at h2
  split at h2
  ·by_cases e:k=n
   ·subst e;assumption
   ·exact Qhe f (n+1) k (by omega) h2
  ·omega
theorem QlJ {g:D.Grid} {cell k:Nat} {down:Bool} (hg:gridOk g) (hc:cell<g.Cells.size) (hk:k<Qq g cell down):0≤((cell:Nat):Int)+((k:Nat):Int)*(if down=true then g.Cols else 1)∧((cell:Nat):Int)+((k:Nat):Int)*(if down=true then g.Cols else 1)<((g.Cells.size:Nat):Int):=by
 have hB:=hg.2.1
 obtain ⟨_,_,_,h4,h5⟩:=Qb9 hg hc
 unfold Qq at hk
 cases down with
 | true =>
  rw [if_pos Y] at hk
  unfold QgB at hk
  split at hk
  ·have h1:=Qhe _ _ k (Nat.zero_le _) hk
   have h2:=h5 k h1.1
   have h3:0≤((k:Nat):Int)*g.Cols:=Int.mul_nonneg (by omega) (by omega)
   rw [if_pos Y]
   omega
  ·omega
 | false =>
  rw [if_neg (by simp)] at hk
  unfold Qgy at hk
  split at hk
  ·have h1:=Qhe _ _ k (Nat.zero_le _) hk
   have h2:=h4 k h1.1
   rw [if_neg (by simp),Int.mul_one]
   omega
  ·omega
theorem Qem (g:D.Grid):∀i,∀s∈(Qg g i).1,∃c:Nat,c<i∧s.Cell=((c:Nat):Int)∧s.Length=((Qq g c s.Down:Nat):Int)
 | 0,s,hs=>by simp [Qg] at hs
 | i+1,s,hs=>by
  rw [YM,List.mem_append,List.mem_append] at hs
  rcases hs with (hs | hs) | hs
  ·obtain ⟨c,h1,h2⟩:=Qem g i s hs
   exact ⟨c,by omega,h2⟩
  ·split at hs
   ·obtain rfl:=List.mem_singleton.1 hs
    exact ⟨i,by omega,rfl,rfl⟩
   ·cases hs
  ·split at hs
   ·obtain rfl:=List.mem_singleton.1 hs
    exact ⟨i,by omega,rfl,rfl⟩
   ·cases hs
theorem QgP {g:D.Grid} {s:D.Slot} {c:Int} (hs:s∈Qb g) (hc:c∈Qk g s s.Length.toNat):0≤c∧c<((g.Cells.size:Nat):Int):=by
 have hg:=(Qa5 hs).1
 unfold Qb at hs
 rw [if_pos hg] at hs
 obtain ⟨c0,h1,h2,h3⟩:=Qem g _ s hs
 unfold Qk at hc
 obtain ⟨k,hk,rfl⟩:=List.mem_map.1 hc
 rw [List.mem_range] at hk
 have:=QlJ (down:=s.Down) hg h1 (k:=k) (by omega)
 rw [h2]
 unfold QeS
 exact this
def Jp (f:ByteArray) (l:List Int):List Int:=l.map fun c=>Qv f (Int.toNat c)
theorem Qj9 {f:ByteArray} {l:List Int} {i:Nat} {c:Int} (h:l[i]? =some c):Jp f (l.take i)++ [Qv f (Int.toNat c)]=Jp f (l.take (i+1)):=by
 unfold Jp
 rw [List.take_add_one,h,Option.toList_some,List.map_append];rfl
theorem QkV (f:ByteArray) (l:List Int):(Jp f l).length=l.length:=by simp [Jp]
def pat (f:ByteArray) (l:List Int):ByteArray:=YQ (Jp f l)
theorem Qk6 {f:ByteArray} {l:List Int} {i:Nat} {c:Int} (h:l[i]? =some c) (h1:0≤c∧c<((f.size:Nat):Int)):pat f (l.take (i+1))=pat f (l.take i)++f.extract (Int.toNat c) (Int.toNat (c+1)):=by
 have hc:Int.toNat c<f.data.toList.length:=by rw [Array.length_toList];show Int.toNat c<f.size;omega
 refine QgI ?_
 unfold pat Jp
 rw [List.take_add_one,h,Option.toList_some,List.map_append,J1,ByteArray.data_append,Array.toList_append,J1,List.map_append]
 congr 1
 rw [ByteArray.data_extract,Array.toList_extract,List.extract_eq_take_drop,show Int.toNat (c+1) - Int.toNat c=1 by omega,List.drop_eq_getElem_cons hc]
 have hb:Qv f (Int.toNat c)=((f.data.toList[Int.toNat c]).toNat:Int):=by
  rw [← JP (show Int.toNat c<f.size by omega)];rfl
 simp [hb]
theorem QhY (f:ByteArray) (l:List Int):(pat f l).size=l.length:=by
 show (pat f l).data.size=_
 rw [← Array.length_toList]
 unfold pat Jp
 rw [J1]
 simp
def YC (g:D.Grid) (f:ByteArray) (slot:Int):ByteArray:=if 0≤slot then (match (Qb g)[slot.toNat]? with | some s=>if QN g f then pat f (Qk g s s.Length.toNat) else ⟨#[]⟩ | none=>⟨#[]⟩) else ⟨#[]⟩
theorem Qi0 {g:D.Grid} {f:ByteArray} {slot:Int} (h:¬QN g f∨¬(0≤slot∧slot≤(((Qb g).length:Nat):Int) - 1)):YC g f slot=⟨#[]⟩:=by
 unfold YC
 by_cases h0:0≤slot
 ·rw [if_pos h0]
  cases hs:(Qb g)[slot.toNat]? with
  | none=>rfl
  | some s =>
   have:=(List.getElem?_eq_some_iff.1 hs).1
   simp only
   rw [if_neg]
   rcases h with h | h
   ·exact h
   ·exact absurd ⟨h0,by omega⟩ h
 ·rw [if_neg h0]
theorem QfN {g:D.Grid} {f:ByteArray} {slot:Int} {s:D.Slot} (h0:0≤slot) (hs:(Qb g)[slot.toNat]? =some s) (hf:QN g f):YC g f slot=pat f (Qk g s s.Length.toNat):=by
 unfold YC
 rw [if_pos h0,hs]
 exact if_pos hf
def Yk (g:D.Grid) (f:ByteArray):List ByteArray:=if QN g f then (QI g).map (pat f) else []
theorem Qlp {g:D.Grid} {f:ByteArray} {i:Nat} {x:ByteArray} (h:(Yk g f)[i]? =some x):x=YC g f ((i:Nat):Int):=by
 unfold Yk at h
 split at h
 ·rename_i hf
  rw [List.getElem?_map] at h
  obtain ⟨y,h1,rfl⟩:=Option.map_eq_some_iff.1 h
  obtain ⟨s,h2,rfl⟩:=Qe1 h1
  exact (QfN (by omega) h2 hf).symm
 ·simp at h
theorem Qgu {g:D.Grid} {f:ByteArray} (h:QN g f):(Yk g f).length=(Qb g).length:=by
 unfold Yk
 rw [if_pos h,List.length_map,Qbc]
theorem Qm8 {g:D.Grid} {s:D.Slot} {f:ByteArray} {i:Nat} {c:Int} (hf:QN g f) (h:(if s∈Qb g then Qk g s s.Length.toNat else [])[i]? =some c):0≤c∧c<((f.size:Nat):Int):=by
 have hm:=List.mem_of_getElem? h
 split at hm
 ·rename_i hs
  have:=QgP hs hm
  have:=hf.2.1
  omega
 ·cases hm
end
theorem QcG (n:Nat) (g:D.Grid) (f:ByteArray) (slot:Int) (hc:g.Cells.size≤maxLen) (hf:f.size≤maxLen):Pure (Qs Tryz.prog (n+5)) 66 [(T.agg (Qd false g)),(tS f),(tI slot)] (tS (YC g f slot)):=by
 refine Pure.intro (rs:= [ResultVar.tmp 6]) Tryz.func66 Y Y Y (E0:= [(0,(T.agg (Qd false g))),(1,(tS f)),(2,(tI slot))]) Y ?_
 obtain ⟨hlim,hmx,hmax⟩:=QA
 have hsl:=Zw g
 refine sr (kO (B.box (ts:=(Qd false g)) (tv (T.agg (Qd false g)) Y) nofun Y) (fO (OF.assign (VEv.str (⟨#[]⟩:ByteArray))) (nt (sr (lO (OL.loadOn (us:=(Qd false g)) (tv (T.op 0 0) Y) Y Q4 Q0 (lb Y) Y) (cO (OC.callF (r':=(T.os 4 1 0 (((Qb g).map (Qj true)).length))) (objs:= [(Obj.rows 4 ((Qb g).map (Qj true)))]) Y (vc (tv (T.agg (Qd false g)) Y) vn) (LendL.cons (lg Qu) ln) (ZP (n+1) g (by assumption)) Y) (aO (T.os 4 1 0 (((Qb g).map (Qj true)).length)) Y (nt (sq (sr (lO (OL.loadOn (us:=(Qd false g)) (tv (T.op 0 0) Y) Y Q4 Q0 (lb Y) Y) ?_)))))))))))
 refine mO (tS f) Y (cO (cS (vc (tv (T.agg (Qd false g)) Y) (vc (tv (tS f) Y) vn)) (LendL.cons (lg Qu) (lp Y ln)) (JG (n+1) g f (by assumption) (by assumption)) Y Y) (fO (Zd (tv (tB (decide (QN g f))) Y)) (mO (tB (!(decide (QN g f)))) Y ?_)))
 refine VRunO.joinB 7 [18,19,20,21,22,23] 24 (tB (decide ((¬(QN g f))∨(¬(0≤slot∧slot≤((((Qb g).length:Nat):Int) - 1)))))) ?_ ?_
 ·refine gn (QN g f) (fun fhg17_1=> ?_) fun fhg17_1=> ?_
  ·refine QE 6 4 false 17 (ny fhg17_1) Y Y Y ?_
   refine fO (OF.pickT (VEv.tmpB Y (ny fhg17_1)) (VEv.bool true)) (VRunO.nil ?_)
   exact jq (congrArg T.bool (kOT fhg17_1)) (js Y (js Y (js Y (js Y (js Y (js Y (jn)))))))
  ·refine gF (nz fhg17_1) Y Y (OF.move (tv (tI slot) Y)) ?_
   refine gF (nz fhg17_1) Y Y (OF.move (tv (T.os 4 1 0 (((Qb g).map (Qj true)).length)) Y)) (gL (nz fhg17_1) Y Y (B.lenO (m:=(Qb g).length) (tv (T.os 4 1 0 (((Qb g).map (Qj true)).length)) Y) U94 (List.length_map ..)) (gF (nz fhg17_1) Y Y (B.sub (n:=((((Qb g).length:Nat):Int) - 1)) (tv (tN ((Qb g).length)) Y) (VEv.int .i64 1) (by (rw [Qt (by omega)];done))) (VRunO.chain (VWant.on Y Y (nz fhg17_1)) (cS (vc (tv (tI slot) Y) (vc (VEv.int .i64 0) (vc (tv (tI ((((Qb g).length:Nat):Int) - 1)) Y) vn))) (Z8 Y) (Q2 (n+3) slot 0 ((((Qb g).length:Nat):Int) - 1)) Y Y) (gF (nz fhg17_1) Y Y (Zd (tv (tB (decide (0≤slot∧slot≤((((Qb g).length:Nat):Int) - 1)))) Y)) (fO (OF.pickF (VEv.tmpB Y (nz fhg17_1)) (tv (tB (!(decide (0≤slot∧slot≤((((Qb g).length:Nat):Int) - 1))))) Y)) (VRunO.nil ?_))))))
   exact jq (congrArg T.bool (kOF (not_not_intro fhg17_1) dN)) (js Y (js Y (js Y (js Y (js Y (js Y (jn)))))))
 refine nt ?_
 refine cd ((¬(QN g f))∨(¬(0≤slot∧slot≤((((Qb g).length:Nat):Int) - 1)))) Y (fun fhc0=> ?_) fun fhc0=> ?_
 ·refine sr ?_
  refine fO (OF.assign (VEv.str (⟨#[]⟩:ByteArray))) (nt (rt (tr ?_)))
  refine vfin.eq (r':=(tS (⟨#[]⟩:ByteArray))) ?_ (vfin.r (VRes.tmp (t:=(tS (⟨#[]⟩:ByteArray))) Y VRes.nil) (Give.str _))
  refine congrArg T.str ?_
  exact (Qi0 fhc0).symm
 have hs0:0≤slot∧slot≤(((Qb g).length:Nat):Int) - 1:=Classical.byContradiction fun h=>fhc0 (.inr h)
 have hfi:QN g f:=Classical.byContradiction fun h=>fhc0 (.inl h)
 have hsz:=hfi.1.size
 refine sk (tn (sr (fO (OF.assign (VEv.str (⟨#[]⟩:ByteArray))) (nt (sq (VRun.draw (B:= [[],[],[],[2,1],[1,2,3],[3,2,1,4,0],[0,4,1,2,3,5]]) (by kernel_rfl) (by kernel_rfl) Y (lD (OL.loadOn (us:=(Qd false g)) (tv (T.op 0 0) Y) Y Q4 Q0 (lb Y) Y) Y Y (mD (T.os 4 1 0 (((Qb g).map (Qj true)).length)) Y Y (mD (tI slot) Y Y ?_)))))))))
 obtain ⟨x1,hx1⟩:∃x,(Qb g)[(Int.toNat slot)]? =some x:=⟨_,List.getElem?_eq_getElem (by omega)⟩
 skip
 refine fD (B.indexAddrO (i:=(Int.toNat slot)) (tv (T.os 4 1 0 (((Qb g).map (Qj true)).length)) Y) (tv (tI slot) Y) (by omega) (by (simp only [List.length_map];omega)) U94 Zz QbC) Y Y (lD (OL.loadPn (us:=(Qj false x1)) (row:=(Qj true x1)) (tv (T.orp 4 1 (Int.toNat slot) 0) Y) Y (Qr _ hx1) Qdj Zz (lb Y) Y (bc Y (bc Y (bc Y (bc Y bn))))) Y Y (VRunD.quiet (bi:= [3,2,1,4,0]) Y VWant.always Y Y Y bn (OC.callF (r':=(T.os 1 2 0 (((if x1∈Qb g then Qk g x1 x1.Length.toNat else []).map (Qc true)).length))) (objs:= [(Obj.rows 1 ((if x1∈Qb g then Qk g x1 x1.Length.toNat else []).map (Qc true)))]) Y (vc (tv (T.agg (Qd false g)) Y) (vc (tv (T.agg (Qj false x1)) Y) vn)) (LendL.cons (lg Qu) (LendL.cons (lg okeSlot) ln)) (Qam (n+0) g x1 (by assumption)) Y) (fD (OF.assign (tv (T.os 1 2 0 (((if x1∈Qb g then Qk g x1 x1.Length.toNat else []).map (Qc true)).length)) Y)) Y Y (VRunD.nil (tn (sq (sr (fO (OF.assign (VEv.int .i64 0)) (nt (VRun.block ?_))))))))))
 refine VRun.loop (A:=Nat) (fun s_=> [(1,(tS f)),(6,(tS (⟨#[]⟩:ByteArray))),(8,(tS (pat f ((if x1∈Qb g then Qk g x1 x1.Length.toNat else []).take s_)))),(9,(T.os 1 0 0 (((if x1∈Qb g then Qk g x1 x1.Length.toNat else []).map (Qc true)).length))),(10,(tN s_))]) (fun s_=>QV [(0,(Obj.rows 1 ((if x1∈Qb g then Qk g x1 x1.Length.toNat else []).map (Qc true))))]) 1 (fun s_=>s_≤(if x1∈Qb g then Qk g x1 x1.Length.toNat else []).length) (fun s_=>(if x1∈Qb g then Qk g x1 x1.Length.toNat else []).length - s_) (0:Nat) ?_ (Wk.mk (fun k=>if k=0 then 2 else k) ?_ ?_ ?_) ?_
 ·(simp;done)
 ·exact (b2 (b2 (bc ⟨(congrArg T.str (show (⟨#[]⟩:ByteArray)=pat f ((if x1∈Qb g then Qk g x1 x1.Length.toNat else []).take 0) from (by rfl))),rfl⟩ (b2 (b2 bn)))))
 ·exact (b3 bn)
 ·exact nd Y
 rintro i (hI':i≤(if x1∈Qb g then Qk g x1 x1.Length.toNat else []).length)
 show VRun _ _ _ [(1,(tS f)),(6,(tS (⟨#[]⟩:ByteArray))),(8,(tS (pat f ((if x1∈Qb g then Qk g x1 x1.Length.toNat else []).take i)))),(9,(T.os 1 0 0 (((if x1∈Qb g then Qk g x1 x1.Length.toNat else []).map (Qc true)).length))),(10,(tN i))] (QV [(0,(Obj.rows 1 ((if x1∈Qb g then Qk g x1 x1.Length.toNat else []).map (Qc true))))]) 1 _
 have hI1:=hI'
 have hl6:=Qhk g x1
 have hps:=QhY f ((if x1∈Qb g then Qk g x1 x1.Length.toNat else []).take i)
 have htl:=YK (if x1∈Qb g then Qk g x1 x1.Length.toNat else []) i
 refine sq (sr (mO (tN i) Y (mO (T.os 1 0 0 (((if x1∈Qb g then Qk g x1 x1.Length.toNat else []).map (Qc true)).length)) Y (lO (B.lenO (m:=(if x1∈Qb g then Qk g x1 x1.Length.toNat else []).length) (tv (T.os 1 0 0 (((if x1∈Qb g then Qk g x1 x1.Length.toNat else []).map (Qc true)).length)) Y) Z1 (List.length_map ..)) (fO (Q5 (tv (tN i) Y) (tv (tN ((if x1∈Qb g then Qk g x1 x1.Length.toNat else []).length)) Y)) (nt ?_))))))
 refine cd (i<(if x1∈Qb g then Qk g x1 x1.Length.toNat else []).length) Y (fun fhc1=> ?_) fun fhc1=> ?_
 ·refine sk ?_
  refine tn (sq (VRun.block (VRun.draw (B:= [[],[],[],[],[3,2],[2,3,4],[],[],[7,6],[6,7,8],[8,7,6,9],[9,6,7,8,10,4,3,2,5,1],[1,5,2,3,4,10,8,7,6,9,11,0],[0,11,9,6,7,8,10,4,3,2,5,1,12]]) (by kernel_rfl) (by kernel_rfl) Y (mD (tS (pat f ((if x1∈Qb g then Qk g x1 x1.Length.toNat else []).take i))) Y Y (mD (tS f) Y Y (mD (T.os 1 0 0 (((if x1∈Qb g then Qk g x1 x1.Length.toNat else []).map (Qc true)).length)) Y Y (mD (tN i) Y Y ?_)))))))
  obtain ⟨x2,hx2⟩:∃x,(if x1∈Qb g then Qk g x1 x1.Length.toNat else [])[i]? =some x:=⟨_,List.getElem?_eq_getElem (by omega)⟩
  have hcb:=Qm8 hfi hx2
  refine fD (B.indexAddrO (i:=i) (tv (T.os 1 0 0 (((if x1∈Qb g then Qk g x1 x1.Length.toNat else []).map (Qc true)).length)) Y) (tv (tN i) Y) Y (by (simp only [List.length_map];omega)) Z1 ZA YR) Y Y (lD (OL.loadP1 (t:=(tI x2)) (row:=(Qc true x2)) (tv (T.orp 1 0 i 0) Y) Y (Qr _ hx2) Y Y QQ) Y Y (mD (T.os 1 0 0 (((if x1∈Qb g then Qk g x1 x1.Length.toNat else []).map (Qc true)).length)) Y Y (mD (tN i) Y Y (fD (B.indexAddrO (i:=i) (tv (T.os 1 0 0 (((if x1∈Qb g then Qk g x1 x1.Length.toNat else []).map (Qc true)).length)) Y) (tv (tN i) Y) Y (by (simp only [List.length_map];omega)) Z1 ZA YR) Y Y (lD (OL.loadP1 (t:=(tI x2)) (row:=(Qc true x2)) (tv (T.orp 1 0 i 0) Y) Y (Qr _ hx2) Y Y QQ) Y Y (fD (B.add (n:=(x2+1)) (tv (tI x2) Y) (VEv.int .i64 1) (by (rw [Qt (by omega)];done))) Y Y (lD (OL.sliceS (i:=(Int.toNat x2)) (j:=(Int.toNat (x2+1))) (tv (tS f) Y) (tv (tI x2) Y) (tv (tI (x2+1)) Y) (by omega) (by omega) (by omega) (by omega) U9) Y Y (fD (B.sadd (tv (tS (pat f ((if x1∈Qb g then Qk g x1 x1.Length.toNat else []).take i))) Y) (tv (tS (f.extract (Int.toNat x2) (Int.toNat (x2+1)))) Y) (by (simp only [ByteArray.size_extract];omega))) Y Y (fD (OF.assign (tv (tS (pat f ((if x1∈Qb g then Qk g x1 x1.Length.toNat else []).take i)++(f.extract (Int.toNat x2) (Int.toNat (x2+1))))) Y)) Y Y (VRunD.nil (vinB.n ?_)))))))))))
  refine tn (VRun.region (mO (tN i) Y (fO (Qx (tv (tN i) Y) (VEv.int .i64 1) (by omega)) (aO (tN (i+1)) Y (VRunO.nil (tn ?_))))))
  refine ⟨(i+1:Nat),?_,?_,Wk.mk (fun k=>k) ?_ ?_ ?_⟩
  ·trivial
  ·omega
  ·exact (b2 (b2 (bc ⟨(congrArg T.str (show (pat f ((if x1∈Qb g then Qk g x1 x1.Length.toNat else []).take i)++(f.extract (Int.toNat x2) (Int.toNat (x2+1))))=pat f ((if x1∈Qb g then Qk g x1 x1.Length.toNat else []).take (i+1)) from (by exact (Qk6 hx2 hcb).symm))),rfl⟩ (b2 (b2 bn)))))
  ·exact (b3 bn)
  ·exact nd Y
 refine VRun.exit (vthn.e (vthn.e (vinB.e (tn (sr (mO (tS (pat f ((if x1∈Qb g then Qk g x1 x1.Length.toNat else []).take i))) Y (aO (tS (pat f ((if x1∈Qb g then Qk g x1 x1.Length.toNat else []).take i))) Y (nt (rt ?_)))))))))
 refine vfin.eq (r':=(tS (pat f ((if x1∈Qb g then Qk g x1 x1.Length.toNat else []).take i)))) ?_ (vfin.r (VRes.tmp (t:=(tS (pat f ((if x1∈Qb g then Qk g x1 x1.Length.toNat else []).take i)))) Y VRes.nil) (Give.str _))
 refine congrArg T.str ?_
 rw [QfN hs0.1 hx1 hfi,Jf hI1 fhc1,Qhv hx1]
theorem QdN (n:Nat) (f:ByteArray) (l:List Int) (hl:l.length≤64) (hb:∀c∈l,0≤c∧c<((f.size:Nat):Int)):Pure (Qs Tryz.prog (n+1)) 84 [(tS f),(rd 1 Qc l)] (tS (pat f l)):=by
 refine Pure.intro (rs:= [ResultVar.tmp 4]) Tryz.func84 Y Y Y (E0:= [(0,(tS f)),(1,(rd 1 Qc l))]) Y ?_
 obtain ⟨hlim,hmx,hmax⟩:=QA
 refine sr (fO (OF.assign (VEv.str (⟨#[]⟩:ByteArray))) (nt (sr (fO (OF.assign VEv.nils) (nt (sq (sr (mO (rd 1 Qc l) Y (lO (B.lenR (m:=l.length) (tv (rd 1 Qc l) Y) Z1 (List.length_map ..)) (fO (OF.move (VEv.int .i64 0)) (nt ?_)))))))))))
 refine VRun.block (VRun.wk (Wk.phantom 5 1 Y) ?_)
 have he1: []=((Jp f (l.take 0)).map (QX true)):=by rfl
 refine VRun.loop (A:=Nat) (fun s_=> [(0,(tS f)),(4,(tS (⟨#[]⟩:ByteArray))),(5,(T.os 1 0 0 (((Jp f (l.take s_)).map (QX true)).length))),(8,(rd 1 Qc l)),(9,(tN l.length)),(10,(tN s_))]) (fun s_=>QV [(0,(Obj.rows 1 ((Jp f (l.take s_)).map (QX true))))]) 1 (fun s_=>s_≤l.length) (fun s_=>l.length - s_) (0:Nat) ?_ (Wk.mk (fun k=>k) ?_ ?_ ?_) ?_
 ·(simp;done)
 ·exact (b2 (b2 (bc ⟨(congrArg (fun n_=>T.os 1 0 0 n_) (show 0=((Jp f (l.take 0)).map (QX true)).length from (by rfl))),rfl⟩ (b2 (b2 (b2 bn))))))
 ·exact (bc ⟨(congrArg (fun l_=>some (Obj.rows 1 l_)) he1),(lb Y),rfl⟩ bn)
 ·exact nd Y
 rintro i (hI':i≤l.length)
 show VRun _ _ _ [(0,(tS f)),(4,(tS (⟨#[]⟩:ByteArray))),(5,(T.os 1 0 0 (((Jp f (l.take i)).map (QX true)).length))),(8,(rd 1 Qc l)),(9,(tN l.length)),(10,(tN i))] (QV [(0,(Obj.rows 1 ((Jp f (l.take i)).map (QX true))))]) 1 _
 have hI1:=hI'
 have htl:=YK l i
 have hcl:=QkV f (l.take i)
 refine sr (fO (Q5 (tv (tN i) Y) (tv (tN l.length) Y)) (nt (sq ?_)))
 refine cd (i<l.length) Y (fun fhc0=> ?_) fun fhc0=> ?_
 ·refine sk ?_
  refine tn (sq (VRun.block (sr ?_)))
  obtain ⟨x1,hx1⟩:∃x,l[i]? =some x:=⟨_,List.getElem?_eq_getElem (by omega)⟩
  have hbx:=hb _ (List.mem_of_getElem? hx1)
  refine fO (OF.indexAddrR (row:=(Qc false x1)) (i:=i) (tv (rd 1 Qc l) Y) (tv (tN i) Y) Y (Qr _ hx1) Z1 ZA YR) (lO (OL.loadR1 (t:=(tI x1)) (tv (T.rp [(tI x1)]) Y) Y QQ) (aO (tI x1) Y (nt (VRun.region (mO (T.os 1 0 0 (((Jp f (l.take i)).map (QX true)).length)) Y (mO (tS f) Y (mO (tI x1) Y ?_)))))))
  have hb2:(Int.toNat x1)<f.size:=(by omega)
  refine fO (B.index (n:=(Qv f (Int.toNat x1))) (i:=(Int.toNat x1)) (tv (tS f) Y) (tv (tI x1) Y) (by omega) hb2 U9 (JP hb2)) (kO (OM.buildSlice (l:= [(T.int .u8 (Qv f (Int.toNat x1)))]) (VEvp.cons (tv (T.int .u8 (Qv f (Int.toNat x1))) Y) VEvp.nil) Y (by decide) (bc (nofun) bn) (bc ((bc (Y) bn)) bn) (bc (Y) bn) U76 zo5 (by kernel_rfl) Y (by rw [sz5];decide) sz5 (Nat.le_of_ble_eq_true Y)) (cO (B.append (rows:=((Jp f (l.take i)).map (QX true))) (rows2:= [[(T.int .u8 (Qv f (Int.toNat x1)))]]) (rows3:=((Jp f (l.take i)++ [Qv f (Int.toNat x1)]).map (QX true))) (VDst.own (tv (T.os 1 0 0 (((Jp f (l.take i)).map (QX true)).length)) Y) Y Y) (VSrc.own (tv (T.os 1 1 0 1) Y) Y Y U76 (bc (bc Y bn) bn)) (by decide) U76 sz5 (by decide) zo5 Y (of_decide_eq_true (by kernel_rfl)) (by (simp only [List.length_map,List.length_append,List.length_cons,List.length_nil,List.length_replicate,List.length_set,List.length_drop,List.length_take,Y2] at *;omega)) ((List.map_append (f:=QX true) (l₁:=Jp f (l.take i)) (l₂:= [Qv f (Int.toNat x1)])).symm)) (aO (T.os 1 2 0 (((Jp f (l.take i)++ [Qv f (Int.toNat x1)]).map (QX true)).length)) Y (VRunO.nil (vinB.n (tn (VRun.region (fO (Qx (tv (tN i) Y) (VEv.int .i64 1) (by omega)) (mO (tN (i+1)) Y (VRunO.nil (tn ?_)))))))))))
  have he3:(Jp f (l.take i)++ [Qv f (Int.toNat x1)])=Jp f (l.take (i+1)):=by exact Qj9 hx1
  refine ⟨(i+1:Nat),?_,?_,Wk.mk (fun k=>if k=0 then 2 else k) ?_ ?_ ?_⟩
  ·trivial
  ·omega
  ·exact (b2 (b2 (bc ⟨(congrArg (fun l_=>T.os 1 2 0 (List.map (QX true) l_).length) he3),rfl⟩ (b2 (b2 (b2 bn))))))
  ·exact (bc ⟨(congrArg (fun l_=>some (Obj.rows 1 (List.map (QX true) l_))) he3),(lb Y),rfl⟩ bn)
  ·exact nd Y
 refine VRun.exit (vthn.e (vthn.e (vinB.e (tn (sr (mO (T.os 1 0 0 (((Jp f (l.take i)).map (QX true)).length)) Y (lO (B.convBS (l:=Jp f (l.take i)) (tv (T.os 1 0 0 (((Jp f (l.take i)).map (QX true)).length)) Y) Y (List.length_map ..) U76 U5 U9) (aO (tS (YQ (Jp f (l.take i)))) Y (nt (rt ?_))))))))))
 refine vfin.eq (r':=(tS (YQ (Jp f (l.take i))))) ?_ (vfin.r (VRes.tmp (t:=(tS (YQ (Jp f (l.take i))))) Y VRes.nil) (Give.str _))
 refine congrArg T.str ?_
 rw [Jf hI' fhc0];rfl
theorem QeC (n:Nat) (g:D.Grid) (f:ByteArray) (hc:g.Cells.size≤maxLen) (hf:f.size≤maxLen):Pure (Qs Tryz.prog (n+5)) 67 [(T.agg (Qd false g)),(tS f)] (T.sl true 1 ((Yk g f).map (YP true))):=by
 refine Pure.intro (rs:= [ResultVar.tmp 4]) Tryz.func67 Y Y Y (E0:= [(0,(T.agg (Qd false g))),(1,(tS f))]) Y ?_
 obtain ⟨hlim,hmx,hmax⟩:=QA
 have hsl:=Zw g
 have hll:=Qbc g
 refine sr (kO (B.box (ts:=(Qd false g)) (tv (T.agg (Qd false g)) Y) nofun Y) (fO (OF.assign VEv.nils) (nt (sq (sr (lO (OL.loadOn (us:=(Qd false g)) (tv (T.op 0 0) Y) Y Q4 Q0 (lb Y) Y) (mO (tS f) Y (cO (cS (vc (tv (T.agg (Qd false g)) Y) (vc (tv (tS f) Y) vn)) (LendL.cons (lg Qu) (lp Y ln)) (QaP (n+1) g f (by assumption) (by assumption)) Y Y) (fO (Zd (tv (tB (decide (QN g f))) Y)) (nt ?_))))))))))
 refine cn (QN g f) Y (fun fhc0=> ?_) fun fhc0=> ?_
 ·refine sr ?_
  refine fO (OF.assign VEv.nils) (nt (rt (tr ?_)))
  refine vfin.eq (r':=(T.sl true 1 [])) ?_ (vfin.r (VRes.tmp (t:=T.nils) Y VRes.nil) (Give.nils 1))
  refine congrArg (fun l_=>T.sl true 1 (List.map (YP true) l_)) (a₁:= []) ?_
  exact (if_neg fhc0).symm
 refine sk (tn (sr (fO (OF.assign VEv.nils) (nt (sq (sr (lO (OL.loadOn (us:=(Qd false g)) (tv (T.op 0 0) Y) Y Q4 Q0 (lb Y) Y) (cO (OC.callF (r':=(T.os 1 1 0 (((QI g).map ((Jo 1 Qc) true)).length))) (objs:= [(Obj.rows 1 ((QI g).map ((Jo 1 Qc) true)))]) Y (vc (tv (T.agg (Qd false g)) Y) vn) (LendL.cons (lg Qu) ln) (JC (n+0) g (by assumption)) Y) (lO (B.lenO (m:=(QI g).length) (tv (T.os 1 1 0 (((QI g).map ((Jo 1 Qc) true)).length)) Y) Qfd (List.length_map ..)) (fO (OF.move (VEv.int .i64 0)) (nt ?_)))))))))))
 refine VRun.block (VRun.wk (Wk.freeze (sz:=1) (k:=1) (rows':=((QI g).map ((Jo 1 Qc) false))) [13] (bc Y bn) Y Y ((Qk1 okInt).fzMap _ _)) (VRun.wk (Wk.phantom 5 1 Y) ?_))
 have he1: []=((((QI g).take 0).map (pat f)).map (YP true)):=by rfl
 refine VRun.loop (A:=Nat) (fun s_=> [(1,(tS f)),(4,T.nils),(5,(T.os 1 0 0 (((((QI g).take s_).map (pat f)).map (YP true)).length))),(13,(rd 1 (Jo 1 Qc) (QI g))),(14,(tN ((QI g).length))),(15,(tN s_))]) (fun s_=>QV [(0,(Obj.rows 1 ((((QI g).take s_).map (pat f)).map (YP true))))]) 1 (fun s_=>s_≤(QI g).length) (fun s_=>(QI g).length - s_) (0:Nat) ?_ (Wk.mk (fun k=>if k=0 then 2 else k) ?_ ?_ ?_) ?_
 ·(simp;done)
 ·exact (b2 (b2 (bc ⟨(congrArg (fun n_=>T.os 1 2 0 n_) (show 0=((((QI g).take 0).map (pat f)).map (YP true)).length from (by rfl))),rfl⟩ (b2 (b2 (b2 bn))))))
 ·exact (bc ⟨(congrArg (fun l_=>some (Obj.rows 1 l_)) he1),(lb Y),rfl⟩ bn)
 ·exact nd Y
 rintro i (hI':i≤(QI g).length)
 show VRun _ _ _ [(1,(tS f)),(4,T.nils),(5,(T.os 1 0 0 (((((QI g).take i).map (pat f)).map (YP true)).length))),(13,(rd 1 (Jo 1 Qc) (QI g))),(14,(tN ((QI g).length))),(15,(tN i))] (QV [(0,(Obj.rows 1 ((((QI g).take i).map (pat f)).map (YP true))))]) 1 _
 have hI1:=hI'
 have htl:=YK (QI g) i
 refine sr (fO (Q5 (tv (tN i) Y) (tv (tN ((QI g).length)) Y)) (nt (sq ?_)))
 refine cd (i<(QI g).length) Y (fun fhc1=> ?_) fun fhc1=> ?_
 ·refine sk ?_
  refine tn (sq (VRun.block (sr ?_)))
  obtain ⟨x1,hx1⟩:∃x,(QI g)[i]? =some x:=⟨_,List.getElem?_eq_getElem (by omega)⟩
  obtain ⟨y1,hy1,hq1⟩:=Qe1 hx1
  refine fO (OF.indexAddrR (row:=((Jo 1 Qc) false x1)) (i:=i) (tv (rd 1 (Jo 1 Qc) (QI g)) Y) (tv (tN i) Y) Y (Qr _ hx1) Qfd QfV Qjj) (lO (OL.loadR1 (t:=(rd 1 Qc x1)) (tv (T.rp [(rd 1 Qc x1)]) Y) Y Qcm) (aO (rd 1 Qc x1) Y (nt (VRun.region (mO (T.os 1 0 0 (((((QI g).take i).map (pat f)).map (YP true)).length)) Y (mO (tS f) Y (mO (rd 1 Qc x1) Y (cO (cS (vc (tv (tS f) Y) (vc (tv (rd 1 Qc x1) Y) vn)) (Z8 Y) (QdN (n+3) f x1 (by (rw [hq1];exact Nat.le_trans (Qch hy1) (by decide))) (by (rw [hq1];intro c hc;have:=QgP (List.mem_of_getElem? hy1) hc;have:=fhc0.2.1;omega))) Y Y) (kO (OM.buildSlice (l:= [(tS (pat f x1))]) (VEvp.cons (tv (tS (pat f x1)) Y) VEvp.nil) Y (by decide) (bc (nofun) bn) (bc ((bc (Y) bn)) bn) (bc (Y) bn) U98 zo9 (by kernel_rfl) Y (by rw [sz9];decide) sz9 (Nat.le_of_ble_eq_true Y)) (cO (B.append (rows:=((((QI g).take i).map (pat f)).map (YP true))) (rows2:= [[(tS (pat f x1))]]) (rows3:=((((QI g).take i).map (pat f)++ [pat f x1]).map (YP true))) (VDst.own (tv (T.os 1 0 0 (((((QI g).take i).map (pat f)).map (YP true)).length)) Y) Y Y) (VSrc.own (tv (T.os 1 1 0 1) Y) Y Y U98 (bc (bc Y bn) bn)) (by decide) U98 sz9 (by decide) zo9 Y (of_decide_eq_true (by kernel_rfl)) (by (simp only [List.length_map,List.length_append,List.length_cons,List.length_nil,List.length_replicate,List.length_set,List.length_drop,List.length_take,Y2] at *;omega)) ((List.map_append (f:=YP true) (l₁:=((QI g).take i).map (pat f)) (l₂:= [pat f x1])).symm)) (aO (T.os 1 2 0 (((((QI g).take i).map (pat f)++ [pat f x1]).map (YP true)).length)) Y ?_)))))))))))
  refine VRunO.nil (vinB.n (tn (VRun.region (fO (Qx (tv (tN i) Y) (VEv.int .i64 1) (by omega)) (mO (tN (i+1)) Y (VRunO.nil (tn ?_)))))))
  have he2:(((QI g).take i).map (pat f)++ [pat f x1])=((QI g).take (i+1)).map (pat f):=by (rw [List.take_add_one,hx1,Option.toList_some,List.map_append];rfl)
  refine ⟨(i+1:Nat),?_,?_,Wk.mk (fun k=>if k=0 then 2 else k) ?_ ?_ ?_⟩
  ·trivial
  ·omega
  ·exact (b2 (b2 (bc ⟨(congrArg (fun l_=>T.os 1 2 0 (List.map (YP true) l_).length) he2),rfl⟩ (b2 (b2 (b2 bn))))))
  ·exact (bc ⟨(congrArg (fun l_=>some (Obj.rows 1 (List.map (YP true) l_))) he2),(lb Y),rfl⟩ bn)
  ·exact nd Y
 refine VRun.exit (vthn.e (vthn.e (vinB.e (tn (sr (mO (T.os 1 0 0 (((((QI g).take i).map (pat f)).map (YP true)).length)) Y (aO (T.os 1 0 0 (((((QI g).take i).map (pat f)).map (YP true)).length)) Y (nt (rt ?_)))))))))
 refine vfin.eq (r':=(T.sl true 1 ((((QI g).take i).map (pat f)).map (YP true)))) ?_ (vfin.r (VRes.tmp (t:=(T.os 1 0 0 (((((QI g).take i).map (pat f)).map (YP true)).length))) Y VRes.nil) (Give.os Y Y (okStr.cleanMap _)))
 refine congrArg (fun l_=>T.sl true 1 (List.map (YP true) l_)) ?_
 rw [Jf hI' fhc1,Yk,if_pos (by simpa using fhc0)]
end Go.Proofs.YtoaigcojlmoijaaGreat.AE
