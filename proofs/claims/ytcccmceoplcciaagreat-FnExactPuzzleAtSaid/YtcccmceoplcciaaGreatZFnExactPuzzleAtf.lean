/- A part of what the row of FnExactPuzzleAt uses. Conditions: as each theorem states. -/
import Derived.Test.YtcccmceoplcciaaGreatZFnExactPuzzleAte
namespace Go.Proofs.YtcccmceoplcciaaGreat.AE
open Go Go.RowKit
set_option linter.unusedVariables false
set_option linter.unusedSimpArgs false
set_option maxRecDepth 20000
set_option maxHeartbeats 2000000
noncomputable section
theorem Qhr {ok:Nat→Prop} [DecidablePred ok]:∀(f n k:Nat),n≤k→k<QaF ok f n→ok k
 | 0,n,k,h1,h2=>by simp only [QaF] at h2;omega
 | f+1,n,k,h1,h2=>by
  simp only [QaF] at h2
  split at h2
  ·by_cases e:k=n
   ·subst e;assumption
   ·exact Qhr f (n+1) k (by omega) h2
  ·omega
theorem Qk2 {g:D.Grid} {cell k:Nat} {down:Bool} (hg:gridOk g) (hc:cell<g.Cells.size) (hk:k<Qr g cell down):0≤((cell:Nat):Int)+((k:Nat):Int)*(if down=true then g.Cols else 1)∧((cell:Nat):Int)+((k:Nat):Int)*(if down=true then g.Cols else 1)<((g.Cells.size:Nat):Int):=by
 have hB:=hg.2.1
 obtain ⟨_,_,_,h4,h5⟩:=Qcc hg hc
 unfold Qr at hk
 cases down with
 | true =>
  rw [if_pos Y] at hk
  unfold QgU at hk
  split at hk
  ·have h1:=Qhr _ _ k (Nat.zero_le _) hk
   have h2:=h5 k h1.1
   have h3:0≤((k:Nat):Int)*g.Cols:=Int.mul_nonneg (by omega) (by omega)
   rw [if_pos Y]
   omega
  ·omega
 | false =>
  rw [if_neg (by simp)] at hk
  unfold QgN at hk
  split at hk
  ·have h1:=Qhr _ _ k (Nat.zero_le _) hk
   have h2:=h4 k h1.1
   rw [if_neg (by simp),Int.mul_one]
   omega
  ·omega
theorem Qeq (g:D.Grid):∀i,∀s∈(Qi g i).1,∃c:Nat,c<i∧s.Cell=((c:Nat):Int)∧s.Length=((Qr g c s.Down:Nat):Int)
 | 0,s,hs=>by simp [Qi] at hs
 | i+1,s,hs=>by
  rw [YK,List.mem_append,List.mem_append] at hs
  rcases hs with (hs | hs) | hs
  ·obtain ⟨c,h1,h2⟩:=Qeq g i s hs
   exact ⟨c,by omega,h2⟩
  ·split at hs
   ·obtain rfl:=List.mem_singleton.1 hs
    exact ⟨i,by omega,rfl,rfl⟩
   ·cases hs
  ·split at hs
   ·obtain rfl:=List.mem_singleton.1 hs
    exact ⟨i,by omega,rfl,rfl⟩
   ·cases hs
theorem Qg5 {g:D.Grid} {s:D.Slot} {c:Int} (hs:s∈Qc g) (hc:c∈Qm g s s.Length.toNat):0≤c∧c<((g.Cells.size:Nat):Int):=by
 have hg:=(Qa2 hs).1
 unfold Qc at hs
 rw [if_pos hg] at hs
 obtain ⟨c0,h1,h2,h3⟩:=Qeq g _ s hs
 unfold Qm at hc
 obtain ⟨k,hk,rfl⟩:=List.mem_map.1 hc
 rw [List.mem_range] at hk
 have:=Qk2 (down:=s.Down) hg h1 (k:=k) (by omega)
 rw [h2]
 unfold Qfp
 exact this
def Jj (f:ByteArray) (l:List Int):List Int:=l.map fun c=>QA f (Int.toNat c)
theorem QkK {f:ByteArray} {l:List Int} {i:Nat} {c:Int} (h:l[i]? =some c):Jj f (l.take i)++ [QA f (Int.toNat c)]=Jj f (l.take (i+1)):=by
 unfold Jj
 rw [List.take_add_one,h,Option.toList_some,List.map_append];rfl
theorem Qly (f:ByteArray) (l:List Int):(Jj f l).length=l.length:=by simp [Jj]
def pat (f:ByteArray) (l:List Int):ByteArray:=YO (Jj f l)
theorem Qlz {f:ByteArray} {l:List Int} {i:Nat} {c:Int} (h:l[i]? =some c) (h1:0≤c∧c<((f.size:Nat):Int)):pat f (l.take (i+1))=pat f (l.take i)++f.extract (Int.toNat c) (Int.toNat (c+1)):=by
 have hc:Int.toNat c<f.data.toList.length:=by rw [Array.length_toList];show Int.toNat c<f.size;omega
 refine QgV ?_
 unfold pat Jj
 rw [List.take_add_one,h,Option.toList_some,List.map_append,JX,ByteArray.data_append,Array.toList_append,JX,List.map_append]
 congr 1
 rw [ByteArray.data_extract,Array.toList_extract,List.extract_eq_take_drop,show Int.toNat (c+1) - Int.toNat c=1 by omega,List.drop_eq_getElem_cons hc]
 have hb:QA f (Int.toNat c)=((f.data.toList[Int.toNat c]).toNat:Int):=by
  rw [← Jc (show Int.toNat c<f.size by omega)];rfl
 simp [hb]
theorem Qig (f:ByteArray) (l:List Int):(pat f l).size=l.length:=by
 show (pat f l).data.size=_
 rw [← Array.length_toList]
 unfold pat Jj
 rw [JX]
 simp
def Yy (g:D.Grid) (f:ByteArray) (slot:Int):ByteArray:=if 0≤slot then (match (Qc g)[slot.toNat]? with | some s=>if Q8 g f then pat f (Qm g s s.Length.toNat) else ⟨#[]⟩ | none=>⟨#[]⟩) else ⟨#[]⟩
theorem QiW {g:D.Grid} {f:ByteArray} {slot:Int} (h:¬Q8 g f∨¬(0≤slot∧slot≤(((Qc g).length:Nat):Int) - 1)):Yy g f slot=⟨#[]⟩:=by
 unfold Yy
 by_cases h0:0≤slot
 ·rw [if_pos h0]
  cases hs:(Qc g)[slot.toNat]? with
  | none=>rfl
  | some s =>
   have:=(List.getElem?_eq_some_iff.1 hs).1
   simp only
   rw [if_neg]
   rcases h with h | h
   ·exact h
   ·exact absurd ⟨h0,by omega⟩ h
 ·rw [if_neg h0]
theorem QfO {g:D.Grid} {f:ByteArray} {slot:Int} {s:D.Slot} (h0:0≤slot) (hs:(Qc g)[slot.toNat]? =some s) (hf:Q8 g f):Yy g f slot=pat f (Qm g s s.Length.toNat):=by
 unfold Yy
 rw [if_pos h0,hs]
 exact if_pos hf
def Yg (g:D.Grid) (f:ByteArray):List ByteArray:=if Q8 g f then (QO g).map (pat f) else []
theorem Ql9 {g:D.Grid} {f:ByteArray} {i:Nat} {x:ByteArray} (h:(Yg g f)[i]? =some x):x=Yy g f ((i:Nat):Int):=by
 unfold Yg at h
 split at h
 ·rename_i hf
  rw [List.getElem?_map] at h
  obtain ⟨y,h1,rfl⟩:=Option.map_eq_some_iff.1 h
  obtain ⟨s,h2,rfl⟩:=Qf9 h1
  exact (QfO (by omega) h2 hf).symm
 ·simp at h
theorem QgO {g:D.Grid} {f:ByteArray} (h:Q8 g f):(Yg g f).length=(Qc g).length:=by
 unfold Yg
 rw [if_pos h,List.length_map,Qa7]
theorem Qnz {g:D.Grid} {s:D.Slot} {f:ByteArray} {i:Nat} {c:Int} (hf:Q8 g f) (h:(if s∈Qc g then Qm g s s.Length.toNat else [])[i]? =some c):0≤c∧c<((f.size:Nat):Int):=by
 have hm:=List.mem_of_getElem? h
 split at hm
 ·rename_i hs
  have:=Qg5 hs hm
  have:=hf.2.1
  omega
 ·cases hm
end
theorem QcU (n:Nat) (g:D.Grid) (f:ByteArray) (slot:Int) (hc:g.Cells.size≤maxLen) (hf:f.size≤maxLen):Pure (Qs Tryz.prog (n+5)) 92 [(T.agg (Qe false g)),(tS f),(tI slot)] (tS (Yy g f slot)):=by
 refine Pure.intro (rs:= [ResultVar.tmp 6]) Tryz.func92 Y Y Y (E0:= [(0,(T.agg (Qe false g))),(1,(tS f)),(2,(tI slot))]) Y ?_
 obtain ⟨hlim,hmx,hmax⟩:=QG
 have hsl:=Zp g
 refine sr (kO (B.box (ts:=(Qe false g)) (tv (T.agg (Qe false g)) Y) nofun Y) (fO (OF.assign (VEv.str (⟨#[]⟩:ByteArray))) (nt (sr (lO (OL.loadOn (us:=(Qe false g)) (tv (T.op 0 0) Y) Y Q4 QX (lb Y) Y) (cO (OC.callF (r':=(T.os 4 1 0 (((Qc g).map (Qk true)).length))) (objs:= [(Obj.rows 4 ((Qc g).map (Qk true)))]) Y (vc (tv (T.agg (Qe false g)) Y) vn) (LendL.cons (lg Qw) ln) (ZJ (n+1) g (by assumption)) Y) (aO (T.os 4 1 0 (((Qc g).map (Qk true)).length)) Y (nt (sq (sr (lO (OL.loadOn (us:=(Qe false g)) (tv (T.op 0 0) Y) Y Q4 QX (lb Y) Y) ?_)))))))))))
 refine mO (tS f) Y (cO (cS (vc (tv (T.agg (Qe false g)) Y) (vc (tv (tS f) Y) vn)) (LendL.cons (lg Qw) (lp Y ln)) (QaI (n+1) g f (by assumption) (by assumption)) Y Y) (fO (Q1 (tv (tB (decide (Q8 g f))) Y)) (mO (tB (!(decide (Q8 g f)))) Y ?_)))
 refine VRunO.joinB 7 [18,19,20,21,22,23] 24 (tB (decide ((¬(Q8 g f))∨(¬(0≤slot∧slot≤((((Qc g).length:Nat):Int) - 1)))))) ?_ ?_
 ·refine gn (Q8 g f) (fun fhg17_1=> ?_) fun fhg17_1=> ?_
  ·refine QE 6 4 false 17 (ny fhg17_1) Y Y Y ?_
   refine fO (OF.pickT (VEv.tmpB Y (ny fhg17_1)) (VEv.bool true)) (VRunO.nil ?_)
   exact jq (congrArg T.bool (kOT fhg17_1)) (js Y (js Y (js Y (js Y (js Y (js Y (jn)))))))
  ·refine gF (nz fhg17_1) Y Y (OF.move (tv (tI slot) Y)) ?_
   refine gF (nz fhg17_1) Y Y (OF.move (tv (T.os 4 1 0 (((Qc g).map (Qk true)).length)) Y)) (gL (nz fhg17_1) Y Y (B.lenO (m:=(Qc g).length) (tv (T.os 4 1 0 (((Qc g).map (Qk true)).length)) Y) Yh (List.length_map ..)) (gF (nz fhg17_1) Y Y (B.sub (n:=((((Qc g).length:Nat):Int) - 1)) (tv (tN ((Qc g).length)) Y) (VEv.int .i64 1) (by (rw [Qx (by omega)];done))) (VRunO.chain (VWant.on Y Y (nz fhg17_1)) (cS (vc (tv (tI slot) Y) (vc (VEv.int .i64 0) (vc (tv (tI ((((Qc g).length:Nat):Int) - 1)) Y) vn))) (ZO Y) (QT (n+3) slot 0 ((((Qc g).length:Nat):Int) - 1)) Y Y) (gF (nz fhg17_1) Y Y (Q1 (tv (tB (decide (0≤slot∧slot≤((((Qc g).length:Nat):Int) - 1)))) Y)) (fO (OF.pickF (VEv.tmpB Y (nz fhg17_1)) (tv (tB (!(decide (0≤slot∧slot≤((((Qc g).length:Nat):Int) - 1))))) Y)) (VRunO.nil ?_))))))
   exact jq (congrArg T.bool (kOF (not_not_intro fhg17_1) dN)) (js Y (js Y (js Y (js Y (js Y (js Y (jn)))))))
 refine nt ?_
 refine cd ((¬(Q8 g f))∨(¬(0≤slot∧slot≤((((Qc g).length:Nat):Int) - 1)))) Y (fun fhc0=> ?_) fun fhc0=> ?_
 ·refine sr ?_
  refine fO (OF.assign (VEv.str (⟨#[]⟩:ByteArray))) (nt (rt (tr ?_)))
  refine vfin.eq (r':=(tS (⟨#[]⟩:ByteArray))) ?_ (vfin.r (VRes.tmp (t:=(tS (⟨#[]⟩:ByteArray))) Y VRes.nil) (Give.str _))
  refine congrArg T.str ?_
  exact (QiW fhc0).symm
 have hs0:0≤slot∧slot≤(((Qc g).length:Nat):Int) - 1:=Classical.byContradiction fun h=>fhc0 (.inr h)
 have hfi:Q8 g f:=Classical.byContradiction fun h=>fhc0 (.inl h)
 have hsz:=hfi.1.size
 refine sk (tn (sr (fO (OF.assign (VEv.str (⟨#[]⟩:ByteArray))) (nt (sq (VRun.draw (B:= [[],[],[],[2,1],[1,2,3],[3,2,1,4,0],[0,4,1,2,3,5]]) (by kernel_rfl) (by kernel_rfl) (lD (OL.loadOn (us:=(Qe false g)) (tv (T.op 0 0) Y) Y Q4 QX (lb Y) Y) Y Y (mD (T.os 4 1 0 (((Qc g).map (Qk true)).length)) Y Y (mD (tI slot) Y Y ?_)))))))))
 obtain ⟨x1,hx1⟩:∃x,(Qc g)[(Int.toNat slot)]? =some x:=⟨_,List.getElem?_eq_getElem (by omega)⟩
 skip
 refine fD (B.indexAddrO (i:=(Int.toNat slot)) (tv (T.os 4 1 0 (((Qc g).map (Qk true)).length)) Y) (tv (tI slot) Y) (by omega) (by (simp only [List.length_map];omega)) Yh Zt Qbt) Y Y (lD (OL.loadPn (us:=(Qk false x1)) (row:=(Qk true x1)) (tv (T.orp 4 1 (Int.toNat slot) 0) Y) Y (Qt _ hx1) Qdw Zt (lb Y) Y (bc Y (bc Y (bc Y (bc Y bn))))) Y Y (VRunD.quiet (bi:= [3,2,1,4,0]) Y VWant.always Y Y Y bn (OC.callF (r':=(T.os 1 2 0 (((if x1∈Qc g then Qm g x1 x1.Length.toNat else []).map (Qb true)).length))) (objs:= [(Obj.rows 1 ((if x1∈Qc g then Qm g x1 x1.Length.toNat else []).map (Qb true)))]) Y (vc (tv (T.agg (Qe false g)) Y) (vc (tv (T.agg (Qk false x1)) Y) vn)) (LendL.cons (lg Qw) (LendL.cons (lg okeSlot) ln)) (Qac (n+0) g x1 (by assumption)) Y) (fD (OF.assign (tv (T.os 1 2 0 (((if x1∈Qc g then Qm g x1 x1.Length.toNat else []).map (Qb true)).length)) Y)) Y Y (VRunD.nil (tn (sq (sr (fO (OF.assign (VEv.int .i64 0)) (nt (VRun.block ?_))))))))))
 refine VRun.loop (A:=Nat) (fun s_=> [(1,(tS f)),(6,(tS (⟨#[]⟩:ByteArray))),(8,(tS (pat f ((if x1∈Qc g then Qm g x1 x1.Length.toNat else []).take s_)))),(9,(T.os 1 0 0 (((if x1∈Qc g then Qm g x1 x1.Length.toNat else []).map (Qb true)).length))),(10,(tN s_))]) (fun s_=>QY [(0,(Obj.rows 1 ((if x1∈Qc g then Qm g x1 x1.Length.toNat else []).map (Qb true))))]) 1 (fun s_=>s_≤(if x1∈Qc g then Qm g x1 x1.Length.toNat else []).length) (fun s_=>(if x1∈Qc g then Qm g x1 x1.Length.toNat else []).length - s_) (0:Nat) ?_ (Wk.mk (fun k=>if k=0 then 2 else k) ?_ ?_ ?_) ?_
 ·(simp;done)
 ·exact (b2 (b2 (bc ⟨(congrArg T.str (show (⟨#[]⟩:ByteArray)=pat f ((if x1∈Qc g then Qm g x1 x1.Length.toNat else []).take 0) from (by rfl))),rfl⟩ (b2 (b2 bn)))))
 ·exact (b3 bn)
 ·exact nd Y
 rintro i (hI':i≤(if x1∈Qc g then Qm g x1 x1.Length.toNat else []).length)
 show VRun _ _ _ [(1,(tS f)),(6,(tS (⟨#[]⟩:ByteArray))),(8,(tS (pat f ((if x1∈Qc g then Qm g x1 x1.Length.toNat else []).take i)))),(9,(T.os 1 0 0 (((if x1∈Qc g then Qm g x1 x1.Length.toNat else []).map (Qb true)).length))),(10,(tN i))] (QY [(0,(Obj.rows 1 ((if x1∈Qc g then Qm g x1 x1.Length.toNat else []).map (Qb true))))]) 1 _
 have hI1:=hI'
 have hl6:=QhR g x1
 have hps:=Qig f ((if x1∈Qc g then Qm g x1 x1.Length.toNat else []).take i)
 have htl:=Z6 (if x1∈Qc g then Qm g x1 x1.Length.toNat else []) i
 refine sq (sr (mO (tN i) Y (mO (T.os 1 0 0 (((if x1∈Qc g then Qm g x1 x1.Length.toNat else []).map (Qb true)).length)) Y (lO (B.lenO (m:=(if x1∈Qc g then Qm g x1 x1.Length.toNat else []).length) (tv (T.os 1 0 0 (((if x1∈Qc g then Qm g x1 x1.Length.toNat else []).map (Qb true)).length)) Y) Zr (List.length_map ..)) (fO (Zb (tv (tN i) Y) (tv (tN ((if x1∈Qc g then Qm g x1 x1.Length.toNat else []).length)) Y)) (nt ?_))))))
 refine cd (i<(if x1∈Qc g then Qm g x1 x1.Length.toNat else []).length) Y (fun fhc1=> ?_) fun fhc1=> ?_
 ·refine sk ?_
  refine tn (sq (VRun.block (VRun.draw (B:= [[],[],[],[],[3,2],[2,3,4],[],[],[7,6],[6,7,8],[8,7,6,9],[9,6,7,8,10,4,3,2,5,1],[1,5,2,3,4,10,8,7,6,9,11,0],[0,11,9,6,7,8,10,4,3,2,5,1,12]]) (by kernel_rfl) (by kernel_rfl) (mD (tS (pat f ((if x1∈Qc g then Qm g x1 x1.Length.toNat else []).take i))) Y Y (mD (tS f) Y Y (mD (T.os 1 0 0 (((if x1∈Qc g then Qm g x1 x1.Length.toNat else []).map (Qb true)).length)) Y Y (mD (tN i) Y Y ?_)))))))
  obtain ⟨x2,hx2⟩:∃x,(if x1∈Qc g then Qm g x1 x1.Length.toNat else [])[i]? =some x:=⟨_,List.getElem?_eq_getElem (by omega)⟩
  have hcb:=Qnz hfi hx2
  refine fD (B.indexAddrO (i:=i) (tv (T.os 1 0 0 (((if x1∈Qc g then Qm g x1 x1.Length.toNat else []).map (Qb true)).length)) Y) (tv (tN i) Y) Y (by (simp only [List.length_map];omega)) Zr Zd Yo) Y Y (lD (OL.loadP1 (t:=(tI x2)) (row:=(Qb true x2)) (tv (T.orp 1 0 i 0) Y) Y (Qt _ hx2) Y Y QQ) Y Y (mD (T.os 1 0 0 (((if x1∈Qc g then Qm g x1 x1.Length.toNat else []).map (Qb true)).length)) Y Y (mD (tN i) Y Y (fD (B.indexAddrO (i:=i) (tv (T.os 1 0 0 (((if x1∈Qc g then Qm g x1 x1.Length.toNat else []).map (Qb true)).length)) Y) (tv (tN i) Y) Y (by (simp only [List.length_map];omega)) Zr Zd Yo) Y Y (lD (OL.loadP1 (t:=(tI x2)) (row:=(Qb true x2)) (tv (T.orp 1 0 i 0) Y) Y (Qt _ hx2) Y Y QQ) Y Y (fD (B.add (n:=(x2+1)) (tv (tI x2) Y) (VEv.int .i64 1) (by (rw [Qx (by omega)];done))) Y Y (lD (OL.sliceS (i:=(Int.toNat x2)) (j:=(Int.toNat (x2+1))) (tv (tS f) Y) (tv (tI x2) Y) (tv (tI (x2+1)) Y) (by omega) (by omega) (by omega) (by omega) U9) Y Y (fD (B.sadd (tv (tS (pat f ((if x1∈Qc g then Qm g x1 x1.Length.toNat else []).take i))) Y) (tv (tS (f.extract (Int.toNat x2) (Int.toNat (x2+1)))) Y) (by (simp only [ByteArray.size_extract];omega))) Y Y (fD (OF.assign (tv (tS (pat f ((if x1∈Qc g then Qm g x1 x1.Length.toNat else []).take i)++(f.extract (Int.toNat x2) (Int.toNat (x2+1))))) Y)) Y Y (VRunD.nil (vinB.n ?_)))))))))))
  refine tn (VRun.region (mO (tN i) Y (fO (Qy (tv (tN i) Y) (VEv.int .i64 1) (by omega)) (aO (tN (i+1)) Y (VRunO.nil (tn ?_))))))
  refine ⟨(i+1:Nat),?_,?_,Wk.mk (fun k=>k) ?_ ?_ ?_⟩
  ·trivial
  ·omega
  ·exact (b2 (b2 (bc ⟨(congrArg T.str (show (pat f ((if x1∈Qc g then Qm g x1 x1.Length.toNat else []).take i)++(f.extract (Int.toNat x2) (Int.toNat (x2+1))))=pat f ((if x1∈Qc g then Qm g x1 x1.Length.toNat else []).take (i+1)) from (by exact (Qlz hx2 hcb).symm))),rfl⟩ (b2 (b2 bn)))))
  ·exact (b3 bn)
  ·exact nd Y
 refine VRun.exit (vthn.e (vthn.e (vinB.e (tn (sr (mO (tS (pat f ((if x1∈Qc g then Qm g x1 x1.Length.toNat else []).take i))) Y (aO (tS (pat f ((if x1∈Qc g then Qm g x1 x1.Length.toNat else []).take i))) Y (nt (rt ?_)))))))))
 refine vfin.eq (r':=(tS (pat f ((if x1∈Qc g then Qm g x1 x1.Length.toNat else []).take i)))) ?_ (vfin.r (VRes.tmp (t:=(tS (pat f ((if x1∈Qc g then Qm g x1 x1.Length.toNat else []).take i)))) Y VRes.nil) (Give.str _))
 refine congrArg T.str ?_
 rw [QfO hs0.1 hx1 hfi,YD hI1 fhc1,Qhp hx1]
theorem Qef (n:Nat) (f:ByteArray) (l:List Int) (hl:l.length≤64) (hb:∀c∈l,0≤c∧c<((f.size:Nat):Int)):Pure (Qs Tryz.prog (n+1)) 149 [(tS f),(rd 1 Qb l)] (tS (pat f l)):=by
 refine Pure.intro (rs:= [ResultVar.tmp 4]) Tryz.func149 Y Y Y (E0:= [(0,(tS f)),(1,(rd 1 Qb l))]) Y ?_
 obtain ⟨hlim,hmx,hmax⟩:=QG
 refine sr (fO (OF.assign (VEv.str (⟨#[]⟩:ByteArray))) (nt (sr (fO (OF.assign VEv.nils) (nt (sq (sr (mO (rd 1 Qb l) Y (lO (B.lenR (m:=l.length) (tv (rd 1 Qb l) Y) Zr (List.length_map ..)) (fO (OF.move (VEv.int .i64 0)) (nt ?_)))))))))))
 refine VRun.block (VRun.wk (Wk.phantom 5 1 Y) ?_)
 have he1: []=((Jj f (l.take 0)).map (QW true)):=by rfl
 refine VRun.loop (A:=Nat) (fun s_=> [(0,(tS f)),(4,(tS (⟨#[]⟩:ByteArray))),(5,(T.os 1 0 0 (((Jj f (l.take s_)).map (QW true)).length))),(8,(rd 1 Qb l)),(9,(tN l.length)),(10,(tN s_))]) (fun s_=>QY [(0,(Obj.rows 1 ((Jj f (l.take s_)).map (QW true))))]) 1 (fun s_=>s_≤l.length) (fun s_=>l.length - s_) (0:Nat) ?_ (Wk.mk (fun k=>k) ?_ ?_ ?_) ?_
 ·(simp;done)
 ·exact (b2 (b2 (bc ⟨(congrArg (fun n_=>T.os 1 0 0 n_) (show 0=((Jj f (l.take 0)).map (QW true)).length from (by rfl))),rfl⟩ (b2 (b2 (b2 bn))))))
 ·exact (bc ⟨(congrArg (fun l_=>some (Obj.rows 1 l_)) he1),(lb Y),rfl⟩ bn)
 ·exact nd Y
 rintro i (hI':i≤l.length)
 show VRun _ _ _ [(0,(tS f)),(4,(tS (⟨#[]⟩:ByteArray))),(5,(T.os 1 0 0 (((Jj f (l.take i)).map (QW true)).length))),(8,(rd 1 Qb l)),(9,(tN l.length)),(10,(tN i))] (QY [(0,(Obj.rows 1 ((Jj f (l.take i)).map (QW true))))]) 1 _
 have hI1:=hI'
 have htl:=Z6 l i
 have hcl:=Qly f (l.take i)
 refine sr (fO (Zb (tv (tN i) Y) (tv (tN l.length) Y)) (nt (sq ?_)))
 refine cd (i<l.length) Y (fun fhc0=> ?_) fun fhc0=> ?_
 ·refine sk ?_
  refine tn (sq (VRun.block (sr ?_)))
  obtain ⟨x1,hx1⟩:∃x,l[i]? =some x:=⟨_,List.getElem?_eq_getElem (by omega)⟩
  have hbx:=hb _ (List.mem_of_getElem? hx1)
  refine fO (OF.indexAddrR (row:=(Qb false x1)) (i:=i) (tv (rd 1 Qb l) Y) (tv (tN i) Y) Y (Qt _ hx1) Zr Zd Yo) (lO (OL.loadR1 (t:=(tI x1)) (tv (T.rp [(tI x1)]) Y) Y QQ) (aO (tI x1) Y (nt (VRun.region (mO (T.os 1 0 0 (((Jj f (l.take i)).map (QW true)).length)) Y (mO (tS f) Y (mO (tI x1) Y ?_)))))))
  have hb2:(Int.toNat x1)<f.size:=(by omega)
  refine fO (B.index (n:=(QA f (Int.toNat x1))) (i:=(Int.toNat x1)) (tv (tS f) Y) (tv (tI x1) Y) (by omega) hb2 U9 (Jc hb2)) (kO (OM.buildSlice (l:= [(T.int .u8 (QA f (Int.toNat x1)))]) (VEvp.cons (tv (T.int .u8 (QA f (Int.toNat x1))) Y) VEvp.nil) Y (by decide) (bc (nofun) bn) (bc ((bc (Y) bn)) bn) (bc (Y) bn) Qd2 zo5 (by kernel_rfl) Y (by rw [sz5];decide) sz5 (Nat.le_of_ble_eq_true Y)) (cO (B.append (rows:=((Jj f (l.take i)).map (QW true))) (rows2:= [[(T.int .u8 (QA f (Int.toNat x1)))]]) (rows3:=((Jj f (l.take i)++ [QA f (Int.toNat x1)]).map (QW true))) (VDst.own (tv (T.os 1 0 0 (((Jj f (l.take i)).map (QW true)).length)) Y) Y Y) (VSrc.own (tv (T.os 1 1 0 1) Y) Y Y Qd2 (bc (bc Y bn) bn)) (by decide) Qd2 sz5 (by decide) zo5 Y (of_decide_eq_true (by kernel_rfl)) (by (simp only [List.length_map,List.length_append,List.length_cons,List.length_nil,List.length_replicate,List.length_set,List.length_drop,List.length_take,YG] at *;omega)) ((List.map_append (f:=QW true) (l₁:=Jj f (l.take i)) (l₂:= [QA f (Int.toNat x1)])).symm)) (aO (T.os 1 2 0 (((Jj f (l.take i)++ [QA f (Int.toNat x1)]).map (QW true)).length)) Y (VRunO.nil (vinB.n (tn (VRun.region (fO (Qy (tv (tN i) Y) (VEv.int .i64 1) (by omega)) (mO (tN (i+1)) Y (VRunO.nil (tn ?_)))))))))))
  have he3:(Jj f (l.take i)++ [QA f (Int.toNat x1)])=Jj f (l.take (i+1)):=by exact QkK hx1
  refine ⟨(i+1:Nat),?_,?_,Wk.mk (fun k=>if k=0 then 2 else k) ?_ ?_ ?_⟩
  ·trivial
  ·omega
  ·exact (b2 (b2 (bc ⟨(congrArg (fun l_=>T.os 1 2 0 (List.map (QW true) l_).length) he3),rfl⟩ (b2 (b2 (b2 bn))))))
  ·exact (bc ⟨(congrArg (fun l_=>some (Obj.rows 1 (List.map (QW true) l_))) he3),(lb Y),rfl⟩ bn)
  ·exact nd Y
 refine VRun.exit (vthn.e (vthn.e (vinB.e (tn (sr (mO (T.os 1 0 0 (((Jj f (l.take i)).map (QW true)).length)) Y (lO (B.convBS (l:=Jj f (l.take i)) (tv (T.os 1 0 0 (((Jj f (l.take i)).map (QW true)).length)) Y) Y (List.length_map ..) Qd2 U5 U9) (aO (tS (YO (Jj f (l.take i)))) Y (nt (rt ?_))))))))))
 refine vfin.eq (r':=(tS (YO (Jj f (l.take i))))) ?_ (vfin.r (VRes.tmp (t:=(tS (YO (Jj f (l.take i))))) Y VRes.nil) (Give.str _))
 refine congrArg T.str ?_
 rw [YD hI' fhc0];rfl
theorem QeJ (n:Nat) (g:D.Grid) (f:ByteArray) (hc:g.Cells.size≤maxLen) (hf:f.size≤maxLen):Pure (Qs Tryz.prog (n+5)) 122 [(T.agg (Qe false g)),(tS f)] (T.sl true 1 ((Yg g f).map (YJ true))):=by
 refine Pure.intro (rs:= [ResultVar.tmp 4]) Tryz.func122 Y Y Y (E0:= [(0,(T.agg (Qe false g))),(1,(tS f))]) Y ?_
 obtain ⟨hlim,hmx,hmax⟩:=QG
 have hsl:=Zp g
 have hll:=Qa7 g
 refine sr (kO (B.box (ts:=(Qe false g)) (tv (T.agg (Qe false g)) Y) nofun Y) (fO (OF.assign VEv.nils) (nt (sq (sr (lO (OL.loadOn (us:=(Qe false g)) (tv (T.op 0 0) Y) Y Q4 QX (lb Y) Y) (mO (tS f) Y (cO (cS (vc (tv (T.agg (Qe false g)) Y) (vc (tv (tS f) Y) vn)) (LendL.cons (lg Qw) (lp Y ln)) (Qcy (n+1) g f (by assumption) (by assumption)) Y Y) (fO (Q1 (tv (tB (decide (Q8 g f))) Y)) (nt ?_))))))))))
 refine cn (Q8 g f) Y (fun fhc0=> ?_) fun fhc0=> ?_
 ·refine sr ?_
  refine fO (OF.assign VEv.nils) (nt (rt (tr ?_)))
  refine vfin.eq (r':=(T.sl true 1 [])) ?_ (vfin.r (VRes.tmp (t:=T.nils) Y VRes.nil) (Give.nils 1))
  refine congrArg (fun l_=>T.sl true 1 (List.map (YJ true) l_)) (a₁:= []) ?_
  exact (if_neg fhc0).symm
 refine sk (tn (sr (fO (OF.assign VEv.nils) (nt (sq (sr (lO (OL.loadOn (us:=(Qe false g)) (tv (T.op 0 0) Y) Y Q4 QX (lb Y) Y) (cO (OC.callF (r':=(T.os 1 1 0 (((QO g).map ((Jg 1 Qb) true)).length))) (objs:= [(Obj.rows 1 ((QO g).map ((Jg 1 Qb) true)))]) Y (vc (tv (T.agg (Qe false g)) Y) vn) (LendL.cons (lg Qw) ln) (JG (n+0) g (by assumption)) Y) (lO (B.lenO (m:=(QO g).length) (tv (T.os 1 1 0 (((QO g).map ((Jg 1 Qb) true)).length)) Y) Qfg (List.length_map ..)) (fO (OF.move (VEv.int .i64 0)) (nt ?_)))))))))))
 refine VRun.block (VRun.wk (Wk.freeze (sz:=1) (k:=1) (rows':=((QO g).map ((Jg 1 Qb) false))) [13] (bc Y bn) Y Y ((Qlk okInt).fzMap _ _)) (VRun.wk (Wk.phantom 5 1 Y) ?_))
 have he1: []=((((QO g).take 0).map (pat f)).map (YJ true)):=by rfl
 refine VRun.loop (A:=Nat) (fun s_=> [(1,(tS f)),(4,T.nils),(5,(T.os 1 0 0 (((((QO g).take s_).map (pat f)).map (YJ true)).length))),(13,(rd 1 (Jg 1 Qb) (QO g))),(14,(tN ((QO g).length))),(15,(tN s_))]) (fun s_=>QY [(0,(Obj.rows 1 ((((QO g).take s_).map (pat f)).map (YJ true))))]) 1 (fun s_=>s_≤(QO g).length) (fun s_=>(QO g).length - s_) (0:Nat) ?_ (Wk.mk (fun k=>if k=0 then 2 else k) ?_ ?_ ?_) ?_
 ·(simp;done)
 ·exact (b2 (b2 (bc ⟨(congrArg (fun n_=>T.os 1 2 0 n_) (show 0=((((QO g).take 0).map (pat f)).map (YJ true)).length from (by rfl))),rfl⟩ (b2 (b2 (b2 bn))))))
 ·exact (bc ⟨(congrArg (fun l_=>some (Obj.rows 1 l_)) he1),(lb Y),rfl⟩ bn)
 ·exact nd Y
 rintro i (hI':i≤(QO g).length)
 show VRun _ _ _ [(1,(tS f)),(4,T.nils),(5,(T.os 1 0 0 (((((QO g).take i).map (pat f)).map (YJ true)).length))),(13,(rd 1 (Jg 1 Qb) (QO g))),(14,(tN ((QO g).length))),(15,(tN i))] (QY [(0,(Obj.rows 1 ((((QO g).take i).map (pat f)).map (YJ true))))]) 1 _
 have hI1:=hI'
 have htl:=Z6 (QO g) i
 refine sr (fO (Zb (tv (tN i) Y) (tv (tN ((QO g).length)) Y)) (nt (sq ?_)))
 refine cd (i<(QO g).length) Y (fun fhc1=> ?_) fun fhc1=> ?_
 ·refine sk ?_
  refine tn (sq (VRun.block (sr ?_)))
  obtain ⟨x1,hx1⟩:∃x,(QO g)[i]? =some x:=⟨_,List.getElem?_eq_getElem (by omega)⟩
  obtain ⟨y1,hy1,hq1⟩:=Qf9 hx1
  refine fO (OF.indexAddrR (row:=((Jg 1 Qb) false x1)) (i:=i) (tv (rd 1 (Jg 1 Qb) (QO g)) Y) (tv (tN i) Y) Y (Qt _ hx1) Qfg QgB Qi8) (lO (OL.loadR1 (t:=(rd 1 Qb x1)) (tv (T.rp [(rd 1 Qb x1)]) Y) Y QbP) (aO (rd 1 Qb x1) Y (nt (VRun.region (mO (T.os 1 0 0 (((((QO g).take i).map (pat f)).map (YJ true)).length)) Y (mO (tS f) Y (mO (rd 1 Qb x1) Y (cO (cS (vc (tv (tS f) Y) (vc (tv (rd 1 Qb x1) Y) vn)) (ZO Y) (Qef (n+3) f x1 (by (rw [hq1];exact Nat.le_trans (Qcd hy1) (by decide))) (by (rw [hq1];intro c hc;have:=Qg5 (List.mem_of_getElem? hy1) hc;have:=fhc0.2.1;omega))) Y Y) (kO (OM.buildSlice (l:= [(tS (pat f x1))]) (VEvp.cons (tv (tS (pat f x1)) Y) VEvp.nil) Y (by decide) (bc (nofun) bn) (bc ((bc (Y) bn)) bn) (bc (Y) bn) Qmr zo9 (by kernel_rfl) Y (by rw [sz9];decide) sz9 (Nat.le_of_ble_eq_true Y)) (cO (B.append (rows:=((((QO g).take i).map (pat f)).map (YJ true))) (rows2:= [[(tS (pat f x1))]]) (rows3:=((((QO g).take i).map (pat f)++ [pat f x1]).map (YJ true))) (VDst.own (tv (T.os 1 0 0 (((((QO g).take i).map (pat f)).map (YJ true)).length)) Y) Y Y) (VSrc.own (tv (T.os 1 1 0 1) Y) Y Y Qmr (bc (bc Y bn) bn)) (by decide) Qmr sz9 (by decide) zo9 Y (of_decide_eq_true (by kernel_rfl)) (by (simp only [List.length_map,List.length_append,List.length_cons,List.length_nil,List.length_replicate,List.length_set,List.length_drop,List.length_take,YG] at *;omega)) ((List.map_append (f:=YJ true) (l₁:=((QO g).take i).map (pat f)) (l₂:= [pat f x1])).symm)) (aO (T.os 1 2 0 (((((QO g).take i).map (pat f)++ [pat f x1]).map (YJ true)).length)) Y ?_)))))))))))
  refine VRunO.nil (vinB.n (tn (VRun.region (fO (Qy (tv (tN i) Y) (VEv.int .i64 1) (by omega)) (mO (tN (i+1)) Y (VRunO.nil (tn ?_)))))))
  have he2:(((QO g).take i).map (pat f)++ [pat f x1])=((QO g).take (i+1)).map (pat f):=by (rw [List.take_add_one,hx1,Option.toList_some,List.map_append];rfl)
  refine ⟨(i+1:Nat),?_,?_,Wk.mk (fun k=>if k=0 then 2 else k) ?_ ?_ ?_⟩
  ·trivial
  ·omega
  ·exact (b2 (b2 (bc ⟨(congrArg (fun l_=>T.os 1 2 0 (List.map (YJ true) l_).length) he2),rfl⟩ (b2 (b2 (b2 bn))))))
  ·exact (bc ⟨(congrArg (fun l_=>some (Obj.rows 1 (List.map (YJ true) l_))) he2),(lb Y),rfl⟩ bn)
  ·exact nd Y
 refine VRun.exit (vthn.e (vthn.e (vinB.e (tn (sr (mO (T.os 1 0 0 (((((QO g).take i).map (pat f)).map (YJ true)).length)) Y (aO (T.os 1 0 0 (((((QO g).take i).map (pat f)).map (YJ true)).length)) Y (nt (rt ?_)))))))))
 refine vfin.eq (r':=(T.sl true 1 ((((QO g).take i).map (pat f)).map (YJ true)))) ?_ (vfin.r (VRes.tmp (t:=(T.os 1 0 0 (((((QO g).take i).map (pat f)).map (YJ true)).length))) Y VRes.nil) (Give.os Y Y (okStr.cleanMap _)))
 refine congrArg (fun l_=>T.sl true 1 (List.map (YJ true) l_)) ?_
 rw [YD hI' fhc1,Yg,if_pos (by simpa using fhc0)]
noncomputable section
theorem Qbn (n:Int) {m:Int} (h:0<m): -m<n.tmod m∧n.tmod m<m:=⟨Int.lt_tmod_of_pos n h,Int.tmod_lt_of_pos n h⟩
def Ji (n m:Int):Int:=if 1≤m∧m≤1000000000000 then (n.tmod m+m).tmod m else 0
theorem Qhw (n:Int):0≤Ji n 2147483647∧Ji n 2147483647<2147483647:=by
 unfold Ji
 rw [if_pos (by omega)]
 have h1:=Qbn n (m:=2147483647) (by decide)
 have h2:=Qbn (n.tmod 2147483647+2147483647) (m:=2147483647) (by decide)
 exact ⟨Int.tmod_nonneg _ (by omega),h2.2⟩
def Qdi (d x:Int):Int:=(d*1000003+Ji x 2147483647+13).tmod 2147483647
def Za (l:List Int):Int:=l.foldl Qdi 11
theorem Qfn {d x:Int} (h:0≤d∧d<2147483647):0≤Qdi d x∧Qdi d x<2147483647:=by
 have h1:=Qhw x
 unfold Qdi
 exact ⟨Int.tmod_nonneg _ (by omega),(Qbn _ (by decide)).2⟩
theorem Qg6 : ∀(l:List Int) (d:Int),0≤d∧d<2147483647→0≤l.foldl Qdi d∧l.foldl Qdi d<2147483647
 | [],d,h=>h
 | x::r,d,h=>Qg6 r _ (Qfn h)
theorem Qiu (l:List Int):0≤Za l∧Za l<2147483647:=Qg6 l 11 (by decide)
theorem Qfe {l:List Int} {i:Nat} {x:Int} (h:l[i]? =some x):Za (l.take (i+1))=Qdi (Za (l.take i)) x:=by
 unfold Za
 rw [List.take_add_one,h,Option.toList_some,List.foldl_append]
 rfl
theorem Qmi (s:ByteArray) (i:Nat):0≤QA s i∧QA s i<256:=by
 unfold QA
 split
 ·have:=(s[i]).toNat_lt
  omega
 ·decide
theorem QnD {s:ByteArray} {i:Nat} (h:i<s.size):(Z5 s)[i]? =some (QA s i):=by
 unfold Z5
 rw [List.getElem?_map,List.getElem?_eq_getElem (by rw [Array.length_toList];exact h),Option.map_some,← Jc h]
 rfl
theorem QiK {s:ByteArray} {i:Nat} (h:i<s.size):(Z5 s).take i++ [QA s i]=(Z5 s).take (i+1):=by
 rw [List.take_add_one,QnD h];rfl
def JO (salt slot:Int) (w:ByteArray):Int:=if Zw w then Za ([salt,slot,((w.size:Nat):Int)]++Z5 w) else 0
def QfC (seals:List Int) (salt slot:Int) (w:ByteArray):Prop:=0≤slot∧Zw w∧seals[slot.toNat]? =some (JO salt slot w)
instance (seals:List Int) (salt slot:Int) (w:ByteArray):Decidable (QfC seals salt slot w):=Classical.propDecidable _
theorem QjV {seals:List Int} {salt slot x:Int} {w:ByteArray} (h0:0≤slot) (hw:Zw w) (hx:seals[slot.toNat]? =some x):JO salt slot w=x↔QfC seals salt slot w:=by
 unfold QfC
 rw [hx]
 exact ⟨fun h=>⟨h0,hw,by rw [h]⟩,fun h=>(Option.some.inj h.2.2).symm⟩
theorem Qe4 {seals:List Int} {salt slot:Int} {w:ByteArray} (h:QfC seals salt slot w):slot<((seals.length:Nat):Int):=by
 have:=(List.getElem?_eq_some_iff.1 h.2.2).1
 omega
end
theorem Qjb (n:Nat) (n0:Int) (m:Int):Pure (Qs Tryz.prog (n+2)) 193 [(tI n0),(tI m)] (tI (Ji n0 m)):=by
 refine Pure.intro (rs:= [ResultVar.tmp 4]) Tryz.func193 Y Y Y (E0:= [(0,(tI n0)),(1,(tI m))]) Y ?_
 obtain ⟨hlim,hmx,hmax⟩:=QG
 refine sr (fO (OF.assign (VEv.int .i64 0)) (nt (sq (sr (mO (tI m) Y (cO (cS (vc (tv (tI m) Y) (vc (VEv.int .i64 1) (vc (VEv.int .i64 1000000000000) vn))) (ZO Y) (QT (n+0) m 1 1000000000000) Y Y) (fO (Q1 (tv (tB (decide (1≤m∧m≤1000000000000))) Y)) (nt ?_))))))))
 refine cn (1≤m∧m≤1000000000000) Y (fun fhc0=> ?_) fun fhc0=> ?_
 ·refine sr ?_
  refine fO (OF.assign (VEv.int .i64 0)) (nt (rt (tr (vi (n':=0) Y ?_))))
  unfold Ji;rw [if_neg fhc0]
 have hmd:=Qbn n0 (m:=m) (by omega)
 have hmd2:=Qbn (n0.tmod m+m) (m:=m) (by omega)
 refine sk (tn (sr (mO (tI n0) Y (mO (tI m) Y (fO (B.rem (n:=(n0.tmod m)) (tv (tI n0) Y) (tv (tI m) Y) (by omega) (by rfl)) (mO (tI m) Y (fO (B.add (n:=((n0.tmod m)+m)) (tv (tI (n0.tmod m)) Y) (tv (tI m) Y) (by (rw [Qx (by omega)];done))) (mO (tI m) Y (fO (B.rem (n:=(((n0.tmod m)+m).tmod m)) (tv (tI ((n0.tmod m)+m)) Y) (tv (tI m) Y) (by omega) (by rfl)) (aO (tI (((n0.tmod m)+m).tmod m)) Y (nt ?_)))))))))))
 refine rt (vi (n':=(((n0.tmod m)+m).tmod m)) Y ?_)
 unfold Ji;rw [if_pos (by omega)]
theorem QjF (n:Nat) (n0:Int) (m:Int):Pure (Qs Tryz.prog (n+2)) 194 [(tI n0),(tI m)] (tI (Ji n0 m)):=by
 refine Pure.intro (rs:= [ResultVar.tmp 4]) Tryz.func194 Y Y Y (E0:= [(0,(tI n0)),(1,(tI m))]) Y ?_
 obtain ⟨hlim,hmx,hmax⟩:=QG
 refine sr (fO (OF.assign (VEv.int .i64 0)) (nt (sq (sr (mO (tI m) Y (cO (cS (vc (tv (tI m) Y) (vc (VEv.int .i64 1) (vc (VEv.int .i64 1000000000000) vn))) (ZO Y) (Zc (n+0) m 1 1000000000000) Y Y) (fO (Q1 (tv (tB (decide (1≤m∧m≤1000000000000))) Y)) (nt ?_))))))))
 refine cn (1≤m∧m≤1000000000000) Y (fun fhc0=> ?_) fun fhc0=> ?_
 ·refine sr ?_
  refine fO (OF.assign (VEv.int .i64 0)) (nt (rt (tr (vi (n':=0) Y ?_))))
  unfold Ji;rw [if_neg fhc0]
 have hmd:=Qbn n0 (m:=m) (by omega)
 have hmd2:=Qbn (n0.tmod m+m) (m:=m) (by omega)
 refine sk (tn (sr (mO (tI n0) Y (mO (tI m) Y (fO (B.rem (n:=(n0.tmod m)) (tv (tI n0) Y) (tv (tI m) Y) (by omega) (by rfl)) (mO (tI m) Y (fO (B.add (n:=((n0.tmod m)+m)) (tv (tI (n0.tmod m)) Y) (tv (tI m) Y) (by (rw [Qx (by omega)];done))) (mO (tI m) Y (fO (B.rem (n:=(((n0.tmod m)+m).tmod m)) (tv (tI ((n0.tmod m)+m)) Y) (tv (tI m) Y) (by omega) (by rfl)) (aO (tI (((n0.tmod m)+m).tmod m)) Y (nt ?_)))))))))))
 refine rt (vi (n':=(((n0.tmod m)+m).tmod m)) Y ?_)
 unfold Ji;rw [if_pos (by omega)]
theorem Qh9 (n:Nat) (l:List Int) (hl:l.length≤YG):Pure (Qs Tryz.prog (n+3)) 176 [(rd 1 Qb l)] (tI (Za l)):=by
 refine Pure.intro (rs:= [ResultVar.tmp 2]) Tryz.func176 Y Y Y (E0:= [(0,(rd 1 Qb l))]) Y ?_
 obtain ⟨hlim,hmx,hmax⟩:=QG
 refine sr (fO (OF.assign (VEv.int .i64 0)) (nt (sr (fO (OF.assign (VEv.int .i64 11)) (nt (sq (sr (fO (OF.assign (VEv.int .i64 0)) (nt (VRun.block ?_))))))))))
 refine VRun.loop (A:=Nat) (fun s_=> [(0,(rd 1 Qb l)),(2,(tN 0)),(3,(tI (Za (l.take s_)))),(4,(tN s_))]) (fun s_=>QY []) 0 (fun s_=>s_≤l.length) (fun s_=>l.length - s_) (0:Nat) ?_ (Wk.mk (fun k=>k) ?_ ?_ ?_) ?_
 ·(simp;done)
 ·exact (b2 (b2 (bc ⟨(congrArg (T.int .i64) (show 11=Za (l.take 0) from (by rfl))),rfl⟩ (b2 bn))))
 ·exact bn
 ·exact nd Y
 rintro i (hI':i≤l.length)
 show VRun _ _ _ [(0,(rd 1 Qb l)),(2,(tN 0)),(3,(tI (Za (l.take i)))),(4,(tN i))] (QY []) 0 _
 have hhb:=Qiu (l.take i)
 refine sq (sr (mO (tN i) Y (mO (rd 1 Qb l) Y (lO (B.lenR (m:=l.length) (tv (rd 1 Qb l) Y) Zr (List.length_map ..)) (fO (Zb (tv (tN i) Y) (tv (tN l.length) Y)) (nt ?_))))))
 refine cd (i<l.length) Y (fun fhc0=> ?_) fun fhc0=> ?_
 ·refine sk ?_
  refine tn (sq (VRun.block (VRun.region (mO (tI (Za (l.take i))) Y (fO (B.mul (n:=(Za (l.take i)*1000003)) (tv (tI (Za (l.take i))) Y) (VEv.int .i64 1000003) (by (rw [Qx (by omega)];done))) (mO (rd 1 Qb l) Y (mO (tN i) Y ?_)))))))
  obtain ⟨x1,hx1⟩:∃x,l[i]? =some x:=⟨_,List.getElem?_eq_getElem (by omega)⟩
  have hmz:=Qhw x1
  have hhs:=Qfn (x:=x1) hhb
  have hhs2:Qdi (Za (l.take i)) x1=(Za (l.take i)*1000003+Ji x1 2147483647+13).tmod 2147483647:=rfl
  refine fO (OF.indexAddrR (row:=(Qb false x1)) (i:=i) (tv (rd 1 Qb l) Y) (tv (tN i) Y) Y (Qt _ hx1) Zr Zd Yo) (lO (OL.loadR1 (t:=(tI x1)) (tv (T.rp [(tI x1)]) Y) Y QQ) (cO (cS (vc (tv (tI x1) Y) (vc (VEv.int .i64 2147483647) vn)) (ZO Y) (Qjb (n+0) x1 2147483647) Y Y) (fO (B.add (n:=((Za (l.take i)*1000003)+Ji x1 2147483647)) (tv (tI (Za (l.take i)*1000003)) Y) (tv (tI (Ji x1 2147483647)) Y) (by (rw [Qx (by omega)];done))) (fO (B.add (n:=(((Za (l.take i)*1000003)+Ji x1 2147483647)+13)) (tv (tI ((Za (l.take i)*1000003)+Ji x1 2147483647)) Y) (VEv.int .i64 13) (by (rw [Qx (by omega)];done))) (fO (B.rem (n:=((((Za (l.take i)*1000003)+Ji x1 2147483647)+13).tmod 2147483647)) (tv (tI (((Za (l.take i)*1000003)+Ji x1 2147483647)+13)) Y) (VEv.int .i64 2147483647) (by omega) (by rfl)) (aO (tI ((((Za (l.take i)*1000003)+Ji x1 2147483647)+13).tmod 2147483647)) Y (VRunO.nil (vinB.n (tn (VRun.region (mO (tN i) Y ?_)))))))))))
  refine fO (Qy (tv (tN i) Y) (VEv.int .i64 1) (by omega)) (aO (tN (i+1)) Y (VRunO.nil (tn ?_)))
  refine ⟨(i+1:Nat),?_,?_,Wk.mk (fun k=>k) ?_ ?_ ?_⟩
  ·trivial
  ·omega
  ·exact (b2 (b2 (bc ⟨(congrArg (T.int .i64) (show ((((Za (l.take i)*1000003)+Ji x1 2147483647)+13).tmod 2147483647)=Za (l.take (i+1)) from (by exact (Qfe hx1).symm))),rfl⟩ (b2 bn))))
  ·exact bn
  ·exact nd Y
 refine VRun.exit (vthn.e (vthn.e (vinB.e (tn (sr (mO (tI (Za (l.take i))) Y (aO (tI (Za (l.take i))) Y (nt (rt (vi (n':=Za (l.take i)) Y ?_))))))))))
 rw [YD hI' fhc0]
theorem Qin (n:Nat) (l:List Int) (hl:l.length≤YG):Pure (Qs Tryz.prog (n+3)) 179 [(rd 1 Qb l)] (tI (Za l)):=by
 refine Pure.intro (rs:= [ResultVar.tmp 2]) Tryz.func179 Y Y Y (E0:= [(0,(rd 1 Qb l))]) Y ?_
 obtain ⟨hlim,hmx,hmax⟩:=QG
 refine sr (fO (OF.assign (VEv.int .i64 0)) (nt (sr (fO (OF.assign (VEv.int .i64 11)) (nt (sq (sr (mO (rd 1 Qb l) Y (lO (B.lenR (m:=l.length) (tv (rd 1 Qb l) Y) Zr (List.length_map ..)) (fO (OF.move (VEv.int .i64 0)) (nt ?_)))))))))))
 refine VRun.block ?_
 refine VRun.loop (A:=Nat) (fun s_=> [(2,(tN 0)),(3,(tI (Za (l.take s_)))),(6,(rd 1 Qb l)),(7,(tN l.length)),(8,(tN s_))]) (fun s_=>QY []) 0 (fun s_=>s_≤l.length) (fun s_=>l.length - s_) (0:Nat) ?_ (Wk.mk (fun k=>k) ?_ ?_ ?_) ?_
 ·(simp;done)
 ·exact (b2 (bc ⟨(congrArg (T.int .i64) (show 11=Za (l.take 0) from (by rfl))),rfl⟩ (b2 (b2 (b2 bn)))))
 ·exact bn
 ·exact nd Y
 rintro i (hI':i≤l.length)
 show VRun _ _ _ [(2,(tN 0)),(3,(tI (Za (l.take i)))),(6,(rd 1 Qb l)),(7,(tN l.length)),(8,(tN i))] (QY []) 0 _
 have hhb:=Qiu (l.take i)
 refine sr (fO (Zb (tv (tN i) Y) (tv (tN l.length) Y)) (nt (sq ?_)))
 refine cd (i<l.length) Y (fun fhc0=> ?_) fun fhc0=> ?_
 ·refine sk ?_
  refine tn (sq (VRun.block (sr ?_)))
  obtain ⟨x1,hx1⟩:∃x,l[i]? =some x:=⟨_,List.getElem?_eq_getElem (by omega)⟩
  have hmz:=Qhw x1
  have hhs:=Qfn (x:=x1) hhb
  have hhs2:Qdi (Za (l.take i)) x1=(Za (l.take i)*1000003+Ji x1 2147483647+13).tmod 2147483647:=rfl
  refine fO (OF.indexAddrR (row:=(Qb false x1)) (i:=i) (tv (rd 1 Qb l) Y) (tv (tN i) Y) Y (Qt _ hx1) Zr Zd Yo) (lO (OL.loadR1 (t:=(tI x1)) (tv (T.rp [(tI x1)]) Y) Y QQ) (aO (tI x1) Y (nt (VRun.region (mO (tI (Za (l.take i))) Y (fO (B.mul (n:=(Za (l.take i)*1000003)) (tv (tI (Za (l.take i))) Y) (VEv.int .i64 1000003) (by (rw [Qx (by omega)];done))) (mO (tI x1) Y (cO (cS (vc (tv (tI x1) Y) (vc (VEv.int .i64 2147483647) vn)) (ZO Y) (QjF (n+0) x1 2147483647) Y Y) (fO (B.add (n:=((Za (l.take i)*1000003)+Ji x1 2147483647)) (tv (tI (Za (l.take i)*1000003)) Y) (tv (tI (Ji x1 2147483647)) Y) (by (rw [Qx (by omega)];done))) (fO (B.add (n:=(((Za (l.take i)*1000003)+Ji x1 2147483647)+13)) (tv (tI ((Za (l.take i)*1000003)+Ji x1 2147483647)) Y) (VEv.int .i64 13) (by (rw [Qx (by omega)];done))) (fO (B.rem (n:=((((Za (l.take i)*1000003)+Ji x1 2147483647)+13).tmod 2147483647)) (tv (tI (((Za (l.take i)*1000003)+Ji x1 2147483647)+13)) Y) (VEv.int .i64 2147483647) (by omega) (by rfl)) ?_)))))))))))
  refine aO (tI ((((Za (l.take i)*1000003)+Ji x1 2147483647)+13).tmod 2147483647)) Y (VRunO.nil (vinB.n (tn (VRun.region (fO (Qy (tv (tN i) Y) (VEv.int .i64 1) (by omega)) (mO (tN (i+1)) Y (VRunO.nil (tn ?_))))))))
  refine ⟨(i+1:Nat),?_,?_,Wk.mk (fun k=>k) ?_ ?_ ?_⟩
  ·trivial
  ·omega
  ·exact (b2 (bc ⟨(congrArg (T.int .i64) (show ((((Za (l.take i)*1000003)+Ji x1 2147483647)+13).tmod 2147483647)=Za (l.take (i+1)) from (by exact (Qfe hx1).symm))),rfl⟩ (b2 (b2 (b2 bn)))))
  ·exact bn
  ·exact nd Y
 refine VRun.exit (vthn.e (vthn.e (vinB.e (tn (sr (mO (tI (Za (l.take i))) Y (aO (tI (Za (l.take i))) Y (nt (rt (vi (n':=Za (l.take i)) Y ?_))))))))))
 rw [YD hI' fhc0]
theorem QdO (n:Nat) (s:ByteArray) (hs:s.size≤YG):Pure (Qs Tryz.prog (n+1)) 177 [(tS s)] (T.sl true 1 ((Z5 s).map (Qb true))):=by
 refine Pure.intro (rs:= [ResultVar.tmp 2]) Tryz.func177 Y Y Y (E0:= [(0,(tS s))]) Y ?_
 obtain ⟨hlim,hmx,hmax⟩:=QG
 have hbl:=Qca s
 refine sr (fO (OF.assign VEv.nils) (nt (sr (kO (OM.slice0 Zr JW (by kernel_rfl) Y (by rw [Zd];decide) Zd) (aO (T.os 1 0 0 0) Y (nt (sq (sr (fO (OF.assign (VEv.int .i64 0)) (nt (VRun.block ?_)))))))))))
 have he1: []=(((Z5 s).take 0).map (Qb true)):=by rfl
 refine VRun.loop (A:=Nat) (fun s_=> [(0,(tS s)),(2,T.nils),(3,(T.os 1 0 0 ((((Z5 s).take s_).map (Qb true)).length))),(4,(tN s_))]) (fun s_=>QY [(0,(Obj.rows 1 (((Z5 s).take s_).map (Qb true))))]) 1 (fun s_=>s_≤s.size) (fun s_=>s.size - s_) (0:Nat) ?_ (Wk.mk (fun k=>k) ?_ ?_ ?_) ?_
 ·(simp;done)
 ·exact (b2 (b2 (bc ⟨(congrArg (fun n_=>T.os 1 0 0 n_) (show 0=(((Z5 s).take 0).map (Qb true)).length from (by rfl))),rfl⟩ (b2 bn))))
 ·exact (bc ⟨(congrArg (fun l_=>some (Obj.rows 1 l_)) he1),(lb Y),rfl⟩ bn)
 ·exact nd Y
 rintro i (hI':i≤s.size)
 show VRun _ _ _ [(0,(tS s)),(2,T.nils),(3,(T.os 1 0 0 ((((Z5 s).take i).map (Qb true)).length))),(4,(tN i))] (QY [(0,(Obj.rows 1 (((Z5 s).take i).map (Qb true))))]) 1 _
 have htl:=Z6 (Z5 s) i
 have hbb:=Qmi s i
 refine sq (sr (mO (tN i) Y (mO (tS s) Y (lO (B.lenS (tv (tS s) Y) U9) (fO (Zb (tv (tN i) Y) (tv (tN s.size) Y)) (nt ?_))))))
 refine cd (i<s.size) Y (fun fhc0=> ?_) fun fhc0=> ?_
 ·refine sk ?_
  refine tn (sq (VRun.block (VRun.region (mO (T.os 1 0 0 ((((Z5 s).take i).map (Qb true)).length)) Y (mO (tS s) Y (mO (tN i) Y ?_))))))
  have hb2:i<s.size:=(by omega)
  refine fO (xix (tv (tS s) Y) (tv (tN i) Y) hb2 U9) (fO (xcv (m:=(QA s i)) (tv (T.int .u8 (QA s i)) Y) U5 U3 (Qx (by omega))) (kO (OM.buildSlice (l:= [(tI (QA s i))]) (VEvp.cons (tv (tI (QA s i)) Y) VEvp.nil) Y (by decide) (bc (nofun) bn) (bc ((bc (Y) bn)) bn) (bc (Y) bn) Zr JW (by kernel_rfl) Y (by rw [Zd];decide) Zd (Nat.le_of_ble_eq_true Y)) (cO (B.append (rows:=(((Z5 s).take i).map (Qb true))) (rows2:= [[(tI (QA s i))]]) (rows3:=(((Z5 s).take i++ [QA s i]).map (Qb true))) (VDst.own (tv (T.os 1 0 0 ((((Z5 s).take i).map (Qb true)).length)) Y) Y Y) (VSrc.own (tv (T.os 1 1 0 1) Y) Y Y Zr (bc (bc Y bn) bn)) (by decide) Zr Zd (by decide) JW Y (of_decide_eq_true (by kernel_rfl)) (by (simp only [List.length_map,List.length_append,List.length_cons,List.length_nil,List.length_replicate,List.length_set,List.length_drop,List.length_take,YG] at *;omega)) ((List.map_append (f:=Qb true) (l₁:=(Z5 s).take i) (l₂:= [QA s i])).symm)) (aO (T.os 1 2 0 ((((Z5 s).take i++ [QA s i]).map (Qb true)).length)) Y (VRunO.nil (vinB.n (tn (VRun.region (mO (tN i) Y (fO (Qy (tv (tN i) Y) (VEv.int .i64 1) (by omega)) (aO (tN (i+1)) Y ?_)))))))))))
  refine VRunO.nil (tn ?_)
  have he3:((Z5 s).take i++ [QA s i])=(Z5 s).take (i+1):=by exact QiK fhc0
  refine ⟨(i+1:Nat),?_,?_,Wk.mk (fun k=>if k=0 then 2 else k) ?_ ?_ ?_⟩
  ·trivial
  ·omega
  ·exact (b2 (b2 (bc ⟨(congrArg (fun l_=>T.os 1 2 0 (List.map (Qb true) l_).length) he3),rfl⟩ (b2 bn))))
  ·exact (bc ⟨(congrArg (fun l_=>some (Obj.rows 1 (List.map (Qb true) l_))) he3),(lb Y),rfl⟩ bn)
  ·exact nd Y
 refine VRun.exit (vthn.e (vthn.e (vinB.e (tn (sr (mO (T.os 1 0 0 ((((Z5 s).take i).map (Qb true)).length)) Y (aO (T.os 1 0 0 ((((Z5 s).take i).map (Qb true)).length)) Y (nt (rt ?_)))))))))
 refine vfin.eq (r':=(T.sl true 1 (((Z5 s).take i).map (Qb true)))) ?_ (vfin.r (VRes.tmp (t:=(T.os 1 0 0 ((((Z5 s).take i).map (Qb true)).length))) Y VRes.nil) (Give.os Y Y (okInt.cleanMap _)))
 refine congrArg (fun l_=>T.sl true 1 (List.map (Qb true) l_)) ?_
 rw [YD (by omega) (by omega)]
theorem Qd7 (n:Nat) (s:ByteArray) (hs:s.size≤YG):Pure (Qs Tryz.prog (n+1)) 180 [(tS s)] (T.sl true 1 ((Z5 s).map (Qb true))):=by
 refine Pure.intro (rs:= [ResultVar.tmp 2]) Tryz.func180 Y Y Y (E0:= [(0,(tS s))]) Y ?_
 obtain ⟨hlim,hmx,hmax⟩:=QG
 have hbl:=Qca s
 refine sr (fO (OF.assign VEv.nils) (nt (sr (fO (OF.assign VEv.nils) (nt (sq (sr (mO (tS s) Y (lO (B.lenS (tv (tS s) Y) U9) (fO (OF.move (VEv.int .i64 0)) (nt ?_)))))))))))
 refine VRun.block (VRun.wk (Wk.phantom 3 1 Y) ?_)
 have he1: []=(((Z5 s).take 0).map (Qb true)):=by rfl
 refine VRun.loop (A:=Nat) (fun s_=> [(0,(tS s)),(2,T.nils),(3,(T.os 1 0 0 ((((Z5 s).take s_).map (Qb true)).length))),(6,(tN s.size)),(7,(tN s_))]) (fun s_=>QY [(0,(Obj.rows 1 (((Z5 s).take s_).map (Qb true))))]) 1 (fun s_=>s_≤s.size) (fun s_=>s.size - s_) (0:Nat) ?_ (Wk.mk (fun k=>k) ?_ ?_ ?_) ?_
 ·(simp;done)
 ·exact (b2 (b2 (bc ⟨(congrArg (fun n_=>T.os 1 0 0 n_) (show 0=(((Z5 s).take 0).map (Qb true)).length from (by rfl))),rfl⟩ (b2 (b2 bn)))))
 ·exact (bc ⟨(congrArg (fun l_=>some (Obj.rows 1 l_)) he1),(lb Y),rfl⟩ bn)
 ·exact nd Y
 rintro i (hI':i≤s.size)
 show VRun _ _ _ [(0,(tS s)),(2,T.nils),(3,(T.os 1 0 0 ((((Z5 s).take i).map (Qb true)).length))),(6,(tN s.size)),(7,(tN i))] (QY [(0,(Obj.rows 1 (((Z5 s).take i).map (Qb true))))]) 1 _
 have htl:=Z6 (Z5 s) i
 have hbb:=Qmi s i
 refine sr (fO (Zb (tv (tN i) Y) (tv (tN s.size) Y)) (nt (sq ?_)))
 refine cd (i<s.size) Y (fun fhc0=> ?_) fun fhc0=> ?_
 ·refine sk ?_
  refine tn (sq (VRun.block (sr (mO (tN i) Y (aO (tN i) Y (nt (VRun.region (mO (T.os 1 0 0 ((((Z5 s).take i).map (Qb true)).length)) Y (mO (tS s) Y (mO (tN i) Y ?_))))))))))
  have hb2:i<s.size:=(by omega)
  refine fO (xix (tv (tS s) Y) (tv (tN i) Y) hb2 U9) (fO (xcv (m:=(QA s i)) (tv (T.int .u8 (QA s i)) Y) U5 U3 (Qx (by omega))) (kO (OM.buildSlice (l:= [(tI (QA s i))]) (VEvp.cons (tv (tI (QA s i)) Y) VEvp.nil) Y (by decide) (bc (nofun) bn) (bc ((bc (Y) bn)) bn) (bc (Y) bn) Zr JW (by kernel_rfl) Y (by rw [Zd];decide) Zd (Nat.le_of_ble_eq_true Y)) (cO (B.append (rows:=(((Z5 s).take i).map (Qb true))) (rows2:= [[(tI (QA s i))]]) (rows3:=(((Z5 s).take i++ [QA s i]).map (Qb true))) (VDst.own (tv (T.os 1 0 0 ((((Z5 s).take i).map (Qb true)).length)) Y) Y Y) (VSrc.own (tv (T.os 1 1 0 1) Y) Y Y Zr (bc (bc Y bn) bn)) (by decide) Zr Zd (by decide) JW Y (of_decide_eq_true (by kernel_rfl)) (by (simp only [List.length_map,List.length_append,List.length_cons,List.length_nil,List.length_replicate,List.length_set,List.length_drop,List.length_take,YG] at *;omega)) ((List.map_append (f:=Qb true) (l₁:=(Z5 s).take i) (l₂:= [QA s i])).symm)) (aO (T.os 1 2 0 ((((Z5 s).take i++ [QA s i]).map (Qb true)).length)) Y (VRunO.nil (vinB.n (tn (VRun.region (fO (Qy (tv (tN i) Y) (VEv.int .i64 1) (by omega)) (mO (tN (i+1)) Y (VRunO.nil ?_)))))))))))
  refine tn ?_
  have he3:((Z5 s).take i++ [QA s i])=(Z5 s).take (i+1):=by exact QiK fhc0
  refine ⟨(i+1:Nat),?_,?_,Wk.mk (fun k=>if k=0 then 2 else k) ?_ ?_ ?_⟩
  ·trivial
  ·omega
  ·exact (b2 (b2 (bc ⟨(congrArg (fun l_=>T.os 1 2 0 (List.map (Qb true) l_).length) he3),rfl⟩ (b2 (b2 bn)))))
  ·exact (bc ⟨(congrArg (fun l_=>some (Obj.rows 1 (List.map (Qb true) l_))) he3),(lb Y),rfl⟩ bn)
  ·exact nd Y
 refine VRun.exit (vthn.e (vthn.e (vinB.e (tn (sr (mO (T.os 1 0 0 ((((Z5 s).take i).map (Qb true)).length)) Y (aO (T.os 1 0 0 ((((Z5 s).take i).map (Qb true)).length)) Y (nt (rt ?_)))))))))
 refine vfin.eq (r':=(T.sl true 1 (((Z5 s).take i).map (Qb true)))) ?_ (vfin.r (VRes.tmp (t:=(T.os 1 0 0 ((((Z5 s).take i).map (Qb true)).length))) Y VRes.nil) (Give.os Y Y (okInt.cleanMap _)))
 refine congrArg (fun l_=>T.sl true 1 (List.map (Qb true) l_)) ?_
 rw [YD (by omega) (by omega)]
theorem Qda (n:Nat) (salt:Int) (slot:Int) (w:ByteArray) (hw:w.size≤maxLen):Pure (Qs Tryz.prog (n+4)) 147 [(tI salt),(tI slot),(tS w)] (tI (JO salt slot w)):=by
 refine Pure.intro (rs:= [ResultVar.tmp 6]) Tryz.func147 Y Y Y (E0:= [(0,(tI salt)),(1,(tI slot)),(2,(tS w))]) Y ?_
 obtain ⟨hlim,hmx,hmax⟩:=QG
 have hbl:=Qca w
 refine sr (fO (OF.assign (VEv.int .i64 0)) (nt (sq (sr (mO (tS w) Y (cO (cS (vc (tv (tS w) Y) vn) (ZO Y) (QaN (n+1) w (by assumption)) Y Y) (fO (Q1 (tv (tB (decide (Zw w))) Y)) (nt ?_))))))))
 refine cn (Zw w) Y (fun fhc0=> ?_) fun fhc0=> ?_
 ·refine sr ?_
  refine fO (OF.assign (VEv.int .i64 0)) (nt (rt (tr (vi (n':=0) Y ?_))))
  unfold JO;rw [if_neg fhc0]
 have hw8:=fhc0.1.2
 refine sk (tn (sr (mO (tI salt) Y (mO (tI slot) Y (mO (tS w) Y (lO (B.lenS (tv (tS w) Y) U9) (kO (OM.buildSlice (l:= [(tI salt),(tI slot),(tN w.size)]) (VEvp.cons (tv (tI salt) Y) (VEvp.cons (tv (tI slot) Y) (VEvp.cons (tv (tN w.size) Y) VEvp.nil))) Y (by decide) (bc (nofun) (bc (nofun) (bc (nofun) bn))) (bc ((bc (Y) bn)) (bc ((bc (Y) bn)) (bc ((bc (Y) bn)) bn))) (bc (Y) (bc (Y) (bc (Y) bn))) Zr JW (by kernel_rfl) Y (by rw [Zd];decide) Zd (Nat.le_of_ble_eq_true Y)) (mO (tS w) Y (cO (OC.callF (r':=(T.os 1 1 0 (((Z5 w).map (Qb true)).length))) (objs:= [(Obj.rows 1 ((Z5 w).map (Qb true)))]) Y (vc (tv (tS w) Y) vn) (ZO Y) (QdO (n+2) w (by omega)) Y) (cO (B.append (rows:= [[(tI salt)],[(tI slot)],[(tN w.size)]]) (rows2:=((Z5 w).map (Qb true))) (rows3:=(([salt,slot,((w.size:Nat):Int)]++Z5 w).map (Qb true))) (VDst.own (tv (T.os 1 0 0 3) Y) Y Y) (VSrc.own (tv (T.os 1 1 0 (((Z5 w).map (Qb true)).length)) Y) Y Y Zr (okInt.okMap _ _)) (by decide) Zr Zd (by decide) JW Y (of_decide_eq_true (by kernel_rfl)) (by (simp only [List.length_append,List.length_cons,List.length_nil,List.length_map];omega)) ((List.map_append (f:=Qb true) (l₁:= [salt,slot,((w.size:Nat):Int)]) (l₂:=Z5 w)).symm)) (cO (cS (us:= [(rd 1 Qb ([salt,slot,((w.size:Nat):Int)]++Z5 w))]) (vc (tv (T.os 1 2 0 ((([salt,slot,((w.size:Nat):Int)]++Z5 w).map (Qb true)).length)) Y) vn) (LendL.cons (Lend.os Y Y (okInt.fzMap _ _)) ln) (Qh9 (n+0) ([salt,slot,((w.size:Nat):Int)]++Z5 w) (by (simp only [List.length_append,List.length_cons,List.length_nil,List.length_map];omega))) Y Y) ?_)))))))))))
 refine aO (tI (Za ([salt,slot,((w.size:Nat):Int)]++Z5 w))) Y (nt (rt (vi (n':=Za ([salt,slot,((w.size:Nat):Int)]++Z5 w)) Y ?_)))
 unfold JO;rw [if_pos fhc0]
theorem QdJ (n:Nat) (salt:Int) (slot:Int) (w:ByteArray) (hw:w.size≤maxLen):Pure (Qs Tryz.prog (n+4)) 151 [(tI salt),(tI slot),(tS w)] (tI (JO salt slot w)):=by
 refine Pure.intro (rs:= [ResultVar.tmp 6]) Tryz.func151 Y Y Y (E0:= [(0,(tI salt)),(1,(tI slot)),(2,(tS w))]) Y ?_
 obtain ⟨hlim,hmx,hmax⟩:=QG
 have hbl:=Qca w
 refine sr (fO (OF.assign (VEv.int .i64 0)) (nt (sq (sr (mO (tS w) Y (cO (cS (vc (tv (tS w) Y) vn) (ZO Y) (QaM (n+1) w (by assumption)) Y Y) (fO (Q1 (tv (tB (decide (Zw w))) Y)) (nt ?_))))))))
 refine cn (Zw w) Y (fun fhc0=> ?_) fun fhc0=> ?_
 ·refine sr ?_
  refine fO (OF.assign (VEv.int .i64 0)) (nt (rt (tr (vi (n':=0) Y ?_))))
  unfold JO;rw [if_neg fhc0]
 have hw8:=fhc0.1.2
 refine sk (tn (sr (mO (tI salt) Y (mO (tI slot) Y (mO (tS w) Y (lO (B.lenS (tv (tS w) Y) U9) (kO (OM.buildSlice (l:= [(tI salt),(tI slot),(tN w.size)]) (VEvp.cons (tv (tI salt) Y) (VEvp.cons (tv (tI slot) Y) (VEvp.cons (tv (tN w.size) Y) VEvp.nil))) Y (by decide) (bc (nofun) (bc (nofun) (bc (nofun) bn))) (bc ((bc (Y) bn)) (bc ((bc (Y) bn)) (bc ((bc (Y) bn)) bn))) (bc (Y) (bc (Y) (bc (Y) bn))) Zr JW (by kernel_rfl) Y (by rw [Zd];decide) Zd (Nat.le_of_ble_eq_true Y)) (mO (tS w) Y (cO (OC.callF (r':=(T.os 1 1 0 (((Z5 w).map (Qb true)).length))) (objs:= [(Obj.rows 1 ((Z5 w).map (Qb true)))]) Y (vc (tv (tS w) Y) vn) (ZO Y) (Qd7 (n+2) w (by omega)) Y) (cO (B.append (rows:= [[(tI salt)],[(tI slot)],[(tN w.size)]]) (rows2:=((Z5 w).map (Qb true))) (rows3:=(([salt,slot,((w.size:Nat):Int)]++Z5 w).map (Qb true))) (VDst.own (tv (T.os 1 0 0 3) Y) Y Y) (VSrc.own (tv (T.os 1 1 0 (((Z5 w).map (Qb true)).length)) Y) Y Y Zr (okInt.okMap _ _)) (by decide) Zr Zd (by decide) JW Y (of_decide_eq_true (by kernel_rfl)) (by (simp only [List.length_append,List.length_cons,List.length_nil,List.length_map];omega)) ((List.map_append (f:=Qb true) (l₁:= [salt,slot,((w.size:Nat):Int)]) (l₂:=Z5 w)).symm)) (cO (cS (us:= [(rd 1 Qb ([salt,slot,((w.size:Nat):Int)]++Z5 w))]) (vc (tv (T.os 1 2 0 ((([salt,slot,((w.size:Nat):Int)]++Z5 w).map (Qb true)).length)) Y) vn) (LendL.cons (Lend.os Y Y (okInt.fzMap _ _)) ln) (Qin (n+0) ([salt,slot,((w.size:Nat):Int)]++Z5 w) (by (simp only [List.length_append,List.length_cons,List.length_nil,List.length_map];omega))) Y Y) ?_)))))))))))
 refine aO (tI (Za ([salt,slot,((w.size:Nat):Int)]++Z5 w))) Y (nt (rt (vi (n':=Za ([salt,slot,((w.size:Nat):Int)]++Z5 w)) Y ?_)))
 unfold JO;rw [if_pos fhc0]
theorem Qcp (n:Nat) (seals:List Int) (salt:Int) (slot:Int) (w:ByteArray) (hl:seals.length≤YG) (hw:w.size≤maxLen):Pure (Qs Tryz.prog (n+5)) 121 [(rd 1 Qb seals),(tI salt),(tI slot),(tS w)] (tB (decide (QfC seals salt slot w))):=by
 refine Pure.intro (rs:= [ResultVar.tmp 8]) Tryz.func121 Y Y Y (E0:= [(0,(rd 1 Qb seals)),(1,(tI salt)),(2,(tI slot)),(3,(tS w))]) Y ?_
 obtain ⟨hlim,hmx,hmax⟩:=QG
 refine sr (fO (OF.assign (VEv.bool false)) (nt (sq (VRun.draw (B:= [[],[],[1],[1,2],[2,1,3,0],[0,3,1,2,4],[4,2,1,3,0,5],[5,0,3,1,2,4,6],[6,7,4,2,1,3,0,5],[5,0,3,1,2,4,7,6,8],[8,6,7,4,2,1,3,0,5,9],[8,6,7,4,2,1,3,0,5,9],[8,6,7,4,2,1,3,0,5,9],[12,11,9,5,0,3,1,2,4,7,6,8,10],[8,6,7,4,2,1,3,0,5,9],[8,6,7,4,2,1,3,0,5,9],[15,9,5,0,3,1,2,4,7,6,8,14],[14,8,6,7,4,2,1,3,0,5,9,15,16],[16,15,14,17,10,8,6,7,4,2,1,3,0,5,9,11,12,13],[13,12,11,10,17,14,15,16,18,8,6,7,4,2,1,3,0,5,9],[9,5,0,3,1,2,4,7,6,8,18,16,15,14,17,10,11,12,13,19]]) (by kernel_rfl) (by kernel_rfl) (mD (tI slot) Y Y (mD (rd 1 Qb seals) Y Y (lD (B.lenR (m:=seals.length) (tv (rd 1 Qb seals) Y) Zr (List.length_map ..)) Y Y (fD (B.sub (n:=(((seals.length:Nat):Int) - 1)) (tv (tN seals.length) Y) (VEv.int .i64 1) (by (rw [Qx (by omega)];done))) Y Y (VRunD.quiet (bi:= [2,1,3,0]) Y VWant.always Y Y Y bn (cS (vc (tv (tI slot) Y) (vc (VEv.int .i64 0) (vc (tv (tI (((seals.length:Nat):Int) - 1)) Y) vn))) (ZO Y) (QT (n+3) slot 0 (((seals.length:Nat):Int) - 1)) Y Y) (mD (tB (decide (0≤slot∧slot≤(((seals.length:Nat):Int) - 1)))) Y Y ?_))))))))))
 refine gw (0≤slot∧slot≤(((seals.length:Nat):Int) - 1)) (fun fhg14_1=> ?_) fun fhg14_1=> ?_
 ·refine VRunD.free Y (VWant.on Y Y (dy fhg14_1)) Y (OF.move (tv (tS w) Y)) ?_
  refine VRunD.quiet (bi:= [5,0,3,1,2,4,6]) Y (VWant.on Y Y (dy fhg14_1)) Y Y Y bn (cS (vc (tv (tS w) Y) vn) (ZO Y) (QaN (n+2) w (by assumption)) Y Y) (fD (OF.pickT (VEv.tmpB Y (dy fhg14_1)) (tv (tB (decide (Zw w))) Y)) Y Y (mD (tB (decide (Zw w))) Y Y ?_))
  refine gw (Zw w) (fun fhg18_2=> ?_) fun fhg18_2=> ?_
  ·refine VRunD.free Y (VWant.on Y Y (dy fhg18_2)) Y (OF.move (tv (tI salt) Y)) ?_
   refine VRunD.free Y (VWant.on Y Y (dy fhg18_2)) Y (OF.move (tv (tI slot) Y)) (VRunD.free Y (VWant.on Y Y (dy fhg18_2)) Y (OF.move (tv (tS w) Y)) (VRunD.quiet (bi:= [12,11,9,5,0,3,1,2,4,7,6,8,10]) Y (VWant.on Y Y (dy fhg18_2)) Y Y Y bn (cS (vc (tv (tI salt) Y) (vc (tv (tI slot) Y) (vc (tv (tS w) Y) vn))) (ZO Y) (Qda (n+0) salt slot w (by assumption)) Y Y) (VRunD.free Y (VWant.on Y Y (dy fhg18_2)) Y (OF.move (tv (rd 1 Qb seals) Y)) (VRunD.free Y (VWant.on Y Y (dy fhg18_2)) Y (OF.move (tv (tI slot) Y)) ?_))))
   obtain ⟨x1,hx1⟩:∃x,seals[(Int.toNat slot)]? =some x:=⟨_,List.getElem?_eq_getElem (by omega)⟩
   refine VRunD.free Y (VWant.on Y Y (dy fhg18_2)) Y (OF.indexAddrR (row:=(Qb false x1)) (i:=(Int.toNat slot)) (tv (rd 1 Qb seals) Y) (tv (tI slot) Y) (by omega) (Qt _ hx1) Zr Zd Yo) (VRunD.look Y (VWant.on Y Y (dy fhg18_2)) Y (OL.loadR1 (t:=(tI x1)) (tv (T.rp [(tI x1)]) Y) Y QQ) (VRunD.free Y (VWant.on Y Y (dy fhg18_2)) Y (Y9 (tv (tI (JO salt slot w)) Y) (tv (tI x1) Y)) (fD (OF.pickT (VEv.tmpB Y (dy fhg18_2)) (tv (tB (decide (JO salt slot w=x1))) Y)) Y Y (fD (OF.assign (tv (tB (decide (JO salt slot w=x1))) Y)) Y Y (VRunD.nil (tn (rt (vb (b':=(decide (JO salt slot w=x1))) Y ?_))))))))
   (refine Q6 (QjV ?_ ?_ hx1);omega;assumption)
  refine oD Y Y (dz fhg18_2) Y (oD Y Y (dz fhg18_2) Y (oD Y Y (dz fhg18_2) Y (oD Y Y (dz fhg18_2) Y (oD Y Y (dz fhg18_2) Y (oD Y Y (dz fhg18_2) Y (oD Y Y (dz fhg18_2) Y (oD Y Y (dz fhg18_2) Y (oD Y Y (dz fhg18_2) Y (fD (OF.pickF (VEv.tmpB Y (dz fhg18_2)) (VEv.bool false)) Y Y (fD (OF.assign (tv (tB false) Y)) Y Y (VRunD.nil ?_)))))))))))
  refine tn (rt (vb (b':=false) Y ?_))
  (symm;rw [decide_eq_false_iff_not];intro h;have h2:=Qe4 h;have h3:=h.1;exact absurd h.2.1 (by assumption))
 refine oD Y Y (dz fhg14_1) Y (oD Y Y (dz fhg14_1) Y (fD (OF.pickF (VEv.tmpB Y (dz fhg14_1)) (VEv.bool false)) Y Y (mD (tB false) Y Y (VRunD.off Y (VWant.not (b:=false) Y Y Y) (VRunD.off Y (VWant.not (b:=false) Y Y Y) (VRunD.off Y (VWant.not (b:=false) Y Y Y) (VRunD.off Y (VWant.not (b:=false) Y Y Y) (VRunD.off Y (VWant.not (b:=false) Y Y Y) (VRunD.off Y (VWant.not (b:=false) Y Y Y) (VRunD.off Y (VWant.not (b:=false) Y Y Y) (VRunD.off Y (VWant.not (b:=false) Y Y Y) ?_)))))))))))
 refine VRunD.off Y (VWant.not (b:=false) Y Y Y) (fD (OF.pickF (tv (tB false) Y) (VEv.bool false)) Y Y (fD (OF.assign (tv (tB false) Y)) Y Y (VRunD.nil (tn (rt (vb (b':=false) Y ?_))))))
 (symm;rw [decide_eq_false_iff_not];intro h;have h2:=Qe4 h;have h3:=h.1;omega)
theorem Qcr (n:Nat) (seals:List Int) (salt:Int) (slot:Int) (w:ByteArray) (hl:seals.length≤YG) (hw:w.size≤maxLen):Pure (Qs Tryz.prog (n+5)) 123 [(rd 1 Qb seals),(tI salt),(tI slot),(tS w)] (tB (decide (QfC seals salt slot w))):=by
 refine Pure.intro (rs:= [ResultVar.tmp 8]) Tryz.func123 Y Y Y (E0:= [(0,(rd 1 Qb seals)),(1,(tI salt)),(2,(tI slot)),(3,(tS w))]) Y ?_
 obtain ⟨hlim,hmx,hmax⟩:=QG
 refine sr (fO (OF.assign (VEv.bool false)) (nt (sq (VRun.draw (B:= [[],[],[1],[1,2,0],[0,2,1,3],[3,1,2,0,4],[4,0,2,1,3,5],[5,6,3,1,2,0,4],[4,0,2,1,3,6,5,7],[7,5,6,3,1,2,0,4,8],[7,5,6,3,1,2,0,4,8],[7,5,6,3,1,2,0,4,8],[11,10,8,4,0,2,1,3,6,5,7,9],[7,5,6,3,1,2,0,4,8],[7,5,6,3,1,2,0,4,8],[14,8,4,0,2,1,3,6,5,7,13],[13,7,5,6,3,1,2,0,4,8,14,15],[15,14,13,16,9,7,5,6,3,1,2,0,4,8,10,11,12],[12,11,10,9,16,13,14,15,17,7,5,6,3,1,2,0,4,8],[8,4,0,2,1,3,6,5,7,17,15,14,13,16,9,10,11,12,18]]) (by kernel_rfl) (by kernel_rfl) (mD (tI slot) Y Y (mD (rd 1 Qb seals) Y Y (lD (B.lenR (m:=seals.length) (tv (rd 1 Qb seals) Y) Zr (List.length_map ..)) Y Y (VRunD.quiet (bi:= [1,2,0]) Y VWant.always Y Y Y bn (cS (vc (tv (tI slot) Y) (vc (tv (tN seals.length) Y) vn)) (ZO Y) (Jw (n+3) slot ((seals.length:Nat):Int)) Y Y) (mD (tB (decide (0≤slot∧slot<((seals.length:Nat):Int)))) Y Y ?_)))))))))
 refine gw (0≤slot∧slot<((seals.length:Nat):Int)) (fun fhg13_1=> ?_) fun fhg13_1=> ?_
 ·refine VRunD.free Y (VWant.on Y Y (dy fhg13_1)) Y (OF.move (tv (tS w) Y)) ?_
  refine VRunD.quiet (bi:= [4,0,2,1,3,5]) Y (VWant.on Y Y (dy fhg13_1)) Y Y Y bn (cS (vc (tv (tS w) Y) vn) (ZO Y) (QaM (n+2) w (by assumption)) Y Y) (fD (OF.pickT (VEv.tmpB Y (dy fhg13_1)) (tv (tB (decide (Zw w))) Y)) Y Y (mD (tB (decide (Zw w))) Y Y ?_))
  refine gw (Zw w) (fun fhg17_2=> ?_) fun fhg17_2=> ?_
  ·refine VRunD.free Y (VWant.on Y Y (dy fhg17_2)) Y (OF.move (tv (tI salt) Y)) ?_
   refine VRunD.free Y (VWant.on Y Y (dy fhg17_2)) Y (OF.move (tv (tI slot) Y)) (VRunD.free Y (VWant.on Y Y (dy fhg17_2)) Y (OF.move (tv (tS w) Y)) (VRunD.quiet (bi:= [11,10,8,4,0,2,1,3,6,5,7,9]) Y (VWant.on Y Y (dy fhg17_2)) Y Y Y bn (cS (vc (tv (tI salt) Y) (vc (tv (tI slot) Y) (vc (tv (tS w) Y) vn))) (ZO Y) (QdJ (n+0) salt slot w (by assumption)) Y Y) (VRunD.free Y (VWant.on Y Y (dy fhg17_2)) Y (OF.move (tv (rd 1 Qb seals) Y)) (VRunD.free Y (VWant.on Y Y (dy fhg17_2)) Y (OF.move (tv (tI slot) Y)) ?_))))
   obtain ⟨x1,hx1⟩:∃x,seals[(Int.toNat slot)]? =some x:=⟨_,List.getElem?_eq_getElem (by omega)⟩
   refine VRunD.free Y (VWant.on Y Y (dy fhg17_2)) Y (OF.indexAddrR (row:=(Qb false x1)) (i:=(Int.toNat slot)) (tv (rd 1 Qb seals) Y) (tv (tI slot) Y) (by omega) (Qt _ hx1) Zr Zd Yo) (VRunD.look Y (VWant.on Y Y (dy fhg17_2)) Y (OL.loadR1 (t:=(tI x1)) (tv (T.rp [(tI x1)]) Y) Y QQ) (VRunD.free Y (VWant.on Y Y (dy fhg17_2)) Y (Y9 (tv (tI (JO salt slot w)) Y) (tv (tI x1) Y)) (fD (OF.pickT (VEv.tmpB Y (dy fhg17_2)) (tv (tB (decide (JO salt slot w=x1))) Y)) Y Y (fD (OF.assign (tv (tB (decide (JO salt slot w=x1))) Y)) Y Y (VRunD.nil (tn (rt (vb (b':=(decide (JO salt slot w=x1))) Y ?_))))))))
   (refine Q6 (QjV ?_ ?_ hx1);omega;assumption)
  refine oD Y Y (dz fhg17_2) Y (oD Y Y (dz fhg17_2) Y (oD Y Y (dz fhg17_2) Y (oD Y Y (dz fhg17_2) Y (oD Y Y (dz fhg17_2) Y (oD Y Y (dz fhg17_2) Y (oD Y Y (dz fhg17_2) Y (oD Y Y (dz fhg17_2) Y (oD Y Y (dz fhg17_2) Y (fD (OF.pickF (VEv.tmpB Y (dz fhg17_2)) (VEv.bool false)) Y Y (fD (OF.assign (tv (tB false) Y)) Y Y (VRunD.nil ?_)))))))))))
  refine tn (rt (vb (b':=false) Y ?_))
  (symm;rw [decide_eq_false_iff_not];intro h;have h2:=Qe4 h;have h3:=h.1;exact absurd h.2.1 (by assumption))
 refine oD Y Y (dz fhg13_1) Y (oD Y Y (dz fhg13_1) Y (fD (OF.pickF (VEv.tmpB Y (dz fhg13_1)) (VEv.bool false)) Y Y (mD (tB false) Y Y (VRunD.off Y (VWant.not (b:=false) Y Y Y) (VRunD.off Y (VWant.not (b:=false) Y Y Y) (VRunD.off Y (VWant.not (b:=false) Y Y Y) (VRunD.off Y (VWant.not (b:=false) Y Y Y) (VRunD.off Y (VWant.not (b:=false) Y Y Y) (VRunD.off Y (VWant.not (b:=false) Y Y Y) (VRunD.off Y (VWant.not (b:=false) Y Y Y) (VRunD.off Y (VWant.not (b:=false) Y Y Y) ?_)))))))))))
 refine VRunD.off Y (VWant.not (b:=false) Y Y Y) (fD (OF.pickF (tv (tB false) Y) (VEv.bool false)) Y Y (fD (OF.assign (tv (tB false) Y)) Y Y (VRunD.nil (tn (rt (vb (b':=false) Y ?_))))))
 (symm;rw [decide_eq_false_iff_not];intro h;have h2:=Qe4 h;have h3:=h.1;omega)
noncomputable section
def QP (g:D.Grid) (f:ByteArray) (seals:List Int) (salt:Int):Nat→List Int
 | 0=> []
 | i+1=>QP g f seals salt i++(if QfC seals salt ((i:Nat):Int) (Yy g f ((i:Nat):Int)) then [((i:Nat):Int)] else [])
def ZS (g:D.Grid) (f:ByteArray) (seals:List Int) (salt:Int):List Int:=if Q8 g f then QP g f seals salt (Qc g).length else []
theorem Qbf (g:D.Grid) (f:ByteArray) (seals:List Int) (salt:Int):∀i,(QP g f seals salt i).length≤i
 | 0=>Nat.le_refl _
 | i+1=>by
  have:=Qbf g f seals salt i
  unfold QP
  rw [List.length_append]
  split<;>simp only [List.length_cons,List.length_nil]<;>omega
theorem QfV (g:D.Grid) (f:ByteArray) (seals:List Int) (salt:Int):(ZS g f seals salt).length≤72:=by
 unfold ZS
 split
 ·exact Nat.le_trans (Qbf _ _ _ _ _) (Zp g)
 ·simp
theorem Qg1 {g:D.Grid} {f:ByteArray} {seals:List Int} {salt:Int} {i:Nat} (h:QfC seals salt ((i:Nat):Int) (Yy g f ((i:Nat):Int))):QP g f seals salt i++ [((i:Nat):Int)]=QP g f seals salt (i+1):=by rw [QP,if_pos h]
theorem Qiq {g:D.Grid} {f:ByteArray} {seals:List Int} {salt:Int} {i:Nat} (h:¬QfC seals salt ((i:Nat):Int) (Yy g f ((i:Nat):Int))):QP g f seals salt i=QP g f seals salt (i+1):=by rw [QP,if_neg h,List.append_nil]
theorem Qg0 {g:D.Grid} {f:ByteArray} {seals:List Int} {salt:Int} {i:Nat} (h1:i≤(Qc g).length) (h2:Q8 g f∨i=0) (h3:¬(i<(Qc g).length∧Q8 g f)):QP g f seals salt i=ZS g f seals salt:=by
 unfold ZS
 by_cases h:Q8 g f
 ·rw [if_pos h,show i=(Qc g).length by have:¬i<(Qc g).length:=fun e=>h3 ⟨e,h⟩;omega]
 ·rw [if_neg h,h2.resolve_left h];rfl
theorem Qds (g:D.Grid) (f:ByteArray) (slot:Int):(Yy g f slot).size≤6:=by
 unfold Yy
 split
 ·split
  ·rename_i s hs
   split
   ·rw [Qig];exact Qcd hs
   ·exact Nat.zero_le _
  ·exact Nat.zero_le _
 ·exact Nat.zero_le _
theorem QiR (g:D.Grid) (f:ByteArray):(Yg g f).length≤(Qc g).length:=by
 by_cases h:Q8 g f
 ·rw [QgO h];exact Nat.le_refl _
 ·unfold Yg;rw [if_neg h];exact Nat.zero_le _
theorem Qlh {g:D.Grid} {f:ByteArray} (h:¬Q8 g f):Yg g f= []:=if_neg h
theorem QjA {g:D.Grid} {f:ByteArray} {seals:List Int} {salt:Int} {i:Nat} (h1:i≤(Yg g f).length) (h2:¬i<(Yg g f).length):QP g f seals salt i=ZS g f seals salt:=by
 have hpl:=QiR g f
 refine Qg0 (by omega) ?_ ?_
 ·by_cases h:Q8 g f
  ·exact .inl h
  ·right;rw [Qlh h] at h1;exact Nat.le_zero.1 h1
 ·rintro ⟨h3,h4⟩;rw [QgO h4] at h2;exact h2 h3
end
theorem Qc5 (n:Nat) (g:D.Grid) (f:ByteArray) (seals:List Int) (salt:Int) (hc:g.Cells.size≤maxLen) (hf:f.size≤maxLen) (hl:seals.length≤YG):Pure (Qs Tryz.prog (n+6)) 89 [(T.agg (Qe false g)),(tS f),(rd 1 Qb seals),(tI salt)] (T.sl true 1 ((ZS g f seals salt).map (Qb true))):=by
 refine Pure.intro (rs:= [ResultVar.tmp 8]) Tryz.func89 Y Y Y (E0:= [(0,(T.agg (Qe false g))),(1,(tS f)),(2,(rd 1 Qb seals)),(3,(tI salt))]) Y ?_
 obtain ⟨hlim,hmx,hmax⟩:=QG
 have hsl:=Zp g
 refine sr (kO (B.box (ts:=(Qe false g)) (tv (T.agg (Qe false g)) Y) nofun Y) (fO (OF.assign VEv.nils) (nt (sr (kO (OM.slice0 Zr JW (by kernel_rfl) Y (by rw [Zd];decide) Zd) (aO (T.os 1 1 0 0) Y (nt (sr (lO (OL.loadOn (us:=(Qe false g)) (tv (T.op 0 0) Y) Y Q4 QX (lb Y) Y) (cO (OC.callF (r':=(T.os 4 2 0 (((Qc g).map (Qk true)).length))) (objs:= [(Obj.rows 4 ((Qc g).map (Qk true)))]) Y (vc (tv (T.agg (Qe false g)) Y) vn) (LendL.cons (lg Qw) ln) (ZJ (n+2) g (by assumption)) Y) (aO (T.os 4 2 0 (((Qc g).map (Qk true)).length)) Y ?_)))))))))))
 refine nt (sq (sr (fO (OF.assign (VEv.int .i64 0)) (nt (VRun.block ?_)))))
 have he1: []=((QP g f seals salt 0).map (Qb true)):=by rfl
 refine VRun.loop (A:=Nat) (fun s_=> [(1,(tS f)),(2,(rd 1 Qb seals)),(3,(tI salt)),(4,(T.op 0 0)),(8,T.nils),(9,(T.os 1 2 0 (((QP g f seals salt s_).map (Qb true)).length))),(10,(T.os 4 1 0 (((Qc g).map (Qk true)).length))),(11,(tN s_))]) (fun s_=>QY [(0,(Obj.cells (Qe false g))),(1,(Obj.rows 4 ((Qc g).map (Qk true)))),(2,(Obj.rows 1 ((QP g f seals salt s_).map (Qb true))))]) 3 (fun s_=>s_≤(Qc g).length∧(Q8 g f∨s_=0)) (fun s_=>(Qc g).length - s_) (0:Nat) ?_ (Wk.mk (fun k=>if k=1 then 2 else if k=2 then 1 else k) ?_ ?_ ?_) ?_
 ·exact ⟨Nat.zero_le _, .inr Y⟩
 ·exact (b2 (b2 (b2 (b2 (b2 (bc ⟨(congrArg (fun n_=>T.os 1 1 0 n_) (show 0=((QP g f seals salt 0).map (Qb true)).length from (by rfl))),rfl⟩ (b2 (b2 bn))))))))
 ·exact (b3 (b3 (bc ⟨(congrArg (fun l_=>some (Obj.rows 1 l_)) he1),(lb Y),rfl⟩ bn)))
 ·exact nd Y
 rintro i (hI':i≤(Qc g).length∧(Q8 g f∨i=0))
 show VRun _ _ _ [(1,(tS f)),(2,(rd 1 Qb seals)),(3,(tI salt)),(4,(T.op 0 0)),(8,T.nils),(9,(T.os 1 2 0 (((QP g f seals salt i).map (Qb true)).length))),(10,(T.os 4 1 0 (((Qc g).map (Qk true)).length))),(11,(tN i))] (QY [(0,(Obj.cells (Qe false g))),(1,(Obj.rows 4 ((Qc g).map (Qk true)))),(2,(Obj.rows 1 ((QP g f seals salt i).map (Qb true))))]) 3 _
 have hI1:=hI'.1
 have hrl:=Qbf g f seals salt i
 have hps:=Qds g f ((i:Nat):Int)
 refine sq (sr (mO (tN i) Y (mO (T.os 4 1 0 (((Qc g).map (Qk true)).length)) Y (lO (B.lenO (m:=(Qc g).length) (tv (T.os 4 1 0 (((Qc g).map (Qk true)).length)) Y) Yh (List.length_map ..)) (fO (Zb (tv (tN i) Y) (tv (tN ((Qc g).length)) Y)) (mO (tB (decide (i<(Qc g).length))) Y ?_))))))
 refine VRunO.joinB 4 [20,21,22] 23 (tB (decide ((i<(Qc g).length)∧(Q8 g f)))) ?_ ?_
 ·refine gw (i<(Qc g).length) (fun fhg19_2=> ?_) fun fhg19_2=> ?_
  ·refine gL (dy fhg19_2) Y Y (OL.loadOn (us:=(Qe false g)) (tv (T.op 0 0) Y) Y Q4 QX (lb Y) Y) ?_
   refine gF (dy fhg19_2) Y Y (OF.move (tv (tS f) Y)) (VRunO.chain (VWant.on Y Y (dy fhg19_2)) (cS (vc (tv (T.agg (Qe false g)) Y) (vc (tv (tS f) Y) vn)) (LendL.cons (lg Qw) (lp Y ln)) (QaI (n+2) g f (by assumption) (by assumption)) Y Y) (fO (OF.pickT (VEv.tmpB Y (dy fhg19_2)) (tv (tB (decide (Q8 g f))) Y)) (VRunO.nil ?_)))
   exact jq (congrArg T.bool (kAT fhg19_2 Y)) (js Y (js Y (js Y (jn))))
  ·refine QE 3 4 true 19 (dz fhg19_2) Y Y Y ?_
   refine fO (OF.pickF (VEv.tmpB Y (dz fhg19_2)) (VEv.bool false)) (VRunO.nil ?_)
   exact jq (congrArg T.bool (kAF fhg19_2)) (js Y (js Y (js Y (jn))))
 refine nt ?_
 refine cd ((i<(Qc g).length)∧(Q8 g f)) Y (fun fhc0=> ?_) fun fhc0=> ?_
 ·refine sk ?_
  refine tn (sq (VRun.block (sr (mO (rd 1 Qb seals) Y (mO (tI salt) Y (mO (tN i) Y (lO (OL.loadOn (us:=(Qe false g)) (tv (T.op 0 0) Y) Y Q4 QX (lb Y) Y) (mO (tS f) Y (mO (tN i) Y (cO (cS (vc (tv (T.agg (Qe false g)) Y) (vc (tv (tS f) Y) (vc (tv (tN i) Y) vn))) (LendL.cons (lg Qw) (lp Y (lp Y ln))) (QcU (n+0) g f ((i:Nat):Int) (by assumption) (by assumption)) Y Y) (cO (cS (vc (tv (rd 1 Qb seals) Y) (vc (tv (tI salt) Y) (vc (tv (tN i) Y) (vc (tv (tS (Yy g f ((i:Nat):Int))) Y) vn)))) (ZO Y) (Qcp (n+0) seals salt ((i:Nat):Int) (Yy g f ((i:Nat):Int)) (by assumption) (by omega)) Y Y) ?_)))))))))))
  refine nt ?_
  refine cd (QfC seals salt ((i:Nat):Int) (Yy g f ((i:Nat):Int))) Y (fun fhc1=> ?_) fun fhc1=> ?_
  ·refine VRun.region ?_
   refine mO (T.os 1 2 0 (((QP g f seals salt i).map (Qb true)).length)) Y (mO (tN i) Y (kO (OM.buildSlice (l:= [(tN i)]) (VEvp.cons (tv (tN i) Y) VEvp.nil) Y (by decide) (bc (nofun) bn) (bc ((bc (Y) bn)) bn) (bc (Y) bn) Zr JW (by kernel_rfl) Y (by rw [Zd];decide) Zd (Nat.le_of_ble_eq_true Y)) (cO (B.append (rows:=((QP g f seals salt i).map (Qb true))) (rows2:= [[(tN i)]]) (rows3:=((QP g f seals salt i++ [((i:Nat):Int)]).map (Qb true))) (VDst.own (tv (T.os 1 2 0 (((QP g f seals salt i).map (Qb true)).length)) Y) Y Y) (VSrc.own (tv (T.os 1 3 0 1) Y) Y Y Zr (bc (bc Y bn) bn)) (by decide) Zr Zd (by decide) JW Y (of_decide_eq_true (by kernel_rfl)) (by (simp only [List.length_map,List.length_append,List.length_cons,List.length_nil,List.length_replicate,List.length_set,List.length_drop,List.length_take,YG] at *;omega)) ((List.map_append (f:=Qb true) (l₁:=QP g f seals salt i) (l₂:= [((i:Nat):Int)])).symm)) (aO (T.os 1 4 0 (((QP g f seals salt i++ [((i:Nat):Int)]).map (Qb true)).length)) Y (VRunO.nil (vinB.n (tn (VRun.region (mO (tN i) Y (fO (Qy (tv (tN i) Y) (VEv.int .i64 1) (by omega)) (aO (tN (i+1)) Y ?_)))))))))))
   refine VRunO.nil (tn ?_)
   have he3:(QP g f seals salt i++ [((i:Nat):Int)])=QP g f seals salt (i+1):=by exact Qg1 fhc1
   refine ⟨(i+1:Nat),?_,?_,Wk.mk (fun k=>if k=2 then 4 else k) ?_ ?_ ?_⟩
   ·exact ⟨by omega, .inl fhc0.2⟩
   ·omega
   ·exact (b2 (b2 (b2 (b2 (b2 (bc ⟨(congrArg (fun l_=>T.os 1 4 0 (List.map (Qb true) l_).length) he3),rfl⟩ (b2 (b2 bn))))))))
   ·exact (b3 (b3 (bc ⟨(congrArg (fun l_=>some (Obj.rows 1 (List.map (Qb true) l_))) he3),(lb Y),rfl⟩ bn)))
   ·exact nd Y
  refine sk (vinB.n (tn (VRun.region (mO (tN i) Y (fO (Qy (tv (tN i) Y) (VEv.int .i64 1) (by omega)) (aO (tN (i+1)) Y (VRunO.nil (tn ?_))))))))
  have he4:QP g f seals salt i=QP g f seals salt (i+1):=by exact Qiq fhc1
  refine ⟨(i+1:Nat),?_,?_,Wk.mk (fun k=>k) ?_ ?_ ?_⟩
  ·exact ⟨by omega, .inl fhc0.2⟩
  ·omega
  ·exact (b2 (b2 (b2 (b2 (b2 (bc ⟨(congrArg (fun l_=>T.os 1 2 0 (List.map (Qb true) l_).length) he4),rfl⟩ (b2 (b2 bn))))))))
  ·exact (b3 (b3 (bc ⟨(congrArg (fun l_=>some (Obj.rows 1 (List.map (Qb true) l_))) he4),(lb Y),rfl⟩ bn)))
  ·exact nd Y
 refine VRun.exit (vthn.e (vthn.e (vinB.e (tn (sr (mO (T.os 1 2 0 (((QP g f seals salt i).map (Qb true)).length)) Y (aO (T.os 1 2 0 (((QP g f seals salt i).map (Qb true)).length)) Y (nt (rt ?_)))))))))
 refine vfin.eq (r':=(T.sl true 1 ((QP g f seals salt i).map (Qb true)))) ?_ (vfin.r (VRes.tmp (t:=(T.os 1 2 0 (((QP g f seals salt i).map (Qb true)).length))) Y VRes.nil) (Give.os Y Y (okInt.cleanMap _)))
 refine congrArg (fun l_=>T.sl true 1 (List.map (Qb true) l_)) ?_
 exact Qg0 hI1 hI'.2 fhc0
theorem Qdz (n:Nat) (g:D.Grid) (f:ByteArray) (seals:List Int) (salt:Int) (hc:g.Cells.size≤maxLen) (hf:f.size≤maxLen) (hl:seals.length≤YG):Pure (Qs Tryz.prog (n+6)) 90 [(T.agg (Qe false g)),(tS f),(rd 1 Qb seals),(tI salt)] (T.sl true 1 ((ZS g f seals salt).map (Qb true))):=by
 refine Pure.intro (rs:= [ResultVar.tmp 8]) Tryz.func90 Y Y Y (E0:= [(0,(T.agg (Qe false g))),(1,(tS f)),(2,(rd 1 Qb seals)),(3,(tI salt))]) Y ?_
 obtain ⟨hlim,hmx,hmax⟩:=QG
 have hsl:=Zp g
 have hpl:=QiR g f
 refine sr (kO (B.box (ts:=(Qe false g)) (tv (T.agg (Qe false g)) Y) nofun Y) (fO (OF.assign VEv.nils) (nt (sr (fO (OF.assign VEv.nils) (nt (sq (sr (lO (OL.loadOn (us:=(Qe false g)) (tv (T.op 0 0) Y) Y Q4 QX (lb Y) Y) (mO (tS f) Y (cO (OC.callF (r':=(T.os 1 1 0 (((Yg g f).map (YJ true)).length))) (objs:= [(Obj.rows 1 ((Yg g f).map (YJ true)))]) Y (vc (tv (T.agg (Qe false g)) Y) (vc (tv (tS f) Y) vn)) (LendL.cons (lg Qw) (lp Y ln)) (QeJ (n+0) g f (by assumption) (by assumption)) Y) ?_)))))))))))
 refine lO (B.lenO (m:=(Yg g f).length) (tv (T.os 1 1 0 (((Yg g f).map (YJ true)).length)) Y) Qmr (List.length_map ..)) (fO (OF.move (VEv.int .i64 0)) (nt (VRun.block (VRun.wk (Wk.freeze (sz:=1) (k:=1) (rows':=((Yg g f).map (YJ false))) [14] (bc Y bn) Y Y (okStr.fzMap _ _)) (VRun.wk (Wk.phantom 9 1 Y) ?_)))))
 have he1: []=((QP g f seals salt 0).map (Qb true)):=by rfl
 refine VRun.loop (A:=Nat) (fun s_=> [(2,(rd 1 Qb seals)),(3,(tI salt)),(8,T.nils),(9,(T.os 1 0 0 (((QP g f seals salt s_).map (Qb true)).length))),(14,(rd 1 YJ (Yg g f))),(15,(tN ((Yg g f).length))),(16,(tN s_))]) (fun s_=>QY [(0,(Obj.rows 1 ((QP g f seals salt s_).map (Qb true))))]) 1 (fun s_=>s_≤(Yg g f).length) (fun s_=>(Yg g f).length - s_) (0:Nat) ?_ (Wk.mk (fun k=>if k=0 then 2 else k) ?_ ?_ ?_) ?_
 ·(simp;done)
 ·exact (b2 (b2 (b2 (bc ⟨(congrArg (fun n_=>T.os 1 2 0 n_) (show 0=((QP g f seals salt 0).map (Qb true)).length from (by rfl))),rfl⟩ (b2 (b2 (b2 bn)))))))
 ·exact (bc ⟨(congrArg (fun l_=>some (Obj.rows 1 l_)) he1),(lb Y),rfl⟩ bn)
 ·exact nd Y
 rintro i (hI':i≤(Yg g f).length)
 show VRun _ _ _ [(2,(rd 1 Qb seals)),(3,(tI salt)),(8,T.nils),(9,(T.os 1 0 0 (((QP g f seals salt i).map (Qb true)).length))),(14,(rd 1 YJ (Yg g f))),(15,(tN ((Yg g f).length))),(16,(tN i))] (QY [(0,(Obj.rows 1 ((QP g f seals salt i).map (Qb true))))]) 1 _
 have hrl:=Qbf g f seals salt i
 have hps:=Qds g f ((i:Nat):Int)
 refine sr (fO (Zb (tv (tN i) Y) (tv (tN ((Yg g f).length)) Y)) (nt (sq ?_)))
 refine cd (i<(Yg g f).length) Y (fun fhc0=> ?_) fun fhc0=> ?_
 ·refine sk ?_
  refine tn (sq (VRun.block (sr (mO (tN i) Y ?_))))
  obtain ⟨x1,hx1⟩:∃x,(Yg g f)[i]? =some x:=⟨_,List.getElem?_eq_getElem (by omega)⟩
  have hpx:=Ql9 hx1
  refine fO (OF.indexAddrR (row:=(YJ false x1)) (i:=i) (tv (rd 1 YJ (Yg g f)) Y) (tv (tN i) Y) Y (Qt _ hx1) Qmr sz9 if9) (lO (OL.loadR1 (t:=(tS x1)) (tv (T.rp [(tS x1)]) Y) Y Yp) (aO (tN i) Y (aO (tS x1) Y (nt (sr (mO (rd 1 Qb seals) Y (mO (tI salt) Y (mO (tN i) Y (mO (tS x1) Y (cO (cS (vc (tv (rd 1 Qb seals) Y) (vc (tv (tI salt) Y) (vc (tv (tN i) Y) (vc (tv (tS x1) Y) vn)))) (ZO Y) (Qcr (n+0) seals salt ((i:Nat):Int) x1 (by assumption) (by (rw [hpx];omega))) Y Y) (nt ?_)))))))))))
  refine cd (QfC seals salt ((i:Nat):Int) x1) Y (fun fhc1=> ?_) fun fhc1=> ?_
  ·refine VRun.region ?_
   refine mO (T.os 1 0 0 (((QP g f seals salt i).map (Qb true)).length)) Y (mO (tN i) Y (kO (OM.buildSlice (l:= [(tN i)]) (VEvp.cons (tv (tN i) Y) VEvp.nil) Y (by decide) (bc (nofun) bn) (bc ((bc (Y) bn)) bn) (bc (Y) bn) Zr JW (by kernel_rfl) Y (by rw [Zd];decide) Zd (Nat.le_of_ble_eq_true Y)) (cO (B.append (rows:=((QP g f seals salt i).map (Qb true))) (rows2:= [[(tN i)]]) (rows3:=((QP g f seals salt i++ [((i:Nat):Int)]).map (Qb true))) (VDst.own (tv (T.os 1 0 0 (((QP g f seals salt i).map (Qb true)).length)) Y) Y Y) (VSrc.own (tv (T.os 1 1 0 1) Y) Y Y Zr (bc (bc Y bn) bn)) (by decide) Zr Zd (by decide) JW Y (of_decide_eq_true (by kernel_rfl)) (by (simp only [List.length_map,List.length_append,List.length_cons,List.length_nil,List.length_replicate,List.length_set,List.length_drop,List.length_take,YG] at *;omega)) ((List.map_append (f:=Qb true) (l₁:=QP g f seals salt i) (l₂:= [((i:Nat):Int)])).symm)) (aO (T.os 1 2 0 (((QP g f seals salt i++ [((i:Nat):Int)]).map (Qb true)).length)) Y (VRunO.nil (vinB.n (tn (VRun.region (fO (Qy (tv (tN i) Y) (VEv.int .i64 1) (by omega)) (mO (tN (i+1)) Y (VRunO.nil ?_)))))))))))
   refine tn ?_
   have he2:(QP g f seals salt i++ [((i:Nat):Int)])=QP g f seals salt (i+1):=by (rw [hpx] at fhc1;exact Qg1 fhc1)
   refine ⟨(i+1:Nat),?_,?_,Wk.mk (fun k=>if k=0 then 2 else k) ?_ ?_ ?_⟩
   ·trivial
   ·omega
   ·exact (b2 (b2 (b2 (bc ⟨(congrArg (fun l_=>T.os 1 2 0 (List.map (Qb true) l_).length) he2),rfl⟩ (b2 (b2 (b2 bn)))))))
   ·exact (bc ⟨(congrArg (fun l_=>some (Obj.rows 1 (List.map (Qb true) l_))) he2),(lb Y),rfl⟩ bn)
   ·exact nd Y
  refine sk (vinB.n (tn (VRun.region (fO (Qy (tv (tN i) Y) (VEv.int .i64 1) (by omega)) (mO (tN (i+1)) Y (VRunO.nil (tn ?_)))))))
  have he3:QP g f seals salt i=QP g f seals salt (i+1):=by (rw [hpx] at fhc1;exact Qiq fhc1)
  refine ⟨(i+1:Nat),?_,?_,Wk.mk (fun k=>k) ?_ ?_ ?_⟩
  ·trivial
  ·omega
  ·exact (b2 (b2 (b2 (bc ⟨(congrArg (fun l_=>T.os 1 0 0 (List.map (Qb true) l_).length) he3),rfl⟩ (b2 (b2 (b2 bn)))))))
  ·exact (bc ⟨(congrArg (fun l_=>some (Obj.rows 1 (List.map (Qb true) l_))) he3),(lb Y),rfl⟩ bn)
  ·exact nd Y
 refine VRun.exit (vthn.e (vthn.e (vinB.e (tn (sr (mO (T.os 1 0 0 (((QP g f seals salt i).map (Qb true)).length)) Y (aO (T.os 1 0 0 (((QP g f seals salt i).map (Qb true)).length)) Y (nt (rt ?_)))))))))
 refine vfin.eq (r':=(T.sl true 1 ((QP g f seals salt i).map (Qb true)))) ?_ (vfin.r (VRes.tmp (t:=(T.os 1 0 0 (((QP g f seals salt i).map (Qb true)).length))) Y VRes.nil) (Give.os Y Y (okInt.cleanMap _)))
 refine congrArg (fun l_=>T.sl true 1 (List.map (Qb true) l_)) ?_
 exact QjA hI' fhc0
noncomputable section
def JV (f:ByteArray):Prop:=∃j,j<f.size∧QA f j=63
instance (f:ByteArray):Decidable (JV f):=Classical.propDecidable _
def Jo (f:ByteArray):Nat→Nat
 | 0=>0
 | i+1=>Jo f i+(if QA f i=63 then 1 else 0)
theorem Qkk (f:ByteArray):∀i,Jo f i≤i
 | 0=>Nat.le_refl _
 | i+1=>by
  have:=Qkk f i
  unfold Jo
  split<;>omega
theorem QgK (f:ByteArray):∀i,Jo f i=0↔∀j,j<i→¬QA f j=63
 | 0=>⟨fun _ j hj=>by omega,fun _=>rfl⟩
 | i+1=>by
  have ih:=QgK f i
  unfold Jo
  constructor
  ·intro h j hj
   by_cases e:j=i
   ·subst e;intro e2;rw [if_pos e2] at h;omega
   ·exact ih.1 (by omega) j (by omega)
  ·intro h
   rw [if_neg (h i (by omega)),ih.2 (fun j hj=>h j (by omega))]
theorem QmY (f:ByteArray):Jo f f.size=0↔¬JV f:=by
 rw [QgK]
 exact ⟨fun h ⟨j,h1,h2⟩=>h j h1 h2,fun h j h1 h2=>h ⟨j,h1,h2⟩⟩
end
theorem QfF (n:Nat) (f:ByteArray) (hf:f.size≤maxLen):Pure (Qs Tryz.prog (n+1)) 91 [(tS f)] (tB (decide (JV f))):=by
 refine Pure.intro (rs:= [ResultVar.tmp 2]) Tryz.func91 Y Y Y (E0:= [(0,(tS f))]) Y ?_
 obtain ⟨hlim,hmx,hmax⟩:=QG
 refine sr (fO (OF.assign (VEv.bool false)) (nt (sq (sr (fO (OF.assign (VEv.int .i64 0)) (nt (VRun.block ?_)))))))
 refine VRun.loop (A:=Nat) (fun s_=> [(0,(tS f)),(3,(tN s_))]) (fun s_=>QY []) 0 (fun s_=>s_≤f.size∧∀j,j<s_→¬QA f j=63) (fun s_=>f.size - s_) (0:Nat) ?_ (Wk.mk (fun k=>k) ?_ ?_ ?_) ?_
 ·exact ⟨Nat.zero_le _,fun j hj=>by omega⟩
 ·exact (b2 (b2 bn))
 ·exact bn
 ·exact nd Y
 rintro i (hI':i≤f.size∧∀j,j<i→¬QA f j=63)
 show VRun _ _ _ [(0,(tS f)),(3,(tN i))] (QY []) 0 _
 have hI1:=hI'.1
 refine sq (sr (mO (tN i) Y (mO (tS f) Y (lO (B.lenS (tv (tS f) Y) U9) (fO (Zb (tv (tN i) Y) (tv (tN f.size) Y)) (nt ?_))))))
 refine cd (i<f.size) Y (fun fhc0=> ?_) fun fhc0=> ?_
 ·refine sk ?_
  refine tn (sq (VRun.block (sr (mO (tS f) Y (mO (tN i) Y ?_)))))
  have hb1:i<f.size:=(by omega)
  refine fO (xix (tv (tS f) Y) (tv (tN i) Y) hb1 U9) (fO (Y9 (tv (T.int .u8 (QA f i)) Y) (VEv.int .u8 63)) (nt ?_))
  refine cd (QA f i=63) Y (fun fhc1=> ?_) fun fhc1=> ?_
  ·refine sr ?_
   refine fO (OF.assign (VEv.bool true)) (nt (rt (vinB.r (tr (tr (vinB.r (tr (vb (b':=true) Y ?_))))))))
   symm;rw [decide_eq_true_eq];exact ⟨i,fhc0,fhc1⟩
  refine sk (vinB.n (tn (VRun.region (mO (tN i) Y (fO (Qy (tv (tN i) Y) (VEv.int .i64 1) (by omega)) (aO (tN (i+1)) Y (VRunO.nil (tn ?_))))))))
  refine ⟨(i+1:Nat),?_,?_,Wk.mk (fun k=>k) ?_ ?_ ?_⟩
  ·exact QZ hI' fhc0 fhc1
  ·omega
  ·exact (b2 (b2 bn))
  ·exact bn
  ·exact nd Y
 refine VRun.exit (vthn.e (vthn.e (vinB.e (tn (sr (fO (OF.assign (VEv.bool false)) (nt (rt (vb (b':=false) Y ?_)))))))))
 symm;rw [decide_eq_false_iff_not];rintro ⟨j,h1,h2⟩;exact hI'.2 j (by omega) h2
theorem Qgn (n:Nat) (f:ByteArray) (hf:f.size≤maxLen):Pure (Qs Tryz.prog (n+1)) 94 [(tS f)] (tN (Jo f f.size)):=by
 refine Pure.intro (rs:= [ResultVar.tmp 2]) Tryz.func94 Y Y Y (E0:= [(0,(tS f))]) Y ?_
 obtain ⟨hlim,hmx,hmax⟩:=QG
 refine sr (fO (OF.assign (VEv.int .i64 0)) (nt (sr (fO (OF.assign (VEv.int .i64 0)) (nt (sq (sr (mO (tS f) Y (lO (B.lenS (tv (tS f) Y) U9) (fO (OF.move (VEv.int .i64 0)) (nt ?_)))))))))))
 refine VRun.block ?_
 refine VRun.loop (A:=Nat) (fun s_=> [(0,(tS f)),(2,(tN 0)),(3,(tN (Jo f s_))),(6,(tN f.size)),(7,(tN s_))]) (fun s_=>QY []) 0 (fun s_=>s_≤f.size) (fun s_=>f.size - s_) (0:Nat) ?_ (Wk.mk (fun k=>k) ?_ ?_ ?_) ?_
 ·(simp;done)
 ·exact (b2 (b2 (bc ⟨(congrArg (T.int .i64) (show 0=((Jo f 0:Nat):Int) from (by rfl))),rfl⟩ (b2 (b2 bn)))))
 ·exact bn
 ·exact nd Y
 rintro i (hI':i≤f.size)
 show VRun _ _ _ [(0,(tS f)),(2,(tN 0)),(3,(tN (Jo f i))),(6,(tN f.size)),(7,(tN i))] (QY []) 0 _
 have hol:=Qkk f i
 refine sr (fO (Zb (tv (tN i) Y) (tv (tN f.size) Y)) (nt (sq ?_)))
 refine cd (i<f.size) Y (fun fhc0=> ?_) fun fhc0=> ?_
 ·refine sk ?_
  refine tn (sq (VRun.block (sr (mO (tN i) Y (aO (tN i) Y (nt (sr (mO (tS f) Y (mO (tN i) Y ?_)))))))))
  have hb1:i<f.size:=(by omega)
  refine fO (xix (tv (tS f) Y) (tv (tN i) Y) hb1 U9) (fO (Y9 (tv (T.int .u8 (QA f i)) Y) (VEv.int .u8 63)) (nt ?_))
  refine cd (QA f i=63) Y (fun fhc1=> ?_) fun fhc1=> ?_
  ·refine VRun.region ?_
   refine mO (tN (Jo f i)) Y (fO (Qy (tv (tN (Jo f i)) Y) (VEv.int .i64 1) (by omega)) (aO (tN (Jo f i+1)) Y (VRunO.nil (vinB.n (tn (VRun.region (fO (Qy (tv (tN i) Y) (VEv.int .i64 1) (by omega)) (mO (tN (i+1)) Y (VRunO.nil (tn ?_))))))))))
   refine ⟨(i+1:Nat),?_,?_,Wk.mk (fun k=>k) ?_ ?_ ?_⟩
   ·trivial
   ·omega
   ·exact (b2 (b2 (bc ⟨(congrArg (T.int .i64) (show (((Jo f i+1):Nat):Int)=((Jo f (i+1):Nat):Int) from (by (rw [Jo,if_pos fhc1];done)))),rfl⟩ (b2 (b2 bn)))))
   ·exact bn
   ·exact nd Y
  refine sk (vinB.n (tn (VRun.region (fO (Qy (tv (tN i) Y) (VEv.int .i64 1) (by omega)) (mO (tN (i+1)) Y (VRunO.nil (tn ?_)))))))
  refine ⟨(i+1:Nat),?_,?_,Wk.mk (fun k=>k) ?_ ?_ ?_⟩
  ·trivial
  ·omega
  ·exact (b2 (b2 (bc ⟨(congrArg (T.int .i64) (show ((Jo f i:Nat):Int)=((Jo f (i+1):Nat):Int) from (by (rw [Jo,if_neg fhc1];rfl)))),rfl⟩ (b2 (b2 bn)))))
  ·exact bn
  ·exact nd Y
 refine VRun.exit (vthn.e (vthn.e (vinB.e (tn (sr (mO (tN (Jo f i)) Y (aO (tN (Jo f i)) Y (nt (rt (vi (n':=((Jo f i:Nat):Int)) Y ?_))))))))))
 rw [show i=f.size by omega]
noncomputable section
def QaP (g:D.Grid) (f:ByteArray):Prop:=Q8 g f∧¬JV f
instance (g:D.Grid) (f:ByteArray):Decidable (QaP g f):=Classical.propDecidable _
end
theorem Qgt (n:Nat) (g:D.Grid) (f:ByteArray) (hc:g.Cells.size≤maxLen) (hf:f.size≤maxLen):Pure (Qs Tryz.prog (n+4)) 127 [(T.agg (Qe false g)),(tS f)] (tB (decide (QaP g f))):=by
 refine Pure.intro (rs:= [ResultVar.tmp 4]) Tryz.func127 Y Y Y (E0:= [(0,(T.agg (Qe false g))),(1,(tS f))]) Y ?_
 obtain ⟨hlim,hmx,hmax⟩:=QG
 refine sr (kO (B.box (ts:=(Qe false g)) (tv (T.agg (Qe false g)) Y) nofun Y) (fO (OF.assign (VEv.bool false)) (nt (sr (lO (OL.loadOn (us:=(Qe false g)) (tv (T.op 0 0) Y) Y Q4 QX (lb Y) Y) (mO (tS f) Y (cO (cS (vc (tv (T.agg (Qe false g)) Y) (vc (tv (tS f) Y) vn)) (LendL.cons (lg Qw) (lp Y ln)) (QaI (n+0) g f (by assumption) (by assumption)) Y Y) (mO (tB (decide (Q8 g f))) Y ?_))))))))
 refine VRunO.joinB 4 [9,10,11] 12 (tB (decide ((Q8 g f)∧(¬(JV f))))) ?_ ?_
 ·refine gw (Q8 g f) (fun fhg8_1=> ?_) fun fhg8_1=> ?_
  ·refine gF (dy fhg8_1) Y Y (OF.move (tv (tS f) Y)) ?_
   refine VRunO.chain (VWant.on Y Y (dy fhg8_1)) (cS (vc (tv (tS f) Y) vn) (ZO Y) (QfF (n+2) f (by assumption)) Y Y) (gF (dy fhg8_1) Y Y (Q1 (tv (tB (decide (JV f))) Y)) (fO (OF.pickT (VEv.tmpB Y (dy fhg8_1)) (tv (tB (!(decide (JV f)))) Y)) (VRunO.nil ?_)))
   exact jq (congrArg T.bool (kAT fhg8_1 dN)) (js Y (js Y (js Y (jn))))
  ·refine QE 3 3 true 8 (dz fhg8_1) Y Y Y ?_
   refine fO (OF.pickF (VEv.tmpB Y (dz fhg8_1)) (VEv.bool false)) (VRunO.nil ?_)
   exact jq (congrArg T.bool (kAF fhg8_1)) (js Y (js Y (js Y (jn))))
 refine aO (tB (decide ((Q8 g f)∧(¬(JV f))))) Y (nt (rt (vb (b':=(decide ((Q8 g f)∧(¬(JV f))))) Y ?_)))
 exact Q6 Iff.rfl
theorem QgA (n:Nat) (g:D.Grid) (f:ByteArray) (hc:g.Cells.size≤maxLen) (hf:f.size≤maxLen):Pure (Qs Tryz.prog (n+4)) 145 [(T.agg (Qe false g)),(tS f)] (tB (decide (QaP g f))):=by
 refine Pure.intro (rs:= [ResultVar.tmp 4]) Tryz.func145 Y Y Y (E0:= [(0,(T.agg (Qe false g))),(1,(tS f))]) Y ?_
 obtain ⟨hlim,hmx,hmax⟩:=QG
 refine sr (kO (B.box (ts:=(Qe false g)) (tv (T.agg (Qe false g)) Y) nofun Y) (fO (OF.assign (VEv.bool false)) (nt (sr (lO (OL.loadOn (us:=(Qe false g)) (tv (T.op 0 0) Y) Y Q4 QX (lb Y) Y) (mO (tS f) Y (cO (cS (vc (tv (T.agg (Qe false g)) Y) (vc (tv (tS f) Y) vn)) (LendL.cons (lg Qw) (lp Y ln)) (Qcy (n+0) g f (by assumption) (by assumption)) Y Y) (mO (tB (decide (Q8 g f))) Y ?_))))))))
 refine VRunO.joinB 4 [9,10,11] 12 (tB (decide ((Q8 g f)∧(Jo f f.size=0)))) ?_ ?_
 ·refine gw (Q8 g f) (fun fhg8_1=> ?_) fun fhg8_1=> ?_
  ·refine gF (dy fhg8_1) Y Y (OF.move (tv (tS f) Y)) ?_
   refine VRunO.chain (VWant.on Y Y (dy fhg8_1)) (cS (vc (tv (tS f) Y) vn) (ZO Y) (Qgn (n+2) f (by assumption)) Y Y) (gF (dy fhg8_1) Y Y (B.eql (c:=(decide (Jo f f.size=0))) (tv (tN (Jo f f.size)) Y) (VEv.int .i64 0) (Q6 (by omega))) (fO (OF.pickT (VEv.tmpB Y (dy fhg8_1)) (tv (tB (decide (Jo f f.size=0))) Y)) (VRunO.nil ?_)))
   exact jq (congrArg T.bool (kAT fhg8_1 Y)) (js Y (js Y (js Y (jn))))
  ·refine QE 3 3 true 8 (dz fhg8_1) Y Y Y ?_
   refine fO (OF.pickF (VEv.tmpB Y (dz fhg8_1)) (VEv.bool false)) (VRunO.nil ?_)
   exact jq (congrArg T.bool (kAF fhg8_1)) (js Y (js Y (js Y (jn))))
 refine aO (tB (decide ((Q8 g f)∧(Jo f f.size=0)))) Y (nt (rt (vb (b':=(decide ((Q8 g f)∧(Jo f f.size=0)))) Y ?_)))
 refine Q6 ?_;rw [QmY];exact Iff.rfl
noncomputable section
def Qdj (p:D.Puzzle):Prop:=Ya p.Grid=0∧p.Clues.length=(Qc p.Grid).length∧p.Seals.length=(Qc p.Grid).length∧(1≤p.Salt∧p.Salt≤9999)∧∀c∈p.Clues,okC c
instance (p:D.Puzzle):Decidable (Qdj p):=Classical.propDecidable _
def noC (c:D.Clue):Prop:=¬okC c
instance (c:D.Clue):Decidable (noC c):=Classical.propDecidable _
end
theorem Qc9 (n:Nat) (c:D.Clue) (hz:QH c≤mx):Pure (Qs Tryz.prog (n+5)) 109 [(T.agg (Qd false c))] (tB (decide (noC c))):=by
 refine Pure.intro (rs:= [ResultVar.tmp 2]) Tryz.func109 Y Y Y (E0:= [(0,(T.agg (Qd false c)))]) Y ?_
 obtain ⟨hlim,hmx,hmax⟩:=QG
 refine sr (kO (B.box (ts:=(Qd false c)) (tv (T.agg (Qd false c)) Y) nofun Y) (fO (OF.assign (VEv.bool false)) (nt (sr (lO (OL.loadOn (us:=(Qd false c)) (tv (T.op 0 0) Y) Y Qby ZP (lb Y) Y) (cO (cS (vc (tv (T.agg (Qd false c)) Y) vn) (LendL.cons (lg okeClue) ln) (QcA (n+0) c (by assumption)) Y Y) (fO (Q1 (tv (tB (decide ((1≤c.Sense∧c.Sense≤99)∧ZI c.Play))) Y)) (aO (tB (!(decide ((1≤c.Sense∧c.Sense≤99)∧ZI c.Play)))) Y (nt (rt (vb (b':=(!(decide ((1≤c.Sense∧c.Sense≤99)∧ZI c.Play)))) Y ?_)))))))))))
 rw [dN];exact Q6 Iff.rfl
theorem ZM (n:Nat) (l:List D.Clue) (hz:zL QH l≤mx):Pure (Qs Tryz.prog (n+6)) 141 [(rd 2 Qd l),(T.fn 109 [])] (tI (ixF noC l)):=by
 refine Pure.intro (rs:= [ResultVar.tmp 4]) Tryz.func141 Y Y Y (E0:= [(0,(rd 2 Qd l)),(1,(T.fn 109 []))]) Y ?_
 obtain ⟨hlim,hmx,hmax⟩:=QG
 have hl:=QU (z:=QH) l
 refine sr (fO (OF.assign (VEv.int .i64 0)) (nt (sq (sr (mO (rd 2 Qd l) Y (lO (B.lenR (m:=l.length) (tv (rd 2 Qd l) Y) U35 (List.length_map ..)) (fO (OF.move (VEv.int .i64 0)) (nt (VRun.block ?_)))))))))
 refine VRun.loop (A:=Nat) (fun s_=> [(0,(rd 2 Qd l)),(1,(T.fn 109 [])),(7,(tN l.length)),(8,(tN s_))]) (fun s_=>QY []) 0 (fun s_=>NoneTo noC l s_) (fun s_=>l.length - s_) (0:Nat) ?_ (Wk.mk (fun k=>k) ?_ ?_ ?_) ?_
 ·exact NoneTo.start _ _
 ·exact (b2 (b2 (b2 (b2 bn))))
 ·exact bn
 ·exact nd Y
 rintro i (hI':NoneTo noC l i)
 show VRun _ _ _ [(0,(rd 2 Qd l)),(1,(T.fn 109 [])),(7,(tN l.length)),(8,(tN i))] (QY []) 0 _
 have hI1:=hI'.1
 refine sr (fO (Zb (tv (tN i) Y) (tv (tN l.length) Y)) (nt (sq ?_)))
 refine cd (i<l.length) Y (fun fhc0=> ?_) fun fhc0=> ?_
 ·refine sk ?_
  refine tn (sq (VRun.block (sr (mO (tN i) Y (aO (tN i) Y (nt (sr (mO (T.fn 109 []) Y (mO (rd 2 Qd l) Y (mO (tN i) Y ?_))))))))))
  obtain ⟨x1,hx1⟩:∃x,l[i]? =some x:=⟨_,List.getElem?_eq_getElem (by omega)⟩
  refine fO (OF.indexAddrR (row:=(Qd false x1)) (i:=i) (tv (rd 2 Qd l) Y) (tv (tN i) Y) Y (Qt _ hx1) U35 ZP Qak) (lO (OL.loadRn (us:=(Qd false x1)) (tv (T.rp (Qd false x1)) Y) Qby ZP (lb Y) Y) (cO (OC.callv (us:= [(T.agg (Qd false x1))]) (ucaps:= []) (r:=(tB (decide (noC x1)))) (r':=(tB (decide (noC x1)))) (objs:= []) Y Y (vc (tv (T.agg (Qd false x1)) Y) vn) (LendL.cons (lg okeClue) ln) ln (Qc9 (n+0) x1 (by exact Nat.le_trans (QaC hx1) hz)) Y) (nt ?_)))
  refine cd (noC x1) Y (fun fhc1=> ?_) fun fhc1=> ?_
  ·refine sr ?_
   refine mO (tN i) Y (aO (tN i) Y (nt (rt (vinB.r (tr (tr (vinB.r (tr (vi (n':=((i:Nat):Int)) Y ?_)))))))))
   exact (Qek hx1 fhc1 hI'.2).symm
  refine sk (vinB.n (tn (VRun.region (fO (Qy (tv (tN i) Y) (VEv.int .i64 1) (by omega)) (mO (tN (i+1)) Y (VRunO.nil (tn ?_)))))))
  refine ⟨(i+1:Nat),?_,?_,Wk.mk (fun k=>k) ?_ ?_ ?_⟩
  ·exact hI'.next hx1 fhc1
  ·omega
  ·exact (b2 (b2 (b2 (b2 bn))))
  ·exact bn
  ·exact nd Y
 refine VRun.exit (vthn.e (vthn.e (vinB.e (tn (sr (fO (OF.assign (VEv.int .i64 (-1))) (nt (rt (vi (n':=(-1)) Y ?_)))))))))
 exact (Qfz (hI'.all fhc0)).symm
theorem ZG (n:Nat) (l:List D.Clue) (hz:zL QH l≤mx):Pure (Qs Tryz.prog (n+7)) 108 [(rd 2 Qd l),(T.fn 109 [])] (tB (decide (∃c∈l,noC c))):=by
 refine Pure.intro (rs:= [ResultVar.tmp 4]) Tryz.func108 Y Y Y (E0:= [(0,(rd 2 Qd l)),(1,(T.fn 109 []))]) Y ?_
 obtain ⟨hlim,hmx,hmax⟩:=QG
 refine sr (fO (OF.assign (VEv.bool false)) (nt (sr (mO (rd 2 Qd l) Y (mO (T.fn 109 []) Y (cO (cS (us:= [(rd 2 Qd l),(T.fn 109 [])]) (vc (tv (rd 2 Qd l) Y) (vc (tv (T.fn 109 []) Y) vn)) (lp Y (LendL.cons (Lend.fn ln) ln)) (ZM (n+0) l (by assumption)) Y Y) (fO (xge (tv (tI (ixF noC l)) Y) (VEv.int .i64 0)) (aO (tB (decide (0≤ixF noC l))) Y (nt (rt (vb (b':=(decide (0≤ixF noC l))) Y ?_)))))))))))
 refine Q6 ?_;exact QjE
theorem QeZ (n:Nat) (a:D.Puzzle) (hz:QK a≤mx):Pure (Qs Tryz.prog (n+10)) 57 [(T.agg (Qv false a))] (tB (decide (Qdj a))):=by
 refine Pure.intro (rs:= [ResultVar.tmp 2]) Tryz.func57 Y Y Y (E0:= [(0,(T.agg (Qv false a)))]) Y ?_
 obtain ⟨hlim,hmx,hmax⟩:=QG
 simp only [QK,ZD] at hz
 have hl:=QU (z:=QH) a.Clues
 have hl2:=QU (z:=zI) a.Seals
 refine sr (kO (B.box (ts:=(Qv false a)) (tv (T.agg (Qv false a)) Y) nofun Y) (fO (OF.assign (VEv.bool false)) (nt (sq (sr (fO (OF.assign (VEv.int .i64 0)) (nt (VRun.block ?_))))))))
 refine VRun.loop (A:=Nat) (fun s_=> [(1,(T.op 0 0)),(3,(tN s_))]) (fun s_=>QY [(0,(Obj.cells (Qv false a)))]) 1 (fun s_=>NoneTo noC a.Clues s_) (fun s_=>a.Clues.length - s_) (0:Nat) ?_ (Wk.mk (fun k=>k) ?_ ?_ ?_) ?_
 ·exact NoneTo.start _ _
 ·exact (b2 (b2 bn))
 ·exact (b3 bn)
 ·exact nd Y
 rintro i (hI':NoneTo noC a.Clues i)
 show VRun _ _ _ [(1,(T.op 0 0)),(3,(tN i))] (QY [(0,(Obj.cells (Qv false a)))]) 1 _
 have hI1:=hI'.1
 refine sq (sr (mO (tN i) Y (lf (rd 2 Qd a.Clues) Y Yu Y Y QbE (lO (B.lenR (m:=a.Clues.length) (tv (rd 2 Qd a.Clues) Y) U35 (List.length_map ..)) (fO (Zb (tv (tN i) Y) (tv (tN a.Clues.length) Y)) (nt ?_))))))
 refine cd (i<a.Clues.length) Y (fun fhc0=> ?_) fun fhc0=> ?_
 ·refine sk ?_
  refine tn (sq (VRun.block (sr (lf (rd 2 Qd a.Clues) Y Yu Y Y QbE (mO (tN i) Y ?_)))))
  obtain ⟨x1,hx1⟩:∃x,a.Clues[i]? =some x:=⟨_,List.getElem?_eq_getElem (by omega)⟩
  refine fO (OF.indexAddrR (row:=(Qd false x1)) (i:=i) (tv (rd 2 Qd a.Clues) Y) (tv (tN i) Y) Y (Qt _ hx1) U35 ZP Qak) (lO (OL.loadRn (us:=(Qd false x1)) (tv (T.rp (Qd false x1)) Y) Qby ZP (lb Y) Y) (cO (cS (vc (tv (T.agg (Qd false x1)) Y) vn) (LendL.cons (lg okeClue) ln) (Qcz (n+4) x1 (by exact Nat.le_trans (QaC hx1) (by omega))) Y Y) (fO (Q1 (tv (tB (decide ((1≤x1.Sense∧x1.Sense≤99)∧ZI x1.Play))) Y)) (nt ?_))))
  refine cn ((1≤x1.Sense∧x1.Sense≤99)∧ZI x1.Play) Y (fun fhc1=> ?_) fun fhc1=> ?_
  ·refine sr ?_
   refine fO (OF.assign (VEv.bool false)) (nt (rt (vinB.r (tr (tr (vinB.r (tr (vb (b':=false) Y ?_))))))))
   symm;rw [decide_eq_false_iff_not];rintro ⟨_,_,_,_,h⟩;exact fhc1 (h x1 (List.mem_of_getElem? hx1))
  refine sk (vinB.n (tn (VRun.region (mO (tN i) Y (fO (Qy (tv (tN i) Y) (VEv.int .i64 1) (by omega)) (aO (tN (i+1)) Y (VRunO.nil (tn ?_))))))))
  refine ⟨(i+1:Nat),?_,?_,Wk.mk (fun k=>k) ?_ ?_ ?_⟩
  ·exact hI'.next hx1 (fun h=>h fhc1)
  ·omega
  ·exact (b2 (b2 bn))
  ·exact (b3 bn)
  ·exact nd Y
 refine VRun.exit (vthn.e (vthn.e (vinB.e (tn (sr (fO (OF.fieldAddrO (tv (T.op 0 0) Y) Ju) (lO (OL.loadOn (us:=(Qe false a.Grid)) (tv (T.op 0 0) Y) Y Q4 QX (lb Y) Y) (cO (OC.callF (r':=(T.os 4 1 0 (((Qc a.Grid).map (Qk true)).length))) (objs:= [(Obj.rows 4 ((Qc a.Grid).map (Qk true)))]) Y (vc (tv (T.agg (Qe false a.Grid)) Y) vn) (LendL.cons (lg Qw) ln) (ZJ (n+6) a.Grid (by omega)) Y) (lO (B.lenO (m:=(Qc a.Grid).length) (tv (T.os 4 1 0 (((Qc a.Grid).map (Qk true)).length)) Y) Yh (List.length_map ..)) (aO (tN ((Qc a.Grid).length)) Y (nt ?_)))))))))))
 refine sr (fO (OF.fieldAddrO (tv (T.op 0 0) Y) Ju) (lO (OL.loadOn (us:=(Qe false a.Grid)) (tv (T.op 0 0) Y) Y Q4 QX (lb Y) Y) (cO (cS (vc (tv (T.agg (Qe false a.Grid)) Y) vn) (LendL.cons (lg Qw) ln) (Qgj (n+0) a.Grid (by omega)) Y Y) (fO (Y9 (tv (tI (Ya a.Grid)) Y) (VEv.int .i64 0)) (mO (tB (decide (Ya a.Grid=0))) Y ?_)))))
 refine VRunO.joinB 6 [28,29,30,31,32] 33 (tB (decide ((Ya a.Grid=0)∧(a.Clues.length=(Qc a.Grid).length)))) ?_ ?_
 ·refine gw (Ya a.Grid=0) (fun fhg27_1=> ?_) fun fhg27_1=> ?_
  ·refine Yx (rd 2 Qd a.Clues) (dy fhg27_1) Y Y Y Y Yu Y Y QbE ?_
   refine gL (dy fhg27_1) Y Y (B.lenR (m:=a.Clues.length) (tv (rd 2 Qd a.Clues) Y) U35 (List.length_map ..)) (gF (dy fhg27_1) Y Y (OF.move (tv (tN ((Qc a.Grid).length)) Y)) (gF (dy fhg27_1) Y Y (QkF (tv (tN a.Clues.length) Y) (tv (tN ((Qc a.Grid).length)) Y)) (fO (OF.pickT (VEv.tmpB Y (dy fhg27_1)) (tv (tB (decide (a.Clues.length=(Qc a.Grid).length))) Y)) (VRunO.nil ?_))))
   exact jq (congrArg T.bool (kAT fhg27_1 Y)) (js Y (js Y (js Y (js Y (js Y (jn))))))
  ·refine QE 5 4 true 27 (dz fhg27_1) Y Y Y ?_
   refine fO (OF.pickF (VEv.tmpB Y (dz fhg27_1)) (VEv.bool false)) (VRunO.nil ?_)
   exact jq (congrArg T.bool (kAF fhg27_1)) (js Y (js Y (js Y (js Y (js Y (jn))))))
 refine mO (tB (decide ((Ya a.Grid=0)∧(a.Clues.length=(Qc a.Grid).length)))) Y ?_
 refine VRunO.joinB 6 [35,36,37,38,39] 40 (tB (decide (((Ya a.Grid=0)∧(a.Clues.length=(Qc a.Grid).length))∧(a.Seals.length=(Qc a.Grid).length)))) ?_ ?_
 ·refine gw ((Ya a.Grid=0)∧(a.Clues.length=(Qc a.Grid).length)) (fun fhg34_2=> ?_) fun fhg34_2=> ?_
  ·refine Yx (rd 1 Qb a.Seals) (dy fhg34_2) Y Y Y Y JH Y Y QbP ?_
   refine gL (dy fhg34_2) Y Y (B.lenR (m:=a.Seals.length) (tv (rd 1 Qb a.Seals) Y) Zr (List.length_map ..)) (gF (dy fhg34_2) Y Y (OF.move (tv (tN ((Qc a.Grid).length)) Y)) (gF (dy fhg34_2) Y Y (QkF (tv (tN a.Seals.length) Y) (tv (tN ((Qc a.Grid).length)) Y)) (fO (OF.pickT (VEv.tmpB Y (dy fhg34_2)) (tv (tB (decide (a.Seals.length=(Qc a.Grid).length))) Y)) (VRunO.nil ?_))))
   exact jq (congrArg T.bool (kAT fhg34_2 Y)) (js Y (js Y (js Y (js Y (js Y (jn))))))
  ·refine QE 5 11 true 34 (dz fhg34_2) Y Y Y ?_
   refine fO (OF.pickF (VEv.tmpB Y (dz fhg34_2)) (VEv.bool false)) (VRunO.nil ?_)
   exact jq (congrArg T.bool (kAF fhg34_2)) (js Y (js Y (js Y (js Y (js Y (jn))))))
 refine mO (tB (decide (((Ya a.Grid=0)∧(a.Clues.length=(Qc a.Grid).length))∧(a.Seals.length=(Qc a.Grid).length)))) Y ?_
 refine VRunO.joinB 4 [42,43,44] 45 (tB (decide ((((Ya a.Grid=0)∧(a.Clues.length=(Qc a.Grid).length))∧(a.Seals.length=(Qc a.Grid).length))∧(1≤a.Salt∧a.Salt≤9999)))) ?_ ?_
 ·refine gw (((Ya a.Grid=0)∧(a.Clues.length=(Qc a.Grid).length))∧(a.Seals.length=(Qc a.Grid).length)) (fun fhg41_3=> ?_) fun fhg41_3=> ?_
  ·refine Yx (tI a.Salt) (dy fhg41_3) Y Y Y Y Qbm Y Y QQ ?_
   refine VRunO.chain (VWant.on Y Y (dy fhg41_3)) (cS (vc (tv (tI a.Salt) Y) (vc (VEv.int .i64 1) (vc (VEv.int .i64 9999) vn))) (ZO Y) (QT (n+8) a.Salt 1 9999) Y Y) (fO (OF.pickT (VEv.tmpB Y (dy fhg41_3)) (tv (tB (decide (1≤a.Salt∧a.Salt≤9999))) Y)) (VRunO.nil ?_))
   exact jq (congrArg T.bool (kAT fhg41_3 Y)) (js Y (js Y (js Y (jn))))
  ·refine QE 3 18 true 41 (dz fhg41_3) Y Y Y ?_
   refine fO (OF.pickF (VEv.tmpB Y (dz fhg41_3)) (VEv.bool false)) (VRunO.nil ?_)
   exact jq (congrArg T.bool (kAF fhg41_3)) (js Y (js Y (js Y (jn))))
 refine aO (tB (decide ((((Ya a.Grid=0)∧(a.Clues.length=(Qc a.Grid).length))∧(a.Seals.length=(Qc a.Grid).length))∧(1≤a.Salt∧a.Salt≤9999)))) Y (nt (rt (vb (b':=(decide ((((Ya a.Grid=0)∧(a.Clues.length=(Qc a.Grid).length))∧(a.Seals.length=(Qc a.Grid).length))∧(1≤a.Salt∧a.Salt≤9999)))) Y ?_)))
 refine Q6 ⟨fun h=>⟨h.1.1.1,h.1.1.2,h.1.2,h.2,fun c hc=>Classical.byContradiction fun e=>hI'.mem fhc0 c hc e⟩,fun h=>⟨⟨⟨h.1,h.2.1⟩,h.2.2.1⟩,h.2.2.2.1⟩⟩
theorem Qe0 (n:Nat) (a:D.Puzzle) (hz:QK a≤mx):Pure (Qs Tryz.prog (n+42)) 62 [(T.agg (Qv false a))] (tB (decide (Qdj a))):=by
 refine Pure.intro (rs:= [ResultVar.tmp 2]) Tryz.func62 Y Y Y (E0:= [(0,(T.agg (Qv false a)))]) Y ?_
 obtain ⟨hlim,hmx,hmax⟩:=QG
 simp only [QK,ZD] at hz
 have hl:=QU (z:=QH) a.Clues
 have hl2:=QU (z:=zI) a.Seals
 refine sr (kO (B.box (ts:=(Qv false a)) (tv (T.agg (Qv false a)) Y) nofun Y) (fO (OF.assign (VEv.bool false)) (nt (sq (sr (fO (OF.fieldAddrO (tv (T.op 0 0) Y) Ju) (lO (OL.loadOn (us:=(Qe false a.Grid)) (tv (T.op 0 0) Y) Y Q4 QX (lb Y) Y) (cO (cS (vc (tv (T.agg (Qe false a.Grid)) Y) vn) (LendL.cons (lg Qw) ln) (Qgq (n+0) a.Grid (by omega)) Y Y) (fO (xne (tv (tI (Ya a.Grid)) Y) (VEv.int .i64 0)) (nt ?_))))))))))
 refine cn (Ya a.Grid=0) Y (fun fhc0=> ?_) fun fhc0=> ?_
 ·refine sr ?_
  refine fO (OF.assign (VEv.bool false)) (nt (rt (tr (vb (b':=false) Y ?_))))
  symm;rw [decide_eq_false_iff_not];intro h;exact fhc0 h.1
 refine sk (tn (sr (fO (OF.fieldAddrO (tv (T.op 0 0) Y) Ju) (lO (OL.loadOn (us:=(Qe false a.Grid)) (tv (T.op 0 0) Y) Y Q4 QX (lb Y) Y) (cO (OC.callF (r':=(T.os 4 1 0 (((Qc a.Grid).map (Qk true)).length))) (objs:= [(Obj.rows 4 ((Qc a.Grid).map (Qk true)))]) Y (vc (tv (T.agg (Qe false a.Grid)) Y) vn) (LendL.cons (lg Qw) ln) (Qaf (n+38) a.Grid (by omega)) Y) (lO (B.lenO (m:=(Qc a.Grid).length) (tv (T.os 4 1 0 (((Qc a.Grid).map (Qk true)).length)) Y) Yh (List.length_map ..)) (aO (tN ((Qc a.Grid).length)) Y (nt (sr (lf (rd 2 Qd a.Clues) Y Yu Y Y QbE (lO (B.lenR (m:=a.Clues.length) (tv (rd 2 Qd a.Clues) Y) U35 (List.length_map ..)) ?_)))))))))))
 refine mO (tN ((Qc a.Grid).length)) Y (fO (QkF (tv (tN a.Clues.length) Y) (tv (tN ((Qc a.Grid).length)) Y)) (mO (tB (decide (a.Clues.length=(Qc a.Grid).length))) Y ?_))
 refine gw (a.Clues.length=(Qc a.Grid).length) (fun fhg17_1=> ?_) fun fhg17_1=> ?_
 ·refine Yx (rd 1 Qb a.Seals) (dy fhg17_1) Y Y Y Y JH Y Y QbP ?_
  refine gL (dy fhg17_1) Y Y (B.lenR (m:=a.Seals.length) (tv (rd 1 Qb a.Seals) Y) Zr (List.length_map ..)) (gF (dy fhg17_1) Y Y (OF.move (tv (tN ((Qc a.Grid).length)) Y)) (gF (dy fhg17_1) Y Y (QkF (tv (tN a.Seals.length) Y) (tv (tN ((Qc a.Grid).length)) Y)) (fO (OF.pickT (VEv.tmpB Y (dy fhg17_1)) (tv (tB (decide (a.Seals.length=(Qc a.Grid).length))) Y)) (mO (tB (decide (a.Seals.length=(Qc a.Grid).length))) Y ?_))))
  refine gw (a.Seals.length=(Qc a.Grid).length) (fun fhg24_2=> ?_) fun fhg24_2=> ?_
  ·refine Yx (tI a.Salt) (dy fhg24_2) Y Y Y Y Qbm Y Y QQ ?_
   refine VRunO.chain (VWant.on Y Y (dy fhg24_2)) (cS (vc (tv (tI a.Salt) Y) (vc (VEv.int .i64 1) (vc (VEv.int .i64 9999) vn))) (ZO Y) (Zc (n+40) a.Salt 1 9999) Y Y) (fO (OF.pickT (VEv.tmpB Y (dy fhg24_2)) (tv (tB (decide (1≤a.Salt∧a.Salt≤9999))) Y)) (mO (tB (decide (1≤a.Salt∧a.Salt≤9999))) Y ?_))
   refine gw (1≤a.Salt∧a.Salt≤9999) (fun fhg29_3=> ?_) fun fhg29_3=> ?_
   ·refine Yx (rd 2 Qd a.Clues) (dy fhg29_3) Y Y Y Y Yu Y Y QbE ?_
    refine VRunO.chain (VWant.on Y Y (dy fhg29_3)) (cS (us:= [(rd 2 Qd a.Clues),(T.fn 109 [])]) (vc (tv (rd 2 Qd a.Clues) Y) (vc (VEv.func 109) vn)) (lp Y (LendL.cons (Lend.fn ln) ln)) (ZG (n+34) a.Clues (by omega)) Y Y) (gF (dy fhg29_3) Y Y (Q1 (tv (tB (decide (∃c∈a.Clues,noC c))) Y)) (fO (OF.pickT (VEv.tmpB Y (dy fhg29_3)) (tv (tB (!(decide (∃c∈a.Clues,noC c)))) Y)) (aO (tB (!(decide (∃c∈a.Clues,noC c)))) Y (nt (rt (vb (b':=(!(decide (∃c∈a.Clues,noC c)))) Y ?_))))))
    (rw [dN];refine Q6 ⟨fun h=>⟨?_,?_,?_,?_,fun c hc=>Classical.byContradiction fun e=>h ⟨c,hc,e⟩⟩,fun h=> ?_⟩<;>first | assumption | (rintro ⟨c,hc,hb⟩;exact hb (h.2.2.2.2 c hc)))
   refine QE 4 17 true 29 (dz fhg29_3) Y Y Y (fO (OF.pickF (VEv.tmpB Y (dz fhg29_3)) (VEv.bool false)) (aO (tB false) Y (nt (rt (vb (b':=false) Y ?_)))))
   (symm;rw [decide_eq_false_iff_not];rintro ⟨h1,h2,h3,h4,h5⟩;contradiction)
  refine QE 3 12 true 24 (dz fhg24_2) Y Y Y (fO (OF.pickF (VEv.tmpB Y (dz fhg24_2)) (VEv.bool false)) (mO (tB false) Y (QE 4 17 true 29 (b:=false) Y Y Y Y (fO (OF.pickF (tv (tB false) Y) (VEv.bool false)) (aO (tB false) Y (nt (rt (vb (b':=false) Y ?_))))))))
  (symm;rw [decide_eq_false_iff_not];rintro ⟨h1,h2,h3,h4,h5⟩;contradiction)
 refine QE 5 5 true 17 (dz fhg17_1) Y Y Y (fO (OF.pickF (VEv.tmpB Y (dz fhg17_1)) (VEv.bool false)) (mO (tB false) Y (QE 3 12 true 24 (b:=false) Y Y Y Y (fO (OF.pickF (tv (tB false) Y) (VEv.bool false)) (mO (tB false) Y (QE 4 17 true 29 (b:=false) Y Y Y Y (fO (OF.pickF (tv (tB false) Y) (VEv.bool false)) (aO (tB false) Y (nt (rt (vb (b':=false) Y ?_)))))))))))
 (symm;rw [decide_eq_false_iff_not];rintro ⟨h1,h2,h3,h4,h5⟩;contradiction)
noncomputable section
def QV (p:D.Puzzle) (f:ByteArray):Prop:=Qdj p∧QaP p.Grid f∧(ZS p.Grid f p.Seals p.Salt).length=p.Clues.length
instance (p:D.Puzzle) (f:ByteArray):Decidable (QV p f):=Classical.propDecidable _
end
theorem QeP (n:Nat) (a:D.Puzzle) (f:ByteArray) (hz:QK a≤mx) (hf:f.size≤maxLen):Pure (Qs Tryz.prog (n+11)) 98 [(T.agg (Qv false a)),(tS f)] (tB (decide (QV a f))):=by
 refine Pure.intro (rs:= [ResultVar.tmp 4]) Tryz.func98 Y Y Y (E0:= [(0,(T.agg (Qv false a))),(1,(tS f))]) Y ?_
 obtain ⟨hlim,hmx,hmax⟩:=QG
 have hz2:=hz
 simp only [QK,ZD] at hz2
 have hl:=QU (z:=QH) a.Clues
 have hl2:=QU (z:=zI) a.Seals
 have hrl:=QfV a.Grid f a.Seals a.Salt
 refine sr (kO (B.box (ts:=(Qv false a)) (tv (T.agg (Qv false a)) Y) nofun Y) (fO (OF.assign (VEv.bool false)) (nt (sq (VRun.draw (B:= [[],[0],[0,1],[1,0,2],[2,0,1,3],[1,0,2],[5,3,1,0,2,4],[4,3,5,6,1,0,2],[2,0,1,6,5,3,4,7],[7,4,3,5,6,1,0,2,8],[8,2,0,1,6,5,3,4,7,9],[7,4,3,5,6,1,0,2,8],[7,4,3,5,6,1,0,2,8],[8,2,0,1,6,5,3,4,7,12],[7,4,3,5,6,1,0,2,8],[8,2,0,1,6,5,3,4,7,14],[14,15,12,13,11,9,7,4,3,5,6,1,0,2,8,10],[10,8,2,0,1,6,5,3,4,7,9,11,13,12,15,14,16],[7,4,3,5,6,1,0,2,8],[8,2,0,1,6,5,3,4,7,18],[18,7,4,3,5,6,1,0,2,8,19],[19,18,20,16,14,15,12,13,11,9,7,4,3,5,6,1,0,2,8,10,17],[17,10,9,11,13,12,15,14,16,20,18,19,21,7,4,3,5,6,1,0,2,8],[8,2,0,1,6,5,3,4,7,21,19,18,20,16,14,15,12,13,11,9,10,17,22]]) (by kernel_rfl) (by kernel_rfl) (lD (OL.loadOn (us:=(Qv false a)) (tv (T.op 0 0) Y) Y Jn Yc (lb Y) Y) Y Y (VRunD.quiet (bi:= [0]) Y VWant.always Y Y Y bn (cS (vc (tv (T.agg (Qv false a)) Y) vn) (LendL.cons (lg Yt) ln) (QeZ (n+0) a (by assumption)) Y Y) (mD (tB (decide (Qdj a))) Y Y ?_))))))))
 refine gw (Qdj a) (fun fhg7_1=> ?_) fun fhg7_1=> ?_
 ·refine VRunD.free Y (VWant.on Y Y (dy fhg7_1)) Y (OF.fieldAddrO (tv (T.op 0 0) Y) Ju) ?_
  refine VRunD.look Y (VWant.on Y Y (dy fhg7_1)) Y (OL.loadOn (us:=(Qe false a.Grid)) (tv (T.op 0 0) Y) Y Q4 QX (lb Y) Y) (VRunD.free Y (VWant.on Y Y (dy fhg7_1)) Y (OF.move (tv (tS f) Y)) (VRunD.quiet (bi:= [5,3,1,0,2,4]) Y (VWant.on Y Y (dy fhg7_1)) Y Y Y bn (cS (vc (tv (T.agg (Qe false a.Grid)) Y) (vc (tv (tS f) Y) vn)) (LendL.cons (lg Qw) (lp Y ln)) (Qgt (n+6) a.Grid f (by omega) (by assumption)) Y Y) (fD (OF.pickT (VEv.tmpB Y (dy fhg7_1)) (tv (tB (decide (QaP a.Grid f))) Y)) Y Y (mD (tB (decide (QaP a.Grid f))) Y Y ?_))))
  refine gw (QaP a.Grid f) (fun fhg13_2=> ?_) fun fhg13_2=> ?_
  ·refine VRunD.free Y (VWant.on Y Y (dy fhg13_2)) Y (OF.fieldAddrO (tv (T.op 0 0) Y) Ju) ?_
   refine VRunD.look Y (VWant.on Y Y (dy fhg13_2)) Y (OL.loadOn (us:=(Qe false a.Grid)) (tv (T.op 0 0) Y) Y Q4 QX (lb Y) Y) (VRunD.free Y (VWant.on Y Y (dy fhg13_2)) Y (OF.move (tv (tS f) Y)) (VRunD.free Y (VWant.on Y Y (dy fhg13_2)) Y (OF.fieldAddrO (tv (T.op 0 0) Y) JH) (VRunD.look Y (VWant.on Y Y (dy fhg13_2)) Y (OL.loadO1 (t:=(rd 1 Qb a.Seals)) (tv (T.op 0 4) Y) Y Y QbP) (VRunD.free Y (VWant.on Y Y (dy fhg13_2)) Y (OF.fieldAddrO (tv (T.op 0 0) Y) Qbm) (VRunD.look Y (VWant.on Y Y (dy fhg13_2)) Y (OL.loadO1 (t:=(tI a.Salt)) (tv (T.op 0 5) Y) Y Y QQ) (VRunD.quiet (bi:= [14,15,12,13,11,9,7,4,3,5,6,1,0,2,8,10]) Y (VWant.on Y Y (dy fhg13_2)) Y Y Y bn (OC.callF (r':=(T.os 1 1 0 (((ZS a.Grid f a.Seals a.Salt).map (Qb true)).length))) (objs:= [(Obj.rows 1 ((ZS a.Grid f a.Seals a.Salt).map (Qb true)))]) Y (vc (tv (T.agg (Qe false a.Grid)) Y) (vc (tv (tS f) Y) (vc (tv (rd 1 Qb a.Seals) Y) (vc (tv (tI a.Salt) Y) vn)))) (LendL.cons (lg Qw) (lp Y (lp Y (lp Y ln)))) (Qc5 (n+4) a.Grid f a.Seals a.Salt (by omega) (by assumption) (by omega)) Y) (VRunD.look Y (VWant.on Y Y (dy fhg13_2)) Y (B.lenO (m:=(ZS a.Grid f a.Seals a.Salt).length) (tv (T.os 1 1 0 (((ZS a.Grid f a.Seals a.Salt).map (Qb true)).length)) Y) Zr (List.length_map ..)) (VRunD.free Y (VWant.on Y Y (dy fhg13_2)) Y (OF.fieldAddrO (tv (T.op 0 0) Y) Yu) (VRunD.look Y (VWant.on Y Y (dy fhg13_2)) Y (OL.loadO1 (t:=(rd 2 Qd a.Clues)) (tv (T.op 0 3) Y) Y Y QbE) (VRunD.look Y (VWant.on Y Y (dy fhg13_2)) Y (B.lenR (m:=a.Clues.length) (tv (rd 2 Qd a.Clues) Y) U35 (List.length_map ..)) (VRunD.free Y (VWant.on Y Y (dy fhg13_2)) Y (QkF (tv (tN ((ZS a.Grid f a.Seals a.Salt).length)) Y) (tv (tN a.Clues.length) Y)) ?_)))))))))))
   refine fD (OF.pickT (VEv.tmpB Y (dy fhg13_2)) (tv (tB (decide ((ZS a.Grid f a.Seals a.Salt).length=a.Clues.length))) Y)) Y Y (fD (OF.assign (tv (tB (decide ((ZS a.Grid f a.Seals a.Salt).length=a.Clues.length))) Y)) Y Y (VRunD.nil (tn (rt (vb (b':=(decide ((ZS a.Grid f a.Seals a.Salt).length=a.Clues.length))) Y ?_)))))
   (refine Q6 ⟨fun h=>⟨?_,?_,h⟩,fun h=>h.2.2⟩<;>assumption)
  refine oD Y Y (dz fhg13_2) Y (oD Y Y (dz fhg13_2) Y (oD Y Y (dz fhg13_2) Y (oD Y Y (dz fhg13_2) Y (oD Y Y (dz fhg13_2) Y (oD Y Y (dz fhg13_2) Y (oD Y Y (dz fhg13_2) Y (oD Y Y (dz fhg13_2) Y (oD Y Y (dz fhg13_2) Y (oD Y Y (dz fhg13_2) Y (oD Y Y (dz fhg13_2) Y (oD Y Y (dz fhg13_2) Y ?_)))))))))))
  refine oD Y Y (dz fhg13_2) Y (fD (OF.pickF (VEv.tmpB Y (dz fhg13_2)) (VEv.bool false)) Y Y (fD (OF.assign (tv (tB false) Y)) Y Y (VRunD.nil (tn (rt (vb (b':=false) Y ?_))))))
  (symm;rw [decide_eq_false_iff_not];rintro ⟨h1,h2,h3⟩;contradiction)
 refine oD Y Y (dz fhg7_1) Y (oD Y Y (dz fhg7_1) Y (oD Y Y (dz fhg7_1) Y (oD Y Y (dz fhg7_1) Y (fD (OF.pickF (VEv.tmpB Y (dz fhg7_1)) (VEv.bool false)) Y Y (mD (tB false) Y Y (VRunD.off Y (VWant.not (b:=false) Y Y Y) (VRunD.off Y (VWant.not (b:=false) Y Y Y) (VRunD.off Y (VWant.not (b:=false) Y Y Y) (VRunD.off Y (VWant.not (b:=false) Y Y Y) (VRunD.off Y (VWant.not (b:=false) Y Y Y) (VRunD.off Y (VWant.not (b:=false) Y Y Y) ?_)))))))))))
 refine VRunD.off Y (VWant.not (b:=false) Y Y Y) (VRunD.off Y (VWant.not (b:=false) Y Y Y) (VRunD.off Y (VWant.not (b:=false) Y Y Y) (VRunD.off Y (VWant.not (b:=false) Y Y Y) (VRunD.off Y (VWant.not (b:=false) Y Y Y) (VRunD.off Y (VWant.not (b:=false) Y Y Y) (VRunD.off Y (VWant.not (b:=false) Y Y Y) (fD (OF.pickF (tv (tB false) Y) (VEv.bool false)) Y Y (fD (OF.assign (tv (tB false) Y)) Y Y (VRunD.nil (tn (rt ?_)))))))))))
 refine vb (b':=false) Y ?_
 (symm;rw [decide_eq_false_iff_not];rintro ⟨h1,h2,h3⟩;contradiction)
theorem QeD (n:Nat) (a:D.Puzzle) (f:ByteArray) (hz:QK a≤mx) (hf:f.size≤maxLen):Pure (Qs Tryz.prog (n+43)) 117 [(T.agg (Qv false a)),(tS f)] (tB (decide (QV a f))):=by
 refine Pure.intro (rs:= [ResultVar.tmp 4]) Tryz.func117 Y Y Y (E0:= [(0,(T.agg (Qv false a))),(1,(tS f))]) Y ?_
 obtain ⟨hlim,hmx,hmax⟩:=QG
 have hz2:=hz
 simp only [QK,ZD] at hz2
 have hl:=QU (z:=QH) a.Clues
 have hl2:=QU (z:=zI) a.Seals
 have hrl:=QfV a.Grid f a.Seals a.Salt
 refine sr (kO (B.box (ts:=(Qv false a)) (tv (T.agg (Qv false a)) Y) nofun Y) (fO (OF.assign (VEv.bool false)) (nt (sq (VRun.draw (B:= [[],[0],[0,1],[1,0,2],[2,0,1,3],[1,0,2],[5,3,1,0,2,4],[4,3,5,6,1,0,2],[2,0,1,6,5,3,4,7],[7,4,3,5,6,1,0,2,8],[8,2,0,1,6,5,3,4,7,9],[7,4,3,5,6,1,0,2,8],[7,4,3,5,6,1,0,2,8],[8,2,0,1,6,5,3,4,7,12],[7,4,3,5,6,1,0,2,8],[8,2,0,1,6,5,3,4,7,14],[14,15,12,13,11,9,7,4,3,5,6,1,0,2,8,10],[10,8,2,0,1,6,5,3,4,7,9,11,13,12,15,14,16],[7,4,3,5,6,1,0,2,8],[8,2,0,1,6,5,3,4,7,18],[18,7,4,3,5,6,1,0,2,8,19],[19,18,20,16,14,15,12,13,11,9,7,4,3,5,6,1,0,2,8,10,17],[17,10,9,11,13,12,15,14,16,20,18,19,21,7,4,3,5,6,1,0,2,8],[8,2,0,1,6,5,3,4,7,21,19,18,20,16,14,15,12,13,11,9,10,17,22]]) (by kernel_rfl) (by kernel_rfl) (lD (OL.loadOn (us:=(Qv false a)) (tv (T.op 0 0) Y) Y Jn Yc (lb Y) Y) Y Y (VRunD.quiet (bi:= [0]) Y VWant.always Y Y Y bn (cS (vc (tv (T.agg (Qv false a)) Y) vn) (LendL.cons (lg Yt) ln) (Qe0 (n+0) a (by assumption)) Y Y) (mD (tB (decide (Qdj a))) Y Y ?_))))))))
 refine gw (Qdj a) (fun fhg7_1=> ?_) fun fhg7_1=> ?_
 ·refine VRunD.free Y (VWant.on Y Y (dy fhg7_1)) Y (OF.fieldAddrO (tv (T.op 0 0) Y) Ju) ?_
  refine VRunD.look Y (VWant.on Y Y (dy fhg7_1)) Y (OL.loadOn (us:=(Qe false a.Grid)) (tv (T.op 0 0) Y) Y Q4 QX (lb Y) Y) (VRunD.free Y (VWant.on Y Y (dy fhg7_1)) Y (OF.move (tv (tS f) Y)) (VRunD.quiet (bi:= [5,3,1,0,2,4]) Y (VWant.on Y Y (dy fhg7_1)) Y Y Y bn (cS (vc (tv (T.agg (Qe false a.Grid)) Y) (vc (tv (tS f) Y) vn)) (LendL.cons (lg Qw) (lp Y ln)) (QgA (n+38) a.Grid f (by omega) (by assumption)) Y Y) (fD (OF.pickT (VEv.tmpB Y (dy fhg7_1)) (tv (tB (decide (QaP a.Grid f))) Y)) Y Y (mD (tB (decide (QaP a.Grid f))) Y Y ?_))))
  refine gw (QaP a.Grid f) (fun fhg13_2=> ?_) fun fhg13_2=> ?_
  ·refine VRunD.free Y (VWant.on Y Y (dy fhg13_2)) Y (OF.fieldAddrO (tv (T.op 0 0) Y) Ju) ?_
   refine VRunD.look Y (VWant.on Y Y (dy fhg13_2)) Y (OL.loadOn (us:=(Qe false a.Grid)) (tv (T.op 0 0) Y) Y Q4 QX (lb Y) Y) (VRunD.free Y (VWant.on Y Y (dy fhg13_2)) Y (OF.move (tv (tS f) Y)) (VRunD.free Y (VWant.on Y Y (dy fhg13_2)) Y (OF.fieldAddrO (tv (T.op 0 0) Y) JH) (VRunD.look Y (VWant.on Y Y (dy fhg13_2)) Y (OL.loadO1 (t:=(rd 1 Qb a.Seals)) (tv (T.op 0 4) Y) Y Y QbP) (VRunD.free Y (VWant.on Y Y (dy fhg13_2)) Y (OF.fieldAddrO (tv (T.op 0 0) Y) Qbm) (VRunD.look Y (VWant.on Y Y (dy fhg13_2)) Y (OL.loadO1 (t:=(tI a.Salt)) (tv (T.op 0 5) Y) Y Y QQ) (VRunD.quiet (bi:= [14,15,12,13,11,9,7,4,3,5,6,1,0,2,8,10]) Y (VWant.on Y Y (dy fhg13_2)) Y Y Y bn (OC.callF (r':=(T.os 1 1 0 (((ZS a.Grid f a.Seals a.Salt).map (Qb true)).length))) (objs:= [(Obj.rows 1 ((ZS a.Grid f a.Seals a.Salt).map (Qb true)))]) Y (vc (tv (T.agg (Qe false a.Grid)) Y) (vc (tv (tS f) Y) (vc (tv (rd 1 Qb a.Seals) Y) (vc (tv (tI a.Salt) Y) vn)))) (LendL.cons (lg Qw) (lp Y (lp Y (lp Y ln)))) (Qdz (n+36) a.Grid f a.Seals a.Salt (by omega) (by assumption) (by omega)) Y) (VRunD.look Y (VWant.on Y Y (dy fhg13_2)) Y (B.lenO (m:=(ZS a.Grid f a.Seals a.Salt).length) (tv (T.os 1 1 0 (((ZS a.Grid f a.Seals a.Salt).map (Qb true)).length)) Y) Zr (List.length_map ..)) (VRunD.free Y (VWant.on Y Y (dy fhg13_2)) Y (OF.fieldAddrO (tv (T.op 0 0) Y) JH) (VRunD.look Y (VWant.on Y Y (dy fhg13_2)) Y (OL.loadO1 (t:=(rd 1 Qb a.Seals)) (tv (T.op 0 4) Y) Y Y QbP) (VRunD.look Y (VWant.on Y Y (dy fhg13_2)) Y (B.lenR (m:=a.Seals.length) (tv (rd 1 Qb a.Seals) Y) Zr (List.length_map ..)) (VRunD.free Y (VWant.on Y Y (dy fhg13_2)) Y (QkF (tv (tN ((ZS a.Grid f a.Seals a.Salt).length)) Y) (tv (tN a.Seals.length) Y)) ?_)))))))))))
   refine fD (OF.pickT (VEv.tmpB Y (dy fhg13_2)) (tv (tB (decide ((ZS a.Grid f a.Seals a.Salt).length=a.Seals.length))) Y)) Y Y (fD (OF.assign (tv (tB (decide ((ZS a.Grid f a.Seals a.Salt).length=a.Seals.length))) Y)) Y Y (VRunD.nil (tn (rt (vb (b':=(decide ((ZS a.Grid f a.Seals a.Salt).length=a.Seals.length))) Y ?_)))))
   (refine Q6 ⟨fun h=>⟨?_,?_,?_⟩,fun h=> ?_⟩<;>first | assumption | (have h9:=h.1;rw [h.2.2,h9.2.1,h9.2.2.1]) | (have h9:Qdj a:=(by assumption);rw [h,h9.2.2.1,h9.2.1]))
  refine oD Y Y (dz fhg13_2) Y (oD Y Y (dz fhg13_2) Y (oD Y Y (dz fhg13_2) Y (oD Y Y (dz fhg13_2) Y (oD Y Y (dz fhg13_2) Y (oD Y Y (dz fhg13_2) Y (oD Y Y (dz fhg13_2) Y (oD Y Y (dz fhg13_2) Y (oD Y Y (dz fhg13_2) Y (oD Y Y (dz fhg13_2) Y (oD Y Y (dz fhg13_2) Y (oD Y Y (dz fhg13_2) Y ?_)))))))))))
  refine oD Y Y (dz fhg13_2) Y (fD (OF.pickF (VEv.tmpB Y (dz fhg13_2)) (VEv.bool false)) Y Y (fD (OF.assign (tv (tB false) Y)) Y Y (VRunD.nil (tn (rt (vb (b':=false) Y ?_))))))
  (symm;rw [decide_eq_false_iff_not];rintro ⟨h1,h2,h3⟩;contradiction)
 refine oD Y Y (dz fhg7_1) Y (oD Y Y (dz fhg7_1) Y (oD Y Y (dz fhg7_1) Y (oD Y Y (dz fhg7_1) Y (fD (OF.pickF (VEv.tmpB Y (dz fhg7_1)) (VEv.bool false)) Y Y (mD (tB false) Y Y (VRunD.off Y (VWant.not (b:=false) Y Y Y) (VRunD.off Y (VWant.not (b:=false) Y Y Y) (VRunD.off Y (VWant.not (b:=false) Y Y Y) (VRunD.off Y (VWant.not (b:=false) Y Y Y) (VRunD.off Y (VWant.not (b:=false) Y Y Y) (VRunD.off Y (VWant.not (b:=false) Y Y Y) ?_)))))))))))
 refine VRunD.off Y (VWant.not (b:=false) Y Y Y) (VRunD.off Y (VWant.not (b:=false) Y Y Y) (VRunD.off Y (VWant.not (b:=false) Y Y Y) (VRunD.off Y (VWant.not (b:=false) Y Y Y) (VRunD.off Y (VWant.not (b:=false) Y Y Y) (VRunD.off Y (VWant.not (b:=false) Y Y Y) (VRunD.off Y (VWant.not (b:=false) Y Y Y) (fD (OF.pickF (tv (tB false) Y) (VEv.bool false)) Y Y (fD (OF.assign (tv (tB false) Y)) Y Y (VRunD.nil (tn (rt ?_)))))))))))
 refine vb (b':=false) Y ?_
 (symm;rw [decide_eq_false_iff_not];rintro ⟨h1,h2,h3⟩;contradiction)
noncomputable section
def Zi (x:D.Issue):Prop:=(1≤x.Number∧x.Number≤999)∧QV x.Puzzle x.Fill∧0≤x.Open∧x.Open<x.Close∧x.Close≤1000
instance (x:D.Issue):Decidable (Zi x):=Classical.propDecidable _
theorem Qes (x:D.Issue):((((1≤x.Number∧x.Number≤999)∧QV x.Puzzle x.Fill)∧0≤x.Open)∧x.Open<x.Close)∧x.Close≤1000↔Zi x:=by
 unfold Zi
 simp only [and_assoc]
end
theorem QbC (n:Nat) (a:D.Issue) (hz:Q5 a≤mx):Pure (Qs Tryz.prog (n+12)) 46 [(T.agg (Qz false a))] (tB (decide (Zi a))):=by
 refine Pure.intro (rs:= [ResultVar.tmp 2]) Tryz.func46 Y Y Y (E0:= [(0,(T.agg (Qz false a)))]) Y ?_
 obtain ⟨hlim,hmx,hmax⟩:=QG
 simp only [Q5] at hz
 refine sr (kO (B.box (ts:=(Qz false a)) (tv (T.agg (Qz false a)) Y) nofun Y) (fO (OF.assign (VEv.bool false)) (nt (sr (lf (tI a.Number) Y QbF Y Y QQ (cO (cS (vc (tv (tI a.Number) Y) (vc (VEv.int .i64 1) (vc (VEv.int .i64 999) vn))) (ZO Y) (QT (n+10) a.Number 1 999) Y Y) (mO (tB (decide (1≤a.Number∧a.Number≤999))) Y ?_)))))))
 refine VRunO.joinB 6 [7,8,9,10,11] 12 (tB (decide ((1≤a.Number∧a.Number≤999)∧(QV a.Puzzle a.Fill)))) ?_ ?_
 ·refine gw (1≤a.Number∧a.Number≤999) (fun fhg6_1=> ?_) fun fhg6_1=> ?_
  ·refine gF (dy fhg6_1) Y Y (OF.fieldAddrO (tv (T.op 0 0) Y) QaV) ?_
   refine gL (dy fhg6_1) Y Y (OL.loadOn (us:=(Qv false a.Puzzle)) (tv (T.op 0 1) Y) Y Jn Yc (lb Y) Y) (Yx (tS a.Fill) (dy fhg6_1) Y Y Y Y Qfy Y Y Yp (VRunO.chain (VWant.on Y Y (dy fhg6_1)) (cS (vc (tv (T.agg (Qv false a.Puzzle)) Y) (vc (tv (tS a.Fill) Y) vn)) (LendL.cons (lg Yt) (lp Y ln)) (QeP (n+0) a.Puzzle a.Fill (by omega) (by omega)) Y Y) (fO (OF.pickT (VEv.tmpB Y (dy fhg6_1)) (tv (tB (decide (QV a.Puzzle a.Fill))) Y)) (VRunO.nil ?_))))
   exact jq (congrArg T.bool (kAT fhg6_1 Y)) (js Y (js Y (js Y (js Y (js Y (jn))))))
  ·refine QE 5 3 true 6 (dz fhg6_1) Y Y Y ?_
   refine fO (OF.pickF (VEv.tmpB Y (dz fhg6_1)) (VEv.bool false)) (VRunO.nil ?_)
   exact jq (congrArg T.bool (kAF fhg6_1)) (js Y (js Y (js Y (js Y (js Y (jn))))))
 refine mO (tB (decide ((1≤a.Number∧a.Number≤999)∧(QV a.Puzzle a.Fill)))) Y ?_
 refine VRunO.joinB 4 [14,15,16] 17 (tB (decide (((1≤a.Number∧a.Number≤999)∧(QV a.Puzzle a.Fill))∧(0≤a.Open)))) ?_ ?_
 ·refine gw ((1≤a.Number∧a.Number≤999)∧(QV a.Puzzle a.Fill)) (fun fhg13_2=> ?_) fun fhg13_2=> ?_
  ·refine Yx (tI a.Open) (dy fhg13_2) Y Y Y Y Qc3 Y Y QQ ?_
   refine gF (dy fhg13_2) Y Y (xge (tv (tI a.Open) Y) (VEv.int .i64 0)) (fO (OF.pickT (VEv.tmpB Y (dy fhg13_2)) (tv (tB (decide (0≤a.Open))) Y)) (VRunO.nil ?_))
   exact jq (congrArg T.bool (kAT fhg13_2 Y)) (js Y (js Y (js Y (jn))))
  ·refine QE 3 10 true 13 (dz fhg13_2) Y Y Y ?_
   refine fO (OF.pickF (VEv.tmpB Y (dz fhg13_2)) (VEv.bool false)) (VRunO.nil ?_)
   exact jq (congrArg T.bool (kAF fhg13_2)) (js Y (js Y (js Y (jn))))
 refine mO (tB (decide (((1≤a.Number∧a.Number≤999)∧(QV a.Puzzle a.Fill))∧(0≤a.Open)))) Y ?_
 refine VRunO.joinB 6 [19,20,21,22,23] 24 (tB (decide ((((1≤a.Number∧a.Number≤999)∧(QV a.Puzzle a.Fill))∧(0≤a.Open))∧(a.Open<a.Close)))) ?_ ?_
 ·refine gw (((1≤a.Number∧a.Number≤999)∧(QV a.Puzzle a.Fill))∧(0≤a.Open)) (fun fhg18_3=> ?_) fun fhg18_3=> ?_
  ·refine Yx (tI a.Open) (dy fhg18_3) Y Y Y Y Qc3 Y Y QQ ?_
   refine Yx (tI a.Close) (dy fhg18_3) Y Y Y Y QcM Y Y QQ (gF (dy fhg18_3) Y Y (xls (tv (tI a.Open) Y) (tv (tI a.Close) Y)) (fO (OF.pickT (VEv.tmpB Y (dy fhg18_3)) (tv (tB (decide (a.Open<a.Close))) Y)) (VRunO.nil ?_)))
   exact jq (congrArg T.bool (kAT fhg18_3 Y)) (js Y (js Y (js Y (js Y (js Y (jn))))))
  ·refine QE 5 15 true 18 (dz fhg18_3) Y Y Y ?_
   refine fO (OF.pickF (VEv.tmpB Y (dz fhg18_3)) (VEv.bool false)) (VRunO.nil ?_)
   exact jq (congrArg T.bool (kAF fhg18_3)) (js Y (js Y (js Y (js Y (js Y (jn))))))
 refine mO (tB (decide ((((1≤a.Number∧a.Number≤999)∧(QV a.Puzzle a.Fill))∧(0≤a.Open))∧(a.Open<a.Close)))) Y ?_
 refine VRunO.joinB 4 [26,27,28] 29 (tB (decide (((((1≤a.Number∧a.Number≤999)∧(QV a.Puzzle a.Fill))∧(0≤a.Open))∧(a.Open<a.Close))∧(a.Close≤1000)))) ?_ ?_
 ·refine gw ((((1≤a.Number∧a.Number≤999)∧(QV a.Puzzle a.Fill))∧(0≤a.Open))∧(a.Open<a.Close)) (fun fhg25_4=> ?_) fun fhg25_4=> ?_
  ·refine Yx (tI a.Close) (dy fhg25_4) Y Y Y Y QcM Y Y QQ ?_
   refine gF (dy fhg25_4) Y Y (xle (tv (tI a.Close) Y) (VEv.int .i64 1000)) (fO (OF.pickT (VEv.tmpB Y (dy fhg25_4)) (tv (tB (decide (a.Close≤1000))) Y)) (VRunO.nil ?_))
   exact jq (congrArg T.bool (kAT fhg25_4 Y)) (js Y (js Y (js Y (jn))))
  ·refine QE 3 22 true 25 (dz fhg25_4) Y Y Y ?_
   refine fO (OF.pickF (VEv.tmpB Y (dz fhg25_4)) (VEv.bool false)) (VRunO.nil ?_)
   exact jq (congrArg T.bool (kAF fhg25_4)) (js Y (js Y (js Y (jn))))
 refine aO (tB (decide (((((1≤a.Number∧a.Number≤999)∧(QV a.Puzzle a.Fill))∧(0≤a.Open))∧(a.Open<a.Close))∧(a.Close≤1000)))) Y (nt (rt (vb (b':=(decide (((((1≤a.Number∧a.Number≤999)∧(QV a.Puzzle a.Fill))∧(0≤a.Open))∧(a.Open<a.Close))∧(a.Close≤1000)))) Y ?_)))
 exact Q6 (Qes a)
theorem QbZ (n:Nat) (a:D.Issue) (hz:Q5 a≤mx):Pure (Qs Tryz.prog (n+44)) 72 [(T.agg (Qz false a))] (tB (decide (Zi a))):=by
 refine Pure.intro (rs:= [ResultVar.tmp 2]) Tryz.func72 Y Y Y (E0:= [(0,(T.agg (Qz false a)))]) Y ?_
 obtain ⟨hlim,hmx,hmax⟩:=QG
 simp only [Q5] at hz
 refine sr (kO (B.box (ts:=(Qz false a)) (tv (T.agg (Qz false a)) Y) nofun Y) (fO (OF.assign (VEv.bool false)) (nt (sr (lf (tI a.Number) Y QbF Y Y QQ (cO (cS (vc (tv (tI a.Number) Y) (vc (VEv.int .i64 1) (vc (VEv.int .i64 999) vn))) (ZO Y) (Zc (n+42) a.Number 1 999) Y Y) (mO (tB (decide (1≤a.Number∧a.Number≤999))) Y ?_)))))))
 refine VRunO.joinB 6 [7,8,9,10,11] 12 (tB (decide ((1≤a.Number∧a.Number≤999)∧(QV a.Puzzle a.Fill)))) ?_ ?_
 ·refine gw (1≤a.Number∧a.Number≤999) (fun fhg6_1=> ?_) fun fhg6_1=> ?_
  ·refine gF (dy fhg6_1) Y Y (OF.fieldAddrO (tv (T.op 0 0) Y) QaV) ?_
   refine gL (dy fhg6_1) Y Y (OL.loadOn (us:=(Qv false a.Puzzle)) (tv (T.op 0 1) Y) Y Jn Yc (lb Y) Y) (Yx (tS a.Fill) (dy fhg6_1) Y Y Y Y Qfy Y Y Yp (VRunO.chain (VWant.on Y Y (dy fhg6_1)) (cS (vc (tv (T.agg (Qv false a.Puzzle)) Y) (vc (tv (tS a.Fill) Y) vn)) (LendL.cons (lg Yt) (lp Y ln)) (QeD (n+0) a.Puzzle a.Fill (by omega) (by omega)) Y Y) (fO (OF.pickT (VEv.tmpB Y (dy fhg6_1)) (tv (tB (decide (QV a.Puzzle a.Fill))) Y)) (VRunO.nil ?_))))
   exact jq (congrArg T.bool (kAT fhg6_1 Y)) (js Y (js Y (js Y (js Y (js Y (jn))))))
  ·refine QE 5 3 true 6 (dz fhg6_1) Y Y Y ?_
   refine fO (OF.pickF (VEv.tmpB Y (dz fhg6_1)) (VEv.bool false)) (VRunO.nil ?_)
   exact jq (congrArg T.bool (kAF fhg6_1)) (js Y (js Y (js Y (js Y (js Y (jn))))))
 refine mO (tB (decide ((1≤a.Number∧a.Number≤999)∧(QV a.Puzzle a.Fill)))) Y ?_
 refine VRunO.joinB 4 [14,15,16] 17 (tB (decide (((1≤a.Number∧a.Number≤999)∧(QV a.Puzzle a.Fill))∧(0≤a.Open)))) ?_ ?_
 ·refine gw ((1≤a.Number∧a.Number≤999)∧(QV a.Puzzle a.Fill)) (fun fhg13_2=> ?_) fun fhg13_2=> ?_
  ·refine Yx (tI a.Open) (dy fhg13_2) Y Y Y Y Qc3 Y Y QQ ?_
   refine gF (dy fhg13_2) Y Y (xge (tv (tI a.Open) Y) (VEv.int .i64 0)) (fO (OF.pickT (VEv.tmpB Y (dy fhg13_2)) (tv (tB (decide (0≤a.Open))) Y)) (VRunO.nil ?_))
   exact jq (congrArg T.bool (kAT fhg13_2 Y)) (js Y (js Y (js Y (jn))))
  ·refine QE 3 10 true 13 (dz fhg13_2) Y Y Y ?_
   refine fO (OF.pickF (VEv.tmpB Y (dz fhg13_2)) (VEv.bool false)) (VRunO.nil ?_)
   exact jq (congrArg T.bool (kAF fhg13_2)) (js Y (js Y (js Y (jn))))
 refine mO (tB (decide (((1≤a.Number∧a.Number≤999)∧(QV a.Puzzle a.Fill))∧(0≤a.Open)))) Y ?_
 refine VRunO.joinB 6 [19,20,21,22,23] 24 (tB (decide ((((1≤a.Number∧a.Number≤999)∧(QV a.Puzzle a.Fill))∧(0≤a.Open))∧(a.Open<a.Close)))) ?_ ?_
 ·refine gw (((1≤a.Number∧a.Number≤999)∧(QV a.Puzzle a.Fill))∧(0≤a.Open)) (fun fhg18_3=> ?_) fun fhg18_3=> ?_
  ·refine Yx (tI a.Open) (dy fhg18_3) Y Y Y Y Qc3 Y Y QQ ?_
   refine Yx (tI a.Close) (dy fhg18_3) Y Y Y Y QcM Y Y QQ (gF (dy fhg18_3) Y Y (xls (tv (tI a.Open) Y) (tv (tI a.Close) Y)) (fO (OF.pickT (VEv.tmpB Y (dy fhg18_3)) (tv (tB (decide (a.Open<a.Close))) Y)) (VRunO.nil ?_)))
   exact jq (congrArg T.bool (kAT fhg18_3 Y)) (js Y (js Y (js Y (js Y (js Y (jn))))))
  ·refine QE 5 15 true 18 (dz fhg18_3) Y Y Y ?_
   refine fO (OF.pickF (VEv.tmpB Y (dz fhg18_3)) (VEv.bool false)) (VRunO.nil ?_)
   exact jq (congrArg T.bool (kAF fhg18_3)) (js Y (js Y (js Y (js Y (js Y (jn))))))
 refine mO (tB (decide ((((1≤a.Number∧a.Number≤999)∧(QV a.Puzzle a.Fill))∧(0≤a.Open))∧(a.Open<a.Close)))) Y ?_
 refine VRunO.joinB 4 [26,27,28] 29 (tB (decide (((((1≤a.Number∧a.Number≤999)∧(QV a.Puzzle a.Fill))∧(0≤a.Open))∧(a.Open<a.Close))∧(a.Close≤1000)))) ?_ ?_
 ·refine gw ((((1≤a.Number∧a.Number≤999)∧(QV a.Puzzle a.Fill))∧(0≤a.Open))∧(a.Open<a.Close)) (fun fhg25_4=> ?_) fun fhg25_4=> ?_
  ·refine Yx (tI a.Close) (dy fhg25_4) Y Y Y Y QcM Y Y QQ ?_
   refine gF (dy fhg25_4) Y Y (xle (tv (tI a.Close) Y) (VEv.int .i64 1000)) (fO (OF.pickT (VEv.tmpB Y (dy fhg25_4)) (tv (tB (decide (a.Close≤1000))) Y)) (VRunO.nil ?_))
   exact jq (congrArg T.bool (kAT fhg25_4 Y)) (js Y (js Y (js Y (jn))))
  ·refine QE 3 22 true 25 (dz fhg25_4) Y Y Y ?_
   refine fO (OF.pickF (VEv.tmpB Y (dz fhg25_4)) (VEv.bool false)) (VRunO.nil ?_)
   exact jq (congrArg T.bool (kAF fhg25_4)) (js Y (js Y (js Y (jn))))
 refine aO (tB (decide (((((1≤a.Number∧a.Number≤999)∧(QV a.Puzzle a.Fill))∧(0≤a.Open))∧(a.Open<a.Close))∧(a.Close≤1000)))) Y (nt (rt (vb (b':=(decide (((((1≤a.Number∧a.Number≤999)∧(QV a.Puzzle a.Fill))∧(0≤a.Open))∧(a.Open<a.Close))∧(a.Close≤1000)))) Y ?_)))
 exact Q6 (Qes a)
theorem YV (n:Nat) (a:List D.Step) (ha:a.length≤mx):Pure (Qs Tryz.prog (n+1)) 119 [(rd 4 Qg a)] (T.sl true 4 (a.map (Qg true))):=by
 refine Pure.intro (rs:= [ResultVar.tmp 2]) Tryz.func119 Y Y Y (E0:= [(0,(rd 4 Qg a))]) Y ?_
 obtain ⟨hlim,hmx,hmax⟩:=QG
 refine sr (fO (OF.assign VEv.nils) (nt (sq (sr (mO (rd 4 Qg a) Y ?_)))))
 refine VRunO.nilEq VWant.always (tv (rd 4 Qg a) Y) VEv.nils U81 (fun bn1 hbn1=> ?_)
 refine nt ?_
 refine VRun.cond (tv (tB bn1) Y) (fun hc0=> ?_) (fun hc0=> ?_)
 ·have fhc0:bn1=true:=hc0
  have ebn1:=hbn1 hc0
  refine sr (fO (OF.assign VEv.nils) (nt (rt (tr ?_))))
  refine vfin.eq (r':=(T.sl true 4 [])) ?_ (vfin.r (VRes.tmp (t:=T.nils) Y VRes.nil) (Give.nils 4))
  refine congrArg (fun l_=>T.sl true 4 (List.map (Qg true) l_)) (a₁:= []) ?_
  exact (List.map_eq_nil_iff.1 ebn1).symm
 have fhc0:bn1=false:=hc0
 refine sk (tn (sr (kO (OM.slice0 U81 Qc8 (by kernel_rfl) Y (by rw [ZQ];decide) ZQ) (mO (rd 4 Qg a) Y (cO (B.append (rows:= []) (rows2:=(a.map (Qg false))) (rows3:=(a.map (Qg true))) (VDst.own (tv (T.os 4 0 0 0) Y) Y Y) (VSrc.read (tv (rd 4 Qg a) Y) U81 (okeStep.okMap _ _)) nofun U81 ZQ (by decide) Qc8 Y (of_decide_eq_true (by kernel_rfl)) (by (simp only [List.length_map,List.length_append,List.length_cons,List.length_nil,List.length_replicate,List.length_set,List.length_drop,List.length_take,YG] at *;omega)) (List.nil_append _)) (aO (T.os 4 1 0 ((a.map (Qg true)).length)) Y (nt (rt ?_))))))))
 refine vfin.eq (r':=(T.sl true 4 (a.map (Qg true)))) ?_ (vfin.r (VRes.tmp (t:=(T.os 4 1 0 ((a.map (Qg true)).length))) Y VRes.nil) (Give.os Y Y (okeStep.cleanMap _)))
 rfl
theorem QbL (n:Nat) (c:D.Clue) (hz:QH c≤mx):Pure (Qs Tryz.prog (n+1)) 71 [(T.agg (Qd false c))] (T.agg (Qd true c)):=by
 refine Pure.intro (rs:= [ResultVar.cell 2 83]) Tryz.func71 Y Y Y (E0:= [(0,(T.agg (Qd false c)))]) Y ?_
 obtain ⟨hlim,hmx,hmax⟩:=QG
 simp only [QH] at hz
 have hl:=QU (z:=ZB) c.Play
 refine sr (kO (B.box (ts:=(Qd false c)) (tv (T.agg (Qd false c)) Y) nofun Y) (kO (B.alloc (t:=(T.agg [(tN 0),T.nils])) (ts:= [(tN 0),T.nils]) Qel Qks nofun (fun _=> .agg _ _ Y (Yf (RL.cons (.int _ _) (RL.cons (.nils) (RL.nil _))))) Y) (nt (sq (VRun.draw (B:= [[],[0],[],[],[3],[3,4,2],[2,4,3,5,0,1],[1,0,5,3,4,2,6]]) (by kernel_rfl) (by kernel_rfl) (fD (OF.fieldAddrO (tv (T.op 0 0) Y) QaL) Y Y (lD (OL.loadO1 (t:=(tI c.Sense)) (tv (T.op 0 0) Y) Y Y QQ) Y Y (VRunD.make Y VWant.always Y (OM.slice0 U81 Qc8 (by kernel_rfl) Y (by rw [ZQ];decide) ZQ) (fD (OF.fieldAddrO (tv (T.op 0 0) Y) QaG) Y Y (lD (OL.loadO1 (t:=(rd 4 Qg c.Play)) (tv (T.op 0 1) Y) Y Y Qhl) Y Y (VRunD.quiet (bi:= [3,4,2]) Y VWant.always Y Y Y (bc (lb Y) bn) (B.append (rows:= []) (rows2:=(c.Play.map (Qg false))) (rows3:=(c.Play.map (Qg true))) (VDst.own (tv (T.os 4 2 0 0) Y) Y Y) (VSrc.read (tv (rd 4 Qg c.Play) Y) U81 (okeStep.okMap _ _)) nofun U81 ZQ (by decide) Qc8 Y (of_decide_eq_true (by kernel_rfl)) (by (simp only [List.length_map,List.length_append,List.length_cons,List.length_nil,List.length_replicate,List.length_set,List.length_drop,List.length_take,YG] at *;omega)) (List.nil_append _)) ?_)))))))))))
 refine fD (OF.build (l:= [(0,(tI c.Sense)),(1,(T.os 4 3 0 ((c.Play.map (Qg true)).length)))]) (zs:= [(tN 0),T.nils]) (out:= [(tI c.Sense),(T.os 4 3 0 ((c.Play.map (Qg true)).length))]) (VEvp.cons (i:=0) (tv (tI c.Sense) Y) (VEvp.cons (i:=1) (tv (T.os 4 3 0 ((c.Play.map (Qg true)).length)) Y) VEvp.nil)) (bc nofun (bc nofun bn)) Tryz.underlying83 Qel (fun _=>RL.cons (.int _ _) (RL.cons (.nils) (RL.nil _))) (by kernel_rfl) (by kernel_rfl)) Y Y (VRunD.chain (bi:= [1,0,5,3,4,2,6]) Y VWant.always Y Y Y (by kernel_rfl) (B.storeW (us:= [(tI c.Sense),(T.os 4 3 0 ((c.Play.map (Qg true)).length))]) (tv (T.op 1 0) Y) (tv (T.agg [(tI c.Sense),(T.os 4 3 0 ((c.Play.map (Qg true)).length))]) Y) nofun Y Y Y Qak ZP (bc Y (bc Y bn))) (VRunD.nil (tn (rt ?_))))
 refine vfin.eq (r':=(T.agg [(tI c.Sense),(T.sl true 4 (c.Play.map (Qg true)))])) ?_ (vfin.r (VRes.celln (ws:= [(tI c.Sense),(T.os 4 3 0 ((c.Play.map (Qg true)).length))]) Y Y Qby ZP (lb Y) Y VRes.nil) (Give.agg (GiveL.cons (Give.int _ _) (GiveL.cons (Give.os Y Y (okeStep.cleanMap _)) GiveL.nil (by decide)) (by decide))))
 rfl
theorem Qbv (n:Nat) (c:D.Clue) (hz:QH c≤mx):Pure (Qs Tryz.prog (n+2)) 75 [(T.agg (Qd false c))] (T.agg (Qd true c)):=by
 refine Pure.intro (rs:= [ResultVar.cell 2 83]) Tryz.func75 Y Y Y (E0:= [(0,(T.agg (Qd false c)))]) Y ?_
 obtain ⟨hlim,hmx,hmax⟩:=QG
 simp only [QH] at hz
 have hl:=QU (z:=ZB) c.Play
 refine sr (kO (B.box (ts:=(Qd false c)) (tv (T.agg (Qd false c)) Y) nofun Y) (kO (B.alloc (t:=(T.agg [(tN 0),T.nils])) (ts:= [(tN 0),T.nils]) Qel Qks nofun (fun _=> .agg _ _ Y (Yf (RL.cons (.int _ _) (RL.cons (.nils) (RL.nil _))))) Y) (nt (sq (VRun.draw (B:= [[],[0],[],[2],[2,3],[3,2,4,0,1],[1,0,4,2,3,5]]) (by kernel_rfl) (by kernel_rfl) (fD (OF.fieldAddrO (tv (T.op 0 0) Y) QaL) Y Y (lD (OL.loadO1 (t:=(tI c.Sense)) (tv (T.op 0 0) Y) Y Y QQ) Y Y (fD (OF.fieldAddrO (tv (T.op 0 0) Y) QaG) Y Y (lD (OL.loadO1 (t:=(rd 4 Qg c.Play)) (tv (T.op 0 1) Y) Y Y Qhl) Y Y (VRunD.quiet (bi:= [2,3]) Y VWant.always Y Y Y bn (OC.callF (r':=(T.os 4 2 0 ((c.Play.map (Qg true)).length))) (objs:= [(Obj.rows 4 (c.Play.map (Qg true)))]) Y (vc (tv (rd 4 Qg c.Play) Y) vn) (ZO Y) (YV (n+0) c.Play (by omega)) Y) (fD (OF.build (l:= [(0,(tI c.Sense)),(1,(T.os 4 2 0 ((c.Play.map (Qg true)).length)))]) (zs:= [(tN 0),T.nils]) (out:= [(tI c.Sense),(T.os 4 2 0 ((c.Play.map (Qg true)).length))]) (VEvp.cons (i:=0) (tv (tI c.Sense) Y) (VEvp.cons (i:=1) (tv (T.os 4 2 0 ((c.Play.map (Qg true)).length)) Y) VEvp.nil)) (bc nofun (bc nofun bn)) Tryz.underlying83 Qel (fun _=>RL.cons (.int _ _) (RL.cons (.nils) (RL.nil _))) (by kernel_rfl) (by kernel_rfl)) Y Y ?_)))))))))))
 refine VRunD.chain (bi:= [1,0,4,2,3,5]) Y VWant.always Y Y Y (by kernel_rfl) (B.storeW (us:= [(tI c.Sense),(T.os 4 2 0 ((c.Play.map (Qg true)).length))]) (tv (T.op 1 0) Y) (tv (T.agg [(tI c.Sense),(T.os 4 2 0 ((c.Play.map (Qg true)).length))]) Y) nofun Y Y Y Qak ZP (bc Y (bc Y bn))) (VRunD.nil (tn (rt ?_)))
 refine vfin.eq (r':=(T.agg [(tI c.Sense),(T.sl true 4 (c.Play.map (Qg true)))])) ?_ (vfin.r (VRes.celln (ws:= [(tI c.Sense),(T.os 4 2 0 ((c.Play.map (Qg true)).length))]) Y Y Qby ZP (lb Y) Y VRes.nil) (Give.agg (GiveL.cons (Give.int _ _) (GiveL.cons (Give.os Y Y (okeStep.cleanMap _)) GiveL.nil (by decide)) (by decide))))
 rfl
noncomputable section
theorem QgI {α:Type} {l:List α} {i:Nat} {x:α} (h:l[i]? =some x):l.take i++ [x]=l.take (i+1):=by
 rw [List.take_add_one,h];rfl
theorem Qh7 {α:Type} {z:α→Nat}:∀(l:List α) (i:Nat) (x:α),Jl z (l.set i x)≤Jl z l+z x
 | [],i,x=>by simp [Jl]
 | y::r,0,x=>by simp only [List.set_cons_zero,Jl];omega
 | y::r,i+1,x=>by
  have:=Qh7 (z:=z) r i x
  simp only [List.set_cons_succ,Jl];omega
theorem QnT {α:Type} {z:α→Nat} (l:List α) (i:Nat) (x:α):zL z (l.set i x)≤zL z l+z x:=by
 have:=Qh7 (z:=z) l i x
 simp only [zL,List.length_set];omega
end
theorem QeQ (n:Nat) (l:List D.Clue) (hz:zL QH l≤mx):Pure (Qs Tryz.prog (n+2)) 116 [(rd 2 Qd l)] (T.sl true 2 (l.map (Qd true))):=by
 refine Pure.intro (rs:= [ResultVar.tmp 2]) Tryz.func116 Y Y Y (E0:= [(0,(rd 2 Qd l))]) Y ?_
 obtain ⟨hlim,hmx,hmax⟩:=QG
 have hl:=QU (z:=QH) l
 refine sr (fO (OF.assign VEv.nils) (nt (sr (kO (OM.slice0 U35 Qel (by kernel_rfl) Y (by rw [ZP];decide) ZP) (aO (T.os 2 0 0 0) Y (nt (sq (sr (fO (OF.assign (VEv.int .i64 0)) (nt (VRun.block ?_)))))))))))
 have he1: []=((l.take 0).map (Qd true)):=by rfl
 refine VRun.loop (A:=Nat) (fun s_=> [(0,(rd 2 Qd l)),(2,T.nils),(3,(T.os 2 0 0 (((l.take s_).map (Qd true)).length))),(4,(tN s_))]) (fun s_=>QY [(0,(Obj.rows 2 ((l.take s_).map (Qd true))))]) 1 (fun s_=>s_≤l.length) (fun s_=>l.length - s_) (0:Nat) ?_ (Wk.mk (fun k=>k) ?_ ?_ ?_) ?_
 ·(simp;done)
 ·exact (b2 (b2 (bc ⟨(congrArg (fun n_=>T.os 2 0 0 n_) (show 0=((l.take 0).map (Qd true)).length from (by rfl))),rfl⟩ (b2 bn))))
 ·exact (bc ⟨(congrArg (fun l_=>some (Obj.rows 2 l_)) he1),(lb Y),rfl⟩ bn)
 ·exact nd Y
 rintro i (hI':i≤l.length)
 show VRun _ _ _ [(0,(rd 2 Qd l)),(2,T.nils),(3,(T.os 2 0 0 (((l.take i).map (Qd true)).length))),(4,(tN i))] (QY [(0,(Obj.rows 2 ((l.take i).map (Qd true))))]) 1 _
 have hI1:=hI'
 have htl:=Z6 l i
 refine sq (sr (mO (tN i) Y (mO (rd 2 Qd l) Y (lO (B.lenR (m:=l.length) (tv (rd 2 Qd l) Y) U35 (List.length_map ..)) (fO (Zb (tv (tN i) Y) (tv (tN l.length) Y)) (nt ?_))))))
 refine cd (i<l.length) Y (fun fhc0=> ?_) fun fhc0=> ?_
 ·refine sk ?_
  refine tn (sq (VRun.block (VRun.region (mO (T.os 2 0 0 (((l.take i).map (Qd true)).length)) Y (mO (rd 2 Qd l) Y (mO (tN i) Y ?_))))))
  obtain ⟨x1,hx1⟩:∃x,l[i]? =some x:=⟨_,List.getElem?_eq_getElem (by omega)⟩
  refine fO (OF.indexAddrR (row:=(Qd false x1)) (i:=i) (tv (rd 2 Qd l) Y) (tv (tN i) Y) Y (Qt _ hx1) U35 ZP Qak) (lO (OL.loadRn (us:=(Qd false x1)) (tv (T.rp (Qd false x1)) Y) Qby ZP (lb Y) Y) (cO (OC.callF (r':=(T.agg [(tI x1.Sense),(T.os 4 1 0 ((x1.Play.map (Qg true)).length))])) (objs:= [(Obj.rows 4 (x1.Play.map (Qg true)))]) Y (vc (tv (T.agg (Qd false x1)) Y) vn) (LendL.cons (lg okeClue) ln) (QbL (n+0) x1 (by exact Nat.le_trans (QaC hx1) hz)) Y) ?_))
  refine B.sliceB (t:=(T.agg [(tI x1.Sense),(T.os 4 1 0 ((x1.Play.map (Qg true)).length))])) (us:= [(tI x1.Sense),(T.os 4 1 0 ((x1.Play.map (Qg true)).length))]) (rows:= [[(tI x1.Sense),(T.sl true 4 (x1.Play.map (Qg true)))]]) VWant.always (VEvp.cons (tv (T.agg [(tI x1.Sense),(T.os 4 1 0 ((x1.Play.map (Qg true)).length))]) Y) VEvp.nil) nofun Y (Bury.pl Y (Bury.os Y Y Bury.nil (by decide))) Y (bc Y bn) Y U35 Qel (by kernel_rfl) Y (by rw [ZP];decide) ZP (Nat.le_of_ble_eq_true Y) ?_
  refine cO (B.append (rows:=((l.take i).map (Qd true))) (rows2:= [[(tI x1.Sense),(T.sl true 4 (x1.Play.map (Qg true)))]]) (rows3:=((l.take i++ [x1]).map (Qd true))) (VDst.own (tv (T.os 2 0 0 (((l.take i).map (Qd true)).length)) Y) Y Y) (VSrc.own (tv (T.os 2 2 0 1) Y) Y Y U35 (bc (bc Y (bc Y bn)) bn)) (by decide) U35 ZP (by decide) Qel Y (of_decide_eq_true (by kernel_rfl)) (by (rw [List.length_map,List.length_take];simp only [List.length_cons,List.length_nil];omega)) ((List.map_append (f:=Qd true) (l₁:=l.take i) (l₂:= [x1])).symm)) (aO (T.os 2 3 0 (((l.take i++ [x1]).map (Qd true)).length)) Y (VRunO.nil (vinB.n (tn (VRun.region (mO (tN i) Y (fO (Qy (tv (tN i) Y) (VEv.int .i64 1) (by omega)) (aO (tN (i+1)) Y (VRunO.nil (tn ?_))))))))))
  have he2:(l.take i++ [x1])=l.take (i+1):=by exact QgI hx1
  refine ⟨(i+1:Nat),?_,?_,Wk.mk (fun k=>if k=0 then 3 else k) ?_ ?_ ?_⟩
  ·trivial
  ·omega
  ·exact (b2 (b2 (bc ⟨(congrArg (fun l_=>T.os 2 3 0 (List.map (Qd true) l_).length) he2),rfl⟩ (b2 bn))))
  ·exact (bc ⟨(congrArg (fun l_=>some (Obj.rows 2 (List.map (Qd true) l_))) he2),(lb Y),rfl⟩ bn)
  ·exact nd Y
 refine VRun.exit (vthn.e (vthn.e (vinB.e (tn (sr (mO (T.os 2 0 0 (((l.take i).map (Qd true)).length)) Y (aO (T.os 2 0 0 (((l.take i).map (Qd true)).length)) Y (nt (rt ?_)))))))))
 refine vfin.eq (r':=(T.sl true 2 ((l.take i).map (Qd true)))) ?_ (vfin.r (VRes.tmp (t:=(T.os 2 0 0 (((l.take i).map (Qd true)).length))) Y VRes.nil) (Give.os Y Y (okeClue.cleanMap _)))
 refine congrArg (fun l_=>T.sl true 2 (List.map (Qd true) l_)) ?_
 rw [YD hI' fhc0]
theorem Qei (n:Nat) (l:List D.Clue) (hz:zL QH l≤mx):Pure (Qs Tryz.prog (n+3)) 118 [(rd 2 Qd l)] (T.sl true 2 (l.map (Qd true))):=by
 refine Pure.intro (rs:= [ResultVar.tmp 2]) Tryz.func118 Y Y Y (E0:= [(0,(rd 2 Qd l))]) Y ?_
 obtain ⟨hlim,hmx,hmax⟩:=QG
 have hl:=QU (z:=QH) l
 refine sr (fO (OF.assign VEv.nils) (nt (sr (fO (OF.assign VEv.nils) (nt (sq (sr (mO (rd 2 Qd l) Y (lO (B.lenR (m:=l.length) (tv (rd 2 Qd l) Y) U35 (List.length_map ..)) (fO (OF.move (VEv.int .i64 0)) (nt ?_)))))))))))
 refine VRun.block (VRun.wk (Wk.phantom 3 2 Y) ?_)
 have he1: []=((l.take 0).map (Qd true)):=by rfl
 refine VRun.loop (A:=Nat) (fun s_=> [(2,T.nils),(3,(T.os 2 0 0 (((l.take s_).map (Qd true)).length))),(6,(rd 2 Qd l)),(7,(tN l.length)),(8,(tN s_))]) (fun s_=>QY [(0,(Obj.rows 2 ((l.take s_).map (Qd true))))]) 1 (fun s_=>s_≤l.length) (fun s_=>l.length - s_) (0:Nat) ?_ (Wk.mk (fun k=>k) ?_ ?_ ?_) ?_
 ·(simp;done)
 ·exact (b2 (bc ⟨(congrArg (fun n_=>T.os 2 0 0 n_) (show 0=((l.take 0).map (Qd true)).length from (by rfl))),rfl⟩ (b2 (b2 (b2 bn)))))
 ·exact (bc ⟨(congrArg (fun l_=>some (Obj.rows 2 l_)) he1),(lb Y),rfl⟩ bn)
 ·exact nd Y
 rintro i (hI':i≤l.length)
 show VRun _ _ _ [(2,T.nils),(3,(T.os 2 0 0 (((l.take i).map (Qd true)).length))),(6,(rd 2 Qd l)),(7,(tN l.length)),(8,(tN i))] (QY [(0,(Obj.rows 2 ((l.take i).map (Qd true))))]) 1 _
 have hI1:=hI'
 have htl:=Z6 l i
 refine sr (fO (Zb (tv (tN i) Y) (tv (tN l.length) Y)) (nt (sq ?_)))
 refine cd (i<l.length) Y (fun fhc0=> ?_) fun fhc0=> ?_
 ·refine sk ?_
  refine tn (sq (VRun.block (sr ?_)))
  obtain ⟨x1,hx1⟩:∃x,l[i]? =some x:=⟨_,List.getElem?_eq_getElem (by omega)⟩
  refine fO (OF.indexAddrR (row:=(Qd false x1)) (i:=i) (tv (rd 2 Qd l) Y) (tv (tN i) Y) Y (Qt _ hx1) U35 ZP Qak) (lO (OL.loadRn (us:=(Qd false x1)) (tv (T.rp (Qd false x1)) Y) Qby ZP (lb Y) Y) (kO (B.alloc (t:=(T.agg [(tN 0),T.nils])) (ts:= [(tN 0),T.nils]) Qel Qks nofun (fun _=> .agg _ _ Y (Yf (RL.cons (.int _ _) (RL.cons (.nils) (RL.nil _))))) Y) (cO (B.storeW (us:=(Qd false x1)) (tv (T.op 1 0) Y) (tv (T.agg (Qd false x1)) Y) nofun Y Y Y Qak ZP (bc Y (bc Y bn))) (nt (VRun.region (mO (T.os 2 0 0 (((l.take i).map (Qd true)).length)) Y (lO (OL.loadOn (us:=(Qd false x1)) (tv (T.op 1 0) Y) Y Qby ZP (lb Y) Y) (cO (OC.callF (r':=(T.agg [(tI x1.Sense),(T.os 4 2 0 ((x1.Play.map (Qg true)).length))])) (objs:= [(Obj.rows 4 (x1.Play.map (Qg true)))]) Y (vc (tv (T.agg (Qd false x1)) Y) vn) (LendL.cons (lg okeClue) ln) (Qbv (n+0) x1 (by exact Nat.le_trans (QaC hx1) hz)) Y) ?_))))))))
  refine B.sliceB (t:=(T.agg [(tI x1.Sense),(T.os 4 2 0 ((x1.Play.map (Qg true)).length))])) (us:= [(tI x1.Sense),(T.os 4 2 0 ((x1.Play.map (Qg true)).length))]) (rows:= [[(tI x1.Sense),(T.sl true 4 (x1.Play.map (Qg true)))]]) VWant.always (VEvp.cons (tv (T.agg [(tI x1.Sense),(T.os 4 2 0 ((x1.Play.map (Qg true)).length))]) Y) VEvp.nil) nofun Y (Bury.pl Y (Bury.os Y Y Bury.nil (by decide))) Y (bc Y bn) Y U35 Qel (by kernel_rfl) Y (by rw [ZP];decide) ZP (Nat.le_of_ble_eq_true Y) ?_
  refine cO (B.append (rows:=((l.take i).map (Qd true))) (rows2:= [[(tI x1.Sense),(T.sl true 4 (x1.Play.map (Qg true)))]]) (rows3:=((l.take i++ [x1]).map (Qd true))) (VDst.own (tv (T.os 2 0 0 (((l.take i).map (Qd true)).length)) Y) Y Y) (VSrc.own (tv (T.os 2 3 0 1) Y) Y Y U35 (bc (bc Y (bc Y bn)) bn)) (by decide) U35 ZP (by decide) Qel Y (of_decide_eq_true (by kernel_rfl)) (by (rw [List.length_map,List.length_take];simp only [List.length_cons,List.length_nil];omega)) ((List.map_append (f:=Qd true) (l₁:=l.take i) (l₂:= [x1])).symm)) (aO (T.os 2 4 0 (((l.take i++ [x1]).map (Qd true)).length)) Y (VRunO.nil (vinB.n (tn (VRun.region (fO (Qy (tv (tN i) Y) (VEv.int .i64 1) (by omega)) (mO (tN (i+1)) Y (VRunO.nil (tn ?_)))))))))
  have he2:(l.take i++ [x1])=l.take (i+1):=by exact QgI hx1
  refine ⟨(i+1:Nat),?_,?_,Wk.mk (fun k=>if k=0 then 4 else k) ?_ ?_ ?_⟩
  ·trivial
  ·omega
  ·exact (b2 (bc ⟨(congrArg (fun l_=>T.os 2 4 0 (List.map (Qd true) l_).length) he2),rfl⟩ (b2 (b2 (b2 bn)))))
  ·exact (bc ⟨(congrArg (fun l_=>some (Obj.rows 2 (List.map (Qd true) l_))) he2),(lb Y),rfl⟩ bn)
  ·exact nd Y
 refine VRun.exit (vthn.e (vthn.e (vinB.e (tn (sr (mO (T.os 2 0 0 (((l.take i).map (Qd true)).length)) Y (aO (T.os 2 0 0 (((l.take i).map (Qd true)).length)) Y (nt (rt ?_)))))))))
 refine vfin.eq (r':=(T.sl true 2 ((l.take i).map (Qd true)))) ?_ (vfin.r (VRes.tmp (t:=(T.os 2 0 0 (((l.take i).map (Qd true)).length))) Y VRes.nil) (Give.os Y Y (okeClue.cleanMap _)))
 refine congrArg (fun l_=>T.sl true 2 (List.map (Qd true) l_)) ?_
 rw [YD hI' fhc0]
noncomputable section
def Qu (x:D.Correction):Nat:=4+4*x.Clue.Play.length
def Zz (k:Nat) (x:D.Correction):D.Correction:=D.Correction.mk ((k:Nat):Int) ((k+1:Nat):Int) (D.Clue.mk ((k+1+1:Nat):Int) (YH Zm 4 (k+1+1+1) x.Clue.Play.length)) ((k+1+1+1+4*x.Clue.Play.length:Nat):Int)
theorem QmE (k:Nat) (x:D.Correction):Qu (Zz k x)=Qu x:=by unfold Qu Zz;simp only [Yl]
theorem QmI (x:D.Correction):Qu x≤5*(1+Qn x):=by
 have:=QU (z:=ZB) x.Clue.Play
 unfold Qu Qn QH
 omega
def Qdg : Nat→List D.Correction→List D.Correction:=mkL Zz Qu
def Yz : Nat→List D.Correction→Nat:=Q2 Qu
theorem ZF (k k2:Nat) (l:List D.Correction):Yz k (Qdg k2 l)=Yz k l:=Qfx QmE k k2 l
theorem Qjq (k:Nat) (l:List D.Correction):Yz k l≤k+5*zL Qn l:=Qjz QmI k l
theorem Qau (k:Nat) (l:List D.Correction):(Qdg k l).length=l.length:=Qaz k l
end
theorem Qbj (n:Nat) (a:List D.Correction) (k:Nat) (hk:Yz k a≤YG):LoanM (Qs Tryz.prog (n+3)) 20 [(5,(a.map (Qa true)))] [(T.os 5 0 0 ((a.map (Qa true)).length)),(tN k)] (tN (Yz k a)) [(5,((Qdg k a).map (Qa true)))]:=by
 refine LoanM.intro (rs:= [ResultVar.tmp 4]) [(0,(T.os 5 0 0 ((a.map (Qa true)).length)))] Tryz.func20 Y Y Y Y (bc ⟨by kernel_rfl,rfl⟩ bn) (PinsTo.at (And.intro trivial ⟨_,(.head _),(.os _ _)⟩)) (.int _ _) (bc (okeCorrection.cleanMap _) bn) (E0:= [(0,(T.os 5 0 0 ((a.map (Qa true)).length))),(1,(tN k))]) Y (fun asg=> ?_)
 obtain ⟨hlim,hmx,hmax⟩:=QG
 show VRun _ _ _ [(0,(T.os 5 0 0 ((a.map (Qa true)).length))),(1,(tN k))] (QY [(0,(Obj.rowsN 5 (a.map (Qa true)) (asg 0)))]) 1 _
 have hk2:=hk
 unfold Yz at hk2
 have hla:=Qe6 (w:=Qu) (fun x=>by unfold Qu;omega) k a
 refine sr (fO (OF.assign (VEv.int .i64 0)) (nt (sq (sr (fO (OF.assign (VEv.int .i64 0)) (nt (VRun.block ?_)))))))
 have he1:a=YS Zz Qu k a 0:=by rfl
 refine VRun.loop (A:=Nat) (fun s_=> [(0,(T.os 5 0 0 (((YS Zz Qu k a s_).map (Qa true)).length))),(1,(tN (Q2 Qu k (a.take s_)))),(4,(tN 0)),(5,(tN s_))]) (fun s_=>QY [(0,(Obj.rowsN 5 ((YS Zz Qu k a s_).map (Qa true)) (asg 0)))]) 1 (fun s_=>s_≤a.length) (fun s_=>a.length - s_) (0:Nat) ?_ (Wk.mk (fun k=>k) ?_ ?_ ?_) ?_
 ·(simp;done)
 ·exact (bc ⟨(congrArg (fun l_=>T.os 5 0 0 (List.map (Qa true) l_).length) he1),rfl⟩ (bc ⟨(congrArg (T.int .i64) (show ((k:Nat):Int)=((Q2 Qu k (a.take 0):Nat):Int) from (by rfl))),rfl⟩ (b2 (b2 bn))))
 ·exact (bc ⟨(congrArg (fun l_=>some (Obj.rowsN 5 (List.map (Qa true) l_) (asg 0))) he1),(lb Y),rfl⟩ bn)
 ·exact nd Y
 rintro i (hI':i≤a.length)
 show VRun _ _ _ [(0,(T.os 5 0 0 (((YS Zz Qu k a i).map (Qa true)).length))),(1,(tN (Q2 Qu k (a.take i)))),(4,(tN 0)),(5,(tN i))] (QY [(0,(Obj.rowsN 5 ((YS Zz Qu k a i).map (Qa true)) (asg 0)))]) 1 _
 have hml:=Qbi (f:=Zz) (w:=Qu) k a i
 have hme:=QaY (w:=Qu) k a i
 refine sq (sr (mO (tN i) Y (mO (T.os 5 0 0 (((YS Zz Qu k a i).map (Qa true)).length)) Y (lO (B.lenO (m:=(YS Zz Qu k a i).length) (tv (T.os 5 0 0 (((YS Zz Qu k a i).map (Qa true)).length)) Y) U41 (List.length_map ..)) (fO (Zb (tv (tN i) Y) (tv (tN ((YS Zz Qu k a i).length)) Y)) (nt ?_))))))
 refine cd (i<(YS Zz Qu k a i).length) Y (fun fhc0=> ?_) fun fhc0=> ?_
 ·refine sk ?_
  refine tn (sq (VRun.block (sr (mO (T.os 5 0 0 (((YS Zz Qu k a i).map (Qa true)).length)) Y (mO (tN i) Y (mO (tN (Q2 Qu k (a.take i))) Y ?_))))))
  obtain ⟨x1,hx1⟩:∃x,(YS Zz Qu k a i)[i]? =some x:=⟨_,List.getElem?_eq_getElem (by omega)⟩
  (have hy1:=QlN (show i<a.length by omega) hx1;have hnx:=Qff (w:=Qu) (k:=k) hy1;have hnt:=QaY (w:=Qu) k a (i+1);have hw2:Qu x1=4+4*x1.Clue.Play.length:=rfl)
  refine fO (B.indexAddrO (i:=i) (tv (T.os 5 0 0 (((YS Zz Qu k a i).map (Qa true)).length)) Y) (tv (tN i) Y) Y (by (simp only [List.length_map];omega)) U41 Yv Jk) (fO (OF.fieldAddrP (tv (T.orp 5 0 i 0) Y) Qbg) (cO (B.storeN (t0:=(tI x1.Issue)) (rows':=(((YS Zz Qu k a i).set i (D.Correction.mk ((Q2 Qu k (a.take i):Nat):Int) x1.Slot x1.Clue x1.Tick)).map (Qa true))) (row:=(Qa true x1)) (tv (T.orp 5 0 i 0) Y) (tv (tN (Q2 Qu k (a.take i))) Y) Y Y (Qt _ hx1) Y Y Yo Zd (Ze Y)) (nt (sr (mO (tN (Q2 Qu k (a.take i))) Y (fO (Qy (tv (tN (Q2 Qu k (a.take i))) Y) (VEv.int .i64 1) (by omega)) (aO (tN (Q2 Qu k (a.take i)+1)) Y (nt (sr (mO (T.os 5 0 0 (((YS Zz Qu k a i).map (Qa true)).length)) Y (mO (tN i) Y ?_)))))))))))
  refine mO (tN (Q2 Qu k (a.take i)+1)) Y (fO (B.indexAddrO (i:=i) (tv (T.os 5 0 0 (((YS Zz Qu k a i).map (Qa true)).length)) Y) (tv (tN i) Y) Y (by (simp only [List.length_map];omega)) U41 Yv Jk) (fO (OF.fieldAddrP (tv (T.orp 5 0 i 0) Y) J6) (cO (B.storeN (t0:=(tI x1.Slot)) (rows':=((((YS Zz Qu k a i).set i (D.Correction.mk ((Q2 Qu k (a.take i):Nat):Int) x1.Slot x1.Clue x1.Tick)).set i (D.Correction.mk ((Q2 Qu k (a.take i):Nat):Int) (((Q2 Qu k (a.take i)+1):Nat):Int) x1.Clue x1.Tick)).map (Qa true))) (row:=(Qa true (D.Correction.mk ((Q2 Qu k (a.take i):Nat):Int) x1.Slot x1.Clue x1.Tick))) (tv (T.orp 5 0 i 1) Y) (tv (tN (Q2 Qu k (a.take i)+1)) Y) Y Y (Qt _ (QbY (by omega))) Y Y Yo Zd (Ze Y)) (nt (sr (mO (tN (Q2 Qu k (a.take i)+1)) Y (fO (Qy (tv (tN (Q2 Qu k (a.take i)+1)) Y) (VEv.int .i64 1) (by omega)) (aO (tN ((Q2 Qu k (a.take i)+1)+1)) Y (nt (sr (mO (T.os 5 0 0 (((YS Zz Qu k a i).map (Qa true)).length)) Y ?_)))))))))))
  refine mO (tN i) Y (mO (tN ((Q2 Qu k (a.take i)+1)+1)) Y (fO (B.indexAddrO (i:=i) (tv (T.os 5 0 0 (((YS Zz Qu k a i).map (Qa true)).length)) Y) (tv (tN i) Y) Y (by (simp only [List.length_map];omega)) U41 Yv Jk) (fO (OF.fieldAddrP (tv (T.orp 5 0 i 0) Y) Qbp) (fO (OF.fieldAddrP (tv (T.orp 5 0 i 2) Y) QaL) (cO (B.storeN (t0:=(tI x1.Clue.Sense)) (rows':=(((((YS Zz Qu k a i).set i (D.Correction.mk ((Q2 Qu k (a.take i):Nat):Int) x1.Slot x1.Clue x1.Tick)).set i (D.Correction.mk ((Q2 Qu k (a.take i):Nat):Int) (((Q2 Qu k (a.take i)+1):Nat):Int) x1.Clue x1.Tick)).set i (D.Correction.mk ((Q2 Qu k (a.take i):Nat):Int) (((Q2 Qu k (a.take i)+1):Nat):Int) (D.Clue.mk ((((Q2 Qu k (a.take i)+1)+1):Nat):Int) x1.Clue.Play) x1.Tick)).map (Qa true))) (row:=(Qa true (D.Correction.mk ((Q2 Qu k (a.take i):Nat):Int) (((Q2 Qu k (a.take i)+1):Nat):Int) x1.Clue x1.Tick))) (tv (T.orp 5 0 i 2) Y) (tv (tN ((Q2 Qu k (a.take i)+1)+1)) Y) Y Y (Qt _ (QbY (by (simp only [List.length_set];omega)))) Y Y Yo Zd (Ze Y)) (nt (sr (mO (tN ((Q2 Qu k (a.take i)+1)+1)) Y (fO (Qy (tv (tN ((Q2 Qu k (a.take i)+1)+1)) Y) (VEv.int .i64 1) (by omega)) (aO (tN (((Q2 Qu k (a.take i)+1)+1)+1)) Y (nt ?_)))))))))))
  refine sr (mO (T.os 5 0 0 (((YS Zz Qu k a i).map (Qa true)).length)) Y (mO (tN i) Y (fO (B.indexAddrO (i:=i) (tv (T.os 5 0 0 (((YS Zz Qu k a i).map (Qa true)).length)) Y) (tv (tN i) Y) Y (by (simp only [List.length_map];omega)) U41 Yv Jk) (fO (OF.fieldAddrP (tv (T.orp 5 0 i 0) Y) Qbp) (fO (OF.fieldAddrP (tv (T.orp 5 0 i 2) Y) QaG) (VRunO.nest (row:=(Qa true (D.Correction.mk ((Q2 Qu k (a.take i):Nat):Int) (((Q2 Qu k (a.take i)+1):Nat):Int) (D.Clue.mk ((((Q2 Qu k (a.take i)+1)+1):Nat):Int) x1.Clue.Play) x1.Tick))) (rs:=(x1.Clue.Play.map (Qg true))) (rs':=((YH Zm 4 (((Q2 Qu k (a.take i)+1)+1)+1) x1.Clue.Play.length).map (Qg true))) (rows':=((((((YS Zz Qu k a i).set i (D.Correction.mk ((Q2 Qu k (a.take i):Nat):Int) x1.Slot x1.Clue x1.Tick)).set i (D.Correction.mk ((Q2 Qu k (a.take i):Nat):Int) (((Q2 Qu k (a.take i)+1):Nat):Int) x1.Clue x1.Tick)).set i (D.Correction.mk ((Q2 Qu k (a.take i):Nat):Int) (((Q2 Qu k (a.take i)+1):Nat):Int) (D.Clue.mk ((((Q2 Qu k (a.take i)+1)+1):Nat):Int) x1.Clue.Play) x1.Tick)).set i (D.Correction.mk ((Q2 Qu k (a.take i):Nat):Int) (((Q2 Qu k (a.take i)+1):Nat):Int) (D.Clue.mk ((((Q2 Qu k (a.take i)+1)+1):Nat):Int) (YH Zm 4 (((Q2 Qu k (a.take i)+1)+1)+1) x1.Clue.Play.length)) x1.Tick)).map (Qa true))) (n:=(((((Q2 Qu k (a.take i)+1)+1)+1):Nat):Int)) (r:=(((((Q2 Qu k (a.take i)+1)+1)+1)+4*x1.Clue.Play.length:Nat):Int)) Y (tv (T.orp 5 0 i 3) Y) Y (Qt _ (QbY (by (simp only [List.length_set];omega)))) Y Qhl (tv (tN (((Q2 Qu k (a.take i)+1)+1)+1)) Y) Y (QaX (n+0) x1.Clue.Play (((Q2 Qu k (a.take i)+1)+1)+1) (by omega)) (okeStep.cleanMap _) (Ze Y) (aO (tN ((((Q2 Qu k (a.take i)+1)+1)+1)+4*x1.Clue.Play.length)) Y (nt (sr (mO (T.os 5 0 0 (((YS Zz Qu k a i).map (Qa true)).length)) Y (mO (tN i) Y ?_)))))))))))
  refine mO (tN ((((Q2 Qu k (a.take i)+1)+1)+1)+4*x1.Clue.Play.length)) Y (fO (B.indexAddrO (i:=i) (tv (T.os 5 0 0 (((YS Zz Qu k a i).map (Qa true)).length)) Y) (tv (tN i) Y) Y (by (simp only [List.length_map];omega)) U41 Yv Jk) (fO (OF.fieldAddrP (tv (T.orp 5 0 i 0) Y) Jz) (cO (B.storeN (t0:=(tI x1.Tick)) (rows':=(((((((YS Zz Qu k a i).set i (D.Correction.mk ((Q2 Qu k (a.take i):Nat):Int) x1.Slot x1.Clue x1.Tick)).set i (D.Correction.mk ((Q2 Qu k (a.take i):Nat):Int) (((Q2 Qu k (a.take i)+1):Nat):Int) x1.Clue x1.Tick)).set i (D.Correction.mk ((Q2 Qu k (a.take i):Nat):Int) (((Q2 Qu k (a.take i)+1):Nat):Int) (D.Clue.mk ((((Q2 Qu k (a.take i)+1)+1):Nat):Int) x1.Clue.Play) x1.Tick)).set i (D.Correction.mk ((Q2 Qu k (a.take i):Nat):Int) (((Q2 Qu k (a.take i)+1):Nat):Int) (D.Clue.mk ((((Q2 Qu k (a.take i)+1)+1):Nat):Int) (YH Zm 4 (((Q2 Qu k (a.take i)+1)+1)+1) x1.Clue.Play.length)) x1.Tick)).set i (D.Correction.mk ((Q2 Qu k (a.take i):Nat):Int) (((Q2 Qu k (a.take i)+1):Nat):Int) (D.Clue.mk ((((Q2 Qu k (a.take i)+1)+1):Nat):Int) (YH Zm 4 (((Q2 Qu k (a.take i)+1)+1)+1) x1.Clue.Play.length)) (((((Q2 Qu k (a.take i)+1)+1)+1)+4*x1.Clue.Play.length:Nat):Int))).map (Qa true))) (row:=(Qa true (D.Correction.mk ((Q2 Qu k (a.take i):Nat):Int) (((Q2 Qu k (a.take i)+1):Nat):Int) (D.Clue.mk ((((Q2 Qu k (a.take i)+1)+1):Nat):Int) (YH Zm 4 (((Q2 Qu k (a.take i)+1)+1)+1) x1.Clue.Play.length)) x1.Tick))) (tv (T.orp 5 0 i 4) Y) (tv (tN ((((Q2 Qu k (a.take i)+1)+1)+1)+4*x1.Clue.Play.length)) Y) Y Y (Qt _ (QbY (by (simp only [List.length_set];omega)))) Y Y Yo Zd (Ze Y)) (nt (VRun.region (mO (tN ((((Q2 Qu k (a.take i)+1)+1)+1)+4*x1.Clue.Play.length)) Y (fO (Qy (tv (tN ((((Q2 Qu k (a.take i)+1)+1)+1)+4*x1.Clue.Play.length)) Y) (VEv.int .i64 1) (by omega)) (aO (tN ((((Q2 Qu k (a.take i)+1)+1)+1)+4*x1.Clue.Play.length+1)) Y (VRunO.nil (vinB.n (tn ?_)))))))))))
  refine VRun.region (mO (tN i) Y (fO (Qy (tv (tN i) Y) (VEv.int .i64 1) (by omega)) (aO (tN (i+1)) Y (VRunO.nil (tn ?_)))))
  have he2:((((((YS Zz Qu k a i).set i (D.Correction.mk ((Q2 Qu k (a.take i):Nat):Int) x1.Slot x1.Clue x1.Tick)).set i (D.Correction.mk ((Q2 Qu k (a.take i):Nat):Int) (((Q2 Qu k (a.take i)+1):Nat):Int) x1.Clue x1.Tick)).set i (D.Correction.mk ((Q2 Qu k (a.take i):Nat):Int) (((Q2 Qu k (a.take i)+1):Nat):Int) (D.Clue.mk ((((Q2 Qu k (a.take i)+1)+1):Nat):Int) x1.Clue.Play) x1.Tick)).set i (D.Correction.mk ((Q2 Qu k (a.take i):Nat):Int) (((Q2 Qu k (a.take i)+1):Nat):Int) (D.Clue.mk ((((Q2 Qu k (a.take i)+1)+1):Nat):Int) (YH Zm 4 (((Q2 Qu k (a.take i)+1)+1)+1) x1.Clue.Play.length)) x1.Tick)).set i (D.Correction.mk ((Q2 Qu k (a.take i):Nat):Int) (((Q2 Qu k (a.take i)+1):Nat):Int) (D.Clue.mk ((((Q2 Qu k (a.take i)+1)+1):Nat):Int) (YH Zm 4 (((Q2 Qu k (a.take i)+1)+1)+1) x1.Clue.Play.length)) (((((Q2 Qu k (a.take i)+1)+1)+1)+4*x1.Clue.Play.length:Nat):Int)))=YS Zz Qu k a (i+1):=by (simp only [List.set_set];exact Qj1 hy1 Y)
  refine ⟨(i+1:Nat),?_,?_,Wk.mk (fun k=>k) ?_ ?_ ?_⟩
  ·omega
  ·omega
  ·exact (bc ⟨(congrArg (fun n_=>T.os 5 0 0 n_) (show ((YS Zz Qu k a i).map (Qa true)).length=((YS Zz Qu k a (i+1)).map (Qa true)).length from (by simp only [List.length_map,Qbi,List.length_set]))),rfl⟩ (bc ⟨(congrArg (T.int .i64) (show ((((((Q2 Qu k (a.take i)+1)+1)+1)+4*x1.Clue.Play.length+1):Nat):Int)=((Q2 Qu k (a.take (i+1)):Nat):Int) from (by omega))),rfl⟩ (b2 (b2 bn))))
  ·exact (bc ⟨(congrArg (fun l_=>some (Obj.rowsN 5 (List.map (Qa true) l_) (asg 0))) he2),(lb Y),rfl⟩ bn)
  ·exact nd Y
 refine VRun.exit (vthn.e (vthn.e (vinB.e (tn (sr (mO (tN (Q2 Qu k (a.take i))) Y (aO (tN (Q2 Qu k (a.take i))) Y (nt (rt ?_)))))))))
 have hnew0:YS Zz Qu k a i=Qdg k a:=by
  exact Qiz (by omega)
 exact vloanM.r (L1:= [(5,((YS Zz Qu k a i).map (Qa true)))]) (fun k=>k) (VRes.tmp (t:=(tN (Q2 Qu k (a.take i)))) Y VRes.nil) (congrArg (T.int .i64) (show ((Q2 Qu k (a.take i):Nat):Int)=((Yz k a:Nat):Int) by rw [List.take_of_length_le (by omega)];rfl)) (bc (congrArg (fun n_=>T.os 5 0 0 n_) (show ((YS Zz Qu k a i).map (Qa true)).length=(a.map (Qa true)).length from (by rw [List.length_map,List.length_map,Qbi]))) bn) (And.intro Y (trivial)) (by rw [hnew0])
noncomputable section
def YF : List Int→Int→List Int
 | [],n=> [n]
 | x::r,n=>if x<n then x::YF r n else if x=n then x::r else n::x::r
theorem l9put_mem {l:List Int} {n y:Int}:y∈YF l n↔y∈l∨y=n:=by
 induction l with
 | nil=>simp [YF]
 | cons x r ih =>
  simp only [YF]
  split
  ·simp only [List.mem_cons,ih,or_assoc]
  ·split
   ·rename_i h1 h2
    subst h2
    simp only [List.mem_cons]
    exact ⟨.inl,fun h=>h.elim id .inl⟩
   ·simp only [List.mem_cons]
    exact or_comm
theorem QgW {l:List Int} {n:Int}:(YF l n).length≤l.length+1:=by
 induction l with
 | nil=>simp [YF]
 | cons x r ih =>
  simp only [YF]
  split
  ·simp only [List.length_cons];omega
  ·split<;>simp
theorem QkI {l:List Int} {n:Int} (h:l.Pairwise (· < ·)):(YF l n).Pairwise (· < ·):=by
 induction l with
 | nil=>simp [YF]
 | cons x r ih =>
  have h1:=List.pairwise_cons.1 h
  simp only [YF]
  split
  ·rename_i hx
   refine List.pairwise_cons.2 ⟨fun y hy=> ?_,ih h1.2⟩
   rcases l9put_mem.1 hy with h2 | h2
   ·exact h1.1 y h2
   ·exact h2▸hx
  ·split
   ·exact h
   ·refine List.pairwise_cons.2 ⟨fun y hy=> ?_,h⟩
    rcases List.mem_cons.1 hy with h2 | h2
    ·omega
    ·have:=h1.1 y h2
     omega
theorem Qnd {n:Int}:∀ {l:List Int} {k:Nat},(∀j y,j<k→l[j]? =some y→y<n)→l[k]? =some n→l=YF l n
 | [],_,_,h=>by simp at h
 | x::r,0,_,h=>by
  obtain rfl:x=n:=by simpa using h
  simp [YF]
 | x::r,k+1,h1,h=>by
  have h2:=h1 0 x (by omega) (by simp)
  simp only [YF,if_pos h2]
  rw [← Qnd (k:=k) (fun j y hj hy=>h1 (j+1) y (by omega) (by simpa using hy)) (by simpa using h)]
theorem Qjy {n:Int}:∀ {l:List Int} {k:Nat},(∀j y,j<k→l[j]? =some y→y<n)→k≤l.length→(∀y,l[k]? =some y→n<y)→(l.take k++ [n])++l.drop k=YF l n
 | [],k,_,h,_=>by
  obtain rfl:k=0:=by simpa using h
  rfl
 | x::r,0,_,_,h=>by
  have h2:=h x (by simp)
  simp only [YF]
  rw [if_neg (by omega),if_neg (by omega)]
  rfl
 | x::r,k+1,h1,h,h3=>by
  have h2:=h1 0 x (by omega) (by simp)
  simp only [YF,if_pos h2]
  rw [← Qjy (k:=k) (fun j y hj hy=>h1 (j+1) y (by omega) (by simpa using hy)) (by simpa using h) (fun y hy=>h3 y (by simpa using hy))]
  rfl
theorem QiL {α:Type} {l:List α} {i:Nat} {x y:α} (hx:l[i]? =some x) (hy:l[i]? =some y):y=x:=by
 rw [hx] at hy
 exact (Option.some.inj hy).symm
end
theorem Qg8 (n:Nat) (l:List Int) (v:Int) (hl:l.length≤mx):Pure (Qs Tryz.prog (n+1)) 48 [(rd 1 Qb l),(tI v)] (T.sl true 1 ((YF l v).map (Qb true))):=by
 refine Pure.intro (rs:= [ResultVar.tmp 4]) Tryz.func48 Y Y Y (E0:= [(0,(rd 1 Qb l)),(1,(tI v))]) Y ?_
 obtain ⟨hlim,hmx,hmax⟩:=QG
 refine sr (fO (OF.assign VEv.nils) (nt (sr (fO (OF.assign (VEv.int .i64 0)) (nt (sq (VRun.block ?_)))))))
 refine VRun.loop (A:=Nat) (fun s_=> [(0,(rd 1 Qb l)),(1,(tI v)),(4,T.nils),(5,(tN s_))]) (fun s_=>QY []) 0 (fun s_=>s_≤l.length∧∀j y,j<s_→l[j]? =some y→y<v) (fun s_=>l.length - s_) (0:Nat) ?_ (Wk.mk (fun k=>k) ?_ ?_ ?_) ?_
 ·exact ⟨Nat.zero_le _,fun j y hj=>by omega⟩
 ·exact (b2 (b2 (b2 (b2 bn))))
 ·exact bn
 ·exact nd Y
 rintro k (hI':k≤l.length∧∀j y,j<k→l[j]? =some y→y<v)
 show VRun _ _ _ [(0,(rd 1 Qb l)),(1,(tI v)),(4,T.nils),(5,(tN k))] (QY []) 0 _
 have hI1:=hI'.1
 refine sq (sr (mO (tN k) Y (mO (rd 1 Qb l) Y (lO (B.lenR (m:=l.length) (tv (rd 1 Qb l) Y) Zr (List.length_map ..)) (fO (Zb (tv (tN k) Y) (tv (tN l.length) Y)) (mO (tB (decide (k<l.length))) Y ?_))))))
 refine gw (k<l.length) (fun fhg10_1=> ?_) fun fhg10_1=> ?_
 ·refine gF (dy fhg10_1) Y Y (OF.move (tv (rd 1 Qb l) Y)) ?_
  refine gF (dy fhg10_1) Y Y (OF.move (tv (tN k) Y)) ?_
  obtain ⟨x1,hx1⟩:∃x,l[k]? =some x:=⟨_,List.getElem?_eq_getElem (by omega)⟩
  refine gF (dy fhg10_1) Y Y (OF.indexAddrR (row:=(Qb false x1)) (i:=k) (tv (rd 1 Qb l) Y) (tv (tN k) Y) Y (Qt _ hx1) Zr Zd Yo) (gL (dy fhg10_1) Y Y (OL.loadR1 (t:=(tI x1)) (tv (T.rp [(tI x1)]) Y) Y QQ) (gF (dy fhg10_1) Y Y (OF.move (tv (tI v) Y)) (gF (dy fhg10_1) Y Y (xls (tv (tI x1) Y) (tv (tI v) Y)) (fO (OF.pickT (VEv.tmpB Y (dy fhg10_1)) (tv (tB (decide (x1<v))) Y)) (nt ?_)))))
  refine cd (x1<v) Y (fun fhc0=> ?_) fun fhc0=> ?_
  ·refine sk ?_
   refine tn (VRun.block (VRun.region (mO (tN k) Y (fO (Qy (tv (tN k) Y) (VEv.int .i64 1) (by omega)) (aO (tN (k+1)) Y (VRunO.nil (vinB.n (tn ?_))))))))
   refine ⟨(k+1:Nat),?_,?_,Wk.mk (fun k=>k) ?_ ?_ ?_⟩
   ·refine ⟨by omega,fun j y hj hy=> ?_⟩
    rcases Nat.lt_or_ge j k with h1 | h1
    ·exact hI'.2 j y h1 hy
    ·obtain rfl:j=k:=(by omega);obtain rfl:=QiL hx1 hy;assumption
   ·omega
   ·exact (b2 (b2 (b2 (b2 bn))))
   ·exact bn
   ·exact nd Y
  refine VRun.exit (vthn.e (vthn.e (vinB.e (tn (sq (sr (mO (tN k) Y (mO (rd 1 Qb l) Y (lO (B.lenR (m:=l.length) (tv (rd 1 Qb l) Y) Zr (List.length_map ..)) (fO (Zb (tv (tN k) Y) (tv (tN l.length) Y)) (mO (tB (decide (k<l.length))) Y ?_)))))))))))
  refine gF (dy fhg10_1) Y Y (OF.move (tv (rd 1 Qb l) Y)) (gF (dy fhg10_1) Y Y (OF.move (tv (tN k) Y)) (gF (dy fhg10_1) Y Y (OF.indexAddrR (row:=(Qb false x1)) (i:=k) (tv (rd 1 Qb l) Y) (tv (tN k) Y) Y (Qt _ hx1) Zr Zd Yo) (gL (dy fhg10_1) Y Y (OL.loadR1 (t:=(tI x1)) (tv (T.rp [(tI x1)]) Y) Y QQ) (gF (dy fhg10_1) Y Y (OF.move (tv (tI v) Y)) (gF (dy fhg10_1) Y Y (Y9 (tv (tI x1) Y) (tv (tI v) Y)) (fO (OF.pickT (VEv.tmpB Y (dy fhg10_1)) (tv (tB (decide (x1=v))) Y)) (nt ?_)))))))
  refine cd (x1=v) Y (fun fhc1=> ?_) fun fhc1=> ?_
  ·refine sr ?_
   refine kO (OM.slice0 Zr JW (by kernel_rfl) Y (by rw [Zd];decide) Zd) (mO (rd 1 Qb l) Y (cO (B.append (rows:= []) (rows2:=(l.map (Qb false))) (rows3:=(l.map (Qb true))) (VDst.own (tv (T.os 1 0 0 0) Y) Y Y) (VSrc.read (tv (rd 1 Qb l) Y) Zr (okInt.okMap _ _)) nofun Zr Zd (by decide) JW Y (of_decide_eq_true (by kernel_rfl)) (by (simp only [List.length_map,List.length_append,List.length_cons,List.length_nil,List.length_replicate,List.length_set,List.length_drop,List.length_take,YG] at *;omega)) (List.nil_append _)) (aO (T.os 1 1 0 ((l.map (Qb true)).length)) Y (nt (rt (tr ?_))))))
   refine vfin.eq (r':=(T.sl true 1 (l.map (Qb true)))) ?_ (vfin.r (VRes.tmp (t:=(T.os 1 1 0 ((l.map (Qb true)).length))) Y VRes.nil) (Give.os Y Y (okInt.cleanMap _)))
   refine congrArg (fun l_=>T.sl true 1 (List.map (Qb true) l_)) ?_
   (refine Qnd hI'.2 ?_;simp_all;done)
  refine sk (tn (sq (VRun.draw (B:= [[],[],[],[2,1],[1,2,3,0],[],[5],[5,6,0,3,2,1,4],[],[],[9,8],[8,9,10,4,1,2,3,0,6,5,7],[7,5,6,0,3,2,1,4,10,9,8,11]]) (by kernel_rfl) (by kernel_rfl) (VRunD.make Y VWant.always Y (OM.slice0 Zr JW (by kernel_rfl) Y (by rw [Zd];decide) Zd) (mD (rd 1 Qb l) Y Y (mD (tN k) Y Y (lD (show OL _ _ _ _ _ (T.sl false 1 ((l.take k).map (Qb false))) by rw [List.map_take];exact (OL.sliceRHi (j:=k) (tv (rd 1 Qb l) Y) (tv (tN k) Y) Y (by (simp only [List.length_map];omega)) Zr Zd Yo)) Y Y (VRunD.quiet (bi:= [1,2,3,0]) Y VWant.always Y Y Y (bc (lb Y) bn) (B.append (rows:= []) (rows2:=((l.take k).map (Qb false))) (rows3:=((l.take k).map (Qb true))) (VDst.own (tv (T.os 1 0 0 0) Y) Y Y) (VSrc.read (tv (rd 1 Qb (l.take k)) Y) Zr (okInt.okMap _ _)) nofun Zr Zd (by decide) JW Y (of_decide_eq_true (by kernel_rfl)) (by (simp only [List.length_map,List.length_append,List.length_cons,List.length_nil,List.length_replicate,List.length_set,List.length_drop,List.length_take,YG] at *;omega)) (List.nil_append _)) (mD (tI v) Y Y (VRunD.make Y VWant.always Y (OM.buildSlice (l:= [(tI v)]) (VEvp.cons (tv (tI v) Y) VEvp.nil) Y (by decide) (bc (nofun) bn) (bc ((bc (Y) bn)) bn) (bc (Y) bn) Zr JW (by kernel_rfl) Y (by rw [Zd];decide) Zd (Nat.le_of_ble_eq_true Y)) (VRunD.quiet (bi:= [5,6,0,3,2,1,4]) Y VWant.always Y Y Y (bc (lb Y) (bc (lb Y) bn)) (B.append (rows:=((l.take k).map (Qb true))) (rows2:= [[(tI v)]]) (rows3:=(((l.take k)++ [v]).map (Qb true))) (VDst.own (tv (T.os 1 1 0 (((l.take k).map (Qb true)).length)) Y) Y Y) (VSrc.own (tv (T.os 1 2 0 1) Y) Y Y Zr (bc (bc Y bn) bn)) (by decide) Zr Zd (by decide) JW Y (of_decide_eq_true (by kernel_rfl)) (by (simp only [List.length_map,List.length_append,List.length_cons,List.length_nil,List.length_replicate,List.length_set,List.length_drop,List.length_take,YG] at *;omega)) ((List.map_append (f:=Qb true) (l₁:=(l.take k)) (l₂:= [v])).symm)) ?_)))))))))))
  refine mD (rd 1 Qb l) Y Y (mD (tN k) Y Y (lD (show OL _ _ _ _ _ (T.sl false 1 ((l.drop k).map (Qb false))) by rw [List.map_drop];exact (OL.sliceRLo (i:=k) (tv (rd 1 Qb l) Y) (tv (tN k) Y) Y (by (simp only [List.length_map];omega)) Zr Zd Yo)) Y Y (VRunD.quiet (bi:= [8,9,10,4,1,2,3,0,6,5,7]) Y VWant.always Y Y Y (bc (lb Y) bn) (B.append (rows:=(((l.take k)++ [v]).map (Qb true))) (rows2:=((l.drop k).map (Qb false))) (rows3:=((((l.take k)++ [v])++(l.drop k)).map (Qb true))) (VDst.own (tv (T.os 1 3 0 ((((l.take k)++ [v]).map (Qb true)).length)) Y) Y Y) (VSrc.read (tv (rd 1 Qb (l.drop k)) Y) Zr (okInt.okMap _ _)) nofun Zr Zd (by decide) JW Y (of_decide_eq_true (by kernel_rfl)) (by (simp only [List.length_map,List.length_append,List.length_cons,List.length_nil,List.length_replicate,List.length_set,List.length_drop,List.length_take,YG] at *;omega)) ((List.map_append (f:=Qb true) (l₁:=((l.take k)++ [v])) (l₂:=(l.drop k))).symm)) (fD (OF.assign (tv (T.os 1 4 0 (((((l.take k)++ [v])++(l.drop k)).map (Qb true)).length)) Y)) Y Y (VRunD.nil (tn (rt ?_)))))))
  refine vfin.eq (r':=(T.sl true 1 ((((l.take k)++ [v])++(l.drop k)).map (Qb true)))) ?_ (vfin.r (VRes.tmp (t:=(T.os 1 4 0 (((((l.take k)++ [v])++(l.drop k)).map (Qb true)).length))) Y VRes.nil) (Give.os Y Y (okInt.cleanMap _)))
  refine congrArg (fun l_=>T.sl true 1 (List.map (Qb true) l_)) ?_
  (refine Qjy hI'.2 hI1 ?_;intro y hy;obtain rfl:=QiL hx1 hy;omega)
 refine QE 6 4 true 10 (dz fhg10_1) Y Y Y (fO (OF.pickF (VEv.tmpB Y (dz fhg10_1)) (VEv.bool false)) (nt (cf Y (VRun.exit (vthn.e (vthn.e (vinB.e (tn (sq (sr (mO (tN k) Y ?_)))))))))))
 refine mO (rd 1 Qb l) Y (lO (B.lenR (m:=l.length) (tv (rd 1 Qb l) Y) Zr (List.length_map ..)) (fO (Zb (tv (tN k) Y) (tv (tN l.length) Y)) (mO (tB (decide (k<l.length))) Y (QE 6 4 true 24 (dz fhg10_1) Y Y Y (fO (OF.pickF (VEv.tmpB Y (dz fhg10_1)) (VEv.bool false)) (nt (cf Y (sk (tn (sq (VRun.draw (B:= [[],[],[],[2,1],[1,2,3,0],[],[5],[5,6,0,3,2,1,4],[],[],[9,8],[8,9,10,4,1,2,3,0,6,5,7],[7,5,6,0,3,2,1,4,10,9,8,11]]) (by kernel_rfl) (by kernel_rfl) ?_)))))))))))
 refine VRunD.make Y VWant.always Y (OM.slice0 Zr JW (by kernel_rfl) Y (by rw [Zd];decide) Zd) (mD (rd 1 Qb l) Y Y (mD (tN k) Y Y (lD (show OL _ _ _ _ _ (T.sl false 1 ((l.take k).map (Qb false))) by rw [List.map_take];exact (OL.sliceRHi (j:=k) (tv (rd 1 Qb l) Y) (tv (tN k) Y) Y (by (simp only [List.length_map];omega)) Zr Zd Yo)) Y Y (VRunD.quiet (bi:= [1,2,3,0]) Y VWant.always Y Y Y (bc (lb Y) bn) (B.append (rows:= []) (rows2:=((l.take k).map (Qb false))) (rows3:=((l.take k).map (Qb true))) (VDst.own (tv (T.os 1 0 0 0) Y) Y Y) (VSrc.read (tv (rd 1 Qb (l.take k)) Y) Zr (okInt.okMap _ _)) nofun Zr Zd (by decide) JW Y (of_decide_eq_true (by kernel_rfl)) (by (simp only [List.length_map,List.length_append,List.length_cons,List.length_nil,List.length_replicate,List.length_set,List.length_drop,List.length_take,YG] at *;omega)) (List.nil_append _)) (mD (tI v) Y Y (VRunD.make Y VWant.always Y (OM.buildSlice (l:= [(tI v)]) (VEvp.cons (tv (tI v) Y) VEvp.nil) Y (by decide) (bc (nofun) bn) (bc ((bc (Y) bn)) bn) (bc (Y) bn) Zr JW (by kernel_rfl) Y (by rw [Zd];decide) Zd (Nat.le_of_ble_eq_true Y)) (VRunD.quiet (bi:= [5,6,0,3,2,1,4]) Y VWant.always Y Y Y (bc (lb Y) (bc (lb Y) bn)) (B.append (rows:=((l.take k).map (Qb true))) (rows2:= [[(tI v)]]) (rows3:=(((l.take k)++ [v]).map (Qb true))) (VDst.own (tv (T.os 1 1 0 (((l.take k).map (Qb true)).length)) Y) Y Y) (VSrc.own (tv (T.os 1 2 0 1) Y) Y Y Zr (bc (bc Y bn) bn)) (by decide) Zr Zd (by decide) JW Y (of_decide_eq_true (by kernel_rfl)) (by (simp only [List.length_map,List.length_append,List.length_cons,List.length_nil,List.length_replicate,List.length_set,List.length_drop,List.length_take,YG] at *;omega)) ((List.map_append (f:=Qb true) (l₁:=(l.take k)) (l₂:= [v])).symm)) (mD (rd 1 Qb l) Y Y (mD (tN k) Y Y (lD (show OL _ _ _ _ _ (T.sl false 1 ((l.drop k).map (Qb false))) by rw [List.map_drop];exact (OL.sliceRLo (i:=k) (tv (rd 1 Qb l) Y) (tv (tN k) Y) Y (by (simp only [List.length_map];omega)) Zr Zd Yo)) Y Y (VRunD.quiet (bi:= [8,9,10,4,1,2,3,0,6,5,7]) Y VWant.always Y Y Y (bc (lb Y) bn) (B.append (rows:=(((l.take k)++ [v]).map (Qb true))) (rows2:=((l.drop k).map (Qb false))) (rows3:=((((l.take k)++ [v])++(l.drop k)).map (Qb true))) (VDst.own (tv (T.os 1 3 0 ((((l.take k)++ [v]).map (Qb true)).length)) Y) Y Y) (VSrc.read (tv (rd 1 Qb (l.drop k)) Y) Zr (okInt.okMap _ _)) nofun Zr Zd (by decide) JW Y (of_decide_eq_true (by kernel_rfl)) (by (simp only [List.length_map,List.length_append,List.length_cons,List.length_nil,List.length_replicate,List.length_set,List.length_drop,List.length_take,YG] at *;omega)) ((List.map_append (f:=Qb true) (l₁:=((l.take k)++ [v])) (l₂:=(l.drop k))).symm)) ?_)))))))))))
 refine fD (OF.assign (tv (T.os 1 4 0 (((((l.take k)++ [v])++(l.drop k)).map (Qb true)).length)) Y)) Y Y (VRunD.nil (tn (rt ?_)))
 refine vfin.eq (r':=(T.sl true 1 ((((l.take k)++ [v])++(l.drop k)).map (Qb true)))) ?_ (vfin.r (VRes.tmp (t:=(T.os 1 4 0 (((((l.take k)++ [v])++(l.drop k)).map (Qb true)).length))) Y VRes.nil) (Give.os Y Y (okInt.cleanMap _)))
 refine congrArg (fun l_=>T.sl true 1 (List.map (Qb true) l_)) ?_
 (refine Qjy hI'.2 hI1 ?_;intro y hy;have:=(List.getElem?_eq_some_iff.1 hy).1;omega)
noncomputable section
def Qkm (l:List Int):Prop:=l.Pairwise (· < ·)
theorem QiC : ∀ {a b:List Int},Qkm a→Qkm b→(∀x,x∈a↔x∈b)→a=b
 | [],[],_,_,_=>rfl
 | [],y::s,_,_,h=>by have:=(h y).2 (by simp);simp at this
 | x::r,[],_,_,h=>by have:=(h x).1 (by simp);simp at this
 | x::r,y::s,h1,h2,h=>by
  have a1:=List.pairwise_cons.1 h1
  have b1:=List.pairwise_cons.1 h2
  have hxy:x=y:=by
   have e1:=(h x).1 (by simp)
   have e2:=(h y).2 (by simp)
   rcases List.mem_cons.1 e1 with e1 | e1
   ·exact e1
   ·rcases List.mem_cons.1 e2 with e2 | e2
    ·exact e2.symm
    ·have:=a1.1 y e2
     have:=b1.1 x e1
     omega
  subst hxy
  rw [QiC a1.2 b1.2 (fun z=> ?_)]
  have hz:=h z
  simp only [List.mem_cons] at hz
  refine ⟨fun e=> ?_,fun e=> ?_⟩
  ·have:=a1.1 z e
   rcases hz.1 (.inr e) with e1 | e1
   ·omega
   ·exact e1
  ·have:=b1.1 z e
   rcases hz.2 (.inr e) with e1 | e1
   ·omega
   ·exact e1
end
theorem Qa9 (n:Nat) (a:List Int) (ha:a.length≤mx+1):Pure (Qs Tryz.prog (n+1)) 113 [(rd 1 Qb a)] (T.sl true 1 (a.map (Qb true))):=by
 refine Pure.intro (rs:= [ResultVar.tmp 2]) Tryz.func113 Y Y Y (E0:= [(0,(rd 1 Qb a))]) Y ?_
 obtain ⟨hlim,hmx,hmax⟩:=QG
 refine sr (fO (OF.assign VEv.nils) (nt (sq (sr (mO (rd 1 Qb a) Y ?_)))))
 refine VRunO.nilEq VWant.always (tv (rd 1 Qb a) Y) VEv.nils Zr (fun bn1 hbn1=> ?_)
 refine nt ?_
 refine VRun.cond (tv (tB bn1) Y) (fun hc0=> ?_) (fun hc0=> ?_)
 ·have fhc0:bn1=true:=hc0
  have ebn1:=hbn1 hc0
  refine sr (fO (OF.assign VEv.nils) (nt (rt (tr ?_))))
  refine vfin.eq (r':=(T.sl true 1 [])) ?_ (vfin.r (VRes.tmp (t:=T.nils) Y VRes.nil) (Give.nils 1))
  refine congrArg (fun l_=>T.sl true 1 (List.map (Qb true) l_)) (a₁:= []) ?_
  exact (List.map_eq_nil_iff.1 ebn1).symm
 have fhc0:bn1=false:=hc0
 refine sk (tn (sr (kO (OM.slice0 Zr JW (by kernel_rfl) Y (by rw [Zd];decide) Zd) (mO (rd 1 Qb a) Y (cO (B.append (rows:= []) (rows2:=(a.map (Qb false))) (rows3:=(a.map (Qb true))) (VDst.own (tv (T.os 1 0 0 0) Y) Y Y) (VSrc.read (tv (rd 1 Qb a) Y) Zr (okInt.okMap _ _)) nofun Zr Zd (by decide) JW Y (of_decide_eq_true (by kernel_rfl)) (by (simp only [List.length_map,List.length_append,List.length_cons,List.length_nil,List.length_replicate,List.length_set,List.length_drop,List.length_take,YG] at *;omega)) (List.nil_append _)) (aO (T.os 1 1 0 ((a.map (Qb true)).length)) Y (nt (rt ?_))))))))
 refine vfin.eq (r':=(T.sl true 1 (a.map (Qb true)))) ?_ (vfin.r (VRes.tmp (t:=(T.os 1 1 0 ((a.map (Qb true)).length))) Y VRes.nil) (Give.os Y Y (okInt.cleanMap _)))
 rfl
noncomputable section
def Qmh (a:D.Issue) (tk:Int) (c:D.Correction) (u:Int):Prop:=c.Issue=a.Number∧c.Slot=u∧c.Tick≤tk
instance (a:D.Issue) (tk:Int) (c:D.Correction) (u:Int):Decidable (Qmh a tk c u):=Classical.propDecidable _
def cAt (a:D.Issue) (l:List D.Correction) (tk u:Int):Nat→Int
 | 0=> -1
 | i+1=>match l[i]? with | some c=>if Qmh a tk c u then ((i:Nat):Int) else cAt a l tk u i | none=>cAt a l tk u i
theorem QbH {a:D.Issue} {l:List D.Correction} {tk u:Int} {i:Nat} {c:D.Correction} (h:l[i]? =some c):cAt a l tk u (i+1)=if Qmh a tk c u then ((i:Nat):Int) else cAt a l tk u i:=by rw [cAt,h]
theorem Qjn (a:D.Issue) (l:List D.Correction) (tk u:Int):∀i,-1≤cAt a l tk u i∧cAt a l tk u i<((i:Nat):Int)
 | 0=>⟨by simp [cAt],by simp [cAt]⟩
 | i+1=>by
  have ih:=Qjn a l tk u i
  unfold cAt
  split
  ·split<;>omega
  ·omega
theorem cAt_pos {a:D.Issue} {l:List D.Correction} {tk u:Int}:∀ {i:Nat},0≤cAt a l tk u i↔∃j,j<i∧∃c,l[j]? =some c∧Qmh a tk c u
 | 0=>by simp [cAt]
 | i+1=>by
  have ih:=cAt_pos (a:=a) (l:=l) (tk:=tk) (u:=u) (i:=i)
  constructor
  ·intro h
   unfold cAt at h
   split at h
   ·rename_i c hc
    split at h
    ·exact ⟨i,by omega,c,hc,by assumption⟩
    ·obtain ⟨j,hj,e⟩:=ih.1 h
     exact ⟨j,by omega,e⟩
   ·obtain ⟨j,hj,e⟩:=ih.1 h
    exact ⟨j,by omega,e⟩
  ·rintro ⟨j,hj,c,hc,hh⟩
   unfold cAt
   rcases Nat.lt_or_ge j i with h1 | h1
   ·have h2:=ih.2 ⟨j,h1,c,hc,hh⟩
    split
    ·split<;>omega
    ·exact h2
   ·obtain rfl:j=i:=by omega
    rw [hc]
    simp only
    rw [if_pos hh]
    omega
def Q0 (a:D.Issue) (l:List D.Correction) (tk:Int) (u:Nat):List Int:=(List.range u).map (fun k=>cAt a l tk ((k:Nat):Int) l.length)
theorem QhM (a:D.Issue) (l:List D.Correction) (tk:Int) (u:Nat):Q0 a l tk u++ [cAt a l tk ((u:Nat):Int) l.length]=Q0 a l tk (u+1):=by simp [Q0,List.range_succ]
theorem Qaq (a:D.Issue) (l:List D.Correction) (tk:Int) (u:Nat):(Q0 a l tk u).length=u:=by simp [Q0]
def YQ (a:D.Issue) (l:List D.Correction):Prop:=Zi a∧QL l
instance (a:D.Issue) (l:List D.Correction):Decidable (YQ a l):=Classical.propDecidable _
def Zo (a:D.Issue) (l:List D.Correction) (tk:Int):List Int:=if YQ a l then Q0 a l tk a.Puzzle.Clues.length else []
theorem QfT (a:D.Issue) (l:List D.Correction) (tk:Int):(Zo a l tk).length≤a.Puzzle.Clues.length:=by
 unfold Zo
 split
 ·rw [Qaq];exact Nat.le_refl _
 ·exact Nat.zero_le _
def QgE (v:List Int):Nat→List Int
 | 0=> []
 | i+1=>match v[i]? with | some c=>if 0≤c then QgE v i++ [((i:Nat):Int)] else QgE v i | none=>QgE v i
theorem posN_mem {v:List Int} {y:Int}:∀ {i:Nat},y∈QgE v i↔∃j:Nat,j<i∧∃c,v[j]? =some c∧0≤c∧y=((j:Nat):Int)
 | 0=>by simp [QgE]
 | i+1=>by
  have ih:=posN_mem (v:=v) (y:=y) (i:=i)
  constructor
  ·intro h
   unfold QgE at h
   split at h
   ·rename_i c hc
    split at h
    ·rcases List.mem_append.1 h with h | h
     ·obtain ⟨j,hj,e⟩:=ih.1 h
      exact ⟨j,by omega,e⟩
     ·exact ⟨i,by omega,c,hc,by assumption,List.mem_singleton.1 h⟩
    ·obtain ⟨j,hj,e⟩:=ih.1 h
     exact ⟨j,by omega,e⟩
   ·obtain ⟨j,hj,e⟩:=ih.1 h
    exact ⟨j,by omega,e⟩
  ·rintro ⟨j,hj,c,hc,h0,rfl⟩
   unfold QgE
   rcases Nat.lt_or_ge j i with h1 | h1
   ·have h2:=ih.2 ⟨j,h1,c,hc,h0,rfl⟩
    split
    ·split
     ·exact List.mem_append.2 (.inl h2)
     ·exact h2
    ·exact h2
   ·obtain rfl:j=i:=by omega
    rw [hc]
    simp only
    rw [if_pos h0]
    exact List.mem_append.2 (.inr (List.mem_singleton.2 Y))
theorem QiB (v:List Int):∀i,Qkm (QgE v i)
 | 0=>List.Pairwise.nil
 | i+1=>by
  have ih:=QiB v i
  unfold QgE
  split
  ·split
   ·refine List.pairwise_append.2 ⟨ih,List.pairwise_singleton _ _,fun y hy z hz=> ?_⟩
    obtain ⟨j,hj,_,_,_,rfl⟩:=posN_mem.1 hy
    obtain rfl:=List.mem_singleton.1 hz
    omega
   ·exact ih
  ·exact ih
def JA (a:D.Issue) (l:List D.Correction) (tk:Int):List Int:=QgE (Zo a l tk) (Zo a l tk).length
theorem Qgf {a:D.Issue} {l:List D.Correction} {tk y:Int} (hg:YQ a l):y∈JA a l tk↔∃j:Nat,j<l.length∧∃c,l[j]? =some c∧(c.Issue=a.Number∧c.Tick≤tk∧c.Slot<((a.Puzzle.Clues.length:Nat):Int))∧y=c.Slot:=by
 unfold JA
 rw [posN_mem]
 have hv:Zo a l tk=Q0 a l tk a.Puzzle.Clues.length:=if_pos hg
 rw [hv,Qaq]
 constructor
 ·rintro ⟨j,hj,c,hc,h0,rfl⟩
  rw [Q0,List.getElem?_map,List.getElem?_range hj,Option.map_some] at hc
  obtain rfl:=Option.some.inj hc
  obtain ⟨i,hi,c,h1,h2,h3,h4⟩:=cAt_pos.1 h0
  exact ⟨i,hi,c,h1,⟨h2,h4,by omega⟩,h3.symm⟩
 ·rintro ⟨j,hj,c,hc,⟨h1,h2,h3⟩,rfl⟩
  have h4:=hg.2.2 j hj
  obtain ⟨x,hx,_,h5,_⟩:=h4
  rw [hc] at hx
  obtain rfl:=Option.some.inj hx
  refine ⟨c.Slot.toNat,by omega,cAt a l tk ((c.Slot.toNat:Nat):Int) l.length,?_,cAt_pos.2 ⟨j,hj,c,hc,h1,?_,h2⟩,by omega⟩
  ·rw [Q0,List.getElem?_map,List.getElem?_range (show c.Slot.toNat<a.Puzzle.Clues.length by omega),Option.map_some]
  ·omega
def slN (a:D.Issue) (l:List D.Correction) (tk:Int):Nat→List Int
 | 0=> []
 | i+1=>match l[i]? with | some c=>if c.Issue=a.Number∧c.Tick≤tk∧c.Slot<((a.Puzzle.Clues.length:Nat):Int) then YF (slN a l tk i) c.Slot else slN a l tk i | none=>slN a l tk i
theorem Qdf {a:D.Issue} {l:List D.Correction} {tk:Int} {i:Nat} {c:D.Correction} (h:l[i]? =some c):slN a l tk (i+1)=if c.Issue=a.Number∧c.Tick≤tk∧c.Slot<((a.Puzzle.Clues.length:Nat):Int) then YF (slN a l tk i) c.Slot else slN a l tk i:=by rw [slN,h]
theorem QjX (a:D.Issue) (l:List D.Correction) (tk:Int):∀i,(slN a l tk i).length≤i
 | 0=>Nat.le_refl _
 | i+1=>by
  have ih:=QjX a l tk i
  unfold slN
  split
  ·split
   ·have:=QgW (l:=slN a l tk i) (n:=by assumption)
    exact Nat.le_trans QgW (by omega)
   ·omega
  ·omega
theorem QjL (a:D.Issue) (l:List D.Correction) (tk:Int):∀i,Qkm (slN a l tk i)
 | 0=>List.Pairwise.nil
 | i+1=>by
  have ih:=QjL a l tk i
  unfold slN
  split
  ·split
   ·exact QkI ih
   ·exact ih
  ·exact ih
theorem Qj5 {a:D.Issue} {l:List D.Correction} {tk y:Int}:∀ {i:Nat},y∈slN a l tk i↔∃j:Nat,j<i∧∃c,l[j]? =some c∧(c.Issue=a.Number∧c.Tick≤tk∧c.Slot<((a.Puzzle.Clues.length:Nat):Int))∧y=c.Slot
 | 0=>by simp [slN]
 | i+1=>by
  have ih:=Qj5 (a:=a) (l:=l) (tk:=tk) (y:=y) (i:=i)
  constructor
  ·intro h
   unfold slN at h
   split at h
   ·rename_i c hc
    split at h
    ·rcases l9put_mem.1 h with h | h
     ·obtain ⟨j,hj,e⟩:=ih.1 h
      exact ⟨j,by omega,e⟩
     ·exact ⟨i,by omega,c,hc,by assumption,h⟩
    ·obtain ⟨j,hj,e⟩:=ih.1 h
     exact ⟨j,by omega,e⟩
   ·obtain ⟨j,hj,e⟩:=ih.1 h
    exact ⟨j,by omega,e⟩
  ·rintro ⟨j,hj,c,hc,h0,rfl⟩
   unfold slN
   rcases Nat.lt_or_ge j i with h1 | h1
   ·have h2:=ih.2 ⟨j,h1,c,hc,h0,rfl⟩
    split
    ·split
     ·exact l9put_mem.2 (.inl h2)
     ·exact h2
    ·exact h2
   ·obtain rfl:j=i:=by omega
    rw [hc]
    simp only
    rw [if_pos h0]
    exact l9put_mem.2 (.inr Y)
theorem QmS {a:D.Issue} {l:List D.Correction} {tk:Int} (hg:YQ a l):slN a l tk l.length=JA a l tk:=QiC (QjL _ _ _ _) (QiB _ _) (fun y=>by rw [Qj5,Qgf hg])
theorem Qmx {a:D.Issue} {l:List D.Correction} {tk:Int} (hg:¬YQ a l):JA a l tk= []:=by
 unfold JA Zo
 rw [if_neg hg]
 rfl
theorem QmF {a:D.Issue} {l:List D.Correction} {tk:Int} {i:Nat} (hi:i≤l.length) (hg:i=0∨YQ a l) (he:¬((i<l.length∧Zi a)∧QL l)):slN a l tk i=JA a l tk:=by
 by_cases h:YQ a l
 ·have:i=l.length:=by
   rcases Nat.lt_or_ge i l.length with h1 | h1
   ·exact absurd ⟨⟨h1,h.1⟩,h.2⟩ he
   ·omega
  rw [this]
  exact QmS h
 ·rw [Qmx h]
  rcases hg with rfl | hg
  ·rfl
  ·exact absurd hg h
end
theorem QhZ (n:Nat) (a:D.Issue) (l:List D.Correction) (tk:Int) (hz:Q5 a≤mx) (hq:zL Qn l≤mx):Pure (Qs Tryz.prog (n+13)) 12 [(T.agg (Qz false a)),(rd 5 Qa l),(tI tk)] (T.sl true 1 ((JA a l tk).map (Qb true))):=by
 refine Pure.intro (rs:= [ResultVar.tmp 6]) Tryz.func12 Y Y Y (E0:= [(0,(T.agg (Qz false a))),(1,(rd 5 Qa l)),(2,(tI tk))]) Y ?_
 obtain ⟨hlim,hmx,hmax⟩:=QG
 have hl:=QU (z:=Qn) l
 have hw:∀x∈l,QH x.Clue≤mx:=fun x hx=>by have h1:=Qeh (z:=Qn) hx;simp only [Qn] at h1;omega
 have hz2:=hz
 simp only [Q5,QK,ZD] at hz2
 have hlc:=QU (z:=QH) a.Puzzle.Clues
 refine sr (kO (B.box (ts:=(Qz false a)) (tv (T.agg (Qz false a)) Y) nofun Y) (fO (OF.assign VEv.nils) (nt (sr (kO (OM.slice0 Zr JW (by kernel_rfl) Y (by rw [Zd];decide) Zd) (aO (T.os 1 1 0 0) Y (nt (sq (sr (fO (OF.assign (VEv.int .i64 0)) (nt ?_)))))))))))
 refine VRun.block ?_
 have he1: []=((slN a l tk 0).map (Qb true)):=by rfl
 refine VRun.loop (A:=Nat) (fun s_=> [(1,(rd 5 Qa l)),(2,(tI tk)),(3,(T.op 0 0)),(6,T.nils),(7,(T.os 1 1 0 (((slN a l tk s_).map (Qb true)).length))),(8,(tN s_))]) (fun s_=>QY [(0,(Obj.cells (Qz false a))),(1,(Obj.rows 1 ((slN a l tk s_).map (Qb true))))]) 2 (fun s_=>s_≤l.length∧(s_=0∨YQ a l)) (fun s_=>l.length - s_) (0:Nat) ?_ (Wk.mk (fun k=>k) ?_ ?_ ?_) ?_
 ·exact ⟨Nat.zero_le _, .inl Y⟩
 ·exact (b2 (b2 (b2 (b2 (bc ⟨(congrArg (fun n_=>T.os 1 1 0 n_) (show 0=((slN a l tk 0).map (Qb true)).length from (by rfl))),rfl⟩ (b2 bn))))))
 ·exact (b3 (bc ⟨(congrArg (fun l_=>some (Obj.rows 1 l_)) he1),(lb Y),rfl⟩ bn))
 ·exact nd Y
 rintro i (hI':i≤l.length∧(i=0∨YQ a l))
 show VRun _ _ _ [(1,(rd 5 Qa l)),(2,(tI tk)),(3,(T.op 0 0)),(6,T.nils),(7,(T.os 1 1 0 (((slN a l tk i).map (Qb true)).length))),(8,(tN i))] (QY [(0,(Obj.cells (Qz false a))),(1,(Obj.rows 1 ((slN a l tk i).map (Qb true))))]) 2 _
 have hI0:=hI'.1
 have hsn:=QjX a l tk i
 refine sq (sr (mO (tN i) Y (mO (rd 5 Qa l) Y (lO (B.lenR (m:=l.length) (tv (rd 5 Qa l) Y) U41 (List.length_map ..)) (fO (Zb (tv (tN i) Y) (tv (tN l.length) Y)) (mO (tB (decide (i<l.length))) Y ?_))))))
 refine VRunO.joinB 3 [15,16] 17 (tB (decide ((i<l.length)∧(Zi a)))) ?_ ?_
 ·refine gw (i<l.length) (fun fhg14_2=> ?_) fun fhg14_2=> ?_
  ·refine gL (dy fhg14_2) Y Y (OL.loadOn (us:=(Qz false a)) (tv (T.op 0 0) Y) Y Qgg QeR (lb Y) Y) ?_
   refine VRunO.chain (VWant.on Y Y (dy fhg14_2)) (cS (vc (tv (T.agg (Qz false a)) Y) vn) (LendL.cons (lg YT) ln) (QbC (n+0) a (by assumption)) Y Y) (fO (OF.pickT (VEv.tmpB Y (dy fhg14_2)) (tv (tB (decide (Zi a))) Y)) (VRunO.nil ?_))
   exact jq (congrArg T.bool (kAT fhg14_2 Y)) (js Y (js Y (jn)))
  ·refine QE 2 4 true 14 (dz fhg14_2) Y Y Y ?_
   refine fO (OF.pickF (VEv.tmpB Y (dz fhg14_2)) (VEv.bool false)) (VRunO.nil ?_)
   exact jq (congrArg T.bool (kAF fhg14_2)) (js Y (js Y (jn)))
 refine mO (tB (decide ((i<l.length)∧(Zi a)))) Y ?_
 refine VRunO.joinB 3 [19,20] 21 (tB (decide (((i<l.length)∧(Zi a))∧(QL l)))) ?_ ?_
 ·refine gw ((i<l.length)∧(Zi a)) (fun fhg18_3=> ?_) fun fhg18_3=> ?_
  ·refine gF (dy fhg18_3) Y Y (OF.move (tv (rd 5 Qa l) Y)) ?_
   refine VRunO.chain (VWant.on Y Y (dy fhg18_3)) (cS (vc (tv (rd 5 Qa l) Y) vn) (ZO Y) (Jq (n+6) l (by omega) (by assumption)) Y Y) (fO (OF.pickT (VEv.tmpB Y (dy fhg18_3)) (tv (tB (decide (QL l))) Y)) (VRunO.nil ?_))
   exact jq (congrArg T.bool (kAT fhg18_3 Y)) (js Y (js Y (jn)))
  ·refine QE 2 8 true 18 (dz fhg18_3) Y Y Y ?_
   refine fO (OF.pickF (VEv.tmpB Y (dz fhg18_3)) (VEv.bool false)) (VRunO.nil ?_)
   exact jq (congrArg T.bool (kAF fhg18_3)) (js Y (js Y (jn)))
 refine nt ?_
 refine cd (((i<l.length)∧(Zi a))∧(QL l)) Y (fun fhc0=> ?_) fun fhc0=> ?_
 ·refine sk ?_
  refine tn (sq (VRun.block (sq (VRun.draw (B:= [[],[],[1,0],[0,1,2],[2,1,0,3],[],[5],[5,6,3,0,1,2,4],[4,2,1,0,3,6,5,7],[7,5,6,3,0,1,2,4,8],[7,5,6,3,0,1,2,4,8],[10,8,4,2,1,0,3,6,5,7,9],[9,7,5,6,3,0,1,2,4,8,10,11],[11,10,8,4,2,1,0,3,6,5,7,9,12],[7,5,6,3,0,1,2,4,8],[14,12,9,7,5,6,3,0,1,2,4,8,10,11,13],[13,11,10,9,12,14,15,7,5,6,3,0,1,2,4,8],[8,4,2,1,0,3,6,5,7,15,14,12,9,10,11,13,16],[16,13,11,10,9,12,14,15,7,5,6,3,0,1,2,4,8,17],[16,13,11,10,9,12,14,15,7,5,6,3,0,1,2,4,8,17],[19,17,8,4,2,1,0,3,6,5,7,15,14,12,9,10,11,13,16,18],[18,16,13,11,10,9,12,14,15,7,5,6,3,0,1,2,4,8,17,19,20],[20,19,17,8,4,2,1,0,3,6,5,7,15,14,12,9,10,11,13,16,18,21],[16,13,11,10,9,12,14,15,7,5,6,3,0,1,2,4,8,17],[17,8,4,2,1,0,3,6,5,7,15,14,12,9,10,11,13,16,23],[23,16,13,11,10,9,12,14,15,7,5,6,3,0,1,2,4,8,17,24],[24,17,8,4,2,1,0,3,6,5,7,15,14,12,9,10,11,13,16,23,25],[25,23,24,26,21,18,16,13,11,10,9,12,14,15,7,5,6,3,0,1,2,4,8,17,19,20,22],[22,20,19,18,21,26,24,23,25,27,16,13,11,10,9,12,14,15,7,5,6,3,0,1,2,4,8,17]]) (by kernel_rfl) (by kernel_rfl) (mD (rd 5 Qa l) Y Y (mD (tN i) Y Y ?_))))))
  obtain ⟨x1,hx1⟩:∃x,l[i]? =some x:=⟨_,List.getElem?_eq_getElem (by omega)⟩
  refine fD (OF.indexAddrR (row:=(Qa false x1)) (i:=i) (tv (rd 5 Qa l) Y) (tv (tN i) Y) Y (Qt _ hx1) U41 Yv Jk) Y Y (fD (B.fieldAddrR (us:=(Qa false x1)) (tv (T.rp (Qa false x1)) Y) (lb Y) Qbg Y) Y Y (lD (OL.loadR1 (t:=(tI x1.Issue)) (tv (T.rp (Qa false x1)) Y) Y QQ) Y Y (fD (OF.fieldAddrO (tv (T.op 0 0) Y) QbF) Y Y (lD (OL.loadO1 (t:=(tI a.Number)) (tv (T.op 0 0) Y) Y Y QQ) Y Y (fD (Y9 (tv (tI x1.Issue) Y) (tv (tI a.Number) Y)) Y Y (mD (tB (decide (x1.Issue=a.Number))) Y Y ?_))))))
  refine gw (x1.Issue=a.Number) (fun fhg32_4=> ?_) fun fhg32_4=> ?_
  ·refine VRunD.free Y (VWant.on Y Y (dy fhg32_4)) Y (OF.move (tv (rd 5 Qa l) Y)) ?_
   refine VRunD.free Y (VWant.on Y Y (dy fhg32_4)) Y (OF.move (tv (tN i) Y)) (VRunD.free Y (VWant.on Y Y (dy fhg32_4)) Y (OF.indexAddrR (row:=(Qa false x1)) (i:=i) (tv (rd 5 Qa l) Y) (tv (tN i) Y) Y (Qt _ hx1) U41 Yv Jk) (VRunD.free Y (VWant.on Y Y (dy fhg32_4)) Y (B.fieldAddrR (us:= [(tI x1.Tick)]) (tv (T.rp (Qa false x1)) Y) (lb Y) Jz Y) (VRunD.look Y (VWant.on Y Y (dy fhg32_4)) Y (OL.loadR1 (t:=(tI x1.Tick)) (tv (T.rp [(tI x1.Tick)]) Y) Y QQ) (VRunD.free Y (VWant.on Y Y (dy fhg32_4)) Y (OF.move (tv (tI tk) Y)) (VRunD.free Y (VWant.on Y Y (dy fhg32_4)) Y (xle (tv (tI x1.Tick) Y) (tv (tI tk) Y)) (fD (OF.pickT (VEv.tmpB Y (dy fhg32_4)) (tv (tB (decide (x1.Tick≤tk))) Y)) Y Y (mD (tB (decide (x1.Tick≤tk))) Y Y ?_)))))))
   refine gw (x1.Tick≤tk) (fun fhg41_5=> ?_) fun fhg41_5=> ?_
   ·refine VRunD.free Y (VWant.on Y Y (dy fhg41_5)) Y (OF.move (tv (rd 5 Qa l) Y)) ?_
    refine VRunD.free Y (VWant.on Y Y (dy fhg41_5)) Y (OF.move (tv (tN i) Y)) (VRunD.free Y (VWant.on Y Y (dy fhg41_5)) Y (OF.indexAddrR (row:=(Qa false x1)) (i:=i) (tv (rd 5 Qa l) Y) (tv (tN i) Y) Y (Qt _ hx1) U41 Yv Jk) (VRunD.free Y (VWant.on Y Y (dy fhg41_5)) Y (B.fieldAddrR (us:=((Qa false x1).drop 1)) (tv (T.rp (Qa false x1)) Y) (lb Y) J6 Y) (VRunD.look Y (VWant.on Y Y (dy fhg41_5)) Y (OL.loadR1 (t:=(tI x1.Slot)) (tv (T.rp ((Qa false x1).drop 1)) Y) Y QQ) (VRunD.free Y (VWant.on Y Y (dy fhg41_5)) Y (OF.fieldAddrO (tv (T.op 0 0) Y) QaV) (VRunD.free Y (VWant.on Y Y (dy fhg41_5)) Y (OF.fieldAddrO (tv (T.op 0 1) Y) Yu) (VRunD.look Y (VWant.on Y Y (dy fhg41_5)) Y (OL.loadO1 (t:=(rd 2 Qd a.Puzzle.Clues)) (tv (T.op 0 4) Y) Y Y QbE) (VRunD.look Y (VWant.on Y Y (dy fhg41_5)) Y (B.lenR (m:=a.Puzzle.Clues.length) (tv (rd 2 Qd a.Puzzle.Clues) Y) U35 (List.length_map ..)) (VRunD.free Y (VWant.on Y Y (dy fhg41_5)) Y (xls (tv (tI x1.Slot) Y) (tv (tN a.Puzzle.Clues.length) Y)) (fD (OF.pickT (VEv.tmpB Y (dy fhg41_5)) (tv (tB (decide (x1.Slot<((a.Puzzle.Clues.length:Nat):Int)))) Y)) Y Y (VRunD.nil (tn ?_)))))))))))
    refine cd (x1.Slot<((a.Puzzle.Clues.length:Nat):Int)) Y (fun fhc1=> ?_) fun fhc1=> ?_
    ·refine VRun.region ?_
     refine mO (T.os 1 1 0 (((slN a l tk i).map (Qb true)).length)) Y (mO (rd 5 Qa l) Y (mO (tN i) Y (fO (OF.indexAddrR (row:=(Qa false x1)) (i:=i) (tv (rd 5 Qa l) Y) (tv (tN i) Y) Y (Qt _ hx1) U41 Yv Jk) (lr (tI x1.Slot) Y (lb Y) J6 Y QQ (cO (OC.callF (us:= [(rd 1 Qb (slN a l tk i)),(tI x1.Slot)]) (r':=(T.os 1 2 0 (((YF (slN a l tk i) x1.Slot).map (Qb true)).length))) (objs:= [(Obj.rows 1 ((YF (slN a l tk i) x1.Slot).map (Qb true)))]) Y (vc (tv (T.os 1 1 0 (((slN a l tk i).map (Qb true)).length)) Y) (vc (tv (tI x1.Slot) Y) vn)) (LendL.cons (Lend.os Y Y (okInt.fzMap _ _)) (lp Y ln)) (Qg8 (n+11) (slN a l tk i) x1.Slot (by omega)) Y) (aO (T.os 1 2 0 (((YF (slN a l tk i) x1.Slot).map (Qb true)).length)) Y (VRunO.nil (vinB.n (tn (VRun.region (mO (tN i) Y ?_)))))))))))
     refine fO (Qy (tv (tN i) Y) (VEv.int .i64 1) (by omega)) (aO (tN (i+1)) Y (VRunO.nil (tn ?_)))
     have he6:YF (slN a l tk i) x1.Slot=slN a l tk (i+1):=by rw [Qdf hx1,if_pos ⟨by assumption,by assumption,by assumption⟩]
     refine ⟨(i+1:Nat),?_,?_,Wk.mk (fun k=>if k=1 then 2 else k) ?_ ?_ ?_⟩
     ·exact ⟨by have:=fhc0.1.1;omega, .inr ⟨fhc0.1.2,fhc0.2⟩⟩
     ·omega
     ·exact (b2 (b2 (b2 (b2 (bc ⟨(congrArg (fun l_=>T.os 1 2 0 (List.map (Qb true) l_).length) he6),rfl⟩ (b2 bn))))))
     ·exact (b3 (bc ⟨(congrArg (fun l_=>some (Obj.rows 1 (List.map (Qb true) l_))) he6),(lb Y),rfl⟩ bn))
     ·exact nd Y
    refine sk (vinB.n (tn (VRun.region (mO (tN i) Y (fO (Qy (tv (tN i) Y) (VEv.int .i64 1) (by omega)) (aO (tN (i+1)) Y (VRunO.nil (tn ?_))))))))
    have he7:slN a l tk i=slN a l tk (i+1):=by rw [Qdf hx1,if_neg (fun h=>absurd h.2.2 (by assumption))]
    refine ⟨(i+1:Nat),?_,?_,Wk.mk (fun k=>k) ?_ ?_ ?_⟩
    ·exact ⟨by have:=fhc0.1.1;omega, .inr ⟨fhc0.1.2,fhc0.2⟩⟩
    ·omega
    ·exact (b2 (b2 (b2 (b2 (bc ⟨(congrArg (fun l_=>T.os 1 1 0 (List.map (Qb true) l_).length) he7),rfl⟩ (b2 bn))))))
    ·exact (b3 (bc ⟨(congrArg (fun l_=>some (Obj.rows 1 (List.map (Qb true) l_))) he7),(lb Y),rfl⟩ bn))
    ·exact nd Y
   refine oD Y Y (dz fhg41_5) Y (oD Y Y (dz fhg41_5) Y (oD Y Y (dz fhg41_5) Y (oD Y Y (dz fhg41_5) Y (oD Y Y (dz fhg41_5) Y (oD Y Y (dz fhg41_5) Y (oD Y Y (dz fhg41_5) Y (oD Y Y (dz fhg41_5) Y (oD Y Y (dz fhg41_5) Y (oD Y Y (dz fhg41_5) Y (fD (OF.pickF (VEv.tmpB Y (dz fhg41_5)) (VEv.bool false)) Y Y (VRunD.nil ?_)))))))))))
   refine tn (cf Y (sk (vinB.n (tn (VRun.region (mO (tN i) Y (fO (Qy (tv (tN i) Y) (VEv.int .i64 1) (by omega)) (aO (tN (i+1)) Y (VRunO.nil (tn ?_))))))))))
   have he8:slN a l tk i=slN a l tk (i+1):=by rw [Qdf hx1,if_neg (fun h=>absurd h.2.1 (by assumption))]
   refine ⟨(i+1:Nat),?_,?_,Wk.mk (fun k=>k) ?_ ?_ ?_⟩
   ·exact ⟨by have:=fhc0.1.1;omega, .inr ⟨fhc0.1.2,fhc0.2⟩⟩
   ·omega
   ·exact (b2 (b2 (b2 (b2 (bc ⟨(congrArg (fun l_=>T.os 1 1 0 (List.map (Qb true) l_).length) he8),rfl⟩ (b2 bn))))))
   ·exact (b3 (bc ⟨(congrArg (fun l_=>some (Obj.rows 1 (List.map (Qb true) l_))) he8),(lb Y),rfl⟩ bn))
   ·exact nd Y
  refine oD Y Y (dz fhg32_4) Y (oD Y Y (dz fhg32_4) Y (oD Y Y (dz fhg32_4) Y (oD Y Y (dz fhg32_4) Y (oD Y Y (dz fhg32_4) Y (oD Y Y (dz fhg32_4) Y (oD Y Y (dz fhg32_4) Y (fD (OF.pickF (VEv.tmpB Y (dz fhg32_4)) (VEv.bool false)) Y Y (mD (tB false) Y Y (VRunD.off Y (VWant.not (b:=false) Y Y Y) (VRunD.off Y (VWant.not (b:=false) Y Y Y) (VRunD.off Y (VWant.not (b:=false) Y Y Y) ?_)))))))))))
  refine VRunD.off Y (VWant.not (b:=false) Y Y Y) (VRunD.off Y (VWant.not (b:=false) Y Y Y) (VRunD.off Y (VWant.not (b:=false) Y Y Y) (VRunD.off Y (VWant.not (b:=false) Y Y Y) (VRunD.off Y (VWant.not (b:=false) Y Y Y) (VRunD.off Y (VWant.not (b:=false) Y Y Y) (VRunD.off Y (VWant.not (b:=false) Y Y Y) (fD (OF.pickF (tv (tB false) Y) (VEv.bool false)) Y Y (VRunD.nil (tn (cf Y (sk ?_)))))))))))
  refine vinB.n (tn (VRun.region (mO (tN i) Y (fO (Qy (tv (tN i) Y) (VEv.int .i64 1) (by omega)) (aO (tN (i+1)) Y (VRunO.nil (tn ?_)))))))
  have he9:slN a l tk i=slN a l tk (i+1):=by rw [Qdf hx1,if_neg (fun h=>absurd h.1 (by assumption))]
  refine ⟨(i+1:Nat),?_,?_,Wk.mk (fun k=>k) ?_ ?_ ?_⟩
  ·exact ⟨by have:=fhc0.1.1;omega, .inr ⟨fhc0.1.2,fhc0.2⟩⟩
  ·omega
  ·exact (b2 (b2 (b2 (b2 (bc ⟨(congrArg (fun l_=>T.os 1 1 0 (List.map (Qb true) l_).length) he9),rfl⟩ (b2 bn))))))
  ·exact (b3 (bc ⟨(congrArg (fun l_=>some (Obj.rows 1 (List.map (Qb true) l_))) he9),(lb Y),rfl⟩ bn))
  ·exact nd Y
 refine VRun.exit (vthn.e (vthn.e (vinB.e (tn (sr (mO (T.os 1 1 0 (((slN a l tk i).map (Qb true)).length)) Y (aO (T.os 1 1 0 (((slN a l tk i).map (Qb true)).length)) Y (nt (rt ?_)))))))))
 refine vfin.eq (r':=(T.sl true 1 ((slN a l tk i).map (Qb true)))) ?_ (vfin.r (VRes.tmp (t:=(T.os 1 1 0 (((slN a l tk i).map (Qb true)).length))) Y VRes.nil) (Give.os Y Y (okInt.cleanMap _)))
 refine congrArg (fun l_=>T.sl true 1 (List.map (Qb true) l_)) ?_
 exact QmF hI'.1 hI'.2 fhc0
theorem Qc1 (n:Nat) (a:D.Issue) (l:List D.Correction) (tk:Int) (hz:Q5 a≤mx) (hq:zL Qn l≤mx):Pure (Qs Tryz.prog (n+45)) 50 [(T.agg (Qz false a)),(rd 5 Qa l),(tI tk)] (T.sl true 1 ((Zo a l tk).map (Qb true))):=by
 refine Pure.intro (rs:= [ResultVar.tmp 6]) Tryz.func50 Y Y Y (E0:= [(0,(T.agg (Qz false a))),(1,(rd 5 Qa l)),(2,(tI tk))]) Y ?_
 obtain ⟨hlim,hmx,hmax⟩:=QG
 have hl:=QU (z:=Qn) l
 have hw:∀x∈l,QH x.Clue≤mx:=fun x hx=>by have h1:=Qeh (z:=Qn) hx;simp only [Qn] at h1;omega
 have hz2:=hz
 simp only [Q5,QK,ZD] at hz2
 have hlc:=QU (z:=QH) a.Puzzle.Clues
 refine sr (kO (B.box (ts:=(Qz false a)) (tv (T.agg (Qz false a)) Y) nofun Y) (fO (OF.assign VEv.nils) (nt (sq (sr (lO (OL.loadOn (us:=(Qz false a)) (tv (T.op 0 0) Y) Y Qgg QeR (lb Y) Y) (cO (cS (vc (tv (T.agg (Qz false a)) Y) vn) (LendL.cons (lg YT) ln) (QbZ (n+0) a (by assumption)) Y Y) (fO (Q1 (tv (tB (decide (Zi a))) Y)) (mO (tB (!(decide (Zi a)))) Y ?_)))))))))
 refine VRunO.joinB 4 [16,17,18] 19 (tB (decide ((¬(Zi a))∨(¬(QL l))))) ?_ ?_
 ·refine gn (Zi a) (fun fhg15_1=> ?_) fun fhg15_1=> ?_
  ·refine QE 3 3 false 15 (ny fhg15_1) Y Y Y ?_
   refine fO (OF.pickT (VEv.tmpB Y (ny fhg15_1)) (VEv.bool true)) (VRunO.nil ?_)
   exact jq (congrArg T.bool (kOT fhg15_1)) (js Y (js Y (js Y (jn))))
  ·refine gF (nz fhg15_1) Y Y (OF.move (tv (rd 5 Qa l) Y)) ?_
   refine VRunO.chain (VWant.on Y Y (nz fhg15_1)) (cS (vc (tv (rd 5 Qa l) Y) vn) (ZO Y) (Jr (n+39) l (by omega) (by assumption)) Y Y) (gF (nz fhg15_1) Y Y (Q1 (tv (tB (decide (QL l))) Y)) (fO (OF.pickF (VEv.tmpB Y (nz fhg15_1)) (tv (tB (!(decide (QL l)))) Y)) (VRunO.nil ?_)))
   exact jq (congrArg T.bool (kOF (not_not_intro fhg15_1) dN)) (js Y (js Y (js Y (jn))))
 refine nt ?_
 refine cd ((¬(Zi a))∨(¬(QL l))) Y (fun fhc0=> ?_) fun fhc0=> ?_
 ·refine sr ?_
  refine fO (OF.assign VEv.nils) (nt (rt (tr ?_)))
  refine vfin.eq (r':=(T.sl true 1 [])) ?_ (vfin.r (VRes.tmp (t:=T.nils) Y VRes.nil) (Give.nils 1))
  refine congrArg (fun l_=>T.sl true 1 (List.map (Qb true) l_)) (a₁:= []) ?_
  exact (if_neg (fun h:YQ a l=>by rcases fhc0 with h2 | h2<;>first | exact h2 h.1 | exact h2 h.2)).symm
 have hg:YQ a l:=⟨Classical.byContradiction fun h=>fhc0 (.inl h),Classical.byContradiction fun h=>fhc0 (.inr h)⟩
 refine sk (tn (sr (fO (OF.assign VEv.nils) (nt (sq (sr (fO (OF.fieldAddrO (tv (T.op 0 0) Y) QaV) (lf (rd 2 Qd a.Puzzle.Clues) Y Yu Y Y QbE (lO (B.lenR (m:=a.Puzzle.Clues.length) (tv (rd 2 Qd a.Puzzle.Clues) Y) U35 (List.length_map ..)) (fO (OF.move (VEv.int .i64 0)) (nt ?_)))))))))))
 refine VRun.block (VRun.wk (Wk.phantom 7 1 Y) ?_)
 have he2: []=((Q0 a l tk 0).map (Qb true)):=by rfl
 refine VRun.loop (A:=Nat) (fun s_=> [(1,(rd 5 Qa l)),(2,(tI tk)),(3,(T.op 0 0)),(6,T.nils),(7,(T.os 1 1 0 (((Q0 a l tk s_).map (Qb true)).length))),(23,(tN a.Puzzle.Clues.length)),(24,(tN s_))]) (fun s_=>QY [(0,(Obj.cells (Qz false a))),(1,(Obj.rows 1 ((Q0 a l tk s_).map (Qb true))))]) 2 (fun s_=>s_≤a.Puzzle.Clues.length) (fun s_=>a.Puzzle.Clues.length - s_) (0:Nat) ?_ (Wk.mk (fun k=>k) ?_ ?_ ?_) ?_
 ·(simp;done)
 ·exact (b2 (b2 (b2 (b2 (bc ⟨(congrArg (fun n_=>T.os 1 1 0 n_) (show 0=((Q0 a l tk 0).map (Qb true)).length from (by rfl))),rfl⟩ (b2 (b2 bn)))))))
 ·exact (b3 (bc ⟨(congrArg (fun l_=>some (Obj.rows 1 l_)) he2),(lb Y),rfl⟩ bn))
 ·exact nd Y
 rintro u (hI':u≤a.Puzzle.Clues.length)
 show VRun _ _ _ [(1,(rd 5 Qa l)),(2,(tI tk)),(3,(T.op 0 0)),(6,T.nils),(7,(T.os 1 1 0 (((Q0 a l tk u).map (Qb true)).length))),(23,(tN a.Puzzle.Clues.length)),(24,(tN u))] (QY [(0,(Obj.cells (Qz false a))),(1,(Obj.rows 1 ((Q0 a l tk u).map (Qb true))))]) 2 _
 have hI1:=hI'
 have hcn:=Qaq a l tk u
 refine sr (fO (Zb (tv (tN u) Y) (tv (tN a.Puzzle.Clues.length) Y)) (nt (sq ?_)))
 refine cd (u<a.Puzzle.Clues.length) Y (fun fhc1=> ?_) fun fhc1=> ?_
 ·refine sk ?_
  refine tn (sq (VRun.block (sr (mO (tN u) Y (aO (tN u) Y (nt (sr (fO (OF.assign (VEv.int .i64 (-1))) (nt (sq (sr ?_)))))))))))
  refine mO (rd 5 Qa l) Y (lO (B.lenR (m:=l.length) (tv (rd 5 Qa l) Y) U41 (List.length_map ..)) (fO (OF.move (VEv.int .i64 0)) (nt (VRun.block ?_))))
  refine VRun.loop (A:=Nat) (fun s_=> [(1,(rd 5 Qa l)),(2,(tI tk)),(3,(T.op 0 0)),(6,T.nils),(7,(T.os 1 1 0 (((Q0 a l tk u).map (Qb true)).length))),(8,(tN u)),(9,(tI (cAt a l tk ((u:Nat):Int) s_))),(23,(tN a.Puzzle.Clues.length)),(24,(tN u)),(27,(rd 5 Qa l)),(28,(tN l.length)),(29,(tN s_))]) (fun s_=>QY [(0,(Obj.cells (Qz false a))),(1,(Obj.rows 1 ((Q0 a l tk u).map (Qb true))))]) 2 (fun s_=>s_≤l.length) (fun s_=>l.length - s_) (0:Nat) ?_ (Wk.mk (fun k=>k) ?_ ?_ ?_) ?_
  ·(simp;done)
  ·exact (b2 (b2 (b2 (b2 (b2 (b2 (bc ⟨(congrArg (T.int .i64) (show (-1)=cAt a l tk ((u:Nat):Int) 0 from (by rfl))),rfl⟩ (b2 (b2 (b2 (b2 (b2 bn))))))))))))
  ·exact (b3 (b3 bn))
  ·exact nd Y
  rintro i (hI':i≤l.length)
  show VRun _ _ _ [(1,(rd 5 Qa l)),(2,(tI tk)),(3,(T.op 0 0)),(6,T.nils),(7,(T.os 1 1 0 (((Q0 a l tk u).map (Qb true)).length))),(8,(tN u)),(9,(tI (cAt a l tk ((u:Nat):Int) i))),(23,(tN a.Puzzle.Clues.length)),(24,(tN u)),(27,(rd 5 Qa l)),(28,(tN l.length)),(29,(tN i))] (QY [(0,(Obj.cells (Qz false a))),(1,(Obj.rows 1 ((Q0 a l tk u).map (Qb true))))]) 2 _
  have hJ1:=hI'
  refine sr (fO (Zb (tv (tN i) Y) (tv (tN l.length) Y)) (nt (sq ?_)))
  refine cd (i<l.length) Y (fun fhc2=> ?_) fun fhc2=> ?_
  ·refine sk ?_
   refine tn (sq (VRun.block (sr (mO (tN i) Y ?_))))
   obtain ⟨x1,hx1⟩:∃x,l[i]? =some x:=⟨_,List.getElem?_eq_getElem (by omega)⟩
   refine fO (OF.indexAddrR (row:=(Qa false x1)) (i:=i) (tv (rd 5 Qa l) Y) (tv (tN i) Y) Y (Qt _ hx1) U41 Yv Jk) (lO (OL.loadRn (us:=(Qa false x1)) (tv (T.rp (Qa false x1)) Y) Qjw Yv (lb Y) Y) (kO (B.alloc (t:=(T.agg [(tN 0),(tN 0),(tN 0),T.nils,(tN 0)])) (ts:= [(tN 0),(tN 0),(tN 0),T.nils,(tN 0)]) QkZ QkM nofun (fun _=> .agg _ _ Y (Yf (RL.cons (.int _ _) (RL.cons (.int _ _) (RL.cons (.int _ _) (RL.cons (.nils) (RL.cons (.int _ _) (RL.nil _)))))))) Y) (aO (tN i) Y (cO (B.storeW (us:=(Qa false x1)) (tv (T.op 2 0) Y) (tv (T.agg (Qa false x1)) Y) nofun Y Y Y Jk Yv (bc Y (bc Y (bc Y (bc Y (bc Y bn)))))) (nt (sr (lf (tI x1.Issue) Y Qbg Y Y QQ (lf (tI a.Number) Y QbF Y Y QQ (fO (Y9 (tv (tI x1.Issue) Y) (tv (tI a.Number) Y)) (mO (tB (decide (x1.Issue=a.Number))) Y ?_))))))))))
   refine gw (x1.Issue=a.Number) (fun fhg39_3=> ?_) fun fhg39_3=> ?_
   ·refine Yx (tI x1.Slot) (dy fhg39_3) Y Y Y Y J6 Y Y QQ ?_
    refine gF (dy fhg39_3) Y Y (OF.move (tv (tN u) Y)) (gF (dy fhg39_3) Y Y (Y9 (tv (tI x1.Slot) Y) (tv (tN u) Y)) (fO (OF.pickT (VEv.tmpB Y (dy fhg39_3)) (tv (tB (decide (x1.Slot=((u:Nat):Int)))) Y)) (mO (tB (decide (x1.Slot=((u:Nat):Int)))) Y ?_)))
    refine gw (x1.Slot=((u:Nat):Int)) (fun fhg45_4=> ?_) fun fhg45_4=> ?_
    ·refine Yx (tI x1.Tick) (dy fhg45_4) Y Y Y Y Jz Y Y QQ ?_
     refine gF (dy fhg45_4) Y Y (OF.move (tv (tI tk) Y)) (gF (dy fhg45_4) Y Y (xle (tv (tI x1.Tick) Y) (tv (tI tk) Y)) (fO (OF.pickT (VEv.tmpB Y (dy fhg45_4)) (tv (tB (decide (x1.Tick≤tk))) Y)) (nt ?_)))
     refine cd (x1.Tick≤tk) Y (fun fhc3=> ?_) fun fhc3=> ?_
     ·refine VRun.region ?_
      refine mO (tN i) Y (aO (tN i) Y (VRunO.nil (vinB.n (tn (VRun.region (fO (Qy (tv (tN i) Y) (VEv.int .i64 1) (by omega)) (mO (tN (i+1)) Y (VRunO.nil (tn ?_)))))))))
      refine ⟨(i+1:Nat),?_,?_,Wk.mk (fun k=>k) ?_ ?_ ?_⟩
      ·trivial
      ·omega
      ·exact (b2 (b2 (b2 (b2 (b2 (b2 (bc ⟨(congrArg (T.int .i64) (show ((i:Nat):Int)=cAt a l tk ((u:Nat):Int) (i+1) from (by rw [QbH hx1,if_pos ⟨by assumption,by assumption,by assumption⟩]))),rfl⟩ (b2 (b2 (b2 (b2 (b2 bn))))))))))))
      ·exact (b3 (b3 bn))
      ·exact nd Y
     refine sk (vinB.n (tn (VRun.region (fO (Qy (tv (tN i) Y) (VEv.int .i64 1) (by omega)) (mO (tN (i+1)) Y (VRunO.nil (tn ?_)))))))
     refine ⟨(i+1:Nat),?_,?_,Wk.mk (fun k=>k) ?_ ?_ ?_⟩
     ·trivial
     ·omega
     ·exact (b2 (b2 (b2 (b2 (b2 (b2 (bc ⟨(congrArg (T.int .i64) (show cAt a l tk ((u:Nat):Int) i=cAt a l tk ((u:Nat):Int) (i+1) from (by rw [QbH hx1,if_neg (fun h=>absurd h.2.2 (by assumption))]))),rfl⟩ (b2 (b2 (b2 (b2 (b2 bn))))))))))))
     ·exact (b3 (b3 bn))
     ·exact nd Y
    refine QE 4 11 true 45 (dz fhg45_4) Y Y Y (fO (OF.pickF (VEv.tmpB Y (dz fhg45_4)) (VEv.bool false)) (nt (cf Y (sk (vinB.n (tn (VRun.region (fO (Qy (tv (tN i) Y) (VEv.int .i64 1) (by omega)) (mO (tN (i+1)) Y (VRunO.nil (tn ?_)))))))))))
    refine ⟨(i+1:Nat),?_,?_,Wk.mk (fun k=>k) ?_ ?_ ?_⟩
    ·trivial
    ·omega
    ·exact (b2 (b2 (b2 (b2 (b2 (b2 (bc ⟨(congrArg (T.int .i64) (show cAt a l tk ((u:Nat):Int) i=cAt a l tk ((u:Nat):Int) (i+1) from (by rw [QbH hx1,if_neg (fun h=>absurd h.2.1 (by assumption))]))),rfl⟩ (b2 (b2 (b2 (b2 (b2 bn))))))))))))
    ·exact (b3 (b3 bn))
    ·exact nd Y
   refine QE 4 5 true 39 (dz fhg39_3) Y Y Y (fO (OF.pickF (VEv.tmpB Y (dz fhg39_3)) (VEv.bool false)) (mO (tB false) Y (QE 4 11 true 45 (b:=false) Y Y Y Y (fO (OF.pickF (tv (tB false) Y) (VEv.bool false)) (nt (cf Y (sk (vinB.n (tn (VRun.region (fO (Qy (tv (tN i) Y) (VEv.int .i64 1) (by omega)) ?_)))))))))))
   refine mO (tN (i+1)) Y (VRunO.nil (tn ?_))
   refine ⟨(i+1:Nat),?_,?_,Wk.mk (fun k=>k) ?_ ?_ ?_⟩
   ·trivial
   ·omega
   ·exact (b2 (b2 (b2 (b2 (b2 (b2 (bc ⟨(congrArg (T.int .i64) (show cAt a l tk ((u:Nat):Int) i=cAt a l tk ((u:Nat):Int) (i+1) from (by rw [QbH hx1,if_neg (fun h=>absurd h.1 (by assumption))]))),rfl⟩ (b2 (b2 (b2 (b2 (b2 bn))))))))))))
   ·exact (b3 (b3 bn))
   ·exact nd Y
  refine VRun.exit (vthn.e (vthn.e (vinB.e (tn (VRun.region (mO (T.os 1 1 0 (((Q0 a l tk u).map (Qb true)).length)) Y (mO (tI (cAt a l tk ((u:Nat):Int) i)) Y (kO (OM.buildSlice (l:= [(tI (cAt a l tk ((u:Nat):Int) i))]) (VEvp.cons (tv (tI (cAt a l tk ((u:Nat):Int) i)) Y) VEvp.nil) Y (by decide) (bc (nofun) bn) (bc ((bc (Y) bn)) bn) (bc (Y) bn) Zr JW (by kernel_rfl) Y (by rw [Zd];decide) Zd (Nat.le_of_ble_eq_true Y)) (cO (B.append (rows:=((Q0 a l tk u).map (Qb true))) (rows2:= [[(tI (cAt a l tk ((u:Nat):Int) i))]]) (rows3:=((Q0 a l tk u++ [cAt a l tk ((u:Nat):Int) i]).map (Qb true))) (VDst.own (tv (T.os 1 1 0 (((Q0 a l tk u).map (Qb true)).length)) Y) Y Y) (VSrc.own (tv (T.os 1 2 0 1) Y) Y Y Zr (bc (bc Y bn) bn)) (by decide) Zr Zd (by decide) JW Y (of_decide_eq_true (by kernel_rfl)) (by (simp only [List.length_map,List.length_append,List.length_cons,List.length_nil,List.length_replicate,List.length_set,List.length_drop,List.length_take,YG] at *;omega)) ((List.map_append (f:=Qb true) (l₁:=Q0 a l tk u) (l₂:= [cAt a l tk ((u:Nat):Int) i])).symm)) (aO (T.os 1 3 0 (((Q0 a l tk u++ [cAt a l tk ((u:Nat):Int) i]).map (Qb true)).length)) Y (VRunO.nil ?_)))))))))))
  refine vinB.n (tn (VRun.region (fO (Qy (tv (tN u) Y) (VEv.int .i64 1) (by omega)) (mO (tN (u+1)) Y (VRunO.nil (tn ?_))))))
  have he5:(Q0 a l tk u++ [cAt a l tk ((u:Nat):Int) i])=Q0 a l tk (u+1):=by (rw [show i=l.length by omega];exact QhM a l tk u)
  refine ⟨(u+1:Nat),?_,?_,Wk.mk (fun k=>if k=1 then 3 else k) ?_ ?_ ?_⟩
  ·trivial
  ·omega
  ·exact (b2 (b2 (b2 (b2 (bc ⟨(congrArg (fun l_=>T.os 1 3 0 (List.map (Qb true) l_).length) he5),rfl⟩ (b2 (b2 bn)))))))
  ·exact (b3 (bc ⟨(congrArg (fun l_=>some (Obj.rows 1 (List.map (Qb true) l_))) he5),(lb Y),rfl⟩ bn))
  ·exact nd Y
 refine VRun.exit (vthn.e (vthn.e (vinB.e (tn (sr (mO (T.os 1 1 0 (((Q0 a l tk u).map (Qb true)).length)) Y (aO (T.os 1 1 0 (((Q0 a l tk u).map (Qb true)).length)) Y (nt (rt ?_)))))))))
 refine vfin.eq (r':=(T.sl true 1 ((Q0 a l tk u).map (Qb true)))) ?_ (vfin.r (VRes.tmp (t:=(T.os 1 1 0 (((Q0 a l tk u).map (Qb true)).length))) Y VRes.nil) (Give.os Y Y (okInt.cleanMap _)))
 refine congrArg (fun l_=>T.sl true 1 (List.map (Qb true) l_)) ?_
 rw [show u=a.Puzzle.Clues.length by omega];exact (if_pos hg).symm
theorem Qax (n:Nat) (a:D.Puzzle) (k:Nat) (hk:Ql k a.Clues+1*a.Seals.length≤YG):LoanM (Qs Tryz.prog (n+4)) 33 [(2,(a.Clues.map (Qd true))),(1,(a.Seals.map (Qb true)))] [(T.agg [(tI a.Grid.Rows),(tI a.Grid.Cols),(tS a.Grid.Cells),(T.os 2 0 0 ((a.Clues.map (Qd true)).length)),(T.os 1 1 0 ((a.Seals.map (Qb true)).length)),(tI a.Salt)]),(tN k)] (tN (Ql k a.Clues+1*a.Seals.length)) [(2,((QI k a.Clues).map (Qd true))),(1,((YH Zl 1 (Ql k a.Clues) a.Seals.length).map (Qb true)))]:=by
 refine LoanM.intro (rs:= [ResultVar.tmp 4]) [(0,(T.agg [(tI a.Grid.Rows),(tI a.Grid.Cols),(tS a.Grid.Cells),(T.os 2 0 0 ((a.Clues.map (Qd true)).length)),(T.os 1 1 0 ((a.Seals.map (Qb true)).length)),(tI a.Salt)]))] Tryz.func33 Y Y Y Y (bc ⟨by kernel_rfl,rfl⟩ bn) (PinsTo.at (And.intro (And.intro trivial ⟨_,(.head _),(.agg 3 Y (.os _ _))⟩) ⟨_,(.head _),(.agg 4 Y (.os _ _))⟩)) (.int _ _) (bc (okeClue.cleanMap _) (bc (okInt.cleanMap _) bn)) (E0:= [(0,(T.agg [(tI a.Grid.Rows),(tI a.Grid.Cols),(tS a.Grid.Cells),(T.os 2 0 0 ((a.Clues.map (Qd true)).length)),(T.os 1 1 0 ((a.Seals.map (Qb true)).length)),(tI a.Salt)])),(1,(tN k))]) Y (fun asg=> ?_)
 obtain ⟨hlim,hmx,hmax⟩:=QG
 show VRun _ _ _ [(0,(T.agg [(tI a.Grid.Rows),(tI a.Grid.Cols),(tS a.Grid.Cells),(T.os 2 0 0 ((a.Clues.map (Qd true)).length)),(T.os 1 1 0 ((a.Seals.map (Qb true)).length)),(tI a.Salt)])),(1,(tN k))] (QY [(0,(Obj.rowsN 2 (a.Clues.map (Qd true)) (asg 0))),(1,(Obj.rowsN 1 (a.Seals.map (Qb true)) (asg 1)))]) 2 _
 refine sr (kO (B.box (ts:= [(tI a.Grid.Rows),(tI a.Grid.Cols),(tS a.Grid.Cells),(T.os 2 0 0 ((a.Clues.map (Qd true)).length)),(T.os 1 1 0 ((a.Seals.map (Qb true)).length)),(tI a.Salt)]) (tv (T.agg [(tI a.Grid.Rows),(tI a.Grid.Cols),(tS a.Grid.Cells),(T.os 2 0 0 ((a.Clues.map (Qd true)).length)),(T.os 1 1 0 ((a.Seals.map (Qb true)).length)),(tI a.Salt)]) Y) nofun Y) (fO (OF.assign (VEv.int .i64 0)) (nt (sr (lf (T.os 2 0 0 ((a.Clues.map (Qd true)).length)) Y Yu Y Y QbE (mO (tN k) Y (cO (OC.callL (ts:= [(T.os 2 0 0 ((a.Clues.map (Qd true)).length)),(tN k)]) [0] (r:=(tN (Ql k a.Clues))) (L:= [(2,(a.Clues.map (Qd true)))]) [(2,((QI k a.Clues).map (Qd true)))] [(Obj.rowsN 2 (a.Clues.map (Qd true)) (asg 0))] rfl (vc (tv (T.os 2 0 0 ((a.Clues.map (Qd true)).length)) Y) (vc (tv (tN k) Y) vn)) (by decide) Y (And.intro (And.intro Y Y) (trivial)) (bc (okeClue.cleanMap _) bn) (bc (okeClue.cleanMap _) bn) Y Y (.int _ _) (Qed (n+0) a.Clues k (by omega))) (aO (tN (Ql k a.Clues)) Y (nt (sr (lf (T.os 1 1 0 ((a.Seals.map (Qb true)).length)) Y JH Y Y QbP ?_)))))))))))
 refine mO (tN (Ql k a.Clues)) Y (cO (OC.viaN (k:=1) Y (Yb (fun _=>rfl) _) (Yb (fun _=>rfl) _) (OC.callMut (rows:=(a.Seals.map (Qb true))) (rows':=((YH Zl 1 (Ql k a.Clues) a.Seals.length).map (Qb true))) Y (vc (tv (T.os 1 1 0 ((a.Seals.map (Qb true)).length)) Y) (vc (tv (tN (Ql k a.Clues)) Y) vn)) Y Y (bc Y bn) (Yb (fun _=>rfl) _) (Yb (fun _=>rfl) _) (QeV (n+2) a.Seals (Ql k a.Clues) (by assumption)))) (aO (tN ((Ql k a.Clues)+1*a.Seals.length)) Y (nt (sr (mO (tN ((Ql k a.Clues)+1*a.Seals.length)) Y (aO (tN ((Ql k a.Clues)+1*a.Seals.length)) Y (nt (rt ?_))))))))
 have hnew0:QI k a.Clues=QI k a.Clues:=by
  rfl
 have hnew1:YH Zl 1 (Ql k a.Clues) a.Seals.length=YH Zl 1 (Ql k a.Clues) a.Seals.length:=by
  rfl
 exact vloanM.r (L1:= [(2,((QI k a.Clues).map (Qd true))),(1,((YH Zl 1 (Ql k a.Clues) a.Seals.length).map (Qb true)))]) (fun k=>k) (VRes.tmp (t:=(tN ((Ql k a.Clues)+1*a.Seals.length))) Y VRes.nil) (congrArg (T.int .i64) (show (((Ql k a.Clues)+1*a.Seals.length:Nat):Int)=((Ql k a.Clues+1*a.Seals.length:Nat):Int) by rfl)) (bc Y bn) (And.intro Y (And.intro Y (trivial))) (by rw [hnew0,hnew1])
theorem QdR (n:Nat) (a:D.Issue) (k:Nat) (hk:Ql k a.Puzzle.Clues+1*a.Puzzle.Seals.length≤YG):LoanM (Qs Tryz.prog (n+5)) 19 [(2,(a.Puzzle.Clues.map (Qd true))),(1,(a.Puzzle.Seals.map (Qb true)))] [(T.agg [(tI a.Number),(tI a.Puzzle.Grid.Rows),(tI a.Puzzle.Grid.Cols),(tS a.Puzzle.Grid.Cells),(T.os 2 0 0 ((a.Puzzle.Clues.map (Qd true)).length)),(T.os 1 1 0 ((a.Puzzle.Seals.map (Qb true)).length)),(tI a.Puzzle.Salt),(tS a.Fill),(tI a.Open),(tI a.Close)]),(tN k)] (tN (Ql k a.Puzzle.Clues+1*a.Puzzle.Seals.length)) [(2,((QI k a.Puzzle.Clues).map (Qd true))),(1,((YH Zl 1 (Ql k a.Puzzle.Clues) a.Puzzle.Seals.length).map (Qb true)))]:=by
 refine LoanM.intro (rs:= [ResultVar.tmp 4]) [(0,(T.agg [(tI a.Number),(tI a.Puzzle.Grid.Rows),(tI a.Puzzle.Grid.Cols),(tS a.Puzzle.Grid.Cells),(T.os 2 0 0 ((a.Puzzle.Clues.map (Qd true)).length)),(T.os 1 1 0 ((a.Puzzle.Seals.map (Qb true)).length)),(tI a.Puzzle.Salt),(tS a.Fill),(tI a.Open),(tI a.Close)]))] Tryz.func19 Y Y Y Y (bc ⟨by kernel_rfl,rfl⟩ bn) (PinsTo.at (And.intro (And.intro trivial ⟨_,(.head _),(.agg 4 Y (.os _ _))⟩) ⟨_,(.head _),(.agg 5 Y (.os _ _))⟩)) (.int _ _) (bc (okeClue.cleanMap _) (bc (okInt.cleanMap _) bn)) (E0:= [(0,(T.agg [(tI a.Number),(tI a.Puzzle.Grid.Rows),(tI a.Puzzle.Grid.Cols),(tS a.Puzzle.Grid.Cells),(T.os 2 0 0 ((a.Puzzle.Clues.map (Qd true)).length)),(T.os 1 1 0 ((a.Puzzle.Seals.map (Qb true)).length)),(tI a.Puzzle.Salt),(tS a.Fill),(tI a.Open),(tI a.Close)])),(1,(tN k))]) Y (fun asg=> ?_)
 obtain ⟨hlim,hmx,hmax⟩:=QG
 show VRun _ _ _ [(0,(T.agg [(tI a.Number),(tI a.Puzzle.Grid.Rows),(tI a.Puzzle.Grid.Cols),(tS a.Puzzle.Grid.Cells),(T.os 2 0 0 ((a.Puzzle.Clues.map (Qd true)).length)),(T.os 1 1 0 ((a.Puzzle.Seals.map (Qb true)).length)),(tI a.Puzzle.Salt),(tS a.Fill),(tI a.Open),(tI a.Close)])),(1,(tN k))] (QY [(0,(Obj.rowsN 2 (a.Puzzle.Clues.map (Qd true)) (asg 0))),(1,(Obj.rowsN 1 (a.Puzzle.Seals.map (Qb true)) (asg 1)))]) 2 _
 refine sr (kO (B.box (ts:= [(tI a.Number),(tI a.Puzzle.Grid.Rows),(tI a.Puzzle.Grid.Cols),(tS a.Puzzle.Grid.Cells),(T.os 2 0 0 ((a.Puzzle.Clues.map (Qd true)).length)),(T.os 1 1 0 ((a.Puzzle.Seals.map (Qb true)).length)),(tI a.Puzzle.Salt),(tS a.Fill),(tI a.Open),(tI a.Close)]) (tv (T.agg [(tI a.Number),(tI a.Puzzle.Grid.Rows),(tI a.Puzzle.Grid.Cols),(tS a.Puzzle.Grid.Cells),(T.os 2 0 0 ((a.Puzzle.Clues.map (Qd true)).length)),(T.os 1 1 0 ((a.Puzzle.Seals.map (Qb true)).length)),(tI a.Puzzle.Salt),(tS a.Fill),(tI a.Open),(tI a.Close)]) Y) nofun Y) (fO (OF.assign (VEv.int .i64 0)) (nt (sr (fO (OF.fieldAddrO (tv (T.op 2 0) Y) QaV) (lO (OL.loadOn (us:= [(tI a.Puzzle.Grid.Rows),(tI a.Puzzle.Grid.Cols),(tS a.Puzzle.Grid.Cells),(T.os 2 0 0 ((a.Puzzle.Clues.map (Qd true)).length)),(T.os 1 1 0 ((a.Puzzle.Seals.map (Qb true)).length)),(tI a.Puzzle.Salt)]) (tv (T.op 2 1) Y) Y Jn Yc (lb Y) Y) (mO (tN k) Y (cO (OC.callL (ts:= [(T.agg [(tI a.Puzzle.Grid.Rows),(tI a.Puzzle.Grid.Cols),(tS a.Puzzle.Grid.Cells),(T.os 2 0 0 ((a.Puzzle.Clues.map (Qd true)).length)),(T.os 1 1 0 ((a.Puzzle.Seals.map (Qb true)).length)),(tI a.Puzzle.Salt)]),(tN k)]) [0,1] (r:=(tN (Ql k a.Puzzle.Clues+1*a.Puzzle.Seals.length))) (L:= [(2,(a.Puzzle.Clues.map (Qd true))),(1,(a.Puzzle.Seals.map (Qb true)))]) [(2,((QI k a.Puzzle.Clues).map (Qd true))),(1,((YH Zl 1 (Ql k a.Puzzle.Clues) a.Puzzle.Seals.length).map (Qb true)))] [(Obj.rowsN 2 (a.Puzzle.Clues.map (Qd true)) (asg 0)),(Obj.rowsN 1 (a.Puzzle.Seals.map (Qb true)) (asg 1))] rfl (vc (tv (T.agg [(tI a.Puzzle.Grid.Rows),(tI a.Puzzle.Grid.Cols),(tS a.Puzzle.Grid.Cells),(T.os 2 0 0 ((a.Puzzle.Clues.map (Qd true)).length)),(T.os 1 1 0 ((a.Puzzle.Seals.map (Qb true)).length)),(tI a.Puzzle.Salt)]) Y) (vc (tv (tN k) Y) vn)) (by decide) Y (And.intro (And.intro Y Y) (And.intro (And.intro Y Y) (trivial))) (bc (okeClue.cleanMap _) (bc (okInt.cleanMap _) bn)) (bc (okeClue.cleanMap _) (bc (okInt.cleanMap _) bn)) Y Y (.int _ _) (Qax (n+0) a.Puzzle k (by assumption))) (aO (tN (Ql k a.Puzzle.Clues+1*a.Puzzle.Seals.length)) Y (nt (sr ?_)))))))))))
 refine mO (tN (Ql k a.Puzzle.Clues+1*a.Puzzle.Seals.length)) Y (aO (tN (Ql k a.Puzzle.Clues+1*a.Puzzle.Seals.length)) Y (nt (rt ?_)))
 have hnew0:QI k a.Puzzle.Clues=QI k a.Puzzle.Clues:=by
  rfl
 have hnew1:YH Zl 1 (Ql k a.Puzzle.Clues) a.Puzzle.Seals.length=YH Zl 1 (Ql k a.Puzzle.Clues) a.Puzzle.Seals.length:=by
  rfl
 exact vloanM.r (L1:= [(2,((QI k a.Puzzle.Clues).map (Qd true))),(1,((YH Zl 1 (Ql k a.Puzzle.Clues) a.Puzzle.Seals.length).map (Qb true)))]) (fun k=>k) (VRes.tmp (t:=(tN (Ql k a.Puzzle.Clues+1*a.Puzzle.Seals.length))) Y VRes.nil) Y (bc Y bn) (And.intro Y (And.intro Y (trivial))) (by rw [hnew0,hnew1])
theorem Qam (n:Nat) (a:D.Puzzle) (k:Nat) (hh:a.Clues=QI k a.Clues) (hh2:a.Seals=YH Zl 1 (Ql k a.Clues) a.Seals.length) (hk:Ql k a.Clues+1*a.Seals.length≤YG):Pure (Qs Tryz.prog (n+4)) 34 [(T.agg (Qv false a)),(tN k)] (tN (Ql k a.Clues+1*a.Seals.length)):=by
 refine Pure.intro (rs:= [ResultVar.tmp 4]) Tryz.func34 Y Y Y (E0:= [(0,(T.agg (Qv false a))),(1,(tN k))]) Y ?_
 obtain ⟨hlim,hmx,hmax⟩:=QG
 refine sr (kO (B.box (ts:=(Qv false a)) (tv (T.agg (Qv false a)) Y) nofun Y) (fO (OF.assign (VEv.int .i64 0)) (nt (sr (lf (rd 2 Qd a.Clues) Y Yu Y Y QbE (mO (tN k) Y (cO (cS (vc (tv (rd 2 Qd a.Clues) Y) (vc (tv (tN k) Y) vn)) (ZO Y) (Qec (n+0) a.Clues k (by assumption) (by omega)) Y Y) (aO (tN (Ql k a.Clues)) Y (nt (sq (sr ?_)))))))))))
 refine mO (tN (Ql k a.Clues)) Y (fO (B.lss (c:=(decide (Ql k a.Clues<0))) (tv (tN (Ql k a.Clues)) Y) (VEv.int .i64 0) (Q6 (by omega))) (nt ?_))
 refine cd (Ql k a.Clues<0) Y (fun fhc0=> ?_) fun fhc0=> ?_
 ·omega
 refine sk (tn (sr (lf (rd 1 Qb a.Seals) Y JH Y Y QbP (mO (tN (Ql k a.Clues)) Y (cO (cS (vc (tv (rd 1 Qb a.Seals) Y) (vc (tv (tN (Ql k a.Clues)) Y) vn)) (ZO Y) (QeW (n+2) a.Seals (Ql k a.Clues) (by assumption) (by assumption)) Y Y) (aO (tN ((Ql k a.Clues)+1*a.Seals.length)) Y (nt (sq (sr (mO (tN ((Ql k a.Clues)+1*a.Seals.length)) Y (fO (B.lss (c:=(decide ((Ql k a.Clues)+1*a.Seals.length<0))) (tv (tN ((Ql k a.Clues)+1*a.Seals.length)) Y) (VEv.int .i64 0) (Q6 (by omega))) ?_)))))))))))
 refine nt ?_
 refine cd ((Ql k a.Clues)+1*a.Seals.length<0) Y (fun fhc1=> ?_) fun fhc1=> ?_
 ·omega
 refine sk (tn (sr (mO (tN ((Ql k a.Clues)+1*a.Seals.length)) Y (aO (tN ((Ql k a.Clues)+1*a.Seals.length)) Y (nt (rt (vi (n':=(((Ql k a.Clues)+1*a.Seals.length:Nat):Int)) Y ?_)))))))
 rfl
end Go.Proofs.YtcccmceoplcciaaGreat.AE
