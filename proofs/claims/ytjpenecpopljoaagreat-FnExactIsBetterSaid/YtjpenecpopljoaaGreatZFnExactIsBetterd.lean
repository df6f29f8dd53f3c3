/- A part of what the row of FnExactIsBetter uses. Conditions: as each theorem states. -/
import Derived.Test.YtjpenecpopljoaaGreatZFnExactIsBetterc
namespace Go.Proofs.YtjpenecpopljoaaGreat.AE
open Go Go.RowKit
set_option linter.unusedVariables false
set_option linter.unusedSimpArgs false
set_option maxRecDepth 20000
set_option maxHeartbeats 2000000
noncomputable section
def YL (a:List Int) (i:Nat):List Int:=(List.range a.length).map fun j=>if j<i∨a.length≤j+i then a.getD (a.length - 1 - j) 0 else a.getD j 0
theorem Qai (a:List Int) (i:Nat):(YL a i).length=a.length:=by simp [YL]
theorem Qdr {a:List Int} {i j:Nat} (h:j<a.length):(YL a i)[j]? =some (if j<i∨a.length≤j+i then a.getD (a.length - 1 - j) 0 else a.getD j 0):=by
 unfold YL
 rw [List.getElem?_map,List.getElem?_range h]
 rfl
theorem Qk9 (a:List Int):YL a 0=a:=by
 refine List.ext_getElem? fun j=> ?_
 rcases Nat.lt_or_ge j a.length with h | h
 ·rw [Qdr h,if_neg (by omega),List.getD_eq_getElem?_getD,List.getElem?_eq_getElem h]
  rfl
 ·rw [List.getElem?_eq_none (by rw [Qai];exact h),List.getElem?_eq_none h]
theorem QmJ {a:List Int} {i:Nat} (h:a.length≤2*i+1) (h2:i≤a.length):YL a i=a.reverse:=by
 refine List.ext_getElem? fun j=> ?_
 rcases Nat.lt_or_ge j a.length with h3 | h3
 ·rw [Qdr h3,List.getElem?_reverse h3,List.getElem?_eq_getElem (by omega)]
  split
  ·rw [List.getD_eq_getElem?_getD,List.getElem?_eq_getElem (by omega)];rfl
  ·have e:a.length - 1 - j=j:=by omega
   rw [List.getD_eq_getElem?_getD,List.getElem?_eq_getElem h3]
   simp only [Option.getD_some,e]
 ·rw [List.getElem?_eq_none (by rw [Qai];exact h3),List.getElem?_eq_none (by simpa using h3)]
theorem Qla {a:List Int} {i k:Nat} {x y:Int} (hk:k=a.length - 1 - i) (hi:i<k) (hx:(YL a i)[k]? =some x) (hy:(YL a i)[i]? =some y):((YL a i).set i x).set k y=YL a (i+1):=by
 subst hk
 rw [Qdr (by omega),if_neg (by omega)] at hx hy
 obtain rfl:=Option.some.inj hx
 obtain rfl:=Option.some.inj hy
 refine List.ext_getElem? fun j=> ?_
 rcases Nat.lt_or_ge j a.length with h | h
 ·rw [Qdr h,List.getElem?_set,List.getElem?_set,List.length_set,Qai,Qdr h]
  by_cases e1:a.length - 1 - i=j
  ·rw [if_pos e1,if_pos (by omega),if_pos (by omega)]
   congr 2
   omega
  ·rw [if_neg e1]
   by_cases e2:i=j
   ·rw [if_pos e2,if_pos (by omega),if_pos (by omega),e2]
   ·rw [if_neg e2]
    by_cases e3:j<i∨a.length≤j+i
    ·rw [if_pos e3,if_pos (by omega)]
    ·rw [if_neg e3,if_neg (by omega)]
 ·rw [List.getElem?_eq_none (by rw [List.length_set,List.length_set,Qai];exact h),List.getElem?_eq_none (by rw [Qai];exact h)]
end
theorem J4 (n:Nat) (a:List Int) (ha:a.length≤Zk):Mut (Qo Tryz.prog (n+1)) 173 1 (a.map (Qw true)) [] none (a.reverse.map (Qw true)):=by
 refine Mut.intro (rt:=0) Tryz.func173 Y Y Y (by kernel_rfl) (ZS (fun _=>rfl) _) (ZS (fun _=>rfl) _) (E0:= []) Y ?_
 obtain ⟨hlim,hmx,hmax⟩:=Qz
 refine sr (mO (T.os 1 0 0 ((a.map (Qw true)).length)) Y (lO (B.lenO (m:=a.length) (tv (T.os 1 0 0 ((a.map (Qw true)).length)) Y) Qbg (List.length_map ..)) (fO (B.sub (n:=(((a.length:Nat):Int) - 1)) (tv (tN a.length) Y) (VEv.int .i64 1) (by (rw [Qs (by omega)];done))) (fO (OF.assign (VEv.int .i64 0)) (aO (tI (((a.length:Nat):Int) - 1)) Y (nt (VRun.block ?_)))))))
 have he1:a=YL a 0:=by exact (Qk9 a).symm
 refine VRun.loop (A:=Nat) (fun s_=> [(0,(T.os 1 0 0 (((YL a s_).map (Qw true)).length))),(2,(tN s_)),(3,(tI ((a.length:Int) - 1 - s_)))]) (fun s_=>QV [(0,(Obj.rows 1 ((YL a s_).map (Qw true))))]) 1 (fun s_=>2*s_≤a.length+1∧s_≤a.length) (fun s_=>a.length - s_) (0:Nat) ?_ (Wk.mk (fun k=>k) ?_ ?_ ?_) ?_
 ·(simp;done)
 ·exact (bc ⟨(congrArg (fun l_=>T.os 1 0 0 (List.map (Qw true) l_).length) he1),rfl⟩ (b2 (bc ⟨(congrArg (T.int .i64) (show (((a.length:Nat):Int) - 1)=(a.length:Int) - 1 - 0 from (by omega))),rfl⟩ bn)))
 ·exact (bc ⟨(congrArg (fun l_=>some (Obj.rows 1 (List.map (Qw true) l_))) he1),(lb Y),rfl⟩ bn)
 ·exact nd Y
 rintro i (hI':2*i≤a.length+1∧i≤a.length)
 show VRun _ _ _ [(0,(T.os 1 0 0 (((YL a i).map (Qw true)).length))),(2,(tN i)),(3,(tI ((a.length:Int) - 1 - i)))] (QV [(0,(Obj.rows 1 ((YL a i).map (Qw true))))]) 1 _
 have hml:=Qai a i
 have hI1:=hI'.1
 have hI2:=hI'.2
 refine sq (sr (mO (tN i) Y (mO (tI ((a.length:Int) - 1 - i)) Y (fO (xls (tv (tN i) Y) (tv (tI ((a.length:Int) - 1 - i)) Y)) (nt ?_)))))
 refine cd (((i:Nat):Int)<(a.length:Int) - 1 - i) Y (fun fhc0=> ?_) fun fhc0=> ?_
 ·refine sk ?_
  refine tn (sq (VRun.block (VRun.draw (B:= [[],[],[],[],[],[],[5,4],[4,5,6],[],[],[9,8],[8,9,10],[10,9,8,11,7,6,5,4,1,0],[0,1,4,5,6,7,11,8,9,10,12],[13,12,11,10,9,8,7,6,5,4,1,0,3,2],[2,3,0,1,4,5,6,7,8,9,10,11,12,13,14]]) (by kernel_rfl) (by kernel_rfl) (mD (T.os 1 0 0 (((YL a i).map (Qw true)).length)) Y Y (mD (tN i) Y Y (mD (T.os 1 0 0 (((YL a i).map (Qw true)).length)) Y Y (mD (tI ((a.length:Int) - 1 - i)) Y Y (mD (T.os 1 0 0 (((YL a i).map (Qw true)).length)) Y Y (mD (tI ((a.length:Int) - 1 - i)) Y Y ?_)))))))))
  obtain ⟨x1,hx1⟩:∃x,(YL a i)[(Int.toNat ((a.length:Int) - 1 - i))]? =some x:=⟨_,List.getElem?_eq_getElem (by omega)⟩
  refine fD (B.indexAddrO (i:=(Int.toNat ((a.length:Int) - 1 - i))) (tv (T.os 1 0 0 (((YL a i).map (Qw true)).length)) Y) (tv (tI ((a.length:Int) - 1 - i)) Y) (by omega) (by (simp only [List.length_map];omega)) Qbg sz5 if5) Y Y (lD (OL.loadP1 (t:=(T.int .u8 x1)) (row:=(Qw true x1)) (tv (T.orp 1 0 (Int.toNat ((a.length:Int) - 1 - i)) 0) Y) Y (Qu _ hx1) Y Y st5) Y Y (mD (T.os 1 0 0 (((YL a i).map (Qw true)).length)) Y Y (mD (tN i) Y Y ?_)))
  obtain ⟨x2,hx2⟩:∃x,(YL a i)[i]? =some x:=⟨_,List.getElem?_eq_getElem (by omega)⟩
  refine fD (B.indexAddrO (i:=i) (tv (T.os 1 0 0 (((YL a i).map (Qw true)).length)) Y) (tv (tN i) Y) Y (by (simp only [List.length_map];omega)) Qbg sz5 if5) Y Y (lD (OL.loadP1 (t:=(T.int .u8 x2)) (row:=(Qw true x2)) (tv (T.orp 1 0 i 0) Y) Y (Qu _ hx2) Y Y st5) Y Y (fD (B.indexAddrO (i:=i) (tv (T.os 1 0 0 (((YL a i).map (Qw true)).length)) Y) (tv (tN i) Y) Y (by (simp only [List.length_map];omega)) Qbg sz5 if5) Y Y (VRunD.chain (bi:= [0,1,4,5,6,7,11,8,9,10,12]) Y VWant.always Y Y Y (by kernel_rfl) (B.storeP (us:= [(T.int .u8 x1)]) (rows':=(((YL a i).set i x1).map (Qw true))) (row:=(Qw true x2)) (tv (T.orp 1 0 i 0) Y) (tv (T.int .u8 x1) Y) nofun Y (Qu _ hx2) Y (lb Y) if5 sz5 (bc Y bn) (by intro r hr t ht;obtain ⟨x,_,rfl⟩:=List.mem_map.1 hr;rw [QhI] at ht;exact ZZ (okByte.pl _ t ht)) (Yc Y)) ?_)))
  obtain ⟨x3,hx3⟩:∃x,((YL a i).set i x1)[(Int.toNat ((a.length:Int) - 1 - i))]? =some x:=⟨_,List.getElem?_eq_getElem (by (simp only [List.length_set];omega))⟩
  refine fD (B.indexAddrO (i:=(Int.toNat ((a.length:Int) - 1 - i))) (tv (T.os 1 0 0 (((YL a i).map (Qw true)).length)) Y) (tv (tI ((a.length:Int) - 1 - i)) Y) (by omega) (by (simp only [List.length_map];omega)) Qbg sz5 if5) Y Y (VRunD.chain (bi:= [2,3,0,1,4,5,6,7,8,9,10,11,12,13,14]) Y VWant.always Y Y Y (by kernel_rfl) (B.storeP (us:= [(T.int .u8 x2)]) (rows':=((((YL a i).set i x1).set (Int.toNat ((a.length:Int) - 1 - i)) x2).map (Qw true))) (row:=(Qw true x3)) (tv (T.orp 1 0 (Int.toNat ((a.length:Int) - 1 - i)) 0) Y) (tv (T.int .u8 x2) Y) nofun Y (Qu _ hx3) Y (lb Y) if5 sz5 (bc Y bn) (by intro r hr t ht;obtain ⟨x,_,rfl⟩:=List.mem_map.1 hr;rw [QhI] at ht;exact ZZ (okByte.pl _ t ht)) (Yc Y)) (VRunD.nil (vinB.n (tn (VRun.region (mO (tN i) Y (fO (QB (tv (tN i) Y) (VEv.int .i64 1) (by omega)) (mO (tI ((a.length:Int) - 1 - i)) Y (fO (B.sub (n:=((a.length:Int) - 1 - i - 1)) (tv (tI ((a.length:Int) - 1 - i)) Y) (VEv.int .i64 1) (by (rw [Qs (by omega)];done))) (aO (tN (i+1)) Y (aO (tI ((a.length:Int) - 1 - i - 1)) Y ?_)))))))))))
  refine VRunO.nil (tn ?_)
  have hml2:=Qai a (i+1)
  have he2:(((YL a i).set i x1).set (Int.toNat ((a.length:Int) - 1 - i)) x2)=YL a (i+1):=by (refine Qla ?_ ?_ hx1 hx2<;>omega)
  refine ⟨(i+1:Nat),?_,?_,Wk.mk (fun k=>k) ?_ ?_ ?_⟩
  ·omega
  ·omega
  ·exact (bc ⟨(congrArg (fun n_=>T.os 1 0 0 n_) (show ((YL a i).map (Qw true)).length=((YL a (i+1)).map (Qw true)).length from (by rw [List.length_map,List.length_map,hml,hml2]))),rfl⟩ (b2 (bc ⟨(congrArg (T.int .i64) (show ((a.length:Int) - 1 - i - 1)=(a.length:Int) - 1 - (i+1) from (by omega))),rfl⟩ bn)))
  ·exact (bc ⟨(congrArg (fun l_=>some (Obj.rows 1 (List.map (Qw true) l_))) he2),(lb Y),rfl⟩ bn)
  ·exact nd Y
 refine VRun.exit (vthn.e (vthn.e (vinB.e ?_)))
 refine vmut.v (rows:=((YL a i).map (Qw true))) Y Y ?_ Y
 ·show List.map _ (YL a i)=List.map _ a.reverse
  refine congrArg (List.map _) ?_
  refine QmJ ?_ ?_<;>omega
noncomputable section
def gOk (s:ByteArray) (j:Nat):Prop:=Qy s j=35∨Qy s j=46
def gridOk (g:D.Grid):Prop:=(2≤g.Rows∧g.Rows≤6)∧(2≤g.Cols∧g.Cols≤6)∧((g.Cells.size:Nat):Int)=g.Rows*g.Cols∧∀j,j<g.Cells.size→gOk g.Cells j
instance (g:D.Grid):Decidable (gridOk g):=Classical.propDecidable _
theorem Qpl {a b:Int} (h1:2≤a) (h2:a≤6) (h3:2≤b) (h4:b≤6):4≤a*b∧a*b≤36:=by
 have e1:2*2≤a*b:=Int.mul_le_mul h1 h3 (by decide) (by omega)
 have e2:a*b≤6*6:=Int.mul_le_mul h2 h4 (by omega) (by decide)
 omega
theorem Qpc {a b:Int} (h1:2≤a) (h2:a≤6) (h3:2≤b) (h4:b≤6):IntKind.i64.wrap (a*b)=a*b:=by
 have:=Qpl h1 h2 h3 h4
 rw [Qs (by omega)]
theorem gridOk.size {g:D.Grid} (h:gridOk g):4≤g.Cells.size∧g.Cells.size≤36:=by
 have:=Qpl h.1.1 h.1.2 h.2.1.1 h.2.1.2
 have:=h.2.2.1
 omega
end
theorem Z7 (n:Nat) (g:D.Grid) (hc:g.Cells.size≤maxLen):Pure (Qo Tryz.prog (n+2)) 101 [(T.agg (Qc false g))] (tB (decide (gridOk g))):=by
 refine Pure.intro (rs:= [ResultVar.tmp 2]) Tryz.func101 Y Y Y (E0:= [(0,(T.agg (Qc false g)))]) Y ?_
 obtain ⟨hlim,hmx,hmax⟩:=Qz
 refine sr (kO (B.box (ts:=(Qc false g)) (tv (T.agg (Qc false g)) Y) nofun Y) (fO (OF.assign (VEv.bool false)) (nt (sq (sr (lf (tI g.Rows) Y QaM Y Y QS (cO (cS (vc (tv (tI g.Rows) Y) (vc (VEv.int .i64 2) (vc (VEv.int .i64 6) vn))) (Zg Y) (Q2 (n+0) g.Rows 2 6) Y Y) (fO (QU (tv (tB (decide (2≤g.Rows∧g.Rows≤6))) Y)) (mO (tB (!(decide (2≤g.Rows∧g.Rows≤6)))) Y ?_)))))))))
 refine gn (2≤g.Rows∧g.Rows≤6) (fun fhg8_1=> ?_) fun fhg8_1=> ?_
 ·refine QD 4 4 false 8 (ny fhg8_1) Y Y Y ?_
  refine fO (OF.pickT (VEv.tmpB Y (ny fhg8_1)) (VEv.bool true)) (mO (tB true) Y (QD 9 10 false 14 (b:=true) Y Y Y Y (fO (OF.pickT (tv (tB true) Y) (VEv.bool true)) (nt (ct Y (sr (fO (OF.assign (VEv.bool false)) (nt (rt (tr (vb (b':=false) Y ?_)))))))))))
  (symm;rw [decide_eq_false_iff_not];rintro ⟨g1,g2,g3,g4⟩;omega)
 refine Yk (tI g.Cols) (nz fhg8_1) Y Y Y Y ZD Y Y QS (VRunO.chain (VWant.on Y Y (nz fhg8_1)) (cS (vc (tv (tI g.Cols) Y) (vc (VEv.int .i64 2) (vc (VEv.int .i64 6) vn))) (Zg Y) (Q2 (n+0) g.Cols 2 6) Y Y) (gF (nz fhg8_1) Y Y (QU (tv (tB (decide (2≤g.Cols∧g.Cols≤6))) Y)) (fO (OF.pickF (VEv.tmpB Y (nz fhg8_1)) (tv (tB (!(decide (2≤g.Cols∧g.Cols≤6)))) Y)) (mO (tB (!(decide (2≤g.Cols∧g.Cols≤6)))) Y ?_))))
 refine gn (2≤g.Cols∧g.Cols≤6) (fun fhg14_2=> ?_) fun fhg14_2=> ?_
 ·refine QD 9 10 false 14 (ny fhg14_2) Y Y Y ?_
  refine fO (OF.pickT (VEv.tmpB Y (ny fhg14_2)) (VEv.bool true)) (nt (ct Y (sr (fO (OF.assign (VEv.bool false)) (nt (rt (tr (vb (b':=false) Y ?_))))))))
  (symm;rw [decide_eq_false_iff_not];rintro ⟨g1,g2,g3,g4⟩;omega)
 refine Yk (tS g.Cells) (nz fhg14_2) Y Y Y Y QL Y Y ZG (gL (nz fhg14_2) Y Y (B.lenS (tv (tS g.Cells) Y) U9) (Yk (tI g.Rows) (nz fhg14_2) Y Y Y Y QaM Y Y QS (Yk (tI g.Cols) (nz fhg14_2) Y Y Y Y ZD Y Y QS (gF (nz fhg14_2) Y Y (B.mul (n:=(g.Rows*g.Cols)) (tv (tI g.Rows) Y) (tv (tI g.Cols) Y) (by (refine Qpc ?_ ?_ ?_ ?_<;>omega))) (gF (nz fhg14_2) Y Y (xne (tv (tN g.Cells.size) Y) (tv (tI (g.Rows*g.Cols)) Y)) (fO (OF.pickF (VEv.tmpB Y (nz fhg14_2)) (tv (tB (!(decide (((g.Cells.size:Nat):Int)=(g.Rows*g.Cols))))) Y)) (nt ?_)))))))
 refine cn (((g.Cells.size:Nat):Int)=(g.Rows*g.Cols)) Y (fun fhc0=> ?_) fun fhc0=> ?_
 ·refine sr ?_
  refine fO (OF.assign (VEv.bool false)) (nt (rt (tr (vb (b':=false) Y ?_))))
  (symm;rw [decide_eq_false_iff_not];rintro ⟨g1,g2,g3,g4⟩;omega)
 refine sk (tn (sq (sr (fO (OF.assign (VEv.int .i64 0)) (nt (VRun.block ?_))))))
 refine VRun.loop (A:=Nat) (fun s_=> [(1,(T.op 0 0)),(3,(tN s_))]) (fun s_=>QV [(0,(Obj.cells (Qc false g)))]) 1 (fun s_=>s_≤g.Cells.size∧∀j,j<s_→gOk g.Cells j) (fun s_=>g.Cells.size - s_) (0:Nat) ?_ (Wk.mk (fun k=>k) ?_ ?_ ?_) ?_
 ·exact ⟨Nat.zero_le _,fun j hj=>by omega⟩
 ·exact (b2 (b2 bn))
 ·exact (b3 bn)
 ·exact nd Y
 rintro i (hI':i≤g.Cells.size∧∀j,j<i→gOk g.Cells j)
 show VRun _ _ _ [(1,(T.op 0 0)),(3,(tN i))] (QV [(0,(Obj.cells (Qc false g)))]) 1 _
 have hI1:=hI'.1
 refine sq (sr (mO (tN i) Y (lf (tS g.Cells) Y QL Y Y ZG (lO (B.lenS (tv (tS g.Cells) Y) U9) (fO (Q9 (tv (tN i) Y) (tv (tN g.Cells.size) Y)) (nt ?_))))))
 refine cd (i<g.Cells.size) Y (fun fhc1=> ?_) fun fhc1=> ?_
 ·refine sk ?_
  refine tn (sq (VRun.block (sr (lf (tS g.Cells) Y QL Y Y ZG (mO (tN i) Y ?_)))))
  have hb3:i<g.Cells.size:=(by omega)
  refine fO (xix (tv (tS g.Cells) Y) (tv (tN i) Y) hb3 U9) (fO (xne (tv (T.int .u8 (Qy g.Cells i)) Y) (VEv.int .u8 35)) (mO (tB (!(decide (Qy g.Cells i=35)))) Y ?_))
  refine gn (Qy g.Cells i=35) (fun fhg37_4=> ?_) fun fhg37_4=> ?_
  ·refine Yk (tS g.Cells) (ny fhg37_4) Y Y Y Y QL Y Y ZG ?_
   refine gF (ny fhg37_4) Y Y (OF.move (tv (tN i) Y)) ?_
   have hb5:i<g.Cells.size:=(by omega)
   refine gF (ny fhg37_4) Y Y (xix (tv (tS g.Cells) Y) (tv (tN i) Y) hb5 U9) (gF (ny fhg37_4) Y Y (xne (tv (T.int .u8 (Qy g.Cells i)) Y) (VEv.int .u8 46)) (fO (OF.pickT (VEv.tmpB Y (ny fhg37_4)) (tv (tB (!(decide (Qy g.Cells i=46)))) Y)) (nt ?_)))
   refine cn (Qy g.Cells i=46) Y (fun fhc2=> ?_) fun fhc2=> ?_
   ·refine sr ?_
    refine fO (OF.assign (VEv.bool false)) (nt (rt (vinB.r (tr (tr (vinB.r (tr (vb (b':=false) Y ?_))))))))
    (symm;rw [decide_eq_false_iff_not];rintro ⟨g1,g2,g3,g4⟩;(have:=g4 i fhc1;unfold gOk at this;omega))
   refine sk (vinB.n (tn (VRun.region (mO (tN i) Y (fO (QB (tv (tN i) Y) (VEv.int .i64 1) (by omega)) (aO (tN (i+1)) Y (VRunO.nil (tn ?_))))))))
   refine ⟨(i+1:Nat),?_,?_,Wk.mk (fun k=>k) ?_ ?_ ?_⟩
   ·refine Zb hI' fhc1 ?_;unfold gOk;omega
   ·omega
   ·exact (b2 (b2 bn))
   ·exact (b3 bn)
   ·exact nd Y
  refine QD 5 5 true 37 (nz fhg37_4) Y Y Y (fO (OF.pickF (VEv.tmpB Y (nz fhg37_4)) (VEv.bool false)) (nt (cf Y (sk (vinB.n (tn (VRun.region (mO (tN i) Y (fO (QB (tv (tN i) Y) (VEv.int .i64 1) (by omega)) (aO (tN (i+1)) Y (VRunO.nil ?_)))))))))))
  refine tn ?_
  refine ⟨(i+1:Nat),?_,?_,Wk.mk (fun k=>k) ?_ ?_ ?_⟩
  ·refine Zb hI' fhc1 ?_;unfold gOk;omega
  ·omega
  ·exact (b2 (b2 bn))
  ·exact (b3 bn)
  ·exact nd Y
 refine VRun.exit (vthn.e (vthn.e (vinB.e (tn (sr (fO (OF.assign (VEv.bool true)) (nt (rt (vb (b':=true) Y ?_)))))))))
 (symm;rw [decide_eq_true_eq];refine ⟨?_,?_,?_,Qa4 hI' fhc1⟩<;>assumption)
theorem Yu (n:Nat) (g:D.Grid) (hc:g.Cells.size≤maxLen):Pure (Qo Tryz.prog (n+2)) 109 [(T.agg (Qc false g))] (tB (decide (gridOk g))):=by
 refine Pure.intro (rs:= [ResultVar.tmp 2]) Tryz.func109 Y Y Y (E0:= [(0,(T.agg (Qc false g)))]) Y ?_
 obtain ⟨hlim,hmx,hmax⟩:=Qz
 refine sr (kO (B.box (ts:=(Qc false g)) (tv (T.agg (Qc false g)) Y) nofun Y) (fO (OF.assign (VEv.bool false)) (nt (sq (sr (lf (tI g.Rows) Y QaM Y Y QS (cO (cS (vc (tv (tI g.Rows) Y) (vc (VEv.int .i64 2) (vc (VEv.int .i64 6) vn))) (Zg Y) (ZB (n+0) g.Rows 2 6) Y Y) (fO (QU (tv (tB (decide (2≤g.Rows∧g.Rows≤6))) Y)) (mO (tB (!(decide (2≤g.Rows∧g.Rows≤6)))) Y ?_)))))))))
 refine gn (2≤g.Rows∧g.Rows≤6) (fun fhg8_1=> ?_) fun fhg8_1=> ?_
 ·refine QD 4 4 false 8 (ny fhg8_1) Y Y Y ?_
  refine fO (OF.pickT (VEv.tmpB Y (ny fhg8_1)) (VEv.bool true)) (mO (tB true) Y (QD 9 10 false 14 (b:=true) Y Y Y Y (fO (OF.pickT (tv (tB true) Y) (VEv.bool true)) (nt (ct Y (sr (fO (OF.assign (VEv.bool false)) (nt (rt (tr (vb (b':=false) Y ?_)))))))))))
  (symm;rw [decide_eq_false_iff_not];rintro ⟨g1,g2,g3,g4⟩;omega)
 refine Yk (tI g.Cols) (nz fhg8_1) Y Y Y Y ZD Y Y QS (VRunO.chain (VWant.on Y Y (nz fhg8_1)) (cS (vc (tv (tI g.Cols) Y) (vc (VEv.int .i64 2) (vc (VEv.int .i64 6) vn))) (Zg Y) (ZB (n+0) g.Cols 2 6) Y Y) (gF (nz fhg8_1) Y Y (QU (tv (tB (decide (2≤g.Cols∧g.Cols≤6))) Y)) (fO (OF.pickF (VEv.tmpB Y (nz fhg8_1)) (tv (tB (!(decide (2≤g.Cols∧g.Cols≤6)))) Y)) (mO (tB (!(decide (2≤g.Cols∧g.Cols≤6)))) Y ?_))))
 refine gn (2≤g.Cols∧g.Cols≤6) (fun fhg14_2=> ?_) fun fhg14_2=> ?_
 ·refine QD 9 10 false 14 (ny fhg14_2) Y Y Y ?_
  refine fO (OF.pickT (VEv.tmpB Y (ny fhg14_2)) (VEv.bool true)) (nt (ct Y (sr (fO (OF.assign (VEv.bool false)) (nt (rt (tr (vb (b':=false) Y ?_))))))))
  (symm;rw [decide_eq_false_iff_not];rintro ⟨g1,g2,g3,g4⟩;omega)
 refine Yk (tS g.Cells) (nz fhg14_2) Y Y Y Y QL Y Y ZG (gL (nz fhg14_2) Y Y (B.lenS (tv (tS g.Cells) Y) U9) (Yk (tI g.Rows) (nz fhg14_2) Y Y Y Y QaM Y Y QS (Yk (tI g.Cols) (nz fhg14_2) Y Y Y Y ZD Y Y QS (gF (nz fhg14_2) Y Y (B.mul (n:=(g.Rows*g.Cols)) (tv (tI g.Rows) Y) (tv (tI g.Cols) Y) (by (refine Qpc ?_ ?_ ?_ ?_<;>omega))) (gF (nz fhg14_2) Y Y (xne (tv (tN g.Cells.size) Y) (tv (tI (g.Rows*g.Cols)) Y)) (fO (OF.pickF (VEv.tmpB Y (nz fhg14_2)) (tv (tB (!(decide (((g.Cells.size:Nat):Int)=(g.Rows*g.Cols))))) Y)) (nt ?_)))))))
 refine cn (((g.Cells.size:Nat):Int)=(g.Rows*g.Cols)) Y (fun fhc0=> ?_) fun fhc0=> ?_
 ·refine sr ?_
  refine fO (OF.assign (VEv.bool false)) (nt (rt (tr (vb (b':=false) Y ?_))))
  (symm;rw [decide_eq_false_iff_not];rintro ⟨g1,g2,g3,g4⟩;omega)
 refine sk (tn (sq (sr (lf (tS g.Cells) Y QL Y Y ZG (lO (B.lenS (tv (tS g.Cells) Y) U9) (fO (OF.move (VEv.int .i64 0)) (nt (VRun.block ?_))))))))
 refine VRun.loop (A:=Nat) (fun s_=> [(1,(T.op 0 0)),(27,(tN g.Cells.size)),(28,(tN s_))]) (fun s_=>QV [(0,(Obj.cells (Qc false g)))]) 1 (fun s_=>s_≤g.Cells.size∧∀j,j<s_→gOk g.Cells j) (fun s_=>g.Cells.size - s_) (0:Nat) ?_ (Wk.mk (fun k=>k) ?_ ?_ ?_) ?_
 ·exact ⟨Nat.zero_le _,fun j hj=>by omega⟩
 ·exact (b2 (b2 (b2 bn)))
 ·exact (b3 bn)
 ·exact nd Y
 rintro i (hI':i≤g.Cells.size∧∀j,j<i→gOk g.Cells j)
 show VRun _ _ _ [(1,(T.op 0 0)),(27,(tN g.Cells.size)),(28,(tN i))] (QV [(0,(Obj.cells (Qc false g)))]) 1 _
 have hI1:=hI'.1
 refine sr (fO (Q9 (tv (tN i) Y) (tv (tN g.Cells.size) Y)) (nt (sq ?_)))
 refine cd (i<g.Cells.size) Y (fun fhc1=> ?_) fun fhc1=> ?_
 ·refine sk ?_
  refine tn (sq (VRun.block (sr (mO (tN i) Y (aO (tN i) Y (nt (sr (lf (tS g.Cells) Y QL Y Y ZG (mO (tN i) Y ?_)))))))))
  have hb3:i<g.Cells.size:=(by omega)
  refine fO (xix (tv (tS g.Cells) Y) (tv (tN i) Y) hb3 U9) (fO (xne (tv (T.int .u8 (Qy g.Cells i)) Y) (VEv.int .u8 35)) (mO (tB (!(decide (Qy g.Cells i=35)))) Y ?_))
  refine gn (Qy g.Cells i=35) (fun fhg36_4=> ?_) fun fhg36_4=> ?_
  ·refine Yk (tS g.Cells) (ny fhg36_4) Y Y Y Y QL Y Y ZG ?_
   refine gF (ny fhg36_4) Y Y (OF.move (tv (tN i) Y)) ?_
   have hb5:i<g.Cells.size:=(by omega)
   refine gF (ny fhg36_4) Y Y (xix (tv (tS g.Cells) Y) (tv (tN i) Y) hb5 U9) (gF (ny fhg36_4) Y Y (xne (tv (T.int .u8 (Qy g.Cells i)) Y) (VEv.int .u8 46)) (fO (OF.pickT (VEv.tmpB Y (ny fhg36_4)) (tv (tB (!(decide (Qy g.Cells i=46)))) Y)) (nt ?_)))
   refine cn (Qy g.Cells i=46) Y (fun fhc2=> ?_) fun fhc2=> ?_
   ·refine sr ?_
    refine fO (OF.assign (VEv.bool false)) (nt (rt (vinB.r (tr (tr (vinB.r (tr (vb (b':=false) Y ?_))))))))
    (symm;rw [decide_eq_false_iff_not];rintro ⟨g1,g2,g3,g4⟩;(have:=g4 i fhc1;unfold gOk at this;omega))
   refine sk (vinB.n (tn (VRun.region (fO (QB (tv (tN i) Y) (VEv.int .i64 1) (by omega)) (mO (tN (i+1)) Y (VRunO.nil (tn ?_)))))))
   refine ⟨(i+1:Nat),?_,?_,Wk.mk (fun k=>k) ?_ ?_ ?_⟩
   ·refine Zb hI' fhc1 ?_;unfold gOk;omega
   ·omega
   ·exact (b2 (b2 (b2 bn)))
   ·exact (b3 bn)
   ·exact nd Y
  refine QD 5 5 true 36 (nz fhg36_4) Y Y Y (fO (OF.pickF (VEv.tmpB Y (nz fhg36_4)) (VEv.bool false)) (nt (cf Y (sk (vinB.n (tn (VRun.region (fO (QB (tv (tN i) Y) (VEv.int .i64 1) (by omega)) (mO (tN (i+1)) Y (VRunO.nil (tn ?_)))))))))))
  refine ⟨(i+1:Nat),?_,?_,Wk.mk (fun k=>k) ?_ ?_ ?_⟩
  ·refine Zb hI' fhc1 ?_;unfold gOk;omega
  ·omega
  ·exact (b2 (b2 (b2 bn)))
  ·exact (b3 bn)
  ·exact nd Y
 refine VRun.exit (vthn.e (vthn.e (vinB.e (tn (sr (fO (OF.assign (VEv.bool true)) (nt (rt (vb (b':=true) Y ?_)))))))))
 (symm;rw [decide_eq_true_eq];refine ⟨?_,?_,?_,Qa4 hI' fhc1⟩<;>assumption)
noncomputable section
def ZU (s:ByteArray):Nat→ByteArray
 | 0=>⟨#[]⟩
 | i+1=>s.extract i (i+1)++ZU s i
def back (s:ByteArray):ByteArray:=if s.size≤100 then ZU s s.size else ⟨#[]⟩
theorem QbT {s:ByteArray}:∀ {i:Nat},i≤s.size→(ZU s i).size=i
 | 0,_=>rfl
 | i+1,h=>by
  simp only [ZU,ByteArray.size_append,ByteArray.size_extract,QbT (show i≤s.size by omega)]
  omega
theorem Qi6 {s:ByteArray} {i:Nat} (h1:i≤s.size) (h2:s.size≤100∨i=0) (h3:¬i<s.size∨¬s.size≤100):ZU s i=back s:=by
 unfold back
 split
 ·rw [show i=s.size by omega]
 ·rw [show i=0 by omega];rfl
theorem Qlc {s:ByteArray} (h:s.size≤100):(back s).size=s.size:=by
 unfold back
 rw [if_pos h,QbT (Nat.le_refl _)]
def Jo (g:D.Grid):D.Grid:=if gridOk g then D.Grid.mk g.Rows g.Cols (back g.Cells) else D.Grid.mk 0 0 ByteArray.empty
def Qfm (g:D.Grid):Prop:=gridOk g∧D.Grid.mk g.Rows g.Cols (back g.Cells)=g
instance (g:D.Grid):Decidable (Qfm g):=Classical.propDecidable _
theorem QeG {g:D.Grid} (h:gridOk g):Jo g=g↔Qfm g:=by
 unfold Jo Qfm
 rw [if_pos h]
 exact ⟨fun e=>⟨h,e⟩,fun e=>e.2⟩
end
theorem Qbb (n:Nat) (s:ByteArray) (hc:s.size≤maxLen):Pure (Qo Tryz.prog (n+1)) 150 [(tS s)] (tS (back s)):=by
 refine Pure.intro (rs:= [ResultVar.tmp 2]) Tryz.func150 Y Y Y (E0:= [(0,(tS s))]) Y ?_
 obtain ⟨hlim,hmx,hmax⟩:=Qz
 refine sr (fO (OF.assign (VEv.str (⟨#[]⟩:ByteArray))) (nt (sr (fO (OF.assign (VEv.str (⟨#[]⟩:ByteArray))) (nt (sq (sr (fO (OF.assign (VEv.int .i64 0)) (nt (VRun.block ?_))))))))))
 refine VRun.loop (A:=Nat) (fun s_=> [(0,(tS s)),(2,(tS (⟨#[]⟩:ByteArray))),(3,(tS (ZU s s_))),(4,(tN s_))]) (fun s_=>QV []) 0 (fun s_=>s_≤s.size∧(s.size≤100∨s_=0)) (fun s_=>s.size - s_) (0:Nat) ?_ (Wk.mk (fun k=>k) ?_ ?_ ?_) ?_
 ·exact ⟨Nat.zero_le _, .inr Y⟩
 ·exact (b2 (b2 (bc ⟨(congrArg T.str (show (⟨#[]⟩:ByteArray)=ZU s 0 from (by rfl))),rfl⟩ (b2 bn))))
 ·exact bn
 ·exact nd Y
 rintro i (hI':i≤s.size∧(s.size≤100∨i=0))
 show VRun _ _ _ [(0,(tS s)),(2,(tS (⟨#[]⟩:ByteArray))),(3,(tS (ZU s i))),(4,(tN i))] (QV []) 0 _
 have hI1:=hI'.1
 have hbs:=QbT hI1
 refine sq (sr (mO (tN i) Y (mO (tS s) Y (lO (B.lenS (tv (tS s) Y) U9) (fO (Q9 (tv (tN i) Y) (tv (tN s.size) Y)) (mO (tB (decide (i<s.size))) Y ?_))))))
 refine gw (i<s.size) (fun fhg9_1=> ?_) fun fhg9_1=> ?_
 ·refine gF (dy fhg9_1) Y Y (OF.move (tv (tS s) Y)) ?_
  refine gL (dy fhg9_1) Y Y (B.lenS (tv (tS s) Y) U9) (gF (dy fhg9_1) Y Y (B.leq (c:=(decide (s.size≤100))) (tv (tN s.size) Y) (VEv.int .i64 100) (by exact Qt (by omega))) (fO (OF.pickT (VEv.tmpB Y (dy fhg9_1)) (tv (tB (decide (s.size≤100))) Y)) (nt ?_)))
  refine cd (s.size≤100) Y (fun fhc0=> ?_) fun fhc0=> ?_
  ·refine sk ?_
   refine tn (sq (VRun.block (VRun.region (mO (tS s) Y (mO (tN i) Y (mO (tN i) Y (fO (QB (tv (tN i) Y) (VEv.int .i64 1) (by omega)) (lO (OL.sliceS (i:=i) (j:=(i+1)) (tv (tS s) Y) (tv (tN i) Y) (tv (tN (i+1)) Y) Y Y (by omega) (by omega) U9) (mO (tS (ZU s i)) Y (fO (B.sadd (tv (tS (s.extract i (i+1))) Y) (tv (tS (ZU s i)) Y) (by (simp only [ByteArray.size_extract];omega))) (aO (tS ((s.extract i (i+1))++ZU s i)) Y ?_)))))))))))
   refine VRunO.nil (vinB.n (tn (VRun.region (mO (tN i) Y (fO (QB (tv (tN i) Y) (VEv.int .i64 1) (by omega)) (aO (tN (i+1)) Y (VRunO.nil (tn ?_))))))))
   refine ⟨(i+1:Nat),?_,?_,Wk.mk (fun k=>k) ?_ ?_ ?_⟩
   ·exact ⟨by omega, .inl (by omega)⟩
   ·omega
   ·exact (b2 (b2 (bc ⟨(congrArg T.str (show ((s.extract i (i+1))++ZU s i)=ZU s (i+1) from (by rfl))),rfl⟩ (b2 bn))))
   ·exact bn
   ·exact nd Y
  refine VRun.exit (vthn.e (vthn.e (vinB.e (tn (sr (mO (tS (ZU s i)) Y (aO (tS (ZU s i)) Y (nt (rt ?_)))))))))
  refine vfin.eq (r':=(tS (ZU s i))) ?_ (vfin.r (VRes.tmp (t:=(tS (ZU s i))) Y VRes.nil) (Give.str _))
  refine congrArg T.str ?_
  refine Qi6 hI1 hI'.2 ?_;omega
 refine QD 3 4 true 9 (dz fhg9_1) Y Y Y (fO (OF.pickF (VEv.tmpB Y (dz fhg9_1)) (VEv.bool false)) (nt (cf Y (VRun.exit (vthn.e (vthn.e (vinB.e (tn (sr (mO (tS (ZU s i)) Y (aO (tS (ZU s i)) Y ?_)))))))))))
 refine nt (rt ?_)
 refine vfin.eq (r':=(tS (ZU s i))) ?_ (vfin.r (VRes.tmp (t:=(tS (ZU s i))) Y VRes.nil) (Give.str _))
 refine congrArg T.str ?_
 refine Qi6 hI1 hI'.2 ?_;omega
theorem Qe4 (n:Nat) (g:D.Grid) (hc:g.Cells.size≤maxLen):Pure (Qo Tryz.prog (n+3)) 137 [(T.agg (Qc false g))] (T.agg (Qc true (Jo g))):=by
 refine Pure.intro (rs:= [ResultVar.cell 2 36]) Tryz.func137 Y Y Y (E0:= [(0,(T.agg (Qc false g)))]) Y ?_
 obtain ⟨hlim,hmx,hmax⟩:=Qz
 refine sr (kO (B.box (ts:=(Qc false g)) (tv (T.agg (Qc false g)) Y) nofun Y) (kO (B.alloc (t:=(T.agg [(tN 0),(tN 0),(tS ByteArray.empty)])) (ts:= [(tN 0),(tN 0),(tS ByteArray.empty)]) Qk2 QmW nofun (fun _=> .agg _ _ Y (YS (RL.cons (.int _ _) (RL.cons (.int _ _) (RL.cons (.str _) (RL.nil _)))))) Y) (nt (sq (sr (lO (OL.loadOn (us:=(Qc false g)) (tv (T.op 0 0) Y) Y Q6 Q0 (lb Y) Y) (cO (cS (vc (tv (T.agg (Qc false g)) Y) vn) (LendL.cons (lg Qx) ln) (Z7 (n+0) g (by assumption)) Y Y) (fO (QU (tv (tB (decide (gridOk g))) Y)) (nt ?_)))))))))
 refine cn (gridOk g) Y (fun fhc0=> ?_) fun fhc0=> ?_
 ·refine sr ?_
  refine fO (OF.build (l:= []) (zs:= [(tN 0),(tN 0),(tS ByteArray.empty)]) (out:= [(tN 0),(tN 0),(tS ByteArray.empty)]) VEvp.nil bn Tryz.underlying36 Qk2 (fun _=>RL.cons (.int _ _) (RL.cons (.int _ _) (RL.cons (.str _) (RL.nil _)))) (by kernel_rfl) (by kernel_rfl)) (cO (B.storeW (us:= [(tN 0),(tN 0),(tS ByteArray.empty)]) (tv (T.op 1 0) Y) (tv (T.agg [(tN 0),(tN 0),(tS ByteArray.empty)]) Y) nofun Y Y Y QjU Q0 (bc Y (bc Y (bc Y bn)))) (nt (rt (tr ?_))))
  refine vfin.eq (r':=(T.agg [(tN 0),(tN 0),(tS ByteArray.empty)])) ?_ (vfin.r (VRes.celln (ws:= [(tN 0),(tN 0),(tS ByteArray.empty)]) Y Y Q6 Q0 (lb Y) Y VRes.nil) (Give.agg (GiveL.cons (Give.int _ _) (GiveL.cons (Give.int _ _) (GiveL.cons (Give.str _) GiveL.nil (by decide)) (by decide)) (by decide))))
  (rw [Jo,if_neg fhc0];rfl)
 refine sk (tn (sr (lf (tS g.Cells) Y QL Y Y ZG (cO (cS (vc (tv (tS g.Cells) Y) vn) (Zg Y) (Qbb (n+1) g.Cells (by assumption)) Y Y) (fO (OF.fieldAddrO (tv (T.op 0 0) Y) QL) (cO (B.storeO (us:= [(tS (back g.Cells))]) (ws:= [(tI g.Rows),(tI g.Cols),(tS (back g.Cells))]) (tv (T.op 0 2) Y) (tv (tS (back g.Cells)) Y) nofun Y Y (lb Y) if9 Ji (bc Y bn) Y) (nt (sr (lO (OL.loadOn (us:= [(tI g.Rows),(tI g.Cols),(tS (back g.Cells))]) (tv (T.op 0 0) Y) Y Q6 Q0 (lb Y) Y) (cO (B.storeW (us:= [(tI g.Rows),(tI g.Cols),(tS (back g.Cells))]) (tv (T.op 1 0) Y) (tv (T.agg [(tI g.Rows),(tI g.Cols),(tS (back g.Cells))]) Y) nofun Y Y Y QjU Q0 (bc Y (bc Y (bc Y bn)))) (nt ?_)))))))))))
 refine rt ?_
 refine vfin.eq (r':=(T.agg [(tI g.Rows),(tI g.Cols),(tS (back g.Cells))])) ?_ (vfin.r (VRes.celln (ws:= [(tI g.Rows),(tI g.Cols),(tS (back g.Cells))]) Y Y Q6 Q0 (lb Y) Y VRes.nil) (Give.agg (GiveL.cons (Give.int _ _) (GiveL.cons (Give.int _ _) (GiveL.cons (Give.str _) GiveL.nil (by decide)) (by decide)) (by decide))))
 (rw [Jo,if_pos fhc0];rfl)
theorem QcR (n:Nat) (g:D.Grid) (hc:g.Cells.size≤maxLen):Pure (Qo Tryz.prog (n+4)) 103 [(T.agg (Qc false g))] (tB (decide (Qfm g))):=by
 refine Pure.intro (rs:= [ResultVar.tmp 2]) Tryz.func103 Y Y Y (E0:= [(0,(T.agg (Qc false g)))]) Y ?_
 obtain ⟨hlim,hmx,hmax⟩:=Qz
 refine sr (kO (B.box (ts:=(Qc false g)) (tv (T.agg (Qc false g)) Y) nofun Y) (fO (OF.assign (VEv.bool false)) (nt (sq (VRun.draw (B:= [[],[0],[0,1],[1,0,2],[2,0,1,3],[1,0,2],[5,3,1,0,2,4],[4,3,5,6,1,0,2],[2,0,1,6,5,3,4,7]]) (by kernel_rfl) (by kernel_rfl) (lD (OL.loadOn (us:=(Qc false g)) (tv (T.op 0 0) Y) Y Q6 Q0 (lb Y) Y) Y Y (VRunD.quiet (bi:= [0]) Y VWant.always Y Y Y bn (cS (vc (tv (T.agg (Qc false g)) Y) vn) (LendL.cons (lg Qx) ln) (Z7 (n+1) g (by assumption)) Y Y) (mD (tB (decide (gridOk g))) Y Y ?_))))))))
 refine gw (gridOk g) (fun fhg5_1=> ?_) fun fhg5_1=> ?_
 ·refine VRunD.look Y (VWant.on Y Y (dy fhg5_1)) Y (OL.loadOn (us:=(Qc false g)) (tv (T.op 0 0) Y) Y Q6 Q0 (lb Y) Y) ?_
  refine VRunD.quiet (bi:= [2,0,1,3]) Y (VWant.on Y Y (dy fhg5_1)) Y Y Y bn (cS (vc (tv (T.agg (Qc false g)) Y) vn) (LendL.cons (lg Qx) ln) (Qe4 (n+0) g (by assumption)) Y Y) (VRunD.look Y (VWant.on Y Y (dy fhg5_1)) Y (OL.loadOn (us:=(Qc false g)) (tv (T.op 0 0) Y) Y Q6 Q0 (lb Y) Y) (VRunD.free Y (VWant.on Y Y (dy fhg5_1)) Y (B.eql36 (a:=Jo g) (b:=g) (m:=true) (m':=false) (tv (T.agg (Qc true (Jo g))) Y) (tv (T.agg (Qc false g)) Y)) (fD (OF.pickT (VEv.tmpB Y (dy fhg5_1)) (tv (tB (decide (Jo g=g))) Y)) Y Y (fD (OF.assign (tv (tB (decide (Jo g=g))) Y)) Y Y (VRunD.nil (tn (rt (vb (b':=(decide (Jo g=g))) Y ?_))))))))
  (refine Qt ?_;refine QeG ?_;assumption)
 refine oD Y Y (dz fhg5_1) Y (oD Y Y (dz fhg5_1) Y (oD Y Y (dz fhg5_1) Y (oD Y Y (dz fhg5_1) Y (fD (OF.pickF (VEv.tmpB Y (dz fhg5_1)) (VEv.bool false)) Y Y (fD (OF.assign (tv (tB false) Y)) Y Y (VRunD.nil (tn (rt (vb (b':=false) Y ?_)))))))))
 (symm;rw [decide_eq_false_iff_not];intro h;have:=h.1;contradiction)
noncomputable section
theorem ZQ (l:List Int):(Q4 l).data.toList=l.map fun n=>UInt8.ofNat n.toNat:=by
 have h:∀(l:List Int) (r:ByteArray),(l.foldl (fun r n=>r.push (UInt8.ofNat n.toNat)) r).data.toList=r.data.toList++l.map fun n=>UInt8.ofNat n.toNat:=by
  intro l
  induction l with
  | nil=>intro r;simp
  | cons n l ih=>intro r;rw [List.foldl_cons,ih];simp [ByteArray.push]
 simpa [Q4] using h l ByteArray.empty
theorem Qhw {a b:ByteArray} (h:a.data.toList=b.data.toList):a=b:=by
 cases a;cases b
 simp only at h
 congr 1
 exact Array.toList_inj.1 h
theorem Qjm (s:ByteArray):(Zo s).map (fun n=>UInt8.ofNat n.toNat)=s.data.toList:=by
 simp [Zo,Function.comp_def]
theorem QbP {s:ByteArray}:∀ {i:Nat},i≤s.size→(ZU s i).data.toList=(s.data.toList.take i).reverse
 | 0,_=>rfl
 | i+1,h=>by
  have hi:i<s.data.toList.length:=by rw [Array.length_toList];exact h
  rw [ZU,ByteArray.data_append,Array.toList_append,QbP (show i≤s.size by omega),List.take_add_one,List.getElem?_eq_getElem hi,List.reverse_append]
  congr 1
  rw [ByteArray.data_extract,Array.toList_extract,List.extract_eq_take_drop]
  simp [List.drop_eq_getElem_cons hi]
theorem QlU {s:ByteArray} (h:s.size≤100):Q4 (Zo s).reverse=back s:=by
 unfold back
 rw [if_pos h]
 refine Qhw ?_
 rw [ZQ,List.map_reverse,Qjm,QbP (Nat.le_refl _),List.take_of_length_le (by rw [Array.length_toList];exact Nat.le_refl _)]
theorem QlP {s:ByteArray} (h:100<s.size):back s=⟨#[]⟩:=by
 unfold back
 rw [if_neg (by omega)]
end
theorem Qbn (n:Nat) (s:ByteArray) (hc:s.size≤maxLen):Pure (Qo Tryz.prog (n+2)) 160 [(tS s)] (tS (back s)):=by
 refine Pure.intro (rs:= [ResultVar.tmp 2]) Tryz.func160 Y Y Y (E0:= [(0,(tS s))]) Y ?_
 obtain ⟨hlim,hmx,hmax⟩:=Qz
 refine sr (fO (OF.assign (VEv.str (⟨#[]⟩:ByteArray))) (nt (sq (sr (mO (tS s) Y (lO (B.lenS (tv (tS s) Y) U9) (fO (B.gtr (c:=(decide (100<s.size))) (tv (tN s.size) Y) (VEv.int .i64 100) (by exact Qt (by omega))) (nt ?_))))))))
 refine cd (100<s.size) Y (fun fhc0=> ?_) fun fhc0=> ?_
 ·refine sr ?_
  refine fO (OF.assign (VEv.str (⟨#[]⟩:ByteArray))) (nt (rt (tr ?_)))
  refine vfin.eq (r':=(tS (⟨#[]⟩:ByteArray))) ?_ (vfin.r (VRes.tmp (t:=(tS (⟨#[]⟩:ByteArray))) Y VRes.nil) (Give.str _))
  refine congrArg T.str ?_
  exact (QlP fhc0).symm
 refine sk (tn (sr (mO (tS s) Y (kO (B.convSB (tv (tS s) Y) U9 Qbg U5) (aO (T.os 1 0 0 (((Zo s).map (Qw true)).length)) Y (nt (sr (mO (T.os 1 0 0 (((Zo s).map (Qw true)).length)) Y (cO (OC.callMut (rows:=((Zo s).map (Qw true))) (rows':=(((Zo s).reverse).map (Qw true))) Y (vc (tv (T.os 1 0 0 (((Zo s).map (Qw true)).length)) Y) vn) Y Y bn (ZS (fun _=>rfl) _) (ZS (fun _=>rfl) _) (J4 (n+0) (Zo s) (by (rw [Ya];omega)))) (nt (sr ?_)))))))))))
 refine mO (T.os 1 0 0 (((Zo s).map (Qw true)).length)) Y (lO (B.convBS (l:=(Zo s).reverse) (tv (T.os 1 0 0 (((Zo s).map (Qw true)).length)) Y) Y (by simp only [List.length_map,List.length_reverse,List.length_set]) Qbg U5 U9) (aO (tS (Q4 ((Zo s).reverse))) Y (nt (rt ?_))))
 refine vfin.eq (r':=(tS (Q4 ((Zo s).reverse)))) ?_ (vfin.r (VRes.tmp (t:=(tS (Q4 ((Zo s).reverse)))) Y VRes.nil) (Give.str _))
 refine congrArg T.str ?_
 refine QlU ?_;omega
theorem QeZ (n:Nat) (g:D.Grid) (hc:g.Cells.size≤maxLen):Pure (Qo Tryz.prog (n+3)) 143 [(T.agg (Qc false g))] (T.agg (Qc true (Jo g))):=by
 refine Pure.intro (rs:= [ResultVar.cell 2 36]) Tryz.func143 Y Y Y (E0:= [(0,(T.agg (Qc false g)))]) Y ?_
 obtain ⟨hlim,hmx,hmax⟩:=Qz
 refine sr (kO (B.box (ts:=(Qc false g)) (tv (T.agg (Qc false g)) Y) nofun Y) (kO (B.alloc (t:=(T.agg [(tN 0),(tN 0),(tS ByteArray.empty)])) (ts:= [(tN 0),(tN 0),(tS ByteArray.empty)]) Qk2 QmW nofun (fun _=> .agg _ _ Y (YS (RL.cons (.int _ _) (RL.cons (.int _ _) (RL.cons (.str _) (RL.nil _)))))) Y) (nt (sq (sr (lO (OL.loadOn (us:=(Qc false g)) (tv (T.op 0 0) Y) Y Q6 Q0 (lb Y) Y) (cO (cS (vc (tv (T.agg (Qc false g)) Y) vn) (LendL.cons (lg Qx) ln) (Yu (n+0) g (by assumption)) Y Y) (fO (QU (tv (tB (decide (gridOk g))) Y)) (nt ?_)))))))))
 refine cn (gridOk g) Y (fun fhc0=> ?_) fun fhc0=> ?_
 ·refine sr ?_
  refine fO (OF.build (l:= []) (zs:= [(tN 0),(tN 0),(tS ByteArray.empty)]) (out:= [(tN 0),(tN 0),(tS ByteArray.empty)]) VEvp.nil bn Tryz.underlying36 Qk2 (fun _=>RL.cons (.int _ _) (RL.cons (.int _ _) (RL.cons (.str _) (RL.nil _)))) (by kernel_rfl) (by kernel_rfl)) (cO (B.storeW (us:= [(tN 0),(tN 0),(tS ByteArray.empty)]) (tv (T.op 1 0) Y) (tv (T.agg [(tN 0),(tN 0),(tS ByteArray.empty)]) Y) nofun Y Y Y QjU Q0 (bc Y (bc Y (bc Y bn)))) (nt (rt (tr ?_))))
  refine vfin.eq (r':=(T.agg [(tN 0),(tN 0),(tS ByteArray.empty)])) ?_ (vfin.r (VRes.celln (ws:= [(tN 0),(tN 0),(tS ByteArray.empty)]) Y Y Q6 Q0 (lb Y) Y VRes.nil) (Give.agg (GiveL.cons (Give.int _ _) (GiveL.cons (Give.int _ _) (GiveL.cons (Give.str _) GiveL.nil (by decide)) (by decide)) (by decide))))
  (rw [Jo,if_neg fhc0];rfl)
 refine sk (tn (sr (lf (tS g.Cells) Y QL Y Y ZG (cO (cS (vc (tv (tS g.Cells) Y) vn) (Zg Y) (Qbn (n+0) g.Cells (by assumption)) Y Y) (fO (OF.fieldAddrO (tv (T.op 0 0) Y) QL) (cO (B.storeO (us:= [(tS (back g.Cells))]) (ws:= [(tI g.Rows),(tI g.Cols),(tS (back g.Cells))]) (tv (T.op 0 2) Y) (tv (tS (back g.Cells)) Y) nofun Y Y (lb Y) if9 Ji (bc Y bn) Y) (nt (sr (lO (OL.loadOn (us:= [(tI g.Rows),(tI g.Cols),(tS (back g.Cells))]) (tv (T.op 0 0) Y) Y Q6 Q0 (lb Y) Y) (cO (B.storeW (us:= [(tI g.Rows),(tI g.Cols),(tS (back g.Cells))]) (tv (T.op 1 0) Y) (tv (T.agg [(tI g.Rows),(tI g.Cols),(tS (back g.Cells))]) Y) nofun Y Y Y QjU Q0 (bc Y (bc Y (bc Y bn)))) (nt ?_)))))))))))
 refine rt ?_
 refine vfin.eq (r':=(T.agg [(tI g.Rows),(tI g.Cols),(tS (back g.Cells))])) ?_ (vfin.r (VRes.celln (ws:= [(tI g.Rows),(tI g.Cols),(tS (back g.Cells))]) Y Y Q6 Q0 (lb Y) Y VRes.nil) (Give.agg (GiveL.cons (Give.int _ _) (GiveL.cons (Give.int _ _) (GiveL.cons (Give.str _) GiveL.nil (by decide)) (by decide)) (by decide))))
 (rw [Jo,if_pos fhc0];rfl)
theorem QcV (n:Nat) (g:D.Grid) (hc:g.Cells.size≤maxLen):Pure (Qo Tryz.prog (n+4)) 110 [(T.agg (Qc false g))] (tB (decide (Qfm g))):=by
 refine Pure.intro (rs:= [ResultVar.tmp 2]) Tryz.func110 Y Y Y (E0:= [(0,(T.agg (Qc false g)))]) Y ?_
 obtain ⟨hlim,hmx,hmax⟩:=Qz
 refine sr (kO (B.box (ts:=(Qc false g)) (tv (T.agg (Qc false g)) Y) nofun Y) (fO (OF.assign (VEv.bool false)) (nt (sq (VRun.draw (B:= [[],[0],[0,1],[1,0,2],[1,0,2],[2,0,1,4],[4,5,2,0,1,3],[3,5,4,6,1,0,2],[2,0,1,6,4,5,3,7]]) (by kernel_rfl) (by kernel_rfl) (lD (OL.loadOn (us:=(Qc false g)) (tv (T.op 0 0) Y) Y Q6 Q0 (lb Y) Y) Y Y (VRunD.quiet (bi:= [0]) Y VWant.always Y Y Y bn (cS (vc (tv (T.agg (Qc false g)) Y) vn) (LendL.cons (lg Qx) ln) (Yu (n+1) g (by assumption)) Y Y) (mD (tB (decide (gridOk g))) Y Y ?_))))))))
 refine gw (gridOk g) (fun fhg5_1=> ?_) fun fhg5_1=> ?_
 ·refine VRunD.look Y (VWant.on Y Y (dy fhg5_1)) Y (OL.loadOn (us:=(Qc false g)) (tv (T.op 0 0) Y) Y Q6 Q0 (lb Y) Y) ?_
  refine VRunD.look Y (VWant.on Y Y (dy fhg5_1)) Y (OL.loadOn (us:=(Qc false g)) (tv (T.op 0 0) Y) Y Q6 Q0 (lb Y) Y) (VRunD.quiet (bi:= [2,0,1,4]) Y (VWant.on Y Y (dy fhg5_1)) Y Y Y bn (cS (vc (tv (T.agg (Qc false g)) Y) vn) (LendL.cons (lg Qx) ln) (QeZ (n+0) g (by assumption)) Y Y) (VRunD.free Y (VWant.on Y Y (dy fhg5_1)) Y (B.eql36 (a:=g) (b:=Jo g) (m:=false) (m':=true) (tv (T.agg (Qc false g)) Y) (tv (T.agg (Qc true (Jo g))) Y)) (fD (OF.pickT (VEv.tmpB Y (dy fhg5_1)) (tv (tB (decide (g=Jo g))) Y)) Y Y (fD (OF.assign (tv (tB (decide (g=Jo g))) Y)) Y Y (VRunD.nil (tn (rt (vb (b':=(decide (g=Jo g))) Y ?_))))))))
  (refine Qt ⟨fun e=> ?_,fun e=> ?_⟩<;>first | exact (QeG ‹_›).1 e.symm | exact ((QeG ‹_›).2 e).symm)
 refine oD Y Y (dz fhg5_1) Y (oD Y Y (dz fhg5_1) Y (oD Y Y (dz fhg5_1) Y (oD Y Y (dz fhg5_1) Y (fD (OF.pickF (VEv.tmpB Y (dz fhg5_1)) (VEv.bool false)) Y Y (fD (OF.assign (tv (tB false) Y)) Y Y (VRunD.nil (tn (rt (vb (b':=false) Y ?_)))))))))
 (symm;rw [decide_eq_false_iff_not];intro h;have:=h.1;contradiction)
noncomputable section
def ZM (c f:Int):Prop:=(c=35→f=35)∧(c=46→f=63∨(97≤f∧f≤122))
def Q7 (g:D.Grid) (f:ByteArray):Prop:=gridOk g∧f.size=g.Cells.size∧∀j,j<f.size→ZM (Qy g.Cells j) (Qy f j)
instance (g:D.Grid) (f:ByteArray):Decidable (Q7 g f):=Classical.propDecidable _
theorem Qmk (p q:Prop) [Decidable p] [Decidable q]:(!(decide p == decide q))=decide (¬(p↔q)):=by
 by_cases hp:p<;>by_cases hq:q<;>simp [hp,hq]
end
theorem QaL (n:Nat) (g:D.Grid) (f:ByteArray) (hc:g.Cells.size≤maxLen) (hf:f.size≤maxLen):Pure (Qo Tryz.prog (n+3)) 88 [(T.agg (Qc false g)),(tS f)] (tB (decide (Q7 g f))):=by
 refine Pure.intro (rs:= [ResultVar.tmp 4]) Tryz.func88 Y Y Y (E0:= [(0,(T.agg (Qc false g))),(1,(tS f))]) Y ?_
 obtain ⟨hlim,hmx,hmax⟩:=Qz
 refine sr (kO (B.box (ts:=(Qc false g)) (tv (T.agg (Qc false g)) Y) nofun Y) (fO (OF.assign (VEv.bool false)) (nt (sq (sr (lO (OL.loadOn (us:=(Qc false g)) (tv (T.op 0 0) Y) Y Q6 Q0 (lb Y) Y) (cO (cS (vc (tv (T.agg (Qc false g)) Y) vn) (LendL.cons (lg Qx) ln) (Z7 (n+0) g (by assumption)) Y Y) (fO (QU (tv (tB (decide (gridOk g))) Y)) (mO (tB (!(decide (gridOk g)))) Y ?_)))))))))
 refine gn (gridOk g) (fun fhg10_1=> ?_) fun fhg10_1=> ?_
 ·refine QD 6 3 false 10 (ny fhg10_1) Y Y Y ?_
  refine fO (OF.pickT (VEv.tmpB Y (ny fhg10_1)) (VEv.bool true)) (nt (ct Y (sr (fO (OF.assign (VEv.bool false)) (nt (rt (tr (vb (b':=false) Y ?_))))))))
  (symm;rw [decide_eq_false_iff_not];rintro ⟨g1,g2,g3⟩;contradiction)
 refine gF (nz fhg10_1) Y Y (OF.move (tv (tS f) Y)) (gL (nz fhg10_1) Y Y (B.lenS (tv (tS f) Y) U9) (Yk (tS g.Cells) (nz fhg10_1) Y Y Y Y QL Y Y ZG (gL (nz fhg10_1) Y Y (B.lenS (tv (tS g.Cells) Y) U9) (gF (nz fhg10_1) Y Y (Qjw (tv (tN f.size) Y) (tv (tN g.Cells.size) Y)) (fO (OF.pickF (VEv.tmpB Y (nz fhg10_1)) (tv (tB (!(decide (f.size=g.Cells.size)))) Y)) (nt ?_))))))
 refine cn (f.size=g.Cells.size) Y (fun fhc0=> ?_) fun fhc0=> ?_
 ·refine sr ?_
  refine fO (OF.assign (VEv.bool false)) (nt (rt (tr (vb (b':=false) Y ?_))))
  (symm;rw [decide_eq_false_iff_not];rintro ⟨g1,g2,g3⟩;contradiction)
 refine sk (tn (sq (sr (fO (OF.assign (VEv.int .i64 0)) (nt (VRun.block ?_))))))
 refine VRun.loop (A:=Nat) (fun s_=> [(1,(tS f)),(2,(T.op 0 0)),(5,(tN s_))]) (fun s_=>QV [(0,(Obj.cells (Qc false g)))]) 1 (fun s_=>s_≤f.size∧∀j,j<s_→ZM (Qy g.Cells j) (Qy f j)) (fun s_=>f.size - s_) (0:Nat) ?_ (Wk.mk (fun k=>k) ?_ ?_ ?_) ?_
 ·exact ⟨Nat.zero_le _,fun j hj=>by omega⟩
 ·exact (b2 (b2 (b2 bn)))
 ·exact (b3 bn)
 ·exact nd Y
 rintro i (hI':i≤f.size∧∀j,j<i→ZM (Qy g.Cells j) (Qy f j))
 show VRun _ _ _ [(1,(tS f)),(2,(T.op 0 0)),(5,(tN i))] (QV [(0,(Obj.cells (Qc false g)))]) 1 _
 have hI1:=hI'.1
 have hgo:gridOk g:=by assumption
 refine sq (sr (mO (tN i) Y (mO (tS f) Y (lO (B.lenS (tv (tS f) Y) U9) (fO (Q9 (tv (tN i) Y) (tv (tN f.size) Y)) (nt ?_))))))
 refine cd (i<f.size) Y (fun fhc1=> ?_) fun fhc1=> ?_
 ·have hgi:=hgo.2.2.2 i (by omega)
  unfold gOk at hgi
  refine sk (tn (sq (VRun.block (sr (mO (tS f) Y (mO (tN i) Y ?_))))))
  have hb2:i<f.size:=(by omega)
  refine fO (xix (tv (tS f) Y) (tv (tN i) Y) hb2 U9) (fO (Yn (tv (T.int .u8 (Qy f i)) Y) (VEv.int .u8 63)) (mO (tB (decide (Qy f i=63))) Y ?_))
  refine gw (Qy f i=63) (fun fhg28_3=> ?_) fun fhg28_3=> ?_
  ·refine QD 5 4 false 28 (dy fhg28_3) Y Y Y ?_
   refine QaX 4 9 true 33 Y Y Y (oO Y Y (dy fhg28_3) (fO (OF.pickT (VEv.tmpB Y (dy fhg28_3)) (VEv.bool true)) (aO (tB true) Y (nt (sr (lf (tS g.Cells) Y QL Y Y ZG (mO (tN i) Y ?_)))))))
   have hb4:i<g.Cells.size:=(by omega)
   refine fO (xix (tv (tS g.Cells) Y) (tv (tN i) Y) hb4 U9) (fO (Yn (tv (T.int .u8 (Qy g.Cells i)) Y) (VEv.int .u8 35)) (mO (tB (decide (Qy g.Cells i=35))) Y ?_))
   refine gw (Qy g.Cells i=35) (fun fhg45_5=> ?_) fun fhg45_5=> ?_
   ·refine gF (dy fhg45_5) Y Y (OF.move (tv (tS f) Y)) ?_
    refine gF (dy fhg45_5) Y Y (OF.move (tv (tN i) Y)) ?_
    have hb6:i<f.size:=(by omega)
    refine gF (dy fhg45_5) Y Y (xix (tv (tS f) Y) (tv (tN i) Y) hb6 U9) (gF (dy fhg45_5) Y Y (xne (tv (T.int .u8 (Qy f i)) Y) (VEv.int .u8 35)) (fO (OF.pickT (VEv.tmpB Y (dy fhg45_5)) (tv (tB (!(decide (Qy f i=35)))) Y)) (mO (tB (!(decide (Qy f i=35)))) Y ?_)))
    refine gn (Qy f i=35) (fun fhg51_7=> ?_) fun fhg51_7=> ?_
    ·refine QD 6 11 false 51 (ny fhg51_7) Y Y Y ?_
     refine QaX 2 17 true 57 Y Y Y (oO Y Y (ny fhg51_7) (fO (OF.pickT (VEv.tmpB Y (ny fhg51_7)) (VEv.bool true)) (nt (ct Y (sr (fO (OF.assign (VEv.bool false)) (nt (rt (vinB.r (tr (tr ?_)))))))))))
     refine vinB.r (tr (vb (b':=false) Y ?_))
     (symm;rw [decide_eq_false_iff_not];rintro ⟨g1,g2,g3⟩;(have g4:=g3 i fhc1;unfold ZM at g4;omega))
    refine Yk (tS g.Cells) (nz fhg51_7) Y Y Y Y QL Y Y ZG (gF (nz fhg51_7) Y Y (OF.move (tv (tN i) Y)) ?_)
    have hb8:i<g.Cells.size:=(by omega)
    refine gF (nz fhg51_7) Y Y (xix (tv (tS g.Cells) Y) (tv (tN i) Y) hb8 U9) (gF (nz fhg51_7) Y Y (Yn (tv (T.int .u8 (Qy g.Cells i)) Y) (VEv.int .u8 46)) (gF (nz fhg51_7) Y Y (OF.move (tv (tB (decide (Qy g.Cells i=46))) Y)) ?_))
    refine gw (Qy g.Cells i=46) (fun fhg57_9=> ?_) fun fhg57_9=> ?_
    ·refine gF (dy fhg57_9) Y Y (OF.move (tv (tB true) Y)) ?_
     refine gF (dy fhg57_9) Y Y (B.not (c:=false) (tv (tB true) Y) Y) (gF (nz fhg51_7) Y Y (OF.pickT (VEv.tmpB Y (dy fhg57_9)) (tv (tB false) Y)) (fO (OF.pickF (VEv.tmpB Y (nz fhg51_7)) (tv (tB false) Y)) (nt (cf Y (sk (vinB.n (tn (VRun.region (mO (tN i) Y (fO (QB (tv (tN i) Y) (VEv.int .i64 1) (by omega)) (aO (tN (i+1)) Y ?_)))))))))))
     refine VRunO.nil (tn ?_)
     refine ⟨(i+1:Nat),?_,?_,Wk.mk (fun k=>k) ?_ ?_ ?_⟩
     ·refine Zb hI' fhc1 ?_;unfold ZM;omega
     ·omega
     ·exact (b2 (b2 (b2 bn)))
     ·exact (b3 bn)
     ·exact nd Y
    refine QD 2 17 true 57 (dz fhg57_9) Y Y Y (gF (nz fhg51_7) Y Y (OF.pickF (VEv.tmpB Y (dz fhg57_9)) (VEv.bool false)) (fO (OF.pickF (VEv.tmpB Y (nz fhg51_7)) (tv (tB false) Y)) (nt (cf Y (sk (vinB.n (tn (VRun.region (mO (tN i) Y (fO (QB (tv (tN i) Y) (VEv.int .i64 1) (by omega)) (aO (tN (i+1)) Y ?_)))))))))))
    refine VRunO.nil (tn ?_)
    refine ⟨(i+1:Nat),?_,?_,Wk.mk (fun k=>k) ?_ ?_ ?_⟩
    ·refine Zb hI' fhc1 ?_;unfold ZM;omega
    ·omega
    ·exact (b2 (b2 (b2 bn)))
    ·exact (b3 bn)
    ·exact nd Y
   refine QD 4 5 true 45 (dz fhg45_5) Y Y Y (fO (OF.pickF (VEv.tmpB Y (dz fhg45_5)) (VEv.bool false)) (mO (tB false) Y (VRunO.free (VWant.on (b:=false) Y Y Y) (OF.fieldAddrO (tv (T.op 0 0) Y) QL) (VRunO.look (VWant.on (b:=false) Y Y Y) (OL.loadO1 (t:=(tS g.Cells)) (tv (T.op 0 2) Y) Y Y ZG) (VRunO.free (VWant.on (b:=false) Y Y Y) (OF.move (tv (tN i) Y)) ?_)))))
   have hb10:i<g.Cells.size:=(by omega)
   refine VRunO.free (VWant.on (b:=false) Y Y Y) (xix (tv (tS g.Cells) Y) (tv (tN i) Y) hb10 U9) (VRunO.free (VWant.on (b:=false) Y Y Y) (Yn (tv (T.int .u8 (Qy g.Cells i)) Y) (VEv.int .u8 46)) (VRunO.free (VWant.on (b:=false) Y Y Y) (OF.move (tv (tB (decide (Qy g.Cells i=46))) Y)) ?_))
   refine gw (Qy g.Cells i=46) (fun fhg57_11=> ?_) fun fhg57_11=> ?_
   ·refine gF (dy fhg57_11) Y Y (OF.move (tv (tB true) Y)) ?_
    refine gF (dy fhg57_11) Y Y (B.not (c:=false) (tv (tB true) Y) Y) (VRunO.free (VWant.on (b:=false) Y Y Y) (OF.pickT (VEv.tmpB Y (dy fhg57_11)) (tv (tB false) Y)) (fO (OF.pickF (tv (tB false) Y) (tv (tB false) Y)) (nt (cf Y (sk (vinB.n (tn (VRun.region (mO (tN i) Y (fO (QB (tv (tN i) Y) (VEv.int .i64 1) (by omega)) (aO (tN (i+1)) Y ?_)))))))))))
    refine VRunO.nil (tn ?_)
    refine ⟨(i+1:Nat),?_,?_,Wk.mk (fun k=>k) ?_ ?_ ?_⟩
    ·refine Zb hI' fhc1 ?_;unfold ZM;omega
    ·omega
    ·exact (b2 (b2 (b2 bn)))
    ·exact (b3 bn)
    ·exact nd Y
   refine QD 2 17 true 57 (dz fhg57_11) Y Y Y (VRunO.free (VWant.on (b:=false) Y Y Y) (OF.pickF (VEv.tmpB Y (dz fhg57_11)) (VEv.bool false)) (fO (OF.pickF (tv (tB false) Y) (tv (tB false) Y)) (nt (cf Y (sk (vinB.n (tn (VRun.region (mO (tN i) Y (fO (QB (tv (tN i) Y) (VEv.int .i64 1) (by omega)) (aO (tN (i+1)) Y ?_)))))))))))
   refine VRunO.nil (tn ?_)
   refine ⟨(i+1:Nat),?_,?_,Wk.mk (fun k=>k) ?_ ?_ ?_⟩
   ·refine Zb hI' fhc1 ?_;unfold ZM;omega
   ·omega
   ·exact (b2 (b2 (b2 bn)))
   ·exact (b3 bn)
   ·exact nd Y
  refine gF (dz fhg28_3) Y Y (OF.move (tv (tS f) Y)) (gF (dz fhg28_3) Y Y (OF.move (tv (tN i) Y)) ?_)
  have hb12:i<f.size:=(by omega)
  refine gF (dz fhg28_3) Y Y (xix (tv (tS f) Y) (tv (tN i) Y) hb12 U9) (gF (dz fhg28_3) Y Y (xge (tv (T.int .u8 (Qy f i)) Y) (VEv.int .u8 97)) (gF (dz fhg28_3) Y Y (OF.move (tv (tB (decide (97≤Qy f i))) Y)) ?_))
  refine gw (97≤Qy f i) (fun fhg33_13=> ?_) fun fhg33_13=> ?_
  ·refine gF (dy fhg33_13) Y Y (OF.move (tv (tS f) Y)) ?_
   refine gF (dy fhg33_13) Y Y (OF.move (tv (tN i) Y)) ?_
   have hb14:i<f.size:=(by omega)
   refine gF (dy fhg33_13) Y Y (xix (tv (tS f) Y) (tv (tN i) Y) hb14 U9) (gF (dy fhg33_13) Y Y (xle (tv (T.int .u8 (Qy f i)) Y) (VEv.int .u8 122)) (gF (dz fhg28_3) Y Y (OF.pickT (VEv.tmpB Y (dy fhg33_13)) (tv (tB (decide (Qy f i≤122))) Y)) (fO (OF.pickF (VEv.tmpB Y (dz fhg28_3)) (tv (tB (decide (Qy f i≤122))) Y)) (aO (tB (decide (Qy f i≤122))) Y (nt (sr (lf (tS g.Cells) Y QL Y Y ZG (mO (tN i) Y ?_))))))))
   have hb15:i<g.Cells.size:=(by omega)
   refine fO (xix (tv (tS g.Cells) Y) (tv (tN i) Y) hb15 U9) (fO (Yn (tv (T.int .u8 (Qy g.Cells i)) Y) (VEv.int .u8 35)) (mO (tB (decide (Qy g.Cells i=35))) Y ?_))
   refine gw (Qy g.Cells i=35) (fun fhg45_16=> ?_) fun fhg45_16=> ?_
   ·refine gF (dy fhg45_16) Y Y (OF.move (tv (tS f) Y)) ?_
    refine gF (dy fhg45_16) Y Y (OF.move (tv (tN i) Y)) ?_
    have hb17:i<f.size:=(by omega)
    refine gF (dy fhg45_16) Y Y (xix (tv (tS f) Y) (tv (tN i) Y) hb17 U9) (gF (dy fhg45_16) Y Y (xne (tv (T.int .u8 (Qy f i)) Y) (VEv.int .u8 35)) (fO (OF.pickT (VEv.tmpB Y (dy fhg45_16)) (tv (tB (!(decide (Qy f i=35)))) Y)) (mO (tB (!(decide (Qy f i=35)))) Y ?_)))
    refine gn (Qy f i=35) (fun fhg51_18=> ?_) fun fhg51_18=> ?_
    ·refine QD 6 11 false 51 (ny fhg51_18) Y Y Y ?_
     refine QaX 2 17 true 57 Y Y Y (oO Y Y (ny fhg51_18) (fO (OF.pickT (VEv.tmpB Y (ny fhg51_18)) (VEv.bool true)) (nt (ct Y (sr (fO (OF.assign (VEv.bool false)) (nt (rt (vinB.r (tr (tr ?_)))))))))))
     refine vinB.r (tr (vb (b':=false) Y ?_))
     (symm;rw [decide_eq_false_iff_not];rintro ⟨g1,g2,g3⟩;(have g4:=g3 i fhc1;unfold ZM at g4;omega))
    refine Yk (tS g.Cells) (nz fhg51_18) Y Y Y Y QL Y Y ZG (gF (nz fhg51_18) Y Y (OF.move (tv (tN i) Y)) ?_)
    have hb19:i<g.Cells.size:=(by omega)
    refine gF (nz fhg51_18) Y Y (xix (tv (tS g.Cells) Y) (tv (tN i) Y) hb19 U9) (gF (nz fhg51_18) Y Y (Yn (tv (T.int .u8 (Qy g.Cells i)) Y) (VEv.int .u8 46)) (gF (nz fhg51_18) Y Y (OF.move (tv (tB (decide (Qy g.Cells i=46))) Y)) ?_))
    refine gw (Qy g.Cells i=46) (fun fhg57_20=> ?_) fun fhg57_20=> ?_
    ·refine gF (dy fhg57_20) Y Y (OF.move (tv (tB (decide (Qy f i≤122))) Y)) ?_
     refine gF (dy fhg57_20) Y Y (QU (tv (tB (decide (Qy f i≤122))) Y)) (gF (nz fhg51_18) Y Y (OF.pickT (VEv.tmpB Y (dy fhg57_20)) (tv (tB (!(decide (Qy f i≤122)))) Y)) (fO (OF.pickF (VEv.tmpB Y (nz fhg51_18)) (tv (tB (!(decide (Qy f i≤122)))) Y)) (nt ?_)))
     refine cn (Qy f i≤122) Y (fun fhc2=> ?_) fun fhc2=> ?_
     ·refine sr ?_
      refine fO (OF.assign (VEv.bool false)) (nt (rt (vinB.r (tr (tr (vinB.r (tr (vb (b':=false) Y ?_))))))))
      (symm;rw [decide_eq_false_iff_not];rintro ⟨g1,g2,g3⟩;omega)
     refine sk (vinB.n (tn (VRun.region (mO (tN i) Y (fO (QB (tv (tN i) Y) (VEv.int .i64 1) (by omega)) (aO (tN (i+1)) Y (VRunO.nil (tn ?_))))))))
     refine ⟨(i+1:Nat),?_,?_,Wk.mk (fun k=>k) ?_ ?_ ?_⟩
     ·refine Zb hI' fhc1 ?_;unfold ZM;omega
     ·omega
     ·exact (b2 (b2 (b2 bn)))
     ·exact (b3 bn)
     ·exact nd Y
    refine QD 2 17 true 57 (dz fhg57_20) Y Y Y (gF (nz fhg51_18) Y Y (OF.pickF (VEv.tmpB Y (dz fhg57_20)) (VEv.bool false)) (fO (OF.pickF (VEv.tmpB Y (nz fhg51_18)) (tv (tB false) Y)) (nt (cf Y (sk (vinB.n (tn (VRun.region (mO (tN i) Y (fO (QB (tv (tN i) Y) (VEv.int .i64 1) (by omega)) (aO (tN (i+1)) Y ?_)))))))))))
    refine VRunO.nil (tn ?_)
    refine ⟨(i+1:Nat),?_,?_,Wk.mk (fun k=>k) ?_ ?_ ?_⟩
    ·refine Zb hI' fhc1 ?_;unfold ZM;omega
    ·omega
    ·exact (b2 (b2 (b2 bn)))
    ·exact (b3 bn)
    ·exact nd Y
   refine QD 4 5 true 45 (dz fhg45_16) Y Y Y (fO (OF.pickF (VEv.tmpB Y (dz fhg45_16)) (VEv.bool false)) (mO (tB false) Y (VRunO.free (VWant.on (b:=false) Y Y Y) (OF.fieldAddrO (tv (T.op 0 0) Y) QL) (VRunO.look (VWant.on (b:=false) Y Y Y) (OL.loadO1 (t:=(tS g.Cells)) (tv (T.op 0 2) Y) Y Y ZG) (VRunO.free (VWant.on (b:=false) Y Y Y) (OF.move (tv (tN i) Y)) ?_)))))
   have hb21:i<g.Cells.size:=(by omega)
   refine VRunO.free (VWant.on (b:=false) Y Y Y) (xix (tv (tS g.Cells) Y) (tv (tN i) Y) hb21 U9) (VRunO.free (VWant.on (b:=false) Y Y Y) (Yn (tv (T.int .u8 (Qy g.Cells i)) Y) (VEv.int .u8 46)) (VRunO.free (VWant.on (b:=false) Y Y Y) (OF.move (tv (tB (decide (Qy g.Cells i=46))) Y)) ?_))
   refine gw (Qy g.Cells i=46) (fun fhg57_22=> ?_) fun fhg57_22=> ?_
   ·refine gF (dy fhg57_22) Y Y (OF.move (tv (tB (decide (Qy f i≤122))) Y)) ?_
    refine gF (dy fhg57_22) Y Y (QU (tv (tB (decide (Qy f i≤122))) Y)) (VRunO.free (VWant.on (b:=false) Y Y Y) (OF.pickT (VEv.tmpB Y (dy fhg57_22)) (tv (tB (!(decide (Qy f i≤122)))) Y)) (fO (OF.pickF (tv (tB false) Y) (tv (tB (!(decide (Qy f i≤122)))) Y)) (nt ?_)))
    refine cn (Qy f i≤122) Y (fun fhc2=> ?_) fun fhc2=> ?_
    ·refine sr ?_
     refine fO (OF.assign (VEv.bool false)) (nt (rt (vinB.r (tr (tr (vinB.r (tr (vb (b':=false) Y ?_))))))))
     (symm;rw [decide_eq_false_iff_not];rintro ⟨g1,g2,g3⟩;(have g4:=g3 i fhc1;unfold ZM at g4;omega))
    refine sk (vinB.n (tn (VRun.region (mO (tN i) Y (fO (QB (tv (tN i) Y) (VEv.int .i64 1) (by omega)) (aO (tN (i+1)) Y (VRunO.nil (tn ?_))))))))
    refine ⟨(i+1:Nat),?_,?_,Wk.mk (fun k=>k) ?_ ?_ ?_⟩
    ·refine Zb hI' fhc1 ?_;unfold ZM;omega
    ·omega
    ·exact (b2 (b2 (b2 bn)))
    ·exact (b3 bn)
    ·exact nd Y
   refine QD 2 17 true 57 (dz fhg57_22) Y Y Y (VRunO.free (VWant.on (b:=false) Y Y Y) (OF.pickF (VEv.tmpB Y (dz fhg57_22)) (VEv.bool false)) (fO (OF.pickF (tv (tB false) Y) (tv (tB false) Y)) (nt (cf Y (sk (vinB.n (tn (VRun.region (mO (tN i) Y (fO (QB (tv (tN i) Y) (VEv.int .i64 1) (by omega)) (aO (tN (i+1)) Y ?_)))))))))))
   refine VRunO.nil (tn ?_)
   refine ⟨(i+1:Nat),?_,?_,Wk.mk (fun k=>k) ?_ ?_ ?_⟩
   ·refine Zb hI' fhc1 ?_;unfold ZM;omega
   ·omega
   ·exact (b2 (b2 (b2 bn)))
   ·exact (b3 bn)
   ·exact nd Y
  refine QD 4 9 true 33 (dz fhg33_13) Y Y Y (gF (dz fhg28_3) Y Y (OF.pickF (VEv.tmpB Y (dz fhg33_13)) (VEv.bool false)) (fO (OF.pickF (VEv.tmpB Y (dz fhg28_3)) (tv (tB false) Y)) (aO (tB false) Y (nt (sr (lf (tS g.Cells) Y QL Y Y ZG (mO (tN i) Y ?_)))))))
  have hb23:i<g.Cells.size:=(by omega)
  refine fO (xix (tv (tS g.Cells) Y) (tv (tN i) Y) hb23 U9) (fO (Yn (tv (T.int .u8 (Qy g.Cells i)) Y) (VEv.int .u8 35)) (mO (tB (decide (Qy g.Cells i=35))) Y ?_))
  refine gw (Qy g.Cells i=35) (fun fhg45_24=> ?_) fun fhg45_24=> ?_
  ·refine gF (dy fhg45_24) Y Y (OF.move (tv (tS f) Y)) ?_
   refine gF (dy fhg45_24) Y Y (OF.move (tv (tN i) Y)) ?_
   have hb25:i<f.size:=(by omega)
   refine gF (dy fhg45_24) Y Y (xix (tv (tS f) Y) (tv (tN i) Y) hb25 U9) (gF (dy fhg45_24) Y Y (xne (tv (T.int .u8 (Qy f i)) Y) (VEv.int .u8 35)) (fO (OF.pickT (VEv.tmpB Y (dy fhg45_24)) (tv (tB (!(decide (Qy f i=35)))) Y)) (mO (tB (!(decide (Qy f i=35)))) Y ?_)))
   refine gn (Qy f i=35) (fun fhg51_26=> ?_) fun fhg51_26=> ?_
   ·refine QD 6 11 false 51 (ny fhg51_26) Y Y Y ?_
    refine QaX 2 17 true 57 Y Y Y (oO Y Y (ny fhg51_26) (fO (OF.pickT (VEv.tmpB Y (ny fhg51_26)) (VEv.bool true)) (nt (ct Y (sr (fO (OF.assign (VEv.bool false)) (nt (rt (vinB.r (tr (tr ?_)))))))))))
    refine vinB.r (tr (vb (b':=false) Y ?_))
    (symm;rw [decide_eq_false_iff_not];rintro ⟨g1,g2,g3⟩;(have g4:=g3 i fhc1;unfold ZM at g4;omega))
   refine Yk (tS g.Cells) (nz fhg51_26) Y Y Y Y QL Y Y ZG (gF (nz fhg51_26) Y Y (OF.move (tv (tN i) Y)) ?_)
   have hb27:i<g.Cells.size:=(by omega)
   refine gF (nz fhg51_26) Y Y (xix (tv (tS g.Cells) Y) (tv (tN i) Y) hb27 U9) (gF (nz fhg51_26) Y Y (Yn (tv (T.int .u8 (Qy g.Cells i)) Y) (VEv.int .u8 46)) (gF (nz fhg51_26) Y Y (OF.move (tv (tB (decide (Qy g.Cells i=46))) Y)) ?_))
   refine gw (Qy g.Cells i=46) (fun fhg57_28=> ?_) fun fhg57_28=> ?_
   ·refine gF (dy fhg57_28) Y Y (OF.move (tv (tB false) Y)) ?_
    refine gF (dy fhg57_28) Y Y (B.not (c:=true) (tv (tB false) Y) Y) (gF (nz fhg51_26) Y Y (OF.pickT (VEv.tmpB Y (dy fhg57_28)) (tv (tB true) Y)) (fO (OF.pickF (VEv.tmpB Y (nz fhg51_26)) (tv (tB true) Y)) (nt (ct Y (sr (fO (OF.assign (VEv.bool false)) (nt (rt (vinB.r (tr (tr ?_)))))))))))
    refine vinB.r (tr (vb (b':=false) Y ?_))
    (symm;rw [decide_eq_false_iff_not];rintro ⟨g1,g2,g3⟩;omega)
   refine QD 2 17 true 57 (dz fhg57_28) Y Y Y (gF (nz fhg51_26) Y Y (OF.pickF (VEv.tmpB Y (dz fhg57_28)) (VEv.bool false)) (fO (OF.pickF (VEv.tmpB Y (nz fhg51_26)) (tv (tB false) Y)) (nt (cf Y (sk (vinB.n (tn (VRun.region (mO (tN i) Y (fO (QB (tv (tN i) Y) (VEv.int .i64 1) (by omega)) (aO (tN (i+1)) Y ?_)))))))))))
   refine VRunO.nil (tn ?_)
   refine ⟨(i+1:Nat),?_,?_,Wk.mk (fun k=>k) ?_ ?_ ?_⟩
   ·refine Zb hI' fhc1 ?_;unfold ZM;omega
   ·omega
   ·exact (b2 (b2 (b2 bn)))
   ·exact (b3 bn)
   ·exact nd Y
  refine QD 4 5 true 45 (dz fhg45_24) Y Y Y (fO (OF.pickF (VEv.tmpB Y (dz fhg45_24)) (VEv.bool false)) (mO (tB false) Y (VRunO.free (VWant.on (b:=false) Y Y Y) (OF.fieldAddrO (tv (T.op 0 0) Y) QL) (VRunO.look (VWant.on (b:=false) Y Y Y) (OL.loadO1 (t:=(tS g.Cells)) (tv (T.op 0 2) Y) Y Y ZG) (VRunO.free (VWant.on (b:=false) Y Y Y) (OF.move (tv (tN i) Y)) ?_)))))
  have hb29:i<g.Cells.size:=(by omega)
  refine VRunO.free (VWant.on (b:=false) Y Y Y) (xix (tv (tS g.Cells) Y) (tv (tN i) Y) hb29 U9) (VRunO.free (VWant.on (b:=false) Y Y Y) (Yn (tv (T.int .u8 (Qy g.Cells i)) Y) (VEv.int .u8 46)) (VRunO.free (VWant.on (b:=false) Y Y Y) (OF.move (tv (tB (decide (Qy g.Cells i=46))) Y)) ?_))
  refine gw (Qy g.Cells i=46) (fun fhg57_30=> ?_) fun fhg57_30=> ?_
  ·refine gF (dy fhg57_30) Y Y (OF.move (tv (tB false) Y)) ?_
   refine gF (dy fhg57_30) Y Y (B.not (c:=true) (tv (tB false) Y) Y) (VRunO.free (VWant.on (b:=false) Y Y Y) (OF.pickT (VEv.tmpB Y (dy fhg57_30)) (tv (tB true) Y)) (fO (OF.pickF (tv (tB false) Y) (tv (tB true) Y)) (nt (ct Y (sr (fO (OF.assign (VEv.bool false)) (nt (rt (vinB.r (tr (tr ?_)))))))))))
   refine vinB.r (tr (vb (b':=false) Y ?_))
   (symm;rw [decide_eq_false_iff_not];rintro ⟨g1,g2,g3⟩;(have g4:=g3 i fhc1;unfold ZM at g4;omega))
  refine QD 2 17 true 57 (dz fhg57_30) Y Y Y (VRunO.free (VWant.on (b:=false) Y Y Y) (OF.pickF (VEv.tmpB Y (dz fhg57_30)) (VEv.bool false)) (fO (OF.pickF (tv (tB false) Y) (tv (tB false) Y)) (nt (cf Y (sk (vinB.n (tn (VRun.region (mO (tN i) Y (fO (QB (tv (tN i) Y) (VEv.int .i64 1) (by omega)) (aO (tN (i+1)) Y ?_)))))))))))
  refine VRunO.nil (tn ?_)
  refine ⟨(i+1:Nat),?_,?_,Wk.mk (fun k=>k) ?_ ?_ ?_⟩
  ·refine Zb hI' fhc1 ?_;unfold ZM;omega
  ·omega
  ·exact (b2 (b2 (b2 bn)))
  ·exact (b3 bn)
  ·exact nd Y
 refine VRun.exit (vthn.e (vthn.e (vinB.e (tn (sr (fO (OF.assign (VEv.bool true)) (nt (rt (vb (b':=true) Y ?_)))))))))
 (symm;rw [decide_eq_true_eq];refine ⟨?_,?_,Qa4 hI' fhc1⟩<;>assumption)
theorem Qcy (n:Nat) (g:D.Grid) (f:ByteArray) (hc:g.Cells.size≤maxLen) (hf:f.size≤maxLen):Pure (Qo Tryz.prog (n+3)) 132 [(T.agg (Qc false g)),(tS f)] (tB (decide (Q7 g f))):=by
 refine Pure.intro (rs:= [ResultVar.tmp 4]) Tryz.func132 Y Y Y (E0:= [(0,(T.agg (Qc false g))),(1,(tS f))]) Y ?_
 obtain ⟨hlim,hmx,hmax⟩:=Qz
 refine sr (kO (B.box (ts:=(Qc false g)) (tv (T.agg (Qc false g)) Y) nofun Y) (fO (OF.assign (VEv.bool false)) (nt (sq (sr (lO (OL.loadOn (us:=(Qc false g)) (tv (T.op 0 0) Y) Y Q6 Q0 (lb Y) Y) (cO (cS (vc (tv (T.agg (Qc false g)) Y) vn) (LendL.cons (lg Qx) ln) (Yu (n+0) g (by assumption)) Y Y) (fO (QU (tv (tB (decide (gridOk g))) Y)) (mO (tB (!(decide (gridOk g)))) Y ?_)))))))))
 refine gn (gridOk g) (fun fhg9_1=> ?_) fun fhg9_1=> ?_
 ·refine QD 6 3 false 9 (ny fhg9_1) Y Y Y ?_
  refine fO (OF.pickT (VEv.tmpB Y (ny fhg9_1)) (VEv.bool true)) (nt (ct Y (sr (fO (OF.assign (VEv.bool false)) (nt (rt (tr (vb (b':=false) Y ?_))))))))
  (symm;rw [decide_eq_false_iff_not];rintro ⟨g1,g2,g3⟩;contradiction)
 refine gF (nz fhg9_1) Y Y (OF.move (tv (tS f) Y)) (gL (nz fhg9_1) Y Y (B.lenS (tv (tS f) Y) U9) (Yk (tS g.Cells) (nz fhg9_1) Y Y Y Y QL Y Y ZG (gL (nz fhg9_1) Y Y (B.lenS (tv (tS g.Cells) Y) U9) (gF (nz fhg9_1) Y Y (Qjw (tv (tN f.size) Y) (tv (tN g.Cells.size) Y)) (fO (OF.pickF (VEv.tmpB Y (nz fhg9_1)) (tv (tB (!(decide (f.size=g.Cells.size)))) Y)) (nt ?_))))))
 refine cn (f.size=g.Cells.size) Y (fun fhc0=> ?_) fun fhc0=> ?_
 ·refine sr ?_
  refine fO (OF.assign (VEv.bool false)) (nt (rt (tr (vb (b':=false) Y ?_))))
  (symm;rw [decide_eq_false_iff_not];rintro ⟨g1,g2,g3⟩;contradiction)
 refine sk (tn (sq (sr (mO (tS f) Y (lO (B.lenS (tv (tS f) Y) U9) (fO (OF.move (VEv.int .i64 0)) (nt (VRun.block ?_))))))))
 refine VRun.loop (A:=Nat) (fun s_=> [(1,(tS f)),(2,(T.op 0 0)),(18,(tN f.size)),(19,(tN s_))]) (fun s_=>QV [(0,(Obj.cells (Qc false g)))]) 1 (fun s_=>s_≤f.size∧∀j,j<s_→ZM (Qy g.Cells j) (Qy f j)) (fun s_=>f.size - s_) (0:Nat) ?_ (Wk.mk (fun k=>k) ?_ ?_ ?_) ?_
 ·exact ⟨Nat.zero_le _,fun j hj=>by omega⟩
 ·exact (b2 (b2 (b2 (b2 bn))))
 ·exact (b3 bn)
 ·exact nd Y
 rintro i (hI':i≤f.size∧∀j,j<i→ZM (Qy g.Cells j) (Qy f j))
 show VRun _ _ _ [(1,(tS f)),(2,(T.op 0 0)),(18,(tN f.size)),(19,(tN i))] (QV [(0,(Obj.cells (Qc false g)))]) 1 _
 have hI1:=hI'.1
 have hgo:gridOk g:=by assumption
 refine sr (fO (Q9 (tv (tN i) Y) (tv (tN f.size) Y)) (nt (sq ?_)))
 refine cd (i<f.size) Y (fun fhc1=> ?_) fun fhc1=> ?_
 ·have hgi:=hgo.2.2.2 i (by omega)
  unfold gOk at hgi
  refine sk (tn (sq (VRun.block (sr (mO (tN i) Y (aO (tN i) Y (nt (sq (VRun.draw (B:= [[],[0],[],[2,0,1],[1,0,2,3],[],[],[6,5],[5,6,7],[7,6,5,8,3,2,0,1,4],[4,1,0,2,3,8,5,6,7,9],[9,7,6,5,8,3,2,0,1,4,10],[9,7,6,5,8,3,2,0,1,4,10],[12,10,4,1,0,2,3,8,5,6,7,9,11],[11,9,7,6,5,8,3,2,0,1,4,10,12,13],[13,12,10,4,1,0,2,3,8,5,6,7,9,11,14],[14,11,9,7,6,5,8,3,2,0,1,4,10,12,13,15],[14,11,9,7,6,5,8,3,2,0,1,4,10,12,13,15],[17,15,13,12,10,4,1,0,2,3,8,5,6,7,9,11,14,16],[16,14,11,9,7,6,5,8,3,2,0,1,4,10,12,13,15,17,18],[18,17,16,19,14,11,9,7,6,5,8,3,2,0,1,4,10,12,13,15],[15,13,12,10,4,1,0,2,3,8,5,6,7,9,11,14,19,16,17,18,20],[20,18,17,16,19,14,11,9,7,6,5,8,3,2,0,1,4,10,12,13,15,21],[20,18,17,16,19,14,11,9,7,6,5,8,3,2,0,1,4,10,12,13,15,21],[23,21,15,13,12,10,4,1,0,2,3,8,5,6,7,9,11,14,19,16,17,18,20,22],[22,20,18,17,16,19,14,11,9,7,6,5,8,3,2,0,1,4,10,12,13,15,21,23,24],[24,23,21,15,13,12,10,4,1,0,2,3,8,5,6,7,9,11,14,19,16,17,18,20,22,25],[25,22,23,24,26,20,18,17,16,19,14,11,9,7,6,5,8,3,2,0,1,4,10,12,13,15,21],[21,15,13,12,11,14,19,16,17,18,20,26,24,23,22,25,27,9,7,6,5,8,3,2,0,1,4,10]]) (by kernel_rfl) (by kernel_rfl) (fD (OF.fieldAddrO (tv (T.op 0 0) Y) QL) Y Y (lD (OL.loadO1 (t:=(tS g.Cells)) (tv (T.op 0 2) Y) Y Y ZG) Y Y ?_)))))))))))
  refine mD (tN i) Y Y ?_
  have hb2:i<g.Cells.size:=(by omega)
  refine fD (xix (tv (tS g.Cells) Y) (tv (tN i) Y) hb2 U9) Y Y (fD (Yn (tv (T.int .u8 (Qy g.Cells i)) Y) (VEv.int .u8 35)) Y Y (mD (tS f) Y Y (mD (tN i) Y Y ?_)))
  have hb3:i<f.size:=(by omega)
  refine fD (xix (tv (tS f) Y) (tv (tN i) Y) hb3 U9) Y Y (fD (Yn (tv (T.int .u8 (Qy f i)) Y) (VEv.int .u8 35)) Y Y (fD (B.bneq U4 (c:=(!((decide (Qy g.Cells i=35)) == (decide (Qy f i=35))))) (tv (tB (decide (Qy g.Cells i=35))) Y) (tv (tB (decide (Qy f i=35))) Y) Y) Y Y (mD (tB (!((decide (Qy g.Cells i=35)) == (decide (Qy f i=35))))) Y Y ?_)))
  refine Qdu (!((decide (Qy g.Cells i=35)) == (decide (Qy f i=35)))) (fun hg32_4=> ?_) (fun hg32_4=> ?_)
  ·have fhg32_4:(!((decide (Qy g.Cells i=35)) == (decide (Qy f i=35))))=true:=hg32_4
   refine oD Y Y hg32_4 Y (oD Y Y hg32_4 Y (oD Y Y hg32_4 Y (oD Y Y hg32_4 Y (oD Y Y hg32_4 Y (uD Y Y Y (uD Y Y Y (uD Y Y Y (uD Y Y Y (oD Y Y hg32_4 Y (oD Y Y hg32_4 Y (uD Y Y Y ?_)))))))))))
   refine uD Y Y Y (uD Y Y Y (uD Y Y Y (uD Y Y Y (oD Y Y hg32_4 Y (fD (OF.pickT (VEv.tmpB Y hg32_4) (VEv.bool true)) Y Y (VRunD.nil (tn (ct Y (sr (fO (OF.assign (VEv.bool false)) (nt ?_)))))))))))
   refine rt (vinB.r (tr (tr (vinB.r (tr (vb (b':=false) Y ?_))))))
   (symm;rw [decide_eq_false_iff_not];rintro ⟨g1,g2,g3⟩;(have g4:=g3 i fhc1;unfold ZM at g4;simp only [Qmk,decide_eq_true_eq,decide_eq_false_iff_not,Classical.not_not] at *;omega))
  have fhg32_4:(!((decide (Qy g.Cells i=35)) == (decide (Qy f i=35))))=false:=hg32_4
  refine VRunD.free Y (VWant.on Y Y hg32_4) Y (OF.move (tv (tS f) Y)) (VRunD.free Y (VWant.on Y Y hg32_4) Y (OF.move (tv (tN i) Y)) ?_)
  have hb5:i<f.size:=(by omega)
  refine VRunD.free Y (VWant.on Y Y hg32_4) Y (xix (tv (tS f) Y) (tv (tN i) Y) hb5 U9) (VRunD.free Y (VWant.on Y Y hg32_4) Y (xne (tv (T.int .u8 (Qy f i)) Y) (VEv.int .u8 35)) (VRunD.free Y (VWant.on Y Y hg32_4) Y (OF.move (tv (tB (!(decide (Qy f i=35)))) Y)) ?_))
  refine gn (Qy f i=35) (fun fhg37_6=> ?_) fun fhg37_6=> ?_
  ·refine VRunD.free Y (VWant.on Y Y (ny fhg37_6)) Y (OF.move (tv (tS f) Y)) ?_
   refine VRunD.free Y (VWant.on Y Y (ny fhg37_6)) Y (OF.move (tv (tN i) Y)) ?_
   have hb7:i<f.size:=(by omega)
   refine VRunD.free Y (VWant.on Y Y (ny fhg37_6)) Y (xix (tv (tS f) Y) (tv (tN i) Y) hb7 U9) (VRunD.free Y (VWant.on Y Y (ny fhg37_6)) Y (xne (tv (T.int .u8 (Qy f i)) Y) (VEv.int .u8 63)) (VRunD.free Y (VWant.on Y Y hg32_4) Y (OF.pickT (VEv.tmpB Y (ny fhg37_6)) (tv (tB (!(decide (Qy f i=63)))) Y)) (VRunD.free Y (VWant.on Y Y hg32_4) Y (OF.move (tv (tB (!(decide (Qy f i=63)))) Y)) ?_)))
   refine gn (Qy f i=63) (fun fhg43_8=> ?_) fun fhg43_8=> ?_
   ·refine VRunD.free Y (VWant.on Y Y (ny fhg43_8)) Y (OF.move (tv (tS f) Y)) ?_
    refine VRunD.free Y (VWant.on Y Y (ny fhg43_8)) Y (OF.move (tv (tN i) Y)) ?_
    have hb9:i<f.size:=(by omega)
    refine VRunD.free Y (VWant.on Y Y (ny fhg43_8)) Y (xix (tv (tS f) Y) (tv (tN i) Y) hb9 U9) (VRunD.quiet (bi:= [22,20,18,17,16,19,14,11,9,7,6,5,8,3,2,0,1,4,10,12,13,15,21,23,24]) Y (VWant.on Y Y (ny fhg43_8)) Y Y Y bn (cS (vc (tv (T.int .u8 (Qy f i)) Y) vn) (Zg Y) (JT (n+1) (Qy f i)) Y Y) (VRunD.free Y (VWant.on Y Y (ny fhg43_8)) Y (QU (tv (tB (decide (97≤(Qy f i)∧(Qy f i)≤122))) Y)) (VRunD.free Y (VWant.on Y Y hg32_4) Y (OF.pickT (VEv.tmpB Y (ny fhg43_8)) (tv (tB (!(decide (97≤(Qy f i)∧(Qy f i)≤122)))) Y)) (fD (OF.pickF (VEv.tmpB Y hg32_4) (tv (tB (!(decide (97≤(Qy f i)∧(Qy f i)≤122)))) Y)) Y Y (VRunD.nil (tn ?_))))))
    refine cn (97≤(Qy f i)∧(Qy f i)≤122) Y (fun fhc2=> ?_) fun fhc2=> ?_
    ·refine sr ?_
     refine fO (OF.assign (VEv.bool false)) (nt (rt (vinB.r (tr (tr (vinB.r (tr (vb (b':=false) Y ?_))))))))
     (symm;rw [decide_eq_false_iff_not];rintro ⟨g1,g2,g3⟩;(have g4:=g3 i fhc1;unfold ZM at g4;simp only [Qmk,decide_eq_true_eq,decide_eq_false_iff_not,Classical.not_not] at *;omega))
    refine sk (vinB.n (tn (VRun.region (fO (QB (tv (tN i) Y) (VEv.int .i64 1) (by omega)) (mO (tN (i+1)) Y (VRunO.nil (tn ?_)))))))
    refine ⟨(i+1:Nat),?_,?_,Wk.mk (fun k=>k) ?_ ?_ ?_⟩
    ·refine Zb hI' fhc1 ?_;unfold ZM;simp only [Qmk,decide_eq_true_eq,decide_eq_false_iff_not,Classical.not_not] at *;omega
    ·omega
    ·exact (b2 (b2 (b2 (b2 bn))))
    ·exact (b3 bn)
    ·exact nd Y
   refine oD Y Y (nz fhg43_8) Y (oD Y Y (nz fhg43_8) Y (oD Y Y (nz fhg43_8) Y (oD Y Y (nz fhg43_8) Y (oD Y Y (nz fhg43_8) Y (VRunD.free Y (VWant.on Y Y hg32_4) Y (OF.pickF (VEv.tmpB Y (nz fhg43_8)) (VEv.bool false)) (fD (OF.pickF (VEv.tmpB Y hg32_4) (tv (tB false) Y)) Y Y (VRunD.nil (tn (cf Y (sk (vinB.n ?_)))))))))))
   refine tn (VRun.region (fO (QB (tv (tN i) Y) (VEv.int .i64 1) (by omega)) (mO (tN (i+1)) Y (VRunO.nil (tn ?_)))))
   refine ⟨(i+1:Nat),?_,?_,Wk.mk (fun k=>k) ?_ ?_ ?_⟩
   ·refine Zb hI' fhc1 ?_;unfold ZM;simp only [Qmk,decide_eq_true_eq,decide_eq_false_iff_not,Classical.not_not] at *;omega
   ·omega
   ·exact (b2 (b2 (b2 (b2 bn))))
   ·exact (b3 bn)
   ·exact nd Y
  refine oD Y Y (nz fhg37_6) Y (oD Y Y (nz fhg37_6) Y (oD Y Y (nz fhg37_6) Y (oD Y Y (nz fhg37_6) Y (VRunD.free Y (VWant.on Y Y hg32_4) Y (OF.pickF (VEv.tmpB Y (nz fhg37_6)) (VEv.bool false)) (VRunD.free Y (VWant.on Y Y hg32_4) Y (OF.move (tv (tB false) Y)) (VRunD.off Y (VWant.not (b:=false) Y Y Y) (VRunD.off Y (VWant.not (b:=false) Y Y Y) (VRunD.off Y (VWant.not (b:=false) Y Y Y) (VRunD.off Y (VWant.not (b:=false) Y Y Y) (VRunD.off Y (VWant.not (b:=false) Y Y Y) (VRunD.free Y (VWant.on Y Y hg32_4) Y (OF.pickF (tv (tB false) Y) (VEv.bool false)) ?_)))))))))))
  refine fD (OF.pickF (VEv.tmpB Y hg32_4) (tv (tB false) Y)) Y Y (VRunD.nil (tn (cf Y (sk (vinB.n (tn (VRun.region (fO (QB (tv (tN i) Y) (VEv.int .i64 1) (by omega)) (mO (tN (i+1)) Y (VRunO.nil (tn ?_)))))))))))
  refine ⟨(i+1:Nat),?_,?_,Wk.mk (fun k=>k) ?_ ?_ ?_⟩
  ·refine Zb hI' fhc1 ?_;unfold ZM;simp only [Qmk,decide_eq_true_eq,decide_eq_false_iff_not,Classical.not_not] at *;omega
  ·omega
  ·exact (b2 (b2 (b2 (b2 bn))))
  ·exact (b3 bn)
  ·exact nd Y
 refine VRun.exit (vthn.e (vthn.e (vinB.e (tn (sr (fO (OF.assign (VEv.bool true)) (nt (rt (vb (b':=true) Y ?_)))))))))
 (symm;rw [decide_eq_true_eq];refine ⟨?_,?_,Qa4 hI' fhc1⟩<;>assumption)
theorem QfF (n:Nat) (g:D.Grid) (c:Int) (hc:g.Cells.size≤maxLen):Pure (Qo Tryz.prog (n+3)) 140 [(T.agg (Qc false g)),(tI c)] (tB (decide (gridOk g∧(0≤c∧c≤((g.Cells.size:Nat):Int) - 1)∧Qy g.Cells (Int.toNat c)=46))):=by
 refine Pure.intro (rs:= [ResultVar.tmp 4]) Tryz.func140 Y Y Y (E0:= [(0,(T.agg (Qc false g))),(1,(tI c))]) Y ?_
 obtain ⟨hlim,hmx,hmax⟩:=Qz
 refine sr (kO (B.box (ts:=(Qc false g)) (tv (T.agg (Qc false g)) Y) nofun Y) (fO (OF.assign (VEv.bool false)) (nt (sr (lO (OL.loadOn (us:=(Qc false g)) (tv (T.op 0 0) Y) Y Q6 Q0 (lb Y) Y) (cO (cS (vc (tv (T.agg (Qc false g)) Y) vn) (LendL.cons (lg Qx) ln) (Z7 (n+0) g (by assumption)) Y Y) (mO (tB (decide (gridOk g))) Y ?_)))))))
 refine gw (gridOk g) (fun fhg7_1=> ?_) fun fhg7_1=> ?_
 ·refine gF (dy fhg7_1) Y Y (OF.move (tv (tI c) Y)) ?_
  refine Yk (tS g.Cells) (dy fhg7_1) Y Y Y Y QL Y Y ZG (gL (dy fhg7_1) Y Y (B.lenS (tv (tS g.Cells) Y) U9) (gF (dy fhg7_1) Y Y (B.sub (n:=(((g.Cells.size:Nat):Int) - 1)) (tv (tN g.Cells.size) Y) (VEv.int .i64 1) (by (rw [Qs (by omega)];done))) (VRunO.chain (VWant.on Y Y (dy fhg7_1)) (cS (vc (tv (tI c) Y) (vc (VEv.int .i64 0) (vc (tv (tI (((g.Cells.size:Nat):Int) - 1)) Y) vn))) (Zg Y) (Q2 (n+1) c 0 (((g.Cells.size:Nat):Int) - 1)) Y Y) (fO (OF.pickT (VEv.tmpB Y (dy fhg7_1)) (tv (tB (decide (0≤c∧c≤(((g.Cells.size:Nat):Int) - 1)))) Y)) (mO (tB (decide (0≤c∧c≤(((g.Cells.size:Nat):Int) - 1)))) Y ?_)))))
  refine gw (0≤c∧c≤(((g.Cells.size:Nat):Int) - 1)) (fun fhg15_2=> ?_) fun fhg15_2=> ?_
  ·refine Yk (tS g.Cells) (dy fhg15_2) Y Y Y Y QL Y Y ZG ?_
   refine gF (dy fhg15_2) Y Y (OF.move (tv (tI c) Y)) ?_
   have hb3:(Int.toNat c)<g.Cells.size:=(by omega)
   refine gF (dy fhg15_2) Y Y (B.index (n:=(Qy g.Cells (Int.toNat c))) (i:=(Int.toNat c)) (tv (tS g.Cells) Y) (tv (tI c) Y) (by omega) hb3 U9 (YZ hb3)) (gF (dy fhg15_2) Y Y (Yn (tv (T.int .u8 (Qy g.Cells (Int.toNat c))) Y) (VEv.int .u8 46)) (fO (OF.pickT (VEv.tmpB Y (dy fhg15_2)) (tv (tB (decide (Qy g.Cells (Int.toNat c)=46))) Y)) (aO (tB (decide (Qy g.Cells (Int.toNat c)=46))) Y (nt (rt (vb (b':=(decide (Qy g.Cells (Int.toNat c)=46))) Y ?_))))))
   (refine Qt ⟨fun h=>⟨?_,?_,h⟩,fun h=>h.2.2⟩<;>assumption)
  refine QD 5 10 true 15 (dz fhg15_2) Y Y Y (fO (OF.pickF (VEv.tmpB Y (dz fhg15_2)) (VEv.bool false)) (aO (tB false) Y (nt (rt (vb (b':=false) Y ?_)))))
  (symm;rw [decide_eq_false_iff_not];rintro ⟨g1,g2,g3⟩;contradiction)
 refine QD 6 2 true 7 (dz fhg7_1) Y Y Y (fO (OF.pickF (VEv.tmpB Y (dz fhg7_1)) (VEv.bool false)) (mO (tB false) Y (QD 5 10 true 15 (b:=false) Y Y Y Y (fO (OF.pickF (tv (tB false) Y) (VEv.bool false)) (aO (tB false) Y (nt (rt (vb (b':=false) Y ?_))))))))
 (symm;rw [decide_eq_false_iff_not];rintro ⟨g1,g2,g3⟩;contradiction)
theorem QhB (n:Nat) (l:List Int) (v:Int) (hl:l.length≤Zk):Pure (Qo Tryz.prog (n+1)) 169 [(rd 1 Qe l),(tI v)] (tB (decide (v∈l))):=by
 refine Pure.intro (rs:= [ResultVar.tmp 4]) Tryz.func169 Y Y Y (E0:= [(0,(rd 1 Qe l)),(1,(tI v))]) Y ?_
 obtain ⟨hlim,hmx,hmax⟩:=Qz
 refine sr (fO (OF.assign (VEv.bool false)) (nt (sq (sr (fO (OF.assign (VEv.int .i64 0)) (nt (VRun.block ?_)))))))
 refine VRun.loop (A:=Nat) (fun s_=> [(0,(rd 1 Qe l)),(1,(tI v)),(5,(tN s_))]) (fun s_=>QV []) 0 (fun s_=>NoneTo (fun y=>y=v) l s_) (fun s_=>l.length - s_) (0:Nat) ?_ (Wk.mk (fun k=>k) ?_ ?_ ?_) ?_
 ·exact NoneTo.start _ _
 ·exact (b2 (b2 (b2 bn)))
 ·exact bn
 ·exact nd Y
 rintro i (hI':NoneTo (fun y=>y=v) l i)
 show VRun _ _ _ [(0,(rd 1 Qe l)),(1,(tI v)),(5,(tN i))] (QV []) 0 _
 have hI1:=hI'.1
 refine sq (sr (mO (tN i) Y (mO (rd 1 Qe l) Y (lO (B.lenR (m:=l.length) (tv (rd 1 Qe l) Y) Yi (List.length_map ..)) (fO (Q9 (tv (tN i) Y) (tv (tN l.length) Y)) (nt ?_))))))
 refine cd (i<l.length) Y (fun fhc0=> ?_) fun fhc0=> ?_
 ·refine sk ?_
  refine tn (sq (VRun.block (sr (mO (rd 1 Qe l) Y (mO (tN i) Y ?_)))))
  obtain ⟨x1,hx1⟩:∃x,l[i]? =some x:=⟨_,List.getElem?_eq_getElem (by omega)⟩
  refine fO (OF.indexAddrR (row:=(Qe false x1)) (i:=i) (tv (rd 1 Qe l) Y) (tv (tN i) Y) Y (Qu _ hx1) Yi ZJ Y8) (lO (OL.loadR1 (t:=(tI x1)) (tv (T.rp [(tI x1)]) Y) Y QS) (mO (tI v) Y (fO (Yn (tv (tI x1) Y) (tv (tI v) Y)) (nt ?_))))
  refine cd (x1=v) Y (fun fhc1=> ?_) fun fhc1=> ?_
  ·refine sr ?_
   refine fO (OF.assign (VEv.bool true)) (nt (rt (vinB.r (tr (tr (vinB.r (tr (vb (b':=true) Y ?_))))))))
   symm;rw [decide_eq_true_eq,← fhc1];exact List.mem_of_getElem? hx1
  refine sk (vinB.n (tn (VRun.region (mO (tN i) Y (fO (QB (tv (tN i) Y) (VEv.int .i64 1) (by omega)) (aO (tN (i+1)) Y (VRunO.nil (tn ?_))))))))
  refine ⟨(i+1:Nat),?_,?_,Wk.mk (fun k=>k) ?_ ?_ ?_⟩
  ·exact hI'.next hx1 fhc1
  ·omega
  ·exact (b2 (b2 (b2 bn)))
  ·exact bn
  ·exact nd Y
 refine VRun.exit (vthn.e (vthn.e (vinB.e (tn (sr (fO (OF.assign (VEv.bool false)) (nt (rt (vb (b':=false) Y ?_)))))))))
 symm;rw [decide_eq_false_iff_not];intro h;exact hI'.mem fhc0 v h Y
theorem Qbi (n:Nat) (a:List Int) (b:Int) (ha:a.length≤Zk):Pure (Qo Tryz.prog (n+1)) 177 [(rd 1 Qe a),(tI b)] (tI (ixF (fun y=>b=y) a)):=by
 refine Pure.intro (rs:= [ResultVar.tmp 4]) Tryz.func177 Y Y Y (E0:= [(0,(rd 1 Qe a)),(1,(tI b))]) Y ?_
 obtain ⟨hlim,hmx,hmax⟩:=Qz
 refine sr (fO (OF.assign (VEv.int .i64 0)) (nt (sq (sr (mO (rd 1 Qe a) Y (lO (B.lenR (m:=a.length) (tv (rd 1 Qe a) Y) Yi (List.length_map ..)) (fO (OF.move (VEv.int .i64 0)) (nt (VRun.block ?_)))))))))
 refine VRun.loop (A:=Nat) (fun s_=> [(0,(rd 1 Qe a)),(1,(tI b)),(7,(tN a.length)),(8,(tN s_))]) (fun s_=>QV []) 0 (fun s_=>NoneTo (fun y=>b=y) a s_) (fun s_=>a.length - s_) (0:Nat) ?_ (Wk.mk (fun k=>k) ?_ ?_ ?_) ?_
 ·exact NoneTo.start _ _
 ·exact (b2 (b2 (b2 (b2 bn))))
 ·exact bn
 ·exact nd Y
 rintro i (hI':NoneTo (fun y=>b=y) a i)
 show VRun _ _ _ [(0,(rd 1 Qe a)),(1,(tI b)),(7,(tN a.length)),(8,(tN i))] (QV []) 0 _
 have hI1:=hI'.1
 refine sr (fO (Q9 (tv (tN i) Y) (tv (tN a.length) Y)) (nt (sq ?_)))
 refine cd (i<a.length) Y (fun fhc0=> ?_) fun fhc0=> ?_
 ·refine sk ?_
  refine tn (sq (VRun.block (sr (mO (tN i) Y (aO (tN i) Y (nt (sr (mO (tI b) Y (mO (rd 1 Qe a) Y (mO (tN i) Y ?_))))))))))
  obtain ⟨x1,hx1⟩:∃x,a[i]? =some x:=⟨_,List.getElem?_eq_getElem (by omega)⟩
  refine fO (OF.indexAddrR (row:=(Qe false x1)) (i:=i) (tv (rd 1 Qe a) Y) (tv (tN i) Y) Y (Qu _ hx1) Yi ZJ Y8) (lO (OL.loadR1 (t:=(tI x1)) (tv (T.rp [(tI x1)]) Y) Y QS) (fO (Yn (tv (tI b) Y) (tv (tI x1) Y)) (nt ?_)))
  refine cd (b=x1) Y (fun fhc1=> ?_) fun fhc1=> ?_
  ·refine sr ?_
   refine mO (tN i) Y (aO (tN i) Y (nt (rt (vinB.r (tr (tr (vinB.r (tr (vi (n':=((i:Nat):Int)) Y ?_)))))))))
   exact (Qbo hx1 fhc1 hI'.2).symm
  refine sk (vinB.n (tn (VRun.region (fO (QB (tv (tN i) Y) (VEv.int .i64 1) (by omega)) (mO (tN (i+1)) Y (VRunO.nil (tn ?_)))))))
  refine ⟨(i+1:Nat),?_,?_,Wk.mk (fun k=>k) ?_ ?_ ?_⟩
  ·exact hI'.next hx1 fhc1
  ·omega
  ·exact (b2 (b2 (b2 (b2 bn))))
  ·exact bn
  ·exact nd Y
 refine VRun.exit (vthn.e (vthn.e (vinB.e (tn (sr (fO (OF.assign (VEv.int .i64 (-1))) (nt (rt (vi (n':=(-1)) Y ?_)))))))))
 exact (QbS (hI'.all fhc0)).symm
theorem Qan (n:Nat) (a:List Int) (b:Int) (ha:a.length≤Zk):Pure (Qo Tryz.prog (n+2)) 175 [(rd 1 Qe a),(tI b)] (tB (decide (b∈a))):=by
 refine Pure.intro (rs:= [ResultVar.tmp 4]) Tryz.func175 Y Y Y (E0:= [(0,(rd 1 Qe a)),(1,(tI b))]) Y ?_
 obtain ⟨hlim,hmx,hmax⟩:=Qz
 refine sr (fO (OF.assign (VEv.bool false)) (nt (sr (mO (rd 1 Qe a) Y (mO (tI b) Y (cO (cS (vc (tv (rd 1 Qe a) Y) (vc (tv (tI b) Y) vn)) (Zg Y) (Qbi (n+0) a b (by assumption)) Y Y) (fO (xge (tv (tI (ixF (fun y=>b=y) a)) Y) (VEv.int .i64 0)) (aO (tB (decide (0≤ixF (fun y=>b=y) a))) Y (nt (rt (vb (b':=(decide (0≤ixF (fun y=>b=y) a))) Y ?_)))))))))))
 refine Qt ?_
 rw [Qfy]
 exact ⟨fun ⟨x,h1,h2⟩=>h2▸h1,fun h=>⟨b,h,rfl⟩⟩
noncomputable section
def QaV (ok:Nat→Prop) [DecidablePred ok]:Nat→Nat→Nat
 | 0,n=>n
 | f+1,n=>if ok n then QaV ok f (n+1) else n
theorem Qhk {ok:Nat→Prop} [DecidablePred ok] {n:Nat} (h:ok n) (hn:n<6):QaV ok (6 - n) n=QaV ok (6 - (n+1)) (n+1):=by
 obtain ⟨k,hk⟩:∃k,6 - n=k+1:=⟨5 - n,by omega⟩
 rw [hk,show 6 - (n+1)=k by omega]
 simp only [QaV,if_pos h]
theorem Qjh {ok:Nat→Prop} [DecidablePred ok] {n f:Nat} (h:¬ok n):QaV ok f n=n:=by
 cases f with
 | zero=>rfl
 | succ f=>simp only [QaV,if_neg h]
def slA (g:D.Grid) (cell n:Nat):Prop:=((cell % g.Cols.toNat+n:Nat):Int)<g.Cols∧Qy g.Cells (cell+n*1)=46
def slD (g:D.Grid) (cell n:Nat):Prop:=((cell / g.Cols.toNat+n:Nat):Int)<g.Rows∧Qy g.Cells (Int.toNat (((cell:Nat):Int)+((n:Nat):Int)*g.Cols))=46
instance (g:D.Grid) (cell:Nat):DecidablePred (slA g cell):=fun _=>Classical.propDecidable _
instance (g:D.Grid) (cell:Nat):DecidablePred (slD g cell):=fun _=>Classical.propDecidable _
def Qhp (g:D.Grid) (cell:Nat):Nat:=if Qy g.Cells cell=46∧¬(0<cell % g.Cols.toNat∧Qy g.Cells (Int.toNat (((cell:Nat):Int) - 1))=46) then QaV (slA g cell) 6 0 else 0
def Qg8 (g:D.Grid) (cell:Nat):Nat:=if Qy g.Cells cell=46∧¬(0<cell / g.Cols.toNat∧Qy g.Cells (Int.toNat (((cell:Nat):Int) - g.Cols))=46) then QaV (slD g cell) 6 0 else 0
def Qr (g:D.Grid) (cell:Nat) (down:Bool):Nat:=if down=true then Qg8 g cell else Qhp g cell
theorem Qm7 {c:Nat} {w:Int} (h:2≤w):((c:Nat):Int).tmod w=((c % w.toNat:Nat):Int):=by
 obtain ⟨k,rfl⟩:=Int.eq_ofNat_of_zero_le (show 0≤w by omega)
 rfl
theorem QnS {c:Nat} {w:Int} (h:2≤w) (hc:c≤36):IntKind.i64.wrap (((c:Nat):Int).tdiv w)=((c / w.toNat:Nat):Int):=by
 obtain ⟨k,rfl⟩:=Int.eq_ofNat_of_zero_le (show 0≤w by omega)
 have:c / k≤c:=Nat.div_le_self _ _
 show IntKind.i64.wrap ((c / k:Nat):Int)=((c / k:Nat):Int)
 generalize c / k=q at *
 rw [Qs (by omega)]
theorem Qfg {n:Nat} {c:Int} (h:n≤6) (h2:2≤c) (h3:c≤6):0≤((n:Nat):Int)*c∧((n:Nat):Int)*c≤36:=by
 have e1:0≤((n:Nat):Int)*c:=Int.mul_nonneg (by omega) (by omega)
 have e2:((n:Nat):Int)*c≤6*6:=Int.mul_le_mul (by omega) h3 (by omega) (by decide)
 omega
theorem Qhz {n:Nat} {c:Int} (h:n≤6) (h2:2≤c) (h3:c≤6):IntKind.i64.wrap (((n:Nat):Int)*c)=((n:Nat):Int)*c:=by
 have:=Qfg h h2 h3
 rw [Qs (by omega)]
theorem Qcn {g:D.Grid} {cell:Nat} (hg:gridOk g) (hc:cell<g.Cells.size):(cell % g.Cols.toNat<g.Cols.toNat∧cell / g.Cols.toNat<g.Rows.toNat)∧(0<cell % g.Cols.toNat→1≤cell)∧(0<cell / g.Cols.toNat→g.Cols.toNat≤cell)∧(∀n:Nat,((cell % g.Cols.toNat+n:Nat):Int)<g.Cols→cell+n<g.Cells.size)∧∀n:Nat,((cell / g.Cols.toNat+n:Nat):Int)<g.Rows→((cell:Nat):Int)+((n:Nat):Int)*g.Cols<g.Cells.size:=by
 obtain ⟨⟨a1,a2⟩,⟨b1,b2⟩,hs,_⟩:=hg
 obtain ⟨w,hw⟩:=Int.eq_ofNat_of_zero_le (show 0≤g.Cols by omega)
 obtain ⟨r,hr⟩:=Int.eq_ofNat_of_zero_le (show 0≤g.Rows by omega)
 have hs2:g.Cells.size=r*w:=by rw [hw,hr] at hs;exact_mod_cast hs
 have hw0:0<w:=by omega
 have hwn:g.Cols.toNat=w:=by omega
 have hrn:g.Rows.toNat=r:=by omega
 rw [hwn,hrn]
 have h1:cell % w<w:=Nat.mod_lt _ hw0
 have h2:cell / w<r:=(Nat.div_lt_iff_lt_mul hw0).2 (hs2▸hc)
 have h3:w*(cell / w)+cell % w=cell:=Nat.div_add_mod cell w
 have h4:∀k,k<r→w*k+w≤r*w:=fun k hk=>by
  have:=Nat.mul_le_mul_left w (show k+1≤r from hk)
  rw [Nat.mul_add,Nat.mul_one,Nat.mul_comm w r] at this
  exact this
 refine ⟨⟨h1,h2⟩,fun h=> ?_,fun h=> ?_,fun n hn=> ?_,fun n hn=> ?_⟩
 ·have:=Nat.mod_le cell w;omega
 ·have:=Nat.mul_le_mul_left w (show 1≤cell / w from h)
  rw [Nat.mul_one] at this
  generalize w*(cell / w)=q2 at *
  generalize cell % w=q3 at *
  omega
 ·have:=h4 _ h2
  generalize w*(cell / w)=q2 at *
  generalize cell % w=q3 at *
  omega
 ·have h5:=h4 (cell / w+n) (by omega)
  rw [Nat.mul_add] at h5
  have h6:((n:Nat):Int)*g.Cols=((w*n:Nat):Int):=by rw [hw,Int.mul_comm];rfl
  rw [h6]
  generalize w*n=q at *
  generalize w*(cell / w)=q2 at *
  generalize cell % w=q3 at *
  omega
theorem QjT {g:D.Grid} {cell:Nat} (h:¬Qy g.Cells cell=46∨(0<cell % g.Cols.toNat∧Qy g.Cells (Int.toNat (((cell:Nat):Int) - 1))=46)):Qhp g cell=0:=if_neg (by omega)
theorem QjX {g:D.Grid} {cell:Nat} (h:¬Qy g.Cells cell=46∨(0<cell / g.Cols.toNat∧Qy g.Cells (Int.toNat (((cell:Nat):Int) - g.Cols))=46)):Qg8 g cell=0:=if_neg (by omega)
theorem QkW {g:D.Grid} {cell n:Nat} (h:Qy g.Cells cell=46∧¬(0<cell % g.Cols.toNat∧Qy g.Cells (Int.toNat (((cell:Nat):Int) - 1))=46)) (hr:QaV (slA g cell) 6 0=QaV (slA g cell) (6 - n) n) (hn:¬slA g cell n):Qhp g cell=n:=by
 rw [Qhp,if_pos h,hr,Qjh hn]
theorem Qlb {g:D.Grid} {cell n:Nat} (h:Qy g.Cells cell=46∧¬(0<cell / g.Cols.toNat∧Qy g.Cells (Int.toNat (((cell:Nat):Int) - g.Cols))=46)) (hr:QaV (slD g cell) 6 0=QaV (slD g cell) (6 - n) n) (hn:¬slD g cell n):Qg8 g cell=n:=by
 rw [Qg8,if_pos h,hr,Qjh hn]
theorem zD {g:D.Grid} {cell:Nat} {down:Bool} (hd:down=true) (h:¬Qy g.Cells cell=46∨(0<cell / g.Cols.toNat∧Qy g.Cells (Int.toNat (((cell:Nat):Int) - g.Cols))=46)):(0:Int)=((Qr g cell down:Nat):Int):=by
 rw [Qr,if_pos hd,QjX h];rfl
theorem zA {g:D.Grid} {cell:Nat} {down:Bool} (hd:down=false) (h:¬Qy g.Cells cell=46∨(0<cell % g.Cols.toNat∧Qy g.Cells (Int.toNat (((cell:Nat):Int) - 1))=46)):(0:Int)=((Qr g cell down:Nat):Int):=by
 rw [Qr,if_neg (by simp [hd]),QjT h];rfl
def Jl (g:D.Grid) (cell:Nat) (down:Bool) (n:Nat):Prop:=if down=true then QaV (slD g cell) 6 0=QaV (slD g cell) (6 - n) n else QaV (slA g cell) 6 0=QaV (slA g cell) (6 - n) n
theorem Y4 (g:D.Grid) (cell:Nat) (down:Bool):Jl g cell down 0:=by
 unfold Jl
 split<;>rfl
theorem rD {g:D.Grid} {cell n:Nat} {down:Bool} (hd:down=true) (h:Qy g.Cells cell=46∧¬(0<cell / g.Cols.toNat∧Qy g.Cells (Int.toNat (((cell:Nat):Int) - g.Cols))=46)) (hr:Jl g cell down n) (hn:¬slD g cell n):((n:Nat):Int)=((Qr g cell down:Nat):Int):=by
 rw [Jl,if_pos hd] at hr
 rw [Qr,if_pos hd,Qlb h hr hn]
theorem rA {g:D.Grid} {cell n:Nat} {down:Bool} (hd:down=false) (h:Qy g.Cells cell=46∧¬(0<cell % g.Cols.toNat∧Qy g.Cells (Int.toNat (((cell:Nat):Int) - 1))=46)) (hr:Jl g cell down n) (hn:¬slA g cell n):((n:Nat):Int)=((Qr g cell down:Nat):Int):=by
 rw [Jl,if_neg (by simp [hd])] at hr
 rw [Qr,if_neg (by simp [hd]),QkW h hr hn]
theorem Qkk {g:D.Grid} {cell n:Nat} {down:Bool} (hd:down=true) (hr:Jl g cell down n) (hn:slD g cell n) (h6:n<6):Jl g cell down (n+1):=by
 rw [Jl,if_pos hd] at *
 rw [hr,Qhk hn h6]
theorem QkA {g:D.Grid} {cell n:Nat} {down:Bool} (hd:down=false) (hr:Jl g cell down n) (hn:slA g cell n) (h6:n<6):Jl g cell down (n+1):=by
 rw [Jl,if_neg (by simp [hd])] at *
 rw [hr,Qhk hn h6]
end
theorem Qcx (n:Nat) (g:D.Grid) (cell:Nat) (down:Bool) (hg:gridOk g) (hc:cell<g.Cells.size):Pure (Qo Tryz.prog (n+1)) 102 [(T.agg (Qc false g)),(tN cell),(tB down)] (tN (Qr g cell down)):=by
 refine Pure.intro (rs:= [ResultVar.tmp 6]) Tryz.func102 Y Y Y (E0:= [(0,(T.agg (Qc false g))),(1,(tN cell)),(2,(tB down))]) Y ?_
 obtain ⟨hlim,hmx,hmax⟩:=Qz
 have hsz:=hg.size
 have hA:=hg.1
 have hB:=hg.2.1
 obtain ⟨hC1,hC2,hC3,hC4,hC5⟩:=Qcn hg hc
 have hq0:0≤((cell:Nat):Int) / ((g.Cols.toNat:Nat):Int):=Int.ediv_nonneg (by omega) (by omega)
 have hm0:0≤((cell:Nat):Int) % ((g.Cols.toNat:Nat):Int):=Int.emod_nonneg _ (by omega)
 refine sr (kO (B.box (ts:=(Qc false g)) (tv (T.agg (Qc false g)) Y) nofun Y) (fO (OF.assign (VEv.int .i64 0)) (nt (sr (fO (OF.assign (VEv.int .i64 1)) (nt (sr (mO (tN cell) Y (lf (tI g.Cols) Y ZD Y Y QS (fO (B.rem (n:=((cell % g.Cols.toNat:Nat):Int)) (tv (tN cell) Y) (tv (tI g.Cols) Y) (by omega) (by (refine Qm7 ?_;omega))) (aO (tN (cell % g.Cols.toNat)) Y ?_)))))))))))
 refine nt (sr (lf (tI g.Cols) Y ZD Y Y QS (aO (tI g.Cols) Y (nt (sq (sr (mO (tB down) Y (nt ?_))))))))
 refine VRun.cond (tv (tB down) Y) (fun hc0=> ?_) (fun hc0=> ?_)
 ·have fhc0:down=true:=hc0
  refine sr (lf (tI g.Cols) Y ZD Y Y QS (aO (tI g.Cols) Y (nt (sr (mO (tN cell) Y (lf (tI g.Cols) Y ZD Y Y QS (fO (B.quo (n:=((cell / g.Cols.toNat:Nat):Int)) (tv (tN cell) Y) (tv (tI g.Cols) Y) (by omega) (by (refine QnS ?_ ?_<;>omega))) (aO (tN (cell / g.Cols.toNat)) Y (nt (VRun.region (lf (tI g.Rows) Y QaM Y Y QS ?_)))))))))))
  refine aO (tI g.Rows) Y (VRunO.nil (tn (sq (sr (lf (tS g.Cells) Y QL Y Y ZG (mO (tN cell) Y ?_))))))
  have hb1:cell<g.Cells.size:=(by omega)
  refine fO (xix (tv (tS g.Cells) Y) (tv (tN cell) Y) hb1 U9) (fO (xne (tv (T.int .u8 (Qy g.Cells cell)) Y) (VEv.int .u8 46)) (mO (tB (!(decide (Qy g.Cells cell=46)))) Y ?_))
  refine gn (Qy g.Cells cell=46) (fun fhg31_2=> ?_) fun fhg31_2=> ?_
  ·refine QD 3 5 false 31 (ny fhg31_2) Y Y Y ?_
   refine QaX 7 8 true 34 Y Y Y (oO Y Y (ny fhg31_2) (fO (OF.pickT (VEv.tmpB Y (ny fhg31_2)) (VEv.bool true)) (nt (ct Y (sr (fO (OF.assign (VEv.int .i64 0)) (nt (rt (tr (vi (n':=0) Y ?_))))))))))
   (refine zD fhc0 ?_;omega)
  refine gF (nz fhg31_2) Y Y (OF.move (tv (tN (cell / g.Cols.toNat)) Y)) (gF (nz fhg31_2) Y Y (B.gtr (c:=(decide (0<cell / g.Cols.toNat))) (tv (tN (cell / g.Cols.toNat)) Y) (VEv.int .i64 0) (by exact Qt (by omega))) (gF (nz fhg31_2) Y Y (OF.move (tv (tB (decide (0<cell / g.Cols.toNat))) Y)) ?_))
  refine gw (0<cell / g.Cols.toNat) (fun fhg34_3=> ?_) fun fhg34_3=> ?_
  ·refine Yk (tS g.Cells) (dy fhg34_3) Y Y Y Y QL Y Y ZG ?_
   refine gF (dy fhg34_3) Y Y (OF.move (tv (tN cell) Y)) (gF (dy fhg34_3) Y Y (OF.move (tv (tI g.Cols) Y)) (gF (dy fhg34_3) Y Y (B.sub (n:=(((cell:Nat):Int) - g.Cols)) (tv (tN cell) Y) (tv (tI g.Cols) Y) (by (rw [Qs (by omega)];done))) ?_))
   have hb4:(Int.toNat (((cell:Nat):Int) - g.Cols))<g.Cells.size:=(by omega)
   refine gF (dy fhg34_3) Y Y (B.index (n:=(Qy g.Cells (Int.toNat (((cell:Nat):Int) - g.Cols)))) (i:=(Int.toNat (((cell:Nat):Int) - g.Cols))) (tv (tS g.Cells) Y) (tv (tI (((cell:Nat):Int) - g.Cols)) Y) (by omega) hb4 U9 (YZ hb4)) (gF (dy fhg34_3) Y Y (Yn (tv (T.int .u8 (Qy g.Cells (Int.toNat (((cell:Nat):Int) - g.Cols)))) Y) (VEv.int .u8 46)) (gF (nz fhg31_2) Y Y (OF.pickT (VEv.tmpB Y (dy fhg34_3)) (tv (tB (decide (Qy g.Cells (Int.toNat (((cell:Nat):Int) - g.Cols))=46))) Y)) (fO (OF.pickF (VEv.tmpB Y (nz fhg31_2)) (tv (tB (decide (Qy g.Cells (Int.toNat (((cell:Nat):Int) - g.Cols))=46))) Y)) (nt ?_))))
   refine cd (Qy g.Cells (Int.toNat (((cell:Nat):Int) - g.Cols))=46) Y (fun fhc1=> ?_) fun fhc1=> ?_
   ·refine sr ?_
    refine fO (OF.assign (VEv.int .i64 0)) (nt (rt (tr (vi (n':=0) Y ?_))))
    (refine zD fhc0 ?_;omega)
   refine sk (tn (sr (fO (OF.assign (VEv.int .i64 0)) (nt (sq (VRun.block ?_))))))
   refine VRun.loop (A:=Nat) (fun s_=> [(1,(tN cell)),(3,(T.op 0 0)),(6,(tN 0)),(7,(tI g.Cols)),(8,(tN (cell / g.Cols.toNat))),(9,(tI g.Rows)),(10,(tN s_))]) (fun s_=>QV [(0,(Obj.cells (Qc false g)))]) 1 (fun s_=>s_≤6∧Jl g cell down s_) (fun s_=>6 - s_) (0:Nat) ?_ (Wk.mk (fun k=>k) ?_ ?_ ?_) ?_
   ·exact ⟨Nat.zero_le _,Y4 _ _ _⟩
   ·exact (b2 (b2 (b2 (b2 (b2 (b2 (b2 bn)))))))
   ·exact (b3 bn)
   ·exact nd Y
   rintro n (hI':n≤6∧Jl g cell down n)
   show VRun _ _ _ [(1,(tN cell)),(3,(T.op 0 0)),(6,(tN 0)),(7,(tI g.Cols)),(8,(tN (cell / g.Cols.toNat))),(9,(tI g.Rows)),(10,(tN n))] (QV [(0,(Obj.cells (Qc false g)))]) 1 _
   have hI1:=hI'.1
   have hN:=Qfg hI1 hB.1 hB.2
   have hC6:=hC4 n
   have hC7:=hC5 n
   refine sq (sr (mO (tN (cell / g.Cols.toNat)) Y (mO (tN n) Y (fO (B.add (n:=(((cell / g.Cols.toNat+n):Nat):Int)) (tv (tN (cell / g.Cols.toNat)) Y) (tv (tN n) Y) (by (rw [Qs (by omega)];omega))) (mO (tI g.Rows) Y (fO (xls (tv (tN (cell / g.Cols.toNat+n)) Y) (tv (tI g.Rows) Y)) (mO (tB (decide ((((cell / g.Cols.toNat+n):Nat):Int)<g.Rows))) Y ?_)))))))
   refine gw ((((cell / g.Cols.toNat+n):Nat):Int)<g.Rows) (fun fhg49_5=> ?_) fun fhg49_5=> ?_
   ·refine Yk (tS g.Cells) (dy fhg49_5) Y Y Y Y QL Y Y ZG ?_
    refine gF (dy fhg49_5) Y Y (OF.move (tv (tN cell) Y)) (gF (dy fhg49_5) Y Y (OF.move (tv (tN n) Y)) (gF (dy fhg49_5) Y Y (OF.move (tv (tI g.Cols) Y)) (gF (dy fhg49_5) Y Y (B.mul (n:=(((n:Nat):Int)*g.Cols)) (tv (tN n) Y) (tv (tI g.Cols) Y) (by (refine Qhz ?_ ?_ ?_<;>omega))) (gF (dy fhg49_5) Y Y (B.add (n:=(((cell:Nat):Int)+(((n:Nat):Int)*g.Cols))) (tv (tN cell) Y) (tv (tI (((n:Nat):Int)*g.Cols)) Y) (by (rw [Qs (by omega)];done))) ?_))))
    have hb6:(Int.toNat (((cell:Nat):Int)+(((n:Nat):Int)*g.Cols)))<g.Cells.size:=(by omega)
    refine gF (dy fhg49_5) Y Y (B.index (n:=(Qy g.Cells (Int.toNat (((cell:Nat):Int)+(((n:Nat):Int)*g.Cols))))) (i:=(Int.toNat (((cell:Nat):Int)+(((n:Nat):Int)*g.Cols)))) (tv (tS g.Cells) Y) (tv (tI (((cell:Nat):Int)+(((n:Nat):Int)*g.Cols))) Y) (by omega) hb6 U9 (YZ hb6)) (gF (dy fhg49_5) Y Y (Yn (tv (T.int .u8 (Qy g.Cells (Int.toNat (((cell:Nat):Int)+(((n:Nat):Int)*g.Cols))))) Y) (VEv.int .u8 46)) (fO (OF.pickT (VEv.tmpB Y (dy fhg49_5)) (tv (tB (decide (Qy g.Cells (Int.toNat (((cell:Nat):Int)+(((n:Nat):Int)*g.Cols)))=46))) Y)) (nt ?_)))
    refine cd (Qy g.Cells (Int.toNat (((cell:Nat):Int)+(((n:Nat):Int)*g.Cols)))=46) Y (fun fhc2=> ?_) fun fhc2=> ?_
    ·refine sk ?_
     refine tn (VRun.block (VRun.region (mO (tN n) Y (fO (QB (tv (tN n) Y) (VEv.int .i64 1) (by omega)) (aO (tN (n+1)) Y (VRunO.nil (vinB.n (tn ?_))))))))
     refine ⟨(n+1:Nat),?_,?_,Wk.mk (fun k=>k) ?_ ?_ ?_⟩
     ·(refine ⟨?_,Qkk fhc0 hI'.2 ?_ ?_⟩<;>first | omega | (unfold slD;omega))
     ·omega
     ·exact (b2 (b2 (b2 (b2 (b2 (b2 (b2 bn)))))))
     ·exact (b3 bn)
     ·exact nd Y
    refine VRun.exit (vthn.e (vthn.e (vinB.e (tn (sr (mO (tN n) Y (aO (tN n) Y (nt (rt (vi (n':=((n:Nat):Int)) Y ?_))))))))))
    (refine rD fhc0 ?_ hI'.2 ?_<;>first | omega | (unfold slD;omega))
   refine QD 9 5 true 49 (dz fhg49_5) Y Y Y (fO (OF.pickF (VEv.tmpB Y (dz fhg49_5)) (VEv.bool false)) (nt (cf Y (VRun.exit (vthn.e (vthn.e (vinB.e (tn (sr (mO (tN n) Y (aO (tN n) Y ?_)))))))))))
   refine nt (rt (vi (n':=((n:Nat):Int)) Y ?_))
   (refine rD fhc0 ?_ hI'.2 ?_<;>first | omega | (unfold slD;omega))
  refine QD 7 8 true 34 (dz fhg34_3) Y Y Y (gF (nz fhg31_2) Y Y (OF.pickF (VEv.tmpB Y (dz fhg34_3)) (VEv.bool false)) (fO (OF.pickF (VEv.tmpB Y (nz fhg31_2)) (tv (tB false) Y)) (nt (cf Y (sk (tn (sr (fO (OF.assign (VEv.int .i64 0)) (nt (sq (VRun.block ?_)))))))))))
  refine VRun.loop (A:=Nat) (fun s_=> [(1,(tN cell)),(3,(T.op 0 0)),(6,(tN 0)),(7,(tI g.Cols)),(8,(tN (cell / g.Cols.toNat))),(9,(tI g.Rows)),(10,(tN s_))]) (fun s_=>QV [(0,(Obj.cells (Qc false g)))]) 1 (fun s_=>s_≤6∧Jl g cell down s_) (fun s_=>6 - s_) (0:Nat) ?_ (Wk.mk (fun k=>k) ?_ ?_ ?_) ?_
  ·exact ⟨Nat.zero_le _,Y4 _ _ _⟩
  ·exact (b2 (b2 (b2 (b2 (b2 (b2 (b2 bn)))))))
  ·exact (b3 bn)
  ·exact nd Y
  rintro n (hI':n≤6∧Jl g cell down n)
  show VRun _ _ _ [(1,(tN cell)),(3,(T.op 0 0)),(6,(tN 0)),(7,(tI g.Cols)),(8,(tN (cell / g.Cols.toNat))),(9,(tI g.Rows)),(10,(tN n))] (QV [(0,(Obj.cells (Qc false g)))]) 1 _
  have hI1:=hI'.1
  have hN:=Qfg hI1 hB.1 hB.2
  have hC6:=hC4 n
  have hC7:=hC5 n
  refine sq (sr (mO (tN (cell / g.Cols.toNat)) Y (mO (tN n) Y (fO (B.add (n:=(((cell / g.Cols.toNat+n):Nat):Int)) (tv (tN (cell / g.Cols.toNat)) Y) (tv (tN n) Y) (by (rw [Qs (by omega)];omega))) (mO (tI g.Rows) Y (fO (xls (tv (tN (cell / g.Cols.toNat+n)) Y) (tv (tI g.Rows) Y)) (mO (tB (decide ((((cell / g.Cols.toNat+n):Nat):Int)<g.Rows))) Y ?_)))))))
  refine gw ((((cell / g.Cols.toNat+n):Nat):Int)<g.Rows) (fun fhg49_7=> ?_) fun fhg49_7=> ?_
  ·refine Yk (tS g.Cells) (dy fhg49_7) Y Y Y Y QL Y Y ZG ?_
   refine gF (dy fhg49_7) Y Y (OF.move (tv (tN cell) Y)) (gF (dy fhg49_7) Y Y (OF.move (tv (tN n) Y)) (gF (dy fhg49_7) Y Y (OF.move (tv (tI g.Cols) Y)) (gF (dy fhg49_7) Y Y (B.mul (n:=(((n:Nat):Int)*g.Cols)) (tv (tN n) Y) (tv (tI g.Cols) Y) (by (refine Qhz ?_ ?_ ?_<;>omega))) (gF (dy fhg49_7) Y Y (B.add (n:=(((cell:Nat):Int)+(((n:Nat):Int)*g.Cols))) (tv (tN cell) Y) (tv (tI (((n:Nat):Int)*g.Cols)) Y) (by (rw [Qs (by omega)];done))) ?_))))
   have hb8:(Int.toNat (((cell:Nat):Int)+(((n:Nat):Int)*g.Cols)))<g.Cells.size:=(by omega)
   refine gF (dy fhg49_7) Y Y (B.index (n:=(Qy g.Cells (Int.toNat (((cell:Nat):Int)+(((n:Nat):Int)*g.Cols))))) (i:=(Int.toNat (((cell:Nat):Int)+(((n:Nat):Int)*g.Cols)))) (tv (tS g.Cells) Y) (tv (tI (((cell:Nat):Int)+(((n:Nat):Int)*g.Cols))) Y) (by omega) hb8 U9 (YZ hb8)) (gF (dy fhg49_7) Y Y (Yn (tv (T.int .u8 (Qy g.Cells (Int.toNat (((cell:Nat):Int)+(((n:Nat):Int)*g.Cols))))) Y) (VEv.int .u8 46)) (fO (OF.pickT (VEv.tmpB Y (dy fhg49_7)) (tv (tB (decide (Qy g.Cells (Int.toNat (((cell:Nat):Int)+(((n:Nat):Int)*g.Cols)))=46))) Y)) (nt ?_)))
   refine cd (Qy g.Cells (Int.toNat (((cell:Nat):Int)+(((n:Nat):Int)*g.Cols)))=46) Y (fun fhc2=> ?_) fun fhc2=> ?_
   ·refine sk ?_
    refine tn (VRun.block (VRun.region (mO (tN n) Y (fO (QB (tv (tN n) Y) (VEv.int .i64 1) (by omega)) (aO (tN (n+1)) Y (VRunO.nil (vinB.n (tn ?_))))))))
    refine ⟨(n+1:Nat),?_,?_,Wk.mk (fun k=>k) ?_ ?_ ?_⟩
    ·(refine ⟨?_,Qkk fhc0 hI'.2 ?_ ?_⟩<;>first | omega | (unfold slD;omega))
    ·omega
    ·exact (b2 (b2 (b2 (b2 (b2 (b2 (b2 bn)))))))
    ·exact (b3 bn)
    ·exact nd Y
   refine VRun.exit (vthn.e (vthn.e (vinB.e (tn (sr (mO (tN n) Y (aO (tN n) Y (nt (rt (vi (n':=((n:Nat):Int)) Y ?_))))))))))
   (refine rD fhc0 ?_ hI'.2 ?_<;>first | omega | (unfold slD;omega))
  refine QD 9 5 true 49 (dz fhg49_7) Y Y Y (fO (OF.pickF (VEv.tmpB Y (dz fhg49_7)) (VEv.bool false)) (nt (cf Y (VRun.exit (vthn.e (vthn.e (vinB.e (tn (sr (mO (tN n) Y (aO (tN n) Y ?_)))))))))))
  refine nt (rt (vi (n':=((n:Nat):Int)) Y ?_))
  (refine rD fhc0 ?_ hI'.2 ?_<;>first | omega | (unfold slD;omega))
 have fhc0:down=false:=hc0
 refine sk (tn (sq (sr (lf (tS g.Cells) Y QL Y Y ZG (mO (tN cell) Y ?_)))))
 have hb9:cell<g.Cells.size:=(by omega)
 refine fO (xix (tv (tS g.Cells) Y) (tv (tN cell) Y) hb9 U9) (fO (xne (tv (T.int .u8 (Qy g.Cells cell)) Y) (VEv.int .u8 46)) (mO (tB (!(decide (Qy g.Cells cell=46)))) Y ?_))
 refine gn (Qy g.Cells cell=46) (fun fhg31_10=> ?_) fun fhg31_10=> ?_
 ·refine QD 3 5 false 31 (ny fhg31_10) Y Y Y ?_
  refine QaX 7 8 true 34 Y Y Y (oO Y Y (ny fhg31_10) (fO (OF.pickT (VEv.tmpB Y (ny fhg31_10)) (VEv.bool true)) (nt (ct Y (sr (fO (OF.assign (VEv.int .i64 0)) (nt (rt (tr (vi (n':=0) Y ?_))))))))))
  (refine zA fhc0 ?_;omega)
 refine gF (nz fhg31_10) Y Y (OF.move (tv (tN (cell % g.Cols.toNat)) Y)) (gF (nz fhg31_10) Y Y (B.gtr (c:=(decide (0<cell % g.Cols.toNat))) (tv (tN (cell % g.Cols.toNat)) Y) (VEv.int .i64 0) (by exact Qt (by omega))) (gF (nz fhg31_10) Y Y (OF.move (tv (tB (decide (0<cell % g.Cols.toNat))) Y)) ?_))
 refine gw (0<cell % g.Cols.toNat) (fun fhg34_11=> ?_) fun fhg34_11=> ?_
 ·refine Yk (tS g.Cells) (dy fhg34_11) Y Y Y Y QL Y Y ZG ?_
  refine gF (dy fhg34_11) Y Y (OF.move (tv (tN cell) Y)) (gF (dy fhg34_11) Y Y (OF.move (tv (tN 1) Y)) (gF (dy fhg34_11) Y Y (B.sub (n:=(((cell:Nat):Int) - 1)) (tv (tN cell) Y) (tv (tN 1) Y) (by (rw [Qs (by omega)];omega))) ?_))
  have hb12:(Int.toNat (((cell:Nat):Int) - 1))<g.Cells.size:=(by omega)
  refine gF (dy fhg34_11) Y Y (B.index (n:=(Qy g.Cells (Int.toNat (((cell:Nat):Int) - 1)))) (i:=(Int.toNat (((cell:Nat):Int) - 1))) (tv (tS g.Cells) Y) (tv (tI (((cell:Nat):Int) - 1)) Y) (by omega) hb12 U9 (YZ hb12)) (gF (dy fhg34_11) Y Y (Yn (tv (T.int .u8 (Qy g.Cells (Int.toNat (((cell:Nat):Int) - 1)))) Y) (VEv.int .u8 46)) (gF (nz fhg31_10) Y Y (OF.pickT (VEv.tmpB Y (dy fhg34_11)) (tv (tB (decide (Qy g.Cells (Int.toNat (((cell:Nat):Int) - 1))=46))) Y)) (fO (OF.pickF (VEv.tmpB Y (nz fhg31_10)) (tv (tB (decide (Qy g.Cells (Int.toNat (((cell:Nat):Int) - 1))=46))) Y)) (nt ?_))))
  refine cd (Qy g.Cells (Int.toNat (((cell:Nat):Int) - 1))=46) Y (fun fhc1=> ?_) fun fhc1=> ?_
  ·refine sr ?_
   refine fO (OF.assign (VEv.int .i64 0)) (nt (rt (tr (vi (n':=0) Y ?_))))
   (refine zA fhc0 ?_;omega)
  refine sk (tn (sr (fO (OF.assign (VEv.int .i64 0)) (nt (sq (VRun.block ?_))))))
  refine VRun.loop (A:=Nat) (fun s_=> [(1,(tN cell)),(3,(T.op 0 0)),(6,(tN 0)),(7,(tN 1)),(8,(tN (cell % g.Cols.toNat))),(9,(tI g.Cols)),(10,(tN s_))]) (fun s_=>QV [(0,(Obj.cells (Qc false g)))]) 1 (fun s_=>s_≤6∧Jl g cell down s_) (fun s_=>6 - s_) (0:Nat) ?_ (Wk.mk (fun k=>k) ?_ ?_ ?_) ?_
  ·exact ⟨Nat.zero_le _,Y4 _ _ _⟩
  ·exact (b2 (b2 (b2 (b2 (b2 (b2 (b2 bn)))))))
  ·exact (b3 bn)
  ·exact nd Y
  rintro n (hI':n≤6∧Jl g cell down n)
  show VRun _ _ _ [(1,(tN cell)),(3,(T.op 0 0)),(6,(tN 0)),(7,(tN 1)),(8,(tN (cell % g.Cols.toNat))),(9,(tI g.Cols)),(10,(tN n))] (QV [(0,(Obj.cells (Qc false g)))]) 1 _
  have hI1:=hI'.1
  have hN:=Qfg hI1 hB.1 hB.2
  have hC6:=hC4 n
  have hC7:=hC5 n
  refine sq (sr (mO (tN (cell % g.Cols.toNat)) Y (mO (tN n) Y (fO (B.add (n:=(((cell % g.Cols.toNat+n):Nat):Int)) (tv (tN (cell % g.Cols.toNat)) Y) (tv (tN n) Y) (by (rw [Qs (by omega)];omega))) (mO (tI g.Cols) Y (fO (xls (tv (tN (cell % g.Cols.toNat+n)) Y) (tv (tI g.Cols) Y)) (mO (tB (decide ((((cell % g.Cols.toNat+n):Nat):Int)<g.Cols))) Y ?_)))))))
  refine gw ((((cell % g.Cols.toNat+n):Nat):Int)<g.Cols) (fun fhg49_13=> ?_) fun fhg49_13=> ?_
  ·refine Yk (tS g.Cells) (dy fhg49_13) Y Y Y Y QL Y Y ZG ?_
   refine gF (dy fhg49_13) Y Y (OF.move (tv (tN cell) Y)) (gF (dy fhg49_13) Y Y (OF.move (tv (tN n) Y)) (gF (dy fhg49_13) Y Y (OF.move (tv (tN 1) Y)) (gF (dy fhg49_13) Y Y (B.mul (n:=(((n*1):Nat):Int)) (tv (tN n) Y) (tv (tN 1) Y) (by (rw [Qs (by omega)];omega))) (gF (dy fhg49_13) Y Y (B.add (n:=(((cell+(n*1)):Nat):Int)) (tv (tN cell) Y) (tv (tN (n*1)) Y) (by (rw [Qs (by omega)];omega))) ?_))))
   have hb14:(cell+(n*1))<g.Cells.size:=(by omega)
   refine gF (dy fhg49_13) Y Y (xix (tv (tS g.Cells) Y) (tv (tN (cell+(n*1))) Y) hb14 U9) (gF (dy fhg49_13) Y Y (Yn (tv (T.int .u8 (Qy g.Cells (cell+(n*1)))) Y) (VEv.int .u8 46)) (fO (OF.pickT (VEv.tmpB Y (dy fhg49_13)) (tv (tB (decide (Qy g.Cells (cell+(n*1))=46))) Y)) (nt ?_)))
   refine cd (Qy g.Cells (cell+(n*1))=46) Y (fun fhc2=> ?_) fun fhc2=> ?_
   ·refine sk ?_
    refine tn (VRun.block (VRun.region (mO (tN n) Y (fO (QB (tv (tN n) Y) (VEv.int .i64 1) (by omega)) (aO (tN (n+1)) Y (VRunO.nil (vinB.n (tn ?_))))))))
    refine ⟨(n+1:Nat),?_,?_,Wk.mk (fun k=>k) ?_ ?_ ?_⟩
    ·(refine ⟨?_,QkA fhc0 hI'.2 ?_ ?_⟩<;>first | omega | (unfold slA;omega))
    ·omega
    ·exact (b2 (b2 (b2 (b2 (b2 (b2 (b2 bn)))))))
    ·exact (b3 bn)
    ·exact nd Y
   refine VRun.exit (vthn.e (vthn.e (vinB.e (tn (sr (mO (tN n) Y (aO (tN n) Y (nt (rt (vi (n':=((n:Nat):Int)) Y ?_))))))))))
   (refine rA fhc0 ?_ hI'.2 ?_<;>first | omega | (unfold slA;omega))
  refine QD 9 5 true 49 (dz fhg49_13) Y Y Y (fO (OF.pickF (VEv.tmpB Y (dz fhg49_13)) (VEv.bool false)) (nt (cf Y (VRun.exit (vthn.e (vthn.e (vinB.e (tn (sr (mO (tN n) Y (aO (tN n) Y ?_)))))))))))
  refine nt (rt (vi (n':=((n:Nat):Int)) Y ?_))
  (refine rA fhc0 ?_ hI'.2 ?_<;>first | omega | (unfold slA;omega))
 refine QD 7 8 true 34 (dz fhg34_11) Y Y Y (gF (nz fhg31_10) Y Y (OF.pickF (VEv.tmpB Y (dz fhg34_11)) (VEv.bool false)) (fO (OF.pickF (VEv.tmpB Y (nz fhg31_10)) (tv (tB false) Y)) (nt (cf Y (sk (tn (sr (fO (OF.assign (VEv.int .i64 0)) (nt (sq (VRun.block ?_)))))))))))
 refine VRun.loop (A:=Nat) (fun s_=> [(1,(tN cell)),(3,(T.op 0 0)),(6,(tN 0)),(7,(tN 1)),(8,(tN (cell % g.Cols.toNat))),(9,(tI g.Cols)),(10,(tN s_))]) (fun s_=>QV [(0,(Obj.cells (Qc false g)))]) 1 (fun s_=>s_≤6∧Jl g cell down s_) (fun s_=>6 - s_) (0:Nat) ?_ (Wk.mk (fun k=>k) ?_ ?_ ?_) ?_
 ·exact ⟨Nat.zero_le _,Y4 _ _ _⟩
 ·exact (b2 (b2 (b2 (b2 (b2 (b2 (b2 bn)))))))
 ·exact (b3 bn)
 ·exact nd Y
 rintro n (hI':n≤6∧Jl g cell down n)
 show VRun _ _ _ [(1,(tN cell)),(3,(T.op 0 0)),(6,(tN 0)),(7,(tN 1)),(8,(tN (cell % g.Cols.toNat))),(9,(tI g.Cols)),(10,(tN n))] (QV [(0,(Obj.cells (Qc false g)))]) 1 _
 have hI1:=hI'.1
 have hN:=Qfg hI1 hB.1 hB.2
 have hC6:=hC4 n
 have hC7:=hC5 n
 refine sq (sr (mO (tN (cell % g.Cols.toNat)) Y (mO (tN n) Y (fO (B.add (n:=(((cell % g.Cols.toNat+n):Nat):Int)) (tv (tN (cell % g.Cols.toNat)) Y) (tv (tN n) Y) (by (rw [Qs (by omega)];omega))) (mO (tI g.Cols) Y (fO (xls (tv (tN (cell % g.Cols.toNat+n)) Y) (tv (tI g.Cols) Y)) (mO (tB (decide ((((cell % g.Cols.toNat+n):Nat):Int)<g.Cols))) Y ?_)))))))
 refine gw ((((cell % g.Cols.toNat+n):Nat):Int)<g.Cols) (fun fhg49_15=> ?_) fun fhg49_15=> ?_
 ·refine Yk (tS g.Cells) (dy fhg49_15) Y Y Y Y QL Y Y ZG ?_
  refine gF (dy fhg49_15) Y Y (OF.move (tv (tN cell) Y)) (gF (dy fhg49_15) Y Y (OF.move (tv (tN n) Y)) (gF (dy fhg49_15) Y Y (OF.move (tv (tN 1) Y)) (gF (dy fhg49_15) Y Y (B.mul (n:=(((n*1):Nat):Int)) (tv (tN n) Y) (tv (tN 1) Y) (by (rw [Qs (by omega)];omega))) (gF (dy fhg49_15) Y Y (B.add (n:=(((cell+(n*1)):Nat):Int)) (tv (tN cell) Y) (tv (tN (n*1)) Y) (by (rw [Qs (by omega)];omega))) ?_))))
  have hb16:(cell+(n*1))<g.Cells.size:=(by omega)
  refine gF (dy fhg49_15) Y Y (xix (tv (tS g.Cells) Y) (tv (tN (cell+(n*1))) Y) hb16 U9) (gF (dy fhg49_15) Y Y (Yn (tv (T.int .u8 (Qy g.Cells (cell+(n*1)))) Y) (VEv.int .u8 46)) (fO (OF.pickT (VEv.tmpB Y (dy fhg49_15)) (tv (tB (decide (Qy g.Cells (cell+(n*1))=46))) Y)) (nt ?_)))
  refine cd (Qy g.Cells (cell+(n*1))=46) Y (fun fhc2=> ?_) fun fhc2=> ?_
  ·refine sk ?_
   refine tn (VRun.block (VRun.region (mO (tN n) Y (fO (QB (tv (tN n) Y) (VEv.int .i64 1) (by omega)) (aO (tN (n+1)) Y (VRunO.nil (vinB.n (tn ?_))))))))
   refine ⟨(n+1:Nat),?_,?_,Wk.mk (fun k=>k) ?_ ?_ ?_⟩
   ·(refine ⟨?_,QkA fhc0 hI'.2 ?_ ?_⟩<;>first | omega | (unfold slA;omega))
   ·omega
   ·exact (b2 (b2 (b2 (b2 (b2 (b2 (b2 bn)))))))
   ·exact (b3 bn)
   ·exact nd Y
  refine VRun.exit (vthn.e (vthn.e (vinB.e (tn (sr (mO (tN n) Y (aO (tN n) Y (nt (rt (vi (n':=((n:Nat):Int)) Y ?_))))))))))
  (refine rA fhc0 ?_ hI'.2 ?_<;>first | omega | (unfold slA;omega))
 refine QD 9 5 true 49 (dz fhg49_15) Y Y Y (fO (OF.pickF (VEv.tmpB Y (dz fhg49_15)) (VEv.bool false)) (nt (cf Y (VRun.exit (vthn.e (vthn.e (vinB.e (tn (sr (mO (tN n) Y (aO (tN n) Y ?_)))))))))))
 refine nt (rt (vi (n':=((n:Nat):Int)) Y ?_))
 (refine rA fhc0 ?_ hI'.2 ?_<;>first | omega | (unfold slA;omega))
theorem QfL (n:Nat) (g:D.Grid) (cell:Nat) (down:Bool) (hg:gridOk g) (hc:cell<g.Cells.size):Pure (Qo Tryz.prog (n+1)) 114 [(T.agg (Qc false g)),(tN cell),(tB down)] (tN (Qr g cell down)):=by
 refine Pure.intro (rs:= [ResultVar.tmp 6]) Tryz.func114 Y Y Y (E0:= [(0,(T.agg (Qc false g))),(1,(tN cell)),(2,(tB down))]) Y ?_
 obtain ⟨hlim,hmx,hmax⟩:=Qz
 have hsz:=hg.size
 have hA:=hg.1
 have hB:=hg.2.1
 obtain ⟨hC1,hC2,hC3,hC4,hC5⟩:=Qcn hg hc
 have hq0:0≤((cell:Nat):Int) / ((g.Cols.toNat:Nat):Int):=Int.ediv_nonneg (by omega) (by omega)
 have hm0:0≤((cell:Nat):Int) % ((g.Cols.toNat:Nat):Int):=Int.emod_nonneg _ (by omega)
 refine sr (kO (B.box (ts:=(Qc false g)) (tv (T.agg (Qc false g)) Y) nofun Y) (fO (OF.assign (VEv.int .i64 0)) (nt (sq (VRun.draw (B:= [[],[],[1],[1,2,0],[],[4],[],[6,0,2,1,3],[3,1,2,0,6,7,4,5]]) (by kernel_rfl) (by kernel_rfl) (mD (tN cell) Y Y (fD (OF.fieldAddrO (tv (T.op 0 0) Y) ZD) Y Y (lD (OL.loadO1 (t:=(tI g.Cols)) (tv (T.op 0 1) Y) Y Y QS) Y Y (fD (B.rem (n:=((cell % g.Cols.toNat:Nat):Int)) (tv (tN cell) Y) (tv (tI g.Cols) Y) (by omega) (by (refine Qm7 ?_;omega))) Y Y (fD (OF.fieldAddrO (tv (T.op 0 0) Y) ZD) Y Y (lD (OL.loadO1 (t:=(tI g.Cols)) (tv (T.op 0 1) Y) Y Y QS) Y Y ?_)))))))))))
 refine fD (OF.assign (VEv.int .i64 1)) Y Y (fD (OF.assign (tv (tN (cell % g.Cols.toNat)) Y)) Y Y (fD (OF.assign (tv (tI g.Cols) Y)) Y Y (VRunD.nil (tn (sq (sr (mO (tB down) Y (nt ?_))))))))
 refine VRun.cond (tv (tB down) Y) (fun hc0=> ?_) (fun hc0=> ?_)
 ·have fhc0:down=true:=hc0
  refine VRun.draw (B:= [[],[0],[],[],[3],[3,4,2],[],[6],[0,1],[1,0,8,2,4,3,5],[5,3,4,2,8,0,1,9,6,7]]) (by kernel_rfl) (by kernel_rfl) (fD (OF.fieldAddrO (tv (T.op 0 0) Y) ZD) Y Y (lD (OL.loadO1 (t:=(tI g.Cols)) (tv (T.op 0 1) Y) Y Y QS) Y Y (mD (tN cell) Y Y (fD (OF.fieldAddrO (tv (T.op 0 0) Y) ZD) Y Y (lD (OL.loadO1 (t:=(tI g.Cols)) (tv (T.op 0 1) Y) Y Y QS) Y Y (fD (B.quo (n:=((cell / g.Cols.toNat:Nat):Int)) (tv (tN cell) Y) (tv (tI g.Cols) Y) (by omega) (by (refine QnS ?_ ?_<;>omega))) Y Y (fD (OF.fieldAddrO (tv (T.op 0 0) Y) QaM) Y Y (lD (OL.loadO1 (t:=(tI g.Rows)) (tv (T.op 0 0) Y) Y Y QS) Y Y (fD (OF.assign (tv (tI g.Cols) Y)) Y Y (fD (OF.assign (tv (tN (cell / g.Cols.toNat)) Y)) Y Y (fD (OF.assign (tv (tI g.Rows) Y)) Y Y ?_)))))))))))
  refine VRunD.nil (tn (sq (sr (lf (tS g.Cells) Y QL Y Y ZG (mO (tN cell) Y ?_)))))
  have hb1:cell<g.Cells.size:=(by omega)
  refine fO (xix (tv (tS g.Cells) Y) (tv (tN cell) Y) hb1 U9) (fO (xne (tv (T.int .u8 (Qy g.Cells cell)) Y) (VEv.int .u8 46)) (mO (tB (!(decide (Qy g.Cells cell=46)))) Y ?_))
  refine gn (Qy g.Cells cell=46) (fun fhg31_2=> ?_) fun fhg31_2=> ?_
  ·refine QD 3 5 false 31 (ny fhg31_2) Y Y Y ?_
   refine QaX 7 8 true 34 Y Y Y (oO Y Y (ny fhg31_2) (fO (OF.pickT (VEv.tmpB Y (ny fhg31_2)) (VEv.bool true)) (nt (ct Y (sr (fO (OF.assign (VEv.int .i64 0)) (nt (rt (tr (vi (n':=0) Y ?_))))))))))
   (refine zD fhc0 ?_;omega)
  refine gF (nz fhg31_2) Y Y (OF.move (tv (tN (cell / g.Cols.toNat)) Y)) (gF (nz fhg31_2) Y Y (B.gtr (c:=(decide (0<cell / g.Cols.toNat))) (tv (tN (cell / g.Cols.toNat)) Y) (VEv.int .i64 0) (by exact Qt (by omega))) (gF (nz fhg31_2) Y Y (OF.move (tv (tB (decide (0<cell / g.Cols.toNat))) Y)) ?_))
  refine gw (0<cell / g.Cols.toNat) (fun fhg34_3=> ?_) fun fhg34_3=> ?_
  ·refine Yk (tS g.Cells) (dy fhg34_3) Y Y Y Y QL Y Y ZG ?_
   refine gF (dy fhg34_3) Y Y (OF.move (tv (tN cell) Y)) (gF (dy fhg34_3) Y Y (OF.move (tv (tI g.Cols) Y)) (gF (dy fhg34_3) Y Y (B.sub (n:=(((cell:Nat):Int) - g.Cols)) (tv (tN cell) Y) (tv (tI g.Cols) Y) (by (rw [Qs (by omega)];done))) ?_))
   have hb4:(Int.toNat (((cell:Nat):Int) - g.Cols))<g.Cells.size:=(by omega)
   refine gF (dy fhg34_3) Y Y (B.index (n:=(Qy g.Cells (Int.toNat (((cell:Nat):Int) - g.Cols)))) (i:=(Int.toNat (((cell:Nat):Int) - g.Cols))) (tv (tS g.Cells) Y) (tv (tI (((cell:Nat):Int) - g.Cols)) Y) (by omega) hb4 U9 (YZ hb4)) (gF (dy fhg34_3) Y Y (Yn (tv (T.int .u8 (Qy g.Cells (Int.toNat (((cell:Nat):Int) - g.Cols)))) Y) (VEv.int .u8 46)) (gF (nz fhg31_2) Y Y (OF.pickT (VEv.tmpB Y (dy fhg34_3)) (tv (tB (decide (Qy g.Cells (Int.toNat (((cell:Nat):Int) - g.Cols))=46))) Y)) (fO (OF.pickF (VEv.tmpB Y (nz fhg31_2)) (tv (tB (decide (Qy g.Cells (Int.toNat (((cell:Nat):Int) - g.Cols))=46))) Y)) (nt ?_))))
   refine cd (Qy g.Cells (Int.toNat (((cell:Nat):Int) - g.Cols))=46) Y (fun fhc1=> ?_) fun fhc1=> ?_
   ·refine sr ?_
    refine fO (OF.assign (VEv.int .i64 0)) (nt (rt (tr (vi (n':=0) Y ?_))))
    (refine zD fhc0 ?_;omega)
   refine sk (tn (sr (fO (OF.assign (VEv.int .i64 0)) (nt (sq (VRun.block ?_))))))
   refine VRun.loop (A:=Nat) (fun s_=> [(1,(tN cell)),(3,(T.op 0 0)),(6,(tN 0)),(7,(tI g.Cols)),(8,(tN (cell / g.Cols.toNat))),(9,(tI g.Rows)),(10,(tN s_))]) (fun s_=>QV [(0,(Obj.cells (Qc false g)))]) 1 (fun s_=>s_≤6∧Jl g cell down s_) (fun s_=>6 - s_) (0:Nat) ?_ (Wk.mk (fun k=>k) ?_ ?_ ?_) ?_
   ·exact ⟨Nat.zero_le _,Y4 _ _ _⟩
   ·exact (b2 (b2 (b2 (b2 (b2 (b2 (b2 bn)))))))
   ·exact (b3 bn)
   ·exact nd Y
   rintro n (hI':n≤6∧Jl g cell down n)
   show VRun _ _ _ [(1,(tN cell)),(3,(T.op 0 0)),(6,(tN 0)),(7,(tI g.Cols)),(8,(tN (cell / g.Cols.toNat))),(9,(tI g.Rows)),(10,(tN n))] (QV [(0,(Obj.cells (Qc false g)))]) 1 _
   have hI1:=hI'.1
   have hN:=Qfg hI1 hB.1 hB.2
   have hC6:=hC4 n
   have hC7:=hC5 n
   refine sq (sr (mO (tN (cell / g.Cols.toNat)) Y (mO (tN n) Y (fO (B.add (n:=(((cell / g.Cols.toNat+n):Nat):Int)) (tv (tN (cell / g.Cols.toNat)) Y) (tv (tN n) Y) (by (rw [Qs (by omega)];omega))) (mO (tI g.Rows) Y (fO (xls (tv (tN (cell / g.Cols.toNat+n)) Y) (tv (tI g.Rows) Y)) (mO (tB (decide ((((cell / g.Cols.toNat+n):Nat):Int)<g.Rows))) Y ?_)))))))
   refine gw ((((cell / g.Cols.toNat+n):Nat):Int)<g.Rows) (fun fhg49_5=> ?_) fun fhg49_5=> ?_
   ·refine Yk (tS g.Cells) (dy fhg49_5) Y Y Y Y QL Y Y ZG ?_
    refine gF (dy fhg49_5) Y Y (OF.move (tv (tN cell) Y)) (gF (dy fhg49_5) Y Y (OF.move (tv (tN n) Y)) (gF (dy fhg49_5) Y Y (OF.move (tv (tI g.Cols) Y)) (gF (dy fhg49_5) Y Y (B.mul (n:=(((n:Nat):Int)*g.Cols)) (tv (tN n) Y) (tv (tI g.Cols) Y) (by (refine Qhz ?_ ?_ ?_<;>omega))) (gF (dy fhg49_5) Y Y (B.add (n:=(((cell:Nat):Int)+(((n:Nat):Int)*g.Cols))) (tv (tN cell) Y) (tv (tI (((n:Nat):Int)*g.Cols)) Y) (by (rw [Qs (by omega)];done))) ?_))))
    have hb6:(Int.toNat (((cell:Nat):Int)+(((n:Nat):Int)*g.Cols)))<g.Cells.size:=(by omega)
    refine gF (dy fhg49_5) Y Y (B.index (n:=(Qy g.Cells (Int.toNat (((cell:Nat):Int)+(((n:Nat):Int)*g.Cols))))) (i:=(Int.toNat (((cell:Nat):Int)+(((n:Nat):Int)*g.Cols)))) (tv (tS g.Cells) Y) (tv (tI (((cell:Nat):Int)+(((n:Nat):Int)*g.Cols))) Y) (by omega) hb6 U9 (YZ hb6)) (gF (dy fhg49_5) Y Y (Yn (tv (T.int .u8 (Qy g.Cells (Int.toNat (((cell:Nat):Int)+(((n:Nat):Int)*g.Cols))))) Y) (VEv.int .u8 46)) (fO (OF.pickT (VEv.tmpB Y (dy fhg49_5)) (tv (tB (decide (Qy g.Cells (Int.toNat (((cell:Nat):Int)+(((n:Nat):Int)*g.Cols)))=46))) Y)) (nt ?_)))
    refine cd (Qy g.Cells (Int.toNat (((cell:Nat):Int)+(((n:Nat):Int)*g.Cols)))=46) Y (fun fhc2=> ?_) fun fhc2=> ?_
    ·refine sk ?_
     refine tn (VRun.block (VRun.region (mO (tN n) Y (fO (QB (tv (tN n) Y) (VEv.int .i64 1) (by omega)) (aO (tN (n+1)) Y (VRunO.nil (vinB.n (tn ?_))))))))
     refine ⟨(n+1:Nat),?_,?_,Wk.mk (fun k=>k) ?_ ?_ ?_⟩
     ·(refine ⟨?_,Qkk fhc0 hI'.2 ?_ ?_⟩<;>first | omega | (unfold slD;omega))
     ·omega
     ·exact (b2 (b2 (b2 (b2 (b2 (b2 (b2 bn)))))))
     ·exact (b3 bn)
     ·exact nd Y
    refine VRun.exit (vthn.e (vthn.e (vinB.e (tn (sr (mO (tN n) Y (aO (tN n) Y (nt (rt (vi (n':=((n:Nat):Int)) Y ?_))))))))))
    (refine rD fhc0 ?_ hI'.2 ?_<;>first | omega | (unfold slD;omega))
   refine QD 9 5 true 49 (dz fhg49_5) Y Y Y (fO (OF.pickF (VEv.tmpB Y (dz fhg49_5)) (VEv.bool false)) (nt (cf Y (VRun.exit (vthn.e (vthn.e (vinB.e (tn (sr (mO (tN n) Y (aO (tN n) Y ?_)))))))))))
   refine nt (rt (vi (n':=((n:Nat):Int)) Y ?_))
   (refine rD fhc0 ?_ hI'.2 ?_<;>first | omega | (unfold slD;omega))
  refine QD 7 8 true 34 (dz fhg34_3) Y Y Y (gF (nz fhg31_2) Y Y (OF.pickF (VEv.tmpB Y (dz fhg34_3)) (VEv.bool false)) (fO (OF.pickF (VEv.tmpB Y (nz fhg31_2)) (tv (tB false) Y)) (nt (cf Y (sk (tn (sr (fO (OF.assign (VEv.int .i64 0)) (nt (sq (VRun.block ?_)))))))))))
  refine VRun.loop (A:=Nat) (fun s_=> [(1,(tN cell)),(3,(T.op 0 0)),(6,(tN 0)),(7,(tI g.Cols)),(8,(tN (cell / g.Cols.toNat))),(9,(tI g.Rows)),(10,(tN s_))]) (fun s_=>QV [(0,(Obj.cells (Qc false g)))]) 1 (fun s_=>s_≤6∧Jl g cell down s_) (fun s_=>6 - s_) (0:Nat) ?_ (Wk.mk (fun k=>k) ?_ ?_ ?_) ?_
  ·exact ⟨Nat.zero_le _,Y4 _ _ _⟩
  ·exact (b2 (b2 (b2 (b2 (b2 (b2 (b2 bn)))))))
  ·exact (b3 bn)
  ·exact nd Y
  rintro n (hI':n≤6∧Jl g cell down n)
  show VRun _ _ _ [(1,(tN cell)),(3,(T.op 0 0)),(6,(tN 0)),(7,(tI g.Cols)),(8,(tN (cell / g.Cols.toNat))),(9,(tI g.Rows)),(10,(tN n))] (QV [(0,(Obj.cells (Qc false g)))]) 1 _
  have hI1:=hI'.1
  have hN:=Qfg hI1 hB.1 hB.2
  have hC6:=hC4 n
  have hC7:=hC5 n
  refine sq (sr (mO (tN (cell / g.Cols.toNat)) Y (mO (tN n) Y (fO (B.add (n:=(((cell / g.Cols.toNat+n):Nat):Int)) (tv (tN (cell / g.Cols.toNat)) Y) (tv (tN n) Y) (by (rw [Qs (by omega)];omega))) (mO (tI g.Rows) Y (fO (xls (tv (tN (cell / g.Cols.toNat+n)) Y) (tv (tI g.Rows) Y)) (mO (tB (decide ((((cell / g.Cols.toNat+n):Nat):Int)<g.Rows))) Y ?_)))))))
  refine gw ((((cell / g.Cols.toNat+n):Nat):Int)<g.Rows) (fun fhg49_7=> ?_) fun fhg49_7=> ?_
  ·refine Yk (tS g.Cells) (dy fhg49_7) Y Y Y Y QL Y Y ZG ?_
   refine gF (dy fhg49_7) Y Y (OF.move (tv (tN cell) Y)) (gF (dy fhg49_7) Y Y (OF.move (tv (tN n) Y)) (gF (dy fhg49_7) Y Y (OF.move (tv (tI g.Cols) Y)) (gF (dy fhg49_7) Y Y (B.mul (n:=(((n:Nat):Int)*g.Cols)) (tv (tN n) Y) (tv (tI g.Cols) Y) (by (refine Qhz ?_ ?_ ?_<;>omega))) (gF (dy fhg49_7) Y Y (B.add (n:=(((cell:Nat):Int)+(((n:Nat):Int)*g.Cols))) (tv (tN cell) Y) (tv (tI (((n:Nat):Int)*g.Cols)) Y) (by (rw [Qs (by omega)];done))) ?_))))
   have hb8:(Int.toNat (((cell:Nat):Int)+(((n:Nat):Int)*g.Cols)))<g.Cells.size:=(by omega)
   refine gF (dy fhg49_7) Y Y (B.index (n:=(Qy g.Cells (Int.toNat (((cell:Nat):Int)+(((n:Nat):Int)*g.Cols))))) (i:=(Int.toNat (((cell:Nat):Int)+(((n:Nat):Int)*g.Cols)))) (tv (tS g.Cells) Y) (tv (tI (((cell:Nat):Int)+(((n:Nat):Int)*g.Cols))) Y) (by omega) hb8 U9 (YZ hb8)) (gF (dy fhg49_7) Y Y (Yn (tv (T.int .u8 (Qy g.Cells (Int.toNat (((cell:Nat):Int)+(((n:Nat):Int)*g.Cols))))) Y) (VEv.int .u8 46)) (fO (OF.pickT (VEv.tmpB Y (dy fhg49_7)) (tv (tB (decide (Qy g.Cells (Int.toNat (((cell:Nat):Int)+(((n:Nat):Int)*g.Cols)))=46))) Y)) (nt ?_)))
   refine cd (Qy g.Cells (Int.toNat (((cell:Nat):Int)+(((n:Nat):Int)*g.Cols)))=46) Y (fun fhc2=> ?_) fun fhc2=> ?_
   ·refine sk ?_
    refine tn (VRun.block (VRun.region (mO (tN n) Y (fO (QB (tv (tN n) Y) (VEv.int .i64 1) (by omega)) (aO (tN (n+1)) Y (VRunO.nil (vinB.n (tn ?_))))))))
    refine ⟨(n+1:Nat),?_,?_,Wk.mk (fun k=>k) ?_ ?_ ?_⟩
    ·(refine ⟨?_,Qkk fhc0 hI'.2 ?_ ?_⟩<;>first | omega | (unfold slD;omega))
    ·omega
    ·exact (b2 (b2 (b2 (b2 (b2 (b2 (b2 bn)))))))
    ·exact (b3 bn)
    ·exact nd Y
   refine VRun.exit (vthn.e (vthn.e (vinB.e (tn (sr (mO (tN n) Y (aO (tN n) Y (nt (rt (vi (n':=((n:Nat):Int)) Y ?_))))))))))
   (refine rD fhc0 ?_ hI'.2 ?_<;>first | omega | (unfold slD;omega))
  refine QD 9 5 true 49 (dz fhg49_7) Y Y Y (fO (OF.pickF (VEv.tmpB Y (dz fhg49_7)) (VEv.bool false)) (nt (cf Y (VRun.exit (vthn.e (vthn.e (vinB.e (tn (sr (mO (tN n) Y (aO (tN n) Y ?_)))))))))))
  refine nt (rt (vi (n':=((n:Nat):Int)) Y ?_))
  (refine rD fhc0 ?_ hI'.2 ?_<;>first | omega | (unfold slD;omega))
 have fhc0:down=false:=hc0
 refine sk (tn (sq (sr (lf (tS g.Cells) Y QL Y Y ZG (mO (tN cell) Y ?_)))))
 have hb9:cell<g.Cells.size:=(by omega)
 refine fO (xix (tv (tS g.Cells) Y) (tv (tN cell) Y) hb9 U9) (fO (xne (tv (T.int .u8 (Qy g.Cells cell)) Y) (VEv.int .u8 46)) (mO (tB (!(decide (Qy g.Cells cell=46)))) Y ?_))
 refine gn (Qy g.Cells cell=46) (fun fhg31_10=> ?_) fun fhg31_10=> ?_
 ·refine QD 3 5 false 31 (ny fhg31_10) Y Y Y ?_
  refine QaX 7 8 true 34 Y Y Y (oO Y Y (ny fhg31_10) (fO (OF.pickT (VEv.tmpB Y (ny fhg31_10)) (VEv.bool true)) (nt (ct Y (sr (fO (OF.assign (VEv.int .i64 0)) (nt (rt (tr (vi (n':=0) Y ?_))))))))))
  (refine zA fhc0 ?_;omega)
 refine gF (nz fhg31_10) Y Y (OF.move (tv (tN (cell % g.Cols.toNat)) Y)) (gF (nz fhg31_10) Y Y (B.gtr (c:=(decide (0<cell % g.Cols.toNat))) (tv (tN (cell % g.Cols.toNat)) Y) (VEv.int .i64 0) (by exact Qt (by omega))) (gF (nz fhg31_10) Y Y (OF.move (tv (tB (decide (0<cell % g.Cols.toNat))) Y)) ?_))
 refine gw (0<cell % g.Cols.toNat) (fun fhg34_11=> ?_) fun fhg34_11=> ?_
 ·refine Yk (tS g.Cells) (dy fhg34_11) Y Y Y Y QL Y Y ZG ?_
  refine gF (dy fhg34_11) Y Y (OF.move (tv (tN cell) Y)) (gF (dy fhg34_11) Y Y (OF.move (tv (tN 1) Y)) (gF (dy fhg34_11) Y Y (B.sub (n:=(((cell:Nat):Int) - 1)) (tv (tN cell) Y) (tv (tN 1) Y) (by (rw [Qs (by omega)];omega))) ?_))
  have hb12:(Int.toNat (((cell:Nat):Int) - 1))<g.Cells.size:=(by omega)
  refine gF (dy fhg34_11) Y Y (B.index (n:=(Qy g.Cells (Int.toNat (((cell:Nat):Int) - 1)))) (i:=(Int.toNat (((cell:Nat):Int) - 1))) (tv (tS g.Cells) Y) (tv (tI (((cell:Nat):Int) - 1)) Y) (by omega) hb12 U9 (YZ hb12)) (gF (dy fhg34_11) Y Y (Yn (tv (T.int .u8 (Qy g.Cells (Int.toNat (((cell:Nat):Int) - 1)))) Y) (VEv.int .u8 46)) (gF (nz fhg31_10) Y Y (OF.pickT (VEv.tmpB Y (dy fhg34_11)) (tv (tB (decide (Qy g.Cells (Int.toNat (((cell:Nat):Int) - 1))=46))) Y)) (fO (OF.pickF (VEv.tmpB Y (nz fhg31_10)) (tv (tB (decide (Qy g.Cells (Int.toNat (((cell:Nat):Int) - 1))=46))) Y)) (nt ?_))))
  refine cd (Qy g.Cells (Int.toNat (((cell:Nat):Int) - 1))=46) Y (fun fhc1=> ?_) fun fhc1=> ?_
  ·refine sr ?_
   refine fO (OF.assign (VEv.int .i64 0)) (nt (rt (tr (vi (n':=0) Y ?_))))
   (refine zA fhc0 ?_;omega)
  refine sk (tn (sr (fO (OF.assign (VEv.int .i64 0)) (nt (sq (VRun.block ?_))))))
  refine VRun.loop (A:=Nat) (fun s_=> [(1,(tN cell)),(3,(T.op 0 0)),(6,(tN 0)),(7,(tN 1)),(8,(tN (cell % g.Cols.toNat))),(9,(tI g.Cols)),(10,(tN s_))]) (fun s_=>QV [(0,(Obj.cells (Qc false g)))]) 1 (fun s_=>s_≤6∧Jl g cell down s_) (fun s_=>6 - s_) (0:Nat) ?_ (Wk.mk (fun k=>k) ?_ ?_ ?_) ?_
  ·exact ⟨Nat.zero_le _,Y4 _ _ _⟩
  ·exact (b2 (b2 (b2 (b2 (b2 (b2 (b2 bn)))))))
  ·exact (b3 bn)
  ·exact nd Y
  rintro n (hI':n≤6∧Jl g cell down n)
  show VRun _ _ _ [(1,(tN cell)),(3,(T.op 0 0)),(6,(tN 0)),(7,(tN 1)),(8,(tN (cell % g.Cols.toNat))),(9,(tI g.Cols)),(10,(tN n))] (QV [(0,(Obj.cells (Qc false g)))]) 1 _
  have hI1:=hI'.1
  have hN:=Qfg hI1 hB.1 hB.2
  have hC6:=hC4 n
  have hC7:=hC5 n
  refine sq (sr (mO (tN (cell % g.Cols.toNat)) Y (mO (tN n) Y (fO (B.add (n:=(((cell % g.Cols.toNat+n):Nat):Int)) (tv (tN (cell % g.Cols.toNat)) Y) (tv (tN n) Y) (by (rw [Qs (by omega)];omega))) (mO (tI g.Cols) Y (fO (xls (tv (tN (cell % g.Cols.toNat+n)) Y) (tv (tI g.Cols) Y)) (mO (tB (decide ((((cell % g.Cols.toNat+n):Nat):Int)<g.Cols))) Y ?_)))))))
  refine gw ((((cell % g.Cols.toNat+n):Nat):Int)<g.Cols) (fun fhg49_13=> ?_) fun fhg49_13=> ?_
  ·refine Yk (tS g.Cells) (dy fhg49_13) Y Y Y Y QL Y Y ZG ?_
   refine gF (dy fhg49_13) Y Y (OF.move (tv (tN cell) Y)) (gF (dy fhg49_13) Y Y (OF.move (tv (tN n) Y)) (gF (dy fhg49_13) Y Y (OF.move (tv (tN 1) Y)) (gF (dy fhg49_13) Y Y (B.mul (n:=(((n*1):Nat):Int)) (tv (tN n) Y) (tv (tN 1) Y) (by (rw [Qs (by omega)];omega))) (gF (dy fhg49_13) Y Y (B.add (n:=(((cell+(n*1)):Nat):Int)) (tv (tN cell) Y) (tv (tN (n*1)) Y) (by (rw [Qs (by omega)];omega))) ?_))))
   have hb14:(cell+(n*1))<g.Cells.size:=(by omega)
   refine gF (dy fhg49_13) Y Y (xix (tv (tS g.Cells) Y) (tv (tN (cell+(n*1))) Y) hb14 U9) (gF (dy fhg49_13) Y Y (Yn (tv (T.int .u8 (Qy g.Cells (cell+(n*1)))) Y) (VEv.int .u8 46)) (fO (OF.pickT (VEv.tmpB Y (dy fhg49_13)) (tv (tB (decide (Qy g.Cells (cell+(n*1))=46))) Y)) (nt ?_)))
   refine cd (Qy g.Cells (cell+(n*1))=46) Y (fun fhc2=> ?_) fun fhc2=> ?_
   ·refine sk ?_
    refine tn (VRun.block (VRun.region (mO (tN n) Y (fO (QB (tv (tN n) Y) (VEv.int .i64 1) (by omega)) (aO (tN (n+1)) Y (VRunO.nil (vinB.n (tn ?_))))))))
    refine ⟨(n+1:Nat),?_,?_,Wk.mk (fun k=>k) ?_ ?_ ?_⟩
    ·(refine ⟨?_,QkA fhc0 hI'.2 ?_ ?_⟩<;>first | omega | (unfold slA;omega))
    ·omega
    ·exact (b2 (b2 (b2 (b2 (b2 (b2 (b2 bn)))))))
    ·exact (b3 bn)
    ·exact nd Y
   refine VRun.exit (vthn.e (vthn.e (vinB.e (tn (sr (mO (tN n) Y (aO (tN n) Y (nt (rt (vi (n':=((n:Nat):Int)) Y ?_))))))))))
   (refine rA fhc0 ?_ hI'.2 ?_<;>first | omega | (unfold slA;omega))
  refine QD 9 5 true 49 (dz fhg49_13) Y Y Y (fO (OF.pickF (VEv.tmpB Y (dz fhg49_13)) (VEv.bool false)) (nt (cf Y (VRun.exit (vthn.e (vthn.e (vinB.e (tn (sr (mO (tN n) Y (aO (tN n) Y ?_)))))))))))
  refine nt (rt (vi (n':=((n:Nat):Int)) Y ?_))
  (refine rA fhc0 ?_ hI'.2 ?_<;>first | omega | (unfold slA;omega))
 refine QD 7 8 true 34 (dz fhg34_11) Y Y Y (gF (nz fhg31_10) Y Y (OF.pickF (VEv.tmpB Y (dz fhg34_11)) (VEv.bool false)) (fO (OF.pickF (VEv.tmpB Y (nz fhg31_10)) (tv (tB false) Y)) (nt (cf Y (sk (tn (sr (fO (OF.assign (VEv.int .i64 0)) (nt (sq (VRun.block ?_)))))))))))
 refine VRun.loop (A:=Nat) (fun s_=> [(1,(tN cell)),(3,(T.op 0 0)),(6,(tN 0)),(7,(tN 1)),(8,(tN (cell % g.Cols.toNat))),(9,(tI g.Cols)),(10,(tN s_))]) (fun s_=>QV [(0,(Obj.cells (Qc false g)))]) 1 (fun s_=>s_≤6∧Jl g cell down s_) (fun s_=>6 - s_) (0:Nat) ?_ (Wk.mk (fun k=>k) ?_ ?_ ?_) ?_
 ·exact ⟨Nat.zero_le _,Y4 _ _ _⟩
 ·exact (b2 (b2 (b2 (b2 (b2 (b2 (b2 bn)))))))
 ·exact (b3 bn)
 ·exact nd Y
 rintro n (hI':n≤6∧Jl g cell down n)
 show VRun _ _ _ [(1,(tN cell)),(3,(T.op 0 0)),(6,(tN 0)),(7,(tN 1)),(8,(tN (cell % g.Cols.toNat))),(9,(tI g.Cols)),(10,(tN n))] (QV [(0,(Obj.cells (Qc false g)))]) 1 _
 have hI1:=hI'.1
 have hN:=Qfg hI1 hB.1 hB.2
 have hC6:=hC4 n
 have hC7:=hC5 n
 refine sq (sr (mO (tN (cell % g.Cols.toNat)) Y (mO (tN n) Y (fO (B.add (n:=(((cell % g.Cols.toNat+n):Nat):Int)) (tv (tN (cell % g.Cols.toNat)) Y) (tv (tN n) Y) (by (rw [Qs (by omega)];omega))) (mO (tI g.Cols) Y (fO (xls (tv (tN (cell % g.Cols.toNat+n)) Y) (tv (tI g.Cols) Y)) (mO (tB (decide ((((cell % g.Cols.toNat+n):Nat):Int)<g.Cols))) Y ?_)))))))
 refine gw ((((cell % g.Cols.toNat+n):Nat):Int)<g.Cols) (fun fhg49_15=> ?_) fun fhg49_15=> ?_
 ·refine Yk (tS g.Cells) (dy fhg49_15) Y Y Y Y QL Y Y ZG ?_
  refine gF (dy fhg49_15) Y Y (OF.move (tv (tN cell) Y)) (gF (dy fhg49_15) Y Y (OF.move (tv (tN n) Y)) (gF (dy fhg49_15) Y Y (OF.move (tv (tN 1) Y)) (gF (dy fhg49_15) Y Y (B.mul (n:=(((n*1):Nat):Int)) (tv (tN n) Y) (tv (tN 1) Y) (by (rw [Qs (by omega)];omega))) (gF (dy fhg49_15) Y Y (B.add (n:=(((cell+(n*1)):Nat):Int)) (tv (tN cell) Y) (tv (tN (n*1)) Y) (by (rw [Qs (by omega)];omega))) ?_))))
  have hb16:(cell+(n*1))<g.Cells.size:=(by omega)
  refine gF (dy fhg49_15) Y Y (xix (tv (tS g.Cells) Y) (tv (tN (cell+(n*1))) Y) hb16 U9) (gF (dy fhg49_15) Y Y (Yn (tv (T.int .u8 (Qy g.Cells (cell+(n*1)))) Y) (VEv.int .u8 46)) (fO (OF.pickT (VEv.tmpB Y (dy fhg49_15)) (tv (tB (decide (Qy g.Cells (cell+(n*1))=46))) Y)) (nt ?_)))
  refine cd (Qy g.Cells (cell+(n*1))=46) Y (fun fhc2=> ?_) fun fhc2=> ?_
  ·refine sk ?_
   refine tn (VRun.block (VRun.region (mO (tN n) Y (fO (QB (tv (tN n) Y) (VEv.int .i64 1) (by omega)) (aO (tN (n+1)) Y (VRunO.nil (vinB.n (tn ?_))))))))
   refine ⟨(n+1:Nat),?_,?_,Wk.mk (fun k=>k) ?_ ?_ ?_⟩
   ·(refine ⟨?_,QkA fhc0 hI'.2 ?_ ?_⟩<;>first | omega | (unfold slA;omega))
   ·omega
   ·exact (b2 (b2 (b2 (b2 (b2 (b2 (b2 bn)))))))
   ·exact (b3 bn)
   ·exact nd Y
  refine VRun.exit (vthn.e (vthn.e (vinB.e (tn (sr (mO (tN n) Y (aO (tN n) Y (nt (rt (vi (n':=((n:Nat):Int)) Y ?_))))))))))
  (refine rA fhc0 ?_ hI'.2 ?_<;>first | omega | (unfold slA;omega))
 refine QD 9 5 true 49 (dz fhg49_15) Y Y Y (fO (OF.pickF (VEv.tmpB Y (dz fhg49_15)) (VEv.bool false)) (nt (cf Y (VRun.exit (vthn.e (vthn.e (vinB.e (tn (sr (mO (tN n) Y (aO (tN n) Y ?_)))))))))))
 refine nt (rt (vi (n':=((n:Nat):Int)) Y ?_))
 (refine rA fhc0 ?_ hI'.2 ?_<;>first | omega | (unfold slA;omega))
noncomputable section
def QlG (g:D.Grid) (st:List D.Slot×Nat) (i:Nat):List D.Slot×Nat :=
 let k:=if 2≤Qr g i false∨2≤Qr g i true then st.2+1 else st.2
 ((st.1++(if 2≤Qr g i false then [D.Slot.mk ((k:Nat):Int) false ((i:Nat):Int) ((Qr g i false:Nat):Int)] else []))++(if 2≤Qr g i true then [D.Slot.mk ((k:Nat):Int) true ((i:Nat):Int) ((Qr g i true:Nat):Int)] else []),k)
def Qg (g:D.Grid):Nat→List D.Slot×Nat
 | 0=>([],0)
 | i+1=>QlG g (Qg g i) i
def Qa (g:D.Grid):List D.Slot:=if gridOk g then (Qg g g.Cells.size).1 else []
theorem YH (g:D.Grid) (i:Nat):(Qg g (i+1)).1=((Qg g i).1++(if 2≤Qr g i false then [D.Slot.mk (((Qg g (i+1)).2:Nat):Int) false ((i:Nat):Int) ((Qr g i false:Nat):Int)] else []))++(if 2≤Qr g i true then [D.Slot.mk (((Qg g (i+1)).2:Nat):Int) true ((i:Nat):Int) ((Qr g i true:Nat):Int)] else []):=rfl
theorem Z2 (g:D.Grid) (i:Nat):(Qg g (i+1)).2=if 2≤Qr g i false∨2≤Qr g i true then (Qg g i).2+1 else (Qg g i).2:=rfl
theorem Qcj (g:D.Grid):∀i,(Qg g i).2≤i∧(Qg g i).1.length≤2*i
 | 0=>⟨Nat.le_refl _,Nat.le_refl _⟩
 | i+1=>by
  have h:=Qcj g i
  rw [YH,Z2]
  refine ⟨by split<;>omega,?_⟩
  rw [List.length_append,List.length_append]
  have e:∀(c:Prop) [Decidable c] (x:D.Slot),(if c then [x] else []).length≤1:=fun c _ x=>by split<;>simp
  refine Nat.le_trans (Nat.add_le_add (Nat.add_le_add h.2 (e _ _)) (e _ _)) ?_
  omega
theorem Qer {g:D.Grid} {i:Nat} (h1:i≤g.Cells.size) (h2:gridOk g∨i=0) (h3:¬i<g.Cells.size∨¬gridOk g):(Qg g i).1=Qa g:=by
 unfold Qa
 split
 ·rename_i hh
  rcases h3 with h3 | h3
  ·rw [show i=g.Cells.size by omega]
  ·contradiction
 ·rename_i hh
  rw [h2.resolve_left hh]
  rfl
theorem Qk1 {g:D.Grid} (h:¬gridOk g):Qa g= []:=if_neg h
theorem Zq (g:D.Grid):(Qa g).length≤72:=by
 unfold Qa
 split
 ·rename_i hh
  have:=hh.size
  have:=(Qcj g g.Cells.size).2
  omega
 ·simp
end
theorem ZI (n:Nat) (g:D.Grid) (hc:g.Cells.size≤maxLen):Pure (Qo Tryz.prog (n+3)) 65 [(T.agg (Qc false g))] (T.sl true 4 ((Qa g).map (Qk true))):=by
 refine Pure.intro (rs:= [ResultVar.tmp 2]) Tryz.func65 Y Y Y (E0:= [(0,(T.agg (Qc false g)))]) Y ?_
 obtain ⟨hlim,hmx,hmax⟩:=Qz
 refine sr (kO (B.box (ts:=(Qc false g)) (tv (T.agg (Qc false g)) Y) nofun Y) (fO (OF.assign VEv.nils) (nt (sr (kO (OM.slice0 Yj YN (by kernel_rfl) Y (by rw [Zw];decide) Zw) (aO (T.os 4 1 0 0) Y (nt (sr (fO (OF.assign (VEv.int .i64 0)) (nt (sq ?_)))))))))))
 refine sr (fO (OF.assign (VEv.int .i64 0)) (nt (VRun.block ?_)))
 have he1: []=(((Qg g 0).1).map (Qk true)):=by rfl
 refine VRun.loop (A:=Nat) (fun s_=> [(1,(T.op 0 0)),(2,T.nils),(3,(T.os 4 1 0 ((((Qg g s_).1).map (Qk true)).length))),(4,(tN ((Qg g s_).2))),(5,(tN s_))]) (fun s_=>QV [(0,(Obj.cells (Qc false g))),(1,(Obj.rows 4 (((Qg g s_).1).map (Qk true))))]) 2 (fun s_=>s_≤g.Cells.size∧(gridOk g∨s_=0)) (fun s_=>g.Cells.size - s_) (0:Nat) ?_ (Wk.mk (fun k=>k) ?_ ?_ ?_) ?_
 ·exact ⟨Nat.zero_le _, .inr Y⟩
 ·exact (b2 (b2 (bc ⟨(congrArg (fun n_=>T.os 4 1 0 n_) (show 0=(((Qg g 0).1).map (Qk true)).length from (by rfl))),rfl⟩ (bc ⟨(congrArg (T.int .i64) (show 0=(((Qg g 0).2:Nat):Int) from (by rfl))),rfl⟩ (b2 bn)))))
 ·exact (b3 (bc ⟨(congrArg (fun l_=>some (Obj.rows 4 l_)) he1),(lb Y),rfl⟩ bn))
 ·exact nd Y
 rintro i (hI':i≤g.Cells.size∧(gridOk g∨i=0))
 show VRun _ _ _ [(1,(T.op 0 0)),(2,T.nils),(3,(T.os 4 1 0 ((((Qg g i).1).map (Qk true)).length))),(4,(tN ((Qg g i).2))),(5,(tN i))] (QV [(0,(Obj.cells (Qc false g))),(1,(Obj.rows 4 (((Qg g i).1).map (Qk true))))]) 2 _
 have hI1:=hI'.1
 have hbd:=Qcj g i
 refine sq (sr (mO (tN i) Y (lf (tS g.Cells) Y QL Y Y ZG (lO (B.lenS (tv (tS g.Cells) Y) U9) (fO (Q9 (tv (tN i) Y) (tv (tN g.Cells.size) Y)) (mO (tB (decide (i<g.Cells.size))) Y ?_))))))
 refine gw (i<g.Cells.size) (fun fhg14_2=> ?_) fun fhg14_2=> ?_
 ·refine gL (dy fhg14_2) Y Y (OL.loadOn (us:=(Qc false g)) (tv (T.op 0 0) Y) Y Q6 Q0 (lb Y) Y) ?_
  refine VRunO.chain (VWant.on Y Y (dy fhg14_2)) (cS (vc (tv (T.agg (Qc false g)) Y) vn) (LendL.cons (lg Qx) ln) (Z7 (n+0) g (by assumption)) Y Y) (fO (OF.pickT (VEv.tmpB Y (dy fhg14_2)) (tv (tB (decide (gridOk g))) Y)) (nt ?_))
  refine cd (gridOk g) Y (fun fhc0=> ?_) fun fhc0=> ?_
  ·have hgo:gridOk g:=by assumption
   have hsz:=hgo.size
   refine sk (tn (sq (VRun.block (sr (lO (OL.loadOn (us:=(Qc false g)) (tv (T.op 0 0) Y) Y Q6 Q0 (lb Y) Y) (mO (tN i) Y (cO (cS (vc (tv (T.agg (Qc false g)) Y) (vc (tv (tN i) Y) (vc (VEv.bool false) vn))) (LendL.cons (lg Qx) (lp Y (lp Y ln))) (Qcx (n+1) g i false (by assumption) (by assumption)) Y Y) (aO (tN (Qr g i false)) Y (nt (sr (lO (OL.loadOn (us:=(Qc false g)) (tv (T.op 0 0) Y) Y Q6 Q0 (lb Y) Y) ?_)))))))))))
   refine mO (tN i) Y (cO (cS (vc (tv (T.agg (Qc false g)) Y) (vc (tv (tN i) Y) (vc (VEv.bool true) vn))) (LendL.cons (lg Qx) (lp Y (lp Y ln))) (Qcx (n+1) g i true (by assumption) (by assumption)) Y Y) (aO (tN (Qr g i true)) Y (nt (sq (sr (mO (tN (Qr g i false)) Y (fO (B.geq (c:=(decide (2≤Qr g i false))) (tv (tN (Qr g i false)) Y) (VEv.int .i64 2) (by exact Qt (by omega))) (mO (tB (decide (2≤Qr g i false))) Y ?_))))))))
   refine gw (2≤Qr g i false) (fun fhg28_3=> ?_) fun fhg28_3=> ?_
   ·refine QD 2 2 false 28 (dy fhg28_3) Y Y Y ?_
    refine fO (OF.pickT (VEv.tmpB Y (dy fhg28_3)) (VEv.bool true)) (nt (ct Y (VRun.region (mO (tN ((Qg g i).2)) Y (fO (QB (tv (tN ((Qg g i).2)) Y) (VEv.int .i64 1) (by omega)) (aO (tN ((Qg g i).2+1)) Y (VRunO.nil (tn (sq (sr (mO (tN (Qr g i false)) Y ?_)))))))))))
    refine fO (B.geq (c:=(decide (2≤Qr g i false))) (tv (tN (Qr g i false)) Y) (VEv.int .i64 2) (by exact Qt (by omega))) (nt (ck (dy fhg28_3) Y (VRun.region (mO (T.os 4 1 0 ((((Qg g i).1).map (Qk true)).length)) Y (mO (tN ((Qg g i).2+1)) Y (mO (tN i) Y (mO (tN (Qr g i false)) Y (fO (OF.build (l:= [(0,(tN ((Qg g i).2+1))),(2,(tN i)),(3,(tN (Qr g i false)))]) (zs:= [(tN 0),(tB false),(tN 0),(tN 0)]) (out:= [(tN ((Qg g i).2+1)),(tB false),(tN i),(tN (Qr g i false))]) (VEvp.cons (i:=0) (tv (tN ((Qg g i).2+1)) Y) (VEvp.cons (i:=2) (tv (tN i) Y) (VEvp.cons (i:=3) (tv (tN (Qr g i false)) Y) VEvp.nil))) (bc nofun (bc nofun (bc nofun bn))) Tryz.underlying128 YN (fun _=>RL.cons (.int _ _) (RL.cons (.bool _) (RL.cons (.int _ _) (RL.cons (.int _ _) (RL.nil _))))) (by kernel_rfl) (by kernel_rfl)) (kO (OM.buildSlice (l:= [(T.agg [(tN ((Qg g i).2+1)),(tB false),(tN i),(tN (Qr g i false))])]) (VEvp.cons (tv (T.agg [(tN ((Qg g i).2+1)),(tB false),(tN i),(tN (Qr g i false))]) Y) VEvp.nil) Y (by decide) (bc (nofun) bn) (bc ((bc (Y) (bc (Y) (bc (Y) (bc (Y) bn))))) bn) (bc (Y) bn) Yj YN (by kernel_rfl) Y (by rw [Zw];decide) Zw (Nat.le_of_ble_eq_true Y)) (cO (B.append (rows:=(((Qg g i).1).map (Qk true))) (rows2:= [[(tN ((Qg g i).2+1)),(tB false),(tN i),(tN (Qr g i false))]]) (rows3:=(((Qg g i).1++ [(D.Slot.mk ((((Qg g i).2+1):Nat):Int) false ((i:Nat):Int) ((Qr g i false:Nat):Int))]).map (Qk true))) (VDst.own (tv (T.os 4 1 0 ((((Qg g i).1).map (Qk true)).length)) Y) Y Y) (VSrc.own (tv (T.os 4 2 0 1) Y) Y Y Yj (bc (bc Y (bc Y (bc Y (bc Y bn)))) bn)) (by decide) Yj Zw (by decide) YN Y (of_decide_eq_true (by kernel_rfl)) (by (simp only [List.length_map,List.length_append,List.length_cons,List.length_nil,List.length_replicate,List.length_set,List.length_drop,List.length_take,Zk] at *;omega)) ((List.map_append (f:=Qk true) (l₁:=(Qg g i).1) (l₂:= [(D.Slot.mk ((((Qg g i).2+1):Nat):Int) false ((i:Nat):Int) ((Qr g i false:Nat):Int))])).symm)) (aO (T.os 4 3 0 ((((Qg g i).1++ [(D.Slot.mk ((((Qg g i).2+1):Nat):Int) false ((i:Nat):Int) ((Qr g i false:Nat):Int))]).map (Qk true)).length)) Y ?_)))))))))))
    refine VRunO.nil (tn (sr (mO (tN (Qr g i true)) Y (fO (B.geq (c:=(decide (2≤Qr g i true))) (tv (tN (Qr g i true)) Y) (VEv.int .i64 2) (by exact Qt (by omega))) (nt ?_)))))
    refine cd (2≤Qr g i true) Y (fun fhc3=> ?_) fun fhc3=> ?_
    ·refine VRun.region ?_
     refine mO (T.os 4 3 0 ((((Qg g i).1++ [(D.Slot.mk ((((Qg g i).2+1):Nat):Int) false ((i:Nat):Int) ((Qr g i false:Nat):Int))]).map (Qk true)).length)) Y (mO (tN ((Qg g i).2+1)) Y (mO (tN i) Y (mO (tN (Qr g i true)) Y (fO (OF.build (l:= [(0,(tN ((Qg g i).2+1))),(1,(tB true)),(2,(tN i)),(3,(tN (Qr g i true)))]) (zs:= [(tN 0),(tB false),(tN 0),(tN 0)]) (out:= [(tN ((Qg g i).2+1)),(tB true),(tN i),(tN (Qr g i true))]) (VEvp.cons (i:=0) (tv (tN ((Qg g i).2+1)) Y) (VEvp.cons (i:=1) (VEv.bool true) (VEvp.cons (i:=2) (tv (tN i) Y) (VEvp.cons (i:=3) (tv (tN (Qr g i true)) Y) VEvp.nil)))) (bc nofun (bc nofun (bc nofun (bc nofun bn)))) Tryz.underlying128 YN (fun _=>RL.cons (.int _ _) (RL.cons (.bool _) (RL.cons (.int _ _) (RL.cons (.int _ _) (RL.nil _))))) (by kernel_rfl) (by kernel_rfl)) (kO (OM.buildSlice (l:= [(T.agg [(tN ((Qg g i).2+1)),(tB true),(tN i),(tN (Qr g i true))])]) (VEvp.cons (tv (T.agg [(tN ((Qg g i).2+1)),(tB true),(tN i),(tN (Qr g i true))]) Y) VEvp.nil) Y (by decide) (bc (nofun) bn) (bc ((bc (Y) (bc (Y) (bc (Y) (bc (Y) bn))))) bn) (bc (Y) bn) Yj YN (by kernel_rfl) Y (by rw [Zw];decide) Zw (Nat.le_of_ble_eq_true Y)) (cO (B.append (rows:=(((Qg g i).1++ [(D.Slot.mk ((((Qg g i).2+1):Nat):Int) false ((i:Nat):Int) ((Qr g i false:Nat):Int))]).map (Qk true))) (rows2:= [[(tN ((Qg g i).2+1)),(tB true),(tN i),(tN (Qr g i true))]]) (rows3:=((((Qg g i).1++ [(D.Slot.mk ((((Qg g i).2+1):Nat):Int) false ((i:Nat):Int) ((Qr g i false:Nat):Int))])++ [(D.Slot.mk ((((Qg g i).2+1):Nat):Int) true ((i:Nat):Int) ((Qr g i true:Nat):Int))]).map (Qk true))) (VDst.own (tv (T.os 4 3 0 ((((Qg g i).1++ [(D.Slot.mk ((((Qg g i).2+1):Nat):Int) false ((i:Nat):Int) ((Qr g i false:Nat):Int))]).map (Qk true)).length)) Y) Y Y) (VSrc.own (tv (T.os 4 4 0 1) Y) Y Y Yj (bc (bc Y (bc Y (bc Y (bc Y bn)))) bn)) (by decide) Yj Zw (by decide) YN Y (of_decide_eq_true (by kernel_rfl)) (by (simp only [List.length_map,List.length_append,List.length_cons,List.length_nil,List.length_replicate,List.length_set,List.length_drop,List.length_take,Zk] at *;omega)) ((List.map_append (f:=Qk true) (l₁:=((Qg g i).1++ [(D.Slot.mk ((((Qg g i).2+1):Nat):Int) false ((i:Nat):Int) ((Qr g i false:Nat):Int))])) (l₂:= [(D.Slot.mk ((((Qg g i).2+1):Nat):Int) true ((i:Nat):Int) ((Qr g i true:Nat):Int))])).symm)) (aO (T.os 4 5 0 (((((Qg g i).1++ [(D.Slot.mk ((((Qg g i).2+1):Nat):Int) false ((i:Nat):Int) ((Qr g i false:Nat):Int))])++ [(D.Slot.mk ((((Qg g i).2+1):Nat):Int) true ((i:Nat):Int) ((Qr g i true:Nat):Int))]).map (Qk true)).length)) Y (VRunO.nil (vinB.n (tn (VRun.region ?_)))))))))))
     refine mO (tN i) Y (fO (QB (tv (tN i) Y) (VEv.int .i64 1) (by omega)) (aO (tN (i+1)) Y (VRunO.nil (tn ?_))))
     have hgo:gridOk g:=by assumption
     have he4:(((Qg g i).1++ [(D.Slot.mk ((((Qg g i).2+1):Nat):Int) false ((i:Nat):Int) ((Qr g i false:Nat):Int))])++ [(D.Slot.mk ((((Qg g i).2+1):Nat):Int) true ((i:Nat):Int) ((Qr g i true:Nat):Int))])=(Qg g (i+1)).1:=by (rw [YH,Z2];simp [*];done)
     refine ⟨(i+1:Nat),?_,?_,Wk.mk (fun k=>if k=1 then 5 else k) ?_ ?_ ?_⟩
     ·exact ⟨by omega, .inl hgo⟩
     ·omega
     ·exact (b2 (b2 (bc ⟨(congrArg (fun l_=>T.os 4 5 0 (List.map (Qk true) l_).length) he4),rfl⟩ (bc ⟨(congrArg (T.int .i64) (show ((((Qg g i).2+1):Nat):Int)=(((Qg g (i+1)).2:Nat):Int) from (by (rw [Z2];simp [*];done)))),rfl⟩ (b2 bn)))))
     ·exact (b3 (bc ⟨(congrArg (fun l_=>some (Obj.rows 4 (List.map (Qk true) l_))) he4),(lb Y),rfl⟩ bn))
     ·exact nd Y
    refine sk (vinB.n (tn (VRun.region (mO (tN i) Y (fO (QB (tv (tN i) Y) (VEv.int .i64 1) (by omega)) (aO (tN (i+1)) Y (VRunO.nil (tn ?_))))))))
    have hgo:gridOk g:=by assumption
    have he5:((Qg g i).1++ [(D.Slot.mk ((((Qg g i).2+1):Nat):Int) false ((i:Nat):Int) ((Qr g i false:Nat):Int))])=(Qg g (i+1)).1:=by (rw [YH,Z2];simp [*];done)
    refine ⟨(i+1:Nat),?_,?_,Wk.mk (fun k=>if k=1 then 3 else k) ?_ ?_ ?_⟩
    ·exact ⟨by omega, .inl hgo⟩
    ·omega
    ·exact (b2 (b2 (bc ⟨(congrArg (fun l_=>T.os 4 3 0 (List.map (Qk true) l_).length) he5),rfl⟩ (bc ⟨(congrArg (T.int .i64) (show ((((Qg g i).2+1):Nat):Int)=(((Qg g (i+1)).2:Nat):Int) from (by (rw [Z2];simp [*];done)))),rfl⟩ (b2 bn)))))
    ·exact (b3 (bc ⟨(congrArg (fun l_=>some (Obj.rows 4 (List.map (Qk true) l_))) he5),(lb Y),rfl⟩ bn))
    ·exact nd Y
   refine gF (dz fhg28_3) Y Y (OF.move (tv (tN (Qr g i true)) Y)) (gF (dz fhg28_3) Y Y (B.geq (c:=(decide (2≤Qr g i true))) (tv (tN (Qr g i true)) Y) (VEv.int .i64 2) (by exact Qt (by omega))) (fO (OF.pickF (VEv.tmpB Y (dz fhg28_3)) (tv (tB (decide (2≤Qr g i true))) Y)) (nt ?_)))
   refine cd (2≤Qr g i true) Y (fun fhc1=> ?_) fun fhc1=> ?_
   ·refine VRun.region ?_
    refine mO (tN ((Qg g i).2)) Y (fO (QB (tv (tN ((Qg g i).2)) Y) (VEv.int .i64 1) (by omega)) (aO (tN ((Qg g i).2+1)) Y (VRunO.nil (tn (sq (sr (mO (tN (Qr g i false)) Y (fO (B.geq (c:=(decide (2≤Qr g i false))) (tv (tN (Qr g i false)) Y) (VEv.int .i64 2) (by exact Qt (by omega))) (nt (cg (dz fhg28_3) Y (sk ?_)))))))))))
    refine tn (sr (mO (tN (Qr g i true)) Y (fO (B.geq (c:=(decide (2≤Qr g i true))) (tv (tN (Qr g i true)) Y) (VEv.int .i64 2) (by exact Qt (by omega))) (nt (ck (dy fhc1) Y (VRun.region (mO (T.os 4 1 0 ((((Qg g i).1).map (Qk true)).length)) Y (mO (tN ((Qg g i).2+1)) Y (mO (tN i) Y (mO (tN (Qr g i true)) Y (fO (OF.build (l:= [(0,(tN ((Qg g i).2+1))),(1,(tB true)),(2,(tN i)),(3,(tN (Qr g i true)))]) (zs:= [(tN 0),(tB false),(tN 0),(tN 0)]) (out:= [(tN ((Qg g i).2+1)),(tB true),(tN i),(tN (Qr g i true))]) (VEvp.cons (i:=0) (tv (tN ((Qg g i).2+1)) Y) (VEvp.cons (i:=1) (VEv.bool true) (VEvp.cons (i:=2) (tv (tN i) Y) (VEvp.cons (i:=3) (tv (tN (Qr g i true)) Y) VEvp.nil)))) (bc nofun (bc nofun (bc nofun (bc nofun bn)))) Tryz.underlying128 YN (fun _=>RL.cons (.int _ _) (RL.cons (.bool _) (RL.cons (.int _ _) (RL.cons (.int _ _) (RL.nil _))))) (by kernel_rfl) (by kernel_rfl)) ?_)))))))))))
    refine kO (OM.buildSlice (l:= [(T.agg [(tN ((Qg g i).2+1)),(tB true),(tN i),(tN (Qr g i true))])]) (VEvp.cons (tv (T.agg [(tN ((Qg g i).2+1)),(tB true),(tN i),(tN (Qr g i true))]) Y) VEvp.nil) Y (by decide) (bc (nofun) bn) (bc ((bc (Y) (bc (Y) (bc (Y) (bc (Y) bn))))) bn) (bc (Y) bn) Yj YN (by kernel_rfl) Y (by rw [Zw];decide) Zw (Nat.le_of_ble_eq_true Y)) (cO (B.append (rows:=(((Qg g i).1).map (Qk true))) (rows2:= [[(tN ((Qg g i).2+1)),(tB true),(tN i),(tN (Qr g i true))]]) (rows3:=(((Qg g i).1++ [(D.Slot.mk ((((Qg g i).2+1):Nat):Int) true ((i:Nat):Int) ((Qr g i true:Nat):Int))]).map (Qk true))) (VDst.own (tv (T.os 4 1 0 ((((Qg g i).1).map (Qk true)).length)) Y) Y Y) (VSrc.own (tv (T.os 4 2 0 1) Y) Y Y Yj (bc (bc Y (bc Y (bc Y (bc Y bn)))) bn)) (by decide) Yj Zw (by decide) YN Y (of_decide_eq_true (by kernel_rfl)) (by (simp only [List.length_map,List.length_append,List.length_cons,List.length_nil,List.length_replicate,List.length_set,List.length_drop,List.length_take,Zk] at *;omega)) ((List.map_append (f:=Qk true) (l₁:=(Qg g i).1) (l₂:= [(D.Slot.mk ((((Qg g i).2+1):Nat):Int) true ((i:Nat):Int) ((Qr g i true:Nat):Int))])).symm)) (aO (T.os 4 3 0 ((((Qg g i).1++ [(D.Slot.mk ((((Qg g i).2+1):Nat):Int) true ((i:Nat):Int) ((Qr g i true:Nat):Int))]).map (Qk true)).length)) Y (VRunO.nil (vinB.n (tn (VRun.region (mO (tN i) Y (fO (QB (tv (tN i) Y) (VEv.int .i64 1) (by omega)) (aO (tN (i+1)) Y (VRunO.nil (tn ?_)))))))))))
    have hgo:gridOk g:=by assumption
    have he6:((Qg g i).1++ [(D.Slot.mk ((((Qg g i).2+1):Nat):Int) true ((i:Nat):Int) ((Qr g i true:Nat):Int))])=(Qg g (i+1)).1:=by (rw [YH,Z2];simp [*];done)
    refine ⟨(i+1:Nat),?_,?_,Wk.mk (fun k=>if k=1 then 3 else k) ?_ ?_ ?_⟩
    ·exact ⟨by omega, .inl hgo⟩
    ·omega
    ·exact (b2 (b2 (bc ⟨(congrArg (fun l_=>T.os 4 3 0 (List.map (Qk true) l_).length) he6),rfl⟩ (bc ⟨(congrArg (T.int .i64) (show ((((Qg g i).2+1):Nat):Int)=(((Qg g (i+1)).2:Nat):Int) from (by (rw [Z2];simp [*];done)))),rfl⟩ (b2 bn)))))
    ·exact (b3 (bc ⟨(congrArg (fun l_=>some (Obj.rows 4 (List.map (Qk true) l_))) he6),(lb Y),rfl⟩ bn))
    ·exact nd Y
   refine sk (tn (sq (sr (mO (tN (Qr g i false)) Y (fO (B.geq (c:=(decide (2≤Qr g i false))) (tv (tN (Qr g i false)) Y) (VEv.int .i64 2) (by exact Qt (by omega))) (nt (cg (dz fhg28_3) Y (sk (tn (sr (mO (tN (Qr g i true)) Y ?_)))))))))))
   refine fO (B.geq (c:=(decide (2≤Qr g i true))) (tv (tN (Qr g i true)) Y) (VEv.int .i64 2) (by exact Qt (by omega))) (nt (cg (dz fhc1) Y (sk (vinB.n (tn (VRun.region (mO (tN i) Y (fO (QB (tv (tN i) Y) (VEv.int .i64 1) (by omega)) (aO (tN (i+1)) Y (VRunO.nil (tn ?_)))))))))))
   have hgo:gridOk g:=by assumption
   have he7:(Qg g i).1=(Qg g (i+1)).1:=by (rw [YH,Z2];simp [*];done)
   refine ⟨(i+1:Nat),?_,?_,Wk.mk (fun k=>k) ?_ ?_ ?_⟩
   ·exact ⟨by omega, .inl hgo⟩
   ·omega
   ·exact (b2 (b2 (bc ⟨(congrArg (fun l_=>T.os 4 1 0 (List.map (Qk true) l_).length) he7),rfl⟩ (bc ⟨(congrArg (T.int .i64) (show (((Qg g i).2:Nat):Int)=(((Qg g (i+1)).2:Nat):Int) from (by (rw [Z2];simp [*];done)))),rfl⟩ (b2 bn)))))
   ·exact (b3 (bc ⟨(congrArg (fun l_=>some (Obj.rows 4 (List.map (Qk true) l_))) he7),(lb Y),rfl⟩ bn))
   ·exact nd Y
  refine VRun.exit (vthn.e (vthn.e (vinB.e (tn (sr (mO (T.os 4 1 0 ((((Qg g i).1).map (Qk true)).length)) Y (aO (T.os 4 1 0 ((((Qg g i).1).map (Qk true)).length)) Y (nt (rt ?_)))))))))
  refine vfin.eq (r':=(T.sl true 4 (((Qg g i).1).map (Qk true)))) ?_ (vfin.r (VRes.tmp (t:=(T.os 4 1 0 ((((Qg g i).1).map (Qk true)).length))) Y VRes.nil) (Give.os Y Y (okeSlot.cleanMap _)))
  refine congrArg (fun l_=>T.sl true 4 (List.map (Qk true) l_)) ?_
  refine Qer hI1 hI'.2 ?_;(right;assumption)
 refine QD 2 5 true 14 (dz fhg14_2) Y Y Y (fO (OF.pickF (VEv.tmpB Y (dz fhg14_2)) (VEv.bool false)) (nt (cf Y (VRun.exit (vthn.e (vthn.e (vinB.e (tn (sr (mO (T.os 4 1 0 ((((Qg g i).1).map (Qk true)).length)) Y (aO (T.os 4 1 0 ((((Qg g i).1).map (Qk true)).length)) Y ?_)))))))))))
 refine nt (rt ?_)
 refine vfin.eq (r':=(T.sl true 4 (((Qg g i).1).map (Qk true)))) ?_ (vfin.r (VRes.tmp (t:=(T.os 4 1 0 ((((Qg g i).1).map (Qk true)).length))) Y VRes.nil) (Give.os Y Y (okeSlot.cleanMap _)))
 refine congrArg (fun l_=>T.sl true 4 (List.map (Qk true) l_)) ?_
 refine Qer hI1 hI'.2 ?_;(left;assumption)
theorem Qat (n:Nat) (g:D.Grid) (hc:g.Cells.size≤maxLen):Pure (Qo Tryz.prog (n+3)) 72 [(T.agg (Qc false g))] (T.sl true 4 ((Qa g).map (Qk true))):=by
 refine Pure.intro (rs:= [ResultVar.tmp 2]) Tryz.func72 Y Y Y (E0:= [(0,(T.agg (Qc false g)))]) Y ?_
 obtain ⟨hlim,hmx,hmax⟩:=Qz
 refine sr (kO (B.box (ts:=(Qc false g)) (tv (T.agg (Qc false g)) Y) nofun Y) (fO (OF.assign VEv.nils) (nt (sq (sr (lO (OL.loadOn (us:=(Qc false g)) (tv (T.op 0 0) Y) Y Q6 Q0 (lb Y) Y) (cO (cS (vc (tv (T.agg (Qc false g)) Y) vn) (LendL.cons (lg Qx) ln) (Yu (n+0) g (by assumption)) Y Y) (fO (QU (tv (tB (decide (gridOk g))) Y)) (nt ?_)))))))))
 refine cn (gridOk g) Y (fun fhc0=> ?_) fun fhc0=> ?_
 ·refine sr ?_
  refine fO (OF.assign VEv.nils) (nt (rt (tr ?_)))
  refine vfin.eq (r':=(T.sl true 4 [])) ?_ (vfin.r (VRes.tmp (t:=T.nils) Y VRes.nil) (Give.nils 4))
  refine congrArg (fun l_=>T.sl true 4 (List.map (Qk true) l_)) (a₁:= []) ?_
  exact (Qk1 fhc0).symm
 refine sk (tn (sr (fO (OF.assign VEv.nils) (nt (sr (fO (OF.assign (VEv.int .i64 0)) (nt (sq (sr (lf (tS g.Cells) Y QL Y Y ZG (lO (B.lenS (tv (tS g.Cells) Y) U9) ?_)))))))))))
 refine fO (OF.move (VEv.int .i64 0)) (nt (VRun.block (VRun.wk (Wk.phantom 3 4 Y) ?_)))
 have he1: []=(((Qg g 0).1).map (Qk true)):=by rfl
 refine VRun.loop (A:=Nat) (fun s_=> [(1,(T.op 0 0)),(2,T.nils),(3,(T.os 4 1 0 ((((Qg g s_).1).map (Qk true)).length))),(4,(tN ((Qg g s_).2))),(13,(tN g.Cells.size)),(14,(tN s_))]) (fun s_=>QV [(0,(Obj.cells (Qc false g))),(1,(Obj.rows 4 (((Qg g s_).1).map (Qk true))))]) 2 (fun s_=>s_≤g.Cells.size) (fun s_=>g.Cells.size - s_) (0:Nat) ?_ (Wk.mk (fun k=>k) ?_ ?_ ?_) ?_
 ·(simp;done)
 ·exact (b2 (b2 (bc ⟨(congrArg (fun n_=>T.os 4 1 0 n_) (show 0=(((Qg g 0).1).map (Qk true)).length from (by rfl))),rfl⟩ (bc ⟨(congrArg (T.int .i64) (show 0=(((Qg g 0).2:Nat):Int) from (by rfl))),rfl⟩ (b2 (b2 bn))))))
 ·exact (b3 (bc ⟨(congrArg (fun l_=>some (Obj.rows 4 l_)) he1),(lb Y),rfl⟩ bn))
 ·exact nd Y
 rintro i (hI':i≤g.Cells.size)
 show VRun _ _ _ [(1,(T.op 0 0)),(2,T.nils),(3,(T.os 4 1 0 ((((Qg g i).1).map (Qk true)).length))),(4,(tN ((Qg g i).2))),(13,(tN g.Cells.size)),(14,(tN i))] (QV [(0,(Obj.cells (Qc false g))),(1,(Obj.rows 4 (((Qg g i).1).map (Qk true))))]) 2 _
 have hI1:=hI'
 have hbd:=Qcj g i
 have hgo:gridOk g:=by assumption
 have hsz:=hgo.size
 refine sr (fO (Q9 (tv (tN i) Y) (tv (tN g.Cells.size) Y)) (nt (sq ?_)))
 refine cd (i<g.Cells.size) Y (fun fhc1=> ?_) fun fhc1=> ?_
 ·refine sk ?_
  refine tn (sq (VRun.block (sr (mO (tN i) Y (aO (tN i) Y (nt (sq (VRun.draw (B:= [[],[],[1,0],[],[],[0,1,2,4,3],[3,4,5,0,1,2],[6,3,4,2,1,0,5]]) (by kernel_rfl) (by kernel_rfl) (lD (OL.loadOn (us:=(Qc false g)) (tv (T.op 0 0) Y) Y Q6 Q0 (lb Y) Y) Y Y (mD (tN i) Y Y (VRunD.quiet (bi:= [1,0]) Y VWant.always Y Y Y bn (cS (vc (tv (T.agg (Qc false g)) Y) (vc (tv (tN i) Y) (vc (VEv.bool false) vn))) (LendL.cons (lg Qx) (lp Y (lp Y ln))) (QfL (n+1) g i false (by assumption) (by assumption)) Y Y) ?_)))))))))))
  refine lD (OL.loadOn (us:=(Qc false g)) (tv (T.op 0 0) Y) Y Q6 Q0 (lb Y) Y) Y Y (mD (tN i) Y Y (VRunD.quiet (bi:= [0,1,2,4,3]) Y VWant.always Y Y Y bn (cS (vc (tv (T.agg (Qc false g)) Y) (vc (tv (tN i) Y) (vc (VEv.bool true) vn))) (LendL.cons (lg Qx) (lp Y (lp Y ln))) (QfL (n+1) g i true (by assumption) (by assumption)) Y Y) (fD (OF.assign (tv (tN (Qr g i false)) Y)) Y Y (fD (OF.assign (tv (tN (Qr g i true)) Y)) Y Y (VRunD.nil (tn (sq (sr (mO (tN (Qr g i false)) Y (fO (B.geq (c:=(decide (2≤Qr g i false))) (tv (tN (Qr g i false)) Y) (VEv.int .i64 2) (by exact Qt (by omega))) (mO (tB (decide (2≤Qr g i false))) Y ?_)))))))))))
  refine gw (2≤Qr g i false) (fun fhg25_2=> ?_) fun fhg25_2=> ?_
  ·refine QD 2 2 false 25 (dy fhg25_2) Y Y Y ?_
   refine fO (OF.pickT (VEv.tmpB Y (dy fhg25_2)) (VEv.bool true)) (nt (ct Y (VRun.region (mO (tN ((Qg g i).2)) Y (fO (QB (tv (tN ((Qg g i).2)) Y) (VEv.int .i64 1) (by omega)) (aO (tN ((Qg g i).2+1)) Y (VRunO.nil (tn (sq (sr (mO (tN (Qr g i false)) Y ?_)))))))))))
   refine fO (B.geq (c:=(decide (2≤Qr g i false))) (tv (tN (Qr g i false)) Y) (VEv.int .i64 2) (by exact Qt (by omega))) (nt (ck (dy fhg25_2) Y (VRun.region (mO (T.os 4 1 0 ((((Qg g i).1).map (Qk true)).length)) Y (mO (tN ((Qg g i).2+1)) Y (mO (tN i) Y (mO (tN (Qr g i false)) Y (fO (OF.build (l:= [(0,(tN ((Qg g i).2+1))),(1,(tB false)),(2,(tN i)),(3,(tN (Qr g i false)))]) (zs:= [(tN 0),(tB false),(tN 0),(tN 0)]) (out:= [(tN ((Qg g i).2+1)),(tB false),(tN i),(tN (Qr g i false))]) (VEvp.cons (i:=0) (tv (tN ((Qg g i).2+1)) Y) (VEvp.cons (i:=1) (VEv.bool false) (VEvp.cons (i:=2) (tv (tN i) Y) (VEvp.cons (i:=3) (tv (tN (Qr g i false)) Y) VEvp.nil)))) (bc nofun (bc nofun (bc nofun (bc nofun bn)))) Tryz.underlying128 YN (fun _=>RL.cons (.int _ _) (RL.cons (.bool _) (RL.cons (.int _ _) (RL.cons (.int _ _) (RL.nil _))))) (by kernel_rfl) (by kernel_rfl)) (kO (OM.buildSlice (l:= [(T.agg [(tN ((Qg g i).2+1)),(tB false),(tN i),(tN (Qr g i false))])]) (VEvp.cons (tv (T.agg [(tN ((Qg g i).2+1)),(tB false),(tN i),(tN (Qr g i false))]) Y) VEvp.nil) Y (by decide) (bc (nofun) bn) (bc ((bc (Y) (bc (Y) (bc (Y) (bc (Y) bn))))) bn) (bc (Y) bn) Yj YN (by kernel_rfl) Y (by rw [Zw];decide) Zw (Nat.le_of_ble_eq_true Y)) (cO (B.append (rows:=(((Qg g i).1).map (Qk true))) (rows2:= [[(tN ((Qg g i).2+1)),(tB false),(tN i),(tN (Qr g i false))]]) (rows3:=(((Qg g i).1++ [(D.Slot.mk ((((Qg g i).2+1):Nat):Int) false ((i:Nat):Int) ((Qr g i false:Nat):Int))]).map (Qk true))) (VDst.own (tv (T.os 4 1 0 ((((Qg g i).1).map (Qk true)).length)) Y) Y Y) (VSrc.own (tv (T.os 4 2 0 1) Y) Y Y Yj (bc (bc Y (bc Y (bc Y (bc Y bn)))) bn)) (by decide) Yj Zw (by decide) YN Y (of_decide_eq_true (by kernel_rfl)) (by (simp only [List.length_map,List.length_append,List.length_cons,List.length_nil,List.length_replicate,List.length_set,List.length_drop,List.length_take,Zk] at *;omega)) ((List.map_append (f:=Qk true) (l₁:=(Qg g i).1) (l₂:= [(D.Slot.mk ((((Qg g i).2+1):Nat):Int) false ((i:Nat):Int) ((Qr g i false:Nat):Int))])).symm)) (aO (T.os 4 3 0 ((((Qg g i).1++ [(D.Slot.mk ((((Qg g i).2+1):Nat):Int) false ((i:Nat):Int) ((Qr g i false:Nat):Int))]).map (Qk true)).length)) Y ?_)))))))))))
   refine VRunO.nil (tn (sr (mO (tN (Qr g i true)) Y (fO (B.geq (c:=(decide (2≤Qr g i true))) (tv (tN (Qr g i true)) Y) (VEv.int .i64 2) (by exact Qt (by omega))) (nt ?_)))))
   refine cd (2≤Qr g i true) Y (fun fhc4=> ?_) fun fhc4=> ?_
   ·refine VRun.region ?_
    refine mO (T.os 4 3 0 ((((Qg g i).1++ [(D.Slot.mk ((((Qg g i).2+1):Nat):Int) false ((i:Nat):Int) ((Qr g i false:Nat):Int))]).map (Qk true)).length)) Y (mO (tN ((Qg g i).2+1)) Y (mO (tN i) Y (mO (tN (Qr g i true)) Y (fO (OF.build (l:= [(0,(tN ((Qg g i).2+1))),(1,(tB true)),(2,(tN i)),(3,(tN (Qr g i true)))]) (zs:= [(tN 0),(tB false),(tN 0),(tN 0)]) (out:= [(tN ((Qg g i).2+1)),(tB true),(tN i),(tN (Qr g i true))]) (VEvp.cons (i:=0) (tv (tN ((Qg g i).2+1)) Y) (VEvp.cons (i:=1) (VEv.bool true) (VEvp.cons (i:=2) (tv (tN i) Y) (VEvp.cons (i:=3) (tv (tN (Qr g i true)) Y) VEvp.nil)))) (bc nofun (bc nofun (bc nofun (bc nofun bn)))) Tryz.underlying128 YN (fun _=>RL.cons (.int _ _) (RL.cons (.bool _) (RL.cons (.int _ _) (RL.cons (.int _ _) (RL.nil _))))) (by kernel_rfl) (by kernel_rfl)) (kO (OM.buildSlice (l:= [(T.agg [(tN ((Qg g i).2+1)),(tB true),(tN i),(tN (Qr g i true))])]) (VEvp.cons (tv (T.agg [(tN ((Qg g i).2+1)),(tB true),(tN i),(tN (Qr g i true))]) Y) VEvp.nil) Y (by decide) (bc (nofun) bn) (bc ((bc (Y) (bc (Y) (bc (Y) (bc (Y) bn))))) bn) (bc (Y) bn) Yj YN (by kernel_rfl) Y (by rw [Zw];decide) Zw (Nat.le_of_ble_eq_true Y)) (cO (B.append (rows:=(((Qg g i).1++ [(D.Slot.mk ((((Qg g i).2+1):Nat):Int) false ((i:Nat):Int) ((Qr g i false:Nat):Int))]).map (Qk true))) (rows2:= [[(tN ((Qg g i).2+1)),(tB true),(tN i),(tN (Qr g i true))]]) (rows3:=((((Qg g i).1++ [(D.Slot.mk ((((Qg g i).2+1):Nat):Int) false ((i:Nat):Int) ((Qr g i false:Nat):Int))])++ [(D.Slot.mk ((((Qg g i).2+1):Nat):Int) true ((i:Nat):Int) ((Qr g i true:Nat):Int))]).map (Qk true))) (VDst.own (tv (T.os 4 3 0 ((((Qg g i).1++ [(D.Slot.mk ((((Qg g i).2+1):Nat):Int) false ((i:Nat):Int) ((Qr g i false:Nat):Int))]).map (Qk true)).length)) Y) Y Y) (VSrc.own (tv (T.os 4 4 0 1) Y) Y Y Yj (bc (bc Y (bc Y (bc Y (bc Y bn)))) bn)) (by decide) Yj Zw (by decide) YN Y (of_decide_eq_true (by kernel_rfl)) (by (simp only [List.length_map,List.length_append,List.length_cons,List.length_nil,List.length_replicate,List.length_set,List.length_drop,List.length_take,Zk] at *;omega)) ((List.map_append (f:=Qk true) (l₁:=((Qg g i).1++ [(D.Slot.mk ((((Qg g i).2+1):Nat):Int) false ((i:Nat):Int) ((Qr g i false:Nat):Int))])) (l₂:= [(D.Slot.mk ((((Qg g i).2+1):Nat):Int) true ((i:Nat):Int) ((Qr g i true:Nat):Int))])).symm)) (aO (T.os 4 5 0 (((((Qg g i).1++ [(D.Slot.mk ((((Qg g i).2+1):Nat):Int) false ((i:Nat):Int) ((Qr g i false:Nat):Int))])++ [(D.Slot.mk ((((Qg g i).2+1):Nat):Int) true ((i:Nat):Int) ((Qr g i true:Nat):Int))]).map (Qk true)).length)) Y (VRunO.nil (vinB.n (tn (VRun.region ?_)))))))))))
    refine fO (QB (tv (tN i) Y) (VEv.int .i64 1) (by omega)) (mO (tN (i+1)) Y (VRunO.nil (tn ?_)))
    have he3:(((Qg g i).1++ [(D.Slot.mk ((((Qg g i).2+1):Nat):Int) false ((i:Nat):Int) ((Qr g i false:Nat):Int))])++ [(D.Slot.mk ((((Qg g i).2+1):Nat):Int) true ((i:Nat):Int) ((Qr g i true:Nat):Int))])=(Qg g (i+1)).1:=by (rw [YH,Z2];simp [*];done)
    refine ⟨(i+1:Nat),?_,?_,Wk.mk (fun k=>if k=1 then 5 else k) ?_ ?_ ?_⟩
    ·trivial
    ·omega
    ·exact (b2 (b2 (bc ⟨(congrArg (fun l_=>T.os 4 5 0 (List.map (Qk true) l_).length) he3),rfl⟩ (bc ⟨(congrArg (T.int .i64) (show ((((Qg g i).2+1):Nat):Int)=(((Qg g (i+1)).2:Nat):Int) from (by (rw [Z2];simp [*];done)))),rfl⟩ (b2 (b2 bn))))))
    ·exact (b3 (bc ⟨(congrArg (fun l_=>some (Obj.rows 4 (List.map (Qk true) l_))) he3),(lb Y),rfl⟩ bn))
    ·exact nd Y
   refine sk (vinB.n (tn (VRun.region (fO (QB (tv (tN i) Y) (VEv.int .i64 1) (by omega)) (mO (tN (i+1)) Y (VRunO.nil (tn ?_)))))))
   have he4:((Qg g i).1++ [(D.Slot.mk ((((Qg g i).2+1):Nat):Int) false ((i:Nat):Int) ((Qr g i false:Nat):Int))])=(Qg g (i+1)).1:=by (rw [YH,Z2];simp [*];done)
   refine ⟨(i+1:Nat),?_,?_,Wk.mk (fun k=>if k=1 then 3 else k) ?_ ?_ ?_⟩
   ·trivial
   ·omega
   ·exact (b2 (b2 (bc ⟨(congrArg (fun l_=>T.os 4 3 0 (List.map (Qk true) l_).length) he4),rfl⟩ (bc ⟨(congrArg (T.int .i64) (show ((((Qg g i).2+1):Nat):Int)=(((Qg g (i+1)).2:Nat):Int) from (by (rw [Z2];simp [*];done)))),rfl⟩ (b2 (b2 bn))))))
   ·exact (b3 (bc ⟨(congrArg (fun l_=>some (Obj.rows 4 (List.map (Qk true) l_))) he4),(lb Y),rfl⟩ bn))
   ·exact nd Y
  refine gF (dz fhg25_2) Y Y (OF.move (tv (tN (Qr g i true)) Y)) (gF (dz fhg25_2) Y Y (B.geq (c:=(decide (2≤Qr g i true))) (tv (tN (Qr g i true)) Y) (VEv.int .i64 2) (by exact Qt (by omega))) (fO (OF.pickF (VEv.tmpB Y (dz fhg25_2)) (tv (tB (decide (2≤Qr g i true))) Y)) (nt ?_)))
  refine cd (2≤Qr g i true) Y (fun fhc2=> ?_) fun fhc2=> ?_
  ·refine VRun.region ?_
   refine mO (tN ((Qg g i).2)) Y (fO (QB (tv (tN ((Qg g i).2)) Y) (VEv.int .i64 1) (by omega)) (aO (tN ((Qg g i).2+1)) Y (VRunO.nil (tn (sq (sr (mO (tN (Qr g i false)) Y (fO (B.geq (c:=(decide (2≤Qr g i false))) (tv (tN (Qr g i false)) Y) (VEv.int .i64 2) (by exact Qt (by omega))) (nt (cg (dz fhg25_2) Y (sk ?_)))))))))))
   refine tn (sr (mO (tN (Qr g i true)) Y (fO (B.geq (c:=(decide (2≤Qr g i true))) (tv (tN (Qr g i true)) Y) (VEv.int .i64 2) (by exact Qt (by omega))) (nt (ck (dy fhc2) Y (VRun.region (mO (T.os 4 1 0 ((((Qg g i).1).map (Qk true)).length)) Y (mO (tN ((Qg g i).2+1)) Y (mO (tN i) Y (mO (tN (Qr g i true)) Y (fO (OF.build (l:= [(0,(tN ((Qg g i).2+1))),(1,(tB true)),(2,(tN i)),(3,(tN (Qr g i true)))]) (zs:= [(tN 0),(tB false),(tN 0),(tN 0)]) (out:= [(tN ((Qg g i).2+1)),(tB true),(tN i),(tN (Qr g i true))]) (VEvp.cons (i:=0) (tv (tN ((Qg g i).2+1)) Y) (VEvp.cons (i:=1) (VEv.bool true) (VEvp.cons (i:=2) (tv (tN i) Y) (VEvp.cons (i:=3) (tv (tN (Qr g i true)) Y) VEvp.nil)))) (bc nofun (bc nofun (bc nofun (bc nofun bn)))) Tryz.underlying128 YN (fun _=>RL.cons (.int _ _) (RL.cons (.bool _) (RL.cons (.int _ _) (RL.cons (.int _ _) (RL.nil _))))) (by kernel_rfl) (by kernel_rfl)) ?_)))))))))))
   refine kO (OM.buildSlice (l:= [(T.agg [(tN ((Qg g i).2+1)),(tB true),(tN i),(tN (Qr g i true))])]) (VEvp.cons (tv (T.agg [(tN ((Qg g i).2+1)),(tB true),(tN i),(tN (Qr g i true))]) Y) VEvp.nil) Y (by decide) (bc (nofun) bn) (bc ((bc (Y) (bc (Y) (bc (Y) (bc (Y) bn))))) bn) (bc (Y) bn) Yj YN (by kernel_rfl) Y (by rw [Zw];decide) Zw (Nat.le_of_ble_eq_true Y)) (cO (B.append (rows:=(((Qg g i).1).map (Qk true))) (rows2:= [[(tN ((Qg g i).2+1)),(tB true),(tN i),(tN (Qr g i true))]]) (rows3:=(((Qg g i).1++ [(D.Slot.mk ((((Qg g i).2+1):Nat):Int) true ((i:Nat):Int) ((Qr g i true:Nat):Int))]).map (Qk true))) (VDst.own (tv (T.os 4 1 0 ((((Qg g i).1).map (Qk true)).length)) Y) Y Y) (VSrc.own (tv (T.os 4 2 0 1) Y) Y Y Yj (bc (bc Y (bc Y (bc Y (bc Y bn)))) bn)) (by decide) Yj Zw (by decide) YN Y (of_decide_eq_true (by kernel_rfl)) (by (simp only [List.length_map,List.length_append,List.length_cons,List.length_nil,List.length_replicate,List.length_set,List.length_drop,List.length_take,Zk] at *;omega)) ((List.map_append (f:=Qk true) (l₁:=(Qg g i).1) (l₂:= [(D.Slot.mk ((((Qg g i).2+1):Nat):Int) true ((i:Nat):Int) ((Qr g i true:Nat):Int))])).symm)) (aO (T.os 4 3 0 ((((Qg g i).1++ [(D.Slot.mk ((((Qg g i).2+1):Nat):Int) true ((i:Nat):Int) ((Qr g i true:Nat):Int))]).map (Qk true)).length)) Y (VRunO.nil (vinB.n (tn (VRun.region (fO (QB (tv (tN i) Y) (VEv.int .i64 1) (by omega)) (mO (tN (i+1)) Y (VRunO.nil (tn ?_))))))))))
   have he5:((Qg g i).1++ [(D.Slot.mk ((((Qg g i).2+1):Nat):Int) true ((i:Nat):Int) ((Qr g i true:Nat):Int))])=(Qg g (i+1)).1:=by (rw [YH,Z2];simp [*];done)
   refine ⟨(i+1:Nat),?_,?_,Wk.mk (fun k=>if k=1 then 3 else k) ?_ ?_ ?_⟩
   ·trivial
   ·omega
   ·exact (b2 (b2 (bc ⟨(congrArg (fun l_=>T.os 4 3 0 (List.map (Qk true) l_).length) he5),rfl⟩ (bc ⟨(congrArg (T.int .i64) (show ((((Qg g i).2+1):Nat):Int)=(((Qg g (i+1)).2:Nat):Int) from (by (rw [Z2];simp [*];done)))),rfl⟩ (b2 (b2 bn))))))
   ·exact (b3 (bc ⟨(congrArg (fun l_=>some (Obj.rows 4 (List.map (Qk true) l_))) he5),(lb Y),rfl⟩ bn))
   ·exact nd Y
  refine sk (tn (sq (sr (mO (tN (Qr g i false)) Y (fO (B.geq (c:=(decide (2≤Qr g i false))) (tv (tN (Qr g i false)) Y) (VEv.int .i64 2) (by exact Qt (by omega))) (nt (cg (dz fhg25_2) Y (sk (tn (sr (mO (tN (Qr g i true)) Y ?_)))))))))))
  refine fO (B.geq (c:=(decide (2≤Qr g i true))) (tv (tN (Qr g i true)) Y) (VEv.int .i64 2) (by exact Qt (by omega))) (nt (cg (dz fhc2) Y (sk (vinB.n (tn (VRun.region (fO (QB (tv (tN i) Y) (VEv.int .i64 1) (by omega)) (mO (tN (i+1)) Y (VRunO.nil (tn ?_))))))))))
  have he6:(Qg g i).1=(Qg g (i+1)).1:=by (rw [YH,Z2];simp [*];done)
  refine ⟨(i+1:Nat),?_,?_,Wk.mk (fun k=>k) ?_ ?_ ?_⟩
  ·trivial
  ·omega
  ·exact (b2 (b2 (bc ⟨(congrArg (fun l_=>T.os 4 1 0 (List.map (Qk true) l_).length) he6),rfl⟩ (bc ⟨(congrArg (T.int .i64) (show (((Qg g i).2:Nat):Int)=(((Qg g (i+1)).2:Nat):Int) from (by (rw [Z2];simp [*];done)))),rfl⟩ (b2 (b2 bn))))))
  ·exact (b3 (bc ⟨(congrArg (fun l_=>some (Obj.rows 4 (List.map (Qk true) l_))) he6),(lb Y),rfl⟩ bn))
  ·exact nd Y
 refine VRun.exit (vthn.e (vthn.e (vinB.e (tn (sr (mO (T.os 4 1 0 ((((Qg g i).1).map (Qk true)).length)) Y (aO (T.os 4 1 0 ((((Qg g i).1).map (Qk true)).length)) Y (nt (rt ?_)))))))))
 refine vfin.eq (r':=(T.sl true 4 (((Qg g i).1).map (Qk true)))) ?_ (vfin.r (VRes.tmp (t:=(T.os 4 1 0 ((((Qg g i).1).map (Qk true)).length))) Y VRes.nil) (Give.os Y Y (okeSlot.cleanMap _)))
 refine congrArg (fun l_=>T.sl true 4 (List.map (Qk true) l_)) ?_
 refine Qer hI1 (.inl hgo) ?_;left;assumption
noncomputable section
def QcW (g:D.Grid):Prop:=∃s∈Qa g,s.Length<3
instance (g:D.Grid):Decidable (QcW g):=Classical.propDecidable _
end
theorem Qe1 (n:Nat) (g:D.Grid) (hc:g.Cells.size≤maxLen):Pure (Qo Tryz.prog (n+4)) 105 [(T.agg (Qc false g))] (tB (decide (QcW g))):=by
 refine Pure.intro (rs:= [ResultVar.tmp 2]) Tryz.func105 Y Y Y (E0:= [(0,(T.agg (Qc false g)))]) Y ?_
 obtain ⟨hlim,hmx,hmax⟩:=Qz
 have hsl:=Zq g
 refine sr (kO (B.box (ts:=(Qc false g)) (tv (T.agg (Qc false g)) Y) nofun Y) (fO (OF.assign (VEv.bool false)) (nt (sr (lO (OL.loadOn (us:=(Qc false g)) (tv (T.op 0 0) Y) Y Q6 Q0 (lb Y) Y) (cO (OC.callF (r':=(T.os 4 1 0 (((Qa g).map (Qk true)).length))) (objs:= [(Obj.rows 4 ((Qa g).map (Qk true)))]) Y (vc (tv (T.agg (Qc false g)) Y) vn) (LendL.cons (lg Qx) ln) (ZI (n+0) g (by assumption)) Y) (aO (T.os 4 1 0 (((Qa g).map (Qk true)).length)) Y (nt (sq (sr (fO (OF.assign (VEv.int .i64 0)) ?_)))))))))))
 refine nt (VRun.block ?_)
 refine VRun.loop (A:=Nat) (fun s_=> [(3,(T.os 4 0 0 (((Qa g).map (Qk true)).length))),(4,(tN s_))]) (fun s_=>QV [(0,(Obj.rows 4 ((Qa g).map (Qk true))))]) 1 (fun s_=>NoneTo (fun s:D.Slot=>s.Length<3) (Qa g) s_) (fun s_=>(Qa g).length - s_) (0:Nat) ?_ (Wk.mk (fun k=>if k=0 then 1 else k) ?_ ?_ ?_) ?_
 ·exact NoneTo.start _ _
 ·exact (b2 (b2 bn))
 ·exact (b3 bn)
 ·exact nd Y
 rintro i (hI':NoneTo (fun s:D.Slot=>s.Length<3) (Qa g) i)
 show VRun _ _ _ [(3,(T.os 4 0 0 (((Qa g).map (Qk true)).length))),(4,(tN i))] (QV [(0,(Obj.rows 4 ((Qa g).map (Qk true))))]) 1 _
 have hI1:=hI'.1
 refine sq (sr (mO (tN i) Y (mO (T.os 4 0 0 (((Qa g).map (Qk true)).length)) Y (lO (B.lenO (m:=(Qa g).length) (tv (T.os 4 0 0 (((Qa g).map (Qk true)).length)) Y) Yj (List.length_map ..)) (fO (Q9 (tv (tN i) Y) (tv (tN ((Qa g).length)) Y)) (nt ?_))))))
 refine cd (i<(Qa g).length) Y (fun fhc0=> ?_) fun fhc0=> ?_
 ·refine sk ?_
  refine tn (sq (VRun.block (sr (mO (T.os 4 0 0 (((Qa g).map (Qk true)).length)) Y (mO (tN i) Y ?_)))))
  obtain ⟨x1,hx1⟩:∃x,(Qa g)[i]? =some x:=⟨_,List.getElem?_eq_getElem (by omega)⟩
  refine fO (B.indexAddrO (i:=i) (tv (T.os 4 0 0 (((Qa g).map (Qk true)).length)) Y) (tv (tN i) Y) Y (by (simp only [List.length_map];omega)) Yj Zw QbJ) (fO (OF.fieldAddrP (tv (T.orp 4 0 i 0) Y) QbA) (lO (OL.loadP1 (t:=(tI x1.Length)) (row:=(Qk true x1)) (tv (T.orp 4 0 i 3) Y) Y (Qu _ hx1) Y Y QS) (fO (xls (tv (tI x1.Length) Y) (VEv.int .i64 3)) (nt ?_))))
  refine cd (x1.Length<3) Y (fun fhc1=> ?_) fun fhc1=> ?_
  ·refine sr ?_
   refine fO (OF.assign (VEv.bool true)) (nt (rt (vinB.r (tr (tr (vinB.r (tr (vb (b':=true) Y ?_))))))))
   symm;rw [decide_eq_true_eq];exact ⟨x1,List.mem_of_getElem? hx1,fhc1⟩
  refine sk (vinB.n (tn (VRun.region (mO (tN i) Y (fO (QB (tv (tN i) Y) (VEv.int .i64 1) (by omega)) (aO (tN (i+1)) Y (VRunO.nil (tn ?_))))))))
  refine ⟨(i+1:Nat),?_,?_,Wk.mk (fun k=>k) ?_ ?_ ?_⟩
  ·exact hI'.next hx1 fhc1
  ·omega
  ·exact (b2 (b2 bn))
  ·exact (b3 bn)
  ·exact nd Y
 refine VRun.exit (vthn.e (vthn.e (vinB.e (tn (sr (fO (OF.assign (VEv.bool false)) (nt (rt (vb (b':=false) Y ?_)))))))))
 symm;rw [decide_eq_false_iff_not];rintro ⟨y,hy,hy2⟩;exact hI'.mem fhc0 y hy hy2
noncomputable section
def Qgt (g:D.Grid) (s:D.Slot):Int:=if s.Down=true then g.Cols else 1
def Ql (g:D.Grid) (s:D.Slot) (n:Nat):List Int:=(List.range n).map fun k=>s.Cell+((k:Nat):Int)*Qgt g s
theorem Qas (g:D.Grid) (s:D.Slot) (n:Nat):(Ql g s n).length=n:=by simp [Ql]
theorem QaA (g:D.Grid) (s:D.Slot) (n:Nat):Ql g s (n+1)=Ql g s n++ [s.Cell+((n:Nat):Int)*Qgt g s]:=by
 simp [Ql,List.range_succ]
def QhM (g:D.Grid) (s:D.Slot):Prop:=gridOk g∧(0≤s.Cell∧s.Cell≤36)∧(0≤s.Length∧s.Length≤6)
theorem QhL {ok:Nat→Prop} [DecidablePred ok]:∀f n,QaV ok f n≤n+f
 | 0,n=>Nat.le_refl _
 | f+1,n=>by
  simp only [QaV]
  split
  ·have:=QhL (ok:=ok) f (n+1)
   omega
  ·omega
theorem Qjt (g:D.Grid) (cell:Nat) (down:Bool):Qr g cell down≤6:=by
 unfold Qr Qhp Qg8
 split<;>split<;>first | omega | (have:=QhL (ok:=slD g cell) 6 0;omega) | (have:=QhL (ok:=slA g cell) 6 0;omega)
theorem Qhn (g:D.Grid) (hg:gridOk g):∀i,i≤g.Cells.size→∀s∈(Qg g i).1,QhM g s
 | 0,_,s,hs=>by simp [Qg] at hs
 | i+1,hi,s,hs=>by
  have hsz:=hg.size
  rw [YH,List.mem_append,List.mem_append] at hs
  rcases hs with (hs | hs) | hs
  ·exact Qhn g hg i (by omega) s hs
  ·split at hs
   ·obtain rfl:=List.mem_singleton.1 hs
    have:=Qjt g i false
    exact ⟨hg,by simp only;omega,by simp only;omega⟩
   ·cases hs
  ·split at hs
   ·obtain rfl:=List.mem_singleton.1 hs
    have:=Qjt g i true
    exact ⟨hg,by simp only;omega,by simp only;omega⟩
   ·cases hs
theorem Qbl {g:D.Grid} {s:D.Slot} (hs:s∈Qa g):QhM g s:=by
 unfold Qa at hs
 split at hs
 ·exact Qhn g ‹_› _ (Nat.le_refl _) s hs
 ·cases hs
end
theorem QhT (n:Nat) (g:D.Grid) (s:D.Slot) (hs:QhM g s):Pure (Qo Tryz.prog (n+1)) 166 [(T.agg (Qc false g)),(T.agg (Qk false s))] (T.sl true 1 ((Ql g s s.Length.toNat).map (Qe true))):=by
 refine Pure.intro (rs:= [ResultVar.tmp 4]) Tryz.func166 Y Y Y (E0:= [(0,(T.agg (Qc false g))),(1,(T.agg (Qk false s)))]) Y ?_
 obtain ⟨hlim,hmx,hmax⟩:=Qz
 obtain ⟨hg,hc,hl⟩:=hs
 have hB:=hg.2.1
 refine sr (kO (B.box (ts:=(Qc false g)) (tv (T.agg (Qc false g)) Y) nofun Y) (kO (B.box (ts:=(Qk false s)) (tv (T.agg (Qk false s)) Y) nofun Y) (fO (OF.assign VEv.nils) (nt (sr (fO (OF.assign (VEv.int .i64 1)) (nt (sq (sr (lf (tB s.Down) Y Qkn Y Y st4 (nt ?_)))))))))))
 refine VRun.cond (tv (tB s.Down) Y) (fun hc0=> ?_) (fun hc0=> ?_)
 ·have fhc0:s.Down=true:=hc0
  refine VRun.region (lf (tI g.Cols) Y ZD Y Y QS (aO (tI g.Cols) Y (VRunO.nil (tn (sr (fO (OF.assign VEv.nils) (nt (sq (sr (lf (tI s.Length) Y QbA Y Y QS (fO (OF.move (VEv.int .i64 0)) ?_)))))))))))
  refine nt (VRun.block (VRun.wk (Wk.phantom 6 1 Y) ?_))
  have he1: []=((Ql g s 0).map (Qe true)):=by rfl
  refine VRun.loop (A:=Nat) (fun s_=> [(3,(T.op 0 0)),(4,T.nils),(5,(tI g.Cols)),(6,(T.os 1 1 0 (((Ql g s s_).map (Qe true)).length))),(13,(tI s.Length)),(14,(tN s_))]) (fun s_=>QV [(0,(Obj.cells (Qk false s))),(1,(Obj.rows 1 ((Ql g s s_).map (Qe true))))]) 2 (fun s_=>s_≤s.Length.toNat) (fun s_=>s.Length.toNat - s_) (0:Nat) ?_ (Wk.mk (fun k=>if k=0 then 1 else if k=1 then 2 else k) ?_ ?_ ?_) ?_
  ·(simp;done)
  ·exact (b2 (b2 (b2 (bc ⟨(congrArg (fun n_=>T.os 1 2 0 n_) (show 0=((Ql g s 0).map (Qe true)).length from (by rfl))),rfl⟩ (b2 (b2 bn))))))
  ·exact (b3 (bc ⟨(congrArg (fun l_=>some (Obj.rows 1 l_)) he1),(lb Y),rfl⟩ bn))
  ·exact nd Y
  rintro i (hI':i≤s.Length.toNat)
  show VRun _ _ _ [(3,(T.op 0 0)),(4,T.nils),(5,(tI g.Cols)),(6,(T.os 1 1 0 (((Ql g s i).map (Qe true)).length))),(13,(tI s.Length)),(14,(tN i))] (QV [(0,(Obj.cells (Qk false s))),(1,(Obj.rows 1 ((Ql g s i).map (Qe true))))]) 2 _
  have hI1:=hI'
  have hN:=Qfg (n:=i) (c:=g.Cols) (by omega) hB.1 hB.2
  have hcl:=Qas g s i
  refine sr (fO (xls (tv (tN i) Y) (tv (tI s.Length) Y)) (nt (sq ?_)))
  refine cd (((i:Nat):Int)<s.Length) Y (fun fhc1=> ?_) fun fhc1=> ?_
  ·refine sk ?_
   refine tn (sq (VRun.block (sr (mO (tN i) Y (aO (tN i) Y (nt (VRun.region (mO (T.os 1 1 0 (((Ql g s i).map (Qe true)).length)) Y (lf (tI s.Cell) Y Qfw Y Y QS (mO (tN i) Y (mO (tI g.Cols) Y ?_)))))))))))
   refine fO (B.mul (n:=(((i:Nat):Int)*g.Cols)) (tv (tN i) Y) (tv (tI g.Cols) Y) (by (refine Qhz ?_ ?_ ?_<;>omega))) (fO (B.add (n:=(s.Cell+(((i:Nat):Int)*g.Cols))) (tv (tI s.Cell) Y) (tv (tI (((i:Nat):Int)*g.Cols)) Y) (by (rw [Qs (by omega)];done))) (kO (OM.buildSlice (l:= [(tI (s.Cell+(((i:Nat):Int)*g.Cols)))]) (VEvp.cons (tv (tI (s.Cell+(((i:Nat):Int)*g.Cols))) Y) VEvp.nil) Y (by decide) (bc (nofun) bn) (bc ((bc (Y) bn)) bn) (bc (Y) bn) Yi zo3 (by kernel_rfl) Y (by rw [ZJ];decide) ZJ (Nat.le_of_ble_eq_true Y)) (cO (B.append (rows:=((Ql g s i).map (Qe true))) (rows2:= [[(tI (s.Cell+(((i:Nat):Int)*g.Cols)))]]) (rows3:=((Ql g s i++ [(s.Cell+(((i:Nat):Int)*g.Cols))]).map (Qe true))) (VDst.own (tv (T.os 1 1 0 (((Ql g s i).map (Qe true)).length)) Y) Y Y) (VSrc.own (tv (T.os 1 2 0 1) Y) Y Y Yi (bc (bc Y bn) bn)) (by decide) Yi ZJ (by decide) zo3 Y (of_decide_eq_true (by kernel_rfl)) (by (simp only [List.length_map,List.length_append,List.length_cons,List.length_nil,List.length_replicate,List.length_set,List.length_drop,List.length_take,Zk] at *;omega)) ((List.map_append (f:=Qe true) (l₁:=Ql g s i) (l₂:= [(s.Cell+(((i:Nat):Int)*g.Cols))])).symm)) (aO (T.os 1 3 0 (((Ql g s i++ [(s.Cell+(((i:Nat):Int)*g.Cols))]).map (Qe true)).length)) Y (VRunO.nil (vinB.n (tn (VRun.region (fO (QB (tv (tN i) Y) (VEv.int .i64 1) (by omega)) (mO (tN (i+1)) Y (VRunO.nil ?_)))))))))))
   refine tn ?_
   have he2:(Ql g s i++ [(s.Cell+(((i:Nat):Int)*g.Cols))])=Ql g s (i+1):=by rw [QaA,Qgt,if_pos fhc0]
   refine ⟨(i+1:Nat),?_,?_,Wk.mk (fun k=>if k=1 then 3 else k) ?_ ?_ ?_⟩
   ·omega
   ·omega
   ·exact (b2 (b2 (b2 (bc ⟨(congrArg (fun l_=>T.os 1 3 0 (List.map (Qe true) l_).length) he2),rfl⟩ (b2 (b2 bn))))))
   ·exact (b3 (bc ⟨(congrArg (fun l_=>some (Obj.rows 1 (List.map (Qe true) l_))) he2),(lb Y),rfl⟩ bn))
   ·exact nd Y
  refine VRun.exit (vthn.e (vthn.e (vinB.e (tn (sr (mO (T.os 1 1 0 (((Ql g s i).map (Qe true)).length)) Y (aO (T.os 1 1 0 (((Ql g s i).map (Qe true)).length)) Y (nt (rt ?_)))))))))
  refine vfin.eq (r':=(T.sl true 1 ((Ql g s i).map (Qe true)))) ?_ (vfin.r (VRes.tmp (t:=(T.os 1 1 0 (((Ql g s i).map (Qe true)).length))) Y VRes.nil) (Give.os Y Y (okInt.cleanMap _)))
  refine congrArg (fun l_=>T.sl true 1 (List.map (Qe true) l_)) ?_
  rw [show i=s.Length.toNat from by omega]
 have fhc0:s.Down=false:=hc0
 refine sk (tn (sr (fO (OF.assign VEv.nils) (nt (sq (sr (lf (tI s.Length) Y QbA Y Y QS (fO (OF.move (VEv.int .i64 0)) (nt (VRun.block (VRun.wk (Wk.phantom 6 1 Y) ?_)))))))))))
 have he3: []=((Ql g s 0).map (Qe true)):=by rfl
 refine VRun.loop (A:=Nat) (fun s_=> [(3,(T.op 0 0)),(4,T.nils),(5,(tN 1)),(6,(T.os 1 1 0 (((Ql g s s_).map (Qe true)).length))),(13,(tI s.Length)),(14,(tN s_))]) (fun s_=>QV [(0,(Obj.cells (Qk false s))),(1,(Obj.rows 1 ((Ql g s s_).map (Qe true))))]) 2 (fun s_=>s_≤s.Length.toNat) (fun s_=>s.Length.toNat - s_) (0:Nat) ?_ (Wk.mk (fun k=>if k=0 then 1 else if k=1 then 2 else k) ?_ ?_ ?_) ?_
 ·(simp;done)
 ·exact (b2 (b2 (b2 (bc ⟨(congrArg (fun n_=>T.os 1 2 0 n_) (show 0=((Ql g s 0).map (Qe true)).length from (by rfl))),rfl⟩ (b2 (b2 bn))))))
 ·exact (b3 (bc ⟨(congrArg (fun l_=>some (Obj.rows 1 l_)) he3),(lb Y),rfl⟩ bn))
 ·exact nd Y
 rintro i (hI':i≤s.Length.toNat)
 show VRun _ _ _ [(3,(T.op 0 0)),(4,T.nils),(5,(tN 1)),(6,(T.os 1 1 0 (((Ql g s i).map (Qe true)).length))),(13,(tI s.Length)),(14,(tN i))] (QV [(0,(Obj.cells (Qk false s))),(1,(Obj.rows 1 ((Ql g s i).map (Qe true))))]) 2 _
 have hI1:=hI'
 have hN:=Qfg (n:=i) (c:=g.Cols) (by omega) hB.1 hB.2
 have hcl:=Qas g s i
 refine sr (fO (xls (tv (tN i) Y) (tv (tI s.Length) Y)) (nt (sq ?_)))
 refine cd (((i:Nat):Int)<s.Length) Y (fun fhc1=> ?_) fun fhc1=> ?_
 ·refine sk ?_
  refine tn (sq (VRun.block (sr (mO (tN i) Y (aO (tN i) Y (nt (VRun.region (mO (T.os 1 1 0 (((Ql g s i).map (Qe true)).length)) Y (lf (tI s.Cell) Y Qfw Y Y QS (mO (tN i) Y (mO (tN 1) Y ?_)))))))))))
  refine fO (B.mul (n:=(((i*1):Nat):Int)) (tv (tN i) Y) (tv (tN 1) Y) (by (rw [Qs (by omega)];omega))) (fO (B.add (n:=(s.Cell+(((i*1):Nat):Int))) (tv (tI s.Cell) Y) (tv (tN (i*1)) Y) (by (rw [Qs (by omega)];done))) (kO (OM.buildSlice (l:= [(tI (s.Cell+(((i*1):Nat):Int)))]) (VEvp.cons (tv (tI (s.Cell+(((i*1):Nat):Int))) Y) VEvp.nil) Y (by decide) (bc (nofun) bn) (bc ((bc (Y) bn)) bn) (bc (Y) bn) Yi zo3 (by kernel_rfl) Y (by rw [ZJ];decide) ZJ (Nat.le_of_ble_eq_true Y)) (cO (B.append (rows:=((Ql g s i).map (Qe true))) (rows2:= [[(tI (s.Cell+(((i*1):Nat):Int)))]]) (rows3:=((Ql g s i++ [(s.Cell+(((i*1):Nat):Int))]).map (Qe true))) (VDst.own (tv (T.os 1 1 0 (((Ql g s i).map (Qe true)).length)) Y) Y Y) (VSrc.own (tv (T.os 1 2 0 1) Y) Y Y Yi (bc (bc Y bn) bn)) (by decide) Yi ZJ (by decide) zo3 Y (of_decide_eq_true (by kernel_rfl)) (by (simp only [List.length_map,List.length_append,List.length_cons,List.length_nil,List.length_replicate,List.length_set,List.length_drop,List.length_take,Zk] at *;omega)) ((List.map_append (f:=Qe true) (l₁:=Ql g s i) (l₂:= [(s.Cell+(((i*1):Nat):Int))])).symm)) (aO (T.os 1 3 0 (((Ql g s i++ [(s.Cell+(((i*1):Nat):Int))]).map (Qe true)).length)) Y (VRunO.nil (vinB.n (tn (VRun.region (fO (QB (tv (tN i) Y) (VEv.int .i64 1) (by omega)) (mO (tN (i+1)) Y (VRunO.nil ?_)))))))))))
  refine tn ?_
  have he4:(Ql g s i++ [(s.Cell+(((i*1):Nat):Int))])=Ql g s (i+1):=by (rw [QaA,Qgt,fhc0];rfl)
  refine ⟨(i+1:Nat),?_,?_,Wk.mk (fun k=>if k=1 then 3 else k) ?_ ?_ ?_⟩
  ·omega
  ·omega
  ·exact (b2 (b2 (b2 (bc ⟨(congrArg (fun l_=>T.os 1 3 0 (List.map (Qe true) l_).length) he4),rfl⟩ (b2 (b2 bn))))))
  ·exact (b3 (bc ⟨(congrArg (fun l_=>some (Obj.rows 1 (List.map (Qe true) l_))) he4),(lb Y),rfl⟩ bn))
  ·exact nd Y
 refine VRun.exit (vthn.e (vthn.e (vinB.e (tn (sr (mO (T.os 1 1 0 (((Ql g s i).map (Qe true)).length)) Y (aO (T.os 1 1 0 (((Ql g s i).map (Qe true)).length)) Y (nt (rt ?_)))))))))
 refine vfin.eq (r':=(T.sl true 1 ((Ql g s i).map (Qe true)))) ?_ (vfin.r (VRes.tmp (t:=(T.os 1 1 0 (((Ql g s i).map (Qe true)).length))) Y VRes.nil) (Give.os Y Y (okInt.cleanMap _)))
 refine congrArg (fun l_=>T.sl true 1 (List.map (Qe true) l_)) ?_
 rw [show i=s.Length.toNat from by omega]
noncomputable section
def QP (g:D.Grid):List (List Int):=(Qa g).map fun s=>Ql g s s.Length.toNat
theorem QkP {g:D.Grid} {i:Nat} {s:D.Slot} (h:(Qa g)[i]? =some s):(QP g).take (i+1)=(QP g).take i++ [Ql g s s.Length.toNat]:=by
 unfold QP
 rw [List.take_add_one,List.getElem?_map,h]
 rfl
theorem Qbc (g:D.Grid):(QP g).length=(Qa g).length:=by simp [QP]
end
theorem JJ (n:Nat) (g:D.Grid) (hc:g.Cells.size≤maxLen):Pure (Qo Tryz.prog (n+4)) 133 [(T.agg (Qc false g))] (T.sl true 1 ((QP g).map ((Jg 1 Qe) true))):=by
 refine Pure.intro (rs:= [ResultVar.tmp 2]) Tryz.func133 Y Y Y (E0:= [(0,(T.agg (Qc false g)))]) Y ?_
 obtain ⟨hlim,hmx,hmax⟩:=Qz
 have hsl:=Zq g
 have hll:=Qbc g
 refine sr (kO (B.box (ts:=(Qc false g)) (tv (T.agg (Qc false g)) Y) nofun Y) (fO (OF.assign VEv.nils) (nt (sr (fO (OF.assign VEv.nils) (nt (sq (sr (lO (OL.loadOn (us:=(Qc false g)) (tv (T.op 0 0) Y) Y Q6 Q0 (lb Y) Y) (cO (OC.callF (r':=(T.os 4 1 0 (((Qa g).map (Qk true)).length))) (objs:= [(Obj.rows 4 ((Qa g).map (Qk true)))]) Y (vc (tv (T.agg (Qc false g)) Y) vn) (LendL.cons (lg Qx) ln) (Qat (n+0) g (by assumption)) Y) (lO (B.lenO (m:=(Qa g).length) (tv (T.os 4 1 0 (((Qa g).map (Qk true)).length)) Y) Yj (List.length_map ..)) ?_)))))))))))
 refine fO (OF.move (VEv.int .i64 0)) (nt (VRun.block (VRun.wk (Wk.phantom 3 1 Y) ?_)))
 have he1: []=(((QP g).take 0).map ((Jg 1 Qe) true)):=by rfl
 refine VRun.loop (A:=Nat) (fun s_=> [(1,(T.op 0 0)),(2,T.nils),(3,(T.os 1 2 0 ((((QP g).take s_).map ((Jg 1 Qe) true)).length))),(7,(T.os 4 1 0 (((Qa g).map (Qk true)).length))),(8,(tN ((Qa g).length))),(9,(tN s_))]) (fun s_=>QV [(0,(Obj.cells (Qc false g))),(1,(Obj.rows 4 ((Qa g).map (Qk true)))),(2,(Obj.rows 1 (((QP g).take s_).map ((Jg 1 Qe) true))))]) 3 (fun s_=>s_≤(Qa g).length) (fun s_=>(Qa g).length - s_) (0:Nat) ?_ (Wk.mk (fun k=>k) ?_ ?_ ?_) ?_
 ·(simp;done)
 ·exact (b2 (b2 (bc ⟨(congrArg (fun n_=>T.os 1 2 0 n_) (show 0=(((QP g).take 0).map ((Jg 1 Qe) true)).length from (by rfl))),rfl⟩ (b2 (b2 (b2 bn))))))
 ·exact (b3 (b3 (bc ⟨(congrArg (fun l_=>some (Obj.rows 1 l_)) he1),(lb Y),rfl⟩ bn)))
 ·exact nd Y
 rintro i (hI':i≤(Qa g).length)
 show VRun _ _ _ [(1,(T.op 0 0)),(2,T.nils),(3,(T.os 1 2 0 ((((QP g).take i).map ((Jg 1 Qe) true)).length))),(7,(T.os 4 1 0 (((Qa g).map (Qk true)).length))),(8,(tN ((Qa g).length))),(9,(tN i))] (QV [(0,(Obj.cells (Qc false g))),(1,(Obj.rows 4 ((Qa g).map (Qk true)))),(2,(Obj.rows 1 (((QP g).take i).map ((Jg 1 Qe) true))))]) 3 _
 have hI1:=hI'
 refine sr (fO (Q9 (tv (tN i) Y) (tv (tN ((Qa g).length)) Y)) (nt (sq ?_)))
 refine cd (i<(Qa g).length) Y (fun fhc0=> ?_) fun fhc0=> ?_
 ·refine sk ?_
  refine tn (sq (VRun.block (sr ?_)))
  obtain ⟨x1,hx1⟩:∃x,(Qa g)[i]? =some x:=⟨_,List.getElem?_eq_getElem (by omega)⟩
  refine fO (B.indexAddrO (i:=i) (tv (T.os 4 1 0 (((Qa g).map (Qk true)).length)) Y) (tv (tN i) Y) Y (by (simp only [List.length_map];omega)) Yj Zw QbJ) (lO (OL.loadPn (us:=(Qk false x1)) (row:=(Qk true x1)) (tv (T.orp 4 1 i 0) Y) Y (Qu _ hx1) QdV Zw (lb Y) Y (bc Y (bc Y (bc Y (bc Y bn))))) (kO (B.alloc (t:=(T.agg [(tN 0),(tB false),(tN 0),(tN 0)])) (ts:= [(tN 0),(tB false),(tN 0),(tN 0)]) YN QlJ nofun (fun _=> .agg _ _ Y (YS (RL.cons (.int _ _) (RL.cons (.bool _) (RL.cons (.int _ _) (RL.cons (.int _ _) (RL.nil _))))))) Y) (cO (B.storeW (us:=(Qk false x1)) (tv (T.op 3 0) Y) (tv (T.agg (Qk false x1)) Y) nofun Y Y Y QbJ Zw (bc Y (bc Y (bc Y (bc Y bn))))) (nt (VRun.region (mO (T.os 1 2 0 ((((QP g).take i).map ((Jg 1 Qe) true)).length)) Y (lO (OL.loadOn (us:=(Qc false g)) (tv (T.op 0 0) Y) Y Q6 Q0 (lb Y) Y) (lO (OL.loadOn (us:=(Qk false x1)) (tv (T.op 3 0) Y) Y QdV Zw (lb Y) Y) (cO (OC.callF (r':=(T.os 1 4 0 (((Ql g x1 x1.Length.toNat).map (Qe true)).length))) (objs:= [(Obj.rows 1 ((Ql g x1 x1.Length.toNat).map (Qe true)))]) Y (vc (tv (T.agg (Qc false g)) Y) (vc (tv (T.agg (Qk false x1)) Y) vn)) (LendL.cons (lg Qx) (LendL.cons (lg okeSlot) ln)) (QhT (n+2) g x1 (by exact Qbl (List.mem_of_getElem? hx1))) Y) ?_)))))))))
  refine B.sliceB (t:=(T.os 1 4 0 (((Ql g x1 x1.Length.toNat).map (Qe true)).length))) (us:= [(T.os 1 4 0 (((Ql g x1 x1.Length.toNat).map (Qe true)).length))]) (rows:= [[(T.sl true 1 ((Ql g x1 x1.Length.toNat).map (Qe true)))]]) VWant.always (VEvp.cons (tv (T.os 1 4 0 (((Ql g x1 x1.Length.toNat).map (Qe true)).length)) Y) VEvp.nil) nofun Y (Bury.os Y Y Bury.nil (by decide)) Y (bc Y bn) Y Qgl Qpv (by kernel_rfl) Y (by rw [Qg2];decide) Qg2 (Nat.le_of_ble_eq_true Y) ?_
  refine cO (B.append (rows:=(((QP g).take i).map ((Jg 1 Qe) true))) (rows2:= [[(T.sl true 1 ((Ql g x1 x1.Length.toNat).map (Qe true)))]]) (rows3:=(((QP g).take i++ [Ql g x1 x1.Length.toNat]).map ((Jg 1 Qe) true))) (VDst.own (tv (T.os 1 2 0 ((((QP g).take i).map ((Jg 1 Qe) true)).length)) Y) Y Y) (VSrc.own (tv (T.os 1 5 0 1) Y) Y Y Qgl (bc (bc Y bn) bn)) (by decide) Qgl Qg2 (by decide) Qpv Y (of_decide_eq_true (by kernel_rfl)) (by (rw [List.length_map,List.length_take];simp only [List.length_cons,List.length_nil];omega)) ((List.map_append (f:=(Jg 1 Qe) true) (l₁:=(QP g).take i) (l₂:= [Ql g x1 x1.Length.toNat])).symm)) (aO (T.os 1 6 0 ((((QP g).take i++ [Ql g x1 x1.Length.toNat]).map ((Jg 1 Qe) true)).length)) Y (VRunO.nil (vinB.n (tn (VRun.region (fO (QB (tv (tN i) Y) (VEv.int .i64 1) (by omega)) (mO (tN (i+1)) Y (VRunO.nil (tn ?_)))))))))
  have he2:((QP g).take i++ [Ql g x1 x1.Length.toNat])=(QP g).take (i+1):=by exact (QkP hx1).symm
  refine ⟨(i+1:Nat),?_,?_,Wk.mk (fun k=>if k=2 then 6 else k) ?_ ?_ ?_⟩
  ·trivial
  ·omega
  ·exact (b2 (b2 (bc ⟨(congrArg (fun l_=>T.os 1 6 0 (List.map ((Jg 1 Qe) true) l_).length) he2),rfl⟩ (b2 (b2 (b2 bn))))))
  ·exact (b3 (b3 (bc ⟨(congrArg (fun l_=>some (Obj.rows 1 (List.map ((Jg 1 Qe) true) l_))) he2),(lb Y),rfl⟩ bn)))
  ·exact nd Y
 refine VRun.exit (vthn.e (vthn.e (vinB.e (tn (sr (mO (T.os 1 2 0 ((((QP g).take i).map ((Jg 1 Qe) true)).length)) Y (aO (T.os 1 2 0 ((((QP g).take i).map ((Jg 1 Qe) true)).length)) Y (nt (rt ?_)))))))))
 refine vfin.eq (r':=(T.sl true 1 (((QP g).take i).map ((Jg 1 Qe) true)))) ?_ (vfin.r (VRes.tmp (t:=(T.os 1 2 0 ((((QP g).take i).map ((Jg 1 Qe) true)).length))) Y VRes.nil) (Give.os Y Y ((QlA okInt).cleanMap _)))
 refine congrArg (fun l_=>T.sl true 1 (List.map ((Jg 1 Qe) true) l_)) ?_
 rw [List.take_of_length_le (by omega)]
noncomputable section
theorem QeP (g:D.Grid):∀i,∀s∈(Qg g i).1,s.Cell<((i:Nat):Int)
 | 0,s,hs=>by simp [Qg] at hs
 | i+1,s,hs=>by
  rw [YH,List.mem_append,List.mem_append] at hs
  rcases hs with (hs | hs) | hs
  ·have:=QeP g i s hs
   omega
  ·split at hs
   ·obtain rfl:=List.mem_singleton.1 hs
    simp only;omega
   ·cases hs
  ·split at hs
   ·obtain rfl:=List.mem_singleton.1 hs
    simp only;omega
   ·cases hs
theorem QdZ (g:D.Grid):∀i,(Qg g i).1.Nodup
 | 0=>by simp [Qg]
 | i+1=>by
  have h:=QeP g i
  rw [YH,List.nodup_append,List.nodup_append]
  refine ⟨⟨QdZ g i,by split<;>simp,fun a ha b hb e=> ?_⟩,by split<;>simp,fun a ha b hb e=> ?_⟩
  ·split at hb
   ·obtain rfl:=List.mem_singleton.1 hb
    have:=h a ha
    rw [e] at this
    simp only at this
    omega
   ·cases hb
  ·split at hb
   ·obtain rfl:=List.mem_singleton.1 hb
    rcases List.mem_append.1 ha with ha | ha
    ·have:=h a ha
     rw [e] at this
     simp only at this
     omega
    ·split at ha
     ·obtain rfl:=List.mem_singleton.1 ha
      cases e
     ·cases ha
   ·cases hb
theorem QhS (g:D.Grid):(Qa g).Nodup:=by
 unfold Qa
 split
 ·exact QdZ g _
 ·simp
def Qax (g:D.Grid) (s:D.Slot) (i:Nat):List Int:=if s∈(Qa g).take i then Ql g s s.Length.toNat else []
theorem QnN {g:D.Grid} {s x:D.Slot} {i:Nat} (h:(Qa g)[i]? =some x) (hn:¬x=s):Qax g s (i+1)=Qax g s i:=by
 unfold Qax
 rw [List.take_add_one,h]
 simp [show ¬s=x from fun e=>hn e.symm]
theorem Qlw {g:D.Grid} {s x:D.Slot} {i:Nat} (h:(Qa g)[i]? =some x) (hn:x=s):Qax g s i= []:=by
 subst hn
 refine if_neg fun hm=> ?_
 have hd:=QhS g
 have hi:=(List.getElem?_eq_some_iff.1 h).1
 rw [← List.take_append_drop i (Qa g),List.nodup_append] at hd
 refine hd.2.2 x hm x ?_ Y
 rw [List.drop_eq_getElem_cons hi,(List.getElem?_eq_some_iff.1 h).2]
 exact List.mem_cons_self
theorem Qnk {g:D.Grid} {s x:D.Slot} {i:Nat} (h:(Qa g)[i]? =some x) (hn:x=s):Qax g s (i+1)=Ql g s s.Length.toNat:=by
 subst hn
 refine if_pos ?_
 rw [List.take_add_one,h]
 simp
theorem Qnb {g:D.Grid} {s x:D.Slot} {i k:Nat} (h:(Qa g)[i]? =some x) (hn:x=s) (h1:¬((k:Nat):Int)<s.Length) (h2:k≤s.Length.toNat):Ql g s k=Qax g s (i+1):=by
 rw [Qnk h hn,show k=s.Length.toNat by omega]
theorem Qnq (g:D.Grid) (s:D.Slot) {i:Nat} (h:(Qa g).length≤i):Qax g s i=if s∈Qa g then Ql g s s.Length.toNat else []:=by
 rw [Qax,List.take_of_length_le h]
end
theorem Qaq (n:Nat) (g:D.Grid) (s:D.Slot) (hc:g.Cells.size≤maxLen):Pure (Qo Tryz.prog (n+4)) 89 [(T.agg (Qc false g)),(T.agg (Qk false s))] (T.sl true 1 ((if s∈Qa g then Ql g s s.Length.toNat else []).map (Qe true))):=by
 refine Pure.intro (rs:= [ResultVar.tmp 4]) Tryz.func89 Y Y Y (E0:= [(0,(T.agg (Qc false g))),(1,(T.agg (Qk false s)))]) Y ?_
 obtain ⟨hlim,hmx,hmax⟩:=Qz
 have hsl:=Zq g
 refine sr (kO (B.box (ts:=(Qc false g)) (tv (T.agg (Qc false g)) Y) nofun Y) (kO (B.box (ts:=(Qk false s)) (tv (T.agg (Qk false s)) Y) nofun Y) (fO (OF.assign VEv.nils) (nt (sr (kO (OM.slice0 Yi zo3 (by kernel_rfl) Y (by rw [ZJ];decide) ZJ) (aO (T.os 1 2 0 0) Y (nt (sr (lO (OL.loadOn (us:=(Qc false g)) (tv (T.op 0 0) Y) Y Q6 Q0 (lb Y) Y) (cO (OC.callF (r':=(T.os 4 3 0 (((Qa g).map (Qk true)).length))) (objs:= [(Obj.rows 4 ((Qa g).map (Qk true)))]) Y (vc (tv (T.agg (Qc false g)) Y) vn) (LendL.cons (lg Qx) ln) (ZI (n+0) g (by assumption)) Y) ?_)))))))))))
 refine aO (T.os 4 3 0 (((Qa g).map (Qk true)).length)) Y (nt (sq (sr (fO (OF.assign (VEv.int .i64 0)) (nt (VRun.block ?_))))))
 have he1: []=((Qax g s 0).map (Qe true)):=by rfl
 refine VRun.loop (A:=Nat) (fun s_=> [(2,(T.op 0 0)),(3,(T.op 1 0)),(4,T.nils),(5,(T.os 1 3 0 (((Qax g s s_).map (Qe true)).length))),(6,(T.os 4 2 0 (((Qa g).map (Qk true)).length))),(7,(tN s_))]) (fun s_=>QV [(0,(Obj.cells (Qc false g))),(1,(Obj.cells (Qk false s))),(2,(Obj.rows 4 ((Qa g).map (Qk true)))),(3,(Obj.rows 1 ((Qax g s s_).map (Qe true))))]) 4 (fun s_=>s_≤(Qa g).length) (fun s_=>(Qa g).length - s_) (0:Nat) ?_ (Wk.mk (fun k=>if k=2 then 3 else if k=3 then 2 else k) ?_ ?_ ?_) ?_
 ·(simp;done)
 ·exact (b2 (b2 (b2 (bc ⟨(congrArg (fun n_=>T.os 1 2 0 n_) (show 0=((Qax g s 0).map (Qe true)).length from (by rfl))),rfl⟩ (b2 (b2 bn))))))
 ·exact (b3 (b3 (b3 (bc ⟨(congrArg (fun l_=>some (Obj.rows 1 l_)) he1),(lb Y),rfl⟩ bn))))
 ·exact nd Y
 rintro i (hI':i≤(Qa g).length)
 show VRun _ _ _ [(2,(T.op 0 0)),(3,(T.op 1 0)),(4,T.nils),(5,(T.os 1 3 0 (((Qax g s i).map (Qe true)).length))),(6,(T.os 4 2 0 (((Qa g).map (Qk true)).length))),(7,(tN i))] (QV [(0,(Obj.cells (Qc false g))),(1,(Obj.cells (Qk false s))),(2,(Obj.rows 4 ((Qa g).map (Qk true)))),(3,(Obj.rows 1 ((Qax g s i).map (Qe true))))]) 4 _
 have hI1:=hI'
 refine sq (sr (mO (tN i) Y (mO (T.os 4 2 0 (((Qa g).map (Qk true)).length)) Y (lO (B.lenO (m:=(Qa g).length) (tv (T.os 4 2 0 (((Qa g).map (Qk true)).length)) Y) Yj (List.length_map ..)) (fO (Q9 (tv (tN i) Y) (tv (tN ((Qa g).length)) Y)) (nt ?_))))))
 refine cd (i<(Qa g).length) Y (fun fhc0=> ?_) fun fhc0=> ?_
 ·refine sk ?_
  refine tn (sq (VRun.block (sq (sq (VRun.draw (B:= [[],[],[1,0],[0,1,2],[],[4,2,1,0,3]]) (by kernel_rfl) (by kernel_rfl) (mD (T.os 4 2 0 (((Qa g).map (Qk true)).length)) Y Y (mD (tN i) Y Y ?_)))))))
  obtain ⟨x1,hx1⟩:∃x,(Qa g)[i]? =some x:=⟨_,List.getElem?_eq_getElem (by omega)⟩
  refine fD (B.indexAddrO (i:=i) (tv (T.os 4 2 0 (((Qa g).map (Qk true)).length)) Y) (tv (tN i) Y) Y (by (simp only [List.length_map];omega)) Yj Zw QbJ) Y Y (lD (OL.loadPn (us:=(Qk false x1)) (row:=(Qk true x1)) (tv (T.orp 4 2 i 0) Y) Y (Qu _ hx1) QdV Zw (lb Y) Y (bc Y (bc Y (bc Y (bc Y bn))))) Y Y (lD (OL.loadOn (us:=(Qk false s)) (tv (T.op 1 0) Y) Y QdV Zw (lb Y) Y) Y Y (fD (B.neq128 (a:=x1) (b:=s) (m:=false) (m':=false) (tv (T.agg (Qk false x1)) Y) (tv (T.agg (Qk false s)) Y)) Y Y (VRunD.nil (tn ?_)))))
  refine cn (x1=s) Y (fun fhc1=> ?_) fun fhc1=> ?_
  ·refine VRun.exit ?_
   refine vthn.e (vinB.e (tn (VRun.region (mO (tN i) Y (fO (QB (tv (tN i) Y) (VEv.int .i64 1) (by omega)) (aO (tN (i+1)) Y (VRunO.nil (tn ?_))))))))
   have he2:Qax g s i=Qax g s (i+1):=by exact (QnN hx1 fhc1).symm
   refine ⟨(i+1:Nat),?_,?_,Wk.mk (fun k=>k) ?_ ?_ ?_⟩
   ·trivial
   ·omega
   ·exact (b2 (b2 (b2 (bc ⟨(congrArg (fun l_=>T.os 1 3 0 (List.map (Qe true) l_).length) he2),rfl⟩ (b2 (b2 bn))))))
   ·exact (b3 (b3 (b3 (bc ⟨(congrArg (fun l_=>some (Obj.rows 1 (List.map (Qe true) l_))) he2),(lb Y),rfl⟩ bn))))
   ·exact nd Y
  have hok:QhM g s:=fhc1▸Qbl (List.mem_of_getElem? hx1)
  obtain ⟨hg,hcc,hll⟩:=hok
  have hB:=hg.2.1
  refine sk (tn (sr (fO (OF.assign (VEv.int .i64 0)) (nt (VRun.block ?_)))))
  have he3:Qax g s i=Ql g s 0:=by (rw [Qlw hx1 fhc1];rfl)
  refine VRun.loop (A:=Nat) (fun s_=> [(2,(T.op 0 0)),(3,(T.op 1 0)),(4,T.nils),(5,(T.os 1 3 0 (((Ql g s s_).map (Qe true)).length))),(6,(T.os 4 2 0 (((Qa g).map (Qk true)).length))),(7,(tN i)),(8,(tN s_))]) (fun s_=>QV [(0,(Obj.cells (Qc false g))),(1,(Obj.cells (Qk false s))),(2,(Obj.rows 4 ((Qa g).map (Qk true)))),(3,(Obj.rows 1 ((Ql g s s_).map (Qe true))))]) 4 (fun s_=>s_≤s.Length.toNat) (fun s_=>s.Length.toNat - s_) (0:Nat) ?_ (Wk.mk (fun k=>k) ?_ ?_ ?_) ?_
  ·(simp;done)
  ·exact (b2 (b2 (b2 (bc ⟨(congrArg (fun l_=>T.os 1 3 0 (List.map (Qe true) l_).length) he3),rfl⟩ (b2 (b2 (b2 bn)))))))
  ·exact (b3 (b3 (b3 (bc ⟨(congrArg (fun l_=>some (Obj.rows 1 (List.map (Qe true) l_))) he3),(lb Y),rfl⟩ bn))))
  ·exact nd Y
  rintro k (hI':k≤s.Length.toNat)
  show VRun _ _ _ [(2,(T.op 0 0)),(3,(T.op 1 0)),(4,T.nils),(5,(T.os 1 3 0 (((Ql g s k).map (Qe true)).length))),(6,(T.os 4 2 0 (((Qa g).map (Qk true)).length))),(7,(tN i)),(8,(tN k))] (QV [(0,(Obj.cells (Qc false g))),(1,(Obj.cells (Qk false s))),(2,(Obj.rows 4 ((Qa g).map (Qk true)))),(3,(Obj.rows 1 ((Ql g s k).map (Qe true))))]) 4 _
  have hJ1:=hI'
  have hN:=Qfg (n:=k) (c:=g.Cols) (by omega) hB.1 hB.2
  have hcl:=Qas g s k
  refine sq (sr (mO (tN k) Y (lf (tI s.Length) Y QbA Y Y QS (fO (xls (tv (tN k) Y) (tv (tI s.Length) Y)) (nt ?_)))))
  refine cd (((k:Nat):Int)<s.Length) Y (fun fhc2=> ?_) fun fhc2=> ?_
  ·refine sk ?_
   refine tn (sq (VRun.block (sr (lf (tB s.Down) Y Qkn Y Y st4 (nt ?_)))))
   refine VRun.cond (tv (tB s.Down) Y) (fun hc3=> ?_) (fun hc3=> ?_)
   ·have fhc3:s.Down=true:=hc3
    refine VRun.region (mO (T.os 1 3 0 (((Ql g s k).map (Qe true)).length)) Y (lf (tI s.Cell) Y Qfw Y Y QS (mO (tN k) Y (lf (tI g.Cols) Y ZD Y Y QS (fO (B.mul (n:=(((k:Nat):Int)*g.Cols)) (tv (tN k) Y) (tv (tI g.Cols) Y) (by (refine Qhz ?_ ?_ ?_<;>omega))) (fO (B.add (n:=(s.Cell+(((k:Nat):Int)*g.Cols))) (tv (tI s.Cell) Y) (tv (tI (((k:Nat):Int)*g.Cols)) Y) (by (rw [Qs (by omega)];done))) (kO (OM.buildSlice (l:= [(tI (s.Cell+(((k:Nat):Int)*g.Cols)))]) (VEvp.cons (tv (tI (s.Cell+(((k:Nat):Int)*g.Cols))) Y) VEvp.nil) Y (by decide) (bc (nofun) bn) (bc ((bc (Y) bn)) bn) (bc (Y) bn) Yi zo3 (by kernel_rfl) Y (by rw [ZJ];decide) ZJ (Nat.le_of_ble_eq_true Y)) (cO (B.append (rows:=((Ql g s k).map (Qe true))) (rows2:= [[(tI (s.Cell+(((k:Nat):Int)*g.Cols)))]]) (rows3:=((Ql g s k++ [(s.Cell+(((k:Nat):Int)*g.Cols))]).map (Qe true))) (VDst.own (tv (T.os 1 3 0 (((Ql g s k).map (Qe true)).length)) Y) Y Y) (VSrc.own (tv (T.os 1 4 0 1) Y) Y Y Yi (bc (bc Y bn) bn)) (by decide) Yi ZJ (by decide) zo3 Y (of_decide_eq_true (by kernel_rfl)) (by (simp only [List.length_map,List.length_append,List.length_cons,List.length_nil,List.length_replicate,List.length_set,List.length_drop,List.length_take,Zk] at *;omega)) ((List.map_append (f:=Qe true) (l₁:=Ql g s k) (l₂:= [(s.Cell+(((k:Nat):Int)*g.Cols))])).symm)) (aO (T.os 1 5 0 (((Ql g s k++ [(s.Cell+(((k:Nat):Int)*g.Cols))]).map (Qe true)).length)) Y (VRunO.nil (vinB.n ?_)))))))))))
    refine tn (VRun.region (mO (tN k) Y (fO (QB (tv (tN k) Y) (VEv.int .i64 1) (by omega)) (aO (tN (k+1)) Y (VRunO.nil (tn ?_))))))
    have he4:(Ql g s k++ [(s.Cell+(((k:Nat):Int)*g.Cols))])=Ql g s (k+1):=by rw [QaA,Qgt,if_pos fhc3]
    refine ⟨(k+1:Nat),?_,?_,Wk.mk (fun k=>if k=3 then 5 else k) ?_ ?_ ?_⟩
    ·omega
    ·omega
    ·exact (b2 (b2 (b2 (bc ⟨(congrArg (fun l_=>T.os 1 5 0 (List.map (Qe true) l_).length) he4),rfl⟩ (b2 (b2 (b2 bn)))))))
    ·exact (b3 (b3 (b3 (bc ⟨(congrArg (fun l_=>some (Obj.rows 1 (List.map (Qe true) l_))) he4),(lb Y),rfl⟩ bn))))
    ·exact nd Y
   have fhc3:s.Down=false:=hc3
   refine VRun.region (mO (T.os 1 3 0 (((Ql g s k).map (Qe true)).length)) Y (lf (tI s.Cell) Y Qfw Y Y QS (mO (tN k) Y (fO (B.add (n:=(s.Cell+((k:Nat):Int))) (tv (tI s.Cell) Y) (tv (tN k) Y) (by (rw [Qs (by omega)];done))) (kO (OM.buildSlice (l:= [(tI (s.Cell+((k:Nat):Int)))]) (VEvp.cons (tv (tI (s.Cell+((k:Nat):Int))) Y) VEvp.nil) Y (by decide) (bc (nofun) bn) (bc ((bc (Y) bn)) bn) (bc (Y) bn) Yi zo3 (by kernel_rfl) Y (by rw [ZJ];decide) ZJ (Nat.le_of_ble_eq_true Y)) (cO (B.append (rows:=((Ql g s k).map (Qe true))) (rows2:= [[(tI (s.Cell+((k:Nat):Int)))]]) (rows3:=((Ql g s k++ [(s.Cell+((k:Nat):Int))]).map (Qe true))) (VDst.own (tv (T.os 1 3 0 (((Ql g s k).map (Qe true)).length)) Y) Y Y) (VSrc.own (tv (T.os 1 4 0 1) Y) Y Y Yi (bc (bc Y bn) bn)) (by decide) Yi ZJ (by decide) zo3 Y (of_decide_eq_true (by kernel_rfl)) (by (simp only [List.length_map,List.length_append,List.length_cons,List.length_nil,List.length_replicate,List.length_set,List.length_drop,List.length_take,Zk] at *;omega)) ((List.map_append (f:=Qe true) (l₁:=Ql g s k) (l₂:= [(s.Cell+((k:Nat):Int))])).symm)) (aO (T.os 1 5 0 (((Ql g s k++ [(s.Cell+((k:Nat):Int))]).map (Qe true)).length)) Y (VRunO.nil (vinB.n (tn (VRun.region ?_)))))))))))
   refine mO (tN k) Y (fO (QB (tv (tN k) Y) (VEv.int .i64 1) (by omega)) (aO (tN (k+1)) Y (VRunO.nil (tn ?_))))
   have he5:(Ql g s k++ [(s.Cell+((k:Nat):Int))])=Ql g s (k+1):=by (rw [QaA,Qgt,fhc3];simp;done)
   refine ⟨(k+1:Nat),?_,?_,Wk.mk (fun k=>if k=3 then 5 else k) ?_ ?_ ?_⟩
   ·omega
   ·omega
   ·exact (b2 (b2 (b2 (bc ⟨(congrArg (fun l_=>T.os 1 5 0 (List.map (Qe true) l_).length) he5),rfl⟩ (b2 (b2 (b2 bn)))))))
   ·exact (b3 (b3 (b3 (bc ⟨(congrArg (fun l_=>some (Obj.rows 1 (List.map (Qe true) l_))) he5),(lb Y),rfl⟩ bn))))
   ·exact nd Y
  refine VRun.exit (vthn.e (vthn.e (vinB.e (vinB.n (tn (VRun.region (mO (tN i) Y (fO (QB (tv (tN i) Y) (VEv.int .i64 1) (by omega)) (aO (tN (i+1)) Y (VRunO.nil (tn ?_)))))))))))
  have he6:Ql g s k=Qax g s (i+1):=by exact Qnb hx1 fhc1 fhc2 hJ1
  refine ⟨(i+1:Nat),?_,?_,Wk.mk (fun k=>k) ?_ ?_ ?_⟩
  ·trivial
  ·omega
  ·exact (b2 (b2 (b2 (bc ⟨(congrArg (fun l_=>T.os 1 3 0 (List.map (Qe true) l_).length) he6),rfl⟩ (b2 (b2 bn))))))
  ·exact (b3 (b3 (b3 (bc ⟨(congrArg (fun l_=>some (Obj.rows 1 (List.map (Qe true) l_))) he6),(lb Y),rfl⟩ bn))))
  ·exact nd Y
 refine VRun.exit (vthn.e (vthn.e (vinB.e (tn (sr (mO (T.os 1 3 0 (((Qax g s i).map (Qe true)).length)) Y (aO (T.os 1 3 0 (((Qax g s i).map (Qe true)).length)) Y (nt (rt ?_)))))))))
 refine vfin.eq (r':=(T.sl true 1 ((Qax g s i).map (Qe true)))) ?_ (vfin.r (VRes.tmp (t:=(T.os 1 3 0 (((Qax g s i).map (Qe true)).length))) Y VRes.nil) (Give.os Y Y (okInt.cleanMap _)))
 refine congrArg (fun l_=>T.sl true 1 (List.map (Qe true) l_)) ?_
 exact Qnq g s (by omega)
noncomputable section
def inS (g:D.Grid) (c:Int) (s:D.Slot):Prop:=c∈Ql g s s.Length.toNat
instance (g:D.Grid) (c:Int) (s:D.Slot):Decidable (inS g c s):=Classical.propDecidable _
def atL (g:D.Grid) (c:Int):List D.Slot→Nat→List Int
 | [],_=> []
 | s::r,n=>(if inS g c s then [((n:Nat):Int)] else [])++atL g c r (n+1)
theorem QiD (g:D.Grid) (c:Int) (s:D.Slot):∀(l:List D.Slot) (n:Nat),atL g c (l++ [s]) n=atL g c l n++(if inS g c s then [((n+l.length:Nat):Int)] else [])
 | [],n=>by simp [atL]
 | x::r,n=>by
  rw [List.cons_append,atL,atL,QiD g c s r (n+1),List.append_assoc]
  simp only [List.length_cons,show n+1+r.length=n+(r.length+1) by omega]
def Yy (g:D.Grid) (c:Int) (i:Nat):List Int:=atL g c ((Qa g).take i) 0
theorem QdQ {g:D.Grid} {c:Int} {i:Nat} {s:D.Slot} (h:(Qa g)[i]? =some s):Yy g c (i+1)=Yy g c i++(if inS g c s then [((i:Nat):Int)] else []):=by
 have hi:=(List.getElem?_eq_some_iff.1 h).1
 unfold Yy
 rw [List.take_add_one,h,Option.toList_some,QiD]
 simp [Nat.min_eq_left (Nat.le_of_lt hi)]
theorem Qki (g:D.Grid) (c:Int):∀(l:List D.Slot) (n:Nat),(atL g c l n).length≤l.length
 | [],n=>by simp [atL]
 | x::r,n=>by
  have:=Qki g c r (n+1)
  rw [atL,List.length_append,List.length_cons]
  split<;>simp only [List.length_cons,List.length_nil]<;>omega
theorem Qkc (g:D.Grid) (c:Int) (i:Nat):(Yy g c i).length≤(Qa g).length:=by
 have:=Qki g c ((Qa g).take i) 0
 rw [List.length_take] at this
 unfold Yy
 omega
theorem Qh0 {g:D.Grid} {i:Nat} {s:D.Slot} (h:(Qa g)[i]? =some s):(if s∈Qa g then Ql g s s.Length.toNat else [])=Ql g s s.Length.toNat:=if_pos (List.mem_of_getElem? h)
theorem QhZ (g:D.Grid) (s:D.Slot):(if s∈Qa g then Ql g s s.Length.toNat else []).length≤6:=by
 split
 ·rename_i h
  rw [Qas]
  have:=(Qbl h).2.2.2
  omega
 ·simp
end
theorem Qb8 (n:Nat) (g:D.Grid) (c:Int) (hc:g.Cells.size≤maxLen):Pure (Qo Tryz.prog (n+5)) 141 [(T.agg (Qc false g)),(tI c)] (T.sl true 1 ((Yy g c (Qa g).length).map (Qe true))):=by
 refine Pure.intro (rs:= [ResultVar.tmp 4]) Tryz.func141 Y Y Y (E0:= [(0,(T.agg (Qc false g))),(1,(tI c))]) Y ?_
 obtain ⟨hlim,hmx,hmax⟩:=Qz
 have hsl:=Zq g
 refine sr (kO (B.box (ts:=(Qc false g)) (tv (T.agg (Qc false g)) Y) nofun Y) (fO (OF.assign VEv.nils) (nt (sr (kO (OM.slice0 Yi zo3 (by kernel_rfl) Y (by rw [ZJ];decide) ZJ) (aO (T.os 1 1 0 0) Y (nt (sr (lO (OL.loadOn (us:=(Qc false g)) (tv (T.op 0 0) Y) Y Q6 Q0 (lb Y) Y) (cO (OC.callF (r':=(T.os 4 2 0 (((Qa g).map (Qk true)).length))) (objs:= [(Obj.rows 4 ((Qa g).map (Qk true)))]) Y (vc (tv (T.agg (Qc false g)) Y) vn) (LendL.cons (lg Qx) ln) (ZI (n+1) g (by assumption)) Y) (aO (T.os 4 2 0 (((Qa g).map (Qk true)).length)) Y ?_)))))))))))
 refine nt (sq (sr (fO (OF.assign (VEv.int .i64 0)) (nt (VRun.block ?_)))))
 have he1: []=((Yy g c 0).map (Qe true)):=by rfl
 refine VRun.loop (A:=Nat) (fun s_=> [(1,(tI c)),(2,(T.op 0 0)),(4,T.nils),(5,(T.os 1 2 0 (((Yy g c s_).map (Qe true)).length))),(6,(T.os 4 1 0 (((Qa g).map (Qk true)).length))),(7,(tN s_))]) (fun s_=>QV [(0,(Obj.cells (Qc false g))),(1,(Obj.rows 4 ((Qa g).map (Qk true)))),(2,(Obj.rows 1 ((Yy g c s_).map (Qe true))))]) 3 (fun s_=>s_≤(Qa g).length) (fun s_=>(Qa g).length - s_) (0:Nat) ?_ (Wk.mk (fun k=>if k=1 then 2 else if k=2 then 1 else k) ?_ ?_ ?_) ?_
 ·(simp;done)
 ·exact (b2 (b2 (b2 (bc ⟨(congrArg (fun n_=>T.os 1 1 0 n_) (show 0=((Yy g c 0).map (Qe true)).length from (by rfl))),rfl⟩ (b2 (b2 bn))))))
 ·exact (b3 (b3 (bc ⟨(congrArg (fun l_=>some (Obj.rows 1 l_)) he1),(lb Y),rfl⟩ bn)))
 ·exact nd Y
 rintro i (hI':i≤(Qa g).length)
 show VRun _ _ _ [(1,(tI c)),(2,(T.op 0 0)),(4,T.nils),(5,(T.os 1 2 0 (((Yy g c i).map (Qe true)).length))),(6,(T.os 4 1 0 (((Qa g).map (Qk true)).length))),(7,(tN i))] (QV [(0,(Obj.cells (Qc false g))),(1,(Obj.rows 4 ((Qa g).map (Qk true)))),(2,(Obj.rows 1 ((Yy g c i).map (Qe true))))]) 3 _
 have hI1:=hI'
 have hal:=Qkc g c i
 refine sq (sr (mO (tN i) Y (mO (T.os 4 1 0 (((Qa g).map (Qk true)).length)) Y (lO (B.lenO (m:=(Qa g).length) (tv (T.os 4 1 0 (((Qa g).map (Qk true)).length)) Y) Yj (List.length_map ..)) (fO (Q9 (tv (tN i) Y) (tv (tN ((Qa g).length)) Y)) (nt ?_))))))
 refine cd (i<(Qa g).length) Y (fun fhc0=> ?_) fun fhc0=> ?_
 ·refine sk ?_
  refine tn (sq (VRun.block (sq (VRun.draw (B:= [[],[],[],[2,1],[1,2,3],[3,2,1,4,0],[],[6,0,4,1,2,3,5]]) (by kernel_rfl) (by kernel_rfl) (lD (OL.loadOn (us:=(Qc false g)) (tv (T.op 0 0) Y) Y Q6 Q0 (lb Y) Y) Y Y (mD (T.os 4 1 0 (((Qa g).map (Qk true)).length)) Y Y (mD (tN i) Y Y ?_)))))))
  obtain ⟨x1,hx1⟩:∃x,(Qa g)[i]? =some x:=⟨_,List.getElem?_eq_getElem (by omega)⟩
  refine fD (B.indexAddrO (i:=i) (tv (T.os 4 1 0 (((Qa g).map (Qk true)).length)) Y) (tv (tN i) Y) Y (by (simp only [List.length_map];omega)) Yj Zw QbJ) Y Y (lD (OL.loadPn (us:=(Qk false x1)) (row:=(Qk true x1)) (tv (T.orp 4 1 i 0) Y) Y (Qu _ hx1) QdV Zw (lb Y) Y (bc Y (bc Y (bc Y (bc Y bn))))) Y Y (VRunD.quiet (bi:= [3,2,1,4,0]) Y VWant.always Y Y Y bn (OC.callF (r':=(T.os 1 3 0 (((if x1∈Qa g then Ql g x1 x1.Length.toNat else []).map (Qe true)).length))) (objs:= [(Obj.rows 1 ((if x1∈Qa g then Ql g x1 x1.Length.toNat else []).map (Qe true)))]) Y (vc (tv (T.agg (Qc false g)) Y) (vc (tv (T.agg (Qk false x1)) Y) vn)) (LendL.cons (lg Qx) (LendL.cons (lg okeSlot) ln)) (Qaq (n+0) g x1 (by assumption)) Y) (mD (tI c) Y Y (VRunD.quiet (bi:= [6,0,4,1,2,3,5]) Y VWant.always Y Y Y bn (cS (us:= [(rd 1 Qe (if x1∈Qa g then Ql g x1 x1.Length.toNat else [])),(tI c)]) (vc (tv (T.os 1 3 0 (((if x1∈Qa g then Ql g x1 x1.Length.toNat else []).map (Qe true)).length)) Y) (vc (tv (tI c) Y) vn)) (LendL.cons (Lend.os Y Y (okInt.fzMap _ _)) (lp Y ln)) (QhB (n+3) (if x1∈Qa g then Ql g x1 x1.Length.toNat else []) c (by exact Nat.le_trans (QhZ g _) (by decide))) Y Y) (VRunD.nil (tn ?_))))))
  refine cd (c∈(if x1∈Qa g then Ql g x1 x1.Length.toNat else [])) Y (fun fhc1=> ?_) fun fhc1=> ?_
  ·rw [Qh0 hx1] at fhc1
   have q1:inS g c x1:=fhc1
   refine VRun.region (mO (T.os 1 2 0 (((Yy g c i).map (Qe true)).length)) Y (mO (tN i) Y (kO (OM.buildSlice (l:= [(tN i)]) (VEvp.cons (tv (tN i) Y) VEvp.nil) Y (by decide) (bc (nofun) bn) (bc ((bc (Y) bn)) bn) (bc (Y) bn) Yi zo3 (by kernel_rfl) Y (by rw [ZJ];decide) ZJ (Nat.le_of_ble_eq_true Y)) (cO (B.append (rows:=((Yy g c i).map (Qe true))) (rows2:= [[(tN i)]]) (rows3:=((Yy g c i++ [((i:Nat):Int)]).map (Qe true))) (VDst.own (tv (T.os 1 2 0 (((Yy g c i).map (Qe true)).length)) Y) Y Y) (VSrc.own (tv (T.os 1 4 0 1) Y) Y Y Yi (bc (bc Y bn) bn)) (by decide) Yi ZJ (by decide) zo3 Y (of_decide_eq_true (by kernel_rfl)) (by (simp only [List.length_map,List.length_append,List.length_cons,List.length_nil,List.length_replicate,List.length_set,List.length_drop,List.length_take,Zk] at *;omega)) ((List.map_append (f:=Qe true) (l₁:=Yy g c i) (l₂:= [((i:Nat):Int)])).symm)) (aO (T.os 1 5 0 (((Yy g c i++ [((i:Nat):Int)]).map (Qe true)).length)) Y (VRunO.nil (vinB.n (tn (VRun.region (mO (tN i) Y (fO (QB (tv (tN i) Y) (VEv.int .i64 1) (by omega)) ?_)))))))))))
   refine aO (tN (i+1)) Y (VRunO.nil (tn ?_))
   have he2:(Yy g c i++ [((i:Nat):Int)])=Yy g c (i+1):=by rw [QdQ hx1,if_pos q1]
   refine ⟨(i+1:Nat),?_,?_,Wk.mk (fun k=>if k=2 then 5 else k) ?_ ?_ ?_⟩
   ·trivial
   ·omega
   ·exact (b2 (b2 (b2 (bc ⟨(congrArg (fun l_=>T.os 1 5 0 (List.map (Qe true) l_).length) he2),rfl⟩ (b2 (b2 bn))))))
   ·exact (b3 (b3 (bc ⟨(congrArg (fun l_=>some (Obj.rows 1 (List.map (Qe true) l_))) he2),(lb Y),rfl⟩ bn)))
   ·exact nd Y
  rw [Qh0 hx1] at fhc1
  have q1:¬inS g c x1:=fhc1
  refine sk (vinB.n (tn (VRun.region (mO (tN i) Y (fO (QB (tv (tN i) Y) (VEv.int .i64 1) (by omega)) (aO (tN (i+1)) Y (VRunO.nil (tn ?_))))))))
  have he3:Yy g c i=Yy g c (i+1):=by rw [QdQ hx1,if_neg q1,List.append_nil]
  refine ⟨(i+1:Nat),?_,?_,Wk.mk (fun k=>k) ?_ ?_ ?_⟩
  ·trivial
  ·omega
  ·exact (b2 (b2 (b2 (bc ⟨(congrArg (fun l_=>T.os 1 2 0 (List.map (Qe true) l_).length) he3),rfl⟩ (b2 (b2 bn))))))
  ·exact (b3 (b3 (bc ⟨(congrArg (fun l_=>some (Obj.rows 1 (List.map (Qe true) l_))) he3),(lb Y),rfl⟩ bn)))
  ·exact nd Y
 refine VRun.exit (vthn.e (vthn.e (vinB.e (tn (sr (mO (T.os 1 2 0 (((Yy g c i).map (Qe true)).length)) Y (aO (T.os 1 2 0 (((Yy g c i).map (Qe true)).length)) Y (nt (rt ?_)))))))))
 refine vfin.eq (r':=(T.sl true 1 ((Yy g c i).map (Qe true)))) ?_ (vfin.r (VRes.tmp (t:=(T.os 1 2 0 (((Yy g c i).map (Qe true)).length))) Y VRes.nil) (Give.os Y Y (okInt.cleanMap _)))
 refine congrArg (fun l_=>T.sl true 1 (List.map (Qe true) l_)) ?_
 rw [show i=(Qa g).length from by omega]
noncomputable section
theorem Qgx {g:D.Grid} {i:Nat} {x:List Int} (h:(QP g)[i]? =some x):∃s,(Qa g)[i]? =some s∧x=Ql g s s.Length.toNat:=by
 unfold QP at h
 rw [List.getElem?_map] at h
 obtain ⟨s,h1,h2⟩:=Option.map_eq_some_iff.1 h
 exact ⟨s,h1,h2.symm⟩
theorem Qcf {g:D.Grid} {s:D.Slot} {i:Nat} (h:(Qa g)[i]? =some s):(Ql g s s.Length.toNat).length≤6:=by
 rw [Qas]
 have:=(Qbl (List.mem_of_getElem? h)).2.2.2
 omega
end
theorem Qgq (n:Nat) (g:D.Grid) (c:Int) (hc:g.Cells.size≤maxLen):Pure (Qo Tryz.prog (n+5)) 171 [(T.agg (Qc false g)),(tI c)] (T.sl true 1 ((Yy g c (Qa g).length).map (Qe true))):=by
 refine Pure.intro (rs:= [ResultVar.tmp 4]) Tryz.func171 Y Y Y (E0:= [(0,(T.agg (Qc false g))),(1,(tI c))]) Y ?_
 obtain ⟨hlim,hmx,hmax⟩:=Qz
 have hsl:=Zq g
 have hll:=Qbc g
 refine sr (kO (B.box (ts:=(Qc false g)) (tv (T.agg (Qc false g)) Y) nofun Y) (fO (OF.assign VEv.nils) (nt (sr (fO (OF.assign VEv.nils) (nt (sq (sr (lO (OL.loadOn (us:=(Qc false g)) (tv (T.op 0 0) Y) Y Q6 Q0 (lb Y) Y) (cO (OC.callF (r':=(T.os 1 1 0 (((QP g).map ((Jg 1 Qe) true)).length))) (objs:= [(Obj.rows 1 ((QP g).map ((Jg 1 Qe) true)))]) Y (vc (tv (T.agg (Qc false g)) Y) vn) (LendL.cons (lg Qx) ln) (JJ (n+0) g (by assumption)) Y) (lO (B.lenO (m:=(QP g).length) (tv (T.os 1 1 0 (((QP g).map ((Jg 1 Qe) true)).length)) Y) Qgl (List.length_map ..)) ?_)))))))))))
 refine fO (OF.move (VEv.int .i64 0)) (nt (VRun.block (VRun.wk (Wk.freeze (sz:=1) (k:=1) (rows':=((QP g).map ((Jg 1 Qe) false))) [9] (bc Y bn) Y Y ((QlA okInt).fzMap _ _)) (VRun.wk (Wk.phantom 5 1 Y) ?_))))
 have he1: []=((Yy g c 0).map (Qe true)):=by rfl
 refine VRun.loop (A:=Nat) (fun s_=> [(1,(tI c)),(4,T.nils),(5,(T.os 1 0 0 (((Yy g c s_).map (Qe true)).length))),(9,(rd 1 (Jg 1 Qe) (QP g))),(10,(tN ((QP g).length))),(11,(tN s_))]) (fun s_=>QV [(0,(Obj.rows 1 ((Yy g c s_).map (Qe true))))]) 1 (fun s_=>s_≤(QP g).length) (fun s_=>(QP g).length - s_) (0:Nat) ?_ (Wk.mk (fun k=>if k=0 then 2 else k) ?_ ?_ ?_) ?_
 ·(simp;done)
 ·exact (b2 (b2 (bc ⟨(congrArg (fun n_=>T.os 1 2 0 n_) (show 0=((Yy g c 0).map (Qe true)).length from (by rfl))),rfl⟩ (b2 (b2 (b2 bn))))))
 ·exact (bc ⟨(congrArg (fun l_=>some (Obj.rows 1 l_)) he1),(lb Y),rfl⟩ bn)
 ·exact nd Y
 rintro i (hI':i≤(QP g).length)
 show VRun _ _ _ [(1,(tI c)),(4,T.nils),(5,(T.os 1 0 0 (((Yy g c i).map (Qe true)).length))),(9,(rd 1 (Jg 1 Qe) (QP g))),(10,(tN ((QP g).length))),(11,(tN i))] (QV [(0,(Obj.rows 1 ((Yy g c i).map (Qe true))))]) 1 _
 have hI1:=hI'
 have hal:=Qkc g c i
 refine sr (fO (Q9 (tv (tN i) Y) (tv (tN ((QP g).length)) Y)) (nt (sq ?_)))
 refine cd (i<(QP g).length) Y (fun fhc0=> ?_) fun fhc0=> ?_
 ·refine sk ?_
  refine tn (sq (VRun.block (sr (mO (tN i) Y ?_))))
  obtain ⟨x1,hx1⟩:∃x,(QP g)[i]? =some x:=⟨_,List.getElem?_eq_getElem (by omega)⟩
  obtain ⟨y1,hy1,hq1⟩:=Qgx hx1
  refine fO (OF.indexAddrR (row:=((Jg 1 Qe) false x1)) (i:=i) (tv (rd 1 (Jg 1 Qe) (QP g)) Y) (tv (tN i) Y) Y (Qu _ hx1) Qgl Qg2 QjR) (lO (OL.loadR1 (t:=(rd 1 Qe x1)) (tv (T.rp [(rd 1 Qe x1)]) Y) Y QeD) (aO (tN i) Y (aO (rd 1 Qe x1) Y (nt (sr (mO (rd 1 Qe x1) Y (mO (tI c) Y (cO (cS (vc (tv (rd 1 Qe x1) Y) (vc (tv (tI c) Y) vn)) (Zg Y) (Qan (n+2) x1 c (by (rw [hq1];exact Nat.le_trans (Qcf hy1) (by decide)))) Y Y) (nt ?_)))))))))
  refine cd (c∈x1) Y (fun fhc1=> ?_) fun fhc1=> ?_
  ·have q1:inS g c y1:=by rw [inS,← hq1];exact fhc1
   refine VRun.region (mO (T.os 1 0 0 (((Yy g c i).map (Qe true)).length)) Y (mO (tN i) Y (kO (OM.buildSlice (l:= [(tN i)]) (VEvp.cons (tv (tN i) Y) VEvp.nil) Y (by decide) (bc (nofun) bn) (bc ((bc (Y) bn)) bn) (bc (Y) bn) Yi zo3 (by kernel_rfl) Y (by rw [ZJ];decide) ZJ (Nat.le_of_ble_eq_true Y)) (cO (B.append (rows:=((Yy g c i).map (Qe true))) (rows2:= [[(tN i)]]) (rows3:=((Yy g c i++ [((i:Nat):Int)]).map (Qe true))) (VDst.own (tv (T.os 1 0 0 (((Yy g c i).map (Qe true)).length)) Y) Y Y) (VSrc.own (tv (T.os 1 1 0 1) Y) Y Y Yi (bc (bc Y bn) bn)) (by decide) Yi ZJ (by decide) zo3 Y (of_decide_eq_true (by kernel_rfl)) (by (simp only [List.length_map,List.length_append,List.length_cons,List.length_nil,List.length_replicate,List.length_set,List.length_drop,List.length_take,Zk] at *;omega)) ((List.map_append (f:=Qe true) (l₁:=Yy g c i) (l₂:= [((i:Nat):Int)])).symm)) (aO (T.os 1 2 0 (((Yy g c i++ [((i:Nat):Int)]).map (Qe true)).length)) Y (VRunO.nil (vinB.n (tn (VRun.region (fO (QB (tv (tN i) Y) (VEv.int .i64 1) (by omega)) (mO (tN (i+1)) Y ?_)))))))))))
   refine VRunO.nil (tn ?_)
   have he2:(Yy g c i++ [((i:Nat):Int)])=Yy g c (i+1):=by rw [QdQ hy1,if_pos q1]
   refine ⟨(i+1:Nat),?_,?_,Wk.mk (fun k=>if k=0 then 2 else k) ?_ ?_ ?_⟩
   ·trivial
   ·omega
   ·exact (b2 (b2 (bc ⟨(congrArg (fun l_=>T.os 1 2 0 (List.map (Qe true) l_).length) he2),rfl⟩ (b2 (b2 (b2 bn))))))
   ·exact (bc ⟨(congrArg (fun l_=>some (Obj.rows 1 (List.map (Qe true) l_))) he2),(lb Y),rfl⟩ bn)
   ·exact nd Y
  have q1:¬inS g c y1:=by rw [inS,← hq1];exact fhc1
  refine sk (vinB.n (tn (VRun.region (fO (QB (tv (tN i) Y) (VEv.int .i64 1) (by omega)) (mO (tN (i+1)) Y (VRunO.nil (tn ?_)))))))
  have he3:Yy g c i=Yy g c (i+1):=by rw [QdQ hy1,if_neg q1,List.append_nil]
  refine ⟨(i+1:Nat),?_,?_,Wk.mk (fun k=>k) ?_ ?_ ?_⟩
  ·trivial
  ·omega
  ·exact (b2 (b2 (bc ⟨(congrArg (fun l_=>T.os 1 0 0 (List.map (Qe true) l_).length) he3),rfl⟩ (b2 (b2 (b2 bn))))))
  ·exact (bc ⟨(congrArg (fun l_=>some (Obj.rows 1 (List.map (Qe true) l_))) he3),(lb Y),rfl⟩ bn)
  ·exact nd Y
 refine VRun.exit (vthn.e (vthn.e (vinB.e (tn (sr (mO (T.os 1 0 0 (((Yy g c i).map (Qe true)).length)) Y (aO (T.os 1 0 0 (((Yy g c i).map (Qe true)).length)) Y (nt (rt ?_)))))))))
 refine vfin.eq (r':=(T.sl true 1 ((Yy g c i).map (Qe true)))) ?_ (vfin.r (VRes.tmp (t:=(T.os 1 0 0 (((Yy g c i).map (Qe true)).length))) Y VRes.nil) (Give.os Y Y (okInt.cleanMap _)))
 refine congrArg (fun l_=>T.sl true 1 (List.map (Qe true) l_)) ?_
 rw [show i=(Qa g).length from by omega]
noncomputable section
def chk (g:D.Grid) (c:Int):Prop:=(Yy g c (Qa g).length).length=2
instance (g:D.Grid) (c:Int):Decidable (chk g c):=Classical.propDecidable _
end
theorem QeF (n:Nat) (g:D.Grid) (c:Int) (hc:g.Cells.size≤maxLen):Pure (Qo Tryz.prog (n+6)) 168 [(T.agg (Qc false g)),(tI c)] (tB (decide (chk g c))):=by
 refine Pure.intro (rs:= [ResultVar.tmp 4]) Tryz.func168 Y Y Y (E0:= [(0,(T.agg (Qc false g))),(1,(tI c))]) Y ?_
 obtain ⟨hlim,hmx,hmax⟩:=Qz
 refine sr (kO (B.box (ts:=(Qc false g)) (tv (T.agg (Qc false g)) Y) nofun Y) (fO (OF.assign (VEv.bool false)) (nt (sr (lO (OL.loadOn (us:=(Qc false g)) (tv (T.op 0 0) Y) Y Q6 Q0 (lb Y) Y) (mO (tI c) Y (cO (OC.callF (r':=(T.os 1 1 0 (((Yy g c (Qa g).length).map (Qe true)).length))) (objs:= [(Obj.rows 1 ((Yy g c (Qa g).length).map (Qe true)))]) Y (vc (tv (T.agg (Qc false g)) Y) (vc (tv (tI c) Y) vn)) (LendL.cons (lg Qx) (lp Y ln)) (Qb8 (n+0) g c (by assumption)) Y) (lO (B.lenO (m:=(Yy g c (Qa g).length).length) (tv (T.os 1 1 0 (((Yy g c (Qa g).length).map (Qe true)).length)) Y) Yi (List.length_map ..)) (fO (B.eql (c:=(decide ((Yy g c (Qa g).length).length=2))) (tv (tN ((Yy g c (Qa g).length).length)) Y) (VEv.int .i64 2) (Qt (by omega))) (aO (tB (decide ((Yy g c (Qa g).length).length=2))) Y (nt ?_)))))))))))
 refine rt (vb (b':=(decide ((Yy g c (Qa g).length).length=2))) Y ?_)
 exact Qt Iff.rfl
theorem Qeu (n:Nat) (g:D.Grid) (c:Int) (hc:g.Cells.size≤maxLen):Pure (Qo Tryz.prog (n+6)) 145 [(T.agg (Qc false g)),(tI c)] (tB (decide (chk g c))):=by
 refine Pure.intro (rs:= [ResultVar.tmp 4]) Tryz.func145 Y Y Y (E0:= [(0,(T.agg (Qc false g))),(1,(tI c))]) Y ?_
 obtain ⟨hlim,hmx,hmax⟩:=Qz
 refine sr (kO (B.box (ts:=(Qc false g)) (tv (T.agg (Qc false g)) Y) nofun Y) (fO (OF.assign (VEv.bool false)) (nt (sr (lO (OL.loadOn (us:=(Qc false g)) (tv (T.op 0 0) Y) Y Q6 Q0 (lb Y) Y) (mO (tI c) Y (cO (OC.callF (r':=(T.os 1 1 0 (((Yy g c (Qa g).length).map (Qe true)).length))) (objs:= [(Obj.rows 1 ((Yy g c (Qa g).length).map (Qe true)))]) Y (vc (tv (T.agg (Qc false g)) Y) (vc (tv (tI c) Y) vn)) (LendL.cons (lg Qx) (lp Y ln)) (Qgq (n+0) g c (by assumption)) Y) (lO (B.lenO (m:=(Yy g c (Qa g).length).length) (tv (T.os 1 1 0 (((Yy g c (Qa g).length).map (Qe true)).length)) Y) Yi (List.length_map ..)) (fO (B.eql (c:=(decide ((Yy g c (Qa g).length).length=2))) (tv (tN ((Yy g c (Qa g).length).length)) Y) (VEv.int .i64 2) (Qt (by omega))) (aO (tB (decide ((Yy g c (Qa g).length).length=2))) Y (nt ?_)))))))))))
 refine rt (vb (b':=(decide ((Yy g c (Qa g).length).length=2))) Y ?_)
 exact Qt Iff.rfl
noncomputable section
def nUn (g:D.Grid) (l:List Int):Nat:=(l.filter fun c=> !decide (chk g c)).length
theorem QjV (g:D.Grid) (l:List Int):nUn g l≤l.length:=List.length_filter_le _ _
theorem QdG {g:D.Grid} {l:List Int} {i:Nat} {x:Int} (h:l[i]? =some x):nUn g (l.take (i+1))=nUn g (l.take i)+(if chk g x then 0 else 1):=by
 unfold nUn
 rw [List.take_add_one,h,List.filter_append,List.length_append]
 by_cases hc:chk g x<;>simp [hc]
def unG (g:D.Grid) (slot:Int):Int:=if 0≤slot then (match (Qa g)[slot.toNat]? with | some s=>((nUn g (Ql g s s.Length.toNat):Nat):Int) | none=> -1) else -1
theorem QlZ {g:D.Grid} {slot:Int} (h:¬(0≤slot∧slot<(((Qa g).length:Nat):Int))):unG g slot= -1:=by
 unfold unG
 by_cases h1:0≤slot
 ·rw [if_pos h1,List.getElem?_eq_none (by omega)]
 ·rw [if_neg h1]
theorem Ql5 {g:D.Grid} {slot:Int} {s:D.Slot} (h1:0≤slot) (h:(Qa g)[slot.toNat]? =some s):unG g slot=((nUn g (Ql g s s.Length.toNat):Nat):Int):=by
 unfold unG
 rw [if_pos h1,h]
theorem Y9 {α:Type} {l:List α} {i:Nat} (h1:i≤l.length) (h2:¬i<l.length):l.take i=l:=List.take_of_length_le (by omega)
theorem YF {α:Type} (l:List α) (i:Nat):(l.take i).length≤i:=by rw [List.length_take];omega
end
theorem Qc6 (n:Nat) (g:D.Grid) (slot:Int) (hc:g.Cells.size≤maxLen):Pure (Qo Tryz.prog (n+7)) 139 [(T.agg (Qc false g)),(tI slot)] (tI (unG g slot)):=by
 refine Pure.intro (rs:= [ResultVar.tmp 4]) Tryz.func139 Y Y Y (E0:= [(0,(T.agg (Qc false g))),(1,(tI slot))]) Y ?_
 obtain ⟨hlim,hmx,hmax⟩:=Qz
 have hsl:=Zq g
 refine sr (kO (B.box (ts:=(Qc false g)) (tv (T.agg (Qc false g)) Y) nofun Y) (fO (OF.assign (VEv.int .i64 0)) (nt (sr (lO (OL.loadOn (us:=(Qc false g)) (tv (T.op 0 0) Y) Y Q6 Q0 (lb Y) Y) (cO (OC.callF (r':=(T.os 4 1 0 (((Qa g).map (Qk true)).length))) (objs:= [(Obj.rows 4 ((Qa g).map (Qk true)))]) Y (vc (tv (T.agg (Qc false g)) Y) vn) (LendL.cons (lg Qx) ln) (ZI (n+3) g (by assumption)) Y) (aO (T.os 4 1 0 (((Qa g).map (Qk true)).length)) Y (nt (sq (sr (mO (tI slot) Y ?_)))))))))))
 refine mO (T.os 4 1 0 (((Qa g).map (Qk true)).length)) Y (lO (B.lenO (m:=(Qa g).length) (tv (T.os 4 1 0 (((Qa g).map (Qk true)).length)) Y) Yj (List.length_map ..)) (fO (B.sub (n:=((((Qa g).length:Nat):Int) - 1)) (tv (tN ((Qa g).length)) Y) (VEv.int .i64 1) (by (rw [Qs (by omega)];done))) (cO (cS (vc (tv (tI slot) Y) (vc (VEv.int .i64 0) (vc (tv (tI ((((Qa g).length:Nat):Int) - 1)) Y) vn))) (Zg Y) (Q2 (n+5) slot 0 ((((Qa g).length:Nat):Int) - 1)) Y Y) (fO (QU (tv (tB (decide (0≤slot∧slot≤((((Qa g).length:Nat):Int) - 1)))) Y)) (nt ?_)))))
 refine cn (0≤slot∧slot≤((((Qa g).length:Nat):Int) - 1)) Y (fun fhc0=> ?_) fun fhc0=> ?_
 ·refine sr ?_
  refine fO (OF.assign (VEv.int .i64 (-1))) (nt (rt (tr (vi (n':=(-1)) Y ?_))))
  exact (QlZ (by omega)).symm
 have hs0:0≤slot:=by omega
 refine sk (tn (sq (VRun.draw (B:= [[],[],[],[2,1],[1,2,3],[3,2,1,4,0],[0,4,1,2,3,5]]) (by kernel_rfl) (by kernel_rfl) (lD (OL.loadOn (us:=(Qc false g)) (tv (T.op 0 0) Y) Y Q6 Q0 (lb Y) Y) Y Y (mD (T.os 4 1 0 (((Qa g).map (Qk true)).length)) Y Y (mD (tI slot) Y Y ?_))))))
 obtain ⟨x1,hx1⟩:∃x,(Qa g)[(Int.toNat slot)]? =some x:=⟨_,List.getElem?_eq_getElem (by omega)⟩
 refine fD (B.indexAddrO (i:=(Int.toNat slot)) (tv (T.os 4 1 0 (((Qa g).map (Qk true)).length)) Y) (tv (tI slot) Y) (by omega) (by (simp only [List.length_map];omega)) Yj Zw QbJ) Y Y (lD (OL.loadPn (us:=(Qk false x1)) (row:=(Qk true x1)) (tv (T.orp 4 1 (Int.toNat slot) 0) Y) Y (Qu _ hx1) QdV Zw (lb Y) Y (bc Y (bc Y (bc Y (bc Y bn))))) Y Y (VRunD.quiet (bi:= [3,2,1,4,0]) Y VWant.always Y Y Y bn (OC.callF (r':=(T.os 1 2 0 (((if x1∈Qa g then Ql g x1 x1.Length.toNat else []).map (Qe true)).length))) (objs:= [(Obj.rows 1 ((if x1∈Qa g then Ql g x1 x1.Length.toNat else []).map (Qe true)))]) Y (vc (tv (T.agg (Qc false g)) Y) (vc (tv (T.agg (Qk false x1)) Y) vn)) (LendL.cons (lg Qx) (LendL.cons (lg okeSlot) ln)) (Qaq (n+2) g x1 (by assumption)) Y) (fD (OF.assign (tv (T.os 1 2 0 (((if x1∈Qa g then Ql g x1 x1.Length.toNat else []).map (Qe true)).length)) Y)) Y Y (VRunD.nil (tn (sr (fO (OF.assign (VEv.int .i64 0)) (nt (sq (sr (fO (OF.assign (VEv.int .i64 0)) ?_)))))))))))
 refine nt (VRun.block ?_)
 refine VRun.loop (A:=Nat×Nat) (fun s_=> [(2,(T.op 0 0)),(4,(tN 0)),(6,(T.os 1 1 0 (((if x1∈Qa g then Ql g x1 x1.Length.toNat else []).map (Qe true)).length))),(7,(tN s_.2)),(8,(tN s_.1))]) (fun s_=>QV [(0,(Obj.cells (Qc false g))),(1,(Obj.rows 1 ((if x1∈Qa g then Ql g x1 x1.Length.toNat else []).map (Qe true))))]) 2 (fun s_=>s_.1≤(if x1∈Qa g then Ql g x1 x1.Length.toNat else []).length∧s_.2=nUn g ((if x1∈Qa g then Ql g x1 x1.Length.toNat else []).take s_.1)) (fun s_=>(if x1∈Qa g then Ql g x1 x1.Length.toNat else []).length - s_.1) ((0,0):Nat×Nat) ?_ (Wk.mk (fun k=>if k=1 then 2 else k) ?_ ?_ ?_) ?_
 ·exact ⟨Nat.zero_le _,rfl⟩
 ·exact (b2 (b2 (b2 (b2 (b2 bn)))))
 ·exact (b3 (b3 bn))
 ·exact nd Y
 rintro ⟨i,m⟩ (hI':i≤(if x1∈Qa g then Ql g x1 x1.Length.toNat else []).length∧m=nUn g ((if x1∈Qa g then Ql g x1 x1.Length.toNat else []).take i))
 show VRun _ _ _ [(2,(T.op 0 0)),(4,(tN 0)),(6,(T.os 1 1 0 (((if x1∈Qa g then Ql g x1 x1.Length.toNat else []).map (Qe true)).length))),(7,(tN m)),(8,(tN i))] (QV [(0,(Obj.cells (Qc false g))),(1,(Obj.rows 1 ((if x1∈Qa g then Ql g x1 x1.Length.toNat else []).map (Qe true))))]) 2 _
 have hI1:=hI'.1
 have hl6:=QhZ g x1
 have hn6:=QjV g ((if x1∈Qa g then Ql g x1 x1.Length.toNat else []).take i)
 have ht6:=YF (if x1∈Qa g then Ql g x1 x1.Length.toNat else []) i
 have hI2:=hI'.2
 refine sq (sr (mO (tN i) Y (mO (T.os 1 1 0 (((if x1∈Qa g then Ql g x1 x1.Length.toNat else []).map (Qe true)).length)) Y (lO (B.lenO (m:=(if x1∈Qa g then Ql g x1 x1.Length.toNat else []).length) (tv (T.os 1 1 0 (((if x1∈Qa g then Ql g x1 x1.Length.toNat else []).map (Qe true)).length)) Y) Yi (List.length_map ..)) (fO (Q9 (tv (tN i) Y) (tv (tN ((if x1∈Qa g then Ql g x1 x1.Length.toNat else []).length)) Y)) (nt ?_))))))
 refine cd (i<(if x1∈Qa g then Ql g x1 x1.Length.toNat else []).length) Y (fun fhc1=> ?_) fun fhc1=> ?_
 ·refine sk ?_
  refine tn (sq (VRun.block (sq (VRun.draw (B:= [[],[],[],[2,1],[1,2,3],[3,2,1,4,0],[0,4,1,2,3,5]]) (by kernel_rfl) (by kernel_rfl) (lD (OL.loadOn (us:=(Qc false g)) (tv (T.op 0 0) Y) Y Q6 Q0 (lb Y) Y) Y Y (mD (T.os 1 1 0 (((if x1∈Qa g then Ql g x1 x1.Length.toNat else []).map (Qe true)).length)) Y Y (mD (tN i) Y Y ?_)))))))
  obtain ⟨x2,hx2⟩:∃x,(if x1∈Qa g then Ql g x1 x1.Length.toNat else [])[i]? =some x:=⟨_,List.getElem?_eq_getElem (by omega)⟩
  refine fD (B.indexAddrO (i:=i) (tv (T.os 1 1 0 (((if x1∈Qa g then Ql g x1 x1.Length.toNat else []).map (Qe true)).length)) Y) (tv (tN i) Y) Y (by (simp only [List.length_map];omega)) Yi ZJ Y8) Y Y (lD (OL.loadP1 (t:=(tI x2)) (row:=(Qe true x2)) (tv (T.orp 1 1 i 0) Y) Y (Qu _ hx2) Y Y QS) Y Y (VRunD.quiet (bi:= [3,2,1,4,0]) Y VWant.always Y Y Y bn (cS (vc (tv (T.agg (Qc false g)) Y) (vc (tv (tI x2) Y) vn)) (LendL.cons (lg Qx) (lp Y ln)) (QeF (n+0) g x2 (by assumption)) Y Y) (fD (QU (tv (tB (decide (chk g x2))) Y)) Y Y (VRunD.nil (tn ?_)))))
  refine cn (chk g x2) Y (fun fhc2=> ?_) fun fhc2=> ?_
  ·refine VRun.region ?_
   refine mO (tN m) Y (fO (QB (tv (tN m) Y) (VEv.int .i64 1) (by omega)) (aO (tN (m+1)) Y (VRunO.nil (vinB.n (tn (VRun.region (mO (tN i) Y (fO (QB (tv (tN i) Y) (VEv.int .i64 1) (by omega)) (aO (tN (i+1)) Y (VRunO.nil (tn ?_)))))))))))
   refine ⟨((i+1,m+(if chk g x2 then 0 else 1)):Nat×Nat),?_,?_,Wk.mk (fun k=>k) ?_ ?_ ?_⟩
   ·exact ⟨by omega,by rw [QdG hx2,← hI2]⟩
   ·omega
   ·exact (b2 (b2 (b2 (bc ⟨(congrArg (T.int .i64) (show (((m+1):Nat):Int)=(((m+(if chk g x2 then 0 else 1)):Nat):Int) from (by (rw [if_neg fhc2];done)))),rfl⟩ (b2 bn)))))
   ·exact (b3 (b3 bn))
   ·exact nd Y
  refine sk (vinB.n (tn (VRun.region (mO (tN i) Y (fO (QB (tv (tN i) Y) (VEv.int .i64 1) (by omega)) (aO (tN (i+1)) Y (VRunO.nil (tn ?_))))))))
  refine ⟨((i+1,m+(if chk g x2 then 0 else 1)):Nat×Nat),?_,?_,Wk.mk (fun k=>k) ?_ ?_ ?_⟩
  ·exact ⟨by omega,by rw [QdG hx2,← hI2]⟩
  ·omega
  ·exact (b2 (b2 (b2 (bc ⟨(congrArg (T.int .i64) (show ((m:Nat):Int)=(((m+(if chk g x2 then 0 else 1)):Nat):Int) from (by (rw [if_pos fhc2];omega)))),rfl⟩ (b2 bn)))))
  ·exact (b3 (b3 bn))
  ·exact nd Y
 refine VRun.exit (vthn.e (vthn.e (vinB.e (tn (sr (mO (tN m) Y (aO (tN m) Y (nt (rt (vi (n':=((m:Nat):Int)) Y ?_))))))))))
 rw [Ql5 hs0 hx1,hI2,Y9 hI1 fhc1,Qh0 hx1]
theorem Qc3 (n:Nat) (g:D.Grid) (slot:Int) (hc:g.Cells.size≤maxLen):Pure (Qo Tryz.prog (n+7)) 112 [(T.agg (Qc false g)),(tI slot)] (tI (unG g slot)):=by
 refine Pure.intro (rs:= [ResultVar.tmp 4]) Tryz.func112 Y Y Y (E0:= [(0,(T.agg (Qc false g))),(1,(tI slot))]) Y ?_
 obtain ⟨hlim,hmx,hmax⟩:=Qz
 have hsl:=Zq g
 have hll:=Qbc g
 refine sr (kO (B.box (ts:=(Qc false g)) (tv (T.agg (Qc false g)) Y) nofun Y) (fO (OF.assign (VEv.int .i64 0)) (nt (sr (lO (OL.loadOn (us:=(Qc false g)) (tv (T.op 0 0) Y) Y Q6 Q0 (lb Y) Y) (cO (OC.callF (r':=(T.os 1 1 0 (((QP g).map ((Jg 1 Qe) true)).length))) (objs:= [(Obj.rows 1 ((QP g).map ((Jg 1 Qe) true)))]) Y (vc (tv (T.agg (Qc false g)) Y) vn) (LendL.cons (lg Qx) ln) (JJ (n+2) g (by assumption)) Y) (aO (T.os 1 1 0 (((QP g).map ((Jg 1 Qe) true)).length)) Y (nt (sq (sr (mO (tI slot) Y ?_)))))))))))
 refine mO (T.os 1 1 0 (((QP g).map ((Jg 1 Qe) true)).length)) Y (lO (B.lenO (m:=(QP g).length) (tv (T.os 1 1 0 (((QP g).map ((Jg 1 Qe) true)).length)) Y) Qgl (List.length_map ..)) (cO (cS (vc (tv (tI slot) Y) (vc (tv (tN ((QP g).length)) Y) vn)) (Zg Y) (YK (n+5) slot (((QP g).length:Nat):Int)) Y Y) (fO (QU (tv (tB (decide (0≤slot∧slot<(((QP g).length:Nat):Int)))) Y)) (nt ?_))))
 refine cn (0≤slot∧slot<(((QP g).length:Nat):Int)) Y (fun fhc0=> ?_) fun fhc0=> ?_
 ·refine sr ?_
  refine fO (OF.assign (VEv.int .i64 (-1))) (nt (rt (tr (vi (n':=(-1)) Y ?_))))
  exact (QlZ (by omega)).symm
 refine sk (tn (sr (fO (OF.assign (VEv.int .i64 0)) (nt (sq (VRun.wk (Wk.freeze (sz:=1) (k:=1) (rows':=((QP g).map ((Jg 1 Qe) false))) [5,10,12] (bc Y (bc Y (bc Y bn))) Y Y ((QlA okInt).fzMap _ _)) ?_))))))
 have hs0:0≤slot:=by omega
 refine sr (mO (rd 1 (Jg 1 Qe) (QP g)) Y (mO (tI slot) Y ?_))
 obtain ⟨x1,hx1⟩:∃x,(QP g)[(Int.toNat slot)]? =some x:=⟨_,List.getElem?_eq_getElem (by omega)⟩
 obtain ⟨y1,hy1,hq1⟩:=Qgx hx1
 refine fO (OF.indexAddrR (row:=((Jg 1 Qe) false x1)) (i:=(Int.toNat slot)) (tv (rd 1 (Jg 1 Qe) (QP g)) Y) (tv (tI slot) Y) (by omega) (Qu _ hx1) Qgl Qg2 QjR) (lO (OL.loadR1 (t:=(rd 1 Qe x1)) (tv (T.rp [(rd 1 Qe x1)]) Y) Y QeD) (lO (B.lenR (m:=x1.length) (tv (rd 1 Qe x1) Y) Yi (List.length_map ..)) (fO (OF.move (VEv.int .i64 0)) (nt (VRun.block ?_)))))
 refine VRun.loop (A:=Nat×Nat) (fun s_=> [(2,(T.op 0 0)),(4,(tN 0)),(6,(tN s_.2)),(19,(rd 1 Qe x1)),(20,(tN x1.length)),(21,(tN s_.1))]) (fun s_=>QV [(0,(Obj.cells (Qc false g)))]) 1 (fun s_=>s_.1≤x1.length∧s_.2=nUn g (x1.take s_.1)) (fun s_=>x1.length - s_.1) ((0,0):Nat×Nat) ?_ (Wk.mk (fun k=>k) ?_ ?_ ?_) ?_
 ·exact ⟨Nat.zero_le _,rfl⟩
 ·exact (b2 (b2 (b2 (b2 (b2 (b2 bn))))))
 ·exact (b3 bn)
 ·exact nd Y
 rintro ⟨i,m⟩ (hI':i≤x1.length∧m=nUn g (x1.take i))
 show VRun _ _ _ [(2,(T.op 0 0)),(4,(tN 0)),(6,(tN m)),(19,(rd 1 Qe x1)),(20,(tN x1.length)),(21,(tN i))] (QV [(0,(Obj.cells (Qc false g)))]) 1 _
 have hI1:=hI'.1
 have hl6:=Qcf hy1
 rw [← hq1] at hl6
 have hn6:=QjV g (x1.take i)
 have ht6:=YF x1 i
 have hI2:=hI'.2
 refine sr (fO (Q9 (tv (tN i) Y) (tv (tN x1.length) Y)) (nt (sq ?_)))
 refine cd (i<x1.length) Y (fun fhc1=> ?_) fun fhc1=> ?_
 ·refine sk ?_
  refine tn (sq (VRun.block (sr ?_)))
  obtain ⟨x2,hx2⟩:∃x,x1[i]? =some x:=⟨_,List.getElem?_eq_getElem (by omega)⟩
  skip
  refine fO (OF.indexAddrR (row:=(Qe false x2)) (i:=i) (tv (rd 1 Qe x1) Y) (tv (tN i) Y) Y (Qu _ hx2) Yi ZJ Y8) (lO (OL.loadR1 (t:=(tI x2)) (tv (T.rp [(tI x2)]) Y) Y QS) (aO (tI x2) Y (nt (sr (lO (OL.loadOn (us:=(Qc false g)) (tv (T.op 0 0) Y) Y Q6 Q0 (lb Y) Y) (mO (tI x2) Y (cO (cS (vc (tv (T.agg (Qc false g)) Y) (vc (tv (tI x2) Y) vn)) (LendL.cons (lg Qx) (lp Y ln)) (Qeu (n+0) g x2 (by assumption)) Y Y) (fO (QU (tv (tB (decide (chk g x2))) Y)) (nt ?_)))))))))
  refine cn (chk g x2) Y (fun fhc2=> ?_) fun fhc2=> ?_
  ·refine VRun.region ?_
   refine mO (tN m) Y (fO (QB (tv (tN m) Y) (VEv.int .i64 1) (by omega)) (aO (tN (m+1)) Y (VRunO.nil (vinB.n (tn (VRun.region (fO (QB (tv (tN i) Y) (VEv.int .i64 1) (by omega)) (mO (tN (i+1)) Y (VRunO.nil (tn ?_))))))))))
   refine ⟨((i+1,m+(if chk g x2 then 0 else 1)):Nat×Nat),?_,?_,Wk.mk (fun k=>k) ?_ ?_ ?_⟩
   ·exact ⟨by omega,by rw [QdG hx2,← hI2]⟩
   ·omega
   ·exact (b2 (b2 (bc ⟨(congrArg (T.int .i64) (show (((m+1):Nat):Int)=(((m+(if chk g x2 then 0 else 1)):Nat):Int) from (by (rw [if_neg fhc2];done)))),rfl⟩ (b2 (b2 (b2 bn))))))
   ·exact (b3 bn)
   ·exact nd Y
  refine sk (vinB.n (tn (VRun.region (fO (QB (tv (tN i) Y) (VEv.int .i64 1) (by omega)) (mO (tN (i+1)) Y (VRunO.nil (tn ?_)))))))
  refine ⟨((i+1,m+(if chk g x2 then 0 else 1)):Nat×Nat),?_,?_,Wk.mk (fun k=>k) ?_ ?_ ?_⟩
  ·exact ⟨by omega,by rw [QdG hx2,← hI2]⟩
  ·omega
  ·exact (b2 (b2 (bc ⟨(congrArg (T.int .i64) (show ((m:Nat):Int)=(((m+(if chk g x2 then 0 else 1)):Nat):Int) from (by (rw [if_pos fhc2];omega)))),rfl⟩ (b2 (b2 (b2 bn))))))
  ·exact (b3 bn)
  ·exact nd Y
 refine VRun.exit (vthn.e (vthn.e (vinB.e (tn (sr (mO (tN m) Y (aO (tN m) Y (nt (rt (vi (n':=((m:Nat):Int)) Y ?_))))))))))
 rw [Ql5 hs0 hy1,hI2,Y9 hI1 fhc1,hq1]
noncomputable section
def Qfa (g:D.Grid) (i:Nat) (s:D.Slot):Prop:=s.Length<2*unG g ((i:Nat):Int)
def Qkg (g:D.Grid) (c:Int):Prop:=∃s∈Qa g,inS g c s
def Qbh (g:D.Grid) (c:Nat):Prop:=Qy g.Cells c=46∧¬Qkg g ((c:Nat):Int)
def QbY (g:D.Grid):Prop:=(∃i s,(Qa g)[i]? =some s∧Qfa g i s)∨∃c,c<g.Cells.size∧gridOk g∧Qbh g c
instance (g:D.Grid):Decidable (QbY g):=Classical.propDecidable _
theorem Qkw (g:D.Grid) (c:Int):∀(l:List D.Slot) (n:Nat),(atL g c l n).length=0↔¬∃s∈l,inS g c s
 | [],n=>by simp [atL]
 | x::r,n=>by
  have:=Qkw g c r (n+1)
  rw [atL,List.length_append]
  by_cases h:inS g c x
  ·rw [if_pos h];simp [h]
  ·rw [if_neg h,List.length_nil,Nat.zero_add,this];simp [h]
theorem atG_none {g:D.Grid} {c:Int}:(Yy g c (Qa g).length).length=0↔¬Qkg g c:=by
 unfold Yy
 rw [List.take_length]
 exact Qkw g c _ _
theorem QlI (g:D.Grid) (i:Int): -1≤unG g i∧unG g i≤6:=by
 unfold unG
 split
 ·split
  ·rename_i s hs
   have h1:=QjV g (Ql g s s.Length.toNat)
   have h2:=Qcf hs
   omega
  ·omega
 ·omega
def NoBad (g:D.Grid) (i:Nat):Prop:=i≤(Qa g).length∧∀j s,j<i→(Qa g)[j]? =some s→¬Qfa g j s
theorem NoBad.start (g:D.Grid):NoBad g 0:=⟨Nat.zero_le _,fun j s hj=>by omega⟩
theorem NoBad.next {g:D.Grid} {i:Nat} {s:D.Slot} (h:NoBad g i) (hx:(Qa g)[i]? =some s) (hn:¬Qfa g i s):NoBad g (i+1):=by
 have:=(List.getElem?_eq_some_iff.1 hx).1
 refine ⟨by omega,fun j y hj hy=> ?_⟩
 rcases Nat.lt_or_ge j i with h1 | h1
 ·exact h.2 j y h1 hy
 ·obtain rfl:j=i:=by omega
  rw [hx] at hy
  exact Option.some.inj hy▸hn
theorem QlO {g:D.Grid} {i:Nat} (h:NoBad g i) (hi:¬i<(Qa g).length) (h2:∀c,c<g.Cells.size→¬(gridOk g∧Qbh g c)):¬QbY g:=by
 rintro (⟨j,s,h3,h4⟩ | ⟨c,h3,h4⟩)
 ·have:=(List.getElem?_eq_some_iff.1 h3).1
  exact h.2 j s (by omega) h3 h4
 ·exact h2 c h3 h4
def mapOf (m:List (Int×Int)) (p:Int→Prop):Prop:=∀c,(p c→Qb9 m c=1)∧(¬p c→Qb9 m c=0)
def QgK (g:D.Grid) (i:Nat) (c:Int):Prop:=∃x∈(QP g).take i,c∈x
theorem Qle (g:D.Grid) (c:Int):¬QgK g 0 c:=by rintro ⟨x,hx,_⟩;simp at hx
theorem Qk7 {g:D.Grid} {i:Nat} {x:List Int} (h:(QP g)[i]? =some x) (c:Int):QgK g (i+1) c↔QgK g i c∨c∈x:=by
 unfold QgK
 rw [List.take_add_one,h]
 constructor
 ·rintro ⟨y,hy,hc⟩
  rcases List.mem_append.1 hy with hy | hy
  ·exact .inl ⟨y,hy,hc⟩
  ·obtain rfl:=List.mem_singleton.1 hy
   exact .inr hc
 ·rintro (⟨y,hy,hc⟩ | hc)
  ·exact ⟨y,List.mem_append_left _ hy,hc⟩
  ·exact ⟨x,List.mem_append_right _ (by simp),hc⟩
theorem QdH {g:D.Grid} {i:Nat} (h:¬i<(QP g).length) (c:Int):QgK g i c↔Qkg g c:=by
 unfold QgK Qkg
 rw [List.take_of_length_le (by omega)]
 unfold QP inS
 constructor
 ·rintro ⟨x,hx,hc⟩
  obtain ⟨s,hs,rfl⟩:=List.mem_map.1 hx
  exact ⟨s,hs,hc⟩
 ·rintro ⟨s,hs,hc⟩
  exact ⟨_,List.mem_map.2 ⟨s,hs,rfl⟩,hc⟩
theorem mapOf.congr {m:List (Int×Int)} {p q:Int→Prop} (h:mapOf m p) (e:∀c,p c↔q c):mapOf m q:=fun c=>by rw [← e c];exact h c
theorem mapOf.put {m:List (Int×Int)} {p:Int→Prop} {n:Int} (h:mapOf m p):mapOf (Qcv m n 1) (fun c=>p c∨c=n):=fun c=>by
 rw [QiQ]
 by_cases e:c=n
 ·rw [if_pos e];exact ⟨fun _=>rfl,fun h2=>absurd (.inr e) h2⟩
 ·rw [if_neg e]
  exact ⟨fun h2=>(h c).1 (h2.resolve_right e),fun h2=>(h c).2 fun h3=>h2 (.inl h3)⟩
theorem QgD {l:List Int} {i:Nat} {x:Int} (h:l[i]? =some x) (c:Int):c∈l.take (i+1)↔c∈l.take i∨c=x:=by
 rw [List.take_add_one,h]
 simp
def QbR (f:ByteArray) (c:Nat):Prop:=¬(97≤Qy f c∧Qy f c≤122)
def QhW (g:D.Grid) (f:ByteArray):Prop:=∃c,c<g.Cells.size∧Qbh g c∧QbR f c
instance (g:D.Grid) (f:ByteArray):Decidable (QhW g f):=Classical.propDecidable _
end
theorem Qfl (n:Nat) (g:D.Grid) (hc:g.Cells.size≤maxLen):Pure (Qo Tryz.prog (n+8)) 106 [(T.agg (Qc false g))] (tB (decide (QbY g))):=by
 refine Pure.intro (rs:= [ResultVar.tmp 2]) Tryz.func106 Y Y Y (E0:= [(0,(T.agg (Qc false g)))]) Y ?_
 obtain ⟨hlim,hmx,hmax⟩:=Qz
 have hsl:=Zq g
 refine sr (kO (B.box (ts:=(Qc false g)) (tv (T.agg (Qc false g)) Y) nofun Y) (fO (OF.assign (VEv.bool false)) (nt (sr (lO (OL.loadOn (us:=(Qc false g)) (tv (T.op 0 0) Y) Y Q6 Q0 (lb Y) Y) (cO (OC.callF (r':=(T.os 4 1 0 (((Qa g).map (Qk true)).length))) (objs:= [(Obj.rows 4 ((Qa g).map (Qk true)))]) Y (vc (tv (T.agg (Qc false g)) Y) vn) (LendL.cons (lg Qx) ln) (ZI (n+4) g (by assumption)) Y) (aO (T.os 4 1 0 (((Qa g).map (Qk true)).length)) Y (nt (sq (sr (fO (OF.assign (VEv.int .i64 0)) ?_)))))))))))
 refine nt (VRun.block ?_)
 refine VRun.loop (A:=Nat) (fun s_=> [(1,(T.op 0 0)),(3,(T.os 4 1 0 (((Qa g).map (Qk true)).length))),(4,(tN s_))]) (fun s_=>QV [(0,(Obj.cells (Qc false g))),(1,(Obj.rows 4 ((Qa g).map (Qk true))))]) 2 (fun s_=>NoBad g s_) (fun s_=>(Qa g).length - s_) (0:Nat) ?_ (Wk.mk (fun k=>k) ?_ ?_ ?_) ?_
 ·exact NoBad.start _
 ·exact (b2 (b2 (b2 bn)))
 ·exact (b3 (b3 bn))
 ·exact nd Y
 rintro i (hI':NoBad g i)
 show VRun _ _ _ [(1,(T.op 0 0)),(3,(T.os 4 1 0 (((Qa g).map (Qk true)).length))),(4,(tN i))] (QV [(0,(Obj.cells (Qc false g))),(1,(Obj.rows 4 ((Qa g).map (Qk true))))]) 2 _
 have hI1:=hI'.1
 have hNB:=hI'
 have hub:=QlI g ((i:Nat):Int)
 refine sq (sr (mO (tN i) Y (mO (T.os 4 1 0 (((Qa g).map (Qk true)).length)) Y (lO (B.lenO (m:=(Qa g).length) (tv (T.os 4 1 0 (((Qa g).map (Qk true)).length)) Y) Yj (List.length_map ..)) (fO (Q9 (tv (tN i) Y) (tv (tN ((Qa g).length)) Y)) (nt ?_))))))
 refine cd (i<(Qa g).length) Y (fun fhc0=> ?_) fun fhc0=> ?_
 ·refine sk ?_
  refine tn (sq (VRun.block (sq (VRun.draw (B:= [[],[],[1,0],[0,1,2],[],[],[5,4],[4,5,6],[6,5,4,7],[7,4,5,6,8,2,1,0,3]]) (by kernel_rfl) (by kernel_rfl) (lD (OL.loadOn (us:=(Qc false g)) (tv (T.op 0 0) Y) Y Q6 Q0 (lb Y) Y) Y Y (mD (tN i) Y Y (VRunD.quiet (bi:= [1,0]) Y VWant.always Y Y Y bn (cS (vc (tv (T.agg (Qc false g)) Y) (vc (tv (tN i) Y) vn)) (LendL.cons (lg Qx) (lp Y ln)) (Qc6 (n+0) g ((i:Nat):Int) (by assumption)) Y Y) (fD (B.mul (n:=(2*unG g ((i:Nat):Int))) (VEv.int .i64 2) (tv (tI (unG g ((i:Nat):Int))) Y) (by (rw [Qs (by omega)];done))) Y Y (mD (T.os 4 1 0 (((Qa g).map (Qk true)).length)) Y Y (mD (tN i) Y Y ?_))))))))))
  obtain ⟨x1,hx1⟩:∃x,(Qa g)[i]? =some x:=⟨_,List.getElem?_eq_getElem (by omega)⟩
  refine fD (B.indexAddrO (i:=i) (tv (T.os 4 1 0 (((Qa g).map (Qk true)).length)) Y) (tv (tN i) Y) Y (by (simp only [List.length_map];omega)) Yj Zw QbJ) Y Y (fD (OF.fieldAddrP (tv (T.orp 4 1 i 0) Y) QbA) Y Y (lD (OL.loadP1 (t:=(tI x1.Length)) (row:=(Qk true x1)) (tv (T.orp 4 1 i 3) Y) Y (Qu _ hx1) Y Y QS) Y Y (fD (xgt (tv (tI (2*unG g ((i:Nat):Int))) Y) (tv (tI x1.Length) Y)) Y Y (VRunD.nil (tn ?_)))))
  refine cd (x1.Length<(2*unG g ((i:Nat):Int))) Y (fun fhc1=> ?_) fun fhc1=> ?_
  ·have q1:Qfa g i x1:=by unfold Qfa;omega
   refine sr (fO (OF.assign (VEv.bool true)) (nt (rt (vinB.r (tr (tr (vinB.r (tr (vb (b':=true) Y ?_)))))))))
   symm;rw [decide_eq_true_eq];exact .inl ⟨i,x1,hx1,q1⟩
  have q1:¬Qfa g i x1:=by unfold Qfa;omega
  refine sk (vinB.n (tn (VRun.region (mO (tN i) Y (fO (QB (tv (tN i) Y) (VEv.int .i64 1) (by omega)) (aO (tN (i+1)) Y (VRunO.nil (tn ?_))))))))
  refine ⟨(i+1:Nat),?_,?_,Wk.mk (fun k=>k) ?_ ?_ ?_⟩
  ·exact hI'.next hx1 q1
  ·omega
  ·exact (b2 (b2 (b2 bn)))
  ·exact (b3 (b3 bn))
  ·exact nd Y
 refine VRun.exit (vthn.e (vthn.e (vinB.e (tn (sq (sr (fO (OF.assign (VEv.int .i64 0)) (nt (VRun.block ?_)))))))))
 refine VRun.loop (A:=Nat) (fun s_=> [(1,(T.op 0 0)),(5,(tN s_))]) (fun s_=>QV [(0,(Obj.cells (Qc false g)))]) 1 (fun s_=>s_≤g.Cells.size∧∀c,c<s_→¬(gridOk g∧Qbh g c)) (fun s_=>g.Cells.size - s_) (0:Nat) ?_ (Wk.mk (fun k=>k) ?_ ?_ ?_) ?_
 ·exact ⟨Nat.zero_le _,fun c hc=>by omega⟩
 ·exact (b2 (b2 bn))
 ·exact (b3 bn)
 ·exact nd Y
 rintro k (hI':k≤g.Cells.size∧∀c,c<k→¬(gridOk g∧Qbh g c))
 show VRun _ _ _ [(1,(T.op 0 0)),(5,(tN k))] (QV [(0,(Obj.cells (Qc false g)))]) 1 _
 have hJ1:=hI'.1
 refine sq (sr (mO (tN k) Y (lf (tS g.Cells) Y QL Y Y ZG (lO (B.lenS (tv (tS g.Cells) Y) U9) (fO (Q9 (tv (tN k) Y) (tv (tN g.Cells.size) Y)) (nt ?_))))))
 refine cd (k<g.Cells.size) Y (fun fhc2=> ?_) fun fhc2=> ?_
 ·refine sk ?_
  refine tn (sq (VRun.block (sr (lO (OL.loadOn (us:=(Qc false g)) (tv (T.op 0 0) Y) Y Q6 Q0 (lb Y) Y) (mO (tN k) Y (cO (cS (vc (tv (T.agg (Qc false g)) Y) (vc (tv (tN k) Y) vn)) (LendL.cons (lg Qx) (lp Y ln)) (QfF (n+4) g ((k:Nat):Int) (by assumption)) Y Y) (mO (tB (decide (gridOk g∧(0≤((k:Nat):Int)∧((k:Nat):Int)≤((g.Cells.size:Nat):Int) - 1)∧Qy g.Cells (Int.toNat ((k:Nat):Int))=46))) Y ?_)))))))
  refine gw (gridOk g∧(0≤((k:Nat):Int)∧((k:Nat):Int)≤((g.Cells.size:Nat):Int) - 1)∧Qy g.Cells (Int.toNat ((k:Nat):Int))=46) (fun fhg34_1=> ?_) fun fhg34_1=> ?_
  ·refine gL (dy fhg34_1) Y Y (OL.loadOn (us:=(Qc false g)) (tv (T.op 0 0) Y) Y Q6 Q0 (lb Y) Y) ?_
   refine gF (dy fhg34_1) Y Y (OF.move (tv (tN k) Y)) (VRunO.chain (VWant.on Y Y (dy fhg34_1)) (OC.callF (r':=(T.os 1 1 0 (((Yy g ((k:Nat):Int) (Qa g).length).map (Qe true)).length))) (objs:= [(Obj.rows 1 ((Yy g ((k:Nat):Int) (Qa g).length).map (Qe true)))]) Y (vc (tv (T.agg (Qc false g)) Y) (vc (tv (tN k) Y) vn)) (LendL.cons (lg Qx) (lp Y ln)) (Qb8 (n+2) g ((k:Nat):Int) (by assumption)) Y) (gL (dy fhg34_1) Y Y (B.lenO (m:=(Yy g ((k:Nat):Int) (Qa g).length).length) (tv (T.os 1 1 0 (((Yy g ((k:Nat):Int) (Qa g).length).map (Qe true)).length)) Y) Yi (List.length_map ..)) (gF (dy fhg34_1) Y Y (B.eql (c:=(decide ((Yy g ((k:Nat):Int) (Qa g).length).length=0))) (tv (tN ((Yy g ((k:Nat):Int) (Qa g).length).length)) Y) (VEv.int .i64 0) (Qt (by omega))) (fO (OF.pickT (VEv.tmpB Y (dy fhg34_1)) (tv (tB (decide ((Yy g ((k:Nat):Int) (Qa g).length).length=0))) Y)) (nt ?_)))))
   refine cd ((Yy g ((k:Nat):Int) (Qa g).length).length=0) Y (fun fhc3=> ?_) fun fhc3=> ?_
   ·refine sr ?_
    refine fO (OF.assign (VEv.bool true)) (nt (rt (vinB.r (tr (tr (vinB.r (tr (vb (b':=true) Y ?_))))))))
    symm;rw [decide_eq_true_eq];exact .inr ⟨k,fhc2,fhg34_1.1,fhg34_1.2.2,atG_none.1 fhc3⟩
   refine sk (vinB.n (tn (VRun.region (mO (tN k) Y (fO (QB (tv (tN k) Y) (VEv.int .i64 1) (by omega)) (aO (tN (k+1)) Y (VRunO.nil (tn ?_))))))))
   refine ⟨(k+1:Nat),?_,?_,Wk.mk (fun k=>k) ?_ ?_ ?_⟩
   ·exact Zb (ok:=fun c=>¬(gridOk g∧Qbh g c)) hI' fhc2 (fun h=>fhc3 (atG_none.2 h.2.2))
   ·omega
   ·exact (b2 (b2 bn))
   ·exact (b3 bn)
   ·exact nd Y
  refine QD 5 3 true 34 (dz fhg34_1) Y Y Y (fO (OF.pickF (VEv.tmpB Y (dz fhg34_1)) (VEv.bool false)) (nt (cf Y (sk (vinB.n (tn (VRun.region (mO (tN k) Y (fO (QB (tv (tN k) Y) (VEv.int .i64 1) (by omega)) (aO (tN (k+1)) Y (VRunO.nil ?_)))))))))))
  refine tn ?_
  refine ⟨(k+1:Nat),?_,?_,Wk.mk (fun k=>k) ?_ ?_ ?_⟩
  ·exact Zb (ok:=fun c=>¬(gridOk g∧Qbh g c)) hI' fhc2 (fun h=>fhg34_1 ⟨h.1,⟨by omega,by omega⟩,h.2.1⟩)
  ·omega
  ·exact (b2 (b2 bn))
  ·exact (b3 bn)
  ·exact nd Y
 refine VRun.exit (vthn.e (vthn.e (vinB.e (tn (sr (fO (OF.assign (VEv.bool false)) (nt (rt (vb (b':=false) Y ?_)))))))))
 symm;rw [decide_eq_false_iff_not];exact QlO hNB fhc0 (Qa4 (ok:=fun c=>¬(gridOk g∧Qbh g c)) hI' fhc2)
theorem Qh1 (n:Nat) (g:D.Grid) (f:ByteArray) (hc:g.Cells.size≤maxLen) (hf:g.Cells.size≤f.size):Pure (Qo Tryz.prog (n+5)) 113 [(T.agg (Qc false g)),(tS f)] (tB (decide (QhW g f))):=by
 refine Pure.intro (rs:= [ResultVar.tmp 4]) Tryz.func113 Y Y Y (E0:= [(0,(T.agg (Qc false g))),(1,(tS f))]) Y ?_
 obtain ⟨hlim,hmx,hmax⟩:=Qz
 have hsl:=Zq g
 have hll:=Qbc g
 refine sr (kO (B.box (ts:=(Qc false g)) (tv (T.agg (Qc false g)) Y) nofun Y) (fO (OF.assign (VEv.bool false)) (nt (sr (kO B.makeMap (aO (T.om 1) Y (nt (sq (sr (lO (OL.loadOn (us:=(Qc false g)) (tv (T.op 0 0) Y) Y Q6 Q0 (lb Y) Y) (cO (OC.callF (r':=(T.os 1 2 0 (((QP g).map ((Jg 1 Qe) true)).length))) (objs:= [(Obj.rows 1 ((QP g).map ((Jg 1 Qe) true)))]) Y (vc (tv (T.agg (Qc false g)) Y) vn) (LendL.cons (lg Qx) ln) (JJ (n+0) g (by assumption)) Y) ?_)))))))))))
 refine lO (B.lenO (m:=(QP g).length) (tv (T.os 1 2 0 (((QP g).map ((Jg 1 Qe) true)).length)) Y) Qgl (List.length_map ..)) (fO (OF.move (VEv.int .i64 0)) (nt (VRun.block (VRun.wk (Wk.freeze (sz:=1) (k:=2) (rows':=((QP g).map ((Jg 1 Qe) false))) [13] (bc Y bn) Y Y ((QlA okInt).fzMap _ _)) ?_))))
 have he1:([]:List (Int×Int))= []:=by rfl
 refine VRun.loop (A:=Nat×(List (Int×Int))) (fun s_=> [(1,(tS f)),(2,(T.op 0 0)),(4,(tB false)),(5,(T.om 1)),(13,(rd 1 (Jg 1 Qe) (QP g))),(14,(tN ((QP g).length))),(15,(tN s_.1))]) (fun s_=>QV [(0,(Obj.cells (Qc false g))),(1,(Obj.map (eM s_.2)))]) 2 (fun s_=>s_.1≤(QP g).length∧mapOf s_.2 (QgK g s_.1)) (fun s_=>(QP g).length - s_.1) ((0,[]):Nat×(List (Int×Int))) ?_ (Wk.mk (fun k=>k) ?_ ?_ ?_) ?_
 ·exact ⟨Nat.zero_le _,fun c=>⟨fun h=>absurd h (Qle g c),fun _=>rfl⟩⟩
 ·exact (b2 (b2 (b2 (b2 (b2 (b2 (b2 bn)))))))
 ·exact (b3 (bc ⟨(congrArg (fun l_=>some (Obj.map (eM l_))) he1),(lb Y),rfl⟩ bn))
 ·exact nd Y
 rintro ⟨i,m⟩ (hI':i≤(QP g).length∧mapOf m (QgK g i))
 show VRun _ _ _ [(1,(tS f)),(2,(T.op 0 0)),(4,(tB false)),(5,(T.om 1)),(13,(rd 1 (Jg 1 Qe) (QP g))),(14,(tN ((QP g).length))),(15,(tN i))] (QV [(0,(Obj.cells (Qc false g))),(1,(Obj.map (eM m)))]) 2 _
 have hI1:=hI'.1
 have hM:=hI'.2
 refine sr (fO (Q9 (tv (tN i) Y) (tv (tN ((QP g).length)) Y)) (nt (sq ?_)))
 refine cd (i<(QP g).length) Y (fun fhc0=> ?_) fun fhc0=> ?_
 ·refine sk ?_
  refine tn (sq (VRun.block (sr ?_)))
  obtain ⟨x1,hx1⟩:∃x,(QP g)[i]? =some x:=⟨_,List.getElem?_eq_getElem (by omega)⟩
  obtain ⟨y1,hy1,hq1⟩:=Qgx hx1
  refine fO (OF.indexAddrR (row:=((Jg 1 Qe) false x1)) (i:=i) (tv (rd 1 (Jg 1 Qe) (QP g)) Y) (tv (tN i) Y) Y (Qu _ hx1) Qgl Qg2 QjR) (lO (OL.loadR1 (t:=(rd 1 Qe x1)) (tv (T.rp [(rd 1 Qe x1)]) Y) Y QeD) (aO (rd 1 Qe x1) Y (nt (sr (mO (rd 1 Qe x1) Y (lO (B.lenR (m:=x1.length) (tv (rd 1 Qe x1) Y) Yi (List.length_map ..)) (fO (OF.move (VEv.int .i64 0)) (nt (VRun.block ?_)))))))))
  refine VRun.loop (A:=Nat×(List (Int×Int))) (fun s_=> [(1,(tS f)),(2,(T.op 0 0)),(4,(tB false)),(5,(T.om 1)),(13,(rd 1 (Jg 1 Qe) (QP g))),(14,(tN ((QP g).length))),(15,(tN i)),(19,(rd 1 Qe x1)),(20,(tN x1.length)),(21,(tN s_.1))]) (fun s_=>QV [(0,(Obj.cells (Qc false g))),(1,(Obj.map (eM s_.2)))]) 2 (fun s_=>s_.1≤x1.length∧mapOf s_.2 (fun c=>QgK g i c∨c∈x1.take s_.1)) (fun s_=>x1.length - s_.1) ((0,m):Nat×(List (Int×Int))) ?_ (Wk.mk (fun k=>k) ?_ ?_ ?_) ?_
  ·exact ⟨Nat.zero_le _,hM.congr fun c=>by simp⟩
  ·exact (b2 (b2 (b2 (b2 (b2 (b2 (b2 (b2 (b2 (b2 bn))))))))))
  ·exact (b3 (b3 bn))
  ·exact nd Y
  rintro ⟨k,w⟩ (hI':k≤x1.length∧mapOf w (fun c=>QgK g i c∨c∈x1.take k))
  show VRun _ _ _ [(1,(tS f)),(2,(T.op 0 0)),(4,(tB false)),(5,(T.om 1)),(13,(rd 1 (Jg 1 Qe) (QP g))),(14,(tN ((QP g).length))),(15,(tN i)),(19,(rd 1 Qe x1)),(20,(tN x1.length)),(21,(tN k))] (QV [(0,(Obj.cells (Qc false g))),(1,(Obj.map (eM w)))]) 2 _
  have hJ1:=hI'.1
  have hl6:=Qcf hy1
  rw [← hq1] at hl6
  refine sr (fO (Q9 (tv (tN k) Y) (tv (tN x1.length) Y)) (nt (sq ?_)))
  refine cd (k<x1.length) Y (fun fhc1=> ?_) fun fhc1=> ?_
  ·refine sk ?_
   refine tn (sq (VRun.block (sr ?_)))
   obtain ⟨x2,hx2⟩:∃x,x1[k]? =some x:=⟨_,List.getElem?_eq_getElem (by omega)⟩
   skip
   refine fO (OF.indexAddrR (row:=(Qe false x2)) (i:=k) (tv (rd 1 Qe x1) Y) (tv (tN k) Y) Y (Qu _ hx2) Yi ZJ Y8) (lO (OL.loadR1 (t:=(tI x2)) (tv (T.rp [(tI x2)]) Y) Y QS) (aO (tI x2) Y (nt (VRun.region (mO (T.om 1) Y (mO (tI x2) Y (cO (B.mapSet (l:=w) (l':=(Qcv w x2 1)) (tv (T.om 1) Y) (tv (tI x2) Y) (VEv.int .i64 1) Y QoX U3 Y) (VRunO.nil (vinB.n (tn (VRun.region ?_)))))))))))
   refine fO (QB (tv (tN k) Y) (VEv.int .i64 1) (by omega)) (mO (tN (k+1)) Y (VRunO.nil (tn ?_)))
   refine ⟨((k+1,Qcv w x2 1):Nat×(List (Int×Int))),?_,?_,Wk.mk (fun k=>k) ?_ ?_ ?_⟩
   ·exact ⟨by omega,hI'.2.put.congr fun c=>by rw [QgD hx2,or_assoc]⟩
   ·omega
   ·exact (b2 (b2 (b2 (b2 (b2 (b2 (b2 (b2 (b2 (b2 bn))))))))))
   ·exact (b3 (b3 bn))
   ·exact nd Y
  refine VRun.exit (vthn.e (vthn.e (vinB.e (vinB.n (tn (VRun.region (fO (QB (tv (tN i) Y) (VEv.int .i64 1) (by omega)) (mO (tN (i+1)) Y (VRunO.nil (tn ?_))))))))))
  refine ⟨((i+1,w):Nat×(List (Int×Int))),?_,?_,Wk.mk (fun k=>k) ?_ ?_ ?_⟩
  ·exact ⟨by omega,hI'.2.congr fun c=>by rw [Qk7 hx1,List.take_of_length_le (by omega)]⟩
  ·omega
  ·exact (b2 (b2 (b2 (b2 (b2 (b2 (b2 bn)))))))
  ·exact (b3 (b3 bn))
  ·exact nd Y
 refine VRun.exit (vthn.e (vthn.e (vinB.e (tn (sq (sr (lf (tS g.Cells) Y QL Y Y ZG (lO (B.lenS (tv (tS g.Cells) Y) U9) (fO (OF.move (VEv.int .i64 0)) (nt (VRun.block ?_)))))))))))
 refine VRun.loop (A:=Nat) (fun s_=> [(1,(tS f)),(2,(T.op 0 0)),(5,(T.om 1)),(31,(tN g.Cells.size)),(32,(tN s_))]) (fun s_=>QV [(0,(Obj.cells (Qc false g))),(1,(Obj.map (eM m)))]) 2 (fun s_=>s_≤g.Cells.size∧∀j,j<s_→¬(Qbh g j∧QbR f j)) (fun s_=>g.Cells.size - s_) (0:Nat) ?_ (Wk.mk (fun k=>k) ?_ ?_ ?_) ?_
 ·exact ⟨Nat.zero_le _,fun c hc=>by omega⟩
 ·exact (b2 (b2 (b2 (b2 (b2 bn)))))
 ·exact (b3 (b3 bn))
 ·exact nd Y
 rintro c (hI':c≤g.Cells.size∧∀j,j<c→¬(Qbh g j∧QbR f j))
 show VRun _ _ _ [(1,(tS f)),(2,(T.op 0 0)),(5,(T.om 1)),(31,(tN g.Cells.size)),(32,(tN c))] (QV [(0,(Obj.cells (Qc false g))),(1,(Obj.map (eM m)))]) 2 _
 have hJ1:=hI'.1
 refine sr (fO (Q9 (tv (tN c) Y) (tv (tN g.Cells.size) Y)) (nt (sq ?_)))
 refine cd (c<g.Cells.size) Y (fun fhc2=> ?_) fun fhc2=> ?_
 ·refine sk ?_
  refine tn (sq (VRun.block (sr (mO (tN c) Y (aO (tN c) Y (nt (sr (lf (tS g.Cells) Y QL Y Y ZG (mO (tN c) Y ?_)))))))))
  have hb2:c<g.Cells.size:=(by omega)
  refine fO (xix (tv (tS g.Cells) Y) (tv (tN c) Y) hb2 U9) (fO (Yn (tv (T.int .u8 (Qy g.Cells c)) Y) (VEv.int .u8 46)) (mO (tB (decide (Qy g.Cells c=46))) Y ?_))
  refine gw (Qy g.Cells c=46) (fun fhg40_3=> ?_) fun fhg40_3=> ?_
  ·refine gF (dy fhg40_3) Y Y (OF.move (tv (T.om 1) Y)) ?_
   refine gF (dy fhg40_3) Y Y (OF.move (tv (tN c) Y)) (gL (dy fhg40_3) Y Y (B.mapGet (l:=m) (n:=((c:Nat):Int)) (tv (T.om 1) Y) (tv (tN c) Y) Y QoX U3 zo3) (gF (dy fhg40_3) Y Y (Yn (tv (tI (Qb9 m ((c:Nat):Int))) Y) (VEv.int .i64 0)) (fO (OF.pickT (VEv.tmpB Y (dy fhg40_3)) (tv (tB (decide (Qb9 m ((c:Nat):Int)=0))) Y)) (mO (tB (decide (Qb9 m ((c:Nat):Int)=0))) Y ?_))))
   refine gw (Qb9 m ((c:Nat):Int)=0) (fun fhg46_4=> ?_) fun fhg46_4=> ?_
   ·refine gF (dy fhg46_4) Y Y (OF.move (tv (tS f) Y)) ?_
    refine gF (dy fhg46_4) Y Y (OF.move (tv (tN c) Y)) ?_
    have hb5:c<f.size:=(by omega)
    refine gF (dy fhg46_4) Y Y (xix (tv (tS f) Y) (tv (tN c) Y) hb5 U9) (VRunO.chain (VWant.on Y Y (dy fhg46_4)) (cS (vc (tv (T.int .u8 (Qy f c)) Y) vn) (Zg Y) (JT (n+3) (Qy f c)) Y Y) (gF (dy fhg46_4) Y Y (QU (tv (tB (decide (97≤(Qy f c)∧(Qy f c)≤122))) Y)) (fO (OF.pickT (VEv.tmpB Y (dy fhg46_4)) (tv (tB (!(decide (97≤(Qy f c)∧(Qy f c)≤122)))) Y)) (nt ?_))))
    refine cn (97≤(Qy f c)∧(Qy f c)≤122) Y (fun fhc3=> ?_) fun fhc3=> ?_
    ·refine sr ?_
     refine fO (OF.assign (VEv.bool true)) (nt (rt (vinB.r (tr (tr (vinB.r (tr (vb (b':=true) Y ?_))))))))
     symm;rw [decide_eq_true_eq];refine ⟨c,fhc2,⟨?_,fun h=> ?_⟩,?_⟩
     ·omega
     ·have hq:=(hM ((c:Nat):Int)).1 ((QdH fhc0 _).2 h);omega
     ·unfold QbR;omega
    refine sk (vinB.n (tn (VRun.region (fO (QB (tv (tN c) Y) (VEv.int .i64 1) (by omega)) (mO (tN (c+1)) Y (VRunO.nil (tn ?_)))))))
    refine ⟨(c+1:Nat),?_,?_,Wk.mk (fun k=>k) ?_ ?_ ?_⟩
    ·refine Zb (ok:=fun j=>¬(Qbh g j∧QbR f j)) hI' fhc2 ?_
     rintro ⟨⟨a1,a2⟩,a3⟩
     have hq:=(hM ((c:Nat):Int)).2 (fun h=>a2 ((QdH fhc0 _).1 h))
     unfold QbR at a3;omega
    ·omega
    ·exact (b2 (b2 (b2 (b2 (b2 bn)))))
    ·exact (b3 (b3 bn))
    ·exact nd Y
   refine QD 5 11 true 46 (dz fhg46_4) Y Y Y (fO (OF.pickF (VEv.tmpB Y (dz fhg46_4)) (VEv.bool false)) (nt (cf Y (sk (vinB.n (tn (VRun.region (fO (QB (tv (tN c) Y) (VEv.int .i64 1) (by omega)) (mO (tN (c+1)) Y (VRunO.nil (tn ?_)))))))))))
   refine ⟨(c+1:Nat),?_,?_,Wk.mk (fun k=>k) ?_ ?_ ?_⟩
   ·refine Zb (ok:=fun j=>¬(Qbh g j∧QbR f j)) hI' fhc2 ?_
    rintro ⟨⟨a1,a2⟩,a3⟩
    have hq:=(hM ((c:Nat):Int)).2 (fun h=>a2 ((QdH fhc0 _).1 h))
    unfold QbR at a3;omega
   ·omega
   ·exact (b2 (b2 (b2 (b2 (b2 bn)))))
   ·exact (b3 (b3 bn))
   ·exact nd Y
  refine QD 4 5 true 40 (dz fhg40_3) Y Y Y (fO (OF.pickF (VEv.tmpB Y (dz fhg40_3)) (VEv.bool false)) (mO (tB false) Y (QD 5 11 true 46 (b:=false) Y Y Y Y (fO (OF.pickF (tv (tB false) Y) (VEv.bool false)) (nt (cf Y (sk (vinB.n (tn (VRun.region (fO (QB (tv (tN c) Y) (VEv.int .i64 1) (by omega)) ?_)))))))))))
  refine mO (tN (c+1)) Y (VRunO.nil (tn ?_))
  refine ⟨(c+1:Nat),?_,?_,Wk.mk (fun k=>k) ?_ ?_ ?_⟩
  ·refine Zb (ok:=fun j=>¬(Qbh g j∧QbR f j)) hI' fhc2 ?_
   rintro ⟨⟨a1,a2⟩,a3⟩
   have hq:=(hM ((c:Nat):Int)).2 (fun h=>a2 ((QdH fhc0 _).1 h))
   unfold QbR at a3;omega
  ·omega
  ·exact (b2 (b2 (b2 (b2 (b2 bn)))))
  ·exact (b3 (b3 bn))
  ·exact nd Y
 refine VRun.exit (vthn.e (vthn.e (vinB.e (tn (sr (fO (OF.assign (VEv.bool false)) (nt (rt (vb (b':=false) Y ?_)))))))))
 symm;rw [decide_eq_false_iff_not];rintro ⟨c,h1,h2,h3⟩;exact hI'.2 c (by omega) ⟨h2,h3⟩
end Go.Proofs.YtjpenecpopljoaaGreat.AE
