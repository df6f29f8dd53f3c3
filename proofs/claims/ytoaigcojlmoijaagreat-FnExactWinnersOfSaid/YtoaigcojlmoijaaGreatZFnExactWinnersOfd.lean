/- A part of what the row of FnExactWinnersOf uses. Conditions: as each theorem states. -/
import Derived.Test.YtoaigcojlmoijaaGreatZFnExactWinnersOfc
namespace Go.Proofs.YtoaigcojlmoijaaGreat.AE
open Go Go.RowKit
set_option linter.unusedVariables false
set_option linter.unusedSimpArgs false
set_option maxRecDepth 20000
set_option maxHeartbeats 2000000
noncomputable section
def two (k:Int):Prop:=k=4∨k=5
def JN (l:List D.Step) (j:Nat):Prop:=∃x,l[j]? =some x∧(1≤x.Kind∧x.Kind≤9)∧(x.Kind=1→ZB x.Word∧x.A=0∧x.B=0) ∧
 (¬x.Kind=1→x.Word=(⟨#[]⟩:ByteArray)∧(0≤x.A∧x.A<(j:Int))∧(two x.Kind→0≤x.B∧x.B<(j:Int))∧(¬two x.Kind→x.B=0)∧(¬two x.Kind→¬x.Kind=2→∃y,l[x.A.toNat]? =some y∧y.Kind=1))
instance (l:List D.Step) (j:Nat):Decidable (JN l j):=Classical.propDecidable _
def YE (l:List D.Step):Prop:=(1≤l.length∧l.length≤9)∧∀j,j<l.length→JN l j
instance (l:List D.Step):Decidable (YE l):=Classical.propDecidable _
def Qej (l:List D.Step) (j:Nat) (x:D.Step):Prop:=(1≤x.Kind∧x.Kind≤9)∧(x.Kind=1→ZB x.Word∧x.A=0∧x.B=0) ∧
 (¬x.Kind=1→x.Word=(⟨#[]⟩:ByteArray)∧(0≤x.A∧x.A<(j:Int))∧(two x.Kind→0≤x.B∧x.B<(j:Int))∧(¬two x.Kind→x.B=0)∧(¬two x.Kind→¬x.Kind=2→∃y,l[x.A.toNat]? =some y∧y.Kind=1))
theorem QH {l:List D.Step} {j:Nat} {x:D.Step} (hx:l[j]? =some x):JN l j↔Qej l j x:=by
 constructor
 ·rintro ⟨y,hy,h⟩
  obtain rfl:=QjH hx hy
  exact h
 ·intro h
  exact ⟨x,hx,h⟩
theorem Qo5 {l:List D.Step} {k:Nat} {y:D.Step} (hy:l[k]? =some y):(∃z,l[k]? =some z∧z.Kind=1)↔y.Kind=1:=by
 constructor
 ·rintro ⟨z,hz,h⟩
  obtain rfl:=QjH hy hz
  exact h
 ·intro h
  exact ⟨y,hy,h⟩
theorem Qoi {l:List D.Step} {j:Nat} {x y:D.Step} (hx:l[j]? =some x) (hy:l[x.A.toNat]? =some y) (h1:1≤x.Kind∧x.Kind≤9) (h2:¬x.Kind=1) (h3:x.Word=(⟨#[]⟩:ByteArray)) (h4:0≤x.A∧x.A<(j:Int)) (h5:x.B=0) (h6:¬two x.Kind) (h7:¬x.Kind=2):decide (y.Kind=1)=decide (JN l j):=by
 refine Q8 ?_
 rw [QH hx]
 simp only [Qej,Qo5 hy]
 exact ⟨fun h=>⟨h1,fun hk=>absurd hk h2,fun _=>⟨h3,h4,fun h=>absurd h h6,fun _=>h5,fun _ _=>h⟩⟩,fun h=>(h.2.2 h2).2.2.2.2 h6 h7⟩
theorem QoK {l:List D.Step} {j:Nat} {x:D.Step} (hx:l[j]? =some x) (h1:1≤x.Kind∧x.Kind≤9) (h2:x.Kind=1) (h3:ZB x.Word) (h4:x.A=0):decide (x.B=0)=decide (JN l j):=by
 refine Q8 ?_
 rw [QH hx]
 simp only [Qej]
 exact ⟨fun h=>⟨h1,fun _=>⟨h3,h4,h⟩,fun hk=>absurd h2 hk⟩,fun h=>(h.2.1 h2).2.2⟩
theorem ZI : ¬ZB (⟨#[]⟩:ByteArray):=fun h=>absurd h.1.1 (by decide)
end
theorem Qd8 (n:Nat) (a:Int):Pure (Qs Tryz.prog (n+1)) 134 [(tI a)] (tB (decide (a=3∨6≤a))):=by
 refine Pure.intro (rs:= [ResultVar.tmp 2]) Tryz.func134 Y Y Y (E0:= [(0,(tI a))]) Y ?_
 obtain ⟨hlim,hmx,hmax⟩:=QA
 refine sr (fO (OF.assign (VEv.bool false)) (nt (sr (mO (tI a) Y (fO (J6 (tv (tI a) Y) (VEv.int .i64 3)) (mO (tB (decide (a=3))) Y ?_))))))
 refine gw (a=3) (fun fhg5_1=> ?_) fun fhg5_1=> ?_
 ·refine QE 2 2 false 5 (dy fhg5_1) Y Y Y ?_
  refine fO (OF.pickT (VEv.tmpB Y (dy fhg5_1)) (VEv.bool true)) (aO (tB true) Y (nt (rt (vb (b':=true) Y ?_))))
  (symm;rw [decide_eq_true_eq];omega)
 refine gF (dz fhg5_1) Y Y (OF.move (tv (tI a) Y)) (gF (dz fhg5_1) Y Y (xge (tv (tI a) Y) (VEv.int .i64 6)) (fO (OF.pickF (VEv.tmpB Y (dz fhg5_1)) (tv (tB (decide (6≤a))) Y)) (aO (tB (decide (6≤a))) Y (nt (rt (vb (b':=(decide (6≤a))) Y ?_))))))
 exact Q8 (by omega)
theorem Yw (n:Nat) (a:Int):Pure (Qs Tryz.prog (n+1)) 135 [(tI a)] (tB (decide (a=4∨a=5))):=by
 refine Pure.intro (rs:= [ResultVar.tmp 2]) Tryz.func135 Y Y Y (E0:= [(0,(tI a))]) Y ?_
 obtain ⟨hlim,hmx,hmax⟩:=QA
 refine sr (fO (OF.assign (VEv.bool false)) (nt (sr (mO (tI a) Y (fO (J6 (tv (tI a) Y) (VEv.int .i64 4)) (mO (tB (decide (a=4))) Y ?_))))))
 refine gw (a=4) (fun fhg5_1=> ?_) fun fhg5_1=> ?_
 ·refine QE 2 2 false 5 (dy fhg5_1) Y Y Y ?_
  refine fO (OF.pickT (VEv.tmpB Y (dy fhg5_1)) (VEv.bool true)) (aO (tB true) Y (nt (rt (vb (b':=true) Y ?_))))
  (symm;rw [decide_eq_true_eq];omega)
 refine gF (dz fhg5_1) Y Y (OF.move (tv (tI a) Y)) (gF (dz fhg5_1) Y Y (J6 (tv (tI a) Y) (VEv.int .i64 5)) (fO (OF.pickF (VEv.tmpB Y (dz fhg5_1)) (tv (tB (decide (a=5))) Y)) (aO (tB (decide (a=5))) Y (nt (rt (vb (b':=(decide (a=5))) Y ?_))))))
 exact Q8 (by omega)
theorem QgQ (n:Nat) (a:List D.Step) (i:Nat) (hz:zL ZV a≤mx) (hi:i<a.length):Pure (Qs Tryz.prog (n+3)) 125 [(rd 4 Ql a),(tN i)] (tB (decide (JN a i))):=by
 refine Pure.intro (rs:= [ResultVar.tmp 4]) Tryz.func125 Y Y Y (E0:= [(0,(rd 4 Ql a)),(1,(tN i))]) Y ?_
 obtain ⟨hlim,hmx,hmax⟩:=QA
 have ha:=Zs (z:=ZV) a
 have hw:∀x∈a,x.Word.size≤maxLen:=fun x hx=>by have h1:=Qi8 (z:=ZV) hx;simp only [ZV] at h1;omega
 refine sr (fO (OF.assign (VEv.bool false)) (nt (sr (mO (rd 4 Ql a) Y (mO (tN i) Y ?_)))))
 obtain ⟨x1,hx1⟩:∃x,a[i]? =some x:=⟨_,List.getElem?_eq_getElem (by omega)⟩
 refine fO (OF.indexAddrR (row:=(Ql false x1)) (i:=i) (tv (rd 4 Ql a) Y) (tv (tN i) Y) Y (Qr _ hx1) U87 YG Qal) (lO (OL.loadRn (us:=(Ql false x1)) (tv (T.rp (Ql false x1)) Y) Qgw YG (lb Y) Y) (kO (B.alloc (t:=(T.agg [(tN 0),(tS ByteArray.empty),(tN 0),(tN 0)])) (ts:= [(tN 0),(tS ByteArray.empty),(tN 0),(tN 0)]) QhK Qiw nofun (fun _=> .agg _ _ Y (Jm (RL.cons (.int _ _) (RL.cons (.str _) (RL.cons (.int _ _) (RL.cons (.int _ _) (RL.nil _))))))) Y) (cO (B.storeW (us:=(Ql false x1)) (tv (T.op 0 0) Y) (tv (T.agg (Ql false x1)) Y) nofun Y Y Y Qal YG (bc Y (bc Y (bc Y (bc Y bn))))) (nt (sq (sq (VRun.draw (B:= [[],[0],[0,1],[1,0,2],[2,0,1,3],[3,1,0,2,4],[4,2,0,1,3,5],[5,3,1,0,2,4,6],[3,1,0,2,4],[4,2,0,1,3,8],[8,3,1,0,2,4,9],[9,8,10,6,4,2,0,1,3,5,7],[7,5,6,10,8,9,11,3,1,0,2,4],[4,2,0,1,3,11,9,8,10,6,5,7,12],[12,7,5,6,10,8,9,11,3,1,0,2,4,13],[13,4,2,0,1,3,11,9,8,10,6,5,7,12,14],[14,12,7,5,6,10,8,9,11,3,1,0,2,4,13,15],[15,13,4,2,0,1,3,11,9,8,10,6,5,7,12,14,16],[16,14,12,7,5,6,10,8,9,11,3,1,0,2,4,13,15,17],[17,15,13,4,2,0,1,3,11,9,8,10,6,5,7,12,14,16,18],[18,16,14,12,7,5,6,10,8,9,11,3,1,0,2,4,13,15,17,19],[19,18,20,16,14,12,7,5,6,10,8,9,11,3,1,0,2,4,13,15,17],[17,15,14,16,20,18,19,21,12,7,5,6,10,8,9,11,3,1,0,2,4,13]]) (by kernel_rfl) (by kernel_rfl) Y (fD (OF.fieldAddrO (tv (T.op 0 0) Y) Zp) Y Y (lD (OL.loadO1 (t:=(tI x1.Kind)) (tv (T.op 0 0) Y) Y Y QQ) Y Y (VRunD.quiet (bi:= [0,1]) Y VWant.always Y Y Y bn (cS (vc (tv (tI x1.Kind) Y) (vc (VEv.int .i64 1) (vc (VEv.int .i64 9) vn))) (Z8 Y) (Q2 (n+1) x1.Kind 1 9) Y Y) (fD (Zd (tv (tB (decide (1≤x1.Kind∧x1.Kind≤9))) Y)) Y Y ?_)))))))))))
 refine mD (tB (!(decide (1≤x1.Kind∧x1.Kind≤9)))) Y Y ?_
 refine gn (1≤x1.Kind∧x1.Kind≤9) (fun fhg15_1=> ?_) fun fhg15_1=> ?_
 ·refine oD Y Y (ny fhg15_1) Y ?_
  refine oD Y Y (ny fhg15_1) Y (oD Y Y (ny fhg15_1) Y (oD Y Y (ny fhg15_1) Y (oD Y Y (ny fhg15_1) Y (oD Y Y (ny fhg15_1) Y (oD Y Y (ny fhg15_1) Y (fD (OF.pickT (VEv.tmpB Y (ny fhg15_1)) (VEv.bool true)) Y Y (mD (tB true) Y Y (VRunD.off Y (VWant.not (b:=true) Y Y Y) (VRunD.off Y (VWant.not (b:=true) Y Y Y) (VRunD.off Y (VWant.not (b:=true) Y Y Y) (VRunD.off Y (VWant.not (b:=true) Y Y Y) ?_)))))))))))
  refine uD Y Y Y (uD Y Y Y (uD Y Y Y (VRunD.off Y (VWant.not (b:=true) Y Y Y) (fD (OF.pickT (tv (tB true) Y) (VEv.bool true)) Y Y (VRunD.nil (tn (ct Y (sr (fO (OF.assign (VEv.bool false)) (nt (rt ?_)))))))))))
  refine tr (vb (b':=false) Y ?_)
  (symm;rw [decide_eq_false_iff_not,QH hx1];rintro ⟨h1,h2,h3⟩;by_cases hk:x1.Kind=1<;>simp only [hk,two] at* <;>omega)
 refine VRunD.free Y (VWant.on Y Y (nz fhg15_1)) Y (OF.fieldAddrO (tv (T.op 0 0) Y) Zp) (VRunD.look Y (VWant.on Y Y (nz fhg15_1)) Y (OL.loadO1 (t:=(tI x1.Kind)) (tv (T.op 0 0) Y) Y Y QQ) (VRunD.free Y (VWant.on Y Y (nz fhg15_1)) Y (J6 (tv (tI x1.Kind) Y) (VEv.int .i64 1)) (VRunD.free Y (VWant.on Y Y (nz fhg15_1)) Y (OF.fieldAddrO (tv (T.op 0 0) Y) QaC) (VRunD.look Y (VWant.on Y Y (nz fhg15_1)) Y (OL.loadO1 (t:=(tS x1.Word)) (tv (T.op 0 1) Y) Y Y YD) (VRunD.quiet (bi:= [8,3,1,0,2,4,9]) Y (VWant.on Y Y (nz fhg15_1)) Y Y Y bn (cS (vc (tv (tS x1.Word) Y) vn) (Z8 Y) (QaN (n+0) x1.Word (by exact hw _ (List.mem_of_getElem? hx1))) Y Y) (VRunD.free Y (VWant.on Y Y (nz fhg15_1)) Y (B.bneq U4 (c:=(!((decide (x1.Kind=1)) == (decide (ZB x1.Word))))) (tv (tB (decide (x1.Kind=1))) Y) (tv (tB (decide (ZB x1.Word))) Y) Y) (fD (OF.pickF (VEv.tmpB Y (nz fhg15_1)) (tv (tB (!((decide (x1.Kind=1)) == (decide (ZB x1.Word))))) Y)) Y Y (mD (tB (!((decide (x1.Kind=1)) == (decide (ZB x1.Word))))) Y Y ?_))))))))
 refine Qdm (!((decide (x1.Kind=1)) == (decide (ZB x1.Word)))) (fun hg24_2=> ?_) (fun hg24_2=> ?_)
 ·have fhg24_2:(!((decide (x1.Kind=1)) == (decide (ZB x1.Word))))=true:=hg24_2
  refine oD Y Y hg24_2 Y (oD Y Y hg24_2 Y (oD Y Y hg24_2 Y (oD Y Y hg24_2 Y (uD Y Y Y (uD Y Y Y (uD Y Y Y (oD Y Y hg24_2 Y (fD (OF.pickT (VEv.tmpB Y hg24_2) (VEv.bool true)) Y Y (VRunD.nil (tn (ct Y ?_)))))))))))
  refine sr (fO (OF.assign (VEv.bool false)) (nt (rt (tr (vb (b':=false) Y ?_)))))
  (symm;rw [decide_eq_false_iff_not,QH hx1];rintro ⟨h1,h2,h3⟩;by_cases hk:x1.Kind=1<;>simp only [hk,two] at* <;>(simp_all [ZI];done))
 have fhg24_2:(!((decide (x1.Kind=1)) == (decide (ZB x1.Word))))=false:=hg24_2
 refine VRunD.free Y (VWant.on Y Y hg24_2) Y (OF.fieldAddrO (tv (T.op 0 0) Y) Zp) (VRunD.look Y (VWant.on Y Y hg24_2) Y (OL.loadO1 (t:=(tI x1.Kind)) (tv (T.op 0 0) Y) Y Y QQ) (VRunD.free Y (VWant.on Y Y hg24_2) Y (xne (tv (tI x1.Kind) Y) (VEv.int .i64 1)) (VRunD.free Y (VWant.on Y Y hg24_2) Y (OF.move (tv (tB (!(decide (x1.Kind=1)))) Y)) ?_)))
 refine gn (x1.Kind=1) (fun fhg28_3=> ?_) fun fhg28_3=> ?_
 ·refine VRunD.free Y (VWant.on Y Y (ny fhg28_3)) Y (OF.fieldAddrO (tv (T.op 0 0) Y) QaC) ?_
  refine VRunD.look Y (VWant.on Y Y (ny fhg28_3)) Y (OL.loadO1 (t:=(tS x1.Word)) (tv (T.op 0 1) Y) Y Y YD) (VRunD.free Y (VWant.on Y Y (ny fhg28_3)) Y (B.sneq (c:=(!(decide (x1.Word=(⟨#[]⟩:ByteArray))))) (tv (tS x1.Word) Y) (VEv.str (⟨#[]⟩:ByteArray)) Y) (VRunD.free Y (VWant.on Y Y hg24_2) Y (OF.pickT (VEv.tmpB Y (ny fhg28_3)) (tv (tB (!(decide (x1.Word=(⟨#[]⟩:ByteArray))))) Y)) (fD (OF.pickF (VEv.tmpB Y hg24_2) (tv (tB (!(decide (x1.Word=(⟨#[]⟩:ByteArray))))) Y)) Y Y (VRunD.nil (tn ?_)))))
  refine cn (x1.Word=(⟨#[]⟩:ByteArray)) Y (fun fhc0=> ?_) fun fhc0=> ?_
  ·refine sr ?_
   refine fO (OF.assign (VEv.bool false)) (nt (rt (tr (vb (b':=false) Y ?_))))
   (symm;rw [decide_eq_false_iff_not,QH hx1];rintro ⟨h1,h2,h3⟩;by_cases hk:x1.Kind=1<;>simp only [hk,two] at* <;>(simp_all [ZI];done))
  refine sk (tn (sr (lf (tI x1.Kind) Y Zp Y Y QQ (fO (J6 (tv (tI x1.Kind) Y) (VEv.int .i64 4)) (mO (tB (decide (x1.Kind=4))) Y ?_)))))
  refine gw (x1.Kind=4) (fun fhg37_4=> ?_) fun fhg37_4=> ?_
  ·refine QE 3 3 false 37 (dy fhg37_4) Y Y Y ?_
   refine fO (OF.pickT (VEv.tmpB Y (dy fhg37_4)) (VEv.bool true)) (aO (tB true) Y (nt (sq (sr (lf (tI x1.Kind) Y Zp Y Y QQ (fO (J6 (tv (tI x1.Kind) Y) (VEv.int .i64 1)) (nt (cg (dz fhg28_3) Y (sk (tn (sq ?_)))))))))))
   refine sr (lf (tI x1.A) Y YX Y Y QQ (mO (tN i) Y (fO (B.sub (n:=(((i:Nat):Int) - 1)) (tv (tN i) Y) (VEv.int .i64 1) (by (rw [Qt (by omega)];done))) (cO (cS (vc (tv (tI x1.A) Y) (vc (VEv.int .i64 0) (vc (tv (tI (((i:Nat):Int) - 1)) Y) vn))) (Z8 Y) (Q2 (n+1) x1.A 0 (((i:Nat):Int) - 1)) Y Y) (fO (Zd (tv (tB (decide (0≤x1.A∧x1.A≤(((i:Nat):Int) - 1)))) Y)) (mO (tB (!(decide (0≤x1.A∧x1.A≤(((i:Nat):Int) - 1))))) Y ?_))))))
   refine gn (0≤x1.A∧x1.A≤(((i:Nat):Int) - 1)) (fun fhg59_5=> ?_) fun fhg59_5=> ?_
   ·refine QE 2 6 false 59 (ny fhg59_5) Y Y Y ?_
    refine Qbv 6 8 true 61 Y Y Y (oO Y Y (ny fhg59_5) (fO (OF.pickT (VEv.tmpB Y (ny fhg59_5)) (VEv.bool true)) (mO (tB true) Y (QE 3 17 false 70 (b:=true) Y Y Y Y (Qbv 3 20 true 73 Y Y Y (VRunO.off (VWant.not (b:=true) Y Y Y) (fO (OF.pickT (tv (tB true) Y) (VEv.bool true)) (nt (ct Y (sr (fO (OF.assign (VEv.bool false)) ?_)))))))))))
    refine nt (rt (tr (vb (b':=false) Y ?_)))
    (symm;rw [decide_eq_false_iff_not,QH hx1];rintro ⟨h1,h2,h3⟩;by_cases hk:x1.Kind=1<;>simp only [hk,two] at* <;>first | omega | (simp_all [ZI];omega))
   refine gF (nz fhg59_5) Y Y (OF.move (tv (tB true) Y)) (gF (nz fhg59_5) Y Y (OF.move (tv (tB true) Y)) (VRunO.free (VWant.on (b:=true) Y Y Y) (OF.fieldAddrO (tv (T.op 0 0) Y) Yz) (VRunO.look (VWant.on (b:=true) Y Y Y) (OL.loadO1 (t:=(tI x1.B)) (tv (T.op 0 3) Y) Y Y QQ) (VRunO.free (VWant.on (b:=true) Y Y Y) (OF.move (tv (tN i) Y)) (VRunO.free (VWant.on (b:=true) Y Y Y) (B.sub (n:=(((i:Nat):Int) - 1)) (tv (tN i) Y) (VEv.int .i64 1) (by (rw [Qt (by omega)];done))) (VRunO.chain (VWant.on (b:=true) Y Y Y) (cS (vc (tv (tI x1.B) Y) (vc (VEv.int .i64 0) (vc (tv (tI (((i:Nat):Int) - 1)) Y) vn))) (Z8 Y) (Q2 (n+1) x1.B 0 (((i:Nat):Int) - 1)) Y Y) (VRunO.free (VWant.on (b:=true) Y Y Y) (Zd (tv (tB (decide (0≤x1.B∧x1.B≤(((i:Nat):Int) - 1)))) Y)) (gF (nz fhg59_5) Y Y (OF.pickT (tv (tB true) Y) (tv (tB (!(decide (0≤x1.B∧x1.B≤(((i:Nat):Int) - 1))))) Y)) (fO (OF.pickF (VEv.tmpB Y (nz fhg59_5)) (tv (tB (!(decide (0≤x1.B∧x1.B≤(((i:Nat):Int) - 1))))) Y)) (mO (tB (!(decide (0≤x1.B∧x1.B≤(((i:Nat):Int) - 1))))) Y ?_))))))))))
   refine gn (0≤x1.B∧x1.B≤(((i:Nat):Int) - 1)) (fun fhg70_6=> ?_) fun fhg70_6=> ?_
   ·refine QE 3 17 false 70 (ny fhg70_6) Y Y Y ?_
    refine Qbv 3 20 true 73 Y Y Y (oO Y Y (ny fhg70_6) (fO (OF.pickT (VEv.tmpB Y (ny fhg70_6)) (VEv.bool true)) (nt (ct Y (sr (fO (OF.assign (VEv.bool false)) (nt (rt (tr (vb (b':=false) Y ?_))))))))))
    (symm;rw [decide_eq_false_iff_not,QH hx1];rintro ⟨h1,h2,h3⟩;by_cases hk:x1.Kind=1<;>simp only [hk,two] at* <;>first | omega | (simp_all [ZI];omega))
   refine gF (nz fhg70_6) Y Y (OF.move (tv (tB true) Y)) (gF (nz fhg70_6) Y Y (B.not (c:=false) (tv (tB true) Y) Y) (gF (nz fhg70_6) Y Y (OF.move (tv (tB false) Y)) (QE 3 20 true 73 (b:=false) Y Y Y Y (gF (nz fhg70_6) Y Y (OF.pickF (tv (tB false) Y) (VEv.bool false)) (fO (OF.pickF (VEv.tmpB Y (nz fhg70_6)) (tv (tB false) Y)) (nt (cf Y (sk (tn (sr (mO (tB true) Y ?_)))))))))))
   refine mO (tB true) Y (QE 3 1 false 80 (b:=true) Y Y Y Y (fO (OF.pickT (tv (tB true) Y) (VEv.bool true)) (mO (tB true) Y (QE 7 6 false 85 (b:=true) Y Y Y Y (fO (OF.pickT (tv (tB true) Y) (VEv.bool true)) (aO (tB true) Y (nt (rt (vb (b':=true) Y ?_)))))))))
   (symm;rw [decide_eq_true_eq,QH hx1];refine ⟨by omega,fun hk=> ?_,fun hk=> ?_⟩<;>first | (exfalso;omega) | (simp_all [two,ZI];omega))
  refine Yu (tI x1.Kind) (dz fhg37_4) Y Y Y Y Zp Y Y QQ (gF (dz fhg37_4) Y Y (J6 (tv (tI x1.Kind) Y) (VEv.int .i64 5)) (fO (OF.pickF (VEv.tmpB Y (dz fhg37_4)) (tv (tB (decide (x1.Kind=5))) Y)) (aO (tB (decide (x1.Kind=5))) Y (nt (sq (sr (lf (tI x1.Kind) Y Zp Y Y QQ (fO (J6 (tv (tI x1.Kind) Y) (VEv.int .i64 1)) (nt (cg (dz fhg28_3) Y (sk ?_)))))))))))
  refine tn (sq (sr (lf (tI x1.A) Y YX Y Y QQ (mO (tN i) Y (fO (B.sub (n:=(((i:Nat):Int) - 1)) (tv (tN i) Y) (VEv.int .i64 1) (by (rw [Qt (by omega)];done))) (cO (cS (vc (tv (tI x1.A) Y) (vc (VEv.int .i64 0) (vc (tv (tI (((i:Nat):Int) - 1)) Y) vn))) (Z8 Y) (Q2 (n+1) x1.A 0 (((i:Nat):Int) - 1)) Y Y) (fO (Zd (tv (tB (decide (0≤x1.A∧x1.A≤(((i:Nat):Int) - 1)))) Y)) (mO (tB (!(decide (0≤x1.A∧x1.A≤(((i:Nat):Int) - 1))))) Y ?_))))))))
  refine gn (0≤x1.A∧x1.A≤(((i:Nat):Int) - 1)) (fun fhg59_7=> ?_) fun fhg59_7=> ?_
  ·refine QE 2 6 false 59 (ny fhg59_7) Y Y Y ?_
   refine Qbv 6 8 true 61 Y Y Y (oO Y Y (ny fhg59_7) (fO (OF.pickT (VEv.tmpB Y (ny fhg59_7)) (VEv.bool true)) (mO (tB true) Y (QE 3 17 false 70 (b:=true) Y Y Y Y (Qbv 3 20 true 73 Y Y Y (VRunO.off (VWant.not (b:=true) Y Y Y) (fO (OF.pickT (tv (tB true) Y) (VEv.bool true)) (nt (ct Y (sr (fO (OF.assign (VEv.bool false)) ?_)))))))))))
   refine nt (rt (tr (vb (b':=false) Y ?_)))
   (symm;rw [decide_eq_false_iff_not,QH hx1];rintro ⟨h1,h2,h3⟩;by_cases hk:x1.Kind=1<;>simp only [hk,two] at* <;>first | (simp_all [ZI];done) | (simp_all [ZI];omega))
  refine gF (nz fhg59_7) Y Y (OF.move (tv (tB (decide (x1.Kind=5))) Y)) (gF (nz fhg59_7) Y Y (OF.move (tv (tB (decide (x1.Kind=5))) Y)) ?_)
  refine gw (x1.Kind=5) (fun fhg61_8=> ?_) fun fhg61_8=> ?_
  ·refine Yu (tI x1.B) (dy fhg61_8) Y Y Y Y Yz Y Y QQ ?_
   refine gF (dy fhg61_8) Y Y (OF.move (tv (tN i) Y)) (gF (dy fhg61_8) Y Y (B.sub (n:=(((i:Nat):Int) - 1)) (tv (tN i) Y) (VEv.int .i64 1) (by (rw [Qt (by omega)];done))) (VRunO.chain (VWant.on Y Y (dy fhg61_8)) (cS (vc (tv (tI x1.B) Y) (vc (VEv.int .i64 0) (vc (tv (tI (((i:Nat):Int) - 1)) Y) vn))) (Z8 Y) (Q2 (n+1) x1.B 0 (((i:Nat):Int) - 1)) Y Y) (gF (dy fhg61_8) Y Y (Zd (tv (tB (decide (0≤x1.B∧x1.B≤(((i:Nat):Int) - 1)))) Y)) (gF (nz fhg59_7) Y Y (OF.pickT (VEv.tmpB Y (dy fhg61_8)) (tv (tB (!(decide (0≤x1.B∧x1.B≤(((i:Nat):Int) - 1))))) Y)) (fO (OF.pickF (VEv.tmpB Y (nz fhg59_7)) (tv (tB (!(decide (0≤x1.B∧x1.B≤(((i:Nat):Int) - 1))))) Y)) (mO (tB (!(decide (0≤x1.B∧x1.B≤(((i:Nat):Int) - 1))))) Y ?_))))))
   refine gn (0≤x1.B∧x1.B≤(((i:Nat):Int) - 1)) (fun fhg70_9=> ?_) fun fhg70_9=> ?_
   ·refine QE 3 17 false 70 (ny fhg70_9) Y Y Y ?_
    refine Qbv 3 20 true 73 Y Y Y (oO Y Y (ny fhg70_9) (fO (OF.pickT (VEv.tmpB Y (ny fhg70_9)) (VEv.bool true)) (nt (ct Y (sr (fO (OF.assign (VEv.bool false)) (nt (rt (tr (vb (b':=false) Y ?_))))))))))
    (symm;rw [decide_eq_false_iff_not,QH hx1];rintro ⟨h1,h2,h3⟩;by_cases hk:x1.Kind=1<;>simp only [hk,two] at* <;>first | omega | (simp_all [ZI];omega))
   refine gF (nz fhg70_9) Y Y (OF.move (tv (tB (decide (x1.Kind=5))) Y)) (gF (nz fhg70_9) Y Y (Zd (tv (tB (decide (x1.Kind=5))) Y)) (gF (nz fhg70_9) Y Y (OF.move (tv (tB (!(decide (x1.Kind=5)))) Y)) (QE 3 20 true 73 (nkT (dy fhg61_8)) Y Y Y (gF (nz fhg70_9) Y Y (OF.pickF (VEv.tmpB Y (nkT (dy fhg61_8))) (VEv.bool false)) (fO (OF.pickF (VEv.tmpB Y (nz fhg70_9)) (tv (tB false) Y)) (nt (cf Y (sk (tn (sr (mO (tB (decide (x1.Kind=5))) Y ?_)))))))))))
   refine mO (tB (decide (x1.Kind=5))) Y (QE 3 1 false 80 (dy fhg61_8) Y Y Y (fO (OF.pickT (VEv.tmpB Y (dy fhg61_8)) (VEv.bool true)) (mO (tB true) Y (QE 7 6 false 85 (b:=true) Y Y Y Y (fO (OF.pickT (tv (tB true) Y) (VEv.bool true)) (aO (tB true) Y (nt (rt (vb (b':=true) Y ?_)))))))))
   (symm;rw [decide_eq_true_eq,QH hx1];refine ⟨by omega,fun hk=> ?_,fun hk=> ?_⟩<;>first | (exfalso;omega) | (simp_all [two,ZI];omega))
  refine QE 6 8 true 61 (dz fhg61_8) Y Y Y (gF (nz fhg59_7) Y Y (OF.pickF (VEv.tmpB Y (dz fhg61_8)) (VEv.bool false)) (fO (OF.pickF (VEv.tmpB Y (nz fhg59_7)) (tv (tB false) Y)) (mO (tB false) Y (VRunO.free (VWant.on (b:=false) Y Y Y) (OF.move (tv (tB (decide (x1.Kind=5))) Y)) (VRunO.free (VWant.on (b:=false) Y Y Y) (Zd (tv (tB (decide (x1.Kind=5))) Y)) (VRunO.free (VWant.on (b:=false) Y Y Y) (OF.move (tv (tB (!(decide (x1.Kind=5)))) Y)) (Yu (tI x1.B) (nkF (dz fhg61_8)) Y Y Y Y Yz Y Y QQ (gF (nkF (dz fhg61_8)) Y Y (xne (tv (tI x1.B) Y) (VEv.int .i64 0)) (VRunO.free (VWant.on (b:=false) Y Y Y) (OF.pickT (VEv.tmpB Y (nkF (dz fhg61_8))) (tv (tB (!(decide (x1.B=0)))) Y)) (fO (OF.pickF (tv (tB false) Y) (tv (tB (!(decide (x1.B=0)))) Y)) (nt ?_)))))))))))
  refine cn (x1.B=0) Y (fun fhc2=> ?_) fun fhc2=> ?_
  ·refine sr ?_
   refine fO (OF.assign (VEv.bool false)) (nt (rt (tr (vb (b':=false) Y ?_))))
   (symm;rw [decide_eq_false_iff_not,QH hx1];rintro ⟨h1,h2,h3⟩;by_cases hk:x1.Kind=1<;>simp only [hk,two] at* <;>(simp_all [ZI];done))
  refine sk (tn (sr (mO (tB (decide (x1.Kind=5))) Y (mO (tB (decide (x1.Kind=5))) Y (Yu (tI x1.Kind) (dz fhg61_8) Y Y Y Y Zp Y Y QQ (gF (dz fhg61_8) Y Y (J6 (tv (tI x1.Kind) Y) (VEv.int .i64 2)) (fO (OF.pickF (VEv.tmpB Y (dz fhg61_8)) (tv (tB (decide (x1.Kind=2))) Y)) (mO (tB (decide (x1.Kind=2))) Y ?_))))))))
  refine gw (x1.Kind=2) (fun fhg85_10=> ?_) fun fhg85_10=> ?_
  ·refine QE 7 6 false 85 (dy fhg85_10) Y Y Y ?_
   refine fO (OF.pickT (VEv.tmpB Y (dy fhg85_10)) (VEv.bool true)) (aO (tB true) Y (nt (rt (vb (b':=true) Y ?_))))
   (symm;rw [decide_eq_true_eq,QH hx1];refine ⟨by omega,fun hk=> ?_,fun hk=> ?_⟩<;>first | (exfalso;omega) | (simp_all [two,ZI];omega))
  refine gF (dz fhg85_10) Y Y (OF.move (tv (rd 4 Ql a) Y)) (Yu (tI x1.A) (dz fhg85_10) Y Y Y Y YX Y Y QQ ?_)
  obtain ⟨x2,hx2⟩:∃x,a[(Int.toNat x1.A)]? =some x:=⟨_,List.getElem?_eq_getElem (by omega)⟩
  refine gF (dz fhg85_10) Y Y (OF.indexAddrR (row:=(Ql false x2)) (i:=(Int.toNat x1.A)) (tv (rd 4 Ql a) Y) (tv (tI x1.A) Y) (by omega) (Qr _ hx2) U87 YG Qal) (glr (tI x2.Kind) (dz fhg85_10) Y Y Y Y (lb Y) Zp Y QQ (gF (dz fhg85_10) Y Y (J6 (tv (tI x2.Kind) Y) (VEv.int .i64 1)) (fO (OF.pickF (VEv.tmpB Y (dz fhg85_10)) (tv (tB (decide (x2.Kind=1))) Y)) (aO (tB (decide (x2.Kind=1))) Y (nt (rt (vb (b':=(decide (x2.Kind=1))) Y ?_)))))))
  (refine Qoi hx1 hx2 ?_ ?_ ?_ ?_ ?_ ?_ ?_<;>first | assumption | omega | (simp only [two];omega))
 refine oD Y Y (nz fhg28_3) Y (oD Y Y (nz fhg28_3) Y (oD Y Y (nz fhg28_3) Y (VRunD.free Y (VWant.on Y Y hg24_2) Y (OF.pickF (VEv.tmpB Y (nz fhg28_3)) (VEv.bool false)) (fD (OF.pickF (VEv.tmpB Y hg24_2) (tv (tB false) Y)) Y Y (VRunD.nil (tn (cf Y (sk (tn (sr (lf (tI x1.Kind) Y Zp Y Y QQ ?_)))))))))))
 refine fO (J6 (tv (tI x1.Kind) Y) (VEv.int .i64 4)) (mO (tB (decide (x1.Kind=4))) Y ?_)
 refine gw (x1.Kind=4) (fun fhg37_11=> ?_) fun fhg37_11=> ?_
 ·refine QE 3 3 false 37 (dy fhg37_11) Y Y Y ?_
  refine fO (OF.pickT (VEv.tmpB Y (dy fhg37_11)) (VEv.bool true)) (aO (tB true) Y (nt (sq (sr (lf (tI x1.Kind) Y Zp Y Y QQ (fO (J6 (tv (tI x1.Kind) Y) (VEv.int .i64 1)) (nt (ck (dy fhg28_3) Y (sr (lf (tI x1.A) Y YX Y Y QQ (fO (J6 (tv (tI x1.A) Y) (VEv.int .i64 0)) ?_)))))))))))
  refine mO (tB (decide (x1.A=0))) Y ?_
  refine gw (x1.A=0) (fun fhg48_12=> ?_) fun fhg48_12=> ?_
  ·refine Yu (tI x1.B) (dy fhg48_12) Y Y Y Y Yz Y Y QQ ?_
   refine gF (dy fhg48_12) Y Y (J6 (tv (tI x1.B) Y) (VEv.int .i64 0)) (fO (OF.pickT (VEv.tmpB Y (dy fhg48_12)) (tv (tB (decide (x1.B=0))) Y)) (aO (tB (decide (x1.B=0))) Y (nt (rt (tr (vb (b':=(decide (x1.B=0))) Y ?_))))))
   (exfalso;omega)
  refine QE 3 3 true 48 (dz fhg48_12) Y Y Y (fO (OF.pickF (VEv.tmpB Y (dz fhg48_12)) (VEv.bool false)) (aO (tB false) Y (nt (rt (tr (vb (b':=false) Y ?_))))))
  (exfalso;omega)
 refine Yu (tI x1.Kind) (dz fhg37_11) Y Y Y Y Zp Y Y QQ (gF (dz fhg37_11) Y Y (J6 (tv (tI x1.Kind) Y) (VEv.int .i64 5)) (fO (OF.pickF (VEv.tmpB Y (dz fhg37_11)) (tv (tB (decide (x1.Kind=5))) Y)) (aO (tB (decide (x1.Kind=5))) Y (nt (sq (sr (lf (tI x1.Kind) Y Zp Y Y QQ (fO (J6 (tv (tI x1.Kind) Y) (VEv.int .i64 1)) (nt (ck (dy fhg28_3) Y (sr ?_)))))))))))
 refine lf (tI x1.A) Y YX Y Y QQ (fO (J6 (tv (tI x1.A) Y) (VEv.int .i64 0)) (mO (tB (decide (x1.A=0))) Y ?_))
 refine gw (x1.A=0) (fun fhg48_13=> ?_) fun fhg48_13=> ?_
 ·refine Yu (tI x1.B) (dy fhg48_13) Y Y Y Y Yz Y Y QQ ?_
  refine gF (dy fhg48_13) Y Y (J6 (tv (tI x1.B) Y) (VEv.int .i64 0)) (fO (OF.pickT (VEv.tmpB Y (dy fhg48_13)) (tv (tB (decide (x1.B=0))) Y)) (aO (tB (decide (x1.B=0))) Y (nt (rt (tr (vb (b':=(decide (x1.B=0))) Y ?_))))))
  (refine QoK hx1 ?_ ?_ ?_ ?_<;>first | assumption | (simp_all;done))
 refine QE 3 3 true 48 (dz fhg48_13) Y Y Y (fO (OF.pickF (VEv.tmpB Y (dz fhg48_13)) (VEv.bool false)) (aO (tB false) Y (nt (rt (tr (vb (b':=false) Y ?_))))))
 (symm;rw [decide_eq_false_iff_not,QH hx1];rintro ⟨h1,h2,h3⟩;by_cases hk:x1.Kind=1<;>simp only [hk,two] at* <;>(simp_all [ZI];done))
theorem Qgf (n:Nat) (a:List D.Step) (hz:zL ZV a≤mx):Pure (Qs Tryz.prog (n+4)) 114 [(rd 4 Ql a)] (tB (decide (YE a))):=by
 refine Pure.intro (rs:= [ResultVar.tmp 2]) Tryz.func114 Y Y Y (E0:= [(0,(rd 4 Ql a))]) Y ?_
 obtain ⟨hlim,hmx,hmax⟩:=QA
 have ha:=Zs (z:=ZV) a
 refine sr (fO (OF.assign (VEv.bool false)) (nt (sq (sr (fO (OF.assign (VEv.int .i64 0)) (nt (VRun.block ?_)))))))
 refine VRun.loop (A:=Nat) (fun s_=> [(0,(rd 4 Ql a)),(3,(tN s_))]) (fun s_=>QV []) 0 (fun s_=>s_≤a.length∧∀j,j<s_→JN a j) (fun s_=>a.length - s_) (0:Nat) ?_ (Wk.mk (fun k=>k) ?_ ?_ ?_) ?_
 ·exact ⟨Nat.zero_le _,fun j hj=>by omega⟩
 ·exact (b2 (b2 bn))
 ·exact bn
 ·exact nd Y
 rintro i (hI':i≤a.length∧∀j,j<i→JN a j)
 show VRun _ _ _ [(0,(rd 4 Ql a)),(3,(tN i))] (QV []) 0 _
 have hI0:=hI'
 refine sq (sr (mO (tN i) Y (mO (rd 4 Ql a) Y (lO (B.lenR (m:=a.length) (tv (rd 4 Ql a) Y) U87 (List.length_map ..)) (fO (Q5 (tv (tN i) Y) (tv (tN a.length) Y)) (mO (tB (decide (i<a.length))) Y ?_))))))
 refine gw (i<a.length) (fun fhg8_1=> ?_) fun fhg8_1=> ?_
 ·refine gF (dy fhg8_1) Y Y (OF.move (tv (rd 4 Ql a) Y)) ?_
  refine gL (dy fhg8_1) Y Y (B.lenR (m:=a.length) (tv (rd 4 Ql a) Y) U87 (List.length_map ..)) (gF (dy fhg8_1) Y Y (B.leq (c:=(decide (a.length≤9))) (tv (tN a.length) Y) (VEv.int .i64 9) (Q8 (by omega))) (fO (OF.pickT (VEv.tmpB Y (dy fhg8_1)) (tv (tB (decide (a.length≤9))) Y)) (nt ?_)))
  refine cd (a.length≤9) Y (fun fhc0=> ?_) fun fhc0=> ?_
  ·refine sk ?_
   refine tn (sq (VRun.block (sr (mO (rd 4 Ql a) Y (mO (tN i) Y (cO (cS (vc (tv (rd 4 Ql a) Y) (vc (tv (tN i) Y) vn)) (Z8 Y) (QgQ (n+0) a i (by assumption) (by assumption)) Y Y) (fO (Zd (tv (tB (decide (JN a i))) Y)) (nt ?_))))))))
   refine cn (JN a i) Y (fun fhc1=> ?_) fun fhc1=> ?_
   ·refine sr ?_
    refine fO (OF.assign (VEv.bool false)) (nt (rt (vinB.r (tr (tr (vinB.r (tr (vb (b':=false) Y ?_))))))))
    (symm;rw [decide_eq_false_iff_not];rintro ⟨h1,h2⟩;exact absurd (h2 i (by omega)) (by assumption))
   refine sk (vinB.n (tn (VRun.region (mO (tN i) Y (fO (Qx (tv (tN i) Y) (VEv.int .i64 1) (by omega)) (aO (tN (i+1)) Y (VRunO.nil (tn ?_))))))))
   refine ⟨(i+1:Nat),?_,?_,Wk.mk (fun k=>k) ?_ ?_ ?_⟩
   ·exact ZJ hI0 (by omega) (by assumption)
   ·omega
   ·exact (b2 (b2 bn))
   ·exact bn
   ·exact nd Y
  refine VRun.exit (vthn.e (vthn.e (vinB.e (tn (sr (mO (rd 4 Ql a) Y (lO (B.lenR (m:=a.length) (tv (rd 4 Ql a) Y) U87 (List.length_map ..)) (cO (cS (vc (tv (tN a.length) Y) (vc (VEv.int .i64 1) (vc (VEv.int .i64 9) vn))) (Z8 Y) (Q2 (n+2) ((a.length:Nat):Int) 1 9) Y Y) (aO (tB (decide (1≤((a.length:Nat):Int)∧((a.length:Nat):Int)≤9))) Y (nt (rt ?_)))))))))))
  refine vb (b':=(decide (1≤((a.length:Nat):Int)∧((a.length:Nat):Int)≤9))) Y ?_
  (refine Q8 ⟨fun h=>⟨by omega,QaQ hI' (by omega)⟩,fun h=>by have:=h.1;omega⟩)
 refine QE 3 4 true 8 (dz fhg8_1) Y Y Y (fO (OF.pickF (VEv.tmpB Y (dz fhg8_1)) (VEv.bool false)) (nt (cf Y (VRun.exit (vthn.e (vthn.e (vinB.e (tn (sr (mO (rd 4 Ql a) Y (lO (B.lenR (m:=a.length) (tv (rd 4 Ql a) Y) U87 (List.length_map ..)) ?_)))))))))))
 refine cO (cS (vc (tv (tN a.length) Y) (vc (VEv.int .i64 1) (vc (VEv.int .i64 9) vn))) (Z8 Y) (Q2 (n+2) ((a.length:Nat):Int) 1 9) Y Y) (aO (tB (decide (1≤((a.length:Nat):Int)∧((a.length:Nat):Int)≤9))) Y (nt (rt (vb (b':=(decide (1≤((a.length:Nat):Int)∧((a.length:Nat):Int)≤9))) Y ?_))))
 (refine Q8 ⟨fun h=>⟨by omega,QaQ hI' (by omega)⟩,fun h=>by have:=h.1;omega⟩)
theorem Qf3 (n:Nat) (a:List D.Step) (hz:zL ZV a≤mx):Pure (Qs Tryz.prog (n+3)) 124 [(rd 4 Ql a)] (tB (decide (YE a))):=by
 refine Pure.intro (rs:= [ResultVar.tmp 2]) Tryz.func124 Y Y Y (E0:= [(0,(rd 4 Ql a))]) Y ?_
 obtain ⟨hlim,hmx,hmax⟩:=QA
 have ha:=Zs (z:=ZV) a
 have hw:∀x∈a,x.Word.size≤maxLen:=fun x hx=>by have h1:=Qi8 (z:=ZV) hx;simp only [ZV] at h1;omega
 refine sr (fO (OF.assign (VEv.bool false)) (nt (sq (sr (mO (rd 4 Ql a) Y (lO (B.lenR (m:=a.length) (tv (rd 4 Ql a) Y) U87 (List.length_map ..)) (cO (cS (vc (tv (tN a.length) Y) (vc (VEv.int .i64 1) (vc (VEv.int .i64 9) vn))) (Z8 Y) (Zu (n+1) ((a.length:Nat):Int) 1 9) Y Y) (fO (Zd (tv (tB (decide (1≤((a.length:Nat):Int)∧((a.length:Nat):Int)≤9))) Y)) (nt ?_)))))))))
 refine cn (1≤((a.length:Nat):Int)∧((a.length:Nat):Int)≤9) Y (fun fhc0=> ?_) fun fhc0=> ?_
 ·refine sr ?_
  refine fO (OF.assign (VEv.bool false)) (nt (rt (tr (vb (b':=false) Y ?_))))
  (symm;rw [decide_eq_false_iff_not];rintro ⟨h1,h2⟩;(exfalso;omega))
 refine sk (tn (sq (sr (mO (rd 4 Ql a) Y (lO (B.lenR (m:=a.length) (tv (rd 4 Ql a) Y) U87 (List.length_map ..)) (fO (OF.move (VEv.int .i64 0)) (nt (VRun.block ?_))))))))
 refine VRun.loop (A:=Nat) (fun s_=> [(0,(rd 4 Ql a)),(9,(rd 4 Ql a)),(10,(tN a.length)),(11,(tN s_))]) (fun s_=>QV []) 0 (fun s_=>s_≤a.length∧∀j,j<s_→JN a j) (fun s_=>a.length - s_) (0:Nat) ?_ (Wk.mk (fun k=>k) ?_ ?_ ?_) ?_
 ·exact ⟨Nat.zero_le _,fun j hj=>by omega⟩
 ·exact (b2 (b2 (b2 (b2 bn))))
 ·exact bn
 ·exact nd Y
 rintro i (hI':i≤a.length∧∀j,j<i→JN a j)
 show VRun _ _ _ [(0,(rd 4 Ql a)),(9,(rd 4 Ql a)),(10,(tN a.length)),(11,(tN i))] (QV []) 0 _
 have hI0:=hI'
 refine sr (fO (Q5 (tv (tN i) Y) (tv (tN a.length) Y)) (nt (sq ?_)))
 refine cd (i<a.length) Y (fun fhc1=> ?_) fun fhc1=> ?_
 ·refine sk ?_
  refine tn (sq (VRun.block (sr (mO (tN i) Y ?_))))
  obtain ⟨x1,hx1⟩:∃x,a[i]? =some x:=⟨_,List.getElem?_eq_getElem (by omega)⟩
  refine fO (OF.indexAddrR (row:=(Ql false x1)) (i:=i) (tv (rd 4 Ql a) Y) (tv (tN i) Y) Y (Qr _ hx1) U87 YG Qal) (lO (OL.loadRn (us:=(Ql false x1)) (tv (T.rp (Ql false x1)) Y) Qgw YG (lb Y) Y) (kO (B.alloc (t:=(T.agg [(tN 0),(tS ByteArray.empty),(tN 0),(tN 0)])) (ts:= [(tN 0),(tS ByteArray.empty),(tN 0),(tN 0)]) QhK Qiw nofun (fun _=> .agg _ _ Y (Jm (RL.cons (.int _ _) (RL.cons (.str _) (RL.cons (.int _ _) (RL.cons (.int _ _) (RL.nil _))))))) Y) (aO (tN i) Y (cO (B.storeW (us:=(Ql false x1)) (tv (T.op 0 0) Y) (tv (T.agg (Ql false x1)) Y) nofun Y Y Y Qal YG (bc Y (bc Y (bc Y (bc Y bn))))) (nt (sq (sr (lf (tI x1.Kind) Y Zp Y Y QQ (cO (cS (vc (tv (tI x1.Kind) Y) (vc (VEv.int .i64 1) (vc (VEv.int .i64 9) vn))) (Z8 Y) (Zu (n+1) x1.Kind 1 9) Y Y) (fO (Zd (tv (tB (decide (1≤x1.Kind∧x1.Kind≤9))) Y)) (nt ?_)))))))))))
  refine cn (1≤x1.Kind∧x1.Kind≤9) Y (fun fhc2=> ?_) fun fhc2=> ?_
  ·refine sr ?_
   refine fO (OF.assign (VEv.bool false)) (nt (rt (tr (vinB.r (tr (tr (vinB.r (tr (vb (b':=false) Y ?_)))))))))
   (symm;rw [decide_eq_false_iff_not];rintro ⟨h1,h2⟩;(have h3:=(QH hx1).1 (h2 i fhc1);obtain ⟨h4,h5,h6⟩:=h3;simp only [two] at h6;omega))
  refine sk (tn (sq (sr (lf (tI x1.Kind) Y Zp Y Y QQ (fO (J6 (tv (tI x1.Kind) Y) (VEv.int .i64 1)) (nt ?_))))))
  refine cd (x1.Kind=1) Y (fun fhc3=> ?_) fun fhc3=> ?_
  ·refine sq ?_
   refine sr (lf (tS x1.Word) Y QaC Y Y YD (cO (cS (vc (tv (tS x1.Word) Y) vn) (Z8 Y) (QaW (n+0) x1.Word (by exact hw _ (List.mem_of_getElem? hx1))) Y Y) (fO (Zd (tv (tB (decide (ZB x1.Word))) Y)) (mO (tB (!(decide (ZB x1.Word)))) Y ?_))))
   refine gn (ZB x1.Word) (fun fhg27_1=> ?_) fun fhg27_1=> ?_
   ·refine QE 3 4 false 27 (ny fhg27_1) Y Y Y ?_
    refine fO (OF.pickT (VEv.tmpB Y (ny fhg27_1)) (VEv.bool true)) (mO (tB true) Y (QE 3 9 false 32 (b:=true) Y Y Y Y (fO (OF.pickT (tv (tB true) Y) (VEv.bool true)) (nt (ct Y (sr (fO (OF.assign (VEv.bool false)) (nt (rt (tr (tr ?_)))))))))))
    refine vinB.r (tr (tr (vinB.r (tr (vb (b':=false) Y ?_)))))
    (symm;rw [decide_eq_false_iff_not];rintro ⟨h1,h2⟩;(have h3:=(QH hx1).1 (h2 i fhc1);obtain ⟨h4,h5,h6⟩:=h3;simp only [two] at h6;(by_cases hk:x1.Kind=1<;>simp_all<;>omega)))
   refine Yu (tI x1.A) (nz fhg27_1) Y Y Y Y YX Y Y QQ (gF (nz fhg27_1) Y Y (xne (tv (tI x1.A) Y) (VEv.int .i64 0)) (fO (OF.pickF (VEv.tmpB Y (nz fhg27_1)) (tv (tB (!(decide (x1.A=0)))) Y)) (mO (tB (!(decide (x1.A=0)))) Y ?_)))
   refine gn (x1.A=0) (fun fhg32_2=> ?_) fun fhg32_2=> ?_
   ·refine QE 3 9 false 32 (ny fhg32_2) Y Y Y ?_
    refine fO (OF.pickT (VEv.tmpB Y (ny fhg32_2)) (VEv.bool true)) (nt (ct Y (sr (fO (OF.assign (VEv.bool false)) (nt (rt (tr (tr (vinB.r (tr (tr ?_)))))))))))
    refine vinB.r (tr (vb (b':=false) Y ?_))
    (symm;rw [decide_eq_false_iff_not];rintro ⟨h1,h2⟩;(have h3:=(QH hx1).1 (h2 i fhc1);obtain ⟨h4,h5,h6⟩:=h3;simp only [two] at h6;omega))
   refine Yu (tI x1.B) (nz fhg32_2) Y Y Y Y Yz Y Y QQ (gF (nz fhg32_2) Y Y (xne (tv (tI x1.B) Y) (VEv.int .i64 0)) (fO (OF.pickF (VEv.tmpB Y (nz fhg32_2)) (tv (tB (!(decide (x1.B=0)))) Y)) (nt ?_)))
   refine cn (x1.B=0) Y (fun fhc4=> ?_) fun fhc4=> ?_
   ·refine sr ?_
    refine fO (OF.assign (VEv.bool false)) (nt (rt (tr (tr (vinB.r (tr (tr (vinB.r (tr (vb (b':=false) Y ?_))))))))))
    (symm;rw [decide_eq_false_iff_not];rintro ⟨h1,h2⟩;(have h3:=(QH hx1).1 (h2 i fhc1);obtain ⟨h4,h5,h6⟩:=h3;simp only [two] at h6;omega))
   refine sk (tn (VRun.exit (vthn.e (vinB.e (tn (VRun.region (fO (Qx (tv (tN i) Y) (VEv.int .i64 1) (by omega)) (mO (tN (i+1)) Y (VRunO.nil (tn ?_))))))))))
   refine ⟨(i+1:Nat),?_,?_,Wk.mk (fun k=>k) ?_ ?_ ?_⟩
   ·refine ZJ hI0 fhc1 ((QH hx1).2 ?_)
    simp only [Qej,two]
    refine ⟨by omega,fun hk=> ?_,fun hk=> ?_⟩
    ·(refine ⟨?_,?_,?_⟩<;>assumption)
    ·(exfalso;omega)
   ·omega
   ·exact (b2 (b2 (b2 (b2 bn))))
   ·exact bn
   ·exact nd Y
  refine sk (tn (sq (sr (lf (tS x1.Word) Y QaC Y Y YD (fO (B.sneq (c:=(!(decide (x1.Word=(⟨#[]⟩:ByteArray))))) (tv (tS x1.Word) Y) (VEv.str (⟨#[]⟩:ByteArray)) Y) (mO (tB (!(decide (x1.Word=(⟨#[]⟩:ByteArray))))) Y ?_))))))
  refine gn (x1.Word=(⟨#[]⟩:ByteArray)) (fun fhg40_3=> ?_) fun fhg40_3=> ?_
  ·refine QE 5 3 false 40 (ny fhg40_3) Y Y Y ?_
   refine fO (OF.pickT (VEv.tmpB Y (ny fhg40_3)) (VEv.bool true)) (mO (tB true) Y (QE 4 10 false 47 (b:=true) Y Y Y Y (Qbv 7 14 true 51 Y Y Y (VRunO.off (VWant.not (b:=true) Y Y Y) (fO (OF.pickT (tv (tB true) Y) (VEv.bool true)) (nt (ct Y (sr (fO (OF.assign (VEv.bool false)) (nt (rt ?_)))))))))))
   refine tr (vinB.r (tr (tr (vinB.r (tr (vb (b':=false) Y ?_))))))
   (symm;rw [decide_eq_false_iff_not];rintro ⟨h1,h2⟩;(have h3:=(QH hx1).1 (h2 i fhc1);obtain ⟨h4,h5,h6⟩:=h3;simp only [two] at h6;(by_cases hk:x1.Kind=1<;>simp_all<;>omega)))
  refine Yu (tI x1.A) (nz fhg40_3) Y Y Y Y YX Y Y QQ (gF (nz fhg40_3) Y Y (OF.move (tv (tN i) Y)) (VRunO.chain (VWant.on Y Y (nz fhg40_3)) (cS (vc (tv (tI x1.A) Y) (vc (tv (tN i) Y) vn)) (Z8 Y) (Jy (n+1) x1.A ((i:Nat):Int)) Y Y) (gF (nz fhg40_3) Y Y (Zd (tv (tB (decide (0≤x1.A∧x1.A<((i:Nat):Int)))) Y)) (fO (OF.pickF (VEv.tmpB Y (nz fhg40_3)) (tv (tB (!(decide (0≤x1.A∧x1.A<((i:Nat):Int))))) Y)) (mO (tB (!(decide (0≤x1.A∧x1.A<((i:Nat):Int))))) Y ?_)))))
  refine gn (0≤x1.A∧x1.A<((i:Nat):Int)) (fun fhg47_4=> ?_) fun fhg47_4=> ?_
  ·refine QE 4 10 false 47 (ny fhg47_4) Y Y Y ?_
   refine Qbv 7 14 true 51 Y Y Y (oO Y Y (ny fhg47_4) (fO (OF.pickT (VEv.tmpB Y (ny fhg47_4)) (VEv.bool true)) (nt (ct Y (sr (fO (OF.assign (VEv.bool false)) (nt (rt (tr (vinB.r (tr ?_)))))))))))
   refine tr (vinB.r (tr (vb (b':=false) Y ?_)))
   (symm;rw [decide_eq_false_iff_not];rintro ⟨h1,h2⟩;(have h3:=(QH hx1).1 (h2 i fhc1);obtain ⟨h4,h5,h6⟩:=h3;simp only [two] at h6;omega))
  refine Yu (tI x1.Kind) (nz fhg47_4) Y Y Y Y Zp Y Y QQ (VRunO.chain (VWant.on Y Y (nz fhg47_4)) (cS (vc (tv (tI x1.Kind) Y) vn) (Z8 Y) (Qd8 (n+1) x1.Kind) Y Y) (gF (nz fhg47_4) Y Y (OF.move (tv (tB (decide (x1.Kind=3∨6≤x1.Kind))) Y)) ?_))
  refine gw (x1.Kind=3∨6≤x1.Kind) (fun fhg51_5=> ?_) fun fhg51_5=> ?_
  ·refine gF (dy fhg51_5) Y Y (OF.move (tv (rd 4 Ql a) Y)) ?_
   refine Yu (tI x1.A) (dy fhg51_5) Y Y Y Y YX Y Y QQ ?_
   obtain ⟨x2,hx2⟩:∃x,a[(Int.toNat x1.A)]? =some x:=⟨_,List.getElem?_eq_getElem (by omega)⟩
   refine gF (dy fhg51_5) Y Y (OF.indexAddrR (row:=(Ql false x2)) (i:=(Int.toNat x1.A)) (tv (rd 4 Ql a) Y) (tv (tI x1.A) Y) (by omega) (Qr _ hx2) U87 YG Qal) (glr (tI x2.Kind) (dy fhg51_5) Y Y Y Y (lb Y) Zp Y QQ (gF (dy fhg51_5) Y Y (xne (tv (tI x2.Kind) Y) (VEv.int .i64 1)) (gF (nz fhg47_4) Y Y (OF.pickT (VEv.tmpB Y (dy fhg51_5)) (tv (tB (!(decide (x2.Kind=1)))) Y)) (fO (OF.pickF (VEv.tmpB Y (nz fhg47_4)) (tv (tB (!(decide (x2.Kind=1)))) Y)) (nt ?_)))))
   refine cn (x2.Kind=1) Y (fun fhc5=> ?_) fun fhc5=> ?_
   ·refine sr ?_
    refine fO (OF.assign (VEv.bool false)) (nt (rt (tr (vinB.r (tr (tr (vinB.r (tr (vb (b':=false) Y ?_)))))))))
    (symm;rw [decide_eq_false_iff_not];rintro ⟨h1,h2⟩;(have h3:=(QH hx1).1 (h2 i fhc1);obtain ⟨h4,h5,h6⟩:=h3;simp only [two] at h6;(by_cases hk:x1.Kind=1<;>simp_all<;>omega)))
   refine sk (tn (sr (lf (tI x1.Kind) Y Zp Y Y QQ (cO (cS (vc (tv (tI x1.Kind) Y) vn) (Z8 Y) (Yw (n+1) x1.Kind) Y Y) (mO (tB (decide (x1.Kind=4∨x1.Kind=5))) Y ?_)))))
   refine gw (x1.Kind=4∨x1.Kind=5) (fun fhg64_6=> ?_) fun fhg64_6=> ?_
   ·refine Yu (tI x1.B) (dy fhg64_6) Y Y Y Y Yz Y Y QQ ?_
    refine gF (dy fhg64_6) Y Y (OF.move (tv (tN i) Y)) (VRunO.chain (VWant.on Y Y (dy fhg64_6)) (cS (vc (tv (tI x1.B) Y) (vc (tv (tN i) Y) vn)) (Z8 Y) (Jy (n+1) x1.B ((i:Nat):Int)) Y Y) (gF (dy fhg64_6) Y Y (Zd (tv (tB (decide (0≤x1.B∧x1.B<((i:Nat):Int)))) Y)) (fO (OF.pickT (VEv.tmpB Y (dy fhg64_6)) (tv (tB (!(decide (0≤x1.B∧x1.B<((i:Nat):Int))))) Y)) (mO (tB (!(decide (0≤x1.B∧x1.B<((i:Nat):Int))))) Y ?_))))
    refine gn (0≤x1.B∧x1.B<((i:Nat):Int)) (fun fhg71_7=> ?_) fun fhg71_7=> ?_
    ·refine QE 5 10 false 71 (ny fhg71_7) Y Y Y ?_
     refine Qbv 3 15 true 76 Y Y Y (oO Y Y (ny fhg71_7) (fO (OF.pickT (VEv.tmpB Y (ny fhg71_7)) (VEv.bool true)) (nt (ct Y (sr (fO (OF.assign (VEv.bool false)) (nt (rt (vinB.r (tr (tr ?_)))))))))))
     refine vinB.r (tr (vb (b':=false) Y ?_))
     (symm;rw [decide_eq_false_iff_not];rintro ⟨h1,h2⟩;(exfalso;omega))
    refine Yu (tI x1.Kind) (nz fhg71_7) Y Y Y Y Zp Y Y QQ (VRunO.chain (VWant.on Y Y (nz fhg71_7)) (cS (vc (tv (tI x1.Kind) Y) vn) (Z8 Y) (Yw (n+1) x1.Kind) Y Y) (gF (nz fhg71_7) Y Y (Zd (tv (tB (decide (x1.Kind=4∨x1.Kind=5))) Y)) (gF (nz fhg71_7) Y Y (OF.move (tv (tB (!(decide (x1.Kind=4∨x1.Kind=5)))) Y)) (QE 3 15 true 76 (nkT (dy fhg64_6)) Y Y Y (gF (nz fhg71_7) Y Y (OF.pickF (VEv.tmpB Y (nkT (dy fhg64_6))) (VEv.bool false)) (fO (OF.pickF (VEv.tmpB Y (nz fhg71_7)) (tv (tB false) Y)) (nt (cf Y (sk (vinB.n (tn ?_)))))))))))
    refine VRun.region (fO (Qx (tv (tN i) Y) (VEv.int .i64 1) (by omega)) (mO (tN (i+1)) Y (VRunO.nil (tn ?_))))
    refine ⟨(i+1:Nat),?_,?_,Wk.mk (fun k=>k) ?_ ?_ ?_⟩
    ·refine ZJ hI0 fhc1 ((QH hx1).2 ?_)
     simp only [Qej,two]
     refine ⟨by omega,fun hk=> ?_,fun hk=> ?_⟩
     ·(exfalso;omega)
     ·(exfalso;omega)
    ·omega
    ·exact (b2 (b2 (b2 (b2 bn))))
    ·exact bn
    ·exact nd Y
   refine QE 5 3 true 64 (dz fhg64_6) Y Y Y (fO (OF.pickF (VEv.tmpB Y (dz fhg64_6)) (VEv.bool false)) (mO (tB false) Y (VRunO.free (VWant.on (b:=false) Y Y Y) (OF.fieldAddrO (tv (T.op 0 0) Y) Zp) (VRunO.look (VWant.on (b:=false) Y Y Y) (OL.loadO1 (t:=(tI x1.Kind)) (tv (T.op 0 0) Y) Y Y QQ) (VRunO.chain (VWant.on (b:=false) Y Y Y) (cS (vc (tv (tI x1.Kind) Y) vn) (Z8 Y) (Yw (n+1) x1.Kind) Y Y) (VRunO.free (VWant.on (b:=false) Y Y Y) (Zd (tv (tB (decide (x1.Kind=4∨x1.Kind=5))) Y)) (VRunO.free (VWant.on (b:=false) Y Y Y) (OF.move (tv (tB (!(decide (x1.Kind=4∨x1.Kind=5)))) Y)) (Yu (tI x1.B) (nkF (dz fhg64_6)) Y Y Y Y Yz Y Y QQ (gF (nkF (dz fhg64_6)) Y Y (xne (tv (tI x1.B) Y) (VEv.int .i64 0)) (VRunO.free (VWant.on (b:=false) Y Y Y) (OF.pickT (VEv.tmpB Y (nkF (dz fhg64_6))) (tv (tB (!(decide (x1.B=0)))) Y)) (fO (OF.pickF (tv (tB false) Y) (tv (tB (!(decide (x1.B=0)))) Y)) ?_)))))))))))
   refine nt ?_
   refine cn (x1.B=0) Y (fun fhc6=> ?_) fun fhc6=> ?_
   ·refine sr ?_
    refine fO (OF.assign (VEv.bool false)) (nt (rt (vinB.r (tr (tr (vinB.r (tr (vb (b':=false) Y ?_))))))))
    (symm;rw [decide_eq_false_iff_not];rintro ⟨h1,h2⟩;(have h3:=(QH hx1).1 (h2 i fhc1);obtain ⟨h4,h5,h6⟩:=h3;simp only [two] at h6;omega))
   refine sk (vinB.n (tn (VRun.region (fO (Qx (tv (tN i) Y) (VEv.int .i64 1) (by omega)) (mO (tN (i+1)) Y (VRunO.nil (tn ?_)))))))
   refine ⟨(i+1:Nat),?_,?_,Wk.mk (fun k=>k) ?_ ?_ ?_⟩
   ·refine ZJ hI0 fhc1 ((QH hx1).2 ?_)
    simp only [Qej,two]
    refine ⟨by omega,fun hk=> ?_,fun hk=> ?_⟩
    ·(exfalso;omega)
    ·(refine ⟨?_,?_,fun h=> ?_,fun h=> ?_,fun h1 h2=> ?_⟩<;>first | assumption | omega | (refine ⟨x2,hx2,?_⟩;omega))
   ·omega
   ·exact (b2 (b2 (b2 (b2 bn))))
   ·exact bn
   ·exact nd Y
  refine QE 7 14 true 51 (dz fhg51_5) Y Y Y (gF (nz fhg47_4) Y Y (OF.pickF (VEv.tmpB Y (dz fhg51_5)) (VEv.bool false)) (fO (OF.pickF (VEv.tmpB Y (nz fhg47_4)) (tv (tB false) Y)) (nt (cf Y (sk (tn (sr (lf (tI x1.Kind) Y Zp Y Y QQ (cO (cS (vc (tv (tI x1.Kind) Y) vn) (Z8 Y) (Yw (n+1) x1.Kind) Y Y) (mO (tB (decide (x1.Kind=4∨x1.Kind=5))) Y ?_))))))))))
  refine gw (x1.Kind=4∨x1.Kind=5) (fun fhg64_8=> ?_) fun fhg64_8=> ?_
  ·refine Yu (tI x1.B) (dy fhg64_8) Y Y Y Y Yz Y Y QQ ?_
   refine gF (dy fhg64_8) Y Y (OF.move (tv (tN i) Y)) (VRunO.chain (VWant.on Y Y (dy fhg64_8)) (cS (vc (tv (tI x1.B) Y) (vc (tv (tN i) Y) vn)) (Z8 Y) (Jy (n+1) x1.B ((i:Nat):Int)) Y Y) (gF (dy fhg64_8) Y Y (Zd (tv (tB (decide (0≤x1.B∧x1.B<((i:Nat):Int)))) Y)) (fO (OF.pickT (VEv.tmpB Y (dy fhg64_8)) (tv (tB (!(decide (0≤x1.B∧x1.B<((i:Nat):Int))))) Y)) (mO (tB (!(decide (0≤x1.B∧x1.B<((i:Nat):Int))))) Y ?_))))
   refine gn (0≤x1.B∧x1.B<((i:Nat):Int)) (fun fhg71_9=> ?_) fun fhg71_9=> ?_
   ·refine QE 5 10 false 71 (ny fhg71_9) Y Y Y ?_
    refine Qbv 3 15 true 76 Y Y Y (oO Y Y (ny fhg71_9) (fO (OF.pickT (VEv.tmpB Y (ny fhg71_9)) (VEv.bool true)) (nt (ct Y (sr (fO (OF.assign (VEv.bool false)) (nt (rt (vinB.r (tr (tr ?_)))))))))))
    refine vinB.r (tr (vb (b':=false) Y ?_))
    (symm;rw [decide_eq_false_iff_not];rintro ⟨h1,h2⟩;(have h3:=(QH hx1).1 (h2 i fhc1);obtain ⟨h4,h5,h6⟩:=h3;simp only [two] at h6;omega))
   refine Yu (tI x1.Kind) (nz fhg71_9) Y Y Y Y Zp Y Y QQ (VRunO.chain (VWant.on Y Y (nz fhg71_9)) (cS (vc (tv (tI x1.Kind) Y) vn) (Z8 Y) (Yw (n+1) x1.Kind) Y Y) (gF (nz fhg71_9) Y Y (Zd (tv (tB (decide (x1.Kind=4∨x1.Kind=5))) Y)) (gF (nz fhg71_9) Y Y (OF.move (tv (tB (!(decide (x1.Kind=4∨x1.Kind=5)))) Y)) (QE 3 15 true 76 (nkT (dy fhg64_8)) Y Y Y (gF (nz fhg71_9) Y Y (OF.pickF (VEv.tmpB Y (nkT (dy fhg64_8))) (VEv.bool false)) (fO (OF.pickF (VEv.tmpB Y (nz fhg71_9)) (tv (tB false) Y)) (nt (cf Y (sk (vinB.n (tn ?_)))))))))))
   refine VRun.region (fO (Qx (tv (tN i) Y) (VEv.int .i64 1) (by omega)) (mO (tN (i+1)) Y (VRunO.nil (tn ?_))))
   refine ⟨(i+1:Nat),?_,?_,Wk.mk (fun k=>k) ?_ ?_ ?_⟩
   ·refine ZJ hI0 fhc1 ((QH hx1).2 ?_)
    simp only [Qej,two]
    refine ⟨by omega,fun hk=> ?_,fun hk=> ?_⟩
    ·(exfalso;omega)
    ·(refine ⟨?_,?_,fun h=> ?_,fun h=> ?_,fun h1 h2=> ?_⟩<;>first | assumption | omega)
   ·omega
   ·exact (b2 (b2 (b2 (b2 bn))))
   ·exact bn
   ·exact nd Y
  refine QE 5 3 true 64 (dz fhg64_8) Y Y Y (fO (OF.pickF (VEv.tmpB Y (dz fhg64_8)) (VEv.bool false)) (mO (tB false) Y (VRunO.free (VWant.on (b:=false) Y Y Y) (OF.fieldAddrO (tv (T.op 0 0) Y) Zp) (VRunO.look (VWant.on (b:=false) Y Y Y) (OL.loadO1 (t:=(tI x1.Kind)) (tv (T.op 0 0) Y) Y Y QQ) (VRunO.chain (VWant.on (b:=false) Y Y Y) (cS (vc (tv (tI x1.Kind) Y) vn) (Z8 Y) (Yw (n+1) x1.Kind) Y Y) (VRunO.free (VWant.on (b:=false) Y Y Y) (Zd (tv (tB (decide (x1.Kind=4∨x1.Kind=5))) Y)) (VRunO.free (VWant.on (b:=false) Y Y Y) (OF.move (tv (tB (!(decide (x1.Kind=4∨x1.Kind=5)))) Y)) (Yu (tI x1.B) (nkF (dz fhg64_8)) Y Y Y Y Yz Y Y QQ (gF (nkF (dz fhg64_8)) Y Y (xne (tv (tI x1.B) Y) (VEv.int .i64 0)) (VRunO.free (VWant.on (b:=false) Y Y Y) (OF.pickT (VEv.tmpB Y (nkF (dz fhg64_8))) (tv (tB (!(decide (x1.B=0)))) Y)) (fO (OF.pickF (tv (tB false) Y) (tv (tB (!(decide (x1.B=0)))) Y)) ?_)))))))))))
  refine nt ?_
  refine cn (x1.B=0) Y (fun fhc6=> ?_) fun fhc6=> ?_
  ·refine sr ?_
   refine fO (OF.assign (VEv.bool false)) (nt (rt (vinB.r (tr (tr (vinB.r (tr (vb (b':=false) Y ?_))))))))
   (symm;rw [decide_eq_false_iff_not];rintro ⟨h1,h2⟩;(have h3:=(QH hx1).1 (h2 i fhc1);obtain ⟨h4,h5,h6⟩:=h3;simp only [two] at h6;omega))
  refine sk (vinB.n (tn (VRun.region (fO (Qx (tv (tN i) Y) (VEv.int .i64 1) (by omega)) (mO (tN (i+1)) Y (VRunO.nil (tn ?_)))))))
  refine ⟨(i+1:Nat),?_,?_,Wk.mk (fun k=>k) ?_ ?_ ?_⟩
  ·refine ZJ hI0 fhc1 ((QH hx1).2 ?_)
   simp only [Qej,two]
   refine ⟨by omega,fun hk=> ?_,fun hk=> ?_⟩
   ·(exfalso;omega)
   ·(refine ⟨?_,?_,fun h=> ?_,fun h=> ?_,fun h1 h2=> ?_⟩<;>first | assumption | omega)
  ·omega
  ·exact (b2 (b2 (b2 (b2 bn))))
  ·exact bn
  ·exact nd Y
 refine VRun.exit (vthn.e (vthn.e (vinB.e (tn (sr (fO (OF.assign (VEv.bool true)) (nt (rt (vb (b':=true) Y ?_)))))))))
 (symm;rw [decide_eq_true_eq];exact ⟨by omega,QaQ hI' fhc1⟩)
theorem Qge (n:Nat) (a:D.Clue) (hz:QY a≤mx):Pure (Qs Tryz.prog (n+5)) 102 [(T.agg (Qh false a))] (tB (decide ((1≤a.Sense∧a.Sense≤99)∧YE a.Play))):=by
 refine Pure.intro (rs:= [ResultVar.tmp 2]) Tryz.func102 Y Y Y (E0:= [(0,(T.agg (Qh false a)))]) Y ?_
 obtain ⟨hlim,hmx,hmax⟩:=QA
 simp only [QY] at hz
 refine sr (kO (B.box (ts:=(Qh false a)) (tv (T.agg (Qh false a)) Y) nofun Y) (fO (OF.assign (VEv.bool false)) (nt (sr (lf (tI a.Sense) Y QdM Y Y QQ (cO (cS (vc (tv (tI a.Sense) Y) (vc (VEv.int .i64 1) (vc (VEv.int .i64 99) vn))) (Z8 Y) (Q2 (n+3) a.Sense 1 99) Y Y) (mO (tB (decide (1≤a.Sense∧a.Sense≤99))) Y ?_)))))))
 refine gw (1≤a.Sense∧a.Sense≤99) (fun fhg6_1=> ?_) fun fhg6_1=> ?_
 ·refine Yu (rd 4 Ql a.Play) (dy fhg6_1) Y Y Y Y Qd0 Y Y Qln ?_
  refine VRunO.chain (VWant.on Y Y (dy fhg6_1)) (cS (vc (tv (rd 4 Ql a.Play) Y) vn) (Z8 Y) (Qgf (n+0) a.Play (by assumption)) Y Y) (fO (OF.pickT (VEv.tmpB Y (dy fhg6_1)) (tv (tB (decide (YE a.Play))) Y)) (aO (tB (decide (YE a.Play))) Y (nt (rt (vb (b':=(decide (YE a.Play))) Y ?_)))))
  (refine Q8 ⟨fun h=>⟨?_,h⟩,fun h=>h.2⟩;assumption)
 refine QE 3 3 true 6 (dz fhg6_1) Y Y Y (fO (OF.pickF (VEv.tmpB Y (dz fhg6_1)) (VEv.bool false)) (aO (tB false) Y (nt (rt (vb (b':=false) Y ?_)))))
 (symm;rw [decide_eq_false_iff_not];rintro ⟨h1,h2⟩;contradiction)
theorem Qgc (n:Nat) (a:D.Clue) (hz:QY a≤mx):Pure (Qs Tryz.prog (n+4)) 108 [(T.agg (Qh false a))] (tB (decide ((1≤a.Sense∧a.Sense≤99)∧YE a.Play))):=by
 refine Pure.intro (rs:= [ResultVar.tmp 2]) Tryz.func108 Y Y Y (E0:= [(0,(T.agg (Qh false a)))]) Y ?_
 obtain ⟨hlim,hmx,hmax⟩:=QA
 simp only [QY] at hz
 refine sr (kO (B.box (ts:=(Qh false a)) (tv (T.agg (Qh false a)) Y) nofun Y) (fO (OF.assign (VEv.bool false)) (nt (sr (lf (tI a.Sense) Y QdM Y Y QQ (cO (cS (vc (tv (tI a.Sense) Y) (vc (VEv.int .i64 1) (vc (VEv.int .i64 99) vn))) (Z8 Y) (Zu (n+2) a.Sense 1 99) Y Y) (mO (tB (decide (1≤a.Sense∧a.Sense≤99))) Y ?_)))))))
 refine gw (1≤a.Sense∧a.Sense≤99) (fun fhg6_1=> ?_) fun fhg6_1=> ?_
 ·refine Yu (rd 4 Ql a.Play) (dy fhg6_1) Y Y Y Y Qd0 Y Y Qln ?_
  refine VRunO.chain (VWant.on Y Y (dy fhg6_1)) (cS (vc (tv (rd 4 Ql a.Play) Y) vn) (Z8 Y) (Qf3 (n+0) a.Play (by assumption)) Y Y) (fO (OF.pickT (VEv.tmpB Y (dy fhg6_1)) (tv (tB (decide (YE a.Play))) Y)) (aO (tB (decide (YE a.Play))) Y (nt (rt (vb (b':=(decide (YE a.Play))) Y ?_)))))
  (refine Q8 ⟨fun h=>⟨?_,h⟩,fun h=>h.2⟩;assumption)
 refine QE 3 3 true 6 (dz fhg6_1) Y Y Y (fO (OF.pickF (VEv.tmpB Y (dz fhg6_1)) (VEv.bool false)) (aO (tB false) Y (nt (rt (vb (b':=false) Y ?_)))))
 (symm;rw [decide_eq_false_iff_not];rintro ⟨h1,h2⟩;contradiction)
theorem Qgb (n:Nat) (a:D.Issue) (b:Int):Pure (Qs Tryz.prog (n+1)) 59 [(T.agg (Qe false a)),(tI b)] (tB (decide (a.Open≤b∧b<a.Close))):=by
 refine Pure.intro (rs:= [ResultVar.tmp 4]) Tryz.func59 Y Y Y (E0:= [(0,(T.agg (Qe false a))),(1,(tI b))]) Y ?_
 obtain ⟨hlim,hmx,hmax⟩:=QA
 refine sr (kO (B.box (ts:=(Qe false a)) (tv (T.agg (Qe false a)) Y) nofun Y) (fO (OF.assign (VEv.bool false)) (nt (sr (mO (tI b) Y (lf (tI a.Open) Y Qbl Y Y QQ (fO (xge (tv (tI b) Y) (tv (tI a.Open) Y)) (mO (tB (decide (a.Open≤b))) Y ?_))))))))
 refine gw (a.Open≤b) (fun fhg9_1=> ?_) fun fhg9_1=> ?_
 ·refine gF (dy fhg9_1) Y Y (OF.move (tv (tI b) Y)) ?_
  refine Yu (tI a.Close) (dy fhg9_1) Y Y Y Y Qbq Y Y QQ (gF (dy fhg9_1) Y Y (xls (tv (tI b) Y) (tv (tI a.Close) Y)) (fO (OF.pickT (VEv.tmpB Y (dy fhg9_1)) (tv (tB (decide (b<a.Close))) Y)) (aO (tB (decide (b<a.Close))) Y (nt (rt (vb (b':=(decide (b<a.Close))) Y ?_))))))
  exact Q8 (by omega)
 refine QE 4 4 true 9 (dz fhg9_1) Y Y Y (fO (OF.pickF (VEv.tmpB Y (dz fhg9_1)) (VEv.bool false)) (aO (tB false) Y (nt (rt (vb (b':=false) Y ?_)))))
 (symm;rw [decide_eq_false_iff_not];omega)
theorem Qf6 (n:Nat) (a:D.Issue) (b:Int):Pure (Qs Tryz.prog (n+1)) 54 [(T.agg (Qe false a)),(tI b)] (tB (decide (a.Open≤b∧b<a.Close))):=by
 refine Pure.intro (rs:= [ResultVar.tmp 4]) Tryz.func54 Y Y Y (E0:= [(0,(T.agg (Qe false a))),(1,(tI b))]) Y ?_
 obtain ⟨hlim,hmx,hmax⟩:=QA
 refine sr (kO (B.box (ts:=(Qe false a)) (tv (T.agg (Qe false a)) Y) nofun Y) (fO (OF.assign (VEv.bool false)) (nt (sr (mO (tI b) Y (lf (tI a.Open) Y Qbl Y Y QQ (fO (xge (tv (tI b) Y) (tv (tI a.Open) Y)) (mO (tB (decide (a.Open≤b))) Y ?_))))))))
 refine gw (a.Open≤b) (fun fhg9_1=> ?_) fun fhg9_1=> ?_
 ·refine gF (dy fhg9_1) Y Y (OF.move (tv (tI b) Y)) ?_
  refine Yu (tI a.Close) (dy fhg9_1) Y Y Y Y Qbq Y Y QQ (gF (dy fhg9_1) Y Y (xls (tv (tI b) Y) (tv (tI a.Close) Y)) (fO (OF.pickT (VEv.tmpB Y (dy fhg9_1)) (tv (tB (decide (b<a.Close))) Y)) (aO (tB (decide (b<a.Close))) Y (nt (rt (vb (b':=(decide (b<a.Close))) Y ?_))))))
  exact Q8 (by omega)
 refine QE 4 4 true 9 (dz fhg9_1) Y Y Y (fO (OF.pickF (VEv.tmpB Y (dz fhg9_1)) (VEv.bool false)) (aO (tB false) Y (nt (rt (vb (b':=false) Y ?_)))))
 (symm;rw [decide_eq_false_iff_not];omega)
noncomputable section
def YN (a:List Int) (i:Nat):List Int:=(List.range a.length).map fun j=>if j<i∨a.length≤j+i then a.getD (a.length - 1 - j) 0 else a.getD j 0
theorem Qah (a:List Int) (i:Nat):(YN a i).length=a.length:=by simp [YN]
theorem Qdf {a:List Int} {i j:Nat} (h:j<a.length):(YN a i)[j]? =some (if j<i∨a.length≤j+i then a.getD (a.length - 1 - j) 0 else a.getD j 0):=by
 unfold YN
 rw [List.getElem?_map,List.getElem?_range h]
 rfl
theorem Qko (a:List Int):YN a 0=a:=by
 refine List.ext_getElem? fun j=> ?_
 rcases Nat.lt_or_ge j a.length with h | h
 ·rw [Qdf h,if_neg (by omega),List.getD_eq_getElem?_getD,List.getElem?_eq_getElem h]
  rfl
 ·rw [List.getElem?_eq_none (by rw [Qah];exact h),List.getElem?_eq_none h]
theorem Ql1 {a:List Int} {i:Nat} (h:a.length≤2*i+1) (h2:i≤a.length):YN a i=a.reverse:=by
 refine List.ext_getElem? fun j=> ?_
 rcases Nat.lt_or_ge j a.length with h3 | h3
 ·rw [Qdf h3,List.getElem?_reverse h3,List.getElem?_eq_getElem (by omega)]
  split
  ·rw [List.getD_eq_getElem?_getD,List.getElem?_eq_getElem (by omega)];rfl
  ·have e:a.length - 1 - j=j:=by omega
   rw [List.getD_eq_getElem?_getD,List.getElem?_eq_getElem h3]
   simp only [Option.getD_some,e]
 ·rw [List.getElem?_eq_none (by rw [Qah];exact h3),List.getElem?_eq_none (by simpa using h3)]
theorem Qkf {a:List Int} {i k:Nat} {x y:Int} (hk:k=a.length - 1 - i) (hi:i<k) (hx:(YN a i)[k]? =some x) (hy:(YN a i)[i]? =some y):((YN a i).set i x).set k y=YN a (i+1):=by
 subst hk
 rw [Qdf (by omega),if_neg (by omega)] at hx hy
 obtain rfl:=Option.some.inj hx
 obtain rfl:=Option.some.inj hy
 refine List.ext_getElem? fun j=> ?_
 rcases Nat.lt_or_ge j a.length with h | h
 ·rw [Qdf h,List.getElem?_set,List.getElem?_set,List.length_set,Qah,Qdf h]
  by_cases e1:a.length - 1 - i=j
  ·rw [if_pos e1,if_pos (by omega),if_pos (by omega)]
   congr 2
   omega
  ·rw [if_neg e1]
   by_cases e2:i=j
   ·rw [if_pos e2,if_pos (by omega),if_pos (by omega),e2]
   ·rw [if_neg e2]
    by_cases e3:j<i∨a.length≤j+i
    ·rw [if_pos e3,if_pos (by omega)]
    ·rw [if_neg e3,if_neg (by omega)]
 ·rw [List.getElem?_eq_none (by rw [List.length_set,List.length_set,Qah];exact h),List.getElem?_eq_none (by rw [Qah];exact h)]
end
theorem JX (n:Nat) (a:List Int) (ha:a.length≤Y2):Mut (Qs Tryz.prog (n+1)) 143 1 (a.map (QX true)) [] none (a.reverse.map (QX true)):=by
 refine Mut.intro (rt:=0) Tryz.func143 Y Y Y (by kernel_rfl) (QL (fun _=>rfl) _) (QL (fun _=>rfl) _) (E0:= []) Y ?_
 obtain ⟨hlim,hmx,hmax⟩:=QA
 refine sr (mO (T.os 1 0 0 ((a.map (QX true)).length)) Y (lO (B.lenO (m:=a.length) (tv (T.os 1 0 0 ((a.map (QX true)).length)) Y) U76 (List.length_map ..)) (fO (B.sub (n:=(((a.length:Nat):Int) - 1)) (tv (tN a.length) Y) (VEv.int .i64 1) (by (rw [Qt (by omega)];done))) (fO (OF.assign (VEv.int .i64 0)) (aO (tI (((a.length:Nat):Int) - 1)) Y (nt (VRun.block ?_)))))))
 have he1:a=YN a 0:=by exact (Qko a).symm
 refine VRun.loop (A:=Nat) (fun s_=> [(0,(T.os 1 0 0 (((YN a s_).map (QX true)).length))),(2,(tN s_)),(3,(tI ((a.length:Int) - 1 - s_)))]) (fun s_=>QV [(0,(Obj.rows 1 ((YN a s_).map (QX true))))]) 1 (fun s_=>2*s_≤a.length+1∧s_≤a.length) (fun s_=>a.length - s_) (0:Nat) ?_ (Wk.mk (fun k=>k) ?_ ?_ ?_) ?_
 ·(simp;done)
 ·exact (bc ⟨(congrArg (fun l_=>T.os 1 0 0 (List.map (QX true) l_).length) he1),rfl⟩ (b2 (bc ⟨(congrArg (T.int .i64) (show (((a.length:Nat):Int) - 1)=(a.length:Int) - 1 - 0 from (by omega))),rfl⟩ bn)))
 ·exact (bc ⟨(congrArg (fun l_=>some (Obj.rows 1 (List.map (QX true) l_))) he1),(lb Y),rfl⟩ bn)
 ·exact nd Y
 rintro i (hI':2*i≤a.length+1∧i≤a.length)
 show VRun _ _ _ [(0,(T.os 1 0 0 (((YN a i).map (QX true)).length))),(2,(tN i)),(3,(tI ((a.length:Int) - 1 - i)))] (QV [(0,(Obj.rows 1 ((YN a i).map (QX true))))]) 1 _
 have hml:=Qah a i
 have hI1:=hI'.1
 have hI2:=hI'.2
 refine sq (sr (mO (tN i) Y (mO (tI ((a.length:Int) - 1 - i)) Y (fO (xls (tv (tN i) Y) (tv (tI ((a.length:Int) - 1 - i)) Y)) (nt ?_)))))
 refine cd (((i:Nat):Int)<(a.length:Int) - 1 - i) Y (fun fhc0=> ?_) fun fhc0=> ?_
 ·refine sk ?_
  refine tn (sq (VRun.block (VRun.draw (B:= [[],[],[],[],[],[],[5,4],[4,5,6],[],[],[9,8],[8,9,10],[10,9,8,11,7,6,5,4,1,0],[0,1,4,5,6,7,11,8,9,10,12],[13,12,11,10,9,8,7,6,5,4,1,0,3,2],[2,3,0,1,4,5,6,7,8,9,10,11,12,13,14]]) (by kernel_rfl) (by kernel_rfl) Y (mD (T.os 1 0 0 (((YN a i).map (QX true)).length)) Y Y (mD (tN i) Y Y (mD (T.os 1 0 0 (((YN a i).map (QX true)).length)) Y Y (mD (tI ((a.length:Int) - 1 - i)) Y Y (mD (T.os 1 0 0 (((YN a i).map (QX true)).length)) Y Y (mD (tI ((a.length:Int) - 1 - i)) Y Y ?_)))))))))
  obtain ⟨x1,hx1⟩:∃x,(YN a i)[(Int.toNat ((a.length:Int) - 1 - i))]? =some x:=⟨_,List.getElem?_eq_getElem (by omega)⟩
  refine fD (B.indexAddrO (i:=(Int.toNat ((a.length:Int) - 1 - i))) (tv (T.os 1 0 0 (((YN a i).map (QX true)).length)) Y) (tv (tI ((a.length:Int) - 1 - i)) Y) (by omega) (by (simp only [List.length_map];omega)) U76 sz5 if5) Y Y (lD (OL.loadP1 (t:=(T.int .u8 x1)) (row:=(QX true x1)) (tv (T.orp 1 0 (Int.toNat ((a.length:Int) - 1 - i)) 0) Y) Y (Qr _ hx1) Y Y st5) Y Y (mD (T.os 1 0 0 (((YN a i).map (QX true)).length)) Y Y (mD (tN i) Y Y ?_)))
  obtain ⟨x2,hx2⟩:∃x,(YN a i)[i]? =some x:=⟨_,List.getElem?_eq_getElem (by omega)⟩
  refine fD (B.indexAddrO (i:=i) (tv (T.os 1 0 0 (((YN a i).map (QX true)).length)) Y) (tv (tN i) Y) Y (by (simp only [List.length_map];omega)) U76 sz5 if5) Y Y (lD (OL.loadP1 (t:=(T.int .u8 x2)) (row:=(QX true x2)) (tv (T.orp 1 0 i 0) Y) Y (Qr _ hx2) Y Y st5) Y Y (fD (B.indexAddrO (i:=i) (tv (T.os 1 0 0 (((YN a i).map (QX true)).length)) Y) (tv (tN i) Y) Y (by (simp only [List.length_map];omega)) U76 sz5 if5) Y Y (VRunD.chain (bi:= [0,1,4,5,6,7,11,8,9,10,12]) Y VWant.always Y Y Y (by kernel_rfl) (B.storeP (us:= [(T.int .u8 x1)]) (rows':=(((YN a i).set i x1).map (QX true))) (row:=(QX true x2)) (tv (T.orp 1 0 i 0) Y) (tv (T.int .u8 x1) Y) nofun Y (Qr _ hx2) Y (lb Y) if5 sz5 (bc Y bn) (by intro r hr t ht;obtain ⟨x,_,rfl⟩:=List.mem_map.1 hr;rw [QkS] at ht;exact QT (okByte.pl _ t ht)) (QZ Y)) ?_)))
  obtain ⟨x3,hx3⟩:∃x,((YN a i).set i x1)[(Int.toNat ((a.length:Int) - 1 - i))]? =some x:=⟨_,List.getElem?_eq_getElem (by (simp only [List.length_set];omega))⟩
  refine fD (B.indexAddrO (i:=(Int.toNat ((a.length:Int) - 1 - i))) (tv (T.os 1 0 0 (((YN a i).map (QX true)).length)) Y) (tv (tI ((a.length:Int) - 1 - i)) Y) (by omega) (by (simp only [List.length_map];omega)) U76 sz5 if5) Y Y (VRunD.chain (bi:= [2,3,0,1,4,5,6,7,8,9,10,11,12,13,14]) Y VWant.always Y Y Y (by kernel_rfl) (B.storeP (us:= [(T.int .u8 x2)]) (rows':=((((YN a i).set i x1).set (Int.toNat ((a.length:Int) - 1 - i)) x2).map (QX true))) (row:=(QX true x3)) (tv (T.orp 1 0 (Int.toNat ((a.length:Int) - 1 - i)) 0) Y) (tv (T.int .u8 x2) Y) nofun Y (Qr _ hx3) Y (lb Y) if5 sz5 (bc Y bn) (by intro r hr t ht;obtain ⟨x,_,rfl⟩:=List.mem_map.1 hr;rw [QkS] at ht;exact QT (okByte.pl _ t ht)) (QZ Y)) (VRunD.nil (vinB.n (tn (VRun.region (mO (tN i) Y (fO (Qx (tv (tN i) Y) (VEv.int .i64 1) (by omega)) (mO (tI ((a.length:Int) - 1 - i)) Y (fO (B.sub (n:=((a.length:Int) - 1 - i - 1)) (tv (tI ((a.length:Int) - 1 - i)) Y) (VEv.int .i64 1) (by (rw [Qt (by omega)];done))) (aO (tN (i+1)) Y (aO (tI ((a.length:Int) - 1 - i - 1)) Y ?_)))))))))))
  refine VRunO.nil (tn ?_)
  have hml2:=Qah a (i+1)
  have he2:(((YN a i).set i x1).set (Int.toNat ((a.length:Int) - 1 - i)) x2)=YN a (i+1):=by (refine Qkf ?_ ?_ hx1 hx2<;>omega)
  refine ⟨(i+1:Nat),?_,?_,Wk.mk (fun k=>k) ?_ ?_ ?_⟩
  ·omega
  ·omega
  ·exact (bc ⟨(congrArg (fun n_=>T.os 1 0 0 n_) (show ((YN a i).map (QX true)).length=((YN a (i+1)).map (QX true)).length from (by rw [List.length_map,List.length_map,hml,hml2]))),rfl⟩ (b2 (bc ⟨(congrArg (T.int .i64) (show ((a.length:Int) - 1 - i - 1)=(a.length:Int) - 1 - (i+1) from (by omega))),rfl⟩ bn)))
  ·exact (bc ⟨(congrArg (fun l_=>some (Obj.rows 1 (List.map (QX true) l_))) he2),(lb Y),rfl⟩ bn)
  ·exact nd Y
 refine VRun.exit (vthn.e (vthn.e (vinB.e ?_)))
 refine vmut.v (rows:=((YN a i).map (QX true))) Y Y ?_ Y
 ·show List.map _ (YN a i)=List.map _ a.reverse
  refine congrArg (List.map _) ?_
  refine Ql1 ?_ ?_<;>omega
noncomputable section
def gOk (s:ByteArray) (j:Nat):Prop:=Qv s j=35∨Qv s j=46
def gridOk (g:D.Grid):Prop:=(2≤g.Rows∧g.Rows≤6)∧(2≤g.Cols∧g.Cols≤6)∧((g.Cells.size:Nat):Int)=g.Rows*g.Cols∧∀j,j<g.Cells.size→gOk g.Cells j
instance (g:D.Grid):Decidable (gridOk g):=Classical.propDecidable _
theorem Qot {a b:Int} (h1:2≤a) (h2:a≤6) (h3:2≤b) (h4:b≤6):4≤a*b∧a*b≤36:=by
 have e1:2*2≤a*b:=Int.mul_le_mul h1 h3 (by decide) (by omega)
 have e2:a*b≤6*6:=Int.mul_le_mul h2 h4 (by omega) (by decide)
 omega
theorem Qon {a b:Int} (h1:2≤a) (h2:a≤6) (h3:2≤b) (h4:b≤6):IntKind.i64.wrap (a*b)=a*b:=by
 have:=Qot h1 h2 h3 h4
 rw [Qt (by omega)]
theorem gridOk.size {g:D.Grid} (h:gridOk g):4≤g.Cells.size∧g.Cells.size≤36:=by
 have:=Qot h.1.1 h.1.2 h.2.1.1 h.2.1.2
 have:=h.2.2.1
 omega
end
theorem Yg (n:Nat) (g:D.Grid) (hc:g.Cells.size≤maxLen):Pure (Qs Tryz.prog (n+2)) 71 [(T.agg (Qd false g))] (tB (decide (gridOk g))):=by
 refine Pure.intro (rs:= [ResultVar.tmp 2]) Tryz.func71 Y Y Y (E0:= [(0,(T.agg (Qd false g)))]) Y ?_
 obtain ⟨hlim,hmx,hmax⟩:=QA
 refine sr (kO (B.box (ts:=(Qd false g)) (tv (T.agg (Qd false g)) Y) nofun Y) (fO (OF.assign (VEv.bool false)) (nt (sq (sr (lf (tI g.Rows) Y QaR Y Y QQ (cO (cS (vc (tv (tI g.Rows) Y) (vc (VEv.int .i64 2) (vc (VEv.int .i64 6) vn))) (Z8 Y) (Q2 (n+0) g.Rows 2 6) Y Y) (fO (Zd (tv (tB (decide (2≤g.Rows∧g.Rows≤6))) Y)) (mO (tB (!(decide (2≤g.Rows∧g.Rows≤6)))) Y ?_)))))))))
 refine gn (2≤g.Rows∧g.Rows≤6) (fun fhg8_1=> ?_) fun fhg8_1=> ?_
 ·refine QE 4 4 false 8 (ny fhg8_1) Y Y Y ?_
  refine fO (OF.pickT (VEv.tmpB Y (ny fhg8_1)) (VEv.bool true)) (mO (tB true) Y (QE 9 10 false 14 (b:=true) Y Y Y Y (fO (OF.pickT (tv (tB true) Y) (VEv.bool true)) (nt (ct Y (sr (fO (OF.assign (VEv.bool false)) (nt (rt (tr (vb (b':=false) Y ?_)))))))))))
  (symm;rw [decide_eq_false_iff_not];rintro ⟨g1,g2,g3,g4⟩;omega)
 refine Yu (tI g.Cols) (nz fhg8_1) Y Y Y Y ZE Y Y QQ (VRunO.chain (VWant.on Y Y (nz fhg8_1)) (cS (vc (tv (tI g.Cols) Y) (vc (VEv.int .i64 2) (vc (VEv.int .i64 6) vn))) (Z8 Y) (Q2 (n+0) g.Cols 2 6) Y Y) (gF (nz fhg8_1) Y Y (Zd (tv (tB (decide (2≤g.Cols∧g.Cols≤6))) Y)) (fO (OF.pickF (VEv.tmpB Y (nz fhg8_1)) (tv (tB (!(decide (2≤g.Cols∧g.Cols≤6)))) Y)) (mO (tB (!(decide (2≤g.Cols∧g.Cols≤6)))) Y ?_))))
 refine gn (2≤g.Cols∧g.Cols≤6) (fun fhg14_2=> ?_) fun fhg14_2=> ?_
 ·refine QE 9 10 false 14 (ny fhg14_2) Y Y Y ?_
  refine fO (OF.pickT (VEv.tmpB Y (ny fhg14_2)) (VEv.bool true)) (nt (ct Y (sr (fO (OF.assign (VEv.bool false)) (nt (rt (tr (vb (b':=false) Y ?_))))))))
  (symm;rw [decide_eq_false_iff_not];rintro ⟨g1,g2,g3,g4⟩;omega)
 refine Yu (tS g.Cells) (nz fhg14_2) Y Y Y Y QU Y Y YD (gL (nz fhg14_2) Y Y (B.lenS (tv (tS g.Cells) Y) U9) (Yu (tI g.Rows) (nz fhg14_2) Y Y Y Y QaR Y Y QQ (Yu (tI g.Cols) (nz fhg14_2) Y Y Y Y ZE Y Y QQ (gF (nz fhg14_2) Y Y (B.mul (n:=(g.Rows*g.Cols)) (tv (tI g.Rows) Y) (tv (tI g.Cols) Y) (by (refine Qon ?_ ?_ ?_ ?_<;>omega))) (gF (nz fhg14_2) Y Y (xne (tv (tN g.Cells.size) Y) (tv (tI (g.Rows*g.Cols)) Y)) (fO (OF.pickF (VEv.tmpB Y (nz fhg14_2)) (tv (tB (!(decide (((g.Cells.size:Nat):Int)=(g.Rows*g.Cols))))) Y)) (nt ?_)))))))
 refine cn (((g.Cells.size:Nat):Int)=(g.Rows*g.Cols)) Y (fun fhc0=> ?_) fun fhc0=> ?_
 ·refine sr ?_
  refine fO (OF.assign (VEv.bool false)) (nt (rt (tr (vb (b':=false) Y ?_))))
  (symm;rw [decide_eq_false_iff_not];rintro ⟨g1,g2,g3,g4⟩;omega)
 refine sk (tn (sq (sr (fO (OF.assign (VEv.int .i64 0)) (nt (VRun.block ?_))))))
 refine VRun.loop (A:=Nat) (fun s_=> [(1,(T.op 0 0)),(3,(tN s_))]) (fun s_=>QV [(0,(Obj.cells (Qd false g)))]) 1 (fun s_=>s_≤g.Cells.size∧∀j,j<s_→gOk g.Cells j) (fun s_=>g.Cells.size - s_) (0:Nat) ?_ (Wk.mk (fun k=>k) ?_ ?_ ?_) ?_
 ·exact ⟨Nat.zero_le _,fun j hj=>by omega⟩
 ·exact (b2 (b2 bn))
 ·exact (b3 bn)
 ·exact nd Y
 rintro i (hI':i≤g.Cells.size∧∀j,j<i→gOk g.Cells j)
 show VRun _ _ _ [(1,(T.op 0 0)),(3,(tN i))] (QV [(0,(Obj.cells (Qd false g)))]) 1 _
 have hI1:=hI'.1
 refine sq (sr (mO (tN i) Y (lf (tS g.Cells) Y QU Y Y YD (lO (B.lenS (tv (tS g.Cells) Y) U9) (fO (Q5 (tv (tN i) Y) (tv (tN g.Cells.size) Y)) (nt ?_))))))
 refine cd (i<g.Cells.size) Y (fun fhc1=> ?_) fun fhc1=> ?_
 ·refine sk ?_
  refine tn (sq (VRun.block (sr (lf (tS g.Cells) Y QU Y Y YD (mO (tN i) Y ?_)))))
  have hb3:i<g.Cells.size:=(by omega)
  refine fO (xix (tv (tS g.Cells) Y) (tv (tN i) Y) hb3 U9) (fO (xne (tv (T.int .u8 (Qv g.Cells i)) Y) (VEv.int .u8 35)) (mO (tB (!(decide (Qv g.Cells i=35)))) Y ?_))
  refine gn (Qv g.Cells i=35) (fun fhg37_4=> ?_) fun fhg37_4=> ?_
  ·refine Yu (tS g.Cells) (ny fhg37_4) Y Y Y Y QU Y Y YD ?_
   refine gF (ny fhg37_4) Y Y (OF.move (tv (tN i) Y)) ?_
   have hb5:i<g.Cells.size:=(by omega)
   refine gF (ny fhg37_4) Y Y (xix (tv (tS g.Cells) Y) (tv (tN i) Y) hb5 U9) (gF (ny fhg37_4) Y Y (xne (tv (T.int .u8 (Qv g.Cells i)) Y) (VEv.int .u8 46)) (fO (OF.pickT (VEv.tmpB Y (ny fhg37_4)) (tv (tB (!(decide (Qv g.Cells i=46)))) Y)) (nt ?_)))
   refine cn (Qv g.Cells i=46) Y (fun fhc2=> ?_) fun fhc2=> ?_
   ·refine sr ?_
    refine fO (OF.assign (VEv.bool false)) (nt (rt (vinB.r (tr (tr (vinB.r (tr (vb (b':=false) Y ?_))))))))
    (symm;rw [decide_eq_false_iff_not];rintro ⟨g1,g2,g3,g4⟩;(have:=g4 i fhc1;unfold gOk at this;omega))
   refine sk (vinB.n (tn (VRun.region (mO (tN i) Y (fO (Qx (tv (tN i) Y) (VEv.int .i64 1) (by omega)) (aO (tN (i+1)) Y (VRunO.nil (tn ?_))))))))
   refine ⟨(i+1:Nat),?_,?_,Wk.mk (fun k=>k) ?_ ?_ ?_⟩
   ·refine ZJ hI' fhc1 ?_;unfold gOk;omega
   ·omega
   ·exact (b2 (b2 bn))
   ·exact (b3 bn)
   ·exact nd Y
  refine QE 5 5 true 37 (nz fhg37_4) Y Y Y (fO (OF.pickF (VEv.tmpB Y (nz fhg37_4)) (VEv.bool false)) (nt (cf Y (sk (vinB.n (tn (VRun.region (mO (tN i) Y (fO (Qx (tv (tN i) Y) (VEv.int .i64 1) (by omega)) (aO (tN (i+1)) Y (VRunO.nil ?_)))))))))))
  refine tn ?_
  refine ⟨(i+1:Nat),?_,?_,Wk.mk (fun k=>k) ?_ ?_ ?_⟩
  ·refine ZJ hI' fhc1 ?_;unfold gOk;omega
  ·omega
  ·exact (b2 (b2 bn))
  ·exact (b3 bn)
  ·exact nd Y
 refine VRun.exit (vthn.e (vthn.e (vinB.e (tn (sr (fO (OF.assign (VEv.bool true)) (nt (rt (vb (b':=true) Y ?_)))))))))
 (symm;rw [decide_eq_true_eq];refine ⟨?_,?_,?_,QaQ hI' fhc1⟩<;>assumption)
theorem Yt (n:Nat) (g:D.Grid) (hc:g.Cells.size≤maxLen):Pure (Qs Tryz.prog (n+2)) 74 [(T.agg (Qd false g))] (tB (decide (gridOk g))):=by
 refine Pure.intro (rs:= [ResultVar.tmp 2]) Tryz.func74 Y Y Y (E0:= [(0,(T.agg (Qd false g)))]) Y ?_
 obtain ⟨hlim,hmx,hmax⟩:=QA
 refine sr (kO (B.box (ts:=(Qd false g)) (tv (T.agg (Qd false g)) Y) nofun Y) (fO (OF.assign (VEv.bool false)) (nt (sq (sr (lf (tI g.Rows) Y QaR Y Y QQ (cO (cS (vc (tv (tI g.Rows) Y) (vc (VEv.int .i64 2) (vc (VEv.int .i64 6) vn))) (Z8 Y) (Zu (n+0) g.Rows 2 6) Y Y) (fO (Zd (tv (tB (decide (2≤g.Rows∧g.Rows≤6))) Y)) (mO (tB (!(decide (2≤g.Rows∧g.Rows≤6)))) Y ?_)))))))))
 refine gn (2≤g.Rows∧g.Rows≤6) (fun fhg8_1=> ?_) fun fhg8_1=> ?_
 ·refine QE 4 4 false 8 (ny fhg8_1) Y Y Y ?_
  refine fO (OF.pickT (VEv.tmpB Y (ny fhg8_1)) (VEv.bool true)) (mO (tB true) Y (QE 9 10 false 14 (b:=true) Y Y Y Y (fO (OF.pickT (tv (tB true) Y) (VEv.bool true)) (nt (ct Y (sr (fO (OF.assign (VEv.bool false)) (nt (rt (tr (vb (b':=false) Y ?_)))))))))))
  (symm;rw [decide_eq_false_iff_not];rintro ⟨g1,g2,g3,g4⟩;omega)
 refine Yu (tI g.Cols) (nz fhg8_1) Y Y Y Y ZE Y Y QQ (VRunO.chain (VWant.on Y Y (nz fhg8_1)) (cS (vc (tv (tI g.Cols) Y) (vc (VEv.int .i64 2) (vc (VEv.int .i64 6) vn))) (Z8 Y) (Zu (n+0) g.Cols 2 6) Y Y) (gF (nz fhg8_1) Y Y (Zd (tv (tB (decide (2≤g.Cols∧g.Cols≤6))) Y)) (fO (OF.pickF (VEv.tmpB Y (nz fhg8_1)) (tv (tB (!(decide (2≤g.Cols∧g.Cols≤6)))) Y)) (mO (tB (!(decide (2≤g.Cols∧g.Cols≤6)))) Y ?_))))
 refine gn (2≤g.Cols∧g.Cols≤6) (fun fhg14_2=> ?_) fun fhg14_2=> ?_
 ·refine QE 9 10 false 14 (ny fhg14_2) Y Y Y ?_
  refine fO (OF.pickT (VEv.tmpB Y (ny fhg14_2)) (VEv.bool true)) (nt (ct Y (sr (fO (OF.assign (VEv.bool false)) (nt (rt (tr (vb (b':=false) Y ?_))))))))
  (symm;rw [decide_eq_false_iff_not];rintro ⟨g1,g2,g3,g4⟩;omega)
 refine Yu (tS g.Cells) (nz fhg14_2) Y Y Y Y QU Y Y YD (gL (nz fhg14_2) Y Y (B.lenS (tv (tS g.Cells) Y) U9) (Yu (tI g.Rows) (nz fhg14_2) Y Y Y Y QaR Y Y QQ (Yu (tI g.Cols) (nz fhg14_2) Y Y Y Y ZE Y Y QQ (gF (nz fhg14_2) Y Y (B.mul (n:=(g.Rows*g.Cols)) (tv (tI g.Rows) Y) (tv (tI g.Cols) Y) (by (refine Qon ?_ ?_ ?_ ?_<;>omega))) (gF (nz fhg14_2) Y Y (xne (tv (tN g.Cells.size) Y) (tv (tI (g.Rows*g.Cols)) Y)) (fO (OF.pickF (VEv.tmpB Y (nz fhg14_2)) (tv (tB (!(decide (((g.Cells.size:Nat):Int)=(g.Rows*g.Cols))))) Y)) (nt ?_)))))))
 refine cn (((g.Cells.size:Nat):Int)=(g.Rows*g.Cols)) Y (fun fhc0=> ?_) fun fhc0=> ?_
 ·refine sr ?_
  refine fO (OF.assign (VEv.bool false)) (nt (rt (tr (vb (b':=false) Y ?_))))
  (symm;rw [decide_eq_false_iff_not];rintro ⟨g1,g2,g3,g4⟩;omega)
 refine sk (tn (sq (sr (lf (tS g.Cells) Y QU Y Y YD (lO (B.lenS (tv (tS g.Cells) Y) U9) (fO (OF.move (VEv.int .i64 0)) (nt (VRun.block ?_))))))))
 refine VRun.loop (A:=Nat) (fun s_=> [(1,(T.op 0 0)),(27,(tN g.Cells.size)),(28,(tN s_))]) (fun s_=>QV [(0,(Obj.cells (Qd false g)))]) 1 (fun s_=>s_≤g.Cells.size∧∀j,j<s_→gOk g.Cells j) (fun s_=>g.Cells.size - s_) (0:Nat) ?_ (Wk.mk (fun k=>k) ?_ ?_ ?_) ?_
 ·exact ⟨Nat.zero_le _,fun j hj=>by omega⟩
 ·exact (b2 (b2 (b2 bn)))
 ·exact (b3 bn)
 ·exact nd Y
 rintro i (hI':i≤g.Cells.size∧∀j,j<i→gOk g.Cells j)
 show VRun _ _ _ [(1,(T.op 0 0)),(27,(tN g.Cells.size)),(28,(tN i))] (QV [(0,(Obj.cells (Qd false g)))]) 1 _
 have hI1:=hI'.1
 refine sr (fO (Q5 (tv (tN i) Y) (tv (tN g.Cells.size) Y)) (nt (sq ?_)))
 refine cd (i<g.Cells.size) Y (fun fhc1=> ?_) fun fhc1=> ?_
 ·refine sk ?_
  refine tn (sq (VRun.block (sr (mO (tN i) Y (aO (tN i) Y (nt (sr (lf (tS g.Cells) Y QU Y Y YD (mO (tN i) Y ?_)))))))))
  have hb3:i<g.Cells.size:=(by omega)
  refine fO (xix (tv (tS g.Cells) Y) (tv (tN i) Y) hb3 U9) (fO (xne (tv (T.int .u8 (Qv g.Cells i)) Y) (VEv.int .u8 35)) (mO (tB (!(decide (Qv g.Cells i=35)))) Y ?_))
  refine gn (Qv g.Cells i=35) (fun fhg36_4=> ?_) fun fhg36_4=> ?_
  ·refine Yu (tS g.Cells) (ny fhg36_4) Y Y Y Y QU Y Y YD ?_
   refine gF (ny fhg36_4) Y Y (OF.move (tv (tN i) Y)) ?_
   have hb5:i<g.Cells.size:=(by omega)
   refine gF (ny fhg36_4) Y Y (xix (tv (tS g.Cells) Y) (tv (tN i) Y) hb5 U9) (gF (ny fhg36_4) Y Y (xne (tv (T.int .u8 (Qv g.Cells i)) Y) (VEv.int .u8 46)) (fO (OF.pickT (VEv.tmpB Y (ny fhg36_4)) (tv (tB (!(decide (Qv g.Cells i=46)))) Y)) (nt ?_)))
   refine cn (Qv g.Cells i=46) Y (fun fhc2=> ?_) fun fhc2=> ?_
   ·refine sr ?_
    refine fO (OF.assign (VEv.bool false)) (nt (rt (vinB.r (tr (tr (vinB.r (tr (vb (b':=false) Y ?_))))))))
    (symm;rw [decide_eq_false_iff_not];rintro ⟨g1,g2,g3,g4⟩;(have:=g4 i fhc1;unfold gOk at this;omega))
   refine sk (vinB.n (tn (VRun.region (fO (Qx (tv (tN i) Y) (VEv.int .i64 1) (by omega)) (mO (tN (i+1)) Y (VRunO.nil (tn ?_)))))))
   refine ⟨(i+1:Nat),?_,?_,Wk.mk (fun k=>k) ?_ ?_ ?_⟩
   ·refine ZJ hI' fhc1 ?_;unfold gOk;omega
   ·omega
   ·exact (b2 (b2 (b2 bn)))
   ·exact (b3 bn)
   ·exact nd Y
  refine QE 5 5 true 36 (nz fhg36_4) Y Y Y (fO (OF.pickF (VEv.tmpB Y (nz fhg36_4)) (VEv.bool false)) (nt (cf Y (sk (vinB.n (tn (VRun.region (fO (Qx (tv (tN i) Y) (VEv.int .i64 1) (by omega)) (mO (tN (i+1)) Y (VRunO.nil (tn ?_)))))))))))
  refine ⟨(i+1:Nat),?_,?_,Wk.mk (fun k=>k) ?_ ?_ ?_⟩
  ·refine ZJ hI' fhc1 ?_;unfold gOk;omega
  ·omega
  ·exact (b2 (b2 (b2 bn)))
  ·exact (b3 bn)
  ·exact nd Y
 refine VRun.exit (vthn.e (vthn.e (vinB.e (tn (sr (fO (OF.assign (VEv.bool true)) (nt (rt (vb (b':=true) Y ?_)))))))))
 (symm;rw [decide_eq_true_eq];refine ⟨?_,?_,?_,QaQ hI' fhc1⟩<;>assumption)
noncomputable section
def Z4 (s:ByteArray):Nat→ByteArray
 | 0=>⟨#[]⟩
 | i+1=>s.extract i (i+1)++Z4 s i
def back (s:ByteArray):ByteArray:=if s.size≤100 then Z4 s s.size else ⟨#[]⟩
theorem Qeg {s:ByteArray}:∀ {i:Nat},i≤s.size→(Z4 s i).size=i
 | 0,_=>rfl
 | i+1,h=>by
  simp only [Z4,ByteArray.size_append,ByteArray.size_extract,Qeg (show i≤s.size by omega)]
  omega
theorem Qir {s:ByteArray} {i:Nat} (h1:i≤s.size) (h2:s.size≤100∨i=0) (h3:¬i<s.size∨¬s.size≤100):Z4 s i=back s:=by
 unfold back
 split
 ·rw [show i=s.size by omega]
 ·rw [show i=0 by omega];rfl
def Js (g:D.Grid):D.Grid:=if gridOk g then D.Grid.mk g.Rows g.Cols (back g.Cells) else D.Grid.mk 0 0 ByteArray.empty
def QeH (g:D.Grid):Prop:=gridOk g∧D.Grid.mk g.Rows g.Cols (back g.Cells)=g
instance (g:D.Grid):Decidable (QeH g):=Classical.propDecidable _
theorem QdB {g:D.Grid} (h:gridOk g):Js g=g↔QeH g:=by
 unfold Js QeH
 rw [if_pos h]
 exact ⟨fun e=>⟨h,e⟩,fun e=>e.2⟩
end
theorem Qd2 (n:Nat) (s:ByteArray) (hc:s.size≤maxLen):Pure (Qs Tryz.prog (n+1)) 136 [(tS s)] (tS (back s)):=by
 refine Pure.intro (rs:= [ResultVar.tmp 2]) Tryz.func136 Y Y Y (E0:= [(0,(tS s))]) Y ?_
 obtain ⟨hlim,hmx,hmax⟩:=QA
 refine sr (fO (OF.assign (VEv.str (⟨#[]⟩:ByteArray))) (nt (sr (fO (OF.assign (VEv.str (⟨#[]⟩:ByteArray))) (nt (sq (sr (fO (OF.assign (VEv.int .i64 0)) (nt (VRun.block ?_))))))))))
 refine VRun.loop (A:=Nat) (fun s_=> [(0,(tS s)),(2,(tS (⟨#[]⟩:ByteArray))),(3,(tS (Z4 s s_))),(4,(tN s_))]) (fun s_=>QV []) 0 (fun s_=>s_≤s.size∧(s.size≤100∨s_=0)) (fun s_=>s.size - s_) (0:Nat) ?_ (Wk.mk (fun k=>k) ?_ ?_ ?_) ?_
 ·exact ⟨Nat.zero_le _, .inr Y⟩
 ·exact (b2 (b2 (bc ⟨(congrArg T.str (show (⟨#[]⟩:ByteArray)=Z4 s 0 from (by rfl))),rfl⟩ (b2 bn))))
 ·exact bn
 ·exact nd Y
 rintro i (hI':i≤s.size∧(s.size≤100∨i=0))
 show VRun _ _ _ [(0,(tS s)),(2,(tS (⟨#[]⟩:ByteArray))),(3,(tS (Z4 s i))),(4,(tN i))] (QV []) 0 _
 have hI1:=hI'.1
 have hbs:=Qeg hI1
 refine sq (sr (mO (tN i) Y (mO (tS s) Y (lO (B.lenS (tv (tS s) Y) U9) (fO (Q5 (tv (tN i) Y) (tv (tN s.size) Y)) (mO (tB (decide (i<s.size))) Y ?_))))))
 refine gw (i<s.size) (fun fhg9_1=> ?_) fun fhg9_1=> ?_
 ·refine gF (dy fhg9_1) Y Y (OF.move (tv (tS s) Y)) ?_
  refine gL (dy fhg9_1) Y Y (B.lenS (tv (tS s) Y) U9) (gF (dy fhg9_1) Y Y (B.leq (c:=(decide (s.size≤100))) (tv (tN s.size) Y) (VEv.int .i64 100) (by exact Q8 (by omega))) (fO (OF.pickT (VEv.tmpB Y (dy fhg9_1)) (tv (tB (decide (s.size≤100))) Y)) (nt ?_)))
  refine cd (s.size≤100) Y (fun fhc0=> ?_) fun fhc0=> ?_
  ·refine sk ?_
   refine tn (sq (VRun.block (VRun.region (mO (tS s) Y (mO (tN i) Y (mO (tN i) Y (fO (Qx (tv (tN i) Y) (VEv.int .i64 1) (by omega)) (lO (OL.sliceS (i:=i) (j:=(i+1)) (tv (tS s) Y) (tv (tN i) Y) (tv (tN (i+1)) Y) Y Y (by omega) (by omega) U9) (mO (tS (Z4 s i)) Y (fO (B.sadd (tv (tS (s.extract i (i+1))) Y) (tv (tS (Z4 s i)) Y) (by (simp only [ByteArray.size_extract];omega))) (aO (tS ((s.extract i (i+1))++Z4 s i)) Y ?_)))))))))))
   refine VRunO.nil (vinB.n (tn (VRun.region (mO (tN i) Y (fO (Qx (tv (tN i) Y) (VEv.int .i64 1) (by omega)) (aO (tN (i+1)) Y (VRunO.nil (tn ?_))))))))
   refine ⟨(i+1:Nat),?_,?_,Wk.mk (fun k=>k) ?_ ?_ ?_⟩
   ·exact ⟨by omega, .inl (by omega)⟩
   ·omega
   ·exact (b2 (b2 (bc ⟨(congrArg T.str (show ((s.extract i (i+1))++Z4 s i)=Z4 s (i+1) from (by rfl))),rfl⟩ (b2 bn))))
   ·exact bn
   ·exact nd Y
  refine VRun.exit (vthn.e (vthn.e (vinB.e (tn (sr (mO (tS (Z4 s i)) Y (aO (tS (Z4 s i)) Y (nt (rt ?_)))))))))
  refine vfin.eq (r':=(tS (Z4 s i))) ?_ (vfin.r (VRes.tmp (t:=(tS (Z4 s i))) Y VRes.nil) (Give.str _))
  refine congrArg T.str ?_
  refine Qir hI1 hI'.2 ?_;omega
 refine QE 3 4 true 9 (dz fhg9_1) Y Y Y (fO (OF.pickF (VEv.tmpB Y (dz fhg9_1)) (VEv.bool false)) (nt (cf Y (VRun.exit (vthn.e (vthn.e (vinB.e (tn (sr (mO (tS (Z4 s i)) Y (aO (tS (Z4 s i)) Y ?_)))))))))))
 refine nt (rt ?_)
 refine vfin.eq (r':=(tS (Z4 s i))) ?_ (vfin.r (VRes.tmp (t:=(tS (Z4 s i))) Y VRes.nil) (Give.str _))
 refine congrArg T.str ?_
 refine Qir hI1 hI'.2 ?_;omega
theorem Qev (n:Nat) (g:D.Grid) (hc:g.Cells.size≤maxLen):Pure (Qs Tryz.prog (n+3)) 126 [(T.agg (Qd false g))] (T.agg (Qd true (Js g))):=by
 refine Pure.intro (rs:= [ResultVar.cell 2 36]) Tryz.func126 Y Y Y (E0:= [(0,(T.agg (Qd false g)))]) Y ?_
 obtain ⟨hlim,hmx,hmax⟩:=QA
 refine sr (kO (B.box (ts:=(Qd false g)) (tv (T.agg (Qd false g)) Y) nofun Y) (kO (B.alloc (t:=(T.agg [(tN 0),(tN 0),(tS ByteArray.empty)])) (ts:= [(tN 0),(tN 0),(tS ByteArray.empty)]) Qkq Ql8 nofun (fun _=> .agg _ _ Y (Jm (RL.cons (.int _ _) (RL.cons (.int _ _) (RL.cons (.str _) (RL.nil _)))))) Y) (nt (sq (sr (lO (OL.loadOn (us:=(Qd false g)) (tv (T.op 0 0) Y) Y Q4 Q0 (lb Y) Y) (cO (cS (vc (tv (T.agg (Qd false g)) Y) vn) (LendL.cons (lg Qu) ln) (Yg (n+0) g (by assumption)) Y Y) (fO (Zd (tv (tB (decide (gridOk g))) Y)) (nt ?_)))))))))
 refine cn (gridOk g) Y (fun fhc0=> ?_) fun fhc0=> ?_
 ·refine sr ?_
  refine fO (OF.build (l:= []) (zs:= [(tN 0),(tN 0),(tS ByteArray.empty)]) (out:= [(tN 0),(tN 0),(tS ByteArray.empty)]) VEvp.nil bn Tryz.underlying36 Qkq (fun _=>RL.cons (.int _ _) (RL.cons (.int _ _) (RL.cons (.str _) (RL.nil _)))) (by kernel_rfl) (by kernel_rfl)) (cO (B.storeW (us:= [(tN 0),(tN 0),(tS ByteArray.empty)]) (tv (T.op 1 0) Y) (tv (T.agg [(tN 0),(tN 0),(tS ByteArray.empty)]) Y) nofun Y Y Y QiN Q0 (bc Y (bc Y (bc Y bn)))) (nt (rt (tr ?_))))
  refine vfin.eq (r':=(T.agg [(tN 0),(tN 0),(tS ByteArray.empty)])) ?_ (vfin.r (VRes.celln (ws:= [(tN 0),(tN 0),(tS ByteArray.empty)]) Y Y Q4 Q0 (lb Y) Y VRes.nil) (Give.agg (GiveL.cons (Give.int _ _) (GiveL.cons (Give.int _ _) (GiveL.cons (Give.str _) GiveL.nil (by decide)) (by decide)) (by decide))))
  (rw [Js,if_neg fhc0];rfl)
 refine sk (tn (sr (lf (tS g.Cells) Y QU Y Y YD (cO (cS (vc (tv (tS g.Cells) Y) vn) (Z8 Y) (Qd2 (n+1) g.Cells (by assumption)) Y Y) (fO (OF.fieldAddrO (tv (T.op 0 0) Y) QU) (cO (B.storeO (us:= [(tS (back g.Cells))]) (ws:= [(tI g.Rows),(tI g.Cols),(tS (back g.Cells))]) (tv (T.op 0 2) Y) (tv (tS (back g.Cells)) Y) nofun Y Y (lb Y) if9 sz9 (bc Y bn) Y) (nt (sr (lO (OL.loadOn (us:= [(tI g.Rows),(tI g.Cols),(tS (back g.Cells))]) (tv (T.op 0 0) Y) Y Q4 Q0 (lb Y) Y) (cO (B.storeW (us:= [(tI g.Rows),(tI g.Cols),(tS (back g.Cells))]) (tv (T.op 1 0) Y) (tv (T.agg [(tI g.Rows),(tI g.Cols),(tS (back g.Cells))]) Y) nofun Y Y Y QiN Q0 (bc Y (bc Y (bc Y bn)))) (nt ?_)))))))))))
 refine rt ?_
 refine vfin.eq (r':=(T.agg [(tI g.Rows),(tI g.Cols),(tS (back g.Cells))])) ?_ (vfin.r (VRes.celln (ws:= [(tI g.Rows),(tI g.Cols),(tS (back g.Cells))]) Y Y Q4 Q0 (lb Y) Y VRes.nil) (Give.agg (GiveL.cons (Give.int _ _) (GiveL.cons (Give.int _ _) (GiveL.cons (Give.str _) GiveL.nil (by decide)) (by decide)) (by decide))))
 (rw [Js,if_pos fhc0];rfl)
theorem QcK (n:Nat) (g:D.Grid) (hc:g.Cells.size≤maxLen):Pure (Qs Tryz.prog (n+4)) 115 [(T.agg (Qd false g))] (tB (decide (QeH g))):=by
 refine Pure.intro (rs:= [ResultVar.tmp 2]) Tryz.func115 Y Y Y (E0:= [(0,(T.agg (Qd false g)))]) Y ?_
 obtain ⟨hlim,hmx,hmax⟩:=QA
 refine sr (kO (B.box (ts:=(Qd false g)) (tv (T.agg (Qd false g)) Y) nofun Y) (fO (OF.assign (VEv.bool false)) (nt (sq (VRun.draw (B:= [[],[0],[0,1],[1,0,2],[2,0,1,3],[1,0,2],[5,3,1,0,2,4],[4,3,5,6,1,0,2],[2,0,1,6,5,3,4,7]]) (by kernel_rfl) (by kernel_rfl) Y (lD (OL.loadOn (us:=(Qd false g)) (tv (T.op 0 0) Y) Y Q4 Q0 (lb Y) Y) Y Y (VRunD.quiet (bi:= [0]) Y VWant.always Y Y Y bn (cS (vc (tv (T.agg (Qd false g)) Y) vn) (LendL.cons (lg Qu) ln) (Yg (n+1) g (by assumption)) Y Y) (mD (tB (decide (gridOk g))) Y Y ?_))))))))
 refine gw (gridOk g) (fun fhg5_1=> ?_) fun fhg5_1=> ?_
 ·refine VRunD.look Y (VWant.on Y Y (dy fhg5_1)) Y (OL.loadOn (us:=(Qd false g)) (tv (T.op 0 0) Y) Y Q4 Q0 (lb Y) Y) ?_
  refine VRunD.quiet (bi:= [2,0,1,3]) Y (VWant.on Y Y (dy fhg5_1)) Y Y Y bn (cS (vc (tv (T.agg (Qd false g)) Y) vn) (LendL.cons (lg Qu) ln) (Qev (n+0) g (by assumption)) Y Y) (VRunD.look Y (VWant.on Y Y (dy fhg5_1)) Y (OL.loadOn (us:=(Qd false g)) (tv (T.op 0 0) Y) Y Q4 Q0 (lb Y) Y) (VRunD.free Y (VWant.on Y Y (dy fhg5_1)) Y (B.eql36 (a:=Js g) (b:=g) (m:=true) (m':=false) (tv (T.agg (Qd true (Js g))) Y) (tv (T.agg (Qd false g)) Y)) (fD (OF.pickT (VEv.tmpB Y (dy fhg5_1)) (tv (tB (decide (Js g=g))) Y)) Y Y (fD (OF.assign (tv (tB (decide (Js g=g))) Y)) Y Y (VRunD.nil (tn (rt (vb (b':=(decide (Js g=g))) Y ?_))))))))
  (refine Q8 ?_;refine QdB ?_;assumption)
 refine oD Y Y (dz fhg5_1) Y (oD Y Y (dz fhg5_1) Y (oD Y Y (dz fhg5_1) Y (oD Y Y (dz fhg5_1) Y (fD (OF.pickF (VEv.tmpB Y (dz fhg5_1)) (VEv.bool false)) Y Y (fD (OF.assign (tv (tB false) Y)) Y Y (VRunD.nil (tn (rt (vb (b':=false) Y ?_)))))))))
 (symm;rw [decide_eq_false_iff_not];intro h;have:=h.1;contradiction)
noncomputable section
theorem J1 (l:List Int):(YQ l).data.toList=l.map fun n=>UInt8.ofNat n.toNat:=by
 have h:∀(l:List Int) (r:ByteArray),(l.foldl (fun r n=>r.push (UInt8.ofNat n.toNat)) r).data.toList=r.data.toList++l.map fun n=>UInt8.ofNat n.toNat:=by
  intro l
  induction l with
  | nil=>intro r;simp
  | cons n l ih=>intro r;rw [List.foldl_cons,ih];simp [ByteArray.push]
 simpa [YQ] using h l ByteArray.empty
theorem QgI {a b:ByteArray} (h:a.data.toList=b.data.toList):a=b:=by
 cases a;cases b
 simp only at h
 congr 1
 exact Array.toList_inj.1 h
theorem QlK (s:ByteArray):(Yd s).map (fun n=>UInt8.ofNat n.toNat)=s.data.toList:=by
 simp [Yd,Function.comp_def]
theorem Qeb {s:ByteArray}:∀ {i:Nat},i≤s.size→(Z4 s i).data.toList=(s.data.toList.take i).reverse
 | 0,_=>rfl
 | i+1,h=>by
  have hi:i<s.data.toList.length:=by rw [Array.length_toList];exact h
  rw [Z4,ByteArray.data_append,Array.toList_append,Qeb (show i≤s.size by omega),List.take_add_one,List.getElem?_eq_getElem hi,List.reverse_append]
  congr 1
  rw [ByteArray.data_extract,Array.toList_extract,List.extract_eq_take_drop]
  simp [List.drop_eq_getElem_cons hi]
theorem QlS {s:ByteArray} (h:s.size≤100):YQ (Yd s).reverse=back s:=by
 unfold back
 rw [if_pos h]
 refine QgI ?_
 rw [J1,List.map_reverse,QlK,Qeb (Nat.le_refl _),List.take_of_length_le (by rw [Array.length_toList];exact Nat.le_refl _)]
theorem Qlk {s:ByteArray} (h:100<s.size):back s=⟨#[]⟩:=by
 unfold back
 rw [if_neg (by omega)]
end
theorem QdA (n:Nat) (s:ByteArray) (hc:s.size≤maxLen):Pure (Qs Tryz.prog (n+2)) 140 [(tS s)] (tS (back s)):=by
 refine Pure.intro (rs:= [ResultVar.tmp 2]) Tryz.func140 Y Y Y (E0:= [(0,(tS s))]) Y ?_
 obtain ⟨hlim,hmx,hmax⟩:=QA
 refine sr (fO (OF.assign (VEv.str (⟨#[]⟩:ByteArray))) (nt (sq (sr (mO (tS s) Y (lO (B.lenS (tv (tS s) Y) U9) (fO (B.gtr (c:=(decide (100<s.size))) (tv (tN s.size) Y) (VEv.int .i64 100) (by exact Q8 (by omega))) (nt ?_))))))))
 refine cd (100<s.size) Y (fun fhc0=> ?_) fun fhc0=> ?_
 ·refine sr ?_
  refine fO (OF.assign (VEv.str (⟨#[]⟩:ByteArray))) (nt (rt (tr ?_)))
  refine vfin.eq (r':=(tS (⟨#[]⟩:ByteArray))) ?_ (vfin.r (VRes.tmp (t:=(tS (⟨#[]⟩:ByteArray))) Y VRes.nil) (Give.str _))
  refine congrArg T.str ?_
  exact (Qlk fhc0).symm
 refine sk (tn (sr (mO (tS s) Y (kO (B.convSB (tv (tS s) Y) U9 U76 U5) (aO (T.os 1 0 0 (((Yd s).map (QX true)).length)) Y (nt (sr (mO (T.os 1 0 0 (((Yd s).map (QX true)).length)) Y (cO (OC.callMut (rows:=((Yd s).map (QX true))) (rows':=(((Yd s).reverse).map (QX true))) Y (vc (tv (T.os 1 0 0 (((Yd s).map (QX true)).length)) Y) vn) Y Y bn (QL (fun _=>rfl) _) (QL (fun _=>rfl) _) (JX (n+0) (Yd s) (by (rw [Qcl];omega)))) (nt (sr ?_)))))))))))
 refine mO (T.os 1 0 0 (((Yd s).map (QX true)).length)) Y (lO (B.convBS (l:=(Yd s).reverse) (tv (T.os 1 0 0 (((Yd s).map (QX true)).length)) Y) Y (by simp only [List.length_map,List.length_reverse,List.length_set]) U76 U5 U9) (aO (tS (YQ ((Yd s).reverse))) Y (nt (rt ?_))))
 refine vfin.eq (r':=(tS (YQ ((Yd s).reverse)))) ?_ (vfin.r (VRes.tmp (t:=(tS (YQ ((Yd s).reverse)))) Y VRes.nil) (Give.str _))
 refine congrArg T.str ?_
 refine QlS ?_;omega
theorem QeA (n:Nat) (g:D.Grid) (hc:g.Cells.size≤maxLen):Pure (Qs Tryz.prog (n+3)) 131 [(T.agg (Qd false g))] (T.agg (Qd true (Js g))):=by
 refine Pure.intro (rs:= [ResultVar.cell 2 36]) Tryz.func131 Y Y Y (E0:= [(0,(T.agg (Qd false g)))]) Y ?_
 obtain ⟨hlim,hmx,hmax⟩:=QA
 refine sr (kO (B.box (ts:=(Qd false g)) (tv (T.agg (Qd false g)) Y) nofun Y) (kO (B.alloc (t:=(T.agg [(tN 0),(tN 0),(tS ByteArray.empty)])) (ts:= [(tN 0),(tN 0),(tS ByteArray.empty)]) Qkq Ql8 nofun (fun _=> .agg _ _ Y (Jm (RL.cons (.int _ _) (RL.cons (.int _ _) (RL.cons (.str _) (RL.nil _)))))) Y) (nt (sq (sr (lO (OL.loadOn (us:=(Qd false g)) (tv (T.op 0 0) Y) Y Q4 Q0 (lb Y) Y) (cO (cS (vc (tv (T.agg (Qd false g)) Y) vn) (LendL.cons (lg Qu) ln) (Yt (n+0) g (by assumption)) Y Y) (fO (Zd (tv (tB (decide (gridOk g))) Y)) (nt ?_)))))))))
 refine cn (gridOk g) Y (fun fhc0=> ?_) fun fhc0=> ?_
 ·refine sr ?_
  refine fO (OF.build (l:= []) (zs:= [(tN 0),(tN 0),(tS ByteArray.empty)]) (out:= [(tN 0),(tN 0),(tS ByteArray.empty)]) VEvp.nil bn Tryz.underlying36 Qkq (fun _=>RL.cons (.int _ _) (RL.cons (.int _ _) (RL.cons (.str _) (RL.nil _)))) (by kernel_rfl) (by kernel_rfl)) (cO (B.storeW (us:= [(tN 0),(tN 0),(tS ByteArray.empty)]) (tv (T.op 1 0) Y) (tv (T.agg [(tN 0),(tN 0),(tS ByteArray.empty)]) Y) nofun Y Y Y QiN Q0 (bc Y (bc Y (bc Y bn)))) (nt (rt (tr ?_))))
  refine vfin.eq (r':=(T.agg [(tN 0),(tN 0),(tS ByteArray.empty)])) ?_ (vfin.r (VRes.celln (ws:= [(tN 0),(tN 0),(tS ByteArray.empty)]) Y Y Q4 Q0 (lb Y) Y VRes.nil) (Give.agg (GiveL.cons (Give.int _ _) (GiveL.cons (Give.int _ _) (GiveL.cons (Give.str _) GiveL.nil (by decide)) (by decide)) (by decide))))
  (rw [Js,if_neg fhc0];rfl)
 refine sk (tn (sr (lf (tS g.Cells) Y QU Y Y YD (cO (cS (vc (tv (tS g.Cells) Y) vn) (Z8 Y) (QdA (n+0) g.Cells (by assumption)) Y Y) (fO (OF.fieldAddrO (tv (T.op 0 0) Y) QU) (cO (B.storeO (us:= [(tS (back g.Cells))]) (ws:= [(tI g.Rows),(tI g.Cols),(tS (back g.Cells))]) (tv (T.op 0 2) Y) (tv (tS (back g.Cells)) Y) nofun Y Y (lb Y) if9 sz9 (bc Y bn) Y) (nt (sr (lO (OL.loadOn (us:= [(tI g.Rows),(tI g.Cols),(tS (back g.Cells))]) (tv (T.op 0 0) Y) Y Q4 Q0 (lb Y) Y) (cO (B.storeW (us:= [(tI g.Rows),(tI g.Cols),(tS (back g.Cells))]) (tv (T.op 1 0) Y) (tv (T.agg [(tI g.Rows),(tI g.Cols),(tS (back g.Cells))]) Y) nofun Y Y Y QiN Q0 (bc Y (bc Y (bc Y bn)))) (nt ?_)))))))))))
 refine rt ?_
 refine vfin.eq (r':=(T.agg [(tI g.Rows),(tI g.Cols),(tS (back g.Cells))])) ?_ (vfin.r (VRes.celln (ws:= [(tI g.Rows),(tI g.Cols),(tS (back g.Cells))]) Y Y Q4 Q0 (lb Y) Y VRes.nil) (Give.agg (GiveL.cons (Give.int _ _) (GiveL.cons (Give.int _ _) (GiveL.cons (Give.str _) GiveL.nil (by decide)) (by decide)) (by decide))))
 (rw [Js,if_pos fhc0];rfl)
theorem QcJ (n:Nat) (g:D.Grid) (hc:g.Cells.size≤maxLen):Pure (Qs Tryz.prog (n+4)) 119 [(T.agg (Qd false g))] (tB (decide (QeH g))):=by
 refine Pure.intro (rs:= [ResultVar.tmp 2]) Tryz.func119 Y Y Y (E0:= [(0,(T.agg (Qd false g)))]) Y ?_
 obtain ⟨hlim,hmx,hmax⟩:=QA
 refine sr (kO (B.box (ts:=(Qd false g)) (tv (T.agg (Qd false g)) Y) nofun Y) (fO (OF.assign (VEv.bool false)) (nt (sq (VRun.draw (B:= [[],[0],[0,1],[1,0,2],[1,0,2],[2,0,1,4],[4,5,2,0,1,3],[3,5,4,6,1,0,2],[2,0,1,6,4,5,3,7]]) (by kernel_rfl) (by kernel_rfl) Y (lD (OL.loadOn (us:=(Qd false g)) (tv (T.op 0 0) Y) Y Q4 Q0 (lb Y) Y) Y Y (VRunD.quiet (bi:= [0]) Y VWant.always Y Y Y bn (cS (vc (tv (T.agg (Qd false g)) Y) vn) (LendL.cons (lg Qu) ln) (Yt (n+1) g (by assumption)) Y Y) (mD (tB (decide (gridOk g))) Y Y ?_))))))))
 refine gw (gridOk g) (fun fhg5_1=> ?_) fun fhg5_1=> ?_
 ·refine VRunD.look Y (VWant.on Y Y (dy fhg5_1)) Y (OL.loadOn (us:=(Qd false g)) (tv (T.op 0 0) Y) Y Q4 Q0 (lb Y) Y) ?_
  refine VRunD.look Y (VWant.on Y Y (dy fhg5_1)) Y (OL.loadOn (us:=(Qd false g)) (tv (T.op 0 0) Y) Y Q4 Q0 (lb Y) Y) (VRunD.quiet (bi:= [2,0,1,4]) Y (VWant.on Y Y (dy fhg5_1)) Y Y Y bn (cS (vc (tv (T.agg (Qd false g)) Y) vn) (LendL.cons (lg Qu) ln) (QeA (n+0) g (by assumption)) Y Y) (VRunD.free Y (VWant.on Y Y (dy fhg5_1)) Y (B.eql36 (a:=g) (b:=Js g) (m:=false) (m':=true) (tv (T.agg (Qd false g)) Y) (tv (T.agg (Qd true (Js g))) Y)) (fD (OF.pickT (VEv.tmpB Y (dy fhg5_1)) (tv (tB (decide (g=Js g))) Y)) Y Y (fD (OF.assign (tv (tB (decide (g=Js g))) Y)) Y Y (VRunD.nil (tn (rt (vb (b':=(decide (g=Js g))) Y ?_))))))))
  (refine Q8 ⟨fun e=> ?_,fun e=> ?_⟩<;>first | exact (QdB ‹_›).1 e.symm | exact ((QdB ‹_›).2 e).symm)
 refine oD Y Y (dz fhg5_1) Y (oD Y Y (dz fhg5_1) Y (oD Y Y (dz fhg5_1) Y (oD Y Y (dz fhg5_1) Y (fD (OF.pickF (VEv.tmpB Y (dz fhg5_1)) (VEv.bool false)) Y Y (fD (OF.assign (tv (tB false) Y)) Y Y (VRunD.nil (tn (rt (vb (b':=false) Y ?_)))))))))
 (symm;rw [decide_eq_false_iff_not];intro h;have:=h.1;contradiction)
noncomputable section
def JM (c f:Int):Prop:=(c=35→f=35)∧(c=46→f=63∨(97≤f∧f≤122))
def QN (g:D.Grid) (f:ByteArray):Prop:=gridOk g∧f.size=g.Cells.size∧∀j,j<f.size→JM (Qv g.Cells j) (Qv f j)
instance (g:D.Grid) (f:ByteArray):Decidable (QN g f):=Classical.propDecidable _
theorem Qk2 (p q:Prop) [Decidable p] [Decidable q]:(!(decide p == decide q))=decide (¬(p↔q)):=by
 by_cases hp:p<;>by_cases hq:q<;>simp [hp,hq]
end
theorem JG (n:Nat) (g:D.Grid) (f:ByteArray) (hc:g.Cells.size≤maxLen) (hf:f.size≤maxLen):Pure (Qs Tryz.prog (n+3)) 55 [(T.agg (Qd false g)),(tS f)] (tB (decide (QN g f))):=by
 refine Pure.intro (rs:= [ResultVar.tmp 4]) Tryz.func55 Y Y Y (E0:= [(0,(T.agg (Qd false g))),(1,(tS f))]) Y ?_
 obtain ⟨hlim,hmx,hmax⟩:=QA
 refine sr (kO (B.box (ts:=(Qd false g)) (tv (T.agg (Qd false g)) Y) nofun Y) (fO (OF.assign (VEv.bool false)) (nt (sq (sr (lO (OL.loadOn (us:=(Qd false g)) (tv (T.op 0 0) Y) Y Q4 Q0 (lb Y) Y) (cO (cS (vc (tv (T.agg (Qd false g)) Y) vn) (LendL.cons (lg Qu) ln) (Yg (n+0) g (by assumption)) Y Y) (fO (Zd (tv (tB (decide (gridOk g))) Y)) (mO (tB (!(decide (gridOk g)))) Y ?_)))))))))
 refine VRunO.joinB 7 [11,12,13,14,15,16] 17 (tB (decide ((¬(gridOk g))∨(¬(f.size=g.Cells.size))))) ?_ ?_
 ·refine gn (gridOk g) (fun fhg10_1=> ?_) fun fhg10_1=> ?_
  ·refine QE 6 3 false 10 (ny fhg10_1) Y Y Y ?_
   refine fO (OF.pickT (VEv.tmpB Y (ny fhg10_1)) (VEv.bool true)) (VRunO.nil ?_)
   exact jq (congrArg T.bool (kOT fhg10_1)) (js Y (js Y (js Y (js Y (js Y (js Y (jn)))))))
  ·refine gF (nz fhg10_1) Y Y (OF.move (tv (tS f) Y)) ?_
   refine gL (nz fhg10_1) Y Y (B.lenS (tv (tS f) Y) U9) (Yu (tS g.Cells) (nz fhg10_1) Y Y Y Y QU Y Y YD (gL (nz fhg10_1) Y Y (B.lenS (tv (tS g.Cells) Y) U9) (gF (nz fhg10_1) Y Y (QeX (tv (tN f.size) Y) (tv (tN g.Cells.size) Y)) (fO (OF.pickF (VEv.tmpB Y (nz fhg10_1)) (tv (tB (!(decide (f.size=g.Cells.size)))) Y)) (VRunO.nil ?_)))))
   exact jq (congrArg T.bool (kOF (not_not_intro fhg10_1) dN)) (js Y (js Y (js Y (js Y (js Y (js Y (jn)))))))
 refine nt ?_
 refine cd ((¬(gridOk g))∨(¬(f.size=g.Cells.size))) Y (fun fhc0=> ?_) fun fhc0=> ?_
 ·refine sr ?_
  refine fO (OF.assign (VEv.bool false)) (nt (rt (tr (vb (b':=false) Y ?_))))
  symm;rw [decide_eq_false_iff_not];rintro ⟨g1,g2,g3⟩;rcases fhc0 with h | h;exact h g1;exact h g2
 refine sk (tn (sq (sr (fO (OF.assign (VEv.int .i64 0)) (nt (VRun.block ?_))))))
 refine VRun.loop (A:=Nat) (fun s_=> [(1,(tS f)),(2,(T.op 0 0)),(5,(tN s_))]) (fun s_=>QV [(0,(Obj.cells (Qd false g)))]) 1 (fun s_=>s_≤f.size∧∀j,j<s_→JM (Qv g.Cells j) (Qv f j)) (fun s_=>f.size - s_) (0:Nat) ?_ (Wk.mk (fun k=>k) ?_ ?_ ?_) ?_
 ·exact ⟨Nat.zero_le _,fun j hj=>by omega⟩
 ·exact (b2 (b2 (b2 bn)))
 ·exact (b3 bn)
 ·exact nd Y
 rintro i (hI':i≤f.size∧∀j,j<i→JM (Qv g.Cells j) (Qv f j))
 show VRun _ _ _ [(1,(tS f)),(2,(T.op 0 0)),(5,(tN i))] (QV [(0,(Obj.cells (Qd false g)))]) 1 _
 have hI1:=hI'.1
 have hgo:gridOk g:=Classical.not_not.1 fun h=>fhc0 (.inl h)
 refine sq (sr (mO (tN i) Y (mO (tS f) Y (lO (B.lenS (tv (tS f) Y) U9) (fO (Q5 (tv (tN i) Y) (tv (tN f.size) Y)) (nt ?_))))))
 refine cd (i<f.size) Y (fun fhc1=> ?_) fun fhc1=> ?_
 ·have hgi:=hgo.2.2.2 i (by omega)
  unfold gOk at hgi
  refine sk (tn (sq (VRun.block (sr (mO (tS f) Y (mO (tN i) Y ?_))))))
  have hb2:i<f.size:=(by omega)
  refine fO (xix (tv (tS f) Y) (tv (tN i) Y) hb2 U9) (fO (J6 (tv (T.int .u8 (Qv f i)) Y) (VEv.int .u8 63)) (mO (tB (decide (Qv f i=63))) Y ?_))
  refine VRunO.joinB 11 [29,30,31,32,33,34,35,36,37,38] 39 (tB (decide ((Qv f i=63)∨((97≤Qv f i)∧(Qv f i≤122))))) ?_ ?_
  ·refine gw (Qv f i=63) (fun fhg28_3=> ?_) fun fhg28_3=> ?_
   ·refine QE 5 4 false 28 (dy fhg28_3) Y Y Y ?_
    refine Qbv 4 9 true 33 Y Y Y (oO Y Y (dy fhg28_3) (fO (OF.pickT (VEv.tmpB Y (dy fhg28_3)) (VEv.bool true)) (VRunO.nil ?_)))
    exact jq (congrArg T.bool (kOT fhg28_3)) (js Y (js Y (js Y (js Y (js Y (js Y (js Y (js Y (js Y (js Y (jn)))))))))))
   ·refine gF (dz fhg28_3) Y Y (OF.move (tv (tS f) Y)) ?_
    refine gF (dz fhg28_3) Y Y (OF.move (tv (tN i) Y)) ?_
    have hb4:i<f.size:=(by omega)
    refine gF (dz fhg28_3) Y Y (xix (tv (tS f) Y) (tv (tN i) Y) hb4 U9) (gF (dz fhg28_3) Y Y (xge (tv (T.int .u8 (Qv f i)) Y) (VEv.int .u8 97)) (gF (dz fhg28_3) Y Y (OF.move (tv (tB (decide (97≤Qv f i))) Y)) ?_))
    refine VRunO.joinB 5 [34,35,36,37] 38 (tB (decide ((97≤Qv f i)∧(Qv f i≤122)))) ?_ ?_
    ·refine gw (97≤Qv f i) (fun fhg33_5=> ?_) fun fhg33_5=> ?_
     ·refine gF (dy fhg33_5) Y Y (OF.move (tv (tS f) Y)) ?_
      refine gF (dy fhg33_5) Y Y (OF.move (tv (tN i) Y)) ?_
      have hb6:i<f.size:=(by omega)
      refine gF (dy fhg33_5) Y Y (xix (tv (tS f) Y) (tv (tN i) Y) hb6 U9) (gF (dy fhg33_5) Y Y (xle (tv (T.int .u8 (Qv f i)) Y) (VEv.int .u8 122)) (gF (dz fhg28_3) Y Y (OF.pickT (VEv.tmpB Y (dy fhg33_5)) (tv (tB (decide (Qv f i≤122))) Y)) (VRunO.nil ?_)))
      exact jq (congrArg T.bool (kAT fhg33_5 Y)) (js Y (js Y (js Y (js Y (jn)))))
     ·refine QE 4 9 true 33 (dz fhg33_5) Y Y Y ?_
      refine gF (dz fhg28_3) Y Y (OF.pickF (VEv.tmpB Y (dz fhg33_5)) (VEv.bool false)) (VRunO.nil ?_)
      exact jq (congrArg T.bool (kAF fhg33_5)) (js Y (js Y (js Y (js Y (jn)))))
    refine fO (OF.pickF (VEv.tmpB Y (dz fhg28_3)) (tv (tB (decide ((97≤Qv f i)∧(Qv f i≤122)))) Y)) (VRunO.nil ?_)
    exact jq (congrArg T.bool (kOF fhg28_3 Y)) (js Y (js Y (js Y (js Y (js Y (js Y (js Y (js Y (js Y (js Y (jn)))))))))))
  refine aO (tB (decide ((Qv f i=63)∨((97≤Qv f i)∧(Qv f i≤122))))) Y (nt (sr (lf (tS g.Cells) Y QU Y Y YD (mO (tN i) Y ?_))))
  have hb7:i<g.Cells.size:=(by omega)
  refine fO (xix (tv (tS g.Cells) Y) (tv (tN i) Y) hb7 U9) (fO (J6 (tv (T.int .u8 (Qv g.Cells i)) Y) (VEv.int .u8 35)) (mO (tB (decide (Qv g.Cells i=35))) Y ?_))
  refine VRunO.joinB 5 [46,47,48,49] 50 (tB (decide ((Qv g.Cells i=35)∧(¬(Qv f i=35))))) ?_ ?_
  ·refine gw (Qv g.Cells i=35) (fun fhg45_8=> ?_) fun fhg45_8=> ?_
   ·refine gF (dy fhg45_8) Y Y (OF.move (tv (tS f) Y)) ?_
    refine gF (dy fhg45_8) Y Y (OF.move (tv (tN i) Y)) ?_
    have hb9:i<f.size:=(by omega)
    refine gF (dy fhg45_8) Y Y (xix (tv (tS f) Y) (tv (tN i) Y) hb9 U9) (gF (dy fhg45_8) Y Y (xne (tv (T.int .u8 (Qv f i)) Y) (VEv.int .u8 35)) (fO (OF.pickT (VEv.tmpB Y (dy fhg45_8)) (tv (tB (!(decide (Qv f i=35)))) Y)) (VRunO.nil ?_)))
    exact jq (congrArg T.bool (kAT fhg45_8 dN)) (js Y (js Y (js Y (js Y (jn)))))
   ·refine QE 4 5 true 45 (dz fhg45_8) Y Y Y ?_
    refine fO (OF.pickF (VEv.tmpB Y (dz fhg45_8)) (VEv.bool false)) (VRunO.nil ?_)
    exact jq (congrArg T.bool (kAF fhg45_8)) (js Y (js Y (js Y (js Y (jn)))))
  refine mO (tB (decide ((Qv g.Cells i=35)∧(¬(Qv f i=35))))) Y ?_
  refine VRunO.joinB 10 [52,53,54,55,56,57,58,59,60] 61 (tB (decide (((Qv g.Cells i=35)∧(¬(Qv f i=35)))∨((Qv g.Cells i=46)∧(¬((Qv f i=63)∨((97≤Qv f i)∧(Qv f i≤122)))))))) ?_ ?_
  ·refine gw ((Qv g.Cells i=35)∧(¬(Qv f i=35))) (fun fhg51_10=> ?_) fun fhg51_10=> ?_
   ·refine QE 6 11 false 51 (dy fhg51_10) Y Y Y ?_
    refine Qbv 2 17 true 57 Y Y Y (oO Y Y (dy fhg51_10) (fO (OF.pickT (VEv.tmpB Y (dy fhg51_10)) (VEv.bool true)) (VRunO.nil ?_)))
    exact jq (congrArg T.bool (kOT fhg51_10)) (js Y (js Y (js Y (js Y (js Y (js Y (js Y (js Y (js Y (jn))))))))))
   ·refine Yu (tS g.Cells) (dz fhg51_10) Y Y Y Y QU Y Y YD ?_
    refine gF (dz fhg51_10) Y Y (OF.move (tv (tN i) Y)) ?_
    have hb11:i<g.Cells.size:=(by omega)
    refine gF (dz fhg51_10) Y Y (xix (tv (tS g.Cells) Y) (tv (tN i) Y) hb11 U9) (gF (dz fhg51_10) Y Y (J6 (tv (T.int .u8 (Qv g.Cells i)) Y) (VEv.int .u8 46)) (gF (dz fhg51_10) Y Y (OF.move (tv (tB (decide (Qv g.Cells i=46))) Y)) ?_))
    refine VRunO.joinB 3 [58,59] 60 (tB (decide ((Qv g.Cells i=46)∧(¬((Qv f i=63)∨((97≤Qv f i)∧(Qv f i≤122))))))) ?_ ?_
    ·refine gw (Qv g.Cells i=46) (fun fhg57_12=> ?_) fun fhg57_12=> ?_
     ·refine gF (dy fhg57_12) Y Y (OF.move (tv (tB (decide ((Qv f i=63)∨((97≤Qv f i)∧(Qv f i≤122))))) Y)) ?_
      refine gF (dy fhg57_12) Y Y (Zd (tv (tB (decide ((Qv f i=63)∨((97≤Qv f i)∧(Qv f i≤122))))) Y)) (gF (dz fhg51_10) Y Y (OF.pickT (VEv.tmpB Y (dy fhg57_12)) (tv (tB (!(decide ((Qv f i=63)∨((97≤Qv f i)∧(Qv f i≤122)))))) Y)) (VRunO.nil ?_))
      exact jq (congrArg T.bool (kAT fhg57_12 dN)) (js Y (js Y (jn)))
     ·refine QE 2 17 true 57 (dz fhg57_12) Y Y Y ?_
      refine gF (dz fhg51_10) Y Y (OF.pickF (VEv.tmpB Y (dz fhg57_12)) (VEv.bool false)) (VRunO.nil ?_)
      exact jq (congrArg T.bool (kAF fhg57_12)) (js Y (js Y (jn)))
    refine fO (OF.pickF (VEv.tmpB Y (dz fhg51_10)) (tv (tB (decide ((Qv g.Cells i=46)∧(¬((Qv f i=63)∨((97≤Qv f i)∧(Qv f i≤122))))))) Y)) (VRunO.nil ?_)
    exact jq (congrArg T.bool (kOF fhg51_10 Y)) (js Y (js Y (js Y (js Y (js Y (js Y (js Y (js Y (js Y (jn))))))))))
  refine nt ?_
  refine cd (((Qv g.Cells i=35)∧(¬(Qv f i=35)))∨((Qv g.Cells i=46)∧(¬((Qv f i=63)∨((97≤Qv f i)∧(Qv f i≤122)))))) Y (fun fhc2=> ?_) fun fhc2=> ?_
  ·refine sr ?_
   refine fO (OF.assign (VEv.bool false)) (nt (rt (vinB.r (tr (tr (vinB.r (tr (vb (b':=false) Y ?_))))))))
   symm;rw [decide_eq_false_iff_not];rintro ⟨g1,g2,g3⟩;have g4:=g3 i fhc1;unfold JM at g4;omega
  refine sk (vinB.n (tn (VRun.region (mO (tN i) Y (fO (Qx (tv (tN i) Y) (VEv.int .i64 1) (by omega)) (aO (tN (i+1)) Y (VRunO.nil (tn ?_))))))))
  refine ⟨(i+1:Nat),?_,?_,Wk.mk (fun k=>k) ?_ ?_ ?_⟩
  ·refine ZJ hI' fhc1 ?_;unfold JM;omega
  ·omega
  ·exact (b2 (b2 (b2 bn)))
  ·exact (b3 bn)
  ·exact nd Y
 refine VRun.exit (vthn.e (vthn.e (vinB.e (tn (sr (fO (OF.assign (VEv.bool true)) (nt (rt (vb (b':=true) Y ?_)))))))))
 symm;rw [decide_eq_true_eq];exact ⟨hgo,Classical.not_not.1 fun h=>fhc0 (.inr h),QaQ hI' fhc1⟩
theorem QaP (n:Nat) (g:D.Grid) (f:ByteArray) (hc:g.Cells.size≤maxLen) (hf:f.size≤maxLen):Pure (Qs Tryz.prog (n+3)) 60 [(T.agg (Qd false g)),(tS f)] (tB (decide (QN g f))):=by
 refine Pure.intro (rs:= [ResultVar.tmp 4]) Tryz.func60 Y Y Y (E0:= [(0,(T.agg (Qd false g))),(1,(tS f))]) Y ?_
 obtain ⟨hlim,hmx,hmax⟩:=QA
 refine sr (kO (B.box (ts:=(Qd false g)) (tv (T.agg (Qd false g)) Y) nofun Y) (fO (OF.assign (VEv.bool false)) (nt (sq (sr (lO (OL.loadOn (us:=(Qd false g)) (tv (T.op 0 0) Y) Y Q4 Q0 (lb Y) Y) (cO (cS (vc (tv (T.agg (Qd false g)) Y) vn) (LendL.cons (lg Qu) ln) (Yt (n+0) g (by assumption)) Y Y) (fO (Zd (tv (tB (decide (gridOk g))) Y)) (mO (tB (!(decide (gridOk g)))) Y ?_)))))))))
 refine gn (gridOk g) (fun fhg9_1=> ?_) fun fhg9_1=> ?_
 ·refine QE 6 3 false 9 (ny fhg9_1) Y Y Y ?_
  refine fO (OF.pickT (VEv.tmpB Y (ny fhg9_1)) (VEv.bool true)) (nt (ct Y (sr (fO (OF.assign (VEv.bool false)) (nt (rt (tr (vb (b':=false) Y ?_))))))))
  (symm;rw [decide_eq_false_iff_not];rintro ⟨g1,g2,g3⟩;contradiction)
 refine gF (nz fhg9_1) Y Y (OF.move (tv (tS f) Y)) (gL (nz fhg9_1) Y Y (B.lenS (tv (tS f) Y) U9) (Yu (tS g.Cells) (nz fhg9_1) Y Y Y Y QU Y Y YD (gL (nz fhg9_1) Y Y (B.lenS (tv (tS g.Cells) Y) U9) (gF (nz fhg9_1) Y Y (QeX (tv (tN f.size) Y) (tv (tN g.Cells.size) Y)) (fO (OF.pickF (VEv.tmpB Y (nz fhg9_1)) (tv (tB (!(decide (f.size=g.Cells.size)))) Y)) (nt ?_))))))
 refine cn (f.size=g.Cells.size) Y (fun fhc0=> ?_) fun fhc0=> ?_
 ·refine sr ?_
  refine fO (OF.assign (VEv.bool false)) (nt (rt (tr (vb (b':=false) Y ?_))))
  (symm;rw [decide_eq_false_iff_not];rintro ⟨g1,g2,g3⟩;contradiction)
 refine sk (tn (sq (sr (mO (tS f) Y (lO (B.lenS (tv (tS f) Y) U9) (fO (OF.move (VEv.int .i64 0)) (nt (VRun.block ?_))))))))
 refine VRun.loop (A:=Nat) (fun s_=> [(1,(tS f)),(2,(T.op 0 0)),(18,(tN f.size)),(19,(tN s_))]) (fun s_=>QV [(0,(Obj.cells (Qd false g)))]) 1 (fun s_=>s_≤f.size∧∀j,j<s_→JM (Qv g.Cells j) (Qv f j)) (fun s_=>f.size - s_) (0:Nat) ?_ (Wk.mk (fun k=>k) ?_ ?_ ?_) ?_
 ·exact ⟨Nat.zero_le _,fun j hj=>by omega⟩
 ·exact (b2 (b2 (b2 (b2 bn))))
 ·exact (b3 bn)
 ·exact nd Y
 rintro i (hI':i≤f.size∧∀j,j<i→JM (Qv g.Cells j) (Qv f j))
 show VRun _ _ _ [(1,(tS f)),(2,(T.op 0 0)),(18,(tN f.size)),(19,(tN i))] (QV [(0,(Obj.cells (Qd false g)))]) 1 _
 have hI1:=hI'.1
 have hgo:gridOk g:=by assumption
 refine sr (fO (Q5 (tv (tN i) Y) (tv (tN f.size) Y)) (nt (sq ?_)))
 refine cd (i<f.size) Y (fun fhc1=> ?_) fun fhc1=> ?_
 ·have hgi:=hgo.2.2.2 i (by omega)
  unfold gOk at hgi
  refine sk (tn (sq (VRun.block (sr (mO (tN i) Y (aO (tN i) Y (nt (sq (VRun.draw (B:= [[],[0],[],[2,0,1],[1,0,2,3],[],[],[6,5],[5,6,7],[7,6,5,8,3,2,0,1,4],[4,1,0,2,3,8,5,6,7,9],[9,7,6,5,8,3,2,0,1,4,10],[9,7,6,5,8,3,2,0,1,4,10],[12,10,4,1,0,2,3,8,5,6,7,9,11],[11,9,7,6,5,8,3,2,0,1,4,10,12,13],[13,12,10,4,1,0,2,3,8,5,6,7,9,11,14],[14,11,9,7,6,5,8,3,2,0,1,4,10,12,13,15],[14,11,9,7,6,5,8,3,2,0,1,4,10,12,13,15],[17,15,13,12,10,4,1,0,2,3,8,5,6,7,9,11,14,16],[16,14,11,9,7,6,5,8,3,2,0,1,4,10,12,13,15,17,18],[18,17,16,19,14,11,9,7,6,5,8,3,2,0,1,4,10,12,13,15],[15,13,12,10,4,1,0,2,3,8,5,6,7,9,11,14,19,16,17,18,20],[20,18,17,16,19,14,11,9,7,6,5,8,3,2,0,1,4,10,12,13,15,21],[20,18,17,16,19,14,11,9,7,6,5,8,3,2,0,1,4,10,12,13,15,21],[23,21,15,13,12,10,4,1,0,2,3,8,5,6,7,9,11,14,19,16,17,18,20,22],[22,20,18,17,16,19,14,11,9,7,6,5,8,3,2,0,1,4,10,12,13,15,21,23,24],[24,23,21,15,13,12,10,4,1,0,2,3,8,5,6,7,9,11,14,19,16,17,18,20,22,25],[25,22,23,24,26,20,18,17,16,19,14,11,9,7,6,5,8,3,2,0,1,4,10,12,13,15,21],[21,15,13,12,11,14,19,16,17,18,20,26,24,23,22,25,27,9,7,6,5,8,3,2,0,1,4,10]]) (by kernel_rfl) (by kernel_rfl) Y (fD (OF.fieldAddrO (tv (T.op 0 0) Y) QU) Y Y (lD (OL.loadO1 (t:=(tS g.Cells)) (tv (T.op 0 2) Y) Y Y YD) Y Y ?_)))))))))))
  refine mD (tN i) Y Y ?_
  have hb2:i<g.Cells.size:=(by omega)
  refine fD (xix (tv (tS g.Cells) Y) (tv (tN i) Y) hb2 U9) Y Y (fD (J6 (tv (T.int .u8 (Qv g.Cells i)) Y) (VEv.int .u8 35)) Y Y (mD (tS f) Y Y (mD (tN i) Y Y ?_)))
  have hb3:i<f.size:=(by omega)
  refine fD (xix (tv (tS f) Y) (tv (tN i) Y) hb3 U9) Y Y (fD (J6 (tv (T.int .u8 (Qv f i)) Y) (VEv.int .u8 35)) Y Y (fD (B.bneq U4 (c:=(!((decide (Qv g.Cells i=35)) == (decide (Qv f i=35))))) (tv (tB (decide (Qv g.Cells i=35))) Y) (tv (tB (decide (Qv f i=35))) Y) Y) Y Y (mD (tB (!((decide (Qv g.Cells i=35)) == (decide (Qv f i=35))))) Y Y ?_)))
  refine Qdm (!((decide (Qv g.Cells i=35)) == (decide (Qv f i=35)))) (fun hg32_4=> ?_) (fun hg32_4=> ?_)
  ·have fhg32_4:(!((decide (Qv g.Cells i=35)) == (decide (Qv f i=35))))=true:=hg32_4
   refine oD Y Y hg32_4 Y (oD Y Y hg32_4 Y (oD Y Y hg32_4 Y (oD Y Y hg32_4 Y (oD Y Y hg32_4 Y (uD Y Y Y (uD Y Y Y (uD Y Y Y (uD Y Y Y (oD Y Y hg32_4 Y (oD Y Y hg32_4 Y (uD Y Y Y ?_)))))))))))
   refine uD Y Y Y (uD Y Y Y (uD Y Y Y (uD Y Y Y (oD Y Y hg32_4 Y (fD (OF.pickT (VEv.tmpB Y hg32_4) (VEv.bool true)) Y Y (VRunD.nil (tn (ct Y (sr (fO (OF.assign (VEv.bool false)) (nt ?_)))))))))))
   refine rt (vinB.r (tr (tr (vinB.r (tr (vb (b':=false) Y ?_))))))
   (symm;rw [decide_eq_false_iff_not];rintro ⟨g1,g2,g3⟩;(have g4:=g3 i fhc1;unfold JM at g4;simp only [Qk2,decide_eq_true_eq,decide_eq_false_iff_not,Classical.not_not] at *;omega))
  have fhg32_4:(!((decide (Qv g.Cells i=35)) == (decide (Qv f i=35))))=false:=hg32_4
  refine VRunD.free Y (VWant.on Y Y hg32_4) Y (OF.move (tv (tS f) Y)) (VRunD.free Y (VWant.on Y Y hg32_4) Y (OF.move (tv (tN i) Y)) ?_)
  have hb5:i<f.size:=(by omega)
  refine VRunD.free Y (VWant.on Y Y hg32_4) Y (xix (tv (tS f) Y) (tv (tN i) Y) hb5 U9) (VRunD.free Y (VWant.on Y Y hg32_4) Y (xne (tv (T.int .u8 (Qv f i)) Y) (VEv.int .u8 35)) (VRunD.free Y (VWant.on Y Y hg32_4) Y (OF.move (tv (tB (!(decide (Qv f i=35)))) Y)) ?_))
  refine gn (Qv f i=35) (fun fhg37_6=> ?_) fun fhg37_6=> ?_
  ·refine VRunD.free Y (VWant.on Y Y (ny fhg37_6)) Y (OF.move (tv (tS f) Y)) ?_
   refine VRunD.free Y (VWant.on Y Y (ny fhg37_6)) Y (OF.move (tv (tN i) Y)) ?_
   have hb7:i<f.size:=(by omega)
   refine VRunD.free Y (VWant.on Y Y (ny fhg37_6)) Y (xix (tv (tS f) Y) (tv (tN i) Y) hb7 U9) (VRunD.free Y (VWant.on Y Y (ny fhg37_6)) Y (xne (tv (T.int .u8 (Qv f i)) Y) (VEv.int .u8 63)) (VRunD.free Y (VWant.on Y Y hg32_4) Y (OF.pickT (VEv.tmpB Y (ny fhg37_6)) (tv (tB (!(decide (Qv f i=63)))) Y)) (VRunD.free Y (VWant.on Y Y hg32_4) Y (OF.move (tv (tB (!(decide (Qv f i=63)))) Y)) ?_)))
   refine gn (Qv f i=63) (fun fhg43_8=> ?_) fun fhg43_8=> ?_
   ·refine VRunD.free Y (VWant.on Y Y (ny fhg43_8)) Y (OF.move (tv (tS f) Y)) ?_
    refine VRunD.free Y (VWant.on Y Y (ny fhg43_8)) Y (OF.move (tv (tN i) Y)) ?_
    have hb9:i<f.size:=(by omega)
    refine VRunD.free Y (VWant.on Y Y (ny fhg43_8)) Y (xix (tv (tS f) Y) (tv (tN i) Y) hb9 U9) (VRunD.quiet (bi:= [22,20,18,17,16,19,14,11,9,7,6,5,8,3,2,0,1,4,10,12,13,15,21,23,24]) Y (VWant.on Y Y (ny fhg43_8)) Y Y Y bn (cS (vc (tv (T.int .u8 (Qv f i)) Y) vn) (Z8 Y) (JV (n+1) (Qv f i)) Y Y) (VRunD.free Y (VWant.on Y Y (ny fhg43_8)) Y (Zd (tv (tB (decide (97≤(Qv f i)∧(Qv f i)≤122))) Y)) (VRunD.free Y (VWant.on Y Y hg32_4) Y (OF.pickT (VEv.tmpB Y (ny fhg43_8)) (tv (tB (!(decide (97≤(Qv f i)∧(Qv f i)≤122)))) Y)) (fD (OF.pickF (VEv.tmpB Y hg32_4) (tv (tB (!(decide (97≤(Qv f i)∧(Qv f i)≤122)))) Y)) Y Y (VRunD.nil (tn ?_))))))
    refine cn (97≤(Qv f i)∧(Qv f i)≤122) Y (fun fhc2=> ?_) fun fhc2=> ?_
    ·refine sr ?_
     refine fO (OF.assign (VEv.bool false)) (nt (rt (vinB.r (tr (tr (vinB.r (tr (vb (b':=false) Y ?_))))))))
     (symm;rw [decide_eq_false_iff_not];rintro ⟨g1,g2,g3⟩;(have g4:=g3 i fhc1;unfold JM at g4;simp only [Qk2,decide_eq_true_eq,decide_eq_false_iff_not,Classical.not_not] at *;omega))
    refine sk (vinB.n (tn (VRun.region (fO (Qx (tv (tN i) Y) (VEv.int .i64 1) (by omega)) (mO (tN (i+1)) Y (VRunO.nil (tn ?_)))))))
    refine ⟨(i+1:Nat),?_,?_,Wk.mk (fun k=>k) ?_ ?_ ?_⟩
    ·refine ZJ hI' fhc1 ?_;unfold JM;simp only [Qk2,decide_eq_true_eq,decide_eq_false_iff_not,Classical.not_not] at *;omega
    ·omega
    ·exact (b2 (b2 (b2 (b2 bn))))
    ·exact (b3 bn)
    ·exact nd Y
   refine oD Y Y (nz fhg43_8) Y (oD Y Y (nz fhg43_8) Y (oD Y Y (nz fhg43_8) Y (oD Y Y (nz fhg43_8) Y (oD Y Y (nz fhg43_8) Y (VRunD.free Y (VWant.on Y Y hg32_4) Y (OF.pickF (VEv.tmpB Y (nz fhg43_8)) (VEv.bool false)) (fD (OF.pickF (VEv.tmpB Y hg32_4) (tv (tB false) Y)) Y Y (VRunD.nil (tn (cf Y (sk (vinB.n ?_)))))))))))
   refine tn (VRun.region (fO (Qx (tv (tN i) Y) (VEv.int .i64 1) (by omega)) (mO (tN (i+1)) Y (VRunO.nil (tn ?_)))))
   refine ⟨(i+1:Nat),?_,?_,Wk.mk (fun k=>k) ?_ ?_ ?_⟩
   ·refine ZJ hI' fhc1 ?_;unfold JM;simp only [Qk2,decide_eq_true_eq,decide_eq_false_iff_not,Classical.not_not] at *;omega
   ·omega
   ·exact (b2 (b2 (b2 (b2 bn))))
   ·exact (b3 bn)
   ·exact nd Y
  refine oD Y Y (nz fhg37_6) Y (oD Y Y (nz fhg37_6) Y (oD Y Y (nz fhg37_6) Y (oD Y Y (nz fhg37_6) Y (VRunD.free Y (VWant.on Y Y hg32_4) Y (OF.pickF (VEv.tmpB Y (nz fhg37_6)) (VEv.bool false)) (VRunD.free Y (VWant.on Y Y hg32_4) Y (OF.move (tv (tB false) Y)) (VRunD.off Y (VWant.not (b:=false) Y Y Y) (VRunD.off Y (VWant.not (b:=false) Y Y Y) (VRunD.off Y (VWant.not (b:=false) Y Y Y) (VRunD.off Y (VWant.not (b:=false) Y Y Y) (VRunD.off Y (VWant.not (b:=false) Y Y Y) (VRunD.free Y (VWant.on Y Y hg32_4) Y (OF.pickF (tv (tB false) Y) (VEv.bool false)) ?_)))))))))))
  refine fD (OF.pickF (VEv.tmpB Y hg32_4) (tv (tB false) Y)) Y Y (VRunD.nil (tn (cf Y (sk (vinB.n (tn (VRun.region (fO (Qx (tv (tN i) Y) (VEv.int .i64 1) (by omega)) (mO (tN (i+1)) Y (VRunO.nil (tn ?_)))))))))))
  refine ⟨(i+1:Nat),?_,?_,Wk.mk (fun k=>k) ?_ ?_ ?_⟩
  ·refine ZJ hI' fhc1 ?_;unfold JM;simp only [Qk2,decide_eq_true_eq,decide_eq_false_iff_not,Classical.not_not] at *;omega
  ·omega
  ·exact (b2 (b2 (b2 (b2 bn))))
  ·exact (b3 bn)
  ·exact nd Y
 refine VRun.exit (vthn.e (vthn.e (vinB.e (tn (sr (fO (OF.assign (VEv.bool true)) (nt (rt (vb (b':=true) Y ?_)))))))))
 (symm;rw [decide_eq_true_eq];refine ⟨?_,?_,QaQ hI' fhc1⟩<;>assumption)
theorem Qe6 (n:Nat) (g:D.Grid) (c:Int) (hc:g.Cells.size≤maxLen):Pure (Qs Tryz.prog (n+3)) 129 [(T.agg (Qd false g)),(tI c)] (tB (decide (gridOk g∧(0≤c∧c≤((g.Cells.size:Nat):Int) - 1)∧Qv g.Cells (Int.toNat c)=46))):=by
 refine Pure.intro (rs:= [ResultVar.tmp 4]) Tryz.func129 Y Y Y (E0:= [(0,(T.agg (Qd false g))),(1,(tI c))]) Y ?_
 obtain ⟨hlim,hmx,hmax⟩:=QA
 refine sr (kO (B.box (ts:=(Qd false g)) (tv (T.agg (Qd false g)) Y) nofun Y) (fO (OF.assign (VEv.bool false)) (nt (sr (lO (OL.loadOn (us:=(Qd false g)) (tv (T.op 0 0) Y) Y Q4 Q0 (lb Y) Y) (cO (cS (vc (tv (T.agg (Qd false g)) Y) vn) (LendL.cons (lg Qu) ln) (Yg (n+0) g (by assumption)) Y Y) (mO (tB (decide (gridOk g))) Y ?_)))))))
 refine gw (gridOk g) (fun fhg7_1=> ?_) fun fhg7_1=> ?_
 ·refine gF (dy fhg7_1) Y Y (OF.move (tv (tI c) Y)) ?_
  refine Yu (tS g.Cells) (dy fhg7_1) Y Y Y Y QU Y Y YD (gL (dy fhg7_1) Y Y (B.lenS (tv (tS g.Cells) Y) U9) (gF (dy fhg7_1) Y Y (B.sub (n:=(((g.Cells.size:Nat):Int) - 1)) (tv (tN g.Cells.size) Y) (VEv.int .i64 1) (by (rw [Qt (by omega)];done))) (VRunO.chain (VWant.on Y Y (dy fhg7_1)) (cS (vc (tv (tI c) Y) (vc (VEv.int .i64 0) (vc (tv (tI (((g.Cells.size:Nat):Int) - 1)) Y) vn))) (Z8 Y) (Q2 (n+1) c 0 (((g.Cells.size:Nat):Int) - 1)) Y Y) (fO (OF.pickT (VEv.tmpB Y (dy fhg7_1)) (tv (tB (decide (0≤c∧c≤(((g.Cells.size:Nat):Int) - 1)))) Y)) (mO (tB (decide (0≤c∧c≤(((g.Cells.size:Nat):Int) - 1)))) Y ?_)))))
  refine gw (0≤c∧c≤(((g.Cells.size:Nat):Int) - 1)) (fun fhg15_2=> ?_) fun fhg15_2=> ?_
  ·refine Yu (tS g.Cells) (dy fhg15_2) Y Y Y Y QU Y Y YD ?_
   refine gF (dy fhg15_2) Y Y (OF.move (tv (tI c) Y)) ?_
   have hb3:(Int.toNat c)<g.Cells.size:=(by omega)
   refine gF (dy fhg15_2) Y Y (B.index (n:=(Qv g.Cells (Int.toNat c))) (i:=(Int.toNat c)) (tv (tS g.Cells) Y) (tv (tI c) Y) (by omega) hb3 U9 (JP hb3)) (gF (dy fhg15_2) Y Y (J6 (tv (T.int .u8 (Qv g.Cells (Int.toNat c))) Y) (VEv.int .u8 46)) (fO (OF.pickT (VEv.tmpB Y (dy fhg15_2)) (tv (tB (decide (Qv g.Cells (Int.toNat c)=46))) Y)) (aO (tB (decide (Qv g.Cells (Int.toNat c)=46))) Y (nt (rt (vb (b':=(decide (Qv g.Cells (Int.toNat c)=46))) Y ?_))))))
   (refine Q8 ⟨fun h=>⟨?_,?_,h⟩,fun h=>h.2.2⟩<;>assumption)
  refine QE 5 10 true 15 (dz fhg15_2) Y Y Y (fO (OF.pickF (VEv.tmpB Y (dz fhg15_2)) (VEv.bool false)) (aO (tB false) Y (nt (rt (vb (b':=false) Y ?_)))))
  (symm;rw [decide_eq_false_iff_not];rintro ⟨g1,g2,g3⟩;contradiction)
 refine QE 6 2 true 7 (dz fhg7_1) Y Y Y (fO (OF.pickF (VEv.tmpB Y (dz fhg7_1)) (VEv.bool false)) (mO (tB false) Y (QE 5 10 true 15 (b:=false) Y Y Y Y (fO (OF.pickF (tv (tB false) Y) (VEv.bool false)) (aO (tB false) Y (nt (rt (vb (b':=false) Y ?_))))))))
 (symm;rw [decide_eq_false_iff_not];rintro ⟨g1,g2,g3⟩;contradiction)
theorem QgW (n:Nat) (l:List Int) (v:Int) (hl:l.length≤Y2):Pure (Qs Tryz.prog (n+1)) 139 [(rd 1 Qc l),(tI v)] (tB (decide (v∈l))):=by
 refine Pure.intro (rs:= [ResultVar.tmp 4]) Tryz.func139 Y Y Y (E0:= [(0,(rd 1 Qc l)),(1,(tI v))]) Y ?_
 obtain ⟨hlim,hmx,hmax⟩:=QA
 refine sr (fO (OF.assign (VEv.bool false)) (nt (sq (sr (fO (OF.assign (VEv.int .i64 0)) (nt (VRun.block ?_)))))))
 refine VRun.loop (A:=Nat) (fun s_=> [(0,(rd 1 Qc l)),(1,(tI v)),(5,(tN s_))]) (fun s_=>QV []) 0 (fun s_=>NoneTo (fun y=>y=v) l s_) (fun s_=>l.length - s_) (0:Nat) ?_ (Wk.mk (fun k=>k) ?_ ?_ ?_) ?_
 ·exact NoneTo.start _ _
 ·exact (b2 (b2 (b2 bn)))
 ·exact bn
 ·exact nd Y
 rintro i (hI':NoneTo (fun y=>y=v) l i)
 show VRun _ _ _ [(0,(rd 1 Qc l)),(1,(tI v)),(5,(tN i))] (QV []) 0 _
 have hI1:=hI'.1
 refine sq (sr (mO (tN i) Y (mO (rd 1 Qc l) Y (lO (B.lenR (m:=l.length) (tv (rd 1 Qc l) Y) Z1 (List.length_map ..)) (fO (Q5 (tv (tN i) Y) (tv (tN l.length) Y)) (nt ?_))))))
 refine cd (i<l.length) Y (fun fhc0=> ?_) fun fhc0=> ?_
 ·refine sk ?_
  refine tn (sq (VRun.block (sr (mO (rd 1 Qc l) Y (mO (tN i) Y ?_)))))
  obtain ⟨x1,hx1⟩:∃x,l[i]? =some x:=⟨_,List.getElem?_eq_getElem (by omega)⟩
  refine fO (OF.indexAddrR (row:=(Qc false x1)) (i:=i) (tv (rd 1 Qc l) Y) (tv (tN i) Y) Y (Qr _ hx1) Z1 ZA YR) (lO (OL.loadR1 (t:=(tI x1)) (tv (T.rp [(tI x1)]) Y) Y QQ) (mO (tI v) Y (fO (J6 (tv (tI x1) Y) (tv (tI v) Y)) (nt ?_))))
  refine cd (x1=v) Y (fun fhc1=> ?_) fun fhc1=> ?_
  ·refine sr ?_
   refine fO (OF.assign (VEv.bool true)) (nt (rt (vinB.r (tr (tr (vinB.r (tr (vb (b':=true) Y ?_))))))))
   symm;rw [decide_eq_true_eq,← fhc1];exact List.mem_of_getElem? hx1
  refine sk (vinB.n (tn (VRun.region (mO (tN i) Y (fO (Qx (tv (tN i) Y) (VEv.int .i64 1) (by omega)) (aO (tN (i+1)) Y (VRunO.nil (tn ?_))))))))
  refine ⟨(i+1:Nat),?_,?_,Wk.mk (fun k=>k) ?_ ?_ ?_⟩
  ·exact hI'.next hx1 fhc1
  ·omega
  ·exact (b2 (b2 (b2 bn)))
  ·exact bn
  ·exact nd Y
 refine VRun.exit (vthn.e (vthn.e (vinB.e (tn (sr (fO (OF.assign (VEv.bool false)) (nt (rt (vb (b':=false) Y ?_)))))))))
 symm;rw [decide_eq_false_iff_not];intro h;exact hI'.mem fhc0 v h Y
theorem Qba (n:Nat) (a:List Int) (b:Int) (ha:a.length≤Y2):Pure (Qs Tryz.prog (n+1)) 145 [(rd 1 Qc a),(tI b)] (tI (Jb (fun y=>b=y) a)):=by
 refine Pure.intro (rs:= [ResultVar.tmp 4]) Tryz.func145 Y Y Y (E0:= [(0,(rd 1 Qc a)),(1,(tI b))]) Y ?_
 obtain ⟨hlim,hmx,hmax⟩:=QA
 refine sr (fO (OF.assign (VEv.int .i64 0)) (nt (sq (sr (mO (rd 1 Qc a) Y (lO (B.lenR (m:=a.length) (tv (rd 1 Qc a) Y) Z1 (List.length_map ..)) (fO (OF.move (VEv.int .i64 0)) (nt (VRun.block ?_)))))))))
 refine VRun.loop (A:=Nat) (fun s_=> [(0,(rd 1 Qc a)),(1,(tI b)),(7,(tN a.length)),(8,(tN s_))]) (fun s_=>QV []) 0 (fun s_=>NoneTo (fun y=>b=y) a s_) (fun s_=>a.length - s_) (0:Nat) ?_ (Wk.mk (fun k=>k) ?_ ?_ ?_) ?_
 ·exact NoneTo.start _ _
 ·exact (b2 (b2 (b2 (b2 bn))))
 ·exact bn
 ·exact nd Y
 rintro i (hI':NoneTo (fun y=>b=y) a i)
 show VRun _ _ _ [(0,(rd 1 Qc a)),(1,(tI b)),(7,(tN a.length)),(8,(tN i))] (QV []) 0 _
 have hI1:=hI'.1
 refine sr (fO (Q5 (tv (tN i) Y) (tv (tN a.length) Y)) (nt (sq ?_)))
 refine cd (i<a.length) Y (fun fhc0=> ?_) fun fhc0=> ?_
 ·refine sk ?_
  refine tn (sq (VRun.block (sr (mO (tN i) Y (aO (tN i) Y (nt (sr (mO (tI b) Y (mO (rd 1 Qc a) Y (mO (tN i) Y ?_))))))))))
  obtain ⟨x1,hx1⟩:∃x,a[i]? =some x:=⟨_,List.getElem?_eq_getElem (by omega)⟩
  refine fO (OF.indexAddrR (row:=(Qc false x1)) (i:=i) (tv (rd 1 Qc a) Y) (tv (tN i) Y) Y (Qr _ hx1) Z1 ZA YR) (lO (OL.loadR1 (t:=(tI x1)) (tv (T.rp [(tI x1)]) Y) Y QQ) (fO (J6 (tv (tI b) Y) (tv (tI x1) Y)) (nt ?_)))
  refine cd (b=x1) Y (fun fhc1=> ?_) fun fhc1=> ?_
  ·refine sr ?_
   refine mO (tN i) Y (aO (tN i) Y (nt (rt (vinB.r (tr (tr (vinB.r (tr (vi (n':=((i:Nat):Int)) Y ?_)))))))))
   exact (Qce hx1 fhc1 hI'.2).symm
  refine sk (vinB.n (tn (VRun.region (fO (Qx (tv (tN i) Y) (VEv.int .i64 1) (by omega)) (mO (tN (i+1)) Y (VRunO.nil (tn ?_)))))))
  refine ⟨(i+1:Nat),?_,?_,Wk.mk (fun k=>k) ?_ ?_ ?_⟩
  ·exact hI'.next hx1 fhc1
  ·omega
  ·exact (b2 (b2 (b2 (b2 bn))))
  ·exact bn
  ·exact nd Y
 refine VRun.exit (vthn.e (vthn.e (vinB.e (tn (sr (fO (OF.assign (VEv.int .i64 (-1))) (nt (rt (vi (n':=(-1)) Y ?_)))))))))
 exact (Qc7 (hI'.all fhc0)).symm
theorem Qas (n:Nat) (a:List Int) (b:Int) (ha:a.length≤Y2):Pure (Qs Tryz.prog (n+2)) 144 [(rd 1 Qc a),(tI b)] (tB (decide (b∈a))):=by
 refine Pure.intro (rs:= [ResultVar.tmp 4]) Tryz.func144 Y Y Y (E0:= [(0,(rd 1 Qc a)),(1,(tI b))]) Y ?_
 obtain ⟨hlim,hmx,hmax⟩:=QA
 refine sr (fO (OF.assign (VEv.bool false)) (nt (sr (mO (rd 1 Qc a) Y (mO (tI b) Y (cO (cS (vc (tv (rd 1 Qc a) Y) (vc (tv (tI b) Y) vn)) (Z8 Y) (Qba (n+0) a b (by assumption)) Y Y) (fO (xge (tv (tI (Jb (fun y=>b=y) a)) Y) (VEv.int .i64 0)) (aO (tB (decide (0≤Jb (fun y=>b=y) a))) Y (nt (rt (vb (b':=(decide (0≤Jb (fun y=>b=y) a))) Y ?_)))))))))))
 refine Q8 ?_
 rw [QfP]
 exact ⟨fun ⟨x,h1,h2⟩=>h2▸h1,fun h=>⟨b,h,rfl⟩⟩
noncomputable section
def QaM (ok:Nat→Prop) [DecidablePred ok]:Nat→Nat→Nat
 | 0,n=>n
 | f+1,n=>if ok n then QaM ok f (n+1) else n
theorem QgD {ok:Nat→Prop} [DecidablePred ok] {n:Nat} (h:ok n) (hn:n<6):QaM ok (6 - n) n=QaM ok (6 - (n+1)) (n+1):=by
 obtain ⟨k,hk⟩:∃k,6 - n=k+1:=⟨5 - n,by omega⟩
 rw [hk,show 6 - (n+1)=k by omega]
 simp only [QaM,if_pos h]
theorem QiA {ok:Nat→Prop} [DecidablePred ok] {n f:Nat} (h:¬ok n):QaM ok f n=n:=by
 cases f with
 | zero=>rfl
 | succ f=>simp only [QaM,if_neg h]
def slA (g:D.Grid) (cell n:Nat):Prop:=((cell % g.Cols.toNat+n:Nat):Int)<g.Cols∧Qv g.Cells (cell+n*1)=46
def slD (g:D.Grid) (cell n:Nat):Prop:=((cell / g.Cols.toNat+n:Nat):Int)<g.Rows∧Qv g.Cells (Int.toNat (((cell:Nat):Int)+((n:Nat):Int)*g.Cols))=46
instance (g:D.Grid) (cell:Nat):DecidablePred (slA g cell):=fun _=>Classical.propDecidable _
instance (g:D.Grid) (cell:Nat):DecidablePred (slD g cell):=fun _=>Classical.propDecidable _
def Qgy (g:D.Grid) (cell:Nat):Nat:=if Qv g.Cells cell=46∧¬(0<cell % g.Cols.toNat∧Qv g.Cells (Int.toNat (((cell:Nat):Int) - 1))=46) then QaM (slA g cell) 6 0 else 0
def QgB (g:D.Grid) (cell:Nat):Nat:=if Qv g.Cells cell=46∧¬(0<cell / g.Cols.toNat∧Qv g.Cells (Int.toNat (((cell:Nat):Int) - g.Cols))=46) then QaM (slD g cell) 6 0 else 0
def Qq (g:D.Grid) (cell:Nat) (down:Bool):Nat:=if down=true then QgB g cell else Qgy g cell
theorem Qml {c:Nat} {w:Int} (h:2≤w):((c:Nat):Int).tmod w=((c % w.toNat:Nat):Int):=by
 obtain ⟨k,rfl⟩:=Int.eq_ofNat_of_zero_le (show 0≤w by omega)
 rfl
theorem QnM {c:Nat} {w:Int} (h:2≤w) (hc:c≤36):IntKind.i64.wrap (((c:Nat):Int).tdiv w)=((c / w.toNat:Nat):Int):=by
 obtain ⟨k,rfl⟩:=Int.eq_ofNat_of_zero_le (show 0≤w by omega)
 have:c / k≤c:=Nat.div_le_self _ _
 show IntKind.i64.wrap ((c / k:Nat):Int)=((c / k:Nat):Int)
 generalize c / k=q at *
 rw [Qt (by omega)]
theorem QhJ {n:Nat} {c:Int} (h:n≤6) (h2:2≤c) (h3:c≤6):0≤((n:Nat):Int)*c∧((n:Nat):Int)*c≤36:=by
 have e1:0≤((n:Nat):Int)*c:=Int.mul_nonneg (by omega) (by omega)
 have e2:((n:Nat):Int)*c≤6*6:=Int.mul_le_mul (by omega) h3 (by omega) (by decide)
 omega
theorem QjD {n:Nat} {c:Int} (h:n≤6) (h2:2≤c) (h3:c≤6):IntKind.i64.wrap (((n:Nat):Int)*c)=((n:Nat):Int)*c:=by
 have:=QhJ h h2 h3
 rw [Qt (by omega)]
theorem Qb9 {g:D.Grid} {cell:Nat} (hg:gridOk g) (hc:cell<g.Cells.size):(cell % g.Cols.toNat<g.Cols.toNat∧cell / g.Cols.toNat<g.Rows.toNat)∧(0<cell % g.Cols.toNat→1≤cell)∧(0<cell / g.Cols.toNat→g.Cols.toNat≤cell)∧(∀n:Nat,((cell % g.Cols.toNat+n:Nat):Int)<g.Cols→cell+n<g.Cells.size)∧∀n:Nat,((cell / g.Cols.toNat+n:Nat):Int)<g.Rows→((cell:Nat):Int)+((n:Nat):Int)*g.Cols<g.Cells.size:=by
 obtain ⟨⟨a1,a2⟩,⟨b1,b2⟩,hs,_⟩:=hg
 obtain ⟨w,hw⟩:=Int.eq_ofNat_of_zero_le (show 0≤g.Cols by omega)
 obtain ⟨r,hr⟩:=Int.eq_ofNat_of_zero_le (show 0≤g.Rows by omega)
 have hs2:g.Cells.size=r*w:=by rw [hw,hr] at hs;exact_mod_cast hs
 have hw0:0<w:=by omega
 have hwn:g.Cols.toNat=w:=by omega
 have hrn:g.Rows.toNat=r:=by omega
 rw [hwn,hrn]
 have h1:cell % w<w:=Nat.mod_lt _ hw0
 have h2:cell / w<r:=(Nat.div_lt_iff_lt_mul hw0).2 (hs2▸hc)
 have h3:w*(cell / w)+cell % w=cell:=Nat.div_add_mod cell w
 have h4:∀k,k<r→w*k+w≤r*w:=fun k hk=>by
  have:=Nat.mul_le_mul_left w (show k+1≤r from hk)
  rw [Nat.mul_add,Nat.mul_one,Nat.mul_comm w r] at this
  exact this
 refine ⟨⟨h1,h2⟩,fun h=> ?_,fun h=> ?_,fun n hn=> ?_,fun n hn=> ?_⟩
 ·have:=Nat.mod_le cell w;omega
 ·have:=Nat.mul_le_mul_left w (show 1≤cell / w from h)
  rw [Nat.mul_one] at this
  generalize w*(cell / w)=q2 at *
  generalize cell % w=q3 at *
  omega
 ·have:=h4 _ h2
  generalize w*(cell / w)=q2 at *
  generalize cell % w=q3 at *
  omega
 ·have h5:=h4 (cell / w+n) (by omega)
  rw [Nat.mul_add] at h5
  have h6:((n:Nat):Int)*g.Cols=((w*n:Nat):Int):=by rw [hw,Int.mul_comm];rfl
  rw [h6]
  generalize w*n=q at *
  generalize w*(cell / w)=q2 at *
  generalize cell % w=q3 at *
  omega
theorem QiE {g:D.Grid} {cell:Nat} (h:¬Qv g.Cells cell=46∨(0<cell % g.Cols.toNat∧Qv g.Cells (Int.toNat (((cell:Nat):Int) - 1))=46)):Qgy g cell=0:=if_neg (by omega)
theorem QiP {g:D.Grid} {cell:Nat} (h:¬Qv g.Cells cell=46∨(0<cell / g.Cols.toNat∧Qv g.Cells (Int.toNat (((cell:Nat):Int) - g.Cols))=46)):QgB g cell=0:=if_neg (by omega)
theorem Qkm {g:D.Grid} {cell n:Nat} (h:Qv g.Cells cell=46∧¬(0<cell % g.Cols.toNat∧Qv g.Cells (Int.toNat (((cell:Nat):Int) - 1))=46)) (hr:QaM (slA g cell) 6 0=QaM (slA g cell) (6 - n) n) (hn:¬slA g cell n):Qgy g cell=n:=by
 rw [Qgy,if_pos h,hr,QiA hn]
theorem Qky {g:D.Grid} {cell n:Nat} (h:Qv g.Cells cell=46∧¬(0<cell / g.Cols.toNat∧Qv g.Cells (Int.toNat (((cell:Nat):Int) - g.Cols))=46)) (hr:QaM (slD g cell) 6 0=QaM (slD g cell) (6 - n) n) (hn:¬slD g cell n):QgB g cell=n:=by
 rw [QgB,if_pos h,hr,QiA hn]
theorem zD {g:D.Grid} {cell:Nat} {down:Bool} (hd:down=true) (h:¬Qv g.Cells cell=46∨(0<cell / g.Cols.toNat∧Qv g.Cells (Int.toNat (((cell:Nat):Int) - g.Cols))=46)):(0:Int)=((Qq g cell down:Nat):Int):=by
 rw [Qq,if_pos hd,QiP h];rfl
theorem zA {g:D.Grid} {cell:Nat} {down:Bool} (hd:down=false) (h:¬Qv g.Cells cell=46∨(0<cell % g.Cols.toNat∧Qv g.Cells (Int.toNat (((cell:Nat):Int) - 1))=46)):(0:Int)=((Qq g cell down:Nat):Int):=by
 rw [Qq,if_neg (by simp [hd]),QiE h];rfl
def Qa8 (g:D.Grid) (cell:Nat) (down:Bool) (n:Nat):Prop:=if down=true then QaM (slD g cell) 6 0=QaM (slD g cell) (6 - n) n else QaM (slA g cell) 6 0=QaM (slA g cell) (6 - n) n
theorem Qb6 (g:D.Grid) (cell:Nat) (down:Bool):Qa8 g cell down 0:=by
 unfold Qa8
 split<;>rfl
theorem rD {g:D.Grid} {cell n:Nat} {down:Bool} (hd:down=true) (h:Qv g.Cells cell=46∧¬(0<cell / g.Cols.toNat∧Qv g.Cells (Int.toNat (((cell:Nat):Int) - g.Cols))=46)) (hr:Qa8 g cell down n) (hn:¬slD g cell n):((n:Nat):Int)=((Qq g cell down:Nat):Int):=by
 rw [Qa8,if_pos hd] at hr
 rw [Qq,if_pos hd,Qky h hr hn]
theorem rA {g:D.Grid} {cell n:Nat} {down:Bool} (hd:down=false) (h:Qv g.Cells cell=46∧¬(0<cell % g.Cols.toNat∧Qv g.Cells (Int.toNat (((cell:Nat):Int) - 1))=46)) (hr:Qa8 g cell down n) (hn:¬slA g cell n):((n:Nat):Int)=((Qq g cell down:Nat):Int):=by
 rw [Qa8,if_neg (by simp [hd])] at hr
 rw [Qq,if_neg (by simp [hd]),Qkm h hr hn]
theorem Qm1 {g:D.Grid} {cell n:Nat} {down:Bool} (hd:down=true) (hr:Qa8 g cell down n) (hn:slD g cell n) (h6:n<6):Qa8 g cell down (n+1):=by
 rw [Qa8,if_pos hd] at *
 rw [hr,QgD hn h6]
theorem QmW {g:D.Grid} {cell n:Nat} {down:Bool} (hd:down=false) (hr:Qa8 g cell down n) (hn:slA g cell n) (h6:n<6):Qa8 g cell down (n+1):=by
 rw [Qa8,if_neg (by simp [hd])] at *
 rw [hr,QgD hn h6]
end
theorem Qcz (n:Nat) (g:D.Grid) (cell:Nat) (down:Bool) (hg:gridOk g) (hc:cell<g.Cells.size):Pure (Qs Tryz.prog (n+1)) 79 [(T.agg (Qd false g)),(tN cell),(tB down)] (tN (Qq g cell down)):=by
 refine Pure.intro (rs:= [ResultVar.tmp 6]) Tryz.func79 Y Y Y (E0:= [(0,(T.agg (Qd false g))),(1,(tN cell)),(2,(tB down))]) Y ?_
 obtain ⟨hlim,hmx,hmax⟩:=QA
 have hsz:=hg.size
 have hA:=hg.1
 have hB:=hg.2.1
 obtain ⟨hC1,hC2,hC3,hC4,hC5⟩:=Qb9 hg hc
 have hq0:0≤((cell:Nat):Int) / ((g.Cols.toNat:Nat):Int):=Int.ediv_nonneg (by omega) (by omega)
 have hm0:0≤((cell:Nat):Int) % ((g.Cols.toNat:Nat):Int):=Int.emod_nonneg _ (by omega)
 refine sr (kO (B.box (ts:=(Qd false g)) (tv (T.agg (Qd false g)) Y) nofun Y) (fO (OF.assign (VEv.int .i64 0)) (nt (sr (fO (OF.assign (VEv.int .i64 1)) (nt (sr (mO (tN cell) Y (lf (tI g.Cols) Y ZE Y Y QQ (fO (B.rem (n:=((cell % g.Cols.toNat:Nat):Int)) (tv (tN cell) Y) (tv (tI g.Cols) Y) (by omega) (by (refine Qml ?_;omega))) (aO (tN (cell % g.Cols.toNat)) Y ?_)))))))))))
 refine nt (sr (lf (tI g.Cols) Y ZE Y Y QQ (aO (tI g.Cols) Y (nt (sq (sr (mO (tB down) Y (nt ?_))))))))
 refine VRun.cond (tv (tB down) Y) (fun hc0=> ?_) (fun hc0=> ?_)
 ·have fhc0:down=true:=hc0
  refine sr (lf (tI g.Cols) Y ZE Y Y QQ (aO (tI g.Cols) Y (nt (sr (mO (tN cell) Y (lf (tI g.Cols) Y ZE Y Y QQ (fO (B.quo (n:=((cell / g.Cols.toNat:Nat):Int)) (tv (tN cell) Y) (tv (tI g.Cols) Y) (by omega) (by (refine QnM ?_ ?_<;>omega))) (aO (tN (cell / g.Cols.toNat)) Y (nt (VRun.region (lf (tI g.Rows) Y QaR Y Y QQ ?_)))))))))))
  refine aO (tI g.Rows) Y (VRunO.nil (tn (sq (sr (lf (tS g.Cells) Y QU Y Y YD (mO (tN cell) Y ?_))))))
  have hb1:cell<g.Cells.size:=(by omega)
  refine fO (xix (tv (tS g.Cells) Y) (tv (tN cell) Y) hb1 U9) (fO (xne (tv (T.int .u8 (Qv g.Cells cell)) Y) (VEv.int .u8 46)) (mO (tB (!(decide (Qv g.Cells cell=46)))) Y ?_))
  refine VRunO.joinB 12 [32,33,34,35,36,37,38,39,40,41,42] 43 (tB (decide ((¬(Qv g.Cells cell=46))∨((0<cell / g.Cols.toNat)∧(Qv g.Cells (Int.toNat (((cell:Nat):Int) - g.Cols))=46))))) ?_ ?_
  ·refine gn (Qv g.Cells cell=46) (fun fhg31_2=> ?_) fun fhg31_2=> ?_
   ·refine QE 3 5 false 31 (ny fhg31_2) Y Y Y ?_
    refine Qbv 7 8 true 34 Y Y Y (oO Y Y (ny fhg31_2) (fO (OF.pickT (VEv.tmpB Y (ny fhg31_2)) (VEv.bool true)) (VRunO.nil ?_)))
    exact jq (congrArg T.bool (kOT fhg31_2)) (js Y (js Y (js Y (js Y (js Y (js Y (js Y (js Y (js Y (js Y (js Y (jn))))))))))))
   ·refine gF (nz fhg31_2) Y Y (OF.move (tv (tN (cell / g.Cols.toNat)) Y)) ?_
    refine gF (nz fhg31_2) Y Y (B.gtr (c:=(decide (0<cell / g.Cols.toNat))) (tv (tN (cell / g.Cols.toNat)) Y) (VEv.int .i64 0) (by exact Q8 (by omega))) (gF (nz fhg31_2) Y Y (OF.move (tv (tB (decide (0<cell / g.Cols.toNat))) Y)) ?_)
    refine VRunO.joinB 8 [35,36,37,38,39,40,41] 42 (tB (decide ((0<cell / g.Cols.toNat)∧(Qv g.Cells (Int.toNat (((cell:Nat):Int) - g.Cols))=46)))) ?_ ?_
    ·refine gw (0<cell / g.Cols.toNat) (fun fhg34_3=> ?_) fun fhg34_3=> ?_
     ·refine Yu (tS g.Cells) (dy fhg34_3) Y Y Y Y QU Y Y YD ?_
      refine gF (dy fhg34_3) Y Y (OF.move (tv (tN cell) Y)) (gF (dy fhg34_3) Y Y (OF.move (tv (tI g.Cols) Y)) (gF (dy fhg34_3) Y Y (B.sub (n:=(((cell:Nat):Int) - g.Cols)) (tv (tN cell) Y) (tv (tI g.Cols) Y) (by (rw [Qt (by omega)];done))) ?_))
      have hb4:(Int.toNat (((cell:Nat):Int) - g.Cols))<g.Cells.size:=(by omega)
      refine gF (dy fhg34_3) Y Y (B.index (n:=(Qv g.Cells (Int.toNat (((cell:Nat):Int) - g.Cols)))) (i:=(Int.toNat (((cell:Nat):Int) - g.Cols))) (tv (tS g.Cells) Y) (tv (tI (((cell:Nat):Int) - g.Cols)) Y) (by omega) hb4 U9 (JP hb4)) (gF (dy fhg34_3) Y Y (J6 (tv (T.int .u8 (Qv g.Cells (Int.toNat (((cell:Nat):Int) - g.Cols)))) Y) (VEv.int .u8 46)) (gF (nz fhg31_2) Y Y (OF.pickT (VEv.tmpB Y (dy fhg34_3)) (tv (tB (decide (Qv g.Cells (Int.toNat (((cell:Nat):Int) - g.Cols))=46))) Y)) (VRunO.nil ?_)))
      exact jq (congrArg T.bool (kAT fhg34_3 Y)) (js Y (js Y (js Y (js Y (js Y (js Y (js Y (jn))))))))
     ·refine QE 7 8 true 34 (dz fhg34_3) Y Y Y ?_
      refine gF (nz fhg31_2) Y Y (OF.pickF (VEv.tmpB Y (dz fhg34_3)) (VEv.bool false)) (VRunO.nil ?_)
      exact jq (congrArg T.bool (kAF fhg34_3)) (js Y (js Y (js Y (js Y (js Y (js Y (js Y (jn))))))))
    refine fO (OF.pickF (VEv.tmpB Y (nz fhg31_2)) (tv (tB (decide ((0<cell / g.Cols.toNat)∧(Qv g.Cells (Int.toNat (((cell:Nat):Int) - g.Cols))=46)))) Y)) (VRunO.nil ?_)
    exact jq (congrArg T.bool (kOF (not_not_intro fhg31_2) Y)) (js Y (js Y (js Y (js Y (js Y (js Y (js Y (js Y (js Y (js Y (js Y (jn))))))))))))
  refine nt ?_
  refine cd ((¬(Qv g.Cells cell=46))∨((0<cell / g.Cols.toNat)∧(Qv g.Cells (Int.toNat (((cell:Nat):Int) - g.Cols))=46))) Y (fun fhc1=> ?_) fun fhc1=> ?_
  ·refine sr ?_
   refine fO (OF.assign (VEv.int .i64 0)) (nt (rt (tr (vi (n':=0) Y ?_))))
   (refine zD fhc0 ?_;omega)
  refine sk (tn (sr (fO (OF.assign (VEv.int .i64 0)) (nt (sq (VRun.block ?_))))))
  refine VRun.loop (A:=Nat) (fun s_=> [(1,(tN cell)),(3,(T.op 0 0)),(6,(tN 0)),(7,(tI g.Cols)),(8,(tN (cell / g.Cols.toNat))),(9,(tI g.Rows)),(10,(tN s_))]) (fun s_=>QV [(0,(Obj.cells (Qd false g)))]) 1 (fun s_=>s_≤6∧Qa8 g cell down s_) (fun s_=>6 - s_) (0:Nat) ?_ (Wk.mk (fun k=>k) ?_ ?_ ?_) ?_
  ·exact ⟨Nat.zero_le _,Qb6 _ _ _⟩
  ·exact (b2 (b2 (b2 (b2 (b2 (b2 (b2 bn)))))))
  ·exact (b3 bn)
  ·exact nd Y
  rintro n (hI':n≤6∧Qa8 g cell down n)
  show VRun _ _ _ [(1,(tN cell)),(3,(T.op 0 0)),(6,(tN 0)),(7,(tI g.Cols)),(8,(tN (cell / g.Cols.toNat))),(9,(tI g.Rows)),(10,(tN n))] (QV [(0,(Obj.cells (Qd false g)))]) 1 _
  have hI1:=hI'.1
  have hN:=QhJ hI1 hB.1 hB.2
  have hC6:=hC4 n
  have hC7:=hC5 n
  refine sq (sr (mO (tN (cell / g.Cols.toNat)) Y (mO (tN n) Y (fO (B.add (n:=(((cell / g.Cols.toNat+n):Nat):Int)) (tv (tN (cell / g.Cols.toNat)) Y) (tv (tN n) Y) (by (rw [Qt (by omega)];omega))) (mO (tI g.Rows) Y (fO (xls (tv (tN (cell / g.Cols.toNat+n)) Y) (tv (tI g.Rows) Y)) (mO (tB (decide ((((cell / g.Cols.toNat+n):Nat):Int)<g.Rows))) Y ?_)))))))
  refine VRunO.joinB 10 [50,51,52,53,54,55,56,57,58] 59 (tB (decide (((((cell / g.Cols.toNat+n):Nat):Int)<g.Rows)∧(Qv g.Cells (Int.toNat (((cell:Nat):Int)+(((n:Nat):Int)*g.Cols)))=46)))) ?_ ?_
  ·refine gw ((((cell / g.Cols.toNat+n):Nat):Int)<g.Rows) (fun fhg49_5=> ?_) fun fhg49_5=> ?_
   ·refine Yu (tS g.Cells) (dy fhg49_5) Y Y Y Y QU Y Y YD ?_
    refine gF (dy fhg49_5) Y Y (OF.move (tv (tN cell) Y)) (gF (dy fhg49_5) Y Y (OF.move (tv (tN n) Y)) (gF (dy fhg49_5) Y Y (OF.move (tv (tI g.Cols) Y)) (gF (dy fhg49_5) Y Y (B.mul (n:=(((n:Nat):Int)*g.Cols)) (tv (tN n) Y) (tv (tI g.Cols) Y) (by (refine QjD ?_ ?_ ?_<;>omega))) (gF (dy fhg49_5) Y Y (B.add (n:=(((cell:Nat):Int)+(((n:Nat):Int)*g.Cols))) (tv (tN cell) Y) (tv (tI (((n:Nat):Int)*g.Cols)) Y) (by (rw [Qt (by omega)];done))) ?_))))
    have hb6:(Int.toNat (((cell:Nat):Int)+(((n:Nat):Int)*g.Cols)))<g.Cells.size:=(by omega)
    refine gF (dy fhg49_5) Y Y (B.index (n:=(Qv g.Cells (Int.toNat (((cell:Nat):Int)+(((n:Nat):Int)*g.Cols))))) (i:=(Int.toNat (((cell:Nat):Int)+(((n:Nat):Int)*g.Cols)))) (tv (tS g.Cells) Y) (tv (tI (((cell:Nat):Int)+(((n:Nat):Int)*g.Cols))) Y) (by omega) hb6 U9 (JP hb6)) (gF (dy fhg49_5) Y Y (J6 (tv (T.int .u8 (Qv g.Cells (Int.toNat (((cell:Nat):Int)+(((n:Nat):Int)*g.Cols))))) Y) (VEv.int .u8 46)) (fO (OF.pickT (VEv.tmpB Y (dy fhg49_5)) (tv (tB (decide (Qv g.Cells (Int.toNat (((cell:Nat):Int)+(((n:Nat):Int)*g.Cols)))=46))) Y)) (VRunO.nil ?_)))
    exact jq (congrArg T.bool (kAT fhg49_5 Y)) (js Y (js Y (js Y (js Y (js Y (js Y (js Y (js Y (js Y (jn))))))))))
   ·refine QE 9 5 true 49 (dz fhg49_5) Y Y Y ?_
    refine fO (OF.pickF (VEv.tmpB Y (dz fhg49_5)) (VEv.bool false)) (VRunO.nil ?_)
    exact jq (congrArg T.bool (kAF fhg49_5)) (js Y (js Y (js Y (js Y (js Y (js Y (js Y (js Y (js Y (jn))))))))))
  refine nt ?_
  refine cd (((((cell / g.Cols.toNat+n):Nat):Int)<g.Rows)∧(Qv g.Cells (Int.toNat (((cell:Nat):Int)+(((n:Nat):Int)*g.Cols)))=46)) Y (fun fhc2=> ?_) fun fhc2=> ?_
  ·refine sk ?_
   refine tn (VRun.block (VRun.region (mO (tN n) Y (fO (Qx (tv (tN n) Y) (VEv.int .i64 1) (by omega)) (aO (tN (n+1)) Y (VRunO.nil (vinB.n (tn ?_))))))))
   refine ⟨(n+1:Nat),?_,?_,Wk.mk (fun k=>k) ?_ ?_ ?_⟩
   ·(refine ⟨?_,Qm1 fhc0 hI'.2 ?_ ?_⟩<;>first | omega | (unfold slD;omega))
   ·omega
   ·exact (b2 (b2 (b2 (b2 (b2 (b2 (b2 bn)))))))
   ·exact (b3 bn)
   ·exact nd Y
  refine VRun.exit (vthn.e (vthn.e (vinB.e (tn (sr (mO (tN n) Y (aO (tN n) Y (nt (rt (vi (n':=((n:Nat):Int)) Y ?_))))))))))
  (refine rD fhc0 ?_ hI'.2 ?_<;>first | omega | (unfold slD;omega))
 have fhc0:down=false:=hc0
 refine sk (tn (sq (sr (lf (tS g.Cells) Y QU Y Y YD (mO (tN cell) Y ?_)))))
 have hb7:cell<g.Cells.size:=(by omega)
 refine fO (xix (tv (tS g.Cells) Y) (tv (tN cell) Y) hb7 U9) (fO (xne (tv (T.int .u8 (Qv g.Cells cell)) Y) (VEv.int .u8 46)) (mO (tB (!(decide (Qv g.Cells cell=46)))) Y ?_))
 refine VRunO.joinB 12 [32,33,34,35,36,37,38,39,40,41,42] 43 (tB (decide ((¬(Qv g.Cells cell=46))∨((0<cell % g.Cols.toNat)∧(Qv g.Cells (Int.toNat (((cell:Nat):Int) - 1))=46))))) ?_ ?_
 ·refine gn (Qv g.Cells cell=46) (fun fhg31_8=> ?_) fun fhg31_8=> ?_
  ·refine QE 3 5 false 31 (ny fhg31_8) Y Y Y ?_
   refine Qbv 7 8 true 34 Y Y Y (oO Y Y (ny fhg31_8) (fO (OF.pickT (VEv.tmpB Y (ny fhg31_8)) (VEv.bool true)) (VRunO.nil ?_)))
   exact jq (congrArg T.bool (kOT fhg31_8)) (js Y (js Y (js Y (js Y (js Y (js Y (js Y (js Y (js Y (js Y (js Y (jn))))))))))))
  ·refine gF (nz fhg31_8) Y Y (OF.move (tv (tN (cell % g.Cols.toNat)) Y)) ?_
   refine gF (nz fhg31_8) Y Y (B.gtr (c:=(decide (0<cell % g.Cols.toNat))) (tv (tN (cell % g.Cols.toNat)) Y) (VEv.int .i64 0) (by exact Q8 (by omega))) (gF (nz fhg31_8) Y Y (OF.move (tv (tB (decide (0<cell % g.Cols.toNat))) Y)) ?_)
   refine VRunO.joinB 8 [35,36,37,38,39,40,41] 42 (tB (decide ((0<cell % g.Cols.toNat)∧(Qv g.Cells (Int.toNat (((cell:Nat):Int) - 1))=46)))) ?_ ?_
   ·refine gw (0<cell % g.Cols.toNat) (fun fhg34_9=> ?_) fun fhg34_9=> ?_
    ·refine Yu (tS g.Cells) (dy fhg34_9) Y Y Y Y QU Y Y YD ?_
     refine gF (dy fhg34_9) Y Y (OF.move (tv (tN cell) Y)) (gF (dy fhg34_9) Y Y (OF.move (tv (tN 1) Y)) (gF (dy fhg34_9) Y Y (B.sub (n:=(((cell:Nat):Int) - 1)) (tv (tN cell) Y) (tv (tN 1) Y) (by (rw [Qt (by omega)];omega))) ?_))
     have hb10:(Int.toNat (((cell:Nat):Int) - 1))<g.Cells.size:=(by omega)
     refine gF (dy fhg34_9) Y Y (B.index (n:=(Qv g.Cells (Int.toNat (((cell:Nat):Int) - 1)))) (i:=(Int.toNat (((cell:Nat):Int) - 1))) (tv (tS g.Cells) Y) (tv (tI (((cell:Nat):Int) - 1)) Y) (by omega) hb10 U9 (JP hb10)) (gF (dy fhg34_9) Y Y (J6 (tv (T.int .u8 (Qv g.Cells (Int.toNat (((cell:Nat):Int) - 1)))) Y) (VEv.int .u8 46)) (gF (nz fhg31_8) Y Y (OF.pickT (VEv.tmpB Y (dy fhg34_9)) (tv (tB (decide (Qv g.Cells (Int.toNat (((cell:Nat):Int) - 1))=46))) Y)) (VRunO.nil ?_)))
     exact jq (congrArg T.bool (kAT fhg34_9 Y)) (js Y (js Y (js Y (js Y (js Y (js Y (js Y (jn))))))))
    ·refine QE 7 8 true 34 (dz fhg34_9) Y Y Y ?_
     refine gF (nz fhg31_8) Y Y (OF.pickF (VEv.tmpB Y (dz fhg34_9)) (VEv.bool false)) (VRunO.nil ?_)
     exact jq (congrArg T.bool (kAF fhg34_9)) (js Y (js Y (js Y (js Y (js Y (js Y (js Y (jn))))))))
   refine fO (OF.pickF (VEv.tmpB Y (nz fhg31_8)) (tv (tB (decide ((0<cell % g.Cols.toNat)∧(Qv g.Cells (Int.toNat (((cell:Nat):Int) - 1))=46)))) Y)) (VRunO.nil ?_)
   exact jq (congrArg T.bool (kOF (not_not_intro fhg31_8) Y)) (js Y (js Y (js Y (js Y (js Y (js Y (js Y (js Y (js Y (js Y (js Y (jn))))))))))))
 refine nt ?_
 refine cd ((¬(Qv g.Cells cell=46))∨((0<cell % g.Cols.toNat)∧(Qv g.Cells (Int.toNat (((cell:Nat):Int) - 1))=46))) Y (fun fhc1=> ?_) fun fhc1=> ?_
 ·refine sr ?_
  refine fO (OF.assign (VEv.int .i64 0)) (nt (rt (tr (vi (n':=0) Y ?_))))
  (refine zA fhc0 ?_;omega)
 refine sk (tn (sr (fO (OF.assign (VEv.int .i64 0)) (nt (sq (VRun.block ?_))))))
 refine VRun.loop (A:=Nat) (fun s_=> [(1,(tN cell)),(3,(T.op 0 0)),(6,(tN 0)),(7,(tN 1)),(8,(tN (cell % g.Cols.toNat))),(9,(tI g.Cols)),(10,(tN s_))]) (fun s_=>QV [(0,(Obj.cells (Qd false g)))]) 1 (fun s_=>s_≤6∧Qa8 g cell down s_) (fun s_=>6 - s_) (0:Nat) ?_ (Wk.mk (fun k=>k) ?_ ?_ ?_) ?_
 ·exact ⟨Nat.zero_le _,Qb6 _ _ _⟩
 ·exact (b2 (b2 (b2 (b2 (b2 (b2 (b2 bn)))))))
 ·exact (b3 bn)
 ·exact nd Y
 rintro n (hI':n≤6∧Qa8 g cell down n)
 show VRun _ _ _ [(1,(tN cell)),(3,(T.op 0 0)),(6,(tN 0)),(7,(tN 1)),(8,(tN (cell % g.Cols.toNat))),(9,(tI g.Cols)),(10,(tN n))] (QV [(0,(Obj.cells (Qd false g)))]) 1 _
 have hI1:=hI'.1
 have hN:=QhJ hI1 hB.1 hB.2
 have hC6:=hC4 n
 have hC7:=hC5 n
 refine sq (sr (mO (tN (cell % g.Cols.toNat)) Y (mO (tN n) Y (fO (B.add (n:=(((cell % g.Cols.toNat+n):Nat):Int)) (tv (tN (cell % g.Cols.toNat)) Y) (tv (tN n) Y) (by (rw [Qt (by omega)];omega))) (mO (tI g.Cols) Y (fO (xls (tv (tN (cell % g.Cols.toNat+n)) Y) (tv (tI g.Cols) Y)) (mO (tB (decide ((((cell % g.Cols.toNat+n):Nat):Int)<g.Cols))) Y ?_)))))))
 refine VRunO.joinB 10 [50,51,52,53,54,55,56,57,58] 59 (tB (decide (((((cell % g.Cols.toNat+n):Nat):Int)<g.Cols)∧(Qv g.Cells (cell+(n*1))=46)))) ?_ ?_
 ·refine gw ((((cell % g.Cols.toNat+n):Nat):Int)<g.Cols) (fun fhg49_11=> ?_) fun fhg49_11=> ?_
  ·refine Yu (tS g.Cells) (dy fhg49_11) Y Y Y Y QU Y Y YD ?_
   refine gF (dy fhg49_11) Y Y (OF.move (tv (tN cell) Y)) (gF (dy fhg49_11) Y Y (OF.move (tv (tN n) Y)) (gF (dy fhg49_11) Y Y (OF.move (tv (tN 1) Y)) (gF (dy fhg49_11) Y Y (B.mul (n:=(((n*1):Nat):Int)) (tv (tN n) Y) (tv (tN 1) Y) (by (rw [Qt (by omega)];omega))) (gF (dy fhg49_11) Y Y (B.add (n:=(((cell+(n*1)):Nat):Int)) (tv (tN cell) Y) (tv (tN (n*1)) Y) (by (rw [Qt (by omega)];omega))) ?_))))
   have hb12:(cell+(n*1))<g.Cells.size:=(by omega)
   refine gF (dy fhg49_11) Y Y (xix (tv (tS g.Cells) Y) (tv (tN (cell+(n*1))) Y) hb12 U9) (gF (dy fhg49_11) Y Y (J6 (tv (T.int .u8 (Qv g.Cells (cell+(n*1)))) Y) (VEv.int .u8 46)) (fO (OF.pickT (VEv.tmpB Y (dy fhg49_11)) (tv (tB (decide (Qv g.Cells (cell+(n*1))=46))) Y)) (VRunO.nil ?_)))
   exact jq (congrArg T.bool (kAT fhg49_11 Y)) (js Y (js Y (js Y (js Y (js Y (js Y (js Y (js Y (js Y (jn))))))))))
  ·refine QE 9 5 true 49 (dz fhg49_11) Y Y Y ?_
   refine fO (OF.pickF (VEv.tmpB Y (dz fhg49_11)) (VEv.bool false)) (VRunO.nil ?_)
   exact jq (congrArg T.bool (kAF fhg49_11)) (js Y (js Y (js Y (js Y (js Y (js Y (js Y (js Y (js Y (jn))))))))))
 refine nt ?_
 refine cd (((((cell % g.Cols.toNat+n):Nat):Int)<g.Cols)∧(Qv g.Cells (cell+(n*1))=46)) Y (fun fhc2=> ?_) fun fhc2=> ?_
 ·refine sk ?_
  refine tn (VRun.block (VRun.region (mO (tN n) Y (fO (Qx (tv (tN n) Y) (VEv.int .i64 1) (by omega)) (aO (tN (n+1)) Y (VRunO.nil (vinB.n (tn ?_))))))))
  refine ⟨(n+1:Nat),?_,?_,Wk.mk (fun k=>k) ?_ ?_ ?_⟩
  ·(refine ⟨?_,QmW fhc0 hI'.2 ?_ ?_⟩<;>first | omega | (unfold slA;omega))
  ·omega
  ·exact (b2 (b2 (b2 (b2 (b2 (b2 (b2 bn)))))))
  ·exact (b3 bn)
  ·exact nd Y
 refine VRun.exit (vthn.e (vthn.e (vinB.e (tn (sr (mO (tN n) Y (aO (tN n) Y (nt (rt (vi (n':=((n:Nat):Int)) Y ?_))))))))))
 (refine rA fhc0 ?_ hI'.2 ?_<;>first | omega | (unfold slA;omega))
theorem QeZ (n:Nat) (g:D.Grid) (cell:Nat) (down:Bool) (hg:gridOk g) (hc:cell<g.Cells.size):Pure (Qs Tryz.prog (n+1)) 112 [(T.agg (Qd false g)),(tN cell),(tB down)] (tN (Qq g cell down)):=by
 refine Pure.intro (rs:= [ResultVar.tmp 6]) Tryz.func112 Y Y Y (E0:= [(0,(T.agg (Qd false g))),(1,(tN cell)),(2,(tB down))]) Y ?_
 obtain ⟨hlim,hmx,hmax⟩:=QA
 have hsz:=hg.size
 have hA:=hg.1
 have hB:=hg.2.1
 obtain ⟨hC1,hC2,hC3,hC4,hC5⟩:=Qb9 hg hc
 have hq0:0≤((cell:Nat):Int) / ((g.Cols.toNat:Nat):Int):=Int.ediv_nonneg (by omega) (by omega)
 have hm0:0≤((cell:Nat):Int) % ((g.Cols.toNat:Nat):Int):=Int.emod_nonneg _ (by omega)
 refine sr (kO (B.box (ts:=(Qd false g)) (tv (T.agg (Qd false g)) Y) nofun Y) (fO (OF.assign (VEv.int .i64 0)) (nt (sq (VRun.draw (B:= [[],[],[1],[1,2,0],[],[4],[],[6,0,2,1,3],[3,1,2,0,6,7,4,5]]) (by kernel_rfl) (by kernel_rfl) Y (mD (tN cell) Y Y (fD (OF.fieldAddrO (tv (T.op 0 0) Y) ZE) Y Y (lD (OL.loadO1 (t:=(tI g.Cols)) (tv (T.op 0 1) Y) Y Y QQ) Y Y (fD (B.rem (n:=((cell % g.Cols.toNat:Nat):Int)) (tv (tN cell) Y) (tv (tI g.Cols) Y) (by omega) (by (refine Qml ?_;omega))) Y Y (fD (OF.fieldAddrO (tv (T.op 0 0) Y) ZE) Y Y (lD (OL.loadO1 (t:=(tI g.Cols)) (tv (T.op 0 1) Y) Y Y QQ) Y Y ?_)))))))))))
 refine fD (OF.assign (VEv.int .i64 1)) Y Y (fD (OF.assign (tv (tN (cell % g.Cols.toNat)) Y)) Y Y (fD (OF.assign (tv (tI g.Cols) Y)) Y Y (VRunD.nil (tn (sq (sr (mO (tB down) Y (nt ?_))))))))
 refine VRun.cond (tv (tB down) Y) (fun hc0=> ?_) (fun hc0=> ?_)
 ·have fhc0:down=true:=hc0
  refine VRun.draw (B:= [[],[0],[],[],[3],[3,4,2],[],[6],[0,1],[1,0,8,2,4,3,5],[5,3,4,2,8,0,1,9,6,7]]) (by kernel_rfl) (by kernel_rfl) Y (fD (OF.fieldAddrO (tv (T.op 0 0) Y) ZE) Y Y (lD (OL.loadO1 (t:=(tI g.Cols)) (tv (T.op 0 1) Y) Y Y QQ) Y Y (mD (tN cell) Y Y (fD (OF.fieldAddrO (tv (T.op 0 0) Y) ZE) Y Y (lD (OL.loadO1 (t:=(tI g.Cols)) (tv (T.op 0 1) Y) Y Y QQ) Y Y (fD (B.quo (n:=((cell / g.Cols.toNat:Nat):Int)) (tv (tN cell) Y) (tv (tI g.Cols) Y) (by omega) (by (refine QnM ?_ ?_<;>omega))) Y Y (fD (OF.fieldAddrO (tv (T.op 0 0) Y) QaR) Y Y (lD (OL.loadO1 (t:=(tI g.Rows)) (tv (T.op 0 0) Y) Y Y QQ) Y Y (fD (OF.assign (tv (tI g.Cols) Y)) Y Y (fD (OF.assign (tv (tN (cell / g.Cols.toNat)) Y)) Y Y (fD (OF.assign (tv (tI g.Rows) Y)) Y Y ?_)))))))))))
  refine VRunD.nil (tn (sq (sr (lf (tS g.Cells) Y QU Y Y YD (mO (tN cell) Y ?_)))))
  have hb1:cell<g.Cells.size:=(by omega)
  refine fO (xix (tv (tS g.Cells) Y) (tv (tN cell) Y) hb1 U9) (fO (xne (tv (T.int .u8 (Qv g.Cells cell)) Y) (VEv.int .u8 46)) (mO (tB (!(decide (Qv g.Cells cell=46)))) Y ?_))
  refine VRunO.joinB 12 [32,33,34,35,36,37,38,39,40,41,42] 43 (tB (decide ((¬(Qv g.Cells cell=46))∨((0<cell / g.Cols.toNat)∧(Qv g.Cells (Int.toNat (((cell:Nat):Int) - g.Cols))=46))))) ?_ ?_
  ·refine gn (Qv g.Cells cell=46) (fun fhg31_2=> ?_) fun fhg31_2=> ?_
   ·refine QE 3 5 false 31 (ny fhg31_2) Y Y Y ?_
    refine Qbv 7 8 true 34 Y Y Y (oO Y Y (ny fhg31_2) (fO (OF.pickT (VEv.tmpB Y (ny fhg31_2)) (VEv.bool true)) (VRunO.nil ?_)))
    exact jq (congrArg T.bool (kOT fhg31_2)) (js Y (js Y (js Y (js Y (js Y (js Y (js Y (js Y (js Y (js Y (js Y (jn))))))))))))
   ·refine gF (nz fhg31_2) Y Y (OF.move (tv (tN (cell / g.Cols.toNat)) Y)) ?_
    refine gF (nz fhg31_2) Y Y (B.gtr (c:=(decide (0<cell / g.Cols.toNat))) (tv (tN (cell / g.Cols.toNat)) Y) (VEv.int .i64 0) (by exact Q8 (by omega))) (gF (nz fhg31_2) Y Y (OF.move (tv (tB (decide (0<cell / g.Cols.toNat))) Y)) ?_)
    refine VRunO.joinB 8 [35,36,37,38,39,40,41] 42 (tB (decide ((0<cell / g.Cols.toNat)∧(Qv g.Cells (Int.toNat (((cell:Nat):Int) - g.Cols))=46)))) ?_ ?_
    ·refine gw (0<cell / g.Cols.toNat) (fun fhg34_3=> ?_) fun fhg34_3=> ?_
     ·refine Yu (tS g.Cells) (dy fhg34_3) Y Y Y Y QU Y Y YD ?_
      refine gF (dy fhg34_3) Y Y (OF.move (tv (tN cell) Y)) (gF (dy fhg34_3) Y Y (OF.move (tv (tI g.Cols) Y)) (gF (dy fhg34_3) Y Y (B.sub (n:=(((cell:Nat):Int) - g.Cols)) (tv (tN cell) Y) (tv (tI g.Cols) Y) (by (rw [Qt (by omega)];done))) ?_))
      have hb4:(Int.toNat (((cell:Nat):Int) - g.Cols))<g.Cells.size:=(by omega)
      refine gF (dy fhg34_3) Y Y (B.index (n:=(Qv g.Cells (Int.toNat (((cell:Nat):Int) - g.Cols)))) (i:=(Int.toNat (((cell:Nat):Int) - g.Cols))) (tv (tS g.Cells) Y) (tv (tI (((cell:Nat):Int) - g.Cols)) Y) (by omega) hb4 U9 (JP hb4)) (gF (dy fhg34_3) Y Y (J6 (tv (T.int .u8 (Qv g.Cells (Int.toNat (((cell:Nat):Int) - g.Cols)))) Y) (VEv.int .u8 46)) (gF (nz fhg31_2) Y Y (OF.pickT (VEv.tmpB Y (dy fhg34_3)) (tv (tB (decide (Qv g.Cells (Int.toNat (((cell:Nat):Int) - g.Cols))=46))) Y)) (VRunO.nil ?_)))
      exact jq (congrArg T.bool (kAT fhg34_3 Y)) (js Y (js Y (js Y (js Y (js Y (js Y (js Y (jn))))))))
     ·refine QE 7 8 true 34 (dz fhg34_3) Y Y Y ?_
      refine gF (nz fhg31_2) Y Y (OF.pickF (VEv.tmpB Y (dz fhg34_3)) (VEv.bool false)) (VRunO.nil ?_)
      exact jq (congrArg T.bool (kAF fhg34_3)) (js Y (js Y (js Y (js Y (js Y (js Y (js Y (jn))))))))
    refine fO (OF.pickF (VEv.tmpB Y (nz fhg31_2)) (tv (tB (decide ((0<cell / g.Cols.toNat)∧(Qv g.Cells (Int.toNat (((cell:Nat):Int) - g.Cols))=46)))) Y)) (VRunO.nil ?_)
    exact jq (congrArg T.bool (kOF (not_not_intro fhg31_2) Y)) (js Y (js Y (js Y (js Y (js Y (js Y (js Y (js Y (js Y (js Y (js Y (jn))))))))))))
  refine nt ?_
  refine cd ((¬(Qv g.Cells cell=46))∨((0<cell / g.Cols.toNat)∧(Qv g.Cells (Int.toNat (((cell:Nat):Int) - g.Cols))=46))) Y (fun fhc1=> ?_) fun fhc1=> ?_
  ·refine sr ?_
   refine fO (OF.assign (VEv.int .i64 0)) (nt (rt (tr (vi (n':=0) Y ?_))))
   (refine zD fhc0 ?_;omega)
  refine sk (tn (sr (fO (OF.assign (VEv.int .i64 0)) (nt (sq (VRun.block ?_))))))
  refine VRun.loop (A:=Nat) (fun s_=> [(1,(tN cell)),(3,(T.op 0 0)),(6,(tN 0)),(7,(tI g.Cols)),(8,(tN (cell / g.Cols.toNat))),(9,(tI g.Rows)),(10,(tN s_))]) (fun s_=>QV [(0,(Obj.cells (Qd false g)))]) 1 (fun s_=>s_≤6∧Qa8 g cell down s_) (fun s_=>6 - s_) (0:Nat) ?_ (Wk.mk (fun k=>k) ?_ ?_ ?_) ?_
  ·exact ⟨Nat.zero_le _,Qb6 _ _ _⟩
  ·exact (b2 (b2 (b2 (b2 (b2 (b2 (b2 bn)))))))
  ·exact (b3 bn)
  ·exact nd Y
  rintro n (hI':n≤6∧Qa8 g cell down n)
  show VRun _ _ _ [(1,(tN cell)),(3,(T.op 0 0)),(6,(tN 0)),(7,(tI g.Cols)),(8,(tN (cell / g.Cols.toNat))),(9,(tI g.Rows)),(10,(tN n))] (QV [(0,(Obj.cells (Qd false g)))]) 1 _
  have hI1:=hI'.1
  have hN:=QhJ hI1 hB.1 hB.2
  have hC6:=hC4 n
  have hC7:=hC5 n
  refine sq (sr (mO (tN (cell / g.Cols.toNat)) Y (mO (tN n) Y (fO (B.add (n:=(((cell / g.Cols.toNat+n):Nat):Int)) (tv (tN (cell / g.Cols.toNat)) Y) (tv (tN n) Y) (by (rw [Qt (by omega)];omega))) (mO (tI g.Rows) Y (fO (xls (tv (tN (cell / g.Cols.toNat+n)) Y) (tv (tI g.Rows) Y)) (mO (tB (decide ((((cell / g.Cols.toNat+n):Nat):Int)<g.Rows))) Y ?_)))))))
  refine VRunO.joinB 10 [50,51,52,53,54,55,56,57,58] 59 (tB (decide (((((cell / g.Cols.toNat+n):Nat):Int)<g.Rows)∧(Qv g.Cells (Int.toNat (((cell:Nat):Int)+(((n:Nat):Int)*g.Cols)))=46)))) ?_ ?_
  ·refine gw ((((cell / g.Cols.toNat+n):Nat):Int)<g.Rows) (fun fhg49_5=> ?_) fun fhg49_5=> ?_
   ·refine Yu (tS g.Cells) (dy fhg49_5) Y Y Y Y QU Y Y YD ?_
    refine gF (dy fhg49_5) Y Y (OF.move (tv (tN cell) Y)) (gF (dy fhg49_5) Y Y (OF.move (tv (tN n) Y)) (gF (dy fhg49_5) Y Y (OF.move (tv (tI g.Cols) Y)) (gF (dy fhg49_5) Y Y (B.mul (n:=(((n:Nat):Int)*g.Cols)) (tv (tN n) Y) (tv (tI g.Cols) Y) (by (refine QjD ?_ ?_ ?_<;>omega))) (gF (dy fhg49_5) Y Y (B.add (n:=(((cell:Nat):Int)+(((n:Nat):Int)*g.Cols))) (tv (tN cell) Y) (tv (tI (((n:Nat):Int)*g.Cols)) Y) (by (rw [Qt (by omega)];done))) ?_))))
    have hb6:(Int.toNat (((cell:Nat):Int)+(((n:Nat):Int)*g.Cols)))<g.Cells.size:=(by omega)
    refine gF (dy fhg49_5) Y Y (B.index (n:=(Qv g.Cells (Int.toNat (((cell:Nat):Int)+(((n:Nat):Int)*g.Cols))))) (i:=(Int.toNat (((cell:Nat):Int)+(((n:Nat):Int)*g.Cols)))) (tv (tS g.Cells) Y) (tv (tI (((cell:Nat):Int)+(((n:Nat):Int)*g.Cols))) Y) (by omega) hb6 U9 (JP hb6)) (gF (dy fhg49_5) Y Y (J6 (tv (T.int .u8 (Qv g.Cells (Int.toNat (((cell:Nat):Int)+(((n:Nat):Int)*g.Cols))))) Y) (VEv.int .u8 46)) (fO (OF.pickT (VEv.tmpB Y (dy fhg49_5)) (tv (tB (decide (Qv g.Cells (Int.toNat (((cell:Nat):Int)+(((n:Nat):Int)*g.Cols)))=46))) Y)) (VRunO.nil ?_)))
    exact jq (congrArg T.bool (kAT fhg49_5 Y)) (js Y (js Y (js Y (js Y (js Y (js Y (js Y (js Y (js Y (jn))))))))))
   ·refine QE 9 5 true 49 (dz fhg49_5) Y Y Y ?_
    refine fO (OF.pickF (VEv.tmpB Y (dz fhg49_5)) (VEv.bool false)) (VRunO.nil ?_)
    exact jq (congrArg T.bool (kAF fhg49_5)) (js Y (js Y (js Y (js Y (js Y (js Y (js Y (js Y (js Y (jn))))))))))
  refine nt ?_
  refine cd (((((cell / g.Cols.toNat+n):Nat):Int)<g.Rows)∧(Qv g.Cells (Int.toNat (((cell:Nat):Int)+(((n:Nat):Int)*g.Cols)))=46)) Y (fun fhc2=> ?_) fun fhc2=> ?_
  ·refine sk ?_
   refine tn (VRun.block (VRun.region (mO (tN n) Y (fO (Qx (tv (tN n) Y) (VEv.int .i64 1) (by omega)) (aO (tN (n+1)) Y (VRunO.nil (vinB.n (tn ?_))))))))
   refine ⟨(n+1:Nat),?_,?_,Wk.mk (fun k=>k) ?_ ?_ ?_⟩
   ·(refine ⟨?_,Qm1 fhc0 hI'.2 ?_ ?_⟩<;>first | omega | (unfold slD;omega))
   ·omega
   ·exact (b2 (b2 (b2 (b2 (b2 (b2 (b2 bn)))))))
   ·exact (b3 bn)
   ·exact nd Y
  refine VRun.exit (vthn.e (vthn.e (vinB.e (tn (sr (mO (tN n) Y (aO (tN n) Y (nt (rt (vi (n':=((n:Nat):Int)) Y ?_))))))))))
  (refine rD fhc0 ?_ hI'.2 ?_<;>first | omega | (unfold slD;omega))
 have fhc0:down=false:=hc0
 refine sk (tn (sq (sr (lf (tS g.Cells) Y QU Y Y YD (mO (tN cell) Y ?_)))))
 have hb7:cell<g.Cells.size:=(by omega)
 refine fO (xix (tv (tS g.Cells) Y) (tv (tN cell) Y) hb7 U9) (fO (xne (tv (T.int .u8 (Qv g.Cells cell)) Y) (VEv.int .u8 46)) (mO (tB (!(decide (Qv g.Cells cell=46)))) Y ?_))
 refine VRunO.joinB 12 [32,33,34,35,36,37,38,39,40,41,42] 43 (tB (decide ((¬(Qv g.Cells cell=46))∨((0<cell % g.Cols.toNat)∧(Qv g.Cells (Int.toNat (((cell:Nat):Int) - 1))=46))))) ?_ ?_
 ·refine gn (Qv g.Cells cell=46) (fun fhg31_8=> ?_) fun fhg31_8=> ?_
  ·refine QE 3 5 false 31 (ny fhg31_8) Y Y Y ?_
   refine Qbv 7 8 true 34 Y Y Y (oO Y Y (ny fhg31_8) (fO (OF.pickT (VEv.tmpB Y (ny fhg31_8)) (VEv.bool true)) (VRunO.nil ?_)))
   exact jq (congrArg T.bool (kOT fhg31_8)) (js Y (js Y (js Y (js Y (js Y (js Y (js Y (js Y (js Y (js Y (js Y (jn))))))))))))
  ·refine gF (nz fhg31_8) Y Y (OF.move (tv (tN (cell % g.Cols.toNat)) Y)) ?_
   refine gF (nz fhg31_8) Y Y (B.gtr (c:=(decide (0<cell % g.Cols.toNat))) (tv (tN (cell % g.Cols.toNat)) Y) (VEv.int .i64 0) (by exact Q8 (by omega))) (gF (nz fhg31_8) Y Y (OF.move (tv (tB (decide (0<cell % g.Cols.toNat))) Y)) ?_)
   refine VRunO.joinB 8 [35,36,37,38,39,40,41] 42 (tB (decide ((0<cell % g.Cols.toNat)∧(Qv g.Cells (Int.toNat (((cell:Nat):Int) - 1))=46)))) ?_ ?_
   ·refine gw (0<cell % g.Cols.toNat) (fun fhg34_9=> ?_) fun fhg34_9=> ?_
    ·refine Yu (tS g.Cells) (dy fhg34_9) Y Y Y Y QU Y Y YD ?_
     refine gF (dy fhg34_9) Y Y (OF.move (tv (tN cell) Y)) (gF (dy fhg34_9) Y Y (OF.move (tv (tN 1) Y)) (gF (dy fhg34_9) Y Y (B.sub (n:=(((cell:Nat):Int) - 1)) (tv (tN cell) Y) (tv (tN 1) Y) (by (rw [Qt (by omega)];omega))) ?_))
     have hb10:(Int.toNat (((cell:Nat):Int) - 1))<g.Cells.size:=(by omega)
     refine gF (dy fhg34_9) Y Y (B.index (n:=(Qv g.Cells (Int.toNat (((cell:Nat):Int) - 1)))) (i:=(Int.toNat (((cell:Nat):Int) - 1))) (tv (tS g.Cells) Y) (tv (tI (((cell:Nat):Int) - 1)) Y) (by omega) hb10 U9 (JP hb10)) (gF (dy fhg34_9) Y Y (J6 (tv (T.int .u8 (Qv g.Cells (Int.toNat (((cell:Nat):Int) - 1)))) Y) (VEv.int .u8 46)) (gF (nz fhg31_8) Y Y (OF.pickT (VEv.tmpB Y (dy fhg34_9)) (tv (tB (decide (Qv g.Cells (Int.toNat (((cell:Nat):Int) - 1))=46))) Y)) (VRunO.nil ?_)))
     exact jq (congrArg T.bool (kAT fhg34_9 Y)) (js Y (js Y (js Y (js Y (js Y (js Y (js Y (jn))))))))
    ·refine QE 7 8 true 34 (dz fhg34_9) Y Y Y ?_
     refine gF (nz fhg31_8) Y Y (OF.pickF (VEv.tmpB Y (dz fhg34_9)) (VEv.bool false)) (VRunO.nil ?_)
     exact jq (congrArg T.bool (kAF fhg34_9)) (js Y (js Y (js Y (js Y (js Y (js Y (js Y (jn))))))))
   refine fO (OF.pickF (VEv.tmpB Y (nz fhg31_8)) (tv (tB (decide ((0<cell % g.Cols.toNat)∧(Qv g.Cells (Int.toNat (((cell:Nat):Int) - 1))=46)))) Y)) (VRunO.nil ?_)
   exact jq (congrArg T.bool (kOF (not_not_intro fhg31_8) Y)) (js Y (js Y (js Y (js Y (js Y (js Y (js Y (js Y (js Y (js Y (js Y (jn))))))))))))
 refine nt ?_
 refine cd ((¬(Qv g.Cells cell=46))∨((0<cell % g.Cols.toNat)∧(Qv g.Cells (Int.toNat (((cell:Nat):Int) - 1))=46))) Y (fun fhc1=> ?_) fun fhc1=> ?_
 ·refine sr ?_
  refine fO (OF.assign (VEv.int .i64 0)) (nt (rt (tr (vi (n':=0) Y ?_))))
  (refine zA fhc0 ?_;omega)
 refine sk (tn (sr (fO (OF.assign (VEv.int .i64 0)) (nt (sq (VRun.block ?_))))))
 refine VRun.loop (A:=Nat) (fun s_=> [(1,(tN cell)),(3,(T.op 0 0)),(6,(tN 0)),(7,(tN 1)),(8,(tN (cell % g.Cols.toNat))),(9,(tI g.Cols)),(10,(tN s_))]) (fun s_=>QV [(0,(Obj.cells (Qd false g)))]) 1 (fun s_=>s_≤6∧Qa8 g cell down s_) (fun s_=>6 - s_) (0:Nat) ?_ (Wk.mk (fun k=>k) ?_ ?_ ?_) ?_
 ·exact ⟨Nat.zero_le _,Qb6 _ _ _⟩
 ·exact (b2 (b2 (b2 (b2 (b2 (b2 (b2 bn)))))))
 ·exact (b3 bn)
 ·exact nd Y
 rintro n (hI':n≤6∧Qa8 g cell down n)
 show VRun _ _ _ [(1,(tN cell)),(3,(T.op 0 0)),(6,(tN 0)),(7,(tN 1)),(8,(tN (cell % g.Cols.toNat))),(9,(tI g.Cols)),(10,(tN n))] (QV [(0,(Obj.cells (Qd false g)))]) 1 _
 have hI1:=hI'.1
 have hN:=QhJ hI1 hB.1 hB.2
 have hC6:=hC4 n
 have hC7:=hC5 n
 refine sq (sr (mO (tN (cell % g.Cols.toNat)) Y (mO (tN n) Y (fO (B.add (n:=(((cell % g.Cols.toNat+n):Nat):Int)) (tv (tN (cell % g.Cols.toNat)) Y) (tv (tN n) Y) (by (rw [Qt (by omega)];omega))) (mO (tI g.Cols) Y (fO (xls (tv (tN (cell % g.Cols.toNat+n)) Y) (tv (tI g.Cols) Y)) (mO (tB (decide ((((cell % g.Cols.toNat+n):Nat):Int)<g.Cols))) Y ?_)))))))
 refine VRunO.joinB 10 [50,51,52,53,54,55,56,57,58] 59 (tB (decide (((((cell % g.Cols.toNat+n):Nat):Int)<g.Cols)∧(Qv g.Cells (cell+(n*1))=46)))) ?_ ?_
 ·refine gw ((((cell % g.Cols.toNat+n):Nat):Int)<g.Cols) (fun fhg49_11=> ?_) fun fhg49_11=> ?_
  ·refine Yu (tS g.Cells) (dy fhg49_11) Y Y Y Y QU Y Y YD ?_
   refine gF (dy fhg49_11) Y Y (OF.move (tv (tN cell) Y)) (gF (dy fhg49_11) Y Y (OF.move (tv (tN n) Y)) (gF (dy fhg49_11) Y Y (OF.move (tv (tN 1) Y)) (gF (dy fhg49_11) Y Y (B.mul (n:=(((n*1):Nat):Int)) (tv (tN n) Y) (tv (tN 1) Y) (by (rw [Qt (by omega)];omega))) (gF (dy fhg49_11) Y Y (B.add (n:=(((cell+(n*1)):Nat):Int)) (tv (tN cell) Y) (tv (tN (n*1)) Y) (by (rw [Qt (by omega)];omega))) ?_))))
   have hb12:(cell+(n*1))<g.Cells.size:=(by omega)
   refine gF (dy fhg49_11) Y Y (xix (tv (tS g.Cells) Y) (tv (tN (cell+(n*1))) Y) hb12 U9) (gF (dy fhg49_11) Y Y (J6 (tv (T.int .u8 (Qv g.Cells (cell+(n*1)))) Y) (VEv.int .u8 46)) (fO (OF.pickT (VEv.tmpB Y (dy fhg49_11)) (tv (tB (decide (Qv g.Cells (cell+(n*1))=46))) Y)) (VRunO.nil ?_)))
   exact jq (congrArg T.bool (kAT fhg49_11 Y)) (js Y (js Y (js Y (js Y (js Y (js Y (js Y (js Y (js Y (jn))))))))))
  ·refine QE 9 5 true 49 (dz fhg49_11) Y Y Y ?_
   refine fO (OF.pickF (VEv.tmpB Y (dz fhg49_11)) (VEv.bool false)) (VRunO.nil ?_)
   exact jq (congrArg T.bool (kAF fhg49_11)) (js Y (js Y (js Y (js Y (js Y (js Y (js Y (js Y (js Y (jn))))))))))
 refine nt ?_
 refine cd (((((cell % g.Cols.toNat+n):Nat):Int)<g.Cols)∧(Qv g.Cells (cell+(n*1))=46)) Y (fun fhc2=> ?_) fun fhc2=> ?_
 ·refine sk ?_
  refine tn (VRun.block (VRun.region (mO (tN n) Y (fO (Qx (tv (tN n) Y) (VEv.int .i64 1) (by omega)) (aO (tN (n+1)) Y (VRunO.nil (vinB.n (tn ?_))))))))
  refine ⟨(n+1:Nat),?_,?_,Wk.mk (fun k=>k) ?_ ?_ ?_⟩
  ·(refine ⟨?_,QmW fhc0 hI'.2 ?_ ?_⟩<;>first | omega | (unfold slA;omega))
  ·omega
  ·exact (b2 (b2 (b2 (b2 (b2 (b2 (b2 bn)))))))
  ·exact (b3 bn)
  ·exact nd Y
 refine VRun.exit (vthn.e (vthn.e (vinB.e (tn (sr (mO (tN n) Y (aO (tN n) Y (nt (rt (vi (n':=((n:Nat):Int)) Y ?_))))))))))
 (refine rA fhc0 ?_ hI'.2 ?_<;>first | omega | (unfold slA;omega))
noncomputable section
def QlH (g:D.Grid) (st:List D.Slot×Nat) (i:Nat):List D.Slot×Nat :=
 let k:=if 2≤Qq g i false∨2≤Qq g i true then st.2+1 else st.2
 ((st.1++(if 2≤Qq g i false then [D.Slot.mk ((k:Nat):Int) false ((i:Nat):Int) ((Qq g i false:Nat):Int)] else []))++(if 2≤Qq g i true then [D.Slot.mk ((k:Nat):Int) true ((i:Nat):Int) ((Qq g i true:Nat):Int)] else []),k)
def Qg (g:D.Grid):Nat→List D.Slot×Nat
 | 0=>([],0)
 | i+1=>QlH g (Qg g i) i
def Qb (g:D.Grid):List D.Slot:=if gridOk g then (Qg g g.Cells.size).1 else []
theorem YM (g:D.Grid) (i:Nat):(Qg g (i+1)).1=((Qg g i).1++(if 2≤Qq g i false then [D.Slot.mk (((Qg g (i+1)).2:Nat):Int) false ((i:Nat):Int) ((Qq g i false:Nat):Int)] else []))++(if 2≤Qq g i true then [D.Slot.mk (((Qg g (i+1)).2:Nat):Int) true ((i:Nat):Int) ((Qq g i true:Nat):Int)] else []):=rfl
theorem Yc (g:D.Grid) (i:Nat):(Qg g (i+1)).2=if 2≤Qq g i false∨2≤Qq g i true then (Qg g i).2+1 else (Qg g i).2:=rfl
theorem Qcc (g:D.Grid):∀i,(Qg g i).2≤i∧(Qg g i).1.length≤2*i
 | 0=>⟨Nat.le_refl _,Nat.le_refl _⟩
 | i+1=>by
  have h:=Qcc g i
  rw [YM,Yc]
  refine ⟨by split<;>omega,?_⟩
  rw [List.length_append,List.length_append]
  have e:∀(c:Prop) [Decidable c] (x:D.Slot),(if c then [x] else []).length≤1:=fun c _ x=>by split<;>simp
  refine Nat.le_trans (Nat.add_le_add (Nat.add_le_add h.2 (e _ _)) (e _ _)) ?_
  omega
theorem QdI {g:D.Grid} {i:Nat} (h1:i≤g.Cells.size) (h2:gridOk g∨i=0) (h3:¬i<g.Cells.size∨¬gridOk g):(Qg g i).1=Qb g:=by
 unfold Qb
 split
 ·rename_i hh
  rcases h3 with h3 | h3
  ·rw [show i=g.Cells.size by omega]
  ·contradiction
 ·rename_i hh
  rw [h2.resolve_left hh]
  rfl
theorem Qkk {g:D.Grid} (h:¬gridOk g):Qb g= []:=if_neg h
theorem Zw (g:D.Grid):(Qb g).length≤72:=by
 unfold Qb
 split
 ·rename_i hh
  have:=hh.size
  have:=(Qcc g g.Cells.size).2
  omega
 ·simp
end
theorem ZP (n:Nat) (g:D.Grid) (hc:g.Cells.size≤maxLen):Pure (Qs Tryz.prog (n+3)) 64 [(T.agg (Qd false g))] (T.sl true 4 ((Qb g).map (Qj true))):=by
 refine Pure.intro (rs:= [ResultVar.tmp 2]) Tryz.func64 Y Y Y (E0:= [(0,(T.agg (Qd false g)))]) Y ?_
 obtain ⟨hlim,hmx,hmax⟩:=QA
 refine sr (kO (B.box (ts:=(Qd false g)) (tv (T.agg (Qd false g)) Y) nofun Y) (fO (OF.assign VEv.nils) (nt (sr (kO (OM.slice0 U94 YS (by kernel_rfl) Y (by rw [Zz];decide) Zz) (aO (T.os 4 1 0 0) Y (nt (sr (fO (OF.assign (VEv.int .i64 0)) (nt (sq ?_)))))))))))
 refine sr (fO (OF.assign (VEv.int .i64 0)) (nt (VRun.block ?_)))
 have he1: []=(((Qg g 0).1).map (Qj true)):=by rfl
 refine VRun.loop (A:=Nat) (fun s_=> [(1,(T.op 0 0)),(2,T.nils),(3,(T.os 4 1 0 ((((Qg g s_).1).map (Qj true)).length))),(4,(tN ((Qg g s_).2))),(5,(tN s_))]) (fun s_=>QV [(0,(Obj.cells (Qd false g))),(1,(Obj.rows 4 (((Qg g s_).1).map (Qj true))))]) 2 (fun s_=>s_≤g.Cells.size∧(gridOk g∨s_=0)) (fun s_=>g.Cells.size - s_) (0:Nat) ?_ (Wk.mk (fun k=>k) ?_ ?_ ?_) ?_
 ·exact ⟨Nat.zero_le _, .inr Y⟩
 ·exact (b2 (b2 (bc ⟨(congrArg (fun n_=>T.os 4 1 0 n_) (show 0=(((Qg g 0).1).map (Qj true)).length from (by rfl))),rfl⟩ (bc ⟨(congrArg (T.int .i64) (show 0=(((Qg g 0).2:Nat):Int) from (by rfl))),rfl⟩ (b2 bn)))))
 ·exact (b3 (bc ⟨(congrArg (fun l_=>some (Obj.rows 4 l_)) he1),(lb Y),rfl⟩ bn))
 ·exact nd Y
 rintro i (hI':i≤g.Cells.size∧(gridOk g∨i=0))
 show VRun _ _ _ [(1,(T.op 0 0)),(2,T.nils),(3,(T.os 4 1 0 ((((Qg g i).1).map (Qj true)).length))),(4,(tN ((Qg g i).2))),(5,(tN i))] (QV [(0,(Obj.cells (Qd false g))),(1,(Obj.rows 4 (((Qg g i).1).map (Qj true))))]) 2 _
 have hI1:=hI'.1
 have hbd:=Qcc g i
 refine sq (sr (mO (tN i) Y (lf (tS g.Cells) Y QU Y Y YD (lO (B.lenS (tv (tS g.Cells) Y) U9) (fO (Q5 (tv (tN i) Y) (tv (tN g.Cells.size) Y)) (mO (tB (decide (i<g.Cells.size))) Y ?_))))))
 refine gw (i<g.Cells.size) (fun fhg14_2=> ?_) fun fhg14_2=> ?_
 ·refine gL (dy fhg14_2) Y Y (OL.loadOn (us:=(Qd false g)) (tv (T.op 0 0) Y) Y Q4 Q0 (lb Y) Y) ?_
  refine VRunO.chain (VWant.on Y Y (dy fhg14_2)) (cS (vc (tv (T.agg (Qd false g)) Y) vn) (LendL.cons (lg Qu) ln) (Yg (n+0) g (by assumption)) Y Y) (fO (OF.pickT (VEv.tmpB Y (dy fhg14_2)) (tv (tB (decide (gridOk g))) Y)) (nt ?_))
  refine cd (gridOk g) Y (fun fhc0=> ?_) fun fhc0=> ?_
  ·have hgo:gridOk g:=by assumption
   have hsz:=hgo.size
   refine sk (tn (sq (VRun.block (sr (lO (OL.loadOn (us:=(Qd false g)) (tv (T.op 0 0) Y) Y Q4 Q0 (lb Y) Y) (mO (tN i) Y (cO (cS (vc (tv (T.agg (Qd false g)) Y) (vc (tv (tN i) Y) (vc (VEv.bool false) vn))) (LendL.cons (lg Qu) (lp Y (lp Y ln))) (Qcz (n+1) g i false (by assumption) (by assumption)) Y Y) (aO (tN (Qq g i false)) Y (nt (sr (lO (OL.loadOn (us:=(Qd false g)) (tv (T.op 0 0) Y) Y Q4 Q0 (lb Y) Y) ?_)))))))))))
   refine mO (tN i) Y (cO (cS (vc (tv (T.agg (Qd false g)) Y) (vc (tv (tN i) Y) (vc (VEv.bool true) vn))) (LendL.cons (lg Qu) (lp Y (lp Y ln))) (Qcz (n+1) g i true (by assumption) (by assumption)) Y Y) (aO (tN (Qq g i true)) Y (nt (sq (sr (mO (tN (Qq g i false)) Y (fO (B.geq (c:=(decide (2≤Qq g i false))) (tv (tN (Qq g i false)) Y) (VEv.int .i64 2) (by exact Q8 (by omega))) (mO (tB (decide (2≤Qq g i false))) Y ?_))))))))
   refine gw (2≤Qq g i false) (fun fhg28_3=> ?_) fun fhg28_3=> ?_
   ·refine QE 2 2 false 28 (dy fhg28_3) Y Y Y ?_
    refine fO (OF.pickT (VEv.tmpB Y (dy fhg28_3)) (VEv.bool true)) (nt (ct Y (VRun.region (mO (tN ((Qg g i).2)) Y (fO (Qx (tv (tN ((Qg g i).2)) Y) (VEv.int .i64 1) (by omega)) (aO (tN ((Qg g i).2+1)) Y (VRunO.nil (tn (sq (sr (mO (tN (Qq g i false)) Y ?_)))))))))))
    refine fO (B.geq (c:=(decide (2≤Qq g i false))) (tv (tN (Qq g i false)) Y) (VEv.int .i64 2) (by exact Q8 (by omega))) (nt (ck (dy fhg28_3) Y (VRun.region (mO (T.os 4 1 0 ((((Qg g i).1).map (Qj true)).length)) Y (mO (tN ((Qg g i).2+1)) Y (mO (tN i) Y (mO (tN (Qq g i false)) Y (fO (OF.build (l:= [(0,(tN ((Qg g i).2+1))),(2,(tN i)),(3,(tN (Qq g i false)))]) (zs:= [(tN 0),(tB false),(tN 0),(tN 0)]) (out:= [(tN ((Qg g i).2+1)),(tB false),(tN i),(tN (Qq g i false))]) (VEvp.cons (i:=0) (tv (tN ((Qg g i).2+1)) Y) (VEvp.cons (i:=2) (tv (tN i) Y) (VEvp.cons (i:=3) (tv (tN (Qq g i false)) Y) VEvp.nil))) (bc nofun (bc nofun (bc nofun bn))) Tryz.underlying112 YS (fun _=>RL.cons (.int _ _) (RL.cons (.bool _) (RL.cons (.int _ _) (RL.cons (.int _ _) (RL.nil _))))) (by kernel_rfl) (by kernel_rfl)) (kO (OM.buildSlice (l:= [(T.agg [(tN ((Qg g i).2+1)),(tB false),(tN i),(tN (Qq g i false))])]) (VEvp.cons (tv (T.agg [(tN ((Qg g i).2+1)),(tB false),(tN i),(tN (Qq g i false))]) Y) VEvp.nil) Y (by decide) (bc (nofun) bn) (bc ((bc (Y) (bc (Y) (bc (Y) (bc (Y) bn))))) bn) (bc (Y) bn) U94 YS (by kernel_rfl) Y (by rw [Zz];decide) Zz (Nat.le_of_ble_eq_true Y)) (cO (B.append (rows:=(((Qg g i).1).map (Qj true))) (rows2:= [[(tN ((Qg g i).2+1)),(tB false),(tN i),(tN (Qq g i false))]]) (rows3:=(((Qg g i).1++ [(D.Slot.mk ((((Qg g i).2+1):Nat):Int) false ((i:Nat):Int) ((Qq g i false:Nat):Int))]).map (Qj true))) (VDst.own (tv (T.os 4 1 0 ((((Qg g i).1).map (Qj true)).length)) Y) Y Y) (VSrc.own (tv (T.os 4 2 0 1) Y) Y Y U94 (bc (bc Y (bc Y (bc Y (bc Y bn)))) bn)) (by decide) U94 Zz (by decide) YS Y (of_decide_eq_true (by kernel_rfl)) (by (simp only [List.length_map,List.length_append,List.length_cons,List.length_nil,List.length_replicate,List.length_set,List.length_drop,List.length_take,Y2] at *;omega)) ((List.map_append (f:=Qj true) (l₁:=(Qg g i).1) (l₂:= [(D.Slot.mk ((((Qg g i).2+1):Nat):Int) false ((i:Nat):Int) ((Qq g i false:Nat):Int))])).symm)) (aO (T.os 4 3 0 ((((Qg g i).1++ [(D.Slot.mk ((((Qg g i).2+1):Nat):Int) false ((i:Nat):Int) ((Qq g i false:Nat):Int))]).map (Qj true)).length)) Y ?_)))))))))))
    refine VRunO.nil (tn (sr (mO (tN (Qq g i true)) Y (fO (B.geq (c:=(decide (2≤Qq g i true))) (tv (tN (Qq g i true)) Y) (VEv.int .i64 2) (by exact Q8 (by omega))) (nt ?_)))))
    refine cd (2≤Qq g i true) Y (fun fhc3=> ?_) fun fhc3=> ?_
    ·refine VRun.region ?_
     refine mO (T.os 4 3 0 ((((Qg g i).1++ [(D.Slot.mk ((((Qg g i).2+1):Nat):Int) false ((i:Nat):Int) ((Qq g i false:Nat):Int))]).map (Qj true)).length)) Y (mO (tN ((Qg g i).2+1)) Y (mO (tN i) Y (mO (tN (Qq g i true)) Y (fO (OF.build (l:= [(0,(tN ((Qg g i).2+1))),(1,(tB true)),(2,(tN i)),(3,(tN (Qq g i true)))]) (zs:= [(tN 0),(tB false),(tN 0),(tN 0)]) (out:= [(tN ((Qg g i).2+1)),(tB true),(tN i),(tN (Qq g i true))]) (VEvp.cons (i:=0) (tv (tN ((Qg g i).2+1)) Y) (VEvp.cons (i:=1) (VEv.bool true) (VEvp.cons (i:=2) (tv (tN i) Y) (VEvp.cons (i:=3) (tv (tN (Qq g i true)) Y) VEvp.nil)))) (bc nofun (bc nofun (bc nofun (bc nofun bn)))) Tryz.underlying112 YS (fun _=>RL.cons (.int _ _) (RL.cons (.bool _) (RL.cons (.int _ _) (RL.cons (.int _ _) (RL.nil _))))) (by kernel_rfl) (by kernel_rfl)) (kO (OM.buildSlice (l:= [(T.agg [(tN ((Qg g i).2+1)),(tB true),(tN i),(tN (Qq g i true))])]) (VEvp.cons (tv (T.agg [(tN ((Qg g i).2+1)),(tB true),(tN i),(tN (Qq g i true))]) Y) VEvp.nil) Y (by decide) (bc (nofun) bn) (bc ((bc (Y) (bc (Y) (bc (Y) (bc (Y) bn))))) bn) (bc (Y) bn) U94 YS (by kernel_rfl) Y (by rw [Zz];decide) Zz (Nat.le_of_ble_eq_true Y)) (cO (B.append (rows:=(((Qg g i).1++ [(D.Slot.mk ((((Qg g i).2+1):Nat):Int) false ((i:Nat):Int) ((Qq g i false:Nat):Int))]).map (Qj true))) (rows2:= [[(tN ((Qg g i).2+1)),(tB true),(tN i),(tN (Qq g i true))]]) (rows3:=((((Qg g i).1++ [(D.Slot.mk ((((Qg g i).2+1):Nat):Int) false ((i:Nat):Int) ((Qq g i false:Nat):Int))])++ [(D.Slot.mk ((((Qg g i).2+1):Nat):Int) true ((i:Nat):Int) ((Qq g i true:Nat):Int))]).map (Qj true))) (VDst.own (tv (T.os 4 3 0 ((((Qg g i).1++ [(D.Slot.mk ((((Qg g i).2+1):Nat):Int) false ((i:Nat):Int) ((Qq g i false:Nat):Int))]).map (Qj true)).length)) Y) Y Y) (VSrc.own (tv (T.os 4 4 0 1) Y) Y Y U94 (bc (bc Y (bc Y (bc Y (bc Y bn)))) bn)) (by decide) U94 Zz (by decide) YS Y (of_decide_eq_true (by kernel_rfl)) (by (simp only [List.length_map,List.length_append,List.length_cons,List.length_nil,List.length_replicate,List.length_set,List.length_drop,List.length_take,Y2] at *;omega)) ((List.map_append (f:=Qj true) (l₁:=((Qg g i).1++ [(D.Slot.mk ((((Qg g i).2+1):Nat):Int) false ((i:Nat):Int) ((Qq g i false:Nat):Int))])) (l₂:= [(D.Slot.mk ((((Qg g i).2+1):Nat):Int) true ((i:Nat):Int) ((Qq g i true:Nat):Int))])).symm)) (aO (T.os 4 5 0 (((((Qg g i).1++ [(D.Slot.mk ((((Qg g i).2+1):Nat):Int) false ((i:Nat):Int) ((Qq g i false:Nat):Int))])++ [(D.Slot.mk ((((Qg g i).2+1):Nat):Int) true ((i:Nat):Int) ((Qq g i true:Nat):Int))]).map (Qj true)).length)) Y (VRunO.nil (vinB.n (tn (VRun.region ?_)))))))))))
     refine mO (tN i) Y (fO (Qx (tv (tN i) Y) (VEv.int .i64 1) (by omega)) (aO (tN (i+1)) Y (VRunO.nil (tn ?_))))
     have hgo:gridOk g:=by assumption
     have he4:(((Qg g i).1++ [(D.Slot.mk ((((Qg g i).2+1):Nat):Int) false ((i:Nat):Int) ((Qq g i false:Nat):Int))])++ [(D.Slot.mk ((((Qg g i).2+1):Nat):Int) true ((i:Nat):Int) ((Qq g i true:Nat):Int))])=(Qg g (i+1)).1:=by (rw [YM,Yc];simp [*];done)
     refine ⟨(i+1:Nat),?_,?_,Wk.mk (fun k=>if k=1 then 5 else k) ?_ ?_ ?_⟩
     ·exact ⟨by omega, .inl hgo⟩
     ·omega
     ·exact (b2 (b2 (bc ⟨(congrArg (fun l_=>T.os 4 5 0 (List.map (Qj true) l_).length) he4),rfl⟩ (bc ⟨(congrArg (T.int .i64) (show ((((Qg g i).2+1):Nat):Int)=(((Qg g (i+1)).2:Nat):Int) from (by (rw [Yc];simp [*];done)))),rfl⟩ (b2 bn)))))
     ·exact (b3 (bc ⟨(congrArg (fun l_=>some (Obj.rows 4 (List.map (Qj true) l_))) he4),(lb Y),rfl⟩ bn))
     ·exact nd Y
    refine sk (vinB.n (tn (VRun.region (mO (tN i) Y (fO (Qx (tv (tN i) Y) (VEv.int .i64 1) (by omega)) (aO (tN (i+1)) Y (VRunO.nil (tn ?_))))))))
    have hgo:gridOk g:=by assumption
    have he5:((Qg g i).1++ [(D.Slot.mk ((((Qg g i).2+1):Nat):Int) false ((i:Nat):Int) ((Qq g i false:Nat):Int))])=(Qg g (i+1)).1:=by (rw [YM,Yc];simp [*];done)
    refine ⟨(i+1:Nat),?_,?_,Wk.mk (fun k=>if k=1 then 3 else k) ?_ ?_ ?_⟩
    ·exact ⟨by omega, .inl hgo⟩
    ·omega
    ·exact (b2 (b2 (bc ⟨(congrArg (fun l_=>T.os 4 3 0 (List.map (Qj true) l_).length) he5),rfl⟩ (bc ⟨(congrArg (T.int .i64) (show ((((Qg g i).2+1):Nat):Int)=(((Qg g (i+1)).2:Nat):Int) from (by (rw [Yc];simp [*];done)))),rfl⟩ (b2 bn)))))
    ·exact (b3 (bc ⟨(congrArg (fun l_=>some (Obj.rows 4 (List.map (Qj true) l_))) he5),(lb Y),rfl⟩ bn))
    ·exact nd Y
   refine gF (dz fhg28_3) Y Y (OF.move (tv (tN (Qq g i true)) Y)) (gF (dz fhg28_3) Y Y (B.geq (c:=(decide (2≤Qq g i true))) (tv (tN (Qq g i true)) Y) (VEv.int .i64 2) (by exact Q8 (by omega))) (fO (OF.pickF (VEv.tmpB Y (dz fhg28_3)) (tv (tB (decide (2≤Qq g i true))) Y)) (nt ?_)))
   refine cd (2≤Qq g i true) Y (fun fhc1=> ?_) fun fhc1=> ?_
   ·refine VRun.region ?_
    refine mO (tN ((Qg g i).2)) Y (fO (Qx (tv (tN ((Qg g i).2)) Y) (VEv.int .i64 1) (by omega)) (aO (tN ((Qg g i).2+1)) Y (VRunO.nil (tn (sq (sr (mO (tN (Qq g i false)) Y (fO (B.geq (c:=(decide (2≤Qq g i false))) (tv (tN (Qq g i false)) Y) (VEv.int .i64 2) (by exact Q8 (by omega))) (nt (cg (dz fhg28_3) Y (sk ?_)))))))))))
    refine tn (sr (mO (tN (Qq g i true)) Y (fO (B.geq (c:=(decide (2≤Qq g i true))) (tv (tN (Qq g i true)) Y) (VEv.int .i64 2) (by exact Q8 (by omega))) (nt (ck (dy fhc1) Y (VRun.region (mO (T.os 4 1 0 ((((Qg g i).1).map (Qj true)).length)) Y (mO (tN ((Qg g i).2+1)) Y (mO (tN i) Y (mO (tN (Qq g i true)) Y (fO (OF.build (l:= [(0,(tN ((Qg g i).2+1))),(1,(tB true)),(2,(tN i)),(3,(tN (Qq g i true)))]) (zs:= [(tN 0),(tB false),(tN 0),(tN 0)]) (out:= [(tN ((Qg g i).2+1)),(tB true),(tN i),(tN (Qq g i true))]) (VEvp.cons (i:=0) (tv (tN ((Qg g i).2+1)) Y) (VEvp.cons (i:=1) (VEv.bool true) (VEvp.cons (i:=2) (tv (tN i) Y) (VEvp.cons (i:=3) (tv (tN (Qq g i true)) Y) VEvp.nil)))) (bc nofun (bc nofun (bc nofun (bc nofun bn)))) Tryz.underlying112 YS (fun _=>RL.cons (.int _ _) (RL.cons (.bool _) (RL.cons (.int _ _) (RL.cons (.int _ _) (RL.nil _))))) (by kernel_rfl) (by kernel_rfl)) ?_)))))))))))
    refine kO (OM.buildSlice (l:= [(T.agg [(tN ((Qg g i).2+1)),(tB true),(tN i),(tN (Qq g i true))])]) (VEvp.cons (tv (T.agg [(tN ((Qg g i).2+1)),(tB true),(tN i),(tN (Qq g i true))]) Y) VEvp.nil) Y (by decide) (bc (nofun) bn) (bc ((bc (Y) (bc (Y) (bc (Y) (bc (Y) bn))))) bn) (bc (Y) bn) U94 YS (by kernel_rfl) Y (by rw [Zz];decide) Zz (Nat.le_of_ble_eq_true Y)) (cO (B.append (rows:=(((Qg g i).1).map (Qj true))) (rows2:= [[(tN ((Qg g i).2+1)),(tB true),(tN i),(tN (Qq g i true))]]) (rows3:=(((Qg g i).1++ [(D.Slot.mk ((((Qg g i).2+1):Nat):Int) true ((i:Nat):Int) ((Qq g i true:Nat):Int))]).map (Qj true))) (VDst.own (tv (T.os 4 1 0 ((((Qg g i).1).map (Qj true)).length)) Y) Y Y) (VSrc.own (tv (T.os 4 2 0 1) Y) Y Y U94 (bc (bc Y (bc Y (bc Y (bc Y bn)))) bn)) (by decide) U94 Zz (by decide) YS Y (of_decide_eq_true (by kernel_rfl)) (by (simp only [List.length_map,List.length_append,List.length_cons,List.length_nil,List.length_replicate,List.length_set,List.length_drop,List.length_take,Y2] at *;omega)) ((List.map_append (f:=Qj true) (l₁:=(Qg g i).1) (l₂:= [(D.Slot.mk ((((Qg g i).2+1):Nat):Int) true ((i:Nat):Int) ((Qq g i true:Nat):Int))])).symm)) (aO (T.os 4 3 0 ((((Qg g i).1++ [(D.Slot.mk ((((Qg g i).2+1):Nat):Int) true ((i:Nat):Int) ((Qq g i true:Nat):Int))]).map (Qj true)).length)) Y (VRunO.nil (vinB.n (tn (VRun.region (mO (tN i) Y (fO (Qx (tv (tN i) Y) (VEv.int .i64 1) (by omega)) (aO (tN (i+1)) Y (VRunO.nil (tn ?_)))))))))))
    have hgo:gridOk g:=by assumption
    have he6:((Qg g i).1++ [(D.Slot.mk ((((Qg g i).2+1):Nat):Int) true ((i:Nat):Int) ((Qq g i true:Nat):Int))])=(Qg g (i+1)).1:=by (rw [YM,Yc];simp [*];done)
    refine ⟨(i+1:Nat),?_,?_,Wk.mk (fun k=>if k=1 then 3 else k) ?_ ?_ ?_⟩
    ·exact ⟨by omega, .inl hgo⟩
    ·omega
    ·exact (b2 (b2 (bc ⟨(congrArg (fun l_=>T.os 4 3 0 (List.map (Qj true) l_).length) he6),rfl⟩ (bc ⟨(congrArg (T.int .i64) (show ((((Qg g i).2+1):Nat):Int)=(((Qg g (i+1)).2:Nat):Int) from (by (rw [Yc];simp [*];done)))),rfl⟩ (b2 bn)))))
    ·exact (b3 (bc ⟨(congrArg (fun l_=>some (Obj.rows 4 (List.map (Qj true) l_))) he6),(lb Y),rfl⟩ bn))
    ·exact nd Y
   refine sk (tn (sq (sr (mO (tN (Qq g i false)) Y (fO (B.geq (c:=(decide (2≤Qq g i false))) (tv (tN (Qq g i false)) Y) (VEv.int .i64 2) (by exact Q8 (by omega))) (nt (cg (dz fhg28_3) Y (sk (tn (sr (mO (tN (Qq g i true)) Y ?_)))))))))))
   refine fO (B.geq (c:=(decide (2≤Qq g i true))) (tv (tN (Qq g i true)) Y) (VEv.int .i64 2) (by exact Q8 (by omega))) (nt (cg (dz fhc1) Y (sk (vinB.n (tn (VRun.region (mO (tN i) Y (fO (Qx (tv (tN i) Y) (VEv.int .i64 1) (by omega)) (aO (tN (i+1)) Y (VRunO.nil (tn ?_)))))))))))
   have hgo:gridOk g:=by assumption
   have he7:(Qg g i).1=(Qg g (i+1)).1:=by (rw [YM,Yc];simp [*];done)
   refine ⟨(i+1:Nat),?_,?_,Wk.mk (fun k=>k) ?_ ?_ ?_⟩
   ·exact ⟨by omega, .inl hgo⟩
   ·omega
   ·exact (b2 (b2 (bc ⟨(congrArg (fun l_=>T.os 4 1 0 (List.map (Qj true) l_).length) he7),rfl⟩ (bc ⟨(congrArg (T.int .i64) (show (((Qg g i).2:Nat):Int)=(((Qg g (i+1)).2:Nat):Int) from (by (rw [Yc];simp [*];done)))),rfl⟩ (b2 bn)))))
   ·exact (b3 (bc ⟨(congrArg (fun l_=>some (Obj.rows 4 (List.map (Qj true) l_))) he7),(lb Y),rfl⟩ bn))
   ·exact nd Y
  refine VRun.exit (vthn.e (vthn.e (vinB.e (tn (sr (mO (T.os 4 1 0 ((((Qg g i).1).map (Qj true)).length)) Y (aO (T.os 4 1 0 ((((Qg g i).1).map (Qj true)).length)) Y (nt (rt ?_)))))))))
  refine vfin.eq (r':=(T.sl true 4 (((Qg g i).1).map (Qj true)))) ?_ (vfin.r (VRes.tmp (t:=(T.os 4 1 0 ((((Qg g i).1).map (Qj true)).length))) Y VRes.nil) (Give.os Y Y (okeSlot.cleanMap _)))
  refine congrArg (fun l_=>T.sl true 4 (List.map (Qj true) l_)) ?_
  refine QdI hI1 hI'.2 ?_;(right;assumption)
 refine QE 2 5 true 14 (dz fhg14_2) Y Y Y (fO (OF.pickF (VEv.tmpB Y (dz fhg14_2)) (VEv.bool false)) (nt (cf Y (VRun.exit (vthn.e (vthn.e (vinB.e (tn (sr (mO (T.os 4 1 0 ((((Qg g i).1).map (Qj true)).length)) Y (aO (T.os 4 1 0 ((((Qg g i).1).map (Qj true)).length)) Y ?_)))))))))))
 refine nt (rt ?_)
 refine vfin.eq (r':=(T.sl true 4 (((Qg g i).1).map (Qj true)))) ?_ (vfin.r (VRes.tmp (t:=(T.os 4 1 0 ((((Qg g i).1).map (Qj true)).length))) Y VRes.nil) (Give.os Y Y (okeSlot.cleanMap _)))
 refine congrArg (fun l_=>T.sl true 4 (List.map (Qj true) l_)) ?_
 refine QdI hI1 hI'.2 ?_;(left;assumption)
theorem Qae (n:Nat) (g:D.Grid) (hc:g.Cells.size≤maxLen):Pure (Qs Tryz.prog (n+3)) 98 [(T.agg (Qd false g))] (T.sl true 4 ((Qb g).map (Qj true))):=by
 refine Pure.intro (rs:= [ResultVar.tmp 2]) Tryz.func98 Y Y Y (E0:= [(0,(T.agg (Qd false g)))]) Y ?_
 obtain ⟨hlim,hmx,hmax⟩:=QA
 refine sr (kO (B.box (ts:=(Qd false g)) (tv (T.agg (Qd false g)) Y) nofun Y) (fO (OF.assign VEv.nils) (nt (sq (sr (lO (OL.loadOn (us:=(Qd false g)) (tv (T.op 0 0) Y) Y Q4 Q0 (lb Y) Y) (cO (cS (vc (tv (T.agg (Qd false g)) Y) vn) (LendL.cons (lg Qu) ln) (Yt (n+0) g (by assumption)) Y Y) (fO (Zd (tv (tB (decide (gridOk g))) Y)) (nt ?_)))))))))
 refine cn (gridOk g) Y (fun fhc0=> ?_) fun fhc0=> ?_
 ·refine sr ?_
  refine fO (OF.assign VEv.nils) (nt (rt (tr ?_)))
  refine vfin.eq (r':=(T.sl true 4 [])) ?_ (vfin.r (VRes.tmp (t:=T.nils) Y VRes.nil) (Give.nils 4))
  refine congrArg (fun l_=>T.sl true 4 (List.map (Qj true) l_)) (a₁:= []) ?_
  exact (Qkk fhc0).symm
 refine sk (tn (sr (fO (OF.assign VEv.nils) (nt (sr (fO (OF.assign (VEv.int .i64 0)) (nt (sq (sr (lf (tS g.Cells) Y QU Y Y YD (lO (B.lenS (tv (tS g.Cells) Y) U9) ?_)))))))))))
 refine fO (OF.move (VEv.int .i64 0)) (nt (VRun.block (VRun.wk (Wk.phantom 3 4 Y) ?_)))
 have he1: []=(((Qg g 0).1).map (Qj true)):=by rfl
 refine VRun.loop (A:=Nat) (fun s_=> [(1,(T.op 0 0)),(2,T.nils),(3,(T.os 4 1 0 ((((Qg g s_).1).map (Qj true)).length))),(4,(tN ((Qg g s_).2))),(13,(tN g.Cells.size)),(14,(tN s_))]) (fun s_=>QV [(0,(Obj.cells (Qd false g))),(1,(Obj.rows 4 (((Qg g s_).1).map (Qj true))))]) 2 (fun s_=>s_≤g.Cells.size) (fun s_=>g.Cells.size - s_) (0:Nat) ?_ (Wk.mk (fun k=>k) ?_ ?_ ?_) ?_
 ·(simp;done)
 ·exact (b2 (b2 (bc ⟨(congrArg (fun n_=>T.os 4 1 0 n_) (show 0=(((Qg g 0).1).map (Qj true)).length from (by rfl))),rfl⟩ (bc ⟨(congrArg (T.int .i64) (show 0=(((Qg g 0).2:Nat):Int) from (by rfl))),rfl⟩ (b2 (b2 bn))))))
 ·exact (b3 (bc ⟨(congrArg (fun l_=>some (Obj.rows 4 l_)) he1),(lb Y),rfl⟩ bn))
 ·exact nd Y
 rintro i (hI':i≤g.Cells.size)
 show VRun _ _ _ [(1,(T.op 0 0)),(2,T.nils),(3,(T.os 4 1 0 ((((Qg g i).1).map (Qj true)).length))),(4,(tN ((Qg g i).2))),(13,(tN g.Cells.size)),(14,(tN i))] (QV [(0,(Obj.cells (Qd false g))),(1,(Obj.rows 4 (((Qg g i).1).map (Qj true))))]) 2 _
 have hI1:=hI'
 have hbd:=Qcc g i
 have hgo:gridOk g:=by assumption
 have hsz:=hgo.size
 refine sr (fO (Q5 (tv (tN i) Y) (tv (tN g.Cells.size) Y)) (nt (sq ?_)))
 refine cd (i<g.Cells.size) Y (fun fhc1=> ?_) fun fhc1=> ?_
 ·refine sk ?_
  refine tn (sq (VRun.block (sr (mO (tN i) Y (aO (tN i) Y (nt (sq (VRun.draw (B:= [[],[],[1,0],[],[],[0,1,2,4,3],[3,4,5,0,1,2],[6,3,4,2,1,0,5]]) (by kernel_rfl) (by kernel_rfl) Y (lD (OL.loadOn (us:=(Qd false g)) (tv (T.op 0 0) Y) Y Q4 Q0 (lb Y) Y) Y Y (mD (tN i) Y Y (VRunD.quiet (bi:= [1,0]) Y VWant.always Y Y Y bn (cS (vc (tv (T.agg (Qd false g)) Y) (vc (tv (tN i) Y) (vc (VEv.bool false) vn))) (LendL.cons (lg Qu) (lp Y (lp Y ln))) (QeZ (n+1) g i false (by assumption) (by assumption)) Y Y) ?_)))))))))))
  refine lD (OL.loadOn (us:=(Qd false g)) (tv (T.op 0 0) Y) Y Q4 Q0 (lb Y) Y) Y Y (mD (tN i) Y Y (VRunD.quiet (bi:= [0,1,2,4,3]) Y VWant.always Y Y Y bn (cS (vc (tv (T.agg (Qd false g)) Y) (vc (tv (tN i) Y) (vc (VEv.bool true) vn))) (LendL.cons (lg Qu) (lp Y (lp Y ln))) (QeZ (n+1) g i true (by assumption) (by assumption)) Y Y) (fD (OF.assign (tv (tN (Qq g i false)) Y)) Y Y (fD (OF.assign (tv (tN (Qq g i true)) Y)) Y Y (VRunD.nil (tn (sq (sr (mO (tN (Qq g i false)) Y (fO (B.geq (c:=(decide (2≤Qq g i false))) (tv (tN (Qq g i false)) Y) (VEv.int .i64 2) (by exact Q8 (by omega))) (mO (tB (decide (2≤Qq g i false))) Y ?_)))))))))))
  refine gw (2≤Qq g i false) (fun fhg25_2=> ?_) fun fhg25_2=> ?_
  ·refine QE 2 2 false 25 (dy fhg25_2) Y Y Y ?_
   refine fO (OF.pickT (VEv.tmpB Y (dy fhg25_2)) (VEv.bool true)) (nt (ct Y (VRun.region (mO (tN ((Qg g i).2)) Y (fO (Qx (tv (tN ((Qg g i).2)) Y) (VEv.int .i64 1) (by omega)) (aO (tN ((Qg g i).2+1)) Y (VRunO.nil (tn (sq (sr (mO (tN (Qq g i false)) Y ?_)))))))))))
   refine fO (B.geq (c:=(decide (2≤Qq g i false))) (tv (tN (Qq g i false)) Y) (VEv.int .i64 2) (by exact Q8 (by omega))) (nt (ck (dy fhg25_2) Y (VRun.region (mO (T.os 4 1 0 ((((Qg g i).1).map (Qj true)).length)) Y (mO (tN ((Qg g i).2+1)) Y (mO (tN i) Y (mO (tN (Qq g i false)) Y (fO (OF.build (l:= [(0,(tN ((Qg g i).2+1))),(1,(tB false)),(2,(tN i)),(3,(tN (Qq g i false)))]) (zs:= [(tN 0),(tB false),(tN 0),(tN 0)]) (out:= [(tN ((Qg g i).2+1)),(tB false),(tN i),(tN (Qq g i false))]) (VEvp.cons (i:=0) (tv (tN ((Qg g i).2+1)) Y) (VEvp.cons (i:=1) (VEv.bool false) (VEvp.cons (i:=2) (tv (tN i) Y) (VEvp.cons (i:=3) (tv (tN (Qq g i false)) Y) VEvp.nil)))) (bc nofun (bc nofun (bc nofun (bc nofun bn)))) Tryz.underlying112 YS (fun _=>RL.cons (.int _ _) (RL.cons (.bool _) (RL.cons (.int _ _) (RL.cons (.int _ _) (RL.nil _))))) (by kernel_rfl) (by kernel_rfl)) (kO (OM.buildSlice (l:= [(T.agg [(tN ((Qg g i).2+1)),(tB false),(tN i),(tN (Qq g i false))])]) (VEvp.cons (tv (T.agg [(tN ((Qg g i).2+1)),(tB false),(tN i),(tN (Qq g i false))]) Y) VEvp.nil) Y (by decide) (bc (nofun) bn) (bc ((bc (Y) (bc (Y) (bc (Y) (bc (Y) bn))))) bn) (bc (Y) bn) U94 YS (by kernel_rfl) Y (by rw [Zz];decide) Zz (Nat.le_of_ble_eq_true Y)) (cO (B.append (rows:=(((Qg g i).1).map (Qj true))) (rows2:= [[(tN ((Qg g i).2+1)),(tB false),(tN i),(tN (Qq g i false))]]) (rows3:=(((Qg g i).1++ [(D.Slot.mk ((((Qg g i).2+1):Nat):Int) false ((i:Nat):Int) ((Qq g i false:Nat):Int))]).map (Qj true))) (VDst.own (tv (T.os 4 1 0 ((((Qg g i).1).map (Qj true)).length)) Y) Y Y) (VSrc.own (tv (T.os 4 2 0 1) Y) Y Y U94 (bc (bc Y (bc Y (bc Y (bc Y bn)))) bn)) (by decide) U94 Zz (by decide) YS Y (of_decide_eq_true (by kernel_rfl)) (by (simp only [List.length_map,List.length_append,List.length_cons,List.length_nil,List.length_replicate,List.length_set,List.length_drop,List.length_take,Y2] at *;omega)) ((List.map_append (f:=Qj true) (l₁:=(Qg g i).1) (l₂:= [(D.Slot.mk ((((Qg g i).2+1):Nat):Int) false ((i:Nat):Int) ((Qq g i false:Nat):Int))])).symm)) (aO (T.os 4 3 0 ((((Qg g i).1++ [(D.Slot.mk ((((Qg g i).2+1):Nat):Int) false ((i:Nat):Int) ((Qq g i false:Nat):Int))]).map (Qj true)).length)) Y ?_)))))))))))
   refine VRunO.nil (tn (sr (mO (tN (Qq g i true)) Y (fO (B.geq (c:=(decide (2≤Qq g i true))) (tv (tN (Qq g i true)) Y) (VEv.int .i64 2) (by exact Q8 (by omega))) (nt ?_)))))
   refine cd (2≤Qq g i true) Y (fun fhc4=> ?_) fun fhc4=> ?_
   ·refine VRun.region ?_
    refine mO (T.os 4 3 0 ((((Qg g i).1++ [(D.Slot.mk ((((Qg g i).2+1):Nat):Int) false ((i:Nat):Int) ((Qq g i false:Nat):Int))]).map (Qj true)).length)) Y (mO (tN ((Qg g i).2+1)) Y (mO (tN i) Y (mO (tN (Qq g i true)) Y (fO (OF.build (l:= [(0,(tN ((Qg g i).2+1))),(1,(tB true)),(2,(tN i)),(3,(tN (Qq g i true)))]) (zs:= [(tN 0),(tB false),(tN 0),(tN 0)]) (out:= [(tN ((Qg g i).2+1)),(tB true),(tN i),(tN (Qq g i true))]) (VEvp.cons (i:=0) (tv (tN ((Qg g i).2+1)) Y) (VEvp.cons (i:=1) (VEv.bool true) (VEvp.cons (i:=2) (tv (tN i) Y) (VEvp.cons (i:=3) (tv (tN (Qq g i true)) Y) VEvp.nil)))) (bc nofun (bc nofun (bc nofun (bc nofun bn)))) Tryz.underlying112 YS (fun _=>RL.cons (.int _ _) (RL.cons (.bool _) (RL.cons (.int _ _) (RL.cons (.int _ _) (RL.nil _))))) (by kernel_rfl) (by kernel_rfl)) (kO (OM.buildSlice (l:= [(T.agg [(tN ((Qg g i).2+1)),(tB true),(tN i),(tN (Qq g i true))])]) (VEvp.cons (tv (T.agg [(tN ((Qg g i).2+1)),(tB true),(tN i),(tN (Qq g i true))]) Y) VEvp.nil) Y (by decide) (bc (nofun) bn) (bc ((bc (Y) (bc (Y) (bc (Y) (bc (Y) bn))))) bn) (bc (Y) bn) U94 YS (by kernel_rfl) Y (by rw [Zz];decide) Zz (Nat.le_of_ble_eq_true Y)) (cO (B.append (rows:=(((Qg g i).1++ [(D.Slot.mk ((((Qg g i).2+1):Nat):Int) false ((i:Nat):Int) ((Qq g i false:Nat):Int))]).map (Qj true))) (rows2:= [[(tN ((Qg g i).2+1)),(tB true),(tN i),(tN (Qq g i true))]]) (rows3:=((((Qg g i).1++ [(D.Slot.mk ((((Qg g i).2+1):Nat):Int) false ((i:Nat):Int) ((Qq g i false:Nat):Int))])++ [(D.Slot.mk ((((Qg g i).2+1):Nat):Int) true ((i:Nat):Int) ((Qq g i true:Nat):Int))]).map (Qj true))) (VDst.own (tv (T.os 4 3 0 ((((Qg g i).1++ [(D.Slot.mk ((((Qg g i).2+1):Nat):Int) false ((i:Nat):Int) ((Qq g i false:Nat):Int))]).map (Qj true)).length)) Y) Y Y) (VSrc.own (tv (T.os 4 4 0 1) Y) Y Y U94 (bc (bc Y (bc Y (bc Y (bc Y bn)))) bn)) (by decide) U94 Zz (by decide) YS Y (of_decide_eq_true (by kernel_rfl)) (by (simp only [List.length_map,List.length_append,List.length_cons,List.length_nil,List.length_replicate,List.length_set,List.length_drop,List.length_take,Y2] at *;omega)) ((List.map_append (f:=Qj true) (l₁:=((Qg g i).1++ [(D.Slot.mk ((((Qg g i).2+1):Nat):Int) false ((i:Nat):Int) ((Qq g i false:Nat):Int))])) (l₂:= [(D.Slot.mk ((((Qg g i).2+1):Nat):Int) true ((i:Nat):Int) ((Qq g i true:Nat):Int))])).symm)) (aO (T.os 4 5 0 (((((Qg g i).1++ [(D.Slot.mk ((((Qg g i).2+1):Nat):Int) false ((i:Nat):Int) ((Qq g i false:Nat):Int))])++ [(D.Slot.mk ((((Qg g i).2+1):Nat):Int) true ((i:Nat):Int) ((Qq g i true:Nat):Int))]).map (Qj true)).length)) Y (VRunO.nil (vinB.n (tn (VRun.region ?_)))))))))))
    refine fO (Qx (tv (tN i) Y) (VEv.int .i64 1) (by omega)) (mO (tN (i+1)) Y (VRunO.nil (tn ?_)))
    have he3:(((Qg g i).1++ [(D.Slot.mk ((((Qg g i).2+1):Nat):Int) false ((i:Nat):Int) ((Qq g i false:Nat):Int))])++ [(D.Slot.mk ((((Qg g i).2+1):Nat):Int) true ((i:Nat):Int) ((Qq g i true:Nat):Int))])=(Qg g (i+1)).1:=by (rw [YM,Yc];simp [*];done)
    refine ⟨(i+1:Nat),?_,?_,Wk.mk (fun k=>if k=1 then 5 else k) ?_ ?_ ?_⟩
    ·trivial
    ·omega
    ·exact (b2 (b2 (bc ⟨(congrArg (fun l_=>T.os 4 5 0 (List.map (Qj true) l_).length) he3),rfl⟩ (bc ⟨(congrArg (T.int .i64) (show ((((Qg g i).2+1):Nat):Int)=(((Qg g (i+1)).2:Nat):Int) from (by (rw [Yc];simp [*];done)))),rfl⟩ (b2 (b2 bn))))))
    ·exact (b3 (bc ⟨(congrArg (fun l_=>some (Obj.rows 4 (List.map (Qj true) l_))) he3),(lb Y),rfl⟩ bn))
    ·exact nd Y
   refine sk (vinB.n (tn (VRun.region (fO (Qx (tv (tN i) Y) (VEv.int .i64 1) (by omega)) (mO (tN (i+1)) Y (VRunO.nil (tn ?_)))))))
   have he4:((Qg g i).1++ [(D.Slot.mk ((((Qg g i).2+1):Nat):Int) false ((i:Nat):Int) ((Qq g i false:Nat):Int))])=(Qg g (i+1)).1:=by (rw [YM,Yc];simp [*];done)
   refine ⟨(i+1:Nat),?_,?_,Wk.mk (fun k=>if k=1 then 3 else k) ?_ ?_ ?_⟩
   ·trivial
   ·omega
   ·exact (b2 (b2 (bc ⟨(congrArg (fun l_=>T.os 4 3 0 (List.map (Qj true) l_).length) he4),rfl⟩ (bc ⟨(congrArg (T.int .i64) (show ((((Qg g i).2+1):Nat):Int)=(((Qg g (i+1)).2:Nat):Int) from (by (rw [Yc];simp [*];done)))),rfl⟩ (b2 (b2 bn))))))
   ·exact (b3 (bc ⟨(congrArg (fun l_=>some (Obj.rows 4 (List.map (Qj true) l_))) he4),(lb Y),rfl⟩ bn))
   ·exact nd Y
  refine gF (dz fhg25_2) Y Y (OF.move (tv (tN (Qq g i true)) Y)) (gF (dz fhg25_2) Y Y (B.geq (c:=(decide (2≤Qq g i true))) (tv (tN (Qq g i true)) Y) (VEv.int .i64 2) (by exact Q8 (by omega))) (fO (OF.pickF (VEv.tmpB Y (dz fhg25_2)) (tv (tB (decide (2≤Qq g i true))) Y)) (nt ?_)))
  refine cd (2≤Qq g i true) Y (fun fhc2=> ?_) fun fhc2=> ?_
  ·refine VRun.region ?_
   refine mO (tN ((Qg g i).2)) Y (fO (Qx (tv (tN ((Qg g i).2)) Y) (VEv.int .i64 1) (by omega)) (aO (tN ((Qg g i).2+1)) Y (VRunO.nil (tn (sq (sr (mO (tN (Qq g i false)) Y (fO (B.geq (c:=(decide (2≤Qq g i false))) (tv (tN (Qq g i false)) Y) (VEv.int .i64 2) (by exact Q8 (by omega))) (nt (cg (dz fhg25_2) Y (sk ?_)))))))))))
   refine tn (sr (mO (tN (Qq g i true)) Y (fO (B.geq (c:=(decide (2≤Qq g i true))) (tv (tN (Qq g i true)) Y) (VEv.int .i64 2) (by exact Q8 (by omega))) (nt (ck (dy fhc2) Y (VRun.region (mO (T.os 4 1 0 ((((Qg g i).1).map (Qj true)).length)) Y (mO (tN ((Qg g i).2+1)) Y (mO (tN i) Y (mO (tN (Qq g i true)) Y (fO (OF.build (l:= [(0,(tN ((Qg g i).2+1))),(1,(tB true)),(2,(tN i)),(3,(tN (Qq g i true)))]) (zs:= [(tN 0),(tB false),(tN 0),(tN 0)]) (out:= [(tN ((Qg g i).2+1)),(tB true),(tN i),(tN (Qq g i true))]) (VEvp.cons (i:=0) (tv (tN ((Qg g i).2+1)) Y) (VEvp.cons (i:=1) (VEv.bool true) (VEvp.cons (i:=2) (tv (tN i) Y) (VEvp.cons (i:=3) (tv (tN (Qq g i true)) Y) VEvp.nil)))) (bc nofun (bc nofun (bc nofun (bc nofun bn)))) Tryz.underlying112 YS (fun _=>RL.cons (.int _ _) (RL.cons (.bool _) (RL.cons (.int _ _) (RL.cons (.int _ _) (RL.nil _))))) (by kernel_rfl) (by kernel_rfl)) ?_)))))))))))
   refine kO (OM.buildSlice (l:= [(T.agg [(tN ((Qg g i).2+1)),(tB true),(tN i),(tN (Qq g i true))])]) (VEvp.cons (tv (T.agg [(tN ((Qg g i).2+1)),(tB true),(tN i),(tN (Qq g i true))]) Y) VEvp.nil) Y (by decide) (bc (nofun) bn) (bc ((bc (Y) (bc (Y) (bc (Y) (bc (Y) bn))))) bn) (bc (Y) bn) U94 YS (by kernel_rfl) Y (by rw [Zz];decide) Zz (Nat.le_of_ble_eq_true Y)) (cO (B.append (rows:=(((Qg g i).1).map (Qj true))) (rows2:= [[(tN ((Qg g i).2+1)),(tB true),(tN i),(tN (Qq g i true))]]) (rows3:=(((Qg g i).1++ [(D.Slot.mk ((((Qg g i).2+1):Nat):Int) true ((i:Nat):Int) ((Qq g i true:Nat):Int))]).map (Qj true))) (VDst.own (tv (T.os 4 1 0 ((((Qg g i).1).map (Qj true)).length)) Y) Y Y) (VSrc.own (tv (T.os 4 2 0 1) Y) Y Y U94 (bc (bc Y (bc Y (bc Y (bc Y bn)))) bn)) (by decide) U94 Zz (by decide) YS Y (of_decide_eq_true (by kernel_rfl)) (by (simp only [List.length_map,List.length_append,List.length_cons,List.length_nil,List.length_replicate,List.length_set,List.length_drop,List.length_take,Y2] at *;omega)) ((List.map_append (f:=Qj true) (l₁:=(Qg g i).1) (l₂:= [(D.Slot.mk ((((Qg g i).2+1):Nat):Int) true ((i:Nat):Int) ((Qq g i true:Nat):Int))])).symm)) (aO (T.os 4 3 0 ((((Qg g i).1++ [(D.Slot.mk ((((Qg g i).2+1):Nat):Int) true ((i:Nat):Int) ((Qq g i true:Nat):Int))]).map (Qj true)).length)) Y (VRunO.nil (vinB.n (tn (VRun.region (fO (Qx (tv (tN i) Y) (VEv.int .i64 1) (by omega)) (mO (tN (i+1)) Y (VRunO.nil (tn ?_))))))))))
   have he5:((Qg g i).1++ [(D.Slot.mk ((((Qg g i).2+1):Nat):Int) true ((i:Nat):Int) ((Qq g i true:Nat):Int))])=(Qg g (i+1)).1:=by (rw [YM,Yc];simp [*];done)
   refine ⟨(i+1:Nat),?_,?_,Wk.mk (fun k=>if k=1 then 3 else k) ?_ ?_ ?_⟩
   ·trivial
   ·omega
   ·exact (b2 (b2 (bc ⟨(congrArg (fun l_=>T.os 4 3 0 (List.map (Qj true) l_).length) he5),rfl⟩ (bc ⟨(congrArg (T.int .i64) (show ((((Qg g i).2+1):Nat):Int)=(((Qg g (i+1)).2:Nat):Int) from (by (rw [Yc];simp [*];done)))),rfl⟩ (b2 (b2 bn))))))
   ·exact (b3 (bc ⟨(congrArg (fun l_=>some (Obj.rows 4 (List.map (Qj true) l_))) he5),(lb Y),rfl⟩ bn))
   ·exact nd Y
  refine sk (tn (sq (sr (mO (tN (Qq g i false)) Y (fO (B.geq (c:=(decide (2≤Qq g i false))) (tv (tN (Qq g i false)) Y) (VEv.int .i64 2) (by exact Q8 (by omega))) (nt (cg (dz fhg25_2) Y (sk (tn (sr (mO (tN (Qq g i true)) Y ?_)))))))))))
  refine fO (B.geq (c:=(decide (2≤Qq g i true))) (tv (tN (Qq g i true)) Y) (VEv.int .i64 2) (by exact Q8 (by omega))) (nt (cg (dz fhc2) Y (sk (vinB.n (tn (VRun.region (fO (Qx (tv (tN i) Y) (VEv.int .i64 1) (by omega)) (mO (tN (i+1)) Y (VRunO.nil (tn ?_))))))))))
  have he6:(Qg g i).1=(Qg g (i+1)).1:=by (rw [YM,Yc];simp [*];done)
  refine ⟨(i+1:Nat),?_,?_,Wk.mk (fun k=>k) ?_ ?_ ?_⟩
  ·trivial
  ·omega
  ·exact (b2 (b2 (bc ⟨(congrArg (fun l_=>T.os 4 1 0 (List.map (Qj true) l_).length) he6),rfl⟩ (bc ⟨(congrArg (T.int .i64) (show (((Qg g i).2:Nat):Int)=(((Qg g (i+1)).2:Nat):Int) from (by (rw [Yc];simp [*];done)))),rfl⟩ (b2 (b2 bn))))))
  ·exact (b3 (bc ⟨(congrArg (fun l_=>some (Obj.rows 4 (List.map (Qj true) l_))) he6),(lb Y),rfl⟩ bn))
  ·exact nd Y
 refine VRun.exit (vthn.e (vthn.e (vinB.e (tn (sr (mO (T.os 4 1 0 ((((Qg g i).1).map (Qj true)).length)) Y (aO (T.os 4 1 0 ((((Qg g i).1).map (Qj true)).length)) Y (nt (rt ?_)))))))))
 refine vfin.eq (r':=(T.sl true 4 (((Qg g i).1).map (Qj true)))) ?_ (vfin.r (VRes.tmp (t:=(T.os 4 1 0 ((((Qg g i).1).map (Qj true)).length))) Y VRes.nil) (Give.os Y Y (okeSlot.cleanMap _)))
 refine congrArg (fun l_=>T.sl true 4 (List.map (Qj true) l_)) ?_
 refine QdI hI1 (.inl hgo) ?_;left;assumption
noncomputable section
def QcP (g:D.Grid):Prop:=∃s∈Qb g,s.Length<3
instance (g:D.Grid):Decidable (QcP g):=Classical.propDecidable _
end
theorem Qen (n:Nat) (g:D.Grid) (hc:g.Cells.size≤maxLen):Pure (Qs Tryz.prog (n+4)) 117 [(T.agg (Qd false g))] (tB (decide (QcP g))):=by
 refine Pure.intro (rs:= [ResultVar.tmp 2]) Tryz.func117 Y Y Y (E0:= [(0,(T.agg (Qd false g)))]) Y ?_
 obtain ⟨hlim,hmx,hmax⟩:=QA
 have hsl:=Zw g
 refine sr (kO (B.box (ts:=(Qd false g)) (tv (T.agg (Qd false g)) Y) nofun Y) (fO (OF.assign (VEv.bool false)) (nt (sr (lO (OL.loadOn (us:=(Qd false g)) (tv (T.op 0 0) Y) Y Q4 Q0 (lb Y) Y) (cO (OC.callF (r':=(T.os 4 1 0 (((Qb g).map (Qj true)).length))) (objs:= [(Obj.rows 4 ((Qb g).map (Qj true)))]) Y (vc (tv (T.agg (Qd false g)) Y) vn) (LendL.cons (lg Qu) ln) (ZP (n+0) g (by assumption)) Y) (aO (T.os 4 1 0 (((Qb g).map (Qj true)).length)) Y (nt (sq (sr (fO (OF.assign (VEv.int .i64 0)) ?_)))))))))))
 refine nt (VRun.block ?_)
 refine VRun.loop (A:=Nat) (fun s_=> [(3,(T.os 4 0 0 (((Qb g).map (Qj true)).length))),(4,(tN s_))]) (fun s_=>QV [(0,(Obj.rows 4 ((Qb g).map (Qj true))))]) 1 (fun s_=>NoneTo (fun s:D.Slot=>s.Length<3) (Qb g) s_) (fun s_=>(Qb g).length - s_) (0:Nat) ?_ (Wk.mk (fun k=>if k=0 then 1 else k) ?_ ?_ ?_) ?_
 ·exact NoneTo.start _ _
 ·exact (b2 (b2 bn))
 ·exact (b3 bn)
 ·exact nd Y
 rintro i (hI':NoneTo (fun s:D.Slot=>s.Length<3) (Qb g) i)
 show VRun _ _ _ [(3,(T.os 4 0 0 (((Qb g).map (Qj true)).length))),(4,(tN i))] (QV [(0,(Obj.rows 4 ((Qb g).map (Qj true))))]) 1 _
 have hI1:=hI'.1
 refine sq (sr (mO (tN i) Y (mO (T.os 4 0 0 (((Qb g).map (Qj true)).length)) Y (lO (B.lenO (m:=(Qb g).length) (tv (T.os 4 0 0 (((Qb g).map (Qj true)).length)) Y) U94 (List.length_map ..)) (fO (Q5 (tv (tN i) Y) (tv (tN ((Qb g).length)) Y)) (nt ?_))))))
 refine cd (i<(Qb g).length) Y (fun fhc0=> ?_) fun fhc0=> ?_
 ·refine sk ?_
  refine tn (sq (VRun.block (sr (mO (T.os 4 0 0 (((Qb g).map (Qj true)).length)) Y (mO (tN i) Y ?_)))))
  obtain ⟨x1,hx1⟩:∃x,(Qb g)[i]? =some x:=⟨_,List.getElem?_eq_getElem (by omega)⟩
  refine fO (B.indexAddrO (i:=i) (tv (T.os 4 0 0 (((Qb g).map (Qj true)).length)) Y) (tv (tN i) Y) Y (by (simp only [List.length_map];omega)) U94 Zz QbC) (fO (OF.fieldAddrP (tv (T.orp 4 0 i 0) Y) Qbx) (lO (OL.loadP1 (t:=(tI x1.Length)) (row:=(Qj true x1)) (tv (T.orp 4 0 i 3) Y) Y (Qr _ hx1) Y Y QQ) (fO (xls (tv (tI x1.Length) Y) (VEv.int .i64 3)) (nt ?_))))
  refine cd (x1.Length<3) Y (fun fhc1=> ?_) fun fhc1=> ?_
  ·refine sr ?_
   refine fO (OF.assign (VEv.bool true)) (nt (rt (vinB.r (tr (tr (vinB.r (tr (vb (b':=true) Y ?_))))))))
   symm;rw [decide_eq_true_eq];exact ⟨x1,List.mem_of_getElem? hx1,fhc1⟩
  refine sk (vinB.n (tn (VRun.region (mO (tN i) Y (fO (Qx (tv (tN i) Y) (VEv.int .i64 1) (by omega)) (aO (tN (i+1)) Y (VRunO.nil (tn ?_))))))))
  refine ⟨(i+1:Nat),?_,?_,Wk.mk (fun k=>k) ?_ ?_ ?_⟩
  ·exact hI'.next hx1 fhc1
  ·omega
  ·exact (b2 (b2 bn))
  ·exact (b3 bn)
  ·exact nd Y
 refine VRun.exit (vthn.e (vthn.e (vinB.e (tn (sr (fO (OF.assign (VEv.bool false)) (nt (rt (vb (b':=false) Y ?_)))))))))
 symm;rw [decide_eq_false_iff_not];rintro ⟨y,hy,hy2⟩;exact hI'.mem fhc0 y hy hy2
noncomputable section
def QeS (g:D.Grid) (s:D.Slot):Int:=if s.Down=true then g.Cols else 1
def Qk (g:D.Grid) (s:D.Slot) (n:Nat):List Int:=(List.range n).map fun k=>s.Cell+((k:Nat):Int)*QeS g s
theorem Qaf (g:D.Grid) (s:D.Slot) (n:Nat):(Qk g s n).length=n:=by simp [Qk]
theorem QaE (g:D.Grid) (s:D.Slot) (n:Nat):Qk g s (n+1)=Qk g s n++ [s.Cell+((n:Nat):Int)*QeS g s]:=by
 simp [Qk,List.range_succ]
def QhC (g:D.Grid) (s:D.Slot):Prop:=gridOk g∧(0≤s.Cell∧s.Cell≤36)∧(0≤s.Length∧s.Length≤6)
theorem QgR {ok:Nat→Prop} [DecidablePred ok]:∀f n,QaM ok f n≤n+f
 | 0,n=>Nat.le_refl _
 | f+1,n=>by
  simp only [QaM]
  split
  ·have:=QgR (ok:=ok) f (n+1)
   omega
  ·omega
theorem Qh8 (g:D.Grid) (cell:Nat) (down:Bool):Qq g cell down≤6:=by
 unfold Qq Qgy QgB
 split<;>split<;>first | omega | (have:=QgR (ok:=slD g cell) 6 0;omega) | (have:=QgR (ok:=slA g cell) 6 0;omega)
theorem QgG (g:D.Grid) (hg:gridOk g):∀i,i≤g.Cells.size→∀s∈(Qg g i).1,QhC g s
 | 0,_,s,hs=>by simp [Qg] at hs
 | i+1,hi,s,hs=>by
  have hsz:=hg.size
  rw [YM,List.mem_append,List.mem_append] at hs
  rcases hs with (hs | hs) | hs
  ·exact QgG g hg i (by omega) s hs
  ·split at hs
   ·obtain rfl:=List.mem_singleton.1 hs
    have:=Qh8 g i false
    exact ⟨hg,by simp only;omega,by simp only;omega⟩
   ·cases hs
  ·split at hs
   ·obtain rfl:=List.mem_singleton.1 hs
    have:=Qh8 g i true
    exact ⟨hg,by simp only;omega,by simp only;omega⟩
   ·cases hs
theorem Qa5 {g:D.Grid} {s:D.Slot} (hs:s∈Qb g):QhC g s:=by
 unfold Qb at hs
 split at hs
 ·exact QgG g ‹_› _ (Nat.le_refl _) s hs
 ·cases hs
end
theorem Qhu (n:Nat) (g:D.Grid) (s:D.Slot) (hs:QhC g s):Pure (Qs Tryz.prog (n+1)) 99 [(T.agg (Qd false g)),(T.agg (Qj false s))] (T.sl true 1 ((Qk g s s.Length.toNat).map (Qc true))):=by
 refine Pure.intro (rs:= [ResultVar.tmp 4]) Tryz.func99 Y Y Y (E0:= [(0,(T.agg (Qd false g))),(1,(T.agg (Qj false s)))]) Y ?_
 obtain ⟨hlim,hmx,hmax⟩:=QA
 obtain ⟨hg,hc,hl⟩:=hs
 have hB:=hg.2.1
 refine sr (kO (B.box (ts:=(Qd false g)) (tv (T.agg (Qd false g)) Y) nofun Y) (kO (B.box (ts:=(Qj false s)) (tv (T.agg (Qj false s)) Y) nofun Y) (fO (OF.assign VEv.nils) (nt (sr (fO (OF.assign (VEv.int .i64 1)) (nt (sq (sr (lf (tB s.Down) Y Qjn Y Y st4 (nt ?_)))))))))))
 refine VRun.cond (tv (tB s.Down) Y) (fun hc0=> ?_) (fun hc0=> ?_)
 ·have fhc0:s.Down=true:=hc0
  refine VRun.region (lf (tI g.Cols) Y ZE Y Y QQ (aO (tI g.Cols) Y (VRunO.nil (tn (sr (fO (OF.assign VEv.nils) (nt (sq (sr (lf (tI s.Length) Y Qbx Y Y QQ (fO (OF.move (VEv.int .i64 0)) ?_)))))))))))
  refine nt (VRun.block (VRun.wk (Wk.phantom 6 1 Y) ?_))
  have he1: []=((Qk g s 0).map (Qc true)):=by rfl
  refine VRun.loop (A:=Nat) (fun s_=> [(3,(T.op 0 0)),(4,T.nils),(5,(tI g.Cols)),(6,(T.os 1 1 0 (((Qk g s s_).map (Qc true)).length))),(13,(tI s.Length)),(14,(tN s_))]) (fun s_=>QV [(0,(Obj.cells (Qj false s))),(1,(Obj.rows 1 ((Qk g s s_).map (Qc true))))]) 2 (fun s_=>s_≤s.Length.toNat) (fun s_=>s.Length.toNat - s_) (0:Nat) ?_ (Wk.mk (fun k=>if k=0 then 1 else if k=1 then 2 else k) ?_ ?_ ?_) ?_
  ·(simp;done)
  ·exact (b2 (b2 (b2 (bc ⟨(congrArg (fun n_=>T.os 1 2 0 n_) (show 0=((Qk g s 0).map (Qc true)).length from (by rfl))),rfl⟩ (b2 (b2 bn))))))
  ·exact (b3 (bc ⟨(congrArg (fun l_=>some (Obj.rows 1 l_)) he1),(lb Y),rfl⟩ bn))
  ·exact nd Y
  rintro i (hI':i≤s.Length.toNat)
  show VRun _ _ _ [(3,(T.op 0 0)),(4,T.nils),(5,(tI g.Cols)),(6,(T.os 1 1 0 (((Qk g s i).map (Qc true)).length))),(13,(tI s.Length)),(14,(tN i))] (QV [(0,(Obj.cells (Qj false s))),(1,(Obj.rows 1 ((Qk g s i).map (Qc true))))]) 2 _
  have hI1:=hI'
  have hN:=QhJ (n:=i) (c:=g.Cols) (by omega) hB.1 hB.2
  have hcl:=Qaf g s i
  refine sr (fO (xls (tv (tN i) Y) (tv (tI s.Length) Y)) (nt (sq ?_)))
  refine cd (((i:Nat):Int)<s.Length) Y (fun fhc1=> ?_) fun fhc1=> ?_
  ·refine sk ?_
   refine tn (sq (VRun.block (sr (mO (tN i) Y (aO (tN i) Y (nt (VRun.region (mO (T.os 1 1 0 (((Qk g s i).map (Qc true)).length)) Y (lf (tI s.Cell) Y QeL Y Y QQ (mO (tN i) Y (mO (tI g.Cols) Y ?_)))))))))))
   refine fO (B.mul (n:=(((i:Nat):Int)*g.Cols)) (tv (tN i) Y) (tv (tI g.Cols) Y) (by (refine QjD ?_ ?_ ?_<;>omega))) (fO (B.add (n:=(s.Cell+(((i:Nat):Int)*g.Cols))) (tv (tI s.Cell) Y) (tv (tI (((i:Nat):Int)*g.Cols)) Y) (by (rw [Qt (by omega)];done))) (kO (OM.buildSlice (l:= [(tI (s.Cell+(((i:Nat):Int)*g.Cols)))]) (VEvp.cons (tv (tI (s.Cell+(((i:Nat):Int)*g.Cols))) Y) VEvp.nil) Y (by decide) (bc (nofun) bn) (bc ((bc (Y) bn)) bn) (bc (Y) bn) Z1 zo3 (by kernel_rfl) Y (by rw [ZA];decide) ZA (Nat.le_of_ble_eq_true Y)) (cO (B.append (rows:=((Qk g s i).map (Qc true))) (rows2:= [[(tI (s.Cell+(((i:Nat):Int)*g.Cols)))]]) (rows3:=((Qk g s i++ [(s.Cell+(((i:Nat):Int)*g.Cols))]).map (Qc true))) (VDst.own (tv (T.os 1 1 0 (((Qk g s i).map (Qc true)).length)) Y) Y Y) (VSrc.own (tv (T.os 1 2 0 1) Y) Y Y Z1 (bc (bc Y bn) bn)) (by decide) Z1 ZA (by decide) zo3 Y (of_decide_eq_true (by kernel_rfl)) (by (simp only [List.length_map,List.length_append,List.length_cons,List.length_nil,List.length_replicate,List.length_set,List.length_drop,List.length_take,Y2] at *;omega)) ((List.map_append (f:=Qc true) (l₁:=Qk g s i) (l₂:= [(s.Cell+(((i:Nat):Int)*g.Cols))])).symm)) (aO (T.os 1 3 0 (((Qk g s i++ [(s.Cell+(((i:Nat):Int)*g.Cols))]).map (Qc true)).length)) Y (VRunO.nil (vinB.n (tn (VRun.region (fO (Qx (tv (tN i) Y) (VEv.int .i64 1) (by omega)) (mO (tN (i+1)) Y (VRunO.nil ?_)))))))))))
   refine tn ?_
   have he2:(Qk g s i++ [(s.Cell+(((i:Nat):Int)*g.Cols))])=Qk g s (i+1):=by rw [QaE,QeS,if_pos fhc0]
   refine ⟨(i+1:Nat),?_,?_,Wk.mk (fun k=>if k=1 then 3 else k) ?_ ?_ ?_⟩
   ·omega
   ·omega
   ·exact (b2 (b2 (b2 (bc ⟨(congrArg (fun l_=>T.os 1 3 0 (List.map (Qc true) l_).length) he2),rfl⟩ (b2 (b2 bn))))))
   ·exact (b3 (bc ⟨(congrArg (fun l_=>some (Obj.rows 1 (List.map (Qc true) l_))) he2),(lb Y),rfl⟩ bn))
   ·exact nd Y
  refine VRun.exit (vthn.e (vthn.e (vinB.e (tn (sr (mO (T.os 1 1 0 (((Qk g s i).map (Qc true)).length)) Y (aO (T.os 1 1 0 (((Qk g s i).map (Qc true)).length)) Y (nt (rt ?_)))))))))
  refine vfin.eq (r':=(T.sl true 1 ((Qk g s i).map (Qc true)))) ?_ (vfin.r (VRes.tmp (t:=(T.os 1 1 0 (((Qk g s i).map (Qc true)).length))) Y VRes.nil) (Give.os Y Y (okInt.cleanMap _)))
  refine congrArg (fun l_=>T.sl true 1 (List.map (Qc true) l_)) ?_
  rw [show i=s.Length.toNat from by omega]
 have fhc0:s.Down=false:=hc0
 refine sk (tn (sr (fO (OF.assign VEv.nils) (nt (sq (sr (lf (tI s.Length) Y Qbx Y Y QQ (fO (OF.move (VEv.int .i64 0)) (nt (VRun.block (VRun.wk (Wk.phantom 6 1 Y) ?_)))))))))))
 have he3: []=((Qk g s 0).map (Qc true)):=by rfl
 refine VRun.loop (A:=Nat) (fun s_=> [(3,(T.op 0 0)),(4,T.nils),(5,(tN 1)),(6,(T.os 1 1 0 (((Qk g s s_).map (Qc true)).length))),(13,(tI s.Length)),(14,(tN s_))]) (fun s_=>QV [(0,(Obj.cells (Qj false s))),(1,(Obj.rows 1 ((Qk g s s_).map (Qc true))))]) 2 (fun s_=>s_≤s.Length.toNat) (fun s_=>s.Length.toNat - s_) (0:Nat) ?_ (Wk.mk (fun k=>if k=0 then 1 else if k=1 then 2 else k) ?_ ?_ ?_) ?_
 ·(simp;done)
 ·exact (b2 (b2 (b2 (bc ⟨(congrArg (fun n_=>T.os 1 2 0 n_) (show 0=((Qk g s 0).map (Qc true)).length from (by rfl))),rfl⟩ (b2 (b2 bn))))))
 ·exact (b3 (bc ⟨(congrArg (fun l_=>some (Obj.rows 1 l_)) he3),(lb Y),rfl⟩ bn))
 ·exact nd Y
 rintro i (hI':i≤s.Length.toNat)
 show VRun _ _ _ [(3,(T.op 0 0)),(4,T.nils),(5,(tN 1)),(6,(T.os 1 1 0 (((Qk g s i).map (Qc true)).length))),(13,(tI s.Length)),(14,(tN i))] (QV [(0,(Obj.cells (Qj false s))),(1,(Obj.rows 1 ((Qk g s i).map (Qc true))))]) 2 _
 have hI1:=hI'
 have hN:=QhJ (n:=i) (c:=g.Cols) (by omega) hB.1 hB.2
 have hcl:=Qaf g s i
 refine sr (fO (xls (tv (tN i) Y) (tv (tI s.Length) Y)) (nt (sq ?_)))
 refine cd (((i:Nat):Int)<s.Length) Y (fun fhc1=> ?_) fun fhc1=> ?_
 ·refine sk ?_
  refine tn (sq (VRun.block (sr (mO (tN i) Y (aO (tN i) Y (nt (VRun.region (mO (T.os 1 1 0 (((Qk g s i).map (Qc true)).length)) Y (lf (tI s.Cell) Y QeL Y Y QQ (mO (tN i) Y (mO (tN 1) Y ?_)))))))))))
  refine fO (B.mul (n:=(((i*1):Nat):Int)) (tv (tN i) Y) (tv (tN 1) Y) (by (rw [Qt (by omega)];omega))) (fO (B.add (n:=(s.Cell+(((i*1):Nat):Int))) (tv (tI s.Cell) Y) (tv (tN (i*1)) Y) (by (rw [Qt (by omega)];done))) (kO (OM.buildSlice (l:= [(tI (s.Cell+(((i*1):Nat):Int)))]) (VEvp.cons (tv (tI (s.Cell+(((i*1):Nat):Int))) Y) VEvp.nil) Y (by decide) (bc (nofun) bn) (bc ((bc (Y) bn)) bn) (bc (Y) bn) Z1 zo3 (by kernel_rfl) Y (by rw [ZA];decide) ZA (Nat.le_of_ble_eq_true Y)) (cO (B.append (rows:=((Qk g s i).map (Qc true))) (rows2:= [[(tI (s.Cell+(((i*1):Nat):Int)))]]) (rows3:=((Qk g s i++ [(s.Cell+(((i*1):Nat):Int))]).map (Qc true))) (VDst.own (tv (T.os 1 1 0 (((Qk g s i).map (Qc true)).length)) Y) Y Y) (VSrc.own (tv (T.os 1 2 0 1) Y) Y Y Z1 (bc (bc Y bn) bn)) (by decide) Z1 ZA (by decide) zo3 Y (of_decide_eq_true (by kernel_rfl)) (by (simp only [List.length_map,List.length_append,List.length_cons,List.length_nil,List.length_replicate,List.length_set,List.length_drop,List.length_take,Y2] at *;omega)) ((List.map_append (f:=Qc true) (l₁:=Qk g s i) (l₂:= [(s.Cell+(((i*1):Nat):Int))])).symm)) (aO (T.os 1 3 0 (((Qk g s i++ [(s.Cell+(((i*1):Nat):Int))]).map (Qc true)).length)) Y (VRunO.nil (vinB.n (tn (VRun.region (fO (Qx (tv (tN i) Y) (VEv.int .i64 1) (by omega)) (mO (tN (i+1)) Y (VRunO.nil ?_)))))))))))
  refine tn ?_
  have he4:(Qk g s i++ [(s.Cell+(((i*1):Nat):Int))])=Qk g s (i+1):=by (rw [QaE,QeS,fhc0];rfl)
  refine ⟨(i+1:Nat),?_,?_,Wk.mk (fun k=>if k=1 then 3 else k) ?_ ?_ ?_⟩
  ·omega
  ·omega
  ·exact (b2 (b2 (b2 (bc ⟨(congrArg (fun l_=>T.os 1 3 0 (List.map (Qc true) l_).length) he4),rfl⟩ (b2 (b2 bn))))))
  ·exact (b3 (bc ⟨(congrArg (fun l_=>some (Obj.rows 1 (List.map (Qc true) l_))) he4),(lb Y),rfl⟩ bn))
  ·exact nd Y
 refine VRun.exit (vthn.e (vthn.e (vinB.e (tn (sr (mO (T.os 1 1 0 (((Qk g s i).map (Qc true)).length)) Y (aO (T.os 1 1 0 (((Qk g s i).map (Qc true)).length)) Y (nt (rt ?_)))))))))
 refine vfin.eq (r':=(T.sl true 1 ((Qk g s i).map (Qc true)))) ?_ (vfin.r (VRes.tmp (t:=(T.os 1 1 0 (((Qk g s i).map (Qc true)).length))) Y VRes.nil) (Give.os Y Y (okInt.cleanMap _)))
 refine congrArg (fun l_=>T.sl true 1 (List.map (Qc true) l_)) ?_
 rw [show i=s.Length.toNat from by omega]
noncomputable section
def QI (g:D.Grid):List (List Int):=(Qb g).map fun s=>Qk g s s.Length.toNat
theorem Qj7 {g:D.Grid} {i:Nat} {s:D.Slot} (h:(Qb g)[i]? =some s):(QI g).take (i+1)=(QI g).take i++ [Qk g s s.Length.toNat]:=by
 unfold QI
 rw [List.take_add_one,List.getElem?_map,h]
 rfl
theorem Qbc (g:D.Grid):(QI g).length=(Qb g).length:=by simp [QI]
end
theorem JC (n:Nat) (g:D.Grid) (hc:g.Cells.size≤maxLen):Pure (Qs Tryz.prog (n+4)) 83 [(T.agg (Qd false g))] (T.sl true 1 ((QI g).map ((Jo 1 Qc) true))):=by
 refine Pure.intro (rs:= [ResultVar.tmp 2]) Tryz.func83 Y Y Y (E0:= [(0,(T.agg (Qd false g)))]) Y ?_
 obtain ⟨hlim,hmx,hmax⟩:=QA
 have hsl:=Zw g
 have hll:=Qbc g
 refine sr (kO (B.box (ts:=(Qd false g)) (tv (T.agg (Qd false g)) Y) nofun Y) (fO (OF.assign VEv.nils) (nt (sr (fO (OF.assign VEv.nils) (nt (sq (sr (lO (OL.loadOn (us:=(Qd false g)) (tv (T.op 0 0) Y) Y Q4 Q0 (lb Y) Y) (cO (OC.callF (r':=(T.os 4 1 0 (((Qb g).map (Qj true)).length))) (objs:= [(Obj.rows 4 ((Qb g).map (Qj true)))]) Y (vc (tv (T.agg (Qd false g)) Y) vn) (LendL.cons (lg Qu) ln) (Qae (n+0) g (by assumption)) Y) (lO (B.lenO (m:=(Qb g).length) (tv (T.os 4 1 0 (((Qb g).map (Qj true)).length)) Y) U94 (List.length_map ..)) ?_)))))))))))
 refine fO (OF.move (VEv.int .i64 0)) (nt (VRun.block (VRun.wk (Wk.phantom 3 1 Y) ?_)))
 have he1: []=(((QI g).take 0).map ((Jo 1 Qc) true)):=by rfl
 refine VRun.loop (A:=Nat) (fun s_=> [(1,(T.op 0 0)),(2,T.nils),(3,(T.os 1 2 0 ((((QI g).take s_).map ((Jo 1 Qc) true)).length))),(7,(T.os 4 1 0 (((Qb g).map (Qj true)).length))),(8,(tN ((Qb g).length))),(9,(tN s_))]) (fun s_=>QV [(0,(Obj.cells (Qd false g))),(1,(Obj.rows 4 ((Qb g).map (Qj true)))),(2,(Obj.rows 1 (((QI g).take s_).map ((Jo 1 Qc) true))))]) 3 (fun s_=>s_≤(Qb g).length) (fun s_=>(Qb g).length - s_) (0:Nat) ?_ (Wk.mk (fun k=>k) ?_ ?_ ?_) ?_
 ·(simp;done)
 ·exact (b2 (b2 (bc ⟨(congrArg (fun n_=>T.os 1 2 0 n_) (show 0=(((QI g).take 0).map ((Jo 1 Qc) true)).length from (by rfl))),rfl⟩ (b2 (b2 (b2 bn))))))
 ·exact (b3 (b3 (bc ⟨(congrArg (fun l_=>some (Obj.rows 1 l_)) he1),(lb Y),rfl⟩ bn)))
 ·exact nd Y
 rintro i (hI':i≤(Qb g).length)
 show VRun _ _ _ [(1,(T.op 0 0)),(2,T.nils),(3,(T.os 1 2 0 ((((QI g).take i).map ((Jo 1 Qc) true)).length))),(7,(T.os 4 1 0 (((Qb g).map (Qj true)).length))),(8,(tN ((Qb g).length))),(9,(tN i))] (QV [(0,(Obj.cells (Qd false g))),(1,(Obj.rows 4 ((Qb g).map (Qj true)))),(2,(Obj.rows 1 (((QI g).take i).map ((Jo 1 Qc) true))))]) 3 _
 have hI1:=hI'
 refine sr (fO (Q5 (tv (tN i) Y) (tv (tN ((Qb g).length)) Y)) (nt (sq ?_)))
 refine cd (i<(Qb g).length) Y (fun fhc0=> ?_) fun fhc0=> ?_
 ·refine sk ?_
  refine tn (sq (VRun.block (sr ?_)))
  obtain ⟨x1,hx1⟩:∃x,(Qb g)[i]? =some x:=⟨_,List.getElem?_eq_getElem (by omega)⟩
  refine fO (B.indexAddrO (i:=i) (tv (T.os 4 1 0 (((Qb g).map (Qj true)).length)) Y) (tv (tN i) Y) Y (by (simp only [List.length_map];omega)) U94 Zz QbC) (lO (OL.loadPn (us:=(Qj false x1)) (row:=(Qj true x1)) (tv (T.orp 4 1 i 0) Y) Y (Qr _ hx1) Qdj Zz (lb Y) Y (bc Y (bc Y (bc Y (bc Y bn))))) (kO (B.alloc (t:=(T.agg [(tN 0),(tB false),(tN 0),(tN 0)])) (ts:= [(tN 0),(tB false),(tN 0),(tN 0)]) YS QkK nofun (fun _=> .agg _ _ Y (Jm (RL.cons (.int _ _) (RL.cons (.bool _) (RL.cons (.int _ _) (RL.cons (.int _ _) (RL.nil _))))))) Y) (cO (B.storeW (us:=(Qj false x1)) (tv (T.op 3 0) Y) (tv (T.agg (Qj false x1)) Y) nofun Y Y Y QbC Zz (bc Y (bc Y (bc Y (bc Y bn))))) (nt (VRun.region (mO (T.os 1 2 0 ((((QI g).take i).map ((Jo 1 Qc) true)).length)) Y (lO (OL.loadOn (us:=(Qd false g)) (tv (T.op 0 0) Y) Y Q4 Q0 (lb Y) Y) (lO (OL.loadOn (us:=(Qj false x1)) (tv (T.op 3 0) Y) Y Qdj Zz (lb Y) Y) (cO (OC.callF (r':=(T.os 1 4 0 (((Qk g x1 x1.Length.toNat).map (Qc true)).length))) (objs:= [(Obj.rows 1 ((Qk g x1 x1.Length.toNat).map (Qc true)))]) Y (vc (tv (T.agg (Qd false g)) Y) (vc (tv (T.agg (Qj false x1)) Y) vn)) (LendL.cons (lg Qu) (LendL.cons (lg okeSlot) ln)) (Qhu (n+2) g x1 (by exact Qa5 (List.mem_of_getElem? hx1))) Y) ?_)))))))))
  refine B.sliceB (t:=(T.os 1 4 0 (((Qk g x1 x1.Length.toNat).map (Qc true)).length))) (us:= [(T.os 1 4 0 (((Qk g x1 x1.Length.toNat).map (Qc true)).length))]) (rows:= [[(T.sl true 1 ((Qk g x1 x1.Length.toNat).map (Qc true)))]]) VWant.always (VEvp.cons (tv (T.os 1 4 0 (((Qk g x1 x1.Length.toNat).map (Qc true)).length)) Y) VEvp.nil) nofun Y (Bury.os Y Y Bury.nil (by decide)) Y (bc Y bn) Y Qfd QoH (by kernel_rfl) Y (by rw [QfV];decide) QfV (Nat.le_of_ble_eq_true Y) ?_
  refine cO (B.append (rows:=(((QI g).take i).map ((Jo 1 Qc) true))) (rows2:= [[(T.sl true 1 ((Qk g x1 x1.Length.toNat).map (Qc true)))]]) (rows3:=(((QI g).take i++ [Qk g x1 x1.Length.toNat]).map ((Jo 1 Qc) true))) (VDst.own (tv (T.os 1 2 0 ((((QI g).take i).map ((Jo 1 Qc) true)).length)) Y) Y Y) (VSrc.own (tv (T.os 1 5 0 1) Y) Y Y Qfd (bc (bc Y bn) bn)) (by decide) Qfd QfV (by decide) QoH Y (of_decide_eq_true (by kernel_rfl)) (by (rw [List.length_map,List.length_take];simp only [List.length_cons,List.length_nil];omega)) ((List.map_append (f:=(Jo 1 Qc) true) (l₁:=(QI g).take i) (l₂:= [Qk g x1 x1.Length.toNat])).symm)) (aO (T.os 1 6 0 ((((QI g).take i++ [Qk g x1 x1.Length.toNat]).map ((Jo 1 Qc) true)).length)) Y (VRunO.nil (vinB.n (tn (VRun.region (fO (Qx (tv (tN i) Y) (VEv.int .i64 1) (by omega)) (mO (tN (i+1)) Y (VRunO.nil (tn ?_)))))))))
  have he2:((QI g).take i++ [Qk g x1 x1.Length.toNat])=(QI g).take (i+1):=by exact (Qj7 hx1).symm
  refine ⟨(i+1:Nat),?_,?_,Wk.mk (fun k=>if k=2 then 6 else k) ?_ ?_ ?_⟩
  ·trivial
  ·omega
  ·exact (b2 (b2 (bc ⟨(congrArg (fun l_=>T.os 1 6 0 (List.map ((Jo 1 Qc) true) l_).length) he2),rfl⟩ (b2 (b2 (b2 bn))))))
  ·exact (b3 (b3 (bc ⟨(congrArg (fun l_=>some (Obj.rows 1 (List.map ((Jo 1 Qc) true) l_))) he2),(lb Y),rfl⟩ bn)))
  ·exact nd Y
 refine VRun.exit (vthn.e (vthn.e (vinB.e (tn (sr (mO (T.os 1 2 0 ((((QI g).take i).map ((Jo 1 Qc) true)).length)) Y (aO (T.os 1 2 0 ((((QI g).take i).map ((Jo 1 Qc) true)).length)) Y (nt (rt ?_)))))))))
 refine vfin.eq (r':=(T.sl true 1 (((QI g).take i).map ((Jo 1 Qc) true)))) ?_ (vfin.r (VRes.tmp (t:=(T.os 1 2 0 ((((QI g).take i).map ((Jo 1 Qc) true)).length))) Y VRes.nil) (Give.os Y Y ((Qk1 okInt).cleanMap _)))
 refine congrArg (fun l_=>T.sl true 1 (List.map ((Jo 1 Qc) true) l_)) ?_
 rw [List.take_of_length_le (by omega)]
noncomputable section
theorem Qel (g:D.Grid):∀i,∀s∈(Qg g i).1,s.Cell<((i:Nat):Int)
 | 0,s,hs=>by simp [Qg] at hs
 | i+1,s,hs=>by
  rw [YM,List.mem_append,List.mem_append] at hs
  rcases hs with (hs | hs) | hs
  ·have:=Qel g i s hs
   omega
  ·split at hs
   ·obtain rfl:=List.mem_singleton.1 hs
    simp only;omega
   ·cases hs
  ·split at hs
   ·obtain rfl:=List.mem_singleton.1 hs
    simp only;omega
   ·cases hs
theorem Qdn (g:D.Grid):∀i,(Qg g i).1.Nodup
 | 0=>by simp [Qg]
 | i+1=>by
  have h:=Qel g i
  rw [YM,List.nodup_append,List.nodup_append]
  refine ⟨⟨Qdn g i,by split<;>simp,fun a ha b hb e=> ?_⟩,by split<;>simp,fun a ha b hb e=> ?_⟩
  ·split at hb
   ·obtain rfl:=List.mem_singleton.1 hb
    have:=h a ha
    rw [e] at this
    simp only at this
    omega
   ·cases hb
  ·split at hb
   ·obtain rfl:=List.mem_singleton.1 hb
    rcases List.mem_append.1 ha with ha | ha
    ·have:=h a ha
     rw [e] at this
     simp only at this
     omega
    ·split at ha
     ·obtain rfl:=List.mem_singleton.1 ha
      cases e
     ·cases ha
   ·cases hb
theorem Qhb (g:D.Grid):(Qb g).Nodup:=by
 unfold Qb
 split
 ·exact Qdn g _
 ·simp
def Qav (g:D.Grid) (s:D.Slot) (i:Nat):List Int:=if s∈(Qb g).take i then Qk g s s.Length.toNat else []
theorem QnJ {g:D.Grid} {s x:D.Slot} {i:Nat} (h:(Qb g)[i]? =some x) (hn:¬x=s):Qav g s (i+1)=Qav g s i:=by
 unfold Qav
 rw [List.take_add_one,h]
 simp [show ¬s=x from fun e=>hn e.symm]
theorem QlE {g:D.Grid} {s x:D.Slot} {i:Nat} (h:(Qb g)[i]? =some x) (hn:x=s):Qav g s i= []:=by
 subst hn
 refine if_neg fun hm=> ?_
 have hd:=Qhb g
 have hi:=(List.getElem?_eq_some_iff.1 h).1
 rw [← List.take_append_drop i (Qb g),List.nodup_append] at hd
 refine hd.2.2 x hm x ?_ Y
 rw [List.drop_eq_getElem_cons hi,(List.getElem?_eq_some_iff.1 h).2]
 exact List.mem_cons_self
theorem QmI {g:D.Grid} {s x:D.Slot} {i:Nat} (h:(Qb g)[i]? =some x) (hn:x=s):Qav g s (i+1)=Qk g s s.Length.toNat:=by
 subst hn
 refine if_pos ?_
 rw [List.take_add_one,h]
 simp
theorem Qmb {g:D.Grid} {s x:D.Slot} {i k:Nat} (h:(Qb g)[i]? =some x) (hn:x=s) (h1:¬((k:Nat):Int)<s.Length) (h2:k≤s.Length.toNat):Qk g s k=Qav g s (i+1):=by
 rw [QmI h hn,show k=s.Length.toNat by omega]
theorem QmH (g:D.Grid) (s:D.Slot) {i:Nat} (h:(Qb g).length≤i):Qav g s i=if s∈Qb g then Qk g s s.Length.toNat else []:=by
 rw [Qav,List.take_of_length_le h]
end
theorem Qam (n:Nat) (g:D.Grid) (s:D.Slot) (hc:g.Cells.size≤maxLen):Pure (Qs Tryz.prog (n+4)) 82 [(T.agg (Qd false g)),(T.agg (Qj false s))] (T.sl true 1 ((if s∈Qb g then Qk g s s.Length.toNat else []).map (Qc true))):=by
 refine Pure.intro (rs:= [ResultVar.tmp 4]) Tryz.func82 Y Y Y (E0:= [(0,(T.agg (Qd false g))),(1,(T.agg (Qj false s)))]) Y ?_
 obtain ⟨hlim,hmx,hmax⟩:=QA
 have hsl:=Zw g
 refine sr (kO (B.box (ts:=(Qd false g)) (tv (T.agg (Qd false g)) Y) nofun Y) (kO (B.box (ts:=(Qj false s)) (tv (T.agg (Qj false s)) Y) nofun Y) (fO (OF.assign VEv.nils) (nt (sr (kO (OM.slice0 Z1 zo3 (by kernel_rfl) Y (by rw [ZA];decide) ZA) (aO (T.os 1 2 0 0) Y (nt (sr (lO (OL.loadOn (us:=(Qd false g)) (tv (T.op 0 0) Y) Y Q4 Q0 (lb Y) Y) (cO (OC.callF (r':=(T.os 4 3 0 (((Qb g).map (Qj true)).length))) (objs:= [(Obj.rows 4 ((Qb g).map (Qj true)))]) Y (vc (tv (T.agg (Qd false g)) Y) vn) (LendL.cons (lg Qu) ln) (ZP (n+0) g (by assumption)) Y) ?_)))))))))))
 refine aO (T.os 4 3 0 (((Qb g).map (Qj true)).length)) Y (nt (sq (sr (fO (OF.assign (VEv.int .i64 0)) (nt (VRun.block ?_))))))
 have he1: []=((Qav g s 0).map (Qc true)):=by rfl
 refine VRun.loop (A:=Nat) (fun s_=> [(2,(T.op 0 0)),(3,(T.op 1 0)),(4,T.nils),(5,(T.os 1 3 0 (((Qav g s s_).map (Qc true)).length))),(6,(T.os 4 2 0 (((Qb g).map (Qj true)).length))),(7,(tN s_))]) (fun s_=>QV [(0,(Obj.cells (Qd false g))),(1,(Obj.cells (Qj false s))),(2,(Obj.rows 4 ((Qb g).map (Qj true)))),(3,(Obj.rows 1 ((Qav g s s_).map (Qc true))))]) 4 (fun s_=>s_≤(Qb g).length) (fun s_=>(Qb g).length - s_) (0:Nat) ?_ (Wk.mk (fun k=>if k=2 then 3 else if k=3 then 2 else k) ?_ ?_ ?_) ?_
 ·(simp;done)
 ·exact (b2 (b2 (b2 (bc ⟨(congrArg (fun n_=>T.os 1 2 0 n_) (show 0=((Qav g s 0).map (Qc true)).length from (by rfl))),rfl⟩ (b2 (b2 bn))))))
 ·exact (b3 (b3 (b3 (bc ⟨(congrArg (fun l_=>some (Obj.rows 1 l_)) he1),(lb Y),rfl⟩ bn))))
 ·exact nd Y
 rintro i (hI':i≤(Qb g).length)
 show VRun _ _ _ [(2,(T.op 0 0)),(3,(T.op 1 0)),(4,T.nils),(5,(T.os 1 3 0 (((Qav g s i).map (Qc true)).length))),(6,(T.os 4 2 0 (((Qb g).map (Qj true)).length))),(7,(tN i))] (QV [(0,(Obj.cells (Qd false g))),(1,(Obj.cells (Qj false s))),(2,(Obj.rows 4 ((Qb g).map (Qj true)))),(3,(Obj.rows 1 ((Qav g s i).map (Qc true))))]) 4 _
 have hI1:=hI'
 refine sq (sr (mO (tN i) Y (mO (T.os 4 2 0 (((Qb g).map (Qj true)).length)) Y (lO (B.lenO (m:=(Qb g).length) (tv (T.os 4 2 0 (((Qb g).map (Qj true)).length)) Y) U94 (List.length_map ..)) (fO (Q5 (tv (tN i) Y) (tv (tN ((Qb g).length)) Y)) (nt ?_))))))
 refine cd (i<(Qb g).length) Y (fun fhc0=> ?_) fun fhc0=> ?_
 ·refine sk ?_
  refine tn (sq (VRun.block (sq (sq (VRun.draw (B:= [[],[],[1,0],[0,1,2],[],[4,2,1,0,3]]) (by kernel_rfl) (by kernel_rfl) Y (mD (T.os 4 2 0 (((Qb g).map (Qj true)).length)) Y Y (mD (tN i) Y Y ?_)))))))
  obtain ⟨x1,hx1⟩:∃x,(Qb g)[i]? =some x:=⟨_,List.getElem?_eq_getElem (by omega)⟩
  refine fD (B.indexAddrO (i:=i) (tv (T.os 4 2 0 (((Qb g).map (Qj true)).length)) Y) (tv (tN i) Y) Y (by (simp only [List.length_map];omega)) U94 Zz QbC) Y Y (lD (OL.loadPn (us:=(Qj false x1)) (row:=(Qj true x1)) (tv (T.orp 4 2 i 0) Y) Y (Qr _ hx1) Qdj Zz (lb Y) Y (bc Y (bc Y (bc Y (bc Y bn))))) Y Y (lD (OL.loadOn (us:=(Qj false s)) (tv (T.op 1 0) Y) Y Qdj Zz (lb Y) Y) Y Y (fD (B.neq112 (a:=x1) (b:=s) (m:=false) (m':=false) (tv (T.agg (Qj false x1)) Y) (tv (T.agg (Qj false s)) Y)) Y Y (VRunD.nil (tn ?_)))))
  refine cn (x1=s) Y (fun fhc1=> ?_) fun fhc1=> ?_
  ·refine VRun.exit ?_
   refine vthn.e (vinB.e (tn (VRun.region (mO (tN i) Y (fO (Qx (tv (tN i) Y) (VEv.int .i64 1) (by omega)) (aO (tN (i+1)) Y (VRunO.nil (tn ?_))))))))
   have he2:Qav g s i=Qav g s (i+1):=by exact (QnJ hx1 fhc1).symm
   refine ⟨(i+1:Nat),?_,?_,Wk.mk (fun k=>k) ?_ ?_ ?_⟩
   ·trivial
   ·omega
   ·exact (b2 (b2 (b2 (bc ⟨(congrArg (fun l_=>T.os 1 3 0 (List.map (Qc true) l_).length) he2),rfl⟩ (b2 (b2 bn))))))
   ·exact (b3 (b3 (b3 (bc ⟨(congrArg (fun l_=>some (Obj.rows 1 (List.map (Qc true) l_))) he2),(lb Y),rfl⟩ bn))))
   ·exact nd Y
  have hok:QhC g s:=fhc1▸Qa5 (List.mem_of_getElem? hx1)
  obtain ⟨hg,hcc,hll⟩:=hok
  have hB:=hg.2.1
  refine sk (tn (sr (fO (OF.assign (VEv.int .i64 0)) (nt (VRun.block ?_)))))
  have he3:Qav g s i=Qk g s 0:=by (rw [QlE hx1 fhc1];rfl)
  refine VRun.loop (A:=Nat) (fun s_=> [(2,(T.op 0 0)),(3,(T.op 1 0)),(4,T.nils),(5,(T.os 1 3 0 (((Qk g s s_).map (Qc true)).length))),(6,(T.os 4 2 0 (((Qb g).map (Qj true)).length))),(7,(tN i)),(8,(tN s_))]) (fun s_=>QV [(0,(Obj.cells (Qd false g))),(1,(Obj.cells (Qj false s))),(2,(Obj.rows 4 ((Qb g).map (Qj true)))),(3,(Obj.rows 1 ((Qk g s s_).map (Qc true))))]) 4 (fun s_=>s_≤s.Length.toNat) (fun s_=>s.Length.toNat - s_) (0:Nat) ?_ (Wk.mk (fun k=>k) ?_ ?_ ?_) ?_
  ·(simp;done)
  ·exact (b2 (b2 (b2 (bc ⟨(congrArg (fun l_=>T.os 1 3 0 (List.map (Qc true) l_).length) he3),rfl⟩ (b2 (b2 (b2 bn)))))))
  ·exact (b3 (b3 (b3 (bc ⟨(congrArg (fun l_=>some (Obj.rows 1 (List.map (Qc true) l_))) he3),(lb Y),rfl⟩ bn))))
  ·exact nd Y
  rintro k (hI':k≤s.Length.toNat)
  show VRun _ _ _ [(2,(T.op 0 0)),(3,(T.op 1 0)),(4,T.nils),(5,(T.os 1 3 0 (((Qk g s k).map (Qc true)).length))),(6,(T.os 4 2 0 (((Qb g).map (Qj true)).length))),(7,(tN i)),(8,(tN k))] (QV [(0,(Obj.cells (Qd false g))),(1,(Obj.cells (Qj false s))),(2,(Obj.rows 4 ((Qb g).map (Qj true)))),(3,(Obj.rows 1 ((Qk g s k).map (Qc true))))]) 4 _
  have hJ1:=hI'
  have hN:=QhJ (n:=k) (c:=g.Cols) (by omega) hB.1 hB.2
  have hcl:=Qaf g s k
  refine sq (sr (mO (tN k) Y (lf (tI s.Length) Y Qbx Y Y QQ (fO (xls (tv (tN k) Y) (tv (tI s.Length) Y)) (nt ?_)))))
  refine cd (((k:Nat):Int)<s.Length) Y (fun fhc2=> ?_) fun fhc2=> ?_
  ·refine sk ?_
   refine tn (sq (VRun.block (sr (lf (tB s.Down) Y Qjn Y Y st4 (nt ?_)))))
   refine VRun.cond (tv (tB s.Down) Y) (fun hc3=> ?_) (fun hc3=> ?_)
   ·have fhc3:s.Down=true:=hc3
    refine VRun.region (mO (T.os 1 3 0 (((Qk g s k).map (Qc true)).length)) Y (lf (tI s.Cell) Y QeL Y Y QQ (mO (tN k) Y (lf (tI g.Cols) Y ZE Y Y QQ (fO (B.mul (n:=(((k:Nat):Int)*g.Cols)) (tv (tN k) Y) (tv (tI g.Cols) Y) (by (refine QjD ?_ ?_ ?_<;>omega))) (fO (B.add (n:=(s.Cell+(((k:Nat):Int)*g.Cols))) (tv (tI s.Cell) Y) (tv (tI (((k:Nat):Int)*g.Cols)) Y) (by (rw [Qt (by omega)];done))) (kO (OM.buildSlice (l:= [(tI (s.Cell+(((k:Nat):Int)*g.Cols)))]) (VEvp.cons (tv (tI (s.Cell+(((k:Nat):Int)*g.Cols))) Y) VEvp.nil) Y (by decide) (bc (nofun) bn) (bc ((bc (Y) bn)) bn) (bc (Y) bn) Z1 zo3 (by kernel_rfl) Y (by rw [ZA];decide) ZA (Nat.le_of_ble_eq_true Y)) (cO (B.append (rows:=((Qk g s k).map (Qc true))) (rows2:= [[(tI (s.Cell+(((k:Nat):Int)*g.Cols)))]]) (rows3:=((Qk g s k++ [(s.Cell+(((k:Nat):Int)*g.Cols))]).map (Qc true))) (VDst.own (tv (T.os 1 3 0 (((Qk g s k).map (Qc true)).length)) Y) Y Y) (VSrc.own (tv (T.os 1 4 0 1) Y) Y Y Z1 (bc (bc Y bn) bn)) (by decide) Z1 ZA (by decide) zo3 Y (of_decide_eq_true (by kernel_rfl)) (by (simp only [List.length_map,List.length_append,List.length_cons,List.length_nil,List.length_replicate,List.length_set,List.length_drop,List.length_take,Y2] at *;omega)) ((List.map_append (f:=Qc true) (l₁:=Qk g s k) (l₂:= [(s.Cell+(((k:Nat):Int)*g.Cols))])).symm)) (aO (T.os 1 5 0 (((Qk g s k++ [(s.Cell+(((k:Nat):Int)*g.Cols))]).map (Qc true)).length)) Y (VRunO.nil (vinB.n ?_)))))))))))
    refine tn (VRun.region (mO (tN k) Y (fO (Qx (tv (tN k) Y) (VEv.int .i64 1) (by omega)) (aO (tN (k+1)) Y (VRunO.nil (tn ?_))))))
    have he4:(Qk g s k++ [(s.Cell+(((k:Nat):Int)*g.Cols))])=Qk g s (k+1):=by rw [QaE,QeS,if_pos fhc3]
    refine ⟨(k+1:Nat),?_,?_,Wk.mk (fun k=>if k=3 then 5 else k) ?_ ?_ ?_⟩
    ·omega
    ·omega
    ·exact (b2 (b2 (b2 (bc ⟨(congrArg (fun l_=>T.os 1 5 0 (List.map (Qc true) l_).length) he4),rfl⟩ (b2 (b2 (b2 bn)))))))
    ·exact (b3 (b3 (b3 (bc ⟨(congrArg (fun l_=>some (Obj.rows 1 (List.map (Qc true) l_))) he4),(lb Y),rfl⟩ bn))))
    ·exact nd Y
   have fhc3:s.Down=false:=hc3
   refine VRun.region (mO (T.os 1 3 0 (((Qk g s k).map (Qc true)).length)) Y (lf (tI s.Cell) Y QeL Y Y QQ (mO (tN k) Y (fO (B.add (n:=(s.Cell+((k:Nat):Int))) (tv (tI s.Cell) Y) (tv (tN k) Y) (by (rw [Qt (by omega)];done))) (kO (OM.buildSlice (l:= [(tI (s.Cell+((k:Nat):Int)))]) (VEvp.cons (tv (tI (s.Cell+((k:Nat):Int))) Y) VEvp.nil) Y (by decide) (bc (nofun) bn) (bc ((bc (Y) bn)) bn) (bc (Y) bn) Z1 zo3 (by kernel_rfl) Y (by rw [ZA];decide) ZA (Nat.le_of_ble_eq_true Y)) (cO (B.append (rows:=((Qk g s k).map (Qc true))) (rows2:= [[(tI (s.Cell+((k:Nat):Int)))]]) (rows3:=((Qk g s k++ [(s.Cell+((k:Nat):Int))]).map (Qc true))) (VDst.own (tv (T.os 1 3 0 (((Qk g s k).map (Qc true)).length)) Y) Y Y) (VSrc.own (tv (T.os 1 4 0 1) Y) Y Y Z1 (bc (bc Y bn) bn)) (by decide) Z1 ZA (by decide) zo3 Y (of_decide_eq_true (by kernel_rfl)) (by (simp only [List.length_map,List.length_append,List.length_cons,List.length_nil,List.length_replicate,List.length_set,List.length_drop,List.length_take,Y2] at *;omega)) ((List.map_append (f:=Qc true) (l₁:=Qk g s k) (l₂:= [(s.Cell+((k:Nat):Int))])).symm)) (aO (T.os 1 5 0 (((Qk g s k++ [(s.Cell+((k:Nat):Int))]).map (Qc true)).length)) Y (VRunO.nil (vinB.n (tn (VRun.region ?_)))))))))))
   refine mO (tN k) Y (fO (Qx (tv (tN k) Y) (VEv.int .i64 1) (by omega)) (aO (tN (k+1)) Y (VRunO.nil (tn ?_))))
   have he5:(Qk g s k++ [(s.Cell+((k:Nat):Int))])=Qk g s (k+1):=by (rw [QaE,QeS,fhc3];simp;done)
   refine ⟨(k+1:Nat),?_,?_,Wk.mk (fun k=>if k=3 then 5 else k) ?_ ?_ ?_⟩
   ·omega
   ·omega
   ·exact (b2 (b2 (b2 (bc ⟨(congrArg (fun l_=>T.os 1 5 0 (List.map (Qc true) l_).length) he5),rfl⟩ (b2 (b2 (b2 bn)))))))
   ·exact (b3 (b3 (b3 (bc ⟨(congrArg (fun l_=>some (Obj.rows 1 (List.map (Qc true) l_))) he5),(lb Y),rfl⟩ bn))))
   ·exact nd Y
  refine VRun.exit (vthn.e (vthn.e (vinB.e (vinB.n (tn (VRun.region (mO (tN i) Y (fO (Qx (tv (tN i) Y) (VEv.int .i64 1) (by omega)) (aO (tN (i+1)) Y (VRunO.nil (tn ?_)))))))))))
  have he6:Qk g s k=Qav g s (i+1):=by exact Qmb hx1 fhc1 fhc2 hJ1
  refine ⟨(i+1:Nat),?_,?_,Wk.mk (fun k=>k) ?_ ?_ ?_⟩
  ·trivial
  ·omega
  ·exact (b2 (b2 (b2 (bc ⟨(congrArg (fun l_=>T.os 1 3 0 (List.map (Qc true) l_).length) he6),rfl⟩ (b2 (b2 bn))))))
  ·exact (b3 (b3 (b3 (bc ⟨(congrArg (fun l_=>some (Obj.rows 1 (List.map (Qc true) l_))) he6),(lb Y),rfl⟩ bn))))
  ·exact nd Y
 refine VRun.exit (vthn.e (vthn.e (vinB.e (tn (sr (mO (T.os 1 3 0 (((Qav g s i).map (Qc true)).length)) Y (aO (T.os 1 3 0 (((Qav g s i).map (Qc true)).length)) Y (nt (rt ?_)))))))))
 refine vfin.eq (r':=(T.sl true 1 ((Qav g s i).map (Qc true)))) ?_ (vfin.r (VRes.tmp (t:=(T.os 1 3 0 (((Qav g s i).map (Qc true)).length))) Y VRes.nil) (Give.os Y Y (okInt.cleanMap _)))
 refine congrArg (fun l_=>T.sl true 1 (List.map (Qc true) l_)) ?_
 exact QmH g s (by omega)
noncomputable section
def inS (g:D.Grid) (c:Int) (s:D.Slot):Prop:=c∈Qk g s s.Length.toNat
instance (g:D.Grid) (c:Int) (s:D.Slot):Decidable (inS g c s):=Classical.propDecidable _
def atL (g:D.Grid) (c:Int):List D.Slot→Nat→List Int
 | [],_=> []
 | s::r,n=>(if inS g c s then [((n:Nat):Int)] else [])++atL g c r (n+1)
theorem Qiz (g:D.Grid) (c:Int) (s:D.Slot):∀(l:List D.Slot) (n:Nat),atL g c (l++ [s]) n=atL g c l n++(if inS g c s then [((n+l.length:Nat):Int)] else [])
 | [],n=>by simp [atL]
 | x::r,n=>by
  rw [List.cons_append,atL,atL,Qiz g c s r (n+1),List.append_assoc]
  simp only [List.length_cons,show n+1+r.length=n+(r.length+1) by omega]
def Yx (g:D.Grid) (c:Int) (i:Nat):List Int:=atL g c ((Qb g).take i) 0
theorem Qc4 {g:D.Grid} {c:Int} {i:Nat} {s:D.Slot} (h:(Qb g)[i]? =some s):Yx g c (i+1)=Yx g c i++(if inS g c s then [((i:Nat):Int)] else []):=by
 have hi:=(List.getElem?_eq_some_iff.1 h).1
 unfold Yx
 rw [List.take_add_one,h,Option.toList_some,Qiz]
 simp [Nat.min_eq_left (Nat.le_of_lt hi)]
theorem Qjx (g:D.Grid) (c:Int):∀(l:List D.Slot) (n:Nat),(atL g c l n).length≤l.length
 | [],n=>by simp [atL]
 | x::r,n=>by
  have:=Qjx g c r (n+1)
  rw [atL,List.length_append,List.length_cons]
  split<;>simp only [List.length_cons,List.length_nil]<;>omega
theorem QjZ (g:D.Grid) (c:Int) (i:Nat):(Yx g c i).length≤(Qb g).length:=by
 have:=Qjx g c ((Qb g).take i) 0
 rw [List.length_take] at this
 unfold Yx
 omega
theorem Qhv {g:D.Grid} {i:Nat} {s:D.Slot} (h:(Qb g)[i]? =some s):(if s∈Qb g then Qk g s s.Length.toNat else [])=Qk g s s.Length.toNat:=if_pos (List.mem_of_getElem? h)
theorem Qhk (g:D.Grid) (s:D.Slot):(if s∈Qb g then Qk g s s.Length.toNat else []).length≤6:=by
 split
 ·rename_i h
  rw [Qaf]
  have:=(Qa5 h).2.2.2
  omega
 ·simp
end
theorem QbQ (n:Nat) (g:D.Grid) (c:Int) (hc:g.Cells.size≤maxLen):Pure (Qs Tryz.prog (n+5)) 130 [(T.agg (Qd false g)),(tI c)] (T.sl true 1 ((Yx g c (Qb g).length).map (Qc true))):=by
 refine Pure.intro (rs:= [ResultVar.tmp 4]) Tryz.func130 Y Y Y (E0:= [(0,(T.agg (Qd false g))),(1,(tI c))]) Y ?_
 obtain ⟨hlim,hmx,hmax⟩:=QA
 have hsl:=Zw g
 refine sr (kO (B.box (ts:=(Qd false g)) (tv (T.agg (Qd false g)) Y) nofun Y) (fO (OF.assign VEv.nils) (nt (sr (kO (OM.slice0 Z1 zo3 (by kernel_rfl) Y (by rw [ZA];decide) ZA) (aO (T.os 1 1 0 0) Y (nt (sr (lO (OL.loadOn (us:=(Qd false g)) (tv (T.op 0 0) Y) Y Q4 Q0 (lb Y) Y) (cO (OC.callF (r':=(T.os 4 2 0 (((Qb g).map (Qj true)).length))) (objs:= [(Obj.rows 4 ((Qb g).map (Qj true)))]) Y (vc (tv (T.agg (Qd false g)) Y) vn) (LendL.cons (lg Qu) ln) (ZP (n+1) g (by assumption)) Y) (aO (T.os 4 2 0 (((Qb g).map (Qj true)).length)) Y ?_)))))))))))
 refine nt (sq (sr (fO (OF.assign (VEv.int .i64 0)) (nt (VRun.block ?_)))))
 have he1: []=((Yx g c 0).map (Qc true)):=by rfl
 refine VRun.loop (A:=Nat) (fun s_=> [(1,(tI c)),(2,(T.op 0 0)),(4,T.nils),(5,(T.os 1 2 0 (((Yx g c s_).map (Qc true)).length))),(6,(T.os 4 1 0 (((Qb g).map (Qj true)).length))),(7,(tN s_))]) (fun s_=>QV [(0,(Obj.cells (Qd false g))),(1,(Obj.rows 4 ((Qb g).map (Qj true)))),(2,(Obj.rows 1 ((Yx g c s_).map (Qc true))))]) 3 (fun s_=>s_≤(Qb g).length) (fun s_=>(Qb g).length - s_) (0:Nat) ?_ (Wk.mk (fun k=>if k=1 then 2 else if k=2 then 1 else k) ?_ ?_ ?_) ?_
 ·(simp;done)
 ·exact (b2 (b2 (b2 (bc ⟨(congrArg (fun n_=>T.os 1 1 0 n_) (show 0=((Yx g c 0).map (Qc true)).length from (by rfl))),rfl⟩ (b2 (b2 bn))))))
 ·exact (b3 (b3 (bc ⟨(congrArg (fun l_=>some (Obj.rows 1 l_)) he1),(lb Y),rfl⟩ bn)))
 ·exact nd Y
 rintro i (hI':i≤(Qb g).length)
 show VRun _ _ _ [(1,(tI c)),(2,(T.op 0 0)),(4,T.nils),(5,(T.os 1 2 0 (((Yx g c i).map (Qc true)).length))),(6,(T.os 4 1 0 (((Qb g).map (Qj true)).length))),(7,(tN i))] (QV [(0,(Obj.cells (Qd false g))),(1,(Obj.rows 4 ((Qb g).map (Qj true)))),(2,(Obj.rows 1 ((Yx g c i).map (Qc true))))]) 3 _
 have hI1:=hI'
 have hal:=QjZ g c i
 refine sq (sr (mO (tN i) Y (mO (T.os 4 1 0 (((Qb g).map (Qj true)).length)) Y (lO (B.lenO (m:=(Qb g).length) (tv (T.os 4 1 0 (((Qb g).map (Qj true)).length)) Y) U94 (List.length_map ..)) (fO (Q5 (tv (tN i) Y) (tv (tN ((Qb g).length)) Y)) (nt ?_))))))
 refine cd (i<(Qb g).length) Y (fun fhc0=> ?_) fun fhc0=> ?_
 ·refine sk ?_
  refine tn (sq (VRun.block (sq (VRun.draw (B:= [[],[],[],[2,1],[1,2,3],[3,2,1,4,0],[],[6,0,4,1,2,3,5]]) (by kernel_rfl) (by kernel_rfl) Y (lD (OL.loadOn (us:=(Qd false g)) (tv (T.op 0 0) Y) Y Q4 Q0 (lb Y) Y) Y Y (mD (T.os 4 1 0 (((Qb g).map (Qj true)).length)) Y Y (mD (tN i) Y Y ?_)))))))
  obtain ⟨x1,hx1⟩:∃x,(Qb g)[i]? =some x:=⟨_,List.getElem?_eq_getElem (by omega)⟩
  refine fD (B.indexAddrO (i:=i) (tv (T.os 4 1 0 (((Qb g).map (Qj true)).length)) Y) (tv (tN i) Y) Y (by (simp only [List.length_map];omega)) U94 Zz QbC) Y Y (lD (OL.loadPn (us:=(Qj false x1)) (row:=(Qj true x1)) (tv (T.orp 4 1 i 0) Y) Y (Qr _ hx1) Qdj Zz (lb Y) Y (bc Y (bc Y (bc Y (bc Y bn))))) Y Y (VRunD.quiet (bi:= [3,2,1,4,0]) Y VWant.always Y Y Y bn (OC.callF (r':=(T.os 1 3 0 (((if x1∈Qb g then Qk g x1 x1.Length.toNat else []).map (Qc true)).length))) (objs:= [(Obj.rows 1 ((if x1∈Qb g then Qk g x1 x1.Length.toNat else []).map (Qc true)))]) Y (vc (tv (T.agg (Qd false g)) Y) (vc (tv (T.agg (Qj false x1)) Y) vn)) (LendL.cons (lg Qu) (LendL.cons (lg okeSlot) ln)) (Qam (n+0) g x1 (by assumption)) Y) (mD (tI c) Y Y (VRunD.quiet (bi:= [6,0,4,1,2,3,5]) Y VWant.always Y Y Y bn (cS (us:= [(rd 1 Qc (if x1∈Qb g then Qk g x1 x1.Length.toNat else [])),(tI c)]) (vc (tv (T.os 1 3 0 (((if x1∈Qb g then Qk g x1 x1.Length.toNat else []).map (Qc true)).length)) Y) (vc (tv (tI c) Y) vn)) (LendL.cons (Lend.os Y Y (okInt.fzMap _ _)) (lp Y ln)) (QgW (n+3) (if x1∈Qb g then Qk g x1 x1.Length.toNat else []) c (by exact Nat.le_trans (Qhk g _) (by decide))) Y Y) (VRunD.nil (tn ?_))))))
  refine cd (c∈(if x1∈Qb g then Qk g x1 x1.Length.toNat else [])) Y (fun fhc1=> ?_) fun fhc1=> ?_
  ·rw [Qhv hx1] at fhc1
   have q1:inS g c x1:=fhc1
   refine VRun.region (mO (T.os 1 2 0 (((Yx g c i).map (Qc true)).length)) Y (mO (tN i) Y (kO (OM.buildSlice (l:= [(tN i)]) (VEvp.cons (tv (tN i) Y) VEvp.nil) Y (by decide) (bc (nofun) bn) (bc ((bc (Y) bn)) bn) (bc (Y) bn) Z1 zo3 (by kernel_rfl) Y (by rw [ZA];decide) ZA (Nat.le_of_ble_eq_true Y)) (cO (B.append (rows:=((Yx g c i).map (Qc true))) (rows2:= [[(tN i)]]) (rows3:=((Yx g c i++ [((i:Nat):Int)]).map (Qc true))) (VDst.own (tv (T.os 1 2 0 (((Yx g c i).map (Qc true)).length)) Y) Y Y) (VSrc.own (tv (T.os 1 4 0 1) Y) Y Y Z1 (bc (bc Y bn) bn)) (by decide) Z1 ZA (by decide) zo3 Y (of_decide_eq_true (by kernel_rfl)) (by (simp only [List.length_map,List.length_append,List.length_cons,List.length_nil,List.length_replicate,List.length_set,List.length_drop,List.length_take,Y2] at *;omega)) ((List.map_append (f:=Qc true) (l₁:=Yx g c i) (l₂:= [((i:Nat):Int)])).symm)) (aO (T.os 1 5 0 (((Yx g c i++ [((i:Nat):Int)]).map (Qc true)).length)) Y (VRunO.nil (vinB.n (tn (VRun.region (mO (tN i) Y (fO (Qx (tv (tN i) Y) (VEv.int .i64 1) (by omega)) ?_)))))))))))
   refine aO (tN (i+1)) Y (VRunO.nil (tn ?_))
   have he2:(Yx g c i++ [((i:Nat):Int)])=Yx g c (i+1):=by rw [Qc4 hx1,if_pos q1]
   refine ⟨(i+1:Nat),?_,?_,Wk.mk (fun k=>if k=2 then 5 else k) ?_ ?_ ?_⟩
   ·trivial
   ·omega
   ·exact (b2 (b2 (b2 (bc ⟨(congrArg (fun l_=>T.os 1 5 0 (List.map (Qc true) l_).length) he2),rfl⟩ (b2 (b2 bn))))))
   ·exact (b3 (b3 (bc ⟨(congrArg (fun l_=>some (Obj.rows 1 (List.map (Qc true) l_))) he2),(lb Y),rfl⟩ bn)))
   ·exact nd Y
  rw [Qhv hx1] at fhc1
  have q1:¬inS g c x1:=fhc1
  refine sk (vinB.n (tn (VRun.region (mO (tN i) Y (fO (Qx (tv (tN i) Y) (VEv.int .i64 1) (by omega)) (aO (tN (i+1)) Y (VRunO.nil (tn ?_))))))))
  have he3:Yx g c i=Yx g c (i+1):=by rw [Qc4 hx1,if_neg q1,List.append_nil]
  refine ⟨(i+1:Nat),?_,?_,Wk.mk (fun k=>k) ?_ ?_ ?_⟩
  ·trivial
  ·omega
  ·exact (b2 (b2 (b2 (bc ⟨(congrArg (fun l_=>T.os 1 2 0 (List.map (Qc true) l_).length) he3),rfl⟩ (b2 (b2 bn))))))
  ·exact (b3 (b3 (bc ⟨(congrArg (fun l_=>some (Obj.rows 1 (List.map (Qc true) l_))) he3),(lb Y),rfl⟩ bn)))
  ·exact nd Y
 refine VRun.exit (vthn.e (vthn.e (vinB.e (tn (sr (mO (T.os 1 2 0 (((Yx g c i).map (Qc true)).length)) Y (aO (T.os 1 2 0 (((Yx g c i).map (Qc true)).length)) Y (nt (rt ?_)))))))))
 refine vfin.eq (r':=(T.sl true 1 ((Yx g c i).map (Qc true)))) ?_ (vfin.r (VRes.tmp (t:=(T.os 1 2 0 (((Yx g c i).map (Qc true)).length))) Y VRes.nil) (Give.os Y Y (okInt.cleanMap _)))
 refine congrArg (fun l_=>T.sl true 1 (List.map (Qc true) l_)) ?_
 rw [show i=(Qb g).length from by omega]
noncomputable section
theorem Qe1 {g:D.Grid} {i:Nat} {x:List Int} (h:(QI g)[i]? =some x):∃s,(Qb g)[i]? =some s∧x=Qk g s s.Length.toNat:=by
 unfold QI at h
 rw [List.getElem?_map] at h
 obtain ⟨s,h1,h2⟩:=Option.map_eq_some_iff.1 h
 exact ⟨s,h1,h2.symm⟩
theorem Qch {g:D.Grid} {s:D.Slot} {i:Nat} (h:(Qb g)[i]? =some s):(Qk g s s.Length.toNat).length≤6:=by
 rw [Qaf]
 have:=(Qa5 (List.mem_of_getElem? h)).2.2.2
 omega
end
theorem QfM (n:Nat) (g:D.Grid) (c:Int) (hc:g.Cells.size≤maxLen):Pure (Qs Tryz.prog (n+5)) 142 [(T.agg (Qd false g)),(tI c)] (T.sl true 1 ((Yx g c (Qb g).length).map (Qc true))):=by
 refine Pure.intro (rs:= [ResultVar.tmp 4]) Tryz.func142 Y Y Y (E0:= [(0,(T.agg (Qd false g))),(1,(tI c))]) Y ?_
 obtain ⟨hlim,hmx,hmax⟩:=QA
 have hsl:=Zw g
 have hll:=Qbc g
 refine sr (kO (B.box (ts:=(Qd false g)) (tv (T.agg (Qd false g)) Y) nofun Y) (fO (OF.assign VEv.nils) (nt (sr (fO (OF.assign VEv.nils) (nt (sq (sr (lO (OL.loadOn (us:=(Qd false g)) (tv (T.op 0 0) Y) Y Q4 Q0 (lb Y) Y) (cO (OC.callF (r':=(T.os 1 1 0 (((QI g).map ((Jo 1 Qc) true)).length))) (objs:= [(Obj.rows 1 ((QI g).map ((Jo 1 Qc) true)))]) Y (vc (tv (T.agg (Qd false g)) Y) vn) (LendL.cons (lg Qu) ln) (JC (n+0) g (by assumption)) Y) (lO (B.lenO (m:=(QI g).length) (tv (T.os 1 1 0 (((QI g).map ((Jo 1 Qc) true)).length)) Y) Qfd (List.length_map ..)) ?_)))))))))))
 refine fO (OF.move (VEv.int .i64 0)) (nt (VRun.block (VRun.wk (Wk.freeze (sz:=1) (k:=1) (rows':=((QI g).map ((Jo 1 Qc) false))) [9] (bc Y bn) Y Y ((Qk1 okInt).fzMap _ _)) (VRun.wk (Wk.phantom 5 1 Y) ?_))))
 have he1: []=((Yx g c 0).map (Qc true)):=by rfl
 refine VRun.loop (A:=Nat) (fun s_=> [(1,(tI c)),(4,T.nils),(5,(T.os 1 0 0 (((Yx g c s_).map (Qc true)).length))),(9,(rd 1 (Jo 1 Qc) (QI g))),(10,(tN ((QI g).length))),(11,(tN s_))]) (fun s_=>QV [(0,(Obj.rows 1 ((Yx g c s_).map (Qc true))))]) 1 (fun s_=>s_≤(QI g).length) (fun s_=>(QI g).length - s_) (0:Nat) ?_ (Wk.mk (fun k=>if k=0 then 2 else k) ?_ ?_ ?_) ?_
 ·(simp;done)
 ·exact (b2 (b2 (bc ⟨(congrArg (fun n_=>T.os 1 2 0 n_) (show 0=((Yx g c 0).map (Qc true)).length from (by rfl))),rfl⟩ (b2 (b2 (b2 bn))))))
 ·exact (bc ⟨(congrArg (fun l_=>some (Obj.rows 1 l_)) he1),(lb Y),rfl⟩ bn)
 ·exact nd Y
 rintro i (hI':i≤(QI g).length)
 show VRun _ _ _ [(1,(tI c)),(4,T.nils),(5,(T.os 1 0 0 (((Yx g c i).map (Qc true)).length))),(9,(rd 1 (Jo 1 Qc) (QI g))),(10,(tN ((QI g).length))),(11,(tN i))] (QV [(0,(Obj.rows 1 ((Yx g c i).map (Qc true))))]) 1 _
 have hI1:=hI'
 have hal:=QjZ g c i
 refine sr (fO (Q5 (tv (tN i) Y) (tv (tN ((QI g).length)) Y)) (nt (sq ?_)))
 refine cd (i<(QI g).length) Y (fun fhc0=> ?_) fun fhc0=> ?_
 ·refine sk ?_
  refine tn (sq (VRun.block (sr (mO (tN i) Y ?_))))
  obtain ⟨x1,hx1⟩:∃x,(QI g)[i]? =some x:=⟨_,List.getElem?_eq_getElem (by omega)⟩
  obtain ⟨y1,hy1,hq1⟩:=Qe1 hx1
  refine fO (OF.indexAddrR (row:=((Jo 1 Qc) false x1)) (i:=i) (tv (rd 1 (Jo 1 Qc) (QI g)) Y) (tv (tN i) Y) Y (Qr _ hx1) Qfd QfV Qjj) (lO (OL.loadR1 (t:=(rd 1 Qc x1)) (tv (T.rp [(rd 1 Qc x1)]) Y) Y Qcm) (aO (tN i) Y (aO (rd 1 Qc x1) Y (nt (sr (mO (rd 1 Qc x1) Y (mO (tI c) Y (cO (cS (vc (tv (rd 1 Qc x1) Y) (vc (tv (tI c) Y) vn)) (Z8 Y) (Qas (n+2) x1 c (by (rw [hq1];exact Nat.le_trans (Qch hy1) (by decide)))) Y Y) (nt ?_)))))))))
  refine cd (c∈x1) Y (fun fhc1=> ?_) fun fhc1=> ?_
  ·have q1:inS g c y1:=by rw [inS,← hq1];exact fhc1
   refine VRun.region (mO (T.os 1 0 0 (((Yx g c i).map (Qc true)).length)) Y (mO (tN i) Y (kO (OM.buildSlice (l:= [(tN i)]) (VEvp.cons (tv (tN i) Y) VEvp.nil) Y (by decide) (bc (nofun) bn) (bc ((bc (Y) bn)) bn) (bc (Y) bn) Z1 zo3 (by kernel_rfl) Y (by rw [ZA];decide) ZA (Nat.le_of_ble_eq_true Y)) (cO (B.append (rows:=((Yx g c i).map (Qc true))) (rows2:= [[(tN i)]]) (rows3:=((Yx g c i++ [((i:Nat):Int)]).map (Qc true))) (VDst.own (tv (T.os 1 0 0 (((Yx g c i).map (Qc true)).length)) Y) Y Y) (VSrc.own (tv (T.os 1 1 0 1) Y) Y Y Z1 (bc (bc Y bn) bn)) (by decide) Z1 ZA (by decide) zo3 Y (of_decide_eq_true (by kernel_rfl)) (by (simp only [List.length_map,List.length_append,List.length_cons,List.length_nil,List.length_replicate,List.length_set,List.length_drop,List.length_take,Y2] at *;omega)) ((List.map_append (f:=Qc true) (l₁:=Yx g c i) (l₂:= [((i:Nat):Int)])).symm)) (aO (T.os 1 2 0 (((Yx g c i++ [((i:Nat):Int)]).map (Qc true)).length)) Y (VRunO.nil (vinB.n (tn (VRun.region (fO (Qx (tv (tN i) Y) (VEv.int .i64 1) (by omega)) (mO (tN (i+1)) Y ?_)))))))))))
   refine VRunO.nil (tn ?_)
   have he2:(Yx g c i++ [((i:Nat):Int)])=Yx g c (i+1):=by rw [Qc4 hy1,if_pos q1]
   refine ⟨(i+1:Nat),?_,?_,Wk.mk (fun k=>if k=0 then 2 else k) ?_ ?_ ?_⟩
   ·trivial
   ·omega
   ·exact (b2 (b2 (bc ⟨(congrArg (fun l_=>T.os 1 2 0 (List.map (Qc true) l_).length) he2),rfl⟩ (b2 (b2 (b2 bn))))))
   ·exact (bc ⟨(congrArg (fun l_=>some (Obj.rows 1 (List.map (Qc true) l_))) he2),(lb Y),rfl⟩ bn)
   ·exact nd Y
  have q1:¬inS g c y1:=by rw [inS,← hq1];exact fhc1
  refine sk (vinB.n (tn (VRun.region (fO (Qx (tv (tN i) Y) (VEv.int .i64 1) (by omega)) (mO (tN (i+1)) Y (VRunO.nil (tn ?_)))))))
  have he3:Yx g c i=Yx g c (i+1):=by rw [Qc4 hy1,if_neg q1,List.append_nil]
  refine ⟨(i+1:Nat),?_,?_,Wk.mk (fun k=>k) ?_ ?_ ?_⟩
  ·trivial
  ·omega
  ·exact (b2 (b2 (bc ⟨(congrArg (fun l_=>T.os 1 0 0 (List.map (Qc true) l_).length) he3),rfl⟩ (b2 (b2 (b2 bn))))))
  ·exact (bc ⟨(congrArg (fun l_=>some (Obj.rows 1 (List.map (Qc true) l_))) he3),(lb Y),rfl⟩ bn)
  ·exact nd Y
 refine VRun.exit (vthn.e (vthn.e (vinB.e (tn (sr (mO (T.os 1 0 0 (((Yx g c i).map (Qc true)).length)) Y (aO (T.os 1 0 0 (((Yx g c i).map (Qc true)).length)) Y (nt (rt ?_)))))))))
 refine vfin.eq (r':=(T.sl true 1 ((Yx g c i).map (Qc true)))) ?_ (vfin.r (VRes.tmp (t:=(T.os 1 0 0 (((Yx g c i).map (Qc true)).length))) Y VRes.nil) (Give.os Y Y (okInt.cleanMap _)))
 refine congrArg (fun l_=>T.sl true 1 (List.map (Qc true) l_)) ?_
 rw [show i=(Qb g).length from by omega]
noncomputable section
def chk (g:D.Grid) (c:Int):Prop:=(Yx g c (Qb g).length).length=2
instance (g:D.Grid) (c:Int):Decidable (chk g c):=Classical.propDecidable _
end
theorem QdW (n:Nat) (g:D.Grid) (c:Int) (hc:g.Cells.size≤maxLen):Pure (Qs Tryz.prog (n+6)) 138 [(T.agg (Qd false g)),(tI c)] (tB (decide (chk g c))):=by
 refine Pure.intro (rs:= [ResultVar.tmp 4]) Tryz.func138 Y Y Y (E0:= [(0,(T.agg (Qd false g))),(1,(tI c))]) Y ?_
 obtain ⟨hlim,hmx,hmax⟩:=QA
 refine sr (kO (B.box (ts:=(Qd false g)) (tv (T.agg (Qd false g)) Y) nofun Y) (fO (OF.assign (VEv.bool false)) (nt (sr (lO (OL.loadOn (us:=(Qd false g)) (tv (T.op 0 0) Y) Y Q4 Q0 (lb Y) Y) (mO (tI c) Y (cO (OC.callF (r':=(T.os 1 1 0 (((Yx g c (Qb g).length).map (Qc true)).length))) (objs:= [(Obj.rows 1 ((Yx g c (Qb g).length).map (Qc true)))]) Y (vc (tv (T.agg (Qd false g)) Y) (vc (tv (tI c) Y) vn)) (LendL.cons (lg Qu) (lp Y ln)) (QbQ (n+0) g c (by assumption)) Y) (lO (B.lenO (m:=(Yx g c (Qb g).length).length) (tv (T.os 1 1 0 (((Yx g c (Qb g).length).map (Qc true)).length)) Y) Z1 (List.length_map ..)) (fO (B.eql (c:=(decide ((Yx g c (Qb g).length).length=2))) (tv (tN ((Yx g c (Qb g).length).length)) Y) (VEv.int .i64 2) (Q8 (by omega))) (aO (tB (decide ((Yx g c (Qb g).length).length=2))) Y (nt ?_)))))))))))
 refine rt (vb (b':=(decide ((Yx g c (Qb g).length).length=2))) Y ?_)
 exact Q8 Iff.rfl
theorem QdP (n:Nat) (g:D.Grid) (c:Int) (hc:g.Cells.size≤maxLen):Pure (Qs Tryz.prog (n+6)) 133 [(T.agg (Qd false g)),(tI c)] (tB (decide (chk g c))):=by
 refine Pure.intro (rs:= [ResultVar.tmp 4]) Tryz.func133 Y Y Y (E0:= [(0,(T.agg (Qd false g))),(1,(tI c))]) Y ?_
 obtain ⟨hlim,hmx,hmax⟩:=QA
 refine sr (kO (B.box (ts:=(Qd false g)) (tv (T.agg (Qd false g)) Y) nofun Y) (fO (OF.assign (VEv.bool false)) (nt (sr (lO (OL.loadOn (us:=(Qd false g)) (tv (T.op 0 0) Y) Y Q4 Q0 (lb Y) Y) (mO (tI c) Y (cO (OC.callF (r':=(T.os 1 1 0 (((Yx g c (Qb g).length).map (Qc true)).length))) (objs:= [(Obj.rows 1 ((Yx g c (Qb g).length).map (Qc true)))]) Y (vc (tv (T.agg (Qd false g)) Y) (vc (tv (tI c) Y) vn)) (LendL.cons (lg Qu) (lp Y ln)) (QfM (n+0) g c (by assumption)) Y) (lO (B.lenO (m:=(Yx g c (Qb g).length).length) (tv (T.os 1 1 0 (((Yx g c (Qb g).length).map (Qc true)).length)) Y) Z1 (List.length_map ..)) (fO (B.eql (c:=(decide ((Yx g c (Qb g).length).length=2))) (tv (tN ((Yx g c (Qb g).length).length)) Y) (VEv.int .i64 2) (Q8 (by omega))) (aO (tB (decide ((Yx g c (Qb g).length).length=2))) Y (nt ?_)))))))))))
 refine rt (vb (b':=(decide ((Yx g c (Qb g).length).length=2))) Y ?_)
 exact Q8 Iff.rfl
end Go.Proofs.YtoaigcojlmoijaaGreat.AE
