/- A part of what the row of FnExactPuzzleAt uses. Conditions: as each theorem states. -/
import Derived.Test.YtcccmceoplcciaaGreatZFnExactPuzzleAtc
namespace Go.Proofs.YtcccmceoplcciaaGreat.AE
open Go Go.RowKit
set_option linter.unusedVariables false
set_option linter.unusedSimpArgs false
set_option maxRecDepth 20000
set_option maxHeartbeats 2000000
noncomputable section
def two (k:Int):Prop:=k=4∨k=5
def JN (l:List D.Step) (j:Nat):Prop:=∃x,l[j]? =some x∧(1≤x.Kind∧x.Kind≤9)∧(x.Kind=1→Zw x.Word∧x.A=0∧x.B=0) ∧
 (¬x.Kind=1→x.Word=(⟨#[]⟩:ByteArray)∧(0≤x.A∧x.A<(j:Int))∧(two x.Kind→0≤x.B∧x.B<(j:Int))∧(¬two x.Kind→x.B=0)∧(¬two x.Kind→¬x.Kind=2→∃y,l[x.A.toNat]? =some y∧y.Kind=1))
instance (l:List D.Step) (j:Nat):Decidable (JN l j):=Classical.propDecidable _
def ZI (l:List D.Step):Prop:=(1≤l.length∧l.length≤9)∧∀j,j<l.length→JN l j
instance (l:List D.Step):Decidable (ZI l):=Classical.propDecidable _
def QeC (l:List D.Step) (j:Nat) (x:D.Step):Prop:=(1≤x.Kind∧x.Kind≤9)∧(x.Kind=1→Zw x.Word∧x.A=0∧x.B=0) ∧
 (¬x.Kind=1→x.Word=(⟨#[]⟩:ByteArray)∧(0≤x.A∧x.A<(j:Int))∧(two x.Kind→0≤x.B∧x.B<(j:Int))∧(¬two x.Kind→x.B=0)∧(¬two x.Kind→¬x.Kind=2→∃y,l[x.A.toNat]? =some y∧y.Kind=1))
theorem QM {l:List D.Step} {j:Nat} {x:D.Step} (hx:l[j]? =some x):JN l j↔QeC l j x:=by
 constructor
 ·rintro ⟨y,hy,h⟩
  obtain rfl:=Zh hx hy
  exact h
 ·intro h
  exact ⟨x,hx,h⟩
theorem Qpd {l:List D.Step} {k:Nat} {y:D.Step} (hy:l[k]? =some y):(∃z,l[k]? =some z∧z.Kind=1)↔y.Kind=1:=by
 constructor
 ·rintro ⟨z,hz,h⟩
  obtain rfl:=Zh hy hz
  exact h
 ·intro h
  exact ⟨y,hy,h⟩
theorem QoQ {l:List D.Step} {j:Nat} {x y:D.Step} (hx:l[j]? =some x) (hy:l[x.A.toNat]? =some y) (h1:1≤x.Kind∧x.Kind≤9) (h2:¬x.Kind=1) (h3:x.Word=(⟨#[]⟩:ByteArray)) (h4:0≤x.A∧x.A<(j:Int)) (h5:x.B=0) (h6:¬two x.Kind) (h7:¬x.Kind=2):decide (y.Kind=1)=decide (JN l j):=by
 refine Q6 ?_
 rw [QM hx]
 simp only [QeC,Qpd hy]
 exact ⟨fun h=>⟨h1,fun hk=>absurd hk h2,fun _=>⟨h3,h4,fun h=>absurd h h6,fun _=>h5,fun _ _=>h⟩⟩,fun h=>(h.2.2 h2).2.2.2.2 h6 h7⟩
theorem Qoq {l:List D.Step} {j:Nat} {x:D.Step} (hx:l[j]? =some x) (h1:1≤x.Kind∧x.Kind≤9) (h2:x.Kind=1) (h3:Zw x.Word) (h4:x.A=0):decide (x.B=0)=decide (JN l j):=by
 refine Q6 ?_
 rw [QM hx]
 simp only [QeC]
 exact ⟨fun h=>⟨h1,fun _=>⟨h3,h4,h⟩,fun hk=>absurd h2 hk⟩,fun h=>(h.2.1 h2).2.2⟩
theorem Zy : ¬Zw (⟨#[]⟩:ByteArray):=fun h=>absurd h.1.1 (by decide)
end
theorem QdV (n:Nat) (a:Int):Pure (Qs Tryz.prog (n+1)) 163 [(tI a)] (tB (decide (a=3∨6≤a))):=by
 refine Pure.intro (rs:= [ResultVar.tmp 2]) Tryz.func163 Y Y Y (E0:= [(0,(tI a))]) Y ?_
 obtain ⟨hlim,hmx,hmax⟩:=QG
 refine sr (fO (OF.assign (VEv.bool false)) (nt (sr (mO (tI a) Y (fO (Y9 (tv (tI a) Y) (VEv.int .i64 3)) (mO (tB (decide (a=3))) Y ?_))))))
 refine gw (a=3) (fun fhg5_1=> ?_) fun fhg5_1=> ?_
 ·refine QE 2 2 false 5 (dy fhg5_1) Y Y Y ?_
  refine fO (OF.pickT (VEv.tmpB Y (dy fhg5_1)) (VEv.bool true)) (aO (tB true) Y (nt (rt (vb (b':=true) Y ?_))))
  (symm;rw [decide_eq_true_eq];omega)
 refine gF (dz fhg5_1) Y Y (OF.move (tv (tI a) Y)) (gF (dz fhg5_1) Y Y (xge (tv (tI a) Y) (VEv.int .i64 6)) (fO (OF.pickF (VEv.tmpB Y (dz fhg5_1)) (tv (tB (decide (6≤a))) Y)) (aO (tB (decide (6≤a))) Y (nt (rt (vb (b':=(decide (6≤a))) Y ?_))))))
 exact Q6 (by omega)
theorem Yn (n:Nat) (a:Int):Pure (Qs Tryz.prog (n+1)) 164 [(tI a)] (tB (decide (a=4∨a=5))):=by
 refine Pure.intro (rs:= [ResultVar.tmp 2]) Tryz.func164 Y Y Y (E0:= [(0,(tI a))]) Y ?_
 obtain ⟨hlim,hmx,hmax⟩:=QG
 refine sr (fO (OF.assign (VEv.bool false)) (nt (sr (mO (tI a) Y (fO (Y9 (tv (tI a) Y) (VEv.int .i64 4)) (mO (tB (decide (a=4))) Y ?_))))))
 refine gw (a=4) (fun fhg5_1=> ?_) fun fhg5_1=> ?_
 ·refine QE 2 2 false 5 (dy fhg5_1) Y Y Y ?_
  refine fO (OF.pickT (VEv.tmpB Y (dy fhg5_1)) (VEv.bool true)) (aO (tB true) Y (nt (rt (vb (b':=true) Y ?_))))
  (symm;rw [decide_eq_true_eq];omega)
 refine gF (dz fhg5_1) Y Y (OF.move (tv (tI a) Y)) (gF (dz fhg5_1) Y Y (Y9 (tv (tI a) Y) (VEv.int .i64 5)) (fO (OF.pickF (VEv.tmpB Y (dz fhg5_1)) (tv (tB (decide (a=5))) Y)) (aO (tB (decide (a=5))) Y (nt (rt (vb (b':=(decide (a=5))) Y ?_))))))
 exact Q6 (by omega)
theorem Qhj (n:Nat) (a:List D.Step) (i:Nat) (hz:zL ZB a≤mx) (hi:i<a.length):Pure (Qs Tryz.prog (n+3)) 153 [(rd 4 Qg a),(tN i)] (tB (decide (JN a i))):=by
 refine Pure.intro (rs:= [ResultVar.tmp 4]) Tryz.func153 Y Y Y (E0:= [(0,(rd 4 Qg a)),(1,(tN i))]) Y ?_
 obtain ⟨hlim,hmx,hmax⟩:=QG
 have ha:=QU (z:=ZB) a
 have hw:∀x∈a,x.Word.size≤maxLen:=fun x hx=>by have h1:=Qeh (z:=ZB) hx;simp only [ZB] at h1;omega
 refine sr (fO (OF.assign (VEv.bool false)) (nt (sr (mO (rd 4 Qg a) Y (mO (tN i) Y ?_)))))
 obtain ⟨x1,hx1⟩:∃x,a[i]? =some x:=⟨_,List.getElem?_eq_getElem (by omega)⟩
 refine fO (OF.indexAddrR (row:=(Qg false x1)) (i:=i) (tv (rd 4 Qg a) Y) (tv (tN i) Y) Y (Qt _ hx1) U81 ZQ Je) (lO (OL.loadRn (us:=(Qg false x1)) (tv (T.rp (Qg false x1)) Y) Qg7 ZQ (lb Y) Y) (kO (B.alloc (t:=(T.agg [(tN 0),(tS ByteArray.empty),(tN 0),(tN 0)])) (ts:= [(tN 0),(tS ByteArray.empty),(tN 0),(tN 0)]) Qc8 Qio nofun (fun _=> .agg _ _ Y (Yf (RL.cons (.int _ _) (RL.cons (.str _) (RL.cons (.int _ _) (RL.cons (.int _ _) (RL.nil _))))))) Y) (cO (B.storeW (us:=(Qg false x1)) (tv (T.op 0 0) Y) (tv (T.agg (Qg false x1)) Y) nofun Y Y Y Je ZQ (bc Y (bc Y (bc Y (bc Y bn))))) (nt (sq (sq (VRun.draw (B:= [[],[0],[0,1],[1,0,2],[2,0,1,3],[3,1,0,2,4],[4,2,0,1,3,5],[5,3,1,0,2,4,6],[3,1,0,2,4],[4,2,0,1,3,8],[8,3,1,0,2,4,9],[9,8,10,6,4,2,0,1,3,5,7],[7,5,6,10,8,9,11,3,1,0,2,4],[4,2,0,1,3,11,9,8,10,6,5,7,12],[12,7,5,6,10,8,9,11,3,1,0,2,4,13],[13,4,2,0,1,3,11,9,8,10,6,5,7,12,14],[14,12,7,5,6,10,8,9,11,3,1,0,2,4,13,15],[15,13,4,2,0,1,3,11,9,8,10,6,5,7,12,14,16],[16,14,12,7,5,6,10,8,9,11,3,1,0,2,4,13,15,17],[17,15,13,4,2,0,1,3,11,9,8,10,6,5,7,12,14,16,18],[18,16,14,12,7,5,6,10,8,9,11,3,1,0,2,4,13,15,17,19],[19,18,20,16,14,12,7,5,6,10,8,9,11,3,1,0,2,4,13,15,17],[17,15,14,16,20,18,19,21,12,7,5,6,10,8,9,11,3,1,0,2,4,13]]) (by kernel_rfl) (by kernel_rfl) (fD (OF.fieldAddrO (tv (T.op 0 0) Y) Zj) Y Y (lD (OL.loadO1 (t:=(tI x1.Kind)) (tv (T.op 0 0) Y) Y Y QQ) Y Y (VRunD.quiet (bi:= [0,1]) Y VWant.always Y Y Y bn (cS (vc (tv (tI x1.Kind) Y) (vc (VEv.int .i64 1) (vc (VEv.int .i64 9) vn))) (ZO Y) (QT (n+1) x1.Kind 1 9) Y Y) (fD (Q1 (tv (tB (decide (1≤x1.Kind∧x1.Kind≤9))) Y)) Y Y ?_)))))))))))
 refine mD (tB (!(decide (1≤x1.Kind∧x1.Kind≤9)))) Y Y ?_
 refine gn (1≤x1.Kind∧x1.Kind≤9) (fun fhg15_1=> ?_) fun fhg15_1=> ?_
 ·refine oD Y Y (ny fhg15_1) Y ?_
  refine oD Y Y (ny fhg15_1) Y (oD Y Y (ny fhg15_1) Y (oD Y Y (ny fhg15_1) Y (oD Y Y (ny fhg15_1) Y (oD Y Y (ny fhg15_1) Y (oD Y Y (ny fhg15_1) Y (fD (OF.pickT (VEv.tmpB Y (ny fhg15_1)) (VEv.bool true)) Y Y (mD (tB true) Y Y (VRunD.off Y (VWant.not (b:=true) Y Y Y) (VRunD.off Y (VWant.not (b:=true) Y Y Y) (VRunD.off Y (VWant.not (b:=true) Y Y Y) (VRunD.off Y (VWant.not (b:=true) Y Y Y) ?_)))))))))))
  refine uD Y Y Y (uD Y Y Y (uD Y Y Y (VRunD.off Y (VWant.not (b:=true) Y Y Y) (fD (OF.pickT (tv (tB true) Y) (VEv.bool true)) Y Y (VRunD.nil (tn (ct Y (sr (fO (OF.assign (VEv.bool false)) (nt (rt ?_)))))))))))
  refine tr (vb (b':=false) Y ?_)
  (symm;rw [decide_eq_false_iff_not,QM hx1];rintro ⟨h1,h2,h3⟩;by_cases hk:x1.Kind=1<;>simp only [hk,two] at* <;>omega)
 refine VRunD.free Y (VWant.on Y Y (nz fhg15_1)) Y (OF.fieldAddrO (tv (T.op 0 0) Y) Zj) (VRunD.look Y (VWant.on Y Y (nz fhg15_1)) Y (OL.loadO1 (t:=(tI x1.Kind)) (tv (T.op 0 0) Y) Y Y QQ) (VRunD.free Y (VWant.on Y Y (nz fhg15_1)) Y (Y9 (tv (tI x1.Kind) Y) (VEv.int .i64 1)) (VRunD.free Y (VWant.on Y Y (nz fhg15_1)) Y (OF.fieldAddrO (tv (T.op 0 0) Y) JR) (VRunD.look Y (VWant.on Y Y (nz fhg15_1)) Y (OL.loadO1 (t:=(tS x1.Word)) (tv (T.op 0 1) Y) Y Y Yp) (VRunD.quiet (bi:= [8,3,1,0,2,4,9]) Y (VWant.on Y Y (nz fhg15_1)) Y Y Y bn (cS (vc (tv (tS x1.Word) Y) vn) (ZO Y) (QaN (n+0) x1.Word (by exact hw _ (List.mem_of_getElem? hx1))) Y Y) (VRunD.free Y (VWant.on Y Y (nz fhg15_1)) Y (B.bneq U4 (c:=(!((decide (x1.Kind=1)) == (decide (Zw x1.Word))))) (tv (tB (decide (x1.Kind=1))) Y) (tv (tB (decide (Zw x1.Word))) Y) Y) (fD (OF.pickF (VEv.tmpB Y (nz fhg15_1)) (tv (tB (!((decide (x1.Kind=1)) == (decide (Zw x1.Word))))) Y)) Y Y (mD (tB (!((decide (x1.Kind=1)) == (decide (Zw x1.Word))))) Y Y ?_))))))))
 refine Qdo (!((decide (x1.Kind=1)) == (decide (Zw x1.Word)))) (fun hg24_2=> ?_) (fun hg24_2=> ?_)
 ·have fhg24_2:(!((decide (x1.Kind=1)) == (decide (Zw x1.Word))))=true:=hg24_2
  refine oD Y Y hg24_2 Y (oD Y Y hg24_2 Y (oD Y Y hg24_2 Y (oD Y Y hg24_2 Y (uD Y Y Y (uD Y Y Y (uD Y Y Y (oD Y Y hg24_2 Y (fD (OF.pickT (VEv.tmpB Y hg24_2) (VEv.bool true)) Y Y (VRunD.nil (tn (ct Y ?_)))))))))))
  refine sr (fO (OF.assign (VEv.bool false)) (nt (rt (tr (vb (b':=false) Y ?_)))))
  (symm;rw [decide_eq_false_iff_not,QM hx1];rintro ⟨h1,h2,h3⟩;by_cases hk:x1.Kind=1<;>simp only [hk,two] at* <;>(simp_all [Zy];done))
 have fhg24_2:(!((decide (x1.Kind=1)) == (decide (Zw x1.Word))))=false:=hg24_2
 refine VRunD.free Y (VWant.on Y Y hg24_2) Y (OF.fieldAddrO (tv (T.op 0 0) Y) Zj) (VRunD.look Y (VWant.on Y Y hg24_2) Y (OL.loadO1 (t:=(tI x1.Kind)) (tv (T.op 0 0) Y) Y Y QQ) (VRunD.free Y (VWant.on Y Y hg24_2) Y (xne (tv (tI x1.Kind) Y) (VEv.int .i64 1)) (VRunD.free Y (VWant.on Y Y hg24_2) Y (OF.move (tv (tB (!(decide (x1.Kind=1)))) Y)) ?_)))
 refine gn (x1.Kind=1) (fun fhg28_3=> ?_) fun fhg28_3=> ?_
 ·refine VRunD.free Y (VWant.on Y Y (ny fhg28_3)) Y (OF.fieldAddrO (tv (T.op 0 0) Y) JR) ?_
  refine VRunD.look Y (VWant.on Y Y (ny fhg28_3)) Y (OL.loadO1 (t:=(tS x1.Word)) (tv (T.op 0 1) Y) Y Y Yp) (VRunD.free Y (VWant.on Y Y (ny fhg28_3)) Y (B.sneq (c:=(!(decide (x1.Word=(⟨#[]⟩:ByteArray))))) (tv (tS x1.Word) Y) (VEv.str (⟨#[]⟩:ByteArray)) Y) (VRunD.free Y (VWant.on Y Y hg24_2) Y (OF.pickT (VEv.tmpB Y (ny fhg28_3)) (tv (tB (!(decide (x1.Word=(⟨#[]⟩:ByteArray))))) Y)) (fD (OF.pickF (VEv.tmpB Y hg24_2) (tv (tB (!(decide (x1.Word=(⟨#[]⟩:ByteArray))))) Y)) Y Y (VRunD.nil (tn ?_)))))
  refine cn (x1.Word=(⟨#[]⟩:ByteArray)) Y (fun fhc0=> ?_) fun fhc0=> ?_
  ·refine sr ?_
   refine fO (OF.assign (VEv.bool false)) (nt (rt (tr (vb (b':=false) Y ?_))))
   (symm;rw [decide_eq_false_iff_not,QM hx1];rintro ⟨h1,h2,h3⟩;by_cases hk:x1.Kind=1<;>simp only [hk,two] at* <;>(simp_all [Zy];done))
  refine sk (tn (sr (lf (tI x1.Kind) Y Zj Y Y QQ (fO (Y9 (tv (tI x1.Kind) Y) (VEv.int .i64 4)) (mO (tB (decide (x1.Kind=4))) Y ?_)))))
  refine gw (x1.Kind=4) (fun fhg37_4=> ?_) fun fhg37_4=> ?_
  ·refine QE 3 3 false 37 (dy fhg37_4) Y Y Y ?_
   refine fO (OF.pickT (VEv.tmpB Y (dy fhg37_4)) (VEv.bool true)) (aO (tB true) Y (nt (sq (sr (lf (tI x1.Kind) Y Zj Y Y QQ (fO (Y9 (tv (tI x1.Kind) Y) (VEv.int .i64 1)) (nt (cg (dz fhg28_3) Y (sk (tn (sq ?_)))))))))))
   refine sr (lf (tI x1.A) Y YI Y Y QQ (mO (tN i) Y (fO (B.sub (n:=(((i:Nat):Int) - 1)) (tv (tN i) Y) (VEv.int .i64 1) (by (rw [Qx (by omega)];done))) (cO (cS (vc (tv (tI x1.A) Y) (vc (VEv.int .i64 0) (vc (tv (tI (((i:Nat):Int) - 1)) Y) vn))) (ZO Y) (QT (n+1) x1.A 0 (((i:Nat):Int) - 1)) Y Y) (fO (Q1 (tv (tB (decide (0≤x1.A∧x1.A≤(((i:Nat):Int) - 1)))) Y)) (mO (tB (!(decide (0≤x1.A∧x1.A≤(((i:Nat):Int) - 1))))) Y ?_))))))
   refine gn (0≤x1.A∧x1.A≤(((i:Nat):Int) - 1)) (fun fhg59_5=> ?_) fun fhg59_5=> ?_
   ·refine QE 2 6 false 59 (ny fhg59_5) Y Y Y ?_
    refine QaQ 6 8 true 61 Y Y Y (oO Y Y (ny fhg59_5) (fO (OF.pickT (VEv.tmpB Y (ny fhg59_5)) (VEv.bool true)) (mO (tB true) Y (QE 3 17 false 70 (b:=true) Y Y Y Y (QaQ 3 20 true 73 Y Y Y (VRunO.off (VWant.not (b:=true) Y Y Y) (fO (OF.pickT (tv (tB true) Y) (VEv.bool true)) (nt (ct Y (sr (fO (OF.assign (VEv.bool false)) ?_)))))))))))
    refine nt (rt (tr (vb (b':=false) Y ?_)))
    (symm;rw [decide_eq_false_iff_not,QM hx1];rintro ⟨h1,h2,h3⟩;by_cases hk:x1.Kind=1<;>simp only [hk,two] at* <;>first | omega | (simp_all [Zy];omega))
   refine gF (nz fhg59_5) Y Y (OF.move (tv (tB true) Y)) (gF (nz fhg59_5) Y Y (OF.move (tv (tB true) Y)) (VRunO.free (VWant.on (b:=true) Y Y Y) (OF.fieldAddrO (tv (T.op 0 0) Y) Yj) (VRunO.look (VWant.on (b:=true) Y Y Y) (OL.loadO1 (t:=(tI x1.B)) (tv (T.op 0 3) Y) Y Y QQ) (VRunO.free (VWant.on (b:=true) Y Y Y) (OF.move (tv (tN i) Y)) (VRunO.free (VWant.on (b:=true) Y Y Y) (B.sub (n:=(((i:Nat):Int) - 1)) (tv (tN i) Y) (VEv.int .i64 1) (by (rw [Qx (by omega)];done))) (VRunO.chain (VWant.on (b:=true) Y Y Y) (cS (vc (tv (tI x1.B) Y) (vc (VEv.int .i64 0) (vc (tv (tI (((i:Nat):Int) - 1)) Y) vn))) (ZO Y) (QT (n+1) x1.B 0 (((i:Nat):Int) - 1)) Y Y) (VRunO.free (VWant.on (b:=true) Y Y Y) (Q1 (tv (tB (decide (0≤x1.B∧x1.B≤(((i:Nat):Int) - 1)))) Y)) (gF (nz fhg59_5) Y Y (OF.pickT (tv (tB true) Y) (tv (tB (!(decide (0≤x1.B∧x1.B≤(((i:Nat):Int) - 1))))) Y)) (fO (OF.pickF (VEv.tmpB Y (nz fhg59_5)) (tv (tB (!(decide (0≤x1.B∧x1.B≤(((i:Nat):Int) - 1))))) Y)) (mO (tB (!(decide (0≤x1.B∧x1.B≤(((i:Nat):Int) - 1))))) Y ?_))))))))))
   refine gn (0≤x1.B∧x1.B≤(((i:Nat):Int) - 1)) (fun fhg70_6=> ?_) fun fhg70_6=> ?_
   ·refine QE 3 17 false 70 (ny fhg70_6) Y Y Y ?_
    refine QaQ 3 20 true 73 Y Y Y (oO Y Y (ny fhg70_6) (fO (OF.pickT (VEv.tmpB Y (ny fhg70_6)) (VEv.bool true)) (nt (ct Y (sr (fO (OF.assign (VEv.bool false)) (nt (rt (tr (vb (b':=false) Y ?_))))))))))
    (symm;rw [decide_eq_false_iff_not,QM hx1];rintro ⟨h1,h2,h3⟩;by_cases hk:x1.Kind=1<;>simp only [hk,two] at* <;>first | omega | (simp_all [Zy];omega))
   refine gF (nz fhg70_6) Y Y (OF.move (tv (tB true) Y)) (gF (nz fhg70_6) Y Y (B.not (c:=false) (tv (tB true) Y) Y) (gF (nz fhg70_6) Y Y (OF.move (tv (tB false) Y)) (QE 3 20 true 73 (b:=false) Y Y Y Y (gF (nz fhg70_6) Y Y (OF.pickF (tv (tB false) Y) (VEv.bool false)) (fO (OF.pickF (VEv.tmpB Y (nz fhg70_6)) (tv (tB false) Y)) (nt (cf Y (sk (tn (sr (mO (tB true) Y ?_)))))))))))
   refine mO (tB true) Y (QE 3 1 false 80 (b:=true) Y Y Y Y (fO (OF.pickT (tv (tB true) Y) (VEv.bool true)) (mO (tB true) Y (QE 7 6 false 85 (b:=true) Y Y Y Y (fO (OF.pickT (tv (tB true) Y) (VEv.bool true)) (aO (tB true) Y (nt (rt (vb (b':=true) Y ?_)))))))))
   (symm;rw [decide_eq_true_eq,QM hx1];refine ⟨by omega,fun hk=> ?_,fun hk=> ?_⟩<;>first | (exfalso;omega) | (simp_all [two,Zy];omega))
  refine Yx (tI x1.Kind) (dz fhg37_4) Y Y Y Y Zj Y Y QQ (gF (dz fhg37_4) Y Y (Y9 (tv (tI x1.Kind) Y) (VEv.int .i64 5)) (fO (OF.pickF (VEv.tmpB Y (dz fhg37_4)) (tv (tB (decide (x1.Kind=5))) Y)) (aO (tB (decide (x1.Kind=5))) Y (nt (sq (sr (lf (tI x1.Kind) Y Zj Y Y QQ (fO (Y9 (tv (tI x1.Kind) Y) (VEv.int .i64 1)) (nt (cg (dz fhg28_3) Y (sk ?_)))))))))))
  refine tn (sq (sr (lf (tI x1.A) Y YI Y Y QQ (mO (tN i) Y (fO (B.sub (n:=(((i:Nat):Int) - 1)) (tv (tN i) Y) (VEv.int .i64 1) (by (rw [Qx (by omega)];done))) (cO (cS (vc (tv (tI x1.A) Y) (vc (VEv.int .i64 0) (vc (tv (tI (((i:Nat):Int) - 1)) Y) vn))) (ZO Y) (QT (n+1) x1.A 0 (((i:Nat):Int) - 1)) Y Y) (fO (Q1 (tv (tB (decide (0≤x1.A∧x1.A≤(((i:Nat):Int) - 1)))) Y)) (mO (tB (!(decide (0≤x1.A∧x1.A≤(((i:Nat):Int) - 1))))) Y ?_))))))))
  refine gn (0≤x1.A∧x1.A≤(((i:Nat):Int) - 1)) (fun fhg59_7=> ?_) fun fhg59_7=> ?_
  ·refine QE 2 6 false 59 (ny fhg59_7) Y Y Y ?_
   refine QaQ 6 8 true 61 Y Y Y (oO Y Y (ny fhg59_7) (fO (OF.pickT (VEv.tmpB Y (ny fhg59_7)) (VEv.bool true)) (mO (tB true) Y (QE 3 17 false 70 (b:=true) Y Y Y Y (QaQ 3 20 true 73 Y Y Y (VRunO.off (VWant.not (b:=true) Y Y Y) (fO (OF.pickT (tv (tB true) Y) (VEv.bool true)) (nt (ct Y (sr (fO (OF.assign (VEv.bool false)) ?_)))))))))))
   refine nt (rt (tr (vb (b':=false) Y ?_)))
   (symm;rw [decide_eq_false_iff_not,QM hx1];rintro ⟨h1,h2,h3⟩;by_cases hk:x1.Kind=1<;>simp only [hk,two] at* <;>first | (simp_all [Zy];done) | (simp_all [Zy];omega))
  refine gF (nz fhg59_7) Y Y (OF.move (tv (tB (decide (x1.Kind=5))) Y)) (gF (nz fhg59_7) Y Y (OF.move (tv (tB (decide (x1.Kind=5))) Y)) ?_)
  refine gw (x1.Kind=5) (fun fhg61_8=> ?_) fun fhg61_8=> ?_
  ·refine Yx (tI x1.B) (dy fhg61_8) Y Y Y Y Yj Y Y QQ ?_
   refine gF (dy fhg61_8) Y Y (OF.move (tv (tN i) Y)) (gF (dy fhg61_8) Y Y (B.sub (n:=(((i:Nat):Int) - 1)) (tv (tN i) Y) (VEv.int .i64 1) (by (rw [Qx (by omega)];done))) (VRunO.chain (VWant.on Y Y (dy fhg61_8)) (cS (vc (tv (tI x1.B) Y) (vc (VEv.int .i64 0) (vc (tv (tI (((i:Nat):Int) - 1)) Y) vn))) (ZO Y) (QT (n+1) x1.B 0 (((i:Nat):Int) - 1)) Y Y) (gF (dy fhg61_8) Y Y (Q1 (tv (tB (decide (0≤x1.B∧x1.B≤(((i:Nat):Int) - 1)))) Y)) (gF (nz fhg59_7) Y Y (OF.pickT (VEv.tmpB Y (dy fhg61_8)) (tv (tB (!(decide (0≤x1.B∧x1.B≤(((i:Nat):Int) - 1))))) Y)) (fO (OF.pickF (VEv.tmpB Y (nz fhg59_7)) (tv (tB (!(decide (0≤x1.B∧x1.B≤(((i:Nat):Int) - 1))))) Y)) (mO (tB (!(decide (0≤x1.B∧x1.B≤(((i:Nat):Int) - 1))))) Y ?_))))))
   refine gn (0≤x1.B∧x1.B≤(((i:Nat):Int) - 1)) (fun fhg70_9=> ?_) fun fhg70_9=> ?_
   ·refine QE 3 17 false 70 (ny fhg70_9) Y Y Y ?_
    refine QaQ 3 20 true 73 Y Y Y (oO Y Y (ny fhg70_9) (fO (OF.pickT (VEv.tmpB Y (ny fhg70_9)) (VEv.bool true)) (nt (ct Y (sr (fO (OF.assign (VEv.bool false)) (nt (rt (tr (vb (b':=false) Y ?_))))))))))
    (symm;rw [decide_eq_false_iff_not,QM hx1];rintro ⟨h1,h2,h3⟩;by_cases hk:x1.Kind=1<;>simp only [hk,two] at* <;>first | omega | (simp_all [Zy];omega))
   refine gF (nz fhg70_9) Y Y (OF.move (tv (tB (decide (x1.Kind=5))) Y)) (gF (nz fhg70_9) Y Y (Q1 (tv (tB (decide (x1.Kind=5))) Y)) (gF (nz fhg70_9) Y Y (OF.move (tv (tB (!(decide (x1.Kind=5)))) Y)) (QE 3 20 true 73 (nkT (dy fhg61_8)) Y Y Y (gF (nz fhg70_9) Y Y (OF.pickF (VEv.tmpB Y (nkT (dy fhg61_8))) (VEv.bool false)) (fO (OF.pickF (VEv.tmpB Y (nz fhg70_9)) (tv (tB false) Y)) (nt (cf Y (sk (tn (sr (mO (tB (decide (x1.Kind=5))) Y ?_)))))))))))
   refine mO (tB (decide (x1.Kind=5))) Y (QE 3 1 false 80 (dy fhg61_8) Y Y Y (fO (OF.pickT (VEv.tmpB Y (dy fhg61_8)) (VEv.bool true)) (mO (tB true) Y (QE 7 6 false 85 (b:=true) Y Y Y Y (fO (OF.pickT (tv (tB true) Y) (VEv.bool true)) (aO (tB true) Y (nt (rt (vb (b':=true) Y ?_)))))))))
   (symm;rw [decide_eq_true_eq,QM hx1];refine ⟨by omega,fun hk=> ?_,fun hk=> ?_⟩<;>first | (exfalso;omega) | (simp_all [two,Zy];omega))
  refine QE 6 8 true 61 (dz fhg61_8) Y Y Y (gF (nz fhg59_7) Y Y (OF.pickF (VEv.tmpB Y (dz fhg61_8)) (VEv.bool false)) (fO (OF.pickF (VEv.tmpB Y (nz fhg59_7)) (tv (tB false) Y)) (mO (tB false) Y (VRunO.free (VWant.on (b:=false) Y Y Y) (OF.move (tv (tB (decide (x1.Kind=5))) Y)) (VRunO.free (VWant.on (b:=false) Y Y Y) (Q1 (tv (tB (decide (x1.Kind=5))) Y)) (VRunO.free (VWant.on (b:=false) Y Y Y) (OF.move (tv (tB (!(decide (x1.Kind=5)))) Y)) (Yx (tI x1.B) (nkF (dz fhg61_8)) Y Y Y Y Yj Y Y QQ (gF (nkF (dz fhg61_8)) Y Y (xne (tv (tI x1.B) Y) (VEv.int .i64 0)) (VRunO.free (VWant.on (b:=false) Y Y Y) (OF.pickT (VEv.tmpB Y (nkF (dz fhg61_8))) (tv (tB (!(decide (x1.B=0)))) Y)) (fO (OF.pickF (tv (tB false) Y) (tv (tB (!(decide (x1.B=0)))) Y)) (nt ?_)))))))))))
  refine cn (x1.B=0) Y (fun fhc2=> ?_) fun fhc2=> ?_
  ·refine sr ?_
   refine fO (OF.assign (VEv.bool false)) (nt (rt (tr (vb (b':=false) Y ?_))))
   (symm;rw [decide_eq_false_iff_not,QM hx1];rintro ⟨h1,h2,h3⟩;by_cases hk:x1.Kind=1<;>simp only [hk,two] at* <;>(simp_all [Zy];done))
  refine sk (tn (sr (mO (tB (decide (x1.Kind=5))) Y (mO (tB (decide (x1.Kind=5))) Y (Yx (tI x1.Kind) (dz fhg61_8) Y Y Y Y Zj Y Y QQ (gF (dz fhg61_8) Y Y (Y9 (tv (tI x1.Kind) Y) (VEv.int .i64 2)) (fO (OF.pickF (VEv.tmpB Y (dz fhg61_8)) (tv (tB (decide (x1.Kind=2))) Y)) (mO (tB (decide (x1.Kind=2))) Y ?_))))))))
  refine gw (x1.Kind=2) (fun fhg85_10=> ?_) fun fhg85_10=> ?_
  ·refine QE 7 6 false 85 (dy fhg85_10) Y Y Y ?_
   refine fO (OF.pickT (VEv.tmpB Y (dy fhg85_10)) (VEv.bool true)) (aO (tB true) Y (nt (rt (vb (b':=true) Y ?_))))
   (symm;rw [decide_eq_true_eq,QM hx1];refine ⟨by omega,fun hk=> ?_,fun hk=> ?_⟩<;>first | (exfalso;omega) | (simp_all [two,Zy];omega))
  refine gF (dz fhg85_10) Y Y (OF.move (tv (rd 4 Qg a) Y)) (Yx (tI x1.A) (dz fhg85_10) Y Y Y Y YI Y Y QQ ?_)
  obtain ⟨x2,hx2⟩:∃x,a[(Int.toNat x1.A)]? =some x:=⟨_,List.getElem?_eq_getElem (by omega)⟩
  refine gF (dz fhg85_10) Y Y (OF.indexAddrR (row:=(Qg false x2)) (i:=(Int.toNat x1.A)) (tv (rd 4 Qg a) Y) (tv (tI x1.A) Y) (by omega) (Qt _ hx2) U81 ZQ Je) (glr (tI x2.Kind) (dz fhg85_10) Y Y Y Y (lb Y) Zj Y QQ (gF (dz fhg85_10) Y Y (Y9 (tv (tI x2.Kind) Y) (VEv.int .i64 1)) (fO (OF.pickF (VEv.tmpB Y (dz fhg85_10)) (tv (tB (decide (x2.Kind=1))) Y)) (aO (tB (decide (x2.Kind=1))) Y (nt (rt (vb (b':=(decide (x2.Kind=1))) Y ?_)))))))
  (refine QoQ hx1 hx2 ?_ ?_ ?_ ?_ ?_ ?_ ?_<;>first | assumption | omega | (simp only [two];omega))
 refine oD Y Y (nz fhg28_3) Y (oD Y Y (nz fhg28_3) Y (oD Y Y (nz fhg28_3) Y (VRunD.free Y (VWant.on Y Y hg24_2) Y (OF.pickF (VEv.tmpB Y (nz fhg28_3)) (VEv.bool false)) (fD (OF.pickF (VEv.tmpB Y hg24_2) (tv (tB false) Y)) Y Y (VRunD.nil (tn (cf Y (sk (tn (sr (lf (tI x1.Kind) Y Zj Y Y QQ ?_)))))))))))
 refine fO (Y9 (tv (tI x1.Kind) Y) (VEv.int .i64 4)) (mO (tB (decide (x1.Kind=4))) Y ?_)
 refine gw (x1.Kind=4) (fun fhg37_11=> ?_) fun fhg37_11=> ?_
 ·refine QE 3 3 false 37 (dy fhg37_11) Y Y Y ?_
  refine fO (OF.pickT (VEv.tmpB Y (dy fhg37_11)) (VEv.bool true)) (aO (tB true) Y (nt (sq (sr (lf (tI x1.Kind) Y Zj Y Y QQ (fO (Y9 (tv (tI x1.Kind) Y) (VEv.int .i64 1)) (nt (ck (dy fhg28_3) Y (sr (lf (tI x1.A) Y YI Y Y QQ (fO (Y9 (tv (tI x1.A) Y) (VEv.int .i64 0)) ?_)))))))))))
  refine mO (tB (decide (x1.A=0))) Y ?_
  refine gw (x1.A=0) (fun fhg48_12=> ?_) fun fhg48_12=> ?_
  ·refine Yx (tI x1.B) (dy fhg48_12) Y Y Y Y Yj Y Y QQ ?_
   refine gF (dy fhg48_12) Y Y (Y9 (tv (tI x1.B) Y) (VEv.int .i64 0)) (fO (OF.pickT (VEv.tmpB Y (dy fhg48_12)) (tv (tB (decide (x1.B=0))) Y)) (aO (tB (decide (x1.B=0))) Y (nt (rt (tr (vb (b':=(decide (x1.B=0))) Y ?_))))))
   (exfalso;omega)
  refine QE 3 3 true 48 (dz fhg48_12) Y Y Y (fO (OF.pickF (VEv.tmpB Y (dz fhg48_12)) (VEv.bool false)) (aO (tB false) Y (nt (rt (tr (vb (b':=false) Y ?_))))))
  (exfalso;omega)
 refine Yx (tI x1.Kind) (dz fhg37_11) Y Y Y Y Zj Y Y QQ (gF (dz fhg37_11) Y Y (Y9 (tv (tI x1.Kind) Y) (VEv.int .i64 5)) (fO (OF.pickF (VEv.tmpB Y (dz fhg37_11)) (tv (tB (decide (x1.Kind=5))) Y)) (aO (tB (decide (x1.Kind=5))) Y (nt (sq (sr (lf (tI x1.Kind) Y Zj Y Y QQ (fO (Y9 (tv (tI x1.Kind) Y) (VEv.int .i64 1)) (nt (ck (dy fhg28_3) Y (sr ?_)))))))))))
 refine lf (tI x1.A) Y YI Y Y QQ (fO (Y9 (tv (tI x1.A) Y) (VEv.int .i64 0)) (mO (tB (decide (x1.A=0))) Y ?_))
 refine gw (x1.A=0) (fun fhg48_13=> ?_) fun fhg48_13=> ?_
 ·refine Yx (tI x1.B) (dy fhg48_13) Y Y Y Y Yj Y Y QQ ?_
  refine gF (dy fhg48_13) Y Y (Y9 (tv (tI x1.B) Y) (VEv.int .i64 0)) (fO (OF.pickT (VEv.tmpB Y (dy fhg48_13)) (tv (tB (decide (x1.B=0))) Y)) (aO (tB (decide (x1.B=0))) Y (nt (rt (tr (vb (b':=(decide (x1.B=0))) Y ?_))))))
  (refine Qoq hx1 ?_ ?_ ?_ ?_<;>first | assumption | (simp_all;done))
 refine QE 3 3 true 48 (dz fhg48_13) Y Y Y (fO (OF.pickF (VEv.tmpB Y (dz fhg48_13)) (VEv.bool false)) (aO (tB false) Y (nt (rt (tr (vb (b':=false) Y ?_))))))
 (symm;rw [decide_eq_false_iff_not,QM hx1];rintro ⟨h1,h2,h3⟩;by_cases hk:x1.Kind=1<;>simp only [hk,two] at* <;>(simp_all [Zy];done))
theorem Qgo (n:Nat) (a:List D.Step) (hz:zL ZB a≤mx):Pure (Qs Tryz.prog (n+4)) 128 [(rd 4 Qg a)] (tB (decide (ZI a))):=by
 refine Pure.intro (rs:= [ResultVar.tmp 2]) Tryz.func128 Y Y Y (E0:= [(0,(rd 4 Qg a))]) Y ?_
 obtain ⟨hlim,hmx,hmax⟩:=QG
 have ha:=QU (z:=ZB) a
 refine sr (fO (OF.assign (VEv.bool false)) (nt (sq (sr (fO (OF.assign (VEv.int .i64 0)) (nt (VRun.block ?_)))))))
 refine VRun.loop (A:=Nat) (fun s_=> [(0,(rd 4 Qg a)),(3,(tN s_))]) (fun s_=>QY []) 0 (fun s_=>s_≤a.length∧∀j,j<s_→JN a j) (fun s_=>a.length - s_) (0:Nat) ?_ (Wk.mk (fun k=>k) ?_ ?_ ?_) ?_
 ·exact ⟨Nat.zero_le _,fun j hj=>by omega⟩
 ·exact (b2 (b2 bn))
 ·exact bn
 ·exact nd Y
 rintro i (hI':i≤a.length∧∀j,j<i→JN a j)
 show VRun _ _ _ [(0,(rd 4 Qg a)),(3,(tN i))] (QY []) 0 _
 have hI0:=hI'
 refine sq (sr (mO (tN i) Y (mO (rd 4 Qg a) Y (lO (B.lenR (m:=a.length) (tv (rd 4 Qg a) Y) U81 (List.length_map ..)) (fO (Zb (tv (tN i) Y) (tv (tN a.length) Y)) (mO (tB (decide (i<a.length))) Y ?_))))))
 refine gw (i<a.length) (fun fhg8_1=> ?_) fun fhg8_1=> ?_
 ·refine gF (dy fhg8_1) Y Y (OF.move (tv (rd 4 Qg a) Y)) ?_
  refine gL (dy fhg8_1) Y Y (B.lenR (m:=a.length) (tv (rd 4 Qg a) Y) U81 (List.length_map ..)) (gF (dy fhg8_1) Y Y (B.leq (c:=(decide (a.length≤9))) (tv (tN a.length) Y) (VEv.int .i64 9) (Q6 (by omega))) (fO (OF.pickT (VEv.tmpB Y (dy fhg8_1)) (tv (tB (decide (a.length≤9))) Y)) (nt ?_)))
  refine cd (a.length≤9) Y (fun fhc0=> ?_) fun fhc0=> ?_
  ·refine sk ?_
   refine tn (sq (VRun.block (sr (mO (rd 4 Qg a) Y (mO (tN i) Y (cO (cS (vc (tv (rd 4 Qg a) Y) (vc (tv (tN i) Y) vn)) (ZO Y) (Qhj (n+0) a i (by assumption) (by assumption)) Y Y) (fO (Q1 (tv (tB (decide (JN a i))) Y)) (nt ?_))))))))
   refine cn (JN a i) Y (fun fhc1=> ?_) fun fhc1=> ?_
   ·refine sr ?_
    refine fO (OF.assign (VEv.bool false)) (nt (rt (vinB.r (tr (tr (vinB.r (tr (vb (b':=false) Y ?_))))))))
    (symm;rw [decide_eq_false_iff_not];rintro ⟨h1,h2⟩;exact absurd (h2 i (by omega)) (by assumption))
   refine sk (vinB.n (tn (VRun.region (mO (tN i) Y (fO (Qy (tv (tN i) Y) (VEv.int .i64 1) (by omega)) (aO (tN (i+1)) Y (VRunO.nil (tn ?_))))))))
   refine ⟨(i+1:Nat),?_,?_,Wk.mk (fun k=>k) ?_ ?_ ?_⟩
   ·exact QZ hI0 (by omega) (by assumption)
   ·omega
   ·exact (b2 (b2 bn))
   ·exact bn
   ·exact nd Y
  refine VRun.exit (vthn.e (vthn.e (vinB.e (tn (sr (mO (rd 4 Qg a) Y (lO (B.lenR (m:=a.length) (tv (rd 4 Qg a) Y) U81 (List.length_map ..)) (cO (cS (vc (tv (tN a.length) Y) (vc (VEv.int .i64 1) (vc (VEv.int .i64 9) vn))) (ZO Y) (QT (n+2) ((a.length:Nat):Int) 1 9) Y Y) (aO (tB (decide (1≤((a.length:Nat):Int)∧((a.length:Nat):Int)≤9))) Y (nt (rt ?_)))))))))))
  refine vb (b':=(decide (1≤((a.length:Nat):Int)∧((a.length:Nat):Int)≤9))) Y ?_
  (refine Q6 ⟨fun h=>⟨by omega,ZY hI' (by omega)⟩,fun h=>by have:=h.1;omega⟩)
 refine QE 3 4 true 8 (dz fhg8_1) Y Y Y (fO (OF.pickF (VEv.tmpB Y (dz fhg8_1)) (VEv.bool false)) (nt (cf Y (VRun.exit (vthn.e (vthn.e (vinB.e (tn (sr (mO (rd 4 Qg a) Y (lO (B.lenR (m:=a.length) (tv (rd 4 Qg a) Y) U81 (List.length_map ..)) ?_)))))))))))
 refine cO (cS (vc (tv (tN a.length) Y) (vc (VEv.int .i64 1) (vc (VEv.int .i64 9) vn))) (ZO Y) (QT (n+2) ((a.length:Nat):Int) 1 9) Y Y) (aO (tB (decide (1≤((a.length:Nat):Int)∧((a.length:Nat):Int)≤9))) Y (nt (rt (vb (b':=(decide (1≤((a.length:Nat):Int)∧((a.length:Nat):Int)≤9))) Y ?_))))
 (refine Q6 ⟨fun h=>⟨by omega,ZY hI' (by omega)⟩,fun h=>by have:=h.1;omega⟩)
theorem QgD (n:Nat) (a:List D.Step) (hz:zL ZB a≤mx):Pure (Qs Tryz.prog (n+3)) 142 [(rd 4 Qg a)] (tB (decide (ZI a))):=by
 refine Pure.intro (rs:= [ResultVar.tmp 2]) Tryz.func142 Y Y Y (E0:= [(0,(rd 4 Qg a))]) Y ?_
 obtain ⟨hlim,hmx,hmax⟩:=QG
 have ha:=QU (z:=ZB) a
 have hw:∀x∈a,x.Word.size≤maxLen:=fun x hx=>by have h1:=Qeh (z:=ZB) hx;simp only [ZB] at h1;omega
 refine sr (fO (OF.assign (VEv.bool false)) (nt (sq (sr (mO (rd 4 Qg a) Y (lO (B.lenR (m:=a.length) (tv (rd 4 Qg a) Y) U81 (List.length_map ..)) (cO (cS (vc (tv (tN a.length) Y) (vc (VEv.int .i64 1) (vc (VEv.int .i64 9) vn))) (ZO Y) (Zc (n+1) ((a.length:Nat):Int) 1 9) Y Y) (fO (Q1 (tv (tB (decide (1≤((a.length:Nat):Int)∧((a.length:Nat):Int)≤9))) Y)) (nt ?_)))))))))
 refine cn (1≤((a.length:Nat):Int)∧((a.length:Nat):Int)≤9) Y (fun fhc0=> ?_) fun fhc0=> ?_
 ·refine sr ?_
  refine fO (OF.assign (VEv.bool false)) (nt (rt (tr (vb (b':=false) Y ?_))))
  (symm;rw [decide_eq_false_iff_not];rintro ⟨h1,h2⟩;(exfalso;omega))
 refine sk (tn (sq (sr (mO (rd 4 Qg a) Y (lO (B.lenR (m:=a.length) (tv (rd 4 Qg a) Y) U81 (List.length_map ..)) (fO (OF.move (VEv.int .i64 0)) (nt (VRun.block ?_))))))))
 refine VRun.loop (A:=Nat) (fun s_=> [(0,(rd 4 Qg a)),(9,(rd 4 Qg a)),(10,(tN a.length)),(11,(tN s_))]) (fun s_=>QY []) 0 (fun s_=>s_≤a.length∧∀j,j<s_→JN a j) (fun s_=>a.length - s_) (0:Nat) ?_ (Wk.mk (fun k=>k) ?_ ?_ ?_) ?_
 ·exact ⟨Nat.zero_le _,fun j hj=>by omega⟩
 ·exact (b2 (b2 (b2 (b2 bn))))
 ·exact bn
 ·exact nd Y
 rintro i (hI':i≤a.length∧∀j,j<i→JN a j)
 show VRun _ _ _ [(0,(rd 4 Qg a)),(9,(rd 4 Qg a)),(10,(tN a.length)),(11,(tN i))] (QY []) 0 _
 have hI0:=hI'
 refine sr (fO (Zb (tv (tN i) Y) (tv (tN a.length) Y)) (nt (sq ?_)))
 refine cd (i<a.length) Y (fun fhc1=> ?_) fun fhc1=> ?_
 ·refine sk ?_
  refine tn (sq (VRun.block (sr (mO (tN i) Y ?_))))
  obtain ⟨x1,hx1⟩:∃x,a[i]? =some x:=⟨_,List.getElem?_eq_getElem (by omega)⟩
  refine fO (OF.indexAddrR (row:=(Qg false x1)) (i:=i) (tv (rd 4 Qg a) Y) (tv (tN i) Y) Y (Qt _ hx1) U81 ZQ Je) (lO (OL.loadRn (us:=(Qg false x1)) (tv (T.rp (Qg false x1)) Y) Qg7 ZQ (lb Y) Y) (kO (B.alloc (t:=(T.agg [(tN 0),(tS ByteArray.empty),(tN 0),(tN 0)])) (ts:= [(tN 0),(tS ByteArray.empty),(tN 0),(tN 0)]) Qc8 Qio nofun (fun _=> .agg _ _ Y (Yf (RL.cons (.int _ _) (RL.cons (.str _) (RL.cons (.int _ _) (RL.cons (.int _ _) (RL.nil _))))))) Y) (aO (tN i) Y (cO (B.storeW (us:=(Qg false x1)) (tv (T.op 0 0) Y) (tv (T.agg (Qg false x1)) Y) nofun Y Y Y Je ZQ (bc Y (bc Y (bc Y (bc Y bn))))) (nt (sq (sr (lf (tI x1.Kind) Y Zj Y Y QQ (cO (cS (vc (tv (tI x1.Kind) Y) (vc (VEv.int .i64 1) (vc (VEv.int .i64 9) vn))) (ZO Y) (Zc (n+1) x1.Kind 1 9) Y Y) (fO (Q1 (tv (tB (decide (1≤x1.Kind∧x1.Kind≤9))) Y)) (nt ?_)))))))))))
  refine cn (1≤x1.Kind∧x1.Kind≤9) Y (fun fhc2=> ?_) fun fhc2=> ?_
  ·refine sr ?_
   refine fO (OF.assign (VEv.bool false)) (nt (rt (tr (vinB.r (tr (tr (vinB.r (tr (vb (b':=false) Y ?_)))))))))
   (symm;rw [decide_eq_false_iff_not];rintro ⟨h1,h2⟩;(have h3:=(QM hx1).1 (h2 i fhc1);obtain ⟨h4,h5,h6⟩:=h3;simp only [two] at h6;omega))
  refine sk (tn (sq (sr (lf (tI x1.Kind) Y Zj Y Y QQ (fO (Y9 (tv (tI x1.Kind) Y) (VEv.int .i64 1)) (nt ?_))))))
  refine cd (x1.Kind=1) Y (fun fhc3=> ?_) fun fhc3=> ?_
  ·refine sq ?_
   refine sr (lf (tS x1.Word) Y JR Y Y Yp (cO (cS (vc (tv (tS x1.Word) Y) vn) (ZO Y) (QaM (n+0) x1.Word (by exact hw _ (List.mem_of_getElem? hx1))) Y Y) (fO (Q1 (tv (tB (decide (Zw x1.Word))) Y)) (mO (tB (!(decide (Zw x1.Word)))) Y ?_))))
   refine gn (Zw x1.Word) (fun fhg27_1=> ?_) fun fhg27_1=> ?_
   ·refine QE 3 4 false 27 (ny fhg27_1) Y Y Y ?_
    refine fO (OF.pickT (VEv.tmpB Y (ny fhg27_1)) (VEv.bool true)) (mO (tB true) Y (QE 3 9 false 32 (b:=true) Y Y Y Y (fO (OF.pickT (tv (tB true) Y) (VEv.bool true)) (nt (ct Y (sr (fO (OF.assign (VEv.bool false)) (nt (rt (tr (tr ?_)))))))))))
    refine vinB.r (tr (tr (vinB.r (tr (vb (b':=false) Y ?_)))))
    (symm;rw [decide_eq_false_iff_not];rintro ⟨h1,h2⟩;(have h3:=(QM hx1).1 (h2 i fhc1);obtain ⟨h4,h5,h6⟩:=h3;simp only [two] at h6;(by_cases hk:x1.Kind=1<;>simp_all<;>omega)))
   refine Yx (tI x1.A) (nz fhg27_1) Y Y Y Y YI Y Y QQ (gF (nz fhg27_1) Y Y (xne (tv (tI x1.A) Y) (VEv.int .i64 0)) (fO (OF.pickF (VEv.tmpB Y (nz fhg27_1)) (tv (tB (!(decide (x1.A=0)))) Y)) (mO (tB (!(decide (x1.A=0)))) Y ?_)))
   refine gn (x1.A=0) (fun fhg32_2=> ?_) fun fhg32_2=> ?_
   ·refine QE 3 9 false 32 (ny fhg32_2) Y Y Y ?_
    refine fO (OF.pickT (VEv.tmpB Y (ny fhg32_2)) (VEv.bool true)) (nt (ct Y (sr (fO (OF.assign (VEv.bool false)) (nt (rt (tr (tr (vinB.r (tr (tr ?_)))))))))))
    refine vinB.r (tr (vb (b':=false) Y ?_))
    (symm;rw [decide_eq_false_iff_not];rintro ⟨h1,h2⟩;(have h3:=(QM hx1).1 (h2 i fhc1);obtain ⟨h4,h5,h6⟩:=h3;simp only [two] at h6;omega))
   refine Yx (tI x1.B) (nz fhg32_2) Y Y Y Y Yj Y Y QQ (gF (nz fhg32_2) Y Y (xne (tv (tI x1.B) Y) (VEv.int .i64 0)) (fO (OF.pickF (VEv.tmpB Y (nz fhg32_2)) (tv (tB (!(decide (x1.B=0)))) Y)) (nt ?_)))
   refine cn (x1.B=0) Y (fun fhc4=> ?_) fun fhc4=> ?_
   ·refine sr ?_
    refine fO (OF.assign (VEv.bool false)) (nt (rt (tr (tr (vinB.r (tr (tr (vinB.r (tr (vb (b':=false) Y ?_))))))))))
    (symm;rw [decide_eq_false_iff_not];rintro ⟨h1,h2⟩;(have h3:=(QM hx1).1 (h2 i fhc1);obtain ⟨h4,h5,h6⟩:=h3;simp only [two] at h6;omega))
   refine sk (tn (VRun.exit (vthn.e (vinB.e (tn (VRun.region (fO (Qy (tv (tN i) Y) (VEv.int .i64 1) (by omega)) (mO (tN (i+1)) Y (VRunO.nil (tn ?_))))))))))
   refine ⟨(i+1:Nat),?_,?_,Wk.mk (fun k=>k) ?_ ?_ ?_⟩
   ·refine QZ hI0 fhc1 ((QM hx1).2 ?_)
    simp only [QeC,two]
    refine ⟨by omega,fun hk=> ?_,fun hk=> ?_⟩
    ·(refine ⟨?_,?_,?_⟩<;>assumption)
    ·(exfalso;omega)
   ·omega
   ·exact (b2 (b2 (b2 (b2 bn))))
   ·exact bn
   ·exact nd Y
  refine sk (tn (sq (sr (lf (tS x1.Word) Y JR Y Y Yp (fO (B.sneq (c:=(!(decide (x1.Word=(⟨#[]⟩:ByteArray))))) (tv (tS x1.Word) Y) (VEv.str (⟨#[]⟩:ByteArray)) Y) (mO (tB (!(decide (x1.Word=(⟨#[]⟩:ByteArray))))) Y ?_))))))
  refine gn (x1.Word=(⟨#[]⟩:ByteArray)) (fun fhg40_3=> ?_) fun fhg40_3=> ?_
  ·refine QE 5 3 false 40 (ny fhg40_3) Y Y Y ?_
   refine fO (OF.pickT (VEv.tmpB Y (ny fhg40_3)) (VEv.bool true)) (mO (tB true) Y (QE 4 10 false 47 (b:=true) Y Y Y Y (QaQ 7 14 true 51 Y Y Y (VRunO.off (VWant.not (b:=true) Y Y Y) (fO (OF.pickT (tv (tB true) Y) (VEv.bool true)) (nt (ct Y (sr (fO (OF.assign (VEv.bool false)) (nt (rt ?_)))))))))))
   refine tr (vinB.r (tr (tr (vinB.r (tr (vb (b':=false) Y ?_))))))
   (symm;rw [decide_eq_false_iff_not];rintro ⟨h1,h2⟩;(have h3:=(QM hx1).1 (h2 i fhc1);obtain ⟨h4,h5,h6⟩:=h3;simp only [two] at h6;(by_cases hk:x1.Kind=1<;>simp_all<;>omega)))
  refine Yx (tI x1.A) (nz fhg40_3) Y Y Y Y YI Y Y QQ (gF (nz fhg40_3) Y Y (OF.move (tv (tN i) Y)) (VRunO.chain (VWant.on Y Y (nz fhg40_3)) (cS (vc (tv (tI x1.A) Y) (vc (tv (tN i) Y) vn)) (ZO Y) (Jw (n+1) x1.A ((i:Nat):Int)) Y Y) (gF (nz fhg40_3) Y Y (Q1 (tv (tB (decide (0≤x1.A∧x1.A<((i:Nat):Int)))) Y)) (fO (OF.pickF (VEv.tmpB Y (nz fhg40_3)) (tv (tB (!(decide (0≤x1.A∧x1.A<((i:Nat):Int))))) Y)) (mO (tB (!(decide (0≤x1.A∧x1.A<((i:Nat):Int))))) Y ?_)))))
  refine gn (0≤x1.A∧x1.A<((i:Nat):Int)) (fun fhg47_4=> ?_) fun fhg47_4=> ?_
  ·refine QE 4 10 false 47 (ny fhg47_4) Y Y Y ?_
   refine QaQ 7 14 true 51 Y Y Y (oO Y Y (ny fhg47_4) (fO (OF.pickT (VEv.tmpB Y (ny fhg47_4)) (VEv.bool true)) (nt (ct Y (sr (fO (OF.assign (VEv.bool false)) (nt (rt (tr (vinB.r (tr ?_)))))))))))
   refine tr (vinB.r (tr (vb (b':=false) Y ?_)))
   (symm;rw [decide_eq_false_iff_not];rintro ⟨h1,h2⟩;(have h3:=(QM hx1).1 (h2 i fhc1);obtain ⟨h4,h5,h6⟩:=h3;simp only [two] at h6;omega))
  refine Yx (tI x1.Kind) (nz fhg47_4) Y Y Y Y Zj Y Y QQ (VRunO.chain (VWant.on Y Y (nz fhg47_4)) (cS (vc (tv (tI x1.Kind) Y) vn) (ZO Y) (QdV (n+1) x1.Kind) Y Y) (gF (nz fhg47_4) Y Y (OF.move (tv (tB (decide (x1.Kind=3∨6≤x1.Kind))) Y)) ?_))
  refine gw (x1.Kind=3∨6≤x1.Kind) (fun fhg51_5=> ?_) fun fhg51_5=> ?_
  ·refine gF (dy fhg51_5) Y Y (OF.move (tv (rd 4 Qg a) Y)) ?_
   refine Yx (tI x1.A) (dy fhg51_5) Y Y Y Y YI Y Y QQ ?_
   obtain ⟨x2,hx2⟩:∃x,a[(Int.toNat x1.A)]? =some x:=⟨_,List.getElem?_eq_getElem (by omega)⟩
   refine gF (dy fhg51_5) Y Y (OF.indexAddrR (row:=(Qg false x2)) (i:=(Int.toNat x1.A)) (tv (rd 4 Qg a) Y) (tv (tI x1.A) Y) (by omega) (Qt _ hx2) U81 ZQ Je) (glr (tI x2.Kind) (dy fhg51_5) Y Y Y Y (lb Y) Zj Y QQ (gF (dy fhg51_5) Y Y (xne (tv (tI x2.Kind) Y) (VEv.int .i64 1)) (gF (nz fhg47_4) Y Y (OF.pickT (VEv.tmpB Y (dy fhg51_5)) (tv (tB (!(decide (x2.Kind=1)))) Y)) (fO (OF.pickF (VEv.tmpB Y (nz fhg47_4)) (tv (tB (!(decide (x2.Kind=1)))) Y)) (nt ?_)))))
   refine cn (x2.Kind=1) Y (fun fhc5=> ?_) fun fhc5=> ?_
   ·refine sr ?_
    refine fO (OF.assign (VEv.bool false)) (nt (rt (tr (vinB.r (tr (tr (vinB.r (tr (vb (b':=false) Y ?_)))))))))
    (symm;rw [decide_eq_false_iff_not];rintro ⟨h1,h2⟩;(have h3:=(QM hx1).1 (h2 i fhc1);obtain ⟨h4,h5,h6⟩:=h3;simp only [two] at h6;(by_cases hk:x1.Kind=1<;>simp_all<;>omega)))
   refine sk (tn (sr (lf (tI x1.Kind) Y Zj Y Y QQ (cO (cS (vc (tv (tI x1.Kind) Y) vn) (ZO Y) (Yn (n+1) x1.Kind) Y Y) (mO (tB (decide (x1.Kind=4∨x1.Kind=5))) Y ?_)))))
   refine gw (x1.Kind=4∨x1.Kind=5) (fun fhg64_6=> ?_) fun fhg64_6=> ?_
   ·refine Yx (tI x1.B) (dy fhg64_6) Y Y Y Y Yj Y Y QQ ?_
    refine gF (dy fhg64_6) Y Y (OF.move (tv (tN i) Y)) (VRunO.chain (VWant.on Y Y (dy fhg64_6)) (cS (vc (tv (tI x1.B) Y) (vc (tv (tN i) Y) vn)) (ZO Y) (Jw (n+1) x1.B ((i:Nat):Int)) Y Y) (gF (dy fhg64_6) Y Y (Q1 (tv (tB (decide (0≤x1.B∧x1.B<((i:Nat):Int)))) Y)) (fO (OF.pickT (VEv.tmpB Y (dy fhg64_6)) (tv (tB (!(decide (0≤x1.B∧x1.B<((i:Nat):Int))))) Y)) (mO (tB (!(decide (0≤x1.B∧x1.B<((i:Nat):Int))))) Y ?_))))
    refine gn (0≤x1.B∧x1.B<((i:Nat):Int)) (fun fhg71_7=> ?_) fun fhg71_7=> ?_
    ·refine QE 5 10 false 71 (ny fhg71_7) Y Y Y ?_
     refine QaQ 3 15 true 76 Y Y Y (oO Y Y (ny fhg71_7) (fO (OF.pickT (VEv.tmpB Y (ny fhg71_7)) (VEv.bool true)) (nt (ct Y (sr (fO (OF.assign (VEv.bool false)) (nt (rt (vinB.r (tr (tr ?_)))))))))))
     refine vinB.r (tr (vb (b':=false) Y ?_))
     (symm;rw [decide_eq_false_iff_not];rintro ⟨h1,h2⟩;(exfalso;omega))
    refine Yx (tI x1.Kind) (nz fhg71_7) Y Y Y Y Zj Y Y QQ (VRunO.chain (VWant.on Y Y (nz fhg71_7)) (cS (vc (tv (tI x1.Kind) Y) vn) (ZO Y) (Yn (n+1) x1.Kind) Y Y) (gF (nz fhg71_7) Y Y (Q1 (tv (tB (decide (x1.Kind=4∨x1.Kind=5))) Y)) (gF (nz fhg71_7) Y Y (OF.move (tv (tB (!(decide (x1.Kind=4∨x1.Kind=5)))) Y)) (QE 3 15 true 76 (nkT (dy fhg64_6)) Y Y Y (gF (nz fhg71_7) Y Y (OF.pickF (VEv.tmpB Y (nkT (dy fhg64_6))) (VEv.bool false)) (fO (OF.pickF (VEv.tmpB Y (nz fhg71_7)) (tv (tB false) Y)) (nt (cf Y (sk (vinB.n (tn ?_)))))))))))
    refine VRun.region (fO (Qy (tv (tN i) Y) (VEv.int .i64 1) (by omega)) (mO (tN (i+1)) Y (VRunO.nil (tn ?_))))
    refine ⟨(i+1:Nat),?_,?_,Wk.mk (fun k=>k) ?_ ?_ ?_⟩
    ·refine QZ hI0 fhc1 ((QM hx1).2 ?_)
     simp only [QeC,two]
     refine ⟨by omega,fun hk=> ?_,fun hk=> ?_⟩
     ·(exfalso;omega)
     ·(exfalso;omega)
    ·omega
    ·exact (b2 (b2 (b2 (b2 bn))))
    ·exact bn
    ·exact nd Y
   refine QE 5 3 true 64 (dz fhg64_6) Y Y Y (fO (OF.pickF (VEv.tmpB Y (dz fhg64_6)) (VEv.bool false)) (mO (tB false) Y (VRunO.free (VWant.on (b:=false) Y Y Y) (OF.fieldAddrO (tv (T.op 0 0) Y) Zj) (VRunO.look (VWant.on (b:=false) Y Y Y) (OL.loadO1 (t:=(tI x1.Kind)) (tv (T.op 0 0) Y) Y Y QQ) (VRunO.chain (VWant.on (b:=false) Y Y Y) (cS (vc (tv (tI x1.Kind) Y) vn) (ZO Y) (Yn (n+1) x1.Kind) Y Y) (VRunO.free (VWant.on (b:=false) Y Y Y) (Q1 (tv (tB (decide (x1.Kind=4∨x1.Kind=5))) Y)) (VRunO.free (VWant.on (b:=false) Y Y Y) (OF.move (tv (tB (!(decide (x1.Kind=4∨x1.Kind=5)))) Y)) (Yx (tI x1.B) (nkF (dz fhg64_6)) Y Y Y Y Yj Y Y QQ (gF (nkF (dz fhg64_6)) Y Y (xne (tv (tI x1.B) Y) (VEv.int .i64 0)) (VRunO.free (VWant.on (b:=false) Y Y Y) (OF.pickT (VEv.tmpB Y (nkF (dz fhg64_6))) (tv (tB (!(decide (x1.B=0)))) Y)) (fO (OF.pickF (tv (tB false) Y) (tv (tB (!(decide (x1.B=0)))) Y)) ?_)))))))))))
   refine nt ?_
   refine cn (x1.B=0) Y (fun fhc6=> ?_) fun fhc6=> ?_
   ·refine sr ?_
    refine fO (OF.assign (VEv.bool false)) (nt (rt (vinB.r (tr (tr (vinB.r (tr (vb (b':=false) Y ?_))))))))
    (symm;rw [decide_eq_false_iff_not];rintro ⟨h1,h2⟩;(have h3:=(QM hx1).1 (h2 i fhc1);obtain ⟨h4,h5,h6⟩:=h3;simp only [two] at h6;omega))
   refine sk (vinB.n (tn (VRun.region (fO (Qy (tv (tN i) Y) (VEv.int .i64 1) (by omega)) (mO (tN (i+1)) Y (VRunO.nil (tn ?_)))))))
   refine ⟨(i+1:Nat),?_,?_,Wk.mk (fun k=>k) ?_ ?_ ?_⟩
   ·refine QZ hI0 fhc1 ((QM hx1).2 ?_)
    simp only [QeC,two]
    refine ⟨by omega,fun hk=> ?_,fun hk=> ?_⟩
    ·(exfalso;omega)
    ·(refine ⟨?_,?_,fun h=> ?_,fun h=> ?_,fun h1 h2=> ?_⟩<;>first | assumption | omega | (refine ⟨x2,hx2,?_⟩;omega))
   ·omega
   ·exact (b2 (b2 (b2 (b2 bn))))
   ·exact bn
   ·exact nd Y
  refine QE 7 14 true 51 (dz fhg51_5) Y Y Y (gF (nz fhg47_4) Y Y (OF.pickF (VEv.tmpB Y (dz fhg51_5)) (VEv.bool false)) (fO (OF.pickF (VEv.tmpB Y (nz fhg47_4)) (tv (tB false) Y)) (nt (cf Y (sk (tn (sr (lf (tI x1.Kind) Y Zj Y Y QQ (cO (cS (vc (tv (tI x1.Kind) Y) vn) (ZO Y) (Yn (n+1) x1.Kind) Y Y) (mO (tB (decide (x1.Kind=4∨x1.Kind=5))) Y ?_))))))))))
  refine gw (x1.Kind=4∨x1.Kind=5) (fun fhg64_8=> ?_) fun fhg64_8=> ?_
  ·refine Yx (tI x1.B) (dy fhg64_8) Y Y Y Y Yj Y Y QQ ?_
   refine gF (dy fhg64_8) Y Y (OF.move (tv (tN i) Y)) (VRunO.chain (VWant.on Y Y (dy fhg64_8)) (cS (vc (tv (tI x1.B) Y) (vc (tv (tN i) Y) vn)) (ZO Y) (Jw (n+1) x1.B ((i:Nat):Int)) Y Y) (gF (dy fhg64_8) Y Y (Q1 (tv (tB (decide (0≤x1.B∧x1.B<((i:Nat):Int)))) Y)) (fO (OF.pickT (VEv.tmpB Y (dy fhg64_8)) (tv (tB (!(decide (0≤x1.B∧x1.B<((i:Nat):Int))))) Y)) (mO (tB (!(decide (0≤x1.B∧x1.B<((i:Nat):Int))))) Y ?_))))
   refine gn (0≤x1.B∧x1.B<((i:Nat):Int)) (fun fhg71_9=> ?_) fun fhg71_9=> ?_
   ·refine QE 5 10 false 71 (ny fhg71_9) Y Y Y ?_
    refine QaQ 3 15 true 76 Y Y Y (oO Y Y (ny fhg71_9) (fO (OF.pickT (VEv.tmpB Y (ny fhg71_9)) (VEv.bool true)) (nt (ct Y (sr (fO (OF.assign (VEv.bool false)) (nt (rt (vinB.r (tr (tr ?_)))))))))))
    refine vinB.r (tr (vb (b':=false) Y ?_))
    (symm;rw [decide_eq_false_iff_not];rintro ⟨h1,h2⟩;(have h3:=(QM hx1).1 (h2 i fhc1);obtain ⟨h4,h5,h6⟩:=h3;simp only [two] at h6;omega))
   refine Yx (tI x1.Kind) (nz fhg71_9) Y Y Y Y Zj Y Y QQ (VRunO.chain (VWant.on Y Y (nz fhg71_9)) (cS (vc (tv (tI x1.Kind) Y) vn) (ZO Y) (Yn (n+1) x1.Kind) Y Y) (gF (nz fhg71_9) Y Y (Q1 (tv (tB (decide (x1.Kind=4∨x1.Kind=5))) Y)) (gF (nz fhg71_9) Y Y (OF.move (tv (tB (!(decide (x1.Kind=4∨x1.Kind=5)))) Y)) (QE 3 15 true 76 (nkT (dy fhg64_8)) Y Y Y (gF (nz fhg71_9) Y Y (OF.pickF (VEv.tmpB Y (nkT (dy fhg64_8))) (VEv.bool false)) (fO (OF.pickF (VEv.tmpB Y (nz fhg71_9)) (tv (tB false) Y)) (nt (cf Y (sk (vinB.n (tn ?_)))))))))))
   refine VRun.region (fO (Qy (tv (tN i) Y) (VEv.int .i64 1) (by omega)) (mO (tN (i+1)) Y (VRunO.nil (tn ?_))))
   refine ⟨(i+1:Nat),?_,?_,Wk.mk (fun k=>k) ?_ ?_ ?_⟩
   ·refine QZ hI0 fhc1 ((QM hx1).2 ?_)
    simp only [QeC,two]
    refine ⟨by omega,fun hk=> ?_,fun hk=> ?_⟩
    ·(exfalso;omega)
    ·(refine ⟨?_,?_,fun h=> ?_,fun h=> ?_,fun h1 h2=> ?_⟩<;>first | assumption | omega)
   ·omega
   ·exact (b2 (b2 (b2 (b2 bn))))
   ·exact bn
   ·exact nd Y
  refine QE 5 3 true 64 (dz fhg64_8) Y Y Y (fO (OF.pickF (VEv.tmpB Y (dz fhg64_8)) (VEv.bool false)) (mO (tB false) Y (VRunO.free (VWant.on (b:=false) Y Y Y) (OF.fieldAddrO (tv (T.op 0 0) Y) Zj) (VRunO.look (VWant.on (b:=false) Y Y Y) (OL.loadO1 (t:=(tI x1.Kind)) (tv (T.op 0 0) Y) Y Y QQ) (VRunO.chain (VWant.on (b:=false) Y Y Y) (cS (vc (tv (tI x1.Kind) Y) vn) (ZO Y) (Yn (n+1) x1.Kind) Y Y) (VRunO.free (VWant.on (b:=false) Y Y Y) (Q1 (tv (tB (decide (x1.Kind=4∨x1.Kind=5))) Y)) (VRunO.free (VWant.on (b:=false) Y Y Y) (OF.move (tv (tB (!(decide (x1.Kind=4∨x1.Kind=5)))) Y)) (Yx (tI x1.B) (nkF (dz fhg64_8)) Y Y Y Y Yj Y Y QQ (gF (nkF (dz fhg64_8)) Y Y (xne (tv (tI x1.B) Y) (VEv.int .i64 0)) (VRunO.free (VWant.on (b:=false) Y Y Y) (OF.pickT (VEv.tmpB Y (nkF (dz fhg64_8))) (tv (tB (!(decide (x1.B=0)))) Y)) (fO (OF.pickF (tv (tB false) Y) (tv (tB (!(decide (x1.B=0)))) Y)) ?_)))))))))))
  refine nt ?_
  refine cn (x1.B=0) Y (fun fhc6=> ?_) fun fhc6=> ?_
  ·refine sr ?_
   refine fO (OF.assign (VEv.bool false)) (nt (rt (vinB.r (tr (tr (vinB.r (tr (vb (b':=false) Y ?_))))))))
   (symm;rw [decide_eq_false_iff_not];rintro ⟨h1,h2⟩;(have h3:=(QM hx1).1 (h2 i fhc1);obtain ⟨h4,h5,h6⟩:=h3;simp only [two] at h6;omega))
  refine sk (vinB.n (tn (VRun.region (fO (Qy (tv (tN i) Y) (VEv.int .i64 1) (by omega)) (mO (tN (i+1)) Y (VRunO.nil (tn ?_)))))))
  refine ⟨(i+1:Nat),?_,?_,Wk.mk (fun k=>k) ?_ ?_ ?_⟩
  ·refine QZ hI0 fhc1 ((QM hx1).2 ?_)
   simp only [QeC,two]
   refine ⟨by omega,fun hk=> ?_,fun hk=> ?_⟩
   ·(exfalso;omega)
   ·(refine ⟨?_,?_,fun h=> ?_,fun h=> ?_,fun h1 h2=> ?_⟩<;>first | assumption | omega)
  ·omega
  ·exact (b2 (b2 (b2 (b2 bn))))
  ·exact bn
  ·exact nd Y
 refine VRun.exit (vthn.e (vthn.e (vinB.e (tn (sr (fO (OF.assign (VEv.bool true)) (nt (rt (vb (b':=true) Y ?_)))))))))
 (symm;rw [decide_eq_true_eq];exact ⟨by omega,ZY hI' fhc1⟩)
theorem Qcz (n:Nat) (a:D.Clue) (hz:QH a≤mx):Pure (Qs Tryz.prog (n+5)) 99 [(T.agg (Qd false a))] (tB (decide ((1≤a.Sense∧a.Sense≤99)∧ZI a.Play))):=by
 refine Pure.intro (rs:= [ResultVar.tmp 2]) Tryz.func99 Y Y Y (E0:= [(0,(T.agg (Qd false a)))]) Y ?_
 obtain ⟨hlim,hmx,hmax⟩:=QG
 simp only [QH] at hz
 refine sr (kO (B.box (ts:=(Qd false a)) (tv (T.agg (Qd false a)) Y) nofun Y) (fO (OF.assign (VEv.bool false)) (nt (sr (lf (tI a.Sense) Y QaL Y Y QQ (cO (cS (vc (tv (tI a.Sense) Y) (vc (VEv.int .i64 1) (vc (VEv.int .i64 99) vn))) (ZO Y) (QT (n+3) a.Sense 1 99) Y Y) (mO (tB (decide (1≤a.Sense∧a.Sense≤99))) Y ?_)))))))
 refine gw (1≤a.Sense∧a.Sense≤99) (fun fhg6_1=> ?_) fun fhg6_1=> ?_
 ·refine Yx (rd 4 Qg a.Play) (dy fhg6_1) Y Y Y Y QaG Y Y Qhl ?_
  refine VRunO.chain (VWant.on Y Y (dy fhg6_1)) (cS (vc (tv (rd 4 Qg a.Play) Y) vn) (ZO Y) (Qgo (n+0) a.Play (by assumption)) Y Y) (fO (OF.pickT (VEv.tmpB Y (dy fhg6_1)) (tv (tB (decide (ZI a.Play))) Y)) (aO (tB (decide (ZI a.Play))) Y (nt (rt (vb (b':=(decide (ZI a.Play))) Y ?_)))))
  (refine Q6 ⟨fun h=>⟨?_,h⟩,fun h=>h.2⟩;assumption)
 refine QE 3 3 true 6 (dz fhg6_1) Y Y Y (fO (OF.pickF (VEv.tmpB Y (dz fhg6_1)) (VEv.bool false)) (aO (tB false) Y (nt (rt (vb (b':=false) Y ?_)))))
 (symm;rw [decide_eq_false_iff_not];rintro ⟨h1,h2⟩;contradiction)
theorem QcA (n:Nat) (a:D.Clue) (hz:QH a≤mx):Pure (Qs Tryz.prog (n+4)) 110 [(T.agg (Qd false a))] (tB (decide ((1≤a.Sense∧a.Sense≤99)∧ZI a.Play))):=by
 refine Pure.intro (rs:= [ResultVar.tmp 2]) Tryz.func110 Y Y Y (E0:= [(0,(T.agg (Qd false a)))]) Y ?_
 obtain ⟨hlim,hmx,hmax⟩:=QG
 simp only [QH] at hz
 refine sr (kO (B.box (ts:=(Qd false a)) (tv (T.agg (Qd false a)) Y) nofun Y) (fO (OF.assign (VEv.bool false)) (nt (sr (lf (tI a.Sense) Y QaL Y Y QQ (cO (cS (vc (tv (tI a.Sense) Y) (vc (VEv.int .i64 1) (vc (VEv.int .i64 99) vn))) (ZO Y) (Zc (n+2) a.Sense 1 99) Y Y) (mO (tB (decide (1≤a.Sense∧a.Sense≤99))) Y ?_)))))))
 refine gw (1≤a.Sense∧a.Sense≤99) (fun fhg6_1=> ?_) fun fhg6_1=> ?_
 ·refine Yx (rd 4 Qg a.Play) (dy fhg6_1) Y Y Y Y QaG Y Y Qhl ?_
  refine VRunO.chain (VWant.on Y Y (dy fhg6_1)) (cS (vc (tv (rd 4 Qg a.Play) Y) vn) (ZO Y) (QgD (n+0) a.Play (by assumption)) Y Y) (fO (OF.pickT (VEv.tmpB Y (dy fhg6_1)) (tv (tB (decide (ZI a.Play))) Y)) (aO (tB (decide (ZI a.Play))) Y (nt (rt (vb (b':=(decide (ZI a.Play))) Y ?_)))))
  (refine Q6 ⟨fun h=>⟨?_,h⟩,fun h=>h.2⟩;assumption)
 refine QE 3 3 true 6 (dz fhg6_1) Y Y Y (fO (OF.pickF (VEv.tmpB Y (dz fhg6_1)) (VEv.bool false)) (aO (tB false) Y (nt (rt (vb (b':=false) Y ?_)))))
 (symm;rw [decide_eq_false_iff_not];rintro ⟨h1,h2⟩;contradiction)
noncomputable section
def QfB (l:List D.Correction) (j:Nat):Prop:=∃x,l[j]? =some x∧(1≤x.Issue∧x.Issue≤999)∧(0≤x.Slot∧x.Slot≤99)∧((1≤x.Clue.Sense∧x.Clue.Sense≤99)∧ZI x.Clue.Play)∧(0≤x.Tick∧x.Tick≤1000)∧(0<j→∃y,l[j - 1]? =some y∧¬x.Tick<y.Tick)
def QL (l:List D.Correction):Prop:=l.length≤12∧∀j,j<l.length→QfB l j
instance (l:List D.Correction):Decidable (QL l):=Classical.propDecidable _
end
theorem Jq (n:Nat) (a:List D.Correction) (ha:a.length≤mx+1) (hw:∀x∈a,QH x.Clue≤mx):Pure (Qs Tryz.prog (n+6)) 47 [(rd 5 Qa a)] (tB (decide (QL a))):=by
 refine Pure.intro (rs:= [ResultVar.tmp 2]) Tryz.func47 Y Y Y (E0:= [(0,(rd 5 Qa a))]) Y ?_
 obtain ⟨hlim,hmx,hmax⟩:=QG
 refine sr (fO (OF.assign (VEv.bool false)) (nt (sq (sr (fO (OF.assign (VEv.int .i64 0)) (nt (VRun.block ?_)))))))
 refine VRun.loop (A:=Nat) (fun s_=> [(0,(rd 5 Qa a)),(3,(tN s_))]) (fun s_=>QY []) 0 (fun s_=>s_≤a.length∧∀j,j<s_→QfB a j) (fun s_=>a.length - s_) (0:Nat) ?_ (Wk.mk (fun k=>k) ?_ ?_ ?_) ?_
 ·exact ⟨Nat.zero_le _,fun j hj=>by omega⟩
 ·exact (b2 (b2 bn))
 ·exact bn
 ·exact nd Y
 rintro i (hI':i≤a.length∧∀j,j<i→QfB a j)
 show VRun _ _ _ [(0,(rd 5 Qa a)),(3,(tN i))] (QY []) 0 _
 have hI0:=hI'
 refine sq (sr (mO (tN i) Y (mO (rd 5 Qa a) Y (lO (B.lenR (m:=a.length) (tv (rd 5 Qa a) Y) U41 (List.length_map ..)) (fO (Zb (tv (tN i) Y) (tv (tN a.length) Y)) (nt ?_))))))
 refine cd (i<a.length) Y (fun fhc0=> ?_) fun fhc0=> ?_
 ·refine sk ?_
  refine tn (sq (VRun.block (sr (mO (rd 5 Qa a) Y (mO (tN i) Y ?_)))))
  obtain ⟨x1,hx1⟩:∃x,a[i]? =some x:=⟨_,List.getElem?_eq_getElem (by first | exact hw _ (List.mem_of_getElem? hx1) | omega)⟩
  refine fO (OF.indexAddrR (row:=(Qa false x1)) (i:=i) (tv (rd 5 Qa a) Y) (tv (tN i) Y) Y (Qt _ hx1) U41 Yv Jk) (lO (OL.loadRn (us:=(Qa false x1)) (tv (T.rp (Qa false x1)) Y) Qjw Yv (lb Y) Y) (kO (B.alloc (t:=(T.agg [(tN 0),(tN 0),(tN 0),T.nils,(tN 0)])) (ts:= [(tN 0),(tN 0),(tN 0),T.nils,(tN 0)]) QkZ QkM nofun (fun _=> .agg _ _ Y (Yf (RL.cons (.int _ _) (RL.cons (.int _ _) (RL.cons (.int _ _) (RL.cons (.nils) (RL.cons (.int _ _) (RL.nil _)))))))) Y) (cO (B.storeW (us:=(Qa false x1)) (tv (T.op 0 0) Y) (tv (T.agg (Qa false x1)) Y) nofun Y Y Y Jk Yv (bc Y (bc Y (bc Y (bc Y (bc Y bn)))))) (nt (sq (VRun.draw (B:= [[],[0],[0,1],[1,0,2],[2,0,1,3],[3,1,0,2,4],[4,2,0,1,3,5],[5,3,1,0,2,4,6],[6,4,2,0,1,3,5,7],[7,5,6,8,3,1,0,2,4],[4,2,0,1,3,8,6,5,7,9],[9,7,5,6,8,3,1,0,2,4,10],[10,4,2,0,1,3,8,6,5,7,9,11],[11,9,7,5,6,8,3,1,0,2,4,10,12],[12,10,4,2,0,1,3,8,6,5,7,9,11,13],[13,11,12,14,9,7,5,6,8,3,1,0,2,4,10],[10,4,2,0,1,3,8,6,5,7,9,14,12,11,13,15],[15,13,11,12,14,9,7,5,6,8,3,1,0,2,4,10,16],[16,10,4,2,0,1,3,8,6,5,7,9,14,12,11,13,15,17],[17,15,13,11,12,14,9,7,5,6,8,3,1,0,2,4,10,16,18],[18,16,10,4,2,0,1,3,8,6,5,7,9,14,12,11,13,15,17,19],[19,17,18,20,15,13,11,12,14,9,7,5,6,8,3,1,0,2,4,10,16],[16,10,4,2,0,1,3,8,6,5,7,9,14,12,11,13,15,20,18,17,19,21],[21,19,17,18,20,15,13,11,12,14,9,7,5,6,8,3,1,0,2,4,10,16,22],[22,16,10,4,2,0,1,3,8,6,5,7,9,14,12,11,13,15,20,18,17,19,21,23],[23,21,19,17,18,20,15,13,11,12,14,9,7,5,6,8,3,1,0,2,4,10,16,22,24],[24,22,16,10,4,2,0,1,3,8,6,5,7,9,14,12,11,13,15,20,18,17,19,21,23,25],[24,22,16,10,4,2,0,1,3,8,6,5,7,9,14,12,11,13,15,20,18,17,19,21,23,25],[25,23,21,19,17,18,20,15,13,11,12,14,9,7,5,6,8,3,1,0,2,4,10,16,22,24,27],[27,28,25,23,21,19,17,18,20,15,13,11,12,14,9,7,5,6,8,3,1,0,2,4,10,16,22,24,26],[26,24,22,16,10,4,2,0,1,3,8,6,5,7,9,14,12,11,13,15,20,18,17,19,21,23,25,28,27,29],[29,27,28,25,23,21,19,17,18,20,15,13,11,12,14,9,7,5,6,8,3,1,0,2,4,10,16,22,24,26,30],[24,22,16,10,4,2,0,1,3,8,6,5,7,9,14,12,11,13,15,20,18,17,19,21,23,25],[25,23,21,19,17,18,20,15,13,11,12,14,9,7,5,6,8,3,1,0,2,4,10,16,22,24,32],[32,33,30,26,24,22,16,10,4,2,0,1,3,8,6,5,7,9,14,12,11,13,15,20,18,17,19,21,23,25,28,27,29,31],[31,29,27,28,26,30,33,32,34,24,22,16,10,4,2,0,1,3,8,6,5,7,9,14,12,11,13,15,20,18,17,19,21,23,25],[25,23,24,34,32,33,30,26,28,27,29,31,35,21,19,17,18,20,15,13,11,12,14,9,7,5,6,8,3,1,0,2,4,10,16,22]]) (by kernel_rfl) (by kernel_rfl) ?_))))))
  refine fD (OF.fieldAddrO (tv (T.op 0 0) Y) Qbg) Y Y (lD (OL.loadO1 (t:=(tI x1.Issue)) (tv (T.op 0 0) Y) Y Y QQ) Y Y (VRunD.quiet (bi:= [0,1]) Y VWant.always Y Y Y bn (cS (vc (tv (tI x1.Issue) Y) (vc (VEv.int .i64 1) (vc (VEv.int .i64 999) vn))) (ZO Y) (QT (n+4) x1.Issue 1 999) Y Y) (fD (Q1 (tv (tB (decide (1≤x1.Issue∧x1.Issue≤999))) Y)) Y Y (mD (tB (!(decide (1≤x1.Issue∧x1.Issue≤999)))) Y Y ?_))))
  refine gn (1≤x1.Issue∧x1.Issue≤999) (fun fhg19_1=> ?_) fun fhg19_1=> ?_
  ·refine oD Y Y (ny fhg19_1) Y ?_
   refine oD Y Y (ny fhg19_1) Y (oD Y Y (ny fhg19_1) Y (oD Y Y (ny fhg19_1) Y (fD (OF.pickT (VEv.tmpB Y (ny fhg19_1)) (VEv.bool true)) Y Y (mD (tB true) Y Y (VRunD.off Y (VWant.not (b:=true) Y Y Y) (VRunD.off Y (VWant.not (b:=true) Y Y Y) (VRunD.off Y (VWant.not (b:=true) Y Y Y) (VRunD.off Y (VWant.not (b:=true) Y Y Y) (fD (OF.pickT (tv (tB true) Y) (VEv.bool true)) Y Y (mD (tB true) Y Y (VRunD.off Y (VWant.not (b:=true) Y Y Y) ?_)))))))))))
   refine VRunD.off Y (VWant.not (b:=true) Y Y Y) (VRunD.off Y (VWant.not (b:=true) Y Y Y) (VRunD.off Y (VWant.not (b:=true) Y Y Y) (fD (OF.pickT (tv (tB true) Y) (VEv.bool true)) Y Y (mD (tB true) Y Y (VRunD.off Y (VWant.not (b:=true) Y Y Y) (VRunD.off Y (VWant.not (b:=true) Y Y Y) (VRunD.off Y (VWant.not (b:=true) Y Y Y) (uD Y Y Y (uD Y Y Y (uD Y Y Y (uD Y Y Y ?_)))))))))))
   refine uD Y Y Y (uD Y Y Y (uD Y Y Y (uD Y Y Y (uD Y Y Y (VRunD.off Y (VWant.not (b:=true) Y Y Y) (fD (OF.pickT (tv (tB true) Y) (VEv.bool true)) Y Y (VRunD.nil (tn (ct Y (sr (fO (OF.assign (VEv.bool false)) ?_)))))))))))
   refine nt (rt (vinB.r (tr (tr (vinB.r (tr (vb (b':=false) Y ?_)))))))
   first | (refine Q6 ⟨fun h=>⟨by omega,ZY hI' fhc0⟩,fun h=>by have:=h.1;omega⟩) | (symm;rw [decide_eq_false_iff_not];rintro ⟨_,h2⟩;obtain ⟨y,hy,h3,h4,h5,h6,h7⟩:=h2 i fhc0;obtain rfl:=Zh hx1 hy;first | omega | contradiction | (obtain ⟨z,hz,h9⟩:=h7 (by omega);obtain rfl:=Zh hx2 hz;omega) | (simp_all;done))
  refine VRunD.free Y (VWant.on Y Y (nz fhg19_1)) Y (OF.fieldAddrO (tv (T.op 0 0) Y) J6) (VRunD.look Y (VWant.on Y Y (nz fhg19_1)) Y (OL.loadO1 (t:=(tI x1.Slot)) (tv (T.op 0 1) Y) Y Y QQ) (VRunD.quiet (bi:= [5,3,1,0,2,4,6]) Y (VWant.on Y Y (nz fhg19_1)) Y Y Y bn (cS (vc (tv (tI x1.Slot) Y) (vc (VEv.int .i64 0) (vc (VEv.int .i64 99) vn))) (ZO Y) (QT (n+4) x1.Slot 0 99) Y Y) (VRunD.free Y (VWant.on Y Y (nz fhg19_1)) Y (Q1 (tv (tB (decide (0≤x1.Slot∧x1.Slot≤99))) Y)) (fD (OF.pickF (VEv.tmpB Y (nz fhg19_1)) (tv (tB (!(decide (0≤x1.Slot∧x1.Slot≤99)))) Y)) Y Y (mD (tB (!(decide (0≤x1.Slot∧x1.Slot≤99)))) Y Y ?_)))))
  refine gn (0≤x1.Slot∧x1.Slot≤99) (fun fhg25_2=> ?_) fun fhg25_2=> ?_
  ·refine oD Y Y (ny fhg25_2) Y ?_
   refine oD Y Y (ny fhg25_2) Y (oD Y Y (ny fhg25_2) Y (oD Y Y (ny fhg25_2) Y (fD (OF.pickT (VEv.tmpB Y (ny fhg25_2)) (VEv.bool true)) Y Y (mD (tB true) Y Y (VRunD.off Y (VWant.not (b:=true) Y Y Y) (VRunD.off Y (VWant.not (b:=true) Y Y Y) (VRunD.off Y (VWant.not (b:=true) Y Y Y) (VRunD.off Y (VWant.not (b:=true) Y Y Y) (fD (OF.pickT (tv (tB true) Y) (VEv.bool true)) Y Y (mD (tB true) Y Y (VRunD.off Y (VWant.not (b:=true) Y Y Y) ?_)))))))))))
   refine VRunD.off Y (VWant.not (b:=true) Y Y Y) (VRunD.off Y (VWant.not (b:=true) Y Y Y) (uD Y Y Y (uD Y Y Y (uD Y Y Y (uD Y Y Y (uD Y Y Y (uD Y Y Y (uD Y Y Y (uD Y Y Y (uD Y Y Y (VRunD.off Y (VWant.not (b:=true) Y Y Y) ?_)))))))))))
   refine fD (OF.pickT (tv (tB true) Y) (VEv.bool true)) Y Y (VRunD.nil (tn (ct Y (sr (fO (OF.assign (VEv.bool false)) (nt (rt (vinB.r (tr (tr (vinB.r ?_)))))))))))
   refine tr (vb (b':=false) Y ?_)
   first | (refine Q6 ⟨fun h=>⟨by omega,ZY hI' fhc0⟩,fun h=>by have:=h.1;omega⟩) | (symm;rw [decide_eq_false_iff_not];rintro ⟨_,h2⟩;obtain ⟨y,hy,h3,h4,h5,h6,h7⟩:=h2 i fhc0;obtain rfl:=Zh hx1 hy;first | omega | contradiction | (obtain ⟨z,hz,h9⟩:=h7 (by omega);obtain rfl:=Zh hx2 hz;omega) | (simp_all;done))
  refine VRunD.free Y (VWant.on Y Y (nz fhg25_2)) Y (OF.fieldAddrO (tv (T.op 0 0) Y) Qbp) (VRunD.look Y (VWant.on Y Y (nz fhg25_2)) Y (OL.loadOn (us:=(Qd false x1.Clue)) (tv (T.op 0 2) Y) Y Qby ZP (lb Y) Y) (VRunD.quiet (bi:= [11,9,7,5,6,8,3,1,0,2,4,10,12]) Y (VWant.on Y Y (nz fhg25_2)) Y Y Y bn (cS (vc (tv (T.agg (Qd false x1.Clue)) Y) vn) (LendL.cons (lg okeClue) ln) (Qcz (n+0) x1.Clue (by first | exact hw _ (List.mem_of_getElem? hx1) | assumption | omega)) Y Y) (VRunD.free Y (VWant.on Y Y (nz fhg25_2)) Y (Q1 (tv (tB (decide ((1≤x1.Clue.Sense∧x1.Clue.Sense≤99)∧ZI x1.Clue.Play))) Y)) (fD (OF.pickF (VEv.tmpB Y (nz fhg25_2)) (tv (tB (!(decide ((1≤x1.Clue.Sense∧x1.Clue.Sense≤99)∧ZI x1.Clue.Play)))) Y)) Y Y (mD (tB (!(decide ((1≤x1.Clue.Sense∧x1.Clue.Sense≤99)∧ZI x1.Clue.Play)))) Y Y ?_)))))
  refine gn ((1≤x1.Clue.Sense∧x1.Clue.Sense≤99)∧ZI x1.Clue.Play) (fun fhg31_3=> ?_) fun fhg31_3=> ?_
  ·refine oD Y Y (ny fhg31_3) Y ?_
   refine oD Y Y (ny fhg31_3) Y (oD Y Y (ny fhg31_3) Y (oD Y Y (ny fhg31_3) Y (fD (OF.pickT (VEv.tmpB Y (ny fhg31_3)) (VEv.bool true)) Y Y (mD (tB true) Y Y (VRunD.off Y (VWant.not (b:=true) Y Y Y) (VRunD.off Y (VWant.not (b:=true) Y Y Y) (VRunD.off Y (VWant.not (b:=true) Y Y Y) (uD Y Y Y (uD Y Y Y (uD Y Y Y (uD Y Y Y ?_)))))))))))
   refine uD Y Y Y (uD Y Y Y (uD Y Y Y (uD Y Y Y (uD Y Y Y (VRunD.off Y (VWant.not (b:=true) Y Y Y) (fD (OF.pickT (tv (tB true) Y) (VEv.bool true)) Y Y (VRunD.nil (tn (ct Y (sr (fO (OF.assign (VEv.bool false)) ?_)))))))))))
   refine nt (rt (vinB.r (tr (tr (vinB.r (tr (vb (b':=false) Y ?_)))))))
   first | (refine Q6 ⟨fun h=>⟨by omega,ZY hI' fhc0⟩,fun h=>by have:=h.1;omega⟩) | (symm;rw [decide_eq_false_iff_not];rintro ⟨_,h2⟩;obtain ⟨y,hy,h3,h4,h5,h6,h7⟩:=h2 i fhc0;obtain rfl:=Zh hx1 hy;first | omega | contradiction | (obtain ⟨z,hz,h9⟩:=h7 (by omega);obtain rfl:=Zh hx2 hz;omega) | (simp_all;done))
  refine VRunD.free Y (VWant.on Y Y (nz fhg31_3)) Y (OF.fieldAddrO (tv (T.op 0 0) Y) Jz) (VRunD.look Y (VWant.on Y Y (nz fhg31_3)) Y (OL.loadO1 (t:=(tI x1.Tick)) (tv (T.op 0 4) Y) Y Y QQ) (VRunD.quiet (bi:= [17,15,13,11,12,14,9,7,5,6,8,3,1,0,2,4,10,16,18]) Y (VWant.on Y Y (nz fhg31_3)) Y Y Y bn (cS (vc (tv (tI x1.Tick) Y) (vc (VEv.int .i64 0) (vc (VEv.int .i64 1000) vn))) (ZO Y) (QT (n+4) x1.Tick 0 1000) Y Y) (VRunD.free Y (VWant.on Y Y (nz fhg31_3)) Y (Q1 (tv (tB (decide (0≤x1.Tick∧x1.Tick≤1000))) Y)) (fD (OF.pickF (VEv.tmpB Y (nz fhg31_3)) (tv (tB (!(decide (0≤x1.Tick∧x1.Tick≤1000)))) Y)) Y Y (mD (tB (!(decide (0≤x1.Tick∧x1.Tick≤1000)))) Y Y ?_)))))
  refine gn (0≤x1.Tick∧x1.Tick≤1000) (fun fhg37_4=> ?_) fun fhg37_4=> ?_
  ·refine oD Y Y (ny fhg37_4) Y ?_
   refine oD Y Y (ny fhg37_4) Y (oD Y Y (ny fhg37_4) Y (uD Y Y Y (uD Y Y Y (uD Y Y Y (uD Y Y Y (uD Y Y Y (uD Y Y Y (uD Y Y Y (uD Y Y Y (uD Y Y Y (oD Y Y (ny fhg37_4) Y ?_)))))))))))
   refine fD (OF.pickT (VEv.tmpB Y (ny fhg37_4)) (VEv.bool true)) Y Y (VRunD.nil (tn (ct Y (sr (fO (OF.assign (VEv.bool false)) (nt (rt (vinB.r (tr (tr (vinB.r ?_)))))))))))
   refine tr (vb (b':=false) Y ?_)
   first | (refine Q6 ⟨fun h=>⟨by omega,ZY hI' fhc0⟩,fun h=>by have:=h.1;omega⟩) | (symm;rw [decide_eq_false_iff_not];rintro ⟨_,h2⟩;obtain ⟨y,hy,h3,h4,h5,h6,h7⟩:=h2 i fhc0;obtain rfl:=Zh hx1 hy;first | omega | contradiction | (obtain ⟨z,hz,h9⟩:=h7 (by omega);obtain rfl:=Zh hx2 hz;omega) | (simp_all;done))
  refine VRunD.free Y (VWant.on Y Y (nz fhg37_4)) Y (OF.move (tv (tN i) Y)) (VRunD.free Y (VWant.on Y Y (nz fhg37_4)) Y (B.gtr (c:=(decide (0<i))) (tv (tN i) Y) (VEv.int .i64 0) (by first | exact hw _ (List.mem_of_getElem? hx1) | (exact Q6 (by omega)))) (VRunD.free Y (VWant.on Y Y (nz fhg37_4)) Y (OF.move (tv (tB (decide (0<i))) Y)) ?_))
  refine gw (0<i) (fun fhg40_5=> ?_) fun fhg40_5=> ?_
  ·refine VRunD.free Y (VWant.on Y Y (dy fhg40_5)) Y (OF.move (tv (rd 5 Qa a) Y)) ?_
   refine VRunD.free Y (VWant.on Y Y (dy fhg40_5)) Y (OF.move (tv (tN i) Y)) (VRunD.free Y (VWant.on Y Y (dy fhg40_5)) Y (B.sub (n:=((i - 1:Nat):Int)) (tv (tN i) Y) (VEv.int .i64 1) (by first | exact hw _ (List.mem_of_getElem? hx1) | rfl | (rw [Qx (by omega)];omega) | (rw [Qx (by omega)];done))) ?_)
   obtain ⟨x2,hx2⟩:∃x,a[i - 1]? =some x:=⟨_,List.getElem?_eq_getElem (by first | exact hw _ (List.mem_of_getElem? hx1) | omega)⟩
   refine VRunD.free Y (VWant.on Y Y (dy fhg40_5)) Y (OF.indexAddrR (row:=(Qa false x2)) (i:=i - 1) (tv (rd 5 Qa a) Y) (tv (tN (i - 1)) Y) Y (Qt _ hx2) U41 Yv Jk) (VRunD.free Y (VWant.on Y Y (dy fhg40_5)) Y (B.fieldAddrR (us:= [(tI x2.Tick)]) (tv (T.rp (Qa false x2)) Y) (lb Y) Jz Y) (VRunD.look Y (VWant.on Y Y (dy fhg40_5)) Y (OL.loadR1 (t:=(tI x2.Tick)) (tv (T.rp [(tI x2.Tick)]) Y) Y QQ) (VRunD.free Y (VWant.on Y Y (dy fhg40_5)) Y (OF.fieldAddrO (tv (T.op 0 0) Y) Jz) (VRunD.look Y (VWant.on Y Y (dy fhg40_5)) Y (OL.loadO1 (t:=(tI x1.Tick)) (tv (T.op 0 4) Y) Y Y QQ) (VRunD.free Y (VWant.on Y Y (dy fhg40_5)) Y (xgt (tv (tI x2.Tick) Y) (tv (tI x1.Tick) Y)) (VRunD.free Y (VWant.on Y Y (nz fhg37_4)) Y (OF.pickT (VEv.tmpB Y (dy fhg40_5)) (tv (tB (decide (x1.Tick<x2.Tick))) Y)) (fD (OF.pickF (VEv.tmpB Y (nz fhg37_4)) (tv (tB (decide (x1.Tick<x2.Tick))) Y)) Y Y (VRunD.nil (tn ?_)))))))))
   refine cd (x1.Tick<x2.Tick) Y (fun fhc1=> ?_) fun fhc1=> ?_
   ·refine sr ?_
    refine fO (OF.assign (VEv.bool false)) (nt (rt (vinB.r (tr (tr (vinB.r (tr (vb (b':=false) Y ?_))))))))
    first | (refine Q6 ⟨fun h=>⟨by omega,ZY hI' fhc0⟩,fun h=>by have:=h.1;omega⟩) | (symm;rw [decide_eq_false_iff_not];rintro ⟨_,h2⟩;obtain ⟨y,hy,h3,h4,h5,h6,h7⟩:=h2 i fhc0;obtain rfl:=Zh hx1 hy;first | omega | contradiction | (obtain ⟨z,hz,h9⟩:=h7 (by omega);obtain rfl:=Zh hx2 hz;omega) | (simp_all;done))
   refine sk (vinB.n (tn (VRun.region (mO (tN i) Y (fO (Qy (tv (tN i) Y) (VEv.int .i64 1) (by first | exact hw _ (List.mem_of_getElem? hx1) | omega)) (aO (tN (i+1)) Y (VRunO.nil (tn ?_))))))))
   refine ⟨(i+1:Nat),?_,?_,Wk.mk (fun k=>k) ?_ ?_ ?_⟩
   ·refine QZ hI0 fhc0 ⟨x1,hx1,by omega,by omega,by assumption,by omega,fun h0=> ?_⟩
    first | (exact absurd h0 (by omega)) | (refine ⟨x2,hx2,?_⟩;omega)
   ·first | omega | (simp only [];omega) | (show _<_;omega) | (simp;omega)
   ·exact (b2 (b2 bn))
   ·exact bn
   ·exact nd Y
  refine oD Y Y (dz fhg40_5) Y (oD Y Y (dz fhg40_5) Y (oD Y Y (dz fhg40_5) Y (oD Y Y (dz fhg40_5) Y (oD Y Y (dz fhg40_5) Y (oD Y Y (dz fhg40_5) Y (oD Y Y (dz fhg40_5) Y (oD Y Y (dz fhg40_5) Y (oD Y Y (dz fhg40_5) Y (VRunD.free Y (VWant.on Y Y (nz fhg37_4)) Y (OF.pickF (VEv.tmpB Y (dz fhg40_5)) (VEv.bool false)) (fD (OF.pickF (VEv.tmpB Y (nz fhg37_4)) (tv (tB false) Y)) Y Y (VRunD.nil ?_)))))))))))
  refine tn (cf Y (sk (vinB.n (tn (VRun.region (mO (tN i) Y (fO (Qy (tv (tN i) Y) (VEv.int .i64 1) (by first | exact hw _ (List.mem_of_getElem? hx1) | omega)) (aO (tN (i+1)) Y (VRunO.nil (tn ?_))))))))))
  refine ⟨(i+1:Nat),?_,?_,Wk.mk (fun k=>k) ?_ ?_ ?_⟩
  ·refine QZ hI0 fhc0 ⟨x1,hx1,by omega,by omega,by assumption,by omega,fun h0=> ?_⟩
   first | (exact absurd h0 (by omega)) | (refine ⟨x2,hx2,?_⟩;omega)
  ·first | omega | (simp only [];omega) | (show _<_;omega) | (simp;omega)
  ·exact (b2 (b2 bn))
  ·exact bn
  ·exact nd Y
 refine VRun.exit (vthn.e (vthn.e (vinB.e (tn (sr (mO (rd 5 Qa a) Y (lO (B.lenR (m:=a.length) (tv (rd 5 Qa a) Y) U41 (List.length_map ..)) (fO (B.leq (c:=(decide (a.length≤12))) (tv (tN a.length) Y) (VEv.int .i64 12) (by first | exact hw _ (List.mem_of_getElem? hx1) | (exact Q6 (by omega)))) (aO (tB (decide (a.length≤12))) Y (nt (rt ?_)))))))))))
 refine vb (b':=(decide (a.length≤12))) Y ?_
 first | (refine Q6 ⟨fun h=>⟨by omega,ZY hI' fhc0⟩,fun h=>by have:=h.1;omega⟩) | (symm;rw [decide_eq_false_iff_not];rintro ⟨_,h2⟩;obtain ⟨y,hy,h3,h4,h5,h6,h7⟩:=h2 i fhc0;obtain rfl:=Zh hx1 hy;first | omega | contradiction | (obtain ⟨z,hz,h9⟩:=h7 (by omega);obtain rfl:=Zh hx2 hz;omega) | (simp_all;done))
theorem Jr (n:Nat) (a:List D.Correction) (ha:a.length≤mx+1) (hw:∀x∈a,QH x.Clue≤mx):Pure (Qs Tryz.prog (n+5)) 73 [(rd 5 Qa a)] (tB (decide (QL a))):=by
 refine Pure.intro (rs:= [ResultVar.tmp 2]) Tryz.func73 Y Y Y (E0:= [(0,(rd 5 Qa a))]) Y ?_
 obtain ⟨hlim,hmx,hmax⟩:=QG
 refine sr (fO (OF.assign (VEv.bool false)) (nt (sq (sr (mO (rd 5 Qa a) Y (lO (B.lenR (m:=a.length) (tv (rd 5 Qa a) Y) U41 (List.length_map ..)) (fO (B.gtr (c:=(decide (12<a.length))) (tv (tN a.length) Y) (VEv.int .i64 12) (by first | exact hw _ (List.mem_of_getElem? hx1) | (exact Q6 (by omega)))) (nt ?_))))))))
 refine cd (12<a.length) Y (fun fhc0=> ?_) fun fhc0=> ?_
 ·refine sr ?_
  refine fO (OF.assign (VEv.bool false)) (nt (rt (tr (vb (b':=false) Y ?_))))
  first | (symm;rw [decide_eq_false_iff_not];rintro ⟨h2,_⟩;omega) | (symm;rw [decide_eq_true_eq];exact ⟨by omega,ZY hI' fhc1⟩) | (symm;rw [decide_eq_false_iff_not];rintro ⟨_,h2⟩;obtain ⟨y,hy,h3,h4,h5,h6,h7⟩:=h2 i fhc1;obtain rfl:=Zh hx1 hy;first | omega | contradiction | (obtain ⟨z,hz,h9⟩:=h7 (by omega);obtain rfl:=Zh hx2 hz;omega) | (simp_all;done))
 refine sk (tn (sq (sr (mO (rd 5 Qa a) Y (lO (B.lenR (m:=a.length) (tv (rd 5 Qa a) Y) U41 (List.length_map ..)) (fO (OF.move (VEv.int .i64 0)) (nt (VRun.block ?_))))))))
 refine VRun.loop (A:=Nat) (fun s_=> [(0,(rd 5 Qa a)),(8,(rd 5 Qa a)),(9,(tN a.length)),(10,(tN s_))]) (fun s_=>QY []) 0 (fun s_=>s_≤a.length∧∀j,j<s_→QfB a j) (fun s_=>a.length - s_) (0:Nat) ?_ (Wk.mk (fun k=>k) ?_ ?_ ?_) ?_
 ·exact ⟨Nat.zero_le _,fun j hj=>by omega⟩
 ·exact (b2 (b2 (b2 (b2 bn))))
 ·exact bn
 ·exact nd Y
 rintro i (hI':i≤a.length∧∀j,j<i→QfB a j)
 show VRun _ _ _ [(0,(rd 5 Qa a)),(8,(rd 5 Qa a)),(9,(tN a.length)),(10,(tN i))] (QY []) 0 _
 have hI0:=hI'
 refine sr (fO (Zb (tv (tN i) Y) (tv (tN a.length) Y)) (nt (sq ?_)))
 refine cd (i<a.length) Y (fun fhc1=> ?_) fun fhc1=> ?_
 ·refine sk ?_
  refine tn (sq (VRun.block (sr (mO (tN i) Y ?_))))
  obtain ⟨x1,hx1⟩:∃x,a[i]? =some x:=⟨_,List.getElem?_eq_getElem (by first | exact hw _ (List.mem_of_getElem? hx1) | omega)⟩
  refine fO (OF.indexAddrR (row:=(Qa false x1)) (i:=i) (tv (rd 5 Qa a) Y) (tv (tN i) Y) Y (Qt _ hx1) U41 Yv Jk) (lO (OL.loadRn (us:=(Qa false x1)) (tv (T.rp (Qa false x1)) Y) Qjw Yv (lb Y) Y) (kO (B.alloc (t:=(T.agg [(tN 0),(tN 0),(tN 0),T.nils,(tN 0)])) (ts:= [(tN 0),(tN 0),(tN 0),T.nils,(tN 0)]) QkZ QkM nofun (fun _=> .agg _ _ Y (Yf (RL.cons (.int _ _) (RL.cons (.int _ _) (RL.cons (.int _ _) (RL.cons (.nils) (RL.cons (.int _ _) (RL.nil _)))))))) Y) (aO (tN i) Y (cO (B.storeW (us:=(Qa false x1)) (tv (T.op 0 0) Y) (tv (T.agg (Qa false x1)) Y) nofun Y Y Y Jk Yv (bc Y (bc Y (bc Y (bc Y (bc Y bn)))))) (nt (sq (VRun.draw (B:= [[],[0],[0,1],[1,0,2],[2,0,1,3],[3,1,0,2,4],[4,2,0,1,3,5],[5,3,1,0,2,4,6],[6,4,2,0,1,3,5,7],[7,5,6,8,3,1,0,2,4],[4,2,0,1,3,8,6,5,7,9],[9,7,5,6,8,3,1,0,2,4,10],[10,4,2,0,1,3,8,6,5,7,9,11],[11,9,7,5,6,8,3,1,0,2,4,10,12],[12,10,4,2,0,1,3,8,6,5,7,9,11,13],[13,11,12,14,9,7,5,6,8,3,1,0,2,4,10],[10,4,2,0,1,3,8,6,5,7,9,14,12,11,13,15],[15,13,11,12,14,9,7,5,6,8,3,1,0,2,4,10,16],[16,10,4,2,0,1,3,8,6,5,7,9,14,12,11,13,15,17],[17,15,13,11,12,14,9,7,5,6,8,3,1,0,2,4,10,16,18],[18,16,10,4,2,0,1,3,8,6,5,7,9,14,12,11,13,15,17,19],[19,17,18,20,15,13,11,12,14,9,7,5,6,8,3,1,0,2,4,10,16],[16,10,4,2,0,1,3,8,6,5,7,9,14,12,11,13,15,20,18,17,19,21],[21,19,17,18,20,15,13,11,12,14,9,7,5,6,8,3,1,0,2,4,10,16,22],[22,16,10,4,2,0,1,3,8,6,5,7,9,14,12,11,13,15,20,18,17,19,21,23],[23,21,19,17,18,20,15,13,11,12,14,9,7,5,6,8,3,1,0,2,4,10,16,22,24],[24,22,16,10,4,2,0,1,3,8,6,5,7,9,14,12,11,13,15,20,18,17,19,21,23,25],[25,23,21,19,17,18,20,15,13,11,12,14,9,7,5,6,8,3,1,0,2,4,10,16,22,24,26],[24,22,16,10,4,2,0,1,3,8,6,5,7,9,14,12,11,13,15,20,18,17,19,21,23,25],[24,22,16,10,4,2,0,1,3,8,6,5,7,9,14,12,11,13,15,20,18,17,19,21,23,25],[25,23,21,19,17,18,20,15,13,11,12,14,9,7,5,6,8,3,1,0,2,4,10,16,22,24,29],[29,30,25,23,21,19,17,18,20,15,13,11,12,14,9,7,5,6,8,3,1,0,2,4,10,16,22,24,28],[28,24,22,16,10,4,2,0,1,3,8,6,5,7,9,14,12,11,13,15,20,18,17,19,21,23,25,30,29,31],[31,29,30,25,23,21,19,17,18,20,15,13,11,12,14,9,7,5,6,8,3,1,0,2,4,10,16,22,24,28,32],[32,28,30,29,31,33,26,24,22,16,10,4,2,0,1,3,8,6,5,7,9,14,12,11,13,15,20,18,17,19,21,23,25,27],[27,26,33,31,29,30,28,32,34,24,22,16,10,4,2,0,1,3,8,6,5,7,9,14,12,11,13,15,20,18,17,19,21,23,25],[25,23,24,34,32,28,30,29,31,33,26,27,35,21,19,17,18,20,15,13,11,12,14,9,7,5,6,8,3,1,0,2,4,10,16,22]]) (by kernel_rfl) (by kernel_rfl) ?_)))))))
  refine fD (OF.fieldAddrO (tv (T.op 0 0) Y) Qbg) Y Y (lD (OL.loadO1 (t:=(tI x1.Issue)) (tv (T.op 0 0) Y) Y Y QQ) Y Y (VRunD.quiet (bi:= [0,1]) Y VWant.always Y Y Y bn (cS (vc (tv (tI x1.Issue) Y) (vc (VEv.int .i64 1) (vc (VEv.int .i64 999) vn))) (ZO Y) (Zc (n+3) x1.Issue 1 999) Y Y) (fD (Q1 (tv (tB (decide (1≤x1.Issue∧x1.Issue≤999))) Y)) Y Y (mD (tB (!(decide (1≤x1.Issue∧x1.Issue≤999)))) Y Y ?_))))
  refine gn (1≤x1.Issue∧x1.Issue≤999) (fun fhg19_1=> ?_) fun fhg19_1=> ?_
  ·refine oD Y Y (ny fhg19_1) Y ?_
   refine oD Y Y (ny fhg19_1) Y (oD Y Y (ny fhg19_1) Y (oD Y Y (ny fhg19_1) Y (fD (OF.pickT (VEv.tmpB Y (ny fhg19_1)) (VEv.bool true)) Y Y (mD (tB true) Y Y (VRunD.off Y (VWant.not (b:=true) Y Y Y) (VRunD.off Y (VWant.not (b:=true) Y Y Y) (VRunD.off Y (VWant.not (b:=true) Y Y Y) (VRunD.off Y (VWant.not (b:=true) Y Y Y) (fD (OF.pickT (tv (tB true) Y) (VEv.bool true)) Y Y (mD (tB true) Y Y (VRunD.off Y (VWant.not (b:=true) Y Y Y) ?_)))))))))))
   refine VRunD.off Y (VWant.not (b:=true) Y Y Y) (VRunD.off Y (VWant.not (b:=true) Y Y Y) (VRunD.off Y (VWant.not (b:=true) Y Y Y) (fD (OF.pickT (tv (tB true) Y) (VEv.bool true)) Y Y (mD (tB true) Y Y (VRunD.off Y (VWant.not (b:=true) Y Y Y) (VRunD.off Y (VWant.not (b:=true) Y Y Y) (VRunD.off Y (VWant.not (b:=true) Y Y Y) (uD Y Y Y (uD Y Y Y (uD Y Y Y (uD Y Y Y ?_)))))))))))
   refine uD Y Y Y (uD Y Y Y (uD Y Y Y (uD Y Y Y (uD Y Y Y (VRunD.off Y (VWant.not (b:=true) Y Y Y) (fD (OF.pickT (tv (tB true) Y) (VEv.bool true)) Y Y (VRunD.nil (tn (ct Y (sr (fO (OF.assign (VEv.bool false)) ?_)))))))))))
   refine nt (rt (vinB.r (tr (tr (vinB.r (tr (vb (b':=false) Y ?_)))))))
   first | (symm;rw [decide_eq_false_iff_not];rintro ⟨h2,_⟩;omega) | (symm;rw [decide_eq_true_eq];exact ⟨by omega,ZY hI' fhc1⟩) | (symm;rw [decide_eq_false_iff_not];rintro ⟨_,h2⟩;obtain ⟨y,hy,h3,h4,h5,h6,h7⟩:=h2 i fhc1;obtain rfl:=Zh hx1 hy;first | omega | contradiction | (obtain ⟨z,hz,h9⟩:=h7 (by omega);obtain rfl:=Zh hx2 hz;omega) | (simp_all;done))
  refine VRunD.free Y (VWant.on Y Y (nz fhg19_1)) Y (OF.fieldAddrO (tv (T.op 0 0) Y) J6) (VRunD.look Y (VWant.on Y Y (nz fhg19_1)) Y (OL.loadO1 (t:=(tI x1.Slot)) (tv (T.op 0 1) Y) Y Y QQ) (VRunD.quiet (bi:= [5,3,1,0,2,4,6]) Y (VWant.on Y Y (nz fhg19_1)) Y Y Y bn (cS (vc (tv (tI x1.Slot) Y) (vc (VEv.int .i64 0) (vc (VEv.int .i64 99) vn))) (ZO Y) (Zc (n+3) x1.Slot 0 99) Y Y) (VRunD.free Y (VWant.on Y Y (nz fhg19_1)) Y (Q1 (tv (tB (decide (0≤x1.Slot∧x1.Slot≤99))) Y)) (fD (OF.pickF (VEv.tmpB Y (nz fhg19_1)) (tv (tB (!(decide (0≤x1.Slot∧x1.Slot≤99)))) Y)) Y Y (mD (tB (!(decide (0≤x1.Slot∧x1.Slot≤99)))) Y Y ?_)))))
  refine gn (0≤x1.Slot∧x1.Slot≤99) (fun fhg25_2=> ?_) fun fhg25_2=> ?_
  ·refine oD Y Y (ny fhg25_2) Y ?_
   refine oD Y Y (ny fhg25_2) Y (oD Y Y (ny fhg25_2) Y (oD Y Y (ny fhg25_2) Y (fD (OF.pickT (VEv.tmpB Y (ny fhg25_2)) (VEv.bool true)) Y Y (mD (tB true) Y Y (VRunD.off Y (VWant.not (b:=true) Y Y Y) (VRunD.off Y (VWant.not (b:=true) Y Y Y) (VRunD.off Y (VWant.not (b:=true) Y Y Y) (VRunD.off Y (VWant.not (b:=true) Y Y Y) (fD (OF.pickT (tv (tB true) Y) (VEv.bool true)) Y Y (mD (tB true) Y Y (VRunD.off Y (VWant.not (b:=true) Y Y Y) ?_)))))))))))
   refine VRunD.off Y (VWant.not (b:=true) Y Y Y) (VRunD.off Y (VWant.not (b:=true) Y Y Y) (uD Y Y Y (uD Y Y Y (uD Y Y Y (uD Y Y Y (uD Y Y Y (uD Y Y Y (uD Y Y Y (uD Y Y Y (uD Y Y Y (VRunD.off Y (VWant.not (b:=true) Y Y Y) ?_)))))))))))
   refine fD (OF.pickT (tv (tB true) Y) (VEv.bool true)) Y Y (VRunD.nil (tn (ct Y (sr (fO (OF.assign (VEv.bool false)) (nt (rt (vinB.r (tr (tr (vinB.r ?_)))))))))))
   refine tr (vb (b':=false) Y ?_)
   first | (symm;rw [decide_eq_false_iff_not];rintro ⟨h2,_⟩;omega) | (symm;rw [decide_eq_true_eq];exact ⟨by omega,ZY hI' fhc1⟩) | (symm;rw [decide_eq_false_iff_not];rintro ⟨_,h2⟩;obtain ⟨y,hy,h3,h4,h5,h6,h7⟩:=h2 i fhc1;obtain rfl:=Zh hx1 hy;first | omega | contradiction | (obtain ⟨z,hz,h9⟩:=h7 (by omega);obtain rfl:=Zh hx2 hz;omega) | (simp_all;done))
  refine VRunD.free Y (VWant.on Y Y (nz fhg25_2)) Y (OF.fieldAddrO (tv (T.op 0 0) Y) Qbp) (VRunD.look Y (VWant.on Y Y (nz fhg25_2)) Y (OL.loadOn (us:=(Qd false x1.Clue)) (tv (T.op 0 2) Y) Y Qby ZP (lb Y) Y) (VRunD.quiet (bi:= [11,9,7,5,6,8,3,1,0,2,4,10,12]) Y (VWant.on Y Y (nz fhg25_2)) Y Y Y bn (cS (vc (tv (T.agg (Qd false x1.Clue)) Y) vn) (LendL.cons (lg okeClue) ln) (QcA (n+0) x1.Clue (by first | exact hw _ (List.mem_of_getElem? hx1) | assumption | omega)) Y Y) (VRunD.free Y (VWant.on Y Y (nz fhg25_2)) Y (Q1 (tv (tB (decide ((1≤x1.Clue.Sense∧x1.Clue.Sense≤99)∧ZI x1.Clue.Play))) Y)) (fD (OF.pickF (VEv.tmpB Y (nz fhg25_2)) (tv (tB (!(decide ((1≤x1.Clue.Sense∧x1.Clue.Sense≤99)∧ZI x1.Clue.Play)))) Y)) Y Y (mD (tB (!(decide ((1≤x1.Clue.Sense∧x1.Clue.Sense≤99)∧ZI x1.Clue.Play)))) Y Y ?_)))))
  refine gn ((1≤x1.Clue.Sense∧x1.Clue.Sense≤99)∧ZI x1.Clue.Play) (fun fhg31_3=> ?_) fun fhg31_3=> ?_
  ·refine oD Y Y (ny fhg31_3) Y ?_
   refine oD Y Y (ny fhg31_3) Y (oD Y Y (ny fhg31_3) Y (oD Y Y (ny fhg31_3) Y (fD (OF.pickT (VEv.tmpB Y (ny fhg31_3)) (VEv.bool true)) Y Y (mD (tB true) Y Y (VRunD.off Y (VWant.not (b:=true) Y Y Y) (VRunD.off Y (VWant.not (b:=true) Y Y Y) (VRunD.off Y (VWant.not (b:=true) Y Y Y) (uD Y Y Y (uD Y Y Y (uD Y Y Y (uD Y Y Y ?_)))))))))))
   refine uD Y Y Y (uD Y Y Y (uD Y Y Y (uD Y Y Y (uD Y Y Y (VRunD.off Y (VWant.not (b:=true) Y Y Y) (fD (OF.pickT (tv (tB true) Y) (VEv.bool true)) Y Y (VRunD.nil (tn (ct Y (sr (fO (OF.assign (VEv.bool false)) ?_)))))))))))
   refine nt (rt (vinB.r (tr (tr (vinB.r (tr (vb (b':=false) Y ?_)))))))
   first | (symm;rw [decide_eq_false_iff_not];rintro ⟨h2,_⟩;omega) | (symm;rw [decide_eq_true_eq];exact ⟨by omega,ZY hI' fhc1⟩) | (symm;rw [decide_eq_false_iff_not];rintro ⟨_,h2⟩;obtain ⟨y,hy,h3,h4,h5,h6,h7⟩:=h2 i fhc1;obtain rfl:=Zh hx1 hy;first | omega | contradiction | (obtain ⟨z,hz,h9⟩:=h7 (by omega);obtain rfl:=Zh hx2 hz;omega) | (simp_all;done))
  refine VRunD.free Y (VWant.on Y Y (nz fhg31_3)) Y (OF.fieldAddrO (tv (T.op 0 0) Y) Jz) (VRunD.look Y (VWant.on Y Y (nz fhg31_3)) Y (OL.loadO1 (t:=(tI x1.Tick)) (tv (T.op 0 4) Y) Y Y QQ) (VRunD.quiet (bi:= [17,15,13,11,12,14,9,7,5,6,8,3,1,0,2,4,10,16,18]) Y (VWant.on Y Y (nz fhg31_3)) Y Y Y bn (cS (vc (tv (tI x1.Tick) Y) (vc (VEv.int .i64 0) (vc (VEv.int .i64 1000) vn))) (ZO Y) (Zc (n+3) x1.Tick 0 1000) Y Y) (VRunD.free Y (VWant.on Y Y (nz fhg31_3)) Y (Q1 (tv (tB (decide (0≤x1.Tick∧x1.Tick≤1000))) Y)) (fD (OF.pickF (VEv.tmpB Y (nz fhg31_3)) (tv (tB (!(decide (0≤x1.Tick∧x1.Tick≤1000)))) Y)) Y Y (mD (tB (!(decide (0≤x1.Tick∧x1.Tick≤1000)))) Y Y ?_)))))
  refine gn (0≤x1.Tick∧x1.Tick≤1000) (fun fhg37_4=> ?_) fun fhg37_4=> ?_
  ·refine oD Y Y (ny fhg37_4) Y ?_
   refine oD Y Y (ny fhg37_4) Y (oD Y Y (ny fhg37_4) Y (uD Y Y Y (uD Y Y Y (uD Y Y Y (uD Y Y Y (uD Y Y Y (uD Y Y Y (uD Y Y Y (uD Y Y Y (uD Y Y Y (oD Y Y (ny fhg37_4) Y ?_)))))))))))
   refine fD (OF.pickT (VEv.tmpB Y (ny fhg37_4)) (VEv.bool true)) Y Y (VRunD.nil (tn (ct Y (sr (fO (OF.assign (VEv.bool false)) (nt (rt (vinB.r (tr (tr (vinB.r ?_)))))))))))
   refine tr (vb (b':=false) Y ?_)
   first | (symm;rw [decide_eq_false_iff_not];rintro ⟨h2,_⟩;omega) | (symm;rw [decide_eq_true_eq];exact ⟨by omega,ZY hI' fhc1⟩) | (symm;rw [decide_eq_false_iff_not];rintro ⟨_,h2⟩;obtain ⟨y,hy,h3,h4,h5,h6,h7⟩:=h2 i fhc1;obtain rfl:=Zh hx1 hy;first | omega | contradiction | (obtain ⟨z,hz,h9⟩:=h7 (by omega);obtain rfl:=Zh hx2 hz;omega) | (simp_all;done))
  refine VRunD.free Y (VWant.on Y Y (nz fhg37_4)) Y (OF.move (tv (tN i) Y)) (VRunD.free Y (VWant.on Y Y (nz fhg37_4)) Y (B.gtr (c:=(decide (0<i))) (tv (tN i) Y) (VEv.int .i64 0) (by first | exact hw _ (List.mem_of_getElem? hx1) | (exact Q6 (by omega)))) (VRunD.free Y (VWant.on Y Y (nz fhg37_4)) Y (OF.move (tv (tB (decide (0<i))) Y)) ?_))
  refine gw (0<i) (fun fhg40_5=> ?_) fun fhg40_5=> ?_
  ·refine VRunD.free Y (VWant.on Y Y (dy fhg40_5)) Y (OF.fieldAddrO (tv (T.op 0 0) Y) Jz) ?_
   refine VRunD.look Y (VWant.on Y Y (dy fhg40_5)) Y (OL.loadO1 (t:=(tI x1.Tick)) (tv (T.op 0 4) Y) Y Y QQ) (VRunD.free Y (VWant.on Y Y (dy fhg40_5)) Y (OF.move (tv (rd 5 Qa a) Y)) (VRunD.free Y (VWant.on Y Y (dy fhg40_5)) Y (OF.move (tv (tN i) Y)) (VRunD.free Y (VWant.on Y Y (dy fhg40_5)) Y (B.sub (n:=((i - 1:Nat):Int)) (tv (tN i) Y) (VEv.int .i64 1) (by first | exact hw _ (List.mem_of_getElem? hx1) | rfl | (rw [Qx (by omega)];omega) | (rw [Qx (by omega)];done))) ?_)))
   obtain ⟨x2,hx2⟩:∃x,a[i - 1]? =some x:=⟨_,List.getElem?_eq_getElem (by first | exact hw _ (List.mem_of_getElem? hx1) | omega)⟩
   refine VRunD.free Y (VWant.on Y Y (dy fhg40_5)) Y (OF.indexAddrR (row:=(Qa false x2)) (i:=i - 1) (tv (rd 5 Qa a) Y) (tv (tN (i - 1)) Y) Y (Qt _ hx2) U41 Yv Jk) (VRunD.free Y (VWant.on Y Y (dy fhg40_5)) Y (B.fieldAddrR (us:= [(tI x2.Tick)]) (tv (T.rp (Qa false x2)) Y) (lb Y) Jz Y) (VRunD.look Y (VWant.on Y Y (dy fhg40_5)) Y (OL.loadR1 (t:=(tI x2.Tick)) (tv (T.rp [(tI x2.Tick)]) Y) Y QQ) (VRunD.free Y (VWant.on Y Y (dy fhg40_5)) Y (xls (tv (tI x1.Tick) Y) (tv (tI x2.Tick) Y)) (VRunD.free Y (VWant.on Y Y (nz fhg37_4)) Y (OF.pickT (VEv.tmpB Y (dy fhg40_5)) (tv (tB (decide (x1.Tick<x2.Tick))) Y)) (fD (OF.pickF (VEv.tmpB Y (nz fhg37_4)) (tv (tB (decide (x1.Tick<x2.Tick))) Y)) Y Y (VRunD.nil (tn ?_)))))))
   refine cd (x1.Tick<x2.Tick) Y (fun fhc2=> ?_) fun fhc2=> ?_
   ·refine sr ?_
    refine fO (OF.assign (VEv.bool false)) (nt (rt (vinB.r (tr (tr (vinB.r (tr (vb (b':=false) Y ?_))))))))
    first | (symm;rw [decide_eq_false_iff_not];rintro ⟨h2,_⟩;omega) | (symm;rw [decide_eq_true_eq];exact ⟨by omega,ZY hI' fhc1⟩) | (symm;rw [decide_eq_false_iff_not];rintro ⟨_,h2⟩;obtain ⟨y,hy,h3,h4,h5,h6,h7⟩:=h2 i fhc1;obtain rfl:=Zh hx1 hy;first | omega | contradiction | (obtain ⟨z,hz,h9⟩:=h7 (by omega);obtain rfl:=Zh hx2 hz;omega) | (simp_all;done))
   refine sk (vinB.n (tn (VRun.region (fO (Qy (tv (tN i) Y) (VEv.int .i64 1) (by first | exact hw _ (List.mem_of_getElem? hx1) | omega)) (mO (tN (i+1)) Y (VRunO.nil (tn ?_)))))))
   refine ⟨(i+1:Nat),?_,?_,Wk.mk (fun k=>k) ?_ ?_ ?_⟩
   ·refine QZ hI0 fhc1 ⟨x1,hx1,by omega,by omega,by assumption,by omega,fun h0=> ?_⟩
    first | (exact absurd h0 (by omega)) | (refine ⟨x2,hx2,?_⟩;omega)
   ·first | omega | (simp only [];omega) | (show _<_;omega) | (simp;omega)
   ·exact (b2 (b2 (b2 (b2 bn))))
   ·exact bn
   ·exact nd Y
  refine oD Y Y (dz fhg40_5) Y (oD Y Y (dz fhg40_5) Y (oD Y Y (dz fhg40_5) Y (oD Y Y (dz fhg40_5) Y (oD Y Y (dz fhg40_5) Y (oD Y Y (dz fhg40_5) Y (oD Y Y (dz fhg40_5) Y (oD Y Y (dz fhg40_5) Y (oD Y Y (dz fhg40_5) Y (VRunD.free Y (VWant.on Y Y (nz fhg37_4)) Y (OF.pickF (VEv.tmpB Y (dz fhg40_5)) (VEv.bool false)) (fD (OF.pickF (VEv.tmpB Y (nz fhg37_4)) (tv (tB false) Y)) Y Y (VRunD.nil ?_)))))))))))
  refine tn (cf Y (sk (vinB.n (tn (VRun.region (fO (Qy (tv (tN i) Y) (VEv.int .i64 1) (by first | exact hw _ (List.mem_of_getElem? hx1) | omega)) (mO (tN (i+1)) Y (VRunO.nil (tn ?_)))))))))
  refine ⟨(i+1:Nat),?_,?_,Wk.mk (fun k=>k) ?_ ?_ ?_⟩
  ·refine QZ hI0 fhc1 ⟨x1,hx1,by omega,by omega,by assumption,by omega,fun h0=> ?_⟩
   first | (exact absurd h0 (by omega)) | (refine ⟨x2,hx2,?_⟩;omega)
  ·first | omega | (simp only [];omega) | (show _<_;omega) | (simp;omega)
  ·exact (b2 (b2 (b2 (b2 bn))))
  ·exact bn
  ·exact nd Y
 refine VRun.exit (vthn.e (vthn.e (vinB.e (tn (sr (fO (OF.assign (VEv.bool true)) (nt (rt (vb (b':=true) Y ?_)))))))))
 first | (symm;rw [decide_eq_false_iff_not];rintro ⟨h2,_⟩;omega) | (symm;rw [decide_eq_true_eq];exact ⟨by omega,ZY hI' fhc1⟩) | (symm;rw [decide_eq_false_iff_not];rintro ⟨_,h2⟩;obtain ⟨y,hy,h3,h4,h5,h6,h7⟩:=h2 i fhc1;obtain rfl:=Zh hx1 hy;first | omega | contradiction | (obtain ⟨z,hz,h9⟩:=h7 (by omega);obtain rfl:=Zh hx2 hz;omega) | (simp_all;done))
noncomputable section
def YN (a:List Int) (i:Nat):List Int:=(List.range a.length).map fun j=>if j<i∨a.length≤j+i then a.getD (a.length - 1 - j) 0 else a.getD j 0
theorem J5 (a:List Int) (i:Nat):(YN a i).length=a.length:=by simp [YN]
theorem Qdm {a:List Int} {i j:Nat} (h:j<a.length):(YN a i)[j]? =some (if j<i∨a.length≤j+i then a.getD (a.length - 1 - j) 0 else a.getD j 0):=by
 unfold YN
 rw [List.getElem?_map,List.getElem?_range h]
 rfl
theorem QkR (a:List Int):YN a 0=a:=by
 refine List.ext_getElem? fun j=> ?_
 rcases Nat.lt_or_ge j a.length with h | h
 ·rw [Qdm h,if_neg (by omega),List.getD_eq_getElem?_getD,List.getElem?_eq_getElem h]
  rfl
 ·rw [List.getElem?_eq_none (by rw [J5];exact h),List.getElem?_eq_none h]
theorem QlB {a:List Int} {i:Nat} (h:a.length≤2*i+1) (h2:i≤a.length):YN a i=a.reverse:=by
 refine List.ext_getElem? fun j=> ?_
 rcases Nat.lt_or_ge j a.length with h3 | h3
 ·rw [Qdm h3,List.getElem?_reverse h3,List.getElem?_eq_getElem (by omega)]
  split
  ·rw [List.getD_eq_getElem?_getD,List.getElem?_eq_getElem (by omega)];rfl
  ·have e:a.length - 1 - j=j:=by omega
   rw [List.getD_eq_getElem?_getD,List.getElem?_eq_getElem h3]
   simp only [Option.getD_some,e]
 ·rw [List.getElem?_eq_none (by rw [J5];exact h3),List.getElem?_eq_none (by simpa using h3)]
theorem QkG {a:List Int} {i k:Nat} {x y:Int} (hk:k=a.length - 1 - i) (hi:i<k) (hx:(YN a i)[k]? =some x) (hy:(YN a i)[i]? =some y):((YN a i).set i x).set k y=YN a (i+1):=by
 subst hk
 rw [Qdm (by omega),if_neg (by omega)] at hx hy
 obtain rfl:=Option.some.inj hx
 obtain rfl:=Option.some.inj hy
 refine List.ext_getElem? fun j=> ?_
 rcases Nat.lt_or_ge j a.length with h | h
 ·rw [Qdm h,List.getElem?_set,List.getElem?_set,List.length_set,J5,Qdm h]
  by_cases e1:a.length - 1 - i=j
  ·rw [if_pos e1,if_pos (by omega),if_pos (by omega)]
   congr 2
   omega
  ·rw [if_neg e1]
   by_cases e2:i=j
   ·rw [if_pos e2,if_pos (by omega),if_pos (by omega),e2]
   ·rw [if_neg e2]
    by_cases e3:j<i∨a.length≤j+i
    ·rw [if_pos e3,if_pos (by omega)]
    ·rw [if_neg e3,if_neg (by omega)]
 ·rw [List.getElem?_eq_none (by rw [List.length_set,List.length_set,J5];exact h),List.getElem?_eq_none (by rw [J5];exact h)]
end
theorem JS (n:Nat) (a:List Int) (ha:a.length≤YG):Mut (Qs Tryz.prog (n+1)) 195 1 (a.map (QW true)) [] none (a.reverse.map (QW true)):=by
 refine Mut.intro (rt:=0) Tryz.func195 Y Y Y (by kernel_rfl) (Yb (fun _=>rfl) _) (Yb (fun _=>rfl) _) (E0:= []) Y ?_
 obtain ⟨hlim,hmx,hmax⟩:=QG
 refine sr (mO (T.os 1 0 0 ((a.map (QW true)).length)) Y (lO (B.lenO (m:=a.length) (tv (T.os 1 0 0 ((a.map (QW true)).length)) Y) Qd2 (List.length_map ..)) (fO (B.sub (n:=(((a.length:Nat):Int) - 1)) (tv (tN a.length) Y) (VEv.int .i64 1) (by (rw [Qx (by omega)];done))) (fO (OF.assign (VEv.int .i64 0)) (aO (tI (((a.length:Nat):Int) - 1)) Y (nt (VRun.block ?_)))))))
 have he1:a=YN a 0:=by exact (QkR a).symm
 refine VRun.loop (A:=Nat) (fun s_=> [(0,(T.os 1 0 0 (((YN a s_).map (QW true)).length))),(2,(tN s_)),(3,(tI ((a.length:Int) - 1 - s_)))]) (fun s_=>QY [(0,(Obj.rows 1 ((YN a s_).map (QW true))))]) 1 (fun s_=>2*s_≤a.length+1∧s_≤a.length) (fun s_=>a.length - s_) (0:Nat) ?_ (Wk.mk (fun k=>k) ?_ ?_ ?_) ?_
 ·(simp;done)
 ·exact (bc ⟨(congrArg (fun l_=>T.os 1 0 0 (List.map (QW true) l_).length) he1),rfl⟩ (b2 (bc ⟨(congrArg (T.int .i64) (show (((a.length:Nat):Int) - 1)=(a.length:Int) - 1 - 0 from (by omega))),rfl⟩ bn)))
 ·exact (bc ⟨(congrArg (fun l_=>some (Obj.rows 1 (List.map (QW true) l_))) he1),(lb Y),rfl⟩ bn)
 ·exact nd Y
 rintro i (hI':2*i≤a.length+1∧i≤a.length)
 show VRun _ _ _ [(0,(T.os 1 0 0 (((YN a i).map (QW true)).length))),(2,(tN i)),(3,(tI ((a.length:Int) - 1 - i)))] (QY [(0,(Obj.rows 1 ((YN a i).map (QW true))))]) 1 _
 have hml:=J5 a i
 have hI1:=hI'.1
 have hI2:=hI'.2
 refine sq (sr (mO (tN i) Y (mO (tI ((a.length:Int) - 1 - i)) Y (fO (xls (tv (tN i) Y) (tv (tI ((a.length:Int) - 1 - i)) Y)) (nt ?_)))))
 refine cd (((i:Nat):Int)<(a.length:Int) - 1 - i) Y (fun fhc0=> ?_) fun fhc0=> ?_
 ·refine sk ?_
  refine tn (sq (VRun.block (VRun.draw (B:= [[],[],[],[],[],[],[5,4],[4,5,6],[],[],[9,8],[8,9,10],[10,9,8,11,7,6,5,4,1,0],[0,1,4,5,6,7,11,8,9,10,12],[13,12,11,10,9,8,7,6,5,4,1,0,3,2],[2,3,0,1,4,5,6,7,8,9,10,11,12,13,14]]) (by kernel_rfl) (by kernel_rfl) (mD (T.os 1 0 0 (((YN a i).map (QW true)).length)) Y Y (mD (tN i) Y Y (mD (T.os 1 0 0 (((YN a i).map (QW true)).length)) Y Y (mD (tI ((a.length:Int) - 1 - i)) Y Y (mD (T.os 1 0 0 (((YN a i).map (QW true)).length)) Y Y (mD (tI ((a.length:Int) - 1 - i)) Y Y ?_)))))))))
  obtain ⟨x1,hx1⟩:∃x,(YN a i)[(Int.toNat ((a.length:Int) - 1 - i))]? =some x:=⟨_,List.getElem?_eq_getElem (by omega)⟩
  refine fD (B.indexAddrO (i:=(Int.toNat ((a.length:Int) - 1 - i))) (tv (T.os 1 0 0 (((YN a i).map (QW true)).length)) Y) (tv (tI ((a.length:Int) - 1 - i)) Y) (by omega) (by (simp only [List.length_map];omega)) Qd2 sz5 if5) Y Y (lD (OL.loadP1 (t:=(T.int .u8 x1)) (row:=(QW true x1)) (tv (T.orp 1 0 (Int.toNat ((a.length:Int) - 1 - i)) 0) Y) Y (Qt _ hx1) Y Y st5) Y Y (mD (T.os 1 0 0 (((YN a i).map (QW true)).length)) Y Y (mD (tN i) Y Y ?_)))
  obtain ⟨x2,hx2⟩:∃x,(YN a i)[i]? =some x:=⟨_,List.getElem?_eq_getElem (by omega)⟩
  refine fD (B.indexAddrO (i:=i) (tv (T.os 1 0 0 (((YN a i).map (QW true)).length)) Y) (tv (tN i) Y) Y (by (simp only [List.length_map];omega)) Qd2 sz5 if5) Y Y (lD (OL.loadP1 (t:=(T.int .u8 x2)) (row:=(QW true x2)) (tv (T.orp 1 0 i 0) Y) Y (Qt _ hx2) Y Y st5) Y Y (fD (B.indexAddrO (i:=i) (tv (T.os 1 0 0 (((YN a i).map (QW true)).length)) Y) (tv (tN i) Y) Y (by (simp only [List.length_map];omega)) Qd2 sz5 if5) Y Y (VRunD.chain (bi:= [0,1,4,5,6,7,11,8,9,10,12]) Y VWant.always Y Y Y (by kernel_rfl) (B.storeP (us:= [(T.int .u8 x1)]) (rows':=(((YN a i).set i x1).map (QW true))) (row:=(QW true x2)) (tv (T.orp 1 0 i 0) Y) (tv (T.int .u8 x1) Y) nofun Y (Qt _ hx2) Y (lb Y) if5 sz5 (bc Y bn) (by intro r hr t ht;obtain ⟨x,_,rfl⟩:=List.mem_map.1 hr;rw [Ql2] at ht;exact ZV (okByte.pl _ t ht)) (Ze Y)) ?_)))
  obtain ⟨x3,hx3⟩:∃x,((YN a i).set i x1)[(Int.toNat ((a.length:Int) - 1 - i))]? =some x:=⟨_,List.getElem?_eq_getElem (by (simp only [List.length_set];omega))⟩
  refine fD (B.indexAddrO (i:=(Int.toNat ((a.length:Int) - 1 - i))) (tv (T.os 1 0 0 (((YN a i).map (QW true)).length)) Y) (tv (tI ((a.length:Int) - 1 - i)) Y) (by omega) (by (simp only [List.length_map];omega)) Qd2 sz5 if5) Y Y (VRunD.chain (bi:= [2,3,0,1,4,5,6,7,8,9,10,11,12,13,14]) Y VWant.always Y Y Y (by kernel_rfl) (B.storeP (us:= [(T.int .u8 x2)]) (rows':=((((YN a i).set i x1).set (Int.toNat ((a.length:Int) - 1 - i)) x2).map (QW true))) (row:=(QW true x3)) (tv (T.orp 1 0 (Int.toNat ((a.length:Int) - 1 - i)) 0) Y) (tv (T.int .u8 x2) Y) nofun Y (Qt _ hx3) Y (lb Y) if5 sz5 (bc Y bn) (by intro r hr t ht;obtain ⟨x,_,rfl⟩:=List.mem_map.1 hr;rw [Ql2] at ht;exact ZV (okByte.pl _ t ht)) (Ze Y)) (VRunD.nil (vinB.n (tn (VRun.region (mO (tN i) Y (fO (Qy (tv (tN i) Y) (VEv.int .i64 1) (by omega)) (mO (tI ((a.length:Int) - 1 - i)) Y (fO (B.sub (n:=((a.length:Int) - 1 - i - 1)) (tv (tI ((a.length:Int) - 1 - i)) Y) (VEv.int .i64 1) (by (rw [Qx (by omega)];done))) (aO (tN (i+1)) Y (aO (tI ((a.length:Int) - 1 - i - 1)) Y ?_)))))))))))
  refine VRunO.nil (tn ?_)
  have hml2:=J5 a (i+1)
  have he2:(((YN a i).set i x1).set (Int.toNat ((a.length:Int) - 1 - i)) x2)=YN a (i+1):=by (refine QkG ?_ ?_ hx1 hx2<;>omega)
  refine ⟨(i+1:Nat),?_,?_,Wk.mk (fun k=>k) ?_ ?_ ?_⟩
  ·omega
  ·omega
  ·exact (bc ⟨(congrArg (fun n_=>T.os 1 0 0 n_) (show ((YN a i).map (QW true)).length=((YN a (i+1)).map (QW true)).length from (by rw [List.length_map,List.length_map,hml,hml2]))),rfl⟩ (b2 (bc ⟨(congrArg (T.int .i64) (show ((a.length:Int) - 1 - i - 1)=(a.length:Int) - 1 - (i+1) from (by omega))),rfl⟩ bn)))
  ·exact (bc ⟨(congrArg (fun l_=>some (Obj.rows 1 (List.map (QW true) l_))) he2),(lb Y),rfl⟩ bn)
  ·exact nd Y
 refine VRun.exit (vthn.e (vthn.e (vinB.e ?_)))
 refine vmut.v (rows:=((YN a i).map (QW true))) Y Y ?_ Y
 ·show List.map _ (YN a i)=List.map _ a.reverse
  refine congrArg (List.map _) ?_
  refine QlB ?_ ?_<;>omega
noncomputable section
def gOk (s:ByteArray) (j:Nat):Prop:=QA s j=35∨QA s j=46
def gridOk (g:D.Grid):Prop:=(2≤g.Rows∧g.Rows≤6)∧(2≤g.Cols∧g.Cols≤6)∧((g.Cells.size:Nat):Int)=g.Rows*g.Cols∧∀j,j<g.Cells.size→gOk g.Cells j
instance (g:D.Grid):Decidable (gridOk g):=Classical.propDecidable _
theorem Qot {a b:Int} (h1:2≤a) (h2:a≤6) (h3:2≤b) (h4:b≤6):4≤a*b∧a*b≤36:=by
 have e1:2*2≤a*b:=Int.mul_le_mul h1 h3 (by decide) (by omega)
 have e2:a*b≤6*6:=Int.mul_le_mul h2 h4 (by omega) (by decide)
 omega
theorem Qox {a b:Int} (h1:2≤a) (h2:a≤6) (h3:2≤b) (h4:b≤6):IntKind.i64.wrap (a*b)=a*b:=by
 have:=Qot h1 h2 h3 h4
 rw [Qx (by omega)]
theorem gridOk.size {g:D.Grid} (h:gridOk g):4≤g.Cells.size∧g.Cells.size≤36:=by
 have:=Qot h.1.1 h.1.2 h.2.1.1 h.2.1.2
 have:=h.2.2.1
 omega
end
theorem Z8 (n:Nat) (g:D.Grid) (hc:g.Cells.size≤maxLen):Pure (Qs Tryz.prog (n+2)) 105 [(T.agg (Qe false g))] (tB (decide (gridOk g))):=by
 refine Pure.intro (rs:= [ResultVar.tmp 2]) Tryz.func105 Y Y Y (E0:= [(0,(T.agg (Qe false g)))]) Y ?_
 obtain ⟨hlim,hmx,hmax⟩:=QG
 refine sr (kO (B.box (ts:=(Qe false g)) (tv (T.agg (Qe false g)) Y) nofun Y) (fO (OF.assign (VEv.bool false)) (nt (sq (sr (lf (tI g.Rows) Y QaK Y Y QQ (cO (cS (vc (tv (tI g.Rows) Y) (vc (VEv.int .i64 2) (vc (VEv.int .i64 6) vn))) (ZO Y) (QT (n+0) g.Rows 2 6) Y Y) (fO (Q1 (tv (tB (decide (2≤g.Rows∧g.Rows≤6))) Y)) (mO (tB (!(decide (2≤g.Rows∧g.Rows≤6)))) Y ?_)))))))))
 refine gn (2≤g.Rows∧g.Rows≤6) (fun fhg8_1=> ?_) fun fhg8_1=> ?_
 ·refine QE 4 4 false 8 (ny fhg8_1) Y Y Y ?_
  refine fO (OF.pickT (VEv.tmpB Y (ny fhg8_1)) (VEv.bool true)) (mO (tB true) Y (QE 9 10 false 14 (b:=true) Y Y Y Y (fO (OF.pickT (tv (tB true) Y) (VEv.bool true)) (nt (ct Y (sr (fO (OF.assign (VEv.bool false)) (nt (rt (tr (vb (b':=false) Y ?_)))))))))))
  (symm;rw [decide_eq_false_iff_not];rintro ⟨g1,g2,g3,g4⟩;omega)
 refine Yx (tI g.Cols) (nz fhg8_1) Y Y Y Y Zx Y Y QQ (VRunO.chain (VWant.on Y Y (nz fhg8_1)) (cS (vc (tv (tI g.Cols) Y) (vc (VEv.int .i64 2) (vc (VEv.int .i64 6) vn))) (ZO Y) (QT (n+0) g.Cols 2 6) Y Y) (gF (nz fhg8_1) Y Y (Q1 (tv (tB (decide (2≤g.Cols∧g.Cols≤6))) Y)) (fO (OF.pickF (VEv.tmpB Y (nz fhg8_1)) (tv (tB (!(decide (2≤g.Cols∧g.Cols≤6)))) Y)) (mO (tB (!(decide (2≤g.Cols∧g.Cols≤6)))) Y ?_))))
 refine gn (2≤g.Cols∧g.Cols≤6) (fun fhg14_2=> ?_) fun fhg14_2=> ?_
 ·refine QE 9 10 false 14 (ny fhg14_2) Y Y Y ?_
  refine fO (OF.pickT (VEv.tmpB Y (ny fhg14_2)) (VEv.bool true)) (nt (ct Y (sr (fO (OF.assign (VEv.bool false)) (nt (rt (tr (vb (b':=false) Y ?_))))))))
  (symm;rw [decide_eq_false_iff_not];rintro ⟨g1,g2,g3,g4⟩;omega)
 refine Yx (tS g.Cells) (nz fhg14_2) Y Y Y Y QN Y Y Yp (gL (nz fhg14_2) Y Y (B.lenS (tv (tS g.Cells) Y) U9) (Yx (tI g.Rows) (nz fhg14_2) Y Y Y Y QaK Y Y QQ (Yx (tI g.Cols) (nz fhg14_2) Y Y Y Y Zx Y Y QQ (gF (nz fhg14_2) Y Y (B.mul (n:=(g.Rows*g.Cols)) (tv (tI g.Rows) Y) (tv (tI g.Cols) Y) (by (refine Qox ?_ ?_ ?_ ?_<;>omega))) (gF (nz fhg14_2) Y Y (xne (tv (tN g.Cells.size) Y) (tv (tI (g.Rows*g.Cols)) Y)) (fO (OF.pickF (VEv.tmpB Y (nz fhg14_2)) (tv (tB (!(decide (((g.Cells.size:Nat):Int)=(g.Rows*g.Cols))))) Y)) (nt ?_)))))))
 refine cn (((g.Cells.size:Nat):Int)=(g.Rows*g.Cols)) Y (fun fhc0=> ?_) fun fhc0=> ?_
 ·refine sr ?_
  refine fO (OF.assign (VEv.bool false)) (nt (rt (tr (vb (b':=false) Y ?_))))
  (symm;rw [decide_eq_false_iff_not];rintro ⟨g1,g2,g3,g4⟩;omega)
 refine sk (tn (sq (sr (fO (OF.assign (VEv.int .i64 0)) (nt (VRun.block ?_))))))
 refine VRun.loop (A:=Nat) (fun s_=> [(1,(T.op 0 0)),(3,(tN s_))]) (fun s_=>QY [(0,(Obj.cells (Qe false g)))]) 1 (fun s_=>s_≤g.Cells.size∧∀j,j<s_→gOk g.Cells j) (fun s_=>g.Cells.size - s_) (0:Nat) ?_ (Wk.mk (fun k=>k) ?_ ?_ ?_) ?_
 ·exact ⟨Nat.zero_le _,fun j hj=>by omega⟩
 ·exact (b2 (b2 bn))
 ·exact (b3 bn)
 ·exact nd Y
 rintro i (hI':i≤g.Cells.size∧∀j,j<i→gOk g.Cells j)
 show VRun _ _ _ [(1,(T.op 0 0)),(3,(tN i))] (QY [(0,(Obj.cells (Qe false g)))]) 1 _
 have hI1:=hI'.1
 refine sq (sr (mO (tN i) Y (lf (tS g.Cells) Y QN Y Y Yp (lO (B.lenS (tv (tS g.Cells) Y) U9) (fO (Zb (tv (tN i) Y) (tv (tN g.Cells.size) Y)) (nt ?_))))))
 refine cd (i<g.Cells.size) Y (fun fhc1=> ?_) fun fhc1=> ?_
 ·refine sk ?_
  refine tn (sq (VRun.block (sr (lf (tS g.Cells) Y QN Y Y Yp (mO (tN i) Y ?_)))))
  have hb3:i<g.Cells.size:=(by omega)
  refine fO (xix (tv (tS g.Cells) Y) (tv (tN i) Y) hb3 U9) (fO (xne (tv (T.int .u8 (QA g.Cells i)) Y) (VEv.int .u8 35)) (mO (tB (!(decide (QA g.Cells i=35)))) Y ?_))
  refine gn (QA g.Cells i=35) (fun fhg37_4=> ?_) fun fhg37_4=> ?_
  ·refine Yx (tS g.Cells) (ny fhg37_4) Y Y Y Y QN Y Y Yp ?_
   refine gF (ny fhg37_4) Y Y (OF.move (tv (tN i) Y)) ?_
   have hb5:i<g.Cells.size:=(by omega)
   refine gF (ny fhg37_4) Y Y (xix (tv (tS g.Cells) Y) (tv (tN i) Y) hb5 U9) (gF (ny fhg37_4) Y Y (xne (tv (T.int .u8 (QA g.Cells i)) Y) (VEv.int .u8 46)) (fO (OF.pickT (VEv.tmpB Y (ny fhg37_4)) (tv (tB (!(decide (QA g.Cells i=46)))) Y)) (nt ?_)))
   refine cn (QA g.Cells i=46) Y (fun fhc2=> ?_) fun fhc2=> ?_
   ·refine sr ?_
    refine fO (OF.assign (VEv.bool false)) (nt (rt (vinB.r (tr (tr (vinB.r (tr (vb (b':=false) Y ?_))))))))
    (symm;rw [decide_eq_false_iff_not];rintro ⟨g1,g2,g3,g4⟩;(have:=g4 i fhc1;unfold gOk at this;omega))
   refine sk (vinB.n (tn (VRun.region (mO (tN i) Y (fO (Qy (tv (tN i) Y) (VEv.int .i64 1) (by omega)) (aO (tN (i+1)) Y (VRunO.nil (tn ?_))))))))
   refine ⟨(i+1:Nat),?_,?_,Wk.mk (fun k=>k) ?_ ?_ ?_⟩
   ·refine QZ hI' fhc1 ?_;unfold gOk;omega
   ·omega
   ·exact (b2 (b2 bn))
   ·exact (b3 bn)
   ·exact nd Y
  refine QE 5 5 true 37 (nz fhg37_4) Y Y Y (fO (OF.pickF (VEv.tmpB Y (nz fhg37_4)) (VEv.bool false)) (nt (cf Y (sk (vinB.n (tn (VRun.region (mO (tN i) Y (fO (Qy (tv (tN i) Y) (VEv.int .i64 1) (by omega)) (aO (tN (i+1)) Y (VRunO.nil ?_)))))))))))
  refine tn ?_
  refine ⟨(i+1:Nat),?_,?_,Wk.mk (fun k=>k) ?_ ?_ ?_⟩
  ·refine QZ hI' fhc1 ?_;unfold gOk;omega
  ·omega
  ·exact (b2 (b2 bn))
  ·exact (b3 bn)
  ·exact nd Y
 refine VRun.exit (vthn.e (vthn.e (vinB.e (tn (sr (fO (OF.assign (VEv.bool true)) (nt (rt (vb (b':=true) Y ?_)))))))))
 (symm;rw [decide_eq_true_eq];refine ⟨?_,?_,?_,ZY hI' fhc1⟩<;>assumption)
theorem Yr (n:Nat) (g:D.Grid) (hc:g.Cells.size≤maxLen):Pure (Qs Tryz.prog (n+2)) 111 [(T.agg (Qe false g))] (tB (decide (gridOk g))):=by
 refine Pure.intro (rs:= [ResultVar.tmp 2]) Tryz.func111 Y Y Y (E0:= [(0,(T.agg (Qe false g)))]) Y ?_
 obtain ⟨hlim,hmx,hmax⟩:=QG
 refine sr (kO (B.box (ts:=(Qe false g)) (tv (T.agg (Qe false g)) Y) nofun Y) (fO (OF.assign (VEv.bool false)) (nt (sq (sr (lf (tI g.Rows) Y QaK Y Y QQ (cO (cS (vc (tv (tI g.Rows) Y) (vc (VEv.int .i64 2) (vc (VEv.int .i64 6) vn))) (ZO Y) (Zc (n+0) g.Rows 2 6) Y Y) (fO (Q1 (tv (tB (decide (2≤g.Rows∧g.Rows≤6))) Y)) (mO (tB (!(decide (2≤g.Rows∧g.Rows≤6)))) Y ?_)))))))))
 refine gn (2≤g.Rows∧g.Rows≤6) (fun fhg8_1=> ?_) fun fhg8_1=> ?_
 ·refine QE 4 4 false 8 (ny fhg8_1) Y Y Y ?_
  refine fO (OF.pickT (VEv.tmpB Y (ny fhg8_1)) (VEv.bool true)) (mO (tB true) Y (QE 9 10 false 14 (b:=true) Y Y Y Y (fO (OF.pickT (tv (tB true) Y) (VEv.bool true)) (nt (ct Y (sr (fO (OF.assign (VEv.bool false)) (nt (rt (tr (vb (b':=false) Y ?_)))))))))))
  (symm;rw [decide_eq_false_iff_not];rintro ⟨g1,g2,g3,g4⟩;omega)
 refine Yx (tI g.Cols) (nz fhg8_1) Y Y Y Y Zx Y Y QQ (VRunO.chain (VWant.on Y Y (nz fhg8_1)) (cS (vc (tv (tI g.Cols) Y) (vc (VEv.int .i64 2) (vc (VEv.int .i64 6) vn))) (ZO Y) (Zc (n+0) g.Cols 2 6) Y Y) (gF (nz fhg8_1) Y Y (Q1 (tv (tB (decide (2≤g.Cols∧g.Cols≤6))) Y)) (fO (OF.pickF (VEv.tmpB Y (nz fhg8_1)) (tv (tB (!(decide (2≤g.Cols∧g.Cols≤6)))) Y)) (mO (tB (!(decide (2≤g.Cols∧g.Cols≤6)))) Y ?_))))
 refine gn (2≤g.Cols∧g.Cols≤6) (fun fhg14_2=> ?_) fun fhg14_2=> ?_
 ·refine QE 9 10 false 14 (ny fhg14_2) Y Y Y ?_
  refine fO (OF.pickT (VEv.tmpB Y (ny fhg14_2)) (VEv.bool true)) (nt (ct Y (sr (fO (OF.assign (VEv.bool false)) (nt (rt (tr (vb (b':=false) Y ?_))))))))
  (symm;rw [decide_eq_false_iff_not];rintro ⟨g1,g2,g3,g4⟩;omega)
 refine Yx (tS g.Cells) (nz fhg14_2) Y Y Y Y QN Y Y Yp (gL (nz fhg14_2) Y Y (B.lenS (tv (tS g.Cells) Y) U9) (Yx (tI g.Rows) (nz fhg14_2) Y Y Y Y QaK Y Y QQ (Yx (tI g.Cols) (nz fhg14_2) Y Y Y Y Zx Y Y QQ (gF (nz fhg14_2) Y Y (B.mul (n:=(g.Rows*g.Cols)) (tv (tI g.Rows) Y) (tv (tI g.Cols) Y) (by (refine Qox ?_ ?_ ?_ ?_<;>omega))) (gF (nz fhg14_2) Y Y (xne (tv (tN g.Cells.size) Y) (tv (tI (g.Rows*g.Cols)) Y)) (fO (OF.pickF (VEv.tmpB Y (nz fhg14_2)) (tv (tB (!(decide (((g.Cells.size:Nat):Int)=(g.Rows*g.Cols))))) Y)) (nt ?_)))))))
 refine cn (((g.Cells.size:Nat):Int)=(g.Rows*g.Cols)) Y (fun fhc0=> ?_) fun fhc0=> ?_
 ·refine sr ?_
  refine fO (OF.assign (VEv.bool false)) (nt (rt (tr (vb (b':=false) Y ?_))))
  (symm;rw [decide_eq_false_iff_not];rintro ⟨g1,g2,g3,g4⟩;omega)
 refine sk (tn (sq (sr (lf (tS g.Cells) Y QN Y Y Yp (lO (B.lenS (tv (tS g.Cells) Y) U9) (fO (OF.move (VEv.int .i64 0)) (nt (VRun.block ?_))))))))
 refine VRun.loop (A:=Nat) (fun s_=> [(1,(T.op 0 0)),(27,(tN g.Cells.size)),(28,(tN s_))]) (fun s_=>QY [(0,(Obj.cells (Qe false g)))]) 1 (fun s_=>s_≤g.Cells.size∧∀j,j<s_→gOk g.Cells j) (fun s_=>g.Cells.size - s_) (0:Nat) ?_ (Wk.mk (fun k=>k) ?_ ?_ ?_) ?_
 ·exact ⟨Nat.zero_le _,fun j hj=>by omega⟩
 ·exact (b2 (b2 (b2 bn)))
 ·exact (b3 bn)
 ·exact nd Y
 rintro i (hI':i≤g.Cells.size∧∀j,j<i→gOk g.Cells j)
 show VRun _ _ _ [(1,(T.op 0 0)),(27,(tN g.Cells.size)),(28,(tN i))] (QY [(0,(Obj.cells (Qe false g)))]) 1 _
 have hI1:=hI'.1
 refine sr (fO (Zb (tv (tN i) Y) (tv (tN g.Cells.size) Y)) (nt (sq ?_)))
 refine cd (i<g.Cells.size) Y (fun fhc1=> ?_) fun fhc1=> ?_
 ·refine sk ?_
  refine tn (sq (VRun.block (sr (mO (tN i) Y (aO (tN i) Y (nt (sr (lf (tS g.Cells) Y QN Y Y Yp (mO (tN i) Y ?_)))))))))
  have hb3:i<g.Cells.size:=(by omega)
  refine fO (xix (tv (tS g.Cells) Y) (tv (tN i) Y) hb3 U9) (fO (xne (tv (T.int .u8 (QA g.Cells i)) Y) (VEv.int .u8 35)) (mO (tB (!(decide (QA g.Cells i=35)))) Y ?_))
  refine gn (QA g.Cells i=35) (fun fhg36_4=> ?_) fun fhg36_4=> ?_
  ·refine Yx (tS g.Cells) (ny fhg36_4) Y Y Y Y QN Y Y Yp ?_
   refine gF (ny fhg36_4) Y Y (OF.move (tv (tN i) Y)) ?_
   have hb5:i<g.Cells.size:=(by omega)
   refine gF (ny fhg36_4) Y Y (xix (tv (tS g.Cells) Y) (tv (tN i) Y) hb5 U9) (gF (ny fhg36_4) Y Y (xne (tv (T.int .u8 (QA g.Cells i)) Y) (VEv.int .u8 46)) (fO (OF.pickT (VEv.tmpB Y (ny fhg36_4)) (tv (tB (!(decide (QA g.Cells i=46)))) Y)) (nt ?_)))
   refine cn (QA g.Cells i=46) Y (fun fhc2=> ?_) fun fhc2=> ?_
   ·refine sr ?_
    refine fO (OF.assign (VEv.bool false)) (nt (rt (vinB.r (tr (tr (vinB.r (tr (vb (b':=false) Y ?_))))))))
    (symm;rw [decide_eq_false_iff_not];rintro ⟨g1,g2,g3,g4⟩;(have:=g4 i fhc1;unfold gOk at this;omega))
   refine sk (vinB.n (tn (VRun.region (fO (Qy (tv (tN i) Y) (VEv.int .i64 1) (by omega)) (mO (tN (i+1)) Y (VRunO.nil (tn ?_)))))))
   refine ⟨(i+1:Nat),?_,?_,Wk.mk (fun k=>k) ?_ ?_ ?_⟩
   ·refine QZ hI' fhc1 ?_;unfold gOk;omega
   ·omega
   ·exact (b2 (b2 (b2 bn)))
   ·exact (b3 bn)
   ·exact nd Y
  refine QE 5 5 true 36 (nz fhg36_4) Y Y Y (fO (OF.pickF (VEv.tmpB Y (nz fhg36_4)) (VEv.bool false)) (nt (cf Y (sk (vinB.n (tn (VRun.region (fO (Qy (tv (tN i) Y) (VEv.int .i64 1) (by omega)) (mO (tN (i+1)) Y (VRunO.nil (tn ?_)))))))))))
  refine ⟨(i+1:Nat),?_,?_,Wk.mk (fun k=>k) ?_ ?_ ?_⟩
  ·refine QZ hI' fhc1 ?_;unfold gOk;omega
  ·omega
  ·exact (b2 (b2 (b2 bn)))
  ·exact (b3 bn)
  ·exact nd Y
 refine VRun.exit (vthn.e (vthn.e (vinB.e (tn (sr (fO (OF.assign (VEv.bool true)) (nt (rt (vb (b':=true) Y ?_)))))))))
 (symm;rw [decide_eq_true_eq];refine ⟨?_,?_,?_,ZY hI' fhc1⟩<;>assumption)
noncomputable section
def ZX (s:ByteArray):Nat→ByteArray
 | 0=>⟨#[]⟩
 | i+1=>s.extract i (i+1)++ZX s i
def back (s:ByteArray):ByteArray:=if s.size≤100 then ZX s s.size else ⟨#[]⟩
theorem Qet {s:ByteArray}:∀ {i:Nat},i≤s.size→(ZX s i).size=i
 | 0,_=>rfl
 | i+1,h=>by
  simp only [ZX,ByteArray.size_append,ByteArray.size_extract,Qet (show i≤s.size by omega)]
  omega
theorem Qib {s:ByteArray} {i:Nat} (h1:i≤s.size) (h2:s.size≤100∨i=0) (h3:¬i<s.size∨¬s.size≤100):ZX s i=back s:=by
 unfold back
 split
 ·rw [show i=s.size by omega]
 ·rw [show i=0 by omega];rfl
def Jp (g:D.Grid):D.Grid:=if gridOk g then D.Grid.mk g.Rows g.Cols (back g.Cells) else D.Grid.mk 0 0 ByteArray.empty
def QeU (g:D.Grid):Prop:=gridOk g∧D.Grid.mk g.Rows g.Cols (back g.Cells)=g
instance (g:D.Grid):Decidable (QeU g):=Classical.propDecidable _
theorem Qd6 {g:D.Grid} (h:gridOk g):Jp g=g↔QeU g:=by
 unfold Jp QeU
 rw [if_pos h]
 exact ⟨fun e=>⟨h,e⟩,fun e=>e.2⟩
end
theorem Qd9 (n:Nat) (s:ByteArray) (hc:s.size≤maxLen):Pure (Qs Tryz.prog (n+1)) 181 [(tS s)] (tS (back s)):=by
 refine Pure.intro (rs:= [ResultVar.tmp 2]) Tryz.func181 Y Y Y (E0:= [(0,(tS s))]) Y ?_
 obtain ⟨hlim,hmx,hmax⟩:=QG
 refine sr (fO (OF.assign (VEv.str (⟨#[]⟩:ByteArray))) (nt (sr (fO (OF.assign (VEv.str (⟨#[]⟩:ByteArray))) (nt (sq (sr (fO (OF.assign (VEv.int .i64 0)) (nt (VRun.block ?_))))))))))
 refine VRun.loop (A:=Nat) (fun s_=> [(0,(tS s)),(2,(tS (⟨#[]⟩:ByteArray))),(3,(tS (ZX s s_))),(4,(tN s_))]) (fun s_=>QY []) 0 (fun s_=>s_≤s.size∧(s.size≤100∨s_=0)) (fun s_=>s.size - s_) (0:Nat) ?_ (Wk.mk (fun k=>k) ?_ ?_ ?_) ?_
 ·exact ⟨Nat.zero_le _, .inr Y⟩
 ·exact (b2 (b2 (bc ⟨(congrArg T.str (show (⟨#[]⟩:ByteArray)=ZX s 0 from (by rfl))),rfl⟩ (b2 bn))))
 ·exact bn
 ·exact nd Y
 rintro i (hI':i≤s.size∧(s.size≤100∨i=0))
 show VRun _ _ _ [(0,(tS s)),(2,(tS (⟨#[]⟩:ByteArray))),(3,(tS (ZX s i))),(4,(tN i))] (QY []) 0 _
 have hI1:=hI'.1
 have hbs:=Qet hI1
 refine sq (sr (mO (tN i) Y (mO (tS s) Y (lO (B.lenS (tv (tS s) Y) U9) (fO (Zb (tv (tN i) Y) (tv (tN s.size) Y)) (mO (tB (decide (i<s.size))) Y ?_))))))
 refine gw (i<s.size) (fun fhg9_1=> ?_) fun fhg9_1=> ?_
 ·refine gF (dy fhg9_1) Y Y (OF.move (tv (tS s) Y)) ?_
  refine gL (dy fhg9_1) Y Y (B.lenS (tv (tS s) Y) U9) (gF (dy fhg9_1) Y Y (B.leq (c:=(decide (s.size≤100))) (tv (tN s.size) Y) (VEv.int .i64 100) (by exact Q6 (by omega))) (fO (OF.pickT (VEv.tmpB Y (dy fhg9_1)) (tv (tB (decide (s.size≤100))) Y)) (nt ?_)))
  refine cd (s.size≤100) Y (fun fhc0=> ?_) fun fhc0=> ?_
  ·refine sk ?_
   refine tn (sq (VRun.block (VRun.region (mO (tS s) Y (mO (tN i) Y (mO (tN i) Y (fO (Qy (tv (tN i) Y) (VEv.int .i64 1) (by omega)) (lO (OL.sliceS (i:=i) (j:=(i+1)) (tv (tS s) Y) (tv (tN i) Y) (tv (tN (i+1)) Y) Y Y (by omega) (by omega) U9) (mO (tS (ZX s i)) Y (fO (B.sadd (tv (tS (s.extract i (i+1))) Y) (tv (tS (ZX s i)) Y) (by (simp only [ByteArray.size_extract];omega))) (aO (tS ((s.extract i (i+1))++ZX s i)) Y ?_)))))))))))
   refine VRunO.nil (vinB.n (tn (VRun.region (mO (tN i) Y (fO (Qy (tv (tN i) Y) (VEv.int .i64 1) (by omega)) (aO (tN (i+1)) Y (VRunO.nil (tn ?_))))))))
   refine ⟨(i+1:Nat),?_,?_,Wk.mk (fun k=>k) ?_ ?_ ?_⟩
   ·exact ⟨by omega, .inl (by omega)⟩
   ·omega
   ·exact (b2 (b2 (bc ⟨(congrArg T.str (show ((s.extract i (i+1))++ZX s i)=ZX s (i+1) from (by rfl))),rfl⟩ (b2 bn))))
   ·exact bn
   ·exact nd Y
  refine VRun.exit (vthn.e (vthn.e (vinB.e (tn (sr (mO (tS (ZX s i)) Y (aO (tS (ZX s i)) Y (nt (rt ?_)))))))))
  refine vfin.eq (r':=(tS (ZX s i))) ?_ (vfin.r (VRes.tmp (t:=(tS (ZX s i))) Y VRes.nil) (Give.str _))
  refine congrArg T.str ?_
  refine Qib hI1 hI'.2 ?_;omega
 refine QE 3 4 true 9 (dz fhg9_1) Y Y Y (fO (OF.pickF (VEv.tmpB Y (dz fhg9_1)) (VEv.bool false)) (nt (cf Y (VRun.exit (vthn.e (vthn.e (vinB.e (tn (sr (mO (tS (ZX s i)) Y (aO (tS (ZX s i)) Y ?_)))))))))))
 refine nt (rt ?_)
 refine vfin.eq (r':=(tS (ZX s i))) ?_ (vfin.r (VRes.tmp (t:=(tS (ZX s i))) Y VRes.nil) (Give.str _))
 refine congrArg T.str ?_
 refine Qib hI1 hI'.2 ?_;omega
theorem QeS (n:Nat) (g:D.Grid) (hc:g.Cells.size≤maxLen):Pure (Qs Tryz.prog (n+3)) 156 [(T.agg (Qe false g))] (T.agg (Qe true (Jp g))):=by
 refine Pure.intro (rs:= [ResultVar.cell 2 34]) Tryz.func156 Y Y Y (E0:= [(0,(T.agg (Qe false g)))]) Y ?_
 obtain ⟨hlim,hmx,hmax⟩:=QG
 refine sr (kO (B.box (ts:=(Qe false g)) (tv (T.agg (Qe false g)) Y) nofun Y) (kO (B.alloc (t:=(T.agg [(tN 0),(tN 0),(tS ByteArray.empty)])) (ts:= [(tN 0),(tN 0),(tS ByteArray.empty)]) Qkr QmJ nofun (fun _=> .agg _ _ Y (Yf (RL.cons (.int _ _) (RL.cons (.int _ _) (RL.cons (.str _) (RL.nil _)))))) Y) (nt (sq (sr (lO (OL.loadOn (us:=(Qe false g)) (tv (T.op 0 0) Y) Y Q4 QX (lb Y) Y) (cO (cS (vc (tv (T.agg (Qe false g)) Y) vn) (LendL.cons (lg Qw) ln) (Z8 (n+0) g (by assumption)) Y Y) (fO (Q1 (tv (tB (decide (gridOk g))) Y)) (nt ?_)))))))))
 refine cn (gridOk g) Y (fun fhc0=> ?_) fun fhc0=> ?_
 ·refine sr ?_
  refine fO (OF.build (l:= []) (zs:= [(tN 0),(tN 0),(tS ByteArray.empty)]) (out:= [(tN 0),(tN 0),(tS ByteArray.empty)]) VEvp.nil bn Tryz.underlying34 Qkr (fun _=>RL.cons (.int _ _) (RL.cons (.int _ _) (RL.cons (.str _) (RL.nil _)))) (by kernel_rfl) (by kernel_rfl)) (cO (B.storeW (us:= [(tN 0),(tN 0),(tS ByteArray.empty)]) (tv (T.op 1 0) Y) (tv (T.agg [(tN 0),(tN 0),(tS ByteArray.empty)]) Y) nofun Y Y Y Qi7 QX (bc Y (bc Y (bc Y bn)))) (nt (rt (tr ?_))))
  refine vfin.eq (r':=(T.agg [(tN 0),(tN 0),(tS ByteArray.empty)])) ?_ (vfin.r (VRes.celln (ws:= [(tN 0),(tN 0),(tS ByteArray.empty)]) Y Y Q4 QX (lb Y) Y VRes.nil) (Give.agg (GiveL.cons (Give.int _ _) (GiveL.cons (Give.int _ _) (GiveL.cons (Give.str _) GiveL.nil (by decide)) (by decide)) (by decide))))
  (rw [Jp,if_neg fhc0];rfl)
 refine sk (tn (sr (lf (tS g.Cells) Y QN Y Y Yp (cO (cS (vc (tv (tS g.Cells) Y) vn) (ZO Y) (Qd9 (n+1) g.Cells (by assumption)) Y Y) (fO (OF.fieldAddrO (tv (T.op 0 0) Y) QN) (cO (B.storeO (us:= [(tS (back g.Cells))]) (ws:= [(tI g.Rows),(tI g.Cols),(tS (back g.Cells))]) (tv (T.op 0 2) Y) (tv (tS (back g.Cells)) Y) nofun Y Y (lb Y) if9 sz9 (bc Y bn) Y) (nt (sr (lO (OL.loadOn (us:= [(tI g.Rows),(tI g.Cols),(tS (back g.Cells))]) (tv (T.op 0 0) Y) Y Q4 QX (lb Y) Y) (cO (B.storeW (us:= [(tI g.Rows),(tI g.Cols),(tS (back g.Cells))]) (tv (T.op 1 0) Y) (tv (T.agg [(tI g.Rows),(tI g.Cols),(tS (back g.Cells))]) Y) nofun Y Y Y Qi7 QX (bc Y (bc Y (bc Y bn)))) (nt ?_)))))))))))
 refine rt ?_
 refine vfin.eq (r':=(T.agg [(tI g.Rows),(tI g.Cols),(tS (back g.Cells))])) ?_ (vfin.r (VRes.celln (ws:= [(tI g.Rows),(tI g.Cols),(tS (back g.Cells))]) Y Y Q4 QX (lb Y) Y VRes.nil) (Give.agg (GiveL.cons (Give.int _ _) (GiveL.cons (Give.int _ _) (GiveL.cons (Give.str _) GiveL.nil (by decide)) (by decide)) (by decide))))
 (rw [Jp,if_pos fhc0];rfl)
theorem QcX (n:Nat) (g:D.Grid) (hc:g.Cells.size≤maxLen):Pure (Qs Tryz.prog (n+4)) 132 [(T.agg (Qe false g))] (tB (decide (QeU g))):=by
 refine Pure.intro (rs:= [ResultVar.tmp 2]) Tryz.func132 Y Y Y (E0:= [(0,(T.agg (Qe false g)))]) Y ?_
 obtain ⟨hlim,hmx,hmax⟩:=QG
 refine sr (kO (B.box (ts:=(Qe false g)) (tv (T.agg (Qe false g)) Y) nofun Y) (fO (OF.assign (VEv.bool false)) (nt (sq (VRun.draw (B:= [[],[0],[0,1],[1,0,2],[2,0,1,3],[1,0,2],[5,3,1,0,2,4],[4,3,5,6,1,0,2],[2,0,1,6,5,3,4,7]]) (by kernel_rfl) (by kernel_rfl) (lD (OL.loadOn (us:=(Qe false g)) (tv (T.op 0 0) Y) Y Q4 QX (lb Y) Y) Y Y (VRunD.quiet (bi:= [0]) Y VWant.always Y Y Y bn (cS (vc (tv (T.agg (Qe false g)) Y) vn) (LendL.cons (lg Qw) ln) (Z8 (n+1) g (by assumption)) Y Y) (mD (tB (decide (gridOk g))) Y Y ?_))))))))
 refine gw (gridOk g) (fun fhg5_1=> ?_) fun fhg5_1=> ?_
 ·refine VRunD.look Y (VWant.on Y Y (dy fhg5_1)) Y (OL.loadOn (us:=(Qe false g)) (tv (T.op 0 0) Y) Y Q4 QX (lb Y) Y) ?_
  refine VRunD.quiet (bi:= [2,0,1,3]) Y (VWant.on Y Y (dy fhg5_1)) Y Y Y bn (cS (vc (tv (T.agg (Qe false g)) Y) vn) (LendL.cons (lg Qw) ln) (QeS (n+0) g (by assumption)) Y Y) (VRunD.look Y (VWant.on Y Y (dy fhg5_1)) Y (OL.loadOn (us:=(Qe false g)) (tv (T.op 0 0) Y) Y Q4 QX (lb Y) Y) (VRunD.free Y (VWant.on Y Y (dy fhg5_1)) Y (B.eql34 (a:=Jp g) (b:=g) (m:=true) (m':=false) (tv (T.agg (Qe true (Jp g))) Y) (tv (T.agg (Qe false g)) Y)) (fD (OF.pickT (VEv.tmpB Y (dy fhg5_1)) (tv (tB (decide (Jp g=g))) Y)) Y Y (fD (OF.assign (tv (tB (decide (Jp g=g))) Y)) Y Y (VRunD.nil (tn (rt (vb (b':=(decide (Jp g=g))) Y ?_))))))))
  (refine Q6 ?_;refine Qd6 ?_;assumption)
 refine oD Y Y (dz fhg5_1) Y (oD Y Y (dz fhg5_1) Y (oD Y Y (dz fhg5_1) Y (oD Y Y (dz fhg5_1) Y (fD (OF.pickF (VEv.tmpB Y (dz fhg5_1)) (VEv.bool false)) Y Y (fD (OF.assign (tv (tB false) Y)) Y Y (VRunD.nil (tn (rt (vb (b':=false) Y ?_)))))))))
 (symm;rw [decide_eq_false_iff_not];intro h;have:=h.1;contradiction)
noncomputable section
theorem JX (l:List Int):(YO l).data.toList=l.map fun n=>UInt8.ofNat n.toNat:=by
 have h:∀(l:List Int) (r:ByteArray),(l.foldl (fun r n=>r.push (UInt8.ofNat n.toNat)) r).data.toList=r.data.toList++l.map fun n=>UInt8.ofNat n.toNat:=by
  intro l
  induction l with
  | nil=>intro r;simp
  | cons n l ih=>intro r;rw [List.foldl_cons,ih];simp [ByteArray.push]
 simpa [YO] using h l ByteArray.empty
theorem QgV {a b:ByteArray} (h:a.data.toList=b.data.toList):a=b:=by
 cases a;cases b
 simp only at h
 congr 1
 exact Array.toList_inj.1 h
theorem QlH (s:ByteArray):(Z5 s).map (fun n=>UInt8.ofNat n.toNat)=s.data.toList:=by
 simp [Z5,Function.comp_def]
theorem Qey {s:ByteArray}:∀ {i:Nat},i≤s.size→(ZX s i).data.toList=(s.data.toList.take i).reverse
 | 0,_=>rfl
 | i+1,h=>by
  have hi:i<s.data.toList.length:=by rw [Array.length_toList];exact h
  rw [ZX,ByteArray.data_append,Array.toList_append,Qey (show i≤s.size by omega),List.take_add_one,List.getElem?_eq_getElem hi,List.reverse_append]
  congr 1
  rw [ByteArray.data_extract,Array.toList_extract,List.extract_eq_take_drop]
  simp [List.drop_eq_getElem_cons hi]
theorem Qmp {s:ByteArray} (h:s.size≤100):YO (Z5 s).reverse=back s:=by
 unfold back
 rw [if_pos h]
 refine QgV ?_
 rw [JX,List.map_reverse,QlH,Qey (Nat.le_refl _),List.take_of_length_le (by rw [Array.length_toList];exact Nat.le_refl _)]
theorem QlA {s:ByteArray} (h:100<s.size):back s=⟨#[]⟩:=by
 unfold back
 rw [if_neg (by omega)]
end
theorem Qeo (n:Nat) (s:ByteArray) (hc:s.size≤maxLen):Pure (Qs Tryz.prog (n+2)) 184 [(tS s)] (tS (back s)):=by
 refine Pure.intro (rs:= [ResultVar.tmp 2]) Tryz.func184 Y Y Y (E0:= [(0,(tS s))]) Y ?_
 obtain ⟨hlim,hmx,hmax⟩:=QG
 refine sr (fO (OF.assign (VEv.str (⟨#[]⟩:ByteArray))) (nt (sq (sr (mO (tS s) Y (lO (B.lenS (tv (tS s) Y) U9) (fO (B.gtr (c:=(decide (100<s.size))) (tv (tN s.size) Y) (VEv.int .i64 100) (by exact Q6 (by omega))) (nt ?_))))))))
 refine cd (100<s.size) Y (fun fhc0=> ?_) fun fhc0=> ?_
 ·refine sr ?_
  refine fO (OF.assign (VEv.str (⟨#[]⟩:ByteArray))) (nt (rt (tr ?_)))
  refine vfin.eq (r':=(tS (⟨#[]⟩:ByteArray))) ?_ (vfin.r (VRes.tmp (t:=(tS (⟨#[]⟩:ByteArray))) Y VRes.nil) (Give.str _))
  refine congrArg T.str ?_
  exact (QlA fhc0).symm
 refine sk (tn (sr (mO (tS s) Y (kO (B.convSB (tv (tS s) Y) U9 Qd2 U5) (aO (T.os 1 0 0 (((Z5 s).map (QW true)).length)) Y (nt (sr (mO (T.os 1 0 0 (((Z5 s).map (QW true)).length)) Y (cO (OC.callMut (rows:=((Z5 s).map (QW true))) (rows':=(((Z5 s).reverse).map (QW true))) Y (vc (tv (T.os 1 0 0 (((Z5 s).map (QW true)).length)) Y) vn) Y Y bn (Yb (fun _=>rfl) _) (Yb (fun _=>rfl) _) (JS (n+0) (Z5 s) (by (rw [Qca];omega)))) (nt (sr ?_)))))))))))
 refine mO (T.os 1 0 0 (((Z5 s).map (QW true)).length)) Y (lO (B.convBS (l:=(Z5 s).reverse) (tv (T.os 1 0 0 (((Z5 s).map (QW true)).length)) Y) Y (by simp only [List.length_map,List.length_reverse,List.length_set]) Qd2 U5 U9) (aO (tS (YO ((Z5 s).reverse))) Y (nt (rt ?_))))
 refine vfin.eq (r':=(tS (YO ((Z5 s).reverse)))) ?_ (vfin.r (VRes.tmp (t:=(tS (YO ((Z5 s).reverse)))) Y VRes.nil) (Give.str _))
 refine congrArg T.str ?_
 refine Qmp ?_;omega
theorem QeO (n:Nat) (g:D.Grid) (hc:g.Cells.size≤maxLen):Pure (Qs Tryz.prog (n+3)) 160 [(T.agg (Qe false g))] (T.agg (Qe true (Jp g))):=by
 refine Pure.intro (rs:= [ResultVar.cell 2 34]) Tryz.func160 Y Y Y (E0:= [(0,(T.agg (Qe false g)))]) Y ?_
 obtain ⟨hlim,hmx,hmax⟩:=QG
 refine sr (kO (B.box (ts:=(Qe false g)) (tv (T.agg (Qe false g)) Y) nofun Y) (kO (B.alloc (t:=(T.agg [(tN 0),(tN 0),(tS ByteArray.empty)])) (ts:= [(tN 0),(tN 0),(tS ByteArray.empty)]) Qkr QmJ nofun (fun _=> .agg _ _ Y (Yf (RL.cons (.int _ _) (RL.cons (.int _ _) (RL.cons (.str _) (RL.nil _)))))) Y) (nt (sq (sr (lO (OL.loadOn (us:=(Qe false g)) (tv (T.op 0 0) Y) Y Q4 QX (lb Y) Y) (cO (cS (vc (tv (T.agg (Qe false g)) Y) vn) (LendL.cons (lg Qw) ln) (Yr (n+0) g (by assumption)) Y Y) (fO (Q1 (tv (tB (decide (gridOk g))) Y)) (nt ?_)))))))))
 refine cn (gridOk g) Y (fun fhc0=> ?_) fun fhc0=> ?_
 ·refine sr ?_
  refine fO (OF.build (l:= []) (zs:= [(tN 0),(tN 0),(tS ByteArray.empty)]) (out:= [(tN 0),(tN 0),(tS ByteArray.empty)]) VEvp.nil bn Tryz.underlying34 Qkr (fun _=>RL.cons (.int _ _) (RL.cons (.int _ _) (RL.cons (.str _) (RL.nil _)))) (by kernel_rfl) (by kernel_rfl)) (cO (B.storeW (us:= [(tN 0),(tN 0),(tS ByteArray.empty)]) (tv (T.op 1 0) Y) (tv (T.agg [(tN 0),(tN 0),(tS ByteArray.empty)]) Y) nofun Y Y Y Qi7 QX (bc Y (bc Y (bc Y bn)))) (nt (rt (tr ?_))))
  refine vfin.eq (r':=(T.agg [(tN 0),(tN 0),(tS ByteArray.empty)])) ?_ (vfin.r (VRes.celln (ws:= [(tN 0),(tN 0),(tS ByteArray.empty)]) Y Y Q4 QX (lb Y) Y VRes.nil) (Give.agg (GiveL.cons (Give.int _ _) (GiveL.cons (Give.int _ _) (GiveL.cons (Give.str _) GiveL.nil (by decide)) (by decide)) (by decide))))
  (rw [Jp,if_neg fhc0];rfl)
 refine sk (tn (sr (lf (tS g.Cells) Y QN Y Y Yp (cO (cS (vc (tv (tS g.Cells) Y) vn) (ZO Y) (Qeo (n+0) g.Cells (by assumption)) Y Y) (fO (OF.fieldAddrO (tv (T.op 0 0) Y) QN) (cO (B.storeO (us:= [(tS (back g.Cells))]) (ws:= [(tI g.Rows),(tI g.Cols),(tS (back g.Cells))]) (tv (T.op 0 2) Y) (tv (tS (back g.Cells)) Y) nofun Y Y (lb Y) if9 sz9 (bc Y bn) Y) (nt (sr (lO (OL.loadOn (us:= [(tI g.Rows),(tI g.Cols),(tS (back g.Cells))]) (tv (T.op 0 0) Y) Y Q4 QX (lb Y) Y) (cO (B.storeW (us:= [(tI g.Rows),(tI g.Cols),(tS (back g.Cells))]) (tv (T.op 1 0) Y) (tv (T.agg [(tI g.Rows),(tI g.Cols),(tS (back g.Cells))]) Y) nofun Y Y Y Qi7 QX (bc Y (bc Y (bc Y bn)))) (nt ?_)))))))))))
 refine rt ?_
 refine vfin.eq (r':=(T.agg [(tI g.Rows),(tI g.Cols),(tS (back g.Cells))])) ?_ (vfin.r (VRes.celln (ws:= [(tI g.Rows),(tI g.Cols),(tS (back g.Cells))]) Y Y Q4 QX (lb Y) Y VRes.nil) (Give.agg (GiveL.cons (Give.int _ _) (GiveL.cons (Give.int _ _) (GiveL.cons (Give.str _) GiveL.nil (by decide)) (by decide)) (by decide))))
 (rw [Jp,if_pos fhc0];rfl)
theorem QcN (n:Nat) (g:D.Grid) (hc:g.Cells.size≤maxLen):Pure (Qs Tryz.prog (n+4)) 136 [(T.agg (Qe false g))] (tB (decide (QeU g))):=by
 refine Pure.intro (rs:= [ResultVar.tmp 2]) Tryz.func136 Y Y Y (E0:= [(0,(T.agg (Qe false g)))]) Y ?_
 obtain ⟨hlim,hmx,hmax⟩:=QG
 refine sr (kO (B.box (ts:=(Qe false g)) (tv (T.agg (Qe false g)) Y) nofun Y) (fO (OF.assign (VEv.bool false)) (nt (sq (VRun.draw (B:= [[],[0],[0,1],[1,0,2],[1,0,2],[2,0,1,4],[4,5,2,0,1,3],[3,5,4,6,1,0,2],[2,0,1,6,4,5,3,7]]) (by kernel_rfl) (by kernel_rfl) (lD (OL.loadOn (us:=(Qe false g)) (tv (T.op 0 0) Y) Y Q4 QX (lb Y) Y) Y Y (VRunD.quiet (bi:= [0]) Y VWant.always Y Y Y bn (cS (vc (tv (T.agg (Qe false g)) Y) vn) (LendL.cons (lg Qw) ln) (Yr (n+1) g (by assumption)) Y Y) (mD (tB (decide (gridOk g))) Y Y ?_))))))))
 refine gw (gridOk g) (fun fhg5_1=> ?_) fun fhg5_1=> ?_
 ·refine VRunD.look Y (VWant.on Y Y (dy fhg5_1)) Y (OL.loadOn (us:=(Qe false g)) (tv (T.op 0 0) Y) Y Q4 QX (lb Y) Y) ?_
  refine VRunD.look Y (VWant.on Y Y (dy fhg5_1)) Y (OL.loadOn (us:=(Qe false g)) (tv (T.op 0 0) Y) Y Q4 QX (lb Y) Y) (VRunD.quiet (bi:= [2,0,1,4]) Y (VWant.on Y Y (dy fhg5_1)) Y Y Y bn (cS (vc (tv (T.agg (Qe false g)) Y) vn) (LendL.cons (lg Qw) ln) (QeO (n+0) g (by assumption)) Y Y) (VRunD.free Y (VWant.on Y Y (dy fhg5_1)) Y (B.eql34 (a:=g) (b:=Jp g) (m:=false) (m':=true) (tv (T.agg (Qe false g)) Y) (tv (T.agg (Qe true (Jp g))) Y)) (fD (OF.pickT (VEv.tmpB Y (dy fhg5_1)) (tv (tB (decide (g=Jp g))) Y)) Y Y (fD (OF.assign (tv (tB (decide (g=Jp g))) Y)) Y Y (VRunD.nil (tn (rt (vb (b':=(decide (g=Jp g))) Y ?_))))))))
  (refine Q6 ⟨fun e=> ?_,fun e=> ?_⟩<;>first | exact (Qd6 ‹_›).1 e.symm | exact ((Qd6 ‹_›).2 e).symm)
 refine oD Y Y (dz fhg5_1) Y (oD Y Y (dz fhg5_1) Y (oD Y Y (dz fhg5_1) Y (oD Y Y (dz fhg5_1) Y (fD (OF.pickF (VEv.tmpB Y (dz fhg5_1)) (VEv.bool false)) Y Y (fD (OF.assign (tv (tB false) Y)) Y Y (VRunD.nil (tn (rt (vb (b':=false) Y ?_)))))))))
 (symm;rw [decide_eq_false_iff_not];intro h;have:=h.1;contradiction)
noncomputable section
def ZN (c f:Int):Prop:=(c=35→f=35)∧(c=46→f=63∨(97≤f∧f≤122))
def Q8 (g:D.Grid) (f:ByteArray):Prop:=gridOk g∧f.size=g.Cells.size∧∀j,j<f.size→ZN (QA g.Cells j) (QA f j)
instance (g:D.Grid) (f:ByteArray):Decidable (Q8 g f):=Classical.propDecidable _
theorem Qlp (p q:Prop) [Decidable p] [Decidable q]:(!(decide p == decide q))=decide (¬(p↔q)):=by
 by_cases hp:p<;>by_cases hq:q<;>simp [hp,hq]
end
theorem QaI (n:Nat) (g:D.Grid) (f:ByteArray) (hc:g.Cells.size≤maxLen) (hf:f.size≤maxLen):Pure (Qs Tryz.prog (n+3)) 58 [(T.agg (Qe false g)),(tS f)] (tB (decide (Q8 g f))):=by
 refine Pure.intro (rs:= [ResultVar.tmp 4]) Tryz.func58 Y Y Y (E0:= [(0,(T.agg (Qe false g))),(1,(tS f))]) Y ?_
 obtain ⟨hlim,hmx,hmax⟩:=QG
 refine sr (kO (B.box (ts:=(Qe false g)) (tv (T.agg (Qe false g)) Y) nofun Y) (fO (OF.assign (VEv.bool false)) (nt (sq (sr (lO (OL.loadOn (us:=(Qe false g)) (tv (T.op 0 0) Y) Y Q4 QX (lb Y) Y) (cO (cS (vc (tv (T.agg (Qe false g)) Y) vn) (LendL.cons (lg Qw) ln) (Z8 (n+0) g (by assumption)) Y Y) (fO (Q1 (tv (tB (decide (gridOk g))) Y)) (mO (tB (!(decide (gridOk g)))) Y ?_)))))))))
 refine gn (gridOk g) (fun fhg10_1=> ?_) fun fhg10_1=> ?_
 ·refine QE 6 3 false 10 (ny fhg10_1) Y Y Y ?_
  refine fO (OF.pickT (VEv.tmpB Y (ny fhg10_1)) (VEv.bool true)) (nt (ct Y (sr (fO (OF.assign (VEv.bool false)) (nt (rt (tr (vb (b':=false) Y ?_))))))))
  (symm;rw [decide_eq_false_iff_not];rintro ⟨g1,g2,g3⟩;contradiction)
 refine gF (nz fhg10_1) Y Y (OF.move (tv (tS f) Y)) (gL (nz fhg10_1) Y Y (B.lenS (tv (tS f) Y) U9) (Yx (tS g.Cells) (nz fhg10_1) Y Y Y Y QN Y Y Yp (gL (nz fhg10_1) Y Y (B.lenS (tv (tS g.Cells) Y) U9) (gF (nz fhg10_1) Y Y (Qir (tv (tN f.size) Y) (tv (tN g.Cells.size) Y)) (fO (OF.pickF (VEv.tmpB Y (nz fhg10_1)) (tv (tB (!(decide (f.size=g.Cells.size)))) Y)) (nt ?_))))))
 refine cn (f.size=g.Cells.size) Y (fun fhc0=> ?_) fun fhc0=> ?_
 ·refine sr ?_
  refine fO (OF.assign (VEv.bool false)) (nt (rt (tr (vb (b':=false) Y ?_))))
  (symm;rw [decide_eq_false_iff_not];rintro ⟨g1,g2,g3⟩;contradiction)
 refine sk (tn (sq (sr (fO (OF.assign (VEv.int .i64 0)) (nt (VRun.block ?_))))))
 refine VRun.loop (A:=Nat) (fun s_=> [(1,(tS f)),(2,(T.op 0 0)),(5,(tN s_))]) (fun s_=>QY [(0,(Obj.cells (Qe false g)))]) 1 (fun s_=>s_≤f.size∧∀j,j<s_→ZN (QA g.Cells j) (QA f j)) (fun s_=>f.size - s_) (0:Nat) ?_ (Wk.mk (fun k=>k) ?_ ?_ ?_) ?_
 ·exact ⟨Nat.zero_le _,fun j hj=>by omega⟩
 ·exact (b2 (b2 (b2 bn)))
 ·exact (b3 bn)
 ·exact nd Y
 rintro i (hI':i≤f.size∧∀j,j<i→ZN (QA g.Cells j) (QA f j))
 show VRun _ _ _ [(1,(tS f)),(2,(T.op 0 0)),(5,(tN i))] (QY [(0,(Obj.cells (Qe false g)))]) 1 _
 have hI1:=hI'.1
 have hgo:gridOk g:=by assumption
 refine sq (sr (mO (tN i) Y (mO (tS f) Y (lO (B.lenS (tv (tS f) Y) U9) (fO (Zb (tv (tN i) Y) (tv (tN f.size) Y)) (nt ?_))))))
 refine cd (i<f.size) Y (fun fhc1=> ?_) fun fhc1=> ?_
 ·have hgi:=hgo.2.2.2 i (by omega)
  unfold gOk at hgi
  refine sk (tn (sq (VRun.block (sr (mO (tS f) Y (mO (tN i) Y ?_))))))
  have hb2:i<f.size:=(by omega)
  refine fO (xix (tv (tS f) Y) (tv (tN i) Y) hb2 U9) (fO (Y9 (tv (T.int .u8 (QA f i)) Y) (VEv.int .u8 63)) (mO (tB (decide (QA f i=63))) Y ?_))
  refine gw (QA f i=63) (fun fhg28_3=> ?_) fun fhg28_3=> ?_
  ·refine QE 5 4 false 28 (dy fhg28_3) Y Y Y ?_
   refine QaQ 4 9 true 33 Y Y Y (oO Y Y (dy fhg28_3) (fO (OF.pickT (VEv.tmpB Y (dy fhg28_3)) (VEv.bool true)) (aO (tB true) Y (nt (sr (lf (tS g.Cells) Y QN Y Y Yp (mO (tN i) Y ?_)))))))
   have hb4:i<g.Cells.size:=(by omega)
   refine fO (xix (tv (tS g.Cells) Y) (tv (tN i) Y) hb4 U9) (fO (Y9 (tv (T.int .u8 (QA g.Cells i)) Y) (VEv.int .u8 35)) (mO (tB (decide (QA g.Cells i=35))) Y ?_))
   refine gw (QA g.Cells i=35) (fun fhg45_5=> ?_) fun fhg45_5=> ?_
   ·refine gF (dy fhg45_5) Y Y (OF.move (tv (tS f) Y)) ?_
    refine gF (dy fhg45_5) Y Y (OF.move (tv (tN i) Y)) ?_
    have hb6:i<f.size:=(by omega)
    refine gF (dy fhg45_5) Y Y (xix (tv (tS f) Y) (tv (tN i) Y) hb6 U9) (gF (dy fhg45_5) Y Y (xne (tv (T.int .u8 (QA f i)) Y) (VEv.int .u8 35)) (fO (OF.pickT (VEv.tmpB Y (dy fhg45_5)) (tv (tB (!(decide (QA f i=35)))) Y)) (mO (tB (!(decide (QA f i=35)))) Y ?_)))
    refine gn (QA f i=35) (fun fhg51_7=> ?_) fun fhg51_7=> ?_
    ·refine QE 6 11 false 51 (ny fhg51_7) Y Y Y ?_
     refine QaQ 2 17 true 57 Y Y Y (oO Y Y (ny fhg51_7) (fO (OF.pickT (VEv.tmpB Y (ny fhg51_7)) (VEv.bool true)) (nt (ct Y (sr (fO (OF.assign (VEv.bool false)) (nt (rt (vinB.r (tr (tr ?_)))))))))))
     refine vinB.r (tr (vb (b':=false) Y ?_))
     (symm;rw [decide_eq_false_iff_not];rintro ⟨g1,g2,g3⟩;(have g4:=g3 i fhc1;unfold ZN at g4;omega))
    refine Yx (tS g.Cells) (nz fhg51_7) Y Y Y Y QN Y Y Yp (gF (nz fhg51_7) Y Y (OF.move (tv (tN i) Y)) ?_)
    have hb8:i<g.Cells.size:=(by omega)
    refine gF (nz fhg51_7) Y Y (xix (tv (tS g.Cells) Y) (tv (tN i) Y) hb8 U9) (gF (nz fhg51_7) Y Y (Y9 (tv (T.int .u8 (QA g.Cells i)) Y) (VEv.int .u8 46)) (gF (nz fhg51_7) Y Y (OF.move (tv (tB (decide (QA g.Cells i=46))) Y)) ?_))
    refine gw (QA g.Cells i=46) (fun fhg57_9=> ?_) fun fhg57_9=> ?_
    ·refine gF (dy fhg57_9) Y Y (OF.move (tv (tB true) Y)) ?_
     refine gF (dy fhg57_9) Y Y (B.not (c:=false) (tv (tB true) Y) Y) (gF (nz fhg51_7) Y Y (OF.pickT (VEv.tmpB Y (dy fhg57_9)) (tv (tB false) Y)) (fO (OF.pickF (VEv.tmpB Y (nz fhg51_7)) (tv (tB false) Y)) (nt (cf Y (sk (vinB.n (tn (VRun.region (mO (tN i) Y (fO (Qy (tv (tN i) Y) (VEv.int .i64 1) (by omega)) (aO (tN (i+1)) Y ?_)))))))))))
     refine VRunO.nil (tn ?_)
     refine ⟨(i+1:Nat),?_,?_,Wk.mk (fun k=>k) ?_ ?_ ?_⟩
     ·refine QZ hI' fhc1 ?_;unfold ZN;omega
     ·omega
     ·exact (b2 (b2 (b2 bn)))
     ·exact (b3 bn)
     ·exact nd Y
    refine QE 2 17 true 57 (dz fhg57_9) Y Y Y (gF (nz fhg51_7) Y Y (OF.pickF (VEv.tmpB Y (dz fhg57_9)) (VEv.bool false)) (fO (OF.pickF (VEv.tmpB Y (nz fhg51_7)) (tv (tB false) Y)) (nt (cf Y (sk (vinB.n (tn (VRun.region (mO (tN i) Y (fO (Qy (tv (tN i) Y) (VEv.int .i64 1) (by omega)) (aO (tN (i+1)) Y ?_)))))))))))
    refine VRunO.nil (tn ?_)
    refine ⟨(i+1:Nat),?_,?_,Wk.mk (fun k=>k) ?_ ?_ ?_⟩
    ·refine QZ hI' fhc1 ?_;unfold ZN;omega
    ·omega
    ·exact (b2 (b2 (b2 bn)))
    ·exact (b3 bn)
    ·exact nd Y
   refine QE 4 5 true 45 (dz fhg45_5) Y Y Y (fO (OF.pickF (VEv.tmpB Y (dz fhg45_5)) (VEv.bool false)) (mO (tB false) Y (VRunO.free (VWant.on (b:=false) Y Y Y) (OF.fieldAddrO (tv (T.op 0 0) Y) QN) (VRunO.look (VWant.on (b:=false) Y Y Y) (OL.loadO1 (t:=(tS g.Cells)) (tv (T.op 0 2) Y) Y Y Yp) (VRunO.free (VWant.on (b:=false) Y Y Y) (OF.move (tv (tN i) Y)) ?_)))))
   have hb10:i<g.Cells.size:=(by omega)
   refine VRunO.free (VWant.on (b:=false) Y Y Y) (xix (tv (tS g.Cells) Y) (tv (tN i) Y) hb10 U9) (VRunO.free (VWant.on (b:=false) Y Y Y) (Y9 (tv (T.int .u8 (QA g.Cells i)) Y) (VEv.int .u8 46)) (VRunO.free (VWant.on (b:=false) Y Y Y) (OF.move (tv (tB (decide (QA g.Cells i=46))) Y)) ?_))
   refine gw (QA g.Cells i=46) (fun fhg57_11=> ?_) fun fhg57_11=> ?_
   ·refine gF (dy fhg57_11) Y Y (OF.move (tv (tB true) Y)) ?_
    refine gF (dy fhg57_11) Y Y (B.not (c:=false) (tv (tB true) Y) Y) (VRunO.free (VWant.on (b:=false) Y Y Y) (OF.pickT (VEv.tmpB Y (dy fhg57_11)) (tv (tB false) Y)) (fO (OF.pickF (tv (tB false) Y) (tv (tB false) Y)) (nt (cf Y (sk (vinB.n (tn (VRun.region (mO (tN i) Y (fO (Qy (tv (tN i) Y) (VEv.int .i64 1) (by omega)) (aO (tN (i+1)) Y ?_)))))))))))
    refine VRunO.nil (tn ?_)
    refine ⟨(i+1:Nat),?_,?_,Wk.mk (fun k=>k) ?_ ?_ ?_⟩
    ·refine QZ hI' fhc1 ?_;unfold ZN;omega
    ·omega
    ·exact (b2 (b2 (b2 bn)))
    ·exact (b3 bn)
    ·exact nd Y
   refine QE 2 17 true 57 (dz fhg57_11) Y Y Y (VRunO.free (VWant.on (b:=false) Y Y Y) (OF.pickF (VEv.tmpB Y (dz fhg57_11)) (VEv.bool false)) (fO (OF.pickF (tv (tB false) Y) (tv (tB false) Y)) (nt (cf Y (sk (vinB.n (tn (VRun.region (mO (tN i) Y (fO (Qy (tv (tN i) Y) (VEv.int .i64 1) (by omega)) (aO (tN (i+1)) Y ?_)))))))))))
   refine VRunO.nil (tn ?_)
   refine ⟨(i+1:Nat),?_,?_,Wk.mk (fun k=>k) ?_ ?_ ?_⟩
   ·refine QZ hI' fhc1 ?_;unfold ZN;omega
   ·omega
   ·exact (b2 (b2 (b2 bn)))
   ·exact (b3 bn)
   ·exact nd Y
  refine gF (dz fhg28_3) Y Y (OF.move (tv (tS f) Y)) (gF (dz fhg28_3) Y Y (OF.move (tv (tN i) Y)) ?_)
  have hb12:i<f.size:=(by omega)
  refine gF (dz fhg28_3) Y Y (xix (tv (tS f) Y) (tv (tN i) Y) hb12 U9) (gF (dz fhg28_3) Y Y (xge (tv (T.int .u8 (QA f i)) Y) (VEv.int .u8 97)) (gF (dz fhg28_3) Y Y (OF.move (tv (tB (decide (97≤QA f i))) Y)) ?_))
  refine gw (97≤QA f i) (fun fhg33_13=> ?_) fun fhg33_13=> ?_
  ·refine gF (dy fhg33_13) Y Y (OF.move (tv (tS f) Y)) ?_
   refine gF (dy fhg33_13) Y Y (OF.move (tv (tN i) Y)) ?_
   have hb14:i<f.size:=(by omega)
   refine gF (dy fhg33_13) Y Y (xix (tv (tS f) Y) (tv (tN i) Y) hb14 U9) (gF (dy fhg33_13) Y Y (xle (tv (T.int .u8 (QA f i)) Y) (VEv.int .u8 122)) (gF (dz fhg28_3) Y Y (OF.pickT (VEv.tmpB Y (dy fhg33_13)) (tv (tB (decide (QA f i≤122))) Y)) (fO (OF.pickF (VEv.tmpB Y (dz fhg28_3)) (tv (tB (decide (QA f i≤122))) Y)) (aO (tB (decide (QA f i≤122))) Y (nt (sr (lf (tS g.Cells) Y QN Y Y Yp (mO (tN i) Y ?_))))))))
   have hb15:i<g.Cells.size:=(by omega)
   refine fO (xix (tv (tS g.Cells) Y) (tv (tN i) Y) hb15 U9) (fO (Y9 (tv (T.int .u8 (QA g.Cells i)) Y) (VEv.int .u8 35)) (mO (tB (decide (QA g.Cells i=35))) Y ?_))
   refine gw (QA g.Cells i=35) (fun fhg45_16=> ?_) fun fhg45_16=> ?_
   ·refine gF (dy fhg45_16) Y Y (OF.move (tv (tS f) Y)) ?_
    refine gF (dy fhg45_16) Y Y (OF.move (tv (tN i) Y)) ?_
    have hb17:i<f.size:=(by omega)
    refine gF (dy fhg45_16) Y Y (xix (tv (tS f) Y) (tv (tN i) Y) hb17 U9) (gF (dy fhg45_16) Y Y (xne (tv (T.int .u8 (QA f i)) Y) (VEv.int .u8 35)) (fO (OF.pickT (VEv.tmpB Y (dy fhg45_16)) (tv (tB (!(decide (QA f i=35)))) Y)) (mO (tB (!(decide (QA f i=35)))) Y ?_)))
    refine gn (QA f i=35) (fun fhg51_18=> ?_) fun fhg51_18=> ?_
    ·refine QE 6 11 false 51 (ny fhg51_18) Y Y Y ?_
     refine QaQ 2 17 true 57 Y Y Y (oO Y Y (ny fhg51_18) (fO (OF.pickT (VEv.tmpB Y (ny fhg51_18)) (VEv.bool true)) (nt (ct Y (sr (fO (OF.assign (VEv.bool false)) (nt (rt (vinB.r (tr (tr ?_)))))))))))
     refine vinB.r (tr (vb (b':=false) Y ?_))
     (symm;rw [decide_eq_false_iff_not];rintro ⟨g1,g2,g3⟩;(have g4:=g3 i fhc1;unfold ZN at g4;omega))
    refine Yx (tS g.Cells) (nz fhg51_18) Y Y Y Y QN Y Y Yp (gF (nz fhg51_18) Y Y (OF.move (tv (tN i) Y)) ?_)
    have hb19:i<g.Cells.size:=(by omega)
    refine gF (nz fhg51_18) Y Y (xix (tv (tS g.Cells) Y) (tv (tN i) Y) hb19 U9) (gF (nz fhg51_18) Y Y (Y9 (tv (T.int .u8 (QA g.Cells i)) Y) (VEv.int .u8 46)) (gF (nz fhg51_18) Y Y (OF.move (tv (tB (decide (QA g.Cells i=46))) Y)) ?_))
    refine gw (QA g.Cells i=46) (fun fhg57_20=> ?_) fun fhg57_20=> ?_
    ·refine gF (dy fhg57_20) Y Y (OF.move (tv (tB (decide (QA f i≤122))) Y)) ?_
     refine gF (dy fhg57_20) Y Y (Q1 (tv (tB (decide (QA f i≤122))) Y)) (gF (nz fhg51_18) Y Y (OF.pickT (VEv.tmpB Y (dy fhg57_20)) (tv (tB (!(decide (QA f i≤122)))) Y)) (fO (OF.pickF (VEv.tmpB Y (nz fhg51_18)) (tv (tB (!(decide (QA f i≤122)))) Y)) (nt ?_)))
     refine cn (QA f i≤122) Y (fun fhc2=> ?_) fun fhc2=> ?_
     ·refine sr ?_
      refine fO (OF.assign (VEv.bool false)) (nt (rt (vinB.r (tr (tr (vinB.r (tr (vb (b':=false) Y ?_))))))))
      (symm;rw [decide_eq_false_iff_not];rintro ⟨g1,g2,g3⟩;omega)
     refine sk (vinB.n (tn (VRun.region (mO (tN i) Y (fO (Qy (tv (tN i) Y) (VEv.int .i64 1) (by omega)) (aO (tN (i+1)) Y (VRunO.nil (tn ?_))))))))
     refine ⟨(i+1:Nat),?_,?_,Wk.mk (fun k=>k) ?_ ?_ ?_⟩
     ·refine QZ hI' fhc1 ?_;unfold ZN;omega
     ·omega
     ·exact (b2 (b2 (b2 bn)))
     ·exact (b3 bn)
     ·exact nd Y
    refine QE 2 17 true 57 (dz fhg57_20) Y Y Y (gF (nz fhg51_18) Y Y (OF.pickF (VEv.tmpB Y (dz fhg57_20)) (VEv.bool false)) (fO (OF.pickF (VEv.tmpB Y (nz fhg51_18)) (tv (tB false) Y)) (nt (cf Y (sk (vinB.n (tn (VRun.region (mO (tN i) Y (fO (Qy (tv (tN i) Y) (VEv.int .i64 1) (by omega)) (aO (tN (i+1)) Y ?_)))))))))))
    refine VRunO.nil (tn ?_)
    refine ⟨(i+1:Nat),?_,?_,Wk.mk (fun k=>k) ?_ ?_ ?_⟩
    ·refine QZ hI' fhc1 ?_;unfold ZN;omega
    ·omega
    ·exact (b2 (b2 (b2 bn)))
    ·exact (b3 bn)
    ·exact nd Y
   refine QE 4 5 true 45 (dz fhg45_16) Y Y Y (fO (OF.pickF (VEv.tmpB Y (dz fhg45_16)) (VEv.bool false)) (mO (tB false) Y (VRunO.free (VWant.on (b:=false) Y Y Y) (OF.fieldAddrO (tv (T.op 0 0) Y) QN) (VRunO.look (VWant.on (b:=false) Y Y Y) (OL.loadO1 (t:=(tS g.Cells)) (tv (T.op 0 2) Y) Y Y Yp) (VRunO.free (VWant.on (b:=false) Y Y Y) (OF.move (tv (tN i) Y)) ?_)))))
   have hb21:i<g.Cells.size:=(by omega)
   refine VRunO.free (VWant.on (b:=false) Y Y Y) (xix (tv (tS g.Cells) Y) (tv (tN i) Y) hb21 U9) (VRunO.free (VWant.on (b:=false) Y Y Y) (Y9 (tv (T.int .u8 (QA g.Cells i)) Y) (VEv.int .u8 46)) (VRunO.free (VWant.on (b:=false) Y Y Y) (OF.move (tv (tB (decide (QA g.Cells i=46))) Y)) ?_))
   refine gw (QA g.Cells i=46) (fun fhg57_22=> ?_) fun fhg57_22=> ?_
   ·refine gF (dy fhg57_22) Y Y (OF.move (tv (tB (decide (QA f i≤122))) Y)) ?_
    refine gF (dy fhg57_22) Y Y (Q1 (tv (tB (decide (QA f i≤122))) Y)) (VRunO.free (VWant.on (b:=false) Y Y Y) (OF.pickT (VEv.tmpB Y (dy fhg57_22)) (tv (tB (!(decide (QA f i≤122)))) Y)) (fO (OF.pickF (tv (tB false) Y) (tv (tB (!(decide (QA f i≤122)))) Y)) (nt ?_)))
    refine cn (QA f i≤122) Y (fun fhc2=> ?_) fun fhc2=> ?_
    ·refine sr ?_
     refine fO (OF.assign (VEv.bool false)) (nt (rt (vinB.r (tr (tr (vinB.r (tr (vb (b':=false) Y ?_))))))))
     (symm;rw [decide_eq_false_iff_not];rintro ⟨g1,g2,g3⟩;(have g4:=g3 i fhc1;unfold ZN at g4;omega))
    refine sk (vinB.n (tn (VRun.region (mO (tN i) Y (fO (Qy (tv (tN i) Y) (VEv.int .i64 1) (by omega)) (aO (tN (i+1)) Y (VRunO.nil (tn ?_))))))))
    refine ⟨(i+1:Nat),?_,?_,Wk.mk (fun k=>k) ?_ ?_ ?_⟩
    ·refine QZ hI' fhc1 ?_;unfold ZN;omega
    ·omega
    ·exact (b2 (b2 (b2 bn)))
    ·exact (b3 bn)
    ·exact nd Y
   refine QE 2 17 true 57 (dz fhg57_22) Y Y Y (VRunO.free (VWant.on (b:=false) Y Y Y) (OF.pickF (VEv.tmpB Y (dz fhg57_22)) (VEv.bool false)) (fO (OF.pickF (tv (tB false) Y) (tv (tB false) Y)) (nt (cf Y (sk (vinB.n (tn (VRun.region (mO (tN i) Y (fO (Qy (tv (tN i) Y) (VEv.int .i64 1) (by omega)) (aO (tN (i+1)) Y ?_)))))))))))
   refine VRunO.nil (tn ?_)
   refine ⟨(i+1:Nat),?_,?_,Wk.mk (fun k=>k) ?_ ?_ ?_⟩
   ·refine QZ hI' fhc1 ?_;unfold ZN;omega
   ·omega
   ·exact (b2 (b2 (b2 bn)))
   ·exact (b3 bn)
   ·exact nd Y
  refine QE 4 9 true 33 (dz fhg33_13) Y Y Y (gF (dz fhg28_3) Y Y (OF.pickF (VEv.tmpB Y (dz fhg33_13)) (VEv.bool false)) (fO (OF.pickF (VEv.tmpB Y (dz fhg28_3)) (tv (tB false) Y)) (aO (tB false) Y (nt (sr (lf (tS g.Cells) Y QN Y Y Yp (mO (tN i) Y ?_)))))))
  have hb23:i<g.Cells.size:=(by omega)
  refine fO (xix (tv (tS g.Cells) Y) (tv (tN i) Y) hb23 U9) (fO (Y9 (tv (T.int .u8 (QA g.Cells i)) Y) (VEv.int .u8 35)) (mO (tB (decide (QA g.Cells i=35))) Y ?_))
  refine gw (QA g.Cells i=35) (fun fhg45_24=> ?_) fun fhg45_24=> ?_
  ·refine gF (dy fhg45_24) Y Y (OF.move (tv (tS f) Y)) ?_
   refine gF (dy fhg45_24) Y Y (OF.move (tv (tN i) Y)) ?_
   have hb25:i<f.size:=(by omega)
   refine gF (dy fhg45_24) Y Y (xix (tv (tS f) Y) (tv (tN i) Y) hb25 U9) (gF (dy fhg45_24) Y Y (xne (tv (T.int .u8 (QA f i)) Y) (VEv.int .u8 35)) (fO (OF.pickT (VEv.tmpB Y (dy fhg45_24)) (tv (tB (!(decide (QA f i=35)))) Y)) (mO (tB (!(decide (QA f i=35)))) Y ?_)))
   refine gn (QA f i=35) (fun fhg51_26=> ?_) fun fhg51_26=> ?_
   ·refine QE 6 11 false 51 (ny fhg51_26) Y Y Y ?_
    refine QaQ 2 17 true 57 Y Y Y (oO Y Y (ny fhg51_26) (fO (OF.pickT (VEv.tmpB Y (ny fhg51_26)) (VEv.bool true)) (nt (ct Y (sr (fO (OF.assign (VEv.bool false)) (nt (rt (vinB.r (tr (tr ?_)))))))))))
    refine vinB.r (tr (vb (b':=false) Y ?_))
    (symm;rw [decide_eq_false_iff_not];rintro ⟨g1,g2,g3⟩;(have g4:=g3 i fhc1;unfold ZN at g4;omega))
   refine Yx (tS g.Cells) (nz fhg51_26) Y Y Y Y QN Y Y Yp (gF (nz fhg51_26) Y Y (OF.move (tv (tN i) Y)) ?_)
   have hb27:i<g.Cells.size:=(by omega)
   refine gF (nz fhg51_26) Y Y (xix (tv (tS g.Cells) Y) (tv (tN i) Y) hb27 U9) (gF (nz fhg51_26) Y Y (Y9 (tv (T.int .u8 (QA g.Cells i)) Y) (VEv.int .u8 46)) (gF (nz fhg51_26) Y Y (OF.move (tv (tB (decide (QA g.Cells i=46))) Y)) ?_))
   refine gw (QA g.Cells i=46) (fun fhg57_28=> ?_) fun fhg57_28=> ?_
   ·refine gF (dy fhg57_28) Y Y (OF.move (tv (tB false) Y)) ?_
    refine gF (dy fhg57_28) Y Y (B.not (c:=true) (tv (tB false) Y) Y) (gF (nz fhg51_26) Y Y (OF.pickT (VEv.tmpB Y (dy fhg57_28)) (tv (tB true) Y)) (fO (OF.pickF (VEv.tmpB Y (nz fhg51_26)) (tv (tB true) Y)) (nt (ct Y (sr (fO (OF.assign (VEv.bool false)) (nt (rt (vinB.r (tr (tr ?_)))))))))))
    refine vinB.r (tr (vb (b':=false) Y ?_))
    (symm;rw [decide_eq_false_iff_not];rintro ⟨g1,g2,g3⟩;omega)
   refine QE 2 17 true 57 (dz fhg57_28) Y Y Y (gF (nz fhg51_26) Y Y (OF.pickF (VEv.tmpB Y (dz fhg57_28)) (VEv.bool false)) (fO (OF.pickF (VEv.tmpB Y (nz fhg51_26)) (tv (tB false) Y)) (nt (cf Y (sk (vinB.n (tn (VRun.region (mO (tN i) Y (fO (Qy (tv (tN i) Y) (VEv.int .i64 1) (by omega)) (aO (tN (i+1)) Y ?_)))))))))))
   refine VRunO.nil (tn ?_)
   refine ⟨(i+1:Nat),?_,?_,Wk.mk (fun k=>k) ?_ ?_ ?_⟩
   ·refine QZ hI' fhc1 ?_;unfold ZN;omega
   ·omega
   ·exact (b2 (b2 (b2 bn)))
   ·exact (b3 bn)
   ·exact nd Y
  refine QE 4 5 true 45 (dz fhg45_24) Y Y Y (fO (OF.pickF (VEv.tmpB Y (dz fhg45_24)) (VEv.bool false)) (mO (tB false) Y (VRunO.free (VWant.on (b:=false) Y Y Y) (OF.fieldAddrO (tv (T.op 0 0) Y) QN) (VRunO.look (VWant.on (b:=false) Y Y Y) (OL.loadO1 (t:=(tS g.Cells)) (tv (T.op 0 2) Y) Y Y Yp) (VRunO.free (VWant.on (b:=false) Y Y Y) (OF.move (tv (tN i) Y)) ?_)))))
  have hb29:i<g.Cells.size:=(by omega)
  refine VRunO.free (VWant.on (b:=false) Y Y Y) (xix (tv (tS g.Cells) Y) (tv (tN i) Y) hb29 U9) (VRunO.free (VWant.on (b:=false) Y Y Y) (Y9 (tv (T.int .u8 (QA g.Cells i)) Y) (VEv.int .u8 46)) (VRunO.free (VWant.on (b:=false) Y Y Y) (OF.move (tv (tB (decide (QA g.Cells i=46))) Y)) ?_))
  refine gw (QA g.Cells i=46) (fun fhg57_30=> ?_) fun fhg57_30=> ?_
  ·refine gF (dy fhg57_30) Y Y (OF.move (tv (tB false) Y)) ?_
   refine gF (dy fhg57_30) Y Y (B.not (c:=true) (tv (tB false) Y) Y) (VRunO.free (VWant.on (b:=false) Y Y Y) (OF.pickT (VEv.tmpB Y (dy fhg57_30)) (tv (tB true) Y)) (fO (OF.pickF (tv (tB false) Y) (tv (tB true) Y)) (nt (ct Y (sr (fO (OF.assign (VEv.bool false)) (nt (rt (vinB.r (tr (tr ?_)))))))))))
   refine vinB.r (tr (vb (b':=false) Y ?_))
   (symm;rw [decide_eq_false_iff_not];rintro ⟨g1,g2,g3⟩;(have g4:=g3 i fhc1;unfold ZN at g4;omega))
  refine QE 2 17 true 57 (dz fhg57_30) Y Y Y (VRunO.free (VWant.on (b:=false) Y Y Y) (OF.pickF (VEv.tmpB Y (dz fhg57_30)) (VEv.bool false)) (fO (OF.pickF (tv (tB false) Y) (tv (tB false) Y)) (nt (cf Y (sk (vinB.n (tn (VRun.region (mO (tN i) Y (fO (Qy (tv (tN i) Y) (VEv.int .i64 1) (by omega)) (aO (tN (i+1)) Y ?_)))))))))))
  refine VRunO.nil (tn ?_)
  refine ⟨(i+1:Nat),?_,?_,Wk.mk (fun k=>k) ?_ ?_ ?_⟩
  ·refine QZ hI' fhc1 ?_;unfold ZN;omega
  ·omega
  ·exact (b2 (b2 (b2 bn)))
  ·exact (b3 bn)
  ·exact nd Y
 refine VRun.exit (vthn.e (vthn.e (vinB.e (tn (sr (fO (OF.assign (VEv.bool true)) (nt (rt (vb (b':=true) Y ?_)))))))))
 (symm;rw [decide_eq_true_eq];refine ⟨?_,?_,ZY hI' fhc1⟩<;>assumption)
theorem Qcy (n:Nat) (g:D.Grid) (f:ByteArray) (hc:g.Cells.size≤maxLen) (hf:f.size≤maxLen):Pure (Qs Tryz.prog (n+3)) 63 [(T.agg (Qe false g)),(tS f)] (tB (decide (Q8 g f))):=by
 refine Pure.intro (rs:= [ResultVar.tmp 4]) Tryz.func63 Y Y Y (E0:= [(0,(T.agg (Qe false g))),(1,(tS f))]) Y ?_
 obtain ⟨hlim,hmx,hmax⟩:=QG
 refine sr (kO (B.box (ts:=(Qe false g)) (tv (T.agg (Qe false g)) Y) nofun Y) (fO (OF.assign (VEv.bool false)) (nt (sq (sr (lO (OL.loadOn (us:=(Qe false g)) (tv (T.op 0 0) Y) Y Q4 QX (lb Y) Y) (cO (cS (vc (tv (T.agg (Qe false g)) Y) vn) (LendL.cons (lg Qw) ln) (Yr (n+0) g (by assumption)) Y Y) (fO (Q1 (tv (tB (decide (gridOk g))) Y)) (mO (tB (!(decide (gridOk g)))) Y ?_)))))))))
 refine gn (gridOk g) (fun fhg9_1=> ?_) fun fhg9_1=> ?_
 ·refine QE 6 3 false 9 (ny fhg9_1) Y Y Y ?_
  refine fO (OF.pickT (VEv.tmpB Y (ny fhg9_1)) (VEv.bool true)) (nt (ct Y (sr (fO (OF.assign (VEv.bool false)) (nt (rt (tr (vb (b':=false) Y ?_))))))))
  (symm;rw [decide_eq_false_iff_not];rintro ⟨g1,g2,g3⟩;contradiction)
 refine gF (nz fhg9_1) Y Y (OF.move (tv (tS f) Y)) (gL (nz fhg9_1) Y Y (B.lenS (tv (tS f) Y) U9) (Yx (tS g.Cells) (nz fhg9_1) Y Y Y Y QN Y Y Yp (gL (nz fhg9_1) Y Y (B.lenS (tv (tS g.Cells) Y) U9) (gF (nz fhg9_1) Y Y (Qir (tv (tN f.size) Y) (tv (tN g.Cells.size) Y)) (fO (OF.pickF (VEv.tmpB Y (nz fhg9_1)) (tv (tB (!(decide (f.size=g.Cells.size)))) Y)) (nt ?_))))))
 refine cn (f.size=g.Cells.size) Y (fun fhc0=> ?_) fun fhc0=> ?_
 ·refine sr ?_
  refine fO (OF.assign (VEv.bool false)) (nt (rt (tr (vb (b':=false) Y ?_))))
  (symm;rw [decide_eq_false_iff_not];rintro ⟨g1,g2,g3⟩;contradiction)
 refine sk (tn (sq (sr (mO (tS f) Y (lO (B.lenS (tv (tS f) Y) U9) (fO (OF.move (VEv.int .i64 0)) (nt (VRun.block ?_))))))))
 refine VRun.loop (A:=Nat) (fun s_=> [(1,(tS f)),(2,(T.op 0 0)),(18,(tN f.size)),(19,(tN s_))]) (fun s_=>QY [(0,(Obj.cells (Qe false g)))]) 1 (fun s_=>s_≤f.size∧∀j,j<s_→ZN (QA g.Cells j) (QA f j)) (fun s_=>f.size - s_) (0:Nat) ?_ (Wk.mk (fun k=>k) ?_ ?_ ?_) ?_
 ·exact ⟨Nat.zero_le _,fun j hj=>by omega⟩
 ·exact (b2 (b2 (b2 (b2 bn))))
 ·exact (b3 bn)
 ·exact nd Y
 rintro i (hI':i≤f.size∧∀j,j<i→ZN (QA g.Cells j) (QA f j))
 show VRun _ _ _ [(1,(tS f)),(2,(T.op 0 0)),(18,(tN f.size)),(19,(tN i))] (QY [(0,(Obj.cells (Qe false g)))]) 1 _
 have hI1:=hI'.1
 have hgo:gridOk g:=by assumption
 refine sr (fO (Zb (tv (tN i) Y) (tv (tN f.size) Y)) (nt (sq ?_)))
 refine cd (i<f.size) Y (fun fhc1=> ?_) fun fhc1=> ?_
 ·have hgi:=hgo.2.2.2 i (by omega)
  unfold gOk at hgi
  refine sk (tn (sq (VRun.block (sr (mO (tN i) Y (aO (tN i) Y (nt (sq (VRun.draw (B:= [[],[0],[],[2,0,1],[1,0,2,3],[],[],[6,5],[5,6,7],[7,6,5,8,3,2,0,1,4],[4,1,0,2,3,8,5,6,7,9],[9,7,6,5,8,3,2,0,1,4,10],[9,7,6,5,8,3,2,0,1,4,10],[12,10,4,1,0,2,3,8,5,6,7,9,11],[11,9,7,6,5,8,3,2,0,1,4,10,12,13],[13,12,10,4,1,0,2,3,8,5,6,7,9,11,14],[14,11,9,7,6,5,8,3,2,0,1,4,10,12,13,15],[14,11,9,7,6,5,8,3,2,0,1,4,10,12,13,15],[17,15,13,12,10,4,1,0,2,3,8,5,6,7,9,11,14,16],[16,14,11,9,7,6,5,8,3,2,0,1,4,10,12,13,15,17,18],[18,17,16,19,14,11,9,7,6,5,8,3,2,0,1,4,10,12,13,15],[15,13,12,10,4,1,0,2,3,8,5,6,7,9,11,14,19,16,17,18,20],[20,18,17,16,19,14,11,9,7,6,5,8,3,2,0,1,4,10,12,13,15,21],[20,18,17,16,19,14,11,9,7,6,5,8,3,2,0,1,4,10,12,13,15,21],[23,21,15,13,12,10,4,1,0,2,3,8,5,6,7,9,11,14,19,16,17,18,20,22],[22,20,18,17,16,19,14,11,9,7,6,5,8,3,2,0,1,4,10,12,13,15,21,23,24],[24,23,21,15,13,12,10,4,1,0,2,3,8,5,6,7,9,11,14,19,16,17,18,20,22,25],[25,22,23,24,26,20,18,17,16,19,14,11,9,7,6,5,8,3,2,0,1,4,10,12,13,15,21],[21,15,13,12,11,14,19,16,17,18,20,26,24,23,22,25,27,9,7,6,5,8,3,2,0,1,4,10]]) (by kernel_rfl) (by kernel_rfl) (fD (OF.fieldAddrO (tv (T.op 0 0) Y) QN) Y Y (lD (OL.loadO1 (t:=(tS g.Cells)) (tv (T.op 0 2) Y) Y Y Yp) Y Y ?_)))))))))))
  refine mD (tN i) Y Y ?_
  have hb2:i<g.Cells.size:=(by omega)
  refine fD (xix (tv (tS g.Cells) Y) (tv (tN i) Y) hb2 U9) Y Y (fD (Y9 (tv (T.int .u8 (QA g.Cells i)) Y) (VEv.int .u8 35)) Y Y (mD (tS f) Y Y (mD (tN i) Y Y ?_)))
  have hb3:i<f.size:=(by omega)
  refine fD (xix (tv (tS f) Y) (tv (tN i) Y) hb3 U9) Y Y (fD (Y9 (tv (T.int .u8 (QA f i)) Y) (VEv.int .u8 35)) Y Y (fD (B.bneq U4 (c:=(!((decide (QA g.Cells i=35)) == (decide (QA f i=35))))) (tv (tB (decide (QA g.Cells i=35))) Y) (tv (tB (decide (QA f i=35))) Y) Y) Y Y (mD (tB (!((decide (QA g.Cells i=35)) == (decide (QA f i=35))))) Y Y ?_)))
  refine Qdo (!((decide (QA g.Cells i=35)) == (decide (QA f i=35)))) (fun hg32_4=> ?_) (fun hg32_4=> ?_)
  ·have fhg32_4:(!((decide (QA g.Cells i=35)) == (decide (QA f i=35))))=true:=hg32_4
   refine oD Y Y hg32_4 Y (oD Y Y hg32_4 Y (oD Y Y hg32_4 Y (oD Y Y hg32_4 Y (oD Y Y hg32_4 Y (uD Y Y Y (uD Y Y Y (uD Y Y Y (uD Y Y Y (oD Y Y hg32_4 Y (oD Y Y hg32_4 Y (uD Y Y Y ?_)))))))))))
   refine uD Y Y Y (uD Y Y Y (uD Y Y Y (uD Y Y Y (oD Y Y hg32_4 Y (fD (OF.pickT (VEv.tmpB Y hg32_4) (VEv.bool true)) Y Y (VRunD.nil (tn (ct Y (sr (fO (OF.assign (VEv.bool false)) (nt ?_)))))))))))
   refine rt (vinB.r (tr (tr (vinB.r (tr (vb (b':=false) Y ?_))))))
   (symm;rw [decide_eq_false_iff_not];rintro ⟨g1,g2,g3⟩;(have g4:=g3 i fhc1;unfold ZN at g4;simp only [Qlp,decide_eq_true_eq,decide_eq_false_iff_not,Classical.not_not] at *;omega))
  have fhg32_4:(!((decide (QA g.Cells i=35)) == (decide (QA f i=35))))=false:=hg32_4
  refine VRunD.free Y (VWant.on Y Y hg32_4) Y (OF.move (tv (tS f) Y)) (VRunD.free Y (VWant.on Y Y hg32_4) Y (OF.move (tv (tN i) Y)) ?_)
  have hb5:i<f.size:=(by omega)
  refine VRunD.free Y (VWant.on Y Y hg32_4) Y (xix (tv (tS f) Y) (tv (tN i) Y) hb5 U9) (VRunD.free Y (VWant.on Y Y hg32_4) Y (xne (tv (T.int .u8 (QA f i)) Y) (VEv.int .u8 35)) (VRunD.free Y (VWant.on Y Y hg32_4) Y (OF.move (tv (tB (!(decide (QA f i=35)))) Y)) ?_))
  refine gn (QA f i=35) (fun fhg37_6=> ?_) fun fhg37_6=> ?_
  ·refine VRunD.free Y (VWant.on Y Y (ny fhg37_6)) Y (OF.move (tv (tS f) Y)) ?_
   refine VRunD.free Y (VWant.on Y Y (ny fhg37_6)) Y (OF.move (tv (tN i) Y)) ?_
   have hb7:i<f.size:=(by omega)
   refine VRunD.free Y (VWant.on Y Y (ny fhg37_6)) Y (xix (tv (tS f) Y) (tv (tN i) Y) hb7 U9) (VRunD.free Y (VWant.on Y Y (ny fhg37_6)) Y (xne (tv (T.int .u8 (QA f i)) Y) (VEv.int .u8 63)) (VRunD.free Y (VWant.on Y Y hg32_4) Y (OF.pickT (VEv.tmpB Y (ny fhg37_6)) (tv (tB (!(decide (QA f i=63)))) Y)) (VRunD.free Y (VWant.on Y Y hg32_4) Y (OF.move (tv (tB (!(decide (QA f i=63)))) Y)) ?_)))
   refine gn (QA f i=63) (fun fhg43_8=> ?_) fun fhg43_8=> ?_
   ·refine VRunD.free Y (VWant.on Y Y (ny fhg43_8)) Y (OF.move (tv (tS f) Y)) ?_
    refine VRunD.free Y (VWant.on Y Y (ny fhg43_8)) Y (OF.move (tv (tN i) Y)) ?_
    have hb9:i<f.size:=(by omega)
    refine VRunD.free Y (VWant.on Y Y (ny fhg43_8)) Y (xix (tv (tS f) Y) (tv (tN i) Y) hb9 U9) (VRunD.quiet (bi:= [22,20,18,17,16,19,14,11,9,7,6,5,8,3,2,0,1,4,10,12,13,15,21,23,24]) Y (VWant.on Y Y (ny fhg43_8)) Y Y Y bn (cS (vc (tv (T.int .u8 (QA f i)) Y) vn) (ZO Y) (JK (n+1) (QA f i)) Y Y) (VRunD.free Y (VWant.on Y Y (ny fhg43_8)) Y (Q1 (tv (tB (decide (97≤(QA f i)∧(QA f i)≤122))) Y)) (VRunD.free Y (VWant.on Y Y hg32_4) Y (OF.pickT (VEv.tmpB Y (ny fhg43_8)) (tv (tB (!(decide (97≤(QA f i)∧(QA f i)≤122)))) Y)) (fD (OF.pickF (VEv.tmpB Y hg32_4) (tv (tB (!(decide (97≤(QA f i)∧(QA f i)≤122)))) Y)) Y Y (VRunD.nil (tn ?_))))))
    refine cn (97≤(QA f i)∧(QA f i)≤122) Y (fun fhc2=> ?_) fun fhc2=> ?_
    ·refine sr ?_
     refine fO (OF.assign (VEv.bool false)) (nt (rt (vinB.r (tr (tr (vinB.r (tr (vb (b':=false) Y ?_))))))))
     (symm;rw [decide_eq_false_iff_not];rintro ⟨g1,g2,g3⟩;(have g4:=g3 i fhc1;unfold ZN at g4;simp only [Qlp,decide_eq_true_eq,decide_eq_false_iff_not,Classical.not_not] at *;omega))
    refine sk (vinB.n (tn (VRun.region (fO (Qy (tv (tN i) Y) (VEv.int .i64 1) (by omega)) (mO (tN (i+1)) Y (VRunO.nil (tn ?_)))))))
    refine ⟨(i+1:Nat),?_,?_,Wk.mk (fun k=>k) ?_ ?_ ?_⟩
    ·refine QZ hI' fhc1 ?_;unfold ZN;simp only [Qlp,decide_eq_true_eq,decide_eq_false_iff_not,Classical.not_not] at *;omega
    ·omega
    ·exact (b2 (b2 (b2 (b2 bn))))
    ·exact (b3 bn)
    ·exact nd Y
   refine oD Y Y (nz fhg43_8) Y (oD Y Y (nz fhg43_8) Y (oD Y Y (nz fhg43_8) Y (oD Y Y (nz fhg43_8) Y (oD Y Y (nz fhg43_8) Y (VRunD.free Y (VWant.on Y Y hg32_4) Y (OF.pickF (VEv.tmpB Y (nz fhg43_8)) (VEv.bool false)) (fD (OF.pickF (VEv.tmpB Y hg32_4) (tv (tB false) Y)) Y Y (VRunD.nil (tn (cf Y (sk (vinB.n ?_)))))))))))
   refine tn (VRun.region (fO (Qy (tv (tN i) Y) (VEv.int .i64 1) (by omega)) (mO (tN (i+1)) Y (VRunO.nil (tn ?_)))))
   refine ⟨(i+1:Nat),?_,?_,Wk.mk (fun k=>k) ?_ ?_ ?_⟩
   ·refine QZ hI' fhc1 ?_;unfold ZN;simp only [Qlp,decide_eq_true_eq,decide_eq_false_iff_not,Classical.not_not] at *;omega
   ·omega
   ·exact (b2 (b2 (b2 (b2 bn))))
   ·exact (b3 bn)
   ·exact nd Y
  refine oD Y Y (nz fhg37_6) Y (oD Y Y (nz fhg37_6) Y (oD Y Y (nz fhg37_6) Y (oD Y Y (nz fhg37_6) Y (VRunD.free Y (VWant.on Y Y hg32_4) Y (OF.pickF (VEv.tmpB Y (nz fhg37_6)) (VEv.bool false)) (VRunD.free Y (VWant.on Y Y hg32_4) Y (OF.move (tv (tB false) Y)) (VRunD.off Y (VWant.not (b:=false) Y Y Y) (VRunD.off Y (VWant.not (b:=false) Y Y Y) (VRunD.off Y (VWant.not (b:=false) Y Y Y) (VRunD.off Y (VWant.not (b:=false) Y Y Y) (VRunD.off Y (VWant.not (b:=false) Y Y Y) (VRunD.free Y (VWant.on Y Y hg32_4) Y (OF.pickF (tv (tB false) Y) (VEv.bool false)) ?_)))))))))))
  refine fD (OF.pickF (VEv.tmpB Y hg32_4) (tv (tB false) Y)) Y Y (VRunD.nil (tn (cf Y (sk (vinB.n (tn (VRun.region (fO (Qy (tv (tN i) Y) (VEv.int .i64 1) (by omega)) (mO (tN (i+1)) Y (VRunO.nil (tn ?_)))))))))))
  refine ⟨(i+1:Nat),?_,?_,Wk.mk (fun k=>k) ?_ ?_ ?_⟩
  ·refine QZ hI' fhc1 ?_;unfold ZN;simp only [Qlp,decide_eq_true_eq,decide_eq_false_iff_not,Classical.not_not] at *;omega
  ·omega
  ·exact (b2 (b2 (b2 (b2 bn))))
  ·exact (b3 bn)
  ·exact nd Y
 refine VRun.exit (vthn.e (vthn.e (vinB.e (tn (sr (fO (OF.assign (VEv.bool true)) (nt (rt (vb (b':=true) Y ?_)))))))))
 (symm;rw [decide_eq_true_eq];refine ⟨?_,?_,ZY hI' fhc1⟩<;>assumption)
theorem Qfm (n:Nat) (g:D.Grid) (c:Int) (hc:g.Cells.size≤maxLen):Pure (Qs Tryz.prog (n+3)) 83 [(T.agg (Qe false g)),(tI c)] (tB (decide (gridOk g∧(0≤c∧c≤((g.Cells.size:Nat):Int) - 1)∧QA g.Cells (Int.toNat c)=46))):=by
 refine Pure.intro (rs:= [ResultVar.tmp 4]) Tryz.func83 Y Y Y (E0:= [(0,(T.agg (Qe false g))),(1,(tI c))]) Y ?_
 obtain ⟨hlim,hmx,hmax⟩:=QG
 refine sr (kO (B.box (ts:=(Qe false g)) (tv (T.agg (Qe false g)) Y) nofun Y) (fO (OF.assign (VEv.bool false)) (nt (sr (lO (OL.loadOn (us:=(Qe false g)) (tv (T.op 0 0) Y) Y Q4 QX (lb Y) Y) (cO (cS (vc (tv (T.agg (Qe false g)) Y) vn) (LendL.cons (lg Qw) ln) (Z8 (n+0) g (by assumption)) Y Y) (mO (tB (decide (gridOk g))) Y ?_)))))))
 refine gw (gridOk g) (fun fhg7_1=> ?_) fun fhg7_1=> ?_
 ·refine gF (dy fhg7_1) Y Y (OF.move (tv (tI c) Y)) ?_
  refine Yx (tS g.Cells) (dy fhg7_1) Y Y Y Y QN Y Y Yp (gL (dy fhg7_1) Y Y (B.lenS (tv (tS g.Cells) Y) U9) (gF (dy fhg7_1) Y Y (B.sub (n:=(((g.Cells.size:Nat):Int) - 1)) (tv (tN g.Cells.size) Y) (VEv.int .i64 1) (by (rw [Qx (by omega)];done))) (VRunO.chain (VWant.on Y Y (dy fhg7_1)) (cS (vc (tv (tI c) Y) (vc (VEv.int .i64 0) (vc (tv (tI (((g.Cells.size:Nat):Int) - 1)) Y) vn))) (ZO Y) (QT (n+1) c 0 (((g.Cells.size:Nat):Int) - 1)) Y Y) (fO (OF.pickT (VEv.tmpB Y (dy fhg7_1)) (tv (tB (decide (0≤c∧c≤(((g.Cells.size:Nat):Int) - 1)))) Y)) (mO (tB (decide (0≤c∧c≤(((g.Cells.size:Nat):Int) - 1)))) Y ?_)))))
  refine gw (0≤c∧c≤(((g.Cells.size:Nat):Int) - 1)) (fun fhg15_2=> ?_) fun fhg15_2=> ?_
  ·refine Yx (tS g.Cells) (dy fhg15_2) Y Y Y Y QN Y Y Yp ?_
   refine gF (dy fhg15_2) Y Y (OF.move (tv (tI c) Y)) ?_
   have hb3:(Int.toNat c)<g.Cells.size:=(by omega)
   refine gF (dy fhg15_2) Y Y (B.index (n:=(QA g.Cells (Int.toNat c))) (i:=(Int.toNat c)) (tv (tS g.Cells) Y) (tv (tI c) Y) (by omega) hb3 U9 (Jc hb3)) (gF (dy fhg15_2) Y Y (Y9 (tv (T.int .u8 (QA g.Cells (Int.toNat c))) Y) (VEv.int .u8 46)) (fO (OF.pickT (VEv.tmpB Y (dy fhg15_2)) (tv (tB (decide (QA g.Cells (Int.toNat c)=46))) Y)) (aO (tB (decide (QA g.Cells (Int.toNat c)=46))) Y (nt (rt (vb (b':=(decide (QA g.Cells (Int.toNat c)=46))) Y ?_))))))
   (refine Q6 ⟨fun h=>⟨?_,?_,h⟩,fun h=>h.2.2⟩<;>assumption)
  refine QE 5 10 true 15 (dz fhg15_2) Y Y Y (fO (OF.pickF (VEv.tmpB Y (dz fhg15_2)) (VEv.bool false)) (aO (tB false) Y (nt (rt (vb (b':=false) Y ?_)))))
  (symm;rw [decide_eq_false_iff_not];rintro ⟨g1,g2,g3⟩;contradiction)
 refine QE 6 2 true 7 (dz fhg7_1) Y Y Y (fO (OF.pickF (VEv.tmpB Y (dz fhg7_1)) (VEv.bool false)) (mO (tB false) Y (QE 5 10 true 15 (b:=false) Y Y Y Y (fO (OF.pickF (tv (tB false) Y) (VEv.bool false)) (aO (tB false) Y (nt (rt (vb (b':=false) Y ?_))))))))
 (symm;rw [decide_eq_false_iff_not];rintro ⟨g1,g2,g3⟩;contradiction)
theorem Qhc (n:Nat) (l:List Int) (v:Int) (hl:l.length≤YG):Pure (Qs Tryz.prog (n+1)) 93 [(rd 1 Qb l),(tI v)] (tB (decide (v∈l))):=by
 refine Pure.intro (rs:= [ResultVar.tmp 4]) Tryz.func93 Y Y Y (E0:= [(0,(rd 1 Qb l)),(1,(tI v))]) Y ?_
 obtain ⟨hlim,hmx,hmax⟩:=QG
 refine sr (fO (OF.assign (VEv.bool false)) (nt (sq (sr (fO (OF.assign (VEv.int .i64 0)) (nt (VRun.block ?_)))))))
 refine VRun.loop (A:=Nat) (fun s_=> [(0,(rd 1 Qb l)),(1,(tI v)),(5,(tN s_))]) (fun s_=>QY []) 0 (fun s_=>NoneTo (fun y=>y=v) l s_) (fun s_=>l.length - s_) (0:Nat) ?_ (Wk.mk (fun k=>k) ?_ ?_ ?_) ?_
 ·exact NoneTo.start _ _
 ·exact (b2 (b2 (b2 bn)))
 ·exact bn
 ·exact nd Y
 rintro i (hI':NoneTo (fun y=>y=v) l i)
 show VRun _ _ _ [(0,(rd 1 Qb l)),(1,(tI v)),(5,(tN i))] (QY []) 0 _
 have hI1:=hI'.1
 refine sq (sr (mO (tN i) Y (mO (rd 1 Qb l) Y (lO (B.lenR (m:=l.length) (tv (rd 1 Qb l) Y) Zr (List.length_map ..)) (fO (Zb (tv (tN i) Y) (tv (tN l.length) Y)) (nt ?_))))))
 refine cd (i<l.length) Y (fun fhc0=> ?_) fun fhc0=> ?_
 ·refine sk ?_
  refine tn (sq (VRun.block (sr (mO (rd 1 Qb l) Y (mO (tN i) Y ?_)))))
  obtain ⟨x1,hx1⟩:∃x,l[i]? =some x:=⟨_,List.getElem?_eq_getElem (by omega)⟩
  refine fO (OF.indexAddrR (row:=(Qb false x1)) (i:=i) (tv (rd 1 Qb l) Y) (tv (tN i) Y) Y (Qt _ hx1) Zr Zd Yo) (lO (OL.loadR1 (t:=(tI x1)) (tv (T.rp [(tI x1)]) Y) Y QQ) (mO (tI v) Y (fO (Y9 (tv (tI x1) Y) (tv (tI v) Y)) (nt ?_))))
  refine cd (x1=v) Y (fun fhc1=> ?_) fun fhc1=> ?_
  ·refine sr ?_
   refine fO (OF.assign (VEv.bool true)) (nt (rt (vinB.r (tr (tr (vinB.r (tr (vb (b':=true) Y ?_))))))))
   symm;rw [decide_eq_true_eq,← fhc1];exact List.mem_of_getElem? hx1
  refine sk (vinB.n (tn (VRun.region (mO (tN i) Y (fO (Qy (tv (tN i) Y) (VEv.int .i64 1) (by omega)) (aO (tN (i+1)) Y (VRunO.nil (tn ?_))))))))
  refine ⟨(i+1:Nat),?_,?_,Wk.mk (fun k=>k) ?_ ?_ ?_⟩
  ·exact hI'.next hx1 fhc1
  ·omega
  ·exact (b2 (b2 (b2 bn)))
  ·exact bn
  ·exact nd Y
 refine VRun.exit (vthn.e (vthn.e (vinB.e (tn (sr (fO (OF.assign (VEv.bool false)) (nt (rt (vb (b':=false) Y ?_)))))))))
 symm;rw [decide_eq_false_iff_not];intro h;exact hI'.mem fhc0 v h Y
theorem Qa0 (n:Nat) (a:List Int) (b:Int) (ha:a.length≤YG):Pure (Qs Tryz.prog (n+1)) 125 [(rd 1 Qb a),(tI b)] (tI (ixF (fun y=>b=y) a)):=by
 refine Pure.intro (rs:= [ResultVar.tmp 4]) Tryz.func125 Y Y Y (E0:= [(0,(rd 1 Qb a)),(1,(tI b))]) Y ?_
 obtain ⟨hlim,hmx,hmax⟩:=QG
 refine sr (fO (OF.assign (VEv.int .i64 0)) (nt (sq (sr (mO (rd 1 Qb a) Y (lO (B.lenR (m:=a.length) (tv (rd 1 Qb a) Y) Zr (List.length_map ..)) (fO (OF.move (VEv.int .i64 0)) (nt (VRun.block ?_)))))))))
 refine VRun.loop (A:=Nat) (fun s_=> [(0,(rd 1 Qb a)),(1,(tI b)),(7,(tN a.length)),(8,(tN s_))]) (fun s_=>QY []) 0 (fun s_=>NoneTo (fun y=>b=y) a s_) (fun s_=>a.length - s_) (0:Nat) ?_ (Wk.mk (fun k=>k) ?_ ?_ ?_) ?_
 ·exact NoneTo.start _ _
 ·exact (b2 (b2 (b2 (b2 bn))))
 ·exact bn
 ·exact nd Y
 rintro i (hI':NoneTo (fun y=>b=y) a i)
 show VRun _ _ _ [(0,(rd 1 Qb a)),(1,(tI b)),(7,(tN a.length)),(8,(tN i))] (QY []) 0 _
 have hI1:=hI'.1
 refine sr (fO (Zb (tv (tN i) Y) (tv (tN a.length) Y)) (nt (sq ?_)))
 refine cd (i<a.length) Y (fun fhc0=> ?_) fun fhc0=> ?_
 ·refine sk ?_
  refine tn (sq (VRun.block (sr (mO (tN i) Y (aO (tN i) Y (nt (sr (mO (tI b) Y (mO (rd 1 Qb a) Y (mO (tN i) Y ?_))))))))))
  obtain ⟨x1,hx1⟩:∃x,a[i]? =some x:=⟨_,List.getElem?_eq_getElem (by omega)⟩
  refine fO (OF.indexAddrR (row:=(Qb false x1)) (i:=i) (tv (rd 1 Qb a) Y) (tv (tN i) Y) Y (Qt _ hx1) Zr Zd Yo) (lO (OL.loadR1 (t:=(tI x1)) (tv (T.rp [(tI x1)]) Y) Y QQ) (fO (Y9 (tv (tI b) Y) (tv (tI x1) Y)) (nt ?_)))
  refine cd (b=x1) Y (fun fhc1=> ?_) fun fhc1=> ?_
  ·refine sr ?_
   refine mO (tN i) Y (aO (tN i) Y (nt (rt (vinB.r (tr (tr (vinB.r (tr (vi (n':=((i:Nat):Int)) Y ?_)))))))))
   exact (Qek hx1 fhc1 hI'.2).symm
  refine sk (vinB.n (tn (VRun.region (fO (Qy (tv (tN i) Y) (VEv.int .i64 1) (by omega)) (mO (tN (i+1)) Y (VRunO.nil (tn ?_)))))))
  refine ⟨(i+1:Nat),?_,?_,Wk.mk (fun k=>k) ?_ ?_ ?_⟩
  ·exact hI'.next hx1 fhc1
  ·omega
  ·exact (b2 (b2 (b2 (b2 bn))))
  ·exact bn
  ·exact nd Y
 refine VRun.exit (vthn.e (vthn.e (vinB.e (tn (sr (fO (OF.assign (VEv.int .i64 (-1))) (nt (rt (vi (n':=(-1)) Y ?_)))))))))
 exact (Qfz (hI'.all fhc0)).symm
theorem J4 (n:Nat) (a:List Int) (b:Int) (ha:a.length≤YG):Pure (Qs Tryz.prog (n+2)) 96 [(rd 1 Qb a),(tI b)] (tB (decide (b∈a))):=by
 refine Pure.intro (rs:= [ResultVar.tmp 4]) Tryz.func96 Y Y Y (E0:= [(0,(rd 1 Qb a)),(1,(tI b))]) Y ?_
 obtain ⟨hlim,hmx,hmax⟩:=QG
 refine sr (fO (OF.assign (VEv.bool false)) (nt (sr (mO (rd 1 Qb a) Y (mO (tI b) Y (cO (cS (vc (tv (rd 1 Qb a) Y) (vc (tv (tI b) Y) vn)) (ZO Y) (Qa0 (n+0) a b (by assumption)) Y Y) (fO (xge (tv (tI (ixF (fun y=>b=y) a)) Y) (VEv.int .i64 0)) (aO (tB (decide (0≤ixF (fun y=>b=y) a))) Y (nt (rt (vb (b':=(decide (0≤ixF (fun y=>b=y) a))) Y ?_)))))))))))
 refine Q6 ?_
 rw [QjE]
 exact ⟨fun ⟨x,h1,h2⟩=>h2▸h1,fun h=>⟨b,h,rfl⟩⟩
noncomputable section
def QaF (ok:Nat→Prop) [DecidablePred ok]:Nat→Nat→Nat
 | 0,n=>n
 | f+1,n=>if ok n then QaF ok f (n+1) else n
theorem Qg4 {ok:Nat→Prop} [DecidablePred ok] {n:Nat} (h:ok n) (hn:n<6):QaF ok (6 - n) n=QaF ok (6 - (n+1)) (n+1):=by
 obtain ⟨k,hk⟩:∃k,6 - n=k+1:=⟨5 - n,by omega⟩
 rw [hk,show 6 - (n+1)=k by omega]
 simp only [QaF,if_pos h]
theorem Qh1 {ok:Nat→Prop} [DecidablePred ok] {n f:Nat} (h:¬ok n):QaF ok f n=n:=by
 cases f with
 | zero=>rfl
 | succ f=>simp only [QaF,if_neg h]
def slA (g:D.Grid) (cell n:Nat):Prop:=((cell % g.Cols.toNat+n:Nat):Int)<g.Cols∧QA g.Cells (cell+n*1)=46
def slD (g:D.Grid) (cell n:Nat):Prop:=((cell / g.Cols.toNat+n:Nat):Int)<g.Rows∧QA g.Cells (Int.toNat (((cell:Nat):Int)+((n:Nat):Int)*g.Cols))=46
instance (g:D.Grid) (cell:Nat):DecidablePred (slA g cell):=fun _=>Classical.propDecidable _
instance (g:D.Grid) (cell:Nat):DecidablePred (slD g cell):=fun _=>Classical.propDecidable _
def QgN (g:D.Grid) (cell:Nat):Nat:=if QA g.Cells cell=46∧¬(0<cell % g.Cols.toNat∧QA g.Cells (Int.toNat (((cell:Nat):Int) - 1))=46) then QaF (slA g cell) 6 0 else 0
def QgU (g:D.Grid) (cell:Nat):Nat:=if QA g.Cells cell=46∧¬(0<cell / g.Cols.toNat∧QA g.Cells (Int.toNat (((cell:Nat):Int) - g.Cols))=46) then QaF (slD g cell) 6 0 else 0
def Qr (g:D.Grid) (cell:Nat) (down:Bool):Nat:=if down=true then QgU g cell else QgN g cell
theorem Qm8 {c:Nat} {w:Int} (h:2≤w):((c:Nat):Int).tmod w=((c % w.toNat:Nat):Int):=by
 obtain ⟨k,rfl⟩:=Int.eq_ofNat_of_zero_le (show 0≤w by omega)
 rfl
theorem Qnq {c:Nat} {w:Int} (h:2≤w) (hc:c≤36):IntKind.i64.wrap (((c:Nat):Int).tdiv w)=((c / w.toNat:Nat):Int):=by
 obtain ⟨k,rfl⟩:=Int.eq_ofNat_of_zero_le (show 0≤w by omega)
 have:c / k≤c:=Nat.div_le_self _ _
 show IntKind.i64.wrap ((c / k:Nat):Int)=((c / k:Nat):Int)
 generalize c / k=q at *
 rw [Qx (by omega)]
theorem Qe2 {n:Nat} {c:Int} (h:n≤6) (h2:2≤c) (h3:c≤6):0≤((n:Nat):Int)*c∧((n:Nat):Int)*c≤36:=by
 have e1:0≤((n:Nat):Int)*c:=Int.mul_nonneg (by omega) (by omega)
 have e2:((n:Nat):Int)*c≤6*6:=Int.mul_le_mul (by omega) h3 (by omega) (by decide)
 omega
theorem QgL {n:Nat} {c:Int} (h:n≤6) (h2:2≤c) (h3:c≤6):IntKind.i64.wrap (((n:Nat):Int)*c)=((n:Nat):Int)*c:=by
 have:=Qe2 h h2 h3
 rw [Qx (by omega)]
theorem Qcc {g:D.Grid} {cell:Nat} (hg:gridOk g) (hc:cell<g.Cells.size):(cell % g.Cols.toNat<g.Cols.toNat∧cell / g.Cols.toNat<g.Rows.toNat)∧(0<cell % g.Cols.toNat→1≤cell)∧(0<cell / g.Cols.toNat→g.Cols.toNat≤cell)∧(∀n:Nat,((cell % g.Cols.toNat+n:Nat):Int)<g.Cols→cell+n<g.Cells.size)∧∀n:Nat,((cell / g.Cols.toNat+n:Nat):Int)<g.Rows→((cell:Nat):Int)+((n:Nat):Int)*g.Cols<g.Cells.size:=by
 obtain ⟨⟨a1,a2⟩,⟨b1,b2⟩,hs,_⟩:=hg
 obtain ⟨w,hw⟩:=Int.eq_ofNat_of_zero_le (show 0≤g.Cols by omega)
 obtain ⟨r,hr⟩:=Int.eq_ofNat_of_zero_le (show 0≤g.Rows by omega)
 have hs2:g.Cells.size=r*w:=by rw [hw,hr] at hs;exact_mod_cast hs
 have hw0:0<w:=by omega
 have hwn:g.Cols.toNat=w:=by omega
 have hrn:g.Rows.toNat=r:=by omega
 rw [hwn,hrn]
 have h1:cell % w<w:=Nat.mod_lt _ hw0
 have h2:cell / w<r:=(Nat.div_lt_iff_lt_mul hw0).2 (hs2▸hc)
 have h3:w*(cell / w)+cell % w=cell:=Nat.div_add_mod cell w
 have h4:∀k,k<r→w*k+w≤r*w:=fun k hk=>by
  have:=Nat.mul_le_mul_left w (show k+1≤r from hk)
  rw [Nat.mul_add,Nat.mul_one,Nat.mul_comm w r] at this
  exact this
 refine ⟨⟨h1,h2⟩,fun h=> ?_,fun h=> ?_,fun n hn=> ?_,fun n hn=> ?_⟩
 ·have:=Nat.mod_le cell w;omega
 ·have:=Nat.mul_le_mul_left w (show 1≤cell / w from h)
  rw [Nat.mul_one] at this
  generalize w*(cell / w)=q2 at *
  generalize cell % w=q3 at *
  omega
 ·have:=h4 _ h2
  generalize w*(cell / w)=q2 at *
  generalize cell % w=q3 at *
  omega
 ·have h5:=h4 (cell / w+n) (by omega)
  rw [Nat.mul_add] at h5
  have h6:((n:Nat):Int)*g.Cols=((w*n:Nat):Int):=by rw [hw,Int.mul_comm];rfl
  rw [h6]
  generalize w*n=q at *
  generalize w*(cell / w)=q2 at *
  generalize cell % w=q3 at *
  omega
theorem QiX {g:D.Grid} {cell:Nat} (h:¬QA g.Cells cell=46∨(0<cell % g.Cols.toNat∧QA g.Cells (Int.toNat (((cell:Nat):Int) - 1))=46)):QgN g cell=0:=if_neg (by omega)
theorem QjD {g:D.Grid} {cell:Nat} (h:¬QA g.Cells cell=46∨(0<cell / g.Cols.toNat∧QA g.Cells (Int.toNat (((cell:Nat):Int) - g.Cols))=46)):QgU g cell=0:=if_neg (by omega)
theorem QkQ {g:D.Grid} {cell n:Nat} (h:QA g.Cells cell=46∧¬(0<cell % g.Cols.toNat∧QA g.Cells (Int.toNat (((cell:Nat):Int) - 1))=46)) (hr:QaF (slA g cell) 6 0=QaF (slA g cell) (6 - n) n) (hn:¬slA g cell n):QgN g cell=n:=by
 rw [QgN,if_pos h,hr,Qh1 hn]
theorem Qk0 {g:D.Grid} {cell n:Nat} (h:QA g.Cells cell=46∧¬(0<cell / g.Cols.toNat∧QA g.Cells (Int.toNat (((cell:Nat):Int) - g.Cols))=46)) (hr:QaF (slD g cell) 6 0=QaF (slD g cell) (6 - n) n) (hn:¬slD g cell n):QgU g cell=n:=by
 rw [QgU,if_pos h,hr,Qh1 hn]
theorem zD {g:D.Grid} {cell:Nat} {down:Bool} (hd:down=true) (h:¬QA g.Cells cell=46∨(0<cell / g.Cols.toNat∧QA g.Cells (Int.toNat (((cell:Nat):Int) - g.Cols))=46)):(0:Int)=((Qr g cell down:Nat):Int):=by
 rw [Qr,if_pos hd,QjD h];rfl
theorem zA {g:D.Grid} {cell:Nat} {down:Bool} (hd:down=false) (h:¬QA g.Cells cell=46∨(0<cell % g.Cols.toNat∧QA g.Cells (Int.toNat (((cell:Nat):Int) - 1))=46)):(0:Int)=((Qr g cell down:Nat):Int):=by
 rw [Qr,if_neg (by simp [hd]),QiX h];rfl
def Jm (g:D.Grid) (cell:Nat) (down:Bool) (n:Nat):Prop:=if down=true then QaF (slD g cell) 6 0=QaF (slD g cell) (6 - n) n else QaF (slA g cell) 6 0=QaF (slA g cell) (6 - n) n
theorem Y2 (g:D.Grid) (cell:Nat) (down:Bool):Jm g cell down 0:=by
 unfold Jm
 split<;>rfl
theorem rD {g:D.Grid} {cell n:Nat} {down:Bool} (hd:down=true) (h:QA g.Cells cell=46∧¬(0<cell / g.Cols.toNat∧QA g.Cells (Int.toNat (((cell:Nat):Int) - g.Cols))=46)) (hr:Jm g cell down n) (hn:¬slD g cell n):((n:Nat):Int)=((Qr g cell down:Nat):Int):=by
 rw [Jm,if_pos hd] at hr
 rw [Qr,if_pos hd,Qk0 h hr hn]
theorem rA {g:D.Grid} {cell n:Nat} {down:Bool} (hd:down=false) (h:QA g.Cells cell=46∧¬(0<cell % g.Cols.toNat∧QA g.Cells (Int.toNat (((cell:Nat):Int) - 1))=46)) (hr:Jm g cell down n) (hn:¬slA g cell n):((n:Nat):Int)=((Qr g cell down:Nat):Int):=by
 rw [Jm,if_neg (by simp [hd])] at hr
 rw [Qr,if_neg (by simp [hd]),QkQ h hr hn]
theorem QjU {g:D.Grid} {cell n:Nat} {down:Bool} (hd:down=true) (hr:Jm g cell down n) (hn:slD g cell n) (h6:n<6):Jm g cell down (n+1):=by
 rw [Jm,if_pos hd] at *
 rw [hr,Qg4 hn h6]
theorem QjO {g:D.Grid} {cell n:Nat} {down:Bool} (hd:down=false) (hr:Jm g cell down n) (hn:slA g cell n) (h6:n<6):Jm g cell down (n+1):=by
 rw [Jm,if_neg (by simp [hd])] at *
 rw [hr,Qg4 hn h6]
end
theorem QcG (n:Nat) (g:D.Grid) (cell:Nat) (down:Bool) (hg:gridOk g) (hc:cell<g.Cells.size):Pure (Qs Tryz.prog (n+1)) 131 [(T.agg (Qe false g)),(tN cell),(tB down)] (tN (Qr g cell down)):=by
 refine Pure.intro (rs:= [ResultVar.tmp 6]) Tryz.func131 Y Y Y (E0:= [(0,(T.agg (Qe false g))),(1,(tN cell)),(2,(tB down))]) Y ?_
 obtain ⟨hlim,hmx,hmax⟩:=QG
 have hsz:=hg.size
 have hA:=hg.1
 have hB:=hg.2.1
 obtain ⟨hC1,hC2,hC3,hC4,hC5⟩:=Qcc hg hc
 have hq0:0≤((cell:Nat):Int) / ((g.Cols.toNat:Nat):Int):=Int.ediv_nonneg (by omega) (by omega)
 have hm0:0≤((cell:Nat):Int) % ((g.Cols.toNat:Nat):Int):=Int.emod_nonneg _ (by omega)
 refine sr (kO (B.box (ts:=(Qe false g)) (tv (T.agg (Qe false g)) Y) nofun Y) (fO (OF.assign (VEv.int .i64 0)) (nt (sr (fO (OF.assign (VEv.int .i64 1)) (nt (sr (mO (tN cell) Y (lf (tI g.Cols) Y Zx Y Y QQ (fO (B.rem (n:=((cell % g.Cols.toNat:Nat):Int)) (tv (tN cell) Y) (tv (tI g.Cols) Y) (by omega) (by (refine Qm8 ?_;omega))) (aO (tN (cell % g.Cols.toNat)) Y ?_)))))))))))
 refine nt (sr (lf (tI g.Cols) Y Zx Y Y QQ (aO (tI g.Cols) Y (nt (sq (sr (mO (tB down) Y (nt ?_))))))))
 refine VRun.cond (tv (tB down) Y) (fun hc0=> ?_) (fun hc0=> ?_)
 ·have fhc0:down=true:=hc0
  refine sr (lf (tI g.Cols) Y Zx Y Y QQ (aO (tI g.Cols) Y (nt (sr (mO (tN cell) Y (lf (tI g.Cols) Y Zx Y Y QQ (fO (B.quo (n:=((cell / g.Cols.toNat:Nat):Int)) (tv (tN cell) Y) (tv (tI g.Cols) Y) (by omega) (by (refine Qnq ?_ ?_<;>omega))) (aO (tN (cell / g.Cols.toNat)) Y (nt (VRun.region (lf (tI g.Rows) Y QaK Y Y QQ ?_)))))))))))
  refine aO (tI g.Rows) Y (VRunO.nil (tn (sq (sr (lf (tS g.Cells) Y QN Y Y Yp (mO (tN cell) Y ?_))))))
  have hb1:cell<g.Cells.size:=(by omega)
  refine fO (xix (tv (tS g.Cells) Y) (tv (tN cell) Y) hb1 U9) (fO (xne (tv (T.int .u8 (QA g.Cells cell)) Y) (VEv.int .u8 46)) (mO (tB (!(decide (QA g.Cells cell=46)))) Y ?_))
  refine gn (QA g.Cells cell=46) (fun fhg31_2=> ?_) fun fhg31_2=> ?_
  ·refine QE 3 5 false 31 (ny fhg31_2) Y Y Y ?_
   refine QaQ 7 8 true 34 Y Y Y (oO Y Y (ny fhg31_2) (fO (OF.pickT (VEv.tmpB Y (ny fhg31_2)) (VEv.bool true)) (nt (ct Y (sr (fO (OF.assign (VEv.int .i64 0)) (nt (rt (tr (vi (n':=0) Y ?_))))))))))
   (refine zD fhc0 ?_;omega)
  refine gF (nz fhg31_2) Y Y (OF.move (tv (tN (cell / g.Cols.toNat)) Y)) (gF (nz fhg31_2) Y Y (B.gtr (c:=(decide (0<cell / g.Cols.toNat))) (tv (tN (cell / g.Cols.toNat)) Y) (VEv.int .i64 0) (by exact Q6 (by omega))) (gF (nz fhg31_2) Y Y (OF.move (tv (tB (decide (0<cell / g.Cols.toNat))) Y)) ?_))
  refine gw (0<cell / g.Cols.toNat) (fun fhg34_3=> ?_) fun fhg34_3=> ?_
  ·refine Yx (tS g.Cells) (dy fhg34_3) Y Y Y Y QN Y Y Yp ?_
   refine gF (dy fhg34_3) Y Y (OF.move (tv (tN cell) Y)) (gF (dy fhg34_3) Y Y (OF.move (tv (tI g.Cols) Y)) (gF (dy fhg34_3) Y Y (B.sub (n:=(((cell:Nat):Int) - g.Cols)) (tv (tN cell) Y) (tv (tI g.Cols) Y) (by (rw [Qx (by omega)];done))) ?_))
   have hb4:(Int.toNat (((cell:Nat):Int) - g.Cols))<g.Cells.size:=(by omega)
   refine gF (dy fhg34_3) Y Y (B.index (n:=(QA g.Cells (Int.toNat (((cell:Nat):Int) - g.Cols)))) (i:=(Int.toNat (((cell:Nat):Int) - g.Cols))) (tv (tS g.Cells) Y) (tv (tI (((cell:Nat):Int) - g.Cols)) Y) (by omega) hb4 U9 (Jc hb4)) (gF (dy fhg34_3) Y Y (Y9 (tv (T.int .u8 (QA g.Cells (Int.toNat (((cell:Nat):Int) - g.Cols)))) Y) (VEv.int .u8 46)) (gF (nz fhg31_2) Y Y (OF.pickT (VEv.tmpB Y (dy fhg34_3)) (tv (tB (decide (QA g.Cells (Int.toNat (((cell:Nat):Int) - g.Cols))=46))) Y)) (fO (OF.pickF (VEv.tmpB Y (nz fhg31_2)) (tv (tB (decide (QA g.Cells (Int.toNat (((cell:Nat):Int) - g.Cols))=46))) Y)) (nt ?_))))
   refine cd (QA g.Cells (Int.toNat (((cell:Nat):Int) - g.Cols))=46) Y (fun fhc1=> ?_) fun fhc1=> ?_
   ·refine sr ?_
    refine fO (OF.assign (VEv.int .i64 0)) (nt (rt (tr (vi (n':=0) Y ?_))))
    (refine zD fhc0 ?_;omega)
   refine sk (tn (sr (fO (OF.assign (VEv.int .i64 0)) (nt (sq (VRun.block ?_))))))
   refine VRun.loop (A:=Nat) (fun s_=> [(1,(tN cell)),(3,(T.op 0 0)),(6,(tN 0)),(7,(tI g.Cols)),(8,(tN (cell / g.Cols.toNat))),(9,(tI g.Rows)),(10,(tN s_))]) (fun s_=>QY [(0,(Obj.cells (Qe false g)))]) 1 (fun s_=>s_≤6∧Jm g cell down s_) (fun s_=>6 - s_) (0:Nat) ?_ (Wk.mk (fun k=>k) ?_ ?_ ?_) ?_
   ·exact ⟨Nat.zero_le _,Y2 _ _ _⟩
   ·exact (b2 (b2 (b2 (b2 (b2 (b2 (b2 bn)))))))
   ·exact (b3 bn)
   ·exact nd Y
   rintro n (hI':n≤6∧Jm g cell down n)
   show VRun _ _ _ [(1,(tN cell)),(3,(T.op 0 0)),(6,(tN 0)),(7,(tI g.Cols)),(8,(tN (cell / g.Cols.toNat))),(9,(tI g.Rows)),(10,(tN n))] (QY [(0,(Obj.cells (Qe false g)))]) 1 _
   have hI1:=hI'.1
   have hN:=Qe2 hI1 hB.1 hB.2
   have hC6:=hC4 n
   have hC7:=hC5 n
   refine sq (sr (mO (tN (cell / g.Cols.toNat)) Y (mO (tN n) Y (fO (B.add (n:=(((cell / g.Cols.toNat+n):Nat):Int)) (tv (tN (cell / g.Cols.toNat)) Y) (tv (tN n) Y) (by (rw [Qx (by omega)];omega))) (mO (tI g.Rows) Y (fO (xls (tv (tN (cell / g.Cols.toNat+n)) Y) (tv (tI g.Rows) Y)) (mO (tB (decide ((((cell / g.Cols.toNat+n):Nat):Int)<g.Rows))) Y ?_)))))))
   refine gw ((((cell / g.Cols.toNat+n):Nat):Int)<g.Rows) (fun fhg49_5=> ?_) fun fhg49_5=> ?_
   ·refine Yx (tS g.Cells) (dy fhg49_5) Y Y Y Y QN Y Y Yp ?_
    refine gF (dy fhg49_5) Y Y (OF.move (tv (tN cell) Y)) (gF (dy fhg49_5) Y Y (OF.move (tv (tN n) Y)) (gF (dy fhg49_5) Y Y (OF.move (tv (tI g.Cols) Y)) (gF (dy fhg49_5) Y Y (B.mul (n:=(((n:Nat):Int)*g.Cols)) (tv (tN n) Y) (tv (tI g.Cols) Y) (by (refine QgL ?_ ?_ ?_<;>omega))) (gF (dy fhg49_5) Y Y (B.add (n:=(((cell:Nat):Int)+(((n:Nat):Int)*g.Cols))) (tv (tN cell) Y) (tv (tI (((n:Nat):Int)*g.Cols)) Y) (by (rw [Qx (by omega)];done))) ?_))))
    have hb6:(Int.toNat (((cell:Nat):Int)+(((n:Nat):Int)*g.Cols)))<g.Cells.size:=(by omega)
    refine gF (dy fhg49_5) Y Y (B.index (n:=(QA g.Cells (Int.toNat (((cell:Nat):Int)+(((n:Nat):Int)*g.Cols))))) (i:=(Int.toNat (((cell:Nat):Int)+(((n:Nat):Int)*g.Cols)))) (tv (tS g.Cells) Y) (tv (tI (((cell:Nat):Int)+(((n:Nat):Int)*g.Cols))) Y) (by omega) hb6 U9 (Jc hb6)) (gF (dy fhg49_5) Y Y (Y9 (tv (T.int .u8 (QA g.Cells (Int.toNat (((cell:Nat):Int)+(((n:Nat):Int)*g.Cols))))) Y) (VEv.int .u8 46)) (fO (OF.pickT (VEv.tmpB Y (dy fhg49_5)) (tv (tB (decide (QA g.Cells (Int.toNat (((cell:Nat):Int)+(((n:Nat):Int)*g.Cols)))=46))) Y)) (nt ?_)))
    refine cd (QA g.Cells (Int.toNat (((cell:Nat):Int)+(((n:Nat):Int)*g.Cols)))=46) Y (fun fhc2=> ?_) fun fhc2=> ?_
    ·refine sk ?_
     refine tn (VRun.block (VRun.region (mO (tN n) Y (fO (Qy (tv (tN n) Y) (VEv.int .i64 1) (by omega)) (aO (tN (n+1)) Y (VRunO.nil (vinB.n (tn ?_))))))))
     refine ⟨(n+1:Nat),?_,?_,Wk.mk (fun k=>k) ?_ ?_ ?_⟩
     ·(refine ⟨?_,QjU fhc0 hI'.2 ?_ ?_⟩<;>first | omega | (unfold slD;omega))
     ·omega
     ·exact (b2 (b2 (b2 (b2 (b2 (b2 (b2 bn)))))))
     ·exact (b3 bn)
     ·exact nd Y
    refine VRun.exit (vthn.e (vthn.e (vinB.e (tn (sr (mO (tN n) Y (aO (tN n) Y (nt (rt (vi (n':=((n:Nat):Int)) Y ?_))))))))))
    (refine rD fhc0 ?_ hI'.2 ?_<;>first | omega | (unfold slD;omega))
   refine QE 9 5 true 49 (dz fhg49_5) Y Y Y (fO (OF.pickF (VEv.tmpB Y (dz fhg49_5)) (VEv.bool false)) (nt (cf Y (VRun.exit (vthn.e (vthn.e (vinB.e (tn (sr (mO (tN n) Y (aO (tN n) Y ?_)))))))))))
   refine nt (rt (vi (n':=((n:Nat):Int)) Y ?_))
   (refine rD fhc0 ?_ hI'.2 ?_<;>first | omega | (unfold slD;omega))
  refine QE 7 8 true 34 (dz fhg34_3) Y Y Y (gF (nz fhg31_2) Y Y (OF.pickF (VEv.tmpB Y (dz fhg34_3)) (VEv.bool false)) (fO (OF.pickF (VEv.tmpB Y (nz fhg31_2)) (tv (tB false) Y)) (nt (cf Y (sk (tn (sr (fO (OF.assign (VEv.int .i64 0)) (nt (sq (VRun.block ?_)))))))))))
  refine VRun.loop (A:=Nat) (fun s_=> [(1,(tN cell)),(3,(T.op 0 0)),(6,(tN 0)),(7,(tI g.Cols)),(8,(tN (cell / g.Cols.toNat))),(9,(tI g.Rows)),(10,(tN s_))]) (fun s_=>QY [(0,(Obj.cells (Qe false g)))]) 1 (fun s_=>s_≤6∧Jm g cell down s_) (fun s_=>6 - s_) (0:Nat) ?_ (Wk.mk (fun k=>k) ?_ ?_ ?_) ?_
  ·exact ⟨Nat.zero_le _,Y2 _ _ _⟩
  ·exact (b2 (b2 (b2 (b2 (b2 (b2 (b2 bn)))))))
  ·exact (b3 bn)
  ·exact nd Y
  rintro n (hI':n≤6∧Jm g cell down n)
  show VRun _ _ _ [(1,(tN cell)),(3,(T.op 0 0)),(6,(tN 0)),(7,(tI g.Cols)),(8,(tN (cell / g.Cols.toNat))),(9,(tI g.Rows)),(10,(tN n))] (QY [(0,(Obj.cells (Qe false g)))]) 1 _
  have hI1:=hI'.1
  have hN:=Qe2 hI1 hB.1 hB.2
  have hC6:=hC4 n
  have hC7:=hC5 n
  refine sq (sr (mO (tN (cell / g.Cols.toNat)) Y (mO (tN n) Y (fO (B.add (n:=(((cell / g.Cols.toNat+n):Nat):Int)) (tv (tN (cell / g.Cols.toNat)) Y) (tv (tN n) Y) (by (rw [Qx (by omega)];omega))) (mO (tI g.Rows) Y (fO (xls (tv (tN (cell / g.Cols.toNat+n)) Y) (tv (tI g.Rows) Y)) (mO (tB (decide ((((cell / g.Cols.toNat+n):Nat):Int)<g.Rows))) Y ?_)))))))
  refine gw ((((cell / g.Cols.toNat+n):Nat):Int)<g.Rows) (fun fhg49_7=> ?_) fun fhg49_7=> ?_
  ·refine Yx (tS g.Cells) (dy fhg49_7) Y Y Y Y QN Y Y Yp ?_
   refine gF (dy fhg49_7) Y Y (OF.move (tv (tN cell) Y)) (gF (dy fhg49_7) Y Y (OF.move (tv (tN n) Y)) (gF (dy fhg49_7) Y Y (OF.move (tv (tI g.Cols) Y)) (gF (dy fhg49_7) Y Y (B.mul (n:=(((n:Nat):Int)*g.Cols)) (tv (tN n) Y) (tv (tI g.Cols) Y) (by (refine QgL ?_ ?_ ?_<;>omega))) (gF (dy fhg49_7) Y Y (B.add (n:=(((cell:Nat):Int)+(((n:Nat):Int)*g.Cols))) (tv (tN cell) Y) (tv (tI (((n:Nat):Int)*g.Cols)) Y) (by (rw [Qx (by omega)];done))) ?_))))
   have hb8:(Int.toNat (((cell:Nat):Int)+(((n:Nat):Int)*g.Cols)))<g.Cells.size:=(by omega)
   refine gF (dy fhg49_7) Y Y (B.index (n:=(QA g.Cells (Int.toNat (((cell:Nat):Int)+(((n:Nat):Int)*g.Cols))))) (i:=(Int.toNat (((cell:Nat):Int)+(((n:Nat):Int)*g.Cols)))) (tv (tS g.Cells) Y) (tv (tI (((cell:Nat):Int)+(((n:Nat):Int)*g.Cols))) Y) (by omega) hb8 U9 (Jc hb8)) (gF (dy fhg49_7) Y Y (Y9 (tv (T.int .u8 (QA g.Cells (Int.toNat (((cell:Nat):Int)+(((n:Nat):Int)*g.Cols))))) Y) (VEv.int .u8 46)) (fO (OF.pickT (VEv.tmpB Y (dy fhg49_7)) (tv (tB (decide (QA g.Cells (Int.toNat (((cell:Nat):Int)+(((n:Nat):Int)*g.Cols)))=46))) Y)) (nt ?_)))
   refine cd (QA g.Cells (Int.toNat (((cell:Nat):Int)+(((n:Nat):Int)*g.Cols)))=46) Y (fun fhc2=> ?_) fun fhc2=> ?_
   ·refine sk ?_
    refine tn (VRun.block (VRun.region (mO (tN n) Y (fO (Qy (tv (tN n) Y) (VEv.int .i64 1) (by omega)) (aO (tN (n+1)) Y (VRunO.nil (vinB.n (tn ?_))))))))
    refine ⟨(n+1:Nat),?_,?_,Wk.mk (fun k=>k) ?_ ?_ ?_⟩
    ·(refine ⟨?_,QjU fhc0 hI'.2 ?_ ?_⟩<;>first | omega | (unfold slD;omega))
    ·omega
    ·exact (b2 (b2 (b2 (b2 (b2 (b2 (b2 bn)))))))
    ·exact (b3 bn)
    ·exact nd Y
   refine VRun.exit (vthn.e (vthn.e (vinB.e (tn (sr (mO (tN n) Y (aO (tN n) Y (nt (rt (vi (n':=((n:Nat):Int)) Y ?_))))))))))
   (refine rD fhc0 ?_ hI'.2 ?_<;>first | omega | (unfold slD;omega))
  refine QE 9 5 true 49 (dz fhg49_7) Y Y Y (fO (OF.pickF (VEv.tmpB Y (dz fhg49_7)) (VEv.bool false)) (nt (cf Y (VRun.exit (vthn.e (vthn.e (vinB.e (tn (sr (mO (tN n) Y (aO (tN n) Y ?_)))))))))))
  refine nt (rt (vi (n':=((n:Nat):Int)) Y ?_))
  (refine rD fhc0 ?_ hI'.2 ?_<;>first | omega | (unfold slD;omega))
 have fhc0:down=false:=hc0
 refine sk (tn (sq (sr (lf (tS g.Cells) Y QN Y Y Yp (mO (tN cell) Y ?_)))))
 have hb9:cell<g.Cells.size:=(by omega)
 refine fO (xix (tv (tS g.Cells) Y) (tv (tN cell) Y) hb9 U9) (fO (xne (tv (T.int .u8 (QA g.Cells cell)) Y) (VEv.int .u8 46)) (mO (tB (!(decide (QA g.Cells cell=46)))) Y ?_))
 refine gn (QA g.Cells cell=46) (fun fhg31_10=> ?_) fun fhg31_10=> ?_
 ·refine QE 3 5 false 31 (ny fhg31_10) Y Y Y ?_
  refine QaQ 7 8 true 34 Y Y Y (oO Y Y (ny fhg31_10) (fO (OF.pickT (VEv.tmpB Y (ny fhg31_10)) (VEv.bool true)) (nt (ct Y (sr (fO (OF.assign (VEv.int .i64 0)) (nt (rt (tr (vi (n':=0) Y ?_))))))))))
  (refine zA fhc0 ?_;omega)
 refine gF (nz fhg31_10) Y Y (OF.move (tv (tN (cell % g.Cols.toNat)) Y)) (gF (nz fhg31_10) Y Y (B.gtr (c:=(decide (0<cell % g.Cols.toNat))) (tv (tN (cell % g.Cols.toNat)) Y) (VEv.int .i64 0) (by exact Q6 (by omega))) (gF (nz fhg31_10) Y Y (OF.move (tv (tB (decide (0<cell % g.Cols.toNat))) Y)) ?_))
 refine gw (0<cell % g.Cols.toNat) (fun fhg34_11=> ?_) fun fhg34_11=> ?_
 ·refine Yx (tS g.Cells) (dy fhg34_11) Y Y Y Y QN Y Y Yp ?_
  refine gF (dy fhg34_11) Y Y (OF.move (tv (tN cell) Y)) (gF (dy fhg34_11) Y Y (OF.move (tv (tN 1) Y)) (gF (dy fhg34_11) Y Y (B.sub (n:=(((cell:Nat):Int) - 1)) (tv (tN cell) Y) (tv (tN 1) Y) (by (rw [Qx (by omega)];omega))) ?_))
  have hb12:(Int.toNat (((cell:Nat):Int) - 1))<g.Cells.size:=(by omega)
  refine gF (dy fhg34_11) Y Y (B.index (n:=(QA g.Cells (Int.toNat (((cell:Nat):Int) - 1)))) (i:=(Int.toNat (((cell:Nat):Int) - 1))) (tv (tS g.Cells) Y) (tv (tI (((cell:Nat):Int) - 1)) Y) (by omega) hb12 U9 (Jc hb12)) (gF (dy fhg34_11) Y Y (Y9 (tv (T.int .u8 (QA g.Cells (Int.toNat (((cell:Nat):Int) - 1)))) Y) (VEv.int .u8 46)) (gF (nz fhg31_10) Y Y (OF.pickT (VEv.tmpB Y (dy fhg34_11)) (tv (tB (decide (QA g.Cells (Int.toNat (((cell:Nat):Int) - 1))=46))) Y)) (fO (OF.pickF (VEv.tmpB Y (nz fhg31_10)) (tv (tB (decide (QA g.Cells (Int.toNat (((cell:Nat):Int) - 1))=46))) Y)) (nt ?_))))
  refine cd (QA g.Cells (Int.toNat (((cell:Nat):Int) - 1))=46) Y (fun fhc1=> ?_) fun fhc1=> ?_
  ·refine sr ?_
   refine fO (OF.assign (VEv.int .i64 0)) (nt (rt (tr (vi (n':=0) Y ?_))))
   (refine zA fhc0 ?_;omega)
  refine sk (tn (sr (fO (OF.assign (VEv.int .i64 0)) (nt (sq (VRun.block ?_))))))
  refine VRun.loop (A:=Nat) (fun s_=> [(1,(tN cell)),(3,(T.op 0 0)),(6,(tN 0)),(7,(tN 1)),(8,(tN (cell % g.Cols.toNat))),(9,(tI g.Cols)),(10,(tN s_))]) (fun s_=>QY [(0,(Obj.cells (Qe false g)))]) 1 (fun s_=>s_≤6∧Jm g cell down s_) (fun s_=>6 - s_) (0:Nat) ?_ (Wk.mk (fun k=>k) ?_ ?_ ?_) ?_
  ·exact ⟨Nat.zero_le _,Y2 _ _ _⟩
  ·exact (b2 (b2 (b2 (b2 (b2 (b2 (b2 bn)))))))
  ·exact (b3 bn)
  ·exact nd Y
  rintro n (hI':n≤6∧Jm g cell down n)
  show VRun _ _ _ [(1,(tN cell)),(3,(T.op 0 0)),(6,(tN 0)),(7,(tN 1)),(8,(tN (cell % g.Cols.toNat))),(9,(tI g.Cols)),(10,(tN n))] (QY [(0,(Obj.cells (Qe false g)))]) 1 _
  have hI1:=hI'.1
  have hN:=Qe2 hI1 hB.1 hB.2
  have hC6:=hC4 n
  have hC7:=hC5 n
  refine sq (sr (mO (tN (cell % g.Cols.toNat)) Y (mO (tN n) Y (fO (B.add (n:=(((cell % g.Cols.toNat+n):Nat):Int)) (tv (tN (cell % g.Cols.toNat)) Y) (tv (tN n) Y) (by (rw [Qx (by omega)];omega))) (mO (tI g.Cols) Y (fO (xls (tv (tN (cell % g.Cols.toNat+n)) Y) (tv (tI g.Cols) Y)) (mO (tB (decide ((((cell % g.Cols.toNat+n):Nat):Int)<g.Cols))) Y ?_)))))))
  refine gw ((((cell % g.Cols.toNat+n):Nat):Int)<g.Cols) (fun fhg49_13=> ?_) fun fhg49_13=> ?_
  ·refine Yx (tS g.Cells) (dy fhg49_13) Y Y Y Y QN Y Y Yp ?_
   refine gF (dy fhg49_13) Y Y (OF.move (tv (tN cell) Y)) (gF (dy fhg49_13) Y Y (OF.move (tv (tN n) Y)) (gF (dy fhg49_13) Y Y (OF.move (tv (tN 1) Y)) (gF (dy fhg49_13) Y Y (B.mul (n:=(((n*1):Nat):Int)) (tv (tN n) Y) (tv (tN 1) Y) (by (rw [Qx (by omega)];omega))) (gF (dy fhg49_13) Y Y (B.add (n:=(((cell+(n*1)):Nat):Int)) (tv (tN cell) Y) (tv (tN (n*1)) Y) (by (rw [Qx (by omega)];omega))) ?_))))
   have hb14:(cell+(n*1))<g.Cells.size:=(by omega)
   refine gF (dy fhg49_13) Y Y (xix (tv (tS g.Cells) Y) (tv (tN (cell+(n*1))) Y) hb14 U9) (gF (dy fhg49_13) Y Y (Y9 (tv (T.int .u8 (QA g.Cells (cell+(n*1)))) Y) (VEv.int .u8 46)) (fO (OF.pickT (VEv.tmpB Y (dy fhg49_13)) (tv (tB (decide (QA g.Cells (cell+(n*1))=46))) Y)) (nt ?_)))
   refine cd (QA g.Cells (cell+(n*1))=46) Y (fun fhc2=> ?_) fun fhc2=> ?_
   ·refine sk ?_
    refine tn (VRun.block (VRun.region (mO (tN n) Y (fO (Qy (tv (tN n) Y) (VEv.int .i64 1) (by omega)) (aO (tN (n+1)) Y (VRunO.nil (vinB.n (tn ?_))))))))
    refine ⟨(n+1:Nat),?_,?_,Wk.mk (fun k=>k) ?_ ?_ ?_⟩
    ·(refine ⟨?_,QjO fhc0 hI'.2 ?_ ?_⟩<;>first | omega | (unfold slA;omega))
    ·omega
    ·exact (b2 (b2 (b2 (b2 (b2 (b2 (b2 bn)))))))
    ·exact (b3 bn)
    ·exact nd Y
   refine VRun.exit (vthn.e (vthn.e (vinB.e (tn (sr (mO (tN n) Y (aO (tN n) Y (nt (rt (vi (n':=((n:Nat):Int)) Y ?_))))))))))
   (refine rA fhc0 ?_ hI'.2 ?_<;>first | omega | (unfold slA;omega))
  refine QE 9 5 true 49 (dz fhg49_13) Y Y Y (fO (OF.pickF (VEv.tmpB Y (dz fhg49_13)) (VEv.bool false)) (nt (cf Y (VRun.exit (vthn.e (vthn.e (vinB.e (tn (sr (mO (tN n) Y (aO (tN n) Y ?_)))))))))))
  refine nt (rt (vi (n':=((n:Nat):Int)) Y ?_))
  (refine rA fhc0 ?_ hI'.2 ?_<;>first | omega | (unfold slA;omega))
 refine QE 7 8 true 34 (dz fhg34_11) Y Y Y (gF (nz fhg31_10) Y Y (OF.pickF (VEv.tmpB Y (dz fhg34_11)) (VEv.bool false)) (fO (OF.pickF (VEv.tmpB Y (nz fhg31_10)) (tv (tB false) Y)) (nt (cf Y (sk (tn (sr (fO (OF.assign (VEv.int .i64 0)) (nt (sq (VRun.block ?_)))))))))))
 refine VRun.loop (A:=Nat) (fun s_=> [(1,(tN cell)),(3,(T.op 0 0)),(6,(tN 0)),(7,(tN 1)),(8,(tN (cell % g.Cols.toNat))),(9,(tI g.Cols)),(10,(tN s_))]) (fun s_=>QY [(0,(Obj.cells (Qe false g)))]) 1 (fun s_=>s_≤6∧Jm g cell down s_) (fun s_=>6 - s_) (0:Nat) ?_ (Wk.mk (fun k=>k) ?_ ?_ ?_) ?_
 ·exact ⟨Nat.zero_le _,Y2 _ _ _⟩
 ·exact (b2 (b2 (b2 (b2 (b2 (b2 (b2 bn)))))))
 ·exact (b3 bn)
 ·exact nd Y
 rintro n (hI':n≤6∧Jm g cell down n)
 show VRun _ _ _ [(1,(tN cell)),(3,(T.op 0 0)),(6,(tN 0)),(7,(tN 1)),(8,(tN (cell % g.Cols.toNat))),(9,(tI g.Cols)),(10,(tN n))] (QY [(0,(Obj.cells (Qe false g)))]) 1 _
 have hI1:=hI'.1
 have hN:=Qe2 hI1 hB.1 hB.2
 have hC6:=hC4 n
 have hC7:=hC5 n
 refine sq (sr (mO (tN (cell % g.Cols.toNat)) Y (mO (tN n) Y (fO (B.add (n:=(((cell % g.Cols.toNat+n):Nat):Int)) (tv (tN (cell % g.Cols.toNat)) Y) (tv (tN n) Y) (by (rw [Qx (by omega)];omega))) (mO (tI g.Cols) Y (fO (xls (tv (tN (cell % g.Cols.toNat+n)) Y) (tv (tI g.Cols) Y)) (mO (tB (decide ((((cell % g.Cols.toNat+n):Nat):Int)<g.Cols))) Y ?_)))))))
 refine gw ((((cell % g.Cols.toNat+n):Nat):Int)<g.Cols) (fun fhg49_15=> ?_) fun fhg49_15=> ?_
 ·refine Yx (tS g.Cells) (dy fhg49_15) Y Y Y Y QN Y Y Yp ?_
  refine gF (dy fhg49_15) Y Y (OF.move (tv (tN cell) Y)) (gF (dy fhg49_15) Y Y (OF.move (tv (tN n) Y)) (gF (dy fhg49_15) Y Y (OF.move (tv (tN 1) Y)) (gF (dy fhg49_15) Y Y (B.mul (n:=(((n*1):Nat):Int)) (tv (tN n) Y) (tv (tN 1) Y) (by (rw [Qx (by omega)];omega))) (gF (dy fhg49_15) Y Y (B.add (n:=(((cell+(n*1)):Nat):Int)) (tv (tN cell) Y) (tv (tN (n*1)) Y) (by (rw [Qx (by omega)];omega))) ?_))))
  have hb16:(cell+(n*1))<g.Cells.size:=(by omega)
  refine gF (dy fhg49_15) Y Y (xix (tv (tS g.Cells) Y) (tv (tN (cell+(n*1))) Y) hb16 U9) (gF (dy fhg49_15) Y Y (Y9 (tv (T.int .u8 (QA g.Cells (cell+(n*1)))) Y) (VEv.int .u8 46)) (fO (OF.pickT (VEv.tmpB Y (dy fhg49_15)) (tv (tB (decide (QA g.Cells (cell+(n*1))=46))) Y)) (nt ?_)))
  refine cd (QA g.Cells (cell+(n*1))=46) Y (fun fhc2=> ?_) fun fhc2=> ?_
  ·refine sk ?_
   refine tn (VRun.block (VRun.region (mO (tN n) Y (fO (Qy (tv (tN n) Y) (VEv.int .i64 1) (by omega)) (aO (tN (n+1)) Y (VRunO.nil (vinB.n (tn ?_))))))))
   refine ⟨(n+1:Nat),?_,?_,Wk.mk (fun k=>k) ?_ ?_ ?_⟩
   ·(refine ⟨?_,QjO fhc0 hI'.2 ?_ ?_⟩<;>first | omega | (unfold slA;omega))
   ·omega
   ·exact (b2 (b2 (b2 (b2 (b2 (b2 (b2 bn)))))))
   ·exact (b3 bn)
   ·exact nd Y
  refine VRun.exit (vthn.e (vthn.e (vinB.e (tn (sr (mO (tN n) Y (aO (tN n) Y (nt (rt (vi (n':=((n:Nat):Int)) Y ?_))))))))))
  (refine rA fhc0 ?_ hI'.2 ?_<;>first | omega | (unfold slA;omega))
 refine QE 9 5 true 49 (dz fhg49_15) Y Y Y (fO (OF.pickF (VEv.tmpB Y (dz fhg49_15)) (VEv.bool false)) (nt (cf Y (VRun.exit (vthn.e (vthn.e (vinB.e (tn (sr (mO (tN n) Y (aO (tN n) Y ?_)))))))))))
 refine nt (rt (vi (n':=((n:Nat):Int)) Y ?_))
 (refine rA fhc0 ?_ hI'.2 ?_<;>first | omega | (unfold slA;omega))
theorem QfJ (n:Nat) (g:D.Grid) (cell:Nat) (down:Bool) (hg:gridOk g) (hc:cell<g.Cells.size):Pure (Qs Tryz.prog (n+1)) 140 [(T.agg (Qe false g)),(tN cell),(tB down)] (tN (Qr g cell down)):=by
 refine Pure.intro (rs:= [ResultVar.tmp 6]) Tryz.func140 Y Y Y (E0:= [(0,(T.agg (Qe false g))),(1,(tN cell)),(2,(tB down))]) Y ?_
 obtain ⟨hlim,hmx,hmax⟩:=QG
 have hsz:=hg.size
 have hA:=hg.1
 have hB:=hg.2.1
 obtain ⟨hC1,hC2,hC3,hC4,hC5⟩:=Qcc hg hc
 have hq0:0≤((cell:Nat):Int) / ((g.Cols.toNat:Nat):Int):=Int.ediv_nonneg (by omega) (by omega)
 have hm0:0≤((cell:Nat):Int) % ((g.Cols.toNat:Nat):Int):=Int.emod_nonneg _ (by omega)
 refine sr (kO (B.box (ts:=(Qe false g)) (tv (T.agg (Qe false g)) Y) nofun Y) (fO (OF.assign (VEv.int .i64 0)) (nt (sq (VRun.draw (B:= [[],[],[1],[1,2,0],[],[4],[],[6,0,2,1,3],[3,1,2,0,6,7,4,5]]) (by kernel_rfl) (by kernel_rfl) (mD (tN cell) Y Y (fD (OF.fieldAddrO (tv (T.op 0 0) Y) Zx) Y Y (lD (OL.loadO1 (t:=(tI g.Cols)) (tv (T.op 0 1) Y) Y Y QQ) Y Y (fD (B.rem (n:=((cell % g.Cols.toNat:Nat):Int)) (tv (tN cell) Y) (tv (tI g.Cols) Y) (by omega) (by (refine Qm8 ?_;omega))) Y Y (fD (OF.fieldAddrO (tv (T.op 0 0) Y) Zx) Y Y (lD (OL.loadO1 (t:=(tI g.Cols)) (tv (T.op 0 1) Y) Y Y QQ) Y Y ?_)))))))))))
 refine fD (OF.assign (VEv.int .i64 1)) Y Y (fD (OF.assign (tv (tN (cell % g.Cols.toNat)) Y)) Y Y (fD (OF.assign (tv (tI g.Cols) Y)) Y Y (VRunD.nil (tn (sq (sr (mO (tB down) Y (nt ?_))))))))
 refine VRun.cond (tv (tB down) Y) (fun hc0=> ?_) (fun hc0=> ?_)
 ·have fhc0:down=true:=hc0
  refine VRun.draw (B:= [[],[0],[],[],[3],[3,4,2],[],[6],[0,1],[1,0,8,2,4,3,5],[5,3,4,2,8,0,1,9,6,7]]) (by kernel_rfl) (by kernel_rfl) (fD (OF.fieldAddrO (tv (T.op 0 0) Y) Zx) Y Y (lD (OL.loadO1 (t:=(tI g.Cols)) (tv (T.op 0 1) Y) Y Y QQ) Y Y (mD (tN cell) Y Y (fD (OF.fieldAddrO (tv (T.op 0 0) Y) Zx) Y Y (lD (OL.loadO1 (t:=(tI g.Cols)) (tv (T.op 0 1) Y) Y Y QQ) Y Y (fD (B.quo (n:=((cell / g.Cols.toNat:Nat):Int)) (tv (tN cell) Y) (tv (tI g.Cols) Y) (by omega) (by (refine Qnq ?_ ?_<;>omega))) Y Y (fD (OF.fieldAddrO (tv (T.op 0 0) Y) QaK) Y Y (lD (OL.loadO1 (t:=(tI g.Rows)) (tv (T.op 0 0) Y) Y Y QQ) Y Y (fD (OF.assign (tv (tI g.Cols) Y)) Y Y (fD (OF.assign (tv (tN (cell / g.Cols.toNat)) Y)) Y Y (fD (OF.assign (tv (tI g.Rows) Y)) Y Y ?_)))))))))))
  refine VRunD.nil (tn (sq (sr (lf (tS g.Cells) Y QN Y Y Yp (mO (tN cell) Y ?_)))))
  have hb1:cell<g.Cells.size:=(by omega)
  refine fO (xix (tv (tS g.Cells) Y) (tv (tN cell) Y) hb1 U9) (fO (xne (tv (T.int .u8 (QA g.Cells cell)) Y) (VEv.int .u8 46)) (mO (tB (!(decide (QA g.Cells cell=46)))) Y ?_))
  refine gn (QA g.Cells cell=46) (fun fhg31_2=> ?_) fun fhg31_2=> ?_
  ·refine QE 3 5 false 31 (ny fhg31_2) Y Y Y ?_
   refine QaQ 7 8 true 34 Y Y Y (oO Y Y (ny fhg31_2) (fO (OF.pickT (VEv.tmpB Y (ny fhg31_2)) (VEv.bool true)) (nt (ct Y (sr (fO (OF.assign (VEv.int .i64 0)) (nt (rt (tr (vi (n':=0) Y ?_))))))))))
   (refine zD fhc0 ?_;omega)
  refine gF (nz fhg31_2) Y Y (OF.move (tv (tN (cell / g.Cols.toNat)) Y)) (gF (nz fhg31_2) Y Y (B.gtr (c:=(decide (0<cell / g.Cols.toNat))) (tv (tN (cell / g.Cols.toNat)) Y) (VEv.int .i64 0) (by exact Q6 (by omega))) (gF (nz fhg31_2) Y Y (OF.move (tv (tB (decide (0<cell / g.Cols.toNat))) Y)) ?_))
  refine gw (0<cell / g.Cols.toNat) (fun fhg34_3=> ?_) fun fhg34_3=> ?_
  ·refine Yx (tS g.Cells) (dy fhg34_3) Y Y Y Y QN Y Y Yp ?_
   refine gF (dy fhg34_3) Y Y (OF.move (tv (tN cell) Y)) (gF (dy fhg34_3) Y Y (OF.move (tv (tI g.Cols) Y)) (gF (dy fhg34_3) Y Y (B.sub (n:=(((cell:Nat):Int) - g.Cols)) (tv (tN cell) Y) (tv (tI g.Cols) Y) (by (rw [Qx (by omega)];done))) ?_))
   have hb4:(Int.toNat (((cell:Nat):Int) - g.Cols))<g.Cells.size:=(by omega)
   refine gF (dy fhg34_3) Y Y (B.index (n:=(QA g.Cells (Int.toNat (((cell:Nat):Int) - g.Cols)))) (i:=(Int.toNat (((cell:Nat):Int) - g.Cols))) (tv (tS g.Cells) Y) (tv (tI (((cell:Nat):Int) - g.Cols)) Y) (by omega) hb4 U9 (Jc hb4)) (gF (dy fhg34_3) Y Y (Y9 (tv (T.int .u8 (QA g.Cells (Int.toNat (((cell:Nat):Int) - g.Cols)))) Y) (VEv.int .u8 46)) (gF (nz fhg31_2) Y Y (OF.pickT (VEv.tmpB Y (dy fhg34_3)) (tv (tB (decide (QA g.Cells (Int.toNat (((cell:Nat):Int) - g.Cols))=46))) Y)) (fO (OF.pickF (VEv.tmpB Y (nz fhg31_2)) (tv (tB (decide (QA g.Cells (Int.toNat (((cell:Nat):Int) - g.Cols))=46))) Y)) (nt ?_))))
   refine cd (QA g.Cells (Int.toNat (((cell:Nat):Int) - g.Cols))=46) Y (fun fhc1=> ?_) fun fhc1=> ?_
   ·refine sr ?_
    refine fO (OF.assign (VEv.int .i64 0)) (nt (rt (tr (vi (n':=0) Y ?_))))
    (refine zD fhc0 ?_;omega)
   refine sk (tn (sr (fO (OF.assign (VEv.int .i64 0)) (nt (sq (VRun.block ?_))))))
   refine VRun.loop (A:=Nat) (fun s_=> [(1,(tN cell)),(3,(T.op 0 0)),(6,(tN 0)),(7,(tI g.Cols)),(8,(tN (cell / g.Cols.toNat))),(9,(tI g.Rows)),(10,(tN s_))]) (fun s_=>QY [(0,(Obj.cells (Qe false g)))]) 1 (fun s_=>s_≤6∧Jm g cell down s_) (fun s_=>6 - s_) (0:Nat) ?_ (Wk.mk (fun k=>k) ?_ ?_ ?_) ?_
   ·exact ⟨Nat.zero_le _,Y2 _ _ _⟩
   ·exact (b2 (b2 (b2 (b2 (b2 (b2 (b2 bn)))))))
   ·exact (b3 bn)
   ·exact nd Y
   rintro n (hI':n≤6∧Jm g cell down n)
   show VRun _ _ _ [(1,(tN cell)),(3,(T.op 0 0)),(6,(tN 0)),(7,(tI g.Cols)),(8,(tN (cell / g.Cols.toNat))),(9,(tI g.Rows)),(10,(tN n))] (QY [(0,(Obj.cells (Qe false g)))]) 1 _
   have hI1:=hI'.1
   have hN:=Qe2 hI1 hB.1 hB.2
   have hC6:=hC4 n
   have hC7:=hC5 n
   refine sq (sr (mO (tN (cell / g.Cols.toNat)) Y (mO (tN n) Y (fO (B.add (n:=(((cell / g.Cols.toNat+n):Nat):Int)) (tv (tN (cell / g.Cols.toNat)) Y) (tv (tN n) Y) (by (rw [Qx (by omega)];omega))) (mO (tI g.Rows) Y (fO (xls (tv (tN (cell / g.Cols.toNat+n)) Y) (tv (tI g.Rows) Y)) (mO (tB (decide ((((cell / g.Cols.toNat+n):Nat):Int)<g.Rows))) Y ?_)))))))
   refine gw ((((cell / g.Cols.toNat+n):Nat):Int)<g.Rows) (fun fhg49_5=> ?_) fun fhg49_5=> ?_
   ·refine Yx (tS g.Cells) (dy fhg49_5) Y Y Y Y QN Y Y Yp ?_
    refine gF (dy fhg49_5) Y Y (OF.move (tv (tN cell) Y)) (gF (dy fhg49_5) Y Y (OF.move (tv (tN n) Y)) (gF (dy fhg49_5) Y Y (OF.move (tv (tI g.Cols) Y)) (gF (dy fhg49_5) Y Y (B.mul (n:=(((n:Nat):Int)*g.Cols)) (tv (tN n) Y) (tv (tI g.Cols) Y) (by (refine QgL ?_ ?_ ?_<;>omega))) (gF (dy fhg49_5) Y Y (B.add (n:=(((cell:Nat):Int)+(((n:Nat):Int)*g.Cols))) (tv (tN cell) Y) (tv (tI (((n:Nat):Int)*g.Cols)) Y) (by (rw [Qx (by omega)];done))) ?_))))
    have hb6:(Int.toNat (((cell:Nat):Int)+(((n:Nat):Int)*g.Cols)))<g.Cells.size:=(by omega)
    refine gF (dy fhg49_5) Y Y (B.index (n:=(QA g.Cells (Int.toNat (((cell:Nat):Int)+(((n:Nat):Int)*g.Cols))))) (i:=(Int.toNat (((cell:Nat):Int)+(((n:Nat):Int)*g.Cols)))) (tv (tS g.Cells) Y) (tv (tI (((cell:Nat):Int)+(((n:Nat):Int)*g.Cols))) Y) (by omega) hb6 U9 (Jc hb6)) (gF (dy fhg49_5) Y Y (Y9 (tv (T.int .u8 (QA g.Cells (Int.toNat (((cell:Nat):Int)+(((n:Nat):Int)*g.Cols))))) Y) (VEv.int .u8 46)) (fO (OF.pickT (VEv.tmpB Y (dy fhg49_5)) (tv (tB (decide (QA g.Cells (Int.toNat (((cell:Nat):Int)+(((n:Nat):Int)*g.Cols)))=46))) Y)) (nt ?_)))
    refine cd (QA g.Cells (Int.toNat (((cell:Nat):Int)+(((n:Nat):Int)*g.Cols)))=46) Y (fun fhc2=> ?_) fun fhc2=> ?_
    ·refine sk ?_
     refine tn (VRun.block (VRun.region (mO (tN n) Y (fO (Qy (tv (tN n) Y) (VEv.int .i64 1) (by omega)) (aO (tN (n+1)) Y (VRunO.nil (vinB.n (tn ?_))))))))
     refine ⟨(n+1:Nat),?_,?_,Wk.mk (fun k=>k) ?_ ?_ ?_⟩
     ·(refine ⟨?_,QjU fhc0 hI'.2 ?_ ?_⟩<;>first | omega | (unfold slD;omega))
     ·omega
     ·exact (b2 (b2 (b2 (b2 (b2 (b2 (b2 bn)))))))
     ·exact (b3 bn)
     ·exact nd Y
    refine VRun.exit (vthn.e (vthn.e (vinB.e (tn (sr (mO (tN n) Y (aO (tN n) Y (nt (rt (vi (n':=((n:Nat):Int)) Y ?_))))))))))
    (refine rD fhc0 ?_ hI'.2 ?_<;>first | omega | (unfold slD;omega))
   refine QE 9 5 true 49 (dz fhg49_5) Y Y Y (fO (OF.pickF (VEv.tmpB Y (dz fhg49_5)) (VEv.bool false)) (nt (cf Y (VRun.exit (vthn.e (vthn.e (vinB.e (tn (sr (mO (tN n) Y (aO (tN n) Y ?_)))))))))))
   refine nt (rt (vi (n':=((n:Nat):Int)) Y ?_))
   (refine rD fhc0 ?_ hI'.2 ?_<;>first | omega | (unfold slD;omega))
  refine QE 7 8 true 34 (dz fhg34_3) Y Y Y (gF (nz fhg31_2) Y Y (OF.pickF (VEv.tmpB Y (dz fhg34_3)) (VEv.bool false)) (fO (OF.pickF (VEv.tmpB Y (nz fhg31_2)) (tv (tB false) Y)) (nt (cf Y (sk (tn (sr (fO (OF.assign (VEv.int .i64 0)) (nt (sq (VRun.block ?_)))))))))))
  refine VRun.loop (A:=Nat) (fun s_=> [(1,(tN cell)),(3,(T.op 0 0)),(6,(tN 0)),(7,(tI g.Cols)),(8,(tN (cell / g.Cols.toNat))),(9,(tI g.Rows)),(10,(tN s_))]) (fun s_=>QY [(0,(Obj.cells (Qe false g)))]) 1 (fun s_=>s_≤6∧Jm g cell down s_) (fun s_=>6 - s_) (0:Nat) ?_ (Wk.mk (fun k=>k) ?_ ?_ ?_) ?_
  ·exact ⟨Nat.zero_le _,Y2 _ _ _⟩
  ·exact (b2 (b2 (b2 (b2 (b2 (b2 (b2 bn)))))))
  ·exact (b3 bn)
  ·exact nd Y
  rintro n (hI':n≤6∧Jm g cell down n)
  show VRun _ _ _ [(1,(tN cell)),(3,(T.op 0 0)),(6,(tN 0)),(7,(tI g.Cols)),(8,(tN (cell / g.Cols.toNat))),(9,(tI g.Rows)),(10,(tN n))] (QY [(0,(Obj.cells (Qe false g)))]) 1 _
  have hI1:=hI'.1
  have hN:=Qe2 hI1 hB.1 hB.2
  have hC6:=hC4 n
  have hC7:=hC5 n
  refine sq (sr (mO (tN (cell / g.Cols.toNat)) Y (mO (tN n) Y (fO (B.add (n:=(((cell / g.Cols.toNat+n):Nat):Int)) (tv (tN (cell / g.Cols.toNat)) Y) (tv (tN n) Y) (by (rw [Qx (by omega)];omega))) (mO (tI g.Rows) Y (fO (xls (tv (tN (cell / g.Cols.toNat+n)) Y) (tv (tI g.Rows) Y)) (mO (tB (decide ((((cell / g.Cols.toNat+n):Nat):Int)<g.Rows))) Y ?_)))))))
  refine gw ((((cell / g.Cols.toNat+n):Nat):Int)<g.Rows) (fun fhg49_7=> ?_) fun fhg49_7=> ?_
  ·refine Yx (tS g.Cells) (dy fhg49_7) Y Y Y Y QN Y Y Yp ?_
   refine gF (dy fhg49_7) Y Y (OF.move (tv (tN cell) Y)) (gF (dy fhg49_7) Y Y (OF.move (tv (tN n) Y)) (gF (dy fhg49_7) Y Y (OF.move (tv (tI g.Cols) Y)) (gF (dy fhg49_7) Y Y (B.mul (n:=(((n:Nat):Int)*g.Cols)) (tv (tN n) Y) (tv (tI g.Cols) Y) (by (refine QgL ?_ ?_ ?_<;>omega))) (gF (dy fhg49_7) Y Y (B.add (n:=(((cell:Nat):Int)+(((n:Nat):Int)*g.Cols))) (tv (tN cell) Y) (tv (tI (((n:Nat):Int)*g.Cols)) Y) (by (rw [Qx (by omega)];done))) ?_))))
   have hb8:(Int.toNat (((cell:Nat):Int)+(((n:Nat):Int)*g.Cols)))<g.Cells.size:=(by omega)
   refine gF (dy fhg49_7) Y Y (B.index (n:=(QA g.Cells (Int.toNat (((cell:Nat):Int)+(((n:Nat):Int)*g.Cols))))) (i:=(Int.toNat (((cell:Nat):Int)+(((n:Nat):Int)*g.Cols)))) (tv (tS g.Cells) Y) (tv (tI (((cell:Nat):Int)+(((n:Nat):Int)*g.Cols))) Y) (by omega) hb8 U9 (Jc hb8)) (gF (dy fhg49_7) Y Y (Y9 (tv (T.int .u8 (QA g.Cells (Int.toNat (((cell:Nat):Int)+(((n:Nat):Int)*g.Cols))))) Y) (VEv.int .u8 46)) (fO (OF.pickT (VEv.tmpB Y (dy fhg49_7)) (tv (tB (decide (QA g.Cells (Int.toNat (((cell:Nat):Int)+(((n:Nat):Int)*g.Cols)))=46))) Y)) (nt ?_)))
   refine cd (QA g.Cells (Int.toNat (((cell:Nat):Int)+(((n:Nat):Int)*g.Cols)))=46) Y (fun fhc2=> ?_) fun fhc2=> ?_
   ·refine sk ?_
    refine tn (VRun.block (VRun.region (mO (tN n) Y (fO (Qy (tv (tN n) Y) (VEv.int .i64 1) (by omega)) (aO (tN (n+1)) Y (VRunO.nil (vinB.n (tn ?_))))))))
    refine ⟨(n+1:Nat),?_,?_,Wk.mk (fun k=>k) ?_ ?_ ?_⟩
    ·(refine ⟨?_,QjU fhc0 hI'.2 ?_ ?_⟩<;>first | omega | (unfold slD;omega))
    ·omega
    ·exact (b2 (b2 (b2 (b2 (b2 (b2 (b2 bn)))))))
    ·exact (b3 bn)
    ·exact nd Y
   refine VRun.exit (vthn.e (vthn.e (vinB.e (tn (sr (mO (tN n) Y (aO (tN n) Y (nt (rt (vi (n':=((n:Nat):Int)) Y ?_))))))))))
   (refine rD fhc0 ?_ hI'.2 ?_<;>first | omega | (unfold slD;omega))
  refine QE 9 5 true 49 (dz fhg49_7) Y Y Y (fO (OF.pickF (VEv.tmpB Y (dz fhg49_7)) (VEv.bool false)) (nt (cf Y (VRun.exit (vthn.e (vthn.e (vinB.e (tn (sr (mO (tN n) Y (aO (tN n) Y ?_)))))))))))
  refine nt (rt (vi (n':=((n:Nat):Int)) Y ?_))
  (refine rD fhc0 ?_ hI'.2 ?_<;>first | omega | (unfold slD;omega))
 have fhc0:down=false:=hc0
 refine sk (tn (sq (sr (lf (tS g.Cells) Y QN Y Y Yp (mO (tN cell) Y ?_)))))
 have hb9:cell<g.Cells.size:=(by omega)
 refine fO (xix (tv (tS g.Cells) Y) (tv (tN cell) Y) hb9 U9) (fO (xne (tv (T.int .u8 (QA g.Cells cell)) Y) (VEv.int .u8 46)) (mO (tB (!(decide (QA g.Cells cell=46)))) Y ?_))
 refine gn (QA g.Cells cell=46) (fun fhg31_10=> ?_) fun fhg31_10=> ?_
 ·refine QE 3 5 false 31 (ny fhg31_10) Y Y Y ?_
  refine QaQ 7 8 true 34 Y Y Y (oO Y Y (ny fhg31_10) (fO (OF.pickT (VEv.tmpB Y (ny fhg31_10)) (VEv.bool true)) (nt (ct Y (sr (fO (OF.assign (VEv.int .i64 0)) (nt (rt (tr (vi (n':=0) Y ?_))))))))))
  (refine zA fhc0 ?_;omega)
 refine gF (nz fhg31_10) Y Y (OF.move (tv (tN (cell % g.Cols.toNat)) Y)) (gF (nz fhg31_10) Y Y (B.gtr (c:=(decide (0<cell % g.Cols.toNat))) (tv (tN (cell % g.Cols.toNat)) Y) (VEv.int .i64 0) (by exact Q6 (by omega))) (gF (nz fhg31_10) Y Y (OF.move (tv (tB (decide (0<cell % g.Cols.toNat))) Y)) ?_))
 refine gw (0<cell % g.Cols.toNat) (fun fhg34_11=> ?_) fun fhg34_11=> ?_
 ·refine Yx (tS g.Cells) (dy fhg34_11) Y Y Y Y QN Y Y Yp ?_
  refine gF (dy fhg34_11) Y Y (OF.move (tv (tN cell) Y)) (gF (dy fhg34_11) Y Y (OF.move (tv (tN 1) Y)) (gF (dy fhg34_11) Y Y (B.sub (n:=(((cell:Nat):Int) - 1)) (tv (tN cell) Y) (tv (tN 1) Y) (by (rw [Qx (by omega)];omega))) ?_))
  have hb12:(Int.toNat (((cell:Nat):Int) - 1))<g.Cells.size:=(by omega)
  refine gF (dy fhg34_11) Y Y (B.index (n:=(QA g.Cells (Int.toNat (((cell:Nat):Int) - 1)))) (i:=(Int.toNat (((cell:Nat):Int) - 1))) (tv (tS g.Cells) Y) (tv (tI (((cell:Nat):Int) - 1)) Y) (by omega) hb12 U9 (Jc hb12)) (gF (dy fhg34_11) Y Y (Y9 (tv (T.int .u8 (QA g.Cells (Int.toNat (((cell:Nat):Int) - 1)))) Y) (VEv.int .u8 46)) (gF (nz fhg31_10) Y Y (OF.pickT (VEv.tmpB Y (dy fhg34_11)) (tv (tB (decide (QA g.Cells (Int.toNat (((cell:Nat):Int) - 1))=46))) Y)) (fO (OF.pickF (VEv.tmpB Y (nz fhg31_10)) (tv (tB (decide (QA g.Cells (Int.toNat (((cell:Nat):Int) - 1))=46))) Y)) (nt ?_))))
  refine cd (QA g.Cells (Int.toNat (((cell:Nat):Int) - 1))=46) Y (fun fhc1=> ?_) fun fhc1=> ?_
  ·refine sr ?_
   refine fO (OF.assign (VEv.int .i64 0)) (nt (rt (tr (vi (n':=0) Y ?_))))
   (refine zA fhc0 ?_;omega)
  refine sk (tn (sr (fO (OF.assign (VEv.int .i64 0)) (nt (sq (VRun.block ?_))))))
  refine VRun.loop (A:=Nat) (fun s_=> [(1,(tN cell)),(3,(T.op 0 0)),(6,(tN 0)),(7,(tN 1)),(8,(tN (cell % g.Cols.toNat))),(9,(tI g.Cols)),(10,(tN s_))]) (fun s_=>QY [(0,(Obj.cells (Qe false g)))]) 1 (fun s_=>s_≤6∧Jm g cell down s_) (fun s_=>6 - s_) (0:Nat) ?_ (Wk.mk (fun k=>k) ?_ ?_ ?_) ?_
  ·exact ⟨Nat.zero_le _,Y2 _ _ _⟩
  ·exact (b2 (b2 (b2 (b2 (b2 (b2 (b2 bn)))))))
  ·exact (b3 bn)
  ·exact nd Y
  rintro n (hI':n≤6∧Jm g cell down n)
  show VRun _ _ _ [(1,(tN cell)),(3,(T.op 0 0)),(6,(tN 0)),(7,(tN 1)),(8,(tN (cell % g.Cols.toNat))),(9,(tI g.Cols)),(10,(tN n))] (QY [(0,(Obj.cells (Qe false g)))]) 1 _
  have hI1:=hI'.1
  have hN:=Qe2 hI1 hB.1 hB.2
  have hC6:=hC4 n
  have hC7:=hC5 n
  refine sq (sr (mO (tN (cell % g.Cols.toNat)) Y (mO (tN n) Y (fO (B.add (n:=(((cell % g.Cols.toNat+n):Nat):Int)) (tv (tN (cell % g.Cols.toNat)) Y) (tv (tN n) Y) (by (rw [Qx (by omega)];omega))) (mO (tI g.Cols) Y (fO (xls (tv (tN (cell % g.Cols.toNat+n)) Y) (tv (tI g.Cols) Y)) (mO (tB (decide ((((cell % g.Cols.toNat+n):Nat):Int)<g.Cols))) Y ?_)))))))
  refine gw ((((cell % g.Cols.toNat+n):Nat):Int)<g.Cols) (fun fhg49_13=> ?_) fun fhg49_13=> ?_
  ·refine Yx (tS g.Cells) (dy fhg49_13) Y Y Y Y QN Y Y Yp ?_
   refine gF (dy fhg49_13) Y Y (OF.move (tv (tN cell) Y)) (gF (dy fhg49_13) Y Y (OF.move (tv (tN n) Y)) (gF (dy fhg49_13) Y Y (OF.move (tv (tN 1) Y)) (gF (dy fhg49_13) Y Y (B.mul (n:=(((n*1):Nat):Int)) (tv (tN n) Y) (tv (tN 1) Y) (by (rw [Qx (by omega)];omega))) (gF (dy fhg49_13) Y Y (B.add (n:=(((cell+(n*1)):Nat):Int)) (tv (tN cell) Y) (tv (tN (n*1)) Y) (by (rw [Qx (by omega)];omega))) ?_))))
   have hb14:(cell+(n*1))<g.Cells.size:=(by omega)
   refine gF (dy fhg49_13) Y Y (xix (tv (tS g.Cells) Y) (tv (tN (cell+(n*1))) Y) hb14 U9) (gF (dy fhg49_13) Y Y (Y9 (tv (T.int .u8 (QA g.Cells (cell+(n*1)))) Y) (VEv.int .u8 46)) (fO (OF.pickT (VEv.tmpB Y (dy fhg49_13)) (tv (tB (decide (QA g.Cells (cell+(n*1))=46))) Y)) (nt ?_)))
   refine cd (QA g.Cells (cell+(n*1))=46) Y (fun fhc2=> ?_) fun fhc2=> ?_
   ·refine sk ?_
    refine tn (VRun.block (VRun.region (mO (tN n) Y (fO (Qy (tv (tN n) Y) (VEv.int .i64 1) (by omega)) (aO (tN (n+1)) Y (VRunO.nil (vinB.n (tn ?_))))))))
    refine ⟨(n+1:Nat),?_,?_,Wk.mk (fun k=>k) ?_ ?_ ?_⟩
    ·(refine ⟨?_,QjO fhc0 hI'.2 ?_ ?_⟩<;>first | omega | (unfold slA;omega))
    ·omega
    ·exact (b2 (b2 (b2 (b2 (b2 (b2 (b2 bn)))))))
    ·exact (b3 bn)
    ·exact nd Y
   refine VRun.exit (vthn.e (vthn.e (vinB.e (tn (sr (mO (tN n) Y (aO (tN n) Y (nt (rt (vi (n':=((n:Nat):Int)) Y ?_))))))))))
   (refine rA fhc0 ?_ hI'.2 ?_<;>first | omega | (unfold slA;omega))
  refine QE 9 5 true 49 (dz fhg49_13) Y Y Y (fO (OF.pickF (VEv.tmpB Y (dz fhg49_13)) (VEv.bool false)) (nt (cf Y (VRun.exit (vthn.e (vthn.e (vinB.e (tn (sr (mO (tN n) Y (aO (tN n) Y ?_)))))))))))
  refine nt (rt (vi (n':=((n:Nat):Int)) Y ?_))
  (refine rA fhc0 ?_ hI'.2 ?_<;>first | omega | (unfold slA;omega))
 refine QE 7 8 true 34 (dz fhg34_11) Y Y Y (gF (nz fhg31_10) Y Y (OF.pickF (VEv.tmpB Y (dz fhg34_11)) (VEv.bool false)) (fO (OF.pickF (VEv.tmpB Y (nz fhg31_10)) (tv (tB false) Y)) (nt (cf Y (sk (tn (sr (fO (OF.assign (VEv.int .i64 0)) (nt (sq (VRun.block ?_)))))))))))
 refine VRun.loop (A:=Nat) (fun s_=> [(1,(tN cell)),(3,(T.op 0 0)),(6,(tN 0)),(7,(tN 1)),(8,(tN (cell % g.Cols.toNat))),(9,(tI g.Cols)),(10,(tN s_))]) (fun s_=>QY [(0,(Obj.cells (Qe false g)))]) 1 (fun s_=>s_≤6∧Jm g cell down s_) (fun s_=>6 - s_) (0:Nat) ?_ (Wk.mk (fun k=>k) ?_ ?_ ?_) ?_
 ·exact ⟨Nat.zero_le _,Y2 _ _ _⟩
 ·exact (b2 (b2 (b2 (b2 (b2 (b2 (b2 bn)))))))
 ·exact (b3 bn)
 ·exact nd Y
 rintro n (hI':n≤6∧Jm g cell down n)
 show VRun _ _ _ [(1,(tN cell)),(3,(T.op 0 0)),(6,(tN 0)),(7,(tN 1)),(8,(tN (cell % g.Cols.toNat))),(9,(tI g.Cols)),(10,(tN n))] (QY [(0,(Obj.cells (Qe false g)))]) 1 _
 have hI1:=hI'.1
 have hN:=Qe2 hI1 hB.1 hB.2
 have hC6:=hC4 n
 have hC7:=hC5 n
 refine sq (sr (mO (tN (cell % g.Cols.toNat)) Y (mO (tN n) Y (fO (B.add (n:=(((cell % g.Cols.toNat+n):Nat):Int)) (tv (tN (cell % g.Cols.toNat)) Y) (tv (tN n) Y) (by (rw [Qx (by omega)];omega))) (mO (tI g.Cols) Y (fO (xls (tv (tN (cell % g.Cols.toNat+n)) Y) (tv (tI g.Cols) Y)) (mO (tB (decide ((((cell % g.Cols.toNat+n):Nat):Int)<g.Cols))) Y ?_)))))))
 refine gw ((((cell % g.Cols.toNat+n):Nat):Int)<g.Cols) (fun fhg49_15=> ?_) fun fhg49_15=> ?_
 ·refine Yx (tS g.Cells) (dy fhg49_15) Y Y Y Y QN Y Y Yp ?_
  refine gF (dy fhg49_15) Y Y (OF.move (tv (tN cell) Y)) (gF (dy fhg49_15) Y Y (OF.move (tv (tN n) Y)) (gF (dy fhg49_15) Y Y (OF.move (tv (tN 1) Y)) (gF (dy fhg49_15) Y Y (B.mul (n:=(((n*1):Nat):Int)) (tv (tN n) Y) (tv (tN 1) Y) (by (rw [Qx (by omega)];omega))) (gF (dy fhg49_15) Y Y (B.add (n:=(((cell+(n*1)):Nat):Int)) (tv (tN cell) Y) (tv (tN (n*1)) Y) (by (rw [Qx (by omega)];omega))) ?_))))
  have hb16:(cell+(n*1))<g.Cells.size:=(by omega)
  refine gF (dy fhg49_15) Y Y (xix (tv (tS g.Cells) Y) (tv (tN (cell+(n*1))) Y) hb16 U9) (gF (dy fhg49_15) Y Y (Y9 (tv (T.int .u8 (QA g.Cells (cell+(n*1)))) Y) (VEv.int .u8 46)) (fO (OF.pickT (VEv.tmpB Y (dy fhg49_15)) (tv (tB (decide (QA g.Cells (cell+(n*1))=46))) Y)) (nt ?_)))
  refine cd (QA g.Cells (cell+(n*1))=46) Y (fun fhc2=> ?_) fun fhc2=> ?_
  ·refine sk ?_
   refine tn (VRun.block (VRun.region (mO (tN n) Y (fO (Qy (tv (tN n) Y) (VEv.int .i64 1) (by omega)) (aO (tN (n+1)) Y (VRunO.nil (vinB.n (tn ?_))))))))
   refine ⟨(n+1:Nat),?_,?_,Wk.mk (fun k=>k) ?_ ?_ ?_⟩
   ·(refine ⟨?_,QjO fhc0 hI'.2 ?_ ?_⟩<;>first | omega | (unfold slA;omega))
   ·omega
   ·exact (b2 (b2 (b2 (b2 (b2 (b2 (b2 bn)))))))
   ·exact (b3 bn)
   ·exact nd Y
  refine VRun.exit (vthn.e (vthn.e (vinB.e (tn (sr (mO (tN n) Y (aO (tN n) Y (nt (rt (vi (n':=((n:Nat):Int)) Y ?_))))))))))
  (refine rA fhc0 ?_ hI'.2 ?_<;>first | omega | (unfold slA;omega))
 refine QE 9 5 true 49 (dz fhg49_15) Y Y Y (fO (OF.pickF (VEv.tmpB Y (dz fhg49_15)) (VEv.bool false)) (nt (cf Y (VRun.exit (vthn.e (vthn.e (vinB.e (tn (sr (mO (tN n) Y (aO (tN n) Y ?_)))))))))))
 refine nt (rt (vi (n':=((n:Nat):Int)) Y ?_))
 (refine rA fhc0 ?_ hI'.2 ?_<;>first | omega | (unfold slA;omega))
noncomputable section
def Qls (g:D.Grid) (st:List D.Slot×Nat) (i:Nat):List D.Slot×Nat :=
 let k:=if 2≤Qr g i false∨2≤Qr g i true then st.2+1 else st.2
 ((st.1++(if 2≤Qr g i false then [D.Slot.mk ((k:Nat):Int) false ((i:Nat):Int) ((Qr g i false:Nat):Int)] else []))++(if 2≤Qr g i true then [D.Slot.mk ((k:Nat):Int) true ((i:Nat):Int) ((Qr g i true:Nat):Int)] else []),k)
def Qi (g:D.Grid):Nat→List D.Slot×Nat
 | 0=>([],0)
 | i+1=>Qls g (Qi g i) i
def Qc (g:D.Grid):List D.Slot:=if gridOk g then (Qi g g.Cells.size).1 else []
theorem YK (g:D.Grid) (i:Nat):(Qi g (i+1)).1=((Qi g i).1++(if 2≤Qr g i false then [D.Slot.mk (((Qi g (i+1)).2:Nat):Int) false ((i:Nat):Int) ((Qr g i false:Nat):Int)] else []))++(if 2≤Qr g i true then [D.Slot.mk (((Qi g (i+1)).2:Nat):Int) true ((i:Nat):Int) ((Qr g i true:Nat):Int)] else []):=rfl
theorem Z4 (g:D.Grid) (i:Nat):(Qi g (i+1)).2=if 2≤Qr g i false∨2≤Qr g i true then (Qi g i).2+1 else (Qi g i).2:=rfl
theorem Qb7 (g:D.Grid):∀i,(Qi g i).2≤i∧(Qi g i).1.length≤2*i
 | 0=>⟨Nat.le_refl _,Nat.le_refl _⟩
 | i+1=>by
  have h:=Qb7 g i
  rw [YK,Z4]
  refine ⟨by split<;>omega,?_⟩
  rw [List.length_append,List.length_append]
  have e:∀(c:Prop) [Decidable c] (x:D.Slot),(if c then [x] else []).length≤1:=fun c _ x=>by split<;>simp
  refine Nat.le_trans (Nat.add_le_add (Nat.add_le_add h.2 (e _ _)) (e _ _)) ?_
  omega
theorem QdN {g:D.Grid} {i:Nat} (h1:i≤g.Cells.size) (h2:gridOk g∨i=0) (h3:¬i<g.Cells.size∨¬gridOk g):(Qi g i).1=Qc g:=by
 unfold Qc
 split
 ·rename_i hh
  rcases h3 with h3 | h3
  ·rw [show i=g.Cells.size by omega]
  ·contradiction
 ·rename_i hh
  rw [h2.resolve_left hh]
  rfl
theorem QkS {g:D.Grid} (h:¬gridOk g):Qc g= []:=if_neg h
theorem Zp (g:D.Grid):(Qc g).length≤72:=by
 unfold Qc
 split
 ·rename_i hh
  have:=hh.size
  have:=(Qb7 g g.Cells.size).2
  omega
 ·simp
end
theorem ZJ (n:Nat) (g:D.Grid) (hc:g.Cells.size≤maxLen):Pure (Qs Tryz.prog (n+3)) 103 [(T.agg (Qe false g))] (T.sl true 4 ((Qc g).map (Qk true))):=by
 refine Pure.intro (rs:= [ResultVar.tmp 2]) Tryz.func103 Y Y Y (E0:= [(0,(T.agg (Qe false g)))]) Y ?_
 obtain ⟨hlim,hmx,hmax⟩:=QG
 refine sr (kO (B.box (ts:=(Qe false g)) (tv (T.agg (Qe false g)) Y) nofun Y) (fO (OF.assign VEv.nils) (nt (sr (kO (OM.slice0 Yh YP (by kernel_rfl) Y (by rw [Zt];decide) Zt) (aO (T.os 4 1 0 0) Y (nt (sr (fO (OF.assign (VEv.int .i64 0)) (nt (sq ?_)))))))))))
 refine sr (fO (OF.assign (VEv.int .i64 0)) (nt (VRun.block ?_)))
 have he1: []=(((Qi g 0).1).map (Qk true)):=by rfl
 refine VRun.loop (A:=Nat) (fun s_=> [(1,(T.op 0 0)),(2,T.nils),(3,(T.os 4 1 0 ((((Qi g s_).1).map (Qk true)).length))),(4,(tN ((Qi g s_).2))),(5,(tN s_))]) (fun s_=>QY [(0,(Obj.cells (Qe false g))),(1,(Obj.rows 4 (((Qi g s_).1).map (Qk true))))]) 2 (fun s_=>s_≤g.Cells.size∧(gridOk g∨s_=0)) (fun s_=>g.Cells.size - s_) (0:Nat) ?_ (Wk.mk (fun k=>k) ?_ ?_ ?_) ?_
 ·exact ⟨Nat.zero_le _, .inr Y⟩
 ·exact (b2 (b2 (bc ⟨(congrArg (fun n_=>T.os 4 1 0 n_) (show 0=(((Qi g 0).1).map (Qk true)).length from (by rfl))),rfl⟩ (bc ⟨(congrArg (T.int .i64) (show 0=(((Qi g 0).2:Nat):Int) from (by rfl))),rfl⟩ (b2 bn)))))
 ·exact (b3 (bc ⟨(congrArg (fun l_=>some (Obj.rows 4 l_)) he1),(lb Y),rfl⟩ bn))
 ·exact nd Y
 rintro i (hI':i≤g.Cells.size∧(gridOk g∨i=0))
 show VRun _ _ _ [(1,(T.op 0 0)),(2,T.nils),(3,(T.os 4 1 0 ((((Qi g i).1).map (Qk true)).length))),(4,(tN ((Qi g i).2))),(5,(tN i))] (QY [(0,(Obj.cells (Qe false g))),(1,(Obj.rows 4 (((Qi g i).1).map (Qk true))))]) 2 _
 have hI1:=hI'.1
 have hbd:=Qb7 g i
 refine sq (sr (mO (tN i) Y (lf (tS g.Cells) Y QN Y Y Yp (lO (B.lenS (tv (tS g.Cells) Y) U9) (fO (Zb (tv (tN i) Y) (tv (tN g.Cells.size) Y)) (mO (tB (decide (i<g.Cells.size))) Y ?_))))))
 refine gw (i<g.Cells.size) (fun fhg14_2=> ?_) fun fhg14_2=> ?_
 ·refine gL (dy fhg14_2) Y Y (OL.loadOn (us:=(Qe false g)) (tv (T.op 0 0) Y) Y Q4 QX (lb Y) Y) ?_
  refine VRunO.chain (VWant.on Y Y (dy fhg14_2)) (cS (vc (tv (T.agg (Qe false g)) Y) vn) (LendL.cons (lg Qw) ln) (Z8 (n+0) g (by assumption)) Y Y) (fO (OF.pickT (VEv.tmpB Y (dy fhg14_2)) (tv (tB (decide (gridOk g))) Y)) (nt ?_))
  refine cd (gridOk g) Y (fun fhc0=> ?_) fun fhc0=> ?_
  ·have hgo:gridOk g:=by assumption
   have hsz:=hgo.size
   refine sk (tn (sq (VRun.block (sr (lO (OL.loadOn (us:=(Qe false g)) (tv (T.op 0 0) Y) Y Q4 QX (lb Y) Y) (mO (tN i) Y (cO (cS (vc (tv (T.agg (Qe false g)) Y) (vc (tv (tN i) Y) (vc (VEv.bool false) vn))) (LendL.cons (lg Qw) (lp Y (lp Y ln))) (QcG (n+1) g i false (by assumption) (by assumption)) Y Y) (aO (tN (Qr g i false)) Y (nt (sr (lO (OL.loadOn (us:=(Qe false g)) (tv (T.op 0 0) Y) Y Q4 QX (lb Y) Y) ?_)))))))))))
   refine mO (tN i) Y (cO (cS (vc (tv (T.agg (Qe false g)) Y) (vc (tv (tN i) Y) (vc (VEv.bool true) vn))) (LendL.cons (lg Qw) (lp Y (lp Y ln))) (QcG (n+1) g i true (by assumption) (by assumption)) Y Y) (aO (tN (Qr g i true)) Y (nt (sq (sr (mO (tN (Qr g i false)) Y (fO (B.geq (c:=(decide (2≤Qr g i false))) (tv (tN (Qr g i false)) Y) (VEv.int .i64 2) (by exact Q6 (by omega))) (mO (tB (decide (2≤Qr g i false))) Y ?_))))))))
   refine gw (2≤Qr g i false) (fun fhg28_3=> ?_) fun fhg28_3=> ?_
   ·refine QE 2 2 false 28 (dy fhg28_3) Y Y Y ?_
    refine fO (OF.pickT (VEv.tmpB Y (dy fhg28_3)) (VEv.bool true)) (nt (ct Y (VRun.region (mO (tN ((Qi g i).2)) Y (fO (Qy (tv (tN ((Qi g i).2)) Y) (VEv.int .i64 1) (by omega)) (aO (tN ((Qi g i).2+1)) Y (VRunO.nil (tn (sq (sr (mO (tN (Qr g i false)) Y ?_)))))))))))
    refine fO (B.geq (c:=(decide (2≤Qr g i false))) (tv (tN (Qr g i false)) Y) (VEv.int .i64 2) (by exact Q6 (by omega))) (nt (ck (dy fhg28_3) Y (VRun.region (mO (T.os 4 1 0 ((((Qi g i).1).map (Qk true)).length)) Y (mO (tN ((Qi g i).2+1)) Y (mO (tN i) Y (mO (tN (Qr g i false)) Y (fO (OF.build (l:= [(0,(tN ((Qi g i).2+1))),(2,(tN i)),(3,(tN (Qr g i false)))]) (zs:= [(tN 0),(tB false),(tN 0),(tN 0)]) (out:= [(tN ((Qi g i).2+1)),(tB false),(tN i),(tN (Qr g i false))]) (VEvp.cons (i:=0) (tv (tN ((Qi g i).2+1)) Y) (VEvp.cons (i:=2) (tv (tN i) Y) (VEvp.cons (i:=3) (tv (tN (Qr g i false)) Y) VEvp.nil))) (bc nofun (bc nofun (bc nofun bn))) Tryz.underlying138 YP (fun _=>RL.cons (.int _ _) (RL.cons (.bool _) (RL.cons (.int _ _) (RL.cons (.int _ _) (RL.nil _))))) (by kernel_rfl) (by kernel_rfl)) (kO (OM.buildSlice (l:= [(T.agg [(tN ((Qi g i).2+1)),(tB false),(tN i),(tN (Qr g i false))])]) (VEvp.cons (tv (T.agg [(tN ((Qi g i).2+1)),(tB false),(tN i),(tN (Qr g i false))]) Y) VEvp.nil) Y (by decide) (bc (nofun) bn) (bc ((bc (Y) (bc (Y) (bc (Y) (bc (Y) bn))))) bn) (bc (Y) bn) Yh YP (by kernel_rfl) Y (by rw [Zt];decide) Zt (Nat.le_of_ble_eq_true Y)) (cO (B.append (rows:=(((Qi g i).1).map (Qk true))) (rows2:= [[(tN ((Qi g i).2+1)),(tB false),(tN i),(tN (Qr g i false))]]) (rows3:=(((Qi g i).1++ [(D.Slot.mk ((((Qi g i).2+1):Nat):Int) false ((i:Nat):Int) ((Qr g i false:Nat):Int))]).map (Qk true))) (VDst.own (tv (T.os 4 1 0 ((((Qi g i).1).map (Qk true)).length)) Y) Y Y) (VSrc.own (tv (T.os 4 2 0 1) Y) Y Y Yh (bc (bc Y (bc Y (bc Y (bc Y bn)))) bn)) (by decide) Yh Zt (by decide) YP Y (of_decide_eq_true (by kernel_rfl)) (by (simp only [List.length_map,List.length_append,List.length_cons,List.length_nil,List.length_replicate,List.length_set,List.length_drop,List.length_take,YG] at *;omega)) ((List.map_append (f:=Qk true) (l₁:=(Qi g i).1) (l₂:= [(D.Slot.mk ((((Qi g i).2+1):Nat):Int) false ((i:Nat):Int) ((Qr g i false:Nat):Int))])).symm)) (aO (T.os 4 3 0 ((((Qi g i).1++ [(D.Slot.mk ((((Qi g i).2+1):Nat):Int) false ((i:Nat):Int) ((Qr g i false:Nat):Int))]).map (Qk true)).length)) Y ?_)))))))))))
    refine VRunO.nil (tn (sr (mO (tN (Qr g i true)) Y (fO (B.geq (c:=(decide (2≤Qr g i true))) (tv (tN (Qr g i true)) Y) (VEv.int .i64 2) (by exact Q6 (by omega))) (nt ?_)))))
    refine cd (2≤Qr g i true) Y (fun fhc3=> ?_) fun fhc3=> ?_
    ·refine VRun.region ?_
     refine mO (T.os 4 3 0 ((((Qi g i).1++ [(D.Slot.mk ((((Qi g i).2+1):Nat):Int) false ((i:Nat):Int) ((Qr g i false:Nat):Int))]).map (Qk true)).length)) Y (mO (tN ((Qi g i).2+1)) Y (mO (tN i) Y (mO (tN (Qr g i true)) Y (fO (OF.build (l:= [(0,(tN ((Qi g i).2+1))),(1,(tB true)),(2,(tN i)),(3,(tN (Qr g i true)))]) (zs:= [(tN 0),(tB false),(tN 0),(tN 0)]) (out:= [(tN ((Qi g i).2+1)),(tB true),(tN i),(tN (Qr g i true))]) (VEvp.cons (i:=0) (tv (tN ((Qi g i).2+1)) Y) (VEvp.cons (i:=1) (VEv.bool true) (VEvp.cons (i:=2) (tv (tN i) Y) (VEvp.cons (i:=3) (tv (tN (Qr g i true)) Y) VEvp.nil)))) (bc nofun (bc nofun (bc nofun (bc nofun bn)))) Tryz.underlying138 YP (fun _=>RL.cons (.int _ _) (RL.cons (.bool _) (RL.cons (.int _ _) (RL.cons (.int _ _) (RL.nil _))))) (by kernel_rfl) (by kernel_rfl)) (kO (OM.buildSlice (l:= [(T.agg [(tN ((Qi g i).2+1)),(tB true),(tN i),(tN (Qr g i true))])]) (VEvp.cons (tv (T.agg [(tN ((Qi g i).2+1)),(tB true),(tN i),(tN (Qr g i true))]) Y) VEvp.nil) Y (by decide) (bc (nofun) bn) (bc ((bc (Y) (bc (Y) (bc (Y) (bc (Y) bn))))) bn) (bc (Y) bn) Yh YP (by kernel_rfl) Y (by rw [Zt];decide) Zt (Nat.le_of_ble_eq_true Y)) (cO (B.append (rows:=(((Qi g i).1++ [(D.Slot.mk ((((Qi g i).2+1):Nat):Int) false ((i:Nat):Int) ((Qr g i false:Nat):Int))]).map (Qk true))) (rows2:= [[(tN ((Qi g i).2+1)),(tB true),(tN i),(tN (Qr g i true))]]) (rows3:=((((Qi g i).1++ [(D.Slot.mk ((((Qi g i).2+1):Nat):Int) false ((i:Nat):Int) ((Qr g i false:Nat):Int))])++ [(D.Slot.mk ((((Qi g i).2+1):Nat):Int) true ((i:Nat):Int) ((Qr g i true:Nat):Int))]).map (Qk true))) (VDst.own (tv (T.os 4 3 0 ((((Qi g i).1++ [(D.Slot.mk ((((Qi g i).2+1):Nat):Int) false ((i:Nat):Int) ((Qr g i false:Nat):Int))]).map (Qk true)).length)) Y) Y Y) (VSrc.own (tv (T.os 4 4 0 1) Y) Y Y Yh (bc (bc Y (bc Y (bc Y (bc Y bn)))) bn)) (by decide) Yh Zt (by decide) YP Y (of_decide_eq_true (by kernel_rfl)) (by (simp only [List.length_map,List.length_append,List.length_cons,List.length_nil,List.length_replicate,List.length_set,List.length_drop,List.length_take,YG] at *;omega)) ((List.map_append (f:=Qk true) (l₁:=((Qi g i).1++ [(D.Slot.mk ((((Qi g i).2+1):Nat):Int) false ((i:Nat):Int) ((Qr g i false:Nat):Int))])) (l₂:= [(D.Slot.mk ((((Qi g i).2+1):Nat):Int) true ((i:Nat):Int) ((Qr g i true:Nat):Int))])).symm)) (aO (T.os 4 5 0 (((((Qi g i).1++ [(D.Slot.mk ((((Qi g i).2+1):Nat):Int) false ((i:Nat):Int) ((Qr g i false:Nat):Int))])++ [(D.Slot.mk ((((Qi g i).2+1):Nat):Int) true ((i:Nat):Int) ((Qr g i true:Nat):Int))]).map (Qk true)).length)) Y (VRunO.nil (vinB.n (tn (VRun.region ?_)))))))))))
     refine mO (tN i) Y (fO (Qy (tv (tN i) Y) (VEv.int .i64 1) (by omega)) (aO (tN (i+1)) Y (VRunO.nil (tn ?_))))
     have hgo:gridOk g:=by assumption
     have he4:(((Qi g i).1++ [(D.Slot.mk ((((Qi g i).2+1):Nat):Int) false ((i:Nat):Int) ((Qr g i false:Nat):Int))])++ [(D.Slot.mk ((((Qi g i).2+1):Nat):Int) true ((i:Nat):Int) ((Qr g i true:Nat):Int))])=(Qi g (i+1)).1:=by (rw [YK,Z4];simp [*];done)
     refine ⟨(i+1:Nat),?_,?_,Wk.mk (fun k=>if k=1 then 5 else k) ?_ ?_ ?_⟩
     ·exact ⟨by omega, .inl hgo⟩
     ·omega
     ·exact (b2 (b2 (bc ⟨(congrArg (fun l_=>T.os 4 5 0 (List.map (Qk true) l_).length) he4),rfl⟩ (bc ⟨(congrArg (T.int .i64) (show ((((Qi g i).2+1):Nat):Int)=(((Qi g (i+1)).2:Nat):Int) from (by (rw [Z4];simp [*];done)))),rfl⟩ (b2 bn)))))
     ·exact (b3 (bc ⟨(congrArg (fun l_=>some (Obj.rows 4 (List.map (Qk true) l_))) he4),(lb Y),rfl⟩ bn))
     ·exact nd Y
    refine sk (vinB.n (tn (VRun.region (mO (tN i) Y (fO (Qy (tv (tN i) Y) (VEv.int .i64 1) (by omega)) (aO (tN (i+1)) Y (VRunO.nil (tn ?_))))))))
    have hgo:gridOk g:=by assumption
    have he5:((Qi g i).1++ [(D.Slot.mk ((((Qi g i).2+1):Nat):Int) false ((i:Nat):Int) ((Qr g i false:Nat):Int))])=(Qi g (i+1)).1:=by (rw [YK,Z4];simp [*];done)
    refine ⟨(i+1:Nat),?_,?_,Wk.mk (fun k=>if k=1 then 3 else k) ?_ ?_ ?_⟩
    ·exact ⟨by omega, .inl hgo⟩
    ·omega
    ·exact (b2 (b2 (bc ⟨(congrArg (fun l_=>T.os 4 3 0 (List.map (Qk true) l_).length) he5),rfl⟩ (bc ⟨(congrArg (T.int .i64) (show ((((Qi g i).2+1):Nat):Int)=(((Qi g (i+1)).2:Nat):Int) from (by (rw [Z4];simp [*];done)))),rfl⟩ (b2 bn)))))
    ·exact (b3 (bc ⟨(congrArg (fun l_=>some (Obj.rows 4 (List.map (Qk true) l_))) he5),(lb Y),rfl⟩ bn))
    ·exact nd Y
   refine gF (dz fhg28_3) Y Y (OF.move (tv (tN (Qr g i true)) Y)) (gF (dz fhg28_3) Y Y (B.geq (c:=(decide (2≤Qr g i true))) (tv (tN (Qr g i true)) Y) (VEv.int .i64 2) (by exact Q6 (by omega))) (fO (OF.pickF (VEv.tmpB Y (dz fhg28_3)) (tv (tB (decide (2≤Qr g i true))) Y)) (nt ?_)))
   refine cd (2≤Qr g i true) Y (fun fhc1=> ?_) fun fhc1=> ?_
   ·refine VRun.region ?_
    refine mO (tN ((Qi g i).2)) Y (fO (Qy (tv (tN ((Qi g i).2)) Y) (VEv.int .i64 1) (by omega)) (aO (tN ((Qi g i).2+1)) Y (VRunO.nil (tn (sq (sr (mO (tN (Qr g i false)) Y (fO (B.geq (c:=(decide (2≤Qr g i false))) (tv (tN (Qr g i false)) Y) (VEv.int .i64 2) (by exact Q6 (by omega))) (nt (cg (dz fhg28_3) Y (sk ?_)))))))))))
    refine tn (sr (mO (tN (Qr g i true)) Y (fO (B.geq (c:=(decide (2≤Qr g i true))) (tv (tN (Qr g i true)) Y) (VEv.int .i64 2) (by exact Q6 (by omega))) (nt (ck (dy fhc1) Y (VRun.region (mO (T.os 4 1 0 ((((Qi g i).1).map (Qk true)).length)) Y (mO (tN ((Qi g i).2+1)) Y (mO (tN i) Y (mO (tN (Qr g i true)) Y (fO (OF.build (l:= [(0,(tN ((Qi g i).2+1))),(1,(tB true)),(2,(tN i)),(3,(tN (Qr g i true)))]) (zs:= [(tN 0),(tB false),(tN 0),(tN 0)]) (out:= [(tN ((Qi g i).2+1)),(tB true),(tN i),(tN (Qr g i true))]) (VEvp.cons (i:=0) (tv (tN ((Qi g i).2+1)) Y) (VEvp.cons (i:=1) (VEv.bool true) (VEvp.cons (i:=2) (tv (tN i) Y) (VEvp.cons (i:=3) (tv (tN (Qr g i true)) Y) VEvp.nil)))) (bc nofun (bc nofun (bc nofun (bc nofun bn)))) Tryz.underlying138 YP (fun _=>RL.cons (.int _ _) (RL.cons (.bool _) (RL.cons (.int _ _) (RL.cons (.int _ _) (RL.nil _))))) (by kernel_rfl) (by kernel_rfl)) ?_)))))))))))
    refine kO (OM.buildSlice (l:= [(T.agg [(tN ((Qi g i).2+1)),(tB true),(tN i),(tN (Qr g i true))])]) (VEvp.cons (tv (T.agg [(tN ((Qi g i).2+1)),(tB true),(tN i),(tN (Qr g i true))]) Y) VEvp.nil) Y (by decide) (bc (nofun) bn) (bc ((bc (Y) (bc (Y) (bc (Y) (bc (Y) bn))))) bn) (bc (Y) bn) Yh YP (by kernel_rfl) Y (by rw [Zt];decide) Zt (Nat.le_of_ble_eq_true Y)) (cO (B.append (rows:=(((Qi g i).1).map (Qk true))) (rows2:= [[(tN ((Qi g i).2+1)),(tB true),(tN i),(tN (Qr g i true))]]) (rows3:=(((Qi g i).1++ [(D.Slot.mk ((((Qi g i).2+1):Nat):Int) true ((i:Nat):Int) ((Qr g i true:Nat):Int))]).map (Qk true))) (VDst.own (tv (T.os 4 1 0 ((((Qi g i).1).map (Qk true)).length)) Y) Y Y) (VSrc.own (tv (T.os 4 2 0 1) Y) Y Y Yh (bc (bc Y (bc Y (bc Y (bc Y bn)))) bn)) (by decide) Yh Zt (by decide) YP Y (of_decide_eq_true (by kernel_rfl)) (by (simp only [List.length_map,List.length_append,List.length_cons,List.length_nil,List.length_replicate,List.length_set,List.length_drop,List.length_take,YG] at *;omega)) ((List.map_append (f:=Qk true) (l₁:=(Qi g i).1) (l₂:= [(D.Slot.mk ((((Qi g i).2+1):Nat):Int) true ((i:Nat):Int) ((Qr g i true:Nat):Int))])).symm)) (aO (T.os 4 3 0 ((((Qi g i).1++ [(D.Slot.mk ((((Qi g i).2+1):Nat):Int) true ((i:Nat):Int) ((Qr g i true:Nat):Int))]).map (Qk true)).length)) Y (VRunO.nil (vinB.n (tn (VRun.region (mO (tN i) Y (fO (Qy (tv (tN i) Y) (VEv.int .i64 1) (by omega)) (aO (tN (i+1)) Y (VRunO.nil (tn ?_)))))))))))
    have hgo:gridOk g:=by assumption
    have he6:((Qi g i).1++ [(D.Slot.mk ((((Qi g i).2+1):Nat):Int) true ((i:Nat):Int) ((Qr g i true:Nat):Int))])=(Qi g (i+1)).1:=by (rw [YK,Z4];simp [*];done)
    refine ⟨(i+1:Nat),?_,?_,Wk.mk (fun k=>if k=1 then 3 else k) ?_ ?_ ?_⟩
    ·exact ⟨by omega, .inl hgo⟩
    ·omega
    ·exact (b2 (b2 (bc ⟨(congrArg (fun l_=>T.os 4 3 0 (List.map (Qk true) l_).length) he6),rfl⟩ (bc ⟨(congrArg (T.int .i64) (show ((((Qi g i).2+1):Nat):Int)=(((Qi g (i+1)).2:Nat):Int) from (by (rw [Z4];simp [*];done)))),rfl⟩ (b2 bn)))))
    ·exact (b3 (bc ⟨(congrArg (fun l_=>some (Obj.rows 4 (List.map (Qk true) l_))) he6),(lb Y),rfl⟩ bn))
    ·exact nd Y
   refine sk (tn (sq (sr (mO (tN (Qr g i false)) Y (fO (B.geq (c:=(decide (2≤Qr g i false))) (tv (tN (Qr g i false)) Y) (VEv.int .i64 2) (by exact Q6 (by omega))) (nt (cg (dz fhg28_3) Y (sk (tn (sr (mO (tN (Qr g i true)) Y ?_)))))))))))
   refine fO (B.geq (c:=(decide (2≤Qr g i true))) (tv (tN (Qr g i true)) Y) (VEv.int .i64 2) (by exact Q6 (by omega))) (nt (cg (dz fhc1) Y (sk (vinB.n (tn (VRun.region (mO (tN i) Y (fO (Qy (tv (tN i) Y) (VEv.int .i64 1) (by omega)) (aO (tN (i+1)) Y (VRunO.nil (tn ?_)))))))))))
   have hgo:gridOk g:=by assumption
   have he7:(Qi g i).1=(Qi g (i+1)).1:=by (rw [YK,Z4];simp [*];done)
   refine ⟨(i+1:Nat),?_,?_,Wk.mk (fun k=>k) ?_ ?_ ?_⟩
   ·exact ⟨by omega, .inl hgo⟩
   ·omega
   ·exact (b2 (b2 (bc ⟨(congrArg (fun l_=>T.os 4 1 0 (List.map (Qk true) l_).length) he7),rfl⟩ (bc ⟨(congrArg (T.int .i64) (show (((Qi g i).2:Nat):Int)=(((Qi g (i+1)).2:Nat):Int) from (by (rw [Z4];simp [*];done)))),rfl⟩ (b2 bn)))))
   ·exact (b3 (bc ⟨(congrArg (fun l_=>some (Obj.rows 4 (List.map (Qk true) l_))) he7),(lb Y),rfl⟩ bn))
   ·exact nd Y
  refine VRun.exit (vthn.e (vthn.e (vinB.e (tn (sr (mO (T.os 4 1 0 ((((Qi g i).1).map (Qk true)).length)) Y (aO (T.os 4 1 0 ((((Qi g i).1).map (Qk true)).length)) Y (nt (rt ?_)))))))))
  refine vfin.eq (r':=(T.sl true 4 (((Qi g i).1).map (Qk true)))) ?_ (vfin.r (VRes.tmp (t:=(T.os 4 1 0 ((((Qi g i).1).map (Qk true)).length))) Y VRes.nil) (Give.os Y Y (okeSlot.cleanMap _)))
  refine congrArg (fun l_=>T.sl true 4 (List.map (Qk true) l_)) ?_
  refine QdN hI1 hI'.2 ?_;(right;assumption)
 refine QE 2 5 true 14 (dz fhg14_2) Y Y Y (fO (OF.pickF (VEv.tmpB Y (dz fhg14_2)) (VEv.bool false)) (nt (cf Y (VRun.exit (vthn.e (vthn.e (vinB.e (tn (sr (mO (T.os 4 1 0 ((((Qi g i).1).map (Qk true)).length)) Y (aO (T.os 4 1 0 ((((Qi g i).1).map (Qk true)).length)) Y ?_)))))))))))
 refine nt (rt ?_)
 refine vfin.eq (r':=(T.sl true 4 (((Qi g i).1).map (Qk true)))) ?_ (vfin.r (VRes.tmp (t:=(T.os 4 1 0 ((((Qi g i).1).map (Qk true)).length))) Y VRes.nil) (Give.os Y Y (okeSlot.cleanMap _)))
 refine congrArg (fun l_=>T.sl true 4 (List.map (Qk true) l_)) ?_
 refine QdN hI1 hI'.2 ?_;(left;assumption)
theorem Qaf (n:Nat) (g:D.Grid) (hc:g.Cells.size≤maxLen):Pure (Qs Tryz.prog (n+3)) 107 [(T.agg (Qe false g))] (T.sl true 4 ((Qc g).map (Qk true))):=by
 refine Pure.intro (rs:= [ResultVar.tmp 2]) Tryz.func107 Y Y Y (E0:= [(0,(T.agg (Qe false g)))]) Y ?_
 obtain ⟨hlim,hmx,hmax⟩:=QG
 refine sr (kO (B.box (ts:=(Qe false g)) (tv (T.agg (Qe false g)) Y) nofun Y) (fO (OF.assign VEv.nils) (nt (sq (sr (lO (OL.loadOn (us:=(Qe false g)) (tv (T.op 0 0) Y) Y Q4 QX (lb Y) Y) (cO (cS (vc (tv (T.agg (Qe false g)) Y) vn) (LendL.cons (lg Qw) ln) (Yr (n+0) g (by assumption)) Y Y) (fO (Q1 (tv (tB (decide (gridOk g))) Y)) (nt ?_)))))))))
 refine cn (gridOk g) Y (fun fhc0=> ?_) fun fhc0=> ?_
 ·refine sr ?_
  refine fO (OF.assign VEv.nils) (nt (rt (tr ?_)))
  refine vfin.eq (r':=(T.sl true 4 [])) ?_ (vfin.r (VRes.tmp (t:=T.nils) Y VRes.nil) (Give.nils 4))
  refine congrArg (fun l_=>T.sl true 4 (List.map (Qk true) l_)) (a₁:= []) ?_
  exact (QkS fhc0).symm
 refine sk (tn (sr (fO (OF.assign VEv.nils) (nt (sr (fO (OF.assign (VEv.int .i64 0)) (nt (sq (sr (lf (tS g.Cells) Y QN Y Y Yp (lO (B.lenS (tv (tS g.Cells) Y) U9) ?_)))))))))))
 refine fO (OF.move (VEv.int .i64 0)) (nt (VRun.block (VRun.wk (Wk.phantom 3 4 Y) ?_)))
 have he1: []=(((Qi g 0).1).map (Qk true)):=by rfl
 refine VRun.loop (A:=Nat) (fun s_=> [(1,(T.op 0 0)),(2,T.nils),(3,(T.os 4 1 0 ((((Qi g s_).1).map (Qk true)).length))),(4,(tN ((Qi g s_).2))),(13,(tN g.Cells.size)),(14,(tN s_))]) (fun s_=>QY [(0,(Obj.cells (Qe false g))),(1,(Obj.rows 4 (((Qi g s_).1).map (Qk true))))]) 2 (fun s_=>s_≤g.Cells.size) (fun s_=>g.Cells.size - s_) (0:Nat) ?_ (Wk.mk (fun k=>k) ?_ ?_ ?_) ?_
 ·(simp;done)
 ·exact (b2 (b2 (bc ⟨(congrArg (fun n_=>T.os 4 1 0 n_) (show 0=(((Qi g 0).1).map (Qk true)).length from (by rfl))),rfl⟩ (bc ⟨(congrArg (T.int .i64) (show 0=(((Qi g 0).2:Nat):Int) from (by rfl))),rfl⟩ (b2 (b2 bn))))))
 ·exact (b3 (bc ⟨(congrArg (fun l_=>some (Obj.rows 4 l_)) he1),(lb Y),rfl⟩ bn))
 ·exact nd Y
 rintro i (hI':i≤g.Cells.size)
 show VRun _ _ _ [(1,(T.op 0 0)),(2,T.nils),(3,(T.os 4 1 0 ((((Qi g i).1).map (Qk true)).length))),(4,(tN ((Qi g i).2))),(13,(tN g.Cells.size)),(14,(tN i))] (QY [(0,(Obj.cells (Qe false g))),(1,(Obj.rows 4 (((Qi g i).1).map (Qk true))))]) 2 _
 have hI1:=hI'
 have hbd:=Qb7 g i
 have hgo:gridOk g:=by assumption
 have hsz:=hgo.size
 refine sr (fO (Zb (tv (tN i) Y) (tv (tN g.Cells.size) Y)) (nt (sq ?_)))
 refine cd (i<g.Cells.size) Y (fun fhc1=> ?_) fun fhc1=> ?_
 ·refine sk ?_
  refine tn (sq (VRun.block (sr (mO (tN i) Y (aO (tN i) Y (nt (sq (VRun.draw (B:= [[],[],[1,0],[],[],[0,1,2,4,3],[3,4,5,0,1,2],[6,3,4,2,1,0,5]]) (by kernel_rfl) (by kernel_rfl) (lD (OL.loadOn (us:=(Qe false g)) (tv (T.op 0 0) Y) Y Q4 QX (lb Y) Y) Y Y (mD (tN i) Y Y (VRunD.quiet (bi:= [1,0]) Y VWant.always Y Y Y bn (cS (vc (tv (T.agg (Qe false g)) Y) (vc (tv (tN i) Y) (vc (VEv.bool false) vn))) (LendL.cons (lg Qw) (lp Y (lp Y ln))) (QfJ (n+1) g i false (by assumption) (by assumption)) Y Y) ?_)))))))))))
  refine lD (OL.loadOn (us:=(Qe false g)) (tv (T.op 0 0) Y) Y Q4 QX (lb Y) Y) Y Y (mD (tN i) Y Y (VRunD.quiet (bi:= [0,1,2,4,3]) Y VWant.always Y Y Y bn (cS (vc (tv (T.agg (Qe false g)) Y) (vc (tv (tN i) Y) (vc (VEv.bool true) vn))) (LendL.cons (lg Qw) (lp Y (lp Y ln))) (QfJ (n+1) g i true (by assumption) (by assumption)) Y Y) (fD (OF.assign (tv (tN (Qr g i false)) Y)) Y Y (fD (OF.assign (tv (tN (Qr g i true)) Y)) Y Y (VRunD.nil (tn (sq (sr (mO (tN (Qr g i false)) Y (fO (B.geq (c:=(decide (2≤Qr g i false))) (tv (tN (Qr g i false)) Y) (VEv.int .i64 2) (by exact Q6 (by omega))) (mO (tB (decide (2≤Qr g i false))) Y ?_)))))))))))
  refine gw (2≤Qr g i false) (fun fhg25_2=> ?_) fun fhg25_2=> ?_
  ·refine QE 2 2 false 25 (dy fhg25_2) Y Y Y ?_
   refine fO (OF.pickT (VEv.tmpB Y (dy fhg25_2)) (VEv.bool true)) (nt (ct Y (VRun.region (mO (tN ((Qi g i).2)) Y (fO (Qy (tv (tN ((Qi g i).2)) Y) (VEv.int .i64 1) (by omega)) (aO (tN ((Qi g i).2+1)) Y (VRunO.nil (tn (sq (sr (mO (tN (Qr g i false)) Y ?_)))))))))))
   refine fO (B.geq (c:=(decide (2≤Qr g i false))) (tv (tN (Qr g i false)) Y) (VEv.int .i64 2) (by exact Q6 (by omega))) (nt (ck (dy fhg25_2) Y (VRun.region (mO (T.os 4 1 0 ((((Qi g i).1).map (Qk true)).length)) Y (mO (tN ((Qi g i).2+1)) Y (mO (tN i) Y (mO (tN (Qr g i false)) Y (fO (OF.build (l:= [(0,(tN ((Qi g i).2+1))),(1,(tB false)),(2,(tN i)),(3,(tN (Qr g i false)))]) (zs:= [(tN 0),(tB false),(tN 0),(tN 0)]) (out:= [(tN ((Qi g i).2+1)),(tB false),(tN i),(tN (Qr g i false))]) (VEvp.cons (i:=0) (tv (tN ((Qi g i).2+1)) Y) (VEvp.cons (i:=1) (VEv.bool false) (VEvp.cons (i:=2) (tv (tN i) Y) (VEvp.cons (i:=3) (tv (tN (Qr g i false)) Y) VEvp.nil)))) (bc nofun (bc nofun (bc nofun (bc nofun bn)))) Tryz.underlying138 YP (fun _=>RL.cons (.int _ _) (RL.cons (.bool _) (RL.cons (.int _ _) (RL.cons (.int _ _) (RL.nil _))))) (by kernel_rfl) (by kernel_rfl)) (kO (OM.buildSlice (l:= [(T.agg [(tN ((Qi g i).2+1)),(tB false),(tN i),(tN (Qr g i false))])]) (VEvp.cons (tv (T.agg [(tN ((Qi g i).2+1)),(tB false),(tN i),(tN (Qr g i false))]) Y) VEvp.nil) Y (by decide) (bc (nofun) bn) (bc ((bc (Y) (bc (Y) (bc (Y) (bc (Y) bn))))) bn) (bc (Y) bn) Yh YP (by kernel_rfl) Y (by rw [Zt];decide) Zt (Nat.le_of_ble_eq_true Y)) (cO (B.append (rows:=(((Qi g i).1).map (Qk true))) (rows2:= [[(tN ((Qi g i).2+1)),(tB false),(tN i),(tN (Qr g i false))]]) (rows3:=(((Qi g i).1++ [(D.Slot.mk ((((Qi g i).2+1):Nat):Int) false ((i:Nat):Int) ((Qr g i false:Nat):Int))]).map (Qk true))) (VDst.own (tv (T.os 4 1 0 ((((Qi g i).1).map (Qk true)).length)) Y) Y Y) (VSrc.own (tv (T.os 4 2 0 1) Y) Y Y Yh (bc (bc Y (bc Y (bc Y (bc Y bn)))) bn)) (by decide) Yh Zt (by decide) YP Y (of_decide_eq_true (by kernel_rfl)) (by (simp only [List.length_map,List.length_append,List.length_cons,List.length_nil,List.length_replicate,List.length_set,List.length_drop,List.length_take,YG] at *;omega)) ((List.map_append (f:=Qk true) (l₁:=(Qi g i).1) (l₂:= [(D.Slot.mk ((((Qi g i).2+1):Nat):Int) false ((i:Nat):Int) ((Qr g i false:Nat):Int))])).symm)) (aO (T.os 4 3 0 ((((Qi g i).1++ [(D.Slot.mk ((((Qi g i).2+1):Nat):Int) false ((i:Nat):Int) ((Qr g i false:Nat):Int))]).map (Qk true)).length)) Y ?_)))))))))))
   refine VRunO.nil (tn (sr (mO (tN (Qr g i true)) Y (fO (B.geq (c:=(decide (2≤Qr g i true))) (tv (tN (Qr g i true)) Y) (VEv.int .i64 2) (by exact Q6 (by omega))) (nt ?_)))))
   refine cd (2≤Qr g i true) Y (fun fhc4=> ?_) fun fhc4=> ?_
   ·refine VRun.region ?_
    refine mO (T.os 4 3 0 ((((Qi g i).1++ [(D.Slot.mk ((((Qi g i).2+1):Nat):Int) false ((i:Nat):Int) ((Qr g i false:Nat):Int))]).map (Qk true)).length)) Y (mO (tN ((Qi g i).2+1)) Y (mO (tN i) Y (mO (tN (Qr g i true)) Y (fO (OF.build (l:= [(0,(tN ((Qi g i).2+1))),(1,(tB true)),(2,(tN i)),(3,(tN (Qr g i true)))]) (zs:= [(tN 0),(tB false),(tN 0),(tN 0)]) (out:= [(tN ((Qi g i).2+1)),(tB true),(tN i),(tN (Qr g i true))]) (VEvp.cons (i:=0) (tv (tN ((Qi g i).2+1)) Y) (VEvp.cons (i:=1) (VEv.bool true) (VEvp.cons (i:=2) (tv (tN i) Y) (VEvp.cons (i:=3) (tv (tN (Qr g i true)) Y) VEvp.nil)))) (bc nofun (bc nofun (bc nofun (bc nofun bn)))) Tryz.underlying138 YP (fun _=>RL.cons (.int _ _) (RL.cons (.bool _) (RL.cons (.int _ _) (RL.cons (.int _ _) (RL.nil _))))) (by kernel_rfl) (by kernel_rfl)) (kO (OM.buildSlice (l:= [(T.agg [(tN ((Qi g i).2+1)),(tB true),(tN i),(tN (Qr g i true))])]) (VEvp.cons (tv (T.agg [(tN ((Qi g i).2+1)),(tB true),(tN i),(tN (Qr g i true))]) Y) VEvp.nil) Y (by decide) (bc (nofun) bn) (bc ((bc (Y) (bc (Y) (bc (Y) (bc (Y) bn))))) bn) (bc (Y) bn) Yh YP (by kernel_rfl) Y (by rw [Zt];decide) Zt (Nat.le_of_ble_eq_true Y)) (cO (B.append (rows:=(((Qi g i).1++ [(D.Slot.mk ((((Qi g i).2+1):Nat):Int) false ((i:Nat):Int) ((Qr g i false:Nat):Int))]).map (Qk true))) (rows2:= [[(tN ((Qi g i).2+1)),(tB true),(tN i),(tN (Qr g i true))]]) (rows3:=((((Qi g i).1++ [(D.Slot.mk ((((Qi g i).2+1):Nat):Int) false ((i:Nat):Int) ((Qr g i false:Nat):Int))])++ [(D.Slot.mk ((((Qi g i).2+1):Nat):Int) true ((i:Nat):Int) ((Qr g i true:Nat):Int))]).map (Qk true))) (VDst.own (tv (T.os 4 3 0 ((((Qi g i).1++ [(D.Slot.mk ((((Qi g i).2+1):Nat):Int) false ((i:Nat):Int) ((Qr g i false:Nat):Int))]).map (Qk true)).length)) Y) Y Y) (VSrc.own (tv (T.os 4 4 0 1) Y) Y Y Yh (bc (bc Y (bc Y (bc Y (bc Y bn)))) bn)) (by decide) Yh Zt (by decide) YP Y (of_decide_eq_true (by kernel_rfl)) (by (simp only [List.length_map,List.length_append,List.length_cons,List.length_nil,List.length_replicate,List.length_set,List.length_drop,List.length_take,YG] at *;omega)) ((List.map_append (f:=Qk true) (l₁:=((Qi g i).1++ [(D.Slot.mk ((((Qi g i).2+1):Nat):Int) false ((i:Nat):Int) ((Qr g i false:Nat):Int))])) (l₂:= [(D.Slot.mk ((((Qi g i).2+1):Nat):Int) true ((i:Nat):Int) ((Qr g i true:Nat):Int))])).symm)) (aO (T.os 4 5 0 (((((Qi g i).1++ [(D.Slot.mk ((((Qi g i).2+1):Nat):Int) false ((i:Nat):Int) ((Qr g i false:Nat):Int))])++ [(D.Slot.mk ((((Qi g i).2+1):Nat):Int) true ((i:Nat):Int) ((Qr g i true:Nat):Int))]).map (Qk true)).length)) Y (VRunO.nil (vinB.n (tn (VRun.region ?_)))))))))))
    refine fO (Qy (tv (tN i) Y) (VEv.int .i64 1) (by omega)) (mO (tN (i+1)) Y (VRunO.nil (tn ?_)))
    have he3:(((Qi g i).1++ [(D.Slot.mk ((((Qi g i).2+1):Nat):Int) false ((i:Nat):Int) ((Qr g i false:Nat):Int))])++ [(D.Slot.mk ((((Qi g i).2+1):Nat):Int) true ((i:Nat):Int) ((Qr g i true:Nat):Int))])=(Qi g (i+1)).1:=by (rw [YK,Z4];simp [*];done)
    refine ⟨(i+1:Nat),?_,?_,Wk.mk (fun k=>if k=1 then 5 else k) ?_ ?_ ?_⟩
    ·trivial
    ·omega
    ·exact (b2 (b2 (bc ⟨(congrArg (fun l_=>T.os 4 5 0 (List.map (Qk true) l_).length) he3),rfl⟩ (bc ⟨(congrArg (T.int .i64) (show ((((Qi g i).2+1):Nat):Int)=(((Qi g (i+1)).2:Nat):Int) from (by (rw [Z4];simp [*];done)))),rfl⟩ (b2 (b2 bn))))))
    ·exact (b3 (bc ⟨(congrArg (fun l_=>some (Obj.rows 4 (List.map (Qk true) l_))) he3),(lb Y),rfl⟩ bn))
    ·exact nd Y
   refine sk (vinB.n (tn (VRun.region (fO (Qy (tv (tN i) Y) (VEv.int .i64 1) (by omega)) (mO (tN (i+1)) Y (VRunO.nil (tn ?_)))))))
   have he4:((Qi g i).1++ [(D.Slot.mk ((((Qi g i).2+1):Nat):Int) false ((i:Nat):Int) ((Qr g i false:Nat):Int))])=(Qi g (i+1)).1:=by (rw [YK,Z4];simp [*];done)
   refine ⟨(i+1:Nat),?_,?_,Wk.mk (fun k=>if k=1 then 3 else k) ?_ ?_ ?_⟩
   ·trivial
   ·omega
   ·exact (b2 (b2 (bc ⟨(congrArg (fun l_=>T.os 4 3 0 (List.map (Qk true) l_).length) he4),rfl⟩ (bc ⟨(congrArg (T.int .i64) (show ((((Qi g i).2+1):Nat):Int)=(((Qi g (i+1)).2:Nat):Int) from (by (rw [Z4];simp [*];done)))),rfl⟩ (b2 (b2 bn))))))
   ·exact (b3 (bc ⟨(congrArg (fun l_=>some (Obj.rows 4 (List.map (Qk true) l_))) he4),(lb Y),rfl⟩ bn))
   ·exact nd Y
  refine gF (dz fhg25_2) Y Y (OF.move (tv (tN (Qr g i true)) Y)) (gF (dz fhg25_2) Y Y (B.geq (c:=(decide (2≤Qr g i true))) (tv (tN (Qr g i true)) Y) (VEv.int .i64 2) (by exact Q6 (by omega))) (fO (OF.pickF (VEv.tmpB Y (dz fhg25_2)) (tv (tB (decide (2≤Qr g i true))) Y)) (nt ?_)))
  refine cd (2≤Qr g i true) Y (fun fhc2=> ?_) fun fhc2=> ?_
  ·refine VRun.region ?_
   refine mO (tN ((Qi g i).2)) Y (fO (Qy (tv (tN ((Qi g i).2)) Y) (VEv.int .i64 1) (by omega)) (aO (tN ((Qi g i).2+1)) Y (VRunO.nil (tn (sq (sr (mO (tN (Qr g i false)) Y (fO (B.geq (c:=(decide (2≤Qr g i false))) (tv (tN (Qr g i false)) Y) (VEv.int .i64 2) (by exact Q6 (by omega))) (nt (cg (dz fhg25_2) Y (sk ?_)))))))))))
   refine tn (sr (mO (tN (Qr g i true)) Y (fO (B.geq (c:=(decide (2≤Qr g i true))) (tv (tN (Qr g i true)) Y) (VEv.int .i64 2) (by exact Q6 (by omega))) (nt (ck (dy fhc2) Y (VRun.region (mO (T.os 4 1 0 ((((Qi g i).1).map (Qk true)).length)) Y (mO (tN ((Qi g i).2+1)) Y (mO (tN i) Y (mO (tN (Qr g i true)) Y (fO (OF.build (l:= [(0,(tN ((Qi g i).2+1))),(1,(tB true)),(2,(tN i)),(3,(tN (Qr g i true)))]) (zs:= [(tN 0),(tB false),(tN 0),(tN 0)]) (out:= [(tN ((Qi g i).2+1)),(tB true),(tN i),(tN (Qr g i true))]) (VEvp.cons (i:=0) (tv (tN ((Qi g i).2+1)) Y) (VEvp.cons (i:=1) (VEv.bool true) (VEvp.cons (i:=2) (tv (tN i) Y) (VEvp.cons (i:=3) (tv (tN (Qr g i true)) Y) VEvp.nil)))) (bc nofun (bc nofun (bc nofun (bc nofun bn)))) Tryz.underlying138 YP (fun _=>RL.cons (.int _ _) (RL.cons (.bool _) (RL.cons (.int _ _) (RL.cons (.int _ _) (RL.nil _))))) (by kernel_rfl) (by kernel_rfl)) ?_)))))))))))
   refine kO (OM.buildSlice (l:= [(T.agg [(tN ((Qi g i).2+1)),(tB true),(tN i),(tN (Qr g i true))])]) (VEvp.cons (tv (T.agg [(tN ((Qi g i).2+1)),(tB true),(tN i),(tN (Qr g i true))]) Y) VEvp.nil) Y (by decide) (bc (nofun) bn) (bc ((bc (Y) (bc (Y) (bc (Y) (bc (Y) bn))))) bn) (bc (Y) bn) Yh YP (by kernel_rfl) Y (by rw [Zt];decide) Zt (Nat.le_of_ble_eq_true Y)) (cO (B.append (rows:=(((Qi g i).1).map (Qk true))) (rows2:= [[(tN ((Qi g i).2+1)),(tB true),(tN i),(tN (Qr g i true))]]) (rows3:=(((Qi g i).1++ [(D.Slot.mk ((((Qi g i).2+1):Nat):Int) true ((i:Nat):Int) ((Qr g i true:Nat):Int))]).map (Qk true))) (VDst.own (tv (T.os 4 1 0 ((((Qi g i).1).map (Qk true)).length)) Y) Y Y) (VSrc.own (tv (T.os 4 2 0 1) Y) Y Y Yh (bc (bc Y (bc Y (bc Y (bc Y bn)))) bn)) (by decide) Yh Zt (by decide) YP Y (of_decide_eq_true (by kernel_rfl)) (by (simp only [List.length_map,List.length_append,List.length_cons,List.length_nil,List.length_replicate,List.length_set,List.length_drop,List.length_take,YG] at *;omega)) ((List.map_append (f:=Qk true) (l₁:=(Qi g i).1) (l₂:= [(D.Slot.mk ((((Qi g i).2+1):Nat):Int) true ((i:Nat):Int) ((Qr g i true:Nat):Int))])).symm)) (aO (T.os 4 3 0 ((((Qi g i).1++ [(D.Slot.mk ((((Qi g i).2+1):Nat):Int) true ((i:Nat):Int) ((Qr g i true:Nat):Int))]).map (Qk true)).length)) Y (VRunO.nil (vinB.n (tn (VRun.region (fO (Qy (tv (tN i) Y) (VEv.int .i64 1) (by omega)) (mO (tN (i+1)) Y (VRunO.nil (tn ?_))))))))))
   have he5:((Qi g i).1++ [(D.Slot.mk ((((Qi g i).2+1):Nat):Int) true ((i:Nat):Int) ((Qr g i true:Nat):Int))])=(Qi g (i+1)).1:=by (rw [YK,Z4];simp [*];done)
   refine ⟨(i+1:Nat),?_,?_,Wk.mk (fun k=>if k=1 then 3 else k) ?_ ?_ ?_⟩
   ·trivial
   ·omega
   ·exact (b2 (b2 (bc ⟨(congrArg (fun l_=>T.os 4 3 0 (List.map (Qk true) l_).length) he5),rfl⟩ (bc ⟨(congrArg (T.int .i64) (show ((((Qi g i).2+1):Nat):Int)=(((Qi g (i+1)).2:Nat):Int) from (by (rw [Z4];simp [*];done)))),rfl⟩ (b2 (b2 bn))))))
   ·exact (b3 (bc ⟨(congrArg (fun l_=>some (Obj.rows 4 (List.map (Qk true) l_))) he5),(lb Y),rfl⟩ bn))
   ·exact nd Y
  refine sk (tn (sq (sr (mO (tN (Qr g i false)) Y (fO (B.geq (c:=(decide (2≤Qr g i false))) (tv (tN (Qr g i false)) Y) (VEv.int .i64 2) (by exact Q6 (by omega))) (nt (cg (dz fhg25_2) Y (sk (tn (sr (mO (tN (Qr g i true)) Y ?_)))))))))))
  refine fO (B.geq (c:=(decide (2≤Qr g i true))) (tv (tN (Qr g i true)) Y) (VEv.int .i64 2) (by exact Q6 (by omega))) (nt (cg (dz fhc2) Y (sk (vinB.n (tn (VRun.region (fO (Qy (tv (tN i) Y) (VEv.int .i64 1) (by omega)) (mO (tN (i+1)) Y (VRunO.nil (tn ?_))))))))))
  have he6:(Qi g i).1=(Qi g (i+1)).1:=by (rw [YK,Z4];simp [*];done)
  refine ⟨(i+1:Nat),?_,?_,Wk.mk (fun k=>k) ?_ ?_ ?_⟩
  ·trivial
  ·omega
  ·exact (b2 (b2 (bc ⟨(congrArg (fun l_=>T.os 4 1 0 (List.map (Qk true) l_).length) he6),rfl⟩ (bc ⟨(congrArg (T.int .i64) (show (((Qi g i).2:Nat):Int)=(((Qi g (i+1)).2:Nat):Int) from (by (rw [Z4];simp [*];done)))),rfl⟩ (b2 (b2 bn))))))
  ·exact (b3 (bc ⟨(congrArg (fun l_=>some (Obj.rows 4 (List.map (Qk true) l_))) he6),(lb Y),rfl⟩ bn))
  ·exact nd Y
 refine VRun.exit (vthn.e (vthn.e (vinB.e (tn (sr (mO (T.os 4 1 0 ((((Qi g i).1).map (Qk true)).length)) Y (aO (T.os 4 1 0 ((((Qi g i).1).map (Qk true)).length)) Y (nt (rt ?_)))))))))
 refine vfin.eq (r':=(T.sl true 4 (((Qi g i).1).map (Qk true)))) ?_ (vfin.r (VRes.tmp (t:=(T.os 4 1 0 ((((Qi g i).1).map (Qk true)).length))) Y VRes.nil) (Give.os Y Y (okeSlot.cleanMap _)))
 refine congrArg (fun l_=>T.sl true 4 (List.map (Qk true) l_)) ?_
 refine QdN hI1 (.inl hgo) ?_;left;assumption
noncomputable section
def QcL (g:D.Grid):Prop:=∃s∈Qc g,s.Length<3
instance (g:D.Grid):Decidable (QcL g):=Classical.propDecidable _
end
theorem Qe1 (n:Nat) (g:D.Grid) (hc:g.Cells.size≤maxLen):Pure (Qs Tryz.prog (n+4)) 134 [(T.agg (Qe false g))] (tB (decide (QcL g))):=by
 refine Pure.intro (rs:= [ResultVar.tmp 2]) Tryz.func134 Y Y Y (E0:= [(0,(T.agg (Qe false g)))]) Y ?_
 obtain ⟨hlim,hmx,hmax⟩:=QG
 have hsl:=Zp g
 refine sr (kO (B.box (ts:=(Qe false g)) (tv (T.agg (Qe false g)) Y) nofun Y) (fO (OF.assign (VEv.bool false)) (nt (sr (lO (OL.loadOn (us:=(Qe false g)) (tv (T.op 0 0) Y) Y Q4 QX (lb Y) Y) (cO (OC.callF (r':=(T.os 4 1 0 (((Qc g).map (Qk true)).length))) (objs:= [(Obj.rows 4 ((Qc g).map (Qk true)))]) Y (vc (tv (T.agg (Qe false g)) Y) vn) (LendL.cons (lg Qw) ln) (ZJ (n+0) g (by assumption)) Y) (aO (T.os 4 1 0 (((Qc g).map (Qk true)).length)) Y (nt (sq (sr (fO (OF.assign (VEv.int .i64 0)) ?_)))))))))))
 refine nt (VRun.block ?_)
 refine VRun.loop (A:=Nat) (fun s_=> [(3,(T.os 4 0 0 (((Qc g).map (Qk true)).length))),(4,(tN s_))]) (fun s_=>QY [(0,(Obj.rows 4 ((Qc g).map (Qk true))))]) 1 (fun s_=>NoneTo (fun s:D.Slot=>s.Length<3) (Qc g) s_) (fun s_=>(Qc g).length - s_) (0:Nat) ?_ (Wk.mk (fun k=>if k=0 then 1 else k) ?_ ?_ ?_) ?_
 ·exact NoneTo.start _ _
 ·exact (b2 (b2 bn))
 ·exact (b3 bn)
 ·exact nd Y
 rintro i (hI':NoneTo (fun s:D.Slot=>s.Length<3) (Qc g) i)
 show VRun _ _ _ [(3,(T.os 4 0 0 (((Qc g).map (Qk true)).length))),(4,(tN i))] (QY [(0,(Obj.rows 4 ((Qc g).map (Qk true))))]) 1 _
 have hI1:=hI'.1
 refine sq (sr (mO (tN i) Y (mO (T.os 4 0 0 (((Qc g).map (Qk true)).length)) Y (lO (B.lenO (m:=(Qc g).length) (tv (T.os 4 0 0 (((Qc g).map (Qk true)).length)) Y) Yh (List.length_map ..)) (fO (Zb (tv (tN i) Y) (tv (tN ((Qc g).length)) Y)) (nt ?_))))))
 refine cd (i<(Qc g).length) Y (fun fhc0=> ?_) fun fhc0=> ?_
 ·refine sk ?_
  refine tn (sq (VRun.block (sr (mO (T.os 4 0 0 (((Qc g).map (Qk true)).length)) Y (mO (tN i) Y ?_)))))
  obtain ⟨x1,hx1⟩:∃x,(Qc g)[i]? =some x:=⟨_,List.getElem?_eq_getElem (by omega)⟩
  refine fO (B.indexAddrO (i:=i) (tv (T.os 4 0 0 (((Qc g).map (Qk true)).length)) Y) (tv (tN i) Y) Y (by (simp only [List.length_map];omega)) Yh Zt Qbt) (fO (OF.fieldAddrP (tv (T.orp 4 0 i 0) Y) Qbc) (lO (OL.loadP1 (t:=(tI x1.Length)) (row:=(Qk true x1)) (tv (T.orp 4 0 i 3) Y) Y (Qt _ hx1) Y Y QQ) (fO (xls (tv (tI x1.Length) Y) (VEv.int .i64 3)) (nt ?_))))
  refine cd (x1.Length<3) Y (fun fhc1=> ?_) fun fhc1=> ?_
  ·refine sr ?_
   refine fO (OF.assign (VEv.bool true)) (nt (rt (vinB.r (tr (tr (vinB.r (tr (vb (b':=true) Y ?_))))))))
   symm;rw [decide_eq_true_eq];exact ⟨x1,List.mem_of_getElem? hx1,fhc1⟩
  refine sk (vinB.n (tn (VRun.region (mO (tN i) Y (fO (Qy (tv (tN i) Y) (VEv.int .i64 1) (by omega)) (aO (tN (i+1)) Y (VRunO.nil (tn ?_))))))))
  refine ⟨(i+1:Nat),?_,?_,Wk.mk (fun k=>k) ?_ ?_ ?_⟩
  ·exact hI'.next hx1 fhc1
  ·omega
  ·exact (b2 (b2 bn))
  ·exact (b3 bn)
  ·exact nd Y
 refine VRun.exit (vthn.e (vthn.e (vinB.e (tn (sr (fO (OF.assign (VEv.bool false)) (nt (rt (vb (b':=false) Y ?_)))))))))
 symm;rw [decide_eq_false_iff_not];rintro ⟨y,hy,hy2⟩;exact hI'.mem fhc0 y hy hy2
end Go.Proofs.YtcccmceoplcciaaGreat.AE
