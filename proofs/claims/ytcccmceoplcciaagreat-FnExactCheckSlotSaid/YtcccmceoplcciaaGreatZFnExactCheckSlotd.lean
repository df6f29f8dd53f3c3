/- A part of what the row of FnExactCheckSlot uses. Conditions: as each theorem states. -/
import Derived.Test.YtcccmceoplcciaaGreatZFnExactCheckSlotc
namespace Go.Proofs.YtcccmceoplcciaaGreat.AE
open Go Go.RowKit
set_option linter.unusedVariables false
set_option linter.unusedSimpArgs false
set_option maxRecDepth 20000
set_option maxHeartbeats 2000000
noncomputable section
def two (k:Int):Prop:=k=4∨k=5
def Jx (l:List D.Step) (j:Nat):Prop:=∃x,l[j]? =some x∧(1≤x.Kind∧x.Kind≤9)∧(x.Kind=1→Zl x.Word∧x.A=0∧x.B=0) ∧
 (¬x.Kind=1→x.Word=(⟨#[]⟩:ByteArray)∧(0≤x.A∧x.A<(j:Int))∧(two x.Kind→0≤x.B∧x.B<(j:Int))∧(¬two x.Kind→x.B=0)∧(¬two x.Kind→¬x.Kind=2→∃y,l[x.A.toNat]? =some y∧y.Kind=1))
instance (l:List D.Step) (j:Nat):Decidable (Jx l j):=Classical.propDecidable _
def Ys (l:List D.Step):Prop:=(1≤l.length∧l.length≤9)∧∀j,j<l.length→Jx l j
instance (l:List D.Step):Decidable (Ys l):=Classical.propDecidable _
def Qd1 (l:List D.Step) (j:Nat) (x:D.Step):Prop:=(1≤x.Kind∧x.Kind≤9)∧(x.Kind=1→Zl x.Word∧x.A=0∧x.B=0) ∧
 (¬x.Kind=1→x.Word=(⟨#[]⟩:ByteArray)∧(0≤x.A∧x.A<(j:Int))∧(two x.Kind→0≤x.B∧x.B<(j:Int))∧(¬two x.Kind→x.B=0)∧(¬two x.Kind→¬x.Kind=2→∃y,l[x.A.toNat]? =some y∧y.Kind=1))
theorem QF {l:List D.Step} {j:Nat} {x:D.Step} (hx:l[j]? =some x):Jx l j↔Qd1 l j x:=by
 constructor
 ·rintro ⟨y,hy,h⟩
  obtain rfl:=QcT hx hy
  exact h
 ·intro h
  exact ⟨x,hx,h⟩
theorem Qod {l:List D.Step} {k:Nat} {y:D.Step} (hy:l[k]? =some y):(∃z,l[k]? =some z∧z.Kind=1)↔y.Kind=1:=by
 constructor
 ·rintro ⟨z,hz,h⟩
  obtain rfl:=QcT hy hz
  exact h
 ·intro h
  exact ⟨y,hy,h⟩
theorem QnY {l:List D.Step} {j:Nat} {x y:D.Step} (hx:l[j]? =some x) (hy:l[x.A.toNat]? =some y) (h1:1≤x.Kind∧x.Kind≤9) (h2:¬x.Kind=1) (h3:x.Word=(⟨#[]⟩:ByteArray)) (h4:0≤x.A∧x.A<(j:Int)) (h5:x.B=0) (h6:¬two x.Kind) (h7:¬x.Kind=2):decide (y.Kind=1)=decide (Jx l j):=by
 refine Zb ?_
 rw [QF hx]
 simp only [Qd1,Qod hy]
 exact ⟨fun h=>⟨h1,fun hk=>absurd hk h2,fun _=>⟨h3,h4,fun h=>absurd h h6,fun _=>h5,fun _ _=>h⟩⟩,fun h=>(h.2.2 h2).2.2.2.2 h6 h7⟩
theorem QnT {l:List D.Step} {j:Nat} {x:D.Step} (hx:l[j]? =some x) (h1:1≤x.Kind∧x.Kind≤9) (h2:x.Kind=1) (h3:Zl x.Word) (h4:x.A=0):decide (x.B=0)=decide (Jx l j):=by
 refine Zb ?_
 rw [QF hx]
 simp only [Qd1]
 exact ⟨fun h=>⟨h1,fun _=>⟨h3,h4,h⟩,fun hk=>absurd h2 hk⟩,fun h=>(h.2.1 h2).2.2⟩
theorem Zq : ¬Zl (⟨#[]⟩:ByteArray):=fun h=>absurd h.1.1 (by decide)
end
theorem Qdt (n:Nat) (a:Int):Pure (Qq Tryz.prog (n+1)) 163 [(tI a)] (tB (decide (a=3∨6≤a))):=by
 refine Pure.intro (rs:= [ResultVar.tmp 2]) Tryz.func163 rfl rfl rfl (E0:= [(0,(tI a))]) rfl ?_
 obtain ⟨hlim,hmx,hmax⟩:=QC
 refine sr (fO (OF.assign (VEv.bool false)) (nt (sr (mO (tI a) rfl (fO (Y7 (tv (tI a) rfl) (VEv.int .i64 3)) (mO (tB (decide (a=3))) rfl ?_))))))
 refine gw (a=3) (fun fhg5_1=> ?_) fun fhg5_1=> ?_
 ·refine Qy 2 2 false 5 (dy fhg5_1) rfl rfl rfl ?_
  refine fO (OF.pickT (VEv.tmpB rfl (dy fhg5_1)) (VEv.bool true)) (aO (tB true) rfl (nt (rt (vb (b':=true) rfl ?_))))
  (symm;rw [decide_eq_true_eq];omega)
 refine gF (dz fhg5_1) rfl rfl (OF.move (tv (tI a) rfl)) (gF (dz fhg5_1) rfl rfl (xge (tv (tI a) rfl) (VEv.int .i64 6)) (fO (OF.pickF (VEv.tmpB rfl (dz fhg5_1)) (tv (tB (decide (6≤a))) rfl)) (aO (tB (decide (6≤a))) rfl (nt (rt (vb (b':=(decide (6≤a))) rfl ?_))))))
 exact Zb (by omega)
theorem Yh (n:Nat) (a:Int):Pure (Qq Tryz.prog (n+1)) 164 [(tI a)] (tB (decide (a=4∨a=5))):=by
 refine Pure.intro (rs:= [ResultVar.tmp 2]) Tryz.func164 rfl rfl rfl (E0:= [(0,(tI a))]) rfl ?_
 obtain ⟨hlim,hmx,hmax⟩:=QC
 refine sr (fO (OF.assign (VEv.bool false)) (nt (sr (mO (tI a) rfl (fO (Y7 (tv (tI a) rfl) (VEv.int .i64 4)) (mO (tB (decide (a=4))) rfl ?_))))))
 refine gw (a=4) (fun fhg5_1=> ?_) fun fhg5_1=> ?_
 ·refine Qy 2 2 false 5 (dy fhg5_1) rfl rfl rfl ?_
  refine fO (OF.pickT (VEv.tmpB rfl (dy fhg5_1)) (VEv.bool true)) (aO (tB true) rfl (nt (rt (vb (b':=true) rfl ?_))))
  (symm;rw [decide_eq_true_eq];omega)
 refine gF (dz fhg5_1) rfl rfl (OF.move (tv (tI a) rfl)) (gF (dz fhg5_1) rfl rfl (Y7 (tv (tI a) rfl) (VEv.int .i64 5)) (fO (OF.pickF (VEv.tmpB rfl (dz fhg5_1)) (tv (tB (decide (a=5))) rfl)) (aO (tB (decide (a=5))) rfl (nt (rt (vb (b':=(decide (a=5))) rfl ?_))))))
 exact Zb (by omega)
theorem Qgq (n:Nat) (a:List D.Step) (i:Nat) (hz:zL ZG a≤mx) (hi:i<a.length):Pure (Qq Tryz.prog (n+3)) 153 [(rd 4 Qj a),(tN i)] (tB (decide (Jx a i))):=by
 refine Pure.intro (rs:= [ResultVar.tmp 4]) Tryz.func153 rfl rfl rfl (E0:= [(0,(rd 4 Qj a)),(1,(tN i))]) rfl ?_
 obtain ⟨hlim,hmx,hmax⟩:=QC
 have ha:=QV (z:=ZG) a
 have hw:∀x∈a,x.Word.size≤maxLen:=fun x hx=>by have h1:=Qll (z:=ZG) hx;simp only [ZG] at h1;omega
 refine sr (fO (OF.assign (VEv.bool false)) (nt (sr (mO (rd 4 Qj a) rfl (mO (tN i) rfl ?_)))))
 obtain ⟨x1,hx1⟩:∃x,a[i]? =some x:=⟨_,List.getElem?_eq_getElem (by omega)⟩
 refine fO (OF.indexAddrR (row:=(Qj false x1)) (i:=i) (tv (rd 4 Qj a) rfl) (tv (tN i) rfl) rfl (Qv _ hx1) U81 Yt J6) (lO (OL.loadRn (us:=(Qj false x1)) (tv (T.rp (Qj false x1)) rfl) Qgd Yt (lb rfl) rfl) (kO (B.alloc (t:=(T.agg [(tN 0),(tS ByteArray.empty),(tN 0),(tN 0)])) (ts:= [(tN 0),(tS ByteArray.empty),(tN 0),(tN 0)]) QhG QhF nofun (fun _=> .agg _ _ rfl (Yg (RL.cons (.int _ _) (RL.cons (.str _) (RL.cons (.int _ _) (RL.cons (.int _ _) (RL.nil _))))))) rfl) (cO (B.storeO (us:=(Qj false x1)) (ws:=(Qj false x1)) (tv (T.op 0 0) rfl) (tv (T.agg (Qj false x1)) rfl) nofun rfl rfl (lb rfl) J6 Yt (bc rfl (bc rfl (bc rfl (bc rfl bn)))) rfl) (nt (sq (sq (VRun.draw (B:= [[],[0],[0,1],[1,0,2],[2,0,1,3],[3,1,0,2,4],[4,2,0,1,3,5],[5,3,1,0,2,4,6],[3,1,0,2,4],[4,2,0,1,3,8],[8,3,1,0,2,4,9],[9,8,10,6,4,2,0,1,3,5,7],[7,5,6,10,8,9,11,3,1,0,2,4],[4,2,0,1,3,11,9,8,10,6,5,7,12],[12,7,5,6,10,8,9,11,3,1,0,2,4,13],[13,4,2,0,1,3,11,9,8,10,6,5,7,12,14],[14,12,7,5,6,10,8,9,11,3,1,0,2,4,13,15],[15,13,4,2,0,1,3,11,9,8,10,6,5,7,12,14,16],[16,14,12,7,5,6,10,8,9,11,3,1,0,2,4,13,15,17],[17,15,13,4,2,0,1,3,11,9,8,10,6,5,7,12,14,16,18],[18,16,14,12,7,5,6,10,8,9,11,3,1,0,2,4,13,15,17,19],[19,18,20,16,14,12,7,5,6,10,8,9,11,3,1,0,2,4,13,15,17],[17,15,14,16,20,18,19,21,12,7,5,6,10,8,9,11,3,1,0,2,4,13]]) (by kernel_rfl) (by kernel_rfl) (fD (OF.fieldAddrO (tv (T.op 0 0) rfl) Za) rfl rfl (lD (OL.loadO1 (t:=(tI x1.Kind)) (tv (T.op 0 0) rfl) rfl rfl QU) rfl rfl (VRunD.quiet (bi:= [0,1]) rfl VWant.always rfl rfl rfl bn (cS (vc (tv (tI x1.Kind) rfl) (vc (VEv.int .i64 1) (vc (VEv.int .i64 9) vn))) (ZJ rfl) (QH (n+1) x1.Kind 1 9) rfl rfl) (fD (QW (tv (tB (decide (1≤x1.Kind∧x1.Kind≤9))) rfl)) rfl rfl ?_)))))))))))
 refine mD (tB (!(decide (1≤x1.Kind∧x1.Kind≤9)))) rfl rfl ?_
 refine gn (1≤x1.Kind∧x1.Kind≤9) (fun fhg15_1=> ?_) fun fhg15_1=> ?_
 ·refine oD rfl rfl (ny fhg15_1) rfl ?_
  refine oD rfl rfl (ny fhg15_1) rfl (oD rfl rfl (ny fhg15_1) rfl (oD rfl rfl (ny fhg15_1) rfl (oD rfl rfl (ny fhg15_1) rfl (oD rfl rfl (ny fhg15_1) rfl (oD rfl rfl (ny fhg15_1) rfl (fD (OF.pickT (VEv.tmpB rfl (ny fhg15_1)) (VEv.bool true)) rfl rfl (mD (tB true) rfl rfl (VRunD.off rfl (VWant.not (b:=true) rfl rfl rfl) (VRunD.off rfl (VWant.not (b:=true) rfl rfl rfl) (VRunD.off rfl (VWant.not (b:=true) rfl rfl rfl) (VRunD.off rfl (VWant.not (b:=true) rfl rfl rfl) ?_)))))))))))
  refine uD rfl rfl rfl (uD rfl rfl rfl (uD rfl rfl rfl (VRunD.off rfl (VWant.not (b:=true) rfl rfl rfl) (fD (OF.pickT (tv (tB true) rfl) (VEv.bool true)) rfl rfl (VRunD.nil (tn (ct rfl (sr (fO (OF.assign (VEv.bool false)) (nt (rt ?_)))))))))))
  refine tr (vb (b':=false) rfl ?_)
  (symm;rw [decide_eq_false_iff_not,QF hx1];rintro ⟨h1,h2,h3⟩;by_cases hk:x1.Kind=1<;>simp only [hk,two] at* <;>omega)
 refine VRunD.free rfl (VWant.on rfl rfl (nz fhg15_1)) rfl (OF.fieldAddrO (tv (T.op 0 0) rfl) Za) (VRunD.look rfl (VWant.on rfl rfl (nz fhg15_1)) rfl (OL.loadO1 (t:=(tI x1.Kind)) (tv (T.op 0 0) rfl) rfl rfl QU) (VRunD.free rfl (VWant.on rfl rfl (nz fhg15_1)) rfl (Y7 (tv (tI x1.Kind) rfl) (VEv.int .i64 1)) (VRunD.free rfl (VWant.on rfl rfl (nz fhg15_1)) rfl (OF.fieldAddrO (tv (T.op 0 0) rfl) Qah) (VRunD.look rfl (VWant.on rfl rfl (nz fhg15_1)) rfl (OL.loadO1 (t:=(tS x1.Word)) (tv (T.op 0 1) rfl) rfl rfl Z7) (VRunD.quiet (bi:= [8,3,1,0,2,4,9]) rfl (VWant.on rfl rfl (nz fhg15_1)) rfl rfl rfl bn (cS (vc (tv (tS x1.Word) rfl) vn) (ZJ rfl) (Qau (n+0) x1.Word (by exact hw _ (List.mem_of_getElem? hx1))) rfl rfl) (VRunD.free rfl (VWant.on rfl rfl (nz fhg15_1)) rfl (B.bneq U4 (c:=(!((decide (x1.Kind=1)) == (decide (Zl x1.Word))))) (tv (tB (decide (x1.Kind=1))) rfl) (tv (tB (decide (Zl x1.Word))) rfl) rfl) (fD (OF.pickF (VEv.tmpB rfl (nz fhg15_1)) (tv (tB (!((decide (x1.Kind=1)) == (decide (Zl x1.Word))))) rfl)) rfl rfl (mD (tB (!((decide (x1.Kind=1)) == (decide (Zl x1.Word))))) rfl rfl ?_))))))))
 refine Qbo (!((decide (x1.Kind=1)) == (decide (Zl x1.Word)))) (fun hg24_2=> ?_) (fun hg24_2=> ?_)
 ·have fhg24_2:(!((decide (x1.Kind=1)) == (decide (Zl x1.Word))))=true:=hg24_2
  refine oD rfl rfl hg24_2 rfl (oD rfl rfl hg24_2 rfl (oD rfl rfl hg24_2 rfl (oD rfl rfl hg24_2 rfl (uD rfl rfl rfl (uD rfl rfl rfl (uD rfl rfl rfl (oD rfl rfl hg24_2 rfl (fD (OF.pickT (VEv.tmpB rfl hg24_2) (VEv.bool true)) rfl rfl (VRunD.nil (tn (ct rfl ?_)))))))))))
  refine sr (fO (OF.assign (VEv.bool false)) (nt (rt (tr (vb (b':=false) rfl ?_)))))
  (symm;rw [decide_eq_false_iff_not,QF hx1];rintro ⟨h1,h2,h3⟩;by_cases hk:x1.Kind=1<;>simp only [hk,two] at* <;>(simp_all [Zq];done))
 have fhg24_2:(!((decide (x1.Kind=1)) == (decide (Zl x1.Word))))=false:=hg24_2
 refine VRunD.free rfl (VWant.on rfl rfl hg24_2) rfl (OF.fieldAddrO (tv (T.op 0 0) rfl) Za) (VRunD.look rfl (VWant.on rfl rfl hg24_2) rfl (OL.loadO1 (t:=(tI x1.Kind)) (tv (T.op 0 0) rfl) rfl rfl QU) (VRunD.free rfl (VWant.on rfl rfl hg24_2) rfl (xne (tv (tI x1.Kind) rfl) (VEv.int .i64 1)) (VRunD.free rfl (VWant.on rfl rfl hg24_2) rfl (OF.move (tv (tB (!(decide (x1.Kind=1)))) rfl)) ?_)))
 refine gn (x1.Kind=1) (fun fhg28_3=> ?_) fun fhg28_3=> ?_
 ·refine VRunD.free rfl (VWant.on rfl rfl (ny fhg28_3)) rfl (OF.fieldAddrO (tv (T.op 0 0) rfl) Qah) ?_
  refine VRunD.look rfl (VWant.on rfl rfl (ny fhg28_3)) rfl (OL.loadO1 (t:=(tS x1.Word)) (tv (T.op 0 1) rfl) rfl rfl Z7) (VRunD.free rfl (VWant.on rfl rfl (ny fhg28_3)) rfl (B.sneq (c:=(!(decide (x1.Word=(⟨#[]⟩:ByteArray))))) (tv (tS x1.Word) rfl) (VEv.str (⟨#[]⟩:ByteArray)) rfl) (VRunD.free rfl (VWant.on rfl rfl hg24_2) rfl (OF.pickT (VEv.tmpB rfl (ny fhg28_3)) (tv (tB (!(decide (x1.Word=(⟨#[]⟩:ByteArray))))) rfl)) (fD (OF.pickF (VEv.tmpB rfl hg24_2) (tv (tB (!(decide (x1.Word=(⟨#[]⟩:ByteArray))))) rfl)) rfl rfl (VRunD.nil (tn ?_)))))
  refine cn (x1.Word=(⟨#[]⟩:ByteArray)) rfl (fun fhc0=> ?_) fun fhc0=> ?_
  ·refine sr ?_
   refine fO (OF.assign (VEv.bool false)) (nt (rt (tr (vb (b':=false) rfl ?_))))
   (symm;rw [decide_eq_false_iff_not,QF hx1];rintro ⟨h1,h2,h3⟩;by_cases hk:x1.Kind=1<;>simp only [hk,two] at* <;>(simp_all [Zq];done))
  refine sk (tn (sr (lf (tI x1.Kind) rfl Za rfl rfl QU (fO (Y7 (tv (tI x1.Kind) rfl) (VEv.int .i64 4)) (mO (tB (decide (x1.Kind=4))) rfl ?_)))))
  refine gw (x1.Kind=4) (fun fhg37_4=> ?_) fun fhg37_4=> ?_
  ·refine Qy 3 3 false 37 (dy fhg37_4) rfl rfl rfl ?_
   refine fO (OF.pickT (VEv.tmpB rfl (dy fhg37_4)) (VEv.bool true)) (aO (tB true) rfl (nt (sq (sr (lf (tI x1.Kind) rfl Za rfl rfl QU (fO (Y7 (tv (tI x1.Kind) rfl) (VEv.int .i64 1)) (nt (cg (dz fhg28_3) rfl (sk (tn (sq ?_)))))))))))
   refine sr (lf (tI x1.A) rfl YK rfl rfl QU (mO (tN i) rfl (fO (B.sub (n:=(((i:Nat):Int) - 1)) (tv (tN i) rfl) (VEv.int .i64 1) (by (rw [Qt (by omega)];done))) (cO (cS (vc (tv (tI x1.A) rfl) (vc (VEv.int .i64 0) (vc (tv (tI (((i:Nat):Int) - 1)) rfl) vn))) (ZJ rfl) (QH (n+1) x1.A 0 (((i:Nat):Int) - 1)) rfl rfl) (fO (QW (tv (tB (decide (0≤x1.A∧x1.A≤(((i:Nat):Int) - 1)))) rfl)) (mO (tB (!(decide (0≤x1.A∧x1.A≤(((i:Nat):Int) - 1))))) rfl ?_))))))
   refine gn (0≤x1.A∧x1.A≤(((i:Nat):Int) - 1)) (fun fhg59_5=> ?_) fun fhg59_5=> ?_
   ·refine Qy 2 6 false 59 (ny fhg59_5) rfl rfl rfl ?_
    refine Qac 6 8 true 61 rfl rfl rfl (oO rfl rfl (ny fhg59_5) (fO (OF.pickT (VEv.tmpB rfl (ny fhg59_5)) (VEv.bool true)) (mO (tB true) rfl (Qy 3 17 false 70 (b:=true) rfl rfl rfl rfl (Qac 3 20 true 73 rfl rfl rfl (VRunO.off (VWant.not (b:=true) rfl rfl rfl) (fO (OF.pickT (tv (tB true) rfl) (VEv.bool true)) (nt (ct rfl (sr (fO (OF.assign (VEv.bool false)) ?_)))))))))))
    refine nt (rt (tr (vb (b':=false) rfl ?_)))
    (symm;rw [decide_eq_false_iff_not,QF hx1];rintro ⟨h1,h2,h3⟩;by_cases hk:x1.Kind=1<;>simp only [hk,two] at* <;>first | omega | (simp_all [Zq];omega))
   refine gF (nz fhg59_5) rfl rfl (OF.move (tv (tB true) rfl)) (gF (nz fhg59_5) rfl rfl (OF.move (tv (tB true) rfl)) (VRunO.free (VWant.on (b:=true) rfl rfl rfl) (OF.fieldAddrO (tv (T.op 0 0) rfl) Yn) (VRunO.look (VWant.on (b:=true) rfl rfl rfl) (OL.loadO1 (t:=(tI x1.B)) (tv (T.op 0 3) rfl) rfl rfl QU) (VRunO.free (VWant.on (b:=true) rfl rfl rfl) (OF.move (tv (tN i) rfl)) (VRunO.free (VWant.on (b:=true) rfl rfl rfl) (B.sub (n:=(((i:Nat):Int) - 1)) (tv (tN i) rfl) (VEv.int .i64 1) (by (rw [Qt (by omega)];done))) (VRunO.chain (VWant.on (b:=true) rfl rfl rfl) (cS (vc (tv (tI x1.B) rfl) (vc (VEv.int .i64 0) (vc (tv (tI (((i:Nat):Int) - 1)) rfl) vn))) (ZJ rfl) (QH (n+1) x1.B 0 (((i:Nat):Int) - 1)) rfl rfl) (VRunO.free (VWant.on (b:=true) rfl rfl rfl) (QW (tv (tB (decide (0≤x1.B∧x1.B≤(((i:Nat):Int) - 1)))) rfl)) (gF (nz fhg59_5) rfl rfl (OF.pickT (tv (tB true) rfl) (tv (tB (!(decide (0≤x1.B∧x1.B≤(((i:Nat):Int) - 1))))) rfl)) (fO (OF.pickF (VEv.tmpB rfl (nz fhg59_5)) (tv (tB (!(decide (0≤x1.B∧x1.B≤(((i:Nat):Int) - 1))))) rfl)) (mO (tB (!(decide (0≤x1.B∧x1.B≤(((i:Nat):Int) - 1))))) rfl ?_))))))))))
   refine gn (0≤x1.B∧x1.B≤(((i:Nat):Int) - 1)) (fun fhg70_6=> ?_) fun fhg70_6=> ?_
   ·refine Qy 3 17 false 70 (ny fhg70_6) rfl rfl rfl ?_
    refine Qac 3 20 true 73 rfl rfl rfl (oO rfl rfl (ny fhg70_6) (fO (OF.pickT (VEv.tmpB rfl (ny fhg70_6)) (VEv.bool true)) (nt (ct rfl (sr (fO (OF.assign (VEv.bool false)) (nt (rt (tr (vb (b':=false) rfl ?_))))))))))
    (symm;rw [decide_eq_false_iff_not,QF hx1];rintro ⟨h1,h2,h3⟩;by_cases hk:x1.Kind=1<;>simp only [hk,two] at* <;>first | omega | (simp_all [Zq];omega))
   refine gF (nz fhg70_6) rfl rfl (OF.move (tv (tB true) rfl)) (gF (nz fhg70_6) rfl rfl (B.not (c:=false) (tv (tB true) rfl) rfl) (gF (nz fhg70_6) rfl rfl (OF.move (tv (tB false) rfl)) (Qy 3 20 true 73 (b:=false) rfl rfl rfl rfl (gF (nz fhg70_6) rfl rfl (OF.pickF (tv (tB false) rfl) (VEv.bool false)) (fO (OF.pickF (VEv.tmpB rfl (nz fhg70_6)) (tv (tB false) rfl)) (nt (cf rfl (sk (tn (sr (mO (tB true) rfl ?_)))))))))))
   refine mO (tB true) rfl (Qy 3 1 false 80 (b:=true) rfl rfl rfl rfl (fO (OF.pickT (tv (tB true) rfl) (VEv.bool true)) (mO (tB true) rfl (Qy 7 6 false 85 (b:=true) rfl rfl rfl rfl (fO (OF.pickT (tv (tB true) rfl) (VEv.bool true)) (aO (tB true) rfl (nt (rt (vb (b':=true) rfl ?_)))))))))
   (symm;rw [decide_eq_true_eq,QF hx1];refine ⟨by omega,fun hk=> ?_,fun hk=> ?_⟩<;>first | (exfalso;omega) | (simp_all [two,Zq];omega))
  refine Yl (tI x1.Kind) (dz fhg37_4) rfl rfl rfl rfl Za rfl rfl QU (gF (dz fhg37_4) rfl rfl (Y7 (tv (tI x1.Kind) rfl) (VEv.int .i64 5)) (fO (OF.pickF (VEv.tmpB rfl (dz fhg37_4)) (tv (tB (decide (x1.Kind=5))) rfl)) (aO (tB (decide (x1.Kind=5))) rfl (nt (sq (sr (lf (tI x1.Kind) rfl Za rfl rfl QU (fO (Y7 (tv (tI x1.Kind) rfl) (VEv.int .i64 1)) (nt (cg (dz fhg28_3) rfl (sk ?_)))))))))))
  refine tn (sq (sr (lf (tI x1.A) rfl YK rfl rfl QU (mO (tN i) rfl (fO (B.sub (n:=(((i:Nat):Int) - 1)) (tv (tN i) rfl) (VEv.int .i64 1) (by (rw [Qt (by omega)];done))) (cO (cS (vc (tv (tI x1.A) rfl) (vc (VEv.int .i64 0) (vc (tv (tI (((i:Nat):Int) - 1)) rfl) vn))) (ZJ rfl) (QH (n+1) x1.A 0 (((i:Nat):Int) - 1)) rfl rfl) (fO (QW (tv (tB (decide (0≤x1.A∧x1.A≤(((i:Nat):Int) - 1)))) rfl)) (mO (tB (!(decide (0≤x1.A∧x1.A≤(((i:Nat):Int) - 1))))) rfl ?_))))))))
  refine gn (0≤x1.A∧x1.A≤(((i:Nat):Int) - 1)) (fun fhg59_7=> ?_) fun fhg59_7=> ?_
  ·refine Qy 2 6 false 59 (ny fhg59_7) rfl rfl rfl ?_
   refine Qac 6 8 true 61 rfl rfl rfl (oO rfl rfl (ny fhg59_7) (fO (OF.pickT (VEv.tmpB rfl (ny fhg59_7)) (VEv.bool true)) (mO (tB true) rfl (Qy 3 17 false 70 (b:=true) rfl rfl rfl rfl (Qac 3 20 true 73 rfl rfl rfl (VRunO.off (VWant.not (b:=true) rfl rfl rfl) (fO (OF.pickT (tv (tB true) rfl) (VEv.bool true)) (nt (ct rfl (sr (fO (OF.assign (VEv.bool false)) ?_)))))))))))
   refine nt (rt (tr (vb (b':=false) rfl ?_)))
   (symm;rw [decide_eq_false_iff_not,QF hx1];rintro ⟨h1,h2,h3⟩;by_cases hk:x1.Kind=1<;>simp only [hk,two] at* <;>first | (simp_all [Zq];done) | (simp_all [Zq];omega))
  refine gF (nz fhg59_7) rfl rfl (OF.move (tv (tB (decide (x1.Kind=5))) rfl)) (gF (nz fhg59_7) rfl rfl (OF.move (tv (tB (decide (x1.Kind=5))) rfl)) ?_)
  refine gw (x1.Kind=5) (fun fhg61_8=> ?_) fun fhg61_8=> ?_
  ·refine Yl (tI x1.B) (dy fhg61_8) rfl rfl rfl rfl Yn rfl rfl QU ?_
   refine gF (dy fhg61_8) rfl rfl (OF.move (tv (tN i) rfl)) (gF (dy fhg61_8) rfl rfl (B.sub (n:=(((i:Nat):Int) - 1)) (tv (tN i) rfl) (VEv.int .i64 1) (by (rw [Qt (by omega)];done))) (VRunO.chain (VWant.on rfl rfl (dy fhg61_8)) (cS (vc (tv (tI x1.B) rfl) (vc (VEv.int .i64 0) (vc (tv (tI (((i:Nat):Int) - 1)) rfl) vn))) (ZJ rfl) (QH (n+1) x1.B 0 (((i:Nat):Int) - 1)) rfl rfl) (gF (dy fhg61_8) rfl rfl (QW (tv (tB (decide (0≤x1.B∧x1.B≤(((i:Nat):Int) - 1)))) rfl)) (gF (nz fhg59_7) rfl rfl (OF.pickT (VEv.tmpB rfl (dy fhg61_8)) (tv (tB (!(decide (0≤x1.B∧x1.B≤(((i:Nat):Int) - 1))))) rfl)) (fO (OF.pickF (VEv.tmpB rfl (nz fhg59_7)) (tv (tB (!(decide (0≤x1.B∧x1.B≤(((i:Nat):Int) - 1))))) rfl)) (mO (tB (!(decide (0≤x1.B∧x1.B≤(((i:Nat):Int) - 1))))) rfl ?_))))))
   refine gn (0≤x1.B∧x1.B≤(((i:Nat):Int) - 1)) (fun fhg70_9=> ?_) fun fhg70_9=> ?_
   ·refine Qy 3 17 false 70 (ny fhg70_9) rfl rfl rfl ?_
    refine Qac 3 20 true 73 rfl rfl rfl (oO rfl rfl (ny fhg70_9) (fO (OF.pickT (VEv.tmpB rfl (ny fhg70_9)) (VEv.bool true)) (nt (ct rfl (sr (fO (OF.assign (VEv.bool false)) (nt (rt (tr (vb (b':=false) rfl ?_))))))))))
    (symm;rw [decide_eq_false_iff_not,QF hx1];rintro ⟨h1,h2,h3⟩;by_cases hk:x1.Kind=1<;>simp only [hk,two] at* <;>first | omega | (simp_all [Zq];omega))
   refine gF (nz fhg70_9) rfl rfl (OF.move (tv (tB (decide (x1.Kind=5))) rfl)) (gF (nz fhg70_9) rfl rfl (QW (tv (tB (decide (x1.Kind=5))) rfl)) (gF (nz fhg70_9) rfl rfl (OF.move (tv (tB (!(decide (x1.Kind=5)))) rfl)) (Qy 3 20 true 73 (nkT (dy fhg61_8)) rfl rfl rfl (gF (nz fhg70_9) rfl rfl (OF.pickF (VEv.tmpB rfl (nkT (dy fhg61_8))) (VEv.bool false)) (fO (OF.pickF (VEv.tmpB rfl (nz fhg70_9)) (tv (tB false) rfl)) (nt (cf rfl (sk (tn (sr (mO (tB (decide (x1.Kind=5))) rfl ?_)))))))))))
   refine mO (tB (decide (x1.Kind=5))) rfl (Qy 3 1 false 80 (dy fhg61_8) rfl rfl rfl (fO (OF.pickT (VEv.tmpB rfl (dy fhg61_8)) (VEv.bool true)) (mO (tB true) rfl (Qy 7 6 false 85 (b:=true) rfl rfl rfl rfl (fO (OF.pickT (tv (tB true) rfl) (VEv.bool true)) (aO (tB true) rfl (nt (rt (vb (b':=true) rfl ?_)))))))))
   (symm;rw [decide_eq_true_eq,QF hx1];refine ⟨by omega,fun hk=> ?_,fun hk=> ?_⟩<;>first | (exfalso;omega) | (simp_all [two,Zq];omega))
  refine Qy 6 8 true 61 (dz fhg61_8) rfl rfl rfl (gF (nz fhg59_7) rfl rfl (OF.pickF (VEv.tmpB rfl (dz fhg61_8)) (VEv.bool false)) (fO (OF.pickF (VEv.tmpB rfl (nz fhg59_7)) (tv (tB false) rfl)) (mO (tB false) rfl (VRunO.free (VWant.on (b:=false) rfl rfl rfl) (OF.move (tv (tB (decide (x1.Kind=5))) rfl)) (VRunO.free (VWant.on (b:=false) rfl rfl rfl) (QW (tv (tB (decide (x1.Kind=5))) rfl)) (VRunO.free (VWant.on (b:=false) rfl rfl rfl) (OF.move (tv (tB (!(decide (x1.Kind=5)))) rfl)) (Yl (tI x1.B) (nkF (dz fhg61_8)) rfl rfl rfl rfl Yn rfl rfl QU (gF (nkF (dz fhg61_8)) rfl rfl (xne (tv (tI x1.B) rfl) (VEv.int .i64 0)) (VRunO.free (VWant.on (b:=false) rfl rfl rfl) (OF.pickT (VEv.tmpB rfl (nkF (dz fhg61_8))) (tv (tB (!(decide (x1.B=0)))) rfl)) (fO (OF.pickF (tv (tB false) rfl) (tv (tB (!(decide (x1.B=0)))) rfl)) (nt ?_)))))))))))
  refine cn (x1.B=0) rfl (fun fhc2=> ?_) fun fhc2=> ?_
  ·refine sr ?_
   refine fO (OF.assign (VEv.bool false)) (nt (rt (tr (vb (b':=false) rfl ?_))))
   (symm;rw [decide_eq_false_iff_not,QF hx1];rintro ⟨h1,h2,h3⟩;by_cases hk:x1.Kind=1<;>simp only [hk,two] at* <;>(simp_all [Zq];done))
  refine sk (tn (sr (mO (tB (decide (x1.Kind=5))) rfl (mO (tB (decide (x1.Kind=5))) rfl (Yl (tI x1.Kind) (dz fhg61_8) rfl rfl rfl rfl Za rfl rfl QU (gF (dz fhg61_8) rfl rfl (Y7 (tv (tI x1.Kind) rfl) (VEv.int .i64 2)) (fO (OF.pickF (VEv.tmpB rfl (dz fhg61_8)) (tv (tB (decide (x1.Kind=2))) rfl)) (mO (tB (decide (x1.Kind=2))) rfl ?_))))))))
  refine gw (x1.Kind=2) (fun fhg85_10=> ?_) fun fhg85_10=> ?_
  ·refine Qy 7 6 false 85 (dy fhg85_10) rfl rfl rfl ?_
   refine fO (OF.pickT (VEv.tmpB rfl (dy fhg85_10)) (VEv.bool true)) (aO (tB true) rfl (nt (rt (vb (b':=true) rfl ?_))))
   (symm;rw [decide_eq_true_eq,QF hx1];refine ⟨by omega,fun hk=> ?_,fun hk=> ?_⟩<;>first | (exfalso;omega) | (simp_all [two,Zq];omega))
  refine gF (dz fhg85_10) rfl rfl (OF.move (tv (rd 4 Qj a) rfl)) (Yl (tI x1.A) (dz fhg85_10) rfl rfl rfl rfl YK rfl rfl QU ?_)
  obtain ⟨x2,hx2⟩:∃x,a[(Int.toNat x1.A)]? =some x:=⟨_,List.getElem?_eq_getElem (by omega)⟩
  refine gF (dz fhg85_10) rfl rfl (OF.indexAddrR (row:=(Qj false x2)) (i:=(Int.toNat x1.A)) (tv (rd 4 Qj a) rfl) (tv (tI x1.A) rfl) (by omega) (Qv _ hx2) U81 Yt J6) (glr (tI x2.Kind) (dz fhg85_10) rfl rfl rfl rfl (lb rfl) Za rfl QU (gF (dz fhg85_10) rfl rfl (Y7 (tv (tI x2.Kind) rfl) (VEv.int .i64 1)) (fO (OF.pickF (VEv.tmpB rfl (dz fhg85_10)) (tv (tB (decide (x2.Kind=1))) rfl)) (aO (tB (decide (x2.Kind=1))) rfl (nt (rt (vb (b':=(decide (x2.Kind=1))) rfl ?_)))))))
  (refine QnY hx1 hx2 ?_ ?_ ?_ ?_ ?_ ?_ ?_<;>first | assumption | omega | (simp only [two];omega))
 refine oD rfl rfl (nz fhg28_3) rfl (oD rfl rfl (nz fhg28_3) rfl (oD rfl rfl (nz fhg28_3) rfl (VRunD.free rfl (VWant.on rfl rfl hg24_2) rfl (OF.pickF (VEv.tmpB rfl (nz fhg28_3)) (VEv.bool false)) (fD (OF.pickF (VEv.tmpB rfl hg24_2) (tv (tB false) rfl)) rfl rfl (VRunD.nil (tn (cf rfl (sk (tn (sr (lf (tI x1.Kind) rfl Za rfl rfl QU ?_)))))))))))
 refine fO (Y7 (tv (tI x1.Kind) rfl) (VEv.int .i64 4)) (mO (tB (decide (x1.Kind=4))) rfl ?_)
 refine gw (x1.Kind=4) (fun fhg37_11=> ?_) fun fhg37_11=> ?_
 ·refine Qy 3 3 false 37 (dy fhg37_11) rfl rfl rfl ?_
  refine fO (OF.pickT (VEv.tmpB rfl (dy fhg37_11)) (VEv.bool true)) (aO (tB true) rfl (nt (sq (sr (lf (tI x1.Kind) rfl Za rfl rfl QU (fO (Y7 (tv (tI x1.Kind) rfl) (VEv.int .i64 1)) (nt (ck (dy fhg28_3) rfl (sr (lf (tI x1.A) rfl YK rfl rfl QU (fO (Y7 (tv (tI x1.A) rfl) (VEv.int .i64 0)) ?_)))))))))))
  refine mO (tB (decide (x1.A=0))) rfl ?_
  refine gw (x1.A=0) (fun fhg48_12=> ?_) fun fhg48_12=> ?_
  ·refine Yl (tI x1.B) (dy fhg48_12) rfl rfl rfl rfl Yn rfl rfl QU ?_
   refine gF (dy fhg48_12) rfl rfl (Y7 (tv (tI x1.B) rfl) (VEv.int .i64 0)) (fO (OF.pickT (VEv.tmpB rfl (dy fhg48_12)) (tv (tB (decide (x1.B=0))) rfl)) (aO (tB (decide (x1.B=0))) rfl (nt (rt (tr (vb (b':=(decide (x1.B=0))) rfl ?_))))))
   (exfalso;omega)
  refine Qy 3 3 true 48 (dz fhg48_12) rfl rfl rfl (fO (OF.pickF (VEv.tmpB rfl (dz fhg48_12)) (VEv.bool false)) (aO (tB false) rfl (nt (rt (tr (vb (b':=false) rfl ?_))))))
  (exfalso;omega)
 refine Yl (tI x1.Kind) (dz fhg37_11) rfl rfl rfl rfl Za rfl rfl QU (gF (dz fhg37_11) rfl rfl (Y7 (tv (tI x1.Kind) rfl) (VEv.int .i64 5)) (fO (OF.pickF (VEv.tmpB rfl (dz fhg37_11)) (tv (tB (decide (x1.Kind=5))) rfl)) (aO (tB (decide (x1.Kind=5))) rfl (nt (sq (sr (lf (tI x1.Kind) rfl Za rfl rfl QU (fO (Y7 (tv (tI x1.Kind) rfl) (VEv.int .i64 1)) (nt (ck (dy fhg28_3) rfl (sr ?_)))))))))))
 refine lf (tI x1.A) rfl YK rfl rfl QU (fO (Y7 (tv (tI x1.A) rfl) (VEv.int .i64 0)) (mO (tB (decide (x1.A=0))) rfl ?_))
 refine gw (x1.A=0) (fun fhg48_13=> ?_) fun fhg48_13=> ?_
 ·refine Yl (tI x1.B) (dy fhg48_13) rfl rfl rfl rfl Yn rfl rfl QU ?_
  refine gF (dy fhg48_13) rfl rfl (Y7 (tv (tI x1.B) rfl) (VEv.int .i64 0)) (fO (OF.pickT (VEv.tmpB rfl (dy fhg48_13)) (tv (tB (decide (x1.B=0))) rfl)) (aO (tB (decide (x1.B=0))) rfl (nt (rt (tr (vb (b':=(decide (x1.B=0))) rfl ?_))))))
  (refine QnT hx1 ?_ ?_ ?_ ?_<;>first | assumption | (simp_all;done))
 refine Qy 3 3 true 48 (dz fhg48_13) rfl rfl rfl (fO (OF.pickF (VEv.tmpB rfl (dz fhg48_13)) (VEv.bool false)) (aO (tB false) rfl (nt (rt (tr (vb (b':=false) rfl ?_))))))
 (symm;rw [decide_eq_false_iff_not,QF hx1];rintro ⟨h1,h2,h3⟩;by_cases hk:x1.Kind=1<;>simp only [hk,two] at* <;>(simp_all [Zq];done))
theorem Qfy (n:Nat) (a:List D.Step) (hz:zL ZG a≤mx):Pure (Qq Tryz.prog (n+4)) 128 [(rd 4 Qj a)] (tB (decide (Ys a))):=by
 refine Pure.intro (rs:= [ResultVar.tmp 2]) Tryz.func128 rfl rfl rfl (E0:= [(0,(rd 4 Qj a))]) rfl ?_
 obtain ⟨hlim,hmx,hmax⟩:=QC
 have ha:=QV (z:=ZG) a
 refine sr (fO (OF.assign (VEv.bool false)) (nt (sq (sr (fO (OF.assign (VEv.int .i64 0)) (nt (VRun.block ?_)))))))
 refine VRun.loop (A:=Nat) (fun s_=> [(0,(rd 4 Qj a)),(3,(tN s_))]) (fun s_=>Q3 []) 0 (fun s_=>s_≤a.length∧∀j,j<s_→Jx a j) (fun s_=>a.length - s_) (0:Nat) ?_ (Wk.mk (fun k=>k) ?_ ?_ ?_) ?_
 ·exact ⟨Nat.zero_le _,fun j hj=>by omega⟩
 ·exact (b2 (b2 bn))
 ·exact bn
 ·exact nd rfl
 rintro i (hI':i≤a.length∧∀j,j<i→Jx a j)
 show VRun _ _ _ [(0,(rd 4 Qj a)),(3,(tN i))] (Q3 []) 0 _
 have hI0:=hI'
 refine sq (sr (mO (tN i) rfl (mO (rd 4 Qj a) rfl (lO (B.lenR (m:=a.length) (tv (rd 4 Qj a) rfl) U81 (List.length_map ..)) (fO (Zf (tv (tN i) rfl) (tv (tN a.length) rfl)) (mO (tB (decide (i<a.length))) rfl ?_))))))
 refine gw (i<a.length) (fun fhg8_1=> ?_) fun fhg8_1=> ?_
 ·refine gF (dy fhg8_1) rfl rfl (OF.move (tv (rd 4 Qj a) rfl)) ?_
  refine gL (dy fhg8_1) rfl rfl (B.lenR (m:=a.length) (tv (rd 4 Qj a) rfl) U81 (List.length_map ..)) (gF (dy fhg8_1) rfl rfl (B.leq (c:=(decide (a.length≤9))) (tv (tN a.length) rfl) (VEv.int .i64 9) (Zb (by omega))) (fO (OF.pickT (VEv.tmpB rfl (dy fhg8_1)) (tv (tB (decide (a.length≤9))) rfl)) (nt ?_)))
  refine cd (a.length≤9) rfl (fun fhc0=> ?_) fun fhc0=> ?_
  ·refine sk ?_
   refine tn (sq (VRun.block (sr (mO (rd 4 Qj a) rfl (mO (tN i) rfl (cO (cS (vc (tv (rd 4 Qj a) rfl) (vc (tv (tN i) rfl) vn)) (ZJ rfl) (Qgq (n+0) a i (by assumption) (by assumption)) rfl rfl) (fO (QW (tv (tB (decide (Jx a i))) rfl)) (nt ?_))))))))
   refine cn (Jx a i) rfl (fun fhc1=> ?_) fun fhc1=> ?_
   ·refine sr ?_
    refine fO (OF.assign (VEv.bool false)) (nt (rt (vinB.r (tr (tr (vinB.r (tr (vb (b':=false) rfl ?_))))))))
    (symm;rw [decide_eq_false_iff_not];rintro ⟨h1,h2⟩;exact absurd (h2 i (by omega)) (by assumption))
   refine sk (vinB.n (tn (VRun.region (mO (tN i) rfl (fO (QB (tv (tN i) rfl) (VEv.int .i64 1) (by omega)) (aO (tN (i+1)) rfl (VRunO.nil (tn ?_))))))))
   refine ⟨(i+1:Nat),?_,?_,Wk.mk (fun k=>k) ?_ ?_ ?_⟩
   ·exact QS hI0 (by omega) (by assumption)
   ·omega
   ·exact (b2 (b2 bn))
   ·exact bn
   ·exact nd rfl
  refine VRun.exit (vthn.e (vthn.e (vinB.e (tn (sr (mO (rd 4 Qj a) rfl (lO (B.lenR (m:=a.length) (tv (rd 4 Qj a) rfl) U81 (List.length_map ..)) (cO (cS (vc (tv (tN a.length) rfl) (vc (VEv.int .i64 1) (vc (VEv.int .i64 9) vn))) (ZJ rfl) (QH (n+2) ((a.length:Nat):Int) 1 9) rfl rfl) (aO (tB (decide (1≤((a.length:Nat):Int)∧((a.length:Nat):Int)≤9))) rfl (nt (rt ?_)))))))))))
  refine vb (b':=(decide (1≤((a.length:Nat):Int)∧((a.length:Nat):Int)≤9))) rfl ?_
  (refine Zb ⟨fun h=>⟨by omega,Jc hI' (by omega)⟩,fun h=>by have:=h.1;omega⟩)
 refine Qy 3 4 true 8 (dz fhg8_1) rfl rfl rfl (fO (OF.pickF (VEv.tmpB rfl (dz fhg8_1)) (VEv.bool false)) (nt (cf rfl (VRun.exit (vthn.e (vthn.e (vinB.e (tn (sr (mO (rd 4 Qj a) rfl (lO (B.lenR (m:=a.length) (tv (rd 4 Qj a) rfl) U81 (List.length_map ..)) ?_)))))))))))
 refine cO (cS (vc (tv (tN a.length) rfl) (vc (VEv.int .i64 1) (vc (VEv.int .i64 9) vn))) (ZJ rfl) (QH (n+2) ((a.length:Nat):Int) 1 9) rfl rfl) (aO (tB (decide (1≤((a.length:Nat):Int)∧((a.length:Nat):Int)≤9))) rfl (nt (rt (vb (b':=(decide (1≤((a.length:Nat):Int)∧((a.length:Nat):Int)≤9))) rfl ?_))))
 (refine Zb ⟨fun h=>⟨by omega,Jc hI' (by omega)⟩,fun h=>by have:=h.1;omega⟩)
theorem QfJ (n:Nat) (a:List D.Step) (hz:zL ZG a≤mx):Pure (Qq Tryz.prog (n+3)) 142 [(rd 4 Qj a)] (tB (decide (Ys a))):=by
 refine Pure.intro (rs:= [ResultVar.tmp 2]) Tryz.func142 rfl rfl rfl (E0:= [(0,(rd 4 Qj a))]) rfl ?_
 obtain ⟨hlim,hmx,hmax⟩:=QC
 have ha:=QV (z:=ZG) a
 have hw:∀x∈a,x.Word.size≤maxLen:=fun x hx=>by have h1:=Qll (z:=ZG) hx;simp only [ZG] at h1;omega
 refine sr (fO (OF.assign (VEv.bool false)) (nt (sq (sr (mO (rd 4 Qj a) rfl (lO (B.lenR (m:=a.length) (tv (rd 4 Qj a) rfl) U81 (List.length_map ..)) (cO (cS (vc (tv (tN a.length) rfl) (vc (VEv.int .i64 1) (vc (VEv.int .i64 9) vn))) (ZJ rfl) (Q4 (n+1) ((a.length:Nat):Int) 1 9) rfl rfl) (fO (QW (tv (tB (decide (1≤((a.length:Nat):Int)∧((a.length:Nat):Int)≤9))) rfl)) (nt ?_)))))))))
 refine cn (1≤((a.length:Nat):Int)∧((a.length:Nat):Int)≤9) rfl (fun fhc0=> ?_) fun fhc0=> ?_
 ·refine sr ?_
  refine fO (OF.assign (VEv.bool false)) (nt (rt (tr (vb (b':=false) rfl ?_))))
  (symm;rw [decide_eq_false_iff_not];rintro ⟨h1,h2⟩;(exfalso;omega))
 refine sk (tn (sq (sr (mO (rd 4 Qj a) rfl (lO (B.lenR (m:=a.length) (tv (rd 4 Qj a) rfl) U81 (List.length_map ..)) (fO (OF.move (VEv.int .i64 0)) (nt (VRun.block ?_))))))))
 refine VRun.loop (A:=Nat) (fun s_=> [(0,(rd 4 Qj a)),(9,(rd 4 Qj a)),(10,(tN a.length)),(11,(tN s_))]) (fun s_=>Q3 []) 0 (fun s_=>s_≤a.length∧∀j,j<s_→Jx a j) (fun s_=>a.length - s_) (0:Nat) ?_ (Wk.mk (fun k=>k) ?_ ?_ ?_) ?_
 ·exact ⟨Nat.zero_le _,fun j hj=>by omega⟩
 ·exact (b2 (b2 (b2 (b2 bn))))
 ·exact bn
 ·exact nd rfl
 rintro i (hI':i≤a.length∧∀j,j<i→Jx a j)
 show VRun _ _ _ [(0,(rd 4 Qj a)),(9,(rd 4 Qj a)),(10,(tN a.length)),(11,(tN i))] (Q3 []) 0 _
 have hI0:=hI'
 refine sr (fO (Zf (tv (tN i) rfl) (tv (tN a.length) rfl)) (nt (sq ?_)))
 refine cd (i<a.length) rfl (fun fhc1=> ?_) fun fhc1=> ?_
 ·refine sk ?_
  refine tn (sq (VRun.block (sr (mO (tN i) rfl ?_))))
  obtain ⟨x1,hx1⟩:∃x,a[i]? =some x:=⟨_,List.getElem?_eq_getElem (by omega)⟩
  refine fO (OF.indexAddrR (row:=(Qj false x1)) (i:=i) (tv (rd 4 Qj a) rfl) (tv (tN i) rfl) rfl (Qv _ hx1) U81 Yt J6) (lO (OL.loadRn (us:=(Qj false x1)) (tv (T.rp (Qj false x1)) rfl) Qgd Yt (lb rfl) rfl) (kO (B.alloc (t:=(T.agg [(tN 0),(tS ByteArray.empty),(tN 0),(tN 0)])) (ts:= [(tN 0),(tS ByteArray.empty),(tN 0),(tN 0)]) QhG QhF nofun (fun _=> .agg _ _ rfl (Yg (RL.cons (.int _ _) (RL.cons (.str _) (RL.cons (.int _ _) (RL.cons (.int _ _) (RL.nil _))))))) rfl) (aO (tN i) rfl (cO (B.storeO (us:=(Qj false x1)) (ws:=(Qj false x1)) (tv (T.op 0 0) rfl) (tv (T.agg (Qj false x1)) rfl) nofun rfl rfl (lb rfl) J6 Yt (bc rfl (bc rfl (bc rfl (bc rfl bn)))) rfl) (nt (sq (sr (lf (tI x1.Kind) rfl Za rfl rfl QU (cO (cS (vc (tv (tI x1.Kind) rfl) (vc (VEv.int .i64 1) (vc (VEv.int .i64 9) vn))) (ZJ rfl) (Q4 (n+1) x1.Kind 1 9) rfl rfl) (fO (QW (tv (tB (decide (1≤x1.Kind∧x1.Kind≤9))) rfl)) (nt ?_)))))))))))
  refine cn (1≤x1.Kind∧x1.Kind≤9) rfl (fun fhc2=> ?_) fun fhc2=> ?_
  ·refine sr ?_
   refine fO (OF.assign (VEv.bool false)) (nt (rt (tr (vinB.r (tr (tr (vinB.r (tr (vb (b':=false) rfl ?_)))))))))
   (symm;rw [decide_eq_false_iff_not];rintro ⟨h1,h2⟩;(have h3:=(QF hx1).1 (h2 i fhc1);obtain ⟨h4,h5,h6⟩:=h3;simp only [two] at h6;omega))
  refine sk (tn (sq (sr (lf (tI x1.Kind) rfl Za rfl rfl QU (fO (Y7 (tv (tI x1.Kind) rfl) (VEv.int .i64 1)) (nt ?_))))))
  refine cd (x1.Kind=1) rfl (fun fhc3=> ?_) fun fhc3=> ?_
  ·refine sq ?_
   refine sr (lf (tS x1.Word) rfl Qah rfl rfl Z7 (cO (cS (vc (tv (tS x1.Word) rfl) vn) (ZJ rfl) (QaA (n+0) x1.Word (by exact hw _ (List.mem_of_getElem? hx1))) rfl rfl) (fO (QW (tv (tB (decide (Zl x1.Word))) rfl)) (mO (tB (!(decide (Zl x1.Word)))) rfl ?_))))
   refine gn (Zl x1.Word) (fun fhg27_1=> ?_) fun fhg27_1=> ?_
   ·refine Qy 3 4 false 27 (ny fhg27_1) rfl rfl rfl ?_
    refine fO (OF.pickT (VEv.tmpB rfl (ny fhg27_1)) (VEv.bool true)) (mO (tB true) rfl (Qy 3 9 false 32 (b:=true) rfl rfl rfl rfl (fO (OF.pickT (tv (tB true) rfl) (VEv.bool true)) (nt (ct rfl (sr (fO (OF.assign (VEv.bool false)) (nt (rt (tr (tr ?_)))))))))))
    refine vinB.r (tr (tr (vinB.r (tr (vb (b':=false) rfl ?_)))))
    (symm;rw [decide_eq_false_iff_not];rintro ⟨h1,h2⟩;(have h3:=(QF hx1).1 (h2 i fhc1);obtain ⟨h4,h5,h6⟩:=h3;simp only [two] at h6;(by_cases hk:x1.Kind=1<;>simp_all<;>omega)))
   refine Yl (tI x1.A) (nz fhg27_1) rfl rfl rfl rfl YK rfl rfl QU (gF (nz fhg27_1) rfl rfl (xne (tv (tI x1.A) rfl) (VEv.int .i64 0)) (fO (OF.pickF (VEv.tmpB rfl (nz fhg27_1)) (tv (tB (!(decide (x1.A=0)))) rfl)) (mO (tB (!(decide (x1.A=0)))) rfl ?_)))
   refine gn (x1.A=0) (fun fhg32_2=> ?_) fun fhg32_2=> ?_
   ·refine Qy 3 9 false 32 (ny fhg32_2) rfl rfl rfl ?_
    refine fO (OF.pickT (VEv.tmpB rfl (ny fhg32_2)) (VEv.bool true)) (nt (ct rfl (sr (fO (OF.assign (VEv.bool false)) (nt (rt (tr (tr (vinB.r (tr (tr ?_)))))))))))
    refine vinB.r (tr (vb (b':=false) rfl ?_))
    (symm;rw [decide_eq_false_iff_not];rintro ⟨h1,h2⟩;(have h3:=(QF hx1).1 (h2 i fhc1);obtain ⟨h4,h5,h6⟩:=h3;simp only [two] at h6;omega))
   refine Yl (tI x1.B) (nz fhg32_2) rfl rfl rfl rfl Yn rfl rfl QU (gF (nz fhg32_2) rfl rfl (xne (tv (tI x1.B) rfl) (VEv.int .i64 0)) (fO (OF.pickF (VEv.tmpB rfl (nz fhg32_2)) (tv (tB (!(decide (x1.B=0)))) rfl)) (nt ?_)))
   refine cn (x1.B=0) rfl (fun fhc4=> ?_) fun fhc4=> ?_
   ·refine sr ?_
    refine fO (OF.assign (VEv.bool false)) (nt (rt (tr (tr (vinB.r (tr (tr (vinB.r (tr (vb (b':=false) rfl ?_))))))))))
    (symm;rw [decide_eq_false_iff_not];rintro ⟨h1,h2⟩;(have h3:=(QF hx1).1 (h2 i fhc1);obtain ⟨h4,h5,h6⟩:=h3;simp only [two] at h6;omega))
   refine sk (tn (VRun.exit (vthn.e (vinB.e (tn (VRun.region (fO (QB (tv (tN i) rfl) (VEv.int .i64 1) (by omega)) (mO (tN (i+1)) rfl (VRunO.nil (tn ?_))))))))))
   refine ⟨(i+1:Nat),?_,?_,Wk.mk (fun k=>k) ?_ ?_ ?_⟩
   ·refine QS hI0 fhc1 ((QF hx1).2 ?_)
    simp only [Qd1,two]
    refine ⟨by omega,fun hk=> ?_,fun hk=> ?_⟩
    ·(refine ⟨?_,?_,?_⟩<;>assumption)
    ·(exfalso;omega)
   ·omega
   ·exact (b2 (b2 (b2 (b2 bn))))
   ·exact bn
   ·exact nd rfl
  refine sk (tn (sq (sr (lf (tS x1.Word) rfl Qah rfl rfl Z7 (fO (B.sneq (c:=(!(decide (x1.Word=(⟨#[]⟩:ByteArray))))) (tv (tS x1.Word) rfl) (VEv.str (⟨#[]⟩:ByteArray)) rfl) (mO (tB (!(decide (x1.Word=(⟨#[]⟩:ByteArray))))) rfl ?_))))))
  refine gn (x1.Word=(⟨#[]⟩:ByteArray)) (fun fhg40_3=> ?_) fun fhg40_3=> ?_
  ·refine Qy 5 3 false 40 (ny fhg40_3) rfl rfl rfl ?_
   refine fO (OF.pickT (VEv.tmpB rfl (ny fhg40_3)) (VEv.bool true)) (mO (tB true) rfl (Qy 4 10 false 47 (b:=true) rfl rfl rfl rfl (Qac 7 14 true 51 rfl rfl rfl (VRunO.off (VWant.not (b:=true) rfl rfl rfl) (fO (OF.pickT (tv (tB true) rfl) (VEv.bool true)) (nt (ct rfl (sr (fO (OF.assign (VEv.bool false)) (nt (rt ?_)))))))))))
   refine tr (vinB.r (tr (tr (vinB.r (tr (vb (b':=false) rfl ?_))))))
   (symm;rw [decide_eq_false_iff_not];rintro ⟨h1,h2⟩;(have h3:=(QF hx1).1 (h2 i fhc1);obtain ⟨h4,h5,h6⟩:=h3;simp only [two] at h6;(by_cases hk:x1.Kind=1<;>simp_all<;>omega)))
  refine Yl (tI x1.A) (nz fhg40_3) rfl rfl rfl rfl YK rfl rfl QU (gF (nz fhg40_3) rfl rfl (OF.move (tv (tN i) rfl)) (VRunO.chain (VWant.on rfl rfl (nz fhg40_3)) (cS (vc (tv (tI x1.A) rfl) (vc (tv (tN i) rfl) vn)) (ZJ rfl) (YB (n+1) x1.A ((i:Nat):Int)) rfl rfl) (gF (nz fhg40_3) rfl rfl (QW (tv (tB (decide (0≤x1.A∧x1.A<((i:Nat):Int)))) rfl)) (fO (OF.pickF (VEv.tmpB rfl (nz fhg40_3)) (tv (tB (!(decide (0≤x1.A∧x1.A<((i:Nat):Int))))) rfl)) (mO (tB (!(decide (0≤x1.A∧x1.A<((i:Nat):Int))))) rfl ?_)))))
  refine gn (0≤x1.A∧x1.A<((i:Nat):Int)) (fun fhg47_4=> ?_) fun fhg47_4=> ?_
  ·refine Qy 4 10 false 47 (ny fhg47_4) rfl rfl rfl ?_
   refine Qac 7 14 true 51 rfl rfl rfl (oO rfl rfl (ny fhg47_4) (fO (OF.pickT (VEv.tmpB rfl (ny fhg47_4)) (VEv.bool true)) (nt (ct rfl (sr (fO (OF.assign (VEv.bool false)) (nt (rt (tr (vinB.r (tr ?_)))))))))))
   refine tr (vinB.r (tr (vb (b':=false) rfl ?_)))
   (symm;rw [decide_eq_false_iff_not];rintro ⟨h1,h2⟩;(have h3:=(QF hx1).1 (h2 i fhc1);obtain ⟨h4,h5,h6⟩:=h3;simp only [two] at h6;omega))
  refine Yl (tI x1.Kind) (nz fhg47_4) rfl rfl rfl rfl Za rfl rfl QU (VRunO.chain (VWant.on rfl rfl (nz fhg47_4)) (cS (vc (tv (tI x1.Kind) rfl) vn) (ZJ rfl) (Qdt (n+1) x1.Kind) rfl rfl) (gF (nz fhg47_4) rfl rfl (OF.move (tv (tB (decide (x1.Kind=3∨6≤x1.Kind))) rfl)) ?_))
  refine gw (x1.Kind=3∨6≤x1.Kind) (fun fhg51_5=> ?_) fun fhg51_5=> ?_
  ·refine gF (dy fhg51_5) rfl rfl (OF.move (tv (rd 4 Qj a) rfl)) ?_
   refine Yl (tI x1.A) (dy fhg51_5) rfl rfl rfl rfl YK rfl rfl QU ?_
   obtain ⟨x2,hx2⟩:∃x,a[(Int.toNat x1.A)]? =some x:=⟨_,List.getElem?_eq_getElem (by omega)⟩
   refine gF (dy fhg51_5) rfl rfl (OF.indexAddrR (row:=(Qj false x2)) (i:=(Int.toNat x1.A)) (tv (rd 4 Qj a) rfl) (tv (tI x1.A) rfl) (by omega) (Qv _ hx2) U81 Yt J6) (glr (tI x2.Kind) (dy fhg51_5) rfl rfl rfl rfl (lb rfl) Za rfl QU (gF (dy fhg51_5) rfl rfl (xne (tv (tI x2.Kind) rfl) (VEv.int .i64 1)) (gF (nz fhg47_4) rfl rfl (OF.pickT (VEv.tmpB rfl (dy fhg51_5)) (tv (tB (!(decide (x2.Kind=1)))) rfl)) (fO (OF.pickF (VEv.tmpB rfl (nz fhg47_4)) (tv (tB (!(decide (x2.Kind=1)))) rfl)) (nt ?_)))))
   refine cn (x2.Kind=1) rfl (fun fhc5=> ?_) fun fhc5=> ?_
   ·refine sr ?_
    refine fO (OF.assign (VEv.bool false)) (nt (rt (tr (vinB.r (tr (tr (vinB.r (tr (vb (b':=false) rfl ?_)))))))))
    (symm;rw [decide_eq_false_iff_not];rintro ⟨h1,h2⟩;(have h3:=(QF hx1).1 (h2 i fhc1);obtain ⟨h4,h5,h6⟩:=h3;simp only [two] at h6;(by_cases hk:x1.Kind=1<;>simp_all<;>omega)))
   refine sk (tn (sr (lf (tI x1.Kind) rfl Za rfl rfl QU (cO (cS (vc (tv (tI x1.Kind) rfl) vn) (ZJ rfl) (Yh (n+1) x1.Kind) rfl rfl) (mO (tB (decide (x1.Kind=4∨x1.Kind=5))) rfl ?_)))))
   refine gw (x1.Kind=4∨x1.Kind=5) (fun fhg64_6=> ?_) fun fhg64_6=> ?_
   ·refine Yl (tI x1.B) (dy fhg64_6) rfl rfl rfl rfl Yn rfl rfl QU ?_
    refine gF (dy fhg64_6) rfl rfl (OF.move (tv (tN i) rfl)) (VRunO.chain (VWant.on rfl rfl (dy fhg64_6)) (cS (vc (tv (tI x1.B) rfl) (vc (tv (tN i) rfl) vn)) (ZJ rfl) (YB (n+1) x1.B ((i:Nat):Int)) rfl rfl) (gF (dy fhg64_6) rfl rfl (QW (tv (tB (decide (0≤x1.B∧x1.B<((i:Nat):Int)))) rfl)) (fO (OF.pickT (VEv.tmpB rfl (dy fhg64_6)) (tv (tB (!(decide (0≤x1.B∧x1.B<((i:Nat):Int))))) rfl)) (mO (tB (!(decide (0≤x1.B∧x1.B<((i:Nat):Int))))) rfl ?_))))
    refine gn (0≤x1.B∧x1.B<((i:Nat):Int)) (fun fhg71_7=> ?_) fun fhg71_7=> ?_
    ·refine Qy 5 10 false 71 (ny fhg71_7) rfl rfl rfl ?_
     refine Qac 3 15 true 76 rfl rfl rfl (oO rfl rfl (ny fhg71_7) (fO (OF.pickT (VEv.tmpB rfl (ny fhg71_7)) (VEv.bool true)) (nt (ct rfl (sr (fO (OF.assign (VEv.bool false)) (nt (rt (vinB.r (tr (tr ?_)))))))))))
     refine vinB.r (tr (vb (b':=false) rfl ?_))
     (symm;rw [decide_eq_false_iff_not];rintro ⟨h1,h2⟩;(exfalso;omega))
    refine Yl (tI x1.Kind) (nz fhg71_7) rfl rfl rfl rfl Za rfl rfl QU (VRunO.chain (VWant.on rfl rfl (nz fhg71_7)) (cS (vc (tv (tI x1.Kind) rfl) vn) (ZJ rfl) (Yh (n+1) x1.Kind) rfl rfl) (gF (nz fhg71_7) rfl rfl (QW (tv (tB (decide (x1.Kind=4∨x1.Kind=5))) rfl)) (gF (nz fhg71_7) rfl rfl (OF.move (tv (tB (!(decide (x1.Kind=4∨x1.Kind=5)))) rfl)) (Qy 3 15 true 76 (nkT (dy fhg64_6)) rfl rfl rfl (gF (nz fhg71_7) rfl rfl (OF.pickF (VEv.tmpB rfl (nkT (dy fhg64_6))) (VEv.bool false)) (fO (OF.pickF (VEv.tmpB rfl (nz fhg71_7)) (tv (tB false) rfl)) (nt (cf rfl (sk (vinB.n (tn ?_)))))))))))
    refine VRun.region (fO (QB (tv (tN i) rfl) (VEv.int .i64 1) (by omega)) (mO (tN (i+1)) rfl (VRunO.nil (tn ?_))))
    refine ⟨(i+1:Nat),?_,?_,Wk.mk (fun k=>k) ?_ ?_ ?_⟩
    ·refine QS hI0 fhc1 ((QF hx1).2 ?_)
     simp only [Qd1,two]
     refine ⟨by omega,fun hk=> ?_,fun hk=> ?_⟩
     ·(exfalso;omega)
     ·(exfalso;omega)
    ·omega
    ·exact (b2 (b2 (b2 (b2 bn))))
    ·exact bn
    ·exact nd rfl
   refine Qy 5 3 true 64 (dz fhg64_6) rfl rfl rfl (fO (OF.pickF (VEv.tmpB rfl (dz fhg64_6)) (VEv.bool false)) (mO (tB false) rfl (VRunO.free (VWant.on (b:=false) rfl rfl rfl) (OF.fieldAddrO (tv (T.op 0 0) rfl) Za) (VRunO.look (VWant.on (b:=false) rfl rfl rfl) (OL.loadO1 (t:=(tI x1.Kind)) (tv (T.op 0 0) rfl) rfl rfl QU) (VRunO.chain (VWant.on (b:=false) rfl rfl rfl) (cS (vc (tv (tI x1.Kind) rfl) vn) (ZJ rfl) (Yh (n+1) x1.Kind) rfl rfl) (VRunO.free (VWant.on (b:=false) rfl rfl rfl) (QW (tv (tB (decide (x1.Kind=4∨x1.Kind=5))) rfl)) (VRunO.free (VWant.on (b:=false) rfl rfl rfl) (OF.move (tv (tB (!(decide (x1.Kind=4∨x1.Kind=5)))) rfl)) (Yl (tI x1.B) (nkF (dz fhg64_6)) rfl rfl rfl rfl Yn rfl rfl QU (gF (nkF (dz fhg64_6)) rfl rfl (xne (tv (tI x1.B) rfl) (VEv.int .i64 0)) (VRunO.free (VWant.on (b:=false) rfl rfl rfl) (OF.pickT (VEv.tmpB rfl (nkF (dz fhg64_6))) (tv (tB (!(decide (x1.B=0)))) rfl)) (fO (OF.pickF (tv (tB false) rfl) (tv (tB (!(decide (x1.B=0)))) rfl)) ?_)))))))))))
   refine nt ?_
   refine cn (x1.B=0) rfl (fun fhc6=> ?_) fun fhc6=> ?_
   ·refine sr ?_
    refine fO (OF.assign (VEv.bool false)) (nt (rt (vinB.r (tr (tr (vinB.r (tr (vb (b':=false) rfl ?_))))))))
    (symm;rw [decide_eq_false_iff_not];rintro ⟨h1,h2⟩;(have h3:=(QF hx1).1 (h2 i fhc1);obtain ⟨h4,h5,h6⟩:=h3;simp only [two] at h6;omega))
   refine sk (vinB.n (tn (VRun.region (fO (QB (tv (tN i) rfl) (VEv.int .i64 1) (by omega)) (mO (tN (i+1)) rfl (VRunO.nil (tn ?_)))))))
   refine ⟨(i+1:Nat),?_,?_,Wk.mk (fun k=>k) ?_ ?_ ?_⟩
   ·refine QS hI0 fhc1 ((QF hx1).2 ?_)
    simp only [Qd1,two]
    refine ⟨by omega,fun hk=> ?_,fun hk=> ?_⟩
    ·(exfalso;omega)
    ·(refine ⟨?_,?_,fun h=> ?_,fun h=> ?_,fun h1 h2=> ?_⟩<;>first | assumption | omega | (refine ⟨x2,hx2,?_⟩;omega))
   ·omega
   ·exact (b2 (b2 (b2 (b2 bn))))
   ·exact bn
   ·exact nd rfl
  refine Qy 7 14 true 51 (dz fhg51_5) rfl rfl rfl (gF (nz fhg47_4) rfl rfl (OF.pickF (VEv.tmpB rfl (dz fhg51_5)) (VEv.bool false)) (fO (OF.pickF (VEv.tmpB rfl (nz fhg47_4)) (tv (tB false) rfl)) (nt (cf rfl (sk (tn (sr (lf (tI x1.Kind) rfl Za rfl rfl QU (cO (cS (vc (tv (tI x1.Kind) rfl) vn) (ZJ rfl) (Yh (n+1) x1.Kind) rfl rfl) (mO (tB (decide (x1.Kind=4∨x1.Kind=5))) rfl ?_))))))))))
  refine gw (x1.Kind=4∨x1.Kind=5) (fun fhg64_8=> ?_) fun fhg64_8=> ?_
  ·refine Yl (tI x1.B) (dy fhg64_8) rfl rfl rfl rfl Yn rfl rfl QU ?_
   refine gF (dy fhg64_8) rfl rfl (OF.move (tv (tN i) rfl)) (VRunO.chain (VWant.on rfl rfl (dy fhg64_8)) (cS (vc (tv (tI x1.B) rfl) (vc (tv (tN i) rfl) vn)) (ZJ rfl) (YB (n+1) x1.B ((i:Nat):Int)) rfl rfl) (gF (dy fhg64_8) rfl rfl (QW (tv (tB (decide (0≤x1.B∧x1.B<((i:Nat):Int)))) rfl)) (fO (OF.pickT (VEv.tmpB rfl (dy fhg64_8)) (tv (tB (!(decide (0≤x1.B∧x1.B<((i:Nat):Int))))) rfl)) (mO (tB (!(decide (0≤x1.B∧x1.B<((i:Nat):Int))))) rfl ?_))))
   refine gn (0≤x1.B∧x1.B<((i:Nat):Int)) (fun fhg71_9=> ?_) fun fhg71_9=> ?_
   ·refine Qy 5 10 false 71 (ny fhg71_9) rfl rfl rfl ?_
    refine Qac 3 15 true 76 rfl rfl rfl (oO rfl rfl (ny fhg71_9) (fO (OF.pickT (VEv.tmpB rfl (ny fhg71_9)) (VEv.bool true)) (nt (ct rfl (sr (fO (OF.assign (VEv.bool false)) (nt (rt (vinB.r (tr (tr ?_)))))))))))
    refine vinB.r (tr (vb (b':=false) rfl ?_))
    (symm;rw [decide_eq_false_iff_not];rintro ⟨h1,h2⟩;(have h3:=(QF hx1).1 (h2 i fhc1);obtain ⟨h4,h5,h6⟩:=h3;simp only [two] at h6;omega))
   refine Yl (tI x1.Kind) (nz fhg71_9) rfl rfl rfl rfl Za rfl rfl QU (VRunO.chain (VWant.on rfl rfl (nz fhg71_9)) (cS (vc (tv (tI x1.Kind) rfl) vn) (ZJ rfl) (Yh (n+1) x1.Kind) rfl rfl) (gF (nz fhg71_9) rfl rfl (QW (tv (tB (decide (x1.Kind=4∨x1.Kind=5))) rfl)) (gF (nz fhg71_9) rfl rfl (OF.move (tv (tB (!(decide (x1.Kind=4∨x1.Kind=5)))) rfl)) (Qy 3 15 true 76 (nkT (dy fhg64_8)) rfl rfl rfl (gF (nz fhg71_9) rfl rfl (OF.pickF (VEv.tmpB rfl (nkT (dy fhg64_8))) (VEv.bool false)) (fO (OF.pickF (VEv.tmpB rfl (nz fhg71_9)) (tv (tB false) rfl)) (nt (cf rfl (sk (vinB.n (tn ?_)))))))))))
   refine VRun.region (fO (QB (tv (tN i) rfl) (VEv.int .i64 1) (by omega)) (mO (tN (i+1)) rfl (VRunO.nil (tn ?_))))
   refine ⟨(i+1:Nat),?_,?_,Wk.mk (fun k=>k) ?_ ?_ ?_⟩
   ·refine QS hI0 fhc1 ((QF hx1).2 ?_)
    simp only [Qd1,two]
    refine ⟨by omega,fun hk=> ?_,fun hk=> ?_⟩
    ·(exfalso;omega)
    ·(refine ⟨?_,?_,fun h=> ?_,fun h=> ?_,fun h1 h2=> ?_⟩<;>first | assumption | omega)
   ·omega
   ·exact (b2 (b2 (b2 (b2 bn))))
   ·exact bn
   ·exact nd rfl
  refine Qy 5 3 true 64 (dz fhg64_8) rfl rfl rfl (fO (OF.pickF (VEv.tmpB rfl (dz fhg64_8)) (VEv.bool false)) (mO (tB false) rfl (VRunO.free (VWant.on (b:=false) rfl rfl rfl) (OF.fieldAddrO (tv (T.op 0 0) rfl) Za) (VRunO.look (VWant.on (b:=false) rfl rfl rfl) (OL.loadO1 (t:=(tI x1.Kind)) (tv (T.op 0 0) rfl) rfl rfl QU) (VRunO.chain (VWant.on (b:=false) rfl rfl rfl) (cS (vc (tv (tI x1.Kind) rfl) vn) (ZJ rfl) (Yh (n+1) x1.Kind) rfl rfl) (VRunO.free (VWant.on (b:=false) rfl rfl rfl) (QW (tv (tB (decide (x1.Kind=4∨x1.Kind=5))) rfl)) (VRunO.free (VWant.on (b:=false) rfl rfl rfl) (OF.move (tv (tB (!(decide (x1.Kind=4∨x1.Kind=5)))) rfl)) (Yl (tI x1.B) (nkF (dz fhg64_8)) rfl rfl rfl rfl Yn rfl rfl QU (gF (nkF (dz fhg64_8)) rfl rfl (xne (tv (tI x1.B) rfl) (VEv.int .i64 0)) (VRunO.free (VWant.on (b:=false) rfl rfl rfl) (OF.pickT (VEv.tmpB rfl (nkF (dz fhg64_8))) (tv (tB (!(decide (x1.B=0)))) rfl)) (fO (OF.pickF (tv (tB false) rfl) (tv (tB (!(decide (x1.B=0)))) rfl)) ?_)))))))))))
  refine nt ?_
  refine cn (x1.B=0) rfl (fun fhc6=> ?_) fun fhc6=> ?_
  ·refine sr ?_
   refine fO (OF.assign (VEv.bool false)) (nt (rt (vinB.r (tr (tr (vinB.r (tr (vb (b':=false) rfl ?_))))))))
   (symm;rw [decide_eq_false_iff_not];rintro ⟨h1,h2⟩;(have h3:=(QF hx1).1 (h2 i fhc1);obtain ⟨h4,h5,h6⟩:=h3;simp only [two] at h6;omega))
  refine sk (vinB.n (tn (VRun.region (fO (QB (tv (tN i) rfl) (VEv.int .i64 1) (by omega)) (mO (tN (i+1)) rfl (VRunO.nil (tn ?_)))))))
  refine ⟨(i+1:Nat),?_,?_,Wk.mk (fun k=>k) ?_ ?_ ?_⟩
  ·refine QS hI0 fhc1 ((QF hx1).2 ?_)
   simp only [Qd1,two]
   refine ⟨by omega,fun hk=> ?_,fun hk=> ?_⟩
   ·(exfalso;omega)
   ·(refine ⟨?_,?_,fun h=> ?_,fun h=> ?_,fun h1 h2=> ?_⟩<;>first | assumption | omega)
  ·omega
  ·exact (b2 (b2 (b2 (b2 bn))))
  ·exact bn
  ·exact nd rfl
 refine VRun.exit (vthn.e (vthn.e (vinB.e (tn (sr (fO (OF.assign (VEv.bool true)) (nt (rt (vb (b':=true) rfl ?_)))))))))
 (symm;rw [decide_eq_true_eq];exact ⟨by omega,Jc hI' fhc1⟩)
end Go.Proofs.YtcccmceoplcciaaGreat.AE
namespace Go.Proofs.YtcccmceoplcciaaGreat.AE
open Go Go.RowKit
set_option linter.unusedVariables false
set_option linter.unusedSimpArgs false
set_option maxRecDepth 20000
set_option maxHeartbeats 2000000
theorem QfF (n:Nat) (a:D.Clue) (hz:QQ a≤mx):Pure (Qq Tryz.prog (n+5)) 99 [(T.agg (Qg false a))] (tB (decide ((1≤a.Sense∧a.Sense≤99)∧Ys a.Play))):=by
 refine Pure.intro (rs:= [ResultVar.tmp 2]) Tryz.func99 rfl rfl rfl (E0:= [(0,(T.agg (Qg false a)))]) rfl ?_
 obtain ⟨hlim,hmx,hmax⟩:=QC
 simp only [QQ] at hz
 refine sr (kO (B.box (ts:=(Qg false a)) (tv (T.agg (Qg false a)) rfl) nofun rfl) (fO (OF.assign (VEv.bool false)) (nt (sr (lf (tI a.Sense) rfl QdG rfl rfl QU (cO (cS (vc (tv (tI a.Sense) rfl) (vc (VEv.int .i64 1) (vc (VEv.int .i64 99) vn))) (ZJ rfl) (QH (n+3) a.Sense 1 99) rfl rfl) (mO (tB (decide (1≤a.Sense∧a.Sense≤99))) rfl ?_)))))))
 refine gw (1≤a.Sense∧a.Sense≤99) (fun fhg6_1=> ?_) fun fhg6_1=> ?_
 ·refine Yl (rd 4 Qj a.Play) (dy fhg6_1) rfl rfl rfl rfl QdF rfl rfl QkD ?_
  refine VRunO.chain (VWant.on rfl rfl (dy fhg6_1)) (cS (vc (tv (rd 4 Qj a.Play) rfl) vn) (ZJ rfl) (Qfy (n+0) a.Play (by assumption)) rfl rfl) (fO (OF.pickT (VEv.tmpB rfl (dy fhg6_1)) (tv (tB (decide (Ys a.Play))) rfl)) (aO (tB (decide (Ys a.Play))) rfl (nt (rt (vb (b':=(decide (Ys a.Play))) rfl ?_)))))
  (refine Zb ⟨fun h=>⟨?_,h⟩,fun h=>h.2⟩;assumption)
 refine Qy 3 3 true 6 (dz fhg6_1) rfl rfl rfl (fO (OF.pickF (VEv.tmpB rfl (dz fhg6_1)) (VEv.bool false)) (aO (tB false) rfl (nt (rt (vb (b':=false) rfl ?_)))))
 (symm;rw [decide_eq_false_iff_not];rintro ⟨h1,h2⟩;contradiction)
theorem QfM (n:Nat) (a:D.Clue) (hz:QQ a≤mx):Pure (Qq Tryz.prog (n+4)) 110 [(T.agg (Qg false a))] (tB (decide ((1≤a.Sense∧a.Sense≤99)∧Ys a.Play))):=by
 refine Pure.intro (rs:= [ResultVar.tmp 2]) Tryz.func110 rfl rfl rfl (E0:= [(0,(T.agg (Qg false a)))]) rfl ?_
 obtain ⟨hlim,hmx,hmax⟩:=QC
 simp only [QQ] at hz
 refine sr (kO (B.box (ts:=(Qg false a)) (tv (T.agg (Qg false a)) rfl) nofun rfl) (fO (OF.assign (VEv.bool false)) (nt (sr (lf (tI a.Sense) rfl QdG rfl rfl QU (cO (cS (vc (tv (tI a.Sense) rfl) (vc (VEv.int .i64 1) (vc (VEv.int .i64 99) vn))) (ZJ rfl) (Q4 (n+2) a.Sense 1 99) rfl rfl) (mO (tB (decide (1≤a.Sense∧a.Sense≤99))) rfl ?_)))))))
 refine gw (1≤a.Sense∧a.Sense≤99) (fun fhg6_1=> ?_) fun fhg6_1=> ?_
 ·refine Yl (rd 4 Qj a.Play) (dy fhg6_1) rfl rfl rfl rfl QdF rfl rfl QkD ?_
  refine VRunO.chain (VWant.on rfl rfl (dy fhg6_1)) (cS (vc (tv (rd 4 Qj a.Play) rfl) vn) (ZJ rfl) (QfJ (n+0) a.Play (by assumption)) rfl rfl) (fO (OF.pickT (VEv.tmpB rfl (dy fhg6_1)) (tv (tB (decide (Ys a.Play))) rfl)) (aO (tB (decide (Ys a.Play))) rfl (nt (rt (vb (b':=(decide (Ys a.Play))) rfl ?_)))))
  (refine Zb ⟨fun h=>⟨?_,h⟩,fun h=>h.2⟩;assumption)
 refine Qy 3 3 true 6 (dz fhg6_1) rfl rfl rfl (fO (OF.pickF (VEv.tmpB rfl (dz fhg6_1)) (VEv.bool false)) (aO (tB false) rfl (nt (rt (vb (b':=false) rfl ?_)))))
 (symm;rw [decide_eq_false_iff_not];rintro ⟨h1,h2⟩;contradiction)
end Go.Proofs.YtcccmceoplcciaaGreat.AE
namespace Go.Proofs.YtcccmceoplcciaaGreat.AE
open Go Go.RowKit
set_option linter.unusedVariables false
set_option linter.unusedSimpArgs false
set_option maxRecDepth 20000
set_option maxHeartbeats 2000000
theorem QaE (n:Nat) (a:List Int) (b:List Int) (hla:a.length≤mx) (hlb:b.length≤mx):Pure (Qq Tryz.prog (n+1)) 66 [(rd 1 Qa a),(rd 1 Qa b)] (tB (decide (a=b))):=by
 refine Pure.intro (rs:= [ResultVar.tmp 4]) Tryz.func66 rfl rfl rfl (E0:= [(0,(rd 1 Qa a)),(1,(rd 1 Qa b))]) rfl ?_
 obtain ⟨hlim,hmx,hmax⟩:=QC
 refine sr (fO (OF.assign (VEv.bool false)) (nt (sq (sr (mO (rd 1 Qa a) rfl (lO (B.lenR (m:=a.length) (tv (rd 1 Qa a) rfl) Zg (List.length_map ..)) (mO (rd 1 Qa b) rfl (lO (B.lenR (m:=b.length) (tv (rd 1 Qa b) rfl) Zg (List.length_map ..)) (fO (Qia (tv (tN a.length) rfl) (tv (tN b.length) rfl)) (nt ?_))))))))))
 refine cn (a.length=b.length) rfl (fun fhc0=> ?_) fun fhc0=> ?_
 ·refine sr ?_
  refine fO (OF.assign (VEv.bool false)) (nt (rt (tr (vb (b':=false) rfl ?_))))
  symm;rw [decide_eq_false_iff_not];rintro rfl;exact fhc0 rfl
 refine sk (tn (sq (sr (mO (rd 1 Qa a) rfl (lO (B.lenR (m:=a.length) (tv (rd 1 Qa a) rfl) Zg (List.length_map ..)) (fO (OF.move (VEv.int .i64 0)) (nt (VRun.block ?_))))))))
 refine VRun.loop (A:=Nat) (fun s_=> [(0,(rd 1 Qa a)),(1,(rd 1 Qa b)),(12,(tN a.length)),(13,(tN s_))]) (fun s_=>Q3 []) 0 (fun s_=>s_≤a.length∧∀j,j<s_→a[j]? =b[j]?) (fun s_=>a.length - s_) (0:Nat) ?_ (Wk.mk (fun k=>k) ?_ ?_ ?_) ?_
 ·first | trivial | (simp;done) | omega | (constructor<;>simp)
 ·exact (b2 (b2 (b2 (b2 bn))))
 ·exact bn
 ·exact nd rfl
 rintro i (hI':i≤a.length∧∀j,j<i→a[j]? =b[j]?)
 show VRun _ _ _ [(0,(rd 1 Qa a)),(1,(rd 1 Qa b)),(12,(tN a.length)),(13,(tN i))] (Q3 []) 0 _
 refine sr (fO (Zf (tv (tN i) rfl) (tv (tN a.length) rfl)) (nt (sq ?_)))
 refine cd (i<a.length) rfl (fun fhc1=> ?_) fun fhc1=> ?_
 ·refine sk ?_
  refine tn (sq (VRun.block (sr (mO (tN i) rfl (aO (tN i) rfl (nt (sq (VRun.draw (B:= [[],[],[1,0],[0,1,2],[],[],[5,4],[4,5,6],[6,5,4,7,2,1,0,3]]) (by kernel_rfl) (by kernel_rfl) (mD (rd 1 Qa a) rfl rfl (mD (tN i) rfl rfl ?_))))))))))
  obtain ⟨x1,hx1⟩:∃x,a[i]? =some x:=⟨_,List.getElem?_eq_getElem (by omega)⟩
  refine fD (OF.indexAddrR (row:=(Qa false x1)) (i:=i) (tv (rd 1 Qa a) rfl) (tv (tN i) rfl) rfl (Qv _ hx1) Zg Q8 Yk) rfl rfl (lD (OL.loadR1 (t:=(tI x1)) (tv (T.rp [(tI x1)]) rfl) rfl QU) rfl rfl (mD (rd 1 Qa b) rfl rfl (mD (tN i) rfl rfl ?_)))
  obtain ⟨x2,hx2⟩:∃x,b[i]? =some x:=⟨_,List.getElem?_eq_getElem (by omega)⟩
  refine fD (OF.indexAddrR (row:=(Qa false x2)) (i:=i) (tv (rd 1 Qa b) rfl) (tv (tN i) rfl) rfl (Qv _ hx2) Zg Q8 Yk) rfl rfl (lD (OL.loadR1 (t:=(tI x2)) (tv (T.rp [(tI x2)]) rfl) rfl QU) rfl rfl (fD (xne (tv (tI x1) rfl) (tv (tI x2) rfl)) rfl rfl (VRunD.nil (tn ?_))))
  refine cn (x1=x2) rfl (fun fhc2=> ?_) fun fhc2=> ?_
  ·refine sr ?_
   refine fO (OF.assign (VEv.bool false)) (nt (rt (vinB.r (tr (tr (vinB.r (tr (vb (b':=false) rfl ?_))))))))
   symm;rw [decide_eq_false_iff_not];exact QbJ hx1 hx2 fhc2
  refine sk (vinB.n (tn (VRun.region (fO (QB (tv (tN i) rfl) (VEv.int .i64 1) (by omega)) (mO (tN (i+1)) rfl (VRunO.nil (tn ?_)))))))
  refine ⟨(i+1:Nat),?_,?_,Wk.mk (fun k=>k) ?_ ?_ ?_⟩
  ·exact QaZ hI' hx1 hx2 fhc2
  ·first | omega | (simp only [];omega) | (show _<_;omega) | (simp;omega)
  ·exact (b2 (b2 (b2 (b2 bn))))
  ·exact bn
  ·exact nd rfl
 refine VRun.exit (vthn.e (vthn.e (vinB.e (tn (sr (fO (OF.assign (VEv.bool true)) (nt (rt (vb (b':=true) rfl ?_)))))))))
 symm;rw [decide_eq_true_eq];exact QbH hI' fhc0 fhc1
end Go.Proofs.YtcccmceoplcciaaGreat.AE
namespace Go.Proofs.YtcccmceoplcciaaGreat.AE
open Go Go.RowKit
set_option linter.unusedVariables false
set_option linter.unusedSimpArgs false
set_option maxRecDepth 20000
set_option maxHeartbeats 2000000
noncomputable section
def Yz (a:List Int) (i:Nat):List Int:=(List.range a.length).map fun j=>if j<i∨a.length≤j+i then a.getD (a.length - 1 - j) 0 else a.getD j 0
theorem J2 (a:List Int) (i:Nat):(Yz a i).length=a.length:=by simp [Yz]
theorem Qc7 {a:List Int} {i j:Nat} (h:j<a.length):(Yz a i)[j]? =some (if j<i∨a.length≤j+i then a.getD (a.length - 1 - j) 0 else a.getD j 0):=by
 unfold Yz
 rw [List.getElem?_map,List.getElem?_range h]
 rfl
theorem QjU (a:List Int):Yz a 0=a:=by
 refine List.ext_getElem? fun j=> ?_
 rcases Nat.lt_or_ge j a.length with h | h
 ·rw [Qc7 h,if_neg (by omega),List.getD_eq_getElem?_getD,List.getElem?_eq_getElem h]
  rfl
 ·rw [List.getElem?_eq_none (by rw [J2];exact h),List.getElem?_eq_none h]
theorem QkH {a:List Int} {i:Nat} (h:a.length≤2*i+1) (h2:i≤a.length):Yz a i=a.reverse:=by
 refine List.ext_getElem? fun j=> ?_
 rcases Nat.lt_or_ge j a.length with h3 | h3
 ·rw [Qc7 h3,List.getElem?_reverse h3,List.getElem?_eq_getElem (by omega)]
  split
  ·rw [List.getD_eq_getElem?_getD,List.getElem?_eq_getElem (by omega)];rfl
  ·have e:a.length - 1 - j=j:=by omega
   rw [List.getD_eq_getElem?_getD,List.getElem?_eq_getElem h3]
   simp only [Option.getD_some,e]
 ·rw [List.getElem?_eq_none (by rw [J2];exact h3),List.getElem?_eq_none (by simpa using h3)]
theorem QjV {a:List Int} {i k:Nat} {x y:Int} (hk:k=a.length - 1 - i) (hi:i<k) (hx:(Yz a i)[k]? =some x) (hy:(Yz a i)[i]? =some y):((Yz a i).set i x).set k y=Yz a (i+1):=by
 subst hk
 rw [Qc7 (by omega),if_neg (by omega)] at hx hy
 obtain rfl:=Option.some.inj hx
 obtain rfl:=Option.some.inj hy
 refine List.ext_getElem? fun j=> ?_
 rcases Nat.lt_or_ge j a.length with h | h
 ·rw [Qc7 h,List.getElem?_set,List.getElem?_set,List.length_set,J2,Qc7 h]
  by_cases e1:a.length - 1 - i=j
  ·rw [if_pos e1,if_pos (by omega),if_pos (by omega)]
   congr 2
   omega
  ·rw [if_neg e1]
   by_cases e2:i=j
   ·rw [if_pos e2,if_pos (by omega),if_pos (by omega),e2]
   ·rw [if_neg e2]
    by_cases e3:j<i∨a.length≤j+i
    ·rw [if_pos e3,if_pos (by omega)]
    ·rw [if_neg e3,if_neg (by omega)]
 ·rw [List.getElem?_eq_none (by rw [List.length_set,List.length_set,J2];exact h),List.getElem?_eq_none (by rw [J2];exact h)]
end
theorem JH (n:Nat) (a:List Int) (ha:a.length≤YW):Mut (Qq Tryz.prog (n+1)) 195 1 (a.map (QR true)) [] none (a.reverse.map (QR true)):=by
 refine Mut.intro (rt:=0) Tryz.func195 rfl rfl rfl (by kernel_rfl) (Zw (fun _=>rfl) _) (Zw (fun _=>rfl) _) (E0:= []) rfl ?_
 obtain ⟨hlim,hmx,hmax⟩:=QC
 refine sr (mO (T.os 1 0 0 ((a.map (QR true)).length)) rfl (lO (B.lenO (m:=a.length) (tv (T.os 1 0 0 ((a.map (QR true)).length)) rfl) QdI (List.length_map ..)) (fO (B.sub (n:=(((a.length:Nat):Int) - 1)) (tv (tN a.length) rfl) (VEv.int .i64 1) (by (rw [Qt (by omega)];done))) (fO (OF.assign (VEv.int .i64 0)) (aO (tI (((a.length:Nat):Int) - 1)) rfl (nt (VRun.block ?_)))))))
 have he1:a=Yz a 0:=by exact (QjU a).symm
 refine VRun.loop (A:=Nat) (fun s_=> [(0,(T.os 1 0 0 (((Yz a s_).map (QR true)).length))),(2,(tN s_)),(3,(tI ((a.length:Int) - 1 - s_)))]) (fun s_=>Q3 [(0,(Obj.rows 1 ((Yz a s_).map (QR true))))]) 1 (fun s_=>2*s_≤a.length+1∧s_≤a.length) (fun s_=>a.length - s_) (0:Nat) ?_ (Wk.mk (fun k=>k) ?_ ?_ ?_) ?_
 ·(simp;done)
 ·exact (bc ⟨(congrArg (fun l_=>T.os 1 0 0 (List.map (QR true) l_).length) he1),rfl⟩ (b2 (bc ⟨(congrArg (T.int .i64) (show (((a.length:Nat):Int) - 1)=(a.length:Int) - 1 - 0 from (by omega))),rfl⟩ bn)))
 ·exact (bc ⟨(congrArg (fun l_=>some (Obj.rows 1 (List.map (QR true) l_))) he1),(lb rfl),rfl⟩ bn)
 ·exact nd rfl
 rintro i (hI':2*i≤a.length+1∧i≤a.length)
 show VRun _ _ _ [(0,(T.os 1 0 0 (((Yz a i).map (QR true)).length))),(2,(tN i)),(3,(tI ((a.length:Int) - 1 - i)))] (Q3 [(0,(Obj.rows 1 ((Yz a i).map (QR true))))]) 1 _
 have hml:=J2 a i
 have hI1:=hI'.1
 have hI2:=hI'.2
 refine sq (sr (mO (tN i) rfl (mO (tI ((a.length:Int) - 1 - i)) rfl (fO (xls (tv (tN i) rfl) (tv (tI ((a.length:Int) - 1 - i)) rfl)) (nt ?_)))))
 refine cd (((i:Nat):Int)<(a.length:Int) - 1 - i) rfl (fun fhc0=> ?_) fun fhc0=> ?_
 ·refine sk ?_
  refine tn (sq (VRun.block (VRun.draw (B:= [[],[],[],[],[],[],[5,4],[4,5,6],[],[],[9,8],[8,9,10],[10,9,8,11,7,6,5,4,1,0],[0,1,4,5,6,7,11,8,9,10,12],[13,12,11,10,9,8,7,6,5,4,1,0,3,2],[2,3,0,1,4,5,6,7,8,9,10,11,12,13,14]]) (by kernel_rfl) (by kernel_rfl) (mD (T.os 1 0 0 (((Yz a i).map (QR true)).length)) rfl rfl (mD (tN i) rfl rfl (mD (T.os 1 0 0 (((Yz a i).map (QR true)).length)) rfl rfl (mD (tI ((a.length:Int) - 1 - i)) rfl rfl (mD (T.os 1 0 0 (((Yz a i).map (QR true)).length)) rfl rfl (mD (tI ((a.length:Int) - 1 - i)) rfl rfl ?_)))))))))
  obtain ⟨x1,hx1⟩:∃x,(Yz a i)[(Int.toNat ((a.length:Int) - 1 - i))]? =some x:=⟨_,List.getElem?_eq_getElem (by omega)⟩
  refine fD (B.indexAddrO (i:=(Int.toNat ((a.length:Int) - 1 - i))) (tv (T.os 1 0 0 (((Yz a i).map (QR true)).length)) rfl) (tv (tI ((a.length:Int) - 1 - i)) rfl) (by omega) (by (simp only [List.length_map];omega)) QdI sz5 if5) rfl rfl (lD (OL.loadP1 (t:=(T.int .u8 x1)) (row:=(QR true x1)) (tv (T.orp 1 0 (Int.toNat ((a.length:Int) - 1 - i)) 0) rfl) rfl (Qv _ hx1) rfl rfl st5) rfl rfl (mD (T.os 1 0 0 (((Yz a i).map (QR true)).length)) rfl rfl (mD (tN i) rfl rfl ?_)))
  obtain ⟨x2,hx2⟩:∃x,(Yz a i)[i]? =some x:=⟨_,List.getElem?_eq_getElem (by omega)⟩
  refine fD (B.indexAddrO (i:=i) (tv (T.os 1 0 0 (((Yz a i).map (QR true)).length)) rfl) (tv (tN i) rfl) rfl (by (simp only [List.length_map];omega)) QdI sz5 if5) rfl rfl (lD (OL.loadP1 (t:=(T.int .u8 x2)) (row:=(QR true x2)) (tv (T.orp 1 0 i 0) rfl) rfl (Qv _ hx2) rfl rfl st5) rfl rfl (fD (B.indexAddrO (i:=i) (tv (T.os 1 0 0 (((Yz a i).map (QR true)).length)) rfl) (tv (tN i) rfl) rfl (by (simp only [List.length_map];omega)) QdI sz5 if5) rfl rfl (VRunD.chain (bi:= [0,1,4,5,6,7,11,8,9,10,12]) rfl VWant.always rfl rfl rfl (by kernel_rfl) (B.storeP (us:= [(T.int .u8 x1)]) (rows':=(((Yz a i).set i x1).map (QR true))) (row:=(QR true x2)) (tv (T.orp 1 0 i 0) rfl) (tv (T.int .u8 x1) rfl) nofun rfl (Qv _ hx2) rfl (lb rfl) if5 sz5 (bc rfl bn) (by intro r hr t ht;obtain ⟨x,_,rfl⟩:=List.mem_map.1 hr;rw [Qlj] at ht;exact ZQ (okByte.pl _ t ht)) (ZL rfl)) ?_)))
  obtain ⟨x3,hx3⟩:∃x,((Yz a i).set i x1)[(Int.toNat ((a.length:Int) - 1 - i))]? =some x:=⟨_,List.getElem?_eq_getElem (by (simp only [List.length_set];omega))⟩
  refine fD (B.indexAddrO (i:=(Int.toNat ((a.length:Int) - 1 - i))) (tv (T.os 1 0 0 (((Yz a i).map (QR true)).length)) rfl) (tv (tI ((a.length:Int) - 1 - i)) rfl) (by omega) (by (simp only [List.length_map];omega)) QdI sz5 if5) rfl rfl (VRunD.chain (bi:= [2,3,0,1,4,5,6,7,8,9,10,11,12,13,14]) rfl VWant.always rfl rfl rfl (by kernel_rfl) (B.storeP (us:= [(T.int .u8 x2)]) (rows':=((((Yz a i).set i x1).set (Int.toNat ((a.length:Int) - 1 - i)) x2).map (QR true))) (row:=(QR true x3)) (tv (T.orp 1 0 (Int.toNat ((a.length:Int) - 1 - i)) 0) rfl) (tv (T.int .u8 x2) rfl) nofun rfl (Qv _ hx3) rfl (lb rfl) if5 sz5 (bc rfl bn) (by intro r hr t ht;obtain ⟨x,_,rfl⟩:=List.mem_map.1 hr;rw [Qlj] at ht;exact ZQ (okByte.pl _ t ht)) (ZL rfl)) (VRunD.nil (vinB.n (tn (VRun.region (mO (tN i) rfl (fO (QB (tv (tN i) rfl) (VEv.int .i64 1) (by omega)) (mO (tI ((a.length:Int) - 1 - i)) rfl (fO (B.sub (n:=((a.length:Int) - 1 - i - 1)) (tv (tI ((a.length:Int) - 1 - i)) rfl) (VEv.int .i64 1) (by (rw [Qt (by omega)];done))) (aO (tN (i+1)) rfl (aO (tI ((a.length:Int) - 1 - i - 1)) rfl ?_)))))))))))
  refine VRunO.nil (tn ?_)
  have hml2:=J2 a (i+1)
  have he2:(((Yz a i).set i x1).set (Int.toNat ((a.length:Int) - 1 - i)) x2)=Yz a (i+1):=by (refine QjV ?_ ?_ hx1 hx2<;>omega)
  refine ⟨(i+1:Nat),?_,?_,Wk.mk (fun k=>k) ?_ ?_ ?_⟩
  ·omega
  ·omega
  ·exact (bc ⟨(congrArg (fun n_=>T.os 1 0 0 n_) (show ((Yz a i).map (QR true)).length=((Yz a (i+1)).map (QR true)).length from (by rw [List.length_map,List.length_map,hml,hml2]))),rfl⟩ (b2 (bc ⟨(congrArg (T.int .i64) (show ((a.length:Int) - 1 - i - 1)=(a.length:Int) - 1 - (i+1) from (by omega))),rfl⟩ bn)))
  ·exact (bc ⟨(congrArg (fun l_=>some (Obj.rows 1 (List.map (QR true) l_))) he2),(lb rfl),rfl⟩ bn)
  ·exact nd rfl
 refine VRun.exit (vthn.e (vthn.e (vinB.e ?_)))
 refine vmut.v (rows:=((Yz a i).map (QR true))) rfl rfl ?_ rfl
 ·show List.map _ (Yz a i)=List.map _ a.reverse
  refine congrArg (List.map _) ?_
  refine QkH ?_ ?_<;>omega
end Go.Proofs.YtcccmceoplcciaaGreat.AE
namespace Go.Proofs.YtcccmceoplcciaaGreat.AE
open Go Go.RowKit
set_option linter.unusedVariables false
set_option linter.unusedSimpArgs false
set_option maxRecDepth 20000
set_option maxHeartbeats 2000000
noncomputable section
def gOk (s:ByteArray) (j:Nat):Prop:=Qu s j=35∨Qu s j=46
def gridOk (g:D.Grid):Prop:=(2≤g.Rows∧g.Rows≤6)∧(2≤g.Cols∧g.Cols≤6)∧((g.Cells.size:Nat):Int)=g.Rows*g.Cols∧∀j,j<g.Cells.size→gOk g.Cells j
instance (g:D.Grid):Decidable (gridOk g):=Classical.propDecidable _
theorem Qny {a b:Int} (h1:2≤a) (h2:a≤6) (h3:2≤b) (h4:b≤6):4≤a*b∧a*b≤36:=by
 have e1:2*2≤a*b:=Int.mul_le_mul h1 h3 (by decide) (by omega)
 have e2:a*b≤6*6:=Int.mul_le_mul h2 h4 (by omega) (by decide)
 omega
theorem Qnu {a b:Int} (h1:2≤a) (h2:a≤6) (h3:2≤b) (h4:b≤6):IntKind.i64.wrap (a*b)=a*b:=by
 have:=Qny h1 h2 h3 h4
 rw [Qt (by omega)]
theorem gridOk.size {g:D.Grid} (h:gridOk g):4≤g.Cells.size∧g.Cells.size≤36:=by
 have:=Qny h.1.1 h.1.2 h.2.1.1 h.2.1.2
 have:=h.2.2.1
 omega
end
theorem ZZ (n:Nat) (g:D.Grid) (hc:g.Cells.size≤maxLen):Pure (Qq Tryz.prog (n+2)) 105 [(T.agg (Qc false g))] (tB (decide (gridOk g))):=by
 refine Pure.intro (rs:= [ResultVar.tmp 2]) Tryz.func105 rfl rfl rfl (E0:= [(0,(T.agg (Qc false g)))]) rfl ?_
 obtain ⟨hlim,hmx,hmax⟩:=QC
 refine sr (kO (B.box (ts:=(Qc false g)) (tv (T.agg (Qc false g)) rfl) nofun rfl) (fO (OF.assign (VEv.bool false)) (nt (sq (sr (lf (tI g.Rows) rfl Qaz rfl rfl QU (cO (cS (vc (tv (tI g.Rows) rfl) (vc (VEv.int .i64 2) (vc (VEv.int .i64 6) vn))) (ZJ rfl) (QH (n+0) g.Rows 2 6) rfl rfl) (fO (QW (tv (tB (decide (2≤g.Rows∧g.Rows≤6))) rfl)) (mO (tB (!(decide (2≤g.Rows∧g.Rows≤6)))) rfl ?_)))))))))
 refine gn (2≤g.Rows∧g.Rows≤6) (fun fhg8_1=> ?_) fun fhg8_1=> ?_
 ·refine Qy 4 4 false 8 (ny fhg8_1) rfl rfl rfl ?_
  refine fO (OF.pickT (VEv.tmpB rfl (ny fhg8_1)) (VEv.bool true)) (mO (tB true) rfl (Qy 9 10 false 14 (b:=true) rfl rfl rfl rfl (fO (OF.pickT (tv (tB true) rfl) (VEv.bool true)) (nt (ct rfl (sr (fO (OF.assign (VEv.bool false)) (nt (rt (tr (vb (b':=false) rfl ?_)))))))))))
  (symm;rw [decide_eq_false_iff_not];rintro ⟨g1,g2,g3,g4⟩;omega)
 refine Yl (tI g.Cols) (nz fhg8_1) rfl rfl rfl rfl Zn rfl rfl QU (VRunO.chain (VWant.on rfl rfl (nz fhg8_1)) (cS (vc (tv (tI g.Cols) rfl) (vc (VEv.int .i64 2) (vc (VEv.int .i64 6) vn))) (ZJ rfl) (QH (n+0) g.Cols 2 6) rfl rfl) (gF (nz fhg8_1) rfl rfl (QW (tv (tB (decide (2≤g.Cols∧g.Cols≤6))) rfl)) (fO (OF.pickF (VEv.tmpB rfl (nz fhg8_1)) (tv (tB (!(decide (2≤g.Cols∧g.Cols≤6)))) rfl)) (mO (tB (!(decide (2≤g.Cols∧g.Cols≤6)))) rfl ?_))))
 refine gn (2≤g.Cols∧g.Cols≤6) (fun fhg14_2=> ?_) fun fhg14_2=> ?_
 ·refine Qy 9 10 false 14 (ny fhg14_2) rfl rfl rfl ?_
  refine fO (OF.pickT (VEv.tmpB rfl (ny fhg14_2)) (VEv.bool true)) (nt (ct rfl (sr (fO (OF.assign (VEv.bool false)) (nt (rt (tr (vb (b':=false) rfl ?_))))))))
  (symm;rw [decide_eq_false_iff_not];rintro ⟨g1,g2,g3,g4⟩;omega)
 refine Yl (tS g.Cells) (nz fhg14_2) rfl rfl rfl rfl QE rfl rfl Z7 (gL (nz fhg14_2) rfl rfl (B.lenS (tv (tS g.Cells) rfl) U9) (Yl (tI g.Rows) (nz fhg14_2) rfl rfl rfl rfl Qaz rfl rfl QU (Yl (tI g.Cols) (nz fhg14_2) rfl rfl rfl rfl Zn rfl rfl QU (gF (nz fhg14_2) rfl rfl (B.mul (n:=(g.Rows*g.Cols)) (tv (tI g.Rows) rfl) (tv (tI g.Cols) rfl) (by (refine Qnu ?_ ?_ ?_ ?_<;>omega))) (gF (nz fhg14_2) rfl rfl (xne (tv (tN g.Cells.size) rfl) (tv (tI (g.Rows*g.Cols)) rfl)) (fO (OF.pickF (VEv.tmpB rfl (nz fhg14_2)) (tv (tB (!(decide (((g.Cells.size:Nat):Int)=(g.Rows*g.Cols))))) rfl)) (nt ?_)))))))
 refine cn (((g.Cells.size:Nat):Int)=(g.Rows*g.Cols)) rfl (fun fhc0=> ?_) fun fhc0=> ?_
 ·refine sr ?_
  refine fO (OF.assign (VEv.bool false)) (nt (rt (tr (vb (b':=false) rfl ?_))))
  (symm;rw [decide_eq_false_iff_not];rintro ⟨g1,g2,g3,g4⟩;omega)
 refine sk (tn (sq (sr (fO (OF.assign (VEv.int .i64 0)) (nt (VRun.block ?_))))))
 refine VRun.loop (A:=Nat) (fun s_=> [(1,(T.op 0 0)),(3,(tN s_))]) (fun s_=>Q3 [(0,(Obj.cells (Qc false g)))]) 1 (fun s_=>s_≤g.Cells.size∧∀j,j<s_→gOk g.Cells j) (fun s_=>g.Cells.size - s_) (0:Nat) ?_ (Wk.mk (fun k=>k) ?_ ?_ ?_) ?_
 ·exact ⟨Nat.zero_le _,fun j hj=>by omega⟩
 ·exact (b2 (b2 bn))
 ·exact (b3 bn)
 ·exact nd rfl
 rintro i (hI':i≤g.Cells.size∧∀j,j<i→gOk g.Cells j)
 show VRun _ _ _ [(1,(T.op 0 0)),(3,(tN i))] (Q3 [(0,(Obj.cells (Qc false g)))]) 1 _
 have hI1:=hI'.1
 refine sq (sr (mO (tN i) rfl (lf (tS g.Cells) rfl QE rfl rfl Z7 (lO (B.lenS (tv (tS g.Cells) rfl) U9) (fO (Zf (tv (tN i) rfl) (tv (tN g.Cells.size) rfl)) (nt ?_))))))
 refine cd (i<g.Cells.size) rfl (fun fhc1=> ?_) fun fhc1=> ?_
 ·refine sk ?_
  refine tn (sq (VRun.block (sr (lf (tS g.Cells) rfl QE rfl rfl Z7 (mO (tN i) rfl ?_)))))
  have hb3:i<g.Cells.size:=(by omega)
  refine fO (JN (tv (tS g.Cells) rfl) (tv (tN i) rfl) hb3 U9) (fO (xne (tv (T.int .u8 (Qu g.Cells i)) rfl) (VEv.int .u8 35)) (mO (tB (!(decide (Qu g.Cells i=35)))) rfl ?_))
  refine gn (Qu g.Cells i=35) (fun fhg37_4=> ?_) fun fhg37_4=> ?_
  ·refine Yl (tS g.Cells) (ny fhg37_4) rfl rfl rfl rfl QE rfl rfl Z7 ?_
   refine gF (ny fhg37_4) rfl rfl (OF.move (tv (tN i) rfl)) ?_
   have hb5:i<g.Cells.size:=(by omega)
   refine gF (ny fhg37_4) rfl rfl (JN (tv (tS g.Cells) rfl) (tv (tN i) rfl) hb5 U9) (gF (ny fhg37_4) rfl rfl (xne (tv (T.int .u8 (Qu g.Cells i)) rfl) (VEv.int .u8 46)) (fO (OF.pickT (VEv.tmpB rfl (ny fhg37_4)) (tv (tB (!(decide (Qu g.Cells i=46)))) rfl)) (nt ?_)))
   refine cn (Qu g.Cells i=46) rfl (fun fhc2=> ?_) fun fhc2=> ?_
   ·refine sr ?_
    refine fO (OF.assign (VEv.bool false)) (nt (rt (vinB.r (tr (tr (vinB.r (tr (vb (b':=false) rfl ?_))))))))
    (symm;rw [decide_eq_false_iff_not];rintro ⟨g1,g2,g3,g4⟩;(have:=g4 i fhc1;unfold gOk at this;omega))
   refine sk (vinB.n (tn (VRun.region (mO (tN i) rfl (fO (QB (tv (tN i) rfl) (VEv.int .i64 1) (by omega)) (aO (tN (i+1)) rfl (VRunO.nil (tn ?_))))))))
   refine ⟨(i+1:Nat),?_,?_,Wk.mk (fun k=>k) ?_ ?_ ?_⟩
   ·refine QS hI' fhc1 ?_;unfold gOk;omega
   ·omega
   ·exact (b2 (b2 bn))
   ·exact (b3 bn)
   ·exact nd rfl
  refine Qy 5 5 true 37 (nz fhg37_4) rfl rfl rfl (fO (OF.pickF (VEv.tmpB rfl (nz fhg37_4)) (VEv.bool false)) (nt (cf rfl (sk (vinB.n (tn (VRun.region (mO (tN i) rfl (fO (QB (tv (tN i) rfl) (VEv.int .i64 1) (by omega)) (aO (tN (i+1)) rfl (VRunO.nil ?_)))))))))))
  refine tn ?_
  refine ⟨(i+1:Nat),?_,?_,Wk.mk (fun k=>k) ?_ ?_ ?_⟩
  ·refine QS hI' fhc1 ?_;unfold gOk;omega
  ·omega
  ·exact (b2 (b2 bn))
  ·exact (b3 bn)
  ·exact nd rfl
 refine VRun.exit (vthn.e (vthn.e (vinB.e (tn (sr (fO (OF.assign (VEv.bool true)) (nt (rt (vb (b':=true) rfl ?_)))))))))
 (symm;rw [decide_eq_true_eq];refine ⟨?_,?_,?_,Jc hI' fhc1⟩<;>assumption)
theorem Yi (n:Nat) (g:D.Grid) (hc:g.Cells.size≤maxLen):Pure (Qq Tryz.prog (n+2)) 111 [(T.agg (Qc false g))] (tB (decide (gridOk g))):=by
 refine Pure.intro (rs:= [ResultVar.tmp 2]) Tryz.func111 rfl rfl rfl (E0:= [(0,(T.agg (Qc false g)))]) rfl ?_
 obtain ⟨hlim,hmx,hmax⟩:=QC
 refine sr (kO (B.box (ts:=(Qc false g)) (tv (T.agg (Qc false g)) rfl) nofun rfl) (fO (OF.assign (VEv.bool false)) (nt (sq (sr (lf (tI g.Rows) rfl Qaz rfl rfl QU (cO (cS (vc (tv (tI g.Rows) rfl) (vc (VEv.int .i64 2) (vc (VEv.int .i64 6) vn))) (ZJ rfl) (Q4 (n+0) g.Rows 2 6) rfl rfl) (fO (QW (tv (tB (decide (2≤g.Rows∧g.Rows≤6))) rfl)) (mO (tB (!(decide (2≤g.Rows∧g.Rows≤6)))) rfl ?_)))))))))
 refine gn (2≤g.Rows∧g.Rows≤6) (fun fhg8_1=> ?_) fun fhg8_1=> ?_
 ·refine Qy 4 4 false 8 (ny fhg8_1) rfl rfl rfl ?_
  refine fO (OF.pickT (VEv.tmpB rfl (ny fhg8_1)) (VEv.bool true)) (mO (tB true) rfl (Qy 9 10 false 14 (b:=true) rfl rfl rfl rfl (fO (OF.pickT (tv (tB true) rfl) (VEv.bool true)) (nt (ct rfl (sr (fO (OF.assign (VEv.bool false)) (nt (rt (tr (vb (b':=false) rfl ?_)))))))))))
  (symm;rw [decide_eq_false_iff_not];rintro ⟨g1,g2,g3,g4⟩;omega)
 refine Yl (tI g.Cols) (nz fhg8_1) rfl rfl rfl rfl Zn rfl rfl QU (VRunO.chain (VWant.on rfl rfl (nz fhg8_1)) (cS (vc (tv (tI g.Cols) rfl) (vc (VEv.int .i64 2) (vc (VEv.int .i64 6) vn))) (ZJ rfl) (Q4 (n+0) g.Cols 2 6) rfl rfl) (gF (nz fhg8_1) rfl rfl (QW (tv (tB (decide (2≤g.Cols∧g.Cols≤6))) rfl)) (fO (OF.pickF (VEv.tmpB rfl (nz fhg8_1)) (tv (tB (!(decide (2≤g.Cols∧g.Cols≤6)))) rfl)) (mO (tB (!(decide (2≤g.Cols∧g.Cols≤6)))) rfl ?_))))
 refine gn (2≤g.Cols∧g.Cols≤6) (fun fhg14_2=> ?_) fun fhg14_2=> ?_
 ·refine Qy 9 10 false 14 (ny fhg14_2) rfl rfl rfl ?_
  refine fO (OF.pickT (VEv.tmpB rfl (ny fhg14_2)) (VEv.bool true)) (nt (ct rfl (sr (fO (OF.assign (VEv.bool false)) (nt (rt (tr (vb (b':=false) rfl ?_))))))))
  (symm;rw [decide_eq_false_iff_not];rintro ⟨g1,g2,g3,g4⟩;omega)
 refine Yl (tS g.Cells) (nz fhg14_2) rfl rfl rfl rfl QE rfl rfl Z7 (gL (nz fhg14_2) rfl rfl (B.lenS (tv (tS g.Cells) rfl) U9) (Yl (tI g.Rows) (nz fhg14_2) rfl rfl rfl rfl Qaz rfl rfl QU (Yl (tI g.Cols) (nz fhg14_2) rfl rfl rfl rfl Zn rfl rfl QU (gF (nz fhg14_2) rfl rfl (B.mul (n:=(g.Rows*g.Cols)) (tv (tI g.Rows) rfl) (tv (tI g.Cols) rfl) (by (refine Qnu ?_ ?_ ?_ ?_<;>omega))) (gF (nz fhg14_2) rfl rfl (xne (tv (tN g.Cells.size) rfl) (tv (tI (g.Rows*g.Cols)) rfl)) (fO (OF.pickF (VEv.tmpB rfl (nz fhg14_2)) (tv (tB (!(decide (((g.Cells.size:Nat):Int)=(g.Rows*g.Cols))))) rfl)) (nt ?_)))))))
 refine cn (((g.Cells.size:Nat):Int)=(g.Rows*g.Cols)) rfl (fun fhc0=> ?_) fun fhc0=> ?_
 ·refine sr ?_
  refine fO (OF.assign (VEv.bool false)) (nt (rt (tr (vb (b':=false) rfl ?_))))
  (symm;rw [decide_eq_false_iff_not];rintro ⟨g1,g2,g3,g4⟩;omega)
 refine sk (tn (sq (sr (lf (tS g.Cells) rfl QE rfl rfl Z7 (lO (B.lenS (tv (tS g.Cells) rfl) U9) (fO (OF.move (VEv.int .i64 0)) (nt (VRun.block ?_))))))))
 refine VRun.loop (A:=Nat) (fun s_=> [(1,(T.op 0 0)),(27,(tN g.Cells.size)),(28,(tN s_))]) (fun s_=>Q3 [(0,(Obj.cells (Qc false g)))]) 1 (fun s_=>s_≤g.Cells.size∧∀j,j<s_→gOk g.Cells j) (fun s_=>g.Cells.size - s_) (0:Nat) ?_ (Wk.mk (fun k=>k) ?_ ?_ ?_) ?_
 ·exact ⟨Nat.zero_le _,fun j hj=>by omega⟩
 ·exact (b2 (b2 (b2 bn)))
 ·exact (b3 bn)
 ·exact nd rfl
 rintro i (hI':i≤g.Cells.size∧∀j,j<i→gOk g.Cells j)
 show VRun _ _ _ [(1,(T.op 0 0)),(27,(tN g.Cells.size)),(28,(tN i))] (Q3 [(0,(Obj.cells (Qc false g)))]) 1 _
 have hI1:=hI'.1
 refine sr (fO (Zf (tv (tN i) rfl) (tv (tN g.Cells.size) rfl)) (nt (sq ?_)))
 refine cd (i<g.Cells.size) rfl (fun fhc1=> ?_) fun fhc1=> ?_
 ·refine sk ?_
  refine tn (sq (VRun.block (sr (mO (tN i) rfl (aO (tN i) rfl (nt (sr (lf (tS g.Cells) rfl QE rfl rfl Z7 (mO (tN i) rfl ?_)))))))))
  have hb3:i<g.Cells.size:=(by omega)
  refine fO (JN (tv (tS g.Cells) rfl) (tv (tN i) rfl) hb3 U9) (fO (xne (tv (T.int .u8 (Qu g.Cells i)) rfl) (VEv.int .u8 35)) (mO (tB (!(decide (Qu g.Cells i=35)))) rfl ?_))
  refine gn (Qu g.Cells i=35) (fun fhg36_4=> ?_) fun fhg36_4=> ?_
  ·refine Yl (tS g.Cells) (ny fhg36_4) rfl rfl rfl rfl QE rfl rfl Z7 ?_
   refine gF (ny fhg36_4) rfl rfl (OF.move (tv (tN i) rfl)) ?_
   have hb5:i<g.Cells.size:=(by omega)
   refine gF (ny fhg36_4) rfl rfl (JN (tv (tS g.Cells) rfl) (tv (tN i) rfl) hb5 U9) (gF (ny fhg36_4) rfl rfl (xne (tv (T.int .u8 (Qu g.Cells i)) rfl) (VEv.int .u8 46)) (fO (OF.pickT (VEv.tmpB rfl (ny fhg36_4)) (tv (tB (!(decide (Qu g.Cells i=46)))) rfl)) (nt ?_)))
   refine cn (Qu g.Cells i=46) rfl (fun fhc2=> ?_) fun fhc2=> ?_
   ·refine sr ?_
    refine fO (OF.assign (VEv.bool false)) (nt (rt (vinB.r (tr (tr (vinB.r (tr (vb (b':=false) rfl ?_))))))))
    (symm;rw [decide_eq_false_iff_not];rintro ⟨g1,g2,g3,g4⟩;(have:=g4 i fhc1;unfold gOk at this;omega))
   refine sk (vinB.n (tn (VRun.region (fO (QB (tv (tN i) rfl) (VEv.int .i64 1) (by omega)) (mO (tN (i+1)) rfl (VRunO.nil (tn ?_)))))))
   refine ⟨(i+1:Nat),?_,?_,Wk.mk (fun k=>k) ?_ ?_ ?_⟩
   ·refine QS hI' fhc1 ?_;unfold gOk;omega
   ·omega
   ·exact (b2 (b2 (b2 bn)))
   ·exact (b3 bn)
   ·exact nd rfl
  refine Qy 5 5 true 36 (nz fhg36_4) rfl rfl rfl (fO (OF.pickF (VEv.tmpB rfl (nz fhg36_4)) (VEv.bool false)) (nt (cf rfl (sk (vinB.n (tn (VRun.region (fO (QB (tv (tN i) rfl) (VEv.int .i64 1) (by omega)) (mO (tN (i+1)) rfl (VRunO.nil (tn ?_)))))))))))
  refine ⟨(i+1:Nat),?_,?_,Wk.mk (fun k=>k) ?_ ?_ ?_⟩
  ·refine QS hI' fhc1 ?_;unfold gOk;omega
  ·omega
  ·exact (b2 (b2 (b2 bn)))
  ·exact (b3 bn)
  ·exact nd rfl
 refine VRun.exit (vthn.e (vthn.e (vinB.e (tn (sr (fO (OF.assign (VEv.bool true)) (nt (rt (vb (b':=true) rfl ?_)))))))))
 (symm;rw [decide_eq_true_eq];refine ⟨?_,?_,?_,Jc hI' fhc1⟩<;>assumption)
noncomputable section
def ZH (s:ByteArray):Nat→ByteArray
 | 0=>⟨#[]⟩
 | i+1=>s.extract i (i+1)++ZH s i
def back (s:ByteArray):ByteArray:=if s.size≤100 then ZH s s.size else ⟨#[]⟩
theorem QdY {s:ByteArray}:∀ {i:Nat},i≤s.size→(ZH s i).size=i
 | 0,_=>rfl
 | i+1,h=>by
  simp only [ZH,ByteArray.size_append,ByteArray.size_extract,QdY (show i≤s.size by omega)]
  omega
theorem QhV {s:ByteArray} {i:Nat} (h1:i≤s.size) (h2:s.size≤100∨i=0) (h3:¬i<s.size∨¬s.size≤100):ZH s i=back s:=by
 unfold back
 split
 ·rw [show i=s.size by omega]
 ·rw [show i=0 by omega];rfl
def YF (g:D.Grid):D.Grid:=if gridOk g then D.Grid.mk g.Rows g.Cols (back g.Cells) else D.Grid.mk 0 0 ByteArray.empty
def Qep (g:D.Grid):Prop:=gridOk g∧D.Grid.mk g.Rows g.Cols (back g.Cells)=g
instance (g:D.Grid):Decidable (Qep g):=Classical.propDecidable _
theorem QdQ {g:D.Grid} (h:gridOk g):YF g=g↔Qep g:=by
 unfold YF Qep
 rw [if_pos h]
 exact ⟨fun e=>⟨h,e⟩,fun e=>e.2⟩
end
theorem Qda (n:Nat) (s:ByteArray) (hc:s.size≤maxLen):Pure (Qq Tryz.prog (n+1)) 181 [(tS s)] (tS (back s)):=by
 refine Pure.intro (rs:= [ResultVar.tmp 2]) Tryz.func181 rfl rfl rfl (E0:= [(0,(tS s))]) rfl ?_
 obtain ⟨hlim,hmx,hmax⟩:=QC
 refine sr (fO (OF.assign (VEv.str (⟨#[]⟩:ByteArray))) (nt (sr (fO (OF.assign (VEv.str (⟨#[]⟩:ByteArray))) (nt (sq (sr (fO (OF.assign (VEv.int .i64 0)) (nt (VRun.block ?_))))))))))
 refine VRun.loop (A:=Nat) (fun s_=> [(0,(tS s)),(2,(tS (⟨#[]⟩:ByteArray))),(3,(tS (ZH s s_))),(4,(tN s_))]) (fun s_=>Q3 []) 0 (fun s_=>s_≤s.size∧(s.size≤100∨s_=0)) (fun s_=>s.size - s_) (0:Nat) ?_ (Wk.mk (fun k=>k) ?_ ?_ ?_) ?_
 ·exact ⟨Nat.zero_le _, .inr rfl⟩
 ·exact (b2 (b2 (bc ⟨(congrArg T.str (show (⟨#[]⟩:ByteArray)=ZH s 0 from (by rfl))),rfl⟩ (b2 bn))))
 ·exact bn
 ·exact nd rfl
 rintro i (hI':i≤s.size∧(s.size≤100∨i=0))
 show VRun _ _ _ [(0,(tS s)),(2,(tS (⟨#[]⟩:ByteArray))),(3,(tS (ZH s i))),(4,(tN i))] (Q3 []) 0 _
 have hI1:=hI'.1
 have hbs:=QdY hI1
 refine sq (sr (mO (tN i) rfl (mO (tS s) rfl (lO (B.lenS (tv (tS s) rfl) U9) (fO (Zf (tv (tN i) rfl) (tv (tN s.size) rfl)) (mO (tB (decide (i<s.size))) rfl ?_))))))
 refine gw (i<s.size) (fun fhg9_1=> ?_) fun fhg9_1=> ?_
 ·refine gF (dy fhg9_1) rfl rfl (OF.move (tv (tS s) rfl)) ?_
  refine gL (dy fhg9_1) rfl rfl (B.lenS (tv (tS s) rfl) U9) (gF (dy fhg9_1) rfl rfl (B.leq (c:=(decide (s.size≤100))) (tv (tN s.size) rfl) (VEv.int .i64 100) (by exact Zb (by omega))) (fO (OF.pickT (VEv.tmpB rfl (dy fhg9_1)) (tv (tB (decide (s.size≤100))) rfl)) (nt ?_)))
  refine cd (s.size≤100) rfl (fun fhc0=> ?_) fun fhc0=> ?_
  ·refine sk ?_
   refine tn (sq (VRun.block (VRun.region (mO (tS s) rfl (mO (tN i) rfl (mO (tN i) rfl (fO (QB (tv (tN i) rfl) (VEv.int .i64 1) (by omega)) (lO (OL.sliceS (i:=i) (j:=(i+1)) (tv (tS s) rfl) (tv (tN i) rfl) (tv (tN (i+1)) rfl) rfl rfl (by omega) (by omega) U9) (mO (tS (ZH s i)) rfl (fO (B.sadd (tv (tS (s.extract i (i+1))) rfl) (tv (tS (ZH s i)) rfl) (by (simp only [ByteArray.size_extract];omega))) (aO (tS ((s.extract i (i+1))++ZH s i)) rfl ?_)))))))))))
   refine VRunO.nil (vinB.n (tn (VRun.region (mO (tN i) rfl (fO (QB (tv (tN i) rfl) (VEv.int .i64 1) (by omega)) (aO (tN (i+1)) rfl (VRunO.nil (tn ?_))))))))
   refine ⟨(i+1:Nat),?_,?_,Wk.mk (fun k=>k) ?_ ?_ ?_⟩
   ·exact ⟨by omega, .inl (by omega)⟩
   ·omega
   ·exact (b2 (b2 (bc ⟨(congrArg T.str (show ((s.extract i (i+1))++ZH s i)=ZH s (i+1) from (by rfl))),rfl⟩ (b2 bn))))
   ·exact bn
   ·exact nd rfl
  refine VRun.exit (vthn.e (vthn.e (vinB.e (tn (sr (mO (tS (ZH s i)) rfl (aO (tS (ZH s i)) rfl (nt (rt ?_)))))))))
  refine vfin.eq (r':=(tS (ZH s i))) ?_ (vfin.r (VRes.tmp (t:=(tS (ZH s i))) rfl VRes.nil) (Give.str _))
  show (tS (ZH s i))=(tS (back s))
  refine congrArg T.str ?_
  refine QhV hI1 hI'.2 ?_;omega
 refine Qy 3 4 true 9 (dz fhg9_1) rfl rfl rfl (fO (OF.pickF (VEv.tmpB rfl (dz fhg9_1)) (VEv.bool false)) (nt (cf rfl (VRun.exit (vthn.e (vthn.e (vinB.e (tn (sr (mO (tS (ZH s i)) rfl (aO (tS (ZH s i)) rfl ?_)))))))))))
 refine nt (rt ?_)
 refine vfin.eq (r':=(tS (ZH s i))) ?_ (vfin.r (VRes.tmp (t:=(tS (ZH s i))) rfl VRes.nil) (Give.str _))
 show (tS (ZH s i))=(tS (back s))
 refine congrArg T.str ?_
 refine QhV hI1 hI'.2 ?_;omega
theorem Qed (n:Nat) (g:D.Grid) (hc:g.Cells.size≤maxLen):Pure (Qq Tryz.prog (n+3)) 156 [(T.agg (Qc false g))] (T.agg (Qc true (YF g))):=by
 refine Pure.intro (rs:= [ResultVar.cell 2 34]) Tryz.func156 rfl rfl rfl (E0:= [(0,(T.agg (Qc false g)))]) rfl ?_
 obtain ⟨hlim,hmx,hmax⟩:=QC
 refine sr (kO (B.box (ts:=(Qc false g)) (tv (T.agg (Qc false g)) rfl) nofun rfl) (kO (B.alloc (t:=(T.agg [(tN 0),(tN 0),(tS ByteArray.empty)])) (ts:= [(tN 0),(tN 0),(tS ByteArray.empty)]) QjR QlR nofun (fun _=> .agg _ _ rfl (Yg (RL.cons (.int _ _) (RL.cons (.int _ _) (RL.cons (.str _) (RL.nil _)))))) rfl) (nt (sq (sr (lO (OL.loadOn (us:=(Qc false g)) (tv (T.op 0 0) rfl) rfl QX QT (lb rfl) rfl) (cO (cS (vc (tv (T.agg (Qc false g)) rfl) vn) (LendL.cons (lg Qs) ln) (ZZ (n+0) g (by assumption)) rfl rfl) (fO (QW (tv (tB (decide (gridOk g))) rfl)) (nt ?_)))))))))
 refine cn (gridOk g) rfl (fun fhc0=> ?_) fun fhc0=> ?_
 ·refine sr ?_
  refine fO (OF.build (l:= []) (zs:= [(tN 0),(tN 0),(tS ByteArray.empty)]) (out:= [(tN 0),(tN 0),(tS ByteArray.empty)]) VEvp.nil bn Tryz.underlying34 QjR (fun _=>RL.cons (.int _ _) (RL.cons (.int _ _) (RL.cons (.str _) (RL.nil _)))) (by kernel_rfl) (by kernel_rfl)) (cO (B.storeO (us:= [(tN 0),(tN 0),(tS ByteArray.empty)]) (ws:= [(tN 0),(tN 0),(tS ByteArray.empty)]) (tv (T.op 1 0) rfl) (tv (T.agg [(tN 0),(tN 0),(tS ByteArray.empty)]) rfl) nofun rfl rfl (lb rfl) Qii QT (bc rfl (bc rfl (bc rfl bn))) rfl) (nt (rt (tr ?_))))
  refine vfin.eq (r':=(T.agg [(tN 0),(tN 0),(tS ByteArray.empty)])) ?_ (vfin.r (VRes.celln (ws:= [(tN 0),(tN 0),(tS ByteArray.empty)]) rfl rfl QX QT (lb rfl) rfl VRes.nil) (Give.agg (GiveL.cons (Give.int _ _) (GiveL.cons (Give.int _ _) (GiveL.cons (Give.str _) GiveL.nil (by decide)) (by decide)) (by decide))))
  show (T.agg [(tN 0),(tN 0),(tS ByteArray.empty)])=(T.agg (Qc true (YF g)))
  (rw [YF,if_neg fhc0];rfl)
 refine sk (tn (sr (lf (tS g.Cells) rfl QE rfl rfl Z7 (cO (cS (vc (tv (tS g.Cells) rfl) vn) (ZJ rfl) (Qda (n+1) g.Cells (by assumption)) rfl rfl) (fO (OF.fieldAddrO (tv (T.op 0 0) rfl) QE) (cO (B.storeO (us:= [(tS (back g.Cells))]) (ws:= [(tI g.Rows),(tI g.Cols),(tS (back g.Cells))]) (tv (T.op 0 2) rfl) (tv (tS (back g.Cells)) rfl) nofun rfl rfl (lb rfl) if9 sz9 (bc rfl bn) rfl) (nt (sr (lO (OL.loadOn (us:= [(tI g.Rows),(tI g.Cols),(tS (back g.Cells))]) (tv (T.op 0 0) rfl) rfl QX QT (lb rfl) rfl) (cO (B.storeO (us:= [(tI g.Rows),(tI g.Cols),(tS (back g.Cells))]) (ws:= [(tI g.Rows),(tI g.Cols),(tS (back g.Cells))]) (tv (T.op 1 0) rfl) (tv (T.agg [(tI g.Rows),(tI g.Cols),(tS (back g.Cells))]) rfl) nofun rfl rfl (lb rfl) Qii QT (bc rfl (bc rfl (bc rfl bn))) rfl) (nt ?_)))))))))))
 refine rt ?_
 refine vfin.eq (r':=(T.agg [(tI g.Rows),(tI g.Cols),(tS (back g.Cells))])) ?_ (vfin.r (VRes.celln (ws:= [(tI g.Rows),(tI g.Cols),(tS (back g.Cells))]) rfl rfl QX QT (lb rfl) rfl VRes.nil) (Give.agg (GiveL.cons (Give.int _ _) (GiveL.cons (Give.int _ _) (GiveL.cons (Give.str _) GiveL.nil (by decide)) (by decide)) (by decide))))
 show (T.agg [(tI g.Rows),(tI g.Cols),(tS (back g.Cells))])=(T.agg (Qc true (YF g)))
 (rw [YF,if_pos fhc0];rfl)
theorem Qcf (n:Nat) (g:D.Grid) (hc:g.Cells.size≤maxLen):Pure (Qq Tryz.prog (n+4)) 132 [(T.agg (Qc false g))] (tB (decide (Qep g))):=by
 refine Pure.intro (rs:= [ResultVar.tmp 2]) Tryz.func132 rfl rfl rfl (E0:= [(0,(T.agg (Qc false g)))]) rfl ?_
 obtain ⟨hlim,hmx,hmax⟩:=QC
 refine sr (kO (B.box (ts:=(Qc false g)) (tv (T.agg (Qc false g)) rfl) nofun rfl) (fO (OF.assign (VEv.bool false)) (nt (sq (VRun.draw (B:= [[],[0],[0,1],[1,0,2],[2,0,1,3],[1,0,2],[5,3,1,0,2,4],[4,3,5,6,1,0,2],[2,0,1,6,5,3,4,7]]) (by kernel_rfl) (by kernel_rfl) (lD (OL.loadOn (us:=(Qc false g)) (tv (T.op 0 0) rfl) rfl QX QT (lb rfl) rfl) rfl rfl (VRunD.quiet (bi:= [0]) rfl VWant.always rfl rfl rfl bn (cS (vc (tv (T.agg (Qc false g)) rfl) vn) (LendL.cons (lg Qs) ln) (ZZ (n+1) g (by assumption)) rfl rfl) (mD (tB (decide (gridOk g))) rfl rfl ?_))))))))
 refine gw (gridOk g) (fun fhg5_1=> ?_) fun fhg5_1=> ?_
 ·refine VRunD.look rfl (VWant.on rfl rfl (dy fhg5_1)) rfl (OL.loadOn (us:=(Qc false g)) (tv (T.op 0 0) rfl) rfl QX QT (lb rfl) rfl) ?_
  refine VRunD.quiet (bi:= [2,0,1,3]) rfl (VWant.on rfl rfl (dy fhg5_1)) rfl rfl rfl bn (cS (vc (tv (T.agg (Qc false g)) rfl) vn) (LendL.cons (lg Qs) ln) (Qed (n+0) g (by assumption)) rfl rfl) (VRunD.look rfl (VWant.on rfl rfl (dy fhg5_1)) rfl (OL.loadOn (us:=(Qc false g)) (tv (T.op 0 0) rfl) rfl QX QT (lb rfl) rfl) (VRunD.free rfl (VWant.on rfl rfl (dy fhg5_1)) rfl (B.eql34 (a:=YF g) (b:=g) (m:=true) (m':=false) (tv (T.agg (Qc true (YF g))) rfl) (tv (T.agg (Qc false g)) rfl)) (fD (OF.pickT (VEv.tmpB rfl (dy fhg5_1)) (tv (tB (decide (YF g=g))) rfl)) rfl rfl (fD (OF.assign (tv (tB (decide (YF g=g))) rfl)) rfl rfl (VRunD.nil (tn (rt (vb (b':=(decide (YF g=g))) rfl ?_))))))))
  (refine Zb ?_;refine QdQ ?_;assumption)
 refine oD rfl rfl (dz fhg5_1) rfl (oD rfl rfl (dz fhg5_1) rfl (oD rfl rfl (dz fhg5_1) rfl (oD rfl rfl (dz fhg5_1) rfl (fD (OF.pickF (VEv.tmpB rfl (dz fhg5_1)) (VEv.bool false)) rfl rfl (fD (OF.assign (tv (tB false) rfl)) rfl rfl (VRunD.nil (tn (rt (vb (b':=false) rfl ?_)))))))))
 (symm;rw [decide_eq_false_iff_not];intro h;have:=h.1;contradiction)
noncomputable section
theorem ZV (l:List Int):(Yc l).data.toList=l.map fun n=>UInt8.ofNat n.toNat:=by
 have h:∀(l:List Int) (r:ByteArray),(l.foldl (fun r n=>r.push (UInt8.ofNat n.toNat)) r).data.toList=r.data.toList++l.map fun n=>UInt8.ofNat n.toNat:=by
  intro l
  induction l with
  | nil=>intro r;simp
  | cons n l ih=>intro r;rw [List.foldl_cons,ih];simp [ByteArray.push]
 simpa [Yc] using h l ByteArray.empty
theorem QbE {a b:ByteArray} (h:a.data.toList=b.data.toList):a=b:=by
 cases a;cases b
 simp only at h
 congr 1
 exact Array.toList_inj.1 h
theorem QkW (s:ByteArray):(ZN s).map (fun n=>UInt8.ofNat n.toNat)=s.data.toList:=by
 simp [ZN,Function.comp_def]
theorem Qd6 {s:ByteArray}:∀ {i:Nat},i≤s.size→(ZH s i).data.toList=(s.data.toList.take i).reverse
 | 0,_=>rfl
 | i+1,h=>by
  have hi:i<s.data.toList.length:=by rw [Array.length_toList];exact h
  rw [ZH,ByteArray.data_append,Array.toList_append,Qd6 (show i≤s.size by omega),List.take_add_one,List.getElem?_eq_getElem hi,List.reverse_append]
  congr 1
  rw [ByteArray.data_extract,Array.toList_extract,List.extract_eq_take_drop]
  simp [List.drop_eq_getElem_cons hi]
theorem QkK {s:ByteArray} (h:s.size≤100):Yc (ZN s).reverse=back s:=by
 unfold back
 rw [if_pos h]
 refine QbE ?_
 rw [ZV,List.map_reverse,QkW,Qd6 (Nat.le_refl _),List.take_of_length_le (by rw [Array.length_toList];exact Nat.le_refl _)]
theorem Qks {s:ByteArray} (h:100<s.size):back s=⟨#[]⟩:=by
 unfold back
 rw [if_neg (by omega)]
end
theorem QdH (n:Nat) (s:ByteArray) (hc:s.size≤maxLen):Pure (Qq Tryz.prog (n+2)) 184 [(tS s)] (tS (back s)):=by
 refine Pure.intro (rs:= [ResultVar.tmp 2]) Tryz.func184 rfl rfl rfl (E0:= [(0,(tS s))]) rfl ?_
 obtain ⟨hlim,hmx,hmax⟩:=QC
 refine sr (fO (OF.assign (VEv.str (⟨#[]⟩:ByteArray))) (nt (sq (sr (mO (tS s) rfl (lO (B.lenS (tv (tS s) rfl) U9) (fO (B.gtr (c:=(decide (100<s.size))) (tv (tN s.size) rfl) (VEv.int .i64 100) (by exact Zb (by omega))) (nt ?_))))))))
 refine cd (100<s.size) rfl (fun fhc0=> ?_) fun fhc0=> ?_
 ·refine sr ?_
  refine fO (OF.assign (VEv.str (⟨#[]⟩:ByteArray))) (nt (rt (tr ?_)))
  refine vfin.eq (r':=(tS (⟨#[]⟩:ByteArray))) ?_ (vfin.r (VRes.tmp (t:=(tS (⟨#[]⟩:ByteArray))) rfl VRes.nil) (Give.str _))
  show (tS (⟨#[]⟩:ByteArray))=(tS (back s))
  refine congrArg T.str ?_
  exact (Qks fhc0).symm
 refine sk (tn (sr (mO (tS s) rfl (kO (B.convSB (tv (tS s) rfl) U9 QdI U5) (aO (T.os 1 0 0 (((ZN s).map (QR true)).length)) rfl (nt (sr (mO (T.os 1 0 0 (((ZN s).map (QR true)).length)) rfl (cO (OC.callMut (rows:=((ZN s).map (QR true))) (rows':=(((ZN s).reverse).map (QR true))) rfl (vc (tv (T.os 1 0 0 (((ZN s).map (QR true)).length)) rfl) vn) rfl rfl bn (Zw (fun _=>rfl) _) (Zw (fun _=>rfl) _) (JH (n+0) (ZN s) (by (rw [QaX];omega)))) (nt (sr ?_)))))))))))
 refine mO (T.os 1 0 0 (((ZN s).map (QR true)).length)) rfl (lO (B.convBS (l:=(ZN s).reverse) (tv (T.os 1 0 0 (((ZN s).map (QR true)).length)) rfl) rfl (by simp only [List.length_map,List.length_reverse,List.length_set]) QdI U5 U9) (aO (tS (Yc ((ZN s).reverse))) rfl (nt (rt ?_))))
 refine vfin.eq (r':=(tS (Yc ((ZN s).reverse)))) ?_ (vfin.r (VRes.tmp (t:=(tS (Yc ((ZN s).reverse)))) rfl VRes.nil) (Give.str _))
 show (tS (Yc ((ZN s).reverse)))=(tS (back s))
 refine congrArg T.str ?_
 refine QkK ?_;omega
theorem Qeo (n:Nat) (g:D.Grid) (hc:g.Cells.size≤maxLen):Pure (Qq Tryz.prog (n+3)) 160 [(T.agg (Qc false g))] (T.agg (Qc true (YF g))):=by
 refine Pure.intro (rs:= [ResultVar.cell 2 34]) Tryz.func160 rfl rfl rfl (E0:= [(0,(T.agg (Qc false g)))]) rfl ?_
 obtain ⟨hlim,hmx,hmax⟩:=QC
 refine sr (kO (B.box (ts:=(Qc false g)) (tv (T.agg (Qc false g)) rfl) nofun rfl) (kO (B.alloc (t:=(T.agg [(tN 0),(tN 0),(tS ByteArray.empty)])) (ts:= [(tN 0),(tN 0),(tS ByteArray.empty)]) QjR QlR nofun (fun _=> .agg _ _ rfl (Yg (RL.cons (.int _ _) (RL.cons (.int _ _) (RL.cons (.str _) (RL.nil _)))))) rfl) (nt (sq (sr (lO (OL.loadOn (us:=(Qc false g)) (tv (T.op 0 0) rfl) rfl QX QT (lb rfl) rfl) (cO (cS (vc (tv (T.agg (Qc false g)) rfl) vn) (LendL.cons (lg Qs) ln) (Yi (n+0) g (by assumption)) rfl rfl) (fO (QW (tv (tB (decide (gridOk g))) rfl)) (nt ?_)))))))))
 refine cn (gridOk g) rfl (fun fhc0=> ?_) fun fhc0=> ?_
 ·refine sr ?_
  refine fO (OF.build (l:= []) (zs:= [(tN 0),(tN 0),(tS ByteArray.empty)]) (out:= [(tN 0),(tN 0),(tS ByteArray.empty)]) VEvp.nil bn Tryz.underlying34 QjR (fun _=>RL.cons (.int _ _) (RL.cons (.int _ _) (RL.cons (.str _) (RL.nil _)))) (by kernel_rfl) (by kernel_rfl)) (cO (B.storeO (us:= [(tN 0),(tN 0),(tS ByteArray.empty)]) (ws:= [(tN 0),(tN 0),(tS ByteArray.empty)]) (tv (T.op 1 0) rfl) (tv (T.agg [(tN 0),(tN 0),(tS ByteArray.empty)]) rfl) nofun rfl rfl (lb rfl) Qii QT (bc rfl (bc rfl (bc rfl bn))) rfl) (nt (rt (tr ?_))))
  refine vfin.eq (r':=(T.agg [(tN 0),(tN 0),(tS ByteArray.empty)])) ?_ (vfin.r (VRes.celln (ws:= [(tN 0),(tN 0),(tS ByteArray.empty)]) rfl rfl QX QT (lb rfl) rfl VRes.nil) (Give.agg (GiveL.cons (Give.int _ _) (GiveL.cons (Give.int _ _) (GiveL.cons (Give.str _) GiveL.nil (by decide)) (by decide)) (by decide))))
  show (T.agg [(tN 0),(tN 0),(tS ByteArray.empty)])=(T.agg (Qc true (YF g)))
  (rw [YF,if_neg fhc0];rfl)
 refine sk (tn (sr (lf (tS g.Cells) rfl QE rfl rfl Z7 (cO (cS (vc (tv (tS g.Cells) rfl) vn) (ZJ rfl) (QdH (n+0) g.Cells (by assumption)) rfl rfl) (fO (OF.fieldAddrO (tv (T.op 0 0) rfl) QE) (cO (B.storeO (us:= [(tS (back g.Cells))]) (ws:= [(tI g.Rows),(tI g.Cols),(tS (back g.Cells))]) (tv (T.op 0 2) rfl) (tv (tS (back g.Cells)) rfl) nofun rfl rfl (lb rfl) if9 sz9 (bc rfl bn) rfl) (nt (sr (lO (OL.loadOn (us:= [(tI g.Rows),(tI g.Cols),(tS (back g.Cells))]) (tv (T.op 0 0) rfl) rfl QX QT (lb rfl) rfl) (cO (B.storeO (us:= [(tI g.Rows),(tI g.Cols),(tS (back g.Cells))]) (ws:= [(tI g.Rows),(tI g.Cols),(tS (back g.Cells))]) (tv (T.op 1 0) rfl) (tv (T.agg [(tI g.Rows),(tI g.Cols),(tS (back g.Cells))]) rfl) nofun rfl rfl (lb rfl) Qii QT (bc rfl (bc rfl (bc rfl bn))) rfl) (nt ?_)))))))))))
 refine rt ?_
 refine vfin.eq (r':=(T.agg [(tI g.Rows),(tI g.Cols),(tS (back g.Cells))])) ?_ (vfin.r (VRes.celln (ws:= [(tI g.Rows),(tI g.Cols),(tS (back g.Cells))]) rfl rfl QX QT (lb rfl) rfl VRes.nil) (Give.agg (GiveL.cons (Give.int _ _) (GiveL.cons (Give.int _ _) (GiveL.cons (Give.str _) GiveL.nil (by decide)) (by decide)) (by decide))))
 show (T.agg [(tI g.Rows),(tI g.Cols),(tS (back g.Cells))])=(T.agg (Qc true (YF g)))
 (rw [YF,if_pos fhc0];rfl)
theorem Qck (n:Nat) (g:D.Grid) (hc:g.Cells.size≤maxLen):Pure (Qq Tryz.prog (n+4)) 136 [(T.agg (Qc false g))] (tB (decide (Qep g))):=by
 refine Pure.intro (rs:= [ResultVar.tmp 2]) Tryz.func136 rfl rfl rfl (E0:= [(0,(T.agg (Qc false g)))]) rfl ?_
 obtain ⟨hlim,hmx,hmax⟩:=QC
 refine sr (kO (B.box (ts:=(Qc false g)) (tv (T.agg (Qc false g)) rfl) nofun rfl) (fO (OF.assign (VEv.bool false)) (nt (sq (VRun.draw (B:= [[],[0],[0,1],[1,0,2],[1,0,2],[2,0,1,4],[4,5,2,0,1,3],[3,5,4,6,1,0,2],[2,0,1,6,4,5,3,7]]) (by kernel_rfl) (by kernel_rfl) (lD (OL.loadOn (us:=(Qc false g)) (tv (T.op 0 0) rfl) rfl QX QT (lb rfl) rfl) rfl rfl (VRunD.quiet (bi:= [0]) rfl VWant.always rfl rfl rfl bn (cS (vc (tv (T.agg (Qc false g)) rfl) vn) (LendL.cons (lg Qs) ln) (Yi (n+1) g (by assumption)) rfl rfl) (mD (tB (decide (gridOk g))) rfl rfl ?_))))))))
 refine gw (gridOk g) (fun fhg5_1=> ?_) fun fhg5_1=> ?_
 ·refine VRunD.look rfl (VWant.on rfl rfl (dy fhg5_1)) rfl (OL.loadOn (us:=(Qc false g)) (tv (T.op 0 0) rfl) rfl QX QT (lb rfl) rfl) ?_
  refine VRunD.look rfl (VWant.on rfl rfl (dy fhg5_1)) rfl (OL.loadOn (us:=(Qc false g)) (tv (T.op 0 0) rfl) rfl QX QT (lb rfl) rfl) (VRunD.quiet (bi:= [2,0,1,4]) rfl (VWant.on rfl rfl (dy fhg5_1)) rfl rfl rfl bn (cS (vc (tv (T.agg (Qc false g)) rfl) vn) (LendL.cons (lg Qs) ln) (Qeo (n+0) g (by assumption)) rfl rfl) (VRunD.free rfl (VWant.on rfl rfl (dy fhg5_1)) rfl (B.eql34 (a:=g) (b:=YF g) (m:=false) (m':=true) (tv (T.agg (Qc false g)) rfl) (tv (T.agg (Qc true (YF g))) rfl)) (fD (OF.pickT (VEv.tmpB rfl (dy fhg5_1)) (tv (tB (decide (g=YF g))) rfl)) rfl rfl (fD (OF.assign (tv (tB (decide (g=YF g))) rfl)) rfl rfl (VRunD.nil (tn (rt (vb (b':=(decide (g=YF g))) rfl ?_))))))))
  (refine Zb ⟨fun e=> ?_,fun e=> ?_⟩<;>first | exact (QdQ ‹_›).1 e.symm | exact ((QdQ ‹_›).2 e).symm)
 refine oD rfl rfl (dz fhg5_1) rfl (oD rfl rfl (dz fhg5_1) rfl (oD rfl rfl (dz fhg5_1) rfl (oD rfl rfl (dz fhg5_1) rfl (fD (OF.pickF (VEv.tmpB rfl (dz fhg5_1)) (VEv.bool false)) rfl rfl (fD (OF.assign (tv (tB false) rfl)) rfl rfl (VRunD.nil (tn (rt (vb (b':=false) rfl ?_)))))))))
 (symm;rw [decide_eq_false_iff_not];intro h;have:=h.1;contradiction)
end Go.Proofs.YtcccmceoplcciaaGreat.AE
namespace Go.Proofs.YtcccmceoplcciaaGreat.AE
open Go Go.RowKit
set_option linter.unusedVariables false
set_option linter.unusedSimpArgs false
set_option maxRecDepth 20000
set_option maxHeartbeats 2000000
noncomputable section
def ZI (c f:Int):Prop:=(c=35→f=35)∧(c=46→f=63∨(97≤f∧f≤122))
def QI (g:D.Grid) (f:ByteArray):Prop:=gridOk g∧f.size=g.Cells.size∧∀j,j<f.size→ZI (Qu g.Cells j) (Qu f j)
instance (g:D.Grid) (f:ByteArray):Decidable (QI g f):=Classical.propDecidable _
theorem Qkk (p q:Prop) [Decidable p] [Decidable q]:(!(decide p == decide q))=decide (¬(p↔q)):=by
 by_cases hp:p<;>by_cases hq:q<;>simp [hp,hq]
end
theorem Qaw (n:Nat) (g:D.Grid) (f:ByteArray) (hc:g.Cells.size≤maxLen) (hf:f.size≤maxLen):Pure (Qq Tryz.prog (n+3)) 58 [(T.agg (Qc false g)),(tS f)] (tB (decide (QI g f))):=by
 refine Pure.intro (rs:= [ResultVar.tmp 4]) Tryz.func58 rfl rfl rfl (E0:= [(0,(T.agg (Qc false g))),(1,(tS f))]) rfl ?_
 obtain ⟨hlim,hmx,hmax⟩:=QC
 refine sr (kO (B.box (ts:=(Qc false g)) (tv (T.agg (Qc false g)) rfl) nofun rfl) (fO (OF.assign (VEv.bool false)) (nt (sq (sr (lO (OL.loadOn (us:=(Qc false g)) (tv (T.op 0 0) rfl) rfl QX QT (lb rfl) rfl) (cO (cS (vc (tv (T.agg (Qc false g)) rfl) vn) (LendL.cons (lg Qs) ln) (ZZ (n+0) g (by assumption)) rfl rfl) (fO (QW (tv (tB (decide (gridOk g))) rfl)) (mO (tB (!(decide (gridOk g)))) rfl ?_)))))))))
 refine gn (gridOk g) (fun fhg10_1=> ?_) fun fhg10_1=> ?_
 ·refine Qy 6 3 false 10 (ny fhg10_1) rfl rfl rfl ?_
  refine fO (OF.pickT (VEv.tmpB rfl (ny fhg10_1)) (VEv.bool true)) (nt (ct rfl (sr (fO (OF.assign (VEv.bool false)) (nt (rt (tr (vb (b':=false) rfl ?_))))))))
  (symm;rw [decide_eq_false_iff_not];rintro ⟨g1,g2,g3⟩;contradiction)
 refine gF (nz fhg10_1) rfl rfl (OF.move (tv (tS f) rfl)) (gL (nz fhg10_1) rfl rfl (B.lenS (tv (tS f) rfl) U9) (Yl (tS g.Cells) (nz fhg10_1) rfl rfl rfl rfl QE rfl rfl Z7 (gL (nz fhg10_1) rfl rfl (B.lenS (tv (tS g.Cells) rfl) U9) (gF (nz fhg10_1) rfl rfl (Qia (tv (tN f.size) rfl) (tv (tN g.Cells.size) rfl)) (fO (OF.pickF (VEv.tmpB rfl (nz fhg10_1)) (tv (tB (!(decide (f.size=g.Cells.size)))) rfl)) (nt ?_))))))
 refine cn (f.size=g.Cells.size) rfl (fun fhc0=> ?_) fun fhc0=> ?_
 ·refine sr ?_
  refine fO (OF.assign (VEv.bool false)) (nt (rt (tr (vb (b':=false) rfl ?_))))
  (symm;rw [decide_eq_false_iff_not];rintro ⟨g1,g2,g3⟩;contradiction)
 refine sk (tn (sq (sr (fO (OF.assign (VEv.int .i64 0)) (nt (VRun.block ?_))))))
 refine VRun.loop (A:=Nat) (fun s_=> [(1,(tS f)),(2,(T.op 0 0)),(5,(tN s_))]) (fun s_=>Q3 [(0,(Obj.cells (Qc false g)))]) 1 (fun s_=>s_≤f.size∧∀j,j<s_→ZI (Qu g.Cells j) (Qu f j)) (fun s_=>f.size - s_) (0:Nat) ?_ (Wk.mk (fun k=>k) ?_ ?_ ?_) ?_
 ·exact ⟨Nat.zero_le _,fun j hj=>by omega⟩
 ·exact (b2 (b2 (b2 bn)))
 ·exact (b3 bn)
 ·exact nd rfl
 rintro i (hI':i≤f.size∧∀j,j<i→ZI (Qu g.Cells j) (Qu f j))
 show VRun _ _ _ [(1,(tS f)),(2,(T.op 0 0)),(5,(tN i))] (Q3 [(0,(Obj.cells (Qc false g)))]) 1 _
 have hI1:=hI'.1
 have hgo:gridOk g:=by assumption
 refine sq (sr (mO (tN i) rfl (mO (tS f) rfl (lO (B.lenS (tv (tS f) rfl) U9) (fO (Zf (tv (tN i) rfl) (tv (tN f.size) rfl)) (nt ?_))))))
 refine cd (i<f.size) rfl (fun fhc1=> ?_) fun fhc1=> ?_
 ·have hgi:=hgo.2.2.2 i (by omega)
  unfold gOk at hgi
  refine sk (tn (sq (VRun.block (sr (mO (tS f) rfl (mO (tN i) rfl ?_))))))
  have hb2:i<f.size:=(by omega)
  refine fO (JN (tv (tS f) rfl) (tv (tN i) rfl) hb2 U9) (fO (Y7 (tv (T.int .u8 (Qu f i)) rfl) (VEv.int .u8 63)) (mO (tB (decide (Qu f i=63))) rfl ?_))
  refine gw (Qu f i=63) (fun fhg28_3=> ?_) fun fhg28_3=> ?_
  ·refine Qy 5 4 false 28 (dy fhg28_3) rfl rfl rfl ?_
   refine Qac 4 9 true 33 rfl rfl rfl (oO rfl rfl (dy fhg28_3) (fO (OF.pickT (VEv.tmpB rfl (dy fhg28_3)) (VEv.bool true)) (aO (tB true) rfl (nt (sr (lf (tS g.Cells) rfl QE rfl rfl Z7 (mO (tN i) rfl ?_)))))))
   have hb4:i<g.Cells.size:=(by omega)
   refine fO (JN (tv (tS g.Cells) rfl) (tv (tN i) rfl) hb4 U9) (fO (Y7 (tv (T.int .u8 (Qu g.Cells i)) rfl) (VEv.int .u8 35)) (mO (tB (decide (Qu g.Cells i=35))) rfl ?_))
   refine gw (Qu g.Cells i=35) (fun fhg45_5=> ?_) fun fhg45_5=> ?_
   ·refine gF (dy fhg45_5) rfl rfl (OF.move (tv (tS f) rfl)) ?_
    refine gF (dy fhg45_5) rfl rfl (OF.move (tv (tN i) rfl)) ?_
    have hb6:i<f.size:=(by omega)
    refine gF (dy fhg45_5) rfl rfl (JN (tv (tS f) rfl) (tv (tN i) rfl) hb6 U9) (gF (dy fhg45_5) rfl rfl (xne (tv (T.int .u8 (Qu f i)) rfl) (VEv.int .u8 35)) (fO (OF.pickT (VEv.tmpB rfl (dy fhg45_5)) (tv (tB (!(decide (Qu f i=35)))) rfl)) (mO (tB (!(decide (Qu f i=35)))) rfl ?_)))
    refine gn (Qu f i=35) (fun fhg51_7=> ?_) fun fhg51_7=> ?_
    ·refine Qy 6 11 false 51 (ny fhg51_7) rfl rfl rfl ?_
     refine Qac 2 17 true 57 rfl rfl rfl (oO rfl rfl (ny fhg51_7) (fO (OF.pickT (VEv.tmpB rfl (ny fhg51_7)) (VEv.bool true)) (nt (ct rfl (sr (fO (OF.assign (VEv.bool false)) (nt (rt (vinB.r (tr (tr ?_)))))))))))
     refine vinB.r (tr (vb (b':=false) rfl ?_))
     (symm;rw [decide_eq_false_iff_not];rintro ⟨g1,g2,g3⟩;(have g4:=g3 i fhc1;unfold ZI at g4;omega))
    refine Yl (tS g.Cells) (nz fhg51_7) rfl rfl rfl rfl QE rfl rfl Z7 (gF (nz fhg51_7) rfl rfl (OF.move (tv (tN i) rfl)) ?_)
    have hb8:i<g.Cells.size:=(by omega)
    refine gF (nz fhg51_7) rfl rfl (JN (tv (tS g.Cells) rfl) (tv (tN i) rfl) hb8 U9) (gF (nz fhg51_7) rfl rfl (Y7 (tv (T.int .u8 (Qu g.Cells i)) rfl) (VEv.int .u8 46)) (gF (nz fhg51_7) rfl rfl (OF.move (tv (tB (decide (Qu g.Cells i=46))) rfl)) ?_))
    refine gw (Qu g.Cells i=46) (fun fhg57_9=> ?_) fun fhg57_9=> ?_
    ·refine gF (dy fhg57_9) rfl rfl (OF.move (tv (tB true) rfl)) ?_
     refine gF (dy fhg57_9) rfl rfl (B.not (c:=false) (tv (tB true) rfl) rfl) (gF (nz fhg51_7) rfl rfl (OF.pickT (VEv.tmpB rfl (dy fhg57_9)) (tv (tB false) rfl)) (fO (OF.pickF (VEv.tmpB rfl (nz fhg51_7)) (tv (tB false) rfl)) (nt (cf rfl (sk (vinB.n (tn (VRun.region (mO (tN i) rfl (fO (QB (tv (tN i) rfl) (VEv.int .i64 1) (by omega)) (aO (tN (i+1)) rfl ?_)))))))))))
     refine VRunO.nil (tn ?_)
     refine ⟨(i+1:Nat),?_,?_,Wk.mk (fun k=>k) ?_ ?_ ?_⟩
     ·refine QS hI' fhc1 ?_;unfold ZI;omega
     ·omega
     ·exact (b2 (b2 (b2 bn)))
     ·exact (b3 bn)
     ·exact nd rfl
    refine Qy 2 17 true 57 (dz fhg57_9) rfl rfl rfl (gF (nz fhg51_7) rfl rfl (OF.pickF (VEv.tmpB rfl (dz fhg57_9)) (VEv.bool false)) (fO (OF.pickF (VEv.tmpB rfl (nz fhg51_7)) (tv (tB false) rfl)) (nt (cf rfl (sk (vinB.n (tn (VRun.region (mO (tN i) rfl (fO (QB (tv (tN i) rfl) (VEv.int .i64 1) (by omega)) (aO (tN (i+1)) rfl ?_)))))))))))
    refine VRunO.nil (tn ?_)
    refine ⟨(i+1:Nat),?_,?_,Wk.mk (fun k=>k) ?_ ?_ ?_⟩
    ·refine QS hI' fhc1 ?_;unfold ZI;omega
    ·omega
    ·exact (b2 (b2 (b2 bn)))
    ·exact (b3 bn)
    ·exact nd rfl
   refine Qy 4 5 true 45 (dz fhg45_5) rfl rfl rfl (fO (OF.pickF (VEv.tmpB rfl (dz fhg45_5)) (VEv.bool false)) (mO (tB false) rfl (VRunO.free (VWant.on (b:=false) rfl rfl rfl) (OF.fieldAddrO (tv (T.op 0 0) rfl) QE) (VRunO.look (VWant.on (b:=false) rfl rfl rfl) (OL.loadO1 (t:=(tS g.Cells)) (tv (T.op 0 2) rfl) rfl rfl Z7) (VRunO.free (VWant.on (b:=false) rfl rfl rfl) (OF.move (tv (tN i) rfl)) ?_)))))
   have hb10:i<g.Cells.size:=(by omega)
   refine VRunO.free (VWant.on (b:=false) rfl rfl rfl) (JN (tv (tS g.Cells) rfl) (tv (tN i) rfl) hb10 U9) (VRunO.free (VWant.on (b:=false) rfl rfl rfl) (Y7 (tv (T.int .u8 (Qu g.Cells i)) rfl) (VEv.int .u8 46)) (VRunO.free (VWant.on (b:=false) rfl rfl rfl) (OF.move (tv (tB (decide (Qu g.Cells i=46))) rfl)) ?_))
   refine gw (Qu g.Cells i=46) (fun fhg57_11=> ?_) fun fhg57_11=> ?_
   ·refine gF (dy fhg57_11) rfl rfl (OF.move (tv (tB true) rfl)) ?_
    refine gF (dy fhg57_11) rfl rfl (B.not (c:=false) (tv (tB true) rfl) rfl) (VRunO.free (VWant.on (b:=false) rfl rfl rfl) (OF.pickT (VEv.tmpB rfl (dy fhg57_11)) (tv (tB false) rfl)) (fO (OF.pickF (tv (tB false) rfl) (tv (tB false) rfl)) (nt (cf rfl (sk (vinB.n (tn (VRun.region (mO (tN i) rfl (fO (QB (tv (tN i) rfl) (VEv.int .i64 1) (by omega)) (aO (tN (i+1)) rfl ?_)))))))))))
    refine VRunO.nil (tn ?_)
    refine ⟨(i+1:Nat),?_,?_,Wk.mk (fun k=>k) ?_ ?_ ?_⟩
    ·refine QS hI' fhc1 ?_;unfold ZI;omega
    ·omega
    ·exact (b2 (b2 (b2 bn)))
    ·exact (b3 bn)
    ·exact nd rfl
   refine Qy 2 17 true 57 (dz fhg57_11) rfl rfl rfl (VRunO.free (VWant.on (b:=false) rfl rfl rfl) (OF.pickF (VEv.tmpB rfl (dz fhg57_11)) (VEv.bool false)) (fO (OF.pickF (tv (tB false) rfl) (tv (tB false) rfl)) (nt (cf rfl (sk (vinB.n (tn (VRun.region (mO (tN i) rfl (fO (QB (tv (tN i) rfl) (VEv.int .i64 1) (by omega)) (aO (tN (i+1)) rfl ?_)))))))))))
   refine VRunO.nil (tn ?_)
   refine ⟨(i+1:Nat),?_,?_,Wk.mk (fun k=>k) ?_ ?_ ?_⟩
   ·refine QS hI' fhc1 ?_;unfold ZI;omega
   ·omega
   ·exact (b2 (b2 (b2 bn)))
   ·exact (b3 bn)
   ·exact nd rfl
  refine gF (dz fhg28_3) rfl rfl (OF.move (tv (tS f) rfl)) (gF (dz fhg28_3) rfl rfl (OF.move (tv (tN i) rfl)) ?_)
  have hb12:i<f.size:=(by omega)
  refine gF (dz fhg28_3) rfl rfl (JN (tv (tS f) rfl) (tv (tN i) rfl) hb12 U9) (gF (dz fhg28_3) rfl rfl (xge (tv (T.int .u8 (Qu f i)) rfl) (VEv.int .u8 97)) (gF (dz fhg28_3) rfl rfl (OF.move (tv (tB (decide (97≤Qu f i))) rfl)) ?_))
  refine gw (97≤Qu f i) (fun fhg33_13=> ?_) fun fhg33_13=> ?_
  ·refine gF (dy fhg33_13) rfl rfl (OF.move (tv (tS f) rfl)) ?_
   refine gF (dy fhg33_13) rfl rfl (OF.move (tv (tN i) rfl)) ?_
   have hb14:i<f.size:=(by omega)
   refine gF (dy fhg33_13) rfl rfl (JN (tv (tS f) rfl) (tv (tN i) rfl) hb14 U9) (gF (dy fhg33_13) rfl rfl (xle (tv (T.int .u8 (Qu f i)) rfl) (VEv.int .u8 122)) (gF (dz fhg28_3) rfl rfl (OF.pickT (VEv.tmpB rfl (dy fhg33_13)) (tv (tB (decide (Qu f i≤122))) rfl)) (fO (OF.pickF (VEv.tmpB rfl (dz fhg28_3)) (tv (tB (decide (Qu f i≤122))) rfl)) (aO (tB (decide (Qu f i≤122))) rfl (nt (sr (lf (tS g.Cells) rfl QE rfl rfl Z7 (mO (tN i) rfl ?_))))))))
   have hb15:i<g.Cells.size:=(by omega)
   refine fO (JN (tv (tS g.Cells) rfl) (tv (tN i) rfl) hb15 U9) (fO (Y7 (tv (T.int .u8 (Qu g.Cells i)) rfl) (VEv.int .u8 35)) (mO (tB (decide (Qu g.Cells i=35))) rfl ?_))
   refine gw (Qu g.Cells i=35) (fun fhg45_16=> ?_) fun fhg45_16=> ?_
   ·refine gF (dy fhg45_16) rfl rfl (OF.move (tv (tS f) rfl)) ?_
    refine gF (dy fhg45_16) rfl rfl (OF.move (tv (tN i) rfl)) ?_
    have hb17:i<f.size:=(by omega)
    refine gF (dy fhg45_16) rfl rfl (JN (tv (tS f) rfl) (tv (tN i) rfl) hb17 U9) (gF (dy fhg45_16) rfl rfl (xne (tv (T.int .u8 (Qu f i)) rfl) (VEv.int .u8 35)) (fO (OF.pickT (VEv.tmpB rfl (dy fhg45_16)) (tv (tB (!(decide (Qu f i=35)))) rfl)) (mO (tB (!(decide (Qu f i=35)))) rfl ?_)))
    refine gn (Qu f i=35) (fun fhg51_18=> ?_) fun fhg51_18=> ?_
    ·refine Qy 6 11 false 51 (ny fhg51_18) rfl rfl rfl ?_
     refine Qac 2 17 true 57 rfl rfl rfl (oO rfl rfl (ny fhg51_18) (fO (OF.pickT (VEv.tmpB rfl (ny fhg51_18)) (VEv.bool true)) (nt (ct rfl (sr (fO (OF.assign (VEv.bool false)) (nt (rt (vinB.r (tr (tr ?_)))))))))))
     refine vinB.r (tr (vb (b':=false) rfl ?_))
     (symm;rw [decide_eq_false_iff_not];rintro ⟨g1,g2,g3⟩;(have g4:=g3 i fhc1;unfold ZI at g4;omega))
    refine Yl (tS g.Cells) (nz fhg51_18) rfl rfl rfl rfl QE rfl rfl Z7 (gF (nz fhg51_18) rfl rfl (OF.move (tv (tN i) rfl)) ?_)
    have hb19:i<g.Cells.size:=(by omega)
    refine gF (nz fhg51_18) rfl rfl (JN (tv (tS g.Cells) rfl) (tv (tN i) rfl) hb19 U9) (gF (nz fhg51_18) rfl rfl (Y7 (tv (T.int .u8 (Qu g.Cells i)) rfl) (VEv.int .u8 46)) (gF (nz fhg51_18) rfl rfl (OF.move (tv (tB (decide (Qu g.Cells i=46))) rfl)) ?_))
    refine gw (Qu g.Cells i=46) (fun fhg57_20=> ?_) fun fhg57_20=> ?_
    ·refine gF (dy fhg57_20) rfl rfl (OF.move (tv (tB (decide (Qu f i≤122))) rfl)) ?_
     refine gF (dy fhg57_20) rfl rfl (QW (tv (tB (decide (Qu f i≤122))) rfl)) (gF (nz fhg51_18) rfl rfl (OF.pickT (VEv.tmpB rfl (dy fhg57_20)) (tv (tB (!(decide (Qu f i≤122)))) rfl)) (fO (OF.pickF (VEv.tmpB rfl (nz fhg51_18)) (tv (tB (!(decide (Qu f i≤122)))) rfl)) (nt ?_)))
     refine cn (Qu f i≤122) rfl (fun fhc2=> ?_) fun fhc2=> ?_
     ·refine sr ?_
      refine fO (OF.assign (VEv.bool false)) (nt (rt (vinB.r (tr (tr (vinB.r (tr (vb (b':=false) rfl ?_))))))))
      (symm;rw [decide_eq_false_iff_not];rintro ⟨g1,g2,g3⟩;omega)
     refine sk (vinB.n (tn (VRun.region (mO (tN i) rfl (fO (QB (tv (tN i) rfl) (VEv.int .i64 1) (by omega)) (aO (tN (i+1)) rfl (VRunO.nil (tn ?_))))))))
     refine ⟨(i+1:Nat),?_,?_,Wk.mk (fun k=>k) ?_ ?_ ?_⟩
     ·refine QS hI' fhc1 ?_;unfold ZI;omega
     ·omega
     ·exact (b2 (b2 (b2 bn)))
     ·exact (b3 bn)
     ·exact nd rfl
    refine Qy 2 17 true 57 (dz fhg57_20) rfl rfl rfl (gF (nz fhg51_18) rfl rfl (OF.pickF (VEv.tmpB rfl (dz fhg57_20)) (VEv.bool false)) (fO (OF.pickF (VEv.tmpB rfl (nz fhg51_18)) (tv (tB false) rfl)) (nt (cf rfl (sk (vinB.n (tn (VRun.region (mO (tN i) rfl (fO (QB (tv (tN i) rfl) (VEv.int .i64 1) (by omega)) (aO (tN (i+1)) rfl ?_)))))))))))
    refine VRunO.nil (tn ?_)
    refine ⟨(i+1:Nat),?_,?_,Wk.mk (fun k=>k) ?_ ?_ ?_⟩
    ·refine QS hI' fhc1 ?_;unfold ZI;omega
    ·omega
    ·exact (b2 (b2 (b2 bn)))
    ·exact (b3 bn)
    ·exact nd rfl
   refine Qy 4 5 true 45 (dz fhg45_16) rfl rfl rfl (fO (OF.pickF (VEv.tmpB rfl (dz fhg45_16)) (VEv.bool false)) (mO (tB false) rfl (VRunO.free (VWant.on (b:=false) rfl rfl rfl) (OF.fieldAddrO (tv (T.op 0 0) rfl) QE) (VRunO.look (VWant.on (b:=false) rfl rfl rfl) (OL.loadO1 (t:=(tS g.Cells)) (tv (T.op 0 2) rfl) rfl rfl Z7) (VRunO.free (VWant.on (b:=false) rfl rfl rfl) (OF.move (tv (tN i) rfl)) ?_)))))
   have hb21:i<g.Cells.size:=(by omega)
   refine VRunO.free (VWant.on (b:=false) rfl rfl rfl) (JN (tv (tS g.Cells) rfl) (tv (tN i) rfl) hb21 U9) (VRunO.free (VWant.on (b:=false) rfl rfl rfl) (Y7 (tv (T.int .u8 (Qu g.Cells i)) rfl) (VEv.int .u8 46)) (VRunO.free (VWant.on (b:=false) rfl rfl rfl) (OF.move (tv (tB (decide (Qu g.Cells i=46))) rfl)) ?_))
   refine gw (Qu g.Cells i=46) (fun fhg57_22=> ?_) fun fhg57_22=> ?_
   ·refine gF (dy fhg57_22) rfl rfl (OF.move (tv (tB (decide (Qu f i≤122))) rfl)) ?_
    refine gF (dy fhg57_22) rfl rfl (QW (tv (tB (decide (Qu f i≤122))) rfl)) (VRunO.free (VWant.on (b:=false) rfl rfl rfl) (OF.pickT (VEv.tmpB rfl (dy fhg57_22)) (tv (tB (!(decide (Qu f i≤122)))) rfl)) (fO (OF.pickF (tv (tB false) rfl) (tv (tB (!(decide (Qu f i≤122)))) rfl)) (nt ?_)))
    refine cn (Qu f i≤122) rfl (fun fhc2=> ?_) fun fhc2=> ?_
    ·refine sr ?_
     refine fO (OF.assign (VEv.bool false)) (nt (rt (vinB.r (tr (tr (vinB.r (tr (vb (b':=false) rfl ?_))))))))
     (symm;rw [decide_eq_false_iff_not];rintro ⟨g1,g2,g3⟩;(have g4:=g3 i fhc1;unfold ZI at g4;omega))
    refine sk (vinB.n (tn (VRun.region (mO (tN i) rfl (fO (QB (tv (tN i) rfl) (VEv.int .i64 1) (by omega)) (aO (tN (i+1)) rfl (VRunO.nil (tn ?_))))))))
    refine ⟨(i+1:Nat),?_,?_,Wk.mk (fun k=>k) ?_ ?_ ?_⟩
    ·refine QS hI' fhc1 ?_;unfold ZI;omega
    ·omega
    ·exact (b2 (b2 (b2 bn)))
    ·exact (b3 bn)
    ·exact nd rfl
   refine Qy 2 17 true 57 (dz fhg57_22) rfl rfl rfl (VRunO.free (VWant.on (b:=false) rfl rfl rfl) (OF.pickF (VEv.tmpB rfl (dz fhg57_22)) (VEv.bool false)) (fO (OF.pickF (tv (tB false) rfl) (tv (tB false) rfl)) (nt (cf rfl (sk (vinB.n (tn (VRun.region (mO (tN i) rfl (fO (QB (tv (tN i) rfl) (VEv.int .i64 1) (by omega)) (aO (tN (i+1)) rfl ?_)))))))))))
   refine VRunO.nil (tn ?_)
   refine ⟨(i+1:Nat),?_,?_,Wk.mk (fun k=>k) ?_ ?_ ?_⟩
   ·refine QS hI' fhc1 ?_;unfold ZI;omega
   ·omega
   ·exact (b2 (b2 (b2 bn)))
   ·exact (b3 bn)
   ·exact nd rfl
  refine Qy 4 9 true 33 (dz fhg33_13) rfl rfl rfl (gF (dz fhg28_3) rfl rfl (OF.pickF (VEv.tmpB rfl (dz fhg33_13)) (VEv.bool false)) (fO (OF.pickF (VEv.tmpB rfl (dz fhg28_3)) (tv (tB false) rfl)) (aO (tB false) rfl (nt (sr (lf (tS g.Cells) rfl QE rfl rfl Z7 (mO (tN i) rfl ?_)))))))
  have hb23:i<g.Cells.size:=(by omega)
  refine fO (JN (tv (tS g.Cells) rfl) (tv (tN i) rfl) hb23 U9) (fO (Y7 (tv (T.int .u8 (Qu g.Cells i)) rfl) (VEv.int .u8 35)) (mO (tB (decide (Qu g.Cells i=35))) rfl ?_))
  refine gw (Qu g.Cells i=35) (fun fhg45_24=> ?_) fun fhg45_24=> ?_
  ·refine gF (dy fhg45_24) rfl rfl (OF.move (tv (tS f) rfl)) ?_
   refine gF (dy fhg45_24) rfl rfl (OF.move (tv (tN i) rfl)) ?_
   have hb25:i<f.size:=(by omega)
   refine gF (dy fhg45_24) rfl rfl (JN (tv (tS f) rfl) (tv (tN i) rfl) hb25 U9) (gF (dy fhg45_24) rfl rfl (xne (tv (T.int .u8 (Qu f i)) rfl) (VEv.int .u8 35)) (fO (OF.pickT (VEv.tmpB rfl (dy fhg45_24)) (tv (tB (!(decide (Qu f i=35)))) rfl)) (mO (tB (!(decide (Qu f i=35)))) rfl ?_)))
   refine gn (Qu f i=35) (fun fhg51_26=> ?_) fun fhg51_26=> ?_
   ·refine Qy 6 11 false 51 (ny fhg51_26) rfl rfl rfl ?_
    refine Qac 2 17 true 57 rfl rfl rfl (oO rfl rfl (ny fhg51_26) (fO (OF.pickT (VEv.tmpB rfl (ny fhg51_26)) (VEv.bool true)) (nt (ct rfl (sr (fO (OF.assign (VEv.bool false)) (nt (rt (vinB.r (tr (tr ?_)))))))))))
    refine vinB.r (tr (vb (b':=false) rfl ?_))
    (symm;rw [decide_eq_false_iff_not];rintro ⟨g1,g2,g3⟩;(have g4:=g3 i fhc1;unfold ZI at g4;omega))
   refine Yl (tS g.Cells) (nz fhg51_26) rfl rfl rfl rfl QE rfl rfl Z7 (gF (nz fhg51_26) rfl rfl (OF.move (tv (tN i) rfl)) ?_)
   have hb27:i<g.Cells.size:=(by omega)
   refine gF (nz fhg51_26) rfl rfl (JN (tv (tS g.Cells) rfl) (tv (tN i) rfl) hb27 U9) (gF (nz fhg51_26) rfl rfl (Y7 (tv (T.int .u8 (Qu g.Cells i)) rfl) (VEv.int .u8 46)) (gF (nz fhg51_26) rfl rfl (OF.move (tv (tB (decide (Qu g.Cells i=46))) rfl)) ?_))
   refine gw (Qu g.Cells i=46) (fun fhg57_28=> ?_) fun fhg57_28=> ?_
   ·refine gF (dy fhg57_28) rfl rfl (OF.move (tv (tB false) rfl)) ?_
    refine gF (dy fhg57_28) rfl rfl (B.not (c:=true) (tv (tB false) rfl) rfl) (gF (nz fhg51_26) rfl rfl (OF.pickT (VEv.tmpB rfl (dy fhg57_28)) (tv (tB true) rfl)) (fO (OF.pickF (VEv.tmpB rfl (nz fhg51_26)) (tv (tB true) rfl)) (nt (ct rfl (sr (fO (OF.assign (VEv.bool false)) (nt (rt (vinB.r (tr (tr ?_)))))))))))
    refine vinB.r (tr (vb (b':=false) rfl ?_))
    (symm;rw [decide_eq_false_iff_not];rintro ⟨g1,g2,g3⟩;omega)
   refine Qy 2 17 true 57 (dz fhg57_28) rfl rfl rfl (gF (nz fhg51_26) rfl rfl (OF.pickF (VEv.tmpB rfl (dz fhg57_28)) (VEv.bool false)) (fO (OF.pickF (VEv.tmpB rfl (nz fhg51_26)) (tv (tB false) rfl)) (nt (cf rfl (sk (vinB.n (tn (VRun.region (mO (tN i) rfl (fO (QB (tv (tN i) rfl) (VEv.int .i64 1) (by omega)) (aO (tN (i+1)) rfl ?_)))))))))))
   refine VRunO.nil (tn ?_)
   refine ⟨(i+1:Nat),?_,?_,Wk.mk (fun k=>k) ?_ ?_ ?_⟩
   ·refine QS hI' fhc1 ?_;unfold ZI;omega
   ·omega
   ·exact (b2 (b2 (b2 bn)))
   ·exact (b3 bn)
   ·exact nd rfl
  refine Qy 4 5 true 45 (dz fhg45_24) rfl rfl rfl (fO (OF.pickF (VEv.tmpB rfl (dz fhg45_24)) (VEv.bool false)) (mO (tB false) rfl (VRunO.free (VWant.on (b:=false) rfl rfl rfl) (OF.fieldAddrO (tv (T.op 0 0) rfl) QE) (VRunO.look (VWant.on (b:=false) rfl rfl rfl) (OL.loadO1 (t:=(tS g.Cells)) (tv (T.op 0 2) rfl) rfl rfl Z7) (VRunO.free (VWant.on (b:=false) rfl rfl rfl) (OF.move (tv (tN i) rfl)) ?_)))))
  have hb29:i<g.Cells.size:=(by omega)
  refine VRunO.free (VWant.on (b:=false) rfl rfl rfl) (JN (tv (tS g.Cells) rfl) (tv (tN i) rfl) hb29 U9) (VRunO.free (VWant.on (b:=false) rfl rfl rfl) (Y7 (tv (T.int .u8 (Qu g.Cells i)) rfl) (VEv.int .u8 46)) (VRunO.free (VWant.on (b:=false) rfl rfl rfl) (OF.move (tv (tB (decide (Qu g.Cells i=46))) rfl)) ?_))
  refine gw (Qu g.Cells i=46) (fun fhg57_30=> ?_) fun fhg57_30=> ?_
  ·refine gF (dy fhg57_30) rfl rfl (OF.move (tv (tB false) rfl)) ?_
   refine gF (dy fhg57_30) rfl rfl (B.not (c:=true) (tv (tB false) rfl) rfl) (VRunO.free (VWant.on (b:=false) rfl rfl rfl) (OF.pickT (VEv.tmpB rfl (dy fhg57_30)) (tv (tB true) rfl)) (fO (OF.pickF (tv (tB false) rfl) (tv (tB true) rfl)) (nt (ct rfl (sr (fO (OF.assign (VEv.bool false)) (nt (rt (vinB.r (tr (tr ?_)))))))))))
   refine vinB.r (tr (vb (b':=false) rfl ?_))
   (symm;rw [decide_eq_false_iff_not];rintro ⟨g1,g2,g3⟩;(have g4:=g3 i fhc1;unfold ZI at g4;omega))
  refine Qy 2 17 true 57 (dz fhg57_30) rfl rfl rfl (VRunO.free (VWant.on (b:=false) rfl rfl rfl) (OF.pickF (VEv.tmpB rfl (dz fhg57_30)) (VEv.bool false)) (fO (OF.pickF (tv (tB false) rfl) (tv (tB false) rfl)) (nt (cf rfl (sk (vinB.n (tn (VRun.region (mO (tN i) rfl (fO (QB (tv (tN i) rfl) (VEv.int .i64 1) (by omega)) (aO (tN (i+1)) rfl ?_)))))))))))
  refine VRunO.nil (tn ?_)
  refine ⟨(i+1:Nat),?_,?_,Wk.mk (fun k=>k) ?_ ?_ ?_⟩
  ·refine QS hI' fhc1 ?_;unfold ZI;omega
  ·omega
  ·exact (b2 (b2 (b2 bn)))
  ·exact (b3 bn)
  ·exact nd rfl
 refine VRun.exit (vthn.e (vthn.e (vinB.e (tn (sr (fO (OF.assign (VEv.bool true)) (nt (rt (vb (b':=true) rfl ?_)))))))))
 (symm;rw [decide_eq_true_eq];refine ⟨?_,?_,Jc hI' fhc1⟩<;>assumption)
theorem Qcb (n:Nat) (g:D.Grid) (f:ByteArray) (hc:g.Cells.size≤maxLen) (hf:f.size≤maxLen):Pure (Qq Tryz.prog (n+3)) 63 [(T.agg (Qc false g)),(tS f)] (tB (decide (QI g f))):=by
 refine Pure.intro (rs:= [ResultVar.tmp 4]) Tryz.func63 rfl rfl rfl (E0:= [(0,(T.agg (Qc false g))),(1,(tS f))]) rfl ?_
 obtain ⟨hlim,hmx,hmax⟩:=QC
 refine sr (kO (B.box (ts:=(Qc false g)) (tv (T.agg (Qc false g)) rfl) nofun rfl) (fO (OF.assign (VEv.bool false)) (nt (sq (sr (lO (OL.loadOn (us:=(Qc false g)) (tv (T.op 0 0) rfl) rfl QX QT (lb rfl) rfl) (cO (cS (vc (tv (T.agg (Qc false g)) rfl) vn) (LendL.cons (lg Qs) ln) (Yi (n+0) g (by assumption)) rfl rfl) (fO (QW (tv (tB (decide (gridOk g))) rfl)) (mO (tB (!(decide (gridOk g)))) rfl ?_)))))))))
 refine gn (gridOk g) (fun fhg9_1=> ?_) fun fhg9_1=> ?_
 ·refine Qy 6 3 false 9 (ny fhg9_1) rfl rfl rfl ?_
  refine fO (OF.pickT (VEv.tmpB rfl (ny fhg9_1)) (VEv.bool true)) (nt (ct rfl (sr (fO (OF.assign (VEv.bool false)) (nt (rt (tr (vb (b':=false) rfl ?_))))))))
  (symm;rw [decide_eq_false_iff_not];rintro ⟨g1,g2,g3⟩;contradiction)
 refine gF (nz fhg9_1) rfl rfl (OF.move (tv (tS f) rfl)) (gL (nz fhg9_1) rfl rfl (B.lenS (tv (tS f) rfl) U9) (Yl (tS g.Cells) (nz fhg9_1) rfl rfl rfl rfl QE rfl rfl Z7 (gL (nz fhg9_1) rfl rfl (B.lenS (tv (tS g.Cells) rfl) U9) (gF (nz fhg9_1) rfl rfl (Qia (tv (tN f.size) rfl) (tv (tN g.Cells.size) rfl)) (fO (OF.pickF (VEv.tmpB rfl (nz fhg9_1)) (tv (tB (!(decide (f.size=g.Cells.size)))) rfl)) (nt ?_))))))
 refine cn (f.size=g.Cells.size) rfl (fun fhc0=> ?_) fun fhc0=> ?_
 ·refine sr ?_
  refine fO (OF.assign (VEv.bool false)) (nt (rt (tr (vb (b':=false) rfl ?_))))
  (symm;rw [decide_eq_false_iff_not];rintro ⟨g1,g2,g3⟩;contradiction)
 refine sk (tn (sq (sr (mO (tS f) rfl (lO (B.lenS (tv (tS f) rfl) U9) (fO (OF.move (VEv.int .i64 0)) (nt (VRun.block ?_))))))))
 refine VRun.loop (A:=Nat) (fun s_=> [(1,(tS f)),(2,(T.op 0 0)),(18,(tN f.size)),(19,(tN s_))]) (fun s_=>Q3 [(0,(Obj.cells (Qc false g)))]) 1 (fun s_=>s_≤f.size∧∀j,j<s_→ZI (Qu g.Cells j) (Qu f j)) (fun s_=>f.size - s_) (0:Nat) ?_ (Wk.mk (fun k=>k) ?_ ?_ ?_) ?_
 ·exact ⟨Nat.zero_le _,fun j hj=>by omega⟩
 ·exact (b2 (b2 (b2 (b2 bn))))
 ·exact (b3 bn)
 ·exact nd rfl
 rintro i (hI':i≤f.size∧∀j,j<i→ZI (Qu g.Cells j) (Qu f j))
 show VRun _ _ _ [(1,(tS f)),(2,(T.op 0 0)),(18,(tN f.size)),(19,(tN i))] (Q3 [(0,(Obj.cells (Qc false g)))]) 1 _
 have hI1:=hI'.1
 have hgo:gridOk g:=by assumption
 refine sr (fO (Zf (tv (tN i) rfl) (tv (tN f.size) rfl)) (nt (sq ?_)))
 refine cd (i<f.size) rfl (fun fhc1=> ?_) fun fhc1=> ?_
 ·have hgi:=hgo.2.2.2 i (by omega)
  unfold gOk at hgi
  refine sk (tn (sq (VRun.block (sr (mO (tN i) rfl (aO (tN i) rfl (nt (sq (VRun.draw (B:= [[],[0],[],[2,0,1],[1,0,2,3],[],[],[6,5],[5,6,7],[7,6,5,8,3,2,0,1,4],[4,1,0,2,3,8,5,6,7,9],[9,7,6,5,8,3,2,0,1,4,10],[9,7,6,5,8,3,2,0,1,4,10],[12,10,4,1,0,2,3,8,5,6,7,9,11],[11,9,7,6,5,8,3,2,0,1,4,10,12,13],[13,12,10,4,1,0,2,3,8,5,6,7,9,11,14],[14,11,9,7,6,5,8,3,2,0,1,4,10,12,13,15],[14,11,9,7,6,5,8,3,2,0,1,4,10,12,13,15],[17,15,13,12,10,4,1,0,2,3,8,5,6,7,9,11,14,16],[16,14,11,9,7,6,5,8,3,2,0,1,4,10,12,13,15,17,18],[18,17,16,19,14,11,9,7,6,5,8,3,2,0,1,4,10,12,13,15],[15,13,12,10,4,1,0,2,3,8,5,6,7,9,11,14,19,16,17,18,20],[20,18,17,16,19,14,11,9,7,6,5,8,3,2,0,1,4,10,12,13,15,21],[20,18,17,16,19,14,11,9,7,6,5,8,3,2,0,1,4,10,12,13,15,21],[23,21,15,13,12,10,4,1,0,2,3,8,5,6,7,9,11,14,19,16,17,18,20,22],[22,20,18,17,16,19,14,11,9,7,6,5,8,3,2,0,1,4,10,12,13,15,21,23,24],[24,23,21,15,13,12,10,4,1,0,2,3,8,5,6,7,9,11,14,19,16,17,18,20,22,25],[25,22,23,24,26,20,18,17,16,19,14,11,9,7,6,5,8,3,2,0,1,4,10,12,13,15,21],[21,15,13,12,11,14,19,16,17,18,20,26,24,23,22,25,27,9,7,6,5,8,3,2,0,1,4,10]]) (by kernel_rfl) (by kernel_rfl) (fD (OF.fieldAddrO (tv (T.op 0 0) rfl) QE) rfl rfl (lD (OL.loadO1 (t:=(tS g.Cells)) (tv (T.op 0 2) rfl) rfl rfl Z7) rfl rfl ?_)))))))))))
  refine mD (tN i) rfl rfl ?_
  have hb2:i<g.Cells.size:=(by omega)
  refine fD (JN (tv (tS g.Cells) rfl) (tv (tN i) rfl) hb2 U9) rfl rfl (fD (Y7 (tv (T.int .u8 (Qu g.Cells i)) rfl) (VEv.int .u8 35)) rfl rfl (mD (tS f) rfl rfl (mD (tN i) rfl rfl ?_)))
  have hb3:i<f.size:=(by omega)
  refine fD (JN (tv (tS f) rfl) (tv (tN i) rfl) hb3 U9) rfl rfl (fD (Y7 (tv (T.int .u8 (Qu f i)) rfl) (VEv.int .u8 35)) rfl rfl (fD (B.bneq U4 (c:=(!((decide (Qu g.Cells i=35)) == (decide (Qu f i=35))))) (tv (tB (decide (Qu g.Cells i=35))) rfl) (tv (tB (decide (Qu f i=35))) rfl) rfl) rfl rfl (mD (tB (!((decide (Qu g.Cells i=35)) == (decide (Qu f i=35))))) rfl rfl ?_)))
  refine Qbo (!((decide (Qu g.Cells i=35)) == (decide (Qu f i=35)))) (fun hg32_4=> ?_) (fun hg32_4=> ?_)
  ·have fhg32_4:(!((decide (Qu g.Cells i=35)) == (decide (Qu f i=35))))=true:=hg32_4
   refine oD rfl rfl hg32_4 rfl (oD rfl rfl hg32_4 rfl (oD rfl rfl hg32_4 rfl (oD rfl rfl hg32_4 rfl (oD rfl rfl hg32_4 rfl (uD rfl rfl rfl (uD rfl rfl rfl (uD rfl rfl rfl (uD rfl rfl rfl (oD rfl rfl hg32_4 rfl (oD rfl rfl hg32_4 rfl (uD rfl rfl rfl ?_)))))))))))
   refine uD rfl rfl rfl (uD rfl rfl rfl (uD rfl rfl rfl (uD rfl rfl rfl (oD rfl rfl hg32_4 rfl (fD (OF.pickT (VEv.tmpB rfl hg32_4) (VEv.bool true)) rfl rfl (VRunD.nil (tn (ct rfl (sr (fO (OF.assign (VEv.bool false)) (nt ?_)))))))))))
   refine rt (vinB.r (tr (tr (vinB.r (tr (vb (b':=false) rfl ?_))))))
   (symm;rw [decide_eq_false_iff_not];rintro ⟨g1,g2,g3⟩;(have g4:=g3 i fhc1;unfold ZI at g4;simp only [Qkk,decide_eq_true_eq,decide_eq_false_iff_not,Classical.not_not] at *;omega))
  have fhg32_4:(!((decide (Qu g.Cells i=35)) == (decide (Qu f i=35))))=false:=hg32_4
  refine VRunD.free rfl (VWant.on rfl rfl hg32_4) rfl (OF.move (tv (tS f) rfl)) (VRunD.free rfl (VWant.on rfl rfl hg32_4) rfl (OF.move (tv (tN i) rfl)) ?_)
  have hb5:i<f.size:=(by omega)
  refine VRunD.free rfl (VWant.on rfl rfl hg32_4) rfl (JN (tv (tS f) rfl) (tv (tN i) rfl) hb5 U9) (VRunD.free rfl (VWant.on rfl rfl hg32_4) rfl (xne (tv (T.int .u8 (Qu f i)) rfl) (VEv.int .u8 35)) (VRunD.free rfl (VWant.on rfl rfl hg32_4) rfl (OF.move (tv (tB (!(decide (Qu f i=35)))) rfl)) ?_))
  refine gn (Qu f i=35) (fun fhg37_6=> ?_) fun fhg37_6=> ?_
  ·refine VRunD.free rfl (VWant.on rfl rfl (ny fhg37_6)) rfl (OF.move (tv (tS f) rfl)) ?_
   refine VRunD.free rfl (VWant.on rfl rfl (ny fhg37_6)) rfl (OF.move (tv (tN i) rfl)) ?_
   have hb7:i<f.size:=(by omega)
   refine VRunD.free rfl (VWant.on rfl rfl (ny fhg37_6)) rfl (JN (tv (tS f) rfl) (tv (tN i) rfl) hb7 U9) (VRunD.free rfl (VWant.on rfl rfl (ny fhg37_6)) rfl (xne (tv (T.int .u8 (Qu f i)) rfl) (VEv.int .u8 63)) (VRunD.free rfl (VWant.on rfl rfl hg32_4) rfl (OF.pickT (VEv.tmpB rfl (ny fhg37_6)) (tv (tB (!(decide (Qu f i=63)))) rfl)) (VRunD.free rfl (VWant.on rfl rfl hg32_4) rfl (OF.move (tv (tB (!(decide (Qu f i=63)))) rfl)) ?_)))
   refine gn (Qu f i=63) (fun fhg43_8=> ?_) fun fhg43_8=> ?_
   ·refine VRunD.free rfl (VWant.on rfl rfl (ny fhg43_8)) rfl (OF.move (tv (tS f) rfl)) ?_
    refine VRunD.free rfl (VWant.on rfl rfl (ny fhg43_8)) rfl (OF.move (tv (tN i) rfl)) ?_
    have hb9:i<f.size:=(by omega)
    refine VRunD.free rfl (VWant.on rfl rfl (ny fhg43_8)) rfl (JN (tv (tS f) rfl) (tv (tN i) rfl) hb9 U9) (VRunD.quiet (bi:= [22,20,18,17,16,19,14,11,9,7,6,5,8,3,2,0,1,4,10,12,13,15,21,23,24]) rfl (VWant.on rfl rfl (ny fhg43_8)) rfl rfl rfl bn (cS (vc (tv (T.int .u8 (Qu f i)) rfl) vn) (ZJ rfl) (Jv (n+1) (Qu f i)) rfl rfl) (VRunD.free rfl (VWant.on rfl rfl (ny fhg43_8)) rfl (QW (tv (tB (decide (97≤(Qu f i)∧(Qu f i)≤122))) rfl)) (VRunD.free rfl (VWant.on rfl rfl hg32_4) rfl (OF.pickT (VEv.tmpB rfl (ny fhg43_8)) (tv (tB (!(decide (97≤(Qu f i)∧(Qu f i)≤122)))) rfl)) (fD (OF.pickF (VEv.tmpB rfl hg32_4) (tv (tB (!(decide (97≤(Qu f i)∧(Qu f i)≤122)))) rfl)) rfl rfl (VRunD.nil (tn ?_))))))
    refine cn (97≤(Qu f i)∧(Qu f i)≤122) rfl (fun fhc2=> ?_) fun fhc2=> ?_
    ·refine sr ?_
     refine fO (OF.assign (VEv.bool false)) (nt (rt (vinB.r (tr (tr (vinB.r (tr (vb (b':=false) rfl ?_))))))))
     (symm;rw [decide_eq_false_iff_not];rintro ⟨g1,g2,g3⟩;(have g4:=g3 i fhc1;unfold ZI at g4;simp only [Qkk,decide_eq_true_eq,decide_eq_false_iff_not,Classical.not_not] at *;omega))
    refine sk (vinB.n (tn (VRun.region (fO (QB (tv (tN i) rfl) (VEv.int .i64 1) (by omega)) (mO (tN (i+1)) rfl (VRunO.nil (tn ?_)))))))
    refine ⟨(i+1:Nat),?_,?_,Wk.mk (fun k=>k) ?_ ?_ ?_⟩
    ·refine QS hI' fhc1 ?_;unfold ZI;simp only [Qkk,decide_eq_true_eq,decide_eq_false_iff_not,Classical.not_not] at *;omega
    ·omega
    ·exact (b2 (b2 (b2 (b2 bn))))
    ·exact (b3 bn)
    ·exact nd rfl
   refine oD rfl rfl (nz fhg43_8) rfl (oD rfl rfl (nz fhg43_8) rfl (oD rfl rfl (nz fhg43_8) rfl (oD rfl rfl (nz fhg43_8) rfl (oD rfl rfl (nz fhg43_8) rfl (VRunD.free rfl (VWant.on rfl rfl hg32_4) rfl (OF.pickF (VEv.tmpB rfl (nz fhg43_8)) (VEv.bool false)) (fD (OF.pickF (VEv.tmpB rfl hg32_4) (tv (tB false) rfl)) rfl rfl (VRunD.nil (tn (cf rfl (sk (vinB.n ?_)))))))))))
   refine tn (VRun.region (fO (QB (tv (tN i) rfl) (VEv.int .i64 1) (by omega)) (mO (tN (i+1)) rfl (VRunO.nil (tn ?_)))))
   refine ⟨(i+1:Nat),?_,?_,Wk.mk (fun k=>k) ?_ ?_ ?_⟩
   ·refine QS hI' fhc1 ?_;unfold ZI;simp only [Qkk,decide_eq_true_eq,decide_eq_false_iff_not,Classical.not_not] at *;omega
   ·omega
   ·exact (b2 (b2 (b2 (b2 bn))))
   ·exact (b3 bn)
   ·exact nd rfl
  refine oD rfl rfl (nz fhg37_6) rfl (oD rfl rfl (nz fhg37_6) rfl (oD rfl rfl (nz fhg37_6) rfl (oD rfl rfl (nz fhg37_6) rfl (VRunD.free rfl (VWant.on rfl rfl hg32_4) rfl (OF.pickF (VEv.tmpB rfl (nz fhg37_6)) (VEv.bool false)) (VRunD.free rfl (VWant.on rfl rfl hg32_4) rfl (OF.move (tv (tB false) rfl)) (VRunD.off rfl (VWant.not (b:=false) rfl rfl rfl) (VRunD.off rfl (VWant.not (b:=false) rfl rfl rfl) (VRunD.off rfl (VWant.not (b:=false) rfl rfl rfl) (VRunD.off rfl (VWant.not (b:=false) rfl rfl rfl) (VRunD.off rfl (VWant.not (b:=false) rfl rfl rfl) (VRunD.free rfl (VWant.on rfl rfl hg32_4) rfl (OF.pickF (tv (tB false) rfl) (VEv.bool false)) ?_)))))))))))
  refine fD (OF.pickF (VEv.tmpB rfl hg32_4) (tv (tB false) rfl)) rfl rfl (VRunD.nil (tn (cf rfl (sk (vinB.n (tn (VRun.region (fO (QB (tv (tN i) rfl) (VEv.int .i64 1) (by omega)) (mO (tN (i+1)) rfl (VRunO.nil (tn ?_)))))))))))
  refine ⟨(i+1:Nat),?_,?_,Wk.mk (fun k=>k) ?_ ?_ ?_⟩
  ·refine QS hI' fhc1 ?_;unfold ZI;simp only [Qkk,decide_eq_true_eq,decide_eq_false_iff_not,Classical.not_not] at *;omega
  ·omega
  ·exact (b2 (b2 (b2 (b2 bn))))
  ·exact (b3 bn)
  ·exact nd rfl
 refine VRun.exit (vthn.e (vthn.e (vinB.e (tn (sr (fO (OF.assign (VEv.bool true)) (nt (rt (vb (b':=true) rfl ?_)))))))))
 (symm;rw [decide_eq_true_eq];refine ⟨?_,?_,Jc hI' fhc1⟩<;>assumption)
theorem Qbr (n:Nat) (g:D.Grid) (c:Int) (hc:g.Cells.size≤maxLen):Pure (Qq Tryz.prog (n+3)) 83 [(T.agg (Qc false g)),(tI c)] (tB (decide (gridOk g∧(0≤c∧c≤((g.Cells.size:Nat):Int) - 1)∧Qu g.Cells (Int.toNat c)=46))):=by
 refine Pure.intro (rs:= [ResultVar.tmp 4]) Tryz.func83 rfl rfl rfl (E0:= [(0,(T.agg (Qc false g))),(1,(tI c))]) rfl ?_
 obtain ⟨hlim,hmx,hmax⟩:=QC
 refine sr (kO (B.box (ts:=(Qc false g)) (tv (T.agg (Qc false g)) rfl) nofun rfl) (fO (OF.assign (VEv.bool false)) (nt (sr (lO (OL.loadOn (us:=(Qc false g)) (tv (T.op 0 0) rfl) rfl QX QT (lb rfl) rfl) (cO (cS (vc (tv (T.agg (Qc false g)) rfl) vn) (LendL.cons (lg Qs) ln) (ZZ (n+0) g (by assumption)) rfl rfl) (mO (tB (decide (gridOk g))) rfl ?_)))))))
 refine gw (gridOk g) (fun fhg7_1=> ?_) fun fhg7_1=> ?_
 ·refine gF (dy fhg7_1) rfl rfl (OF.move (tv (tI c) rfl)) ?_
  refine Yl (tS g.Cells) (dy fhg7_1) rfl rfl rfl rfl QE rfl rfl Z7 (gL (dy fhg7_1) rfl rfl (B.lenS (tv (tS g.Cells) rfl) U9) (gF (dy fhg7_1) rfl rfl (B.sub (n:=(((g.Cells.size:Nat):Int) - 1)) (tv (tN g.Cells.size) rfl) (VEv.int .i64 1) (by (rw [Qt (by omega)];done))) (VRunO.chain (VWant.on rfl rfl (dy fhg7_1)) (cS (vc (tv (tI c) rfl) (vc (VEv.int .i64 0) (vc (tv (tI (((g.Cells.size:Nat):Int) - 1)) rfl) vn))) (ZJ rfl) (QH (n+1) c 0 (((g.Cells.size:Nat):Int) - 1)) rfl rfl) (fO (OF.pickT (VEv.tmpB rfl (dy fhg7_1)) (tv (tB (decide (0≤c∧c≤(((g.Cells.size:Nat):Int) - 1)))) rfl)) (mO (tB (decide (0≤c∧c≤(((g.Cells.size:Nat):Int) - 1)))) rfl ?_)))))
  refine gw (0≤c∧c≤(((g.Cells.size:Nat):Int) - 1)) (fun fhg15_2=> ?_) fun fhg15_2=> ?_
  ·refine Yl (tS g.Cells) (dy fhg15_2) rfl rfl rfl rfl QE rfl rfl Z7 ?_
   refine gF (dy fhg15_2) rfl rfl (OF.move (tv (tI c) rfl)) ?_
   have hb3:(Int.toNat c)<g.Cells.size:=(by omega)
   refine gF (dy fhg15_2) rfl rfl (B.index (n:=(Qu g.Cells (Int.toNat c))) (i:=(Int.toNat c)) (tv (tS g.Cells) rfl) (tv (tI c) rfl) (by omega) hb3 U9 (YN hb3)) (gF (dy fhg15_2) rfl rfl (Y7 (tv (T.int .u8 (Qu g.Cells (Int.toNat c))) rfl) (VEv.int .u8 46)) (fO (OF.pickT (VEv.tmpB rfl (dy fhg15_2)) (tv (tB (decide (Qu g.Cells (Int.toNat c)=46))) rfl)) (aO (tB (decide (Qu g.Cells (Int.toNat c)=46))) rfl (nt (rt (vb (b':=(decide (Qu g.Cells (Int.toNat c)=46))) rfl ?_))))))
   (refine Zb ⟨fun h=>⟨?_,?_,h⟩,fun h=>h.2.2⟩<;>assumption)
  refine Qy 5 10 true 15 (dz fhg15_2) rfl rfl rfl (fO (OF.pickF (VEv.tmpB rfl (dz fhg15_2)) (VEv.bool false)) (aO (tB false) rfl (nt (rt (vb (b':=false) rfl ?_)))))
  (symm;rw [decide_eq_false_iff_not];rintro ⟨g1,g2,g3⟩;contradiction)
 refine Qy 6 2 true 7 (dz fhg7_1) rfl rfl rfl (fO (OF.pickF (VEv.tmpB rfl (dz fhg7_1)) (VEv.bool false)) (mO (tB false) rfl (Qy 5 10 true 15 (b:=false) rfl rfl rfl rfl (fO (OF.pickF (tv (tB false) rfl) (VEv.bool false)) (aO (tB false) rfl (nt (rt (vb (b':=false) rfl ?_))))))))
 (symm;rw [decide_eq_false_iff_not];rintro ⟨g1,g2,g3⟩;contradiction)
theorem QcF (n:Nat) (l:List Int) (v:Int) (hl:l.length≤YW):Pure (Qq Tryz.prog (n+1)) 93 [(rd 1 Qa l),(tI v)] (tB (decide (v∈l))):=by
 refine Pure.intro (rs:= [ResultVar.tmp 4]) Tryz.func93 rfl rfl rfl (E0:= [(0,(rd 1 Qa l)),(1,(tI v))]) rfl ?_
 obtain ⟨hlim,hmx,hmax⟩:=QC
 refine sr (fO (OF.assign (VEv.bool false)) (nt (sq (sr (fO (OF.assign (VEv.int .i64 0)) (nt (VRun.block ?_)))))))
 refine VRun.loop (A:=Nat) (fun s_=> [(0,(rd 1 Qa l)),(1,(tI v)),(5,(tN s_))]) (fun s_=>Q3 []) 0 (fun s_=>NoneTo (fun y=>y=v) l s_) (fun s_=>l.length - s_) (0:Nat) ?_ (Wk.mk (fun k=>k) ?_ ?_ ?_) ?_
 ·exact NoneTo.start _ _
 ·exact (b2 (b2 (b2 bn)))
 ·exact bn
 ·exact nd rfl
 rintro i (hI':NoneTo (fun y=>y=v) l i)
 show VRun _ _ _ [(0,(rd 1 Qa l)),(1,(tI v)),(5,(tN i))] (Q3 []) 0 _
 have hI1:=hI'.1
 refine sq (sr (mO (tN i) rfl (mO (rd 1 Qa l) rfl (lO (B.lenR (m:=l.length) (tv (rd 1 Qa l) rfl) Zg (List.length_map ..)) (fO (Zf (tv (tN i) rfl) (tv (tN l.length) rfl)) (nt ?_))))))
 refine cd (i<l.length) rfl (fun fhc0=> ?_) fun fhc0=> ?_
 ·refine sk ?_
  refine tn (sq (VRun.block (sr (mO (rd 1 Qa l) rfl (mO (tN i) rfl ?_)))))
  obtain ⟨x1,hx1⟩:∃x,l[i]? =some x:=⟨_,List.getElem?_eq_getElem (by omega)⟩
  refine fO (OF.indexAddrR (row:=(Qa false x1)) (i:=i) (tv (rd 1 Qa l) rfl) (tv (tN i) rfl) rfl (Qv _ hx1) Zg Q8 Yk) (lO (OL.loadR1 (t:=(tI x1)) (tv (T.rp [(tI x1)]) rfl) rfl QU) (mO (tI v) rfl (fO (Y7 (tv (tI x1) rfl) (tv (tI v) rfl)) (nt ?_))))
  refine cd (x1=v) rfl (fun fhc1=> ?_) fun fhc1=> ?_
  ·refine sr ?_
   refine fO (OF.assign (VEv.bool true)) (nt (rt (vinB.r (tr (tr (vinB.r (tr (vb (b':=true) rfl ?_))))))))
   symm;rw [decide_eq_true_eq,← fhc1];exact List.mem_of_getElem? hx1
  refine sk (vinB.n (tn (VRun.region (mO (tN i) rfl (fO (QB (tv (tN i) rfl) (VEv.int .i64 1) (by omega)) (aO (tN (i+1)) rfl (VRunO.nil (tn ?_))))))))
  refine ⟨(i+1:Nat),?_,?_,Wk.mk (fun k=>k) ?_ ?_ ?_⟩
  ·exact hI'.next hx1 fhc1
  ·omega
  ·exact (b2 (b2 (b2 bn)))
  ·exact bn
  ·exact nd rfl
 refine VRun.exit (vthn.e (vthn.e (vinB.e (tn (sr (fO (OF.assign (VEv.bool false)) (nt (rt (vb (b':=false) rfl ?_)))))))))
 symm;rw [decide_eq_false_iff_not];intro h;exact hI'.mem fhc0 v h rfl
theorem QaN (n:Nat) (a:List Int) (b:Int) (ha:a.length≤YW):Pure (Qq Tryz.prog (n+1)) 125 [(rd 1 Qa a),(tI b)] (tI (ixF (fun y=>b=y) a)):=by
 refine Pure.intro (rs:= [ResultVar.tmp 4]) Tryz.func125 rfl rfl rfl (E0:= [(0,(rd 1 Qa a)),(1,(tI b))]) rfl ?_
 obtain ⟨hlim,hmx,hmax⟩:=QC
 refine sr (fO (OF.assign (VEv.int .i64 0)) (nt (sq (sr (mO (rd 1 Qa a) rfl (lO (B.lenR (m:=a.length) (tv (rd 1 Qa a) rfl) Zg (List.length_map ..)) (fO (OF.move (VEv.int .i64 0)) (nt (VRun.block ?_)))))))))
 refine VRun.loop (A:=Nat) (fun s_=> [(0,(rd 1 Qa a)),(1,(tI b)),(7,(tN a.length)),(8,(tN s_))]) (fun s_=>Q3 []) 0 (fun s_=>NoneTo (fun y=>b=y) a s_) (fun s_=>a.length - s_) (0:Nat) ?_ (Wk.mk (fun k=>k) ?_ ?_ ?_) ?_
 ·exact NoneTo.start _ _
 ·exact (b2 (b2 (b2 (b2 bn))))
 ·exact bn
 ·exact nd rfl
 rintro i (hI':NoneTo (fun y=>b=y) a i)
 show VRun _ _ _ [(0,(rd 1 Qa a)),(1,(tI b)),(7,(tN a.length)),(8,(tN i))] (Q3 []) 0 _
 have hI1:=hI'.1
 refine sr (fO (Zf (tv (tN i) rfl) (tv (tN a.length) rfl)) (nt (sq ?_)))
 refine cd (i<a.length) rfl (fun fhc0=> ?_) fun fhc0=> ?_
 ·refine sk ?_
  refine tn (sq (VRun.block (sr (mO (tN i) rfl (aO (tN i) rfl (nt (sr (mO (tI b) rfl (mO (rd 1 Qa a) rfl (mO (tN i) rfl ?_))))))))))
  obtain ⟨x1,hx1⟩:∃x,a[i]? =some x:=⟨_,List.getElem?_eq_getElem (by omega)⟩
  refine fO (OF.indexAddrR (row:=(Qa false x1)) (i:=i) (tv (rd 1 Qa a) rfl) (tv (tN i) rfl) rfl (Qv _ hx1) Zg Q8 Yk) (lO (OL.loadR1 (t:=(tI x1)) (tv (T.rp [(tI x1)]) rfl) rfl QU) (fO (Y7 (tv (tI b) rfl) (tv (tI x1) rfl)) (nt ?_)))
  refine cd (b=x1) rfl (fun fhc1=> ?_) fun fhc1=> ?_
  ·refine sr ?_
   refine mO (tN i) rfl (aO (tN i) rfl (nt (rt (vinB.r (tr (tr (vinB.r (tr (vi (n':=((i:Nat):Int)) rfl ?_)))))))))
   exact (Qdj hx1 fhc1 hI'.2).symm
  refine sk (vinB.n (tn (VRun.region (fO (QB (tv (tN i) rfl) (VEv.int .i64 1) (by omega)) (mO (tN (i+1)) rfl (VRunO.nil (tn ?_)))))))
  refine ⟨(i+1:Nat),?_,?_,Wk.mk (fun k=>k) ?_ ?_ ?_⟩
  ·exact hI'.next hx1 fhc1
  ·omega
  ·exact (b2 (b2 (b2 (b2 bn))))
  ·exact bn
  ·exact nd rfl
 refine VRun.exit (vthn.e (vthn.e (vinB.e (tn (sr (fO (OF.assign (VEv.int .i64 (-1))) (nt (rt (vi (n':=(-1)) rfl ?_)))))))))
 exact (QeB (hI'.all fhc0)).symm
theorem Yw (n:Nat) (a:List Int) (b:Int) (ha:a.length≤YW):Pure (Qq Tryz.prog (n+2)) 96 [(rd 1 Qa a),(tI b)] (tB (decide (b∈a))):=by
 refine Pure.intro (rs:= [ResultVar.tmp 4]) Tryz.func96 rfl rfl rfl (E0:= [(0,(rd 1 Qa a)),(1,(tI b))]) rfl ?_
 obtain ⟨hlim,hmx,hmax⟩:=QC
 refine sr (fO (OF.assign (VEv.bool false)) (nt (sr (mO (rd 1 Qa a) rfl (mO (tI b) rfl (cO (cS (vc (tv (rd 1 Qa a) rfl) (vc (tv (tI b) rfl) vn)) (ZJ rfl) (QaN (n+0) a b (by assumption)) rfl rfl) (fO (xge (tv (tI (ixF (fun y=>b=y) a)) rfl) (VEv.int .i64 0)) (aO (tB (decide (0≤ixF (fun y=>b=y) a))) rfl (nt (rt (vb (b':=(decide (0≤ixF (fun y=>b=y) a))) rfl ?_)))))))))))
 refine Zb ?_
 rw [Qih]
 exact ⟨fun ⟨x,h1,h2⟩=>h2▸h1,fun h=>⟨b,h,rfl⟩⟩
end Go.Proofs.YtcccmceoplcciaaGreat.AE
namespace Go.Proofs.YtcccmceoplcciaaGreat.AE
open Go Go.RowKit
set_option linter.unusedVariables false
set_option linter.unusedSimpArgs false
set_option maxRecDepth 20000
set_option maxHeartbeats 2000000
noncomputable section
def QaC (ok:Nat→Prop) [DecidablePred ok]:Nat→Nat→Nat
 | 0,n=>n
 | f+1,n=>if ok n then QaC ok f (n+1) else n
theorem QfW {ok:Nat→Prop} [DecidablePred ok] {n:Nat} (h:ok n) (hn:n<6):QaC ok (6 - n) n=QaC ok (6 - (n+1)) (n+1):=by
 obtain ⟨k,hk⟩:∃k,6 - n=k+1:=⟨5 - n,by omega⟩
 rw [hk,show 6 - (n+1)=k by omega]
 simp only [QaC,if_pos h]
theorem QhL {ok:Nat→Prop} [DecidablePred ok] {n f:Nat} (h:¬ok n):QaC ok f n=n:=by
 cases f with
 | zero=>rfl
 | succ f=>simp only [QaC,if_neg h]
def slA (g:D.Grid) (cell n:Nat):Prop:=((cell % g.Cols.toNat+n:Nat):Int)<g.Cols∧Qu g.Cells (cell+n*1)=46
def slD (g:D.Grid) (cell n:Nat):Prop:=((cell / g.Cols.toNat+n:Nat):Int)<g.Rows∧Qu g.Cells (Int.toNat (((cell:Nat):Int)+((n:Nat):Int)*g.Cols))=46
instance (g:D.Grid) (cell:Nat):DecidablePred (slA g cell):=fun _=>Classical.propDecidable _
instance (g:D.Grid) (cell:Nat):DecidablePred (slD g cell):=fun _=>Classical.propDecidable _
def Qgc (g:D.Grid) (cell:Nat):Nat:=if Qu g.Cells cell=46∧¬(0<cell % g.Cols.toNat∧Qu g.Cells (Int.toNat (((cell:Nat):Int) - 1))=46) then QaC (slA g cell) 6 0 else 0
def QfQ (g:D.Grid) (cell:Nat):Nat:=if Qu g.Cells cell=46∧¬(0<cell / g.Cols.toNat∧Qu g.Cells (Int.toNat (((cell:Nat):Int) - g.Cols))=46) then QaC (slD g cell) 6 0 else 0
def Qo (g:D.Grid) (cell:Nat) (down:Bool):Nat:=if down=true then QfQ g cell else Qgc g cell
theorem Ql6 {c:Nat} {w:Int} (h:2≤w):((c:Nat):Int).tmod w=((c % w.toNat:Nat):Int):=by
 obtain ⟨k,rfl⟩:=Int.eq_ofNat_of_zero_le (show 0≤w by omega)
 rfl
theorem Qne {c:Nat} {w:Int} (h:2≤w) (hc:c≤36):IntKind.i64.wrap (((c:Nat):Int).tdiv w)=((c / w.toNat:Nat):Int):=by
 obtain ⟨k,rfl⟩:=Int.eq_ofNat_of_zero_le (show 0≤w by omega)
 have:c / k≤c:=Nat.div_le_self _ _
 show IntKind.i64.wrap ((c / k:Nat):Int)=((c / k:Nat):Int)
 generalize c / k=q at *
 rw [Qt (by omega)]
theorem Qem {n:Nat} {c:Int} (h:n≤6) (h2:2≤c) (h3:c≤6):0≤((n:Nat):Int)*c∧((n:Nat):Int)*c≤36:=by
 have e1:0≤((n:Nat):Int)*c:=Int.mul_nonneg (by omega) (by omega)
 have e2:((n:Nat):Int)*c≤6*6:=Int.mul_le_mul (by omega) h3 (by omega) (by decide)
 omega
theorem QfY {n:Nat} {c:Int} (h:n≤6) (h2:2≤c) (h3:c≤6):IntKind.i64.wrap (((n:Nat):Int)*c)=((n:Nat):Int)*c:=by
 have:=Qem h h2 h3
 rw [Qt (by omega)]
theorem QbB {g:D.Grid} {cell:Nat} (hg:gridOk g) (hc:cell<g.Cells.size):(cell % g.Cols.toNat<g.Cols.toNat∧cell / g.Cols.toNat<g.Rows.toNat)∧(0<cell % g.Cols.toNat→1≤cell)∧(0<cell / g.Cols.toNat→g.Cols.toNat≤cell)∧(∀n:Nat,((cell % g.Cols.toNat+n:Nat):Int)<g.Cols→cell+n<g.Cells.size)∧∀n:Nat,((cell / g.Cols.toNat+n:Nat):Int)<g.Rows→((cell:Nat):Int)+((n:Nat):Int)*g.Cols<g.Cells.size:=by
 obtain ⟨⟨a1,a2⟩,⟨b1,b2⟩,hs,_⟩:=hg
 obtain ⟨w,hw⟩:=Int.eq_ofNat_of_zero_le (show 0≤g.Cols by omega)
 obtain ⟨r,hr⟩:=Int.eq_ofNat_of_zero_le (show 0≤g.Rows by omega)
 have hs2:g.Cells.size=r*w:=by rw [hw,hr] at hs;exact_mod_cast hs
 have hw0:0<w:=by omega
 have hwn:g.Cols.toNat=w:=by omega
 have hrn:g.Rows.toNat=r:=by omega
 rw [hwn,hrn]
 have h1:cell % w<w:=Nat.mod_lt _ hw0
 have h2:cell / w<r:=(Nat.div_lt_iff_lt_mul hw0).2 (hs2▸hc)
 have h3:w*(cell / w)+cell % w=cell:=Nat.div_add_mod cell w
 have h4:∀k,k<r→w*k+w≤r*w:=fun k hk=>by
  have:=Nat.mul_le_mul_left w (show k+1≤r from hk)
  rw [Nat.mul_add,Nat.mul_one,Nat.mul_comm w r] at this
  exact this
 refine ⟨⟨h1,h2⟩,fun h=> ?_,fun h=> ?_,fun n hn=> ?_,fun n hn=> ?_⟩
 ·have:=Nat.mod_le cell w;omega
 ·have:=Nat.mul_le_mul_left w (show 1≤cell / w from h)
  rw [Nat.mul_one] at this
  generalize w*(cell / w)=q2 at *
  generalize cell % w=q3 at *
  omega
 ·have:=h4 _ h2
  generalize w*(cell / w)=q2 at *
  generalize cell % w=q3 at *
  omega
 ·have h5:=h4 (cell / w+n) (by omega)
  rw [Nat.mul_add] at h5
  have h6:((n:Nat):Int)*g.Cols=((w*n:Nat):Int):=by rw [hw,Int.mul_comm];rfl
  rw [h6]
  generalize w*n=q at *
  generalize w*(cell / w)=q2 at *
  generalize cell % w=q3 at *
  omega
theorem QiH {g:D.Grid} {cell:Nat} (h:¬Qu g.Cells cell=46∨(0<cell % g.Cols.toNat∧Qu g.Cells (Int.toNat (((cell:Nat):Int) - 1))=46)):Qgc g cell=0:=if_neg (by omega)
theorem Qie {g:D.Grid} {cell:Nat} (h:¬Qu g.Cells cell=46∨(0<cell / g.Cols.toNat∧Qu g.Cells (Int.toNat (((cell:Nat):Int) - g.Cols))=46)):QfQ g cell=0:=if_neg (by omega)
theorem QjI {g:D.Grid} {cell n:Nat} (h:Qu g.Cells cell=46∧¬(0<cell % g.Cols.toNat∧Qu g.Cells (Int.toNat (((cell:Nat):Int) - 1))=46)) (hr:QaC (slA g cell) 6 0=QaC (slA g cell) (6 - n) n) (hn:¬slA g cell n):Qgc g cell=n:=by
 rw [Qgc,if_pos h,hr,QhL hn]
theorem QjP {g:D.Grid} {cell n:Nat} (h:Qu g.Cells cell=46∧¬(0<cell / g.Cols.toNat∧Qu g.Cells (Int.toNat (((cell:Nat):Int) - g.Cols))=46)) (hr:QaC (slD g cell) 6 0=QaC (slD g cell) (6 - n) n) (hn:¬slD g cell n):QfQ g cell=n:=by
 rw [QfQ,if_pos h,hr,QhL hn]
theorem zD {g:D.Grid} {cell:Nat} {down:Bool} (hd:down=true) (h:¬Qu g.Cells cell=46∨(0<cell / g.Cols.toNat∧Qu g.Cells (Int.toNat (((cell:Nat):Int) - g.Cols))=46)):(0:Int)=((Qo g cell down:Nat):Int):=by
 rw [Qo,if_pos hd,Qie h];rfl
theorem zA {g:D.Grid} {cell:Nat} {down:Bool} (hd:down=false) (h:¬Qu g.Cells cell=46∨(0<cell % g.Cols.toNat∧Qu g.Cells (Int.toNat (((cell:Nat):Int) - 1))=46)):(0:Int)=((Qo g cell down:Nat):Int):=by
 rw [Qo,if_neg (by simp [hd]),QiH h];rfl
def Y9 (g:D.Grid) (cell:Nat) (down:Bool) (n:Nat):Prop:=if down=true then QaC (slD g cell) 6 0=QaC (slD g cell) (6 - n) n else QaC (slA g cell) 6 0=QaC (slA g cell) (6 - n) n
theorem YP (g:D.Grid) (cell:Nat) (down:Bool):Y9 g cell down 0:=by
 unfold Y9
 split<;>rfl
theorem rD {g:D.Grid} {cell n:Nat} {down:Bool} (hd:down=true) (h:Qu g.Cells cell=46∧¬(0<cell / g.Cols.toNat∧Qu g.Cells (Int.toNat (((cell:Nat):Int) - g.Cols))=46)) (hr:Y9 g cell down n) (hn:¬slD g cell n):((n:Nat):Int)=((Qo g cell down:Nat):Int):=by
 rw [Y9,if_pos hd] at hr
 rw [Qo,if_pos hd,QjP h hr hn]
theorem rA {g:D.Grid} {cell n:Nat} {down:Bool} (hd:down=false) (h:Qu g.Cells cell=46∧¬(0<cell % g.Cols.toNat∧Qu g.Cells (Int.toNat (((cell:Nat):Int) - 1))=46)) (hr:Y9 g cell down n) (hn:¬slA g cell n):((n:Nat):Int)=((Qo g cell down:Nat):Int):=by
 rw [Y9,if_neg (by simp [hd])] at hr
 rw [Qo,if_neg (by simp [hd]),QjI h hr hn]
theorem Qi5 {g:D.Grid} {cell n:Nat} {down:Bool} (hd:down=true) (hr:Y9 g cell down n) (hn:slD g cell n) (h6:n<6):Y9 g cell down (n+1):=by
 rw [Y9,if_pos hd] at *
 rw [hr,QfW hn h6]
theorem Qjg {g:D.Grid} {cell n:Nat} {down:Bool} (hd:down=false) (hr:Y9 g cell down n) (hn:slA g cell n) (h6:n<6):Y9 g cell down (n+1):=by
 rw [Y9,if_neg (by simp [hd])] at *
 rw [hr,QfW hn h6]
end
theorem Qb3 (n:Nat) (g:D.Grid) (cell:Nat) (down:Bool) (hg:gridOk g) (hc:cell<g.Cells.size):Pure (Qq Tryz.prog (n+1)) 131 [(T.agg (Qc false g)),(tN cell),(tB down)] (tN (Qo g cell down)):=by
 refine Pure.intro (rs:= [ResultVar.tmp 6]) Tryz.func131 rfl rfl rfl (E0:= [(0,(T.agg (Qc false g))),(1,(tN cell)),(2,(tB down))]) rfl ?_
 obtain ⟨hlim,hmx,hmax⟩:=QC
 have hsz:=hg.size
 have hA:=hg.1
 have hB:=hg.2.1
 obtain ⟨hC1,hC2,hC3,hC4,hC5⟩:=QbB hg hc
 have hq0:0≤((cell:Nat):Int) / ((g.Cols.toNat:Nat):Int):=Int.ediv_nonneg (by omega) (by omega)
 have hm0:0≤((cell:Nat):Int) % ((g.Cols.toNat:Nat):Int):=Int.emod_nonneg _ (by omega)
 refine sr (kO (B.box (ts:=(Qc false g)) (tv (T.agg (Qc false g)) rfl) nofun rfl) (fO (OF.assign (VEv.int .i64 0)) (nt (sr (fO (OF.assign (VEv.int .i64 1)) (nt (sr (mO (tN cell) rfl (lf (tI g.Cols) rfl Zn rfl rfl QU (fO (B.rem (n:=((cell % g.Cols.toNat:Nat):Int)) (tv (tN cell) rfl) (tv (tI g.Cols) rfl) (by omega) (by (refine Ql6 ?_;omega))) (aO (tN (cell % g.Cols.toNat)) rfl ?_)))))))))))
 refine nt (sr (lf (tI g.Cols) rfl Zn rfl rfl QU (aO (tI g.Cols) rfl (nt (sq (sr (mO (tB down) rfl (nt ?_))))))))
 refine VRun.cond (tv (tB down) rfl) (fun hc0=> ?_) (fun hc0=> ?_)
 ·have fhc0:down=true:=hc0
  refine sr (lf (tI g.Cols) rfl Zn rfl rfl QU (aO (tI g.Cols) rfl (nt (sr (mO (tN cell) rfl (lf (tI g.Cols) rfl Zn rfl rfl QU (fO (B.quo (n:=((cell / g.Cols.toNat:Nat):Int)) (tv (tN cell) rfl) (tv (tI g.Cols) rfl) (by omega) (by (refine Qne ?_ ?_<;>omega))) (aO (tN (cell / g.Cols.toNat)) rfl (nt (VRun.region (lf (tI g.Rows) rfl Qaz rfl rfl QU ?_)))))))))))
  refine aO (tI g.Rows) rfl (VRunO.nil (tn (sq (sr (lf (tS g.Cells) rfl QE rfl rfl Z7 (mO (tN cell) rfl ?_))))))
  have hb1:cell<g.Cells.size:=(by omega)
  refine fO (JN (tv (tS g.Cells) rfl) (tv (tN cell) rfl) hb1 U9) (fO (xne (tv (T.int .u8 (Qu g.Cells cell)) rfl) (VEv.int .u8 46)) (mO (tB (!(decide (Qu g.Cells cell=46)))) rfl ?_))
  refine gn (Qu g.Cells cell=46) (fun fhg31_2=> ?_) fun fhg31_2=> ?_
  ·refine Qy 3 5 false 31 (ny fhg31_2) rfl rfl rfl ?_
   refine Qac 7 8 true 34 rfl rfl rfl (oO rfl rfl (ny fhg31_2) (fO (OF.pickT (VEv.tmpB rfl (ny fhg31_2)) (VEv.bool true)) (nt (ct rfl (sr (fO (OF.assign (VEv.int .i64 0)) (nt (rt (tr (vi (n':=0) rfl ?_))))))))))
   (refine zD fhc0 ?_;omega)
  refine gF (nz fhg31_2) rfl rfl (OF.move (tv (tN (cell / g.Cols.toNat)) rfl)) (gF (nz fhg31_2) rfl rfl (B.gtr (c:=(decide (0<cell / g.Cols.toNat))) (tv (tN (cell / g.Cols.toNat)) rfl) (VEv.int .i64 0) (by exact Zb (by omega))) (gF (nz fhg31_2) rfl rfl (OF.move (tv (tB (decide (0<cell / g.Cols.toNat))) rfl)) ?_))
  refine gw (0<cell / g.Cols.toNat) (fun fhg34_3=> ?_) fun fhg34_3=> ?_
  ·refine Yl (tS g.Cells) (dy fhg34_3) rfl rfl rfl rfl QE rfl rfl Z7 ?_
   refine gF (dy fhg34_3) rfl rfl (OF.move (tv (tN cell) rfl)) (gF (dy fhg34_3) rfl rfl (OF.move (tv (tI g.Cols) rfl)) (gF (dy fhg34_3) rfl rfl (B.sub (n:=(((cell:Nat):Int) - g.Cols)) (tv (tN cell) rfl) (tv (tI g.Cols) rfl) (by (rw [Qt (by omega)];done))) ?_))
   have hb4:(Int.toNat (((cell:Nat):Int) - g.Cols))<g.Cells.size:=(by omega)
   refine gF (dy fhg34_3) rfl rfl (B.index (n:=(Qu g.Cells (Int.toNat (((cell:Nat):Int) - g.Cols)))) (i:=(Int.toNat (((cell:Nat):Int) - g.Cols))) (tv (tS g.Cells) rfl) (tv (tI (((cell:Nat):Int) - g.Cols)) rfl) (by omega) hb4 U9 (YN hb4)) (gF (dy fhg34_3) rfl rfl (Y7 (tv (T.int .u8 (Qu g.Cells (Int.toNat (((cell:Nat):Int) - g.Cols)))) rfl) (VEv.int .u8 46)) (gF (nz fhg31_2) rfl rfl (OF.pickT (VEv.tmpB rfl (dy fhg34_3)) (tv (tB (decide (Qu g.Cells (Int.toNat (((cell:Nat):Int) - g.Cols))=46))) rfl)) (fO (OF.pickF (VEv.tmpB rfl (nz fhg31_2)) (tv (tB (decide (Qu g.Cells (Int.toNat (((cell:Nat):Int) - g.Cols))=46))) rfl)) (nt ?_))))
   refine cd (Qu g.Cells (Int.toNat (((cell:Nat):Int) - g.Cols))=46) rfl (fun fhc1=> ?_) fun fhc1=> ?_
   ·refine sr ?_
    refine fO (OF.assign (VEv.int .i64 0)) (nt (rt (tr (vi (n':=0) rfl ?_))))
    (refine zD fhc0 ?_;omega)
   refine sk (tn (sr (fO (OF.assign (VEv.int .i64 0)) (nt (sq (VRun.block ?_))))))
   refine VRun.loop (A:=Nat) (fun s_=> [(1,(tN cell)),(3,(T.op 0 0)),(6,(tN 0)),(7,(tI g.Cols)),(8,(tN (cell / g.Cols.toNat))),(9,(tI g.Rows)),(10,(tN s_))]) (fun s_=>Q3 [(0,(Obj.cells (Qc false g)))]) 1 (fun s_=>s_≤6∧Y9 g cell down s_) (fun s_=>6 - s_) (0:Nat) ?_ (Wk.mk (fun k=>k) ?_ ?_ ?_) ?_
   ·exact ⟨Nat.zero_le _,YP _ _ _⟩
   ·exact (b2 (b2 (b2 (b2 (b2 (b2 (b2 bn)))))))
   ·exact (b3 bn)
   ·exact nd rfl
   rintro n (hI':n≤6∧Y9 g cell down n)
   show VRun _ _ _ [(1,(tN cell)),(3,(T.op 0 0)),(6,(tN 0)),(7,(tI g.Cols)),(8,(tN (cell / g.Cols.toNat))),(9,(tI g.Rows)),(10,(tN n))] (Q3 [(0,(Obj.cells (Qc false g)))]) 1 _
   have hI1:=hI'.1
   have hN:=Qem hI1 hB.1 hB.2
   have hC6:=hC4 n
   have hC7:=hC5 n
   refine sq (sr (mO (tN (cell / g.Cols.toNat)) rfl (mO (tN n) rfl (fO (B.add (n:=(((cell / g.Cols.toNat+n):Nat):Int)) (tv (tN (cell / g.Cols.toNat)) rfl) (tv (tN n) rfl) (by (rw [Qt (by omega)];omega))) (mO (tI g.Rows) rfl (fO (xls (tv (tN (cell / g.Cols.toNat+n)) rfl) (tv (tI g.Rows) rfl)) (mO (tB (decide ((((cell / g.Cols.toNat+n):Nat):Int)<g.Rows))) rfl ?_)))))))
   refine gw ((((cell / g.Cols.toNat+n):Nat):Int)<g.Rows) (fun fhg49_5=> ?_) fun fhg49_5=> ?_
   ·refine Yl (tS g.Cells) (dy fhg49_5) rfl rfl rfl rfl QE rfl rfl Z7 ?_
    refine gF (dy fhg49_5) rfl rfl (OF.move (tv (tN cell) rfl)) (gF (dy fhg49_5) rfl rfl (OF.move (tv (tN n) rfl)) (gF (dy fhg49_5) rfl rfl (OF.move (tv (tI g.Cols) rfl)) (gF (dy fhg49_5) rfl rfl (B.mul (n:=(((n:Nat):Int)*g.Cols)) (tv (tN n) rfl) (tv (tI g.Cols) rfl) (by (refine QfY ?_ ?_ ?_<;>omega))) (gF (dy fhg49_5) rfl rfl (B.add (n:=(((cell:Nat):Int)+(((n:Nat):Int)*g.Cols))) (tv (tN cell) rfl) (tv (tI (((n:Nat):Int)*g.Cols)) rfl) (by (rw [Qt (by omega)];done))) ?_))))
    have hb6:(Int.toNat (((cell:Nat):Int)+(((n:Nat):Int)*g.Cols)))<g.Cells.size:=(by omega)
    refine gF (dy fhg49_5) rfl rfl (B.index (n:=(Qu g.Cells (Int.toNat (((cell:Nat):Int)+(((n:Nat):Int)*g.Cols))))) (i:=(Int.toNat (((cell:Nat):Int)+(((n:Nat):Int)*g.Cols)))) (tv (tS g.Cells) rfl) (tv (tI (((cell:Nat):Int)+(((n:Nat):Int)*g.Cols))) rfl) (by omega) hb6 U9 (YN hb6)) (gF (dy fhg49_5) rfl rfl (Y7 (tv (T.int .u8 (Qu g.Cells (Int.toNat (((cell:Nat):Int)+(((n:Nat):Int)*g.Cols))))) rfl) (VEv.int .u8 46)) (fO (OF.pickT (VEv.tmpB rfl (dy fhg49_5)) (tv (tB (decide (Qu g.Cells (Int.toNat (((cell:Nat):Int)+(((n:Nat):Int)*g.Cols)))=46))) rfl)) (nt ?_)))
    refine cd (Qu g.Cells (Int.toNat (((cell:Nat):Int)+(((n:Nat):Int)*g.Cols)))=46) rfl (fun fhc2=> ?_) fun fhc2=> ?_
    ·refine sk ?_
     refine tn (VRun.block (VRun.region (mO (tN n) rfl (fO (QB (tv (tN n) rfl) (VEv.int .i64 1) (by omega)) (aO (tN (n+1)) rfl (VRunO.nil (vinB.n (tn ?_))))))))
     refine ⟨(n+1:Nat),?_,?_,Wk.mk (fun k=>k) ?_ ?_ ?_⟩
     ·(refine ⟨?_,Qi5 fhc0 hI'.2 ?_ ?_⟩<;>first | omega | (unfold slD;omega))
     ·omega
     ·exact (b2 (b2 (b2 (b2 (b2 (b2 (b2 bn)))))))
     ·exact (b3 bn)
     ·exact nd rfl
    refine VRun.exit (vthn.e (vthn.e (vinB.e (tn (sr (mO (tN n) rfl (aO (tN n) rfl (nt (rt (vi (n':=((n:Nat):Int)) rfl ?_))))))))))
    (refine rD fhc0 ?_ hI'.2 ?_<;>first | omega | (unfold slD;omega))
   refine Qy 9 5 true 49 (dz fhg49_5) rfl rfl rfl (fO (OF.pickF (VEv.tmpB rfl (dz fhg49_5)) (VEv.bool false)) (nt (cf rfl (VRun.exit (vthn.e (vthn.e (vinB.e (tn (sr (mO (tN n) rfl (aO (tN n) rfl ?_)))))))))))
   refine nt (rt (vi (n':=((n:Nat):Int)) rfl ?_))
   (refine rD fhc0 ?_ hI'.2 ?_<;>first | omega | (unfold slD;omega))
  refine Qy 7 8 true 34 (dz fhg34_3) rfl rfl rfl (gF (nz fhg31_2) rfl rfl (OF.pickF (VEv.tmpB rfl (dz fhg34_3)) (VEv.bool false)) (fO (OF.pickF (VEv.tmpB rfl (nz fhg31_2)) (tv (tB false) rfl)) (nt (cf rfl (sk (tn (sr (fO (OF.assign (VEv.int .i64 0)) (nt (sq (VRun.block ?_)))))))))))
  refine VRun.loop (A:=Nat) (fun s_=> [(1,(tN cell)),(3,(T.op 0 0)),(6,(tN 0)),(7,(tI g.Cols)),(8,(tN (cell / g.Cols.toNat))),(9,(tI g.Rows)),(10,(tN s_))]) (fun s_=>Q3 [(0,(Obj.cells (Qc false g)))]) 1 (fun s_=>s_≤6∧Y9 g cell down s_) (fun s_=>6 - s_) (0:Nat) ?_ (Wk.mk (fun k=>k) ?_ ?_ ?_) ?_
  ·exact ⟨Nat.zero_le _,YP _ _ _⟩
  ·exact (b2 (b2 (b2 (b2 (b2 (b2 (b2 bn)))))))
  ·exact (b3 bn)
  ·exact nd rfl
  rintro n (hI':n≤6∧Y9 g cell down n)
  show VRun _ _ _ [(1,(tN cell)),(3,(T.op 0 0)),(6,(tN 0)),(7,(tI g.Cols)),(8,(tN (cell / g.Cols.toNat))),(9,(tI g.Rows)),(10,(tN n))] (Q3 [(0,(Obj.cells (Qc false g)))]) 1 _
  have hI1:=hI'.1
  have hN:=Qem hI1 hB.1 hB.2
  have hC6:=hC4 n
  have hC7:=hC5 n
  refine sq (sr (mO (tN (cell / g.Cols.toNat)) rfl (mO (tN n) rfl (fO (B.add (n:=(((cell / g.Cols.toNat+n):Nat):Int)) (tv (tN (cell / g.Cols.toNat)) rfl) (tv (tN n) rfl) (by (rw [Qt (by omega)];omega))) (mO (tI g.Rows) rfl (fO (xls (tv (tN (cell / g.Cols.toNat+n)) rfl) (tv (tI g.Rows) rfl)) (mO (tB (decide ((((cell / g.Cols.toNat+n):Nat):Int)<g.Rows))) rfl ?_)))))))
  refine gw ((((cell / g.Cols.toNat+n):Nat):Int)<g.Rows) (fun fhg49_7=> ?_) fun fhg49_7=> ?_
  ·refine Yl (tS g.Cells) (dy fhg49_7) rfl rfl rfl rfl QE rfl rfl Z7 ?_
   refine gF (dy fhg49_7) rfl rfl (OF.move (tv (tN cell) rfl)) (gF (dy fhg49_7) rfl rfl (OF.move (tv (tN n) rfl)) (gF (dy fhg49_7) rfl rfl (OF.move (tv (tI g.Cols) rfl)) (gF (dy fhg49_7) rfl rfl (B.mul (n:=(((n:Nat):Int)*g.Cols)) (tv (tN n) rfl) (tv (tI g.Cols) rfl) (by (refine QfY ?_ ?_ ?_<;>omega))) (gF (dy fhg49_7) rfl rfl (B.add (n:=(((cell:Nat):Int)+(((n:Nat):Int)*g.Cols))) (tv (tN cell) rfl) (tv (tI (((n:Nat):Int)*g.Cols)) rfl) (by (rw [Qt (by omega)];done))) ?_))))
   have hb8:(Int.toNat (((cell:Nat):Int)+(((n:Nat):Int)*g.Cols)))<g.Cells.size:=(by omega)
   refine gF (dy fhg49_7) rfl rfl (B.index (n:=(Qu g.Cells (Int.toNat (((cell:Nat):Int)+(((n:Nat):Int)*g.Cols))))) (i:=(Int.toNat (((cell:Nat):Int)+(((n:Nat):Int)*g.Cols)))) (tv (tS g.Cells) rfl) (tv (tI (((cell:Nat):Int)+(((n:Nat):Int)*g.Cols))) rfl) (by omega) hb8 U9 (YN hb8)) (gF (dy fhg49_7) rfl rfl (Y7 (tv (T.int .u8 (Qu g.Cells (Int.toNat (((cell:Nat):Int)+(((n:Nat):Int)*g.Cols))))) rfl) (VEv.int .u8 46)) (fO (OF.pickT (VEv.tmpB rfl (dy fhg49_7)) (tv (tB (decide (Qu g.Cells (Int.toNat (((cell:Nat):Int)+(((n:Nat):Int)*g.Cols)))=46))) rfl)) (nt ?_)))
   refine cd (Qu g.Cells (Int.toNat (((cell:Nat):Int)+(((n:Nat):Int)*g.Cols)))=46) rfl (fun fhc2=> ?_) fun fhc2=> ?_
   ·refine sk ?_
    refine tn (VRun.block (VRun.region (mO (tN n) rfl (fO (QB (tv (tN n) rfl) (VEv.int .i64 1) (by omega)) (aO (tN (n+1)) rfl (VRunO.nil (vinB.n (tn ?_))))))))
    refine ⟨(n+1:Nat),?_,?_,Wk.mk (fun k=>k) ?_ ?_ ?_⟩
    ·(refine ⟨?_,Qi5 fhc0 hI'.2 ?_ ?_⟩<;>first | omega | (unfold slD;omega))
    ·omega
    ·exact (b2 (b2 (b2 (b2 (b2 (b2 (b2 bn)))))))
    ·exact (b3 bn)
    ·exact nd rfl
   refine VRun.exit (vthn.e (vthn.e (vinB.e (tn (sr (mO (tN n) rfl (aO (tN n) rfl (nt (rt (vi (n':=((n:Nat):Int)) rfl ?_))))))))))
   (refine rD fhc0 ?_ hI'.2 ?_<;>first | omega | (unfold slD;omega))
  refine Qy 9 5 true 49 (dz fhg49_7) rfl rfl rfl (fO (OF.pickF (VEv.tmpB rfl (dz fhg49_7)) (VEv.bool false)) (nt (cf rfl (VRun.exit (vthn.e (vthn.e (vinB.e (tn (sr (mO (tN n) rfl (aO (tN n) rfl ?_)))))))))))
  refine nt (rt (vi (n':=((n:Nat):Int)) rfl ?_))
  (refine rD fhc0 ?_ hI'.2 ?_<;>first | omega | (unfold slD;omega))
 have fhc0:down=false:=hc0
 refine sk (tn (sq (sr (lf (tS g.Cells) rfl QE rfl rfl Z7 (mO (tN cell) rfl ?_)))))
 have hb9:cell<g.Cells.size:=(by omega)
 refine fO (JN (tv (tS g.Cells) rfl) (tv (tN cell) rfl) hb9 U9) (fO (xne (tv (T.int .u8 (Qu g.Cells cell)) rfl) (VEv.int .u8 46)) (mO (tB (!(decide (Qu g.Cells cell=46)))) rfl ?_))
 refine gn (Qu g.Cells cell=46) (fun fhg31_10=> ?_) fun fhg31_10=> ?_
 ·refine Qy 3 5 false 31 (ny fhg31_10) rfl rfl rfl ?_
  refine Qac 7 8 true 34 rfl rfl rfl (oO rfl rfl (ny fhg31_10) (fO (OF.pickT (VEv.tmpB rfl (ny fhg31_10)) (VEv.bool true)) (nt (ct rfl (sr (fO (OF.assign (VEv.int .i64 0)) (nt (rt (tr (vi (n':=0) rfl ?_))))))))))
  (refine zA fhc0 ?_;omega)
 refine gF (nz fhg31_10) rfl rfl (OF.move (tv (tN (cell % g.Cols.toNat)) rfl)) (gF (nz fhg31_10) rfl rfl (B.gtr (c:=(decide (0<cell % g.Cols.toNat))) (tv (tN (cell % g.Cols.toNat)) rfl) (VEv.int .i64 0) (by exact Zb (by omega))) (gF (nz fhg31_10) rfl rfl (OF.move (tv (tB (decide (0<cell % g.Cols.toNat))) rfl)) ?_))
 refine gw (0<cell % g.Cols.toNat) (fun fhg34_11=> ?_) fun fhg34_11=> ?_
 ·refine Yl (tS g.Cells) (dy fhg34_11) rfl rfl rfl rfl QE rfl rfl Z7 ?_
  refine gF (dy fhg34_11) rfl rfl (OF.move (tv (tN cell) rfl)) (gF (dy fhg34_11) rfl rfl (OF.move (tv (tN 1) rfl)) (gF (dy fhg34_11) rfl rfl (B.sub (n:=(((cell:Nat):Int) - 1)) (tv (tN cell) rfl) (tv (tN 1) rfl) (by (rw [Qt (by omega)];omega))) ?_))
  have hb12:(Int.toNat (((cell:Nat):Int) - 1))<g.Cells.size:=(by omega)
  refine gF (dy fhg34_11) rfl rfl (B.index (n:=(Qu g.Cells (Int.toNat (((cell:Nat):Int) - 1)))) (i:=(Int.toNat (((cell:Nat):Int) - 1))) (tv (tS g.Cells) rfl) (tv (tI (((cell:Nat):Int) - 1)) rfl) (by omega) hb12 U9 (YN hb12)) (gF (dy fhg34_11) rfl rfl (Y7 (tv (T.int .u8 (Qu g.Cells (Int.toNat (((cell:Nat):Int) - 1)))) rfl) (VEv.int .u8 46)) (gF (nz fhg31_10) rfl rfl (OF.pickT (VEv.tmpB rfl (dy fhg34_11)) (tv (tB (decide (Qu g.Cells (Int.toNat (((cell:Nat):Int) - 1))=46))) rfl)) (fO (OF.pickF (VEv.tmpB rfl (nz fhg31_10)) (tv (tB (decide (Qu g.Cells (Int.toNat (((cell:Nat):Int) - 1))=46))) rfl)) (nt ?_))))
  refine cd (Qu g.Cells (Int.toNat (((cell:Nat):Int) - 1))=46) rfl (fun fhc1=> ?_) fun fhc1=> ?_
  ·refine sr ?_
   refine fO (OF.assign (VEv.int .i64 0)) (nt (rt (tr (vi (n':=0) rfl ?_))))
   (refine zA fhc0 ?_;omega)
  refine sk (tn (sr (fO (OF.assign (VEv.int .i64 0)) (nt (sq (VRun.block ?_))))))
  refine VRun.loop (A:=Nat) (fun s_=> [(1,(tN cell)),(3,(T.op 0 0)),(6,(tN 0)),(7,(tN 1)),(8,(tN (cell % g.Cols.toNat))),(9,(tI g.Cols)),(10,(tN s_))]) (fun s_=>Q3 [(0,(Obj.cells (Qc false g)))]) 1 (fun s_=>s_≤6∧Y9 g cell down s_) (fun s_=>6 - s_) (0:Nat) ?_ (Wk.mk (fun k=>k) ?_ ?_ ?_) ?_
  ·exact ⟨Nat.zero_le _,YP _ _ _⟩
  ·exact (b2 (b2 (b2 (b2 (b2 (b2 (b2 bn)))))))
  ·exact (b3 bn)
  ·exact nd rfl
  rintro n (hI':n≤6∧Y9 g cell down n)
  show VRun _ _ _ [(1,(tN cell)),(3,(T.op 0 0)),(6,(tN 0)),(7,(tN 1)),(8,(tN (cell % g.Cols.toNat))),(9,(tI g.Cols)),(10,(tN n))] (Q3 [(0,(Obj.cells (Qc false g)))]) 1 _
  have hI1:=hI'.1
  have hN:=Qem hI1 hB.1 hB.2
  have hC6:=hC4 n
  have hC7:=hC5 n
  refine sq (sr (mO (tN (cell % g.Cols.toNat)) rfl (mO (tN n) rfl (fO (B.add (n:=(((cell % g.Cols.toNat+n):Nat):Int)) (tv (tN (cell % g.Cols.toNat)) rfl) (tv (tN n) rfl) (by (rw [Qt (by omega)];omega))) (mO (tI g.Cols) rfl (fO (xls (tv (tN (cell % g.Cols.toNat+n)) rfl) (tv (tI g.Cols) rfl)) (mO (tB (decide ((((cell % g.Cols.toNat+n):Nat):Int)<g.Cols))) rfl ?_)))))))
  refine gw ((((cell % g.Cols.toNat+n):Nat):Int)<g.Cols) (fun fhg49_13=> ?_) fun fhg49_13=> ?_
  ·refine Yl (tS g.Cells) (dy fhg49_13) rfl rfl rfl rfl QE rfl rfl Z7 ?_
   refine gF (dy fhg49_13) rfl rfl (OF.move (tv (tN cell) rfl)) (gF (dy fhg49_13) rfl rfl (OF.move (tv (tN n) rfl)) (gF (dy fhg49_13) rfl rfl (OF.move (tv (tN 1) rfl)) (gF (dy fhg49_13) rfl rfl (B.mul (n:=(((n*1):Nat):Int)) (tv (tN n) rfl) (tv (tN 1) rfl) (by (rw [Qt (by omega)];omega))) (gF (dy fhg49_13) rfl rfl (B.add (n:=(((cell+(n*1)):Nat):Int)) (tv (tN cell) rfl) (tv (tN (n*1)) rfl) (by (rw [Qt (by omega)];omega))) ?_))))
   have hb14:(cell+(n*1))<g.Cells.size:=(by omega)
   refine gF (dy fhg49_13) rfl rfl (JN (tv (tS g.Cells) rfl) (tv (tN (cell+(n*1))) rfl) hb14 U9) (gF (dy fhg49_13) rfl rfl (Y7 (tv (T.int .u8 (Qu g.Cells (cell+(n*1)))) rfl) (VEv.int .u8 46)) (fO (OF.pickT (VEv.tmpB rfl (dy fhg49_13)) (tv (tB (decide (Qu g.Cells (cell+(n*1))=46))) rfl)) (nt ?_)))
   refine cd (Qu g.Cells (cell+(n*1))=46) rfl (fun fhc2=> ?_) fun fhc2=> ?_
   ·refine sk ?_
    refine tn (VRun.block (VRun.region (mO (tN n) rfl (fO (QB (tv (tN n) rfl) (VEv.int .i64 1) (by omega)) (aO (tN (n+1)) rfl (VRunO.nil (vinB.n (tn ?_))))))))
    refine ⟨(n+1:Nat),?_,?_,Wk.mk (fun k=>k) ?_ ?_ ?_⟩
    ·(refine ⟨?_,Qjg fhc0 hI'.2 ?_ ?_⟩<;>first | omega | (unfold slA;omega))
    ·omega
    ·exact (b2 (b2 (b2 (b2 (b2 (b2 (b2 bn)))))))
    ·exact (b3 bn)
    ·exact nd rfl
   refine VRun.exit (vthn.e (vthn.e (vinB.e (tn (sr (mO (tN n) rfl (aO (tN n) rfl (nt (rt (vi (n':=((n:Nat):Int)) rfl ?_))))))))))
   (refine rA fhc0 ?_ hI'.2 ?_<;>first | omega | (unfold slA;omega))
  refine Qy 9 5 true 49 (dz fhg49_13) rfl rfl rfl (fO (OF.pickF (VEv.tmpB rfl (dz fhg49_13)) (VEv.bool false)) (nt (cf rfl (VRun.exit (vthn.e (vthn.e (vinB.e (tn (sr (mO (tN n) rfl (aO (tN n) rfl ?_)))))))))))
  refine nt (rt (vi (n':=((n:Nat):Int)) rfl ?_))
  (refine rA fhc0 ?_ hI'.2 ?_<;>first | omega | (unfold slA;omega))
 refine Qy 7 8 true 34 (dz fhg34_11) rfl rfl rfl (gF (nz fhg31_10) rfl rfl (OF.pickF (VEv.tmpB rfl (dz fhg34_11)) (VEv.bool false)) (fO (OF.pickF (VEv.tmpB rfl (nz fhg31_10)) (tv (tB false) rfl)) (nt (cf rfl (sk (tn (sr (fO (OF.assign (VEv.int .i64 0)) (nt (sq (VRun.block ?_)))))))))))
 refine VRun.loop (A:=Nat) (fun s_=> [(1,(tN cell)),(3,(T.op 0 0)),(6,(tN 0)),(7,(tN 1)),(8,(tN (cell % g.Cols.toNat))),(9,(tI g.Cols)),(10,(tN s_))]) (fun s_=>Q3 [(0,(Obj.cells (Qc false g)))]) 1 (fun s_=>s_≤6∧Y9 g cell down s_) (fun s_=>6 - s_) (0:Nat) ?_ (Wk.mk (fun k=>k) ?_ ?_ ?_) ?_
 ·exact ⟨Nat.zero_le _,YP _ _ _⟩
 ·exact (b2 (b2 (b2 (b2 (b2 (b2 (b2 bn)))))))
 ·exact (b3 bn)
 ·exact nd rfl
 rintro n (hI':n≤6∧Y9 g cell down n)
 show VRun _ _ _ [(1,(tN cell)),(3,(T.op 0 0)),(6,(tN 0)),(7,(tN 1)),(8,(tN (cell % g.Cols.toNat))),(9,(tI g.Cols)),(10,(tN n))] (Q3 [(0,(Obj.cells (Qc false g)))]) 1 _
 have hI1:=hI'.1
 have hN:=Qem hI1 hB.1 hB.2
 have hC6:=hC4 n
 have hC7:=hC5 n
 refine sq (sr (mO (tN (cell % g.Cols.toNat)) rfl (mO (tN n) rfl (fO (B.add (n:=(((cell % g.Cols.toNat+n):Nat):Int)) (tv (tN (cell % g.Cols.toNat)) rfl) (tv (tN n) rfl) (by (rw [Qt (by omega)];omega))) (mO (tI g.Cols) rfl (fO (xls (tv (tN (cell % g.Cols.toNat+n)) rfl) (tv (tI g.Cols) rfl)) (mO (tB (decide ((((cell % g.Cols.toNat+n):Nat):Int)<g.Cols))) rfl ?_)))))))
 refine gw ((((cell % g.Cols.toNat+n):Nat):Int)<g.Cols) (fun fhg49_15=> ?_) fun fhg49_15=> ?_
 ·refine Yl (tS g.Cells) (dy fhg49_15) rfl rfl rfl rfl QE rfl rfl Z7 ?_
  refine gF (dy fhg49_15) rfl rfl (OF.move (tv (tN cell) rfl)) (gF (dy fhg49_15) rfl rfl (OF.move (tv (tN n) rfl)) (gF (dy fhg49_15) rfl rfl (OF.move (tv (tN 1) rfl)) (gF (dy fhg49_15) rfl rfl (B.mul (n:=(((n*1):Nat):Int)) (tv (tN n) rfl) (tv (tN 1) rfl) (by (rw [Qt (by omega)];omega))) (gF (dy fhg49_15) rfl rfl (B.add (n:=(((cell+(n*1)):Nat):Int)) (tv (tN cell) rfl) (tv (tN (n*1)) rfl) (by (rw [Qt (by omega)];omega))) ?_))))
  have hb16:(cell+(n*1))<g.Cells.size:=(by omega)
  refine gF (dy fhg49_15) rfl rfl (JN (tv (tS g.Cells) rfl) (tv (tN (cell+(n*1))) rfl) hb16 U9) (gF (dy fhg49_15) rfl rfl (Y7 (tv (T.int .u8 (Qu g.Cells (cell+(n*1)))) rfl) (VEv.int .u8 46)) (fO (OF.pickT (VEv.tmpB rfl (dy fhg49_15)) (tv (tB (decide (Qu g.Cells (cell+(n*1))=46))) rfl)) (nt ?_)))
  refine cd (Qu g.Cells (cell+(n*1))=46) rfl (fun fhc2=> ?_) fun fhc2=> ?_
  ·refine sk ?_
   refine tn (VRun.block (VRun.region (mO (tN n) rfl (fO (QB (tv (tN n) rfl) (VEv.int .i64 1) (by omega)) (aO (tN (n+1)) rfl (VRunO.nil (vinB.n (tn ?_))))))))
   refine ⟨(n+1:Nat),?_,?_,Wk.mk (fun k=>k) ?_ ?_ ?_⟩
   ·(refine ⟨?_,Qjg fhc0 hI'.2 ?_ ?_⟩<;>first | omega | (unfold slA;omega))
   ·omega
   ·exact (b2 (b2 (b2 (b2 (b2 (b2 (b2 bn)))))))
   ·exact (b3 bn)
   ·exact nd rfl
  refine VRun.exit (vthn.e (vthn.e (vinB.e (tn (sr (mO (tN n) rfl (aO (tN n) rfl (nt (rt (vi (n':=((n:Nat):Int)) rfl ?_))))))))))
  (refine rA fhc0 ?_ hI'.2 ?_<;>first | omega | (unfold slA;omega))
 refine Qy 9 5 true 49 (dz fhg49_15) rfl rfl rfl (fO (OF.pickF (VEv.tmpB rfl (dz fhg49_15)) (VEv.bool false)) (nt (cf rfl (VRun.exit (vthn.e (vthn.e (vinB.e (tn (sr (mO (tN n) rfl (aO (tN n) rfl ?_)))))))))))
 refine nt (rt (vi (n':=((n:Nat):Int)) rfl ?_))
 (refine rA fhc0 ?_ hI'.2 ?_<;>first | omega | (unfold slA;omega))
theorem QeF (n:Nat) (g:D.Grid) (cell:Nat) (down:Bool) (hg:gridOk g) (hc:cell<g.Cells.size):Pure (Qq Tryz.prog (n+1)) 140 [(T.agg (Qc false g)),(tN cell),(tB down)] (tN (Qo g cell down)):=by
 refine Pure.intro (rs:= [ResultVar.tmp 6]) Tryz.func140 rfl rfl rfl (E0:= [(0,(T.agg (Qc false g))),(1,(tN cell)),(2,(tB down))]) rfl ?_
 obtain ⟨hlim,hmx,hmax⟩:=QC
 have hsz:=hg.size
 have hA:=hg.1
 have hB:=hg.2.1
 obtain ⟨hC1,hC2,hC3,hC4,hC5⟩:=QbB hg hc
 have hq0:0≤((cell:Nat):Int) / ((g.Cols.toNat:Nat):Int):=Int.ediv_nonneg (by omega) (by omega)
 have hm0:0≤((cell:Nat):Int) % ((g.Cols.toNat:Nat):Int):=Int.emod_nonneg _ (by omega)
 refine sr (kO (B.box (ts:=(Qc false g)) (tv (T.agg (Qc false g)) rfl) nofun rfl) (fO (OF.assign (VEv.int .i64 0)) (nt (sq (VRun.draw (B:= [[],[],[1],[1,2,0],[],[4],[],[6,0,2,1,3],[3,1,2,0,6,7,4,5]]) (by kernel_rfl) (by kernel_rfl) (mD (tN cell) rfl rfl (fD (OF.fieldAddrO (tv (T.op 0 0) rfl) Zn) rfl rfl (lD (OL.loadO1 (t:=(tI g.Cols)) (tv (T.op 0 1) rfl) rfl rfl QU) rfl rfl (fD (B.rem (n:=((cell % g.Cols.toNat:Nat):Int)) (tv (tN cell) rfl) (tv (tI g.Cols) rfl) (by omega) (by (refine Ql6 ?_;omega))) rfl rfl (fD (OF.fieldAddrO (tv (T.op 0 0) rfl) Zn) rfl rfl (lD (OL.loadO1 (t:=(tI g.Cols)) (tv (T.op 0 1) rfl) rfl rfl QU) rfl rfl ?_)))))))))))
 refine fD (OF.assign (VEv.int .i64 1)) rfl rfl (fD (OF.assign (tv (tN (cell % g.Cols.toNat)) rfl)) rfl rfl (fD (OF.assign (tv (tI g.Cols) rfl)) rfl rfl (VRunD.nil (tn (sq (sr (mO (tB down) rfl (nt ?_))))))))
 refine VRun.cond (tv (tB down) rfl) (fun hc0=> ?_) (fun hc0=> ?_)
 ·have fhc0:down=true:=hc0
  refine VRun.draw (B:= [[],[0],[],[],[3],[3,4,2],[],[6],[0,1],[1,0,8,2,4,3,5],[5,3,4,2,8,0,1,9,6,7]]) (by kernel_rfl) (by kernel_rfl) (fD (OF.fieldAddrO (tv (T.op 0 0) rfl) Zn) rfl rfl (lD (OL.loadO1 (t:=(tI g.Cols)) (tv (T.op 0 1) rfl) rfl rfl QU) rfl rfl (mD (tN cell) rfl rfl (fD (OF.fieldAddrO (tv (T.op 0 0) rfl) Zn) rfl rfl (lD (OL.loadO1 (t:=(tI g.Cols)) (tv (T.op 0 1) rfl) rfl rfl QU) rfl rfl (fD (B.quo (n:=((cell / g.Cols.toNat:Nat):Int)) (tv (tN cell) rfl) (tv (tI g.Cols) rfl) (by omega) (by (refine Qne ?_ ?_<;>omega))) rfl rfl (fD (OF.fieldAddrO (tv (T.op 0 0) rfl) Qaz) rfl rfl (lD (OL.loadO1 (t:=(tI g.Rows)) (tv (T.op 0 0) rfl) rfl rfl QU) rfl rfl (fD (OF.assign (tv (tI g.Cols) rfl)) rfl rfl (fD (OF.assign (tv (tN (cell / g.Cols.toNat)) rfl)) rfl rfl (fD (OF.assign (tv (tI g.Rows) rfl)) rfl rfl ?_)))))))))))
  refine VRunD.nil (tn (sq (sr (lf (tS g.Cells) rfl QE rfl rfl Z7 (mO (tN cell) rfl ?_)))))
  have hb1:cell<g.Cells.size:=(by omega)
  refine fO (JN (tv (tS g.Cells) rfl) (tv (tN cell) rfl) hb1 U9) (fO (xne (tv (T.int .u8 (Qu g.Cells cell)) rfl) (VEv.int .u8 46)) (mO (tB (!(decide (Qu g.Cells cell=46)))) rfl ?_))
  refine gn (Qu g.Cells cell=46) (fun fhg31_2=> ?_) fun fhg31_2=> ?_
  ·refine Qy 3 5 false 31 (ny fhg31_2) rfl rfl rfl ?_
   refine Qac 7 8 true 34 rfl rfl rfl (oO rfl rfl (ny fhg31_2) (fO (OF.pickT (VEv.tmpB rfl (ny fhg31_2)) (VEv.bool true)) (nt (ct rfl (sr (fO (OF.assign (VEv.int .i64 0)) (nt (rt (tr (vi (n':=0) rfl ?_))))))))))
   (refine zD fhc0 ?_;omega)
  refine gF (nz fhg31_2) rfl rfl (OF.move (tv (tN (cell / g.Cols.toNat)) rfl)) (gF (nz fhg31_2) rfl rfl (B.gtr (c:=(decide (0<cell / g.Cols.toNat))) (tv (tN (cell / g.Cols.toNat)) rfl) (VEv.int .i64 0) (by exact Zb (by omega))) (gF (nz fhg31_2) rfl rfl (OF.move (tv (tB (decide (0<cell / g.Cols.toNat))) rfl)) ?_))
  refine gw (0<cell / g.Cols.toNat) (fun fhg34_3=> ?_) fun fhg34_3=> ?_
  ·refine Yl (tS g.Cells) (dy fhg34_3) rfl rfl rfl rfl QE rfl rfl Z7 ?_
   refine gF (dy fhg34_3) rfl rfl (OF.move (tv (tN cell) rfl)) (gF (dy fhg34_3) rfl rfl (OF.move (tv (tI g.Cols) rfl)) (gF (dy fhg34_3) rfl rfl (B.sub (n:=(((cell:Nat):Int) - g.Cols)) (tv (tN cell) rfl) (tv (tI g.Cols) rfl) (by (rw [Qt (by omega)];done))) ?_))
   have hb4:(Int.toNat (((cell:Nat):Int) - g.Cols))<g.Cells.size:=(by omega)
   refine gF (dy fhg34_3) rfl rfl (B.index (n:=(Qu g.Cells (Int.toNat (((cell:Nat):Int) - g.Cols)))) (i:=(Int.toNat (((cell:Nat):Int) - g.Cols))) (tv (tS g.Cells) rfl) (tv (tI (((cell:Nat):Int) - g.Cols)) rfl) (by omega) hb4 U9 (YN hb4)) (gF (dy fhg34_3) rfl rfl (Y7 (tv (T.int .u8 (Qu g.Cells (Int.toNat (((cell:Nat):Int) - g.Cols)))) rfl) (VEv.int .u8 46)) (gF (nz fhg31_2) rfl rfl (OF.pickT (VEv.tmpB rfl (dy fhg34_3)) (tv (tB (decide (Qu g.Cells (Int.toNat (((cell:Nat):Int) - g.Cols))=46))) rfl)) (fO (OF.pickF (VEv.tmpB rfl (nz fhg31_2)) (tv (tB (decide (Qu g.Cells (Int.toNat (((cell:Nat):Int) - g.Cols))=46))) rfl)) (nt ?_))))
   refine cd (Qu g.Cells (Int.toNat (((cell:Nat):Int) - g.Cols))=46) rfl (fun fhc1=> ?_) fun fhc1=> ?_
   ·refine sr ?_
    refine fO (OF.assign (VEv.int .i64 0)) (nt (rt (tr (vi (n':=0) rfl ?_))))
    (refine zD fhc0 ?_;omega)
   refine sk (tn (sr (fO (OF.assign (VEv.int .i64 0)) (nt (sq (VRun.block ?_))))))
   refine VRun.loop (A:=Nat) (fun s_=> [(1,(tN cell)),(3,(T.op 0 0)),(6,(tN 0)),(7,(tI g.Cols)),(8,(tN (cell / g.Cols.toNat))),(9,(tI g.Rows)),(10,(tN s_))]) (fun s_=>Q3 [(0,(Obj.cells (Qc false g)))]) 1 (fun s_=>s_≤6∧Y9 g cell down s_) (fun s_=>6 - s_) (0:Nat) ?_ (Wk.mk (fun k=>k) ?_ ?_ ?_) ?_
   ·exact ⟨Nat.zero_le _,YP _ _ _⟩
   ·exact (b2 (b2 (b2 (b2 (b2 (b2 (b2 bn)))))))
   ·exact (b3 bn)
   ·exact nd rfl
   rintro n (hI':n≤6∧Y9 g cell down n)
   show VRun _ _ _ [(1,(tN cell)),(3,(T.op 0 0)),(6,(tN 0)),(7,(tI g.Cols)),(8,(tN (cell / g.Cols.toNat))),(9,(tI g.Rows)),(10,(tN n))] (Q3 [(0,(Obj.cells (Qc false g)))]) 1 _
   have hI1:=hI'.1
   have hN:=Qem hI1 hB.1 hB.2
   have hC6:=hC4 n
   have hC7:=hC5 n
   refine sq (sr (mO (tN (cell / g.Cols.toNat)) rfl (mO (tN n) rfl (fO (B.add (n:=(((cell / g.Cols.toNat+n):Nat):Int)) (tv (tN (cell / g.Cols.toNat)) rfl) (tv (tN n) rfl) (by (rw [Qt (by omega)];omega))) (mO (tI g.Rows) rfl (fO (xls (tv (tN (cell / g.Cols.toNat+n)) rfl) (tv (tI g.Rows) rfl)) (mO (tB (decide ((((cell / g.Cols.toNat+n):Nat):Int)<g.Rows))) rfl ?_)))))))
   refine gw ((((cell / g.Cols.toNat+n):Nat):Int)<g.Rows) (fun fhg49_5=> ?_) fun fhg49_5=> ?_
   ·refine Yl (tS g.Cells) (dy fhg49_5) rfl rfl rfl rfl QE rfl rfl Z7 ?_
    refine gF (dy fhg49_5) rfl rfl (OF.move (tv (tN cell) rfl)) (gF (dy fhg49_5) rfl rfl (OF.move (tv (tN n) rfl)) (gF (dy fhg49_5) rfl rfl (OF.move (tv (tI g.Cols) rfl)) (gF (dy fhg49_5) rfl rfl (B.mul (n:=(((n:Nat):Int)*g.Cols)) (tv (tN n) rfl) (tv (tI g.Cols) rfl) (by (refine QfY ?_ ?_ ?_<;>omega))) (gF (dy fhg49_5) rfl rfl (B.add (n:=(((cell:Nat):Int)+(((n:Nat):Int)*g.Cols))) (tv (tN cell) rfl) (tv (tI (((n:Nat):Int)*g.Cols)) rfl) (by (rw [Qt (by omega)];done))) ?_))))
    have hb6:(Int.toNat (((cell:Nat):Int)+(((n:Nat):Int)*g.Cols)))<g.Cells.size:=(by omega)
    refine gF (dy fhg49_5) rfl rfl (B.index (n:=(Qu g.Cells (Int.toNat (((cell:Nat):Int)+(((n:Nat):Int)*g.Cols))))) (i:=(Int.toNat (((cell:Nat):Int)+(((n:Nat):Int)*g.Cols)))) (tv (tS g.Cells) rfl) (tv (tI (((cell:Nat):Int)+(((n:Nat):Int)*g.Cols))) rfl) (by omega) hb6 U9 (YN hb6)) (gF (dy fhg49_5) rfl rfl (Y7 (tv (T.int .u8 (Qu g.Cells (Int.toNat (((cell:Nat):Int)+(((n:Nat):Int)*g.Cols))))) rfl) (VEv.int .u8 46)) (fO (OF.pickT (VEv.tmpB rfl (dy fhg49_5)) (tv (tB (decide (Qu g.Cells (Int.toNat (((cell:Nat):Int)+(((n:Nat):Int)*g.Cols)))=46))) rfl)) (nt ?_)))
    refine cd (Qu g.Cells (Int.toNat (((cell:Nat):Int)+(((n:Nat):Int)*g.Cols)))=46) rfl (fun fhc2=> ?_) fun fhc2=> ?_
    ·refine sk ?_
     refine tn (VRun.block (VRun.region (mO (tN n) rfl (fO (QB (tv (tN n) rfl) (VEv.int .i64 1) (by omega)) (aO (tN (n+1)) rfl (VRunO.nil (vinB.n (tn ?_))))))))
     refine ⟨(n+1:Nat),?_,?_,Wk.mk (fun k=>k) ?_ ?_ ?_⟩
     ·(refine ⟨?_,Qi5 fhc0 hI'.2 ?_ ?_⟩<;>first | omega | (unfold slD;omega))
     ·omega
     ·exact (b2 (b2 (b2 (b2 (b2 (b2 (b2 bn)))))))
     ·exact (b3 bn)
     ·exact nd rfl
    refine VRun.exit (vthn.e (vthn.e (vinB.e (tn (sr (mO (tN n) rfl (aO (tN n) rfl (nt (rt (vi (n':=((n:Nat):Int)) rfl ?_))))))))))
    (refine rD fhc0 ?_ hI'.2 ?_<;>first | omega | (unfold slD;omega))
   refine Qy 9 5 true 49 (dz fhg49_5) rfl rfl rfl (fO (OF.pickF (VEv.tmpB rfl (dz fhg49_5)) (VEv.bool false)) (nt (cf rfl (VRun.exit (vthn.e (vthn.e (vinB.e (tn (sr (mO (tN n) rfl (aO (tN n) rfl ?_)))))))))))
   refine nt (rt (vi (n':=((n:Nat):Int)) rfl ?_))
   (refine rD fhc0 ?_ hI'.2 ?_<;>first | omega | (unfold slD;omega))
  refine Qy 7 8 true 34 (dz fhg34_3) rfl rfl rfl (gF (nz fhg31_2) rfl rfl (OF.pickF (VEv.tmpB rfl (dz fhg34_3)) (VEv.bool false)) (fO (OF.pickF (VEv.tmpB rfl (nz fhg31_2)) (tv (tB false) rfl)) (nt (cf rfl (sk (tn (sr (fO (OF.assign (VEv.int .i64 0)) (nt (sq (VRun.block ?_)))))))))))
  refine VRun.loop (A:=Nat) (fun s_=> [(1,(tN cell)),(3,(T.op 0 0)),(6,(tN 0)),(7,(tI g.Cols)),(8,(tN (cell / g.Cols.toNat))),(9,(tI g.Rows)),(10,(tN s_))]) (fun s_=>Q3 [(0,(Obj.cells (Qc false g)))]) 1 (fun s_=>s_≤6∧Y9 g cell down s_) (fun s_=>6 - s_) (0:Nat) ?_ (Wk.mk (fun k=>k) ?_ ?_ ?_) ?_
  ·exact ⟨Nat.zero_le _,YP _ _ _⟩
  ·exact (b2 (b2 (b2 (b2 (b2 (b2 (b2 bn)))))))
  ·exact (b3 bn)
  ·exact nd rfl
  rintro n (hI':n≤6∧Y9 g cell down n)
  show VRun _ _ _ [(1,(tN cell)),(3,(T.op 0 0)),(6,(tN 0)),(7,(tI g.Cols)),(8,(tN (cell / g.Cols.toNat))),(9,(tI g.Rows)),(10,(tN n))] (Q3 [(0,(Obj.cells (Qc false g)))]) 1 _
  have hI1:=hI'.1
  have hN:=Qem hI1 hB.1 hB.2
  have hC6:=hC4 n
  have hC7:=hC5 n
  refine sq (sr (mO (tN (cell / g.Cols.toNat)) rfl (mO (tN n) rfl (fO (B.add (n:=(((cell / g.Cols.toNat+n):Nat):Int)) (tv (tN (cell / g.Cols.toNat)) rfl) (tv (tN n) rfl) (by (rw [Qt (by omega)];omega))) (mO (tI g.Rows) rfl (fO (xls (tv (tN (cell / g.Cols.toNat+n)) rfl) (tv (tI g.Rows) rfl)) (mO (tB (decide ((((cell / g.Cols.toNat+n):Nat):Int)<g.Rows))) rfl ?_)))))))
  refine gw ((((cell / g.Cols.toNat+n):Nat):Int)<g.Rows) (fun fhg49_7=> ?_) fun fhg49_7=> ?_
  ·refine Yl (tS g.Cells) (dy fhg49_7) rfl rfl rfl rfl QE rfl rfl Z7 ?_
   refine gF (dy fhg49_7) rfl rfl (OF.move (tv (tN cell) rfl)) (gF (dy fhg49_7) rfl rfl (OF.move (tv (tN n) rfl)) (gF (dy fhg49_7) rfl rfl (OF.move (tv (tI g.Cols) rfl)) (gF (dy fhg49_7) rfl rfl (B.mul (n:=(((n:Nat):Int)*g.Cols)) (tv (tN n) rfl) (tv (tI g.Cols) rfl) (by (refine QfY ?_ ?_ ?_<;>omega))) (gF (dy fhg49_7) rfl rfl (B.add (n:=(((cell:Nat):Int)+(((n:Nat):Int)*g.Cols))) (tv (tN cell) rfl) (tv (tI (((n:Nat):Int)*g.Cols)) rfl) (by (rw [Qt (by omega)];done))) ?_))))
   have hb8:(Int.toNat (((cell:Nat):Int)+(((n:Nat):Int)*g.Cols)))<g.Cells.size:=(by omega)
   refine gF (dy fhg49_7) rfl rfl (B.index (n:=(Qu g.Cells (Int.toNat (((cell:Nat):Int)+(((n:Nat):Int)*g.Cols))))) (i:=(Int.toNat (((cell:Nat):Int)+(((n:Nat):Int)*g.Cols)))) (tv (tS g.Cells) rfl) (tv (tI (((cell:Nat):Int)+(((n:Nat):Int)*g.Cols))) rfl) (by omega) hb8 U9 (YN hb8)) (gF (dy fhg49_7) rfl rfl (Y7 (tv (T.int .u8 (Qu g.Cells (Int.toNat (((cell:Nat):Int)+(((n:Nat):Int)*g.Cols))))) rfl) (VEv.int .u8 46)) (fO (OF.pickT (VEv.tmpB rfl (dy fhg49_7)) (tv (tB (decide (Qu g.Cells (Int.toNat (((cell:Nat):Int)+(((n:Nat):Int)*g.Cols)))=46))) rfl)) (nt ?_)))
   refine cd (Qu g.Cells (Int.toNat (((cell:Nat):Int)+(((n:Nat):Int)*g.Cols)))=46) rfl (fun fhc2=> ?_) fun fhc2=> ?_
   ·refine sk ?_
    refine tn (VRun.block (VRun.region (mO (tN n) rfl (fO (QB (tv (tN n) rfl) (VEv.int .i64 1) (by omega)) (aO (tN (n+1)) rfl (VRunO.nil (vinB.n (tn ?_))))))))
    refine ⟨(n+1:Nat),?_,?_,Wk.mk (fun k=>k) ?_ ?_ ?_⟩
    ·(refine ⟨?_,Qi5 fhc0 hI'.2 ?_ ?_⟩<;>first | omega | (unfold slD;omega))
    ·omega
    ·exact (b2 (b2 (b2 (b2 (b2 (b2 (b2 bn)))))))
    ·exact (b3 bn)
    ·exact nd rfl
   refine VRun.exit (vthn.e (vthn.e (vinB.e (tn (sr (mO (tN n) rfl (aO (tN n) rfl (nt (rt (vi (n':=((n:Nat):Int)) rfl ?_))))))))))
   (refine rD fhc0 ?_ hI'.2 ?_<;>first | omega | (unfold slD;omega))
  refine Qy 9 5 true 49 (dz fhg49_7) rfl rfl rfl (fO (OF.pickF (VEv.tmpB rfl (dz fhg49_7)) (VEv.bool false)) (nt (cf rfl (VRun.exit (vthn.e (vthn.e (vinB.e (tn (sr (mO (tN n) rfl (aO (tN n) rfl ?_)))))))))))
  refine nt (rt (vi (n':=((n:Nat):Int)) rfl ?_))
  (refine rD fhc0 ?_ hI'.2 ?_<;>first | omega | (unfold slD;omega))
 have fhc0:down=false:=hc0
 refine sk (tn (sq (sr (lf (tS g.Cells) rfl QE rfl rfl Z7 (mO (tN cell) rfl ?_)))))
 have hb9:cell<g.Cells.size:=(by omega)
 refine fO (JN (tv (tS g.Cells) rfl) (tv (tN cell) rfl) hb9 U9) (fO (xne (tv (T.int .u8 (Qu g.Cells cell)) rfl) (VEv.int .u8 46)) (mO (tB (!(decide (Qu g.Cells cell=46)))) rfl ?_))
 refine gn (Qu g.Cells cell=46) (fun fhg31_10=> ?_) fun fhg31_10=> ?_
 ·refine Qy 3 5 false 31 (ny fhg31_10) rfl rfl rfl ?_
  refine Qac 7 8 true 34 rfl rfl rfl (oO rfl rfl (ny fhg31_10) (fO (OF.pickT (VEv.tmpB rfl (ny fhg31_10)) (VEv.bool true)) (nt (ct rfl (sr (fO (OF.assign (VEv.int .i64 0)) (nt (rt (tr (vi (n':=0) rfl ?_))))))))))
  (refine zA fhc0 ?_;omega)
 refine gF (nz fhg31_10) rfl rfl (OF.move (tv (tN (cell % g.Cols.toNat)) rfl)) (gF (nz fhg31_10) rfl rfl (B.gtr (c:=(decide (0<cell % g.Cols.toNat))) (tv (tN (cell % g.Cols.toNat)) rfl) (VEv.int .i64 0) (by exact Zb (by omega))) (gF (nz fhg31_10) rfl rfl (OF.move (tv (tB (decide (0<cell % g.Cols.toNat))) rfl)) ?_))
 refine gw (0<cell % g.Cols.toNat) (fun fhg34_11=> ?_) fun fhg34_11=> ?_
 ·refine Yl (tS g.Cells) (dy fhg34_11) rfl rfl rfl rfl QE rfl rfl Z7 ?_
  refine gF (dy fhg34_11) rfl rfl (OF.move (tv (tN cell) rfl)) (gF (dy fhg34_11) rfl rfl (OF.move (tv (tN 1) rfl)) (gF (dy fhg34_11) rfl rfl (B.sub (n:=(((cell:Nat):Int) - 1)) (tv (tN cell) rfl) (tv (tN 1) rfl) (by (rw [Qt (by omega)];omega))) ?_))
  have hb12:(Int.toNat (((cell:Nat):Int) - 1))<g.Cells.size:=(by omega)
  refine gF (dy fhg34_11) rfl rfl (B.index (n:=(Qu g.Cells (Int.toNat (((cell:Nat):Int) - 1)))) (i:=(Int.toNat (((cell:Nat):Int) - 1))) (tv (tS g.Cells) rfl) (tv (tI (((cell:Nat):Int) - 1)) rfl) (by omega) hb12 U9 (YN hb12)) (gF (dy fhg34_11) rfl rfl (Y7 (tv (T.int .u8 (Qu g.Cells (Int.toNat (((cell:Nat):Int) - 1)))) rfl) (VEv.int .u8 46)) (gF (nz fhg31_10) rfl rfl (OF.pickT (VEv.tmpB rfl (dy fhg34_11)) (tv (tB (decide (Qu g.Cells (Int.toNat (((cell:Nat):Int) - 1))=46))) rfl)) (fO (OF.pickF (VEv.tmpB rfl (nz fhg31_10)) (tv (tB (decide (Qu g.Cells (Int.toNat (((cell:Nat):Int) - 1))=46))) rfl)) (nt ?_))))
  refine cd (Qu g.Cells (Int.toNat (((cell:Nat):Int) - 1))=46) rfl (fun fhc1=> ?_) fun fhc1=> ?_
  ·refine sr ?_
   refine fO (OF.assign (VEv.int .i64 0)) (nt (rt (tr (vi (n':=0) rfl ?_))))
   (refine zA fhc0 ?_;omega)
  refine sk (tn (sr (fO (OF.assign (VEv.int .i64 0)) (nt (sq (VRun.block ?_))))))
  refine VRun.loop (A:=Nat) (fun s_=> [(1,(tN cell)),(3,(T.op 0 0)),(6,(tN 0)),(7,(tN 1)),(8,(tN (cell % g.Cols.toNat))),(9,(tI g.Cols)),(10,(tN s_))]) (fun s_=>Q3 [(0,(Obj.cells (Qc false g)))]) 1 (fun s_=>s_≤6∧Y9 g cell down s_) (fun s_=>6 - s_) (0:Nat) ?_ (Wk.mk (fun k=>k) ?_ ?_ ?_) ?_
  ·exact ⟨Nat.zero_le _,YP _ _ _⟩
  ·exact (b2 (b2 (b2 (b2 (b2 (b2 (b2 bn)))))))
  ·exact (b3 bn)
  ·exact nd rfl
  rintro n (hI':n≤6∧Y9 g cell down n)
  show VRun _ _ _ [(1,(tN cell)),(3,(T.op 0 0)),(6,(tN 0)),(7,(tN 1)),(8,(tN (cell % g.Cols.toNat))),(9,(tI g.Cols)),(10,(tN n))] (Q3 [(0,(Obj.cells (Qc false g)))]) 1 _
  have hI1:=hI'.1
  have hN:=Qem hI1 hB.1 hB.2
  have hC6:=hC4 n
  have hC7:=hC5 n
  refine sq (sr (mO (tN (cell % g.Cols.toNat)) rfl (mO (tN n) rfl (fO (B.add (n:=(((cell % g.Cols.toNat+n):Nat):Int)) (tv (tN (cell % g.Cols.toNat)) rfl) (tv (tN n) rfl) (by (rw [Qt (by omega)];omega))) (mO (tI g.Cols) rfl (fO (xls (tv (tN (cell % g.Cols.toNat+n)) rfl) (tv (tI g.Cols) rfl)) (mO (tB (decide ((((cell % g.Cols.toNat+n):Nat):Int)<g.Cols))) rfl ?_)))))))
  refine gw ((((cell % g.Cols.toNat+n):Nat):Int)<g.Cols) (fun fhg49_13=> ?_) fun fhg49_13=> ?_
  ·refine Yl (tS g.Cells) (dy fhg49_13) rfl rfl rfl rfl QE rfl rfl Z7 ?_
   refine gF (dy fhg49_13) rfl rfl (OF.move (tv (tN cell) rfl)) (gF (dy fhg49_13) rfl rfl (OF.move (tv (tN n) rfl)) (gF (dy fhg49_13) rfl rfl (OF.move (tv (tN 1) rfl)) (gF (dy fhg49_13) rfl rfl (B.mul (n:=(((n*1):Nat):Int)) (tv (tN n) rfl) (tv (tN 1) rfl) (by (rw [Qt (by omega)];omega))) (gF (dy fhg49_13) rfl rfl (B.add (n:=(((cell+(n*1)):Nat):Int)) (tv (tN cell) rfl) (tv (tN (n*1)) rfl) (by (rw [Qt (by omega)];omega))) ?_))))
   have hb14:(cell+(n*1))<g.Cells.size:=(by omega)
   refine gF (dy fhg49_13) rfl rfl (JN (tv (tS g.Cells) rfl) (tv (tN (cell+(n*1))) rfl) hb14 U9) (gF (dy fhg49_13) rfl rfl (Y7 (tv (T.int .u8 (Qu g.Cells (cell+(n*1)))) rfl) (VEv.int .u8 46)) (fO (OF.pickT (VEv.tmpB rfl (dy fhg49_13)) (tv (tB (decide (Qu g.Cells (cell+(n*1))=46))) rfl)) (nt ?_)))
   refine cd (Qu g.Cells (cell+(n*1))=46) rfl (fun fhc2=> ?_) fun fhc2=> ?_
   ·refine sk ?_
    refine tn (VRun.block (VRun.region (mO (tN n) rfl (fO (QB (tv (tN n) rfl) (VEv.int .i64 1) (by omega)) (aO (tN (n+1)) rfl (VRunO.nil (vinB.n (tn ?_))))))))
    refine ⟨(n+1:Nat),?_,?_,Wk.mk (fun k=>k) ?_ ?_ ?_⟩
    ·(refine ⟨?_,Qjg fhc0 hI'.2 ?_ ?_⟩<;>first | omega | (unfold slA;omega))
    ·omega
    ·exact (b2 (b2 (b2 (b2 (b2 (b2 (b2 bn)))))))
    ·exact (b3 bn)
    ·exact nd rfl
   refine VRun.exit (vthn.e (vthn.e (vinB.e (tn (sr (mO (tN n) rfl (aO (tN n) rfl (nt (rt (vi (n':=((n:Nat):Int)) rfl ?_))))))))))
   (refine rA fhc0 ?_ hI'.2 ?_<;>first | omega | (unfold slA;omega))
  refine Qy 9 5 true 49 (dz fhg49_13) rfl rfl rfl (fO (OF.pickF (VEv.tmpB rfl (dz fhg49_13)) (VEv.bool false)) (nt (cf rfl (VRun.exit (vthn.e (vthn.e (vinB.e (tn (sr (mO (tN n) rfl (aO (tN n) rfl ?_)))))))))))
  refine nt (rt (vi (n':=((n:Nat):Int)) rfl ?_))
  (refine rA fhc0 ?_ hI'.2 ?_<;>first | omega | (unfold slA;omega))
 refine Qy 7 8 true 34 (dz fhg34_11) rfl rfl rfl (gF (nz fhg31_10) rfl rfl (OF.pickF (VEv.tmpB rfl (dz fhg34_11)) (VEv.bool false)) (fO (OF.pickF (VEv.tmpB rfl (nz fhg31_10)) (tv (tB false) rfl)) (nt (cf rfl (sk (tn (sr (fO (OF.assign (VEv.int .i64 0)) (nt (sq (VRun.block ?_)))))))))))
 refine VRun.loop (A:=Nat) (fun s_=> [(1,(tN cell)),(3,(T.op 0 0)),(6,(tN 0)),(7,(tN 1)),(8,(tN (cell % g.Cols.toNat))),(9,(tI g.Cols)),(10,(tN s_))]) (fun s_=>Q3 [(0,(Obj.cells (Qc false g)))]) 1 (fun s_=>s_≤6∧Y9 g cell down s_) (fun s_=>6 - s_) (0:Nat) ?_ (Wk.mk (fun k=>k) ?_ ?_ ?_) ?_
 ·exact ⟨Nat.zero_le _,YP _ _ _⟩
 ·exact (b2 (b2 (b2 (b2 (b2 (b2 (b2 bn)))))))
 ·exact (b3 bn)
 ·exact nd rfl
 rintro n (hI':n≤6∧Y9 g cell down n)
 show VRun _ _ _ [(1,(tN cell)),(3,(T.op 0 0)),(6,(tN 0)),(7,(tN 1)),(8,(tN (cell % g.Cols.toNat))),(9,(tI g.Cols)),(10,(tN n))] (Q3 [(0,(Obj.cells (Qc false g)))]) 1 _
 have hI1:=hI'.1
 have hN:=Qem hI1 hB.1 hB.2
 have hC6:=hC4 n
 have hC7:=hC5 n
 refine sq (sr (mO (tN (cell % g.Cols.toNat)) rfl (mO (tN n) rfl (fO (B.add (n:=(((cell % g.Cols.toNat+n):Nat):Int)) (tv (tN (cell % g.Cols.toNat)) rfl) (tv (tN n) rfl) (by (rw [Qt (by omega)];omega))) (mO (tI g.Cols) rfl (fO (xls (tv (tN (cell % g.Cols.toNat+n)) rfl) (tv (tI g.Cols) rfl)) (mO (tB (decide ((((cell % g.Cols.toNat+n):Nat):Int)<g.Cols))) rfl ?_)))))))
 refine gw ((((cell % g.Cols.toNat+n):Nat):Int)<g.Cols) (fun fhg49_15=> ?_) fun fhg49_15=> ?_
 ·refine Yl (tS g.Cells) (dy fhg49_15) rfl rfl rfl rfl QE rfl rfl Z7 ?_
  refine gF (dy fhg49_15) rfl rfl (OF.move (tv (tN cell) rfl)) (gF (dy fhg49_15) rfl rfl (OF.move (tv (tN n) rfl)) (gF (dy fhg49_15) rfl rfl (OF.move (tv (tN 1) rfl)) (gF (dy fhg49_15) rfl rfl (B.mul (n:=(((n*1):Nat):Int)) (tv (tN n) rfl) (tv (tN 1) rfl) (by (rw [Qt (by omega)];omega))) (gF (dy fhg49_15) rfl rfl (B.add (n:=(((cell+(n*1)):Nat):Int)) (tv (tN cell) rfl) (tv (tN (n*1)) rfl) (by (rw [Qt (by omega)];omega))) ?_))))
  have hb16:(cell+(n*1))<g.Cells.size:=(by omega)
  refine gF (dy fhg49_15) rfl rfl (JN (tv (tS g.Cells) rfl) (tv (tN (cell+(n*1))) rfl) hb16 U9) (gF (dy fhg49_15) rfl rfl (Y7 (tv (T.int .u8 (Qu g.Cells (cell+(n*1)))) rfl) (VEv.int .u8 46)) (fO (OF.pickT (VEv.tmpB rfl (dy fhg49_15)) (tv (tB (decide (Qu g.Cells (cell+(n*1))=46))) rfl)) (nt ?_)))
  refine cd (Qu g.Cells (cell+(n*1))=46) rfl (fun fhc2=> ?_) fun fhc2=> ?_
  ·refine sk ?_
   refine tn (VRun.block (VRun.region (mO (tN n) rfl (fO (QB (tv (tN n) rfl) (VEv.int .i64 1) (by omega)) (aO (tN (n+1)) rfl (VRunO.nil (vinB.n (tn ?_))))))))
   refine ⟨(n+1:Nat),?_,?_,Wk.mk (fun k=>k) ?_ ?_ ?_⟩
   ·(refine ⟨?_,Qjg fhc0 hI'.2 ?_ ?_⟩<;>first | omega | (unfold slA;omega))
   ·omega
   ·exact (b2 (b2 (b2 (b2 (b2 (b2 (b2 bn)))))))
   ·exact (b3 bn)
   ·exact nd rfl
  refine VRun.exit (vthn.e (vthn.e (vinB.e (tn (sr (mO (tN n) rfl (aO (tN n) rfl (nt (rt (vi (n':=((n:Nat):Int)) rfl ?_))))))))))
  (refine rA fhc0 ?_ hI'.2 ?_<;>first | omega | (unfold slA;omega))
 refine Qy 9 5 true 49 (dz fhg49_15) rfl rfl rfl (fO (OF.pickF (VEv.tmpB rfl (dz fhg49_15)) (VEv.bool false)) (nt (cf rfl (VRun.exit (vthn.e (vthn.e (vinB.e (tn (sr (mO (tN n) rfl (aO (tN n) rfl ?_)))))))))))
 refine nt (rt (vi (n':=((n:Nat):Int)) rfl ?_))
 (refine rA fhc0 ?_ hI'.2 ?_<;>first | omega | (unfold slA;omega))
end Go.Proofs.YtcccmceoplcciaaGreat.AE
namespace Go.Proofs.YtcccmceoplcciaaGreat.AE
open Go Go.RowKit
set_option linter.unusedVariables false
set_option linter.unusedSimpArgs false
set_option maxRecDepth 20000
set_option maxHeartbeats 2000000
noncomputable section
def QkN (g:D.Grid) (st:List D.Slot×Nat) (i:Nat):List D.Slot×Nat :=
 let k:=if 2≤Qo g i false∨2≤Qo g i true then st.2+1 else st.2
 ((st.1++(if 2≤Qo g i false then [D.Slot.mk ((k:Nat):Int) false ((i:Nat):Int) ((Qo g i false:Nat):Int)] else []))++(if 2≤Qo g i true then [D.Slot.mk ((k:Nat):Int) true ((i:Nat):Int) ((Qo g i true:Nat):Int)] else []),k)
def Qd (g:D.Grid):Nat→List D.Slot×Nat
 | 0=>([],0)
 | i+1=>QkN g (Qd g i) i
def Qb (g:D.Grid):List D.Slot:=if gridOk g then (Qd g g.Cells.size).1 else []
theorem Yy (g:D.Grid) (i:Nat):(Qd g (i+1)).1=((Qd g i).1++(if 2≤Qo g i false then [D.Slot.mk (((Qd g (i+1)).2:Nat):Int) false ((i:Nat):Int) ((Qo g i false:Nat):Int)] else []))++(if 2≤Qo g i true then [D.Slot.mk (((Qd g (i+1)).2:Nat):Int) true ((i:Nat):Int) ((Qo g i true:Nat):Int)] else []):=rfl
theorem ZX (g:D.Grid) (i:Nat):(Qd g (i+1)).2=if 2≤Qo g i false∨2≤Qo g i true then (Qd g i).2+1 else (Qd g i).2:=rfl
theorem QbR (g:D.Grid):∀i,(Qd g i).2≤i∧(Qd g i).1.length≤2*i
 | 0=>⟨Nat.le_refl _,Nat.le_refl _⟩
 | i+1=>by
  have h:=QbR g i
  rw [Yy,ZX]
  refine ⟨by split<;>omega,?_⟩
  rw [List.length_append,List.length_append]
  have e:∀(c:Prop) [Decidable c] (x:D.Slot),(if c then [x] else []).length≤1:=fun c _ x=>by split<;>simp
  refine Nat.le_trans (Nat.add_le_add (Nat.add_le_add h.2 (e _ _)) (e _ _)) ?_
  omega
theorem QdP {g:D.Grid} {i:Nat} (h1:i≤g.Cells.size) (h2:gridOk g∨i=0) (h3:¬i<g.Cells.size∨¬gridOk g):(Qd g i).1=Qb g:=by
 unfold Qb
 split
 ·rename_i hh
  rcases h3 with h3 | h3
  ·rw [show i=g.Cells.size by omega]
  ·contradiction
 ·rename_i hh
  rw [h2.resolve_left hh]
  rfl
theorem Qj0 {g:D.Grid} (h:¬gridOk g):Qb g= []:=if_neg h
theorem Ze (g:D.Grid):(Qb g).length≤72:=by
 unfold Qb
 split
 ·rename_i hh
  have:=hh.size
  have:=(QbR g g.Cells.size).2
  omega
 ·simp
end
theorem ZA (n:Nat) (g:D.Grid) (hc:g.Cells.size≤maxLen):Pure (Qq Tryz.prog (n+3)) 103 [(T.agg (Qc false g))] (T.sl true 4 ((Qb g).map (Qf true))):=by
 refine Pure.intro (rs:= [ResultVar.tmp 2]) Tryz.func103 rfl rfl rfl (E0:= [(0,(T.agg (Qc false g)))]) rfl ?_
 obtain ⟨hlim,hmx,hmax⟩:=QC
 refine sr (kO (B.box (ts:=(Qc false g)) (tv (T.agg (Qc false g)) rfl) nofun rfl) (fO (OF.assign VEv.nils) (nt (sr (kO (OM.slice0 Z9 YE (by kernel_rfl) rfl (by rw [Zk];decide) Zk) (aO (T.os 4 1 0 0) rfl (nt (sr (fO (OF.assign (VEv.int .i64 0)) (nt (sq ?_)))))))))))
 refine sr (fO (OF.assign (VEv.int .i64 0)) (nt (VRun.block ?_)))
 have he1: []=(((Qd g 0).1).map (Qf true)):=by rfl
 refine VRun.loop (A:=Nat) (fun s_=> [(1,(T.op 0 0)),(2,T.nils),(3,(T.os 4 1 0 ((((Qd g s_).1).map (Qf true)).length))),(4,(tN ((Qd g s_).2))),(5,(tN s_))]) (fun s_=>Q3 [(0,(Obj.cells (Qc false g))),(1,(Obj.rows 4 (((Qd g s_).1).map (Qf true))))]) 2 (fun s_=>s_≤g.Cells.size∧(gridOk g∨s_=0)) (fun s_=>g.Cells.size - s_) (0:Nat) ?_ (Wk.mk (fun k=>k) ?_ ?_ ?_) ?_
 ·exact ⟨Nat.zero_le _, .inr rfl⟩
 ·exact (b2 (b2 (bc ⟨(congrArg (fun n_=>T.os 4 1 0 n_) (show 0=(((Qd g 0).1).map (Qf true)).length from (by rfl))),rfl⟩ (bc ⟨(congrArg (T.int .i64) (show 0=(((Qd g 0).2:Nat):Int) from (by rfl))),rfl⟩ (b2 bn)))))
 ·exact (b3 (bc ⟨(congrArg (fun l_=>some (Obj.rows 4 l_)) he1),(lb rfl),rfl⟩ bn))
 ·exact nd rfl
 rintro i (hI':i≤g.Cells.size∧(gridOk g∨i=0))
 show VRun _ _ _ [(1,(T.op 0 0)),(2,T.nils),(3,(T.os 4 1 0 ((((Qd g i).1).map (Qf true)).length))),(4,(tN ((Qd g i).2))),(5,(tN i))] (Q3 [(0,(Obj.cells (Qc false g))),(1,(Obj.rows 4 (((Qd g i).1).map (Qf true))))]) 2 _
 have hI1:=hI'.1
 have hbd:=QbR g i
 refine sq (sr (mO (tN i) rfl (lf (tS g.Cells) rfl QE rfl rfl Z7 (lO (B.lenS (tv (tS g.Cells) rfl) U9) (fO (Zf (tv (tN i) rfl) (tv (tN g.Cells.size) rfl)) (mO (tB (decide (i<g.Cells.size))) rfl ?_))))))
 refine gw (i<g.Cells.size) (fun fhg14_2=> ?_) fun fhg14_2=> ?_
 ·refine gL (dy fhg14_2) rfl rfl (OL.loadOn (us:=(Qc false g)) (tv (T.op 0 0) rfl) rfl QX QT (lb rfl) rfl) ?_
  refine VRunO.chain (VWant.on rfl rfl (dy fhg14_2)) (cS (vc (tv (T.agg (Qc false g)) rfl) vn) (LendL.cons (lg Qs) ln) (ZZ (n+0) g (by assumption)) rfl rfl) (fO (OF.pickT (VEv.tmpB rfl (dy fhg14_2)) (tv (tB (decide (gridOk g))) rfl)) (nt ?_))
  refine cd (gridOk g) rfl (fun fhc0=> ?_) fun fhc0=> ?_
  ·have hgo:gridOk g:=by assumption
   have hsz:=hgo.size
   refine sk (tn (sq (VRun.block (sr (lO (OL.loadOn (us:=(Qc false g)) (tv (T.op 0 0) rfl) rfl QX QT (lb rfl) rfl) (mO (tN i) rfl (cO (cS (vc (tv (T.agg (Qc false g)) rfl) (vc (tv (tN i) rfl) (vc (VEv.bool false) vn))) (LendL.cons (lg Qs) (lp rfl (lp rfl ln))) (Qb3 (n+1) g i false (by assumption) (by assumption)) rfl rfl) (aO (tN (Qo g i false)) rfl (nt (sr (lO (OL.loadOn (us:=(Qc false g)) (tv (T.op 0 0) rfl) rfl QX QT (lb rfl) rfl) ?_)))))))))))
   refine mO (tN i) rfl (cO (cS (vc (tv (T.agg (Qc false g)) rfl) (vc (tv (tN i) rfl) (vc (VEv.bool true) vn))) (LendL.cons (lg Qs) (lp rfl (lp rfl ln))) (Qb3 (n+1) g i true (by assumption) (by assumption)) rfl rfl) (aO (tN (Qo g i true)) rfl (nt (sq (sr (mO (tN (Qo g i false)) rfl (fO (B.geq (c:=(decide (2≤Qo g i false))) (tv (tN (Qo g i false)) rfl) (VEv.int .i64 2) (by exact Zb (by omega))) (mO (tB (decide (2≤Qo g i false))) rfl ?_))))))))
   refine gw (2≤Qo g i false) (fun fhg28_3=> ?_) fun fhg28_3=> ?_
   ·refine Qy 2 2 false 28 (dy fhg28_3) rfl rfl rfl ?_
    refine fO (OF.pickT (VEv.tmpB rfl (dy fhg28_3)) (VEv.bool true)) (nt (ct rfl (VRun.region (mO (tN ((Qd g i).2)) rfl (fO (QB (tv (tN ((Qd g i).2)) rfl) (VEv.int .i64 1) (by omega)) (aO (tN ((Qd g i).2+1)) rfl (VRunO.nil (tn (sq (sr (mO (tN (Qo g i false)) rfl ?_)))))))))))
    refine fO (B.geq (c:=(decide (2≤Qo g i false))) (tv (tN (Qo g i false)) rfl) (VEv.int .i64 2) (by exact Zb (by omega))) (nt (ck (dy fhg28_3) rfl (VRun.region (mO (T.os 4 1 0 ((((Qd g i).1).map (Qf true)).length)) rfl (mO (tN ((Qd g i).2+1)) rfl (mO (tN i) rfl (mO (tN (Qo g i false)) rfl (fO (OF.build (l:= [(0,(tN ((Qd g i).2+1))),(2,(tN i)),(3,(tN (Qo g i false)))]) (zs:= [(tN 0),(tB false),(tN 0),(tN 0)]) (out:= [(tN ((Qd g i).2+1)),(tB false),(tN i),(tN (Qo g i false))]) (VEvp.cons (i:=0) (tv (tN ((Qd g i).2+1)) rfl) (VEvp.cons (i:=2) (tv (tN i) rfl) (VEvp.cons (i:=3) (tv (tN (Qo g i false)) rfl) VEvp.nil))) (bc nofun (bc nofun (bc nofun bn))) Tryz.underlying138 YE (fun _=>RL.cons (.int _ _) (RL.cons (.bool _) (RL.cons (.int _ _) (RL.cons (.int _ _) (RL.nil _))))) (by kernel_rfl) (by kernel_rfl)) (kO (OM.buildSlice (l:= [(T.agg [(tN ((Qd g i).2+1)),(tB false),(tN i),(tN (Qo g i false))])]) (VEvp.cons (tv (T.agg [(tN ((Qd g i).2+1)),(tB false),(tN i),(tN (Qo g i false))]) rfl) VEvp.nil) rfl (by decide) (bc (nofun) bn) (bc ((bc (rfl) (bc (rfl) (bc (rfl) (bc (rfl) bn))))) bn) (bc (rfl) bn) Z9 YE (by kernel_rfl) rfl (by rw [Zk];decide) Zk (Nat.le_of_ble_eq_true rfl)) (cO (B.append (rows:=(((Qd g i).1).map (Qf true))) (rows2:= [[(tN ((Qd g i).2+1)),(tB false),(tN i),(tN (Qo g i false))]]) (rows3:=(((Qd g i).1++ [(D.Slot.mk ((((Qd g i).2+1):Nat):Int) false ((i:Nat):Int) ((Qo g i false:Nat):Int))]).map (Qf true))) (VDst.own (tv (T.os 4 1 0 ((((Qd g i).1).map (Qf true)).length)) rfl) rfl rfl) (VSrc.own (tv (T.os 4 2 0 1) rfl) rfl rfl Z9 (bc (bc rfl (bc rfl (bc rfl (bc rfl bn)))) bn)) (by decide) Z9 Zk (by decide) YE rfl (of_decide_eq_true (by kernel_rfl)) (by (simp only [List.length_map,List.length_append,List.length_cons,List.length_nil,List.length_replicate,List.length_set,List.length_drop,List.length_take,YW] at *;omega)) ((List.map_append (f:=Qf true) (l₁:=(Qd g i).1) (l₂:= [(D.Slot.mk ((((Qd g i).2+1):Nat):Int) false ((i:Nat):Int) ((Qo g i false:Nat):Int))])).symm)) (aO (T.os 4 3 0 ((((Qd g i).1++ [(D.Slot.mk ((((Qd g i).2+1):Nat):Int) false ((i:Nat):Int) ((Qo g i false:Nat):Int))]).map (Qf true)).length)) rfl ?_)))))))))))
    refine VRunO.nil (tn (sr (mO (tN (Qo g i true)) rfl (fO (B.geq (c:=(decide (2≤Qo g i true))) (tv (tN (Qo g i true)) rfl) (VEv.int .i64 2) (by exact Zb (by omega))) (nt ?_)))))
    refine cd (2≤Qo g i true) rfl (fun fhc3=> ?_) fun fhc3=> ?_
    ·refine VRun.region ?_
     refine mO (T.os 4 3 0 ((((Qd g i).1++ [(D.Slot.mk ((((Qd g i).2+1):Nat):Int) false ((i:Nat):Int) ((Qo g i false:Nat):Int))]).map (Qf true)).length)) rfl (mO (tN ((Qd g i).2+1)) rfl (mO (tN i) rfl (mO (tN (Qo g i true)) rfl (fO (OF.build (l:= [(0,(tN ((Qd g i).2+1))),(1,(tB true)),(2,(tN i)),(3,(tN (Qo g i true)))]) (zs:= [(tN 0),(tB false),(tN 0),(tN 0)]) (out:= [(tN ((Qd g i).2+1)),(tB true),(tN i),(tN (Qo g i true))]) (VEvp.cons (i:=0) (tv (tN ((Qd g i).2+1)) rfl) (VEvp.cons (i:=1) (VEv.bool true) (VEvp.cons (i:=2) (tv (tN i) rfl) (VEvp.cons (i:=3) (tv (tN (Qo g i true)) rfl) VEvp.nil)))) (bc nofun (bc nofun (bc nofun (bc nofun bn)))) Tryz.underlying138 YE (fun _=>RL.cons (.int _ _) (RL.cons (.bool _) (RL.cons (.int _ _) (RL.cons (.int _ _) (RL.nil _))))) (by kernel_rfl) (by kernel_rfl)) (kO (OM.buildSlice (l:= [(T.agg [(tN ((Qd g i).2+1)),(tB true),(tN i),(tN (Qo g i true))])]) (VEvp.cons (tv (T.agg [(tN ((Qd g i).2+1)),(tB true),(tN i),(tN (Qo g i true))]) rfl) VEvp.nil) rfl (by decide) (bc (nofun) bn) (bc ((bc (rfl) (bc (rfl) (bc (rfl) (bc (rfl) bn))))) bn) (bc (rfl) bn) Z9 YE (by kernel_rfl) rfl (by rw [Zk];decide) Zk (Nat.le_of_ble_eq_true rfl)) (cO (B.append (rows:=(((Qd g i).1++ [(D.Slot.mk ((((Qd g i).2+1):Nat):Int) false ((i:Nat):Int) ((Qo g i false:Nat):Int))]).map (Qf true))) (rows2:= [[(tN ((Qd g i).2+1)),(tB true),(tN i),(tN (Qo g i true))]]) (rows3:=((((Qd g i).1++ [(D.Slot.mk ((((Qd g i).2+1):Nat):Int) false ((i:Nat):Int) ((Qo g i false:Nat):Int))])++ [(D.Slot.mk ((((Qd g i).2+1):Nat):Int) true ((i:Nat):Int) ((Qo g i true:Nat):Int))]).map (Qf true))) (VDst.own (tv (T.os 4 3 0 ((((Qd g i).1++ [(D.Slot.mk ((((Qd g i).2+1):Nat):Int) false ((i:Nat):Int) ((Qo g i false:Nat):Int))]).map (Qf true)).length)) rfl) rfl rfl) (VSrc.own (tv (T.os 4 4 0 1) rfl) rfl rfl Z9 (bc (bc rfl (bc rfl (bc rfl (bc rfl bn)))) bn)) (by decide) Z9 Zk (by decide) YE rfl (of_decide_eq_true (by kernel_rfl)) (by (simp only [List.length_map,List.length_append,List.length_cons,List.length_nil,List.length_replicate,List.length_set,List.length_drop,List.length_take,YW] at *;omega)) ((List.map_append (f:=Qf true) (l₁:=((Qd g i).1++ [(D.Slot.mk ((((Qd g i).2+1):Nat):Int) false ((i:Nat):Int) ((Qo g i false:Nat):Int))])) (l₂:= [(D.Slot.mk ((((Qd g i).2+1):Nat):Int) true ((i:Nat):Int) ((Qo g i true:Nat):Int))])).symm)) (aO (T.os 4 5 0 (((((Qd g i).1++ [(D.Slot.mk ((((Qd g i).2+1):Nat):Int) false ((i:Nat):Int) ((Qo g i false:Nat):Int))])++ [(D.Slot.mk ((((Qd g i).2+1):Nat):Int) true ((i:Nat):Int) ((Qo g i true:Nat):Int))]).map (Qf true)).length)) rfl (VRunO.nil (vinB.n (tn (VRun.region ?_)))))))))))
     refine mO (tN i) rfl (fO (QB (tv (tN i) rfl) (VEv.int .i64 1) (by omega)) (aO (tN (i+1)) rfl (VRunO.nil (tn ?_))))
     have hgo:gridOk g:=by assumption
     have he4:(((Qd g i).1++ [(D.Slot.mk ((((Qd g i).2+1):Nat):Int) false ((i:Nat):Int) ((Qo g i false:Nat):Int))])++ [(D.Slot.mk ((((Qd g i).2+1):Nat):Int) true ((i:Nat):Int) ((Qo g i true:Nat):Int))])=(Qd g (i+1)).1:=by (rw [Yy,ZX];simp [*];done)
     refine ⟨(i+1:Nat),?_,?_,Wk.mk (fun k=>if k=1 then 5 else k) ?_ ?_ ?_⟩
     ·exact ⟨by omega, .inl hgo⟩
     ·omega
     ·exact (b2 (b2 (bc ⟨(congrArg (fun l_=>T.os 4 5 0 (List.map (Qf true) l_).length) he4),rfl⟩ (bc ⟨(congrArg (T.int .i64) (show ((((Qd g i).2+1):Nat):Int)=(((Qd g (i+1)).2:Nat):Int) from (by (rw [ZX];simp [*];done)))),rfl⟩ (b2 bn)))))
     ·exact (b3 (bc ⟨(congrArg (fun l_=>some (Obj.rows 4 (List.map (Qf true) l_))) he4),(lb rfl),rfl⟩ bn))
     ·exact nd rfl
    refine sk (vinB.n (tn (VRun.region (mO (tN i) rfl (fO (QB (tv (tN i) rfl) (VEv.int .i64 1) (by omega)) (aO (tN (i+1)) rfl (VRunO.nil (tn ?_))))))))
    have hgo:gridOk g:=by assumption
    have he5:((Qd g i).1++ [(D.Slot.mk ((((Qd g i).2+1):Nat):Int) false ((i:Nat):Int) ((Qo g i false:Nat):Int))])=(Qd g (i+1)).1:=by (rw [Yy,ZX];simp [*];done)
    refine ⟨(i+1:Nat),?_,?_,Wk.mk (fun k=>if k=1 then 3 else k) ?_ ?_ ?_⟩
    ·exact ⟨by omega, .inl hgo⟩
    ·omega
    ·exact (b2 (b2 (bc ⟨(congrArg (fun l_=>T.os 4 3 0 (List.map (Qf true) l_).length) he5),rfl⟩ (bc ⟨(congrArg (T.int .i64) (show ((((Qd g i).2+1):Nat):Int)=(((Qd g (i+1)).2:Nat):Int) from (by (rw [ZX];simp [*];done)))),rfl⟩ (b2 bn)))))
    ·exact (b3 (bc ⟨(congrArg (fun l_=>some (Obj.rows 4 (List.map (Qf true) l_))) he5),(lb rfl),rfl⟩ bn))
    ·exact nd rfl
   refine gF (dz fhg28_3) rfl rfl (OF.move (tv (tN (Qo g i true)) rfl)) (gF (dz fhg28_3) rfl rfl (B.geq (c:=(decide (2≤Qo g i true))) (tv (tN (Qo g i true)) rfl) (VEv.int .i64 2) (by exact Zb (by omega))) (fO (OF.pickF (VEv.tmpB rfl (dz fhg28_3)) (tv (tB (decide (2≤Qo g i true))) rfl)) (nt ?_)))
   refine cd (2≤Qo g i true) rfl (fun fhc1=> ?_) fun fhc1=> ?_
   ·refine VRun.region ?_
    refine mO (tN ((Qd g i).2)) rfl (fO (QB (tv (tN ((Qd g i).2)) rfl) (VEv.int .i64 1) (by omega)) (aO (tN ((Qd g i).2+1)) rfl (VRunO.nil (tn (sq (sr (mO (tN (Qo g i false)) rfl (fO (B.geq (c:=(decide (2≤Qo g i false))) (tv (tN (Qo g i false)) rfl) (VEv.int .i64 2) (by exact Zb (by omega))) (nt (cg (dz fhg28_3) rfl (sk ?_)))))))))))
    refine tn (sr (mO (tN (Qo g i true)) rfl (fO (B.geq (c:=(decide (2≤Qo g i true))) (tv (tN (Qo g i true)) rfl) (VEv.int .i64 2) (by exact Zb (by omega))) (nt (ck (dy fhc1) rfl (VRun.region (mO (T.os 4 1 0 ((((Qd g i).1).map (Qf true)).length)) rfl (mO (tN ((Qd g i).2+1)) rfl (mO (tN i) rfl (mO (tN (Qo g i true)) rfl (fO (OF.build (l:= [(0,(tN ((Qd g i).2+1))),(1,(tB true)),(2,(tN i)),(3,(tN (Qo g i true)))]) (zs:= [(tN 0),(tB false),(tN 0),(tN 0)]) (out:= [(tN ((Qd g i).2+1)),(tB true),(tN i),(tN (Qo g i true))]) (VEvp.cons (i:=0) (tv (tN ((Qd g i).2+1)) rfl) (VEvp.cons (i:=1) (VEv.bool true) (VEvp.cons (i:=2) (tv (tN i) rfl) (VEvp.cons (i:=3) (tv (tN (Qo g i true)) rfl) VEvp.nil)))) (bc nofun (bc nofun (bc nofun (bc nofun bn)))) Tryz.underlying138 YE (fun _=>RL.cons (.int _ _) (RL.cons (.bool _) (RL.cons (.int _ _) (RL.cons (.int _ _) (RL.nil _))))) (by kernel_rfl) (by kernel_rfl)) ?_)))))))))))
    refine kO (OM.buildSlice (l:= [(T.agg [(tN ((Qd g i).2+1)),(tB true),(tN i),(tN (Qo g i true))])]) (VEvp.cons (tv (T.agg [(tN ((Qd g i).2+1)),(tB true),(tN i),(tN (Qo g i true))]) rfl) VEvp.nil) rfl (by decide) (bc (nofun) bn) (bc ((bc (rfl) (bc (rfl) (bc (rfl) (bc (rfl) bn))))) bn) (bc (rfl) bn) Z9 YE (by kernel_rfl) rfl (by rw [Zk];decide) Zk (Nat.le_of_ble_eq_true rfl)) (cO (B.append (rows:=(((Qd g i).1).map (Qf true))) (rows2:= [[(tN ((Qd g i).2+1)),(tB true),(tN i),(tN (Qo g i true))]]) (rows3:=(((Qd g i).1++ [(D.Slot.mk ((((Qd g i).2+1):Nat):Int) true ((i:Nat):Int) ((Qo g i true:Nat):Int))]).map (Qf true))) (VDst.own (tv (T.os 4 1 0 ((((Qd g i).1).map (Qf true)).length)) rfl) rfl rfl) (VSrc.own (tv (T.os 4 2 0 1) rfl) rfl rfl Z9 (bc (bc rfl (bc rfl (bc rfl (bc rfl bn)))) bn)) (by decide) Z9 Zk (by decide) YE rfl (of_decide_eq_true (by kernel_rfl)) (by (simp only [List.length_map,List.length_append,List.length_cons,List.length_nil,List.length_replicate,List.length_set,List.length_drop,List.length_take,YW] at *;omega)) ((List.map_append (f:=Qf true) (l₁:=(Qd g i).1) (l₂:= [(D.Slot.mk ((((Qd g i).2+1):Nat):Int) true ((i:Nat):Int) ((Qo g i true:Nat):Int))])).symm)) (aO (T.os 4 3 0 ((((Qd g i).1++ [(D.Slot.mk ((((Qd g i).2+1):Nat):Int) true ((i:Nat):Int) ((Qo g i true:Nat):Int))]).map (Qf true)).length)) rfl (VRunO.nil (vinB.n (tn (VRun.region (mO (tN i) rfl (fO (QB (tv (tN i) rfl) (VEv.int .i64 1) (by omega)) (aO (tN (i+1)) rfl (VRunO.nil (tn ?_)))))))))))
    have hgo:gridOk g:=by assumption
    have he6:((Qd g i).1++ [(D.Slot.mk ((((Qd g i).2+1):Nat):Int) true ((i:Nat):Int) ((Qo g i true:Nat):Int))])=(Qd g (i+1)).1:=by (rw [Yy,ZX];simp [*];done)
    refine ⟨(i+1:Nat),?_,?_,Wk.mk (fun k=>if k=1 then 3 else k) ?_ ?_ ?_⟩
    ·exact ⟨by omega, .inl hgo⟩
    ·omega
    ·exact (b2 (b2 (bc ⟨(congrArg (fun l_=>T.os 4 3 0 (List.map (Qf true) l_).length) he6),rfl⟩ (bc ⟨(congrArg (T.int .i64) (show ((((Qd g i).2+1):Nat):Int)=(((Qd g (i+1)).2:Nat):Int) from (by (rw [ZX];simp [*];done)))),rfl⟩ (b2 bn)))))
    ·exact (b3 (bc ⟨(congrArg (fun l_=>some (Obj.rows 4 (List.map (Qf true) l_))) he6),(lb rfl),rfl⟩ bn))
    ·exact nd rfl
   refine sk (tn (sq (sr (mO (tN (Qo g i false)) rfl (fO (B.geq (c:=(decide (2≤Qo g i false))) (tv (tN (Qo g i false)) rfl) (VEv.int .i64 2) (by exact Zb (by omega))) (nt (cg (dz fhg28_3) rfl (sk (tn (sr (mO (tN (Qo g i true)) rfl ?_)))))))))))
   refine fO (B.geq (c:=(decide (2≤Qo g i true))) (tv (tN (Qo g i true)) rfl) (VEv.int .i64 2) (by exact Zb (by omega))) (nt (cg (dz fhc1) rfl (sk (vinB.n (tn (VRun.region (mO (tN i) rfl (fO (QB (tv (tN i) rfl) (VEv.int .i64 1) (by omega)) (aO (tN (i+1)) rfl (VRunO.nil (tn ?_)))))))))))
   have hgo:gridOk g:=by assumption
   have he7:(Qd g i).1=(Qd g (i+1)).1:=by (rw [Yy,ZX];simp [*];done)
   refine ⟨(i+1:Nat),?_,?_,Wk.mk (fun k=>k) ?_ ?_ ?_⟩
   ·exact ⟨by omega, .inl hgo⟩
   ·omega
   ·exact (b2 (b2 (bc ⟨(congrArg (fun l_=>T.os 4 1 0 (List.map (Qf true) l_).length) he7),rfl⟩ (bc ⟨(congrArg (T.int .i64) (show (((Qd g i).2:Nat):Int)=(((Qd g (i+1)).2:Nat):Int) from (by (rw [ZX];simp [*];done)))),rfl⟩ (b2 bn)))))
   ·exact (b3 (bc ⟨(congrArg (fun l_=>some (Obj.rows 4 (List.map (Qf true) l_))) he7),(lb rfl),rfl⟩ bn))
   ·exact nd rfl
  refine VRun.exit (vthn.e (vthn.e (vinB.e (tn (sr (mO (T.os 4 1 0 ((((Qd g i).1).map (Qf true)).length)) rfl (aO (T.os 4 1 0 ((((Qd g i).1).map (Qf true)).length)) rfl (nt (rt ?_)))))))))
  refine vfin.eq (r':=(T.sl true 4 (((Qd g i).1).map (Qf true)))) ?_ (vfin.r (VRes.tmp (t:=(T.os 4 1 0 ((((Qd g i).1).map (Qf true)).length))) rfl VRes.nil) (Give.os rfl rfl (okeSlot.cleanMap _)))
  show (T.sl true 4 (((Qd g i).1).map (Qf true)))=(T.sl true 4 ((Qb g).map (Qf true)))
  refine congrArg (fun l_=>T.sl true 4 (List.map (Qf true) l_)) ?_
  refine QdP hI1 hI'.2 ?_;(right;assumption)
 refine Qy 2 5 true 14 (dz fhg14_2) rfl rfl rfl (fO (OF.pickF (VEv.tmpB rfl (dz fhg14_2)) (VEv.bool false)) (nt (cf rfl (VRun.exit (vthn.e (vthn.e (vinB.e (tn (sr (mO (T.os 4 1 0 ((((Qd g i).1).map (Qf true)).length)) rfl (aO (T.os 4 1 0 ((((Qd g i).1).map (Qf true)).length)) rfl ?_)))))))))))
 refine nt (rt ?_)
 refine vfin.eq (r':=(T.sl true 4 (((Qd g i).1).map (Qf true)))) ?_ (vfin.r (VRes.tmp (t:=(T.os 4 1 0 ((((Qd g i).1).map (Qf true)).length))) rfl VRes.nil) (Give.os rfl rfl (okeSlot.cleanMap _)))
 show (T.sl true 4 (((Qd g i).1).map (Qf true)))=(T.sl true 4 ((Qb g).map (Qf true)))
 refine congrArg (fun l_=>T.sl true 4 (List.map (Qf true) l_)) ?_
 refine QdP hI1 hI'.2 ?_;(left;assumption)
theorem JZ (n:Nat) (g:D.Grid) (hc:g.Cells.size≤maxLen):Pure (Qq Tryz.prog (n+3)) 107 [(T.agg (Qc false g))] (T.sl true 4 ((Qb g).map (Qf true))):=by
 refine Pure.intro (rs:= [ResultVar.tmp 2]) Tryz.func107 rfl rfl rfl (E0:= [(0,(T.agg (Qc false g)))]) rfl ?_
 obtain ⟨hlim,hmx,hmax⟩:=QC
 refine sr (kO (B.box (ts:=(Qc false g)) (tv (T.agg (Qc false g)) rfl) nofun rfl) (fO (OF.assign VEv.nils) (nt (sq (sr (lO (OL.loadOn (us:=(Qc false g)) (tv (T.op 0 0) rfl) rfl QX QT (lb rfl) rfl) (cO (cS (vc (tv (T.agg (Qc false g)) rfl) vn) (LendL.cons (lg Qs) ln) (Yi (n+0) g (by assumption)) rfl rfl) (fO (QW (tv (tB (decide (gridOk g))) rfl)) (nt ?_)))))))))
 refine cn (gridOk g) rfl (fun fhc0=> ?_) fun fhc0=> ?_
 ·refine sr ?_
  refine fO (OF.assign VEv.nils) (nt (rt (tr ?_)))
  refine vfin.eq (r':=(T.sl true 4 [])) ?_ (vfin.r (VRes.tmp (t:=T.nils) rfl VRes.nil) (Give.nils 4))
  show (T.sl true 4 [])=(T.sl true 4 ((Qb g).map (Qf true)))
  refine congrArg (fun l_=>T.sl true 4 (List.map (Qf true) l_)) (a₁:= []) ?_
  exact (Qj0 fhc0).symm
 refine sk (tn (sr (fO (OF.assign VEv.nils) (nt (sr (fO (OF.assign (VEv.int .i64 0)) (nt (sq (sr (lf (tS g.Cells) rfl QE rfl rfl Z7 (lO (B.lenS (tv (tS g.Cells) rfl) U9) ?_)))))))))))
 refine fO (OF.move (VEv.int .i64 0)) (nt (VRun.block (VRun.wk (Wk.phantom 3 4 rfl) ?_)))
 have he1: []=(((Qd g 0).1).map (Qf true)):=by rfl
 refine VRun.loop (A:=Nat) (fun s_=> [(1,(T.op 0 0)),(2,T.nils),(3,(T.os 4 1 0 ((((Qd g s_).1).map (Qf true)).length))),(4,(tN ((Qd g s_).2))),(13,(tN g.Cells.size)),(14,(tN s_))]) (fun s_=>Q3 [(0,(Obj.cells (Qc false g))),(1,(Obj.rows 4 (((Qd g s_).1).map (Qf true))))]) 2 (fun s_=>s_≤g.Cells.size) (fun s_=>g.Cells.size - s_) (0:Nat) ?_ (Wk.mk (fun k=>k) ?_ ?_ ?_) ?_
 ·(simp;done)
 ·exact (b2 (b2 (bc ⟨(congrArg (fun n_=>T.os 4 1 0 n_) (show 0=(((Qd g 0).1).map (Qf true)).length from (by rfl))),rfl⟩ (bc ⟨(congrArg (T.int .i64) (show 0=(((Qd g 0).2:Nat):Int) from (by rfl))),rfl⟩ (b2 (b2 bn))))))
 ·exact (b3 (bc ⟨(congrArg (fun l_=>some (Obj.rows 4 l_)) he1),(lb rfl),rfl⟩ bn))
 ·exact nd rfl
 rintro i (hI':i≤g.Cells.size)
 show VRun _ _ _ [(1,(T.op 0 0)),(2,T.nils),(3,(T.os 4 1 0 ((((Qd g i).1).map (Qf true)).length))),(4,(tN ((Qd g i).2))),(13,(tN g.Cells.size)),(14,(tN i))] (Q3 [(0,(Obj.cells (Qc false g))),(1,(Obj.rows 4 (((Qd g i).1).map (Qf true))))]) 2 _
 have hI1:=hI'
 have hbd:=QbR g i
 have hgo:gridOk g:=by assumption
 have hsz:=hgo.size
 refine sr (fO (Zf (tv (tN i) rfl) (tv (tN g.Cells.size) rfl)) (nt (sq ?_)))
 refine cd (i<g.Cells.size) rfl (fun fhc1=> ?_) fun fhc1=> ?_
 ·refine sk ?_
  refine tn (sq (VRun.block (sr (mO (tN i) rfl (aO (tN i) rfl (nt (sq (VRun.draw (B:= [[],[],[1,0],[],[],[0,1,2,4,3],[3,4,5,0,1,2],[6,3,4,2,1,0,5]]) (by kernel_rfl) (by kernel_rfl) (lD (OL.loadOn (us:=(Qc false g)) (tv (T.op 0 0) rfl) rfl QX QT (lb rfl) rfl) rfl rfl (mD (tN i) rfl rfl (VRunD.quiet (bi:= [1,0]) rfl VWant.always rfl rfl rfl bn (cS (vc (tv (T.agg (Qc false g)) rfl) (vc (tv (tN i) rfl) (vc (VEv.bool false) vn))) (LendL.cons (lg Qs) (lp rfl (lp rfl ln))) (QeF (n+1) g i false (by assumption) (by assumption)) rfl rfl) ?_)))))))))))
  refine lD (OL.loadOn (us:=(Qc false g)) (tv (T.op 0 0) rfl) rfl QX QT (lb rfl) rfl) rfl rfl (mD (tN i) rfl rfl (VRunD.quiet (bi:= [0,1,2,4,3]) rfl VWant.always rfl rfl rfl bn (cS (vc (tv (T.agg (Qc false g)) rfl) (vc (tv (tN i) rfl) (vc (VEv.bool true) vn))) (LendL.cons (lg Qs) (lp rfl (lp rfl ln))) (QeF (n+1) g i true (by assumption) (by assumption)) rfl rfl) (fD (OF.assign (tv (tN (Qo g i false)) rfl)) rfl rfl (fD (OF.assign (tv (tN (Qo g i true)) rfl)) rfl rfl (VRunD.nil (tn (sq (sr (mO (tN (Qo g i false)) rfl (fO (B.geq (c:=(decide (2≤Qo g i false))) (tv (tN (Qo g i false)) rfl) (VEv.int .i64 2) (by exact Zb (by omega))) (mO (tB (decide (2≤Qo g i false))) rfl ?_)))))))))))
  refine gw (2≤Qo g i false) (fun fhg25_2=> ?_) fun fhg25_2=> ?_
  ·refine Qy 2 2 false 25 (dy fhg25_2) rfl rfl rfl ?_
   refine fO (OF.pickT (VEv.tmpB rfl (dy fhg25_2)) (VEv.bool true)) (nt (ct rfl (VRun.region (mO (tN ((Qd g i).2)) rfl (fO (QB (tv (tN ((Qd g i).2)) rfl) (VEv.int .i64 1) (by omega)) (aO (tN ((Qd g i).2+1)) rfl (VRunO.nil (tn (sq (sr (mO (tN (Qo g i false)) rfl ?_)))))))))))
   refine fO (B.geq (c:=(decide (2≤Qo g i false))) (tv (tN (Qo g i false)) rfl) (VEv.int .i64 2) (by exact Zb (by omega))) (nt (ck (dy fhg25_2) rfl (VRun.region (mO (T.os 4 1 0 ((((Qd g i).1).map (Qf true)).length)) rfl (mO (tN ((Qd g i).2+1)) rfl (mO (tN i) rfl (mO (tN (Qo g i false)) rfl (fO (OF.build (l:= [(0,(tN ((Qd g i).2+1))),(1,(tB false)),(2,(tN i)),(3,(tN (Qo g i false)))]) (zs:= [(tN 0),(tB false),(tN 0),(tN 0)]) (out:= [(tN ((Qd g i).2+1)),(tB false),(tN i),(tN (Qo g i false))]) (VEvp.cons (i:=0) (tv (tN ((Qd g i).2+1)) rfl) (VEvp.cons (i:=1) (VEv.bool false) (VEvp.cons (i:=2) (tv (tN i) rfl) (VEvp.cons (i:=3) (tv (tN (Qo g i false)) rfl) VEvp.nil)))) (bc nofun (bc nofun (bc nofun (bc nofun bn)))) Tryz.underlying138 YE (fun _=>RL.cons (.int _ _) (RL.cons (.bool _) (RL.cons (.int _ _) (RL.cons (.int _ _) (RL.nil _))))) (by kernel_rfl) (by kernel_rfl)) (kO (OM.buildSlice (l:= [(T.agg [(tN ((Qd g i).2+1)),(tB false),(tN i),(tN (Qo g i false))])]) (VEvp.cons (tv (T.agg [(tN ((Qd g i).2+1)),(tB false),(tN i),(tN (Qo g i false))]) rfl) VEvp.nil) rfl (by decide) (bc (nofun) bn) (bc ((bc (rfl) (bc (rfl) (bc (rfl) (bc (rfl) bn))))) bn) (bc (rfl) bn) Z9 YE (by kernel_rfl) rfl (by rw [Zk];decide) Zk (Nat.le_of_ble_eq_true rfl)) (cO (B.append (rows:=(((Qd g i).1).map (Qf true))) (rows2:= [[(tN ((Qd g i).2+1)),(tB false),(tN i),(tN (Qo g i false))]]) (rows3:=(((Qd g i).1++ [(D.Slot.mk ((((Qd g i).2+1):Nat):Int) false ((i:Nat):Int) ((Qo g i false:Nat):Int))]).map (Qf true))) (VDst.own (tv (T.os 4 1 0 ((((Qd g i).1).map (Qf true)).length)) rfl) rfl rfl) (VSrc.own (tv (T.os 4 2 0 1) rfl) rfl rfl Z9 (bc (bc rfl (bc rfl (bc rfl (bc rfl bn)))) bn)) (by decide) Z9 Zk (by decide) YE rfl (of_decide_eq_true (by kernel_rfl)) (by (simp only [List.length_map,List.length_append,List.length_cons,List.length_nil,List.length_replicate,List.length_set,List.length_drop,List.length_take,YW] at *;omega)) ((List.map_append (f:=Qf true) (l₁:=(Qd g i).1) (l₂:= [(D.Slot.mk ((((Qd g i).2+1):Nat):Int) false ((i:Nat):Int) ((Qo g i false:Nat):Int))])).symm)) (aO (T.os 4 3 0 ((((Qd g i).1++ [(D.Slot.mk ((((Qd g i).2+1):Nat):Int) false ((i:Nat):Int) ((Qo g i false:Nat):Int))]).map (Qf true)).length)) rfl ?_)))))))))))
   refine VRunO.nil (tn (sr (mO (tN (Qo g i true)) rfl (fO (B.geq (c:=(decide (2≤Qo g i true))) (tv (tN (Qo g i true)) rfl) (VEv.int .i64 2) (by exact Zb (by omega))) (nt ?_)))))
   refine cd (2≤Qo g i true) rfl (fun fhc4=> ?_) fun fhc4=> ?_
   ·refine VRun.region ?_
    refine mO (T.os 4 3 0 ((((Qd g i).1++ [(D.Slot.mk ((((Qd g i).2+1):Nat):Int) false ((i:Nat):Int) ((Qo g i false:Nat):Int))]).map (Qf true)).length)) rfl (mO (tN ((Qd g i).2+1)) rfl (mO (tN i) rfl (mO (tN (Qo g i true)) rfl (fO (OF.build (l:= [(0,(tN ((Qd g i).2+1))),(1,(tB true)),(2,(tN i)),(3,(tN (Qo g i true)))]) (zs:= [(tN 0),(tB false),(tN 0),(tN 0)]) (out:= [(tN ((Qd g i).2+1)),(tB true),(tN i),(tN (Qo g i true))]) (VEvp.cons (i:=0) (tv (tN ((Qd g i).2+1)) rfl) (VEvp.cons (i:=1) (VEv.bool true) (VEvp.cons (i:=2) (tv (tN i) rfl) (VEvp.cons (i:=3) (tv (tN (Qo g i true)) rfl) VEvp.nil)))) (bc nofun (bc nofun (bc nofun (bc nofun bn)))) Tryz.underlying138 YE (fun _=>RL.cons (.int _ _) (RL.cons (.bool _) (RL.cons (.int _ _) (RL.cons (.int _ _) (RL.nil _))))) (by kernel_rfl) (by kernel_rfl)) (kO (OM.buildSlice (l:= [(T.agg [(tN ((Qd g i).2+1)),(tB true),(tN i),(tN (Qo g i true))])]) (VEvp.cons (tv (T.agg [(tN ((Qd g i).2+1)),(tB true),(tN i),(tN (Qo g i true))]) rfl) VEvp.nil) rfl (by decide) (bc (nofun) bn) (bc ((bc (rfl) (bc (rfl) (bc (rfl) (bc (rfl) bn))))) bn) (bc (rfl) bn) Z9 YE (by kernel_rfl) rfl (by rw [Zk];decide) Zk (Nat.le_of_ble_eq_true rfl)) (cO (B.append (rows:=(((Qd g i).1++ [(D.Slot.mk ((((Qd g i).2+1):Nat):Int) false ((i:Nat):Int) ((Qo g i false:Nat):Int))]).map (Qf true))) (rows2:= [[(tN ((Qd g i).2+1)),(tB true),(tN i),(tN (Qo g i true))]]) (rows3:=((((Qd g i).1++ [(D.Slot.mk ((((Qd g i).2+1):Nat):Int) false ((i:Nat):Int) ((Qo g i false:Nat):Int))])++ [(D.Slot.mk ((((Qd g i).2+1):Nat):Int) true ((i:Nat):Int) ((Qo g i true:Nat):Int))]).map (Qf true))) (VDst.own (tv (T.os 4 3 0 ((((Qd g i).1++ [(D.Slot.mk ((((Qd g i).2+1):Nat):Int) false ((i:Nat):Int) ((Qo g i false:Nat):Int))]).map (Qf true)).length)) rfl) rfl rfl) (VSrc.own (tv (T.os 4 4 0 1) rfl) rfl rfl Z9 (bc (bc rfl (bc rfl (bc rfl (bc rfl bn)))) bn)) (by decide) Z9 Zk (by decide) YE rfl (of_decide_eq_true (by kernel_rfl)) (by (simp only [List.length_map,List.length_append,List.length_cons,List.length_nil,List.length_replicate,List.length_set,List.length_drop,List.length_take,YW] at *;omega)) ((List.map_append (f:=Qf true) (l₁:=((Qd g i).1++ [(D.Slot.mk ((((Qd g i).2+1):Nat):Int) false ((i:Nat):Int) ((Qo g i false:Nat):Int))])) (l₂:= [(D.Slot.mk ((((Qd g i).2+1):Nat):Int) true ((i:Nat):Int) ((Qo g i true:Nat):Int))])).symm)) (aO (T.os 4 5 0 (((((Qd g i).1++ [(D.Slot.mk ((((Qd g i).2+1):Nat):Int) false ((i:Nat):Int) ((Qo g i false:Nat):Int))])++ [(D.Slot.mk ((((Qd g i).2+1):Nat):Int) true ((i:Nat):Int) ((Qo g i true:Nat):Int))]).map (Qf true)).length)) rfl (VRunO.nil (vinB.n (tn (VRun.region ?_)))))))))))
    refine fO (QB (tv (tN i) rfl) (VEv.int .i64 1) (by omega)) (mO (tN (i+1)) rfl (VRunO.nil (tn ?_)))
    have he3:(((Qd g i).1++ [(D.Slot.mk ((((Qd g i).2+1):Nat):Int) false ((i:Nat):Int) ((Qo g i false:Nat):Int))])++ [(D.Slot.mk ((((Qd g i).2+1):Nat):Int) true ((i:Nat):Int) ((Qo g i true:Nat):Int))])=(Qd g (i+1)).1:=by (rw [Yy,ZX];simp [*];done)
    refine ⟨(i+1:Nat),?_,?_,Wk.mk (fun k=>if k=1 then 5 else k) ?_ ?_ ?_⟩
    ·trivial
    ·omega
    ·exact (b2 (b2 (bc ⟨(congrArg (fun l_=>T.os 4 5 0 (List.map (Qf true) l_).length) he3),rfl⟩ (bc ⟨(congrArg (T.int .i64) (show ((((Qd g i).2+1):Nat):Int)=(((Qd g (i+1)).2:Nat):Int) from (by (rw [ZX];simp [*];done)))),rfl⟩ (b2 (b2 bn))))))
    ·exact (b3 (bc ⟨(congrArg (fun l_=>some (Obj.rows 4 (List.map (Qf true) l_))) he3),(lb rfl),rfl⟩ bn))
    ·exact nd rfl
   refine sk (vinB.n (tn (VRun.region (fO (QB (tv (tN i) rfl) (VEv.int .i64 1) (by omega)) (mO (tN (i+1)) rfl (VRunO.nil (tn ?_)))))))
   have he4:((Qd g i).1++ [(D.Slot.mk ((((Qd g i).2+1):Nat):Int) false ((i:Nat):Int) ((Qo g i false:Nat):Int))])=(Qd g (i+1)).1:=by (rw [Yy,ZX];simp [*];done)
   refine ⟨(i+1:Nat),?_,?_,Wk.mk (fun k=>if k=1 then 3 else k) ?_ ?_ ?_⟩
   ·trivial
   ·omega
   ·exact (b2 (b2 (bc ⟨(congrArg (fun l_=>T.os 4 3 0 (List.map (Qf true) l_).length) he4),rfl⟩ (bc ⟨(congrArg (T.int .i64) (show ((((Qd g i).2+1):Nat):Int)=(((Qd g (i+1)).2:Nat):Int) from (by (rw [ZX];simp [*];done)))),rfl⟩ (b2 (b2 bn))))))
   ·exact (b3 (bc ⟨(congrArg (fun l_=>some (Obj.rows 4 (List.map (Qf true) l_))) he4),(lb rfl),rfl⟩ bn))
   ·exact nd rfl
  refine gF (dz fhg25_2) rfl rfl (OF.move (tv (tN (Qo g i true)) rfl)) (gF (dz fhg25_2) rfl rfl (B.geq (c:=(decide (2≤Qo g i true))) (tv (tN (Qo g i true)) rfl) (VEv.int .i64 2) (by exact Zb (by omega))) (fO (OF.pickF (VEv.tmpB rfl (dz fhg25_2)) (tv (tB (decide (2≤Qo g i true))) rfl)) (nt ?_)))
  refine cd (2≤Qo g i true) rfl (fun fhc2=> ?_) fun fhc2=> ?_
  ·refine VRun.region ?_
   refine mO (tN ((Qd g i).2)) rfl (fO (QB (tv (tN ((Qd g i).2)) rfl) (VEv.int .i64 1) (by omega)) (aO (tN ((Qd g i).2+1)) rfl (VRunO.nil (tn (sq (sr (mO (tN (Qo g i false)) rfl (fO (B.geq (c:=(decide (2≤Qo g i false))) (tv (tN (Qo g i false)) rfl) (VEv.int .i64 2) (by exact Zb (by omega))) (nt (cg (dz fhg25_2) rfl (sk ?_)))))))))))
   refine tn (sr (mO (tN (Qo g i true)) rfl (fO (B.geq (c:=(decide (2≤Qo g i true))) (tv (tN (Qo g i true)) rfl) (VEv.int .i64 2) (by exact Zb (by omega))) (nt (ck (dy fhc2) rfl (VRun.region (mO (T.os 4 1 0 ((((Qd g i).1).map (Qf true)).length)) rfl (mO (tN ((Qd g i).2+1)) rfl (mO (tN i) rfl (mO (tN (Qo g i true)) rfl (fO (OF.build (l:= [(0,(tN ((Qd g i).2+1))),(1,(tB true)),(2,(tN i)),(3,(tN (Qo g i true)))]) (zs:= [(tN 0),(tB false),(tN 0),(tN 0)]) (out:= [(tN ((Qd g i).2+1)),(tB true),(tN i),(tN (Qo g i true))]) (VEvp.cons (i:=0) (tv (tN ((Qd g i).2+1)) rfl) (VEvp.cons (i:=1) (VEv.bool true) (VEvp.cons (i:=2) (tv (tN i) rfl) (VEvp.cons (i:=3) (tv (tN (Qo g i true)) rfl) VEvp.nil)))) (bc nofun (bc nofun (bc nofun (bc nofun bn)))) Tryz.underlying138 YE (fun _=>RL.cons (.int _ _) (RL.cons (.bool _) (RL.cons (.int _ _) (RL.cons (.int _ _) (RL.nil _))))) (by kernel_rfl) (by kernel_rfl)) ?_)))))))))))
   refine kO (OM.buildSlice (l:= [(T.agg [(tN ((Qd g i).2+1)),(tB true),(tN i),(tN (Qo g i true))])]) (VEvp.cons (tv (T.agg [(tN ((Qd g i).2+1)),(tB true),(tN i),(tN (Qo g i true))]) rfl) VEvp.nil) rfl (by decide) (bc (nofun) bn) (bc ((bc (rfl) (bc (rfl) (bc (rfl) (bc (rfl) bn))))) bn) (bc (rfl) bn) Z9 YE (by kernel_rfl) rfl (by rw [Zk];decide) Zk (Nat.le_of_ble_eq_true rfl)) (cO (B.append (rows:=(((Qd g i).1).map (Qf true))) (rows2:= [[(tN ((Qd g i).2+1)),(tB true),(tN i),(tN (Qo g i true))]]) (rows3:=(((Qd g i).1++ [(D.Slot.mk ((((Qd g i).2+1):Nat):Int) true ((i:Nat):Int) ((Qo g i true:Nat):Int))]).map (Qf true))) (VDst.own (tv (T.os 4 1 0 ((((Qd g i).1).map (Qf true)).length)) rfl) rfl rfl) (VSrc.own (tv (T.os 4 2 0 1) rfl) rfl rfl Z9 (bc (bc rfl (bc rfl (bc rfl (bc rfl bn)))) bn)) (by decide) Z9 Zk (by decide) YE rfl (of_decide_eq_true (by kernel_rfl)) (by (simp only [List.length_map,List.length_append,List.length_cons,List.length_nil,List.length_replicate,List.length_set,List.length_drop,List.length_take,YW] at *;omega)) ((List.map_append (f:=Qf true) (l₁:=(Qd g i).1) (l₂:= [(D.Slot.mk ((((Qd g i).2+1):Nat):Int) true ((i:Nat):Int) ((Qo g i true:Nat):Int))])).symm)) (aO (T.os 4 3 0 ((((Qd g i).1++ [(D.Slot.mk ((((Qd g i).2+1):Nat):Int) true ((i:Nat):Int) ((Qo g i true:Nat):Int))]).map (Qf true)).length)) rfl (VRunO.nil (vinB.n (tn (VRun.region (fO (QB (tv (tN i) rfl) (VEv.int .i64 1) (by omega)) (mO (tN (i+1)) rfl (VRunO.nil (tn ?_))))))))))
   have he5:((Qd g i).1++ [(D.Slot.mk ((((Qd g i).2+1):Nat):Int) true ((i:Nat):Int) ((Qo g i true:Nat):Int))])=(Qd g (i+1)).1:=by (rw [Yy,ZX];simp [*];done)
   refine ⟨(i+1:Nat),?_,?_,Wk.mk (fun k=>if k=1 then 3 else k) ?_ ?_ ?_⟩
   ·trivial
   ·omega
   ·exact (b2 (b2 (bc ⟨(congrArg (fun l_=>T.os 4 3 0 (List.map (Qf true) l_).length) he5),rfl⟩ (bc ⟨(congrArg (T.int .i64) (show ((((Qd g i).2+1):Nat):Int)=(((Qd g (i+1)).2:Nat):Int) from (by (rw [ZX];simp [*];done)))),rfl⟩ (b2 (b2 bn))))))
   ·exact (b3 (bc ⟨(congrArg (fun l_=>some (Obj.rows 4 (List.map (Qf true) l_))) he5),(lb rfl),rfl⟩ bn))
   ·exact nd rfl
  refine sk (tn (sq (sr (mO (tN (Qo g i false)) rfl (fO (B.geq (c:=(decide (2≤Qo g i false))) (tv (tN (Qo g i false)) rfl) (VEv.int .i64 2) (by exact Zb (by omega))) (nt (cg (dz fhg25_2) rfl (sk (tn (sr (mO (tN (Qo g i true)) rfl ?_)))))))))))
  refine fO (B.geq (c:=(decide (2≤Qo g i true))) (tv (tN (Qo g i true)) rfl) (VEv.int .i64 2) (by exact Zb (by omega))) (nt (cg (dz fhc2) rfl (sk (vinB.n (tn (VRun.region (fO (QB (tv (tN i) rfl) (VEv.int .i64 1) (by omega)) (mO (tN (i+1)) rfl (VRunO.nil (tn ?_))))))))))
  have he6:(Qd g i).1=(Qd g (i+1)).1:=by (rw [Yy,ZX];simp [*];done)
  refine ⟨(i+1:Nat),?_,?_,Wk.mk (fun k=>k) ?_ ?_ ?_⟩
  ·trivial
  ·omega
  ·exact (b2 (b2 (bc ⟨(congrArg (fun l_=>T.os 4 1 0 (List.map (Qf true) l_).length) he6),rfl⟩ (bc ⟨(congrArg (T.int .i64) (show (((Qd g i).2:Nat):Int)=(((Qd g (i+1)).2:Nat):Int) from (by (rw [ZX];simp [*];done)))),rfl⟩ (b2 (b2 bn))))))
  ·exact (b3 (bc ⟨(congrArg (fun l_=>some (Obj.rows 4 (List.map (Qf true) l_))) he6),(lb rfl),rfl⟩ bn))
  ·exact nd rfl
 refine VRun.exit (vthn.e (vthn.e (vinB.e (tn (sr (mO (T.os 4 1 0 ((((Qd g i).1).map (Qf true)).length)) rfl (aO (T.os 4 1 0 ((((Qd g i).1).map (Qf true)).length)) rfl (nt (rt ?_)))))))))
 refine vfin.eq (r':=(T.sl true 4 (((Qd g i).1).map (Qf true)))) ?_ (vfin.r (VRes.tmp (t:=(T.os 4 1 0 ((((Qd g i).1).map (Qf true)).length))) rfl VRes.nil) (Give.os rfl rfl (okeSlot.cleanMap _)))
 show (T.sl true 4 (((Qd g i).1).map (Qf true)))=(T.sl true 4 ((Qb g).map (Qf true)))
 refine congrArg (fun l_=>T.sl true 4 (List.map (Qf true) l_)) ?_
 refine QdP hI1 (.inl hgo) ?_;left;assumption
noncomputable section
def Qcx (g:D.Grid):Prop:=∃s∈Qb g,s.Length<3
instance (g:D.Grid):Decidable (Qcx g):=Classical.propDecidable _
end
theorem Qej (n:Nat) (g:D.Grid) (hc:g.Cells.size≤maxLen):Pure (Qq Tryz.prog (n+4)) 134 [(T.agg (Qc false g))] (tB (decide (Qcx g))):=by
 refine Pure.intro (rs:= [ResultVar.tmp 2]) Tryz.func134 rfl rfl rfl (E0:= [(0,(T.agg (Qc false g)))]) rfl ?_
 obtain ⟨hlim,hmx,hmax⟩:=QC
 have hsl:=Ze g
 refine sr (kO (B.box (ts:=(Qc false g)) (tv (T.agg (Qc false g)) rfl) nofun rfl) (fO (OF.assign (VEv.bool false)) (nt (sr (lO (OL.loadOn (us:=(Qc false g)) (tv (T.op 0 0) rfl) rfl QX QT (lb rfl) rfl) (cO (OC.callF (us:= [(T.agg (Qc false g))]) (r:=(T.sl true 4 ((Qb g).map (Qf true)))) (r':=(T.os 4 1 0 (((Qb g).map (Qf true)).length))) (objs:= [(Obj.rows 4 ((Qb g).map (Qf true)))]) rfl (vc (tv (T.agg (Qc false g)) rfl) vn) (LendL.cons (lg Qs) ln) (ZA (n+0) g (by assumption)) rfl) (aO (T.os 4 1 0 (((Qb g).map (Qf true)).length)) rfl (nt (sq (sr (fO (OF.assign (VEv.int .i64 0)) ?_)))))))))))
 refine nt (VRun.block ?_)
 refine VRun.loop (A:=Nat) (fun s_=> [(3,(T.os 4 0 0 (((Qb g).map (Qf true)).length))),(4,(tN s_))]) (fun s_=>Q3 [(0,(Obj.rows 4 ((Qb g).map (Qf true))))]) 1 (fun s_=>NoneTo (fun s:D.Slot=>s.Length<3) (Qb g) s_) (fun s_=>(Qb g).length - s_) (0:Nat) ?_ (Wk.mk (fun k=>if k=0 then 1 else k) ?_ ?_ ?_) ?_
 ·exact NoneTo.start _ _
 ·exact (b2 (b2 bn))
 ·exact (b3 bn)
 ·exact nd rfl
 rintro i (hI':NoneTo (fun s:D.Slot=>s.Length<3) (Qb g) i)
 show VRun _ _ _ [(3,(T.os 4 0 0 (((Qb g).map (Qf true)).length))),(4,(tN i))] (Q3 [(0,(Obj.rows 4 ((Qb g).map (Qf true))))]) 1 _
 have hI1:=hI'.1
 refine sq (sr (mO (tN i) rfl (mO (T.os 4 0 0 (((Qb g).map (Qf true)).length)) rfl (lO (B.lenO (m:=(Qb g).length) (tv (T.os 4 0 0 (((Qb g).map (Qf true)).length)) rfl) Z9 (List.length_map ..)) (fO (Zf (tv (tN i) rfl) (tv (tN ((Qb g).length)) rfl)) (nt ?_))))))
 refine cd (i<(Qb g).length) rfl (fun fhc0=> ?_) fun fhc0=> ?_
 ·refine sk ?_
  refine tn (sq (VRun.block (sr (mO (T.os 4 0 0 (((Qb g).map (Qf true)).length)) rfl (mO (tN i) rfl ?_)))))
  obtain ⟨x1,hx1⟩:∃x,(Qb g)[i]? =some x:=⟨_,List.getElem?_eq_getElem (by omega)⟩
  refine fO (B.indexAddrO (i:=i) (tv (T.os 4 0 0 (((Qb g).map (Qf true)).length)) rfl) (tv (tN i) rfl) rfl (by (simp only [List.length_map];omega)) Z9 Zk Qa7) (fO (OF.fieldAddrP (tv (T.orp 4 0 i 0) rfl) QaV) (lO (OL.loadP1 (t:=(tI x1.Length)) (row:=(Qf true x1)) (tv (T.orp 4 0 i 3) rfl) rfl (Qv _ hx1) rfl rfl QU) (fO (xls (tv (tI x1.Length) rfl) (VEv.int .i64 3)) (nt ?_))))
  refine cd (x1.Length<3) rfl (fun fhc1=> ?_) fun fhc1=> ?_
  ·refine sr ?_
   refine fO (OF.assign (VEv.bool true)) (nt (rt (vinB.r (tr (tr (vinB.r (tr (vb (b':=true) rfl ?_))))))))
   symm;rw [decide_eq_true_eq];exact ⟨x1,List.mem_of_getElem? hx1,fhc1⟩
  refine sk (vinB.n (tn (VRun.region (mO (tN i) rfl (fO (QB (tv (tN i) rfl) (VEv.int .i64 1) (by omega)) (aO (tN (i+1)) rfl (VRunO.nil (tn ?_))))))))
  refine ⟨(i+1:Nat),?_,?_,Wk.mk (fun k=>k) ?_ ?_ ?_⟩
  ·exact hI'.next hx1 fhc1
  ·omega
  ·exact (b2 (b2 bn))
  ·exact (b3 bn)
  ·exact nd rfl
 refine VRun.exit (vthn.e (vthn.e (vinB.e (tn (sr (fO (OF.assign (VEv.bool false)) (nt (rt (vb (b':=false) rfl ?_)))))))))
 symm;rw [decide_eq_false_iff_not];rintro ⟨y,hy,hy2⟩;exact hI'.mem fhc0 y hy hy2
end Go.Proofs.YtcccmceoplcciaaGreat.AE
namespace Go.Proofs.YtcccmceoplcciaaGreat.AE
open Go Go.RowKit
set_option linter.unusedVariables false
set_option linter.unusedSimpArgs false
set_option maxRecDepth 20000
set_option maxHeartbeats 2000000
noncomputable section
def Qfa (g:D.Grid) (s:D.Slot):Int:=if s.Down=true then g.Cols else 1
def Qi (g:D.Grid) (s:D.Slot) (n:Nat):List Int:=(List.range n).map fun k=>s.Cell+((k:Nat):Int)*Qfa g s
theorem J1 (g:D.Grid) (s:D.Slot) (n:Nat):(Qi g s n).length=n:=by simp [Qi]
theorem Qaf (g:D.Grid) (s:D.Slot) (n:Nat):Qi g s (n+1)=Qi g s n++ [s.Cell+((n:Nat):Int)*Qfa g s]:=by
 simp [Qi,List.range_succ]
def Qgg (g:D.Grid) (s:D.Slot):Prop:=gridOk g∧(0≤s.Cell∧s.Cell≤36)∧(0≤s.Length∧s.Length≤6)
theorem Qgj {ok:Nat→Prop} [DecidablePred ok]:∀f n,QaC ok f n≤n+f
 | 0,n=>Nat.le_refl _
 | f+1,n=>by
  simp only [QaC]
  split
  ·have:=Qgj (ok:=ok) f (n+1)
   omega
  ·omega
theorem Qhn (g:D.Grid) (cell:Nat) (down:Bool):Qo g cell down≤6:=by
 unfold Qo Qgc QfQ
 split<;>split<;>first | omega | (have:=Qgj (ok:=slD g cell) 6 0;omega) | (have:=Qgj (ok:=slA g cell) 6 0;omega)
theorem Qf7 (g:D.Grid) (hg:gridOk g):∀i,i≤g.Cells.size→∀s∈(Qd g i).1,Qgg g s
 | 0,_,s,hs=>by simp [Qd] at hs
 | i+1,hi,s,hs=>by
  have hsz:=hg.size
  rw [Yy,List.mem_append,List.mem_append] at hs
  rcases hs with (hs | hs) | hs
  ·exact Qf7 g hg i (by omega) s hs
  ·split at hs
   ·obtain rfl:=List.mem_singleton.1 hs
    have:=Qhn g i false
    exact ⟨hg,by simp only;omega,by simp only;omega⟩
   ·cases hs
  ·split at hs
   ·obtain rfl:=List.mem_singleton.1 hs
    have:=Qhn g i true
    exact ⟨hg,by simp only;omega,by simp only;omega⟩
   ·cases hs
theorem QaQ {g:D.Grid} {s:D.Slot} (hs:s∈Qb g):Qgg g s:=by
 unfold Qb at hs
 split at hs
 ·exact Qf7 g ‹_› _ (Nat.le_refl _) s hs
 ·cases hs
end
theorem QgV (n:Nat) (g:D.Grid) (s:D.Slot) (hs:Qgg g s):Pure (Qq Tryz.prog (n+1)) 178 [(T.agg (Qc false g)),(T.agg (Qf false s))] (T.sl true 1 ((Qi g s s.Length.toNat).map (Qa true))):=by
 refine Pure.intro (rs:= [ResultVar.tmp 4]) Tryz.func178 rfl rfl rfl (E0:= [(0,(T.agg (Qc false g))),(1,(T.agg (Qf false s)))]) rfl ?_
 obtain ⟨hlim,hmx,hmax⟩:=QC
 obtain ⟨hg,hc,hl⟩:=hs
 have hB:=hg.2.1
 refine sr (kO (B.box (ts:=(Qc false g)) (tv (T.agg (Qc false g)) rfl) nofun rfl) (kO (B.box (ts:=(Qf false s)) (tv (T.agg (Qf false s)) rfl) nofun rfl) (fO (OF.assign VEv.nils) (nt (sr (fO (OF.assign (VEv.int .i64 1)) (nt (sq (sr (lf (tB s.Down) rfl Qi7 rfl rfl st4 (nt ?_)))))))))))
 refine VRun.cond (tv (tB s.Down) rfl) (fun hc0=> ?_) (fun hc0=> ?_)
 ·have fhc0:s.Down=true:=hc0
  refine VRun.region (lf (tI g.Cols) rfl Zn rfl rfl QU (aO (tI g.Cols) rfl (VRunO.nil (tn (sr (fO (OF.assign VEv.nils) (nt (sq (sr (lf (tI s.Length) rfl QaV rfl rfl QU (fO (OF.move (VEv.int .i64 0)) ?_)))))))))))
  refine nt (VRun.block (VRun.wk (Wk.phantom 6 1 rfl) ?_))
  have he1: []=((Qi g s 0).map (Qa true)):=by rfl
  refine VRun.loop (A:=Nat) (fun s_=> [(3,(T.op 0 0)),(4,T.nils),(5,(tI g.Cols)),(6,(T.os 1 1 0 (((Qi g s s_).map (Qa true)).length))),(13,(tI s.Length)),(14,(tN s_))]) (fun s_=>Q3 [(0,(Obj.cells (Qf false s))),(1,(Obj.rows 1 ((Qi g s s_).map (Qa true))))]) 2 (fun s_=>s_≤s.Length.toNat) (fun s_=>s.Length.toNat - s_) (0:Nat) ?_ (Wk.mk (fun k=>if k=0 then 1 else if k=1 then 2 else k) ?_ ?_ ?_) ?_
  ·(simp;done)
  ·exact (b2 (b2 (b2 (bc ⟨(congrArg (fun n_=>T.os 1 2 0 n_) (show 0=((Qi g s 0).map (Qa true)).length from (by rfl))),rfl⟩ (b2 (b2 bn))))))
  ·exact (b3 (bc ⟨(congrArg (fun l_=>some (Obj.rows 1 l_)) he1),(lb rfl),rfl⟩ bn))
  ·exact nd rfl
  rintro i (hI':i≤s.Length.toNat)
  show VRun _ _ _ [(3,(T.op 0 0)),(4,T.nils),(5,(tI g.Cols)),(6,(T.os 1 1 0 (((Qi g s i).map (Qa true)).length))),(13,(tI s.Length)),(14,(tN i))] (Q3 [(0,(Obj.cells (Qf false s))),(1,(Obj.rows 1 ((Qi g s i).map (Qa true))))]) 2 _
  have hI1:=hI'
  have hN:=Qem (n:=i) (c:=g.Cols) (by omega) hB.1 hB.2
  have hcl:=J1 g s i
  refine sr (fO (xls (tv (tN i) rfl) (tv (tI s.Length) rfl)) (nt (sq ?_)))
  refine cd (((i:Nat):Int)<s.Length) rfl (fun fhc1=> ?_) fun fhc1=> ?_
  ·refine sk ?_
   refine tn (sq (VRun.block (sr (mO (tN i) rfl (aO (tN i) rfl (nt (VRun.region (mO (T.os 1 1 0 (((Qi g s i).map (Qa true)).length)) rfl (lf (tI s.Cell) rfl Qeu rfl rfl QU (mO (tN i) rfl (mO (tI g.Cols) rfl ?_)))))))))))
   refine fO (B.mul (n:=(((i:Nat):Int)*g.Cols)) (tv (tN i) rfl) (tv (tI g.Cols) rfl) (by (refine QfY ?_ ?_ ?_<;>omega))) (fO (B.add (n:=(s.Cell+(((i:Nat):Int)*g.Cols))) (tv (tI s.Cell) rfl) (tv (tI (((i:Nat):Int)*g.Cols)) rfl) (by (rw [Qt (by omega)];done))) (kO (OM.buildSlice (l:= [(tI (s.Cell+(((i:Nat):Int)*g.Cols)))]) (VEvp.cons (tv (tI (s.Cell+(((i:Nat):Int)*g.Cols))) rfl) VEvp.nil) rfl (by decide) (bc (nofun) bn) (bc ((bc (rfl) bn)) bn) (bc (rfl) bn) Zg J3 (by kernel_rfl) rfl (by rw [Q8];decide) Q8 (Nat.le_of_ble_eq_true rfl)) (cO (B.append (rows:=((Qi g s i).map (Qa true))) (rows2:= [[(tI (s.Cell+(((i:Nat):Int)*g.Cols)))]]) (rows3:=((Qi g s i++ [(s.Cell+(((i:Nat):Int)*g.Cols))]).map (Qa true))) (VDst.own (tv (T.os 1 1 0 (((Qi g s i).map (Qa true)).length)) rfl) rfl rfl) (VSrc.own (tv (T.os 1 2 0 1) rfl) rfl rfl Zg (bc (bc rfl bn) bn)) (by decide) Zg Q8 (by decide) J3 rfl (of_decide_eq_true (by kernel_rfl)) (by (simp only [List.length_map,List.length_append,List.length_cons,List.length_nil,List.length_replicate,List.length_set,List.length_drop,List.length_take,YW] at *;omega)) ((List.map_append (f:=Qa true) (l₁:=Qi g s i) (l₂:= [(s.Cell+(((i:Nat):Int)*g.Cols))])).symm)) (aO (T.os 1 3 0 (((Qi g s i++ [(s.Cell+(((i:Nat):Int)*g.Cols))]).map (Qa true)).length)) rfl (VRunO.nil (vinB.n (tn (VRun.region (fO (QB (tv (tN i) rfl) (VEv.int .i64 1) (by omega)) (mO (tN (i+1)) rfl (VRunO.nil ?_)))))))))))
   refine tn ?_
   have he2:(Qi g s i++ [(s.Cell+(((i:Nat):Int)*g.Cols))])=Qi g s (i+1):=by rw [Qaf,Qfa,if_pos fhc0]
   refine ⟨(i+1:Nat),?_,?_,Wk.mk (fun k=>if k=1 then 3 else k) ?_ ?_ ?_⟩
   ·omega
   ·omega
   ·exact (b2 (b2 (b2 (bc ⟨(congrArg (fun l_=>T.os 1 3 0 (List.map (Qa true) l_).length) he2),rfl⟩ (b2 (b2 bn))))))
   ·exact (b3 (bc ⟨(congrArg (fun l_=>some (Obj.rows 1 (List.map (Qa true) l_))) he2),(lb rfl),rfl⟩ bn))
   ·exact nd rfl
  refine VRun.exit (vthn.e (vthn.e (vinB.e (tn (sr (mO (T.os 1 1 0 (((Qi g s i).map (Qa true)).length)) rfl (aO (T.os 1 1 0 (((Qi g s i).map (Qa true)).length)) rfl (nt (rt ?_)))))))))
  refine vfin.eq (r':=(T.sl true 1 ((Qi g s i).map (Qa true)))) ?_ (vfin.r (VRes.tmp (t:=(T.os 1 1 0 (((Qi g s i).map (Qa true)).length))) rfl VRes.nil) (Give.os rfl rfl (okInt.cleanMap _)))
  show (T.sl true 1 ((Qi g s i).map (Qa true)))=(T.sl true 1 ((Qi g s s.Length.toNat).map (Qa true)))
  refine congrArg (fun l_=>T.sl true 1 (List.map (Qa true) l_)) ?_
  rw [show i=s.Length.toNat from by omega]
 have fhc0:s.Down=false:=hc0
 refine sk (tn (sr (fO (OF.assign VEv.nils) (nt (sq (sr (lf (tI s.Length) rfl QaV rfl rfl QU (fO (OF.move (VEv.int .i64 0)) (nt (VRun.block (VRun.wk (Wk.phantom 6 1 rfl) ?_)))))))))))
 have he3: []=((Qi g s 0).map (Qa true)):=by rfl
 refine VRun.loop (A:=Nat) (fun s_=> [(3,(T.op 0 0)),(4,T.nils),(5,(tN 1)),(6,(T.os 1 1 0 (((Qi g s s_).map (Qa true)).length))),(13,(tI s.Length)),(14,(tN s_))]) (fun s_=>Q3 [(0,(Obj.cells (Qf false s))),(1,(Obj.rows 1 ((Qi g s s_).map (Qa true))))]) 2 (fun s_=>s_≤s.Length.toNat) (fun s_=>s.Length.toNat - s_) (0:Nat) ?_ (Wk.mk (fun k=>if k=0 then 1 else if k=1 then 2 else k) ?_ ?_ ?_) ?_
 ·(simp;done)
 ·exact (b2 (b2 (b2 (bc ⟨(congrArg (fun n_=>T.os 1 2 0 n_) (show 0=((Qi g s 0).map (Qa true)).length from (by rfl))),rfl⟩ (b2 (b2 bn))))))
 ·exact (b3 (bc ⟨(congrArg (fun l_=>some (Obj.rows 1 l_)) he3),(lb rfl),rfl⟩ bn))
 ·exact nd rfl
 rintro i (hI':i≤s.Length.toNat)
 show VRun _ _ _ [(3,(T.op 0 0)),(4,T.nils),(5,(tN 1)),(6,(T.os 1 1 0 (((Qi g s i).map (Qa true)).length))),(13,(tI s.Length)),(14,(tN i))] (Q3 [(0,(Obj.cells (Qf false s))),(1,(Obj.rows 1 ((Qi g s i).map (Qa true))))]) 2 _
 have hI1:=hI'
 have hN:=Qem (n:=i) (c:=g.Cols) (by omega) hB.1 hB.2
 have hcl:=J1 g s i
 refine sr (fO (xls (tv (tN i) rfl) (tv (tI s.Length) rfl)) (nt (sq ?_)))
 refine cd (((i:Nat):Int)<s.Length) rfl (fun fhc1=> ?_) fun fhc1=> ?_
 ·refine sk ?_
  refine tn (sq (VRun.block (sr (mO (tN i) rfl (aO (tN i) rfl (nt (VRun.region (mO (T.os 1 1 0 (((Qi g s i).map (Qa true)).length)) rfl (lf (tI s.Cell) rfl Qeu rfl rfl QU (mO (tN i) rfl (mO (tN 1) rfl ?_)))))))))))
  refine fO (B.mul (n:=(((i*1):Nat):Int)) (tv (tN i) rfl) (tv (tN 1) rfl) (by (rw [Qt (by omega)];omega))) (fO (B.add (n:=(s.Cell+(((i*1):Nat):Int))) (tv (tI s.Cell) rfl) (tv (tN (i*1)) rfl) (by (rw [Qt (by omega)];done))) (kO (OM.buildSlice (l:= [(tI (s.Cell+(((i*1):Nat):Int)))]) (VEvp.cons (tv (tI (s.Cell+(((i*1):Nat):Int))) rfl) VEvp.nil) rfl (by decide) (bc (nofun) bn) (bc ((bc (rfl) bn)) bn) (bc (rfl) bn) Zg J3 (by kernel_rfl) rfl (by rw [Q8];decide) Q8 (Nat.le_of_ble_eq_true rfl)) (cO (B.append (rows:=((Qi g s i).map (Qa true))) (rows2:= [[(tI (s.Cell+(((i*1):Nat):Int)))]]) (rows3:=((Qi g s i++ [(s.Cell+(((i*1):Nat):Int))]).map (Qa true))) (VDst.own (tv (T.os 1 1 0 (((Qi g s i).map (Qa true)).length)) rfl) rfl rfl) (VSrc.own (tv (T.os 1 2 0 1) rfl) rfl rfl Zg (bc (bc rfl bn) bn)) (by decide) Zg Q8 (by decide) J3 rfl (of_decide_eq_true (by kernel_rfl)) (by (simp only [List.length_map,List.length_append,List.length_cons,List.length_nil,List.length_replicate,List.length_set,List.length_drop,List.length_take,YW] at *;omega)) ((List.map_append (f:=Qa true) (l₁:=Qi g s i) (l₂:= [(s.Cell+(((i*1):Nat):Int))])).symm)) (aO (T.os 1 3 0 (((Qi g s i++ [(s.Cell+(((i*1):Nat):Int))]).map (Qa true)).length)) rfl (VRunO.nil (vinB.n (tn (VRun.region (fO (QB (tv (tN i) rfl) (VEv.int .i64 1) (by omega)) (mO (tN (i+1)) rfl (VRunO.nil ?_)))))))))))
  refine tn ?_
  have he4:(Qi g s i++ [(s.Cell+(((i*1):Nat):Int))])=Qi g s (i+1):=by (rw [Qaf,Qfa,fhc0];rfl)
  refine ⟨(i+1:Nat),?_,?_,Wk.mk (fun k=>if k=1 then 3 else k) ?_ ?_ ?_⟩
  ·omega
  ·omega
  ·exact (b2 (b2 (b2 (bc ⟨(congrArg (fun l_=>T.os 1 3 0 (List.map (Qa true) l_).length) he4),rfl⟩ (b2 (b2 bn))))))
  ·exact (b3 (bc ⟨(congrArg (fun l_=>some (Obj.rows 1 (List.map (Qa true) l_))) he4),(lb rfl),rfl⟩ bn))
  ·exact nd rfl
 refine VRun.exit (vthn.e (vthn.e (vinB.e (tn (sr (mO (T.os 1 1 0 (((Qi g s i).map (Qa true)).length)) rfl (aO (T.os 1 1 0 (((Qi g s i).map (Qa true)).length)) rfl (nt (rt ?_)))))))))
 refine vfin.eq (r':=(T.sl true 1 ((Qi g s i).map (Qa true)))) ?_ (vfin.r (VRes.tmp (t:=(T.os 1 1 0 (((Qi g s i).map (Qa true)).length))) rfl VRes.nil) (Give.os rfl rfl (okInt.cleanMap _)))
 show (T.sl true 1 ((Qi g s i).map (Qa true)))=(T.sl true 1 ((Qi g s s.Length.toNat).map (Qa true)))
 refine congrArg (fun l_=>T.sl true 1 (List.map (Qa true) l_)) ?_
 rw [show i=s.Length.toNat from by omega]
noncomputable section
def QD (g:D.Grid):List (List Int):=(Qb g).map fun s=>Qi g s s.Length.toNat
theorem Qj1 {g:D.Grid} {i:Nat} {s:D.Slot} (h:(Qb g)[i]? =some s):(QD g).take (i+1)=(QD g).take i++ [Qi g s s.Length.toNat]:=by
 unfold QD
 rw [List.take_add_one,List.getElem?_map,h]
 rfl
theorem QaO (g:D.Grid):(QD g).length=(Qb g).length:=by simp [QD]
end
theorem Jm (n:Nat) (g:D.Grid) (hc:g.Cells.size≤maxLen):Pure (Qq Tryz.prog (n+4)) 148 [(T.agg (Qc false g))] (T.sl true 1 ((QD g).map ((YM 1 Qa) true))):=by
 refine Pure.intro (rs:= [ResultVar.tmp 2]) Tryz.func148 rfl rfl rfl (E0:= [(0,(T.agg (Qc false g)))]) rfl ?_
 obtain ⟨hlim,hmx,hmax⟩:=QC
 have hsl:=Ze g
 have hll:=QaO g
 refine sr (kO (B.box (ts:=(Qc false g)) (tv (T.agg (Qc false g)) rfl) nofun rfl) (fO (OF.assign VEv.nils) (nt (sr (fO (OF.assign VEv.nils) (nt (sq (sr (lO (OL.loadOn (us:=(Qc false g)) (tv (T.op 0 0) rfl) rfl QX QT (lb rfl) rfl) (cO (OC.callF (us:= [(T.agg (Qc false g))]) (r:=(T.sl true 4 ((Qb g).map (Qf true)))) (r':=(T.os 4 1 0 (((Qb g).map (Qf true)).length))) (objs:= [(Obj.rows 4 ((Qb g).map (Qf true)))]) rfl (vc (tv (T.agg (Qc false g)) rfl) vn) (LendL.cons (lg Qs) ln) (JZ (n+0) g (by assumption)) rfl) (lO (B.lenO (m:=(Qb g).length) (tv (T.os 4 1 0 (((Qb g).map (Qf true)).length)) rfl) Z9 (List.length_map ..)) ?_)))))))))))
 refine fO (OF.move (VEv.int .i64 0)) (nt (VRun.block (VRun.wk (Wk.phantom 3 1 rfl) ?_)))
 have he1: []=(((QD g).take 0).map ((YM 1 Qa) true)):=by rfl
 refine VRun.loop (A:=Nat) (fun s_=> [(1,(T.op 0 0)),(2,T.nils),(3,(T.os 1 2 0 ((((QD g).take s_).map ((YM 1 Qa) true)).length))),(7,(T.os 4 1 0 (((Qb g).map (Qf true)).length))),(8,(tN ((Qb g).length))),(9,(tN s_))]) (fun s_=>Q3 [(0,(Obj.cells (Qc false g))),(1,(Obj.rows 4 ((Qb g).map (Qf true)))),(2,(Obj.rows 1 (((QD g).take s_).map ((YM 1 Qa) true))))]) 3 (fun s_=>s_≤(Qb g).length) (fun s_=>(Qb g).length - s_) (0:Nat) ?_ (Wk.mk (fun k=>k) ?_ ?_ ?_) ?_
 ·(simp;done)
 ·exact (b2 (b2 (bc ⟨(congrArg (fun n_=>T.os 1 2 0 n_) (show 0=(((QD g).take 0).map ((YM 1 Qa) true)).length from (by rfl))),rfl⟩ (b2 (b2 (b2 bn))))))
 ·exact (b3 (b3 (bc ⟨(congrArg (fun l_=>some (Obj.rows 1 l_)) he1),(lb rfl),rfl⟩ bn)))
 ·exact nd rfl
 rintro i (hI':i≤(Qb g).length)
 show VRun _ _ _ [(1,(T.op 0 0)),(2,T.nils),(3,(T.os 1 2 0 ((((QD g).take i).map ((YM 1 Qa) true)).length))),(7,(T.os 4 1 0 (((Qb g).map (Qf true)).length))),(8,(tN ((Qb g).length))),(9,(tN i))] (Q3 [(0,(Obj.cells (Qc false g))),(1,(Obj.rows 4 ((Qb g).map (Qf true)))),(2,(Obj.rows 1 (((QD g).take i).map ((YM 1 Qa) true))))]) 3 _
 have hI1:=hI'
 refine sr (fO (Zf (tv (tN i) rfl) (tv (tN ((Qb g).length)) rfl)) (nt (sq ?_)))
 refine cd (i<(Qb g).length) rfl (fun fhc0=> ?_) fun fhc0=> ?_
 ·refine sk ?_
  refine tn (sq (VRun.block (sr ?_)))
  obtain ⟨x1,hx1⟩:∃x,(Qb g)[i]? =some x:=⟨_,List.getElem?_eq_getElem (by omega)⟩
  refine fO (B.indexAddrO (i:=i) (tv (T.os 4 1 0 (((Qb g).map (Qf true)).length)) rfl) (tv (tN i) rfl) rfl (by (simp only [List.length_map];omega)) Z9 Zk Qa7) (lO (OL.loadPn (us:=(Qf false x1)) (row:=(Qf true x1)) (tv (T.orp 4 1 i 0) rfl) rfl (Qv _ hx1) QcD Zk (lb rfl) rfl (bc rfl (bc rfl (bc rfl (bc rfl bn))))) (kO (B.alloc (t:=(T.agg [(tN 0),(tB false),(tN 0),(tN 0)])) (ts:= [(tN 0),(tB false),(tN 0),(tN 0)]) YE QkY nofun (fun _=> .agg _ _ rfl (Yg (RL.cons (.int _ _) (RL.cons (.bool _) (RL.cons (.int _ _) (RL.cons (.int _ _) (RL.nil _))))))) rfl) (cO (B.storeO (us:=(Qf false x1)) (ws:=(Qf false x1)) (tv (T.op 3 0) rfl) (tv (T.agg (Qf false x1)) rfl) nofun rfl rfl (lb rfl) Qa7 Zk (bc rfl (bc rfl (bc rfl (bc rfl bn)))) rfl) (nt (VRun.region (mO (T.os 1 2 0 ((((QD g).take i).map ((YM 1 Qa) true)).length)) rfl (lO (OL.loadOn (us:=(Qc false g)) (tv (T.op 0 0) rfl) rfl QX QT (lb rfl) rfl) (lO (OL.loadOn (us:=(Qf false x1)) (tv (T.op 3 0) rfl) rfl QcD Zk (lb rfl) rfl) (cO (OC.callF (us:= [(T.agg (Qc false g)),(T.agg (Qf false x1))]) (r:=(T.sl true 1 ((Qi g x1 x1.Length.toNat).map (Qa true)))) (r':=(T.os 1 4 0 (((Qi g x1 x1.Length.toNat).map (Qa true)).length))) (objs:= [(Obj.rows 1 ((Qi g x1 x1.Length.toNat).map (Qa true)))]) rfl (vc (tv (T.agg (Qc false g)) rfl) (vc (tv (T.agg (Qf false x1)) rfl) vn)) (LendL.cons (lg Qs) (LendL.cons (lg okeSlot) ln)) (QgV (n+2) g x1 (by exact QaQ (List.mem_of_getElem? hx1))) rfl) ?_)))))))))
  refine B.sliceB (t:=(T.os 1 4 0 (((Qi g x1 x1.Length.toNat).map (Qa true)).length))) (us:= [(T.os 1 4 0 (((Qi g x1 x1.Length.toNat).map (Qa true)).length))]) (rows:= [[(T.sl true 1 ((Qi g x1 x1.Length.toNat).map (Qa true)))]]) VWant.always (VEvp.cons (tv (T.os 1 4 0 (((Qi g x1 x1.Length.toNat).map (Qa true)).length)) rfl) VEvp.nil) nofun rfl (Bury.os rfl rfl Bury.nil (by decide)) rfl (bc rfl bn) rfl Qfg QnK (by kernel_rfl) rfl (by rw [QbX];decide) QbX (Nat.le_of_ble_eq_true rfl) ?_
  refine cO (B.append (rows:=(((QD g).take i).map ((YM 1 Qa) true))) (rows2:= [[(T.sl true 1 ((Qi g x1 x1.Length.toNat).map (Qa true)))]]) (rows3:=(((QD g).take i++ [Qi g x1 x1.Length.toNat]).map ((YM 1 Qa) true))) (VDst.own (tv (T.os 1 2 0 ((((QD g).take i).map ((YM 1 Qa) true)).length)) rfl) rfl rfl) (VSrc.own (tv (T.os 1 5 0 1) rfl) rfl rfl Qfg (bc (bc rfl bn) bn)) (by decide) Qfg QbX (by decide) QnK rfl (of_decide_eq_true (by kernel_rfl)) (by (rw [List.length_map,List.length_take];simp only [List.length_cons,List.length_nil];omega)) ((List.map_append (f:=(YM 1 Qa) true) (l₁:=(QD g).take i) (l₂:= [Qi g x1 x1.Length.toNat])).symm)) (aO (T.os 1 6 0 ((((QD g).take i++ [Qi g x1 x1.Length.toNat]).map ((YM 1 Qa) true)).length)) rfl (VRunO.nil (vinB.n (tn (VRun.region (fO (QB (tv (tN i) rfl) (VEv.int .i64 1) (by omega)) (mO (tN (i+1)) rfl (VRunO.nil (tn ?_)))))))))
  have he2:((QD g).take i++ [Qi g x1 x1.Length.toNat])=(QD g).take (i+1):=by exact (Qj1 hx1).symm
  refine ⟨(i+1:Nat),?_,?_,Wk.mk (fun k=>if k=2 then 6 else k) ?_ ?_ ?_⟩
  ·trivial
  ·omega
  ·exact (b2 (b2 (bc ⟨(congrArg (fun l_=>T.os 1 6 0 (List.map ((YM 1 Qa) true) l_).length) he2),rfl⟩ (b2 (b2 (b2 bn))))))
  ·exact (b3 (b3 (bc ⟨(congrArg (fun l_=>some (Obj.rows 1 (List.map ((YM 1 Qa) true) l_))) he2),(lb rfl),rfl⟩ bn)))
  ·exact nd rfl
 refine VRun.exit (vthn.e (vthn.e (vinB.e (tn (sr (mO (T.os 1 2 0 ((((QD g).take i).map ((YM 1 Qa) true)).length)) rfl (aO (T.os 1 2 0 ((((QD g).take i).map ((YM 1 Qa) true)).length)) rfl (nt (rt ?_)))))))))
 refine vfin.eq (r':=(T.sl true 1 (((QD g).take i).map ((YM 1 Qa) true)))) ?_ (vfin.r (VRes.tmp (t:=(T.os 1 2 0 ((((QD g).take i).map ((YM 1 Qa) true)).length))) rfl VRes.nil) (Give.os rfl rfl ((Qkr okInt).cleanMap _)))
 show (T.sl true 1 (((QD g).take i).map ((YM 1 Qa) true)))=(T.sl true 1 ((QD g).map ((YM 1 Qa) true)))
 refine congrArg (fun l_=>T.sl true 1 (List.map ((YM 1 Qa) true) l_)) ?_
 rw [List.take_of_length_le (by omega)]
end Go.Proofs.YtcccmceoplcciaaGreat.AE
namespace Go.Proofs.YtcccmceoplcciaaGreat.AE
open Go Go.RowKit
set_option linter.unusedVariables false
set_option linter.unusedSimpArgs false
set_option maxRecDepth 20000
set_option maxHeartbeats 2000000
noncomputable section
theorem QdW (g:D.Grid):∀i,∀s∈(Qd g i).1,s.Cell<((i:Nat):Int)
 | 0,s,hs=>by simp [Qd] at hs
 | i+1,s,hs=>by
  rw [Yy,List.mem_append,List.mem_append] at hs
  rcases hs with (hs | hs) | hs
  ·have:=QdW g i s hs
   omega
  ·split at hs
   ·obtain rfl:=List.mem_singleton.1 hs
    simp only;omega
   ·cases hs
  ·split at hs
   ·obtain rfl:=List.mem_singleton.1 hs
    simp only;omega
   ·cases hs
theorem QcI (g:D.Grid):∀i,(Qd g i).1.Nodup
 | 0=>by simp [Qd]
 | i+1=>by
  have h:=QdW g i
  rw [Yy,List.nodup_append,List.nodup_append]
  refine ⟨⟨QcI g i,by split<;>simp,fun a ha b hb e=> ?_⟩,by split<;>simp,fun a ha b hb e=> ?_⟩
  ·split at hb
   ·obtain rfl:=List.mem_singleton.1 hb
    have:=h a ha
    rw [e] at this
    simp only at this
    omega
   ·cases hb
  ·split at hb
   ·obtain rfl:=List.mem_singleton.1 hb
    rcases List.mem_append.1 ha with ha | ha
    ·have:=h a ha
     rw [e] at this
     simp only at this
     omega
    ·split at ha
     ·obtain rfl:=List.mem_singleton.1 ha
      cases e
     ·cases ha
   ·cases hb
theorem QgG (g:D.Grid):(Qb g).Nodup:=by
 unfold Qb
 split
 ·exact QcI g _
 ·simp
def JT (g:D.Grid) (s:D.Slot) (i:Nat):List Int:=if s∈(Qb g).take i then Qi g s s.Length.toNat else []
theorem Qmw {g:D.Grid} {s x:D.Slot} {i:Nat} (h:(Qb g)[i]? =some x) (hn:¬x=s):JT g s (i+1)=JT g s i:=by
 unfold JT
 rw [List.take_add_one,h]
 simp [show ¬s=x from fun e=>hn e.symm]
theorem Qkh {g:D.Grid} {s x:D.Slot} {i:Nat} (h:(Qb g)[i]? =some x) (hn:x=s):JT g s i= []:=by
 subst hn
 refine if_neg fun hm=> ?_
 have hd:=QgG g
 have hi:=(List.getElem?_eq_some_iff.1 h).1
 rw [← List.take_append_drop i (Qb g),List.nodup_append] at hd
 refine hd.2.2 x hm x ?_ rfl
 rw [List.drop_eq_getElem_cons hi,(List.getElem?_eq_some_iff.1 h).2]
 exact List.mem_cons_self
theorem QlK {g:D.Grid} {s x:D.Slot} {i:Nat} (h:(Qb g)[i]? =some x) (hn:x=s):JT g s (i+1)=Qi g s s.Length.toNat:=by
 subst hn
 refine if_pos ?_
 rw [List.take_add_one,h]
 simp
theorem Ql8 {g:D.Grid} {s x:D.Slot} {i k:Nat} (h:(Qb g)[i]? =some x) (hn:x=s) (h1:¬((k:Nat):Int)<s.Length) (h2:k≤s.Length.toNat):Qi g s k=JT g s (i+1):=by
 rw [QlK h hn,show k=s.Length.toNat by omega]
theorem Ql3 (g:D.Grid) (s:D.Slot) {i:Nat} (h:(Qb g).length≤i):JT g s i=if s∈Qb g then Qi g s s.Length.toNat else []:=by
 rw [JT,List.take_of_length_le h]
end
theorem JY (n:Nat) (g:D.Grid) (s:D.Slot) (hc:g.Cells.size≤maxLen):Pure (Qq Tryz.prog (n+4)) 124 [(T.agg (Qc false g)),(T.agg (Qf false s))] (T.sl true 1 ((if s∈Qb g then Qi g s s.Length.toNat else []).map (Qa true))):=by
 refine Pure.intro (rs:= [ResultVar.tmp 4]) Tryz.func124 rfl rfl rfl (E0:= [(0,(T.agg (Qc false g))),(1,(T.agg (Qf false s)))]) rfl ?_
 obtain ⟨hlim,hmx,hmax⟩:=QC
 have hsl:=Ze g
 refine sr (kO (B.box (ts:=(Qc false g)) (tv (T.agg (Qc false g)) rfl) nofun rfl) (kO (B.box (ts:=(Qf false s)) (tv (T.agg (Qf false s)) rfl) nofun rfl) (fO (OF.assign VEv.nils) (nt (sr (kO (OM.slice0 Zg J3 (by kernel_rfl) rfl (by rw [Q8];decide) Q8) (aO (T.os 1 2 0 0) rfl (nt (sr (lO (OL.loadOn (us:=(Qc false g)) (tv (T.op 0 0) rfl) rfl QX QT (lb rfl) rfl) (cO (OC.callF (us:= [(T.agg (Qc false g))]) (r:=(T.sl true 4 ((Qb g).map (Qf true)))) (r':=(T.os 4 3 0 (((Qb g).map (Qf true)).length))) (objs:= [(Obj.rows 4 ((Qb g).map (Qf true)))]) rfl (vc (tv (T.agg (Qc false g)) rfl) vn) (LendL.cons (lg Qs) ln) (ZA (n+0) g (by assumption)) rfl) ?_)))))))))))
 refine aO (T.os 4 3 0 (((Qb g).map (Qf true)).length)) rfl (nt (sq (sr (fO (OF.assign (VEv.int .i64 0)) (nt (VRun.block ?_))))))
 have he1: []=((JT g s 0).map (Qa true)):=by rfl
 refine VRun.loop (A:=Nat) (fun s_=> [(2,(T.op 0 0)),(3,(T.op 1 0)),(4,T.nils),(5,(T.os 1 3 0 (((JT g s s_).map (Qa true)).length))),(6,(T.os 4 2 0 (((Qb g).map (Qf true)).length))),(7,(tN s_))]) (fun s_=>Q3 [(0,(Obj.cells (Qc false g))),(1,(Obj.cells (Qf false s))),(2,(Obj.rows 4 ((Qb g).map (Qf true)))),(3,(Obj.rows 1 ((JT g s s_).map (Qa true))))]) 4 (fun s_=>s_≤(Qb g).length) (fun s_=>(Qb g).length - s_) (0:Nat) ?_ (Wk.mk (fun k=>if k=2 then 3 else if k=3 then 2 else k) ?_ ?_ ?_) ?_
 ·(simp;done)
 ·exact (b2 (b2 (b2 (bc ⟨(congrArg (fun n_=>T.os 1 2 0 n_) (show 0=((JT g s 0).map (Qa true)).length from (by rfl))),rfl⟩ (b2 (b2 bn))))))
 ·exact (b3 (b3 (b3 (bc ⟨(congrArg (fun l_=>some (Obj.rows 1 l_)) he1),(lb rfl),rfl⟩ bn))))
 ·exact nd rfl
 rintro i (hI':i≤(Qb g).length)
 show VRun _ _ _ [(2,(T.op 0 0)),(3,(T.op 1 0)),(4,T.nils),(5,(T.os 1 3 0 (((JT g s i).map (Qa true)).length))),(6,(T.os 4 2 0 (((Qb g).map (Qf true)).length))),(7,(tN i))] (Q3 [(0,(Obj.cells (Qc false g))),(1,(Obj.cells (Qf false s))),(2,(Obj.rows 4 ((Qb g).map (Qf true)))),(3,(Obj.rows 1 ((JT g s i).map (Qa true))))]) 4 _
 have hI1:=hI'
 refine sq (sr (mO (tN i) rfl (mO (T.os 4 2 0 (((Qb g).map (Qf true)).length)) rfl (lO (B.lenO (m:=(Qb g).length) (tv (T.os 4 2 0 (((Qb g).map (Qf true)).length)) rfl) Z9 (List.length_map ..)) (fO (Zf (tv (tN i) rfl) (tv (tN ((Qb g).length)) rfl)) (nt ?_))))))
 refine cd (i<(Qb g).length) rfl (fun fhc0=> ?_) fun fhc0=> ?_
 ·refine sk ?_
  refine tn (sq (VRun.block (sq (sq (VRun.draw (B:= [[],[],[1,0],[0,1,2],[],[4,2,1,0,3]]) (by kernel_rfl) (by kernel_rfl) (mD (T.os 4 2 0 (((Qb g).map (Qf true)).length)) rfl rfl (mD (tN i) rfl rfl ?_)))))))
  obtain ⟨x1,hx1⟩:∃x,(Qb g)[i]? =some x:=⟨_,List.getElem?_eq_getElem (by omega)⟩
  refine fD (B.indexAddrO (i:=i) (tv (T.os 4 2 0 (((Qb g).map (Qf true)).length)) rfl) (tv (tN i) rfl) rfl (by (simp only [List.length_map];omega)) Z9 Zk Qa7) rfl rfl (lD (OL.loadPn (us:=(Qf false x1)) (row:=(Qf true x1)) (tv (T.orp 4 2 i 0) rfl) rfl (Qv _ hx1) QcD Zk (lb rfl) rfl (bc rfl (bc rfl (bc rfl (bc rfl bn))))) rfl rfl (lD (OL.loadOn (us:=(Qf false s)) (tv (T.op 1 0) rfl) rfl QcD Zk (lb rfl) rfl) rfl rfl (fD (B.neq138 (a:=x1) (b:=s) (m:=false) (m':=false) (tv (T.agg (Qf false x1)) rfl) (tv (T.agg (Qf false s)) rfl)) rfl rfl (VRunD.nil (tn ?_)))))
  refine cn (x1=s) rfl (fun fhc1=> ?_) fun fhc1=> ?_
  ·refine VRun.exit ?_
   refine vthn.e (vinB.e (tn (VRun.region (mO (tN i) rfl (fO (QB (tv (tN i) rfl) (VEv.int .i64 1) (by omega)) (aO (tN (i+1)) rfl (VRunO.nil (tn ?_))))))))
   have he2:JT g s i=JT g s (i+1):=by exact (Qmw hx1 fhc1).symm
   refine ⟨(i+1:Nat),?_,?_,Wk.mk (fun k=>k) ?_ ?_ ?_⟩
   ·trivial
   ·omega
   ·exact (b2 (b2 (b2 (bc ⟨(congrArg (fun l_=>T.os 1 3 0 (List.map (Qa true) l_).length) he2),rfl⟩ (b2 (b2 bn))))))
   ·exact (b3 (b3 (b3 (bc ⟨(congrArg (fun l_=>some (Obj.rows 1 (List.map (Qa true) l_))) he2),(lb rfl),rfl⟩ bn))))
   ·exact nd rfl
  have hok:Qgg g s:=fhc1▸QaQ (List.mem_of_getElem? hx1)
  obtain ⟨hg,hcc,hll⟩:=hok
  have hB:=hg.2.1
  refine sk (tn (sr (fO (OF.assign (VEv.int .i64 0)) (nt (VRun.block ?_)))))
  have he3:JT g s i=Qi g s 0:=by (rw [Qkh hx1 fhc1];rfl)
  refine VRun.loop (A:=Nat) (fun s_=> [(2,(T.op 0 0)),(3,(T.op 1 0)),(4,T.nils),(5,(T.os 1 3 0 (((Qi g s s_).map (Qa true)).length))),(6,(T.os 4 2 0 (((Qb g).map (Qf true)).length))),(7,(tN i)),(8,(tN s_))]) (fun s_=>Q3 [(0,(Obj.cells (Qc false g))),(1,(Obj.cells (Qf false s))),(2,(Obj.rows 4 ((Qb g).map (Qf true)))),(3,(Obj.rows 1 ((Qi g s s_).map (Qa true))))]) 4 (fun s_=>s_≤s.Length.toNat) (fun s_=>s.Length.toNat - s_) (0:Nat) ?_ (Wk.mk (fun k=>k) ?_ ?_ ?_) ?_
  ·(simp;done)
  ·exact (b2 (b2 (b2 (bc ⟨(congrArg (fun l_=>T.os 1 3 0 (List.map (Qa true) l_).length) he3),rfl⟩ (b2 (b2 (b2 bn)))))))
  ·exact (b3 (b3 (b3 (bc ⟨(congrArg (fun l_=>some (Obj.rows 1 (List.map (Qa true) l_))) he3),(lb rfl),rfl⟩ bn))))
  ·exact nd rfl
  rintro k (hI':k≤s.Length.toNat)
  show VRun _ _ _ [(2,(T.op 0 0)),(3,(T.op 1 0)),(4,T.nils),(5,(T.os 1 3 0 (((Qi g s k).map (Qa true)).length))),(6,(T.os 4 2 0 (((Qb g).map (Qf true)).length))),(7,(tN i)),(8,(tN k))] (Q3 [(0,(Obj.cells (Qc false g))),(1,(Obj.cells (Qf false s))),(2,(Obj.rows 4 ((Qb g).map (Qf true)))),(3,(Obj.rows 1 ((Qi g s k).map (Qa true))))]) 4 _
  have hJ1:=hI'
  have hN:=Qem (n:=k) (c:=g.Cols) (by omega) hB.1 hB.2
  have hcl:=J1 g s k
  refine sq (sr (mO (tN k) rfl (lf (tI s.Length) rfl QaV rfl rfl QU (fO (xls (tv (tN k) rfl) (tv (tI s.Length) rfl)) (nt ?_)))))
  refine cd (((k:Nat):Int)<s.Length) rfl (fun fhc2=> ?_) fun fhc2=> ?_
  ·refine sk ?_
   refine tn (sq (VRun.block (sr (lf (tB s.Down) rfl Qi7 rfl rfl st4 (nt ?_)))))
   refine VRun.cond (tv (tB s.Down) rfl) (fun hc3=> ?_) (fun hc3=> ?_)
   ·have fhc3:s.Down=true:=hc3
    refine VRun.region (mO (T.os 1 3 0 (((Qi g s k).map (Qa true)).length)) rfl (lf (tI s.Cell) rfl Qeu rfl rfl QU (mO (tN k) rfl (lf (tI g.Cols) rfl Zn rfl rfl QU (fO (B.mul (n:=(((k:Nat):Int)*g.Cols)) (tv (tN k) rfl) (tv (tI g.Cols) rfl) (by (refine QfY ?_ ?_ ?_<;>omega))) (fO (B.add (n:=(s.Cell+(((k:Nat):Int)*g.Cols))) (tv (tI s.Cell) rfl) (tv (tI (((k:Nat):Int)*g.Cols)) rfl) (by (rw [Qt (by omega)];done))) (kO (OM.buildSlice (l:= [(tI (s.Cell+(((k:Nat):Int)*g.Cols)))]) (VEvp.cons (tv (tI (s.Cell+(((k:Nat):Int)*g.Cols))) rfl) VEvp.nil) rfl (by decide) (bc (nofun) bn) (bc ((bc (rfl) bn)) bn) (bc (rfl) bn) Zg J3 (by kernel_rfl) rfl (by rw [Q8];decide) Q8 (Nat.le_of_ble_eq_true rfl)) (cO (B.append (rows:=((Qi g s k).map (Qa true))) (rows2:= [[(tI (s.Cell+(((k:Nat):Int)*g.Cols)))]]) (rows3:=((Qi g s k++ [(s.Cell+(((k:Nat):Int)*g.Cols))]).map (Qa true))) (VDst.own (tv (T.os 1 3 0 (((Qi g s k).map (Qa true)).length)) rfl) rfl rfl) (VSrc.own (tv (T.os 1 4 0 1) rfl) rfl rfl Zg (bc (bc rfl bn) bn)) (by decide) Zg Q8 (by decide) J3 rfl (of_decide_eq_true (by kernel_rfl)) (by (simp only [List.length_map,List.length_append,List.length_cons,List.length_nil,List.length_replicate,List.length_set,List.length_drop,List.length_take,YW] at *;omega)) ((List.map_append (f:=Qa true) (l₁:=Qi g s k) (l₂:= [(s.Cell+(((k:Nat):Int)*g.Cols))])).symm)) (aO (T.os 1 5 0 (((Qi g s k++ [(s.Cell+(((k:Nat):Int)*g.Cols))]).map (Qa true)).length)) rfl (VRunO.nil (vinB.n ?_)))))))))))
    refine tn (VRun.region (mO (tN k) rfl (fO (QB (tv (tN k) rfl) (VEv.int .i64 1) (by omega)) (aO (tN (k+1)) rfl (VRunO.nil (tn ?_))))))
    have he4:(Qi g s k++ [(s.Cell+(((k:Nat):Int)*g.Cols))])=Qi g s (k+1):=by rw [Qaf,Qfa,if_pos fhc3]
    refine ⟨(k+1:Nat),?_,?_,Wk.mk (fun k=>if k=3 then 5 else k) ?_ ?_ ?_⟩
    ·omega
    ·omega
    ·exact (b2 (b2 (b2 (bc ⟨(congrArg (fun l_=>T.os 1 5 0 (List.map (Qa true) l_).length) he4),rfl⟩ (b2 (b2 (b2 bn)))))))
    ·exact (b3 (b3 (b3 (bc ⟨(congrArg (fun l_=>some (Obj.rows 1 (List.map (Qa true) l_))) he4),(lb rfl),rfl⟩ bn))))
    ·exact nd rfl
   have fhc3:s.Down=false:=hc3
   refine VRun.region (mO (T.os 1 3 0 (((Qi g s k).map (Qa true)).length)) rfl (lf (tI s.Cell) rfl Qeu rfl rfl QU (mO (tN k) rfl (fO (B.add (n:=(s.Cell+((k:Nat):Int))) (tv (tI s.Cell) rfl) (tv (tN k) rfl) (by (rw [Qt (by omega)];done))) (kO (OM.buildSlice (l:= [(tI (s.Cell+((k:Nat):Int)))]) (VEvp.cons (tv (tI (s.Cell+((k:Nat):Int))) rfl) VEvp.nil) rfl (by decide) (bc (nofun) bn) (bc ((bc (rfl) bn)) bn) (bc (rfl) bn) Zg J3 (by kernel_rfl) rfl (by rw [Q8];decide) Q8 (Nat.le_of_ble_eq_true rfl)) (cO (B.append (rows:=((Qi g s k).map (Qa true))) (rows2:= [[(tI (s.Cell+((k:Nat):Int)))]]) (rows3:=((Qi g s k++ [(s.Cell+((k:Nat):Int))]).map (Qa true))) (VDst.own (tv (T.os 1 3 0 (((Qi g s k).map (Qa true)).length)) rfl) rfl rfl) (VSrc.own (tv (T.os 1 4 0 1) rfl) rfl rfl Zg (bc (bc rfl bn) bn)) (by decide) Zg Q8 (by decide) J3 rfl (of_decide_eq_true (by kernel_rfl)) (by (simp only [List.length_map,List.length_append,List.length_cons,List.length_nil,List.length_replicate,List.length_set,List.length_drop,List.length_take,YW] at *;omega)) ((List.map_append (f:=Qa true) (l₁:=Qi g s k) (l₂:= [(s.Cell+((k:Nat):Int))])).symm)) (aO (T.os 1 5 0 (((Qi g s k++ [(s.Cell+((k:Nat):Int))]).map (Qa true)).length)) rfl (VRunO.nil (vinB.n (tn (VRun.region ?_)))))))))))
   refine mO (tN k) rfl (fO (QB (tv (tN k) rfl) (VEv.int .i64 1) (by omega)) (aO (tN (k+1)) rfl (VRunO.nil (tn ?_))))
   have he5:(Qi g s k++ [(s.Cell+((k:Nat):Int))])=Qi g s (k+1):=by (rw [Qaf,Qfa,fhc3];simp;done)
   refine ⟨(k+1:Nat),?_,?_,Wk.mk (fun k=>if k=3 then 5 else k) ?_ ?_ ?_⟩
   ·omega
   ·omega
   ·exact (b2 (b2 (b2 (bc ⟨(congrArg (fun l_=>T.os 1 5 0 (List.map (Qa true) l_).length) he5),rfl⟩ (b2 (b2 (b2 bn)))))))
   ·exact (b3 (b3 (b3 (bc ⟨(congrArg (fun l_=>some (Obj.rows 1 (List.map (Qa true) l_))) he5),(lb rfl),rfl⟩ bn))))
   ·exact nd rfl
  refine VRun.exit (vthn.e (vthn.e (vinB.e (vinB.n (tn (VRun.region (mO (tN i) rfl (fO (QB (tv (tN i) rfl) (VEv.int .i64 1) (by omega)) (aO (tN (i+1)) rfl (VRunO.nil (tn ?_)))))))))))
  have he6:Qi g s k=JT g s (i+1):=by exact Ql8 hx1 fhc1 fhc2 hJ1
  refine ⟨(i+1:Nat),?_,?_,Wk.mk (fun k=>k) ?_ ?_ ?_⟩
  ·trivial
  ·omega
  ·exact (b2 (b2 (b2 (bc ⟨(congrArg (fun l_=>T.os 1 3 0 (List.map (Qa true) l_).length) he6),rfl⟩ (b2 (b2 bn))))))
  ·exact (b3 (b3 (b3 (bc ⟨(congrArg (fun l_=>some (Obj.rows 1 (List.map (Qa true) l_))) he6),(lb rfl),rfl⟩ bn))))
  ·exact nd rfl
 refine VRun.exit (vthn.e (vthn.e (vinB.e (tn (sr (mO (T.os 1 3 0 (((JT g s i).map (Qa true)).length)) rfl (aO (T.os 1 3 0 (((JT g s i).map (Qa true)).length)) rfl (nt (rt ?_)))))))))
 refine vfin.eq (r':=(T.sl true 1 ((JT g s i).map (Qa true)))) ?_ (vfin.r (VRes.tmp (t:=(T.os 1 3 0 (((JT g s i).map (Qa true)).length))) rfl VRes.nil) (Give.os rfl rfl (okInt.cleanMap _)))
 show (T.sl true 1 ((JT g s i).map (Qa true)))=(T.sl true 1 ((if s∈Qb g then Qi g s s.Length.toNat else []).map (Qa true)))
 refine congrArg (fun l_=>T.sl true 1 (List.map (Qa true) l_)) ?_
 exact Ql3 g s (by omega)
end Go.Proofs.YtcccmceoplcciaaGreat.AE
