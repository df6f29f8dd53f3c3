/- A part of what the row of FnExactNotedFill uses. Conditions: as each theorem states. -/
import Derived.Test.YthifchndolccgaaDoorZFnExactNotedFillb
import Derived.Test.YthifchndolccgaaDoorProg
import Derived.Shelf.LaysM
import Derived.Shelf.Strings.Replace
namespace Go.Proofs.YthifchndolccgaaDoor.AE
open Go Go.RowKit
set_option linter.unusedVariables false
set_option linter.unusedSimpArgs false
set_option maxRecDepth 20000
set_option maxHeartbeats 2000000
noncomputable section
theorem QaX : ∀(s:List UInt8),(Lib.index s [46]= -1∧∀b∈s,b≠46)∨∃i:Nat,Lib.index s [46]=i∧i<s.length∧(∀b∈s.take i,b≠46)∧s[i]? =some 46
 | []=> .inl ⟨rfl,fun b hb=>by cases hb⟩
 | b::l=>by
  by_cases hb:b=46
  ·subst hb
   exact .inr ⟨0,by simp [Lib.index],by simp,fun b hb=>by simp at hb,by simp⟩
  ·have hp:([46]:List UInt8).isPrefixOf (b::l)=false:=by
    simp [List.isPrefixOf]
    exact fun e=>hb e.symm
   rcases QaX l with ⟨h1,h2⟩ | ⟨i,h1,h2,h3,h4⟩
   ·refine .inl ⟨?_,fun c hc=> ?_⟩
    ·unfold Lib.index
     rw [hp,h1]
     rfl
    ·rcases List.mem_cons.1 hc with rfl | hc
     ·exact hb
     ·exact h2 c hc
   ·refine .inr ⟨i+1,?_,by simp only [List.length_cons];omega,fun c hc=> ?_,by simpa using h4⟩
    ·unfold Lib.index
     rw [hp,h1]
     have:((i:Int) == -1)=false:=by rw [beq_eq_false_iff_ne];omega
     simp only [this]
     simp
    ·rw [List.take_succ_cons] at hc
     rcases List.mem_cons.1 hc with rfl | hc
     ·exact hb
     ·exact h3 c hc
def swB (b:UInt8):UInt8:=if b=46 then 63 else b
theorem QdA {l:List UInt8} (h:∀b∈l,b≠46):l.map swB=l:=by
 induction l with
 | nil=>rfl
 | cons b r ih =>
  rw [List.map_cons,ih (fun c hc=>h c (by simp [hc]))]
  unfold swB
  rw [if_neg (h b (by simp))]
theorem Qbk : ∀(n:Nat) (s:List UInt8),s.length≤n→Lib.replaceK [46] [63] (Lib.count s [46]) s=s.map swB
 | n,s,hn=>by
  rcases QaX s with ⟨h1,h2⟩ | ⟨i,h1,h2,h3,h4⟩
  ·rw [Lib.count_miss h1,QdA h2]
   rfl
  ·match n,hn with
   | 0,hn=>omega
   | n+1,hn =>
    rw [Lib.count_hit (by simp) h1,Nat.add_comm 1,Lib.replaceK_hit _ _ _ _ _ h1]
    have ih:=Qbk n (s.drop (i+([46]:List UInt8).length)) (by simp;omega)
    rw [ih]
    have h5:s=s.take i++46::s.drop (i+1):=by
     have h6:=List.drop_eq_getElem_cons h2
     rw [List.getElem?_eq_getElem h2] at h4
     rw [Option.some.inj h4] at h6
     rw [← h6,List.take_append_drop]
    show s.take i++ [63]++(s.drop (i+1)).map swB=s.map swB
    conv=>rhs;rw [h5]
    rw [List.map_append,QdA h3,List.map_cons]
    simp [swB]
def YK (s o w:ByteArray):ByteArray:=⟨(Lib.replaceAll s.data.toList o.data.toList w.data.toList).toArray⟩
theorem Qcm (s:ByteArray):YK s ⟨#[46]⟩ ⟨#[63]⟩=⟨(s.data.toList.map swB).toArray⟩:=by
 unfold YK Lib.replaceAll Lib.replace
 rw [if_neg (by decide)]
 have:Lib.replaceNum s.data.toList [46] (-1)=Lib.count s.data.toList [46]:=by unfold Lib.replaceNum;rw [if_pos (.inl (by decide))]
 show (⟨(Lib.replaceK [46] [63] (Lib.replaceNum s.data.toList [46] (-1)) s.data.toList).toArray⟩:ByteArray)=_
 rw [this,Qbk _ _ (Nat.le_refl _)]
theorem R.strInv2 {h:AH} {s:ByteArray} {v:Value} (hr:R h (.str s) v):v= .string s:=by cases hr;rfl
theorem QcH {P:Program} {f:FuncId} (n:Nat) (hp:Y3 f=false) (hq:QcM f=Z4) {s o w:ByteArray} (h1:s.size<4294967281) (h2:1≤o.size) (h3:s.size+Lib.countB s o*w.size≤140737488355328):Pure (Qo P (n+1)) f [.str s, .str o, .str w] (.str (YK s o w)):=by
 intro h p vs hfr hvs
 match vs,hvs with
 | [],hvs=>exact absurd hvs.1 (by simp)
 | [_],hvs=>exact absurd hvs.1 (by simp)
 | [_,_],hvs=>exact absurd hvs.1 (by simp)
 | [a,b,c],hvs =>
  obtain ⟨g1,hvs⟩:=hvs.tail
  obtain ⟨g2,hvs⟩:=hvs.tail
  obtain ⟨g3,hvs⟩:=hvs.tail
  obtain rfl:=R.strInv2 g1
  obtain rfl:=R.strInv2 g2
  obtain rfl:=R.strInv2 g3
  unfold CallS
  refine ⟨.string (YK s o w),h,?_,fun _ h=> .inl h,fun _ _=>rfl,[], .fz (.str _),by simp,by simp⟩
  rw [Qo,if_neg (by rw [hp];simp),hq]
  unfold Z4
  simp only
  rw [if_pos ⟨h1,h2,h3⟩]
  rfl
 | _::_::_::_::_,hvs=>exact absurd hvs.1 (by simp)
def QZ (s:ByteArray):Nat→ByteArray
 | 0=>⟨#[]⟩
 | i+1=>QZ s i++(if QA s i=35 then ⟨#[35]⟩ else ⟨#[63]⟩)
theorem Yk (s:ByteArray):∀i,(QZ s i).size=i
 | 0=>rfl
 | i+1=>by
  rw [QZ,ByteArray.size_append,Yk s i]
  split<;>rfl
theorem Qaq (s:ByteArray) (hs:∀j,j<s.size→QA s j=46∨QA s j=35):∀i,i≤s.size→(QZ s i).data.toList=(s.data.toList.take i).map swB
 | 0,_=>rfl
 | i+1,hi=>by
  have ih:=Qaq s hs i (by omega)
  have hlt:i<s.data.toList.length:=by
   rw [Array.length_toList]
   exact hi
  rw [List.take_succ_eq_append_getElem hlt,List.map_append,← ih,QZ]
  have hb:=J5 (s:=s) (i:=i) (by omega)
  have hv:s.data.toList[i]=s[i]'(by omega):=rfl
  rw [hv]
  have h35:∀(b:UInt8) (n:Nat),((b.toNat:Nat):Int)=n→n<256→b=UInt8.ofNat n:=fun b n e hn=>by
   have:b.toNat=n:=by omega
   rw [← this];simp
  rcases hs i (by omega) with h | h
  ·rw [h] at hb
   have:=h35 _ 46 hb (by decide)
   rw [if_neg (by omega),this]
   simp only [ByteArray.data_append,Array.toList_append]
   rfl
  ·rw [h] at hb
   have:=h35 _ 35 hb (by decide)
   rw [if_pos h,this]
   simp only [ByteArray.data_append,Array.toList_append]
   rfl
def ZY (g:D.Grid):ByteArray:=if Qm g then QZ g.Cells g.Cells.size else ⟨#[]⟩
theorem Je (g:D.Grid):(ZY g).size≤g.Cells.size:=by
 unfold ZY
 split
 ·rw [Yk];exact Nat.le_refl _
 ·exact Nat.zero_le _
theorem Qcu {g:D.Grid} (h:Qm g):YK g.Cells ⟨#[46]⟩ ⟨#[63]⟩=ZY g:=by
 have h1:=Qaq g.Cells (fun j hj=>(h.2.2.2 j hj).symm) g.Cells.size (Nat.le_refl _)
 rw [Qcm,ZY,if_pos h]
 refine Y7 ?_
 rw [h1,List.take_of_length_le (by simp)]
theorem Qdp {g:D.Grid} {i:Nat} (h1:i≤g.Cells.size) (h2:i=0∨Qm g) (h3:¬(i<g.Cells.size∧Qm g)):QZ g.Cells i=ZY g:=by
 by_cases hg:Qm g
 ·have h4:i=g.Cells.size:=by
   rcases Nat.lt_or_ge i g.Cells.size with h | h
   ·exact absurd ⟨h,hg⟩ h3
   ·omega
  rw [ZY,if_pos hg,h4]
 ·obtain rfl:=h2.resolve_right hg
  rw [ZY,if_neg hg]
  rfl
theorem QcD (s o:ByteArray) (h:1≤o.size):Lib.countB s o≤s.size:=by
 have h1:=Lib.countB_mul_le o h s.size s (Nat.le_refl _)
 have h2:Lib.countB s o*1≤Lib.countB s o*o.size:=Nat.mul_le_mul_left _ h
 omega
end
theorem Z3 (n:Nat) (s:ByteArray) (o:ByteArray) (w:ByteArray) (hs:s.size≤mx+64) (ho:1≤o.size) (hw:w.size≤1):Pure (Qo Tryd.prog (n+1)) 63 [(tS s),(tS o),(tS w)] (tS (YK s o w)):=by
 obtain ⟨hlim,hmx,hmax⟩:=Q3
 have h1:=QcD s o ho
 have h2:Lib.countB s o*w.size≤Lib.countB s o*1:=Nat.mul_le_mul_left _ hw
 exact QcH n rfl rfl (by omega) ho (by omega)
theorem Ji (n:Nat) (g:D.Grid) (hc:g.Cells.size≤maxLen - 1):Pure (Qo Tryd.prog (n+3)) 30 [(T.agg (Qe false g))] (tS (ZY g)):=by
 refine Pure.intro (rs:= [ResultVar.tmp 2]) Tryd.func30 rfl rfl rfl (E0:= [(0,(T.agg (Qe false g)))]) rfl ?_
 obtain ⟨hlim,hmx,hmax⟩:=Q3
 have e35:(⟨#[35]⟩:ByteArray).size=1:=rfl
 have e63:(⟨#[63]⟩:ByteArray).size=1:=rfl
 refine sr (kO (B.box (ts:=(Qe false g)) (tv (T.agg (Qe false g)) rfl) nofun rfl) (fO (OF.assign (VEv.str (⟨#[]⟩:ByteArray))) (nt (sr (fO (OF.assign (VEv.str (⟨#[]⟩:ByteArray))) (nt (sq (sr (fO (OF.assign (VEv.int .i64 0)) (nt (VRun.block ?_)))))))))))
 refine VRun.loop (A:=Nat) (fun s_=> [(1,(T.op 0 0)),(2,(tS (⟨#[]⟩:ByteArray))),(3,(tS (QZ g.Cells s_))),(4,(tN s_))]) (fun s_=>Jo [(0,(Obj.cells (Qe false g)))]) 1 (fun s_=>s_≤g.Cells.size∧(s_=0∨Qm g)) (fun s_=>g.Cells.size - s_) (0:Nat) ?_ (Wk.mk (fun k=>k) ?_ ?_ ?_) ?_
 ·exact ⟨Nat.zero_le _, .inl rfl⟩
 ·exact (b2 (b2 (bc ⟨(congrArg T.str (show (⟨#[]⟩:ByteArray)=QZ g.Cells 0 from (by first | rfl | assumption | rfl | (rw [QZ,if_pos (by assumption)];done) | (rw [QZ,if_neg (by assumption)];done) | (simp_all;done)))),rfl⟩ (b2 bn))))
 ·exact (b3 bn)
 ·exact nd rfl
 rintro i (hI':i≤g.Cells.size∧(i=0∨Qm g))
 show VRun _ _ _ [(1,(T.op 0 0)),(2,(tS (⟨#[]⟩:ByteArray))),(3,(tS (QZ g.Cells i))),(4,(tN i))] (Jo [(0,(Obj.cells (Qe false g)))]) 1 _
 have hI1:=hI'.1
 have hes:=Yk g.Cells i
 refine sq (sr (mO (tN i) rfl (lf (tS g.Cells) rfl QO rfl rfl Yv (lO (B.lenS (tv (tS g.Cells) rfl) U9) (fO (Y9 (tv (tN i) rfl) (tv (tN g.Cells.size) rfl)) (mO (tB (decide (i<g.Cells.size))) rfl ?_))))))
 refine VRunO.joinB 3 [11,12] 13 (tB (decide ((i<g.Cells.size)∧(Qm g)))) ?_ ?_
 ·refine gw (i<g.Cells.size) (fun fhg10_1=> ?_) fun fhg10_1=> ?_
  ·refine gL (dy fhg10_1) rfl rfl (OL.loadOn (us:=(Qe false g)) (tv (T.op 0 0) rfl) rfl J7 JF (lb rfl) rfl) ?_
   refine VRunO.chain (VWant.on rfl rfl (dy fhg10_1)) (cS (vc (tv (T.agg (Qe false g)) rfl) vn) (LendL.cons (lg QR) ln) (Yr (n+0) g (by first | assumption | omega)) rfl rfl) (fO (OF.pickT (VEv.tmpB rfl (dy fhg10_1)) (tv (tB (decide (Qm g))) rfl)) (VRunO.nil ?_))
   exact jq (congrArg T.bool (kAT fhg10_1 rfl)) (js rfl (js rfl (jn)))
  ·refine Zh 2 5 true 10 (dz fhg10_1) rfl rfl rfl ?_
   refine fO (OF.pickF (VEv.tmpB rfl (dz fhg10_1)) (VEv.bool false)) (VRunO.nil ?_)
   exact jq (congrArg T.bool (kAF fhg10_1)) (js rfl (js rfl (jn)))
 refine nt ?_
 refine cd ((i<g.Cells.size)∧(Qm g)) rfl (fun fhc0=> ?_) fun fhc0=> ?_
 ·refine sk ?_
  refine tn (sq (VRun.block (sr (lf (tS g.Cells) rfl QO rfl rfl Yv (mO (tN i) rfl ?_)))))
  have hb2:i<g.Cells.size:=(by omega)
  refine fO (xix (tv (tS g.Cells) rfl) (tv (tN i) rfl) hb2 U9) (fO (xeq (tv (T.int .u8 (QA g.Cells i)) rfl) (VEv.int .u8 35)) (nt ?_))
  refine cd (QA g.Cells i=35) rfl (fun fhc1=> ?_) fun fhc1=> ?_
  ·refine VRun.region ?_
   refine mO (tS (QZ g.Cells i)) rfl (fO (B.sadd (tv (tS (QZ g.Cells i)) rfl) (VEv.str (⟨#[35]⟩:ByteArray)) (by first | omega | (simp only [List.length_map];omega) | (simp only [List.length_map,List.length_append,List.length_cons,List.length_nil,List.length_replicate,List.length_set,List.length_drop,List.length_take,YL] at *;omega))) (aO (tS (QZ g.Cells i++(⟨#[35]⟩:ByteArray))) rfl (VRunO.nil (vinB.n (tn (VRun.region (mO (tN i) rfl (fO (Zv (tv (tN i) rfl) (VEv.int .i64 1) (by omega)) (aO (tN (i+1)) rfl (VRunO.nil (tn ?_)))))))))))
   refine ⟨(i+1:Nat),?_,?_,Wk.mk (fun k=>k) ?_ ?_ ?_⟩
   ·exact ⟨fhc0.1, .inr fhc0.2⟩
   ·first | omega | (simp only [];omega) | (show _<_;omega) | (simp;omega)
   ·exact (b2 (b2 (bc ⟨(congrArg T.str (show (QZ g.Cells i++(⟨#[35]⟩:ByteArray))=QZ g.Cells (i+1) from (by first | rfl | assumption | rfl | (rw [QZ,if_pos (by assumption)];done) | (rw [QZ,if_neg (by assumption)];done) | (simp_all;done)))),rfl⟩ (b2 bn))))
   ·exact (b3 bn)
   ·exact nd rfl
  refine VRun.region (mO (tS (QZ g.Cells i)) rfl (fO (B.sadd (tv (tS (QZ g.Cells i)) rfl) (VEv.str (⟨#[63]⟩:ByteArray)) (by first | omega | (simp only [List.length_map];omega) | (simp only [List.length_map,List.length_append,List.length_cons,List.length_nil,List.length_replicate,List.length_set,List.length_drop,List.length_take,YL] at *;omega))) (aO (tS (QZ g.Cells i++(⟨#[63]⟩:ByteArray))) rfl (VRunO.nil (vinB.n (tn (VRun.region (mO (tN i) rfl (fO (Zv (tv (tN i) rfl) (VEv.int .i64 1) (by omega)) (aO (tN (i+1)) rfl (VRunO.nil ?_)))))))))))
  refine tn ?_
  refine ⟨(i+1:Nat),?_,?_,Wk.mk (fun k=>k) ?_ ?_ ?_⟩
  ·exact ⟨fhc0.1, .inr fhc0.2⟩
  ·first | omega | (simp only [];omega) | (show _<_;omega) | (simp;omega)
  ·exact (b2 (b2 (bc ⟨(congrArg T.str (show (QZ g.Cells i++(⟨#[63]⟩:ByteArray))=QZ g.Cells (i+1) from (by first | rfl | assumption | rfl | (rw [QZ,if_pos (by assumption)];done) | (rw [QZ,if_neg (by assumption)];done) | (simp_all;done)))),rfl⟩ (b2 bn))))
  ·exact (b3 bn)
  ·exact nd rfl
 refine VRun.exit (vthn.e (vthn.e (vinB.e (tn (sr (mO (tS (QZ g.Cells i)) rfl (aO (tS (QZ g.Cells i)) rfl (nt (rt ?_)))))))))
 refine vfin.eq (r':=(tS (QZ g.Cells i))) ?_ (vfin.r (VRes.tmp (t:=(tS (QZ g.Cells i))) rfl VRes.nil) (Give.str _))
 refine congrArg T.str ?_
 exact Qdp hI'.1 hI'.2 fhc0
theorem Jg (n:Nat) (g:D.Grid) (hc:g.Cells.size≤mx):Pure (Qo Tryd.prog (n+3)) 36 [(T.agg (Qe false g))] (tS (ZY g)):=by
 refine Pure.intro (rs:= [ResultVar.tmp 2]) Tryd.func36 rfl rfl rfl (E0:= [(0,(T.agg (Qe false g)))]) rfl ?_
 obtain ⟨hlim,hmx,hmax⟩:=Q3
 refine sr (kO (B.box (ts:=(Qe false g)) (tv (T.agg (Qe false g)) rfl) nofun rfl) (fO (OF.assign (VEv.str (⟨#[]⟩:ByteArray))) (nt (sq (sr (lO (OL.loadOn (us:=(Qe false g)) (tv (T.op 0 0) rfl) rfl J7 JF (lb rfl) rfl) (cO (cS (vc (tv (T.agg (Qe false g)) rfl) vn) (LendL.cons (lg QR) ln) (ZH (n+0) g (by first | decide | assumption | omega)) rfl rfl) (fO (Q4 (tv (tB (decide (Qm g))) rfl)) (nt ?_)))))))))
 refine cn (Qm g) rfl (fun fhc0=> ?_) fun fhc0=> ?_
 ·refine sr ?_
  refine fO (OF.assign (VEv.str (⟨#[]⟩:ByteArray))) (nt (rt (tr ?_)))
  refine vfin.eq (r':=(tS (⟨#[]⟩:ByteArray))) ?_ (vfin.r (VRes.tmp (t:=(tS (⟨#[]⟩:ByteArray))) rfl VRes.nil) (Give.str _))
  refine congrArg T.str ?_
  exact (if_neg fhc0).symm
 refine sk (tn (sr (lf (tS g.Cells) rfl QO rfl rfl Yv (cO (cS (vc (tv (tS g.Cells) rfl) (vc (VEv.str (⟨#[46]⟩:ByteArray)) (vc (VEv.str (⟨#[63]⟩:ByteArray)) vn))) (Yl rfl) (Z3 (n+1) g.Cells (⟨#[46]⟩:ByteArray) (⟨#[63]⟩:ByteArray) (by first | decide | assumption | omega) (by first | decide | assumption | omega) (by first | decide | assumption | omega)) rfl rfl) (aO (tS (YK g.Cells (⟨#[46]⟩:ByteArray) (⟨#[63]⟩:ByteArray))) rfl (nt (rt ?_)))))))
 refine vfin.eq (r':=(tS (YK g.Cells (⟨#[46]⟩:ByteArray) (⟨#[63]⟩:ByteArray)))) ?_ (vfin.r (VRes.tmp (t:=(tS (YK g.Cells (⟨#[46]⟩:ByteArray) (⟨#[63]⟩:ByteArray)))) rfl VRes.nil) (Give.str _))
 refine congrArg T.str ?_
 exact Qcu (by assumption)
end Go.Proofs.YthifchndolccgaaDoor.AE
namespace Go.Proofs.YthifchndolccgaaDoor.AE
open Go Go.RowKit
set_option linter.unusedVariables false
set_option linter.unusedSimpArgs false
set_option maxRecDepth 20000
set_option maxHeartbeats 2000000
noncomputable section
def QY (s:ByteArray):Prop:=(1≤s.size∧s.size≤8)∧∀i,i<s.size→QA s i=63∨(97≤QA s i∧QA s i≤122)
instance (s:ByteArray):Decidable (QY s):=Classical.propDecidable _
end
theorem ZL (n:Nat) (a:ByteArray) (ha:a.size≤maxLen):Pure (Qo Tryd.prog (n+2)) 60 [(tS a)] (tB (decide (QY a))):=by
 refine Pure.intro (rs:= [ResultVar.tmp 2]) Tryd.func60 rfl rfl rfl (E0:= [(0,(tS a))]) rfl ?_
 obtain ⟨hlim,hmx,hmax⟩:=Q3
 refine sr (fO (OF.assign (VEv.bool false)) (nt (sq (sr (mO (tS a) rfl (lO (B.lenS (tv (tS a) rfl) U9) (cO (cS (vc (tv (tN a.size) rfl) (vc (VEv.int .i64 1) (vc (VEv.int .i64 8) vn))) (Yl rfl) (QC (n+0) ((a.size:Nat):Int) 1 8) rfl rfl) (fO (Q4 (tv (tB (decide (1≤((a.size:Nat):Int)∧((a.size:Nat):Int)≤8))) rfl)) (nt ?_)))))))))
 refine cn (1≤((a.size:Nat):Int)∧((a.size:Nat):Int)≤8) rfl (fun fhc0=> ?_) fun fhc0=> ?_
 ·refine sr ?_
  refine fO (OF.assign (VEv.bool false)) (nt (rt (tr (vb (b':=false) rfl ?_))))
  (symm;rw [decide_eq_false_iff_not];rintro ⟨h1,h2⟩;omega)
 refine sk (tn (sq (sr (fO (OF.assign (VEv.int .i64 0)) (nt (VRun.block ?_))))))
 refine VRun.loop (A:=Nat) (fun s_=> [(0,(tS a)),(3,(tN s_))]) (fun s_=>Jo []) 0 (fun s_=>s_≤a.size∧∀j,j<s_→QA a j=63∨(97≤QA a j∧QA a j≤122)) (fun s_=>a.size - s_) (0:Nat) ?_ (Wk.mk (fun k=>k) ?_ ?_ ?_) ?_
 ·exact ⟨Nat.zero_le _,fun j hj=>by omega⟩
 ·exact (b2 (b2 bn))
 ·exact bn
 ·exact nd rfl
 rintro i (hI':i≤a.size∧∀j,j<i→QA a j=63∨(97≤QA a j∧QA a j≤122))
 show VRun _ _ _ [(0,(tS a)),(3,(tN i))] (Jo []) 0 _
 refine sq (sr (mO (tN i) rfl (mO (tS a) rfl (lO (B.lenS (tv (tS a) rfl) U9) (fO (Y9 (tv (tN i) rfl) (tv (tN a.size) rfl)) (nt ?_))))))
 refine cd (i<a.size) rfl (fun fhc1=> ?_) fun fhc1=> ?_
 ·refine sk ?_
  refine tn (sq (VRun.block (sr (mO (tS a) rfl (mO (tN i) rfl ?_)))))
  have hb1:i<a.size:=(by omega)
  refine fO (xix (tv (tS a) rfl) (tv (tN i) rfl) hb1 U9) (fO (xne (tv (T.int .u8 (QA a i)) rfl) (VEv.int .u8 63)) (mO (tB (!(decide (QA a i=63)))) rfl ?_))
  refine gn (QA a i=63) (fun fhg18_2=> ?_) fun fhg18_2=> ?_
  ·refine gF (ny fhg18_2) rfl rfl (OF.move (tv (tS a) rfl)) ?_
   refine gF (ny fhg18_2) rfl rfl (OF.move (tv (tN i) rfl)) ?_
   have hb3:i<a.size:=(by omega)
   refine gF (ny fhg18_2) rfl rfl (xix (tv (tS a) rfl) (tv (tN i) rfl) hb3 U9) (gF (ny fhg18_2) rfl rfl (xls (tv (T.int .u8 (QA a i)) rfl) (VEv.int .u8 97)) (gF (ny fhg18_2) rfl rfl (OF.move (tv (tB (decide (QA a i<97))) rfl)) ?_))
   refine gw (QA a i<97) (fun fhg23_4=> ?_) fun fhg23_4=> ?_
   ·refine Zh 4 9 false 23 (dy fhg23_4) rfl rfl rfl ?_
    refine gF (ny fhg18_2) rfl rfl (OF.pickT (VEv.tmpB rfl (dy fhg23_4)) (VEv.bool true)) (fO (OF.pickT (VEv.tmpB rfl (ny fhg18_2)) (tv (tB true) rfl)) (nt (ct rfl (sr (fO (OF.assign (VEv.bool false)) (nt (rt (vinB.r (tr (tr (vinB.r ?_)))))))))))
    refine tr (vb (b':=false) rfl ?_)
    (symm;rw [decide_eq_false_iff_not];rintro ⟨h1,h2⟩;(have:=h2 i fhc1;omega))
   refine gF (dz fhg23_4) rfl rfl (OF.move (tv (tS a) rfl)) (gF (dz fhg23_4) rfl rfl (OF.move (tv (tN i) rfl)) ?_)
   have hb5:i<a.size:=(by omega)
   refine gF (dz fhg23_4) rfl rfl (xix (tv (tS a) rfl) (tv (tN i) rfl) hb5 U9) (gF (dz fhg23_4) rfl rfl (xgt (tv (T.int .u8 (QA a i)) rfl) (VEv.int .u8 122)) (gF (ny fhg18_2) rfl rfl (OF.pickF (VEv.tmpB rfl (dz fhg23_4)) (tv (tB (decide (122<QA a i))) rfl)) (fO (OF.pickT (VEv.tmpB rfl (ny fhg18_2)) (tv (tB (decide (122<QA a i))) rfl)) (nt ?_))))
   refine cd (122<QA a i) rfl (fun fhc2=> ?_) fun fhc2=> ?_
   ·refine sr ?_
    refine fO (OF.assign (VEv.bool false)) (nt (rt (vinB.r (tr (tr (vinB.r (tr (vb (b':=false) rfl ?_))))))))
    (symm;rw [decide_eq_false_iff_not];rintro ⟨h1,h2⟩;(have:=h2 i fhc1;omega))
   refine sk (vinB.n (tn (VRun.region (mO (tN i) rfl (fO (Zv (tv (tN i) rfl) (VEv.int .i64 1) (by omega)) (aO (tN (i+1)) rfl (VRunO.nil (tn ?_))))))))
   refine ⟨(i+1:Nat),?_,?_,Wk.mk (fun k=>k) ?_ ?_ ?_⟩
   ·exact QS (ok:=fun j=>QA a j=63∨(97≤QA a j∧QA a j≤122)) hI' fhc1 (by omega)
   ·omega
   ·exact (b2 (b2 bn))
   ·exact bn
   ·exact nd rfl
  refine Zh 5 4 true 18 (nz fhg18_2) rfl rfl rfl (QeX 4 9 false 23 rfl rfl rfl (oO rfl rfl (nz fhg18_2) (fO (OF.pickF (VEv.tmpB rfl (nz fhg18_2)) (VEv.bool false)) (nt (cf rfl (sk (vinB.n (tn (VRun.region (mO (tN i) rfl (fO (Zv (tv (tN i) rfl) (VEv.int .i64 1) (by omega)) ?_)))))))))))
  refine aO (tN (i+1)) rfl (VRunO.nil (tn ?_))
  refine ⟨(i+1:Nat),?_,?_,Wk.mk (fun k=>k) ?_ ?_ ?_⟩
  ·exact QS (ok:=fun j=>QA a j=63∨(97≤QA a j∧QA a j≤122)) hI' fhc1 (by omega)
  ·omega
  ·exact (b2 (b2 bn))
  ·exact bn
  ·exact nd rfl
 refine VRun.exit (vthn.e (vthn.e (vinB.e (tn (sr (fO (OF.assign (VEv.bool true)) (nt (rt (vb (b':=true) rfl ?_)))))))))
 (symm;rw [decide_eq_true_eq];exact ⟨by omega,Qs hI' fhc1⟩)
theorem ZI (n:Nat) (a:ByteArray) (ha:a.size≤maxLen):Pure (Qo Tryd.prog (n+2)) 62 [(tS a)] (tB (decide (QY a))):=by
 refine Pure.intro (rs:= [ResultVar.tmp 2]) Tryd.func62 rfl rfl rfl (E0:= [(0,(tS a))]) rfl ?_
 obtain ⟨hlim,hmx,hmax⟩:=Q3
 refine sr (fO (OF.assign (VEv.bool false)) (nt (sq (sr (mO (tS a) rfl (lO (B.lenS (tv (tS a) rfl) U9) (cO (cS (vc (tv (tN a.size) rfl) (vc (VEv.int .i64 1) (vc (VEv.int .i64 8) vn))) (Yl rfl) (Qr (n+0) ((a.size:Nat):Int) 1 8) rfl rfl) (fO (Q4 (tv (tB (decide (1≤((a.size:Nat):Int)∧((a.size:Nat):Int)≤8))) rfl)) (nt ?_)))))))))
 refine cn (1≤((a.size:Nat):Int)∧((a.size:Nat):Int)≤8) rfl (fun fhc0=> ?_) fun fhc0=> ?_
 ·refine sr ?_
  refine fO (OF.assign (VEv.bool false)) (nt (rt (tr (vb (b':=false) rfl ?_))))
  (symm;rw [decide_eq_false_iff_not];rintro ⟨h1,h2⟩;omega)
 refine sk (tn (sq (sr (mO (tS a) rfl (lO (B.lenS (tv (tS a) rfl) U9) (fO (OF.move (VEv.int .i64 0)) (nt (VRun.block ?_))))))))
 refine VRun.loop (A:=Nat) (fun s_=> [(0,(tS a)),(9,(tN a.size)),(10,(tN s_))]) (fun s_=>Jo []) 0 (fun s_=>s_≤a.size∧∀j,j<s_→QA a j=63∨(97≤QA a j∧QA a j≤122)) (fun s_=>a.size - s_) (0:Nat) ?_ (Wk.mk (fun k=>k) ?_ ?_ ?_) ?_
 ·exact ⟨Nat.zero_le _,fun j hj=>by omega⟩
 ·exact (b2 (b2 (b2 bn)))
 ·exact bn
 ·exact nd rfl
 rintro i (hI':i≤a.size∧∀j,j<i→QA a j=63∨(97≤QA a j∧QA a j≤122))
 show VRun _ _ _ [(0,(tS a)),(9,(tN a.size)),(10,(tN i))] (Jo []) 0 _
 refine sr (fO (Y9 (tv (tN i) rfl) (tv (tN a.size) rfl)) (nt (sq ?_)))
 refine cd (i<a.size) rfl (fun fhc1=> ?_) fun fhc1=> ?_
 ·refine sk ?_
  refine tn (sq (VRun.block (sr (mO (tN i) rfl (aO (tN i) rfl (nt (sr (mO (tS a) rfl (mO (tN i) rfl ?_)))))))))
  have hb1:i<a.size:=(by omega)
  refine fO (xix (tv (tS a) rfl) (tv (tN i) rfl) hb1 U9) (fO (xne (tv (T.int .u8 (QA a i)) rfl) (VEv.int .u8 63)) (mO (tB (!(decide (QA a i=63)))) rfl ?_))
  refine gn (QA a i=63) (fun fhg17_2=> ?_) fun fhg17_2=> ?_
  ·refine gF (ny fhg17_2) rfl rfl (OF.move (tv (tS a) rfl)) ?_
   refine gF (ny fhg17_2) rfl rfl (OF.move (tv (tN i) rfl)) ?_
   have hb3:i<a.size:=(by omega)
   refine gF (ny fhg17_2) rfl rfl (xix (tv (tS a) rfl) (tv (tN i) rfl) hb3 U9) (VRunO.chain (VWant.on rfl rfl (ny fhg17_2)) (cS (vc (tv (T.int .u8 (QA a i)) rfl) vn) (Yl rfl) (Jy (n+0) (QA a i)) rfl rfl) (gF (ny fhg17_2) rfl rfl (Q4 (tv (tB (decide (97≤(QA a i)∧(QA a i)≤122))) rfl)) (fO (OF.pickT (VEv.tmpB rfl (ny fhg17_2)) (tv (tB (!(decide (97≤(QA a i)∧(QA a i)≤122)))) rfl)) (nt ?_))))
   refine cn (97≤(QA a i)∧(QA a i)≤122) rfl (fun fhc2=> ?_) fun fhc2=> ?_
   ·refine sr ?_
    refine fO (OF.assign (VEv.bool false)) (nt (rt (vinB.r (tr (tr (vinB.r (tr (vb (b':=false) rfl ?_))))))))
    (symm;rw [decide_eq_false_iff_not];rintro ⟨h1,h2⟩;(have:=h2 i fhc1;omega))
   refine sk (vinB.n (tn (VRun.region (fO (Zv (tv (tN i) rfl) (VEv.int .i64 1) (by omega)) (mO (tN (i+1)) rfl (VRunO.nil (tn ?_)))))))
   refine ⟨(i+1:Nat),?_,?_,Wk.mk (fun k=>k) ?_ ?_ ?_⟩
   ·exact QS (ok:=fun j=>QA a j=63∨(97≤QA a j∧QA a j≤122)) hI' fhc1 (by omega)
   ·omega
   ·exact (b2 (b2 (b2 bn)))
   ·exact bn
   ·exact nd rfl
  refine Zh 5 4 true 17 (nz fhg17_2) rfl rfl rfl (fO (OF.pickF (VEv.tmpB rfl (nz fhg17_2)) (VEv.bool false)) (nt (cf rfl (sk (vinB.n (tn (VRun.region (fO (Zv (tv (tN i) rfl) (VEv.int .i64 1) (by omega)) (mO (tN (i+1)) rfl (VRunO.nil (tn ?_)))))))))))
  refine ⟨(i+1:Nat),?_,?_,Wk.mk (fun k=>k) ?_ ?_ ?_⟩
  ·exact QS (ok:=fun j=>QA a j=63∨(97≤QA a j∧QA a j≤122)) hI' fhc1 (by omega)
  ·omega
  ·exact (b2 (b2 (b2 bn)))
  ·exact bn
  ·exact nd rfl
 refine VRun.exit (vthn.e (vthn.e (vinB.e (tn (sr (fO (OF.assign (VEv.bool true)) (nt (rt (vb (b':=true) rfl ?_)))))))))
 (symm;rw [decide_eq_true_eq];exact ⟨by omega,Qs hI' fhc1⟩)
noncomputable section
def JO (l:List D.Note) (j:Nat):Prop:=∃x,l[j]? =some x∧(0≤x.Cell∧x.Cell≤35)∧x.Letter.size=1∧QY x.Letter∧(0≤x.Tick∧x.Tick≤1000)∧(1≤x.Who∧x.Who≤9)∧(0<j→∃y,l[j - 1]? =some y∧y.Cell<x.Cell)
def Qu (l:List D.Note):Prop:=l.length≤40∧∀j,j<l.length→JO l j
instance (l:List D.Note):Decidable (Qu l):=Classical.propDecidable _
end
theorem ZS (n:Nat) (a:List D.Note) (hz:zL Qy a≤mx):Pure (Qo Tryd.prog (n+3)) 31 [(rd 4 Qa a)] (tB (decide (Qu a))):=by
 refine Pure.intro (rs:= [ResultVar.tmp 2]) Tryd.func31 rfl rfl rfl (E0:= [(0,(rd 4 Qa a))]) rfl ?_
 obtain ⟨hlim,hmx,hmax⟩:=Q3
 have ha:=J1 (z:=Qy) a
 have hw:∀x∈a,x.Letter.size≤maxLen:=fun x hx=>by have h1:=QcW (z:=Qy) hx;simp only [Qy] at h1;omega
 refine sr (fO (OF.assign (VEv.bool false)) (nt (sq (sr (fO (OF.assign (VEv.int .i64 0)) (nt (VRun.block ?_)))))))
 refine VRun.loop (A:=Nat) (fun s_=> [(0,(rd 4 Qa a)),(3,(tN s_))]) (fun s_=>Jo []) 0 (fun s_=>s_≤a.length∧∀j,j<s_→JO a j) (fun s_=>a.length - s_) (0:Nat) ?_ (Wk.mk (fun k=>k) ?_ ?_ ?_) ?_
 ·exact ⟨Nat.zero_le _,fun j hj=>by omega⟩
 ·exact (b2 (b2 bn))
 ·exact bn
 ·exact nd rfl
 rintro i (hI':i≤a.length∧∀j,j<i→JO a j)
 show VRun _ _ _ [(0,(rd 4 Qa a)),(3,(tN i))] (Jo []) 0 _
 have hI0:=hI'
 refine sq (sr (mO (tN i) rfl (mO (rd 4 Qa a) rfl (lO (B.lenR (m:=a.length) (tv (rd 4 Qa a) rfl) U30 (List.length_map ..)) (fO (Y9 (tv (tN i) rfl) (tv (tN a.length) rfl)) (nt ?_))))))
 refine cd (i<a.length) rfl (fun fhc0=> ?_) fun fhc0=> ?_
 ·refine sk ?_
  refine tn (sq (VRun.block (sr (mO (rd 4 Qa a) rfl (mO (tN i) rfl ?_)))))
  obtain ⟨x1,hx1⟩:∃x,a[i]? =some x:=⟨_,List.getElem?_eq_getElem (by first | exact hw _ (List.mem_of_getElem? hx1) | omega)⟩
  refine fO (OF.indexAddrR (row:=(Qa false x1)) (i:=i) (tv (rd 4 Qa a) rfl) (tv (tN i) rfl) rfl (QJ _ hx1) U30 Zd Z2) (lO (OL.loadRn (us:=(Qa false x1)) (tv (T.rp (Qa false x1)) rfl) QbQ Zd (lb rfl) rfl) (kO (B.alloc (t:=(T.agg [(tN 0),(tS ByteArray.empty),(tN 0),(tN 0)])) (ts:= [(tN 0),(tS ByteArray.empty),(tN 0),(tN 0)]) Qcn Qcs nofun (fun _=> .agg _ _ rfl (Jm (RL.cons (.int _ _) (RL.cons (.str _) (RL.cons (.int _ _) (RL.cons (.int _ _) (RL.nil _))))))) rfl) (cO (B.storeW (us:=(Qa false x1)) (tv (T.op 0 0) rfl) (tv (T.agg (Qa false x1)) rfl) nofun rfl rfl rfl Z2 Zd (bc rfl (bc rfl (bc rfl (bc rfl bn))))) (nt (sq (VRun.draw (B:= [[],[0],[0,1],[1,0,2],[2,0,1,3],[3,1,0,2,4],[4,2,0,1,3,5],[5,3,1,0,2,4,6],[6,4,2,0,1,3,5,7],[6,4,2,0,1,3,5,7],[7,5,3,1,0,2,4,6,9],[9,10,7,5,3,1,0,2,4,6,8],[8,6,4,2,0,1,3,5,7,10,9,11],[11,9,10,7,5,3,1,0,2,4,6,8,12],[6,4,2,0,1,3,5,7],[7,5,3,1,0,2,4,6,14],[14,15,12,8,6,4,2,0,1,3,5,7,10,9,11,13],[13,11,9,10,8,12,15,14,16,6,4,2,0,1,3,5,7],[7,5,6,16,14,15,12,8,10,9,11,13,17,3,1,0,2,4],[4,2,0,1,3,17,13,11,9,10,8,12,15,14,16,6,5,7,18],[18,7,5,6,16,14,15,12,8,10,9,11,13,17,3,1,0,2,4,19],[19,4,2,0,1,3,17,13,11,9,10,8,12,15,14,16,6,5,7,18,20],[20,18,7,5,6,16,14,15,12,8,10,9,11,13,17,3,1,0,2,4,19,21],[21,19,4,2,0,1,3,17,13,11,9,10,8,12,15,14,16,6,5,7,18,20,22],[22,20,21,23,18,7,5,6,16,14,15,12,8,10,9,11,13,17,3,1,0,2,4,19],[19,4,2,0,1,3,17,13,11,9,10,8,12,15,14,16,6,5,7,18,23,21,20,22,24],[24,22,20,21,23,18,7,5,6,16,14,15,12,8,10,9,11,13,17,3,1,0,2,4,19,25],[25,19,4,2,0,1,3,17,13,11,9,10,8,12,15,14,16,6,5,7,18,23,21,20,22,24,26],[26,24,22,20,21,23,18,7,5,6,16,14,15,12,8,10,9,11,13,17,3,1,0,2,4,19,25,27],[27,25,19,4,2,0,1,3,17,13,11,9,10,8,12,15,14,16,6,5,7,18,23,21,20,22,24,26,28],[28,26,27,29,24,22,20,21,23,18,7,5,6,16,14,15,12,8,10,9,11,13,17,3,1,0,2,4,19,25],[25,19,4,2,0,1,3,17,13,11,9,10,8,12,15,14,16,6,5,7,18,23,21,20,22,24,29,27,26,28,30],[30,28,26,27,29,24,22,20,21,23,18,7,5,6,16,14,15,12,8,10,9,11,13,17,3,1,0,2,4,19,25,31],[31,25,19,4,2,0,1,3,17,13,11,9,10,8,12,15,14,16,6,5,7,18,23,21,20,22,24,29,27,26,28,30,32],[32,30,28,26,27,29,24,22,20,21,23,18,7,5,6,16,14,15,12,8,10,9,11,13,17,3,1,0,2,4,19,25,31,33],[33,31,25,19,4,2,0,1,3,17,13,11,9,10,8,12,15,14,16,6,5,7,18,23,21,20,22,24,29,27,26,28,30,32,34],[34,32,33,35,30,28,26,27,29,24,22,20,21,23,18,7,5,6,16,14,15,12,8,10,9,11,13,17,3,1,0,2,4,19,25,31],[31,25,19,4,2,0,1,3,17,13,11,9,10,8,12,15,14,16,6,5,7,18,23,21,20,22,24,29,27,26,28,30,35,33,32,34,36],[36,34,32,33,35,30,28,26,27,29,24,22,20,21,23,18,7,5,6,16,14,15,12,8,10,9,11,13,17,3,1,0,2,4,19,25,31,37],[37,31,25,19,4,2,0,1,3,17,13,11,9,10,8,12,15,14,16,6,5,7,18,23,21,20,22,24,29,27,26,28,30,35,33,32,34,36,38],[38,36,34,32,33,35,30,28,26,27,29,24,22,20,21,23,18,7,5,6,16,14,15,12,8,10,9,11,13,17,3,1,0,2,4,19,25,31,37,39],[39,37,31,25,19,4,2,0,1,3,17,13,11,9,10,8,12,15,14,16,6,5,7,18,23,21,20,22,24,29,27,26,28,30,35,33,32,34,36,38,40],[40,38,39,41,36,34,32,33,35,30,28,26,27,29,24,22,20,21,23,18,7,5,6,16,14,15,12,8,10,9,11,13,17,3,1,0,2,4,19,25,31,37]]) (by kernel_rfl) (by kernel_rfl) ?_))))))
  refine fD (OF.fieldAddrO (tv (T.op 0 0) rfl) QV) rfl rfl (lD (OL.loadO1 (t:=(tI x1.Cell)) (tv (T.op 0 0) rfl) rfl rfl ZD) rfl rfl (VRunD.quiet (bi:= [0,1]) rfl VWant.always rfl rfl rfl bn (cS (vc (tv (tI x1.Cell) rfl) (vc (VEv.int .i64 0) (vc (VEv.int .i64 35) vn))) (Yl rfl) (QC (n+1) x1.Cell 0 35) rfl rfl) (fD (Q4 (tv (tB (decide (0≤x1.Cell∧x1.Cell≤35))) rfl)) rfl rfl (mD (tB (!(decide (0≤x1.Cell∧x1.Cell≤35)))) rfl rfl ?_))))
  refine gn (0≤x1.Cell∧x1.Cell≤35) (fun fhg19_1=> ?_) fun fhg19_1=> ?_
  ·refine oD rfl rfl (ny fhg19_1) rfl ?_
   refine oD rfl rfl (ny fhg19_1) rfl (oD rfl rfl (ny fhg19_1) rfl (uD rfl rfl rfl (uD rfl rfl rfl (uD rfl rfl rfl (uD rfl rfl rfl (uD rfl rfl rfl (uD rfl rfl rfl (uD rfl rfl rfl (uD rfl rfl rfl (uD rfl rfl rfl (oD rfl rfl (ny fhg19_1) rfl ?_)))))))))))
   refine fD (OF.pickT (VEv.tmpB rfl (ny fhg19_1)) (VEv.bool true)) rfl rfl (mD (tB true) rfl rfl (VRunD.off rfl (VWant.not (b:=true) rfl rfl rfl) (VRunD.off rfl (VWant.not (b:=true) rfl rfl rfl) (VRunD.off rfl (VWant.not (b:=true) rfl rfl rfl) (VRunD.off rfl (VWant.not (b:=true) rfl rfl rfl) (fD (OF.pickT (tv (tB true) rfl) (VEv.bool true)) rfl rfl (mD (tB true) rfl rfl (VRunD.off rfl (VWant.not (b:=true) rfl rfl rfl) (VRunD.off rfl (VWant.not (b:=true) rfl rfl rfl) (VRunD.off rfl (VWant.not (b:=true) rfl rfl rfl) (VRunD.off rfl (VWant.not (b:=true) rfl rfl rfl) ?_)))))))))))
   refine fD (OF.pickT (tv (tB true) rfl) (VEv.bool true)) rfl rfl (mD (tB true) rfl rfl (VRunD.off rfl (VWant.not (b:=true) rfl rfl rfl) (VRunD.off rfl (VWant.not (b:=true) rfl rfl rfl) (VRunD.off rfl (VWant.not (b:=true) rfl rfl rfl) (VRunD.off rfl (VWant.not (b:=true) rfl rfl rfl) (fD (OF.pickT (tv (tB true) rfl) (VEv.bool true)) rfl rfl (mD (tB true) rfl rfl (VRunD.off rfl (VWant.not (b:=true) rfl rfl rfl) (VRunD.off rfl (VWant.not (b:=true) rfl rfl rfl) (VRunD.off rfl (VWant.not (b:=true) rfl rfl rfl) (VRunD.off rfl (VWant.not (b:=true) rfl rfl rfl) ?_)))))))))))
   refine fD (OF.pickT (tv (tB true) rfl) (VEv.bool true)) rfl rfl (VRunD.nil (tn (ct rfl (sr (fO (OF.assign (VEv.bool false)) (nt (rt (vinB.r (tr (tr (vinB.r ?_)))))))))))
   refine tr (vb (b':=false) rfl ?_)
   first | (refine Zg ⟨fun h=>⟨by omega,Qs hI' fhc0⟩,fun h=>by have:=h.1;omega⟩) | (symm;rw [decide_eq_false_iff_not];rintro ⟨_,h2⟩;obtain ⟨y,hy,h3,h4,h5,h6,h7,h8⟩:=h2 i fhc0;obtain rfl:=Qf hx1 hy;first | omega | contradiction | (obtain ⟨z,hz,h9⟩:=h8 (by omega);obtain rfl:=Qf hx2 hz;omega) | (simp_all;done))
  refine VRunD.free rfl (VWant.on rfl rfl (nz fhg19_1)) rfl (OF.move (tv (tN i) rfl)) (VRunD.free rfl (VWant.on rfl rfl (nz fhg19_1)) rfl (B.gtr (c:=(decide (0<i))) (tv (tN i) rfl) (VEv.int .i64 0) (by first | exact hw _ (List.mem_of_getElem? hx1) | (exact Zg (by omega)))) (VRunD.free rfl (VWant.on rfl rfl (nz fhg19_1)) rfl (OF.move (tv (tB (decide (0<i))) rfl)) ?_))
  refine gw (0<i) (fun fhg22_2=> ?_) fun fhg22_2=> ?_
  ·refine VRunD.free rfl (VWant.on rfl rfl (dy fhg22_2)) rfl (OF.move (tv (rd 4 Qa a) rfl)) ?_
   refine VRunD.free rfl (VWant.on rfl rfl (dy fhg22_2)) rfl (OF.move (tv (tN i) rfl)) (VRunD.free rfl (VWant.on rfl rfl (dy fhg22_2)) rfl (B.sub (n:=((i - 1:Nat):Int)) (tv (tN i) rfl) (VEv.int .i64 1) (by first | exact hw _ (List.mem_of_getElem? hx1) | rfl | (rw [Q1 (by omega)];omega) | (rw [Q1 (by omega)];done))) ?_)
   obtain ⟨x2,hx2⟩:∃x,a[i - 1]? =some x:=⟨_,List.getElem?_eq_getElem (by first | exact hw _ (List.mem_of_getElem? hx1) | omega)⟩
   refine VRunD.free rfl (VWant.on rfl rfl (dy fhg22_2)) rfl (OF.indexAddrR (row:=(Qa false x2)) (i:=i - 1) (tv (rd 4 Qa a) rfl) (tv (tN (i - 1)) rfl) rfl (QJ _ hx2) U30 Zd Z2) (VRunD.free rfl (VWant.on rfl rfl (dy fhg22_2)) rfl (B.fieldAddrR (us:=(Qa false x2)) (tv (T.rp (Qa false x2)) rfl) (lb rfl) QV rfl) (VRunD.look rfl (VWant.on rfl rfl (dy fhg22_2)) rfl (OL.loadR1 (t:=(tI x2.Cell)) (tv (T.rp (Qa false x2)) rfl) rfl ZD) (VRunD.free rfl (VWant.on rfl rfl (dy fhg22_2)) rfl (OF.fieldAddrO (tv (T.op 0 0) rfl) QV) (VRunD.look rfl (VWant.on rfl rfl (dy fhg22_2)) rfl (OL.loadO1 (t:=(tI x1.Cell)) (tv (T.op 0 0) rfl) rfl rfl ZD) (VRunD.free rfl (VWant.on rfl rfl (dy fhg22_2)) rfl (xge (tv (tI x2.Cell) rfl) (tv (tI x1.Cell) rfl)) (VRunD.free rfl (VWant.on rfl rfl (nz fhg19_1)) rfl (OF.pickT (VEv.tmpB rfl (dy fhg22_2)) (tv (tB (decide (x1.Cell≤x2.Cell))) rfl)) (fD (OF.pickF (VEv.tmpB rfl (nz fhg19_1)) (tv (tB (decide (x1.Cell≤x2.Cell))) rfl)) rfl rfl (mD (tB (decide (x1.Cell≤x2.Cell))) rfl rfl ?_))))))))
   refine gw (x1.Cell≤x2.Cell) (fun fhg34_3=> ?_) fun fhg34_3=> ?_
   ·refine oD rfl rfl (dy fhg34_3) rfl ?_
    refine oD rfl rfl (dy fhg34_3) rfl (oD rfl rfl (dy fhg34_3) rfl (oD rfl rfl (dy fhg34_3) rfl (fD (OF.pickT (VEv.tmpB rfl (dy fhg34_3)) (VEv.bool true)) rfl rfl (mD (tB true) rfl rfl (VRunD.off rfl (VWant.not (b:=true) rfl rfl rfl) (VRunD.off rfl (VWant.not (b:=true) rfl rfl rfl) (VRunD.off rfl (VWant.not (b:=true) rfl rfl rfl) (VRunD.off rfl (VWant.not (b:=true) rfl rfl rfl) (fD (OF.pickT (tv (tB true) rfl) (VEv.bool true)) rfl rfl (mD (tB true) rfl rfl (VRunD.off rfl (VWant.not (b:=true) rfl rfl rfl) ?_)))))))))))
    refine VRunD.off rfl (VWant.not (b:=true) rfl rfl rfl) (VRunD.off rfl (VWant.not (b:=true) rfl rfl rfl) (VRunD.off rfl (VWant.not (b:=true) rfl rfl rfl) (fD (OF.pickT (tv (tB true) rfl) (VEv.bool true)) rfl rfl (mD (tB true) rfl rfl (VRunD.off rfl (VWant.not (b:=true) rfl rfl rfl) (VRunD.off rfl (VWant.not (b:=true) rfl rfl rfl) (VRunD.off rfl (VWant.not (b:=true) rfl rfl rfl) (VRunD.off rfl (VWant.not (b:=true) rfl rfl rfl) (fD (OF.pickT (tv (tB true) rfl) (VEv.bool true)) rfl rfl (VRunD.nil (tn ?_)))))))))))
    refine ct rfl (sr (fO (OF.assign (VEv.bool false)) (nt (rt (vinB.r (tr (tr (vinB.r (tr (vb (b':=false) rfl ?_))))))))))
    first | (refine Zg ⟨fun h=>⟨by omega,Qs hI' fhc0⟩,fun h=>by have:=h.1;omega⟩) | (symm;rw [decide_eq_false_iff_not];rintro ⟨_,h2⟩;obtain ⟨y,hy,h3,h4,h5,h6,h7,h8⟩:=h2 i fhc0;obtain rfl:=Qf hx1 hy;first | omega | contradiction | (obtain ⟨z,hz,h9⟩:=h8 (by omega);obtain rfl:=Qf hx2 hz;omega) | (simp_all;done))
   refine VRunD.free rfl (VWant.on rfl rfl (dz fhg34_3)) rfl (OF.fieldAddrO (tv (T.op 0 0) rfl) Q9) (VRunD.look rfl (VWant.on rfl rfl (dz fhg34_3)) rfl (OL.loadO1 (t:=(tS x1.Letter)) (tv (T.op 0 1) rfl) rfl rfl Yv) (VRunD.look rfl (VWant.on rfl rfl (dz fhg34_3)) rfl (B.lenS (tv (tS x1.Letter) rfl) U9) (VRunD.free rfl (VWant.on rfl rfl (dz fhg34_3)) rfl (B.neq (c:=(!(decide (x1.Letter.size=1)))) (tv (tN x1.Letter.size) rfl) (VEv.int .i64 1) (by first | exact hw _ (List.mem_of_getElem? hx1) | (exact Qcd (by omega)))) (fD (OF.pickF (VEv.tmpB rfl (dz fhg34_3)) (tv (tB (!(decide (x1.Letter.size=1)))) rfl)) rfl rfl (mD (tB (!(decide (x1.Letter.size=1)))) rfl rfl ?_)))))
   refine gn (x1.Letter.size=1) (fun fhg40_4=> ?_) fun fhg40_4=> ?_
   ·refine oD rfl rfl (ny fhg40_4) rfl ?_
    refine oD rfl rfl (ny fhg40_4) rfl (oD rfl rfl (ny fhg40_4) rfl (oD rfl rfl (ny fhg40_4) rfl (fD (OF.pickT (VEv.tmpB rfl (ny fhg40_4)) (VEv.bool true)) rfl rfl (mD (tB true) rfl rfl (VRunD.off rfl (VWant.not (b:=true) rfl rfl rfl) (VRunD.off rfl (VWant.not (b:=true) rfl rfl rfl) (VRunD.off rfl (VWant.not (b:=true) rfl rfl rfl) (VRunD.off rfl (VWant.not (b:=true) rfl rfl rfl) (fD (OF.pickT (tv (tB true) rfl) (VEv.bool true)) rfl rfl (mD (tB true) rfl rfl (VRunD.off rfl (VWant.not (b:=true) rfl rfl rfl) ?_)))))))))))
    refine VRunD.off rfl (VWant.not (b:=true) rfl rfl rfl) (VRunD.off rfl (VWant.not (b:=true) rfl rfl rfl) (VRunD.off rfl (VWant.not (b:=true) rfl rfl rfl) (fD (OF.pickT (tv (tB true) rfl) (VEv.bool true)) rfl rfl (VRunD.nil (tn (ct rfl (sr (fO (OF.assign (VEv.bool false)) (nt (rt (vinB.r ?_)))))))))))
    refine tr (tr (vinB.r (tr (vb (b':=false) rfl ?_))))
    first | (refine Zg ⟨fun h=>⟨by omega,Qs hI' fhc0⟩,fun h=>by have:=h.1;omega⟩) | (symm;rw [decide_eq_false_iff_not];rintro ⟨_,h2⟩;obtain ⟨y,hy,h3,h4,h5,h6,h7,h8⟩:=h2 i fhc0;obtain rfl:=Qf hx1 hy;first | omega | contradiction | (obtain ⟨z,hz,h9⟩:=h8 (by omega);obtain rfl:=Qf hx2 hz;omega) | (simp_all;done))
   refine VRunD.free rfl (VWant.on rfl rfl (nz fhg40_4)) rfl (OF.fieldAddrO (tv (T.op 0 0) rfl) Q9) (VRunD.look rfl (VWant.on rfl rfl (nz fhg40_4)) rfl (OL.loadO1 (t:=(tS x1.Letter)) (tv (T.op 0 1) rfl) rfl rfl Yv) (VRunD.quiet (bi:= [26,24,22,20,21,23,18,7,5,6,16,14,15,12,8,10,9,11,13,17,3,1,0,2,4,19,25,27]) rfl (VWant.on rfl rfl (nz fhg40_4)) rfl rfl rfl bn (cS (vc (tv (tS x1.Letter) rfl) vn) (Yl rfl) (ZL (n+0) x1.Letter (by first | exact hw _ (List.mem_of_getElem? hx1) | assumption | omega)) rfl rfl) (VRunD.free rfl (VWant.on rfl rfl (nz fhg40_4)) rfl (Q4 (tv (tB (decide (QY x1.Letter))) rfl)) (fD (OF.pickF (VEv.tmpB rfl (nz fhg40_4)) (tv (tB (!(decide (QY x1.Letter)))) rfl)) rfl rfl (mD (tB (!(decide (QY x1.Letter)))) rfl rfl ?_)))))
   refine gn (QY x1.Letter) (fun fhg46_5=> ?_) fun fhg46_5=> ?_
   ·refine oD rfl rfl (ny fhg46_5) rfl ?_
    refine oD rfl rfl (ny fhg46_5) rfl (oD rfl rfl (ny fhg46_5) rfl (oD rfl rfl (ny fhg46_5) rfl (fD (OF.pickT (VEv.tmpB rfl (ny fhg46_5)) (VEv.bool true)) rfl rfl (mD (tB true) rfl rfl (VRunD.off rfl (VWant.not (b:=true) rfl rfl rfl) (VRunD.off rfl (VWant.not (b:=true) rfl rfl rfl) (VRunD.off rfl (VWant.not (b:=true) rfl rfl rfl) (VRunD.off rfl (VWant.not (b:=true) rfl rfl rfl) (fD (OF.pickT (tv (tB true) rfl) (VEv.bool true)) rfl rfl (VRunD.nil (tn ?_)))))))))))
    refine ct rfl (sr (fO (OF.assign (VEv.bool false)) (nt (rt (vinB.r (tr (tr (vinB.r (tr (vb (b':=false) rfl ?_))))))))))
    first | (refine Zg ⟨fun h=>⟨by omega,Qs hI' fhc0⟩,fun h=>by have:=h.1;omega⟩) | (symm;rw [decide_eq_false_iff_not];rintro ⟨_,h2⟩;obtain ⟨y,hy,h3,h4,h5,h6,h7,h8⟩:=h2 i fhc0;obtain rfl:=Qf hx1 hy;first | omega | contradiction | (obtain ⟨z,hz,h9⟩:=h8 (by omega);obtain rfl:=Qf hx2 hz;omega) | (simp_all;done))
   refine VRunD.free rfl (VWant.on rfl rfl (nz fhg46_5)) rfl (OF.fieldAddrO (tv (T.op 0 0) rfl) YD) (VRunD.look rfl (VWant.on rfl rfl (nz fhg46_5)) rfl (OL.loadO1 (t:=(tI x1.Tick)) (tv (T.op 0 2) rfl) rfl rfl ZD) (VRunD.quiet (bi:= [32,30,28,26,27,29,24,22,20,21,23,18,7,5,6,16,14,15,12,8,10,9,11,13,17,3,1,0,2,4,19,25,31,33]) rfl (VWant.on rfl rfl (nz fhg46_5)) rfl rfl rfl bn (cS (vc (tv (tI x1.Tick) rfl) (vc (VEv.int .i64 0) (vc (VEv.int .i64 1000) vn))) (Yl rfl) (QC (n+1) x1.Tick 0 1000) rfl rfl) (VRunD.free rfl (VWant.on rfl rfl (nz fhg46_5)) rfl (Q4 (tv (tB (decide (0≤x1.Tick∧x1.Tick≤1000))) rfl)) (fD (OF.pickF (VEv.tmpB rfl (nz fhg46_5)) (tv (tB (!(decide (0≤x1.Tick∧x1.Tick≤1000)))) rfl)) rfl rfl (mD (tB (!(decide (0≤x1.Tick∧x1.Tick≤1000)))) rfl rfl ?_)))))
   refine gn (0≤x1.Tick∧x1.Tick≤1000) (fun fhg52_6=> ?_) fun fhg52_6=> ?_
   ·refine oD rfl rfl (ny fhg52_6) rfl ?_
    refine oD rfl rfl (ny fhg52_6) rfl (oD rfl rfl (ny fhg52_6) rfl (oD rfl rfl (ny fhg52_6) rfl (fD (OF.pickT (VEv.tmpB rfl (ny fhg52_6)) (VEv.bool true)) rfl rfl (VRunD.nil (tn (ct rfl (sr (fO (OF.assign (VEv.bool false)) (nt (rt (vinB.r ?_)))))))))))
    refine tr (tr (vinB.r (tr (vb (b':=false) rfl ?_))))
    first | (refine Zg ⟨fun h=>⟨by omega,Qs hI' fhc0⟩,fun h=>by have:=h.1;omega⟩) | (symm;rw [decide_eq_false_iff_not];rintro ⟨_,h2⟩;obtain ⟨y,hy,h3,h4,h5,h6,h7,h8⟩:=h2 i fhc0;obtain rfl:=Qf hx1 hy;first | omega | contradiction | (obtain ⟨z,hz,h9⟩:=h8 (by omega);obtain rfl:=Qf hx2 hz;omega) | (simp_all;done))
   refine VRunD.free rfl (VWant.on rfl rfl (nz fhg52_6)) rfl (OF.fieldAddrO (tv (T.op 0 0) rfl) Yz) (VRunD.look rfl (VWant.on rfl rfl (nz fhg52_6)) rfl (OL.loadO1 (t:=(tI x1.Who)) (tv (T.op 0 3) rfl) rfl rfl ZD) (VRunD.quiet (bi:= [38,36,34,32,33,35,30,28,26,27,29,24,22,20,21,23,18,7,5,6,16,14,15,12,8,10,9,11,13,17,3,1,0,2,4,19,25,31,37,39]) rfl (VWant.on rfl rfl (nz fhg52_6)) rfl rfl rfl bn (cS (vc (tv (tI x1.Who) rfl) (vc (VEv.int .i64 1) (vc (VEv.int .i64 9) vn))) (Yl rfl) (QC (n+1) x1.Who 1 9) rfl rfl) (VRunD.free rfl (VWant.on rfl rfl (nz fhg52_6)) rfl (Q4 (tv (tB (decide (1≤x1.Who∧x1.Who≤9))) rfl)) (fD (OF.pickF (VEv.tmpB rfl (nz fhg52_6)) (tv (tB (!(decide (1≤x1.Who∧x1.Who≤9)))) rfl)) rfl rfl (VRunD.nil (tn ?_))))))
   refine cn (1≤x1.Who∧x1.Who≤9) rfl (fun fhc1=> ?_) fun fhc1=> ?_
   ·refine sr ?_
    refine fO (OF.assign (VEv.bool false)) (nt (rt (vinB.r (tr (tr (vinB.r (tr (vb (b':=false) rfl ?_))))))))
    first | (refine Zg ⟨fun h=>⟨by omega,Qs hI' fhc0⟩,fun h=>by have:=h.1;omega⟩) | (symm;rw [decide_eq_false_iff_not];rintro ⟨_,h2⟩;obtain ⟨y,hy,h3,h4,h5,h6,h7,h8⟩:=h2 i fhc0;obtain rfl:=Qf hx1 hy;first | omega | contradiction | (obtain ⟨z,hz,h9⟩:=h8 (by omega);obtain rfl:=Qf hx2 hz;omega) | (simp_all;done))
   refine sk (vinB.n (tn (VRun.region (mO (tN i) rfl (fO (Zv (tv (tN i) rfl) (VEv.int .i64 1) (by first | exact hw _ (List.mem_of_getElem? hx1) | omega)) (aO (tN (i+1)) rfl (VRunO.nil (tn ?_))))))))
   refine ⟨(i+1:Nat),?_,?_,Wk.mk (fun k=>k) ?_ ?_ ?_⟩
   ·refine QS hI0 fhc0 ⟨x1,hx1,by omega,by omega,by assumption,by omega,by omega,fun h0=> ?_⟩
    first | (exact absurd h0 (by omega)) | (exact ⟨x2,hx2,by omega⟩)
   ·first | omega | (simp only [];omega) | (show _<_;omega) | (simp;omega)
   ·exact (b2 (b2 bn))
   ·exact bn
   ·exact nd rfl
  refine oD rfl rfl (dz fhg22_2) rfl (oD rfl rfl (dz fhg22_2) rfl (oD rfl rfl (dz fhg22_2) rfl (oD rfl rfl (dz fhg22_2) rfl (oD rfl rfl (dz fhg22_2) rfl (oD rfl rfl (dz fhg22_2) rfl (oD rfl rfl (dz fhg22_2) rfl (oD rfl rfl (dz fhg22_2) rfl (oD rfl rfl (dz fhg22_2) rfl (VRunD.free rfl (VWant.on rfl rfl (nz fhg19_1)) rfl (OF.pickF (VEv.tmpB rfl (dz fhg22_2)) (VEv.bool false)) (fD (OF.pickF (VEv.tmpB rfl (nz fhg19_1)) (tv (tB false) rfl)) rfl rfl (mD (tB false) rfl rfl ?_)))))))))))
  refine VRunD.free rfl (VWant.on (b:=false) rfl rfl rfl) rfl (OF.fieldAddrO (tv (T.op 0 0) rfl) Q9) (VRunD.look rfl (VWant.on (b:=false) rfl rfl rfl) rfl (OL.loadO1 (t:=(tS x1.Letter)) (tv (T.op 0 1) rfl) rfl rfl Yv) (VRunD.look rfl (VWant.on (b:=false) rfl rfl rfl) rfl (B.lenS (tv (tS x1.Letter) rfl) U9) (VRunD.free rfl (VWant.on (b:=false) rfl rfl rfl) rfl (B.neq (c:=(!(decide (x1.Letter.size=1)))) (tv (tN x1.Letter.size) rfl) (VEv.int .i64 1) (by first | exact hw _ (List.mem_of_getElem? hx1) | (exact Qcd (by omega)))) (fD (OF.pickF (tv (tB false) rfl) (tv (tB (!(decide (x1.Letter.size=1)))) rfl)) rfl rfl (mD (tB (!(decide (x1.Letter.size=1)))) rfl rfl ?_)))))
  refine gn (x1.Letter.size=1) (fun fhg40_7=> ?_) fun fhg40_7=> ?_
  ·refine oD rfl rfl (ny fhg40_7) rfl ?_
   refine oD rfl rfl (ny fhg40_7) rfl (oD rfl rfl (ny fhg40_7) rfl (oD rfl rfl (ny fhg40_7) rfl (fD (OF.pickT (VEv.tmpB rfl (ny fhg40_7)) (VEv.bool true)) rfl rfl (mD (tB true) rfl rfl (VRunD.off rfl (VWant.not (b:=true) rfl rfl rfl) (VRunD.off rfl (VWant.not (b:=true) rfl rfl rfl) (VRunD.off rfl (VWant.not (b:=true) rfl rfl rfl) (VRunD.off rfl (VWant.not (b:=true) rfl rfl rfl) (fD (OF.pickT (tv (tB true) rfl) (VEv.bool true)) rfl rfl (mD (tB true) rfl rfl (VRunD.off rfl (VWant.not (b:=true) rfl rfl rfl) ?_)))))))))))
   refine VRunD.off rfl (VWant.not (b:=true) rfl rfl rfl) (VRunD.off rfl (VWant.not (b:=true) rfl rfl rfl) (VRunD.off rfl (VWant.not (b:=true) rfl rfl rfl) (fD (OF.pickT (tv (tB true) rfl) (VEv.bool true)) rfl rfl (VRunD.nil (tn (ct rfl (sr (fO (OF.assign (VEv.bool false)) (nt (rt (vinB.r ?_)))))))))))
   refine tr (tr (vinB.r (tr (vb (b':=false) rfl ?_))))
   first | (refine Zg ⟨fun h=>⟨by omega,Qs hI' fhc0⟩,fun h=>by have:=h.1;omega⟩) | (symm;rw [decide_eq_false_iff_not];rintro ⟨_,h2⟩;obtain ⟨y,hy,h3,h4,h5,h6,h7,h8⟩:=h2 i fhc0;obtain rfl:=Qf hx1 hy;first | omega | contradiction | (obtain ⟨z,hz,h9⟩:=h8 (by omega);obtain rfl:=Qf hx2 hz;omega) | (simp_all;done))
  refine VRunD.free rfl (VWant.on rfl rfl (nz fhg40_7)) rfl (OF.fieldAddrO (tv (T.op 0 0) rfl) Q9) (VRunD.look rfl (VWant.on rfl rfl (nz fhg40_7)) rfl (OL.loadO1 (t:=(tS x1.Letter)) (tv (T.op 0 1) rfl) rfl rfl Yv) (VRunD.quiet (bi:= [26,24,22,20,21,23,18,7,5,6,16,14,15,12,8,10,9,11,13,17,3,1,0,2,4,19,25,27]) rfl (VWant.on rfl rfl (nz fhg40_7)) rfl rfl rfl bn (cS (vc (tv (tS x1.Letter) rfl) vn) (Yl rfl) (ZL (n+0) x1.Letter (by first | exact hw _ (List.mem_of_getElem? hx1) | assumption | omega)) rfl rfl) (VRunD.free rfl (VWant.on rfl rfl (nz fhg40_7)) rfl (Q4 (tv (tB (decide (QY x1.Letter))) rfl)) (fD (OF.pickF (VEv.tmpB rfl (nz fhg40_7)) (tv (tB (!(decide (QY x1.Letter)))) rfl)) rfl rfl (mD (tB (!(decide (QY x1.Letter)))) rfl rfl ?_)))))
  refine gn (QY x1.Letter) (fun fhg46_8=> ?_) fun fhg46_8=> ?_
  ·refine oD rfl rfl (ny fhg46_8) rfl ?_
   refine oD rfl rfl (ny fhg46_8) rfl (oD rfl rfl (ny fhg46_8) rfl (oD rfl rfl (ny fhg46_8) rfl (fD (OF.pickT (VEv.tmpB rfl (ny fhg46_8)) (VEv.bool true)) rfl rfl (mD (tB true) rfl rfl (VRunD.off rfl (VWant.not (b:=true) rfl rfl rfl) (VRunD.off rfl (VWant.not (b:=true) rfl rfl rfl) (VRunD.off rfl (VWant.not (b:=true) rfl rfl rfl) (VRunD.off rfl (VWant.not (b:=true) rfl rfl rfl) (fD (OF.pickT (tv (tB true) rfl) (VEv.bool true)) rfl rfl (VRunD.nil (tn ?_)))))))))))
   refine ct rfl (sr (fO (OF.assign (VEv.bool false)) (nt (rt (vinB.r (tr (tr (vinB.r (tr (vb (b':=false) rfl ?_))))))))))
   first | (refine Zg ⟨fun h=>⟨by omega,Qs hI' fhc0⟩,fun h=>by have:=h.1;omega⟩) | (symm;rw [decide_eq_false_iff_not];rintro ⟨_,h2⟩;obtain ⟨y,hy,h3,h4,h5,h6,h7,h8⟩:=h2 i fhc0;obtain rfl:=Qf hx1 hy;first | omega | contradiction | (obtain ⟨z,hz,h9⟩:=h8 (by omega);obtain rfl:=Qf hx2 hz;omega) | (simp_all;done))
  refine VRunD.free rfl (VWant.on rfl rfl (nz fhg46_8)) rfl (OF.fieldAddrO (tv (T.op 0 0) rfl) YD) (VRunD.look rfl (VWant.on rfl rfl (nz fhg46_8)) rfl (OL.loadO1 (t:=(tI x1.Tick)) (tv (T.op 0 2) rfl) rfl rfl ZD) (VRunD.quiet (bi:= [32,30,28,26,27,29,24,22,20,21,23,18,7,5,6,16,14,15,12,8,10,9,11,13,17,3,1,0,2,4,19,25,31,33]) rfl (VWant.on rfl rfl (nz fhg46_8)) rfl rfl rfl bn (cS (vc (tv (tI x1.Tick) rfl) (vc (VEv.int .i64 0) (vc (VEv.int .i64 1000) vn))) (Yl rfl) (QC (n+1) x1.Tick 0 1000) rfl rfl) (VRunD.free rfl (VWant.on rfl rfl (nz fhg46_8)) rfl (Q4 (tv (tB (decide (0≤x1.Tick∧x1.Tick≤1000))) rfl)) (fD (OF.pickF (VEv.tmpB rfl (nz fhg46_8)) (tv (tB (!(decide (0≤x1.Tick∧x1.Tick≤1000)))) rfl)) rfl rfl (mD (tB (!(decide (0≤x1.Tick∧x1.Tick≤1000)))) rfl rfl ?_)))))
  refine gn (0≤x1.Tick∧x1.Tick≤1000) (fun fhg52_9=> ?_) fun fhg52_9=> ?_
  ·refine oD rfl rfl (ny fhg52_9) rfl ?_
   refine oD rfl rfl (ny fhg52_9) rfl (oD rfl rfl (ny fhg52_9) rfl (oD rfl rfl (ny fhg52_9) rfl (fD (OF.pickT (VEv.tmpB rfl (ny fhg52_9)) (VEv.bool true)) rfl rfl (VRunD.nil (tn (ct rfl (sr (fO (OF.assign (VEv.bool false)) (nt (rt (vinB.r ?_)))))))))))
   refine tr (tr (vinB.r (tr (vb (b':=false) rfl ?_))))
   first | (refine Zg ⟨fun h=>⟨by omega,Qs hI' fhc0⟩,fun h=>by have:=h.1;omega⟩) | (symm;rw [decide_eq_false_iff_not];rintro ⟨_,h2⟩;obtain ⟨y,hy,h3,h4,h5,h6,h7,h8⟩:=h2 i fhc0;obtain rfl:=Qf hx1 hy;first | omega | contradiction | (obtain ⟨z,hz,h9⟩:=h8 (by omega);obtain rfl:=Qf hx2 hz;omega) | (simp_all;done))
  refine VRunD.free rfl (VWant.on rfl rfl (nz fhg52_9)) rfl (OF.fieldAddrO (tv (T.op 0 0) rfl) Yz) (VRunD.look rfl (VWant.on rfl rfl (nz fhg52_9)) rfl (OL.loadO1 (t:=(tI x1.Who)) (tv (T.op 0 3) rfl) rfl rfl ZD) (VRunD.quiet (bi:= [38,36,34,32,33,35,30,28,26,27,29,24,22,20,21,23,18,7,5,6,16,14,15,12,8,10,9,11,13,17,3,1,0,2,4,19,25,31,37,39]) rfl (VWant.on rfl rfl (nz fhg52_9)) rfl rfl rfl bn (cS (vc (tv (tI x1.Who) rfl) (vc (VEv.int .i64 1) (vc (VEv.int .i64 9) vn))) (Yl rfl) (QC (n+1) x1.Who 1 9) rfl rfl) (VRunD.free rfl (VWant.on rfl rfl (nz fhg52_9)) rfl (Q4 (tv (tB (decide (1≤x1.Who∧x1.Who≤9))) rfl)) (fD (OF.pickF (VEv.tmpB rfl (nz fhg52_9)) (tv (tB (!(decide (1≤x1.Who∧x1.Who≤9)))) rfl)) rfl rfl (VRunD.nil (tn ?_))))))
  refine cn (1≤x1.Who∧x1.Who≤9) rfl (fun fhc1=> ?_) fun fhc1=> ?_
  ·refine sr ?_
   refine fO (OF.assign (VEv.bool false)) (nt (rt (vinB.r (tr (tr (vinB.r (tr (vb (b':=false) rfl ?_))))))))
   first | (refine Zg ⟨fun h=>⟨by omega,Qs hI' fhc0⟩,fun h=>by have:=h.1;omega⟩) | (symm;rw [decide_eq_false_iff_not];rintro ⟨_,h2⟩;obtain ⟨y,hy,h3,h4,h5,h6,h7,h8⟩:=h2 i fhc0;obtain rfl:=Qf hx1 hy;first | omega | contradiction | (obtain ⟨z,hz,h9⟩:=h8 (by omega);obtain rfl:=Qf hx2 hz;omega) | (simp_all;done))
  refine sk (vinB.n (tn (VRun.region (mO (tN i) rfl (fO (Zv (tv (tN i) rfl) (VEv.int .i64 1) (by first | exact hw _ (List.mem_of_getElem? hx1) | omega)) (aO (tN (i+1)) rfl (VRunO.nil (tn ?_))))))))
  refine ⟨(i+1:Nat),?_,?_,Wk.mk (fun k=>k) ?_ ?_ ?_⟩
  ·refine QS hI0 fhc0 ⟨x1,hx1,by omega,by omega,by assumption,by omega,by omega,fun h0=> ?_⟩
   first | (exact absurd h0 (by omega)) | (exact ⟨x2,hx2,by omega⟩)
  ·first | omega | (simp only [];omega) | (show _<_;omega) | (simp;omega)
  ·exact (b2 (b2 bn))
  ·exact bn
  ·exact nd rfl
 refine VRun.exit (vthn.e (vthn.e (vinB.e (tn (sr (mO (rd 4 Qa a) rfl (lO (B.lenR (m:=a.length) (tv (rd 4 Qa a) rfl) U30 (List.length_map ..)) (fO (B.leq (c:=(decide (a.length≤40))) (tv (tN a.length) rfl) (VEv.int .i64 40) (by first | exact hw _ (List.mem_of_getElem? hx1) | (exact Zg (by omega)))) (aO (tB (decide (a.length≤40))) rfl (nt (rt ?_)))))))))))
 refine vb (b':=(decide (a.length≤40))) rfl ?_
 first | (refine Zg ⟨fun h=>⟨by omega,Qs hI' fhc0⟩,fun h=>by have:=h.1;omega⟩) | (symm;rw [decide_eq_false_iff_not];rintro ⟨_,h2⟩;obtain ⟨y,hy,h3,h4,h5,h6,h7,h8⟩:=h2 i fhc0;obtain rfl:=Qf hx1 hy;first | omega | contradiction | (obtain ⟨z,hz,h9⟩:=h8 (by omega);obtain rfl:=Qf hx2 hz;omega) | (simp_all;done))
theorem Jz (n:Nat) (a:List D.Note) (hz:zL Qy a≤mx):Pure (Qo Tryd.prog (n+3)) 35 [(rd 4 Qa a)] (tB (decide (Qu a))):=by
 refine Pure.intro (rs:= [ResultVar.tmp 2]) Tryd.func35 rfl rfl rfl (E0:= [(0,(rd 4 Qa a))]) rfl ?_
 obtain ⟨hlim,hmx,hmax⟩:=Q3
 have ha:=J1 (z:=Qy) a
 have hw:∀x∈a,x.Letter.size≤maxLen:=fun x hx=>by have h1:=QcW (z:=Qy) hx;simp only [Qy] at h1;omega
 refine sr (fO (OF.assign (VEv.bool false)) (nt (sq (sr (mO (rd 4 Qa a) rfl (lO (B.lenR (m:=a.length) (tv (rd 4 Qa a) rfl) U30 (List.length_map ..)) (fO (B.gtr (c:=(decide (40<a.length))) (tv (tN a.length) rfl) (VEv.int .i64 40) (by first | exact hw _ (List.mem_of_getElem? hx1) | (exact Zg (by omega)))) (nt ?_))))))))
 refine cd (40<a.length) rfl (fun fhc0=> ?_) fun fhc0=> ?_
 ·refine sr ?_
  refine fO (OF.assign (VEv.bool false)) (nt (rt (tr (vb (b':=false) rfl ?_))))
  first | (symm;rw [decide_eq_false_iff_not];rintro ⟨h2,_⟩;omega) | (symm;rw [decide_eq_true_eq];exact ⟨by omega,Qs hI' fhc1⟩) | (symm;rw [decide_eq_false_iff_not];rintro ⟨_,h2⟩;obtain ⟨y,hy,h3,h4,h5,h6,h7,h8⟩:=h2 i fhc1;obtain rfl:=Qf hx1 hy;first | omega | contradiction | (obtain ⟨z,hz,h9⟩:=h8 (by omega);obtain rfl:=Qf hx2 hz;omega) | (simp_all;done))
 refine sk (tn (sq (sr (mO (rd 4 Qa a) rfl (lO (B.lenR (m:=a.length) (tv (rd 4 Qa a) rfl) U30 (List.length_map ..)) (fO (OF.move (VEv.int .i64 0)) (nt (VRun.block ?_))))))))
 refine VRun.loop (A:=Nat) (fun s_=> [(0,(rd 4 Qa a)),(8,(rd 4 Qa a)),(9,(tN a.length)),(10,(tN s_))]) (fun s_=>Jo []) 0 (fun s_=>s_≤a.length∧∀j,j<s_→JO a j) (fun s_=>a.length - s_) (0:Nat) ?_ (Wk.mk (fun k=>k) ?_ ?_ ?_) ?_
 ·exact ⟨Nat.zero_le _,fun j hj=>by omega⟩
 ·exact (b2 (b2 (b2 (b2 bn))))
 ·exact bn
 ·exact nd rfl
 rintro i (hI':i≤a.length∧∀j,j<i→JO a j)
 show VRun _ _ _ [(0,(rd 4 Qa a)),(8,(rd 4 Qa a)),(9,(tN a.length)),(10,(tN i))] (Jo []) 0 _
 have hI0:=hI'
 refine sr (fO (Y9 (tv (tN i) rfl) (tv (tN a.length) rfl)) (nt (sq ?_)))
 refine cd (i<a.length) rfl (fun fhc1=> ?_) fun fhc1=> ?_
 ·refine sk ?_
  refine tn (sq (VRun.block (sr (mO (tN i) rfl ?_))))
  obtain ⟨x1,hx1⟩:∃x,a[i]? =some x:=⟨_,List.getElem?_eq_getElem (by first | exact hw _ (List.mem_of_getElem? hx1) | omega)⟩
  refine fO (OF.indexAddrR (row:=(Qa false x1)) (i:=i) (tv (rd 4 Qa a) rfl) (tv (tN i) rfl) rfl (QJ _ hx1) U30 Zd Z2) (lO (OL.loadRn (us:=(Qa false x1)) (tv (T.rp (Qa false x1)) rfl) QbQ Zd (lb rfl) rfl) (kO (B.alloc (t:=(T.agg [(tN 0),(tS ByteArray.empty),(tN 0),(tN 0)])) (ts:= [(tN 0),(tS ByteArray.empty),(tN 0),(tN 0)]) Qcn Qcs nofun (fun _=> .agg _ _ rfl (Jm (RL.cons (.int _ _) (RL.cons (.str _) (RL.cons (.int _ _) (RL.cons (.int _ _) (RL.nil _))))))) rfl) (aO (tN i) rfl (cO (B.storeW (us:=(Qa false x1)) (tv (T.op 0 0) rfl) (tv (T.agg (Qa false x1)) rfl) nofun rfl rfl rfl Z2 Zd (bc rfl (bc rfl (bc rfl (bc rfl bn))))) (nt (sq (VRun.draw (B:= [[],[0],[0,1],[1,0,2],[1,0,2],[2,0,1,4],[4,5,2,0,1,3],[3,1,0,2,5,4,6],[6,4,5,2,0,1,3,7],[1,0,2],[2,0,1,9],[9,10,7,3,1,0,2,5,4,6,8],[8,6,4,5,3,7,10,9,11,1,0,2],[2,0,1,11,9,10,7,3,5,4,6,8,12],[12,8,6,4,5,3,7,10,9,11,1,0,2,13],[13,2,0,1,11,9,10,7,3,5,4,6,8,12,14],[14,12,8,6,4,5,3,7,10,9,11,1,0,2,13,15],[15,13,2,0,1,11,9,10,7,3,5,4,6,8,12,14,16],[16,14,15,17,12,8,6,4,5,3,7,10,9,11,1,0,2,13],[13,2,0,1,11,9,10,7,3,5,4,6,8,12,17,15,14,16,18],[18,16,14,15,17,12,8,6,4,5,3,7,10,9,11,1,0,2,13,19],[19,13,2,0,1,11,9,10,7,3,5,4,6,8,12,17,15,14,16,18,20],[20,18,16,14,15,17,12,8,6,4,5,3,7,10,9,11,1,0,2,13,19,21],[21,19,13,2,0,1,11,9,10,7,3,5,4,6,8,12,17,15,14,16,18,20,22],[22,20,21,23,18,16,14,15,17,12,8,6,4,5,3,7,10,9,11,1,0,2,13,19],[19,13,2,0,1,11,9,10,7,3,5,4,6,8,12,17,15,14,16,18,23,21,20,22,24],[24,22,20,21,23,18,16,14,15,17,12,8,6,4,5,3,7,10,9,11,1,0,2,13,19,25],[25,19,13,2,0,1,11,9,10,7,3,5,4,6,8,12,17,15,14,16,18,23,21,20,22,24,26],[26,24,22,20,21,23,18,16,14,15,17,12,8,6,4,5,3,7,10,9,11,1,0,2,13,19,25,27],[27,25,19,13,2,0,1,11,9,10,7,3,5,4,6,8,12,17,15,14,16,18,23,21,20,22,24,26,28],[28,26,27,29,24,22,20,21,23,18,16,14,15,17,12,8,6,4,5,3,7,10,9,11,1,0,2,13,19,25],[25,19,13,2,0,1,11,9,10,7,3,5,4,6,8,12,17,15,14,16,18,23,21,20,22,24,29,27,26,28,30],[30,28,26,27,29,24,22,20,21,23,18,16,14,15,17,12,8,6,4,5,3,7,10,9,11,1,0,2,13,19,25,31],[31,25,19,13,2,0,1,11,9,10,7,3,5,4,6,8,12,17,15,14,16,18,23,21,20,22,24,29,27,26,28,30,32],[32,30,28,26,27,29,24,22,20,21,23,18,16,14,15,17,12,8,6,4,5,3,7,10,9,11,1,0,2,13,19,25,31,33],[33,31,25,19,13,2,0,1,11,9,10,7,3,5,4,6,8,12,17,15,14,16,18,23,21,20,22,24,29,27,26,28,30,32,34],[34,32,33,35,30,28,26,27,29,24,22,20,21,23,18,16,14,15,17,12,8,6,4,5,3,7,10,9,11,1,0,2,13,19,25,31],[31,25,19,13,2,0,1,11,9,10,7,3,5,4,6,8,12,17,15,14,16,18,23,21,20,22,24,29,27,26,28,30,35,33,32,34,36],[36,34,32,33,35,30,28,26,27,29,24,22,20,21,23,18,16,14,15,17,12,8,6,4,5,3,7,10,9,11,1,0,2,13,19,25,31,37],[37,31,25,19,13,2,0,1,11,9,10,7,3,5,4,6,8,12,17,15,14,16,18,23,21,20,22,24,29,27,26,28,30,35,33,32,34,36,38],[38,36,34,32,33,35,30,28,26,27,29,24,22,20,21,23,18,16,14,15,17,12,8,6,4,5,3,7,10,9,11,1,0,2,13,19,25,31,37,39],[39,37,31,25,19,13,2,0,1,11,9,10,7,3,5,4,6,8,12,17,15,14,16,18,23,21,20,22,24,29,27,26,28,30,35,33,32,34,36,38,40],[40,38,39,41,36,34,32,33,35,30,28,26,27,29,24,22,20,21,23,18,16,14,15,17,12,8,6,4,5,3,7,10,9,11,1,0,2,13,19,25,31,37]]) (by kernel_rfl) (by kernel_rfl) ?_)))))))
  refine mD (tN i) rfl rfl (fD (B.gtr (c:=(decide (0<i))) (tv (tN i) rfl) (VEv.int .i64 0) (by first | exact hw _ (List.mem_of_getElem? hx1) | (exact Zg (by omega)))) rfl rfl (mD (tB (decide (0<i))) rfl rfl ?_))
  refine gw (0<i) (fun fhg17_1=> ?_) fun fhg17_1=> ?_
  ·refine VRunD.free rfl (VWant.on rfl rfl (dy fhg17_1)) rfl (OF.move (tv (rd 4 Qa a) rfl)) ?_
   refine VRunD.free rfl (VWant.on rfl rfl (dy fhg17_1)) rfl (OF.move (tv (tN i) rfl)) (VRunD.free rfl (VWant.on rfl rfl (dy fhg17_1)) rfl (B.sub (n:=((i - 1:Nat):Int)) (tv (tN i) rfl) (VEv.int .i64 1) (by first | exact hw _ (List.mem_of_getElem? hx1) | rfl | (rw [Q1 (by omega)];omega) | (rw [Q1 (by omega)];done))) ?_)
   obtain ⟨x2,hx2⟩:∃x,a[i - 1]? =some x:=⟨_,List.getElem?_eq_getElem (by first | exact hw _ (List.mem_of_getElem? hx1) | omega)⟩
   refine VRunD.free rfl (VWant.on rfl rfl (dy fhg17_1)) rfl (OF.indexAddrR (row:=(Qa false x2)) (i:=i - 1) (tv (rd 4 Qa a) rfl) (tv (tN (i - 1)) rfl) rfl (QJ _ hx2) U30 Zd Z2) (VRunD.free rfl (VWant.on rfl rfl (dy fhg17_1)) rfl (B.fieldAddrR (us:=(Qa false x2)) (tv (T.rp (Qa false x2)) rfl) (lb rfl) QV rfl) (VRunD.look rfl (VWant.on rfl rfl (dy fhg17_1)) rfl (OL.loadR1 (t:=(tI x2.Cell)) (tv (T.rp (Qa false x2)) rfl) rfl ZD) (VRunD.free rfl (VWant.on rfl rfl (dy fhg17_1)) rfl (OF.fieldAddrO (tv (T.op 0 0) rfl) QV) (VRunD.look rfl (VWant.on rfl rfl (dy fhg17_1)) rfl (OL.loadO1 (t:=(tI x1.Cell)) (tv (T.op 0 0) rfl) rfl rfl ZD) (VRunD.free rfl (VWant.on rfl rfl (dy fhg17_1)) rfl (xge (tv (tI x2.Cell) rfl) (tv (tI x1.Cell) rfl)) (fD (OF.pickT (VEv.tmpB rfl (dy fhg17_1)) (tv (tB (decide (x1.Cell≤x2.Cell))) rfl)) rfl rfl (mD (tB (decide (x1.Cell≤x2.Cell))) rfl rfl ?_)))))))
   refine gw (x1.Cell≤x2.Cell) (fun fhg28_2=> ?_) fun fhg28_2=> ?_
   ·refine oD rfl rfl (dy fhg28_2) rfl ?_
    refine oD rfl rfl (dy fhg28_2) rfl (oD rfl rfl (dy fhg28_2) rfl (oD rfl rfl (dy fhg28_2) rfl (fD (OF.pickT (VEv.tmpB rfl (dy fhg28_2)) (VEv.bool true)) rfl rfl (mD (tB true) rfl rfl (VRunD.off rfl (VWant.not (b:=true) rfl rfl rfl) (VRunD.off rfl (VWant.not (b:=true) rfl rfl rfl) (VRunD.off rfl (VWant.not (b:=true) rfl rfl rfl) (VRunD.off rfl (VWant.not (b:=true) rfl rfl rfl) (fD (OF.pickT (tv (tB true) rfl) (VEv.bool true)) rfl rfl (mD (tB true) rfl rfl (VRunD.off rfl (VWant.not (b:=true) rfl rfl rfl) ?_)))))))))))
    refine VRunD.off rfl (VWant.not (b:=true) rfl rfl rfl) (VRunD.off rfl (VWant.not (b:=true) rfl rfl rfl) (VRunD.off rfl (VWant.not (b:=true) rfl rfl rfl) (fD (OF.pickT (tv (tB true) rfl) (VEv.bool true)) rfl rfl (mD (tB true) rfl rfl (VRunD.off rfl (VWant.not (b:=true) rfl rfl rfl) (VRunD.off rfl (VWant.not (b:=true) rfl rfl rfl) (VRunD.off rfl (VWant.not (b:=true) rfl rfl rfl) (VRunD.off rfl (VWant.not (b:=true) rfl rfl rfl) (fD (OF.pickT (tv (tB true) rfl) (VEv.bool true)) rfl rfl (mD (tB true) rfl rfl (VRunD.off rfl (VWant.not (b:=true) rfl rfl rfl) ?_)))))))))))
    refine VRunD.off rfl (VWant.not (b:=true) rfl rfl rfl) (VRunD.off rfl (VWant.not (b:=true) rfl rfl rfl) (VRunD.off rfl (VWant.not (b:=true) rfl rfl rfl) (fD (OF.pickT (tv (tB true) rfl) (VEv.bool true)) rfl rfl (VRunD.nil (tn (ct rfl (sr (fO (OF.assign (VEv.bool false)) (nt (rt (vinB.r ?_)))))))))))
    refine tr (tr (vinB.r (tr (vb (b':=false) rfl ?_))))
    first | (symm;rw [decide_eq_false_iff_not];rintro ⟨h2,_⟩;omega) | (symm;rw [decide_eq_true_eq];exact ⟨by omega,Qs hI' fhc1⟩) | (symm;rw [decide_eq_false_iff_not];rintro ⟨_,h2⟩;obtain ⟨y,hy,h3,h4,h5,h6,h7,h8⟩:=h2 i fhc1;obtain rfl:=Qf hx1 hy;first | omega | contradiction | (obtain ⟨z,hz,h9⟩:=h8 (by omega);obtain rfl:=Qf hx2 hz;omega) | (simp_all;done))
   refine VRunD.free rfl (VWant.on rfl rfl (dz fhg28_2)) rfl (OF.fieldAddrO (tv (T.op 0 0) rfl) QV) (VRunD.look rfl (VWant.on rfl rfl (dz fhg28_2)) rfl (OL.loadO1 (t:=(tI x1.Cell)) (tv (T.op 0 0) rfl) rfl rfl ZD) (VRunD.quiet (bi:= [14,12,8,6,4,5,3,7,10,9,11,1,0,2,13,15]) rfl (VWant.on rfl rfl (dz fhg28_2)) rfl rfl rfl bn (cS (vc (tv (tI x1.Cell) rfl) (vc (VEv.int .i64 0) (vc (VEv.int .i64 35) vn))) (Yl rfl) (Qr (n+1) x1.Cell 0 35) rfl rfl) (VRunD.free rfl (VWant.on rfl rfl (dz fhg28_2)) rfl (Q4 (tv (tB (decide (0≤x1.Cell∧x1.Cell≤35))) rfl)) (fD (OF.pickF (VEv.tmpB rfl (dz fhg28_2)) (tv (tB (!(decide (0≤x1.Cell∧x1.Cell≤35)))) rfl)) rfl rfl (mD (tB (!(decide (0≤x1.Cell∧x1.Cell≤35)))) rfl rfl ?_)))))
   refine gn (0≤x1.Cell∧x1.Cell≤35) (fun fhg34_3=> ?_) fun fhg34_3=> ?_
   ·refine oD rfl rfl (ny fhg34_3) rfl ?_
    refine oD rfl rfl (ny fhg34_3) rfl (oD rfl rfl (ny fhg34_3) rfl (oD rfl rfl (ny fhg34_3) rfl (fD (OF.pickT (VEv.tmpB rfl (ny fhg34_3)) (VEv.bool true)) rfl rfl (mD (tB true) rfl rfl (VRunD.off rfl (VWant.not (b:=true) rfl rfl rfl) (VRunD.off rfl (VWant.not (b:=true) rfl rfl rfl) (VRunD.off rfl (VWant.not (b:=true) rfl rfl rfl) (VRunD.off rfl (VWant.not (b:=true) rfl rfl rfl) (fD (OF.pickT (tv (tB true) rfl) (VEv.bool true)) rfl rfl (mD (tB true) rfl rfl (VRunD.off rfl (VWant.not (b:=true) rfl rfl rfl) ?_)))))))))))
    refine VRunD.off rfl (VWant.not (b:=true) rfl rfl rfl) (VRunD.off rfl (VWant.not (b:=true) rfl rfl rfl) (VRunD.off rfl (VWant.not (b:=true) rfl rfl rfl) (fD (OF.pickT (tv (tB true) rfl) (VEv.bool true)) rfl rfl (mD (tB true) rfl rfl (VRunD.off rfl (VWant.not (b:=true) rfl rfl rfl) (VRunD.off rfl (VWant.not (b:=true) rfl rfl rfl) (VRunD.off rfl (VWant.not (b:=true) rfl rfl rfl) (VRunD.off rfl (VWant.not (b:=true) rfl rfl rfl) (fD (OF.pickT (tv (tB true) rfl) (VEv.bool true)) rfl rfl (VRunD.nil (tn ?_)))))))))))
    refine ct rfl (sr (fO (OF.assign (VEv.bool false)) (nt (rt (vinB.r (tr (tr (vinB.r (tr (vb (b':=false) rfl ?_))))))))))
    first | (symm;rw [decide_eq_false_iff_not];rintro ⟨h2,_⟩;omega) | (symm;rw [decide_eq_true_eq];exact ⟨by omega,Qs hI' fhc1⟩) | (symm;rw [decide_eq_false_iff_not];rintro ⟨_,h2⟩;obtain ⟨y,hy,h3,h4,h5,h6,h7,h8⟩:=h2 i fhc1;obtain rfl:=Qf hx1 hy;first | omega | contradiction | (obtain ⟨z,hz,h9⟩:=h8 (by omega);obtain rfl:=Qf hx2 hz;omega) | (simp_all;done))
   refine VRunD.free rfl (VWant.on rfl rfl (nz fhg34_3)) rfl (OF.fieldAddrO (tv (T.op 0 0) rfl) Q9) (VRunD.look rfl (VWant.on rfl rfl (nz fhg34_3)) rfl (OL.loadO1 (t:=(tS x1.Letter)) (tv (T.op 0 1) rfl) rfl rfl Yv) (VRunD.look rfl (VWant.on rfl rfl (nz fhg34_3)) rfl (B.lenS (tv (tS x1.Letter) rfl) U9) (VRunD.free rfl (VWant.on rfl rfl (nz fhg34_3)) rfl (B.neq (c:=(!(decide (x1.Letter.size=1)))) (tv (tN x1.Letter.size) rfl) (VEv.int .i64 1) (by first | exact hw _ (List.mem_of_getElem? hx1) | (exact Qcd (by omega)))) (fD (OF.pickF (VEv.tmpB rfl (nz fhg34_3)) (tv (tB (!(decide (x1.Letter.size=1)))) rfl)) rfl rfl (mD (tB (!(decide (x1.Letter.size=1)))) rfl rfl ?_)))))
   refine gn (x1.Letter.size=1) (fun fhg40_4=> ?_) fun fhg40_4=> ?_
   ·refine oD rfl rfl (ny fhg40_4) rfl ?_
    refine oD rfl rfl (ny fhg40_4) rfl (oD rfl rfl (ny fhg40_4) rfl (oD rfl rfl (ny fhg40_4) rfl (fD (OF.pickT (VEv.tmpB rfl (ny fhg40_4)) (VEv.bool true)) rfl rfl (mD (tB true) rfl rfl (VRunD.off rfl (VWant.not (b:=true) rfl rfl rfl) (VRunD.off rfl (VWant.not (b:=true) rfl rfl rfl) (VRunD.off rfl (VWant.not (b:=true) rfl rfl rfl) (VRunD.off rfl (VWant.not (b:=true) rfl rfl rfl) (fD (OF.pickT (tv (tB true) rfl) (VEv.bool true)) rfl rfl (mD (tB true) rfl rfl (VRunD.off rfl (VWant.not (b:=true) rfl rfl rfl) ?_)))))))))))
    refine VRunD.off rfl (VWant.not (b:=true) rfl rfl rfl) (VRunD.off rfl (VWant.not (b:=true) rfl rfl rfl) (VRunD.off rfl (VWant.not (b:=true) rfl rfl rfl) (fD (OF.pickT (tv (tB true) rfl) (VEv.bool true)) rfl rfl (VRunD.nil (tn (ct rfl (sr (fO (OF.assign (VEv.bool false)) (nt (rt (vinB.r ?_)))))))))))
    refine tr (tr (vinB.r (tr (vb (b':=false) rfl ?_))))
    first | (symm;rw [decide_eq_false_iff_not];rintro ⟨h2,_⟩;omega) | (symm;rw [decide_eq_true_eq];exact ⟨by omega,Qs hI' fhc1⟩) | (symm;rw [decide_eq_false_iff_not];rintro ⟨_,h2⟩;obtain ⟨y,hy,h3,h4,h5,h6,h7,h8⟩:=h2 i fhc1;obtain rfl:=Qf hx1 hy;first | omega | contradiction | (obtain ⟨z,hz,h9⟩:=h8 (by omega);obtain rfl:=Qf hx2 hz;omega) | (simp_all;done))
   refine VRunD.free rfl (VWant.on rfl rfl (nz fhg40_4)) rfl (OF.fieldAddrO (tv (T.op 0 0) rfl) Q9) (VRunD.look rfl (VWant.on rfl rfl (nz fhg40_4)) rfl (OL.loadO1 (t:=(tS x1.Letter)) (tv (T.op 0 1) rfl) rfl rfl Yv) (VRunD.quiet (bi:= [26,24,22,20,21,23,18,16,14,15,17,12,8,6,4,5,3,7,10,9,11,1,0,2,13,19,25,27]) rfl (VWant.on rfl rfl (nz fhg40_4)) rfl rfl rfl bn (cS (vc (tv (tS x1.Letter) rfl) vn) (Yl rfl) (ZI (n+0) x1.Letter (by first | exact hw _ (List.mem_of_getElem? hx1) | assumption | omega)) rfl rfl) (VRunD.free rfl (VWant.on rfl rfl (nz fhg40_4)) rfl (Q4 (tv (tB (decide (QY x1.Letter))) rfl)) (fD (OF.pickF (VEv.tmpB rfl (nz fhg40_4)) (tv (tB (!(decide (QY x1.Letter)))) rfl)) rfl rfl (mD (tB (!(decide (QY x1.Letter)))) rfl rfl ?_)))))
   refine gn (QY x1.Letter) (fun fhg46_5=> ?_) fun fhg46_5=> ?_
   ·refine oD rfl rfl (ny fhg46_5) rfl ?_
    refine oD rfl rfl (ny fhg46_5) rfl (oD rfl rfl (ny fhg46_5) rfl (oD rfl rfl (ny fhg46_5) rfl (fD (OF.pickT (VEv.tmpB rfl (ny fhg46_5)) (VEv.bool true)) rfl rfl (mD (tB true) rfl rfl (VRunD.off rfl (VWant.not (b:=true) rfl rfl rfl) (VRunD.off rfl (VWant.not (b:=true) rfl rfl rfl) (VRunD.off rfl (VWant.not (b:=true) rfl rfl rfl) (VRunD.off rfl (VWant.not (b:=true) rfl rfl rfl) (fD (OF.pickT (tv (tB true) rfl) (VEv.bool true)) rfl rfl (VRunD.nil (tn ?_)))))))))))
    refine ct rfl (sr (fO (OF.assign (VEv.bool false)) (nt (rt (vinB.r (tr (tr (vinB.r (tr (vb (b':=false) rfl ?_))))))))))
    first | (symm;rw [decide_eq_false_iff_not];rintro ⟨h2,_⟩;omega) | (symm;rw [decide_eq_true_eq];exact ⟨by omega,Qs hI' fhc1⟩) | (symm;rw [decide_eq_false_iff_not];rintro ⟨_,h2⟩;obtain ⟨y,hy,h3,h4,h5,h6,h7,h8⟩:=h2 i fhc1;obtain rfl:=Qf hx1 hy;first | omega | contradiction | (obtain ⟨z,hz,h9⟩:=h8 (by omega);obtain rfl:=Qf hx2 hz;omega) | (simp_all;done))
   refine VRunD.free rfl (VWant.on rfl rfl (nz fhg46_5)) rfl (OF.fieldAddrO (tv (T.op 0 0) rfl) YD) (VRunD.look rfl (VWant.on rfl rfl (nz fhg46_5)) rfl (OL.loadO1 (t:=(tI x1.Tick)) (tv (T.op 0 2) rfl) rfl rfl ZD) (VRunD.quiet (bi:= [32,30,28,26,27,29,24,22,20,21,23,18,16,14,15,17,12,8,6,4,5,3,7,10,9,11,1,0,2,13,19,25,31,33]) rfl (VWant.on rfl rfl (nz fhg46_5)) rfl rfl rfl bn (cS (vc (tv (tI x1.Tick) rfl) (vc (VEv.int .i64 0) (vc (VEv.int .i64 1000) vn))) (Yl rfl) (Qr (n+1) x1.Tick 0 1000) rfl rfl) (VRunD.free rfl (VWant.on rfl rfl (nz fhg46_5)) rfl (Q4 (tv (tB (decide (0≤x1.Tick∧x1.Tick≤1000))) rfl)) (fD (OF.pickF (VEv.tmpB rfl (nz fhg46_5)) (tv (tB (!(decide (0≤x1.Tick∧x1.Tick≤1000)))) rfl)) rfl rfl (mD (tB (!(decide (0≤x1.Tick∧x1.Tick≤1000)))) rfl rfl ?_)))))
   refine gn (0≤x1.Tick∧x1.Tick≤1000) (fun fhg52_6=> ?_) fun fhg52_6=> ?_
   ·refine oD rfl rfl (ny fhg52_6) rfl ?_
    refine oD rfl rfl (ny fhg52_6) rfl (oD rfl rfl (ny fhg52_6) rfl (oD rfl rfl (ny fhg52_6) rfl (fD (OF.pickT (VEv.tmpB rfl (ny fhg52_6)) (VEv.bool true)) rfl rfl (VRunD.nil (tn (ct rfl (sr (fO (OF.assign (VEv.bool false)) (nt (rt (vinB.r ?_)))))))))))
    refine tr (tr (vinB.r (tr (vb (b':=false) rfl ?_))))
    first | (symm;rw [decide_eq_false_iff_not];rintro ⟨h2,_⟩;omega) | (symm;rw [decide_eq_true_eq];exact ⟨by omega,Qs hI' fhc1⟩) | (symm;rw [decide_eq_false_iff_not];rintro ⟨_,h2⟩;obtain ⟨y,hy,h3,h4,h5,h6,h7,h8⟩:=h2 i fhc1;obtain rfl:=Qf hx1 hy;first | omega | contradiction | (obtain ⟨z,hz,h9⟩:=h8 (by omega);obtain rfl:=Qf hx2 hz;omega) | (simp_all;done))
   refine VRunD.free rfl (VWant.on rfl rfl (nz fhg52_6)) rfl (OF.fieldAddrO (tv (T.op 0 0) rfl) Yz) (VRunD.look rfl (VWant.on rfl rfl (nz fhg52_6)) rfl (OL.loadO1 (t:=(tI x1.Who)) (tv (T.op 0 3) rfl) rfl rfl ZD) (VRunD.quiet (bi:= [38,36,34,32,33,35,30,28,26,27,29,24,22,20,21,23,18,16,14,15,17,12,8,6,4,5,3,7,10,9,11,1,0,2,13,19,25,31,37,39]) rfl (VWant.on rfl rfl (nz fhg52_6)) rfl rfl rfl bn (cS (vc (tv (tI x1.Who) rfl) (vc (VEv.int .i64 1) (vc (VEv.int .i64 9) vn))) (Yl rfl) (Qr (n+1) x1.Who 1 9) rfl rfl) (VRunD.free rfl (VWant.on rfl rfl (nz fhg52_6)) rfl (Q4 (tv (tB (decide (1≤x1.Who∧x1.Who≤9))) rfl)) (fD (OF.pickF (VEv.tmpB rfl (nz fhg52_6)) (tv (tB (!(decide (1≤x1.Who∧x1.Who≤9)))) rfl)) rfl rfl (VRunD.nil (tn ?_))))))
   refine cn (1≤x1.Who∧x1.Who≤9) rfl (fun fhc2=> ?_) fun fhc2=> ?_
   ·refine sr ?_
    refine fO (OF.assign (VEv.bool false)) (nt (rt (vinB.r (tr (tr (vinB.r (tr (vb (b':=false) rfl ?_))))))))
    first | (symm;rw [decide_eq_false_iff_not];rintro ⟨h2,_⟩;omega) | (symm;rw [decide_eq_true_eq];exact ⟨by omega,Qs hI' fhc1⟩) | (symm;rw [decide_eq_false_iff_not];rintro ⟨_,h2⟩;obtain ⟨y,hy,h3,h4,h5,h6,h7,h8⟩:=h2 i fhc1;obtain rfl:=Qf hx1 hy;first | omega | contradiction | (obtain ⟨z,hz,h9⟩:=h8 (by omega);obtain rfl:=Qf hx2 hz;omega) | (simp_all;done))
   refine sk (vinB.n (tn (VRun.region (fO (Zv (tv (tN i) rfl) (VEv.int .i64 1) (by first | exact hw _ (List.mem_of_getElem? hx1) | omega)) (mO (tN (i+1)) rfl (VRunO.nil (tn ?_)))))))
   refine ⟨(i+1:Nat),?_,?_,Wk.mk (fun k=>k) ?_ ?_ ?_⟩
   ·refine QS hI0 fhc1 ⟨x1,hx1,by omega,by omega,by assumption,by omega,by omega,fun h0=> ?_⟩
    first | (exact absurd h0 (by omega)) | (exact ⟨x2,hx2,by omega⟩)
   ·first | omega | (simp only [];omega) | (show _<_;omega) | (simp;omega)
   ·exact (b2 (b2 (b2 (b2 bn))))
   ·exact bn
   ·exact nd rfl
  refine oD rfl rfl (dz fhg17_1) rfl (oD rfl rfl (dz fhg17_1) rfl (oD rfl rfl (dz fhg17_1) rfl (oD rfl rfl (dz fhg17_1) rfl (oD rfl rfl (dz fhg17_1) rfl (oD rfl rfl (dz fhg17_1) rfl (oD rfl rfl (dz fhg17_1) rfl (oD rfl rfl (dz fhg17_1) rfl (oD rfl rfl (dz fhg17_1) rfl (fD (OF.pickF (VEv.tmpB rfl (dz fhg17_1)) (VEv.bool false)) rfl rfl (mD (tB false) rfl rfl (VRunD.free rfl (VWant.on (b:=false) rfl rfl rfl) rfl (OF.fieldAddrO (tv (T.op 0 0) rfl) QV) ?_)))))))))))
  refine VRunD.look rfl (VWant.on (b:=false) rfl rfl rfl) rfl (OL.loadO1 (t:=(tI x1.Cell)) (tv (T.op 0 0) rfl) rfl rfl ZD) (VRunD.quiet (bi:= [14,12,8,6,4,5,3,7,10,9,11,1,0,2,13,15]) rfl (VWant.on (b:=false) rfl rfl rfl) rfl rfl rfl bn (cS (vc (tv (tI x1.Cell) rfl) (vc (VEv.int .i64 0) (vc (VEv.int .i64 35) vn))) (Yl rfl) (Qr (n+1) x1.Cell 0 35) rfl rfl) (VRunD.free rfl (VWant.on (b:=false) rfl rfl rfl) rfl (Q4 (tv (tB (decide (0≤x1.Cell∧x1.Cell≤35))) rfl)) (fD (OF.pickF (tv (tB false) rfl) (tv (tB (!(decide (0≤x1.Cell∧x1.Cell≤35)))) rfl)) rfl rfl (mD (tB (!(decide (0≤x1.Cell∧x1.Cell≤35)))) rfl rfl ?_))))
  refine gn (0≤x1.Cell∧x1.Cell≤35) (fun fhg34_7=> ?_) fun fhg34_7=> ?_
  ·refine oD rfl rfl (ny fhg34_7) rfl ?_
   refine oD rfl rfl (ny fhg34_7) rfl (oD rfl rfl (ny fhg34_7) rfl (oD rfl rfl (ny fhg34_7) rfl (fD (OF.pickT (VEv.tmpB rfl (ny fhg34_7)) (VEv.bool true)) rfl rfl (mD (tB true) rfl rfl (VRunD.off rfl (VWant.not (b:=true) rfl rfl rfl) (VRunD.off rfl (VWant.not (b:=true) rfl rfl rfl) (VRunD.off rfl (VWant.not (b:=true) rfl rfl rfl) (VRunD.off rfl (VWant.not (b:=true) rfl rfl rfl) (fD (OF.pickT (tv (tB true) rfl) (VEv.bool true)) rfl rfl (mD (tB true) rfl rfl (VRunD.off rfl (VWant.not (b:=true) rfl rfl rfl) ?_)))))))))))
   refine VRunD.off rfl (VWant.not (b:=true) rfl rfl rfl) (VRunD.off rfl (VWant.not (b:=true) rfl rfl rfl) (VRunD.off rfl (VWant.not (b:=true) rfl rfl rfl) (fD (OF.pickT (tv (tB true) rfl) (VEv.bool true)) rfl rfl (mD (tB true) rfl rfl (VRunD.off rfl (VWant.not (b:=true) rfl rfl rfl) (VRunD.off rfl (VWant.not (b:=true) rfl rfl rfl) (VRunD.off rfl (VWant.not (b:=true) rfl rfl rfl) (VRunD.off rfl (VWant.not (b:=true) rfl rfl rfl) (fD (OF.pickT (tv (tB true) rfl) (VEv.bool true)) rfl rfl (VRunD.nil (tn ?_)))))))))))
   refine ct rfl (sr (fO (OF.assign (VEv.bool false)) (nt (rt (vinB.r (tr (tr (vinB.r (tr (vb (b':=false) rfl ?_))))))))))
   first | (symm;rw [decide_eq_false_iff_not];rintro ⟨h2,_⟩;omega) | (symm;rw [decide_eq_true_eq];exact ⟨by omega,Qs hI' fhc1⟩) | (symm;rw [decide_eq_false_iff_not];rintro ⟨_,h2⟩;obtain ⟨y,hy,h3,h4,h5,h6,h7,h8⟩:=h2 i fhc1;obtain rfl:=Qf hx1 hy;first | omega | contradiction | (obtain ⟨z,hz,h9⟩:=h8 (by omega);obtain rfl:=Qf hx2 hz;omega) | (simp_all;done))
  refine VRunD.free rfl (VWant.on rfl rfl (nz fhg34_7)) rfl (OF.fieldAddrO (tv (T.op 0 0) rfl) Q9) (VRunD.look rfl (VWant.on rfl rfl (nz fhg34_7)) rfl (OL.loadO1 (t:=(tS x1.Letter)) (tv (T.op 0 1) rfl) rfl rfl Yv) (VRunD.look rfl (VWant.on rfl rfl (nz fhg34_7)) rfl (B.lenS (tv (tS x1.Letter) rfl) U9) (VRunD.free rfl (VWant.on rfl rfl (nz fhg34_7)) rfl (B.neq (c:=(!(decide (x1.Letter.size=1)))) (tv (tN x1.Letter.size) rfl) (VEv.int .i64 1) (by first | exact hw _ (List.mem_of_getElem? hx1) | (exact Qcd (by omega)))) (fD (OF.pickF (VEv.tmpB rfl (nz fhg34_7)) (tv (tB (!(decide (x1.Letter.size=1)))) rfl)) rfl rfl (mD (tB (!(decide (x1.Letter.size=1)))) rfl rfl ?_)))))
  refine gn (x1.Letter.size=1) (fun fhg40_8=> ?_) fun fhg40_8=> ?_
  ·refine oD rfl rfl (ny fhg40_8) rfl ?_
   refine oD rfl rfl (ny fhg40_8) rfl (oD rfl rfl (ny fhg40_8) rfl (oD rfl rfl (ny fhg40_8) rfl (fD (OF.pickT (VEv.tmpB rfl (ny fhg40_8)) (VEv.bool true)) rfl rfl (mD (tB true) rfl rfl (VRunD.off rfl (VWant.not (b:=true) rfl rfl rfl) (VRunD.off rfl (VWant.not (b:=true) rfl rfl rfl) (VRunD.off rfl (VWant.not (b:=true) rfl rfl rfl) (VRunD.off rfl (VWant.not (b:=true) rfl rfl rfl) (fD (OF.pickT (tv (tB true) rfl) (VEv.bool true)) rfl rfl (mD (tB true) rfl rfl (VRunD.off rfl (VWant.not (b:=true) rfl rfl rfl) ?_)))))))))))
   refine VRunD.off rfl (VWant.not (b:=true) rfl rfl rfl) (VRunD.off rfl (VWant.not (b:=true) rfl rfl rfl) (VRunD.off rfl (VWant.not (b:=true) rfl rfl rfl) (fD (OF.pickT (tv (tB true) rfl) (VEv.bool true)) rfl rfl (VRunD.nil (tn (ct rfl (sr (fO (OF.assign (VEv.bool false)) (nt (rt (vinB.r ?_)))))))))))
   refine tr (tr (vinB.r (tr (vb (b':=false) rfl ?_))))
   first | (symm;rw [decide_eq_false_iff_not];rintro ⟨h2,_⟩;omega) | (symm;rw [decide_eq_true_eq];exact ⟨by omega,Qs hI' fhc1⟩) | (symm;rw [decide_eq_false_iff_not];rintro ⟨_,h2⟩;obtain ⟨y,hy,h3,h4,h5,h6,h7,h8⟩:=h2 i fhc1;obtain rfl:=Qf hx1 hy;first | omega | contradiction | (obtain ⟨z,hz,h9⟩:=h8 (by omega);obtain rfl:=Qf hx2 hz;omega) | (simp_all;done))
  refine VRunD.free rfl (VWant.on rfl rfl (nz fhg40_8)) rfl (OF.fieldAddrO (tv (T.op 0 0) rfl) Q9) (VRunD.look rfl (VWant.on rfl rfl (nz fhg40_8)) rfl (OL.loadO1 (t:=(tS x1.Letter)) (tv (T.op 0 1) rfl) rfl rfl Yv) (VRunD.quiet (bi:= [26,24,22,20,21,23,18,16,14,15,17,12,8,6,4,5,3,7,10,9,11,1,0,2,13,19,25,27]) rfl (VWant.on rfl rfl (nz fhg40_8)) rfl rfl rfl bn (cS (vc (tv (tS x1.Letter) rfl) vn) (Yl rfl) (ZI (n+0) x1.Letter (by first | exact hw _ (List.mem_of_getElem? hx1) | assumption | omega)) rfl rfl) (VRunD.free rfl (VWant.on rfl rfl (nz fhg40_8)) rfl (Q4 (tv (tB (decide (QY x1.Letter))) rfl)) (fD (OF.pickF (VEv.tmpB rfl (nz fhg40_8)) (tv (tB (!(decide (QY x1.Letter)))) rfl)) rfl rfl (mD (tB (!(decide (QY x1.Letter)))) rfl rfl ?_)))))
  refine gn (QY x1.Letter) (fun fhg46_9=> ?_) fun fhg46_9=> ?_
  ·refine oD rfl rfl (ny fhg46_9) rfl ?_
   refine oD rfl rfl (ny fhg46_9) rfl (oD rfl rfl (ny fhg46_9) rfl (oD rfl rfl (ny fhg46_9) rfl (fD (OF.pickT (VEv.tmpB rfl (ny fhg46_9)) (VEv.bool true)) rfl rfl (mD (tB true) rfl rfl (VRunD.off rfl (VWant.not (b:=true) rfl rfl rfl) (VRunD.off rfl (VWant.not (b:=true) rfl rfl rfl) (VRunD.off rfl (VWant.not (b:=true) rfl rfl rfl) (VRunD.off rfl (VWant.not (b:=true) rfl rfl rfl) (fD (OF.pickT (tv (tB true) rfl) (VEv.bool true)) rfl rfl (VRunD.nil (tn ?_)))))))))))
   refine ct rfl (sr (fO (OF.assign (VEv.bool false)) (nt (rt (vinB.r (tr (tr (vinB.r (tr (vb (b':=false) rfl ?_))))))))))
   first | (symm;rw [decide_eq_false_iff_not];rintro ⟨h2,_⟩;omega) | (symm;rw [decide_eq_true_eq];exact ⟨by omega,Qs hI' fhc1⟩) | (symm;rw [decide_eq_false_iff_not];rintro ⟨_,h2⟩;obtain ⟨y,hy,h3,h4,h5,h6,h7,h8⟩:=h2 i fhc1;obtain rfl:=Qf hx1 hy;first | omega | contradiction | (obtain ⟨z,hz,h9⟩:=h8 (by omega);obtain rfl:=Qf hx2 hz;omega) | (simp_all;done))
  refine VRunD.free rfl (VWant.on rfl rfl (nz fhg46_9)) rfl (OF.fieldAddrO (tv (T.op 0 0) rfl) YD) (VRunD.look rfl (VWant.on rfl rfl (nz fhg46_9)) rfl (OL.loadO1 (t:=(tI x1.Tick)) (tv (T.op 0 2) rfl) rfl rfl ZD) (VRunD.quiet (bi:= [32,30,28,26,27,29,24,22,20,21,23,18,16,14,15,17,12,8,6,4,5,3,7,10,9,11,1,0,2,13,19,25,31,33]) rfl (VWant.on rfl rfl (nz fhg46_9)) rfl rfl rfl bn (cS (vc (tv (tI x1.Tick) rfl) (vc (VEv.int .i64 0) (vc (VEv.int .i64 1000) vn))) (Yl rfl) (Qr (n+1) x1.Tick 0 1000) rfl rfl) (VRunD.free rfl (VWant.on rfl rfl (nz fhg46_9)) rfl (Q4 (tv (tB (decide (0≤x1.Tick∧x1.Tick≤1000))) rfl)) (fD (OF.pickF (VEv.tmpB rfl (nz fhg46_9)) (tv (tB (!(decide (0≤x1.Tick∧x1.Tick≤1000)))) rfl)) rfl rfl (mD (tB (!(decide (0≤x1.Tick∧x1.Tick≤1000)))) rfl rfl ?_)))))
  refine gn (0≤x1.Tick∧x1.Tick≤1000) (fun fhg52_10=> ?_) fun fhg52_10=> ?_
  ·refine oD rfl rfl (ny fhg52_10) rfl ?_
   refine oD rfl rfl (ny fhg52_10) rfl (oD rfl rfl (ny fhg52_10) rfl (oD rfl rfl (ny fhg52_10) rfl (fD (OF.pickT (VEv.tmpB rfl (ny fhg52_10)) (VEv.bool true)) rfl rfl (VRunD.nil (tn (ct rfl (sr (fO (OF.assign (VEv.bool false)) (nt (rt (vinB.r ?_)))))))))))
   refine tr (tr (vinB.r (tr (vb (b':=false) rfl ?_))))
   first | (symm;rw [decide_eq_false_iff_not];rintro ⟨h2,_⟩;omega) | (symm;rw [decide_eq_true_eq];exact ⟨by omega,Qs hI' fhc1⟩) | (symm;rw [decide_eq_false_iff_not];rintro ⟨_,h2⟩;obtain ⟨y,hy,h3,h4,h5,h6,h7,h8⟩:=h2 i fhc1;obtain rfl:=Qf hx1 hy;first | omega | contradiction | (obtain ⟨z,hz,h9⟩:=h8 (by omega);obtain rfl:=Qf hx2 hz;omega) | (simp_all;done))
  refine VRunD.free rfl (VWant.on rfl rfl (nz fhg52_10)) rfl (OF.fieldAddrO (tv (T.op 0 0) rfl) Yz) (VRunD.look rfl (VWant.on rfl rfl (nz fhg52_10)) rfl (OL.loadO1 (t:=(tI x1.Who)) (tv (T.op 0 3) rfl) rfl rfl ZD) (VRunD.quiet (bi:= [38,36,34,32,33,35,30,28,26,27,29,24,22,20,21,23,18,16,14,15,17,12,8,6,4,5,3,7,10,9,11,1,0,2,13,19,25,31,37,39]) rfl (VWant.on rfl rfl (nz fhg52_10)) rfl rfl rfl bn (cS (vc (tv (tI x1.Who) rfl) (vc (VEv.int .i64 1) (vc (VEv.int .i64 9) vn))) (Yl rfl) (Qr (n+1) x1.Who 1 9) rfl rfl) (VRunD.free rfl (VWant.on rfl rfl (nz fhg52_10)) rfl (Q4 (tv (tB (decide (1≤x1.Who∧x1.Who≤9))) rfl)) (fD (OF.pickF (VEv.tmpB rfl (nz fhg52_10)) (tv (tB (!(decide (1≤x1.Who∧x1.Who≤9)))) rfl)) rfl rfl (VRunD.nil (tn ?_))))))
  refine cn (1≤x1.Who∧x1.Who≤9) rfl (fun fhc2=> ?_) fun fhc2=> ?_
  ·refine sr ?_
   refine fO (OF.assign (VEv.bool false)) (nt (rt (vinB.r (tr (tr (vinB.r (tr (vb (b':=false) rfl ?_))))))))
   first | (symm;rw [decide_eq_false_iff_not];rintro ⟨h2,_⟩;omega) | (symm;rw [decide_eq_true_eq];exact ⟨by omega,Qs hI' fhc1⟩) | (symm;rw [decide_eq_false_iff_not];rintro ⟨_,h2⟩;obtain ⟨y,hy,h3,h4,h5,h6,h7,h8⟩:=h2 i fhc1;obtain rfl:=Qf hx1 hy;first | omega | contradiction | (obtain ⟨z,hz,h9⟩:=h8 (by omega);obtain rfl:=Qf hx2 hz;omega) | (simp_all;done))
  refine sk (vinB.n (tn (VRun.region (fO (Zv (tv (tN i) rfl) (VEv.int .i64 1) (by first | exact hw _ (List.mem_of_getElem? hx1) | omega)) (mO (tN (i+1)) rfl (VRunO.nil (tn ?_)))))))
  refine ⟨(i+1:Nat),?_,?_,Wk.mk (fun k=>k) ?_ ?_ ?_⟩
  ·refine QS hI0 fhc1 ⟨x1,hx1,by omega,by omega,by assumption,by omega,by omega,fun h0=> ?_⟩
   first | (exact absurd h0 (by omega)) | (exact ⟨x2,hx2,by omega⟩)
  ·first | omega | (simp only [];omega) | (show _<_;omega) | (simp;omega)
  ·exact (b2 (b2 (b2 (b2 bn))))
  ·exact bn
  ·exact nd rfl
 refine VRun.exit (vthn.e (vthn.e (vinB.e (tn (sr (fO (OF.assign (VEv.bool true)) (nt (rt (vb (b':=true) rfl ?_)))))))))
 first | (symm;rw [decide_eq_false_iff_not];rintro ⟨h2,_⟩;omega) | (symm;rw [decide_eq_true_eq];exact ⟨by omega,Qs hI' fhc1⟩) | (symm;rw [decide_eq_false_iff_not];rintro ⟨_,h2⟩;obtain ⟨y,hy,h3,h4,h5,h6,h7,h8⟩:=h2 i fhc1;obtain rfl:=Qf hx1 hy;first | omega | contradiction | (obtain ⟨z,hz,h9⟩:=h8 (by omega);obtain rfl:=Qf hx2 hz;omega) | (simp_all;done))
end Go.Proofs.YthifchndolccgaaDoor.AE
namespace Go.Proofs.YthifchndolccgaaDoor.AE
open Go Go.RowKit
set_option linter.unusedVariables false
set_option linter.unusedSimpArgs false
set_option maxRecDepth 20000
set_option maxHeartbeats 2000000
noncomputable section
def Qap (g:D.Grid) (c:Int):Prop:=Qm g∧(0≤c∧c≤((g.Cells.size:Nat):Int) - 1)∧QA g.Cells (Int.toNat c)=46
instance (g:D.Grid) (c:Int):Decidable (Qap g c):=Classical.propDecidable _
def Zc (g:D.Grid) (l:List D.Note):Nat→ByteArray
 | 0=>ZY g
 | i+1=>match l[i]? with | some c=>if Qap g c.Cell then wrS (Zc g l i) c.Letter [c.Cell] 1 else Zc g l i | none=>Zc g l i
theorem QT {g:D.Grid} {l:List D.Note} {i:Nat} {c:D.Note} (h:l[i]? =some c) (hw:Qap g c.Cell):Zc g l (i+1)=wrS (Zc g l i) c.Letter [c.Cell] 1:=by rw [Zc,h];simp only;rw [if_pos hw]
theorem Y0 {g:D.Grid} {l:List D.Note} {i:Nat} {c:D.Note} (h:l[i]? =some c) (hw:¬Qap g c.Cell):Zc g l (i+1)=Zc g l i:=by rw [Zc,h];simp only;rw [if_neg hw]
theorem YN (g:D.Grid) (l:List D.Note):∀i,(Zc g l i).size=(ZY g).size
 | 0=>rfl
 | i+1=>by
  have ih:=YN g l i
  unfold Zc
  split
  ·split
   ·rw [QaZ,ih]
   ·exact ih
  ·exact ih
theorem QbV {g:D.Grid} (l:List D.Note) (hg:¬Qm g):∀i,Zc g l i=⟨#[]⟩
 | 0=>if_neg hg
 | i+1=>by
  have ih:=QbV l hg i
  unfold Zc
  split
  ·rw [if_neg (fun h=>hg h.1)];exact ih
  ·exact ih
theorem Qao {g:D.Grid} (h:Qm g):(ZY g).size=g.Cells.size:=by rw [ZY,if_pos h,Yk]
def Zf (g:D.Grid) (l:List D.Note):ByteArray:=if Qu l then Zc g l l.length else ⟨#[]⟩
theorem QbO (g:D.Grid) (l:List D.Note):(Zf g l).size≤g.Cells.size:=by
 unfold Zf
 split
 ·rw [YN];exact Je g
 ·exact Nat.zero_le _
theorem Yi {f w:ByteArray} {c:Int} (hc:0≤c∧c<((f.size:Nat):Int)) (hw:w.size=1):f.extract 0 (Int.toNat c)++w++f.extract (Int.toNat (c+1)) f.size=wrS f w [c] 1:=by
 have h1:=QcN (f:=f) (w:=w) (cs:= [c]) (i:=0) (c:=c) rfl hc (by omega)
 rw [QeA] at h1
 rw [← h1]
 have h2:w.extract 0 (0+1)=w:=by
  rw [Nat.zero_add,← hw]
  exact ByteArray.extract_zero_size
 rw [h2]
theorem Qbi {l:List D.Note} {i:Nat} {x:D.Note} (h:Qu l) (hi:i<l.length) (hx:l[i]? =some x):x.Letter.size=1:=by
 obtain ⟨y,hy,_,h2,_⟩:=h.2 i hi
 rw [hx] at hy
 obtain rfl:=Option.some.inj hy
 exact h2
end
theorem Y6 (n:Nat) (g:D.Grid) (l:List D.Note) (hc0:QX g≤mx) (hz:zL Qy l≤mx):Pure (Qo Tryd.prog (n+4)) 8 [(T.agg (Qe false g)),(rd 4 Qa l)] (tS (Zf g l)):=by
 refine Pure.intro (rs:= [ResultVar.tmp 4]) Tryd.func8 rfl rfl rfl (E0:= [(0,(T.agg (Qe false g))),(1,(rd 4 Qa l))]) rfl ?_
 obtain ⟨hlim,hmx,hmax⟩:=Q3
 have hc:=hc0
 simp only [QX] at hc
 have hl:=J1 (z:=Qy) l
 have hes:=Je g
 refine sr (kO (B.box (ts:=(Qe false g)) (tv (T.agg (Qe false g)) rfl) nofun rfl) (fO (OF.assign (VEv.str (⟨#[]⟩:ByteArray))) (nt (sr (lO (OL.loadOn (us:=(Qe false g)) (tv (T.op 0 0) rfl) rfl J7 JF (lb rfl) rfl) (cO (cS (vc (tv (T.agg (Qe false g)) rfl) vn) (LendL.cons (lg QR) ln) (Ji (n+0) g (by first | (simp only [ByteArray.size_extract,ByteArray.size_append];omega) | assumption | omega)) rfl rfl) (aO (tS (ZY g)) rfl (nt (sq (sr (fO (OF.assign (VEv.int .i64 0)) ?_)))))))))))
 refine nt (VRun.block ?_)
 refine VRun.loop (A:=Nat) (fun s_=> [(1,(rd 4 Qa l)),(2,(T.op 0 0)),(4,(tS (⟨#[]⟩:ByteArray))),(5,(tS (Zc g l s_))),(6,(tN s_))]) (fun s_=>Jo [(0,(Obj.cells (Qe false g)))]) 1 (fun s_=>s_≤l.length∧(s_=0∨Qu l)) (fun s_=>l.length - s_) (0:Nat) ?_ (Wk.mk (fun k=>k) ?_ ?_ ?_) ?_
 ·exact ⟨Nat.zero_le _, .inl rfl⟩
 ·exact (b2 (b2 (b2 (bc ⟨(congrArg T.str (show ZY g=Zc g l 0 from (by first | rfl | assumption | rfl | (rw [QT hx1 hwh,← Yi ⟨hcb.1,by omega⟩ hlt];done) | (rw [QT hx1 hwh,← Yi ⟨hcb.1,by omega⟩ hlt];rfl) | (rw [Y0 hx1 fhc1];done) | (simp_all;done)))),rfl⟩ (b2 bn)))))
 ·exact (b3 bn)
 ·exact nd rfl
 rintro i (hI':i≤l.length∧(i=0∨Qu l))
 show VRun _ _ _ [(1,(rd 4 Qa l)),(2,(T.op 0 0)),(4,(tS (⟨#[]⟩:ByteArray))),(5,(tS (Zc g l i))),(6,(tN i))] (Jo [(0,(Obj.cells (Qe false g)))]) 1 _
 have hI1:=hI'.1
 have hns:=YN g l i
 refine sq (sr (mO (tN i) rfl (mO (rd 4 Qa l) rfl (lO (B.lenR (m:=l.length) (tv (rd 4 Qa l) rfl) U30 (List.length_map ..)) (fO (Y9 (tv (tN i) rfl) (tv (tN l.length) rfl)) (mO (tB (decide (i<l.length))) rfl ?_))))))
 refine VRunO.joinB 3 [14,15] 16 (tB (decide ((i<l.length)∧(Qu l)))) ?_ ?_
 ·refine gw (i<l.length) (fun fhg13_1=> ?_) fun fhg13_1=> ?_
  ·refine gF (dy fhg13_1) rfl rfl (OF.move (tv (rd 4 Qa l) rfl)) ?_
   refine VRunO.chain (VWant.on rfl rfl (dy fhg13_1)) (cS (vc (tv (rd 4 Qa l) rfl) vn) (Yl rfl) (ZS (n+0) l (by first | (simp only [ByteArray.size_extract,ByteArray.size_append];omega) | assumption | omega)) rfl rfl) (fO (OF.pickT (VEv.tmpB rfl (dy fhg13_1)) (tv (tB (decide (Qu l))) rfl)) (VRunO.nil ?_))
   exact jq (congrArg T.bool (kAT fhg13_1 rfl)) (js rfl (js rfl (jn)))
  ·refine Zh 2 4 true 13 (dz fhg13_1) rfl rfl rfl ?_
   refine fO (OF.pickF (VEv.tmpB rfl (dz fhg13_1)) (VEv.bool false)) (VRunO.nil ?_)
   exact jq (congrArg T.bool (kAF fhg13_1)) (js rfl (js rfl (jn)))
 refine nt ?_
 refine cd ((i<l.length)∧(Qu l)) rfl (fun fhc0=> ?_) fun fhc0=> ?_
 ·have hno:∀x,l[i]? =some x→x.Letter.size=1:=fun x hx=>Qbi fhc0.2 fhc0.1 hx
  refine sk (tn (sq (VRun.block (sq (VRun.draw (B:= [[],[],[],[2,1],[1,2,3],[3,2,1,4],[4,1,2,3,5,0]]) (by kernel_rfl) (by kernel_rfl) (lD (OL.loadOn (us:=(Qe false g)) (tv (T.op 0 0) rfl) rfl J7 JF (lb rfl) rfl) rfl rfl (mD (rd 4 Qa l) rfl rfl (mD (tN i) rfl rfl ?_))))))))
  obtain ⟨x1,hx1⟩:∃x,l[i]? =some x:=⟨_,List.getElem?_eq_getElem (by first | (simp only [ByteArray.size_extract,ByteArray.size_append];omega) | omega)⟩
  refine fD (OF.indexAddrR (row:=(Qa false x1)) (i:=i) (tv (rd 4 Qa l) rfl) (tv (tN i) rfl) rfl (QJ _ hx1) U30 Zd Z2) rfl rfl (fD (B.fieldAddrR (us:=(Qa false x1)) (tv (T.rp (Qa false x1)) rfl) (lb rfl) QV rfl) rfl rfl (lD (OL.loadR1 (t:=(tI x1.Cell)) (tv (T.rp (Qa false x1)) rfl) rfl ZD) rfl rfl (VRunD.quiet (bi:= [4,1,2,3,5,0]) rfl VWant.always rfl rfl rfl bn (cS (vc (tv (T.agg (Qe false g)) rfl) (vc (tv (tI x1.Cell) rfl) vn)) (LendL.cons (lg QR) (lp rfl ln)) (J2 (n+0) g x1.Cell (by first | (simp only [ByteArray.size_extract,ByteArray.size_append];omega) | assumption | omega)) rfl rfl) (VRunD.nil (tn ?_)))))
  refine cd (Qm g∧(0≤x1.Cell∧x1.Cell≤((g.Cells.size:Nat):Int) - 1)∧QA g.Cells (Int.toNat x1.Cell)=46) rfl (fun fhc1=> ?_) fun fhc1=> ?_
  ·have hwh:Qap g x1.Cell:=fhc1
   have hfu:=Qao hwh.1
   have hcb:=hwh.2.1
   have hlt:=hno x1 hx1
   refine VRun.draw (B:= [[],[],[],[2,1],[1,2,3],[3,2,1,4],[4,1,2,3,5,0],[],[],[8,7],[7,8,9],[9,8,7,10],[10,7,8,9,11,0,5,3,2,1,4,6],[],[],[],[15,14],[14,15,16],[16,15,14,17],[17,14,15,16,18],[18,16,15,14,17,19,13],[13,19,17,14,15,16,18,20,6,4,1,2,3,5,0,11,9,8,7,10,12],[12,10,7,8,9,11,0,5,3,2,1,4,6,20,18,16,15,14,17,19,13,21]]) (by kernel_rfl) (by kernel_rfl) (mD (tS (Zc g l i)) rfl rfl (mD (rd 4 Qa l) rfl rfl (mD (tN i) rfl rfl (fD (OF.indexAddrR (row:=(Qa false x1)) (i:=i) (tv (rd 4 Qa l) rfl) (tv (tN i) rfl) rfl (QJ _ hx1) U30 Zd Z2) rfl rfl (fD (B.fieldAddrR (us:=(Qa false x1)) (tv (T.rp (Qa false x1)) rfl) (lb rfl) QV rfl) rfl rfl (lD (OL.loadR1 (t:=(tI x1.Cell)) (tv (T.rp (Qa false x1)) rfl) rfl ZD) rfl rfl (lD (OL.sliceSHi (j:=(Int.toNat x1.Cell)) (tv (tS (Zc g l i)) rfl) (tv (tI x1.Cell) rfl) (by omega) (by first | (simp only [ByteArray.size_extract,ByteArray.size_append];omega) | omega | (simp only [List.length_map];omega) | (simp only [List.length_map,List.length_append,List.length_cons,List.length_nil,List.length_replicate,List.length_set,List.length_drop,List.length_take,YL] at *;omega)) U9) rfl rfl (mD (rd 4 Qa l) rfl rfl (mD (tN i) rfl rfl (fD (OF.indexAddrR (row:=(Qa false x1)) (i:=i) (tv (rd 4 Qa l) rfl) (tv (tN i) rfl) rfl (QJ _ hx1) U30 Zd Z2) rfl rfl (fD (B.fieldAddrR (us:=((Qa false x1).drop 1)) (tv (T.rp (Qa false x1)) rfl) (lb rfl) Q9 rfl) rfl rfl ?_)))))))))))
   refine lD (OL.loadR1 (t:=(tS x1.Letter)) (tv (T.rp ((Qa false x1).drop 1)) rfl) rfl Yv) rfl rfl (fD (B.sadd (tv (tS ((Zc g l i).extract 0 (Int.toNat x1.Cell))) rfl) (tv (tS x1.Letter) rfl) (by first | (simp only [ByteArray.size_extract,ByteArray.size_append];omega) | omega | (simp only [List.length_map];omega) | (simp only [List.length_map,List.length_append,List.length_cons,List.length_nil,List.length_replicate,List.length_set,List.length_drop,List.length_take,YL] at *;omega))) rfl rfl (mD (tS (Zc g l i)) rfl rfl (mD (rd 4 Qa l) rfl rfl (mD (tN i) rfl rfl (fD (OF.indexAddrR (row:=(Qa false x1)) (i:=i) (tv (rd 4 Qa l) rfl) (tv (tN i) rfl) rfl (QJ _ hx1) U30 Zd Z2) rfl rfl (fD (B.fieldAddrR (us:=(Qa false x1)) (tv (T.rp (Qa false x1)) rfl) (lb rfl) QV rfl) rfl rfl (lD (OL.loadR1 (t:=(tI x1.Cell)) (tv (T.rp (Qa false x1)) rfl) rfl ZD) rfl rfl (fD (B.add (n:=(x1.Cell+1)) (tv (tI x1.Cell) rfl) (VEv.int .i64 1) (by first | (simp only [ByteArray.size_extract,ByteArray.size_append];omega) | rfl | (rw [Q1 (by omega)];omega) | (rw [Q1 (by omega)];done))) rfl rfl (lD (OL.sliceSLo (i:=(Int.toNat (x1.Cell+1))) (tv (tS (Zc g l i)) rfl) (tv (tI (x1.Cell+1)) rfl) (by omega) (by first | (simp only [ByteArray.size_extract,ByteArray.size_append];omega) | omega | (simp only [List.length_map];omega) | (simp only [List.length_map,List.length_append,List.length_cons,List.length_nil,List.length_replicate,List.length_set,List.length_drop,List.length_take,YL] at *;omega)) U9) rfl rfl (fD (B.sadd (tv (tS (((Zc g l i).extract 0 (Int.toNat x1.Cell))++x1.Letter)) rfl) (tv (tS ((Zc g l i).extract (Int.toNat (x1.Cell+1)) (Zc g l i).size)) rfl) (by first | (simp only [ByteArray.size_extract,ByteArray.size_append];omega) | omega | (simp only [List.length_map];omega) | (simp only [List.length_map,List.length_append,List.length_cons,List.length_nil,List.length_replicate,List.length_set,List.length_drop,List.length_take,YL] at *;omega))) rfl rfl (fD (OF.assign (tv (tS ((((Zc g l i).extract 0 (Int.toNat x1.Cell))++x1.Letter)++((Zc g l i).extract (Int.toNat (x1.Cell+1)) (Zc g l i).size))) rfl)) rfl rfl ?_)))))))))))
   refine VRunD.nil (vinB.n (tn (VRun.region (mO (tN i) rfl (fO (Zv (tv (tN i) rfl) (VEv.int .i64 1) (by first | (simp only [ByteArray.size_extract,ByteArray.size_append];omega) | omega)) (aO (tN (i+1)) rfl (VRunO.nil (tn ?_))))))))
   refine ⟨(i+1:Nat),?_,?_,Wk.mk (fun k=>k) ?_ ?_ ?_⟩
   ·exact ⟨fhc0.1, .inr fhc0.2⟩
   ·first | omega | (simp only [];omega) | (show _<_;omega) | (simp;omega)
   ·exact (b2 (b2 (b2 (bc ⟨(congrArg T.str (show ((((Zc g l i).extract 0 (Int.toNat x1.Cell))++x1.Letter)++((Zc g l i).extract (Int.toNat (x1.Cell+1)) (Zc g l i).size))=Zc g l (i+1) from (by first | rfl | assumption | rfl | (rw [QT hx1 hwh,← Yi ⟨hcb.1,by omega⟩ hlt];done) | (rw [QT hx1 hwh,← Yi ⟨hcb.1,by omega⟩ hlt];rfl) | (rw [Y0 hx1 fhc1];done) | (simp_all;done)))),rfl⟩ (b2 bn)))))
   ·exact (b3 bn)
   ·exact nd rfl
  refine sk (vinB.n (tn (VRun.region (mO (tN i) rfl (fO (Zv (tv (tN i) rfl) (VEv.int .i64 1) (by first | (simp only [ByteArray.size_extract,ByteArray.size_append];omega) | omega)) (aO (tN (i+1)) rfl (VRunO.nil (tn ?_))))))))
  refine ⟨(i+1:Nat),?_,?_,Wk.mk (fun k=>k) ?_ ?_ ?_⟩
  ·exact ⟨fhc0.1, .inr fhc0.2⟩
  ·first | omega | (simp only [];omega) | (show _<_;omega) | (simp;omega)
  ·exact (b2 (b2 (b2 (bc ⟨(congrArg T.str (show Zc g l i=Zc g l (i+1) from (by first | rfl | assumption | rfl | (rw [QT hx1 hwh,← Yi ⟨hcb.1,by omega⟩ hlt];done) | (rw [QT hx1 hwh,← Yi ⟨hcb.1,by omega⟩ hlt];rfl) | (rw [Y0 hx1 fhc1];done) | (simp_all;done)))),rfl⟩ (b2 bn)))))
  ·exact (b3 bn)
  ·exact nd rfl
 refine VRun.exit (vthn.e (vthn.e (vinB.e (tn (sq (sr (mO (rd 4 Qa l) rfl (cO (cS (vc (tv (rd 4 Qa l) rfl) vn) (Yl rfl) (ZS (n+0) l (by first | (simp only [ByteArray.size_extract,ByteArray.size_append];omega) | assumption | omega)) rfl rfl) (fO (Q4 (tv (tB (decide (Qu l))) rfl)) (nt ?_))))))))))
 refine cn (Qu l) rfl (fun fhc2=> ?_) fun fhc2=> ?_
 ·refine sr ?_
  refine fO (OF.assign (VEv.str (⟨#[]⟩:ByteArray))) (nt (rt (tr ?_)))
  refine vfin.eq (r':=(tS (⟨#[]⟩:ByteArray))) ?_ (vfin.r (VRes.tmp (t:=(tS (⟨#[]⟩:ByteArray))) rfl VRes.nil) (Give.str _))
  refine congrArg T.str ?_
  exact (if_neg (by assumption)).symm
 refine sk (tn (sr (mO (tS (Zc g l i)) rfl (aO (tS (Zc g l i)) rfl (nt (rt ?_))))))
 refine vfin.eq (r':=(tS (Zc g l i))) ?_ (vfin.r (VRes.tmp (t:=(tS (Zc g l i))) rfl VRes.nil) (Give.str _))
 refine congrArg T.str ?_
 rw [Zf,if_pos (by assumption)];congr 1;rcases Nat.lt_or_ge i l.length with h | h;exact absurd ⟨h,by assumption⟩ fhc0;omega
theorem Y8 (n:Nat) (g:D.Grid) (l:List D.Note) (hc0:QX g≤mx) (hz:zL Qy l≤mx):Pure (Qo Tryd.prog (n+4)) 11 [(T.agg (Qe false g)),(rd 4 Qa l)] (tS (Zf g l)):=by
 refine Pure.intro (rs:= [ResultVar.tmp 4]) Tryd.func11 rfl rfl rfl (E0:= [(0,(T.agg (Qe false g))),(1,(rd 4 Qa l))]) rfl ?_
 obtain ⟨hlim,hmx,hmax⟩:=Q3
 have hc:=hc0
 simp only [QX] at hc
 have hl:=J1 (z:=Qy) l
 have hes:=Je g
 refine sr (kO (B.box (ts:=(Qe false g)) (tv (T.agg (Qe false g)) rfl) nofun rfl) (fO (OF.assign (VEv.str (⟨#[]⟩:ByteArray))) (nt (sq (sr (lO (OL.loadOn (us:=(Qe false g)) (tv (T.op 0 0) rfl) rfl J7 JF (lb rfl) rfl) (cO (cS (vc (tv (T.agg (Qe false g)) rfl) vn) (LendL.cons (lg QR) ln) (ZH (n+1) g (by first | (rw [hlt];rfl) | exact hlt.symm | (intro d hd;obtain rfl:=List.mem_singleton.1 hd;omega) | assumption | omega)) rfl rfl) (fO (Q4 (tv (tB (decide (Qm g))) rfl)) (mO (tB (!(decide (Qm g)))) rfl ?_)))))))))
 refine VRunO.joinB 4 [12,13,14] 15 (tB (decide ((¬(Qm g))∨(¬(Qu l))))) ?_ ?_
 ·refine gn (Qm g) (fun fhg11_1=> ?_) fun fhg11_1=> ?_
  ·refine Zh 3 3 false 11 (ny fhg11_1) rfl rfl rfl ?_
   refine fO (OF.pickT (VEv.tmpB rfl (ny fhg11_1)) (VEv.bool true)) (VRunO.nil ?_)
   exact jq (congrArg T.bool (kOT fhg11_1)) (js rfl (js rfl (js rfl (jn))))
  ·refine gF (nz fhg11_1) rfl rfl (OF.move (tv (rd 4 Qa l) rfl)) ?_
   refine VRunO.chain (VWant.on rfl rfl (nz fhg11_1)) (cS (vc (tv (rd 4 Qa l) rfl) vn) (Yl rfl) (Jz (n+0) l (by first | (rw [hlt];rfl) | exact hlt.symm | (intro d hd;obtain rfl:=List.mem_singleton.1 hd;omega) | assumption | omega)) rfl rfl) (gF (nz fhg11_1) rfl rfl (Q4 (tv (tB (decide (Qu l))) rfl)) (fO (OF.pickF (VEv.tmpB rfl (nz fhg11_1)) (tv (tB (!(decide (Qu l)))) rfl)) (VRunO.nil ?_)))
   exact jq (congrArg T.bool (kOF (not_not_intro fhg11_1) dN)) (js rfl (js rfl (js rfl (jn))))
 refine nt ?_
 refine cd ((¬(Qm g))∨(¬(Qu l))) rfl (fun fhc0=> ?_) fun fhc0=> ?_
 ·refine sr ?_
  refine fO (OF.assign (VEv.str (⟨#[]⟩:ByteArray))) (nt (rt (tr ?_)))
  refine vfin.eq (r':=(tS (⟨#[]⟩:ByteArray))) ?_ (vfin.r (VRes.tmp (t:=(tS (⟨#[]⟩:ByteArray))) rfl VRes.nil) (Give.str _))
  refine congrArg T.str ?_
  unfold Zf;split<;>rename_i ha;exact (QbV l (fun hg=>by rcases fhc0 with h | h<;>contradiction) _).symm;rfl
 have hga:Qm g∧Qu l:=(by simp only [not_or,Classical.not_not] at fhc0;exact fhc0)
 refine sk (tn (sr (lO (OL.loadOn (us:=(Qe false g)) (tv (T.op 0 0) rfl) rfl J7 JF (lb rfl) rfl) (cO (cS (vc (tv (T.agg (Qe false g)) rfl) vn) (LendL.cons (lg QR) ln) (Jg (n+0) g (by first | (rw [hlt];rfl) | exact hlt.symm | (intro d hd;obtain rfl:=List.mem_singleton.1 hd;omega) | assumption | omega)) rfl rfl) (aO (tS (ZY g)) rfl (nt (sq (sr (mO (rd 4 Qa l) rfl (lO (B.lenR (m:=l.length) (tv (rd 4 Qa l) rfl) U30 (List.length_map ..)) (fO (OF.move (VEv.int .i64 0)) ?_)))))))))))
 refine nt (VRun.block ?_)
 refine VRun.loop (A:=Nat) (fun s_=> [(2,(T.op 0 0)),(4,(tS (⟨#[]⟩:ByteArray))),(5,(tS (Zc g l s_))),(18,(rd 4 Qa l)),(19,(tN l.length)),(20,(tN s_))]) (fun s_=>Jo [(0,(Obj.cells (Qe false g)))]) 1 (fun s_=>s_≤l.length) (fun s_=>l.length - s_) (0:Nat) ?_ (Wk.mk (fun k=>k) ?_ ?_ ?_) ?_
 ·first | trivial | (simp;done) | omega | (constructor<;>simp)
 ·exact (b2 (b2 (bc ⟨(congrArg T.str (show ZY g=Zc g l 0 from (by first | rfl | assumption | rfl | (rw [QT hx1 hwh];done) | (rw [QT hx1 hwh];rfl) | (rw [Y0 hx1 fhc2];done) | (simp_all;done)))),rfl⟩ (b2 (b2 (b2 bn))))))
 ·exact (b3 bn)
 ·exact nd rfl
 rintro i (hI':i≤l.length)
 show VRun _ _ _ [(2,(T.op 0 0)),(4,(tS (⟨#[]⟩:ByteArray))),(5,(tS (Zc g l i))),(18,(rd 4 Qa l)),(19,(tN l.length)),(20,(tN i))] (Jo [(0,(Obj.cells (Qe false g)))]) 1 _
 have hI1:=hI'
 have hns:=YN g l i
 refine sr (fO (Y9 (tv (tN i) rfl) (tv (tN l.length) rfl)) (nt (sq ?_)))
 refine cd (i<l.length) rfl (fun fhc1=> ?_) fun fhc1=> ?_
 ·refine sk ?_
  refine tn (sq (VRun.block (sr ?_)))
  obtain ⟨x1,hx1⟩:∃x,l[i]? =some x:=⟨_,List.getElem?_eq_getElem (by first | (rw [hlt];rfl) | exact hlt.symm | (intro d hd;obtain rfl:=List.mem_singleton.1 hd;omega) | omega)⟩
  refine fO (OF.indexAddrR (row:=(Qa false x1)) (i:=i) (tv (rd 4 Qa l) rfl) (tv (tN i) rfl) rfl (QJ _ hx1) U30 Zd Z2) (lO (OL.loadRn (us:=(Qa false x1)) (tv (T.rp (Qa false x1)) rfl) QbQ Zd (lb rfl) rfl) (kO (B.alloc (t:=(T.agg [(tN 0),(tS ByteArray.empty),(tN 0),(tN 0)])) (ts:= [(tN 0),(tS ByteArray.empty),(tN 0),(tN 0)]) Qcn Qcs nofun (fun _=> .agg _ _ rfl (Jm (RL.cons (.int _ _) (RL.cons (.str _) (RL.cons (.int _ _) (RL.cons (.int _ _) (RL.nil _))))))) rfl) (cO (B.storeW (us:=(Qa false x1)) (tv (T.op 1 0) rfl) (tv (T.agg (Qa false x1)) rfl) nofun rfl rfl rfl Z2 Zd (bc rfl (bc rfl (bc rfl (bc rfl bn))))) (nt (sr (lO (OL.loadOn (us:=(Qe false g)) (tv (T.op 0 0) rfl) rfl J7 JF (lb rfl) rfl) (lf (tI x1.Cell) rfl QV rfl rfl ZD (cO (cS (vc (tv (T.agg (Qe false g)) rfl) (vc (tv (tI x1.Cell) rfl) vn)) (LendL.cons (lg QR) (lp rfl ln)) (JT (n+0) g x1.Cell (by first | (rw [hlt];rfl) | exact hlt.symm | (intro d hd;obtain rfl:=List.mem_singleton.1 hd;omega) | assumption | omega)) rfl rfl) (nt ?_)))))))))
  refine cd (Qm g∧(0≤x1.Cell∧x1.Cell≤((g.Cells.size:Nat):Int) - 1)∧QA g.Cells (Int.toNat x1.Cell)=46) rfl (fun fhc2=> ?_) fun fhc2=> ?_
  ·have hwh:Qap g x1.Cell:=fhc2
   have hfu:=Qao hwh.1
   have hcb:=hwh.2.1
   have hlt:=Qbi hga.2 fhc1 hx1
   refine VRun.region (mO (tS (Zc g l i)) rfl (lf (tI x1.Cell) rfl QV rfl rfl ZD (kO (OM.buildSlice (l:= [(tI x1.Cell)]) (VEvp.cons (tv (tI x1.Cell) rfl) VEvp.nil) rfl (by decide) (bc (nofun) bn) (bc ((bc (rfl) bn)) bn) (bc (rfl) bn) U68 zo3 (by kernel_rfl) rfl (by rw [Jb];decide) Jb (Nat.le_of_ble_eq_true rfl)) (lf (tS x1.Letter) rfl Q9 rfl rfl Yv (cO (cS (us:= [(tS (Zc g l i)),(T.sl false 1 [[(tI x1.Cell)]]),(tS x1.Letter)]) (vc (tv (tS (Zc g l i)) rfl) (vc (tv (T.os 1 2 0 1) rfl) (vc (tv (tS x1.Letter) rfl) vn))) (lp rfl (LendL.cons (Lend.os rfl rfl rfl) (lp rfl ln))) (YT (n+2) (Zc g l i) [x1.Cell] x1.Letter (by first | (rw [hlt];rfl) | exact hlt.symm | (intro d hd;obtain rfl:=List.mem_singleton.1 hd;omega) | assumption | omega) (by first | (rw [hlt];rfl) | exact hlt.symm | (intro d hd;obtain rfl:=List.mem_singleton.1 hd;omega) | assumption | omega) (by first | (rw [hlt];rfl) | exact hlt.symm | (intro d hd;obtain rfl:=List.mem_singleton.1 hd;omega) | assumption | omega) (by first | (rw [hlt];rfl) | exact hlt.symm | (intro d hd;obtain rfl:=List.mem_singleton.1 hd;omega) | assumption | omega)) rfl rfl) (aO (tS (wrS (Zc g l i) x1.Letter [x1.Cell] [x1.Cell].length)) rfl (VRunO.nil (vinB.n (tn (VRun.region (fO (Zv (tv (tN i) rfl) (VEv.int .i64 1) (by first | (rw [hlt];rfl) | exact hlt.symm | (intro d hd;obtain rfl:=List.mem_singleton.1 hd;omega) | omega)) ?_)))))))))))
   refine mO (tN (i+1)) rfl (VRunO.nil (tn ?_))
   refine ⟨(i+1:Nat),?_,?_,Wk.mk (fun k=>k) ?_ ?_ ?_⟩
   ·first | trivial | omega | (simp;done) | exact ⟨by omega,hI'.2⟩
   ·first | omega | (simp only [];omega) | (show _<_;omega) | (simp;omega)
   ·exact (b2 (b2 (bc ⟨(congrArg T.str (show wrS (Zc g l i) x1.Letter [x1.Cell] [x1.Cell].length=Zc g l (i+1) from (by first | rfl | assumption | rfl | (rw [QT hx1 hwh];done) | (rw [QT hx1 hwh];rfl) | (rw [Y0 hx1 fhc2];done) | (simp_all;done)))),rfl⟩ (b2 (b2 (b2 bn))))))
   ·exact (b3 bn)
   ·exact nd rfl
  refine sk (vinB.n (tn (VRun.region (fO (Zv (tv (tN i) rfl) (VEv.int .i64 1) (by first | (rw [hlt];rfl) | exact hlt.symm | (intro d hd;obtain rfl:=List.mem_singleton.1 hd;omega) | omega)) (mO (tN (i+1)) rfl (VRunO.nil (tn ?_)))))))
  refine ⟨(i+1:Nat),?_,?_,Wk.mk (fun k=>k) ?_ ?_ ?_⟩
  ·first | trivial | omega | (simp;done) | exact ⟨by omega,hI'.2⟩
  ·first | omega | (simp only [];omega) | (show _<_;omega) | (simp;omega)
  ·exact (b2 (b2 (bc ⟨(congrArg T.str (show Zc g l i=Zc g l (i+1) from (by first | rfl | assumption | rfl | (rw [QT hx1 hwh];done) | (rw [QT hx1 hwh];rfl) | (rw [Y0 hx1 fhc2];done) | (simp_all;done)))),rfl⟩ (b2 (b2 (b2 bn))))))
  ·exact (b3 bn)
  ·exact nd rfl
 refine VRun.exit (vthn.e (vthn.e (vinB.e (tn (sr (mO (tS (Zc g l i)) rfl (aO (tS (Zc g l i)) rfl (nt (rt ?_)))))))))
 refine vfin.eq (r':=(tS (Zc g l i))) ?_ (vfin.r (VRes.tmp (t:=(tS (Zc g l i))) rfl VRes.nil) (Give.str _))
 refine congrArg T.str ?_
 rw [Zf,if_pos hga.2];congr 1;omega
end Go.Proofs.YthifchndolccgaaDoor.AE
namespace Go.Proofs.YthifchndolccgaaDoor.AE
open Go Go.RowKit
set_option linter.unusedVariables false
set_option linter.unusedSimpArgs false
set_option maxRecDepth 20000
set_option maxHeartbeats 2000000
theorem ZK (n:Nat) (a0:D.Grid) (a1:List D.Note) (g0:QcP a0) (g1:(a1.length≤maxLen∧∀y∈a1,QbY y)):Pure (Qo Tryd.prog (n+5)) 3 [(T.agg (Qe false a0)),(rd 4 Qa a1)] (tB true):=by
 refine Pure.intro (rs:= [ResultVar.tmp 4]) Tryd.func3 rfl rfl rfl (E0:= [(0,(T.agg (Qe false a0))),(1,(rd 4 Qa a1))]) rfl ?_
 obtain ⟨hlim,hmx,hmax⟩:=Q3
 have hl1:=J1 (z:=Qy) a1
 have hx:=QbO a0 a1
 have hzg:a0.Cells.size≤QX a0:=Nat.le_refl _
 refine sr (kO (B.box (ts:=(Qe false a0)) (tv (T.agg (Qe false a0)) rfl) nofun rfl) (fO (OF.assign (VEv.bool false)) (nt (sr (fO (OF.assign (VEv.int .i64 1048576)) (nt (sr (lO (OL.loadOn (us:=(Qe false a0)) (tv (T.op 0 0) rfl) rfl QdJ QdP (lb rfl) rfl) (mO (tN 1048576) rfl (cO (cS (vc (tv (T.agg (Qe false a0)) rfl) (vc (tv (tN 1048576) rfl) vn)) (LendL.cons (lg QR) (lp rfl ln)) (Qai (n+3) a0 1048576 (by first | exact g1.2 | exact Qz _ _ _ _ | (simp only [Qw];omega) | assumption | omega | (simp only [List.length_map];omega) | (simp only [List.length_map,List.length_append,List.length_cons,List.length_nil,List.length_replicate,List.length_set,List.length_drop,List.length_take,YL] at *;omega)) (by first | exact g1.2 | exact Qz _ _ _ _ | (simp only [Qw];omega) | assumption | omega | (simp only [List.length_map];omega) | (simp only [List.length_map,List.length_append,List.length_cons,List.length_nil,List.length_replicate,List.length_set,List.length_drop,List.length_take,YL] at *;omega)) (by first | exact g1.2 | exact Qz _ _ _ _ | (simp only [Qw];omega) | assumption | omega | (simp only [List.length_map];omega) | (simp only [List.length_map,List.length_append,List.length_cons,List.length_nil,List.length_replicate,List.length_set,List.length_drop,List.length_take,YL] at *;omega))) rfl rfl) (aO (tI (ZO (QX a0) 1048576)) rfl ?_)))))))))))
 refine nt (sq (sr (mO (tI (ZO (QX a0) 1048576)) rfl (fO (xls (tv (tI (ZO (QX a0) 1048576)) rfl) (VEv.int .i64 0)) (nt ?_)))))
 refine cd (ZO (QX a0) 1048576<0) rfl (fun fhc0=> ?_) fun fhc0=> ?_
 ·refine sr ?_
  refine fO (OF.assign (VEv.bool true)) (nt (rt (tr ?_)))
  exact vb rfl rfl
 first | (have hz0:=YV fhc0) | skip
 refine sk (tn (sr (mO (rd 4 Qa a1) rfl (mO (tI (ZO (QX a0) 1048576)) rfl (cO (cS (vc (tv (rd 4 Qa a1) rfl) (vc (tv (tI (ZO (QX a0) 1048576)) rfl) vn)) (Yl rfl) (Qaa (n+2) a1 (ZO (QX a0) 1048576) (by first | exact g1.2 | exact Qz _ _ _ _ | (simp only [Qw];omega) | assumption | omega | (simp only [List.length_map];omega) | (simp only [List.length_map,List.length_append,List.length_cons,List.length_nil,List.length_replicate,List.length_set,List.length_drop,List.length_take,YL] at *;omega)) (by first | exact g1.2 | exact Qz _ _ _ _ | (simp only [Qw];omega) | assumption | omega | (simp only [List.length_map];omega) | (simp only [List.length_map,List.length_append,List.length_cons,List.length_nil,List.length_replicate,List.length_set,List.length_drop,List.length_take,YL] at *;omega)) (by first | exact g1.2 | exact Qz _ _ _ _ | (simp only [Qw];omega) | assumption | omega | (simp only [List.length_map];omega) | (simp only [List.length_map,List.length_append,List.length_cons,List.length_nil,List.length_replicate,List.length_set,List.length_drop,List.length_take,YL] at *;omega))) rfl rfl) (aO (tI (ZO (zL Qy a1) (ZO (QX a0) 1048576))) rfl (nt (sq (sr (mO (tI (ZO (zL Qy a1) (ZO (QX a0) 1048576))) rfl (fO (xls (tv (tI (ZO (zL Qy a1) (ZO (QX a0) 1048576))) rfl) (VEv.int .i64 0)) ?_)))))))))))
 refine nt ?_
 refine cd (ZO (zL Qy a1) (ZO (QX a0) 1048576)<0) rfl (fun fhc1=> ?_) fun fhc1=> ?_
 ·refine sr ?_
  refine fO (OF.assign (VEv.bool true)) (nt (rt (tr ?_)))
  exact vb rfl rfl
 first | (have hz1:=YV fhc1) | skip
 refine sk (tn (sr (lO (OL.loadOn (us:=(Qe false a0)) (tv (T.op 0 0) rfl) rfl QdJ QdP (lb rfl) rfl) (cO (cS (vc (tv (T.agg (Qe false a0)) rfl) vn) (LendL.cons (lg QR) ln) (Yo (n+3) a0) rfl rfl) (mO (rd 4 Qa a1) rfl (cO (OC.callF (r':=(T.os 4 1 0 ((a1.map (Qa true)).length))) (objs:= [(Obj.rows 4 (a1.map (Qa true)))]) rfl (vc (tv (rd 4 Qa a1) rfl) vn) (Yl rfl) (Zs (n+2) a1 (by first | exact g1.2 | exact Qz _ _ _ _ | (simp only [Qw];omega) | assumption | omega | (simp only [List.length_map];omega) | (simp only [List.length_map,List.length_append,List.length_cons,List.length_nil,List.length_replicate,List.length_set,List.length_drop,List.length_take,YL] at *;omega))) rfl) (cO (cS (us:= [(T.agg (Qe true a0)),(rd 4 Qa a1)]) (vc (tv (T.agg (Qe true a0)) rfl) (vc (tv (T.os 4 1 0 ((a1.map (Qa true)).length)) rfl) vn)) (LendL.cons (Lend.agg (LendL.cons (Lend.pl rfl) (LendL.cons (Lend.pl rfl) (LendL.cons (Lend.pl rfl) ln)))) (LendL.cons (Lend.os rfl rfl (okeNote.fzMap _ _)) ln)) (Y6 (n+0) a0 a1 (by first | exact g1.2 | exact Qz _ _ _ _ | (simp only [Qw];omega) | assumption | omega | (simp only [List.length_map];omega) | (simp only [List.length_map,List.length_append,List.length_cons,List.length_nil,List.length_replicate,List.length_set,List.length_drop,List.length_take,YL] at *;omega)) (by first | exact g1.2 | exact Qz _ _ _ _ | (simp only [Qw];omega) | assumption | omega | (simp only [List.length_map];omega) | (simp only [List.length_map,List.length_append,List.length_cons,List.length_nil,List.length_replicate,List.length_set,List.length_drop,List.length_take,YL] at *;omega))) rfl rfl) (aO (tS (Zf a0 a1)) rfl (nt (sr (mO (rd 4 Qa a1) rfl ?_)))))))))))
 refine cO (OC.callF (r':=(T.os 4 2 0 ((a1.map (Qa true)).length))) (objs:= [(Obj.rows 4 (a1.map (Qa true)))]) rfl (vc (tv (rd 4 Qa a1) rfl) vn) (Yl rfl) (Zs (n+2) a1 (by first | exact g1.2 | exact Qz _ _ _ _ | (simp only [Qw];omega) | assumption | omega | (simp only [List.length_map];omega) | (simp only [List.length_map,List.length_append,List.length_cons,List.length_nil,List.length_replicate,List.length_set,List.length_drop,List.length_take,YL] at *;omega))) rfl) (aO (T.os 4 2 0 ((a1.map (Qa true)).length)) rfl (nt (sr (lO (OL.loadOn (us:=(Qe false a0)) (tv (T.op 0 0) rfl) rfl QdJ QdP (lb rfl) rfl) (cO (cS (vc (tv (T.agg (Qe false a0)) rfl) vn) (LendL.cons (lg QR) ln) (Yo (n+3) a0) rfl rfl) (mO (T.os 4 2 0 ((a1.map (Qa true)).length)) rfl (cO (cS (us:= [(T.agg (Qe true a0)),(rd 4 Qa a1)]) (vc (tv (T.agg (Qe true a0)) rfl) (vc (tv (T.os 4 2 0 ((a1.map (Qa true)).length)) rfl) vn)) (LendL.cons (Lend.agg (LendL.cons (Lend.pl rfl) (LendL.cons (Lend.pl rfl) (LendL.cons (Lend.pl rfl) ln)))) (LendL.cons (Lend.os rfl rfl (okeNote.fzMap _ _)) ln)) (Y8 (n+0) a0 a1 (by first | exact g1.2 | exact Qz _ _ _ _ | (simp only [Qw];omega) | assumption | omega | (simp only [List.length_map];omega) | (simp only [List.length_map,List.length_append,List.length_cons,List.length_nil,List.length_replicate,List.length_set,List.length_drop,List.length_take,YL] at *;omega)) (by first | exact g1.2 | exact Qz _ _ _ _ | (simp only [Qw];omega) | assumption | omega | (simp only [List.length_map];omega) | (simp only [List.length_map,List.length_append,List.length_cons,List.length_nil,List.length_replicate,List.length_set,List.length_drop,List.length_take,YL] at *;omega))) rfl rfl) (aO (tS (Zf a0 a1)) rfl (nt (sq (sr ?_)))))))))))
 refine mO (tS (Zf a0 a1)) rfl (mO (tS (Zf a0 a1)) rfl (fO (B.sneq (c:=(!(decide (Zf a0 a1=Zf a0 a1)))) (tv (tS (Zf a0 a1)) rfl) (tv (tS (Zf a0 a1)) rfl) rfl) (nt ?_)))
 refine cn (Zf a0 a1=Zf a0 a1) rfl (fun fhc2=> ?_) fun fhc2=> ?_
 ·refine sr ?_
  refine fO (OF.assign (VEv.bool false)) (nt (rt (tr (vb (b':=false) rfl ?_))))
  first | rfl | (exfalso;omega) | (exfalso;(simp only [Qw] at* <;>omega)) | (exfalso;simp only [Qw,not_true_eq_false] at *;done) | (exfalso;simp_all;done)
 first | (have hz2:=YV fhc2) | skip
 refine sk (tn (sq (sr (mO (T.os 4 2 0 ((a1.map (Qa true)).length)) rfl (mO (rd 4 Qa a1) rfl (cO (OC.callF (r':=(T.os 4 3 0 ((a1.map (Qa true)).length))) (objs:= [(Obj.rows 4 (a1.map (Qa true)))]) rfl (vc (tv (rd 4 Qa a1) rfl) vn) (Yl rfl) (Zs (n+2) a1 (by first | exact g1.2 | exact Qz _ _ _ _ | (simp only [Qw];omega) | assumption | omega | (simp only [List.length_map];omega) | (simp only [List.length_map,List.length_append,List.length_cons,List.length_nil,List.length_replicate,List.length_set,List.length_drop,List.length_take,YL] at *;omega))) rfl) (cO (cS (us:= [(rd 4 Qa a1),(rd 4 Qa a1)]) (vc (tv (T.os 4 2 0 ((a1.map (Qa true)).length)) rfl) (vc (tv (T.os 4 3 0 ((a1.map (Qa true)).length)) rfl) vn)) (LendL.cons (Lend.os rfl rfl (okeNote.fzMap _ _)) (LendL.cons (Lend.os rfl rfl (okeNote.fzMap _ _)) ln)) (J4 (n+2) a1 a1 (by first | exact g1.2 | exact Qz _ _ _ _ | (simp only [Qw];omega) | assumption | omega | (simp only [List.length_map];omega) | (simp only [List.length_map,List.length_append,List.length_cons,List.length_nil,List.length_replicate,List.length_set,List.length_drop,List.length_take,YL] at *;omega)) (by first | exact g1.2 | exact Qz _ _ _ _ | (simp only [Qw];omega) | assumption | omega | (simp only [List.length_map];omega) | (simp only [List.length_map,List.length_append,List.length_cons,List.length_nil,List.length_replicate,List.length_set,List.length_drop,List.length_take,YL] at *;omega))) rfl rfl) (fO (Q4 (tv (tB (decide (a1=a1))) rfl)) (nt ?_)))))))))
 refine cn (a1=a1) rfl (fun fhc3=> ?_) fun fhc3=> ?_
 ·refine sr ?_
  refine fO (OF.assign (VEv.bool false)) (nt (rt (tr (vb (b':=false) rfl ?_))))
  first | rfl | (exfalso;omega) | (exfalso;(simp only [Qw] at* <;>omega)) | (exfalso;simp only [Qw,not_true_eq_false] at *;done) | (exfalso;simp_all;done)
 first | (have hz3:=YV fhc3) | skip
 refine sk (tn (sr (fO (OF.assign (VEv.bool true)) (nt (rt ?_)))))
 exact vb rfl rfl
end Go.Proofs.YthifchndolccgaaDoor.AE
namespace Go.Proofs.YthifchndolccgaaDoor.AE
open Go Go.RowKit
set_option linter.unusedVariables false
set_option linter.unusedSimpArgs false
theorem QbR (a:Option Addr) (n c:Nat):(JL (.slice a n c)).cells.toList= [JL (.slice a n c)]:=by cases a<;>rfl
theorem Qen {α:Type} {d:AK α} {e:Bool→α→List T} {x:α} {t:T} {h:AH} {v:Value} (hk:RK d e) (he:e false x= [t]) (hr:d.R h x [v]):R h t v:=by
 have h1:=hk h x _ hr
 rw [he] at h1
 exact h1.tail.1
theorem Qc0 {α:Type} {d:AK α} {e:Bool→α→List T} {x:α} {t:T} {h:AH} {a:Option Addr} {n c:Nat} (hk:RK d e) (he:e false x= [t]) (hr:d.R h x (JL (.slice a n c)).cells.toList):R h t (JL (.slice a n c)):=by
 rw [QbR] at hr
 exact Qen hk he hr
theorem Qes {α:Type} {d:AK α} {e:Bool→α→List T} {x:α} {h:AH} {cs:Array Value} (hk:RK d e) (hr:d.R h x (JL (.agg cs)).cells.toList):R h (.agg (e false x)) (JL (.agg cs)):=by
 have h1:=hk h x _ hr
 refine .agg _ _ (by simpa [Value.cells,JL] using h1.1) (fun i hi=> ?_)
 have:=h1.2 i hi
 simpa [Value.cells,JL,Array.getD_eq_getD_getElem?,List.getD_eq_getElem?_getD] using this
theorem Pure.bool {call:Qk} {f:FuncId} {ts:List T} {b:Bool} (hp:Pure call f ts (.bool b)) {h:AH} {vs:List Value} (hfr:Fr 1 h) (hr:RL h ts vs):CallS call f vs h 1 (fun v _=>v= .bool b):=by
 refine (hp h 1 vs hfr hr).mono ?_
 rintro v h' ⟨_,N,hs,_⟩
 cases hs with
 | fz hr=>cases hr;rfl
end Go.Proofs.YthifchndolccgaaDoor.AE
namespace Go.Proofs.YthifchndolccgaaDoor.AE
open Go Go.RowKit Go.Shelf Go.Proofs
def laysRepl_ren : Go.Shelf.Ren:=⟨fun | 155=>63 | 154=>83 | 138=>105 | 165=>106 | 143=>107 | 166=>108 | 197=>109 | 169=>110 | 195=>125 | 218=>126 | 240=>127 | 241=>128 | 219=>129 | 260=>130 | 276=>136 | 277=>137 | 217=>138 | 225=>139 | 224=>140 | 267=>141 | 266=>144 | 314=>145 | n=>n,fun | 9=>9 | 3=>3 | 4=>4 | 72=>116 | 0=>0 | 76=>120 | 105=>122 | 21=>21 | 5=>5 | 70=>114 | 20=>20 | 37=>88 | 75=>119 | 127=>135 | 164=>138 | 46=>142 | 119=>143 | 139=>146 | 138=>145 | 146=>150 | 51=>149 | 80=>124 | n=>n,fun | 1=>0 | 3=>1 | 4=>2 | n=>n⟩
theorem laysRepl : Go.Proofs.LaysM.n155 Tryd.prog laysRepl_ren where
 mixed:=by kernel_rfl
 f138:=Tryd.func105.trans (congrArg some (by kernel_rfl))
 f143:=Tryd.func107.trans (congrArg some (by kernel_rfl))
 f154:=Tryd.func83.trans (congrArg some (by kernel_rfl))
 f155:=Tryd.func63.trans (congrArg some (by kernel_rfl))
 f165:=Tryd.func106.trans (congrArg some (by kernel_rfl))
 f166:=Tryd.func108.trans (congrArg some (by kernel_rfl))
 f169:=Tryd.func110.trans (congrArg some (by kernel_rfl))
 f195:=Tryd.func125.trans (congrArg some (by kernel_rfl))
 f197:=Tryd.func109.trans (congrArg some (by kernel_rfl))
 f217:=Tryd.func138.trans (congrArg some (by kernel_rfl))
 f218:=Tryd.func126.trans (congrArg some (by kernel_rfl))
 f219:=Tryd.func129.trans (congrArg some (by kernel_rfl))
 f224:=Tryd.func140.trans (congrArg some (by kernel_rfl))
 f225:=Tryd.func139.trans (congrArg some (by kernel_rfl))
 f240:=Tryd.func127.trans (congrArg some (by kernel_rfl))
 f241:=Tryd.func128.trans (congrArg some (by kernel_rfl))
 f260:=Tryd.func130.trans (congrArg some (by kernel_rfl))
 f266:=Tryd.func144.trans (congrArg some (by kernel_rfl))
 f267:=Tryd.func141.trans (congrArg some (by kernel_rfl))
 f276:=Tryd.func136.trans (congrArg some (by kernel_rfl))
 f277:=Tryd.func137.trans (congrArg some (by kernel_rfl))
 f314:=Tryd.func145.trans (congrArg some (by kernel_rfl))
 t0:=Tryd.underlying0
 a0:=Tryd.isAgg0
 z0:=Tryd.sizeOf0
 v0:=Tryd.zeroValue0
 t3:=Tryd.underlying3
 a3:=Tryd.isAgg3
 z3:=Tryd.sizeOf3
 v3:=Tryd.zeroValue3
 t4:=Tryd.underlying4
 a4:=Tryd.isAgg4
 z4:=Tryd.sizeOf4
 v4:=Tryd.zeroValue4
 t5:=Tryd.underlying5
 a5:=Tryd.isAgg5
 z5:=Tryd.sizeOf5
 v5:=Tryd.zeroValue5
 t9:=Tryd.underlying9
 a9:=Tryd.isAgg9
 z9:=Tryd.sizeOf9
 v9:=Tryd.zeroValue9
 t20:=Tryd.underlying20
 a20:=Tryd.isAgg20
 z20:=Tryd.sizeOf20
 v20:=Tryd.zeroValue20
 t21:=Tryd.underlying21
 a21:=Tryd.isAgg21
 z21:=Tryd.sizeOf21
 v21:=Tryd.zeroValue21
 t37:=Tryd.underlying88
 a37:=Tryd.isAgg88
 z37:=Tryd.sizeOf88
 v37:=Tryd.zeroValue88
 t46:=Tryd.underlying142
 a46:=Tryd.isAgg142
 z46:=Tryd.sizeOf142
 v46:=Tryd.zeroValue142
 t51:=Tryd.underlying149
 a51:=Tryd.isAgg149
 z51:=Tryd.sizeOf149
 v51:=Tryd.zeroValue149
 t70:=Tryd.underlying114
 a70:=Tryd.isAgg114
 z70:=Tryd.sizeOf114
 v70:=Tryd.zeroValue114
 t72:=Tryd.underlying116
 a72:=Tryd.isAgg116
 z72:=Tryd.sizeOf116
 v72:=Tryd.zeroValue116
 t75:=Tryd.underlying119
 a75:=Tryd.isAgg119
 z75:=Tryd.sizeOf119
 v75:=Tryd.zeroValue119
 t76:=Tryd.underlying120
 a76:=Tryd.isAgg120
 z76:=Tryd.sizeOf120
 v76:=Tryd.zeroValue120
 t105:=Tryd.underlying122
 a105:=Tryd.isAgg122
 z105:=Tryd.sizeOf122
 v105:=Tryd.zeroValue122
 t119:=Tryd.underlying143
 a119:=Tryd.isAgg143
 z119:=Tryd.sizeOf143
 t127:=Tryd.underlying135
 a127:=Tryd.isAgg135
 z127:=Tryd.sizeOf135
 v127:=Tryd.zeroValue135
 t138:=Tryd.underlying145
 a138:=Tryd.isAgg145
 z138:=Tryd.sizeOf145
 v138:=Tryd.zeroValue145
 t139:=Tryd.underlying146
 a139:=Tryd.isAgg146
 z139:=Tryd.sizeOf146
 v139:=Tryd.zeroValue146
 t146:=Tryd.underlying150
 a146:=Tryd.isAgg150
 z146:=Tryd.sizeOf150
 v146:=Tryd.zeroValue150
 t164:=Tryd.underlying138
 a164:=Tryd.isAgg138
 z164:=Tryd.sizeOf138
 v164:=Tryd.zeroValue138
 g1:=by kernel_rfl
 g3:=by kernel_rfl
 g4:=by kernel_rfl
 t80:=Tryd.underlying124
 a80:=Tryd.isAgg124
 z80:=Tryd.sizeOf124
 v80:=Tryd.zeroValue124
 i0:=by kernel_rfl
 i3:=by kernel_rfl
 i4:=by kernel_rfl
 i5:=by kernel_rfl
 i9:=by kernel_rfl
 i20:=by kernel_rfl
 i21:=by kernel_rfl
 i37:=by kernel_rfl
 i46:=by kernel_rfl
 i51:=by kernel_rfl
 i70:=by kernel_rfl
 i72:=by kernel_rfl
 i75:=by kernel_rfl
 i76:=by kernel_rfl
 i80:=by kernel_rfl
 i105:=by kernel_rfl
 i127:=by kernel_rfl
 i138:=by kernel_rfl
 i139:=by kernel_rfl
 i146:=by kernel_rfl
 i164:=by kernel_rfl
 m1:=by kernel_rfl
 s1_3:=fun w h=>Go.Proofs.cell_of_shapedOpen_int (zero:= #[.int .i64 0]) (t:=3) h (of_decide_eq_true (by kernel_rfl)) (by kernel_rfl) rfl (by kernel_rfl) (by kernel_rfl) Tryd.underlying3
 m3:=by kernel_rfl
 m4:=by kernel_rfl
theorem Qck : Builder.Extra Tryd.prog laysRepl_ren where
 sizeBuilder:=by kernel_rfl
 liesBuilder:=by kernel_rfl
 t5:=laysRepl.t5
 a5:=laysRepl.a5
 z5:=laysRepl.z5
 v5:=laysRepl.v5
 infoByte:=by kernel_rfl
 cellsByte:=by kernel_rfl
 sizeByte:=by kernel_rfl
 neB5:=by decide
theorem Qei {W:World} (h:W.ShapedOpen Tryd.prog):GlobOk W.heap.size W:=by
 intro g hg
 obtain rfl:=List.mem_singleton.1 hg
 obtain ⟨m,hm⟩:=laysRepl.s1_3 W h
 refine ⟨?_,m,hm⟩
 unfold World.cell? at hm
 split at hm
 ·rename_i e;exact (Array.getElem?_eq_some_iff.1 e).1
 ·cases hm
theorem QdM : Qbx Tryd.prog:=by
 intro f hf
 by_cases h0:f=63
 ·subst h0
  exact Qbt (g:=laysRepl_ren.g 1) (by decide) ⟨fun s o n m w h1 h2 h3 h4=>Any.strings_ReplaceAll laysRepl.ton155 Qck s o n m w h1 h2 h3 h4⟩
 exfalso
 simp [Y3,h0] at hf
end Go.Proofs.YthifchndolccgaaDoor.AE
