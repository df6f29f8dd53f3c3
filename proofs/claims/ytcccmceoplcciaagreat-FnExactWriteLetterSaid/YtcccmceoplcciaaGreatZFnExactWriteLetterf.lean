/- A part of what the row of FnExactWriteLetter uses. Conditions: as each theorem states. -/
import Derived.Test.YtcccmceoplcciaaGreatZFnExactWriteLettere
import Derived.Test.YtcccmceoplcciaaGreatProg
import Derived.Shelf.Sort.Plain
import Derived.Shelf.Slices.In.SortNone
import Derived.Shelf.Slices.CompactI
namespace Go.Proofs.YtcccmceoplcciaaGreat.AE
open Go Go.RowKit
set_option linter.unusedVariables false
set_option linter.unusedSimpArgs false
set_option maxRecDepth 20000
set_option maxHeartbeats 2000000
noncomputable section
def ZF : List Int→Int→List Int
 | [],n=> [n]
 | x::r,n=>if x<n then x::ZF r n else if x=n then x::r else n::x::r
theorem l9put_mem {l:List Int} {n y:Int}:y∈ZF l n↔y∈l∨y=n:=by
 induction l with
 | nil=>simp [ZF]
 | cons x r ih =>
  simp only [ZF]
  split
  ·simp only [List.mem_cons,ih,or_assoc]
  ·split
   ·rename_i h1 h2
    subst h2
    simp only [List.mem_cons]
    exact ⟨.inl,fun h=>h.elim id .inl⟩
   ·simp only [List.mem_cons]
    exact or_comm
theorem Qju {l:List Int} {n:Int} (h:l.Pairwise (· < ·)):(ZF l n).Pairwise (· < ·):=by
 induction l with
 | nil=>simp [ZF]
 | cons x r ih =>
  have h1:=List.pairwise_cons.1 h
  simp only [ZF]
  split
  ·rename_i hx
   refine List.pairwise_cons.2 ⟨fun y hy=> ?_,ih h1.2⟩
   rcases l9put_mem.1 hy with h2 | h2
   ·exact h1.1 y h2
   ·exact h2▸hx
  ·split
   ·exact h
   ·refine List.pairwise_cons.2 ⟨fun y hy=> ?_,h⟩
    rcases List.mem_cons.1 hy with h2 | h2
    ·omega
    ·have:=h1.1 y h2
     omega
theorem QlF {n:Int}:∀ {l:List Int} {k:Nat},(∀j y,j<k→l[j]? =some y→y<n)→l[k]? =some n→l=ZF l n
 | [],_,_,h=>by simp at h
 | x::r,0,_,h=>by
  obtain rfl:x=n:=by simpa using h
  simp [ZF]
 | x::r,k+1,h1,h=>by
  have h2:=h1 0 x (by omega) (by simp)
  simp only [ZF,if_pos h2]
  rw [← QlF (k:=k) (fun j y hj hy=>h1 (j+1) y (by omega) (by simpa using hy)) (by simpa using h)]
theorem Qh5 {n:Int}:∀ {l:List Int} {k:Nat},(∀j y,j<k→l[j]? =some y→y<n)→k≤l.length→(∀y,l[k]? =some y→n<y)→(l.take k++ [n])++l.drop k=ZF l n
 | [],k,_,h,_=>by
  obtain rfl:k=0:=by simpa using h
  rfl
 | x::r,0,_,_,h=>by
  have h2:=h x (by simp)
  simp only [ZF]
  rw [if_neg (by omega),if_neg (by omega)]
  rfl
 | x::r,k+1,h1,h,h3=>by
  have h2:=h1 0 x (by omega) (by simp)
  simp only [ZF,if_pos h2]
  rw [← Qh5 (k:=k) (fun j y hj hy=>h1 (j+1) y (by omega) (by simpa using hy)) (by simpa using h) (fun y hy=>h3 y (by simpa using hy))]
  rfl
theorem QgP {α:Type} {l:List α} {i:Nat} {x y:α} (hx:l[i]? =some x) (hy:l[i]? =some y):y=x:=by
 rw [hx] at hy
 exact (Option.some.inj hy).symm
end
theorem QgD (n:Nat) (l:List Int) (v:Int) (hl:l.length≤mx):Pure (Qq Tryz.prog (n+1)) 48 [(rd 1 Qa l),(tI v)] (T.sl true 1 ((ZF l v).map (Qa true))):=by
 refine Pure.intro (rs:= [ResultVar.tmp 4]) Tryz.func48 rfl rfl rfl (E0:= [(0,(rd 1 Qa l)),(1,(tI v))]) rfl ?_
 obtain ⟨hlim,hmx,hmax⟩:=QG
 refine sr (fO (OF.assign VEv.nils) (nt (sr (fO (OF.assign (VEv.int .i64 0)) (nt (sq (VRun.block ?_)))))))
 refine VRun.loop (A:=Nat) (fun s_=> [(0,(rd 1 Qa l)),(1,(tI v)),(4,T.nils),(5,(tN s_))]) (fun s_=>Q4 []) 0 (fun s_=>s_≤l.length∧∀j y,j<s_→l[j]? =some y→y<v) (fun s_=>l.length - s_) (0:Nat) ?_ (Wk.mk (fun k=>k) ?_ ?_ ?_) ?_
 ·exact ⟨Nat.zero_le _,fun j y hj=>by omega⟩
 ·exact (b2 (b2 (b2 (b2 bn))))
 ·exact bn
 ·exact nd rfl
 rintro k (hI':k≤l.length∧∀j y,j<k→l[j]? =some y→y<v)
 show VRun _ _ _ [(0,(rd 1 Qa l)),(1,(tI v)),(4,T.nils),(5,(tN k))] (Q4 []) 0 _
 have hI1:=hI'.1
 refine sq (sr (mO (tN k) rfl (mO (rd 1 Qa l) rfl (lO (B.lenR (m:=l.length) (tv (rd 1 Qa l) rfl) Zt (List.length_map ..)) (fO (Ze (tv (tN k) rfl) (tv (tN l.length) rfl)) (mO (tB (decide (k<l.length))) rfl ?_))))))
 refine gw (k<l.length) (fun fhg10_1=> ?_) fun fhg10_1=> ?_
 ·refine gF (dy fhg10_1) rfl rfl (OF.move (tv (rd 1 Qa l) rfl)) ?_
  refine gF (dy fhg10_1) rfl rfl (OF.move (tv (tN k) rfl)) ?_
  obtain ⟨x1,hx1⟩:∃x,l[k]? =some x:=⟨_,List.getElem?_eq_getElem (by omega)⟩
  refine gF (dy fhg10_1) rfl rfl (OF.indexAddrR (row:=(Qa false x1)) (i:=k) (tv (rd 1 Qa l) rfl) (tv (tN k) rfl) rfl (Qu _ hx1) Zt Za Yl) (gL (dy fhg10_1) rfl rfl (OL.loadR1 (t:=(tI x1)) (tv (T.rp [(tI x1)]) rfl) rfl QU) (gF (dy fhg10_1) rfl rfl (OF.move (tv (tI v) rfl)) (gF (dy fhg10_1) rfl rfl (xls (tv (tI x1) rfl) (tv (tI v) rfl)) (fO (OF.pickT (VEv.tmpB rfl (dy fhg10_1)) (tv (tB (decide (x1<v))) rfl)) (nt ?_)))))
  refine cd (x1<v) rfl (fun fhc0=> ?_) fun fhc0=> ?_
  ·refine sk ?_
   refine tn (VRun.block (VRun.region (mO (tN k) rfl (fO (QB (tv (tN k) rfl) (VEv.int .i64 1) (by omega)) (aO (tN (k+1)) rfl (VRunO.nil (vinB.n (tn ?_))))))))
   refine ⟨(k+1:Nat),?_,?_,Wk.mk (fun k=>k) ?_ ?_ ?_⟩
   ·refine ⟨by omega,fun j y hj hy=> ?_⟩
    rcases Nat.lt_or_ge j k with h1 | h1
    ·exact hI'.2 j y h1 hy
    ·obtain rfl:j=k:=(by omega);obtain rfl:=QgP hx1 hy;assumption
   ·omega
   ·exact (b2 (b2 (b2 (b2 bn))))
   ·exact bn
   ·exact nd rfl
  refine VRun.exit (vthn.e (vthn.e (vinB.e (tn (sq (sr (mO (tN k) rfl (mO (rd 1 Qa l) rfl (lO (B.lenR (m:=l.length) (tv (rd 1 Qa l) rfl) Zt (List.length_map ..)) (fO (Ze (tv (tN k) rfl) (tv (tN l.length) rfl)) (mO (tB (decide (k<l.length))) rfl ?_)))))))))))
  refine gF (dy fhg10_1) rfl rfl (OF.move (tv (rd 1 Qa l) rfl)) (gF (dy fhg10_1) rfl rfl (OF.move (tv (tN k) rfl)) (gF (dy fhg10_1) rfl rfl (OF.indexAddrR (row:=(Qa false x1)) (i:=k) (tv (rd 1 Qa l) rfl) (tv (tN k) rfl) rfl (Qu _ hx1) Zt Za Yl) (gL (dy fhg10_1) rfl rfl (OL.loadR1 (t:=(tI x1)) (tv (T.rp [(tI x1)]) rfl) rfl QU) (gF (dy fhg10_1) rfl rfl (OF.move (tv (tI v) rfl)) (gF (dy fhg10_1) rfl rfl (Y7 (tv (tI x1) rfl) (tv (tI v) rfl)) (fO (OF.pickT (VEv.tmpB rfl (dy fhg10_1)) (tv (tB (decide (x1=v))) rfl)) (nt ?_)))))))
  refine cd (x1=v) rfl (fun fhc1=> ?_) fun fhc1=> ?_
  ·refine sr ?_
   refine kO (OM.slice0 Zt zo3 (by kernel_rfl) rfl (by rw [Za];decide) Za) (mO (rd 1 Qa l) rfl (cO (B.append (rows:= []) (rows2:=(l.map (Qa false))) (rows3:=(l.map (Qa true))) (VDst.own (tv (T.os 1 0 0 0) rfl) rfl rfl) (VSrc.read (tv (rd 1 Qa l) rfl) Zt (okInt.okMap _ _)) nofun Zt Za (by decide) zo3 rfl (of_decide_eq_true (by kernel_rfl)) (by (simp only [List.length_map,List.length_append,List.length_cons,List.length_nil,List.length_replicate,List.length_set,List.length_drop,List.length_take,Jn] at *;omega)) (List.nil_append _)) (aO (T.os 1 1 0 ((l.map (Qa true)).length)) rfl (nt (rt (tr ?_))))))
   refine vfin.eq (r':=(T.sl true 1 (l.map (Qa true)))) ?_ (vfin.r (VRes.tmp (t:=(T.os 1 1 0 ((l.map (Qa true)).length))) rfl VRes.nil) (Give.os rfl rfl (okInt.cleanMap _)))
   show (T.sl true 1 (l.map (Qa true)))=(T.sl true 1 ((ZF l v).map (Qa true)))
   refine congrArg (fun l_=>T.sl true 1 (List.map (Qa true) l_)) ?_
   (refine QlF hI'.2 ?_;simp_all;done)
  refine sk (tn (sq (VRun.draw (B:= [[],[],[],[2,1],[1,2,3,0],[],[5],[5,6,0,3,2,1,4],[],[],[9,8],[8,9,10,4,1,2,3,0,6,5,7],[7,5,6,0,3,2,1,4,10,9,8,11]]) (by kernel_rfl) (by kernel_rfl) (VRunD.make rfl VWant.always rfl (OM.slice0 Zt zo3 (by kernel_rfl) rfl (by rw [Za];decide) Za) (mD (rd 1 Qa l) rfl rfl (mD (tN k) rfl rfl (lD (show OL _ _ _ _ _ (T.sl false 1 ((l.take k).map (Qa false))) by rw [List.map_take];exact (OL.sliceRHi (j:=k) (tv (rd 1 Qa l) rfl) (tv (tN k) rfl) rfl (by (simp only [List.length_map];omega)) Zt Za Yl)) rfl rfl (VRunD.quiet (bi:= [1,2,3,0]) rfl VWant.always rfl rfl rfl (bc (lb rfl) bn) (B.append (rows:= []) (rows2:=((l.take k).map (Qa false))) (rows3:=((l.take k).map (Qa true))) (VDst.own (tv (T.os 1 0 0 0) rfl) rfl rfl) (VSrc.read (tv (rd 1 Qa (l.take k)) rfl) Zt (okInt.okMap _ _)) nofun Zt Za (by decide) zo3 rfl (of_decide_eq_true (by kernel_rfl)) (by (simp only [List.length_map,List.length_append,List.length_cons,List.length_nil,List.length_replicate,List.length_set,List.length_drop,List.length_take,Jn] at *;omega)) (List.nil_append _)) (mD (tI v) rfl rfl (VRunD.make rfl VWant.always rfl (OM.buildSlice (l:= [(tI v)]) (VEvp.cons (tv (tI v) rfl) VEvp.nil) rfl (by decide) (bc (nofun) bn) (bc ((bc (rfl) bn)) bn) (bc (rfl) bn) Zt zo3 (by kernel_rfl) rfl (by rw [Za];decide) Za (Nat.le_of_ble_eq_true rfl)) (VRunD.quiet (bi:= [5,6,0,3,2,1,4]) rfl VWant.always rfl rfl rfl (bc (lb rfl) (bc (lb rfl) bn)) (B.append (rows:=((l.take k).map (Qa true))) (rows2:= [[(tI v)]]) (rows3:=(((l.take k)++ [v]).map (Qa true))) (VDst.own (tv (T.os 1 1 0 (((l.take k).map (Qa true)).length)) rfl) rfl rfl) (VSrc.own (tv (T.os 1 2 0 1) rfl) rfl rfl Zt (bc (bc rfl bn) bn)) (by decide) Zt Za (by decide) zo3 rfl (of_decide_eq_true (by kernel_rfl)) (by (simp only [List.length_map,List.length_append,List.length_cons,List.length_nil,List.length_replicate,List.length_set,List.length_drop,List.length_take,Jn] at *;omega)) ((List.map_append (f:=Qa true) (l₁:=(l.take k)) (l₂:= [v])).symm)) ?_)))))))))))
  refine mD (rd 1 Qa l) rfl rfl (mD (tN k) rfl rfl (lD (show OL _ _ _ _ _ (T.sl false 1 ((l.drop k).map (Qa false))) by rw [List.map_drop];exact (OL.sliceRLo (i:=k) (tv (rd 1 Qa l) rfl) (tv (tN k) rfl) rfl (by (simp only [List.length_map];omega)) Zt Za Yl)) rfl rfl (VRunD.quiet (bi:= [8,9,10,4,1,2,3,0,6,5,7]) rfl VWant.always rfl rfl rfl (bc (lb rfl) bn) (B.append (rows:=(((l.take k)++ [v]).map (Qa true))) (rows2:=((l.drop k).map (Qa false))) (rows3:=((((l.take k)++ [v])++(l.drop k)).map (Qa true))) (VDst.own (tv (T.os 1 3 0 ((((l.take k)++ [v]).map (Qa true)).length)) rfl) rfl rfl) (VSrc.read (tv (rd 1 Qa (l.drop k)) rfl) Zt (okInt.okMap _ _)) nofun Zt Za (by decide) zo3 rfl (of_decide_eq_true (by kernel_rfl)) (by (simp only [List.length_map,List.length_append,List.length_cons,List.length_nil,List.length_replicate,List.length_set,List.length_drop,List.length_take,Jn] at *;omega)) ((List.map_append (f:=Qa true) (l₁:=((l.take k)++ [v])) (l₂:=(l.drop k))).symm)) (fD (OF.assign (tv (T.os 1 4 0 (((((l.take k)++ [v])++(l.drop k)).map (Qa true)).length)) rfl)) rfl rfl (VRunD.nil (tn (rt ?_)))))))
  refine vfin.eq (r':=(T.sl true 1 ((((l.take k)++ [v])++(l.drop k)).map (Qa true)))) ?_ (vfin.r (VRes.tmp (t:=(T.os 1 4 0 (((((l.take k)++ [v])++(l.drop k)).map (Qa true)).length))) rfl VRes.nil) (Give.os rfl rfl (okInt.cleanMap _)))
  show (T.sl true 1 ((((l.take k)++ [v])++(l.drop k)).map (Qa true)))=(T.sl true 1 ((ZF l v).map (Qa true)))
  refine congrArg (fun l_=>T.sl true 1 (List.map (Qa true) l_)) ?_
  (refine Qh5 hI'.2 hI1 ?_;intro y hy;obtain rfl:=QgP hx1 hy;omega)
 refine Qy 6 4 true 10 (dz fhg10_1) rfl rfl rfl (fO (OF.pickF (VEv.tmpB rfl (dz fhg10_1)) (VEv.bool false)) (nt (cf rfl (VRun.exit (vthn.e (vthn.e (vinB.e (tn (sq (sr (mO (tN k) rfl ?_)))))))))))
 refine mO (rd 1 Qa l) rfl (lO (B.lenR (m:=l.length) (tv (rd 1 Qa l) rfl) Zt (List.length_map ..)) (fO (Ze (tv (tN k) rfl) (tv (tN l.length) rfl)) (mO (tB (decide (k<l.length))) rfl (Qy 6 4 true 24 (dz fhg10_1) rfl rfl rfl (fO (OF.pickF (VEv.tmpB rfl (dz fhg10_1)) (VEv.bool false)) (nt (cf rfl (sk (tn (sq (VRun.draw (B:= [[],[],[],[2,1],[1,2,3,0],[],[5],[5,6,0,3,2,1,4],[],[],[9,8],[8,9,10,4,1,2,3,0,6,5,7],[7,5,6,0,3,2,1,4,10,9,8,11]]) (by kernel_rfl) (by kernel_rfl) ?_)))))))))))
 refine VRunD.make rfl VWant.always rfl (OM.slice0 Zt zo3 (by kernel_rfl) rfl (by rw [Za];decide) Za) (mD (rd 1 Qa l) rfl rfl (mD (tN k) rfl rfl (lD (show OL _ _ _ _ _ (T.sl false 1 ((l.take k).map (Qa false))) by rw [List.map_take];exact (OL.sliceRHi (j:=k) (tv (rd 1 Qa l) rfl) (tv (tN k) rfl) rfl (by (simp only [List.length_map];omega)) Zt Za Yl)) rfl rfl (VRunD.quiet (bi:= [1,2,3,0]) rfl VWant.always rfl rfl rfl (bc (lb rfl) bn) (B.append (rows:= []) (rows2:=((l.take k).map (Qa false))) (rows3:=((l.take k).map (Qa true))) (VDst.own (tv (T.os 1 0 0 0) rfl) rfl rfl) (VSrc.read (tv (rd 1 Qa (l.take k)) rfl) Zt (okInt.okMap _ _)) nofun Zt Za (by decide) zo3 rfl (of_decide_eq_true (by kernel_rfl)) (by (simp only [List.length_map,List.length_append,List.length_cons,List.length_nil,List.length_replicate,List.length_set,List.length_drop,List.length_take,Jn] at *;omega)) (List.nil_append _)) (mD (tI v) rfl rfl (VRunD.make rfl VWant.always rfl (OM.buildSlice (l:= [(tI v)]) (VEvp.cons (tv (tI v) rfl) VEvp.nil) rfl (by decide) (bc (nofun) bn) (bc ((bc (rfl) bn)) bn) (bc (rfl) bn) Zt zo3 (by kernel_rfl) rfl (by rw [Za];decide) Za (Nat.le_of_ble_eq_true rfl)) (VRunD.quiet (bi:= [5,6,0,3,2,1,4]) rfl VWant.always rfl rfl rfl (bc (lb rfl) (bc (lb rfl) bn)) (B.append (rows:=((l.take k).map (Qa true))) (rows2:= [[(tI v)]]) (rows3:=(((l.take k)++ [v]).map (Qa true))) (VDst.own (tv (T.os 1 1 0 (((l.take k).map (Qa true)).length)) rfl) rfl rfl) (VSrc.own (tv (T.os 1 2 0 1) rfl) rfl rfl Zt (bc (bc rfl bn) bn)) (by decide) Zt Za (by decide) zo3 rfl (of_decide_eq_true (by kernel_rfl)) (by (simp only [List.length_map,List.length_append,List.length_cons,List.length_nil,List.length_replicate,List.length_set,List.length_drop,List.length_take,Jn] at *;omega)) ((List.map_append (f:=Qa true) (l₁:=(l.take k)) (l₂:= [v])).symm)) (mD (rd 1 Qa l) rfl rfl (mD (tN k) rfl rfl (lD (show OL _ _ _ _ _ (T.sl false 1 ((l.drop k).map (Qa false))) by rw [List.map_drop];exact (OL.sliceRLo (i:=k) (tv (rd 1 Qa l) rfl) (tv (tN k) rfl) rfl (by (simp only [List.length_map];omega)) Zt Za Yl)) rfl rfl (VRunD.quiet (bi:= [8,9,10,4,1,2,3,0,6,5,7]) rfl VWant.always rfl rfl rfl (bc (lb rfl) bn) (B.append (rows:=(((l.take k)++ [v]).map (Qa true))) (rows2:=((l.drop k).map (Qa false))) (rows3:=((((l.take k)++ [v])++(l.drop k)).map (Qa true))) (VDst.own (tv (T.os 1 3 0 ((((l.take k)++ [v]).map (Qa true)).length)) rfl) rfl rfl) (VSrc.read (tv (rd 1 Qa (l.drop k)) rfl) Zt (okInt.okMap _ _)) nofun Zt Za (by decide) zo3 rfl (of_decide_eq_true (by kernel_rfl)) (by (simp only [List.length_map,List.length_append,List.length_cons,List.length_nil,List.length_replicate,List.length_set,List.length_drop,List.length_take,Jn] at *;omega)) ((List.map_append (f:=Qa true) (l₁:=((l.take k)++ [v])) (l₂:=(l.drop k))).symm)) ?_)))))))))))
 refine fD (OF.assign (tv (T.os 1 4 0 (((((l.take k)++ [v])++(l.drop k)).map (Qa true)).length)) rfl)) rfl rfl (VRunD.nil (tn (rt ?_)))
 refine vfin.eq (r':=(T.sl true 1 ((((l.take k)++ [v])++(l.drop k)).map (Qa true)))) ?_ (vfin.r (VRes.tmp (t:=(T.os 1 4 0 (((((l.take k)++ [v])++(l.drop k)).map (Qa true)).length))) rfl VRes.nil) (Give.os rfl rfl (okInt.cleanMap _)))
 show (T.sl true 1 ((((l.take k)++ [v])++(l.drop k)).map (Qa true)))=(T.sl true 1 ((ZF l v).map (Qa true)))
 refine congrArg (fun l_=>T.sl true 1 (List.map (Qa true) l_)) ?_
 (refine Qh5 hI'.2 hI1 ?_;intro y hy;have:=(List.getElem?_eq_some_iff.1 hy).1;omega)
end Go.Proofs.YtcccmceoplcciaaGreat.AE
namespace Go.Proofs.YtcccmceoplcciaaGreat.AE
open Go Go.RowKit
set_option linter.unusedVariables false
set_option linter.unusedSimpArgs false
set_option maxRecDepth 20000
set_option maxHeartbeats 2000000
noncomputable section
def Qcy (l:List Int):Prop:=l.Pairwise (· < ·)
def YQ (l:List Int):List Int:=Lib.compact (Yy l)
theorem QeL : ∀ {a b:List Int},Qcy a→Qcy b→(∀x,x∈a↔x∈b)→a=b
 | [],[],_,_,_=>rfl
 | [],y::s,_,_,h=>by have:=(h y).2 (by simp);simp at this
 | x::r,[],_,_,h=>by have:=(h x).1 (by simp);simp at this
 | x::r,y::s,h1,h2,h=>by
  have a1:=List.pairwise_cons.1 h1
  have b1:=List.pairwise_cons.1 h2
  have hxy:x=y:=by
   have e1:=(h x).1 (by simp)
   have e2:=(h y).2 (by simp)
   rcases List.mem_cons.1 e1 with e1 | e1
   ·exact e1
   ·rcases List.mem_cons.1 e2 with e2 | e2
    ·exact e2.symm
    ·have:=a1.1 y e2
     have:=b1.1 x e1
     omega
  subst hxy
  rw [QeL a1.2 b1.2 (fun z=> ?_)]
  have hz:=h z
  simp only [List.mem_cons] at hz
  refine ⟨fun e=> ?_,fun e=> ?_⟩
  ·have:=a1.1 z e
   rcases hz.1 (.inr e) with e1 | e1
   ·omega
   ·exact e1
  ·have:=b1.1 z e
   rcases hz.2 (.inr e) with e1 | e1
   ·omega
   ·exact e1
theorem QfM (d:Array Int) (hs:∀j,j+1<d.size→d[j]! ≤d[j+1]!):∀m,m≤d.size→Qcy (Lib.compactUpTo d m)∧(∀x∈Lib.compactUpTo d m,0<m∧x≤d[m - 1]!)∧(∀j,j<m→d[j]! ∈Lib.compactUpTo d m)∧(∀x∈Lib.compactUpTo d m,∃j,j<m∧x=d[j]!)
 | 0,_=>⟨List.Pairwise.nil,fun x hx=>by simp [Lib.compactUpTo] at hx,fun j hj=>by omega,fun x hx=>by simp [Lib.compactUpTo] at hx⟩
 | m+1,hm=>by
  obtain ⟨h1,h2,h3,h4⟩:=QfM d hs m (by omega)
  rw [Lib.compactUpTo_succ]
  by_cases hk:Lib.keeps d m=true
  ·rw [if_pos hk]
   have hlt:∀x∈Lib.compactUpTo d m,x<d[m]! :=fun x hx=>by
    obtain ⟨h5,h6⟩:=h2 x hx
    have h7:=hs (m - 1) (by omega)
    rw [show m - 1+1=m by omega] at h7
    have h8:d[m]! ≠d[m - 1]! :=fun e=>by
     rw [Lib.keeps_neg h5 e] at hk
     cases hk
    omega
   refine ⟨List.pairwise_append.2 ⟨h1,List.pairwise_singleton _ _,fun x hx y hy=> ?_⟩,fun x hx=> ?_,fun j hj=> ?_,fun x hx=> ?_⟩
   ·obtain rfl:=List.mem_singleton.1 hy
    exact hlt x hx
   ·rw [Nat.add_sub_cancel]
    rcases List.mem_append.1 hx with hx | hx
    ·have:=hlt x hx
     omega
    ·obtain rfl:=List.mem_singleton.1 hx
     omega
   ·rcases Nat.lt_or_ge j m with h | h
    ·exact List.mem_append.2 (.inl (h3 j h))
    ·obtain rfl:j=m:=by omega
     exact List.mem_append.2 (.inr (List.mem_singleton.2 rfl))
   ·rcases List.mem_append.1 hx with hx | hx
    ·obtain ⟨j,hj,e⟩:=h4 x hx
     exact ⟨j,by omega,e⟩
    ·exact ⟨m,by omega,List.mem_singleton.1 hx⟩
  ·have hm0:0<m:=Nat.pos_of_ne_zero (fun e=>hk (by rw [e];exact Lib.keeps_lt_one d 0 (by omega)))
   have he:d[m]! =d[m - 1]! :=Classical.byContradiction fun e=>hk (Lib.keeps_pos e)
   rw [if_neg hk,List.append_nil]
   refine ⟨h1,fun x hx=>⟨by omega,?_⟩,fun j hj=> ?_,fun x hx=> ?_⟩
   ·rw [Nat.add_sub_cancel,he]
    exact (h2 x hx).2
   ·rcases Nat.lt_or_ge j m with h | h
    ·exact h3 j h
    ·obtain rfl:j=m:=by omega
     rw [he]
     exact h3 (j - 1) (by omega)
   ·obtain ⟨j,hj,e⟩:=h4 x hx
    exact ⟨j,by omega,e⟩
theorem Qhf (l:List Int):(Yy l).Pairwise (· ≤ ·):=by
 have:=List.pairwise_mergeSort (le:=fun x y:Int=>decide (x≤y)) (by intro a b c;simp;omega) (by intro a b;simp;omega) l
 exact this.imp (fun h=>by simpa using h)
theorem QiZ {l:List Int} {x:Int}:x∈Yy l↔x∈l:=List.mem_mergeSort
theorem QdH {l:List Int} (hl:l.Pairwise (· ≤ ·)):Qcy (Lib.compact l)∧∀x,x∈Lib.compact l↔x∈l:=by
 obtain ⟨h1,_,h3,h4⟩:=QfM l.toArray (fun j hj=>by
  have hj':j+1<l.length:=by simpa using hj
  have:=List.pairwise_iff_getElem.1 hl j (j+1) (by omega) hj' (by omega)
  simpa [show j<l.length by omega,hj'] using this) l.length (by simp)
 refine ⟨h1,fun x=>⟨fun hx=> ?_,fun hx=> ?_⟩⟩
 ·obtain ⟨j,hj,e⟩:=h4 x hx
  rw [e]
  simp [hj]
 ·obtain ⟨j,hj,e⟩:=List.getElem_of_mem hx
  have:=h3 j hj
  simp only [List.getElem!_toArray,getElem!_pos l j hj,e] at this
  exact this
theorem Qeh (l:List Int):Qcy (YQ l):=(QdH (Qhf l)).1
theorem Qhb {l:List Int} {x:Int}:x∈YQ l↔x∈l:=((QdH (Qhf l)).2 x).trans QiZ
theorem srtd_eq {l:List Int}:YQ l=l↔Qcy l:=⟨fun h=>h▸Qeh l,fun h=>QeL (Qeh l) h (fun _=>Qhb)⟩
theorem QkD {l:List Int} {v:Int} (h:Qcy l):YQ (l++ [v])=ZF l v:=QeL (Qeh _) (Qju h) (fun x=>by rw [Qhb,l9put_mem];simp)
theorem Qko (l:List Int):(YQ l).length≤l.length:=by
 have:=Qej (Yy l)
 rw [Ju] at this
 exact this
def Qhw (n:Int) (l:List Int) (j:Nat):Prop:=∃x,l[j]? =some x∧(0≤x∧x≤n)∧(0<j→∃y,l[j - 1]? =some y∧¬x≤y)
theorem asc_of {n:Int} {l:List Int}:(∀j,j<l.length→Qhw n l j)↔(∀x∈l,0≤x∧x≤n)∧Qcy l:=by
 refine ⟨fun h=>⟨fun x hx=> ?_,?_⟩,fun h j hj=> ?_⟩
 ·obtain ⟨j,hj,e⟩:=List.getElem_of_mem hx
  obtain ⟨y,h1,h2,_⟩:=h j hj
  rw [List.getElem?_eq_getElem hj,e] at h1
  cases h1
  exact h2
 ·have key:∀k i (hi:i<l.length) (hk:i+k+1<l.length),l[i]<l[i+k+1]:=by
   intro k
   induction k with
   | zero =>
    intro i hi hk
    obtain ⟨x,h1,_,h3⟩:=h (i+0+1) hk
    obtain ⟨y,h4,h5⟩:=h3 (by omega)
    rw [List.getElem?_eq_getElem hk] at h1
    rw [show i+0+1 - 1=i by omega,List.getElem?_eq_getElem hi] at h4
    have e1:=Option.some.inj h1
    have e2:=Option.some.inj h4
    omega
   | succ k ih =>
    intro i hi hk
    have a1:=ih i hi (by omega)
    obtain ⟨x,h1,_,h3⟩:=h (i+(k+1)+1) hk
    obtain ⟨y,h4,h5⟩:=h3 (by omega)
    rw [List.getElem?_eq_getElem hk] at h1
    rw [show i+(k+1)+1 - 1=i+k+1 by omega,List.getElem?_eq_getElem (show i+k+1<l.length by omega)] at h4
    have e1:=Option.some.inj h1
    have e2:=Option.some.inj h4
    omega
  refine List.pairwise_iff_getElem.2 (fun i j hi hj hij=> ?_)
  have:=key (j - i - 1) i hi (by omega)
  simp only [show i+(j - i - 1)+1=j by omega] at this
  exact this
 ·refine ⟨l[j],List.getElem?_eq_getElem hj,h.1 _ (List.getElem_mem hj),fun h0=>⟨l[j - 1],List.getElem?_eq_getElem (by omega),?_⟩⟩
  have:=List.pairwise_iff_getElem.1 h.2 (j - 1) j (by omega) hj (by omega)
  omega
end
theorem YK (n:Nat) (a:List Int) (ha:a.length≤mx+1):Pure (Qq Tryz.prog (n+1)) 113 [(rd 1 Qa a)] (T.sl true 1 (a.map (Qa true))):=by
 refine Pure.intro (rs:= [ResultVar.tmp 2]) Tryz.func113 rfl rfl rfl (E0:= [(0,(rd 1 Qa a))]) rfl ?_
 obtain ⟨hlim,hmx,hmax⟩:=QG
 refine sr (fO (OF.assign VEv.nils) (nt (sq (sr (mO (rd 1 Qa a) rfl ?_)))))
 refine VRunO.nilEq VWant.always (tv (rd 1 Qa a) rfl) VEv.nils Zt (fun bn1 hbn1=> ?_)
 refine nt ?_
 refine VRun.cond (tv (tB bn1) rfl) (fun hc0=> ?_) (fun hc0=> ?_)
 ·have fhc0:bn1=true:=hc0
  have ebn1:=hbn1 hc0
  refine sr (fO (OF.assign VEv.nils) (nt (rt (tr ?_))))
  refine vfin.eq (r':=(T.sl true 1 [])) ?_ (vfin.r (VRes.tmp (t:=T.nils) rfl VRes.nil) (Give.nils 1))
  show (T.sl true 1 [])=(T.sl true 1 (a.map (Qa true)))
  refine congrArg (fun l_=>T.sl true 1 (List.map (Qa true) l_)) (a₁:= []) ?_
  exact (List.map_eq_nil_iff.1 ebn1).symm
 have fhc0:bn1=false:=hc0
 refine sk (tn (sr (kO (OM.slice0 Zt zo3 (by kernel_rfl) rfl (by rw [Za];decide) Za) (mO (rd 1 Qa a) rfl (cO (B.append (rows:= []) (rows2:=(a.map (Qa false))) (rows3:=(a.map (Qa true))) (VDst.own (tv (T.os 1 0 0 0) rfl) rfl rfl) (VSrc.read (tv (rd 1 Qa a) rfl) Zt (okInt.okMap _ _)) nofun Zt Za (by decide) zo3 rfl (of_decide_eq_true (by kernel_rfl)) (by (simp only [List.length_map,List.length_append,List.length_cons,List.length_nil,List.length_replicate,List.length_set,List.length_drop,List.length_take,Jn] at *;omega)) (List.nil_append _)) (aO (T.os 1 1 0 ((a.map (Qa true)).length)) rfl (nt (rt ?_))))))))
 refine vfin.eq (r':=(T.sl true 1 (a.map (Qa true)))) ?_ (vfin.r (VRes.tmp (t:=(T.os 1 1 0 ((a.map (Qa true)).length))) rfl VRes.nil) (Give.os rfl rfl (okInt.cleanMap _)))
 rfl
theorem QaL (n:Nat) (a:List Int) (ha:a.length≤mx+1):Loan (Qq Tryz.prog (n+1)) 114 1 (List.map (Qa true) a) [(T.os 1 0 0 ((a.map (Qa true)).length))] (T.tup []) (List.map (Qa true) (Yy a)):=by
 obtain ⟨hlim,hmx,hmax⟩:=QG
 exact Qkw n rfl rfl a (by omega)
theorem J2 (n:Nat) (a:List Int) (ha:a.length≤mx+1):Loan (Qq Tryz.prog (n+1)) 115 1 (List.map (Qa true) a) [(T.os 1 0 0 ((a.map (Qa true)).length))] (T.os 1 0 0 (List.map (Qa true) (Lib.compact a)).length) (List.map (Qa true) (Lib.compact a)):=by
 obtain ⟨hlim,hmx,hmax⟩:=QG
 exact Qkb n rfl rfl a (by omega)
theorem J8 (n:Nat) (a:List Int) (ha:a.length≤mx+1):Pure (Qq Tryz.prog (n+2)) 67 [(rd 1 Qa a)] (T.sl true 1 ((YQ a).map (Qa true))):=by
 refine Pure.intro (rs:= [ResultVar.tmp 2]) Tryz.func67 rfl rfl rfl (E0:= [(0,(rd 1 Qa a))]) rfl ?_
 obtain ⟨hlim,hmx,hmax⟩:=QG
 have hsl:=Ju a
 refine sr (fO (OF.assign VEv.nils) (nt (sr (mO (rd 1 Qa a) rfl (cO (OC.callF (us:= [(rd 1 Qa a)]) (r:=(T.sl true 1 (a.map (Qa true)))) (r':=(T.os 1 0 0 ((a.map (Qa true)).length))) (objs:= [(Obj.rows 1 (a.map (Qa true)))]) rfl (vc (tv (rd 1 Qa a) rfl) vn) (ZO rfl) (YK (n+0) a (by assumption)) rfl) (aO (T.os 1 0 0 ((a.map (Qa true)).length)) rfl (nt (sr (mO (T.os 1 0 0 ((a.map (Qa true)).length)) rfl (cO (OC.callLoan (ts:= [(T.os 1 0 0 ((a.map (Qa true)).length))]) (k:=0) (r:=(T.tup [])) (rows:=(a.map (Qa true))) (rows':=((Yy a).map (Qa true))) rfl (vc (tv (T.os 1 0 0 ((a.map (Qa true)).length)) rfl) vn) rfl rfl rfl LRes.none rfl (Zo (fun _=>rfl) _) (Zo (fun _=>rfl) _) (QaL (n+0) a (by assumption))) (nt ?_)))))))))))
 refine sr (mO (T.os 1 0 0 ((a.map (Qa true)).length)) rfl (cO (OC.callLoan (ts:= [(T.os 1 0 0 ((a.map (Qa true)).length))]) (k:=0) (r:=(T.os 1 0 0 (((Lib.compact (Yy a)).map (Qa true)).length))) (rows:=((Yy a).map (Qa true))) (rows':=((Lib.compact (Yy a)).map (Qa true))) rfl (vc (tv (T.os 1 0 0 ((a.map (Qa true)).length)) rfl) vn) rfl rfl rfl (LRes.os _ _) rfl (Zo (fun _=>rfl) _) (Zo (fun _=>rfl) _) (Loan.len (by simp only [List.length_map,Ju]) (J2 (n+0) (Yy a) (by omega)))) (aO (T.os 1 0 0 (((Lib.compact (Yy a)).map (Qa true)).length)) rfl (nt (rt ?_)))))
 refine vfin.eq (r':=(T.sl true 1 ((Lib.compact (Yy a)).map (Qa true)))) ?_ (vfin.r (VRes.tmp (t:=(T.os 1 0 0 (((Lib.compact (Yy a)).map (Qa true)).length))) rfl VRes.nil) (Give.os rfl rfl (okInt.cleanMap _)))
 show (T.sl true 1 ((Lib.compact (Yy a)).map (Qa true)))=(T.sl true 1 ((YQ a).map (Qa true)))
 refine congrArg (fun l_=>T.sl true 1 (List.map (Qa true) l_)) ?_
 rfl
theorem Qgo (n:Nat) (l:List Int) (a:Int) (b:Int) (hl:l.length≤mx+1):Pure (Qq Tryz.prog (n+2)) 65 [(rd 1 Qa l),(tI a),(tI b)] (tB (decide (∀x∈l,a≤x∧x≤b))):=by
 refine Pure.intro (rs:= [ResultVar.tmp 6]) Tryz.func65 rfl rfl rfl (E0:= [(0,(rd 1 Qa l)),(1,(tI a)),(2,(tI b))]) rfl ?_
 obtain ⟨hlim,hmx,hmax⟩:=QG
 refine sr (fO (OF.assign (VEv.bool false)) (nt (sq (sr (mO (rd 1 Qa l) rfl (lO (B.lenR (m:=l.length) (tv (rd 1 Qa l) rfl) Zt (List.length_map ..)) (fO (OF.move (VEv.int .i64 0)) (nt (VRun.block ?_)))))))))
 refine VRun.loop (A:=Nat) (fun s_=> [(1,(tI a)),(2,(tI b)),(9,(rd 1 Qa l)),(10,(tN l.length)),(11,(tN s_))]) (fun s_=>Q4 []) 0 (fun s_=>s_≤l.length∧∀j,j<s_→∃x,l[j]? =some x∧(a≤x∧x≤b)) (fun s_=>l.length - s_) (0:Nat) ?_ (Wk.mk (fun k=>k) ?_ ?_ ?_) ?_
 ·exact ⟨Nat.zero_le _,fun j hj=>by omega⟩
 ·exact (b2 (b2 (b2 (b2 (b2 bn)))))
 ·exact bn
 ·exact nd rfl
 rintro i (hI':i≤l.length∧∀j,j<i→∃x,l[j]? =some x∧(a≤x∧x≤b))
 show VRun _ _ _ [(1,(tI a)),(2,(tI b)),(9,(rd 1 Qa l)),(10,(tN l.length)),(11,(tN i))] (Q4 []) 0 _
 have hI0:=hI'
 refine sr (fO (Ze (tv (tN i) rfl) (tv (tN l.length) rfl)) (nt (sq ?_)))
 refine cd (i<l.length) rfl (fun fhc0=> ?_) fun fhc0=> ?_
 ·refine sk ?_
  refine tn (sq (VRun.block (sr ?_)))
  obtain ⟨x1,hx1⟩:∃x,l[i]? =some x:=⟨_,List.getElem?_eq_getElem (by omega)⟩
  refine fO (OF.indexAddrR (row:=(Qa false x1)) (i:=i) (tv (rd 1 Qa l) rfl) (tv (tN i) rfl) rfl (Qu _ hx1) Zt Za Yl) (lO (OL.loadR1 (t:=(tI x1)) (tv (T.rp [(tI x1)]) rfl) rfl QU) (aO (tI x1) rfl (nt (sr (mO (tI x1) rfl (mO (tI a) rfl (mO (tI b) rfl (cO (cS (vc (tv (tI x1) rfl) (vc (tv (tI a) rfl) (vc (tv (tI b) rfl) vn))) (ZO rfl) (QW (n+0) x1 a b) rfl rfl) (fO (QS (tv (tB (decide (a≤x1∧x1≤b))) rfl)) (nt ?_))))))))))
  refine cn (a≤x1∧x1≤b) rfl (fun fhc1=> ?_) fun fhc1=> ?_
  ·refine sr ?_
   refine fO (OF.assign (VEv.bool false)) (nt (rt (vinB.r (tr (tr (vinB.r (tr (vb (b':=false) rfl ?_))))))))
   symm;rw [decide_eq_false_iff_not];intro h;have:=h x1 (List.mem_of_getElem? hx1);omega
  refine sk (vinB.n (tn (VRun.region (fO (QB (tv (tN i) rfl) (VEv.int .i64 1) (by omega)) (mO (tN (i+1)) rfl (VRunO.nil (tn ?_)))))))
  refine ⟨(i+1:Nat),?_,?_,Wk.mk (fun k=>k) ?_ ?_ ?_⟩
  ·exact QQ hI0 fhc0 ⟨x1,hx1,by omega⟩
  ·omega
  ·exact (b2 (b2 (b2 (b2 (b2 bn)))))
  ·exact bn
  ·exact nd rfl
 refine VRun.exit (vthn.e (vthn.e (vinB.e (tn (sr (fO (OF.assign (VEv.bool true)) (nt (rt (vb (b':=true) rfl ?_)))))))))
 symm;rw [decide_eq_true_eq];intro x hx;obtain ⟨j,hj,e⟩:=List.getElem_of_mem hx;obtain ⟨y,h1,h2⟩:=YS hI' fhc0 j hj;rw [List.getElem?_eq_getElem hj,e] at h1;cases h1;exact h2
end Go.Proofs.YtcccmceoplcciaaGreat.AE
namespace Go.Proofs.YtcccmceoplcciaaGreat.AE
open Go Go.RowKit
set_option linter.unusedVariables false
set_option linter.unusedSimpArgs false
set_option maxRecDepth 20000
set_option maxHeartbeats 2000000
noncomputable section
def JJ (s:ByteArray):Prop:=(1≤s.size∧s.size≤8)∧∀i,i<s.size→Qs s i=63∨(97≤Qs s i∧Qs s i≤122)
instance (s:ByteArray):Decidable (JJ s):=Classical.propDecidable _
end
theorem QcW (n:Nat) (a:ByteArray) (ha:a.size≤maxLen):Pure (Qq Tryz.prog (n+2)) 84 [(tS a)] (tB (decide (JJ a))):=by
 refine Pure.intro (rs:= [ResultVar.tmp 2]) Tryz.func84 rfl rfl rfl (E0:= [(0,(tS a))]) rfl ?_
 obtain ⟨hlim,hmx,hmax⟩:=QG
 refine sr (fO (OF.assign (VEv.bool false)) (nt (sq (sr (mO (tS a) rfl (lO (B.lenS (tv (tS a) rfl) U9) (cO (cS (vc (tv (tN a.size) rfl) (vc (VEv.int .i64 1) (vc (VEv.int .i64 8) vn))) (ZO rfl) (QN (n+0) ((a.size:Nat):Int) 1 8) rfl rfl) (fO (QS (tv (tB (decide (1≤((a.size:Nat):Int)∧((a.size:Nat):Int)≤8))) rfl)) (nt ?_)))))))))
 refine cn (1≤((a.size:Nat):Int)∧((a.size:Nat):Int)≤8) rfl (fun fhc0=> ?_) fun fhc0=> ?_
 ·refine sr ?_
  refine fO (OF.assign (VEv.bool false)) (nt (rt (tr (vb (b':=false) rfl ?_))))
  (symm;rw [decide_eq_false_iff_not];rintro ⟨h1,h2⟩;omega)
 refine sk (tn (sq (sr (fO (OF.assign (VEv.int .i64 0)) (nt (VRun.block ?_))))))
 refine VRun.loop (A:=Nat) (fun s_=> [(0,(tS a)),(3,(tN s_))]) (fun s_=>Q4 []) 0 (fun s_=>s_≤a.size∧∀j,j<s_→Qs a j=63∨(97≤Qs a j∧Qs a j≤122)) (fun s_=>a.size - s_) (0:Nat) ?_ (Wk.mk (fun k=>k) ?_ ?_ ?_) ?_
 ·exact ⟨Nat.zero_le _,fun j hj=>by omega⟩
 ·exact (b2 (b2 bn))
 ·exact bn
 ·exact nd rfl
 rintro i (hI':i≤a.size∧∀j,j<i→Qs a j=63∨(97≤Qs a j∧Qs a j≤122))
 show VRun _ _ _ [(0,(tS a)),(3,(tN i))] (Q4 []) 0 _
 refine sq (sr (mO (tN i) rfl (mO (tS a) rfl (lO (B.lenS (tv (tS a) rfl) U9) (fO (Ze (tv (tN i) rfl) (tv (tN a.size) rfl)) (nt ?_))))))
 refine cd (i<a.size) rfl (fun fhc1=> ?_) fun fhc1=> ?_
 ·refine sk ?_
  refine tn (sq (VRun.block (sr (mO (tS a) rfl (mO (tN i) rfl ?_)))))
  have hb1:i<a.size:=(by omega)
  refine fO (JZ (tv (tS a) rfl) (tv (tN i) rfl) hb1 U9) (fO (xne (tv (T.int .u8 (Qs a i)) rfl) (VEv.int .u8 63)) (mO (tB (!(decide (Qs a i=63)))) rfl ?_))
  refine gn (Qs a i=63) (fun fhg18_2=> ?_) fun fhg18_2=> ?_
  ·refine gF (ny fhg18_2) rfl rfl (OF.move (tv (tS a) rfl)) ?_
   refine gF (ny fhg18_2) rfl rfl (OF.move (tv (tN i) rfl)) ?_
   have hb3:i<a.size:=(by omega)
   refine gF (ny fhg18_2) rfl rfl (JZ (tv (tS a) rfl) (tv (tN i) rfl) hb3 U9) (gF (ny fhg18_2) rfl rfl (xls (tv (T.int .u8 (Qs a i)) rfl) (VEv.int .u8 97)) (gF (ny fhg18_2) rfl rfl (OF.move (tv (tB (decide (Qs a i<97))) rfl)) ?_))
   refine gw (Qs a i<97) (fun fhg23_4=> ?_) fun fhg23_4=> ?_
   ·refine Qy 4 9 false 23 (dy fhg23_4) rfl rfl rfl ?_
    refine gF (ny fhg18_2) rfl rfl (OF.pickT (VEv.tmpB rfl (dy fhg23_4)) (VEv.bool true)) (fO (OF.pickT (VEv.tmpB rfl (ny fhg18_2)) (tv (tB true) rfl)) (nt (ct rfl (sr (fO (OF.assign (VEv.bool false)) (nt (rt (vinB.r (tr (tr (vinB.r ?_)))))))))))
    refine tr (vb (b':=false) rfl ?_)
    (symm;rw [decide_eq_false_iff_not];rintro ⟨h1,h2⟩;(have:=h2 i fhc1;omega))
   refine gF (dz fhg23_4) rfl rfl (OF.move (tv (tS a) rfl)) (gF (dz fhg23_4) rfl rfl (OF.move (tv (tN i) rfl)) ?_)
   have hb5:i<a.size:=(by omega)
   refine gF (dz fhg23_4) rfl rfl (JZ (tv (tS a) rfl) (tv (tN i) rfl) hb5 U9) (gF (dz fhg23_4) rfl rfl (xgt (tv (T.int .u8 (Qs a i)) rfl) (VEv.int .u8 122)) (gF (ny fhg18_2) rfl rfl (OF.pickF (VEv.tmpB rfl (dz fhg23_4)) (tv (tB (decide (122<Qs a i))) rfl)) (fO (OF.pickT (VEv.tmpB rfl (ny fhg18_2)) (tv (tB (decide (122<Qs a i))) rfl)) (nt ?_))))
   refine cd (122<Qs a i) rfl (fun fhc2=> ?_) fun fhc2=> ?_
   ·refine sr ?_
    refine fO (OF.assign (VEv.bool false)) (nt (rt (vinB.r (tr (tr (vinB.r (tr (vb (b':=false) rfl ?_))))))))
    (symm;rw [decide_eq_false_iff_not];rintro ⟨h1,h2⟩;(have:=h2 i fhc1;omega))
   refine sk (vinB.n (tn (VRun.region (mO (tN i) rfl (fO (QB (tv (tN i) rfl) (VEv.int .i64 1) (by omega)) (aO (tN (i+1)) rfl (VRunO.nil (tn ?_))))))))
   refine ⟨(i+1:Nat),?_,?_,Wk.mk (fun k=>k) ?_ ?_ ?_⟩
   ·exact QQ (ok:=fun j=>Qs a j=63∨(97≤Qs a j∧Qs a j≤122)) hI' fhc1 (by omega)
   ·omega
   ·exact (b2 (b2 bn))
   ·exact bn
   ·exact nd rfl
  refine Qy 5 4 true 18 (nz fhg18_2) rfl rfl rfl (J0 4 9 false 23 rfl rfl rfl (oO rfl rfl (nz fhg18_2) (fO (OF.pickF (VEv.tmpB rfl (nz fhg18_2)) (VEv.bool false)) (nt (cf rfl (sk (vinB.n (tn (VRun.region (mO (tN i) rfl (fO (QB (tv (tN i) rfl) (VEv.int .i64 1) (by omega)) ?_)))))))))))
  refine aO (tN (i+1)) rfl (VRunO.nil (tn ?_))
  refine ⟨(i+1:Nat),?_,?_,Wk.mk (fun k=>k) ?_ ?_ ?_⟩
  ·exact QQ (ok:=fun j=>Qs a j=63∨(97≤Qs a j∧Qs a j≤122)) hI' fhc1 (by omega)
  ·omega
  ·exact (b2 (b2 bn))
  ·exact bn
  ·exact nd rfl
 refine VRun.exit (vthn.e (vthn.e (vinB.e (tn (sr (fO (OF.assign (VEv.bool true)) (nt (rt (vb (b':=true) rfl ?_)))))))))
 (symm;rw [decide_eq_true_eq];exact ⟨by omega,YS hI' fhc1⟩)
theorem Qds (n:Nat) (a:ByteArray) (ha:a.size≤maxLen):Pure (Qq Tryz.prog (n+2)) 85 [(tS a)] (tB (decide (JJ a))):=by
 refine Pure.intro (rs:= [ResultVar.tmp 2]) Tryz.func85 rfl rfl rfl (E0:= [(0,(tS a))]) rfl ?_
 obtain ⟨hlim,hmx,hmax⟩:=QG
 refine sr (fO (OF.assign (VEv.bool false)) (nt (sq (sr (mO (tS a) rfl (lO (B.lenS (tv (tS a) rfl) U9) (cO (cS (vc (tv (tN a.size) rfl) (vc (VEv.int .i64 1) (vc (VEv.int .i64 8) vn))) (ZO rfl) (QW (n+0) ((a.size:Nat):Int) 1 8) rfl rfl) (fO (QS (tv (tB (decide (1≤((a.size:Nat):Int)∧((a.size:Nat):Int)≤8))) rfl)) (nt ?_)))))))))
 refine cn (1≤((a.size:Nat):Int)∧((a.size:Nat):Int)≤8) rfl (fun fhc0=> ?_) fun fhc0=> ?_
 ·refine sr ?_
  refine fO (OF.assign (VEv.bool false)) (nt (rt (tr (vb (b':=false) rfl ?_))))
  (symm;rw [decide_eq_false_iff_not];rintro ⟨h1,h2⟩;omega)
 refine sk (tn (sq (sr (mO (tS a) rfl (lO (B.lenS (tv (tS a) rfl) U9) (fO (OF.move (VEv.int .i64 0)) (nt (VRun.block ?_))))))))
 refine VRun.loop (A:=Nat) (fun s_=> [(0,(tS a)),(9,(tN a.size)),(10,(tN s_))]) (fun s_=>Q4 []) 0 (fun s_=>s_≤a.size∧∀j,j<s_→Qs a j=63∨(97≤Qs a j∧Qs a j≤122)) (fun s_=>a.size - s_) (0:Nat) ?_ (Wk.mk (fun k=>k) ?_ ?_ ?_) ?_
 ·exact ⟨Nat.zero_le _,fun j hj=>by omega⟩
 ·exact (b2 (b2 (b2 bn)))
 ·exact bn
 ·exact nd rfl
 rintro i (hI':i≤a.size∧∀j,j<i→Qs a j=63∨(97≤Qs a j∧Qs a j≤122))
 show VRun _ _ _ [(0,(tS a)),(9,(tN a.size)),(10,(tN i))] (Q4 []) 0 _
 refine sr (fO (Ze (tv (tN i) rfl) (tv (tN a.size) rfl)) (nt (sq ?_)))
 refine cd (i<a.size) rfl (fun fhc1=> ?_) fun fhc1=> ?_
 ·refine sk ?_
  refine tn (sq (VRun.block (sr (mO (tN i) rfl (aO (tN i) rfl (nt (sr (mO (tS a) rfl (mO (tN i) rfl ?_)))))))))
  have hb1:i<a.size:=(by omega)
  refine fO (JZ (tv (tS a) rfl) (tv (tN i) rfl) hb1 U9) (fO (xne (tv (T.int .u8 (Qs a i)) rfl) (VEv.int .u8 63)) (mO (tB (!(decide (Qs a i=63)))) rfl ?_))
  refine gn (Qs a i=63) (fun fhg17_2=> ?_) fun fhg17_2=> ?_
  ·refine gF (ny fhg17_2) rfl rfl (OF.move (tv (tS a) rfl)) ?_
   refine gF (ny fhg17_2) rfl rfl (OF.move (tv (tN i) rfl)) ?_
   have hb3:i<a.size:=(by omega)
   refine gF (ny fhg17_2) rfl rfl (JZ (tv (tS a) rfl) (tv (tN i) rfl) hb3 U9) (VRunO.chain (VWant.on rfl rfl (ny fhg17_2)) (cS (vc (tv (T.int .u8 (Qs a i)) rfl) vn) (ZO rfl) (YH (n+0) (Qs a i)) rfl rfl) (gF (ny fhg17_2) rfl rfl (QS (tv (tB (decide (97≤(Qs a i)∧(Qs a i)≤122))) rfl)) (fO (OF.pickT (VEv.tmpB rfl (ny fhg17_2)) (tv (tB (!(decide (97≤(Qs a i)∧(Qs a i)≤122)))) rfl)) (nt ?_))))
   refine cn (97≤(Qs a i)∧(Qs a i)≤122) rfl (fun fhc2=> ?_) fun fhc2=> ?_
   ·refine sr ?_
    refine fO (OF.assign (VEv.bool false)) (nt (rt (vinB.r (tr (tr (vinB.r (tr (vb (b':=false) rfl ?_))))))))
    (symm;rw [decide_eq_false_iff_not];rintro ⟨h1,h2⟩;(have:=h2 i fhc1;omega))
   refine sk (vinB.n (tn (VRun.region (fO (QB (tv (tN i) rfl) (VEv.int .i64 1) (by omega)) (mO (tN (i+1)) rfl (VRunO.nil (tn ?_)))))))
   refine ⟨(i+1:Nat),?_,?_,Wk.mk (fun k=>k) ?_ ?_ ?_⟩
   ·exact QQ (ok:=fun j=>Qs a j=63∨(97≤Qs a j∧Qs a j≤122)) hI' fhc1 (by omega)
   ·omega
   ·exact (b2 (b2 (b2 bn)))
   ·exact bn
   ·exact nd rfl
  refine Qy 5 4 true 17 (nz fhg17_2) rfl rfl rfl (fO (OF.pickF (VEv.tmpB rfl (nz fhg17_2)) (VEv.bool false)) (nt (cf rfl (sk (vinB.n (tn (VRun.region (fO (QB (tv (tN i) rfl) (VEv.int .i64 1) (by omega)) (mO (tN (i+1)) rfl (VRunO.nil (tn ?_)))))))))))
  refine ⟨(i+1:Nat),?_,?_,Wk.mk (fun k=>k) ?_ ?_ ?_⟩
  ·exact QQ (ok:=fun j=>Qs a j=63∨(97≤Qs a j∧Qs a j≤122)) hI' fhc1 (by omega)
  ·omega
  ·exact (b2 (b2 (b2 bn)))
  ·exact bn
  ·exact nd rfl
 refine VRun.exit (vthn.e (vthn.e (vinB.e (tn (sr (fO (OF.assign (VEv.bool true)) (nt (rt (vb (b':=true) rfl ?_)))))))))
 (symm;rw [decide_eq_true_eq];exact ⟨by omega,YS hI' fhc1⟩)
end Go.Proofs.YtcccmceoplcciaaGreat.AE
namespace Go.Proofs.YtcccmceoplcciaaGreat.AE
open Go Go.RowKit
set_option linter.unusedVariables false
set_option linter.unusedSimpArgs false
set_option maxRecDepth 20000
set_option maxHeartbeats 2000000
noncomputable section
def QY (a:D.Puzzle) (s:D.Session):Prop:=ZX a∧QR a.Grid s.Fill∧(0≤s.Checks∧s.Checks≤999)∧(0≤s.Spent∧s.Spent≤999)∧(∀y∈s.Asked,0≤y∧y≤((a.Clues.length:Nat):Int) - 1)∧Qcy s.Asked∧0≤s.Start∧s.Start≤s.Now∧s.Now≤1000
instance (a:D.Puzzle) (s:D.Session):Decidable (QY a s):=Classical.propDecidable _
theorem Qii (a:D.Puzzle) (s:D.Session):(((((((ZX a∧QR a.Grid s.Fill)∧(0≤s.Checks∧s.Checks≤999))∧(0≤s.Spent∧s.Spent≤999))∧(∀y∈s.Asked,0≤y∧y≤((a.Clues.length:Nat):Int) - 1))∧YQ s.Asked=s.Asked)∧(0≤s.Start∧s.Start≤s.Now))∧s.Now≤1000)↔QY a s:=by
 unfold QY
 rw [srtd_eq]
 simp only [and_assoc]
theorem Qi9 {a:D.Puzzle} {s:D.Session} (h:∀j,j<s.Asked.length→Qhw (((a.Clues.length:Nat):Int) - 1) s.Asked j):((((((ZX a∧QR a.Grid s.Fill)∧(0≤s.Checks∧s.Checks≤999))∧(0≤s.Spent∧s.Spent≤999))∧0≤s.Start)∧s.Start≤s.Now)∧s.Now≤1000)↔QY a s:=by
 have h2:=asc_of.1 h
 unfold QY
 simp only [and_assoc]
 exact ⟨fun ⟨h3,h4,h5,h6,h7,h8,h9,h10⟩=>⟨h3,h4,h5,h6,h7,h8,h2.1,h2.2,h9,h10⟩,fun ⟨h3,h4,h5,h6,h7,h8,_,_,h9,h10⟩=>⟨h3,h4,h5,h6,h7,h8,h9,h10⟩⟩
theorem QgR {a:D.Puzzle} {s:D.Session} {i:Nat} (hi:i<s.Asked.length) (h:¬Qhw (((a.Clues.length:Nat):Int) - 1) s.Asked i):¬QY a s:=fun h2=>h (asc_of.2 ⟨h2.2.2.2.2.1,h2.2.2.2.2.2.1⟩ i hi)
end
theorem Qax (n:Nat) (a:D.Puzzle) (s:D.Session) (hz:QJ a≤mx) (hs:QI s≤mx):Pure (Qq Tryz.prog (n+11)) 25 [(T.agg (Qp false a)),(T.agg (Qe false s))] (tB (decide (QY a s))):=by
 refine Pure.intro (rs:= [ResultVar.tmp 4]) Tryz.func25 rfl rfl rfl (E0:= [(0,(T.agg (Qp false a))),(1,(T.agg (Qe false s)))]) rfl ?_
 obtain ⟨hlim,hmx,hmax⟩:=QG
 simp only [QI] at hs
 have hz2:=hz
 simp only [QJ,Zz] at hz2
 have hl:=QV (z:=QP) a.Clues
 have hl2:=QV (z:=zI) s.Asked
 refine sr (kO (B.box (ts:=(Qp false a)) (tv (T.agg (Qp false a)) rfl) nofun rfl) (kO (B.box (ts:=(Qe false s)) (tv (T.agg (Qe false s)) rfl) nofun rfl) (fO (OF.assign (VEv.bool false)) (nt (sq (sr (fO (OF.assign (VEv.int .i64 0)) (nt (VRun.block ?_)))))))))
 refine VRun.loop (A:=Nat) (fun s_=> [(2,(T.op 0 0)),(3,(T.op 1 0)),(5,(tN s_))]) (fun s_=>Q4 [(0,(Obj.cells (Qp false a))),(1,(Obj.cells (Qe false s)))]) 2 (fun s_=>s_≤s.Asked.length∧∀j,j<s_→Qhw (((a.Clues.length:Nat):Int) - 1) s.Asked j) (fun s_=>s.Asked.length - s_) (0:Nat) ?_ (Wk.mk (fun k=>k) ?_ ?_ ?_) ?_
 ·exact ⟨Nat.zero_le _,fun j hj=>by omega⟩
 ·exact (b2 (b2 (b2 bn)))
 ·exact (b3 (b3 bn))
 ·exact nd rfl
 rintro i (hI':i≤s.Asked.length∧∀j,j<i→Qhw (((a.Clues.length:Nat):Int) - 1) s.Asked j)
 show VRun _ _ _ [(2,(T.op 0 0)),(3,(T.op 1 0)),(5,(tN i))] (Q4 [(0,(Obj.cells (Qp false a))),(1,(Obj.cells (Qe false s)))]) 2 _
 have hI0:=hI'
 refine sq (sr (mO (tN i) rfl (lf (rd 1 Qa s.Asked) rfl Z1 rfl rfl Y0 (lO (B.lenR (m:=s.Asked.length) (tv (rd 1 Qa s.Asked) rfl) Zt (List.length_map ..)) (fO (Ze (tv (tN i) rfl) (tv (tN s.Asked.length) rfl)) (nt ?_))))))
 refine cd (i<s.Asked.length) rfl (fun fhc0=> ?_) fun fhc0=> ?_
 ·refine sk ?_
  refine tn (sq (VRun.block (sq (VRun.draw (B:= [[],[0],[],[2,0,1],[1,0,2,3],[],[5],[5,6],[6,5,7],[7,5,6,8,3,2,0,1,4],[4,1,0,2,3,8,6,5,7,9],[9,7,5,6,8,3,2,0,1,4,10],[10,4,1,0,2,3,8,6,5,7,9,11],[11,9,7,5,6,8,3,2,0,1,4,10,12],[12,10,4,1,0,2,3,8,6,5,7,9,11,13],[13,11,9,7,5,6,8,3,2,0,1,4,10,12,14],[14,12,10,4,1,0,2,3,8,6,5,7,9,11,13,15],[13,11,9,7,5,6,8,3,2,0,1,4,10,12,14],[14,12,10,4,1,0,2,3,8,6,5,7,9,11,13,17],[17,18,15,13,11,9,7,5,6,8,3,2,0,1,4,10,12,14,16],[16,14,12,10,4,1,0,2,3,8,6,5,7,9,11,13,15,18,17,19],[13,11,9,7,5,6,8,3,2,0,1,4,10,12,14],[14,12,10,4,1,0,2,3,8,6,5,7,9,11,13,21],[13,11,9,7,5,6,8,3,2,0,1,4,10,12,14],[23,21,13,11,9,7,5,6,8,3,2,0,1,4,10,12,14,22],[22,14,12,10,4,1,0,2,3,8,6,5,7,9,11,13,21,23,24],[24,23,21,22,25,19,17,18,15,13,11,9,7,5,6,8,3,2,0,1,4,10,12,14,16,20],[20,16,15,18,17,19,25,22,21,23,24,26,13,11,9,7,5,6,8,3,2,0,1,4,10,12,14],[14,12,13,26,24,23,21,22,25,19,17,18,15,16,20,27,10,4,1,0,2,3,8,6,5,7,9,11]]) (by kernel_rfl) (by kernel_rfl) (fD (OF.fieldAddrO (tv (T.op 1 0) rfl) Z1) rfl rfl (lD (OL.loadO1 (t:=(rd 1 Qa s.Asked)) (tv (T.op 1 3) rfl) rfl rfl Y0) rfl rfl (mD (tN i) rfl rfl ?_)))))))
  obtain ⟨x1,hx1⟩:∃x,s.Asked[i]? =some x:=⟨_,List.getElem?_eq_getElem (by omega)⟩
  refine fD (OF.indexAddrR (row:=(Qa false x1)) (i:=i) (tv (rd 1 Qa s.Asked) rfl) (tv (tN i) rfl) rfl (Qu _ hx1) Zt Za Yl) rfl rfl (lD (OL.loadR1 (t:=(tI x1)) (tv (T.rp [(tI x1)]) rfl) rfl QU) rfl rfl (fD (OF.fieldAddrO (tv (T.op 0 0) rfl) Y5) rfl rfl (lD (OL.loadO1 (t:=(rd 2 Qh a.Clues)) (tv (T.op 0 3) rfl) rfl rfl QdQ) rfl rfl (lD (B.lenR (m:=a.Clues.length) (tv (rd 2 Qh a.Clues) rfl) U35 (List.length_map ..)) rfl rfl (fD (B.sub (n:=(((a.Clues.length:Nat):Int) - 1)) (tv (tN a.Clues.length) rfl) (VEv.int .i64 1) (by (rw [Qv (by omega)];done))) rfl rfl (VRunD.quiet (bi:= [7,5,6,8,3,2,0,1,4]) rfl VWant.always rfl rfl rfl bn (cS (vc (tv (tI x1) rfl) (vc (VEv.int .i64 0) (vc (tv (tI (((a.Clues.length:Nat):Int) - 1)) rfl) vn))) (ZO rfl) (QN (n+9) x1 0 (((a.Clues.length:Nat):Int) - 1)) rfl rfl) (fD (QS (tv (tB (decide (0≤x1∧x1≤(((a.Clues.length:Nat):Int) - 1)))) rfl)) rfl rfl (mD (tB (!(decide (0≤x1∧x1≤(((a.Clues.length:Nat):Int) - 1))))) rfl rfl ?_))))))))
  refine gn (0≤x1∧x1≤(((a.Clues.length:Nat):Int) - 1)) (fun fhg24_1=> ?_) fun fhg24_1=> ?_
  ·refine oD rfl rfl (ny fhg24_1) rfl ?_
   refine oD rfl rfl (ny fhg24_1) rfl (oD rfl rfl (ny fhg24_1) rfl (uD rfl rfl rfl (uD rfl rfl rfl (uD rfl rfl rfl (uD rfl rfl rfl (uD rfl rfl rfl (uD rfl rfl rfl (uD rfl rfl rfl (uD rfl rfl rfl (uD rfl rfl rfl (uD rfl rfl rfl ?_)))))))))))
   refine uD rfl rfl rfl (uD rfl rfl rfl (oD rfl rfl (ny fhg24_1) rfl (fD (OF.pickT (VEv.tmpB rfl (ny fhg24_1)) (VEv.bool true)) rfl rfl (VRunD.nil (tn (ct rfl (sr (fO (OF.assign (VEv.bool false)) (nt (rt (vinB.r ?_)))))))))))
   refine tr (tr (vinB.r (tr (vb (b':=false) rfl ?_))))
   (symm;rw [decide_eq_false_iff_not];refine QgR fhc0 ?_;rintro ⟨y,hy,h3,h7⟩;obtain rfl:=Qcu hx1 hy;omega)
  refine VRunD.free rfl (VWant.on rfl rfl (nz fhg24_1)) rfl (OF.move (tv (tN i) rfl)) (VRunD.free rfl (VWant.on rfl rfl (nz fhg24_1)) rfl (B.gtr (c:=(decide (0<i))) (tv (tN i) rfl) (VEv.int .i64 0) (Q9 (by omega))) (VRunD.free rfl (VWant.on rfl rfl (nz fhg24_1)) rfl (OF.move (tv (tB (decide (0<i))) rfl)) ?_))
  refine gw (0<i) (fun fhg27_2=> ?_) fun fhg27_2=> ?_
  ·refine VRunD.free rfl (VWant.on rfl rfl (dy fhg27_2)) rfl (OF.fieldAddrO (tv (T.op 1 0) rfl) Z1) ?_
   refine VRunD.look rfl (VWant.on rfl rfl (dy fhg27_2)) rfl (OL.loadO1 (t:=(rd 1 Qa s.Asked)) (tv (T.op 1 3) rfl) rfl rfl Y0) (VRunD.free rfl (VWant.on rfl rfl (dy fhg27_2)) rfl (OF.move (tv (tN i) rfl)) (VRunD.free rfl (VWant.on rfl rfl (dy fhg27_2)) rfl (B.sub (n:=((i - 1:Nat):Int)) (tv (tN i) rfl) (VEv.int .i64 1) (by (rw [Qv (by omega)];omega))) ?_))
   obtain ⟨x2,hx2⟩:∃x,s.Asked[i - 1]? =some x:=⟨_,List.getElem?_eq_getElem (by omega)⟩
   refine VRunD.free rfl (VWant.on rfl rfl (dy fhg27_2)) rfl (OF.indexAddrR (row:=(Qa false x2)) (i:=i - 1) (tv (rd 1 Qa s.Asked) rfl) (tv (tN (i - 1)) rfl) rfl (Qu _ hx2) Zt Za Yl) (VRunD.look rfl (VWant.on rfl rfl (dy fhg27_2)) rfl (OL.loadR1 (t:=(tI x2)) (tv (T.rp [(tI x2)]) rfl) rfl QU) (VRunD.free rfl (VWant.on rfl rfl (dy fhg27_2)) rfl (OF.fieldAddrO (tv (T.op 1 0) rfl) Z1) (VRunD.look rfl (VWant.on rfl rfl (dy fhg27_2)) rfl (OL.loadO1 (t:=(rd 1 Qa s.Asked)) (tv (T.op 1 3) rfl) rfl rfl Y0) (VRunD.free rfl (VWant.on rfl rfl (dy fhg27_2)) rfl (OF.move (tv (tN i) rfl)) (VRunD.free rfl (VWant.on rfl rfl (dy fhg27_2)) rfl (OF.indexAddrR (row:=(Qa false x1)) (i:=i) (tv (rd 1 Qa s.Asked) rfl) (tv (tN i) rfl) rfl (Qu _ hx1) Zt Za Yl) (VRunD.look rfl (VWant.on rfl rfl (dy fhg27_2)) rfl (OL.loadR1 (t:=(tI x1)) (tv (T.rp [(tI x1)]) rfl) rfl QU) (VRunD.free rfl (VWant.on rfl rfl (dy fhg27_2)) rfl (xge (tv (tI x2) rfl) (tv (tI x1) rfl)) (VRunD.free rfl (VWant.on rfl rfl (nz fhg24_1)) rfl (OF.pickT (VEv.tmpB rfl (dy fhg27_2)) (tv (tB (decide (x1≤x2))) rfl)) (fD (OF.pickF (VEv.tmpB rfl (nz fhg24_1)) (tv (tB (decide (x1≤x2))) rfl)) rfl rfl (VRunD.nil (tn ?_)))))))))))
   refine cd (x1≤x2) rfl (fun fhc1=> ?_) fun fhc1=> ?_
   ·refine sr ?_
    refine fO (OF.assign (VEv.bool false)) (nt (rt (vinB.r (tr (tr (vinB.r (tr (vb (b':=false) rfl ?_))))))))
    (symm;rw [decide_eq_false_iff_not];refine QgR fhc0 ?_;rintro ⟨y,hy,h3,h7⟩;obtain rfl:=Qcu hx1 hy;(obtain ⟨z,hz,h9⟩:=h7 (by omega);obtain rfl:=Qcu hx2 hz;omega))
   refine sk (vinB.n (tn (VRun.region (mO (tN i) rfl (fO (QB (tv (tN i) rfl) (VEv.int .i64 1) (by omega)) (aO (tN (i+1)) rfl (VRunO.nil (tn ?_))))))))
   refine ⟨(i+1:Nat),?_,?_,Wk.mk (fun k=>k) ?_ ?_ ?_⟩
   ·refine QQ hI0 fhc0 ⟨x1,hx1,by omega,fun h0=> ?_⟩
    (refine ⟨x2,hx2,?_⟩;omega)
   ·omega
   ·exact (b2 (b2 (b2 bn)))
   ·exact (b3 (b3 bn))
   ·exact nd rfl
  refine oD rfl rfl (dz fhg27_2) rfl (oD rfl rfl (dz fhg27_2) rfl (oD rfl rfl (dz fhg27_2) rfl (oD rfl rfl (dz fhg27_2) rfl (oD rfl rfl (dz fhg27_2) rfl (oD rfl rfl (dz fhg27_2) rfl (oD rfl rfl (dz fhg27_2) rfl (oD rfl rfl (dz fhg27_2) rfl (oD rfl rfl (dz fhg27_2) rfl (oD rfl rfl (dz fhg27_2) rfl (oD rfl rfl (dz fhg27_2) rfl (oD rfl rfl (dz fhg27_2) rfl ?_)))))))))))
  refine VRunD.free rfl (VWant.on rfl rfl (nz fhg24_1)) rfl (OF.pickF (VEv.tmpB rfl (dz fhg27_2)) (VEv.bool false)) (fD (OF.pickF (VEv.tmpB rfl (nz fhg24_1)) (tv (tB false) rfl)) rfl rfl (VRunD.nil (tn (cf rfl (sk (vinB.n (tn (VRun.region (mO (tN i) rfl (fO (QB (tv (tN i) rfl) (VEv.int .i64 1) (by omega)) (aO (tN (i+1)) rfl ?_)))))))))))
  refine VRunO.nil (tn ?_)
  refine ⟨(i+1:Nat),?_,?_,Wk.mk (fun k=>k) ?_ ?_ ?_⟩
  ·refine QQ hI0 fhc0 ⟨x1,hx1,by omega,fun h0=> ?_⟩
   exact absurd h0 (by omega)
  ·omega
  ·exact (b2 (b2 (b2 bn)))
  ·exact (b3 (b3 bn))
  ·exact nd rfl
 refine VRun.exit (vthn.e (vthn.e (vinB.e (tn (sr (lO (OL.loadOn (us:=(Qp false a)) (tv (T.op 0 0) rfl) rfl QeA Qdg (lb rfl) rfl) (cO (cS (vc (tv (T.agg (Qp false a)) rfl) vn) (LendL.cons (lg ZY) ln) (Qd4 (n+0) a (by assumption)) rfl rfl) (mO (tB (decide (ZX a))) rfl ?_))))))))
 refine VRunO.joinB 6 [45,46,47,48,49] 50 (tB (decide ((ZX a)∧(QR a.Grid s.Fill)))) ?_ ?_
 ·refine gw (ZX a) (fun fhg44_3=> ?_) fun fhg44_3=> ?_
  ·refine gF (dy fhg44_3) rfl rfl (OF.fieldAddrO (tv (T.op 0 0) rfl) JN) ?_
   refine gL (dy fhg44_3) rfl rfl (OL.loadOn (us:=(Qc false a.Grid)) (tv (T.op 0 0) rfl) rfl Q1 QT (lb rfl) rfl) (Yi (tS s.Fill) (dy fhg44_3) rfl rfl rfl rfl Qak rfl rfl Z5 (VRunO.chain (VWant.on rfl rfl (dy fhg44_3)) (cS (vc (tv (T.agg (Qc false a.Grid)) rfl) (vc (tv (tS s.Fill) rfl) vn)) (LendL.cons (lg Qt) (lp rfl ln)) (QbS (n+7) a.Grid s.Fill (by omega) (by omega)) rfl rfl) (fO (OF.pickT (VEv.tmpB rfl (dy fhg44_3)) (tv (tB (decide (QR a.Grid s.Fill))) rfl)) (VRunO.nil ?_))))
   exact jq (congrArg T.bool (kAT fhg44_3 rfl)) (js rfl (js rfl (js rfl (js rfl (js rfl (jn))))))
  ·refine Qy 5 2 true 44 (dz fhg44_3) rfl rfl rfl ?_
   refine fO (OF.pickF (VEv.tmpB rfl (dz fhg44_3)) (VEv.bool false)) (VRunO.nil ?_)
   exact jq (congrArg T.bool (kAF fhg44_3)) (js rfl (js rfl (js rfl (js rfl (js rfl (jn))))))
 refine mO (tB (decide ((ZX a)∧(QR a.Grid s.Fill)))) rfl ?_
 refine VRunO.joinB 4 [52,53,54] 55 (tB (decide (((ZX a)∧(QR a.Grid s.Fill))∧(0≤s.Checks∧s.Checks≤999)))) ?_ ?_
 ·refine gw ((ZX a)∧(QR a.Grid s.Fill)) (fun fhg51_4=> ?_) fun fhg51_4=> ?_
  ·refine Yi (tI s.Checks) (dy fhg51_4) rfl rfl rfl rfl QeH rfl rfl QU ?_
   refine VRunO.chain (VWant.on rfl rfl (dy fhg51_4)) (cS (vc (tv (tI s.Checks) rfl) (vc (VEv.int .i64 0) (vc (VEv.int .i64 999) vn))) (ZO rfl) (QN (n+9) s.Checks 0 999) rfl rfl) (fO (OF.pickT (VEv.tmpB rfl (dy fhg51_4)) (tv (tB (decide (0≤s.Checks∧s.Checks≤999))) rfl)) (VRunO.nil ?_))
   exact jq (congrArg T.bool (kAT fhg51_4 rfl)) (js rfl (js rfl (js rfl (jn))))
  ·refine Qy 3 9 true 51 (dz fhg51_4) rfl rfl rfl ?_
   refine fO (OF.pickF (VEv.tmpB rfl (dz fhg51_4)) (VEv.bool false)) (VRunO.nil ?_)
   exact jq (congrArg T.bool (kAF fhg51_4)) (js rfl (js rfl (js rfl (jn))))
 refine mO (tB (decide (((ZX a)∧(QR a.Grid s.Fill))∧(0≤s.Checks∧s.Checks≤999)))) rfl ?_
 refine VRunO.joinB 4 [57,58,59] 60 (tB (decide ((((ZX a)∧(QR a.Grid s.Fill))∧(0≤s.Checks∧s.Checks≤999))∧(0≤s.Spent∧s.Spent≤999)))) ?_ ?_
 ·refine gw (((ZX a)∧(QR a.Grid s.Fill))∧(0≤s.Checks∧s.Checks≤999)) (fun fhg56_5=> ?_) fun fhg56_5=> ?_
  ·refine Yi (tI s.Spent) (dy fhg56_5) rfl rfl rfl rfl JI rfl rfl QU ?_
   refine VRunO.chain (VWant.on rfl rfl (dy fhg56_5)) (cS (vc (tv (tI s.Spent) rfl) (vc (VEv.int .i64 0) (vc (VEv.int .i64 999) vn))) (ZO rfl) (QN (n+9) s.Spent 0 999) rfl rfl) (fO (OF.pickT (VEv.tmpB rfl (dy fhg56_5)) (tv (tB (decide (0≤s.Spent∧s.Spent≤999))) rfl)) (VRunO.nil ?_))
   exact jq (congrArg T.bool (kAT fhg56_5 rfl)) (js rfl (js rfl (js rfl (jn))))
  ·refine Qy 3 14 true 56 (dz fhg56_5) rfl rfl rfl ?_
   refine fO (OF.pickF (VEv.tmpB rfl (dz fhg56_5)) (VEv.bool false)) (VRunO.nil ?_)
   exact jq (congrArg T.bool (kAF fhg56_5)) (js rfl (js rfl (js rfl (jn))))
 refine mO (tB (decide ((((ZX a)∧(QR a.Grid s.Fill))∧(0≤s.Checks∧s.Checks≤999))∧(0≤s.Spent∧s.Spent≤999)))) rfl ?_
 refine VRunO.joinB 4 [62,63,64] 65 (tB (decide (((((ZX a)∧(QR a.Grid s.Fill))∧(0≤s.Checks∧s.Checks≤999))∧(0≤s.Spent∧s.Spent≤999))∧(0≤s.Start)))) ?_ ?_
 ·refine gw ((((ZX a)∧(QR a.Grid s.Fill))∧(0≤s.Checks∧s.Checks≤999))∧(0≤s.Spent∧s.Spent≤999)) (fun fhg61_6=> ?_) fun fhg61_6=> ?_
  ·refine Yi (tI s.Start) (dy fhg61_6) rfl rfl rfl rfl Qc9 rfl rfl QU ?_
   refine gF (dy fhg61_6) rfl rfl (xge (tv (tI s.Start) rfl) (VEv.int .i64 0)) (fO (OF.pickT (VEv.tmpB rfl (dy fhg61_6)) (tv (tB (decide (0≤s.Start))) rfl)) (VRunO.nil ?_))
   exact jq (congrArg T.bool (kAT fhg61_6 rfl)) (js rfl (js rfl (js rfl (jn))))
  ·refine Qy 3 19 true 61 (dz fhg61_6) rfl rfl rfl ?_
   refine fO (OF.pickF (VEv.tmpB rfl (dz fhg61_6)) (VEv.bool false)) (VRunO.nil ?_)
   exact jq (congrArg T.bool (kAF fhg61_6)) (js rfl (js rfl (js rfl (jn))))
 refine mO (tB (decide (((((ZX a)∧(QR a.Grid s.Fill))∧(0≤s.Checks∧s.Checks≤999))∧(0≤s.Spent∧s.Spent≤999))∧(0≤s.Start)))) rfl ?_
 refine VRunO.joinB 6 [67,68,69,70,71] 72 (tB (decide ((((((ZX a)∧(QR a.Grid s.Fill))∧(0≤s.Checks∧s.Checks≤999))∧(0≤s.Spent∧s.Spent≤999))∧(0≤s.Start))∧(s.Start≤s.Now)))) ?_ ?_
 ·refine gw (((((ZX a)∧(QR a.Grid s.Fill))∧(0≤s.Checks∧s.Checks≤999))∧(0≤s.Spent∧s.Spent≤999))∧(0≤s.Start)) (fun fhg66_7=> ?_) fun fhg66_7=> ?_
  ·refine Yi (tI s.Start) (dy fhg66_7) rfl rfl rfl rfl Qc9 rfl rfl QU ?_
   refine Yi (tI s.Now) (dy fhg66_7) rfl rfl rfl rfl Qca rfl rfl QU (gF (dy fhg66_7) rfl rfl (xle (tv (tI s.Start) rfl) (tv (tI s.Now) rfl)) (fO (OF.pickT (VEv.tmpB rfl (dy fhg66_7)) (tv (tB (decide (s.Start≤s.Now))) rfl)) (VRunO.nil ?_)))
   exact jq (congrArg T.bool (kAT fhg66_7 rfl)) (js rfl (js rfl (js rfl (js rfl (js rfl (jn))))))
  ·refine Qy 5 24 true 66 (dz fhg66_7) rfl rfl rfl ?_
   refine fO (OF.pickF (VEv.tmpB rfl (dz fhg66_7)) (VEv.bool false)) (VRunO.nil ?_)
   exact jq (congrArg T.bool (kAF fhg66_7)) (js rfl (js rfl (js rfl (js rfl (js rfl (jn))))))
 refine mO (tB (decide ((((((ZX a)∧(QR a.Grid s.Fill))∧(0≤s.Checks∧s.Checks≤999))∧(0≤s.Spent∧s.Spent≤999))∧(0≤s.Start))∧(s.Start≤s.Now)))) rfl ?_
 refine VRunO.joinB 4 [74,75,76] 77 (tB (decide (((((((ZX a)∧(QR a.Grid s.Fill))∧(0≤s.Checks∧s.Checks≤999))∧(0≤s.Spent∧s.Spent≤999))∧(0≤s.Start))∧(s.Start≤s.Now))∧(s.Now≤1000)))) ?_ ?_
 ·refine gw ((((((ZX a)∧(QR a.Grid s.Fill))∧(0≤s.Checks∧s.Checks≤999))∧(0≤s.Spent∧s.Spent≤999))∧(0≤s.Start))∧(s.Start≤s.Now)) (fun fhg73_8=> ?_) fun fhg73_8=> ?_
  ·refine Yi (tI s.Now) (dy fhg73_8) rfl rfl rfl rfl Qca rfl rfl QU ?_
   refine gF (dy fhg73_8) rfl rfl (xle (tv (tI s.Now) rfl) (VEv.int .i64 1000)) (fO (OF.pickT (VEv.tmpB rfl (dy fhg73_8)) (tv (tB (decide (s.Now≤1000))) rfl)) (VRunO.nil ?_))
   exact jq (congrArg T.bool (kAT fhg73_8 rfl)) (js rfl (js rfl (js rfl (jn))))
  ·refine Qy 3 31 true 73 (dz fhg73_8) rfl rfl rfl ?_
   refine fO (OF.pickF (VEv.tmpB rfl (dz fhg73_8)) (VEv.bool false)) (VRunO.nil ?_)
   exact jq (congrArg T.bool (kAF fhg73_8)) (js rfl (js rfl (js rfl (jn))))
 refine aO (tB (decide (((((((ZX a)∧(QR a.Grid s.Fill))∧(0≤s.Checks∧s.Checks≤999))∧(0≤s.Spent∧s.Spent≤999))∧(0≤s.Start))∧(s.Start≤s.Now))∧(s.Now≤1000)))) rfl (nt (rt (vb (b':=(decide (((((((ZX a)∧(QR a.Grid s.Fill))∧(0≤s.Checks∧s.Checks≤999))∧(0≤s.Spent∧s.Spent≤999))∧(0≤s.Start))∧(s.Start≤s.Now))∧(s.Now≤1000)))) rfl ?_)))
 refine Q9 (Qi9 (YS hI' fhc0))
theorem QaK (n:Nat) (a:D.Puzzle) (s:D.Session) (hz:QJ a≤mx) (hs:QI s≤mx):Pure (Qq Tryz.prog (n+43)) 28 [(T.agg (Qp false a)),(T.agg (Qe false s))] (tB (decide (QY a s))):=by
 refine Pure.intro (rs:= [ResultVar.tmp 4]) Tryz.func28 rfl rfl rfl (E0:= [(0,(T.agg (Qp false a))),(1,(T.agg (Qe false s)))]) rfl ?_
 obtain ⟨hlim,hmx,hmax⟩:=QG
 simp only [QI] at hs
 have hz2:=hz
 simp only [QJ,Zz] at hz2
 have hl:=QV (z:=QP) a.Clues
 have hl2:=QV (z:=zI) s.Asked
 have hsl:=Qko s.Asked
 refine sr (kO (B.box (ts:=(Qp false a)) (tv (T.agg (Qp false a)) rfl) nofun rfl) (kO (B.box (ts:=(Qe false s)) (tv (T.agg (Qe false s)) rfl) nofun rfl) (fO (OF.assign (VEv.bool false)) (nt (sq (VRun.draw (B:= [[],[0],[0,1],[1,0,2],[2,0,1,3],[1,0,2],[2,0,1,5],[5,6,3,1,0,2,4],[4,3,6,5,7,1,0,2],[2,0,1,7,5,6,3,4,8],[8,4,3,6,5,7,1,0,2,9],[9,2,0,1,7,5,6,3,4,8,10],[10,8,4,3,6,5,7,1,0,2,9,11],[11,10,12,8,4,3,6,5,7,1,0,2,9],[9,2,0,1,7,5,6,3,4,8,12,10,11,13],[13,11,10,12,8,4,3,6,5,7,1,0,2,9,14],[14,9,2,0,1,7,5,6,3,4,8,12,10,11,13,15],[15,13,11,10,12,8,4,3,6,5,7,1,0,2,9,14,16],[16,15,17,13,11,10,12,8,4,3,6,5,7,1,0,2,9,14],[14,9,2,0,1,7,5,6,3,4,8,12,10,11,13,17,15,16,18],[18,16,15,17,13,11,10,12,8,4,3,6,5,7,1,0,2,9,14,19],[19,14,9,2,0,1,7,5,6,3,4,8,12,10,11,13,17,15,16,18,20],[18,16,15,17,13,11,10,12,8,4,3,6,5,7,1,0,2,9,14,19],[19,14,9,2,0,1,7,5,6,3,4,8,12,10,11,13,17,15,16,18,22],[22,18,16,15,17,13,11,10,12,8,4,3,6,5,7,1,0,2,9,14,19,23],[23,19,14,9,2,0,1,7,5,6,3,4,8,12,10,11,13,17,15,16,18,22,24],[24,22,23,25,20,18,16,15,17,13,11,10,12,8,4,3,6,5,7,1,0,2,9,14,19,21],[21,20,25,23,22,24,26,18,16,15,17,13,11,10,12,8,4,3,6,5,7,1,0,2,9,14,19],[19,14,9,2,0,1,7,5,6,3,4,8,12,10,11,13,17,15,16,18,26,24,22,23,25,20,21,27],[27,21,20,25,23,22,24,26,18,16,15,17,13,11,10,12,8,4,3,6,5,7,1,0,2,9,14,19,28],[28,19,14,9,2,0,1,7,5,6,3,4,8,12,10,11,13,17,15,16,18,26,24,22,23,25,20,21,27,29],[29,27,21,20,25,23,22,24,26,18,16,15,17,13,11,10,12,8,4,3,6,5,7,1,0,2,9,14,19,28,30],[27,21,20,25,23,22,24,26,18,16,15,17,13,11,10,12,8,4,3,6,5,7,1,0,2,9,14,19,28],[28,19,14,9,2,0,1,7,5,6,3,4,8,12,10,11,13,17,15,16,18,26,24,22,23,25,20,21,27,32],[32,33,30,28,19,14,9,2,0,1,7,5,6,3,4,8,12,10,11,13,17,15,16,18,26,24,22,23,25,20,21,27,29,31],[31,29,30,33,32,34,27,21,20,25,23,22,24,26,18,16,15,17,13,11,10,12,8,4,3,6,5,7,1,0,2,9,14,19,28],[28,19,14,9,2,0,1,7,5,6,3,4,8,12,10,11,13,17,15,16,18,26,24,22,23,25,20,21,27,34,32,33,30,29,31,35],[35,31,29,30,33,32,34,27,21,20,25,23,22,24,26,18,16,15,17,13,11,10,12,8,4,3,6,5,7,1,0,2,9,14,19,28,36],[36,28,19,14,9,2,0,1,7,5,6,3,4,8,12,10,11,13,17,15,16,18,26,24,22,23,25,20,21,27,34,32,33,30,29,31,35,37],[35,31,29,30,33,32,34,27,21,20,25,23,22,24,26,18,16,15,17,13,11,10,12,8,4,3,6,5,7,1,0,2,9,14,19,28,36],[36,28,19,14,9,2,0,1,7,5,6,3,4,8,12,10,11,13,17,15,16,18,26,24,22,23,25,20,21,27,34,32,33,30,29,31,35,39],[39,40,37,35,31,29,30,33,32,34,27,21,20,25,23,22,24,26,18,16,15,17,13,11,10,12,8,4,3,6,5,7,1,0,2,9,14,19,28,36,38],[38,37,40,39,41,35,31,29,30,33,32,34,27,21,20,25,23,22,24,26,18,16,15,17,13,11,10,12,8,4,3,6,5,7,1,0,2,9,14,19,28,36],[36,28,19,14,9,2,0,1,7,5,6,3,4,8,12,10,11,13,17,15,16,18,26,24,22,23,25,20,21,27,34,32,33,30,29,31,35,41,39,40,37,38,42],[42,38,37,40,39,41,35,31,29,30,33,32,34,27,21,20,25,23,22,24,26,18,16,15,17,13,11,10,12,8,4,3,6,5,7,1,0,2,9,14,19,28,36,43],[43,36,28,19,14,9,2,0,1,7,5,6,3,4,8,12,10,11,13,17,15,16,18,26,24,22,23,25,20,21,27,34,32,33,30,29,31,35,41,39,40,37,38,42,44],[44,42,38,37,40,39,41,35,31,29,30,33,32,34,27,21,20,25,23,22,24,26,18,16,15,17,13,11,10,12,8,4,3,6,5,7,1,0,2,9,14,19,28,36,43,45],[45,44,46,42,38,37,40,39,41,35,31,29,30,33,32,34,27,21,20,25,23,22,24,26,18,16,15,17,13,11,10,12,8,4,3,6,5,7,1,0,2,9,14,19,28,36,43],[43,36,28,19,14,9,2,0,1,7,5,6,3,4,8,12,10,11,13,17,15,16,18,26,24,22,23,25,20,21,27,34,32,33,30,29,31,35,41,39,40,37,38,42,46,44,45,47]]) (by kernel_rfl) (by kernel_rfl) ?_))))))
 refine lD (OL.loadOn (us:=(Qp false a)) (tv (T.op 0 0) rfl) rfl QeA Qdg (lb rfl) rfl) rfl rfl (VRunD.quiet (bi:= [0]) rfl VWant.always rfl rfl rfl bn (cS (vc (tv (T.agg (Qp false a)) rfl) vn) (LendL.cons (lg ZY) ln) (QdT (n+0) a (by assumption)) rfl rfl) (mD (tB (decide (ZX a))) rfl rfl ?_))
 refine gw (ZX a) (fun fhg7_1=> ?_) fun fhg7_1=> ?_
 ·refine VRunD.free rfl (VWant.on rfl rfl (dy fhg7_1)) rfl (OF.fieldAddrO (tv (T.op 0 0) rfl) JN) ?_
  refine VRunD.look rfl (VWant.on rfl rfl (dy fhg7_1)) rfl (OL.loadOn (us:=(Qc false a.Grid)) (tv (T.op 0 0) rfl) rfl Q1 QT (lb rfl) rfl) (VRunD.free rfl (VWant.on rfl rfl (dy fhg7_1)) rfl (OF.fieldAddrO (tv (T.op 1 0) rfl) Qak) (VRunD.look rfl (VWant.on rfl rfl (dy fhg7_1)) rfl (OL.loadO1 (t:=(tS s.Fill)) (tv (T.op 1 0) rfl) rfl rfl Z5) (VRunD.quiet (bi:= [5,6,3,1,0,2,4]) rfl (VWant.on rfl rfl (dy fhg7_1)) rfl rfl rfl bn (cS (vc (tv (T.agg (Qc false a.Grid)) rfl) (vc (tv (tS s.Fill) rfl) vn)) (LendL.cons (lg Qt) (lp rfl ln)) (QbU (n+39) a.Grid s.Fill (by omega) (by omega)) rfl rfl) (fD (OF.pickT (VEv.tmpB rfl (dy fhg7_1)) (tv (tB (decide (QR a.Grid s.Fill))) rfl)) rfl rfl (mD (tB (decide (QR a.Grid s.Fill))) rfl rfl ?_)))))
  refine gw (QR a.Grid s.Fill) (fun fhg14_2=> ?_) fun fhg14_2=> ?_
  ·refine VRunD.free rfl (VWant.on rfl rfl (dy fhg14_2)) rfl (OF.fieldAddrO (tv (T.op 1 0) rfl) QeH) ?_
   refine VRunD.look rfl (VWant.on rfl rfl (dy fhg14_2)) rfl (OL.loadO1 (t:=(tI s.Checks)) (tv (T.op 1 1) rfl) rfl rfl QU) (VRunD.quiet (bi:= [10,8,4,3,6,5,7,1,0,2,9,11]) rfl (VWant.on rfl rfl (dy fhg14_2)) rfl rfl rfl bn (cS (vc (tv (tI s.Checks) rfl) (vc (VEv.int .i64 0) (vc (VEv.int .i64 999) vn))) (ZO rfl) (QW (n+41) s.Checks 0 999) rfl rfl) (fD (OF.pickT (VEv.tmpB rfl (dy fhg14_2)) (tv (tB (decide (0≤s.Checks∧s.Checks≤999))) rfl)) rfl rfl (mD (tB (decide (0≤s.Checks∧s.Checks≤999))) rfl rfl ?_)))
   refine gw (0≤s.Checks∧s.Checks≤999) (fun fhg19_3=> ?_) fun fhg19_3=> ?_
   ·refine VRunD.free rfl (VWant.on rfl rfl (dy fhg19_3)) rfl (OF.fieldAddrO (tv (T.op 1 0) rfl) JI) ?_
    refine VRunD.look rfl (VWant.on rfl rfl (dy fhg19_3)) rfl (OL.loadO1 (t:=(tI s.Spent)) (tv (T.op 1 2) rfl) rfl rfl QU) (VRunD.quiet (bi:= [15,13,11,10,12,8,4,3,6,5,7,1,0,2,9,14,16]) rfl (VWant.on rfl rfl (dy fhg19_3)) rfl rfl rfl bn (cS (vc (tv (tI s.Spent) rfl) (vc (VEv.int .i64 0) (vc (VEv.int .i64 999) vn))) (ZO rfl) (QW (n+41) s.Spent 0 999) rfl rfl) (fD (OF.pickT (VEv.tmpB rfl (dy fhg19_3)) (tv (tB (decide (0≤s.Spent∧s.Spent≤999))) rfl)) rfl rfl (mD (tB (decide (0≤s.Spent∧s.Spent≤999))) rfl rfl ?_)))
    refine gw (0≤s.Spent∧s.Spent≤999) (fun fhg24_4=> ?_) fun fhg24_4=> ?_
    ·refine VRunD.free rfl (VWant.on rfl rfl (dy fhg24_4)) rfl (OF.fieldAddrO (tv (T.op 1 0) rfl) Z1) ?_
     refine VRunD.look rfl (VWant.on rfl rfl (dy fhg24_4)) rfl (OL.loadO1 (t:=(rd 1 Qa s.Asked)) (tv (T.op 1 3) rfl) rfl rfl Y0) (VRunD.free rfl (VWant.on rfl rfl (dy fhg24_4)) rfl (OF.fieldAddrO (tv (T.op 0 0) rfl) Y5) (VRunD.look rfl (VWant.on rfl rfl (dy fhg24_4)) rfl (OL.loadO1 (t:=(rd 2 Qh a.Clues)) (tv (T.op 0 3) rfl) rfl rfl QdQ) (VRunD.look rfl (VWant.on rfl rfl (dy fhg24_4)) rfl (B.lenR (m:=a.Clues.length) (tv (rd 2 Qh a.Clues) rfl) U35 (List.length_map ..)) (VRunD.free rfl (VWant.on rfl rfl (dy fhg24_4)) rfl (B.sub (n:=(((a.Clues.length:Nat):Int) - 1)) (tv (tN a.Clues.length) rfl) (VEv.int .i64 1) (by (rw [Qv (by omega)];done))) (VRunD.quiet (bi:= [24,22,23,25,20,18,16,15,17,13,11,10,12,8,4,3,6,5,7,1,0,2,9,14,19,21]) rfl (VWant.on rfl rfl (dy fhg24_4)) rfl rfl rfl bn (cS (vc (tv (rd 1 Qa s.Asked) rfl) (vc (VEv.int .i64 0) (vc (tv (tI (((a.Clues.length:Nat):Int) - 1)) rfl) vn))) (ZO rfl) (Qgo (n+40) s.Asked 0 (((a.Clues.length:Nat):Int) - 1) (by omega)) rfl rfl) (fD (OF.pickT (VEv.tmpB rfl (dy fhg24_4)) (tv (tB (decide (∀x∈s.Asked,0≤x∧x≤(((a.Clues.length:Nat):Int) - 1)))) rfl)) rfl rfl (mD (tB (decide (∀x∈s.Asked,0≤x∧x≤(((a.Clues.length:Nat):Int) - 1)))) rfl rfl ?_)))))))
     refine gw (∀x∈s.Asked,0≤x∧x≤(((a.Clues.length:Nat):Int) - 1)) (fun fhg33_5=> ?_) fun fhg33_5=> ?_
     ·refine VRunD.free rfl (VWant.on rfl rfl (dy fhg33_5)) rfl (OF.fieldAddrO (tv (T.op 1 0) rfl) Z1) ?_
      refine VRunD.look rfl (VWant.on rfl rfl (dy fhg33_5)) rfl (OL.loadO1 (t:=(rd 1 Qa s.Asked)) (tv (T.op 1 3) rfl) rfl rfl Y0) (VRunD.quiet (bi:= [29,27,21,20,25,23,22,24,26,18,16,15,17,13,11,10,12,8,4,3,6,5,7,1,0,2,9,14,19,28,30]) rfl (VWant.on rfl rfl (dy fhg33_5)) rfl rfl rfl bn (OC.callF (us:= [(rd 1 Qa s.Asked)]) (r:=(T.sl true 1 ((YQ s.Asked).map (Qa true)))) (r':=(T.os 1 2 0 (((YQ s.Asked).map (Qa true)).length))) (objs:= [(Obj.rows 1 ((YQ s.Asked).map (Qa true)))]) rfl (vc (tv (rd 1 Qa s.Asked) rfl) vn) (ZO rfl) (J8 (n+40) s.Asked (by omega)) rfl) (VRunD.free rfl (VWant.on rfl rfl (dy fhg33_5)) rfl (OF.fieldAddrO (tv (T.op 1 0) rfl) Z1) (VRunD.look rfl (VWant.on rfl rfl (dy fhg33_5)) rfl (OL.loadO1 (t:=(rd 1 Qa s.Asked)) (tv (T.op 1 3) rfl) rfl rfl Y0) (VRunD.quiet (bi:= [32,33,30,28,19,14,9,2,0,1,7,5,6,3,4,8,12,10,11,13,17,15,16,18,26,24,22,23,25,20,21,27,29,31]) rfl (VWant.on rfl rfl (dy fhg33_5)) rfl rfl rfl bn (cS (us:= [(rd 1 Qa (YQ s.Asked)),(rd 1 Qa s.Asked)]) (vc (tv (T.os 1 2 0 (((YQ s.Asked).map (Qa true)).length)) rfl) (vc (tv (rd 1 Qa s.Asked) rfl) vn)) (LendL.cons (Lend.os rfl rfl (okInt.fzMap _ _)) (lp rfl ln)) (QaF (n+41) (YQ s.Asked) s.Asked (by omega) (by omega)) rfl rfl) (fD (OF.pickT (VEv.tmpB rfl (dy fhg33_5)) (tv (tB (decide ((YQ s.Asked)=s.Asked))) rfl)) rfl rfl (mD (tB (decide ((YQ s.Asked)=s.Asked))) rfl rfl ?_))))))
      refine gw ((YQ s.Asked)=s.Asked) (fun fhg41_6=> ?_) fun fhg41_6=> ?_
      ·refine VRunD.free rfl (VWant.on rfl rfl (dy fhg41_6)) rfl (OF.fieldAddrO (tv (T.op 1 0) rfl) Qc9) ?_
       refine VRunD.look rfl (VWant.on rfl rfl (dy fhg41_6)) rfl (OL.loadO1 (t:=(tI s.Start)) (tv (T.op 1 4) rfl) rfl rfl QU) (VRunD.free rfl (VWant.on rfl rfl (dy fhg41_6)) rfl (OF.fieldAddrO (tv (T.op 1 0) rfl) Qca) (VRunD.look rfl (VWant.on rfl rfl (dy fhg41_6)) rfl (OL.loadO1 (t:=(tI s.Now)) (tv (T.op 1 5) rfl) rfl rfl QU) (VRunD.quiet (bi:= [39,40,37,35,31,29,30,33,32,34,27,21,20,25,23,22,24,26,18,16,15,17,13,11,10,12,8,4,3,6,5,7,1,0,2,9,14,19,28,36,38]) rfl (VWant.on rfl rfl (dy fhg41_6)) rfl rfl rfl bn (cS (vc (tv (tI s.Start) rfl) (vc (VEv.int .i64 0) (vc (tv (tI s.Now) rfl) vn))) (ZO rfl) (QW (n+41) s.Start 0 s.Now) rfl rfl) (fD (OF.pickT (VEv.tmpB rfl (dy fhg41_6)) (tv (tB (decide (0≤s.Start∧s.Start≤s.Now))) rfl)) rfl rfl (mD (tB (decide (0≤s.Start∧s.Start≤s.Now))) rfl rfl ?_)))))
       refine gw (0≤s.Start∧s.Start≤s.Now) (fun fhg48_7=> ?_) fun fhg48_7=> ?_
       ·refine VRunD.free rfl (VWant.on rfl rfl (dy fhg48_7)) rfl (OF.fieldAddrO (tv (T.op 1 0) rfl) Qca) ?_
        refine VRunD.look rfl (VWant.on rfl rfl (dy fhg48_7)) rfl (OL.loadO1 (t:=(tI s.Now)) (tv (T.op 1 5) rfl) rfl rfl QU) (VRunD.free rfl (VWant.on rfl rfl (dy fhg48_7)) rfl (xle (tv (tI s.Now) rfl) (VEv.int .i64 1000)) (fD (OF.pickT (VEv.tmpB rfl (dy fhg48_7)) (tv (tB (decide (s.Now≤1000))) rfl)) rfl rfl (fD (OF.assign (tv (tB (decide (s.Now≤1000))) rfl)) rfl rfl (VRunD.nil (tn (rt (vb (b':=(decide (s.Now≤1000))) rfl ?_)))))))
        (refine Q9 ⟨fun h=>(Qii a s).1 ⟨⟨⟨⟨⟨⟨⟨?_,?_⟩,?_⟩,?_⟩,?_⟩,?_⟩,?_⟩,h⟩,fun h=>h.2.2.2.2.2.2.2.2⟩<;>assumption)
       refine oD rfl rfl (dz fhg48_7) rfl (oD rfl rfl (dz fhg48_7) rfl (oD rfl rfl (dz fhg48_7) rfl (fD (OF.pickF (VEv.tmpB rfl (dz fhg48_7)) (VEv.bool false)) rfl rfl (fD (OF.assign (tv (tB false) rfl)) rfl rfl (VRunD.nil (tn (rt (vb (b':=false) rfl ?_))))))))
       (symm;rw [decide_eq_false_iff_not];rintro ⟨h1,h2,h3,h4,h5,h6,h7,h8,h9⟩;omega)
      refine oD rfl rfl (dz fhg41_6) rfl (oD rfl rfl (dz fhg41_6) rfl (oD rfl rfl (dz fhg41_6) rfl (oD rfl rfl (dz fhg41_6) rfl (oD rfl rfl (dz fhg41_6) rfl (fD (OF.pickF (VEv.tmpB rfl (dz fhg41_6)) (VEv.bool false)) rfl rfl (mD (tB false) rfl rfl (VRunD.off rfl (VWant.not (b:=false) rfl rfl rfl) (VRunD.off rfl (VWant.not (b:=false) rfl rfl rfl) (VRunD.off rfl (VWant.not (b:=false) rfl rfl rfl) (fD (OF.pickF (tv (tB false) rfl) (VEv.bool false)) rfl rfl (fD (OF.assign (tv (tB false) rfl)) rfl rfl ?_)))))))))))
      refine VRunD.nil (tn (rt (vb (b':=false) rfl ?_)))
      (symm;rw [decide_eq_false_iff_not];rintro ⟨h1,h2,h3,h4,h5,h6,h7,h8,h9⟩;exact absurd (srtd_eq.2 h6) (by assumption))
     refine oD rfl rfl (dz fhg33_5) rfl (oD rfl rfl (dz fhg33_5) rfl (oD rfl rfl (dz fhg33_5) rfl (oD rfl rfl (dz fhg33_5) rfl (oD rfl rfl (dz fhg33_5) rfl (oD rfl rfl (dz fhg33_5) rfl (fD (OF.pickF (VEv.tmpB rfl (dz fhg33_5)) (VEv.bool false)) rfl rfl (mD (tB false) rfl rfl (VRunD.off rfl (VWant.not (b:=false) rfl rfl rfl) (VRunD.off rfl (VWant.not (b:=false) rfl rfl rfl) (VRunD.off rfl (VWant.not (b:=false) rfl rfl rfl) (VRunD.off rfl (VWant.not (b:=false) rfl rfl rfl) ?_)))))))))))
     refine VRunD.off rfl (VWant.not (b:=false) rfl rfl rfl) (fD (OF.pickF (tv (tB false) rfl) (VEv.bool false)) rfl rfl (mD (tB false) rfl rfl (VRunD.off rfl (VWant.not (b:=false) rfl rfl rfl) (VRunD.off rfl (VWant.not (b:=false) rfl rfl rfl) (VRunD.off rfl (VWant.not (b:=false) rfl rfl rfl) (fD (OF.pickF (tv (tB false) rfl) (VEv.bool false)) rfl rfl (fD (OF.assign (tv (tB false) rfl)) rfl rfl (VRunD.nil (tn (rt (vb (b':=false) rfl ?_)))))))))))
     (symm;rw [decide_eq_false_iff_not];rintro ⟨h1,h2,h3,h4,h5,h6,h7,h8,h9⟩;contradiction)
    refine oD rfl rfl (dz fhg24_4) rfl (oD rfl rfl (dz fhg24_4) rfl (oD rfl rfl (dz fhg24_4) rfl (oD rfl rfl (dz fhg24_4) rfl (oD rfl rfl (dz fhg24_4) rfl (oD rfl rfl (dz fhg24_4) rfl (oD rfl rfl (dz fhg24_4) rfl (fD (OF.pickF (VEv.tmpB rfl (dz fhg24_4)) (VEv.bool false)) rfl rfl (mD (tB false) rfl rfl (VRunD.off rfl (VWant.not (b:=false) rfl rfl rfl) (VRunD.off rfl (VWant.not (b:=false) rfl rfl rfl) (VRunD.off rfl (VWant.not (b:=false) rfl rfl rfl) ?_)))))))))))
    refine VRunD.off rfl (VWant.not (b:=false) rfl rfl rfl) (VRunD.off rfl (VWant.not (b:=false) rfl rfl rfl) (VRunD.off rfl (VWant.not (b:=false) rfl rfl rfl) (fD (OF.pickF (tv (tB false) rfl) (VEv.bool false)) rfl rfl (mD (tB false) rfl rfl (VRunD.off rfl (VWant.not (b:=false) rfl rfl rfl) (VRunD.off rfl (VWant.not (b:=false) rfl rfl rfl) (VRunD.off rfl (VWant.not (b:=false) rfl rfl rfl) (VRunD.off rfl (VWant.not (b:=false) rfl rfl rfl) (VRunD.off rfl (VWant.not (b:=false) rfl rfl rfl) (fD (OF.pickF (tv (tB false) rfl) (VEv.bool false)) rfl rfl (mD (tB false) rfl rfl ?_)))))))))))
    refine VRunD.off rfl (VWant.not (b:=false) rfl rfl rfl) (VRunD.off rfl (VWant.not (b:=false) rfl rfl rfl) (VRunD.off rfl (VWant.not (b:=false) rfl rfl rfl) (fD (OF.pickF (tv (tB false) rfl) (VEv.bool false)) rfl rfl (fD (OF.assign (tv (tB false) rfl)) rfl rfl (VRunD.nil (tn (rt (vb (b':=false) rfl ?_))))))))
    (symm;rw [decide_eq_false_iff_not];rintro ⟨h1,h2,h3,h4,h5,h6,h7,h8,h9⟩;contradiction)
   refine oD rfl rfl (dz fhg19_3) rfl (oD rfl rfl (dz fhg19_3) rfl (oD rfl rfl (dz fhg19_3) rfl (fD (OF.pickF (VEv.tmpB rfl (dz fhg19_3)) (VEv.bool false)) rfl rfl (mD (tB false) rfl rfl (VRunD.off rfl (VWant.not (b:=false) rfl rfl rfl) (VRunD.off rfl (VWant.not (b:=false) rfl rfl rfl) (VRunD.off rfl (VWant.not (b:=false) rfl rfl rfl) (VRunD.off rfl (VWant.not (b:=false) rfl rfl rfl) (VRunD.off rfl (VWant.not (b:=false) rfl rfl rfl) (VRunD.off rfl (VWant.not (b:=false) rfl rfl rfl) (VRunD.off rfl (VWant.not (b:=false) rfl rfl rfl) ?_)))))))))))
   refine fD (OF.pickF (tv (tB false) rfl) (VEv.bool false)) rfl rfl (mD (tB false) rfl rfl (VRunD.off rfl (VWant.not (b:=false) rfl rfl rfl) (VRunD.off rfl (VWant.not (b:=false) rfl rfl rfl) (VRunD.off rfl (VWant.not (b:=false) rfl rfl rfl) (VRunD.off rfl (VWant.not (b:=false) rfl rfl rfl) (VRunD.off rfl (VWant.not (b:=false) rfl rfl rfl) (VRunD.off rfl (VWant.not (b:=false) rfl rfl rfl) (fD (OF.pickF (tv (tB false) rfl) (VEv.bool false)) rfl rfl (mD (tB false) rfl rfl (VRunD.off rfl (VWant.not (b:=false) rfl rfl rfl) (VRunD.off rfl (VWant.not (b:=false) rfl rfl rfl) ?_)))))))))))
   refine VRunD.off rfl (VWant.not (b:=false) rfl rfl rfl) (VRunD.off rfl (VWant.not (b:=false) rfl rfl rfl) (VRunD.off rfl (VWant.not (b:=false) rfl rfl rfl) (fD (OF.pickF (tv (tB false) rfl) (VEv.bool false)) rfl rfl (mD (tB false) rfl rfl (VRunD.off rfl (VWant.not (b:=false) rfl rfl rfl) (VRunD.off rfl (VWant.not (b:=false) rfl rfl rfl) (VRunD.off rfl (VWant.not (b:=false) rfl rfl rfl) (fD (OF.pickF (tv (tB false) rfl) (VEv.bool false)) rfl rfl (fD (OF.assign (tv (tB false) rfl)) rfl rfl (VRunD.nil (tn ?_)))))))))))
   refine rt (vb (b':=false) rfl ?_)
   (symm;rw [decide_eq_false_iff_not];rintro ⟨h1,h2,h3,h4,h5,h6,h7,h8,h9⟩;contradiction)
  refine oD rfl rfl (dz fhg14_2) rfl (oD rfl rfl (dz fhg14_2) rfl (oD rfl rfl (dz fhg14_2) rfl (fD (OF.pickF (VEv.tmpB rfl (dz fhg14_2)) (VEv.bool false)) rfl rfl (mD (tB false) rfl rfl (VRunD.off rfl (VWant.not (b:=false) rfl rfl rfl) (VRunD.off rfl (VWant.not (b:=false) rfl rfl rfl) (VRunD.off rfl (VWant.not (b:=false) rfl rfl rfl) (fD (OF.pickF (tv (tB false) rfl) (VEv.bool false)) rfl rfl (mD (tB false) rfl rfl (VRunD.off rfl (VWant.not (b:=false) rfl rfl rfl) (VRunD.off rfl (VWant.not (b:=false) rfl rfl rfl) ?_)))))))))))
  refine VRunD.off rfl (VWant.not (b:=false) rfl rfl rfl) (VRunD.off rfl (VWant.not (b:=false) rfl rfl rfl) (VRunD.off rfl (VWant.not (b:=false) rfl rfl rfl) (VRunD.off rfl (VWant.not (b:=false) rfl rfl rfl) (VRunD.off rfl (VWant.not (b:=false) rfl rfl rfl) (fD (OF.pickF (tv (tB false) rfl) (VEv.bool false)) rfl rfl (mD (tB false) rfl rfl (VRunD.off rfl (VWant.not (b:=false) rfl rfl rfl) (VRunD.off rfl (VWant.not (b:=false) rfl rfl rfl) (VRunD.off rfl (VWant.not (b:=false) rfl rfl rfl) (VRunD.off rfl (VWant.not (b:=false) rfl rfl rfl) (VRunD.off rfl (VWant.not (b:=false) rfl rfl rfl) ?_)))))))))))
  refine VRunD.off rfl (VWant.not (b:=false) rfl rfl rfl) (fD (OF.pickF (tv (tB false) rfl) (VEv.bool false)) rfl rfl (mD (tB false) rfl rfl (VRunD.off rfl (VWant.not (b:=false) rfl rfl rfl) (VRunD.off rfl (VWant.not (b:=false) rfl rfl rfl) (VRunD.off rfl (VWant.not (b:=false) rfl rfl rfl) (VRunD.off rfl (VWant.not (b:=false) rfl rfl rfl) (VRunD.off rfl (VWant.not (b:=false) rfl rfl rfl) (fD (OF.pickF (tv (tB false) rfl) (VEv.bool false)) rfl rfl (mD (tB false) rfl rfl (VRunD.off rfl (VWant.not (b:=false) rfl rfl rfl) (VRunD.off rfl (VWant.not (b:=false) rfl rfl rfl) ?_)))))))))))
  refine VRunD.off rfl (VWant.not (b:=false) rfl rfl rfl) (fD (OF.pickF (tv (tB false) rfl) (VEv.bool false)) rfl rfl (fD (OF.assign (tv (tB false) rfl)) rfl rfl (VRunD.nil (tn (rt (vb (b':=false) rfl ?_))))))
  (symm;rw [decide_eq_false_iff_not];rintro ⟨h1,h2,h3,h4,h5,h6,h7,h8,h9⟩;contradiction)
 refine oD rfl rfl (dz fhg7_1) rfl (oD rfl rfl (dz fhg7_1) rfl (oD rfl rfl (dz fhg7_1) rfl (oD rfl rfl (dz fhg7_1) rfl (oD rfl rfl (dz fhg7_1) rfl (fD (OF.pickF (VEv.tmpB rfl (dz fhg7_1)) (VEv.bool false)) rfl rfl (mD (tB false) rfl rfl (VRunD.off rfl (VWant.not (b:=false) rfl rfl rfl) (VRunD.off rfl (VWant.not (b:=false) rfl rfl rfl) (VRunD.off rfl (VWant.not (b:=false) rfl rfl rfl) (fD (OF.pickF (tv (tB false) rfl) (VEv.bool false)) rfl rfl (mD (tB false) rfl rfl ?_)))))))))))
 refine VRunD.off rfl (VWant.not (b:=false) rfl rfl rfl) (VRunD.off rfl (VWant.not (b:=false) rfl rfl rfl) (VRunD.off rfl (VWant.not (b:=false) rfl rfl rfl) (fD (OF.pickF (tv (tB false) rfl) (VEv.bool false)) rfl rfl (mD (tB false) rfl rfl (VRunD.off rfl (VWant.not (b:=false) rfl rfl rfl) (VRunD.off rfl (VWant.not (b:=false) rfl rfl rfl) (VRunD.off rfl (VWant.not (b:=false) rfl rfl rfl) (VRunD.off rfl (VWant.not (b:=false) rfl rfl rfl) (VRunD.off rfl (VWant.not (b:=false) rfl rfl rfl) (VRunD.off rfl (VWant.not (b:=false) rfl rfl rfl) (VRunD.off rfl (VWant.not (b:=false) rfl rfl rfl) ?_)))))))))))
 refine fD (OF.pickF (tv (tB false) rfl) (VEv.bool false)) rfl rfl (mD (tB false) rfl rfl (VRunD.off rfl (VWant.not (b:=false) rfl rfl rfl) (VRunD.off rfl (VWant.not (b:=false) rfl rfl rfl) (VRunD.off rfl (VWant.not (b:=false) rfl rfl rfl) (VRunD.off rfl (VWant.not (b:=false) rfl rfl rfl) (VRunD.off rfl (VWant.not (b:=false) rfl rfl rfl) (VRunD.off rfl (VWant.not (b:=false) rfl rfl rfl) (fD (OF.pickF (tv (tB false) rfl) (VEv.bool false)) rfl rfl (mD (tB false) rfl rfl (VRunD.off rfl (VWant.not (b:=false) rfl rfl rfl) (VRunD.off rfl (VWant.not (b:=false) rfl rfl rfl) ?_)))))))))))
 refine VRunD.off rfl (VWant.not (b:=false) rfl rfl rfl) (VRunD.off rfl (VWant.not (b:=false) rfl rfl rfl) (VRunD.off rfl (VWant.not (b:=false) rfl rfl rfl) (fD (OF.pickF (tv (tB false) rfl) (VEv.bool false)) rfl rfl (mD (tB false) rfl rfl (VRunD.off rfl (VWant.not (b:=false) rfl rfl rfl) (VRunD.off rfl (VWant.not (b:=false) rfl rfl rfl) (VRunD.off rfl (VWant.not (b:=false) rfl rfl rfl) (fD (OF.pickF (tv (tB false) rfl) (VEv.bool false)) rfl rfl (fD (OF.assign (tv (tB false) rfl)) rfl rfl (VRunD.nil (tn ?_)))))))))))
 refine rt (vb (b':=false) rfl ?_)
 (symm;rw [decide_eq_false_iff_not];rintro ⟨h1,h2,h3,h4,h5,h6,h7,h8,h9⟩;contradiction)
end Go.Proofs.YtcccmceoplcciaaGreat.AE
namespace Go.Proofs.YtcccmceoplcciaaGreat.AE
open Go Go.RowKit
set_option linter.unusedVariables false
set_option linter.unusedSimpArgs false
set_option maxRecDepth 20000
set_option maxHeartbeats 2000000
theorem Qct (n:Nat) (a:D.Puzzle) (k:Nat) (hk:QK k a.Clues+1*a.Seals.length≤Jn):LoanM (Qq Tryz.prog (n+4)) 33 [(2,(a.Clues.map (Qh true))),(1,(a.Seals.map (Qa true)))] [(T.agg [(tI a.Grid.Rows),(tI a.Grid.Cols),(tS a.Grid.Cells),(T.os 2 0 0 ((a.Clues.map (Qh true)).length)),(T.os 1 1 0 ((a.Seals.map (Qa true)).length)),(tI a.Salt)]),(tN k)] (tN (QK k a.Clues+1*a.Seals.length)) [(2,((Je k a.Clues).map (Qh true))),(1,((JA Zl 1 (QK k a.Clues) a.Seals.length).map (Qa true)))]:=by
 refine LoanM.intro (rs:= [ResultVar.tmp 4]) [(0,(T.agg [(tI a.Grid.Rows),(tI a.Grid.Cols),(tS a.Grid.Cells),(T.os 2 0 0 ((a.Clues.map (Qh true)).length)),(T.os 1 1 0 ((a.Seals.map (Qa true)).length)),(tI a.Salt)]))] Tryz.func33 rfl rfl rfl rfl (bc ⟨by kernel_rfl,rfl⟩ bn) (PinsTo.at (And.intro (And.intro trivial ⟨_,(.head _),(.agg 3 rfl (.os _ _))⟩) ⟨_,(.head _),(.agg 4 rfl (.os _ _))⟩)) (.int _ _) (bc (okeClue.cleanMap _) (bc (okInt.cleanMap _) bn)) (E0:= [(0,(T.agg [(tI a.Grid.Rows),(tI a.Grid.Cols),(tS a.Grid.Cells),(T.os 2 0 0 ((a.Clues.map (Qh true)).length)),(T.os 1 1 0 ((a.Seals.map (Qa true)).length)),(tI a.Salt)])),(1,(tN k))]) rfl (fun asg=> ?_)
 obtain ⟨hlim,hmx,hmax⟩:=QG
 show VRun _ _ _ [(0,(T.agg [(tI a.Grid.Rows),(tI a.Grid.Cols),(tS a.Grid.Cells),(T.os 2 0 0 ((a.Clues.map (Qh true)).length)),(T.os 1 1 0 ((a.Seals.map (Qa true)).length)),(tI a.Salt)])),(1,(tN k))] (Q4 [(0,(Obj.rowsN 2 (a.Clues.map (Qh true)) (asg 0))),(1,(Obj.rowsN 1 (a.Seals.map (Qa true)) (asg 1)))]) 2 _
 refine sr (kO (B.box (ts:= [(tI a.Grid.Rows),(tI a.Grid.Cols),(tS a.Grid.Cells),(T.os 2 0 0 ((a.Clues.map (Qh true)).length)),(T.os 1 1 0 ((a.Seals.map (Qa true)).length)),(tI a.Salt)]) (tv (T.agg [(tI a.Grid.Rows),(tI a.Grid.Cols),(tS a.Grid.Cells),(T.os 2 0 0 ((a.Clues.map (Qh true)).length)),(T.os 1 1 0 ((a.Seals.map (Qa true)).length)),(tI a.Salt)]) rfl) nofun rfl) (fO (OF.assign (VEv.int .i64 0)) (nt (sr (lf (T.os 2 0 0 ((a.Clues.map (Qh true)).length)) rfl Y5 rfl rfl QdQ (mO (tN k) rfl (cO (OC.callL (ts:= [(T.os 2 0 0 ((a.Clues.map (Qh true)).length)),(tN k)]) [0] (r:=(tN (QK k a.Clues))) (L:= [(2,(a.Clues.map (Qh true)))]) [(2,((Je k a.Clues).map (Qh true)))] [(Obj.rowsN 2 (a.Clues.map (Qh true)) (asg 0))] rfl (vc (tv (T.os 2 0 0 ((a.Clues.map (Qh true)).length)) rfl) (vc (tv (tN k) rfl) vn)) (by decide) rfl (And.intro (And.intro rfl rfl) (trivial)) (bc (okeClue.cleanMap _) bn) (bc (okeClue.cleanMap _) bn) rfl rfl (.int _ _) (Qc4 (n+0) a.Clues k (by omega))) (aO (tN (QK k a.Clues)) rfl (nt (sr (lf (T.os 1 1 0 ((a.Seals.map (Qa true)).length)) rfl Qdf rfl rfl Y0 ?_)))))))))))
 refine mO (tN (QK k a.Clues)) rfl (cO (OC.viaN (k:=1) rfl (Zo (fun _=>rfl) _) (Zo (fun _=>rfl) _) (OC.callMut (rows:=(a.Seals.map (Qa true))) (rows':=((JA Zl 1 (QK k a.Clues) a.Seals.length).map (Qa true))) rfl (vc (tv (T.os 1 1 0 ((a.Seals.map (Qa true)).length)) rfl) (vc (tv (tN (QK k a.Clues)) rfl) vn)) rfl rfl (bc rfl bn) (Zo (fun _=>rfl) _) (Zo (fun _=>rfl) _) (QaV (n+2) a.Seals (QK k a.Clues) (by assumption)))) (aO (tN ((QK k a.Clues)+1*a.Seals.length)) rfl (nt (sr (mO (tN ((QK k a.Clues)+1*a.Seals.length)) rfl (aO (tN ((QK k a.Clues)+1*a.Seals.length)) rfl (nt (rt ?_))))))))
 have hnew0:Je k a.Clues=Je k a.Clues:=by
  rfl
 have hnew1:JA Zl 1 (QK k a.Clues) a.Seals.length=JA Zl 1 (QK k a.Clues) a.Seals.length:=by
  rfl
 exact vloanM.r (L1:= [(2,((Je k a.Clues).map (Qh true))),(1,((JA Zl 1 (QK k a.Clues) a.Seals.length).map (Qa true)))]) (fun k=>k) (VRes.tmp (t:=(tN ((QK k a.Clues)+1*a.Seals.length))) rfl VRes.nil) (congrArg (T.int .i64) (show (((QK k a.Clues)+1*a.Seals.length:Nat):Int)=((QK k a.Clues+1*a.Seals.length:Nat):Int) by rfl)) (bc rfl bn) (And.intro rfl (And.intro rfl (trivial))) (by rw [hnew0,hnew1])
theorem JD (n:Nat) (a:D.Session) (k:Nat) (hk:k+1*a.Asked.length≤Jn):LoanM (Qq Tryz.prog (n+2)) 37 [(1,(a.Asked.map (Qa true)))] [(T.agg [(tS a.Fill),(tI a.Checks),(tI a.Spent),(T.os 1 0 0 ((a.Asked.map (Qa true)).length)),(tI a.Start),(tI a.Now)]),(tN k)] (tN (k+1*a.Asked.length)) [(1,((JA Zl 1 k a.Asked.length).map (Qa true)))]:=by
 refine LoanM.intro (rs:= [ResultVar.tmp 4]) [(0,(T.agg [(tS a.Fill),(tI a.Checks),(tI a.Spent),(T.os 1 0 0 ((a.Asked.map (Qa true)).length)),(tI a.Start),(tI a.Now)]))] Tryz.func37 rfl rfl rfl rfl (bc ⟨by kernel_rfl,rfl⟩ bn) (PinsTo.at (And.intro trivial ⟨_,(.head _),(.agg 3 rfl (.os _ _))⟩)) (.int _ _) (bc (okInt.cleanMap _) bn) (E0:= [(0,(T.agg [(tS a.Fill),(tI a.Checks),(tI a.Spent),(T.os 1 0 0 ((a.Asked.map (Qa true)).length)),(tI a.Start),(tI a.Now)])),(1,(tN k))]) rfl (fun asg=> ?_)
 obtain ⟨hlim,hmx,hmax⟩:=QG
 show VRun _ _ _ [(0,(T.agg [(tS a.Fill),(tI a.Checks),(tI a.Spent),(T.os 1 0 0 ((a.Asked.map (Qa true)).length)),(tI a.Start),(tI a.Now)])),(1,(tN k))] (Q4 [(0,(Obj.rowsN 1 (a.Asked.map (Qa true)) (asg 0)))]) 1 _
 refine sr (kO (B.box (ts:= [(tS a.Fill),(tI a.Checks),(tI a.Spent),(T.os 1 0 0 ((a.Asked.map (Qa true)).length)),(tI a.Start),(tI a.Now)]) (tv (T.agg [(tS a.Fill),(tI a.Checks),(tI a.Spent),(T.os 1 0 0 ((a.Asked.map (Qa true)).length)),(tI a.Start),(tI a.Now)]) rfl) nofun rfl) (fO (OF.assign (VEv.int .i64 0)) (nt (sr (lf (T.os 1 0 0 ((a.Asked.map (Qa true)).length)) rfl Z1 rfl rfl Y0 (mO (tN k) rfl (cO (OC.viaN (k:=0) rfl (Zo (fun _=>rfl) _) (Zo (fun _=>rfl) _) (OC.callMut (rows:=(a.Asked.map (Qa true))) (rows':=((JA Zl 1 k a.Asked.length).map (Qa true))) rfl (vc (tv (T.os 1 0 0 ((a.Asked.map (Qa true)).length)) rfl) (vc (tv (tN k) rfl) vn)) rfl rfl (bc rfl bn) (Zo (fun _=>rfl) _) (Zo (fun _=>rfl) _) (QaV (n+0) a.Asked k (by assumption)))) (aO (tN (k+1*a.Asked.length)) rfl (nt (sr (mO (tN (k+1*a.Asked.length)) rfl ?_)))))))))))
 refine aO (tN (k+1*a.Asked.length)) rfl (nt (rt ?_))
 have hnew0:JA Zl 1 k a.Asked.length=JA Zl 1 k a.Asked.length:=by
  rfl
 exact vloanM.r (L1:= [(1,((JA Zl 1 k a.Asked.length).map (Qa true)))]) (fun k=>k) (VRes.tmp (t:=(tN (k+1*a.Asked.length))) rfl VRes.nil) rfl (bc rfl bn) (And.intro rfl (trivial)) (by rw [hnew0])
theorem JP (n:Nat) (a:D.Session) (k:Nat) (hh:a.Asked=JA Zl 1 k a.Asked.length) (hk:k+1*a.Asked.length≤Jn):Pure (Qq Tryz.prog (n+2)) 38 [(T.agg (Qe false a)),(tN k)] (tN (k+1*a.Asked.length)):=by
 refine Pure.intro (rs:= [ResultVar.tmp 4]) Tryz.func38 rfl rfl rfl (E0:= [(0,(T.agg (Qe false a))),(1,(tN k))]) rfl ?_
 obtain ⟨hlim,hmx,hmax⟩:=QG
 refine sr (kO (B.box (ts:=(Qe false a)) (tv (T.agg (Qe false a)) rfl) nofun rfl) (fO (OF.assign (VEv.int .i64 0)) (nt (sr (lf (rd 1 Qa a.Asked) rfl Z1 rfl rfl Y0 (mO (tN k) rfl (cO (cS (vc (tv (rd 1 Qa a.Asked) rfl) (vc (tv (tN k) rfl) vn)) (ZO rfl) (Qd2 (n+0) a.Asked k (by assumption) (by assumption)) rfl rfl) (aO (tN (k+1*a.Asked.length)) rfl (nt (sq (sr ?_)))))))))))
 refine mO (tN (k+1*a.Asked.length)) rfl (fO (B.lss (c:=(decide (k+1*a.Asked.length<0))) (tv (tN (k+1*a.Asked.length)) rfl) (VEv.int .i64 0) (Q9 (by omega))) (nt ?_))
 refine cd (k+1*a.Asked.length<0) rfl (fun fhc0=> ?_) fun fhc0=> ?_
 ·omega
 refine sk (tn (sr (mO (tN (k+1*a.Asked.length)) rfl (aO (tN (k+1*a.Asked.length)) rfl (nt (rt ?_))))))
 exact vi rfl rfl
end Go.Proofs.YtcccmceoplcciaaGreat.AE
namespace Go.Proofs.YtcccmceoplcciaaGreat.AE
open Go Go.RowKit
set_option linter.unusedVariables false
set_option linter.unusedSimpArgs false
set_option maxRecDepth 20000
set_option maxHeartbeats 2000000
theorem Qhe {g:D.Grid} {f:ByteArray} {slot:Int} (h:¬(0≤slot∧slot<(((Ya g f).length:Nat):Int))):YE g f slot=⟨#[]⟩:=by
 by_cases hf:QR g f
 ·rw [QfP hf] at h
  exact Qb0 (.inr (by omega))
 ·exact Qb0 (.inl hf)
theorem QhN (n:Nat) (g:D.Grid) (f:ByteArray) (slot:Int) (hc:g.Cells.size≤maxLen) (hf:f.size≤maxLen):Pure (Qq Tryz.prog (n+6)) 95 [(T.agg (Qc false g)),(tS f),(tI slot)] (tS (YE g f slot)):=by
 refine Pure.intro (rs:= [ResultVar.tmp 6]) Tryz.func95 rfl rfl rfl (E0:= [(0,(T.agg (Qc false g))),(1,(tS f)),(2,(tI slot))]) rfl ?_
 obtain ⟨hlim,hmx,hmax⟩:=QG
 have hsl:=Zn g
 have hpl:=Qki g f
 refine sr (kO (B.box (ts:=(Qc false g)) (tv (T.agg (Qc false g)) rfl) nofun rfl) (fO (OF.assign (VEv.str (⟨#[]⟩:ByteArray))) (nt (sr (lO (OL.loadOn (us:=(Qc false g)) (tv (T.op 0 0) rfl) rfl Q1 QT (lb rfl) rfl) (mO (tS f) rfl (cO (OC.callF (us:= [(T.agg (Qc false g)),(tS f)]) (r:=(T.sl true 1 ((Ya g f).map (Yc true)))) (r':=(T.os 1 1 0 (((Ya g f).map (Yc true)).length))) (objs:= [(Obj.rows 1 ((Ya g f).map (Yc true)))]) rfl (vc (tv (T.agg (Qc false g)) rfl) (vc (tv (tS f) rfl) vn)) (LendL.cons (lg Qt) (lp rfl ln)) (Qd0 (n+0) g f (by assumption) (by assumption)) rfl) (aO (T.os 1 1 0 (((Ya g f).map (Yc true)).length)) rfl (nt (sq (sr ?_)))))))))))
 refine mO (tI slot) rfl (mO (T.os 1 1 0 (((Ya g f).map (Yc true)).length)) rfl (lO (B.lenO (m:=(Ya g f).length) (tv (T.os 1 1 0 (((Ya g f).map (Yc true)).length)) rfl) Qk2 (List.length_map ..)) (cO (cS (vc (tv (tI slot) rfl) (vc (tv (tN ((Ya g f).length)) rfl) vn)) (ZO rfl) (Yt (n+4) slot (((Ya g f).length:Nat):Int)) rfl rfl) (fO (QS (tv (tB (decide (0≤slot∧slot<(((Ya g f).length:Nat):Int)))) rfl)) (nt ?_)))))
 refine cn (0≤slot∧slot<(((Ya g f).length:Nat):Int)) rfl (fun fhc0=> ?_) fun fhc0=> ?_
 ·refine sr ?_
  refine fO (OF.assign (VEv.str (⟨#[]⟩:ByteArray))) (nt (rt (tr ?_)))
  refine vfin.eq (r':=(tS (⟨#[]⟩:ByteArray))) ?_ (vfin.r (VRes.tmp (t:=(tS (⟨#[]⟩:ByteArray))) rfl VRes.nil) (Give.str _))
  show (tS (⟨#[]⟩:ByteArray))=(tS (YE g f slot))
  refine congrArg T.str ?_
  exact (Qhe fhc0).symm
 refine sk (tn (sr (mO (T.os 1 1 0 (((Ya g f).map (Yc true)).length)) rfl (mO (tI slot) rfl ?_))))
 obtain ⟨x1,hx1⟩:∃x,(Ya g f)[(Int.toNat slot)]? =some x:=⟨_,List.getElem?_eq_getElem (by omega)⟩
 have hpx:=QkU hx1
 refine fO (B.indexAddrO (i:=(Int.toNat slot)) (tv (T.os 1 1 0 (((Ya g f).map (Yc true)).length)) rfl) (tv (tI slot) rfl) (by omega) (by (simp only [List.length_map];omega)) Qk2 sz9 if9) (lO (OL.loadP1 (t:=(tS x1)) (row:=(Yc true x1)) (tv (T.orp 1 1 (Int.toNat slot) 0) rfl) rfl (Qu _ hx1) rfl rfl Z5) (aO (tS x1) rfl (nt (rt ?_))))
 refine vfin.eq (r':=(tS x1)) ?_ (vfin.r (VRes.tmp (t:=(tS x1)) rfl VRes.nil) (Give.str _))
 show (tS x1)=(tS (YE g f slot))
 refine congrArg T.str ?_
 rw [hpx];congr 1;omega
theorem Qex (n:Nat) (g:D.Grid) (c:Int) (hc:g.Cells.size≤maxLen):Pure (Qq Tryz.prog (n+3)) 86 [(T.agg (Qc false g)),(tI c)] (tB (decide (gridOk g∧(0≤c∧c≤((g.Cells.size:Nat):Int) - 1)∧Qs g.Cells (Int.toNat c)=46))):=by
 refine Pure.intro (rs:= [ResultVar.tmp 4]) Tryz.func86 rfl rfl rfl (E0:= [(0,(T.agg (Qc false g))),(1,(tI c))]) rfl ?_
 obtain ⟨hlim,hmx,hmax⟩:=QG
 refine sr (kO (B.box (ts:=(Qc false g)) (tv (T.agg (Qc false g)) rfl) nofun rfl) (fO (OF.assign (VEv.bool false)) (nt (sr (lO (OL.loadOn (us:=(Qc false g)) (tv (T.op 0 0) rfl) rfl Q1 QT (lb rfl) rfl) (cO (cS (vc (tv (T.agg (Qc false g)) rfl) vn) (LendL.cons (lg Qt) ln) (ZT (n+0) g (by assumption)) rfl rfl) (mO (tB (decide (gridOk g))) rfl ?_)))))))
 refine gw (gridOk g) (fun fhg7_1=> ?_) fun fhg7_1=> ?_
 ·refine gF (dy fhg7_1) rfl rfl (OF.move (tv (tI c) rfl)) ?_
  refine Yi (tS g.Cells) (dy fhg7_1) rfl rfl rfl rfl QC rfl rfl Z5 (gL (dy fhg7_1) rfl rfl (B.lenS (tv (tS g.Cells) rfl) U9) (VRunO.chain (VWant.on rfl rfl (dy fhg7_1)) (cS (vc (tv (tI c) rfl) (vc (tv (tN g.Cells.size) rfl) vn)) (ZO rfl) (Yt (n+1) c ((g.Cells.size:Nat):Int)) rfl rfl) (fO (OF.pickT (VEv.tmpB rfl (dy fhg7_1)) (tv (tB (decide (0≤c∧c<((g.Cells.size:Nat):Int)))) rfl)) (mO (tB (decide (0≤c∧c<((g.Cells.size:Nat):Int)))) rfl ?_))))
  refine gw (0≤c∧c<((g.Cells.size:Nat):Int)) (fun fhg14_2=> ?_) fun fhg14_2=> ?_
  ·refine Yi (tS g.Cells) (dy fhg14_2) rfl rfl rfl rfl QC rfl rfl Z5 ?_
   refine gF (dy fhg14_2) rfl rfl (OF.move (tv (tI c) rfl)) ?_
   have hb3:(Int.toNat c)<g.Cells.size:=(by omega)
   refine gF (dy fhg14_2) rfl rfl (B.index (n:=(Qs g.Cells (Int.toNat c))) (i:=(Int.toNat c)) (tv (tS g.Cells) rfl) (tv (tI c) rfl) (by omega) hb3 U9 (YJ hb3)) (gF (dy fhg14_2) rfl rfl (Y7 (tv (T.int .u8 (Qs g.Cells (Int.toNat c))) rfl) (VEv.int .u8 46)) (fO (OF.pickT (VEv.tmpB rfl (dy fhg14_2)) (tv (tB (decide (Qs g.Cells (Int.toNat c)=46))) rfl)) (aO (tB (decide (Qs g.Cells (Int.toNat c)=46))) rfl (nt (rt (vb (b':=(decide (Qs g.Cells (Int.toNat c)=46))) rfl ?_))))))
   (refine Q9 ⟨fun h=>⟨?_,?_,h⟩,fun h=>h.2.2⟩<;>first | assumption | omega)
  refine Qy 5 9 true 14 (dz fhg14_2) rfl rfl rfl (fO (OF.pickF (VEv.tmpB rfl (dz fhg14_2)) (VEv.bool false)) (aO (tB false) rfl (nt (rt (vb (b':=false) rfl ?_)))))
  (symm;rw [decide_eq_false_iff_not];rintro ⟨g1,g2,g3⟩;omega)
 refine Qy 5 2 true 7 (dz fhg7_1) rfl rfl rfl (fO (OF.pickF (VEv.tmpB rfl (dz fhg7_1)) (VEv.bool false)) (mO (tB false) rfl (Qy 5 9 true 14 (b:=false) rfl rfl rfl rfl (fO (OF.pickF (tv (tB false) rfl) (VEv.bool false)) (aO (tB false) rfl (nt (rt (vb (b':=false) rfl ?_))))))))
 (symm;rw [decide_eq_false_iff_not];rintro ⟨g1,g2,g3⟩;contradiction)
noncomputable section
def QH (v:Int):Int:=if v=1 then 1 else if v=2 then 2 else if v=3 then 4 else if v=4 then 8 else 0
theorem QfE (v:Int):0≤QH v∧QH v≤8:=by unfold QH;(repeat' split)<;>omega
end
theorem Qas (n:Nat) (v:Int):Pure (Qq Tryz.prog (n+2)) 79 [(tI v)] (tI (QH v)):=by
 refine Pure.intro (rs:= [ResultVar.tmp 2]) Tryz.func79 rfl rfl rfl (E0:= [(0,(tI v))]) rfl ?_
 obtain ⟨hlim,hmx,hmax⟩:=QG
 have hl5:([0,1,2,4,8]:List Int).length=5:=rfl
 refine sr (fO (OF.assign (VEv.int .i64 0)) (nt (sq (sr (mO (tI v) rfl (cO (cS (vc (tv (tI v) rfl) (vc (VEv.int .i64 1) (vc (VEv.int .i64 4) vn))) (ZO rfl) (QN (n+0) v 1 4) rfl rfl) (fO (QS (tv (tB (decide (1≤v∧v≤4))) rfl)) (nt ?_))))))))
 refine cn (1≤v∧v≤4) rfl (fun fhc0=> ?_) fun fhc0=> ?_
 ·refine sr ?_
  refine fO (OF.assign (VEv.int .i64 0)) (nt (rt (tr (vi (n':=0) rfl ?_))))
  symm;unfold QH;rw [if_neg (by omega),if_neg (by omega),if_neg (by omega),if_neg (by omega)]
 refine sk (tn (sr (kO (OM.buildSlice (l:= [(tN 0),(tN 1),(tN 2),(tN 4),(tN 8)]) (VEvp.cons (VEv.int .i64 0) (VEvp.cons (VEv.int .i64 1) (VEvp.cons (VEv.int .i64 2) (VEvp.cons (VEv.int .i64 4) (VEvp.cons (VEv.int .i64 8) VEvp.nil))))) rfl (by decide) (bc (nofun) (bc (nofun) (bc (nofun) (bc (nofun) (bc (nofun) bn))))) (bc ((bc (rfl) bn)) (bc ((bc (rfl) bn)) (bc ((bc (rfl) bn)) (bc ((bc (rfl) bn)) (bc ((bc (rfl) bn)) bn))))) (bc (rfl) (bc (rfl) (bc (rfl) (bc (rfl) (bc (rfl) bn))))) Zt zo3 (by kernel_rfl) rfl (by rw [Za];decide) Za (Nat.le_of_ble_eq_true rfl)) (mO (tI v) rfl ?_))))
 obtain ⟨x1,hx1⟩:∃x,([0,1,2,4,8]:List Int)[(Int.toNat v)]? =some x:=⟨_,List.getElem?_eq_getElem (by omega)⟩
 refine fO (B.indexAddrO (i:=(Int.toNat v)) (tv (T.os 1 0 0 5) rfl) (tv (tI v) rfl) (by omega) (by omega) Zt Za Yl) (lO (OL.loadP1 (t:=(tI x1)) (row:=(Qa true x1)) (tv (T.orp 1 0 (Int.toNat v) 0) rfl) rfl (Qu (Qa true) hx1) rfl rfl QU) (aO (tI x1) rfl (nt (rt (vi (n':=x1) rfl ?_)))))
 have hv:v=1∨v=2∨v=3∨v=4:=by omega
 rcases hv with rfl | rfl | rfl | rfl<;>(have:=Option.some.inj hx1;subst this;rfl)
theorem Qat (n:Nat) (v:Int):Pure (Qq Tryz.prog (n+2)) 82 [(tI v)] (tI (QH v)):=by
 refine Pure.intro (rs:= [ResultVar.tmp 2]) Tryz.func82 rfl rfl rfl (E0:= [(0,(tI v))]) rfl ?_
 obtain ⟨hlim,hmx,hmax⟩:=QG
 refine sr (fO (OF.assign (VEv.int .i64 0)) (nt (sq (sr (mO (tI v) rfl (cO (cS (vc (tv (tI v) rfl) (vc (VEv.int .i64 1) (vc (VEv.int .i64 4) vn))) (ZO rfl) (QW (n+0) v 1 4) rfl rfl) (fO (QS (tv (tB (decide (1≤v∧v≤4))) rfl)) (nt ?_))))))))
 refine cn (1≤v∧v≤4) rfl (fun fhc0=> ?_) fun fhc0=> ?_
 ·refine sr ?_
  refine fO (OF.assign (VEv.int .i64 0)) (nt (rt (tr (vi (n':=0) rfl ?_))))
  symm;unfold QH;rw [if_neg (by omega),if_neg (by omega),if_neg (by omega),if_neg (by omega)]
 refine sk (tn (sr (mO (tI v) rfl (fO (B.sub (n:=(v - 1)) (tv (tI v) rfl) (VEv.int .i64 1) (by (have hv:v=1∨v=2∨v=3∨v=4:=(by omega);rcases hv with rfl | rfl | rfl | rfl<;>rfl))) (fO (B.shl (n:=(QH v)) (VEv.int .i64 1) (tv (tI (v - 1)) rfl) (by omega) (by (have hv:v=1∨v=2∨v=3∨v=4:=(by omega);rcases hv with rfl | rfl | rfl | rfl<;>rfl))) (aO (tI (QH v)) rfl (nt (rt ?_))))))))
 exact vi rfl rfl
theorem Qbn (n:Nat) (s:D.Session) (hs:QI s≤mx):Pure (Qq Tryz.prog (n+1)) 78 [(T.agg (Qe false s))] (T.agg (Qe true s)):=by
 refine Pure.intro (rs:= [ResultVar.cell 2 56]) Tryz.func78 rfl rfl rfl (E0:= [(0,(T.agg (Qe false s)))]) rfl ?_
 obtain ⟨hlim,hmx,hmax⟩:=QG
 simp only [QI] at hs
 have hl2:=QV (z:=zI) s.Asked
 refine sr (kO (B.box (ts:=(Qe false s)) (tv (T.agg (Qe false s)) rfl) nofun rfl) (kO (B.alloc (t:=(T.agg [(tS ByteArray.empty),(tN 0),(tN 0),T.nils,(tN 0),(tN 0)])) (ts:= [(tS ByteArray.empty),(tN 0),(tN 0),T.nils,(tN 0),(tN 0)]) QbH QbJ nofun (fun _=> .agg _ _ rfl (Yb (RL.cons (.str _) (RL.cons (.int _ _) (RL.cons (.int _ _) (RL.cons (.nils) (RL.cons (.int _ _) (RL.cons (.int _ _) (RL.nil _))))))))) rfl) (nt (sr (kO (OM.slice0 Zt zo3 (by kernel_rfl) rfl (by rw [Za];decide) Za) (lf (rd 1 Qa s.Asked) rfl Z1 rfl rfl Y0 (cO (B.append (rows:= []) (rows2:=(s.Asked.map (Qa false))) (rows3:=(s.Asked.map (Qa true))) (VDst.own (tv (T.os 1 2 0 0) rfl) rfl rfl) (VSrc.read (tv (rd 1 Qa s.Asked) rfl) Zt (okInt.okMap _ _)) nofun Zt Za (by decide) zo3 rfl (of_decide_eq_true (by kernel_rfl)) (by (simp only [List.length_map,List.length_append,List.length_cons,List.length_nil,List.length_replicate,List.length_set,List.length_drop,List.length_take,Jn] at *;omega)) (List.nil_append _)) (fO (OF.fieldAddrO (tv (T.op 0 0) rfl) Z1) (cO (B.storeO (us:= [(T.os 1 3 0 ((s.Asked.map (Qa true)).length))]) (ws:= [(tS s.Fill),(tI s.Checks),(tI s.Spent),(T.os 1 3 0 ((s.Asked.map (Qa true)).length)),(tI s.Start),(tI s.Now)]) (tv (T.op 0 3) rfl) (tv (T.os 1 3 0 ((s.Asked.map (Qa true)).length)) rfl) nofun rfl rfl (lb rfl) QcG Qbd (bc rfl bn) rfl) (nt (sr ?_)))))))))))
 refine lO (OL.loadOn (us:= [(tS s.Fill),(tI s.Checks),(tI s.Spent),(T.os 1 3 0 ((s.Asked.map (Qa true)).length)),(tI s.Start),(tI s.Now)]) (tv (T.op 0 0) rfl) rfl Zr QZ (lb rfl) rfl) (cO (B.storeO (us:= [(tS s.Fill),(tI s.Checks),(tI s.Spent),(T.os 1 3 0 ((s.Asked.map (Qa true)).length)),(tI s.Start),(tI s.Now)]) (ws:= [(tS s.Fill),(tI s.Checks),(tI s.Spent),(T.os 1 3 0 ((s.Asked.map (Qa true)).length)),(tI s.Start),(tI s.Now)]) (tv (T.op 1 0) rfl) (tv (T.agg [(tS s.Fill),(tI s.Checks),(tI s.Spent),(T.os 1 3 0 ((s.Asked.map (Qa true)).length)),(tI s.Start),(tI s.Now)]) rfl) nofun rfl rfl (lb rfl) Jp QZ (bc rfl (bc rfl (bc rfl (bc rfl (bc rfl (bc rfl bn)))))) rfl) (nt (rt ?_)))
 refine vfin.eq (r':=(T.agg [(tS s.Fill),(tI s.Checks),(tI s.Spent),(T.sl true 1 (s.Asked.map (Qa true))),(tI s.Start),(tI s.Now)])) ?_ (vfin.r (VRes.celln (ws:= [(tS s.Fill),(tI s.Checks),(tI s.Spent),(T.os 1 3 0 ((s.Asked.map (Qa true)).length)),(tI s.Start),(tI s.Now)]) rfl rfl Zr QZ (lb rfl) rfl VRes.nil) (Give.agg (GiveL.cons (Give.str _) (GiveL.cons (Give.int _ _) (GiveL.cons (Give.int _ _) (GiveL.cons (Give.os rfl rfl (okInt.cleanMap _)) (GiveL.cons (Give.int _ _) (GiveL.cons (Give.int _ _) GiveL.nil (by decide)) (by decide)) (by decide)) (by decide)) (by decide)) (by decide))))
 show (T.agg [(tS s.Fill),(tI s.Checks),(tI s.Spent),(T.sl true 1 (s.Asked.map (Qa true))),(tI s.Start),(tI s.Now)])=(T.agg (Qe true s))
 rfl
theorem JM (n:Nat) (s:D.Session) (hs:QI s≤mx):Pure (Qq Tryz.prog (n+2)) 80 [(T.agg (Qe false s))] (T.agg (Qe true s)):=by
 refine Pure.intro (rs:= [ResultVar.cell 2 56]) Tryz.func80 rfl rfl rfl (E0:= [(0,(T.agg (Qe false s)))]) rfl ?_
 obtain ⟨hlim,hmx,hmax⟩:=QG
 simp only [QI] at hs
 have hl2:=QV (z:=zI) s.Asked
 refine sr (kO (B.box (ts:=(Qe false s)) (tv (T.agg (Qe false s)) rfl) nofun rfl) (kO (B.alloc (t:=(T.agg [(tS ByteArray.empty),(tN 0),(tN 0),T.nils,(tN 0),(tN 0)])) (ts:= [(tS ByteArray.empty),(tN 0),(tN 0),T.nils,(tN 0),(tN 0)]) QbH QbJ nofun (fun _=> .agg _ _ rfl (Yb (RL.cons (.str _) (RL.cons (.int _ _) (RL.cons (.int _ _) (RL.cons (.nils) (RL.cons (.int _ _) (RL.cons (.int _ _) (RL.nil _))))))))) rfl) (nt (sr (lf (rd 1 Qa s.Asked) rfl Z1 rfl rfl Y0 (cO (OC.callF (us:= [(rd 1 Qa s.Asked)]) (r:=(T.sl true 1 (s.Asked.map (Qa true)))) (r':=(T.os 1 2 0 ((s.Asked.map (Qa true)).length))) (objs:= [(Obj.rows 1 (s.Asked.map (Qa true)))]) rfl (vc (tv (rd 1 Qa s.Asked) rfl) vn) (ZO rfl) (YK (n+0) s.Asked (by omega)) rfl) (fO (OF.fieldAddrO (tv (T.op 0 0) rfl) Z1) (cO (B.storeO (us:= [(T.os 1 2 0 ((s.Asked.map (Qa true)).length))]) (ws:= [(tS s.Fill),(tI s.Checks),(tI s.Spent),(T.os 1 2 0 ((s.Asked.map (Qa true)).length)),(tI s.Start),(tI s.Now)]) (tv (T.op 0 3) rfl) (tv (T.os 1 2 0 ((s.Asked.map (Qa true)).length)) rfl) nofun rfl rfl (lb rfl) QcG Qbd (bc rfl bn) rfl) (nt (sr (lO (OL.loadOn (us:= [(tS s.Fill),(tI s.Checks),(tI s.Spent),(T.os 1 2 0 ((s.Asked.map (Qa true)).length)),(tI s.Start),(tI s.Now)]) (tv (T.op 0 0) rfl) rfl Zr QZ (lb rfl) rfl) ?_)))))))))))
 refine cO (B.storeO (us:= [(tS s.Fill),(tI s.Checks),(tI s.Spent),(T.os 1 2 0 ((s.Asked.map (Qa true)).length)),(tI s.Start),(tI s.Now)]) (ws:= [(tS s.Fill),(tI s.Checks),(tI s.Spent),(T.os 1 2 0 ((s.Asked.map (Qa true)).length)),(tI s.Start),(tI s.Now)]) (tv (T.op 1 0) rfl) (tv (T.agg [(tS s.Fill),(tI s.Checks),(tI s.Spent),(T.os 1 2 0 ((s.Asked.map (Qa true)).length)),(tI s.Start),(tI s.Now)]) rfl) nofun rfl rfl (lb rfl) Jp QZ (bc rfl (bc rfl (bc rfl (bc rfl (bc rfl (bc rfl bn)))))) rfl) (nt (rt ?_))
 refine vfin.eq (r':=(T.agg [(tS s.Fill),(tI s.Checks),(tI s.Spent),(T.sl true 1 (s.Asked.map (Qa true))),(tI s.Start),(tI s.Now)])) ?_ (vfin.r (VRes.celln (ws:= [(tS s.Fill),(tI s.Checks),(tI s.Spent),(T.os 1 2 0 ((s.Asked.map (Qa true)).length)),(tI s.Start),(tI s.Now)]) rfl rfl Zr QZ (lb rfl) rfl VRes.nil) (Give.agg (GiveL.cons (Give.str _) (GiveL.cons (Give.int _ _) (GiveL.cons (Give.int _ _) (GiveL.cons (Give.os rfl rfl (okInt.cleanMap _)) (GiveL.cons (Give.int _ _) (GiveL.cons (Give.int _ _) GiveL.nil (by decide)) (by decide)) (by decide)) (by decide)) (by decide)) (by decide))))
 show (T.agg [(tS s.Fill),(tI s.Checks),(tI s.Spent),(T.sl true 1 (s.Asked.map (Qa true))),(tI s.Start),(tI s.Now)])=(T.agg (Qe true s))
 rfl
noncomputable section
def Z6 (a:D.Puzzle) (s:D.Session) (u v:Int):Prop:=QY a s∧(0≤u∧u≤((a.Clues.length:Nat):Int) - 1)∧¬QH v=0∧¬ 999<s.Spent+QH v
instance (a:D.Puzzle) (s:D.Session) (u v:Int):Decidable (Z6 a s u v):=Classical.propDecidable _
def QcL (a:D.Puzzle) (s:D.Session) (u v:Int):D.Session:=if Z6 a s u v then D.Session.mk s.Fill s.Checks (s.Spent+QH v) (ZF s.Asked u) s.Start s.Now else s
theorem J6 {a:D.Puzzle} {s:D.Session} {u v:Int} (h:¬Z6 a s u v):QcL a s u v=s:=if_neg h
theorem Qho {a:D.Puzzle} {s:D.Session} {u v:Int} (h:Z6 a s u v):QcL a s u v=D.Session.mk s.Fill s.Checks (s.Spent+QH v) (ZF s.Asked u) s.Start s.Now:=if_pos h
end
theorem Qkq (n:Nat) (a:D.Puzzle) (s:D.Session) (u:Int) (v:Int) (hz:QJ a≤mx) (hs:QI s≤mx):Pure (Qq Tryz.prog (n+12)) 35 [(T.agg (Qp false a)),(T.agg (Qe false s)),(tI u),(tI v)] (T.tup [(T.agg (Qe true (QcL a s u v))),(tB (decide (Z6 a s u v)))]):=by
 refine Pure.intro (rs:= [ResultVar.cell 8 56,ResultVar.tmp 9]) Tryz.func35 rfl rfl rfl (E0:= [(0,(T.agg (Qp false a))),(1,(T.agg (Qe false s))),(2,(tI u)),(3,(tI v))]) rfl ?_
 obtain ⟨hlim,hmx,hmax⟩:=QG
 have hs2:=hs
 simp only [QI] at hs2
 have hz2:=hz
 simp only [QJ,Zz] at hz2
 have hl:=QV (z:=QP) a.Clues
 have hl2:=QV (z:=zI) s.Asked
 have hco:=QfE v
 refine sr (kO (B.box (ts:=(Qp false a)) (tv (T.agg (Qp false a)) rfl) nofun rfl) (kO (B.box (ts:=(Qe false s)) (tv (T.agg (Qe false s)) rfl) nofun rfl) (kO (B.alloc (t:=(T.agg [(tS ByteArray.empty),(tN 0),(tN 0),T.nils,(tN 0),(tN 0)])) (ts:= [(tS ByteArray.empty),(tN 0),(tN 0),T.nils,(tN 0),(tN 0)]) QbH QbJ nofun (fun _=> .agg _ _ rfl (Yb (RL.cons (.str _) (RL.cons (.int _ _) (RL.cons (.int _ _) (RL.cons (.nils) (RL.cons (.int _ _) (RL.cons (.int _ _) (RL.nil _))))))))) rfl) (fO (OF.assign (VEv.bool false)) (nt (sr (lO (OL.loadOn (us:=(Qe false s)) (tv (T.op 1 0) rfl) rfl Zr QZ (lb rfl) rfl) (cO (OC.callF (us:= [(T.agg (Qe false s))]) (r:=(T.agg (Qe true s))) (r':=(T.agg [(tS s.Fill),(tI s.Checks),(tI s.Spent),(T.os 1 3 0 ((s.Asked.map (Qa true)).length)),(tI s.Start),(tI s.Now)])) (objs:= [(Obj.rows 1 (s.Asked.map (Qa true)))]) rfl (vc (tv (T.agg (Qe false s)) rfl) vn) (LendL.cons (lg Zm) ln) (Qbn (n+10) s (by assumption)) rfl) (kO (B.alloc (t:=(T.agg [(tS ByteArray.empty),(tN 0),(tN 0),T.nils,(tN 0),(tN 0)])) (ts:= [(tS ByteArray.empty),(tN 0),(tN 0),T.nils,(tN 0),(tN 0)]) QbH QbJ nofun (fun _=> .agg _ _ rfl (Yb (RL.cons (.str _) (RL.cons (.int _ _) (RL.cons (.int _ _) (RL.cons (.nils) (RL.cons (.int _ _) (RL.cons (.int _ _) (RL.nil _))))))))) rfl) (cO (B.storeO (us:= [(tS s.Fill),(tI s.Checks),(tI s.Spent),(T.os 1 3 0 ((s.Asked.map (Qa true)).length)),(tI s.Start),(tI s.Now)]) (ws:= [(tS s.Fill),(tI s.Checks),(tI s.Spent),(T.os 1 3 0 ((s.Asked.map (Qa true)).length)),(tI s.Start),(tI s.Now)]) (tv (T.op 4 0) rfl) (tv (T.agg [(tS s.Fill),(tI s.Checks),(tI s.Spent),(T.os 1 3 0 ((s.Asked.map (Qa true)).length)),(tI s.Start),(tI s.Now)]) rfl) nofun rfl rfl (lb rfl) Jp QZ (bc rfl (bc rfl (bc rfl (bc rfl (bc rfl (bc rfl bn)))))) rfl) (nt ?_)))))))))))
 refine sq (sq (VRun.draw (B:= [[],[],[1,0],[0,1,2],[2,1,0,3],[3,0,1,2,4],[3,0,1,2,4],[4,2,1,0,3,6],[6,3,0,1,2,4,7],[7,4,2,1,0,3,6,8],[8,6,7,9,4,2,1,0,3,5],[5,3,0,1,2,4,9,7,6,8,10],[10,8,6,7,9,5,11,3,0,1,2,4],[4,2,1,0,3,11,5,9,7,6,8,10,12],[12,10,8,6,7,9,5,11,3,0,1,2,4,13],[13,4,2,1,0,3,11,5,9,7,6,8,10,12,14],[14,12,10,8,6,7,9,5,11,3,0,1,2,4,13,15],[15,14,16,12,10,8,6,7,9,5,11,3,0,1,2,4,13],[13,4,2,1,0,3,11,5,9,7,6,8,10,12,16,14,15,17],[17,15,14,16,12,10,8,6,7,9,5,11,3,0,1,2,4,13,18],[18,13,4,2,1,0,3,11,5,9,7,6,8,10,12,16,14,15,17,19],[17,15,14,16,12,10,8,6,7,9,5,11,3,0,1,2,4,13,18],[18,13,4,2,1,0,3,11,5,9,7,6,8,10,12,16,14,15,17,21],[21,22,19,17,15,14,16,12,10,8,6,7,9,5,11,3,0,1,2,4,13,18,20],[20,18,13,4,2,1,0,3,11,5,9,7,6,8,10,12,16,14,15,17,19,22,21,23],[23,21,22,19,20,24,17,15,14,16,12,10,8,6,7,9,5,11,3,0,1,2,4,13,18]]) (by kernel_rfl) (by kernel_rfl) (lD (OL.loadOn (us:=(Qp false a)) (tv (T.op 0 0) rfl) rfl QeA Qdg (lb rfl) rfl) rfl rfl (lD (OL.loadOn (us:=(Qe false s)) (tv (T.op 1 0) rfl) rfl Zr QZ (lb rfl) rfl) rfl rfl (VRunD.quiet (bi:= [1,0]) rfl VWant.always rfl rfl rfl bn (cS (vc (tv (T.agg (Qp false a)) rfl) (vc (tv (T.agg (Qe false s)) rfl) vn)) (LendL.cons (lg ZY) (LendL.cons (lg Zm) ln)) (Qax (n+0) a s (by assumption) (by assumption)) rfl rfl) (fD (QS (tv (tB (decide (QY a s))) rfl)) rfl rfl (mD (tB (!(decide (QY a s)))) rfl rfl ?_)))))))
 refine gn (QY a s) (fun fhg17_1=> ?_) fun fhg17_1=> ?_
 ·refine oD rfl rfl (ny fhg17_1) rfl ?_
  refine oD rfl rfl (ny fhg17_1) rfl (oD rfl rfl (ny fhg17_1) rfl (oD rfl rfl (ny fhg17_1) rfl (oD rfl rfl (ny fhg17_1) rfl (oD rfl rfl (ny fhg17_1) rfl (oD rfl rfl (ny fhg17_1) rfl (fD (OF.pickT (VEv.tmpB rfl (ny fhg17_1)) (VEv.bool true)) rfl rfl (mD (tB true) rfl rfl (VRunD.off rfl (VWant.not (b:=true) rfl rfl rfl) (VRunD.off rfl (VWant.not (b:=true) rfl rfl rfl) (VRunD.off rfl (VWant.not (b:=true) rfl rfl rfl) (fD (OF.pickT (tv (tB true) rfl) (VEv.bool true)) rfl rfl ?_)))))))))))
  refine mD (tB true) rfl rfl (VRunD.off rfl (VWant.not (b:=true) rfl rfl rfl) (VRunD.off rfl (VWant.not (b:=true) rfl rfl rfl) (VRunD.off rfl (VWant.not (b:=true) rfl rfl rfl) (VRunD.off rfl (VWant.not (b:=true) rfl rfl rfl) (VRunD.off rfl (VWant.not (b:=true) rfl rfl rfl) (VRunD.off rfl (VWant.not (b:=true) rfl rfl rfl) (fD (OF.pickT (tv (tB true) rfl) (VEv.bool true)) rfl rfl (VRunD.nil (tn (ct rfl (sr ?_)))))))))))
  refine lO (OL.loadOn (us:= [(tS s.Fill),(tI s.Checks),(tI s.Spent),(T.os 1 3 0 ((s.Asked.map (Qa true)).length)),(tI s.Start),(tI s.Now)]) (tv (T.op 4 0) rfl) rfl Zr QZ (lb rfl) rfl) (cO (B.storeO (us:= [(tS s.Fill),(tI s.Checks),(tI s.Spent),(T.os 1 3 0 ((s.Asked.map (Qa true)).length)),(tI s.Start),(tI s.Now)]) (ws:= [(tS s.Fill),(tI s.Checks),(tI s.Spent),(T.os 1 3 0 ((s.Asked.map (Qa true)).length)),(tI s.Start),(tI s.Now)]) (tv (T.op 2 0) rfl) (tv (T.agg [(tS s.Fill),(tI s.Checks),(tI s.Spent),(T.os 1 3 0 ((s.Asked.map (Qa true)).length)),(tI s.Start),(tI s.Now)]) rfl) nofun rfl rfl (lb rfl) Jp QZ (bc rfl (bc rfl (bc rfl (bc rfl (bc rfl (bc rfl bn)))))) rfl) (fO (OF.assign (VEv.bool false)) (nt (rt (tr ?_)))))
  refine vfin.eq (r':=(T.tup [(T.agg [(tS s.Fill),(tI s.Checks),(tI s.Spent),(T.sl true 1 (s.Asked.map (Qa true))),(tI s.Start),(tI s.Now)]),(tB false)])) ?_ (vfin.r (VRes.celln (ws:= [(tS s.Fill),(tI s.Checks),(tI s.Spent),(T.os 1 3 0 ((s.Asked.map (Qa true)).length)),(tI s.Start),(tI s.Now)]) rfl rfl Zr QZ (lb rfl) rfl (VRes.tmp (t:=(tB false)) rfl VRes.nil)) (Give.tup (GiveL.cons (Give.agg (GiveL.cons (Give.str _) (GiveL.cons (Give.int _ _) (GiveL.cons (Give.int _ _) (GiveL.cons (Give.os rfl rfl (okInt.cleanMap _)) (GiveL.cons (Give.int _ _) (GiveL.cons (Give.int _ _) GiveL.nil (by decide)) (by decide)) (by decide)) (by decide)) (by decide)) (by decide))) (GiveL.cons (Give.bool _) GiveL.nil (by decide)) (by decide))))
  show (T.tup [(T.agg [(tS s.Fill),(tI s.Checks),(tI s.Spent),(T.sl true 1 (s.Asked.map (Qa true))),(tI s.Start),(tI s.Now)]),(tB false)])=(T.tup [(T.agg (Qe true (QcL a s u v))),(tB (decide (Z6 a s u v)))])
  (have hno:¬Z6 a s u v:=(by rintro ⟨h1,h2,h3,h4⟩;contradiction);rw [J6 hno,decide_eq_false hno];rfl)
 have hse:QY a s:=fhg17_1
 have hc8:=hse.2.2.2.1
 refine VRunD.free rfl (VWant.on rfl rfl (nz fhg17_1)) rfl (OF.move (tv (tI u) rfl)) (VRunD.free rfl (VWant.on rfl rfl (nz fhg17_1)) rfl (OF.fieldAddrO (tv (T.op 0 0) rfl) Y5) (VRunD.look rfl (VWant.on rfl rfl (nz fhg17_1)) rfl (OL.loadO1 (t:=(rd 2 Qh a.Clues)) (tv (T.op 0 3) rfl) rfl rfl QdQ) (VRunD.look rfl (VWant.on rfl rfl (nz fhg17_1)) rfl (B.lenR (m:=a.Clues.length) (tv (rd 2 Qh a.Clues) rfl) U35 (List.length_map ..)) (VRunD.free rfl (VWant.on rfl rfl (nz fhg17_1)) rfl (B.sub (n:=(((a.Clues.length:Nat):Int) - 1)) (tv (tN a.Clues.length) rfl) (VEv.int .i64 1) (by (rw [Qv (by omega)];done))) (VRunD.quiet (bi:= [8,6,7,9,4,2,1,0,3,5]) rfl (VWant.on rfl rfl (nz fhg17_1)) rfl rfl rfl bn (cS (vc (tv (tI u) rfl) (vc (VEv.int .i64 0) (vc (tv (tI (((a.Clues.length:Nat):Int) - 1)) rfl) vn))) (ZO rfl) (QN (n+10) u 0 (((a.Clues.length:Nat):Int) - 1)) rfl rfl) (VRunD.free rfl (VWant.on rfl rfl (nz fhg17_1)) rfl (QS (tv (tB (decide (0≤u∧u≤(((a.Clues.length:Nat):Int) - 1)))) rfl)) (fD (OF.pickF (VEv.tmpB rfl (nz fhg17_1)) (tv (tB (!(decide (0≤u∧u≤(((a.Clues.length:Nat):Int) - 1))))) rfl)) rfl rfl (mD (tB (!(decide (0≤u∧u≤(((a.Clues.length:Nat):Int) - 1))))) rfl rfl ?_))))))))
 refine gn (0≤u∧u≤(((a.Clues.length:Nat):Int) - 1)) (fun fhg26_2=> ?_) fun fhg26_2=> ?_
 ·refine oD rfl rfl (ny fhg26_2) rfl ?_
  refine oD rfl rfl (ny fhg26_2) rfl (oD rfl rfl (ny fhg26_2) rfl (fD (OF.pickT (VEv.tmpB rfl (ny fhg26_2)) (VEv.bool true)) rfl rfl (mD (tB true) rfl rfl (VRunD.off rfl (VWant.not (b:=true) rfl rfl rfl) (VRunD.off rfl (VWant.not (b:=true) rfl rfl rfl) (VRunD.off rfl (VWant.not (b:=true) rfl rfl rfl) (VRunD.off rfl (VWant.not (b:=true) rfl rfl rfl) (VRunD.off rfl (VWant.not (b:=true) rfl rfl rfl) (VRunD.off rfl (VWant.not (b:=true) rfl rfl rfl) (fD (OF.pickT (tv (tB true) rfl) (VEv.bool true)) rfl rfl (VRunD.nil ?_)))))))))))
  refine tn (ct rfl (sr (lO (OL.loadOn (us:= [(tS s.Fill),(tI s.Checks),(tI s.Spent),(T.os 1 3 0 ((s.Asked.map (Qa true)).length)),(tI s.Start),(tI s.Now)]) (tv (T.op 4 0) rfl) rfl Zr QZ (lb rfl) rfl) (cO (B.storeO (us:= [(tS s.Fill),(tI s.Checks),(tI s.Spent),(T.os 1 3 0 ((s.Asked.map (Qa true)).length)),(tI s.Start),(tI s.Now)]) (ws:= [(tS s.Fill),(tI s.Checks),(tI s.Spent),(T.os 1 3 0 ((s.Asked.map (Qa true)).length)),(tI s.Start),(tI s.Now)]) (tv (T.op 2 0) rfl) (tv (T.agg [(tS s.Fill),(tI s.Checks),(tI s.Spent),(T.os 1 3 0 ((s.Asked.map (Qa true)).length)),(tI s.Start),(tI s.Now)]) rfl) nofun rfl rfl (lb rfl) Jp QZ (bc rfl (bc rfl (bc rfl (bc rfl (bc rfl (bc rfl bn)))))) rfl) (fO (OF.assign (VEv.bool false)) (nt (rt (tr ?_))))))))
  refine vfin.eq (r':=(T.tup [(T.agg [(tS s.Fill),(tI s.Checks),(tI s.Spent),(T.sl true 1 (s.Asked.map (Qa true))),(tI s.Start),(tI s.Now)]),(tB false)])) ?_ (vfin.r (VRes.celln (ws:= [(tS s.Fill),(tI s.Checks),(tI s.Spent),(T.os 1 3 0 ((s.Asked.map (Qa true)).length)),(tI s.Start),(tI s.Now)]) rfl rfl Zr QZ (lb rfl) rfl (VRes.tmp (t:=(tB false)) rfl VRes.nil)) (Give.tup (GiveL.cons (Give.agg (GiveL.cons (Give.str _) (GiveL.cons (Give.int _ _) (GiveL.cons (Give.int _ _) (GiveL.cons (Give.os rfl rfl (okInt.cleanMap _)) (GiveL.cons (Give.int _ _) (GiveL.cons (Give.int _ _) GiveL.nil (by decide)) (by decide)) (by decide)) (by decide)) (by decide)) (by decide))) (GiveL.cons (Give.bool _) GiveL.nil (by decide)) (by decide))))
  show (T.tup [(T.agg [(tS s.Fill),(tI s.Checks),(tI s.Spent),(T.sl true 1 (s.Asked.map (Qa true))),(tI s.Start),(tI s.Now)]),(tB false)])=(T.tup [(T.agg (Qe true (QcL a s u v))),(tB (decide (Z6 a s u v)))])
  (have hno:¬Z6 a s u v:=(by rintro ⟨h1,h2,h3,h4⟩;contradiction);rw [J6 hno,decide_eq_false hno];rfl)
 refine VRunD.free rfl (VWant.on rfl rfl (nz fhg26_2)) rfl (OF.move (tv (tI v) rfl)) (VRunD.quiet (bi:= [13,4,2,1,0,3,11,5,9,7,6,8,10,12,14]) rfl (VWant.on rfl rfl (nz fhg26_2)) rfl rfl rfl bn (cS (vc (tv (tI v) rfl) vn) (ZO rfl) (Qas (n+9) v) rfl rfl) (VRunD.free rfl (VWant.on rfl rfl (nz fhg26_2)) rfl (Y7 (tv (tI (QH v)) rfl) (VEv.int .i64 0)) (fD (OF.pickF (VEv.tmpB rfl (nz fhg26_2)) (tv (tB (decide (QH v=0))) rfl)) rfl rfl (mD (tB (decide (QH v=0))) rfl rfl ?_))))
 refine gw (QH v=0) (fun fhg31_3=> ?_) fun fhg31_3=> ?_
 ·refine oD rfl rfl (dy fhg31_3) rfl ?_
  refine oD rfl rfl (dy fhg31_3) rfl (oD rfl rfl (dy fhg31_3) rfl (oD rfl rfl (dy fhg31_3) rfl (oD rfl rfl (dy fhg31_3) rfl (oD rfl rfl (dy fhg31_3) rfl (fD (OF.pickT (VEv.tmpB rfl (dy fhg31_3)) (VEv.bool true)) rfl rfl (VRunD.nil (tn (ct rfl (sr (lO (OL.loadOn (us:= [(tS s.Fill),(tI s.Checks),(tI s.Spent),(T.os 1 3 0 ((s.Asked.map (Qa true)).length)),(tI s.Start),(tI s.Now)]) (tv (T.op 4 0) rfl) rfl Zr QZ (lb rfl) rfl) (cO (B.storeO (us:= [(tS s.Fill),(tI s.Checks),(tI s.Spent),(T.os 1 3 0 ((s.Asked.map (Qa true)).length)),(tI s.Start),(tI s.Now)]) (ws:= [(tS s.Fill),(tI s.Checks),(tI s.Spent),(T.os 1 3 0 ((s.Asked.map (Qa true)).length)),(tI s.Start),(tI s.Now)]) (tv (T.op 2 0) rfl) (tv (T.agg [(tS s.Fill),(tI s.Checks),(tI s.Spent),(T.os 1 3 0 ((s.Asked.map (Qa true)).length)),(tI s.Start),(tI s.Now)]) rfl) nofun rfl rfl (lb rfl) Jp QZ (bc rfl (bc rfl (bc rfl (bc rfl (bc rfl (bc rfl bn)))))) rfl) ?_)))))))))))
  refine fO (OF.assign (VEv.bool false)) (nt (rt (tr ?_)))
  refine vfin.eq (r':=(T.tup [(T.agg [(tS s.Fill),(tI s.Checks),(tI s.Spent),(T.sl true 1 (s.Asked.map (Qa true))),(tI s.Start),(tI s.Now)]),(tB false)])) ?_ (vfin.r (VRes.celln (ws:= [(tS s.Fill),(tI s.Checks),(tI s.Spent),(T.os 1 3 0 ((s.Asked.map (Qa true)).length)),(tI s.Start),(tI s.Now)]) rfl rfl Zr QZ (lb rfl) rfl (VRes.tmp (t:=(tB false)) rfl VRes.nil)) (Give.tup (GiveL.cons (Give.agg (GiveL.cons (Give.str _) (GiveL.cons (Give.int _ _) (GiveL.cons (Give.int _ _) (GiveL.cons (Give.os rfl rfl (okInt.cleanMap _)) (GiveL.cons (Give.int _ _) (GiveL.cons (Give.int _ _) GiveL.nil (by decide)) (by decide)) (by decide)) (by decide)) (by decide)) (by decide))) (GiveL.cons (Give.bool _) GiveL.nil (by decide)) (by decide))))
  show (T.tup [(T.agg [(tS s.Fill),(tI s.Checks),(tI s.Spent),(T.sl true 1 (s.Asked.map (Qa true))),(tI s.Start),(tI s.Now)]),(tB false)])=(T.tup [(T.agg (Qe true (QcL a s u v))),(tB (decide (Z6 a s u v)))])
  (have hno:¬Z6 a s u v:=(by rintro ⟨h1,h2,h3,h4⟩;contradiction);rw [J6 hno,decide_eq_false hno];rfl)
 refine VRunD.free rfl (VWant.on rfl rfl (dz fhg31_3)) rfl (OF.fieldAddrO (tv (T.op 1 0) rfl) JI) (VRunD.look rfl (VWant.on rfl rfl (dz fhg31_3)) rfl (OL.loadO1 (t:=(tI s.Spent)) (tv (T.op 1 2) rfl) rfl rfl QU) (VRunD.free rfl (VWant.on rfl rfl (dz fhg31_3)) rfl (OF.move (tv (tI v) rfl)) (VRunD.quiet (bi:= [18,13,4,2,1,0,3,11,5,9,7,6,8,10,12,16,14,15,17,21]) rfl (VWant.on rfl rfl (dz fhg31_3)) rfl rfl rfl bn (cS (vc (tv (tI v) rfl) vn) (ZO rfl) (Qas (n+9) v) rfl rfl) (VRunD.free rfl (VWant.on rfl rfl (dz fhg31_3)) rfl (B.add (n:=(s.Spent+QH v)) (tv (tI s.Spent) rfl) (tv (tI (QH v)) rfl) (by (rw [Qv (by omega)];done))) (VRunD.free rfl (VWant.on rfl rfl (dz fhg31_3)) rfl (xgt (tv (tI (s.Spent+QH v)) rfl) (VEv.int .i64 999)) (fD (OF.pickF (VEv.tmpB rfl (dz fhg31_3)) (tv (tB (decide (999<(s.Spent+QH v)))) rfl)) rfl rfl (VRunD.nil (tn ?_))))))))
 refine cd (999<(s.Spent+QH v)) rfl (fun fhc0=> ?_) fun fhc0=> ?_
 ·refine sr ?_
  refine lO (OL.loadOn (us:= [(tS s.Fill),(tI s.Checks),(tI s.Spent),(T.os 1 3 0 ((s.Asked.map (Qa true)).length)),(tI s.Start),(tI s.Now)]) (tv (T.op 4 0) rfl) rfl Zr QZ (lb rfl) rfl) (cO (B.storeO (us:= [(tS s.Fill),(tI s.Checks),(tI s.Spent),(T.os 1 3 0 ((s.Asked.map (Qa true)).length)),(tI s.Start),(tI s.Now)]) (ws:= [(tS s.Fill),(tI s.Checks),(tI s.Spent),(T.os 1 3 0 ((s.Asked.map (Qa true)).length)),(tI s.Start),(tI s.Now)]) (tv (T.op 2 0) rfl) (tv (T.agg [(tS s.Fill),(tI s.Checks),(tI s.Spent),(T.os 1 3 0 ((s.Asked.map (Qa true)).length)),(tI s.Start),(tI s.Now)]) rfl) nofun rfl rfl (lb rfl) Jp QZ (bc rfl (bc rfl (bc rfl (bc rfl (bc rfl (bc rfl bn)))))) rfl) (fO (OF.assign (VEv.bool false)) (nt (rt (tr ?_)))))
  refine vfin.eq (r':=(T.tup [(T.agg [(tS s.Fill),(tI s.Checks),(tI s.Spent),(T.sl true 1 (s.Asked.map (Qa true))),(tI s.Start),(tI s.Now)]),(tB false)])) ?_ (vfin.r (VRes.celln (ws:= [(tS s.Fill),(tI s.Checks),(tI s.Spent),(T.os 1 3 0 ((s.Asked.map (Qa true)).length)),(tI s.Start),(tI s.Now)]) rfl rfl Zr QZ (lb rfl) rfl (VRes.tmp (t:=(tB false)) rfl VRes.nil)) (Give.tup (GiveL.cons (Give.agg (GiveL.cons (Give.str _) (GiveL.cons (Give.int _ _) (GiveL.cons (Give.int _ _) (GiveL.cons (Give.os rfl rfl (okInt.cleanMap _)) (GiveL.cons (Give.int _ _) (GiveL.cons (Give.int _ _) GiveL.nil (by decide)) (by decide)) (by decide)) (by decide)) (by decide)) (by decide))) (GiveL.cons (Give.bool _) GiveL.nil (by decide)) (by decide))))
  show (T.tup [(T.agg [(tS s.Fill),(tI s.Checks),(tI s.Spent),(T.sl true 1 (s.Asked.map (Qa true))),(tI s.Start),(tI s.Now)]),(tB false)])=(T.tup [(T.agg (Qe true (QcL a s u v))),(tB (decide (Z6 a s u v)))])
  (have hno:¬Z6 a s u v:=(by rintro ⟨h1,h2,h3,h4⟩;contradiction);rw [J6 hno,decide_eq_false hno];rfl)
 refine sk (tn (sq (VRun.draw (B:= [[],[0],[],[2],[2,3,0,1],[4,3,2,1,0],[0,1,2,3,4,5]]) (by kernel_rfl) (by kernel_rfl) (fD (OF.fieldAddrO (tv (T.op 1 0) rfl) JI) rfl rfl (lD (OL.loadO1 (t:=(tI s.Spent)) (tv (T.op 1 2) rfl) rfl rfl QU) rfl rfl (mD (tI v) rfl rfl (VRunD.quiet (bi:= [2]) rfl VWant.always rfl rfl rfl bn (cS (vc (tv (tI v) rfl) vn) (ZO rfl) (Qas (n+9) v) rfl rfl) (fD (B.add (n:=(s.Spent+QH v)) (tv (tI s.Spent) rfl) (tv (tI (QH v)) rfl) (by (rw [Qv (by omega)];done))) rfl rfl (fD (OF.fieldAddrO (tv (T.op 4 0) rfl) JI) rfl rfl (VRunD.chain (bi:= [0,1,2,3,4,5]) rfl VWant.always rfl rfl rfl (by kernel_rfl) (B.storeO (us:= [(tI (s.Spent+QH v))]) (ws:= [(tS s.Fill),(tI s.Checks),(tI (s.Spent+QH v)),(T.os 1 3 0 ((s.Asked.map (Qa true)).length)),(tI s.Start),(tI s.Now)]) (tv (T.op 4 2) rfl) (tv (tI (s.Spent+QH v)) rfl) nofun rfl rfl (lb rfl) Yl Za (bc rfl bn) rfl) (VRunD.nil ?_)))))))))))
 refine tn (sr (lf (rd 1 Qa s.Asked) rfl Z1 rfl rfl Y0 (mO (tI u) rfl (cO (OC.callF (us:= [(rd 1 Qa s.Asked),(tI u)]) (r:=(T.sl true 1 ((ZF s.Asked u).map (Qa true)))) (r':=(T.os 1 5 0 (((ZF s.Asked u).map (Qa true)).length))) (objs:= [(Obj.rows 1 ((ZF s.Asked u).map (Qa true)))]) rfl (vc (tv (rd 1 Qa s.Asked) rfl) (vc (tv (tI u) rfl) vn)) (ZO rfl) (QgD (n+10) s.Asked u (by omega)) rfl) (fO (OF.fieldAddrO (tv (T.op 4 0) rfl) Z1) (cO (B.storeO (us:= [(T.os 1 5 0 (((ZF s.Asked u).map (Qa true)).length))]) (ws:= [(tS s.Fill),(tI s.Checks),(tI (s.Spent+QH v)),(T.os 1 5 0 (((ZF s.Asked u).map (Qa true)).length)),(tI s.Start),(tI s.Now)]) (tv (T.op 4 3) rfl) (tv (T.os 1 5 0 (((ZF s.Asked u).map (Qa true)).length)) rfl) nofun rfl rfl (lb rfl) QcG Qbd (bc rfl bn) rfl) (nt (sr (lO (OL.loadOn (us:= [(tS s.Fill),(tI s.Checks),(tI (s.Spent+QH v)),(T.os 1 5 0 (((ZF s.Asked u).map (Qa true)).length)),(tI s.Start),(tI s.Now)]) (tv (T.op 4 0) rfl) rfl Zr QZ (lb rfl) rfl) (cO (B.storeO (us:= [(tS s.Fill),(tI s.Checks),(tI (s.Spent+QH v)),(T.os 1 5 0 (((ZF s.Asked u).map (Qa true)).length)),(tI s.Start),(tI s.Now)]) (ws:= [(tS s.Fill),(tI s.Checks),(tI (s.Spent+QH v)),(T.os 1 5 0 (((ZF s.Asked u).map (Qa true)).length)),(tI s.Start),(tI s.Now)]) (tv (T.op 2 0) rfl) (tv (T.agg [(tS s.Fill),(tI s.Checks),(tI (s.Spent+QH v)),(T.os 1 5 0 (((ZF s.Asked u).map (Qa true)).length)),(tI s.Start),(tI s.Now)]) rfl) nofun rfl rfl (lb rfl) Jp QZ (bc rfl (bc rfl (bc rfl (bc rfl (bc rfl (bc rfl bn)))))) rfl) (fO (OF.assign (VEv.bool true)) ?_)))))))))))
 refine nt (rt ?_)
 refine vfin.eq (r':=(T.tup [(T.agg [(tS s.Fill),(tI s.Checks),(tI (s.Spent+QH v)),(T.sl true 1 ((ZF s.Asked u).map (Qa true))),(tI s.Start),(tI s.Now)]),(tB true)])) ?_ (vfin.r (VRes.celln (ws:= [(tS s.Fill),(tI s.Checks),(tI (s.Spent+QH v)),(T.os 1 5 0 (((ZF s.Asked u).map (Qa true)).length)),(tI s.Start),(tI s.Now)]) rfl rfl Zr QZ (lb rfl) rfl (VRes.tmp (t:=(tB true)) rfl VRes.nil)) (Give.tup (GiveL.cons (Give.agg (GiveL.cons (Give.str _) (GiveL.cons (Give.int _ _) (GiveL.cons (Give.int _ _) (GiveL.cons (Give.os rfl rfl (okInt.cleanMap _)) (GiveL.cons (Give.int _ _) (GiveL.cons (Give.int _ _) GiveL.nil (by decide)) (by decide)) (by decide)) (by decide)) (by decide)) (by decide))) (GiveL.cons (Give.bool _) GiveL.nil (by decide)) (by decide))))
 show (T.tup [(T.agg [(tS s.Fill),(tI s.Checks),(tI (s.Spent+QH v)),(T.sl true 1 ((ZF s.Asked u).map (Qa true))),(tI s.Start),(tI s.Now)]),(tB true)])=(T.tup [(T.agg (Qe true (QcL a s u v))),(tB (decide (Z6 a s u v)))])
 (have hok:Z6 a s u v:=(by refine ⟨?_,?_,?_,?_⟩<;>assumption);rw [Qho hok,decide_eq_true hok];rfl)
theorem Qj0 (n:Nat) (a:D.Puzzle) (s:D.Session) (u:Int) (v:Int) (hz:QJ a≤mx) (hs:QI s≤mx):Pure (Qq Tryz.prog (n+44)) 36 [(T.agg (Qp false a)),(T.agg (Qe false s)),(tI u),(tI v)] (T.tup [(T.agg (Qe true (QcL a s u v))),(tB (decide (Z6 a s u v)))]):=by
 refine Pure.intro (rs:= [ResultVar.cell 8 56,ResultVar.tmp 9]) Tryz.func36 rfl rfl rfl (E0:= [(0,(T.agg (Qp false a))),(1,(T.agg (Qe false s))),(2,(tI u)),(3,(tI v))]) rfl ?_
 obtain ⟨hlim,hmx,hmax⟩:=QG
 have hs2:=hs
 simp only [QI] at hs2
 have hz2:=hz
 simp only [QJ,Zz] at hz2
 have hl:=QV (z:=QP) a.Clues
 have hl2:=QV (z:=zI) s.Asked
 have hco:=QfE v
 have hapl:(s.Asked++ [u]).length=s.Asked.length+1:=by simp
 refine sr (kO (B.box (ts:=(Qp false a)) (tv (T.agg (Qp false a)) rfl) nofun rfl) (kO (B.box (ts:=(Qe false s)) (tv (T.agg (Qe false s)) rfl) nofun rfl) (kO (B.alloc (t:=(T.agg [(tS ByteArray.empty),(tN 0),(tN 0),T.nils,(tN 0),(tN 0)])) (ts:= [(tS ByteArray.empty),(tN 0),(tN 0),T.nils,(tN 0),(tN 0)]) QbH QbJ nofun (fun _=> .agg _ _ rfl (Yb (RL.cons (.str _) (RL.cons (.int _ _) (RL.cons (.int _ _) (RL.cons (.nils) (RL.cons (.int _ _) (RL.cons (.int _ _) (RL.nil _))))))))) rfl) (fO (OF.assign (VEv.bool false)) (nt (sr (lO (OL.loadOn (us:=(Qe false s)) (tv (T.op 1 0) rfl) rfl Zr QZ (lb rfl) rfl) (cO (OC.callF (us:= [(T.agg (Qe false s))]) (r:=(T.agg (Qe true s))) (r':=(T.agg [(tS s.Fill),(tI s.Checks),(tI s.Spent),(T.os 1 3 0 ((s.Asked.map (Qa true)).length)),(tI s.Start),(tI s.Now)])) (objs:= [(Obj.rows 1 (s.Asked.map (Qa true)))]) rfl (vc (tv (T.agg (Qe false s)) rfl) vn) (LendL.cons (lg Zm) ln) (JM (n+41) s (by assumption)) rfl) (kO (B.alloc (t:=(T.agg [(tS ByteArray.empty),(tN 0),(tN 0),T.nils,(tN 0),(tN 0)])) (ts:= [(tS ByteArray.empty),(tN 0),(tN 0),T.nils,(tN 0),(tN 0)]) QbH QbJ nofun (fun _=> .agg _ _ rfl (Yb (RL.cons (.str _) (RL.cons (.int _ _) (RL.cons (.int _ _) (RL.cons (.nils) (RL.cons (.int _ _) (RL.cons (.int _ _) (RL.nil _))))))))) rfl) (cO (B.storeO (us:= [(tS s.Fill),(tI s.Checks),(tI s.Spent),(T.os 1 3 0 ((s.Asked.map (Qa true)).length)),(tI s.Start),(tI s.Now)]) (ws:= [(tS s.Fill),(tI s.Checks),(tI s.Spent),(T.os 1 3 0 ((s.Asked.map (Qa true)).length)),(tI s.Start),(tI s.Now)]) (tv (T.op 4 0) rfl) (tv (T.agg [(tS s.Fill),(tI s.Checks),(tI s.Spent),(T.os 1 3 0 ((s.Asked.map (Qa true)).length)),(tI s.Start),(tI s.Now)]) rfl) nofun rfl rfl (lb rfl) Jp QZ (bc rfl (bc rfl (bc rfl (bc rfl (bc rfl (bc rfl bn)))))) rfl) (nt ?_)))))))))))
 refine sq (sq (VRun.draw (B:= [[],[],[1,0],[0,1,2],[2,1,0,3],[3,0,1,2,4],[3,0,1,2,4],[4,2,1,0,3,6],[6,3,0,1,2,4,7],[7,6,8,4,2,1,0,3,5],[5,3,0,1,2,4,8,6,7,9],[9,7,6,8,5,10,3,0,1,2,4],[4,2,1,0,3,10,5,8,6,7,9,11],[11,9,7,6,8,5,10,3,0,1,2,4,12],[12,4,2,1,0,3,10,5,8,6,7,9,11,13],[13,11,9,7,6,8,5,10,3,0,1,2,4,12,14],[14,13,15,11,9,7,6,8,5,10,3,0,1,2,4,12],[12,4,2,1,0,3,10,5,8,6,7,9,11,15,13,14,16],[16,14,13,15,11,9,7,6,8,5,10,3,0,1,2,4,12,17],[17,12,4,2,1,0,3,10,5,8,6,7,9,11,15,13,14,16,18],[16,14,13,15,11,9,7,6,8,5,10,3,0,1,2,4,12,17],[17,12,4,2,1,0,3,10,5,8,6,7,9,11,15,13,14,16,20],[20,21,18,16,14,13,15,11,9,7,6,8,5,10,3,0,1,2,4,12,17,19],[19,17,12,4,2,1,0,3,10,5,8,6,7,9,11,15,13,14,16,18,21,20,22],[22,20,21,18,19,23,16,14,13,15,11,9,7,6,8,5,10,3,0,1,2,4,12,17]]) (by kernel_rfl) (by kernel_rfl) (lD (OL.loadOn (us:=(Qp false a)) (tv (T.op 0 0) rfl) rfl QeA Qdg (lb rfl) rfl) rfl rfl (lD (OL.loadOn (us:=(Qe false s)) (tv (T.op 1 0) rfl) rfl Zr QZ (lb rfl) rfl) rfl rfl (VRunD.quiet (bi:= [1,0]) rfl VWant.always rfl rfl rfl bn (cS (vc (tv (T.agg (Qp false a)) rfl) (vc (tv (T.agg (Qe false s)) rfl) vn)) (LendL.cons (lg ZY) (LendL.cons (lg Zm) ln)) (QaK (n+0) a s (by assumption) (by assumption)) rfl rfl) (fD (QS (tv (tB (decide (QY a s))) rfl)) rfl rfl (mD (tB (!(decide (QY a s)))) rfl rfl ?_)))))))
 refine gn (QY a s) (fun fhg17_1=> ?_) fun fhg17_1=> ?_
 ·refine oD rfl rfl (ny fhg17_1) rfl ?_
  refine oD rfl rfl (ny fhg17_1) rfl (oD rfl rfl (ny fhg17_1) rfl (oD rfl rfl (ny fhg17_1) rfl (oD rfl rfl (ny fhg17_1) rfl (oD rfl rfl (ny fhg17_1) rfl (fD (OF.pickT (VEv.tmpB rfl (ny fhg17_1)) (VEv.bool true)) rfl rfl (mD (tB true) rfl rfl (VRunD.off rfl (VWant.not (b:=true) rfl rfl rfl) (VRunD.off rfl (VWant.not (b:=true) rfl rfl rfl) (VRunD.off rfl (VWant.not (b:=true) rfl rfl rfl) (fD (OF.pickT (tv (tB true) rfl) (VEv.bool true)) rfl rfl (mD (tB true) rfl rfl ?_)))))))))))
  refine VRunD.off rfl (VWant.not (b:=true) rfl rfl rfl) (VRunD.off rfl (VWant.not (b:=true) rfl rfl rfl) (VRunD.off rfl (VWant.not (b:=true) rfl rfl rfl) (VRunD.off rfl (VWant.not (b:=true) rfl rfl rfl) (VRunD.off rfl (VWant.not (b:=true) rfl rfl rfl) (VRunD.off rfl (VWant.not (b:=true) rfl rfl rfl) (fD (OF.pickT (tv (tB true) rfl) (VEv.bool true)) rfl rfl (VRunD.nil (tn (ct rfl (sr (lO (OL.loadOn (us:= [(tS s.Fill),(tI s.Checks),(tI s.Spent),(T.os 1 3 0 ((s.Asked.map (Qa true)).length)),(tI s.Start),(tI s.Now)]) (tv (T.op 4 0) rfl) rfl Zr QZ (lb rfl) rfl) ?_)))))))))))
  refine cO (B.storeO (us:= [(tS s.Fill),(tI s.Checks),(tI s.Spent),(T.os 1 3 0 ((s.Asked.map (Qa true)).length)),(tI s.Start),(tI s.Now)]) (ws:= [(tS s.Fill),(tI s.Checks),(tI s.Spent),(T.os 1 3 0 ((s.Asked.map (Qa true)).length)),(tI s.Start),(tI s.Now)]) (tv (T.op 2 0) rfl) (tv (T.agg [(tS s.Fill),(tI s.Checks),(tI s.Spent),(T.os 1 3 0 ((s.Asked.map (Qa true)).length)),(tI s.Start),(tI s.Now)]) rfl) nofun rfl rfl (lb rfl) Jp QZ (bc rfl (bc rfl (bc rfl (bc rfl (bc rfl (bc rfl bn)))))) rfl) (fO (OF.assign (VEv.bool false)) (nt (rt (tr ?_))))
  refine vfin.eq (r':=(T.tup [(T.agg [(tS s.Fill),(tI s.Checks),(tI s.Spent),(T.sl true 1 (s.Asked.map (Qa true))),(tI s.Start),(tI s.Now)]),(tB false)])) ?_ (vfin.r (VRes.celln (ws:= [(tS s.Fill),(tI s.Checks),(tI s.Spent),(T.os 1 3 0 ((s.Asked.map (Qa true)).length)),(tI s.Start),(tI s.Now)]) rfl rfl Zr QZ (lb rfl) rfl (VRes.tmp (t:=(tB false)) rfl VRes.nil)) (Give.tup (GiveL.cons (Give.agg (GiveL.cons (Give.str _) (GiveL.cons (Give.int _ _) (GiveL.cons (Give.int _ _) (GiveL.cons (Give.os rfl rfl (okInt.cleanMap _)) (GiveL.cons (Give.int _ _) (GiveL.cons (Give.int _ _) GiveL.nil (by decide)) (by decide)) (by decide)) (by decide)) (by decide)) (by decide))) (GiveL.cons (Give.bool _) GiveL.nil (by decide)) (by decide))))
  show (T.tup [(T.agg [(tS s.Fill),(tI s.Checks),(tI s.Spent),(T.sl true 1 (s.Asked.map (Qa true))),(tI s.Start),(tI s.Now)]),(tB false)])=(T.tup [(T.agg (Qe true (QcL a s u v))),(tB (decide (Z6 a s u v)))])
  (have hno:¬Z6 a s u v:=(by rintro ⟨h1,h2,h3,h4⟩;contradiction);rw [J6 hno,decide_eq_false hno];rfl)
 have hse:QY a s:=fhg17_1
 have hc8:=hse.2.2.2.1
 refine VRunD.free rfl (VWant.on rfl rfl (nz fhg17_1)) rfl (OF.move (tv (tI u) rfl)) (VRunD.free rfl (VWant.on rfl rfl (nz fhg17_1)) rfl (OF.fieldAddrO (tv (T.op 0 0) rfl) Y5) (VRunD.look rfl (VWant.on rfl rfl (nz fhg17_1)) rfl (OL.loadO1 (t:=(rd 2 Qh a.Clues)) (tv (T.op 0 3) rfl) rfl rfl QdQ) (VRunD.look rfl (VWant.on rfl rfl (nz fhg17_1)) rfl (B.lenR (m:=a.Clues.length) (tv (rd 2 Qh a.Clues) rfl) U35 (List.length_map ..)) (VRunD.quiet (bi:= [7,6,8,4,2,1,0,3,5]) rfl (VWant.on rfl rfl (nz fhg17_1)) rfl rfl rfl bn (cS (vc (tv (tI u) rfl) (vc (tv (tN a.Clues.length) rfl) vn)) (ZO rfl) (Yt (n+42) u ((a.Clues.length:Nat):Int)) rfl rfl) (VRunD.free rfl (VWant.on rfl rfl (nz fhg17_1)) rfl (QS (tv (tB (decide (0≤u∧u<((a.Clues.length:Nat):Int)))) rfl)) (fD (OF.pickF (VEv.tmpB rfl (nz fhg17_1)) (tv (tB (!(decide (0≤u∧u<((a.Clues.length:Nat):Int))))) rfl)) rfl rfl (mD (tB (!(decide (0≤u∧u<((a.Clues.length:Nat):Int))))) rfl rfl ?_)))))))
 refine gn (0≤u∧u<((a.Clues.length:Nat):Int)) (fun fhg25_2=> ?_) fun fhg25_2=> ?_
 ·refine oD rfl rfl (ny fhg25_2) rfl ?_
  refine oD rfl rfl (ny fhg25_2) rfl (oD rfl rfl (ny fhg25_2) rfl (fD (OF.pickT (VEv.tmpB rfl (ny fhg25_2)) (VEv.bool true)) rfl rfl (mD (tB true) rfl rfl (VRunD.off rfl (VWant.not (b:=true) rfl rfl rfl) (VRunD.off rfl (VWant.not (b:=true) rfl rfl rfl) (VRunD.off rfl (VWant.not (b:=true) rfl rfl rfl) (VRunD.off rfl (VWant.not (b:=true) rfl rfl rfl) (VRunD.off rfl (VWant.not (b:=true) rfl rfl rfl) (VRunD.off rfl (VWant.not (b:=true) rfl rfl rfl) (fD (OF.pickT (tv (tB true) rfl) (VEv.bool true)) rfl rfl (VRunD.nil ?_)))))))))))
  refine tn (ct rfl (sr (lO (OL.loadOn (us:= [(tS s.Fill),(tI s.Checks),(tI s.Spent),(T.os 1 3 0 ((s.Asked.map (Qa true)).length)),(tI s.Start),(tI s.Now)]) (tv (T.op 4 0) rfl) rfl Zr QZ (lb rfl) rfl) (cO (B.storeO (us:= [(tS s.Fill),(tI s.Checks),(tI s.Spent),(T.os 1 3 0 ((s.Asked.map (Qa true)).length)),(tI s.Start),(tI s.Now)]) (ws:= [(tS s.Fill),(tI s.Checks),(tI s.Spent),(T.os 1 3 0 ((s.Asked.map (Qa true)).length)),(tI s.Start),(tI s.Now)]) (tv (T.op 2 0) rfl) (tv (T.agg [(tS s.Fill),(tI s.Checks),(tI s.Spent),(T.os 1 3 0 ((s.Asked.map (Qa true)).length)),(tI s.Start),(tI s.Now)]) rfl) nofun rfl rfl (lb rfl) Jp QZ (bc rfl (bc rfl (bc rfl (bc rfl (bc rfl (bc rfl bn)))))) rfl) (fO (OF.assign (VEv.bool false)) (nt (rt (tr ?_))))))))
  refine vfin.eq (r':=(T.tup [(T.agg [(tS s.Fill),(tI s.Checks),(tI s.Spent),(T.sl true 1 (s.Asked.map (Qa true))),(tI s.Start),(tI s.Now)]),(tB false)])) ?_ (vfin.r (VRes.celln (ws:= [(tS s.Fill),(tI s.Checks),(tI s.Spent),(T.os 1 3 0 ((s.Asked.map (Qa true)).length)),(tI s.Start),(tI s.Now)]) rfl rfl Zr QZ (lb rfl) rfl (VRes.tmp (t:=(tB false)) rfl VRes.nil)) (Give.tup (GiveL.cons (Give.agg (GiveL.cons (Give.str _) (GiveL.cons (Give.int _ _) (GiveL.cons (Give.int _ _) (GiveL.cons (Give.os rfl rfl (okInt.cleanMap _)) (GiveL.cons (Give.int _ _) (GiveL.cons (Give.int _ _) GiveL.nil (by decide)) (by decide)) (by decide)) (by decide)) (by decide)) (by decide))) (GiveL.cons (Give.bool _) GiveL.nil (by decide)) (by decide))))
  show (T.tup [(T.agg [(tS s.Fill),(tI s.Checks),(tI s.Spent),(T.sl true 1 (s.Asked.map (Qa true))),(tI s.Start),(tI s.Now)]),(tB false)])=(T.tup [(T.agg (Qe true (QcL a s u v))),(tB (decide (Z6 a s u v)))])
  (have hno:¬Z6 a s u v:=(by rintro ⟨h1,h2,h3,h4⟩;omega);rw [J6 hno,decide_eq_false hno];rfl)
 refine VRunD.free rfl (VWant.on rfl rfl (nz fhg25_2)) rfl (OF.move (tv (tI v) rfl)) (VRunD.quiet (bi:= [12,4,2,1,0,3,10,5,8,6,7,9,11,13]) rfl (VWant.on rfl rfl (nz fhg25_2)) rfl rfl rfl bn (cS (vc (tv (tI v) rfl) vn) (ZO rfl) (Qat (n+41) v) rfl rfl) (VRunD.free rfl (VWant.on rfl rfl (nz fhg25_2)) rfl (Y7 (tv (tI (QH v)) rfl) (VEv.int .i64 0)) (fD (OF.pickF (VEv.tmpB rfl (nz fhg25_2)) (tv (tB (decide (QH v=0))) rfl)) rfl rfl (mD (tB (decide (QH v=0))) rfl rfl ?_))))
 refine gw (QH v=0) (fun fhg30_3=> ?_) fun fhg30_3=> ?_
 ·refine oD rfl rfl (dy fhg30_3) rfl ?_
  refine oD rfl rfl (dy fhg30_3) rfl (oD rfl rfl (dy fhg30_3) rfl (oD rfl rfl (dy fhg30_3) rfl (oD rfl rfl (dy fhg30_3) rfl (oD rfl rfl (dy fhg30_3) rfl (fD (OF.pickT (VEv.tmpB rfl (dy fhg30_3)) (VEv.bool true)) rfl rfl (VRunD.nil (tn (ct rfl (sr (lO (OL.loadOn (us:= [(tS s.Fill),(tI s.Checks),(tI s.Spent),(T.os 1 3 0 ((s.Asked.map (Qa true)).length)),(tI s.Start),(tI s.Now)]) (tv (T.op 4 0) rfl) rfl Zr QZ (lb rfl) rfl) (cO (B.storeO (us:= [(tS s.Fill),(tI s.Checks),(tI s.Spent),(T.os 1 3 0 ((s.Asked.map (Qa true)).length)),(tI s.Start),(tI s.Now)]) (ws:= [(tS s.Fill),(tI s.Checks),(tI s.Spent),(T.os 1 3 0 ((s.Asked.map (Qa true)).length)),(tI s.Start),(tI s.Now)]) (tv (T.op 2 0) rfl) (tv (T.agg [(tS s.Fill),(tI s.Checks),(tI s.Spent),(T.os 1 3 0 ((s.Asked.map (Qa true)).length)),(tI s.Start),(tI s.Now)]) rfl) nofun rfl rfl (lb rfl) Jp QZ (bc rfl (bc rfl (bc rfl (bc rfl (bc rfl (bc rfl bn)))))) rfl) ?_)))))))))))
  refine fO (OF.assign (VEv.bool false)) (nt (rt (tr ?_)))
  refine vfin.eq (r':=(T.tup [(T.agg [(tS s.Fill),(tI s.Checks),(tI s.Spent),(T.sl true 1 (s.Asked.map (Qa true))),(tI s.Start),(tI s.Now)]),(tB false)])) ?_ (vfin.r (VRes.celln (ws:= [(tS s.Fill),(tI s.Checks),(tI s.Spent),(T.os 1 3 0 ((s.Asked.map (Qa true)).length)),(tI s.Start),(tI s.Now)]) rfl rfl Zr QZ (lb rfl) rfl (VRes.tmp (t:=(tB false)) rfl VRes.nil)) (Give.tup (GiveL.cons (Give.agg (GiveL.cons (Give.str _) (GiveL.cons (Give.int _ _) (GiveL.cons (Give.int _ _) (GiveL.cons (Give.os rfl rfl (okInt.cleanMap _)) (GiveL.cons (Give.int _ _) (GiveL.cons (Give.int _ _) GiveL.nil (by decide)) (by decide)) (by decide)) (by decide)) (by decide)) (by decide))) (GiveL.cons (Give.bool _) GiveL.nil (by decide)) (by decide))))
  show (T.tup [(T.agg [(tS s.Fill),(tI s.Checks),(tI s.Spent),(T.sl true 1 (s.Asked.map (Qa true))),(tI s.Start),(tI s.Now)]),(tB false)])=(T.tup [(T.agg (Qe true (QcL a s u v))),(tB (decide (Z6 a s u v)))])
  (have hno:¬Z6 a s u v:=(by rintro ⟨h1,h2,h3,h4⟩;contradiction);rw [J6 hno,decide_eq_false hno];rfl)
 refine VRunD.free rfl (VWant.on rfl rfl (dz fhg30_3)) rfl (OF.fieldAddrO (tv (T.op 1 0) rfl) JI) (VRunD.look rfl (VWant.on rfl rfl (dz fhg30_3)) rfl (OL.loadO1 (t:=(tI s.Spent)) (tv (T.op 1 2) rfl) rfl rfl QU) (VRunD.free rfl (VWant.on rfl rfl (dz fhg30_3)) rfl (OF.move (tv (tI v) rfl)) (VRunD.quiet (bi:= [17,12,4,2,1,0,3,10,5,8,6,7,9,11,15,13,14,16,20]) rfl (VWant.on rfl rfl (dz fhg30_3)) rfl rfl rfl bn (cS (vc (tv (tI v) rfl) vn) (ZO rfl) (Qat (n+41) v) rfl rfl) (VRunD.free rfl (VWant.on rfl rfl (dz fhg30_3)) rfl (B.add (n:=(s.Spent+QH v)) (tv (tI s.Spent) rfl) (tv (tI (QH v)) rfl) (by (rw [Qv (by omega)];done))) (VRunD.free rfl (VWant.on rfl rfl (dz fhg30_3)) rfl (xgt (tv (tI (s.Spent+QH v)) rfl) (VEv.int .i64 999)) (fD (OF.pickF (VEv.tmpB rfl (dz fhg30_3)) (tv (tB (decide (999<(s.Spent+QH v)))) rfl)) rfl rfl (VRunD.nil (tn ?_))))))))
 refine cd (999<(s.Spent+QH v)) rfl (fun fhc0=> ?_) fun fhc0=> ?_
 ·refine sr ?_
  refine lO (OL.loadOn (us:= [(tS s.Fill),(tI s.Checks),(tI s.Spent),(T.os 1 3 0 ((s.Asked.map (Qa true)).length)),(tI s.Start),(tI s.Now)]) (tv (T.op 4 0) rfl) rfl Zr QZ (lb rfl) rfl) (cO (B.storeO (us:= [(tS s.Fill),(tI s.Checks),(tI s.Spent),(T.os 1 3 0 ((s.Asked.map (Qa true)).length)),(tI s.Start),(tI s.Now)]) (ws:= [(tS s.Fill),(tI s.Checks),(tI s.Spent),(T.os 1 3 0 ((s.Asked.map (Qa true)).length)),(tI s.Start),(tI s.Now)]) (tv (T.op 2 0) rfl) (tv (T.agg [(tS s.Fill),(tI s.Checks),(tI s.Spent),(T.os 1 3 0 ((s.Asked.map (Qa true)).length)),(tI s.Start),(tI s.Now)]) rfl) nofun rfl rfl (lb rfl) Jp QZ (bc rfl (bc rfl (bc rfl (bc rfl (bc rfl (bc rfl bn)))))) rfl) (fO (OF.assign (VEv.bool false)) (nt (rt (tr ?_)))))
  refine vfin.eq (r':=(T.tup [(T.agg [(tS s.Fill),(tI s.Checks),(tI s.Spent),(T.sl true 1 (s.Asked.map (Qa true))),(tI s.Start),(tI s.Now)]),(tB false)])) ?_ (vfin.r (VRes.celln (ws:= [(tS s.Fill),(tI s.Checks),(tI s.Spent),(T.os 1 3 0 ((s.Asked.map (Qa true)).length)),(tI s.Start),(tI s.Now)]) rfl rfl Zr QZ (lb rfl) rfl (VRes.tmp (t:=(tB false)) rfl VRes.nil)) (Give.tup (GiveL.cons (Give.agg (GiveL.cons (Give.str _) (GiveL.cons (Give.int _ _) (GiveL.cons (Give.int _ _) (GiveL.cons (Give.os rfl rfl (okInt.cleanMap _)) (GiveL.cons (Give.int _ _) (GiveL.cons (Give.int _ _) GiveL.nil (by decide)) (by decide)) (by decide)) (by decide)) (by decide)) (by decide))) (GiveL.cons (Give.bool _) GiveL.nil (by decide)) (by decide))))
  show (T.tup [(T.agg [(tS s.Fill),(tI s.Checks),(tI s.Spent),(T.sl true 1 (s.Asked.map (Qa true))),(tI s.Start),(tI s.Now)]),(tB false)])=(T.tup [(T.agg (Qe true (QcL a s u v))),(tB (decide (Z6 a s u v)))])
  (have hno:¬Z6 a s u v:=(by rintro ⟨h1,h2,h3,h4⟩;contradiction);rw [J6 hno,decide_eq_false hno];rfl)
 refine sk (tn (sq (VRun.draw (B:= [[],[0],[],[2],[2,3,0,1],[4,3,2,1,0],[0,1,2,3,4,5]]) (by kernel_rfl) (by kernel_rfl) (fD (OF.fieldAddrO (tv (T.op 4 0) rfl) JI) rfl rfl (lD (OL.loadO1 (t:=(tI s.Spent)) (tv (T.op 4 2) rfl) rfl rfl QU) rfl rfl (mD (tI v) rfl rfl (VRunD.quiet (bi:= [2]) rfl VWant.always rfl rfl rfl bn (cS (vc (tv (tI v) rfl) vn) (ZO rfl) (Qat (n+41) v) rfl rfl) (fD (B.add (n:=(s.Spent+QH v)) (tv (tI s.Spent) rfl) (tv (tI (QH v)) rfl) (by (rw [Qv (by omega)];done))) rfl rfl (fD (OF.fieldAddrO (tv (T.op 4 0) rfl) JI) rfl rfl (VRunD.chain (bi:= [0,1,2,3,4,5]) rfl VWant.always rfl rfl rfl (by kernel_rfl) (B.storeO (us:= [(tI (s.Spent+QH v))]) (ws:= [(tS s.Fill),(tI s.Checks),(tI (s.Spent+QH v)),(T.os 1 3 0 ((s.Asked.map (Qa true)).length)),(tI s.Start),(tI s.Now)]) (tv (T.op 4 2) rfl) (tv (tI (s.Spent+QH v)) rfl) nofun rfl rfl (lb rfl) Yl Za (bc rfl bn) rfl) (VRunD.nil ?_)))))))))))
 refine tn (sr (lf (T.os 1 3 0 ((s.Asked.map (Qa true)).length)) rfl Z1 rfl rfl Y0 (mO (tI u) rfl (kO (OM.buildSlice (l:= [(tI u)]) (VEvp.cons (tv (tI u) rfl) VEvp.nil) rfl (by decide) (bc (nofun) bn) (bc ((bc (rfl) bn)) bn) (bc (rfl) bn) Zt zo3 (by kernel_rfl) rfl (by rw [Za];decide) Za (Nat.le_of_ble_eq_true rfl)) (cO (B.append (rows:=(s.Asked.map (Qa true))) (rows2:= [[(tI u)]]) (rows3:=((s.Asked++ [u]).map (Qa true))) (VDst.own (tv (T.os 1 3 0 ((s.Asked.map (Qa true)).length)) rfl) rfl rfl) (VSrc.own (tv (T.os 1 5 0 1) rfl) rfl rfl Zt (bc (bc rfl bn) bn)) (by decide) Zt Za (by decide) zo3 rfl (of_decide_eq_true (by kernel_rfl)) (by (simp only [List.length_map,List.length_append,List.length_cons,List.length_nil,List.length_replicate,List.length_set,List.length_drop,List.length_take,Jn] at *;omega)) ((List.map_append (f:=Qa true) (l₁:=s.Asked) (l₂:= [u])).symm)) (cO (OC.callF (us:= [(rd 1 Qa (s.Asked++ [u]))]) (r:=(T.sl true 1 ((YQ (s.Asked++ [u])).map (Qa true)))) (r':=(T.os 1 7 0 (((YQ (s.Asked++ [u])).map (Qa true)).length))) (objs:= [(Obj.rows 1 ((YQ (s.Asked++ [u])).map (Qa true)))]) rfl (vc (tv (T.os 1 6 0 (((s.Asked++ [u]).map (Qa true)).length)) rfl) vn) (LendL.cons (Lend.os rfl rfl (okInt.fzMap _ _)) ln) (J8 (n+41) (s.Asked++ [u]) (by omega)) rfl) (fO (OF.fieldAddrO (tv (T.op 4 0) rfl) Z1) (cO (B.storeO (us:= [(T.os 1 7 0 (((YQ (s.Asked++ [u])).map (Qa true)).length))]) (ws:= [(tS s.Fill),(tI s.Checks),(tI (s.Spent+QH v)),(T.os 1 7 0 (((YQ (s.Asked++ [u])).map (Qa true)).length)),(tI s.Start),(tI s.Now)]) (tv (T.op 4 3) rfl) (tv (T.os 1 7 0 (((YQ (s.Asked++ [u])).map (Qa true)).length)) rfl) nofun rfl rfl (lb rfl) QcG Qbd (bc rfl bn) rfl) (nt (sr (lO (OL.loadOn (us:= [(tS s.Fill),(tI s.Checks),(tI (s.Spent+QH v)),(T.os 1 7 0 (((YQ (s.Asked++ [u])).map (Qa true)).length)),(tI s.Start),(tI s.Now)]) (tv (T.op 4 0) rfl) rfl Zr QZ (lb rfl) rfl) ?_)))))))))))
 refine cO (B.storeO (us:= [(tS s.Fill),(tI s.Checks),(tI (s.Spent+QH v)),(T.os 1 7 0 (((YQ (s.Asked++ [u])).map (Qa true)).length)),(tI s.Start),(tI s.Now)]) (ws:= [(tS s.Fill),(tI s.Checks),(tI (s.Spent+QH v)),(T.os 1 7 0 (((YQ (s.Asked++ [u])).map (Qa true)).length)),(tI s.Start),(tI s.Now)]) (tv (T.op 2 0) rfl) (tv (T.agg [(tS s.Fill),(tI s.Checks),(tI (s.Spent+QH v)),(T.os 1 7 0 (((YQ (s.Asked++ [u])).map (Qa true)).length)),(tI s.Start),(tI s.Now)]) rfl) nofun rfl rfl (lb rfl) Jp QZ (bc rfl (bc rfl (bc rfl (bc rfl (bc rfl (bc rfl bn)))))) rfl) (fO (OF.assign (VEv.bool true)) (nt (rt ?_)))
 refine vfin.eq (r':=(T.tup [(T.agg [(tS s.Fill),(tI s.Checks),(tI (s.Spent+QH v)),(T.sl true 1 ((YQ (s.Asked++ [u])).map (Qa true))),(tI s.Start),(tI s.Now)]),(tB true)])) ?_ (vfin.r (VRes.celln (ws:= [(tS s.Fill),(tI s.Checks),(tI (s.Spent+QH v)),(T.os 1 7 0 (((YQ (s.Asked++ [u])).map (Qa true)).length)),(tI s.Start),(tI s.Now)]) rfl rfl Zr QZ (lb rfl) rfl (VRes.tmp (t:=(tB true)) rfl VRes.nil)) (Give.tup (GiveL.cons (Give.agg (GiveL.cons (Give.str _) (GiveL.cons (Give.int _ _) (GiveL.cons (Give.int _ _) (GiveL.cons (Give.os rfl rfl (okInt.cleanMap _)) (GiveL.cons (Give.int _ _) (GiveL.cons (Give.int _ _) GiveL.nil (by decide)) (by decide)) (by decide)) (by decide)) (by decide)) (by decide))) (GiveL.cons (Give.bool _) GiveL.nil (by decide)) (by decide))))
 show (T.tup [(T.agg [(tS s.Fill),(tI s.Checks),(tI (s.Spent+QH v)),(T.sl true 1 ((YQ (s.Asked++ [u])).map (Qa true))),(tI s.Start),(tI s.Now)]),(tB true)])=(T.tup [(T.agg (Qe true (QcL a s u v))),(tB (decide (Z6 a s u v)))])
 (have hok:Z6 a s u v:=(by refine ⟨?_,?_,?_,?_⟩<;>first | assumption | omega);rw [Qho hok,decide_eq_true hok,← QkD hok.1.2.2.2.2.2.1];rfl)
noncomputable section
def Q8 (a:D.Puzzle) (s:D.Session) (c:Int) (w:ByteArray):Prop:=QY a s∧(gridOk a.Grid∧(0≤c∧c≤((a.Grid.Cells.size:Nat):Int) - 1)∧Qs a.Grid.Cells (Int.toNat c)=46)∧w.size=1∧JJ w
instance (a:D.Puzzle) (s:D.Session) (c:Int) (w:ByteArray):Decidable (Q8 a s c w):=Classical.propDecidable _
def Qr (a:D.Puzzle) (s:D.Session) (c:Int) (w:ByteArray):D.Session:=if Q8 a s c w then D.Session.mk (wrS s.Fill w [c] 1) s.Checks s.Spent s.Asked s.Start s.Now else s
theorem QkF {a:D.Puzzle} {s:D.Session} {c:Int} {w:ByteArray} (h:¬Q8 a s c w):Qr a s c w=s:=if_neg h
theorem Qix {a:D.Puzzle} {s:D.Session} {c:Int} {w:ByteArray} (h:Q8 a s c w):Qr a s c w=D.Session.mk (wrS s.Fill w [c] 1) s.Checks s.Spent s.Asked s.Start s.Now:=if_pos h
theorem QmU (a:D.Puzzle) (s:D.Session) (c:Int) (w:ByteArray):QI (Qr a s c w)=QI s:=by
 unfold Qr
 split
 ·simp only [QI,QhC]
 ·rfl
theorem Qlo (a:D.Puzzle) (s:D.Session) (c:Int) (w:ByteArray):(Qr a s c w).Asked.length=s.Asked.length:=by
 unfold Qr
 split<;>rfl
theorem Qmj {f w:ByteArray} {c:Int} (hc:0≤c∧c<((f.size:Nat):Int)) (hw:w.size=1):f.extract 0 (Int.toNat c)++w++f.extract (Int.toNat (c+1)) f.size=wrS f w [c] 1:=by
 have h1:=QjA (f:=f) (w:=w) (cs:= [c]) (i:=0) (c:=c) rfl hc (by omega)
 rw [QmQ] at h1
 rw [← h1]
 have h2:w.extract 0 (0+1)=w:=by
  rw [Nat.zero_add,← hw]
  exact ByteArray.extract_zero_size
 rw [h2]
end
theorem Qb8 (n:Nat) (a:D.Puzzle) (s:D.Session) (c:Int) (w:ByteArray) (hz:QJ a≤mx) (hs:QI s≤mx) (hw:w.size≤maxLen):Pure (Qq Tryz.prog (n+12)) 39 [(T.agg (Qp false a)),(T.agg (Qe false s)),(tI c),(tS w)] (T.tup [(T.agg (Qe true (Qr a s c w))),(tB (decide (Q8 a s c w)))]):=by
 refine Pure.intro (rs:= [ResultVar.cell 8 56,ResultVar.tmp 9]) Tryz.func39 rfl rfl rfl (E0:= [(0,(T.agg (Qp false a))),(1,(T.agg (Qe false s))),(2,(tI c)),(3,(tS w))]) rfl ?_
 obtain ⟨hlim,hmx,hmax⟩:=QG
 have hs2:=hs
 simp only [QI] at hs2
 have hz2:=hz
 simp only [QJ,Zz] at hz2
 have hl:=QV (z:=QP) a.Clues
 have hl2:=QV (z:=zI) s.Asked
 refine sr (kO (B.box (ts:=(Qp false a)) (tv (T.agg (Qp false a)) rfl) nofun rfl) (kO (B.box (ts:=(Qe false s)) (tv (T.agg (Qe false s)) rfl) nofun rfl) (kO (B.alloc (t:=(T.agg [(tS ByteArray.empty),(tN 0),(tN 0),T.nils,(tN 0),(tN 0)])) (ts:= [(tS ByteArray.empty),(tN 0),(tN 0),T.nils,(tN 0),(tN 0)]) QbH QbJ nofun (fun _=> .agg _ _ rfl (Yb (RL.cons (.str _) (RL.cons (.int _ _) (RL.cons (.int _ _) (RL.cons (.nils) (RL.cons (.int _ _) (RL.cons (.int _ _) (RL.nil _))))))))) rfl) (fO (OF.assign (VEv.bool false)) (nt (sr (lO (OL.loadOn (us:=(Qe false s)) (tv (T.op 1 0) rfl) rfl Zr QZ (lb rfl) rfl) (cO (OC.callF (us:= [(T.agg (Qe false s))]) (r:=(T.agg (Qe true s))) (r':=(T.agg [(tS s.Fill),(tI s.Checks),(tI s.Spent),(T.os 1 3 0 ((s.Asked.map (Qa true)).length)),(tI s.Start),(tI s.Now)])) (objs:= [(Obj.rows 1 (s.Asked.map (Qa true)))]) rfl (vc (tv (T.agg (Qe false s)) rfl) vn) (LendL.cons (lg Zm) ln) (Qbn (n+10) s (by assumption)) rfl) (kO (B.alloc (t:=(T.agg [(tS ByteArray.empty),(tN 0),(tN 0),T.nils,(tN 0),(tN 0)])) (ts:= [(tS ByteArray.empty),(tN 0),(tN 0),T.nils,(tN 0),(tN 0)]) QbH QbJ nofun (fun _=> .agg _ _ rfl (Yb (RL.cons (.str _) (RL.cons (.int _ _) (RL.cons (.int _ _) (RL.cons (.nils) (RL.cons (.int _ _) (RL.cons (.int _ _) (RL.nil _))))))))) rfl) (cO (B.storeO (us:= [(tS s.Fill),(tI s.Checks),(tI s.Spent),(T.os 1 3 0 ((s.Asked.map (Qa true)).length)),(tI s.Start),(tI s.Now)]) (ws:= [(tS s.Fill),(tI s.Checks),(tI s.Spent),(T.os 1 3 0 ((s.Asked.map (Qa true)).length)),(tI s.Start),(tI s.Now)]) (tv (T.op 4 0) rfl) (tv (T.agg [(tS s.Fill),(tI s.Checks),(tI s.Spent),(T.os 1 3 0 ((s.Asked.map (Qa true)).length)),(tI s.Start),(tI s.Now)]) rfl) nofun rfl rfl (lb rfl) Jp QZ (bc rfl (bc rfl (bc rfl (bc rfl (bc rfl (bc rfl bn)))))) rfl) (nt ?_)))))))))))
 refine sq (sr (lO (OL.loadOn (us:=(Qp false a)) (tv (T.op 0 0) rfl) rfl QeA Qdg (lb rfl) rfl) (lO (OL.loadOn (us:=(Qe false s)) (tv (T.op 1 0) rfl) rfl Zr QZ (lb rfl) rfl) (cO (cS (vc (tv (T.agg (Qp false a)) rfl) (vc (tv (T.agg (Qe false s)) rfl) vn)) (LendL.cons (lg ZY) (LendL.cons (lg Zm) ln)) (Qax (n+0) a s (by assumption) (by assumption)) rfl rfl) (fO (QS (tv (tB (decide (QY a s))) rfl)) (mO (tB (!(decide (QY a s)))) rfl ?_))))))
 refine VRunO.joinB 6 [18,19,20,21,22] 23 (tB (decide ((¬(QY a s))∨(¬(gridOk a.Grid∧(0≤c∧c≤((a.Grid.Cells.size:Nat):Int) - 1)∧Qs a.Grid.Cells (Int.toNat c)=46))))) ?_ ?_
 ·refine gn (QY a s) (fun fhg17_1=> ?_) fun fhg17_1=> ?_
  ·refine Qy 5 4 false 17 (ny fhg17_1) rfl rfl rfl ?_
   refine fO (OF.pickT (VEv.tmpB rfl (ny fhg17_1)) (VEv.bool true)) (VRunO.nil ?_)
   exact jq (congrArg T.bool (kOT fhg17_1)) (js rfl (js rfl (js rfl (js rfl (js rfl (jn))))))
  ·refine gF (nz fhg17_1) rfl rfl (OF.fieldAddrO (tv (T.op 0 0) rfl) JN) ?_
   refine gL (nz fhg17_1) rfl rfl (OL.loadOn (us:=(Qc false a.Grid)) (tv (T.op 0 0) rfl) rfl Q1 QT (lb rfl) rfl) (gF (nz fhg17_1) rfl rfl (OF.move (tv (tI c) rfl)) (VRunO.chain (VWant.on rfl rfl (nz fhg17_1)) (cS (vc (tv (T.agg (Qc false a.Grid)) rfl) (vc (tv (tI c) rfl) vn)) (LendL.cons (lg Qt) (lp rfl ln)) (Qa3 (n+8) a.Grid c (by omega)) rfl rfl) (gF (nz fhg17_1) rfl rfl (QS (tv (tB (decide (gridOk a.Grid∧(0≤c∧c≤((a.Grid.Cells.size:Nat):Int) - 1)∧Qs a.Grid.Cells (Int.toNat c)=46))) rfl)) (fO (OF.pickF (VEv.tmpB rfl (nz fhg17_1)) (tv (tB (!(decide (gridOk a.Grid∧(0≤c∧c≤((a.Grid.Cells.size:Nat):Int) - 1)∧Qs a.Grid.Cells (Int.toNat c)=46)))) rfl)) (VRunO.nil ?_)))))
   exact jq (congrArg T.bool (kOF (not_not_intro fhg17_1) dN)) (js rfl (js rfl (js rfl (js rfl (js rfl (jn))))))
 refine mO (tB (decide ((¬(QY a s))∨(¬(gridOk a.Grid∧(0≤c∧c≤((a.Grid.Cells.size:Nat):Int) - 1)∧Qs a.Grid.Cells (Int.toNat c)=46))))) rfl ?_
 refine VRunO.joinB 4 [25,26,27] 28 (tB (decide (((¬(QY a s))∨(¬(gridOk a.Grid∧(0≤c∧c≤((a.Grid.Cells.size:Nat):Int) - 1)∧Qs a.Grid.Cells (Int.toNat c)=46)))∨(¬(w.size=1))))) ?_ ?_
 ·refine gw ((¬(QY a s))∨(¬(gridOk a.Grid∧(0≤c∧c≤((a.Grid.Cells.size:Nat):Int) - 1)∧Qs a.Grid.Cells (Int.toNat c)=46))) (fun fhg24_2=> ?_) fun fhg24_2=> ?_
  ·refine Qy 3 11 false 24 (dy fhg24_2) rfl rfl rfl ?_
   refine fO (OF.pickT (VEv.tmpB rfl (dy fhg24_2)) (VEv.bool true)) (VRunO.nil ?_)
   exact jq (congrArg T.bool (kOT fhg24_2)) (js rfl (js rfl (js rfl (jn))))
  ·refine gF (dz fhg24_2) rfl rfl (OF.move (tv (tS w) rfl)) ?_
   refine gL (dz fhg24_2) rfl rfl (B.lenS (tv (tS w) rfl) U9) (gF (dz fhg24_2) rfl rfl (B.neq (c:=(!(decide (w.size=1)))) (tv (tN w.size) rfl) (VEv.int .i64 1) (by exact QlP (by omega))) (fO (OF.pickF (VEv.tmpB rfl (dz fhg24_2)) (tv (tB (!(decide (w.size=1)))) rfl)) (VRunO.nil ?_)))
   exact jq (congrArg T.bool (kOF fhg24_2 dN)) (js rfl (js rfl (js rfl (jn))))
 refine mO (tB (decide (((¬(QY a s))∨(¬(gridOk a.Grid∧(0≤c∧c≤((a.Grid.Cells.size:Nat):Int) - 1)∧Qs a.Grid.Cells (Int.toNat c)=46)))∨(¬(w.size=1))))) rfl ?_
 refine VRunO.joinB 4 [30,31,32] 33 (tB (decide ((((¬(QY a s))∨(¬(gridOk a.Grid∧(0≤c∧c≤((a.Grid.Cells.size:Nat):Int) - 1)∧Qs a.Grid.Cells (Int.toNat c)=46)))∨(¬(w.size=1)))∨(¬(JJ w))))) ?_ ?_
 ·refine gw (((¬(QY a s))∨(¬(gridOk a.Grid∧(0≤c∧c≤((a.Grid.Cells.size:Nat):Int) - 1)∧Qs a.Grid.Cells (Int.toNat c)=46)))∨(¬(w.size=1))) (fun fhg29_3=> ?_) fun fhg29_3=> ?_
  ·refine Qy 3 16 false 29 (dy fhg29_3) rfl rfl rfl ?_
   refine fO (OF.pickT (VEv.tmpB rfl (dy fhg29_3)) (VEv.bool true)) (VRunO.nil ?_)
   exact jq (congrArg T.bool (kOT fhg29_3)) (js rfl (js rfl (js rfl (jn))))
  ·refine gF (dz fhg29_3) rfl rfl (OF.move (tv (tS w) rfl)) ?_
   refine VRunO.chain (VWant.on rfl rfl (dz fhg29_3)) (cS (vc (tv (tS w) rfl) vn) (ZO rfl) (QcW (n+9) w (by assumption)) rfl rfl) (gF (dz fhg29_3) rfl rfl (QS (tv (tB (decide (JJ w))) rfl)) (fO (OF.pickF (VEv.tmpB rfl (dz fhg29_3)) (tv (tB (!(decide (JJ w)))) rfl)) (VRunO.nil ?_)))
   exact jq (congrArg T.bool (kOF fhg29_3 dN)) (js rfl (js rfl (js rfl (jn))))
 refine nt ?_
 refine cd ((((¬(QY a s))∨(¬(gridOk a.Grid∧(0≤c∧c≤((a.Grid.Cells.size:Nat):Int) - 1)∧Qs a.Grid.Cells (Int.toNat c)=46)))∨(¬(w.size=1)))∨(¬(JJ w))) rfl (fun fhc0=> ?_) fun fhc0=> ?_
 ·refine sr ?_
  refine lO (OL.loadOn (us:= [(tS s.Fill),(tI s.Checks),(tI s.Spent),(T.os 1 3 0 ((s.Asked.map (Qa true)).length)),(tI s.Start),(tI s.Now)]) (tv (T.op 4 0) rfl) rfl Zr QZ (lb rfl) rfl) (cO (B.storeO (us:= [(tS s.Fill),(tI s.Checks),(tI s.Spent),(T.os 1 3 0 ((s.Asked.map (Qa true)).length)),(tI s.Start),(tI s.Now)]) (ws:= [(tS s.Fill),(tI s.Checks),(tI s.Spent),(T.os 1 3 0 ((s.Asked.map (Qa true)).length)),(tI s.Start),(tI s.Now)]) (tv (T.op 2 0) rfl) (tv (T.agg [(tS s.Fill),(tI s.Checks),(tI s.Spent),(T.os 1 3 0 ((s.Asked.map (Qa true)).length)),(tI s.Start),(tI s.Now)]) rfl) nofun rfl rfl (lb rfl) Jp QZ (bc rfl (bc rfl (bc rfl (bc rfl (bc rfl (bc rfl bn)))))) rfl) (fO (OF.assign (VEv.bool false)) (nt (rt (tr ?_)))))
  refine vfin.eq (r':=(T.tup [(T.agg [(tS s.Fill),(tI s.Checks),(tI s.Spent),(T.sl true 1 (s.Asked.map (Qa true))),(tI s.Start),(tI s.Now)]),(tB false)])) ?_ (vfin.r (VRes.celln (ws:= [(tS s.Fill),(tI s.Checks),(tI s.Spent),(T.os 1 3 0 ((s.Asked.map (Qa true)).length)),(tI s.Start),(tI s.Now)]) rfl rfl Zr QZ (lb rfl) rfl (VRes.tmp (t:=(tB false)) rfl VRes.nil)) (Give.tup (GiveL.cons (Give.agg (GiveL.cons (Give.str _) (GiveL.cons (Give.int _ _) (GiveL.cons (Give.int _ _) (GiveL.cons (Give.os rfl rfl (okInt.cleanMap _)) (GiveL.cons (Give.int _ _) (GiveL.cons (Give.int _ _) GiveL.nil (by decide)) (by decide)) (by decide)) (by decide)) (by decide)) (by decide))) (GiveL.cons (Give.bool _) GiveL.nil (by decide)) (by decide))))
  show (T.tup [(T.agg [(tS s.Fill),(tI s.Checks),(tI s.Spent),(T.sl true 1 (s.Asked.map (Qa true))),(tI s.Start),(tI s.Now)]),(tB false)])=(T.tup [(T.agg (Qe true (Qr a s c w))),(tB (decide (Q8 a s c w)))])
  (have hno:¬Q8 a s c w:=(by rintro ⟨h1,h2,h3,h4⟩;rcases fhc0 with ((h | h) | h) | h<;>contradiction);rw [QkF hno,decide_eq_false hno];rfl)
 have hok:Q8 a s c w:=(by simp only [not_or,Classical.not_not] at fhc0;exact ⟨fhc0.1.1.1,fhc0.1.1.2,fhc0.1.2,fhc0.2⟩)
 have hfz:s.Fill.size=a.Grid.Cells.size:=hok.1.2.1.2.1
 have hcb:=hok.2.1.2.1
 refine sk (tn (sq (VRun.draw (B:= [[],[0],[],[2,0,1],[],[4,1,0,2,3],[],[6],[],[8],[8,9,6,7],[7,6,9,8,10,3,2,0,1,4,5],[11,10,9,8,7,6,5,4,3,2,1,0],[0,1,2,3,4,5,6,7,8,9,10,11,12]]) (by kernel_rfl) (by kernel_rfl) (fD (OF.fieldAddrO (tv (T.op 1 0) rfl) Qak) rfl rfl (lD (OL.loadO1 (t:=(tS s.Fill)) (tv (T.op 1 0) rfl) rfl rfl Z5) rfl rfl (mD (tI c) rfl rfl (lD (OL.sliceSHi (j:=(Int.toNat c)) (tv (tS s.Fill) rfl) (tv (tI c) rfl) (by omega) (by omega) U9) rfl rfl (mD (tS w) rfl rfl (fD (B.sadd (tv (tS (s.Fill.extract 0 (Int.toNat c))) rfl) (tv (tS w) rfl) (by (simp only [ByteArray.size_extract,ByteArray.size_append];omega))) rfl rfl (fD (OF.fieldAddrO (tv (T.op 1 0) rfl) Qak) rfl rfl (lD (OL.loadO1 (t:=(tS s.Fill)) (tv (T.op 1 0) rfl) rfl rfl Z5) rfl rfl ?_)))))))))))
 refine mD (tI c) rfl rfl (fD (B.add (n:=(c+1)) (tv (tI c) rfl) (VEv.int .i64 1) (by (rw [Qv (by omega)];done))) rfl rfl (lD (OL.sliceSLo (i:=(Int.toNat (c+1))) (tv (tS s.Fill) rfl) (tv (tI (c+1)) rfl) (by omega) (by omega) U9) rfl rfl (fD (B.sadd (tv (tS ((s.Fill.extract 0 (Int.toNat c))++w)) rfl) (tv (tS (s.Fill.extract (Int.toNat (c+1)) s.Fill.size)) rfl) (by (simp only [ByteArray.size_extract,ByteArray.size_append];omega))) rfl rfl (fD (OF.fieldAddrO (tv (T.op 4 0) rfl) Qak) rfl rfl (VRunD.chain (bi:= [0,1,2,3,4,5,6,7,8,9,10,11,12]) rfl VWant.always rfl rfl rfl (by kernel_rfl) (B.storeO (us:= [(tS (((s.Fill.extract 0 (Int.toNat c))++w)++(s.Fill.extract (Int.toNat (c+1)) s.Fill.size)))]) (ws:= [(tS (((s.Fill.extract 0 (Int.toNat c))++w)++(s.Fill.extract (Int.toNat (c+1)) s.Fill.size))),(tI s.Checks),(tI s.Spent),(T.os 1 3 0 ((s.Asked.map (Qa true)).length)),(tI s.Start),(tI s.Now)]) (tv (T.op 4 0) rfl) (tv (tS (((s.Fill.extract 0 (Int.toNat c))++w)++(s.Fill.extract (Int.toNat (c+1)) s.Fill.size))) rfl) nofun rfl rfl (lb rfl) if9 sz9 (bc rfl bn) rfl) (VRunD.nil (tn (sr (lO (OL.loadOn (us:= [(tS (((s.Fill.extract 0 (Int.toNat c))++w)++(s.Fill.extract (Int.toNat (c+1)) s.Fill.size))),(tI s.Checks),(tI s.Spent),(T.os 1 3 0 ((s.Asked.map (Qa true)).length)),(tI s.Start),(tI s.Now)]) (tv (T.op 4 0) rfl) rfl Zr QZ (lb rfl) rfl) (cO (B.storeO (us:= [(tS (((s.Fill.extract 0 (Int.toNat c))++w)++(s.Fill.extract (Int.toNat (c+1)) s.Fill.size))),(tI s.Checks),(tI s.Spent),(T.os 1 3 0 ((s.Asked.map (Qa true)).length)),(tI s.Start),(tI s.Now)]) (ws:= [(tS (((s.Fill.extract 0 (Int.toNat c))++w)++(s.Fill.extract (Int.toNat (c+1)) s.Fill.size))),(tI s.Checks),(tI s.Spent),(T.os 1 3 0 ((s.Asked.map (Qa true)).length)),(tI s.Start),(tI s.Now)]) (tv (T.op 2 0) rfl) (tv (T.agg [(tS (((s.Fill.extract 0 (Int.toNat c))++w)++(s.Fill.extract (Int.toNat (c+1)) s.Fill.size))),(tI s.Checks),(tI s.Spent),(T.os 1 3 0 ((s.Asked.map (Qa true)).length)),(tI s.Start),(tI s.Now)]) rfl) nofun rfl rfl (lb rfl) Jp QZ (bc rfl (bc rfl (bc rfl (bc rfl (bc rfl (bc rfl bn)))))) rfl) (fO (OF.assign (VEv.bool true)) ?_)))))))))))
 refine nt (rt ?_)
 refine vfin.eq (r':=(T.tup [(T.agg [(tS (((s.Fill.extract 0 (Int.toNat c))++w)++(s.Fill.extract (Int.toNat (c+1)) s.Fill.size))),(tI s.Checks),(tI s.Spent),(T.sl true 1 (s.Asked.map (Qa true))),(tI s.Start),(tI s.Now)]),(tB true)])) ?_ (vfin.r (VRes.celln (ws:= [(tS (((s.Fill.extract 0 (Int.toNat c))++w)++(s.Fill.extract (Int.toNat (c+1)) s.Fill.size))),(tI s.Checks),(tI s.Spent),(T.os 1 3 0 ((s.Asked.map (Qa true)).length)),(tI s.Start),(tI s.Now)]) rfl rfl Zr QZ (lb rfl) rfl (VRes.tmp (t:=(tB true)) rfl VRes.nil)) (Give.tup (GiveL.cons (Give.agg (GiveL.cons (Give.str _) (GiveL.cons (Give.int _ _) (GiveL.cons (Give.int _ _) (GiveL.cons (Give.os rfl rfl (okInt.cleanMap _)) (GiveL.cons (Give.int _ _) (GiveL.cons (Give.int _ _) GiveL.nil (by decide)) (by decide)) (by decide)) (by decide)) (by decide)) (by decide))) (GiveL.cons (Give.bool _) GiveL.nil (by decide)) (by decide))))
 show (T.tup [(T.agg [(tS (((s.Fill.extract 0 (Int.toNat c))++w)++(s.Fill.extract (Int.toNat (c+1)) s.Fill.size))),(tI s.Checks),(tI s.Spent),(T.sl true 1 (s.Asked.map (Qa true))),(tI s.Start),(tI s.Now)]),(tB true)])=(T.tup [(T.agg (Qe true (Qr a s c w))),(tB (decide (Q8 a s c w)))])
 (rw [Qix hok,decide_eq_true hok,← Qmj ⟨hcb.1,by omega⟩ hok.2.2.1];rfl)
theorem JO (n:Nat) (a:D.Puzzle) (s:D.Session) (c:Int) (w:ByteArray) (hz:QJ a≤mx) (hs:QI s≤mx) (hw:w.size≤maxLen):Pure (Qq Tryz.prog (n+44)) 40 [(T.agg (Qp false a)),(T.agg (Qe false s)),(tI c),(tS w)] (T.tup [(T.agg (Qe true (Qr a s c w))),(tB (decide (Q8 a s c w)))]):=by
 refine Pure.intro (rs:= [ResultVar.cell 8 56,ResultVar.tmp 9]) Tryz.func40 rfl rfl rfl (E0:= [(0,(T.agg (Qp false a))),(1,(T.agg (Qe false s))),(2,(tI c)),(3,(tS w))]) rfl ?_
 obtain ⟨hlim,hmx,hmax⟩:=QG
 have hs2:=hs
 simp only [QI] at hs2
 have hz2:=hz
 simp only [QJ,Zz] at hz2
 have hl:=QV (z:=QP) a.Clues
 have hl2:=QV (z:=zI) s.Asked
 refine sr (kO (B.box (ts:=(Qp false a)) (tv (T.agg (Qp false a)) rfl) nofun rfl) (kO (B.box (ts:=(Qe false s)) (tv (T.agg (Qe false s)) rfl) nofun rfl) (kO (B.alloc (t:=(T.agg [(tS ByteArray.empty),(tN 0),(tN 0),T.nils,(tN 0),(tN 0)])) (ts:= [(tS ByteArray.empty),(tN 0),(tN 0),T.nils,(tN 0),(tN 0)]) QbH QbJ nofun (fun _=> .agg _ _ rfl (Yb (RL.cons (.str _) (RL.cons (.int _ _) (RL.cons (.int _ _) (RL.cons (.nils) (RL.cons (.int _ _) (RL.cons (.int _ _) (RL.nil _))))))))) rfl) (fO (OF.assign (VEv.bool false)) (nt (sr (lO (OL.loadOn (us:=(Qe false s)) (tv (T.op 1 0) rfl) rfl Zr QZ (lb rfl) rfl) (cO (OC.callF (us:= [(T.agg (Qe false s))]) (r:=(T.agg (Qe true s))) (r':=(T.agg [(tS s.Fill),(tI s.Checks),(tI s.Spent),(T.os 1 3 0 ((s.Asked.map (Qa true)).length)),(tI s.Start),(tI s.Now)])) (objs:= [(Obj.rows 1 (s.Asked.map (Qa true)))]) rfl (vc (tv (T.agg (Qe false s)) rfl) vn) (LendL.cons (lg Zm) ln) (JM (n+41) s (by assumption)) rfl) (kO (B.alloc (t:=(T.agg [(tS ByteArray.empty),(tN 0),(tN 0),T.nils,(tN 0),(tN 0)])) (ts:= [(tS ByteArray.empty),(tN 0),(tN 0),T.nils,(tN 0),(tN 0)]) QbH QbJ nofun (fun _=> .agg _ _ rfl (Yb (RL.cons (.str _) (RL.cons (.int _ _) (RL.cons (.int _ _) (RL.cons (.nils) (RL.cons (.int _ _) (RL.cons (.int _ _) (RL.nil _))))))))) rfl) (cO (B.storeO (us:= [(tS s.Fill),(tI s.Checks),(tI s.Spent),(T.os 1 3 0 ((s.Asked.map (Qa true)).length)),(tI s.Start),(tI s.Now)]) (ws:= [(tS s.Fill),(tI s.Checks),(tI s.Spent),(T.os 1 3 0 ((s.Asked.map (Qa true)).length)),(tI s.Start),(tI s.Now)]) (tv (T.op 4 0) rfl) (tv (T.agg [(tS s.Fill),(tI s.Checks),(tI s.Spent),(T.os 1 3 0 ((s.Asked.map (Qa true)).length)),(tI s.Start),(tI s.Now)]) rfl) nofun rfl rfl (lb rfl) Jp QZ (bc rfl (bc rfl (bc rfl (bc rfl (bc rfl (bc rfl bn)))))) rfl) (nt ?_)))))))))))
 refine sq (sr (lO (OL.loadOn (us:=(Qp false a)) (tv (T.op 0 0) rfl) rfl QeA Qdg (lb rfl) rfl) (lO (OL.loadOn (us:=(Qe false s)) (tv (T.op 1 0) rfl) rfl Zr QZ (lb rfl) rfl) (cO (cS (vc (tv (T.agg (Qp false a)) rfl) (vc (tv (T.agg (Qe false s)) rfl) vn)) (LendL.cons (lg ZY) (LendL.cons (lg Zm) ln)) (QaK (n+0) a s (by assumption) (by assumption)) rfl rfl) (fO (QS (tv (tB (decide (QY a s))) rfl)) (mO (tB (!(decide (QY a s)))) rfl ?_))))))
 refine VRunO.joinB 4 [18,19,20] 21 (tB (decide ((¬(QY a s))∨(¬(w.size=1))))) ?_ ?_
 ·refine gn (QY a s) (fun fhg17_1=> ?_) fun fhg17_1=> ?_
  ·refine Qy 3 4 false 17 (ny fhg17_1) rfl rfl rfl ?_
   refine fO (OF.pickT (VEv.tmpB rfl (ny fhg17_1)) (VEv.bool true)) (VRunO.nil ?_)
   exact jq (congrArg T.bool (kOT fhg17_1)) (js rfl (js rfl (js rfl (jn))))
  ·refine gF (nz fhg17_1) rfl rfl (OF.move (tv (tS w) rfl)) ?_
   refine gL (nz fhg17_1) rfl rfl (B.lenS (tv (tS w) rfl) U9) (gF (nz fhg17_1) rfl rfl (B.neq (c:=(!(decide (w.size=1)))) (tv (tN w.size) rfl) (VEv.int .i64 1) (by exact QlP (by omega))) (fO (OF.pickF (VEv.tmpB rfl (nz fhg17_1)) (tv (tB (!(decide (w.size=1)))) rfl)) (VRunO.nil ?_)))
   exact jq (congrArg T.bool (kOF (not_not_intro fhg17_1) dN)) (js rfl (js rfl (js rfl (jn))))
 refine mO (tB (decide ((¬(QY a s))∨(¬(w.size=1))))) rfl ?_
 refine VRunO.joinB 4 [23,24,25] 26 (tB (decide (((¬(QY a s))∨(¬(w.size=1)))∨(¬(JJ w))))) ?_ ?_
 ·refine gw ((¬(QY a s))∨(¬(w.size=1))) (fun fhg22_2=> ?_) fun fhg22_2=> ?_
  ·refine Qy 3 9 false 22 (dy fhg22_2) rfl rfl rfl ?_
   refine fO (OF.pickT (VEv.tmpB rfl (dy fhg22_2)) (VEv.bool true)) (VRunO.nil ?_)
   exact jq (congrArg T.bool (kOT fhg22_2)) (js rfl (js rfl (js rfl (jn))))
  ·refine gF (dz fhg22_2) rfl rfl (OF.move (tv (tS w) rfl)) ?_
   refine VRunO.chain (VWant.on rfl rfl (dz fhg22_2)) (cS (vc (tv (tS w) rfl) vn) (ZO rfl) (Qds (n+41) w (by assumption)) rfl rfl) (gF (dz fhg22_2) rfl rfl (QS (tv (tB (decide (JJ w))) rfl)) (fO (OF.pickF (VEv.tmpB rfl (dz fhg22_2)) (tv (tB (!(decide (JJ w)))) rfl)) (VRunO.nil ?_)))
   exact jq (congrArg T.bool (kOF fhg22_2 dN)) (js rfl (js rfl (js rfl (jn))))
 refine mO (tB (decide (((¬(QY a s))∨(¬(w.size=1)))∨(¬(JJ w))))) rfl ?_
 refine VRunO.joinB 6 [28,29,30,31,32] 33 (tB (decide ((((¬(QY a s))∨(¬(w.size=1)))∨(¬(JJ w)))∨(¬(gridOk a.Grid∧(0≤c∧c≤((a.Grid.Cells.size:Nat):Int) - 1)∧Qs a.Grid.Cells (Int.toNat c)=46))))) ?_ ?_
 ·refine gw (((¬(QY a s))∨(¬(w.size=1)))∨(¬(JJ w))) (fun fhg27_3=> ?_) fun fhg27_3=> ?_
  ·refine Qy 5 14 false 27 (dy fhg27_3) rfl rfl rfl ?_
   refine fO (OF.pickT (VEv.tmpB rfl (dy fhg27_3)) (VEv.bool true)) (VRunO.nil ?_)
   exact jq (congrArg T.bool (kOT fhg27_3)) (js rfl (js rfl (js rfl (js rfl (js rfl (jn))))))
  ·refine gF (dz fhg27_3) rfl rfl (OF.fieldAddrO (tv (T.op 0 0) rfl) JN) ?_
   refine gL (dz fhg27_3) rfl rfl (OL.loadOn (us:=(Qc false a.Grid)) (tv (T.op 0 0) rfl) rfl Q1 QT (lb rfl) rfl) (gF (dz fhg27_3) rfl rfl (OF.move (tv (tI c) rfl)) (VRunO.chain (VWant.on rfl rfl (dz fhg27_3)) (cS (vc (tv (T.agg (Qc false a.Grid)) rfl) (vc (tv (tI c) rfl) vn)) (LendL.cons (lg Qt) (lp rfl ln)) (Qex (n+40) a.Grid c (by omega)) rfl rfl) (gF (dz fhg27_3) rfl rfl (QS (tv (tB (decide (gridOk a.Grid∧(0≤c∧c≤((a.Grid.Cells.size:Nat):Int) - 1)∧Qs a.Grid.Cells (Int.toNat c)=46))) rfl)) (fO (OF.pickF (VEv.tmpB rfl (dz fhg27_3)) (tv (tB (!(decide (gridOk a.Grid∧(0≤c∧c≤((a.Grid.Cells.size:Nat):Int) - 1)∧Qs a.Grid.Cells (Int.toNat c)=46)))) rfl)) (VRunO.nil ?_)))))
   exact jq (congrArg T.bool (kOF fhg27_3 dN)) (js rfl (js rfl (js rfl (js rfl (js rfl (jn))))))
 refine nt ?_
 refine cd ((((¬(QY a s))∨(¬(w.size=1)))∨(¬(JJ w)))∨(¬(gridOk a.Grid∧(0≤c∧c≤((a.Grid.Cells.size:Nat):Int) - 1)∧Qs a.Grid.Cells (Int.toNat c)=46))) rfl (fun fhc0=> ?_) fun fhc0=> ?_
 ·refine sr ?_
  refine lO (OL.loadOn (us:= [(tS s.Fill),(tI s.Checks),(tI s.Spent),(T.os 1 3 0 ((s.Asked.map (Qa true)).length)),(tI s.Start),(tI s.Now)]) (tv (T.op 4 0) rfl) rfl Zr QZ (lb rfl) rfl) (cO (B.storeO (us:= [(tS s.Fill),(tI s.Checks),(tI s.Spent),(T.os 1 3 0 ((s.Asked.map (Qa true)).length)),(tI s.Start),(tI s.Now)]) (ws:= [(tS s.Fill),(tI s.Checks),(tI s.Spent),(T.os 1 3 0 ((s.Asked.map (Qa true)).length)),(tI s.Start),(tI s.Now)]) (tv (T.op 2 0) rfl) (tv (T.agg [(tS s.Fill),(tI s.Checks),(tI s.Spent),(T.os 1 3 0 ((s.Asked.map (Qa true)).length)),(tI s.Start),(tI s.Now)]) rfl) nofun rfl rfl (lb rfl) Jp QZ (bc rfl (bc rfl (bc rfl (bc rfl (bc rfl (bc rfl bn)))))) rfl) (fO (OF.assign (VEv.bool false)) (nt (rt (tr ?_)))))
  refine vfin.eq (r':=(T.tup [(T.agg [(tS s.Fill),(tI s.Checks),(tI s.Spent),(T.sl true 1 (s.Asked.map (Qa true))),(tI s.Start),(tI s.Now)]),(tB false)])) ?_ (vfin.r (VRes.celln (ws:= [(tS s.Fill),(tI s.Checks),(tI s.Spent),(T.os 1 3 0 ((s.Asked.map (Qa true)).length)),(tI s.Start),(tI s.Now)]) rfl rfl Zr QZ (lb rfl) rfl (VRes.tmp (t:=(tB false)) rfl VRes.nil)) (Give.tup (GiveL.cons (Give.agg (GiveL.cons (Give.str _) (GiveL.cons (Give.int _ _) (GiveL.cons (Give.int _ _) (GiveL.cons (Give.os rfl rfl (okInt.cleanMap _)) (GiveL.cons (Give.int _ _) (GiveL.cons (Give.int _ _) GiveL.nil (by decide)) (by decide)) (by decide)) (by decide)) (by decide)) (by decide))) (GiveL.cons (Give.bool _) GiveL.nil (by decide)) (by decide))))
  show (T.tup [(T.agg [(tS s.Fill),(tI s.Checks),(tI s.Spent),(T.sl true 1 (s.Asked.map (Qa true))),(tI s.Start),(tI s.Now)]),(tB false)])=(T.tup [(T.agg (Qe true (Qr a s c w))),(tB (decide (Q8 a s c w)))])
  (have hno:¬Q8 a s c w:=(by rintro ⟨h1,h2,h3,h4⟩;rcases fhc0 with ((h | h) | h) | h<;>contradiction);rw [QkF hno,decide_eq_false hno];rfl)
 have hok:Q8 a s c w:=(by simp only [not_or,Classical.not_not] at fhc0;exact ⟨fhc0.1.1.1,fhc0.2,fhc0.1.1.2,fhc0.1.2⟩)
 have hfz:s.Fill.size=a.Grid.Cells.size:=hok.1.2.1.2.1
 have hcb:=hok.2.1.2.1
 refine sk (tn (sr (lf (tS s.Fill) rfl Qak rfl rfl Z5 (mO (tI c) rfl (kO (OM.buildSlice (l:= [(tI c)]) (VEvp.cons (tv (tI c) rfl) VEvp.nil) rfl (by decide) (bc (nofun) bn) (bc ((bc (rfl) bn)) bn) (bc (rfl) bn) Zt zo3 (by kernel_rfl) rfl (by rw [Za];decide) Za (Nat.le_of_ble_eq_true rfl)) (mO (tS w) rfl (cO (cS (us:= [(tS s.Fill),(T.sl false 1 [[(tI c)]]),(tS w)]) (vc (tv (tS s.Fill) rfl) (vc (tv (T.os 1 5 0 1) rfl) (vc (tv (tS w) rfl) vn))) (lp rfl (LendL.cons (Lend.os rfl rfl rfl) (lp rfl ln))) (Qcj (n+42) s.Fill [c] w (by omega) (by (rw [hok.2.2.1];rfl)) (by assumption) (by (intro d hd;obtain rfl:=List.mem_singleton.1 hd;omega))) rfl rfl) (fO (OF.fieldAddrO (tv (T.op 4 0) rfl) Qak) (cO (B.storeO (us:= [(tS (wrS s.Fill w [c] [c].length))]) (ws:= [(tS (wrS s.Fill w [c] [c].length)),(tI s.Checks),(tI s.Spent),(T.os 1 3 0 ((s.Asked.map (Qa true)).length)),(tI s.Start),(tI s.Now)]) (tv (T.op 4 0) rfl) (tv (tS (wrS s.Fill w [c] [c].length)) rfl) nofun rfl rfl (lb rfl) if9 sz9 (bc rfl bn) rfl) (nt (sr ?_)))))))))))
 refine lO (OL.loadOn (us:= [(tS (wrS s.Fill w [c] [c].length)),(tI s.Checks),(tI s.Spent),(T.os 1 3 0 ((s.Asked.map (Qa true)).length)),(tI s.Start),(tI s.Now)]) (tv (T.op 4 0) rfl) rfl Zr QZ (lb rfl) rfl) (cO (B.storeO (us:= [(tS (wrS s.Fill w [c] [c].length)),(tI s.Checks),(tI s.Spent),(T.os 1 3 0 ((s.Asked.map (Qa true)).length)),(tI s.Start),(tI s.Now)]) (ws:= [(tS (wrS s.Fill w [c] [c].length)),(tI s.Checks),(tI s.Spent),(T.os 1 3 0 ((s.Asked.map (Qa true)).length)),(tI s.Start),(tI s.Now)]) (tv (T.op 2 0) rfl) (tv (T.agg [(tS (wrS s.Fill w [c] [c].length)),(tI s.Checks),(tI s.Spent),(T.os 1 3 0 ((s.Asked.map (Qa true)).length)),(tI s.Start),(tI s.Now)]) rfl) nofun rfl rfl (lb rfl) Jp QZ (bc rfl (bc rfl (bc rfl (bc rfl (bc rfl (bc rfl bn)))))) rfl) (fO (OF.assign (VEv.bool true)) (nt (rt ?_))))
 refine vfin.eq (r':=(T.tup [(T.agg [(tS (wrS s.Fill w [c] [c].length)),(tI s.Checks),(tI s.Spent),(T.sl true 1 (s.Asked.map (Qa true))),(tI s.Start),(tI s.Now)]),(tB true)])) ?_ (vfin.r (VRes.celln (ws:= [(tS (wrS s.Fill w [c] [c].length)),(tI s.Checks),(tI s.Spent),(T.os 1 3 0 ((s.Asked.map (Qa true)).length)),(tI s.Start),(tI s.Now)]) rfl rfl Zr QZ (lb rfl) rfl (VRes.tmp (t:=(tB true)) rfl VRes.nil)) (Give.tup (GiveL.cons (Give.agg (GiveL.cons (Give.str _) (GiveL.cons (Give.int _ _) (GiveL.cons (Give.int _ _) (GiveL.cons (Give.os rfl rfl (okInt.cleanMap _)) (GiveL.cons (Give.int _ _) (GiveL.cons (Give.int _ _) GiveL.nil (by decide)) (by decide)) (by decide)) (by decide)) (by decide)) (by decide))) (GiveL.cons (Give.bool _) GiveL.nil (by decide)) (by decide))))
 show (T.tup [(T.agg [(tS (wrS s.Fill w [c] [c].length)),(tI s.Checks),(tI s.Spent),(T.sl true 1 (s.Asked.map (Qa true))),(tI s.Start),(tI s.Now)]),(tB true)])=(T.tup [(T.agg (Qe true (Qr a s c w))),(tB (decide (Q8 a s c w)))])
 (rw [Qix hok,decide_eq_true hok];rfl)
end Go.Proofs.YtcccmceoplcciaaGreat.AE
namespace Go.Proofs.YtcccmceoplcciaaGreat.AE
open Go Go.RowKit
set_option linter.unusedVariables false
set_option linter.unusedSimpArgs false
set_option maxRecDepth 20000
set_option maxHeartbeats 2000000
theorem J3 (n:Nat) (a0:D.Puzzle) (a1:D.Session) (a2:Int) (a3:ByteArray) (g0:QfV a0) (g1:Qey a1) (g2:(Lit.int .i64 a2).wf=true) (g3:a3.size≤maxLen):Pure (Qq Tryz.prog (n+45)) 7 [(T.agg (Qp false a0)),(T.agg (Qe false a1)),(tI a2),(tS a3)] (tB true):=by
 refine Pure.intro (rs:= [ResultVar.tmp 8]) Tryz.func7 rfl rfl rfl (E0:= [(0,(T.agg (Qp false a0))),(1,(T.agg (Qe false a1))),(2,(tI a2)),(3,(tS a3))]) rfl ?_
 obtain ⟨hlim,hmx,hmax⟩:=QG
 have hl0_0:=QV (z:=QP) a0.Clues
 have hl0_1:=QV (z:=zI) a0.Seals
 have hl1_2:=QV (z:=zI) a1.Asked
 have hm0:=QhY 1 a0.Clues
 have hd0:zL QP a0.Clues+zL zI a0.Seals≤QJ a0:=by simp only [QJ];omega
 have hd1:zL zI a1.Asked≤QI a1:=by simp only [QI];omega
 have hx:=QmU a0 a1 a2 a3
 have hx2:=Qlo a0 a1 a2 a3
 refine sr (kO (B.box (ts:=(Qp false a0)) (tv (T.agg (Qp false a0)) rfl) nofun rfl) (kO (B.box (ts:=(Qe false a1)) (tv (T.agg (Qe false a1)) rfl) nofun rfl) (fO (OF.assign (VEv.bool false)) (nt (sq (sr (mO (tS a3) rfl (lO (B.lenS (tv (tS a3) rfl) U9) (fO (B.gtr (c:=(decide (1048576<a3.size))) (tv (tN a3.size) rfl) (VEv.int .i64 1048576) (by exact Q9 (by omega))) (nt ?_))))))))))
 refine cd (1048576<a3.size) rfl (fun fhc0=> ?_) fun fhc0=> ?_
 ·refine sr ?_
  refine fO (OF.assign (VEv.bool true)) (nt (rt (tr ?_)))
  exact vb rfl rfl
 skip
 refine sk (tn (sr (fO (OF.assign (VEv.int .i64 1048576)) (nt (sr (lO (OL.loadOn (us:=(Qp false a0)) (tv (T.op 0 0) rfl) rfl Qkv QkB (lb rfl) rfl) (mO (tN 1048576) rfl (cO (cS (vc (tv (T.agg (Qp false a0)) rfl) (vc (tv (tN 1048576) rfl) vn)) (LendL.cons (lg ZY) (lp rfl ln)) (QdO (n+39) a0 1048576 (by omega) (by omega) (by assumption)) rfl rfl) (aO (tI (Zx (QJ a0) 1048576)) rfl (nt (sq ?_)))))))))))
 refine sr (mO (tI (Zx (QJ a0) 1048576)) rfl (fO (xls (tv (tI (Zx (QJ a0) 1048576)) rfl) (VEv.int .i64 0)) (nt ?_)))
 refine cd (Zx (QJ a0) 1048576<0) rfl (fun fhc1=> ?_) fun fhc1=> ?_
 ·refine sr ?_
  refine fO (OF.assign (VEv.bool true)) (nt (rt (tr ?_)))
  exact vb rfl rfl
 have hz1:=Qab fhc1
 refine sk (tn (sr (lO (OL.loadOn (us:=(Qe false a1)) (tv (T.op 1 0) rfl) rfl QkA Qjz (lb rfl) rfl) (mO (tI (Zx (QJ a0) 1048576)) rfl (cO (cS (vc (tv (T.agg (Qe false a1)) rfl) (vc (tv (tI (Zx (QJ a0) 1048576)) rfl) vn)) (LendL.cons (lg Zm) (lp rfl ln)) (Qdi (n+42) a1 (Zx (QJ a0) 1048576) (by omega) (by omega) (by assumption)) rfl rfl) (aO (tI (Zx (QI a1) (Zx (QJ a0) 1048576))) rfl (nt (sq (sr (mO (tI (Zx (QI a1) (Zx (QJ a0) 1048576))) rfl (fO (xls (tv (tI (Zx (QI a1) (Zx (QJ a0) 1048576))) rfl) (VEv.int .i64 0)) ?_)))))))))))
 refine nt ?_
 refine cd (Zx (QI a1) (Zx (QJ a0) 1048576)<0) rfl (fun fhc2=> ?_) fun fhc2=> ?_
 ·refine sr ?_
  refine fO (OF.assign (VEv.bool true)) (nt (rt (tr ?_)))
  exact vb rfl rfl
 have hz2:=Qab fhc2
 refine sk (tn (sq (VRun.draw (B:= [[],[0],[],[0,1,2],[],[],[5,4,2,3,0,1],[1,0,3,2,4,5,6],[6,5,4,2,3,0,1,7],[6,5,4,2,3,0,1,7],[],[7,1,0,3,2,4,5,6,8,10],[10,8,11,7,1,0,3,2,4,5,6,9]]) (by kernel_rfl) (by kernel_rfl) (lD (OL.loadOn (us:=(Qp false a0)) (tv (T.op 0 0) rfl) rfl Qkv QkB (lb rfl) rfl) rfl rfl (VRunD.quiet (bi:= [0]) rfl VWant.always rfl rfl rfl bn (OC.callF (us:= [(T.agg (Qp false a0))]) (r:=(T.agg (Qp true a0))) (r':=(T.agg [(tI a0.Grid.Rows),(tI a0.Grid.Cols),(tS a0.Grid.Cells),(T.os 2 2 0 ((a0.Clues.map (Qh true)).length)),(T.os 1 3 0 ((a0.Seals.map (Qa true)).length)),(tI a0.Salt)])) (objs:= [(Obj.rows 2 (a0.Clues.map (Qh true))),(Obj.rows 1 (a0.Seals.map (Qa true)))]) rfl (vc (tv (T.agg (Qp false a0)) rfl) vn) (LendL.cons (lg ZY) ln) (YF (n+39) a0 (by omega)) rfl) (lD (OL.loadOn (us:=(Qe false a1)) (tv (T.op 1 0) rfl) rfl QkA Qjz (lb rfl) rfl) rfl rfl (VRunD.quiet (bi:= [0,1,2]) rfl VWant.always rfl rfl rfl bn (OC.callF (us:= [(T.agg (Qe false a1))]) (r:=(T.agg (Qe true a1))) (r':=(T.agg [(tS a1.Fill),(tI a1.Checks),(tI a1.Spent),(T.os 1 4 0 ((a1.Asked.map (Qa true)).length)),(tI a1.Start),(tI a1.Now)])) (objs:= [(Obj.rows 1 (a1.Asked.map (Qa true)))]) rfl (vc (tv (T.agg (Qe false a1)) rfl) vn) (LendL.cons (lg Zm) ln) (Ys (n+42) a1 (by omega)) rfl) (mD (tI a2) rfl rfl (mD (tS a3) rfl rfl (VRunD.quiet (bi:= [5,4,2,3,0,1]) rfl VWant.always rfl rfl rfl bn (OC.callF (us:= [(T.agg (Qp false a0)),(T.agg (Qe false a1)),(tI a2),(tS a3)]) (r:=(T.tup [(T.agg (Qe true (Qr a0 a1 a2 a3))),(tB (decide (Q8 a0 a1 a2 a3)))])) (r':=(T.tup [(T.agg [(tS ((Qr a0 a1 a2 a3).Fill)),(tI ((Qr a0 a1 a2 a3).Checks)),(tI ((Qr a0 a1 a2 a3).Spent)),(T.os 1 5 0 ((((Qr a0 a1 a2 a3).Asked).map (Qa true)).length)),(tI ((Qr a0 a1 a2 a3).Start)),(tI ((Qr a0 a1 a2 a3).Now))]),(tB (decide (Q8 a0 a1 a2 a3)))])) (objs:= [(Obj.rows 1 (((Qr a0 a1 a2 a3).Asked).map (Qa true)))]) rfl (vc (tv (T.agg [(tI a0.Grid.Rows),(tI a0.Grid.Cols),(tS a0.Grid.Cells),(T.os 2 2 0 ((a0.Clues.map (Qh true)).length)),(T.os 1 3 0 ((a0.Seals.map (Qa true)).length)),(tI a0.Salt)]) rfl) (vc (tv (T.agg [(tS a1.Fill),(tI a1.Checks),(tI a1.Spent),(T.os 1 4 0 ((a1.Asked.map (Qa true)).length)),(tI a1.Start),(tI a1.Now)]) rfl) (vc (tv (tI a2) rfl) (vc (tv (tS a3) rfl) vn)))) (LendL.cons (Lend.agg (LendL.cons (Lend.pl rfl) (LendL.cons (Lend.pl rfl) (LendL.cons (Lend.pl rfl) (LendL.cons (Lend.os rfl rfl (okeClue.fzMap _ _)) (LendL.cons (Lend.os rfl rfl (okInt.fzMap _ _)) (LendL.cons (Lend.pl rfl) ln))))))) (LendL.cons (Lend.agg (LendL.cons (Lend.pl rfl) (LendL.cons (Lend.pl rfl) (LendL.cons (Lend.pl rfl) (LendL.cons (Lend.os rfl rfl (okInt.fzMap _ _)) (LendL.cons (Lend.pl rfl) (LendL.cons (Lend.pl rfl) ln))))))) (lp rfl (lp rfl ln)))) (Qb8 (n+32) a0 a1 a2 a3 (by omega) (by omega) (by assumption)) rfl) ?_))))))))))
 refine mD (T.tup [(T.agg [(tS ((Qr a0 a1 a2 a3).Fill)),(tI ((Qr a0 a1 a2 a3).Checks)),(tI ((Qr a0 a1 a2 a3).Spent)),(T.os 1 5 0 ((((Qr a0 a1 a2 a3).Asked).map (Qa true)).length)),(tI ((Qr a0 a1 a2 a3).Start)),(tI ((Qr a0 a1 a2 a3).Now))]),(tB (decide (Q8 a0 a1 a2 a3)))]) rfl rfl (fD (OF.extract (t:=(T.agg [(tS ((Qr a0 a1 a2 a3).Fill)),(tI ((Qr a0 a1 a2 a3).Checks)),(tI ((Qr a0 a1 a2 a3).Spent)),(T.os 1 5 0 ((((Qr a0 a1 a2 a3).Asked).map (Qa true)).length)),(tI ((Qr a0 a1 a2 a3).Start)),(tI ((Qr a0 a1 a2 a3).Now))])) (tv (T.tup [(T.agg [(tS ((Qr a0 a1 a2 a3).Fill)),(tI ((Qr a0 a1 a2 a3).Checks)),(tI ((Qr a0 a1 a2 a3).Spent)),(T.os 1 5 0 ((((Qr a0 a1 a2 a3).Asked).map (Qa true)).length)),(tI ((Qr a0 a1 a2 a3).Start)),(tI ((Qr a0 a1 a2 a3).Now))]),(tB (decide (Q8 a0 a1 a2 a3)))]) rfl) rfl) rfl rfl (fD (OF.extract (t:=(tB (decide (Q8 a0 a1 a2 a3)))) (tv (T.tup [(T.agg [(tS ((Qr a0 a1 a2 a3).Fill)),(tI ((Qr a0 a1 a2 a3).Checks)),(tI ((Qr a0 a1 a2 a3).Spent)),(T.os 1 5 0 ((((Qr a0 a1 a2 a3).Asked).map (Qa true)).length)),(tI ((Qr a0 a1 a2 a3).Start)),(tI ((Qr a0 a1 a2 a3).Now))]),(tB (decide (Q8 a0 a1 a2 a3)))]) rfl) rfl) rfl rfl (VRunD.make rfl VWant.always rfl (B.alloc (t:=(T.agg [(tS ByteArray.empty),(tN 0),(tN 0),T.nils,(tN 0),(tN 0)])) (ts:= [(tS ByteArray.empty),(tN 0),(tN 0),T.nils,(tN 0),(tN 0)]) QbH QbJ nofun (fun _=> .agg _ _ rfl (Yb (RL.cons (.str _) (RL.cons (.int _ _) (RL.cons (.int _ _) (RL.cons (.nils) (RL.cons (.int _ _) (RL.cons (.int _ _) (RL.nil _))))))))) rfl) (VRunD.quiet (bi:= [7,1,0,3,2,4,5,6,8,10]) rfl VWant.always rfl rfl rfl (bc (lb rfl) bn) (B.storeO (us:= [(tS ((Qr a0 a1 a2 a3).Fill)),(tI ((Qr a0 a1 a2 a3).Checks)),(tI ((Qr a0 a1 a2 a3).Spent)),(T.os 1 5 0 ((((Qr a0 a1 a2 a3).Asked).map (Qa true)).length)),(tI ((Qr a0 a1 a2 a3).Start)),(tI ((Qr a0 a1 a2 a3).Now))]) (ws:= [(tS ((Qr a0 a1 a2 a3).Fill)),(tI ((Qr a0 a1 a2 a3).Checks)),(tI ((Qr a0 a1 a2 a3).Spent)),(T.os 1 5 0 ((((Qr a0 a1 a2 a3).Asked).map (Qa true)).length)),(tI ((Qr a0 a1 a2 a3).Start)),(tI ((Qr a0 a1 a2 a3).Now))]) (tv (T.op 6 0) rfl) (tv (T.agg [(tS ((Qr a0 a1 a2 a3).Fill)),(tI ((Qr a0 a1 a2 a3).Checks)),(tI ((Qr a0 a1 a2 a3).Spent)),(T.os 1 5 0 ((((Qr a0 a1 a2 a3).Asked).map (Qa true)).length)),(tI ((Qr a0 a1 a2 a3).Start)),(tI ((Qr a0 a1 a2 a3).Now))]) rfl) nofun rfl rfl (lb rfl) Jp QZ (bc rfl (bc rfl (bc rfl (bc rfl (bc rfl (bc rfl bn)))))) rfl) (fD (OF.assign (tv (tB (decide (Q8 a0 a1 a2 a3))) rfl)) rfl rfl (VRunD.nil (tn (sr (lO (OL.loadOn (us:=(Qp false a0)) (tv (T.op 0 0) rfl) rfl Qkv QkB (lb rfl) rfl) (cO (OC.callF (us:= [(T.agg (Qp false a0))]) (r:=(T.agg (Qp true a0))) (r':=(T.agg [(tI a0.Grid.Rows),(tI a0.Grid.Cols),(tS a0.Grid.Cells),(T.os 2 7 0 ((a0.Clues.map (Qh true)).length)),(T.os 1 8 0 ((a0.Seals.map (Qa true)).length)),(tI a0.Salt)])) (objs:= [(Obj.rows 2 (a0.Clues.map (Qh true))),(Obj.rows 1 (a0.Seals.map (Qa true)))]) rfl (vc (tv (T.agg (Qp false a0)) rfl) vn) (LendL.cons (lg ZY) ln) (YF (n+39) a0 (by omega)) rfl) ?_))))))))))
 refine kO (B.alloc (t:=(T.agg [(tN 0),(tN 0),(tS ByteArray.empty),T.nils,T.nils,(tN 0)])) (ts:= [(tN 0),(tN 0),(tS ByteArray.empty),T.nils,T.nils,(tN 0)]) QlW Ql1 nofun (fun _=> .agg _ _ rfl (Yb (RL.cons (.int _ _) (RL.cons (.int _ _) (RL.cons (.str _) (RL.cons (.nils) (RL.cons (.nils) (RL.cons (.int _ _) (RL.nil _))))))))) rfl) (cO (B.storeO (us:= [(tI a0.Grid.Rows),(tI a0.Grid.Cols),(tS a0.Grid.Cells),(T.os 2 7 0 ((a0.Clues.map (Qh true)).length)),(T.os 1 8 0 ((a0.Seals.map (Qa true)).length)),(tI a0.Salt)]) (ws:= [(tI a0.Grid.Rows),(tI a0.Grid.Cols),(tS a0.Grid.Cells),(T.os 2 7 0 ((a0.Clues.map (Qh true)).length)),(T.os 1 8 0 ((a0.Seals.map (Qa true)).length)),(tI a0.Salt)]) (tv (T.op 9 0) rfl) (tv (T.agg [(tI a0.Grid.Rows),(tI a0.Grid.Cols),(tS a0.Grid.Cells),(T.os 2 7 0 ((a0.Clues.map (Qh true)).length)),(T.os 1 8 0 ((a0.Seals.map (Qa true)).length)),(tI a0.Salt)]) rfl) nofun rfl rfl (lb rfl) Qm1 Qdg (bc rfl (bc rfl (bc rfl (bc rfl (bc rfl (bc rfl bn)))))) rfl) (nt (sr (lO (OL.loadOn (us:=(Qe false a1)) (tv (T.op 1 0) rfl) rfl QkA Qjz (lb rfl) rfl) (cO (OC.callF (us:= [(T.agg (Qe false a1))]) (r:=(T.agg (Qe true a1))) (r':=(T.agg [(tS a1.Fill),(tI a1.Checks),(tI a1.Spent),(T.os 1 10 0 ((a1.Asked.map (Qa true)).length)),(tI a1.Start),(tI a1.Now)])) (objs:= [(Obj.rows 1 (a1.Asked.map (Qa true)))]) rfl (vc (tv (T.agg (Qe false a1)) rfl) vn) (LendL.cons (lg Zm) ln) (Ys (n+42) a1 (by omega)) rfl) (kO (B.alloc (t:=(T.agg [(tS ByteArray.empty),(tN 0),(tN 0),T.nils,(tN 0),(tN 0)])) (ts:= [(tS ByteArray.empty),(tN 0),(tN 0),T.nils,(tN 0),(tN 0)]) QbH QbJ nofun (fun _=> .agg _ _ rfl (Yb (RL.cons (.str _) (RL.cons (.int _ _) (RL.cons (.int _ _) (RL.cons (.nils) (RL.cons (.int _ _) (RL.cons (.int _ _) (RL.nil _))))))))) rfl) (cO (B.storeO (us:= [(tS a1.Fill),(tI a1.Checks),(tI a1.Spent),(T.os 1 10 0 ((a1.Asked.map (Qa true)).length)),(tI a1.Start),(tI a1.Now)]) (ws:= [(tS a1.Fill),(tI a1.Checks),(tI a1.Spent),(T.os 1 10 0 ((a1.Asked.map (Qa true)).length)),(tI a1.Start),(tI a1.Now)]) (tv (T.op 11 0) rfl) (tv (T.agg [(tS a1.Fill),(tI a1.Checks),(tI a1.Spent),(T.os 1 10 0 ((a1.Asked.map (Qa true)).length)),(tI a1.Start),(tI a1.Now)]) rfl) nofun rfl rfl (lb rfl) Jp QZ (bc rfl (bc rfl (bc rfl (bc rfl (bc rfl (bc rfl bn)))))) rfl) (nt (sr (lO (OL.loadOn (us:= [(tI a0.Grid.Rows),(tI a0.Grid.Cols),(tS a0.Grid.Cells),(T.os 2 7 0 ((a0.Clues.map (Qh true)).length)),(T.os 1 8 0 ((a0.Seals.map (Qa true)).length)),(tI a0.Salt)]) (tv (T.op 9 0) rfl) rfl QeA Qdg (lb rfl) rfl) (lO (OL.loadOn (us:= [(tS a1.Fill),(tI a1.Checks),(tI a1.Spent),(T.os 1 10 0 ((a1.Asked.map (Qa true)).length)),(tI a1.Start),(tI a1.Now)]) (tv (T.op 11 0) rfl) rfl Zr QZ (lb rfl) rfl) ?_)))))))))))
 refine mO (tI a2) rfl (mO (tS a3) rfl (cO (OC.callF (us:= [(T.agg (Qp false a0)),(T.agg (Qe false a1)),(tI a2),(tS a3)]) (r:=(T.tup [(T.agg (Qe true (Qr a0 a1 a2 a3))),(tB (decide (Q8 a0 a1 a2 a3)))])) (r':=(T.tup [(T.agg [(tS ((Qr a0 a1 a2 a3).Fill)),(tI ((Qr a0 a1 a2 a3).Checks)),(tI ((Qr a0 a1 a2 a3).Spent)),(T.os 1 12 0 ((((Qr a0 a1 a2 a3).Asked).map (Qa true)).length)),(tI ((Qr a0 a1 a2 a3).Start)),(tI ((Qr a0 a1 a2 a3).Now))]),(tB (decide (Q8 a0 a1 a2 a3)))])) (objs:= [(Obj.rows 1 (((Qr a0 a1 a2 a3).Asked).map (Qa true)))]) rfl (vc (tv (T.agg [(tI a0.Grid.Rows),(tI a0.Grid.Cols),(tS a0.Grid.Cells),(T.os 2 7 0 ((a0.Clues.map (Qh true)).length)),(T.os 1 8 0 ((a0.Seals.map (Qa true)).length)),(tI a0.Salt)]) rfl) (vc (tv (T.agg [(tS a1.Fill),(tI a1.Checks),(tI a1.Spent),(T.os 1 10 0 ((a1.Asked.map (Qa true)).length)),(tI a1.Start),(tI a1.Now)]) rfl) (vc (tv (tI a2) rfl) (vc (tv (tS a3) rfl) vn)))) (LendL.cons (Lend.agg (LendL.cons (Lend.pl rfl) (LendL.cons (Lend.pl rfl) (LendL.cons (Lend.pl rfl) (LendL.cons (Lend.os rfl rfl (okeClue.fzMap _ _)) (LendL.cons (Lend.os rfl rfl (okInt.fzMap _ _)) (LendL.cons (Lend.pl rfl) ln))))))) (LendL.cons (Lend.agg (LendL.cons (Lend.pl rfl) (LendL.cons (Lend.pl rfl) (LendL.cons (Lend.pl rfl) (LendL.cons (Lend.os rfl rfl (okInt.fzMap _ _)) (LendL.cons (Lend.pl rfl) (LendL.cons (Lend.pl rfl) ln))))))) (lp rfl (lp rfl ln)))) (JO (n+0) a0 a1 a2 a3 (by omega) (by omega) (by assumption)) rfl) (mO (T.tup [(T.agg [(tS ((Qr a0 a1 a2 a3).Fill)),(tI ((Qr a0 a1 a2 a3).Checks)),(tI ((Qr a0 a1 a2 a3).Spent)),(T.os 1 12 0 ((((Qr a0 a1 a2 a3).Asked).map (Qa true)).length)),(tI ((Qr a0 a1 a2 a3).Start)),(tI ((Qr a0 a1 a2 a3).Now))]),(tB (decide (Q8 a0 a1 a2 a3)))]) rfl (fO (OF.extract (t:=(T.agg [(tS ((Qr a0 a1 a2 a3).Fill)),(tI ((Qr a0 a1 a2 a3).Checks)),(tI ((Qr a0 a1 a2 a3).Spent)),(T.os 1 12 0 ((((Qr a0 a1 a2 a3).Asked).map (Qa true)).length)),(tI ((Qr a0 a1 a2 a3).Start)),(tI ((Qr a0 a1 a2 a3).Now))])) (tv (T.tup [(T.agg [(tS ((Qr a0 a1 a2 a3).Fill)),(tI ((Qr a0 a1 a2 a3).Checks)),(tI ((Qr a0 a1 a2 a3).Spent)),(T.os 1 12 0 ((((Qr a0 a1 a2 a3).Asked).map (Qa true)).length)),(tI ((Qr a0 a1 a2 a3).Start)),(tI ((Qr a0 a1 a2 a3).Now))]),(tB (decide (Q8 a0 a1 a2 a3)))]) rfl) rfl) (fO (OF.extract (t:=(tB (decide (Q8 a0 a1 a2 a3)))) (tv (T.tup [(T.agg [(tS ((Qr a0 a1 a2 a3).Fill)),(tI ((Qr a0 a1 a2 a3).Checks)),(tI ((Qr a0 a1 a2 a3).Spent)),(T.os 1 12 0 ((((Qr a0 a1 a2 a3).Asked).map (Qa true)).length)),(tI ((Qr a0 a1 a2 a3).Start)),(tI ((Qr a0 a1 a2 a3).Now))]),(tB (decide (Q8 a0 a1 a2 a3)))]) rfl) rfl) (kO (B.alloc (t:=(T.agg [(tS ByteArray.empty),(tN 0),(tN 0),T.nils,(tN 0),(tN 0)])) (ts:= [(tS ByteArray.empty),(tN 0),(tN 0),T.nils,(tN 0),(tN 0)]) QbH QbJ nofun (fun _=> .agg _ _ rfl (Yb (RL.cons (.str _) (RL.cons (.int _ _) (RL.cons (.int _ _) (RL.cons (.nils) (RL.cons (.int _ _) (RL.cons (.int _ _) (RL.nil _))))))))) rfl) ?_))))))
 refine cO (B.storeO (us:= [(tS ((Qr a0 a1 a2 a3).Fill)),(tI ((Qr a0 a1 a2 a3).Checks)),(tI ((Qr a0 a1 a2 a3).Spent)),(T.os 1 12 0 ((((Qr a0 a1 a2 a3).Asked).map (Qa true)).length)),(tI ((Qr a0 a1 a2 a3).Start)),(tI ((Qr a0 a1 a2 a3).Now))]) (ws:= [(tS ((Qr a0 a1 a2 a3).Fill)),(tI ((Qr a0 a1 a2 a3).Checks)),(tI ((Qr a0 a1 a2 a3).Spent)),(T.os 1 12 0 ((((Qr a0 a1 a2 a3).Asked).map (Qa true)).length)),(tI ((Qr a0 a1 a2 a3).Start)),(tI ((Qr a0 a1 a2 a3).Now))]) (tv (T.op 13 0) rfl) (tv (T.agg [(tS ((Qr a0 a1 a2 a3).Fill)),(tI ((Qr a0 a1 a2 a3).Checks)),(tI ((Qr a0 a1 a2 a3).Spent)),(T.os 1 12 0 ((((Qr a0 a1 a2 a3).Asked).map (Qa true)).length)),(tI ((Qr a0 a1 a2 a3).Start)),(tI ((Qr a0 a1 a2 a3).Now))]) rfl) nofun rfl rfl (lb rfl) Jp QZ (bc rfl (bc rfl (bc rfl (bc rfl (bc rfl (bc rfl bn)))))) rfl) (aO (tB (decide (Q8 a0 a1 a2 a3))) rfl (nt (sq (sr (lO (OL.loadOn (us:= [(tS ((Qr a0 a1 a2 a3).Fill)),(tI ((Qr a0 a1 a2 a3).Checks)),(tI ((Qr a0 a1 a2 a3).Spent)),(T.os 1 12 0 ((((Qr a0 a1 a2 a3).Asked).map (Qa true)).length)),(tI ((Qr a0 a1 a2 a3).Start)),(tI ((Qr a0 a1 a2 a3).Now))]) (tv (T.op 13 0) rfl) rfl Zr QZ (lb rfl) rfl) (lO (OL.loadOn (us:= [(tS ((Qr a0 a1 a2 a3).Fill)),(tI ((Qr a0 a1 a2 a3).Checks)),(tI ((Qr a0 a1 a2 a3).Spent)),(T.os 1 5 0 ((((Qr a0 a1 a2 a3).Asked).map (Qa true)).length)),(tI ((Qr a0 a1 a2 a3).Start)),(tI ((Qr a0 a1 a2 a3).Now))]) (tv (T.op 6 0) rfl) rfl Zr QZ (lb rfl) rfl) (cO (cS (us:= [(T.agg (Qe false (Qr a0 a1 a2 a3))),(T.agg (Qe false (Qr a0 a1 a2 a3)))]) (vc (tv (T.agg [(tS ((Qr a0 a1 a2 a3).Fill)),(tI ((Qr a0 a1 a2 a3).Checks)),(tI ((Qr a0 a1 a2 a3).Spent)),(T.os 1 12 0 ((((Qr a0 a1 a2 a3).Asked).map (Qa true)).length)),(tI ((Qr a0 a1 a2 a3).Start)),(tI ((Qr a0 a1 a2 a3).Now))]) rfl) (vc (tv (T.agg [(tS ((Qr a0 a1 a2 a3).Fill)),(tI ((Qr a0 a1 a2 a3).Checks)),(tI ((Qr a0 a1 a2 a3).Spent)),(T.os 1 5 0 ((((Qr a0 a1 a2 a3).Asked).map (Qa true)).length)),(tI ((Qr a0 a1 a2 a3).Start)),(tI ((Qr a0 a1 a2 a3).Now))]) rfl) vn)) (LendL.cons (Lend.agg (LendL.cons (Lend.pl rfl) (LendL.cons (Lend.pl rfl) (LendL.cons (Lend.pl rfl) (LendL.cons (Lend.os rfl rfl (okInt.fzMap _ _)) (LendL.cons (Lend.pl rfl) (LendL.cons (Lend.pl rfl) ln))))))) (LendL.cons (Lend.agg (LendL.cons (Lend.pl rfl) (LendL.cons (Lend.pl rfl) (LendL.cons (Lend.pl rfl) (LendL.cons (Lend.os rfl rfl (okInt.fzMap _ _)) (LendL.cons (Lend.pl rfl) (LendL.cons (Lend.pl rfl) ln))))))) ln)) (Yw (n+42) (Qr a0 a1 a2 a3) (Qr a0 a1 a2 a3) (by omega) (by omega)) rfl rfl) (fO (QS (tv (tB (decide ((Qr a0 a1 a2 a3)=(Qr a0 a1 a2 a3)))) rfl)) (mO (tB (!(decide ((Qr a0 a1 a2 a3)=(Qr a0 a1 a2 a3))))) rfl ?_)))))))))
 refine gn ((Qr a0 a1 a2 a3)=(Qr a0 a1 a2 a3)) (fun fhg60_1=> ?_) fun fhg60_1=> ?_
 ·refine Qy 3 4 false 60 (ny fhg60_1) rfl rfl rfl ?_
  refine fO (OF.pickT (VEv.tmpB rfl (ny fhg60_1)) (VEv.bool true)) (nt (ct rfl (sr (fO (OF.assign (VEv.bool false)) (nt (rt (tr (vb (b':=false) rfl ?_))))))))
  (exfalso;simp only [Zs,not_true_eq_false] at *;done)
 refine gF (nz fhg60_1) rfl rfl (OF.move (tv (tB (decide (Q8 a0 a1 a2 a3))) rfl)) (gF (nz fhg60_1) rfl rfl (OF.move (tv (tB (decide (Q8 a0 a1 a2 a3))) rfl)) (gF (nz fhg60_1) rfl rfl (B.bneq U4 (c:=(!((decide (Q8 a0 a1 a2 a3)) == (decide (Q8 a0 a1 a2 a3))))) (tv (tB (decide (Q8 a0 a1 a2 a3))) rfl) (tv (tB (decide (Q8 a0 a1 a2 a3))) rfl) rfl) (fO (OF.pickF (VEv.tmpB rfl (nz fhg60_1)) (tv (tB (!((decide (Q8 a0 a1 a2 a3)) == (decide (Q8 a0 a1 a2 a3))))) rfl)) (nt ?_))))
 refine VRun.cond (tv (tB (!((decide (Q8 a0 a1 a2 a3)) == (decide (Q8 a0 a1 a2 a3))))) rfl) (fun hc3=> ?_) (fun hc3=> ?_)
 ·have fhc3:(!((decide (Q8 a0 a1 a2 a3)) == (decide (Q8 a0 a1 a2 a3))))=true:=hc3
  refine sr (fO (OF.assign (VEv.bool false)) (nt (rt (tr (vb (b':=false) rfl ?_)))))
  (exfalso;simp_all;done)
 have fhc3:(!((decide (Q8 a0 a1 a2 a3)) == (decide (Q8 a0 a1 a2 a3))))=false:=hc3
 skip
 refine sk (tn (sq (sq (VRun.draw (B:= [[],[],[1],[1,2,0],[0,2,1,3]]) (by kernel_rfl) (by kernel_rfl) (lD (OL.loadOn (us:= [(tI a0.Grid.Rows),(tI a0.Grid.Cols),(tS a0.Grid.Cells),(T.os 2 7 0 ((a0.Clues.map (Qh true)).length)),(T.os 1 8 0 ((a0.Seals.map (Qa true)).length)),(tI a0.Salt)]) (tv (T.op 9 0) rfl) rfl QeA Qdg (lb rfl) rfl) rfl rfl (lD (OL.loadOn (us:=(Qp false a0)) (tv (T.op 0 0) rfl) rfl Qkv QkB (lb rfl) rfl) rfl rfl (VRunD.quiet (bi:= [1]) rfl VWant.always rfl rfl rfl bn (OC.callF (us:= [(T.agg (Qp false a0))]) (r:=(T.agg (Qp true a0))) (r':=(T.agg [(tI a0.Grid.Rows),(tI a0.Grid.Cols),(tS a0.Grid.Cells),(T.os 2 14 0 ((a0.Clues.map (Qh true)).length)),(T.os 1 15 0 ((a0.Seals.map (Qa true)).length)),(tI a0.Salt)])) (objs:= [(Obj.rows 2 (a0.Clues.map (Qh true))),(Obj.rows 1 (a0.Seals.map (Qa true)))]) rfl (vc (tv (T.agg (Qp false a0)) rfl) vn) (LendL.cons (lg ZY) ln) (YF (n+39) a0 (by omega)) rfl) (VRunD.quiet (bi:= [1,2,0]) rfl VWant.always rfl rfl rfl bn (cS (us:= [(T.agg (Qp false a0)),(T.agg (Qp false a0))]) (vc (tv (T.agg [(tI a0.Grid.Rows),(tI a0.Grid.Cols),(tS a0.Grid.Cells),(T.os 2 7 0 ((a0.Clues.map (Qh true)).length)),(T.os 1 8 0 ((a0.Seals.map (Qa true)).length)),(tI a0.Salt)]) rfl) (vc (tv (T.agg [(tI a0.Grid.Rows),(tI a0.Grid.Cols),(tS a0.Grid.Cells),(T.os 2 14 0 ((a0.Clues.map (Qh true)).length)),(T.os 1 15 0 ((a0.Seals.map (Qa true)).length)),(tI a0.Salt)]) rfl) vn)) (LendL.cons (Lend.agg (LendL.cons (Lend.pl rfl) (LendL.cons (Lend.pl rfl) (LendL.cons (Lend.pl rfl) (LendL.cons (Lend.os rfl rfl (okeClue.fzMap _ _)) (LendL.cons (Lend.os rfl rfl (okInt.fzMap _ _)) (LendL.cons (Lend.pl rfl) ln))))))) (LendL.cons (Lend.agg (LendL.cons (Lend.pl rfl) (LendL.cons (Lend.pl rfl) (LendL.cons (Lend.pl rfl) (LendL.cons (Lend.os rfl rfl (okeClue.fzMap _ _)) (LendL.cons (Lend.os rfl rfl (okInt.fzMap _ _)) (LendL.cons (Lend.pl rfl) ln))))))) ln)) (QdK (n+39) a0 a0 (by omega) (by omega)) rfl rfl) (fD (QS (tv (tB (decide (a0=a0))) rfl)) rfl rfl (VRunD.nil (tn ?_)))))))))))
 refine cn (a0=a0) rfl (fun fhc4=> ?_) fun fhc4=> ?_
 ·refine sr ?_
  refine fO (OF.assign (VEv.bool false)) (nt (rt (tr (vb (b':=false) rfl ?_))))
  (exfalso;simp only [Zs,not_true_eq_false] at *;done)
 skip
 refine sk (tn (sq (sq (VRun.draw (B:= [[],[],[1],[1,2,0],[0,2,1,3]]) (by kernel_rfl) (by kernel_rfl) (lD (OL.loadOn (us:= [(tS a1.Fill),(tI a1.Checks),(tI a1.Spent),(T.os 1 10 0 ((a1.Asked.map (Qa true)).length)),(tI a1.Start),(tI a1.Now)]) (tv (T.op 11 0) rfl) rfl Zr QZ (lb rfl) rfl) rfl rfl (lD (OL.loadOn (us:=(Qe false a1)) (tv (T.op 1 0) rfl) rfl QkA Qjz (lb rfl) rfl) rfl rfl (VRunD.quiet (bi:= [1]) rfl VWant.always rfl rfl rfl bn (OC.callF (us:= [(T.agg (Qe false a1))]) (r:=(T.agg (Qe true a1))) (r':=(T.agg [(tS a1.Fill),(tI a1.Checks),(tI a1.Spent),(T.os 1 16 0 ((a1.Asked.map (Qa true)).length)),(tI a1.Start),(tI a1.Now)])) (objs:= [(Obj.rows 1 (a1.Asked.map (Qa true)))]) rfl (vc (tv (T.agg (Qe false a1)) rfl) vn) (LendL.cons (lg Zm) ln) (Ys (n+42) a1 (by omega)) rfl) (VRunD.quiet (bi:= [1,2,0]) rfl VWant.always rfl rfl rfl bn (cS (us:= [(T.agg (Qe false a1)),(T.agg (Qe false a1))]) (vc (tv (T.agg [(tS a1.Fill),(tI a1.Checks),(tI a1.Spent),(T.os 1 10 0 ((a1.Asked.map (Qa true)).length)),(tI a1.Start),(tI a1.Now)]) rfl) (vc (tv (T.agg [(tS a1.Fill),(tI a1.Checks),(tI a1.Spent),(T.os 1 16 0 ((a1.Asked.map (Qa true)).length)),(tI a1.Start),(tI a1.Now)]) rfl) vn)) (LendL.cons (Lend.agg (LendL.cons (Lend.pl rfl) (LendL.cons (Lend.pl rfl) (LendL.cons (Lend.pl rfl) (LendL.cons (Lend.os rfl rfl (okInt.fzMap _ _)) (LendL.cons (Lend.pl rfl) (LendL.cons (Lend.pl rfl) ln))))))) (LendL.cons (Lend.agg (LendL.cons (Lend.pl rfl) (LendL.cons (Lend.pl rfl) (LendL.cons (Lend.pl rfl) (LendL.cons (Lend.os rfl rfl (okInt.fzMap _ _)) (LendL.cons (Lend.pl rfl) (LendL.cons (Lend.pl rfl) ln))))))) ln)) (Yw (n+42) a1 a1 (by omega) (by omega)) rfl rfl) (fD (QS (tv (tB (decide (a1=a1))) rfl)) rfl rfl (VRunD.nil (tn ?_)))))))))))
 refine cn (a1=a1) rfl (fun fhc5=> ?_) fun fhc5=> ?_
 ·refine sr ?_
  refine fO (OF.assign (VEv.bool false)) (nt (rt (tr (vb (b':=false) rfl ?_))))
  (exfalso;simp only [Zs,not_true_eq_false] at *;done)
 skip
 refine sk (tn (sr (fO (OF.assign (VEv.int .i64 1)) (nt (sr (lO (OL.loadOn (us:= [(tI a0.Grid.Rows),(tI a0.Grid.Cols),(tS a0.Grid.Cells),(T.os 2 7 0 ((a0.Clues.map (Qh true)).length)),(T.os 1 8 0 ((a0.Seals.map (Qa true)).length)),(tI a0.Salt)]) (tv (T.op 9 0) rfl) rfl QeA Qdg (lb rfl) rfl) (mO (tN 1) rfl (cO (OC.callL (ts:= [(T.agg [(tI a0.Grid.Rows),(tI a0.Grid.Cols),(tS a0.Grid.Cells),(T.os 2 0 0 ((a0.Clues.map (Qh true)).length)),(T.os 1 1 0 ((a0.Seals.map (Qa true)).length)),(tI a0.Salt)]),(tN 1)]) [7,8] (r:=(tN (QK 1 a0.Clues+1*a0.Seals.length))) (L:= [(2,(a0.Clues.map (Qh true))),(1,(a0.Seals.map (Qa true)))]) [(2,((Je 1 a0.Clues).map (Qh true))),(1,((JA Zl 1 (QK 1 a0.Clues) a0.Seals.length).map (Qa true)))] [(Obj.rows 2 (a0.Clues.map (Qh true))),(Obj.rows 1 (a0.Seals.map (Qa true)))] rfl (vc (tv (T.agg [(tI a0.Grid.Rows),(tI a0.Grid.Cols),(tS a0.Grid.Cells),(T.os 2 7 0 ((a0.Clues.map (Qh true)).length)),(T.os 1 8 0 ((a0.Seals.map (Qa true)).length)),(tI a0.Salt)]) rfl) (vc (tv (tN 1) rfl) vn)) (by decide) rfl (And.intro (And.intro rfl rfl) (And.intro (And.intro rfl rfl) (trivial))) (bc (okeClue.cleanMap _) (bc (okInt.cleanMap _) bn)) (bc (okeClue.cleanMap _) (bc (okInt.cleanMap _) bn)) rfl rfl (.int _ _) (Qct (n+40) a0 1 (by omega))) (aO (tN (QK 1 a0.Clues+1*a0.Seals.length)) rfl (nt (sr ?_)))))))))))
 refine lO (OL.loadOn (us:= [(tS a1.Fill),(tI a1.Checks),(tI a1.Spent),(T.os 1 10 0 ((a1.Asked.map (Qa true)).length)),(tI a1.Start),(tI a1.Now)]) (tv (T.op 11 0) rfl) rfl Zr QZ (lb rfl) rfl) (mO (tN (QK 1 a0.Clues+1*a0.Seals.length)) rfl (cO (OC.callL (ts:= [(T.agg [(tS a1.Fill),(tI a1.Checks),(tI a1.Spent),(T.os 1 0 0 ((a1.Asked.map (Qa true)).length)),(tI a1.Start),(tI a1.Now)]),(tN (QK 1 a0.Clues+1*a0.Seals.length))]) [10] (r:=(tN ((QK 1 a0.Clues+1*a0.Seals.length)+1*a1.Asked.length))) (L:= [(1,(a1.Asked.map (Qa true)))]) [(1,((JA Zl 1 (QK 1 a0.Clues+1*a0.Seals.length) a1.Asked.length).map (Qa true)))] [(Obj.rows 1 (a1.Asked.map (Qa true)))] rfl (vc (tv (T.agg [(tS a1.Fill),(tI a1.Checks),(tI a1.Spent),(T.os 1 10 0 ((a1.Asked.map (Qa true)).length)),(tI a1.Start),(tI a1.Now)]) rfl) (vc (tv (tN (QK 1 a0.Clues+1*a0.Seals.length)) rfl) vn)) (by decide) rfl (And.intro (And.intro rfl rfl) (trivial)) (bc (okInt.cleanMap _) bn) (bc (okInt.cleanMap _) bn) rfl rfl (.int _ _) (JD (n+42) a1 (QK 1 a0.Clues+1*a0.Seals.length) (by omega))) (aO (tN ((QK 1 a0.Clues+1*a0.Seals.length)+1*a1.Asked.length)) rfl (nt (sq (sr (mO (tN ((QK 1 a0.Clues+1*a0.Seals.length)+1*a1.Asked.length)) rfl (fO (B.lss (c:=(decide ((QK 1 a0.Clues+1*a0.Seals.length)+1*a1.Asked.length<0))) (tv (tN ((QK 1 a0.Clues+1*a0.Seals.length)+1*a1.Asked.length)) rfl) (VEv.int .i64 0) (by exact Q9 (by omega))) (mO (tB (decide ((QK 1 a0.Clues+1*a0.Seals.length)+1*a1.Asked.length<0))) rfl ?_)))))))))
 refine gw ((QK 1 a0.Clues+1*a0.Seals.length)+1*a1.Asked.length<0) (fun fhg83_2=> ?_) fun fhg83_2=> ?_
 ·refine Qy 4 2 false 83 (dy fhg83_2) rfl rfl rfl ?_
  refine fO (OF.pickT (VEv.tmpB rfl (dy fhg83_2)) (VEv.bool true)) (mO (tB true) rfl (Qy 3 8 false 89 (b:=true) rfl rfl rfl rfl (fO (OF.pickT (tv (tB true) rfl) (VEv.bool true)) (nt (ct rfl (sr (fO (OF.assign (VEv.bool false)) (nt (rt (tr (vb (b':=false) rfl ?_)))))))))))
  (exfalso;simp only [Zs] at* <;>omega)
 refine gL (dz fhg83_2) rfl rfl (OL.loadOn (us:= [(tS ((Qr a0 a1 a2 a3).Fill)),(tI ((Qr a0 a1 a2 a3).Checks)),(tI ((Qr a0 a1 a2 a3).Spent)),(T.os 1 12 0 ((((Qr a0 a1 a2 a3).Asked).map (Qa true)).length)),(tI ((Qr a0 a1 a2 a3).Start)),(tI ((Qr a0 a1 a2 a3).Now))]) (tv (T.op 13 0) rfl) rfl Zr QZ (lb rfl) rfl) (gL (dz fhg83_2) rfl rfl (OL.loadOn (us:= [(tS ((Qr a0 a1 a2 a3).Fill)),(tI ((Qr a0 a1 a2 a3).Checks)),(tI ((Qr a0 a1 a2 a3).Spent)),(T.os 1 5 0 ((((Qr a0 a1 a2 a3).Asked).map (Qa true)).length)),(tI ((Qr a0 a1 a2 a3).Start)),(tI ((Qr a0 a1 a2 a3).Now))]) (tv (T.op 6 0) rfl) rfl Zr QZ (lb rfl) rfl) (VRunO.chain (VWant.on rfl rfl (dz fhg83_2)) (cS (us:= [(T.agg (Qe false (Qr a0 a1 a2 a3))),(T.agg (Qe false (Qr a0 a1 a2 a3)))]) (vc (tv (T.agg [(tS ((Qr a0 a1 a2 a3).Fill)),(tI ((Qr a0 a1 a2 a3).Checks)),(tI ((Qr a0 a1 a2 a3).Spent)),(T.os 1 12 0 ((((Qr a0 a1 a2 a3).Asked).map (Qa true)).length)),(tI ((Qr a0 a1 a2 a3).Start)),(tI ((Qr a0 a1 a2 a3).Now))]) rfl) (vc (tv (T.agg [(tS ((Qr a0 a1 a2 a3).Fill)),(tI ((Qr a0 a1 a2 a3).Checks)),(tI ((Qr a0 a1 a2 a3).Spent)),(T.os 1 5 0 ((((Qr a0 a1 a2 a3).Asked).map (Qa true)).length)),(tI ((Qr a0 a1 a2 a3).Start)),(tI ((Qr a0 a1 a2 a3).Now))]) rfl) vn)) (LendL.cons (Lend.agg (LendL.cons (Lend.pl rfl) (LendL.cons (Lend.pl rfl) (LendL.cons (Lend.pl rfl) (LendL.cons (Lend.os rfl rfl (okInt.fzMap _ _)) (LendL.cons (Lend.pl rfl) (LendL.cons (Lend.pl rfl) ln))))))) (LendL.cons (Lend.agg (LendL.cons (Lend.pl rfl) (LendL.cons (Lend.pl rfl) (LendL.cons (Lend.pl rfl) (LendL.cons (Lend.os rfl rfl (okInt.fzMap _ _)) (LendL.cons (Lend.pl rfl) (LendL.cons (Lend.pl rfl) ln))))))) ln)) (Yw (n+42) (Qr a0 a1 a2 a3) (Qr a0 a1 a2 a3) (by omega) (by omega)) rfl rfl) (gF (dz fhg83_2) rfl rfl (QS (tv (tB (decide ((Qr a0 a1 a2 a3)=(Qr a0 a1 a2 a3)))) rfl)) (fO (OF.pickF (VEv.tmpB rfl (dz fhg83_2)) (tv (tB (!(decide ((Qr a0 a1 a2 a3)=(Qr a0 a1 a2 a3))))) rfl)) (mO (tB (!(decide ((Qr a0 a1 a2 a3)=(Qr a0 a1 a2 a3))))) rfl (gF (nz fhg60_1) rfl rfl (OF.move (tv (tB (decide (Q8 a0 a1 a2 a3))) rfl)) (gF (nz fhg60_1) rfl rfl (OF.move (tv (tB (decide (Q8 a0 a1 a2 a3))) rfl)) (gF (nz fhg60_1) rfl rfl (B.bneq U4 (c:=(!((decide (Q8 a0 a1 a2 a3)) == (decide (Q8 a0 a1 a2 a3))))) (tv (tB (decide (Q8 a0 a1 a2 a3))) rfl) (tv (tB (decide (Q8 a0 a1 a2 a3))) rfl) rfl) (fO (OF.pickF (VEv.tmpB rfl (nz fhg60_1)) (tv (tB (!((decide (Q8 a0 a1 a2 a3)) == (decide (Q8 a0 a1 a2 a3))))) rfl)) (nt (cg hc3 rfl ?_)))))))))))
 refine sk (tn (sr (fO (OF.assign (VEv.int .i64 1)) (nt (sr (lO (OL.loadOn (us:= [(tS ((Qr a0 a1 a2 a3).Fill)),(tI ((Qr a0 a1 a2 a3).Checks)),(tI ((Qr a0 a1 a2 a3).Spent)),(T.os 1 12 0 ((((Qr a0 a1 a2 a3).Asked).map (Qa true)).length)),(tI ((Qr a0 a1 a2 a3).Start)),(tI ((Qr a0 a1 a2 a3).Now))]) (tv (T.op 13 0) rfl) rfl Zr QZ (lb rfl) rfl) (mO (tN 1) rfl (cO (OC.callL (ts:= [(T.agg [(tS ((Qr a0 a1 a2 a3).Fill)),(tI ((Qr a0 a1 a2 a3).Checks)),(tI ((Qr a0 a1 a2 a3).Spent)),(T.os 1 0 0 ((((Qr a0 a1 a2 a3).Asked).map (Qa true)).length)),(tI ((Qr a0 a1 a2 a3).Start)),(tI ((Qr a0 a1 a2 a3).Now))]),(tN 1)]) [12] (r:=(tN (1+1*((Qr a0 a1 a2 a3).Asked).length))) (L:= [(1,(((Qr a0 a1 a2 a3).Asked).map (Qa true)))]) [(1,((JA Zl 1 1 ((Qr a0 a1 a2 a3).Asked).length).map (Qa true)))] [(Obj.rows 1 (((Qr a0 a1 a2 a3).Asked).map (Qa true)))] rfl (vc (tv (T.agg [(tS ((Qr a0 a1 a2 a3).Fill)),(tI ((Qr a0 a1 a2 a3).Checks)),(tI ((Qr a0 a1 a2 a3).Spent)),(T.os 1 12 0 ((((Qr a0 a1 a2 a3).Asked).map (Qa true)).length)),(tI ((Qr a0 a1 a2 a3).Start)),(tI ((Qr a0 a1 a2 a3).Now))]) rfl) (vc (tv (tN 1) rfl) vn)) (by decide) rfl (And.intro (And.intro rfl rfl) (trivial)) (bc (okInt.cleanMap _) bn) (bc (okInt.cleanMap _) bn) rfl rfl (.int _ _) (JD (n+42) (Qr a0 a1 a2 a3) 1 (by omega))) (aO (tN (1+1*((Qr a0 a1 a2 a3).Asked).length)) rfl (nt (sr ?_)))))))))))
 refine fO (OF.assign (VEv.int .i64 1)) (nt (sr (lO (OL.loadOn (us:= [(tS ((Qr a0 a1 a2 a3).Fill)),(tI ((Qr a0 a1 a2 a3).Checks)),(tI ((Qr a0 a1 a2 a3).Spent)),(T.os 1 12 0 ((((Qr a0 a1 a2 a3).Asked).map (Qa true)).length)),(tI ((Qr a0 a1 a2 a3).Start)),(tI ((Qr a0 a1 a2 a3).Now))]) (tv (T.op 13 0) rfl) rfl Zr QZ (lb rfl) rfl) (mO (tN 1) rfl (cO (cS (us:= [(T.agg [(tS ((Qr a0 a1 a2 a3).Fill)),(tI ((Qr a0 a1 a2 a3).Checks)),(tI ((Qr a0 a1 a2 a3).Spent)),(rd 1 Qa (JA Zl 1 1 ((Qr a0 a1 a2 a3).Asked).length)),(tI ((Qr a0 a1 a2 a3).Start)),(tI ((Qr a0 a1 a2 a3).Now))]),(tN 1)]) (vc (tv (T.agg [(tS ((Qr a0 a1 a2 a3).Fill)),(tI ((Qr a0 a1 a2 a3).Checks)),(tI ((Qr a0 a1 a2 a3).Spent)),(T.os 1 12 0 ((((Qr a0 a1 a2 a3).Asked).map (Qa true)).length)),(tI ((Qr a0 a1 a2 a3).Start)),(tI ((Qr a0 a1 a2 a3).Now))]) rfl) (vc (tv (tN 1) rfl) vn)) (LendL.cons (Lend.agg (LendL.cons (Lend.pl rfl) (LendL.cons (Lend.pl rfl) (LendL.cons (Lend.pl rfl) (LendL.cons (Lend.os rfl (by simp only [List.length_map,YU,List.length_set,QdE]) (okInt.fzMap _ _)) (LendL.cons (Lend.pl rfl) (LendL.cons (Lend.pl rfl) ln))))))) (lp rfl ln)) (JP (n+42) (D.Session.mk ((Qr a0 a1 a2 a3).Fill) ((Qr a0 a1 a2 a3).Checks) ((Qr a0 a1 a2 a3).Spent) (JA Zl 1 1 ((Qr a0 a1 a2 a3).Asked).length) ((Qr a0 a1 a2 a3).Start) ((Qr a0 a1 a2 a3).Now)) 1 (by (simp only [Zs,YU];done)) (by (simp only [Zs,YU];omega))) rfl rfl) (aO (tN (1+1*(D.Session.mk ((Qr a0 a1 a2 a3).Fill) ((Qr a0 a1 a2 a3).Checks) ((Qr a0 a1 a2 a3).Spent) (JA Zl 1 1 ((Qr a0 a1 a2 a3).Asked).length) ((Qr a0 a1 a2 a3).Start) ((Qr a0 a1 a2 a3).Now)).Asked.length)) rfl (nt (sq (sr (mO (tN (1+1*(D.Session.mk ((Qr a0 a1 a2 a3).Fill) ((Qr a0 a1 a2 a3).Checks) ((Qr a0 a1 a2 a3).Spent) (JA Zl 1 1 ((Qr a0 a1 a2 a3).Asked).length) ((Qr a0 a1 a2 a3).Start) ((Qr a0 a1 a2 a3).Now)).Asked.length)) rfl (fO (B.lss (c:=(decide (1+1*(D.Session.mk ((Qr a0 a1 a2 a3).Fill) ((Qr a0 a1 a2 a3).Checks) ((Qr a0 a1 a2 a3).Spent) (JA Zl 1 1 ((Qr a0 a1 a2 a3).Asked).length) ((Qr a0 a1 a2 a3).Start) ((Qr a0 a1 a2 a3).Now)).Asked.length<0))) (tv (tN (1+1*(D.Session.mk ((Qr a0 a1 a2 a3).Fill) ((Qr a0 a1 a2 a3).Checks) ((Qr a0 a1 a2 a3).Spent) (JA Zl 1 1 ((Qr a0 a1 a2 a3).Asked).length) ((Qr a0 a1 a2 a3).Start) ((Qr a0 a1 a2 a3).Now)).Asked.length)) rfl) (VEv.int .i64 0) (by exact Q9 (by omega))) ?_)))))))))))
 refine nt ?_
 refine cd (1+1*(D.Session.mk ((Qr a0 a1 a2 a3).Fill) ((Qr a0 a1 a2 a3).Checks) ((Qr a0 a1 a2 a3).Spent) (JA Zl 1 1 ((Qr a0 a1 a2 a3).Asked).length) ((Qr a0 a1 a2 a3).Start) ((Qr a0 a1 a2 a3).Now)).Asked.length<0) rfl (fun fhc7=> ?_) fun fhc7=> ?_
 ·refine sr ?_
  refine fO (OF.assign (VEv.bool false)) (nt (rt (tr (vb (b':=false) rfl ?_))))
  (exfalso;simp only [Zs] at* <;>omega)
 skip
 refine sk (tn (sq (sr (mO (tN (1+1*(D.Session.mk ((Qr a0 a1 a2 a3).Fill) ((Qr a0 a1 a2 a3).Checks) ((Qr a0 a1 a2 a3).Spent) (JA Zl 1 1 ((Qr a0 a1 a2 a3).Asked).length) ((Qr a0 a1 a2 a3).Start) ((Qr a0 a1 a2 a3).Now)).Asked.length)) rfl (mO (tN (1+1*((Qr a0 a1 a2 a3).Asked).length)) rfl (fO (Qg3 (tv (tN (1+1*(D.Session.mk ((Qr a0 a1 a2 a3).Fill) ((Qr a0 a1 a2 a3).Checks) ((Qr a0 a1 a2 a3).Spent) (JA Zl 1 1 ((Qr a0 a1 a2 a3).Asked).length) ((Qr a0 a1 a2 a3).Start) ((Qr a0 a1 a2 a3).Now)).Asked.length)) rfl) (tv (tN (1+1*((Qr a0 a1 a2 a3).Asked).length)) rfl)) (nt ?_)))))))
 refine cn (1+1*(D.Session.mk ((Qr a0 a1 a2 a3).Fill) ((Qr a0 a1 a2 a3).Checks) ((Qr a0 a1 a2 a3).Spent) (JA Zl 1 1 ((Qr a0 a1 a2 a3).Asked).length) ((Qr a0 a1 a2 a3).Start) ((Qr a0 a1 a2 a3).Now)).Asked.length=1+1*((Qr a0 a1 a2 a3).Asked).length) rfl (fun fhc8=> ?_) fun fhc8=> ?_
 ·refine sr ?_
  refine fO (OF.assign (VEv.bool false)) (nt (rt (tr (vb (b':=false) rfl ?_))))
  (exfalso;simp only [Zs,YU,not_true_eq_false] at *;done)
 skip
 refine sk (tn (sq (VRun.draw (B:= [[],[0],[],[0,1,2],[],[],[5,4,2,3,0,1],[1,0,3,2,4,5,6],[6,5,4,2,3,0,1,7],[6,5,4,2,3,0,1,7],[],[7,1,0,3,2,4,5,6,8,10],[10,8,11,7,1,0,3,2,4,5,6,9]]) (by kernel_rfl) (by kernel_rfl) (lD (OL.loadOn (us:=(Qp false a0)) (tv (T.op 0 0) rfl) rfl Qkv QkB (lb rfl) rfl) rfl rfl (VRunD.quiet (bi:= [0]) rfl VWant.always rfl rfl rfl bn (OC.callF (us:= [(T.agg (Qp false a0))]) (r:=(T.agg (Qp true a0))) (r':=(T.agg [(tI a0.Grid.Rows),(tI a0.Grid.Cols),(tS a0.Grid.Cells),(T.os 2 17 0 ((a0.Clues.map (Qh true)).length)),(T.os 1 18 0 ((a0.Seals.map (Qa true)).length)),(tI a0.Salt)])) (objs:= [(Obj.rows 2 (a0.Clues.map (Qh true))),(Obj.rows 1 (a0.Seals.map (Qa true)))]) rfl (vc (tv (T.agg (Qp false a0)) rfl) vn) (LendL.cons (lg ZY) ln) (YF (n+39) a0 (by omega)) rfl) (lD (OL.loadOn (us:=(Qe false a1)) (tv (T.op 1 0) rfl) rfl QkA Qjz (lb rfl) rfl) rfl rfl (VRunD.quiet (bi:= [0,1,2]) rfl VWant.always rfl rfl rfl bn (OC.callF (us:= [(T.agg (Qe false a1))]) (r:=(T.agg (Qe true a1))) (r':=(T.agg [(tS a1.Fill),(tI a1.Checks),(tI a1.Spent),(T.os 1 19 0 ((a1.Asked.map (Qa true)).length)),(tI a1.Start),(tI a1.Now)])) (objs:= [(Obj.rows 1 (a1.Asked.map (Qa true)))]) rfl (vc (tv (T.agg (Qe false a1)) rfl) vn) (LendL.cons (lg Zm) ln) (Ys (n+42) a1 (by omega)) rfl) (mD (tI a2) rfl rfl (mD (tS a3) rfl rfl (VRunD.quiet (bi:= [5,4,2,3,0,1]) rfl VWant.always rfl rfl rfl bn (OC.callF (us:= [(T.agg (Qp false a0)),(T.agg (Qe false a1)),(tI a2),(tS a3)]) (r:=(T.tup [(T.agg (Qe true (Qr a0 a1 a2 a3))),(tB (decide (Q8 a0 a1 a2 a3)))])) (r':=(T.tup [(T.agg [(tS ((Qr a0 a1 a2 a3).Fill)),(tI ((Qr a0 a1 a2 a3).Checks)),(tI ((Qr a0 a1 a2 a3).Spent)),(T.os 1 20 0 ((((Qr a0 a1 a2 a3).Asked).map (Qa true)).length)),(tI ((Qr a0 a1 a2 a3).Start)),(tI ((Qr a0 a1 a2 a3).Now))]),(tB (decide (Q8 a0 a1 a2 a3)))])) (objs:= [(Obj.rows 1 (((Qr a0 a1 a2 a3).Asked).map (Qa true)))]) rfl (vc (tv (T.agg [(tI a0.Grid.Rows),(tI a0.Grid.Cols),(tS a0.Grid.Cells),(T.os 2 17 0 ((a0.Clues.map (Qh true)).length)),(T.os 1 18 0 ((a0.Seals.map (Qa true)).length)),(tI a0.Salt)]) rfl) (vc (tv (T.agg [(tS a1.Fill),(tI a1.Checks),(tI a1.Spent),(T.os 1 19 0 ((a1.Asked.map (Qa true)).length)),(tI a1.Start),(tI a1.Now)]) rfl) (vc (tv (tI a2) rfl) (vc (tv (tS a3) rfl) vn)))) (LendL.cons (Lend.agg (LendL.cons (Lend.pl rfl) (LendL.cons (Lend.pl rfl) (LendL.cons (Lend.pl rfl) (LendL.cons (Lend.os rfl rfl (okeClue.fzMap _ _)) (LendL.cons (Lend.os rfl rfl (okInt.fzMap _ _)) (LendL.cons (Lend.pl rfl) ln))))))) (LendL.cons (Lend.agg (LendL.cons (Lend.pl rfl) (LendL.cons (Lend.pl rfl) (LendL.cons (Lend.pl rfl) (LendL.cons (Lend.os rfl rfl (okInt.fzMap _ _)) (LendL.cons (Lend.pl rfl) (LendL.cons (Lend.pl rfl) ln))))))) (lp rfl (lp rfl ln)))) (JO (n+0) a0 a1 a2 a3 (by omega) (by omega) (by assumption)) rfl) ?_))))))))))
 refine mD (T.tup [(T.agg [(tS ((Qr a0 a1 a2 a3).Fill)),(tI ((Qr a0 a1 a2 a3).Checks)),(tI ((Qr a0 a1 a2 a3).Spent)),(T.os 1 20 0 ((((Qr a0 a1 a2 a3).Asked).map (Qa true)).length)),(tI ((Qr a0 a1 a2 a3).Start)),(tI ((Qr a0 a1 a2 a3).Now))]),(tB (decide (Q8 a0 a1 a2 a3)))]) rfl rfl (fD (OF.extract (t:=(T.agg [(tS ((Qr a0 a1 a2 a3).Fill)),(tI ((Qr a0 a1 a2 a3).Checks)),(tI ((Qr a0 a1 a2 a3).Spent)),(T.os 1 20 0 ((((Qr a0 a1 a2 a3).Asked).map (Qa true)).length)),(tI ((Qr a0 a1 a2 a3).Start)),(tI ((Qr a0 a1 a2 a3).Now))])) (tv (T.tup [(T.agg [(tS ((Qr a0 a1 a2 a3).Fill)),(tI ((Qr a0 a1 a2 a3).Checks)),(tI ((Qr a0 a1 a2 a3).Spent)),(T.os 1 20 0 ((((Qr a0 a1 a2 a3).Asked).map (Qa true)).length)),(tI ((Qr a0 a1 a2 a3).Start)),(tI ((Qr a0 a1 a2 a3).Now))]),(tB (decide (Q8 a0 a1 a2 a3)))]) rfl) rfl) rfl rfl (fD (OF.extract (t:=(tB (decide (Q8 a0 a1 a2 a3)))) (tv (T.tup [(T.agg [(tS ((Qr a0 a1 a2 a3).Fill)),(tI ((Qr a0 a1 a2 a3).Checks)),(tI ((Qr a0 a1 a2 a3).Spent)),(T.os 1 20 0 ((((Qr a0 a1 a2 a3).Asked).map (Qa true)).length)),(tI ((Qr a0 a1 a2 a3).Start)),(tI ((Qr a0 a1 a2 a3).Now))]),(tB (decide (Q8 a0 a1 a2 a3)))]) rfl) rfl) rfl rfl (VRunD.make rfl VWant.always rfl (B.alloc (t:=(T.agg [(tS ByteArray.empty),(tN 0),(tN 0),T.nils,(tN 0),(tN 0)])) (ts:= [(tS ByteArray.empty),(tN 0),(tN 0),T.nils,(tN 0),(tN 0)]) QbH QbJ nofun (fun _=> .agg _ _ rfl (Yb (RL.cons (.str _) (RL.cons (.int _ _) (RL.cons (.int _ _) (RL.cons (.nils) (RL.cons (.int _ _) (RL.cons (.int _ _) (RL.nil _))))))))) rfl) (VRunD.quiet (bi:= [7,1,0,3,2,4,5,6,8,10]) rfl VWant.always rfl rfl rfl (bc (lb rfl) bn) (B.storeO (us:= [(tS ((Qr a0 a1 a2 a3).Fill)),(tI ((Qr a0 a1 a2 a3).Checks)),(tI ((Qr a0 a1 a2 a3).Spent)),(T.os 1 20 0 ((((Qr a0 a1 a2 a3).Asked).map (Qa true)).length)),(tI ((Qr a0 a1 a2 a3).Start)),(tI ((Qr a0 a1 a2 a3).Now))]) (ws:= [(tS ((Qr a0 a1 a2 a3).Fill)),(tI ((Qr a0 a1 a2 a3).Checks)),(tI ((Qr a0 a1 a2 a3).Spent)),(T.os 1 20 0 ((((Qr a0 a1 a2 a3).Asked).map (Qa true)).length)),(tI ((Qr a0 a1 a2 a3).Start)),(tI ((Qr a0 a1 a2 a3).Now))]) (tv (T.op 21 0) rfl) (tv (T.agg [(tS ((Qr a0 a1 a2 a3).Fill)),(tI ((Qr a0 a1 a2 a3).Checks)),(tI ((Qr a0 a1 a2 a3).Spent)),(T.os 1 20 0 ((((Qr a0 a1 a2 a3).Asked).map (Qa true)).length)),(tI ((Qr a0 a1 a2 a3).Start)),(tI ((Qr a0 a1 a2 a3).Now))]) rfl) nofun rfl rfl (lb rfl) Jp QZ (bc rfl (bc rfl (bc rfl (bc rfl (bc rfl (bc rfl bn)))))) rfl) (fD (OF.assign (tv (tB (decide (Q8 a0 a1 a2 a3))) rfl)) rfl rfl (VRunD.nil (tn (sq (sr (lO (OL.loadOn (us:= [(tS ((Qr a0 a1 a2 a3).Fill)),(tI ((Qr a0 a1 a2 a3).Checks)),(tI ((Qr a0 a1 a2 a3).Spent)),(T.os 1 20 0 ((((Qr a0 a1 a2 a3).Asked).map (Qa true)).length)),(tI ((Qr a0 a1 a2 a3).Start)),(tI ((Qr a0 a1 a2 a3).Now))]) (tv (T.op 21 0) rfl) rfl Zr QZ (lb rfl) rfl) (lO (OL.loadOn (us:= [(tS ((Qr a0 a1 a2 a3).Fill)),(tI ((Qr a0 a1 a2 a3).Checks)),(tI ((Qr a0 a1 a2 a3).Spent)),(T.os 1 5 0 ((((Qr a0 a1 a2 a3).Asked).map (Qa true)).length)),(tI ((Qr a0 a1 a2 a3).Start)),(tI ((Qr a0 a1 a2 a3).Now))]) (tv (T.op 6 0) rfl) rfl Zr QZ (lb rfl) rfl) ?_)))))))))))
 refine cO (cS (us:= [(T.agg (Qe false (Qr a0 a1 a2 a3))),(T.agg (Qe false (Qr a0 a1 a2 a3)))]) (vc (tv (T.agg [(tS ((Qr a0 a1 a2 a3).Fill)),(tI ((Qr a0 a1 a2 a3).Checks)),(tI ((Qr a0 a1 a2 a3).Spent)),(T.os 1 20 0 ((((Qr a0 a1 a2 a3).Asked).map (Qa true)).length)),(tI ((Qr a0 a1 a2 a3).Start)),(tI ((Qr a0 a1 a2 a3).Now))]) rfl) (vc (tv (T.agg [(tS ((Qr a0 a1 a2 a3).Fill)),(tI ((Qr a0 a1 a2 a3).Checks)),(tI ((Qr a0 a1 a2 a3).Spent)),(T.os 1 5 0 ((((Qr a0 a1 a2 a3).Asked).map (Qa true)).length)),(tI ((Qr a0 a1 a2 a3).Start)),(tI ((Qr a0 a1 a2 a3).Now))]) rfl) vn)) (LendL.cons (Lend.agg (LendL.cons (Lend.pl rfl) (LendL.cons (Lend.pl rfl) (LendL.cons (Lend.pl rfl) (LendL.cons (Lend.os rfl rfl (okInt.fzMap _ _)) (LendL.cons (Lend.pl rfl) (LendL.cons (Lend.pl rfl) ln))))))) (LendL.cons (Lend.agg (LendL.cons (Lend.pl rfl) (LendL.cons (Lend.pl rfl) (LendL.cons (Lend.pl rfl) (LendL.cons (Lend.os rfl rfl (okInt.fzMap _ _)) (LendL.cons (Lend.pl rfl) (LendL.cons (Lend.pl rfl) ln))))))) ln)) (Yw (n+42) (Qr a0 a1 a2 a3) (Qr a0 a1 a2 a3) (by omega) (by omega)) rfl rfl) (fO (QS (tv (tB (decide ((Qr a0 a1 a2 a3)=(Qr a0 a1 a2 a3)))) rfl)) (mO (tB (!(decide ((Qr a0 a1 a2 a3)=(Qr a0 a1 a2 a3))))) rfl (gF (nz fhg60_1) rfl rfl (OF.move (tv (tB (decide (Q8 a0 a1 a2 a3))) rfl)) (gF (nz fhg60_1) rfl rfl (OF.move (tv (tB (decide (Q8 a0 a1 a2 a3))) rfl)) (gF (nz fhg60_1) rfl rfl (B.bneq U4 (c:=(!((decide (Q8 a0 a1 a2 a3)) == (decide (Q8 a0 a1 a2 a3))))) (tv (tB (decide (Q8 a0 a1 a2 a3))) rfl) (tv (tB (decide (Q8 a0 a1 a2 a3))) rfl) rfl) (fO (OF.pickF (VEv.tmpB rfl (nz fhg60_1)) (tv (tB (!((decide (Q8 a0 a1 a2 a3)) == (decide (Q8 a0 a1 a2 a3))))) rfl)) (nt (cg hc3 rfl (sk (tn (sr ?_)))))))))))
 refine fO (OF.assign (VEv.int .i64 1)) (nt (sr (lO (OL.loadOn (us:= [(tS ((Qr a0 a1 a2 a3).Fill)),(tI ((Qr a0 a1 a2 a3).Checks)),(tI ((Qr a0 a1 a2 a3).Spent)),(T.os 1 12 0 ((((Qr a0 a1 a2 a3).Asked).map (Qa true)).length)),(tI ((Qr a0 a1 a2 a3).Start)),(tI ((Qr a0 a1 a2 a3).Now))]) (tv (T.op 13 0) rfl) rfl Zr QZ (lb rfl) rfl) (mO (tN 1) rfl (cO (cS (us:= [(T.agg [(tS ((Qr a0 a1 a2 a3).Fill)),(tI ((Qr a0 a1 a2 a3).Checks)),(tI ((Qr a0 a1 a2 a3).Spent)),(rd 1 Qa (JA Zl 1 1 ((Qr a0 a1 a2 a3).Asked).length)),(tI ((Qr a0 a1 a2 a3).Start)),(tI ((Qr a0 a1 a2 a3).Now))]),(tN 1)]) (vc (tv (T.agg [(tS ((Qr a0 a1 a2 a3).Fill)),(tI ((Qr a0 a1 a2 a3).Checks)),(tI ((Qr a0 a1 a2 a3).Spent)),(T.os 1 12 0 ((((Qr a0 a1 a2 a3).Asked).map (Qa true)).length)),(tI ((Qr a0 a1 a2 a3).Start)),(tI ((Qr a0 a1 a2 a3).Now))]) rfl) (vc (tv (tN 1) rfl) vn)) (LendL.cons (Lend.agg (LendL.cons (Lend.pl rfl) (LendL.cons (Lend.pl rfl) (LendL.cons (Lend.pl rfl) (LendL.cons (Lend.os rfl (by simp only [List.length_map,YU,List.length_set,QdE]) (okInt.fzMap _ _)) (LendL.cons (Lend.pl rfl) (LendL.cons (Lend.pl rfl) ln))))))) (lp rfl ln)) (JP (n+42) (D.Session.mk ((Qr a0 a1 a2 a3).Fill) ((Qr a0 a1 a2 a3).Checks) ((Qr a0 a1 a2 a3).Spent) (JA Zl 1 1 ((Qr a0 a1 a2 a3).Asked).length) ((Qr a0 a1 a2 a3).Start) ((Qr a0 a1 a2 a3).Now)) 1 (by (simp only [Zs,YU];done)) (by (simp only [Zs,YU];omega))) rfl rfl) (aO (tN (1+1*(D.Session.mk ((Qr a0 a1 a2 a3).Fill) ((Qr a0 a1 a2 a3).Checks) ((Qr a0 a1 a2 a3).Spent) (JA Zl 1 1 ((Qr a0 a1 a2 a3).Asked).length) ((Qr a0 a1 a2 a3).Start) ((Qr a0 a1 a2 a3).Now)).Asked.length)) rfl (nt (sq (sr (mO (tN (1+1*(D.Session.mk ((Qr a0 a1 a2 a3).Fill) ((Qr a0 a1 a2 a3).Checks) ((Qr a0 a1 a2 a3).Spent) (JA Zl 1 1 ((Qr a0 a1 a2 a3).Asked).length) ((Qr a0 a1 a2 a3).Start) ((Qr a0 a1 a2 a3).Now)).Asked.length)) rfl (fO (B.lss (c:=(decide (1+1*(D.Session.mk ((Qr a0 a1 a2 a3).Fill) ((Qr a0 a1 a2 a3).Checks) ((Qr a0 a1 a2 a3).Spent) (JA Zl 1 1 ((Qr a0 a1 a2 a3).Asked).length) ((Qr a0 a1 a2 a3).Start) ((Qr a0 a1 a2 a3).Now)).Asked.length<0))) (tv (tN (1+1*(D.Session.mk ((Qr a0 a1 a2 a3).Fill) ((Qr a0 a1 a2 a3).Checks) ((Qr a0 a1 a2 a3).Spent) (JA Zl 1 1 ((Qr a0 a1 a2 a3).Asked).length) ((Qr a0 a1 a2 a3).Start) ((Qr a0 a1 a2 a3).Now)).Asked.length)) rfl) (VEv.int .i64 0) (by exact Q9 (by omega))) ?_)))))))))))
 refine nt (cg (dz fhc7) rfl (sk (tn (sq (sr (mO (tN (1+1*(D.Session.mk ((Qr a0 a1 a2 a3).Fill) ((Qr a0 a1 a2 a3).Checks) ((Qr a0 a1 a2 a3).Spent) (JA Zl 1 1 ((Qr a0 a1 a2 a3).Asked).length) ((Qr a0 a1 a2 a3).Start) ((Qr a0 a1 a2 a3).Now)).Asked.length)) rfl (mO (tN (1+1*((Qr a0 a1 a2 a3).Asked).length)) rfl (fO (Qg3 (tv (tN (1+1*(D.Session.mk ((Qr a0 a1 a2 a3).Fill) ((Qr a0 a1 a2 a3).Checks) ((Qr a0 a1 a2 a3).Spent) (JA Zl 1 1 ((Qr a0 a1 a2 a3).Asked).length) ((Qr a0 a1 a2 a3).Start) ((Qr a0 a1 a2 a3).Now)).Asked.length)) rfl) (tv (tN (1+1*((Qr a0 a1 a2 a3).Asked).length)) rfl)) (nt (cg (nz fhc8) rfl (sk ?_)))))))))))
 refine tn (sr (fO (OF.assign (VEv.bool true)) (nt (rt ?_))))
 exact vb rfl rfl
end Go.Proofs.YtcccmceoplcciaaGreat.AE
namespace Go.Proofs.YtcccmceoplcciaaGreat.AE
open Go Go.RowKit
set_option linter.unusedVariables false
set_option linter.unusedSimpArgs false
theorem Qkl {α:Type} {d:AK α} {e:Bool→α→List T} {x:α} {t:T} {h:AH} {v:Value} (hk:RK d e) (he:e false x= [t]) (hr:d.R h x [v]):R h t v:=by
 have h1:=hk h x _ hr
 rw [he] at h1
 exact h1.tail.1
theorem Qkz {α:Type} {d:AK α} {e:Bool→α→List T} {x:α} {h:AH} {cs:Array Value} (hk:RK d e) (hr:d.R h x (QgE (.agg cs)).cells.toList):R h (.agg (e false x)) (QgE (.agg cs)):=by
 have h1:=hk h x _ hr
 refine .agg _ _ (by simpa [Value.cells,QgE] using h1.1) (fun i hi=> ?_)
 have:=h1.2 i hi
 simpa [Value.cells,QgE,Array.getD_eq_getD_getElem?,List.getD_eq_getElem?_getD] using this
theorem Pure.bool {call:QL} {f:FuncId} {ts:List T} {b:Bool} (hp:Pure call f ts (.bool b)) {h:AH} {vs:List Value} (hfr:Fr 1 h) (hr:RL h ts vs):CallS call f vs h 1 (fun v _=>v= .bool b):=by
 refine (hp h 1 vs hfr hr).mono ?_
 rintro v h' ⟨_,N,hs,_⟩
 cases hs with
 | fz hr=>cases hr;rfl
end Go.Proofs.YtcccmceoplcciaaGreat.AE
namespace Go.Proofs.YtcccmceoplcciaaGreat.AE
open Go Go.RowKit Go.Shelf Go.Proofs
def QgA : Go.Shelf.Ren:=⟨fun | 189=>114 | 125=>144 | 257=>143 | 128=>174 | 129=>175 | 294=>165 | 295=>166 | 296=>167 | 297=>168 | 298=>169 | 299=>170 | 216=>171 | 300=>172 | 301=>173 | 328=>187 | 329=>188 | 330=>189 | 331=>190 | 332=>191 | 215=>192 | 343=>196 | n=>n,fun | 28=>25 | 3=>3 | 46=>148 | 0=>0 | 51=>170 | 53=>172 | 4=>4 | 183=>164 | 182=>163 | 131=>167 | 5=>5 | 9=>9 | 218=>179 | 222=>183 | 228=>186 | 229=>187 | n=>n,fun | n=>n⟩
theorem Qhv : Go.Proofs.Lays.n189 Tryz.prog QgA where
 mixed:=by kernel_rfl
 f125:=Tryz.func144.trans (congrArg some (by kernel_rfl))
 f128:=Tryz.func174.trans (congrArg some (by kernel_rfl))
 f129:=Tryz.func175.trans (congrArg some (by kernel_rfl))
 f189:=Tryz.func114.trans (congrArg some (by kernel_rfl))
 f215:=Tryz.func192.trans (congrArg some (by kernel_rfl))
 f216:=Tryz.func171.trans (congrArg some (by kernel_rfl))
 f257:=Tryz.func143.trans (congrArg some (by kernel_rfl))
 f294:=Tryz.func165.trans (congrArg some (by kernel_rfl))
 f295:=Tryz.func166.trans (congrArg some (by kernel_rfl))
 f296:=Tryz.func167.trans (congrArg some (by kernel_rfl))
 f297:=Tryz.func168.trans (congrArg some (by kernel_rfl))
 f298:=Tryz.func169.trans (congrArg some (by kernel_rfl))
 f299:=Tryz.func170.trans (congrArg some (by kernel_rfl))
 f300:=Tryz.func172.trans (congrArg some (by kernel_rfl))
 f301:=Tryz.func173.trans (congrArg some (by kernel_rfl))
 f328:=Tryz.func187.trans (congrArg some (by kernel_rfl))
 f329:=Tryz.func188.trans (congrArg some (by kernel_rfl))
 f330:=Tryz.func189.trans (congrArg some (by kernel_rfl))
 f331:=Tryz.func190.trans (congrArg some (by kernel_rfl))
 f332:=Tryz.func191.trans (congrArg some (by kernel_rfl))
 f343:=Tryz.func196.trans (congrArg some (by kernel_rfl))
 t0:=Tryz.underlying0
 a0:=Tryz.isAgg0
 z0:=Tryz.sizeOf0
 v0:=Tryz.zeroValue0
 t3:=Tryz.underlying3
 a3:=Tryz.isAgg3
 z3:=Tryz.sizeOf3
 v3:=Tryz.zeroValue3
 t4:=Tryz.underlying4
 a4:=Tryz.isAgg4
 z4:=Tryz.sizeOf4
 v4:=Tryz.zeroValue4
 t5:=Tryz.underlying5
 a5:=Tryz.isAgg5
 z5:=Tryz.sizeOf5
 v5:=Tryz.zeroValue5
 t9:=Tryz.underlying9
 a9:=Tryz.isAgg9
 z9:=Tryz.sizeOf9
 v9:=Tryz.zeroValue9
 t28:=Tryz.underlying25
 a28:=Tryz.isAgg25
 z28:=Tryz.sizeOf25
 v28:=Tryz.zeroValue25
 t46:=Tryz.underlying148
 a46:=Tryz.isAgg148
 z46:=Tryz.sizeOf148
 v46:=Tryz.zeroValue148
 t51:=Tryz.underlying170
 a51:=Tryz.isAgg170
 z51:=Tryz.sizeOf170
 v51:=Tryz.zeroValue170
 t53:=Tryz.underlying172
 a53:=Tryz.isAgg172
 z53:=Tryz.sizeOf172
 v53:=Tryz.zeroValue172
 t131:=Tryz.underlying167
 a131:=Tryz.isAgg167
 z131:=Tryz.sizeOf167
 v131:=Tryz.zeroValue167
 t182:=Tryz.underlying163
 a182:=Tryz.isAgg163
 z182:=Tryz.sizeOf163
 v182:=Tryz.zeroValue163
 t183:=Tryz.underlying164
 a183:=Tryz.isAgg164
 z183:=Tryz.sizeOf164
 v183:=Tryz.zeroValue164
 t218:=Tryz.underlying179
 a218:=Tryz.isAgg179
 z218:=Tryz.sizeOf179
 v218:=Tryz.zeroValue179
 t222:=Tryz.underlying183
 a222:=Tryz.isAgg183
 z222:=Tryz.sizeOf183
 v222:=Tryz.zeroValue183
 t228:=Tryz.underlying186
 a228:=Tryz.isAgg186
 z228:=Tryz.sizeOf186
 v228:=Tryz.zeroValue186
 t229:=Tryz.underlying187
 a229:=Tryz.isAgg187
 z229:=Tryz.sizeOf187
 v229:=Tryz.zeroValue187
def Qf3 : Go.Shelf.Ren:=⟨fun | 20=>115 | n=>n,fun | 22=>25 | 3=>3 | 4=>4 | 0=>0 | n=>n,fun | n=>n⟩
theorem Qhh : Go.Proofs.Lays2.n20 Tryz.prog Qf3 where
 mixed:=by kernel_rfl
 f20:=Tryz.func115.trans (congrArg some (by kernel_rfl))
 t0:=Tryz.underlying0
 a0:=Tryz.isAgg0
 z0:=Tryz.sizeOf0
 v0:=Tryz.zeroValue0
 t3:=Tryz.underlying3
 a3:=Tryz.isAgg3
 z3:=Tryz.sizeOf3
 v3:=Tryz.zeroValue3
 t4:=Tryz.underlying4
 a4:=Tryz.isAgg4
 z4:=Tryz.sizeOf4
 v4:=Tryz.zeroValue4
 t22:=Tryz.underlying25
 a22:=Tryz.isAgg25
 z22:=Tryz.sizeOf25
 v22:=Tryz.zeroValue25
 i3:=by kernel_rfl
theorem Ql3 : Qh4 Tryz.prog:=by
 intro f hf
 by_cases h1:f=114
 ·subst h1
  exact Qg2 ⟨fun p cap w=>Any.slices_Sort_int_none Qhv p cap w,fun blk off cap zs w h1 h2 h3=>Any.slices_Sort_int Qhv blk off cap zs w h1 h2 h3⟩
 ·by_cases h2:f=115
  ·subst h2
   exact QgN ⟨fun a cap w=>Any.slices_Compact_int_empty Qhh a cap w,fun blk off cap zs w h1 h2 h3=>Any.slices_Compact_int Qhh blk off cap zs w h1 h2 h3⟩
  ·exfalso
   simp [Qah,h1,h2] at hf
end Go.Proofs.YtcccmceoplcciaaGreat.AE
