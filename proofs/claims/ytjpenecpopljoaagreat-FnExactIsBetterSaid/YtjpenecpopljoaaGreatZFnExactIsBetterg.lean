/- A part of what the row of FnExactIsBetter uses. Conditions: as each theorem states. -/
import Derived.Test.YtjpenecpopljoaaGreatZFnExactIsBetterf
import Derived.Test.YtjpenecpopljoaaGreatProg
namespace Go.Proofs.YtjpenecpopljoaaGreat.AE
open Go Go.RowKit
set_option linter.unusedVariables false
set_option linter.unusedSimpArgs false
set_option maxRecDepth 20000
set_option maxHeartbeats 2000000
theorem Qjv {g:D.Grid} {f:ByteArray} {slot:Int} (h:¬(0≤slot∧slot<(((Zx g f).length:Nat):Int))):Zi g f slot=⟨#[]⟩:=by
 by_cases hf:Q7 g f
 ·rw [QeC hf] at h
  exact QcN (.inr (by omega))
 ·exact QcN (.inl hf)
theorem Qdi (n:Nat) (g:D.Grid) (f:ByteArray) (slot:Int) (hc:g.Cells.size≤maxLen) (hf:f.size≤maxLen):Pure (Qo Tryz.prog (n+6)) 62 [(T.agg (Qc false g)),(tS f),(tI slot)] (tS (Zi g f slot)):=by
 refine Pure.intro (rs:= [ResultVar.tmp 6]) Tryz.func62 Y Y Y (E0:= [(0,(T.agg (Qc false g))),(1,(tS f)),(2,(tI slot))]) Y ?_
 obtain ⟨hlim,hmx,hmax⟩:=Qz
 have hsl:=Zq g
 have hpl:=Qf1 g f
 refine sr (kO (B.box (ts:=(Qc false g)) (tv (T.agg (Qc false g)) Y) nofun Y) (fO (OF.assign (VEv.str (⟨#[]⟩:ByteArray))) (nt (sr (lO (OL.loadOn (us:=(Qc false g)) (tv (T.op 0 0) Y) Y Q6 Q0 (lb Y) Y) (mO (tS f) Y (cO (OC.callF (r':=(T.os 1 1 0 (((Zx g f).map (Qj true)).length))) (objs:= [(Obj.rows 1 ((Zx g f).map (Qj true)))]) Y (vc (tv (T.agg (Qc false g)) Y) (vc (tv (tS f) Y) vn)) (LendL.cons (lg Qx) (lp Y ln)) (QbG (n+0) g f (by assumption) (by assumption)) Y) (aO (T.os 1 1 0 (((Zx g f).map (Qj true)).length)) Y (nt (sq (sr ?_)))))))))))
 refine mO (tI slot) Y (mO (T.os 1 1 0 (((Zx g f).map (Qj true)).length)) Y (lO (B.lenO (m:=(Zx g f).length) (tv (T.os 1 1 0 (((Zx g f).map (Qj true)).length)) Y) Jm (List.length_map ..)) (cO (cS (vc (tv (tI slot) Y) (vc (tv (tN ((Zx g f).length)) Y) vn)) (Zg Y) (YK (n+4) slot (((Zx g f).length:Nat):Int)) Y Y) (fO (QU (tv (tB (decide (0≤slot∧slot<(((Zx g f).length:Nat):Int)))) Y)) (nt ?_)))))
 refine cn (0≤slot∧slot<(((Zx g f).length:Nat):Int)) Y (fun fhc0=> ?_) fun fhc0=> ?_
 ·refine sr ?_
  refine fO (OF.assign (VEv.str (⟨#[]⟩:ByteArray))) (nt (rt (tr ?_)))
  refine vfin.eq (r':=(tS (⟨#[]⟩:ByteArray))) ?_ (vfin.r (VRes.tmp (t:=(tS (⟨#[]⟩:ByteArray))) Y VRes.nil) (Give.str _))
  refine congrArg T.str ?_
  exact (Qjv fhc0).symm
 refine sk (tn (sr (mO (T.os 1 1 0 (((Zx g f).map (Qj true)).length)) Y (mO (tI slot) Y ?_))))
 obtain ⟨x1,hx1⟩:∃x,(Zx g f)[(Int.toNat slot)]? =some x:=⟨_,List.getElem?_eq_getElem (by omega)⟩
 have hpx:=QiM hx1
 refine fO (B.indexAddrO (i:=(Int.toNat slot)) (tv (T.os 1 1 0 (((Zx g f).map (Qj true)).length)) Y) (tv (tI slot) Y) (by omega) (by (simp only [List.length_map];omega)) Jm Ji if9) (lO (OL.loadP1 (t:=(tS x1)) (row:=(Qj true x1)) (tv (T.orp 1 1 (Int.toNat slot) 0) Y) Y (Qu _ hx1) Y Y ZG) (aO (tS x1) Y (nt (rt ?_))))
 refine vfin.eq (r':=(tS x1)) ?_ (vfin.r (VRes.tmp (t:=(tS x1)) Y VRes.nil) (Give.str _))
 refine congrArg T.str ?_
 rw [hpx];congr 1;omega
noncomputable section
def uW (l:List D.Step):List ByteArray:=(l.filter (fun x=>decide (x.Kind=1))).map (fun x=>x.Word)
theorem Qlo {l:List D.Step} {i:Nat} {x:D.Step} (h:l[i]? =some x) (hp:x.Kind=1):uW (l.take (i+1))=uW (l.take i)++ [x.Word]:=by
 unfold uW
 rw [List.take_add_one,h,List.filter_append,List.map_append]
 simp [hp]
theorem Qk8 {l:List D.Step} {i:Nat} {x:D.Step} (h:l[i]? =some x) (hp:¬x.Kind=1):uW (l.take (i+1))=uW (l.take i):=by
 unfold uW
 rw [List.take_add_one,h,List.filter_append,List.map_append]
 simp [hp]
theorem QhC (l:List D.Step):(uW l).length≤l.length:=by
 rw [uW,List.length_map]
 exact List.length_filter_le _ _
def Yp (c:D.Clue) (d:List D.Meaning) (l:List ByteArray):List ByteArray:=l.filter (fun w=>decide (JP c d w))
theorem Qgf (c:D.Clue) (d:List D.Meaning) (l:List ByteArray):(Yp c d l).length≤l.length:=List.length_filter_le _ _
theorem Qgu {c:D.Clue} {d:List D.Meaning} {l:List ByteArray} {i:Nat} {w:ByteArray} (h:l[i]? =some w) (hp:JP c d w):Yp c d (l.take (i+1))=Yp c d (l.take i)++ [w]:=by
 unfold Yp
 rw [List.take_add_one,h,List.filter_append]
 simp [hp]
theorem Qgi {c:D.Clue} {d:List D.Meaning} {l:List ByteArray} {i:Nat} {w:ByteArray} (h:l[i]? =some w) (hp:¬JP c d w):Yp c d (l.take (i+1))=Yp c d (l.take i):=by
 unfold Yp
 rw [List.take_add_one,h,List.filter_append]
 simp [hp]
def Zp (c:D.Clue) (d:List D.Meaning) (l:List ByteArray):List ByteArray:=ZA (Yp c d l)
theorem Qgh (c:D.Clue) (d:List D.Meaning) (l:List ByteArray):(Zp c d l).length≤l.length:=Nat.le_trans (Qhv _) (Qgf c d l)
theorem Qib {c:D.Clue} {d:List D.Meaning} {l:List ByteArray} {i:Nat} {w:ByteArray} (h:l[i]? =some w) (hw:w∈Zp c d (l.take i)):Zp c d (l.take i)=Zp c d (l.take (i+1)):=by
 unfold Zp at *
 by_cases hp:JP c d w
 ·rw [Qgu h hp,QfM,QbK,if_pos hw]
 ·rw [Qgi h hp]
theorem Qio {c:D.Clue} {d:List D.Meaning} {l:List ByteArray} {i:Nat} {w:ByteArray} (h:l[i]? =some w) (hp:JP c d w) (hw:¬w∈Zp c d (l.take i)):Zp c d (l.take i)++ [w]=Zp c d (l.take (i+1)):=by
 unfold Zp at *
 rw [Qgu h hp,QfM,QbK,if_neg hw]
theorem Qko {c:D.Clue} {d:List D.Meaning} {l:List ByteArray} {i:Nat} {w:ByteArray} (h:l[i]? =some w) (hp:¬JP c d w):Zp c d (l.take i)=Zp c d (l.take (i+1)):=by
 unfold Zp
 rw [Qgi h hp]
def Qau (c:D.Clue) (d:List D.Meaning) (ws:List ByteArray) (a:ByteArray):Int:=if ¬((1≤c.Sense∧c.Sense≤99)∧QJ c.Play) then 1 else if ¬D.Meaning.mk a c.Sense∈d then 2 else if ¬J5 c.Play a then 3 else if a∈uW c.Play then 4 else if ¬Zp c d ws= [a] then 5 else 0
theorem Jf {l:List ByteArray} {a x:ByteArray} (h1:l.length=1) (hx:l[0]? =some x):l= [a]↔x=a:=by
 match l,h1 with
 | [y],_ =>
  have:y=x:=Option.some.inj hx
  rw [this]
  exact ⟨fun h=>by simpa using h,fun h=>by rw [h]⟩
end
theorem Qen (n:Nat) (l:List D.Step) (hz:zL Zc l≤mx):Pure (Qo Tryz.prog (n+1)) 86 [(rd 4 Qd l)] (T.sl true 1 ((uW l).map (Qj true))):=by
 refine Pure.intro (rs:= [ResultVar.tmp 2]) Tryz.func86 Y Y Y (E0:= [(0,(rd 4 Qd l))]) Y ?_
 obtain ⟨hlim,hmx,hmax⟩:=Qz
 have hl:=Q1 (z:=Zc) l
 refine sr (fO (OF.assign VEv.nils) (nt (sr (kO (OM.slice0 Jm zo9 (by kernel_rfl) Y (by rw [Ji];decide) Ji) (aO (T.os 1 0 0 0) Y (nt (sq (sr (fO (OF.assign (VEv.int .i64 0)) (nt (VRun.block ?_)))))))))))
 have he1: []=((uW (l.take 0)).map (Qj true)):=by first | rfl | rfl | (rw [Qlo hx1 fhc1]) | (rw [Qk8 hx1 fhc1]) | (simp;done) | omega
 refine VRun.loop (A:=Nat) (fun s_=> [(0,(rd 4 Qd l)),(2,T.nils),(3,(T.os 1 0 0 (((uW (l.take s_)).map (Qj true)).length))),(4,(tN s_))]) (fun s_=>QV [(0,(Obj.rows 1 ((uW (l.take s_)).map (Qj true))))]) 1 (fun s_=>s_≤l.length) (fun s_=>l.length - s_) (0:Nat) ?_ (Wk.mk (fun k=>k) ?_ ?_ ?_) ?_
 ·first | trivial | (simp;done) | omega | (constructor<;>simp)
 ·exact (b2 (b2 (bc ⟨(congrArg (fun n_=>T.os 1 0 0 n_) (show 0=((uW (l.take 0)).map (Qj true)).length from (by first | rfl | (simp only [List.length_map];omega) | (simp only [List.length_map,List.length_set,List.length_append,List.length_take,List.length_replicate,List.length_cons,List.length_nil];omega)))),rfl⟩ (b2 bn))))
 ·exact (bc ⟨(congrArg (fun l_=>some (Obj.rows 1 l_)) he1),(lb Y),rfl⟩ bn)
 ·exact nd Y
 rintro i (hI':i≤l.length)
 show VRun _ _ _ [(0,(rd 4 Qd l)),(2,T.nils),(3,(T.os 1 0 0 (((uW (l.take i)).map (Qj true)).length))),(4,(tN i))] (QV [(0,(Obj.rows 1 ((uW (l.take i)).map (Qj true))))]) 1 _
 have hI1:=hI'
 have hI2:=QhC (l.take i)
 have hI3:(l.take i).length≤l.length:=by rw [List.length_take];omega
 refine sq (sr (mO (tN i) Y (mO (rd 4 Qd l) Y (lO (B.lenR (m:=l.length) (tv (rd 4 Qd l) Y) U62 (List.length_map ..)) (fO (Q9 (tv (tN i) Y) (tv (tN l.length) Y)) (nt ?_))))))
 refine cd (i<l.length) Y (fun fhc0=> ?_) fun fhc0=> ?_
 ·refine sk ?_
  refine tn (sq (VRun.block (sr (mO (rd 4 Qd l) Y (mO (tN i) Y ?_)))))
  obtain ⟨x1,hx1⟩:∃x,l[i]? =some x:=⟨_,List.getElem?_eq_getElem (by omega)⟩
  refine fO (OF.indexAddrR (row:=(Qd false x1)) (i:=i) (tv (rd 4 Qd l) Y) (tv (tN i) Y) Y (Qu _ hx1) U62 ZE Yq) (lr (tI x1.Kind) Y (lb Y) Zf Y QS (fO (Yn (tv (tI x1.Kind) Y) (VEv.int .i64 1)) (nt ?_)))
  refine cd (x1.Kind=1) Y (fun fhc1=> ?_) fun fhc1=> ?_
  ·refine VRun.region ?_
   refine mO (T.os 1 0 0 (((uW (l.take i)).map (Qj true)).length)) Y (mO (rd 4 Qd l) Y (mO (tN i) Y (fO (OF.indexAddrR (row:=(Qd false x1)) (i:=i) (tv (rd 4 Qd l) Y) (tv (tN i) Y) Y (Qu _ hx1) U62 ZE Yq) (lr (tS x1.Word) Y (lb Y) Z3 Y ZG (kO (OM.buildSlice (l:= [(tS x1.Word)]) (VEvp.cons (tv (tS x1.Word) Y) VEvp.nil) Y (by decide) (bc (nofun) bn) (bc ((bc (Y) bn)) bn) (bc (Y) bn) Jm zo9 (by kernel_rfl) Y (by rw [Ji];decide) Ji (Nat.le_of_ble_eq_true Y)) (cO (B.append (rows:=((uW (l.take i)).map (Qj true))) (rows2:= [[(tS x1.Word)]]) (rows3:=((uW (l.take i)++ [x1.Word]).map (Qj true))) (VDst.own (tv (T.os 1 0 0 (((uW (l.take i)).map (Qj true)).length)) Y) Y Y) (VSrc.own (tv (T.os 1 1 0 1) Y) Y Y Jm (bc (bc Y bn) bn)) (by decide) Jm Ji (by decide) zo9 Y (of_decide_eq_true (by kernel_rfl)) (by first | omega | (simp only [List.length_map];omega) | (simp only [List.length_map,List.length_append,List.length_cons,List.length_nil,List.length_replicate,List.length_set,List.length_drop,List.length_take,Zk] at *;omega)) ((List.map_append (f:=Qj true) (l₁:=uW (l.take i)) (l₂:= [x1.Word])).symm)) (aO (T.os 1 2 0 (((uW (l.take i)++ [x1.Word]).map (Qj true)).length)) Y (VRunO.nil (vinB.n (tn (VRun.region ?_)))))))))))
   refine mO (tN i) Y (fO (QB (tv (tN i) Y) (VEv.int .i64 1) (by omega)) (aO (tN (i+1)) Y (VRunO.nil (tn ?_))))
   have he2:(uW (l.take i)++ [x1.Word])=uW (l.take (i+1)):=by first | rfl | rfl | (rw [Qlo hx1 fhc1]) | (rw [Qk8 hx1 fhc1]) | (simp;done) | omega
   refine ⟨(i+1:Nat),?_,?_,Wk.mk (fun k=>if k=0 then 2 else k) ?_ ?_ ?_⟩
   ·first | trivial | omega | (simp;done) | exact ⟨by omega,hI'.2⟩
   ·first | omega | (simp only [];omega) | (show _<_;omega) | (simp;omega)
   ·exact (b2 (b2 (bc ⟨(congrArg (fun l_=>T.os 1 2 0 (List.map (Qj true) l_).length) he2),rfl⟩ (b2 bn))))
   ·exact (bc ⟨(congrArg (fun l_=>some (Obj.rows 1 (List.map (Qj true) l_))) he2),(lb Y),rfl⟩ bn)
   ·exact nd Y
  refine sk (vinB.n (tn (VRun.region (mO (tN i) Y (fO (QB (tv (tN i) Y) (VEv.int .i64 1) (by omega)) (aO (tN (i+1)) Y (VRunO.nil (tn ?_))))))))
  have he3:uW (l.take i)=uW (l.take (i+1)):=by first | rfl | rfl | (rw [Qlo hx1 fhc1]) | (rw [Qk8 hx1 fhc1]) | (simp;done) | omega
  refine ⟨(i+1:Nat),?_,?_,Wk.mk (fun k=>k) ?_ ?_ ?_⟩
  ·first | trivial | omega | (simp;done) | exact ⟨by omega,hI'.2⟩
  ·first | omega | (simp only [];omega) | (show _<_;omega) | (simp;omega)
  ·exact (b2 (b2 (bc ⟨(congrArg (fun l_=>T.os 1 0 0 (List.map (Qj true) l_).length) he3),rfl⟩ (b2 bn))))
  ·exact (bc ⟨(congrArg (fun l_=>some (Obj.rows 1 (List.map (Qj true) l_))) he3),(lb Y),rfl⟩ bn)
  ·exact nd Y
 refine VRun.exit (vthn.e (vthn.e (vinB.e (tn (sr (mO (T.os 1 0 0 (((uW (l.take i)).map (Qj true)).length)) Y (aO (T.os 1 0 0 (((uW (l.take i)).map (Qj true)).length)) Y (nt (rt ?_)))))))))
 refine vfin.eq (r':=(T.sl true 1 ((uW (l.take i)).map (Qj true)))) ?_ (vfin.r (VRes.tmp (t:=(T.os 1 0 0 (((uW (l.take i)).map (Qj true)).length))) Y VRes.nil) (Give.os Y Y (okStr.cleanMap _)))
 refine congrArg (fun l_=>T.sl true 1 (List.map (Qj true) l_)) ?_
 rw [List.take_of_length_le (by omega)]
theorem Qev (n:Nat) (l:List D.Step) (hz:zL Zc l≤mx):Pure (Qo Tryz.prog (n+1)) 95 [(rd 4 Qd l)] (T.sl true 1 ((uW l).map (Qj true))):=by
 refine Pure.intro (rs:= [ResultVar.tmp 2]) Tryz.func95 Y Y Y (E0:= [(0,(rd 4 Qd l))]) Y ?_
 obtain ⟨hlim,hmx,hmax⟩:=Qz
 have hl:=Q1 (z:=Zc) l
 refine sr (fO (OF.assign VEv.nils) (nt (sr (fO (OF.assign VEv.nils) (nt (sq (sr (mO (rd 4 Qd l) Y (lO (B.lenR (m:=l.length) (tv (rd 4 Qd l) Y) U62 (List.length_map ..)) (fO (OF.move (VEv.int .i64 0)) (nt ?_)))))))))))
 refine VRun.block (VRun.wk (Wk.phantom 3 1 Y) ?_)
 have he1: []=((uW (l.take 0)).map (Qj true)):=by first | rfl | rfl | (rw [Qlo hx1 fhc1]) | (rw [Qk8 hx1 fhc1]) | (simp;done) | omega
 refine VRun.loop (A:=Nat) (fun s_=> [(2,T.nils),(3,(T.os 1 0 0 (((uW (l.take s_)).map (Qj true)).length))),(6,(rd 4 Qd l)),(7,(tN l.length)),(8,(tN s_))]) (fun s_=>QV [(0,(Obj.rows 1 ((uW (l.take s_)).map (Qj true))))]) 1 (fun s_=>s_≤l.length) (fun s_=>l.length - s_) (0:Nat) ?_ (Wk.mk (fun k=>k) ?_ ?_ ?_) ?_
 ·first | trivial | (simp;done) | omega | (constructor<;>simp)
 ·exact (b2 (bc ⟨(congrArg (fun n_=>T.os 1 0 0 n_) (show 0=((uW (l.take 0)).map (Qj true)).length from (by first | rfl | (simp only [List.length_map];omega) | (simp only [List.length_map,List.length_set,List.length_append,List.length_take,List.length_replicate,List.length_cons,List.length_nil];omega)))),rfl⟩ (b2 (b2 (b2 bn)))))
 ·exact (bc ⟨(congrArg (fun l_=>some (Obj.rows 1 l_)) he1),(lb Y),rfl⟩ bn)
 ·exact nd Y
 rintro i (hI':i≤l.length)
 show VRun _ _ _ [(2,T.nils),(3,(T.os 1 0 0 (((uW (l.take i)).map (Qj true)).length))),(6,(rd 4 Qd l)),(7,(tN l.length)),(8,(tN i))] (QV [(0,(Obj.rows 1 ((uW (l.take i)).map (Qj true))))]) 1 _
 have hI1:=hI'
 have hI2:=QhC (l.take i)
 have hI3:(l.take i).length≤l.length:=by rw [List.length_take];omega
 refine sr (fO (Q9 (tv (tN i) Y) (tv (tN l.length) Y)) (nt (sq ?_)))
 refine cd (i<l.length) Y (fun fhc0=> ?_) fun fhc0=> ?_
 ·refine sk ?_
  refine tn (sq (VRun.block (sr ?_)))
  obtain ⟨x1,hx1⟩:∃x,l[i]? =some x:=⟨_,List.getElem?_eq_getElem (by omega)⟩
  refine fO (OF.indexAddrR (row:=(Qd false x1)) (i:=i) (tv (rd 4 Qd l) Y) (tv (tN i) Y) Y (Qu _ hx1) U62 ZE Yq) (lO (OL.loadRn (us:=(Qd false x1)) (tv (T.rp (Qd false x1)) Y) QbQ ZE (lb Y) Y) (kO (B.alloc (t:=(T.agg [(tN 0),(tS ByteArray.empty),(tN 0),(tN 0)])) (ts:= [(tN 0),(tS ByteArray.empty),(tN 0),(tN 0)]) QeR QeQ nofun (fun _=> .agg _ _ Y (YS (RL.cons (.int _ _) (RL.cons (.str _) (RL.cons (.int _ _) (RL.cons (.int _ _) (RL.nil _))))))) Y) (cO (B.storeW (us:=(Qd false x1)) (tv (T.op 1 0) Y) (tv (T.agg (Qd false x1)) Y) nofun Y Y Y Yq ZE (bc Y (bc Y (bc Y (bc Y bn))))) (nt (sr (lf (tI x1.Kind) Y Zf Y Y QS (fO (Yn (tv (tI x1.Kind) Y) (VEv.int .i64 1)) (nt ?_))))))))
  refine cd (x1.Kind=1) Y (fun fhc1=> ?_) fun fhc1=> ?_
  ·refine VRun.region ?_
   refine mO (T.os 1 0 0 (((uW (l.take i)).map (Qj true)).length)) Y (lf (tS x1.Word) Y Z3 Y Y ZG (kO (OM.buildSlice (l:= [(tS x1.Word)]) (VEvp.cons (tv (tS x1.Word) Y) VEvp.nil) Y (by decide) (bc (nofun) bn) (bc ((bc (Y) bn)) bn) (bc (Y) bn) Jm zo9 (by kernel_rfl) Y (by rw [Ji];decide) Ji (Nat.le_of_ble_eq_true Y)) (cO (B.append (rows:=((uW (l.take i)).map (Qj true))) (rows2:= [[(tS x1.Word)]]) (rows3:=((uW (l.take i)++ [x1.Word]).map (Qj true))) (VDst.own (tv (T.os 1 0 0 (((uW (l.take i)).map (Qj true)).length)) Y) Y Y) (VSrc.own (tv (T.os 1 2 0 1) Y) Y Y Jm (bc (bc Y bn) bn)) (by decide) Jm Ji (by decide) zo9 Y (of_decide_eq_true (by kernel_rfl)) (by first | omega | (simp only [List.length_map];omega) | (simp only [List.length_map,List.length_append,List.length_cons,List.length_nil,List.length_replicate,List.length_set,List.length_drop,List.length_take,Zk] at *;omega)) ((List.map_append (f:=Qj true) (l₁:=uW (l.take i)) (l₂:= [x1.Word])).symm)) (aO (T.os 1 3 0 (((uW (l.take i)++ [x1.Word]).map (Qj true)).length)) Y (VRunO.nil (vinB.n (tn (VRun.region (fO (QB (tv (tN i) Y) (VEv.int .i64 1) (by omega)) (mO (tN (i+1)) Y (VRunO.nil ?_)))))))))))
   refine tn ?_
   have he2:(uW (l.take i)++ [x1.Word])=uW (l.take (i+1)):=by first | rfl | rfl | (rw [Qlo hx1 fhc1]) | (rw [Qk8 hx1 fhc1]) | (simp;done) | omega
   refine ⟨(i+1:Nat),?_,?_,Wk.mk (fun k=>if k=0 then 3 else k) ?_ ?_ ?_⟩
   ·first | trivial | omega | (simp;done) | exact ⟨by omega,hI'.2⟩
   ·first | omega | (simp only [];omega) | (show _<_;omega) | (simp;omega)
   ·exact (b2 (bc ⟨(congrArg (fun l_=>T.os 1 3 0 (List.map (Qj true) l_).length) he2),rfl⟩ (b2 (b2 (b2 bn)))))
   ·exact (bc ⟨(congrArg (fun l_=>some (Obj.rows 1 (List.map (Qj true) l_))) he2),(lb Y),rfl⟩ bn)
   ·exact nd Y
  refine sk (vinB.n (tn (VRun.region (fO (QB (tv (tN i) Y) (VEv.int .i64 1) (by omega)) (mO (tN (i+1)) Y (VRunO.nil (tn ?_)))))))
  have he3:uW (l.take i)=uW (l.take (i+1)):=by first | rfl | rfl | (rw [Qlo hx1 fhc1]) | (rw [Qk8 hx1 fhc1]) | (simp;done) | omega
  refine ⟨(i+1:Nat),?_,?_,Wk.mk (fun k=>k) ?_ ?_ ?_⟩
  ·first | trivial | omega | (simp;done) | exact ⟨by omega,hI'.2⟩
  ·first | omega | (simp only [];omega) | (show _<_;omega) | (simp;omega)
  ·exact (b2 (bc ⟨(congrArg (fun l_=>T.os 1 0 0 (List.map (Qj true) l_).length) he3),rfl⟩ (b2 (b2 (b2 bn)))))
  ·exact (bc ⟨(congrArg (fun l_=>some (Obj.rows 1 (List.map (Qj true) l_))) he3),(lb Y),rfl⟩ bn)
  ·exact nd Y
 refine VRun.exit (vthn.e (vthn.e (vinB.e (tn (sr (mO (T.os 1 0 0 (((uW (l.take i)).map (Qj true)).length)) Y (aO (T.os 1 0 0 (((uW (l.take i)).map (Qj true)).length)) Y (nt (rt ?_)))))))))
 refine vfin.eq (r':=(T.sl true 1 ((uW (l.take i)).map (Qj true)))) ?_ (vfin.r (VRes.tmp (t:=(T.os 1 0 0 (((uW (l.take i)).map (Qj true)).length))) Y VRes.nil) (Give.os Y Y (okStr.cleanMap _)))
 refine congrArg (fun l_=>T.sl true 1 (List.map (Qj true) l_)) ?_
 rw [List.take_of_length_le (by omega)]
theorem JM (n:Nat) (a:List ByteArray) (b:List ByteArray) (hla:a.length≤mx) (hlb:b.length≤mx):Pure (Qo Tryz.prog (n+1)) 96 [(rd 1 Qj a),(rd 1 Qj b)] (tB (decide (a=b))):=by
 refine Pure.intro (rs:= [ResultVar.tmp 4]) Tryz.func96 Y Y Y (E0:= [(0,(rd 1 Qj a)),(1,(rd 1 Qj b))]) Y ?_
 obtain ⟨hlim,hmx,hmax⟩:=Qz
 refine sr (fO (OF.assign (VEv.bool false)) (nt (sq (sr (mO (rd 1 Qj a) Y (lO (B.lenR (m:=a.length) (tv (rd 1 Qj a) Y) Jm (List.length_map ..)) (mO (rd 1 Qj b) Y (lO (B.lenR (m:=b.length) (tv (rd 1 Qj b) Y) Jm (List.length_map ..)) (fO (Qjw (tv (tN a.length) Y) (tv (tN b.length) Y)) (nt ?_))))))))))
 refine cn (a.length=b.length) Y (fun fhc0=> ?_) fun fhc0=> ?_
 ·refine sr ?_
  refine fO (OF.assign (VEv.bool false)) (nt (rt (tr (vb (b':=false) Y ?_))))
  symm;rw [decide_eq_false_iff_not];rintro rfl;exact fhc0 Y
 refine sk (tn (sq (sr (mO (rd 1 Qj a) Y (lO (B.lenR (m:=a.length) (tv (rd 1 Qj a) Y) Jm (List.length_map ..)) (fO (OF.move (VEv.int .i64 0)) (nt (VRun.block ?_))))))))
 refine VRun.loop (A:=Nat) (fun s_=> [(0,(rd 1 Qj a)),(1,(rd 1 Qj b)),(12,(tN a.length)),(13,(tN s_))]) (fun s_=>QV []) 0 (fun s_=>s_≤a.length∧∀j,j<s_→a[j]? =b[j]?) (fun s_=>a.length - s_) (0:Nat) ?_ (Wk.mk (fun k=>k) ?_ ?_ ?_) ?_
 ·first | trivial | (simp;done) | omega | (constructor<;>simp)
 ·exact (b2 (b2 (b2 (b2 bn))))
 ·exact bn
 ·exact nd Y
 rintro i (hI':i≤a.length∧∀j,j<i→a[j]? =b[j]?)
 show VRun _ _ _ [(0,(rd 1 Qj a)),(1,(rd 1 Qj b)),(12,(tN a.length)),(13,(tN i))] (QV []) 0 _
 refine sr (fO (Q9 (tv (tN i) Y) (tv (tN a.length) Y)) (nt (sq ?_)))
 refine cd (i<a.length) Y (fun fhc1=> ?_) fun fhc1=> ?_
 ·refine sk ?_
  refine tn (sq (VRun.block (sr (mO (tN i) Y (aO (tN i) Y (nt (sq (VRun.draw (B:= [[],[],[1,0],[0,1,2],[],[],[5,4],[4,5,6],[6,5,4,7,2,1,0,3]]) (by kernel_rfl) (by kernel_rfl) (mD (rd 1 Qj a) Y Y (mD (tN i) Y Y ?_))))))))))
  obtain ⟨x1,hx1⟩:∃x,a[i]? =some x:=⟨_,List.getElem?_eq_getElem (by omega)⟩
  refine fD (OF.indexAddrR (row:=(Qj false x1)) (i:=i) (tv (rd 1 Qj a) Y) (tv (tN i) Y) Y (Qu _ hx1) Jm Ji if9) Y Y (lD (OL.loadR1 (t:=(tS x1)) (tv (T.rp [(tS x1)]) Y) Y ZG) Y Y (mD (rd 1 Qj b) Y Y (mD (tN i) Y Y ?_)))
  obtain ⟨x2,hx2⟩:∃x,b[i]? =some x:=⟨_,List.getElem?_eq_getElem (by omega)⟩
  refine fD (OF.indexAddrR (row:=(Qj false x2)) (i:=i) (tv (rd 1 Qj b) Y) (tv (tN i) Y) Y (Qu _ hx2) Jm Ji if9) Y Y (lD (OL.loadR1 (t:=(tS x2)) (tv (T.rp [(tS x2)]) Y) Y ZG) Y Y (fD (B.sneq (c:=(!(decide (x1=x2)))) (tv (tS x1) Y) (tv (tS x2) Y) Y) Y Y (VRunD.nil (tn ?_))))
  refine cn (x1=x2) Y (fun fhc2=> ?_) fun fhc2=> ?_
  ·refine sr ?_
   refine fO (OF.assign (VEv.bool false)) (nt (rt (vinB.r (tr (tr (vinB.r (tr (vb (b':=false) Y ?_))))))))
   symm;rw [decide_eq_false_iff_not];exact J6 hx1 hx2 fhc2
  refine sk (vinB.n (tn (VRun.region (fO (QB (tv (tN i) Y) (VEv.int .i64 1) (by omega)) (mO (tN (i+1)) Y (VRunO.nil (tn ?_)))))))
  refine ⟨(i+1:Nat),?_,?_,Wk.mk (fun k=>k) ?_ ?_ ?_⟩
  ·exact Js hI' hx1 hx2 fhc2
  ·first | omega | (simp only [];omega) | (show _<_;omega) | (simp;omega)
  ·exact (b2 (b2 (b2 (b2 bn))))
  ·exact bn
  ·exact nd Y
 refine VRun.exit (vthn.e (vthn.e (vinB.e (tn (sr (fO (OF.assign (VEv.bool true)) (nt (rt (vb (b':=true) Y ?_)))))))))
 symm;rw [decide_eq_true_eq];exact Qaa hI' fhc0 fhc1
theorem Qet (n:Nat) (c:D.Clue) (d:List D.Meaning) (ws:List ByteArray) (hz:QO c≤mx) (hd:d.length≤Zk) (hw:zL ByteArray.size ws≤mx):Pure (Qo Tryz.prog (n+26)) 87 [(T.agg (Qi false c)),(rd 2 Qb d),(rd 1 Qj ws)] (T.sl true 1 ((Zp c d ws).map (Qj true))):=by
 refine Pure.intro (rs:= [ResultVar.tmp 6]) Tryz.func87 Y Y Y (E0:= [(0,(T.agg (Qi false c))),(1,(rd 2 Qb d)),(2,(rd 1 Qj ws))]) Y ?_
 obtain ⟨hlim,hmx,hmax⟩:=Qz
 have hlw:=Q1 (z:=ByteArray.size) ws
 refine sr (kO (B.box (ts:=(Qi false c)) (tv (T.agg (Qi false c)) Y) nofun Y) (fO (OF.assign VEv.nils) (nt (sr (kO (OM.slice0 Jm zo9 (by kernel_rfl) Y (by rw [Ji];decide) Ji) (aO (T.os 1 1 0 0) Y (nt (sq (sr (fO (OF.assign (VEv.int .i64 0)) (nt ?_)))))))))))
 refine VRun.block ?_
 have he1: []=((Zp c d (ws.take 0)).map (Qj true)):=by first | rfl | rfl | (exact Qio hx1 fhg23_2 fhc1) | (exact Qib hx1 fhc1) | (exact Qko hx1 fhg23_2) | (simp;done) | omega
 refine VRun.loop (A:=Nat) (fun s_=> [(1,(rd 2 Qb d)),(2,(rd 1 Qj ws)),(3,(T.op 0 0)),(6,T.nils),(7,(T.os 1 1 0 (((Zp c d (ws.take s_)).map (Qj true)).length))),(8,(tN s_))]) (fun s_=>QV [(0,(Obj.cells (Qi false c))),(1,(Obj.rows 1 ((Zp c d (ws.take s_)).map (Qj true))))]) 2 (fun s_=>s_≤ws.length) (fun s_=>ws.length - s_) (0:Nat) ?_ (Wk.mk (fun k=>k) ?_ ?_ ?_) ?_
 ·first | trivial | (simp;done) | omega | (constructor<;>simp)
 ·exact (b2 (b2 (b2 (b2 (bc ⟨(congrArg (fun n_=>T.os 1 1 0 n_) (show 0=((Zp c d (ws.take 0)).map (Qj true)).length from (by first | rfl | (simp only [List.length_map];omega) | (simp only [List.length_map,List.length_set,List.length_append,List.length_take,List.length_replicate,List.length_cons,List.length_nil];omega)))),rfl⟩ (b2 bn))))))
 ·exact (b3 (bc ⟨(congrArg (fun l_=>some (Obj.rows 1 l_)) he1),(lb Y),rfl⟩ bn))
 ·exact nd Y
 rintro i (hI':i≤ws.length)
 show VRun _ _ _ [(1,(rd 2 Qb d)),(2,(rd 1 Qj ws)),(3,(T.op 0 0)),(6,T.nils),(7,(T.os 1 1 0 (((Zp c d (ws.take i)).map (Qj true)).length))),(8,(tN i))] (QV [(0,(Obj.cells (Qi false c))),(1,(Obj.rows 1 ((Zp c d (ws.take i)).map (Qj true))))]) 2 _
 have hI1:=hI'
 have hI2:=Qgh c d (ws.take i)
 have hI3:(ws.take i).length≤ws.length:=by rw [List.length_take];omega
 refine sq (sr (mO (tN i) Y (mO (rd 1 Qj ws) Y (lO (B.lenR (m:=ws.length) (tv (rd 1 Qj ws) Y) Jm (List.length_map ..)) (fO (Q9 (tv (tN i) Y) (tv (tN ws.length) Y)) (nt ?_))))))
 refine cd (i<ws.length) Y (fun fhc0=> ?_) fun fhc0=> ?_
 ·refine sk ?_
  refine tn (sq (VRun.block (sq (VRun.draw (B:= [[],[],[],[],[3,2],[2,3,4],[4,3,2,5,1,0],[0,1,5,2,3,4,6],[6,4,3,2,5,1,0,7],[6,4,3,2,5,1,0,7],[6,4,3,2,5,1,0,7],[10,7,0,1,5,2,3,4,6,9],[9,6,4,3,2,5,1,0,7,10,11],[11,10,9,12,7,0,1,5,2,3,4,6,8],[8,6,4,3,2,5,1,0,7,12,9,10,11,13],[13,11,10,9,12,8,14,6,4,3,2,5,1,0,7]]) (by kernel_rfl) (by kernel_rfl) (lD (OL.loadOn (us:=(Qi false c)) (tv (T.op 0 0) Y) Y Qbx Y7 (lb Y) Y) Y Y (mD (rd 2 Qb d) Y Y (mD (rd 1 Qj ws) Y Y (mD (tN i) Y Y ?_))))))))
  obtain ⟨x1,hx1⟩:∃x,ws[i]? =some x:=⟨_,List.getElem?_eq_getElem (by omega)⟩
  have hz1:=QeI (z:=ByteArray.size) hx1
  refine fD (OF.indexAddrR (row:=(Qj false x1)) (i:=i) (tv (rd 1 Qj ws) Y) (tv (tN i) Y) Y (Qu _ hx1) Jm Ji if9) Y Y (lD (OL.loadR1 (t:=(tS x1)) (tv (T.rp [(tS x1)]) Y) Y ZG) Y Y (VRunD.quiet (bi:= [4,3,2,5,1,0]) Y VWant.always Y Y Y bn (cS (vc (tv (T.agg (Qi false c)) Y) (vc (tv (rd 2 Qb d) Y) (vc (tv (tS x1) Y) vn))) (LendL.cons (lg okeClue) (lp Y (lp Y ln))) (Qe3 (n+0) c d x1 (by first | assumption | omega) (by first | assumption | omega) (by first | assumption | omega)) Y Y) (mD (tB (decide (JP c d x1))) Y Y ?_)))
  refine gw (JP c d x1) (fun fhg23_2=> ?_) fun fhg23_2=> ?_
  ·refine VRunD.free Y (VWant.on Y Y (dy fhg23_2)) Y (OF.move (tv (T.os 1 1 0 (((Zp c d (ws.take i)).map (Qj true)).length)) Y)) ?_
   refine VRunD.free Y (VWant.on Y Y (dy fhg23_2)) Y (OF.move (tv (rd 1 Qj ws) Y)) (VRunD.free Y (VWant.on Y Y (dy fhg23_2)) Y (OF.move (tv (tN i) Y)) (VRunD.free Y (VWant.on Y Y (dy fhg23_2)) Y (OF.indexAddrR (row:=(Qj false x1)) (i:=i) (tv (rd 1 Qj ws) Y) (tv (tN i) Y) Y (Qu _ hx1) Jm Ji if9) (VRunD.look Y (VWant.on Y Y (dy fhg23_2)) Y (OL.loadR1 (t:=(tS x1)) (tv (T.rp [(tS x1)]) Y) Y ZG) (VRunD.quiet (bi:= [11,10,9,12,7,0,1,5,2,3,4,6,8]) Y (VWant.on Y Y (dy fhg23_2)) Y Y Y bn (cS (us:= [(rd 1 Qj (Zp c d (ws.take i))),(tS x1)]) (vc (tv (T.os 1 1 0 (((Zp c d (ws.take i)).map (Qj true)).length)) Y) (vc (tv (tS x1) Y) vn)) (LendL.cons (Lend.os Y Y (okStr.fzMap _ _)) (lp Y ln)) (Qb6 (n+24) (Zp c d (ws.take i)) x1 (by first | assumption | omega)) Y Y) (VRunD.free Y (VWant.on Y Y (dy fhg23_2)) Y (QU (tv (tB (decide (x1∈(Zp c d (ws.take i))))) Y)) (fD (OF.pickT (VEv.tmpB Y (dy fhg23_2)) (tv (tB (!(decide (x1∈(Zp c d (ws.take i)))))) Y)) Y Y (VRunD.nil (tn ?_))))))))
   refine cn (x1∈(Zp c d (ws.take i))) Y (fun fhc1=> ?_) fun fhc1=> ?_
   ·refine VRun.region ?_
    refine mO (T.os 1 1 0 (((Zp c d (ws.take i)).map (Qj true)).length)) Y (mO (rd 1 Qj ws) Y (mO (tN i) Y (fO (OF.indexAddrR (row:=(Qj false x1)) (i:=i) (tv (rd 1 Qj ws) Y) (tv (tN i) Y) Y (Qu _ hx1) Jm Ji if9) (lO (OL.loadR1 (t:=(tS x1)) (tv (T.rp [(tS x1)]) Y) Y ZG) (kO (OM.buildSlice (l:= [(tS x1)]) (VEvp.cons (tv (tS x1) Y) VEvp.nil) Y (by decide) (bc (nofun) bn) (bc ((bc (Y) bn)) bn) (bc (Y) bn) Jm zo9 (by kernel_rfl) Y (by rw [Ji];decide) Ji (Nat.le_of_ble_eq_true Y)) (cO (B.append (rows:=((Zp c d (ws.take i)).map (Qj true))) (rows2:= [[(tS x1)]]) (rows3:=((Zp c d (ws.take i)++ [x1]).map (Qj true))) (VDst.own (tv (T.os 1 1 0 (((Zp c d (ws.take i)).map (Qj true)).length)) Y) Y Y) (VSrc.own (tv (T.os 1 2 0 1) Y) Y Y Jm (bc (bc Y bn) bn)) (by decide) Jm Ji (by decide) zo9 Y (of_decide_eq_true (by kernel_rfl)) (by first | omega | (simp only [List.length_map];omega) | (simp only [List.length_map,List.length_append,List.length_cons,List.length_nil,List.length_replicate,List.length_set,List.length_drop,List.length_take,Zk] at *;omega)) ((List.map_append (f:=Qj true) (l₁:=Zp c d (ws.take i)) (l₂:= [x1])).symm)) (aO (T.os 1 3 0 (((Zp c d (ws.take i)++ [x1]).map (Qj true)).length)) Y (VRunO.nil (vinB.n (tn (VRun.region ?_)))))))))))
    refine mO (tN i) Y (fO (QB (tv (tN i) Y) (VEv.int .i64 1) (by omega)) (aO (tN (i+1)) Y (VRunO.nil (tn ?_))))
    have he3:(Zp c d (ws.take i)++ [x1])=Zp c d (ws.take (i+1)):=by first | rfl | rfl | (exact Qio hx1 fhg23_2 fhc1) | (exact Qib hx1 fhc1) | (exact Qko hx1 fhg23_2) | (simp;done) | omega
    refine ⟨(i+1:Nat),?_,?_,Wk.mk (fun k=>if k=1 then 3 else k) ?_ ?_ ?_⟩
    ·first | trivial | omega | (simp;done) | exact ⟨by omega,hI'.2⟩
    ·first | omega | (simp only [];omega) | (show _<_;omega) | (simp;omega)
    ·exact (b2 (b2 (b2 (b2 (bc ⟨(congrArg (fun l_=>T.os 1 3 0 (List.map (Qj true) l_).length) he3),rfl⟩ (b2 bn))))))
    ·exact (b3 (bc ⟨(congrArg (fun l_=>some (Obj.rows 1 (List.map (Qj true) l_))) he3),(lb Y),rfl⟩ bn))
    ·exact nd Y
   refine sk (vinB.n (tn (VRun.region (mO (tN i) Y (fO (QB (tv (tN i) Y) (VEv.int .i64 1) (by omega)) (aO (tN (i+1)) Y (VRunO.nil (tn ?_))))))))
   have he4:Zp c d (ws.take i)=Zp c d (ws.take (i+1)):=by first | rfl | rfl | (exact Qio hx1 fhg23_2 fhc1) | (exact Qib hx1 fhc1) | (exact Qko hx1 fhg23_2) | (simp;done) | omega
   refine ⟨(i+1:Nat),?_,?_,Wk.mk (fun k=>k) ?_ ?_ ?_⟩
   ·first | trivial | omega | (simp;done) | exact ⟨by omega,hI'.2⟩
   ·first | omega | (simp only [];omega) | (show _<_;omega) | (simp;omega)
   ·exact (b2 (b2 (b2 (b2 (bc ⟨(congrArg (fun l_=>T.os 1 1 0 (List.map (Qj true) l_).length) he4),rfl⟩ (b2 bn))))))
   ·exact (b3 (bc ⟨(congrArg (fun l_=>some (Obj.rows 1 (List.map (Qj true) l_))) he4),(lb Y),rfl⟩ bn))
   ·exact nd Y
  refine oD Y Y (dz fhg23_2) Y (oD Y Y (dz fhg23_2) Y (oD Y Y (dz fhg23_2) Y (oD Y Y (dz fhg23_2) Y (oD Y Y (dz fhg23_2) Y (oD Y Y (dz fhg23_2) Y (oD Y Y (dz fhg23_2) Y (fD (OF.pickF (VEv.tmpB Y (dz fhg23_2)) (VEv.bool false)) Y Y (VRunD.nil (tn (cf Y (sk ?_)))))))))))
  refine vinB.n (tn (VRun.region (mO (tN i) Y (fO (QB (tv (tN i) Y) (VEv.int .i64 1) (by omega)) (aO (tN (i+1)) Y (VRunO.nil (tn ?_)))))))
  have he5:Zp c d (ws.take i)=Zp c d (ws.take (i+1)):=by first | rfl | rfl | (exact Qio hx1 fhg23_2 fhc1) | (exact Qib hx1 fhc1) | (exact Qko hx1 fhg23_2) | (simp;done) | omega
  refine ⟨(i+1:Nat),?_,?_,Wk.mk (fun k=>k) ?_ ?_ ?_⟩
  ·first | trivial | omega | (simp;done) | exact ⟨by omega,hI'.2⟩
  ·first | omega | (simp only [];omega) | (show _<_;omega) | (simp;omega)
  ·exact (b2 (b2 (b2 (b2 (bc ⟨(congrArg (fun l_=>T.os 1 1 0 (List.map (Qj true) l_).length) he5),rfl⟩ (b2 bn))))))
  ·exact (b3 (bc ⟨(congrArg (fun l_=>some (Obj.rows 1 (List.map (Qj true) l_))) he5),(lb Y),rfl⟩ bn))
  ·exact nd Y
 refine VRun.exit (vthn.e (vthn.e (vinB.e (tn (sr (mO (T.os 1 1 0 (((Zp c d (ws.take i)).map (Qj true)).length)) Y (aO (T.os 1 1 0 (((Zp c d (ws.take i)).map (Qj true)).length)) Y (nt (rt ?_)))))))))
 refine vfin.eq (r':=(T.sl true 1 ((Zp c d (ws.take i)).map (Qj true)))) ?_ (vfin.r (VRes.tmp (t:=(T.os 1 1 0 (((Zp c d (ws.take i)).map (Qj true)).length))) Y VRes.nil) (Give.os Y Y (okStr.cleanMap _)))
 refine congrArg (fun l_=>T.sl true 1 (List.map (Qj true) l_)) ?_
 rw [List.take_of_length_le (by omega)]
theorem QcU (n:Nat) (w:ByteArray) (c:D.Clue) (d:List D.Meaning) (hz:QO c≤mx) (hd:d.length≤Zk) (hw:w.size≤maxLen):Pure (Qo Tryz.prog (n+19)) 131 [(tS w),(T.rp [(tI c.Sense),(rd 4 Qd c.Play)]),(T.rp [(rd 2 Qb d)])] (tB (decide (JP c d w))):=by
 refine Pure.intro (rs:= [ResultVar.tmp 4]) Tryz.func131 Y Y Y (E0:= [(0,(tS w)),(1,(T.rp [(tI c.Sense),(rd 4 Qd c.Play)])),(2,(T.rp [(rd 2 Qb d)]))]) Y ?_
 obtain ⟨hlim,hmx,hmax⟩:=Qz
 refine sr (fO (OF.assign (VEv.bool false)) (nt (sr (lO (OL.loadRn (us:=(Qi false c)) (tv (T.rp [(tI c.Sense),(rd 4 Qd c.Play)]) Y) Qbx Y7 (lb Y) Y) (lO (OL.loadR1 (t:=(rd 2 Qb d)) (tv (T.rp [(rd 2 Qb d)]) Y) Y QpI) (mO (tS w) Y (cO (cS (vc (tv (T.agg (Qi false c)) Y) (vc (tv (rd 2 Qb d) Y) (vc (tv (tS w) Y) vn))) (LendL.cons (lg okeClue) (lp Y (lp Y ln))) (QeX (n+0) c d w (by first | assumption | omega) (by first | assumption | omega) (by first | assumption | omega)) Y Y) (aO (tB (decide (JP c d w))) Y (nt (rt ?_))))))))))
 exact vb Y Y
theorem JR (n:Nat) (ws:List ByteArray) (c:D.Clue) (d:List D.Meaning) (hz:QO c≤mx) (hd:d.length≤Zk) (hw:zL ByteArray.size ws≤mx):Pure (Qo Tryz.prog (n+20)) 130 [(rd 1 Qj ws),(T.fn 131 [(T.rp [(tI c.Sense),(rd 4 Qd c.Play)]),(T.rp [(rd 2 Qb d)])])] (T.sl true 1 ((Yp c d ws).map (Qj true))):=by
 refine Pure.intro (rs:= [ResultVar.tmp 4]) Tryz.func130 Y Y Y (E0:= [(0,(rd 1 Qj ws)),(1,(T.fn 131 [(T.rp [(tI c.Sense),(rd 4 Qd c.Play)]),(T.rp [(rd 2 Qb d)])]))]) Y ?_
 obtain ⟨hlim,hmx,hmax⟩:=Qz
 have hlw:=Q1 (z:=ByteArray.size) ws
 refine sr (fO (OF.assign VEv.nils) (nt (sr (fO (OF.assign VEv.nils) (nt (sq (sr (mO (rd 1 Qj ws) Y (lO (B.lenR (m:=ws.length) (tv (rd 1 Qj ws) Y) Jm (List.length_map ..)) (fO (OF.move (VEv.int .i64 0)) (nt ?_)))))))))))
 refine VRun.block (VRun.wk (Wk.phantom 5 1 Y) ?_)
 have he1: []=((Yp c d (ws.take 0)).map (Qj true)):=by first | rfl | (rw [Qgu hx1 (by assumption)]) | (rw [Qgi hx1 (by assumption)]) | (simp;done) | omega
 refine VRun.loop (A:=Nat) (fun s_=> [(1,(T.fn 131 [(T.rp [(tI c.Sense),(rd 4 Qd c.Play)]),(T.rp [(rd 2 Qb d)])])),(4,T.nils),(5,(T.os 1 0 0 (((Yp c d (ws.take s_)).map (Qj true)).length))),(8,(rd 1 Qj ws)),(9,(tN ws.length)),(10,(tN s_))]) (fun s_=>QV [(0,(Obj.rows 1 ((Yp c d (ws.take s_)).map (Qj true))))]) 1 (fun s_=>s_≤ws.length) (fun s_=>ws.length - s_) (0:Nat) ?_ (Wk.mk (fun k=>k) ?_ ?_ ?_) ?_
 ·first | trivial | (simp;done) | omega | (constructor<;>simp)
 ·exact (b2 (b2 (bc ⟨(congrArg (fun n_=>T.os 1 0 0 n_) (show 0=((Yp c d (ws.take 0)).map (Qj true)).length from (by first | rfl | (simp only [List.length_map];omega) | (simp only [List.length_map,List.length_set,List.length_append,List.length_take,List.length_replicate,List.length_cons,List.length_nil];omega)))),rfl⟩ (b2 (b2 (b2 bn))))))
 ·exact (bc ⟨(congrArg (fun l_=>some (Obj.rows 1 l_)) he1),(lb Y),rfl⟩ bn)
 ·exact nd Y
 rintro i (hI':i≤ws.length)
 show VRun _ _ _ [(1,(T.fn 131 [(T.rp [(tI c.Sense),(rd 4 Qd c.Play)]),(T.rp [(rd 2 Qb d)])])),(4,T.nils),(5,(T.os 1 0 0 (((Yp c d (ws.take i)).map (Qj true)).length))),(8,(rd 1 Qj ws)),(9,(tN ws.length)),(10,(tN i))] (QV [(0,(Obj.rows 1 ((Yp c d (ws.take i)).map (Qj true))))]) 1 _
 have hI1:=hI'
 have hI2:=Qgf c d (ws.take i)
 have hI3:(ws.take i).length≤ws.length:=by rw [List.length_take];omega
 refine sr (fO (Q9 (tv (tN i) Y) (tv (tN ws.length) Y)) (nt (sq ?_)))
 refine cd (i<ws.length) Y (fun fhc0=> ?_) fun fhc0=> ?_
 ·refine sk ?_
  refine tn (sq (VRun.block (sr ?_)))
  obtain ⟨x1,hx1⟩:∃x,ws[i]? =some x:=⟨_,List.getElem?_eq_getElem (by omega)⟩
  have hz1:=QeI (z:=ByteArray.size) hx1
  refine fO (OF.indexAddrR (row:=(Qj false x1)) (i:=i) (tv (rd 1 Qj ws) Y) (tv (tN i) Y) Y (Qu _ hx1) Jm Ji if9) (lO (OL.loadR1 (t:=(tS x1)) (tv (T.rp [(tS x1)]) Y) Y ZG) (aO (tS x1) Y (nt (sr (mO (T.fn 131 [(T.rp [(tI c.Sense),(rd 4 Qd c.Play)]),(T.rp [(rd 2 Qb d)])]) Y (mO (tS x1) Y (cO (OC.callv (us:= [(tS x1)]) (ucaps:= [(T.rp [(tI c.Sense),(rd 4 Qd c.Play)]),(T.rp [(rd 2 Qb d)])]) (r:=(tB (decide (JP c d x1)))) (r':=(tB (decide (JP c d x1)))) (objs:= []) Y Y (vc (tv (tS x1) Y) vn) (Zg Y) (Zg Y) (QcU (n+0) x1 c d (by first | assumption | omega) (by first | assumption | omega) (by first | assumption | omega)) Y) (nt ?_))))))))
  refine cd (JP c d x1) Y (fun fhc1=> ?_) fun fhc1=> ?_
  ·refine VRun.region ?_
   refine mO (T.os 1 0 0 (((Yp c d (ws.take i)).map (Qj true)).length)) Y (mO (tS x1) Y (kO (OM.buildSlice (l:= [(tS x1)]) (VEvp.cons (tv (tS x1) Y) VEvp.nil) Y (by decide) (bc (nofun) bn) (bc ((bc (Y) bn)) bn) (bc (Y) bn) Jm zo9 (by kernel_rfl) Y (by rw [Ji];decide) Ji (Nat.le_of_ble_eq_true Y)) (cO (B.append (rows:=((Yp c d (ws.take i)).map (Qj true))) (rows2:= [[(tS x1)]]) (rows3:=((Yp c d (ws.take i)++ [x1]).map (Qj true))) (VDst.own (tv (T.os 1 0 0 (((Yp c d (ws.take i)).map (Qj true)).length)) Y) Y Y) (VSrc.own (tv (T.os 1 1 0 1) Y) Y Y Jm (bc (bc Y bn) bn)) (by decide) Jm Ji (by decide) zo9 Y (of_decide_eq_true (by kernel_rfl)) (by first | omega | (simp only [List.length_map];omega) | (simp only [List.length_map,List.length_append,List.length_cons,List.length_nil,List.length_replicate,List.length_set,List.length_drop,List.length_take,Zk] at *;omega)) ((List.map_append (f:=Qj true) (l₁:=Yp c d (ws.take i)) (l₂:= [x1])).symm)) (aO (T.os 1 2 0 (((Yp c d (ws.take i)++ [x1]).map (Qj true)).length)) Y (VRunO.nil (vinB.n (tn (VRun.region (fO (QB (tv (tN i) Y) (VEv.int .i64 1) (by omega)) (mO (tN (i+1)) Y (VRunO.nil ?_)))))))))))
   refine tn ?_
   have he2:(Yp c d (ws.take i)++ [x1])=Yp c d (ws.take (i+1)):=by first | rfl | (rw [Qgu hx1 (by assumption)]) | (rw [Qgi hx1 (by assumption)]) | (simp;done) | omega
   refine ⟨(i+1:Nat),?_,?_,Wk.mk (fun k=>if k=0 then 2 else k) ?_ ?_ ?_⟩
   ·first | trivial | omega | (simp;done) | exact ⟨by omega,hI'.2⟩
   ·first | omega | (simp only [];omega) | (show _<_;omega) | (simp;omega)
   ·exact (b2 (b2 (bc ⟨(congrArg (fun l_=>T.os 1 2 0 (List.map (Qj true) l_).length) he2),rfl⟩ (b2 (b2 (b2 bn))))))
   ·exact (bc ⟨(congrArg (fun l_=>some (Obj.rows 1 (List.map (Qj true) l_))) he2),(lb Y),rfl⟩ bn)
   ·exact nd Y
  refine sk (vinB.n (tn (VRun.region (fO (QB (tv (tN i) Y) (VEv.int .i64 1) (by omega)) (mO (tN (i+1)) Y (VRunO.nil (tn ?_)))))))
  have he3:Yp c d (ws.take i)=Yp c d (ws.take (i+1)):=by first | rfl | (rw [Qgu hx1 (by assumption)]) | (rw [Qgi hx1 (by assumption)]) | (simp;done) | omega
  refine ⟨(i+1:Nat),?_,?_,Wk.mk (fun k=>k) ?_ ?_ ?_⟩
  ·first | trivial | omega | (simp;done) | exact ⟨by omega,hI'.2⟩
  ·first | omega | (simp only [];omega) | (show _<_;omega) | (simp;omega)
  ·exact (b2 (b2 (bc ⟨(congrArg (fun l_=>T.os 1 0 0 (List.map (Qj true) l_).length) he3),rfl⟩ (b2 (b2 (b2 bn))))))
  ·exact (bc ⟨(congrArg (fun l_=>some (Obj.rows 1 (List.map (Qj true) l_))) he3),(lb Y),rfl⟩ bn)
  ·exact nd Y
 refine VRun.exit (vthn.e (vthn.e (vinB.e (tn (sr (mO (T.os 1 0 0 (((Yp c d (ws.take i)).map (Qj true)).length)) Y (aO (T.os 1 0 0 (((Yp c d (ws.take i)).map (Qj true)).length)) Y (nt (rt ?_)))))))))
 refine vfin.eq (r':=(T.sl true 1 ((Yp c d (ws.take i)).map (Qj true)))) ?_ (vfin.r (VRes.tmp (t:=(T.os 1 0 0 (((Yp c d (ws.take i)).map (Qj true)).length))) Y VRes.nil) (Give.os Y Y (okStr.cleanMap _)))
 refine congrArg (fun l_=>T.sl true 1 (List.map (Qj true) l_)) ?_
 rw [List.take_of_length_le (by omega)]
theorem Qd3 (n:Nat) (c:D.Clue) (d:List D.Meaning) (ws:List ByteArray) (hz:QO c≤mx) (hd:d.length≤Zk) (hw:zL ByteArray.size ws≤mx):Pure (Qo Tryz.prog (n+21)) 97 [(T.agg (Qi false c)),(rd 2 Qb d),(rd 1 Qj ws)] (T.sl true 1 ((Zp c d ws).map (Qj true))):=by
 refine Pure.intro (rs:= [ResultVar.tmp 6]) Tryz.func97 Y Y Y (E0:= [(0,(T.agg (Qi false c))),(1,(rd 2 Qb d)),(2,(rd 1 Qj ws))]) Y ?_
 obtain ⟨hlim,hmx,hmax⟩:=Qz
 have hlw:=Q1 (z:=ByteArray.size) ws
 have hfl:=Qgf c d ws
 refine sr (kO (B.box (ts:=(Qi false c)) (tv (T.agg (Qi false c)) Y) nofun Y) (kO (B.box (ts:= [(rd 2 Qb d)]) (tv (rd 2 Qb d) Y) nofun Y) (fO (OF.assign VEv.nils) (nt (sr (mO (rd 1 Qj ws) Y (fO (OF.makeFunc (vc (tv (T.op 0 0) Y) (vc (tv (T.op 1 0) Y) vn))) (cO (OC.callF (us:= [(rd 1 Qj ws),(T.fn 131 [(T.rp (Qi false c)),(T.rp [(rd 2 Qb d)])])]) (r':=(T.os 1 2 0 (((Yp c d ws).map (Qj true)).length))) (objs:= [(Obj.rows 1 ((Yp c d ws).map (Qj true)))]) Y (vc (tv (rd 1 Qj ws) Y) (vc (tv (T.fn 131 [(T.op 0 0),(T.op 1 0)]) Y) vn)) (lp Y (LendL.cons (Lend.fn (LendL.cons (Lend.op (us':=(Qi false c)) (ts:=(Qi false c)) Y (LendL.cons (Lend.pl Y) (LendL.cons (Lend.pl Y) ln)) (lb Y) Y) (LendL.cons (Lend.op (us':= [(rd 2 Qb d)]) (ts:= [(rd 2 Qb d)]) Y (LendL.cons (Lend.pl Y) ln) (lb Y) Y) ln))) ln)) (JR (n+0) ws c d (by first | assumption | omega) (by first | assumption | omega) (by first | assumption | omega)) Y) (cO (OC.callF (us:= [(rd 1 Qj (Yp c d ws))]) (r':=(T.os 1 3 0 (((ZA (Yp c d ws)).map (Qj true)).length))) (objs:= [(Obj.rows 1 ((ZA (Yp c d ws)).map (Qj true)))]) Y (vc (tv (T.os 1 2 0 (((Yp c d ws).map (Qj true)).length)) Y) vn) (LendL.cons (Lend.os Y Y (okStr.fzMap _ _)) ln) (QiT (n+17) (Yp c d ws) (by first | assumption | omega)) Y) (aO (T.os 1 3 0 (((ZA (Yp c d ws)).map (Qj true)).length)) Y (nt ?_)))))))))))
 refine rt ?_
 refine vfin.eq (r':=(T.sl true 1 ((ZA (Yp c d ws)).map (Qj true)))) ?_ (vfin.r (VRes.tmp (t:=(T.os 1 3 0 (((ZA (Yp c d ws)).map (Qj true)).length))) Y VRes.nil) (Give.os Y Y (okStr.cleanMap _)))
 refine congrArg (fun l_=>T.sl true 1 (List.map (Qj true) l_)) ?_
 first | rfl | (exact Qt (by omega)) | (symm;rw [decide_eq_false_iff_not];omega) | (symm;rw [decide_eq_true_eq];omega) | (simp_all;done)
section
variable {c : D.Clue} {d : List D.Meaning} {ws : List ByteArray} {a : ByteArray}
theorem JD (h:¬((1≤c.Sense∧c.Sense≤99)∧QJ c.Play)):1=Qau c d ws a:=(if_pos h).symm
theorem Jr (h:(1≤c.Sense∧c.Sense≤99)∧QJ c.Play) (h1:¬D.Meaning.mk a c.Sense∈d):2=Qau c d ws a:=by rw [Qau,if_neg (not_not_intro h),if_pos h1]
theorem JC (h:(1≤c.Sense∧c.Sense≤99)∧QJ c.Play) (h1:D.Meaning.mk a c.Sense∈d) (h2:¬J5 c.Play a):3=Qau c d ws a:=by rw [Qau,if_neg (not_not_intro h),if_neg (not_not_intro h1),if_pos h2]
theorem JB (h:(1≤c.Sense∧c.Sense≤99)∧QJ c.Play) (h1:D.Meaning.mk a c.Sense∈d) (h2:J5 c.Play a) (h3:a∈uW c.Play):4=Qau c d ws a:=by rw [Qau,if_neg (not_not_intro h),if_neg (not_not_intro h1),if_neg (not_not_intro h2),if_pos h3]
theorem Ye (h:(1≤c.Sense∧c.Sense≤99)∧QJ c.Play) (h1:D.Meaning.mk a c.Sense∈d) (h2:J5 c.Play a) (h3:¬a∈uW c.Play) (h4:¬Zp c d ws= [a]):5=Qau c d ws a:=by rw [Qau,if_neg (not_not_intro h),if_neg (not_not_intro h1),if_neg (not_not_intro h2),if_neg h3,if_pos h4]
theorem Jv (h:(1≤c.Sense∧c.Sense≤99)∧QJ c.Play) (h1:D.Meaning.mk a c.Sense∈d) (h2:J5 c.Play a) (h3:¬a∈uW c.Play) (h4:Zp c d ws= [a]):0=Qau c d ws a:=by rw [Qau,if_neg (not_not_intro h),if_neg (not_not_intro h1),if_neg (not_not_intro h2),if_neg h3,if_neg (not_not_intro h4)]
end
theorem Qfk (n:Nat) (c:D.Clue) (d:List D.Meaning) (ws:List ByteArray) (a:ByteArray) (hz:QO c≤mx) (hd:d.length≤Zk) (hw:zL ByteArray.size ws≤mx) (ha:a.size≤maxLen):Pure (Qo Tryz.prog (n+27)) 56 [(T.agg (Qi false c)),(rd 2 Qb d),(rd 1 Qj ws),(tS a)] (tI (Qau c d ws a)):=by
 refine Pure.intro (rs:= [ResultVar.tmp 8]) Tryz.func56 Y Y Y (E0:= [(0,(T.agg (Qi false c))),(1,(rd 2 Qb d)),(2,(rd 1 Qj ws)),(3,(tS a))]) Y ?_
 obtain ⟨hlim,hmx,hmax⟩:=Qz
 have hlw:=Q1 (z:=ByteArray.size) ws
 have hzz:=hz
 simp only [QO] at hzz
 have hlp:=Q1 (z:=Zc) c.Play
 have hu:=QhC c.Play
 have hn:=Qgh c d ws
 refine sr (kO (B.box (ts:=(Qi false c)) (tv (T.agg (Qi false c)) Y) nofun Y) (fO (OF.assign (VEv.int .i64 0)) (nt (sq (VRun.block (sr (lO (OL.loadOn (us:=(Qi false c)) (tv (T.op 0 0) Y) Y Qbx Y7 (lb Y) Y) (cO (cS (vc (tv (T.agg (Qi false c)) Y) vn) (LendL.cons (lg okeClue) ln) (QaN (n+21) c (by first | assumption | omega)) Y Y) (fO (QU (tv (tB (decide ((1≤c.Sense∧c.Sense≤99)∧QJ c.Play))) Y)) (aO (tB (!(decide ((1≤c.Sense∧c.Sense≤99)∧QJ c.Play)))) Y (nt ?_)))))))))))
 refine cn ((1≤c.Sense∧c.Sense≤99)∧QJ c.Play) Y (fun fhc0=> ?_) fun fhc0=> ?_
 ·refine sr ?_
  refine fO (OF.assign (VEv.int .i64 1)) (nt (rt (vinB.r (tr (vi (n':=1) Y ?_)))))
  first | exact JD fhc0 | exact Jr fhc0 fhc1 | exact JC fhc0 fhc1 fhc2 | exact JB fhc0 fhc1 fhc2 fhc3 | exact Ye fhc0 fhc1 fhc2 fhc3 (fun e=>fhg40_1 (congrArg List.length e)) | exact Ye fhc0 fhc1 fhc2 fhc3 (fun e=>fhc4 ((Jf fhg40_1 hx1).1 e)) | exact Jv fhc0 fhc1 fhc2 fhc3 ((Jf fhg40_1 hx1).2 fhc4)
 refine sr (mO (rd 2 Qb d) Y (mO (tS a) Y (lf (tI c.Sense) Y Qbz Y Y QS (cO (cS (vc (tv (rd 2 Qb d) Y) (vc (tv (tS a) Y) (vc (tv (tI c.Sense) Y) vn))) (Zg Y) (QbF (n+25) d a c.Sense (by first | assumption | omega)) Y Y) (fO (QU (tv (tB (decide (D.Meaning.mk a c.Sense∈d))) Y)) (aO (tB (!(decide (D.Meaning.mk a c.Sense∈d)))) Y (nt ?_)))))))
 refine cn (D.Meaning.mk a c.Sense∈d) Y (fun fhc1=> ?_) fun fhc1=> ?_
 ·refine sr ?_
  refine fO (OF.assign (VEv.int .i64 2)) (nt (rt (vinB.r (tr (vi (n':=2) Y ?_)))))
  first | exact JD fhc0 | exact Jr fhc0 fhc1 | exact JC fhc0 fhc1 fhc2 | exact JB fhc0 fhc1 fhc2 fhc3 | exact Ye fhc0 fhc1 fhc2 fhc3 (fun e=>fhg40_1 (congrArg List.length e)) | exact Ye fhc0 fhc1 fhc2 fhc3 (fun e=>fhc4 ((Jf fhg40_1 hx1).1 e)) | exact Jv fhc0 fhc1 fhc2 fhc3 ((Jf fhg40_1 hx1).2 fhc4)
 refine sr (lf (rd 4 Qd c.Play) Y Qac Y Y QgP (mO (tS a) Y (cO (cS (vc (tv (rd 4 Qd c.Play) Y) (vc (tv (tS a) Y) vn)) (Zg Y) (Qdv (n+2) c.Play a (by first | assumption | omega) (by first | assumption | omega)) Y Y) (fO (QU (tv (tB (decide (J5 c.Play a))) Y)) (aO (tB (!(decide (J5 c.Play a)))) Y (nt ?_))))))
 refine cn (J5 c.Play a) Y (fun fhc2=> ?_) fun fhc2=> ?_
 ·refine sr ?_
  refine fO (OF.assign (VEv.int .i64 3)) (nt (rt (vinB.r (tr (vi (n':=3) Y ?_)))))
  first | exact JD fhc0 | exact Jr fhc0 fhc1 | exact JC fhc0 fhc1 fhc2 | exact JB fhc0 fhc1 fhc2 fhc3 | exact Ye fhc0 fhc1 fhc2 fhc3 (fun e=>fhg40_1 (congrArg List.length e)) | exact Ye fhc0 fhc1 fhc2 fhc3 (fun e=>fhc4 ((Jf fhg40_1 hx1).1 e)) | exact Jv fhc0 fhc1 fhc2 fhc3 ((Jf fhg40_1 hx1).2 fhc4)
 refine sr (lf (rd 4 Qd c.Play) Y Qac Y Y QgP (cO (OC.callF (r':=(T.os 1 1 0 (((uW c.Play).map (Qj true)).length))) (objs:= [(Obj.rows 1 ((uW c.Play).map (Qj true)))]) Y (vc (tv (rd 4 Qd c.Play) Y) vn) (Zg Y) (Qen (n+25) c.Play (by first | assumption | omega)) Y) (mO (tS a) Y (cO (cS (us:= [(rd 1 Qj (uW c.Play)),(tS a)]) (vc (tv (T.os 1 1 0 (((uW c.Play).map (Qj true)).length)) Y) (vc (tv (tS a) Y) vn)) (LendL.cons (Lend.os Y Y (okStr.fzMap _ _)) (lp Y ln)) (Qb6 (n+25) (uW c.Play) a (by first | assumption | omega)) Y Y) (aO (tB (decide (a∈(uW c.Play)))) Y (nt ?_))))))
 refine cd (a∈(uW c.Play)) Y (fun fhc3=> ?_) fun fhc3=> ?_
 ·refine sr ?_
  refine fO (OF.assign (VEv.int .i64 4)) (nt (rt (vinB.r (tr (vi (n':=4) Y ?_)))))
  first | exact JD fhc0 | exact Jr fhc0 fhc1 | exact JC fhc0 fhc1 fhc2 | exact JB fhc0 fhc1 fhc2 fhc3 | exact Ye fhc0 fhc1 fhc2 fhc3 (fun e=>fhg40_1 (congrArg List.length e)) | exact Ye fhc0 fhc1 fhc2 fhc3 (fun e=>fhc4 ((Jf fhg40_1 hx1).1 e)) | exact Jv fhc0 fhc1 fhc2 fhc3 ((Jf fhg40_1 hx1).2 fhc4)
 refine sk (vinB.n (tn (sr (lO (OL.loadOn (us:=(Qi false c)) (tv (T.op 0 0) Y) Y Qbx Y7 (lb Y) Y) (mO (rd 2 Qb d) Y (mO (rd 1 Qj ws) Y (cO (OC.callF (r':=(T.os 1 2 0 (((Zp c d ws).map (Qj true)).length))) (objs:= [(Obj.rows 1 ((Zp c d ws).map (Qj true)))]) Y (vc (tv (T.agg (Qi false c)) Y) (vc (tv (rd 2 Qb d) Y) (vc (tv (rd 1 Qj ws) Y) vn))) (LendL.cons (lg okeClue) (lp Y (lp Y ln))) (Qet (n+0) c d ws (by first | assumption | omega) (by first | assumption | omega) (by first | assumption | omega)) Y) (aO (T.os 1 2 0 (((Zp c d ws).map (Qj true)).length)) Y (nt (sq (sr ?_)))))))))))
 refine mO (T.os 1 2 0 (((Zp c d ws).map (Qj true)).length)) Y (lO (B.lenO (m:=(Zp c d ws).length) (tv (T.os 1 2 0 (((Zp c d ws).map (Qj true)).length)) Y) Jm (List.length_map ..)) (fO (B.neq (c:=(!(decide ((Zp c d ws).length=1)))) (tv (tN ((Zp c d ws).length)) Y) (VEv.int .i64 1) (Qo5 (by omega))) (mO (tB (!(decide ((Zp c d ws).length=1)))) Y ?_)))
 refine gn ((Zp c d ws).length=1) (fun fhg40_1=> ?_) fun fhg40_1=> ?_
 ·refine QD 5 3 false 40 (ny fhg40_1) Y Y Y ?_
  refine fO (OF.pickT (VEv.tmpB Y (ny fhg40_1)) (VEv.bool true)) (nt (ct Y (sr (fO (OF.assign (VEv.int .i64 5)) (nt (rt (tr (vi (n':=5) Y ?_))))))))
  first | exact JD fhc0 | exact Jr fhc0 fhc1 | exact JC fhc0 fhc1 fhc2 | exact JB fhc0 fhc1 fhc2 fhc3 | exact Ye fhc0 fhc1 fhc2 fhc3 (fun e=>fhg40_1 (congrArg List.length e)) | exact Ye fhc0 fhc1 fhc2 fhc3 (fun e=>fhc4 ((Jf fhg40_1 hx1).1 e)) | exact Jv fhc0 fhc1 fhc2 fhc3 ((Jf fhg40_1 hx1).2 fhc4)
 refine gF (nz fhg40_1) Y Y (OF.move (tv (T.os 1 2 0 (((Zp c d ws).map (Qj true)).length)) Y)) ?_
 obtain ⟨x1,hx1⟩:∃x,(Zp c d ws)[0]? =some x:=⟨_,List.getElem?_eq_getElem (by omega)⟩
 refine gF (nz fhg40_1) Y Y (B.indexAddrO (i:=0) (tv (T.os 1 2 0 (((Zp c d ws).map (Qj true)).length)) Y) (VEv.int .i64 0) Y (by first | omega | (simp only [List.length_map];omega) | (simp only [List.length_map,List.length_append,List.length_cons,List.length_nil,List.length_replicate,List.length_set,List.length_drop,List.length_take,Zk] at *;omega)) Jm Ji if9) (gL (nz fhg40_1) Y Y (OL.loadP1 (t:=(tS x1)) (row:=(Qj true x1)) (tv (T.orp 1 2 0 0) Y) Y (Qu _ hx1) Y Y ZG) (gF (nz fhg40_1) Y Y (OF.move (tv (tS a) Y)) (gF (nz fhg40_1) Y Y (B.sneq (c:=(!(decide (x1=a)))) (tv (tS x1) Y) (tv (tS a) Y) Y) (fO (OF.pickF (VEv.tmpB Y (nz fhg40_1)) (tv (tB (!(decide (x1=a)))) Y)) (nt ?_)))))
 refine cn (x1=a) Y (fun fhc4=> ?_) fun fhc4=> ?_
 ·refine sr ?_
  refine fO (OF.assign (VEv.int .i64 5)) (nt (rt (tr (vi (n':=5) Y ?_))))
  first | exact JD fhc0 | exact Jr fhc0 fhc1 | exact JC fhc0 fhc1 fhc2 | exact JB fhc0 fhc1 fhc2 fhc3 | exact Ye fhc0 fhc1 fhc2 fhc3 (fun e=>fhg40_1 (congrArg List.length e)) | exact Ye fhc0 fhc1 fhc2 fhc3 (fun e=>fhc4 ((Jf fhg40_1 hx1).1 e)) | exact Jv fhc0 fhc1 fhc2 fhc3 ((Jf fhg40_1 hx1).2 fhc4)
 refine sk (tn (sr (fO (OF.assign (VEv.int .i64 0)) (nt (rt (vi (n':=0) Y ?_))))))
 first | exact JD fhc0 | exact Jr fhc0 fhc1 | exact JC fhc0 fhc1 fhc2 | exact JB fhc0 fhc1 fhc2 fhc3 | exact Ye fhc0 fhc1 fhc2 fhc3 (fun e=>fhg40_1 (congrArg List.length e)) | exact Ye fhc0 fhc1 fhc2 fhc3 (fun e=>fhc4 ((Jf fhg40_1 hx1).1 e)) | exact Jv fhc0 fhc1 fhc2 fhc3 ((Jf fhg40_1 hx1).2 fhc4)
theorem Qfi (n:Nat) (c:D.Clue) (d:List D.Meaning) (ws:List ByteArray) (a:ByteArray) (hz:QO c≤mx) (hd:d.length≤Zk) (hw:zL ByteArray.size ws≤mx) (ha:a.size≤maxLen):Pure (Qo Tryz.prog (n+22)) 61 [(T.agg (Qi false c)),(rd 2 Qb d),(rd 1 Qj ws),(tS a)] (tI (Qau c d ws a)):=by
 refine Pure.intro (rs:= [ResultVar.tmp 8]) Tryz.func61 Y Y Y (E0:= [(0,(T.agg (Qi false c))),(1,(rd 2 Qb d)),(2,(rd 1 Qj ws)),(3,(tS a))]) Y ?_
 obtain ⟨hlim,hmx,hmax⟩:=Qz
 have hlw:=Q1 (z:=ByteArray.size) ws
 have hzz:=hz
 simp only [QO] at hzz
 have hlp:=Q1 (z:=Zc) c.Play
 have hu:=QhC c.Play
 have hn:=Qgh c d ws
 have h1a: [a].length=1:=rfl
 refine sr (kO (B.box (ts:=(Qi false c)) (tv (T.agg (Qi false c)) Y) nofun Y) (fO (OF.assign (VEv.int .i64 0)) (nt (sq (VRun.block (sr (lO (OL.loadOn (us:=(Qi false c)) (tv (T.op 0 0) Y) Y Qbx Y7 (lb Y) Y) (cO (cS (vc (tv (T.agg (Qi false c)) Y) vn) (LendL.cons (lg okeClue) ln) (QaS (n+17) c (by first | assumption | omega)) Y Y) (fO (QU (tv (tB (decide ((1≤c.Sense∧c.Sense≤99)∧QJ c.Play))) Y)) (aO (tB (!(decide ((1≤c.Sense∧c.Sense≤99)∧QJ c.Play)))) Y (nt ?_)))))))))))
 refine cn ((1≤c.Sense∧c.Sense≤99)∧QJ c.Play) Y (fun fhc0=> ?_) fun fhc0=> ?_
 ·refine sr ?_
  refine fO (OF.assign (VEv.int .i64 1)) (nt (rt (vinB.r (tr (vi (n':=1) Y ?_)))))
  first | exact JD fhc0 | exact Jr fhc0 fhc1 | exact JC fhc0 fhc1 fhc2 | exact JB fhc0 fhc1 fhc2 fhc3 | exact Ye fhc0 fhc1 fhc2 fhc3 fhc4 | exact Jv fhc0 fhc1 fhc2 fhc3 fhc4
 refine sr (mO (rd 2 Qb d) Y (mO (tS a) Y (lf (tI c.Sense) Y Qbz Y Y QS (cO (cS (vc (tv (rd 2 Qb d) Y) (vc (tv (tS a) Y) (vc (tv (tI c.Sense) Y) vn))) (Zg Y) (QbE (n+18) d a c.Sense (by first | assumption | omega)) Y Y) (fO (QU (tv (tB (decide (D.Meaning.mk a c.Sense∈d))) Y)) (aO (tB (!(decide (D.Meaning.mk a c.Sense∈d)))) Y (nt ?_)))))))
 refine cn (D.Meaning.mk a c.Sense∈d) Y (fun fhc1=> ?_) fun fhc1=> ?_
 ·refine sr ?_
  refine fO (OF.assign (VEv.int .i64 2)) (nt (rt (vinB.r (tr (vi (n':=2) Y ?_)))))
  first | exact JD fhc0 | exact Jr fhc0 fhc1 | exact JC fhc0 fhc1 fhc2 | exact JB fhc0 fhc1 fhc2 fhc3 | exact Ye fhc0 fhc1 fhc2 fhc3 fhc4 | exact Jv fhc0 fhc1 fhc2 fhc3 fhc4
 refine sr (lf (rd 4 Qd c.Play) Y Qac Y Y QgP (mO (tS a) Y (cO (cS (vc (tv (rd 4 Qd c.Play) Y) (vc (tv (tS a) Y) vn)) (Zg Y) (Qds (n+4) c.Play a (by first | assumption | omega) (by first | assumption | omega)) Y Y) (fO (QU (tv (tB (decide (J5 c.Play a))) Y)) (aO (tB (!(decide (J5 c.Play a)))) Y (nt ?_))))))
 refine cn (J5 c.Play a) Y (fun fhc2=> ?_) fun fhc2=> ?_
 ·refine sr ?_
  refine fO (OF.assign (VEv.int .i64 3)) (nt (rt (vinB.r (tr (vi (n':=3) Y ?_)))))
  first | exact JD fhc0 | exact Jr fhc0 fhc1 | exact JC fhc0 fhc1 fhc2 | exact JB fhc0 fhc1 fhc2 fhc3 | exact Ye fhc0 fhc1 fhc2 fhc3 fhc4 | exact Jv fhc0 fhc1 fhc2 fhc3 fhc4
 refine sr (lf (rd 4 Qd c.Play) Y Qac Y Y QgP (cO (OC.callF (r':=(T.os 1 1 0 (((uW c.Play).map (Qj true)).length))) (objs:= [(Obj.rows 1 ((uW c.Play).map (Qj true)))]) Y (vc (tv (rd 4 Qd c.Play) Y) vn) (Zg Y) (Qev (n+20) c.Play (by first | assumption | omega)) Y) (mO (tS a) Y (cO (cS (us:= [(rd 1 Qj (uW c.Play)),(tS a)]) (vc (tv (T.os 1 1 0 (((uW c.Play).map (Qj true)).length)) Y) (vc (tv (tS a) Y) vn)) (LendL.cons (Lend.os Y Y (okStr.fzMap _ _)) (lp Y ln)) (Z1 (n+19) (uW c.Play) a (by first | assumption | omega)) Y Y) (aO (tB (decide (a∈(uW c.Play)))) Y (nt ?_))))))
 refine cd (a∈(uW c.Play)) Y (fun fhc3=> ?_) fun fhc3=> ?_
 ·refine sr ?_
  refine fO (OF.assign (VEv.int .i64 4)) (nt (rt (vinB.r (tr (vi (n':=4) Y ?_)))))
  first | exact JD fhc0 | exact Jr fhc0 fhc1 | exact JC fhc0 fhc1 fhc2 | exact JB fhc0 fhc1 fhc2 fhc3 | exact Ye fhc0 fhc1 fhc2 fhc3 fhc4 | exact Jv fhc0 fhc1 fhc2 fhc3 fhc4
 refine sr (lO (OL.loadOn (us:=(Qi false c)) (tv (T.op 0 0) Y) Y Qbx Y7 (lb Y) Y) (mO (rd 2 Qb d) Y (mO (rd 1 Qj ws) Y (cO (OC.callF (r':=(T.os 1 2 0 (((Zp c d ws).map (Qj true)).length))) (objs:= [(Obj.rows 1 ((Zp c d ws).map (Qj true)))]) Y (vc (tv (T.agg (Qi false c)) Y) (vc (tv (rd 2 Qb d) Y) (vc (tv (rd 1 Qj ws) Y) vn))) (LendL.cons (lg okeClue) (lp Y (lp Y ln))) (Qd3 (n+0) c d ws (by first | assumption | omega) (by first | assumption | omega) (by first | assumption | omega)) Y) (mO (tS a) Y (kO (OM.buildSlice (l:= [(tS a)]) (VEvp.cons (tv (tS a) Y) VEvp.nil) Y (by decide) (bc (nofun) bn) (bc ((bc (Y) bn)) bn) (bc (Y) bn) Jm zo9 (by kernel_rfl) Y (by rw [Ji];decide) Ji (Nat.le_of_ble_eq_true Y)) (cO (cS (us:= [(rd 1 Qj (Zp c d ws)),(T.sl false 1 [[(tS a)]])]) (vc (tv (T.os 1 2 0 (((Zp c d ws).map (Qj true)).length)) Y) (vc (tv (T.os 1 3 0 1) Y) vn)) (LendL.cons (Lend.os Y Y (okStr.fzMap _ _)) (LendL.cons (Lend.os Y Y Y) ln)) (JM (n+20) (Zp c d ws) [a] (by first | assumption | omega) (by first | assumption | omega)) Y Y) (fO (QU (tv (tB (decide ((Zp c d ws)= [a]))) Y)) (aO (tB (!(decide ((Zp c d ws)= [a])))) Y (nt ?_))))))))))
 refine cn ((Zp c d ws)= [a]) Y (fun fhc4=> ?_) fun fhc4=> ?_
 ·refine sr ?_
  refine fO (OF.assign (VEv.int .i64 5)) (nt (rt (vinB.r (tr (vi (n':=5) Y ?_)))))
  first | exact JD fhc0 | exact Jr fhc0 fhc1 | exact JC fhc0 fhc1 fhc2 | exact JB fhc0 fhc1 fhc2 fhc3 | exact Ye fhc0 fhc1 fhc2 fhc3 fhc4 | exact Jv fhc0 fhc1 fhc2 fhc3 fhc4
 refine sk (vinB.n (tn (sr (fO (OF.assign (VEv.int .i64 0)) (nt (rt (vi (n':=0) Y ?_)))))))
 first | exact JD fhc0 | exact Jr fhc0 fhc1 | exact JC fhc0 fhc1 fhc2 | exact JB fhc0 fhc1 fhc2 fhc3 | exact Ye fhc0 fhc1 fhc2 fhc3 fhc4 | exact Jv fhc0 fhc1 fhc2 fhc3 fhc4
noncomputable section
def Qby (x:D.Issue) (c:D.Correction) (d:List D.Meaning) (ws:List ByteArray):Prop:=((ZP x∧c.Issue=x.Number)∧0≤c.Slot∧c.Slot<((x.Puzzle.Clues.length:Nat):Int))∧Qau c.Clue d ws (Zi x.Puzzle.Grid x.Fill c.Slot)=0
instance (x:D.Issue) (c:D.Correction) (d:List D.Meaning) (ws:List ByteArray):Decidable (Qby x c d ws):=Classical.propDecidable _
theorem QnA {x:D.Issue} {c:D.Correction} {d:List D.Meaning} {ws:List ByteArray} (h:(¬ZP x∨¬c.Issue=x.Number)∨¬(0≤c.Slot∧c.Slot≤((x.Puzzle.Clues.length:Nat):Int) - 1)):¬Qby x c d ws:=fun h_=>by
 have q:=h_.1.2
 rcases h with (h | h) | h
 ·exact h h_.1.1.1
 ·exact h h_.1.1.2
 ·exact h ⟨q.1,by omega⟩
theorem QnF {x:D.Issue} {c:D.Correction} {d:List D.Meaning} {ws:List ByteArray} (h:¬((¬ZP x∨¬c.Issue=x.Number)∨¬(0≤c.Slot∧c.Slot≤((x.Puzzle.Clues.length:Nat):Int) - 1))):Qau c.Clue d ws (Zi x.Puzzle.Grid x.Fill c.Slot)=0↔Qby x c d ws:=by
 have a1:ZP x:=Classical.byContradiction fun e=>h (.inl (.inl e))
 have a2:c.Issue=x.Number:=Classical.byContradiction fun e=>h (.inl (.inr e))
 have a3:0≤c.Slot∧c.Slot≤((x.Puzzle.Clues.length:Nat):Int) - 1:=Classical.byContradiction fun e=>h (.inr e)
 exact ⟨fun h_=>⟨⟨⟨a1,a2⟩,a3.1,by omega⟩,h_⟩,fun h_=>h_.2⟩
end
theorem Qe5 (n:Nat) (x:D.Issue) (c:D.Correction) (d:List D.Meaning) (ws:List ByteArray) (hx:QZ x≤mx) (hc:QC c≤mx) (hd:d.length≤Zk) (hw:zL ByteArray.size ws≤mx):Pure (Qo Tryz.prog (n+28)) 19 [(T.agg (QQ false x)),(T.agg (Qv false c)),(rd 2 Qb d),(rd 1 Qj ws)] (tB (decide (Qby x c d ws))):=by
 refine Pure.intro (rs:= [ResultVar.tmp 8]) Tryz.func19 Y Y Y (E0:= [(0,(T.agg (QQ false x))),(1,(T.agg (Qv false c))),(2,(rd 2 Qb d)),(3,(rd 1 Qj ws))]) Y ?_
 obtain ⟨hlim,hmx,hmax⟩:=Qz
 have hxx:=hx
 simp only [QZ,QT,ZR] at hxx
 have hcc:=hc
 simp only [QC] at hcc
 have hlc:=Q1 (z:=QO) x.Puzzle.Clues
 have hsz:=J1 x.Puzzle.Grid x.Fill c.Slot
 refine sr (kO (B.box (ts:=(QQ false x)) (tv (T.agg (QQ false x)) Y) nofun Y) (kO (B.box (ts:=(Qv false c)) (tv (T.agg (Qv false c)) Y) nofun Y) (fO (OF.assign (VEv.bool false)) (nt (sq (sr (lO (OL.loadOn (us:=(QQ false x)) (tv (T.op 0 0) Y) Y Qli Qi0 (lb Y) Y) (cO (cS (vc (tv (T.agg (QQ false x)) Y) vn) (LendL.cons (lg Qa6) ln) (QfV (n+15) x (by first | assumption | omega)) Y Y) (fO (QU (tv (tB (decide (ZP x))) Y)) (mO (tB (!(decide (ZP x)))) Y ?_))))))))))
 refine VRunO.joinB 6 [13,14,15,16,17] 18 (tB (decide ((¬(ZP x))∨(¬(c.Issue=x.Number))))) ?_ ?_
 ·refine gn (ZP x) (fun fhg12_1=> ?_) fun fhg12_1=> ?_
  ·refine QD 5 3 false 12 (ny fhg12_1) Y Y Y ?_
   refine fO (OF.pickT (VEv.tmpB Y (ny fhg12_1)) (VEv.bool true)) (VRunO.nil ?_)
   exact jq (congrArg T.bool (kOT fhg12_1)) (js Y (js Y (js Y (js Y (js Y (jn))))))
  ·refine Yk (tI c.Issue) (nz fhg12_1) Y Y Y Y QfS Y Y QS ?_
   refine Yk (tI x.Number) (nz fhg12_1) Y Y Y Y Qc7 Y Y QS (gF (nz fhg12_1) Y Y (xne (tv (tI c.Issue) Y) (tv (tI x.Number) Y)) (fO (OF.pickF (VEv.tmpB Y (nz fhg12_1)) (tv (tB (!(decide (c.Issue=x.Number)))) Y)) (VRunO.nil ?_)))
   exact jq (congrArg T.bool (kOF (not_not_intro fhg12_1) dN)) (js Y (js Y (js Y (js Y (js Y (jn))))))
 refine mO (tB (decide ((¬(ZP x))∨(¬(c.Issue=x.Number))))) Y ?_
 refine VRunO.joinB 10 [20,21,22,23,24,25,26,27,28] 29 (tB (decide (((¬(ZP x))∨(¬(c.Issue=x.Number)))∨(¬(0≤c.Slot∧c.Slot≤(((x.Puzzle.Clues.length:Nat):Int) - 1)))))) ?_ ?_
 ·refine gw ((¬(ZP x))∨(¬(c.Issue=x.Number))) (fun fhg19_2=> ?_) fun fhg19_2=> ?_
  ·refine QD 9 10 false 19 (dy fhg19_2) Y Y Y ?_
   refine fO (OF.pickT (VEv.tmpB Y (dy fhg19_2)) (VEv.bool true)) (VRunO.nil ?_)
   exact jq (congrArg T.bool (kOT fhg19_2)) (js Y (js Y (js Y (js Y (js Y (js Y (js Y (js Y (js Y (jn))))))))))
  ·refine Yk (tI c.Slot) (dz fhg19_2) Y Y Y Y Qdc Y Y QS ?_
   refine gF (dz fhg19_2) Y Y (OF.fieldAddrO (tv (T.op 0 0) Y) Qbt) (Yk (rd 2 Qi x.Puzzle.Clues) (dz fhg19_2) Y Y Y Y Qal Y Y QgO (gL (dz fhg19_2) Y Y (B.lenR (m:=x.Puzzle.Clues.length) (tv (rd 2 Qi x.Puzzle.Clues) Y) U37 (List.length_map ..)) (gF (dz fhg19_2) Y Y (B.sub (n:=(((x.Puzzle.Clues.length:Nat):Int) - 1)) (tv (tN x.Puzzle.Clues.length) Y) (VEv.int .i64 1) (by first | rfl | (rw [Qs (by omega)];omega) | (rw [Qs (by omega)];done))) (VRunO.chain (VWant.on Y Y (dz fhg19_2)) (cS (vc (tv (tI c.Slot) Y) (vc (VEv.int .i64 0) (vc (tv (tI (((x.Puzzle.Clues.length:Nat):Int) - 1)) Y) vn))) (Zg Y) (Q2 (n+26) c.Slot 0 (((x.Puzzle.Clues.length:Nat):Int) - 1)) Y Y) (gF (dz fhg19_2) Y Y (QU (tv (tB (decide (0≤c.Slot∧c.Slot≤(((x.Puzzle.Clues.length:Nat):Int) - 1)))) Y)) (fO (OF.pickF (VEv.tmpB Y (dz fhg19_2)) (tv (tB (!(decide (0≤c.Slot∧c.Slot≤(((x.Puzzle.Clues.length:Nat):Int) - 1))))) Y)) (VRunO.nil ?_)))))))
   exact jq (congrArg T.bool (kOF fhg19_2 dN)) (js Y (js Y (js Y (js Y (js Y (js Y (js Y (js Y (js Y (jn))))))))))
 refine nt ?_
 refine cd (((¬(ZP x))∨(¬(c.Issue=x.Number)))∨(¬(0≤c.Slot∧c.Slot≤(((x.Puzzle.Clues.length:Nat):Int) - 1)))) Y (fun fhc0=> ?_) fun fhc0=> ?_
 ·refine sr ?_
  refine fO (OF.assign (VEv.bool false)) (nt (rt (tr (vb (b':=false) Y ?_))))
  first | exact Jp (QnA fhc0) | exact Qt (QnF fhc0)
 refine sk (tn (sq (VRun.draw (B:= [[],[0],[],[],[],[4],[4,5],[],[7],[],[9],[9,10,7,8,5,4,6],[6,4,5,8,7,10,9,11,3,2,0,1],[1,0,2,3,11,9,10,7,8,5,4,6,12],[12,6,4,5,8,7,10,9,11,3,2,0,1,13]]) (by kernel_rfl) (by kernel_rfl) (fD (OF.fieldAddrO (tv (T.op 1 0) Y) QfN) Y Y (lD (OL.loadOn (us:=(Qi false c.Clue)) (tv (T.op 1 2) Y) Y Qbx Y7 (lb Y) Y) Y Y (mD (rd 2 Qb d) Y Y (mD (rd 1 Qj ws) Y Y (fD (OF.fieldAddrO (tv (T.op 0 0) Y) Qbt) Y Y (fD (OF.fieldAddrO (tv (T.op 0 1) Y) Jy) Y Y (lD (OL.loadOn (us:=(Qc false x.Puzzle.Grid)) (tv (T.op 0 1) Y) Y Q6 Q0 (lb Y) Y) Y Y (fD (OF.fieldAddrO (tv (T.op 0 0) Y) QcT) Y Y ?_)))))))))))
 refine lD (OL.loadO1 (t:=(tS x.Fill)) (tv (T.op 0 7) Y) Y Y ZG) Y Y (fD (OF.fieldAddrO (tv (T.op 1 0) Y) Qdc) Y Y (lD (OL.loadO1 (t:=(tI c.Slot)) (tv (T.op 1 1) Y) Y Y QS) Y Y (VRunD.quiet (bi:= [9,10,7,8,5,4,6]) Y VWant.always Y Y Y bn (cS (vc (tv (T.agg (Qc false x.Puzzle.Grid)) Y) (vc (tv (tS x.Fill) Y) (vc (tv (tI c.Slot) Y) vn))) (LendL.cons (lg Qx) (lp Y (lp Y ln))) (Qab (n+22) x.Puzzle.Grid x.Fill c.Slot (by first | assumption | omega) (by first | assumption | omega)) Y Y) (VRunD.quiet (bi:= [6,4,5,8,7,10,9,11,3,2,0,1]) Y VWant.always Y Y Y bn (cS (vc (tv (T.agg (Qi false c.Clue)) Y) (vc (tv (rd 2 Qb d) Y) (vc (tv (rd 1 Qj ws) Y) (vc (tv (tS (Zi x.Puzzle.Grid x.Fill c.Slot)) Y) vn)))) (LendL.cons (lg okeClue) (lp Y (lp Y (lp Y ln)))) (Qfk (n+0) c.Clue d ws (Zi x.Puzzle.Grid x.Fill c.Slot) (by first | assumption | omega) (by first | assumption | omega) (by first | assumption | omega) (by first | assumption | omega)) Y Y) (fD (Yn (tv (tI (Qau c.Clue d ws (Zi x.Puzzle.Grid x.Fill c.Slot))) Y) (VEv.int .i64 0)) Y Y (fD (OF.assign (tv (tB (decide (Qau c.Clue d ws (Zi x.Puzzle.Grid x.Fill c.Slot)=0))) Y)) Y Y (VRunD.nil (tn (rt (vb (b':=(decide (Qau c.Clue d ws (Zi x.Puzzle.Grid x.Fill c.Slot)=0))) Y ?_))))))))))
 first | exact Jp (QnA fhc0) | exact Qt (QnF fhc0)
theorem Qe8 (n:Nat) (x:D.Issue) (c:D.Correction) (d:List D.Meaning) (ws:List ByteArray) (hx:QZ x≤mx) (hc:QC c≤mx) (hd:d.length≤Zk) (hw:zL ByteArray.size ws≤mx):Pure (Qo Tryz.prog (n+45)) 23 [(T.agg (QQ false x)),(T.agg (Qv false c)),(rd 2 Qb d),(rd 1 Qj ws)] (tB (decide (Qby x c d ws))):=by
 refine Pure.intro (rs:= [ResultVar.tmp 8]) Tryz.func23 Y Y Y (E0:= [(0,(T.agg (QQ false x))),(1,(T.agg (Qv false c))),(2,(rd 2 Qb d)),(3,(rd 1 Qj ws))]) Y ?_
 obtain ⟨hlim,hmx,hmax⟩:=Qz
 have hxx:=hx
 simp only [QZ,QT,ZR] at hxx
 have hcc:=hc
 simp only [QC] at hcc
 have hlc:=Q1 (z:=QO) x.Puzzle.Clues
 have hsz:=J1 x.Puzzle.Grid x.Fill c.Slot
 refine sr (kO (B.box (ts:=(QQ false x)) (tv (T.agg (QQ false x)) Y) nofun Y) (kO (B.box (ts:=(Qv false c)) (tv (T.agg (Qv false c)) Y) nofun Y) (fO (OF.assign (VEv.bool false)) (nt (sq (VRun.draw (B:= [[],[0],[0,1],[1,0,2],[2,0,1,3],[1,0,2],[2,0,1,5],[5,6,3,1,0,2,4],[4,3,6,5,7,1,0,2],[2,0,1,7,5,6,3,4,8],[8,4,3,6,5,7,1,0,2,9],[9,2,0,1,7,5,6,3,4,8,10],[8,4,3,6,5,7,1,0,2,9],[9,2,0,1,7,5,6,3,4,8,12],[12,8,4,3,6,5,7,1,0,2,9,13],[13,9,2,0,1,7,5,6,3,4,8,12,14],[14,12,13,15,10,8,4,3,6,5,7,1,0,2,9,11],[11,10,15,13,12,14,16,8,4,3,6,5,7,1,0,2,9],[9,2,0,1,7,5,6,3,4,8,16,14,12,13,15,10,11,17],[17,11,10,15,13,12,14,16,8,4,3,6,5,7,1,0,2,9,18],[18,9,2,0,1,7,5,6,3,4,8,16,14,12,13,15,10,11,17,19],[17,11,10,15,13,12,14,16,8,4,3,6,5,7,1,0,2,9,18],[17,11,10,15,13,12,14,16,8,4,3,6,5,7,1,0,2,9,18],[17,11,10,15,13,12,14,16,8,4,3,6,5,7,1,0,2,9,18],[18,9,2,0,1,7,5,6,3,4,8,16,14,12,13,15,10,11,17,23],[23,17,11,10,15,13,12,14,16,8,4,3,6,5,7,1,0,2,9,18,24],[17,11,10,15,13,12,14,16,8,4,3,6,5,7,1,0,2,9,18],[18,9,2,0,1,7,5,6,3,4,8,16,14,12,13,15,10,11,17,26],[17,11,10,15,13,12,14,16,8,4,3,6,5,7,1,0,2,9,18],[18,9,2,0,1,7,5,6,3,4,8,16,14,12,13,15,10,11,17,28],[28,29,26,27,24,18,9,2,0,1,7,5,6,3,4,8,16,14,12,13,15,10,11,17,23,25],[25,23,24,27,26,29,28,30,22,21,19,17,11,10,15,13,12,14,16,8,4,3,6,5,7,1,0,2,9,18,20],[20,18,9,2,0,1,7,5,6,3,4,8,16,14,12,13,15,10,11,17,19,21,22,30,28,29,26,27,24,23,25,31],[31,25,23,24,27,26,29,28,30,22,21,19,20,32,17,11,10,15,13,12,14,16,8,4,3,6,5,7,1,0,2,9,18],[18,9,2,0,1,7,5,6,3,4,8,16,14,12,13,15,10,11,17,32,20,19,21,22,30,28,29,26,27,24,23,25,31,33]]) (by kernel_rfl) (by kernel_rfl) (lD (OL.loadOn (us:=(QQ false x)) (tv (T.op 0 0) Y) Y Qli Qi0 (lb Y) Y) Y Y (VRunD.quiet (bi:= [0]) Y VWant.always Y Y Y bn (cS (vc (tv (T.agg (QQ false x)) Y) vn) (LendL.cons (lg Qa6) ln) (Qgc (n+0) x (by first | assumption | omega)) Y Y) (mD (tB (decide (ZP x))) Y Y ?_)))))))))
 refine gw (ZP x) (fun fhg11_1=> ?_) fun fhg11_1=> ?_
 ·refine VRunD.free Y (VWant.on Y Y (dy fhg11_1)) Y (OF.fieldAddrO (tv (T.op 1 0) Y) QfS) ?_
  refine VRunD.look Y (VWant.on Y Y (dy fhg11_1)) Y (OL.loadO1 (t:=(tI c.Issue)) (tv (T.op 1 0) Y) Y Y QS) (VRunD.free Y (VWant.on Y Y (dy fhg11_1)) Y (OF.fieldAddrO (tv (T.op 0 0) Y) Qc7) (VRunD.look Y (VWant.on Y Y (dy fhg11_1)) Y (OL.loadO1 (t:=(tI x.Number)) (tv (T.op 0 0) Y) Y Y QS) (VRunD.free Y (VWant.on Y Y (dy fhg11_1)) Y (Yn (tv (tI c.Issue) Y) (tv (tI x.Number) Y)) (fD (OF.pickT (VEv.tmpB Y (dy fhg11_1)) (tv (tB (decide (c.Issue=x.Number))) Y)) Y Y (mD (tB (decide (c.Issue=x.Number))) Y Y ?_)))))
  refine gw (c.Issue=x.Number) (fun fhg18_2=> ?_) fun fhg18_2=> ?_
  ·refine VRunD.free Y (VWant.on Y Y (dy fhg18_2)) Y (OF.fieldAddrO (tv (T.op 1 0) Y) Qdc) ?_
   refine VRunD.look Y (VWant.on Y Y (dy fhg18_2)) Y (OL.loadO1 (t:=(tI c.Slot)) (tv (T.op 1 1) Y) Y Y QS) (VRunD.free Y (VWant.on Y Y (dy fhg18_2)) Y (OF.fieldAddrO (tv (T.op 0 0) Y) Qbt) (VRunD.free Y (VWant.on Y Y (dy fhg18_2)) Y (OF.fieldAddrO (tv (T.op 0 1) Y) Qal) (VRunD.look Y (VWant.on Y Y (dy fhg18_2)) Y (OL.loadO1 (t:=(rd 2 Qi x.Puzzle.Clues)) (tv (T.op 0 4) Y) Y Y QgO) (VRunD.look Y (VWant.on Y Y (dy fhg18_2)) Y (B.lenR (m:=x.Puzzle.Clues.length) (tv (rd 2 Qi x.Puzzle.Clues) Y) U37 (List.length_map ..)) (VRunD.quiet (bi:= [14,12,13,15,10,8,4,3,6,5,7,1,0,2,9,11]) Y (VWant.on Y Y (dy fhg18_2)) Y Y Y bn (cS (vc (tv (tI c.Slot) Y) (vc (tv (tN x.Puzzle.Clues.length) Y) vn)) (Zg Y) (YK (n+43) c.Slot ((x.Puzzle.Clues.length:Nat):Int)) Y Y) (fD (OF.pickT (VEv.tmpB Y (dy fhg18_2)) (tv (tB (decide (0≤c.Slot∧c.Slot<((x.Puzzle.Clues.length:Nat):Int)))) Y)) Y Y (mD (tB (decide (0≤c.Slot∧c.Slot<((x.Puzzle.Clues.length:Nat):Int)))) Y Y ?_)))))))
   refine gw (0≤c.Slot∧c.Slot<((x.Puzzle.Clues.length:Nat):Int)) (fun fhg27_3=> ?_) fun fhg27_3=> ?_
   ·refine VRunD.free Y (VWant.on Y Y (dy fhg27_3)) Y (OF.fieldAddrO (tv (T.op 1 0) Y) QfN) ?_
    refine VRunD.look Y (VWant.on Y Y (dy fhg27_3)) Y (OL.loadOn (us:=(Qi false c.Clue)) (tv (T.op 1 2) Y) Y Qbx Y7 (lb Y) Y) (VRunD.free Y (VWant.on Y Y (dy fhg27_3)) Y (OF.move (tv (rd 2 Qb d) Y)) (VRunD.free Y (VWant.on Y Y (dy fhg27_3)) Y (OF.move (tv (rd 1 Qj ws) Y)) (VRunD.free Y (VWant.on Y Y (dy fhg27_3)) Y (OF.fieldAddrO (tv (T.op 0 0) Y) Qbt) (VRunD.free Y (VWant.on Y Y (dy fhg27_3)) Y (OF.fieldAddrO (tv (T.op 0 1) Y) Jy) (VRunD.look Y (VWant.on Y Y (dy fhg27_3)) Y (OL.loadOn (us:=(Qc false x.Puzzle.Grid)) (tv (T.op 0 1) Y) Y Q6 Q0 (lb Y) Y) (VRunD.free Y (VWant.on Y Y (dy fhg27_3)) Y (OF.fieldAddrO (tv (T.op 0 0) Y) QcT) (VRunD.look Y (VWant.on Y Y (dy fhg27_3)) Y (OL.loadO1 (t:=(tS x.Fill)) (tv (T.op 0 7) Y) Y Y ZG) (VRunD.free Y (VWant.on Y Y (dy fhg27_3)) Y (OF.fieldAddrO (tv (T.op 1 0) Y) Qdc) (VRunD.look Y (VWant.on Y Y (dy fhg27_3)) Y (OL.loadO1 (t:=(tI c.Slot)) (tv (T.op 1 1) Y) Y Y QS) (VRunD.quiet (bi:= [28,29,26,27,24,18,9,2,0,1,7,5,6,3,4,8,16,14,12,13,15,10,11,17,23,25]) Y (VWant.on Y Y (dy fhg27_3)) Y Y Y bn (cS (vc (tv (T.agg (Qc false x.Puzzle.Grid)) Y) (vc (tv (tS x.Fill) Y) (vc (tv (tI c.Slot) Y) vn))) (LendL.cons (lg Qx) (lp Y (lp Y ln))) (Qdi (n+38) x.Puzzle.Grid x.Fill c.Slot (by first | assumption | omega) (by first | assumption | omega)) Y Y) (VRunD.quiet (bi:= [25,23,24,27,26,29,28,30,22,21,19,17,11,10,15,13,12,14,16,8,4,3,6,5,7,1,0,2,9,18,20]) Y (VWant.on Y Y (dy fhg27_3)) Y Y Y bn (cS (vc (tv (T.agg (Qi false c.Clue)) Y) (vc (tv (rd 2 Qb d) Y) (vc (tv (rd 1 Qj ws) Y) (vc (tv (tS (Zi x.Puzzle.Grid x.Fill c.Slot)) Y) vn)))) (LendL.cons (lg okeClue) (lp Y (lp Y (lp Y ln)))) (Qfi (n+22) c.Clue d ws (Zi x.Puzzle.Grid x.Fill c.Slot) (by first | assumption | omega) (by first | assumption | omega) (by first | assumption | omega) (by first | assumption | omega)) Y Y) ?_)))))))))))
    refine VRunD.free Y (VWant.on Y Y (dy fhg27_3)) Y (Yn (tv (tI (Qau c.Clue d ws (Zi x.Puzzle.Grid x.Fill c.Slot))) Y) (VEv.int .i64 0)) (fD (OF.pickT (VEv.tmpB Y (dy fhg27_3)) (tv (tB (decide (Qau c.Clue d ws (Zi x.Puzzle.Grid x.Fill c.Slot)=0))) Y)) Y Y (fD (OF.assign (tv (tB (decide (Qau c.Clue d ws (Zi x.Puzzle.Grid x.Fill c.Slot)=0))) Y)) Y Y (VRunD.nil (tn (rt (vb (b':=(decide (Qau c.Clue d ws (Zi x.Puzzle.Grid x.Fill c.Slot)=0))) Y ?_))))))
    first | exact Qt ⟨fun h_=>⟨⟨⟨fhg11_1,fhg18_2⟩,fhg27_3⟩,h_⟩,fun h_=>h_.2⟩ | exact Jp (fun h_=>fhg27_3 h_.1.2) | exact Jp (fun h_=>fhg18_2 h_.1.1.2) | exact Jp (fun h_=>fhg11_1 h_.1.1.1)
   refine oD Y Y (dz fhg27_3) Y (oD Y Y (dz fhg27_3) Y (oD Y Y (dz fhg27_3) Y (oD Y Y (dz fhg27_3) Y (oD Y Y (dz fhg27_3) Y (oD Y Y (dz fhg27_3) Y (oD Y Y (dz fhg27_3) Y (oD Y Y (dz fhg27_3) Y (oD Y Y (dz fhg27_3) Y (oD Y Y (dz fhg27_3) Y (oD Y Y (dz fhg27_3) Y (oD Y Y (dz fhg27_3) Y ?_)))))))))))
   refine oD Y Y (dz fhg27_3) Y (oD Y Y (dz fhg27_3) Y (fD (OF.pickF (VEv.tmpB Y (dz fhg27_3)) (VEv.bool false)) Y Y (fD (OF.assign (tv (tB false) Y)) Y Y (VRunD.nil (tn (rt (vb (b':=false) Y ?_)))))))
   first | exact Qt ⟨fun h_=>⟨⟨⟨fhg11_1,fhg18_2⟩,fhg27_3⟩,h_⟩,fun h_=>h_.2⟩ | exact Jp (fun h_=>fhg27_3 h_.1.2) | exact Jp (fun h_=>fhg18_2 h_.1.1.2) | exact Jp (fun h_=>fhg11_1 h_.1.1.1)
  refine oD Y Y (dz fhg18_2) Y (oD Y Y (dz fhg18_2) Y (oD Y Y (dz fhg18_2) Y (oD Y Y (dz fhg18_2) Y (oD Y Y (dz fhg18_2) Y (oD Y Y (dz fhg18_2) Y (oD Y Y (dz fhg18_2) Y (fD (OF.pickF (VEv.tmpB Y (dz fhg18_2)) (VEv.bool false)) Y Y (mD (tB false) Y Y (VRunD.off Y (VWant.not (b:=false) Y Y Y) (VRunD.off Y (VWant.not (b:=false) Y Y Y) (VRunD.off Y (VWant.not (b:=false) Y Y Y) ?_)))))))))))
  refine VRunD.off Y (VWant.not (b:=false) Y Y Y) (VRunD.off Y (VWant.not (b:=false) Y Y Y) (VRunD.off Y (VWant.not (b:=false) Y Y Y) (VRunD.off Y (VWant.not (b:=false) Y Y Y) (VRunD.off Y (VWant.not (b:=false) Y Y Y) (VRunD.off Y (VWant.not (b:=false) Y Y Y) (VRunD.off Y (VWant.not (b:=false) Y Y Y) (VRunD.off Y (VWant.not (b:=false) Y Y Y) (VRunD.off Y (VWant.not (b:=false) Y Y Y) (VRunD.off Y (VWant.not (b:=false) Y Y Y) (VRunD.off Y (VWant.not (b:=false) Y Y Y) (fD (OF.pickF (tv (tB false) Y) (VEv.bool false)) Y Y ?_)))))))))))
  refine fD (OF.assign (tv (tB false) Y)) Y Y (VRunD.nil (tn (rt (vb (b':=false) Y ?_))))
  first | exact Qt ⟨fun h_=>⟨⟨⟨fhg11_1,fhg18_2⟩,fhg27_3⟩,h_⟩,fun h_=>h_.2⟩ | exact Jp (fun h_=>fhg27_3 h_.1.2) | exact Jp (fun h_=>fhg18_2 h_.1.1.2) | exact Jp (fun h_=>fhg11_1 h_.1.1.1)
 refine oD Y Y (dz fhg11_1) Y (oD Y Y (dz fhg11_1) Y (oD Y Y (dz fhg11_1) Y (oD Y Y (dz fhg11_1) Y (oD Y Y (dz fhg11_1) Y (fD (OF.pickF (VEv.tmpB Y (dz fhg11_1)) (VEv.bool false)) Y Y (mD (tB false) Y Y (VRunD.off Y (VWant.not (b:=false) Y Y Y) (VRunD.off Y (VWant.not (b:=false) Y Y Y) (VRunD.off Y (VWant.not (b:=false) Y Y Y) (VRunD.off Y (VWant.not (b:=false) Y Y Y) (VRunD.off Y (VWant.not (b:=false) Y Y Y) ?_)))))))))))
 refine VRunD.off Y (VWant.not (b:=false) Y Y Y) (VRunD.off Y (VWant.not (b:=false) Y Y Y) (fD (OF.pickF (tv (tB false) Y) (VEv.bool false)) Y Y (mD (tB false) Y Y (VRunD.off Y (VWant.not (b:=false) Y Y Y) (VRunD.off Y (VWant.not (b:=false) Y Y Y) (VRunD.off Y (VWant.not (b:=false) Y Y Y) (VRunD.off Y (VWant.not (b:=false) Y Y Y) (VRunD.off Y (VWant.not (b:=false) Y Y Y) (VRunD.off Y (VWant.not (b:=false) Y Y Y) (VRunD.off Y (VWant.not (b:=false) Y Y Y) (VRunD.off Y (VWant.not (b:=false) Y Y Y) ?_)))))))))))
 refine VRunD.off Y (VWant.not (b:=false) Y Y Y) (VRunD.off Y (VWant.not (b:=false) Y Y Y) (VRunD.off Y (VWant.not (b:=false) Y Y Y) (VRunD.off Y (VWant.not (b:=false) Y Y Y) (VRunD.off Y (VWant.not (b:=false) Y Y Y) (VRunD.off Y (VWant.not (b:=false) Y Y Y) (fD (OF.pickF (tv (tB false) Y) (VEv.bool false)) Y Y (fD (OF.assign (tv (tB false) Y)) Y Y (VRunD.nil (tn (rt (vb (b':=false) Y ?_)))))))))))
 first | exact Qt ⟨fun h_=>⟨⟨⟨fhg11_1,fhg18_2⟩,fhg27_3⟩,h_⟩,fun h_=>h_.2⟩ | exact Jp (fun h_=>fhg27_3 h_.1.2) | exact Jp (fun h_=>fhg18_2 h_.1.1.2) | exact Jp (fun h_=>fhg11_1 h_.1.1.1)
theorem QbB (n:Nat) (a0:D.Issue) (a1:D.Correction) (a2:List D.Meaning) (a3:List ByteArray) (g0:QjW a0) (g1:QbW a1) (g2:(a2.length≤maxLen∧∀y∈a2,Qdl y)) (g3:(a3.length≤maxLen∧∀y∈a3,y.size≤maxLen)):Pure (Qo Tryz.prog (n+46)) 4 [(T.agg (QQ false a0)),(T.agg (Qv false a1)),(rd 2 Qb a2),(rd 1 Qj a3)] (tB true):=by
 refine Pure.intro (rs:= [ResultVar.tmp 8]) Tryz.func4 Y Y Y (E0:= [(0,(T.agg (QQ false a0))),(1,(T.agg (Qv false a1))),(2,(rd 2 Qb a2)),(3,(rd 1 Qj a3))]) Y ?_
 obtain ⟨hlim,hmx,hmax⟩:=Qz
 have hl0_0:=Q1 (z:=QO) a0.Puzzle.Clues
 have hl0_1:=Q1 (z:=zI) a0.Puzzle.Seals
 have hl1_2:=Q1 (z:=Zc) a1.Clue.Play
 have hl2:=Q1 (z:=Za) a2
 have hl3:=Q1 (z:=ByteArray.size) a3
 refine sr (kO (B.box (ts:=(QQ false a0)) (tv (T.agg (QQ false a0)) Y) nofun Y) (kO (B.box (ts:=(Qv false a1)) (tv (T.agg (Qv false a1)) Y) nofun Y) (fO (OF.assign (VEv.bool false)) (nt (sr (fO (OF.assign (VEv.int .i64 1048576)) (nt (sr (lO (OL.loadOn (us:=(QQ false a0)) (tv (T.op 0 0) Y) Y QmM Qnd (lb Y) Y) (mO (tN 1048576) Y (cO (cS (vc (tv (T.agg (QQ false a0)) Y) (vc (tv (tN 1048576) Y) vn)) (LendL.cons (lg Qa6) (lp Y ln)) (Qgg (n+39) a0 1048576 (by first | exact g2.2 | exact g3.2 | exact QI _ _ _ _ | (simp only [QG];omega) | assumption | omega | (simp only [List.length_map];omega) | (simp only [List.length_map,List.length_append,List.length_cons,List.length_nil,List.length_replicate,List.length_set,List.length_drop,List.length_take,Zk] at *;omega)) (by first | exact g2.2 | exact g3.2 | exact QI _ _ _ _ | (simp only [QG];omega) | assumption | omega | (simp only [List.length_map];omega) | (simp only [List.length_map,List.length_append,List.length_cons,List.length_nil,List.length_replicate,List.length_set,List.length_drop,List.length_take,Zk] at *;omega)) (by first | exact g2.2 | exact g3.2 | exact QI _ _ _ _ | (simp only [QG];omega) | assumption | omega | (simp only [List.length_map];omega) | (simp only [List.length_map,List.length_append,List.length_cons,List.length_nil,List.length_replicate,List.length_set,List.length_drop,List.length_take,Zk] at *;omega))) Y Y) ?_)))))))))))
 refine aO (tI (Q5 (QZ a0) 1048576)) Y (nt (sq (sr (mO (tI (Q5 (QZ a0) 1048576)) Y (fO (xls (tv (tI (Q5 (QZ a0) 1048576)) Y) (VEv.int .i64 0)) (nt ?_))))))
 refine cd (Q5 (QZ a0) 1048576<0) Y (fun fhc0=> ?_) fun fhc0=> ?_
 ·refine sr ?_
  refine fO (OF.assign (VEv.bool true)) (nt (rt (tr ?_)))
  exact vb Y Y
 first | (have hz0:=Yb fhc0) | skip
 refine sk (tn (sr (lO (OL.loadOn (us:=(Qv false a1)) (tv (T.op 1 0) Y) Y Qm2 Qnn (lb Y) Y) (mO (tI (Q5 (QZ a0) 1048576)) Y (cO (cS (vc (tv (T.agg (Qv false a1)) Y) (vc (tv (tI (Q5 (QZ a0) 1048576)) Y) vn)) (LendL.cons (lg JH) (lp Y ln)) (Qcs (n+41) a1 (Q5 (QZ a0) 1048576) (by first | exact g2.2 | exact g3.2 | exact QI _ _ _ _ | (simp only [QG];omega) | assumption | omega | (simp only [List.length_map];omega) | (simp only [List.length_map,List.length_append,List.length_cons,List.length_nil,List.length_replicate,List.length_set,List.length_drop,List.length_take,Zk] at *;omega)) (by first | exact g2.2 | exact g3.2 | exact QI _ _ _ _ | (simp only [QG];omega) | assumption | omega | (simp only [List.length_map];omega) | (simp only [List.length_map,List.length_append,List.length_cons,List.length_nil,List.length_replicate,List.length_set,List.length_drop,List.length_take,Zk] at *;omega)) (by first | exact g2.2 | exact g3.2 | exact QI _ _ _ _ | (simp only [QG];omega) | assumption | omega | (simp only [List.length_map];omega) | (simp only [List.length_map,List.length_append,List.length_cons,List.length_nil,List.length_replicate,List.length_set,List.length_drop,List.length_take,Zk] at *;omega))) Y Y) (aO (tI (Q5 (QC a1) (Q5 (QZ a0) 1048576))) Y (nt (sq (sr (mO (tI (Q5 (QC a1) (Q5 (QZ a0) 1048576))) Y (fO (xls (tv (tI (Q5 (QC a1) (Q5 (QZ a0) 1048576))) Y) (VEv.int .i64 0)) ?_)))))))))))
 refine nt ?_
 refine cd (Q5 (QC a1) (Q5 (QZ a0) 1048576)<0) Y (fun fhc1=> ?_) fun fhc1=> ?_
 ·refine sr ?_
  refine fO (OF.assign (VEv.bool true)) (nt (rt (tr ?_)))
  exact vb Y Y
 first | (have hz1:=Yb fhc1) | skip
 refine sk (tn (sr (mO (rd 2 Qb a2) Y (mO (tI (Q5 (QC a1) (Q5 (QZ a0) 1048576))) Y (cO (cS (vc (tv (rd 2 Qb a2) Y) (vc (tv (tI (Q5 (QC a1) (Q5 (QZ a0) 1048576))) Y) vn)) (Zg Y) (QdX (n+43) a2 (Q5 (QC a1) (Q5 (QZ a0) 1048576)) (by first | exact g2.2 | exact g3.2 | exact QI _ _ _ _ | (simp only [QG];omega) | assumption | omega | (simp only [List.length_map];omega) | (simp only [List.length_map,List.length_append,List.length_cons,List.length_nil,List.length_replicate,List.length_set,List.length_drop,List.length_take,Zk] at *;omega)) (by first | exact g2.2 | exact g3.2 | exact QI _ _ _ _ | (simp only [QG];omega) | assumption | omega | (simp only [List.length_map];omega) | (simp only [List.length_map,List.length_append,List.length_cons,List.length_nil,List.length_replicate,List.length_set,List.length_drop,List.length_take,Zk] at *;omega)) (by first | exact g2.2 | exact g3.2 | exact QI _ _ _ _ | (simp only [QG];omega) | assumption | omega | (simp only [List.length_map];omega) | (simp only [List.length_map,List.length_append,List.length_cons,List.length_nil,List.length_replicate,List.length_set,List.length_drop,List.length_take,Zk] at *;omega))) Y Y) (aO (tI (Q5 (zL Za a2) (Q5 (QC a1) (Q5 (QZ a0) 1048576)))) Y (nt (sq (sr (mO (tI (Q5 (zL Za a2) (Q5 (QC a1) (Q5 (QZ a0) 1048576)))) Y (fO (xls (tv (tI (Q5 (zL Za a2) (Q5 (QC a1) (Q5 (QZ a0) 1048576)))) Y) (VEv.int .i64 0)) ?_)))))))))))
 refine nt ?_
 refine cd (Q5 (zL Za a2) (Q5 (QC a1) (Q5 (QZ a0) 1048576))<0) Y (fun fhc2=> ?_) fun fhc2=> ?_
 ·refine sr ?_
  refine fO (OF.assign (VEv.bool true)) (nt (rt (tr ?_)))
  exact vb Y Y
 first | (have hz2:=Yb fhc2) | skip
 refine sk (tn (sr (mO (rd 1 Qj a3) Y (mO (tI (Q5 (zL Za a2) (Q5 (QC a1) (Q5 (QZ a0) 1048576)))) Y (cO (cS (vc (tv (rd 1 Qj a3) Y) (vc (tv (tI (Q5 (zL Za a2) (Q5 (QC a1) (Q5 (QZ a0) 1048576)))) Y) vn)) (Zg Y) (QeB (n+44) a3 (Q5 (zL Za a2) (Q5 (QC a1) (Q5 (QZ a0) 1048576))) (by first | exact g2.2 | exact g3.2 | exact QI _ _ _ _ | (simp only [QG];omega) | assumption | omega | (simp only [List.length_map];omega) | (simp only [List.length_map,List.length_append,List.length_cons,List.length_nil,List.length_replicate,List.length_set,List.length_drop,List.length_take,Zk] at *;omega)) (by first | exact g2.2 | exact g3.2 | exact QI _ _ _ _ | (simp only [QG];omega) | assumption | omega | (simp only [List.length_map];omega) | (simp only [List.length_map,List.length_append,List.length_cons,List.length_nil,List.length_replicate,List.length_set,List.length_drop,List.length_take,Zk] at *;omega)) (by first | exact g2.2 | exact g3.2 | exact QI _ _ _ _ | (simp only [QG];omega) | assumption | omega | (simp only [List.length_map];omega) | (simp only [List.length_map,List.length_append,List.length_cons,List.length_nil,List.length_replicate,List.length_set,List.length_drop,List.length_take,Zk] at *;omega))) Y Y) (aO (tI (Q5 (zL ByteArray.size a3) (Q5 (zL Za a2) (Q5 (QC a1) (Q5 (QZ a0) 1048576))))) Y (nt (sq (sr (mO (tI (Q5 (zL ByteArray.size a3) (Q5 (zL Za a2) (Q5 (QC a1) (Q5 (QZ a0) 1048576))))) Y (fO (xls (tv (tI (Q5 (zL ByteArray.size a3) (Q5 (zL Za a2) (Q5 (QC a1) (Q5 (QZ a0) 1048576))))) Y) (VEv.int .i64 0)) ?_)))))))))))
 refine nt ?_
 refine cd (Q5 (zL ByteArray.size a3) (Q5 (zL Za a2) (Q5 (QC a1) (Q5 (QZ a0) 1048576)))<0) Y (fun fhc3=> ?_) fun fhc3=> ?_
 ·refine sr ?_
  refine fO (OF.assign (VEv.bool true)) (nt (rt (tr ?_)))
  exact vb Y Y
 first | (have hz3:=Yb fhc3) | skip
 refine sk (tn (sq (VRun.draw (B:= [[],[0],[],[0,1,2],[],[2,1,0,3,4],[],[4,3,0,1,2,5,6],[6,7,4,5,2,3,0,1],[1,0,3,2,5,4,7,6,8]]) (by kernel_rfl) (by kernel_rfl) (lD (OL.loadOn (us:=(QQ false a0)) (tv (T.op 0 0) Y) Y QmM Qnd (lb Y) Y) Y Y (VRunD.quiet (bi:= [0]) Y VWant.always Y Y Y bn (OC.callF (r':=(T.agg [(tI a0.Number),(tI a0.Puzzle.Grid.Rows),(tI a0.Puzzle.Grid.Cols),(tS a0.Puzzle.Grid.Cells),(T.os 2 2 0 ((a0.Puzzle.Clues.map (Qi true)).length)),(T.os 1 3 0 ((a0.Puzzle.Seals.map (Qe true)).length)),(tI a0.Puzzle.Salt),(tS a0.Fill),(tI a0.Open),(tI a0.Close)])) (objs:= [(Obj.rows 2 (a0.Puzzle.Clues.map (Qi true))),(Obj.rows 1 (a0.Puzzle.Seals.map (Qe true)))]) Y (vc (tv (T.agg (QQ false a0)) Y) vn) (LendL.cons (lg Qa6) ln) (Qam (n+39) a0 (by first | exact g2.2 | exact g3.2 | exact QI _ _ _ _ | (simp only [QG];omega) | assumption | omega | (simp only [List.length_map];omega) | (simp only [List.length_map,List.length_append,List.length_cons,List.length_nil,List.length_replicate,List.length_set,List.length_drop,List.length_take,Zk] at *;omega))) Y) (lD (OL.loadOn (us:=(Qv false a1)) (tv (T.op 1 0) Y) Y Qm2 Qnn (lb Y) Y) Y Y (VRunD.quiet (bi:= [0,1,2]) Y VWant.always Y Y Y bn (OC.callF (r':=(T.agg [(tI a1.Issue),(tI a1.Slot),(tI a1.Clue.Sense),(T.os 4 4 0 ((a1.Clue.Play.map (Qd true)).length)),(tI a1.Tick)])) (objs:= [(Obj.rows 4 (a1.Clue.Play.map (Qd true)))]) Y (vc (tv (T.agg (Qv false a1)) Y) vn) (LendL.cons (lg JH) ln) (YO (n+41) a1 (by first | exact g2.2 | exact g3.2 | exact QI _ _ _ _ | (simp only [QG];omega) | assumption | omega | (simp only [List.length_map];omega) | (simp only [List.length_map,List.length_append,List.length_cons,List.length_nil,List.length_replicate,List.length_set,List.length_drop,List.length_take,Zk] at *;omega))) Y) (mD (rd 2 Qb a2) Y Y (VRunD.quiet (bi:= [2,1,0,3,4]) Y VWant.always Y Y Y bn (OC.callF (r':=(T.os 2 5 0 ((a2.map (Qb true)).length))) (objs:= [(Obj.rows 2 (a2.map (Qb true)))]) Y (vc (tv (rd 2 Qb a2) Y) vn) (Zg Y) (Jd (n+43) a2 (by first | exact g2.2 | exact g3.2 | exact QI _ _ _ _ | (simp only [QG];omega) | assumption | omega | (simp only [List.length_map];omega) | (simp only [List.length_map,List.length_append,List.length_cons,List.length_nil,List.length_replicate,List.length_set,List.length_drop,List.length_take,Zk] at *;omega))) Y) (mD (rd 1 Qj a3) Y Y (VRunD.quiet (bi:= [4,3,0,1,2,5,6]) Y VWant.always Y Y Y bn (OC.callF (r':=(T.os 1 6 0 ((a3.map (Qj true)).length))) (objs:= [(Obj.rows 1 (a3.map (Qj true)))]) Y (vc (tv (rd 1 Qj a3) Y) vn) (Zg Y) (JA (n+44) a3 (by first | exact g2.2 | exact g3.2 | exact QI _ _ _ _ | (simp only [QG];omega) | assumption | omega | (simp only [List.length_map];omega) | (simp only [List.length_map,List.length_append,List.length_cons,List.length_nil,List.length_replicate,List.length_set,List.length_drop,List.length_take,Zk] at *;omega))) Y) ?_)))))))))))
 refine VRunD.quiet (bi:= [6,7,4,5,2,3,0,1]) Y VWant.always Y Y Y bn (cS (us:= [(T.agg (QQ false a0)),(T.agg (Qv false a1)),(rd 2 Qb a2),(rd 1 Qj a3)]) (vc (tv (T.agg [(tI a0.Number),(tI a0.Puzzle.Grid.Rows),(tI a0.Puzzle.Grid.Cols),(tS a0.Puzzle.Grid.Cells),(T.os 2 2 0 ((a0.Puzzle.Clues.map (Qi true)).length)),(T.os 1 3 0 ((a0.Puzzle.Seals.map (Qe true)).length)),(tI a0.Puzzle.Salt),(tS a0.Fill),(tI a0.Open),(tI a0.Close)]) Y) (vc (tv (T.agg [(tI a1.Issue),(tI a1.Slot),(tI a1.Clue.Sense),(T.os 4 4 0 ((a1.Clue.Play.map (Qd true)).length)),(tI a1.Tick)]) Y) (vc (tv (T.os 2 5 0 ((a2.map (Qb true)).length)) Y) (vc (tv (T.os 1 6 0 ((a3.map (Qj true)).length)) Y) vn)))) (LendL.cons (Lend.agg (LendL.cons (Lend.pl Y) (LendL.cons (Lend.pl Y) (LendL.cons (Lend.pl Y) (LendL.cons (Lend.pl Y) (LendL.cons (Lend.os Y Y (okeClue.fzMap _ _)) (LendL.cons (Lend.os Y Y (okInt.fzMap _ _)) (LendL.cons (Lend.pl Y) (LendL.cons (Lend.pl Y) (LendL.cons (Lend.pl Y) (LendL.cons (Lend.pl Y) ln))))))))))) (LendL.cons (Lend.agg (LendL.cons (Lend.pl Y) (LendL.cons (Lend.pl Y) (LendL.cons (Lend.pl Y) (LendL.cons (Lend.os Y Y (okeStep.fzMap _ _)) (LendL.cons (Lend.pl Y) ln)))))) (LendL.cons (Lend.os Y Y (okeMeaning.fzMap _ _)) (LendL.cons (Lend.os Y Y (okStr.fzMap _ _)) ln)))) (Qe5 (n+17) a0 a1 a2 a3 (by first | exact g2.2 | exact g3.2 | exact QI _ _ _ _ | (simp only [QG];omega) | assumption | omega | (simp only [List.length_map];omega) | (simp only [List.length_map,List.length_append,List.length_cons,List.length_nil,List.length_replicate,List.length_set,List.length_drop,List.length_take,Zk] at *;omega)) (by first | exact g2.2 | exact g3.2 | exact QI _ _ _ _ | (simp only [QG];omega) | assumption | omega | (simp only [List.length_map];omega) | (simp only [List.length_map,List.length_append,List.length_cons,List.length_nil,List.length_replicate,List.length_set,List.length_drop,List.length_take,Zk] at *;omega)) (by first | exact g2.2 | exact g3.2 | exact QI _ _ _ _ | (simp only [QG];omega) | assumption | omega | (simp only [List.length_map];omega) | (simp only [List.length_map,List.length_append,List.length_cons,List.length_nil,List.length_replicate,List.length_set,List.length_drop,List.length_take,Zk] at *;omega)) (by first | exact g2.2 | exact g3.2 | exact QI _ _ _ _ | (simp only [QG];omega) | assumption | omega | (simp only [List.length_map];omega) | (simp only [List.length_map,List.length_append,List.length_cons,List.length_nil,List.length_replicate,List.length_set,List.length_drop,List.length_take,Zk] at *;omega))) Y Y) (fD (OF.assign (tv (tB (decide (Qby a0 a1 a2 a3))) Y)) Y Y (VRunD.nil (tn (sr (lO (OL.loadOn (us:=(QQ false a0)) (tv (T.op 0 0) Y) Y QmM Qnd (lb Y) Y) (cO (OC.callF (r':=(T.agg [(tI a0.Number),(tI a0.Puzzle.Grid.Rows),(tI a0.Puzzle.Grid.Cols),(tS a0.Puzzle.Grid.Cells),(T.os 2 7 0 ((a0.Puzzle.Clues.map (Qi true)).length)),(T.os 1 8 0 ((a0.Puzzle.Seals.map (Qe true)).length)),(tI a0.Puzzle.Salt),(tS a0.Fill),(tI a0.Open),(tI a0.Close)])) (objs:= [(Obj.rows 2 (a0.Puzzle.Clues.map (Qi true))),(Obj.rows 1 (a0.Puzzle.Seals.map (Qe true)))]) Y (vc (tv (T.agg (QQ false a0)) Y) vn) (LendL.cons (lg Qa6) ln) (Qam (n+39) a0 (by first | exact g2.2 | exact g3.2 | exact QI _ _ _ _ | (simp only [QG];omega) | assumption | omega | (simp only [List.length_map];omega) | (simp only [List.length_map,List.length_append,List.length_cons,List.length_nil,List.length_replicate,List.length_set,List.length_drop,List.length_take,Zk] at *;omega))) Y) ?_))))))
 refine kO (B.alloc (t:=(T.agg [(tN 0),(tN 0),(tN 0),(tS ByteArray.empty),T.nils,T.nils,(tN 0),(tS ByteArray.empty),(tN 0),(tN 0)])) (ts:= [(tN 0),(tN 0),(tN 0),(tS ByteArray.empty),T.nils,T.nils,(tN 0),(tS ByteArray.empty),(tN 0),(tN 0)]) QnL QnT nofun (fun _=> .agg _ _ Y (YS (RL.cons (.int _ _) (RL.cons (.int _ _) (RL.cons (.int _ _) (RL.cons (.str _) (RL.cons (.nils) (RL.cons (.nils) (RL.cons (.int _ _) (RL.cons (.str _) (RL.cons (.int _ _) (RL.cons (.int _ _) (RL.nil _))))))))))))) Y) (cO (B.storeW (us:= [(tI a0.Number),(tI a0.Puzzle.Grid.Rows),(tI a0.Puzzle.Grid.Cols),(tS a0.Puzzle.Grid.Cells),(T.os 2 7 0 ((a0.Puzzle.Clues.map (Qi true)).length)),(T.os 1 8 0 ((a0.Puzzle.Seals.map (Qe true)).length)),(tI a0.Puzzle.Salt),(tS a0.Fill),(tI a0.Open),(tI a0.Close)]) (tv (T.op 9 0) Y) (tv (T.agg [(tI a0.Number),(tI a0.Puzzle.Grid.Rows),(tI a0.Puzzle.Grid.Cols),(tS a0.Puzzle.Grid.Cells),(T.os 2 7 0 ((a0.Puzzle.Clues.map (Qi true)).length)),(T.os 1 8 0 ((a0.Puzzle.Seals.map (Qe true)).length)),(tI a0.Puzzle.Salt),(tS a0.Fill),(tI a0.Open),(tI a0.Close)]) Y) nofun Y Y Y QoZ Qi0 (bc Y (bc Y (bc Y (bc Y (bc Y (bc Y (bc Y (bc Y (bc Y (bc Y bn))))))))))) (nt (sr (lO (OL.loadOn (us:=(Qv false a1)) (tv (T.op 1 0) Y) Y Qm2 Qnn (lb Y) Y) (cO (OC.callF (r':=(T.agg [(tI a1.Issue),(tI a1.Slot),(tI a1.Clue.Sense),(T.os 4 10 0 ((a1.Clue.Play.map (Qd true)).length)),(tI a1.Tick)])) (objs:= [(Obj.rows 4 (a1.Clue.Play.map (Qd true)))]) Y (vc (tv (T.agg (Qv false a1)) Y) vn) (LendL.cons (lg JH) ln) (YO (n+41) a1 (by first | exact g2.2 | exact g3.2 | exact QI _ _ _ _ | (simp only [QG];omega) | assumption | omega | (simp only [List.length_map];omega) | (simp only [List.length_map,List.length_append,List.length_cons,List.length_nil,List.length_replicate,List.length_set,List.length_drop,List.length_take,Zk] at *;omega))) Y) (kO (B.alloc (t:=(T.agg [(tN 0),(tN 0),(tN 0),T.nils,(tN 0)])) (ts:= [(tN 0),(tN 0),(tN 0),T.nils,(tN 0)]) Qn8 QnJ nofun (fun _=> .agg _ _ Y (YS (RL.cons (.int _ _) (RL.cons (.int _ _) (RL.cons (.int _ _) (RL.cons (.nils) (RL.cons (.int _ _) (RL.nil _)))))))) Y) (cO (B.storeW (us:= [(tI a1.Issue),(tI a1.Slot),(tI a1.Clue.Sense),(T.os 4 10 0 ((a1.Clue.Play.map (Qd true)).length)),(tI a1.Tick)]) (tv (T.op 11 0) Y) (tv (T.agg [(tI a1.Issue),(tI a1.Slot),(tI a1.Clue.Sense),(T.os 4 10 0 ((a1.Clue.Play.map (Qd true)).length)),(tI a1.Tick)]) Y) nofun Y Y Y QoY Qlm (bc Y (bc Y (bc Y (bc Y (bc Y bn)))))) (nt (sr (mO (rd 2 Qb a2) Y (cO (OC.callF (r':=(T.os 2 12 0 ((a2.map (Qb true)).length))) (objs:= [(Obj.rows 2 (a2.map (Qb true)))]) Y (vc (tv (rd 2 Qb a2) Y) vn) (Zg Y) (Jd (n+43) a2 (by first | exact g2.2 | exact g3.2 | exact QI _ _ _ _ | (simp only [QG];omega) | assumption | omega | (simp only [List.length_map];omega) | (simp only [List.length_map,List.length_append,List.length_cons,List.length_nil,List.length_replicate,List.length_set,List.length_drop,List.length_take,Zk] at *;omega))) Y) ?_)))))))))))
 refine aO (T.os 2 12 0 ((a2.map (Qb true)).length)) Y (nt (sr (mO (rd 1 Qj a3) Y (cO (OC.callF (r':=(T.os 1 13 0 ((a3.map (Qj true)).length))) (objs:= [(Obj.rows 1 (a3.map (Qj true)))]) Y (vc (tv (rd 1 Qj a3) Y) vn) (Zg Y) (JA (n+44) a3 (by first | exact g2.2 | exact g3.2 | exact QI _ _ _ _ | (simp only [QG];omega) | assumption | omega | (simp only [List.length_map];omega) | (simp only [List.length_map,List.length_append,List.length_cons,List.length_nil,List.length_replicate,List.length_set,List.length_drop,List.length_take,Zk] at *;omega))) Y) (aO (T.os 1 13 0 ((a3.map (Qj true)).length)) Y (nt (sr (lO (OL.loadOn (us:= [(tI a0.Number),(tI a0.Puzzle.Grid.Rows),(tI a0.Puzzle.Grid.Cols),(tS a0.Puzzle.Grid.Cells),(T.os 2 7 0 ((a0.Puzzle.Clues.map (Qi true)).length)),(T.os 1 8 0 ((a0.Puzzle.Seals.map (Qe true)).length)),(tI a0.Puzzle.Salt),(tS a0.Fill),(tI a0.Open),(tI a0.Close)]) (tv (T.op 9 0) Y) Y Qli Qi0 (lb Y) Y) (lO (OL.loadOn (us:= [(tI a1.Issue),(tI a1.Slot),(tI a1.Clue.Sense),(T.os 4 10 0 ((a1.Clue.Play.map (Qd true)).length)),(tI a1.Tick)]) (tv (T.op 11 0) Y) Y QmN Qlm (lb Y) Y) (mO (T.os 2 12 0 ((a2.map (Qb true)).length)) Y (mO (T.os 1 13 0 ((a3.map (Qj true)).length)) Y ?_)))))))))))
 refine cO (cS (us:= [(T.agg (QQ false a0)),(T.agg (Qv false a1)),(rd 2 Qb a2),(rd 1 Qj a3)]) (vc (tv (T.agg [(tI a0.Number),(tI a0.Puzzle.Grid.Rows),(tI a0.Puzzle.Grid.Cols),(tS a0.Puzzle.Grid.Cells),(T.os 2 7 0 ((a0.Puzzle.Clues.map (Qi true)).length)),(T.os 1 8 0 ((a0.Puzzle.Seals.map (Qe true)).length)),(tI a0.Puzzle.Salt),(tS a0.Fill),(tI a0.Open),(tI a0.Close)]) Y) (vc (tv (T.agg [(tI a1.Issue),(tI a1.Slot),(tI a1.Clue.Sense),(T.os 4 10 0 ((a1.Clue.Play.map (Qd true)).length)),(tI a1.Tick)]) Y) (vc (tv (T.os 2 12 0 ((a2.map (Qb true)).length)) Y) (vc (tv (T.os 1 13 0 ((a3.map (Qj true)).length)) Y) vn)))) (LendL.cons (Lend.agg (LendL.cons (Lend.pl Y) (LendL.cons (Lend.pl Y) (LendL.cons (Lend.pl Y) (LendL.cons (Lend.pl Y) (LendL.cons (Lend.os Y Y (okeClue.fzMap _ _)) (LendL.cons (Lend.os Y Y (okInt.fzMap _ _)) (LendL.cons (Lend.pl Y) (LendL.cons (Lend.pl Y) (LendL.cons (Lend.pl Y) (LendL.cons (Lend.pl Y) ln))))))))))) (LendL.cons (Lend.agg (LendL.cons (Lend.pl Y) (LendL.cons (Lend.pl Y) (LendL.cons (Lend.pl Y) (LendL.cons (Lend.os Y Y (okeStep.fzMap _ _)) (LendL.cons (Lend.pl Y) ln)))))) (LendL.cons (Lend.os Y Y (okeMeaning.fzMap _ _)) (LendL.cons (Lend.os Y Y (okStr.fzMap _ _)) ln)))) (Qe8 (n+0) a0 a1 a2 a3 (by first | exact g2.2 | exact g3.2 | exact QI _ _ _ _ | (simp only [QG];omega) | assumption | omega | (simp only [List.length_map];omega) | (simp only [List.length_map,List.length_append,List.length_cons,List.length_nil,List.length_replicate,List.length_set,List.length_drop,List.length_take,Zk] at *;omega)) (by first | exact g2.2 | exact g3.2 | exact QI _ _ _ _ | (simp only [QG];omega) | assumption | omega | (simp only [List.length_map];omega) | (simp only [List.length_map,List.length_append,List.length_cons,List.length_nil,List.length_replicate,List.length_set,List.length_drop,List.length_take,Zk] at *;omega)) (by first | exact g2.2 | exact g3.2 | exact QI _ _ _ _ | (simp only [QG];omega) | assumption | omega | (simp only [List.length_map];omega) | (simp only [List.length_map,List.length_append,List.length_cons,List.length_nil,List.length_replicate,List.length_set,List.length_drop,List.length_take,Zk] at *;omega)) (by first | exact g2.2 | exact g3.2 | exact QI _ _ _ _ | (simp only [QG];omega) | assumption | omega | (simp only [List.length_map];omega) | (simp only [List.length_map,List.length_append,List.length_cons,List.length_nil,List.length_replicate,List.length_set,List.length_drop,List.length_take,Zk] at *;omega))) Y Y) (aO (tB (decide (Qby a0 a1 a2 a3))) Y (nt (sq (sr (mO (tB (decide (Qby a0 a1 a2 a3))) Y (mO (tB (decide (Qby a0 a1 a2 a3))) Y (fO (B.bneq U4 (c:=(!((decide (Qby a0 a1 a2 a3)) == (decide (Qby a0 a1 a2 a3))))) (tv (tB (decide (Qby a0 a1 a2 a3))) Y) (tv (tB (decide (Qby a0 a1 a2 a3))) Y) Y) (nt ?_))))))))
 refine VRun.cond (tv (tB (!((decide (Qby a0 a1 a2 a3)) == (decide (Qby a0 a1 a2 a3))))) Y) (fun hc4=> ?_) (fun hc4=> ?_)
 ·have fhc4:(!((decide (Qby a0 a1 a2 a3)) == (decide (Qby a0 a1 a2 a3))))=true:=hc4
  refine sr (fO (OF.assign (VEv.bool false)) (nt (rt (tr (vb (b':=false) Y ?_)))))
  first | rfl | (exfalso;omega) | (exfalso;(simp only [QG] at* <;>omega)) | (exfalso;simp only [QG,not_true_eq_false] at *;done) | (exfalso;simp_all;done)
 have fhc4:(!((decide (Qby a0 a1 a2 a3)) == (decide (Qby a0 a1 a2 a3))))=false:=hc4
 first | (have hz4:=Yb fhc4) | skip
 refine sk (tn (sq (sq (VRun.draw (B:= [[],[],[1],[1,2,0],[0,2,1,3]]) (by kernel_rfl) (by kernel_rfl) (lD (OL.loadOn (us:= [(tI a0.Number),(tI a0.Puzzle.Grid.Rows),(tI a0.Puzzle.Grid.Cols),(tS a0.Puzzle.Grid.Cells),(T.os 2 7 0 ((a0.Puzzle.Clues.map (Qi true)).length)),(T.os 1 8 0 ((a0.Puzzle.Seals.map (Qe true)).length)),(tI a0.Puzzle.Salt),(tS a0.Fill),(tI a0.Open),(tI a0.Close)]) (tv (T.op 9 0) Y) Y Qli Qi0 (lb Y) Y) Y Y (lD (OL.loadOn (us:=(QQ false a0)) (tv (T.op 0 0) Y) Y QmM Qnd (lb Y) Y) Y Y (VRunD.quiet (bi:= [1]) Y VWant.always Y Y Y bn (OC.callF (r':=(T.agg [(tI a0.Number),(tI a0.Puzzle.Grid.Rows),(tI a0.Puzzle.Grid.Cols),(tS a0.Puzzle.Grid.Cells),(T.os 2 14 0 ((a0.Puzzle.Clues.map (Qi true)).length)),(T.os 1 15 0 ((a0.Puzzle.Seals.map (Qe true)).length)),(tI a0.Puzzle.Salt),(tS a0.Fill),(tI a0.Open),(tI a0.Close)])) (objs:= [(Obj.rows 2 (a0.Puzzle.Clues.map (Qi true))),(Obj.rows 1 (a0.Puzzle.Seals.map (Qe true)))]) Y (vc (tv (T.agg (QQ false a0)) Y) vn) (LendL.cons (lg Qa6) ln) (Qam (n+39) a0 (by first | exact g2.2 | exact g3.2 | exact QI _ _ _ _ | (simp only [QG];omega) | assumption | omega | (simp only [List.length_map];omega) | (simp only [List.length_map,List.length_append,List.length_cons,List.length_nil,List.length_replicate,List.length_set,List.length_drop,List.length_take,Zk] at *;omega))) Y) (VRunD.quiet (bi:= [1,2,0]) Y VWant.always Y Y Y bn (cS (us:= [(T.agg (QQ false a0)),(T.agg (QQ false a0))]) (vc (tv (T.agg [(tI a0.Number),(tI a0.Puzzle.Grid.Rows),(tI a0.Puzzle.Grid.Cols),(tS a0.Puzzle.Grid.Cells),(T.os 2 7 0 ((a0.Puzzle.Clues.map (Qi true)).length)),(T.os 1 8 0 ((a0.Puzzle.Seals.map (Qe true)).length)),(tI a0.Puzzle.Salt),(tS a0.Fill),(tI a0.Open),(tI a0.Close)]) Y) (vc (tv (T.agg [(tI a0.Number),(tI a0.Puzzle.Grid.Rows),(tI a0.Puzzle.Grid.Cols),(tS a0.Puzzle.Grid.Cells),(T.os 2 14 0 ((a0.Puzzle.Clues.map (Qi true)).length)),(T.os 1 15 0 ((a0.Puzzle.Seals.map (Qe true)).length)),(tI a0.Puzzle.Salt),(tS a0.Fill),(tI a0.Open),(tI a0.Close)]) Y) vn)) (LendL.cons (Lend.agg (LendL.cons (Lend.pl Y) (LendL.cons (Lend.pl Y) (LendL.cons (Lend.pl Y) (LendL.cons (Lend.pl Y) (LendL.cons (Lend.os Y Y (okeClue.fzMap _ _)) (LendL.cons (Lend.os Y Y (okInt.fzMap _ _)) (LendL.cons (Lend.pl Y) (LendL.cons (Lend.pl Y) (LendL.cons (Lend.pl Y) (LendL.cons (Lend.pl Y) ln))))))))))) (LendL.cons (Lend.agg (LendL.cons (Lend.pl Y) (LendL.cons (Lend.pl Y) (LendL.cons (Lend.pl Y) (LendL.cons (Lend.pl Y) (LendL.cons (Lend.os Y Y (okeClue.fzMap _ _)) (LendL.cons (Lend.os Y Y (okInt.fzMap _ _)) (LendL.cons (Lend.pl Y) (LendL.cons (Lend.pl Y) (LendL.cons (Lend.pl Y) (LendL.cons (Lend.pl Y) ln))))))))))) ln)) (Qf6 (n+39) a0 a0 (by first | exact g2.2 | exact g3.2 | exact QI _ _ _ _ | (simp only [QG];omega) | assumption | omega | (simp only [List.length_map];omega) | (simp only [List.length_map,List.length_append,List.length_cons,List.length_nil,List.length_replicate,List.length_set,List.length_drop,List.length_take,Zk] at *;omega)) (by first | exact g2.2 | exact g3.2 | exact QI _ _ _ _ | (simp only [QG];omega) | assumption | omega | (simp only [List.length_map];omega) | (simp only [List.length_map,List.length_append,List.length_cons,List.length_nil,List.length_replicate,List.length_set,List.length_drop,List.length_take,Zk] at *;omega))) Y Y) ?_))))))))
 refine fD (QU (tv (tB (decide (a0=a0))) Y)) Y Y (VRunD.nil (tn ?_))
 refine cn (a0=a0) Y (fun fhc5=> ?_) fun fhc5=> ?_
 ·refine sr ?_
  refine fO (OF.assign (VEv.bool false)) (nt (rt (tr (vb (b':=false) Y ?_))))
  first | rfl | (exfalso;omega) | (exfalso;(simp only [QG] at* <;>omega)) | (exfalso;simp only [QG,not_true_eq_false] at *;done) | (exfalso;simp_all;done)
 first | (have hz5:=Yb fhc5) | skip
 refine sk (tn (sq (sq (VRun.draw (B:= [[],[],[1],[1,2,0],[0,2,1,3]]) (by kernel_rfl) (by kernel_rfl) (lD (OL.loadOn (us:= [(tI a1.Issue),(tI a1.Slot),(tI a1.Clue.Sense),(T.os 4 10 0 ((a1.Clue.Play.map (Qd true)).length)),(tI a1.Tick)]) (tv (T.op 11 0) Y) Y QmN Qlm (lb Y) Y) Y Y (lD (OL.loadOn (us:=(Qv false a1)) (tv (T.op 1 0) Y) Y Qm2 Qnn (lb Y) Y) Y Y (VRunD.quiet (bi:= [1]) Y VWant.always Y Y Y bn (OC.callF (r':=(T.agg [(tI a1.Issue),(tI a1.Slot),(tI a1.Clue.Sense),(T.os 4 16 0 ((a1.Clue.Play.map (Qd true)).length)),(tI a1.Tick)])) (objs:= [(Obj.rows 4 (a1.Clue.Play.map (Qd true)))]) Y (vc (tv (T.agg (Qv false a1)) Y) vn) (LendL.cons (lg JH) ln) (YO (n+41) a1 (by first | exact g2.2 | exact g3.2 | exact QI _ _ _ _ | (simp only [QG];omega) | assumption | omega | (simp only [List.length_map];omega) | (simp only [List.length_map,List.length_append,List.length_cons,List.length_nil,List.length_replicate,List.length_set,List.length_drop,List.length_take,Zk] at *;omega))) Y) (VRunD.quiet (bi:= [1,2,0]) Y VWant.always Y Y Y bn (cS (us:= [(T.agg (Qv false a1)),(T.agg (Qv false a1))]) (vc (tv (T.agg [(tI a1.Issue),(tI a1.Slot),(tI a1.Clue.Sense),(T.os 4 10 0 ((a1.Clue.Play.map (Qd true)).length)),(tI a1.Tick)]) Y) (vc (tv (T.agg [(tI a1.Issue),(tI a1.Slot),(tI a1.Clue.Sense),(T.os 4 16 0 ((a1.Clue.Play.map (Qd true)).length)),(tI a1.Tick)]) Y) vn)) (LendL.cons (Lend.agg (LendL.cons (Lend.pl Y) (LendL.cons (Lend.pl Y) (LendL.cons (Lend.pl Y) (LendL.cons (Lend.os Y Y (okeStep.fzMap _ _)) (LendL.cons (Lend.pl Y) ln)))))) (LendL.cons (Lend.agg (LendL.cons (Lend.pl Y) (LendL.cons (Lend.pl Y) (LendL.cons (Lend.pl Y) (LendL.cons (Lend.os Y Y (okeStep.fzMap _ _)) (LendL.cons (Lend.pl Y) ln)))))) ln)) (Qcq (n+41) a1 a1 (by first | exact g2.2 | exact g3.2 | exact QI _ _ _ _ | (simp only [QG];omega) | assumption | omega | (simp only [List.length_map];omega) | (simp only [List.length_map,List.length_append,List.length_cons,List.length_nil,List.length_replicate,List.length_set,List.length_drop,List.length_take,Zk] at *;omega)) (by first | exact g2.2 | exact g3.2 | exact QI _ _ _ _ | (simp only [QG];omega) | assumption | omega | (simp only [List.length_map];omega) | (simp only [List.length_map,List.length_append,List.length_cons,List.length_nil,List.length_replicate,List.length_set,List.length_drop,List.length_take,Zk] at *;omega))) Y Y) (fD (QU (tv (tB (decide (a1=a1))) Y)) Y Y (VRunD.nil (tn ?_)))))))))))
 refine cn (a1=a1) Y (fun fhc6=> ?_) fun fhc6=> ?_
 ·refine sr ?_
  refine fO (OF.assign (VEv.bool false)) (nt (rt (tr (vb (b':=false) Y ?_))))
  first | rfl | (exfalso;omega) | (exfalso;(simp only [QG] at* <;>omega)) | (exfalso;simp only [QG,not_true_eq_false] at *;done) | (exfalso;simp_all;done)
 first | (have hz6:=Yb fhc6) | skip
 refine sk (tn (sq (sr (mO (T.os 2 12 0 ((a2.map (Qb true)).length)) Y (mO (rd 2 Qb a2) Y (cO (OC.callF (r':=(T.os 2 17 0 ((a2.map (Qb true)).length))) (objs:= [(Obj.rows 2 (a2.map (Qb true)))]) Y (vc (tv (rd 2 Qb a2) Y) vn) (Zg Y) (Jd (n+43) a2 (by first | exact g2.2 | exact g3.2 | exact QI _ _ _ _ | (simp only [QG];omega) | assumption | omega | (simp only [List.length_map];omega) | (simp only [List.length_map,List.length_append,List.length_cons,List.length_nil,List.length_replicate,List.length_set,List.length_drop,List.length_take,Zk] at *;omega))) Y) (cO (cS (us:= [(rd 2 Qb a2),(rd 2 Qb a2)]) (vc (tv (T.os 2 12 0 ((a2.map (Qb true)).length)) Y) (vc (tv (T.os 2 17 0 ((a2.map (Qb true)).length)) Y) vn)) (LendL.cons (Lend.os Y Y (okeMeaning.fzMap _ _)) (LendL.cons (Lend.os Y Y (okeMeaning.fzMap _ _)) ln)) (QdR (n+43) a2 a2 (by first | exact g2.2 | exact g3.2 | exact QI _ _ _ _ | (simp only [QG];omega) | assumption | omega | (simp only [List.length_map];omega) | (simp only [List.length_map,List.length_append,List.length_cons,List.length_nil,List.length_replicate,List.length_set,List.length_drop,List.length_take,Zk] at *;omega)) (by first | exact g2.2 | exact g3.2 | exact QI _ _ _ _ | (simp only [QG];omega) | assumption | omega | (simp only [List.length_map];omega) | (simp only [List.length_map,List.length_append,List.length_cons,List.length_nil,List.length_replicate,List.length_set,List.length_drop,List.length_take,Zk] at *;omega))) Y Y) (fO (QU (tv (tB (decide (a2=a2))) Y)) (nt ?_)))))))))
 refine cn (a2=a2) Y (fun fhc7=> ?_) fun fhc7=> ?_
 ·refine sr ?_
  refine fO (OF.assign (VEv.bool false)) (nt (rt (tr (vb (b':=false) Y ?_))))
  first | rfl | (exfalso;omega) | (exfalso;(simp only [QG] at* <;>omega)) | (exfalso;simp only [QG,not_true_eq_false] at *;done) | (exfalso;simp_all;done)
 first | (have hz7:=Yb fhc7) | skip
 refine sk (tn (sq (sr (mO (T.os 1 13 0 ((a3.map (Qj true)).length)) Y (mO (rd 1 Qj a3) Y (cO (OC.callF (r':=(T.os 1 18 0 ((a3.map (Qj true)).length))) (objs:= [(Obj.rows 1 (a3.map (Qj true)))]) Y (vc (tv (rd 1 Qj a3) Y) vn) (Zg Y) (JA (n+44) a3 (by first | exact g2.2 | exact g3.2 | exact QI _ _ _ _ | (simp only [QG];omega) | assumption | omega | (simp only [List.length_map];omega) | (simp only [List.length_map,List.length_append,List.length_cons,List.length_nil,List.length_replicate,List.length_set,List.length_drop,List.length_take,Zk] at *;omega))) Y) (cO (cS (us:= [(rd 1 Qj a3),(rd 1 Qj a3)]) (vc (tv (T.os 1 13 0 ((a3.map (Qj true)).length)) Y) (vc (tv (T.os 1 18 0 ((a3.map (Qj true)).length)) Y) vn)) (LendL.cons (Lend.os Y Y (okStr.fzMap _ _)) (LendL.cons (Lend.os Y Y (okStr.fzMap _ _)) ln)) (Qei (n+44) a3 a3 (by first | exact g2.2 | exact g3.2 | exact QI _ _ _ _ | (simp only [QG];omega) | assumption | omega | (simp only [List.length_map];omega) | (simp only [List.length_map,List.length_append,List.length_cons,List.length_nil,List.length_replicate,List.length_set,List.length_drop,List.length_take,Zk] at *;omega)) (by first | exact g2.2 | exact g3.2 | exact QI _ _ _ _ | (simp only [QG];omega) | assumption | omega | (simp only [List.length_map];omega) | (simp only [List.length_map,List.length_append,List.length_cons,List.length_nil,List.length_replicate,List.length_set,List.length_drop,List.length_take,Zk] at *;omega))) Y Y) (fO (QU (tv (tB (decide (a3=a3))) Y)) (nt ?_)))))))))
 refine cn (a3=a3) Y (fun fhc8=> ?_) fun fhc8=> ?_
 ·refine sr ?_
  refine fO (OF.assign (VEv.bool false)) (nt (rt (tr (vb (b':=false) Y ?_))))
  first | rfl | (exfalso;omega) | (exfalso;(simp only [QG] at* <;>omega)) | (exfalso;simp only [QG,not_true_eq_false] at *;done) | (exfalso;simp_all;done)
 first | (have hz8:=Yb fhc8) | skip
 refine sk (tn (sr (fO (OF.assign (VEv.bool true)) (nt (rt ?_)))))
 exact vb Y Y
theorem QjY (a:Option Addr) (n c:Nat):(QfX (.slice a n c)).cells.toList= [QfX (.slice a n c)]:=by cases a<;>rfl
theorem Qn6 {α:Type} {d:AK α} {e:Bool→α→List T} {x:α} {t:T} {h:AH} {v:Value} (hk:RK d e) (he:e false x= [t]) (hr:d.R h x [v]):R h t v:=by
 have h1:=hk h x _ hr
 rw [he] at h1
 exact h1.tail.1
theorem Qjs {α:Type} {d:AK α} {e:Bool→α→List T} {x:α} {t:T} {h:AH} {a:Option Addr} {n c:Nat} (hk:RK d e) (he:e false x= [t]) (hr:d.R h x (QfX (.slice a n c)).cells.toList):R h t (QfX (.slice a n c)):=by
 rw [QjY] at hr
 exact Qn6 hk he hr
theorem Ql7 {α:Type} {d:AK α} {e:Bool→α→List T} {x:α} {h:AH} {cs:Array Value} (hk:RK d e) (hr:d.R h x (QfX (.agg cs)).cells.toList):R h (.agg (e false x)) (QfX (.agg cs)):=by
 have h1:=hk h x _ hr
 refine .agg _ _ (by simpa [Value.cells,QfX] using h1.1) (fun i hi=> ?_)
 have:=h1.2 i hi
 simpa [Value.cells,QfX,Array.getD_eq_getD_getElem?,List.getD_eq_getElem?_getD] using this
theorem Pure.bool {call:QX} {f:FuncId} {ts:List T} {b:Bool} (hp:Pure call f ts (.bool b)) {h:AH} {vs:List Value} (hfr:Fr 1 h) (hr:RL h ts vs):CallS call f vs h 1 (fun v _=>v= .bool b):=by
 refine (hp h 1 vs hfr hr).mono ?_
 rintro v h' ⟨_,N,hs,_⟩
 cases hs with
 | fz hr=>cases hr;rfl
open Go
theorem Qon : QjI Tryz.prog:=fun f h=>by cases h
end Go.Proofs.YtjpenecpopljoaaGreat.AE
