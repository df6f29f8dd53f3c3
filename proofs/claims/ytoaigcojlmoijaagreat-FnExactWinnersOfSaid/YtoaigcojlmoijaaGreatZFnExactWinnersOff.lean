/- A part of what the row of FnExactWinnersOf uses. Conditions: as each theorem states. -/
import Derived.Test.YtoaigcojlmoijaaGreatZFnExactWinnersOfe
namespace Go.Proofs.YtoaigcojlmoijaaGreat.AE
open Go Go.RowKit
set_option linter.unusedVariables false
set_option linter.unusedSimpArgs false
set_option maxRecDepth 20000
set_option maxHeartbeats 2000000
noncomputable section
theorem Qbj (n:Int) {m:Int} (h:0<m): -m<n.tmod m∧n.tmod m<m:=⟨Int.lt_tmod_of_pos n h,Int.tmod_lt_of_pos n h⟩
def Jq (n m:Int):Int:=if 1≤m∧m≤1000000000000 then (n.tmod m+m).tmod m else 0
theorem Qhz (n:Int):0≤Jq n 2147483647∧Jq n 2147483647<2147483647:=by
 unfold Jq
 rw [if_pos (by omega)]
 have h1:=Qbj n (m:=2147483647) (by decide)
 have h2:=Qbj (n.tmod 2147483647+2147483647) (m:=2147483647) (by decide)
 exact ⟨Int.tmod_nonneg _ (by omega),h2.2⟩
def QcX (d x:Int):Int:=(d*1000003+Jq x 2147483647+13).tmod 2147483647
def Ze (l:List Int):Int:=l.foldl QcX 11
theorem Qfs {d x:Int} (h:0≤d∧d<2147483647):0≤QcX d x∧QcX d x<2147483647:=by
 have h1:=Qhz x
 unfold QcX
 exact ⟨Int.tmod_nonneg _ (by omega),(Qbj _ (by decide)).2⟩
theorem Qgt : ∀(l:List Int) (d:Int),0≤d∧d<2147483647→0≤l.foldl QcX d∧l.foldl QcX d<2147483647
 | [],d,h=>h
 | x::r,d,h=>Qgt r _ (Qfs h)
theorem QhL (l:List Int):0≤Ze l∧Ze l<2147483647:=Qgt l 11 (by decide)
theorem QfD {l:List Int} {i:Nat} {x:Int} (h:l[i]? =some x):Ze (l.take (i+1))=QcX (Ze (l.take i)) x:=by
 unfold Ze
 rw [List.take_add_one,h,Option.toList_some,List.foldl_append]
 rfl
theorem QlO (s:ByteArray) (i:Nat):0≤Qv s i∧Qv s i<256:=by
 unfold Qv
 split
 ·have:=(s[i]).toNat_lt
  omega
 ·decide
theorem QnC {s:ByteArray} {i:Nat} (h:i<s.size):(Yd s)[i]? =some (Qv s i):=by
 unfold Yd
 rw [List.getElem?_map,List.getElem?_eq_getElem (by rw [Array.length_toList];exact h),Option.map_some,← JP h]
 rfl
theorem Qh4 {s:ByteArray} {i:Nat} (h:i<s.size):(Yd s).take i++ [Qv s i]=(Yd s).take (i+1):=by
 rw [List.take_add_one,QnC h];rfl
def JW (salt slot:Int) (w:ByteArray):Int:=if ZB w then Ze ([salt,slot,((w.size:Nat):Int)]++Yd w) else 0
def QfA (seals:List Int) (salt slot:Int) (w:ByteArray):Prop:=0≤slot∧ZB w∧seals[slot.toNat]? =some (JW salt slot w)
instance (seals:List Int) (salt slot:Int) (w:ByteArray):Decidable (QfA seals salt slot w):=Classical.propDecidable _
theorem QjY {seals:List Int} {salt slot x:Int} {w:ByteArray} (h0:0≤slot) (hw:ZB w) (hx:seals[slot.toNat]? =some x):JW salt slot w=x↔QfA seals salt slot w:=by
 unfold QfA
 rw [hx]
 exact ⟨fun h=>⟨h0,hw,by rw [h]⟩,fun h=>(Option.some.inj h.2.2).symm⟩
theorem QeM {seals:List Int} {salt slot:Int} {w:ByteArray} (h:QfA seals salt slot w):slot<((seals.length:Nat):Int):=by
 have:=(List.getElem?_eq_some_iff.1 h.2.2).1
 omega
end
theorem QiZ (n:Nat) (n0:Int) (m:Int):Pure (Qs Tryz.prog (n+2)) 111 [(tI n0),(tI m)] (tI (Jq n0 m)):=by
 refine Pure.intro (rs:= [ResultVar.tmp 4]) Tryz.func111 Y Y Y (E0:= [(0,(tI n0)),(1,(tI m))]) Y ?_
 obtain ⟨hlim,hmx,hmax⟩:=QA
 refine sr (fO (OF.assign (VEv.int .i64 0)) (nt (sq (sr (mO (tI m) Y (cO (cS (vc (tv (tI m) Y) (vc (VEv.int .i64 1) (vc (VEv.int .i64 1000000000000) vn))) (Z8 Y) (Q2 (n+0) m 1 1000000000000) Y Y) (fO (Zd (tv (tB (decide (1≤m∧m≤1000000000000))) Y)) (nt ?_))))))))
 refine cn (1≤m∧m≤1000000000000) Y (fun fhc0=> ?_) fun fhc0=> ?_
 ·refine sr ?_
  refine fO (OF.assign (VEv.int .i64 0)) (nt (rt (tr (vi (n':=0) Y ?_))))
  unfold Jq;rw [if_neg fhc0]
 have hmd:=Qbj n0 (m:=m) (by omega)
 have hmd2:=Qbj (n0.tmod m+m) (m:=m) (by omega)
 refine sk (tn (sr (mO (tI n0) Y (mO (tI m) Y (fO (B.rem (n:=(n0.tmod m)) (tv (tI n0) Y) (tv (tI m) Y) (by omega) (by rfl)) (mO (tI m) Y (fO (B.add (n:=((n0.tmod m)+m)) (tv (tI (n0.tmod m)) Y) (tv (tI m) Y) (by (rw [Qt (by omega)];done))) (mO (tI m) Y (fO (B.rem (n:=(((n0.tmod m)+m).tmod m)) (tv (tI ((n0.tmod m)+m)) Y) (tv (tI m) Y) (by omega) (by rfl)) (aO (tI (((n0.tmod m)+m).tmod m)) Y (nt ?_)))))))))))
 refine rt (vi (n':=(((n0.tmod m)+m).tmod m)) Y ?_)
 unfold Jq;rw [if_pos (by omega)]
theorem QiS (n:Nat) (n0:Int) (m:Int):Pure (Qs Tryz.prog (n+2)) 113 [(tI n0),(tI m)] (tI (Jq n0 m)):=by
 refine Pure.intro (rs:= [ResultVar.tmp 4]) Tryz.func113 Y Y Y (E0:= [(0,(tI n0)),(1,(tI m))]) Y ?_
 obtain ⟨hlim,hmx,hmax⟩:=QA
 refine sr (fO (OF.assign (VEv.int .i64 0)) (nt (sq (sr (mO (tI m) Y (cO (cS (vc (tv (tI m) Y) (vc (VEv.int .i64 1) (vc (VEv.int .i64 1000000000000) vn))) (Z8 Y) (Zu (n+0) m 1 1000000000000) Y Y) (fO (Zd (tv (tB (decide (1≤m∧m≤1000000000000))) Y)) (nt ?_))))))))
 refine cn (1≤m∧m≤1000000000000) Y (fun fhc0=> ?_) fun fhc0=> ?_
 ·refine sr ?_
  refine fO (OF.assign (VEv.int .i64 0)) (nt (rt (tr (vi (n':=0) Y ?_))))
  unfold Jq;rw [if_neg fhc0]
 have hmd:=Qbj n0 (m:=m) (by omega)
 have hmd2:=Qbj (n0.tmod m+m) (m:=m) (by omega)
 refine sk (tn (sr (mO (tI n0) Y (mO (tI m) Y (fO (B.rem (n:=(n0.tmod m)) (tv (tI n0) Y) (tv (tI m) Y) (by omega) (by rfl)) (mO (tI m) Y (fO (B.add (n:=((n0.tmod m)+m)) (tv (tI (n0.tmod m)) Y) (tv (tI m) Y) (by (rw [Qt (by omega)];done))) (mO (tI m) Y (fO (B.rem (n:=(((n0.tmod m)+m).tmod m)) (tv (tI ((n0.tmod m)+m)) Y) (tv (tI m) Y) (by omega) (by rfl)) (aO (tI (((n0.tmod m)+m).tmod m)) Y (nt ?_)))))))))))
 refine rt (vi (n':=(((n0.tmod m)+m).tmod m)) Y ?_)
 unfold Jq;rw [if_pos (by omega)]
theorem Qil (n:Nat) (l:List Int) (hl:l.length≤Y2):Pure (Qs Tryz.prog (n+3)) 96 [(rd 1 Qc l)] (tI (Ze l)):=by
 refine Pure.intro (rs:= [ResultVar.tmp 2]) Tryz.func96 Y Y Y (E0:= [(0,(rd 1 Qc l))]) Y ?_
 obtain ⟨hlim,hmx,hmax⟩:=QA
 refine sr (fO (OF.assign (VEv.int .i64 0)) (nt (sr (fO (OF.assign (VEv.int .i64 11)) (nt (sq (sr (fO (OF.assign (VEv.int .i64 0)) (nt (VRun.block ?_))))))))))
 refine VRun.loop (A:=Nat) (fun s_=> [(0,(rd 1 Qc l)),(2,(tN 0)),(3,(tI (Ze (l.take s_)))),(4,(tN s_))]) (fun s_=>QV []) 0 (fun s_=>s_≤l.length) (fun s_=>l.length - s_) (0:Nat) ?_ (Wk.mk (fun k=>k) ?_ ?_ ?_) ?_
 ·(simp;done)
 ·exact (b2 (b2 (bc ⟨(congrArg (T.int .i64) (show 11=Ze (l.take 0) from (by rfl))),rfl⟩ (b2 bn))))
 ·exact bn
 ·exact nd Y
 rintro i (hI':i≤l.length)
 show VRun _ _ _ [(0,(rd 1 Qc l)),(2,(tN 0)),(3,(tI (Ze (l.take i)))),(4,(tN i))] (QV []) 0 _
 have hhb:=QhL (l.take i)
 refine sq (sr (mO (tN i) Y (mO (rd 1 Qc l) Y (lO (B.lenR (m:=l.length) (tv (rd 1 Qc l) Y) Z1 (List.length_map ..)) (fO (Q5 (tv (tN i) Y) (tv (tN l.length) Y)) (nt ?_))))))
 refine cd (i<l.length) Y (fun fhc0=> ?_) fun fhc0=> ?_
 ·refine sk ?_
  refine tn (sq (VRun.block (VRun.region (mO (tI (Ze (l.take i))) Y (fO (B.mul (n:=(Ze (l.take i)*1000003)) (tv (tI (Ze (l.take i))) Y) (VEv.int .i64 1000003) (by (rw [Qt (by omega)];done))) (mO (rd 1 Qc l) Y (mO (tN i) Y ?_)))))))
  obtain ⟨x1,hx1⟩:∃x,l[i]? =some x:=⟨_,List.getElem?_eq_getElem (by omega)⟩
  have hmz:=Qhz x1
  have hhs:=Qfs (x:=x1) hhb
  have hhs2:QcX (Ze (l.take i)) x1=(Ze (l.take i)*1000003+Jq x1 2147483647+13).tmod 2147483647:=rfl
  refine fO (OF.indexAddrR (row:=(Qc false x1)) (i:=i) (tv (rd 1 Qc l) Y) (tv (tN i) Y) Y (Qr _ hx1) Z1 ZA YR) (lO (OL.loadR1 (t:=(tI x1)) (tv (T.rp [(tI x1)]) Y) Y QQ) (cO (cS (vc (tv (tI x1) Y) (vc (VEv.int .i64 2147483647) vn)) (Z8 Y) (QiZ (n+0) x1 2147483647) Y Y) (fO (B.add (n:=((Ze (l.take i)*1000003)+Jq x1 2147483647)) (tv (tI (Ze (l.take i)*1000003)) Y) (tv (tI (Jq x1 2147483647)) Y) (by (rw [Qt (by omega)];done))) (fO (B.add (n:=(((Ze (l.take i)*1000003)+Jq x1 2147483647)+13)) (tv (tI ((Ze (l.take i)*1000003)+Jq x1 2147483647)) Y) (VEv.int .i64 13) (by (rw [Qt (by omega)];done))) (fO (B.rem (n:=((((Ze (l.take i)*1000003)+Jq x1 2147483647)+13).tmod 2147483647)) (tv (tI (((Ze (l.take i)*1000003)+Jq x1 2147483647)+13)) Y) (VEv.int .i64 2147483647) (by omega) (by rfl)) (aO (tI ((((Ze (l.take i)*1000003)+Jq x1 2147483647)+13).tmod 2147483647)) Y (VRunO.nil (vinB.n (tn (VRun.region (mO (tN i) Y ?_)))))))))))
  refine fO (Qx (tv (tN i) Y) (VEv.int .i64 1) (by omega)) (aO (tN (i+1)) Y (VRunO.nil (tn ?_)))
  refine ⟨(i+1:Nat),?_,?_,Wk.mk (fun k=>k) ?_ ?_ ?_⟩
  ·trivial
  ·omega
  ·exact (b2 (b2 (bc ⟨(congrArg (T.int .i64) (show ((((Ze (l.take i)*1000003)+Jq x1 2147483647)+13).tmod 2147483647)=Ze (l.take (i+1)) from (by exact (QfD hx1).symm))),rfl⟩ (b2 bn))))
  ·exact bn
  ·exact nd Y
 refine VRun.exit (vthn.e (vthn.e (vinB.e (tn (sr (mO (tI (Ze (l.take i))) Y (aO (tI (Ze (l.take i))) Y (nt (rt (vi (n':=Ze (l.take i)) Y ?_))))))))))
 rw [Jf hI' fhc0]
theorem QiD (n:Nat) (l:List Int) (hl:l.length≤Y2):Pure (Qs Tryz.prog (n+3)) 100 [(rd 1 Qc l)] (tI (Ze l)):=by
 refine Pure.intro (rs:= [ResultVar.tmp 2]) Tryz.func100 Y Y Y (E0:= [(0,(rd 1 Qc l))]) Y ?_
 obtain ⟨hlim,hmx,hmax⟩:=QA
 refine sr (fO (OF.assign (VEv.int .i64 0)) (nt (sr (fO (OF.assign (VEv.int .i64 11)) (nt (sq (sr (mO (rd 1 Qc l) Y (lO (B.lenR (m:=l.length) (tv (rd 1 Qc l) Y) Z1 (List.length_map ..)) (fO (OF.move (VEv.int .i64 0)) (nt ?_)))))))))))
 refine VRun.block ?_
 refine VRun.loop (A:=Nat) (fun s_=> [(2,(tN 0)),(3,(tI (Ze (l.take s_)))),(6,(rd 1 Qc l)),(7,(tN l.length)),(8,(tN s_))]) (fun s_=>QV []) 0 (fun s_=>s_≤l.length) (fun s_=>l.length - s_) (0:Nat) ?_ (Wk.mk (fun k=>k) ?_ ?_ ?_) ?_
 ·(simp;done)
 ·exact (b2 (bc ⟨(congrArg (T.int .i64) (show 11=Ze (l.take 0) from (by rfl))),rfl⟩ (b2 (b2 (b2 bn)))))
 ·exact bn
 ·exact nd Y
 rintro i (hI':i≤l.length)
 show VRun _ _ _ [(2,(tN 0)),(3,(tI (Ze (l.take i)))),(6,(rd 1 Qc l)),(7,(tN l.length)),(8,(tN i))] (QV []) 0 _
 have hhb:=QhL (l.take i)
 refine sr (fO (Q5 (tv (tN i) Y) (tv (tN l.length) Y)) (nt (sq ?_)))
 refine cd (i<l.length) Y (fun fhc0=> ?_) fun fhc0=> ?_
 ·refine sk ?_
  refine tn (sq (VRun.block (sr ?_)))
  obtain ⟨x1,hx1⟩:∃x,l[i]? =some x:=⟨_,List.getElem?_eq_getElem (by omega)⟩
  have hmz:=Qhz x1
  have hhs:=Qfs (x:=x1) hhb
  have hhs2:QcX (Ze (l.take i)) x1=(Ze (l.take i)*1000003+Jq x1 2147483647+13).tmod 2147483647:=rfl
  refine fO (OF.indexAddrR (row:=(Qc false x1)) (i:=i) (tv (rd 1 Qc l) Y) (tv (tN i) Y) Y (Qr _ hx1) Z1 ZA YR) (lO (OL.loadR1 (t:=(tI x1)) (tv (T.rp [(tI x1)]) Y) Y QQ) (aO (tI x1) Y (nt (VRun.region (mO (tI (Ze (l.take i))) Y (fO (B.mul (n:=(Ze (l.take i)*1000003)) (tv (tI (Ze (l.take i))) Y) (VEv.int .i64 1000003) (by (rw [Qt (by omega)];done))) (mO (tI x1) Y (cO (cS (vc (tv (tI x1) Y) (vc (VEv.int .i64 2147483647) vn)) (Z8 Y) (QiS (n+0) x1 2147483647) Y Y) (fO (B.add (n:=((Ze (l.take i)*1000003)+Jq x1 2147483647)) (tv (tI (Ze (l.take i)*1000003)) Y) (tv (tI (Jq x1 2147483647)) Y) (by (rw [Qt (by omega)];done))) (fO (B.add (n:=(((Ze (l.take i)*1000003)+Jq x1 2147483647)+13)) (tv (tI ((Ze (l.take i)*1000003)+Jq x1 2147483647)) Y) (VEv.int .i64 13) (by (rw [Qt (by omega)];done))) (fO (B.rem (n:=((((Ze (l.take i)*1000003)+Jq x1 2147483647)+13).tmod 2147483647)) (tv (tI (((Ze (l.take i)*1000003)+Jq x1 2147483647)+13)) Y) (VEv.int .i64 2147483647) (by omega) (by rfl)) ?_)))))))))))
  refine aO (tI ((((Ze (l.take i)*1000003)+Jq x1 2147483647)+13).tmod 2147483647)) Y (VRunO.nil (vinB.n (tn (VRun.region (fO (Qx (tv (tN i) Y) (VEv.int .i64 1) (by omega)) (mO (tN (i+1)) Y (VRunO.nil (tn ?_))))))))
  refine ⟨(i+1:Nat),?_,?_,Wk.mk (fun k=>k) ?_ ?_ ?_⟩
  ·trivial
  ·omega
  ·exact (b2 (bc ⟨(congrArg (T.int .i64) (show ((((Ze (l.take i)*1000003)+Jq x1 2147483647)+13).tmod 2147483647)=Ze (l.take (i+1)) from (by exact (QfD hx1).symm))),rfl⟩ (b2 (b2 (b2 bn)))))
  ·exact bn
  ·exact nd Y
 refine VRun.exit (vthn.e (vthn.e (vinB.e (tn (sr (mO (tI (Ze (l.take i))) Y (aO (tI (Ze (l.take i))) Y (nt (rt (vi (n':=Ze (l.take i)) Y ?_))))))))))
 rw [Jf hI' fhc0]
theorem Qd6 (n:Nat) (s:ByteArray) (hs:s.size≤Y2):Pure (Qs Tryz.prog (n+1)) 97 [(tS s)] (T.sl true 1 ((Yd s).map (Qc true))):=by
 refine Pure.intro (rs:= [ResultVar.tmp 2]) Tryz.func97 Y Y Y (E0:= [(0,(tS s))]) Y ?_
 obtain ⟨hlim,hmx,hmax⟩:=QA
 have hbl:=Qcl s
 refine sr (fO (OF.assign VEv.nils) (nt (sr (kO (OM.slice0 Z1 zo3 (by kernel_rfl) Y (by rw [ZA];decide) ZA) (aO (T.os 1 0 0 0) Y (nt (sq (sr (fO (OF.assign (VEv.int .i64 0)) (nt (VRun.block ?_)))))))))))
 have he1: []=(((Yd s).take 0).map (Qc true)):=by rfl
 refine VRun.loop (A:=Nat) (fun s_=> [(0,(tS s)),(2,T.nils),(3,(T.os 1 0 0 ((((Yd s).take s_).map (Qc true)).length))),(4,(tN s_))]) (fun s_=>QV [(0,(Obj.rows 1 (((Yd s).take s_).map (Qc true))))]) 1 (fun s_=>s_≤s.size) (fun s_=>s.size - s_) (0:Nat) ?_ (Wk.mk (fun k=>k) ?_ ?_ ?_) ?_
 ·(simp;done)
 ·exact (b2 (b2 (bc ⟨(congrArg (fun n_=>T.os 1 0 0 n_) (show 0=(((Yd s).take 0).map (Qc true)).length from (by rfl))),rfl⟩ (b2 bn))))
 ·exact (bc ⟨(congrArg (fun l_=>some (Obj.rows 1 l_)) he1),(lb Y),rfl⟩ bn)
 ·exact nd Y
 rintro i (hI':i≤s.size)
 show VRun _ _ _ [(0,(tS s)),(2,T.nils),(3,(T.os 1 0 0 ((((Yd s).take i).map (Qc true)).length))),(4,(tN i))] (QV [(0,(Obj.rows 1 (((Yd s).take i).map (Qc true))))]) 1 _
 have htl:=YK (Yd s) i
 have hbb:=QlO s i
 refine sq (sr (mO (tN i) Y (mO (tS s) Y (lO (B.lenS (tv (tS s) Y) U9) (fO (Q5 (tv (tN i) Y) (tv (tN s.size) Y)) (nt ?_))))))
 refine cd (i<s.size) Y (fun fhc0=> ?_) fun fhc0=> ?_
 ·refine sk ?_
  refine tn (sq (VRun.block (VRun.region (mO (T.os 1 0 0 ((((Yd s).take i).map (Qc true)).length)) Y (mO (tS s) Y (mO (tN i) Y ?_))))))
  have hb2:i<s.size:=(by omega)
  refine fO (xix (tv (tS s) Y) (tv (tN i) Y) hb2 U9) (fO (xcv (m:=(Qv s i)) (tv (T.int .u8 (Qv s i)) Y) U5 U3 (Qt (by omega))) (kO (OM.buildSlice (l:= [(tI (Qv s i))]) (VEvp.cons (tv (tI (Qv s i)) Y) VEvp.nil) Y (by decide) (bc (nofun) bn) (bc ((bc (Y) bn)) bn) (bc (Y) bn) Z1 zo3 (by kernel_rfl) Y (by rw [ZA];decide) ZA (Nat.le_of_ble_eq_true Y)) (cO (B.append (rows:=(((Yd s).take i).map (Qc true))) (rows2:= [[(tI (Qv s i))]]) (rows3:=(((Yd s).take i++ [Qv s i]).map (Qc true))) (VDst.own (tv (T.os 1 0 0 ((((Yd s).take i).map (Qc true)).length)) Y) Y Y) (VSrc.own (tv (T.os 1 1 0 1) Y) Y Y Z1 (bc (bc Y bn) bn)) (by decide) Z1 ZA (by decide) zo3 Y (of_decide_eq_true (by kernel_rfl)) (by (simp only [List.length_map,List.length_append,List.length_cons,List.length_nil,List.length_replicate,List.length_set,List.length_drop,List.length_take,Y2] at *;omega)) ((List.map_append (f:=Qc true) (l₁:=(Yd s).take i) (l₂:= [Qv s i])).symm)) (aO (T.os 1 2 0 ((((Yd s).take i++ [Qv s i]).map (Qc true)).length)) Y (VRunO.nil (vinB.n (tn (VRun.region (mO (tN i) Y (fO (Qx (tv (tN i) Y) (VEv.int .i64 1) (by omega)) (aO (tN (i+1)) Y ?_)))))))))))
  refine VRunO.nil (tn ?_)
  have he3:((Yd s).take i++ [Qv s i])=(Yd s).take (i+1):=by exact Qh4 fhc0
  refine ⟨(i+1:Nat),?_,?_,Wk.mk (fun k=>if k=0 then 2 else k) ?_ ?_ ?_⟩
  ·trivial
  ·omega
  ·exact (b2 (b2 (bc ⟨(congrArg (fun l_=>T.os 1 2 0 (List.map (Qc true) l_).length) he3),rfl⟩ (b2 bn))))
  ·exact (bc ⟨(congrArg (fun l_=>some (Obj.rows 1 (List.map (Qc true) l_))) he3),(lb Y),rfl⟩ bn)
  ·exact nd Y
 refine VRun.exit (vthn.e (vthn.e (vinB.e (tn (sr (mO (T.os 1 0 0 ((((Yd s).take i).map (Qc true)).length)) Y (aO (T.os 1 0 0 ((((Yd s).take i).map (Qc true)).length)) Y (nt (rt ?_)))))))))
 refine vfin.eq (r':=(T.sl true 1 (((Yd s).take i).map (Qc true)))) ?_ (vfin.r (VRes.tmp (t:=(T.os 1 0 0 ((((Yd s).take i).map (Qc true)).length))) Y VRes.nil) (Give.os Y Y (okInt.cleanMap _)))
 refine congrArg (fun l_=>T.sl true 1 (List.map (Qc true) l_)) ?_
 rw [Jf (by omega) (by omega)]
theorem QdY (n:Nat) (s:ByteArray) (hs:s.size≤Y2):Pure (Qs Tryz.prog (n+1)) 101 [(tS s)] (T.sl true 1 ((Yd s).map (Qc true))):=by
 refine Pure.intro (rs:= [ResultVar.tmp 2]) Tryz.func101 Y Y Y (E0:= [(0,(tS s))]) Y ?_
 obtain ⟨hlim,hmx,hmax⟩:=QA
 have hbl:=Qcl s
 refine sr (fO (OF.assign VEv.nils) (nt (sr (fO (OF.assign VEv.nils) (nt (sq (sr (mO (tS s) Y (lO (B.lenS (tv (tS s) Y) U9) (fO (OF.move (VEv.int .i64 0)) (nt ?_)))))))))))
 refine VRun.block (VRun.wk (Wk.phantom 3 1 Y) ?_)
 have he1: []=(((Yd s).take 0).map (Qc true)):=by rfl
 refine VRun.loop (A:=Nat) (fun s_=> [(0,(tS s)),(2,T.nils),(3,(T.os 1 0 0 ((((Yd s).take s_).map (Qc true)).length))),(6,(tN s.size)),(7,(tN s_))]) (fun s_=>QV [(0,(Obj.rows 1 (((Yd s).take s_).map (Qc true))))]) 1 (fun s_=>s_≤s.size) (fun s_=>s.size - s_) (0:Nat) ?_ (Wk.mk (fun k=>k) ?_ ?_ ?_) ?_
 ·(simp;done)
 ·exact (b2 (b2 (bc ⟨(congrArg (fun n_=>T.os 1 0 0 n_) (show 0=(((Yd s).take 0).map (Qc true)).length from (by rfl))),rfl⟩ (b2 (b2 bn)))))
 ·exact (bc ⟨(congrArg (fun l_=>some (Obj.rows 1 l_)) he1),(lb Y),rfl⟩ bn)
 ·exact nd Y
 rintro i (hI':i≤s.size)
 show VRun _ _ _ [(0,(tS s)),(2,T.nils),(3,(T.os 1 0 0 ((((Yd s).take i).map (Qc true)).length))),(6,(tN s.size)),(7,(tN i))] (QV [(0,(Obj.rows 1 (((Yd s).take i).map (Qc true))))]) 1 _
 have htl:=YK (Yd s) i
 have hbb:=QlO s i
 refine sr (fO (Q5 (tv (tN i) Y) (tv (tN s.size) Y)) (nt (sq ?_)))
 refine cd (i<s.size) Y (fun fhc0=> ?_) fun fhc0=> ?_
 ·refine sk ?_
  refine tn (sq (VRun.block (sr (mO (tN i) Y (aO (tN i) Y (nt (VRun.region (mO (T.os 1 0 0 ((((Yd s).take i).map (Qc true)).length)) Y (mO (tS s) Y (mO (tN i) Y ?_))))))))))
  have hb2:i<s.size:=(by omega)
  refine fO (xix (tv (tS s) Y) (tv (tN i) Y) hb2 U9) (fO (xcv (m:=(Qv s i)) (tv (T.int .u8 (Qv s i)) Y) U5 U3 (Qt (by omega))) (kO (OM.buildSlice (l:= [(tI (Qv s i))]) (VEvp.cons (tv (tI (Qv s i)) Y) VEvp.nil) Y (by decide) (bc (nofun) bn) (bc ((bc (Y) bn)) bn) (bc (Y) bn) Z1 zo3 (by kernel_rfl) Y (by rw [ZA];decide) ZA (Nat.le_of_ble_eq_true Y)) (cO (B.append (rows:=(((Yd s).take i).map (Qc true))) (rows2:= [[(tI (Qv s i))]]) (rows3:=(((Yd s).take i++ [Qv s i]).map (Qc true))) (VDst.own (tv (T.os 1 0 0 ((((Yd s).take i).map (Qc true)).length)) Y) Y Y) (VSrc.own (tv (T.os 1 1 0 1) Y) Y Y Z1 (bc (bc Y bn) bn)) (by decide) Z1 ZA (by decide) zo3 Y (of_decide_eq_true (by kernel_rfl)) (by (simp only [List.length_map,List.length_append,List.length_cons,List.length_nil,List.length_replicate,List.length_set,List.length_drop,List.length_take,Y2] at *;omega)) ((List.map_append (f:=Qc true) (l₁:=(Yd s).take i) (l₂:= [Qv s i])).symm)) (aO (T.os 1 2 0 ((((Yd s).take i++ [Qv s i]).map (Qc true)).length)) Y (VRunO.nil (vinB.n (tn (VRun.region (fO (Qx (tv (tN i) Y) (VEv.int .i64 1) (by omega)) (mO (tN (i+1)) Y (VRunO.nil ?_)))))))))))
  refine tn ?_
  have he3:((Yd s).take i++ [Qv s i])=(Yd s).take (i+1):=by exact Qh4 fhc0
  refine ⟨(i+1:Nat),?_,?_,Wk.mk (fun k=>if k=0 then 2 else k) ?_ ?_ ?_⟩
  ·trivial
  ·omega
  ·exact (b2 (b2 (bc ⟨(congrArg (fun l_=>T.os 1 2 0 (List.map (Qc true) l_).length) he3),rfl⟩ (b2 (b2 bn)))))
  ·exact (bc ⟨(congrArg (fun l_=>some (Obj.rows 1 (List.map (Qc true) l_))) he3),(lb Y),rfl⟩ bn)
  ·exact nd Y
 refine VRun.exit (vthn.e (vthn.e (vinB.e (tn (sr (mO (T.os 1 0 0 ((((Yd s).take i).map (Qc true)).length)) Y (aO (T.os 1 0 0 ((((Yd s).take i).map (Qc true)).length)) Y (nt (rt ?_)))))))))
 refine vfin.eq (r':=(T.sl true 1 (((Yd s).take i).map (Qc true)))) ?_ (vfin.r (VRes.tmp (t:=(T.os 1 0 0 ((((Yd s).take i).map (Qc true)).length))) Y VRes.nil) (Give.os Y Y (okInt.cleanMap _)))
 refine congrArg (fun l_=>T.sl true 1 (List.map (Qc true) l_)) ?_
 rw [Jf (by omega) (by omega)]
theorem Qdu (n:Nat) (salt:Int) (slot:Int) (w:ByteArray) (hw:w.size≤maxLen):Pure (Qs Tryz.prog (n+4)) 81 [(tI salt),(tI slot),(tS w)] (tI (JW salt slot w)):=by
 refine Pure.intro (rs:= [ResultVar.tmp 6]) Tryz.func81 Y Y Y (E0:= [(0,(tI salt)),(1,(tI slot)),(2,(tS w))]) Y ?_
 obtain ⟨hlim,hmx,hmax⟩:=QA
 have hbl:=Qcl w
 refine sr (fO (OF.assign (VEv.int .i64 0)) (nt (sq (sr (mO (tS w) Y (cO (cS (vc (tv (tS w) Y) vn) (Z8 Y) (QaN (n+1) w (by assumption)) Y Y) (fO (Zd (tv (tB (decide (ZB w))) Y)) (nt ?_))))))))
 refine cn (ZB w) Y (fun fhc0=> ?_) fun fhc0=> ?_
 ·refine sr ?_
  refine fO (OF.assign (VEv.int .i64 0)) (nt (rt (tr (vi (n':=0) Y ?_))))
  unfold JW;rw [if_neg fhc0]
 have hw8:=fhc0.1.2
 refine sk (tn (sr (mO (tI salt) Y (mO (tI slot) Y (mO (tS w) Y (lO (B.lenS (tv (tS w) Y) U9) (kO (OM.buildSlice (l:= [(tI salt),(tI slot),(tN w.size)]) (VEvp.cons (tv (tI salt) Y) (VEvp.cons (tv (tI slot) Y) (VEvp.cons (tv (tN w.size) Y) VEvp.nil))) Y (by decide) (bc (nofun) (bc (nofun) (bc (nofun) bn))) (bc ((bc (Y) bn)) (bc ((bc (Y) bn)) (bc ((bc (Y) bn)) bn))) (bc (Y) (bc (Y) (bc (Y) bn))) Z1 zo3 (by kernel_rfl) Y (by rw [ZA];decide) ZA (Nat.le_of_ble_eq_true Y)) (mO (tS w) Y (cO (OC.callF (r':=(T.os 1 1 0 (((Yd w).map (Qc true)).length))) (objs:= [(Obj.rows 1 ((Yd w).map (Qc true)))]) Y (vc (tv (tS w) Y) vn) (Z8 Y) (Qd6 (n+2) w (by omega)) Y) (cO (B.append (rows:= [[(tI salt)],[(tI slot)],[(tN w.size)]]) (rows2:=((Yd w).map (Qc true))) (rows3:=(([salt,slot,((w.size:Nat):Int)]++Yd w).map (Qc true))) (VDst.own (tv (T.os 1 0 0 3) Y) Y Y) (VSrc.own (tv (T.os 1 1 0 (((Yd w).map (Qc true)).length)) Y) Y Y Z1 (okInt.okMap _ _)) (by decide) Z1 ZA (by decide) zo3 Y (of_decide_eq_true (by kernel_rfl)) (by (simp only [List.length_append,List.length_cons,List.length_nil,List.length_map];omega)) ((List.map_append (f:=Qc true) (l₁:= [salt,slot,((w.size:Nat):Int)]) (l₂:=Yd w)).symm)) (cO (cS (us:= [(rd 1 Qc ([salt,slot,((w.size:Nat):Int)]++Yd w))]) (vc (tv (T.os 1 2 0 ((([salt,slot,((w.size:Nat):Int)]++Yd w).map (Qc true)).length)) Y) vn) (LendL.cons (Lend.os Y Y (okInt.fzMap _ _)) ln) (Qil (n+0) ([salt,slot,((w.size:Nat):Int)]++Yd w) (by (simp only [List.length_append,List.length_cons,List.length_nil,List.length_map];omega))) Y Y) ?_)))))))))))
 refine aO (tI (Ze ([salt,slot,((w.size:Nat):Int)]++Yd w))) Y (nt (rt (vi (n':=Ze ([salt,slot,((w.size:Nat):Int)]++Yd w)) Y ?_)))
 unfold JW;rw [if_pos fhc0]
theorem Qc9 (n:Nat) (salt:Int) (slot:Int) (w:ByteArray) (hw:w.size≤maxLen):Pure (Qs Tryz.prog (n+4)) 87 [(tI salt),(tI slot),(tS w)] (tI (JW salt slot w)):=by
 refine Pure.intro (rs:= [ResultVar.tmp 6]) Tryz.func87 Y Y Y (E0:= [(0,(tI salt)),(1,(tI slot)),(2,(tS w))]) Y ?_
 obtain ⟨hlim,hmx,hmax⟩:=QA
 have hbl:=Qcl w
 refine sr (fO (OF.assign (VEv.int .i64 0)) (nt (sq (sr (mO (tS w) Y (cO (cS (vc (tv (tS w) Y) vn) (Z8 Y) (QaW (n+1) w (by assumption)) Y Y) (fO (Zd (tv (tB (decide (ZB w))) Y)) (nt ?_))))))))
 refine cn (ZB w) Y (fun fhc0=> ?_) fun fhc0=> ?_
 ·refine sr ?_
  refine fO (OF.assign (VEv.int .i64 0)) (nt (rt (tr (vi (n':=0) Y ?_))))
  unfold JW;rw [if_neg fhc0]
 have hw8:=fhc0.1.2
 refine sk (tn (sr (mO (tI salt) Y (mO (tI slot) Y (mO (tS w) Y (lO (B.lenS (tv (tS w) Y) U9) (kO (OM.buildSlice (l:= [(tI salt),(tI slot),(tN w.size)]) (VEvp.cons (tv (tI salt) Y) (VEvp.cons (tv (tI slot) Y) (VEvp.cons (tv (tN w.size) Y) VEvp.nil))) Y (by decide) (bc (nofun) (bc (nofun) (bc (nofun) bn))) (bc ((bc (Y) bn)) (bc ((bc (Y) bn)) (bc ((bc (Y) bn)) bn))) (bc (Y) (bc (Y) (bc (Y) bn))) Z1 zo3 (by kernel_rfl) Y (by rw [ZA];decide) ZA (Nat.le_of_ble_eq_true Y)) (mO (tS w) Y (cO (OC.callF (r':=(T.os 1 1 0 (((Yd w).map (Qc true)).length))) (objs:= [(Obj.rows 1 ((Yd w).map (Qc true)))]) Y (vc (tv (tS w) Y) vn) (Z8 Y) (QdY (n+2) w (by omega)) Y) (cO (B.append (rows:= [[(tI salt)],[(tI slot)],[(tN w.size)]]) (rows2:=((Yd w).map (Qc true))) (rows3:=(([salt,slot,((w.size:Nat):Int)]++Yd w).map (Qc true))) (VDst.own (tv (T.os 1 0 0 3) Y) Y Y) (VSrc.own (tv (T.os 1 1 0 (((Yd w).map (Qc true)).length)) Y) Y Y Z1 (okInt.okMap _ _)) (by decide) Z1 ZA (by decide) zo3 Y (of_decide_eq_true (by kernel_rfl)) (by (simp only [List.length_append,List.length_cons,List.length_nil,List.length_map];omega)) ((List.map_append (f:=Qc true) (l₁:= [salt,slot,((w.size:Nat):Int)]) (l₂:=Yd w)).symm)) (cO (cS (us:= [(rd 1 Qc ([salt,slot,((w.size:Nat):Int)]++Yd w))]) (vc (tv (T.os 1 2 0 ((([salt,slot,((w.size:Nat):Int)]++Yd w).map (Qc true)).length)) Y) vn) (LendL.cons (Lend.os Y Y (okInt.fzMap _ _)) ln) (QiD (n+0) ([salt,slot,((w.size:Nat):Int)]++Yd w) (by (simp only [List.length_append,List.length_cons,List.length_nil,List.length_map];omega))) Y Y) ?_)))))))))))
 refine aO (tI (Ze ([salt,slot,((w.size:Nat):Int)]++Yd w))) Y (nt (rt (vi (n':=Ze ([salt,slot,((w.size:Nat):Int)]++Yd w)) Y ?_)))
 unfold JW;rw [if_pos fhc0]
theorem Qct (n:Nat) (seals:List Int) (salt:Int) (slot:Int) (w:ByteArray) (hl:seals.length≤Y2) (hw:w.size≤maxLen):Pure (Qs Tryz.prog (n+5)) 65 [(rd 1 Qc seals),(tI salt),(tI slot),(tS w)] (tB (decide (QfA seals salt slot w))):=by
 refine Pure.intro (rs:= [ResultVar.tmp 8]) Tryz.func65 Y Y Y (E0:= [(0,(rd 1 Qc seals)),(1,(tI salt)),(2,(tI slot)),(3,(tS w))]) Y ?_
 obtain ⟨hlim,hmx,hmax⟩:=QA
 refine sr (fO (OF.assign (VEv.bool false)) (nt (sq (VRun.draw (B:= [[],[],[1],[1,2],[2,1,3,0],[0,3,1,2,4],[4,2,1,3,0,5],[5,0,3,1,2,4,6],[6,7,4,2,1,3,0,5],[5,0,3,1,2,4,7,6,8],[8,6,7,4,2,1,3,0,5,9],[8,6,7,4,2,1,3,0,5,9],[8,6,7,4,2,1,3,0,5,9],[12,11,9,5,0,3,1,2,4,7,6,8,10],[8,6,7,4,2,1,3,0,5,9],[8,6,7,4,2,1,3,0,5,9],[15,9,5,0,3,1,2,4,7,6,8,14],[14,8,6,7,4,2,1,3,0,5,9,15,16],[16,15,14,17,10,8,6,7,4,2,1,3,0,5,9,11,12,13],[13,12,11,10,17,14,15,16,18,8,6,7,4,2,1,3,0,5,9],[9,5,0,3,1,2,4,7,6,8,18,16,15,14,17,10,11,12,13,19]]) (by kernel_rfl) (by kernel_rfl) Y (mD (tI slot) Y Y (mD (rd 1 Qc seals) Y Y (lD (B.lenR (m:=seals.length) (tv (rd 1 Qc seals) Y) Z1 (List.length_map ..)) Y Y (fD (B.sub (n:=(((seals.length:Nat):Int) - 1)) (tv (tN seals.length) Y) (VEv.int .i64 1) (by (rw [Qt (by omega)];done))) Y Y (VRunD.quiet (bi:= [2,1,3,0]) Y VWant.always Y Y Y bn (cS (vc (tv (tI slot) Y) (vc (VEv.int .i64 0) (vc (tv (tI (((seals.length:Nat):Int) - 1)) Y) vn))) (Z8 Y) (Q2 (n+3) slot 0 (((seals.length:Nat):Int) - 1)) Y Y) (mD (tB (decide (0≤slot∧slot≤(((seals.length:Nat):Int) - 1)))) Y Y ?_))))))))))
 refine gw (0≤slot∧slot≤(((seals.length:Nat):Int) - 1)) (fun fhg14_1=> ?_) fun fhg14_1=> ?_
 ·refine VRunD.free Y (VWant.on Y Y (dy fhg14_1)) Y (OF.move (tv (tS w) Y)) ?_
  refine VRunD.quiet (bi:= [5,0,3,1,2,4,6]) Y (VWant.on Y Y (dy fhg14_1)) Y Y Y bn (cS (vc (tv (tS w) Y) vn) (Z8 Y) (QaN (n+2) w (by assumption)) Y Y) (fD (OF.pickT (VEv.tmpB Y (dy fhg14_1)) (tv (tB (decide (ZB w))) Y)) Y Y (mD (tB (decide (ZB w))) Y Y ?_))
  refine gw (ZB w) (fun fhg18_2=> ?_) fun fhg18_2=> ?_
  ·refine VRunD.free Y (VWant.on Y Y (dy fhg18_2)) Y (OF.move (tv (tI salt) Y)) ?_
   refine VRunD.free Y (VWant.on Y Y (dy fhg18_2)) Y (OF.move (tv (tI slot) Y)) (VRunD.free Y (VWant.on Y Y (dy fhg18_2)) Y (OF.move (tv (tS w) Y)) (VRunD.quiet (bi:= [12,11,9,5,0,3,1,2,4,7,6,8,10]) Y (VWant.on Y Y (dy fhg18_2)) Y Y Y bn (cS (vc (tv (tI salt) Y) (vc (tv (tI slot) Y) (vc (tv (tS w) Y) vn))) (Z8 Y) (Qdu (n+0) salt slot w (by assumption)) Y Y) (VRunD.free Y (VWant.on Y Y (dy fhg18_2)) Y (OF.move (tv (rd 1 Qc seals) Y)) (VRunD.free Y (VWant.on Y Y (dy fhg18_2)) Y (OF.move (tv (tI slot) Y)) ?_))))
   obtain ⟨x1,hx1⟩:∃x,seals[(Int.toNat slot)]? =some x:=⟨_,List.getElem?_eq_getElem (by omega)⟩
   refine VRunD.free Y (VWant.on Y Y (dy fhg18_2)) Y (OF.indexAddrR (row:=(Qc false x1)) (i:=(Int.toNat slot)) (tv (rd 1 Qc seals) Y) (tv (tI slot) Y) (by omega) (Qr _ hx1) Z1 ZA YR) (VRunD.look Y (VWant.on Y Y (dy fhg18_2)) Y (OL.loadR1 (t:=(tI x1)) (tv (T.rp [(tI x1)]) Y) Y QQ) (VRunD.free Y (VWant.on Y Y (dy fhg18_2)) Y (J6 (tv (tI (JW salt slot w)) Y) (tv (tI x1) Y)) (fD (OF.pickT (VEv.tmpB Y (dy fhg18_2)) (tv (tB (decide (JW salt slot w=x1))) Y)) Y Y (fD (OF.assign (tv (tB (decide (JW salt slot w=x1))) Y)) Y Y (VRunD.nil (tn (rt (vb (b':=(decide (JW salt slot w=x1))) Y ?_))))))))
   (refine Q8 (QjY ?_ ?_ hx1);omega;assumption)
  refine oD Y Y (dz fhg18_2) Y (oD Y Y (dz fhg18_2) Y (oD Y Y (dz fhg18_2) Y (oD Y Y (dz fhg18_2) Y (oD Y Y (dz fhg18_2) Y (oD Y Y (dz fhg18_2) Y (oD Y Y (dz fhg18_2) Y (oD Y Y (dz fhg18_2) Y (oD Y Y (dz fhg18_2) Y (fD (OF.pickF (VEv.tmpB Y (dz fhg18_2)) (VEv.bool false)) Y Y (fD (OF.assign (tv (tB false) Y)) Y Y (VRunD.nil ?_)))))))))))
  refine tn (rt (vb (b':=false) Y ?_))
  (symm;rw [decide_eq_false_iff_not];intro h;have h2:=QeM h;have h3:=h.1;exact absurd h.2.1 (by assumption))
 refine oD Y Y (dz fhg14_1) Y (oD Y Y (dz fhg14_1) Y (fD (OF.pickF (VEv.tmpB Y (dz fhg14_1)) (VEv.bool false)) Y Y (mD (tB false) Y Y (VRunD.off Y (VWant.not (b:=false) Y Y Y) (VRunD.off Y (VWant.not (b:=false) Y Y Y) (VRunD.off Y (VWant.not (b:=false) Y Y Y) (VRunD.off Y (VWant.not (b:=false) Y Y Y) (VRunD.off Y (VWant.not (b:=false) Y Y Y) (VRunD.off Y (VWant.not (b:=false) Y Y Y) (VRunD.off Y (VWant.not (b:=false) Y Y Y) (VRunD.off Y (VWant.not (b:=false) Y Y Y) ?_)))))))))))
 refine VRunD.off Y (VWant.not (b:=false) Y Y Y) (fD (OF.pickF (tv (tB false) Y) (VEv.bool false)) Y Y (fD (OF.assign (tv (tB false) Y)) Y Y (VRunD.nil (tn (rt (vb (b':=false) Y ?_))))))
 (symm;rw [decide_eq_false_iff_not];intro h;have h2:=QeM h;have h3:=h.1;omega)
theorem Qcr (n:Nat) (seals:List Int) (salt:Int) (slot:Int) (w:ByteArray) (hl:seals.length≤Y2) (hw:w.size≤maxLen):Pure (Qs Tryz.prog (n+5)) 68 [(rd 1 Qc seals),(tI salt),(tI slot),(tS w)] (tB (decide (QfA seals salt slot w))):=by
 refine Pure.intro (rs:= [ResultVar.tmp 8]) Tryz.func68 Y Y Y (E0:= [(0,(rd 1 Qc seals)),(1,(tI salt)),(2,(tI slot)),(3,(tS w))]) Y ?_
 obtain ⟨hlim,hmx,hmax⟩:=QA
 refine sr (fO (OF.assign (VEv.bool false)) (nt (sq (VRun.draw (B:= [[],[],[1],[1,2,0],[0,2,1,3],[3,1,2,0,4],[4,0,2,1,3,5],[5,6,3,1,2,0,4],[4,0,2,1,3,6,5,7],[7,5,6,3,1,2,0,4,8],[7,5,6,3,1,2,0,4,8],[7,5,6,3,1,2,0,4,8],[11,10,8,4,0,2,1,3,6,5,7,9],[7,5,6,3,1,2,0,4,8],[7,5,6,3,1,2,0,4,8],[14,8,4,0,2,1,3,6,5,7,13],[13,7,5,6,3,1,2,0,4,8,14,15],[15,14,13,16,9,7,5,6,3,1,2,0,4,8,10,11,12],[12,11,10,9,16,13,14,15,17,7,5,6,3,1,2,0,4,8],[8,4,0,2,1,3,6,5,7,17,15,14,13,16,9,10,11,12,18]]) (by kernel_rfl) (by kernel_rfl) Y (mD (tI slot) Y Y (mD (rd 1 Qc seals) Y Y (lD (B.lenR (m:=seals.length) (tv (rd 1 Qc seals) Y) Z1 (List.length_map ..)) Y Y (VRunD.quiet (bi:= [1,2,0]) Y VWant.always Y Y Y bn (cS (vc (tv (tI slot) Y) (vc (tv (tN seals.length) Y) vn)) (Z8 Y) (Jy (n+3) slot ((seals.length:Nat):Int)) Y Y) (mD (tB (decide (0≤slot∧slot<((seals.length:Nat):Int)))) Y Y ?_)))))))))
 refine gw (0≤slot∧slot<((seals.length:Nat):Int)) (fun fhg13_1=> ?_) fun fhg13_1=> ?_
 ·refine VRunD.free Y (VWant.on Y Y (dy fhg13_1)) Y (OF.move (tv (tS w) Y)) ?_
  refine VRunD.quiet (bi:= [4,0,2,1,3,5]) Y (VWant.on Y Y (dy fhg13_1)) Y Y Y bn (cS (vc (tv (tS w) Y) vn) (Z8 Y) (QaW (n+2) w (by assumption)) Y Y) (fD (OF.pickT (VEv.tmpB Y (dy fhg13_1)) (tv (tB (decide (ZB w))) Y)) Y Y (mD (tB (decide (ZB w))) Y Y ?_))
  refine gw (ZB w) (fun fhg17_2=> ?_) fun fhg17_2=> ?_
  ·refine VRunD.free Y (VWant.on Y Y (dy fhg17_2)) Y (OF.move (tv (tI salt) Y)) ?_
   refine VRunD.free Y (VWant.on Y Y (dy fhg17_2)) Y (OF.move (tv (tI slot) Y)) (VRunD.free Y (VWant.on Y Y (dy fhg17_2)) Y (OF.move (tv (tS w) Y)) (VRunD.quiet (bi:= [11,10,8,4,0,2,1,3,6,5,7,9]) Y (VWant.on Y Y (dy fhg17_2)) Y Y Y bn (cS (vc (tv (tI salt) Y) (vc (tv (tI slot) Y) (vc (tv (tS w) Y) vn))) (Z8 Y) (Qc9 (n+0) salt slot w (by assumption)) Y Y) (VRunD.free Y (VWant.on Y Y (dy fhg17_2)) Y (OF.move (tv (rd 1 Qc seals) Y)) (VRunD.free Y (VWant.on Y Y (dy fhg17_2)) Y (OF.move (tv (tI slot) Y)) ?_))))
   obtain ⟨x1,hx1⟩:∃x,seals[(Int.toNat slot)]? =some x:=⟨_,List.getElem?_eq_getElem (by omega)⟩
   refine VRunD.free Y (VWant.on Y Y (dy fhg17_2)) Y (OF.indexAddrR (row:=(Qc false x1)) (i:=(Int.toNat slot)) (tv (rd 1 Qc seals) Y) (tv (tI slot) Y) (by omega) (Qr _ hx1) Z1 ZA YR) (VRunD.look Y (VWant.on Y Y (dy fhg17_2)) Y (OL.loadR1 (t:=(tI x1)) (tv (T.rp [(tI x1)]) Y) Y QQ) (VRunD.free Y (VWant.on Y Y (dy fhg17_2)) Y (J6 (tv (tI (JW salt slot w)) Y) (tv (tI x1) Y)) (fD (OF.pickT (VEv.tmpB Y (dy fhg17_2)) (tv (tB (decide (JW salt slot w=x1))) Y)) Y Y (fD (OF.assign (tv (tB (decide (JW salt slot w=x1))) Y)) Y Y (VRunD.nil (tn (rt (vb (b':=(decide (JW salt slot w=x1))) Y ?_))))))))
   (refine Q8 (QjY ?_ ?_ hx1);omega;assumption)
  refine oD Y Y (dz fhg17_2) Y (oD Y Y (dz fhg17_2) Y (oD Y Y (dz fhg17_2) Y (oD Y Y (dz fhg17_2) Y (oD Y Y (dz fhg17_2) Y (oD Y Y (dz fhg17_2) Y (oD Y Y (dz fhg17_2) Y (oD Y Y (dz fhg17_2) Y (oD Y Y (dz fhg17_2) Y (fD (OF.pickF (VEv.tmpB Y (dz fhg17_2)) (VEv.bool false)) Y Y (fD (OF.assign (tv (tB false) Y)) Y Y (VRunD.nil ?_)))))))))))
  refine tn (rt (vb (b':=false) Y ?_))
  (symm;rw [decide_eq_false_iff_not];intro h;have h2:=QeM h;have h3:=h.1;exact absurd h.2.1 (by assumption))
 refine oD Y Y (dz fhg13_1) Y (oD Y Y (dz fhg13_1) Y (fD (OF.pickF (VEv.tmpB Y (dz fhg13_1)) (VEv.bool false)) Y Y (mD (tB false) Y Y (VRunD.off Y (VWant.not (b:=false) Y Y Y) (VRunD.off Y (VWant.not (b:=false) Y Y Y) (VRunD.off Y (VWant.not (b:=false) Y Y Y) (VRunD.off Y (VWant.not (b:=false) Y Y Y) (VRunD.off Y (VWant.not (b:=false) Y Y Y) (VRunD.off Y (VWant.not (b:=false) Y Y Y) (VRunD.off Y (VWant.not (b:=false) Y Y Y) (VRunD.off Y (VWant.not (b:=false) Y Y Y) ?_)))))))))))
 refine VRunD.off Y (VWant.not (b:=false) Y Y Y) (fD (OF.pickF (tv (tB false) Y) (VEv.bool false)) Y Y (fD (OF.assign (tv (tB false) Y)) Y Y (VRunD.nil (tn (rt (vb (b':=false) Y ?_))))))
 (symm;rw [decide_eq_false_iff_not];intro h;have h2:=QeM h;have h3:=h.1;omega)
noncomputable section
def QM (g:D.Grid) (f:ByteArray) (seals:List Int) (salt:Int):Nat→List Int
 | 0=> []
 | i+1=>QM g f seals salt i++(if QfA seals salt ((i:Nat):Int) (YC g f ((i:Nat):Int)) then [((i:Nat):Int)] else [])
def Zg (g:D.Grid) (f:ByteArray) (seals:List Int) (salt:Int):List Int:=if QN g f then QM g f seals salt (Qb g).length else []
theorem Qbs (g:D.Grid) (f:ByteArray) (seals:List Int) (salt:Int):∀i,(QM g f seals salt i).length≤i
 | 0=>Nat.le_refl _
 | i+1=>by
  have:=Qbs g f seals salt i
  unfold QM
  rw [List.length_append]
  split<;>simp only [List.length_cons,List.length_nil]<;>omega
theorem Qbu (g:D.Grid) (f:ByteArray) (seals:List Int) (salt:Int):(Zg g f seals salt).length≤72:=by
 unfold Zg
 split
 ·exact Nat.le_trans (Qbs _ _ _ _ _) (Zw g)
 ·simp
theorem QgA {g:D.Grid} {f:ByteArray} {seals:List Int} {salt:Int} {i:Nat} (h:QfA seals salt ((i:Nat):Int) (YC g f ((i:Nat):Int))):QM g f seals salt i++ [((i:Nat):Int)]=QM g f seals salt (i+1):=by rw [QM,if_pos h]
theorem Qib {g:D.Grid} {f:ByteArray} {seals:List Int} {salt:Int} {i:Nat} (h:¬QfA seals salt ((i:Nat):Int) (YC g f ((i:Nat):Int))):QM g f seals salt i=QM g f seals salt (i+1):=by rw [QM,if_neg h,List.append_nil]
theorem QgM {g:D.Grid} {f:ByteArray} {seals:List Int} {salt:Int} {i:Nat} (h1:i≤(Qb g).length) (h2:QN g f∨i=0) (h3:¬(i<(Qb g).length∧QN g f)):QM g f seals salt i=Zg g f seals salt:=by
 unfold Zg
 by_cases h:QN g f
 ·rw [if_pos h,show i=(Qb g).length by have:¬i<(Qb g).length:=fun e=>h3 ⟨e,h⟩;omega]
 ·rw [if_neg h,h2.resolve_left h];rfl
theorem Qc0 (g:D.Grid) (f:ByteArray) (slot:Int):(YC g f slot).size≤6:=by
 unfold YC
 split
 ·split
  ·rename_i s hs
   split
   ·rw [QhY];exact Qch hs
   ·exact Nat.zero_le _
  ·exact Nat.zero_le _
 ·exact Nat.zero_le _
theorem Qh6 (g:D.Grid) (f:ByteArray):(Yk g f).length≤(Qb g).length:=by
 by_cases h:QN g f
 ·rw [Qgu h];exact Nat.le_refl _
 ·unfold Yk;rw [if_neg h];exact Nat.zero_le _
theorem QlG {g:D.Grid} {f:ByteArray} (h:¬QN g f):Yk g f= []:=if_neg h
theorem Qi2 {g:D.Grid} {f:ByteArray} {seals:List Int} {salt:Int} {i:Nat} (h1:i≤(Yk g f).length) (h2:¬i<(Yk g f).length):QM g f seals salt i=Zg g f seals salt:=by
 have hpl:=Qh6 g f
 refine QgM (by omega) ?_ ?_
 ·by_cases h:QN g f
  ·exact .inl h
  ·right;rw [QlG h] at h1;exact Nat.le_zero.1 h1
 ·rintro ⟨h3,h4⟩;rw [Qgu h4] at h2;exact h2 h3
end
theorem QaG (n:Nat) (g:D.Grid) (f:ByteArray) (seals:List Int) (salt:Int) (hc:g.Cells.size≤maxLen) (hf:f.size≤maxLen) (hl:seals.length≤Y2):Pure (Qs Tryz.prog (n+6)) 49 [(T.agg (Qd false g)),(tS f),(rd 1 Qc seals),(tI salt)] (T.sl true 1 ((Zg g f seals salt).map (Qc true))):=by
 refine Pure.intro (rs:= [ResultVar.tmp 8]) Tryz.func49 Y Y Y (E0:= [(0,(T.agg (Qd false g))),(1,(tS f)),(2,(rd 1 Qc seals)),(3,(tI salt))]) Y ?_
 obtain ⟨hlim,hmx,hmax⟩:=QA
 have hsl:=Zw g
 refine sr (kO (B.box (ts:=(Qd false g)) (tv (T.agg (Qd false g)) Y) nofun Y) (fO (OF.assign VEv.nils) (nt (sr (kO (OM.slice0 Z1 zo3 (by kernel_rfl) Y (by rw [ZA];decide) ZA) (aO (T.os 1 1 0 0) Y (nt (sr (lO (OL.loadOn (us:=(Qd false g)) (tv (T.op 0 0) Y) Y Q4 Q0 (lb Y) Y) (cO (OC.callF (r':=(T.os 4 2 0 (((Qb g).map (Qj true)).length))) (objs:= [(Obj.rows 4 ((Qb g).map (Qj true)))]) Y (vc (tv (T.agg (Qd false g)) Y) vn) (LendL.cons (lg Qu) ln) (ZP (n+2) g (by assumption)) Y) (aO (T.os 4 2 0 (((Qb g).map (Qj true)).length)) Y ?_)))))))))))
 refine nt (sq (sr (fO (OF.assign (VEv.int .i64 0)) (nt (VRun.block ?_)))))
 have he1: []=((QM g f seals salt 0).map (Qc true)):=by rfl
 refine VRun.loop (A:=Nat) (fun s_=> [(1,(tS f)),(2,(rd 1 Qc seals)),(3,(tI salt)),(4,(T.op 0 0)),(8,T.nils),(9,(T.os 1 2 0 (((QM g f seals salt s_).map (Qc true)).length))),(10,(T.os 4 1 0 (((Qb g).map (Qj true)).length))),(11,(tN s_))]) (fun s_=>QV [(0,(Obj.cells (Qd false g))),(1,(Obj.rows 4 ((Qb g).map (Qj true)))),(2,(Obj.rows 1 ((QM g f seals salt s_).map (Qc true))))]) 3 (fun s_=>s_≤(Qb g).length∧(QN g f∨s_=0)) (fun s_=>(Qb g).length - s_) (0:Nat) ?_ (Wk.mk (fun k=>if k=1 then 2 else if k=2 then 1 else k) ?_ ?_ ?_) ?_
 ·exact ⟨Nat.zero_le _, .inr Y⟩
 ·exact (b2 (b2 (b2 (b2 (b2 (bc ⟨(congrArg (fun n_=>T.os 1 1 0 n_) (show 0=((QM g f seals salt 0).map (Qc true)).length from (by rfl))),rfl⟩ (b2 (b2 bn))))))))
 ·exact (b3 (b3 (bc ⟨(congrArg (fun l_=>some (Obj.rows 1 l_)) he1),(lb Y),rfl⟩ bn)))
 ·exact nd Y
 rintro i (hI':i≤(Qb g).length∧(QN g f∨i=0))
 show VRun _ _ _ [(1,(tS f)),(2,(rd 1 Qc seals)),(3,(tI salt)),(4,(T.op 0 0)),(8,T.nils),(9,(T.os 1 2 0 (((QM g f seals salt i).map (Qc true)).length))),(10,(T.os 4 1 0 (((Qb g).map (Qj true)).length))),(11,(tN i))] (QV [(0,(Obj.cells (Qd false g))),(1,(Obj.rows 4 ((Qb g).map (Qj true)))),(2,(Obj.rows 1 ((QM g f seals salt i).map (Qc true))))]) 3 _
 have hI1:=hI'.1
 have hrl:=Qbs g f seals salt i
 have hps:=Qc0 g f ((i:Nat):Int)
 refine sq (sr (mO (tN i) Y (mO (T.os 4 1 0 (((Qb g).map (Qj true)).length)) Y (lO (B.lenO (m:=(Qb g).length) (tv (T.os 4 1 0 (((Qb g).map (Qj true)).length)) Y) U94 (List.length_map ..)) (fO (Q5 (tv (tN i) Y) (tv (tN ((Qb g).length)) Y)) (mO (tB (decide (i<(Qb g).length))) Y ?_))))))
 refine VRunO.joinB 4 [20,21,22] 23 (tB (decide ((i<(Qb g).length)∧(QN g f)))) ?_ ?_
 ·refine gw (i<(Qb g).length) (fun fhg19_2=> ?_) fun fhg19_2=> ?_
  ·refine gL (dy fhg19_2) Y Y (OL.loadOn (us:=(Qd false g)) (tv (T.op 0 0) Y) Y Q4 Q0 (lb Y) Y) ?_
   refine gF (dy fhg19_2) Y Y (OF.move (tv (tS f) Y)) (VRunO.chain (VWant.on Y Y (dy fhg19_2)) (cS (vc (tv (T.agg (Qd false g)) Y) (vc (tv (tS f) Y) vn)) (LendL.cons (lg Qu) (lp Y ln)) (JG (n+2) g f (by assumption) (by assumption)) Y Y) (fO (OF.pickT (VEv.tmpB Y (dy fhg19_2)) (tv (tB (decide (QN g f))) Y)) (VRunO.nil ?_)))
   exact jq (congrArg T.bool (kAT fhg19_2 Y)) (js Y (js Y (js Y (jn))))
  ·refine QE 3 4 true 19 (dz fhg19_2) Y Y Y ?_
   refine fO (OF.pickF (VEv.tmpB Y (dz fhg19_2)) (VEv.bool false)) (VRunO.nil ?_)
   exact jq (congrArg T.bool (kAF fhg19_2)) (js Y (js Y (js Y (jn))))
 refine nt ?_
 refine cd ((i<(Qb g).length)∧(QN g f)) Y (fun fhc0=> ?_) fun fhc0=> ?_
 ·refine sk ?_
  refine tn (sq (VRun.block (sr (mO (rd 1 Qc seals) Y (mO (tI salt) Y (mO (tN i) Y (lO (OL.loadOn (us:=(Qd false g)) (tv (T.op 0 0) Y) Y Q4 Q0 (lb Y) Y) (mO (tS f) Y (mO (tN i) Y (cO (cS (vc (tv (T.agg (Qd false g)) Y) (vc (tv (tS f) Y) (vc (tv (tN i) Y) vn))) (LendL.cons (lg Qu) (lp Y (lp Y ln))) (QcG (n+0) g f ((i:Nat):Int) (by assumption) (by assumption)) Y Y) (cO (cS (vc (tv (rd 1 Qc seals) Y) (vc (tv (tI salt) Y) (vc (tv (tN i) Y) (vc (tv (tS (YC g f ((i:Nat):Int))) Y) vn)))) (Z8 Y) (Qct (n+0) seals salt ((i:Nat):Int) (YC g f ((i:Nat):Int)) (by assumption) (by omega)) Y Y) ?_)))))))))))
  refine nt ?_
  refine cd (QfA seals salt ((i:Nat):Int) (YC g f ((i:Nat):Int))) Y (fun fhc1=> ?_) fun fhc1=> ?_
  ·refine VRun.region ?_
   refine mO (T.os 1 2 0 (((QM g f seals salt i).map (Qc true)).length)) Y (mO (tN i) Y (kO (OM.buildSlice (l:= [(tN i)]) (VEvp.cons (tv (tN i) Y) VEvp.nil) Y (by decide) (bc (nofun) bn) (bc ((bc (Y) bn)) bn) (bc (Y) bn) Z1 zo3 (by kernel_rfl) Y (by rw [ZA];decide) ZA (Nat.le_of_ble_eq_true Y)) (cO (B.append (rows:=((QM g f seals salt i).map (Qc true))) (rows2:= [[(tN i)]]) (rows3:=((QM g f seals salt i++ [((i:Nat):Int)]).map (Qc true))) (VDst.own (tv (T.os 1 2 0 (((QM g f seals salt i).map (Qc true)).length)) Y) Y Y) (VSrc.own (tv (T.os 1 3 0 1) Y) Y Y Z1 (bc (bc Y bn) bn)) (by decide) Z1 ZA (by decide) zo3 Y (of_decide_eq_true (by kernel_rfl)) (by (simp only [List.length_map,List.length_append,List.length_cons,List.length_nil,List.length_replicate,List.length_set,List.length_drop,List.length_take,Y2] at *;omega)) ((List.map_append (f:=Qc true) (l₁:=QM g f seals salt i) (l₂:= [((i:Nat):Int)])).symm)) (aO (T.os 1 4 0 (((QM g f seals salt i++ [((i:Nat):Int)]).map (Qc true)).length)) Y (VRunO.nil (vinB.n (tn (VRun.region (mO (tN i) Y (fO (Qx (tv (tN i) Y) (VEv.int .i64 1) (by omega)) (aO (tN (i+1)) Y ?_)))))))))))
   refine VRunO.nil (tn ?_)
   have he3:(QM g f seals salt i++ [((i:Nat):Int)])=QM g f seals salt (i+1):=by exact QgA fhc1
   refine ⟨(i+1:Nat),?_,?_,Wk.mk (fun k=>if k=2 then 4 else k) ?_ ?_ ?_⟩
   ·exact ⟨by omega, .inl fhc0.2⟩
   ·omega
   ·exact (b2 (b2 (b2 (b2 (b2 (bc ⟨(congrArg (fun l_=>T.os 1 4 0 (List.map (Qc true) l_).length) he3),rfl⟩ (b2 (b2 bn))))))))
   ·exact (b3 (b3 (bc ⟨(congrArg (fun l_=>some (Obj.rows 1 (List.map (Qc true) l_))) he3),(lb Y),rfl⟩ bn)))
   ·exact nd Y
  refine sk (vinB.n (tn (VRun.region (mO (tN i) Y (fO (Qx (tv (tN i) Y) (VEv.int .i64 1) (by omega)) (aO (tN (i+1)) Y (VRunO.nil (tn ?_))))))))
  have he4:QM g f seals salt i=QM g f seals salt (i+1):=by exact Qib fhc1
  refine ⟨(i+1:Nat),?_,?_,Wk.mk (fun k=>k) ?_ ?_ ?_⟩
  ·exact ⟨by omega, .inl fhc0.2⟩
  ·omega
  ·exact (b2 (b2 (b2 (b2 (b2 (bc ⟨(congrArg (fun l_=>T.os 1 2 0 (List.map (Qc true) l_).length) he4),rfl⟩ (b2 (b2 bn))))))))
  ·exact (b3 (b3 (bc ⟨(congrArg (fun l_=>some (Obj.rows 1 (List.map (Qc true) l_))) he4),(lb Y),rfl⟩ bn)))
  ·exact nd Y
 refine VRun.exit (vthn.e (vthn.e (vinB.e (tn (sr (mO (T.os 1 2 0 (((QM g f seals salt i).map (Qc true)).length)) Y (aO (T.os 1 2 0 (((QM g f seals salt i).map (Qc true)).length)) Y (nt (rt ?_)))))))))
 refine vfin.eq (r':=(T.sl true 1 ((QM g f seals salt i).map (Qc true)))) ?_ (vfin.r (VRes.tmp (t:=(T.os 1 2 0 (((QM g f seals salt i).map (Qc true)).length))) Y VRes.nil) (Give.os Y Y (okInt.cleanMap _)))
 refine congrArg (fun l_=>T.sl true 1 (List.map (Qc true) l_)) ?_
 exact QgM hI1 hI'.2 fhc0
theorem QaL (n:Nat) (g:D.Grid) (f:ByteArray) (seals:List Int) (salt:Int) (hc:g.Cells.size≤maxLen) (hf:f.size≤maxLen) (hl:seals.length≤Y2):Pure (Qs Tryz.prog (n+6)) 50 [(T.agg (Qd false g)),(tS f),(rd 1 Qc seals),(tI salt)] (T.sl true 1 ((Zg g f seals salt).map (Qc true))):=by
 refine Pure.intro (rs:= [ResultVar.tmp 8]) Tryz.func50 Y Y Y (E0:= [(0,(T.agg (Qd false g))),(1,(tS f)),(2,(rd 1 Qc seals)),(3,(tI salt))]) Y ?_
 obtain ⟨hlim,hmx,hmax⟩:=QA
 have hsl:=Zw g
 have hpl:=Qh6 g f
 refine sr (kO (B.box (ts:=(Qd false g)) (tv (T.agg (Qd false g)) Y) nofun Y) (fO (OF.assign VEv.nils) (nt (sr (fO (OF.assign VEv.nils) (nt (sq (sr (lO (OL.loadOn (us:=(Qd false g)) (tv (T.op 0 0) Y) Y Q4 Q0 (lb Y) Y) (mO (tS f) Y (cO (OC.callF (r':=(T.os 1 1 0 (((Yk g f).map (YP true)).length))) (objs:= [(Obj.rows 1 ((Yk g f).map (YP true)))]) Y (vc (tv (T.agg (Qd false g)) Y) (vc (tv (tS f) Y) vn)) (LendL.cons (lg Qu) (lp Y ln)) (QeC (n+0) g f (by assumption) (by assumption)) Y) ?_)))))))))))
 refine lO (B.lenO (m:=(Yk g f).length) (tv (T.os 1 1 0 (((Yk g f).map (YP true)).length)) Y) U98 (List.length_map ..)) (fO (OF.move (VEv.int .i64 0)) (nt (VRun.block (VRun.wk (Wk.freeze (sz:=1) (k:=1) (rows':=((Yk g f).map (YP false))) [14] (bc Y bn) Y Y (okStr.fzMap _ _)) (VRun.wk (Wk.phantom 9 1 Y) ?_)))))
 have he1: []=((QM g f seals salt 0).map (Qc true)):=by rfl
 refine VRun.loop (A:=Nat) (fun s_=> [(2,(rd 1 Qc seals)),(3,(tI salt)),(8,T.nils),(9,(T.os 1 0 0 (((QM g f seals salt s_).map (Qc true)).length))),(14,(rd 1 YP (Yk g f))),(15,(tN ((Yk g f).length))),(16,(tN s_))]) (fun s_=>QV [(0,(Obj.rows 1 ((QM g f seals salt s_).map (Qc true))))]) 1 (fun s_=>s_≤(Yk g f).length) (fun s_=>(Yk g f).length - s_) (0:Nat) ?_ (Wk.mk (fun k=>if k=0 then 2 else k) ?_ ?_ ?_) ?_
 ·(simp;done)
 ·exact (b2 (b2 (b2 (bc ⟨(congrArg (fun n_=>T.os 1 2 0 n_) (show 0=((QM g f seals salt 0).map (Qc true)).length from (by rfl))),rfl⟩ (b2 (b2 (b2 bn)))))))
 ·exact (bc ⟨(congrArg (fun l_=>some (Obj.rows 1 l_)) he1),(lb Y),rfl⟩ bn)
 ·exact nd Y
 rintro i (hI':i≤(Yk g f).length)
 show VRun _ _ _ [(2,(rd 1 Qc seals)),(3,(tI salt)),(8,T.nils),(9,(T.os 1 0 0 (((QM g f seals salt i).map (Qc true)).length))),(14,(rd 1 YP (Yk g f))),(15,(tN ((Yk g f).length))),(16,(tN i))] (QV [(0,(Obj.rows 1 ((QM g f seals salt i).map (Qc true))))]) 1 _
 have hrl:=Qbs g f seals salt i
 have hps:=Qc0 g f ((i:Nat):Int)
 refine sr (fO (Q5 (tv (tN i) Y) (tv (tN ((Yk g f).length)) Y)) (nt (sq ?_)))
 refine cd (i<(Yk g f).length) Y (fun fhc0=> ?_) fun fhc0=> ?_
 ·refine sk ?_
  refine tn (sq (VRun.block (sr (mO (tN i) Y ?_))))
  obtain ⟨x1,hx1⟩:∃x,(Yk g f)[i]? =some x:=⟨_,List.getElem?_eq_getElem (by omega)⟩
  have hpx:=Qlp hx1
  refine fO (OF.indexAddrR (row:=(YP false x1)) (i:=i) (tv (rd 1 YP (Yk g f)) Y) (tv (tN i) Y) Y (Qr _ hx1) U98 sz9 if9) (lO (OL.loadR1 (t:=(tS x1)) (tv (T.rp [(tS x1)]) Y) Y YD) (aO (tN i) Y (aO (tS x1) Y (nt (sr (mO (rd 1 Qc seals) Y (mO (tI salt) Y (mO (tN i) Y (mO (tS x1) Y (cO (cS (vc (tv (rd 1 Qc seals) Y) (vc (tv (tI salt) Y) (vc (tv (tN i) Y) (vc (tv (tS x1) Y) vn)))) (Z8 Y) (Qcr (n+0) seals salt ((i:Nat):Int) x1 (by assumption) (by (rw [hpx];omega))) Y Y) (nt ?_)))))))))))
  refine cd (QfA seals salt ((i:Nat):Int) x1) Y (fun fhc1=> ?_) fun fhc1=> ?_
  ·refine VRun.region ?_
   refine mO (T.os 1 0 0 (((QM g f seals salt i).map (Qc true)).length)) Y (mO (tN i) Y (kO (OM.buildSlice (l:= [(tN i)]) (VEvp.cons (tv (tN i) Y) VEvp.nil) Y (by decide) (bc (nofun) bn) (bc ((bc (Y) bn)) bn) (bc (Y) bn) Z1 zo3 (by kernel_rfl) Y (by rw [ZA];decide) ZA (Nat.le_of_ble_eq_true Y)) (cO (B.append (rows:=((QM g f seals salt i).map (Qc true))) (rows2:= [[(tN i)]]) (rows3:=((QM g f seals salt i++ [((i:Nat):Int)]).map (Qc true))) (VDst.own (tv (T.os 1 0 0 (((QM g f seals salt i).map (Qc true)).length)) Y) Y Y) (VSrc.own (tv (T.os 1 1 0 1) Y) Y Y Z1 (bc (bc Y bn) bn)) (by decide) Z1 ZA (by decide) zo3 Y (of_decide_eq_true (by kernel_rfl)) (by (simp only [List.length_map,List.length_append,List.length_cons,List.length_nil,List.length_replicate,List.length_set,List.length_drop,List.length_take,Y2] at *;omega)) ((List.map_append (f:=Qc true) (l₁:=QM g f seals salt i) (l₂:= [((i:Nat):Int)])).symm)) (aO (T.os 1 2 0 (((QM g f seals salt i++ [((i:Nat):Int)]).map (Qc true)).length)) Y (VRunO.nil (vinB.n (tn (VRun.region (fO (Qx (tv (tN i) Y) (VEv.int .i64 1) (by omega)) (mO (tN (i+1)) Y (VRunO.nil ?_)))))))))))
   refine tn ?_
   have he2:(QM g f seals salt i++ [((i:Nat):Int)])=QM g f seals salt (i+1):=by (rw [hpx] at fhc1;exact QgA fhc1)
   refine ⟨(i+1:Nat),?_,?_,Wk.mk (fun k=>if k=0 then 2 else k) ?_ ?_ ?_⟩
   ·trivial
   ·omega
   ·exact (b2 (b2 (b2 (bc ⟨(congrArg (fun l_=>T.os 1 2 0 (List.map (Qc true) l_).length) he2),rfl⟩ (b2 (b2 (b2 bn)))))))
   ·exact (bc ⟨(congrArg (fun l_=>some (Obj.rows 1 (List.map (Qc true) l_))) he2),(lb Y),rfl⟩ bn)
   ·exact nd Y
  refine sk (vinB.n (tn (VRun.region (fO (Qx (tv (tN i) Y) (VEv.int .i64 1) (by omega)) (mO (tN (i+1)) Y (VRunO.nil (tn ?_)))))))
  have he3:QM g f seals salt i=QM g f seals salt (i+1):=by (rw [hpx] at fhc1;exact Qib fhc1)
  refine ⟨(i+1:Nat),?_,?_,Wk.mk (fun k=>k) ?_ ?_ ?_⟩
  ·trivial
  ·omega
  ·exact (b2 (b2 (b2 (bc ⟨(congrArg (fun l_=>T.os 1 0 0 (List.map (Qc true) l_).length) he3),rfl⟩ (b2 (b2 (b2 bn)))))))
  ·exact (bc ⟨(congrArg (fun l_=>some (Obj.rows 1 (List.map (Qc true) l_))) he3),(lb Y),rfl⟩ bn)
  ·exact nd Y
 refine VRun.exit (vthn.e (vthn.e (vinB.e (tn (sr (mO (T.os 1 0 0 (((QM g f seals salt i).map (Qc true)).length)) Y (aO (T.os 1 0 0 (((QM g f seals salt i).map (Qc true)).length)) Y (nt (rt ?_)))))))))
 refine vfin.eq (r':=(T.sl true 1 ((QM g f seals salt i).map (Qc true)))) ?_ (vfin.r (VRes.tmp (t:=(T.os 1 0 0 (((QM g f seals salt i).map (Qc true)).length))) Y VRes.nil) (Give.os Y Y (okInt.cleanMap _)))
 refine congrArg (fun l_=>T.sl true 1 (List.map (Qc true) l_)) ?_
 exact Qi2 hI' fhc0
noncomputable section
def J2 (f:ByteArray):Prop:=∃j,j<f.size∧Qv f j=63
instance (f:ByteArray):Decidable (J2 f):=Classical.propDecidable _
def Jr (f:ByteArray):Nat→Nat
 | 0=>0
 | i+1=>Jr f i+(if Qv f i=63 then 1 else 0)
theorem Qju (f:ByteArray):∀i,Jr f i≤i
 | 0=>Nat.le_refl _
 | i+1=>by
  have:=Qju f i
  unfold Jr
  split<;>omega
theorem Qgv (f:ByteArray):∀i,Jr f i=0↔∀j,j<i→¬Qv f j=63
 | 0=>⟨fun _ j hj=>by omega,fun _=>rfl⟩
 | i+1=>by
  have ih:=Qgv f i
  unfold Jr
  constructor
  ·intro h j hj
   by_cases e:j=i
   ·subst e;intro e2;rw [if_pos e2] at h;omega
   ·exact ih.1 (by omega) j (by omega)
  ·intro h
   rw [if_neg (h i (by omega)),ih.2 (fun j hj=>h j (by omega))]
theorem Qme (f:ByteArray):Jr f f.size=0↔¬J2 f:=by
 rw [Qgv]
 exact ⟨fun h ⟨j,h1,h2⟩=>h j h1 h2,fun h j h1 h2=>h ⟨j,h1,h2⟩⟩
end
theorem Qfx (n:Nat) (f:ByteArray) (hf:f.size≤maxLen):Pure (Qs Tryz.prog (n+1)) 104 [(tS f)] (tB (decide (J2 f))):=by
 refine Pure.intro (rs:= [ResultVar.tmp 2]) Tryz.func104 Y Y Y (E0:= [(0,(tS f))]) Y ?_
 obtain ⟨hlim,hmx,hmax⟩:=QA
 refine sr (fO (OF.assign (VEv.bool false)) (nt (sq (sr (fO (OF.assign (VEv.int .i64 0)) (nt (VRun.block ?_)))))))
 refine VRun.loop (A:=Nat) (fun s_=> [(0,(tS f)),(3,(tN s_))]) (fun s_=>QV []) 0 (fun s_=>s_≤f.size∧∀j,j<s_→¬Qv f j=63) (fun s_=>f.size - s_) (0:Nat) ?_ (Wk.mk (fun k=>k) ?_ ?_ ?_) ?_
 ·exact ⟨Nat.zero_le _,fun j hj=>by omega⟩
 ·exact (b2 (b2 bn))
 ·exact bn
 ·exact nd Y
 rintro i (hI':i≤f.size∧∀j,j<i→¬Qv f j=63)
 show VRun _ _ _ [(0,(tS f)),(3,(tN i))] (QV []) 0 _
 have hI1:=hI'.1
 refine sq (sr (mO (tN i) Y (mO (tS f) Y (lO (B.lenS (tv (tS f) Y) U9) (fO (Q5 (tv (tN i) Y) (tv (tN f.size) Y)) (nt ?_))))))
 refine cd (i<f.size) Y (fun fhc0=> ?_) fun fhc0=> ?_
 ·refine sk ?_
  refine tn (sq (VRun.block (sr (mO (tS f) Y (mO (tN i) Y ?_)))))
  have hb1:i<f.size:=(by omega)
  refine fO (xix (tv (tS f) Y) (tv (tN i) Y) hb1 U9) (fO (J6 (tv (T.int .u8 (Qv f i)) Y) (VEv.int .u8 63)) (nt ?_))
  refine cd (Qv f i=63) Y (fun fhc1=> ?_) fun fhc1=> ?_
  ·refine sr ?_
   refine fO (OF.assign (VEv.bool true)) (nt (rt (vinB.r (tr (tr (vinB.r (tr (vb (b':=true) Y ?_))))))))
   symm;rw [decide_eq_true_eq];exact ⟨i,fhc0,fhc1⟩
  refine sk (vinB.n (tn (VRun.region (mO (tN i) Y (fO (Qx (tv (tN i) Y) (VEv.int .i64 1) (by omega)) (aO (tN (i+1)) Y (VRunO.nil (tn ?_))))))))
  refine ⟨(i+1:Nat),?_,?_,Wk.mk (fun k=>k) ?_ ?_ ?_⟩
  ·exact ZJ hI' fhc0 fhc1
  ·omega
  ·exact (b2 (b2 bn))
  ·exact bn
  ·exact nd Y
 refine VRun.exit (vthn.e (vthn.e (vinB.e (tn (sr (fO (OF.assign (VEv.bool false)) (nt (rt (vb (b':=false) Y ?_)))))))))
 symm;rw [decide_eq_false_iff_not];rintro ⟨j,h1,h2⟩;exact hI'.2 j (by omega) h2
theorem QfZ (n:Nat) (f:ByteArray) (hf:f.size≤maxLen):Pure (Qs Tryz.prog (n+1)) 109 [(tS f)] (tN (Jr f f.size)):=by
 refine Pure.intro (rs:= [ResultVar.tmp 2]) Tryz.func109 Y Y Y (E0:= [(0,(tS f))]) Y ?_
 obtain ⟨hlim,hmx,hmax⟩:=QA
 refine sr (fO (OF.assign (VEv.int .i64 0)) (nt (sr (fO (OF.assign (VEv.int .i64 0)) (nt (sq (sr (mO (tS f) Y (lO (B.lenS (tv (tS f) Y) U9) (fO (OF.move (VEv.int .i64 0)) (nt ?_)))))))))))
 refine VRun.block ?_
 refine VRun.loop (A:=Nat) (fun s_=> [(0,(tS f)),(2,(tN 0)),(3,(tN (Jr f s_))),(6,(tN f.size)),(7,(tN s_))]) (fun s_=>QV []) 0 (fun s_=>s_≤f.size) (fun s_=>f.size - s_) (0:Nat) ?_ (Wk.mk (fun k=>k) ?_ ?_ ?_) ?_
 ·(simp;done)
 ·exact (b2 (b2 (bc ⟨(congrArg (T.int .i64) (show 0=((Jr f 0:Nat):Int) from (by rfl))),rfl⟩ (b2 (b2 bn)))))
 ·exact bn
 ·exact nd Y
 rintro i (hI':i≤f.size)
 show VRun _ _ _ [(0,(tS f)),(2,(tN 0)),(3,(tN (Jr f i))),(6,(tN f.size)),(7,(tN i))] (QV []) 0 _
 have hol:=Qju f i
 refine sr (fO (Q5 (tv (tN i) Y) (tv (tN f.size) Y)) (nt (sq ?_)))
 refine cd (i<f.size) Y (fun fhc0=> ?_) fun fhc0=> ?_
 ·refine sk ?_
  refine tn (sq (VRun.block (sr (mO (tN i) Y (aO (tN i) Y (nt (sr (mO (tS f) Y (mO (tN i) Y ?_)))))))))
  have hb1:i<f.size:=(by omega)
  refine fO (xix (tv (tS f) Y) (tv (tN i) Y) hb1 U9) (fO (J6 (tv (T.int .u8 (Qv f i)) Y) (VEv.int .u8 63)) (nt ?_))
  refine cd (Qv f i=63) Y (fun fhc1=> ?_) fun fhc1=> ?_
  ·refine VRun.region ?_
   refine mO (tN (Jr f i)) Y (fO (Qx (tv (tN (Jr f i)) Y) (VEv.int .i64 1) (by omega)) (aO (tN (Jr f i+1)) Y (VRunO.nil (vinB.n (tn (VRun.region (fO (Qx (tv (tN i) Y) (VEv.int .i64 1) (by omega)) (mO (tN (i+1)) Y (VRunO.nil (tn ?_))))))))))
   refine ⟨(i+1:Nat),?_,?_,Wk.mk (fun k=>k) ?_ ?_ ?_⟩
   ·trivial
   ·omega
   ·exact (b2 (b2 (bc ⟨(congrArg (T.int .i64) (show (((Jr f i+1):Nat):Int)=((Jr f (i+1):Nat):Int) from (by (rw [Jr,if_pos fhc1];done)))),rfl⟩ (b2 (b2 bn)))))
   ·exact bn
   ·exact nd Y
  refine sk (vinB.n (tn (VRun.region (fO (Qx (tv (tN i) Y) (VEv.int .i64 1) (by omega)) (mO (tN (i+1)) Y (VRunO.nil (tn ?_)))))))
  refine ⟨(i+1:Nat),?_,?_,Wk.mk (fun k=>k) ?_ ?_ ?_⟩
  ·trivial
  ·omega
  ·exact (b2 (b2 (bc ⟨(congrArg (T.int .i64) (show ((Jr f i:Nat):Int)=((Jr f (i+1):Nat):Int) from (by (rw [Jr,if_neg fhc1];rfl)))),rfl⟩ (b2 (b2 bn)))))
  ·exact bn
  ·exact nd Y
 refine VRun.exit (vthn.e (vthn.e (vinB.e (tn (sr (mO (tN (Jr f i)) Y (aO (tN (Jr f i)) Y (nt (rt (vi (n':=((Jr f i:Nat):Int)) Y ?_))))))))))
 rw [show i=f.size by omega]
noncomputable section
def QaY (g:D.Grid) (f:ByteArray):Prop:=QN g f∧¬J2 f
instance (g:D.Grid) (f:ByteArray):Decidable (QaY g f):=Classical.propDecidable _
end
theorem Qgm (n:Nat) (g:D.Grid) (f:ByteArray) (hc:g.Cells.size≤maxLen) (hf:f.size≤maxLen):Pure (Qs Tryz.prog (n+4)) 90 [(T.agg (Qd false g)),(tS f)] (tB (decide (QaY g f))):=by
 refine Pure.intro (rs:= [ResultVar.tmp 4]) Tryz.func90 Y Y Y (E0:= [(0,(T.agg (Qd false g))),(1,(tS f))]) Y ?_
 obtain ⟨hlim,hmx,hmax⟩:=QA
 refine sr (kO (B.box (ts:=(Qd false g)) (tv (T.agg (Qd false g)) Y) nofun Y) (fO (OF.assign (VEv.bool false)) (nt (sr (lO (OL.loadOn (us:=(Qd false g)) (tv (T.op 0 0) Y) Y Q4 Q0 (lb Y) Y) (mO (tS f) Y (cO (cS (vc (tv (T.agg (Qd false g)) Y) (vc (tv (tS f) Y) vn)) (LendL.cons (lg Qu) (lp Y ln)) (JG (n+0) g f (by assumption) (by assumption)) Y Y) (mO (tB (decide (QN g f))) Y ?_))))))))
 refine VRunO.joinB 4 [9,10,11] 12 (tB (decide ((QN g f)∧(¬(J2 f))))) ?_ ?_
 ·refine gw (QN g f) (fun fhg8_1=> ?_) fun fhg8_1=> ?_
  ·refine gF (dy fhg8_1) Y Y (OF.move (tv (tS f) Y)) ?_
   refine VRunO.chain (VWant.on Y Y (dy fhg8_1)) (cS (vc (tv (tS f) Y) vn) (Z8 Y) (Qfx (n+2) f (by assumption)) Y Y) (gF (dy fhg8_1) Y Y (Zd (tv (tB (decide (J2 f))) Y)) (fO (OF.pickT (VEv.tmpB Y (dy fhg8_1)) (tv (tB (!(decide (J2 f)))) Y)) (VRunO.nil ?_)))
   exact jq (congrArg T.bool (kAT fhg8_1 dN)) (js Y (js Y (js Y (jn))))
  ·refine QE 3 3 true 8 (dz fhg8_1) Y Y Y ?_
   refine fO (OF.pickF (VEv.tmpB Y (dz fhg8_1)) (VEv.bool false)) (VRunO.nil ?_)
   exact jq (congrArg T.bool (kAF fhg8_1)) (js Y (js Y (js Y (jn))))
 refine aO (tB (decide ((QN g f)∧(¬(J2 f))))) Y (nt (rt (vb (b':=(decide ((QN g f)∧(¬(J2 f))))) Y ?_)))
 exact Q8 Iff.rfl
theorem Qgk (n:Nat) (g:D.Grid) (f:ByteArray) (hc:g.Cells.size≤maxLen) (hf:f.size≤maxLen):Pure (Qs Tryz.prog (n+4)) 93 [(T.agg (Qd false g)),(tS f)] (tB (decide (QaY g f))):=by
 refine Pure.intro (rs:= [ResultVar.tmp 4]) Tryz.func93 Y Y Y (E0:= [(0,(T.agg (Qd false g))),(1,(tS f))]) Y ?_
 obtain ⟨hlim,hmx,hmax⟩:=QA
 refine sr (kO (B.box (ts:=(Qd false g)) (tv (T.agg (Qd false g)) Y) nofun Y) (fO (OF.assign (VEv.bool false)) (nt (sr (lO (OL.loadOn (us:=(Qd false g)) (tv (T.op 0 0) Y) Y Q4 Q0 (lb Y) Y) (mO (tS f) Y (cO (cS (vc (tv (T.agg (Qd false g)) Y) (vc (tv (tS f) Y) vn)) (LendL.cons (lg Qu) (lp Y ln)) (QaP (n+0) g f (by assumption) (by assumption)) Y Y) (mO (tB (decide (QN g f))) Y ?_))))))))
 refine VRunO.joinB 4 [9,10,11] 12 (tB (decide ((QN g f)∧(Jr f f.size=0)))) ?_ ?_
 ·refine gw (QN g f) (fun fhg8_1=> ?_) fun fhg8_1=> ?_
  ·refine gF (dy fhg8_1) Y Y (OF.move (tv (tS f) Y)) ?_
   refine VRunO.chain (VWant.on Y Y (dy fhg8_1)) (cS (vc (tv (tS f) Y) vn) (Z8 Y) (QfZ (n+2) f (by assumption)) Y Y) (gF (dy fhg8_1) Y Y (B.eql (c:=(decide (Jr f f.size=0))) (tv (tN (Jr f f.size)) Y) (VEv.int .i64 0) (Q8 (by omega))) (fO (OF.pickT (VEv.tmpB Y (dy fhg8_1)) (tv (tB (decide (Jr f f.size=0))) Y)) (VRunO.nil ?_)))
   exact jq (congrArg T.bool (kAT fhg8_1 Y)) (js Y (js Y (js Y (jn))))
  ·refine QE 3 3 true 8 (dz fhg8_1) Y Y Y ?_
   refine fO (OF.pickF (VEv.tmpB Y (dz fhg8_1)) (VEv.bool false)) (VRunO.nil ?_)
   exact jq (congrArg T.bool (kAF fhg8_1)) (js Y (js Y (js Y (jn))))
 refine aO (tB (decide ((QN g f)∧(Jr f f.size=0)))) Y (nt (rt (vb (b':=(decide ((QN g f)∧(Jr f f.size=0)))) Y ?_)))
 refine Q8 ?_;rw [Qme];exact Iff.rfl
noncomputable section
def Qc5 (p:D.Puzzle):Prop:=Yh p.Grid=0∧p.Clues.length=(Qb p.Grid).length∧p.Seals.length=(Qb p.Grid).length∧(1≤p.Salt∧p.Salt≤9999)∧∀c∈p.Clues,okC c
instance (p:D.Puzzle):Decidable (Qc5 p):=Classical.propDecidable _
def noC (c:D.Clue):Prop:=¬okC c
instance (c:D.Clue):Decidable (noC c):=Classical.propDecidable _
end
theorem Qdr (n:Nat) (c:D.Clue) (hz:QY c≤mx):Pure (Qs Tryz.prog (n+5)) 107 [(T.agg (Qh false c))] (tB (decide (noC c))):=by
 refine Pure.intro (rs:= [ResultVar.tmp 2]) Tryz.func107 Y Y Y (E0:= [(0,(T.agg (Qh false c)))]) Y ?_
 obtain ⟨hlim,hmx,hmax⟩:=QA
 refine sr (kO (B.box (ts:=(Qh false c)) (tv (T.agg (Qh false c)) Y) nofun Y) (fO (OF.assign (VEv.bool false)) (nt (sr (lO (OL.loadOn (us:=(Qh false c)) (tv (T.op 0 0) Y) Y QiK QbG (lb Y) Y) (cO (cS (vc (tv (T.agg (Qh false c)) Y) vn) (LendL.cons (lg okeClue) ln) (Qgc (n+0) c (by assumption)) Y Y) (fO (Zd (tv (tB (decide ((1≤c.Sense∧c.Sense≤99)∧YE c.Play))) Y)) (aO (tB (!(decide ((1≤c.Sense∧c.Sense≤99)∧YE c.Play)))) Y (nt (rt (vb (b':=(!(decide ((1≤c.Sense∧c.Sense≤99)∧YE c.Play)))) Y ?_)))))))))))
 rw [dN];exact Q8 Iff.rfl
theorem ZY (n:Nat) (l:List D.Clue) (hz:zL QY l≤mx):Pure (Qs Tryz.prog (n+6)) 123 [(rd 2 Qh l),(T.fn 107 [])] (tI (Jb noC l)):=by
 refine Pure.intro (rs:= [ResultVar.tmp 4]) Tryz.func123 Y Y Y (E0:= [(0,(rd 2 Qh l)),(1,(T.fn 107 []))]) Y ?_
 obtain ⟨hlim,hmx,hmax⟩:=QA
 have hl:=Zs (z:=QY) l
 refine sr (fO (OF.assign (VEv.int .i64 0)) (nt (sq (sr (mO (rd 2 Qh l) Y (lO (B.lenR (m:=l.length) (tv (rd 2 Qh l) Y) U37 (List.length_map ..)) (fO (OF.move (VEv.int .i64 0)) (nt (VRun.block ?_)))))))))
 refine VRun.loop (A:=Nat) (fun s_=> [(0,(rd 2 Qh l)),(1,(T.fn 107 [])),(7,(tN l.length)),(8,(tN s_))]) (fun s_=>QV []) 0 (fun s_=>NoneTo noC l s_) (fun s_=>l.length - s_) (0:Nat) ?_ (Wk.mk (fun k=>k) ?_ ?_ ?_) ?_
 ·exact NoneTo.start _ _
 ·exact (b2 (b2 (b2 (b2 bn))))
 ·exact bn
 ·exact nd Y
 rintro i (hI':NoneTo noC l i)
 show VRun _ _ _ [(0,(rd 2 Qh l)),(1,(T.fn 107 [])),(7,(tN l.length)),(8,(tN i))] (QV []) 0 _
 have hI1:=hI'.1
 refine sr (fO (Q5 (tv (tN i) Y) (tv (tN l.length) Y)) (nt (sq ?_)))
 refine cd (i<l.length) Y (fun fhc0=> ?_) fun fhc0=> ?_
 ·refine sk ?_
  refine tn (sq (VRun.block (sr (mO (tN i) Y (aO (tN i) Y (nt (sr (mO (T.fn 107 []) Y (mO (rd 2 Qh l) Y (mO (tN i) Y ?_))))))))))
  obtain ⟨x1,hx1⟩:∃x,l[i]? =some x:=⟨_,List.getElem?_eq_getElem (by omega)⟩
  refine fO (OF.indexAddrR (row:=(Qh false x1)) (i:=i) (tv (rd 2 Qh l) Y) (tv (tN i) Y) Y (Qr _ hx1) U37 QbG Qhs) (lO (OL.loadRn (us:=(Qh false x1)) (tv (T.rp (Qh false x1)) Y) QiK QbG (lb Y) Y) (cO (OC.callv (us:= [(T.agg (Qh false x1))]) (ucaps:= []) (r:=(tB (decide (noC x1)))) (r':=(tB (decide (noC x1)))) (objs:= []) Y Y (vc (tv (T.agg (Qh false x1)) Y) vn) (LendL.cons (lg okeClue) ln) ln (Qdr (n+0) x1 (by exact Nat.le_trans (QgF hx1) hz)) Y) (nt ?_)))
  refine cd (noC x1) Y (fun fhc1=> ?_) fun fhc1=> ?_
  ·refine sr ?_
   refine mO (tN i) Y (aO (tN i) Y (nt (rt (vinB.r (tr (tr (vinB.r (tr (vi (n':=((i:Nat):Int)) Y ?_)))))))))
   exact (Qce hx1 fhc1 hI'.2).symm
  refine sk (vinB.n (tn (VRun.region (fO (Qx (tv (tN i) Y) (VEv.int .i64 1) (by omega)) (mO (tN (i+1)) Y (VRunO.nil (tn ?_)))))))
  refine ⟨(i+1:Nat),?_,?_,Wk.mk (fun k=>k) ?_ ?_ ?_⟩
  ·exact hI'.next hx1 fhc1
  ·omega
  ·exact (b2 (b2 (b2 (b2 bn))))
  ·exact bn
  ·exact nd Y
 refine VRun.exit (vthn.e (vthn.e (vinB.e (tn (sr (fO (OF.assign (VEv.int .i64 (-1))) (nt (rt (vi (n':=(-1)) Y ?_)))))))))
 exact (Qc7 (hI'.all fhc0)).symm
theorem ZM (n:Nat) (l:List D.Clue) (hz:zL QY l≤mx):Pure (Qs Tryz.prog (n+7)) 106 [(rd 2 Qh l),(T.fn 107 [])] (tB (decide (∃c∈l,noC c))):=by
 refine Pure.intro (rs:= [ResultVar.tmp 4]) Tryz.func106 Y Y Y (E0:= [(0,(rd 2 Qh l)),(1,(T.fn 107 []))]) Y ?_
 obtain ⟨hlim,hmx,hmax⟩:=QA
 refine sr (fO (OF.assign (VEv.bool false)) (nt (sr (mO (rd 2 Qh l) Y (mO (T.fn 107 []) Y (cO (cS (us:= [(rd 2 Qh l),(T.fn 107 [])]) (vc (tv (rd 2 Qh l) Y) (vc (tv (T.fn 107 []) Y) vn)) (lp Y (LendL.cons (Lend.fn ln) ln)) (ZY (n+0) l (by assumption)) Y Y) (fO (xge (tv (tI (Jb noC l)) Y) (VEv.int .i64 0)) (aO (tB (decide (0≤Jb noC l))) Y (nt (rt (vb (b':=(decide (0≤Jb noC l))) Y ?_)))))))))))
 refine Q8 ?_;exact QfP
theorem Qey (n:Nat) (a:D.Puzzle) (hz:QK a≤mx):Pure (Qs Tryz.prog (n+10)) 89 [(T.agg (QC false a))] (tB (decide (Qc5 a))):=by
 refine Pure.intro (rs:= [ResultVar.tmp 2]) Tryz.func89 Y Y Y (E0:= [(0,(T.agg (QC false a)))]) Y ?_
 obtain ⟨hlim,hmx,hmax⟩:=QA
 simp only [QK,ZT] at hz
 have hl:=Zs (z:=QY) a.Clues
 have hl2:=Zs (z:=zI) a.Seals
 refine sr (kO (B.box (ts:=(QC false a)) (tv (T.agg (QC false a)) Y) nofun Y) (fO (OF.assign (VEv.bool false)) (nt (sq (sr (fO (OF.assign (VEv.int .i64 0)) (nt (VRun.block ?_))))))))
 refine VRun.loop (A:=Nat) (fun s_=> [(1,(T.op 0 0)),(3,(tN s_))]) (fun s_=>QV [(0,(Obj.cells (QC false a)))]) 1 (fun s_=>NoneTo noC a.Clues s_) (fun s_=>a.Clues.length - s_) (0:Nat) ?_ (Wk.mk (fun k=>k) ?_ ?_ ?_) ?_
 ·exact NoneTo.start _ _
 ·exact (b2 (b2 bn))
 ·exact (b3 bn)
 ·exact nd Y
 rintro i (hI':NoneTo noC a.Clues i)
 show VRun _ _ _ [(1,(T.op 0 0)),(3,(tN i))] (QV [(0,(Obj.cells (QC false a)))]) 1 _
 have hI1:=hI'.1
 refine sq (sr (mO (tN i) Y (lf (rd 2 Qh a.Clues) Y JT Y Y Qe0 (lO (B.lenR (m:=a.Clues.length) (tv (rd 2 Qh a.Clues) Y) U37 (List.length_map ..)) (fO (Q5 (tv (tN i) Y) (tv (tN a.Clues.length) Y)) (nt ?_))))))
 refine cd (i<a.Clues.length) Y (fun fhc0=> ?_) fun fhc0=> ?_
 ·refine sk ?_
  refine tn (sq (VRun.block (sr (lf (rd 2 Qh a.Clues) Y JT Y Y Qe0 (mO (tN i) Y ?_)))))
  obtain ⟨x1,hx1⟩:∃x,a.Clues[i]? =some x:=⟨_,List.getElem?_eq_getElem (by omega)⟩
  refine fO (OF.indexAddrR (row:=(Qh false x1)) (i:=i) (tv (rd 2 Qh a.Clues) Y) (tv (tN i) Y) Y (Qr _ hx1) U37 QbG Qhs) (lO (OL.loadRn (us:=(Qh false x1)) (tv (T.rp (Qh false x1)) Y) QiK QbG (lb Y) Y) (cO (cS (vc (tv (T.agg (Qh false x1)) Y) vn) (LendL.cons (lg okeClue) ln) (Qge (n+4) x1 (by exact Nat.le_trans (QgF hx1) (by omega))) Y Y) (fO (Zd (tv (tB (decide ((1≤x1.Sense∧x1.Sense≤99)∧YE x1.Play))) Y)) (nt ?_))))
  refine cn ((1≤x1.Sense∧x1.Sense≤99)∧YE x1.Play) Y (fun fhc1=> ?_) fun fhc1=> ?_
  ·refine sr ?_
   refine fO (OF.assign (VEv.bool false)) (nt (rt (vinB.r (tr (tr (vinB.r (tr (vb (b':=false) Y ?_))))))))
   symm;rw [decide_eq_false_iff_not];rintro ⟨_,_,_,_,h⟩;exact fhc1 (h x1 (List.mem_of_getElem? hx1))
  refine sk (vinB.n (tn (VRun.region (mO (tN i) Y (fO (Qx (tv (tN i) Y) (VEv.int .i64 1) (by omega)) (aO (tN (i+1)) Y (VRunO.nil (tn ?_))))))))
  refine ⟨(i+1:Nat),?_,?_,Wk.mk (fun k=>k) ?_ ?_ ?_⟩
  ·exact hI'.next hx1 (fun h=>h fhc1)
  ·omega
  ·exact (b2 (b2 bn))
  ·exact (b3 bn)
  ·exact nd Y
 refine VRun.exit (vthn.e (vthn.e (vinB.e (tn (sr (fO (OF.fieldAddrO (tv (T.op 0 0) Y) Y1) (lO (OL.loadOn (us:=(Qd false a.Grid)) (tv (T.op 0 0) Y) Y Q4 Q0 (lb Y) Y) (cO (OC.callF (r':=(T.os 4 1 0 (((Qb a.Grid).map (Qj true)).length))) (objs:= [(Obj.rows 4 ((Qb a.Grid).map (Qj true)))]) Y (vc (tv (T.agg (Qd false a.Grid)) Y) vn) (LendL.cons (lg Qu) ln) (ZP (n+6) a.Grid (by omega)) Y) (lO (B.lenO (m:=(Qb a.Grid).length) (tv (T.os 4 1 0 (((Qb a.Grid).map (Qj true)).length)) Y) U94 (List.length_map ..)) (aO (tN ((Qb a.Grid).length)) Y (nt ?_)))))))))))
 refine sr (fO (OF.fieldAddrO (tv (T.op 0 0) Y) Y1) (lO (OL.loadOn (us:=(Qd false a.Grid)) (tv (T.op 0 0) Y) Y Q4 Q0 (lb Y) Y) (cO (cS (vc (tv (T.agg (Qd false a.Grid)) Y) vn) (LendL.cons (lg Qu) ln) (Qf1 (n+0) a.Grid (by omega)) Y Y) (fO (J6 (tv (tI (Yh a.Grid)) Y) (VEv.int .i64 0)) (mO (tB (decide (Yh a.Grid=0))) Y ?_)))))
 refine VRunO.joinB 6 [28,29,30,31,32] 33 (tB (decide ((Yh a.Grid=0)∧(a.Clues.length=(Qb a.Grid).length)))) ?_ ?_
 ·refine gw (Yh a.Grid=0) (fun fhg27_1=> ?_) fun fhg27_1=> ?_
  ·refine Yu (rd 2 Qh a.Clues) (dy fhg27_1) Y Y Y Y JT Y Y Qe0 ?_
   refine gL (dy fhg27_1) Y Y (B.lenR (m:=a.Clues.length) (tv (rd 2 Qh a.Clues) Y) U37 (List.length_map ..)) (gF (dy fhg27_1) Y Y (OF.move (tv (tN ((Qb a.Grid).length)) Y)) (gF (dy fhg27_1) Y Y (Qix (tv (tN a.Clues.length) Y) (tv (tN ((Qb a.Grid).length)) Y)) (fO (OF.pickT (VEv.tmpB Y (dy fhg27_1)) (tv (tB (decide (a.Clues.length=(Qb a.Grid).length))) Y)) (VRunO.nil ?_))))
   exact jq (congrArg T.bool (kAT fhg27_1 Y)) (js Y (js Y (js Y (js Y (js Y (jn))))))
  ·refine QE 5 4 true 27 (dz fhg27_1) Y Y Y ?_
   refine fO (OF.pickF (VEv.tmpB Y (dz fhg27_1)) (VEv.bool false)) (VRunO.nil ?_)
   exact jq (congrArg T.bool (kAF fhg27_1)) (js Y (js Y (js Y (js Y (js Y (jn))))))
 refine mO (tB (decide ((Yh a.Grid=0)∧(a.Clues.length=(Qb a.Grid).length)))) Y ?_
 refine VRunO.joinB 6 [35,36,37,38,39] 40 (tB (decide (((Yh a.Grid=0)∧(a.Clues.length=(Qb a.Grid).length))∧(a.Seals.length=(Qb a.Grid).length)))) ?_ ?_
 ·refine gw ((Yh a.Grid=0)∧(a.Clues.length=(Qb a.Grid).length)) (fun fhg34_2=> ?_) fun fhg34_2=> ?_
  ·refine Yu (rd 1 Qc a.Seals) (dy fhg34_2) Y Y Y Y Qaj Y Y Qcm ?_
   refine gL (dy fhg34_2) Y Y (B.lenR (m:=a.Seals.length) (tv (rd 1 Qc a.Seals) Y) Z1 (List.length_map ..)) (gF (dy fhg34_2) Y Y (OF.move (tv (tN ((Qb a.Grid).length)) Y)) (gF (dy fhg34_2) Y Y (Qix (tv (tN a.Seals.length) Y) (tv (tN ((Qb a.Grid).length)) Y)) (fO (OF.pickT (VEv.tmpB Y (dy fhg34_2)) (tv (tB (decide (a.Seals.length=(Qb a.Grid).length))) Y)) (VRunO.nil ?_))))
   exact jq (congrArg T.bool (kAT fhg34_2 Y)) (js Y (js Y (js Y (js Y (js Y (jn))))))
  ·refine QE 5 11 true 34 (dz fhg34_2) Y Y Y ?_
   refine fO (OF.pickF (VEv.tmpB Y (dz fhg34_2)) (VEv.bool false)) (VRunO.nil ?_)
   exact jq (congrArg T.bool (kAF fhg34_2)) (js Y (js Y (js Y (js Y (js Y (jn))))))
 refine mO (tB (decide (((Yh a.Grid=0)∧(a.Clues.length=(Qb a.Grid).length))∧(a.Seals.length=(Qb a.Grid).length)))) Y ?_
 refine VRunO.joinB 4 [42,43,44] 45 (tB (decide ((((Yh a.Grid=0)∧(a.Clues.length=(Qb a.Grid).length))∧(a.Seals.length=(Qb a.Grid).length))∧(1≤a.Salt∧a.Salt≤9999)))) ?_ ?_
 ·refine gw (((Yh a.Grid=0)∧(a.Clues.length=(Qb a.Grid).length))∧(a.Seals.length=(Qb a.Grid).length)) (fun fhg41_3=> ?_) fun fhg41_3=> ?_
  ·refine Yu (tI a.Salt) (dy fhg41_3) Y Y Y Y Qby Y Y QQ ?_
   refine VRunO.chain (VWant.on Y Y (dy fhg41_3)) (cS (vc (tv (tI a.Salt) Y) (vc (VEv.int .i64 1) (vc (VEv.int .i64 9999) vn))) (Z8 Y) (Q2 (n+8) a.Salt 1 9999) Y Y) (fO (OF.pickT (VEv.tmpB Y (dy fhg41_3)) (tv (tB (decide (1≤a.Salt∧a.Salt≤9999))) Y)) (VRunO.nil ?_))
   exact jq (congrArg T.bool (kAT fhg41_3 Y)) (js Y (js Y (js Y (jn))))
  ·refine QE 3 18 true 41 (dz fhg41_3) Y Y Y ?_
   refine fO (OF.pickF (VEv.tmpB Y (dz fhg41_3)) (VEv.bool false)) (VRunO.nil ?_)
   exact jq (congrArg T.bool (kAF fhg41_3)) (js Y (js Y (js Y (jn))))
 refine aO (tB (decide ((((Yh a.Grid=0)∧(a.Clues.length=(Qb a.Grid).length))∧(a.Seals.length=(Qb a.Grid).length))∧(1≤a.Salt∧a.Salt≤9999)))) Y (nt (rt (vb (b':=(decide ((((Yh a.Grid=0)∧(a.Clues.length=(Qb a.Grid).length))∧(a.Seals.length=(Qb a.Grid).length))∧(1≤a.Salt∧a.Salt≤9999)))) Y ?_)))
 refine Q8 ⟨fun h=>⟨h.1.1.1,h.1.1.2,h.1.2,h.2,fun c hc=>Classical.byContradiction fun e=>hI'.mem fhc0 c hc e⟩,fun h=>⟨⟨⟨h.1,h.2.1⟩,h.2.2.1⟩,h.2.2.2.1⟩⟩
theorem QeG (n:Nat) (a:D.Puzzle) (hz:QK a≤mx):Pure (Qs Tryz.prog (n+42)) 92 [(T.agg (QC false a))] (tB (decide (Qc5 a))):=by
 refine Pure.intro (rs:= [ResultVar.tmp 2]) Tryz.func92 Y Y Y (E0:= [(0,(T.agg (QC false a)))]) Y ?_
 obtain ⟨hlim,hmx,hmax⟩:=QA
 simp only [QK,ZT] at hz
 have hl:=Zs (z:=QY) a.Clues
 have hl2:=Zs (z:=zI) a.Seals
 refine sr (kO (B.box (ts:=(QC false a)) (tv (T.agg (QC false a)) Y) nofun Y) (fO (OF.assign (VEv.bool false)) (nt (sq (sr (fO (OF.fieldAddrO (tv (T.op 0 0) Y) Y1) (lO (OL.loadOn (us:=(Qd false a.Grid)) (tv (T.op 0 0) Y) Y Q4 Q0 (lb Y) Y) (cO (cS (vc (tv (T.agg (Qd false a.Grid)) Y) vn) (LendL.cons (lg Qu) ln) (Qf0 (n+0) a.Grid (by omega)) Y Y) (fO (xne (tv (tI (Yh a.Grid)) Y) (VEv.int .i64 0)) (nt ?_))))))))))
 refine cn (Yh a.Grid=0) Y (fun fhc0=> ?_) fun fhc0=> ?_
 ·refine sr ?_
  refine fO (OF.assign (VEv.bool false)) (nt (rt (tr (vb (b':=false) Y ?_))))
  symm;rw [decide_eq_false_iff_not];intro h;exact fhc0 h.1
 refine sk (tn (sr (fO (OF.fieldAddrO (tv (T.op 0 0) Y) Y1) (lO (OL.loadOn (us:=(Qd false a.Grid)) (tv (T.op 0 0) Y) Y Q4 Q0 (lb Y) Y) (cO (OC.callF (r':=(T.os 4 1 0 (((Qb a.Grid).map (Qj true)).length))) (objs:= [(Obj.rows 4 ((Qb a.Grid).map (Qj true)))]) Y (vc (tv (T.agg (Qd false a.Grid)) Y) vn) (LendL.cons (lg Qu) ln) (Qae (n+38) a.Grid (by omega)) Y) (lO (B.lenO (m:=(Qb a.Grid).length) (tv (T.os 4 1 0 (((Qb a.Grid).map (Qj true)).length)) Y) U94 (List.length_map ..)) (aO (tN ((Qb a.Grid).length)) Y (nt (sr (lf (rd 2 Qh a.Clues) Y JT Y Y Qe0 (lO (B.lenR (m:=a.Clues.length) (tv (rd 2 Qh a.Clues) Y) U37 (List.length_map ..)) ?_)))))))))))
 refine mO (tN ((Qb a.Grid).length)) Y (fO (Qix (tv (tN a.Clues.length) Y) (tv (tN ((Qb a.Grid).length)) Y)) (mO (tB (decide (a.Clues.length=(Qb a.Grid).length))) Y ?_))
 refine gw (a.Clues.length=(Qb a.Grid).length) (fun fhg17_1=> ?_) fun fhg17_1=> ?_
 ·refine Yu (rd 1 Qc a.Seals) (dy fhg17_1) Y Y Y Y Qaj Y Y Qcm ?_
  refine gL (dy fhg17_1) Y Y (B.lenR (m:=a.Seals.length) (tv (rd 1 Qc a.Seals) Y) Z1 (List.length_map ..)) (gF (dy fhg17_1) Y Y (OF.move (tv (tN ((Qb a.Grid).length)) Y)) (gF (dy fhg17_1) Y Y (Qix (tv (tN a.Seals.length) Y) (tv (tN ((Qb a.Grid).length)) Y)) (fO (OF.pickT (VEv.tmpB Y (dy fhg17_1)) (tv (tB (decide (a.Seals.length=(Qb a.Grid).length))) Y)) (mO (tB (decide (a.Seals.length=(Qb a.Grid).length))) Y ?_))))
  refine gw (a.Seals.length=(Qb a.Grid).length) (fun fhg24_2=> ?_) fun fhg24_2=> ?_
  ·refine Yu (tI a.Salt) (dy fhg24_2) Y Y Y Y Qby Y Y QQ ?_
   refine VRunO.chain (VWant.on Y Y (dy fhg24_2)) (cS (vc (tv (tI a.Salt) Y) (vc (VEv.int .i64 1) (vc (VEv.int .i64 9999) vn))) (Z8 Y) (Zu (n+40) a.Salt 1 9999) Y Y) (fO (OF.pickT (VEv.tmpB Y (dy fhg24_2)) (tv (tB (decide (1≤a.Salt∧a.Salt≤9999))) Y)) (mO (tB (decide (1≤a.Salt∧a.Salt≤9999))) Y ?_))
   refine gw (1≤a.Salt∧a.Salt≤9999) (fun fhg29_3=> ?_) fun fhg29_3=> ?_
   ·refine Yu (rd 2 Qh a.Clues) (dy fhg29_3) Y Y Y Y JT Y Y Qe0 ?_
    refine VRunO.chain (VWant.on Y Y (dy fhg29_3)) (cS (us:= [(rd 2 Qh a.Clues),(T.fn 107 [])]) (vc (tv (rd 2 Qh a.Clues) Y) (vc (VEv.func 107) vn)) (lp Y (LendL.cons (Lend.fn ln) ln)) (ZM (n+34) a.Clues (by omega)) Y Y) (gF (dy fhg29_3) Y Y (Zd (tv (tB (decide (∃c∈a.Clues,noC c))) Y)) (fO (OF.pickT (VEv.tmpB Y (dy fhg29_3)) (tv (tB (!(decide (∃c∈a.Clues,noC c)))) Y)) (aO (tB (!(decide (∃c∈a.Clues,noC c)))) Y (nt (rt (vb (b':=(!(decide (∃c∈a.Clues,noC c)))) Y ?_))))))
    (rw [dN];refine Q8 ⟨fun h=>⟨?_,?_,?_,?_,fun c hc=>Classical.byContradiction fun e=>h ⟨c,hc,e⟩⟩,fun h=> ?_⟩<;>first | assumption | (rintro ⟨c,hc,hb⟩;exact hb (h.2.2.2.2 c hc)))
   refine QE 4 17 true 29 (dz fhg29_3) Y Y Y (fO (OF.pickF (VEv.tmpB Y (dz fhg29_3)) (VEv.bool false)) (aO (tB false) Y (nt (rt (vb (b':=false) Y ?_)))))
   (symm;rw [decide_eq_false_iff_not];rintro ⟨h1,h2,h3,h4,h5⟩;contradiction)
  refine QE 3 12 true 24 (dz fhg24_2) Y Y Y (fO (OF.pickF (VEv.tmpB Y (dz fhg24_2)) (VEv.bool false)) (mO (tB false) Y (QE 4 17 true 29 (b:=false) Y Y Y Y (fO (OF.pickF (tv (tB false) Y) (VEv.bool false)) (aO (tB false) Y (nt (rt (vb (b':=false) Y ?_))))))))
  (symm;rw [decide_eq_false_iff_not];rintro ⟨h1,h2,h3,h4,h5⟩;contradiction)
 refine QE 5 5 true 17 (dz fhg17_1) Y Y Y (fO (OF.pickF (VEv.tmpB Y (dz fhg17_1)) (VEv.bool false)) (mO (tB false) Y (QE 3 12 true 24 (b:=false) Y Y Y Y (fO (OF.pickF (tv (tB false) Y) (VEv.bool false)) (mO (tB false) Y (QE 4 17 true 29 (b:=false) Y Y Y Y (fO (OF.pickF (tv (tB false) Y) (VEv.bool false)) (aO (tB false) Y (nt (rt (vb (b':=false) Y ?_)))))))))))
 (symm;rw [decide_eq_false_iff_not];rintro ⟨h1,h2,h3,h4,h5⟩;contradiction)
noncomputable section
def QW (p:D.Puzzle) (f:ByteArray):Prop:=Qc5 p∧QaY p.Grid f∧(Zg p.Grid f p.Seals p.Salt).length=p.Clues.length
instance (p:D.Puzzle) (f:ByteArray):Decidable (QW p f):=Classical.propDecidable _
end
theorem Qex (n:Nat) (a:D.Puzzle) (f:ByteArray) (hz:QK a≤mx) (hf:f.size≤maxLen):Pure (Qs Tryz.prog (n+11)) 70 [(T.agg (QC false a)),(tS f)] (tB (decide (QW a f))):=by
 refine Pure.intro (rs:= [ResultVar.tmp 4]) Tryz.func70 Y Y Y (E0:= [(0,(T.agg (QC false a))),(1,(tS f))]) Y ?_
 obtain ⟨hlim,hmx,hmax⟩:=QA
 have hz2:=hz
 simp only [QK,ZT] at hz2
 have hl:=Zs (z:=QY) a.Clues
 have hl2:=Zs (z:=zI) a.Seals
 have hrl:=Qbu a.Grid f a.Seals a.Salt
 refine sr (kO (B.box (ts:=(QC false a)) (tv (T.agg (QC false a)) Y) nofun Y) (fO (OF.assign (VEv.bool false)) (nt (sq (VRun.draw (B:= [[],[0],[0,1],[1,0,2],[2,0,1,3],[1,0,2],[5,3,1,0,2,4],[4,3,5,6,1,0,2],[2,0,1,6,5,3,4,7],[7,4,3,5,6,1,0,2,8],[8,2,0,1,6,5,3,4,7,9],[7,4,3,5,6,1,0,2,8],[7,4,3,5,6,1,0,2,8],[8,2,0,1,6,5,3,4,7,12],[7,4,3,5,6,1,0,2,8],[8,2,0,1,6,5,3,4,7,14],[14,15,12,13,11,9,7,4,3,5,6,1,0,2,8,10],[10,8,2,0,1,6,5,3,4,7,9,11,13,12,15,14,16],[7,4,3,5,6,1,0,2,8],[8,2,0,1,6,5,3,4,7,18],[18,7,4,3,5,6,1,0,2,8,19],[19,18,20,16,14,15,12,13,11,9,7,4,3,5,6,1,0,2,8,10,17],[17,10,9,11,13,12,15,14,16,20,18,19,21,7,4,3,5,6,1,0,2,8],[8,2,0,1,6,5,3,4,7,21,19,18,20,16,14,15,12,13,11,9,10,17,22]]) (by kernel_rfl) (by kernel_rfl) Y (lD (OL.loadOn (us:=(QC false a)) (tv (T.op 0 0) Y) Y Qhq Qer (lb Y) Y) Y Y (VRunD.quiet (bi:= [0]) Y VWant.always Y Y Y bn (cS (vc (tv (T.agg (QC false a)) Y) vn) (LendL.cons (lg Y7) ln) (Qey (n+0) a (by assumption)) Y Y) (mD (tB (decide (Qc5 a))) Y Y ?_))))))))
 refine gw (Qc5 a) (fun fhg7_1=> ?_) fun fhg7_1=> ?_
 ·refine VRunD.free Y (VWant.on Y Y (dy fhg7_1)) Y (OF.fieldAddrO (tv (T.op 0 0) Y) Y1) ?_
  refine VRunD.look Y (VWant.on Y Y (dy fhg7_1)) Y (OL.loadOn (us:=(Qd false a.Grid)) (tv (T.op 0 0) Y) Y Q4 Q0 (lb Y) Y) (VRunD.free Y (VWant.on Y Y (dy fhg7_1)) Y (OF.move (tv (tS f) Y)) (VRunD.quiet (bi:= [5,3,1,0,2,4]) Y (VWant.on Y Y (dy fhg7_1)) Y Y Y bn (cS (vc (tv (T.agg (Qd false a.Grid)) Y) (vc (tv (tS f) Y) vn)) (LendL.cons (lg Qu) (lp Y ln)) (Qgm (n+6) a.Grid f (by omega) (by assumption)) Y Y) (fD (OF.pickT (VEv.tmpB Y (dy fhg7_1)) (tv (tB (decide (QaY a.Grid f))) Y)) Y Y (mD (tB (decide (QaY a.Grid f))) Y Y ?_))))
  refine gw (QaY a.Grid f) (fun fhg13_2=> ?_) fun fhg13_2=> ?_
  ·refine VRunD.free Y (VWant.on Y Y (dy fhg13_2)) Y (OF.fieldAddrO (tv (T.op 0 0) Y) Y1) ?_
   refine VRunD.look Y (VWant.on Y Y (dy fhg13_2)) Y (OL.loadOn (us:=(Qd false a.Grid)) (tv (T.op 0 0) Y) Y Q4 Q0 (lb Y) Y) (VRunD.free Y (VWant.on Y Y (dy fhg13_2)) Y (OF.move (tv (tS f) Y)) (VRunD.free Y (VWant.on Y Y (dy fhg13_2)) Y (OF.fieldAddrO (tv (T.op 0 0) Y) Qaj) (VRunD.look Y (VWant.on Y Y (dy fhg13_2)) Y (OL.loadO1 (t:=(rd 1 Qc a.Seals)) (tv (T.op 0 4) Y) Y Y Qcm) (VRunD.free Y (VWant.on Y Y (dy fhg13_2)) Y (OF.fieldAddrO (tv (T.op 0 0) Y) Qby) (VRunD.look Y (VWant.on Y Y (dy fhg13_2)) Y (OL.loadO1 (t:=(tI a.Salt)) (tv (T.op 0 5) Y) Y Y QQ) (VRunD.quiet (bi:= [14,15,12,13,11,9,7,4,3,5,6,1,0,2,8,10]) Y (VWant.on Y Y (dy fhg13_2)) Y Y Y bn (OC.callF (r':=(T.os 1 1 0 (((Zg a.Grid f a.Seals a.Salt).map (Qc true)).length))) (objs:= [(Obj.rows 1 ((Zg a.Grid f a.Seals a.Salt).map (Qc true)))]) Y (vc (tv (T.agg (Qd false a.Grid)) Y) (vc (tv (tS f) Y) (vc (tv (rd 1 Qc a.Seals) Y) (vc (tv (tI a.Salt) Y) vn)))) (LendL.cons (lg Qu) (lp Y (lp Y (lp Y ln)))) (QaG (n+4) a.Grid f a.Seals a.Salt (by omega) (by assumption) (by omega)) Y) (VRunD.look Y (VWant.on Y Y (dy fhg13_2)) Y (B.lenO (m:=(Zg a.Grid f a.Seals a.Salt).length) (tv (T.os 1 1 0 (((Zg a.Grid f a.Seals a.Salt).map (Qc true)).length)) Y) Z1 (List.length_map ..)) (VRunD.free Y (VWant.on Y Y (dy fhg13_2)) Y (OF.fieldAddrO (tv (T.op 0 0) Y) JT) (VRunD.look Y (VWant.on Y Y (dy fhg13_2)) Y (OL.loadO1 (t:=(rd 2 Qh a.Clues)) (tv (T.op 0 3) Y) Y Y Qe0) (VRunD.look Y (VWant.on Y Y (dy fhg13_2)) Y (B.lenR (m:=a.Clues.length) (tv (rd 2 Qh a.Clues) Y) U37 (List.length_map ..)) (VRunD.free Y (VWant.on Y Y (dy fhg13_2)) Y (Qix (tv (tN ((Zg a.Grid f a.Seals a.Salt).length)) Y) (tv (tN a.Clues.length) Y)) ?_)))))))))))
   refine fD (OF.pickT (VEv.tmpB Y (dy fhg13_2)) (tv (tB (decide ((Zg a.Grid f a.Seals a.Salt).length=a.Clues.length))) Y)) Y Y (fD (OF.assign (tv (tB (decide ((Zg a.Grid f a.Seals a.Salt).length=a.Clues.length))) Y)) Y Y (VRunD.nil (tn (rt (vb (b':=(decide ((Zg a.Grid f a.Seals a.Salt).length=a.Clues.length))) Y ?_)))))
   (refine Q8 ⟨fun h=>⟨?_,?_,h⟩,fun h=>h.2.2⟩<;>assumption)
  refine oD Y Y (dz fhg13_2) Y (oD Y Y (dz fhg13_2) Y (oD Y Y (dz fhg13_2) Y (oD Y Y (dz fhg13_2) Y (oD Y Y (dz fhg13_2) Y (oD Y Y (dz fhg13_2) Y (oD Y Y (dz fhg13_2) Y (oD Y Y (dz fhg13_2) Y (oD Y Y (dz fhg13_2) Y (oD Y Y (dz fhg13_2) Y (oD Y Y (dz fhg13_2) Y (oD Y Y (dz fhg13_2) Y ?_)))))))))))
  refine oD Y Y (dz fhg13_2) Y (fD (OF.pickF (VEv.tmpB Y (dz fhg13_2)) (VEv.bool false)) Y Y (fD (OF.assign (tv (tB false) Y)) Y Y (VRunD.nil (tn (rt (vb (b':=false) Y ?_))))))
  (symm;rw [decide_eq_false_iff_not];rintro ⟨h1,h2,h3⟩;contradiction)
 refine oD Y Y (dz fhg7_1) Y (oD Y Y (dz fhg7_1) Y (oD Y Y (dz fhg7_1) Y (oD Y Y (dz fhg7_1) Y (fD (OF.pickF (VEv.tmpB Y (dz fhg7_1)) (VEv.bool false)) Y Y (mD (tB false) Y Y (VRunD.off Y (VWant.not (b:=false) Y Y Y) (VRunD.off Y (VWant.not (b:=false) Y Y Y) (VRunD.off Y (VWant.not (b:=false) Y Y Y) (VRunD.off Y (VWant.not (b:=false) Y Y Y) (VRunD.off Y (VWant.not (b:=false) Y Y Y) (VRunD.off Y (VWant.not (b:=false) Y Y Y) ?_)))))))))))
 refine VRunD.off Y (VWant.not (b:=false) Y Y Y) (VRunD.off Y (VWant.not (b:=false) Y Y Y) (VRunD.off Y (VWant.not (b:=false) Y Y Y) (VRunD.off Y (VWant.not (b:=false) Y Y Y) (VRunD.off Y (VWant.not (b:=false) Y Y Y) (VRunD.off Y (VWant.not (b:=false) Y Y Y) (VRunD.off Y (VWant.not (b:=false) Y Y Y) (fD (OF.pickF (tv (tB false) Y) (VEv.bool false)) Y Y (fD (OF.assign (tv (tB false) Y)) Y Y (VRunD.nil (tn (rt ?_)))))))))))
 refine vb (b':=false) Y ?_
 (symm;rw [decide_eq_false_iff_not];rintro ⟨h1,h2,h3⟩;contradiction)
theorem QeB (n:Nat) (a:D.Puzzle) (f:ByteArray) (hz:QK a≤mx) (hf:f.size≤maxLen):Pure (Qs Tryz.prog (n+43)) 73 [(T.agg (QC false a)),(tS f)] (tB (decide (QW a f))):=by
 refine Pure.intro (rs:= [ResultVar.tmp 4]) Tryz.func73 Y Y Y (E0:= [(0,(T.agg (QC false a))),(1,(tS f))]) Y ?_
 obtain ⟨hlim,hmx,hmax⟩:=QA
 have hz2:=hz
 simp only [QK,ZT] at hz2
 have hl:=Zs (z:=QY) a.Clues
 have hl2:=Zs (z:=zI) a.Seals
 have hrl:=Qbu a.Grid f a.Seals a.Salt
 refine sr (kO (B.box (ts:=(QC false a)) (tv (T.agg (QC false a)) Y) nofun Y) (fO (OF.assign (VEv.bool false)) (nt (sq (VRun.draw (B:= [[],[0],[0,1],[1,0,2],[2,0,1,3],[1,0,2],[5,3,1,0,2,4],[4,3,5,6,1,0,2],[2,0,1,6,5,3,4,7],[7,4,3,5,6,1,0,2,8],[8,2,0,1,6,5,3,4,7,9],[7,4,3,5,6,1,0,2,8],[7,4,3,5,6,1,0,2,8],[8,2,0,1,6,5,3,4,7,12],[7,4,3,5,6,1,0,2,8],[8,2,0,1,6,5,3,4,7,14],[14,15,12,13,11,9,7,4,3,5,6,1,0,2,8,10],[10,8,2,0,1,6,5,3,4,7,9,11,13,12,15,14,16],[7,4,3,5,6,1,0,2,8],[8,2,0,1,6,5,3,4,7,18],[18,7,4,3,5,6,1,0,2,8,19],[19,18,20,16,14,15,12,13,11,9,7,4,3,5,6,1,0,2,8,10,17],[17,10,9,11,13,12,15,14,16,20,18,19,21,7,4,3,5,6,1,0,2,8],[8,2,0,1,6,5,3,4,7,21,19,18,20,16,14,15,12,13,11,9,10,17,22]]) (by kernel_rfl) (by kernel_rfl) Y (lD (OL.loadOn (us:=(QC false a)) (tv (T.op 0 0) Y) Y Qhq Qer (lb Y) Y) Y Y (VRunD.quiet (bi:= [0]) Y VWant.always Y Y Y bn (cS (vc (tv (T.agg (QC false a)) Y) vn) (LendL.cons (lg Y7) ln) (QeG (n+0) a (by assumption)) Y Y) (mD (tB (decide (Qc5 a))) Y Y ?_))))))))
 refine gw (Qc5 a) (fun fhg7_1=> ?_) fun fhg7_1=> ?_
 ·refine VRunD.free Y (VWant.on Y Y (dy fhg7_1)) Y (OF.fieldAddrO (tv (T.op 0 0) Y) Y1) ?_
  refine VRunD.look Y (VWant.on Y Y (dy fhg7_1)) Y (OL.loadOn (us:=(Qd false a.Grid)) (tv (T.op 0 0) Y) Y Q4 Q0 (lb Y) Y) (VRunD.free Y (VWant.on Y Y (dy fhg7_1)) Y (OF.move (tv (tS f) Y)) (VRunD.quiet (bi:= [5,3,1,0,2,4]) Y (VWant.on Y Y (dy fhg7_1)) Y Y Y bn (cS (vc (tv (T.agg (Qd false a.Grid)) Y) (vc (tv (tS f) Y) vn)) (LendL.cons (lg Qu) (lp Y ln)) (Qgk (n+38) a.Grid f (by omega) (by assumption)) Y Y) (fD (OF.pickT (VEv.tmpB Y (dy fhg7_1)) (tv (tB (decide (QaY a.Grid f))) Y)) Y Y (mD (tB (decide (QaY a.Grid f))) Y Y ?_))))
  refine gw (QaY a.Grid f) (fun fhg13_2=> ?_) fun fhg13_2=> ?_
  ·refine VRunD.free Y (VWant.on Y Y (dy fhg13_2)) Y (OF.fieldAddrO (tv (T.op 0 0) Y) Y1) ?_
   refine VRunD.look Y (VWant.on Y Y (dy fhg13_2)) Y (OL.loadOn (us:=(Qd false a.Grid)) (tv (T.op 0 0) Y) Y Q4 Q0 (lb Y) Y) (VRunD.free Y (VWant.on Y Y (dy fhg13_2)) Y (OF.move (tv (tS f) Y)) (VRunD.free Y (VWant.on Y Y (dy fhg13_2)) Y (OF.fieldAddrO (tv (T.op 0 0) Y) Qaj) (VRunD.look Y (VWant.on Y Y (dy fhg13_2)) Y (OL.loadO1 (t:=(rd 1 Qc a.Seals)) (tv (T.op 0 4) Y) Y Y Qcm) (VRunD.free Y (VWant.on Y Y (dy fhg13_2)) Y (OF.fieldAddrO (tv (T.op 0 0) Y) Qby) (VRunD.look Y (VWant.on Y Y (dy fhg13_2)) Y (OL.loadO1 (t:=(tI a.Salt)) (tv (T.op 0 5) Y) Y Y QQ) (VRunD.quiet (bi:= [14,15,12,13,11,9,7,4,3,5,6,1,0,2,8,10]) Y (VWant.on Y Y (dy fhg13_2)) Y Y Y bn (OC.callF (r':=(T.os 1 1 0 (((Zg a.Grid f a.Seals a.Salt).map (Qc true)).length))) (objs:= [(Obj.rows 1 ((Zg a.Grid f a.Seals a.Salt).map (Qc true)))]) Y (vc (tv (T.agg (Qd false a.Grid)) Y) (vc (tv (tS f) Y) (vc (tv (rd 1 Qc a.Seals) Y) (vc (tv (tI a.Salt) Y) vn)))) (LendL.cons (lg Qu) (lp Y (lp Y (lp Y ln)))) (QaL (n+36) a.Grid f a.Seals a.Salt (by omega) (by assumption) (by omega)) Y) (VRunD.look Y (VWant.on Y Y (dy fhg13_2)) Y (B.lenO (m:=(Zg a.Grid f a.Seals a.Salt).length) (tv (T.os 1 1 0 (((Zg a.Grid f a.Seals a.Salt).map (Qc true)).length)) Y) Z1 (List.length_map ..)) (VRunD.free Y (VWant.on Y Y (dy fhg13_2)) Y (OF.fieldAddrO (tv (T.op 0 0) Y) Qaj) (VRunD.look Y (VWant.on Y Y (dy fhg13_2)) Y (OL.loadO1 (t:=(rd 1 Qc a.Seals)) (tv (T.op 0 4) Y) Y Y Qcm) (VRunD.look Y (VWant.on Y Y (dy fhg13_2)) Y (B.lenR (m:=a.Seals.length) (tv (rd 1 Qc a.Seals) Y) Z1 (List.length_map ..)) (VRunD.free Y (VWant.on Y Y (dy fhg13_2)) Y (Qix (tv (tN ((Zg a.Grid f a.Seals a.Salt).length)) Y) (tv (tN a.Seals.length) Y)) ?_)))))))))))
   refine fD (OF.pickT (VEv.tmpB Y (dy fhg13_2)) (tv (tB (decide ((Zg a.Grid f a.Seals a.Salt).length=a.Seals.length))) Y)) Y Y (fD (OF.assign (tv (tB (decide ((Zg a.Grid f a.Seals a.Salt).length=a.Seals.length))) Y)) Y Y (VRunD.nil (tn (rt (vb (b':=(decide ((Zg a.Grid f a.Seals a.Salt).length=a.Seals.length))) Y ?_)))))
   (refine Q8 ⟨fun h=>⟨?_,?_,?_⟩,fun h=> ?_⟩<;>first | assumption | (have h9:=h.1;rw [h.2.2,h9.2.1,h9.2.2.1]) | (have h9:Qc5 a:=(by assumption);rw [h,h9.2.2.1,h9.2.1]))
  refine oD Y Y (dz fhg13_2) Y (oD Y Y (dz fhg13_2) Y (oD Y Y (dz fhg13_2) Y (oD Y Y (dz fhg13_2) Y (oD Y Y (dz fhg13_2) Y (oD Y Y (dz fhg13_2) Y (oD Y Y (dz fhg13_2) Y (oD Y Y (dz fhg13_2) Y (oD Y Y (dz fhg13_2) Y (oD Y Y (dz fhg13_2) Y (oD Y Y (dz fhg13_2) Y (oD Y Y (dz fhg13_2) Y ?_)))))))))))
  refine oD Y Y (dz fhg13_2) Y (fD (OF.pickF (VEv.tmpB Y (dz fhg13_2)) (VEv.bool false)) Y Y (fD (OF.assign (tv (tB false) Y)) Y Y (VRunD.nil (tn (rt (vb (b':=false) Y ?_))))))
  (symm;rw [decide_eq_false_iff_not];rintro ⟨h1,h2,h3⟩;contradiction)
 refine oD Y Y (dz fhg7_1) Y (oD Y Y (dz fhg7_1) Y (oD Y Y (dz fhg7_1) Y (oD Y Y (dz fhg7_1) Y (fD (OF.pickF (VEv.tmpB Y (dz fhg7_1)) (VEv.bool false)) Y Y (mD (tB false) Y Y (VRunD.off Y (VWant.not (b:=false) Y Y Y) (VRunD.off Y (VWant.not (b:=false) Y Y Y) (VRunD.off Y (VWant.not (b:=false) Y Y Y) (VRunD.off Y (VWant.not (b:=false) Y Y Y) (VRunD.off Y (VWant.not (b:=false) Y Y Y) (VRunD.off Y (VWant.not (b:=false) Y Y Y) ?_)))))))))))
 refine VRunD.off Y (VWant.not (b:=false) Y Y Y) (VRunD.off Y (VWant.not (b:=false) Y Y Y) (VRunD.off Y (VWant.not (b:=false) Y Y Y) (VRunD.off Y (VWant.not (b:=false) Y Y Y) (VRunD.off Y (VWant.not (b:=false) Y Y Y) (VRunD.off Y (VWant.not (b:=false) Y Y Y) (VRunD.off Y (VWant.not (b:=false) Y Y Y) (fD (OF.pickF (tv (tB false) Y) (VEv.bool false)) Y Y (fD (OF.assign (tv (tB false) Y)) Y Y (VRunD.nil (tn (rt ?_)))))))))))
 refine vb (b':=false) Y ?_
 (symm;rw [decide_eq_false_iff_not];rintro ⟨h1,h2,h3⟩;contradiction)
noncomputable section
def Zn (x:D.Issue):Prop:=(1≤x.Number∧x.Number≤999)∧QW x.Puzzle x.Fill∧0≤x.Open∧x.Open<x.Close∧x.Close≤1000
instance (x:D.Issue):Decidable (Zn x):=Classical.propDecidable _
theorem Qd9 (x:D.Issue):((((1≤x.Number∧x.Number≤999)∧QW x.Puzzle x.Fill)∧0≤x.Open)∧x.Open<x.Close)∧x.Close≤1000↔Zn x:=by
 unfold Zn
 simp only [and_assoc]
end
theorem QfI (n:Nat) (a:D.Issue) (hz:Q3 a≤mx):Pure (Qs Tryz.prog (n+12)) 53 [(T.agg (Qe false a))] (tB (decide (Zn a))):=by
 refine Pure.intro (rs:= [ResultVar.tmp 2]) Tryz.func53 Y Y Y (E0:= [(0,(T.agg (Qe false a)))]) Y ?_
 obtain ⟨hlim,hmx,hmax⟩:=QA
 simp only [Q3] at hz
 refine sr (kO (B.box (ts:=(Qe false a)) (tv (T.agg (Qe false a)) Y) nofun Y) (fO (OF.assign (VEv.bool false)) (nt (sr (lf (tI a.Number) Y QcB Y Y QQ (cO (cS (vc (tv (tI a.Number) Y) (vc (VEv.int .i64 1) (vc (VEv.int .i64 999) vn))) (Z8 Y) (Q2 (n+10) a.Number 1 999) Y Y) (mO (tB (decide (1≤a.Number∧a.Number≤999))) Y ?_)))))))
 refine VRunO.joinB 6 [7,8,9,10,11] 12 (tB (decide ((1≤a.Number∧a.Number≤999)∧(QW a.Puzzle a.Fill)))) ?_ ?_
 ·refine gw (1≤a.Number∧a.Number≤999) (fun fhg6_1=> ?_) fun fhg6_1=> ?_
  ·refine gF (dy fhg6_1) Y Y (OF.fieldAddrO (tv (T.op 0 0) Y) YU) ?_
   refine gL (dy fhg6_1) Y Y (OL.loadOn (us:=(QC false a.Puzzle)) (tv (T.op 0 1) Y) Y Qhq Qer (lb Y) Y) (Yu (tS a.Fill) (dy fhg6_1) Y Y Y Y QeU Y Y YD (VRunO.chain (VWant.on Y Y (dy fhg6_1)) (cS (vc (tv (T.agg (QC false a.Puzzle)) Y) (vc (tv (tS a.Fill) Y) vn)) (LendL.cons (lg Y7) (lp Y ln)) (Qex (n+0) a.Puzzle a.Fill (by omega) (by omega)) Y Y) (fO (OF.pickT (VEv.tmpB Y (dy fhg6_1)) (tv (tB (decide (QW a.Puzzle a.Fill))) Y)) (VRunO.nil ?_))))
   exact jq (congrArg T.bool (kAT fhg6_1 Y)) (js Y (js Y (js Y (js Y (js Y (jn))))))
  ·refine QE 5 3 true 6 (dz fhg6_1) Y Y Y ?_
   refine fO (OF.pickF (VEv.tmpB Y (dz fhg6_1)) (VEv.bool false)) (VRunO.nil ?_)
   exact jq (congrArg T.bool (kAF fhg6_1)) (js Y (js Y (js Y (js Y (js Y (jn))))))
 refine mO (tB (decide ((1≤a.Number∧a.Number≤999)∧(QW a.Puzzle a.Fill)))) Y ?_
 refine VRunO.joinB 4 [14,15,16] 17 (tB (decide (((1≤a.Number∧a.Number≤999)∧(QW a.Puzzle a.Fill))∧(0≤a.Open)))) ?_ ?_
 ·refine gw ((1≤a.Number∧a.Number≤999)∧(QW a.Puzzle a.Fill)) (fun fhg13_2=> ?_) fun fhg13_2=> ?_
  ·refine Yu (tI a.Open) (dy fhg13_2) Y Y Y Y Qbl Y Y QQ ?_
   refine gF (dy fhg13_2) Y Y (xge (tv (tI a.Open) Y) (VEv.int .i64 0)) (fO (OF.pickT (VEv.tmpB Y (dy fhg13_2)) (tv (tB (decide (0≤a.Open))) Y)) (VRunO.nil ?_))
   exact jq (congrArg T.bool (kAT fhg13_2 Y)) (js Y (js Y (js Y (jn))))
  ·refine QE 3 10 true 13 (dz fhg13_2) Y Y Y ?_
   refine fO (OF.pickF (VEv.tmpB Y (dz fhg13_2)) (VEv.bool false)) (VRunO.nil ?_)
   exact jq (congrArg T.bool (kAF fhg13_2)) (js Y (js Y (js Y (jn))))
 refine mO (tB (decide (((1≤a.Number∧a.Number≤999)∧(QW a.Puzzle a.Fill))∧(0≤a.Open)))) Y ?_
 refine VRunO.joinB 6 [19,20,21,22,23] 24 (tB (decide ((((1≤a.Number∧a.Number≤999)∧(QW a.Puzzle a.Fill))∧(0≤a.Open))∧(a.Open<a.Close)))) ?_ ?_
 ·refine gw (((1≤a.Number∧a.Number≤999)∧(QW a.Puzzle a.Fill))∧(0≤a.Open)) (fun fhg18_3=> ?_) fun fhg18_3=> ?_
  ·refine Yu (tI a.Open) (dy fhg18_3) Y Y Y Y Qbl Y Y QQ ?_
   refine Yu (tI a.Close) (dy fhg18_3) Y Y Y Y Qbq Y Y QQ (gF (dy fhg18_3) Y Y (xls (tv (tI a.Open) Y) (tv (tI a.Close) Y)) (fO (OF.pickT (VEv.tmpB Y (dy fhg18_3)) (tv (tB (decide (a.Open<a.Close))) Y)) (VRunO.nil ?_)))
   exact jq (congrArg T.bool (kAT fhg18_3 Y)) (js Y (js Y (js Y (js Y (js Y (jn))))))
  ·refine QE 5 15 true 18 (dz fhg18_3) Y Y Y ?_
   refine fO (OF.pickF (VEv.tmpB Y (dz fhg18_3)) (VEv.bool false)) (VRunO.nil ?_)
   exact jq (congrArg T.bool (kAF fhg18_3)) (js Y (js Y (js Y (js Y (js Y (jn))))))
 refine mO (tB (decide ((((1≤a.Number∧a.Number≤999)∧(QW a.Puzzle a.Fill))∧(0≤a.Open))∧(a.Open<a.Close)))) Y ?_
 refine VRunO.joinB 4 [26,27,28] 29 (tB (decide (((((1≤a.Number∧a.Number≤999)∧(QW a.Puzzle a.Fill))∧(0≤a.Open))∧(a.Open<a.Close))∧(a.Close≤1000)))) ?_ ?_
 ·refine gw ((((1≤a.Number∧a.Number≤999)∧(QW a.Puzzle a.Fill))∧(0≤a.Open))∧(a.Open<a.Close)) (fun fhg25_4=> ?_) fun fhg25_4=> ?_
  ·refine Yu (tI a.Close) (dy fhg25_4) Y Y Y Y Qbq Y Y QQ ?_
   refine gF (dy fhg25_4) Y Y (xle (tv (tI a.Close) Y) (VEv.int .i64 1000)) (fO (OF.pickT (VEv.tmpB Y (dy fhg25_4)) (tv (tB (decide (a.Close≤1000))) Y)) (VRunO.nil ?_))
   exact jq (congrArg T.bool (kAT fhg25_4 Y)) (js Y (js Y (js Y (jn))))
  ·refine QE 3 22 true 25 (dz fhg25_4) Y Y Y ?_
   refine fO (OF.pickF (VEv.tmpB Y (dz fhg25_4)) (VEv.bool false)) (VRunO.nil ?_)
   exact jq (congrArg T.bool (kAF fhg25_4)) (js Y (js Y (js Y (jn))))
 refine aO (tB (decide (((((1≤a.Number∧a.Number≤999)∧(QW a.Puzzle a.Fill))∧(0≤a.Open))∧(a.Open<a.Close))∧(a.Close≤1000)))) Y (nt (rt (vb (b':=(decide (((((1≤a.Number∧a.Number≤999)∧(QW a.Puzzle a.Fill))∧(0≤a.Open))∧(a.Open<a.Close))∧(a.Close≤1000)))) Y ?_)))
 exact Q8 (Qd9 a)
theorem Qff (n:Nat) (a:D.Issue) (hz:Q3 a≤mx):Pure (Qs Tryz.prog (n+44)) 58 [(T.agg (Qe false a))] (tB (decide (Zn a))):=by
 refine Pure.intro (rs:= [ResultVar.tmp 2]) Tryz.func58 Y Y Y (E0:= [(0,(T.agg (Qe false a)))]) Y ?_
 obtain ⟨hlim,hmx,hmax⟩:=QA
 simp only [Q3] at hz
 refine sr (kO (B.box (ts:=(Qe false a)) (tv (T.agg (Qe false a)) Y) nofun Y) (fO (OF.assign (VEv.bool false)) (nt (sr (lf (tI a.Number) Y QcB Y Y QQ (cO (cS (vc (tv (tI a.Number) Y) (vc (VEv.int .i64 1) (vc (VEv.int .i64 999) vn))) (Z8 Y) (Zu (n+42) a.Number 1 999) Y Y) (mO (tB (decide (1≤a.Number∧a.Number≤999))) Y ?_)))))))
 refine VRunO.joinB 6 [7,8,9,10,11] 12 (tB (decide ((1≤a.Number∧a.Number≤999)∧(QW a.Puzzle a.Fill)))) ?_ ?_
 ·refine gw (1≤a.Number∧a.Number≤999) (fun fhg6_1=> ?_) fun fhg6_1=> ?_
  ·refine gF (dy fhg6_1) Y Y (OF.fieldAddrO (tv (T.op 0 0) Y) YU) ?_
   refine gL (dy fhg6_1) Y Y (OL.loadOn (us:=(QC false a.Puzzle)) (tv (T.op 0 1) Y) Y Qhq Qer (lb Y) Y) (Yu (tS a.Fill) (dy fhg6_1) Y Y Y Y QeU Y Y YD (VRunO.chain (VWant.on Y Y (dy fhg6_1)) (cS (vc (tv (T.agg (QC false a.Puzzle)) Y) (vc (tv (tS a.Fill) Y) vn)) (LendL.cons (lg Y7) (lp Y ln)) (QeB (n+0) a.Puzzle a.Fill (by omega) (by omega)) Y Y) (fO (OF.pickT (VEv.tmpB Y (dy fhg6_1)) (tv (tB (decide (QW a.Puzzle a.Fill))) Y)) (VRunO.nil ?_))))
   exact jq (congrArg T.bool (kAT fhg6_1 Y)) (js Y (js Y (js Y (js Y (js Y (jn))))))
  ·refine QE 5 3 true 6 (dz fhg6_1) Y Y Y ?_
   refine fO (OF.pickF (VEv.tmpB Y (dz fhg6_1)) (VEv.bool false)) (VRunO.nil ?_)
   exact jq (congrArg T.bool (kAF fhg6_1)) (js Y (js Y (js Y (js Y (js Y (jn))))))
 refine mO (tB (decide ((1≤a.Number∧a.Number≤999)∧(QW a.Puzzle a.Fill)))) Y ?_
 refine VRunO.joinB 4 [14,15,16] 17 (tB (decide (((1≤a.Number∧a.Number≤999)∧(QW a.Puzzle a.Fill))∧(0≤a.Open)))) ?_ ?_
 ·refine gw ((1≤a.Number∧a.Number≤999)∧(QW a.Puzzle a.Fill)) (fun fhg13_2=> ?_) fun fhg13_2=> ?_
  ·refine Yu (tI a.Open) (dy fhg13_2) Y Y Y Y Qbl Y Y QQ ?_
   refine gF (dy fhg13_2) Y Y (xge (tv (tI a.Open) Y) (VEv.int .i64 0)) (fO (OF.pickT (VEv.tmpB Y (dy fhg13_2)) (tv (tB (decide (0≤a.Open))) Y)) (VRunO.nil ?_))
   exact jq (congrArg T.bool (kAT fhg13_2 Y)) (js Y (js Y (js Y (jn))))
  ·refine QE 3 10 true 13 (dz fhg13_2) Y Y Y ?_
   refine fO (OF.pickF (VEv.tmpB Y (dz fhg13_2)) (VEv.bool false)) (VRunO.nil ?_)
   exact jq (congrArg T.bool (kAF fhg13_2)) (js Y (js Y (js Y (jn))))
 refine mO (tB (decide (((1≤a.Number∧a.Number≤999)∧(QW a.Puzzle a.Fill))∧(0≤a.Open)))) Y ?_
 refine VRunO.joinB 6 [19,20,21,22,23] 24 (tB (decide ((((1≤a.Number∧a.Number≤999)∧(QW a.Puzzle a.Fill))∧(0≤a.Open))∧(a.Open<a.Close)))) ?_ ?_
 ·refine gw (((1≤a.Number∧a.Number≤999)∧(QW a.Puzzle a.Fill))∧(0≤a.Open)) (fun fhg18_3=> ?_) fun fhg18_3=> ?_
  ·refine Yu (tI a.Open) (dy fhg18_3) Y Y Y Y Qbl Y Y QQ ?_
   refine Yu (tI a.Close) (dy fhg18_3) Y Y Y Y Qbq Y Y QQ (gF (dy fhg18_3) Y Y (xls (tv (tI a.Open) Y) (tv (tI a.Close) Y)) (fO (OF.pickT (VEv.tmpB Y (dy fhg18_3)) (tv (tB (decide (a.Open<a.Close))) Y)) (VRunO.nil ?_)))
   exact jq (congrArg T.bool (kAT fhg18_3 Y)) (js Y (js Y (js Y (js Y (js Y (jn))))))
  ·refine QE 5 15 true 18 (dz fhg18_3) Y Y Y ?_
   refine fO (OF.pickF (VEv.tmpB Y (dz fhg18_3)) (VEv.bool false)) (VRunO.nil ?_)
   exact jq (congrArg T.bool (kAF fhg18_3)) (js Y (js Y (js Y (js Y (js Y (jn))))))
 refine mO (tB (decide ((((1≤a.Number∧a.Number≤999)∧(QW a.Puzzle a.Fill))∧(0≤a.Open))∧(a.Open<a.Close)))) Y ?_
 refine VRunO.joinB 4 [26,27,28] 29 (tB (decide (((((1≤a.Number∧a.Number≤999)∧(QW a.Puzzle a.Fill))∧(0≤a.Open))∧(a.Open<a.Close))∧(a.Close≤1000)))) ?_ ?_
 ·refine gw ((((1≤a.Number∧a.Number≤999)∧(QW a.Puzzle a.Fill))∧(0≤a.Open))∧(a.Open<a.Close)) (fun fhg25_4=> ?_) fun fhg25_4=> ?_
  ·refine Yu (tI a.Close) (dy fhg25_4) Y Y Y Y Qbq Y Y QQ ?_
   refine gF (dy fhg25_4) Y Y (xle (tv (tI a.Close) Y) (VEv.int .i64 1000)) (fO (OF.pickT (VEv.tmpB Y (dy fhg25_4)) (tv (tB (decide (a.Close≤1000))) Y)) (VRunO.nil ?_))
   exact jq (congrArg T.bool (kAT fhg25_4 Y)) (js Y (js Y (js Y (jn))))
  ·refine QE 3 22 true 25 (dz fhg25_4) Y Y Y ?_
   refine fO (OF.pickF (VEv.tmpB Y (dz fhg25_4)) (VEv.bool false)) (VRunO.nil ?_)
   exact jq (congrArg T.bool (kAF fhg25_4)) (js Y (js Y (js Y (jn))))
 refine aO (tB (decide (((((1≤a.Number∧a.Number≤999)∧(QW a.Puzzle a.Fill))∧(0≤a.Open))∧(a.Open<a.Close))∧(a.Close≤1000)))) Y (nt (rt (vb (b':=(decide (((((1≤a.Number∧a.Number≤999)∧(QW a.Puzzle a.Fill))∧(0≤a.Open))∧(a.Open<a.Close))∧(a.Close≤1000)))) Y ?_)))
 exact Q8 (Qd9 a)
noncomputable section
def Za (e:D.Entry) (x:D.Issue):Prop:=(1≤e.Player∧e.Player≤99)∧e.Issue=x.Number∧Zn x∧(x.Open≤e.Tick∧e.Tick<x.Close)∧QN x.Puzzle.Grid e.Fill
instance (e:D.Entry) (x:D.Issue):Decidable (Za e x):=Classical.propDecidable _
theorem Qei (e:D.Entry) (x:D.Issue):((((1≤e.Player∧e.Player≤99)∧e.Issue=x.Number)∧Zn x)∧x.Open≤e.Tick∧e.Tick<x.Close)∧QN x.Puzzle.Grid e.Fill↔Za e x:=by
 unfold Za
 simp only [and_assoc]
def QF (e:D.Entry) (x:D.Issue):Nat:=if Za e x then (Zg x.Puzzle.Grid e.Fill x.Puzzle.Seals x.Puzzle.Salt).length else 0
def Zf (a b:D.Entry) (x:D.Issue):Prop:=QF b x<QF a x∨(QF a x=QF b x∧(a.Tick<b.Tick∨(a.Tick=b.Tick∧a.Player<b.Player)))
instance (a b:D.Entry) (x:D.Issue):Decidable (Zf a b x):=Classical.propDecidable _
end
theorem Qai (n:Nat) (e:D.Entry) (x:D.Issue) (hze:Q7 e≤mx) (hz:Q3 x≤mx):Pure (Qs Tryz.prog (n+13)) 35 [(T.agg (Qa false e)),(T.agg (Qe false x))] (tB (decide (Za e x))):=by
 refine Pure.intro (rs:= [ResultVar.tmp 4]) Tryz.func35 Y Y Y (E0:= [(0,(T.agg (Qa false e))),(1,(T.agg (Qe false x)))]) Y ?_
 obtain ⟨hlim,hmx,hmax⟩:=QA
 have hz2:=hz
 simp only [Q3,QK,ZT] at hz2
 simp only [Q7] at hze
 refine sr (kO (B.box (ts:=(Qa false e)) (tv (T.agg (Qa false e)) Y) nofun Y) (kO (B.box (ts:=(Qe false x)) (tv (T.agg (Qe false x)) Y) nofun Y) (fO (OF.assign (VEv.bool false)) (nt (sr (lf (tI e.Player) Y YH Y Y QQ (cO (cS (vc (tv (tI e.Player) Y) (vc (VEv.int .i64 1) (vc (VEv.int .i64 99) vn))) (Z8 Y) (Q2 (n+11) e.Player 1 99) Y Y) (mO (tB (decide (1≤e.Player∧e.Player≤99))) Y ?_))))))))
 refine VRunO.joinB 6 [9,10,11,12,13] 14 (tB (decide ((1≤e.Player∧e.Player≤99)∧(e.Issue=x.Number)))) ?_ ?_
 ·refine gw (1≤e.Player∧e.Player≤99) (fun fhg8_1=> ?_) fun fhg8_1=> ?_
  ·refine Yu (tI e.Issue) (dy fhg8_1) Y Y Y Y QdO Y Y QQ ?_
   refine Yu (tI x.Number) (dy fhg8_1) Y Y Y Y QcB Y Y QQ (gF (dy fhg8_1) Y Y (J6 (tv (tI e.Issue) Y) (tv (tI x.Number) Y)) (fO (OF.pickT (VEv.tmpB Y (dy fhg8_1)) (tv (tB (decide (e.Issue=x.Number))) Y)) (VRunO.nil ?_)))
   exact jq (congrArg T.bool (kAT fhg8_1 Y)) (js Y (js Y (js Y (js Y (js Y (jn))))))
  ·refine QE 5 3 true 8 (dz fhg8_1) Y Y Y ?_
   refine fO (OF.pickF (VEv.tmpB Y (dz fhg8_1)) (VEv.bool false)) (VRunO.nil ?_)
   exact jq (congrArg T.bool (kAF fhg8_1)) (js Y (js Y (js Y (js Y (js Y (jn))))))
 refine mO (tB (decide ((1≤e.Player∧e.Player≤99)∧(e.Issue=x.Number)))) Y ?_
 refine VRunO.joinB 3 [16,17] 18 (tB (decide (((1≤e.Player∧e.Player≤99)∧(e.Issue=x.Number))∧(Zn x)))) ?_ ?_
 ·refine gw ((1≤e.Player∧e.Player≤99)∧(e.Issue=x.Number)) (fun fhg15_2=> ?_) fun fhg15_2=> ?_
  ·refine gL (dy fhg15_2) Y Y (OL.loadOn (us:=(Qe false x)) (tv (T.op 1 0) Y) Y Jj YZ (lb Y) Y) ?_
   refine VRunO.chain (VWant.on Y Y (dy fhg15_2)) (cS (vc (tv (T.agg (Qe false x)) Y) vn) (LendL.cons (lg Q1) ln) (QfI (n+0) x (by assumption)) Y Y) (fO (OF.pickT (VEv.tmpB Y (dy fhg15_2)) (tv (tB (decide (Zn x))) Y)) (VRunO.nil ?_))
   exact jq (congrArg T.bool (kAT fhg15_2 Y)) (js Y (js Y (jn)))
  ·refine QE 2 10 true 15 (dz fhg15_2) Y Y Y ?_
   refine fO (OF.pickF (VEv.tmpB Y (dz fhg15_2)) (VEv.bool false)) (VRunO.nil ?_)
   exact jq (congrArg T.bool (kAF fhg15_2)) (js Y (js Y (jn)))
 refine mO (tB (decide (((1≤e.Player∧e.Player≤99)∧(e.Issue=x.Number))∧(Zn x)))) Y ?_
 refine VRunO.joinB 5 [20,21,22,23] 24 (tB (decide ((((1≤e.Player∧e.Player≤99)∧(e.Issue=x.Number))∧(Zn x))∧(x.Open≤e.Tick∧e.Tick<x.Close)))) ?_ ?_
 ·refine gw (((1≤e.Player∧e.Player≤99)∧(e.Issue=x.Number))∧(Zn x)) (fun fhg19_3=> ?_) fun fhg19_3=> ?_
  ·refine gL (dy fhg19_3) Y Y (OL.loadOn (us:=(Qe false x)) (tv (T.op 1 0) Y) Y Jj YZ (lb Y) Y) ?_
   refine Yu (tI e.Tick) (dy fhg19_3) Y Y Y Y Jg Y Y QQ (VRunO.chain (VWant.on Y Y (dy fhg19_3)) (cS (vc (tv (T.agg (Qe false x)) Y) (vc (tv (tI e.Tick) Y) vn)) (LendL.cons (lg Q1) (lp Y ln)) (Qf6 (n+11) x e.Tick) Y Y) (fO (OF.pickT (VEv.tmpB Y (dy fhg19_3)) (tv (tB (decide (x.Open≤e.Tick∧e.Tick<x.Close))) Y)) (VRunO.nil ?_)))
   exact jq (congrArg T.bool (kAT fhg19_3 Y)) (js Y (js Y (js Y (js Y (jn)))))
  ·refine QE 4 14 true 19 (dz fhg19_3) Y Y Y ?_
   refine fO (OF.pickF (VEv.tmpB Y (dz fhg19_3)) (VEv.bool false)) (VRunO.nil ?_)
   exact jq (congrArg T.bool (kAF fhg19_3)) (js Y (js Y (js Y (js Y (jn)))))
 refine mO (tB (decide ((((1≤e.Player∧e.Player≤99)∧(e.Issue=x.Number))∧(Zn x))∧(x.Open≤e.Tick∧e.Tick<x.Close)))) Y ?_
 refine VRunO.joinB 7 [26,27,28,29,30,31] 32 (tB (decide (((((1≤e.Player∧e.Player≤99)∧(e.Issue=x.Number))∧(Zn x))∧(x.Open≤e.Tick∧e.Tick<x.Close))∧(QN x.Puzzle.Grid e.Fill)))) ?_ ?_
 ·refine gw ((((1≤e.Player∧e.Player≤99)∧(e.Issue=x.Number))∧(Zn x))∧(x.Open≤e.Tick∧e.Tick<x.Close)) (fun fhg25_4=> ?_) fun fhg25_4=> ?_
  ·refine gF (dy fhg25_4) Y Y (OF.fieldAddrO (tv (T.op 1 0) Y) YU) ?_
   refine gF (dy fhg25_4) Y Y (OF.fieldAddrO (tv (T.op 1 1) Y) Y1) (gL (dy fhg25_4) Y Y (OL.loadOn (us:=(Qd false x.Puzzle.Grid)) (tv (T.op 1 1) Y) Y Q4 Q0 (lb Y) Y) (Yu (tS e.Fill) (dy fhg25_4) Y Y Y Y Qb0 Y Y YD (VRunO.chain (VWant.on Y Y (dy fhg25_4)) (cS (vc (tv (T.agg (Qd false x.Puzzle.Grid)) Y) (vc (tv (tS e.Fill) Y) vn)) (LendL.cons (lg Qu) (lp Y ln)) (JG (n+9) x.Puzzle.Grid e.Fill (by omega) (by omega)) Y Y) (fO (OF.pickT (VEv.tmpB Y (dy fhg25_4)) (tv (tB (decide (QN x.Puzzle.Grid e.Fill))) Y)) (VRunO.nil ?_)))))
   exact jq (congrArg T.bool (kAT fhg25_4 Y)) (js Y (js Y (js Y (js Y (js Y (js Y (jn)))))))
  ·refine QE 6 20 true 25 (dz fhg25_4) Y Y Y ?_
   refine fO (OF.pickF (VEv.tmpB Y (dz fhg25_4)) (VEv.bool false)) (VRunO.nil ?_)
   exact jq (congrArg T.bool (kAF fhg25_4)) (js Y (js Y (js Y (js Y (js Y (js Y (jn)))))))
 refine aO (tB (decide (((((1≤e.Player∧e.Player≤99)∧(e.Issue=x.Number))∧(Zn x))∧(x.Open≤e.Tick∧e.Tick<x.Close))∧(QN x.Puzzle.Grid e.Fill)))) Y (nt (rt (vb (b':=(decide (((((1≤e.Player∧e.Player≤99)∧(e.Issue=x.Number))∧(Zn x))∧(x.Open≤e.Tick∧e.Tick<x.Close))∧(QN x.Puzzle.Grid e.Fill)))) Y ?_)))
 exact Q8 (Qei e x)
theorem QbS (n:Nat) (e:D.Entry) (x:D.Issue) (hze:Q7 e≤mx) (hz:Q3 x≤mx):Pure (Qs Tryz.prog (n+45)) 40 [(T.agg (Qa false e)),(T.agg (Qe false x))] (tB (decide (Za e x))):=by
 refine Pure.intro (rs:= [ResultVar.tmp 4]) Tryz.func40 Y Y Y (E0:= [(0,(T.agg (Qa false e))),(1,(T.agg (Qe false x)))]) Y ?_
 obtain ⟨hlim,hmx,hmax⟩:=QA
 have hz2:=hz
 simp only [Q3,QK,ZT] at hz2
 simp only [Q7] at hze
 refine sr (kO (B.box (ts:=(Qa false e)) (tv (T.agg (Qa false e)) Y) nofun Y) (kO (B.box (ts:=(Qe false x)) (tv (T.agg (Qe false x)) Y) nofun Y) (fO (OF.assign (VEv.bool false)) (nt (sr (lf (tI e.Player) Y YH Y Y QQ (cO (cS (vc (tv (tI e.Player) Y) (vc (VEv.int .i64 1) (vc (VEv.int .i64 99) vn))) (Z8 Y) (Zu (n+43) e.Player 1 99) Y Y) (mO (tB (decide (1≤e.Player∧e.Player≤99))) Y ?_))))))))
 refine VRunO.joinB 6 [9,10,11,12,13] 14 (tB (decide ((1≤e.Player∧e.Player≤99)∧(e.Issue=x.Number)))) ?_ ?_
 ·refine gw (1≤e.Player∧e.Player≤99) (fun fhg8_1=> ?_) fun fhg8_1=> ?_
  ·refine Yu (tI e.Issue) (dy fhg8_1) Y Y Y Y QdO Y Y QQ ?_
   refine Yu (tI x.Number) (dy fhg8_1) Y Y Y Y QcB Y Y QQ (gF (dy fhg8_1) Y Y (J6 (tv (tI e.Issue) Y) (tv (tI x.Number) Y)) (fO (OF.pickT (VEv.tmpB Y (dy fhg8_1)) (tv (tB (decide (e.Issue=x.Number))) Y)) (VRunO.nil ?_)))
   exact jq (congrArg T.bool (kAT fhg8_1 Y)) (js Y (js Y (js Y (js Y (js Y (jn))))))
  ·refine QE 5 3 true 8 (dz fhg8_1) Y Y Y ?_
   refine fO (OF.pickF (VEv.tmpB Y (dz fhg8_1)) (VEv.bool false)) (VRunO.nil ?_)
   exact jq (congrArg T.bool (kAF fhg8_1)) (js Y (js Y (js Y (js Y (js Y (jn))))))
 refine mO (tB (decide ((1≤e.Player∧e.Player≤99)∧(e.Issue=x.Number)))) Y ?_
 refine VRunO.joinB 3 [16,17] 18 (tB (decide (((1≤e.Player∧e.Player≤99)∧(e.Issue=x.Number))∧(Zn x)))) ?_ ?_
 ·refine gw ((1≤e.Player∧e.Player≤99)∧(e.Issue=x.Number)) (fun fhg15_2=> ?_) fun fhg15_2=> ?_
  ·refine gL (dy fhg15_2) Y Y (OL.loadOn (us:=(Qe false x)) (tv (T.op 1 0) Y) Y Jj YZ (lb Y) Y) ?_
   refine VRunO.chain (VWant.on Y Y (dy fhg15_2)) (cS (vc (tv (T.agg (Qe false x)) Y) vn) (LendL.cons (lg Q1) ln) (Qff (n+0) x (by assumption)) Y Y) (fO (OF.pickT (VEv.tmpB Y (dy fhg15_2)) (tv (tB (decide (Zn x))) Y)) (VRunO.nil ?_))
   exact jq (congrArg T.bool (kAT fhg15_2 Y)) (js Y (js Y (jn)))
  ·refine QE 2 10 true 15 (dz fhg15_2) Y Y Y ?_
   refine fO (OF.pickF (VEv.tmpB Y (dz fhg15_2)) (VEv.bool false)) (VRunO.nil ?_)
   exact jq (congrArg T.bool (kAF fhg15_2)) (js Y (js Y (jn)))
 refine mO (tB (decide (((1≤e.Player∧e.Player≤99)∧(e.Issue=x.Number))∧(Zn x)))) Y ?_
 refine VRunO.joinB 5 [20,21,22,23] 24 (tB (decide ((((1≤e.Player∧e.Player≤99)∧(e.Issue=x.Number))∧(Zn x))∧(x.Open≤e.Tick∧e.Tick<x.Close)))) ?_ ?_
 ·refine gw (((1≤e.Player∧e.Player≤99)∧(e.Issue=x.Number))∧(Zn x)) (fun fhg19_3=> ?_) fun fhg19_3=> ?_
  ·refine gL (dy fhg19_3) Y Y (OL.loadOn (us:=(Qe false x)) (tv (T.op 1 0) Y) Y Jj YZ (lb Y) Y) ?_
   refine Yu (tI e.Tick) (dy fhg19_3) Y Y Y Y Jg Y Y QQ (VRunO.chain (VWant.on Y Y (dy fhg19_3)) (cS (vc (tv (T.agg (Qe false x)) Y) (vc (tv (tI e.Tick) Y) vn)) (LendL.cons (lg Q1) (lp Y ln)) (Qgb (n+43) x e.Tick) Y Y) (fO (OF.pickT (VEv.tmpB Y (dy fhg19_3)) (tv (tB (decide (x.Open≤e.Tick∧e.Tick<x.Close))) Y)) (VRunO.nil ?_)))
   exact jq (congrArg T.bool (kAT fhg19_3 Y)) (js Y (js Y (js Y (js Y (jn)))))
  ·refine QE 4 14 true 19 (dz fhg19_3) Y Y Y ?_
   refine fO (OF.pickF (VEv.tmpB Y (dz fhg19_3)) (VEv.bool false)) (VRunO.nil ?_)
   exact jq (congrArg T.bool (kAF fhg19_3)) (js Y (js Y (js Y (js Y (jn)))))
 refine mO (tB (decide ((((1≤e.Player∧e.Player≤99)∧(e.Issue=x.Number))∧(Zn x))∧(x.Open≤e.Tick∧e.Tick<x.Close)))) Y ?_
 refine VRunO.joinB 7 [26,27,28,29,30,31] 32 (tB (decide (((((1≤e.Player∧e.Player≤99)∧(e.Issue=x.Number))∧(Zn x))∧(x.Open≤e.Tick∧e.Tick<x.Close))∧(QN x.Puzzle.Grid e.Fill)))) ?_ ?_
 ·refine gw ((((1≤e.Player∧e.Player≤99)∧(e.Issue=x.Number))∧(Zn x))∧(x.Open≤e.Tick∧e.Tick<x.Close)) (fun fhg25_4=> ?_) fun fhg25_4=> ?_
  ·refine gF (dy fhg25_4) Y Y (OF.fieldAddrO (tv (T.op 1 0) Y) YU) ?_
   refine gF (dy fhg25_4) Y Y (OF.fieldAddrO (tv (T.op 1 1) Y) Y1) (gL (dy fhg25_4) Y Y (OL.loadOn (us:=(Qd false x.Puzzle.Grid)) (tv (T.op 1 1) Y) Y Q4 Q0 (lb Y) Y) (Yu (tS e.Fill) (dy fhg25_4) Y Y Y Y Qb0 Y Y YD (VRunO.chain (VWant.on Y Y (dy fhg25_4)) (cS (vc (tv (T.agg (Qd false x.Puzzle.Grid)) Y) (vc (tv (tS e.Fill) Y) vn)) (LendL.cons (lg Qu) (lp Y ln)) (QaP (n+41) x.Puzzle.Grid e.Fill (by omega) (by omega)) Y Y) (fO (OF.pickT (VEv.tmpB Y (dy fhg25_4)) (tv (tB (decide (QN x.Puzzle.Grid e.Fill))) Y)) (VRunO.nil ?_)))))
   exact jq (congrArg T.bool (kAT fhg25_4 Y)) (js Y (js Y (js Y (js Y (js Y (js Y (jn)))))))
  ·refine QE 6 20 true 25 (dz fhg25_4) Y Y Y ?_
   refine fO (OF.pickF (VEv.tmpB Y (dz fhg25_4)) (VEv.bool false)) (VRunO.nil ?_)
   exact jq (congrArg T.bool (kAF fhg25_4)) (js Y (js Y (js Y (js Y (js Y (js Y (jn)))))))
 refine aO (tB (decide (((((1≤e.Player∧e.Player≤99)∧(e.Issue=x.Number))∧(Zn x))∧(x.Open≤e.Tick∧e.Tick<x.Close))∧(QN x.Puzzle.Grid e.Fill)))) Y (nt (rt (vb (b':=(decide (((((1≤e.Player∧e.Player≤99)∧(e.Issue=x.Number))∧(Zn x))∧(x.Open≤e.Tick∧e.Tick<x.Close))∧(QN x.Puzzle.Grid e.Fill)))) Y ?_)))
 exact Q8 (Qei e x)
theorem Qan (n:Nat) (e:D.Entry) (x:D.Issue) (hze:Q7 e≤mx) (hz:Q3 x≤mx):Pure (Qs Tryz.prog (n+14)) 30 [(T.agg (Qa false e)),(T.agg (Qe false x))] (tN (QF e x)):=by
 refine Pure.intro (rs:= [ResultVar.tmp 4]) Tryz.func30 Y Y Y (E0:= [(0,(T.agg (Qa false e))),(1,(T.agg (Qe false x)))]) Y ?_
 obtain ⟨hlim,hmx,hmax⟩:=QA
 have hz2:=hz
 have hz3:=hze
 simp only [Q3,QK,ZT] at hz2
 simp only [Q7] at hz3
 have hl2:=Zs (z:=zI) x.Puzzle.Seals
 have hrl:=Qbu x.Puzzle.Grid e.Fill x.Puzzle.Seals x.Puzzle.Salt
 refine sr (kO (B.box (ts:=(Qa false e)) (tv (T.agg (Qa false e)) Y) nofun Y) (kO (B.box (ts:=(Qe false x)) (tv (T.agg (Qe false x)) Y) nofun Y) (fO (OF.assign (VEv.int .i64 0)) (nt (sq (sr (lO (OL.loadOn (us:=(Qa false e)) (tv (T.op 0 0) Y) Y ZX Qz (lb Y) Y) (lO (OL.loadOn (us:=(Qe false x)) (tv (T.op 1 0) Y) Y Jj YZ (lb Y) Y) (cO (cS (vc (tv (T.agg (Qa false e)) Y) (vc (tv (T.agg (Qe false x)) Y) vn)) (LendL.cons (lg okeEntry) (LendL.cons (lg Q1) ln)) (Qai (n+0) e x (by assumption) (by assumption)) Y Y) (fO (Zd (tv (tB (decide (Za e x))) Y)) (nt ?_)))))))))))
 refine cn (Za e x) Y (fun fhc0=> ?_) fun fhc0=> ?_
 ·refine sr ?_
  refine fO (OF.assign (VEv.int .i64 0)) (nt (rt (tr (vi (n':=0) Y ?_))))
  unfold QF;rw [if_neg fhc0];rfl
 refine sk (tn (sr (fO (OF.fieldAddrO (tv (T.op 1 0) Y) YU) (fO (OF.fieldAddrO (tv (T.op 1 1) Y) Y1) (lO (OL.loadOn (us:=(Qd false x.Puzzle.Grid)) (tv (T.op 1 1) Y) Y Q4 Q0 (lb Y) Y) (lf (tS e.Fill) Y Qb0 Y Y YD (fO (OF.fieldAddrO (tv (T.op 1 0) Y) YU) (lf (rd 1 Qc x.Puzzle.Seals) Y Qaj Y Y Qcm (fO (OF.fieldAddrO (tv (T.op 1 0) Y) YU) (lf (tI x.Puzzle.Salt) Y Qby Y Y QQ (cO (OC.callF (r':=(T.os 1 2 0 (((Zg x.Puzzle.Grid e.Fill x.Puzzle.Seals x.Puzzle.Salt).map (Qc true)).length))) (objs:= [(Obj.rows 1 ((Zg x.Puzzle.Grid e.Fill x.Puzzle.Seals x.Puzzle.Salt).map (Qc true)))]) Y (vc (tv (T.agg (Qd false x.Puzzle.Grid)) Y) (vc (tv (tS e.Fill) Y) (vc (tv (rd 1 Qc x.Puzzle.Seals) Y) (vc (tv (tI x.Puzzle.Salt) Y) vn)))) (LendL.cons (lg Qu) (lp Y (lp Y (lp Y ln)))) (QaG (n+7) x.Puzzle.Grid e.Fill x.Puzzle.Seals x.Puzzle.Salt (by omega) (by omega) (by omega)) Y) ?_)))))))))))
 refine lO (B.lenO (m:=(Zg x.Puzzle.Grid e.Fill x.Puzzle.Seals x.Puzzle.Salt).length) (tv (T.os 1 2 0 (((Zg x.Puzzle.Grid e.Fill x.Puzzle.Seals x.Puzzle.Salt).map (Qc true)).length)) Y) Z1 (List.length_map ..)) (aO (tN ((Zg x.Puzzle.Grid e.Fill x.Puzzle.Seals x.Puzzle.Salt).length)) Y (nt (rt (vi (n':=(((Zg x.Puzzle.Grid e.Fill x.Puzzle.Seals x.Puzzle.Salt).length:Nat):Int)) Y ?_))))
 unfold QF;rw [if_pos fhc0]
theorem Qap (n:Nat) (e:D.Entry) (x:D.Issue) (hze:Q7 e≤mx) (hz:Q3 x≤mx):Pure (Qs Tryz.prog (n+46)) 31 [(T.agg (Qa false e)),(T.agg (Qe false x))] (tN (QF e x)):=by
 refine Pure.intro (rs:= [ResultVar.tmp 4]) Tryz.func31 Y Y Y (E0:= [(0,(T.agg (Qa false e))),(1,(T.agg (Qe false x)))]) Y ?_
 obtain ⟨hlim,hmx,hmax⟩:=QA
 have hz2:=hz
 have hz3:=hze
 simp only [Q3,QK,ZT] at hz2
 simp only [Q7] at hz3
 have hl2:=Zs (z:=zI) x.Puzzle.Seals
 have hrl:=Qbu x.Puzzle.Grid e.Fill x.Puzzle.Seals x.Puzzle.Salt
 refine sr (kO (B.box (ts:=(Qa false e)) (tv (T.agg (Qa false e)) Y) nofun Y) (kO (B.box (ts:=(Qe false x)) (tv (T.agg (Qe false x)) Y) nofun Y) (fO (OF.assign (VEv.int .i64 0)) (nt (sq (sr (lO (OL.loadOn (us:=(Qa false e)) (tv (T.op 0 0) Y) Y ZX Qz (lb Y) Y) (lO (OL.loadOn (us:=(Qe false x)) (tv (T.op 1 0) Y) Y Jj YZ (lb Y) Y) (cO (cS (vc (tv (T.agg (Qa false e)) Y) (vc (tv (T.agg (Qe false x)) Y) vn)) (LendL.cons (lg okeEntry) (LendL.cons (lg Q1) ln)) (QbS (n+0) e x (by assumption) (by assumption)) Y Y) (fO (Zd (tv (tB (decide (Za e x))) Y)) (nt ?_)))))))))))
 refine cn (Za e x) Y (fun fhc0=> ?_) fun fhc0=> ?_
 ·refine sr ?_
  refine fO (OF.assign (VEv.int .i64 0)) (nt (rt (tr (vi (n':=0) Y ?_))))
  unfold QF;rw [if_neg fhc0];rfl
 refine sk (tn (sr (fO (OF.fieldAddrO (tv (T.op 1 0) Y) YU) (fO (OF.fieldAddrO (tv (T.op 1 1) Y) Y1) (lO (OL.loadOn (us:=(Qd false x.Puzzle.Grid)) (tv (T.op 1 1) Y) Y Q4 Q0 (lb Y) Y) (lf (tS e.Fill) Y Qb0 Y Y YD (fO (OF.fieldAddrO (tv (T.op 1 0) Y) YU) (lf (rd 1 Qc x.Puzzle.Seals) Y Qaj Y Y Qcm (fO (OF.fieldAddrO (tv (T.op 1 0) Y) YU) (lf (tI x.Puzzle.Salt) Y Qby Y Y QQ (cO (OC.callF (r':=(T.os 1 2 0 (((Zg x.Puzzle.Grid e.Fill x.Puzzle.Seals x.Puzzle.Salt).map (Qc true)).length))) (objs:= [(Obj.rows 1 ((Zg x.Puzzle.Grid e.Fill x.Puzzle.Seals x.Puzzle.Salt).map (Qc true)))]) Y (vc (tv (T.agg (Qd false x.Puzzle.Grid)) Y) (vc (tv (tS e.Fill) Y) (vc (tv (rd 1 Qc x.Puzzle.Seals) Y) (vc (tv (tI x.Puzzle.Salt) Y) vn)))) (LendL.cons (lg Qu) (lp Y (lp Y (lp Y ln)))) (QaL (n+39) x.Puzzle.Grid e.Fill x.Puzzle.Seals x.Puzzle.Salt (by omega) (by omega) (by omega)) Y) ?_)))))))))))
 refine lO (B.lenO (m:=(Zg x.Puzzle.Grid e.Fill x.Puzzle.Seals x.Puzzle.Salt).length) (tv (T.os 1 2 0 (((Zg x.Puzzle.Grid e.Fill x.Puzzle.Seals x.Puzzle.Salt).map (Qc true)).length)) Y) Z1 (List.length_map ..)) (aO (tN ((Zg x.Puzzle.Grid e.Fill x.Puzzle.Seals x.Puzzle.Salt).length)) Y (nt (rt (vi (n':=(((Zg x.Puzzle.Grid e.Fill x.Puzzle.Seals x.Puzzle.Salt).length:Nat):Int)) Y ?_))))
 unfold QF;rw [if_pos fhc0]
theorem Qau (n:Nat) (a:D.Entry) (b:D.Entry) (x:D.Issue) (hza:Q7 a≤mx) (hzb:Q7 b≤mx) (hz:Q3 x≤mx):Pure (Qs Tryz.prog (n+15)) 36 [(T.agg (Qa false a)),(T.agg (Qa false b)),(T.agg (Qe false x))] (tB (decide (Zf a b x))):=by
 refine Pure.intro (rs:= [ResultVar.tmp 6]) Tryz.func36 Y Y Y (E0:= [(0,(T.agg (Qa false a))),(1,(T.agg (Qa false b))),(2,(T.agg (Qe false x)))]) Y ?_
 obtain ⟨hlim,hmx,hmax⟩:=QA
 refine sr (kO (B.box (ts:=(Qa false a)) (tv (T.agg (Qa false a)) Y) nofun Y) (kO (B.box (ts:=(Qa false b)) (tv (T.agg (Qa false b)) Y) nofun Y) (kO (B.box (ts:=(Qe false x)) (tv (T.agg (Qe false x)) Y) nofun Y) (fO (OF.assign (VEv.bool false)) (nt (sr (lO (OL.loadOn (us:=(Qa false a)) (tv (T.op 0 0) Y) Y ZX Qz (lb Y) Y) (lO (OL.loadOn (us:=(Qe false x)) (tv (T.op 2 0) Y) Y Jj YZ (lb Y) Y) (cO (cS (vc (tv (T.agg (Qa false a)) Y) (vc (tv (T.agg (Qe false x)) Y) vn)) (LendL.cons (lg okeEntry) (LendL.cons (lg Q1) ln)) (Qan (n+0) a x (by assumption) (by assumption)) Y Y) (aO (tN (QF a x)) Y (nt ?_)))))))))))
 refine sr (lO (OL.loadOn (us:=(Qa false b)) (tv (T.op 1 0) Y) Y ZX Qz (lb Y) Y) (lO (OL.loadOn (us:=(Qe false x)) (tv (T.op 2 0) Y) Y Jj YZ (lb Y) Y) (cO (cS (vc (tv (T.agg (Qa false b)) Y) (vc (tv (T.agg (Qe false x)) Y) vn)) (LendL.cons (lg okeEntry) (LendL.cons (lg Q1) ln)) (Qan (n+0) b x (by assumption) (by assumption)) Y Y) (aO (tN (QF b x)) Y (nt (sq (VRun.block (sr (mO (tN (QF a x)) Y (mO (tN (QF b x)) Y (fO (QeX (tv (tN (QF a x)) Y) (tv (tN (QF b x)) Y)) ?_)))))))))))
 refine aO (tB (!(decide (QF a x=QF b x)))) Y (nt ?_)
 refine cn (QF a x=QF b x) Y (fun fhc0=> ?_) fun fhc0=> ?_
 ·refine sr ?_
  refine mO (tN (QF a x)) Y (mO (tN (QF b x)) Y (fO (Qkc (tv (tN (QF a x)) Y) (tv (tN (QF b x)) Y)) (aO (tB (decide (QF b x<QF a x))) Y (nt (rt (vinB.r (tr (vb (b':=(decide (QF b x<QF a x))) Y ?_))))))))
  refine Q8 ?_;unfold Zf;omega
 refine sr (lf (tI a.Tick) Y Jg Y Y QQ (lf (tI b.Tick) Y Jg Y Y QQ (fO (xne (tv (tI a.Tick) Y) (tv (tI b.Tick) Y)) (aO (tB (!(decide (a.Tick=b.Tick)))) Y (nt ?_)))))
 refine cn (a.Tick=b.Tick) Y (fun fhc1=> ?_) fun fhc1=> ?_
 ·refine sr ?_
  refine lf (tI a.Tick) Y Jg Y Y QQ (lf (tI b.Tick) Y Jg Y Y QQ (fO (xls (tv (tI a.Tick) Y) (tv (tI b.Tick) Y)) (aO (tB (decide (a.Tick<b.Tick))) Y (nt (rt (vinB.r (tr (vb (b':=(decide (a.Tick<b.Tick))) Y ?_))))))))
  refine Q8 ?_;unfold Zf;omega
 refine sk (vinB.n (tn (sr (lf (tI a.Player) Y YH Y Y QQ (lf (tI b.Player) Y YH Y Y QQ (fO (xls (tv (tI a.Player) Y) (tv (tI b.Player) Y)) (aO (tB (decide (a.Player<b.Player))) Y (nt (rt (vb (b':=(decide (a.Player<b.Player))) Y ?_))))))))))
 refine Q8 ?_;unfold Zf;omega
theorem Qab (n:Nat) (a:D.Entry) (b:D.Entry) (x:D.Issue) (hza:Q7 a≤mx) (hzb:Q7 b≤mx) (hz:Q3 x≤mx):Pure (Qs Tryz.prog (n+47)) 43 [(T.agg (Qa false a)),(T.agg (Qa false b)),(T.agg (Qe false x))] (tB (decide (Zf a b x))):=by
 refine Pure.intro (rs:= [ResultVar.tmp 6]) Tryz.func43 Y Y Y (E0:= [(0,(T.agg (Qa false a))),(1,(T.agg (Qa false b))),(2,(T.agg (Qe false x)))]) Y ?_
 obtain ⟨hlim,hmx,hmax⟩:=QA
 refine sr (kO (B.box (ts:=(Qa false a)) (tv (T.agg (Qa false a)) Y) nofun Y) (kO (B.box (ts:=(Qa false b)) (tv (T.agg (Qa false b)) Y) nofun Y) (kO (B.box (ts:=(Qe false x)) (tv (T.agg (Qe false x)) Y) nofun Y) (fO (OF.assign (VEv.bool false)) (nt (sq (VRun.draw (B:= [[],[],[1,0],[],[],[0,1,2,4,3],[3,4,5,0,1,2],[6,3,4,2,1,0,5]]) (by kernel_rfl) (by kernel_rfl) Y (lD (OL.loadOn (us:=(Qa false a)) (tv (T.op 0 0) Y) Y ZX Qz (lb Y) Y) Y Y (lD (OL.loadOn (us:=(Qe false x)) (tv (T.op 2 0) Y) Y Jj YZ (lb Y) Y) Y Y (VRunD.quiet (bi:= [1,0]) Y VWant.always Y Y Y bn (cS (vc (tv (T.agg (Qa false a)) Y) (vc (tv (T.agg (Qe false x)) Y) vn)) (LendL.cons (lg okeEntry) (LendL.cons (lg Q1) ln)) (Qap (n+0) a x (by assumption) (by assumption)) Y Y) (lD (OL.loadOn (us:=(Qa false b)) (tv (T.op 1 0) Y) Y ZX Qz (lb Y) Y) Y Y ?_)))))))))))
 refine lD (OL.loadOn (us:=(Qe false x)) (tv (T.op 2 0) Y) Y Jj YZ (lb Y) Y) Y Y (VRunD.quiet (bi:= [0,1,2,4,3]) Y VWant.always Y Y Y bn (cS (vc (tv (T.agg (Qa false b)) Y) (vc (tv (T.agg (Qe false x)) Y) vn)) (LendL.cons (lg okeEntry) (LendL.cons (lg Q1) ln)) (Qap (n+0) b x (by assumption) (by assumption)) Y Y) (fD (OF.assign (tv (tN (QF a x)) Y)) Y Y (fD (OF.assign (tv (tN (QF b x)) Y)) Y Y (VRunD.nil (tn (sq (VRun.block (sr (mO (tN (QF a x)) Y (mO (tN (QF b x)) Y (fO (QeX (tv (tN (QF a x)) Y) (tv (tN (QF b x)) Y)) ?_)))))))))))
 refine aO (tB (!(decide (QF a x=QF b x)))) Y (nt ?_)
 refine cn (QF a x=QF b x) Y (fun fhc0=> ?_) fun fhc0=> ?_
 ·refine sr ?_
  refine mO (tN (QF a x)) Y (mO (tN (QF b x)) Y (fO (Qkc (tv (tN (QF a x)) Y) (tv (tN (QF b x)) Y)) (aO (tB (decide (QF b x<QF a x))) Y (nt (rt (vinB.r (tr (vb (b':=(decide (QF b x<QF a x))) Y ?_))))))))
  refine Q8 ?_;unfold Zf;omega
 refine sr (lf (tI a.Tick) Y Jg Y Y QQ (lf (tI b.Tick) Y Jg Y Y QQ (fO (xne (tv (tI a.Tick) Y) (tv (tI b.Tick) Y)) (aO (tB (!(decide (a.Tick=b.Tick)))) Y (nt ?_)))))
 refine cn (a.Tick=b.Tick) Y (fun fhc1=> ?_) fun fhc1=> ?_
 ·refine sr ?_
  refine lf (tI a.Tick) Y Jg Y Y QQ (lf (tI b.Tick) Y Jg Y Y QQ (fO (xls (tv (tI a.Tick) Y) (tv (tI b.Tick) Y)) (aO (tB (decide (a.Tick<b.Tick))) Y (nt (rt (vinB.r (tr (vb (b':=(decide (a.Tick<b.Tick))) Y ?_))))))))
  refine Q8 ?_;unfold Zf;omega
 refine sk (vinB.n (tn (sr (lf (tI a.Player) Y YH Y Y QQ (lf (tI b.Player) Y YH Y Y QQ (fO (xls (tv (tI a.Player) Y) (tv (tI b.Player) Y)) (aO (tB (decide (a.Player<b.Player))) Y (nt (rt (vb (b':=(decide (a.Player<b.Player))) Y ?_))))))))))
 refine Q8 ?_;unfold Zf;omega
noncomputable section
section
variable {α : Type} {R : α → α → Prop}
theorem Qh3 (l:List α):(List.range l.length).filterMap (fun k=>l[k]?)=l:=by
 have:∀n,n≤l.length→(List.range n).filterMap (fun k=>l[k]?)=l.take n:=by
  intro n
  induction n with
  | zero=>intro _;rfl
  | succ n ih =>
   intro hn
   rw [List.range_succ,List.filterMap_append,ih (by omega),List.take_add_one]
   congr 1
 rw [this _ (Nat.le_refl _),List.take_length]
theorem Qin {f g:Nat→Option α}:∀ {l:List Nat},(∀k∈l,f k=g k)→l.filterMap f=l.filterMap g
 | [],_=>rfl
 | x::r,h=>by rw [List.filterMap_cons,List.filterMap_cons,h x List.mem_cons_self,Qin (fun k hk=>h k (List.mem_cons_of_mem _ hk))]
theorem Qg1 {s s':List α} (f g:Nat→Nat) (hl:s'.length=s.length) (h:∀k,k<s.length→s'[k]? =s[f k]?) (hf:∀k,k<s.length→f k<s.length) (hg:∀k,k<s.length→g k<s.length) (fg:∀k,k<s.length→f (g k)=k) (gf:∀k,k<s.length→g (f k)=k):s'.Perm s:=by
 rw [← Qh3 s',← Qh3 s,hl]
 have p:((List.range s.length).map f).Perm (List.range s.length):=by
  rw [List.perm_ext_iff_of_nodup]
  ·intro a
   simp only [List.mem_map,List.mem_range]
   exact ⟨fun ⟨b,h1,h2⟩=>h2▸hf b h1,fun h1=>⟨g a,hg a h1,fg a h1⟩⟩
  ·rw [List.nodup_iff_pairwise_ne,List.pairwise_map]
   refine List.Pairwise.imp_of_mem (fun {a b} ha hb hab hh=>hab ?_) (List.nodup_iff_pairwise_ne.1 List.nodup_range)
   rw [List.mem_range] at ha hb
   rw [← gf a ha,← gf b hb,hh]
  ·exact List.nodup_range
 refine List.Perm.trans ?_ (p.filterMap (fun k=>s[k]?))
 rw [List.filterMap_map]
 exact List.Perm.of_eq (Qin (fun k hk=>h k (List.mem_range.1 hk)))
def AtI (R:α→α→Prop) (s:List α) (i j:Nat):Prop:=∀x y,s[i]? =some x→s[j]? =some y→R x y
def SrtI (R:α→α→Prop) (s:List α) (a b:Nat):Prop:=∀i j,a≤i→i<j→j<b→AtI R s i j
def Tot (R:α→α→Prop) (s:List α):Prop:=s.Pairwise (fun a b=>R a b∨R b a)
def Res (R:α→α→Prop) (l:List α) (a b:Nat) (s:List α):Prop:=s.Perm l∧(∀k,k<a∨b≤k→s[k]? =l[k]?)∧SrtI R s a b
open Classical in
def Zx (R:α→α→Prop) (l:List α) (a b:Nat):List α:=if h:∃s,Res R l a b s then Classical.choose h else l
def Qbp (s:List α) (a b:Nat):List α:=(s.drop a).take (b - a)
theorem QeP {s:List α} {a b k:Nat}:(Qbp s a b)[k]? =if k<b - a then s[a+k]? else none:=by
 rw [Qbp,List.getElem?_take]
 split
 ·rw [List.getElem?_drop]
 ·rfl
structure Jt (R:α→α→Prop):Prop where
 tr:∀ {a b c},R a b→R b c→R a c
 ir:∀ {a},¬R a a
 nt:∀ {a b c},¬R b a→¬R c b→¬R c a
theorem Tot.perm {s l:List α} (h:Tot R l) (p:s.Perm l):Tot R s:=List.Pairwise.perm h p.symm (fun h=>h.symm)
theorem Tot.at {s:List α} {i j:Nat} {x y:α} (h:Tot R s) (hn:i≠j) (hx:s[i]? =some x) (hy:s[j]? =some y):R x y∨R y x:=by
 obtain ⟨hi,rfl⟩:=List.getElem?_eq_some_iff.1 hx
 obtain ⟨hj,rfl⟩:=List.getElem?_eq_some_iff.1 hy
 rcases Nat.lt_or_gt_of_ne hn with h1 | h1
 ·exact List.pairwise_iff_getElem.1 h i j hi hj h1
 ·exact (List.pairwise_iff_getElem.1 h j i hj hi h1).symm
theorem Qak (s:List α) {a b:Nat} (h:a≤b):s=s.take a++(Qbp s a b++s.drop b):=by
 have h1:Qbp s a b++s.drop b=s.drop a:=by
  rw [Qbp]
  have:=List.take_append_drop (b - a) (s.drop a)
  rw [List.drop_drop,show a+(b - a)=b by omega] at this
  exact this
 rw [h1,List.take_append_drop]
theorem Qig {s l:List α} {a:Nat} (h:∀k,k<a→s[k]? =l[k]?):s.take a=l.take a:=by
 apply List.ext_getElem?
 intro i
 rw [List.getElem?_take,List.getElem?_take]
 split
 ·exact h i (by assumption)
 ·rfl
theorem Qh7 {s l:List α} {b:Nat} (h:∀k,b≤k→s[k]? =l[k]?):s.drop b=l.drop b:=by
 apply List.ext_getElem?
 intro i
 rw [List.getElem?_drop,List.getElem?_drop]
 exact h _ (by omega)
theorem Res.seg {l s:List α} {a b:Nat} (h:Res R l a b s) (hab:a≤b):(Qbp s a b).Perm (Qbp l a b):=by
 have h1:=h.1
 rw [Qak s hab,Qak l hab,Qig (fun k hk=>h.2.1 k (.inl hk)),Qh7 (fun k hk=>h.2.1 k (.inr hk)),List.perm_append_left_iff,List.perm_append_right_iff] at h1
 exact h1
theorem SrtI.pw {s:List α} {a b:Nat} (h:SrtI R s a b):(Qbp s a b).Pairwise R:=by
 rw [List.pairwise_iff_getElem]
 intro i j hi hj hij
 have h1:=QeP (s:=s) (a:=a) (b:=b) (k:=i)
 have h2:=QeP (s:=s) (a:=a) (b:=b) (k:=j)
 rw [List.getElem?_eq_getElem hi] at h1
 rw [List.getElem?_eq_getElem hj] at h2
 split at h1
 ·split at h2
  ·exact h (a+i) (a+j) (by omega) (by omega) (by omega) _ _ h1.symm h2.symm
  ·cases h2
 ·cases h1
theorem Res.uniq (o:Jt R) {l s t:List α} {a b:Nat} (hab:a≤b) (h:Res R l a b s) (h':Res R l a b t):s=t:=by
 have e:Qbp s a b=Qbp t a b:=List.Perm.eq_of_pairwise (le:=R) (fun x y _ _ h1 h2=>absurd (o.tr h1 h2) o.ir) h.2.2.pw h'.2.2.pw ((h.seg hab).trans (h'.seg hab).symm)
 rw [Qak s hab,Qak t hab,e,Qig (l:=t) (fun k hk=>(h.2.1 k (.inl hk)).trans (h'.2.1 k (.inl hk)).symm),Qh7 (l:=t) (fun k hk=>(h.2.1 k (.inr hk)).trans (h'.2.1 k (.inr hk)).symm)]
open Classical in
theorem Res.ex (o:Jt R) {l:List α} {a b:Nat} (hab:a≤b) (hb:b≤l.length) (ht:Tot R l):∃s,Res R l a b s:=by
 refine ⟨l.take a++((Qbp l a b).mergeSort (fun x y=>decide (¬R y x))++l.drop b),?_,?_,?_⟩
 ·conv=>rhs;rw [Qak l hab]
  exact (((List.mergeSort_perm _ _).append_right _)).append_left _
 ·intro k hk
  have hsl:(Qbp l a b).length=b - a:=by rw [Qbp,List.length_take,List.length_drop];omega
  have hta:(l.take a).length=a:=by rw [List.length_take];omega
  rw [List.getElem?_append]
  split
  ·rw [List.getElem?_take,if_pos (by omega)]
  ·rw [List.getElem?_append,if_neg (by rw [List.length_mergeSort];omega),List.getElem?_drop,List.length_mergeSort]
   congr 1
   omega
 ·have hpw:((Qbp l a b).mergeSort (fun x y=>decide (¬R y x))).Pairwise R:=by
   have h1:=List.pairwise_mergeSort (le:=fun x y=>decide (¬R y x)) (fun x y z h1 h2=>by
    rw [decide_eq_true_eq] at *
    exact o.nt h1 h2) (fun x y=>by
    rw [Bool.or_eq_true,decide_eq_true_eq,decide_eq_true_eq]
    by_cases h:R y x
    ·exact .inr (fun h'=>o.ir (o.tr h h'))
    ·exact .inl h) (Qbp l a b)
   have h2:((Qbp l a b).mergeSort (fun x y=>decide (¬R y x))).Pairwise (fun x y=>R x y∨R y x):=List.Pairwise.perm (List.Pairwise.sublist (List.Sublist.trans (List.take_sublist _ _) (List.drop_sublist _ _)) ht) (List.mergeSort_perm _ _).symm (fun h=>h.symm)
   refine (h1.and h2).imp (fun {x y} h=> ?_)
   have h3:=h.1
   rw [decide_eq_true_eq] at h3
   exact h.2.resolve_right h3
  intro i j hi hij hj x y hx hy
  have hsl:((Qbp l a b).mergeSort (fun x y=>decide (¬R y x))).length=b - a:=by rw [List.length_mergeSort,Qbp,List.length_take,List.length_drop];omega
  have hta:(l.take a).length=a:=by rw [List.length_take];omega
  rw [List.getElem?_append,if_neg (by omega),List.getElem?_append,if_pos (by omega),hta] at hx hy
  obtain ⟨h1,rfl⟩:=List.getElem?_eq_some_iff.1 hx
  obtain ⟨h2,rfl⟩:=List.getElem?_eq_some_iff.1 hy
  exact List.pairwise_iff_getElem.1 hpw _ _ h1 h2 (by omega)
theorem JK (o:Jt R) {l:List α} {a b:Nat} (hab:a≤b) (hb:b≤l.length) (ht:Tot R l):Res R l a b (Zx R l a b):=by
 have h:=Res.ex o hab hb ht
 rw [Zx,dif_pos h]
 exact Classical.choose_spec h
theorem Res.eq (o:Jt R) {l s:List α} {a b:Nat} (hab:a≤b) (h:Res R l a b s):Zx R l a b=s:=by
 have h':∃s,Res R l a b s:=⟨s,h⟩
 rw [Zx,dif_pos h']
 exact Res.uniq o hab (Classical.choose_spec h') h
theorem Res.mem {l s:List α} {a b i:Nat} {x:α} (h:Res R l a b s) (hi:a≤i) (hib:i<b) (hx:s[i]? =some x):∃k,(a≤k∧k<b)∧l[k]? =some x:=by
 have h1:x∈Qbp s a b:=by
  refine List.mem_of_getElem? (i:=i - a) ?_
  rw [QeP,if_pos (by omega),show a+(i - a)=i by omega]
  exact hx
 rw [(h.seg (by omega)).mem_iff] at h1
 obtain ⟨k,hk⟩:=List.getElem?_of_mem h1
 rw [QeP] at hk
 split at hk
 ·exact ⟨a+k,by omega,hk⟩
 ·cases hk
theorem Res.len {l s:List α} {a b:Nat} (h:Res R l a b s):s.length=l.length:=h.1.length_eq
open Classical in
theorem QgH (l:List α) (a b:Nat):(Zx R l a b).Perm l:=by
 rw [Zx]
 split
 ·rename_i h
  exact (Classical.choose_spec h).1
 ·exact .refl _
theorem Yr (l:List α) (a b:Nat):(Zx R l a b).length=l.length:=(QgH l a b).length_eq
end
section
variable {α : Type} {R : α → α → Prop}
def swp (s:List α) (i j:Nat):List α:=match s[i]?,s[j]? with | some x,some y=>(s.set i y).set j x | _,_=>s
theorem Qe3 {s:List α} {i j:Nat} {x y:α} (hx:s[i]? =some x) (hy:s[j]? =some y):swp s i j=(s.set i y).set j x:=by rw [swp,hx,hy]
theorem Jd (s:List α) (i j:Nat):(swp s i j).length=s.length:=by
 unfold swp
 split<;>simp
theorem QiH {s:List α} {i j:Nat} (hi:i<s.length) (hj:j<s.length) (k:Nat):(swp s i j)[k]? =if k=j then s[i]? else if k=i then s[j]? else s[k]? :=by
 rw [Qe3 (List.getElem?_eq_getElem hi) (List.getElem?_eq_getElem hj),List.getElem?_set]
 split
 ·rename_i h
  subst h
  rw [if_pos Y,if_pos (by rw [List.length_set];exact hj),List.getElem?_eq_getElem hi]
 ·rename_i h
  rw [if_neg (fun e=>h e.symm),List.getElem?_set]
  split
  ·rename_i h1
   subst h1
   first | (rw [if_pos Y,if_pos hi,List.getElem?_eq_getElem hj];done) | (rw [if_pos Y,List.getElem?_eq_getElem hj])
  ·rename_i h1
   rw [if_neg (fun e=>h1 e.symm)]
def swR (s:List α) (a b:Nat):Nat→List α
 | 0=>s
 | n+1=>swp (swR s a b n) (a+n) (b+n)
theorem JF (s:List α) (a b:Nat):∀n,(swR s a b n).length=s.length
 | 0=>rfl
 | n+1=>by rw [swR,Jd,JF]
theorem Qg7 {s:List α} {a b:Nat}:∀ {n:Nat},a+n≤b→b+n≤s.length→∀k,(swR s a b n)[k]? =if a≤k∧k<a+n then s[b+(k - a)]? else if b≤k∧k<b+n then s[a+(k - b)]? else s[k]?
 | 0,_,_,k=>by rw [swR,if_neg (by omega),if_neg (by omega)]
 | n+1,h1,h2,k=>by
  have ih:=Qg7 (s:=s) (a:=a) (b:=b) (n:=n) (by omega) (by omega)
  rw [swR,QiH (by rw [JF];omega) (by rw [JF];omega),ih,ih,ih]
  by_cases e1:k=b+n
  ·subst e1
   rw [if_pos Y,if_neg (by omega),if_neg (by omega),if_neg (by omega),if_pos (by omega)]
   congr 1;omega
  ·rw [if_neg e1]
   by_cases e2:k=a+n
   ·subst e2
    rw [if_pos Y,if_neg (by omega),if_neg (by omega),if_pos (by omega)]
    congr 1;omega
   ·rw [if_neg e2]
    by_cases c1:a≤k∧k<a+n
    ·rw [if_pos c1,if_pos (by omega)]
    ·have c3:¬(a≤k∧k<a+(n+1)):=by omega
     rw [if_neg c1,if_neg c3]
     by_cases c2:b≤k∧k<b+n
     ·rw [if_pos c2,if_pos (by omega)]
     ·have c4:¬(b≤k∧k<b+(n+1)):=by omega
      rw [if_neg c2,if_neg c4]
def rf (a m b k:Nat):Nat:=if k<a then k else if k<a+(b - m) then m+(k - a) else if k<b then a+(k - (a+(b - m))) else k
def rot (s:List α) (a m b:Nat):List α:=(List.range s.length).filterMap (fun k=>s[rf a m b k]?)
theorem QoG {n:Nat} {f:Nat→Option α} (h:∀k,k<n→(f k).isSome=true):((List.range n).filterMap f).length=n∧∀k,k<n→((List.range n).filterMap f)[k]? =f k:=by
 induction n with
 | zero=>exact ⟨rfl,fun k hk=>absurd hk (Nat.not_lt_zero _)⟩
 | succ n ih =>
  have ih:=ih (fun k hk=>h k (by omega))
  obtain ⟨v,hv⟩:=Option.isSome_iff_exists.1 (h n (by omega))
  have e:(List.range (n+1)).filterMap f=(List.range n).filterMap f++ [v]:=by
   rw [List.range_succ,List.filterMap_append]
   congr 1
   simp [hv]
  rw [e]
  refine ⟨by rw [List.length_append,ih.1];rfl,fun k hk=> ?_⟩
  by_cases e1:k=n
  ·subst e1
   rw [List.getElem?_append_right (by omega),ih.1,Nat.sub_self]
   exact hv.symm
  ·rw [List.getElem?_append_left (by omega)]
   exact ih.2 k (by omega)
theorem QkL {a m b n k:Nat} (h1:a≤m) (h2:m≤b) (h3:b≤n) (h:k<n):rf a m b k<n:=by
 unfold rf
 split
 ·omega
 ·split
  ·omega
  ·split<;>omega
theorem QcW {s:List α} {a m b:Nat} (h1:a≤m) (h2:m≤b) (h3:b≤s.length):(rot s a m b).length=s.length∧∀k,k<s.length→(rot s a m b)[k]? =s[rf a m b k]? :=by
 refine QoG (fun k hk=> ?_)
 rw [List.getElem?_eq_getElem (QkL h1 h2 h3 hk)]
 rfl
theorem QiV {s:List α} {a m b:Nat} (h1:a≤m) (h2:m≤b) (h3:b≤s.length) (k:Nat):(rot s a m b)[k]? =s[rf a m b k]? :=by
 by_cases hk:k<s.length
 ·exact (QcW h1 h2 h3).2 k hk
 ·rw [List.getElem?_eq_none (by rw [(QcW h1 h2 h3).1];omega)]
  have:rf a m b k=k:=by unfold rf;rw [if_neg (by omega),if_neg (by omega),if_neg (by omega)]
  rw [this,List.getElem?_eq_none (by omega)]
def rg (a m b k:Nat):Nat:=rf a (a+(b - m)) b k
theorem Qog {a m b:Nat} (h1:a≤m) (h2:m≤b) (k:Nat):rf a m b (rg a m b k)=k:=by
 unfold rg rf
 repeat' split
 all_goals omega
theorem Qn9 {a m b:Nat} (h1:a≤m) (h2:m≤b) (k:Nat):rg a m b (rf a m b k)=k:=by
 unfold rg rf
 repeat' split
 all_goals omega
theorem QkJ {s:List α} {a m b:Nat} (h1:a≤m) (h2:m≤b) (h3:b≤s.length):(rot s a m b).Perm s :=
 Qg1 (rf a m b) (rg a m b) (QcW h1 h2 h3).1 (QcW h1 h2 h3).2 (fun k hk=>QkL h1 h2 h3 hk) (fun k hk=>QkL (by omega) (by omega) h3 hk) (fun k _=>Qog h1 h2 k) (fun k _=>Qn9 h1 h2 k)
def RotI (l:List α) (a m b:Nat) (s:List α) (i j:Nat):Prop:=(1≤i∧1≤j∧a+i≤m∧m+j≤b∧b≤l.length∧s.length=l.length)∧∀k,s[rf (m - i) m (m+j) k]? =l[rf a m b k]?
theorem RotI.start {l:List α} {a m b:Nat} (h1:a<m) (h2:m<b) (h3:b≤l.length):RotI l a m b l (m - a) (b - m) :=
 ⟨by omega,fun k=>by rw [show m - (m - a)=a by omega,show m+(b - m)=b by omega]⟩
theorem RotI.gt {l s:List α} {a m b i j:Nat} (h:RotI l a m b s i j) (hij:j<i):RotI l a m b (swR s (m - i) m j) (i - j) j:=by
 obtain ⟨hb,hr⟩:=h
 refine ⟨⟨by omega,by omega,by omega,by omega,by omega,by rw [JF];omega⟩,fun k=> ?_⟩
 rw [← hr k,Qg7 (by omega) (by omega)]
 have key:(if m - i≤rf (m - (i - j)) m (m+j) k∧rf (m - (i - j)) m (m+j) k<m - i+j then s[m+(rf (m - (i - j)) m (m+j) k - (m - i))]? else if m≤rf (m - (i - j)) m (m+j) k∧rf (m - (i - j)) m (m+j) k<m+j then s[m - i+(rf (m - (i - j)) m (m+j) k - m)]? else s[rf (m - (i - j)) m (m+j) k]?)=s[if m - i≤rf (m - (i - j)) m (m+j) k∧rf (m - (i - j)) m (m+j) k<m - i+j then m+(rf (m - (i - j)) m (m+j) k - (m - i)) else if m≤rf (m - (i - j)) m (m+j) k∧rf (m - (i - j)) m (m+j) k<m+j then m - i+(rf (m - (i - j)) m (m+j) k - m) else rf (m - (i - j)) m (m+j) k]? :=by
  split
  ·rfl
  ·split<;>rfl
 rw [key]
 congr 1
 unfold rf
 repeat' split
 all_goals omega
theorem RotI.lt {l s:List α} {a m b i j:Nat} (h:RotI l a m b s i j) (hij:i<j):RotI l a m b (swR s (m - i) (m+j - i) i) i (j - i):=by
 obtain ⟨hb,hr⟩:=h
 refine ⟨⟨by omega,by omega,by omega,by omega,by omega,by rw [JF];omega⟩,fun k=> ?_⟩
 rw [← hr k,Qg7 (by omega) (by omega)]
 have key:∀q,(if m - i≤q∧q<m - i+i then s[m+j - i+(q - (m - i))]? else if m+j - i≤q∧q<m+j - i+i then s[m - i+(q - (m+j - i))]? else s[q]?)=s[if m - i≤q∧q<m - i+i then m+j - i+(q - (m - i)) else if m+j - i≤q∧q<m+j - i+i then m - i+(q - (m+j - i)) else q]? :=fun q=>by
  split
  ·rfl
  ·split<;>rfl
 rw [key]
 congr 1
 unfold rf
 repeat' split
 all_goals omega
theorem RotI.done {l s:List α} {a m b i j:Nat} (h:RotI l a m b s i j) (hij:i=j):swR s (m - i) m i=rot l a m b:=by
 subst hij
 obtain ⟨hb,hr⟩:=h
 apply List.ext_getElem?
 intro k
 rw [QiV (by omega) (by omega) (by omega),← hr k,Qg7 (by omega) (by omega)]
 have key:∀q,(if m - i≤q∧q<m - i+i then s[m+(q - (m - i))]? else if m≤q∧q<m+i then s[m - i+(q - m)]? else s[q]?)=s[if m - i≤q∧q<m - i+i then m+(q - (m - i)) else if m≤q∧q<m+i then m - i+(q - m) else q]? :=fun q=>by
  split
  ·rfl
  ·split<;>rfl
 rw [key]
 congr 1
 unfold rf
 repeat' split
 all_goals omega
def MvD (s:List α) (i j:Nat) (u:List α):Prop:=u.length=s.length∧∀k,u[k]? =if k=j then s[i]? else if j<k∧k≤i then s[k - 1]? else s[k]?
def MvU (s:List α) (i j:Nat) (u:List α):Prop:=u.length=s.length∧∀k,u[k]? =if k=j then s[i]? else if i≤k∧k<j then s[k+1]? else s[k]?
theorem MvD.start (s:List α) (i:Nat):MvD s i i s:=⟨rfl,fun k=>by
 split
 ·rename_i h;rw [h]
 ·rw [if_neg (by omega)]⟩
theorem MvU.start (s:List α) (i:Nat):MvU s i i s:=⟨rfl,fun k=>by
 split
 ·rename_i h;rw [h]
 ·rw [if_neg (by omega)]⟩
theorem MvD.next {s u:List α} {i j:Nat} (h:MvD s i j u) (hj:0<j) (hi:j≤i) (hn:i<s.length):MvD s i (j - 1) (swp u j (j - 1)):=by
 refine ⟨by rw [Jd,h.1],fun k=> ?_⟩
 rw [QiH (by rw [h.1];omega) (by rw [h.1];omega),h.2,h.2,h.2]
 by_cases e1:k=j - 1
 ·rw [if_pos e1,if_pos Y,if_pos e1]
 ·rw [if_neg e1,if_neg e1]
  by_cases e2:k=j
  ·subst e2
   rw [if_pos Y,if_neg (by omega),if_neg (by omega),if_pos (by omega)]
  ·rw [if_neg e2,if_neg e2]
   by_cases e3:j<k∧k≤i
   ·rw [if_pos e3,if_pos (by omega)]
   ·rw [if_neg e3,if_neg (by omega)]
theorem MvU.next {s u:List α} {i j:Nat} (h:MvU s i j u) (hi:i≤j) (hn:j+1<s.length):MvU s i (j+1) (swp u j (j+1)):=by
 refine ⟨by rw [Jd,h.1],fun k=> ?_⟩
 rw [QiH (by rw [h.1];omega) (by rw [h.1];omega),h.2,h.2,h.2]
 by_cases e1:k=j+1
 ·rw [if_pos e1,if_pos Y,if_pos e1]
 ·rw [if_neg e1,if_neg e1]
  by_cases e2:k=j
  ·subst e2
   rw [if_pos Y,if_neg (by omega),if_neg (by omega),if_pos (by omega)]
  ·rw [if_neg e2,if_neg e2]
   by_cases e3:i≤k∧k<j
   ·rw [if_pos e3,if_pos (by omega)]
   ·rw [if_neg e3,if_neg (by omega)]
theorem MvD.perm {s u:List α} {i j:Nat} (h:MvD s i j u) (hi:j≤i) (hn:i<s.length):u.Perm s:=by
 refine Qg1 (fun k=>if k=j then i else if j<k∧k≤i then k - 1 else k) (fun k=>if k=i then j else if j≤k∧k<i then k+1 else k) h.1 (fun k _=> ?_) ?_ ?_ ?_ ?_
 ·rw [h.2]
  show _=s[if k=j then i else if j<k∧k≤i then k - 1 else k]?
  split
  ·rfl
  ·split<;>rfl
 all_goals
  intro k hk
  try dsimp only
  repeat' split
  all_goals omega
theorem MvU.perm {s u:List α} {i j:Nat} (h:MvU s i j u) (hi:i≤j) (hn:j<s.length):u.Perm s:=by
 refine Qg1 (fun k=>if k=j then i else if i≤k∧k<j then k+1 else k) (fun k=>if k=i then j else if i<k∧k≤j then k - 1 else k) h.1 (fun k _=> ?_) ?_ ?_ ?_ ?_
 ·rw [h.2]
  show _=s[if k=j then i else if i≤k∧k<j then k+1 else k]?
  split
  ·rfl
  ·split<;>rfl
 all_goals
  intro k hk
  try dsimp only
  repeat' split
  all_goals omega
end
section
variable {α : Type} {R : α → α → Prop}
theorem Res.refl {l:List α} {a b:Nat} (h:SrtI R l a b):Res R l a b l:=⟨.refl _,fun _ _=>rfl,h⟩
theorem Qmx {s:List α} {i:Nat} (h:i<s.length):∃x,s[i]? =some x:=⟨_,List.getElem?_eq_getElem h⟩
theorem AtI.trans (o:Jt R) {s:List α} {i j k:Nat} (hj:j<s.length) (h1:AtI R s i j) (h2:AtI R s j k):AtI R s i k:=fun x y hx hy=>by
 obtain ⟨z,hz⟩:=Qmx hj
 exact o.tr (h1 x z hx hz) (h2 z y hz hy)
def InsO (R:α→α→Prop) (l:List α) (a b i:Nat) (s:List α):Prop:=(a+1≤i∧i≤b∧Res R l a i s)∨(b≤a+1∧s=l∧i=a+1)
theorem InsO.start {l:List α} {a b:Nat}:InsO R l a b (a+1) l:=by
 by_cases h:a+1≤b
 ·exact .inl ⟨Nat.le_refl _,h,Res.refl (fun i j _ _ _=>by omega)⟩
 ·exact .inr ⟨by omega,rfl,rfl⟩
theorem InsO.len {l s:List α} {a b i:Nat} (h:InsO R l a b i s):s.length=l.length:=by
 rcases h with ⟨_,_,h⟩ | ⟨_,h,_⟩
 ·exact h.len
 ·rw [h]
theorem InsO.ge {l s:List α} {a b i:Nat} (h:InsO R l a b i s):a+1≤i:=by
 rcases h with ⟨h,_,_⟩ | ⟨_,_,h⟩<;>omega
theorem InsO.perm {l s:List α} {a b i:Nat} (h:InsO R l a b i s):s.Perm l:=by
 rcases h with ⟨_,_,h⟩ | ⟨_,h,_⟩
 ·exact h.1
 ·rw [h]
theorem InsO.done (o:Jt R) {l s:List α} {a b i:Nat} (h:InsO R l a b i s) (hab:a≤b) (hi:¬i<b):s=Zx R l a b:=by
 rcases h with ⟨_,h2,h⟩ | ⟨h1,h,_⟩
 ·obtain rfl:i=b:=by omega
  exact (h.eq o hab).symm
 ·rw [h]
  exact ((Res.refl (fun i j _ _ _=>by omega)).eq o hab).symm
def InsI (R:α→α→Prop) (s:List α) (a i j:Nat) (u:List α):Prop:=(a≤j∧j≤i∧i<s.length)∧MvD s i j u∧∀k,j≤k→k<i→AtI R s i k
theorem InsI.start {s:List α} {a i:Nat} (h:a≤i) (hi:i<s.length):InsI R s a i i s:=⟨⟨h,Nat.le_refl _,hi⟩,MvD.start s i,fun k h1 h2=>by omega⟩
theorem InsI.next {s u:List α} {a i j:Nat} {x y:α} (h:InsI R s a i j u) (hj:a<j) (hx:u[j]? =some x) (hy:u[j - 1]? =some y) (hr:R x y):InsI R s a i (j - 1) (swp u j (j - 1)):=by
 obtain ⟨⟨h1,h2,h3⟩,h4,h5⟩:=h
 refine ⟨⟨by omega,by omega,h3⟩,h4.next (by omega) h2 h3,fun k hk hk2=> ?_⟩
 by_cases e:k=j - 1
 ·subst e
  rw [h4.2,if_pos Y] at hx
  rw [h4.2,if_neg (by omega),if_neg (by omega)] at hy
  intro a b ha hb
  rw [hx] at ha;rw [hy] at hb
  cases ha;cases hb
  exact hr
 ·exact h5 k (by omega) hk2
theorem InsI.len {s u:List α} {a i j:Nat} (h:InsI R s a i j u):u.length=s.length:=h.2.1.1
theorem InsI.perm {s u:List α} {a i j:Nat} (h:InsI R s a i j u):u.Perm s:=h.2.1.perm h.1.2.1 h.1.2.2
theorem InsI.done (o:Jt R) {l s u:List α} {a b i j:Nat} (h:InsI R s a i j u) (h0:InsO R l a b i s) (hi:i<b) (ht:Tot R l) (he:j≤a∨∃x y,u[j]? =some x∧u[j - 1]? =some y∧¬R x y):InsO R l a b (i+1) u:=by
 obtain ⟨⟨h1,h2,h3⟩,h4,h5⟩:=h
 rcases h0 with ⟨g1,g2,g⟩ | ⟨g1,_,g2⟩
 ·refine .inl ⟨by omega,by omega,(h4.perm h2 h3).trans g.1,fun k hk=> ?_,?_⟩
  ·rw [h4.2,if_neg (by omega),if_neg (by omega)]
   exact g.2.1 k (by omega)
  ·have htu:Tot R s:=ht.perm g.1
   have hlo:∀k,a≤k→k<j→AtI R s k i:=by
    rcases he with he | ⟨x,y,hx,hy,hn⟩
    ·intro k _ _;omega
    ·by_cases ej:j≤a
     ·intro k _ _;omega
     ·rw [h4.2,if_pos Y] at hx
      rw [h4.2,if_neg (by omega),if_neg (by omega)] at hy
      have hyx:R y x:=(htu.at (by omega) hx hy).resolve_left hn
      have hji:AtI R s (j - 1) i:=by
       intro p q hp hq
       rw [hy] at hp;rw [hx] at hq
       cases hp;cases hq
       exact hyx
      intro k hk1 hk2
      by_cases e:k=j - 1
      ·subst e;exact hji
      ·exact AtI.trans o (by omega) (g.2.2 k (j - 1) hk1 (by omega) (by omega)) hji
   intro p q hp hpq hq x y hx hy
   rw [h4.2] at hx hy
   by_cases e1:p=j
   ·rw [if_pos e1] at hx
    rw [if_neg (by omega),if_pos (by omega)] at hy
    exact h5 (q - 1) (by omega) (by omega) x y hx hy
   ·rw [if_neg e1] at hx
    by_cases e2:q=j
    ·rw [if_pos e2] at hy
     rw [if_neg (by omega)] at hx
     exact hlo p hp (by omega) x y hx hy
    ·rw [if_neg e2] at hy
     by_cases c1:j<p∧p≤i
     ·rw [if_pos c1] at hx
      by_cases c2:j<q∧q≤i
      ·rw [if_pos c2] at hy
       exact g.2.2 (p - 1) (q - 1) (by omega) (by omega) (by omega) x y hx hy
      ·omega
     ·rw [if_neg c1] at hx
      by_cases c2:j<q∧q≤i
      ·rw [if_pos c2] at hy
       exact g.2.2 p (q - 1) (by omega) (by omega) (by omega) x y hx hy
      ·rw [if_neg c2] at hy
       exact g.2.2 p q (by omega) (by omega) (by omega) x y hx hy
 ·omega
def SrA (R:α→α→Prop) (l:List α) (a b i j:Nat):Prop:=(a+1≤i∧i≤j∧j≤b)∧(∀k,a+1≤k→k<i→AtI R l k a)∧∀k,j≤k→k<b→AtI R l a k
theorem SrA.start {l:List α} {a b:Nat} (h:a+1≤b):SrA R l a b (a+1) b:=⟨by omega,fun k _ _=>by omega,fun k _ _=>by omega⟩
theorem SrA.yes (o:Jt R) {l:List α} {a b i j h:Nat} {x y:α} (g:SrA R l a b i j) (hs:SrtI R l (a+1) b) (hh:i≤h∧h<j) (hb:b≤l.length) (hx:l[h]? =some x) (hy:l[a]? =some y) (hr:R x y):SrA R l a b (h+1) j:=by
 obtain ⟨g1,g2,g3⟩:=g
 have hha:AtI R l h a:=fun p q hp hq=>by
  rw [hx] at hp;rw [hy] at hq
  cases hp;cases hq
  exact hr
 refine ⟨by omega,fun k hk hk2=> ?_,g3⟩
 by_cases e:k=h
 ·rw [e];exact hha
 ·exact AtI.trans o (by omega) (hs k h hk (by omega) (by omega)) hha
theorem SrA.no (o:Jt R) {l:List α} {a b i j h:Nat} {x y:α} (g:SrA R l a b i j) (hs:SrtI R l (a+1) b) (ht:Tot R l) (hh:i≤h∧h<j) (hb:b≤l.length) (hx:l[h]? =some x) (hy:l[a]? =some y) (hr:¬R x y):SrA R l a b i h:=by
 obtain ⟨g1,g2,g3⟩:=g
 have hha:AtI R l a h:=fun p q hp hq=>by
  rw [hy] at hp;rw [hx] at hq
  cases hp;cases hq
  exact (ht.at (by omega) hx hy).resolve_left hr
 refine ⟨by omega,g2,fun k hk hk2=> ?_⟩
 by_cases e:k=h
 ·rw [e];exact hha
 ·exact AtI.trans o (by omega) hha (hs h k (by omega) (by omega) hk2)
theorem SrA.done (o:Jt R) {l u:List α} {a b i j k:Nat} (g:SrA R l a b i j) (hij:¬i<j) (hs:SrtI R l (a+1) b) (hb:b≤l.length) (hm:MvU l a k u) (hk:a≤k∧k<i) (hk2:¬k<i - 1):u=Zx R l a b:=by
 obtain ⟨g1,g2,g3⟩:=g
 obtain rfl:k=i - 1:=by omega
 refine (Res.eq o (by omega) ⟨hm.perm (by omega) (by omega),fun q hq=> ?_,?_⟩).symm
 ·rw [hm.2,if_neg (by omega),if_neg (by omega)]
 ·intro p q hp hpq hq x y hx hy
  rw [hm.2] at hx hy
  by_cases e1:p=i - 1
  ·rw [if_pos e1] at hx
   rw [if_neg (by omega),if_neg (by omega)] at hy
   exact g3 q (by omega) hq x y hx hy
  ·rw [if_neg e1] at hx
   by_cases e2:q=i - 1
   ·rw [if_pos e2] at hy
    rw [if_pos (by omega)] at hx
    exact g2 (p+1) (by omega) (by omega) x y hx hy
   ·rw [if_neg e2] at hy
    by_cases c1:a≤p∧p<i - 1
    ·rw [if_pos c1] at hx
     by_cases c2:a≤q∧q<i - 1
     ·rw [if_pos c2] at hy
      exact hs (p+1) (q+1) (by omega) (by omega) (by omega) x y hx hy
     ·rw [if_neg c2] at hy
      exact hs (p+1) q (by omega) (by omega) (by omega) x y hx hy
    ·rw [if_neg c1] at hx
     rw [if_neg (by omega)] at hy
     exact hs p q (by omega) (by omega) (by omega) x y hx hy
def SrB (R:α→α→Prop) (l:List α) (a m i j:Nat):Prop:=(a≤i∧i≤j∧j≤m)∧(∀k,a≤k→k<i→AtI R l k m)∧∀k,j≤k→k<m→AtI R l m k
theorem SrB.start {l:List α} {a m:Nat} (h:a≤m):SrB R l a m a m:=⟨by omega,fun k _ _=>by omega,fun k _ _=>by omega⟩
theorem SrB.yes (o:Jt R) {l:List α} {a m i j h:Nat} {x y:α} (g:SrB R l a m i j) (hs:SrtI R l a m) (hh:i≤h∧h<j) (hb:m<l.length) (hx:l[m]? =some x) (hy:l[h]? =some y) (hr:R x y):SrB R l a m i h:=by
 obtain ⟨g1,g2,g3⟩:=g
 have hha:AtI R l m h:=fun p q hp hq=>by
  rw [hx] at hp;rw [hy] at hq
  cases hp;cases hq
  exact hr
 refine ⟨by omega,g2,fun k hk hk2=> ?_⟩
 by_cases e:k=h
 ·rw [e];exact hha
 ·exact AtI.trans o (by omega) hha (hs h k (by omega) (by omega) hk2)
theorem SrB.no (o:Jt R) {l:List α} {a m i j h:Nat} {x y:α} (g:SrB R l a m i j) (hs:SrtI R l a m) (ht:Tot R l) (hh:i≤h∧h<j) (hb:m<l.length) (hx:l[m]? =some x) (hy:l[h]? =some y) (hr:¬R x y):SrB R l a m (h+1) j:=by
 obtain ⟨g1,g2,g3⟩:=g
 have hha:AtI R l h m:=fun p q hp hq=>by
  rw [hy] at hp;rw [hx] at hq
  cases hp;cases hq
  exact (ht.at (by omega) hx hy).resolve_left hr
 refine ⟨by omega,fun k hk hk2=> ?_,g3⟩
 by_cases e:k=h
 ·rw [e];exact hha
 ·exact AtI.trans o (by omega) (hs k h hk (by omega) (by omega)) hha
theorem SrB.done (o:Jt R) {l u:List α} {a m i j k:Nat} (g:SrB R l a m i j) (hij:¬i<j) (hs:SrtI R l a m) (hb:m<l.length) (hm:MvD l m k u) (hk:i≤k∧k≤m) (hk2:¬i<k):u=Zx R l a (m+1):=by
 obtain ⟨g1,g2,g3⟩:=g
 obtain rfl:k=i:=by omega
 refine (Res.eq o (by omega) ⟨hm.perm (by omega) (by omega),fun q hq=> ?_,?_⟩).symm
 ·rw [hm.2,if_neg (by omega),if_neg (by omega)]
 ·intro p q hp hpq hq x y hx hy
  rw [hm.2] at hx hy
  by_cases e1:p=k
  ·rw [if_pos e1] at hx
   rw [if_neg (by omega),if_pos (by omega)] at hy
   exact g3 (q - 1) (by omega) (by omega) x y hx hy
  ·rw [if_neg e1] at hx
   by_cases e2:q=k
   ·rw [if_pos e2] at hy
    rw [if_neg (by omega)] at hx
    exact g2 p hp (by omega) x y hx hy
   ·rw [if_neg e2] at hy
    by_cases c1:k<p∧p≤m
    ·rw [if_pos c1] at hx
     rw [if_pos (by omega)] at hy
     exact hs (p - 1) (q - 1) (by omega) (by omega) (by omega) x y hx hy
    ·rw [if_neg c1] at hx
     by_cases c2:k<q∧q≤m
     ·rw [if_pos c2] at hy
      exact hs p (q - 1) (by omega) (by omega) (by omega) x y hx hy
     ·rw [if_neg c2] at hy
      exact hs p q (by omega) (by omega) (by omega) x y hx hy
def s0M (a m b:Nat):Nat:=if (a+b) / 2<m then (a+b) / 2+m - b else a
def r0M (a m b:Nat):Nat:=if (a+b) / 2<m then (a+b) / 2 else m
def SrC (R:α→α→Prop) (l:List α) (a m b i j:Nat):Prop:=(s0M a m b≤i∧i≤j∧j≤r0M a m b)∧(∀k,s0M a m b≤k→k<i→AtI R l k ((a+b) / 2+m - 1 - k))∧∀k,j≤k→k<r0M a m b→AtI R l ((a+b) / 2+m - 1 - k) k
theorem QdH {a m b:Nat} (h1:a<m) (h2:m<b):s0M a m b≤r0M a m b∧a≤s0M a m b∧r0M a m b≤m∧r0M a m b≤(a+b) / 2∧(a+b) / 2+m≤b+s0M a m b:=by
 unfold s0M r0M
 split<;>omega
theorem SrC.start {l:List α} {a m b:Nat} (h1:a<m) (h2:m<b):SrC R l a m b (s0M a m b) (r0M a m b):=⟨by have:=QdH h1 h2;omega,fun k _ _=>by omega,fun k _ _=>by omega⟩
theorem SrC.startY {l:List α} {a m b:Nat} (h1:a<m) (h2:m<b) (h:(a+b) / 2<m):SrC R l a m b ((a+b) / 2+m - b) ((a+b) / 2):=by
 have h3:=SrC.start (R:=R) (l:=l) h1 h2
 rw [s0M,r0M,if_pos h,if_pos h] at h3
 exact h3
theorem SrC.startN {l:List α} {a m b:Nat} (h1:a<m) (h2:m<b) (h:¬(a+b) / 2<m):SrC R l a m b a m:=by
 have h3:=SrC.start (R:=R) (l:=l) h1 h2
 rw [s0M,r0M,if_neg h,if_neg h] at h3
 exact h3
theorem SrC.yes (o:Jt R) {l:List α} {a m b i j h:Nat} {x y:α} (g:SrC R l a m b i j) (h1:a<m) (h2:m<b) (hs:SrtI R l a m) (hs2:SrtI R l m b) (hh:i≤h∧h<j) (hb:b≤l.length) (hx:l[(a+b) / 2+m - 1 - h]? =some x) (hy:l[h]? =some y) (hr:R x y):SrC R l a m b i h:=by
 obtain ⟨g1,g2,g3⟩:=g
 have hb0:=QdH h1 h2
 have hha:AtI R l ((a+b) / 2+m - 1 - h) h:=fun p q hp hq=>by
  rw [hx] at hp;rw [hy] at hq
  cases hp;cases hq
  exact hr
 refine ⟨by omega,g2,fun k hk hk2=> ?_⟩
 by_cases e:k=h
 ·rw [e];exact hha
 ·exact AtI.trans o (by omega) (hs2 _ ((a+b) / 2+m - 1 - h) (by omega) (by omega) (by omega)) (AtI.trans o (by omega) hha (hs h k (by omega) (by omega) (by omega)))
theorem SrC.no (o:Jt R) {l:List α} {a m b i j h:Nat} {x y:α} (g:SrC R l a m b i j) (h1:a<m) (h2:m<b) (hs:SrtI R l a m) (hs2:SrtI R l m b) (ht:Tot R l) (hh:i≤h∧h<j) (hb:b≤l.length) (hx:l[(a+b) / 2+m - 1 - h]? =some x) (hy:l[h]? =some y) (hr:¬R x y):SrC R l a m b (h+1) j:=by
 obtain ⟨g1,g2,g3⟩:=g
 have hb0:=QdH h1 h2
 have hha:AtI R l h ((a+b) / 2+m - 1 - h):=fun p q hp hq=>by
  rw [hy] at hp;rw [hx] at hq
  cases hp;cases hq
  exact (ht.at (by omega) hx hy).resolve_left hr
 refine ⟨by omega,fun k hk hk2=> ?_,g3⟩
 by_cases e:k=h
 ·rw [e];exact hha
 ·exact AtI.trans o (by omega) (hs k h (by omega) (by omega) (by omega)) (AtI.trans o (by omega) hha (hs2 ((a+b) / 2+m - 1 - h) _ (by omega) (by omega) (by omega)))
def Mid (R:α→α→Prop) (l:List α) (a m b st:Nat) (u:List α):Prop:=u.Perm l∧(∀k,k<a∨b≤k→u[k]? =l[k]?)∧SrtI R u a st∧SrtI R u st ((a+b) / 2)∧SrtI R u ((a+b) / 2) ((a+b) / 2+m - st)∧SrtI R u ((a+b) / 2+m - st) b∧∀p q,a≤p→p<(a+b) / 2→(a+b) / 2≤q→q<b→AtI R u p q
theorem Qns {l:List α} {a m b:Nat} (h1:a≤m) (h2:m≤b) (h3:b≤l.length) (h:¬(a<m∧m<b)):rot l a m b=l:=by
 apply List.ext_getElem?
 intro k
 rw [QiV h1 h2 h3]
 congr 1
 unfold rf
 repeat' split
 all_goals omega
theorem SrC.mid (o:Jt R) {l:List α} {a m b i j:Nat} (g:SrC R l a m b i j) (hij:¬i<j) (h1:a<m) (h2:m<b) (hs:SrtI R l a m) (hs2:SrtI R l m b) (hb:b≤l.length):Mid R l a m b i (rot l i m ((a+b) / 2+m - i)):=by
 obtain ⟨g1,g2,g3⟩:=g
 have hb0:=QdH h1 h2
 obtain rfl:i=j:=by omega
 generalize hM:(a+b) / 2=M at *
 have hat:∀k,(rot l i m (M+m - i))[k]? =l[rf i m (M+m - i) k]? :=QiV (by omega) (by omega) (by omega)
 have hA:∀k,k<i→rf i m (M+m - i) k=k:=fun k hk=>by unfold rf;rw [if_pos hk]
 have hB:∀k,i≤k→k<M→rf i m (M+m - i) k=m+(k - i):=fun k hk hk2=>by unfold rf;rw [if_neg (by omega),if_pos (by omega)]
 have hC:∀k,M≤k→k<M+m - i→rf i m (M+m - i) k=i+(k - M):=fun k hk hk2=>by
  unfold rf
  rw [if_neg (by omega),if_neg (by omega),if_pos (by omega)]
  omega
 have hD:∀k,M+m - i≤k→rf i m (M+m - i) k=k:=fun k hk=>by unfold rf;rw [if_neg (by omega),if_neg (by omega),if_neg (by omega)]
 have hAt:∀p q,AtI R l (rf i m (M+m - i) p) (rf i m (M+m - i) q)→AtI R (rot l i m (M+m - i)) p q:=fun p q h x y hx hy=>by
  rw [hat] at hx hy
  exact h x y hx hy
 refine ⟨QkJ (by omega) (by omega) (by omega),fun k hk=> ?_,fun p q hp hpq hq=>hAt p q ?_,fun p q hp hpq hq=>hAt p q ?_,fun p q hp hpq hq=>hAt p q ?_,fun p q hp hpq hq=>hAt p q ?_,fun p q hp hp2 hq hq2=>hAt p q ?_⟩
 ·rw [hat]
  rcases hk with hk | hk
  ·rw [hA k (by omega)]
  ·rw [hD k (by omega)]
 ·rw [hA p (by omega),hA q (by omega)]
  exact hs p q hp hpq (by omega)
 ·rw [hM] at hq
  rw [hB p (by omega) (by omega),hB q (by omega) (by omega)]
  exact hs2 _ _ (by omega) (by omega) (by omega)
 ·rw [hM] at hp hq
  rw [hC p (by omega) (by omega),hC q (by omega) (by omega)]
  exact hs _ _ (by omega) (by omega) (by omega)
 ·rw [hM] at hp
  rw [hD p (by omega),hD q (by omega)]
  exact hs2 _ _ (by omega) (by omega) (by omega)
 ·rw [hM] at hp2 hq
  have hs0:s0M a m b=if M<m then M+m - b else a:=by unfold s0M;rw [hM]
  have hr0:r0M a m b=if M<m then M else m:=by unfold r0M;rw [hM]
  by_cases cp:p<i
  ·rw [hA p cp]
   by_cases cq:q<M+m - i
   ·rw [hC q hq cq]
    exact hs _ _ hp (by omega) (by omega)
   ·rw [hD q (by omega)]
    have hsi:s0M a m b<i:=by
     rw [hs0]
     split<;>omega
    have h3:AtI R l (i - 1) (M+m - i):=by
     have:=g2 (i - 1) (by omega) (by omega)
     rw [show M+m - 1 - (i - 1)=M+m - i by omega] at this
     exact this
    have h4:AtI R l p (M+m - i):=by
     by_cases e:p=i - 1
     ·rw [e];exact h3
     ·exact AtI.trans o (by omega) (hs p (i - 1) hp (by omega) (by omega)) h3
    by_cases e:q=M+m - i
    ·rw [e];exact h4
    ·exact AtI.trans o (by omega) h4 (hs2 _ q (by omega) (by omega) (by omega))
  ·rw [hB p (by omega) hp2]
   by_cases cq:q<M+m - i
   ·rw [hC q hq cq]
    have hri:i<r0M a m b:=by
     rw [hr0]
     rw [hr0] at g1
     split<;>rename_i c
     ·rw [if_pos c] at g1;omega
     ·rw [if_neg c] at g1;omega
    have h3:AtI R l (M+m - i - 1) i:=by
     have:=g3 i (by omega) (by omega)
     rw [show M+m - 1 - i=M+m - i - 1 by omega] at this
     exact this
    have h4:AtI R l (m+(p - i)) i:=by
     by_cases e:m+(p - i)=M+m - i - 1
     ·rw [e];exact h3
     ·exact AtI.trans o (by omega) (hs2 _ (M+m - i - 1) (by omega) (by omega) (by omega)) h3
    by_cases e:q=M
    ·rw [e,show i+(M - M)=i by omega];exact h4
    ·exact AtI.trans o (by omega) h4 (hs i _ (by omega) (by omega) (by omega))
   ·rw [hD q (by omega)]
    exact hs2 _ _ (by omega) (by omega) (by omega)
theorem SrC.mid' (o:Jt R) {l:List α} {a m b i j:Nat} (g:SrC R l a m b i j) (hij:¬i<j) (h1:a<m) (h2:m<b) (hs:SrtI R l a m) (hs2:SrtI R l m b) (hb:b≤l.length) (h:¬(i<m∧m<(a+b) / 2+m - i)):Mid R l a m b i l:=by
 have h3:=g.mid o hij h1 h2 hs hs2 hb
 have g1:=g.1
 have hb0:=QdH h1 h2
 rw [Qns (by omega) (by omega) (by omega) h] at h3
 exact h3
theorem Mid.post (o:Jt R) {l u:List α} {a m b st:Nat} (h:Mid R l a m b st u) (hab:a≤b) (hb:b≤l.length) (hst:(a+b) / 2≤(a+b) / 2+m - st) (ht:Tot R l):(Zx R u a ((a+b) / 2)).Perm l∧SrtI R (Zx R u a ((a+b) / 2)) ((a+b) / 2) ((a+b) / 2+m - st)∧SrtI R (Zx R u a ((a+b) / 2)) ((a+b) / 2+m - st) b:=by
 have r1:=JK (R:=R) o (show a≤(a+b) / 2 by omega) (show (a+b) / 2≤u.length by rw [h.1.length_eq];omega) (ht.perm h.1)
 refine ⟨r1.1.trans h.1,fun i j hi hij hj x y hx hy=> ?_,fun i j hi hij hj x y hx hy=> ?_⟩
 ·rw [r1.2.1 i (by omega)] at hx
  rw [r1.2.1 j (by omega)] at hy
  exact h.2.2.2.2.1 i j hi hij hj x y hx hy
 ·rw [r1.2.1 i (by omega)] at hx
  rw [r1.2.1 j (by omega)] at hy
  exact h.2.2.2.2.2.1 i j hi hij hj x y hx hy
theorem Mid.left (o:Jt R) {l u:List α} {a m b st:Nat} (h:Mid R l a m b st u) (hab:a≤(a+b) / 2) (hb:(a+b) / 2≤l.length) (ht:Tot R l) (c:¬(a<st∧st<(a+b) / 2)) (hst:a≤st∧st≤(a+b) / 2):Zx R u a ((a+b) / 2)=u:=by
 refine Res.eq o hab (Res.refl ?_)
 by_cases e:st=a
 ·rw [e] at h;exact h.2.2.2.1
 ·have e2:st=(a+b) / 2:=by omega
  rw [e2] at h;exact h.2.2.1
theorem Mid.right (o:Jt R) {l u:List α} {a m b st:Nat} (h:Mid R l a m b st u) (hab:a≤b) (hb:b≤l.length) (ht:Tot R l) (c:¬((a+b) / 2<(a+b) / 2+m - st∧(a+b) / 2+m - st<b)) (hst:(a+b) / 2≤(a+b) / 2+m - st∧(a+b) / 2+m - st≤b):Zx R (Zx R u a ((a+b) / 2)) ((a+b) / 2) b=Zx R u a ((a+b) / 2):=by
 have r1:=JK (R:=R) o (show a≤(a+b) / 2 by omega) (show (a+b) / 2≤u.length by rw [h.1.length_eq];omega) (ht.perm h.1)
 have h1:SrtI R u ((a+b) / 2) b:=by
  by_cases e:(a+b) / 2+m - st=(a+b) / 2
  ·have h6:=h.2.2.2.2.2.1
   rw [e] at h6;exact h6
  ·have e2:(a+b) / 2+m - st=b:=by omega
   have h6:=h.2.2.2.2.1
   rw [e2] at h6;exact h6
 refine Res.eq o (by omega) (Res.refl (fun i j hi hij hj x y hx hy=> ?_))
 rw [r1.2.1 i (by omega)] at hx
 rw [r1.2.1 j (by omega)] at hy
 exact h1 i j hi hij hj x y hx hy
theorem Mid.done (o:Jt R) {l u:List α} {a m b st:Nat} (h:Mid R l a m b st u) (hab:a≤b) (hb:b≤l.length) (ht:Tot R l):Zx R (Zx R u a ((a+b) / 2)) ((a+b) / 2) b=Zx R l a b:=by
 obtain ⟨hp,ho,_,_,_,_,hx⟩:=h
 have hM1:a≤(a+b) / 2:=by omega
 have hM2:(a+b) / 2≤b:=by omega
 generalize (a+b) / 2=M at *
 have hlu:=hp.length_eq
 have r1:=JK (R:=R) o hM1 (show M≤u.length by omega) (ht.perm hp)
 have hl1:=r1.len
 have r2:=JK (R:=R) o hM2 (show b≤(Zx R u a M).length by omega) ((ht.perm hp).perm r1.1)
 have ho2:=r2.2.1
 have ho1:=r1.2.1
 generalize hw1:Zx R u a M=w1 at *
 generalize hw2:Zx R w1 M b=w2 at *
 refine (Res.eq o hab ⟨r2.1.trans (r1.1.trans hp),fun k hk=> ?_,?_⟩).symm
 ·rw [ho2 k (by omega),ho1 k (by omega),ho k hk]
 ·intro p q hp1 hpq hq x y hx1 hy1
  by_cases c1:q<M
  ·rw [ho2 p (by omega)] at hx1
   rw [ho2 q (by omega)] at hy1
   exact r1.2.2 p q hp1 hpq c1 x y hx1 hy1
  ·by_cases c2:M≤p
   ·exact r2.2.2 p q c2 hpq hq x y hx1 hy1
   ·rw [ho2 p (by omega)] at hx1
    obtain ⟨k1,hk1,e1⟩:=r1.mem hp1 (by omega) hx1
    obtain ⟨k2,hk2,e2⟩:=r2.mem (show M≤q by omega) hq hy1
    rw [ho1 k2 (by omega)] at e2
    exact hx k1 k2 hk1.1 hk1.2 hk2.1 hk2.2 x y e1 e2
def MulD (d c:Nat):Prop:=∃q,c=q*d
theorem MulD.gap {d c e:Nat} (h:MulD d c) (h2:MulD d e) (hlt:c<e):c+d≤e:=by
  obtain ⟨q,rfl⟩:=h
  obtain ⟨r,rfl⟩:=h2
  have:q<r:=Nat.lt_of_mul_lt_mul_right hlt
  calc q*d+d=(q+1)*d:=by rw [Nat.add_mul,Nat.one_mul]
    _≤r*d:=Nat.mul_le_mul_right _ this
theorem MulD.zero (d:Nat):MulD d 0:=⟨0,(Nat.zero_mul d).symm⟩
theorem MulD.add {d c:Nat} (h:MulD d c):MulD d (c+d):=by
 obtain ⟨q,rfl⟩:=h
 exact ⟨q+1,by rw [Nat.add_mul,Nat.one_mul]⟩
theorem MulD.half {d c:Nat} (h:MulD (2*d) c):MulD d c:=by
 obtain ⟨q,rfl⟩:=h
 exact ⟨q*2,by rw [Nat.mul_assoc]⟩
def Blk (R:α→α→Prop) (l:List α) (d:Nat) (s:List α):Prop:=s.Perm l∧∀c,MulD d c→SrtI R s c (min (c+d) l.length)
def BlkL (R:α→α→Prop) (l:List α) (d a:Nat) (s:List α):Prop:=MulD d a∧a≤l.length∧s.Perm l∧∀c,MulD d c→c<a→SrtI R s c (c+d)
theorem BlkL.start {l:List α} {d:Nat}:BlkL R l d 0 l:=⟨MulD.zero d,Nat.zero_le _, .refl _,fun c _ h=>by omega⟩
theorem BlkL.next (o:Jt R) {l s:List α} {d a:Nat} (h:BlkL R l d a s) (ht:Tot R l) (ha:a+d≤l.length):BlkL R l d (a+d) (Zx R s a (a+d)):=by
 obtain ⟨h1,h2,h3,h4⟩:=h
 have r:=JK (R:=R) o (show a≤a+d by omega) (show a+d≤s.length by rw [h3.length_eq];exact ha) (ht.perm h3)
 refine ⟨h1.add,ha,r.1.trans h3,fun c hc hlt=> ?_⟩
 by_cases e:c<a
 ·have:=hc.gap h1 e
  intro i j hi hij hj x y hx hy
  rw [r.2.1 i (by omega)] at hx
  rw [r.2.1 j (by omega)] at hy
  exact h4 c hc e i j hi hij hj x y hx hy
 ·have:c=a:=by
   apply Classical.byContradiction
   intro hn
   have:=h1.gap hc (by omega)
   omega
  rw [this]
  exact r.2.2
theorem BlkL.last (o:Jt R) {l s:List α} {d a:Nat} (h:BlkL R l d a s) (ht:Tot R l) (ha:¬a+d≤l.length):Blk R l d (Zx R s a l.length):=by
 obtain ⟨h1,h2,h3,h4⟩:=h
 have r:=JK (R:=R) o h2 (show l.length≤s.length by rw [h3.length_eq];omega) (ht.perm h3)
 refine ⟨r.1.trans h3,fun c hc=> ?_⟩
 by_cases e:c<a
 ·have:=hc.gap h1 e
  intro i j hi hij hj x y hx hy
  rw [r.2.1 i (by omega)] at hx
  rw [r.2.1 j (by omega)] at hy
  exact h4 c hc e i j hi hij (by omega) x y hx hy
 ·intro i j hi hij hj
  exact r.2.2 i j (by omega) hij (by omega)
theorem Blk.done (o:Jt R) {l s:List α} {d:Nat} (h:Blk R l d s) (hd:¬d<l.length):s=Zx R l 0 l.length:=by
 refine (Res.eq o (Nat.zero_le _) ⟨h.1,fun k hk=> ?_,fun i j hi hij hj=> ?_⟩).symm
 ·rw [List.getElem?_eq_none (by rw [h.1.length_eq];omega),List.getElem?_eq_none (by omega)]
 ·exact h.2 0 (MulD.zero d) i j hi hij (by omega)
def Mrg (R:α→α→Prop) (l:List α) (d a:Nat) (s:List α):Prop:=MulD (2*d) a∧a≤l.length∧s.Perm l∧(∀c,MulD (2*d) c→c<a→SrtI R s c (c+2*d))∧∀c,MulD d c→a≤c→SrtI R s c (min (c+d) l.length)
theorem Mrg.start {l s:List α} {d:Nat} (h:Blk R l d s):Mrg R l d 0 s:=⟨MulD.zero _,Nat.zero_le _,h.1,fun c _ h=>by omega,fun c hc _=>h.2 c hc⟩
theorem Mrg.lo {l s:List α} {d a:Nat} (h:Mrg R l d a s) (ha:a+d≤l.length):SrtI R s a (a+d):=by
 have:=h.2.2.2.2 a h.1.half (Nat.le_refl _)
 rwa [Nat.min_eq_left ha] at this
theorem Mrg.hi {l s:List α} {d a:Nat} (h:Mrg R l d a s):SrtI R s (a+d) (min (a+2*d) l.length):=by
 have:=h.2.2.2.2 (a+d) h.1.half.add (by omega)
 rwa [show a+d+d=a+2*d by omega] at this
theorem Mrg.next (o:Jt R) {l s:List α} {d a:Nat} (h:Mrg R l d a s) (ht:Tot R l) (ha:a+2*d≤l.length):Mrg R l d (a+2*d) (Zx R s a (a+2*d)):=by
 obtain ⟨h1,h2,h3,h4,h5⟩:=h
 have r:=JK (R:=R) o (show a≤a+2*d by omega) (show a+2*d≤s.length by rw [h3.length_eq];exact ha) (ht.perm h3)
 refine ⟨h1.add,ha,r.1.trans h3,fun c hc hlt=> ?_,fun c hc hle=> ?_⟩
 ·by_cases e:c<a
  ·have:=hc.gap h1 e
   intro i j hi hij hj x y hx hy
   rw [r.2.1 i (by omega)] at hx
   rw [r.2.1 j (by omega)] at hy
   exact h4 c hc e i j hi hij hj x y hx hy
  ·have:c=a:=by
    apply Classical.byContradiction
    intro hn
    have:=h1.gap hc (by omega)
    omega
   rw [this]
   exact r.2.2
 ·intro i j hi hij hj x y hx hy
  rw [r.2.1 i (by omega)] at hx
  rw [r.2.1 j (by omega)] at hy
  exact h5 c hc (by omega) i j hi hij hj x y hx hy
theorem Mrg.last (o:Jt R) {l s:List α} {d a:Nat} (h:Mrg R l d a s) (ht:Tot R l) (ha:¬a+2*d≤l.length) (hd:a+d<l.length):Blk R l (2*d) (Zx R s a l.length):=by
 obtain ⟨h1,h2,h3,h4,h5⟩:=h
 have r:=JK (R:=R) o h2 (show l.length≤s.length by rw [h3.length_eq];omega) (ht.perm h3)
 refine ⟨r.1.trans h3,fun c hc=> ?_⟩
 by_cases e:c<a
 ·have:=hc.gap h1 e
  intro i j hi hij hj x y hx hy
  rw [r.2.1 i (by omega)] at hx
  rw [r.2.1 j (by omega)] at hy
  exact h4 c hc e i j hi hij (by omega) x y hx hy
 ·intro i j hi hij hj
  exact r.2.2 i j (by omega) hij (by omega)
theorem Mrg.last' {l s:List α} {d a:Nat} (h:Mrg R l d a s) (hd:¬a+d<l.length):Blk R l (2*d) s:=by
 obtain ⟨h1,h2,h3,h4,h5⟩:=h
 refine ⟨h3,fun c hc=> ?_⟩
 by_cases e:c<a
 ·have:=hc.gap h1 e
  intro i j hi hij hj
  exact h4 c hc e i j hi hij (by omega)
 ·intro i j hi hij hj
  exact h5 a h1.half (Nat.le_refl _) i j (by omega) hij (by omega)
end
end
noncomputable section
def JU (a b:D.Entry) (x:D.Issue):Int:=if Zf a b x then -1 else if Zf b a x then 1 else 0
theorem cmpE_lt {a b:D.Entry} {x:D.Issue}:JU a b x<0↔Zf a b x:=by
 unfold JU
 split
 ·rename_i h
  exact ⟨fun _=>h,fun _=>by decide⟩
 ·rename_i h
  split
  ·exact ⟨fun h1=>absurd h1 (by decide),fun h1=>absurd h1 h⟩
  ·exact ⟨fun h1=>absurd h1 (by decide),fun h1=>absurd h1 h⟩
abbrev aR (x:D.Issue) (a b:D.Entry):Prop:=Zf a b x
theorem ZC (x:D.Issue):Jt (aR x) where
 tr:=fun {a b c} h1 h2=>by unfold aR Zf at *;omega
 ir:=fun {a} h=>by unfold aR Zf at *;omega
 nt:=fun {a b c} h1 h2 h=>by unfold aR Zf at *;omega
def zAll (m:Nat) (l:List D.Entry):Prop:=l.length≤m∧∀e∈l,Q7 e≤m
theorem zAll.perm {m:Nat} {l s:List D.Entry} (h:zAll m l) (p:s.Perm l):zAll m s:=⟨by rw [p.length_eq];exact h.1,fun e he=>h.2 e (p.mem_iff.1 he)⟩
theorem zAll.at {m:Nat} {l:List D.Entry} {i:Nat} {e:D.Entry} (h:zAll m l) (he:l[i]? =some e):Q7 e≤m:=h.2 e (List.mem_of_getElem? he)
end
theorem Qde (n:Nat) (o:D.Entry) (e:D.Entry):Pure (Qs Tryz.prog (n+1)) 42 [(T.agg (Qa false o)),(T.rp (Qa false e))] (tB (decide (o.Player=e.Player))):=by
 refine Pure.intro (rs:= [ResultVar.tmp 3]) Tryz.func42 Y Y Y (E0:= [(0,(T.agg (Qa false o))),(1,(T.rp (Qa false e)))]) Y ?_
 obtain ⟨hlim,hmx,hmax⟩:=QA
 refine sr (kO (B.box (ts:=(Qa false o)) (tv (T.agg (Qa false o)) Y) nofun Y) (fO (OF.assign (VEv.bool false)) (nt (sr (lf (tI o.Player) Y YH Y Y QQ (lr (tI e.Player) Y (lb Y) YH Y QQ (fO (J6 (tv (tI o.Player) Y) (tv (tI e.Player) Y)) (aO (tB (decide (o.Player=e.Player))) Y (nt (rt ?_))))))))))
 exact vb Y Y
theorem YB (n:Nat) (a:D.Entry) (b:D.Entry) (x:D.Issue) (hza:Q7 a≤mx) (hzb:Q7 b≤mx) (hz:Q3 x≤mx):Pure (Qs Tryz.prog (n+48)) 45 [(T.agg (Qa false a)),(T.agg (Qa false b)),(T.rp (Qe false x))] (tI (JU a b x)):=by
 refine Pure.intro (rs:= [ResultVar.tmp 5]) Tryz.func45 Y Y Y (E0:= [(0,(T.agg (Qa false a))),(1,(T.agg (Qa false b))),(2,(T.rp (Qe false x)))]) Y ?_
 obtain ⟨hlim,hmx,hmax⟩:=QA
 refine sr (kO (B.box (ts:=(Qa false a)) (tv (T.agg (Qa false a)) Y) nofun Y) (kO (B.box (ts:=(Qa false b)) (tv (T.agg (Qa false b)) Y) nofun Y) (fO (OF.assign (VEv.int .i64 0)) (nt (sq (VRun.block (sr (lO (OL.loadOn (us:=(Qa false a)) (tv (T.op 0 0) Y) Y ZX Qz (lb Y) Y) (lO (OL.loadOn (us:=(Qa false b)) (tv (T.op 1 0) Y) Y ZX Qz (lb Y) Y) (lO (OL.loadRn (us:=(Qe false x)) (tv (T.rp (Qe false x)) Y) Jj YZ (lb Y) Y) (cO (cS (vc (tv (T.agg (Qa false a)) Y) (vc (tv (T.agg (Qa false b)) Y) (vc (tv (T.agg (Qe false x)) Y) vn))) (LendL.cons (lg okeEntry) (LendL.cons (lg okeEntry) (LendL.cons (lg Q1) ln))) (Qab (n+0) a b x (by assumption) (by assumption) (by assumption)) Y Y) ?_)))))))))))
 refine aO (tB (decide (Zf a b x))) Y (nt ?_)
 refine cd (Zf a b x) Y (fun fhc0=> ?_) fun fhc0=> ?_
 ·refine sr ?_
  refine fO (OF.assign (VEv.int .i64 (-1))) (nt (rt (vinB.r (tr (vi (n':=(-1)) Y ?_)))))
  unfold JU;rw [if_pos fhc0]
 refine sr (lO (OL.loadOn (us:=(Qa false b)) (tv (T.op 1 0) Y) Y ZX Qz (lb Y) Y) (lO (OL.loadOn (us:=(Qa false a)) (tv (T.op 0 0) Y) Y ZX Qz (lb Y) Y) (lO (OL.loadRn (us:=(Qe false x)) (tv (T.rp (Qe false x)) Y) Jj YZ (lb Y) Y) (cO (cS (vc (tv (T.agg (Qa false b)) Y) (vc (tv (T.agg (Qa false a)) Y) (vc (tv (T.agg (Qe false x)) Y) vn))) (LendL.cons (lg okeEntry) (LendL.cons (lg okeEntry) (LendL.cons (lg Q1) ln))) (Qab (n+0) b a x (by assumption) (by assumption) (by assumption)) Y Y) (aO (tB (decide (Zf b a x))) Y (nt ?_))))))
 refine cd (Zf b a x) Y (fun fhc1=> ?_) fun fhc1=> ?_
 ·refine sr ?_
  refine fO (OF.assign (VEv.int .i64 1)) (nt (rt (vinB.r (tr (vi (n':=1) Y ?_)))))
  unfold JU;rw [if_neg fhc0,if_pos fhc1]
 refine sk (vinB.n (tn (sr (fO (OF.assign (VEv.int .i64 0)) (nt (rt (vi (n':=0) Y ?_)))))))
 unfold JU;rw [if_neg fhc0,if_neg fhc1]
theorem Zb (n:Nat) (l:List D.Entry) (a:Nat) (b:Nat) (x:D.Issue) (hl:zAll mx l) (hz:Q3 x≤mx) (ht:Tot (aR x) l) (hab:a≤b) (hb:b≤l.length):Loan (Qs Tryz.prog (n+49)) 76 4 (List.map (Qa true) l) [(T.os 4 0 0 ((l.map (Qa true)).length)),(tN a),(tN b),(T.fn 45 [(T.rp (Qe false x))])] (T.tup []) (List.map (Qa true) (Zx (aR x) l a b)):=by
 refine Loan.intro (rs:= []) (j:=0) (pin:=(T.os 4 0 0 ((l.map (Qa true)).length))) Tryz.func76 Y Y Y (by kernel_rfl) Y (.os _ _) .none (QL (fun _=>rfl) _) (QL (fun _=>rfl) _) (E0:= [(0,(T.os 4 0 0 ((l.map (Qa true)).length))),(1,(tN a)),(2,(tN b)),(3,(T.fn 45 [(T.rp (Qe false x))]))]) Y ?_
 obtain ⟨hlim,hmx,hmax⟩:=QA
 have hl1:=hl.1
 refine sr (mO (tN a) Y (fO (Qx (tv (tN a) Y) (VEv.int .i64 1) (by omega)) (aO (tN (a+1)) Y (nt (VRun.block ?_)))))
 refine VRun.loop (A:=Nat×(List D.Entry)) (fun s_=> [(0,(T.os 4 0 0 ((s_.2.map (Qa true)).length))),(1,(tN a)),(2,(tN b)),(3,(T.fn 45 [(T.rp (Qe false x))])),(8,(tN s_.1))]) (fun s_=>QV [(0,(Obj.rows 4 (s_.2.map (Qa true))))]) 1 (fun s_=>InsO (aR x) l a b s_.1 s_.2) (fun s_=>b - s_.1) ((a+1,l):Nat×(List D.Entry)) ?_ (Wk.mk (fun k=>k) ?_ ?_ ?_) ?_
 ·exact InsO.start
 ·exact (b2 (b2 (b2 (b2 (b2 bn)))))
 ·exact (b3 bn)
 ·exact nd Y
 rintro ⟨i,s⟩ (hI':InsO (aR x) l a b i s)
 show VRun _ _ _ [(0,(T.os 4 0 0 ((s.map (Qa true)).length))),(1,(tN a)),(2,(tN b)),(3,(T.fn 45 [(T.rp (Qe false x))])),(8,(tN i))] (QV [(0,(Obj.rows 4 (s.map (Qa true))))]) 1 _
 have hI0:=hI'
 have hsl:=hI'.len
 have hge:=hI'.ge
 have hzs:=hl.perm hI'.perm
 refine sq (sr (mO (tN i) Y (mO (tN b) Y (fO (Q5 (tv (tN i) Y) (tv (tN b) Y)) (nt ?_)))))
 refine cd (i<b) Y (fun fhc0=> ?_) fun fhc0=> ?_
 ·refine sk ?_
  refine tn (sq (VRun.block (sr (mO (tN i) Y (aO (tN i) Y (nt (VRun.block ?_)))))))
  refine VRun.loop (A:=Nat×(List D.Entry)) (fun s_=> [(0,(T.os 4 0 0 ((s_.2.map (Qa true)).length))),(1,(tN a)),(2,(tN b)),(3,(T.fn 45 [(T.rp (Qe false x))])),(8,(tN i)),(9,(tN s_.1))]) (fun s_=>QV [(0,(Obj.rows 4 (s_.2.map (Qa true))))]) 1 (fun s_=>InsI (aR x) s a i s_.1 s_.2) (fun s_=>s_.1 - a) ((i,s):Nat×(List D.Entry)) ?_ (Wk.mk (fun k=>k) ?_ ?_ ?_) ?_
  ·exact InsI.start (by omega) (by omega)
  ·exact (b2 (b2 (b2 (b2 (b2 (b2 bn))))))
  ·exact (b3 bn)
  ·exact nd Y
  rintro ⟨j,u⟩ (hI':InsI (aR x) s a i j u)
  show VRun _ _ _ [(0,(T.os 4 0 0 ((u.map (Qa true)).length))),(1,(tN a)),(2,(tN b)),(3,(T.fn 45 [(T.rp (Qe false x))])),(8,(tN i)),(9,(tN j))] (QV [(0,(Obj.rows 4 (u.map (Qa true))))]) 1 _
  have hul:=hI'.len
  have hj1:=hI'.1
  have hsw:=Jd u j (j - 1)
  have hzu:=hzs.perm hI'.perm
  refine sq (sq (VRun.draw (B:= [[],[],[1,0],[0,1,2],[2,1,0,3],[2,1,0,3],[2,1,0,3],[6,3,0,1,2,5],[5,2,1,0,3,6,7],[2,1,0,3],[2,1,0,3],[3,0,1,2,10],[10,11,3,0,1,2,9],[9,2,1,0,3,11,10,12],[12,10,11,9,13,7,6,5,8,3,0,1,2,4],[4,2,1,0,3,8,5,6,7,13,9,11,10,12,14],[14,12,10,11,9,13,7,6,5,8,4,15,2,1,0,3]]) (by kernel_rfl) (by kernel_rfl) Y (mD (tN j) Y Y (mD (tN a) Y Y (fD (Qkc (tv (tN j) Y) (tv (tN a) Y)) Y Y (mD (tB (decide (a<j))) Y Y ?_))))))
  refine gw (a<j) (fun fhg21_1=> ?_) fun fhg21_1=> ?_
  ·refine VRunD.free Y (VWant.on Y Y (dy fhg21_1)) Y (OF.move (tv (T.fn 45 [(T.rp (Qe false x))]) Y)) ?_
   refine VRunD.free Y (VWant.on Y Y (dy fhg21_1)) Y (OF.move (tv (T.os 4 0 0 ((u.map (Qa true)).length)) Y)) (VRunD.free Y (VWant.on Y Y (dy fhg21_1)) Y (OF.move (tv (tN j) Y)) ?_)
   obtain ⟨x1,hx1⟩:∃x,u[j]? =some x:=⟨_,List.getElem?_eq_getElem (by omega)⟩
   refine VRunD.free Y (VWant.on Y Y (dy fhg21_1)) Y (B.indexAddrO (i:=j) (tv (T.os 4 0 0 ((u.map (Qa true)).length)) Y) (tv (tN j) Y) Y (by (simp only [List.length_map];omega)) Yb Qz Zo) (VRunD.look Y (VWant.on Y Y (dy fhg21_1)) Y (OL.loadPn (us:=(Qa false x1)) (row:=(Qa true x1)) (tv (T.orp 4 0 j 0) Y) Y (Qr _ hx1) ZX Qz (lb Y) Y (bc Y (bc Y (bc Y (bc Y bn))))) (VRunD.free Y (VWant.on Y Y (dy fhg21_1)) Y (OF.move (tv (T.os 4 0 0 ((u.map (Qa true)).length)) Y)) (VRunD.free Y (VWant.on Y Y (dy fhg21_1)) Y (OF.move (tv (tN j) Y)) (VRunD.free Y (VWant.on Y Y (dy fhg21_1)) Y (B.sub (n:=((j - 1:Nat):Int)) (tv (tN j) Y) (VEv.int .i64 1) (by (rw [Qt (by omega)];omega))) ?_))))
   obtain ⟨x2,hx2⟩:∃x,u[j - 1]? =some x:=⟨_,List.getElem?_eq_getElem (by omega)⟩
   refine VRunD.free Y (VWant.on Y Y (dy fhg21_1)) Y (B.indexAddrO (i:=j - 1) (tv (T.os 4 0 0 ((u.map (Qa true)).length)) Y) (tv (tN (j - 1)) Y) Y (by (simp only [List.length_map];omega)) Yb Qz Zo) (VRunD.look Y (VWant.on Y Y (dy fhg21_1)) Y (OL.loadPn (us:=(Qa false x2)) (row:=(Qa true x2)) (tv (T.orp 4 0 (j - 1) 0) Y) Y (Qr _ hx2) ZX Qz (lb Y) Y (bc Y (bc Y (bc Y (bc Y bn))))) (VRunD.quiet (bi:= [12,10,11,9,13,7,6,5,8,3,0,1,2,4]) Y (VWant.on Y Y (dy fhg21_1)) Y Y Y bn (OC.callv (us:= [(T.agg (Qa false x1)),(T.agg (Qa false x2))]) (ucaps:= [(T.rp (Qe false x))]) (r:=(tI (JU x1 x2 x))) (r':=(tI (JU x1 x2 x))) (objs:= []) Y Y (vc (tv (T.agg (Qa false x1)) Y) (vc (tv (T.agg (Qa false x2)) Y) vn)) (LendL.cons (lg okeEntry) (LendL.cons (lg okeEntry) ln)) (Z8 Y) (YB (n+0) x1 x2 x (by exact hzu.at (by assumption)) (by exact hzu.at (by assumption)) (by assumption)) Y) (VRunD.free Y (VWant.on Y Y (dy fhg21_1)) Y (xls (tv (tI (JU x1 x2 x)) Y) (VEv.int .i64 0)) (fD (OF.pickT (VEv.tmpB Y (dy fhg21_1)) (tv (tB (decide (JU x1 x2 x<0))) Y)) Y Y (VRunD.nil (tn ?_))))))
   refine cd (JU x1 x2 x<0) Y (fun fhc1=> ?_) fun fhc1=> ?_
   ·refine sk ?_
    refine tn (sq (VRun.block (VRun.draw (B:= [[],[],[],[],[3],[],[],[6],[6,7,5],[5,7,6,8],[],[],[11,10],[10,11,12],[12,11,10,13,9,8,7,6,5,1,0],[0,1,5,6,7,8,9,13,10,11,12,14],[15,14,13,12,11,10,9,8,7,6,5,1,0,3,4,2],[2,4,3,0,1,5,6,7,8,9,10,11,12,13,14,15,16]]) (by kernel_rfl) (by kernel_rfl) Y (mD (T.os 4 0 0 ((u.map (Qa true)).length)) Y Y (mD (tN j) Y Y (mD (T.os 4 0 0 ((u.map (Qa true)).length)) Y Y (mD (tN j) Y Y (fD (B.sub (n:=((j - 1:Nat):Int)) (tv (tN j) Y) (VEv.int .i64 1) (by (rw [Qt (by omega)];omega))) Y Y (mD (T.os 4 0 0 ((u.map (Qa true)).length)) Y Y (mD (tN j) Y Y (fD (B.sub (n:=((j - 1:Nat):Int)) (tv (tN j) Y) (VEv.int .i64 1) (by (rw [Qt (by omega)];omega))) Y Y ?_)))))))))))
    refine fD (B.indexAddrO (i:=j - 1) (tv (T.os 4 0 0 ((u.map (Qa true)).length)) Y) (tv (tN (j - 1)) Y) Y (by (simp only [List.length_map];omega)) Yb Qz Zo) Y Y (lD (OL.loadPn (us:=(Qa false x2)) (row:=(Qa true x2)) (tv (T.orp 4 0 (j - 1) 0) Y) Y (Qr _ hx2) ZX Qz (lb Y) Y (bc Y (bc Y (bc Y (bc Y bn))))) Y Y (mD (T.os 4 0 0 ((u.map (Qa true)).length)) Y Y (mD (tN j) Y Y (fD (B.indexAddrO (i:=j) (tv (T.os 4 0 0 ((u.map (Qa true)).length)) Y) (tv (tN j) Y) Y (by (simp only [List.length_map];omega)) Yb Qz Zo) Y Y (lD (OL.loadPn (us:=(Qa false x1)) (row:=(Qa true x1)) (tv (T.orp 4 0 j 0) Y) Y (Qr _ hx1) ZX Qz (lb Y) Y (bc Y (bc Y (bc Y (bc Y bn))))) Y Y (fD (B.indexAddrO (i:=j) (tv (T.os 4 0 0 ((u.map (Qa true)).length)) Y) (tv (tN j) Y) Y (by (simp only [List.length_map];omega)) Yb Qz Zo) Y Y (VRunD.chain (bi:= [0,1,5,6,7,8,9,13,10,11,12,14]) Y VWant.always Y Y Y (by kernel_rfl) (B.storeP (us:=(Qa false x2)) (rows':=((u.set j x2).map (Qa true))) (row:=(Qa true x1)) (tv (T.orp 4 0 j 0) Y) (tv (T.agg (Qa false x2)) Y) nofun Y (Qr _ hx1) Y (lb Y) Zo Qz (bc Y (bc Y (bc Y (bc Y bn)))) (by intro r hr t ht;obtain ⟨x,_,rfl⟩:=List.mem_map.1 hr;rw [Yy] at ht;exact QT (okeEntry.pl _ t ht)) (QZ Y)) ?_)))))))
    obtain ⟨x3,hx3⟩:∃x,(u.set j x2)[j - 1]? =some x:=⟨_,List.getElem?_eq_getElem (by (simp only [List.length_map,List.length_append,List.length_cons,List.length_nil,List.length_replicate,List.length_set,List.length_drop,List.length_take,Y2] at *;omega))⟩
    refine fD (B.indexAddrO (i:=j - 1) (tv (T.os 4 0 0 ((u.map (Qa true)).length)) Y) (tv (tN (j - 1)) Y) Y (by (simp only [List.length_map];omega)) Yb Qz Zo) Y Y (VRunD.chain (bi:= [2,4,3,0,1,5,6,7,8,9,10,11,12,13,14,15,16]) Y VWant.always Y Y Y (by kernel_rfl) (B.storeP (us:=(Qa false x1)) (rows':=(((u.set j x2).set (j - 1) x1).map (Qa true))) (row:=(Qa true x3)) (tv (T.orp 4 0 (j - 1) 0) Y) (tv (T.agg (Qa false x1)) Y) nofun Y (Qr _ hx3) Y (lb Y) Zo Qz (bc Y (bc Y (bc Y (bc Y bn)))) (by intro r hr t ht;obtain ⟨x,_,rfl⟩:=List.mem_map.1 hr;rw [Yy] at ht;exact QT (okeEntry.pl _ t ht)) (QZ Y)) (VRunD.nil (vinB.n (tn (VRun.region (mO (tN j) Y (fO (B.sub (n:=(((j:Nat):Int) - 1)) (tv (tN j) Y) (VEv.int .i64 1) (by (rw [Qt (by omega)];done))) (aO (tI (((j:Nat):Int) - 1)) Y (VRunO.nil (tn ?_))))))))))
    have he2:((u.set j x2).set (j - 1) x1)=(swp u j (j - 1)):=by exact (Qe3 hx1 hx2).symm
    refine ⟨((j - 1,swp u j (j - 1)):Nat×(List D.Entry)),?_,?_,Wk.mk (fun k=>k) ?_ ?_ ?_⟩
    ·exact hI'.next (by omega) hx1 hx2 (cmpE_lt.1 fhc1)
    ·omega
    ·exact (bc ⟨(congrArg (fun n_=>T.os 4 0 0 n_) (show (u.map (Qa true)).length=((swp u j (j - 1)).map (Qa true)).length from (by (simp only [List.length_map];omega)))),rfl⟩ (b2 (b2 (b2 (b2 (bc ⟨(congrArg (T.int .i64) (show (((j:Nat):Int) - 1)=(((j - 1):Nat):Int) from (by omega))),rfl⟩ bn))))))
    ·exact (bc ⟨(congrArg (fun l_=>some (Obj.rows 4 (List.map (Qa true) l_))) he2),(lb Y),rfl⟩ bn)
    ·exact nd Y
   refine VRun.exit (vthn.e (vthn.e (vinB.e (vinB.n (tn (VRun.region (mO (tN i) Y (fO (Qx (tv (tN i) Y) (VEv.int .i64 1) (by omega)) (aO (tN (i+1)) Y (VRunO.nil (tn ?_)))))))))))
   refine ⟨((i+1,u):Nat×(List D.Entry)),?_,?_,Wk.mk (fun k=>k) ?_ ?_ ?_⟩
   ·exact hI'.done (ZC x) hI0 fhc0 ht (.inr ⟨_,_,hx1,hx2,fun h=>fhc1 (cmpE_lt.2 h)⟩)
   ·omega
   ·exact (b2 (b2 (b2 (b2 (b2 bn)))))
   ·exact (b3 bn)
   ·exact nd Y
  refine oD Y Y (dz fhg21_1) Y (oD Y Y (dz fhg21_1) Y (oD Y Y (dz fhg21_1) Y (oD Y Y (dz fhg21_1) Y (oD Y Y (dz fhg21_1) Y (oD Y Y (dz fhg21_1) Y (oD Y Y (dz fhg21_1) Y (oD Y Y (dz fhg21_1) Y (oD Y Y (dz fhg21_1) Y (oD Y Y (dz fhg21_1) Y (oD Y Y (dz fhg21_1) Y (oD Y Y (dz fhg21_1) Y ?_)))))))))))
  refine fD (OF.pickF (VEv.tmpB Y (dz fhg21_1)) (VEv.bool false)) Y Y (VRunD.nil (tn (cf Y (VRun.exit (vthn.e (vthn.e (vinB.e (vinB.n (tn (VRun.region (mO (tN i) Y ?_)))))))))))
  refine fO (Qx (tv (tN i) Y) (VEv.int .i64 1) (by omega)) (aO (tN (i+1)) Y (VRunO.nil (tn ?_)))
  refine ⟨((i+1,u):Nat×(List D.Entry)),?_,?_,Wk.mk (fun k=>k) ?_ ?_ ?_⟩
  ·(refine hI'.done (ZC x) hI0 fhc0 ht (.inl ?_);omega)
  ·omega
  ·exact (b2 (b2 (b2 (b2 (b2 bn)))))
  ·exact (b3 bn)
  ·exact nd Y
 refine VRun.exit (vthn.e (vthn.e (vinB.e ?_)))
 have hnew:s=Zx (aR x) l a b:=by
  exact hI'.done (ZC x) hab fhc0
 exact vloan.n 0 VRes.nil Y (congrArg (fun n_=>T.os 4 0 0 n_) (show (s.map (Qa true)).length=(l.map (Qa true)).length from (by (simp only [List.length_map,Yr,Jd];omega)))) Y (congrArg (List.map (Qa true)) hnew)
theorem QP (n:Nat) (l:List D.Entry) (a:Nat) (b:Nat) (c:Nat) (x:D.Issue) (hl:l.length≤mx) (hab:a+c≤b) (hb:b+c≤l.length):Loan (Qs Tryz.prog (n+1)) 110 4 (List.map (Qa true) l) [(T.os 4 0 0 ((l.map (Qa true)).length)),(tN a),(tN b),(tN c),(T.fn 45 [(T.rp (Qe false x))])] (T.tup []) (List.map (Qa true) (swR l a b c)):=by
 refine Loan.intro (rs:= []) (j:=0) (pin:=(T.os 4 0 0 ((l.map (Qa true)).length))) Tryz.func110 Y Y Y (by kernel_rfl) Y (.os _ _) .none (QL (fun _=>rfl) _) (QL (fun _=>rfl) _) (E0:= [(0,(T.os 4 0 0 ((l.map (Qa true)).length))),(1,(tN a)),(2,(tN b)),(3,(tN c)),(4,(T.fn 45 [(T.rp (Qe false x))]))]) Y ?_
 obtain ⟨hlim,hmx,hmax⟩:=QA
 refine sr (fO (OF.assign (VEv.int .i64 0)) (nt (VRun.block ?_)))
 have he1:l=swR l a b 0:=by rfl
 refine VRun.loop (A:=Nat) (fun s_=> [(0,(T.os 4 0 0 (((swR l a b s_).map (Qa true)).length))),(1,(tN a)),(2,(tN b)),(3,(tN c)),(10,(tN s_))]) (fun s_=>QV [(0,(Obj.rows 4 ((swR l a b s_).map (Qa true))))]) 1 (fun s_=>s_≤c) (fun s_=>c - s_) (0:Nat) ?_ (Wk.mk (fun k=>k) ?_ ?_ ?_) ?_
 ·(simp;done)
 ·exact (bc ⟨(congrArg (fun l_=>T.os 4 0 0 (List.map (Qa true) l_).length) he1),rfl⟩ (b2 (b2 (b2 (b2 bn)))))
 ·exact (bc ⟨(congrArg (fun l_=>some (Obj.rows 4 (List.map (Qa true) l_))) he1),(lb Y),rfl⟩ bn)
 ·exact nd Y
 rintro i (hI':i≤c)
 show VRun _ _ _ [(0,(T.os 4 0 0 (((swR l a b i).map (Qa true)).length))),(1,(tN a)),(2,(tN b)),(3,(tN c)),(10,(tN i))] (QV [(0,(Obj.rows 4 ((swR l a b i).map (Qa true))))]) 1 _
 have hsl:=JF l a b i
 have hsl1:=JF l a b (i+1)
 refine sq (sr (mO (tN i) Y (mO (tN c) Y (fO (Q5 (tv (tN i) Y) (tv (tN c) Y)) (nt ?_)))))
 refine cd (i<c) Y (fun fhc0=> ?_) fun fhc0=> ?_
 ·refine sk ?_
  refine tn (sq (VRun.block (VRun.draw (B:= [[],[],[],[2,1],[],[],[],[6,5],[],[],[],[10,9],[9,10,11,8],[8,11,10,9,12],[],[],[],[16,15],[15,16,17,14],[14,17,16,15,18],[18,15,16,17,14,19,13,12,11,10,9,8,1,2,3,0],[0,3,2,1,8,9,10,11,12,13,19,14,17,16,15,18,20],[21,20,19,18,17,16,15,14,13,12,11,10,9,8,3,2,1,0,5,6,7,4],[4,7,6,5,0,1,2,3,8,9,10,11,12,13,14,15,16,17,18,19,20,21,22]]) (by kernel_rfl) (by kernel_rfl) Y (mD (T.os 4 0 0 (((swR l a b i).map (Qa true)).length)) Y Y (mD (tN a) Y Y (mD (tN i) Y Y (fD (B.add (n:=(((a+i):Nat):Int)) (tv (tN a) Y) (tv (tN i) Y) (by (rw [Qt (by omega)];omega))) Y Y (mD (T.os 4 0 0 (((swR l a b i).map (Qa true)).length)) Y Y (mD (tN b) Y Y (mD (tN i) Y Y (fD (B.add (n:=(((b+i):Nat):Int)) (tv (tN b) Y) (tv (tN i) Y) (by (rw [Qt (by omega)];omega))) Y Y ?_)))))))))))
  refine mD (T.os 4 0 0 (((swR l a b i).map (Qa true)).length)) Y Y (mD (tN b) Y Y (mD (tN i) Y Y (fD (B.add (n:=(((b+i):Nat):Int)) (tv (tN b) Y) (tv (tN i) Y) (by (rw [Qt (by omega)];omega))) Y Y ?_)))
  obtain ⟨x1,hx1⟩:∃x,(swR l a b i)[(b+i)]? =some x:=⟨_,List.getElem?_eq_getElem (by omega)⟩
  refine fD (B.indexAddrO (i:=(b+i)) (tv (T.os 4 0 0 (((swR l a b i).map (Qa true)).length)) Y) (tv (tN (b+i)) Y) Y (by (simp only [List.length_map];omega)) Yb Qz Zo) Y Y (lD (OL.loadPn (us:=(Qa false x1)) (row:=(Qa true x1)) (tv (T.orp 4 0 (b+i) 0) Y) Y (Qr _ hx1) ZX Qz (lb Y) Y (bc Y (bc Y (bc Y (bc Y bn))))) Y Y (mD (T.os 4 0 0 (((swR l a b i).map (Qa true)).length)) Y Y (mD (tN a) Y Y (mD (tN i) Y Y (fD (B.add (n:=(((a+i):Nat):Int)) (tv (tN a) Y) (tv (tN i) Y) (by (rw [Qt (by omega)];omega))) Y Y ?_)))))
  obtain ⟨x2,hx2⟩:∃x,(swR l a b i)[(a+i)]? =some x:=⟨_,List.getElem?_eq_getElem (by omega)⟩
  refine fD (B.indexAddrO (i:=(a+i)) (tv (T.os 4 0 0 (((swR l a b i).map (Qa true)).length)) Y) (tv (tN (a+i)) Y) Y (by (simp only [List.length_map];omega)) Yb Qz Zo) Y Y (lD (OL.loadPn (us:=(Qa false x2)) (row:=(Qa true x2)) (tv (T.orp 4 0 (a+i) 0) Y) Y (Qr _ hx2) ZX Qz (lb Y) Y (bc Y (bc Y (bc Y (bc Y bn))))) Y Y (fD (B.indexAddrO (i:=(a+i)) (tv (T.os 4 0 0 (((swR l a b i).map (Qa true)).length)) Y) (tv (tN (a+i)) Y) Y (by (simp only [List.length_map];omega)) Yb Qz Zo) Y Y (VRunD.chain (bi:= [0,3,2,1,8,9,10,11,12,13,19,14,17,16,15,18,20]) Y VWant.always Y Y Y (by kernel_rfl) (B.storeP (us:=(Qa false x1)) (rows':=(((swR l a b i).set (a+i) x1).map (Qa true))) (row:=(Qa true x2)) (tv (T.orp 4 0 (a+i) 0) Y) (tv (T.agg (Qa false x1)) Y) nofun Y (Qr _ hx2) Y (lb Y) Zo Qz (bc Y (bc Y (bc Y (bc Y bn)))) (by intro r hr t ht;obtain ⟨x,_,rfl⟩:=List.mem_map.1 hr;rw [Yy] at ht;exact QT (okeEntry.pl _ t ht)) (QZ Y)) ?_)))
  obtain ⟨x3,hx3⟩:∃x,((swR l a b i).set (a+i) x1)[(b+i)]? =some x:=⟨_,List.getElem?_eq_getElem (by (simp only [List.length_map,List.length_append,List.length_cons,List.length_nil,List.length_replicate,List.length_set,List.length_drop,List.length_take,Y2] at *;omega))⟩
  refine fD (B.indexAddrO (i:=(b+i)) (tv (T.os 4 0 0 (((swR l a b i).map (Qa true)).length)) Y) (tv (tN (b+i)) Y) Y (by (simp only [List.length_map];omega)) Yb Qz Zo) Y Y (VRunD.chain (bi:= [4,7,6,5,0,1,2,3,8,9,10,11,12,13,14,15,16,17,18,19,20,21,22]) Y VWant.always Y Y Y (by kernel_rfl) (B.storeP (us:=(Qa false x2)) (rows':=((((swR l a b i).set (a+i) x1).set (b+i) x2).map (Qa true))) (row:=(Qa true x3)) (tv (T.orp 4 0 (b+i) 0) Y) (tv (T.agg (Qa false x2)) Y) nofun Y (Qr _ hx3) Y (lb Y) Zo Qz (bc Y (bc Y (bc Y (bc Y bn)))) (by intro r hr t ht;obtain ⟨x,_,rfl⟩:=List.mem_map.1 hr;rw [Yy] at ht;exact QT (okeEntry.pl _ t ht)) (QZ Y)) (VRunD.nil (vinB.n (tn (VRun.region (mO (tN i) Y (fO (Qx (tv (tN i) Y) (VEv.int .i64 1) (by omega)) (aO (tN (i+1)) Y (VRunO.nil (tn ?_))))))))))
  have he2:(((swR l a b i).set (a+i) x1).set (b+i) x2)=swR l a b (i+1):=by exact (Qe3 hx2 hx1).symm
  refine ⟨(i+1:Nat),?_,?_,Wk.mk (fun k=>k) ?_ ?_ ?_⟩
  ·trivial
  ·omega
  ·exact (bc ⟨(congrArg (fun n_=>T.os 4 0 0 n_) (show ((swR l a b i).map (Qa true)).length=((swR l a b (i+1)).map (Qa true)).length from (by (simp only [List.length_map];omega)))),rfl⟩ (b2 (b2 (b2 (b2 bn)))))
  ·exact (bc ⟨(congrArg (fun l_=>some (Obj.rows 4 (List.map (Qa true) l_))) he2),(lb Y),rfl⟩ bn)
  ·exact nd Y
 refine VRun.exit (vthn.e (vthn.e (vinB.e ?_)))
 have hnew:swR l a b i=swR l a b c:=by
  rw [show c=i by omega]
 exact vloan.n 0 VRes.nil Y (congrArg (fun n_=>T.os 4 0 0 n_) (show ((swR l a b i).map (Qa true)).length=(l.map (Qa true)).length from (by (simp only [List.length_map];omega)))) Y (congrArg (List.map (Qa true)) hnew)
theorem Z7 (n:Nat) (l:List D.Entry) (a:Nat) (m:Nat) (b:Nat) (x:D.Issue) (hl:l.length≤mx) (ham:a<m) (hmb:m<b) (hb:b≤l.length):Loan (Qs Tryz.prog (n+2)) 94 4 (List.map (Qa true) l) [(T.os 4 0 0 ((l.map (Qa true)).length)),(tN a),(tN m),(tN b),(T.fn 45 [(T.rp (Qe false x))])] (T.tup []) (List.map (Qa true) (rot l a m b)):=by
 refine Loan.intro (rs:= []) (j:=0) (pin:=(T.os 4 0 0 ((l.map (Qa true)).length))) Tryz.func94 Y Y Y (by kernel_rfl) Y (.os _ _) .none (QL (fun _=>rfl) _) (QL (fun _=>rfl) _) (E0:= [(0,(T.os 4 0 0 ((l.map (Qa true)).length))),(1,(tN a)),(2,(tN m)),(3,(tN b)),(4,(T.fn 45 [(T.rp (Qe false x))]))]) Y ?_
 obtain ⟨hlim,hmx,hmax⟩:=QA
 refine sr (mO (tN m) Y (mO (tN a) Y (fO (B.sub (n:=((m - a:Nat):Int)) (tv (tN m) Y) (tv (tN a) Y) (by (rw [Qt (by omega)];omega))) (aO (tN (m - a)) Y (nt (sr (mO (tN b) Y (mO (tN m) Y (fO (B.sub (n:=((b - m:Nat):Int)) (tv (tN b) Y) (tv (tN m) Y) (by (rw [Qt (by omega)];omega))) (aO (tN (b - m)) Y (nt ?_)))))))))))
 refine sq (VRun.block ?_)
 refine VRun.loop (A:=(List D.Entry)×Nat×Nat) (fun s_=> [(0,(T.os 4 0 0 ((s_.1.map (Qa true)).length))),(2,(tN m)),(4,(T.fn 45 [(T.rp (Qe false x))])),(10,(tN s_.2.1)),(11,(tN s_.2.2))]) (fun s_=>QV [(0,(Obj.rows 4 (s_.1.map (Qa true))))]) 1 (fun s_=>RotI l a m b s_.1 s_.2.1 s_.2.2) (fun s_=>s_.2.1+s_.2.2) ((l,m - a,b - m):(List D.Entry)×Nat×Nat) ?_ (Wk.mk (fun k=>k) ?_ ?_ ?_) ?_
 ·exact RotI.start ham hmb hb
 ·exact (b2 (b2 (b2 (b2 (b2 bn)))))
 ·exact (b3 bn)
 ·exact nd Y
 rintro ⟨s,i,j⟩ (hI':RotI l a m b s i j)
 show VRun _ _ _ [(0,(T.os 4 0 0 ((s.map (Qa true)).length))),(2,(tN m)),(4,(T.fn 45 [(T.rp (Qe false x))])),(10,(tN i)),(11,(tN j))] (QV [(0,(Obj.rows 4 (s.map (Qa true))))]) 1 _
 have hI0:=hI'
 have hI1:=hI'.1
 have hw1:=JF s (m - i) m j
 have hw2:=JF s (m - i) (m+j - i) i
 have hw3:=JF s (m - i) m i
 refine sq (sr (mO (tN i) Y (mO (tN j) Y (fO (QeX (tv (tN i) Y) (tv (tN j) Y)) (nt ?_)))))
 refine cn (i=j) Y (fun fhc0=> ?_) fun fhc0=> ?_
 ·refine sk ?_
  refine tn (VRun.block (sr (mO (tN i) Y (mO (tN j) Y (fO (Qkc (tv (tN i) Y) (tv (tN j) Y)) (nt ?_))))))
  refine cd (j<i) Y (fun fhc1=> ?_) fun fhc1=> ?_
  ·refine sr ?_
   refine mO (T.os 4 0 0 ((s.map (Qa true)).length)) Y (mO (tN m) Y (mO (tN i) Y (fO (B.sub (n:=((m - i:Nat):Int)) (tv (tN m) Y) (tv (tN i) Y) (by (rw [Qt (by omega)];omega))) (mO (tN m) Y (mO (tN j) Y (mO (T.fn 45 [(T.rp (Qe false x))]) Y (cO (OC.callLoan (ts:= [(T.os 4 0 0 ((s.map (Qa true)).length)),(tN (m - i)),(tN m),(tN j),(T.fn 45 [(T.rp (Qe false x))])]) (k:=0) (r:=(T.tup [])) (rows:=(s.map (Qa true))) (rows':=((swR s (m - i) m j).map (Qa true))) Y (vc (tv (T.os 4 0 0 ((s.map (Qa true)).length)) Y) (vc (tv (tN (m - i)) Y) (vc (tv (tN m) Y) (vc (tv (tN j) Y) (vc (tv (T.fn 45 [(T.rp (Qe false x))]) Y) vn))))) Y Y Y LRes.none Y (QL (fun _=>rfl) _) (QL (fun _=>rfl) _) (QP (n+0) s (m - i) m j x (by omega) (by omega) (by omega))) (nt (VRun.region (mO (tN i) Y (mO (tN j) Y ?_)))))))))))
   refine fO (B.sub (n:=((i - j:Nat):Int)) (tv (tN i) Y) (tv (tN j) Y) (by (rw [Qt (by omega)];omega))) (aO (tN (i - j)) Y (VRunO.nil (vinB.n (tn ?_))))
   refine ⟨(((swR s (m - i) m j),(i - j),(j)):(List D.Entry)×Nat×Nat),?_,?_,Wk.mk (fun k=>k) ?_ ?_ ?_⟩
   ·(refine hI0.gt ?_;omega)
   ·(simp only [];omega)
   ·exact (bc ⟨(congrArg (fun n_=>T.os 4 0 0 n_) (show (s.map (Qa true)).length=((swR s (m - i) m j).map (Qa true)).length from (by (simp only [List.length_map,List.length_set,List.length_append,List.length_take,List.length_replicate,List.length_cons,List.length_nil];omega)))),rfl⟩ (b2 (b2 (b2 (bc ⟨(congrArg (T.int .i64) (show ((j:Nat):Int)=(((j):Nat):Int) from (by rfl))),rfl⟩ bn)))))
   ·exact (b3 bn)
   ·exact nd Y
  refine sr (mO (T.os 4 0 0 ((s.map (Qa true)).length)) Y (mO (tN m) Y (mO (tN i) Y (fO (B.sub (n:=((m - i:Nat):Int)) (tv (tN m) Y) (tv (tN i) Y) (by (rw [Qt (by omega)];omega))) (mO (tN m) Y (mO (tN j) Y (fO (B.add (n:=(((m+j):Nat):Int)) (tv (tN m) Y) (tv (tN j) Y) (by (rw [Qt (by omega)];omega))) (mO (tN i) Y (fO (B.sub (n:=((m+j - i:Nat):Int)) (tv (tN (m+j)) Y) (tv (tN i) Y) (by (rw [Qt (by omega)];omega))) (mO (tN i) Y (mO (T.fn 45 [(T.rp (Qe false x))]) Y ?_)))))))))))
  refine cO (OC.callLoan (ts:= [(T.os 4 0 0 ((s.map (Qa true)).length)),(tN (m - i)),(tN (m+j - i)),(tN i),(T.fn 45 [(T.rp (Qe false x))])]) (k:=0) (r:=(T.tup [])) (rows:=(s.map (Qa true))) (rows':=((swR s (m - i) (m+j - i) i).map (Qa true))) Y (vc (tv (T.os 4 0 0 ((s.map (Qa true)).length)) Y) (vc (tv (tN (m - i)) Y) (vc (tv (tN (m+j - i)) Y) (vc (tv (tN i) Y) (vc (tv (T.fn 45 [(T.rp (Qe false x))]) Y) vn))))) Y Y Y LRes.none Y (QL (fun _=>rfl) _) (QL (fun _=>rfl) _) (QP (n+0) s (m - i) (m+j - i) i x (by omega) (by omega) (by omega))) (nt (VRun.region (mO (tN j) Y (mO (tN i) Y (fO (B.sub (n:=((j - i:Nat):Int)) (tv (tN j) Y) (tv (tN i) Y) (by (rw [Qt (by omega)];omega))) (aO (tN (j - i)) Y (VRunO.nil (vinB.n (tn ?_)))))))))
  refine ⟨(((swR s (m - i) (m+j - i) i),(i),(j - i)):(List D.Entry)×Nat×Nat),?_,?_,Wk.mk (fun k=>k) ?_ ?_ ?_⟩
  ·(refine hI0.lt ?_;omega)
  ·(simp only [];omega)
  ·exact (bc ⟨(congrArg (fun n_=>T.os 4 0 0 n_) (show (s.map (Qa true)).length=((swR s (m - i) (m+j - i) i).map (Qa true)).length from (by (simp only [List.length_map,List.length_set,List.length_append,List.length_take,List.length_replicate,List.length_cons,List.length_nil];omega)))),rfl⟩ (b2 (b2 (bc ⟨(congrArg (T.int .i64) (show ((i:Nat):Int)=(((i):Nat):Int) from (by rfl))),rfl⟩ (b2 bn)))))
  ·exact (b3 bn)
  ·exact nd Y
 refine VRun.exit (vthn.e (vthn.e (vinB.e (tn (VRun.region (mO (T.os 4 0 0 ((s.map (Qa true)).length)) Y (mO (tN m) Y (mO (tN i) Y (fO (B.sub (n:=((m - i:Nat):Int)) (tv (tN m) Y) (tv (tN i) Y) (by (rw [Qt (by omega)];omega))) (mO (tN m) Y (mO (tN i) Y ?_)))))))))))
 refine mO (T.fn 45 [(T.rp (Qe false x))]) Y (cO (OC.callLoan (ts:= [(T.os 4 0 0 ((s.map (Qa true)).length)),(tN (m - i)),(tN m),(tN i),(T.fn 45 [(T.rp (Qe false x))])]) (k:=0) (r:=(T.tup [])) (rows:=(s.map (Qa true))) (rows':=((swR s (m - i) m i).map (Qa true))) Y (vc (tv (T.os 4 0 0 ((s.map (Qa true)).length)) Y) (vc (tv (tN (m - i)) Y) (vc (tv (tN m) Y) (vc (tv (tN i) Y) (vc (tv (T.fn 45 [(T.rp (Qe false x))]) Y) vn))))) Y Y Y LRes.none Y (QL (fun _=>rfl) _) (QL (fun _=>rfl) _) (QP (n+0) s (m - i) m i x (by omega) (by omega) (by omega))) (VRunO.nil ?_))
 have hnew:swR s (m - i) m i=rot l a m b:=by
  exact hI0.done (by omega)
 exact vloan.n 0 VRes.nil Y (congrArg (fun n_=>T.os 4 0 0 n_) (show (s.map (Qa true)).length=(l.map (Qa true)).length from (by (simp only [List.length_map];omega)))) Y (congrArg (List.map (Qa true)) hnew)
theorem Zl (n:Nat):∀(d:Nat) (l:List D.Entry) (a:Nat) (m:Nat) (b:Nat) (x:D.Issue) (hl:zAll mx l) (hz:Q3 x≤mx) (ht:Tot (aR x) l) (ham:a<m) (hmb:m<b) (hb:b≤l.length) (hs1:SrtI (aR x) l a m) (hs2:SrtI (aR x) l m b) (hu:b - a≤2 ^ d),Loan (Qs Tryz.prog (n+d+48)) 77 4 (List.map (Qa true) l) [(T.os 4 0 0 ((l.map (Qa true)).length)),(tN a),(tN m),(tN b),(T.fn 45 [(T.rp (Qe false x))])] (T.tup []) (List.map (Qa true) (Zx (aR x) l a b)):=by
 intro d
 induction d with
 | zero=>intro l a m b x hl hz ht ham hmb hb hs1 hs2 hu;have h2:2 ^ 0=1:=rfl;omega
 | succ d ih =>
 intro l a m b x hl hz ht ham hmb hb hs1 hs2 hu
 refine Loan.intro (n:=n+d+48) (rs:= []) (j:=0) (pin:=(T.os 4 0 0 ((l.map (Qa true)).length))) Tryz.func77 Y Y Y (by kernel_rfl) Y (.os _ _) .none (QL (fun _=>rfl) _) (QL (fun _=>rfl) _) (E0:= [(0,(T.os 4 0 0 ((l.map (Qa true)).length))),(1,(tN a)),(2,(tN m)),(3,(tN b)),(4,(T.fn 45 [(T.rp (Qe false x))]))]) Y ?_
 obtain ⟨hlim,hmx,hmax⟩:=QA
 have hl1:=hl.1
 have hp:2 ^ (d+1)=2 ^ d*2:=Nat.pow_succ ..
 have hs0:=QdH ham hmb
 refine sq (sr (mO (tN m) Y (mO (tN a) Y (fO (B.sub (n:=((m - a:Nat):Int)) (tv (tN m) Y) (tv (tN a) Y) (by (rw [Qt (by omega)];omega))) (fO (B.eql (c:=(decide (m - a=1))) (tv (tN (m - a)) Y) (VEv.int .i64 1) (by exact Q8 (by omega))) (nt ?_))))))
 refine cd (m - a=1) Y (fun fhc0=> ?_) fun fhc0=> ?_
 ·have hma:m=a+1:=by omega
  have hs3:SrtI (aR x) l (a+1) b:=by rw [← hma];exact hs2
  refine sr (mO (tN m) Y (aO (tN m) Y (nt (sr (mO (tN b) Y (aO (tN b) Y (nt (sq (VRun.block ?_)))))))))
  refine VRun.loop (A:=Nat×Nat) (fun s_=> [(0,(T.os 4 0 0 ((l.map (Qa true)).length))),(1,(tN a)),(2,(tN m)),(3,(tN b)),(4,(T.fn 45 [(T.rp (Qe false x))])),(10,(tN s_.1)),(11,(tN s_.2))]) (fun s_=>QV [(0,(Obj.rows 4 (l.map (Qa true))))]) 1 (fun s_=>SrA (aR x) l a b s_.1 s_.2) (fun s_=>s_.2 - s_.1) ((m,b):Nat×Nat) ?_ (Wk.mk (fun k=>k) ?_ ?_ ?_) ?_
  ·have h9:=SrA.start (R:=aR x) (l:=l) (a:=a) (b:=b) (by omega);rw [← hma] at h9;exact h9
  ·exact (b2 (b2 (b2 (b2 (b2 (b2 (b2 bn)))))))
  ·exact (b3 bn)
  ·exact nd Y
  rintro ⟨i,j⟩ (hI':SrA (aR x) l a b i j)
  show VRun _ _ _ [(0,(T.os 4 0 0 ((l.map (Qa true)).length))),(1,(tN a)),(2,(tN m)),(3,(tN b)),(4,(T.fn 45 [(T.rp (Qe false x))])),(10,(tN i)),(11,(tN j))] (QV [(0,(Obj.rows 4 (l.map (Qa true))))]) 1 _
  have hA:=hI'
  have hA1:=hI'.1
  refine sq (sr (mO (tN i) Y (mO (tN j) Y (fO (Q5 (tv (tN i) Y) (tv (tN j) Y)) (nt ?_)))))
  refine cd (i<j) Y (fun fhc1=> ?_) fun fhc1=> ?_
  ·refine sk ?_
   refine tn (VRun.block (sr (mO (tN i) Y (mO (tN j) Y (fO (B.add (n:=(((i+j):Nat):Int)) (tv (tN i) Y) (tv (tN j) Y) (by (rw [Qt (by omega)];omega))) (fO (xcv (m:=((i+j:Nat):Int)) (tv (tN (i+j)) Y) U3 Qiv (QjL (by omega))) (fO (B.shr (n:=(((i+j) / 2:Nat):Int)) (tv (T.int .u64 ((i+j:Nat):Int)) Y) (VEv.int .u64 1) (by decide) Qdl) (fO (xcv (m:=(((i+j) / 2:Nat):Int)) (tv (T.int .u64 (((i+j) / 2:Nat):Int)) Y) Qiv U3 (Qt (by omega))) (aO (tN ((i+j) / 2)) Y (nt (sq ?_)))))))))))
   refine VRun.draw (B:= [[],[],[],[2,1],[1,2,3],[],[],[6,5],[5,6,7],[7,6,5,8,3,2,1,4,0],[0,4,1,2,3,8,5,6,7,9]]) (by kernel_rfl) (by kernel_rfl) Y (mD (T.fn 45 [(T.rp (Qe false x))]) Y Y (mD (T.os 4 0 0 ((l.map (Qa true)).length)) Y Y (mD (tN ((i+j) / 2)) Y Y ?_)))
   obtain ⟨x1,hx1⟩:∃x,l[(i+j) / 2]? =some x:=⟨_,List.getElem?_eq_getElem (by omega)⟩
   refine fD (B.indexAddrO (i:=(i+j) / 2) (tv (T.os 4 0 0 ((l.map (Qa true)).length)) Y) (tv (tN ((i+j) / 2)) Y) Y (by (simp only [List.length_map];omega)) Yb Qz Zo) Y Y (lD (OL.loadPn (us:=(Qa false x1)) (row:=(Qa true x1)) (tv (T.orp 4 0 ((i+j) / 2) 0) Y) Y (Qr _ hx1) ZX Qz (lb Y) Y (bc Y (bc Y (bc Y (bc Y bn))))) Y Y (mD (T.os 4 0 0 ((l.map (Qa true)).length)) Y Y (mD (tN a) Y Y ?_)))
   obtain ⟨x2,hx2⟩:∃x,l[a]? =some x:=⟨_,List.getElem?_eq_getElem (by omega)⟩
   refine fD (B.indexAddrO (i:=a) (tv (T.os 4 0 0 ((l.map (Qa true)).length)) Y) (tv (tN a) Y) Y (by (simp only [List.length_map];omega)) Yb Qz Zo) Y Y (lD (OL.loadPn (us:=(Qa false x2)) (row:=(Qa true x2)) (tv (T.orp 4 0 a 0) Y) Y (Qr _ hx2) ZX Qz (lb Y) Y (bc Y (bc Y (bc Y (bc Y bn))))) Y Y (VRunD.quiet (bi:= [7,6,5,8,3,2,1,4,0]) Y VWant.always Y Y Y bn (OC.callv (us:= [(T.agg (Qa false x1)),(T.agg (Qa false x2))]) (ucaps:= [(T.rp (Qe false x))]) (r:=(tI (JU x1 x2 x))) (r':=(tI (JU x1 x2 x))) (objs:= []) Y Y (vc (tv (T.agg (Qa false x1)) Y) (vc (tv (T.agg (Qa false x2)) Y) vn)) (LendL.cons (lg okeEntry) (LendL.cons (lg okeEntry) ln)) (Z8 Y) (YB (n+d+0) x1 x2 x (by exact hl.at (by assumption)) (by exact hl.at (by assumption)) (by assumption)) Y) (fD (xls (tv (tI (JU x1 x2 x)) Y) (VEv.int .i64 0)) Y Y (VRunD.nil (tn ?_)))))
   refine cd (JU x1 x2 x<0) Y (fun fhc2=> ?_) fun fhc2=> ?_
   ·refine VRun.region ?_
    refine mO (tN ((i+j) / 2)) Y (fO (Qx (tv (tN ((i+j) / 2)) Y) (VEv.int .i64 1) (by omega)) (aO (tN ((i+j) / 2+1)) Y (VRunO.nil (vinB.n (tn ?_)))))
    refine ⟨(((((i+j) / 2+1)),(j)):Nat×Nat),?_,?_,Wk.mk (fun k=>k) ?_ ?_ ?_⟩
    ·(refine hA.yes (ZC x) hs3 ?_ hb hx1 hx2 (cmpE_lt.1 fhc2);omega)
    ·omega
    ·exact (b2 (b2 (b2 (b2 (b2 (bc ⟨(congrArg (T.int .i64) (show ((((i+j) / 2+1):Nat):Int)=(((((i+j) / 2+1)):Nat):Int) from (by rfl))),rfl⟩ (bc ⟨(congrArg (T.int .i64) (show ((j:Nat):Int)=(((j):Nat):Int) from (by rfl))),rfl⟩ bn)))))))
    ·exact (b3 bn)
    ·exact nd Y
   refine VRun.region (mO (tN ((i+j) / 2)) Y (aO (tN ((i+j) / 2)) Y (VRunO.nil (vinB.n (tn ?_)))))
   refine ⟨(((i),((i+j) / 2)):Nat×Nat),?_,?_,Wk.mk (fun k=>k) ?_ ?_ ?_⟩
   ·(refine hA.no (ZC x) hs3 ht ?_ hb hx1 hx2 (fun h=>fhc2 (cmpE_lt.2 h));omega)
   ·omega
   ·exact (b2 (b2 (b2 (b2 (b2 (bc ⟨(congrArg (T.int .i64) (show ((i:Nat):Int)=(((i):Nat):Int) from (by rfl))),rfl⟩ (b2 bn)))))))
   ·exact (b3 bn)
   ·exact nd Y
  refine VRun.exit (vthn.e (vthn.e (vinB.e (tn (sq (sr (mO (tN a) Y (aO (tN a) Y (nt (VRun.block ?_))))))))))
  refine VRun.loop (A:=Nat×(List D.Entry)) (fun s_=> [(0,(T.os 4 0 0 ((s_.2.map (Qa true)).length))),(1,(tN a)),(2,(tN m)),(3,(tN b)),(4,(T.fn 45 [(T.rp (Qe false x))])),(10,(tN i)),(13,(tN s_.1))]) (fun s_=>QV [(0,(Obj.rows 4 (s_.2.map (Qa true))))]) 1 (fun s_=>(a≤s_.1∧s_.1<i)∧MvU l a s_.1 s_.2) (fun s_=>i - s_.1) ((a,l):Nat×(List D.Entry)) ?_ (Wk.mk (fun k=>k) ?_ ?_ ?_) ?_
  ·exact ⟨by omega,MvU.start l a⟩
  ·exact (b2 (b2 (b2 (b2 (b2 (b2 (b2 bn)))))))
  ·exact (b3 bn)
  ·exact nd Y
  rintro ⟨k,u⟩ (hI':(a≤k∧k<i)∧MvU l a k u)
  show VRun _ _ _ [(0,(T.os 4 0 0 ((u.map (Qa true)).length))),(1,(tN a)),(2,(tN m)),(3,(tN b)),(4,(T.fn 45 [(T.rp (Qe false x))])),(10,(tN i)),(13,(tN k))] (QV [(0,(Obj.rows 4 (u.map (Qa true))))]) 1 _
  have hI1:=hI'.1
  have hul:=hI'.2.1
  have hsw:=Jd u k (k+1)
  refine sq (sr (mO (tN k) Y (mO (tN i) Y (fO (B.sub (n:=((i - 1:Nat):Int)) (tv (tN i) Y) (VEv.int .i64 1) (by (rw [Qt (by omega)];omega))) (fO (Q5 (tv (tN k) Y) (tv (tN (i - 1)) Y)) (nt ?_))))))
  refine cd (k<i - 1) Y (fun fhc3=> ?_) fun fhc3=> ?_
  ·refine sk ?_
   refine tn (sq (VRun.block (VRun.draw (B:= [[],[],[],[],[3],[],[],[6],[6,7,5],[5,7,6,8],[],[],[11,10],[10,11,12],[12,11,10,13,9,8,7,6,5,1,0],[0,1,5,6,7,8,9,13,10,11,12,14],[15,14,13,12,11,10,9,8,7,6,5,1,0,3,4,2],[2,4,3,0,1,5,6,7,8,9,10,11,12,13,14,15,16]]) (by kernel_rfl) (by kernel_rfl) Y (mD (T.os 4 0 0 ((u.map (Qa true)).length)) Y Y (mD (tN k) Y Y (mD (T.os 4 0 0 ((u.map (Qa true)).length)) Y Y (mD (tN k) Y Y (fD (Qx (tv (tN k) Y) (VEv.int .i64 1) (by omega)) Y Y (mD (T.os 4 0 0 ((u.map (Qa true)).length)) Y Y (mD (tN k) Y Y (fD (Qx (tv (tN k) Y) (VEv.int .i64 1) (by omega)) Y Y ?_)))))))))))
   obtain ⟨x1,hx1⟩:∃x,u[(k+1)]? =some x:=⟨_,List.getElem?_eq_getElem (by omega)⟩
   refine fD (B.indexAddrO (i:=(k+1)) (tv (T.os 4 0 0 ((u.map (Qa true)).length)) Y) (tv (tN (k+1)) Y) Y (by (simp only [List.length_map];omega)) Yb Qz Zo) Y Y (lD (OL.loadPn (us:=(Qa false x1)) (row:=(Qa true x1)) (tv (T.orp 4 0 (k+1) 0) Y) Y (Qr _ hx1) ZX Qz (lb Y) Y (bc Y (bc Y (bc Y (bc Y bn))))) Y Y (mD (T.os 4 0 0 ((u.map (Qa true)).length)) Y Y (mD (tN k) Y Y ?_)))
   obtain ⟨x2,hx2⟩:∃x,u[k]? =some x:=⟨_,List.getElem?_eq_getElem (by omega)⟩
   refine fD (B.indexAddrO (i:=k) (tv (T.os 4 0 0 ((u.map (Qa true)).length)) Y) (tv (tN k) Y) Y (by (simp only [List.length_map];omega)) Yb Qz Zo) Y Y (lD (OL.loadPn (us:=(Qa false x2)) (row:=(Qa true x2)) (tv (T.orp 4 0 k 0) Y) Y (Qr _ hx2) ZX Qz (lb Y) Y (bc Y (bc Y (bc Y (bc Y bn))))) Y Y (fD (B.indexAddrO (i:=k) (tv (T.os 4 0 0 ((u.map (Qa true)).length)) Y) (tv (tN k) Y) Y (by (simp only [List.length_map];omega)) Yb Qz Zo) Y Y (VRunD.chain (bi:= [0,1,5,6,7,8,9,13,10,11,12,14]) Y VWant.always Y Y Y (by kernel_rfl) (B.storeP (us:=(Qa false x1)) (rows':=((u.set k x1).map (Qa true))) (row:=(Qa true x2)) (tv (T.orp 4 0 k 0) Y) (tv (T.agg (Qa false x1)) Y) nofun Y (Qr _ hx2) Y (lb Y) Zo Qz (bc Y (bc Y (bc Y (bc Y bn)))) (by intro r hr t ht;obtain ⟨x,_,rfl⟩:=List.mem_map.1 hr;rw [Yy] at ht;exact QT (okeEntry.pl _ t ht)) (QZ Y)) ?_)))
   obtain ⟨x3,hx3⟩:∃x,(u.set k x1)[(k+1)]? =some x:=⟨_,List.getElem?_eq_getElem (by (simp only [List.length_map,List.length_append,List.length_cons,List.length_nil,List.length_replicate,List.length_set,List.length_drop,List.length_take,Y2] at *;omega))⟩
   refine fD (B.indexAddrO (i:=(k+1)) (tv (T.os 4 0 0 ((u.map (Qa true)).length)) Y) (tv (tN (k+1)) Y) Y (by (simp only [List.length_map];omega)) Yb Qz Zo) Y Y (VRunD.chain (bi:= [2,4,3,0,1,5,6,7,8,9,10,11,12,13,14,15,16]) Y VWant.always Y Y Y (by kernel_rfl) (B.storeP (us:=(Qa false x2)) (rows':=(((u.set k x1).set (k+1) x2).map (Qa true))) (row:=(Qa true x3)) (tv (T.orp 4 0 (k+1) 0) Y) (tv (T.agg (Qa false x2)) Y) nofun Y (Qr _ hx3) Y (lb Y) Zo Qz (bc Y (bc Y (bc Y (bc Y bn)))) (by intro r hr t ht;obtain ⟨x,_,rfl⟩:=List.mem_map.1 hr;rw [Yy] at ht;exact QT (okeEntry.pl _ t ht)) (QZ Y)) (VRunD.nil (vinB.n (tn (VRun.region (mO (tN k) Y (fO (Qx (tv (tN k) Y) (VEv.int .i64 1) (by omega)) (aO (tN (k+1)) Y (VRunO.nil (tn ?_))))))))))
   have he1:((u.set k x1).set (k+1) x2)=(swp u k (k+1)):=by exact (Qe3 hx2 hx1).symm
   refine ⟨((k+1,swp u k (k+1)):Nat×(List D.Entry)),?_,?_,Wk.mk (fun k=>k) ?_ ?_ ?_⟩
   ·exact ⟨by omega,hI'.2.next (by omega) (by omega)⟩
   ·omega
   ·exact (bc ⟨(congrArg (fun n_=>T.os 4 0 0 n_) (show (u.map (Qa true)).length=((swp u k (k+1)).map (Qa true)).length from (by (simp only [List.length_map];omega)))),rfl⟩ (b2 (b2 (b2 (b2 (b2 (b2 bn)))))))
   ·exact (bc ⟨(congrArg (fun l_=>some (Obj.rows 4 (List.map (Qa true) l_))) he1),(lb Y),rfl⟩ bn)
   ·exact nd Y
  refine VRun.exit (vthn.e (vthn.e (vinB.e (tn (rt (tr ?_))))))
  have hnew:u=Zx (aR x) l a b:=by
   exact hA.done (ZC x) fhc1 hs3 hb hI'.2 hI'.1 fhc3
  exact vloan.r 0 VRes.nil Y (congrArg (fun n_=>T.os 4 0 0 n_) (show (u.map (Qa true)).length=(l.map (Qa true)).length from (by (simp only [List.length_map,Yr,Jd];omega)))) Y (congrArg (List.map (Qa true)) hnew)
 refine sk (tn (sq (sr (mO (tN b) Y (mO (tN m) Y (fO (B.sub (n:=((b - m:Nat):Int)) (tv (tN b) Y) (tv (tN m) Y) (by (rw [Qt (by omega)];omega))) (fO (B.eql (c:=(decide (b - m=1))) (tv (tN (b - m)) Y) (VEv.int .i64 1) (by exact Q8 (by omega))) (nt ?_))))))))
 refine cd (b - m=1) Y (fun fhc4=> ?_) fun fhc4=> ?_
 ·have hbm:b=m+1:=by omega
  refine sr (mO (tN a) Y (aO (tN a) Y (nt (sr (mO (tN m) Y (aO (tN m) Y (nt (sq (VRun.block ?_)))))))))
  refine VRun.loop (A:=Nat×Nat) (fun s_=> [(0,(T.os 4 0 0 ((l.map (Qa true)).length))),(1,(tN a)),(2,(tN m)),(3,(tN b)),(4,(T.fn 45 [(T.rp (Qe false x))])),(14,(tN s_.1)),(15,(tN s_.2))]) (fun s_=>QV [(0,(Obj.rows 4 (l.map (Qa true))))]) 1 (fun s_=>SrB (aR x) l a m s_.1 s_.2) (fun s_=>s_.2 - s_.1) ((a,m):Nat×Nat) ?_ (Wk.mk (fun k=>k) ?_ ?_ ?_) ?_
  ·exact SrB.start (by omega)
  ·exact (b2 (b2 (b2 (b2 (b2 (b2 (b2 bn)))))))
  ·exact (b3 bn)
  ·exact nd Y
  rintro ⟨i,j⟩ (hI':SrB (aR x) l a m i j)
  show VRun _ _ _ [(0,(T.os 4 0 0 ((l.map (Qa true)).length))),(1,(tN a)),(2,(tN m)),(3,(tN b)),(4,(T.fn 45 [(T.rp (Qe false x))])),(14,(tN i)),(15,(tN j))] (QV [(0,(Obj.rows 4 (l.map (Qa true))))]) 1 _
  have hB:=hI'
  have hB1:=hI'.1
  refine sq (sr (mO (tN i) Y (mO (tN j) Y (fO (Q5 (tv (tN i) Y) (tv (tN j) Y)) (nt ?_)))))
  refine cd (i<j) Y (fun fhc5=> ?_) fun fhc5=> ?_
  ·refine sk ?_
   refine tn (VRun.block (sr (mO (tN i) Y (mO (tN j) Y (fO (B.add (n:=(((i+j):Nat):Int)) (tv (tN i) Y) (tv (tN j) Y) (by (rw [Qt (by omega)];omega))) (fO (xcv (m:=((i+j:Nat):Int)) (tv (tN (i+j)) Y) U3 Qiv (QjL (by omega))) (fO (B.shr (n:=(((i+j) / 2:Nat):Int)) (tv (T.int .u64 ((i+j:Nat):Int)) Y) (VEv.int .u64 1) (by decide) Qdl) (fO (xcv (m:=(((i+j) / 2:Nat):Int)) (tv (T.int .u64 (((i+j) / 2:Nat):Int)) Y) Qiv U3 (Qt (by omega))) (aO (tN ((i+j) / 2)) Y (nt (sq ?_)))))))))))
   refine VRun.draw (B:= [[],[],[],[2,1],[1,2,3],[],[],[6,5],[5,6,7],[7,6,5,8,3,2,1,4,0],[0,4,1,2,3,8,5,6,7,9],[9,7,6,5,8,3,2,1,4,0,10]]) (by kernel_rfl) (by kernel_rfl) Y (mD (T.fn 45 [(T.rp (Qe false x))]) Y Y (mD (T.os 4 0 0 ((l.map (Qa true)).length)) Y Y (mD (tN m) Y Y ?_)))
   obtain ⟨x1,hx1⟩:∃x,l[m]? =some x:=⟨_,List.getElem?_eq_getElem (by omega)⟩
   refine fD (B.indexAddrO (i:=m) (tv (T.os 4 0 0 ((l.map (Qa true)).length)) Y) (tv (tN m) Y) Y (by (simp only [List.length_map];omega)) Yb Qz Zo) Y Y (lD (OL.loadPn (us:=(Qa false x1)) (row:=(Qa true x1)) (tv (T.orp 4 0 m 0) Y) Y (Qr _ hx1) ZX Qz (lb Y) Y (bc Y (bc Y (bc Y (bc Y bn))))) Y Y (mD (T.os 4 0 0 ((l.map (Qa true)).length)) Y Y (mD (tN ((i+j) / 2)) Y Y ?_)))
   obtain ⟨x2,hx2⟩:∃x,l[(i+j) / 2]? =some x:=⟨_,List.getElem?_eq_getElem (by omega)⟩
   refine fD (B.indexAddrO (i:=(i+j) / 2) (tv (T.os 4 0 0 ((l.map (Qa true)).length)) Y) (tv (tN ((i+j) / 2)) Y) Y (by (simp only [List.length_map];omega)) Yb Qz Zo) Y Y (lD (OL.loadPn (us:=(Qa false x2)) (row:=(Qa true x2)) (tv (T.orp 4 0 ((i+j) / 2) 0) Y) Y (Qr _ hx2) ZX Qz (lb Y) Y (bc Y (bc Y (bc Y (bc Y bn))))) Y Y (VRunD.quiet (bi:= [7,6,5,8,3,2,1,4,0]) Y VWant.always Y Y Y bn (OC.callv (us:= [(T.agg (Qa false x1)),(T.agg (Qa false x2))]) (ucaps:= [(T.rp (Qe false x))]) (r:=(tI (JU x1 x2 x))) (r':=(tI (JU x1 x2 x))) (objs:= []) Y Y (vc (tv (T.agg (Qa false x1)) Y) (vc (tv (T.agg (Qa false x2)) Y) vn)) (LendL.cons (lg okeEntry) (LendL.cons (lg okeEntry) ln)) (Z8 Y) (YB (n+d+0) x1 x2 x (by exact hl.at (by assumption)) (by exact hl.at (by assumption)) (by assumption)) Y) (fD (xls (tv (tI (JU x1 x2 x)) Y) (VEv.int .i64 0)) Y Y (fD (Zd (tv (tB (decide (JU x1 x2 x<0))) Y)) Y Y (VRunD.nil (tn ?_))))))
   refine cn (JU x1 x2 x<0) Y (fun fhc6=> ?_) fun fhc6=> ?_
   ·refine VRun.region ?_
    refine mO (tN ((i+j) / 2)) Y (fO (Qx (tv (tN ((i+j) / 2)) Y) (VEv.int .i64 1) (by omega)) (aO (tN ((i+j) / 2+1)) Y (VRunO.nil (vinB.n (tn ?_)))))
    refine ⟨(((((i+j) / 2+1)),(j)):Nat×Nat),?_,?_,Wk.mk (fun k=>k) ?_ ?_ ?_⟩
    ·(refine hB.no (ZC x) hs1 ht ?_ ?_ hx1 hx2 (fun h=>fhc6 (cmpE_lt.2 h))<;>omega)
    ·omega
    ·exact (b2 (b2 (b2 (b2 (b2 (bc ⟨(congrArg (T.int .i64) (show ((((i+j) / 2+1):Nat):Int)=(((((i+j) / 2+1)):Nat):Int) from (by rfl))),rfl⟩ (bc ⟨(congrArg (T.int .i64) (show ((j:Nat):Int)=(((j):Nat):Int) from (by rfl))),rfl⟩ bn)))))))
    ·exact (b3 bn)
    ·exact nd Y
   refine VRun.region (mO (tN ((i+j) / 2)) Y (aO (tN ((i+j) / 2)) Y (VRunO.nil (vinB.n (tn ?_)))))
   refine ⟨(((i),((i+j) / 2)):Nat×Nat),?_,?_,Wk.mk (fun k=>k) ?_ ?_ ?_⟩
   ·(refine hB.yes (ZC x) hs1 ?_ ?_ hx1 hx2 (cmpE_lt.1 fhc6)<;>omega)
   ·omega
   ·exact (b2 (b2 (b2 (b2 (b2 (bc ⟨(congrArg (T.int .i64) (show ((i:Nat):Int)=(((i):Nat):Int) from (by rfl))),rfl⟩ (b2 bn)))))))
   ·exact (b3 bn)
   ·exact nd Y
  refine VRun.exit (vthn.e (vthn.e (vinB.e (tn (sq (sr (mO (tN m) Y (aO (tN m) Y (nt (VRun.block ?_))))))))))
  refine VRun.loop (A:=Nat×(List D.Entry)) (fun s_=> [(0,(T.os 4 0 0 ((s_.2.map (Qa true)).length))),(1,(tN a)),(2,(tN m)),(3,(tN b)),(4,(T.fn 45 [(T.rp (Qe false x))])),(14,(tN i)),(17,(tN s_.1))]) (fun s_=>QV [(0,(Obj.rows 4 (s_.2.map (Qa true))))]) 1 (fun s_=>(i≤s_.1∧s_.1≤m)∧MvD l m s_.1 s_.2) (fun s_=>s_.1 - i) ((m,l):Nat×(List D.Entry)) ?_ (Wk.mk (fun k=>k) ?_ ?_ ?_) ?_
  ·exact ⟨by omega,MvD.start l m⟩
  ·exact (b2 (b2 (b2 (b2 (b2 (b2 (b2 bn)))))))
  ·exact (b3 bn)
  ·exact nd Y
  rintro ⟨k,u⟩ (hI':(i≤k∧k≤m)∧MvD l m k u)
  show VRun _ _ _ [(0,(T.os 4 0 0 ((u.map (Qa true)).length))),(1,(tN a)),(2,(tN m)),(3,(tN b)),(4,(T.fn 45 [(T.rp (Qe false x))])),(14,(tN i)),(17,(tN k))] (QV [(0,(Obj.rows 4 (u.map (Qa true))))]) 1 _
  have hI1:=hI'.1
  have hul:=hI'.2.1
  have hsw:=Jd u k (k - 1)
  refine sq (sr (mO (tN k) Y (mO (tN i) Y (fO (Qkc (tv (tN k) Y) (tv (tN i) Y)) (nt ?_)))))
  refine cd (i<k) Y (fun fhc7=> ?_) fun fhc7=> ?_
  ·refine sk ?_
   refine tn (sq (VRun.block (VRun.draw (B:= [[],[],[],[],[3],[],[],[6],[6,7,5],[5,7,6,8],[],[],[11,10],[10,11,12],[12,11,10,13,9,8,7,6,5,1,0],[0,1,5,6,7,8,9,13,10,11,12,14],[15,14,13,12,11,10,9,8,7,6,5,1,0,3,4,2],[2,4,3,0,1,5,6,7,8,9,10,11,12,13,14,15,16]]) (by kernel_rfl) (by kernel_rfl) Y (mD (T.os 4 0 0 ((u.map (Qa true)).length)) Y Y (mD (tN k) Y Y (mD (T.os 4 0 0 ((u.map (Qa true)).length)) Y Y (mD (tN k) Y Y (fD (B.sub (n:=((k - 1:Nat):Int)) (tv (tN k) Y) (VEv.int .i64 1) (by (rw [Qt (by omega)];omega))) Y Y (mD (T.os 4 0 0 ((u.map (Qa true)).length)) Y Y (mD (tN k) Y Y (fD (B.sub (n:=((k - 1:Nat):Int)) (tv (tN k) Y) (VEv.int .i64 1) (by (rw [Qt (by omega)];omega))) Y Y ?_)))))))))))
   obtain ⟨x1,hx1⟩:∃x,u[k - 1]? =some x:=⟨_,List.getElem?_eq_getElem (by omega)⟩
   refine fD (B.indexAddrO (i:=k - 1) (tv (T.os 4 0 0 ((u.map (Qa true)).length)) Y) (tv (tN (k - 1)) Y) Y (by (simp only [List.length_map];omega)) Yb Qz Zo) Y Y (lD (OL.loadPn (us:=(Qa false x1)) (row:=(Qa true x1)) (tv (T.orp 4 0 (k - 1) 0) Y) Y (Qr _ hx1) ZX Qz (lb Y) Y (bc Y (bc Y (bc Y (bc Y bn))))) Y Y (mD (T.os 4 0 0 ((u.map (Qa true)).length)) Y Y (mD (tN k) Y Y ?_)))
   obtain ⟨x2,hx2⟩:∃x,u[k]? =some x:=⟨_,List.getElem?_eq_getElem (by omega)⟩
   refine fD (B.indexAddrO (i:=k) (tv (T.os 4 0 0 ((u.map (Qa true)).length)) Y) (tv (tN k) Y) Y (by (simp only [List.length_map];omega)) Yb Qz Zo) Y Y (lD (OL.loadPn (us:=(Qa false x2)) (row:=(Qa true x2)) (tv (T.orp 4 0 k 0) Y) Y (Qr _ hx2) ZX Qz (lb Y) Y (bc Y (bc Y (bc Y (bc Y bn))))) Y Y (fD (B.indexAddrO (i:=k) (tv (T.os 4 0 0 ((u.map (Qa true)).length)) Y) (tv (tN k) Y) Y (by (simp only [List.length_map];omega)) Yb Qz Zo) Y Y (VRunD.chain (bi:= [0,1,5,6,7,8,9,13,10,11,12,14]) Y VWant.always Y Y Y (by kernel_rfl) (B.storeP (us:=(Qa false x1)) (rows':=((u.set k x1).map (Qa true))) (row:=(Qa true x2)) (tv (T.orp 4 0 k 0) Y) (tv (T.agg (Qa false x1)) Y) nofun Y (Qr _ hx2) Y (lb Y) Zo Qz (bc Y (bc Y (bc Y (bc Y bn)))) (by intro r hr t ht;obtain ⟨x,_,rfl⟩:=List.mem_map.1 hr;rw [Yy] at ht;exact QT (okeEntry.pl _ t ht)) (QZ Y)) ?_)))
   obtain ⟨x3,hx3⟩:∃x,(u.set k x1)[k - 1]? =some x:=⟨_,List.getElem?_eq_getElem (by (simp only [List.length_map,List.length_append,List.length_cons,List.length_nil,List.length_replicate,List.length_set,List.length_drop,List.length_take,Y2] at *;omega))⟩
   refine fD (B.indexAddrO (i:=k - 1) (tv (T.os 4 0 0 ((u.map (Qa true)).length)) Y) (tv (tN (k - 1)) Y) Y (by (simp only [List.length_map];omega)) Yb Qz Zo) Y Y (VRunD.chain (bi:= [2,4,3,0,1,5,6,7,8,9,10,11,12,13,14,15,16]) Y VWant.always Y Y Y (by kernel_rfl) (B.storeP (us:=(Qa false x2)) (rows':=(((u.set k x1).set (k - 1) x2).map (Qa true))) (row:=(Qa true x3)) (tv (T.orp 4 0 (k - 1) 0) Y) (tv (T.agg (Qa false x2)) Y) nofun Y (Qr _ hx3) Y (lb Y) Zo Qz (bc Y (bc Y (bc Y (bc Y bn)))) (by intro r hr t ht;obtain ⟨x,_,rfl⟩:=List.mem_map.1 hr;rw [Yy] at ht;exact QT (okeEntry.pl _ t ht)) (QZ Y)) (VRunD.nil (vinB.n (tn (VRun.region (mO (tN k) Y (fO (B.sub (n:=((k - 1:Nat):Int)) (tv (tN k) Y) (VEv.int .i64 1) (by (rw [Qt (by omega)];omega))) (aO (tN (k - 1)) Y (VRunO.nil (tn ?_))))))))))
   have he2:((u.set k x1).set (k - 1) x2)=(swp u k (k - 1)):=by exact (Qe3 hx2 hx1).symm
   refine ⟨((k - 1,swp u k (k - 1)):Nat×(List D.Entry)),?_,?_,Wk.mk (fun k=>k) ?_ ?_ ?_⟩
   ·exact ⟨by omega,hI'.2.next (by omega) (by omega) (by omega)⟩
   ·omega
   ·exact (bc ⟨(congrArg (fun n_=>T.os 4 0 0 n_) (show (u.map (Qa true)).length=((swp u k (k - 1)).map (Qa true)).length from (by (simp only [List.length_map];omega)))),rfl⟩ (b2 (b2 (b2 (b2 (b2 (b2 bn)))))))
   ·exact (bc ⟨(congrArg (fun l_=>some (Obj.rows 4 (List.map (Qa true) l_))) he2),(lb Y),rfl⟩ bn)
   ·exact nd Y
  refine VRun.exit (vthn.e (vthn.e (vinB.e (tn (rt (tr ?_))))))
  have hnew:u=Zx (aR x) l a b:=by
   have h9:=hB.done (ZC x) fhc5 hs1 (by omega) hI'.2 hI'.1 fhc7;rw [← hbm] at h9;exact h9
  exact vloan.r 0 VRes.nil Y (congrArg (fun n_=>T.os 4 0 0 n_) (show (u.map (Qa true)).length=(l.map (Qa true)).length from (by (simp only [List.length_map,Yr,Jd];omega)))) Y (congrArg (List.map (Qa true)) hnew)
 refine sk (tn (sr (mO (tN a) Y (mO (tN b) Y (fO (B.add (n:=(((a+b):Nat):Int)) (tv (tN a) Y) (tv (tN b) Y) (by (rw [Qt (by omega)];omega))) (fO (xcv (m:=((a+b:Nat):Int)) (tv (tN (a+b)) Y) U3 Qiv (QjL (by omega))) (fO (B.shr (n:=(((a+b) / 2:Nat):Int)) (tv (T.int .u64 ((a+b:Nat):Int)) Y) (VEv.int .u64 1) (by decide) Qdl) (fO (xcv (m:=(((a+b) / 2:Nat):Int)) (tv (T.int .u64 (((a+b) / 2:Nat):Int)) Y) Qiv U3 (Qt (by omega))) (aO (tN ((a+b) / 2)) Y (nt (sr ?_)))))))))))
 refine mO (tN ((a+b) / 2)) Y (mO (tN m) Y (fO (B.add (n:=((((a+b) / 2+m):Nat):Int)) (tv (tN ((a+b) / 2)) Y) (tv (tN m) Y) (by (rw [Qt (by omega)];omega))) (aO (tN ((a+b) / 2+m)) Y (nt (sr (fO (OF.assign (VEv.int .i64 0)) (fO (OF.assign (VEv.int .i64 0)) (nt (sq (sr (mO (tN m) Y ?_)))))))))))
 refine mO (tN ((a+b) / 2)) Y (fO (Qkc (tv (tN m) Y) (tv (tN ((a+b) / 2)) Y)) (nt ?_))
 refine VRun.meetK (A:=Nat×Nat) (fun s_=> [(0,(T.os 4 0 0 ((l.map (Qa true)).length))),(1,(tN a)),(2,(tN m)),(3,(tN b)),(4,(T.fn 45 [(T.rp (Qe false x))])),(18,(tN ((a+b) / 2))),(19,(tN ((a+b) / 2+m))),(20,(tN s_.1)),(21,(tN s_.2))]) (fun s_=>QV [(0,(Obj.rows 4 (l.map (Qa true))))]) 1 (fun s_=>SrC (aR x) l a m b s_.1 s_.2) ?_ ?_
 ·refine cd ((a+b) / 2<m) Y (fun fhc8=> ?_) fun fhc8=> ?_
  ·refine sr ?_
   refine mO (tN ((a+b) / 2+m)) Y (mO (tN b) Y (fO (B.sub (n:=(((a+b) / 2+m - b:Nat):Int)) (tv (tN ((a+b) / 2+m)) Y) (tv (tN b) Y) (by (rw [Qt (by omega)];omega))) (aO (tN ((a+b) / 2+m - b)) Y (nt (VRun.region (mO (tN ((a+b) / 2)) Y (aO (tN ((a+b) / 2)) Y (VRunO.nil (tn ?_)))))))))
   refine ⟨((((a+b) / 2+m - b),((a+b) / 2)):Nat×Nat),?_,?_,Wk.mk (fun k=>k) ?_ ?_ ?_⟩
   ·exact SrC.startY ham hmb fhc8
   ·trivial
   ·exact (b2 (b2 (b2 (b2 (b2 (b2 (b2 (b2 (b2 bn)))))))))
   ·exact (b3 bn)
   ·exact nd Y
  refine sr (mO (tN a) Y (aO (tN a) Y (nt (VRun.region (mO (tN m) Y (aO (tN m) Y (VRunO.nil (tn ?_))))))))
  refine ⟨(((a),(m)):Nat×Nat),?_,?_,Wk.mk (fun k=>k) ?_ ?_ ?_⟩
  ·exact SrC.startN ham hmb fhc8
  ·trivial
  ·exact (b2 (b2 (b2 (b2 (b2 (b2 (b2 (bc ⟨(congrArg (T.int .i64) (show ((a:Nat):Int)=(((a):Nat):Int) from (by rfl))),rfl⟩ (bc ⟨(congrArg (T.int .i64) (show ((m:Nat):Int)=(((m):Nat):Int) from (by rfl))),rfl⟩ bn)))))))))
  ·exact (b3 bn)
  ·exact nd Y
 rintro ⟨p,q⟩ (hI':SrC (aR x) l a m b p q)
 show VRun _ _ _ [(0,(T.os 4 0 0 ((l.map (Qa true)).length))),(1,(tN a)),(2,(tN m)),(3,(tN b)),(4,(T.fn 45 [(T.rp (Qe false x))])),(18,(tN ((a+b) / 2))),(19,(tN ((a+b) / 2+m))),(20,(tN p)),(21,(tN q))] (QV [(0,(Obj.rows 4 (l.map (Qa true))))]) 1 _
 have hC0:=hI'
 have hC9:=hI'.1
 refine sr (mO (tN ((a+b) / 2+m)) Y (fO (B.sub (n:=(((a+b) / 2+m - 1:Nat):Int)) (tv (tN ((a+b) / 2+m)) Y) (VEv.int .i64 1) (by (rw [Qt (by omega)];omega))) (aO (tN ((a+b) / 2+m - 1)) Y (nt (sq (VRun.block ?_))))))
 refine VRun.loop (A:=Nat×Nat) (fun s_=> [(0,(T.os 4 0 0 ((l.map (Qa true)).length))),(1,(tN a)),(2,(tN m)),(3,(tN b)),(4,(T.fn 45 [(T.rp (Qe false x))])),(18,(tN ((a+b) / 2))),(19,(tN ((a+b) / 2+m))),(20,(tN s_.1)),(21,(tN s_.2)),(22,(tN ((a+b) / 2+m - 1)))]) (fun s_=>QV [(0,(Obj.rows 4 (l.map (Qa true))))]) 1 (fun s_=>SrC (aR x) l a m b s_.1 s_.2) (fun s_=>s_.2 - s_.1) ((p,q):Nat×Nat) ?_ (Wk.mk (fun k=>k) ?_ ?_ ?_) ?_
 ·exact hC0
 ·exact (b2 (b2 (b2 (b2 (b2 (b2 (b2 (b2 (b2 (b2 bn))))))))))
 ·exact (b3 bn)
 ·exact nd Y
 rintro ⟨i,j⟩ (hI':SrC (aR x) l a m b i j)
 show VRun _ _ _ [(0,(T.os 4 0 0 ((l.map (Qa true)).length))),(1,(tN a)),(2,(tN m)),(3,(tN b)),(4,(T.fn 45 [(T.rp (Qe false x))])),(18,(tN ((a+b) / 2))),(19,(tN ((a+b) / 2+m))),(20,(tN i)),(21,(tN j)),(22,(tN ((a+b) / 2+m - 1)))] (QV [(0,(Obj.rows 4 (l.map (Qa true))))]) 1 _
 have hC:=hI'
 have hC1:=hI'.1
 refine sq (sr (mO (tN i) Y (mO (tN j) Y (fO (Q5 (tv (tN i) Y) (tv (tN j) Y)) (nt ?_)))))
 refine cd (i<j) Y (fun fhc9=> ?_) fun fhc9=> ?_
 ·refine sk ?_
  refine tn (VRun.block (sr (mO (tN i) Y (mO (tN j) Y (fO (B.add (n:=(((i+j):Nat):Int)) (tv (tN i) Y) (tv (tN j) Y) (by (rw [Qt (by omega)];omega))) (fO (xcv (m:=((i+j:Nat):Int)) (tv (tN (i+j)) Y) U3 Qiv (QjL (by omega))) (fO (B.shr (n:=(((i+j) / 2:Nat):Int)) (tv (T.int .u64 ((i+j:Nat):Int)) Y) (VEv.int .u64 1) (by decide) Qdl) (fO (xcv (m:=(((i+j) / 2:Nat):Int)) (tv (T.int .u64 (((i+j) / 2:Nat):Int)) Y) Qiv U3 (Qt (by omega))) (aO (tN ((i+j) / 2)) Y (nt (sq ?_)))))))))))
  refine VRun.draw (B:= [[],[],[],[],[3,2],[2,3,4,1],[1,4,3,2,5],[],[],[8,7],[7,8,9],[9,8,7,10,5,2,3,4,1,6,0],[0,6,1,4,3,2,5,10,7,8,9,11],[11,9,8,7,10,5,2,3,4,1,6,0,12]]) (by kernel_rfl) (by kernel_rfl) Y (mD (T.fn 45 [(T.rp (Qe false x))]) Y Y (mD (T.os 4 0 0 ((l.map (Qa true)).length)) Y Y (mD (tN ((a+b) / 2+m - 1)) Y Y (mD (tN ((i+j) / 2)) Y Y (fD (B.sub (n:=(((a+b) / 2+m - 1 - (i+j) / 2:Nat):Int)) (tv (tN ((a+b) / 2+m - 1)) Y) (tv (tN ((i+j) / 2)) Y) (by (rw [Qt (by omega)];omega))) Y Y ?_)))))
  obtain ⟨x1,hx1⟩:∃x,l[(a+b) / 2+m - 1 - (i+j) / 2]? =some x:=⟨_,List.getElem?_eq_getElem (by omega)⟩
  refine fD (B.indexAddrO (i:=(a+b) / 2+m - 1 - (i+j) / 2) (tv (T.os 4 0 0 ((l.map (Qa true)).length)) Y) (tv (tN ((a+b) / 2+m - 1 - (i+j) / 2)) Y) Y (by (simp only [List.length_map];omega)) Yb Qz Zo) Y Y (lD (OL.loadPn (us:=(Qa false x1)) (row:=(Qa true x1)) (tv (T.orp 4 0 ((a+b) / 2+m - 1 - (i+j) / 2) 0) Y) Y (Qr _ hx1) ZX Qz (lb Y) Y (bc Y (bc Y (bc Y (bc Y bn))))) Y Y (mD (T.os 4 0 0 ((l.map (Qa true)).length)) Y Y (mD (tN ((i+j) / 2)) Y Y ?_)))
  obtain ⟨x2,hx2⟩:∃x,l[(i+j) / 2]? =some x:=⟨_,List.getElem?_eq_getElem (by omega)⟩
  refine fD (B.indexAddrO (i:=(i+j) / 2) (tv (T.os 4 0 0 ((l.map (Qa true)).length)) Y) (tv (tN ((i+j) / 2)) Y) Y (by (simp only [List.length_map];omega)) Yb Qz Zo) Y Y (lD (OL.loadPn (us:=(Qa false x2)) (row:=(Qa true x2)) (tv (T.orp 4 0 ((i+j) / 2) 0) Y) Y (Qr _ hx2) ZX Qz (lb Y) Y (bc Y (bc Y (bc Y (bc Y bn))))) Y Y (VRunD.quiet (bi:= [9,8,7,10,5,2,3,4,1,6,0]) Y VWant.always Y Y Y bn (OC.callv (us:= [(T.agg (Qa false x1)),(T.agg (Qa false x2))]) (ucaps:= [(T.rp (Qe false x))]) (r:=(tI (JU x1 x2 x))) (r':=(tI (JU x1 x2 x))) (objs:= []) Y Y (vc (tv (T.agg (Qa false x1)) Y) (vc (tv (T.agg (Qa false x2)) Y) vn)) (LendL.cons (lg okeEntry) (LendL.cons (lg okeEntry) ln)) (Z8 Y) (YB (n+d+0) x1 x2 x (by exact hl.at (by assumption)) (by exact hl.at (by assumption)) (by assumption)) Y) (fD (xls (tv (tI (JU x1 x2 x)) Y) (VEv.int .i64 0)) Y Y (fD (Zd (tv (tB (decide (JU x1 x2 x<0))) Y)) Y Y (VRunD.nil (tn ?_))))))
  refine cn (JU x1 x2 x<0) Y (fun fhc10=> ?_) fun fhc10=> ?_
  ·refine VRun.region ?_
   refine mO (tN ((i+j) / 2)) Y (fO (Qx (tv (tN ((i+j) / 2)) Y) (VEv.int .i64 1) (by omega)) (aO (tN ((i+j) / 2+1)) Y (VRunO.nil (vinB.n (tn ?_)))))
   refine ⟨(((((i+j) / 2+1)),(j)):Nat×Nat),?_,?_,Wk.mk (fun k=>k) ?_ ?_ ?_⟩
   ·(refine hC.no (ZC x) ham hmb hs1 hs2 ht ?_ hb hx1 hx2 (fun h=>fhc10 (cmpE_lt.2 h));omega)
   ·omega
   ·exact (b2 (b2 (b2 (b2 (b2 (b2 (b2 (bc ⟨(congrArg (T.int .i64) (show ((((i+j) / 2+1):Nat):Int)=(((((i+j) / 2+1)):Nat):Int) from (by rfl))),rfl⟩ (bc ⟨(congrArg (T.int .i64) (show ((j:Nat):Int)=(((j):Nat):Int) from (by rfl))),rfl⟩ (b2 bn))))))))))
   ·exact (b3 bn)
   ·exact nd Y
  refine VRun.region (mO (tN ((i+j) / 2)) Y (aO (tN ((i+j) / 2)) Y (VRunO.nil (vinB.n (tn ?_)))))
  refine ⟨(((i),((i+j) / 2)):Nat×Nat),?_,?_,Wk.mk (fun k=>k) ?_ ?_ ?_⟩
  ·(refine hC.yes (ZC x) ham hmb hs1 hs2 ?_ hb hx1 hx2 (cmpE_lt.1 fhc10);omega)
  ·omega
  ·exact (b2 (b2 (b2 (b2 (b2 (b2 (b2 (bc ⟨(congrArg (T.int .i64) (show ((i:Nat):Int)=(((i):Nat):Int) from (by rfl))),rfl⟩ (b2 (b2 bn))))))))))
  ·exact (b3 bn)
  ·exact nd Y
 refine VRun.exit (vthn.e (vthn.e (vinB.e (tn (sr (mO (tN ((a+b) / 2+m)) Y (mO (tN i) Y (fO (B.sub (n:=(((a+b) / 2+m - i:Nat):Int)) (tv (tN ((a+b) / 2+m)) Y) (tv (tN i) Y) (by (rw [Qt (by omega)];omega))) (aO (tN ((a+b) / 2+m - i)) Y (nt (sq ?_)))))))))))
 refine sr (mO (tN i) Y (mO (tN m) Y (fO (Q5 (tv (tN i) Y) (tv (tN m) Y)) (mO (tB (decide (i<m))) Y ?_))))
 refine VRunO.joinB 4 [182,183,184] 185 (tB (decide ((i<m)∧(m<(a+b) / 2+m - i)))) ?_ ?_
 ·refine gw (i<m) (fun fhg181_3=> ?_) fun fhg181_3=> ?_
  ·refine gF (dy fhg181_3) Y Y (OF.move (tv (tN m) Y)) ?_
   refine gF (dy fhg181_3) Y Y (OF.move (tv (tN ((a+b) / 2+m - i)) Y)) (gF (dy fhg181_3) Y Y (Q5 (tv (tN m) Y) (tv (tN ((a+b) / 2+m - i)) Y)) (fO (OF.pickT (VEv.tmpB Y (dy fhg181_3)) (tv (tB (decide (m<(a+b) / 2+m - i))) Y)) (VRunO.nil ?_)))
   exact jq (congrArg T.bool (kAT fhg181_3 Y)) (js Y (js Y (js Y (jn))))
  ·refine QE 3 3 true 181 (dz fhg181_3) Y Y Y ?_
   refine fO (OF.pickF (VEv.tmpB Y (dz fhg181_3)) (VEv.bool false)) (VRunO.nil ?_)
   exact jq (congrArg T.bool (kAF fhg181_3)) (js Y (js Y (js Y (jn))))
 refine nt ?_
 refine VRun.meetK (A:=(List D.Entry)) (fun s_=> [(0,(T.os 4 0 0 ((s_.map (Qa true)).length))),(1,(tN a)),(3,(tN b)),(4,(T.fn 45 [(T.rp (Qe false x))])),(18,(tN ((a+b) / 2))),(20,(tN i)),(24,(tN ((a+b) / 2+m - i)))]) (fun s_=>QV [(0,(Obj.rows 4 (s_.map (Qa true))))]) 1 (fun s_=>Mid (aR x) l a m b i s_) ?_ ?_
 ·refine cd ((i<m)∧(m<(a+b) / 2+m - i)) Y (fun fhc11=> ?_) fun fhc11=> ?_
  ·have hM:=hC.mid (ZC x) fhc9 ham hmb hs1 hs2 hb
   have hMl:=hM.1.length_eq
   refine VRun.region (mO (T.os 4 0 0 ((l.map (Qa true)).length)) Y (mO (tN i) Y (mO (tN m) Y (mO (tN ((a+b) / 2+m - i)) Y (mO (T.fn 45 [(T.rp (Qe false x))]) Y (cO (OC.callLoan (ts:= [(T.os 4 0 0 ((l.map (Qa true)).length)),(tN i),(tN m),(tN ((a+b) / 2+m - i)),(T.fn 45 [(T.rp (Qe false x))])]) (k:=0) (r:=(T.tup [])) (rows:=(l.map (Qa true))) (rows':=((rot l i m ((a+b) / 2+m - i)).map (Qa true))) Y (vc (tv (T.os 4 0 0 ((l.map (Qa true)).length)) Y) (vc (tv (tN i) Y) (vc (tv (tN m) Y) (vc (tv (tN ((a+b) / 2+m - i)) Y) (vc (tv (T.fn 45 [(T.rp (Qe false x))]) Y) vn))))) Y Y Y LRes.none Y (QL (fun _=>rfl) _) (QL (fun _=>rfl) _) (Z7 (n+d+46) l i m ((a+b) / 2+m - i) x (by assumption) (by omega) (by omega) (by omega))) (VRunO.nil (tn ?_))))))))
   refine ⟨((rot l i m ((a+b) / 2+m - i)):(List D.Entry)),?_,?_,Wk.mk (fun k=>k) ?_ ?_ ?_⟩
   ·exact hM
   ·trivial
   ·exact (bc ⟨(congrArg (fun n_=>T.os 4 0 0 n_) (show (l.map (Qa true)).length=((rot l i m ((a+b) / 2+m - i)).map (Qa true)).length from (by (simp only [List.length_map,hMl];done)))),rfl⟩ (b2 (b2 (b2 (b2 (b2 (b2 bn)))))))
   ·exact (b3 bn)
   ·exact nd Y
  have hM:=hC.mid' (ZC x) fhc9 ham hmb hs1 hs2 hb fhc11
  refine sk (tn ?_)
  refine ⟨(l:(List D.Entry)),?_,?_,Wk.mk (fun k=>k) ?_ ?_ ?_⟩
  ·exact hM
  ·trivial
  ·exact (b2 (b2 (b2 (b2 (b2 (b2 (b2 bn)))))))
  ·exact (b3 bn)
  ·exact nd Y
 rintro u (hI':Mid (aR x) l a m b i u)
 show VRun _ _ _ [(0,(T.os 4 0 0 ((u.map (Qa true)).length))),(1,(tN a)),(3,(tN b)),(4,(T.fn 45 [(T.rp (Qe false x))])),(18,(tN ((a+b) / 2))),(20,(tN i)),(24,(tN ((a+b) / 2+m - i)))] (QV [(0,(Obj.rows 4 (u.map (Qa true))))]) 1 _
 have hM:=hI'
 have hMz:=hl.perm hM.1
 have hMt:=ht.perm hM.1
 have hMl:=hM.1.length_eq
 have hM1:=hM.2.2.1
 have hM2:=hM.2.2.2.1
 refine sq (sr (mO (tN a) Y (mO (tN i) Y (fO (Q5 (tv (tN a) Y) (tv (tN i) Y)) (mO (tB (decide (a<i))) Y ?_)))))
 refine VRunO.joinB 4 [196,197,198] 199 (tB (decide ((a<i)∧(i<(a+b) / 2)))) ?_ ?_
 ·refine gw (a<i) (fun fhg195_4=> ?_) fun fhg195_4=> ?_
  ·refine gF (dy fhg195_4) Y Y (OF.move (tv (tN i) Y)) ?_
   refine gF (dy fhg195_4) Y Y (OF.move (tv (tN ((a+b) / 2)) Y)) (gF (dy fhg195_4) Y Y (Q5 (tv (tN i) Y) (tv (tN ((a+b) / 2)) Y)) (fO (OF.pickT (VEv.tmpB Y (dy fhg195_4)) (tv (tB (decide (i<(a+b) / 2))) Y)) (VRunO.nil ?_)))
   exact jq (congrArg T.bool (kAT fhg195_4 Y)) (js Y (js Y (js Y (jn))))
  ·refine QE 3 3 true 195 (dz fhg195_4) Y Y Y ?_
   refine fO (OF.pickF (VEv.tmpB Y (dz fhg195_4)) (VEv.bool false)) (VRunO.nil ?_)
   exact jq (congrArg T.bool (kAF fhg195_4)) (js Y (js Y (js Y (jn))))
 refine nt ?_
 refine VRun.meetK (A:=(List D.Entry)) (fun s_=> [(0,(T.os 4 0 0 ((s_.map (Qa true)).length))),(3,(tN b)),(4,(T.fn 45 [(T.rp (Qe false x))])),(18,(tN ((a+b) / 2))),(24,(tN ((a+b) / 2+m - i)))]) (fun s_=>QV [(0,(Obj.rows 4 (s_.map (Qa true))))]) 1 (fun s_=>s_=Zx (aR x) u a ((a+b) / 2)) ?_ ?_
 ·refine cd ((a<i)∧(i<(a+b) / 2)) Y (fun fhc12=> ?_) fun fhc12=> ?_
  ·refine VRun.region ?_
   refine mO (T.os 4 0 0 ((u.map (Qa true)).length)) Y (mO (tN a) Y (mO (tN i) Y (mO (tN ((a+b) / 2)) Y (mO (T.fn 45 [(T.rp (Qe false x))]) Y (cO (OC.callLoan (ts:= [(T.os 4 0 0 ((u.map (Qa true)).length)),(tN a),(tN i),(tN ((a+b) / 2)),(T.fn 45 [(T.rp (Qe false x))])]) (k:=0) (r:=(T.tup [])) (rows:=(u.map (Qa true))) (rows':=((Zx (aR x) u a ((a+b) / 2)).map (Qa true))) Y (vc (tv (T.os 4 0 0 ((u.map (Qa true)).length)) Y) (vc (tv (tN a) Y) (vc (tv (tN i) Y) (vc (tv (tN ((a+b) / 2)) Y) (vc (tv (T.fn 45 [(T.rp (Qe false x))]) Y) vn))))) Y Y Y LRes.none Y (QL (fun _=>rfl) _) (QL (fun _=>rfl) _) (ih u a i ((a+b) / 2) x (by assumption) (by assumption) (by assumption) (by omega) (by omega) (by omega) (by assumption) (by assumption) (by omega))) (VRunO.nil (tn ?_)))))))
   refine ⟨((Zx (aR x) u a ((a+b) / 2)):(List D.Entry)),?_,?_,Wk.mk (fun k=>k) ?_ ?_ ?_⟩
   ·rfl
   ·trivial
   ·exact (bc ⟨(congrArg (fun n_=>T.os 4 0 0 n_) (show (u.map (Qa true)).length=((Zx (aR x) u a ((a+b) / 2)).map (Qa true)).length from (by (simp only [List.length_map,Yr];done)))),rfl⟩ (b2 (b2 (b2 (b2 bn)))))
   ·exact (b3 bn)
   ·exact nd Y
  have hML:=hM.left (ZC x) (by omega) (by omega) ht fhc12 (by omega)
  refine sk (tn ?_)
  refine ⟨(u:(List D.Entry)),?_,?_,Wk.mk (fun k=>k) ?_ ?_ ?_⟩
  ·exact hML.symm
  ·trivial
  ·exact (b2 (b2 (b2 (b2 (b2 bn)))))
  ·exact (b3 bn)
  ·exact nd Y
 rintro w (hI':w=Zx (aR x) u a ((a+b) / 2))
 show VRun _ _ _ [(0,(T.os 4 0 0 ((w.map (Qa true)).length))),(3,(tN b)),(4,(T.fn 45 [(T.rp (Qe false x))])),(18,(tN ((a+b) / 2))),(24,(tN ((a+b) / 2+m - i)))] (QV [(0,(Obj.rows 4 (w.map (Qa true))))]) 1 _
 have hMp:=hM.post (ZC x) (by omega) hb (by omega) ht
 have hMd:=hM.done (ZC x) (by omega) hb ht
 rw [← hI'] at hMp hMd
 have hQz:=hl.perm hMp.1
 have hQt:=ht.perm hMp.1
 have hQl:=hMp.1.length_eq
 have hQ3:=hMp.2.1
 have hQ4:=hMp.2.2
 refine sr (mO (tN ((a+b) / 2)) Y (mO (tN ((a+b) / 2+m - i)) Y (fO (Q5 (tv (tN ((a+b) / 2)) Y) (tv (tN ((a+b) / 2+m - i)) Y)) (mO (tB (decide ((a+b) / 2<(a+b) / 2+m - i))) Y ?_))))
 refine VRunO.joinB 4 [210,211,212] 213 (tB (decide (((a+b) / 2<(a+b) / 2+m - i)∧((a+b) / 2+m - i<b)))) ?_ ?_
 ·refine gw ((a+b) / 2<(a+b) / 2+m - i) (fun fhg209_5=> ?_) fun fhg209_5=> ?_
  ·refine gF (dy fhg209_5) Y Y (OF.move (tv (tN ((a+b) / 2+m - i)) Y)) ?_
   refine gF (dy fhg209_5) Y Y (OF.move (tv (tN b) Y)) (gF (dy fhg209_5) Y Y (Q5 (tv (tN ((a+b) / 2+m - i)) Y) (tv (tN b) Y)) (fO (OF.pickT (VEv.tmpB Y (dy fhg209_5)) (tv (tB (decide ((a+b) / 2+m - i<b))) Y)) (VRunO.nil ?_)))
   exact jq (congrArg T.bool (kAT fhg209_5 Y)) (js Y (js Y (js Y (jn))))
  ·refine QE 3 3 true 209 (dz fhg209_5) Y Y Y ?_
   refine fO (OF.pickF (VEv.tmpB Y (dz fhg209_5)) (VEv.bool false)) (VRunO.nil ?_)
   exact jq (congrArg T.bool (kAF fhg209_5)) (js Y (js Y (js Y (jn))))
 refine nt ?_
 refine cd (((a+b) / 2<(a+b) / 2+m - i)∧((a+b) / 2+m - i<b)) Y (fun fhc13=> ?_) fun fhc13=> ?_
 ·refine VRun.region ?_
  refine mO (T.os 4 0 0 ((w.map (Qa true)).length)) Y (mO (tN ((a+b) / 2)) Y (mO (tN ((a+b) / 2+m - i)) Y (mO (tN b) Y (mO (T.fn 45 [(T.rp (Qe false x))]) Y (cO (OC.callLoan (ts:= [(T.os 4 0 0 ((w.map (Qa true)).length)),(tN ((a+b) / 2)),(tN ((a+b) / 2+m - i)),(tN b),(T.fn 45 [(T.rp (Qe false x))])]) (k:=0) (r:=(T.tup [])) (rows:=(w.map (Qa true))) (rows':=((Zx (aR x) w ((a+b) / 2) b).map (Qa true))) Y (vc (tv (T.os 4 0 0 ((w.map (Qa true)).length)) Y) (vc (tv (tN ((a+b) / 2)) Y) (vc (tv (tN ((a+b) / 2+m - i)) Y) (vc (tv (tN b) Y) (vc (tv (T.fn 45 [(T.rp (Qe false x))]) Y) vn))))) Y Y Y LRes.none Y (QL (fun _=>rfl) _) (QL (fun _=>rfl) _) (ih w ((a+b) / 2) ((a+b) / 2+m - i) b x (by assumption) (by assumption) (by assumption) (by omega) (by omega) (by omega) (by assumption) (by assumption) (by omega))) (VRunO.nil ?_))))))
  have hnew:Zx (aR x) w ((a+b) / 2) b=Zx (aR x) l a b:=by
   exact hMd
  exact vloan.n 0 VRes.nil Y (congrArg (fun n_=>T.os 4 0 0 n_) (show (w.map (Qa true)).length=(l.map (Qa true)).length from (by (simp only [List.length_map,Yr,Jd];omega)))) Y (congrArg (List.map (Qa true)) hnew)
 have hMR:=hM.right (ZC x) (by omega) hb ht fhc13 (by omega)
 rw [← hI'] at hMR
 refine sk ?_
 have hnew:w=Zx (aR x) l a b:=by
  (rw [← hMd];exact hMR.symm)
 exact vloan.n 0 VRes.nil Y (congrArg (fun n_=>T.os 4 0 0 n_) (show (w.map (Qa true)).length=(l.map (Qa true)).length from (by (simp only [List.length_map,Yr,Jd];omega)))) Y (congrArg (List.map (Qa true)) hnew)
theorem Z6 (n:Nat) (l:List D.Entry) (c:Nat) (x:D.Issue) (hl:zAll mx l) (hz:Q3 x≤mx) (ht:Tot (aR x) l) (hc:c=l.length):Loan (Qs Tryz.prog (n+69)) 61 4 (List.map (Qa true) l) [(T.os 4 0 0 ((l.map (Qa true)).length)),(tN c),(T.fn 45 [(T.rp (Qe false x))])] (T.tup []) (List.map (Qa true) (Zx (aR x) l 0 l.length)):=by
 refine Loan.intro (rs:= []) (j:=0) (pin:=(T.os 4 0 0 ((l.map (Qa true)).length))) Tryz.func61 Y Y Y (by kernel_rfl) Y (.os _ _) .none (QL (fun _=>rfl) _) (QL (fun _=>rfl) _) (E0:= [(0,(T.os 4 0 0 ((l.map (Qa true)).length))),(1,(tN c)),(2,(T.fn 45 [(T.rp (Qe false x))]))]) Y ?_
 obtain ⟨hlim,hmx,hmax⟩:=QA
 have hl1:=hl.1
 refine sr (fO (OF.assign (VEv.int .i64 20)) (nt (sr (mO (tN 20) Y (fO (OF.assign (VEv.int .i64 0)) (aO (tN 20) Y (nt (sq (VRun.block ?_)))))))))
 refine VRun.loop (A:=Nat×(List D.Entry)) (fun s_=> [(0,(T.os 4 0 0 ((s_.2.map (Qa true)).length))),(1,(tN c)),(2,(T.fn 45 [(T.rp (Qe false x))])),(6,(tN 20)),(7,(tN s_.1)),(8,(tN (s_.1+20)))]) (fun s_=>QV [(0,(Obj.rows 4 (s_.2.map (Qa true))))]) 1 (fun s_=>BlkL (aR x) l 20 s_.1 s_.2) (fun s_=>l.length - s_.1) ((0,l):Nat×(List D.Entry)) ?_ (Wk.mk (fun k=>k) ?_ ?_ ?_) ?_
 ·exact BlkL.start
 ·exact (b2 (b2 (b2 (b2 (b2 (bc ⟨(congrArg (T.int .i64) (show 20=((0+20:Nat):Int) from (by rfl))),rfl⟩ bn))))))
 ·exact (b3 bn)
 ·exact nd Y
 rintro ⟨a,s⟩ (hI':BlkL (aR x) l 20 a s)
 show VRun _ _ _ [(0,(T.os 4 0 0 ((s.map (Qa true)).length))),(1,(tN c)),(2,(T.fn 45 [(T.rp (Qe false x))])),(6,(tN 20)),(7,(tN a)),(8,(tN (a+20)))] (QV [(0,(Obj.rows 4 (s.map (Qa true))))]) 1 _
 have hI0:=hI'
 have ha:=hI'.2.1
 have hsl:=hI'.2.2.1.length_eq
 have hzs:=hl.perm hI'.2.2.1
 have hts:=ht.perm hI'.2.2.1
 have hw:=Yr (R:=aR x) s a (a+20)
 refine sq (sr (mO (tN (a+20)) Y (mO (tN c) Y (fO (Qox (tv (tN (a+20)) Y) (tv (tN c) Y)) (nt ?_)))))
 refine cd (a+20≤c) Y (fun fhc0=> ?_) fun fhc0=> ?_
 ·refine sk ?_
  refine tn (VRun.block (sr (mO (T.os 4 0 0 ((s.map (Qa true)).length)) Y (mO (tN a) Y (mO (tN (a+20)) Y (mO (T.fn 45 [(T.rp (Qe false x))]) Y (cO (OC.callLoan (ts:= [(T.os 4 0 0 ((s.map (Qa true)).length)),(tN a),(tN (a+20)),(T.fn 45 [(T.rp (Qe false x))])]) (k:=0) (r:=(T.tup [])) (rows:=(s.map (Qa true))) (rows':=((Zx (aR x) s a (a+20)).map (Qa true))) Y (vc (tv (T.os 4 0 0 ((s.map (Qa true)).length)) Y) (vc (tv (tN a) Y) (vc (tv (tN (a+20)) Y) (vc (tv (T.fn 45 [(T.rp (Qe false x))]) Y) vn)))) Y Y Y LRes.none Y (QL (fun _=>rfl) _) (QL (fun _=>rfl) _) (Zb (n+19) s a (a+20) x (by assumption) (by assumption) (by assumption) (by omega) (by omega))) (nt (sr (mO (tN (a+20)) Y (aO (tN (a+20)) Y ?_)))))))))))
  refine nt (VRun.region (mO (tN (a+20)) Y (mO (tN 20) Y (fO (B.add (n:=(((a+20+20):Nat):Int)) (tv (tN (a+20)) Y) (tv (tN 20) Y) (by (rw [Qt (by omega)];omega))) (aO (tN (a+20+20)) Y (VRunO.nil (vinB.n (tn ?_))))))))
  refine ⟨((a+20,Zx (aR x) s a (a+20)):Nat×(List D.Entry)),?_,?_,Wk.mk (fun k=>k) ?_ ?_ ?_⟩
  ·exact hI0.next (ZC x) ht (by omega)
  ·omega
  ·exact (bc ⟨(congrArg (fun n_=>T.os 4 0 0 n_) (show (s.map (Qa true)).length=((Zx (aR x) s a (a+20)).map (Qa true)).length from (by (simp only [List.length_map,List.length_set,List.length_append,List.length_take,List.length_replicate,List.length_cons,List.length_nil];omega)))),rfl⟩ (b2 (b2 (b2 (b2 (bc ⟨(congrArg (T.int .i64) (show (((a+20+20):Nat):Int)=(((a+20)+20:Nat):Int) from (by rfl))),rfl⟩ bn))))))
  ·exact (b3 bn)
  ·exact nd Y
 refine VRun.exit (vthn.e (vthn.e (vinB.e (tn (sr (mO (T.os 4 0 0 ((s.map (Qa true)).length)) Y (mO (tN a) Y (mO (tN c) Y (mO (T.fn 45 [(T.rp (Qe false x))]) Y (cO (OC.callLoan (ts:= [(T.os 4 0 0 ((s.map (Qa true)).length)),(tN a),(tN c),(T.fn 45 [(T.rp (Qe false x))])]) (k:=0) (r:=(T.tup [])) (rows:=(s.map (Qa true))) (rows':=((Zx (aR x) s a c).map (Qa true))) Y (vc (tv (T.os 4 0 0 ((s.map (Qa true)).length)) Y) (vc (tv (tN a) Y) (vc (tv (tN c) Y) (vc (tv (T.fn 45 [(T.rp (Qe false x))]) Y) vn)))) Y Y Y LRes.none Y (QL (fun _=>rfl) _) (QL (fun _=>rfl) _) (Zb (n+19) s a c x (by assumption) (by assumption) (by assumption) (by omega) (by omega))) (nt ?_)))))))))))
 refine VRun.block ?_
 refine VRun.loop (A:=Nat×(List D.Entry)) (fun s_=> [(0,(T.os 4 0 0 ((s_.2.map (Qa true)).length))),(1,(tN c)),(2,(T.fn 45 [(T.rp (Qe false x))])),(6,(tN s_.1))]) (fun s_=>QV [(0,(Obj.rows 4 (s_.2.map (Qa true))))]) 1 (fun s_=>20≤s_.1∧Blk (aR x) l s_.1 s_.2) (fun s_=>c - s_.1) ((20,Zx (aR x) s a c):Nat×(List D.Entry)) ?_ (Wk.mk (fun k=>k) ?_ ?_ ?_) ?_
 ·have h9:=hI0.last (ZC x) ht (by omega);rw [← hc] at h9;exact ⟨Nat.le_refl _,h9⟩
 ·exact (bc ⟨(congrArg (fun n_=>T.os 4 0 0 n_) (show (s.map (Qa true)).length=((Zx (aR x) s a c).map (Qa true)).length from (by (simp only [List.length_map,Yr];done)))),rfl⟩ (b2 (b2 (b2 bn))))
 ·exact (b3 bn)
 ·exact nd Y
 rintro ⟨d,v⟩ (hI':20≤d∧Blk (aR x) l d v)
 show VRun _ _ _ [(0,(T.os 4 0 0 ((v.map (Qa true)).length))),(1,(tN c)),(2,(T.fn 45 [(T.rp (Qe false x))])),(6,(tN d))] (QV [(0,(Obj.rows 4 (v.map (Qa true))))]) 1 _
 have hI1:=hI'.2
 have hd:=hI'.1
 have hvl:=hI'.2.1.length_eq
 refine sq (sr (mO (tN d) Y (mO (tN c) Y (fO (Q5 (tv (tN d) Y) (tv (tN c) Y)) (nt ?_)))))
 refine cd (d<c) Y (fun fhc1=> ?_) fun fhc1=> ?_
 ·refine sk ?_
  refine tn (VRun.block (sr (mO (tN d) Y (fO (B.mul (n:=(((2*d):Nat):Int)) (VEv.int .i64 2) (tv (tN d) Y) (by (rw [Qt (by omega)];omega))) (fO (OF.assign (VEv.int .i64 0)) (aO (tN (2*d)) Y (nt (sq (VRun.block ?_)))))))))
  refine VRun.loop (A:=Nat×(List D.Entry)) (fun s_=> [(0,(T.os 4 0 0 ((s_.2.map (Qa true)).length))),(1,(tN c)),(2,(T.fn 45 [(T.rp (Qe false x))])),(6,(tN d)),(7,(tN s_.1)),(8,(tN (s_.1+2*d)))]) (fun s_=>QV [(0,(Obj.rows 4 (s_.2.map (Qa true))))]) 1 (fun s_=>Mrg (aR x) l d s_.1 s_.2) (fun s_=>c - s_.1) ((0,v):Nat×(List D.Entry)) ?_ (Wk.mk (fun k=>k) ?_ ?_ ?_) ?_
  ·exact Mrg.start hI1
  ·exact (b2 (b2 (b2 (b2 (b2 (bc ⟨(congrArg (T.int .i64) (show (((2*d):Nat):Int)=((0+2*d:Nat):Int) from (by omega))),rfl⟩ bn))))))
  ·exact (b3 bn)
  ·exact nd Y
  rintro ⟨e,w⟩ (hI':Mrg (aR x) l d e w)
  show VRun _ _ _ [(0,(T.os 4 0 0 ((w.map (Qa true)).length))),(1,(tN c)),(2,(T.fn 45 [(T.rp (Qe false x))])),(6,(tN d)),(7,(tN e)),(8,(tN (e+2*d)))] (QV [(0,(Obj.rows 4 (w.map (Qa true))))]) 1 _
  have hI2:=hI'
  have he:=hI'.2.1
  have hwl:=hI'.2.2.1.length_eq
  have hzw:=hl.perm hI'.2.2.1
  have htw:=ht.perm hI'.2.2.1
  have hw2:=Yr (R:=aR x) w e (e+2*d)
  have hhi:=hI'.hi
  refine sq (sr (mO (tN (e+2*d)) Y (mO (tN c) Y (fO (Qox (tv (tN (e+2*d)) Y) (tv (tN c) Y)) (nt ?_)))))
  refine cd (e+2*d≤c) Y (fun fhc2=> ?_) fun fhc2=> ?_
  ·have hlo:=hI2.lo (by omega)
   rw [Nat.min_eq_left (by omega)] at hhi
   refine sk (tn (VRun.block (sr (mO (T.os 4 0 0 ((w.map (Qa true)).length)) Y (mO (tN e) Y (mO (tN e) Y (mO (tN d) Y (fO (B.add (n:=(((e+d):Nat):Int)) (tv (tN e) Y) (tv (tN d) Y) (by (rw [Qt (by omega)];omega))) (mO (tN (e+2*d)) Y (mO (T.fn 45 [(T.rp (Qe false x))]) Y (cO (OC.callLoan (ts:= [(T.os 4 0 0 ((w.map (Qa true)).length)),(tN e),(tN (e+d)),(tN (e+2*d)),(T.fn 45 [(T.rp (Qe false x))])]) (k:=0) (r:=(T.tup [])) (rows:=(w.map (Qa true))) (rows':=((Zx (aR x) w e (e+2*d)).map (Qa true))) Y (vc (tv (T.os 4 0 0 ((w.map (Qa true)).length)) Y) (vc (tv (tN e) Y) (vc (tv (tN (e+d)) Y) (vc (tv (tN (e+2*d)) Y) (vc (tv (T.fn 45 [(T.rp (Qe false x))]) Y) vn))))) Y Y Y LRes.none Y (QL (fun _=>rfl) _) (QL (fun _=>rfl) _) (Zl (n+0) 20 w e (e+d) (e+2*d) x (by assumption) (by assumption) (by assumption) (by omega) (by omega) (by omega) (by assumption) (by assumption) (by omega))) ?_)))))))))))
   refine nt (sr (mO (tN (e+2*d)) Y (aO (tN (e+2*d)) Y (nt (VRun.region (mO (tN (e+2*d)) Y (mO (tN d) Y (fO (B.mul (n:=(((2*d):Nat):Int)) (VEv.int .i64 2) (tv (tN d) Y) (by (rw [Qt (by omega)];omega))) (fO (B.add (n:=(((e+2*d+(2*d)):Nat):Int)) (tv (tN (e+2*d)) Y) (tv (tN (2*d)) Y) (by (rw [Qt (by omega)];omega))) (aO (tN (e+2*d+(2*d))) Y (VRunO.nil ?_)))))))))))
   refine vinB.n (tn ?_)
   refine ⟨((e+2*d,Zx (aR x) w e (e+2*d)):Nat×(List D.Entry)),?_,?_,Wk.mk (fun k=>k) ?_ ?_ ?_⟩
   ·exact hI2.next (ZC x) ht (by omega)
   ·omega
   ·exact (bc ⟨(congrArg (fun n_=>T.os 4 0 0 n_) (show (w.map (Qa true)).length=((Zx (aR x) w e (e+2*d)).map (Qa true)).length from (by (simp only [List.length_map,List.length_set,List.length_append,List.length_take,List.length_replicate,List.length_cons,List.length_nil];omega)))),rfl⟩ (b2 (b2 (b2 (b2 (bc ⟨(congrArg (T.int .i64) (show (((e+2*d+(2*d)):Nat):Int)=(((e+2*d)+2*d:Nat):Int) from (by rfl))),rfl⟩ bn))))))
   ·exact (b3 bn)
   ·exact nd Y
  refine VRun.exit (vthn.e (vthn.e (vinB.e (tn (sq (sr (mO (tN e) Y (mO (tN d) Y (fO (B.add (n:=(((e+d):Nat):Int)) (tv (tN e) Y) (tv (tN d) Y) (by (rw [Qt (by omega)];omega))) (aO (tN (e+d)) Y (nt ?_)))))))))))
  refine sr (mO (tN (e+d)) Y (mO (tN c) Y (fO (Q5 (tv (tN (e+d)) Y) (tv (tN c) Y)) (nt ?_))))
  refine cd ((e+d)<c) Y (fun fhc3=> ?_) fun fhc3=> ?_
  ·have hlo:=hI2.lo (by omega)
   rw [Nat.min_eq_right (by omega),← hc] at hhi
   refine VRun.region (mO (T.os 4 0 0 ((w.map (Qa true)).length)) Y (mO (tN e) Y (mO (tN (e+d)) Y (mO (tN c) Y (mO (T.fn 45 [(T.rp (Qe false x))]) Y (cO (OC.callLoan (ts:= [(T.os 4 0 0 ((w.map (Qa true)).length)),(tN e),(tN (e+d)),(tN c),(T.fn 45 [(T.rp (Qe false x))])]) (k:=0) (r:=(T.tup [])) (rows:=(w.map (Qa true))) (rows':=((Zx (aR x) w e c).map (Qa true))) Y (vc (tv (T.os 4 0 0 ((w.map (Qa true)).length)) Y) (vc (tv (tN e) Y) (vc (tv (tN (e+d)) Y) (vc (tv (tN c) Y) (vc (tv (T.fn 45 [(T.rp (Qe false x))]) Y) vn))))) Y Y Y LRes.none Y (QL (fun _=>rfl) _) (QL (fun _=>rfl) _) (Zl (n+0) 20 w e (e+d) c x (by assumption) (by assumption) (by assumption) (by omega) (by assumption) (by omega) (by assumption) (by assumption) (by omega))) (VRunO.nil (tn (VRun.region (mO (tN d) Y (fO (B.mul (n:=((2*d:Nat):Int)) (tv (tN d) Y) (VEv.int .i64 2) (by (rw [Qt (by omega)];omega))) ?_)))))))))))
   refine aO (tN (2*d)) Y (VRunO.nil (vinB.n (tn ?_)))
   refine ⟨((2*d,(Zx (aR x) w e c)):Nat×(List D.Entry)),?_,?_,Wk.mk (fun k=>k) ?_ ?_ ?_⟩
   ·(refine ⟨?_,?_⟩;omega;have h9:=hI2.last (ZC x) ht (by omega) (by omega);rw [← hc] at h9;exact h9)
   ·omega
   ·exact (bc ⟨(congrArg (fun n_=>T.os 4 0 0 n_) (show (w.map (Qa true)).length=((Zx (aR x) w e c).map (Qa true)).length from (by (simp only [List.length_map,Yr];done)))),rfl⟩ (b2 (b2 (b2 bn))))
   ·exact (b3 bn)
   ·exact nd Y
  refine sk (tn (VRun.region (mO (tN d) Y (fO (B.mul (n:=((2*d:Nat):Int)) (tv (tN d) Y) (VEv.int .i64 2) (by (rw [Qt (by omega)];omega))) (aO (tN (2*d)) Y (VRunO.nil (vinB.n (tn ?_))))))))
  refine ⟨((2*d,w):Nat×(List D.Entry)),?_,?_,Wk.mk (fun k=>k) ?_ ?_ ?_⟩
  ·exact ⟨by omega,hI2.last' (by omega)⟩
  ·omega
  ·exact (b2 (b2 (b2 (b2 bn))))
  ·exact (b3 bn)
  ·exact nd Y
 refine VRun.exit (vthn.e (vthn.e (vinB.e ?_)))
 have hnew:v=Zx (aR x) l 0 l.length:=by
  exact hI1.done (ZC x) (by omega)
 exact vloan.n 0 VRes.nil Y (congrArg (fun n_=>T.os 4 0 0 n_) (show (v.map (Qa true)).length=(l.map (Qa true)).length from (by (simp only [List.length_map,Yr];omega)))) Y (congrArg (List.map (Qa true)) hnew)
theorem ZH (n:Nat) (l:List D.Entry) (x:D.Issue) (hl:zAll mx l) (hz:Q3 x≤mx) (ht:Tot (aR x) l):Loan (Qs Tryz.prog (n+70)) 44 4 (List.map (Qa true) l) [(T.os 4 0 0 ((l.map (Qa true)).length)),(T.fn 45 [(T.rp (Qe false x))])] (T.tup []) (List.map (Qa true) (Zx (aR x) l 0 l.length)):=by
 refine Loan.intro (rs:= []) (j:=0) (pin:=(T.os 4 0 0 ((l.map (Qa true)).length))) Tryz.func44 Y Y Y (by kernel_rfl) Y (.os _ _) .none (QL (fun _=>rfl) _) (QL (fun _=>rfl) _) (E0:= [(0,(T.os 4 0 0 ((l.map (Qa true)).length))),(1,(T.fn 45 [(T.rp (Qe false x))]))]) Y ?_
 obtain ⟨hlim,hmx,hmax⟩:=QA
 have hl1:=hl.1
 refine VRun.region (mO (T.os 4 0 0 ((l.map (Qa true)).length)) Y (mO (T.os 4 0 0 ((l.map (Qa true)).length)) Y (lO (B.lenO (m:=l.length) (tv (T.os 4 0 0 ((l.map (Qa true)).length)) Y) Yb (List.length_map ..)) (mO (T.fn 45 [(T.rp (Qe false x))]) Y (cO (OC.callLoan (ts:= [(T.os 4 0 0 ((l.map (Qa true)).length)),(tN l.length),(T.fn 45 [(T.rp (Qe false x))])]) (k:=0) (r:=(T.tup [])) (rows:=(l.map (Qa true))) (rows':=((Zx (aR x) l 0 l.length).map (Qa true))) Y (vc (tv (T.os 4 0 0 ((l.map (Qa true)).length)) Y) (vc (tv (tN l.length) Y) (vc (tv (T.fn 45 [(T.rp (Qe false x))]) Y) vn))) Y Y Y LRes.none Y (QL (fun _=>rfl) _) (QL (fun _=>rfl) _) (Z6 (n+0) l l.length x (by assumption) (by assumption) (by assumption) (by omega))) (VRunO.nil ?_))))))
 have hnew:Zx (aR x) l 0 l.length=Zx (aR x) l 0 l.length:=by
  rfl
 exact vloan.n 0 VRes.nil Y Y Y (congrArg (List.map (Qa true)) hnew)
end Go.Proofs.YtoaigcojlmoijaaGreat.AE
