/- A part of what the row of FnExactCorrectedSlots uses. Conditions: as each theorem states. -/
import Derived.Test.YtcccmceoplcciaaGreatZFnExactCorrectedSlotse
import Derived.Test.YtcccmceoplcciaaGreatProg
import Derived.Shelf.Sort.Plain
import Derived.Shelf.Slices.In.SortNone
import Derived.Shelf.Slices.CompactI
namespace Go.Proofs.YtcccmceoplcciaaGreat.AE
open Go Go.RowKit
set_option linter.unusedVariables false
set_option linter.unusedSimpArgs false
set_option maxRecDepth 20000
set_option maxHeartbeats 2000000
noncomputable section
theorem QaX (n:Int) {m:Int} (h:0<m): -m<n.tmod m∧n.tmod m<m:=⟨Int.lt_tmod_of_pos n h,Int.tmod_lt_of_pos n h⟩
def Jd (n m:Int):Int:=if 1≤m∧m≤1000000000000 then (n.tmod m+m).tmod m else 0
theorem Qg4 (n:Int):0≤Jd n 2147483647∧Jd n 2147483647<2147483647:=by
 unfold Jd
 rw [if_pos (by omega)]
 have h1:=QaX n (m:=2147483647) (by decide)
 have h2:=QaX (n.tmod 2147483647+2147483647) (m:=2147483647) (by decide)
 exact ⟨Int.tmod_nonneg _ (by omega),h2.2⟩
def Qdb (d x:Int):Int:=(d*1000003+Jd x 2147483647+13).tmod 2147483647
def Q5 (l:List Int):Int:=l.foldl Qdb 11
theorem QeM {d x:Int} (h:0≤d∧d<2147483647):0≤Qdb d x∧Qdb d x<2147483647:=by
 have h1:=Qg4 x
 unfold Qdb
 exact ⟨Int.tmod_nonneg _ (by omega),(QaX _ (by decide)).2⟩
theorem Qgm : ∀(l:List Int) (d:Int),0≤d∧d<2147483647→0≤l.foldl Qdb d∧l.foldl Qdb d<2147483647
 | [],d,h=>h
 | x::r,d,h=>Qgm r _ (QeM h)
theorem QhM (l:List Int):0≤Q5 l∧Q5 l<2147483647:=Qgm l 11 (by decide)
theorem QeE {l:List Int} {i:Nat} {x:Int} (h:l[i]? =some x):Q5 (l.take (i+1))=Qdb (Q5 (l.take i)) x:=by
 unfold Q5
 rw [List.take_add_one,h,Option.toList_some,List.foldl_append]
 rfl
theorem Qlw (s:ByteArray) (i:Nat):0≤Qx s i∧Qx s i<256:=by
 unfold Qx
 split
 ·have:=(s[i]).toNat_lt
  omega
 ·decide
theorem QmC {s:ByteArray} {i:Nat} (h:i<s.size):(ZR s)[i]? =some (Qx s i):=by
 unfold ZR
 rw [List.getElem?_map,List.getElem?_eq_getElem (by rw [Array.length_toList];exact h),Option.map_some,← Y6 h]
 rfl
theorem QhS {s:ByteArray} {i:Nat} (h:i<s.size):(ZR s).take i++ [Qx s i]=(ZR s).take (i+1):=by
 rw [List.take_add_one,QmC h];rfl
def JC (salt slot:Int) (w:ByteArray):Int:=if Zr w then Q5 ([salt,slot,((w.size:Nat):Int)]++ZR w) else 0
def Qfi (seals:List Int) (salt slot:Int) (w:ByteArray):Prop:=0≤slot∧Zr w∧seals[slot.toNat]? =some (JC salt slot w)
instance (seals:List Int) (salt slot:Int) (w:ByteArray):Decidable (Qfi seals salt slot w):=Classical.propDecidable _
theorem QjE {seals:List Int} {salt slot x:Int} {w:ByteArray} (h0:0≤slot) (hw:Zr w) (hx:seals[slot.toNat]? =some x):JC salt slot w=x↔Qfi seals salt slot w:=by
 unfold Qfi
 rw [hx]
 exact ⟨fun h=>⟨h0,hw,by rw [h]⟩,fun h=>(Option.some.inj h.2.2).symm⟩
theorem QeB {seals:List Int} {salt slot:Int} {w:ByteArray} (h:Qfi seals salt slot w):slot<((seals.length:Nat):Int):=by
 have:=(List.getElem?_eq_some_iff.1 h.2.2).1
 omega
end
theorem Qi1 (n:Nat) (n0:Int) (m:Int):Pure (Qr Tryz.prog (n+2)) 193 [(tI n0),(tI m)] (tI (Jd n0 m)):=by
 refine Pure.intro (rs:= [ResultVar.tmp 4]) Tryz.func193 rfl rfl rfl (E0:= [(0,(tI n0)),(1,(tI m))]) rfl ?_
 obtain ⟨hlim,hmx,hmax⟩:=QG
 refine sr (fO (OF.assign (VEv.int .i64 0)) (nt (sq (sr (mO (tI m) rfl (cO (cS (vc (tv (tI m) rfl) (vc (VEv.int .i64 1) (vc (VEv.int .i64 1000000000000) vn))) (ZX rfl) (QQ (n+0) m 1 1000000000000) rfl rfl) (fO (QZ (tv (tB (decide (1≤m∧m≤1000000000000))) rfl)) (nt ?_))))))))
 refine cn (1≤m∧m≤1000000000000) rfl (fun fhc0=> ?_) fun fhc0=> ?_
 ·refine sr ?_
  refine fO (OF.assign (VEv.int .i64 0)) (nt (rt (tr (vi (n':=0) rfl ?_))))
  unfold Jd;rw [if_neg fhc0]
 have hmd:=QaX n0 (m:=m) (by omega)
 have hmd2:=QaX (n0.tmod m+m) (m:=m) (by omega)
 refine sk (tn (sr (mO (tI n0) rfl (mO (tI m) rfl (fO (B.rem (n:=(n0.tmod m)) (tv (tI n0) rfl) (tv (tI m) rfl) (by omega) (by rfl)) (mO (tI m) rfl (fO (B.add (n:=((n0.tmod m)+m)) (tv (tI (n0.tmod m)) rfl) (tv (tI m) rfl) (by (rw [Qv (by omega)];done))) (mO (tI m) rfl (fO (B.rem (n:=(((n0.tmod m)+m).tmod m)) (tv (tI ((n0.tmod m)+m)) rfl) (tv (tI m) rfl) (by omega) (by rfl)) (aO (tI (((n0.tmod m)+m).tmod m)) rfl (nt ?_)))))))))))
 refine rt (vi (n':=(((n0.tmod m)+m).tmod m)) rfl ?_)
 unfold Jd;rw [if_pos (by omega)]
theorem QiP (n:Nat) (n0:Int) (m:Int):Pure (Qr Tryz.prog (n+2)) 194 [(tI n0),(tI m)] (tI (Jd n0 m)):=by
 refine Pure.intro (rs:= [ResultVar.tmp 4]) Tryz.func194 rfl rfl rfl (E0:= [(0,(tI n0)),(1,(tI m))]) rfl ?_
 obtain ⟨hlim,hmx,hmax⟩:=QG
 refine sr (fO (OF.assign (VEv.int .i64 0)) (nt (sq (sr (mO (tI m) rfl (cO (cS (vc (tv (tI m) rfl) (vc (VEv.int .i64 1) (vc (VEv.int .i64 1000000000000) vn))) (ZX rfl) (Q8 (n+0) m 1 1000000000000) rfl rfl) (fO (QZ (tv (tB (decide (1≤m∧m≤1000000000000))) rfl)) (nt ?_))))))))
 refine cn (1≤m∧m≤1000000000000) rfl (fun fhc0=> ?_) fun fhc0=> ?_
 ·refine sr ?_
  refine fO (OF.assign (VEv.int .i64 0)) (nt (rt (tr (vi (n':=0) rfl ?_))))
  unfold Jd;rw [if_neg fhc0]
 have hmd:=QaX n0 (m:=m) (by omega)
 have hmd2:=QaX (n0.tmod m+m) (m:=m) (by omega)
 refine sk (tn (sr (mO (tI n0) rfl (mO (tI m) rfl (fO (B.rem (n:=(n0.tmod m)) (tv (tI n0) rfl) (tv (tI m) rfl) (by omega) (by rfl)) (mO (tI m) rfl (fO (B.add (n:=((n0.tmod m)+m)) (tv (tI (n0.tmod m)) rfl) (tv (tI m) rfl) (by (rw [Qv (by omega)];done))) (mO (tI m) rfl (fO (B.rem (n:=(((n0.tmod m)+m).tmod m)) (tv (tI ((n0.tmod m)+m)) rfl) (tv (tI m) rfl) (by omega) (by rfl)) (aO (tI (((n0.tmod m)+m).tmod m)) rfl (nt ?_)))))))))))
 refine rt (vi (n':=(((n0.tmod m)+m).tmod m)) rfl ?_)
 unfold Jd;rw [if_pos (by omega)]
theorem Qil (n:Nat) (l:List Int) (hl:l.length≤YN):Pure (Qr Tryz.prog (n+3)) 176 [(rd 1 Qb l)] (tI (Q5 l)):=by
 refine Pure.intro (rs:= [ResultVar.tmp 2]) Tryz.func176 rfl rfl rfl (E0:= [(0,(rd 1 Qb l))]) rfl ?_
 obtain ⟨hlim,hmx,hmax⟩:=QG
 refine sr (fO (OF.assign (VEv.int .i64 0)) (nt (sr (fO (OF.assign (VEv.int .i64 11)) (nt (sq (sr (fO (OF.assign (VEv.int .i64 0)) (nt (VRun.block ?_))))))))))
 refine VRun.loop (A:=Nat) (fun s_=> [(0,(rd 1 Qb l)),(2,(tN 0)),(3,(tI (Q5 (l.take s_)))),(4,(tN s_))]) (fun s_=>QX []) 0 (fun s_=>s_≤l.length) (fun s_=>l.length - s_) (0:Nat) ?_ (Wk.mk (fun k=>k) ?_ ?_ ?_) ?_
 ·(simp;done)
 ·exact (b2 (b2 (bc ⟨(congrArg (T.int .i64) (show 11=Q5 (l.take 0) from (by rfl))),rfl⟩ (b2 bn))))
 ·exact bn
 ·exact nd rfl
 rintro i (hI':i≤l.length)
 show VRun _ _ _ [(0,(rd 1 Qb l)),(2,(tN 0)),(3,(tI (Q5 (l.take i)))),(4,(tN i))] (QX []) 0 _
 have hhb:=QhM (l.take i)
 refine sq (sr (mO (tN i) rfl (mO (rd 1 Qb l) rfl (lO (B.lenR (m:=l.length) (tv (rd 1 Qb l) rfl) Zt (List.length_map ..)) (fO (Zd (tv (tN i) rfl) (tv (tN l.length) rfl)) (nt ?_))))))
 refine cd (i<l.length) rfl (fun fhc0=> ?_) fun fhc0=> ?_
 ·refine sk ?_
  refine tn (sq (VRun.block (VRun.region (mO (tI (Q5 (l.take i))) rfl (fO (B.mul (n:=(Q5 (l.take i)*1000003)) (tv (tI (Q5 (l.take i))) rfl) (VEv.int .i64 1000003) (by (rw [Qv (by omega)];done))) (mO (rd 1 Qb l) rfl (mO (tN i) rfl ?_)))))))
  obtain ⟨x1,hx1⟩:∃x,l[i]? =some x:=⟨_,List.getElem?_eq_getElem (by omega)⟩
  have hmz:=Qg4 x1
  have hhs:=QeM (x:=x1) hhb
  have hhs2:Qdb (Q5 (l.take i)) x1=(Q5 (l.take i)*1000003+Jd x1 2147483647+13).tmod 2147483647:=rfl
  refine fO (OF.indexAddrR (row:=(Qb false x1)) (i:=i) (tv (rd 1 Qb l) rfl) (tv (tN i) rfl) rfl (Qt _ hx1) Zt Zb Yk) (lO (OL.loadR1 (t:=(tI x1)) (tv (T.rp [(tI x1)]) rfl) rfl QT) (cO (cS (vc (tv (tI x1) rfl) (vc (VEv.int .i64 2147483647) vn)) (ZX rfl) (Qi1 (n+0) x1 2147483647) rfl rfl) (fO (B.add (n:=((Q5 (l.take i)*1000003)+Jd x1 2147483647)) (tv (tI (Q5 (l.take i)*1000003)) rfl) (tv (tI (Jd x1 2147483647)) rfl) (by (rw [Qv (by omega)];done))) (fO (B.add (n:=(((Q5 (l.take i)*1000003)+Jd x1 2147483647)+13)) (tv (tI ((Q5 (l.take i)*1000003)+Jd x1 2147483647)) rfl) (VEv.int .i64 13) (by (rw [Qv (by omega)];done))) (fO (B.rem (n:=((((Q5 (l.take i)*1000003)+Jd x1 2147483647)+13).tmod 2147483647)) (tv (tI (((Q5 (l.take i)*1000003)+Jd x1 2147483647)+13)) rfl) (VEv.int .i64 2147483647) (by omega) (by rfl)) (aO (tI ((((Q5 (l.take i)*1000003)+Jd x1 2147483647)+13).tmod 2147483647)) rfl (VRunO.nil (vinB.n (tn (VRun.region (mO (tN i) rfl ?_)))))))))))
  refine fO (Qz (tv (tN i) rfl) (VEv.int .i64 1) (by omega)) (aO (tN (i+1)) rfl (VRunO.nil (tn ?_)))
  refine ⟨(i+1:Nat),?_,?_,Wk.mk (fun k=>k) ?_ ?_ ?_⟩
  ·trivial
  ·omega
  ·exact (b2 (b2 (bc ⟨(congrArg (T.int .i64) (show ((((Q5 (l.take i)*1000003)+Jd x1 2147483647)+13).tmod 2147483647)=Q5 (l.take (i+1)) from (by exact (QeE hx1).symm))),rfl⟩ (b2 bn))))
  ·exact bn
  ·exact nd rfl
 refine VRun.exit (vthn.e (vthn.e (vinB.e (tn (sr (mO (tI (Q5 (l.take i))) rfl (aO (tI (Q5 (l.take i))) rfl (nt (rt (vi (n':=Q5 (l.take i)) rfl ?_))))))))))
 rw [Y2 hI' fhc0]
theorem QhJ (n:Nat) (l:List Int) (hl:l.length≤YN):Pure (Qr Tryz.prog (n+3)) 179 [(rd 1 Qb l)] (tI (Q5 l)):=by
 refine Pure.intro (rs:= [ResultVar.tmp 2]) Tryz.func179 rfl rfl rfl (E0:= [(0,(rd 1 Qb l))]) rfl ?_
 obtain ⟨hlim,hmx,hmax⟩:=QG
 refine sr (fO (OF.assign (VEv.int .i64 0)) (nt (sr (fO (OF.assign (VEv.int .i64 11)) (nt (sq (sr (mO (rd 1 Qb l) rfl (lO (B.lenR (m:=l.length) (tv (rd 1 Qb l) rfl) Zt (List.length_map ..)) (fO (OF.move (VEv.int .i64 0)) (nt ?_)))))))))))
 refine VRun.block ?_
 refine VRun.loop (A:=Nat) (fun s_=> [(2,(tN 0)),(3,(tI (Q5 (l.take s_)))),(6,(rd 1 Qb l)),(7,(tN l.length)),(8,(tN s_))]) (fun s_=>QX []) 0 (fun s_=>s_≤l.length) (fun s_=>l.length - s_) (0:Nat) ?_ (Wk.mk (fun k=>k) ?_ ?_ ?_) ?_
 ·(simp;done)
 ·exact (b2 (bc ⟨(congrArg (T.int .i64) (show 11=Q5 (l.take 0) from (by rfl))),rfl⟩ (b2 (b2 (b2 bn)))))
 ·exact bn
 ·exact nd rfl
 rintro i (hI':i≤l.length)
 show VRun _ _ _ [(2,(tN 0)),(3,(tI (Q5 (l.take i)))),(6,(rd 1 Qb l)),(7,(tN l.length)),(8,(tN i))] (QX []) 0 _
 have hhb:=QhM (l.take i)
 refine sr (fO (Zd (tv (tN i) rfl) (tv (tN l.length) rfl)) (nt (sq ?_)))
 refine cd (i<l.length) rfl (fun fhc0=> ?_) fun fhc0=> ?_
 ·refine sk ?_
  refine tn (sq (VRun.block (sr ?_)))
  obtain ⟨x1,hx1⟩:∃x,l[i]? =some x:=⟨_,List.getElem?_eq_getElem (by omega)⟩
  have hmz:=Qg4 x1
  have hhs:=QeM (x:=x1) hhb
  have hhs2:Qdb (Q5 (l.take i)) x1=(Q5 (l.take i)*1000003+Jd x1 2147483647+13).tmod 2147483647:=rfl
  refine fO (OF.indexAddrR (row:=(Qb false x1)) (i:=i) (tv (rd 1 Qb l) rfl) (tv (tN i) rfl) rfl (Qt _ hx1) Zt Zb Yk) (lO (OL.loadR1 (t:=(tI x1)) (tv (T.rp [(tI x1)]) rfl) rfl QT) (aO (tI x1) rfl (nt (VRun.region (mO (tI (Q5 (l.take i))) rfl (fO (B.mul (n:=(Q5 (l.take i)*1000003)) (tv (tI (Q5 (l.take i))) rfl) (VEv.int .i64 1000003) (by (rw [Qv (by omega)];done))) (mO (tI x1) rfl (cO (cS (vc (tv (tI x1) rfl) (vc (VEv.int .i64 2147483647) vn)) (ZX rfl) (QiP (n+0) x1 2147483647) rfl rfl) (fO (B.add (n:=((Q5 (l.take i)*1000003)+Jd x1 2147483647)) (tv (tI (Q5 (l.take i)*1000003)) rfl) (tv (tI (Jd x1 2147483647)) rfl) (by (rw [Qv (by omega)];done))) (fO (B.add (n:=(((Q5 (l.take i)*1000003)+Jd x1 2147483647)+13)) (tv (tI ((Q5 (l.take i)*1000003)+Jd x1 2147483647)) rfl) (VEv.int .i64 13) (by (rw [Qv (by omega)];done))) (fO (B.rem (n:=((((Q5 (l.take i)*1000003)+Jd x1 2147483647)+13).tmod 2147483647)) (tv (tI (((Q5 (l.take i)*1000003)+Jd x1 2147483647)+13)) rfl) (VEv.int .i64 2147483647) (by omega) (by rfl)) ?_)))))))))))
  refine aO (tI ((((Q5 (l.take i)*1000003)+Jd x1 2147483647)+13).tmod 2147483647)) rfl (VRunO.nil (vinB.n (tn (VRun.region (fO (Qz (tv (tN i) rfl) (VEv.int .i64 1) (by omega)) (mO (tN (i+1)) rfl (VRunO.nil (tn ?_))))))))
  refine ⟨(i+1:Nat),?_,?_,Wk.mk (fun k=>k) ?_ ?_ ?_⟩
  ·trivial
  ·omega
  ·exact (b2 (bc ⟨(congrArg (T.int .i64) (show ((((Q5 (l.take i)*1000003)+Jd x1 2147483647)+13).tmod 2147483647)=Q5 (l.take (i+1)) from (by exact (QeE hx1).symm))),rfl⟩ (b2 (b2 (b2 bn)))))
  ·exact bn
  ·exact nd rfl
 refine VRun.exit (vthn.e (vthn.e (vinB.e (tn (sr (mO (tI (Q5 (l.take i))) rfl (aO (tI (Q5 (l.take i))) rfl (nt (rt (vi (n':=Q5 (l.take i)) rfl ?_))))))))))
 rw [Y2 hI' fhc0]
theorem Qdt (n:Nat) (s:ByteArray) (hs:s.size≤YN):Pure (Qr Tryz.prog (n+1)) 177 [(tS s)] (T.sl true 1 ((ZR s).map (Qb true))):=by
 refine Pure.intro (rs:= [ResultVar.tmp 2]) Tryz.func177 rfl rfl rfl (E0:= [(0,(tS s))]) rfl ?_
 obtain ⟨hlim,hmx,hmax⟩:=QG
 have hbl:=QbM s
 refine sr (fO (OF.assign VEv.nils) (nt (sr (kO (OM.slice0 Zt J7 (by kernel_rfl) rfl (by rw [Zb];decide) Zb) (aO (T.os 1 0 0 0) rfl (nt (sq (sr (fO (OF.assign (VEv.int .i64 0)) (nt (VRun.block ?_)))))))))))
 have he1: []=(((ZR s).take 0).map (Qb true)):=by rfl
 refine VRun.loop (A:=Nat) (fun s_=> [(0,(tS s)),(2,T.nils),(3,(T.os 1 0 0 ((((ZR s).take s_).map (Qb true)).length))),(4,(tN s_))]) (fun s_=>QX [(0,(Obj.rows 1 (((ZR s).take s_).map (Qb true))))]) 1 (fun s_=>s_≤s.size) (fun s_=>s.size - s_) (0:Nat) ?_ (Wk.mk (fun k=>k) ?_ ?_ ?_) ?_
 ·(simp;done)
 ·exact (b2 (b2 (bc ⟨(congrArg (fun n_=>T.os 1 0 0 n_) (show 0=(((ZR s).take 0).map (Qb true)).length from (by rfl))),rfl⟩ (b2 bn))))
 ·exact (bc ⟨(congrArg (fun l_=>some (Obj.rows 1 l_)) he1),(lb rfl),rfl⟩ bn)
 ·exact nd rfl
 rintro i (hI':i≤s.size)
 show VRun _ _ _ [(0,(tS s)),(2,T.nils),(3,(T.os 1 0 0 ((((ZR s).take i).map (Qb true)).length))),(4,(tN i))] (QX [(0,(Obj.rows 1 (((ZR s).take i).map (Qb true))))]) 1 _
 have htl:=Yw (ZR s) i
 have hbb:=Qlw s i
 refine sq (sr (mO (tN i) rfl (mO (tS s) rfl (lO (B.lenS (tv (tS s) rfl) U9) (fO (Zd (tv (tN i) rfl) (tv (tN s.size) rfl)) (nt ?_))))))
 refine cd (i<s.size) rfl (fun fhc0=> ?_) fun fhc0=> ?_
 ·refine sk ?_
  refine tn (sq (VRun.block (VRun.region (mO (T.os 1 0 0 ((((ZR s).take i).map (Qb true)).length)) rfl (mO (tS s) rfl (mO (tN i) rfl ?_))))))
  have hb2:i<s.size:=(by omega)
  refine fO (xix (tv (tS s) rfl) (tv (tN i) rfl) hb2 U9) (fO (xcv (m:=(Qx s i)) (tv (T.int .u8 (Qx s i)) rfl) U5 U3 (Qv (by omega))) (kO (OM.buildSlice (l:= [(tI (Qx s i))]) (VEvp.cons (tv (tI (Qx s i)) rfl) VEvp.nil) rfl (by decide) (bc (nofun) bn) (bc ((bc (rfl) bn)) bn) (bc (rfl) bn) Zt J7 (by kernel_rfl) rfl (by rw [Zb];decide) Zb (Nat.le_of_ble_eq_true rfl)) (cO (B.append (rows:=(((ZR s).take i).map (Qb true))) (rows2:= [[(tI (Qx s i))]]) (rows3:=(((ZR s).take i++ [Qx s i]).map (Qb true))) (VDst.own (tv (T.os 1 0 0 ((((ZR s).take i).map (Qb true)).length)) rfl) rfl rfl) (VSrc.own (tv (T.os 1 1 0 1) rfl) rfl rfl Zt (bc (bc rfl bn) bn)) (by decide) Zt Zb (by decide) J7 rfl (of_decide_eq_true (by kernel_rfl)) (by (simp only [List.length_map,List.length_append,List.length_cons,List.length_nil,List.length_replicate,List.length_set,List.length_drop,List.length_take,YN] at *;omega)) ((List.map_append (f:=Qb true) (l₁:=(ZR s).take i) (l₂:= [Qx s i])).symm)) (aO (T.os 1 2 0 ((((ZR s).take i++ [Qx s i]).map (Qb true)).length)) rfl (VRunO.nil (vinB.n (tn (VRun.region (mO (tN i) rfl (fO (Qz (tv (tN i) rfl) (VEv.int .i64 1) (by omega)) (aO (tN (i+1)) rfl ?_)))))))))))
  refine VRunO.nil (tn ?_)
  have he3:((ZR s).take i++ [Qx s i])=(ZR s).take (i+1):=by exact QhS fhc0
  refine ⟨(i+1:Nat),?_,?_,Wk.mk (fun k=>if k=0 then 2 else k) ?_ ?_ ?_⟩
  ·trivial
  ·omega
  ·exact (b2 (b2 (bc ⟨(congrArg (fun l_=>T.os 1 2 0 (List.map (Qb true) l_).length) he3),rfl⟩ (b2 bn))))
  ·exact (bc ⟨(congrArg (fun l_=>some (Obj.rows 1 (List.map (Qb true) l_))) he3),(lb rfl),rfl⟩ bn)
  ·exact nd rfl
 refine VRun.exit (vthn.e (vthn.e (vinB.e (tn (sr (mO (T.os 1 0 0 ((((ZR s).take i).map (Qb true)).length)) rfl (aO (T.os 1 0 0 ((((ZR s).take i).map (Qb true)).length)) rfl (nt (rt ?_)))))))))
 refine vfin.eq (r':=(T.sl true 1 (((ZR s).take i).map (Qb true)))) ?_ (vfin.r (VRes.tmp (t:=(T.os 1 0 0 ((((ZR s).take i).map (Qb true)).length))) rfl VRes.nil) (Give.os rfl rfl (okInt.cleanMap _)))
 show (T.sl true 1 (((ZR s).take i).map (Qb true)))=(T.sl true 1 ((ZR s).map (Qb true)))
 refine congrArg (fun l_=>T.sl true 1 (List.map (Qb true) l_)) ?_
 rw [Y2 (by omega) (by omega)]
theorem QdT (n:Nat) (s:ByteArray) (hs:s.size≤YN):Pure (Qr Tryz.prog (n+1)) 180 [(tS s)] (T.sl true 1 ((ZR s).map (Qb true))):=by
 refine Pure.intro (rs:= [ResultVar.tmp 2]) Tryz.func180 rfl rfl rfl (E0:= [(0,(tS s))]) rfl ?_
 obtain ⟨hlim,hmx,hmax⟩:=QG
 have hbl:=QbM s
 refine sr (fO (OF.assign VEv.nils) (nt (sr (fO (OF.assign VEv.nils) (nt (sq (sr (mO (tS s) rfl (lO (B.lenS (tv (tS s) rfl) U9) (fO (OF.move (VEv.int .i64 0)) (nt ?_)))))))))))
 refine VRun.block (VRun.wk (Wk.phantom 3 1 rfl) ?_)
 have he1: []=(((ZR s).take 0).map (Qb true)):=by rfl
 refine VRun.loop (A:=Nat) (fun s_=> [(0,(tS s)),(2,T.nils),(3,(T.os 1 0 0 ((((ZR s).take s_).map (Qb true)).length))),(6,(tN s.size)),(7,(tN s_))]) (fun s_=>QX [(0,(Obj.rows 1 (((ZR s).take s_).map (Qb true))))]) 1 (fun s_=>s_≤s.size) (fun s_=>s.size - s_) (0:Nat) ?_ (Wk.mk (fun k=>k) ?_ ?_ ?_) ?_
 ·(simp;done)
 ·exact (b2 (b2 (bc ⟨(congrArg (fun n_=>T.os 1 0 0 n_) (show 0=(((ZR s).take 0).map (Qb true)).length from (by rfl))),rfl⟩ (b2 (b2 bn)))))
 ·exact (bc ⟨(congrArg (fun l_=>some (Obj.rows 1 l_)) he1),(lb rfl),rfl⟩ bn)
 ·exact nd rfl
 rintro i (hI':i≤s.size)
 show VRun _ _ _ [(0,(tS s)),(2,T.nils),(3,(T.os 1 0 0 ((((ZR s).take i).map (Qb true)).length))),(6,(tN s.size)),(7,(tN i))] (QX [(0,(Obj.rows 1 (((ZR s).take i).map (Qb true))))]) 1 _
 have htl:=Yw (ZR s) i
 have hbb:=Qlw s i
 refine sr (fO (Zd (tv (tN i) rfl) (tv (tN s.size) rfl)) (nt (sq ?_)))
 refine cd (i<s.size) rfl (fun fhc0=> ?_) fun fhc0=> ?_
 ·refine sk ?_
  refine tn (sq (VRun.block (sr (mO (tN i) rfl (aO (tN i) rfl (nt (VRun.region (mO (T.os 1 0 0 ((((ZR s).take i).map (Qb true)).length)) rfl (mO (tS s) rfl (mO (tN i) rfl ?_))))))))))
  have hb2:i<s.size:=(by omega)
  refine fO (xix (tv (tS s) rfl) (tv (tN i) rfl) hb2 U9) (fO (xcv (m:=(Qx s i)) (tv (T.int .u8 (Qx s i)) rfl) U5 U3 (Qv (by omega))) (kO (OM.buildSlice (l:= [(tI (Qx s i))]) (VEvp.cons (tv (tI (Qx s i)) rfl) VEvp.nil) rfl (by decide) (bc (nofun) bn) (bc ((bc (rfl) bn)) bn) (bc (rfl) bn) Zt J7 (by kernel_rfl) rfl (by rw [Zb];decide) Zb (Nat.le_of_ble_eq_true rfl)) (cO (B.append (rows:=(((ZR s).take i).map (Qb true))) (rows2:= [[(tI (Qx s i))]]) (rows3:=(((ZR s).take i++ [Qx s i]).map (Qb true))) (VDst.own (tv (T.os 1 0 0 ((((ZR s).take i).map (Qb true)).length)) rfl) rfl rfl) (VSrc.own (tv (T.os 1 1 0 1) rfl) rfl rfl Zt (bc (bc rfl bn) bn)) (by decide) Zt Zb (by decide) J7 rfl (of_decide_eq_true (by kernel_rfl)) (by (simp only [List.length_map,List.length_append,List.length_cons,List.length_nil,List.length_replicate,List.length_set,List.length_drop,List.length_take,YN] at *;omega)) ((List.map_append (f:=Qb true) (l₁:=(ZR s).take i) (l₂:= [Qx s i])).symm)) (aO (T.os 1 2 0 ((((ZR s).take i++ [Qx s i]).map (Qb true)).length)) rfl (VRunO.nil (vinB.n (tn (VRun.region (fO (Qz (tv (tN i) rfl) (VEv.int .i64 1) (by omega)) (mO (tN (i+1)) rfl (VRunO.nil ?_)))))))))))
  refine tn ?_
  have he3:((ZR s).take i++ [Qx s i])=(ZR s).take (i+1):=by exact QhS fhc0
  refine ⟨(i+1:Nat),?_,?_,Wk.mk (fun k=>if k=0 then 2 else k) ?_ ?_ ?_⟩
  ·trivial
  ·omega
  ·exact (b2 (b2 (bc ⟨(congrArg (fun l_=>T.os 1 2 0 (List.map (Qb true) l_).length) he3),rfl⟩ (b2 (b2 bn)))))
  ·exact (bc ⟨(congrArg (fun l_=>some (Obj.rows 1 (List.map (Qb true) l_))) he3),(lb rfl),rfl⟩ bn)
  ·exact nd rfl
 refine VRun.exit (vthn.e (vthn.e (vinB.e (tn (sr (mO (T.os 1 0 0 ((((ZR s).take i).map (Qb true)).length)) rfl (aO (T.os 1 0 0 ((((ZR s).take i).map (Qb true)).length)) rfl (nt (rt ?_)))))))))
 refine vfin.eq (r':=(T.sl true 1 (((ZR s).take i).map (Qb true)))) ?_ (vfin.r (VRes.tmp (t:=(T.os 1 0 0 ((((ZR s).take i).map (Qb true)).length))) rfl VRes.nil) (Give.os rfl rfl (okInt.cleanMap _)))
 show (T.sl true 1 (((ZR s).take i).map (Qb true)))=(T.sl true 1 ((ZR s).map (Qb true)))
 refine congrArg (fun l_=>T.sl true 1 (List.map (Qb true) l_)) ?_
 rw [Y2 (by omega) (by omega)]
theorem Qdd (n:Nat) (salt:Int) (slot:Int) (w:ByteArray) (hw:w.size≤maxLen):Pure (Qr Tryz.prog (n+4)) 147 [(tI salt),(tI slot),(tS w)] (tI (JC salt slot w)):=by
 refine Pure.intro (rs:= [ResultVar.tmp 6]) Tryz.func147 rfl rfl rfl (E0:= [(0,(tI salt)),(1,(tI slot)),(2,(tS w))]) rfl ?_
 obtain ⟨hlim,hmx,hmax⟩:=QG
 have hbl:=QbM w
 refine sr (fO (OF.assign (VEv.int .i64 0)) (nt (sq (sr (mO (tS w) rfl (cO (cS (vc (tv (tS w) rfl) vn) (ZX rfl) (Qaq (n+1) w (by assumption)) rfl rfl) (fO (QZ (tv (tB (decide (Zr w))) rfl)) (nt ?_))))))))
 refine cn (Zr w) rfl (fun fhc0=> ?_) fun fhc0=> ?_
 ·refine sr ?_
  refine fO (OF.assign (VEv.int .i64 0)) (nt (rt (tr (vi (n':=0) rfl ?_))))
  unfold JC;rw [if_neg fhc0]
 have hw8:=fhc0.1.2
 refine sk (tn (sr (mO (tI salt) rfl (mO (tI slot) rfl (mO (tS w) rfl (lO (B.lenS (tv (tS w) rfl) U9) (kO (OM.buildSlice (l:= [(tI salt),(tI slot),(tN w.size)]) (VEvp.cons (tv (tI salt) rfl) (VEvp.cons (tv (tI slot) rfl) (VEvp.cons (tv (tN w.size) rfl) VEvp.nil))) rfl (by decide) (bc (nofun) (bc (nofun) (bc (nofun) bn))) (bc ((bc (rfl) bn)) (bc ((bc (rfl) bn)) (bc ((bc (rfl) bn)) bn))) (bc (rfl) (bc (rfl) (bc (rfl) bn))) Zt J7 (by kernel_rfl) rfl (by rw [Zb];decide) Zb (Nat.le_of_ble_eq_true rfl)) (mO (tS w) rfl (cO (OC.callF (us:= [(tS w)]) (r:=(T.sl true 1 ((ZR w).map (Qb true)))) (r':=(T.os 1 1 0 (((ZR w).map (Qb true)).length))) (objs:= [(Obj.rows 1 ((ZR w).map (Qb true)))]) rfl (vc (tv (tS w) rfl) vn) (ZX rfl) (Qdt (n+2) w (by omega)) rfl) (cO (B.append (rows:= [[(tI salt)],[(tI slot)],[(tN w.size)]]) (rows2:=((ZR w).map (Qb true))) (rows3:=(([salt,slot,((w.size:Nat):Int)]++ZR w).map (Qb true))) (VDst.own (tv (T.os 1 0 0 3) rfl) rfl rfl) (VSrc.own (tv (T.os 1 1 0 (((ZR w).map (Qb true)).length)) rfl) rfl rfl Zt (okInt.okMap _ _)) (by decide) Zt Zb (by decide) J7 rfl (of_decide_eq_true (by kernel_rfl)) (by (simp only [List.length_append,List.length_cons,List.length_nil,List.length_map];omega)) ((List.map_append (f:=Qb true) (l₁:= [salt,slot,((w.size:Nat):Int)]) (l₂:=ZR w)).symm)) (cO (cS (us:= [(rd 1 Qb ([salt,slot,((w.size:Nat):Int)]++ZR w))]) (vc (tv (T.os 1 2 0 ((([salt,slot,((w.size:Nat):Int)]++ZR w).map (Qb true)).length)) rfl) vn) (LendL.cons (Lend.os rfl rfl (okInt.fzMap _ _)) ln) (Qil (n+0) ([salt,slot,((w.size:Nat):Int)]++ZR w) (by (simp only [List.length_append,List.length_cons,List.length_nil,List.length_map];omega))) rfl rfl) ?_)))))))))))
 refine aO (tI (Q5 ([salt,slot,((w.size:Nat):Int)]++ZR w))) rfl (nt (rt (vi (n':=Q5 ([salt,slot,((w.size:Nat):Int)]++ZR w)) rfl ?_)))
 unfold JC;rw [if_pos fhc0]
theorem Qc9 (n:Nat) (salt:Int) (slot:Int) (w:ByteArray) (hw:w.size≤maxLen):Pure (Qr Tryz.prog (n+4)) 151 [(tI salt),(tI slot),(tS w)] (tI (JC salt slot w)):=by
 refine Pure.intro (rs:= [ResultVar.tmp 6]) Tryz.func151 rfl rfl rfl (E0:= [(0,(tI salt)),(1,(tI slot)),(2,(tS w))]) rfl ?_
 obtain ⟨hlim,hmx,hmax⟩:=QG
 have hbl:=QbM w
 refine sr (fO (OF.assign (VEv.int .i64 0)) (nt (sq (sr (mO (tS w) rfl (cO (cS (vc (tv (tS w) rfl) vn) (ZX rfl) (Qax (n+1) w (by assumption)) rfl rfl) (fO (QZ (tv (tB (decide (Zr w))) rfl)) (nt ?_))))))))
 refine cn (Zr w) rfl (fun fhc0=> ?_) fun fhc0=> ?_
 ·refine sr ?_
  refine fO (OF.assign (VEv.int .i64 0)) (nt (rt (tr (vi (n':=0) rfl ?_))))
  unfold JC;rw [if_neg fhc0]
 have hw8:=fhc0.1.2
 refine sk (tn (sr (mO (tI salt) rfl (mO (tI slot) rfl (mO (tS w) rfl (lO (B.lenS (tv (tS w) rfl) U9) (kO (OM.buildSlice (l:= [(tI salt),(tI slot),(tN w.size)]) (VEvp.cons (tv (tI salt) rfl) (VEvp.cons (tv (tI slot) rfl) (VEvp.cons (tv (tN w.size) rfl) VEvp.nil))) rfl (by decide) (bc (nofun) (bc (nofun) (bc (nofun) bn))) (bc ((bc (rfl) bn)) (bc ((bc (rfl) bn)) (bc ((bc (rfl) bn)) bn))) (bc (rfl) (bc (rfl) (bc (rfl) bn))) Zt J7 (by kernel_rfl) rfl (by rw [Zb];decide) Zb (Nat.le_of_ble_eq_true rfl)) (mO (tS w) rfl (cO (OC.callF (us:= [(tS w)]) (r:=(T.sl true 1 ((ZR w).map (Qb true)))) (r':=(T.os 1 1 0 (((ZR w).map (Qb true)).length))) (objs:= [(Obj.rows 1 ((ZR w).map (Qb true)))]) rfl (vc (tv (tS w) rfl) vn) (ZX rfl) (QdT (n+2) w (by omega)) rfl) (cO (B.append (rows:= [[(tI salt)],[(tI slot)],[(tN w.size)]]) (rows2:=((ZR w).map (Qb true))) (rows3:=(([salt,slot,((w.size:Nat):Int)]++ZR w).map (Qb true))) (VDst.own (tv (T.os 1 0 0 3) rfl) rfl rfl) (VSrc.own (tv (T.os 1 1 0 (((ZR w).map (Qb true)).length)) rfl) rfl rfl Zt (okInt.okMap _ _)) (by decide) Zt Zb (by decide) J7 rfl (of_decide_eq_true (by kernel_rfl)) (by (simp only [List.length_append,List.length_cons,List.length_nil,List.length_map];omega)) ((List.map_append (f:=Qb true) (l₁:= [salt,slot,((w.size:Nat):Int)]) (l₂:=ZR w)).symm)) (cO (cS (us:= [(rd 1 Qb ([salt,slot,((w.size:Nat):Int)]++ZR w))]) (vc (tv (T.os 1 2 0 ((([salt,slot,((w.size:Nat):Int)]++ZR w).map (Qb true)).length)) rfl) vn) (LendL.cons (Lend.os rfl rfl (okInt.fzMap _ _)) ln) (QhJ (n+0) ([salt,slot,((w.size:Nat):Int)]++ZR w) (by (simp only [List.length_append,List.length_cons,List.length_nil,List.length_map];omega))) rfl rfl) ?_)))))))))))
 refine aO (tI (Q5 ([salt,slot,((w.size:Nat):Int)]++ZR w))) rfl (nt (rt (vi (n':=Q5 ([salt,slot,((w.size:Nat):Int)]++ZR w)) rfl ?_)))
 unfold JC;rw [if_pos fhc0]
theorem Qb2 (n:Nat) (seals:List Int) (salt:Int) (slot:Int) (w:ByteArray) (hl:seals.length≤YN) (hw:w.size≤maxLen):Pure (Qr Tryz.prog (n+5)) 121 [(rd 1 Qb seals),(tI salt),(tI slot),(tS w)] (tB (decide (Qfi seals salt slot w))):=by
 refine Pure.intro (rs:= [ResultVar.tmp 8]) Tryz.func121 rfl rfl rfl (E0:= [(0,(rd 1 Qb seals)),(1,(tI salt)),(2,(tI slot)),(3,(tS w))]) rfl ?_
 obtain ⟨hlim,hmx,hmax⟩:=QG
 refine sr (fO (OF.assign (VEv.bool false)) (nt (sq (VRun.draw (B:= [[],[],[1],[1,2],[2,1,3,0],[0,3,1,2,4],[4,2,1,3,0,5],[5,0,3,1,2,4,6],[6,7,4,2,1,3,0,5],[5,0,3,1,2,4,7,6,8],[8,6,7,4,2,1,3,0,5,9],[8,6,7,4,2,1,3,0,5,9],[8,6,7,4,2,1,3,0,5,9],[12,11,9,5,0,3,1,2,4,7,6,8,10],[8,6,7,4,2,1,3,0,5,9],[8,6,7,4,2,1,3,0,5,9],[15,9,5,0,3,1,2,4,7,6,8,14],[14,8,6,7,4,2,1,3,0,5,9,15,16],[16,15,14,17,10,8,6,7,4,2,1,3,0,5,9,11,12,13],[13,12,11,10,17,14,15,16,18,8,6,7,4,2,1,3,0,5,9],[9,5,0,3,1,2,4,7,6,8,18,16,15,14,17,10,11,12,13,19]]) (by kernel_rfl) (by kernel_rfl) (mD (tI slot) rfl rfl (mD (rd 1 Qb seals) rfl rfl (lD (B.lenR (m:=seals.length) (tv (rd 1 Qb seals) rfl) Zt (List.length_map ..)) rfl rfl (fD (B.sub (n:=(((seals.length:Nat):Int) - 1)) (tv (tN seals.length) rfl) (VEv.int .i64 1) (by (rw [Qv (by omega)];done))) rfl rfl (VRunD.quiet (bi:= [2,1,3,0]) rfl VWant.always rfl rfl rfl bn (cS (vc (tv (tI slot) rfl) (vc (VEv.int .i64 0) (vc (tv (tI (((seals.length:Nat):Int) - 1)) rfl) vn))) (ZX rfl) (QQ (n+3) slot 0 (((seals.length:Nat):Int) - 1)) rfl rfl) (mD (tB (decide (0≤slot∧slot≤(((seals.length:Nat):Int) - 1)))) rfl rfl ?_))))))))))
 refine gw (0≤slot∧slot≤(((seals.length:Nat):Int) - 1)) (fun fhg14_1=> ?_) fun fhg14_1=> ?_
 ·refine VRunD.free rfl (VWant.on rfl rfl (dy fhg14_1)) rfl (OF.move (tv (tS w) rfl)) ?_
  refine VRunD.quiet (bi:= [5,0,3,1,2,4,6]) rfl (VWant.on rfl rfl (dy fhg14_1)) rfl rfl rfl bn (cS (vc (tv (tS w) rfl) vn) (ZX rfl) (Qaq (n+2) w (by assumption)) rfl rfl) (fD (OF.pickT (VEv.tmpB rfl (dy fhg14_1)) (tv (tB (decide (Zr w))) rfl)) rfl rfl (mD (tB (decide (Zr w))) rfl rfl ?_))
  refine gw (Zr w) (fun fhg18_2=> ?_) fun fhg18_2=> ?_
  ·refine VRunD.free rfl (VWant.on rfl rfl (dy fhg18_2)) rfl (OF.move (tv (tI salt) rfl)) ?_
   refine VRunD.free rfl (VWant.on rfl rfl (dy fhg18_2)) rfl (OF.move (tv (tI slot) rfl)) (VRunD.free rfl (VWant.on rfl rfl (dy fhg18_2)) rfl (OF.move (tv (tS w) rfl)) (VRunD.quiet (bi:= [12,11,9,5,0,3,1,2,4,7,6,8,10]) rfl (VWant.on rfl rfl (dy fhg18_2)) rfl rfl rfl bn (cS (vc (tv (tI salt) rfl) (vc (tv (tI slot) rfl) (vc (tv (tS w) rfl) vn))) (ZX rfl) (Qdd (n+0) salt slot w (by assumption)) rfl rfl) (VRunD.free rfl (VWant.on rfl rfl (dy fhg18_2)) rfl (OF.move (tv (rd 1 Qb seals) rfl)) (VRunD.free rfl (VWant.on rfl rfl (dy fhg18_2)) rfl (OF.move (tv (tI slot) rfl)) ?_))))
   obtain ⟨x1,hx1⟩:∃x,seals[(Int.toNat slot)]? =some x:=⟨_,List.getElem?_eq_getElem (by omega)⟩
   refine VRunD.free rfl (VWant.on rfl rfl (dy fhg18_2)) rfl (OF.indexAddrR (row:=(Qb false x1)) (i:=(Int.toNat slot)) (tv (rd 1 Qb seals) rfl) (tv (tI slot) rfl) (by omega) (Qt _ hx1) Zt Zb Yk) (VRunD.look rfl (VWant.on rfl rfl (dy fhg18_2)) rfl (OL.loadR1 (t:=(tI x1)) (tv (T.rp [(tI x1)]) rfl) rfl QT) (VRunD.free rfl (VWant.on rfl rfl (dy fhg18_2)) rfl (Y3 (tv (tI (JC salt slot w)) rfl) (tv (tI x1) rfl)) (fD (OF.pickT (VEv.tmpB rfl (dy fhg18_2)) (tv (tB (decide (JC salt slot w=x1))) rfl)) rfl rfl (fD (OF.assign (tv (tB (decide (JC salt slot w=x1))) rfl)) rfl rfl (VRunD.nil (tn (rt (vb (b':=(decide (JC salt slot w=x1))) rfl ?_))))))))
   (refine Q4 (QjE ?_ ?_ hx1);omega;assumption)
  refine oD rfl rfl (dz fhg18_2) rfl (oD rfl rfl (dz fhg18_2) rfl (oD rfl rfl (dz fhg18_2) rfl (oD rfl rfl (dz fhg18_2) rfl (oD rfl rfl (dz fhg18_2) rfl (oD rfl rfl (dz fhg18_2) rfl (oD rfl rfl (dz fhg18_2) rfl (oD rfl rfl (dz fhg18_2) rfl (oD rfl rfl (dz fhg18_2) rfl (fD (OF.pickF (VEv.tmpB rfl (dz fhg18_2)) (VEv.bool false)) rfl rfl (fD (OF.assign (tv (tB false) rfl)) rfl rfl (VRunD.nil ?_)))))))))))
  refine tn (rt (vb (b':=false) rfl ?_))
  (symm;rw [decide_eq_false_iff_not];intro h;have h2:=QeB h;have h3:=h.1;exact absurd h.2.1 (by assumption))
 refine oD rfl rfl (dz fhg14_1) rfl (oD rfl rfl (dz fhg14_1) rfl (fD (OF.pickF (VEv.tmpB rfl (dz fhg14_1)) (VEv.bool false)) rfl rfl (mD (tB false) rfl rfl (VRunD.off rfl (VWant.not (b:=false) rfl rfl rfl) (VRunD.off rfl (VWant.not (b:=false) rfl rfl rfl) (VRunD.off rfl (VWant.not (b:=false) rfl rfl rfl) (VRunD.off rfl (VWant.not (b:=false) rfl rfl rfl) (VRunD.off rfl (VWant.not (b:=false) rfl rfl rfl) (VRunD.off rfl (VWant.not (b:=false) rfl rfl rfl) (VRunD.off rfl (VWant.not (b:=false) rfl rfl rfl) (VRunD.off rfl (VWant.not (b:=false) rfl rfl rfl) ?_)))))))))))
 refine VRunD.off rfl (VWant.not (b:=false) rfl rfl rfl) (fD (OF.pickF (tv (tB false) rfl) (VEv.bool false)) rfl rfl (fD (OF.assign (tv (tB false) rfl)) rfl rfl (VRunD.nil (tn (rt (vb (b':=false) rfl ?_))))))
 (symm;rw [decide_eq_false_iff_not];intro h;have h2:=QeB h;have h3:=h.1;omega)
theorem QbW (n:Nat) (seals:List Int) (salt:Int) (slot:Int) (w:ByteArray) (hl:seals.length≤YN) (hw:w.size≤maxLen):Pure (Qr Tryz.prog (n+5)) 123 [(rd 1 Qb seals),(tI salt),(tI slot),(tS w)] (tB (decide (Qfi seals salt slot w))):=by
 refine Pure.intro (rs:= [ResultVar.tmp 8]) Tryz.func123 rfl rfl rfl (E0:= [(0,(rd 1 Qb seals)),(1,(tI salt)),(2,(tI slot)),(3,(tS w))]) rfl ?_
 obtain ⟨hlim,hmx,hmax⟩:=QG
 refine sr (fO (OF.assign (VEv.bool false)) (nt (sq (VRun.draw (B:= [[],[],[1],[1,2,0],[0,2,1,3],[3,1,2,0,4],[4,0,2,1,3,5],[5,6,3,1,2,0,4],[4,0,2,1,3,6,5,7],[7,5,6,3,1,2,0,4,8],[7,5,6,3,1,2,0,4,8],[7,5,6,3,1,2,0,4,8],[11,10,8,4,0,2,1,3,6,5,7,9],[7,5,6,3,1,2,0,4,8],[7,5,6,3,1,2,0,4,8],[14,8,4,0,2,1,3,6,5,7,13],[13,7,5,6,3,1,2,0,4,8,14,15],[15,14,13,16,9,7,5,6,3,1,2,0,4,8,10,11,12],[12,11,10,9,16,13,14,15,17,7,5,6,3,1,2,0,4,8],[8,4,0,2,1,3,6,5,7,17,15,14,13,16,9,10,11,12,18]]) (by kernel_rfl) (by kernel_rfl) (mD (tI slot) rfl rfl (mD (rd 1 Qb seals) rfl rfl (lD (B.lenR (m:=seals.length) (tv (rd 1 Qb seals) rfl) Zt (List.length_map ..)) rfl rfl (VRunD.quiet (bi:= [1,2,0]) rfl VWant.always rfl rfl rfl bn (cS (vc (tv (tI slot) rfl) (vc (tv (tN seals.length) rfl) vn)) (ZX rfl) (Jk (n+3) slot ((seals.length:Nat):Int)) rfl rfl) (mD (tB (decide (0≤slot∧slot<((seals.length:Nat):Int)))) rfl rfl ?_)))))))))
 refine gw (0≤slot∧slot<((seals.length:Nat):Int)) (fun fhg13_1=> ?_) fun fhg13_1=> ?_
 ·refine VRunD.free rfl (VWant.on rfl rfl (dy fhg13_1)) rfl (OF.move (tv (tS w) rfl)) ?_
  refine VRunD.quiet (bi:= [4,0,2,1,3,5]) rfl (VWant.on rfl rfl (dy fhg13_1)) rfl rfl rfl bn (cS (vc (tv (tS w) rfl) vn) (ZX rfl) (Qax (n+2) w (by assumption)) rfl rfl) (fD (OF.pickT (VEv.tmpB rfl (dy fhg13_1)) (tv (tB (decide (Zr w))) rfl)) rfl rfl (mD (tB (decide (Zr w))) rfl rfl ?_))
  refine gw (Zr w) (fun fhg17_2=> ?_) fun fhg17_2=> ?_
  ·refine VRunD.free rfl (VWant.on rfl rfl (dy fhg17_2)) rfl (OF.move (tv (tI salt) rfl)) ?_
   refine VRunD.free rfl (VWant.on rfl rfl (dy fhg17_2)) rfl (OF.move (tv (tI slot) rfl)) (VRunD.free rfl (VWant.on rfl rfl (dy fhg17_2)) rfl (OF.move (tv (tS w) rfl)) (VRunD.quiet (bi:= [11,10,8,4,0,2,1,3,6,5,7,9]) rfl (VWant.on rfl rfl (dy fhg17_2)) rfl rfl rfl bn (cS (vc (tv (tI salt) rfl) (vc (tv (tI slot) rfl) (vc (tv (tS w) rfl) vn))) (ZX rfl) (Qc9 (n+0) salt slot w (by assumption)) rfl rfl) (VRunD.free rfl (VWant.on rfl rfl (dy fhg17_2)) rfl (OF.move (tv (rd 1 Qb seals) rfl)) (VRunD.free rfl (VWant.on rfl rfl (dy fhg17_2)) rfl (OF.move (tv (tI slot) rfl)) ?_))))
   obtain ⟨x1,hx1⟩:∃x,seals[(Int.toNat slot)]? =some x:=⟨_,List.getElem?_eq_getElem (by omega)⟩
   refine VRunD.free rfl (VWant.on rfl rfl (dy fhg17_2)) rfl (OF.indexAddrR (row:=(Qb false x1)) (i:=(Int.toNat slot)) (tv (rd 1 Qb seals) rfl) (tv (tI slot) rfl) (by omega) (Qt _ hx1) Zt Zb Yk) (VRunD.look rfl (VWant.on rfl rfl (dy fhg17_2)) rfl (OL.loadR1 (t:=(tI x1)) (tv (T.rp [(tI x1)]) rfl) rfl QT) (VRunD.free rfl (VWant.on rfl rfl (dy fhg17_2)) rfl (Y3 (tv (tI (JC salt slot w)) rfl) (tv (tI x1) rfl)) (fD (OF.pickT (VEv.tmpB rfl (dy fhg17_2)) (tv (tB (decide (JC salt slot w=x1))) rfl)) rfl rfl (fD (OF.assign (tv (tB (decide (JC salt slot w=x1))) rfl)) rfl rfl (VRunD.nil (tn (rt (vb (b':=(decide (JC salt slot w=x1))) rfl ?_))))))))
   (refine Q4 (QjE ?_ ?_ hx1);omega;assumption)
  refine oD rfl rfl (dz fhg17_2) rfl (oD rfl rfl (dz fhg17_2) rfl (oD rfl rfl (dz fhg17_2) rfl (oD rfl rfl (dz fhg17_2) rfl (oD rfl rfl (dz fhg17_2) rfl (oD rfl rfl (dz fhg17_2) rfl (oD rfl rfl (dz fhg17_2) rfl (oD rfl rfl (dz fhg17_2) rfl (oD rfl rfl (dz fhg17_2) rfl (fD (OF.pickF (VEv.tmpB rfl (dz fhg17_2)) (VEv.bool false)) rfl rfl (fD (OF.assign (tv (tB false) rfl)) rfl rfl (VRunD.nil ?_)))))))))))
  refine tn (rt (vb (b':=false) rfl ?_))
  (symm;rw [decide_eq_false_iff_not];intro h;have h2:=QeB h;have h3:=h.1;exact absurd h.2.1 (by assumption))
 refine oD rfl rfl (dz fhg13_1) rfl (oD rfl rfl (dz fhg13_1) rfl (fD (OF.pickF (VEv.tmpB rfl (dz fhg13_1)) (VEv.bool false)) rfl rfl (mD (tB false) rfl rfl (VRunD.off rfl (VWant.not (b:=false) rfl rfl rfl) (VRunD.off rfl (VWant.not (b:=false) rfl rfl rfl) (VRunD.off rfl (VWant.not (b:=false) rfl rfl rfl) (VRunD.off rfl (VWant.not (b:=false) rfl rfl rfl) (VRunD.off rfl (VWant.not (b:=false) rfl rfl rfl) (VRunD.off rfl (VWant.not (b:=false) rfl rfl rfl) (VRunD.off rfl (VWant.not (b:=false) rfl rfl rfl) (VRunD.off rfl (VWant.not (b:=false) rfl rfl rfl) ?_)))))))))))
 refine VRunD.off rfl (VWant.not (b:=false) rfl rfl rfl) (fD (OF.pickF (tv (tB false) rfl) (VEv.bool false)) rfl rfl (fD (OF.assign (tv (tB false) rfl)) rfl rfl (VRunD.nil (tn (rt (vb (b':=false) rfl ?_))))))
 (symm;rw [decide_eq_false_iff_not];intro h;have h2:=QeB h;have h3:=h.1;omega)
noncomputable section
def QL (g:D.Grid) (f:ByteArray) (seals:List Int) (salt:Int):Nat→List Int
 | 0=> []
 | i+1=>QL g f seals salt i++(if Qfi seals salt ((i:Nat):Int) (Z8 g f ((i:Nat):Int)) then [((i:Nat):Int)] else [])
def Zw (g:D.Grid) (f:ByteArray) (seals:List Int) (salt:Int):List Int:=if Q3 g f then QL g f seals salt (Qc g).length else []
theorem Qa1 (g:D.Grid) (f:ByteArray) (seals:List Int) (salt:Int):∀i,(QL g f seals salt i).length≤i
 | 0=>Nat.le_refl _
 | i+1=>by
  have:=Qa1 g f seals salt i
  unfold QL
  rw [List.length_append]
  split<;>simp only [List.length_cons,List.length_nil]<;>omega
theorem QeI (g:D.Grid) (f:ByteArray) (seals:List Int) (salt:Int):(Zw g f seals salt).length≤72:=by
 unfold Zw
 split
 ·exact Nat.le_trans (Qa1 _ _ _ _ _) (Zm g)
 ·simp
theorem Qgu {g:D.Grid} {f:ByteArray} {seals:List Int} {salt:Int} {i:Nat} (h:Qfi seals salt ((i:Nat):Int) (Z8 g f ((i:Nat):Int))):QL g f seals salt i++ [((i:Nat):Int)]=QL g f seals salt (i+1):=by rw [QL,if_pos h]
theorem QhZ {g:D.Grid} {f:ByteArray} {seals:List Int} {salt:Int} {i:Nat} (h:¬Qfi seals salt ((i:Nat):Int) (Z8 g f ((i:Nat):Int))):QL g f seals salt i=QL g f seals salt (i+1):=by rw [QL,if_neg h,List.append_nil]
theorem Qgi {g:D.Grid} {f:ByteArray} {seals:List Int} {salt:Int} {i:Nat} (h1:i≤(Qc g).length) (h2:Q3 g f∨i=0) (h3:¬(i<(Qc g).length∧Q3 g f)):QL g f seals salt i=Zw g f seals salt:=by
 unfold Zw
 by_cases h:Q3 g f
 ·rw [if_pos h,show i=(Qc g).length by have:¬i<(Qc g).length:=fun e=>h3 ⟨e,h⟩;omega]
 ·rw [if_neg h,h2.resolve_left h];rfl
theorem Qc5 (g:D.Grid) (f:ByteArray) (slot:Int):(Z8 g f slot).size≤6:=by
 unfold Z8
 split
 ·split
  ·rename_i s hs
   split
   ·rw [Qh9];exact QbT hs
   ·exact Nat.zero_le _
  ·exact Nat.zero_le _
 ·exact Nat.zero_le _
theorem Qio (g:D.Grid) (f:ByteArray):(ZY g f).length≤(Qc g).length:=by
 by_cases h:Q3 g f
 ·rw [Qgg h];exact Nat.le_refl _
 ·unfold ZY;rw [if_neg h];exact Nat.zero_le _
theorem QkL {g:D.Grid} {f:ByteArray} (h:¬Q3 g f):ZY g f= []:=if_neg h
theorem Qi4 {g:D.Grid} {f:ByteArray} {seals:List Int} {salt:Int} {i:Nat} (h1:i≤(ZY g f).length) (h2:¬i<(ZY g f).length):QL g f seals salt i=Zw g f seals salt:=by
 have hpl:=Qio g f
 refine Qgi (by omega) ?_ ?_
 ·by_cases h:Q3 g f
  ·exact .inl h
  ·right;rw [QkL h] at h1;exact Nat.le_zero.1 h1
 ·rintro ⟨h3,h4⟩;rw [Qgg h4] at h2;exact h2 h3
end
theorem QcI (n:Nat) (g:D.Grid) (f:ByteArray) (seals:List Int) (salt:Int) (hc:g.Cells.size≤maxLen) (hf:f.size≤maxLen) (hl:seals.length≤YN):Pure (Qr Tryz.prog (n+6)) 89 [(T.agg (Qd false g)),(tS f),(rd 1 Qb seals),(tI salt)] (T.sl true 1 ((Zw g f seals salt).map (Qb true))):=by
 refine Pure.intro (rs:= [ResultVar.tmp 8]) Tryz.func89 rfl rfl rfl (E0:= [(0,(T.agg (Qd false g))),(1,(tS f)),(2,(rd 1 Qb seals)),(3,(tI salt))]) rfl ?_
 obtain ⟨hlim,hmx,hmax⟩:=QG
 have hsl:=Zm g
 refine sr (kO (B.box (ts:=(Qd false g)) (tv (T.agg (Qd false g)) rfl) nofun rfl) (fO (OF.assign VEv.nils) (nt (sr (kO (OM.slice0 Zt J7 (by kernel_rfl) rfl (by rw [Zb];decide) Zb) (aO (T.os 1 1 0 0) rfl (nt (sr (lO (OL.loadOn (us:=(Qd false g)) (tv (T.op 0 0) rfl) rfl Q2 QW (lb rfl) rfl) (cO (OC.callF (us:= [(T.agg (Qd false g))]) (r:=(T.sl true 4 ((Qc g).map (Qh true)))) (r':=(T.os 4 2 0 (((Qc g).map (Qh true)).length))) (objs:= [(Obj.rows 4 ((Qc g).map (Qh true)))]) rfl (vc (tv (T.agg (Qd false g)) rfl) vn) (LendL.cons (lg Qu) ln) (ZE (n+2) g (by assumption)) rfl) (aO (T.os 4 2 0 (((Qc g).map (Qh true)).length)) rfl ?_)))))))))))
 refine nt (sq (sr (fO (OF.assign (VEv.int .i64 0)) (nt (VRun.block ?_)))))
 have he1: []=((QL g f seals salt 0).map (Qb true)):=by rfl
 refine VRun.loop (A:=Nat) (fun s_=> [(1,(tS f)),(2,(rd 1 Qb seals)),(3,(tI salt)),(4,(T.op 0 0)),(8,T.nils),(9,(T.os 1 2 0 (((QL g f seals salt s_).map (Qb true)).length))),(10,(T.os 4 1 0 (((Qc g).map (Qh true)).length))),(11,(tN s_))]) (fun s_=>QX [(0,(Obj.cells (Qd false g))),(1,(Obj.rows 4 ((Qc g).map (Qh true)))),(2,(Obj.rows 1 ((QL g f seals salt s_).map (Qb true))))]) 3 (fun s_=>s_≤(Qc g).length∧(Q3 g f∨s_=0)) (fun s_=>(Qc g).length - s_) (0:Nat) ?_ (Wk.mk (fun k=>if k=1 then 2 else if k=2 then 1 else k) ?_ ?_ ?_) ?_
 ·exact ⟨Nat.zero_le _, .inr rfl⟩
 ·exact (b2 (b2 (b2 (b2 (b2 (bc ⟨(congrArg (fun n_=>T.os 1 1 0 n_) (show 0=((QL g f seals salt 0).map (Qb true)).length from (by rfl))),rfl⟩ (b2 (b2 bn))))))))
 ·exact (b3 (b3 (bc ⟨(congrArg (fun l_=>some (Obj.rows 1 l_)) he1),(lb rfl),rfl⟩ bn)))
 ·exact nd rfl
 rintro i (hI':i≤(Qc g).length∧(Q3 g f∨i=0))
 show VRun _ _ _ [(1,(tS f)),(2,(rd 1 Qb seals)),(3,(tI salt)),(4,(T.op 0 0)),(8,T.nils),(9,(T.os 1 2 0 (((QL g f seals salt i).map (Qb true)).length))),(10,(T.os 4 1 0 (((Qc g).map (Qh true)).length))),(11,(tN i))] (QX [(0,(Obj.cells (Qd false g))),(1,(Obj.rows 4 ((Qc g).map (Qh true)))),(2,(Obj.rows 1 ((QL g f seals salt i).map (Qb true))))]) 3 _
 have hI1:=hI'.1
 have hrl:=Qa1 g f seals salt i
 have hps:=Qc5 g f ((i:Nat):Int)
 refine sq (sr (mO (tN i) rfl (mO (T.os 4 1 0 (((Qc g).map (Qh true)).length)) rfl (lO (B.lenO (m:=(Qc g).length) (tv (T.os 4 1 0 (((Qc g).map (Qh true)).length)) rfl) Yc (List.length_map ..)) (fO (Zd (tv (tN i) rfl) (tv (tN ((Qc g).length)) rfl)) (mO (tB (decide (i<(Qc g).length))) rfl ?_))))))
 refine VRunO.joinB 4 [20,21,22] 23 (tB (decide ((i<(Qc g).length)∧(Q3 g f)))) ?_ ?_
 ·refine gw (i<(Qc g).length) (fun fhg19_2=> ?_) fun fhg19_2=> ?_
  ·refine gL (dy fhg19_2) rfl rfl (OL.loadOn (us:=(Qd false g)) (tv (T.op 0 0) rfl) rfl Q2 QW (lb rfl) rfl) ?_
   refine gF (dy fhg19_2) rfl rfl (OF.move (tv (tS f) rfl)) (VRunO.chain (VWant.on rfl rfl (dy fhg19_2)) (cS (vc (tv (T.agg (Qd false g)) rfl) (vc (tv (tS f) rfl) vn)) (LendL.cons (lg Qu) (lp rfl ln)) (Qau (n+2) g f (by assumption) (by assumption)) rfl rfl) (fO (OF.pickT (VEv.tmpB rfl (dy fhg19_2)) (tv (tB (decide (Q3 g f))) rfl)) (VRunO.nil ?_)))
   exact jq (congrArg T.bool (kAT fhg19_2 rfl)) (js rfl (js rfl (js rfl (jn))))
  ·refine QC 3 4 true 19 (dz fhg19_2) rfl rfl rfl ?_
   refine fO (OF.pickF (VEv.tmpB rfl (dz fhg19_2)) (VEv.bool false)) (VRunO.nil ?_)
   exact jq (congrArg T.bool (kAF fhg19_2)) (js rfl (js rfl (js rfl (jn))))
 refine nt ?_
 refine cd ((i<(Qc g).length)∧(Q3 g f)) rfl (fun fhc0=> ?_) fun fhc0=> ?_
 ·refine sk ?_
  refine tn (sq (VRun.block (sr (mO (rd 1 Qb seals) rfl (mO (tI salt) rfl (mO (tN i) rfl (lO (OL.loadOn (us:=(Qd false g)) (tv (T.op 0 0) rfl) rfl Q2 QW (lb rfl) rfl) (mO (tS f) rfl (mO (tN i) rfl (cO (cS (vc (tv (T.agg (Qd false g)) rfl) (vc (tv (tS f) rfl) (vc (tv (tN i) rfl) vn))) (LendL.cons (lg Qu) (lp rfl (lp rfl ln))) (Qck (n+0) g f ((i:Nat):Int) (by assumption) (by assumption)) rfl rfl) (cO (cS (vc (tv (rd 1 Qb seals) rfl) (vc (tv (tI salt) rfl) (vc (tv (tN i) rfl) (vc (tv (tS (Z8 g f ((i:Nat):Int))) rfl) vn)))) (ZX rfl) (Qb2 (n+0) seals salt ((i:Nat):Int) (Z8 g f ((i:Nat):Int)) (by assumption) (by omega)) rfl rfl) ?_)))))))))))
  refine nt ?_
  refine cd (Qfi seals salt ((i:Nat):Int) (Z8 g f ((i:Nat):Int))) rfl (fun fhc1=> ?_) fun fhc1=> ?_
  ·refine VRun.region ?_
   refine mO (T.os 1 2 0 (((QL g f seals salt i).map (Qb true)).length)) rfl (mO (tN i) rfl (kO (OM.buildSlice (l:= [(tN i)]) (VEvp.cons (tv (tN i) rfl) VEvp.nil) rfl (by decide) (bc (nofun) bn) (bc ((bc (rfl) bn)) bn) (bc (rfl) bn) Zt J7 (by kernel_rfl) rfl (by rw [Zb];decide) Zb (Nat.le_of_ble_eq_true rfl)) (cO (B.append (rows:=((QL g f seals salt i).map (Qb true))) (rows2:= [[(tN i)]]) (rows3:=((QL g f seals salt i++ [((i:Nat):Int)]).map (Qb true))) (VDst.own (tv (T.os 1 2 0 (((QL g f seals salt i).map (Qb true)).length)) rfl) rfl rfl) (VSrc.own (tv (T.os 1 3 0 1) rfl) rfl rfl Zt (bc (bc rfl bn) bn)) (by decide) Zt Zb (by decide) J7 rfl (of_decide_eq_true (by kernel_rfl)) (by (simp only [List.length_map,List.length_append,List.length_cons,List.length_nil,List.length_replicate,List.length_set,List.length_drop,List.length_take,YN] at *;omega)) ((List.map_append (f:=Qb true) (l₁:=QL g f seals salt i) (l₂:= [((i:Nat):Int)])).symm)) (aO (T.os 1 4 0 (((QL g f seals salt i++ [((i:Nat):Int)]).map (Qb true)).length)) rfl (VRunO.nil (vinB.n (tn (VRun.region (mO (tN i) rfl (fO (Qz (tv (tN i) rfl) (VEv.int .i64 1) (by omega)) (aO (tN (i+1)) rfl ?_)))))))))))
   refine VRunO.nil (tn ?_)
   have he3:(QL g f seals salt i++ [((i:Nat):Int)])=QL g f seals salt (i+1):=by exact Qgu fhc1
   refine ⟨(i+1:Nat),?_,?_,Wk.mk (fun k=>if k=2 then 4 else k) ?_ ?_ ?_⟩
   ·exact ⟨by omega, .inl fhc0.2⟩
   ·omega
   ·exact (b2 (b2 (b2 (b2 (b2 (bc ⟨(congrArg (fun l_=>T.os 1 4 0 (List.map (Qb true) l_).length) he3),rfl⟩ (b2 (b2 bn))))))))
   ·exact (b3 (b3 (bc ⟨(congrArg (fun l_=>some (Obj.rows 1 (List.map (Qb true) l_))) he3),(lb rfl),rfl⟩ bn)))
   ·exact nd rfl
  refine sk (vinB.n (tn (VRun.region (mO (tN i) rfl (fO (Qz (tv (tN i) rfl) (VEv.int .i64 1) (by omega)) (aO (tN (i+1)) rfl (VRunO.nil (tn ?_))))))))
  have he4:QL g f seals salt i=QL g f seals salt (i+1):=by exact QhZ fhc1
  refine ⟨(i+1:Nat),?_,?_,Wk.mk (fun k=>k) ?_ ?_ ?_⟩
  ·exact ⟨by omega, .inl fhc0.2⟩
  ·omega
  ·exact (b2 (b2 (b2 (b2 (b2 (bc ⟨(congrArg (fun l_=>T.os 1 2 0 (List.map (Qb true) l_).length) he4),rfl⟩ (b2 (b2 bn))))))))
  ·exact (b3 (b3 (bc ⟨(congrArg (fun l_=>some (Obj.rows 1 (List.map (Qb true) l_))) he4),(lb rfl),rfl⟩ bn)))
  ·exact nd rfl
 refine VRun.exit (vthn.e (vthn.e (vinB.e (tn (sr (mO (T.os 1 2 0 (((QL g f seals salt i).map (Qb true)).length)) rfl (aO (T.os 1 2 0 (((QL g f seals salt i).map (Qb true)).length)) rfl (nt (rt ?_)))))))))
 refine vfin.eq (r':=(T.sl true 1 ((QL g f seals salt i).map (Qb true)))) ?_ (vfin.r (VRes.tmp (t:=(T.os 1 2 0 (((QL g f seals salt i).map (Qb true)).length))) rfl VRes.nil) (Give.os rfl rfl (okInt.cleanMap _)))
 show (T.sl true 1 ((QL g f seals salt i).map (Qb true)))=(T.sl true 1 ((Zw g f seals salt).map (Qb true)))
 refine congrArg (fun l_=>T.sl true 1 (List.map (Qb true) l_)) ?_
 exact Qgi hI1 hI'.2 fhc0
theorem QcV (n:Nat) (g:D.Grid) (f:ByteArray) (seals:List Int) (salt:Int) (hc:g.Cells.size≤maxLen) (hf:f.size≤maxLen) (hl:seals.length≤YN):Pure (Qr Tryz.prog (n+6)) 90 [(T.agg (Qd false g)),(tS f),(rd 1 Qb seals),(tI salt)] (T.sl true 1 ((Zw g f seals salt).map (Qb true))):=by
 refine Pure.intro (rs:= [ResultVar.tmp 8]) Tryz.func90 rfl rfl rfl (E0:= [(0,(T.agg (Qd false g))),(1,(tS f)),(2,(rd 1 Qb seals)),(3,(tI salt))]) rfl ?_
 obtain ⟨hlim,hmx,hmax⟩:=QG
 have hsl:=Zm g
 have hpl:=Qio g f
 refine sr (kO (B.box (ts:=(Qd false g)) (tv (T.agg (Qd false g)) rfl) nofun rfl) (fO (OF.assign VEv.nils) (nt (sr (fO (OF.assign VEv.nils) (nt (sq (sr (lO (OL.loadOn (us:=(Qd false g)) (tv (T.op 0 0) rfl) rfl Q2 QW (lb rfl) rfl) (mO (tS f) rfl (cO (OC.callF (us:= [(T.agg (Qd false g)),(tS f)]) (r:=(T.sl true 1 ((ZY g f).map (Yj true)))) (r':=(T.os 1 1 0 (((ZY g f).map (Yj true)).length))) (objs:= [(Obj.rows 1 ((ZY g f).map (Yj true)))]) rfl (vc (tv (T.agg (Qd false g)) rfl) (vc (tv (tS f) rfl) vn)) (LendL.cons (lg Qu) (lp rfl ln)) (Qev (n+0) g f (by assumption) (by assumption)) rfl) ?_)))))))))))
 refine lO (B.lenO (m:=(ZY g f).length) (tv (T.os 1 1 0 (((ZY g f).map (Yj true)).length)) rfl) QkP (List.length_map ..)) (fO (OF.move (VEv.int .i64 0)) (nt (VRun.block (VRun.wk (Wk.freeze (sz:=1) (k:=1) (rows':=((ZY g f).map (Yj false))) [14] (bc rfl bn) rfl rfl (okStr.fzMap _ _)) (VRun.wk (Wk.phantom 9 1 rfl) ?_)))))
 have he1: []=((QL g f seals salt 0).map (Qb true)):=by rfl
 refine VRun.loop (A:=Nat) (fun s_=> [(2,(rd 1 Qb seals)),(3,(tI salt)),(8,T.nils),(9,(T.os 1 0 0 (((QL g f seals salt s_).map (Qb true)).length))),(14,(rd 1 Yj (ZY g f))),(15,(tN ((ZY g f).length))),(16,(tN s_))]) (fun s_=>QX [(0,(Obj.rows 1 ((QL g f seals salt s_).map (Qb true))))]) 1 (fun s_=>s_≤(ZY g f).length) (fun s_=>(ZY g f).length - s_) (0:Nat) ?_ (Wk.mk (fun k=>if k=0 then 2 else k) ?_ ?_ ?_) ?_
 ·(simp;done)
 ·exact (b2 (b2 (b2 (bc ⟨(congrArg (fun n_=>T.os 1 2 0 n_) (show 0=((QL g f seals salt 0).map (Qb true)).length from (by rfl))),rfl⟩ (b2 (b2 (b2 bn)))))))
 ·exact (bc ⟨(congrArg (fun l_=>some (Obj.rows 1 l_)) he1),(lb rfl),rfl⟩ bn)
 ·exact nd rfl
 rintro i (hI':i≤(ZY g f).length)
 show VRun _ _ _ [(2,(rd 1 Qb seals)),(3,(tI salt)),(8,T.nils),(9,(T.os 1 0 0 (((QL g f seals salt i).map (Qb true)).length))),(14,(rd 1 Yj (ZY g f))),(15,(tN ((ZY g f).length))),(16,(tN i))] (QX [(0,(Obj.rows 1 ((QL g f seals salt i).map (Qb true))))]) 1 _
 have hrl:=Qa1 g f seals salt i
 have hps:=Qc5 g f ((i:Nat):Int)
 refine sr (fO (Zd (tv (tN i) rfl) (tv (tN ((ZY g f).length)) rfl)) (nt (sq ?_)))
 refine cd (i<(ZY g f).length) rfl (fun fhc0=> ?_) fun fhc0=> ?_
 ·refine sk ?_
  refine tn (sq (VRun.block (sr (mO (tN i) rfl ?_))))
  obtain ⟨x1,hx1⟩:∃x,(ZY g f)[i]? =some x:=⟨_,List.getElem?_eq_getElem (by omega)⟩
  have hpx:=QkA hx1
  refine fO (OF.indexAddrR (row:=(Yj false x1)) (i:=i) (tv (rd 1 Yj (ZY g f)) rfl) (tv (tN i) rfl) rfl (Qt _ hx1) QkP sz9 if9) (lO (OL.loadR1 (t:=(tS x1)) (tv (T.rp [(tS x1)]) rfl) rfl Yq) (aO (tN i) rfl (aO (tS x1) rfl (nt (sr (mO (rd 1 Qb seals) rfl (mO (tI salt) rfl (mO (tN i) rfl (mO (tS x1) rfl (cO (cS (vc (tv (rd 1 Qb seals) rfl) (vc (tv (tI salt) rfl) (vc (tv (tN i) rfl) (vc (tv (tS x1) rfl) vn)))) (ZX rfl) (QbW (n+0) seals salt ((i:Nat):Int) x1 (by assumption) (by (rw [hpx];omega))) rfl rfl) (nt ?_)))))))))))
  refine cd (Qfi seals salt ((i:Nat):Int) x1) rfl (fun fhc1=> ?_) fun fhc1=> ?_
  ·refine VRun.region ?_
   refine mO (T.os 1 0 0 (((QL g f seals salt i).map (Qb true)).length)) rfl (mO (tN i) rfl (kO (OM.buildSlice (l:= [(tN i)]) (VEvp.cons (tv (tN i) rfl) VEvp.nil) rfl (by decide) (bc (nofun) bn) (bc ((bc (rfl) bn)) bn) (bc (rfl) bn) Zt J7 (by kernel_rfl) rfl (by rw [Zb];decide) Zb (Nat.le_of_ble_eq_true rfl)) (cO (B.append (rows:=((QL g f seals salt i).map (Qb true))) (rows2:= [[(tN i)]]) (rows3:=((QL g f seals salt i++ [((i:Nat):Int)]).map (Qb true))) (VDst.own (tv (T.os 1 0 0 (((QL g f seals salt i).map (Qb true)).length)) rfl) rfl rfl) (VSrc.own (tv (T.os 1 1 0 1) rfl) rfl rfl Zt (bc (bc rfl bn) bn)) (by decide) Zt Zb (by decide) J7 rfl (of_decide_eq_true (by kernel_rfl)) (by (simp only [List.length_map,List.length_append,List.length_cons,List.length_nil,List.length_replicate,List.length_set,List.length_drop,List.length_take,YN] at *;omega)) ((List.map_append (f:=Qb true) (l₁:=QL g f seals salt i) (l₂:= [((i:Nat):Int)])).symm)) (aO (T.os 1 2 0 (((QL g f seals salt i++ [((i:Nat):Int)]).map (Qb true)).length)) rfl (VRunO.nil (vinB.n (tn (VRun.region (fO (Qz (tv (tN i) rfl) (VEv.int .i64 1) (by omega)) (mO (tN (i+1)) rfl (VRunO.nil ?_)))))))))))
   refine tn ?_
   have he2:(QL g f seals salt i++ [((i:Nat):Int)])=QL g f seals salt (i+1):=by (rw [hpx] at fhc1;exact Qgu fhc1)
   refine ⟨(i+1:Nat),?_,?_,Wk.mk (fun k=>if k=0 then 2 else k) ?_ ?_ ?_⟩
   ·trivial
   ·omega
   ·exact (b2 (b2 (b2 (bc ⟨(congrArg (fun l_=>T.os 1 2 0 (List.map (Qb true) l_).length) he2),rfl⟩ (b2 (b2 (b2 bn)))))))
   ·exact (bc ⟨(congrArg (fun l_=>some (Obj.rows 1 (List.map (Qb true) l_))) he2),(lb rfl),rfl⟩ bn)
   ·exact nd rfl
  refine sk (vinB.n (tn (VRun.region (fO (Qz (tv (tN i) rfl) (VEv.int .i64 1) (by omega)) (mO (tN (i+1)) rfl (VRunO.nil (tn ?_)))))))
  have he3:QL g f seals salt i=QL g f seals salt (i+1):=by (rw [hpx] at fhc1;exact QhZ fhc1)
  refine ⟨(i+1:Nat),?_,?_,Wk.mk (fun k=>k) ?_ ?_ ?_⟩
  ·trivial
  ·omega
  ·exact (b2 (b2 (b2 (bc ⟨(congrArg (fun l_=>T.os 1 0 0 (List.map (Qb true) l_).length) he3),rfl⟩ (b2 (b2 (b2 bn)))))))
  ·exact (bc ⟨(congrArg (fun l_=>some (Obj.rows 1 (List.map (Qb true) l_))) he3),(lb rfl),rfl⟩ bn)
  ·exact nd rfl
 refine VRun.exit (vthn.e (vthn.e (vinB.e (tn (sr (mO (T.os 1 0 0 (((QL g f seals salt i).map (Qb true)).length)) rfl (aO (T.os 1 0 0 (((QL g f seals salt i).map (Qb true)).length)) rfl (nt (rt ?_)))))))))
 refine vfin.eq (r':=(T.sl true 1 ((QL g f seals salt i).map (Qb true)))) ?_ (vfin.r (VRes.tmp (t:=(T.os 1 0 0 (((QL g f seals salt i).map (Qb true)).length))) rfl VRes.nil) (Give.os rfl rfl (okInt.cleanMap _)))
 show (T.sl true 1 ((QL g f seals salt i).map (Qb true)))=(T.sl true 1 ((Zw g f seals salt).map (Qb true)))
 refine congrArg (fun l_=>T.sl true 1 (List.map (Qb true) l_)) ?_
 exact Qi4 hI' fhc0
end Go.Proofs.YtcccmceoplcciaaGreat.AE
namespace Go.Proofs.YtcccmceoplcciaaGreat.AE
open Go Go.RowKit
set_option linter.unusedVariables false
set_option linter.unusedSimpArgs false
set_option maxRecDepth 20000
set_option maxHeartbeats 2000000
noncomputable section
def JK (f:ByteArray):Prop:=∃j,j<f.size∧Qx f j=63
instance (f:ByteArray):Decidable (JK f):=Classical.propDecidable _
def Jc (f:ByteArray):Nat→Nat
 | 0=>0
 | i+1=>Jc f i+(if Qx f i=63 then 1 else 0)
theorem Qjg (f:ByteArray):∀i,Jc f i≤i
 | 0=>Nat.le_refl _
 | i+1=>by
  have:=Qjg f i
  unfold Jc
  split<;>omega
theorem Qgp (f:ByteArray):∀i,Jc f i=0↔∀j,j<i→¬Qx f j=63
 | 0=>⟨fun _ j hj=>by omega,fun _=>rfl⟩
 | i+1=>by
  have ih:=Qgp f i
  unfold Jc
  constructor
  ·intro h j hj
   by_cases e:j=i
   ·subst e;intro e2;rw [if_pos e2] at h;omega
   ·exact ih.1 (by omega) j (by omega)
  ·intro h
   rw [if_neg (h i (by omega)),ih.2 (fun j hj=>h j (by omega))]
theorem Qmh (f:ByteArray):Jc f f.size=0↔¬JK f:=by
 rw [Qgp]
 exact ⟨fun h ⟨j,h1,h2⟩=>h j h1 h2,fun h j h1 h2=>h ⟨j,h1,h2⟩⟩
end
theorem QeY (n:Nat) (f:ByteArray) (hf:f.size≤maxLen):Pure (Qr Tryz.prog (n+1)) 91 [(tS f)] (tB (decide (JK f))):=by
 refine Pure.intro (rs:= [ResultVar.tmp 2]) Tryz.func91 rfl rfl rfl (E0:= [(0,(tS f))]) rfl ?_
 obtain ⟨hlim,hmx,hmax⟩:=QG
 refine sr (fO (OF.assign (VEv.bool false)) (nt (sq (sr (fO (OF.assign (VEv.int .i64 0)) (nt (VRun.block ?_)))))))
 refine VRun.loop (A:=Nat) (fun s_=> [(0,(tS f)),(3,(tN s_))]) (fun s_=>QX []) 0 (fun s_=>s_≤f.size∧∀j,j<s_→¬Qx f j=63) (fun s_=>f.size - s_) (0:Nat) ?_ (Wk.mk (fun k=>k) ?_ ?_ ?_) ?_
 ·exact ⟨Nat.zero_le _,fun j hj=>by omega⟩
 ·exact (b2 (b2 bn))
 ·exact bn
 ·exact nd rfl
 rintro i (hI':i≤f.size∧∀j,j<i→¬Qx f j=63)
 show VRun _ _ _ [(0,(tS f)),(3,(tN i))] (QX []) 0 _
 have hI1:=hI'.1
 refine sq (sr (mO (tN i) rfl (mO (tS f) rfl (lO (B.lenS (tv (tS f) rfl) U9) (fO (Zd (tv (tN i) rfl) (tv (tN f.size) rfl)) (nt ?_))))))
 refine cd (i<f.size) rfl (fun fhc0=> ?_) fun fhc0=> ?_
 ·refine sk ?_
  refine tn (sq (VRun.block (sr (mO (tS f) rfl (mO (tN i) rfl ?_)))))
  have hb1:i<f.size:=(by omega)
  refine fO (xix (tv (tS f) rfl) (tv (tN i) rfl) hb1 U9) (fO (Y3 (tv (T.int .u8 (Qx f i)) rfl) (VEv.int .u8 63)) (nt ?_))
  refine cd (Qx f i=63) rfl (fun fhc1=> ?_) fun fhc1=> ?_
  ·refine sr ?_
   refine fO (OF.assign (VEv.bool true)) (nt (rt (vinB.r (tr (tr (vinB.r (tr (vb (b':=true) rfl ?_))))))))
   symm;rw [decide_eq_true_eq];exact ⟨i,fhc0,fhc1⟩
  refine sk (vinB.n (tn (VRun.region (mO (tN i) rfl (fO (Qz (tv (tN i) rfl) (VEv.int .i64 1) (by omega)) (aO (tN (i+1)) rfl (VRunO.nil (tn ?_))))))))
  refine ⟨(i+1:Nat),?_,?_,Wk.mk (fun k=>k) ?_ ?_ ?_⟩
  ·exact QV hI' fhc0 fhc1
  ·omega
  ·exact (b2 (b2 bn))
  ·exact bn
  ·exact nd rfl
 refine VRun.exit (vthn.e (vthn.e (vinB.e (tn (sr (fO (OF.assign (VEv.bool false)) (nt (rt (vb (b':=false) rfl ?_)))))))))
 symm;rw [decide_eq_false_iff_not];rintro ⟨j,h1,h2⟩;exact hI'.2 j (by omega) h2
theorem Qf0 (n:Nat) (f:ByteArray) (hf:f.size≤maxLen):Pure (Qr Tryz.prog (n+1)) 94 [(tS f)] (tN (Jc f f.size)):=by
 refine Pure.intro (rs:= [ResultVar.tmp 2]) Tryz.func94 rfl rfl rfl (E0:= [(0,(tS f))]) rfl ?_
 obtain ⟨hlim,hmx,hmax⟩:=QG
 refine sr (fO (OF.assign (VEv.int .i64 0)) (nt (sr (fO (OF.assign (VEv.int .i64 0)) (nt (sq (sr (mO (tS f) rfl (lO (B.lenS (tv (tS f) rfl) U9) (fO (OF.move (VEv.int .i64 0)) (nt ?_)))))))))))
 refine VRun.block ?_
 refine VRun.loop (A:=Nat) (fun s_=> [(0,(tS f)),(2,(tN 0)),(3,(tN (Jc f s_))),(6,(tN f.size)),(7,(tN s_))]) (fun s_=>QX []) 0 (fun s_=>s_≤f.size) (fun s_=>f.size - s_) (0:Nat) ?_ (Wk.mk (fun k=>k) ?_ ?_ ?_) ?_
 ·(simp;done)
 ·exact (b2 (b2 (bc ⟨(congrArg (T.int .i64) (show 0=((Jc f 0:Nat):Int) from (by rfl))),rfl⟩ (b2 (b2 bn)))))
 ·exact bn
 ·exact nd rfl
 rintro i (hI':i≤f.size)
 show VRun _ _ _ [(0,(tS f)),(2,(tN 0)),(3,(tN (Jc f i))),(6,(tN f.size)),(7,(tN i))] (QX []) 0 _
 have hol:=Qjg f i
 refine sr (fO (Zd (tv (tN i) rfl) (tv (tN f.size) rfl)) (nt (sq ?_)))
 refine cd (i<f.size) rfl (fun fhc0=> ?_) fun fhc0=> ?_
 ·refine sk ?_
  refine tn (sq (VRun.block (sr (mO (tN i) rfl (aO (tN i) rfl (nt (sr (mO (tS f) rfl (mO (tN i) rfl ?_)))))))))
  have hb1:i<f.size:=(by omega)
  refine fO (xix (tv (tS f) rfl) (tv (tN i) rfl) hb1 U9) (fO (Y3 (tv (T.int .u8 (Qx f i)) rfl) (VEv.int .u8 63)) (nt ?_))
  refine cd (Qx f i=63) rfl (fun fhc1=> ?_) fun fhc1=> ?_
  ·refine VRun.region ?_
   refine mO (tN (Jc f i)) rfl (fO (Qz (tv (tN (Jc f i)) rfl) (VEv.int .i64 1) (by omega)) (aO (tN (Jc f i+1)) rfl (VRunO.nil (vinB.n (tn (VRun.region (fO (Qz (tv (tN i) rfl) (VEv.int .i64 1) (by omega)) (mO (tN (i+1)) rfl (VRunO.nil (tn ?_))))))))))
   refine ⟨(i+1:Nat),?_,?_,Wk.mk (fun k=>k) ?_ ?_ ?_⟩
   ·trivial
   ·omega
   ·exact (b2 (b2 (bc ⟨(congrArg (T.int .i64) (show (((Jc f i+1):Nat):Int)=((Jc f (i+1):Nat):Int) from (by (rw [Jc,if_pos fhc1];done)))),rfl⟩ (b2 (b2 bn)))))
   ·exact bn
   ·exact nd rfl
  refine sk (vinB.n (tn (VRun.region (fO (Qz (tv (tN i) rfl) (VEv.int .i64 1) (by omega)) (mO (tN (i+1)) rfl (VRunO.nil (tn ?_)))))))
  refine ⟨(i+1:Nat),?_,?_,Wk.mk (fun k=>k) ?_ ?_ ?_⟩
  ·trivial
  ·omega
  ·exact (b2 (b2 (bc ⟨(congrArg (T.int .i64) (show ((Jc f i:Nat):Int)=((Jc f (i+1):Nat):Int) from (by (rw [Jc,if_neg fhc1];rfl)))),rfl⟩ (b2 (b2 bn)))))
  ·exact bn
  ·exact nd rfl
 refine VRun.exit (vthn.e (vthn.e (vinB.e (tn (sr (mO (tN (Jc f i)) rfl (aO (tN (Jc f i)) rfl (nt (rt (vi (n':=((Jc f i:Nat):Int)) rfl ?_))))))))))
 rw [show i=f.size by omega]
noncomputable section
def Qay (g:D.Grid) (f:ByteArray):Prop:=Q3 g f∧¬JK f
instance (g:D.Grid) (f:ByteArray):Decidable (Qay g f):=Classical.propDecidable _
end
theorem QfJ (n:Nat) (g:D.Grid) (f:ByteArray) (hc:g.Cells.size≤maxLen) (hf:f.size≤maxLen):Pure (Qr Tryz.prog (n+4)) 127 [(T.agg (Qd false g)),(tS f)] (tB (decide (Qay g f))):=by
 refine Pure.intro (rs:= [ResultVar.tmp 4]) Tryz.func127 rfl rfl rfl (E0:= [(0,(T.agg (Qd false g))),(1,(tS f))]) rfl ?_
 obtain ⟨hlim,hmx,hmax⟩:=QG
 refine sr (kO (B.box (ts:=(Qd false g)) (tv (T.agg (Qd false g)) rfl) nofun rfl) (fO (OF.assign (VEv.bool false)) (nt (sr (lO (OL.loadOn (us:=(Qd false g)) (tv (T.op 0 0) rfl) rfl Q2 QW (lb rfl) rfl) (mO (tS f) rfl (cO (cS (vc (tv (T.agg (Qd false g)) rfl) (vc (tv (tS f) rfl) vn)) (LendL.cons (lg Qu) (lp rfl ln)) (Qau (n+0) g f (by assumption) (by assumption)) rfl rfl) (mO (tB (decide (Q3 g f))) rfl ?_))))))))
 refine VRunO.joinB 4 [9,10,11] 12 (tB (decide ((Q3 g f)∧(¬(JK f))))) ?_ ?_
 ·refine gw (Q3 g f) (fun fhg8_1=> ?_) fun fhg8_1=> ?_
  ·refine gF (dy fhg8_1) rfl rfl (OF.move (tv (tS f) rfl)) ?_
   refine VRunO.chain (VWant.on rfl rfl (dy fhg8_1)) (cS (vc (tv (tS f) rfl) vn) (ZX rfl) (QeY (n+2) f (by assumption)) rfl rfl) (gF (dy fhg8_1) rfl rfl (QZ (tv (tB (decide (JK f))) rfl)) (fO (OF.pickT (VEv.tmpB rfl (dy fhg8_1)) (tv (tB (!(decide (JK f)))) rfl)) (VRunO.nil ?_)))
   exact jq (congrArg T.bool (kAT fhg8_1 dN)) (js rfl (js rfl (js rfl (jn))))
  ·refine QC 3 3 true 8 (dz fhg8_1) rfl rfl rfl ?_
   refine fO (OF.pickF (VEv.tmpB rfl (dz fhg8_1)) (VEv.bool false)) (VRunO.nil ?_)
   exact jq (congrArg T.bool (kAF fhg8_1)) (js rfl (js rfl (js rfl (jn))))
 refine aO (tB (decide ((Q3 g f)∧(¬(JK f))))) rfl (nt (rt (vb (b':=(decide ((Q3 g f)∧(¬(JK f))))) rfl ?_)))
 exact Q4 Iff.rfl
theorem QfW (n:Nat) (g:D.Grid) (f:ByteArray) (hc:g.Cells.size≤maxLen) (hf:f.size≤maxLen):Pure (Qr Tryz.prog (n+4)) 145 [(T.agg (Qd false g)),(tS f)] (tB (decide (Qay g f))):=by
 refine Pure.intro (rs:= [ResultVar.tmp 4]) Tryz.func145 rfl rfl rfl (E0:= [(0,(T.agg (Qd false g))),(1,(tS f))]) rfl ?_
 obtain ⟨hlim,hmx,hmax⟩:=QG
 refine sr (kO (B.box (ts:=(Qd false g)) (tv (T.agg (Qd false g)) rfl) nofun rfl) (fO (OF.assign (VEv.bool false)) (nt (sr (lO (OL.loadOn (us:=(Qd false g)) (tv (T.op 0 0) rfl) rfl Q2 QW (lb rfl) rfl) (mO (tS f) rfl (cO (cS (vc (tv (T.agg (Qd false g)) rfl) (vc (tv (tS f) rfl) vn)) (LendL.cons (lg Qu) (lp rfl ln)) (Qb8 (n+0) g f (by assumption) (by assumption)) rfl rfl) (mO (tB (decide (Q3 g f))) rfl ?_))))))))
 refine VRunO.joinB 4 [9,10,11] 12 (tB (decide ((Q3 g f)∧(Jc f f.size=0)))) ?_ ?_
 ·refine gw (Q3 g f) (fun fhg8_1=> ?_) fun fhg8_1=> ?_
  ·refine gF (dy fhg8_1) rfl rfl (OF.move (tv (tS f) rfl)) ?_
   refine VRunO.chain (VWant.on rfl rfl (dy fhg8_1)) (cS (vc (tv (tS f) rfl) vn) (ZX rfl) (Qf0 (n+2) f (by assumption)) rfl rfl) (gF (dy fhg8_1) rfl rfl (B.eql (c:=(decide (Jc f f.size=0))) (tv (tN (Jc f f.size)) rfl) (VEv.int .i64 0) (Q4 (by omega))) (fO (OF.pickT (VEv.tmpB rfl (dy fhg8_1)) (tv (tB (decide (Jc f f.size=0))) rfl)) (VRunO.nil ?_)))
   exact jq (congrArg T.bool (kAT fhg8_1 rfl)) (js rfl (js rfl (js rfl (jn))))
  ·refine QC 3 3 true 8 (dz fhg8_1) rfl rfl rfl ?_
   refine fO (OF.pickF (VEv.tmpB rfl (dz fhg8_1)) (VEv.bool false)) (VRunO.nil ?_)
   exact jq (congrArg T.bool (kAF fhg8_1)) (js rfl (js rfl (js rfl (jn))))
 refine aO (tB (decide ((Q3 g f)∧(Jc f f.size=0)))) rfl (nt (rt (vb (b':=(decide ((Q3 g f)∧(Jc f f.size=0)))) rfl ?_)))
 refine Q4 ?_;rw [Qmh];exact Iff.rfl
noncomputable section
def QcN (p:D.Puzzle):Prop:=Z7 p.Grid=0∧p.Clues.length=(Qc p.Grid).length∧p.Seals.length=(Qc p.Grid).length∧(1≤p.Salt∧p.Salt≤9999)∧∀c∈p.Clues,okC c
instance (p:D.Puzzle):Decidable (QcN p):=Classical.propDecidable _
def noC (c:D.Clue):Prop:=¬okC c
instance (c:D.Clue):Decidable (noC c):=Classical.propDecidable _
end
theorem QcW (n:Nat) (c:D.Clue) (hz:QK c≤mx):Pure (Qr Tryz.prog (n+5)) 109 [(T.agg (Qe false c))] (tB (decide (noC c))):=by
 refine Pure.intro (rs:= [ResultVar.tmp 2]) Tryz.func109 rfl rfl rfl (E0:= [(0,(T.agg (Qe false c)))]) rfl ?_
 obtain ⟨hlim,hmx,hmax⟩:=QG
 refine sr (kO (B.box (ts:=(Qe false c)) (tv (T.agg (Qe false c)) rfl) nofun rfl) (fO (OF.assign (VEv.bool false)) (nt (sr (lO (OL.loadOn (us:=(Qe false c)) (tv (T.op 0 0) rfl) rfl Qe7 JI (lb rfl) rfl) (cO (cS (vc (tv (T.agg (Qe false c)) rfl) vn) (LendL.cons (lg okeClue) ln) (Qb5 (n+0) c (by assumption)) rfl rfl) (fO (QZ (tv (tB (decide ((1≤c.Sense∧c.Sense≤99)∧ZG c.Play))) rfl)) (aO (tB (!(decide ((1≤c.Sense∧c.Sense≤99)∧ZG c.Play)))) rfl (nt (rt (vb (b':=(!(decide ((1≤c.Sense∧c.Sense≤99)∧ZG c.Play)))) rfl ?_)))))))))))
 rw [dN];exact Q4 Iff.rfl
theorem ZJ (n:Nat) (l:List D.Clue) (hz:zL QK l≤mx):Pure (Qr Tryz.prog (n+6)) 141 [(rd 2 Qe l),(T.fn 109 [])] (tI (ixF noC l)):=by
 refine Pure.intro (rs:= [ResultVar.tmp 4]) Tryz.func141 rfl rfl rfl (E0:= [(0,(rd 2 Qe l)),(1,(T.fn 109 []))]) rfl ?_
 obtain ⟨hlim,hmx,hmax⟩:=QG
 have hl:=Q7 (z:=QK) l
 refine sr (fO (OF.assign (VEv.int .i64 0)) (nt (sq (sr (mO (rd 2 Qe l) rfl (lO (B.lenR (m:=l.length) (tv (rd 2 Qe l) rfl) U35 (List.length_map ..)) (fO (OF.move (VEv.int .i64 0)) (nt (VRun.block ?_)))))))))
 refine VRun.loop (A:=Nat) (fun s_=> [(0,(rd 2 Qe l)),(1,(T.fn 109 [])),(7,(tN l.length)),(8,(tN s_))]) (fun s_=>QX []) 0 (fun s_=>NoneTo noC l s_) (fun s_=>l.length - s_) (0:Nat) ?_ (Wk.mk (fun k=>k) ?_ ?_ ?_) ?_
 ·exact NoneTo.start _ _
 ·exact (b2 (b2 (b2 (b2 bn))))
 ·exact bn
 ·exact nd rfl
 rintro i (hI':NoneTo noC l i)
 show VRun _ _ _ [(0,(rd 2 Qe l)),(1,(T.fn 109 [])),(7,(tN l.length)),(8,(tN i))] (QX []) 0 _
 have hI1:=hI'.1
 refine sr (fO (Zd (tv (tN i) rfl) (tv (tN l.length) rfl)) (nt (sq ?_)))
 refine cd (i<l.length) rfl (fun fhc0=> ?_) fun fhc0=> ?_
 ·refine sk ?_
  refine tn (sq (VRun.block (sr (mO (tN i) rfl (aO (tN i) rfl (nt (sr (mO (T.fn 109 []) rfl (mO (rd 2 Qe l) rfl (mO (tN i) rfl ?_))))))))))
  obtain ⟨x1,hx1⟩:∃x,l[i]? =some x:=⟨_,List.getElem?_eq_getElem (by omega)⟩
  refine fO (OF.indexAddrR (row:=(Qe false x1)) (i:=i) (tv (rd 2 Qe l) rfl) (tv (tN i) rfl) rfl (Qt _ hx1) U35 JI QeF) (lO (OL.loadRn (us:=(Qe false x1)) (tv (T.rp (Qe false x1)) rfl) Qe7 JI (lb rfl) rfl) (cO (OC.callv (us:= [(T.agg (Qe false x1))]) (ucaps:= []) (r:=(tB (decide (noC x1)))) (r':=(tB (decide (noC x1)))) (objs:= []) rfl rfl (vc (tv (T.agg (Qe false x1)) rfl) vn) (LendL.cons (lg okeClue) ln) ln (QcW (n+0) x1 (by exact Nat.le_trans (Qa7 hx1) hz)) rfl) (nt ?_)))
  refine cd (noC x1) rfl (fun fhc1=> ?_) fun fhc1=> ?_
  ·refine sr ?_
   refine mO (tN i) rfl (aO (tN i) rfl (nt (rt (vinB.r (tr (tr (vinB.r (tr (vi (n':=((i:Nat):Int)) rfl ?_)))))))))
   exact (QdL hx1 fhc1 hI'.2).symm
  refine sk (vinB.n (tn (VRun.region (fO (Qz (tv (tN i) rfl) (VEv.int .i64 1) (by omega)) (mO (tN (i+1)) rfl (VRunO.nil (tn ?_)))))))
  refine ⟨(i+1:Nat),?_,?_,Wk.mk (fun k=>k) ?_ ?_ ?_⟩
  ·exact hI'.next hx1 fhc1
  ·omega
  ·exact (b2 (b2 (b2 (b2 bn))))
  ·exact bn
  ·exact nd rfl
 refine VRun.exit (vthn.e (vthn.e (vinB.e (tn (sr (fO (OF.assign (VEv.int .i64 (-1))) (nt (rt (vi (n':=(-1)) rfl ?_)))))))))
 exact (Qe9 (hI'.all fhc0)).symm
theorem ZB (n:Nat) (l:List D.Clue) (hz:zL QK l≤mx):Pure (Qr Tryz.prog (n+7)) 108 [(rd 2 Qe l),(T.fn 109 [])] (tB (decide (∃c∈l,noC c))):=by
 refine Pure.intro (rs:= [ResultVar.tmp 4]) Tryz.func108 rfl rfl rfl (E0:= [(0,(rd 2 Qe l)),(1,(T.fn 109 []))]) rfl ?_
 obtain ⟨hlim,hmx,hmax⟩:=QG
 refine sr (fO (OF.assign (VEv.bool false)) (nt (sr (mO (rd 2 Qe l) rfl (mO (T.fn 109 []) rfl (cO (cS (us:= [(rd 2 Qe l),(T.fn 109 [])]) (vc (tv (rd 2 Qe l) rfl) (vc (tv (T.fn 109 []) rfl) vn)) (lp rfl (LendL.cons (Lend.fn ln) ln)) (ZJ (n+0) l (by assumption)) rfl rfl) (fO (xge (tv (tI (ixF noC l)) rfl) (VEv.int .i64 0)) (aO (tB (decide (0≤ixF noC l))) rfl (nt (rt (vb (b':=(decide (0≤ixF noC l))) rfl ?_)))))))))))
 refine Q4 ?_;exact QiC
theorem Qem (n:Nat) (a:D.Puzzle) (hz:QM a≤mx):Pure (Qr Tryz.prog (n+10)) 57 [(T.agg (QB false a))] (tB (decide (QcN a))):=by
 refine Pure.intro (rs:= [ResultVar.tmp 2]) Tryz.func57 rfl rfl rfl (E0:= [(0,(T.agg (QB false a)))]) rfl ?_
 obtain ⟨hlim,hmx,hmax⟩:=QG
 simp only [QM,ZM] at hz
 have hl:=Q7 (z:=QK) a.Clues
 have hl2:=Q7 (z:=zI) a.Seals
 refine sr (kO (B.box (ts:=(QB false a)) (tv (T.agg (QB false a)) rfl) nofun rfl) (fO (OF.assign (VEv.bool false)) (nt (sq (sr (fO (OF.assign (VEv.int .i64 0)) (nt (VRun.block ?_))))))))
 refine VRun.loop (A:=Nat) (fun s_=> [(1,(T.op 0 0)),(3,(tN s_))]) (fun s_=>QX [(0,(Obj.cells (QB false a)))]) 1 (fun s_=>NoneTo noC a.Clues s_) (fun s_=>a.Clues.length - s_) (0:Nat) ?_ (Wk.mk (fun k=>k) ?_ ?_ ?_) ?_
 ·exact NoneTo.start _ _
 ·exact (b2 (b2 bn))
 ·exact (b3 bn)
 ·exact nd rfl
 rintro i (hI':NoneTo noC a.Clues i)
 show VRun _ _ _ [(1,(T.op 0 0)),(3,(tN i))] (QX [(0,(Obj.cells (QB false a)))]) 1 _
 have hI1:=hI'.1
 refine sq (sr (mO (tN i) rfl (lf (rd 2 Qe a.Clues) rfl Jy rfl rfl Qe3 (lO (B.lenR (m:=a.Clues.length) (tv (rd 2 Qe a.Clues) rfl) U35 (List.length_map ..)) (fO (Zd (tv (tN i) rfl) (tv (tN a.Clues.length) rfl)) (nt ?_))))))
 refine cd (i<a.Clues.length) rfl (fun fhc0=> ?_) fun fhc0=> ?_
 ·refine sk ?_
  refine tn (sq (VRun.block (sr (lf (rd 2 Qe a.Clues) rfl Jy rfl rfl Qe3 (mO (tN i) rfl ?_)))))
  obtain ⟨x1,hx1⟩:∃x,a.Clues[i]? =some x:=⟨_,List.getElem?_eq_getElem (by omega)⟩
  refine fO (OF.indexAddrR (row:=(Qe false x1)) (i:=i) (tv (rd 2 Qe a.Clues) rfl) (tv (tN i) rfl) rfl (Qt _ hx1) U35 JI QeF) (lO (OL.loadRn (us:=(Qe false x1)) (tv (T.rp (Qe false x1)) rfl) Qe7 JI (lb rfl) rfl) (cO (cS (vc (tv (T.agg (Qe false x1)) rfl) vn) (LendL.cons (lg okeClue) ln) (Qca (n+4) x1 (by exact Nat.le_trans (Qa7 hx1) (by omega))) rfl rfl) (fO (QZ (tv (tB (decide ((1≤x1.Sense∧x1.Sense≤99)∧ZG x1.Play))) rfl)) (nt ?_))))
  refine cn ((1≤x1.Sense∧x1.Sense≤99)∧ZG x1.Play) rfl (fun fhc1=> ?_) fun fhc1=> ?_
  ·refine sr ?_
   refine fO (OF.assign (VEv.bool false)) (nt (rt (vinB.r (tr (tr (vinB.r (tr (vb (b':=false) rfl ?_))))))))
   symm;rw [decide_eq_false_iff_not];rintro ⟨_,_,_,_,h⟩;exact fhc1 (h x1 (List.mem_of_getElem? hx1))
  refine sk (vinB.n (tn (VRun.region (mO (tN i) rfl (fO (Qz (tv (tN i) rfl) (VEv.int .i64 1) (by omega)) (aO (tN (i+1)) rfl (VRunO.nil (tn ?_))))))))
  refine ⟨(i+1:Nat),?_,?_,Wk.mk (fun k=>k) ?_ ?_ ?_⟩
  ·exact hI'.next hx1 (fun h=>h fhc1)
  ·omega
  ·exact (b2 (b2 bn))
  ·exact (b3 bn)
  ·exact nd rfl
 refine VRun.exit (vthn.e (vthn.e (vinB.e (tn (sr (fO (OF.fieldAddrO (tv (T.op 0 0) rfl) JW) (lO (OL.loadOn (us:=(Qd false a.Grid)) (tv (T.op 0 0) rfl) rfl Q2 QW (lb rfl) rfl) (cO (OC.callF (us:= [(T.agg (Qd false a.Grid))]) (r:=(T.sl true 4 ((Qc a.Grid).map (Qh true)))) (r':=(T.os 4 1 0 (((Qc a.Grid).map (Qh true)).length))) (objs:= [(Obj.rows 4 ((Qc a.Grid).map (Qh true)))]) rfl (vc (tv (T.agg (Qd false a.Grid)) rfl) vn) (LendL.cons (lg Qu) ln) (ZE (n+6) a.Grid (by omega)) rfl) (lO (B.lenO (m:=(Qc a.Grid).length) (tv (T.os 4 1 0 (((Qc a.Grid).map (Qh true)).length)) rfl) Yc (List.length_map ..)) (aO (tN ((Qc a.Grid).length)) rfl (nt ?_)))))))))))
 refine sr (fO (OF.fieldAddrO (tv (T.op 0 0) rfl) JW) (lO (OL.loadOn (us:=(Qd false a.Grid)) (tv (T.op 0 0) rfl) rfl Q2 QW (lb rfl) rfl) (cO (cS (vc (tv (T.agg (Qd false a.Grid)) rfl) vn) (LendL.cons (lg Qu) ln) (Qf2 (n+0) a.Grid (by omega)) rfl rfl) (fO (Y3 (tv (tI (Z7 a.Grid)) rfl) (VEv.int .i64 0)) (mO (tB (decide (Z7 a.Grid=0))) rfl ?_)))))
 refine VRunO.joinB 6 [28,29,30,31,32] 33 (tB (decide ((Z7 a.Grid=0)∧(a.Clues.length=(Qc a.Grid).length)))) ?_ ?_
 ·refine gw (Z7 a.Grid=0) (fun fhg27_1=> ?_) fun fhg27_1=> ?_
  ·refine Yv (rd 2 Qe a.Clues) (dy fhg27_1) rfl rfl rfl rfl Jy rfl rfl Qe3 ?_
   refine gL (dy fhg27_1) rfl rfl (B.lenR (m:=a.Clues.length) (tv (rd 2 Qe a.Clues) rfl) U35 (List.length_map ..)) (gF (dy fhg27_1) rfl rfl (OF.move (tv (tN ((Qc a.Grid).length)) rfl)) (gF (dy fhg27_1) rfl rfl (Qj8 (tv (tN a.Clues.length) rfl) (tv (tN ((Qc a.Grid).length)) rfl)) (fO (OF.pickT (VEv.tmpB rfl (dy fhg27_1)) (tv (tB (decide (a.Clues.length=(Qc a.Grid).length))) rfl)) (VRunO.nil ?_))))
   exact jq (congrArg T.bool (kAT fhg27_1 rfl)) (js rfl (js rfl (js rfl (js rfl (js rfl (jn))))))
  ·refine QC 5 4 true 27 (dz fhg27_1) rfl rfl rfl ?_
   refine fO (OF.pickF (VEv.tmpB rfl (dz fhg27_1)) (VEv.bool false)) (VRunO.nil ?_)
   exact jq (congrArg T.bool (kAF fhg27_1)) (js rfl (js rfl (js rfl (js rfl (js rfl (jn))))))
 refine mO (tB (decide ((Z7 a.Grid=0)∧(a.Clues.length=(Qc a.Grid).length)))) rfl ?_
 refine VRunO.joinB 6 [35,36,37,38,39] 40 (tB (decide (((Z7 a.Grid=0)∧(a.Clues.length=(Qc a.Grid).length))∧(a.Seals.length=(Qc a.Grid).length)))) ?_ ?_
 ·refine gw ((Z7 a.Grid=0)∧(a.Clues.length=(Qc a.Grid).length)) (fun fhg34_2=> ?_) fun fhg34_2=> ?_
  ·refine Yv (rd 1 Qb a.Seals) (dy fhg34_2) rfl rfl rfl rfl QaY rfl rfl Qdi ?_
   refine gL (dy fhg34_2) rfl rfl (B.lenR (m:=a.Seals.length) (tv (rd 1 Qb a.Seals) rfl) Zt (List.length_map ..)) (gF (dy fhg34_2) rfl rfl (OF.move (tv (tN ((Qc a.Grid).length)) rfl)) (gF (dy fhg34_2) rfl rfl (Qj8 (tv (tN a.Seals.length) rfl) (tv (tN ((Qc a.Grid).length)) rfl)) (fO (OF.pickT (VEv.tmpB rfl (dy fhg34_2)) (tv (tB (decide (a.Seals.length=(Qc a.Grid).length))) rfl)) (VRunO.nil ?_))))
   exact jq (congrArg T.bool (kAT fhg34_2 rfl)) (js rfl (js rfl (js rfl (js rfl (js rfl (jn))))))
  ·refine QC 5 11 true 34 (dz fhg34_2) rfl rfl rfl ?_
   refine fO (OF.pickF (VEv.tmpB rfl (dz fhg34_2)) (VEv.bool false)) (VRunO.nil ?_)
   exact jq (congrArg T.bool (kAF fhg34_2)) (js rfl (js rfl (js rfl (js rfl (js rfl (jn))))))
 refine mO (tB (decide (((Z7 a.Grid=0)∧(a.Clues.length=(Qc a.Grid).length))∧(a.Seals.length=(Qc a.Grid).length)))) rfl ?_
 refine VRunO.joinB 4 [42,43,44] 45 (tB (decide ((((Z7 a.Grid=0)∧(a.Clues.length=(Qc a.Grid).length))∧(a.Seals.length=(Qc a.Grid).length))∧(1≤a.Salt∧a.Salt≤9999)))) ?_ ?_
 ·refine gw (((Z7 a.Grid=0)∧(a.Clues.length=(Qc a.Grid).length))∧(a.Seals.length=(Qc a.Grid).length)) (fun fhg41_3=> ?_) fun fhg41_3=> ?_
  ·refine Yv (tI a.Salt) (dy fhg41_3) rfl rfl rfl rfl Qch rfl rfl QT ?_
   refine VRunO.chain (VWant.on rfl rfl (dy fhg41_3)) (cS (vc (tv (tI a.Salt) rfl) (vc (VEv.int .i64 1) (vc (VEv.int .i64 9999) vn))) (ZX rfl) (QQ (n+8) a.Salt 1 9999) rfl rfl) (fO (OF.pickT (VEv.tmpB rfl (dy fhg41_3)) (tv (tB (decide (1≤a.Salt∧a.Salt≤9999))) rfl)) (VRunO.nil ?_))
   exact jq (congrArg T.bool (kAT fhg41_3 rfl)) (js rfl (js rfl (js rfl (jn))))
  ·refine QC 3 18 true 41 (dz fhg41_3) rfl rfl rfl ?_
   refine fO (OF.pickF (VEv.tmpB rfl (dz fhg41_3)) (VEv.bool false)) (VRunO.nil ?_)
   exact jq (congrArg T.bool (kAF fhg41_3)) (js rfl (js rfl (js rfl (jn))))
 refine aO (tB (decide ((((Z7 a.Grid=0)∧(a.Clues.length=(Qc a.Grid).length))∧(a.Seals.length=(Qc a.Grid).length))∧(1≤a.Salt∧a.Salt≤9999)))) rfl (nt (rt (vb (b':=(decide ((((Z7 a.Grid=0)∧(a.Clues.length=(Qc a.Grid).length))∧(a.Seals.length=(Qc a.Grid).length))∧(1≤a.Salt∧a.Salt≤9999)))) rfl ?_)))
 refine Q4 ⟨fun h=>⟨h.1.1.1,h.1.1.2,h.1.2,h.2,fun c hc=>Classical.byContradiction fun e=>hI'.mem fhc0 c hc e⟩,fun h=>⟨⟨⟨h.1,h.2.1⟩,h.2.2.1⟩,h.2.2.2.1⟩⟩
theorem Qd9 (n:Nat) (a:D.Puzzle) (hz:QM a≤mx):Pure (Qr Tryz.prog (n+42)) 62 [(T.agg (QB false a))] (tB (decide (QcN a))):=by
 refine Pure.intro (rs:= [ResultVar.tmp 2]) Tryz.func62 rfl rfl rfl (E0:= [(0,(T.agg (QB false a)))]) rfl ?_
 obtain ⟨hlim,hmx,hmax⟩:=QG
 simp only [QM,ZM] at hz
 have hl:=Q7 (z:=QK) a.Clues
 have hl2:=Q7 (z:=zI) a.Seals
 refine sr (kO (B.box (ts:=(QB false a)) (tv (T.agg (QB false a)) rfl) nofun rfl) (fO (OF.assign (VEv.bool false)) (nt (sq (sr (fO (OF.fieldAddrO (tv (T.op 0 0) rfl) JW) (lO (OL.loadOn (us:=(Qd false a.Grid)) (tv (T.op 0 0) rfl) rfl Q2 QW (lb rfl) rfl) (cO (cS (vc (tv (T.agg (Qd false a.Grid)) rfl) vn) (LendL.cons (lg Qu) ln) (Qf3 (n+0) a.Grid (by omega)) rfl rfl) (fO (xne (tv (tI (Z7 a.Grid)) rfl) (VEv.int .i64 0)) (nt ?_))))))))))
 refine cn (Z7 a.Grid=0) rfl (fun fhc0=> ?_) fun fhc0=> ?_
 ·refine sr ?_
  refine fO (OF.assign (VEv.bool false)) (nt (rt (tr (vb (b':=false) rfl ?_))))
  symm;rw [decide_eq_false_iff_not];intro h;exact fhc0 h.1
 refine sk (tn (sr (fO (OF.fieldAddrO (tv (T.op 0 0) rfl) JW) (lO (OL.loadOn (us:=(Qd false a.Grid)) (tv (T.op 0 0) rfl) rfl Q2 QW (lb rfl) rfl) (cO (OC.callF (us:= [(T.agg (Qd false a.Grid))]) (r:=(T.sl true 4 ((Qc a.Grid).map (Qh true)))) (r':=(T.os 4 1 0 (((Qc a.Grid).map (Qh true)).length))) (objs:= [(Obj.rows 4 ((Qc a.Grid).map (Qh true)))]) rfl (vc (tv (T.agg (Qd false a.Grid)) rfl) vn) (LendL.cons (lg Qu) ln) (J6 (n+38) a.Grid (by omega)) rfl) (lO (B.lenO (m:=(Qc a.Grid).length) (tv (T.os 4 1 0 (((Qc a.Grid).map (Qh true)).length)) rfl) Yc (List.length_map ..)) (aO (tN ((Qc a.Grid).length)) rfl (nt (sr (lf (rd 2 Qe a.Clues) rfl Jy rfl rfl Qe3 (lO (B.lenR (m:=a.Clues.length) (tv (rd 2 Qe a.Clues) rfl) U35 (List.length_map ..)) ?_)))))))))))
 refine mO (tN ((Qc a.Grid).length)) rfl (fO (Qj8 (tv (tN a.Clues.length) rfl) (tv (tN ((Qc a.Grid).length)) rfl)) (mO (tB (decide (a.Clues.length=(Qc a.Grid).length))) rfl ?_))
 refine gw (a.Clues.length=(Qc a.Grid).length) (fun fhg17_1=> ?_) fun fhg17_1=> ?_
 ·refine Yv (rd 1 Qb a.Seals) (dy fhg17_1) rfl rfl rfl rfl QaY rfl rfl Qdi ?_
  refine gL (dy fhg17_1) rfl rfl (B.lenR (m:=a.Seals.length) (tv (rd 1 Qb a.Seals) rfl) Zt (List.length_map ..)) (gF (dy fhg17_1) rfl rfl (OF.move (tv (tN ((Qc a.Grid).length)) rfl)) (gF (dy fhg17_1) rfl rfl (Qj8 (tv (tN a.Seals.length) rfl) (tv (tN ((Qc a.Grid).length)) rfl)) (fO (OF.pickT (VEv.tmpB rfl (dy fhg17_1)) (tv (tB (decide (a.Seals.length=(Qc a.Grid).length))) rfl)) (mO (tB (decide (a.Seals.length=(Qc a.Grid).length))) rfl ?_))))
  refine gw (a.Seals.length=(Qc a.Grid).length) (fun fhg24_2=> ?_) fun fhg24_2=> ?_
  ·refine Yv (tI a.Salt) (dy fhg24_2) rfl rfl rfl rfl Qch rfl rfl QT ?_
   refine VRunO.chain (VWant.on rfl rfl (dy fhg24_2)) (cS (vc (tv (tI a.Salt) rfl) (vc (VEv.int .i64 1) (vc (VEv.int .i64 9999) vn))) (ZX rfl) (Q8 (n+40) a.Salt 1 9999) rfl rfl) (fO (OF.pickT (VEv.tmpB rfl (dy fhg24_2)) (tv (tB (decide (1≤a.Salt∧a.Salt≤9999))) rfl)) (mO (tB (decide (1≤a.Salt∧a.Salt≤9999))) rfl ?_))
   refine gw (1≤a.Salt∧a.Salt≤9999) (fun fhg29_3=> ?_) fun fhg29_3=> ?_
   ·refine Yv (rd 2 Qe a.Clues) (dy fhg29_3) rfl rfl rfl rfl Jy rfl rfl Qe3 ?_
    refine VRunO.chain (VWant.on rfl rfl (dy fhg29_3)) (cS (us:= [(rd 2 Qe a.Clues),(T.fn 109 [])]) (vc (tv (rd 2 Qe a.Clues) rfl) (vc (VEv.func 109) vn)) (lp rfl (LendL.cons (Lend.fn ln) ln)) (ZB (n+34) a.Clues (by omega)) rfl rfl) (gF (dy fhg29_3) rfl rfl (QZ (tv (tB (decide (∃c∈a.Clues,noC c))) rfl)) (fO (OF.pickT (VEv.tmpB rfl (dy fhg29_3)) (tv (tB (!(decide (∃c∈a.Clues,noC c)))) rfl)) (aO (tB (!(decide (∃c∈a.Clues,noC c)))) rfl (nt (rt (vb (b':=(!(decide (∃c∈a.Clues,noC c)))) rfl ?_))))))
    (rw [dN];refine Q4 ⟨fun h=>⟨?_,?_,?_,?_,fun c hc=>Classical.byContradiction fun e=>h ⟨c,hc,e⟩⟩,fun h=> ?_⟩<;>first | assumption | (rintro ⟨c,hc,hb⟩;exact hb (h.2.2.2.2 c hc)))
   refine QC 4 17 true 29 (dz fhg29_3) rfl rfl rfl (fO (OF.pickF (VEv.tmpB rfl (dz fhg29_3)) (VEv.bool false)) (aO (tB false) rfl (nt (rt (vb (b':=false) rfl ?_)))))
   (symm;rw [decide_eq_false_iff_not];rintro ⟨h1,h2,h3,h4,h5⟩;contradiction)
  refine QC 3 12 true 24 (dz fhg24_2) rfl rfl rfl (fO (OF.pickF (VEv.tmpB rfl (dz fhg24_2)) (VEv.bool false)) (mO (tB false) rfl (QC 4 17 true 29 (b:=false) rfl rfl rfl rfl (fO (OF.pickF (tv (tB false) rfl) (VEv.bool false)) (aO (tB false) rfl (nt (rt (vb (b':=false) rfl ?_))))))))
  (symm;rw [decide_eq_false_iff_not];rintro ⟨h1,h2,h3,h4,h5⟩;contradiction)
 refine QC 5 5 true 17 (dz fhg17_1) rfl rfl rfl (fO (OF.pickF (VEv.tmpB rfl (dz fhg17_1)) (VEv.bool false)) (mO (tB false) rfl (QC 3 12 true 24 (b:=false) rfl rfl rfl rfl (fO (OF.pickF (tv (tB false) rfl) (VEv.bool false)) (mO (tB false) rfl (QC 4 17 true 29 (b:=false) rfl rfl rfl rfl (fO (OF.pickF (tv (tB false) rfl) (VEv.bool false)) (aO (tB false) rfl (nt (rt (vb (b':=false) rfl ?_)))))))))))
 (symm;rw [decide_eq_false_iff_not];rintro ⟨h1,h2,h3,h4,h5⟩;contradiction)
noncomputable section
def QS (p:D.Puzzle) (f:ByteArray):Prop:=QcN p∧Qay p.Grid f∧(Zw p.Grid f p.Seals p.Salt).length=p.Clues.length
instance (p:D.Puzzle) (f:ByteArray):Decidable (QS p f):=Classical.propDecidable _
end
theorem Qeo (n:Nat) (a:D.Puzzle) (f:ByteArray) (hz:QM a≤mx) (hf:f.size≤maxLen):Pure (Qr Tryz.prog (n+11)) 98 [(T.agg (QB false a)),(tS f)] (tB (decide (QS a f))):=by
 refine Pure.intro (rs:= [ResultVar.tmp 4]) Tryz.func98 rfl rfl rfl (E0:= [(0,(T.agg (QB false a))),(1,(tS f))]) rfl ?_
 obtain ⟨hlim,hmx,hmax⟩:=QG
 have hz2:=hz
 simp only [QM,ZM] at hz2
 have hl:=Q7 (z:=QK) a.Clues
 have hl2:=Q7 (z:=zI) a.Seals
 have hrl:=QeI a.Grid f a.Seals a.Salt
 refine sr (kO (B.box (ts:=(QB false a)) (tv (T.agg (QB false a)) rfl) nofun rfl) (fO (OF.assign (VEv.bool false)) (nt (sq (VRun.draw (B:= [[],[0],[0,1],[1,0,2],[2,0,1,3],[1,0,2],[5,3,1,0,2,4],[4,3,5,6,1,0,2],[2,0,1,6,5,3,4,7],[7,4,3,5,6,1,0,2,8],[8,2,0,1,6,5,3,4,7,9],[7,4,3,5,6,1,0,2,8],[7,4,3,5,6,1,0,2,8],[8,2,0,1,6,5,3,4,7,12],[7,4,3,5,6,1,0,2,8],[8,2,0,1,6,5,3,4,7,14],[14,15,12,13,11,9,7,4,3,5,6,1,0,2,8,10],[10,8,2,0,1,6,5,3,4,7,9,11,13,12,15,14,16],[7,4,3,5,6,1,0,2,8],[8,2,0,1,6,5,3,4,7,18],[18,7,4,3,5,6,1,0,2,8,19],[19,18,20,16,14,15,12,13,11,9,7,4,3,5,6,1,0,2,8,10,17],[17,10,9,11,13,12,15,14,16,20,18,19,21,7,4,3,5,6,1,0,2,8],[8,2,0,1,6,5,3,4,7,21,19,18,20,16,14,15,12,13,11,9,10,17,22]]) (by kernel_rfl) (by kernel_rfl) (lD (OL.loadOn (us:=(QB false a)) (tv (T.op 0 0) rfl) rfl QgQ Qeg (lb rfl) rfl) rfl rfl (VRunD.quiet (bi:= [0]) rfl VWant.always rfl rfl rfl bn (cS (vc (tv (T.agg (QB false a)) rfl) vn) (LendL.cons (lg YY) ln) (Qem (n+0) a (by assumption)) rfl rfl) (mD (tB (decide (QcN a))) rfl rfl ?_))))))))
 refine gw (QcN a) (fun fhg7_1=> ?_) fun fhg7_1=> ?_
 ·refine VRunD.free rfl (VWant.on rfl rfl (dy fhg7_1)) rfl (OF.fieldAddrO (tv (T.op 0 0) rfl) JW) ?_
  refine VRunD.look rfl (VWant.on rfl rfl (dy fhg7_1)) rfl (OL.loadOn (us:=(Qd false a.Grid)) (tv (T.op 0 0) rfl) rfl Q2 QW (lb rfl) rfl) (VRunD.free rfl (VWant.on rfl rfl (dy fhg7_1)) rfl (OF.move (tv (tS f) rfl)) (VRunD.quiet (bi:= [5,3,1,0,2,4]) rfl (VWant.on rfl rfl (dy fhg7_1)) rfl rfl rfl bn (cS (vc (tv (T.agg (Qd false a.Grid)) rfl) (vc (tv (tS f) rfl) vn)) (LendL.cons (lg Qu) (lp rfl ln)) (QfJ (n+6) a.Grid f (by omega) (by assumption)) rfl rfl) (fD (OF.pickT (VEv.tmpB rfl (dy fhg7_1)) (tv (tB (decide (Qay a.Grid f))) rfl)) rfl rfl (mD (tB (decide (Qay a.Grid f))) rfl rfl ?_))))
  refine gw (Qay a.Grid f) (fun fhg13_2=> ?_) fun fhg13_2=> ?_
  ·refine VRunD.free rfl (VWant.on rfl rfl (dy fhg13_2)) rfl (OF.fieldAddrO (tv (T.op 0 0) rfl) JW) ?_
   refine VRunD.look rfl (VWant.on rfl rfl (dy fhg13_2)) rfl (OL.loadOn (us:=(Qd false a.Grid)) (tv (T.op 0 0) rfl) rfl Q2 QW (lb rfl) rfl) (VRunD.free rfl (VWant.on rfl rfl (dy fhg13_2)) rfl (OF.move (tv (tS f) rfl)) (VRunD.free rfl (VWant.on rfl rfl (dy fhg13_2)) rfl (OF.fieldAddrO (tv (T.op 0 0) rfl) QaY) (VRunD.look rfl (VWant.on rfl rfl (dy fhg13_2)) rfl (OL.loadO1 (t:=(rd 1 Qb a.Seals)) (tv (T.op 0 4) rfl) rfl rfl Qdi) (VRunD.free rfl (VWant.on rfl rfl (dy fhg13_2)) rfl (OF.fieldAddrO (tv (T.op 0 0) rfl) Qch) (VRunD.look rfl (VWant.on rfl rfl (dy fhg13_2)) rfl (OL.loadO1 (t:=(tI a.Salt)) (tv (T.op 0 5) rfl) rfl rfl QT) (VRunD.quiet (bi:= [14,15,12,13,11,9,7,4,3,5,6,1,0,2,8,10]) rfl (VWant.on rfl rfl (dy fhg13_2)) rfl rfl rfl bn (OC.callF (us:= [(T.agg (Qd false a.Grid)),(tS f),(rd 1 Qb a.Seals),(tI a.Salt)]) (r:=(T.sl true 1 ((Zw a.Grid f a.Seals a.Salt).map (Qb true)))) (r':=(T.os 1 1 0 (((Zw a.Grid f a.Seals a.Salt).map (Qb true)).length))) (objs:= [(Obj.rows 1 ((Zw a.Grid f a.Seals a.Salt).map (Qb true)))]) rfl (vc (tv (T.agg (Qd false a.Grid)) rfl) (vc (tv (tS f) rfl) (vc (tv (rd 1 Qb a.Seals) rfl) (vc (tv (tI a.Salt) rfl) vn)))) (LendL.cons (lg Qu) (lp rfl (lp rfl (lp rfl ln)))) (QcI (n+4) a.Grid f a.Seals a.Salt (by omega) (by assumption) (by omega)) rfl) (VRunD.look rfl (VWant.on rfl rfl (dy fhg13_2)) rfl (B.lenO (m:=(Zw a.Grid f a.Seals a.Salt).length) (tv (T.os 1 1 0 (((Zw a.Grid f a.Seals a.Salt).map (Qb true)).length)) rfl) Zt (List.length_map ..)) (VRunD.free rfl (VWant.on rfl rfl (dy fhg13_2)) rfl (OF.fieldAddrO (tv (T.op 0 0) rfl) Jy) (VRunD.look rfl (VWant.on rfl rfl (dy fhg13_2)) rfl (OL.loadO1 (t:=(rd 2 Qe a.Clues)) (tv (T.op 0 3) rfl) rfl rfl Qe3) (VRunD.look rfl (VWant.on rfl rfl (dy fhg13_2)) rfl (B.lenR (m:=a.Clues.length) (tv (rd 2 Qe a.Clues) rfl) U35 (List.length_map ..)) (VRunD.free rfl (VWant.on rfl rfl (dy fhg13_2)) rfl (Qj8 (tv (tN ((Zw a.Grid f a.Seals a.Salt).length)) rfl) (tv (tN a.Clues.length) rfl)) ?_)))))))))))
   refine fD (OF.pickT (VEv.tmpB rfl (dy fhg13_2)) (tv (tB (decide ((Zw a.Grid f a.Seals a.Salt).length=a.Clues.length))) rfl)) rfl rfl (fD (OF.assign (tv (tB (decide ((Zw a.Grid f a.Seals a.Salt).length=a.Clues.length))) rfl)) rfl rfl (VRunD.nil (tn (rt (vb (b':=(decide ((Zw a.Grid f a.Seals a.Salt).length=a.Clues.length))) rfl ?_)))))
   (refine Q4 ⟨fun h=>⟨?_,?_,h⟩,fun h=>h.2.2⟩<;>assumption)
  refine oD rfl rfl (dz fhg13_2) rfl (oD rfl rfl (dz fhg13_2) rfl (oD rfl rfl (dz fhg13_2) rfl (oD rfl rfl (dz fhg13_2) rfl (oD rfl rfl (dz fhg13_2) rfl (oD rfl rfl (dz fhg13_2) rfl (oD rfl rfl (dz fhg13_2) rfl (oD rfl rfl (dz fhg13_2) rfl (oD rfl rfl (dz fhg13_2) rfl (oD rfl rfl (dz fhg13_2) rfl (oD rfl rfl (dz fhg13_2) rfl (oD rfl rfl (dz fhg13_2) rfl ?_)))))))))))
  refine oD rfl rfl (dz fhg13_2) rfl (fD (OF.pickF (VEv.tmpB rfl (dz fhg13_2)) (VEv.bool false)) rfl rfl (fD (OF.assign (tv (tB false) rfl)) rfl rfl (VRunD.nil (tn (rt (vb (b':=false) rfl ?_))))))
  (symm;rw [decide_eq_false_iff_not];rintro ⟨h1,h2,h3⟩;contradiction)
 refine oD rfl rfl (dz fhg7_1) rfl (oD rfl rfl (dz fhg7_1) rfl (oD rfl rfl (dz fhg7_1) rfl (oD rfl rfl (dz fhg7_1) rfl (fD (OF.pickF (VEv.tmpB rfl (dz fhg7_1)) (VEv.bool false)) rfl rfl (mD (tB false) rfl rfl (VRunD.off rfl (VWant.not (b:=false) rfl rfl rfl) (VRunD.off rfl (VWant.not (b:=false) rfl rfl rfl) (VRunD.off rfl (VWant.not (b:=false) rfl rfl rfl) (VRunD.off rfl (VWant.not (b:=false) rfl rfl rfl) (VRunD.off rfl (VWant.not (b:=false) rfl rfl rfl) (VRunD.off rfl (VWant.not (b:=false) rfl rfl rfl) ?_)))))))))))
 refine VRunD.off rfl (VWant.not (b:=false) rfl rfl rfl) (VRunD.off rfl (VWant.not (b:=false) rfl rfl rfl) (VRunD.off rfl (VWant.not (b:=false) rfl rfl rfl) (VRunD.off rfl (VWant.not (b:=false) rfl rfl rfl) (VRunD.off rfl (VWant.not (b:=false) rfl rfl rfl) (VRunD.off rfl (VWant.not (b:=false) rfl rfl rfl) (VRunD.off rfl (VWant.not (b:=false) rfl rfl rfl) (fD (OF.pickF (tv (tB false) rfl) (VEv.bool false)) rfl rfl (fD (OF.assign (tv (tB false) rfl)) rfl rfl (VRunD.nil (tn (rt ?_)))))))))))
 refine vb (b':=false) rfl ?_
 (symm;rw [decide_eq_false_iff_not];rintro ⟨h1,h2,h3⟩;contradiction)
theorem Qen (n:Nat) (a:D.Puzzle) (f:ByteArray) (hz:QM a≤mx) (hf:f.size≤maxLen):Pure (Qr Tryz.prog (n+43)) 117 [(T.agg (QB false a)),(tS f)] (tB (decide (QS a f))):=by
 refine Pure.intro (rs:= [ResultVar.tmp 4]) Tryz.func117 rfl rfl rfl (E0:= [(0,(T.agg (QB false a))),(1,(tS f))]) rfl ?_
 obtain ⟨hlim,hmx,hmax⟩:=QG
 have hz2:=hz
 simp only [QM,ZM] at hz2
 have hl:=Q7 (z:=QK) a.Clues
 have hl2:=Q7 (z:=zI) a.Seals
 have hrl:=QeI a.Grid f a.Seals a.Salt
 refine sr (kO (B.box (ts:=(QB false a)) (tv (T.agg (QB false a)) rfl) nofun rfl) (fO (OF.assign (VEv.bool false)) (nt (sq (VRun.draw (B:= [[],[0],[0,1],[1,0,2],[2,0,1,3],[1,0,2],[5,3,1,0,2,4],[4,3,5,6,1,0,2],[2,0,1,6,5,3,4,7],[7,4,3,5,6,1,0,2,8],[8,2,0,1,6,5,3,4,7,9],[7,4,3,5,6,1,0,2,8],[7,4,3,5,6,1,0,2,8],[8,2,0,1,6,5,3,4,7,12],[7,4,3,5,6,1,0,2,8],[8,2,0,1,6,5,3,4,7,14],[14,15,12,13,11,9,7,4,3,5,6,1,0,2,8,10],[10,8,2,0,1,6,5,3,4,7,9,11,13,12,15,14,16],[7,4,3,5,6,1,0,2,8],[8,2,0,1,6,5,3,4,7,18],[18,7,4,3,5,6,1,0,2,8,19],[19,18,20,16,14,15,12,13,11,9,7,4,3,5,6,1,0,2,8,10,17],[17,10,9,11,13,12,15,14,16,20,18,19,21,7,4,3,5,6,1,0,2,8],[8,2,0,1,6,5,3,4,7,21,19,18,20,16,14,15,12,13,11,9,10,17,22]]) (by kernel_rfl) (by kernel_rfl) (lD (OL.loadOn (us:=(QB false a)) (tv (T.op 0 0) rfl) rfl QgQ Qeg (lb rfl) rfl) rfl rfl (VRunD.quiet (bi:= [0]) rfl VWant.always rfl rfl rfl bn (cS (vc (tv (T.agg (QB false a)) rfl) vn) (LendL.cons (lg YY) ln) (Qd9 (n+0) a (by assumption)) rfl rfl) (mD (tB (decide (QcN a))) rfl rfl ?_))))))))
 refine gw (QcN a) (fun fhg7_1=> ?_) fun fhg7_1=> ?_
 ·refine VRunD.free rfl (VWant.on rfl rfl (dy fhg7_1)) rfl (OF.fieldAddrO (tv (T.op 0 0) rfl) JW) ?_
  refine VRunD.look rfl (VWant.on rfl rfl (dy fhg7_1)) rfl (OL.loadOn (us:=(Qd false a.Grid)) (tv (T.op 0 0) rfl) rfl Q2 QW (lb rfl) rfl) (VRunD.free rfl (VWant.on rfl rfl (dy fhg7_1)) rfl (OF.move (tv (tS f) rfl)) (VRunD.quiet (bi:= [5,3,1,0,2,4]) rfl (VWant.on rfl rfl (dy fhg7_1)) rfl rfl rfl bn (cS (vc (tv (T.agg (Qd false a.Grid)) rfl) (vc (tv (tS f) rfl) vn)) (LendL.cons (lg Qu) (lp rfl ln)) (QfW (n+38) a.Grid f (by omega) (by assumption)) rfl rfl) (fD (OF.pickT (VEv.tmpB rfl (dy fhg7_1)) (tv (tB (decide (Qay a.Grid f))) rfl)) rfl rfl (mD (tB (decide (Qay a.Grid f))) rfl rfl ?_))))
  refine gw (Qay a.Grid f) (fun fhg13_2=> ?_) fun fhg13_2=> ?_
  ·refine VRunD.free rfl (VWant.on rfl rfl (dy fhg13_2)) rfl (OF.fieldAddrO (tv (T.op 0 0) rfl) JW) ?_
   refine VRunD.look rfl (VWant.on rfl rfl (dy fhg13_2)) rfl (OL.loadOn (us:=(Qd false a.Grid)) (tv (T.op 0 0) rfl) rfl Q2 QW (lb rfl) rfl) (VRunD.free rfl (VWant.on rfl rfl (dy fhg13_2)) rfl (OF.move (tv (tS f) rfl)) (VRunD.free rfl (VWant.on rfl rfl (dy fhg13_2)) rfl (OF.fieldAddrO (tv (T.op 0 0) rfl) QaY) (VRunD.look rfl (VWant.on rfl rfl (dy fhg13_2)) rfl (OL.loadO1 (t:=(rd 1 Qb a.Seals)) (tv (T.op 0 4) rfl) rfl rfl Qdi) (VRunD.free rfl (VWant.on rfl rfl (dy fhg13_2)) rfl (OF.fieldAddrO (tv (T.op 0 0) rfl) Qch) (VRunD.look rfl (VWant.on rfl rfl (dy fhg13_2)) rfl (OL.loadO1 (t:=(tI a.Salt)) (tv (T.op 0 5) rfl) rfl rfl QT) (VRunD.quiet (bi:= [14,15,12,13,11,9,7,4,3,5,6,1,0,2,8,10]) rfl (VWant.on rfl rfl (dy fhg13_2)) rfl rfl rfl bn (OC.callF (us:= [(T.agg (Qd false a.Grid)),(tS f),(rd 1 Qb a.Seals),(tI a.Salt)]) (r:=(T.sl true 1 ((Zw a.Grid f a.Seals a.Salt).map (Qb true)))) (r':=(T.os 1 1 0 (((Zw a.Grid f a.Seals a.Salt).map (Qb true)).length))) (objs:= [(Obj.rows 1 ((Zw a.Grid f a.Seals a.Salt).map (Qb true)))]) rfl (vc (tv (T.agg (Qd false a.Grid)) rfl) (vc (tv (tS f) rfl) (vc (tv (rd 1 Qb a.Seals) rfl) (vc (tv (tI a.Salt) rfl) vn)))) (LendL.cons (lg Qu) (lp rfl (lp rfl (lp rfl ln)))) (QcV (n+36) a.Grid f a.Seals a.Salt (by omega) (by assumption) (by omega)) rfl) (VRunD.look rfl (VWant.on rfl rfl (dy fhg13_2)) rfl (B.lenO (m:=(Zw a.Grid f a.Seals a.Salt).length) (tv (T.os 1 1 0 (((Zw a.Grid f a.Seals a.Salt).map (Qb true)).length)) rfl) Zt (List.length_map ..)) (VRunD.free rfl (VWant.on rfl rfl (dy fhg13_2)) rfl (OF.fieldAddrO (tv (T.op 0 0) rfl) QaY) (VRunD.look rfl (VWant.on rfl rfl (dy fhg13_2)) rfl (OL.loadO1 (t:=(rd 1 Qb a.Seals)) (tv (T.op 0 4) rfl) rfl rfl Qdi) (VRunD.look rfl (VWant.on rfl rfl (dy fhg13_2)) rfl (B.lenR (m:=a.Seals.length) (tv (rd 1 Qb a.Seals) rfl) Zt (List.length_map ..)) (VRunD.free rfl (VWant.on rfl rfl (dy fhg13_2)) rfl (Qj8 (tv (tN ((Zw a.Grid f a.Seals a.Salt).length)) rfl) (tv (tN a.Seals.length) rfl)) ?_)))))))))))
   refine fD (OF.pickT (VEv.tmpB rfl (dy fhg13_2)) (tv (tB (decide ((Zw a.Grid f a.Seals a.Salt).length=a.Seals.length))) rfl)) rfl rfl (fD (OF.assign (tv (tB (decide ((Zw a.Grid f a.Seals a.Salt).length=a.Seals.length))) rfl)) rfl rfl (VRunD.nil (tn (rt (vb (b':=(decide ((Zw a.Grid f a.Seals a.Salt).length=a.Seals.length))) rfl ?_)))))
   (refine Q4 ⟨fun h=>⟨?_,?_,?_⟩,fun h=> ?_⟩<;>first | assumption | (have h9:=h.1;rw [h.2.2,h9.2.1,h9.2.2.1]) | (have h9:QcN a:=(by assumption);rw [h,h9.2.2.1,h9.2.1]))
  refine oD rfl rfl (dz fhg13_2) rfl (oD rfl rfl (dz fhg13_2) rfl (oD rfl rfl (dz fhg13_2) rfl (oD rfl rfl (dz fhg13_2) rfl (oD rfl rfl (dz fhg13_2) rfl (oD rfl rfl (dz fhg13_2) rfl (oD rfl rfl (dz fhg13_2) rfl (oD rfl rfl (dz fhg13_2) rfl (oD rfl rfl (dz fhg13_2) rfl (oD rfl rfl (dz fhg13_2) rfl (oD rfl rfl (dz fhg13_2) rfl (oD rfl rfl (dz fhg13_2) rfl ?_)))))))))))
  refine oD rfl rfl (dz fhg13_2) rfl (fD (OF.pickF (VEv.tmpB rfl (dz fhg13_2)) (VEv.bool false)) rfl rfl (fD (OF.assign (tv (tB false) rfl)) rfl rfl (VRunD.nil (tn (rt (vb (b':=false) rfl ?_))))))
  (symm;rw [decide_eq_false_iff_not];rintro ⟨h1,h2,h3⟩;contradiction)
 refine oD rfl rfl (dz fhg7_1) rfl (oD rfl rfl (dz fhg7_1) rfl (oD rfl rfl (dz fhg7_1) rfl (oD rfl rfl (dz fhg7_1) rfl (fD (OF.pickF (VEv.tmpB rfl (dz fhg7_1)) (VEv.bool false)) rfl rfl (mD (tB false) rfl rfl (VRunD.off rfl (VWant.not (b:=false) rfl rfl rfl) (VRunD.off rfl (VWant.not (b:=false) rfl rfl rfl) (VRunD.off rfl (VWant.not (b:=false) rfl rfl rfl) (VRunD.off rfl (VWant.not (b:=false) rfl rfl rfl) (VRunD.off rfl (VWant.not (b:=false) rfl rfl rfl) (VRunD.off rfl (VWant.not (b:=false) rfl rfl rfl) ?_)))))))))))
 refine VRunD.off rfl (VWant.not (b:=false) rfl rfl rfl) (VRunD.off rfl (VWant.not (b:=false) rfl rfl rfl) (VRunD.off rfl (VWant.not (b:=false) rfl rfl rfl) (VRunD.off rfl (VWant.not (b:=false) rfl rfl rfl) (VRunD.off rfl (VWant.not (b:=false) rfl rfl rfl) (VRunD.off rfl (VWant.not (b:=false) rfl rfl rfl) (VRunD.off rfl (VWant.not (b:=false) rfl rfl rfl) (fD (OF.pickF (tv (tB false) rfl) (VEv.bool false)) rfl rfl (fD (OF.assign (tv (tB false) rfl)) rfl rfl (VRunD.nil (tn (rt ?_)))))))))))
 refine vb (b':=false) rfl ?_
 (symm;rw [decide_eq_false_iff_not];rintro ⟨h1,h2,h3⟩;contradiction)
noncomputable section
def ZT (x:D.Issue):Prop:=(1≤x.Number∧x.Number≤999)∧QS x.Puzzle x.Fill∧0≤x.Open∧x.Open<x.Close∧x.Close≤1000
instance (x:D.Issue):Decidable (ZT x):=Classical.propDecidable _
theorem Qd8 (x:D.Issue):((((1≤x.Number∧x.Number≤999)∧QS x.Puzzle x.Fill)∧0≤x.Open)∧x.Open<x.Close)∧x.Close≤1000↔ZT x:=by
 unfold ZT
 simp only [and_assoc]
end
theorem Qfa (n:Nat) (a:D.Issue) (hz:Zg a≤mx):Pure (Qr Tryz.prog (n+12)) 46 [(T.agg (Qw false a))] (tB (decide (ZT a))):=by
 refine Pure.intro (rs:= [ResultVar.tmp 2]) Tryz.func46 rfl rfl rfl (E0:= [(0,(T.agg (Qw false a)))]) rfl ?_
 obtain ⟨hlim,hmx,hmax⟩:=QG
 simp only [Zg] at hz
 refine sr (kO (B.box (ts:=(Qw false a)) (tv (T.agg (Qw false a)) rfl) nofun rfl) (fO (OF.assign (VEv.bool false)) (nt (sr (lf (tI a.Number) rfl QcG rfl rfl QT (cO (cS (vc (tv (tI a.Number) rfl) (vc (VEv.int .i64 1) (vc (VEv.int .i64 999) vn))) (ZX rfl) (QQ (n+10) a.Number 1 999) rfl rfl) (mO (tB (decide (1≤a.Number∧a.Number≤999))) rfl ?_)))))))
 refine VRunO.joinB 6 [7,8,9,10,11] 12 (tB (decide ((1≤a.Number∧a.Number≤999)∧(QS a.Puzzle a.Fill)))) ?_ ?_
 ·refine gw (1≤a.Number∧a.Number≤999) (fun fhg6_1=> ?_) fun fhg6_1=> ?_
  ·refine gF (dy fhg6_1) rfl rfl (OF.fieldAddrO (tv (T.op 0 0) rfl) Qbh) ?_
   refine gL (dy fhg6_1) rfl rfl (OL.loadOn (us:=(QB false a.Puzzle)) (tv (T.op 0 1) rfl) rfl QgQ Qeg (lb rfl) rfl) (Yv (tS a.Fill) (dy fhg6_1) rfl rfl rfl rfl Qfd rfl rfl Yq (VRunO.chain (VWant.on rfl rfl (dy fhg6_1)) (cS (vc (tv (T.agg (QB false a.Puzzle)) rfl) (vc (tv (tS a.Fill) rfl) vn)) (LendL.cons (lg YY) (lp rfl ln)) (Qeo (n+0) a.Puzzle a.Fill (by omega) (by omega)) rfl rfl) (fO (OF.pickT (VEv.tmpB rfl (dy fhg6_1)) (tv (tB (decide (QS a.Puzzle a.Fill))) rfl)) (VRunO.nil ?_))))
   exact jq (congrArg T.bool (kAT fhg6_1 rfl)) (js rfl (js rfl (js rfl (js rfl (js rfl (jn))))))
  ·refine QC 5 3 true 6 (dz fhg6_1) rfl rfl rfl ?_
   refine fO (OF.pickF (VEv.tmpB rfl (dz fhg6_1)) (VEv.bool false)) (VRunO.nil ?_)
   exact jq (congrArg T.bool (kAF fhg6_1)) (js rfl (js rfl (js rfl (js rfl (js rfl (jn))))))
 refine mO (tB (decide ((1≤a.Number∧a.Number≤999)∧(QS a.Puzzle a.Fill)))) rfl ?_
 refine VRunO.joinB 4 [14,15,16] 17 (tB (decide (((1≤a.Number∧a.Number≤999)∧(QS a.Puzzle a.Fill))∧(0≤a.Open)))) ?_ ?_
 ·refine gw ((1≤a.Number∧a.Number≤999)∧(QS a.Puzzle a.Fill)) (fun fhg13_2=> ?_) fun fhg13_2=> ?_
  ·refine Yv (tI a.Open) (dy fhg13_2) rfl rfl rfl rfl Qcj rfl rfl QT ?_
   refine gF (dy fhg13_2) rfl rfl (xge (tv (tI a.Open) rfl) (VEv.int .i64 0)) (fO (OF.pickT (VEv.tmpB rfl (dy fhg13_2)) (tv (tB (decide (0≤a.Open))) rfl)) (VRunO.nil ?_))
   exact jq (congrArg T.bool (kAT fhg13_2 rfl)) (js rfl (js rfl (js rfl (jn))))
  ·refine QC 3 10 true 13 (dz fhg13_2) rfl rfl rfl ?_
   refine fO (OF.pickF (VEv.tmpB rfl (dz fhg13_2)) (VEv.bool false)) (VRunO.nil ?_)
   exact jq (congrArg T.bool (kAF fhg13_2)) (js rfl (js rfl (js rfl (jn))))
 refine mO (tB (decide (((1≤a.Number∧a.Number≤999)∧(QS a.Puzzle a.Fill))∧(0≤a.Open)))) rfl ?_
 refine VRunO.joinB 6 [19,20,21,22,23] 24 (tB (decide ((((1≤a.Number∧a.Number≤999)∧(QS a.Puzzle a.Fill))∧(0≤a.Open))∧(a.Open<a.Close)))) ?_ ?_
 ·refine gw (((1≤a.Number∧a.Number≤999)∧(QS a.Puzzle a.Fill))∧(0≤a.Open)) (fun fhg18_3=> ?_) fun fhg18_3=> ?_
  ·refine Yv (tI a.Open) (dy fhg18_3) rfl rfl rfl rfl Qcj rfl rfl QT ?_
   refine Yv (tI a.Close) (dy fhg18_3) rfl rfl rfl rfl QcF rfl rfl QT (gF (dy fhg18_3) rfl rfl (xls (tv (tI a.Open) rfl) (tv (tI a.Close) rfl)) (fO (OF.pickT (VEv.tmpB rfl (dy fhg18_3)) (tv (tB (decide (a.Open<a.Close))) rfl)) (VRunO.nil ?_)))
   exact jq (congrArg T.bool (kAT fhg18_3 rfl)) (js rfl (js rfl (js rfl (js rfl (js rfl (jn))))))
  ·refine QC 5 15 true 18 (dz fhg18_3) rfl rfl rfl ?_
   refine fO (OF.pickF (VEv.tmpB rfl (dz fhg18_3)) (VEv.bool false)) (VRunO.nil ?_)
   exact jq (congrArg T.bool (kAF fhg18_3)) (js rfl (js rfl (js rfl (js rfl (js rfl (jn))))))
 refine mO (tB (decide ((((1≤a.Number∧a.Number≤999)∧(QS a.Puzzle a.Fill))∧(0≤a.Open))∧(a.Open<a.Close)))) rfl ?_
 refine VRunO.joinB 4 [26,27,28] 29 (tB (decide (((((1≤a.Number∧a.Number≤999)∧(QS a.Puzzle a.Fill))∧(0≤a.Open))∧(a.Open<a.Close))∧(a.Close≤1000)))) ?_ ?_
 ·refine gw ((((1≤a.Number∧a.Number≤999)∧(QS a.Puzzle a.Fill))∧(0≤a.Open))∧(a.Open<a.Close)) (fun fhg25_4=> ?_) fun fhg25_4=> ?_
  ·refine Yv (tI a.Close) (dy fhg25_4) rfl rfl rfl rfl QcF rfl rfl QT ?_
   refine gF (dy fhg25_4) rfl rfl (xle (tv (tI a.Close) rfl) (VEv.int .i64 1000)) (fO (OF.pickT (VEv.tmpB rfl (dy fhg25_4)) (tv (tB (decide (a.Close≤1000))) rfl)) (VRunO.nil ?_))
   exact jq (congrArg T.bool (kAT fhg25_4 rfl)) (js rfl (js rfl (js rfl (jn))))
  ·refine QC 3 22 true 25 (dz fhg25_4) rfl rfl rfl ?_
   refine fO (OF.pickF (VEv.tmpB rfl (dz fhg25_4)) (VEv.bool false)) (VRunO.nil ?_)
   exact jq (congrArg T.bool (kAF fhg25_4)) (js rfl (js rfl (js rfl (jn))))
 refine aO (tB (decide (((((1≤a.Number∧a.Number≤999)∧(QS a.Puzzle a.Fill))∧(0≤a.Open))∧(a.Open<a.Close))∧(a.Close≤1000)))) rfl (nt (rt (vb (b':=(decide (((((1≤a.Number∧a.Number≤999)∧(QS a.Puzzle a.Fill))∧(0≤a.Open))∧(a.Open<a.Close))∧(a.Close≤1000)))) rfl ?_)))
 exact Q4 (Qd8 a)
theorem Qft (n:Nat) (a:D.Issue) (hz:Zg a≤mx):Pure (Qr Tryz.prog (n+44)) 72 [(T.agg (Qw false a))] (tB (decide (ZT a))):=by
 refine Pure.intro (rs:= [ResultVar.tmp 2]) Tryz.func72 rfl rfl rfl (E0:= [(0,(T.agg (Qw false a)))]) rfl ?_
 obtain ⟨hlim,hmx,hmax⟩:=QG
 simp only [Zg] at hz
 refine sr (kO (B.box (ts:=(Qw false a)) (tv (T.agg (Qw false a)) rfl) nofun rfl) (fO (OF.assign (VEv.bool false)) (nt (sr (lf (tI a.Number) rfl QcG rfl rfl QT (cO (cS (vc (tv (tI a.Number) rfl) (vc (VEv.int .i64 1) (vc (VEv.int .i64 999) vn))) (ZX rfl) (Q8 (n+42) a.Number 1 999) rfl rfl) (mO (tB (decide (1≤a.Number∧a.Number≤999))) rfl ?_)))))))
 refine VRunO.joinB 6 [7,8,9,10,11] 12 (tB (decide ((1≤a.Number∧a.Number≤999)∧(QS a.Puzzle a.Fill)))) ?_ ?_
 ·refine gw (1≤a.Number∧a.Number≤999) (fun fhg6_1=> ?_) fun fhg6_1=> ?_
  ·refine gF (dy fhg6_1) rfl rfl (OF.fieldAddrO (tv (T.op 0 0) rfl) Qbh) ?_
   refine gL (dy fhg6_1) rfl rfl (OL.loadOn (us:=(QB false a.Puzzle)) (tv (T.op 0 1) rfl) rfl QgQ Qeg (lb rfl) rfl) (Yv (tS a.Fill) (dy fhg6_1) rfl rfl rfl rfl Qfd rfl rfl Yq (VRunO.chain (VWant.on rfl rfl (dy fhg6_1)) (cS (vc (tv (T.agg (QB false a.Puzzle)) rfl) (vc (tv (tS a.Fill) rfl) vn)) (LendL.cons (lg YY) (lp rfl ln)) (Qen (n+0) a.Puzzle a.Fill (by omega) (by omega)) rfl rfl) (fO (OF.pickT (VEv.tmpB rfl (dy fhg6_1)) (tv (tB (decide (QS a.Puzzle a.Fill))) rfl)) (VRunO.nil ?_))))
   exact jq (congrArg T.bool (kAT fhg6_1 rfl)) (js rfl (js rfl (js rfl (js rfl (js rfl (jn))))))
  ·refine QC 5 3 true 6 (dz fhg6_1) rfl rfl rfl ?_
   refine fO (OF.pickF (VEv.tmpB rfl (dz fhg6_1)) (VEv.bool false)) (VRunO.nil ?_)
   exact jq (congrArg T.bool (kAF fhg6_1)) (js rfl (js rfl (js rfl (js rfl (js rfl (jn))))))
 refine mO (tB (decide ((1≤a.Number∧a.Number≤999)∧(QS a.Puzzle a.Fill)))) rfl ?_
 refine VRunO.joinB 4 [14,15,16] 17 (tB (decide (((1≤a.Number∧a.Number≤999)∧(QS a.Puzzle a.Fill))∧(0≤a.Open)))) ?_ ?_
 ·refine gw ((1≤a.Number∧a.Number≤999)∧(QS a.Puzzle a.Fill)) (fun fhg13_2=> ?_) fun fhg13_2=> ?_
  ·refine Yv (tI a.Open) (dy fhg13_2) rfl rfl rfl rfl Qcj rfl rfl QT ?_
   refine gF (dy fhg13_2) rfl rfl (xge (tv (tI a.Open) rfl) (VEv.int .i64 0)) (fO (OF.pickT (VEv.tmpB rfl (dy fhg13_2)) (tv (tB (decide (0≤a.Open))) rfl)) (VRunO.nil ?_))
   exact jq (congrArg T.bool (kAT fhg13_2 rfl)) (js rfl (js rfl (js rfl (jn))))
  ·refine QC 3 10 true 13 (dz fhg13_2) rfl rfl rfl ?_
   refine fO (OF.pickF (VEv.tmpB rfl (dz fhg13_2)) (VEv.bool false)) (VRunO.nil ?_)
   exact jq (congrArg T.bool (kAF fhg13_2)) (js rfl (js rfl (js rfl (jn))))
 refine mO (tB (decide (((1≤a.Number∧a.Number≤999)∧(QS a.Puzzle a.Fill))∧(0≤a.Open)))) rfl ?_
 refine VRunO.joinB 6 [19,20,21,22,23] 24 (tB (decide ((((1≤a.Number∧a.Number≤999)∧(QS a.Puzzle a.Fill))∧(0≤a.Open))∧(a.Open<a.Close)))) ?_ ?_
 ·refine gw (((1≤a.Number∧a.Number≤999)∧(QS a.Puzzle a.Fill))∧(0≤a.Open)) (fun fhg18_3=> ?_) fun fhg18_3=> ?_
  ·refine Yv (tI a.Open) (dy fhg18_3) rfl rfl rfl rfl Qcj rfl rfl QT ?_
   refine Yv (tI a.Close) (dy fhg18_3) rfl rfl rfl rfl QcF rfl rfl QT (gF (dy fhg18_3) rfl rfl (xls (tv (tI a.Open) rfl) (tv (tI a.Close) rfl)) (fO (OF.pickT (VEv.tmpB rfl (dy fhg18_3)) (tv (tB (decide (a.Open<a.Close))) rfl)) (VRunO.nil ?_)))
   exact jq (congrArg T.bool (kAT fhg18_3 rfl)) (js rfl (js rfl (js rfl (js rfl (js rfl (jn))))))
  ·refine QC 5 15 true 18 (dz fhg18_3) rfl rfl rfl ?_
   refine fO (OF.pickF (VEv.tmpB rfl (dz fhg18_3)) (VEv.bool false)) (VRunO.nil ?_)
   exact jq (congrArg T.bool (kAF fhg18_3)) (js rfl (js rfl (js rfl (js rfl (js rfl (jn))))))
 refine mO (tB (decide ((((1≤a.Number∧a.Number≤999)∧(QS a.Puzzle a.Fill))∧(0≤a.Open))∧(a.Open<a.Close)))) rfl ?_
 refine VRunO.joinB 4 [26,27,28] 29 (tB (decide (((((1≤a.Number∧a.Number≤999)∧(QS a.Puzzle a.Fill))∧(0≤a.Open))∧(a.Open<a.Close))∧(a.Close≤1000)))) ?_ ?_
 ·refine gw ((((1≤a.Number∧a.Number≤999)∧(QS a.Puzzle a.Fill))∧(0≤a.Open))∧(a.Open<a.Close)) (fun fhg25_4=> ?_) fun fhg25_4=> ?_
  ·refine Yv (tI a.Close) (dy fhg25_4) rfl rfl rfl rfl QcF rfl rfl QT ?_
   refine gF (dy fhg25_4) rfl rfl (xle (tv (tI a.Close) rfl) (VEv.int .i64 1000)) (fO (OF.pickT (VEv.tmpB rfl (dy fhg25_4)) (tv (tB (decide (a.Close≤1000))) rfl)) (VRunO.nil ?_))
   exact jq (congrArg T.bool (kAT fhg25_4 rfl)) (js rfl (js rfl (js rfl (jn))))
  ·refine QC 3 22 true 25 (dz fhg25_4) rfl rfl rfl ?_
   refine fO (OF.pickF (VEv.tmpB rfl (dz fhg25_4)) (VEv.bool false)) (VRunO.nil ?_)
   exact jq (congrArg T.bool (kAF fhg25_4)) (js rfl (js rfl (js rfl (jn))))
 refine aO (tB (decide (((((1≤a.Number∧a.Number≤999)∧(QS a.Puzzle a.Fill))∧(0≤a.Open))∧(a.Open<a.Close))∧(a.Close≤1000)))) rfl (nt (rt (vb (b':=(decide (((((1≤a.Number∧a.Number≤999)∧(QS a.Puzzle a.Fill))∧(0≤a.Open))∧(a.Open<a.Close))∧(a.Close≤1000)))) rfl ?_)))
 exact Q4 (Qd8 a)
end Go.Proofs.YtcccmceoplcciaaGreat.AE
namespace Go.Proofs.YtcccmceoplcciaaGreat.AE
open Go Go.RowKit
set_option linter.unusedVariables false
set_option linter.unusedSimpArgs false
set_option maxRecDepth 20000
set_option maxHeartbeats 2000000
noncomputable section
def Qs (x:D.Correction):Nat:=4+4*x.Clue.Play.length
def Zy (k:Nat) (x:D.Correction):D.Correction:=D.Correction.mk ((k:Nat):Int) ((k+1:Nat):Int) (D.Clue.mk ((k+1+1:Nat):Int) (Js Zl 4 (k+1+1+1) x.Clue.Play.length)) ((k+1+1+1+4*x.Clue.Play.length:Nat):Int)
theorem QlO (k:Nat) (x:D.Correction):Qs (Zy k x)=Qs x:=by unfold Qs Zy;simp only [YP]
theorem Ql4 (x:D.Correction):Qs x≤5*(1+Qq x):=by
 have:=Q7 (z:=ZD) x.Clue.Play
 unfold Qs Qq QK
 omega
def Qda : Nat→List D.Correction→List D.Correction:=mkL Zy Qs
def Ys : Nat→List D.Correction→Nat:=Za Qs
theorem ZC (k k2:Nat) (l:List D.Correction):Ys k (Qda k2 l)=Ys k l:=Qe8 QlO k k2 l
theorem Qix (k:Nat) (l:List D.Correction):Ys k l≤k+5*zL Qq l:=Qi3 Ql4 k l
theorem Qd7 (k:Nat) (l:List D.Correction):(Qda k l).length=l.length:=Qae k l
end
theorem QaV (n:Nat) (a:List D.Correction) (k:Nat) (hk:Ys k a≤YN):LoanM (Qr Tryz.prog (n+3)) 20 [(5,(a.map (Qa true)))] [(T.os 5 0 0 ((a.map (Qa true)).length)),(tN k)] (tN (Ys k a)) [(5,((Qda k a).map (Qa true)))]:=by
 refine LoanM.intro (rs:= [ResultVar.tmp 4]) [(0,(T.os 5 0 0 ((a.map (Qa true)).length)))] Tryz.func20 rfl rfl rfl rfl (bc ⟨by kernel_rfl,rfl⟩ bn) (PinsTo.at (And.intro trivial ⟨_,(.head _),(.os _ _)⟩)) (.int _ _) (bc (okeCorrection.cleanMap _) bn) (E0:= [(0,(T.os 5 0 0 ((a.map (Qa true)).length))),(1,(tN k))]) rfl (fun asg=> ?_)
 obtain ⟨hlim,hmx,hmax⟩:=QG
 show VRun _ _ _ [(0,(T.os 5 0 0 ((a.map (Qa true)).length))),(1,(tN k))] (QX [(0,(Obj.rowsN 5 (a.map (Qa true)) (asg 0)))]) 1 _
 have hk2:=hk
 unfold Ys at hk2
 have hla:=Qhg (w:=Qs) (fun x=>by unfold Qs;omega) k a
 refine sr (fO (OF.assign (VEv.int .i64 0)) (nt (sq (sr (fO (OF.assign (VEv.int .i64 0)) (nt (VRun.block ?_)))))))
 have he1:a=YI Zy Qs k a 0:=by rfl
 refine VRun.loop (A:=Nat) (fun s_=> [(0,(T.os 5 0 0 (((YI Zy Qs k a s_).map (Qa true)).length))),(1,(tN (Za Qs k (a.take s_)))),(4,(tN 0)),(5,(tN s_))]) (fun s_=>QX [(0,(Obj.rowsN 5 ((YI Zy Qs k a s_).map (Qa true)) (asg 0)))]) 1 (fun s_=>s_≤a.length) (fun s_=>a.length - s_) (0:Nat) ?_ (Wk.mk (fun k=>k) ?_ ?_ ?_) ?_
 ·(simp;done)
 ·exact (bc ⟨(congrArg (fun l_=>T.os 5 0 0 (List.map (Qa true) l_).length) he1),rfl⟩ (bc ⟨(congrArg (T.int .i64) (show ((k:Nat):Int)=((Za Qs k (a.take 0):Nat):Int) from (by rfl))),rfl⟩ (b2 (b2 bn))))
 ·exact (bc ⟨(congrArg (fun l_=>some (Obj.rowsN 5 (List.map (Qa true) l_) (asg 0))) he1),(lb rfl),rfl⟩ bn)
 ·exact nd rfl
 rintro i (hI':i≤a.length)
 show VRun _ _ _ [(0,(T.os 5 0 0 (((YI Zy Qs k a i).map (Qa true)).length))),(1,(tN (Za Qs k (a.take i)))),(4,(tN 0)),(5,(tN i))] (QX [(0,(Obj.rowsN 5 ((YI Zy Qs k a i).map (Qa true)) (asg 0)))]) 1 _
 have hml:=QaT (f:=Zy) (w:=Qs) k a i
 have hme:=Qc4 (w:=Qs) k a i
 refine sq (sr (mO (tN i) rfl (mO (T.os 5 0 0 (((YI Zy Qs k a i).map (Qa true)).length)) rfl (lO (B.lenO (m:=(YI Zy Qs k a i).length) (tv (T.os 5 0 0 (((YI Zy Qs k a i).map (Qa true)).length)) rfl) U41 (List.length_map ..)) (fO (Zd (tv (tN i) rfl) (tv (tN ((YI Zy Qs k a i).length)) rfl)) (nt ?_))))))
 refine cd (i<(YI Zy Qs k a i).length) rfl (fun fhc0=> ?_) fun fhc0=> ?_
 ·refine sk ?_
  refine tn (sq (VRun.block (sr (mO (T.os 5 0 0 (((YI Zy Qs k a i).map (Qa true)).length)) rfl (mO (tN i) rfl (mO (tN (Za Qs k (a.take i))) rfl ?_))))))
  obtain ⟨x1,hx1⟩:∃x,(YI Zy Qs k a i)[i]? =some x:=⟨_,List.getElem?_eq_getElem (by omega)⟩
  (have hy1:=QkC (show i<a.length by omega) hx1;have hnx:=QhV (w:=Qs) (k:=k) hy1;have hnt:=Qc4 (w:=Qs) k a (i+1);have hw2:Qs x1=4+4*x1.Clue.Play.length:=rfl)
  refine fO (B.indexAddrO (i:=i) (tv (T.os 5 0 0 (((YI Zy Qs k a i).map (Qa true)).length)) rfl) (tv (tN i) rfl) rfl (by (simp only [List.length_map];omega)) U41 YQ Qaa) (fO (OF.fieldAddrP (tv (T.orp 5 0 i 0) rfl) Qbs) (cO (B.storeN (t0:=(tI x1.Issue)) (rows':=(((YI Zy Qs k a i).set i (D.Correction.mk ((Za Qs k (a.take i):Nat):Int) x1.Slot x1.Clue x1.Tick)).map (Qa true))) (row:=(Qa true x1)) (tv (T.orp 5 0 i 0) rfl) (tv (tN (Za Qs k (a.take i))) rfl) rfl rfl (Qt _ hx1) rfl rfl Yk Zb (Zj rfl)) (nt (sr (mO (tN (Za Qs k (a.take i))) rfl (fO (Qz (tv (tN (Za Qs k (a.take i))) rfl) (VEv.int .i64 1) (by omega)) (aO (tN (Za Qs k (a.take i)+1)) rfl (nt (sr (mO (T.os 5 0 0 (((YI Zy Qs k a i).map (Qa true)).length)) rfl (mO (tN i) rfl ?_)))))))))))
  refine mO (tN (Za Qs k (a.take i)+1)) rfl (fO (B.indexAddrO (i:=i) (tv (T.os 5 0 0 (((YI Zy Qs k a i).map (Qa true)).length)) rfl) (tv (tN i) rfl) rfl (by (simp only [List.length_map];omega)) U41 YQ Qaa) (fO (OF.fieldAddrP (tv (T.orp 5 0 i 0) rfl) Qa2) (cO (B.storeN (t0:=(tI x1.Slot)) (rows':=((((YI Zy Qs k a i).set i (D.Correction.mk ((Za Qs k (a.take i):Nat):Int) x1.Slot x1.Clue x1.Tick)).set i (D.Correction.mk ((Za Qs k (a.take i):Nat):Int) (((Za Qs k (a.take i)+1):Nat):Int) x1.Clue x1.Tick)).map (Qa true))) (row:=(Qa true (D.Correction.mk ((Za Qs k (a.take i):Nat):Int) x1.Slot x1.Clue x1.Tick))) (tv (T.orp 5 0 i 1) rfl) (tv (tN (Za Qs k (a.take i)+1)) rfl) rfl rfl (Qt _ (Qbf (by omega))) rfl rfl Yk Zb (Zj rfl)) (nt (sr (mO (tN (Za Qs k (a.take i)+1)) rfl (fO (Qz (tv (tN (Za Qs k (a.take i)+1)) rfl) (VEv.int .i64 1) (by omega)) (aO (tN ((Za Qs k (a.take i)+1)+1)) rfl (nt (sr (mO (T.os 5 0 0 (((YI Zy Qs k a i).map (Qa true)).length)) rfl ?_)))))))))))
  refine mO (tN i) rfl (mO (tN ((Za Qs k (a.take i)+1)+1)) rfl (fO (B.indexAddrO (i:=i) (tv (T.os 5 0 0 (((YI Zy Qs k a i).map (Qa true)).length)) rfl) (tv (tN i) rfl) rfl (by (simp only [List.length_map];omega)) U41 YQ Qaa) (fO (OF.fieldAddrP (tv (T.orp 5 0 i 0) rfl) Qco) (fO (OF.fieldAddrP (tv (T.orp 5 0 i 2) rfl) Qcm) (cO (B.storeN (t0:=(tI x1.Clue.Sense)) (rows':=(((((YI Zy Qs k a i).set i (D.Correction.mk ((Za Qs k (a.take i):Nat):Int) x1.Slot x1.Clue x1.Tick)).set i (D.Correction.mk ((Za Qs k (a.take i):Nat):Int) (((Za Qs k (a.take i)+1):Nat):Int) x1.Clue x1.Tick)).set i (D.Correction.mk ((Za Qs k (a.take i):Nat):Int) (((Za Qs k (a.take i)+1):Nat):Int) (D.Clue.mk ((((Za Qs k (a.take i)+1)+1):Nat):Int) x1.Clue.Play) x1.Tick)).map (Qa true))) (row:=(Qa true (D.Correction.mk ((Za Qs k (a.take i):Nat):Int) (((Za Qs k (a.take i)+1):Nat):Int) x1.Clue x1.Tick))) (tv (T.orp 5 0 i 2) rfl) (tv (tN ((Za Qs k (a.take i)+1)+1)) rfl) rfl rfl (Qt _ (Qbf (by (simp only [List.length_set];omega)))) rfl rfl Yk Zb (Zj rfl)) (nt (sr (mO (tN ((Za Qs k (a.take i)+1)+1)) rfl (fO (Qz (tv (tN ((Za Qs k (a.take i)+1)+1)) rfl) (VEv.int .i64 1) (by omega)) (aO (tN (((Za Qs k (a.take i)+1)+1)+1)) rfl (nt ?_)))))))))))
  refine sr (mO (T.os 5 0 0 (((YI Zy Qs k a i).map (Qa true)).length)) rfl (mO (tN i) rfl (fO (B.indexAddrO (i:=i) (tv (T.os 5 0 0 (((YI Zy Qs k a i).map (Qa true)).length)) rfl) (tv (tN i) rfl) rfl (by (simp only [List.length_map];omega)) U41 YQ Qaa) (fO (OF.fieldAddrP (tv (T.orp 5 0 i 0) rfl) Qco) (fO (OF.fieldAddrP (tv (T.orp 5 0 i 2) rfl) Qcw) (VRunO.nest (row:=(Qa true (D.Correction.mk ((Za Qs k (a.take i):Nat):Int) (((Za Qs k (a.take i)+1):Nat):Int) (D.Clue.mk ((((Za Qs k (a.take i)+1)+1):Nat):Int) x1.Clue.Play) x1.Tick))) (rs:=(x1.Clue.Play.map (Qj true))) (rs':=((Js Zl 4 (((Za Qs k (a.take i)+1)+1)+1) x1.Clue.Play.length).map (Qj true))) (rows':=((((((YI Zy Qs k a i).set i (D.Correction.mk ((Za Qs k (a.take i):Nat):Int) x1.Slot x1.Clue x1.Tick)).set i (D.Correction.mk ((Za Qs k (a.take i):Nat):Int) (((Za Qs k (a.take i)+1):Nat):Int) x1.Clue x1.Tick)).set i (D.Correction.mk ((Za Qs k (a.take i):Nat):Int) (((Za Qs k (a.take i)+1):Nat):Int) (D.Clue.mk ((((Za Qs k (a.take i)+1)+1):Nat):Int) x1.Clue.Play) x1.Tick)).set i (D.Correction.mk ((Za Qs k (a.take i):Nat):Int) (((Za Qs k (a.take i)+1):Nat):Int) (D.Clue.mk ((((Za Qs k (a.take i)+1)+1):Nat):Int) (Js Zl 4 (((Za Qs k (a.take i)+1)+1)+1) x1.Clue.Play.length)) x1.Tick)).map (Qa true))) (n:=(((((Za Qs k (a.take i)+1)+1)+1):Nat):Int)) (r:=(((((Za Qs k (a.take i)+1)+1)+1)+4*x1.Clue.Play.length:Nat):Int)) rfl (tv (T.orp 5 0 i 3) rfl) rfl (Qt _ (Qbf (by (simp only [List.length_set];omega)))) rfl Qka (tv (tN (((Za Qs k (a.take i)+1)+1)+1)) rfl) rfl (QaK (n+0) x1.Clue.Play (((Za Qs k (a.take i)+1)+1)+1) (by omega)) (okeStep.cleanMap _) (Zj rfl) (aO (tN ((((Za Qs k (a.take i)+1)+1)+1)+4*x1.Clue.Play.length)) rfl (nt (sr (mO (T.os 5 0 0 (((YI Zy Qs k a i).map (Qa true)).length)) rfl (mO (tN i) rfl ?_)))))))))))
  refine mO (tN ((((Za Qs k (a.take i)+1)+1)+1)+4*x1.Clue.Play.length)) rfl (fO (B.indexAddrO (i:=i) (tv (T.os 5 0 0 (((YI Zy Qs k a i).map (Qa true)).length)) rfl) (tv (tN i) rfl) rfl (by (simp only [List.length_map];omega)) U41 YQ Qaa) (fO (OF.fieldAddrP (tv (T.orp 5 0 i 0) rfl) Ju) (cO (B.storeN (t0:=(tI x1.Tick)) (rows':=(((((((YI Zy Qs k a i).set i (D.Correction.mk ((Za Qs k (a.take i):Nat):Int) x1.Slot x1.Clue x1.Tick)).set i (D.Correction.mk ((Za Qs k (a.take i):Nat):Int) (((Za Qs k (a.take i)+1):Nat):Int) x1.Clue x1.Tick)).set i (D.Correction.mk ((Za Qs k (a.take i):Nat):Int) (((Za Qs k (a.take i)+1):Nat):Int) (D.Clue.mk ((((Za Qs k (a.take i)+1)+1):Nat):Int) x1.Clue.Play) x1.Tick)).set i (D.Correction.mk ((Za Qs k (a.take i):Nat):Int) (((Za Qs k (a.take i)+1):Nat):Int) (D.Clue.mk ((((Za Qs k (a.take i)+1)+1):Nat):Int) (Js Zl 4 (((Za Qs k (a.take i)+1)+1)+1) x1.Clue.Play.length)) x1.Tick)).set i (D.Correction.mk ((Za Qs k (a.take i):Nat):Int) (((Za Qs k (a.take i)+1):Nat):Int) (D.Clue.mk ((((Za Qs k (a.take i)+1)+1):Nat):Int) (Js Zl 4 (((Za Qs k (a.take i)+1)+1)+1) x1.Clue.Play.length)) (((((Za Qs k (a.take i)+1)+1)+1)+4*x1.Clue.Play.length:Nat):Int))).map (Qa true))) (row:=(Qa true (D.Correction.mk ((Za Qs k (a.take i):Nat):Int) (((Za Qs k (a.take i)+1):Nat):Int) (D.Clue.mk ((((Za Qs k (a.take i)+1)+1):Nat):Int) (Js Zl 4 (((Za Qs k (a.take i)+1)+1)+1) x1.Clue.Play.length)) x1.Tick))) (tv (T.orp 5 0 i 4) rfl) (tv (tN ((((Za Qs k (a.take i)+1)+1)+1)+4*x1.Clue.Play.length)) rfl) rfl rfl (Qt _ (Qbf (by (simp only [List.length_set];omega)))) rfl rfl Yk Zb (Zj rfl)) (nt (VRun.region (mO (tN ((((Za Qs k (a.take i)+1)+1)+1)+4*x1.Clue.Play.length)) rfl (fO (Qz (tv (tN ((((Za Qs k (a.take i)+1)+1)+1)+4*x1.Clue.Play.length)) rfl) (VEv.int .i64 1) (by omega)) (aO (tN ((((Za Qs k (a.take i)+1)+1)+1)+4*x1.Clue.Play.length+1)) rfl (VRunO.nil (vinB.n (tn ?_)))))))))))
  refine VRun.region (mO (tN i) rfl (fO (Qz (tv (tN i) rfl) (VEv.int .i64 1) (by omega)) (aO (tN (i+1)) rfl (VRunO.nil (tn ?_)))))
  have he2:((((((YI Zy Qs k a i).set i (D.Correction.mk ((Za Qs k (a.take i):Nat):Int) x1.Slot x1.Clue x1.Tick)).set i (D.Correction.mk ((Za Qs k (a.take i):Nat):Int) (((Za Qs k (a.take i)+1):Nat):Int) x1.Clue x1.Tick)).set i (D.Correction.mk ((Za Qs k (a.take i):Nat):Int) (((Za Qs k (a.take i)+1):Nat):Int) (D.Clue.mk ((((Za Qs k (a.take i)+1)+1):Nat):Int) x1.Clue.Play) x1.Tick)).set i (D.Correction.mk ((Za Qs k (a.take i):Nat):Int) (((Za Qs k (a.take i)+1):Nat):Int) (D.Clue.mk ((((Za Qs k (a.take i)+1)+1):Nat):Int) (Js Zl 4 (((Za Qs k (a.take i)+1)+1)+1) x1.Clue.Play.length)) x1.Tick)).set i (D.Correction.mk ((Za Qs k (a.take i):Nat):Int) (((Za Qs k (a.take i)+1):Nat):Int) (D.Clue.mk ((((Za Qs k (a.take i)+1)+1):Nat):Int) (Js Zl 4 (((Za Qs k (a.take i)+1)+1)+1) x1.Clue.Play.length)) (((((Za Qs k (a.take i)+1)+1)+1)+4*x1.Clue.Play.length:Nat):Int)))=YI Zy Qs k a (i+1):=by (simp only [List.set_set];exact Qjy hy1 rfl)
  refine ⟨(i+1:Nat),?_,?_,Wk.mk (fun k=>k) ?_ ?_ ?_⟩
  ·omega
  ·omega
  ·exact (bc ⟨(congrArg (fun n_=>T.os 5 0 0 n_) (show ((YI Zy Qs k a i).map (Qa true)).length=((YI Zy Qs k a (i+1)).map (Qa true)).length from (by simp only [List.length_map,QaT,List.length_set]))),rfl⟩ (bc ⟨(congrArg (T.int .i64) (show ((((((Za Qs k (a.take i)+1)+1)+1)+4*x1.Clue.Play.length+1):Nat):Int)=((Za Qs k (a.take (i+1)):Nat):Int) from (by omega))),rfl⟩ (b2 (b2 bn))))
  ·exact (bc ⟨(congrArg (fun l_=>some (Obj.rowsN 5 (List.map (Qa true) l_) (asg 0))) he2),(lb rfl),rfl⟩ bn)
  ·exact nd rfl
 refine VRun.exit (vthn.e (vthn.e (vinB.e (tn (sr (mO (tN (Za Qs k (a.take i))) rfl (aO (tN (Za Qs k (a.take i))) rfl (nt (rt ?_)))))))))
 have hnew0:YI Zy Qs k a i=Qda k a:=by
  exact Qh4 (by omega)
 exact vloanM.r (L1:= [(5,((YI Zy Qs k a i).map (Qa true)))]) (fun k=>k) (VRes.tmp (t:=(tN (Za Qs k (a.take i)))) rfl VRes.nil) (congrArg (T.int .i64) (show ((Za Qs k (a.take i):Nat):Int)=((Ys k a:Nat):Int) by rw [List.take_of_length_le (by omega)];rfl)) (bc (congrArg (fun n_=>T.os 5 0 0 n_) (show ((YI Zy Qs k a i).map (Qa true)).length=(a.map (Qa true)).length from (by rw [List.length_map,List.length_map,QaT]))) bn) (And.intro rfl (trivial)) (by rw [hnew0])
end Go.Proofs.YtcccmceoplcciaaGreat.AE
namespace Go.Proofs.YtcccmceoplcciaaGreat.AE
open Go Go.RowKit
set_option linter.unusedVariables false
set_option linter.unusedSimpArgs false
set_option maxRecDepth 20000
set_option maxHeartbeats 2000000
noncomputable section
def Yb : List Int→Int→List Int
 | [],n=> [n]
 | x::r,n=>if x<n then x::Yb r n else if x=n then x::r else n::x::r
theorem l9put_mem {l:List Int} {n y:Int}:y∈Yb l n↔y∈l∨y=n:=by
 induction l with
 | nil=>simp [Yb]
 | cons x r ih =>
  simp only [Yb]
  split
  ·simp only [List.mem_cons,ih,or_assoc]
  ·split
   ·rename_i h1 h2
    subst h2
    simp only [List.mem_cons]
    exact ⟨.inl,fun h=>h.elim id .inl⟩
   ·simp only [List.mem_cons]
    exact or_comm
theorem Qgq {l:List Int} {n:Int}:(Yb l n).length≤l.length+1:=by
 induction l with
 | nil=>simp [Yb]
 | cons x r ih =>
  simp only [Yb]
  split
  ·simp only [List.length_cons];omega
  ·split<;>simp
theorem Qkg {l:List Int} {n:Int} (h:l.Pairwise (· < ·)):(Yb l n).Pairwise (· < ·):=by
 induction l with
 | nil=>simp [Yb]
 | cons x r ih =>
  have h1:=List.pairwise_cons.1 h
  simp only [Yb]
  split
  ·rename_i hx
   refine List.pairwise_cons.2 ⟨fun y hy=> ?_,ih h1.2⟩
   rcases l9put_mem.1 hy with h2 | h2
   ·exact h1.1 y h2
   ·exact h2▸hx
  ·split
   ·exact h
   ·refine List.pairwise_cons.2 ⟨fun y hy=> ?_,h⟩
    rcases List.mem_cons.1 hy with h2 | h2
    ·omega
    ·have:=h1.1 y h2
     omega
theorem Qmt {n:Int}:∀ {l:List Int} {k:Nat},(∀j y,j<k→l[j]? =some y→y<n)→l[k]? =some n→l=Yb l n
 | [],_,_,h=>by simp at h
 | x::r,0,_,h=>by
  obtain rfl:x=n:=by simpa using h
  simp [Yb]
 | x::r,k+1,h1,h=>by
  have h2:=h1 0 x (by omega) (by simp)
  simp only [Yb,if_pos h2]
  rw [← Qmt (k:=k) (fun j y hj hy=>h1 (j+1) y (by omega) (by simpa using hy)) (by simpa using h)]
theorem Qi2 {n:Int}:∀ {l:List Int} {k:Nat},(∀j y,j<k→l[j]? =some y→y<n)→k≤l.length→(∀y,l[k]? =some y→n<y)→(l.take k++ [n])++l.drop k=Yb l n
 | [],k,_,h,_=>by
  obtain rfl:k=0:=by simpa using h
  rfl
 | x::r,0,_,_,h=>by
  have h2:=h x (by simp)
  simp only [Yb]
  rw [if_neg (by omega),if_neg (by omega)]
  rfl
 | x::r,k+1,h1,h,h3=>by
  have h2:=h1 0 x (by omega) (by simp)
  simp only [Yb,if_pos h2]
  rw [← Qi2 (k:=k) (fun j y hj hy=>h1 (j+1) y (by omega) (by simpa using hy)) (by simpa using h) (fun y hy=>h3 y (by simpa using hy))]
  rfl
theorem Qhw {α:Type} {l:List α} {i:Nat} {x y:α} (hx:l[i]? =some x) (hy:l[i]? =some y):y=x:=by
 rw [hx] at hy
 exact (Option.some.inj hy).symm
end
theorem Qhk (n:Nat) (l:List Int) (v:Int) (hl:l.length≤mx):Pure (Qr Tryz.prog (n+1)) 48 [(rd 1 Qb l),(tI v)] (T.sl true 1 ((Yb l v).map (Qb true))):=by
 refine Pure.intro (rs:= [ResultVar.tmp 4]) Tryz.func48 rfl rfl rfl (E0:= [(0,(rd 1 Qb l)),(1,(tI v))]) rfl ?_
 obtain ⟨hlim,hmx,hmax⟩:=QG
 refine sr (fO (OF.assign VEv.nils) (nt (sr (fO (OF.assign (VEv.int .i64 0)) (nt (sq (VRun.block ?_)))))))
 refine VRun.loop (A:=Nat) (fun s_=> [(0,(rd 1 Qb l)),(1,(tI v)),(4,T.nils),(5,(tN s_))]) (fun s_=>QX []) 0 (fun s_=>s_≤l.length∧∀j y,j<s_→l[j]? =some y→y<v) (fun s_=>l.length - s_) (0:Nat) ?_ (Wk.mk (fun k=>k) ?_ ?_ ?_) ?_
 ·exact ⟨Nat.zero_le _,fun j y hj=>by omega⟩
 ·exact (b2 (b2 (b2 (b2 bn))))
 ·exact bn
 ·exact nd rfl
 rintro k (hI':k≤l.length∧∀j y,j<k→l[j]? =some y→y<v)
 show VRun _ _ _ [(0,(rd 1 Qb l)),(1,(tI v)),(4,T.nils),(5,(tN k))] (QX []) 0 _
 have hI1:=hI'.1
 refine sq (sr (mO (tN k) rfl (mO (rd 1 Qb l) rfl (lO (B.lenR (m:=l.length) (tv (rd 1 Qb l) rfl) Zt (List.length_map ..)) (fO (Zd (tv (tN k) rfl) (tv (tN l.length) rfl)) (mO (tB (decide (k<l.length))) rfl ?_))))))
 refine gw (k<l.length) (fun fhg10_1=> ?_) fun fhg10_1=> ?_
 ·refine gF (dy fhg10_1) rfl rfl (OF.move (tv (rd 1 Qb l) rfl)) ?_
  refine gF (dy fhg10_1) rfl rfl (OF.move (tv (tN k) rfl)) ?_
  obtain ⟨x1,hx1⟩:∃x,l[k]? =some x:=⟨_,List.getElem?_eq_getElem (by omega)⟩
  refine gF (dy fhg10_1) rfl rfl (OF.indexAddrR (row:=(Qb false x1)) (i:=k) (tv (rd 1 Qb l) rfl) (tv (tN k) rfl) rfl (Qt _ hx1) Zt Zb Yk) (gL (dy fhg10_1) rfl rfl (OL.loadR1 (t:=(tI x1)) (tv (T.rp [(tI x1)]) rfl) rfl QT) (gF (dy fhg10_1) rfl rfl (OF.move (tv (tI v) rfl)) (gF (dy fhg10_1) rfl rfl (xls (tv (tI x1) rfl) (tv (tI v) rfl)) (fO (OF.pickT (VEv.tmpB rfl (dy fhg10_1)) (tv (tB (decide (x1<v))) rfl)) (nt ?_)))))
  refine cd (x1<v) rfl (fun fhc0=> ?_) fun fhc0=> ?_
  ·refine sk ?_
   refine tn (VRun.block (VRun.region (mO (tN k) rfl (fO (Qz (tv (tN k) rfl) (VEv.int .i64 1) (by omega)) (aO (tN (k+1)) rfl (VRunO.nil (vinB.n (tn ?_))))))))
   refine ⟨(k+1:Nat),?_,?_,Wk.mk (fun k=>k) ?_ ?_ ?_⟩
   ·refine ⟨by omega,fun j y hj hy=> ?_⟩
    rcases Nat.lt_or_ge j k with h1 | h1
    ·exact hI'.2 j y h1 hy
    ·obtain rfl:j=k:=(by omega);obtain rfl:=Qhw hx1 hy;assumption
   ·omega
   ·exact (b2 (b2 (b2 (b2 bn))))
   ·exact bn
   ·exact nd rfl
  refine VRun.exit (vthn.e (vthn.e (vinB.e (tn (sq (sr (mO (tN k) rfl (mO (rd 1 Qb l) rfl (lO (B.lenR (m:=l.length) (tv (rd 1 Qb l) rfl) Zt (List.length_map ..)) (fO (Zd (tv (tN k) rfl) (tv (tN l.length) rfl)) (mO (tB (decide (k<l.length))) rfl ?_)))))))))))
  refine gF (dy fhg10_1) rfl rfl (OF.move (tv (rd 1 Qb l) rfl)) (gF (dy fhg10_1) rfl rfl (OF.move (tv (tN k) rfl)) (gF (dy fhg10_1) rfl rfl (OF.indexAddrR (row:=(Qb false x1)) (i:=k) (tv (rd 1 Qb l) rfl) (tv (tN k) rfl) rfl (Qt _ hx1) Zt Zb Yk) (gL (dy fhg10_1) rfl rfl (OL.loadR1 (t:=(tI x1)) (tv (T.rp [(tI x1)]) rfl) rfl QT) (gF (dy fhg10_1) rfl rfl (OF.move (tv (tI v) rfl)) (gF (dy fhg10_1) rfl rfl (Y3 (tv (tI x1) rfl) (tv (tI v) rfl)) (fO (OF.pickT (VEv.tmpB rfl (dy fhg10_1)) (tv (tB (decide (x1=v))) rfl)) (nt ?_)))))))
  refine cd (x1=v) rfl (fun fhc1=> ?_) fun fhc1=> ?_
  ·refine sr ?_
   refine kO (OM.slice0 Zt J7 (by kernel_rfl) rfl (by rw [Zb];decide) Zb) (mO (rd 1 Qb l) rfl (cO (B.append (rows:= []) (rows2:=(l.map (Qb false))) (rows3:=(l.map (Qb true))) (VDst.own (tv (T.os 1 0 0 0) rfl) rfl rfl) (VSrc.read (tv (rd 1 Qb l) rfl) Zt (okInt.okMap _ _)) nofun Zt Zb (by decide) J7 rfl (of_decide_eq_true (by kernel_rfl)) (by (simp only [List.length_map,List.length_append,List.length_cons,List.length_nil,List.length_replicate,List.length_set,List.length_drop,List.length_take,YN] at *;omega)) (List.nil_append _)) (aO (T.os 1 1 0 ((l.map (Qb true)).length)) rfl (nt (rt (tr ?_))))))
   refine vfin.eq (r':=(T.sl true 1 (l.map (Qb true)))) ?_ (vfin.r (VRes.tmp (t:=(T.os 1 1 0 ((l.map (Qb true)).length))) rfl VRes.nil) (Give.os rfl rfl (okInt.cleanMap _)))
   show (T.sl true 1 (l.map (Qb true)))=(T.sl true 1 ((Yb l v).map (Qb true)))
   refine congrArg (fun l_=>T.sl true 1 (List.map (Qb true) l_)) ?_
   (refine Qmt hI'.2 ?_;simp_all;done)
  refine sk (tn (sq (VRun.draw (B:= [[],[],[],[2,1],[1,2,3,0],[],[5],[5,6,0,3,2,1,4],[],[],[9,8],[8,9,10,4,1,2,3,0,6,5,7],[7,5,6,0,3,2,1,4,10,9,8,11]]) (by kernel_rfl) (by kernel_rfl) (VRunD.make rfl VWant.always rfl (OM.slice0 Zt J7 (by kernel_rfl) rfl (by rw [Zb];decide) Zb) (mD (rd 1 Qb l) rfl rfl (mD (tN k) rfl rfl (lD (show OL _ _ _ _ _ (T.sl false 1 ((l.take k).map (Qb false))) by rw [List.map_take];exact (OL.sliceRHi (j:=k) (tv (rd 1 Qb l) rfl) (tv (tN k) rfl) rfl (by (simp only [List.length_map];omega)) Zt Zb Yk)) rfl rfl (VRunD.quiet (bi:= [1,2,3,0]) rfl VWant.always rfl rfl rfl (bc (lb rfl) bn) (B.append (rows:= []) (rows2:=((l.take k).map (Qb false))) (rows3:=((l.take k).map (Qb true))) (VDst.own (tv (T.os 1 0 0 0) rfl) rfl rfl) (VSrc.read (tv (rd 1 Qb (l.take k)) rfl) Zt (okInt.okMap _ _)) nofun Zt Zb (by decide) J7 rfl (of_decide_eq_true (by kernel_rfl)) (by (simp only [List.length_map,List.length_append,List.length_cons,List.length_nil,List.length_replicate,List.length_set,List.length_drop,List.length_take,YN] at *;omega)) (List.nil_append _)) (mD (tI v) rfl rfl (VRunD.make rfl VWant.always rfl (OM.buildSlice (l:= [(tI v)]) (VEvp.cons (tv (tI v) rfl) VEvp.nil) rfl (by decide) (bc (nofun) bn) (bc ((bc (rfl) bn)) bn) (bc (rfl) bn) Zt J7 (by kernel_rfl) rfl (by rw [Zb];decide) Zb (Nat.le_of_ble_eq_true rfl)) (VRunD.quiet (bi:= [5,6,0,3,2,1,4]) rfl VWant.always rfl rfl rfl (bc (lb rfl) (bc (lb rfl) bn)) (B.append (rows:=((l.take k).map (Qb true))) (rows2:= [[(tI v)]]) (rows3:=(((l.take k)++ [v]).map (Qb true))) (VDst.own (tv (T.os 1 1 0 (((l.take k).map (Qb true)).length)) rfl) rfl rfl) (VSrc.own (tv (T.os 1 2 0 1) rfl) rfl rfl Zt (bc (bc rfl bn) bn)) (by decide) Zt Zb (by decide) J7 rfl (of_decide_eq_true (by kernel_rfl)) (by (simp only [List.length_map,List.length_append,List.length_cons,List.length_nil,List.length_replicate,List.length_set,List.length_drop,List.length_take,YN] at *;omega)) ((List.map_append (f:=Qb true) (l₁:=(l.take k)) (l₂:= [v])).symm)) ?_)))))))))))
  refine mD (rd 1 Qb l) rfl rfl (mD (tN k) rfl rfl (lD (show OL _ _ _ _ _ (T.sl false 1 ((l.drop k).map (Qb false))) by rw [List.map_drop];exact (OL.sliceRLo (i:=k) (tv (rd 1 Qb l) rfl) (tv (tN k) rfl) rfl (by (simp only [List.length_map];omega)) Zt Zb Yk)) rfl rfl (VRunD.quiet (bi:= [8,9,10,4,1,2,3,0,6,5,7]) rfl VWant.always rfl rfl rfl (bc (lb rfl) bn) (B.append (rows:=(((l.take k)++ [v]).map (Qb true))) (rows2:=((l.drop k).map (Qb false))) (rows3:=((((l.take k)++ [v])++(l.drop k)).map (Qb true))) (VDst.own (tv (T.os 1 3 0 ((((l.take k)++ [v]).map (Qb true)).length)) rfl) rfl rfl) (VSrc.read (tv (rd 1 Qb (l.drop k)) rfl) Zt (okInt.okMap _ _)) nofun Zt Zb (by decide) J7 rfl (of_decide_eq_true (by kernel_rfl)) (by (simp only [List.length_map,List.length_append,List.length_cons,List.length_nil,List.length_replicate,List.length_set,List.length_drop,List.length_take,YN] at *;omega)) ((List.map_append (f:=Qb true) (l₁:=((l.take k)++ [v])) (l₂:=(l.drop k))).symm)) (fD (OF.assign (tv (T.os 1 4 0 (((((l.take k)++ [v])++(l.drop k)).map (Qb true)).length)) rfl)) rfl rfl (VRunD.nil (tn (rt ?_)))))))
  refine vfin.eq (r':=(T.sl true 1 ((((l.take k)++ [v])++(l.drop k)).map (Qb true)))) ?_ (vfin.r (VRes.tmp (t:=(T.os 1 4 0 (((((l.take k)++ [v])++(l.drop k)).map (Qb true)).length))) rfl VRes.nil) (Give.os rfl rfl (okInt.cleanMap _)))
  show (T.sl true 1 ((((l.take k)++ [v])++(l.drop k)).map (Qb true)))=(T.sl true 1 ((Yb l v).map (Qb true)))
  refine congrArg (fun l_=>T.sl true 1 (List.map (Qb true) l_)) ?_
  (refine Qi2 hI'.2 hI1 ?_;intro y hy;obtain rfl:=Qhw hx1 hy;omega)
 refine QC 6 4 true 10 (dz fhg10_1) rfl rfl rfl (fO (OF.pickF (VEv.tmpB rfl (dz fhg10_1)) (VEv.bool false)) (nt (cf rfl (VRun.exit (vthn.e (vthn.e (vinB.e (tn (sq (sr (mO (tN k) rfl ?_)))))))))))
 refine mO (rd 1 Qb l) rfl (lO (B.lenR (m:=l.length) (tv (rd 1 Qb l) rfl) Zt (List.length_map ..)) (fO (Zd (tv (tN k) rfl) (tv (tN l.length) rfl)) (mO (tB (decide (k<l.length))) rfl (QC 6 4 true 24 (dz fhg10_1) rfl rfl rfl (fO (OF.pickF (VEv.tmpB rfl (dz fhg10_1)) (VEv.bool false)) (nt (cf rfl (sk (tn (sq (VRun.draw (B:= [[],[],[],[2,1],[1,2,3,0],[],[5],[5,6,0,3,2,1,4],[],[],[9,8],[8,9,10,4,1,2,3,0,6,5,7],[7,5,6,0,3,2,1,4,10,9,8,11]]) (by kernel_rfl) (by kernel_rfl) ?_)))))))))))
 refine VRunD.make rfl VWant.always rfl (OM.slice0 Zt J7 (by kernel_rfl) rfl (by rw [Zb];decide) Zb) (mD (rd 1 Qb l) rfl rfl (mD (tN k) rfl rfl (lD (show OL _ _ _ _ _ (T.sl false 1 ((l.take k).map (Qb false))) by rw [List.map_take];exact (OL.sliceRHi (j:=k) (tv (rd 1 Qb l) rfl) (tv (tN k) rfl) rfl (by (simp only [List.length_map];omega)) Zt Zb Yk)) rfl rfl (VRunD.quiet (bi:= [1,2,3,0]) rfl VWant.always rfl rfl rfl (bc (lb rfl) bn) (B.append (rows:= []) (rows2:=((l.take k).map (Qb false))) (rows3:=((l.take k).map (Qb true))) (VDst.own (tv (T.os 1 0 0 0) rfl) rfl rfl) (VSrc.read (tv (rd 1 Qb (l.take k)) rfl) Zt (okInt.okMap _ _)) nofun Zt Zb (by decide) J7 rfl (of_decide_eq_true (by kernel_rfl)) (by (simp only [List.length_map,List.length_append,List.length_cons,List.length_nil,List.length_replicate,List.length_set,List.length_drop,List.length_take,YN] at *;omega)) (List.nil_append _)) (mD (tI v) rfl rfl (VRunD.make rfl VWant.always rfl (OM.buildSlice (l:= [(tI v)]) (VEvp.cons (tv (tI v) rfl) VEvp.nil) rfl (by decide) (bc (nofun) bn) (bc ((bc (rfl) bn)) bn) (bc (rfl) bn) Zt J7 (by kernel_rfl) rfl (by rw [Zb];decide) Zb (Nat.le_of_ble_eq_true rfl)) (VRunD.quiet (bi:= [5,6,0,3,2,1,4]) rfl VWant.always rfl rfl rfl (bc (lb rfl) (bc (lb rfl) bn)) (B.append (rows:=((l.take k).map (Qb true))) (rows2:= [[(tI v)]]) (rows3:=(((l.take k)++ [v]).map (Qb true))) (VDst.own (tv (T.os 1 1 0 (((l.take k).map (Qb true)).length)) rfl) rfl rfl) (VSrc.own (tv (T.os 1 2 0 1) rfl) rfl rfl Zt (bc (bc rfl bn) bn)) (by decide) Zt Zb (by decide) J7 rfl (of_decide_eq_true (by kernel_rfl)) (by (simp only [List.length_map,List.length_append,List.length_cons,List.length_nil,List.length_replicate,List.length_set,List.length_drop,List.length_take,YN] at *;omega)) ((List.map_append (f:=Qb true) (l₁:=(l.take k)) (l₂:= [v])).symm)) (mD (rd 1 Qb l) rfl rfl (mD (tN k) rfl rfl (lD (show OL _ _ _ _ _ (T.sl false 1 ((l.drop k).map (Qb false))) by rw [List.map_drop];exact (OL.sliceRLo (i:=k) (tv (rd 1 Qb l) rfl) (tv (tN k) rfl) rfl (by (simp only [List.length_map];omega)) Zt Zb Yk)) rfl rfl (VRunD.quiet (bi:= [8,9,10,4,1,2,3,0,6,5,7]) rfl VWant.always rfl rfl rfl (bc (lb rfl) bn) (B.append (rows:=(((l.take k)++ [v]).map (Qb true))) (rows2:=((l.drop k).map (Qb false))) (rows3:=((((l.take k)++ [v])++(l.drop k)).map (Qb true))) (VDst.own (tv (T.os 1 3 0 ((((l.take k)++ [v]).map (Qb true)).length)) rfl) rfl rfl) (VSrc.read (tv (rd 1 Qb (l.drop k)) rfl) Zt (okInt.okMap _ _)) nofun Zt Zb (by decide) J7 rfl (of_decide_eq_true (by kernel_rfl)) (by (simp only [List.length_map,List.length_append,List.length_cons,List.length_nil,List.length_replicate,List.length_set,List.length_drop,List.length_take,YN] at *;omega)) ((List.map_append (f:=Qb true) (l₁:=((l.take k)++ [v])) (l₂:=(l.drop k))).symm)) ?_)))))))))))
 refine fD (OF.assign (tv (T.os 1 4 0 (((((l.take k)++ [v])++(l.drop k)).map (Qb true)).length)) rfl)) rfl rfl (VRunD.nil (tn (rt ?_)))
 refine vfin.eq (r':=(T.sl true 1 ((((l.take k)++ [v])++(l.drop k)).map (Qb true)))) ?_ (vfin.r (VRes.tmp (t:=(T.os 1 4 0 (((((l.take k)++ [v])++(l.drop k)).map (Qb true)).length))) rfl VRes.nil) (Give.os rfl rfl (okInt.cleanMap _)))
 show (T.sl true 1 ((((l.take k)++ [v])++(l.drop k)).map (Qb true)))=(T.sl true 1 ((Yb l v).map (Qb true)))
 refine congrArg (fun l_=>T.sl true 1 (List.map (Qb true) l_)) ?_
 (refine Qi2 hI'.2 hI1 ?_;intro y hy;have:=(List.getElem?_eq_some_iff.1 hy).1;omega)
end Go.Proofs.YtcccmceoplcciaaGreat.AE
namespace Go.Proofs.YtcccmceoplcciaaGreat.AE
open Go Go.RowKit
set_option linter.unusedVariables false
set_option linter.unusedSimpArgs false
set_option maxRecDepth 20000
set_option maxHeartbeats 2000000
noncomputable section
def Qjn (l:List Int):Prop:=l.Pairwise (· < ·)
theorem Qif : ∀ {a b:List Int},Qjn a→Qjn b→(∀x,x∈a↔x∈b)→a=b
 | [],[],_,_,_=>rfl
 | [],y::s,_,_,h=>by have:=(h y).2 (by simp);simp at this
 | x::r,[],_,_,h=>by have:=(h x).1 (by simp);simp at this
 | x::r,y::s,h1,h2,h=>by
  have a1:=List.pairwise_cons.1 h1
  have b1:=List.pairwise_cons.1 h2
  have hxy:x=y:=by
   have e1:=(h x).1 (by simp)
   have e2:=(h y).2 (by simp)
   rcases List.mem_cons.1 e1 with e1 | e1
   ·exact e1
   ·rcases List.mem_cons.1 e2 with e2 | e2
    ·exact e2.symm
    ·have:=a1.1 y e2
     have:=b1.1 x e1
     omega
  subst hxy
  rw [Qif a1.2 b1.2 (fun z=> ?_)]
  have hz:=h z
  simp only [List.mem_cons] at hz
  refine ⟨fun e=> ?_,fun e=> ?_⟩
  ·have:=a1.1 z e
   rcases hz.1 (.inr e) with e1 | e1
   ·omega
   ·exact e1
  ·have:=b1.1 z e
   rcases hz.2 (.inr e) with e1 | e1
   ·omega
   ·exact e1
end
end Go.Proofs.YtcccmceoplcciaaGreat.AE
namespace Go.Proofs.YtcccmceoplcciaaGreat.AE
open Go Go.RowKit
set_option linter.unusedVariables false
set_option linter.unusedSimpArgs false
set_option maxRecDepth 20000
set_option maxHeartbeats 2000000
noncomputable section
def QlL (a:D.Issue) (tk:Int) (c:D.Correction) (u:Int):Prop:=c.Issue=a.Number∧c.Slot=u∧c.Tick≤tk
instance (a:D.Issue) (tk:Int) (c:D.Correction) (u:Int):Decidable (QlL a tk c u):=Classical.propDecidable _
def cAt (a:D.Issue) (l:List D.Correction) (tk u:Int):Nat→Int
 | 0=> -1
 | i+1=>match l[i]? with | some c=>if QlL a tk c u then ((i:Nat):Int) else cAt a l tk u i | none=>cAt a l tk u i
theorem QcH {a:D.Issue} {l:List D.Correction} {tk u:Int} {i:Nat} {c:D.Correction} (h:l[i]? =some c):cAt a l tk u (i+1)=if QlL a tk c u then ((i:Nat):Int) else cAt a l tk u i:=by rw [cAt,h]
theorem Qm2 (a:D.Issue) (l:List D.Correction) (tk u:Int):∀i,-1≤cAt a l tk u i∧cAt a l tk u i<((i:Nat):Int)
 | 0=>⟨by simp [cAt],by simp [cAt]⟩
 | i+1=>by
  have ih:=Qm2 a l tk u i
  unfold cAt
  split
  ·split<;>omega
  ·omega
theorem cAt_pos {a:D.Issue} {l:List D.Correction} {tk u:Int}:∀ {i:Nat},0≤cAt a l tk u i↔∃j,j<i∧∃c,l[j]? =some c∧QlL a tk c u
 | 0=>by simp [cAt]
 | i+1=>by
  have ih:=cAt_pos (a:=a) (l:=l) (tk:=tk) (u:=u) (i:=i)
  constructor
  ·intro h
   unfold cAt at h
   split at h
   ·rename_i c hc
    split at h
    ·exact ⟨i,by omega,c,hc,by assumption⟩
    ·obtain ⟨j,hj,e⟩:=ih.1 h
     exact ⟨j,by omega,e⟩
   ·obtain ⟨j,hj,e⟩:=ih.1 h
    exact ⟨j,by omega,e⟩
  ·rintro ⟨j,hj,c,hc,hh⟩
   unfold cAt
   rcases Nat.lt_or_ge j i with h1 | h1
   ·have h2:=ih.2 ⟨j,h1,c,hc,hh⟩
    split
    ·split<;>omega
    ·exact h2
   ·obtain rfl:j=i:=by omega
    rw [hc]
    simp only
    rw [if_pos hh]
    omega
def Q0 (a:D.Issue) (l:List D.Correction) (tk:Int) (u:Nat):List Int:=(List.range u).map (fun k=>cAt a l tk ((k:Nat):Int) l.length)
theorem QgA (a:D.Issue) (l:List D.Correction) (tk:Int) (u:Nat):Q0 a l tk u++ [cAt a l tk ((u:Nat):Int) l.length]=Q0 a l tk (u+1):=by simp [Q0,List.range_succ]
theorem Qbr (a:D.Issue) (l:List D.Correction) (tk:Int) (u:Nat):(Q0 a l tk u).length=u:=by simp [Q0]
def QbD (a:D.Issue) (l:List D.Correction):Prop:=ZT a∧Q9 l
instance (a:D.Issue) (l:List D.Correction):Decidable (QbD a l):=Classical.propDecidable _
def QN (a:D.Issue) (l:List D.Correction) (tk:Int):List Int:=if QbD a l then Q0 a l tk a.Puzzle.Clues.length else []
theorem Qfl (a:D.Issue) (l:List D.Correction) (tk:Int):(QN a l tk).length≤a.Puzzle.Clues.length:=by
 unfold QN
 split
 ·rw [Qbr];exact Nat.le_refl _
 ·exact Nat.zero_le _
def Yp (v:List Int):Nat→List Int
 | 0=> []
 | i+1=>match v[i]? with | some c=>if 0≤c then Yp v i++ [((i:Nat):Int)] else Yp v i | none=>Yp v i
theorem Qf8 {v:List Int} {i:Nat} {c:Int} (h:v[i]? =some c):Yp v (i+1)=if 0≤c then Yp v i++ [((i:Nat):Int)] else Yp v i:=by rw [Yp,h]
theorem posN_mem {v:List Int} {y:Int}:∀ {i:Nat},y∈Yp v i↔∃j:Nat,j<i∧∃c,v[j]? =some c∧0≤c∧y=((j:Nat):Int)
 | 0=>by simp [Yp]
 | i+1=>by
  have ih:=posN_mem (v:=v) (y:=y) (i:=i)
  constructor
  ·intro h
   unfold Yp at h
   split at h
   ·rename_i c hc
    split at h
    ·rcases List.mem_append.1 h with h | h
     ·obtain ⟨j,hj,e⟩:=ih.1 h
      exact ⟨j,by omega,e⟩
     ·exact ⟨i,by omega,c,hc,by assumption,List.mem_singleton.1 h⟩
    ·obtain ⟨j,hj,e⟩:=ih.1 h
     exact ⟨j,by omega,e⟩
   ·obtain ⟨j,hj,e⟩:=ih.1 h
    exact ⟨j,by omega,e⟩
  ·rintro ⟨j,hj,c,hc,h0,rfl⟩
   unfold Yp
   rcases Nat.lt_or_ge j i with h1 | h1
   ·have h2:=ih.2 ⟨j,h1,c,hc,h0,rfl⟩
    split
    ·split
     ·exact List.mem_append.2 (.inl h2)
     ·exact h2
    ·exact h2
   ·obtain rfl:j=i:=by omega
    rw [hc]
    simp only
    rw [if_pos h0]
    exact List.mem_append.2 (.inr (List.mem_singleton.2 rfl))
theorem QhR (v:List Int):∀i,Qjn (Yp v i)
 | 0=>List.Pairwise.nil
 | i+1=>by
  have ih:=QhR v i
  unfold Yp
  split
  ·split
   ·refine List.pairwise_append.2 ⟨ih,List.pairwise_singleton _ _,fun y hy z hz=> ?_⟩
    obtain ⟨j,hj,_,_,_,rfl⟩:=posN_mem.1 hy
    obtain rfl:=List.mem_singleton.1 hz
    omega
   ·exact ih
  ·exact ih
theorem Qfz (v:List Int):∀i,(Yp v i).length≤i
 | 0=>Nat.le_refl _
 | i+1=>by
  have ih:=Qfz v i
  unfold Yp
  split
  ·split
   ·simp only [List.length_append,List.length_cons,List.length_nil];omega
   ·omega
  ·omega
def Ql (a:D.Issue) (l:List D.Correction) (tk:Int):List Int:=Yp (QN a l tk) (QN a l tk).length
theorem Qf6 (a:D.Issue) (l:List D.Correction) (tk:Int):(Ql a l tk).length≤a.Puzzle.Clues.length:=Nat.le_trans (Qfz _ _) (Qfl _ _ _)
theorem QfH {a:D.Issue} {l:List D.Correction} {tk y:Int} (hg:QbD a l):y∈Ql a l tk↔∃j:Nat,j<l.length∧∃c,l[j]? =some c∧(c.Issue=a.Number∧c.Tick≤tk∧c.Slot<((a.Puzzle.Clues.length:Nat):Int))∧y=c.Slot:=by
 unfold Ql
 rw [posN_mem]
 have hv:QN a l tk=Q0 a l tk a.Puzzle.Clues.length:=if_pos hg
 rw [hv,Qbr]
 constructor
 ·rintro ⟨j,hj,c,hc,h0,rfl⟩
  rw [Q0,List.getElem?_map,List.getElem?_range hj,Option.map_some] at hc
  obtain rfl:=Option.some.inj hc
  obtain ⟨i,hi,c,h1,h2,h3,h4⟩:=cAt_pos.1 h0
  exact ⟨i,hi,c,h1,⟨h2,h4,by omega⟩,h3.symm⟩
 ·rintro ⟨j,hj,c,hc,⟨h1,h2,h3⟩,rfl⟩
  have h4:=hg.2.2 j hj
  obtain ⟨x,hx,_,h5,_⟩:=h4
  rw [hc] at hx
  obtain rfl:=Option.some.inj hx
  refine ⟨c.Slot.toNat,by omega,cAt a l tk ((c.Slot.toNat:Nat):Int) l.length,?_,cAt_pos.2 ⟨j,hj,c,hc,h1,?_,h2⟩,by omega⟩
  ·rw [Q0,List.getElem?_map,List.getElem?_range (show c.Slot.toNat<a.Puzzle.Clues.length by omega),Option.map_some]
  ·omega
def slN (a:D.Issue) (l:List D.Correction) (tk:Int):Nat→List Int
 | 0=> []
 | i+1=>match l[i]? with | some c=>if c.Issue=a.Number∧c.Tick≤tk∧c.Slot<((a.Puzzle.Clues.length:Nat):Int) then Yb (slN a l tk i) c.Slot else slN a l tk i | none=>slN a l tk i
theorem QcR {a:D.Issue} {l:List D.Correction} {tk:Int} {i:Nat} {c:D.Correction} (h:l[i]? =some c):slN a l tk (i+1)=if c.Issue=a.Number∧c.Tick≤tk∧c.Slot<((a.Puzzle.Clues.length:Nat):Int) then Yb (slN a l tk i) c.Slot else slN a l tk i:=by rw [slN,h]
theorem Qja (a:D.Issue) (l:List D.Correction) (tk:Int):∀i,(slN a l tk i).length≤i
 | 0=>Nat.le_refl _
 | i+1=>by
  have ih:=Qja a l tk i
  unfold slN
  split
  ·split
   ·have:=Qgq (l:=slN a l tk i) (n:=by assumption)
    exact Nat.le_trans Qgq (by omega)
   ·omega
  ·omega
theorem Qjf (a:D.Issue) (l:List D.Correction) (tk:Int):∀i,Qjn (slN a l tk i)
 | 0=>List.Pairwise.nil
 | i+1=>by
  have ih:=Qjf a l tk i
  unfold slN
  split
  ·split
   ·exact Qkg ih
   ·exact ih
  ·exact ih
theorem Qi8 {a:D.Issue} {l:List D.Correction} {tk y:Int}:∀ {i:Nat},y∈slN a l tk i↔∃j:Nat,j<i∧∃c,l[j]? =some c∧(c.Issue=a.Number∧c.Tick≤tk∧c.Slot<((a.Puzzle.Clues.length:Nat):Int))∧y=c.Slot
 | 0=>by simp [slN]
 | i+1=>by
  have ih:=Qi8 (a:=a) (l:=l) (tk:=tk) (y:=y) (i:=i)
  constructor
  ·intro h
   unfold slN at h
   split at h
   ·rename_i c hc
    split at h
    ·rcases l9put_mem.1 h with h | h
     ·obtain ⟨j,hj,e⟩:=ih.1 h
      exact ⟨j,by omega,e⟩
     ·exact ⟨i,by omega,c,hc,by assumption,h⟩
    ·obtain ⟨j,hj,e⟩:=ih.1 h
     exact ⟨j,by omega,e⟩
   ·obtain ⟨j,hj,e⟩:=ih.1 h
    exact ⟨j,by omega,e⟩
  ·rintro ⟨j,hj,c,hc,h0,rfl⟩
   unfold slN
   rcases Nat.lt_or_ge j i with h1 | h1
   ·have h2:=ih.2 ⟨j,h1,c,hc,h0,rfl⟩
    split
    ·split
     ·exact l9put_mem.2 (.inl h2)
     ·exact h2
    ·exact h2
   ·obtain rfl:j=i:=by omega
    rw [hc]
    simp only
    rw [if_pos h0]
    exact l9put_mem.2 (.inr rfl)
theorem QlT {a:D.Issue} {l:List D.Correction} {tk:Int} (hg:QbD a l):slN a l tk l.length=Ql a l tk:=Qif (Qjf _ _ _ _) (QhR _ _) (fun y=>by rw [Qi8,QfH hg])
theorem QlX {a:D.Issue} {l:List D.Correction} {tk:Int} (hg:¬QbD a l):Ql a l tk= []:=by
 unfold Ql QN
 rw [if_neg hg]
 rfl
theorem Qmb {a:D.Issue} {l:List D.Correction} {tk:Int} {i:Nat} (hi:i≤l.length) (hg:i=0∨QbD a l) (he:¬((i<l.length∧ZT a)∧Q9 l)):slN a l tk i=Ql a l tk:=by
 by_cases h:QbD a l
 ·have:i=l.length:=by
   rcases Nat.lt_or_ge i l.length with h1 | h1
   ·exact absurd ⟨⟨h1,h.1⟩,h.2⟩ he
   ·omega
  rw [this]
  exact QlT h
 ·rw [QlX h]
  rcases hg with rfl | hg
  ·rfl
  ·exact absurd hg h
end
theorem Qa9 (n:Nat) (a:D.Issue) (l:List D.Correction) (tk:Int) (hz:Zg a≤mx) (hq:zL Qq l≤mx):Pure (Qr Tryz.prog (n+13)) 12 [(T.agg (Qw false a)),(rd 5 Qa l),(tI tk)] (T.sl true 1 ((Ql a l tk).map (Qb true))):=by
 refine Pure.intro (rs:= [ResultVar.tmp 6]) Tryz.func12 rfl rfl rfl (E0:= [(0,(T.agg (Qw false a))),(1,(rd 5 Qa l)),(2,(tI tk))]) rfl ?_
 obtain ⟨hlim,hmx,hmax⟩:=QG
 have hl:=Q7 (z:=Qq) l
 have hw:∀x∈l,QK x.Clue≤mx:=fun x hx=>by have h1:=Qfw (z:=Qq) hx;simp only [Qq] at h1;omega
 have hz2:=hz
 simp only [Zg,QM,ZM] at hz2
 have hlc:=Q7 (z:=QK) a.Puzzle.Clues
 refine sr (kO (B.box (ts:=(Qw false a)) (tv (T.agg (Qw false a)) rfl) nofun rfl) (fO (OF.assign VEv.nils) (nt (sr (kO (OM.slice0 Zt J7 (by kernel_rfl) rfl (by rw [Zb];decide) Zb) (aO (T.os 1 1 0 0) rfl (nt (sq (sr (fO (OF.assign (VEv.int .i64 0)) (nt ?_)))))))))))
 refine VRun.block ?_
 have he1: []=((slN a l tk 0).map (Qb true)):=by rfl
 refine VRun.loop (A:=Nat) (fun s_=> [(1,(rd 5 Qa l)),(2,(tI tk)),(3,(T.op 0 0)),(6,T.nils),(7,(T.os 1 1 0 (((slN a l tk s_).map (Qb true)).length))),(8,(tN s_))]) (fun s_=>QX [(0,(Obj.cells (Qw false a))),(1,(Obj.rows 1 ((slN a l tk s_).map (Qb true))))]) 2 (fun s_=>s_≤l.length∧(s_=0∨QbD a l)) (fun s_=>l.length - s_) (0:Nat) ?_ (Wk.mk (fun k=>k) ?_ ?_ ?_) ?_
 ·exact ⟨Nat.zero_le _, .inl rfl⟩
 ·exact (b2 (b2 (b2 (b2 (bc ⟨(congrArg (fun n_=>T.os 1 1 0 n_) (show 0=((slN a l tk 0).map (Qb true)).length from (by rfl))),rfl⟩ (b2 bn))))))
 ·exact (b3 (bc ⟨(congrArg (fun l_=>some (Obj.rows 1 l_)) he1),(lb rfl),rfl⟩ bn))
 ·exact nd rfl
 rintro i (hI':i≤l.length∧(i=0∨QbD a l))
 show VRun _ _ _ [(1,(rd 5 Qa l)),(2,(tI tk)),(3,(T.op 0 0)),(6,T.nils),(7,(T.os 1 1 0 (((slN a l tk i).map (Qb true)).length))),(8,(tN i))] (QX [(0,(Obj.cells (Qw false a))),(1,(Obj.rows 1 ((slN a l tk i).map (Qb true))))]) 2 _
 have hI0:=hI'.1
 have hsn:=Qja a l tk i
 refine sq (sr (mO (tN i) rfl (mO (rd 5 Qa l) rfl (lO (B.lenR (m:=l.length) (tv (rd 5 Qa l) rfl) U41 (List.length_map ..)) (fO (Zd (tv (tN i) rfl) (tv (tN l.length) rfl)) (mO (tB (decide (i<l.length))) rfl ?_))))))
 refine VRunO.joinB 3 [15,16] 17 (tB (decide ((i<l.length)∧(ZT a)))) ?_ ?_
 ·refine gw (i<l.length) (fun fhg14_2=> ?_) fun fhg14_2=> ?_
  ·refine gL (dy fhg14_2) rfl rfl (OL.loadOn (us:=(Qw false a)) (tv (T.op 0 0) rfl) rfl QhP Qf5 (lb rfl) rfl) ?_
   refine VRunO.chain (VWant.on rfl rfl (dy fhg14_2)) (cS (vc (tv (T.agg (Qw false a)) rfl) vn) (LendL.cons (lg Jt) ln) (Qfa (n+0) a (by assumption)) rfl rfl) (fO (OF.pickT (VEv.tmpB rfl (dy fhg14_2)) (tv (tB (decide (ZT a))) rfl)) (VRunO.nil ?_))
   exact jq (congrArg T.bool (kAT fhg14_2 rfl)) (js rfl (js rfl (jn)))
  ·refine QC 2 4 true 14 (dz fhg14_2) rfl rfl rfl ?_
   refine fO (OF.pickF (VEv.tmpB rfl (dz fhg14_2)) (VEv.bool false)) (VRunO.nil ?_)
   exact jq (congrArg T.bool (kAF fhg14_2)) (js rfl (js rfl (jn)))
 refine mO (tB (decide ((i<l.length)∧(ZT a)))) rfl ?_
 refine VRunO.joinB 3 [19,20] 21 (tB (decide (((i<l.length)∧(ZT a))∧(Q9 l)))) ?_ ?_
 ·refine gw ((i<l.length)∧(ZT a)) (fun fhg18_3=> ?_) fun fhg18_3=> ?_
  ·refine gF (dy fhg18_3) rfl rfl (OF.move (tv (rd 5 Qa l) rfl)) ?_
   refine VRunO.chain (VWant.on rfl rfl (dy fhg18_3)) (cS (vc (tv (rd 5 Qa l) rfl) vn) (ZX rfl) (Qbc (n+6) l (by omega) (by assumption)) rfl rfl) (fO (OF.pickT (VEv.tmpB rfl (dy fhg18_3)) (tv (tB (decide (Q9 l))) rfl)) (VRunO.nil ?_))
   exact jq (congrArg T.bool (kAT fhg18_3 rfl)) (js rfl (js rfl (jn)))
  ·refine QC 2 8 true 18 (dz fhg18_3) rfl rfl rfl ?_
   refine fO (OF.pickF (VEv.tmpB rfl (dz fhg18_3)) (VEv.bool false)) (VRunO.nil ?_)
   exact jq (congrArg T.bool (kAF fhg18_3)) (js rfl (js rfl (jn)))
 refine nt ?_
 refine cd (((i<l.length)∧(ZT a))∧(Q9 l)) rfl (fun fhc0=> ?_) fun fhc0=> ?_
 ·refine sk ?_
  refine tn (sq (VRun.block (sq (VRun.draw (B:= [[],[],[1,0],[0,1,2],[2,1,0,3],[],[5],[5,6,3,0,1,2,4],[4,2,1,0,3,6,5,7],[7,5,6,3,0,1,2,4,8],[7,5,6,3,0,1,2,4,8],[10,8,4,2,1,0,3,6,5,7,9],[9,7,5,6,3,0,1,2,4,8,10,11],[11,10,8,4,2,1,0,3,6,5,7,9,12],[7,5,6,3,0,1,2,4,8],[14,12,9,7,5,6,3,0,1,2,4,8,10,11,13],[13,11,10,9,12,14,15,7,5,6,3,0,1,2,4,8],[8,4,2,1,0,3,6,5,7,15,14,12,9,10,11,13,16],[16,13,11,10,9,12,14,15,7,5,6,3,0,1,2,4,8,17],[16,13,11,10,9,12,14,15,7,5,6,3,0,1,2,4,8,17],[19,17,8,4,2,1,0,3,6,5,7,15,14,12,9,10,11,13,16,18],[18,16,13,11,10,9,12,14,15,7,5,6,3,0,1,2,4,8,17,19,20],[20,19,17,8,4,2,1,0,3,6,5,7,15,14,12,9,10,11,13,16,18,21],[16,13,11,10,9,12,14,15,7,5,6,3,0,1,2,4,8,17],[17,8,4,2,1,0,3,6,5,7,15,14,12,9,10,11,13,16,23],[23,16,13,11,10,9,12,14,15,7,5,6,3,0,1,2,4,8,17,24],[24,17,8,4,2,1,0,3,6,5,7,15,14,12,9,10,11,13,16,23,25],[25,23,24,26,21,18,16,13,11,10,9,12,14,15,7,5,6,3,0,1,2,4,8,17,19,20,22],[22,20,19,18,21,26,24,23,25,27,16,13,11,10,9,12,14,15,7,5,6,3,0,1,2,4,8,17]]) (by kernel_rfl) (by kernel_rfl) (mD (rd 5 Qa l) rfl rfl (mD (tN i) rfl rfl ?_))))))
  obtain ⟨x1,hx1⟩:∃x,l[i]? =some x:=⟨_,List.getElem?_eq_getElem (by omega)⟩
  refine fD (OF.indexAddrR (row:=(Qa false x1)) (i:=i) (tv (rd 5 Qa l) rfl) (tv (tN i) rfl) rfl (Qt _ hx1) U41 YQ Qaa) rfl rfl (fD (B.fieldAddrR (us:=(Qa false x1)) (tv (T.rp (Qa false x1)) rfl) (lb rfl) Qbs rfl) rfl rfl (lD (OL.loadR1 (t:=(tI x1.Issue)) (tv (T.rp (Qa false x1)) rfl) rfl QT) rfl rfl (fD (OF.fieldAddrO (tv (T.op 0 0) rfl) QcG) rfl rfl (lD (OL.loadO1 (t:=(tI a.Number)) (tv (T.op 0 0) rfl) rfl rfl QT) rfl rfl (fD (Y3 (tv (tI x1.Issue) rfl) (tv (tI a.Number) rfl)) rfl rfl (mD (tB (decide (x1.Issue=a.Number))) rfl rfl ?_))))))
  refine gw (x1.Issue=a.Number) (fun fhg32_4=> ?_) fun fhg32_4=> ?_
  ·refine VRunD.free rfl (VWant.on rfl rfl (dy fhg32_4)) rfl (OF.move (tv (rd 5 Qa l) rfl)) ?_
   refine VRunD.free rfl (VWant.on rfl rfl (dy fhg32_4)) rfl (OF.move (tv (tN i) rfl)) (VRunD.free rfl (VWant.on rfl rfl (dy fhg32_4)) rfl (OF.indexAddrR (row:=(Qa false x1)) (i:=i) (tv (rd 5 Qa l) rfl) (tv (tN i) rfl) rfl (Qt _ hx1) U41 YQ Qaa) (VRunD.free rfl (VWant.on rfl rfl (dy fhg32_4)) rfl (B.fieldAddrR (us:= [(tI x1.Tick)]) (tv (T.rp (Qa false x1)) rfl) (lb rfl) Ju rfl) (VRunD.look rfl (VWant.on rfl rfl (dy fhg32_4)) rfl (OL.loadR1 (t:=(tI x1.Tick)) (tv (T.rp [(tI x1.Tick)]) rfl) rfl QT) (VRunD.free rfl (VWant.on rfl rfl (dy fhg32_4)) rfl (OF.move (tv (tI tk) rfl)) (VRunD.free rfl (VWant.on rfl rfl (dy fhg32_4)) rfl (xle (tv (tI x1.Tick) rfl) (tv (tI tk) rfl)) (fD (OF.pickT (VEv.tmpB rfl (dy fhg32_4)) (tv (tB (decide (x1.Tick≤tk))) rfl)) rfl rfl (mD (tB (decide (x1.Tick≤tk))) rfl rfl ?_)))))))
   refine gw (x1.Tick≤tk) (fun fhg41_5=> ?_) fun fhg41_5=> ?_
   ·refine VRunD.free rfl (VWant.on rfl rfl (dy fhg41_5)) rfl (OF.move (tv (rd 5 Qa l) rfl)) ?_
    refine VRunD.free rfl (VWant.on rfl rfl (dy fhg41_5)) rfl (OF.move (tv (tN i) rfl)) (VRunD.free rfl (VWant.on rfl rfl (dy fhg41_5)) rfl (OF.indexAddrR (row:=(Qa false x1)) (i:=i) (tv (rd 5 Qa l) rfl) (tv (tN i) rfl) rfl (Qt _ hx1) U41 YQ Qaa) (VRunD.free rfl (VWant.on rfl rfl (dy fhg41_5)) rfl (B.fieldAddrR (us:=((Qa false x1).drop 1)) (tv (T.rp (Qa false x1)) rfl) (lb rfl) Qa2 rfl) (VRunD.look rfl (VWant.on rfl rfl (dy fhg41_5)) rfl (OL.loadR1 (t:=(tI x1.Slot)) (tv (T.rp ((Qa false x1).drop 1)) rfl) rfl QT) (VRunD.free rfl (VWant.on rfl rfl (dy fhg41_5)) rfl (OF.fieldAddrO (tv (T.op 0 0) rfl) Qbh) (VRunD.free rfl (VWant.on rfl rfl (dy fhg41_5)) rfl (OF.fieldAddrO (tv (T.op 0 1) rfl) Jy) (VRunD.look rfl (VWant.on rfl rfl (dy fhg41_5)) rfl (OL.loadO1 (t:=(rd 2 Qe a.Puzzle.Clues)) (tv (T.op 0 4) rfl) rfl rfl Qe3) (VRunD.look rfl (VWant.on rfl rfl (dy fhg41_5)) rfl (B.lenR (m:=a.Puzzle.Clues.length) (tv (rd 2 Qe a.Puzzle.Clues) rfl) U35 (List.length_map ..)) (VRunD.free rfl (VWant.on rfl rfl (dy fhg41_5)) rfl (xls (tv (tI x1.Slot) rfl) (tv (tN a.Puzzle.Clues.length) rfl)) (fD (OF.pickT (VEv.tmpB rfl (dy fhg41_5)) (tv (tB (decide (x1.Slot<((a.Puzzle.Clues.length:Nat):Int)))) rfl)) rfl rfl (VRunD.nil (tn ?_)))))))))))
    refine cd (x1.Slot<((a.Puzzle.Clues.length:Nat):Int)) rfl (fun fhc1=> ?_) fun fhc1=> ?_
    ·refine VRun.region ?_
     refine mO (T.os 1 1 0 (((slN a l tk i).map (Qb true)).length)) rfl (mO (rd 5 Qa l) rfl (mO (tN i) rfl (fO (OF.indexAddrR (row:=(Qa false x1)) (i:=i) (tv (rd 5 Qa l) rfl) (tv (tN i) rfl) rfl (Qt _ hx1) U41 YQ Qaa) (lr (tI x1.Slot) rfl (lb rfl) Qa2 rfl QT (cO (OC.callF (us:= [(rd 1 Qb (slN a l tk i)),(tI x1.Slot)]) (r:=(T.sl true 1 ((Yb (slN a l tk i) x1.Slot).map (Qb true)))) (r':=(T.os 1 2 0 (((Yb (slN a l tk i) x1.Slot).map (Qb true)).length))) (objs:= [(Obj.rows 1 ((Yb (slN a l tk i) x1.Slot).map (Qb true)))]) rfl (vc (tv (T.os 1 1 0 (((slN a l tk i).map (Qb true)).length)) rfl) (vc (tv (tI x1.Slot) rfl) vn)) (LendL.cons (Lend.os rfl rfl (okInt.fzMap _ _)) (lp rfl ln)) (Qhk (n+11) (slN a l tk i) x1.Slot (by omega)) rfl) (aO (T.os 1 2 0 (((Yb (slN a l tk i) x1.Slot).map (Qb true)).length)) rfl (VRunO.nil (vinB.n (tn (VRun.region (mO (tN i) rfl ?_)))))))))))
     refine fO (Qz (tv (tN i) rfl) (VEv.int .i64 1) (by omega)) (aO (tN (i+1)) rfl (VRunO.nil (tn ?_)))
     have he6:Yb (slN a l tk i) x1.Slot=slN a l tk (i+1):=by rw [QcR hx1,if_pos ⟨by assumption,by assumption,by assumption⟩]
     refine ⟨(i+1:Nat),?_,?_,Wk.mk (fun k=>if k=1 then 2 else k) ?_ ?_ ?_⟩
     ·exact ⟨by have:=fhc0.1.1;omega, .inr ⟨fhc0.1.2,fhc0.2⟩⟩
     ·omega
     ·exact (b2 (b2 (b2 (b2 (bc ⟨(congrArg (fun l_=>T.os 1 2 0 (List.map (Qb true) l_).length) he6),rfl⟩ (b2 bn))))))
     ·exact (b3 (bc ⟨(congrArg (fun l_=>some (Obj.rows 1 (List.map (Qb true) l_))) he6),(lb rfl),rfl⟩ bn))
     ·exact nd rfl
    refine sk (vinB.n (tn (VRun.region (mO (tN i) rfl (fO (Qz (tv (tN i) rfl) (VEv.int .i64 1) (by omega)) (aO (tN (i+1)) rfl (VRunO.nil (tn ?_))))))))
    have he7:slN a l tk i=slN a l tk (i+1):=by rw [QcR hx1,if_neg (fun h=>absurd h.2.2 (by assumption))]
    refine ⟨(i+1:Nat),?_,?_,Wk.mk (fun k=>k) ?_ ?_ ?_⟩
    ·exact ⟨by have:=fhc0.1.1;omega, .inr ⟨fhc0.1.2,fhc0.2⟩⟩
    ·omega
    ·exact (b2 (b2 (b2 (b2 (bc ⟨(congrArg (fun l_=>T.os 1 1 0 (List.map (Qb true) l_).length) he7),rfl⟩ (b2 bn))))))
    ·exact (b3 (bc ⟨(congrArg (fun l_=>some (Obj.rows 1 (List.map (Qb true) l_))) he7),(lb rfl),rfl⟩ bn))
    ·exact nd rfl
   refine oD rfl rfl (dz fhg41_5) rfl (oD rfl rfl (dz fhg41_5) rfl (oD rfl rfl (dz fhg41_5) rfl (oD rfl rfl (dz fhg41_5) rfl (oD rfl rfl (dz fhg41_5) rfl (oD rfl rfl (dz fhg41_5) rfl (oD rfl rfl (dz fhg41_5) rfl (oD rfl rfl (dz fhg41_5) rfl (oD rfl rfl (dz fhg41_5) rfl (oD rfl rfl (dz fhg41_5) rfl (fD (OF.pickF (VEv.tmpB rfl (dz fhg41_5)) (VEv.bool false)) rfl rfl (VRunD.nil ?_)))))))))))
   refine tn (cf rfl (sk (vinB.n (tn (VRun.region (mO (tN i) rfl (fO (Qz (tv (tN i) rfl) (VEv.int .i64 1) (by omega)) (aO (tN (i+1)) rfl (VRunO.nil (tn ?_))))))))))
   have he8:slN a l tk i=slN a l tk (i+1):=by rw [QcR hx1,if_neg (fun h=>absurd h.2.1 (by assumption))]
   refine ⟨(i+1:Nat),?_,?_,Wk.mk (fun k=>k) ?_ ?_ ?_⟩
   ·exact ⟨by have:=fhc0.1.1;omega, .inr ⟨fhc0.1.2,fhc0.2⟩⟩
   ·omega
   ·exact (b2 (b2 (b2 (b2 (bc ⟨(congrArg (fun l_=>T.os 1 1 0 (List.map (Qb true) l_).length) he8),rfl⟩ (b2 bn))))))
   ·exact (b3 (bc ⟨(congrArg (fun l_=>some (Obj.rows 1 (List.map (Qb true) l_))) he8),(lb rfl),rfl⟩ bn))
   ·exact nd rfl
  refine oD rfl rfl (dz fhg32_4) rfl (oD rfl rfl (dz fhg32_4) rfl (oD rfl rfl (dz fhg32_4) rfl (oD rfl rfl (dz fhg32_4) rfl (oD rfl rfl (dz fhg32_4) rfl (oD rfl rfl (dz fhg32_4) rfl (oD rfl rfl (dz fhg32_4) rfl (fD (OF.pickF (VEv.tmpB rfl (dz fhg32_4)) (VEv.bool false)) rfl rfl (mD (tB false) rfl rfl (VRunD.off rfl (VWant.not (b:=false) rfl rfl rfl) (VRunD.off rfl (VWant.not (b:=false) rfl rfl rfl) (VRunD.off rfl (VWant.not (b:=false) rfl rfl rfl) ?_)))))))))))
  refine VRunD.off rfl (VWant.not (b:=false) rfl rfl rfl) (VRunD.off rfl (VWant.not (b:=false) rfl rfl rfl) (VRunD.off rfl (VWant.not (b:=false) rfl rfl rfl) (VRunD.off rfl (VWant.not (b:=false) rfl rfl rfl) (VRunD.off rfl (VWant.not (b:=false) rfl rfl rfl) (VRunD.off rfl (VWant.not (b:=false) rfl rfl rfl) (VRunD.off rfl (VWant.not (b:=false) rfl rfl rfl) (fD (OF.pickF (tv (tB false) rfl) (VEv.bool false)) rfl rfl (VRunD.nil (tn (cf rfl (sk ?_)))))))))))
  refine vinB.n (tn (VRun.region (mO (tN i) rfl (fO (Qz (tv (tN i) rfl) (VEv.int .i64 1) (by omega)) (aO (tN (i+1)) rfl (VRunO.nil (tn ?_)))))))
  have he9:slN a l tk i=slN a l tk (i+1):=by rw [QcR hx1,if_neg (fun h=>absurd h.1 (by assumption))]
  refine ⟨(i+1:Nat),?_,?_,Wk.mk (fun k=>k) ?_ ?_ ?_⟩
  ·exact ⟨by have:=fhc0.1.1;omega, .inr ⟨fhc0.1.2,fhc0.2⟩⟩
  ·omega
  ·exact (b2 (b2 (b2 (b2 (bc ⟨(congrArg (fun l_=>T.os 1 1 0 (List.map (Qb true) l_).length) he9),rfl⟩ (b2 bn))))))
  ·exact (b3 (bc ⟨(congrArg (fun l_=>some (Obj.rows 1 (List.map (Qb true) l_))) he9),(lb rfl),rfl⟩ bn))
  ·exact nd rfl
 refine VRun.exit (vthn.e (vthn.e (vinB.e (tn (sr (mO (T.os 1 1 0 (((slN a l tk i).map (Qb true)).length)) rfl (aO (T.os 1 1 0 (((slN a l tk i).map (Qb true)).length)) rfl (nt (rt ?_)))))))))
 refine vfin.eq (r':=(T.sl true 1 ((slN a l tk i).map (Qb true)))) ?_ (vfin.r (VRes.tmp (t:=(T.os 1 1 0 (((slN a l tk i).map (Qb true)).length))) rfl VRes.nil) (Give.os rfl rfl (okInt.cleanMap _)))
 show (T.sl true 1 ((slN a l tk i).map (Qb true)))=(T.sl true 1 ((Ql a l tk).map (Qb true)))
 refine congrArg (fun l_=>T.sl true 1 (List.map (Qb true) l_)) ?_
 exact Qmb hI'.1 hI'.2 fhc0
theorem Qcy (n:Nat) (a:D.Issue) (l:List D.Correction) (tk:Int) (hz:Zg a≤mx) (hq:zL Qq l≤mx):Pure (Qr Tryz.prog (n+45)) 50 [(T.agg (Qw false a)),(rd 5 Qa l),(tI tk)] (T.sl true 1 ((QN a l tk).map (Qb true))):=by
 refine Pure.intro (rs:= [ResultVar.tmp 6]) Tryz.func50 rfl rfl rfl (E0:= [(0,(T.agg (Qw false a))),(1,(rd 5 Qa l)),(2,(tI tk))]) rfl ?_
 obtain ⟨hlim,hmx,hmax⟩:=QG
 have hl:=Q7 (z:=Qq) l
 have hw:∀x∈l,QK x.Clue≤mx:=fun x hx=>by have h1:=Qfw (z:=Qq) hx;simp only [Qq] at h1;omega
 have hz2:=hz
 simp only [Zg,QM,ZM] at hz2
 have hlc:=Q7 (z:=QK) a.Puzzle.Clues
 refine sr (kO (B.box (ts:=(Qw false a)) (tv (T.agg (Qw false a)) rfl) nofun rfl) (fO (OF.assign VEv.nils) (nt (sq (sr (lO (OL.loadOn (us:=(Qw false a)) (tv (T.op 0 0) rfl) rfl QhP Qf5 (lb rfl) rfl) (cO (cS (vc (tv (T.agg (Qw false a)) rfl) vn) (LendL.cons (lg Jt) ln) (Qft (n+0) a (by assumption)) rfl rfl) (fO (QZ (tv (tB (decide (ZT a))) rfl)) (mO (tB (!(decide (ZT a)))) rfl ?_)))))))))
 refine VRunO.joinB 4 [16,17,18] 19 (tB (decide ((¬(ZT a))∨(¬(Q9 l))))) ?_ ?_
 ·refine gn (ZT a) (fun fhg15_1=> ?_) fun fhg15_1=> ?_
  ·refine QC 3 3 false 15 (ny fhg15_1) rfl rfl rfl ?_
   refine fO (OF.pickT (VEv.tmpB rfl (ny fhg15_1)) (VEv.bool true)) (VRunO.nil ?_)
   exact jq (congrArg T.bool (kOT fhg15_1)) (js rfl (js rfl (js rfl (jn))))
  ·refine gF (nz fhg15_1) rfl rfl (OF.move (tv (rd 5 Qa l) rfl)) ?_
   refine VRunO.chain (VWant.on rfl rfl (nz fhg15_1)) (cS (vc (tv (rd 5 Qa l) rfl) vn) (ZX rfl) (Qba (n+39) l (by omega) (by assumption)) rfl rfl) (gF (nz fhg15_1) rfl rfl (QZ (tv (tB (decide (Q9 l))) rfl)) (fO (OF.pickF (VEv.tmpB rfl (nz fhg15_1)) (tv (tB (!(decide (Q9 l)))) rfl)) (VRunO.nil ?_)))
   exact jq (congrArg T.bool (kOF (not_not_intro fhg15_1) dN)) (js rfl (js rfl (js rfl (jn))))
 refine nt ?_
 refine cd ((¬(ZT a))∨(¬(Q9 l))) rfl (fun fhc0=> ?_) fun fhc0=> ?_
 ·refine sr ?_
  refine fO (OF.assign VEv.nils) (nt (rt (tr ?_)))
  refine vfin.eq (r':=(T.sl true 1 [])) ?_ (vfin.r (VRes.tmp (t:=T.nils) rfl VRes.nil) (Give.nils 1))
  show (T.sl true 1 [])=(T.sl true 1 ((QN a l tk).map (Qb true)))
  refine congrArg (fun l_=>T.sl true 1 (List.map (Qb true) l_)) (a₁:= []) ?_
  exact (if_neg (fun h:QbD a l=>by rcases fhc0 with h2 | h2<;>first | exact h2 h.1 | exact h2 h.2)).symm
 have hg:QbD a l:=⟨Classical.byContradiction fun h=>fhc0 (.inl h),Classical.byContradiction fun h=>fhc0 (.inr h)⟩
 refine sk (tn (sr (fO (OF.assign VEv.nils) (nt (sq (sr (fO (OF.fieldAddrO (tv (T.op 0 0) rfl) Qbh) (lf (rd 2 Qe a.Puzzle.Clues) rfl Jy rfl rfl Qe3 (lO (B.lenR (m:=a.Puzzle.Clues.length) (tv (rd 2 Qe a.Puzzle.Clues) rfl) U35 (List.length_map ..)) (fO (OF.move (VEv.int .i64 0)) (nt ?_)))))))))))
 refine VRun.block (VRun.wk (Wk.phantom 7 1 rfl) ?_)
 have he2: []=((Q0 a l tk 0).map (Qb true)):=by rfl
 refine VRun.loop (A:=Nat) (fun s_=> [(1,(rd 5 Qa l)),(2,(tI tk)),(3,(T.op 0 0)),(6,T.nils),(7,(T.os 1 1 0 (((Q0 a l tk s_).map (Qb true)).length))),(23,(tN a.Puzzle.Clues.length)),(24,(tN s_))]) (fun s_=>QX [(0,(Obj.cells (Qw false a))),(1,(Obj.rows 1 ((Q0 a l tk s_).map (Qb true))))]) 2 (fun s_=>s_≤a.Puzzle.Clues.length) (fun s_=>a.Puzzle.Clues.length - s_) (0:Nat) ?_ (Wk.mk (fun k=>k) ?_ ?_ ?_) ?_
 ·(simp;done)
 ·exact (b2 (b2 (b2 (b2 (bc ⟨(congrArg (fun n_=>T.os 1 1 0 n_) (show 0=((Q0 a l tk 0).map (Qb true)).length from (by rfl))),rfl⟩ (b2 (b2 bn)))))))
 ·exact (b3 (bc ⟨(congrArg (fun l_=>some (Obj.rows 1 l_)) he2),(lb rfl),rfl⟩ bn))
 ·exact nd rfl
 rintro u (hI':u≤a.Puzzle.Clues.length)
 show VRun _ _ _ [(1,(rd 5 Qa l)),(2,(tI tk)),(3,(T.op 0 0)),(6,T.nils),(7,(T.os 1 1 0 (((Q0 a l tk u).map (Qb true)).length))),(23,(tN a.Puzzle.Clues.length)),(24,(tN u))] (QX [(0,(Obj.cells (Qw false a))),(1,(Obj.rows 1 ((Q0 a l tk u).map (Qb true))))]) 2 _
 have hI1:=hI'
 have hcn:=Qbr a l tk u
 refine sr (fO (Zd (tv (tN u) rfl) (tv (tN a.Puzzle.Clues.length) rfl)) (nt (sq ?_)))
 refine cd (u<a.Puzzle.Clues.length) rfl (fun fhc1=> ?_) fun fhc1=> ?_
 ·refine sk ?_
  refine tn (sq (VRun.block (sr (mO (tN u) rfl (aO (tN u) rfl (nt (sr (fO (OF.assign (VEv.int .i64 (-1))) (nt (sq (sr ?_)))))))))))
  refine mO (rd 5 Qa l) rfl (lO (B.lenR (m:=l.length) (tv (rd 5 Qa l) rfl) U41 (List.length_map ..)) (fO (OF.move (VEv.int .i64 0)) (nt (VRun.block ?_))))
  refine VRun.loop (A:=Nat) (fun s_=> [(1,(rd 5 Qa l)),(2,(tI tk)),(3,(T.op 0 0)),(6,T.nils),(7,(T.os 1 1 0 (((Q0 a l tk u).map (Qb true)).length))),(8,(tN u)),(9,(tI (cAt a l tk ((u:Nat):Int) s_))),(23,(tN a.Puzzle.Clues.length)),(24,(tN u)),(27,(rd 5 Qa l)),(28,(tN l.length)),(29,(tN s_))]) (fun s_=>QX [(0,(Obj.cells (Qw false a))),(1,(Obj.rows 1 ((Q0 a l tk u).map (Qb true))))]) 2 (fun s_=>s_≤l.length) (fun s_=>l.length - s_) (0:Nat) ?_ (Wk.mk (fun k=>k) ?_ ?_ ?_) ?_
  ·(simp;done)
  ·exact (b2 (b2 (b2 (b2 (b2 (b2 (bc ⟨(congrArg (T.int .i64) (show (-1)=cAt a l tk ((u:Nat):Int) 0 from (by rfl))),rfl⟩ (b2 (b2 (b2 (b2 (b2 bn))))))))))))
  ·exact (b3 (b3 bn))
  ·exact nd rfl
  rintro i (hI':i≤l.length)
  show VRun _ _ _ [(1,(rd 5 Qa l)),(2,(tI tk)),(3,(T.op 0 0)),(6,T.nils),(7,(T.os 1 1 0 (((Q0 a l tk u).map (Qb true)).length))),(8,(tN u)),(9,(tI (cAt a l tk ((u:Nat):Int) i))),(23,(tN a.Puzzle.Clues.length)),(24,(tN u)),(27,(rd 5 Qa l)),(28,(tN l.length)),(29,(tN i))] (QX [(0,(Obj.cells (Qw false a))),(1,(Obj.rows 1 ((Q0 a l tk u).map (Qb true))))]) 2 _
  have hJ1:=hI'
  refine sr (fO (Zd (tv (tN i) rfl) (tv (tN l.length) rfl)) (nt (sq ?_)))
  refine cd (i<l.length) rfl (fun fhc2=> ?_) fun fhc2=> ?_
  ·refine sk ?_
   refine tn (sq (VRun.block (sr (mO (tN i) rfl ?_))))
   obtain ⟨x1,hx1⟩:∃x,l[i]? =some x:=⟨_,List.getElem?_eq_getElem (by omega)⟩
   refine fO (OF.indexAddrR (row:=(Qa false x1)) (i:=i) (tv (rd 5 Qa l) rfl) (tv (tN i) rfl) rfl (Qt _ hx1) U41 YQ Qaa) (lO (OL.loadRn (us:=(Qa false x1)) (tv (T.rp (Qa false x1)) rfl) Qiz YQ (lb rfl) rfl) (kO (B.alloc (t:=(T.agg [(tN 0),(tN 0),(tN 0),T.nils,(tN 0)])) (ts:= [(tN 0),(tN 0),(tN 0),T.nils,(tN 0)]) QjZ Qj4 nofun (fun _=> .agg _ _ rfl (Y9 (RL.cons (.int _ _) (RL.cons (.int _ _) (RL.cons (.int _ _) (RL.cons (.nils) (RL.cons (.int _ _) (RL.nil _)))))))) rfl) (aO (tN i) rfl (cO (B.storeO (us:=(Qa false x1)) (ws:=(Qa false x1)) (tv (T.op 2 0) rfl) (tv (T.agg (Qa false x1)) rfl) nofun rfl rfl (lb rfl) Qaa YQ (bc rfl (bc rfl (bc rfl (bc rfl (bc rfl bn))))) rfl) (nt (sr (lf (tI x1.Issue) rfl Qbs rfl rfl QT (lf (tI a.Number) rfl QcG rfl rfl QT (fO (Y3 (tv (tI x1.Issue) rfl) (tv (tI a.Number) rfl)) (mO (tB (decide (x1.Issue=a.Number))) rfl ?_))))))))))
   refine gw (x1.Issue=a.Number) (fun fhg39_3=> ?_) fun fhg39_3=> ?_
   ·refine Yv (tI x1.Slot) (dy fhg39_3) rfl rfl rfl rfl Qa2 rfl rfl QT ?_
    refine gF (dy fhg39_3) rfl rfl (OF.move (tv (tN u) rfl)) (gF (dy fhg39_3) rfl rfl (Y3 (tv (tI x1.Slot) rfl) (tv (tN u) rfl)) (fO (OF.pickT (VEv.tmpB rfl (dy fhg39_3)) (tv (tB (decide (x1.Slot=((u:Nat):Int)))) rfl)) (mO (tB (decide (x1.Slot=((u:Nat):Int)))) rfl ?_)))
    refine gw (x1.Slot=((u:Nat):Int)) (fun fhg45_4=> ?_) fun fhg45_4=> ?_
    ·refine Yv (tI x1.Tick) (dy fhg45_4) rfl rfl rfl rfl Ju rfl rfl QT ?_
     refine gF (dy fhg45_4) rfl rfl (OF.move (tv (tI tk) rfl)) (gF (dy fhg45_4) rfl rfl (xle (tv (tI x1.Tick) rfl) (tv (tI tk) rfl)) (fO (OF.pickT (VEv.tmpB rfl (dy fhg45_4)) (tv (tB (decide (x1.Tick≤tk))) rfl)) (nt ?_)))
     refine cd (x1.Tick≤tk) rfl (fun fhc3=> ?_) fun fhc3=> ?_
     ·refine VRun.region ?_
      refine mO (tN i) rfl (aO (tN i) rfl (VRunO.nil (vinB.n (tn (VRun.region (fO (Qz (tv (tN i) rfl) (VEv.int .i64 1) (by omega)) (mO (tN (i+1)) rfl (VRunO.nil (tn ?_)))))))))
      refine ⟨(i+1:Nat),?_,?_,Wk.mk (fun k=>k) ?_ ?_ ?_⟩
      ·trivial
      ·omega
      ·exact (b2 (b2 (b2 (b2 (b2 (b2 (bc ⟨(congrArg (T.int .i64) (show ((i:Nat):Int)=cAt a l tk ((u:Nat):Int) (i+1) from (by rw [QcH hx1,if_pos ⟨by assumption,by assumption,by assumption⟩]))),rfl⟩ (b2 (b2 (b2 (b2 (b2 bn))))))))))))
      ·exact (b3 (b3 bn))
      ·exact nd rfl
     refine sk (vinB.n (tn (VRun.region (fO (Qz (tv (tN i) rfl) (VEv.int .i64 1) (by omega)) (mO (tN (i+1)) rfl (VRunO.nil (tn ?_)))))))
     refine ⟨(i+1:Nat),?_,?_,Wk.mk (fun k=>k) ?_ ?_ ?_⟩
     ·trivial
     ·omega
     ·exact (b2 (b2 (b2 (b2 (b2 (b2 (bc ⟨(congrArg (T.int .i64) (show cAt a l tk ((u:Nat):Int) i=cAt a l tk ((u:Nat):Int) (i+1) from (by rw [QcH hx1,if_neg (fun h=>absurd h.2.2 (by assumption))]))),rfl⟩ (b2 (b2 (b2 (b2 (b2 bn))))))))))))
     ·exact (b3 (b3 bn))
     ·exact nd rfl
    refine QC 4 11 true 45 (dz fhg45_4) rfl rfl rfl (fO (OF.pickF (VEv.tmpB rfl (dz fhg45_4)) (VEv.bool false)) (nt (cf rfl (sk (vinB.n (tn (VRun.region (fO (Qz (tv (tN i) rfl) (VEv.int .i64 1) (by omega)) (mO (tN (i+1)) rfl (VRunO.nil (tn ?_)))))))))))
    refine ⟨(i+1:Nat),?_,?_,Wk.mk (fun k=>k) ?_ ?_ ?_⟩
    ·trivial
    ·omega
    ·exact (b2 (b2 (b2 (b2 (b2 (b2 (bc ⟨(congrArg (T.int .i64) (show cAt a l tk ((u:Nat):Int) i=cAt a l tk ((u:Nat):Int) (i+1) from (by rw [QcH hx1,if_neg (fun h=>absurd h.2.1 (by assumption))]))),rfl⟩ (b2 (b2 (b2 (b2 (b2 bn))))))))))))
    ·exact (b3 (b3 bn))
    ·exact nd rfl
   refine QC 4 5 true 39 (dz fhg39_3) rfl rfl rfl (fO (OF.pickF (VEv.tmpB rfl (dz fhg39_3)) (VEv.bool false)) (mO (tB false) rfl (QC 4 11 true 45 (b:=false) rfl rfl rfl rfl (fO (OF.pickF (tv (tB false) rfl) (VEv.bool false)) (nt (cf rfl (sk (vinB.n (tn (VRun.region (fO (Qz (tv (tN i) rfl) (VEv.int .i64 1) (by omega)) ?_)))))))))))
   refine mO (tN (i+1)) rfl (VRunO.nil (tn ?_))
   refine ⟨(i+1:Nat),?_,?_,Wk.mk (fun k=>k) ?_ ?_ ?_⟩
   ·trivial
   ·omega
   ·exact (b2 (b2 (b2 (b2 (b2 (b2 (bc ⟨(congrArg (T.int .i64) (show cAt a l tk ((u:Nat):Int) i=cAt a l tk ((u:Nat):Int) (i+1) from (by rw [QcH hx1,if_neg (fun h=>absurd h.1 (by assumption))]))),rfl⟩ (b2 (b2 (b2 (b2 (b2 bn))))))))))))
   ·exact (b3 (b3 bn))
   ·exact nd rfl
  refine VRun.exit (vthn.e (vthn.e (vinB.e (tn (VRun.region (mO (T.os 1 1 0 (((Q0 a l tk u).map (Qb true)).length)) rfl (mO (tI (cAt a l tk ((u:Nat):Int) i)) rfl (kO (OM.buildSlice (l:= [(tI (cAt a l tk ((u:Nat):Int) i))]) (VEvp.cons (tv (tI (cAt a l tk ((u:Nat):Int) i)) rfl) VEvp.nil) rfl (by decide) (bc (nofun) bn) (bc ((bc (rfl) bn)) bn) (bc (rfl) bn) Zt J7 (by kernel_rfl) rfl (by rw [Zb];decide) Zb (Nat.le_of_ble_eq_true rfl)) (cO (B.append (rows:=((Q0 a l tk u).map (Qb true))) (rows2:= [[(tI (cAt a l tk ((u:Nat):Int) i))]]) (rows3:=((Q0 a l tk u++ [cAt a l tk ((u:Nat):Int) i]).map (Qb true))) (VDst.own (tv (T.os 1 1 0 (((Q0 a l tk u).map (Qb true)).length)) rfl) rfl rfl) (VSrc.own (tv (T.os 1 2 0 1) rfl) rfl rfl Zt (bc (bc rfl bn) bn)) (by decide) Zt Zb (by decide) J7 rfl (of_decide_eq_true (by kernel_rfl)) (by (simp only [List.length_map,List.length_append,List.length_cons,List.length_nil,List.length_replicate,List.length_set,List.length_drop,List.length_take,YN] at *;omega)) ((List.map_append (f:=Qb true) (l₁:=Q0 a l tk u) (l₂:= [cAt a l tk ((u:Nat):Int) i])).symm)) (aO (T.os 1 3 0 (((Q0 a l tk u++ [cAt a l tk ((u:Nat):Int) i]).map (Qb true)).length)) rfl (VRunO.nil ?_)))))))))))
  refine vinB.n (tn (VRun.region (fO (Qz (tv (tN u) rfl) (VEv.int .i64 1) (by omega)) (mO (tN (u+1)) rfl (VRunO.nil (tn ?_))))))
  have he5:(Q0 a l tk u++ [cAt a l tk ((u:Nat):Int) i])=Q0 a l tk (u+1):=by (rw [show i=l.length by omega];exact QgA a l tk u)
  refine ⟨(u+1:Nat),?_,?_,Wk.mk (fun k=>if k=1 then 3 else k) ?_ ?_ ?_⟩
  ·trivial
  ·omega
  ·exact (b2 (b2 (b2 (b2 (bc ⟨(congrArg (fun l_=>T.os 1 3 0 (List.map (Qb true) l_).length) he5),rfl⟩ (b2 (b2 bn)))))))
  ·exact (b3 (bc ⟨(congrArg (fun l_=>some (Obj.rows 1 (List.map (Qb true) l_))) he5),(lb rfl),rfl⟩ bn))
  ·exact nd rfl
 refine VRun.exit (vthn.e (vthn.e (vinB.e (tn (sr (mO (T.os 1 1 0 (((Q0 a l tk u).map (Qb true)).length)) rfl (aO (T.os 1 1 0 (((Q0 a l tk u).map (Qb true)).length)) rfl (nt (rt ?_)))))))))
 refine vfin.eq (r':=(T.sl true 1 ((Q0 a l tk u).map (Qb true)))) ?_ (vfin.r (VRes.tmp (t:=(T.os 1 1 0 (((Q0 a l tk u).map (Qb true)).length))) rfl VRes.nil) (Give.os rfl rfl (okInt.cleanMap _)))
 show (T.sl true 1 ((Q0 a l tk u).map (Qb true)))=(T.sl true 1 ((QN a l tk).map (Qb true)))
 refine congrArg (fun l_=>T.sl true 1 (List.map (Qb true) l_)) ?_
 rw [show u=a.Puzzle.Clues.length by omega];exact (if_pos hg).symm
theorem Jf (n:Nat) (a:D.Issue) (l:List D.Correction) (tk:Int) (hz:Zg a≤mx) (hq:zL Qq l≤mx):Pure (Qr Tryz.prog (n+46)) 15 [(T.agg (Qw false a)),(rd 5 Qa l),(tI tk)] (T.sl true 1 ((Ql a l tk).map (Qb true))):=by
 refine Pure.intro (rs:= [ResultVar.tmp 6]) Tryz.func15 rfl rfl rfl (E0:= [(0,(T.agg (Qw false a))),(1,(rd 5 Qa l)),(2,(tI tk))]) rfl ?_
 obtain ⟨hlim,hmx,hmax⟩:=QG
 have hl:=Q7 (z:=Qq) l
 have hw:∀x∈l,QK x.Clue≤mx:=fun x hx=>by have h1:=Qfw (z:=Qq) hx;simp only [Qq] at h1;omega
 have hz2:=hz
 simp only [Zg,QM,ZM] at hz2
 have hlc:=Q7 (z:=QK) a.Puzzle.Clues
 have hca:=Qfl a l tk
 refine sr (kO (B.box (ts:=(Qw false a)) (tv (T.agg (Qw false a)) rfl) nofun rfl) (fO (OF.assign VEv.nils) (nt (sr (fO (OF.assign VEv.nils) (nt (sq (sr (lO (OL.loadOn (us:=(Qw false a)) (tv (T.op 0 0) rfl) rfl QhP Qf5 (lb rfl) rfl) (mO (rd 5 Qa l) rfl (mO (tI tk) rfl ?_)))))))))))
 refine cO (OC.callF (us:= [(T.agg (Qw false a)),(rd 5 Qa l),(tI tk)]) (r:=(T.sl true 1 ((QN a l tk).map (Qb true)))) (r':=(T.os 1 1 0 (((QN a l tk).map (Qb true)).length))) (objs:= [(Obj.rows 1 ((QN a l tk).map (Qb true)))]) rfl (vc (tv (T.agg (Qw false a)) rfl) (vc (tv (rd 5 Qa l) rfl) (vc (tv (tI tk) rfl) vn))) (LendL.cons (lg Jt) (lp rfl (lp rfl ln))) (Qcy (n+0) a l tk (by assumption) (by assumption)) rfl) (lO (B.lenO (m:=(QN a l tk).length) (tv (T.os 1 1 0 (((QN a l tk).map (Qb true)).length)) rfl) Zt (List.length_map ..)) (fO (OF.move (VEv.int .i64 0)) (nt (VRun.block (VRun.wk (Wk.phantom 7 1 rfl) ?_)))))
 have he1: []=((Yp (QN a l tk) 0).map (Qb true)):=by rfl
 refine VRun.loop (A:=Nat) (fun s_=> [(6,T.nils),(7,(T.os 1 1 0 (((Yp (QN a l tk) s_).map (Qb true)).length))),(13,(T.os 1 0 0 (((QN a l tk).map (Qb true)).length))),(14,(tN ((QN a l tk).length))),(15,(tN s_))]) (fun s_=>QX [(0,(Obj.rows 1 ((QN a l tk).map (Qb true)))),(1,(Obj.rows 1 ((Yp (QN a l tk) s_).map (Qb true))))]) 2 (fun s_=>s_≤(QN a l tk).length) (fun s_=>(QN a l tk).length - s_) (0:Nat) ?_ (Wk.mk (fun k=>if k=0 then 1 else if k=1 then 2 else k) ?_ ?_ ?_) ?_
 ·(simp;done)
 ·exact (b2 (bc ⟨(congrArg (fun n_=>T.os 1 2 0 n_) (show 0=((Yp (QN a l tk) 0).map (Qb true)).length from (by rfl))),rfl⟩ (b2 (b2 (b2 bn)))))
 ·exact (b3 (bc ⟨(congrArg (fun l_=>some (Obj.rows 1 l_)) he1),(lb rfl),rfl⟩ bn))
 ·exact nd rfl
 rintro i (hI':i≤(QN a l tk).length)
 show VRun _ _ _ [(6,T.nils),(7,(T.os 1 1 0 (((Yp (QN a l tk) i).map (Qb true)).length))),(13,(T.os 1 0 0 (((QN a l tk).map (Qb true)).length))),(14,(tN ((QN a l tk).length))),(15,(tN i))] (QX [(0,(Obj.rows 1 ((QN a l tk).map (Qb true)))),(1,(Obj.rows 1 ((Yp (QN a l tk) i).map (Qb true))))]) 2 _
 have hI1:=hI'
 have hpn:=Qfz (QN a l tk) i
 refine sr (fO (Zd (tv (tN i) rfl) (tv (tN ((QN a l tk).length)) rfl)) (nt (sq ?_)))
 refine cd (i<(QN a l tk).length) rfl (fun fhc0=> ?_) fun fhc0=> ?_
 ·refine sk ?_
  refine tn (sq (VRun.block (sr (mO (tN i) rfl ?_))))
  obtain ⟨x1,hx1⟩:∃x,(QN a l tk)[i]? =some x:=⟨_,List.getElem?_eq_getElem (by omega)⟩
  refine fO (B.indexAddrO (i:=i) (tv (T.os 1 0 0 (((QN a l tk).map (Qb true)).length)) rfl) (tv (tN i) rfl) rfl (by (simp only [List.length_map];omega)) Zt Zb Yk) (lO (OL.loadP1 (t:=(tI x1)) (row:=(Qb true x1)) (tv (T.orp 1 0 i 0) rfl) rfl (Qt _ hx1) rfl rfl QT) (aO (tN i) rfl (aO (tI x1) rfl (nt (sr (mO (tI x1) rfl (fO (xge (tv (tI x1) rfl) (VEv.int .i64 0)) (nt ?_))))))))
  refine cd (0≤x1) rfl (fun fhc1=> ?_) fun fhc1=> ?_
  ·refine VRun.region ?_
   refine mO (T.os 1 1 0 (((Yp (QN a l tk) i).map (Qb true)).length)) rfl (mO (tN i) rfl (kO (OM.buildSlice (l:= [(tN i)]) (VEvp.cons (tv (tN i) rfl) VEvp.nil) rfl (by decide) (bc (nofun) bn) (bc ((bc (rfl) bn)) bn) (bc (rfl) bn) Zt J7 (by kernel_rfl) rfl (by rw [Zb];decide) Zb (Nat.le_of_ble_eq_true rfl)) (cO (B.append (rows:=((Yp (QN a l tk) i).map (Qb true))) (rows2:= [[(tN i)]]) (rows3:=((Yp (QN a l tk) i++ [((i:Nat):Int)]).map (Qb true))) (VDst.own (tv (T.os 1 1 0 (((Yp (QN a l tk) i).map (Qb true)).length)) rfl) rfl rfl) (VSrc.own (tv (T.os 1 2 0 1) rfl) rfl rfl Zt (bc (bc rfl bn) bn)) (by decide) Zt Zb (by decide) J7 rfl (of_decide_eq_true (by kernel_rfl)) (by (simp only [List.length_map,List.length_append,List.length_cons,List.length_nil,List.length_replicate,List.length_set,List.length_drop,List.length_take,YN] at *;omega)) ((List.map_append (f:=Qb true) (l₁:=Yp (QN a l tk) i) (l₂:= [((i:Nat):Int)])).symm)) (aO (T.os 1 3 0 (((Yp (QN a l tk) i++ [((i:Nat):Int)]).map (Qb true)).length)) rfl (VRunO.nil (vinB.n (tn (VRun.region (fO (Qz (tv (tN i) rfl) (VEv.int .i64 1) (by omega)) (mO (tN (i+1)) rfl (VRunO.nil ?_)))))))))))
   refine tn ?_
   have he2:(Yp (QN a l tk) i++ [((i:Nat):Int)])=Yp (QN a l tk) (i+1):=by rw [Qf8 hx1,if_pos (by assumption)]
   refine ⟨(i+1:Nat),?_,?_,Wk.mk (fun k=>if k=1 then 3 else k) ?_ ?_ ?_⟩
   ·trivial
   ·omega
   ·exact (b2 (bc ⟨(congrArg (fun l_=>T.os 1 3 0 (List.map (Qb true) l_).length) he2),rfl⟩ (b2 (b2 (b2 bn)))))
   ·exact (b3 (bc ⟨(congrArg (fun l_=>some (Obj.rows 1 (List.map (Qb true) l_))) he2),(lb rfl),rfl⟩ bn))
   ·exact nd rfl
  refine sk (vinB.n (tn (VRun.region (fO (Qz (tv (tN i) rfl) (VEv.int .i64 1) (by omega)) (mO (tN (i+1)) rfl (VRunO.nil (tn ?_)))))))
  have he3:Yp (QN a l tk) i=Yp (QN a l tk) (i+1):=by rw [Qf8 hx1,if_neg (by assumption)]
  refine ⟨(i+1:Nat),?_,?_,Wk.mk (fun k=>k) ?_ ?_ ?_⟩
  ·trivial
  ·omega
  ·exact (b2 (bc ⟨(congrArg (fun l_=>T.os 1 1 0 (List.map (Qb true) l_).length) he3),rfl⟩ (b2 (b2 (b2 bn)))))
  ·exact (b3 (bc ⟨(congrArg (fun l_=>some (Obj.rows 1 (List.map (Qb true) l_))) he3),(lb rfl),rfl⟩ bn))
  ·exact nd rfl
 refine VRun.exit (vthn.e (vthn.e (vinB.e (tn (sr (mO (T.os 1 1 0 (((Yp (QN a l tk) i).map (Qb true)).length)) rfl (aO (T.os 1 1 0 (((Yp (QN a l tk) i).map (Qb true)).length)) rfl (nt (rt ?_)))))))))
 refine vfin.eq (r':=(T.sl true 1 ((Yp (QN a l tk) i).map (Qb true)))) ?_ (vfin.r (VRes.tmp (t:=(T.os 1 1 0 (((Yp (QN a l tk) i).map (Qb true)).length))) rfl VRes.nil) (Give.os rfl rfl (okInt.cleanMap _)))
 show (T.sl true 1 ((Yp (QN a l tk) i).map (Qb true)))=(T.sl true 1 ((Ql a l tk).map (Qb true)))
 refine congrArg (fun l_=>T.sl true 1 (List.map (Qb true) l_)) ?_
 have:i=(QN a l tk).length:=(by omega);subst this;rfl
end Go.Proofs.YtcccmceoplcciaaGreat.AE
namespace Go.Proofs.YtcccmceoplcciaaGreat.AE
open Go Go.RowKit
set_option linter.unusedVariables false
set_option linter.unusedSimpArgs false
set_option maxRecDepth 20000
set_option maxHeartbeats 2000000
theorem Qc7 (n:Nat) (a:D.Puzzle) (k:Nat) (hk:QE k a.Clues+1*a.Seals.length≤YN):LoanM (Qr Tryz.prog (n+4)) 33 [(2,(a.Clues.map (Qe true))),(1,(a.Seals.map (Qb true)))] [(T.agg [(tI a.Grid.Rows),(tI a.Grid.Cols),(tS a.Grid.Cells),(T.os 2 0 0 ((a.Clues.map (Qe true)).length)),(T.os 1 1 0 ((a.Seals.map (Qb true)).length)),(tI a.Salt)]),(tN k)] (tN (QE k a.Clues+1*a.Seals.length)) [(2,((Yi k a.Clues).map (Qe true))),(1,((Js ZA 1 (QE k a.Clues) a.Seals.length).map (Qb true)))]:=by
 refine LoanM.intro (rs:= [ResultVar.tmp 4]) [(0,(T.agg [(tI a.Grid.Rows),(tI a.Grid.Cols),(tS a.Grid.Cells),(T.os 2 0 0 ((a.Clues.map (Qe true)).length)),(T.os 1 1 0 ((a.Seals.map (Qb true)).length)),(tI a.Salt)]))] Tryz.func33 rfl rfl rfl rfl (bc ⟨by kernel_rfl,rfl⟩ bn) (PinsTo.at (And.intro (And.intro trivial ⟨_,(.head _),(.agg 3 rfl (.os _ _))⟩) ⟨_,(.head _),(.agg 4 rfl (.os _ _))⟩)) (.int _ _) (bc (okeClue.cleanMap _) (bc (okInt.cleanMap _) bn)) (E0:= [(0,(T.agg [(tI a.Grid.Rows),(tI a.Grid.Cols),(tS a.Grid.Cells),(T.os 2 0 0 ((a.Clues.map (Qe true)).length)),(T.os 1 1 0 ((a.Seals.map (Qb true)).length)),(tI a.Salt)])),(1,(tN k))]) rfl (fun asg=> ?_)
 obtain ⟨hlim,hmx,hmax⟩:=QG
 show VRun _ _ _ [(0,(T.agg [(tI a.Grid.Rows),(tI a.Grid.Cols),(tS a.Grid.Cells),(T.os 2 0 0 ((a.Clues.map (Qe true)).length)),(T.os 1 1 0 ((a.Seals.map (Qb true)).length)),(tI a.Salt)])),(1,(tN k))] (QX [(0,(Obj.rowsN 2 (a.Clues.map (Qe true)) (asg 0))),(1,(Obj.rowsN 1 (a.Seals.map (Qb true)) (asg 1)))]) 2 _
 refine sr (kO (B.box (ts:= [(tI a.Grid.Rows),(tI a.Grid.Cols),(tS a.Grid.Cells),(T.os 2 0 0 ((a.Clues.map (Qe true)).length)),(T.os 1 1 0 ((a.Seals.map (Qb true)).length)),(tI a.Salt)]) (tv (T.agg [(tI a.Grid.Rows),(tI a.Grid.Cols),(tS a.Grid.Cells),(T.os 2 0 0 ((a.Clues.map (Qe true)).length)),(T.os 1 1 0 ((a.Seals.map (Qb true)).length)),(tI a.Salt)]) rfl) nofun rfl) (fO (OF.assign (VEv.int .i64 0)) (nt (sr (lf (T.os 2 0 0 ((a.Clues.map (Qe true)).length)) rfl Jy rfl rfl Qe3 (mO (tN k) rfl (cO (OC.callL (ts:= [(T.os 2 0 0 ((a.Clues.map (Qe true)).length)),(tN k)]) [0] (r:=(tN (QE k a.Clues))) (L:= [(2,(a.Clues.map (Qe true)))]) [(2,((Yi k a.Clues).map (Qe true)))] [(Obj.rowsN 2 (a.Clues.map (Qe true)) (asg 0))] rfl (vc (tv (T.os 2 0 0 ((a.Clues.map (Qe true)).length)) rfl) (vc (tv (tN k) rfl) vn)) (by decide) rfl (And.intro (And.intro rfl rfl) (trivial)) (bc (okeClue.cleanMap _) bn) (bc (okeClue.cleanMap _) bn) rfl rfl (.int _ _) (Qdp (n+0) a.Clues k (by omega))) (aO (tN (QE k a.Clues)) rfl (nt (sr (lf (T.os 1 1 0 ((a.Seals.map (Qb true)).length)) rfl QaY rfl rfl Qdi ?_)))))))))))
 refine mO (tN (QE k a.Clues)) rfl (cO (OC.viaN (k:=1) rfl (ZV (fun _=>rfl) _) (ZV (fun _=>rfl) _) (OC.callMut (rows:=(a.Seals.map (Qb true))) (rows':=((Js ZA 1 (QE k a.Clues) a.Seals.length).map (Qb true))) rfl (vc (tv (T.os 1 1 0 ((a.Seals.map (Qb true)).length)) rfl) (vc (tv (tN (QE k a.Clues)) rfl) vn)) rfl rfl (bc rfl bn) (ZV (fun _=>rfl) _) (ZV (fun _=>rfl) _) (Qa3 (n+2) a.Seals (QE k a.Clues) (by assumption)))) (aO (tN ((QE k a.Clues)+1*a.Seals.length)) rfl (nt (sr (mO (tN ((QE k a.Clues)+1*a.Seals.length)) rfl (aO (tN ((QE k a.Clues)+1*a.Seals.length)) rfl (nt (rt ?_))))))))
 have hnew0:Yi k a.Clues=Yi k a.Clues:=by
  rfl
 have hnew1:Js ZA 1 (QE k a.Clues) a.Seals.length=Js ZA 1 (QE k a.Clues) a.Seals.length:=by
  rfl
 exact vloanM.r (L1:= [(2,((Yi k a.Clues).map (Qe true))),(1,((Js ZA 1 (QE k a.Clues) a.Seals.length).map (Qb true)))]) (fun k=>k) (VRes.tmp (t:=(tN ((QE k a.Clues)+1*a.Seals.length))) rfl VRes.nil) (congrArg (T.int .i64) (show (((QE k a.Clues)+1*a.Seals.length:Nat):Int)=((QE k a.Clues+1*a.Seals.length:Nat):Int) by rfl)) (bc rfl bn) (And.intro rfl (And.intro rfl (trivial))) (by rw [hnew0,hnew1])
theorem QdQ (n:Nat) (a:D.Issue) (k:Nat) (hk:QE k a.Puzzle.Clues+1*a.Puzzle.Seals.length≤YN):LoanM (Qr Tryz.prog (n+5)) 19 [(2,(a.Puzzle.Clues.map (Qe true))),(1,(a.Puzzle.Seals.map (Qb true)))] [(T.agg [(tI a.Number),(tI a.Puzzle.Grid.Rows),(tI a.Puzzle.Grid.Cols),(tS a.Puzzle.Grid.Cells),(T.os 2 0 0 ((a.Puzzle.Clues.map (Qe true)).length)),(T.os 1 1 0 ((a.Puzzle.Seals.map (Qb true)).length)),(tI a.Puzzle.Salt),(tS a.Fill),(tI a.Open),(tI a.Close)]),(tN k)] (tN (QE k a.Puzzle.Clues+1*a.Puzzle.Seals.length)) [(2,((Yi k a.Puzzle.Clues).map (Qe true))),(1,((Js ZA 1 (QE k a.Puzzle.Clues) a.Puzzle.Seals.length).map (Qb true)))]:=by
 refine LoanM.intro (rs:= [ResultVar.tmp 4]) [(0,(T.agg [(tI a.Number),(tI a.Puzzle.Grid.Rows),(tI a.Puzzle.Grid.Cols),(tS a.Puzzle.Grid.Cells),(T.os 2 0 0 ((a.Puzzle.Clues.map (Qe true)).length)),(T.os 1 1 0 ((a.Puzzle.Seals.map (Qb true)).length)),(tI a.Puzzle.Salt),(tS a.Fill),(tI a.Open),(tI a.Close)]))] Tryz.func19 rfl rfl rfl rfl (bc ⟨by kernel_rfl,rfl⟩ bn) (PinsTo.at (And.intro (And.intro trivial ⟨_,(.head _),(.agg 4 rfl (.os _ _))⟩) ⟨_,(.head _),(.agg 5 rfl (.os _ _))⟩)) (.int _ _) (bc (okeClue.cleanMap _) (bc (okInt.cleanMap _) bn)) (E0:= [(0,(T.agg [(tI a.Number),(tI a.Puzzle.Grid.Rows),(tI a.Puzzle.Grid.Cols),(tS a.Puzzle.Grid.Cells),(T.os 2 0 0 ((a.Puzzle.Clues.map (Qe true)).length)),(T.os 1 1 0 ((a.Puzzle.Seals.map (Qb true)).length)),(tI a.Puzzle.Salt),(tS a.Fill),(tI a.Open),(tI a.Close)])),(1,(tN k))]) rfl (fun asg=> ?_)
 obtain ⟨hlim,hmx,hmax⟩:=QG
 show VRun _ _ _ [(0,(T.agg [(tI a.Number),(tI a.Puzzle.Grid.Rows),(tI a.Puzzle.Grid.Cols),(tS a.Puzzle.Grid.Cells),(T.os 2 0 0 ((a.Puzzle.Clues.map (Qe true)).length)),(T.os 1 1 0 ((a.Puzzle.Seals.map (Qb true)).length)),(tI a.Puzzle.Salt),(tS a.Fill),(tI a.Open),(tI a.Close)])),(1,(tN k))] (QX [(0,(Obj.rowsN 2 (a.Puzzle.Clues.map (Qe true)) (asg 0))),(1,(Obj.rowsN 1 (a.Puzzle.Seals.map (Qb true)) (asg 1)))]) 2 _
 refine sr (kO (B.box (ts:= [(tI a.Number),(tI a.Puzzle.Grid.Rows),(tI a.Puzzle.Grid.Cols),(tS a.Puzzle.Grid.Cells),(T.os 2 0 0 ((a.Puzzle.Clues.map (Qe true)).length)),(T.os 1 1 0 ((a.Puzzle.Seals.map (Qb true)).length)),(tI a.Puzzle.Salt),(tS a.Fill),(tI a.Open),(tI a.Close)]) (tv (T.agg [(tI a.Number),(tI a.Puzzle.Grid.Rows),(tI a.Puzzle.Grid.Cols),(tS a.Puzzle.Grid.Cells),(T.os 2 0 0 ((a.Puzzle.Clues.map (Qe true)).length)),(T.os 1 1 0 ((a.Puzzle.Seals.map (Qb true)).length)),(tI a.Puzzle.Salt),(tS a.Fill),(tI a.Open),(tI a.Close)]) rfl) nofun rfl) (fO (OF.assign (VEv.int .i64 0)) (nt (sr (fO (OF.fieldAddrO (tv (T.op 2 0) rfl) Qbh) (lO (OL.loadOn (us:= [(tI a.Puzzle.Grid.Rows),(tI a.Puzzle.Grid.Cols),(tS a.Puzzle.Grid.Cells),(T.os 2 0 0 ((a.Puzzle.Clues.map (Qe true)).length)),(T.os 1 1 0 ((a.Puzzle.Seals.map (Qb true)).length)),(tI a.Puzzle.Salt)]) (tv (T.op 2 1) rfl) rfl QgQ Qeg (lb rfl) rfl) (mO (tN k) rfl (cO (OC.callL (ts:= [(T.agg [(tI a.Puzzle.Grid.Rows),(tI a.Puzzle.Grid.Cols),(tS a.Puzzle.Grid.Cells),(T.os 2 0 0 ((a.Puzzle.Clues.map (Qe true)).length)),(T.os 1 1 0 ((a.Puzzle.Seals.map (Qb true)).length)),(tI a.Puzzle.Salt)]),(tN k)]) [0,1] (r:=(tN (QE k a.Puzzle.Clues+1*a.Puzzle.Seals.length))) (L:= [(2,(a.Puzzle.Clues.map (Qe true))),(1,(a.Puzzle.Seals.map (Qb true)))]) [(2,((Yi k a.Puzzle.Clues).map (Qe true))),(1,((Js ZA 1 (QE k a.Puzzle.Clues) a.Puzzle.Seals.length).map (Qb true)))] [(Obj.rowsN 2 (a.Puzzle.Clues.map (Qe true)) (asg 0)),(Obj.rowsN 1 (a.Puzzle.Seals.map (Qb true)) (asg 1))] rfl (vc (tv (T.agg [(tI a.Puzzle.Grid.Rows),(tI a.Puzzle.Grid.Cols),(tS a.Puzzle.Grid.Cells),(T.os 2 0 0 ((a.Puzzle.Clues.map (Qe true)).length)),(T.os 1 1 0 ((a.Puzzle.Seals.map (Qb true)).length)),(tI a.Puzzle.Salt)]) rfl) (vc (tv (tN k) rfl) vn)) (by decide) rfl (And.intro (And.intro rfl rfl) (And.intro (And.intro rfl rfl) (trivial))) (bc (okeClue.cleanMap _) (bc (okInt.cleanMap _) bn)) (bc (okeClue.cleanMap _) (bc (okInt.cleanMap _) bn)) rfl rfl (.int _ _) (Qc7 (n+0) a.Puzzle k (by assumption))) (aO (tN (QE k a.Puzzle.Clues+1*a.Puzzle.Seals.length)) rfl (nt (sr ?_)))))))))))
 refine mO (tN (QE k a.Puzzle.Clues+1*a.Puzzle.Seals.length)) rfl (aO (tN (QE k a.Puzzle.Clues+1*a.Puzzle.Seals.length)) rfl (nt (rt ?_)))
 have hnew0:Yi k a.Puzzle.Clues=Yi k a.Puzzle.Clues:=by
  rfl
 have hnew1:Js ZA 1 (QE k a.Puzzle.Clues) a.Puzzle.Seals.length=Js ZA 1 (QE k a.Puzzle.Clues) a.Puzzle.Seals.length:=by
  rfl
 exact vloanM.r (L1:= [(2,((Yi k a.Puzzle.Clues).map (Qe true))),(1,((Js ZA 1 (QE k a.Puzzle.Clues) a.Puzzle.Seals.length).map (Qb true)))]) (fun k=>k) (VRes.tmp (t:=(tN (QE k a.Puzzle.Clues+1*a.Puzzle.Seals.length))) rfl VRes.nil) rfl (bc rfl bn) (And.intro rfl (And.intro rfl (trivial))) (by rw [hnew0,hnew1])
end Go.Proofs.YtcccmceoplcciaaGreat.AE
namespace Go.Proofs.YtcccmceoplcciaaGreat.AE
open Go Go.RowKit
set_option linter.unusedVariables false
set_option linter.unusedSimpArgs false
set_option maxRecDepth 20000
set_option maxHeartbeats 2000000
theorem JA (n:Nat) (a0:D.Issue) (a1:List D.Correction) (a2:Int) (g0:QiS a0) (g1:(a1.length≤maxLen∧∀y∈a1,Qal y)) (g2:(Lit.int .i64 a2).wf=true):Pure (Qr Tryz.prog (n+47)) 3 [(T.agg (Qw false a0)),(rd 5 Qa a1),(tI a2)] (tB true):=by
 refine Pure.intro (rs:= [ResultVar.tmp 6]) Tryz.func3 rfl rfl rfl (E0:= [(0,(T.agg (Qw false a0))),(1,(rd 5 Qa a1)),(2,(tI a2))]) rfl ?_
 obtain ⟨hlim,hmx,hmax⟩:=QG
 have hl0_0:=Q7 (z:=QK) a0.Puzzle.Clues
 have hl0_1:=Q7 (z:=zI) a0.Puzzle.Seals
 have hl1:=Q7 (z:=Qq) a1
 have hx:=Qf6 a0 a1 a2
 have hm0:=QiQ 1 a0.Puzzle.Clues
 have hm1:=Qix (QE 1 a0.Puzzle.Clues+1*a0.Puzzle.Seals.length) a1
 have hd0:zL QK a0.Puzzle.Clues+zL zI a0.Puzzle.Seals≤Zg a0:=by simp only [Zg,QM];omega
 refine sr (kO (B.box (ts:=(Qw false a0)) (tv (T.agg (Qw false a0)) rfl) nofun rfl) (fO (OF.assign (VEv.bool false)) (nt (sr (fO (OF.assign (VEv.int .i64 1048576)) (nt (sr (lO (OL.loadOn (us:=(Qw false a0)) (tv (T.op 0 0) rfl) rfl Qla Qln (lb rfl) rfl) (mO (tN 1048576) rfl (cO (cS (vc (tv (T.agg (Qw false a0)) rfl) (vc (tv (tN 1048576) rfl) vn)) (LendL.cons (lg Jt) (lp rfl ln)) (QeQ (n+40) a0 1048576 (by omega) (by omega) (by assumption)) rfl rfl) (aO (tI (Zo (Zg a0) 1048576)) rfl ?_)))))))))))
 refine nt (sq (sr (mO (tI (Zo (Zg a0) 1048576)) rfl (fO (xls (tv (tI (Zo (Zg a0) 1048576)) rfl) (VEv.int .i64 0)) (nt ?_)))))
 refine cd (Zo (Zg a0) 1048576<0) rfl (fun fhc0=> ?_) fun fhc0=> ?_
 ·refine sr ?_
  refine fO (OF.assign (VEv.bool true)) (nt (rt (tr ?_)))
  exact vb rfl rfl
 have hz0:=JG fhc0
 refine sk (tn (sr (mO (rd 5 Qa a1) rfl (mO (tI (Zo (Zg a0) 1048576)) rfl (cO (cS (vc (tv (rd 5 Qa a1) rfl) (vc (tv (tI (Zo (Zg a0) 1048576)) rfl) vn)) (ZX rfl) (Qbp (n+41) a1 (Zo (Zg a0) 1048576) (by omega) (by omega) (by assumption)) rfl rfl) (aO (tI (Zo (zL Qq a1) (Zo (Zg a0) 1048576))) rfl (nt (sq (sr (mO (tI (Zo (zL Qq a1) (Zo (Zg a0) 1048576))) rfl (fO (xls (tv (tI (Zo (zL Qq a1) (Zo (Zg a0) 1048576))) rfl) (VEv.int .i64 0)) ?_)))))))))))
 refine nt ?_
 refine cd (Zo (zL Qq a1) (Zo (Zg a0) 1048576)<0) rfl (fun fhc1=> ?_) fun fhc1=> ?_
 ·refine sr ?_
  refine fO (OF.assign (VEv.bool true)) (nt (rt (tr ?_)))
  exact vb rfl rfl
 have hz1:=JG fhc1
 refine sk (tn (sr (lO (OL.loadOn (us:=(Qw false a0)) (tv (T.op 0 0) rfl) rfl Qla Qln (lb rfl) rfl) (cO (OC.callF (us:= [(T.agg (Qw false a0))]) (r:=(T.agg (Qw true a0))) (r':=(T.agg [(tI a0.Number),(tI a0.Puzzle.Grid.Rows),(tI a0.Puzzle.Grid.Cols),(tS a0.Puzzle.Grid.Cells),(T.os 2 1 0 ((a0.Puzzle.Clues.map (Qe true)).length)),(T.os 1 2 0 ((a0.Puzzle.Seals.map (Qb true)).length)),(tI a0.Puzzle.Salt),(tS a0.Fill),(tI a0.Open),(tI a0.Close)])) (objs:= [(Obj.rows 2 (a0.Puzzle.Clues.map (Qe true))),(Obj.rows 1 (a0.Puzzle.Seals.map (Qb true)))]) rfl (vc (tv (T.agg (Qw false a0)) rfl) vn) (LendL.cons (lg Jt) ln) (Y7 (n+40) a0 (by omega)) rfl) (mO (rd 5 Qa a1) rfl (cO (OC.callF (us:= [(rd 5 Qa a1)]) (r:=(T.sl true 5 (a1.map (Qa true)))) (r':=(T.os 5 3 0 ((a1.map (Qa true)).length))) (objs:= [(Obj.rows 5 (a1.map (Qa true)))]) rfl (vc (tv (rd 5 Qa a1) rfl) vn) (ZX rfl) (Z2 (n+41) a1 (by omega)) rfl) (mO (tI a2) rfl (cO (OC.callF (us:= [(T.agg (Qw false a0)),(rd 5 Qa a1),(tI a2)]) (r:=(T.sl true 1 ((Ql a0 a1 a2).map (Qb true)))) (r':=(T.os 1 4 0 (((Ql a0 a1 a2).map (Qb true)).length))) (objs:= [(Obj.rows 1 ((Ql a0 a1 a2).map (Qb true)))]) rfl (vc (tv (T.agg [(tI a0.Number),(tI a0.Puzzle.Grid.Rows),(tI a0.Puzzle.Grid.Cols),(tS a0.Puzzle.Grid.Cells),(T.os 2 1 0 ((a0.Puzzle.Clues.map (Qe true)).length)),(T.os 1 2 0 ((a0.Puzzle.Seals.map (Qb true)).length)),(tI a0.Puzzle.Salt),(tS a0.Fill),(tI a0.Open),(tI a0.Close)]) rfl) (vc (tv (T.os 5 3 0 ((a1.map (Qa true)).length)) rfl) (vc (tv (tI a2) rfl) vn))) (LendL.cons (Lend.agg (LendL.cons (Lend.pl rfl) (LendL.cons (Lend.pl rfl) (LendL.cons (Lend.pl rfl) (LendL.cons (Lend.pl rfl) (LendL.cons (Lend.os rfl rfl (okeClue.fzMap _ _)) (LendL.cons (Lend.os rfl rfl (okInt.fzMap _ _)) (LendL.cons (Lend.pl rfl) (LendL.cons (Lend.pl rfl) (LendL.cons (Lend.pl rfl) (LendL.cons (Lend.pl rfl) ln))))))))))) (LendL.cons (Lend.os rfl rfl (okeCorrection.fzMap _ _)) (lp rfl ln))) (Qa9 (n+33) a0 a1 a2 (by omega) (by omega)) rfl) (aO (T.os 1 4 0 (((Ql a0 a1 a2).map (Qb true)).length)) rfl (nt (sr ?_)))))))))))
 refine lO (OL.loadOn (us:=(Qw false a0)) (tv (T.op 0 0) rfl) rfl Qla Qln (lb rfl) rfl) (cO (OC.callF (us:= [(T.agg (Qw false a0))]) (r:=(T.agg (Qw true a0))) (r':=(T.agg [(tI a0.Number),(tI a0.Puzzle.Grid.Rows),(tI a0.Puzzle.Grid.Cols),(tS a0.Puzzle.Grid.Cells),(T.os 2 5 0 ((a0.Puzzle.Clues.map (Qe true)).length)),(T.os 1 6 0 ((a0.Puzzle.Seals.map (Qb true)).length)),(tI a0.Puzzle.Salt),(tS a0.Fill),(tI a0.Open),(tI a0.Close)])) (objs:= [(Obj.rows 2 (a0.Puzzle.Clues.map (Qe true))),(Obj.rows 1 (a0.Puzzle.Seals.map (Qb true)))]) rfl (vc (tv (T.agg (Qw false a0)) rfl) vn) (LendL.cons (lg Jt) ln) (Y7 (n+40) a0 (by omega)) rfl) (kO (B.alloc (t:=(T.agg [(tN 0),(tN 0),(tN 0),(tS ByteArray.empty),T.nils,T.nils,(tN 0),(tS ByteArray.empty),(tN 0),(tN 0)])) (ts:= [(tN 0),(tN 0),(tN 0),(tS ByteArray.empty),T.nils,T.nils,(tN 0),(tS ByteArray.empty),(tN 0),(tN 0)]) QmP Qm6 nofun (fun _=> .agg _ _ rfl (Y9 (RL.cons (.int _ _) (RL.cons (.int _ _) (RL.cons (.int _ _) (RL.cons (.str _) (RL.cons (.nils) (RL.cons (.nils) (RL.cons (.int _ _) (RL.cons (.str _) (RL.cons (.int _ _) (RL.cons (.int _ _) (RL.nil _))))))))))))) rfl) (cO (B.storeO (us:= [(tI a0.Number),(tI a0.Puzzle.Grid.Rows),(tI a0.Puzzle.Grid.Cols),(tS a0.Puzzle.Grid.Cells),(T.os 2 5 0 ((a0.Puzzle.Clues.map (Qe true)).length)),(T.os 1 6 0 ((a0.Puzzle.Seals.map (Qb true)).length)),(tI a0.Puzzle.Salt),(tS a0.Fill),(tI a0.Open),(tI a0.Close)]) (ws:= [(tI a0.Number),(tI a0.Puzzle.Grid.Rows),(tI a0.Puzzle.Grid.Cols),(tS a0.Puzzle.Grid.Cells),(T.os 2 5 0 ((a0.Puzzle.Clues.map (Qe true)).length)),(T.os 1 6 0 ((a0.Puzzle.Seals.map (Qb true)).length)),(tI a0.Puzzle.Salt),(tS a0.Fill),(tI a0.Open),(tI a0.Close)]) (tv (T.op 7 0) rfl) (tv (T.agg [(tI a0.Number),(tI a0.Puzzle.Grid.Rows),(tI a0.Puzzle.Grid.Cols),(tS a0.Puzzle.Grid.Cells),(T.os 2 5 0 ((a0.Puzzle.Clues.map (Qe true)).length)),(T.os 1 6 0 ((a0.Puzzle.Seals.map (Qb true)).length)),(tI a0.Puzzle.Salt),(tS a0.Fill),(tI a0.Open),(tI a0.Close)]) rfl) nofun rfl rfl (lb rfl) QnL Qf5 (bc rfl (bc rfl (bc rfl (bc rfl (bc rfl (bc rfl (bc rfl (bc rfl (bc rfl (bc rfl bn)))))))))) rfl) (nt (sr (mO (rd 5 Qa a1) rfl (cO (OC.callF (us:= [(rd 5 Qa a1)]) (r:=(T.sl true 5 (a1.map (Qa true)))) (r':=(T.os 5 8 0 ((a1.map (Qa true)).length))) (objs:= [(Obj.rows 5 (a1.map (Qa true)))]) rfl (vc (tv (rd 5 Qa a1) rfl) vn) (ZX rfl) (Z2 (n+41) a1 (by omega)) rfl) (aO (T.os 5 8 0 ((a1.map (Qa true)).length)) rfl (nt (sr (lO (OL.loadOn (us:= [(tI a0.Number),(tI a0.Puzzle.Grid.Rows),(tI a0.Puzzle.Grid.Cols),(tS a0.Puzzle.Grid.Cells),(T.os 2 5 0 ((a0.Puzzle.Clues.map (Qe true)).length)),(T.os 1 6 0 ((a0.Puzzle.Seals.map (Qb true)).length)),(tI a0.Puzzle.Salt),(tS a0.Fill),(tI a0.Open),(tI a0.Close)]) (tv (T.op 7 0) rfl) rfl QhP Qf5 (lb rfl) rfl) ?_)))))))))))
 refine mO (T.os 5 8 0 ((a1.map (Qa true)).length)) rfl (mO (tI a2) rfl (cO (OC.callF (us:= [(T.agg (Qw false a0)),(rd 5 Qa a1),(tI a2)]) (r:=(T.sl true 1 ((Ql a0 a1 a2).map (Qb true)))) (r':=(T.os 1 9 0 (((Ql a0 a1 a2).map (Qb true)).length))) (objs:= [(Obj.rows 1 ((Ql a0 a1 a2).map (Qb true)))]) rfl (vc (tv (T.agg [(tI a0.Number),(tI a0.Puzzle.Grid.Rows),(tI a0.Puzzle.Grid.Cols),(tS a0.Puzzle.Grid.Cells),(T.os 2 5 0 ((a0.Puzzle.Clues.map (Qe true)).length)),(T.os 1 6 0 ((a0.Puzzle.Seals.map (Qb true)).length)),(tI a0.Puzzle.Salt),(tS a0.Fill),(tI a0.Open),(tI a0.Close)]) rfl) (vc (tv (T.os 5 8 0 ((a1.map (Qa true)).length)) rfl) (vc (tv (tI a2) rfl) vn))) (LendL.cons (Lend.agg (LendL.cons (Lend.pl rfl) (LendL.cons (Lend.pl rfl) (LendL.cons (Lend.pl rfl) (LendL.cons (Lend.pl rfl) (LendL.cons (Lend.os rfl rfl (okeClue.fzMap _ _)) (LendL.cons (Lend.os rfl rfl (okInt.fzMap _ _)) (LendL.cons (Lend.pl rfl) (LendL.cons (Lend.pl rfl) (LendL.cons (Lend.pl rfl) (LendL.cons (Lend.pl rfl) ln))))))))))) (LendL.cons (Lend.os rfl rfl (okeCorrection.fzMap _ _)) (lp rfl ln))) (Jf (n+0) a0 a1 a2 (by omega) (by omega)) rfl) (aO (T.os 1 9 0 (((Ql a0 a1 a2).map (Qb true)).length)) rfl (nt (sq (sr (mO (T.os 1 9 0 (((Ql a0 a1 a2).map (Qb true)).length)) rfl (mO (T.os 1 4 0 (((Ql a0 a1 a2).map (Qb true)).length)) rfl (cO (cS (us:= [(rd 1 Qb (Ql a0 a1 a2)),(rd 1 Qb (Ql a0 a1 a2))]) (vc (tv (T.os 1 9 0 (((Ql a0 a1 a2).map (Qb true)).length)) rfl) (vc (tv (T.os 1 4 0 (((Ql a0 a1 a2).map (Qb true)).length)) rfl) vn)) (LendL.cons (Lend.os rfl rfl (okInt.fzMap _ _)) (LendL.cons (Lend.os rfl rfl (okInt.fzMap _ _)) ln)) (Jq (n+45) (Ql a0 a1 a2) (Ql a0 a1 a2) (by omega) (by omega)) rfl rfl) (fO (QZ (tv (tB (decide ((Ql a0 a1 a2)=(Ql a0 a1 a2)))) rfl)) (nt ?_)))))))))))
 refine cn ((Ql a0 a1 a2)=(Ql a0 a1 a2)) rfl (fun fhc2=> ?_) fun fhc2=> ?_
 ·refine sr ?_
  refine fO (OF.assign (VEv.bool false)) (nt (rt (tr (vb (b':=false) rfl ?_))))
  (exfalso;simp only [Zz,ZC,not_true_eq_false] at *;done)
 skip
 refine sk (tn (sq (sq (VRun.draw (B:= [[],[],[1],[1,2,0],[0,2,1,3]]) (by kernel_rfl) (by kernel_rfl) (lD (OL.loadOn (us:= [(tI a0.Number),(tI a0.Puzzle.Grid.Rows),(tI a0.Puzzle.Grid.Cols),(tS a0.Puzzle.Grid.Cells),(T.os 2 5 0 ((a0.Puzzle.Clues.map (Qe true)).length)),(T.os 1 6 0 ((a0.Puzzle.Seals.map (Qb true)).length)),(tI a0.Puzzle.Salt),(tS a0.Fill),(tI a0.Open),(tI a0.Close)]) (tv (T.op 7 0) rfl) rfl QhP Qf5 (lb rfl) rfl) rfl rfl (lD (OL.loadOn (us:=(Qw false a0)) (tv (T.op 0 0) rfl) rfl Qla Qln (lb rfl) rfl) rfl rfl (VRunD.quiet (bi:= [1]) rfl VWant.always rfl rfl rfl bn (OC.callF (us:= [(T.agg (Qw false a0))]) (r:=(T.agg (Qw true a0))) (r':=(T.agg [(tI a0.Number),(tI a0.Puzzle.Grid.Rows),(tI a0.Puzzle.Grid.Cols),(tS a0.Puzzle.Grid.Cells),(T.os 2 10 0 ((a0.Puzzle.Clues.map (Qe true)).length)),(T.os 1 11 0 ((a0.Puzzle.Seals.map (Qb true)).length)),(tI a0.Puzzle.Salt),(tS a0.Fill),(tI a0.Open),(tI a0.Close)])) (objs:= [(Obj.rows 2 (a0.Puzzle.Clues.map (Qe true))),(Obj.rows 1 (a0.Puzzle.Seals.map (Qb true)))]) rfl (vc (tv (T.agg (Qw false a0)) rfl) vn) (LendL.cons (lg Jt) ln) (Y7 (n+40) a0 (by omega)) rfl) (VRunD.quiet (bi:= [1,2,0]) rfl VWant.always rfl rfl rfl bn (cS (us:= [(T.agg (Qw false a0)),(T.agg (Qw false a0))]) (vc (tv (T.agg [(tI a0.Number),(tI a0.Puzzle.Grid.Rows),(tI a0.Puzzle.Grid.Cols),(tS a0.Puzzle.Grid.Cells),(T.os 2 5 0 ((a0.Puzzle.Clues.map (Qe true)).length)),(T.os 1 6 0 ((a0.Puzzle.Seals.map (Qb true)).length)),(tI a0.Puzzle.Salt),(tS a0.Fill),(tI a0.Open),(tI a0.Close)]) rfl) (vc (tv (T.agg [(tI a0.Number),(tI a0.Puzzle.Grid.Rows),(tI a0.Puzzle.Grid.Cols),(tS a0.Puzzle.Grid.Cells),(T.os 2 10 0 ((a0.Puzzle.Clues.map (Qe true)).length)),(T.os 1 11 0 ((a0.Puzzle.Seals.map (Qb true)).length)),(tI a0.Puzzle.Salt),(tS a0.Fill),(tI a0.Open),(tI a0.Close)]) rfl) vn)) (LendL.cons (Lend.agg (LendL.cons (Lend.pl rfl) (LendL.cons (Lend.pl rfl) (LendL.cons (Lend.pl rfl) (LendL.cons (Lend.pl rfl) (LendL.cons (Lend.os rfl rfl (okeClue.fzMap _ _)) (LendL.cons (Lend.os rfl rfl (okInt.fzMap _ _)) (LendL.cons (Lend.pl rfl) (LendL.cons (Lend.pl rfl) (LendL.cons (Lend.pl rfl) (LendL.cons (Lend.pl rfl) ln))))))))))) (LendL.cons (Lend.agg (LendL.cons (Lend.pl rfl) (LendL.cons (Lend.pl rfl) (LendL.cons (Lend.pl rfl) (LendL.cons (Lend.pl rfl) (LendL.cons (Lend.os rfl rfl (okeClue.fzMap _ _)) (LendL.cons (Lend.os rfl rfl (okInt.fzMap _ _)) (LendL.cons (Lend.pl rfl) (LendL.cons (Lend.pl rfl) (LendL.cons (Lend.pl rfl) (LendL.cons (Lend.pl rfl) ln))))))))))) ln)) (Qfx (n+40) a0 a0 (by omega) (by omega)) rfl rfl) (fD (QZ (tv (tB (decide (a0=a0))) rfl)) rfl rfl (VRunD.nil (tn ?_)))))))))))
 refine cn (a0=a0) rfl (fun fhc3=> ?_) fun fhc3=> ?_
 ·refine sr ?_
  refine fO (OF.assign (VEv.bool false)) (nt (rt (tr (vb (b':=false) rfl ?_))))
  (exfalso;simp only [Zz,ZC,not_true_eq_false] at *;done)
 skip
 refine sk (tn (sq (sr (mO (T.os 5 8 0 ((a1.map (Qa true)).length)) rfl (mO (rd 5 Qa a1) rfl (cO (OC.callF (us:= [(rd 5 Qa a1)]) (r:=(T.sl true 5 (a1.map (Qa true)))) (r':=(T.os 5 12 0 ((a1.map (Qa true)).length))) (objs:= [(Obj.rows 5 (a1.map (Qa true)))]) rfl (vc (tv (rd 5 Qa a1) rfl) vn) (ZX rfl) (Z2 (n+41) a1 (by omega)) rfl) (cO (cS (us:= [(rd 5 Qa a1),(rd 5 Qa a1)]) (vc (tv (T.os 5 8 0 ((a1.map (Qa true)).length)) rfl) (vc (tv (T.os 5 12 0 ((a1.map (Qa true)).length)) rfl) vn)) (LendL.cons (Lend.os rfl rfl (okeCorrection.fzMap _ _)) (LendL.cons (Lend.os rfl rfl (okeCorrection.fzMap _ _)) ln)) (Qbk (n+41) a1 a1 (by omega) (by omega)) rfl rfl) (fO (QZ (tv (tB (decide (a1=a1))) rfl)) (nt ?_)))))))))
 refine cn (a1=a1) rfl (fun fhc4=> ?_) fun fhc4=> ?_
 ·refine sr ?_
  refine fO (OF.assign (VEv.bool false)) (nt (rt (tr (vb (b':=false) rfl ?_))))
  (exfalso;simp only [Zz,ZC,not_true_eq_false] at *;done)
 skip
 refine sk (tn (sr (fO (OF.assign (VEv.int .i64 1)) (nt (sr (lO (OL.loadOn (us:= [(tI a0.Number),(tI a0.Puzzle.Grid.Rows),(tI a0.Puzzle.Grid.Cols),(tS a0.Puzzle.Grid.Cells),(T.os 2 5 0 ((a0.Puzzle.Clues.map (Qe true)).length)),(T.os 1 6 0 ((a0.Puzzle.Seals.map (Qb true)).length)),(tI a0.Puzzle.Salt),(tS a0.Fill),(tI a0.Open),(tI a0.Close)]) (tv (T.op 7 0) rfl) rfl QhP Qf5 (lb rfl) rfl) (mO (tN 1) rfl (cO (OC.callL (ts:= [(T.agg [(tI a0.Number),(tI a0.Puzzle.Grid.Rows),(tI a0.Puzzle.Grid.Cols),(tS a0.Puzzle.Grid.Cells),(T.os 2 0 0 ((a0.Puzzle.Clues.map (Qe true)).length)),(T.os 1 1 0 ((a0.Puzzle.Seals.map (Qb true)).length)),(tI a0.Puzzle.Salt),(tS a0.Fill),(tI a0.Open),(tI a0.Close)]),(tN 1)]) [5,6] (r:=(tN (QE 1 a0.Puzzle.Clues+1*a0.Puzzle.Seals.length))) (L:= [(2,(a0.Puzzle.Clues.map (Qe true))),(1,(a0.Puzzle.Seals.map (Qb true)))]) [(2,((Yi 1 a0.Puzzle.Clues).map (Qe true))),(1,((Js ZA 1 (QE 1 a0.Puzzle.Clues) a0.Puzzle.Seals.length).map (Qb true)))] [(Obj.rows 2 (a0.Puzzle.Clues.map (Qe true))),(Obj.rows 1 (a0.Puzzle.Seals.map (Qb true)))] rfl (vc (tv (T.agg [(tI a0.Number),(tI a0.Puzzle.Grid.Rows),(tI a0.Puzzle.Grid.Cols),(tS a0.Puzzle.Grid.Cells),(T.os 2 5 0 ((a0.Puzzle.Clues.map (Qe true)).length)),(T.os 1 6 0 ((a0.Puzzle.Seals.map (Qb true)).length)),(tI a0.Puzzle.Salt),(tS a0.Fill),(tI a0.Open),(tI a0.Close)]) rfl) (vc (tv (tN 1) rfl) vn)) (by decide) rfl (And.intro (And.intro rfl rfl) (And.intro (And.intro rfl rfl) (trivial))) (bc (okeClue.cleanMap _) (bc (okInt.cleanMap _) bn)) (bc (okeClue.cleanMap _) (bc (okInt.cleanMap _) bn)) rfl rfl (.int _ _) (QdQ (n+41) a0 1 (by omega))) (aO (tN (QE 1 a0.Puzzle.Clues+1*a0.Puzzle.Seals.length)) rfl (nt (sr ?_)))))))))))
 refine mO (T.os 5 8 0 ((a1.map (Qa true)).length)) rfl (mO (tN (QE 1 a0.Puzzle.Clues+1*a0.Puzzle.Seals.length)) rfl (cO (OC.callL (ts:= [(T.os 5 0 0 ((a1.map (Qa true)).length)),(tN (QE 1 a0.Puzzle.Clues+1*a0.Puzzle.Seals.length))]) [8] (r:=(tN (Ys (QE 1 a0.Puzzle.Clues+1*a0.Puzzle.Seals.length) a1))) (L:= [(5,(a1.map (Qa true)))]) [(5,((Qda (QE 1 a0.Puzzle.Clues+1*a0.Puzzle.Seals.length) a1).map (Qa true)))] [(Obj.rows 5 (a1.map (Qa true)))] rfl (vc (tv (T.os 5 8 0 ((a1.map (Qa true)).length)) rfl) (vc (tv (tN (QE 1 a0.Puzzle.Clues+1*a0.Puzzle.Seals.length)) rfl) vn)) (by decide) rfl (And.intro (And.intro rfl rfl) (trivial)) (bc (okeCorrection.cleanMap _) bn) (bc (okeCorrection.cleanMap _) bn) rfl rfl (.int _ _) (QaV (n+43) a1 (QE 1 a0.Puzzle.Clues+1*a0.Puzzle.Seals.length) (by omega))) (aO (tN (Ys (QE 1 a0.Puzzle.Clues+1*a0.Puzzle.Seals.length) a1)) rfl (nt (sq (sr (mO (tN (Ys (QE 1 a0.Puzzle.Clues+1*a0.Puzzle.Seals.length) a1)) rfl (fO (B.lss (c:=(decide (Ys (QE 1 a0.Puzzle.Clues+1*a0.Puzzle.Seals.length) a1<0))) (tv (tN (Ys (QE 1 a0.Puzzle.Clues+1*a0.Puzzle.Seals.length) a1)) rfl) (VEv.int .i64 0) (by exact Q4 (by omega))) (mO (tB (decide (Ys (QE 1 a0.Puzzle.Clues+1*a0.Puzzle.Seals.length) a1<0))) rfl ?_)))))))))
 refine gw (Ys (QE 1 a0.Puzzle.Clues+1*a0.Puzzle.Seals.length) a1<0) (fun fhg62_1=> ?_) fun fhg62_1=> ?_
 ·refine QC 4 2 false 62 (dy fhg62_1) rfl rfl rfl ?_
  refine fO (OF.pickT (VEv.tmpB rfl (dy fhg62_1)) (VEv.bool true)) (nt (ct rfl (sr (fO (OF.assign (VEv.bool false)) (nt (rt (tr (vb (b':=false) rfl ?_))))))))
  (exfalso;simp only [Zz,ZC] at* <;>omega)
 refine gF (dz fhg62_1) rfl rfl (OF.move (tv (T.os 1 9 0 (((Ql a0 a1 a2).map (Qb true)).length)) rfl)) (gF (dz fhg62_1) rfl rfl (OF.move (tv (T.os 1 4 0 (((Ql a0 a1 a2).map (Qb true)).length)) rfl)) (VRunO.chain (VWant.on rfl rfl (dz fhg62_1)) (cS (us:= [(rd 1 Qb (Ql a0 a1 a2)),(rd 1 Qb (Ql a0 a1 a2))]) (vc (tv (T.os 1 9 0 (((Ql a0 a1 a2).map (Qb true)).length)) rfl) (vc (tv (T.os 1 4 0 (((Ql a0 a1 a2).map (Qb true)).length)) rfl) vn)) (LendL.cons (Lend.os rfl rfl (okInt.fzMap _ _)) (LendL.cons (Lend.os rfl rfl (okInt.fzMap _ _)) ln)) (Jq (n+45) (Ql a0 a1 a2) (Ql a0 a1 a2) (by omega) (by omega)) rfl rfl) (gF (dz fhg62_1) rfl rfl (QZ (tv (tB (decide ((Ql a0 a1 a2)=(Ql a0 a1 a2)))) rfl)) (fO (OF.pickF (VEv.tmpB rfl (dz fhg62_1)) (tv (tB (!(decide ((Ql a0 a1 a2)=(Ql a0 a1 a2))))) rfl)) (nt (cg (nz fhc2) rfl (sk (tn (sr (fO (OF.assign (VEv.int .i64 1)) (nt ?_)))))))))))
 refine sr (mO (T.os 1 9 0 (((Ql a0 a1 a2).map (Qb true)).length)) rfl (mO (tN 1) rfl (cO (OC.callMut (rows:=((Ql a0 a1 a2).map (Qb true))) (rows':=((Js ZA 1 1 (Ql a0 a1 a2).length).map (Qb true))) rfl (vc (tv (T.os 1 9 0 (((Ql a0 a1 a2).map (Qb true)).length)) rfl) (vc (tv (tN 1) rfl) vn)) rfl rfl (bc rfl bn) (ZV (fun _=>rfl) _) (ZV (fun _=>rfl) _) (Qa3 (n+45) (Ql a0 a1 a2) 1 (by omega))) (aO (tN (1+1*(Ql a0 a1 a2).length)) rfl (nt (sr (fO (OF.assign (VEv.int .i64 1)) (nt (sr (mO (T.os 1 9 0 (((Ql a0 a1 a2).map (Qb true)).length)) rfl (mO (tN 1) rfl ?_)))))))))))
 refine cO (cS (us:= [(rd 1 Qb (Js ZA 1 1 (Ql a0 a1 a2).length)),(tN 1)]) (vc (tv (T.os 1 9 0 (((Ql a0 a1 a2).map (Qb true)).length)) rfl) (vc (tv (tN 1) rfl) vn)) (LendL.cons (Lend.os rfl (by simp only [List.length_map,YP,List.length_set,QdX,Qd7]) (okInt.fzMap _ _)) (lp rfl ln)) (Qa4 (n+45) (Js ZA 1 1 (Ql a0 a1 a2).length) 1 (by (simp only [Zz,ZC,YP];done)) (by (simp only [Zz,ZC,YP];omega))) rfl rfl) (aO (tN (1+1*(Js ZA 1 1 (Ql a0 a1 a2).length).length)) rfl (nt (sq (sr (mO (tN (1+1*(Js ZA 1 1 (Ql a0 a1 a2).length).length)) rfl (fO (B.lss (c:=(decide (1+1*(Js ZA 1 1 (Ql a0 a1 a2).length).length<0))) (tv (tN (1+1*(Js ZA 1 1 (Ql a0 a1 a2).length).length)) rfl) (VEv.int .i64 0) (by exact Q4 (by omega))) (nt ?_)))))))
 refine cd (1+1*(Js ZA 1 1 (Ql a0 a1 a2).length).length<0) rfl (fun fhc6=> ?_) fun fhc6=> ?_
 ·refine sr ?_
  refine fO (OF.assign (VEv.bool false)) (nt (rt (tr (vb (b':=false) rfl ?_))))
  (exfalso;simp only [Zz,ZC] at* <;>omega)
 skip
 refine sk (tn (sq (sr (mO (tN (1+1*(Js ZA 1 1 (Ql a0 a1 a2).length).length)) rfl (mO (tN (1+1*(Ql a0 a1 a2).length)) rfl (fO (QhN (tv (tN (1+1*(Js ZA 1 1 (Ql a0 a1 a2).length).length)) rfl) (tv (tN (1+1*(Ql a0 a1 a2).length)) rfl)) (nt ?_)))))))
 refine cn (1+1*(Js ZA 1 1 (Ql a0 a1 a2).length).length=1+1*(Ql a0 a1 a2).length) rfl (fun fhc7=> ?_) fun fhc7=> ?_
 ·refine sr ?_
  refine fO (OF.assign (VEv.bool false)) (nt (rt (tr (vb (b':=false) rfl ?_))))
  (exfalso;simp only [Zz,ZC,YP,not_true_eq_false] at *;done)
 skip
 refine sk (tn (sr (lO (OL.loadOn (us:=(Qw false a0)) (tv (T.op 0 0) rfl) rfl Qla Qln (lb rfl) rfl) (cO (OC.callF (us:= [(T.agg (Qw false a0))]) (r:=(T.agg (Qw true a0))) (r':=(T.agg [(tI a0.Number),(tI a0.Puzzle.Grid.Rows),(tI a0.Puzzle.Grid.Cols),(tS a0.Puzzle.Grid.Cells),(T.os 2 13 0 ((a0.Puzzle.Clues.map (Qe true)).length)),(T.os 1 14 0 ((a0.Puzzle.Seals.map (Qb true)).length)),(tI a0.Puzzle.Salt),(tS a0.Fill),(tI a0.Open),(tI a0.Close)])) (objs:= [(Obj.rows 2 (a0.Puzzle.Clues.map (Qe true))),(Obj.rows 1 (a0.Puzzle.Seals.map (Qb true)))]) rfl (vc (tv (T.agg (Qw false a0)) rfl) vn) (LendL.cons (lg Jt) ln) (Y7 (n+40) a0 (by omega)) rfl) (mO (rd 5 Qa a1) rfl (cO (OC.callF (us:= [(rd 5 Qa a1)]) (r:=(T.sl true 5 (a1.map (Qa true)))) (r':=(T.os 5 15 0 ((a1.map (Qa true)).length))) (objs:= [(Obj.rows 5 (a1.map (Qa true)))]) rfl (vc (tv (rd 5 Qa a1) rfl) vn) (ZX rfl) (Z2 (n+41) a1 (by omega)) rfl) (mO (tI a2) rfl (cO (OC.callF (us:= [(T.agg (Qw false a0)),(rd 5 Qa a1),(tI a2)]) (r:=(T.sl true 1 ((Ql a0 a1 a2).map (Qb true)))) (r':=(T.os 1 16 0 (((Ql a0 a1 a2).map (Qb true)).length))) (objs:= [(Obj.rows 1 ((Ql a0 a1 a2).map (Qb true)))]) rfl (vc (tv (T.agg [(tI a0.Number),(tI a0.Puzzle.Grid.Rows),(tI a0.Puzzle.Grid.Cols),(tS a0.Puzzle.Grid.Cells),(T.os 2 13 0 ((a0.Puzzle.Clues.map (Qe true)).length)),(T.os 1 14 0 ((a0.Puzzle.Seals.map (Qb true)).length)),(tI a0.Puzzle.Salt),(tS a0.Fill),(tI a0.Open),(tI a0.Close)]) rfl) (vc (tv (T.os 5 15 0 ((a1.map (Qa true)).length)) rfl) (vc (tv (tI a2) rfl) vn))) (LendL.cons (Lend.agg (LendL.cons (Lend.pl rfl) (LendL.cons (Lend.pl rfl) (LendL.cons (Lend.pl rfl) (LendL.cons (Lend.pl rfl) (LendL.cons (Lend.os rfl rfl (okeClue.fzMap _ _)) (LendL.cons (Lend.os rfl rfl (okInt.fzMap _ _)) (LendL.cons (Lend.pl rfl) (LendL.cons (Lend.pl rfl) (LendL.cons (Lend.pl rfl) (LendL.cons (Lend.pl rfl) ln))))))))))) (LendL.cons (Lend.os rfl rfl (okeCorrection.fzMap _ _)) (lp rfl ln))) (Jf (n+0) a0 a1 a2 (by omega) (by omega)) rfl) (aO (T.os 1 16 0 (((Ql a0 a1 a2).map (Qb true)).length)) rfl (nt (sq ?_)))))))))))
 refine sr (mO (T.os 1 16 0 (((Ql a0 a1 a2).map (Qb true)).length)) rfl (mO (T.os 1 4 0 (((Ql a0 a1 a2).map (Qb true)).length)) rfl (cO (cS (us:= [(rd 1 Qb (Ql a0 a1 a2)),(rd 1 Qb (Ql a0 a1 a2))]) (vc (tv (T.os 1 16 0 (((Ql a0 a1 a2).map (Qb true)).length)) rfl) (vc (tv (T.os 1 4 0 (((Ql a0 a1 a2).map (Qb true)).length)) rfl) vn)) (LendL.cons (Lend.os rfl rfl (okInt.fzMap _ _)) (LendL.cons (Lend.os rfl rfl (okInt.fzMap _ _)) ln)) (Jq (n+45) (Ql a0 a1 a2) (Ql a0 a1 a2) (by omega) (by omega)) rfl rfl) (fO (QZ (tv (tB (decide ((Ql a0 a1 a2)=(Ql a0 a1 a2)))) rfl)) (nt (cg (nz fhc2) rfl (sk (tn (sr (fO (OF.assign (VEv.int .i64 1)) (nt ?_)))))))))))
 refine sr (mO (T.os 1 9 0 (((Ql a0 a1 a2).map (Qb true)).length)) rfl (mO (tN 1) rfl (cO (cS (us:= [(rd 1 Qb (Js ZA 1 1 (Ql a0 a1 a2).length)),(tN 1)]) (vc (tv (T.os 1 9 0 (((Ql a0 a1 a2).map (Qb true)).length)) rfl) (vc (tv (tN 1) rfl) vn)) (LendL.cons (Lend.os rfl (by simp only [List.length_map,YP,List.length_set,QdX,Qd7]) (okInt.fzMap _ _)) (lp rfl ln)) (Qa4 (n+45) (Js ZA 1 1 (Ql a0 a1 a2).length) 1 (by (simp only [Zz,ZC,YP];done)) (by (simp only [Zz,ZC,YP];omega))) rfl rfl) (aO (tN (1+1*(Js ZA 1 1 (Ql a0 a1 a2).length).length)) rfl (nt (sq (sr (mO (tN (1+1*(Js ZA 1 1 (Ql a0 a1 a2).length).length)) rfl (fO (B.lss (c:=(decide (1+1*(Js ZA 1 1 (Ql a0 a1 a2).length).length<0))) (tv (tN (1+1*(Js ZA 1 1 (Ql a0 a1 a2).length).length)) rfl) (VEv.int .i64 0) (by exact Q4 (by omega))) (nt (cg (dz fhc6) rfl ?_)))))))))))
 refine sk (tn (sq (sr (mO (tN (1+1*(Js ZA 1 1 (Ql a0 a1 a2).length).length)) rfl (mO (tN (1+1*(Ql a0 a1 a2).length)) rfl (fO (QhN (tv (tN (1+1*(Js ZA 1 1 (Ql a0 a1 a2).length).length)) rfl) (tv (tN (1+1*(Ql a0 a1 a2).length)) rfl)) (nt (cg (nz fhc7) rfl (sk (tn (sr ?_)))))))))))
 refine fO (OF.assign (VEv.bool true)) (nt (rt ?_))
 exact vb rfl rfl
end Go.Proofs.YtcccmceoplcciaaGreat.AE
namespace Go.Proofs.YtcccmceoplcciaaGreat.AE
open Go Go.RowKit
set_option linter.unusedVariables false
set_option linter.unusedSimpArgs false
theorem Qir (a:Option Addr) (n c:Nat):(Qej (.slice a n c)).cells.toList= [Qej (.slice a n c)]:=by cases a<;>rfl
theorem QlC {α:Type} {d:AK α} {e:Bool→α→List T} {x:α} {t:T} {h:AH} {v:Value} (hk:RK d e) (he:e false x= [t]) (hr:d.R h x [v]):R h t v:=by
 have h1:=hk h x _ hr
 rw [he] at h1
 exact h1.tail.1
theorem Qlg {α:Type} {d:AK α} {e:Bool→α→List T} {x:α} {t:T} {h:AH} {a:Option Addr} {n c:Nat} (hk:RK d e) (he:e false x= [t]) (hr:d.R h x (Qej (.slice a n c)).cells.toList):R h t (Qej (.slice a n c)):=by
 rw [Qir] at hr
 exact QlC hk he hr
theorem Qnd {α:Type} {d:AK α} {e:Bool→α→List T} {x:α} {h:AH} {cs:Array Value} (hk:RK d e) (hr:d.R h x (Qej (.agg cs)).cells.toList):R h (.agg (e false x)) (Qej (.agg cs)):=by
 have h1:=hk h x _ hr
 refine .agg _ _ (by simpa [Value.cells,Qej] using h1.1) (fun i hi=> ?_)
 have:=h1.2 i hi
 simpa [Value.cells,Qej,Array.getD_eq_getD_getElem?,List.getD_eq_getElem?_getD] using this
theorem Pure.bool {call:QR} {f:FuncId} {ts:List T} {b:Bool} (hp:Pure call f ts (.bool b)) {h:AH} {vs:List Value} (hfr:Fr 1 h) (hr:RL h ts vs):CallS call f vs h 1 (fun v _=>v= .bool b):=by
 refine (hp h 1 vs hfr hr).mono ?_
 rintro v h' ⟨_,N,hs,_⟩
 cases hs with
 | fz hr=>cases hr;rfl
end Go.Proofs.YtcccmceoplcciaaGreat.AE
namespace Go.Proofs.YtcccmceoplcciaaGreat.AE
open Go Go.RowKit Go.Shelf Go.Proofs
def Qg3 : Go.Shelf.Ren:=⟨fun | 189=>114 | 125=>144 | 257=>143 | 128=>174 | 129=>175 | 294=>165 | 295=>166 | 296=>167 | 297=>168 | 298=>169 | 299=>170 | 216=>171 | 300=>172 | 301=>173 | 328=>187 | 329=>188 | 330=>189 | 331=>190 | 332=>191 | 215=>192 | 343=>196 | n=>n,fun | 28=>25 | 3=>3 | 46=>148 | 0=>0 | 51=>170 | 53=>172 | 4=>4 | 183=>164 | 182=>163 | 131=>167 | 5=>5 | 9=>9 | 218=>179 | 222=>183 | 228=>186 | 229=>187 | n=>n,fun | n=>n⟩
theorem QhH : Go.Proofs.Lays.n189 Tryz.prog Qg3 where
 mixed:=by kernel_rfl
 f125:=Tryz.func144.trans (congrArg some (by kernel_rfl))
 f128:=Tryz.func174.trans (congrArg some (by kernel_rfl))
 f129:=Tryz.func175.trans (congrArg some (by kernel_rfl))
 f189:=Tryz.func114.trans (congrArg some (by kernel_rfl))
 f215:=Tryz.func192.trans (congrArg some (by kernel_rfl))
 f216:=Tryz.func171.trans (congrArg some (by kernel_rfl))
 f257:=Tryz.func143.trans (congrArg some (by kernel_rfl))
 f294:=Tryz.func165.trans (congrArg some (by kernel_rfl))
 f295:=Tryz.func166.trans (congrArg some (by kernel_rfl))
 f296:=Tryz.func167.trans (congrArg some (by kernel_rfl))
 f297:=Tryz.func168.trans (congrArg some (by kernel_rfl))
 f298:=Tryz.func169.trans (congrArg some (by kernel_rfl))
 f299:=Tryz.func170.trans (congrArg some (by kernel_rfl))
 f300:=Tryz.func172.trans (congrArg some (by kernel_rfl))
 f301:=Tryz.func173.trans (congrArg some (by kernel_rfl))
 f328:=Tryz.func187.trans (congrArg some (by kernel_rfl))
 f329:=Tryz.func188.trans (congrArg some (by kernel_rfl))
 f330:=Tryz.func189.trans (congrArg some (by kernel_rfl))
 f331:=Tryz.func190.trans (congrArg some (by kernel_rfl))
 f332:=Tryz.func191.trans (congrArg some (by kernel_rfl))
 f343:=Tryz.func196.trans (congrArg some (by kernel_rfl))
 t0:=Tryz.underlying0
 a0:=Tryz.isAgg0
 z0:=Tryz.sizeOf0
 v0:=Tryz.zeroValue0
 t3:=Tryz.underlying3
 a3:=Tryz.isAgg3
 z3:=Tryz.sizeOf3
 v3:=Tryz.zeroValue3
 t4:=Tryz.underlying4
 a4:=Tryz.isAgg4
 z4:=Tryz.sizeOf4
 v4:=Tryz.zeroValue4
 t5:=Tryz.underlying5
 a5:=Tryz.isAgg5
 z5:=Tryz.sizeOf5
 v5:=Tryz.zeroValue5
 t9:=Tryz.underlying9
 a9:=Tryz.isAgg9
 z9:=Tryz.sizeOf9
 v9:=Tryz.zeroValue9
 t28:=Tryz.underlying25
 a28:=Tryz.isAgg25
 z28:=Tryz.sizeOf25
 v28:=Tryz.zeroValue25
 t46:=Tryz.underlying148
 a46:=Tryz.isAgg148
 z46:=Tryz.sizeOf148
 v46:=Tryz.zeroValue148
 t51:=Tryz.underlying170
 a51:=Tryz.isAgg170
 z51:=Tryz.sizeOf170
 v51:=Tryz.zeroValue170
 t53:=Tryz.underlying172
 a53:=Tryz.isAgg172
 z53:=Tryz.sizeOf172
 v53:=Tryz.zeroValue172
 t131:=Tryz.underlying167
 a131:=Tryz.isAgg167
 z131:=Tryz.sizeOf167
 v131:=Tryz.zeroValue167
 t182:=Tryz.underlying163
 a182:=Tryz.isAgg163
 z182:=Tryz.sizeOf163
 v182:=Tryz.zeroValue163
 t183:=Tryz.underlying164
 a183:=Tryz.isAgg164
 z183:=Tryz.sizeOf164
 v183:=Tryz.zeroValue164
 t218:=Tryz.underlying179
 a218:=Tryz.isAgg179
 z218:=Tryz.sizeOf179
 v218:=Tryz.zeroValue179
 t222:=Tryz.underlying183
 a222:=Tryz.isAgg183
 z222:=Tryz.sizeOf183
 v222:=Tryz.zeroValue183
 t228:=Tryz.underlying186
 a228:=Tryz.isAgg186
 z228:=Tryz.sizeOf186
 v228:=Tryz.zeroValue186
 t229:=Tryz.underlying187
 a229:=Tryz.isAgg187
 z229:=Tryz.sizeOf187
 v229:=Tryz.zeroValue187
def Qg8 : Go.Shelf.Ren:=⟨fun | 20=>115 | n=>n,fun | 22=>25 | 3=>3 | 4=>4 | 0=>0 | n=>n,fun | n=>n⟩
theorem Qig : Go.Proofs.Lays2.n20 Tryz.prog Qg8 where
 mixed:=by kernel_rfl
 f20:=Tryz.func115.trans (congrArg some (by kernel_rfl))
 t0:=Tryz.underlying0
 a0:=Tryz.isAgg0
 z0:=Tryz.sizeOf0
 v0:=Tryz.zeroValue0
 t3:=Tryz.underlying3
 a3:=Tryz.isAgg3
 z3:=Tryz.sizeOf3
 v3:=Tryz.zeroValue3
 t4:=Tryz.underlying4
 a4:=Tryz.isAgg4
 z4:=Tryz.sizeOf4
 v4:=Tryz.zeroValue4
 t22:=Tryz.underlying25
 a22:=Tryz.isAgg25
 z22:=Tryz.sizeOf25
 v22:=Tryz.zeroValue25
 i3:=by kernel_rfl
theorem QmO : QiD Tryz.prog:=by
 intro f hf
 by_cases h1:f=114
 ·subst h1
  exact QhC ⟨fun p cap w=>Any.slices_Sort_int_none QhH p cap w,fun blk off cap zs w h1 h2 h3=>Any.slices_Sort_int QhH blk off cap zs w h1 h2 h3⟩
 ·by_cases h2:f=115
  ·subst h2
   exact Qhx ⟨fun a cap w=>Any.slices_Compact_int_empty Qig a cap w,fun blk off cap zs w h1 h2 h3=>Any.slices_Compact_int Qig blk off cap zs w h1 h2 h3⟩
  ·exfalso
   simp [Qby,h1,h2] at hf
end Go.Proofs.YtcccmceoplcciaaGreat.AE
