/- A part of what the row of FnExactCheckSlot uses. Conditions: as each theorem states. -/
import Derived.Test.YtcccmceoplcciaaGreatZFnExactCheckSlote
namespace Go.Proofs.YtcccmceoplcciaaGreat.AE
open Go Go.RowKit
set_option linter.unusedVariables false
set_option linter.unusedSimpArgs false
set_option maxRecDepth 20000
set_option maxHeartbeats 2000000
noncomputable section
theorem QaY (n:Int) {m:Int} (h:0<m): -m<n.tmod m∧n.tmod m<m:=⟨Int.lt_tmod_of_pos n h,Int.tmod_lt_of_pos n h⟩
def Ja (n m:Int):Int:=if 1≤m∧m≤1000000000000 then (n.tmod m+m).tmod m else 0
theorem Qgy (n:Int):0≤Ja n 2147483647∧Ja n 2147483647<2147483647:=by
 unfold Ja
 rw [if_pos (by omega)]
 have h1:=QaY n (m:=2147483647) (by decide)
 have h2:=QaY (n.tmod 2147483647+2147483647) (m:=2147483647) (by decide)
 exact ⟨Int.tmod_nonneg _ (by omega),h2.2⟩
def QcQ (d x:Int):Int:=(d*1000003+Ja x 2147483647+13).tmod 2147483647
def Q1 (l:List Int):Int:=l.foldl QcQ 11
theorem Qe6 {d x:Int} (h:0≤d∧d<2147483647):0≤QcQ d x∧QcQ d x<2147483647:=by
 have h1:=Qgy x
 unfold QcQ
 exact ⟨Int.tmod_nonneg _ (by omega),(QaY _ (by decide)).2⟩
theorem Qga : ∀(l:List Int) (d:Int),0≤d∧d<2147483647→0≤l.foldl QcQ d∧l.foldl QcQ d<2147483647
 | [],d,h=>h
 | x::r,d,h=>Qga r _ (Qe6 h)
theorem Qh4 (l:List Int):0≤Q1 l∧Q1 l<2147483647:=Qga l 11 (by decide)
theorem QeQ {l:List Int} {i:Nat} {x:Int} (h:l[i]? =some x):Q1 (l.take (i+1))=QcQ (Q1 (l.take i)) x:=by
 unfold Q1
 rw [List.take_add_one,h,Option.toList_some,List.foldl_append]
 rfl
theorem QkM (s:ByteArray) (i:Nat):0≤Qu s i∧Qu s i<256:=by
 unfold Qu
 split
 ·have:=(s[i]).toNat_lt
  omega
 ·decide
theorem Qm5 {s:ByteArray} {i:Nat} (h:i<s.size):(ZN s)[i]? =some (Qu s i):=by
 unfold ZN
 rw [List.getElem?_map,List.getElem?_eq_getElem (by rw [Array.length_toList];exact h),Option.map_some,← YN h]
 rfl
theorem Qhe {s:ByteArray} {i:Nat} (h:i<s.size):(ZN s).take i++ [Qu s i]=(ZN s).take (i+1):=by
 rw [List.take_add_one,Qm5 h];rfl
def Jz (salt slot:Int) (w:ByteArray):Int:=if Zl w then Q1 ([salt,slot,((w.size:Nat):Int)]++ZN w) else 0
def QeA (seals:List Int) (salt slot:Int) (w:ByteArray):Prop:=0≤slot∧Zl w∧seals[slot.toNat]? =some (Jz salt slot w)
instance (seals:List Int) (salt slot:Int) (w:ByteArray):Decidable (QeA seals salt slot w):=Classical.propDecidable _
theorem Qjh {seals:List Int} {salt slot x:Int} {w:ByteArray} (h0:0≤slot) (hw:Zl w) (hx:seals[slot.toNat]? =some x):Jz salt slot w=x↔QeA seals salt slot w:=by
 unfold QeA
 rw [hx]
 exact ⟨fun h=>⟨h0,hw,by rw [h]⟩,fun h=>(Option.some.inj h.2.2).symm⟩
theorem Qey {seals:List Int} {salt slot:Int} {w:ByteArray} (h:QeA seals salt slot w):slot<((seals.length:Nat):Int):=by
 have:=(List.getElem?_eq_some_iff.1 h.2.2).1
 omega
end
theorem QiE (n:Nat) (n0:Int) (m:Int):Pure (Qq Tryz.prog (n+2)) 193 [(tI n0),(tI m)] (tI (Ja n0 m)):=by
 refine Pure.intro (rs:= [ResultVar.tmp 4]) Tryz.func193 rfl rfl rfl (E0:= [(0,(tI n0)),(1,(tI m))]) rfl ?_
 obtain ⟨hlim,hmx,hmax⟩:=QC
 refine sr (fO (OF.assign (VEv.int .i64 0)) (nt (sq (sr (mO (tI m) rfl (cO (cS (vc (tv (tI m) rfl) (vc (VEv.int .i64 1) (vc (VEv.int .i64 1000000000000) vn))) (ZJ rfl) (QH (n+0) m 1 1000000000000) rfl rfl) (fO (QW (tv (tB (decide (1≤m∧m≤1000000000000))) rfl)) (nt ?_))))))))
 refine cn (1≤m∧m≤1000000000000) rfl (fun fhc0=> ?_) fun fhc0=> ?_
 ·refine sr ?_
  refine fO (OF.assign (VEv.int .i64 0)) (nt (rt (tr (vi (n':=0) rfl ?_))))
  unfold Ja;rw [if_neg fhc0]
 have hmd:=QaY n0 (m:=m) (by omega)
 have hmd2:=QaY (n0.tmod m+m) (m:=m) (by omega)
 refine sk (tn (sr (mO (tI n0) rfl (mO (tI m) rfl (fO (B.rem (n:=(n0.tmod m)) (tv (tI n0) rfl) (tv (tI m) rfl) (by omega) (by rfl)) (mO (tI m) rfl (fO (B.add (n:=((n0.tmod m)+m)) (tv (tI (n0.tmod m)) rfl) (tv (tI m) rfl) (by (rw [Qt (by omega)];done))) (mO (tI m) rfl (fO (B.rem (n:=(((n0.tmod m)+m).tmod m)) (tv (tI ((n0.tmod m)+m)) rfl) (tv (tI m) rfl) (by omega) (by rfl)) (aO (tI (((n0.tmod m)+m).tmod m)) rfl (nt ?_)))))))))))
 refine rt (vi (n':=(((n0.tmod m)+m).tmod m)) rfl ?_)
 unfold Ja;rw [if_pos (by omega)]
theorem Qit (n:Nat) (n0:Int) (m:Int):Pure (Qq Tryz.prog (n+2)) 194 [(tI n0),(tI m)] (tI (Ja n0 m)):=by
 refine Pure.intro (rs:= [ResultVar.tmp 4]) Tryz.func194 rfl rfl rfl (E0:= [(0,(tI n0)),(1,(tI m))]) rfl ?_
 obtain ⟨hlim,hmx,hmax⟩:=QC
 refine sr (fO (OF.assign (VEv.int .i64 0)) (nt (sq (sr (mO (tI m) rfl (cO (cS (vc (tv (tI m) rfl) (vc (VEv.int .i64 1) (vc (VEv.int .i64 1000000000000) vn))) (ZJ rfl) (Q4 (n+0) m 1 1000000000000) rfl rfl) (fO (QW (tv (tB (decide (1≤m∧m≤1000000000000))) rfl)) (nt ?_))))))))
 refine cn (1≤m∧m≤1000000000000) rfl (fun fhc0=> ?_) fun fhc0=> ?_
 ·refine sr ?_
  refine fO (OF.assign (VEv.int .i64 0)) (nt (rt (tr (vi (n':=0) rfl ?_))))
  unfold Ja;rw [if_neg fhc0]
 have hmd:=QaY n0 (m:=m) (by omega)
 have hmd2:=QaY (n0.tmod m+m) (m:=m) (by omega)
 refine sk (tn (sr (mO (tI n0) rfl (mO (tI m) rfl (fO (B.rem (n:=(n0.tmod m)) (tv (tI n0) rfl) (tv (tI m) rfl) (by omega) (by rfl)) (mO (tI m) rfl (fO (B.add (n:=((n0.tmod m)+m)) (tv (tI (n0.tmod m)) rfl) (tv (tI m) rfl) (by (rw [Qt (by omega)];done))) (mO (tI m) rfl (fO (B.rem (n:=(((n0.tmod m)+m).tmod m)) (tv (tI ((n0.tmod m)+m)) rfl) (tv (tI m) rfl) (by omega) (by rfl)) (aO (tI (((n0.tmod m)+m).tmod m)) rfl (nt ?_)))))))))))
 refine rt (vi (n':=(((n0.tmod m)+m).tmod m)) rfl ?_)
 unfold Ja;rw [if_pos (by omega)]
theorem Qhy (n:Nat) (l:List Int) (hl:l.length≤YW):Pure (Qq Tryz.prog (n+3)) 176 [(rd 1 Qa l)] (tI (Q1 l)):=by
 refine Pure.intro (rs:= [ResultVar.tmp 2]) Tryz.func176 rfl rfl rfl (E0:= [(0,(rd 1 Qa l))]) rfl ?_
 obtain ⟨hlim,hmx,hmax⟩:=QC
 refine sr (fO (OF.assign (VEv.int .i64 0)) (nt (sr (fO (OF.assign (VEv.int .i64 11)) (nt (sq (sr (fO (OF.assign (VEv.int .i64 0)) (nt (VRun.block ?_))))))))))
 refine VRun.loop (A:=Nat) (fun s_=> [(0,(rd 1 Qa l)),(2,(tN 0)),(3,(tI (Q1 (l.take s_)))),(4,(tN s_))]) (fun s_=>Q3 []) 0 (fun s_=>s_≤l.length) (fun s_=>l.length - s_) (0:Nat) ?_ (Wk.mk (fun k=>k) ?_ ?_ ?_) ?_
 ·(simp;done)
 ·exact (b2 (b2 (bc ⟨(congrArg (T.int .i64) (show 11=Q1 (l.take 0) from (by rfl))),rfl⟩ (b2 bn))))
 ·exact bn
 ·exact nd rfl
 rintro i (hI':i≤l.length)
 show VRun _ _ _ [(0,(rd 1 Qa l)),(2,(tN 0)),(3,(tI (Q1 (l.take i)))),(4,(tN i))] (Q3 []) 0 _
 have hhb:=Qh4 (l.take i)
 refine sq (sr (mO (tN i) rfl (mO (rd 1 Qa l) rfl (lO (B.lenR (m:=l.length) (tv (rd 1 Qa l) rfl) Zg (List.length_map ..)) (fO (Zf (tv (tN i) rfl) (tv (tN l.length) rfl)) (nt ?_))))))
 refine cd (i<l.length) rfl (fun fhc0=> ?_) fun fhc0=> ?_
 ·refine sk ?_
  refine tn (sq (VRun.block (VRun.region (mO (tI (Q1 (l.take i))) rfl (fO (B.mul (n:=(Q1 (l.take i)*1000003)) (tv (tI (Q1 (l.take i))) rfl) (VEv.int .i64 1000003) (by (rw [Qt (by omega)];done))) (mO (rd 1 Qa l) rfl (mO (tN i) rfl ?_)))))))
  obtain ⟨x1,hx1⟩:∃x,l[i]? =some x:=⟨_,List.getElem?_eq_getElem (by omega)⟩
  have hmz:=Qgy x1
  have hhs:=Qe6 (x:=x1) hhb
  have hhs2:QcQ (Q1 (l.take i)) x1=(Q1 (l.take i)*1000003+Ja x1 2147483647+13).tmod 2147483647:=rfl
  refine fO (OF.indexAddrR (row:=(Qa false x1)) (i:=i) (tv (rd 1 Qa l) rfl) (tv (tN i) rfl) rfl (Qv _ hx1) Zg Q8 Yk) (lO (OL.loadR1 (t:=(tI x1)) (tv (T.rp [(tI x1)]) rfl) rfl QU) (cO (cS (vc (tv (tI x1) rfl) (vc (VEv.int .i64 2147483647) vn)) (ZJ rfl) (QiE (n+0) x1 2147483647) rfl rfl) (fO (B.add (n:=((Q1 (l.take i)*1000003)+Ja x1 2147483647)) (tv (tI (Q1 (l.take i)*1000003)) rfl) (tv (tI (Ja x1 2147483647)) rfl) (by (rw [Qt (by omega)];done))) (fO (B.add (n:=(((Q1 (l.take i)*1000003)+Ja x1 2147483647)+13)) (tv (tI ((Q1 (l.take i)*1000003)+Ja x1 2147483647)) rfl) (VEv.int .i64 13) (by (rw [Qt (by omega)];done))) (fO (B.rem (n:=((((Q1 (l.take i)*1000003)+Ja x1 2147483647)+13).tmod 2147483647)) (tv (tI (((Q1 (l.take i)*1000003)+Ja x1 2147483647)+13)) rfl) (VEv.int .i64 2147483647) (by omega) (by rfl)) (aO (tI ((((Q1 (l.take i)*1000003)+Ja x1 2147483647)+13).tmod 2147483647)) rfl (VRunO.nil (vinB.n (tn (VRun.region (mO (tN i) rfl ?_)))))))))))
  refine fO (QB (tv (tN i) rfl) (VEv.int .i64 1) (by omega)) (aO (tN (i+1)) rfl (VRunO.nil (tn ?_)))
  refine ⟨(i+1:Nat),?_,?_,Wk.mk (fun k=>k) ?_ ?_ ?_⟩
  ·trivial
  ·omega
  ·exact (b2 (b2 (bc ⟨(congrArg (T.int .i64) (show ((((Q1 (l.take i)*1000003)+Ja x1 2147483647)+13).tmod 2147483647)=Q1 (l.take (i+1)) from (by exact (QeQ hx1).symm))),rfl⟩ (b2 bn))))
  ·exact bn
  ·exact nd rfl
 refine VRun.exit (vthn.e (vthn.e (vinB.e (tn (sr (mO (tI (Q1 (l.take i))) rfl (aO (tI (Q1 (l.take i))) rfl (nt (rt (vi (n':=Q1 (l.take i)) rfl ?_))))))))))
 rw [YX hI' fhc0]
theorem Qht (n:Nat) (l:List Int) (hl:l.length≤YW):Pure (Qq Tryz.prog (n+3)) 179 [(rd 1 Qa l)] (tI (Q1 l)):=by
 refine Pure.intro (rs:= [ResultVar.tmp 2]) Tryz.func179 rfl rfl rfl (E0:= [(0,(rd 1 Qa l))]) rfl ?_
 obtain ⟨hlim,hmx,hmax⟩:=QC
 refine sr (fO (OF.assign (VEv.int .i64 0)) (nt (sr (fO (OF.assign (VEv.int .i64 11)) (nt (sq (sr (mO (rd 1 Qa l) rfl (lO (B.lenR (m:=l.length) (tv (rd 1 Qa l) rfl) Zg (List.length_map ..)) (fO (OF.move (VEv.int .i64 0)) (nt ?_)))))))))))
 refine VRun.block ?_
 refine VRun.loop (A:=Nat) (fun s_=> [(2,(tN 0)),(3,(tI (Q1 (l.take s_)))),(6,(rd 1 Qa l)),(7,(tN l.length)),(8,(tN s_))]) (fun s_=>Q3 []) 0 (fun s_=>s_≤l.length) (fun s_=>l.length - s_) (0:Nat) ?_ (Wk.mk (fun k=>k) ?_ ?_ ?_) ?_
 ·(simp;done)
 ·exact (b2 (bc ⟨(congrArg (T.int .i64) (show 11=Q1 (l.take 0) from (by rfl))),rfl⟩ (b2 (b2 (b2 bn)))))
 ·exact bn
 ·exact nd rfl
 rintro i (hI':i≤l.length)
 show VRun _ _ _ [(2,(tN 0)),(3,(tI (Q1 (l.take i)))),(6,(rd 1 Qa l)),(7,(tN l.length)),(8,(tN i))] (Q3 []) 0 _
 have hhb:=Qh4 (l.take i)
 refine sr (fO (Zf (tv (tN i) rfl) (tv (tN l.length) rfl)) (nt (sq ?_)))
 refine cd (i<l.length) rfl (fun fhc0=> ?_) fun fhc0=> ?_
 ·refine sk ?_
  refine tn (sq (VRun.block (sr ?_)))
  obtain ⟨x1,hx1⟩:∃x,l[i]? =some x:=⟨_,List.getElem?_eq_getElem (by omega)⟩
  have hmz:=Qgy x1
  have hhs:=Qe6 (x:=x1) hhb
  have hhs2:QcQ (Q1 (l.take i)) x1=(Q1 (l.take i)*1000003+Ja x1 2147483647+13).tmod 2147483647:=rfl
  refine fO (OF.indexAddrR (row:=(Qa false x1)) (i:=i) (tv (rd 1 Qa l) rfl) (tv (tN i) rfl) rfl (Qv _ hx1) Zg Q8 Yk) (lO (OL.loadR1 (t:=(tI x1)) (tv (T.rp [(tI x1)]) rfl) rfl QU) (aO (tI x1) rfl (nt (VRun.region (mO (tI (Q1 (l.take i))) rfl (fO (B.mul (n:=(Q1 (l.take i)*1000003)) (tv (tI (Q1 (l.take i))) rfl) (VEv.int .i64 1000003) (by (rw [Qt (by omega)];done))) (mO (tI x1) rfl (cO (cS (vc (tv (tI x1) rfl) (vc (VEv.int .i64 2147483647) vn)) (ZJ rfl) (Qit (n+0) x1 2147483647) rfl rfl) (fO (B.add (n:=((Q1 (l.take i)*1000003)+Ja x1 2147483647)) (tv (tI (Q1 (l.take i)*1000003)) rfl) (tv (tI (Ja x1 2147483647)) rfl) (by (rw [Qt (by omega)];done))) (fO (B.add (n:=(((Q1 (l.take i)*1000003)+Ja x1 2147483647)+13)) (tv (tI ((Q1 (l.take i)*1000003)+Ja x1 2147483647)) rfl) (VEv.int .i64 13) (by (rw [Qt (by omega)];done))) (fO (B.rem (n:=((((Q1 (l.take i)*1000003)+Ja x1 2147483647)+13).tmod 2147483647)) (tv (tI (((Q1 (l.take i)*1000003)+Ja x1 2147483647)+13)) rfl) (VEv.int .i64 2147483647) (by omega) (by rfl)) ?_)))))))))))
  refine aO (tI ((((Q1 (l.take i)*1000003)+Ja x1 2147483647)+13).tmod 2147483647)) rfl (VRunO.nil (vinB.n (tn (VRun.region (fO (QB (tv (tN i) rfl) (VEv.int .i64 1) (by omega)) (mO (tN (i+1)) rfl (VRunO.nil (tn ?_))))))))
  refine ⟨(i+1:Nat),?_,?_,Wk.mk (fun k=>k) ?_ ?_ ?_⟩
  ·trivial
  ·omega
  ·exact (b2 (bc ⟨(congrArg (T.int .i64) (show ((((Q1 (l.take i)*1000003)+Ja x1 2147483647)+13).tmod 2147483647)=Q1 (l.take (i+1)) from (by exact (QeQ hx1).symm))),rfl⟩ (b2 (b2 (b2 bn)))))
  ·exact bn
  ·exact nd rfl
 refine VRun.exit (vthn.e (vthn.e (vinB.e (tn (sr (mO (tI (Q1 (l.take i))) rfl (aO (tI (Q1 (l.take i))) rfl (nt (rt (vi (n':=Q1 (l.take i)) rfl ?_))))))))))
 rw [YX hI' fhc0]
theorem Qdw (n:Nat) (s:ByteArray) (hs:s.size≤YW):Pure (Qq Tryz.prog (n+1)) 177 [(tS s)] (T.sl true 1 ((ZN s).map (Qa true))):=by
 refine Pure.intro (rs:= [ResultVar.tmp 2]) Tryz.func177 rfl rfl rfl (E0:= [(0,(tS s))]) rfl ?_
 obtain ⟨hlim,hmx,hmax⟩:=QC
 have hbl:=QaX s
 refine sr (fO (OF.assign VEv.nils) (nt (sr (kO (OM.slice0 Zg J3 (by kernel_rfl) rfl (by rw [Q8];decide) Q8) (aO (T.os 1 0 0 0) rfl (nt (sq (sr (fO (OF.assign (VEv.int .i64 0)) (nt (VRun.block ?_)))))))))))
 have he1: []=(((ZN s).take 0).map (Qa true)):=by rfl
 refine VRun.loop (A:=Nat) (fun s_=> [(0,(tS s)),(2,T.nils),(3,(T.os 1 0 0 ((((ZN s).take s_).map (Qa true)).length))),(4,(tN s_))]) (fun s_=>Q3 [(0,(Obj.rows 1 (((ZN s).take s_).map (Qa true))))]) 1 (fun s_=>s_≤s.size) (fun s_=>s.size - s_) (0:Nat) ?_ (Wk.mk (fun k=>k) ?_ ?_ ?_) ?_
 ·(simp;done)
 ·exact (b2 (b2 (bc ⟨(congrArg (fun n_=>T.os 1 0 0 n_) (show 0=(((ZN s).take 0).map (Qa true)).length from (by rfl))),rfl⟩ (b2 bn))))
 ·exact (bc ⟨(congrArg (fun l_=>some (Obj.rows 1 l_)) he1),(lb rfl),rfl⟩ bn)
 ·exact nd rfl
 rintro i (hI':i≤s.size)
 show VRun _ _ _ [(0,(tS s)),(2,T.nils),(3,(T.os 1 0 0 ((((ZN s).take i).map (Qa true)).length))),(4,(tN i))] (Q3 [(0,(Obj.rows 1 (((ZN s).take i).map (Qa true))))]) 1 _
 have htl:=Yp (ZN s) i
 have hbb:=QkM s i
 refine sq (sr (mO (tN i) rfl (mO (tS s) rfl (lO (B.lenS (tv (tS s) rfl) U9) (fO (Zf (tv (tN i) rfl) (tv (tN s.size) rfl)) (nt ?_))))))
 refine cd (i<s.size) rfl (fun fhc0=> ?_) fun fhc0=> ?_
 ·refine sk ?_
  refine tn (sq (VRun.block (VRun.region (mO (T.os 1 0 0 ((((ZN s).take i).map (Qa true)).length)) rfl (mO (tS s) rfl (mO (tN i) rfl ?_))))))
  have hb2:i<s.size:=(by omega)
  refine fO (JN (tv (tS s) rfl) (tv (tN i) rfl) hb2 U9) (fO (xcv (m:=(Qu s i)) (tv (T.int .u8 (Qu s i)) rfl) U5 U3 (Qt (by omega))) (kO (OM.buildSlice (l:= [(tI (Qu s i))]) (VEvp.cons (tv (tI (Qu s i)) rfl) VEvp.nil) rfl (by decide) (bc (nofun) bn) (bc ((bc (rfl) bn)) bn) (bc (rfl) bn) Zg J3 (by kernel_rfl) rfl (by rw [Q8];decide) Q8 (Nat.le_of_ble_eq_true rfl)) (cO (B.append (rows:=(((ZN s).take i).map (Qa true))) (rows2:= [[(tI (Qu s i))]]) (rows3:=(((ZN s).take i++ [Qu s i]).map (Qa true))) (VDst.own (tv (T.os 1 0 0 ((((ZN s).take i).map (Qa true)).length)) rfl) rfl rfl) (VSrc.own (tv (T.os 1 1 0 1) rfl) rfl rfl Zg (bc (bc rfl bn) bn)) (by decide) Zg Q8 (by decide) J3 rfl (of_decide_eq_true (by kernel_rfl)) (by (simp only [List.length_map,List.length_append,List.length_cons,List.length_nil,List.length_replicate,List.length_set,List.length_drop,List.length_take,YW] at *;omega)) ((List.map_append (f:=Qa true) (l₁:=(ZN s).take i) (l₂:= [Qu s i])).symm)) (aO (T.os 1 2 0 ((((ZN s).take i++ [Qu s i]).map (Qa true)).length)) rfl (VRunO.nil (vinB.n (tn (VRun.region (mO (tN i) rfl (fO (QB (tv (tN i) rfl) (VEv.int .i64 1) (by omega)) (aO (tN (i+1)) rfl ?_)))))))))))
  refine VRunO.nil (tn ?_)
  have he3:((ZN s).take i++ [Qu s i])=(ZN s).take (i+1):=by exact Qhe fhc0
  refine ⟨(i+1:Nat),?_,?_,Wk.mk (fun k=>if k=0 then 2 else k) ?_ ?_ ?_⟩
  ·trivial
  ·omega
  ·exact (b2 (b2 (bc ⟨(congrArg (fun l_=>T.os 1 2 0 (List.map (Qa true) l_).length) he3),rfl⟩ (b2 bn))))
  ·exact (bc ⟨(congrArg (fun l_=>some (Obj.rows 1 (List.map (Qa true) l_))) he3),(lb rfl),rfl⟩ bn)
  ·exact nd rfl
 refine VRun.exit (vthn.e (vthn.e (vinB.e (tn (sr (mO (T.os 1 0 0 ((((ZN s).take i).map (Qa true)).length)) rfl (aO (T.os 1 0 0 ((((ZN s).take i).map (Qa true)).length)) rfl (nt (rt ?_)))))))))
 refine vfin.eq (r':=(T.sl true 1 (((ZN s).take i).map (Qa true)))) ?_ (vfin.r (VRes.tmp (t:=(T.os 1 0 0 ((((ZN s).take i).map (Qa true)).length))) rfl VRes.nil) (Give.os rfl rfl (okInt.cleanMap _)))
 show (T.sl true 1 (((ZN s).take i).map (Qa true)))=(T.sl true 1 ((ZN s).map (Qa true)))
 refine congrArg (fun l_=>T.sl true 1 (List.map (Qa true) l_)) ?_
 rw [YX (by omega) (by omega)]
theorem Qdu (n:Nat) (s:ByteArray) (hs:s.size≤YW):Pure (Qq Tryz.prog (n+1)) 180 [(tS s)] (T.sl true 1 ((ZN s).map (Qa true))):=by
 refine Pure.intro (rs:= [ResultVar.tmp 2]) Tryz.func180 rfl rfl rfl (E0:= [(0,(tS s))]) rfl ?_
 obtain ⟨hlim,hmx,hmax⟩:=QC
 have hbl:=QaX s
 refine sr (fO (OF.assign VEv.nils) (nt (sr (fO (OF.assign VEv.nils) (nt (sq (sr (mO (tS s) rfl (lO (B.lenS (tv (tS s) rfl) U9) (fO (OF.move (VEv.int .i64 0)) (nt ?_)))))))))))
 refine VRun.block (VRun.wk (Wk.phantom 3 1 rfl) ?_)
 have he1: []=(((ZN s).take 0).map (Qa true)):=by rfl
 refine VRun.loop (A:=Nat) (fun s_=> [(0,(tS s)),(2,T.nils),(3,(T.os 1 0 0 ((((ZN s).take s_).map (Qa true)).length))),(6,(tN s.size)),(7,(tN s_))]) (fun s_=>Q3 [(0,(Obj.rows 1 (((ZN s).take s_).map (Qa true))))]) 1 (fun s_=>s_≤s.size) (fun s_=>s.size - s_) (0:Nat) ?_ (Wk.mk (fun k=>k) ?_ ?_ ?_) ?_
 ·(simp;done)
 ·exact (b2 (b2 (bc ⟨(congrArg (fun n_=>T.os 1 0 0 n_) (show 0=(((ZN s).take 0).map (Qa true)).length from (by rfl))),rfl⟩ (b2 (b2 bn)))))
 ·exact (bc ⟨(congrArg (fun l_=>some (Obj.rows 1 l_)) he1),(lb rfl),rfl⟩ bn)
 ·exact nd rfl
 rintro i (hI':i≤s.size)
 show VRun _ _ _ [(0,(tS s)),(2,T.nils),(3,(T.os 1 0 0 ((((ZN s).take i).map (Qa true)).length))),(6,(tN s.size)),(7,(tN i))] (Q3 [(0,(Obj.rows 1 (((ZN s).take i).map (Qa true))))]) 1 _
 have htl:=Yp (ZN s) i
 have hbb:=QkM s i
 refine sr (fO (Zf (tv (tN i) rfl) (tv (tN s.size) rfl)) (nt (sq ?_)))
 refine cd (i<s.size) rfl (fun fhc0=> ?_) fun fhc0=> ?_
 ·refine sk ?_
  refine tn (sq (VRun.block (sr (mO (tN i) rfl (aO (tN i) rfl (nt (VRun.region (mO (T.os 1 0 0 ((((ZN s).take i).map (Qa true)).length)) rfl (mO (tS s) rfl (mO (tN i) rfl ?_))))))))))
  have hb2:i<s.size:=(by omega)
  refine fO (JN (tv (tS s) rfl) (tv (tN i) rfl) hb2 U9) (fO (xcv (m:=(Qu s i)) (tv (T.int .u8 (Qu s i)) rfl) U5 U3 (Qt (by omega))) (kO (OM.buildSlice (l:= [(tI (Qu s i))]) (VEvp.cons (tv (tI (Qu s i)) rfl) VEvp.nil) rfl (by decide) (bc (nofun) bn) (bc ((bc (rfl) bn)) bn) (bc (rfl) bn) Zg J3 (by kernel_rfl) rfl (by rw [Q8];decide) Q8 (Nat.le_of_ble_eq_true rfl)) (cO (B.append (rows:=(((ZN s).take i).map (Qa true))) (rows2:= [[(tI (Qu s i))]]) (rows3:=(((ZN s).take i++ [Qu s i]).map (Qa true))) (VDst.own (tv (T.os 1 0 0 ((((ZN s).take i).map (Qa true)).length)) rfl) rfl rfl) (VSrc.own (tv (T.os 1 1 0 1) rfl) rfl rfl Zg (bc (bc rfl bn) bn)) (by decide) Zg Q8 (by decide) J3 rfl (of_decide_eq_true (by kernel_rfl)) (by (simp only [List.length_map,List.length_append,List.length_cons,List.length_nil,List.length_replicate,List.length_set,List.length_drop,List.length_take,YW] at *;omega)) ((List.map_append (f:=Qa true) (l₁:=(ZN s).take i) (l₂:= [Qu s i])).symm)) (aO (T.os 1 2 0 ((((ZN s).take i++ [Qu s i]).map (Qa true)).length)) rfl (VRunO.nil (vinB.n (tn (VRun.region (fO (QB (tv (tN i) rfl) (VEv.int .i64 1) (by omega)) (mO (tN (i+1)) rfl (VRunO.nil ?_)))))))))))
  refine tn ?_
  have he3:((ZN s).take i++ [Qu s i])=(ZN s).take (i+1):=by exact Qhe fhc0
  refine ⟨(i+1:Nat),?_,?_,Wk.mk (fun k=>if k=0 then 2 else k) ?_ ?_ ?_⟩
  ·trivial
  ·omega
  ·exact (b2 (b2 (bc ⟨(congrArg (fun l_=>T.os 1 2 0 (List.map (Qa true) l_).length) he3),rfl⟩ (b2 (b2 bn)))))
  ·exact (bc ⟨(congrArg (fun l_=>some (Obj.rows 1 (List.map (Qa true) l_))) he3),(lb rfl),rfl⟩ bn)
  ·exact nd rfl
 refine VRun.exit (vthn.e (vthn.e (vinB.e (tn (sr (mO (T.os 1 0 0 ((((ZN s).take i).map (Qa true)).length)) rfl (aO (T.os 1 0 0 ((((ZN s).take i).map (Qa true)).length)) rfl (nt (rt ?_)))))))))
 refine vfin.eq (r':=(T.sl true 1 (((ZN s).take i).map (Qa true)))) ?_ (vfin.r (VRes.tmp (t:=(T.os 1 0 0 ((((ZN s).take i).map (Qa true)).length))) rfl VRes.nil) (Give.os rfl rfl (okInt.cleanMap _)))
 show (T.sl true 1 (((ZN s).take i).map (Qa true)))=(T.sl true 1 ((ZN s).map (Qa true)))
 refine congrArg (fun l_=>T.sl true 1 (List.map (Qa true) l_)) ?_
 rw [YX (by omega) (by omega)]
theorem QcY (n:Nat) (salt:Int) (slot:Int) (w:ByteArray) (hw:w.size≤maxLen):Pure (Qq Tryz.prog (n+4)) 147 [(tI salt),(tI slot),(tS w)] (tI (Jz salt slot w)):=by
 refine Pure.intro (rs:= [ResultVar.tmp 6]) Tryz.func147 rfl rfl rfl (E0:= [(0,(tI salt)),(1,(tI slot)),(2,(tS w))]) rfl ?_
 obtain ⟨hlim,hmx,hmax⟩:=QC
 have hbl:=QaX w
 refine sr (fO (OF.assign (VEv.int .i64 0)) (nt (sq (sr (mO (tS w) rfl (cO (cS (vc (tv (tS w) rfl) vn) (ZJ rfl) (Qau (n+1) w (by assumption)) rfl rfl) (fO (QW (tv (tB (decide (Zl w))) rfl)) (nt ?_))))))))
 refine cn (Zl w) rfl (fun fhc0=> ?_) fun fhc0=> ?_
 ·refine sr ?_
  refine fO (OF.assign (VEv.int .i64 0)) (nt (rt (tr (vi (n':=0) rfl ?_))))
  unfold Jz;rw [if_neg fhc0]
 have hw8:=fhc0.1.2
 refine sk (tn (sr (mO (tI salt) rfl (mO (tI slot) rfl (mO (tS w) rfl (lO (B.lenS (tv (tS w) rfl) U9) (kO (OM.buildSlice (l:= [(tI salt),(tI slot),(tN w.size)]) (VEvp.cons (tv (tI salt) rfl) (VEvp.cons (tv (tI slot) rfl) (VEvp.cons (tv (tN w.size) rfl) VEvp.nil))) rfl (by decide) (bc (nofun) (bc (nofun) (bc (nofun) bn))) (bc ((bc (rfl) bn)) (bc ((bc (rfl) bn)) (bc ((bc (rfl) bn)) bn))) (bc (rfl) (bc (rfl) (bc (rfl) bn))) Zg J3 (by kernel_rfl) rfl (by rw [Q8];decide) Q8 (Nat.le_of_ble_eq_true rfl)) (mO (tS w) rfl (cO (OC.callF (us:= [(tS w)]) (r:=(T.sl true 1 ((ZN w).map (Qa true)))) (r':=(T.os 1 1 0 (((ZN w).map (Qa true)).length))) (objs:= [(Obj.rows 1 ((ZN w).map (Qa true)))]) rfl (vc (tv (tS w) rfl) vn) (ZJ rfl) (Qdw (n+2) w (by omega)) rfl) (cO (B.append (rows:= [[(tI salt)],[(tI slot)],[(tN w.size)]]) (rows2:=((ZN w).map (Qa true))) (rows3:=(([salt,slot,((w.size:Nat):Int)]++ZN w).map (Qa true))) (VDst.own (tv (T.os 1 0 0 3) rfl) rfl rfl) (VSrc.own (tv (T.os 1 1 0 (((ZN w).map (Qa true)).length)) rfl) rfl rfl Zg (okInt.okMap _ _)) (by decide) Zg Q8 (by decide) J3 rfl (of_decide_eq_true (by kernel_rfl)) (by (simp only [List.length_append,List.length_cons,List.length_nil,List.length_map];omega)) ((List.map_append (f:=Qa true) (l₁:= [salt,slot,((w.size:Nat):Int)]) (l₂:=ZN w)).symm)) (cO (cS (us:= [(rd 1 Qa ([salt,slot,((w.size:Nat):Int)]++ZN w))]) (vc (tv (T.os 1 2 0 ((([salt,slot,((w.size:Nat):Int)]++ZN w).map (Qa true)).length)) rfl) vn) (LendL.cons (Lend.os rfl rfl (okInt.fzMap _ _)) ln) (Qhy (n+0) ([salt,slot,((w.size:Nat):Int)]++ZN w) (by (simp only [List.length_append,List.length_cons,List.length_nil,List.length_map];omega))) rfl rfl) ?_)))))))))))
 refine aO (tI (Q1 ([salt,slot,((w.size:Nat):Int)]++ZN w))) rfl (nt (rt (vi (n':=Q1 ([salt,slot,((w.size:Nat):Int)]++ZN w)) rfl ?_)))
 unfold Jz;rw [if_pos fhc0]
theorem QcB (n:Nat) (salt:Int) (slot:Int) (w:ByteArray) (hw:w.size≤maxLen):Pure (Qq Tryz.prog (n+4)) 151 [(tI salt),(tI slot),(tS w)] (tI (Jz salt slot w)):=by
 refine Pure.intro (rs:= [ResultVar.tmp 6]) Tryz.func151 rfl rfl rfl (E0:= [(0,(tI salt)),(1,(tI slot)),(2,(tS w))]) rfl ?_
 obtain ⟨hlim,hmx,hmax⟩:=QC
 have hbl:=QaX w
 refine sr (fO (OF.assign (VEv.int .i64 0)) (nt (sq (sr (mO (tS w) rfl (cO (cS (vc (tv (tS w) rfl) vn) (ZJ rfl) (QaA (n+1) w (by assumption)) rfl rfl) (fO (QW (tv (tB (decide (Zl w))) rfl)) (nt ?_))))))))
 refine cn (Zl w) rfl (fun fhc0=> ?_) fun fhc0=> ?_
 ·refine sr ?_
  refine fO (OF.assign (VEv.int .i64 0)) (nt (rt (tr (vi (n':=0) rfl ?_))))
  unfold Jz;rw [if_neg fhc0]
 have hw8:=fhc0.1.2
 refine sk (tn (sr (mO (tI salt) rfl (mO (tI slot) rfl (mO (tS w) rfl (lO (B.lenS (tv (tS w) rfl) U9) (kO (OM.buildSlice (l:= [(tI salt),(tI slot),(tN w.size)]) (VEvp.cons (tv (tI salt) rfl) (VEvp.cons (tv (tI slot) rfl) (VEvp.cons (tv (tN w.size) rfl) VEvp.nil))) rfl (by decide) (bc (nofun) (bc (nofun) (bc (nofun) bn))) (bc ((bc (rfl) bn)) (bc ((bc (rfl) bn)) (bc ((bc (rfl) bn)) bn))) (bc (rfl) (bc (rfl) (bc (rfl) bn))) Zg J3 (by kernel_rfl) rfl (by rw [Q8];decide) Q8 (Nat.le_of_ble_eq_true rfl)) (mO (tS w) rfl (cO (OC.callF (us:= [(tS w)]) (r:=(T.sl true 1 ((ZN w).map (Qa true)))) (r':=(T.os 1 1 0 (((ZN w).map (Qa true)).length))) (objs:= [(Obj.rows 1 ((ZN w).map (Qa true)))]) rfl (vc (tv (tS w) rfl) vn) (ZJ rfl) (Qdu (n+2) w (by omega)) rfl) (cO (B.append (rows:= [[(tI salt)],[(tI slot)],[(tN w.size)]]) (rows2:=((ZN w).map (Qa true))) (rows3:=(([salt,slot,((w.size:Nat):Int)]++ZN w).map (Qa true))) (VDst.own (tv (T.os 1 0 0 3) rfl) rfl rfl) (VSrc.own (tv (T.os 1 1 0 (((ZN w).map (Qa true)).length)) rfl) rfl rfl Zg (okInt.okMap _ _)) (by decide) Zg Q8 (by decide) J3 rfl (of_decide_eq_true (by kernel_rfl)) (by (simp only [List.length_append,List.length_cons,List.length_nil,List.length_map];omega)) ((List.map_append (f:=Qa true) (l₁:= [salt,slot,((w.size:Nat):Int)]) (l₂:=ZN w)).symm)) (cO (cS (us:= [(rd 1 Qa ([salt,slot,((w.size:Nat):Int)]++ZN w))]) (vc (tv (T.os 1 2 0 ((([salt,slot,((w.size:Nat):Int)]++ZN w).map (Qa true)).length)) rfl) vn) (LendL.cons (Lend.os rfl rfl (okInt.fzMap _ _)) ln) (Qht (n+0) ([salt,slot,((w.size:Nat):Int)]++ZN w) (by (simp only [List.length_append,List.length_cons,List.length_nil,List.length_map];omega))) rfl rfl) ?_)))))))))))
 refine aO (tI (Q1 ([salt,slot,((w.size:Nat):Int)]++ZN w))) rfl (nt (rt (vi (n':=Q1 ([salt,slot,((w.size:Nat):Int)]++ZN w)) rfl ?_)))
 unfold Jz;rw [if_pos fhc0]
theorem QbS (n:Nat) (seals:List Int) (salt:Int) (slot:Int) (w:ByteArray) (hl:seals.length≤YW) (hw:w.size≤maxLen):Pure (Qq Tryz.prog (n+5)) 121 [(rd 1 Qa seals),(tI salt),(tI slot),(tS w)] (tB (decide (QeA seals salt slot w))):=by
 refine Pure.intro (rs:= [ResultVar.tmp 8]) Tryz.func121 rfl rfl rfl (E0:= [(0,(rd 1 Qa seals)),(1,(tI salt)),(2,(tI slot)),(3,(tS w))]) rfl ?_
 obtain ⟨hlim,hmx,hmax⟩:=QC
 refine sr (fO (OF.assign (VEv.bool false)) (nt (sq (VRun.draw (B:= [[],[],[1],[1,2],[2,1,3,0],[0,3,1,2,4],[4,2,1,3,0,5],[5,0,3,1,2,4,6],[6,7,4,2,1,3,0,5],[5,0,3,1,2,4,7,6,8],[8,6,7,4,2,1,3,0,5,9],[8,6,7,4,2,1,3,0,5,9],[8,6,7,4,2,1,3,0,5,9],[12,11,9,5,0,3,1,2,4,7,6,8,10],[8,6,7,4,2,1,3,0,5,9],[8,6,7,4,2,1,3,0,5,9],[15,9,5,0,3,1,2,4,7,6,8,14],[14,8,6,7,4,2,1,3,0,5,9,15,16],[16,15,14,17,10,8,6,7,4,2,1,3,0,5,9,11,12,13],[13,12,11,10,17,14,15,16,18,8,6,7,4,2,1,3,0,5,9],[9,5,0,3,1,2,4,7,6,8,18,16,15,14,17,10,11,12,13,19]]) (by kernel_rfl) (by kernel_rfl) (mD (tI slot) rfl rfl (mD (rd 1 Qa seals) rfl rfl (lD (B.lenR (m:=seals.length) (tv (rd 1 Qa seals) rfl) Zg (List.length_map ..)) rfl rfl (fD (B.sub (n:=(((seals.length:Nat):Int) - 1)) (tv (tN seals.length) rfl) (VEv.int .i64 1) (by (rw [Qt (by omega)];done))) rfl rfl (VRunD.quiet (bi:= [2,1,3,0]) rfl VWant.always rfl rfl rfl bn (cS (vc (tv (tI slot) rfl) (vc (VEv.int .i64 0) (vc (tv (tI (((seals.length:Nat):Int) - 1)) rfl) vn))) (ZJ rfl) (QH (n+3) slot 0 (((seals.length:Nat):Int) - 1)) rfl rfl) (mD (tB (decide (0≤slot∧slot≤(((seals.length:Nat):Int) - 1)))) rfl rfl ?_))))))))))
 refine gw (0≤slot∧slot≤(((seals.length:Nat):Int) - 1)) (fun fhg14_1=> ?_) fun fhg14_1=> ?_
 ·refine VRunD.free rfl (VWant.on rfl rfl (dy fhg14_1)) rfl (OF.move (tv (tS w) rfl)) ?_
  refine VRunD.quiet (bi:= [5,0,3,1,2,4,6]) rfl (VWant.on rfl rfl (dy fhg14_1)) rfl rfl rfl bn (cS (vc (tv (tS w) rfl) vn) (ZJ rfl) (Qau (n+2) w (by assumption)) rfl rfl) (fD (OF.pickT (VEv.tmpB rfl (dy fhg14_1)) (tv (tB (decide (Zl w))) rfl)) rfl rfl (mD (tB (decide (Zl w))) rfl rfl ?_))
  refine gw (Zl w) (fun fhg18_2=> ?_) fun fhg18_2=> ?_
  ·refine VRunD.free rfl (VWant.on rfl rfl (dy fhg18_2)) rfl (OF.move (tv (tI salt) rfl)) ?_
   refine VRunD.free rfl (VWant.on rfl rfl (dy fhg18_2)) rfl (OF.move (tv (tI slot) rfl)) (VRunD.free rfl (VWant.on rfl rfl (dy fhg18_2)) rfl (OF.move (tv (tS w) rfl)) (VRunD.quiet (bi:= [12,11,9,5,0,3,1,2,4,7,6,8,10]) rfl (VWant.on rfl rfl (dy fhg18_2)) rfl rfl rfl bn (cS (vc (tv (tI salt) rfl) (vc (tv (tI slot) rfl) (vc (tv (tS w) rfl) vn))) (ZJ rfl) (QcY (n+0) salt slot w (by assumption)) rfl rfl) (VRunD.free rfl (VWant.on rfl rfl (dy fhg18_2)) rfl (OF.move (tv (rd 1 Qa seals) rfl)) (VRunD.free rfl (VWant.on rfl rfl (dy fhg18_2)) rfl (OF.move (tv (tI slot) rfl)) ?_))))
   obtain ⟨x1,hx1⟩:∃x,seals[(Int.toNat slot)]? =some x:=⟨_,List.getElem?_eq_getElem (by omega)⟩
   refine VRunD.free rfl (VWant.on rfl rfl (dy fhg18_2)) rfl (OF.indexAddrR (row:=(Qa false x1)) (i:=(Int.toNat slot)) (tv (rd 1 Qa seals) rfl) (tv (tI slot) rfl) (by omega) (Qv _ hx1) Zg Q8 Yk) (VRunD.look rfl (VWant.on rfl rfl (dy fhg18_2)) rfl (OL.loadR1 (t:=(tI x1)) (tv (T.rp [(tI x1)]) rfl) rfl QU) (VRunD.free rfl (VWant.on rfl rfl (dy fhg18_2)) rfl (Y7 (tv (tI (Jz salt slot w)) rfl) (tv (tI x1) rfl)) (fD (OF.pickT (VEv.tmpB rfl (dy fhg18_2)) (tv (tB (decide (Jz salt slot w=x1))) rfl)) rfl rfl (fD (OF.assign (tv (tB (decide (Jz salt slot w=x1))) rfl)) rfl rfl (VRunD.nil (tn (rt (vb (b':=(decide (Jz salt slot w=x1))) rfl ?_))))))))
   (refine Zb (Qjh ?_ ?_ hx1);omega;assumption)
  refine oD rfl rfl (dz fhg18_2) rfl (oD rfl rfl (dz fhg18_2) rfl (oD rfl rfl (dz fhg18_2) rfl (oD rfl rfl (dz fhg18_2) rfl (oD rfl rfl (dz fhg18_2) rfl (oD rfl rfl (dz fhg18_2) rfl (oD rfl rfl (dz fhg18_2) rfl (oD rfl rfl (dz fhg18_2) rfl (oD rfl rfl (dz fhg18_2) rfl (fD (OF.pickF (VEv.tmpB rfl (dz fhg18_2)) (VEv.bool false)) rfl rfl (fD (OF.assign (tv (tB false) rfl)) rfl rfl (VRunD.nil ?_)))))))))))
  refine tn (rt (vb (b':=false) rfl ?_))
  (symm;rw [decide_eq_false_iff_not];intro h;have h2:=Qey h;have h3:=h.1;exact absurd h.2.1 (by assumption))
 refine oD rfl rfl (dz fhg14_1) rfl (oD rfl rfl (dz fhg14_1) rfl (fD (OF.pickF (VEv.tmpB rfl (dz fhg14_1)) (VEv.bool false)) rfl rfl (mD (tB false) rfl rfl (VRunD.off rfl (VWant.not (b:=false) rfl rfl rfl) (VRunD.off rfl (VWant.not (b:=false) rfl rfl rfl) (VRunD.off rfl (VWant.not (b:=false) rfl rfl rfl) (VRunD.off rfl (VWant.not (b:=false) rfl rfl rfl) (VRunD.off rfl (VWant.not (b:=false) rfl rfl rfl) (VRunD.off rfl (VWant.not (b:=false) rfl rfl rfl) (VRunD.off rfl (VWant.not (b:=false) rfl rfl rfl) (VRunD.off rfl (VWant.not (b:=false) rfl rfl rfl) ?_)))))))))))
 refine VRunD.off rfl (VWant.not (b:=false) rfl rfl rfl) (fD (OF.pickF (tv (tB false) rfl) (VEv.bool false)) rfl rfl (fD (OF.assign (tv (tB false) rfl)) rfl rfl (VRunD.nil (tn (rt (vb (b':=false) rfl ?_))))))
 (symm;rw [decide_eq_false_iff_not];intro h;have h2:=Qey h;have h3:=h.1;omega)
theorem QbY (n:Nat) (seals:List Int) (salt:Int) (slot:Int) (w:ByteArray) (hl:seals.length≤YW) (hw:w.size≤maxLen):Pure (Qq Tryz.prog (n+5)) 123 [(rd 1 Qa seals),(tI salt),(tI slot),(tS w)] (tB (decide (QeA seals salt slot w))):=by
 refine Pure.intro (rs:= [ResultVar.tmp 8]) Tryz.func123 rfl rfl rfl (E0:= [(0,(rd 1 Qa seals)),(1,(tI salt)),(2,(tI slot)),(3,(tS w))]) rfl ?_
 obtain ⟨hlim,hmx,hmax⟩:=QC
 refine sr (fO (OF.assign (VEv.bool false)) (nt (sq (VRun.draw (B:= [[],[],[1],[1,2,0],[0,2,1,3],[3,1,2,0,4],[4,0,2,1,3,5],[5,6,3,1,2,0,4],[4,0,2,1,3,6,5,7],[7,5,6,3,1,2,0,4,8],[7,5,6,3,1,2,0,4,8],[7,5,6,3,1,2,0,4,8],[11,10,8,4,0,2,1,3,6,5,7,9],[7,5,6,3,1,2,0,4,8],[7,5,6,3,1,2,0,4,8],[14,8,4,0,2,1,3,6,5,7,13],[13,7,5,6,3,1,2,0,4,8,14,15],[15,14,13,16,9,7,5,6,3,1,2,0,4,8,10,11,12],[12,11,10,9,16,13,14,15,17,7,5,6,3,1,2,0,4,8],[8,4,0,2,1,3,6,5,7,17,15,14,13,16,9,10,11,12,18]]) (by kernel_rfl) (by kernel_rfl) (mD (tI slot) rfl rfl (mD (rd 1 Qa seals) rfl rfl (lD (B.lenR (m:=seals.length) (tv (rd 1 Qa seals) rfl) Zg (List.length_map ..)) rfl rfl (VRunD.quiet (bi:= [1,2,0]) rfl VWant.always rfl rfl rfl bn (cS (vc (tv (tI slot) rfl) (vc (tv (tN seals.length) rfl) vn)) (ZJ rfl) (YB (n+3) slot ((seals.length:Nat):Int)) rfl rfl) (mD (tB (decide (0≤slot∧slot<((seals.length:Nat):Int)))) rfl rfl ?_)))))))))
 refine gw (0≤slot∧slot<((seals.length:Nat):Int)) (fun fhg13_1=> ?_) fun fhg13_1=> ?_
 ·refine VRunD.free rfl (VWant.on rfl rfl (dy fhg13_1)) rfl (OF.move (tv (tS w) rfl)) ?_
  refine VRunD.quiet (bi:= [4,0,2,1,3,5]) rfl (VWant.on rfl rfl (dy fhg13_1)) rfl rfl rfl bn (cS (vc (tv (tS w) rfl) vn) (ZJ rfl) (QaA (n+2) w (by assumption)) rfl rfl) (fD (OF.pickT (VEv.tmpB rfl (dy fhg13_1)) (tv (tB (decide (Zl w))) rfl)) rfl rfl (mD (tB (decide (Zl w))) rfl rfl ?_))
  refine gw (Zl w) (fun fhg17_2=> ?_) fun fhg17_2=> ?_
  ·refine VRunD.free rfl (VWant.on rfl rfl (dy fhg17_2)) rfl (OF.move (tv (tI salt) rfl)) ?_
   refine VRunD.free rfl (VWant.on rfl rfl (dy fhg17_2)) rfl (OF.move (tv (tI slot) rfl)) (VRunD.free rfl (VWant.on rfl rfl (dy fhg17_2)) rfl (OF.move (tv (tS w) rfl)) (VRunD.quiet (bi:= [11,10,8,4,0,2,1,3,6,5,7,9]) rfl (VWant.on rfl rfl (dy fhg17_2)) rfl rfl rfl bn (cS (vc (tv (tI salt) rfl) (vc (tv (tI slot) rfl) (vc (tv (tS w) rfl) vn))) (ZJ rfl) (QcB (n+0) salt slot w (by assumption)) rfl rfl) (VRunD.free rfl (VWant.on rfl rfl (dy fhg17_2)) rfl (OF.move (tv (rd 1 Qa seals) rfl)) (VRunD.free rfl (VWant.on rfl rfl (dy fhg17_2)) rfl (OF.move (tv (tI slot) rfl)) ?_))))
   obtain ⟨x1,hx1⟩:∃x,seals[(Int.toNat slot)]? =some x:=⟨_,List.getElem?_eq_getElem (by omega)⟩
   refine VRunD.free rfl (VWant.on rfl rfl (dy fhg17_2)) rfl (OF.indexAddrR (row:=(Qa false x1)) (i:=(Int.toNat slot)) (tv (rd 1 Qa seals) rfl) (tv (tI slot) rfl) (by omega) (Qv _ hx1) Zg Q8 Yk) (VRunD.look rfl (VWant.on rfl rfl (dy fhg17_2)) rfl (OL.loadR1 (t:=(tI x1)) (tv (T.rp [(tI x1)]) rfl) rfl QU) (VRunD.free rfl (VWant.on rfl rfl (dy fhg17_2)) rfl (Y7 (tv (tI (Jz salt slot w)) rfl) (tv (tI x1) rfl)) (fD (OF.pickT (VEv.tmpB rfl (dy fhg17_2)) (tv (tB (decide (Jz salt slot w=x1))) rfl)) rfl rfl (fD (OF.assign (tv (tB (decide (Jz salt slot w=x1))) rfl)) rfl rfl (VRunD.nil (tn (rt (vb (b':=(decide (Jz salt slot w=x1))) rfl ?_))))))))
   (refine Zb (Qjh ?_ ?_ hx1);omega;assumption)
  refine oD rfl rfl (dz fhg17_2) rfl (oD rfl rfl (dz fhg17_2) rfl (oD rfl rfl (dz fhg17_2) rfl (oD rfl rfl (dz fhg17_2) rfl (oD rfl rfl (dz fhg17_2) rfl (oD rfl rfl (dz fhg17_2) rfl (oD rfl rfl (dz fhg17_2) rfl (oD rfl rfl (dz fhg17_2) rfl (oD rfl rfl (dz fhg17_2) rfl (fD (OF.pickF (VEv.tmpB rfl (dz fhg17_2)) (VEv.bool false)) rfl rfl (fD (OF.assign (tv (tB false) rfl)) rfl rfl (VRunD.nil ?_)))))))))))
  refine tn (rt (vb (b':=false) rfl ?_))
  (symm;rw [decide_eq_false_iff_not];intro h;have h2:=Qey h;have h3:=h.1;exact absurd h.2.1 (by assumption))
 refine oD rfl rfl (dz fhg13_1) rfl (oD rfl rfl (dz fhg13_1) rfl (fD (OF.pickF (VEv.tmpB rfl (dz fhg13_1)) (VEv.bool false)) rfl rfl (mD (tB false) rfl rfl (VRunD.off rfl (VWant.not (b:=false) rfl rfl rfl) (VRunD.off rfl (VWant.not (b:=false) rfl rfl rfl) (VRunD.off rfl (VWant.not (b:=false) rfl rfl rfl) (VRunD.off rfl (VWant.not (b:=false) rfl rfl rfl) (VRunD.off rfl (VWant.not (b:=false) rfl rfl rfl) (VRunD.off rfl (VWant.not (b:=false) rfl rfl rfl) (VRunD.off rfl (VWant.not (b:=false) rfl rfl rfl) (VRunD.off rfl (VWant.not (b:=false) rfl rfl rfl) ?_)))))))))))
 refine VRunD.off rfl (VWant.not (b:=false) rfl rfl rfl) (fD (OF.pickF (tv (tB false) rfl) (VEv.bool false)) rfl rfl (fD (OF.assign (tv (tB false) rfl)) rfl rfl (VRunD.nil (tn (rt (vb (b':=false) rfl ?_))))))
 (symm;rw [decide_eq_false_iff_not];intro h;have h2:=Qey h;have h3:=h.1;omega)
noncomputable section
def QK (g:D.Grid) (f:ByteArray) (seals:List Int) (salt:Int):Nat→List Int
 | 0=> []
 | i+1=>QK g f seals salt i++(if QeA seals salt ((i:Nat):Int) (QG g f ((i:Nat):Int)) then [((i:Nat):Int)] else [])
def Zh (g:D.Grid) (f:ByteArray) (seals:List Int) (salt:Int):List Int:=if QI g f then QK g f seals salt (Qb g).length else []
theorem Qa1 (g:D.Grid) (f:ByteArray) (seals:List Int) (salt:Int):∀i,(QK g f seals salt i).length≤i
 | 0=>Nat.le_refl _
 | i+1=>by
  have:=Qa1 g f seals salt i
  unfold QK
  rw [List.length_append]
  split<;>simp only [List.length_cons,List.length_nil]<;>omega
theorem Qe2 (g:D.Grid) (f:ByteArray) (seals:List Int) (salt:Int):(Zh g f seals salt).length≤72:=by
 unfold Zh
 split
 ·exact Nat.le_trans (Qa1 _ _ _ _ _) (Ze g)
 ·simp
theorem QfX {g:D.Grid} {f:ByteArray} {seals:List Int} {salt:Int} {i:Nat} (h:QeA seals salt ((i:Nat):Int) (QG g f ((i:Nat):Int))):QK g f seals salt i++ [((i:Nat):Int)]=QK g f seals salt (i+1):=by rw [QK,if_pos h]
theorem Qhm {g:D.Grid} {f:ByteArray} {seals:List Int} {salt:Int} {i:Nat} (h:¬QeA seals salt ((i:Nat):Int) (QG g f ((i:Nat):Int))):QK g f seals salt i=QK g f seals salt (i+1):=by rw [QK,if_neg h,List.append_nil]
theorem QfT {g:D.Grid} {f:ByteArray} {seals:List Int} {salt:Int} {i:Nat} (h1:i≤(Qb g).length) (h2:QI g f∨i=0) (h3:¬(i<(Qb g).length∧QI g f)):QK g f seals salt i=Zh g f seals salt:=by
 unfold Zh
 by_cases h:QI g f
 ·rw [if_pos h,show i=(Qb g).length by have:¬i<(Qb g).length:=fun e=>h3 ⟨e,h⟩;omega]
 ·rw [if_neg h,h2.resolve_left h];rfl
theorem JD (g:D.Grid) (f:ByteArray) (slot:Int):(QG g f slot).size≤6:=by
 unfold QG
 split
 ·split
  ·rename_i s hs
   split
   ·rw [Qh1];exact QbC hs
   ·exact Nat.zero_le _
  ·exact Nat.zero_le _
 ·exact Nat.zero_le _
theorem QeR (g:D.Grid) (f:ByteArray):(Zc g f).length≤(Qb g).length:=by
 by_cases h:QI g f
 ·rw [Qdx h];exact Nat.le_refl _
 ·unfold Zc;rw [if_neg h];exact Nat.zero_le _
theorem Qla {g:D.Grid} {f:ByteArray} (h:¬QI g f):Zc g f= []:=if_neg h
theorem Qig {g:D.Grid} {f:ByteArray} {seals:List Int} {salt:Int} {i:Nat} (h1:i≤(Zc g f).length) (h2:¬i<(Zc g f).length):QK g f seals salt i=Zh g f seals salt:=by
 have hpl:=QeR g f
 refine QfT (by omega) ?_ ?_
 ·by_cases h:QI g f
  ·exact .inl h
  ·right;rw [Qla h] at h1;exact Nat.le_zero.1 h1
 ·rintro ⟨h3,h4⟩;rw [Qdx h4] at h2;exact h2 h3
end
theorem QcH (n:Nat) (g:D.Grid) (f:ByteArray) (seals:List Int) (salt:Int) (hc:g.Cells.size≤maxLen) (hf:f.size≤maxLen) (hl:seals.length≤YW):Pure (Qq Tryz.prog (n+6)) 89 [(T.agg (Qc false g)),(tS f),(rd 1 Qa seals),(tI salt)] (T.sl true 1 ((Zh g f seals salt).map (Qa true))):=by
 refine Pure.intro (rs:= [ResultVar.tmp 8]) Tryz.func89 rfl rfl rfl (E0:= [(0,(T.agg (Qc false g))),(1,(tS f)),(2,(rd 1 Qa seals)),(3,(tI salt))]) rfl ?_
 obtain ⟨hlim,hmx,hmax⟩:=QC
 have hsl:=Ze g
 refine sr (kO (B.box (ts:=(Qc false g)) (tv (T.agg (Qc false g)) rfl) nofun rfl) (fO (OF.assign VEv.nils) (nt (sr (kO (OM.slice0 Zg J3 (by kernel_rfl) rfl (by rw [Q8];decide) Q8) (aO (T.os 1 1 0 0) rfl (nt (sr (lO (OL.loadOn (us:=(Qc false g)) (tv (T.op 0 0) rfl) rfl QX QT (lb rfl) rfl) (cO (OC.callF (us:= [(T.agg (Qc false g))]) (r:=(T.sl true 4 ((Qb g).map (Qf true)))) (r':=(T.os 4 2 0 (((Qb g).map (Qf true)).length))) (objs:= [(Obj.rows 4 ((Qb g).map (Qf true)))]) rfl (vc (tv (T.agg (Qc false g)) rfl) vn) (LendL.cons (lg Qs) ln) (ZA (n+2) g (by assumption)) rfl) (aO (T.os 4 2 0 (((Qb g).map (Qf true)).length)) rfl ?_)))))))))))
 refine nt (sq (sr (fO (OF.assign (VEv.int .i64 0)) (nt (VRun.block ?_)))))
 have he1: []=((QK g f seals salt 0).map (Qa true)):=by rfl
 refine VRun.loop (A:=Nat) (fun s_=> [(1,(tS f)),(2,(rd 1 Qa seals)),(3,(tI salt)),(4,(T.op 0 0)),(8,T.nils),(9,(T.os 1 2 0 (((QK g f seals salt s_).map (Qa true)).length))),(10,(T.os 4 1 0 (((Qb g).map (Qf true)).length))),(11,(tN s_))]) (fun s_=>Q3 [(0,(Obj.cells (Qc false g))),(1,(Obj.rows 4 ((Qb g).map (Qf true)))),(2,(Obj.rows 1 ((QK g f seals salt s_).map (Qa true))))]) 3 (fun s_=>s_≤(Qb g).length∧(QI g f∨s_=0)) (fun s_=>(Qb g).length - s_) (0:Nat) ?_ (Wk.mk (fun k=>if k=1 then 2 else if k=2 then 1 else k) ?_ ?_ ?_) ?_
 ·exact ⟨Nat.zero_le _, .inr rfl⟩
 ·exact (b2 (b2 (b2 (b2 (b2 (bc ⟨(congrArg (fun n_=>T.os 1 1 0 n_) (show 0=((QK g f seals salt 0).map (Qa true)).length from (by rfl))),rfl⟩ (b2 (b2 bn))))))))
 ·exact (b3 (b3 (bc ⟨(congrArg (fun l_=>some (Obj.rows 1 l_)) he1),(lb rfl),rfl⟩ bn)))
 ·exact nd rfl
 rintro i (hI':i≤(Qb g).length∧(QI g f∨i=0))
 show VRun _ _ _ [(1,(tS f)),(2,(rd 1 Qa seals)),(3,(tI salt)),(4,(T.op 0 0)),(8,T.nils),(9,(T.os 1 2 0 (((QK g f seals salt i).map (Qa true)).length))),(10,(T.os 4 1 0 (((Qb g).map (Qf true)).length))),(11,(tN i))] (Q3 [(0,(Obj.cells (Qc false g))),(1,(Obj.rows 4 ((Qb g).map (Qf true)))),(2,(Obj.rows 1 ((QK g f seals salt i).map (Qa true))))]) 3 _
 have hI1:=hI'.1
 have hrl:=Qa1 g f seals salt i
 have hps:=JD g f ((i:Nat):Int)
 refine sq (sr (mO (tN i) rfl (mO (T.os 4 1 0 (((Qb g).map (Qf true)).length)) rfl (lO (B.lenO (m:=(Qb g).length) (tv (T.os 4 1 0 (((Qb g).map (Qf true)).length)) rfl) Z9 (List.length_map ..)) (fO (Zf (tv (tN i) rfl) (tv (tN ((Qb g).length)) rfl)) (mO (tB (decide (i<(Qb g).length))) rfl ?_))))))
 refine VRunO.joinB 4 [20,21,22] 23 (tB (decide ((i<(Qb g).length)∧(QI g f)))) ?_ ?_
 ·refine gw (i<(Qb g).length) (fun fhg19_2=> ?_) fun fhg19_2=> ?_
  ·refine gL (dy fhg19_2) rfl rfl (OL.loadOn (us:=(Qc false g)) (tv (T.op 0 0) rfl) rfl QX QT (lb rfl) rfl) ?_
   refine gF (dy fhg19_2) rfl rfl (OF.move (tv (tS f) rfl)) (VRunO.chain (VWant.on rfl rfl (dy fhg19_2)) (cS (vc (tv (T.agg (Qc false g)) rfl) (vc (tv (tS f) rfl) vn)) (LendL.cons (lg Qs) (lp rfl ln)) (Qaw (n+2) g f (by assumption) (by assumption)) rfl rfl) (fO (OF.pickT (VEv.tmpB rfl (dy fhg19_2)) (tv (tB (decide (QI g f))) rfl)) (VRunO.nil ?_)))
   exact jq (congrArg T.bool (kAT fhg19_2 rfl)) (js rfl (js rfl (js rfl (jn))))
  ·refine Qy 3 4 true 19 (dz fhg19_2) rfl rfl rfl ?_
   refine fO (OF.pickF (VEv.tmpB rfl (dz fhg19_2)) (VEv.bool false)) (VRunO.nil ?_)
   exact jq (congrArg T.bool (kAF fhg19_2)) (js rfl (js rfl (js rfl (jn))))
 refine nt ?_
 refine cd ((i<(Qb g).length)∧(QI g f)) rfl (fun fhc0=> ?_) fun fhc0=> ?_
 ·refine sk ?_
  refine tn (sq (VRun.block (sr (mO (rd 1 Qa seals) rfl (mO (tI salt) rfl (mO (tN i) rfl (lO (OL.loadOn (us:=(Qc false g)) (tv (T.op 0 0) rfl) rfl QX QT (lb rfl) rfl) (mO (tS f) rfl (mO (tN i) rfl (cO (cS (vc (tv (T.agg (Qc false g)) rfl) (vc (tv (tS f) rfl) (vc (tv (tN i) rfl) vn))) (LendL.cons (lg Qs) (lp rfl (lp rfl ln))) (JS (n+0) g f ((i:Nat):Int) (by assumption) (by assumption)) rfl rfl) (cO (cS (vc (tv (rd 1 Qa seals) rfl) (vc (tv (tI salt) rfl) (vc (tv (tN i) rfl) (vc (tv (tS (QG g f ((i:Nat):Int))) rfl) vn)))) (ZJ rfl) (QbS (n+0) seals salt ((i:Nat):Int) (QG g f ((i:Nat):Int)) (by assumption) (by omega)) rfl rfl) ?_)))))))))))
  refine nt ?_
  refine cd (QeA seals salt ((i:Nat):Int) (QG g f ((i:Nat):Int))) rfl (fun fhc1=> ?_) fun fhc1=> ?_
  ·refine VRun.region ?_
   refine mO (T.os 1 2 0 (((QK g f seals salt i).map (Qa true)).length)) rfl (mO (tN i) rfl (kO (OM.buildSlice (l:= [(tN i)]) (VEvp.cons (tv (tN i) rfl) VEvp.nil) rfl (by decide) (bc (nofun) bn) (bc ((bc (rfl) bn)) bn) (bc (rfl) bn) Zg J3 (by kernel_rfl) rfl (by rw [Q8];decide) Q8 (Nat.le_of_ble_eq_true rfl)) (cO (B.append (rows:=((QK g f seals salt i).map (Qa true))) (rows2:= [[(tN i)]]) (rows3:=((QK g f seals salt i++ [((i:Nat):Int)]).map (Qa true))) (VDst.own (tv (T.os 1 2 0 (((QK g f seals salt i).map (Qa true)).length)) rfl) rfl rfl) (VSrc.own (tv (T.os 1 3 0 1) rfl) rfl rfl Zg (bc (bc rfl bn) bn)) (by decide) Zg Q8 (by decide) J3 rfl (of_decide_eq_true (by kernel_rfl)) (by (simp only [List.length_map,List.length_append,List.length_cons,List.length_nil,List.length_replicate,List.length_set,List.length_drop,List.length_take,YW] at *;omega)) ((List.map_append (f:=Qa true) (l₁:=QK g f seals salt i) (l₂:= [((i:Nat):Int)])).symm)) (aO (T.os 1 4 0 (((QK g f seals salt i++ [((i:Nat):Int)]).map (Qa true)).length)) rfl (VRunO.nil (vinB.n (tn (VRun.region (mO (tN i) rfl (fO (QB (tv (tN i) rfl) (VEv.int .i64 1) (by omega)) (aO (tN (i+1)) rfl ?_)))))))))))
   refine VRunO.nil (tn ?_)
   have he3:(QK g f seals salt i++ [((i:Nat):Int)])=QK g f seals salt (i+1):=by exact QfX fhc1
   refine ⟨(i+1:Nat),?_,?_,Wk.mk (fun k=>if k=2 then 4 else k) ?_ ?_ ?_⟩
   ·exact ⟨by omega, .inl fhc0.2⟩
   ·omega
   ·exact (b2 (b2 (b2 (b2 (b2 (bc ⟨(congrArg (fun l_=>T.os 1 4 0 (List.map (Qa true) l_).length) he3),rfl⟩ (b2 (b2 bn))))))))
   ·exact (b3 (b3 (bc ⟨(congrArg (fun l_=>some (Obj.rows 1 (List.map (Qa true) l_))) he3),(lb rfl),rfl⟩ bn)))
   ·exact nd rfl
  refine sk (vinB.n (tn (VRun.region (mO (tN i) rfl (fO (QB (tv (tN i) rfl) (VEv.int .i64 1) (by omega)) (aO (tN (i+1)) rfl (VRunO.nil (tn ?_))))))))
  have he4:QK g f seals salt i=QK g f seals salt (i+1):=by exact Qhm fhc1
  refine ⟨(i+1:Nat),?_,?_,Wk.mk (fun k=>k) ?_ ?_ ?_⟩
  ·exact ⟨by omega, .inl fhc0.2⟩
  ·omega
  ·exact (b2 (b2 (b2 (b2 (b2 (bc ⟨(congrArg (fun l_=>T.os 1 2 0 (List.map (Qa true) l_).length) he4),rfl⟩ (b2 (b2 bn))))))))
  ·exact (b3 (b3 (bc ⟨(congrArg (fun l_=>some (Obj.rows 1 (List.map (Qa true) l_))) he4),(lb rfl),rfl⟩ bn)))
  ·exact nd rfl
 refine VRun.exit (vthn.e (vthn.e (vinB.e (tn (sr (mO (T.os 1 2 0 (((QK g f seals salt i).map (Qa true)).length)) rfl (aO (T.os 1 2 0 (((QK g f seals salt i).map (Qa true)).length)) rfl (nt (rt ?_)))))))))
 refine vfin.eq (r':=(T.sl true 1 ((QK g f seals salt i).map (Qa true)))) ?_ (vfin.r (VRes.tmp (t:=(T.os 1 2 0 (((QK g f seals salt i).map (Qa true)).length))) rfl VRes.nil) (Give.os rfl rfl (okInt.cleanMap _)))
 show (T.sl true 1 ((QK g f seals salt i).map (Qa true)))=(T.sl true 1 ((Zh g f seals salt).map (Qa true)))
 refine congrArg (fun l_=>T.sl true 1 (List.map (Qa true) l_)) ?_
 exact QfT hI1 hI'.2 fhc0
theorem QcL (n:Nat) (g:D.Grid) (f:ByteArray) (seals:List Int) (salt:Int) (hc:g.Cells.size≤maxLen) (hf:f.size≤maxLen) (hl:seals.length≤YW):Pure (Qq Tryz.prog (n+6)) 90 [(T.agg (Qc false g)),(tS f),(rd 1 Qa seals),(tI salt)] (T.sl true 1 ((Zh g f seals salt).map (Qa true))):=by
 refine Pure.intro (rs:= [ResultVar.tmp 8]) Tryz.func90 rfl rfl rfl (E0:= [(0,(T.agg (Qc false g))),(1,(tS f)),(2,(rd 1 Qa seals)),(3,(tI salt))]) rfl ?_
 obtain ⟨hlim,hmx,hmax⟩:=QC
 have hsl:=Ze g
 have hpl:=QeR g f
 refine sr (kO (B.box (ts:=(Qc false g)) (tv (T.agg (Qc false g)) rfl) nofun rfl) (fO (OF.assign VEv.nils) (nt (sr (fO (OF.assign VEv.nils) (nt (sq (sr (lO (OL.loadOn (us:=(Qc false g)) (tv (T.op 0 0) rfl) rfl QX QT (lb rfl) rfl) (mO (tS f) rfl (cO (OC.callF (us:= [(T.agg (Qc false g)),(tS f)]) (r:=(T.sl true 1 ((Zc g f).map (ZR true)))) (r':=(T.os 1 1 0 (((Zc g f).map (ZR true)).length))) (objs:= [(Obj.rows 1 ((Zc g f).map (ZR true)))]) rfl (vc (tv (T.agg (Qc false g)) rfl) (vc (tv (tS f) rfl) vn)) (LendL.cons (lg Qs) (lp rfl ln)) (Qa9 (n+0) g f (by assumption) (by assumption)) rfl) ?_)))))))))))
 refine lO (B.lenO (m:=(Zc g f).length) (tv (T.os 1 1 0 (((Zc g f).map (ZR true)).length)) rfl) QiG (List.length_map ..)) (fO (OF.move (VEv.int .i64 0)) (nt (VRun.block (VRun.wk (Wk.freeze (sz:=1) (k:=1) (rows':=((Zc g f).map (ZR false))) [14] (bc rfl bn) rfl rfl (okStr.fzMap _ _)) (VRun.wk (Wk.phantom 9 1 rfl) ?_)))))
 have he1: []=((QK g f seals salt 0).map (Qa true)):=by rfl
 refine VRun.loop (A:=Nat) (fun s_=> [(2,(rd 1 Qa seals)),(3,(tI salt)),(8,T.nils),(9,(T.os 1 0 0 (((QK g f seals salt s_).map (Qa true)).length))),(14,(rd 1 ZR (Zc g f))),(15,(tN ((Zc g f).length))),(16,(tN s_))]) (fun s_=>Q3 [(0,(Obj.rows 1 ((QK g f seals salt s_).map (Qa true))))]) 1 (fun s_=>s_≤(Zc g f).length) (fun s_=>(Zc g f).length - s_) (0:Nat) ?_ (Wk.mk (fun k=>if k=0 then 2 else k) ?_ ?_ ?_) ?_
 ·(simp;done)
 ·exact (b2 (b2 (b2 (bc ⟨(congrArg (fun n_=>T.os 1 2 0 n_) (show 0=((QK g f seals salt 0).map (Qa true)).length from (by rfl))),rfl⟩ (b2 (b2 (b2 bn)))))))
 ·exact (bc ⟨(congrArg (fun l_=>some (Obj.rows 1 l_)) he1),(lb rfl),rfl⟩ bn)
 ·exact nd rfl
 rintro i (hI':i≤(Zc g f).length)
 show VRun _ _ _ [(2,(rd 1 Qa seals)),(3,(tI salt)),(8,T.nils),(9,(T.os 1 0 0 (((QK g f seals salt i).map (Qa true)).length))),(14,(rd 1 ZR (Zc g f))),(15,(tN ((Zc g f).length))),(16,(tN i))] (Q3 [(0,(Obj.rows 1 ((QK g f seals salt i).map (Qa true))))]) 1 _
 have hrl:=Qa1 g f seals salt i
 have hps:=JD g f ((i:Nat):Int)
 refine sr (fO (Zf (tv (tN i) rfl) (tv (tN ((Zc g f).length)) rfl)) (nt (sq ?_)))
 refine cd (i<(Zc g f).length) rfl (fun fhc0=> ?_) fun fhc0=> ?_
 ·refine sk ?_
  refine tn (sq (VRun.block (sr (mO (tN i) rfl ?_))))
  obtain ⟨x1,hx1⟩:∃x,(Zc g f)[i]? =some x:=⟨_,List.getElem?_eq_getElem (by omega)⟩
  have hpx:=Qhc hx1
  refine fO (OF.indexAddrR (row:=(ZR false x1)) (i:=i) (tv (rd 1 ZR (Zc g f)) rfl) (tv (tN i) rfl) rfl (Qv _ hx1) QiG sz9 if9) (lO (OL.loadR1 (t:=(tS x1)) (tv (T.rp [(tS x1)]) rfl) rfl Z7) (aO (tN i) rfl (aO (tS x1) rfl (nt (sr (mO (rd 1 Qa seals) rfl (mO (tI salt) rfl (mO (tN i) rfl (mO (tS x1) rfl (cO (cS (vc (tv (rd 1 Qa seals) rfl) (vc (tv (tI salt) rfl) (vc (tv (tN i) rfl) (vc (tv (tS x1) rfl) vn)))) (ZJ rfl) (QbY (n+0) seals salt ((i:Nat):Int) x1 (by assumption) (by (rw [hpx];omega))) rfl rfl) (nt ?_)))))))))))
  refine cd (QeA seals salt ((i:Nat):Int) x1) rfl (fun fhc1=> ?_) fun fhc1=> ?_
  ·refine VRun.region ?_
   refine mO (T.os 1 0 0 (((QK g f seals salt i).map (Qa true)).length)) rfl (mO (tN i) rfl (kO (OM.buildSlice (l:= [(tN i)]) (VEvp.cons (tv (tN i) rfl) VEvp.nil) rfl (by decide) (bc (nofun) bn) (bc ((bc (rfl) bn)) bn) (bc (rfl) bn) Zg J3 (by kernel_rfl) rfl (by rw [Q8];decide) Q8 (Nat.le_of_ble_eq_true rfl)) (cO (B.append (rows:=((QK g f seals salt i).map (Qa true))) (rows2:= [[(tN i)]]) (rows3:=((QK g f seals salt i++ [((i:Nat):Int)]).map (Qa true))) (VDst.own (tv (T.os 1 0 0 (((QK g f seals salt i).map (Qa true)).length)) rfl) rfl rfl) (VSrc.own (tv (T.os 1 1 0 1) rfl) rfl rfl Zg (bc (bc rfl bn) bn)) (by decide) Zg Q8 (by decide) J3 rfl (of_decide_eq_true (by kernel_rfl)) (by (simp only [List.length_map,List.length_append,List.length_cons,List.length_nil,List.length_replicate,List.length_set,List.length_drop,List.length_take,YW] at *;omega)) ((List.map_append (f:=Qa true) (l₁:=QK g f seals salt i) (l₂:= [((i:Nat):Int)])).symm)) (aO (T.os 1 2 0 (((QK g f seals salt i++ [((i:Nat):Int)]).map (Qa true)).length)) rfl (VRunO.nil (vinB.n (tn (VRun.region (fO (QB (tv (tN i) rfl) (VEv.int .i64 1) (by omega)) (mO (tN (i+1)) rfl (VRunO.nil ?_)))))))))))
   refine tn ?_
   have he2:(QK g f seals salt i++ [((i:Nat):Int)])=QK g f seals salt (i+1):=by (rw [hpx] at fhc1;exact QfX fhc1)
   refine ⟨(i+1:Nat),?_,?_,Wk.mk (fun k=>if k=0 then 2 else k) ?_ ?_ ?_⟩
   ·trivial
   ·omega
   ·exact (b2 (b2 (b2 (bc ⟨(congrArg (fun l_=>T.os 1 2 0 (List.map (Qa true) l_).length) he2),rfl⟩ (b2 (b2 (b2 bn)))))))
   ·exact (bc ⟨(congrArg (fun l_=>some (Obj.rows 1 (List.map (Qa true) l_))) he2),(lb rfl),rfl⟩ bn)
   ·exact nd rfl
  refine sk (vinB.n (tn (VRun.region (fO (QB (tv (tN i) rfl) (VEv.int .i64 1) (by omega)) (mO (tN (i+1)) rfl (VRunO.nil (tn ?_)))))))
  have he3:QK g f seals salt i=QK g f seals salt (i+1):=by (rw [hpx] at fhc1;exact Qhm fhc1)
  refine ⟨(i+1:Nat),?_,?_,Wk.mk (fun k=>k) ?_ ?_ ?_⟩
  ·trivial
  ·omega
  ·exact (b2 (b2 (b2 (bc ⟨(congrArg (fun l_=>T.os 1 0 0 (List.map (Qa true) l_).length) he3),rfl⟩ (b2 (b2 (b2 bn)))))))
  ·exact (bc ⟨(congrArg (fun l_=>some (Obj.rows 1 (List.map (Qa true) l_))) he3),(lb rfl),rfl⟩ bn)
  ·exact nd rfl
 refine VRun.exit (vthn.e (vthn.e (vinB.e (tn (sr (mO (T.os 1 0 0 (((QK g f seals salt i).map (Qa true)).length)) rfl (aO (T.os 1 0 0 (((QK g f seals salt i).map (Qa true)).length)) rfl (nt (rt ?_)))))))))
 refine vfin.eq (r':=(T.sl true 1 ((QK g f seals salt i).map (Qa true)))) ?_ (vfin.r (VRes.tmp (t:=(T.os 1 0 0 (((QK g f seals salt i).map (Qa true)).length))) rfl VRes.nil) (Give.os rfl rfl (okInt.cleanMap _)))
 show (T.sl true 1 ((QK g f seals salt i).map (Qa true)))=(T.sl true 1 ((Zh g f seals salt).map (Qa true)))
 refine congrArg (fun l_=>T.sl true 1 (List.map (Qa true) l_)) ?_
 exact Qig hI' fhc0
end Go.Proofs.YtcccmceoplcciaaGreat.AE
namespace Go.Proofs.YtcccmceoplcciaaGreat.AE
open Go Go.RowKit
set_option linter.unusedVariables false
set_option linter.unusedSimpArgs false
set_option maxRecDepth 20000
set_option maxHeartbeats 2000000
noncomputable section
def QbP (f:ByteArray):Prop:=∃j,j<f.size∧Qu f j=63
instance (f:ByteArray):Decidable (QbP f):=Classical.propDecidable _
def YV (f:ByteArray):Nat→Nat
 | 0=>0
 | i+1=>YV f i+(if Qu f i=63 then 1 else 0)
theorem Qgx (f:ByteArray):∀i,YV f i≤i
 | 0=>Nat.le_refl _
 | i+1=>by
  have:=Qgx f i
  unfold YV
  split<;>omega
theorem QfU (f:ByteArray):∀i,YV f i=0↔∀j,j<i→¬Qu f j=63
 | 0=>⟨fun _ j hj=>by omega,fun _=>rfl⟩
 | i+1=>by
  have ih:=QfU f i
  unfold YV
  constructor
  ·intro h j hj
   by_cases e:j=i
   ·subst e;intro e2;rw [if_pos e2] at h;omega
   ·exact ih.1 (by omega) j (by omega)
  ·intro h
   rw [if_neg (h i (by omega)),ih.2 (fun j hj=>h j (by omega))]
theorem QlV (f:ByteArray):YV f f.size=0↔¬QbP f:=by
 rw [QfU]
 exact ⟨fun h ⟨j,h1,h2⟩=>h j h1 h2,fun h j h1 h2=>h ⟨j,h1,h2⟩⟩
end
theorem QeY (n:Nat) (f:ByteArray) (hf:f.size≤maxLen):Pure (Qq Tryz.prog (n+1)) 91 [(tS f)] (tB (decide (QbP f))):=by
 refine Pure.intro (rs:= [ResultVar.tmp 2]) Tryz.func91 rfl rfl rfl (E0:= [(0,(tS f))]) rfl ?_
 obtain ⟨hlim,hmx,hmax⟩:=QC
 refine sr (fO (OF.assign (VEv.bool false)) (nt (sq (sr (fO (OF.assign (VEv.int .i64 0)) (nt (VRun.block ?_)))))))
 refine VRun.loop (A:=Nat) (fun s_=> [(0,(tS f)),(3,(tN s_))]) (fun s_=>Q3 []) 0 (fun s_=>s_≤f.size∧∀j,j<s_→¬Qu f j=63) (fun s_=>f.size - s_) (0:Nat) ?_ (Wk.mk (fun k=>k) ?_ ?_ ?_) ?_
 ·exact ⟨Nat.zero_le _,fun j hj=>by omega⟩
 ·exact (b2 (b2 bn))
 ·exact bn
 ·exact nd rfl
 rintro i (hI':i≤f.size∧∀j,j<i→¬Qu f j=63)
 show VRun _ _ _ [(0,(tS f)),(3,(tN i))] (Q3 []) 0 _
 have hI1:=hI'.1
 refine sq (sr (mO (tN i) rfl (mO (tS f) rfl (lO (B.lenS (tv (tS f) rfl) U9) (fO (Zf (tv (tN i) rfl) (tv (tN f.size) rfl)) (nt ?_))))))
 refine cd (i<f.size) rfl (fun fhc0=> ?_) fun fhc0=> ?_
 ·refine sk ?_
  refine tn (sq (VRun.block (sr (mO (tS f) rfl (mO (tN i) rfl ?_)))))
  have hb1:i<f.size:=(by omega)
  refine fO (JN (tv (tS f) rfl) (tv (tN i) rfl) hb1 U9) (fO (Y7 (tv (T.int .u8 (Qu f i)) rfl) (VEv.int .u8 63)) (nt ?_))
  refine cd (Qu f i=63) rfl (fun fhc1=> ?_) fun fhc1=> ?_
  ·refine sr ?_
   refine fO (OF.assign (VEv.bool true)) (nt (rt (vinB.r (tr (tr (vinB.r (tr (vb (b':=true) rfl ?_))))))))
   symm;rw [decide_eq_true_eq];exact ⟨i,fhc0,fhc1⟩
  refine sk (vinB.n (tn (VRun.region (mO (tN i) rfl (fO (QB (tv (tN i) rfl) (VEv.int .i64 1) (by omega)) (aO (tN (i+1)) rfl (VRunO.nil (tn ?_))))))))
  refine ⟨(i+1:Nat),?_,?_,Wk.mk (fun k=>k) ?_ ?_ ?_⟩
  ·exact QS hI' fhc0 fhc1
  ·omega
  ·exact (b2 (b2 bn))
  ·exact bn
  ·exact nd rfl
 refine VRun.exit (vthn.e (vthn.e (vinB.e (tn (sr (fO (OF.assign (VEv.bool false)) (nt (rt (vb (b':=false) rfl ?_)))))))))
 symm;rw [decide_eq_false_iff_not];rintro ⟨j,h1,h2⟩;exact hI'.2 j (by omega) h2
theorem Qfx (n:Nat) (f:ByteArray) (hf:f.size≤maxLen):Pure (Qq Tryz.prog (n+1)) 94 [(tS f)] (tN (YV f f.size)):=by
 refine Pure.intro (rs:= [ResultVar.tmp 2]) Tryz.func94 rfl rfl rfl (E0:= [(0,(tS f))]) rfl ?_
 obtain ⟨hlim,hmx,hmax⟩:=QC
 refine sr (fO (OF.assign (VEv.int .i64 0)) (nt (sr (fO (OF.assign (VEv.int .i64 0)) (nt (sq (sr (mO (tS f) rfl (lO (B.lenS (tv (tS f) rfl) U9) (fO (OF.move (VEv.int .i64 0)) (nt ?_)))))))))))
 refine VRun.block ?_
 refine VRun.loop (A:=Nat) (fun s_=> [(0,(tS f)),(2,(tN 0)),(3,(tN (YV f s_))),(6,(tN f.size)),(7,(tN s_))]) (fun s_=>Q3 []) 0 (fun s_=>s_≤f.size) (fun s_=>f.size - s_) (0:Nat) ?_ (Wk.mk (fun k=>k) ?_ ?_ ?_) ?_
 ·(simp;done)
 ·exact (b2 (b2 (bc ⟨(congrArg (T.int .i64) (show 0=((YV f 0:Nat):Int) from (by rfl))),rfl⟩ (b2 (b2 bn)))))
 ·exact bn
 ·exact nd rfl
 rintro i (hI':i≤f.size)
 show VRun _ _ _ [(0,(tS f)),(2,(tN 0)),(3,(tN (YV f i))),(6,(tN f.size)),(7,(tN i))] (Q3 []) 0 _
 have hol:=Qgx f i
 refine sr (fO (Zf (tv (tN i) rfl) (tv (tN f.size) rfl)) (nt (sq ?_)))
 refine cd (i<f.size) rfl (fun fhc0=> ?_) fun fhc0=> ?_
 ·refine sk ?_
  refine tn (sq (VRun.block (sr (mO (tN i) rfl (aO (tN i) rfl (nt (sr (mO (tS f) rfl (mO (tN i) rfl ?_)))))))))
  have hb1:i<f.size:=(by omega)
  refine fO (JN (tv (tS f) rfl) (tv (tN i) rfl) hb1 U9) (fO (Y7 (tv (T.int .u8 (Qu f i)) rfl) (VEv.int .u8 63)) (nt ?_))
  refine cd (Qu f i=63) rfl (fun fhc1=> ?_) fun fhc1=> ?_
  ·refine VRun.region ?_
   refine mO (tN (YV f i)) rfl (fO (QB (tv (tN (YV f i)) rfl) (VEv.int .i64 1) (by omega)) (aO (tN (YV f i+1)) rfl (VRunO.nil (vinB.n (tn (VRun.region (fO (QB (tv (tN i) rfl) (VEv.int .i64 1) (by omega)) (mO (tN (i+1)) rfl (VRunO.nil (tn ?_))))))))))
   refine ⟨(i+1:Nat),?_,?_,Wk.mk (fun k=>k) ?_ ?_ ?_⟩
   ·trivial
   ·omega
   ·exact (b2 (b2 (bc ⟨(congrArg (T.int .i64) (show (((YV f i+1):Nat):Int)=((YV f (i+1):Nat):Int) from (by (rw [YV,if_pos fhc1];done)))),rfl⟩ (b2 (b2 bn)))))
   ·exact bn
   ·exact nd rfl
  refine sk (vinB.n (tn (VRun.region (fO (QB (tv (tN i) rfl) (VEv.int .i64 1) (by omega)) (mO (tN (i+1)) rfl (VRunO.nil (tn ?_)))))))
  refine ⟨(i+1:Nat),?_,?_,Wk.mk (fun k=>k) ?_ ?_ ?_⟩
  ·trivial
  ·omega
  ·exact (b2 (b2 (bc ⟨(congrArg (T.int .i64) (show ((YV f i:Nat):Int)=((YV f (i+1):Nat):Int) from (by (rw [YV,if_neg fhc1];rfl)))),rfl⟩ (b2 (b2 bn)))))
  ·exact bn
  ·exact nd rfl
 refine VRun.exit (vthn.e (vthn.e (vinB.e (tn (sr (mO (tN (YV f i)) rfl (aO (tN (YV f i)) rfl (nt (rt (vi (n':=((YV f i:Nat):Int)) rfl ?_))))))))))
 rw [show i=f.size by omega]
noncomputable section
def Z1 (p:D.Puzzle):Prop:=Z3 p.Grid=0∧p.Clues.length=(Qb p.Grid).length∧p.Seals.length=(Qb p.Grid).length∧(1≤p.Salt∧p.Salt≤9999)∧∀c∈p.Clues,okC c
instance (p:D.Puzzle):Decidable (Z1 p):=Classical.propDecidable _
def noC (c:D.Clue):Prop:=¬okC c
instance (c:D.Clue):Decidable (noC c):=Classical.propDecidable _
end
theorem Qc0 (n:Nat) (c:D.Clue) (hz:QQ c≤mx):Pure (Qq Tryz.prog (n+5)) 109 [(T.agg (Qg false c))] (tB (decide (noC c))):=by
 refine Pure.intro (rs:= [ResultVar.tmp 2]) Tryz.func109 rfl rfl rfl (E0:= [(0,(T.agg (Qg false c)))]) rfl ?_
 obtain ⟨hlim,hmx,hmax⟩:=QC
 refine sr (kO (B.box (ts:=(Qg false c)) (tv (T.agg (Qg false c)) rfl) nofun rfl) (fO (OF.assign (VEv.bool false)) (nt (sr (lO (OL.loadOn (us:=(Qg false c)) (tv (T.op 0 0) rfl) rfl QiD Qbb (lb rfl) rfl) (cO (cS (vc (tv (T.agg (Qg false c)) rfl) vn) (LendL.cons (lg okeClue) ln) (QfM (n+0) c (by assumption)) rfl rfl) (fO (QW (tv (tB (decide ((1≤c.Sense∧c.Sense≤99)∧Ys c.Play))) rfl)) (aO (tB (!(decide ((1≤c.Sense∧c.Sense≤99)∧Ys c.Play)))) rfl (nt (rt (vb (b':=(!(decide ((1≤c.Sense∧c.Sense≤99)∧Ys c.Play)))) rfl ?_)))))))))))
 rw [dN];exact Zb Iff.rfl
theorem ZK (n:Nat) (l:List D.Clue) (hz:zL QQ l≤mx):Pure (Qq Tryz.prog (n+6)) 141 [(rd 2 Qg l),(T.fn 109 [])] (tI (ixF noC l)):=by
 refine Pure.intro (rs:= [ResultVar.tmp 4]) Tryz.func141 rfl rfl rfl (E0:= [(0,(rd 2 Qg l)),(1,(T.fn 109 []))]) rfl ?_
 obtain ⟨hlim,hmx,hmax⟩:=QC
 have hl:=QV (z:=QQ) l
 refine sr (fO (OF.assign (VEv.int .i64 0)) (nt (sq (sr (mO (rd 2 Qg l) rfl (lO (B.lenR (m:=l.length) (tv (rd 2 Qg l) rfl) U35 (List.length_map ..)) (fO (OF.move (VEv.int .i64 0)) (nt (VRun.block ?_)))))))))
 refine VRun.loop (A:=Nat) (fun s_=> [(0,(rd 2 Qg l)),(1,(T.fn 109 [])),(7,(tN l.length)),(8,(tN s_))]) (fun s_=>Q3 []) 0 (fun s_=>NoneTo noC l s_) (fun s_=>l.length - s_) (0:Nat) ?_ (Wk.mk (fun k=>k) ?_ ?_ ?_) ?_
 ·exact NoneTo.start _ _
 ·exact (b2 (b2 (b2 (b2 bn))))
 ·exact bn
 ·exact nd rfl
 rintro i (hI':NoneTo noC l i)
 show VRun _ _ _ [(0,(rd 2 Qg l)),(1,(T.fn 109 [])),(7,(tN l.length)),(8,(tN i))] (Q3 []) 0 _
 have hI1:=hI'.1
 refine sr (fO (Zf (tv (tN i) rfl) (tv (tN l.length) rfl)) (nt (sq ?_)))
 refine cd (i<l.length) rfl (fun fhc0=> ?_) fun fhc0=> ?_
 ·refine sk ?_
  refine tn (sq (VRun.block (sr (mO (tN i) rfl (aO (tN i) rfl (nt (sr (mO (T.fn 109 []) rfl (mO (rd 2 Qg l) rfl (mO (tN i) rfl ?_))))))))))
  obtain ⟨x1,hx1⟩:∃x,l[i]? =some x:=⟨_,List.getElem?_eq_getElem (by omega)⟩
  refine fO (OF.indexAddrR (row:=(Qg false x1)) (i:=i) (tv (rd 2 Qg l) rfl) (tv (tN i) rfl) rfl (Qv _ hx1) U35 Qbb QgJ) (lO (OL.loadRn (us:=(Qg false x1)) (tv (T.rp (Qg false x1)) rfl) QiD Qbb (lb rfl) rfl) (cO (OC.callv (us:= [(T.agg (Qg false x1))]) (ucaps:= []) (r:=(tB (decide (noC x1)))) (r':=(tB (decide (noC x1)))) (objs:= []) rfl rfl (vc (tv (T.agg (Qg false x1)) rfl) vn) (LendL.cons (lg okeClue) ln) ln (Qc0 (n+0) x1 (by exact Nat.le_trans (Qgb hx1) hz)) rfl) (nt ?_)))
  refine cd (noC x1) rfl (fun fhc1=> ?_) fun fhc1=> ?_
  ·refine sr ?_
   refine mO (tN i) rfl (aO (tN i) rfl (nt (rt (vinB.r (tr (tr (vinB.r (tr (vi (n':=((i:Nat):Int)) rfl ?_)))))))))
   exact (Qdj hx1 fhc1 hI'.2).symm
  refine sk (vinB.n (tn (VRun.region (fO (QB (tv (tN i) rfl) (VEv.int .i64 1) (by omega)) (mO (tN (i+1)) rfl (VRunO.nil (tn ?_)))))))
  refine ⟨(i+1:Nat),?_,?_,Wk.mk (fun k=>k) ?_ ?_ ?_⟩
  ·exact hI'.next hx1 fhc1
  ·omega
  ·exact (b2 (b2 (b2 (b2 bn))))
  ·exact bn
  ·exact nd rfl
 refine VRun.exit (vthn.e (vthn.e (vinB.e (tn (sr (fO (OF.assign (VEv.int .i64 (-1))) (nt (rt (vi (n':=(-1)) rfl ?_)))))))))
 exact (QeB (hI'.all fhc0)).symm
theorem Zz (n:Nat) (l:List D.Clue) (hz:zL QQ l≤mx):Pure (Qq Tryz.prog (n+7)) 108 [(rd 2 Qg l),(T.fn 109 [])] (tB (decide (∃c∈l,noC c))):=by
 refine Pure.intro (rs:= [ResultVar.tmp 4]) Tryz.func108 rfl rfl rfl (E0:= [(0,(rd 2 Qg l)),(1,(T.fn 109 []))]) rfl ?_
 obtain ⟨hlim,hmx,hmax⟩:=QC
 refine sr (fO (OF.assign (VEv.bool false)) (nt (sr (mO (rd 2 Qg l) rfl (mO (T.fn 109 []) rfl (cO (cS (us:= [(rd 2 Qg l),(T.fn 109 [])]) (vc (tv (rd 2 Qg l) rfl) (vc (tv (T.fn 109 []) rfl) vn)) (lp rfl (LendL.cons (Lend.fn ln) ln)) (ZK (n+0) l (by assumption)) rfl rfl) (fO (xge (tv (tI (ixF noC l)) rfl) (VEv.int .i64 0)) (aO (tB (decide (0≤ixF noC l))) rfl (nt (rt (vb (b':=(decide (0≤ixF noC l))) rfl ?_)))))))))))
 refine Zb ?_;exact Qih
theorem Qd8 (n:Nat) (a:D.Puzzle) (hz:QL a≤mx):Pure (Qq Tryz.prog (n+10)) 57 [(T.agg (Qp false a))] (tB (decide (Z1 a))):=by
 refine Pure.intro (rs:= [ResultVar.tmp 2]) Tryz.func57 rfl rfl rfl (E0:= [(0,(T.agg (Qp false a)))]) rfl ?_
 obtain ⟨hlim,hmx,hmax⟩:=QC
 simp only [QL,ZE] at hz
 have hl:=QV (z:=QQ) a.Clues
 have hl2:=QV (z:=zI) a.Seals
 refine sr (kO (B.box (ts:=(Qp false a)) (tv (T.agg (Qp false a)) rfl) nofun rfl) (fO (OF.assign (VEv.bool false)) (nt (sq (sr (fO (OF.assign (VEv.int .i64 0)) (nt (VRun.block ?_))))))))
 refine VRun.loop (A:=Nat) (fun s_=> [(1,(T.op 0 0)),(3,(tN s_))]) (fun s_=>Q3 [(0,(Obj.cells (Qp false a)))]) 1 (fun s_=>NoneTo noC a.Clues s_) (fun s_=>a.Clues.length - s_) (0:Nat) ?_ (Wk.mk (fun k=>k) ?_ ?_ ?_) ?_
 ·exact NoneTo.start _ _
 ·exact (b2 (b2 bn))
 ·exact (b3 bn)
 ·exact nd rfl
 rintro i (hI':NoneTo noC a.Clues i)
 show VRun _ _ _ [(1,(T.op 0 0)),(3,(tN i))] (Q3 [(0,(Obj.cells (Qp false a)))]) 1 _
 have hI1:=hI'.1
 refine sq (sr (mO (tN i) rfl (lf (rd 2 Qg a.Clues) rfl Y2 rfl rfl Qdq (lO (B.lenR (m:=a.Clues.length) (tv (rd 2 Qg a.Clues) rfl) U35 (List.length_map ..)) (fO (Zf (tv (tN i) rfl) (tv (tN a.Clues.length) rfl)) (nt ?_))))))
 refine cd (i<a.Clues.length) rfl (fun fhc0=> ?_) fun fhc0=> ?_
 ·refine sk ?_
  refine tn (sq (VRun.block (sr (lf (rd 2 Qg a.Clues) rfl Y2 rfl rfl Qdq (mO (tN i) rfl ?_)))))
  obtain ⟨x1,hx1⟩:∃x,a.Clues[i]? =some x:=⟨_,List.getElem?_eq_getElem (by omega)⟩
  refine fO (OF.indexAddrR (row:=(Qg false x1)) (i:=i) (tv (rd 2 Qg a.Clues) rfl) (tv (tN i) rfl) rfl (Qv _ hx1) U35 Qbb QgJ) (lO (OL.loadRn (us:=(Qg false x1)) (tv (T.rp (Qg false x1)) rfl) QiD Qbb (lb rfl) rfl) (cO (cS (vc (tv (T.agg (Qg false x1)) rfl) vn) (LendL.cons (lg okeClue) ln) (QfF (n+4) x1 (by exact Nat.le_trans (Qgb hx1) (by omega))) rfl rfl) (fO (QW (tv (tB (decide ((1≤x1.Sense∧x1.Sense≤99)∧Ys x1.Play))) rfl)) (nt ?_))))
  refine cn ((1≤x1.Sense∧x1.Sense≤99)∧Ys x1.Play) rfl (fun fhc1=> ?_) fun fhc1=> ?_
  ·refine sr ?_
   refine fO (OF.assign (VEv.bool false)) (nt (rt (vinB.r (tr (tr (vinB.r (tr (vb (b':=false) rfl ?_))))))))
   symm;rw [decide_eq_false_iff_not];rintro ⟨_,_,_,_,h⟩;exact fhc1 (h x1 (List.mem_of_getElem? hx1))
  refine sk (vinB.n (tn (VRun.region (mO (tN i) rfl (fO (QB (tv (tN i) rfl) (VEv.int .i64 1) (by omega)) (aO (tN (i+1)) rfl (VRunO.nil (tn ?_))))))))
  refine ⟨(i+1:Nat),?_,?_,Wk.mk (fun k=>k) ?_ ?_ ?_⟩
  ·exact hI'.next hx1 (fun h=>h fhc1)
  ·omega
  ·exact (b2 (b2 bn))
  ·exact (b3 bn)
  ·exact nd rfl
 refine VRun.exit (vthn.e (vthn.e (vinB.e (tn (sr (fO (OF.fieldAddrO (tv (T.op 0 0) rfl) Y0) (lO (OL.loadOn (us:=(Qc false a.Grid)) (tv (T.op 0 0) rfl) rfl QX QT (lb rfl) rfl) (cO (OC.callF (us:= [(T.agg (Qc false a.Grid))]) (r:=(T.sl true 4 ((Qb a.Grid).map (Qf true)))) (r':=(T.os 4 1 0 (((Qb a.Grid).map (Qf true)).length))) (objs:= [(Obj.rows 4 ((Qb a.Grid).map (Qf true)))]) rfl (vc (tv (T.agg (Qc false a.Grid)) rfl) vn) (LendL.cons (lg Qs) ln) (ZA (n+6) a.Grid (by omega)) rfl) (lO (B.lenO (m:=(Qb a.Grid).length) (tv (T.os 4 1 0 (((Qb a.Grid).map (Qf true)).length)) rfl) Z9 (List.length_map ..)) (aO (tN ((Qb a.Grid).length)) rfl (nt ?_)))))))))))
 refine sr (fO (OF.fieldAddrO (tv (T.op 0 0) rfl) Y0) (lO (OL.loadOn (us:=(Qc false a.Grid)) (tv (T.op 0 0) rfl) rfl QX QT (lb rfl) rfl) (cO (cS (vc (tv (T.agg (Qc false a.Grid)) rfl) vn) (LendL.cons (lg Qs) ln) (QfN (n+0) a.Grid (by omega)) rfl rfl) (fO (Y7 (tv (tI (Z3 a.Grid)) rfl) (VEv.int .i64 0)) (mO (tB (decide (Z3 a.Grid=0))) rfl ?_)))))
 refine VRunO.joinB 6 [28,29,30,31,32] 33 (tB (decide ((Z3 a.Grid=0)∧(a.Clues.length=(Qb a.Grid).length)))) ?_ ?_
 ·refine gw (Z3 a.Grid=0) (fun fhg27_1=> ?_) fun fhg27_1=> ?_
  ·refine Yl (rd 2 Qg a.Clues) (dy fhg27_1) rfl rfl rfl rfl Y2 rfl rfl Qdq ?_
   refine gL (dy fhg27_1) rfl rfl (B.lenR (m:=a.Clues.length) (tv (rd 2 Qg a.Clues) rfl) U35 (List.length_map ..)) (gF (dy fhg27_1) rfl rfl (OF.move (tv (tN ((Qb a.Grid).length)) rfl)) (gF (dy fhg27_1) rfl rfl (QlZ (tv (tN a.Clues.length) rfl) (tv (tN ((Qb a.Grid).length)) rfl)) (fO (OF.pickT (VEv.tmpB rfl (dy fhg27_1)) (tv (tB (decide (a.Clues.length=(Qb a.Grid).length))) rfl)) (VRunO.nil ?_))))
   exact jq (congrArg T.bool (kAT fhg27_1 rfl)) (js rfl (js rfl (js rfl (js rfl (js rfl (jn))))))
  ·refine Qy 5 4 true 27 (dz fhg27_1) rfl rfl rfl ?_
   refine fO (OF.pickF (VEv.tmpB rfl (dz fhg27_1)) (VEv.bool false)) (VRunO.nil ?_)
   exact jq (congrArg T.bool (kAF fhg27_1)) (js rfl (js rfl (js rfl (js rfl (js rfl (jn))))))
 refine mO (tB (decide ((Z3 a.Grid=0)∧(a.Clues.length=(Qb a.Grid).length)))) rfl ?_
 refine VRunO.joinB 6 [35,36,37,38,39] 40 (tB (decide (((Z3 a.Grid=0)∧(a.Clues.length=(Qb a.Grid).length))∧(a.Seals.length=(Qb a.Grid).length)))) ?_ ?_
 ·refine gw ((Z3 a.Grid=0)∧(a.Clues.length=(Qb a.Grid).length)) (fun fhg34_2=> ?_) fun fhg34_2=> ?_
  ·refine Yl (rd 1 Qa a.Seals) (dy fhg34_2) rfl rfl rfl rfl Qbj rfl rfl YY ?_
   refine gL (dy fhg34_2) rfl rfl (B.lenR (m:=a.Seals.length) (tv (rd 1 Qa a.Seals) rfl) Zg (List.length_map ..)) (gF (dy fhg34_2) rfl rfl (OF.move (tv (tN ((Qb a.Grid).length)) rfl)) (gF (dy fhg34_2) rfl rfl (QlZ (tv (tN a.Seals.length) rfl) (tv (tN ((Qb a.Grid).length)) rfl)) (fO (OF.pickT (VEv.tmpB rfl (dy fhg34_2)) (tv (tB (decide (a.Seals.length=(Qb a.Grid).length))) rfl)) (VRunO.nil ?_))))
   exact jq (congrArg T.bool (kAT fhg34_2 rfl)) (js rfl (js rfl (js rfl (js rfl (js rfl (jn))))))
  ·refine Qy 5 11 true 34 (dz fhg34_2) rfl rfl rfl ?_
   refine fO (OF.pickF (VEv.tmpB rfl (dz fhg34_2)) (VEv.bool false)) (VRunO.nil ?_)
   exact jq (congrArg T.bool (kAF fhg34_2)) (js rfl (js rfl (js rfl (js rfl (js rfl (jn))))))
 refine mO (tB (decide (((Z3 a.Grid=0)∧(a.Clues.length=(Qb a.Grid).length))∧(a.Seals.length=(Qb a.Grid).length)))) rfl ?_
 refine VRunO.joinB 4 [42,43,44] 45 (tB (decide ((((Z3 a.Grid=0)∧(a.Clues.length=(Qb a.Grid).length))∧(a.Seals.length=(Qb a.Grid).length))∧(1≤a.Salt∧a.Salt≤9999)))) ?_ ?_
 ·refine gw (((Z3 a.Grid=0)∧(a.Clues.length=(Qb a.Grid).length))∧(a.Seals.length=(Qb a.Grid).length)) (fun fhg41_3=> ?_) fun fhg41_3=> ?_
  ·refine Yl (tI a.Salt) (dy fhg41_3) rfl rfl rfl rfl Qcq rfl rfl QU ?_
   refine VRunO.chain (VWant.on rfl rfl (dy fhg41_3)) (cS (vc (tv (tI a.Salt) rfl) (vc (VEv.int .i64 1) (vc (VEv.int .i64 9999) vn))) (ZJ rfl) (QH (n+8) a.Salt 1 9999) rfl rfl) (fO (OF.pickT (VEv.tmpB rfl (dy fhg41_3)) (tv (tB (decide (1≤a.Salt∧a.Salt≤9999))) rfl)) (VRunO.nil ?_))
   exact jq (congrArg T.bool (kAT fhg41_3 rfl)) (js rfl (js rfl (js rfl (jn))))
  ·refine Qy 3 18 true 41 (dz fhg41_3) rfl rfl rfl ?_
   refine fO (OF.pickF (VEv.tmpB rfl (dz fhg41_3)) (VEv.bool false)) (VRunO.nil ?_)
   exact jq (congrArg T.bool (kAF fhg41_3)) (js rfl (js rfl (js rfl (jn))))
 refine aO (tB (decide ((((Z3 a.Grid=0)∧(a.Clues.length=(Qb a.Grid).length))∧(a.Seals.length=(Qb a.Grid).length))∧(1≤a.Salt∧a.Salt≤9999)))) rfl (nt (rt (vb (b':=(decide ((((Z3 a.Grid=0)∧(a.Clues.length=(Qb a.Grid).length))∧(a.Seals.length=(Qb a.Grid).length))∧(1≤a.Salt∧a.Salt≤9999)))) rfl ?_)))
 refine Zb ⟨fun h=>⟨h.1.1.1,h.1.1.2,h.1.2,h.2,fun c hc=>Classical.byContradiction fun e=>hI'.mem fhc0 c hc e⟩,fun h=>⟨⟨⟨h.1,h.2.1⟩,h.2.2.1⟩,h.2.2.2.1⟩⟩
theorem Qec (n:Nat) (a:D.Puzzle) (hz:QL a≤mx):Pure (Qq Tryz.prog (n+42)) 62 [(T.agg (Qp false a))] (tB (decide (Z1 a))):=by
 refine Pure.intro (rs:= [ResultVar.tmp 2]) Tryz.func62 rfl rfl rfl (E0:= [(0,(T.agg (Qp false a)))]) rfl ?_
 obtain ⟨hlim,hmx,hmax⟩:=QC
 simp only [QL,ZE] at hz
 have hl:=QV (z:=QQ) a.Clues
 have hl2:=QV (z:=zI) a.Seals
 refine sr (kO (B.box (ts:=(Qp false a)) (tv (T.agg (Qp false a)) rfl) nofun rfl) (fO (OF.assign (VEv.bool false)) (nt (sq (sr (fO (OF.fieldAddrO (tv (T.op 0 0) rfl) Y0) (lO (OL.loadOn (us:=(Qc false a.Grid)) (tv (T.op 0 0) rfl) rfl QX QT (lb rfl) rfl) (cO (cS (vc (tv (T.agg (Qc false a.Grid)) rfl) vn) (LendL.cons (lg Qs) ln) (QfH (n+0) a.Grid (by omega)) rfl rfl) (fO (xne (tv (tI (Z3 a.Grid)) rfl) (VEv.int .i64 0)) (nt ?_))))))))))
 refine cn (Z3 a.Grid=0) rfl (fun fhc0=> ?_) fun fhc0=> ?_
 ·refine sr ?_
  refine fO (OF.assign (VEv.bool false)) (nt (rt (tr (vb (b':=false) rfl ?_))))
  symm;rw [decide_eq_false_iff_not];intro h;exact fhc0 h.1
 refine sk (tn (sr (fO (OF.fieldAddrO (tv (T.op 0 0) rfl) Y0) (lO (OL.loadOn (us:=(Qc false a.Grid)) (tv (T.op 0 0) rfl) rfl QX QT (lb rfl) rfl) (cO (OC.callF (us:= [(T.agg (Qc false a.Grid))]) (r:=(T.sl true 4 ((Qb a.Grid).map (Qf true)))) (r':=(T.os 4 1 0 (((Qb a.Grid).map (Qf true)).length))) (objs:= [(Obj.rows 4 ((Qb a.Grid).map (Qf true)))]) rfl (vc (tv (T.agg (Qc false a.Grid)) rfl) vn) (LendL.cons (lg Qs) ln) (JZ (n+38) a.Grid (by omega)) rfl) (lO (B.lenO (m:=(Qb a.Grid).length) (tv (T.os 4 1 0 (((Qb a.Grid).map (Qf true)).length)) rfl) Z9 (List.length_map ..)) (aO (tN ((Qb a.Grid).length)) rfl (nt (sr (lf (rd 2 Qg a.Clues) rfl Y2 rfl rfl Qdq (lO (B.lenR (m:=a.Clues.length) (tv (rd 2 Qg a.Clues) rfl) U35 (List.length_map ..)) ?_)))))))))))
 refine mO (tN ((Qb a.Grid).length)) rfl (fO (QlZ (tv (tN a.Clues.length) rfl) (tv (tN ((Qb a.Grid).length)) rfl)) (mO (tB (decide (a.Clues.length=(Qb a.Grid).length))) rfl ?_))
 refine gw (a.Clues.length=(Qb a.Grid).length) (fun fhg17_1=> ?_) fun fhg17_1=> ?_
 ·refine Yl (rd 1 Qa a.Seals) (dy fhg17_1) rfl rfl rfl rfl Qbj rfl rfl YY ?_
  refine gL (dy fhg17_1) rfl rfl (B.lenR (m:=a.Seals.length) (tv (rd 1 Qa a.Seals) rfl) Zg (List.length_map ..)) (gF (dy fhg17_1) rfl rfl (OF.move (tv (tN ((Qb a.Grid).length)) rfl)) (gF (dy fhg17_1) rfl rfl (QlZ (tv (tN a.Seals.length) rfl) (tv (tN ((Qb a.Grid).length)) rfl)) (fO (OF.pickT (VEv.tmpB rfl (dy fhg17_1)) (tv (tB (decide (a.Seals.length=(Qb a.Grid).length))) rfl)) (mO (tB (decide (a.Seals.length=(Qb a.Grid).length))) rfl ?_))))
  refine gw (a.Seals.length=(Qb a.Grid).length) (fun fhg24_2=> ?_) fun fhg24_2=> ?_
  ·refine Yl (tI a.Salt) (dy fhg24_2) rfl rfl rfl rfl Qcq rfl rfl QU ?_
   refine VRunO.chain (VWant.on rfl rfl (dy fhg24_2)) (cS (vc (tv (tI a.Salt) rfl) (vc (VEv.int .i64 1) (vc (VEv.int .i64 9999) vn))) (ZJ rfl) (Q4 (n+40) a.Salt 1 9999) rfl rfl) (fO (OF.pickT (VEv.tmpB rfl (dy fhg24_2)) (tv (tB (decide (1≤a.Salt∧a.Salt≤9999))) rfl)) (mO (tB (decide (1≤a.Salt∧a.Salt≤9999))) rfl ?_))
   refine gw (1≤a.Salt∧a.Salt≤9999) (fun fhg29_3=> ?_) fun fhg29_3=> ?_
   ·refine Yl (rd 2 Qg a.Clues) (dy fhg29_3) rfl rfl rfl rfl Y2 rfl rfl Qdq ?_
    refine VRunO.chain (VWant.on rfl rfl (dy fhg29_3)) (cS (us:= [(rd 2 Qg a.Clues),(T.fn 109 [])]) (vc (tv (rd 2 Qg a.Clues) rfl) (vc (VEv.func 109) vn)) (lp rfl (LendL.cons (Lend.fn ln) ln)) (Zz (n+34) a.Clues (by omega)) rfl rfl) (gF (dy fhg29_3) rfl rfl (QW (tv (tB (decide (∃c∈a.Clues,noC c))) rfl)) (fO (OF.pickT (VEv.tmpB rfl (dy fhg29_3)) (tv (tB (!(decide (∃c∈a.Clues,noC c)))) rfl)) (aO (tB (!(decide (∃c∈a.Clues,noC c)))) rfl (nt (rt (vb (b':=(!(decide (∃c∈a.Clues,noC c)))) rfl ?_))))))
    (rw [dN];refine Zb ⟨fun h=>⟨?_,?_,?_,?_,fun c hc=>Classical.byContradiction fun e=>h ⟨c,hc,e⟩⟩,fun h=> ?_⟩<;>first | assumption | (rintro ⟨c,hc,hb⟩;exact hb (h.2.2.2.2 c hc)))
   refine Qy 4 17 true 29 (dz fhg29_3) rfl rfl rfl (fO (OF.pickF (VEv.tmpB rfl (dz fhg29_3)) (VEv.bool false)) (aO (tB false) rfl (nt (rt (vb (b':=false) rfl ?_)))))
   (symm;rw [decide_eq_false_iff_not];rintro ⟨h1,h2,h3,h4,h5⟩;contradiction)
  refine Qy 3 12 true 24 (dz fhg24_2) rfl rfl rfl (fO (OF.pickF (VEv.tmpB rfl (dz fhg24_2)) (VEv.bool false)) (mO (tB false) rfl (Qy 4 17 true 29 (b:=false) rfl rfl rfl rfl (fO (OF.pickF (tv (tB false) rfl) (VEv.bool false)) (aO (tB false) rfl (nt (rt (vb (b':=false) rfl ?_))))))))
  (symm;rw [decide_eq_false_iff_not];rintro ⟨h1,h2,h3,h4,h5⟩;contradiction)
 refine Qy 5 5 true 17 (dz fhg17_1) rfl rfl rfl (fO (OF.pickF (VEv.tmpB rfl (dz fhg17_1)) (VEv.bool false)) (mO (tB false) rfl (Qy 3 12 true 24 (b:=false) rfl rfl rfl rfl (fO (OF.pickF (tv (tB false) rfl) (VEv.bool false)) (mO (tB false) rfl (Qy 4 17 true 29 (b:=false) rfl rfl rfl rfl (fO (OF.pickF (tv (tB false) rfl) (VEv.bool false)) (aO (tB false) rfl (nt (rt (vb (b':=false) rfl ?_)))))))))))
 (symm;rw [decide_eq_false_iff_not];rintro ⟨h1,h2,h3,h4,h5⟩;contradiction)
end Go.Proofs.YtcccmceoplcciaaGreat.AE
namespace Go.Proofs.YtcccmceoplcciaaGreat.AE
open Go Go.RowKit
set_option linter.unusedVariables false
set_option linter.unusedSimpArgs false
set_option maxRecDepth 20000
set_option maxHeartbeats 2000000
noncomputable section
def wrI (f w:ByteArray) (cs:List Int):Nat→List Int
 | 0=>ZN f
 | i+1=>(wrI f w cs i).set (Int.toNat (cs.getD i 0)) (Qu w i)
def wrS (f w:ByteArray) (cs:List Int) (i:Nat):ByteArray:=Yc (wrI f w cs i)
theorem Qg0 (f w:ByteArray) (cs:List Int):∀i,(wrI f w cs i).length=f.size
 | 0=>QaX f
 | i+1=>by rw [wrI,List.length_set,Qg0 f w cs i]
theorem Qlf {f w:ByteArray} {cs:List Int} {i:Nat} {c:Int} (h:cs[i]? =some c):(wrI f w cs i).set (Int.toNat c) (Qu w i)=wrI f w cs (i+1):=by
 rw [wrI,List.getD_eq_getElem?_getD,h];rfl
theorem QkG (f w:ByteArray) (cs:List Int) (i:Nat):(wrS f w cs i).size=f.size:=by
 show (wrS f w cs i).data.size=_
 rw [← Array.length_toList]
 unfold wrS
 rw [ZV,List.length_map,Qg0]
theorem QjO (f:ByteArray):Yc (ZN f)=f:=by
 refine QbE ?_
 rw [ZV,ZN,List.map_map]
 refine List.map_id'' (fun b=> ?_) _
 simp
theorem QnG (f w:ByteArray) (cs:List Int):wrS f w cs 0=f:=QjO f
theorem Qlr {f w:ByteArray} {cs:List Int} {i:Nat} {c:Int} (h:cs[i]? =some c) (h1:0≤c∧c<((f.size:Nat):Int)) (h2:i<w.size):(wrS f w cs i).extract 0 (Int.toNat c)++w.extract i (i+1)++(wrS f w cs i).extract (Int.toNat (c+1)) (wrS f w cs i).size=wrS f w cs (i+1):=by
 have hl:=Qg0 f w cs i
 have hs:=QkG f w cs i
 have hc:Int.toNat c<(wrI f w cs i).length:=by omega
 have hb:Qu w i=((w.data.toList[i]'(by rw [Array.length_toList];exact h2)).toNat:Int):=by rw [← YN h2];rfl
 refine QbE ?_
 rw [hs]
 unfold wrS
 rw [← Qlf h,ZV]
 simp only [ByteArray.data_append,Array.toList_append,ByteArray.data_extract,Array.toList_extract,ZV,List.extract_eq_take_drop]
 rw [List.set_eq_take_append_cons_drop,if_pos hc]
 simp only [List.map_append,List.map_cons,List.map_take,List.map_drop]
 rw [show i+1 - i=1 by omega,show Int.toNat (c+1)=Int.toNat c+1 by omega,List.drop_eq_getElem_cons (show i<w.data.toList.length by rw [Array.length_toList];exact h2),hb]
 rw [List.drop_zero,Nat.sub_zero,List.take_of_length_le (l:=List.drop (Int.toNat c+1) (List.map _ (wrI f w cs i))) (by rw [List.length_drop,List.length_map,hl];omega),Int.toNat_natCast,UInt8.ofNat_toNat]
 simp only [List.take_succ_cons,List.take_zero,List.append_assoc,List.cons_append,List.nil_append]
end
end Go.Proofs.YtcccmceoplcciaaGreat.AE
namespace Go.Proofs.YtcccmceoplcciaaGreat.AE
open Go Go.RowKit
set_option linter.unusedVariables false
set_option linter.unusedSimpArgs false
set_option maxRecDepth 20000
set_option maxHeartbeats 2000000
noncomputable section
def Ya : List Int→Int→List Int
 | [],n=> [n]
 | x::r,n=>if x<n then x::Ya r n else if x=n then x::r else n::x::r
theorem Qmm {n:Int}:∀ {l:List Int} {k:Nat},(∀j y,j<k→l[j]? =some y→y<n)→l[k]? =some n→l=Ya l n
 | [],_,_,h=>by simp at h
 | x::r,0,_,h=>by
  obtain rfl:x=n:=by simpa using h
  simp [Ya]
 | x::r,k+1,h1,h=>by
  have h2:=h1 0 x (by omega) (by simp)
  simp only [Ya,if_pos h2]
  rw [← Qmm (k:=k) (fun j y hj hy=>h1 (j+1) y (by omega) (by simpa using hy)) (by simpa using h)]
theorem QiR {n:Int}:∀ {l:List Int} {k:Nat},(∀j y,j<k→l[j]? =some y→y<n)→k≤l.length→(∀y,l[k]? =some y→n<y)→(l.take k++ [n])++l.drop k=Ya l n
 | [],k,_,h,_=>by
  obtain rfl:k=0:=by simpa using h
  rfl
 | x::r,0,_,_,h=>by
  have h2:=h x (by simp)
  simp only [Ya]
  rw [if_neg (by omega),if_neg (by omega)]
  rfl
 | x::r,k+1,h1,h,h3=>by
  have h2:=h1 0 x (by omega) (by simp)
  simp only [Ya,if_pos h2]
  rw [← QiR (k:=k) (fun j y hj hy=>h1 (j+1) y (by omega) (by simpa using hy)) (by simpa using h) (fun y hy=>h3 y (by simpa using hy))]
  rfl
theorem Qh2 {α:Type} {l:List α} {i:Nat} {x y:α} (hx:l[i]? =some x) (hy:l[i]? =some y):y=x:=by
 rw [hx] at hy
 exact (Option.some.inj hy).symm
end
theorem QgY (n:Nat) (l:List Int) (v:Int) (hl:l.length≤mx):Pure (Qq Tryz.prog (n+1)) 48 [(rd 1 Qa l),(tI v)] (T.sl true 1 ((Ya l v).map (Qa true))):=by
 refine Pure.intro (rs:= [ResultVar.tmp 4]) Tryz.func48 rfl rfl rfl (E0:= [(0,(rd 1 Qa l)),(1,(tI v))]) rfl ?_
 obtain ⟨hlim,hmx,hmax⟩:=QC
 refine sr (fO (OF.assign VEv.nils) (nt (sr (fO (OF.assign (VEv.int .i64 0)) (nt (sq (VRun.block ?_)))))))
 refine VRun.loop (A:=Nat) (fun s_=> [(0,(rd 1 Qa l)),(1,(tI v)),(4,T.nils),(5,(tN s_))]) (fun s_=>Q3 []) 0 (fun s_=>s_≤l.length∧∀j y,j<s_→l[j]? =some y→y<v) (fun s_=>l.length - s_) (0:Nat) ?_ (Wk.mk (fun k=>k) ?_ ?_ ?_) ?_
 ·exact ⟨Nat.zero_le _,fun j y hj=>by omega⟩
 ·exact (b2 (b2 (b2 (b2 bn))))
 ·exact bn
 ·exact nd rfl
 rintro k (hI':k≤l.length∧∀j y,j<k→l[j]? =some y→y<v)
 show VRun _ _ _ [(0,(rd 1 Qa l)),(1,(tI v)),(4,T.nils),(5,(tN k))] (Q3 []) 0 _
 have hI1:=hI'.1
 refine sq (sr (mO (tN k) rfl (mO (rd 1 Qa l) rfl (lO (B.lenR (m:=l.length) (tv (rd 1 Qa l) rfl) Zg (List.length_map ..)) (fO (Zf (tv (tN k) rfl) (tv (tN l.length) rfl)) (mO (tB (decide (k<l.length))) rfl ?_))))))
 refine gw (k<l.length) (fun fhg10_1=> ?_) fun fhg10_1=> ?_
 ·refine gF (dy fhg10_1) rfl rfl (OF.move (tv (rd 1 Qa l) rfl)) ?_
  refine gF (dy fhg10_1) rfl rfl (OF.move (tv (tN k) rfl)) ?_
  obtain ⟨x1,hx1⟩:∃x,l[k]? =some x:=⟨_,List.getElem?_eq_getElem (by omega)⟩
  refine gF (dy fhg10_1) rfl rfl (OF.indexAddrR (row:=(Qa false x1)) (i:=k) (tv (rd 1 Qa l) rfl) (tv (tN k) rfl) rfl (Qv _ hx1) Zg Q8 Yk) (gL (dy fhg10_1) rfl rfl (OL.loadR1 (t:=(tI x1)) (tv (T.rp [(tI x1)]) rfl) rfl QU) (gF (dy fhg10_1) rfl rfl (OF.move (tv (tI v) rfl)) (gF (dy fhg10_1) rfl rfl (xls (tv (tI x1) rfl) (tv (tI v) rfl)) (fO (OF.pickT (VEv.tmpB rfl (dy fhg10_1)) (tv (tB (decide (x1<v))) rfl)) (nt ?_)))))
  refine cd (x1<v) rfl (fun fhc0=> ?_) fun fhc0=> ?_
  ·refine sk ?_
   refine tn (VRun.block (VRun.region (mO (tN k) rfl (fO (QB (tv (tN k) rfl) (VEv.int .i64 1) (by omega)) (aO (tN (k+1)) rfl (VRunO.nil (vinB.n (tn ?_))))))))
   refine ⟨(k+1:Nat),?_,?_,Wk.mk (fun k=>k) ?_ ?_ ?_⟩
   ·refine ⟨by omega,fun j y hj hy=> ?_⟩
    rcases Nat.lt_or_ge j k with h1 | h1
    ·exact hI'.2 j y h1 hy
    ·obtain rfl:j=k:=(by omega);obtain rfl:=Qh2 hx1 hy;assumption
   ·omega
   ·exact (b2 (b2 (b2 (b2 bn))))
   ·exact bn
   ·exact nd rfl
  refine VRun.exit (vthn.e (vthn.e (vinB.e (tn (sq (sr (mO (tN k) rfl (mO (rd 1 Qa l) rfl (lO (B.lenR (m:=l.length) (tv (rd 1 Qa l) rfl) Zg (List.length_map ..)) (fO (Zf (tv (tN k) rfl) (tv (tN l.length) rfl)) (mO (tB (decide (k<l.length))) rfl ?_)))))))))))
  refine gF (dy fhg10_1) rfl rfl (OF.move (tv (rd 1 Qa l) rfl)) (gF (dy fhg10_1) rfl rfl (OF.move (tv (tN k) rfl)) (gF (dy fhg10_1) rfl rfl (OF.indexAddrR (row:=(Qa false x1)) (i:=k) (tv (rd 1 Qa l) rfl) (tv (tN k) rfl) rfl (Qv _ hx1) Zg Q8 Yk) (gL (dy fhg10_1) rfl rfl (OL.loadR1 (t:=(tI x1)) (tv (T.rp [(tI x1)]) rfl) rfl QU) (gF (dy fhg10_1) rfl rfl (OF.move (tv (tI v) rfl)) (gF (dy fhg10_1) rfl rfl (Y7 (tv (tI x1) rfl) (tv (tI v) rfl)) (fO (OF.pickT (VEv.tmpB rfl (dy fhg10_1)) (tv (tB (decide (x1=v))) rfl)) (nt ?_)))))))
  refine cd (x1=v) rfl (fun fhc1=> ?_) fun fhc1=> ?_
  ·refine sr ?_
   refine kO (OM.slice0 Zg J3 (by kernel_rfl) rfl (by rw [Q8];decide) Q8) (mO (rd 1 Qa l) rfl (cO (B.append (rows:= []) (rows2:=(l.map (Qa false))) (rows3:=(l.map (Qa true))) (VDst.own (tv (T.os 1 0 0 0) rfl) rfl rfl) (VSrc.read (tv (rd 1 Qa l) rfl) Zg (okInt.okMap _ _)) nofun Zg Q8 (by decide) J3 rfl (of_decide_eq_true (by kernel_rfl)) (by (simp only [List.length_map,List.length_append,List.length_cons,List.length_nil,List.length_replicate,List.length_set,List.length_drop,List.length_take,YW] at *;omega)) (List.nil_append _)) (aO (T.os 1 1 0 ((l.map (Qa true)).length)) rfl (nt (rt (tr ?_))))))
   refine vfin.eq (r':=(T.sl true 1 (l.map (Qa true)))) ?_ (vfin.r (VRes.tmp (t:=(T.os 1 1 0 ((l.map (Qa true)).length))) rfl VRes.nil) (Give.os rfl rfl (okInt.cleanMap _)))
   show (T.sl true 1 (l.map (Qa true)))=(T.sl true 1 ((Ya l v).map (Qa true)))
   refine congrArg (fun l_=>T.sl true 1 (List.map (Qa true) l_)) ?_
   (refine Qmm hI'.2 ?_;simp_all;done)
  refine sk (tn (sq (VRun.draw (B:= [[],[],[],[2,1],[1,2,3,0],[],[5],[5,6,0,3,2,1,4],[],[],[9,8],[8,9,10,4,1,2,3,0,6,5,7],[7,5,6,0,3,2,1,4,10,9,8,11]]) (by kernel_rfl) (by kernel_rfl) (VRunD.make rfl VWant.always rfl (OM.slice0 Zg J3 (by kernel_rfl) rfl (by rw [Q8];decide) Q8) (mD (rd 1 Qa l) rfl rfl (mD (tN k) rfl rfl (lD (show OL _ _ _ _ _ (T.sl false 1 ((l.take k).map (Qa false))) by rw [List.map_take];exact (OL.sliceRHi (j:=k) (tv (rd 1 Qa l) rfl) (tv (tN k) rfl) rfl (by (simp only [List.length_map];omega)) Zg Q8 Yk)) rfl rfl (VRunD.quiet (bi:= [1,2,3,0]) rfl VWant.always rfl rfl rfl (bc (lb rfl) bn) (B.append (rows:= []) (rows2:=((l.take k).map (Qa false))) (rows3:=((l.take k).map (Qa true))) (VDst.own (tv (T.os 1 0 0 0) rfl) rfl rfl) (VSrc.read (tv (rd 1 Qa (l.take k)) rfl) Zg (okInt.okMap _ _)) nofun Zg Q8 (by decide) J3 rfl (of_decide_eq_true (by kernel_rfl)) (by (simp only [List.length_map,List.length_append,List.length_cons,List.length_nil,List.length_replicate,List.length_set,List.length_drop,List.length_take,YW] at *;omega)) (List.nil_append _)) (mD (tI v) rfl rfl (VRunD.make rfl VWant.always rfl (OM.buildSlice (l:= [(tI v)]) (VEvp.cons (tv (tI v) rfl) VEvp.nil) rfl (by decide) (bc (nofun) bn) (bc ((bc (rfl) bn)) bn) (bc (rfl) bn) Zg J3 (by kernel_rfl) rfl (by rw [Q8];decide) Q8 (Nat.le_of_ble_eq_true rfl)) (VRunD.quiet (bi:= [5,6,0,3,2,1,4]) rfl VWant.always rfl rfl rfl (bc (lb rfl) (bc (lb rfl) bn)) (B.append (rows:=((l.take k).map (Qa true))) (rows2:= [[(tI v)]]) (rows3:=(((l.take k)++ [v]).map (Qa true))) (VDst.own (tv (T.os 1 1 0 (((l.take k).map (Qa true)).length)) rfl) rfl rfl) (VSrc.own (tv (T.os 1 2 0 1) rfl) rfl rfl Zg (bc (bc rfl bn) bn)) (by decide) Zg Q8 (by decide) J3 rfl (of_decide_eq_true (by kernel_rfl)) (by (simp only [List.length_map,List.length_append,List.length_cons,List.length_nil,List.length_replicate,List.length_set,List.length_drop,List.length_take,YW] at *;omega)) ((List.map_append (f:=Qa true) (l₁:=(l.take k)) (l₂:= [v])).symm)) ?_)))))))))))
  refine mD (rd 1 Qa l) rfl rfl (mD (tN k) rfl rfl (lD (show OL _ _ _ _ _ (T.sl false 1 ((l.drop k).map (Qa false))) by rw [List.map_drop];exact (OL.sliceRLo (i:=k) (tv (rd 1 Qa l) rfl) (tv (tN k) rfl) rfl (by (simp only [List.length_map];omega)) Zg Q8 Yk)) rfl rfl (VRunD.quiet (bi:= [8,9,10,4,1,2,3,0,6,5,7]) rfl VWant.always rfl rfl rfl (bc (lb rfl) bn) (B.append (rows:=(((l.take k)++ [v]).map (Qa true))) (rows2:=((l.drop k).map (Qa false))) (rows3:=((((l.take k)++ [v])++(l.drop k)).map (Qa true))) (VDst.own (tv (T.os 1 3 0 ((((l.take k)++ [v]).map (Qa true)).length)) rfl) rfl rfl) (VSrc.read (tv (rd 1 Qa (l.drop k)) rfl) Zg (okInt.okMap _ _)) nofun Zg Q8 (by decide) J3 rfl (of_decide_eq_true (by kernel_rfl)) (by (simp only [List.length_map,List.length_append,List.length_cons,List.length_nil,List.length_replicate,List.length_set,List.length_drop,List.length_take,YW] at *;omega)) ((List.map_append (f:=Qa true) (l₁:=((l.take k)++ [v])) (l₂:=(l.drop k))).symm)) (fD (OF.assign (tv (T.os 1 4 0 (((((l.take k)++ [v])++(l.drop k)).map (Qa true)).length)) rfl)) rfl rfl (VRunD.nil (tn (rt ?_)))))))
  refine vfin.eq (r':=(T.sl true 1 ((((l.take k)++ [v])++(l.drop k)).map (Qa true)))) ?_ (vfin.r (VRes.tmp (t:=(T.os 1 4 0 (((((l.take k)++ [v])++(l.drop k)).map (Qa true)).length))) rfl VRes.nil) (Give.os rfl rfl (okInt.cleanMap _)))
  show (T.sl true 1 ((((l.take k)++ [v])++(l.drop k)).map (Qa true)))=(T.sl true 1 ((Ya l v).map (Qa true)))
  refine congrArg (fun l_=>T.sl true 1 (List.map (Qa true) l_)) ?_
  (refine QiR hI'.2 hI1 ?_;intro y hy;obtain rfl:=Qh2 hx1 hy;omega)
 refine Qy 6 4 true 10 (dz fhg10_1) rfl rfl rfl (fO (OF.pickF (VEv.tmpB rfl (dz fhg10_1)) (VEv.bool false)) (nt (cf rfl (VRun.exit (vthn.e (vthn.e (vinB.e (tn (sq (sr (mO (tN k) rfl ?_)))))))))))
 refine mO (rd 1 Qa l) rfl (lO (B.lenR (m:=l.length) (tv (rd 1 Qa l) rfl) Zg (List.length_map ..)) (fO (Zf (tv (tN k) rfl) (tv (tN l.length) rfl)) (mO (tB (decide (k<l.length))) rfl (Qy 6 4 true 24 (dz fhg10_1) rfl rfl rfl (fO (OF.pickF (VEv.tmpB rfl (dz fhg10_1)) (VEv.bool false)) (nt (cf rfl (sk (tn (sq (VRun.draw (B:= [[],[],[],[2,1],[1,2,3,0],[],[5],[5,6,0,3,2,1,4],[],[],[9,8],[8,9,10,4,1,2,3,0,6,5,7],[7,5,6,0,3,2,1,4,10,9,8,11]]) (by kernel_rfl) (by kernel_rfl) ?_)))))))))))
 refine VRunD.make rfl VWant.always rfl (OM.slice0 Zg J3 (by kernel_rfl) rfl (by rw [Q8];decide) Q8) (mD (rd 1 Qa l) rfl rfl (mD (tN k) rfl rfl (lD (show OL _ _ _ _ _ (T.sl false 1 ((l.take k).map (Qa false))) by rw [List.map_take];exact (OL.sliceRHi (j:=k) (tv (rd 1 Qa l) rfl) (tv (tN k) rfl) rfl (by (simp only [List.length_map];omega)) Zg Q8 Yk)) rfl rfl (VRunD.quiet (bi:= [1,2,3,0]) rfl VWant.always rfl rfl rfl (bc (lb rfl) bn) (B.append (rows:= []) (rows2:=((l.take k).map (Qa false))) (rows3:=((l.take k).map (Qa true))) (VDst.own (tv (T.os 1 0 0 0) rfl) rfl rfl) (VSrc.read (tv (rd 1 Qa (l.take k)) rfl) Zg (okInt.okMap _ _)) nofun Zg Q8 (by decide) J3 rfl (of_decide_eq_true (by kernel_rfl)) (by (simp only [List.length_map,List.length_append,List.length_cons,List.length_nil,List.length_replicate,List.length_set,List.length_drop,List.length_take,YW] at *;omega)) (List.nil_append _)) (mD (tI v) rfl rfl (VRunD.make rfl VWant.always rfl (OM.buildSlice (l:= [(tI v)]) (VEvp.cons (tv (tI v) rfl) VEvp.nil) rfl (by decide) (bc (nofun) bn) (bc ((bc (rfl) bn)) bn) (bc (rfl) bn) Zg J3 (by kernel_rfl) rfl (by rw [Q8];decide) Q8 (Nat.le_of_ble_eq_true rfl)) (VRunD.quiet (bi:= [5,6,0,3,2,1,4]) rfl VWant.always rfl rfl rfl (bc (lb rfl) (bc (lb rfl) bn)) (B.append (rows:=((l.take k).map (Qa true))) (rows2:= [[(tI v)]]) (rows3:=(((l.take k)++ [v]).map (Qa true))) (VDst.own (tv (T.os 1 1 0 (((l.take k).map (Qa true)).length)) rfl) rfl rfl) (VSrc.own (tv (T.os 1 2 0 1) rfl) rfl rfl Zg (bc (bc rfl bn) bn)) (by decide) Zg Q8 (by decide) J3 rfl (of_decide_eq_true (by kernel_rfl)) (by (simp only [List.length_map,List.length_append,List.length_cons,List.length_nil,List.length_replicate,List.length_set,List.length_drop,List.length_take,YW] at *;omega)) ((List.map_append (f:=Qa true) (l₁:=(l.take k)) (l₂:= [v])).symm)) (mD (rd 1 Qa l) rfl rfl (mD (tN k) rfl rfl (lD (show OL _ _ _ _ _ (T.sl false 1 ((l.drop k).map (Qa false))) by rw [List.map_drop];exact (OL.sliceRLo (i:=k) (tv (rd 1 Qa l) rfl) (tv (tN k) rfl) rfl (by (simp only [List.length_map];omega)) Zg Q8 Yk)) rfl rfl (VRunD.quiet (bi:= [8,9,10,4,1,2,3,0,6,5,7]) rfl VWant.always rfl rfl rfl (bc (lb rfl) bn) (B.append (rows:=(((l.take k)++ [v]).map (Qa true))) (rows2:=((l.drop k).map (Qa false))) (rows3:=((((l.take k)++ [v])++(l.drop k)).map (Qa true))) (VDst.own (tv (T.os 1 3 0 ((((l.take k)++ [v]).map (Qa true)).length)) rfl) rfl rfl) (VSrc.read (tv (rd 1 Qa (l.drop k)) rfl) Zg (okInt.okMap _ _)) nofun Zg Q8 (by decide) J3 rfl (of_decide_eq_true (by kernel_rfl)) (by (simp only [List.length_map,List.length_append,List.length_cons,List.length_nil,List.length_replicate,List.length_set,List.length_drop,List.length_take,YW] at *;omega)) ((List.map_append (f:=Qa true) (l₁:=((l.take k)++ [v])) (l₂:=(l.drop k))).symm)) ?_)))))))))))
 refine fD (OF.assign (tv (T.os 1 4 0 (((((l.take k)++ [v])++(l.drop k)).map (Qa true)).length)) rfl)) rfl rfl (VRunD.nil (tn (rt ?_)))
 refine vfin.eq (r':=(T.sl true 1 ((((l.take k)++ [v])++(l.drop k)).map (Qa true)))) ?_ (vfin.r (VRes.tmp (t:=(T.os 1 4 0 (((((l.take k)++ [v])++(l.drop k)).map (Qa true)).length))) rfl VRes.nil) (Give.os rfl rfl (okInt.cleanMap _)))
 show (T.sl true 1 ((((l.take k)++ [v])++(l.drop k)).map (Qa true)))=(T.sl true 1 ((Ya l v).map (Qa true)))
 refine congrArg (fun l_=>T.sl true 1 (List.map (Qa true) l_)) ?_
 (refine QiR hI'.2 hI1 ?_;intro y hy;have:=(List.getElem?_eq_some_iff.1 hy).1;omega)
end Go.Proofs.YtcccmceoplcciaaGreat.AE
namespace Go.Proofs.YtcccmceoplcciaaGreat.AE
open Go Go.RowKit
set_option linter.unusedVariables false
set_option linter.unusedSimpArgs false
set_option maxRecDepth 20000
set_option maxHeartbeats 2000000
noncomputable section
def Qd4 (l:List Int):Prop:=l.Pairwise (· < ·)
def QbT (l:List Int):List Int:=Lib.compact (YG l)
theorem QhN : ∀ {a b:List Int},Qd4 a→Qd4 b→(∀x,x∈a↔x∈b)→a=b
 | [],[],_,_,_=>rfl
 | [],y::s,_,_,h=>by have:=(h y).2 (by simp);simp at this
 | x::r,[],_,_,h=>by have:=(h x).1 (by simp);simp at this
 | x::r,y::s,h1,h2,h=>by
  have a1:=List.pairwise_cons.1 h1
  have b1:=List.pairwise_cons.1 h2
  have hxy:x=y:=by
   have e1:=(h x).1 (by simp)
   have e2:=(h y).2 (by simp)
   rcases List.mem_cons.1 e1 with e1 | e1
   ·exact e1
   ·rcases List.mem_cons.1 e2 with e2 | e2
    ·exact e2.symm
    ·have:=a1.1 y e2
     have:=b1.1 x e1
     omega
  subst hxy
  rw [QhN a1.2 b1.2 (fun z=> ?_)]
  have hz:=h z
  simp only [List.mem_cons] at hz
  refine ⟨fun e=> ?_,fun e=> ?_⟩
  ·have:=a1.1 z e
   rcases hz.1 (.inr e) with e1 | e1
   ·omega
   ·exact e1
  ·have:=b1.1 z e
   rcases hz.2 (.inr e) with e1 | e1
   ·omega
   ·exact e1
theorem Qf6 (d:Array Int) (hs:∀j,j+1<d.size→d[j]! ≤d[j+1]!):∀m,m≤d.size→Qd4 (Lib.compactUpTo d m)∧(∀x∈Lib.compactUpTo d m,0<m∧x≤d[m - 1]!)∧(∀j,j<m→d[j]! ∈Lib.compactUpTo d m)∧(∀x∈Lib.compactUpTo d m,∃j,j<m∧x=d[j]!)
 | 0,_=>⟨List.Pairwise.nil,fun x hx=>by simp [Lib.compactUpTo] at hx,fun j hj=>by omega,fun x hx=>by simp [Lib.compactUpTo] at hx⟩
 | m+1,hm=>by
  obtain ⟨h1,h2,h3,h4⟩:=Qf6 d hs m (by omega)
  rw [Lib.compactUpTo_succ]
  by_cases hk:Lib.keeps d m=true
  ·rw [if_pos hk]
   have hlt:∀x∈Lib.compactUpTo d m,x<d[m]! :=fun x hx=>by
    obtain ⟨h5,h6⟩:=h2 x hx
    have h7:=hs (m - 1) (by omega)
    rw [show m - 1+1=m by omega] at h7
    have h8:d[m]! ≠d[m - 1]! :=fun e=>by
     rw [Lib.keeps_neg h5 e] at hk
     cases hk
    omega
   refine ⟨List.pairwise_append.2 ⟨h1,List.pairwise_singleton _ _,fun x hx y hy=> ?_⟩,fun x hx=> ?_,fun j hj=> ?_,fun x hx=> ?_⟩
   ·obtain rfl:=List.mem_singleton.1 hy
    exact hlt x hx
   ·rw [Nat.add_sub_cancel]
    rcases List.mem_append.1 hx with hx | hx
    ·have:=hlt x hx
     omega
    ·obtain rfl:=List.mem_singleton.1 hx
     omega
   ·rcases Nat.lt_or_ge j m with h | h
    ·exact List.mem_append.2 (.inl (h3 j h))
    ·obtain rfl:j=m:=by omega
     exact List.mem_append.2 (.inr (List.mem_singleton.2 rfl))
   ·rcases List.mem_append.1 hx with hx | hx
    ·obtain ⟨j,hj,e⟩:=h4 x hx
     exact ⟨j,by omega,e⟩
    ·exact ⟨m,by omega,List.mem_singleton.1 hx⟩
  ·have hm0:0<m:=Nat.pos_of_ne_zero (fun e=>hk (by rw [e];exact Lib.keeps_lt_one d 0 (by omega)))
   have he:d[m]! =d[m - 1]! :=Classical.byContradiction fun e=>hk (Lib.keeps_pos e)
   rw [if_neg hk,List.append_nil]
   refine ⟨h1,fun x hx=>⟨by omega,?_⟩,fun j hj=> ?_,fun x hx=> ?_⟩
   ·rw [Nat.add_sub_cancel,he]
    exact (h2 x hx).2
   ·rcases Nat.lt_or_ge j m with h | h
    ·exact h3 j h
    ·obtain rfl:j=m:=by omega
     rw [he]
     exact h3 (j - 1) (by omega)
   ·obtain ⟨j,hj,e⟩:=h4 x hx
    exact ⟨j,by omega,e⟩
theorem Qhh (l:List Int):(YG l).Pairwise (· ≤ ·):=by
 have:=List.pairwise_mergeSort (le:=fun x y:Int=>decide (x≤y)) (by intro a b c;simp;omega) (by intro a b;simp;omega) l
 exact this.imp (fun h=>by simpa using h)
theorem QjW {l:List Int} {x:Int}:x∈YG l↔x∈l:=List.mem_mergeSort
theorem QdX {l:List Int} (hl:l.Pairwise (· ≤ ·)):Qd4 (Lib.compact l)∧∀x,x∈Lib.compact l↔x∈l:=by
 obtain ⟨h1,_,h3,h4⟩:=Qf6 l.toArray (fun j hj=>by
  have hj':j+1<l.length:=by simpa using hj
  have:=List.pairwise_iff_getElem.1 hl j (j+1) (by omega) hj' (by omega)
  simpa [show j<l.length by omega,hj'] using this) l.length (by simp)
 refine ⟨h1,fun x=>⟨fun hx=> ?_,fun hx=> ?_⟩⟩
 ·obtain ⟨j,hj,e⟩:=h4 x hx
  rw [e]
  simp [hj]
 ·obtain ⟨j,hj,e⟩:=List.getElem_of_mem hx
  have:=h3 j hj
  simp only [List.getElem!_toArray,getElem!_pos l j hj,e] at this
  exact this
theorem Qib (l:List Int):Qd4 (QbT l):=(QdX (Qhh l)).1
theorem Qkn {l:List Int} {x:Int}:x∈QbT l↔x∈l:=((QdX (Qhh l)).2 x).trans QjW
theorem srtd_eq {l:List Int}:QbT l=l↔Qd4 l:=⟨fun h=>h▸Qib l,fun h=>QhN (Qib l) h (fun _=>Qkn)⟩
theorem Qle (l:List Int):(QbT l).length≤l.length:=by
 have:=Qfc (YG l)
 rw [JB] at this
 exact this
def QhW (n:Int) (l:List Int) (j:Nat):Prop:=∃x,l[j]? =some x∧(0≤x∧x≤n)∧(0<j→∃y,l[j - 1]? =some y∧¬x≤y)
theorem asc_of {n:Int} {l:List Int}:(∀j,j<l.length→QhW n l j)↔(∀x∈l,0≤x∧x≤n)∧Qd4 l:=by
 refine ⟨fun h=>⟨fun x hx=> ?_,?_⟩,fun h j hj=> ?_⟩
 ·obtain ⟨j,hj,e⟩:=List.getElem_of_mem hx
  obtain ⟨y,h1,h2,_⟩:=h j hj
  rw [List.getElem?_eq_getElem hj,e] at h1
  cases h1
  exact h2
 ·have key:∀k i (hi:i<l.length) (hk:i+k+1<l.length),l[i]<l[i+k+1]:=by
   intro k
   induction k with
   | zero =>
    intro i hi hk
    obtain ⟨x,h1,_,h3⟩:=h (i+0+1) hk
    obtain ⟨y,h4,h5⟩:=h3 (by omega)
    rw [List.getElem?_eq_getElem hk] at h1
    rw [show i+0+1 - 1=i by omega,List.getElem?_eq_getElem hi] at h4
    have e1:=Option.some.inj h1
    have e2:=Option.some.inj h4
    omega
   | succ k ih =>
    intro i hi hk
    have a1:=ih i hi (by omega)
    obtain ⟨x,h1,_,h3⟩:=h (i+(k+1)+1) hk
    obtain ⟨y,h4,h5⟩:=h3 (by omega)
    rw [List.getElem?_eq_getElem hk] at h1
    rw [show i+(k+1)+1 - 1=i+k+1 by omega,List.getElem?_eq_getElem (show i+k+1<l.length by omega)] at h4
    have e1:=Option.some.inj h1
    have e2:=Option.some.inj h4
    omega
  refine List.pairwise_iff_getElem.2 (fun i j hi hj hij=> ?_)
  have:=key (j - i - 1) i hi (by omega)
  simp only [show i+(j - i - 1)+1=j by omega] at this
  exact this
 ·refine ⟨l[j],List.getElem?_eq_getElem hj,h.1 _ (List.getElem_mem hj),fun h0=>⟨l[j - 1],List.getElem?_eq_getElem (by omega),?_⟩⟩
  have:=List.pairwise_iff_getElem.1 h.2 (j - 1) j (by omega) hj (by omega)
  omega
end
theorem YR (n:Nat) (a:List Int) (ha:a.length≤mx+1):Pure (Qq Tryz.prog (n+1)) 113 [(rd 1 Qa a)] (T.sl true 1 (a.map (Qa true))):=by
 refine Pure.intro (rs:= [ResultVar.tmp 2]) Tryz.func113 rfl rfl rfl (E0:= [(0,(rd 1 Qa a))]) rfl ?_
 obtain ⟨hlim,hmx,hmax⟩:=QC
 refine sr (fO (OF.assign VEv.nils) (nt (sq (sr (mO (rd 1 Qa a) rfl ?_)))))
 refine VRunO.nilEq VWant.always (tv (rd 1 Qa a) rfl) VEv.nils Zg (fun bn1 hbn1=> ?_)
 refine nt ?_
 refine VRun.cond (tv (tB bn1) rfl) (fun hc0=> ?_) (fun hc0=> ?_)
 ·have fhc0:bn1=true:=hc0
  have ebn1:=hbn1 hc0
  refine sr (fO (OF.assign VEv.nils) (nt (rt (tr ?_))))
  refine vfin.eq (r':=(T.sl true 1 [])) ?_ (vfin.r (VRes.tmp (t:=T.nils) rfl VRes.nil) (Give.nils 1))
  show (T.sl true 1 [])=(T.sl true 1 (a.map (Qa true)))
  refine congrArg (fun l_=>T.sl true 1 (List.map (Qa true) l_)) (a₁:= []) ?_
  exact (List.map_eq_nil_iff.1 ebn1).symm
 have fhc0:bn1=false:=hc0
 refine sk (tn (sr (kO (OM.slice0 Zg J3 (by kernel_rfl) rfl (by rw [Q8];decide) Q8) (mO (rd 1 Qa a) rfl (cO (B.append (rows:= []) (rows2:=(a.map (Qa false))) (rows3:=(a.map (Qa true))) (VDst.own (tv (T.os 1 0 0 0) rfl) rfl rfl) (VSrc.read (tv (rd 1 Qa a) rfl) Zg (okInt.okMap _ _)) nofun Zg Q8 (by decide) J3 rfl (of_decide_eq_true (by kernel_rfl)) (by (simp only [List.length_map,List.length_append,List.length_cons,List.length_nil,List.length_replicate,List.length_set,List.length_drop,List.length_take,YW] at *;omega)) (List.nil_append _)) (aO (T.os 1 1 0 ((a.map (Qa true)).length)) rfl (nt (rt ?_))))))))
 refine vfin.eq (r':=(T.sl true 1 (a.map (Qa true)))) ?_ (vfin.r (VRes.tmp (t:=(T.os 1 1 0 ((a.map (Qa true)).length))) rfl VRes.nil) (Give.os rfl rfl (okInt.cleanMap _)))
 rfl
theorem QaT (n:Nat) (a:List Int) (ha:a.length≤mx+1):Loan (Qq Tryz.prog (n+1)) 114 1 (List.map (Qa true) a) [(T.os 1 0 0 ((a.map (Qa true)).length))] (T.tup []) (List.map (Qa true) (YG a)):=by
 obtain ⟨hlim,hmx,hmax⟩:=QC
 exact QlA n rfl rfl a (by omega)
theorem Qab (n:Nat) (a:List Int) (ha:a.length≤mx+1):Loan (Qq Tryz.prog (n+1)) 115 1 (List.map (Qa true) a) [(T.os 1 0 0 ((a.map (Qa true)).length))] (T.os 1 0 0 (List.map (Qa true) (Lib.compact a)).length) (List.map (Qa true) (Lib.compact a)):=by
 obtain ⟨hlim,hmx,hmax⟩:=QC
 exact QlB n rfl rfl a (by omega)
theorem QcC (n:Nat) (a:List Int) (ha:a.length≤mx+1):Pure (Qq Tryz.prog (n+2)) 67 [(rd 1 Qa a)] (T.sl true 1 ((QbT a).map (Qa true))):=by
 refine Pure.intro (rs:= [ResultVar.tmp 2]) Tryz.func67 rfl rfl rfl (E0:= [(0,(rd 1 Qa a))]) rfl ?_
 obtain ⟨hlim,hmx,hmax⟩:=QC
 have hsl:=JB a
 refine sr (fO (OF.assign VEv.nils) (nt (sr (mO (rd 1 Qa a) rfl (cO (OC.callF (us:= [(rd 1 Qa a)]) (r:=(T.sl true 1 (a.map (Qa true)))) (r':=(T.os 1 0 0 ((a.map (Qa true)).length))) (objs:= [(Obj.rows 1 (a.map (Qa true)))]) rfl (vc (tv (rd 1 Qa a) rfl) vn) (ZJ rfl) (YR (n+0) a (by assumption)) rfl) (aO (T.os 1 0 0 ((a.map (Qa true)).length)) rfl (nt (sr (mO (T.os 1 0 0 ((a.map (Qa true)).length)) rfl (cO (OC.callLoan (ts:= [(T.os 1 0 0 ((a.map (Qa true)).length))]) (k:=0) (r:=(T.tup [])) (rows:=(a.map (Qa true))) (rows':=((YG a).map (Qa true))) rfl (vc (tv (T.os 1 0 0 ((a.map (Qa true)).length)) rfl) vn) rfl rfl rfl LRes.none rfl (Zw (fun _=>rfl) _) (Zw (fun _=>rfl) _) (QaT (n+0) a (by assumption))) (nt ?_)))))))))))
 refine sr (mO (T.os 1 0 0 ((a.map (Qa true)).length)) rfl (cO (OC.callLoan (ts:= [(T.os 1 0 0 ((a.map (Qa true)).length))]) (k:=0) (r:=(T.os 1 0 0 (((Lib.compact (YG a)).map (Qa true)).length))) (rows:=((YG a).map (Qa true))) (rows':=((Lib.compact (YG a)).map (Qa true))) rfl (vc (tv (T.os 1 0 0 ((a.map (Qa true)).length)) rfl) vn) rfl rfl rfl (LRes.os _ _) rfl (Zw (fun _=>rfl) _) (Zw (fun _=>rfl) _) (Loan.len (by simp only [List.length_map,JB]) (Qab (n+0) (YG a) (by omega)))) (aO (T.os 1 0 0 (((Lib.compact (YG a)).map (Qa true)).length)) rfl (nt (rt ?_)))))
 refine vfin.eq (r':=(T.sl true 1 ((Lib.compact (YG a)).map (Qa true)))) ?_ (vfin.r (VRes.tmp (t:=(T.os 1 0 0 (((Lib.compact (YG a)).map (Qa true)).length))) rfl VRes.nil) (Give.os rfl rfl (okInt.cleanMap _)))
 show (T.sl true 1 ((Lib.compact (YG a)).map (Qa true)))=(T.sl true 1 ((QbT a).map (Qa true)))
 refine congrArg (fun l_=>T.sl true 1 (List.map (Qa true) l_)) ?_
 rfl
theorem QgZ (n:Nat) (l:List Int) (a:Int) (b:Int) (hl:l.length≤mx+1):Pure (Qq Tryz.prog (n+2)) 65 [(rd 1 Qa l),(tI a),(tI b)] (tB (decide (∀x∈l,a≤x∧x≤b))):=by
 refine Pure.intro (rs:= [ResultVar.tmp 6]) Tryz.func65 rfl rfl rfl (E0:= [(0,(rd 1 Qa l)),(1,(tI a)),(2,(tI b))]) rfl ?_
 obtain ⟨hlim,hmx,hmax⟩:=QC
 refine sr (fO (OF.assign (VEv.bool false)) (nt (sq (sr (mO (rd 1 Qa l) rfl (lO (B.lenR (m:=l.length) (tv (rd 1 Qa l) rfl) Zg (List.length_map ..)) (fO (OF.move (VEv.int .i64 0)) (nt (VRun.block ?_)))))))))
 refine VRun.loop (A:=Nat) (fun s_=> [(1,(tI a)),(2,(tI b)),(9,(rd 1 Qa l)),(10,(tN l.length)),(11,(tN s_))]) (fun s_=>Q3 []) 0 (fun s_=>s_≤l.length∧∀j,j<s_→∃x,l[j]? =some x∧(a≤x∧x≤b)) (fun s_=>l.length - s_) (0:Nat) ?_ (Wk.mk (fun k=>k) ?_ ?_ ?_) ?_
 ·exact ⟨Nat.zero_le _,fun j hj=>by omega⟩
 ·exact (b2 (b2 (b2 (b2 (b2 bn)))))
 ·exact bn
 ·exact nd rfl
 rintro i (hI':i≤l.length∧∀j,j<i→∃x,l[j]? =some x∧(a≤x∧x≤b))
 show VRun _ _ _ [(1,(tI a)),(2,(tI b)),(9,(rd 1 Qa l)),(10,(tN l.length)),(11,(tN i))] (Q3 []) 0 _
 have hI0:=hI'
 refine sr (fO (Zf (tv (tN i) rfl) (tv (tN l.length) rfl)) (nt (sq ?_)))
 refine cd (i<l.length) rfl (fun fhc0=> ?_) fun fhc0=> ?_
 ·refine sk ?_
  refine tn (sq (VRun.block (sr ?_)))
  obtain ⟨x1,hx1⟩:∃x,l[i]? =some x:=⟨_,List.getElem?_eq_getElem (by omega)⟩
  refine fO (OF.indexAddrR (row:=(Qa false x1)) (i:=i) (tv (rd 1 Qa l) rfl) (tv (tN i) rfl) rfl (Qv _ hx1) Zg Q8 Yk) (lO (OL.loadR1 (t:=(tI x1)) (tv (T.rp [(tI x1)]) rfl) rfl QU) (aO (tI x1) rfl (nt (sr (mO (tI x1) rfl (mO (tI a) rfl (mO (tI b) rfl (cO (cS (vc (tv (tI x1) rfl) (vc (tv (tI a) rfl) (vc (tv (tI b) rfl) vn))) (ZJ rfl) (Q4 (n+0) x1 a b) rfl rfl) (fO (QW (tv (tB (decide (a≤x1∧x1≤b))) rfl)) (nt ?_))))))))))
  refine cn (a≤x1∧x1≤b) rfl (fun fhc1=> ?_) fun fhc1=> ?_
  ·refine sr ?_
   refine fO (OF.assign (VEv.bool false)) (nt (rt (vinB.r (tr (tr (vinB.r (tr (vb (b':=false) rfl ?_))))))))
   symm;rw [decide_eq_false_iff_not];intro h;have:=h x1 (List.mem_of_getElem? hx1);omega
  refine sk (vinB.n (tn (VRun.region (fO (QB (tv (tN i) rfl) (VEv.int .i64 1) (by omega)) (mO (tN (i+1)) rfl (VRunO.nil (tn ?_)))))))
  refine ⟨(i+1:Nat),?_,?_,Wk.mk (fun k=>k) ?_ ?_ ?_⟩
  ·exact QS hI0 fhc0 ⟨x1,hx1,by omega⟩
  ·omega
  ·exact (b2 (b2 (b2 (b2 (b2 bn)))))
  ·exact bn
  ·exact nd rfl
 refine VRun.exit (vthn.e (vthn.e (vinB.e (tn (sr (fO (OF.assign (VEv.bool true)) (nt (rt (vb (b':=true) rfl ?_)))))))))
 symm;rw [decide_eq_true_eq];intro x hx;obtain ⟨j,hj,e⟩:=List.getElem_of_mem hx;obtain ⟨y,h1,h2⟩:=Jc hI' fhc0 j hj;rw [List.getElem?_eq_getElem hj,e] at h1;cases h1;exact h2
end Go.Proofs.YtcccmceoplcciaaGreat.AE
namespace Go.Proofs.YtcccmceoplcciaaGreat.AE
open Go Go.RowKit
set_option linter.unusedVariables false
set_option linter.unusedSimpArgs false
set_option maxRecDepth 20000
set_option maxHeartbeats 2000000
noncomputable section
def Qfb (s:ByteArray):Prop:=(1≤s.size∧s.size≤8)∧∀i,i<s.size→Qu s i=63∨(97≤Qu s i∧Qu s i≤122)
instance (s:ByteArray):Decidable (Qfb s):=Classical.propDecidable _
end
theorem QdE (n:Nat) (a:ByteArray) (ha:a.size≤maxLen):Pure (Qq Tryz.prog (n+2)) 84 [(tS a)] (tB (decide (Qfb a))):=by
 refine Pure.intro (rs:= [ResultVar.tmp 2]) Tryz.func84 rfl rfl rfl (E0:= [(0,(tS a))]) rfl ?_
 obtain ⟨hlim,hmx,hmax⟩:=QC
 refine sr (fO (OF.assign (VEv.bool false)) (nt (sq (sr (mO (tS a) rfl (lO (B.lenS (tv (tS a) rfl) U9) (cO (cS (vc (tv (tN a.size) rfl) (vc (VEv.int .i64 1) (vc (VEv.int .i64 8) vn))) (ZJ rfl) (QH (n+0) ((a.size:Nat):Int) 1 8) rfl rfl) (fO (QW (tv (tB (decide (1≤((a.size:Nat):Int)∧((a.size:Nat):Int)≤8))) rfl)) (nt ?_)))))))))
 refine cn (1≤((a.size:Nat):Int)∧((a.size:Nat):Int)≤8) rfl (fun fhc0=> ?_) fun fhc0=> ?_
 ·refine sr ?_
  refine fO (OF.assign (VEv.bool false)) (nt (rt (tr (vb (b':=false) rfl ?_))))
  (symm;rw [decide_eq_false_iff_not];rintro ⟨h1,h2⟩;omega)
 refine sk (tn (sq (sr (fO (OF.assign (VEv.int .i64 0)) (nt (VRun.block ?_))))))
 refine VRun.loop (A:=Nat) (fun s_=> [(0,(tS a)),(3,(tN s_))]) (fun s_=>Q3 []) 0 (fun s_=>s_≤a.size∧∀j,j<s_→Qu a j=63∨(97≤Qu a j∧Qu a j≤122)) (fun s_=>a.size - s_) (0:Nat) ?_ (Wk.mk (fun k=>k) ?_ ?_ ?_) ?_
 ·exact ⟨Nat.zero_le _,fun j hj=>by omega⟩
 ·exact (b2 (b2 bn))
 ·exact bn
 ·exact nd rfl
 rintro i (hI':i≤a.size∧∀j,j<i→Qu a j=63∨(97≤Qu a j∧Qu a j≤122))
 show VRun _ _ _ [(0,(tS a)),(3,(tN i))] (Q3 []) 0 _
 refine sq (sr (mO (tN i) rfl (mO (tS a) rfl (lO (B.lenS (tv (tS a) rfl) U9) (fO (Zf (tv (tN i) rfl) (tv (tN a.size) rfl)) (nt ?_))))))
 refine cd (i<a.size) rfl (fun fhc1=> ?_) fun fhc1=> ?_
 ·refine sk ?_
  refine tn (sq (VRun.block (sr (mO (tS a) rfl (mO (tN i) rfl ?_)))))
  have hb1:i<a.size:=(by omega)
  refine fO (JN (tv (tS a) rfl) (tv (tN i) rfl) hb1 U9) (fO (xne (tv (T.int .u8 (Qu a i)) rfl) (VEv.int .u8 63)) (mO (tB (!(decide (Qu a i=63)))) rfl ?_))
  refine gn (Qu a i=63) (fun fhg18_2=> ?_) fun fhg18_2=> ?_
  ·refine gF (ny fhg18_2) rfl rfl (OF.move (tv (tS a) rfl)) ?_
   refine gF (ny fhg18_2) rfl rfl (OF.move (tv (tN i) rfl)) ?_
   have hb3:i<a.size:=(by omega)
   refine gF (ny fhg18_2) rfl rfl (JN (tv (tS a) rfl) (tv (tN i) rfl) hb3 U9) (gF (ny fhg18_2) rfl rfl (xls (tv (T.int .u8 (Qu a i)) rfl) (VEv.int .u8 97)) (gF (ny fhg18_2) rfl rfl (OF.move (tv (tB (decide (Qu a i<97))) rfl)) ?_))
   refine gw (Qu a i<97) (fun fhg23_4=> ?_) fun fhg23_4=> ?_
   ·refine Qy 4 9 false 23 (dy fhg23_4) rfl rfl rfl ?_
    refine gF (ny fhg18_2) rfl rfl (OF.pickT (VEv.tmpB rfl (dy fhg23_4)) (VEv.bool true)) (fO (OF.pickT (VEv.tmpB rfl (ny fhg18_2)) (tv (tB true) rfl)) (nt (ct rfl (sr (fO (OF.assign (VEv.bool false)) (nt (rt (vinB.r (tr (tr (vinB.r ?_)))))))))))
    refine tr (vb (b':=false) rfl ?_)
    (symm;rw [decide_eq_false_iff_not];rintro ⟨h1,h2⟩;(have:=h2 i fhc1;omega))
   refine gF (dz fhg23_4) rfl rfl (OF.move (tv (tS a) rfl)) (gF (dz fhg23_4) rfl rfl (OF.move (tv (tN i) rfl)) ?_)
   have hb5:i<a.size:=(by omega)
   refine gF (dz fhg23_4) rfl rfl (JN (tv (tS a) rfl) (tv (tN i) rfl) hb5 U9) (gF (dz fhg23_4) rfl rfl (xgt (tv (T.int .u8 (Qu a i)) rfl) (VEv.int .u8 122)) (gF (ny fhg18_2) rfl rfl (OF.pickF (VEv.tmpB rfl (dz fhg23_4)) (tv (tB (decide (122<Qu a i))) rfl)) (fO (OF.pickT (VEv.tmpB rfl (ny fhg18_2)) (tv (tB (decide (122<Qu a i))) rfl)) (nt ?_))))
   refine cd (122<Qu a i) rfl (fun fhc2=> ?_) fun fhc2=> ?_
   ·refine sr ?_
    refine fO (OF.assign (VEv.bool false)) (nt (rt (vinB.r (tr (tr (vinB.r (tr (vb (b':=false) rfl ?_))))))))
    (symm;rw [decide_eq_false_iff_not];rintro ⟨h1,h2⟩;(have:=h2 i fhc1;omega))
   refine sk (vinB.n (tn (VRun.region (mO (tN i) rfl (fO (QB (tv (tN i) rfl) (VEv.int .i64 1) (by omega)) (aO (tN (i+1)) rfl (VRunO.nil (tn ?_))))))))
   refine ⟨(i+1:Nat),?_,?_,Wk.mk (fun k=>k) ?_ ?_ ?_⟩
   ·exact QS (ok:=fun j=>Qu a j=63∨(97≤Qu a j∧Qu a j≤122)) hI' fhc1 (by omega)
   ·omega
   ·exact (b2 (b2 bn))
   ·exact bn
   ·exact nd rfl
  refine Qy 5 4 true 18 (nz fhg18_2) rfl rfl rfl (Qac 4 9 false 23 rfl rfl rfl (oO rfl rfl (nz fhg18_2) (fO (OF.pickF (VEv.tmpB rfl (nz fhg18_2)) (VEv.bool false)) (nt (cf rfl (sk (vinB.n (tn (VRun.region (mO (tN i) rfl (fO (QB (tv (tN i) rfl) (VEv.int .i64 1) (by omega)) ?_)))))))))))
  refine aO (tN (i+1)) rfl (VRunO.nil (tn ?_))
  refine ⟨(i+1:Nat),?_,?_,Wk.mk (fun k=>k) ?_ ?_ ?_⟩
  ·exact QS (ok:=fun j=>Qu a j=63∨(97≤Qu a j∧Qu a j≤122)) hI' fhc1 (by omega)
  ·omega
  ·exact (b2 (b2 bn))
  ·exact bn
  ·exact nd rfl
 refine VRun.exit (vthn.e (vthn.e (vinB.e (tn (sr (fO (OF.assign (VEv.bool true)) (nt (rt (vb (b':=true) rfl ?_)))))))))
 (symm;rw [decide_eq_true_eq];exact ⟨by omega,Jc hI' fhc1⟩)
end Go.Proofs.YtcccmceoplcciaaGreat.AE
namespace Go.Proofs.YtcccmceoplcciaaGreat.AE
open Go Go.RowKit
set_option linter.unusedVariables false
set_option linter.unusedSimpArgs false
set_option maxRecDepth 20000
set_option maxHeartbeats 2000000
noncomputable section
def QY (a:D.Puzzle) (s:D.Session):Prop:=Z1 a∧QI a.Grid s.Fill∧(0≤s.Checks∧s.Checks≤999)∧(0≤s.Spent∧s.Spent≤999)∧(∀y∈s.Asked,0≤y∧y≤((a.Clues.length:Nat):Int) - 1)∧Qd4 s.Asked∧0≤s.Start∧s.Start≤s.Now∧s.Now≤1000
instance (a:D.Puzzle) (s:D.Session):Decidable (QY a s):=Classical.propDecidable _
theorem Qis (a:D.Puzzle) (s:D.Session):(((((((Z1 a∧QI a.Grid s.Fill)∧(0≤s.Checks∧s.Checks≤999))∧(0≤s.Spent∧s.Spent≤999))∧(∀y∈s.Asked,0≤y∧y≤((a.Clues.length:Nat):Int) - 1))∧QbT s.Asked=s.Asked)∧(0≤s.Start∧s.Start≤s.Now))∧s.Now≤1000)↔QY a s:=by
 unfold QY
 rw [srtd_eq]
 simp only [and_assoc]
theorem QjT {a:D.Puzzle} {s:D.Session} (h:∀j,j<s.Asked.length→QhW (((a.Clues.length:Nat):Int) - 1) s.Asked j):((((((Z1 a∧QI a.Grid s.Fill)∧(0≤s.Checks∧s.Checks≤999))∧(0≤s.Spent∧s.Spent≤999))∧0≤s.Start)∧s.Start≤s.Now)∧s.Now≤1000)↔QY a s:=by
 have h2:=asc_of.1 h
 unfold QY
 simp only [and_assoc]
 exact ⟨fun ⟨h3,h4,h5,h6,h7,h8,h9,h10⟩=>⟨h3,h4,h5,h6,h7,h8,h2.1,h2.2,h9,h10⟩,fun ⟨h3,h4,h5,h6,h7,h8,_,_,h9,h10⟩=>⟨h3,h4,h5,h6,h7,h8,h9,h10⟩⟩
theorem QhD {a:D.Puzzle} {s:D.Session} {i:Nat} (hi:i<s.Asked.length) (h:¬QhW (((a.Clues.length:Nat):Int) - 1) s.Asked i):¬QY a s:=fun h2=>h (asc_of.2 ⟨h2.2.2.2.2.1,h2.2.2.2.2.2.1⟩ i hi)
end
theorem Je (n:Nat) (a:D.Puzzle) (s:D.Session) (hz:QL a≤mx) (hs:QJ s≤mx):Pure (Qq Tryz.prog (n+11)) 25 [(T.agg (Qp false a)),(T.agg (Qe false s))] (tB (decide (QY a s))):=by
 refine Pure.intro (rs:= [ResultVar.tmp 4]) Tryz.func25 rfl rfl rfl (E0:= [(0,(T.agg (Qp false a))),(1,(T.agg (Qe false s)))]) rfl ?_
 obtain ⟨hlim,hmx,hmax⟩:=QC
 simp only [QJ] at hs
 have hz2:=hz
 simp only [QL,ZE] at hz2
 have hl:=QV (z:=QQ) a.Clues
 have hl2:=QV (z:=zI) s.Asked
 refine sr (kO (B.box (ts:=(Qp false a)) (tv (T.agg (Qp false a)) rfl) nofun rfl) (kO (B.box (ts:=(Qe false s)) (tv (T.agg (Qe false s)) rfl) nofun rfl) (fO (OF.assign (VEv.bool false)) (nt (sq (sr (fO (OF.assign (VEv.int .i64 0)) (nt (VRun.block ?_)))))))))
 refine VRun.loop (A:=Nat) (fun s_=> [(2,(T.op 0 0)),(3,(T.op 1 0)),(5,(tN s_))]) (fun s_=>Q3 [(0,(Obj.cells (Qp false a))),(1,(Obj.cells (Qe false s)))]) 2 (fun s_=>s_≤s.Asked.length∧∀j,j<s_→QhW (((a.Clues.length:Nat):Int) - 1) s.Asked j) (fun s_=>s.Asked.length - s_) (0:Nat) ?_ (Wk.mk (fun k=>k) ?_ ?_ ?_) ?_
 ·exact ⟨Nat.zero_le _,fun j hj=>by omega⟩
 ·exact (b2 (b2 (b2 bn)))
 ·exact (b3 (b3 bn))
 ·exact nd rfl
 rintro i (hI':i≤s.Asked.length∧∀j,j<i→QhW (((a.Clues.length:Nat):Int) - 1) s.Asked j)
 show VRun _ _ _ [(2,(T.op 0 0)),(3,(T.op 1 0)),(5,(tN i))] (Q3 [(0,(Obj.cells (Qp false a))),(1,(Obj.cells (Qe false s)))]) 2 _
 have hI0:=hI'
 refine sq (sr (mO (tN i) rfl (lf (rd 1 Qa s.Asked) rfl Ym rfl rfl YY (lO (B.lenR (m:=s.Asked.length) (tv (rd 1 Qa s.Asked) rfl) Zg (List.length_map ..)) (fO (Zf (tv (tN i) rfl) (tv (tN s.Asked.length) rfl)) (nt ?_))))))
 refine cd (i<s.Asked.length) rfl (fun fhc0=> ?_) fun fhc0=> ?_
 ·refine sk ?_
  refine tn (sq (VRun.block (sq (VRun.draw (B:= [[],[0],[],[2,0,1],[1,0,2,3],[],[5],[5,6],[6,5,7],[7,5,6,8,3,2,0,1,4],[4,1,0,2,3,8,6,5,7,9],[9,7,5,6,8,3,2,0,1,4,10],[10,4,1,0,2,3,8,6,5,7,9,11],[11,9,7,5,6,8,3,2,0,1,4,10,12],[12,10,4,1,0,2,3,8,6,5,7,9,11,13],[13,11,9,7,5,6,8,3,2,0,1,4,10,12,14],[14,12,10,4,1,0,2,3,8,6,5,7,9,11,13,15],[13,11,9,7,5,6,8,3,2,0,1,4,10,12,14],[14,12,10,4,1,0,2,3,8,6,5,7,9,11,13,17],[17,18,15,13,11,9,7,5,6,8,3,2,0,1,4,10,12,14,16],[16,14,12,10,4,1,0,2,3,8,6,5,7,9,11,13,15,18,17,19],[13,11,9,7,5,6,8,3,2,0,1,4,10,12,14],[14,12,10,4,1,0,2,3,8,6,5,7,9,11,13,21],[13,11,9,7,5,6,8,3,2,0,1,4,10,12,14],[23,21,13,11,9,7,5,6,8,3,2,0,1,4,10,12,14,22],[22,14,12,10,4,1,0,2,3,8,6,5,7,9,11,13,21,23,24],[24,23,21,22,25,19,17,18,15,13,11,9,7,5,6,8,3,2,0,1,4,10,12,14,16,20],[20,16,15,18,17,19,25,22,21,23,24,26,13,11,9,7,5,6,8,3,2,0,1,4,10,12,14],[14,12,13,26,24,23,21,22,25,19,17,18,15,16,20,27,10,4,1,0,2,3,8,6,5,7,9,11]]) (by kernel_rfl) (by kernel_rfl) (fD (OF.fieldAddrO (tv (T.op 1 0) rfl) Ym) rfl rfl (lD (OL.loadO1 (t:=(rd 1 Qa s.Asked)) (tv (T.op 1 3) rfl) rfl rfl YY) rfl rfl (mD (tN i) rfl rfl ?_)))))))
  obtain ⟨x1,hx1⟩:∃x,s.Asked[i]? =some x:=⟨_,List.getElem?_eq_getElem (by omega)⟩
  refine fD (OF.indexAddrR (row:=(Qa false x1)) (i:=i) (tv (rd 1 Qa s.Asked) rfl) (tv (tN i) rfl) rfl (Qv _ hx1) Zg Q8 Yk) rfl rfl (lD (OL.loadR1 (t:=(tI x1)) (tv (T.rp [(tI x1)]) rfl) rfl QU) rfl rfl (fD (OF.fieldAddrO (tv (T.op 0 0) rfl) Y2) rfl rfl (lD (OL.loadO1 (t:=(rd 2 Qg a.Clues)) (tv (T.op 0 3) rfl) rfl rfl Qdq) rfl rfl (lD (B.lenR (m:=a.Clues.length) (tv (rd 2 Qg a.Clues) rfl) U35 (List.length_map ..)) rfl rfl (fD (B.sub (n:=(((a.Clues.length:Nat):Int) - 1)) (tv (tN a.Clues.length) rfl) (VEv.int .i64 1) (by (rw [Qt (by omega)];done))) rfl rfl (VRunD.quiet (bi:= [7,5,6,8,3,2,0,1,4]) rfl VWant.always rfl rfl rfl bn (cS (vc (tv (tI x1) rfl) (vc (VEv.int .i64 0) (vc (tv (tI (((a.Clues.length:Nat):Int) - 1)) rfl) vn))) (ZJ rfl) (QH (n+9) x1 0 (((a.Clues.length:Nat):Int) - 1)) rfl rfl) (fD (QW (tv (tB (decide (0≤x1∧x1≤(((a.Clues.length:Nat):Int) - 1)))) rfl)) rfl rfl (mD (tB (!(decide (0≤x1∧x1≤(((a.Clues.length:Nat):Int) - 1))))) rfl rfl ?_))))))))
  refine gn (0≤x1∧x1≤(((a.Clues.length:Nat):Int) - 1)) (fun fhg24_1=> ?_) fun fhg24_1=> ?_
  ·refine oD rfl rfl (ny fhg24_1) rfl ?_
   refine oD rfl rfl (ny fhg24_1) rfl (oD rfl rfl (ny fhg24_1) rfl (uD rfl rfl rfl (uD rfl rfl rfl (uD rfl rfl rfl (uD rfl rfl rfl (uD rfl rfl rfl (uD rfl rfl rfl (uD rfl rfl rfl (uD rfl rfl rfl (uD rfl rfl rfl (uD rfl rfl rfl ?_)))))))))))
   refine uD rfl rfl rfl (uD rfl rfl rfl (oD rfl rfl (ny fhg24_1) rfl (fD (OF.pickT (VEv.tmpB rfl (ny fhg24_1)) (VEv.bool true)) rfl rfl (VRunD.nil (tn (ct rfl (sr (fO (OF.assign (VEv.bool false)) (nt (rt (vinB.r ?_)))))))))))
   refine tr (tr (vinB.r (tr (vb (b':=false) rfl ?_))))
   (symm;rw [decide_eq_false_iff_not];refine QhD fhc0 ?_;rintro ⟨y,hy,h3,h7⟩;obtain rfl:=QcT hx1 hy;omega)
  refine VRunD.free rfl (VWant.on rfl rfl (nz fhg24_1)) rfl (OF.move (tv (tN i) rfl)) (VRunD.free rfl (VWant.on rfl rfl (nz fhg24_1)) rfl (B.gtr (c:=(decide (0<i))) (tv (tN i) rfl) (VEv.int .i64 0) (Zb (by omega))) (VRunD.free rfl (VWant.on rfl rfl (nz fhg24_1)) rfl (OF.move (tv (tB (decide (0<i))) rfl)) ?_))
  refine gw (0<i) (fun fhg27_2=> ?_) fun fhg27_2=> ?_
  ·refine VRunD.free rfl (VWant.on rfl rfl (dy fhg27_2)) rfl (OF.fieldAddrO (tv (T.op 1 0) rfl) Ym) ?_
   refine VRunD.look rfl (VWant.on rfl rfl (dy fhg27_2)) rfl (OL.loadO1 (t:=(rd 1 Qa s.Asked)) (tv (T.op 1 3) rfl) rfl rfl YY) (VRunD.free rfl (VWant.on rfl rfl (dy fhg27_2)) rfl (OF.move (tv (tN i) rfl)) (VRunD.free rfl (VWant.on rfl rfl (dy fhg27_2)) rfl (B.sub (n:=((i - 1:Nat):Int)) (tv (tN i) rfl) (VEv.int .i64 1) (by (rw [Qt (by omega)];omega))) ?_))
   obtain ⟨x2,hx2⟩:∃x,s.Asked[i - 1]? =some x:=⟨_,List.getElem?_eq_getElem (by omega)⟩
   refine VRunD.free rfl (VWant.on rfl rfl (dy fhg27_2)) rfl (OF.indexAddrR (row:=(Qa false x2)) (i:=i - 1) (tv (rd 1 Qa s.Asked) rfl) (tv (tN (i - 1)) rfl) rfl (Qv _ hx2) Zg Q8 Yk) (VRunD.look rfl (VWant.on rfl rfl (dy fhg27_2)) rfl (OL.loadR1 (t:=(tI x2)) (tv (T.rp [(tI x2)]) rfl) rfl QU) (VRunD.free rfl (VWant.on rfl rfl (dy fhg27_2)) rfl (OF.fieldAddrO (tv (T.op 1 0) rfl) Ym) (VRunD.look rfl (VWant.on rfl rfl (dy fhg27_2)) rfl (OL.loadO1 (t:=(rd 1 Qa s.Asked)) (tv (T.op 1 3) rfl) rfl rfl YY) (VRunD.free rfl (VWant.on rfl rfl (dy fhg27_2)) rfl (OF.move (tv (tN i) rfl)) (VRunD.free rfl (VWant.on rfl rfl (dy fhg27_2)) rfl (OF.indexAddrR (row:=(Qa false x1)) (i:=i) (tv (rd 1 Qa s.Asked) rfl) (tv (tN i) rfl) rfl (Qv _ hx1) Zg Q8 Yk) (VRunD.look rfl (VWant.on rfl rfl (dy fhg27_2)) rfl (OL.loadR1 (t:=(tI x1)) (tv (T.rp [(tI x1)]) rfl) rfl QU) (VRunD.free rfl (VWant.on rfl rfl (dy fhg27_2)) rfl (xge (tv (tI x2) rfl) (tv (tI x1) rfl)) (VRunD.free rfl (VWant.on rfl rfl (nz fhg24_1)) rfl (OF.pickT (VEv.tmpB rfl (dy fhg27_2)) (tv (tB (decide (x1≤x2))) rfl)) (fD (OF.pickF (VEv.tmpB rfl (nz fhg24_1)) (tv (tB (decide (x1≤x2))) rfl)) rfl rfl (VRunD.nil (tn ?_)))))))))))
   refine cd (x1≤x2) rfl (fun fhc1=> ?_) fun fhc1=> ?_
   ·refine sr ?_
    refine fO (OF.assign (VEv.bool false)) (nt (rt (vinB.r (tr (tr (vinB.r (tr (vb (b':=false) rfl ?_))))))))
    (symm;rw [decide_eq_false_iff_not];refine QhD fhc0 ?_;rintro ⟨y,hy,h3,h7⟩;obtain rfl:=QcT hx1 hy;(obtain ⟨z,hz,h9⟩:=h7 (by omega);obtain rfl:=QcT hx2 hz;omega))
   refine sk (vinB.n (tn (VRun.region (mO (tN i) rfl (fO (QB (tv (tN i) rfl) (VEv.int .i64 1) (by omega)) (aO (tN (i+1)) rfl (VRunO.nil (tn ?_))))))))
   refine ⟨(i+1:Nat),?_,?_,Wk.mk (fun k=>k) ?_ ?_ ?_⟩
   ·refine QS hI0 fhc0 ⟨x1,hx1,by omega,fun h0=> ?_⟩
    (refine ⟨x2,hx2,?_⟩;omega)
   ·omega
   ·exact (b2 (b2 (b2 bn)))
   ·exact (b3 (b3 bn))
   ·exact nd rfl
  refine oD rfl rfl (dz fhg27_2) rfl (oD rfl rfl (dz fhg27_2) rfl (oD rfl rfl (dz fhg27_2) rfl (oD rfl rfl (dz fhg27_2) rfl (oD rfl rfl (dz fhg27_2) rfl (oD rfl rfl (dz fhg27_2) rfl (oD rfl rfl (dz fhg27_2) rfl (oD rfl rfl (dz fhg27_2) rfl (oD rfl rfl (dz fhg27_2) rfl (oD rfl rfl (dz fhg27_2) rfl (oD rfl rfl (dz fhg27_2) rfl (oD rfl rfl (dz fhg27_2) rfl ?_)))))))))))
  refine VRunD.free rfl (VWant.on rfl rfl (nz fhg24_1)) rfl (OF.pickF (VEv.tmpB rfl (dz fhg27_2)) (VEv.bool false)) (fD (OF.pickF (VEv.tmpB rfl (nz fhg24_1)) (tv (tB false) rfl)) rfl rfl (VRunD.nil (tn (cf rfl (sk (vinB.n (tn (VRun.region (mO (tN i) rfl (fO (QB (tv (tN i) rfl) (VEv.int .i64 1) (by omega)) (aO (tN (i+1)) rfl ?_)))))))))))
  refine VRunO.nil (tn ?_)
  refine ⟨(i+1:Nat),?_,?_,Wk.mk (fun k=>k) ?_ ?_ ?_⟩
  ·refine QS hI0 fhc0 ⟨x1,hx1,by omega,fun h0=> ?_⟩
   exact absurd h0 (by omega)
  ·omega
  ·exact (b2 (b2 (b2 bn)))
  ·exact (b3 (b3 bn))
  ·exact nd rfl
 refine VRun.exit (vthn.e (vthn.e (vinB.e (tn (sr (lO (OL.loadOn (us:=(Qp false a)) (tv (T.op 0 0) rfl) rfl QeX QdR (lb rfl) rfl) (cO (cS (vc (tv (T.agg (Qp false a)) rfl) vn) (LendL.cons (lg Z4) ln) (Qd8 (n+0) a (by assumption)) rfl rfl) (mO (tB (decide (Z1 a))) rfl ?_))))))))
 refine VRunO.joinB 6 [45,46,47,48,49] 50 (tB (decide ((Z1 a)∧(QI a.Grid s.Fill)))) ?_ ?_
 ·refine gw (Z1 a) (fun fhg44_3=> ?_) fun fhg44_3=> ?_
  ·refine gF (dy fhg44_3) rfl rfl (OF.fieldAddrO (tv (T.op 0 0) rfl) Y0) ?_
   refine gL (dy fhg44_3) rfl rfl (OL.loadOn (us:=(Qc false a.Grid)) (tv (T.op 0 0) rfl) rfl QX QT (lb rfl) rfl) (Yl (tS s.Fill) (dy fhg44_3) rfl rfl rfl rfl Ju rfl rfl Z7 (VRunO.chain (VWant.on rfl rfl (dy fhg44_3)) (cS (vc (tv (T.agg (Qc false a.Grid)) rfl) (vc (tv (tS s.Fill) rfl) vn)) (LendL.cons (lg Qs) (lp rfl ln)) (Qaw (n+7) a.Grid s.Fill (by omega) (by omega)) rfl rfl) (fO (OF.pickT (VEv.tmpB rfl (dy fhg44_3)) (tv (tB (decide (QI a.Grid s.Fill))) rfl)) (VRunO.nil ?_))))
   exact jq (congrArg T.bool (kAT fhg44_3 rfl)) (js rfl (js rfl (js rfl (js rfl (js rfl (jn))))))
  ·refine Qy 5 2 true 44 (dz fhg44_3) rfl rfl rfl ?_
   refine fO (OF.pickF (VEv.tmpB rfl (dz fhg44_3)) (VEv.bool false)) (VRunO.nil ?_)
   exact jq (congrArg T.bool (kAF fhg44_3)) (js rfl (js rfl (js rfl (js rfl (js rfl (jn))))))
 refine mO (tB (decide ((Z1 a)∧(QI a.Grid s.Fill)))) rfl ?_
 refine VRunO.joinB 4 [52,53,54] 55 (tB (decide (((Z1 a)∧(QI a.Grid s.Fill))∧(0≤s.Checks∧s.Checks≤999)))) ?_ ?_
 ·refine gw ((Z1 a)∧(QI a.Grid s.Fill)) (fun fhg51_4=> ?_) fun fhg51_4=> ?_
  ·refine Yl (tI s.Checks) (dy fhg51_4) rfl rfl rfl rfl J9 rfl rfl QU ?_
   refine VRunO.chain (VWant.on rfl rfl (dy fhg51_4)) (cS (vc (tv (tI s.Checks) rfl) (vc (VEv.int .i64 0) (vc (VEv.int .i64 999) vn))) (ZJ rfl) (QH (n+9) s.Checks 0 999) rfl rfl) (fO (OF.pickT (VEv.tmpB rfl (dy fhg51_4)) (tv (tB (decide (0≤s.Checks∧s.Checks≤999))) rfl)) (VRunO.nil ?_))
   exact jq (congrArg T.bool (kAT fhg51_4 rfl)) (js rfl (js rfl (js rfl (jn))))
  ·refine Qy 3 9 true 51 (dz fhg51_4) rfl rfl rfl ?_
   refine fO (OF.pickF (VEv.tmpB rfl (dz fhg51_4)) (VEv.bool false)) (VRunO.nil ?_)
   exact jq (congrArg T.bool (kAF fhg51_4)) (js rfl (js rfl (js rfl (jn))))
 refine mO (tB (decide (((Z1 a)∧(QI a.Grid s.Fill))∧(0≤s.Checks∧s.Checks≤999)))) rfl ?_
 refine VRunO.joinB 4 [57,58,59] 60 (tB (decide ((((Z1 a)∧(QI a.Grid s.Fill))∧(0≤s.Checks∧s.Checks≤999))∧(0≤s.Spent∧s.Spent≤999)))) ?_ ?_
 ·refine gw (((Z1 a)∧(QI a.Grid s.Fill))∧(0≤s.Checks∧s.Checks≤999)) (fun fhg56_5=> ?_) fun fhg56_5=> ?_
  ·refine Yl (tI s.Spent) (dy fhg56_5) rfl rfl rfl rfl Qbf rfl rfl QU ?_
   refine VRunO.chain (VWant.on rfl rfl (dy fhg56_5)) (cS (vc (tv (tI s.Spent) rfl) (vc (VEv.int .i64 0) (vc (VEv.int .i64 999) vn))) (ZJ rfl) (QH (n+9) s.Spent 0 999) rfl rfl) (fO (OF.pickT (VEv.tmpB rfl (dy fhg56_5)) (tv (tB (decide (0≤s.Spent∧s.Spent≤999))) rfl)) (VRunO.nil ?_))
   exact jq (congrArg T.bool (kAT fhg56_5 rfl)) (js rfl (js rfl (js rfl (jn))))
  ·refine Qy 3 14 true 56 (dz fhg56_5) rfl rfl rfl ?_
   refine fO (OF.pickF (VEv.tmpB rfl (dz fhg56_5)) (VEv.bool false)) (VRunO.nil ?_)
   exact jq (congrArg T.bool (kAF fhg56_5)) (js rfl (js rfl (js rfl (jn))))
 refine mO (tB (decide ((((Z1 a)∧(QI a.Grid s.Fill))∧(0≤s.Checks∧s.Checks≤999))∧(0≤s.Spent∧s.Spent≤999)))) rfl ?_
 refine VRunO.joinB 4 [62,63,64] 65 (tB (decide (((((Z1 a)∧(QI a.Grid s.Fill))∧(0≤s.Checks∧s.Checks≤999))∧(0≤s.Spent∧s.Spent≤999))∧(0≤s.Start)))) ?_ ?_
 ·refine gw ((((Z1 a)∧(QI a.Grid s.Fill))∧(0≤s.Checks∧s.Checks≤999))∧(0≤s.Spent∧s.Spent≤999)) (fun fhg61_6=> ?_) fun fhg61_6=> ?_
  ·refine Yl (tI s.Start) (dy fhg61_6) rfl rfl rfl rfl Qdc rfl rfl QU ?_
   refine gF (dy fhg61_6) rfl rfl (xge (tv (tI s.Start) rfl) (VEv.int .i64 0)) (fO (OF.pickT (VEv.tmpB rfl (dy fhg61_6)) (tv (tB (decide (0≤s.Start))) rfl)) (VRunO.nil ?_))
   exact jq (congrArg T.bool (kAT fhg61_6 rfl)) (js rfl (js rfl (js rfl (jn))))
  ·refine Qy 3 19 true 61 (dz fhg61_6) rfl rfl rfl ?_
   refine fO (OF.pickF (VEv.tmpB rfl (dz fhg61_6)) (VEv.bool false)) (VRunO.nil ?_)
   exact jq (congrArg T.bool (kAF fhg61_6)) (js rfl (js rfl (js rfl (jn))))
 refine mO (tB (decide (((((Z1 a)∧(QI a.Grid s.Fill))∧(0≤s.Checks∧s.Checks≤999))∧(0≤s.Spent∧s.Spent≤999))∧(0≤s.Start)))) rfl ?_
 refine VRunO.joinB 6 [67,68,69,70,71] 72 (tB (decide ((((((Z1 a)∧(QI a.Grid s.Fill))∧(0≤s.Checks∧s.Checks≤999))∧(0≤s.Spent∧s.Spent≤999))∧(0≤s.Start))∧(s.Start≤s.Now)))) ?_ ?_
 ·refine gw (((((Z1 a)∧(QI a.Grid s.Fill))∧(0≤s.Checks∧s.Checks≤999))∧(0≤s.Spent∧s.Spent≤999))∧(0≤s.Start)) (fun fhg66_7=> ?_) fun fhg66_7=> ?_
  ·refine Yl (tI s.Start) (dy fhg66_7) rfl rfl rfl rfl Qdc rfl rfl QU ?_
   refine Yl (tI s.Now) (dy fhg66_7) rfl rfl rfl rfl Qch rfl rfl QU (gF (dy fhg66_7) rfl rfl (xle (tv (tI s.Start) rfl) (tv (tI s.Now) rfl)) (fO (OF.pickT (VEv.tmpB rfl (dy fhg66_7)) (tv (tB (decide (s.Start≤s.Now))) rfl)) (VRunO.nil ?_)))
   exact jq (congrArg T.bool (kAT fhg66_7 rfl)) (js rfl (js rfl (js rfl (js rfl (js rfl (jn))))))
  ·refine Qy 5 24 true 66 (dz fhg66_7) rfl rfl rfl ?_
   refine fO (OF.pickF (VEv.tmpB rfl (dz fhg66_7)) (VEv.bool false)) (VRunO.nil ?_)
   exact jq (congrArg T.bool (kAF fhg66_7)) (js rfl (js rfl (js rfl (js rfl (js rfl (jn))))))
 refine mO (tB (decide ((((((Z1 a)∧(QI a.Grid s.Fill))∧(0≤s.Checks∧s.Checks≤999))∧(0≤s.Spent∧s.Spent≤999))∧(0≤s.Start))∧(s.Start≤s.Now)))) rfl ?_
 refine VRunO.joinB 4 [74,75,76] 77 (tB (decide (((((((Z1 a)∧(QI a.Grid s.Fill))∧(0≤s.Checks∧s.Checks≤999))∧(0≤s.Spent∧s.Spent≤999))∧(0≤s.Start))∧(s.Start≤s.Now))∧(s.Now≤1000)))) ?_ ?_
 ·refine gw ((((((Z1 a)∧(QI a.Grid s.Fill))∧(0≤s.Checks∧s.Checks≤999))∧(0≤s.Spent∧s.Spent≤999))∧(0≤s.Start))∧(s.Start≤s.Now)) (fun fhg73_8=> ?_) fun fhg73_8=> ?_
  ·refine Yl (tI s.Now) (dy fhg73_8) rfl rfl rfl rfl Qch rfl rfl QU ?_
   refine gF (dy fhg73_8) rfl rfl (xle (tv (tI s.Now) rfl) (VEv.int .i64 1000)) (fO (OF.pickT (VEv.tmpB rfl (dy fhg73_8)) (tv (tB (decide (s.Now≤1000))) rfl)) (VRunO.nil ?_))
   exact jq (congrArg T.bool (kAT fhg73_8 rfl)) (js rfl (js rfl (js rfl (jn))))
  ·refine Qy 3 31 true 73 (dz fhg73_8) rfl rfl rfl ?_
   refine fO (OF.pickF (VEv.tmpB rfl (dz fhg73_8)) (VEv.bool false)) (VRunO.nil ?_)
   exact jq (congrArg T.bool (kAF fhg73_8)) (js rfl (js rfl (js rfl (jn))))
 refine aO (tB (decide (((((((Z1 a)∧(QI a.Grid s.Fill))∧(0≤s.Checks∧s.Checks≤999))∧(0≤s.Spent∧s.Spent≤999))∧(0≤s.Start))∧(s.Start≤s.Now))∧(s.Now≤1000)))) rfl (nt (rt (vb (b':=(decide (((((((Z1 a)∧(QI a.Grid s.Fill))∧(0≤s.Checks∧s.Checks≤999))∧(0≤s.Spent∧s.Spent≤999))∧(0≤s.Start))∧(s.Start≤s.Now))∧(s.Now≤1000)))) rfl ?_)))
 refine Zb (QjT (Jc hI' fhc0))
theorem Qdv (n:Nat) (a:D.Puzzle) (s:D.Session) (hz:QL a≤mx) (hs:QJ s≤mx):Pure (Qq Tryz.prog (n+43)) 28 [(T.agg (Qp false a)),(T.agg (Qe false s))] (tB (decide (QY a s))):=by
 refine Pure.intro (rs:= [ResultVar.tmp 4]) Tryz.func28 rfl rfl rfl (E0:= [(0,(T.agg (Qp false a))),(1,(T.agg (Qe false s)))]) rfl ?_
 obtain ⟨hlim,hmx,hmax⟩:=QC
 simp only [QJ] at hs
 have hz2:=hz
 simp only [QL,ZE] at hz2
 have hl:=QV (z:=QQ) a.Clues
 have hl2:=QV (z:=zI) s.Asked
 have hsl:=Qle s.Asked
 refine sr (kO (B.box (ts:=(Qp false a)) (tv (T.agg (Qp false a)) rfl) nofun rfl) (kO (B.box (ts:=(Qe false s)) (tv (T.agg (Qe false s)) rfl) nofun rfl) (fO (OF.assign (VEv.bool false)) (nt (sq (VRun.draw (B:= [[],[0],[0,1],[1,0,2],[2,0,1,3],[1,0,2],[2,0,1,5],[5,6,3,1,0,2,4],[4,3,6,5,7,1,0,2],[2,0,1,7,5,6,3,4,8],[8,4,3,6,5,7,1,0,2,9],[9,2,0,1,7,5,6,3,4,8,10],[10,8,4,3,6,5,7,1,0,2,9,11],[11,10,12,8,4,3,6,5,7,1,0,2,9],[9,2,0,1,7,5,6,3,4,8,12,10,11,13],[13,11,10,12,8,4,3,6,5,7,1,0,2,9,14],[14,9,2,0,1,7,5,6,3,4,8,12,10,11,13,15],[15,13,11,10,12,8,4,3,6,5,7,1,0,2,9,14,16],[16,15,17,13,11,10,12,8,4,3,6,5,7,1,0,2,9,14],[14,9,2,0,1,7,5,6,3,4,8,12,10,11,13,17,15,16,18],[18,16,15,17,13,11,10,12,8,4,3,6,5,7,1,0,2,9,14,19],[19,14,9,2,0,1,7,5,6,3,4,8,12,10,11,13,17,15,16,18,20],[18,16,15,17,13,11,10,12,8,4,3,6,5,7,1,0,2,9,14,19],[19,14,9,2,0,1,7,5,6,3,4,8,12,10,11,13,17,15,16,18,22],[22,18,16,15,17,13,11,10,12,8,4,3,6,5,7,1,0,2,9,14,19,23],[23,19,14,9,2,0,1,7,5,6,3,4,8,12,10,11,13,17,15,16,18,22,24],[24,22,23,25,20,18,16,15,17,13,11,10,12,8,4,3,6,5,7,1,0,2,9,14,19,21],[21,20,25,23,22,24,26,18,16,15,17,13,11,10,12,8,4,3,6,5,7,1,0,2,9,14,19],[19,14,9,2,0,1,7,5,6,3,4,8,12,10,11,13,17,15,16,18,26,24,22,23,25,20,21,27],[27,21,20,25,23,22,24,26,18,16,15,17,13,11,10,12,8,4,3,6,5,7,1,0,2,9,14,19,28],[28,19,14,9,2,0,1,7,5,6,3,4,8,12,10,11,13,17,15,16,18,26,24,22,23,25,20,21,27,29],[29,27,21,20,25,23,22,24,26,18,16,15,17,13,11,10,12,8,4,3,6,5,7,1,0,2,9,14,19,28,30],[27,21,20,25,23,22,24,26,18,16,15,17,13,11,10,12,8,4,3,6,5,7,1,0,2,9,14,19,28],[28,19,14,9,2,0,1,7,5,6,3,4,8,12,10,11,13,17,15,16,18,26,24,22,23,25,20,21,27,32],[32,33,30,28,19,14,9,2,0,1,7,5,6,3,4,8,12,10,11,13,17,15,16,18,26,24,22,23,25,20,21,27,29,31],[31,29,30,33,32,34,27,21,20,25,23,22,24,26,18,16,15,17,13,11,10,12,8,4,3,6,5,7,1,0,2,9,14,19,28],[28,19,14,9,2,0,1,7,5,6,3,4,8,12,10,11,13,17,15,16,18,26,24,22,23,25,20,21,27,34,32,33,30,29,31,35],[35,31,29,30,33,32,34,27,21,20,25,23,22,24,26,18,16,15,17,13,11,10,12,8,4,3,6,5,7,1,0,2,9,14,19,28,36],[36,28,19,14,9,2,0,1,7,5,6,3,4,8,12,10,11,13,17,15,16,18,26,24,22,23,25,20,21,27,34,32,33,30,29,31,35,37],[35,31,29,30,33,32,34,27,21,20,25,23,22,24,26,18,16,15,17,13,11,10,12,8,4,3,6,5,7,1,0,2,9,14,19,28,36],[36,28,19,14,9,2,0,1,7,5,6,3,4,8,12,10,11,13,17,15,16,18,26,24,22,23,25,20,21,27,34,32,33,30,29,31,35,39],[39,40,37,35,31,29,30,33,32,34,27,21,20,25,23,22,24,26,18,16,15,17,13,11,10,12,8,4,3,6,5,7,1,0,2,9,14,19,28,36,38],[38,37,40,39,41,35,31,29,30,33,32,34,27,21,20,25,23,22,24,26,18,16,15,17,13,11,10,12,8,4,3,6,5,7,1,0,2,9,14,19,28,36],[36,28,19,14,9,2,0,1,7,5,6,3,4,8,12,10,11,13,17,15,16,18,26,24,22,23,25,20,21,27,34,32,33,30,29,31,35,41,39,40,37,38,42],[42,38,37,40,39,41,35,31,29,30,33,32,34,27,21,20,25,23,22,24,26,18,16,15,17,13,11,10,12,8,4,3,6,5,7,1,0,2,9,14,19,28,36,43],[43,36,28,19,14,9,2,0,1,7,5,6,3,4,8,12,10,11,13,17,15,16,18,26,24,22,23,25,20,21,27,34,32,33,30,29,31,35,41,39,40,37,38,42,44],[44,42,38,37,40,39,41,35,31,29,30,33,32,34,27,21,20,25,23,22,24,26,18,16,15,17,13,11,10,12,8,4,3,6,5,7,1,0,2,9,14,19,28,36,43,45],[45,44,46,42,38,37,40,39,41,35,31,29,30,33,32,34,27,21,20,25,23,22,24,26,18,16,15,17,13,11,10,12,8,4,3,6,5,7,1,0,2,9,14,19,28,36,43],[43,36,28,19,14,9,2,0,1,7,5,6,3,4,8,12,10,11,13,17,15,16,18,26,24,22,23,25,20,21,27,34,32,33,30,29,31,35,41,39,40,37,38,42,46,44,45,47]]) (by kernel_rfl) (by kernel_rfl) ?_))))))
 refine lD (OL.loadOn (us:=(Qp false a)) (tv (T.op 0 0) rfl) rfl QeX QdR (lb rfl) rfl) rfl rfl (VRunD.quiet (bi:= [0]) rfl VWant.always rfl rfl rfl bn (cS (vc (tv (T.agg (Qp false a)) rfl) vn) (LendL.cons (lg Z4) ln) (Qec (n+0) a (by assumption)) rfl rfl) (mD (tB (decide (Z1 a))) rfl rfl ?_))
 refine gw (Z1 a) (fun fhg7_1=> ?_) fun fhg7_1=> ?_
 ·refine VRunD.free rfl (VWant.on rfl rfl (dy fhg7_1)) rfl (OF.fieldAddrO (tv (T.op 0 0) rfl) Y0) ?_
  refine VRunD.look rfl (VWant.on rfl rfl (dy fhg7_1)) rfl (OL.loadOn (us:=(Qc false a.Grid)) (tv (T.op 0 0) rfl) rfl QX QT (lb rfl) rfl) (VRunD.free rfl (VWant.on rfl rfl (dy fhg7_1)) rfl (OF.fieldAddrO (tv (T.op 1 0) rfl) Ju) (VRunD.look rfl (VWant.on rfl rfl (dy fhg7_1)) rfl (OL.loadO1 (t:=(tS s.Fill)) (tv (T.op 1 0) rfl) rfl rfl Z7) (VRunD.quiet (bi:= [5,6,3,1,0,2,4]) rfl (VWant.on rfl rfl (dy fhg7_1)) rfl rfl rfl bn (cS (vc (tv (T.agg (Qc false a.Grid)) rfl) (vc (tv (tS s.Fill) rfl) vn)) (LendL.cons (lg Qs) (lp rfl ln)) (Qcb (n+39) a.Grid s.Fill (by omega) (by omega)) rfl rfl) (fD (OF.pickT (VEv.tmpB rfl (dy fhg7_1)) (tv (tB (decide (QI a.Grid s.Fill))) rfl)) rfl rfl (mD (tB (decide (QI a.Grid s.Fill))) rfl rfl ?_)))))
  refine gw (QI a.Grid s.Fill) (fun fhg14_2=> ?_) fun fhg14_2=> ?_
  ·refine VRunD.free rfl (VWant.on rfl rfl (dy fhg14_2)) rfl (OF.fieldAddrO (tv (T.op 1 0) rfl) J9) ?_
   refine VRunD.look rfl (VWant.on rfl rfl (dy fhg14_2)) rfl (OL.loadO1 (t:=(tI s.Checks)) (tv (T.op 1 1) rfl) rfl rfl QU) (VRunD.quiet (bi:= [10,8,4,3,6,5,7,1,0,2,9,11]) rfl (VWant.on rfl rfl (dy fhg14_2)) rfl rfl rfl bn (cS (vc (tv (tI s.Checks) rfl) (vc (VEv.int .i64 0) (vc (VEv.int .i64 999) vn))) (ZJ rfl) (Q4 (n+41) s.Checks 0 999) rfl rfl) (fD (OF.pickT (VEv.tmpB rfl (dy fhg14_2)) (tv (tB (decide (0≤s.Checks∧s.Checks≤999))) rfl)) rfl rfl (mD (tB (decide (0≤s.Checks∧s.Checks≤999))) rfl rfl ?_)))
   refine gw (0≤s.Checks∧s.Checks≤999) (fun fhg19_3=> ?_) fun fhg19_3=> ?_
   ·refine VRunD.free rfl (VWant.on rfl rfl (dy fhg19_3)) rfl (OF.fieldAddrO (tv (T.op 1 0) rfl) Qbf) ?_
    refine VRunD.look rfl (VWant.on rfl rfl (dy fhg19_3)) rfl (OL.loadO1 (t:=(tI s.Spent)) (tv (T.op 1 2) rfl) rfl rfl QU) (VRunD.quiet (bi:= [15,13,11,10,12,8,4,3,6,5,7,1,0,2,9,14,16]) rfl (VWant.on rfl rfl (dy fhg19_3)) rfl rfl rfl bn (cS (vc (tv (tI s.Spent) rfl) (vc (VEv.int .i64 0) (vc (VEv.int .i64 999) vn))) (ZJ rfl) (Q4 (n+41) s.Spent 0 999) rfl rfl) (fD (OF.pickT (VEv.tmpB rfl (dy fhg19_3)) (tv (tB (decide (0≤s.Spent∧s.Spent≤999))) rfl)) rfl rfl (mD (tB (decide (0≤s.Spent∧s.Spent≤999))) rfl rfl ?_)))
    refine gw (0≤s.Spent∧s.Spent≤999) (fun fhg24_4=> ?_) fun fhg24_4=> ?_
    ·refine VRunD.free rfl (VWant.on rfl rfl (dy fhg24_4)) rfl (OF.fieldAddrO (tv (T.op 1 0) rfl) Ym) ?_
     refine VRunD.look rfl (VWant.on rfl rfl (dy fhg24_4)) rfl (OL.loadO1 (t:=(rd 1 Qa s.Asked)) (tv (T.op 1 3) rfl) rfl rfl YY) (VRunD.free rfl (VWant.on rfl rfl (dy fhg24_4)) rfl (OF.fieldAddrO (tv (T.op 0 0) rfl) Y2) (VRunD.look rfl (VWant.on rfl rfl (dy fhg24_4)) rfl (OL.loadO1 (t:=(rd 2 Qg a.Clues)) (tv (T.op 0 3) rfl) rfl rfl Qdq) (VRunD.look rfl (VWant.on rfl rfl (dy fhg24_4)) rfl (B.lenR (m:=a.Clues.length) (tv (rd 2 Qg a.Clues) rfl) U35 (List.length_map ..)) (VRunD.free rfl (VWant.on rfl rfl (dy fhg24_4)) rfl (B.sub (n:=(((a.Clues.length:Nat):Int) - 1)) (tv (tN a.Clues.length) rfl) (VEv.int .i64 1) (by (rw [Qt (by omega)];done))) (VRunD.quiet (bi:= [24,22,23,25,20,18,16,15,17,13,11,10,12,8,4,3,6,5,7,1,0,2,9,14,19,21]) rfl (VWant.on rfl rfl (dy fhg24_4)) rfl rfl rfl bn (cS (vc (tv (rd 1 Qa s.Asked) rfl) (vc (VEv.int .i64 0) (vc (tv (tI (((a.Clues.length:Nat):Int) - 1)) rfl) vn))) (ZJ rfl) (QgZ (n+40) s.Asked 0 (((a.Clues.length:Nat):Int) - 1) (by omega)) rfl rfl) (fD (OF.pickT (VEv.tmpB rfl (dy fhg24_4)) (tv (tB (decide (∀x∈s.Asked,0≤x∧x≤(((a.Clues.length:Nat):Int) - 1)))) rfl)) rfl rfl (mD (tB (decide (∀x∈s.Asked,0≤x∧x≤(((a.Clues.length:Nat):Int) - 1)))) rfl rfl ?_)))))))
     refine gw (∀x∈s.Asked,0≤x∧x≤(((a.Clues.length:Nat):Int) - 1)) (fun fhg33_5=> ?_) fun fhg33_5=> ?_
     ·refine VRunD.free rfl (VWant.on rfl rfl (dy fhg33_5)) rfl (OF.fieldAddrO (tv (T.op 1 0) rfl) Ym) ?_
      refine VRunD.look rfl (VWant.on rfl rfl (dy fhg33_5)) rfl (OL.loadO1 (t:=(rd 1 Qa s.Asked)) (tv (T.op 1 3) rfl) rfl rfl YY) (VRunD.quiet (bi:= [29,27,21,20,25,23,22,24,26,18,16,15,17,13,11,10,12,8,4,3,6,5,7,1,0,2,9,14,19,28,30]) rfl (VWant.on rfl rfl (dy fhg33_5)) rfl rfl rfl bn (OC.callF (us:= [(rd 1 Qa s.Asked)]) (r:=(T.sl true 1 ((QbT s.Asked).map (Qa true)))) (r':=(T.os 1 2 0 (((QbT s.Asked).map (Qa true)).length))) (objs:= [(Obj.rows 1 ((QbT s.Asked).map (Qa true)))]) rfl (vc (tv (rd 1 Qa s.Asked) rfl) vn) (ZJ rfl) (QcC (n+40) s.Asked (by omega)) rfl) (VRunD.free rfl (VWant.on rfl rfl (dy fhg33_5)) rfl (OF.fieldAddrO (tv (T.op 1 0) rfl) Ym) (VRunD.look rfl (VWant.on rfl rfl (dy fhg33_5)) rfl (OL.loadO1 (t:=(rd 1 Qa s.Asked)) (tv (T.op 1 3) rfl) rfl rfl YY) (VRunD.quiet (bi:= [32,33,30,28,19,14,9,2,0,1,7,5,6,3,4,8,12,10,11,13,17,15,16,18,26,24,22,23,25,20,21,27,29,31]) rfl (VWant.on rfl rfl (dy fhg33_5)) rfl rfl rfl bn (cS (us:= [(rd 1 Qa (QbT s.Asked)),(rd 1 Qa s.Asked)]) (vc (tv (T.os 1 2 0 (((QbT s.Asked).map (Qa true)).length)) rfl) (vc (tv (rd 1 Qa s.Asked) rfl) vn)) (LendL.cons (Lend.os rfl rfl (okInt.fzMap _ _)) (lp rfl ln)) (QaE (n+41) (QbT s.Asked) s.Asked (by omega) (by omega)) rfl rfl) (fD (OF.pickT (VEv.tmpB rfl (dy fhg33_5)) (tv (tB (decide ((QbT s.Asked)=s.Asked))) rfl)) rfl rfl (mD (tB (decide ((QbT s.Asked)=s.Asked))) rfl rfl ?_))))))
      refine gw ((QbT s.Asked)=s.Asked) (fun fhg41_6=> ?_) fun fhg41_6=> ?_
      ·refine VRunD.free rfl (VWant.on rfl rfl (dy fhg41_6)) rfl (OF.fieldAddrO (tv (T.op 1 0) rfl) Qdc) ?_
       refine VRunD.look rfl (VWant.on rfl rfl (dy fhg41_6)) rfl (OL.loadO1 (t:=(tI s.Start)) (tv (T.op 1 4) rfl) rfl rfl QU) (VRunD.free rfl (VWant.on rfl rfl (dy fhg41_6)) rfl (OF.fieldAddrO (tv (T.op 1 0) rfl) Qch) (VRunD.look rfl (VWant.on rfl rfl (dy fhg41_6)) rfl (OL.loadO1 (t:=(tI s.Now)) (tv (T.op 1 5) rfl) rfl rfl QU) (VRunD.quiet (bi:= [39,40,37,35,31,29,30,33,32,34,27,21,20,25,23,22,24,26,18,16,15,17,13,11,10,12,8,4,3,6,5,7,1,0,2,9,14,19,28,36,38]) rfl (VWant.on rfl rfl (dy fhg41_6)) rfl rfl rfl bn (cS (vc (tv (tI s.Start) rfl) (vc (VEv.int .i64 0) (vc (tv (tI s.Now) rfl) vn))) (ZJ rfl) (Q4 (n+41) s.Start 0 s.Now) rfl rfl) (fD (OF.pickT (VEv.tmpB rfl (dy fhg41_6)) (tv (tB (decide (0≤s.Start∧s.Start≤s.Now))) rfl)) rfl rfl (mD (tB (decide (0≤s.Start∧s.Start≤s.Now))) rfl rfl ?_)))))
       refine gw (0≤s.Start∧s.Start≤s.Now) (fun fhg48_7=> ?_) fun fhg48_7=> ?_
       ·refine VRunD.free rfl (VWant.on rfl rfl (dy fhg48_7)) rfl (OF.fieldAddrO (tv (T.op 1 0) rfl) Qch) ?_
        refine VRunD.look rfl (VWant.on rfl rfl (dy fhg48_7)) rfl (OL.loadO1 (t:=(tI s.Now)) (tv (T.op 1 5) rfl) rfl rfl QU) (VRunD.free rfl (VWant.on rfl rfl (dy fhg48_7)) rfl (xle (tv (tI s.Now) rfl) (VEv.int .i64 1000)) (fD (OF.pickT (VEv.tmpB rfl (dy fhg48_7)) (tv (tB (decide (s.Now≤1000))) rfl)) rfl rfl (fD (OF.assign (tv (tB (decide (s.Now≤1000))) rfl)) rfl rfl (VRunD.nil (tn (rt (vb (b':=(decide (s.Now≤1000))) rfl ?_)))))))
        (refine Zb ⟨fun h=>(Qis a s).1 ⟨⟨⟨⟨⟨⟨⟨?_,?_⟩,?_⟩,?_⟩,?_⟩,?_⟩,?_⟩,h⟩,fun h=>h.2.2.2.2.2.2.2.2⟩<;>assumption)
       refine oD rfl rfl (dz fhg48_7) rfl (oD rfl rfl (dz fhg48_7) rfl (oD rfl rfl (dz fhg48_7) rfl (fD (OF.pickF (VEv.tmpB rfl (dz fhg48_7)) (VEv.bool false)) rfl rfl (fD (OF.assign (tv (tB false) rfl)) rfl rfl (VRunD.nil (tn (rt (vb (b':=false) rfl ?_))))))))
       (symm;rw [decide_eq_false_iff_not];rintro ⟨h1,h2,h3,h4,h5,h6,h7,h8,h9⟩;omega)
      refine oD rfl rfl (dz fhg41_6) rfl (oD rfl rfl (dz fhg41_6) rfl (oD rfl rfl (dz fhg41_6) rfl (oD rfl rfl (dz fhg41_6) rfl (oD rfl rfl (dz fhg41_6) rfl (fD (OF.pickF (VEv.tmpB rfl (dz fhg41_6)) (VEv.bool false)) rfl rfl (mD (tB false) rfl rfl (VRunD.off rfl (VWant.not (b:=false) rfl rfl rfl) (VRunD.off rfl (VWant.not (b:=false) rfl rfl rfl) (VRunD.off rfl (VWant.not (b:=false) rfl rfl rfl) (fD (OF.pickF (tv (tB false) rfl) (VEv.bool false)) rfl rfl (fD (OF.assign (tv (tB false) rfl)) rfl rfl ?_)))))))))))
      refine VRunD.nil (tn (rt (vb (b':=false) rfl ?_)))
      (symm;rw [decide_eq_false_iff_not];rintro ⟨h1,h2,h3,h4,h5,h6,h7,h8,h9⟩;exact absurd (srtd_eq.2 h6) (by assumption))
     refine oD rfl rfl (dz fhg33_5) rfl (oD rfl rfl (dz fhg33_5) rfl (oD rfl rfl (dz fhg33_5) rfl (oD rfl rfl (dz fhg33_5) rfl (oD rfl rfl (dz fhg33_5) rfl (oD rfl rfl (dz fhg33_5) rfl (fD (OF.pickF (VEv.tmpB rfl (dz fhg33_5)) (VEv.bool false)) rfl rfl (mD (tB false) rfl rfl (VRunD.off rfl (VWant.not (b:=false) rfl rfl rfl) (VRunD.off rfl (VWant.not (b:=false) rfl rfl rfl) (VRunD.off rfl (VWant.not (b:=false) rfl rfl rfl) (VRunD.off rfl (VWant.not (b:=false) rfl rfl rfl) ?_)))))))))))
     refine VRunD.off rfl (VWant.not (b:=false) rfl rfl rfl) (fD (OF.pickF (tv (tB false) rfl) (VEv.bool false)) rfl rfl (mD (tB false) rfl rfl (VRunD.off rfl (VWant.not (b:=false) rfl rfl rfl) (VRunD.off rfl (VWant.not (b:=false) rfl rfl rfl) (VRunD.off rfl (VWant.not (b:=false) rfl rfl rfl) (fD (OF.pickF (tv (tB false) rfl) (VEv.bool false)) rfl rfl (fD (OF.assign (tv (tB false) rfl)) rfl rfl (VRunD.nil (tn (rt (vb (b':=false) rfl ?_)))))))))))
     (symm;rw [decide_eq_false_iff_not];rintro ⟨h1,h2,h3,h4,h5,h6,h7,h8,h9⟩;contradiction)
    refine oD rfl rfl (dz fhg24_4) rfl (oD rfl rfl (dz fhg24_4) rfl (oD rfl rfl (dz fhg24_4) rfl (oD rfl rfl (dz fhg24_4) rfl (oD rfl rfl (dz fhg24_4) rfl (oD rfl rfl (dz fhg24_4) rfl (oD rfl rfl (dz fhg24_4) rfl (fD (OF.pickF (VEv.tmpB rfl (dz fhg24_4)) (VEv.bool false)) rfl rfl (mD (tB false) rfl rfl (VRunD.off rfl (VWant.not (b:=false) rfl rfl rfl) (VRunD.off rfl (VWant.not (b:=false) rfl rfl rfl) (VRunD.off rfl (VWant.not (b:=false) rfl rfl rfl) ?_)))))))))))
    refine VRunD.off rfl (VWant.not (b:=false) rfl rfl rfl) (VRunD.off rfl (VWant.not (b:=false) rfl rfl rfl) (VRunD.off rfl (VWant.not (b:=false) rfl rfl rfl) (fD (OF.pickF (tv (tB false) rfl) (VEv.bool false)) rfl rfl (mD (tB false) rfl rfl (VRunD.off rfl (VWant.not (b:=false) rfl rfl rfl) (VRunD.off rfl (VWant.not (b:=false) rfl rfl rfl) (VRunD.off rfl (VWant.not (b:=false) rfl rfl rfl) (VRunD.off rfl (VWant.not (b:=false) rfl rfl rfl) (VRunD.off rfl (VWant.not (b:=false) rfl rfl rfl) (fD (OF.pickF (tv (tB false) rfl) (VEv.bool false)) rfl rfl (mD (tB false) rfl rfl ?_)))))))))))
    refine VRunD.off rfl (VWant.not (b:=false) rfl rfl rfl) (VRunD.off rfl (VWant.not (b:=false) rfl rfl rfl) (VRunD.off rfl (VWant.not (b:=false) rfl rfl rfl) (fD (OF.pickF (tv (tB false) rfl) (VEv.bool false)) rfl rfl (fD (OF.assign (tv (tB false) rfl)) rfl rfl (VRunD.nil (tn (rt (vb (b':=false) rfl ?_))))))))
    (symm;rw [decide_eq_false_iff_not];rintro ⟨h1,h2,h3,h4,h5,h6,h7,h8,h9⟩;contradiction)
   refine oD rfl rfl (dz fhg19_3) rfl (oD rfl rfl (dz fhg19_3) rfl (oD rfl rfl (dz fhg19_3) rfl (fD (OF.pickF (VEv.tmpB rfl (dz fhg19_3)) (VEv.bool false)) rfl rfl (mD (tB false) rfl rfl (VRunD.off rfl (VWant.not (b:=false) rfl rfl rfl) (VRunD.off rfl (VWant.not (b:=false) rfl rfl rfl) (VRunD.off rfl (VWant.not (b:=false) rfl rfl rfl) (VRunD.off rfl (VWant.not (b:=false) rfl rfl rfl) (VRunD.off rfl (VWant.not (b:=false) rfl rfl rfl) (VRunD.off rfl (VWant.not (b:=false) rfl rfl rfl) (VRunD.off rfl (VWant.not (b:=false) rfl rfl rfl) ?_)))))))))))
   refine fD (OF.pickF (tv (tB false) rfl) (VEv.bool false)) rfl rfl (mD (tB false) rfl rfl (VRunD.off rfl (VWant.not (b:=false) rfl rfl rfl) (VRunD.off rfl (VWant.not (b:=false) rfl rfl rfl) (VRunD.off rfl (VWant.not (b:=false) rfl rfl rfl) (VRunD.off rfl (VWant.not (b:=false) rfl rfl rfl) (VRunD.off rfl (VWant.not (b:=false) rfl rfl rfl) (VRunD.off rfl (VWant.not (b:=false) rfl rfl rfl) (fD (OF.pickF (tv (tB false) rfl) (VEv.bool false)) rfl rfl (mD (tB false) rfl rfl (VRunD.off rfl (VWant.not (b:=false) rfl rfl rfl) (VRunD.off rfl (VWant.not (b:=false) rfl rfl rfl) ?_)))))))))))
   refine VRunD.off rfl (VWant.not (b:=false) rfl rfl rfl) (VRunD.off rfl (VWant.not (b:=false) rfl rfl rfl) (VRunD.off rfl (VWant.not (b:=false) rfl rfl rfl) (fD (OF.pickF (tv (tB false) rfl) (VEv.bool false)) rfl rfl (mD (tB false) rfl rfl (VRunD.off rfl (VWant.not (b:=false) rfl rfl rfl) (VRunD.off rfl (VWant.not (b:=false) rfl rfl rfl) (VRunD.off rfl (VWant.not (b:=false) rfl rfl rfl) (fD (OF.pickF (tv (tB false) rfl) (VEv.bool false)) rfl rfl (fD (OF.assign (tv (tB false) rfl)) rfl rfl (VRunD.nil (tn ?_)))))))))))
   refine rt (vb (b':=false) rfl ?_)
   (symm;rw [decide_eq_false_iff_not];rintro ⟨h1,h2,h3,h4,h5,h6,h7,h8,h9⟩;contradiction)
  refine oD rfl rfl (dz fhg14_2) rfl (oD rfl rfl (dz fhg14_2) rfl (oD rfl rfl (dz fhg14_2) rfl (fD (OF.pickF (VEv.tmpB rfl (dz fhg14_2)) (VEv.bool false)) rfl rfl (mD (tB false) rfl rfl (VRunD.off rfl (VWant.not (b:=false) rfl rfl rfl) (VRunD.off rfl (VWant.not (b:=false) rfl rfl rfl) (VRunD.off rfl (VWant.not (b:=false) rfl rfl rfl) (fD (OF.pickF (tv (tB false) rfl) (VEv.bool false)) rfl rfl (mD (tB false) rfl rfl (VRunD.off rfl (VWant.not (b:=false) rfl rfl rfl) (VRunD.off rfl (VWant.not (b:=false) rfl rfl rfl) ?_)))))))))))
  refine VRunD.off rfl (VWant.not (b:=false) rfl rfl rfl) (VRunD.off rfl (VWant.not (b:=false) rfl rfl rfl) (VRunD.off rfl (VWant.not (b:=false) rfl rfl rfl) (VRunD.off rfl (VWant.not (b:=false) rfl rfl rfl) (VRunD.off rfl (VWant.not (b:=false) rfl rfl rfl) (fD (OF.pickF (tv (tB false) rfl) (VEv.bool false)) rfl rfl (mD (tB false) rfl rfl (VRunD.off rfl (VWant.not (b:=false) rfl rfl rfl) (VRunD.off rfl (VWant.not (b:=false) rfl rfl rfl) (VRunD.off rfl (VWant.not (b:=false) rfl rfl rfl) (VRunD.off rfl (VWant.not (b:=false) rfl rfl rfl) (VRunD.off rfl (VWant.not (b:=false) rfl rfl rfl) ?_)))))))))))
  refine VRunD.off rfl (VWant.not (b:=false) rfl rfl rfl) (fD (OF.pickF (tv (tB false) rfl) (VEv.bool false)) rfl rfl (mD (tB false) rfl rfl (VRunD.off rfl (VWant.not (b:=false) rfl rfl rfl) (VRunD.off rfl (VWant.not (b:=false) rfl rfl rfl) (VRunD.off rfl (VWant.not (b:=false) rfl rfl rfl) (VRunD.off rfl (VWant.not (b:=false) rfl rfl rfl) (VRunD.off rfl (VWant.not (b:=false) rfl rfl rfl) (fD (OF.pickF (tv (tB false) rfl) (VEv.bool false)) rfl rfl (mD (tB false) rfl rfl (VRunD.off rfl (VWant.not (b:=false) rfl rfl rfl) (VRunD.off rfl (VWant.not (b:=false) rfl rfl rfl) ?_)))))))))))
  refine VRunD.off rfl (VWant.not (b:=false) rfl rfl rfl) (fD (OF.pickF (tv (tB false) rfl) (VEv.bool false)) rfl rfl (fD (OF.assign (tv (tB false) rfl)) rfl rfl (VRunD.nil (tn (rt (vb (b':=false) rfl ?_))))))
  (symm;rw [decide_eq_false_iff_not];rintro ⟨h1,h2,h3,h4,h5,h6,h7,h8,h9⟩;contradiction)
 refine oD rfl rfl (dz fhg7_1) rfl (oD rfl rfl (dz fhg7_1) rfl (oD rfl rfl (dz fhg7_1) rfl (oD rfl rfl (dz fhg7_1) rfl (oD rfl rfl (dz fhg7_1) rfl (fD (OF.pickF (VEv.tmpB rfl (dz fhg7_1)) (VEv.bool false)) rfl rfl (mD (tB false) rfl rfl (VRunD.off rfl (VWant.not (b:=false) rfl rfl rfl) (VRunD.off rfl (VWant.not (b:=false) rfl rfl rfl) (VRunD.off rfl (VWant.not (b:=false) rfl rfl rfl) (fD (OF.pickF (tv (tB false) rfl) (VEv.bool false)) rfl rfl (mD (tB false) rfl rfl ?_)))))))))))
 refine VRunD.off rfl (VWant.not (b:=false) rfl rfl rfl) (VRunD.off rfl (VWant.not (b:=false) rfl rfl rfl) (VRunD.off rfl (VWant.not (b:=false) rfl rfl rfl) (fD (OF.pickF (tv (tB false) rfl) (VEv.bool false)) rfl rfl (mD (tB false) rfl rfl (VRunD.off rfl (VWant.not (b:=false) rfl rfl rfl) (VRunD.off rfl (VWant.not (b:=false) rfl rfl rfl) (VRunD.off rfl (VWant.not (b:=false) rfl rfl rfl) (VRunD.off rfl (VWant.not (b:=false) rfl rfl rfl) (VRunD.off rfl (VWant.not (b:=false) rfl rfl rfl) (VRunD.off rfl (VWant.not (b:=false) rfl rfl rfl) (VRunD.off rfl (VWant.not (b:=false) rfl rfl rfl) ?_)))))))))))
 refine fD (OF.pickF (tv (tB false) rfl) (VEv.bool false)) rfl rfl (mD (tB false) rfl rfl (VRunD.off rfl (VWant.not (b:=false) rfl rfl rfl) (VRunD.off rfl (VWant.not (b:=false) rfl rfl rfl) (VRunD.off rfl (VWant.not (b:=false) rfl rfl rfl) (VRunD.off rfl (VWant.not (b:=false) rfl rfl rfl) (VRunD.off rfl (VWant.not (b:=false) rfl rfl rfl) (VRunD.off rfl (VWant.not (b:=false) rfl rfl rfl) (fD (OF.pickF (tv (tB false) rfl) (VEv.bool false)) rfl rfl (mD (tB false) rfl rfl (VRunD.off rfl (VWant.not (b:=false) rfl rfl rfl) (VRunD.off rfl (VWant.not (b:=false) rfl rfl rfl) ?_)))))))))))
 refine VRunD.off rfl (VWant.not (b:=false) rfl rfl rfl) (VRunD.off rfl (VWant.not (b:=false) rfl rfl rfl) (VRunD.off rfl (VWant.not (b:=false) rfl rfl rfl) (fD (OF.pickF (tv (tB false) rfl) (VEv.bool false)) rfl rfl (mD (tB false) rfl rfl (VRunD.off rfl (VWant.not (b:=false) rfl rfl rfl) (VRunD.off rfl (VWant.not (b:=false) rfl rfl rfl) (VRunD.off rfl (VWant.not (b:=false) rfl rfl rfl) (fD (OF.pickF (tv (tB false) rfl) (VEv.bool false)) rfl rfl (fD (OF.assign (tv (tB false) rfl)) rfl rfl (VRunD.nil (tn ?_)))))))))))
 refine rt (vb (b':=false) rfl ?_)
 (symm;rw [decide_eq_false_iff_not];rintro ⟨h1,h2,h3,h4,h5,h6,h7,h8,h9⟩;contradiction)
end Go.Proofs.YtcccmceoplcciaaGreat.AE
namespace Go.Proofs.YtcccmceoplcciaaGreat.AE
open Go Go.RowKit
set_option linter.unusedVariables false
set_option linter.unusedSimpArgs false
set_option maxRecDepth 20000
set_option maxHeartbeats 2000000
theorem Qc4 (n:Nat) (a:D.Puzzle) (k:Nat) (hk:QM k a.Clues+1*a.Seals.length≤YW):LoanM (Qq Tryz.prog (n+4)) 33 [(2,(a.Clues.map (Qg true))),(1,(a.Seals.map (Qa true)))] [(T.agg [(tI a.Grid.Rows),(tI a.Grid.Cols),(tS a.Grid.Cells),(T.os 2 0 0 ((a.Clues.map (Qg true)).length)),(T.os 1 1 0 ((a.Seals.map (Qa true)).length)),(tI a.Salt)]),(tN k)] (tN (QM k a.Clues+1*a.Seals.length)) [(2,((Jk k a.Clues).map (Qg true))),(1,((JJ Zs 1 (QM k a.Clues) a.Seals.length).map (Qa true)))]:=by
 refine LoanM.intro (rs:= [ResultVar.tmp 4]) [(0,(T.agg [(tI a.Grid.Rows),(tI a.Grid.Cols),(tS a.Grid.Cells),(T.os 2 0 0 ((a.Clues.map (Qg true)).length)),(T.os 1 1 0 ((a.Seals.map (Qa true)).length)),(tI a.Salt)]))] Tryz.func33 rfl rfl rfl rfl (bc ⟨by kernel_rfl,rfl⟩ bn) (PinsTo.at (And.intro (And.intro trivial ⟨_,(.head _),(.agg 3 rfl (.os _ _))⟩) ⟨_,(.head _),(.agg 4 rfl (.os _ _))⟩)) (.int _ _) (bc (okeClue.cleanMap _) (bc (okInt.cleanMap _) bn)) (E0:= [(0,(T.agg [(tI a.Grid.Rows),(tI a.Grid.Cols),(tS a.Grid.Cells),(T.os 2 0 0 ((a.Clues.map (Qg true)).length)),(T.os 1 1 0 ((a.Seals.map (Qa true)).length)),(tI a.Salt)])),(1,(tN k))]) rfl (fun asg=> ?_)
 obtain ⟨hlim,hmx,hmax⟩:=QC
 show VRun _ _ _ [(0,(T.agg [(tI a.Grid.Rows),(tI a.Grid.Cols),(tS a.Grid.Cells),(T.os 2 0 0 ((a.Clues.map (Qg true)).length)),(T.os 1 1 0 ((a.Seals.map (Qa true)).length)),(tI a.Salt)])),(1,(tN k))] (Q3 [(0,(Obj.rowsN 2 (a.Clues.map (Qg true)) (asg 0))),(1,(Obj.rowsN 1 (a.Seals.map (Qa true)) (asg 1)))]) 2 _
 refine sr (kO (B.box (ts:= [(tI a.Grid.Rows),(tI a.Grid.Cols),(tS a.Grid.Cells),(T.os 2 0 0 ((a.Clues.map (Qg true)).length)),(T.os 1 1 0 ((a.Seals.map (Qa true)).length)),(tI a.Salt)]) (tv (T.agg [(tI a.Grid.Rows),(tI a.Grid.Cols),(tS a.Grid.Cells),(T.os 2 0 0 ((a.Clues.map (Qg true)).length)),(T.os 1 1 0 ((a.Seals.map (Qa true)).length)),(tI a.Salt)]) rfl) nofun rfl) (fO (OF.assign (VEv.int .i64 0)) (nt (sr (lf (T.os 2 0 0 ((a.Clues.map (Qg true)).length)) rfl Y2 rfl rfl Qdq (mO (tN k) rfl (cO (OC.callL (ts:= [(T.os 2 0 0 ((a.Clues.map (Qg true)).length)),(tN k)]) [0] (r:=(tN (QM k a.Clues))) (L:= [(2,(a.Clues.map (Qg true)))]) [(2,((Jk k a.Clues).map (Qg true)))] [(Obj.rowsN 2 (a.Clues.map (Qg true)) (asg 0))] rfl (vc (tv (T.os 2 0 0 ((a.Clues.map (Qg true)).length)) rfl) (vc (tv (tN k) rfl) vn)) (by decide) rfl (And.intro (And.intro rfl rfl) (trivial)) (bc (okeClue.cleanMap _) bn) (bc (okeClue.cleanMap _) bn) rfl rfl (.int _ _) (Qdy (n+0) a.Clues k (by omega))) (aO (tN (QM k a.Clues)) rfl (nt (sr (lf (T.os 1 1 0 ((a.Seals.map (Qa true)).length)) rfl Qbj rfl rfl YY ?_)))))))))))
 refine mO (tN (QM k a.Clues)) rfl (cO (OC.viaN (k:=1) rfl (Zw (fun _=>rfl) _) (Zw (fun _=>rfl) _) (OC.callMut (rows:=(a.Seals.map (Qa true))) (rows':=((JJ Zs 1 (QM k a.Clues) a.Seals.length).map (Qa true))) rfl (vc (tv (T.os 1 1 0 ((a.Seals.map (Qa true)).length)) rfl) (vc (tv (tN (QM k a.Clues)) rfl) vn)) rfl rfl (bc rfl bn) (Zw (fun _=>rfl) _) (Zw (fun _=>rfl) _) (Qa6 (n+2) a.Seals (QM k a.Clues) (by assumption)))) (aO (tN ((QM k a.Clues)+1*a.Seals.length)) rfl (nt (sr (mO (tN ((QM k a.Clues)+1*a.Seals.length)) rfl (aO (tN ((QM k a.Clues)+1*a.Seals.length)) rfl (nt (rt ?_))))))))
 have hnew0:Jk k a.Clues=Jk k a.Clues:=by
  rfl
 have hnew1:JJ Zs 1 (QM k a.Clues) a.Seals.length=JJ Zs 1 (QM k a.Clues) a.Seals.length:=by
  rfl
 exact vloanM.r (L1:= [(2,((Jk k a.Clues).map (Qg true))),(1,((JJ Zs 1 (QM k a.Clues) a.Seals.length).map (Qa true)))]) (fun k=>k) (VRes.tmp (t:=(tN ((QM k a.Clues)+1*a.Seals.length))) rfl VRes.nil) (congrArg (T.int .i64) (show (((QM k a.Clues)+1*a.Seals.length:Nat):Int)=((QM k a.Clues+1*a.Seals.length:Nat):Int) by rfl)) (bc rfl bn) (And.intro rfl (And.intro rfl (trivial))) (by rw [hnew0,hnew1])
theorem JU (n:Nat) (a:D.Session) (k:Nat) (hk:k+1*a.Asked.length≤YW):LoanM (Qq Tryz.prog (n+2)) 37 [(1,(a.Asked.map (Qa true)))] [(T.agg [(tS a.Fill),(tI a.Checks),(tI a.Spent),(T.os 1 0 0 ((a.Asked.map (Qa true)).length)),(tI a.Start),(tI a.Now)]),(tN k)] (tN (k+1*a.Asked.length)) [(1,((JJ Zs 1 k a.Asked.length).map (Qa true)))]:=by
 refine LoanM.intro (rs:= [ResultVar.tmp 4]) [(0,(T.agg [(tS a.Fill),(tI a.Checks),(tI a.Spent),(T.os 1 0 0 ((a.Asked.map (Qa true)).length)),(tI a.Start),(tI a.Now)]))] Tryz.func37 rfl rfl rfl rfl (bc ⟨by kernel_rfl,rfl⟩ bn) (PinsTo.at (And.intro trivial ⟨_,(.head _),(.agg 3 rfl (.os _ _))⟩)) (.int _ _) (bc (okInt.cleanMap _) bn) (E0:= [(0,(T.agg [(tS a.Fill),(tI a.Checks),(tI a.Spent),(T.os 1 0 0 ((a.Asked.map (Qa true)).length)),(tI a.Start),(tI a.Now)])),(1,(tN k))]) rfl (fun asg=> ?_)
 obtain ⟨hlim,hmx,hmax⟩:=QC
 show VRun _ _ _ [(0,(T.agg [(tS a.Fill),(tI a.Checks),(tI a.Spent),(T.os 1 0 0 ((a.Asked.map (Qa true)).length)),(tI a.Start),(tI a.Now)])),(1,(tN k))] (Q3 [(0,(Obj.rowsN 1 (a.Asked.map (Qa true)) (asg 0)))]) 1 _
 refine sr (kO (B.box (ts:= [(tS a.Fill),(tI a.Checks),(tI a.Spent),(T.os 1 0 0 ((a.Asked.map (Qa true)).length)),(tI a.Start),(tI a.Now)]) (tv (T.agg [(tS a.Fill),(tI a.Checks),(tI a.Spent),(T.os 1 0 0 ((a.Asked.map (Qa true)).length)),(tI a.Start),(tI a.Now)]) rfl) nofun rfl) (fO (OF.assign (VEv.int .i64 0)) (nt (sr (lf (T.os 1 0 0 ((a.Asked.map (Qa true)).length)) rfl Ym rfl rfl YY (mO (tN k) rfl (cO (OC.viaN (k:=0) rfl (Zw (fun _=>rfl) _) (Zw (fun _=>rfl) _) (OC.callMut (rows:=(a.Asked.map (Qa true))) (rows':=((JJ Zs 1 k a.Asked.length).map (Qa true))) rfl (vc (tv (T.os 1 0 0 ((a.Asked.map (Qa true)).length)) rfl) (vc (tv (tN k) rfl) vn)) rfl rfl (bc rfl bn) (Zw (fun _=>rfl) _) (Zw (fun _=>rfl) _) (Qa6 (n+0) a.Asked k (by assumption)))) (aO (tN (k+1*a.Asked.length)) rfl (nt (sr (mO (tN (k+1*a.Asked.length)) rfl ?_)))))))))))
 refine aO (tN (k+1*a.Asked.length)) rfl (nt (rt ?_))
 have hnew0:JJ Zs 1 k a.Asked.length=JJ Zs 1 k a.Asked.length:=by
  rfl
 exact vloanM.r (L1:= [(1,((JJ Zs 1 k a.Asked.length).map (Qa true)))]) (fun k=>k) (VRes.tmp (t:=(tN (k+1*a.Asked.length))) rfl VRes.nil) rfl (bc rfl bn) (And.intro rfl (trivial)) (by rw [hnew0])
theorem J0 (n:Nat) (a:D.Session) (k:Nat) (hh:a.Asked=JJ Zs 1 k a.Asked.length) (hk:k+1*a.Asked.length≤YW):Pure (Qq Tryz.prog (n+2)) 38 [(T.agg (Qe false a)),(tN k)] (tN (k+1*a.Asked.length)):=by
 refine Pure.intro (rs:= [ResultVar.tmp 4]) Tryz.func38 rfl rfl rfl (E0:= [(0,(T.agg (Qe false a))),(1,(tN k))]) rfl ?_
 obtain ⟨hlim,hmx,hmax⟩:=QC
 refine sr (kO (B.box (ts:=(Qe false a)) (tv (T.agg (Qe false a)) rfl) nofun rfl) (fO (OF.assign (VEv.int .i64 0)) (nt (sr (lf (rd 1 Qa a.Asked) rfl Ym rfl rfl YY (mO (tN k) rfl (cO (cS (vc (tv (rd 1 Qa a.Asked) rfl) (vc (tv (tN k) rfl) vn)) (ZJ rfl) (Qef (n+0) a.Asked k (by assumption) (by assumption)) rfl rfl) (aO (tN (k+1*a.Asked.length)) rfl (nt (sq (sr ?_)))))))))))
 refine mO (tN (k+1*a.Asked.length)) rfl (fO (B.lss (c:=(decide (k+1*a.Asked.length<0))) (tv (tN (k+1*a.Asked.length)) rfl) (VEv.int .i64 0) (Zb (by omega))) (nt ?_))
 refine cd (k+1*a.Asked.length<0) rfl (fun fhc0=> ?_) fun fhc0=> ?_
 ·omega
 refine sk (tn (sr (mO (tN (k+1*a.Asked.length)) rfl (aO (tN (k+1*a.Asked.length)) rfl (nt (rt ?_))))))
 exact vi rfl rfl
end Go.Proofs.YtcccmceoplcciaaGreat.AE
namespace Go.Proofs.YtcccmceoplcciaaGreat.AE
open Go Go.RowKit
set_option linter.unusedVariables false
set_option linter.unusedSimpArgs false
set_option maxRecDepth 20000
set_option maxHeartbeats 2000000
theorem Qhi {g:D.Grid} {f:ByteArray} {slot:Int} (h:¬(0≤slot∧slot<(((Zc g f).length:Nat):Int))):QG g f slot=⟨#[]⟩:=by
 by_cases hf:QI g f
 ·rw [Qdx hf] at h
  exact Qct (.inr (by omega))
 ·exact Qct (.inl hf)
theorem Qco (n:Nat) (g:D.Grid) (f:ByteArray) (slot:Int) (hc:g.Cells.size≤maxLen) (hf:f.size≤maxLen):Pure (Qq Tryz.prog (n+6)) 95 [(T.agg (Qc false g)),(tS f),(tI slot)] (tS (QG g f slot)):=by
 refine Pure.intro (rs:= [ResultVar.tmp 6]) Tryz.func95 rfl rfl rfl (E0:= [(0,(T.agg (Qc false g))),(1,(tS f)),(2,(tI slot))]) rfl ?_
 obtain ⟨hlim,hmx,hmax⟩:=QC
 have hsl:=Ze g
 have hpl:=QeR g f
 refine sr (kO (B.box (ts:=(Qc false g)) (tv (T.agg (Qc false g)) rfl) nofun rfl) (fO (OF.assign (VEv.str (⟨#[]⟩:ByteArray))) (nt (sr (lO (OL.loadOn (us:=(Qc false g)) (tv (T.op 0 0) rfl) rfl QX QT (lb rfl) rfl) (mO (tS f) rfl (cO (OC.callF (us:= [(T.agg (Qc false g)),(tS f)]) (r:=(T.sl true 1 ((Zc g f).map (ZR true)))) (r':=(T.os 1 1 0 (((Zc g f).map (ZR true)).length))) (objs:= [(Obj.rows 1 ((Zc g f).map (ZR true)))]) rfl (vc (tv (T.agg (Qc false g)) rfl) (vc (tv (tS f) rfl) vn)) (LendL.cons (lg Qs) (lp rfl ln)) (Qa9 (n+0) g f (by assumption) (by assumption)) rfl) (aO (T.os 1 1 0 (((Zc g f).map (ZR true)).length)) rfl (nt (sq (sr ?_)))))))))))
 refine mO (tI slot) rfl (mO (T.os 1 1 0 (((Zc g f).map (ZR true)).length)) rfl (lO (B.lenO (m:=(Zc g f).length) (tv (T.os 1 1 0 (((Zc g f).map (ZR true)).length)) rfl) QiG (List.length_map ..)) (cO (cS (vc (tv (tI slot) rfl) (vc (tv (tN ((Zc g f).length)) rfl) vn)) (ZJ rfl) (YB (n+4) slot (((Zc g f).length:Nat):Int)) rfl rfl) (fO (QW (tv (tB (decide (0≤slot∧slot<(((Zc g f).length:Nat):Int)))) rfl)) (nt ?_)))))
 refine cn (0≤slot∧slot<(((Zc g f).length:Nat):Int)) rfl (fun fhc0=> ?_) fun fhc0=> ?_
 ·refine sr ?_
  refine fO (OF.assign (VEv.str (⟨#[]⟩:ByteArray))) (nt (rt (tr ?_)))
  refine vfin.eq (r':=(tS (⟨#[]⟩:ByteArray))) ?_ (vfin.r (VRes.tmp (t:=(tS (⟨#[]⟩:ByteArray))) rfl VRes.nil) (Give.str _))
  show (tS (⟨#[]⟩:ByteArray))=(tS (QG g f slot))
  refine congrArg T.str ?_
  exact (Qhi fhc0).symm
 refine sk (tn (sr (mO (T.os 1 1 0 (((Zc g f).map (ZR true)).length)) rfl (mO (tI slot) rfl ?_))))
 obtain ⟨x1,hx1⟩:∃x,(Zc g f)[(Int.toNat slot)]? =some x:=⟨_,List.getElem?_eq_getElem (by omega)⟩
 have hpx:=Qhc hx1
 refine fO (B.indexAddrO (i:=(Int.toNat slot)) (tv (T.os 1 1 0 (((Zc g f).map (ZR true)).length)) rfl) (tv (tI slot) rfl) (by omega) (by (simp only [List.length_map];omega)) QiG sz9 if9) (lO (OL.loadP1 (t:=(tS x1)) (row:=(ZR true x1)) (tv (T.orp 1 1 (Int.toNat slot) 0) rfl) rfl (Qv _ hx1) rfl rfl Z7) (aO (tS x1) rfl (nt (rt ?_))))
 refine vfin.eq (r':=(tS x1)) ?_ (vfin.r (VRes.tmp (t:=(tS x1)) rfl VRes.nil) (Give.str _))
 show (tS x1)=(tS (QG g f slot))
 refine congrArg T.str ?_
 rw [hpx];congr 1;omega
noncomputable section
def Zi (v:Int):Int:=if v=1 then 1 else if v=2 then 2 else if v=3 then 4 else if v=4 then 8 else 0
theorem QjE (v:Int):0≤Zi v∧Zi v≤8:=by unfold Zi;(repeat' split)<;>omega
end
theorem QaB (n:Nat) (v:Int):Pure (Qq Tryz.prog (n+2)) 79 [(tI v)] (tI (Zi v)):=by
 refine Pure.intro (rs:= [ResultVar.tmp 2]) Tryz.func79 rfl rfl rfl (E0:= [(0,(tI v))]) rfl ?_
 obtain ⟨hlim,hmx,hmax⟩:=QC
 have hl5:([0,1,2,4,8]:List Int).length=5:=rfl
 refine sr (fO (OF.assign (VEv.int .i64 0)) (nt (sq (sr (mO (tI v) rfl (cO (cS (vc (tv (tI v) rfl) (vc (VEv.int .i64 1) (vc (VEv.int .i64 4) vn))) (ZJ rfl) (QH (n+0) v 1 4) rfl rfl) (fO (QW (tv (tB (decide (1≤v∧v≤4))) rfl)) (nt ?_))))))))
 refine cn (1≤v∧v≤4) rfl (fun fhc0=> ?_) fun fhc0=> ?_
 ·refine sr ?_
  refine fO (OF.assign (VEv.int .i64 0)) (nt (rt (tr (vi (n':=0) rfl ?_))))
  symm;unfold Zi;rw [if_neg (by omega),if_neg (by omega),if_neg (by omega),if_neg (by omega)]
 refine sk (tn (sr (kO (OM.buildSlice (l:= [(tN 0),(tN 1),(tN 2),(tN 4),(tN 8)]) (VEvp.cons (VEv.int .i64 0) (VEvp.cons (VEv.int .i64 1) (VEvp.cons (VEv.int .i64 2) (VEvp.cons (VEv.int .i64 4) (VEvp.cons (VEv.int .i64 8) VEvp.nil))))) rfl (by decide) (bc (nofun) (bc (nofun) (bc (nofun) (bc (nofun) (bc (nofun) bn))))) (bc ((bc (rfl) bn)) (bc ((bc (rfl) bn)) (bc ((bc (rfl) bn)) (bc ((bc (rfl) bn)) (bc ((bc (rfl) bn)) bn))))) (bc (rfl) (bc (rfl) (bc (rfl) (bc (rfl) (bc (rfl) bn))))) Zg J3 (by kernel_rfl) rfl (by rw [Q8];decide) Q8 (Nat.le_of_ble_eq_true rfl)) (mO (tI v) rfl ?_))))
 obtain ⟨x1,hx1⟩:∃x,([0,1,2,4,8]:List Int)[(Int.toNat v)]? =some x:=⟨_,List.getElem?_eq_getElem (by omega)⟩
 refine fO (B.indexAddrO (i:=(Int.toNat v)) (tv (T.os 1 0 0 5) rfl) (tv (tI v) rfl) (by omega) (by omega) Zg Q8 Yk) (lO (OL.loadP1 (t:=(tI x1)) (row:=(Qa true x1)) (tv (T.orp 1 0 (Int.toNat v) 0) rfl) rfl (Qv (Qa true) hx1) rfl rfl QU) (aO (tI x1) rfl (nt (rt (vi (n':=x1) rfl ?_)))))
 have hv:v=1∨v=2∨v=3∨v=4:=by omega
 rcases hv with rfl | rfl | rfl | rfl<;>(have:=Option.some.inj hx1;subst this;rfl)
theorem JW (n:Nat) (s:D.Session) (hs:QJ s≤mx):Pure (Qq Tryz.prog (n+1)) 78 [(T.agg (Qe false s))] (T.agg (Qe true s)):=by
 refine Pure.intro (rs:= [ResultVar.cell 2 56]) Tryz.func78 rfl rfl rfl (E0:= [(0,(T.agg (Qe false s)))]) rfl ?_
 obtain ⟨hlim,hmx,hmax⟩:=QC
 simp only [QJ] at hs
 have hl2:=QV (z:=zI) s.Asked
 refine sr (kO (B.box (ts:=(Qe false s)) (tv (T.agg (Qe false s)) rfl) nofun rfl) (kO (B.alloc (t:=(T.agg [(tS ByteArray.empty),(tN 0),(tN 0),T.nils,(tN 0),(tN 0)])) (ts:= [(tS ByteArray.empty),(tN 0),(tN 0),T.nils,(tN 0),(tN 0)]) QbW Qb0 nofun (fun _=> .agg _ _ rfl (Yg (RL.cons (.str _) (RL.cons (.int _ _) (RL.cons (.int _ _) (RL.cons (.nils) (RL.cons (.int _ _) (RL.cons (.int _ _) (RL.nil _))))))))) rfl) (nt (sr (kO (OM.slice0 Zg J3 (by kernel_rfl) rfl (by rw [Q8];decide) Q8) (lf (rd 1 Qa s.Asked) rfl Ym rfl rfl YY (cO (B.append (rows:= []) (rows2:=(s.Asked.map (Qa false))) (rows3:=(s.Asked.map (Qa true))) (VDst.own (tv (T.os 1 2 0 0) rfl) rfl rfl) (VSrc.read (tv (rd 1 Qa s.Asked) rfl) Zg (okInt.okMap _ _)) nofun Zg Q8 (by decide) J3 rfl (of_decide_eq_true (by kernel_rfl)) (by (simp only [List.length_map,List.length_append,List.length_cons,List.length_nil,List.length_replicate,List.length_set,List.length_drop,List.length_take,YW] at *;omega)) (List.nil_append _)) (fO (OF.fieldAddrO (tv (T.op 0 0) rfl) Ym) (cO (B.storeO (us:= [(T.os 1 3 0 ((s.Asked.map (Qa true)).length))]) (ws:= [(tS s.Fill),(tI s.Checks),(tI s.Spent),(T.os 1 3 0 ((s.Asked.map (Qa true)).length)),(tI s.Start),(tI s.Now)]) (tv (T.op 0 3) rfl) (tv (T.os 1 3 0 ((s.Asked.map (Qa true)).length)) rfl) nofun rfl rfl (lb rfl) Qdp QbX (bc rfl bn) rfl) (nt (sr ?_)))))))))))
 refine lO (OL.loadOn (us:= [(tS s.Fill),(tI s.Checks),(tI s.Spent),(T.os 1 3 0 ((s.Asked.map (Qa true)).length)),(tI s.Start),(tI s.Now)]) (tv (T.op 0 0) rfl) rfl Zy Q0 (lb rfl) rfl) (cO (B.storeO (us:= [(tS s.Fill),(tI s.Checks),(tI s.Spent),(T.os 1 3 0 ((s.Asked.map (Qa true)).length)),(tI s.Start),(tI s.Now)]) (ws:= [(tS s.Fill),(tI s.Checks),(tI s.Spent),(T.os 1 3 0 ((s.Asked.map (Qa true)).length)),(tI s.Start),(tI s.Now)]) (tv (T.op 1 0) rfl) (tv (T.agg [(tS s.Fill),(tI s.Checks),(tI s.Spent),(T.os 1 3 0 ((s.Asked.map (Qa true)).length)),(tI s.Start),(tI s.Now)]) rfl) nofun rfl rfl (lb rfl) Jt Q0 (bc rfl (bc rfl (bc rfl (bc rfl (bc rfl (bc rfl bn)))))) rfl) (nt (rt ?_)))
 refine vfin.eq (r':=(T.agg [(tS s.Fill),(tI s.Checks),(tI s.Spent),(T.sl true 1 (s.Asked.map (Qa true))),(tI s.Start),(tI s.Now)])) ?_ (vfin.r (VRes.celln (ws:= [(tS s.Fill),(tI s.Checks),(tI s.Spent),(T.os 1 3 0 ((s.Asked.map (Qa true)).length)),(tI s.Start),(tI s.Now)]) rfl rfl Zy Q0 (lb rfl) rfl VRes.nil) (Give.agg (GiveL.cons (Give.str _) (GiveL.cons (Give.int _ _) (GiveL.cons (Give.int _ _) (GiveL.cons (Give.os rfl rfl (okInt.cleanMap _)) (GiveL.cons (Give.int _ _) (GiveL.cons (Give.int _ _) GiveL.nil (by decide)) (by decide)) (by decide)) (by decide)) (by decide)) (by decide))))
 show (T.agg [(tS s.Fill),(tI s.Checks),(tI s.Spent),(T.sl true 1 (s.Asked.map (Qa true))),(tI s.Start),(tI s.Now)])=(T.agg (Qe true s))
 rfl
theorem Qcr (n:Nat) (s:D.Session) (hs:QJ s≤mx):Pure (Qq Tryz.prog (n+2)) 80 [(T.agg (Qe false s))] (T.agg (Qe true s)):=by
 refine Pure.intro (rs:= [ResultVar.cell 2 56]) Tryz.func80 rfl rfl rfl (E0:= [(0,(T.agg (Qe false s)))]) rfl ?_
 obtain ⟨hlim,hmx,hmax⟩:=QC
 simp only [QJ] at hs
 have hl2:=QV (z:=zI) s.Asked
 refine sr (kO (B.box (ts:=(Qe false s)) (tv (T.agg (Qe false s)) rfl) nofun rfl) (kO (B.alloc (t:=(T.agg [(tS ByteArray.empty),(tN 0),(tN 0),T.nils,(tN 0),(tN 0)])) (ts:= [(tS ByteArray.empty),(tN 0),(tN 0),T.nils,(tN 0),(tN 0)]) QbW Qb0 nofun (fun _=> .agg _ _ rfl (Yg (RL.cons (.str _) (RL.cons (.int _ _) (RL.cons (.int _ _) (RL.cons (.nils) (RL.cons (.int _ _) (RL.cons (.int _ _) (RL.nil _))))))))) rfl) (nt (sr (lf (rd 1 Qa s.Asked) rfl Ym rfl rfl YY (cO (OC.callF (us:= [(rd 1 Qa s.Asked)]) (r:=(T.sl true 1 (s.Asked.map (Qa true)))) (r':=(T.os 1 2 0 ((s.Asked.map (Qa true)).length))) (objs:= [(Obj.rows 1 (s.Asked.map (Qa true)))]) rfl (vc (tv (rd 1 Qa s.Asked) rfl) vn) (ZJ rfl) (YR (n+0) s.Asked (by omega)) rfl) (fO (OF.fieldAddrO (tv (T.op 0 0) rfl) Ym) (cO (B.storeO (us:= [(T.os 1 2 0 ((s.Asked.map (Qa true)).length))]) (ws:= [(tS s.Fill),(tI s.Checks),(tI s.Spent),(T.os 1 2 0 ((s.Asked.map (Qa true)).length)),(tI s.Start),(tI s.Now)]) (tv (T.op 0 3) rfl) (tv (T.os 1 2 0 ((s.Asked.map (Qa true)).length)) rfl) nofun rfl rfl (lb rfl) Qdp QbX (bc rfl bn) rfl) (nt (sr (lO (OL.loadOn (us:= [(tS s.Fill),(tI s.Checks),(tI s.Spent),(T.os 1 2 0 ((s.Asked.map (Qa true)).length)),(tI s.Start),(tI s.Now)]) (tv (T.op 0 0) rfl) rfl Zy Q0 (lb rfl) rfl) ?_)))))))))))
 refine cO (B.storeO (us:= [(tS s.Fill),(tI s.Checks),(tI s.Spent),(T.os 1 2 0 ((s.Asked.map (Qa true)).length)),(tI s.Start),(tI s.Now)]) (ws:= [(tS s.Fill),(tI s.Checks),(tI s.Spent),(T.os 1 2 0 ((s.Asked.map (Qa true)).length)),(tI s.Start),(tI s.Now)]) (tv (T.op 1 0) rfl) (tv (T.agg [(tS s.Fill),(tI s.Checks),(tI s.Spent),(T.os 1 2 0 ((s.Asked.map (Qa true)).length)),(tI s.Start),(tI s.Now)]) rfl) nofun rfl rfl (lb rfl) Jt Q0 (bc rfl (bc rfl (bc rfl (bc rfl (bc rfl (bc rfl bn)))))) rfl) (nt (rt ?_))
 refine vfin.eq (r':=(T.agg [(tS s.Fill),(tI s.Checks),(tI s.Spent),(T.sl true 1 (s.Asked.map (Qa true))),(tI s.Start),(tI s.Now)])) ?_ (vfin.r (VRes.celln (ws:= [(tS s.Fill),(tI s.Checks),(tI s.Spent),(T.os 1 2 0 ((s.Asked.map (Qa true)).length)),(tI s.Start),(tI s.Now)]) rfl rfl Zy Q0 (lb rfl) rfl VRes.nil) (Give.agg (GiveL.cons (Give.str _) (GiveL.cons (Give.int _ _) (GiveL.cons (Give.int _ _) (GiveL.cons (Give.os rfl rfl (okInt.cleanMap _)) (GiveL.cons (Give.int _ _) (GiveL.cons (Give.int _ _) GiveL.nil (by decide)) (by decide)) (by decide)) (by decide)) (by decide)) (by decide))))
 show (T.agg [(tS s.Fill),(tI s.Checks),(tI s.Spent),(T.sl true 1 (s.Asked.map (Qa true))),(tI s.Start),(tI s.Now)])=(T.agg (Qe true s))
 rfl
noncomputable section
def J5 (a:D.Puzzle) (s:D.Session) (u v:Int):Prop:=QY a s∧(0≤u∧u≤((a.Clues.length:Nat):Int) - 1)∧¬Zi v=0∧¬ 999<s.Spent+Zi v
instance (a:D.Puzzle) (s:D.Session) (u v:Int):Decidable (J5 a s u v):=Classical.propDecidable _
def QhJ (a:D.Puzzle) (s:D.Session) (u v:Int):D.Session:=if J5 a s u v then D.Session.mk s.Fill s.Checks (s.Spent+Zi v) (Ya s.Asked u) s.Start s.Now else s
theorem Qex {a:D.Puzzle} {s:D.Session} {u v:Int} (h:¬J5 a s u v):QhJ a s u v=s:=if_neg h
theorem QlD {a:D.Puzzle} {s:D.Session} {u v:Int} (h:J5 a s u v):QhJ a s u v=D.Session.mk s.Fill s.Checks (s.Spent+Zi v) (Ya s.Asked u) s.Start s.Now:=if_pos h
end
theorem QkA (n:Nat) (a:D.Puzzle) (s:D.Session) (u:Int) (v:Int) (hz:QL a≤mx) (hs:QJ s≤mx):Pure (Qq Tryz.prog (n+12)) 35 [(T.agg (Qp false a)),(T.agg (Qe false s)),(tI u),(tI v)] (T.tup [(T.agg (Qe true (QhJ a s u v))),(tB (decide (J5 a s u v)))]):=by
 refine Pure.intro (rs:= [ResultVar.cell 8 56,ResultVar.tmp 9]) Tryz.func35 rfl rfl rfl (E0:= [(0,(T.agg (Qp false a))),(1,(T.agg (Qe false s))),(2,(tI u)),(3,(tI v))]) rfl ?_
 obtain ⟨hlim,hmx,hmax⟩:=QC
 have hs2:=hs
 simp only [QJ] at hs2
 have hz2:=hz
 simp only [QL,ZE] at hz2
 have hl:=QV (z:=QQ) a.Clues
 have hl2:=QV (z:=zI) s.Asked
 have hco:=QjE v
 refine sr (kO (B.box (ts:=(Qp false a)) (tv (T.agg (Qp false a)) rfl) nofun rfl) (kO (B.box (ts:=(Qe false s)) (tv (T.agg (Qe false s)) rfl) nofun rfl) (kO (B.alloc (t:=(T.agg [(tS ByteArray.empty),(tN 0),(tN 0),T.nils,(tN 0),(tN 0)])) (ts:= [(tS ByteArray.empty),(tN 0),(tN 0),T.nils,(tN 0),(tN 0)]) QbW Qb0 nofun (fun _=> .agg _ _ rfl (Yg (RL.cons (.str _) (RL.cons (.int _ _) (RL.cons (.int _ _) (RL.cons (.nils) (RL.cons (.int _ _) (RL.cons (.int _ _) (RL.nil _))))))))) rfl) (fO (OF.assign (VEv.bool false)) (nt (sr (lO (OL.loadOn (us:=(Qe false s)) (tv (T.op 1 0) rfl) rfl Zy Q0 (lb rfl) rfl) (cO (OC.callF (us:= [(T.agg (Qe false s))]) (r:=(T.agg (Qe true s))) (r':=(T.agg [(tS s.Fill),(tI s.Checks),(tI s.Spent),(T.os 1 3 0 ((s.Asked.map (Qa true)).length)),(tI s.Start),(tI s.Now)])) (objs:= [(Obj.rows 1 (s.Asked.map (Qa true)))]) rfl (vc (tv (T.agg (Qe false s)) rfl) vn) (LendL.cons (lg Zu) ln) (JW (n+10) s (by assumption)) rfl) (kO (B.alloc (t:=(T.agg [(tS ByteArray.empty),(tN 0),(tN 0),T.nils,(tN 0),(tN 0)])) (ts:= [(tS ByteArray.empty),(tN 0),(tN 0),T.nils,(tN 0),(tN 0)]) QbW Qb0 nofun (fun _=> .agg _ _ rfl (Yg (RL.cons (.str _) (RL.cons (.int _ _) (RL.cons (.int _ _) (RL.cons (.nils) (RL.cons (.int _ _) (RL.cons (.int _ _) (RL.nil _))))))))) rfl) (cO (B.storeO (us:= [(tS s.Fill),(tI s.Checks),(tI s.Spent),(T.os 1 3 0 ((s.Asked.map (Qa true)).length)),(tI s.Start),(tI s.Now)]) (ws:= [(tS s.Fill),(tI s.Checks),(tI s.Spent),(T.os 1 3 0 ((s.Asked.map (Qa true)).length)),(tI s.Start),(tI s.Now)]) (tv (T.op 4 0) rfl) (tv (T.agg [(tS s.Fill),(tI s.Checks),(tI s.Spent),(T.os 1 3 0 ((s.Asked.map (Qa true)).length)),(tI s.Start),(tI s.Now)]) rfl) nofun rfl rfl (lb rfl) Jt Q0 (bc rfl (bc rfl (bc rfl (bc rfl (bc rfl (bc rfl bn)))))) rfl) (nt ?_)))))))))))
 refine sq (sq (VRun.draw (B:= [[],[],[1,0],[0,1,2],[2,1,0,3],[3,0,1,2,4],[3,0,1,2,4],[4,2,1,0,3,6],[6,3,0,1,2,4,7],[7,4,2,1,0,3,6,8],[8,6,7,9,4,2,1,0,3,5],[5,3,0,1,2,4,9,7,6,8,10],[10,8,6,7,9,5,11,3,0,1,2,4],[4,2,1,0,3,11,5,9,7,6,8,10,12],[12,10,8,6,7,9,5,11,3,0,1,2,4,13],[13,4,2,1,0,3,11,5,9,7,6,8,10,12,14],[14,12,10,8,6,7,9,5,11,3,0,1,2,4,13,15],[15,14,16,12,10,8,6,7,9,5,11,3,0,1,2,4,13],[13,4,2,1,0,3,11,5,9,7,6,8,10,12,16,14,15,17],[17,15,14,16,12,10,8,6,7,9,5,11,3,0,1,2,4,13,18],[18,13,4,2,1,0,3,11,5,9,7,6,8,10,12,16,14,15,17,19],[17,15,14,16,12,10,8,6,7,9,5,11,3,0,1,2,4,13,18],[18,13,4,2,1,0,3,11,5,9,7,6,8,10,12,16,14,15,17,21],[21,22,19,17,15,14,16,12,10,8,6,7,9,5,11,3,0,1,2,4,13,18,20],[20,18,13,4,2,1,0,3,11,5,9,7,6,8,10,12,16,14,15,17,19,22,21,23],[23,21,22,19,20,24,17,15,14,16,12,10,8,6,7,9,5,11,3,0,1,2,4,13,18]]) (by kernel_rfl) (by kernel_rfl) (lD (OL.loadOn (us:=(Qp false a)) (tv (T.op 0 0) rfl) rfl QeX QdR (lb rfl) rfl) rfl rfl (lD (OL.loadOn (us:=(Qe false s)) (tv (T.op 1 0) rfl) rfl Zy Q0 (lb rfl) rfl) rfl rfl (VRunD.quiet (bi:= [1,0]) rfl VWant.always rfl rfl rfl bn (cS (vc (tv (T.agg (Qp false a)) rfl) (vc (tv (T.agg (Qe false s)) rfl) vn)) (LendL.cons (lg Z4) (LendL.cons (lg Zu) ln)) (Je (n+0) a s (by assumption) (by assumption)) rfl rfl) (fD (QW (tv (tB (decide (QY a s))) rfl)) rfl rfl (mD (tB (!(decide (QY a s)))) rfl rfl ?_)))))))
 refine gn (QY a s) (fun fhg17_1=> ?_) fun fhg17_1=> ?_
 ·refine oD rfl rfl (ny fhg17_1) rfl ?_
  refine oD rfl rfl (ny fhg17_1) rfl (oD rfl rfl (ny fhg17_1) rfl (oD rfl rfl (ny fhg17_1) rfl (oD rfl rfl (ny fhg17_1) rfl (oD rfl rfl (ny fhg17_1) rfl (oD rfl rfl (ny fhg17_1) rfl (fD (OF.pickT (VEv.tmpB rfl (ny fhg17_1)) (VEv.bool true)) rfl rfl (mD (tB true) rfl rfl (VRunD.off rfl (VWant.not (b:=true) rfl rfl rfl) (VRunD.off rfl (VWant.not (b:=true) rfl rfl rfl) (VRunD.off rfl (VWant.not (b:=true) rfl rfl rfl) (fD (OF.pickT (tv (tB true) rfl) (VEv.bool true)) rfl rfl ?_)))))))))))
  refine mD (tB true) rfl rfl (VRunD.off rfl (VWant.not (b:=true) rfl rfl rfl) (VRunD.off rfl (VWant.not (b:=true) rfl rfl rfl) (VRunD.off rfl (VWant.not (b:=true) rfl rfl rfl) (VRunD.off rfl (VWant.not (b:=true) rfl rfl rfl) (VRunD.off rfl (VWant.not (b:=true) rfl rfl rfl) (VRunD.off rfl (VWant.not (b:=true) rfl rfl rfl) (fD (OF.pickT (tv (tB true) rfl) (VEv.bool true)) rfl rfl (VRunD.nil (tn (ct rfl (sr ?_)))))))))))
  refine lO (OL.loadOn (us:= [(tS s.Fill),(tI s.Checks),(tI s.Spent),(T.os 1 3 0 ((s.Asked.map (Qa true)).length)),(tI s.Start),(tI s.Now)]) (tv (T.op 4 0) rfl) rfl Zy Q0 (lb rfl) rfl) (cO (B.storeO (us:= [(tS s.Fill),(tI s.Checks),(tI s.Spent),(T.os 1 3 0 ((s.Asked.map (Qa true)).length)),(tI s.Start),(tI s.Now)]) (ws:= [(tS s.Fill),(tI s.Checks),(tI s.Spent),(T.os 1 3 0 ((s.Asked.map (Qa true)).length)),(tI s.Start),(tI s.Now)]) (tv (T.op 2 0) rfl) (tv (T.agg [(tS s.Fill),(tI s.Checks),(tI s.Spent),(T.os 1 3 0 ((s.Asked.map (Qa true)).length)),(tI s.Start),(tI s.Now)]) rfl) nofun rfl rfl (lb rfl) Jt Q0 (bc rfl (bc rfl (bc rfl (bc rfl (bc rfl (bc rfl bn)))))) rfl) (fO (OF.assign (VEv.bool false)) (nt (rt (tr ?_)))))
  refine vfin.eq (r':=(T.tup [(T.agg [(tS s.Fill),(tI s.Checks),(tI s.Spent),(T.sl true 1 (s.Asked.map (Qa true))),(tI s.Start),(tI s.Now)]),(tB false)])) ?_ (vfin.r (VRes.celln (ws:= [(tS s.Fill),(tI s.Checks),(tI s.Spent),(T.os 1 3 0 ((s.Asked.map (Qa true)).length)),(tI s.Start),(tI s.Now)]) rfl rfl Zy Q0 (lb rfl) rfl (VRes.tmp (t:=(tB false)) rfl VRes.nil)) (Give.tup (GiveL.cons (Give.agg (GiveL.cons (Give.str _) (GiveL.cons (Give.int _ _) (GiveL.cons (Give.int _ _) (GiveL.cons (Give.os rfl rfl (okInt.cleanMap _)) (GiveL.cons (Give.int _ _) (GiveL.cons (Give.int _ _) GiveL.nil (by decide)) (by decide)) (by decide)) (by decide)) (by decide)) (by decide))) (GiveL.cons (Give.bool _) GiveL.nil (by decide)) (by decide))))
  show (T.tup [(T.agg [(tS s.Fill),(tI s.Checks),(tI s.Spent),(T.sl true 1 (s.Asked.map (Qa true))),(tI s.Start),(tI s.Now)]),(tB false)])=(T.tup [(T.agg (Qe true (QhJ a s u v))),(tB (decide (J5 a s u v)))])
  (have hno:¬J5 a s u v:=(by rintro ⟨h1,h2,h3,h4⟩;contradiction);rw [Qex hno,decide_eq_false hno];rfl)
 have hse:QY a s:=fhg17_1
 have hc8:=hse.2.2.2.1
 refine VRunD.free rfl (VWant.on rfl rfl (nz fhg17_1)) rfl (OF.move (tv (tI u) rfl)) (VRunD.free rfl (VWant.on rfl rfl (nz fhg17_1)) rfl (OF.fieldAddrO (tv (T.op 0 0) rfl) Y2) (VRunD.look rfl (VWant.on rfl rfl (nz fhg17_1)) rfl (OL.loadO1 (t:=(rd 2 Qg a.Clues)) (tv (T.op 0 3) rfl) rfl rfl Qdq) (VRunD.look rfl (VWant.on rfl rfl (nz fhg17_1)) rfl (B.lenR (m:=a.Clues.length) (tv (rd 2 Qg a.Clues) rfl) U35 (List.length_map ..)) (VRunD.free rfl (VWant.on rfl rfl (nz fhg17_1)) rfl (B.sub (n:=(((a.Clues.length:Nat):Int) - 1)) (tv (tN a.Clues.length) rfl) (VEv.int .i64 1) (by (rw [Qt (by omega)];done))) (VRunD.quiet (bi:= [8,6,7,9,4,2,1,0,3,5]) rfl (VWant.on rfl rfl (nz fhg17_1)) rfl rfl rfl bn (cS (vc (tv (tI u) rfl) (vc (VEv.int .i64 0) (vc (tv (tI (((a.Clues.length:Nat):Int) - 1)) rfl) vn))) (ZJ rfl) (QH (n+10) u 0 (((a.Clues.length:Nat):Int) - 1)) rfl rfl) (VRunD.free rfl (VWant.on rfl rfl (nz fhg17_1)) rfl (QW (tv (tB (decide (0≤u∧u≤(((a.Clues.length:Nat):Int) - 1)))) rfl)) (fD (OF.pickF (VEv.tmpB rfl (nz fhg17_1)) (tv (tB (!(decide (0≤u∧u≤(((a.Clues.length:Nat):Int) - 1))))) rfl)) rfl rfl (mD (tB (!(decide (0≤u∧u≤(((a.Clues.length:Nat):Int) - 1))))) rfl rfl ?_))))))))
 refine gn (0≤u∧u≤(((a.Clues.length:Nat):Int) - 1)) (fun fhg26_2=> ?_) fun fhg26_2=> ?_
 ·refine oD rfl rfl (ny fhg26_2) rfl ?_
  refine oD rfl rfl (ny fhg26_2) rfl (oD rfl rfl (ny fhg26_2) rfl (fD (OF.pickT (VEv.tmpB rfl (ny fhg26_2)) (VEv.bool true)) rfl rfl (mD (tB true) rfl rfl (VRunD.off rfl (VWant.not (b:=true) rfl rfl rfl) (VRunD.off rfl (VWant.not (b:=true) rfl rfl rfl) (VRunD.off rfl (VWant.not (b:=true) rfl rfl rfl) (VRunD.off rfl (VWant.not (b:=true) rfl rfl rfl) (VRunD.off rfl (VWant.not (b:=true) rfl rfl rfl) (VRunD.off rfl (VWant.not (b:=true) rfl rfl rfl) (fD (OF.pickT (tv (tB true) rfl) (VEv.bool true)) rfl rfl (VRunD.nil ?_)))))))))))
  refine tn (ct rfl (sr (lO (OL.loadOn (us:= [(tS s.Fill),(tI s.Checks),(tI s.Spent),(T.os 1 3 0 ((s.Asked.map (Qa true)).length)),(tI s.Start),(tI s.Now)]) (tv (T.op 4 0) rfl) rfl Zy Q0 (lb rfl) rfl) (cO (B.storeO (us:= [(tS s.Fill),(tI s.Checks),(tI s.Spent),(T.os 1 3 0 ((s.Asked.map (Qa true)).length)),(tI s.Start),(tI s.Now)]) (ws:= [(tS s.Fill),(tI s.Checks),(tI s.Spent),(T.os 1 3 0 ((s.Asked.map (Qa true)).length)),(tI s.Start),(tI s.Now)]) (tv (T.op 2 0) rfl) (tv (T.agg [(tS s.Fill),(tI s.Checks),(tI s.Spent),(T.os 1 3 0 ((s.Asked.map (Qa true)).length)),(tI s.Start),(tI s.Now)]) rfl) nofun rfl rfl (lb rfl) Jt Q0 (bc rfl (bc rfl (bc rfl (bc rfl (bc rfl (bc rfl bn)))))) rfl) (fO (OF.assign (VEv.bool false)) (nt (rt (tr ?_))))))))
  refine vfin.eq (r':=(T.tup [(T.agg [(tS s.Fill),(tI s.Checks),(tI s.Spent),(T.sl true 1 (s.Asked.map (Qa true))),(tI s.Start),(tI s.Now)]),(tB false)])) ?_ (vfin.r (VRes.celln (ws:= [(tS s.Fill),(tI s.Checks),(tI s.Spent),(T.os 1 3 0 ((s.Asked.map (Qa true)).length)),(tI s.Start),(tI s.Now)]) rfl rfl Zy Q0 (lb rfl) rfl (VRes.tmp (t:=(tB false)) rfl VRes.nil)) (Give.tup (GiveL.cons (Give.agg (GiveL.cons (Give.str _) (GiveL.cons (Give.int _ _) (GiveL.cons (Give.int _ _) (GiveL.cons (Give.os rfl rfl (okInt.cleanMap _)) (GiveL.cons (Give.int _ _) (GiveL.cons (Give.int _ _) GiveL.nil (by decide)) (by decide)) (by decide)) (by decide)) (by decide)) (by decide))) (GiveL.cons (Give.bool _) GiveL.nil (by decide)) (by decide))))
  show (T.tup [(T.agg [(tS s.Fill),(tI s.Checks),(tI s.Spent),(T.sl true 1 (s.Asked.map (Qa true))),(tI s.Start),(tI s.Now)]),(tB false)])=(T.tup [(T.agg (Qe true (QhJ a s u v))),(tB (decide (J5 a s u v)))])
  (have hno:¬J5 a s u v:=(by rintro ⟨h1,h2,h3,h4⟩;contradiction);rw [Qex hno,decide_eq_false hno];rfl)
 refine VRunD.free rfl (VWant.on rfl rfl (nz fhg26_2)) rfl (OF.move (tv (tI v) rfl)) (VRunD.quiet (bi:= [13,4,2,1,0,3,11,5,9,7,6,8,10,12,14]) rfl (VWant.on rfl rfl (nz fhg26_2)) rfl rfl rfl bn (cS (vc (tv (tI v) rfl) vn) (ZJ rfl) (QaB (n+9) v) rfl rfl) (VRunD.free rfl (VWant.on rfl rfl (nz fhg26_2)) rfl (Y7 (tv (tI (Zi v)) rfl) (VEv.int .i64 0)) (fD (OF.pickF (VEv.tmpB rfl (nz fhg26_2)) (tv (tB (decide (Zi v=0))) rfl)) rfl rfl (mD (tB (decide (Zi v=0))) rfl rfl ?_))))
 refine gw (Zi v=0) (fun fhg31_3=> ?_) fun fhg31_3=> ?_
 ·refine oD rfl rfl (dy fhg31_3) rfl ?_
  refine oD rfl rfl (dy fhg31_3) rfl (oD rfl rfl (dy fhg31_3) rfl (oD rfl rfl (dy fhg31_3) rfl (oD rfl rfl (dy fhg31_3) rfl (oD rfl rfl (dy fhg31_3) rfl (fD (OF.pickT (VEv.tmpB rfl (dy fhg31_3)) (VEv.bool true)) rfl rfl (VRunD.nil (tn (ct rfl (sr (lO (OL.loadOn (us:= [(tS s.Fill),(tI s.Checks),(tI s.Spent),(T.os 1 3 0 ((s.Asked.map (Qa true)).length)),(tI s.Start),(tI s.Now)]) (tv (T.op 4 0) rfl) rfl Zy Q0 (lb rfl) rfl) (cO (B.storeO (us:= [(tS s.Fill),(tI s.Checks),(tI s.Spent),(T.os 1 3 0 ((s.Asked.map (Qa true)).length)),(tI s.Start),(tI s.Now)]) (ws:= [(tS s.Fill),(tI s.Checks),(tI s.Spent),(T.os 1 3 0 ((s.Asked.map (Qa true)).length)),(tI s.Start),(tI s.Now)]) (tv (T.op 2 0) rfl) (tv (T.agg [(tS s.Fill),(tI s.Checks),(tI s.Spent),(T.os 1 3 0 ((s.Asked.map (Qa true)).length)),(tI s.Start),(tI s.Now)]) rfl) nofun rfl rfl (lb rfl) Jt Q0 (bc rfl (bc rfl (bc rfl (bc rfl (bc rfl (bc rfl bn)))))) rfl) ?_)))))))))))
  refine fO (OF.assign (VEv.bool false)) (nt (rt (tr ?_)))
  refine vfin.eq (r':=(T.tup [(T.agg [(tS s.Fill),(tI s.Checks),(tI s.Spent),(T.sl true 1 (s.Asked.map (Qa true))),(tI s.Start),(tI s.Now)]),(tB false)])) ?_ (vfin.r (VRes.celln (ws:= [(tS s.Fill),(tI s.Checks),(tI s.Spent),(T.os 1 3 0 ((s.Asked.map (Qa true)).length)),(tI s.Start),(tI s.Now)]) rfl rfl Zy Q0 (lb rfl) rfl (VRes.tmp (t:=(tB false)) rfl VRes.nil)) (Give.tup (GiveL.cons (Give.agg (GiveL.cons (Give.str _) (GiveL.cons (Give.int _ _) (GiveL.cons (Give.int _ _) (GiveL.cons (Give.os rfl rfl (okInt.cleanMap _)) (GiveL.cons (Give.int _ _) (GiveL.cons (Give.int _ _) GiveL.nil (by decide)) (by decide)) (by decide)) (by decide)) (by decide)) (by decide))) (GiveL.cons (Give.bool _) GiveL.nil (by decide)) (by decide))))
  show (T.tup [(T.agg [(tS s.Fill),(tI s.Checks),(tI s.Spent),(T.sl true 1 (s.Asked.map (Qa true))),(tI s.Start),(tI s.Now)]),(tB false)])=(T.tup [(T.agg (Qe true (QhJ a s u v))),(tB (decide (J5 a s u v)))])
  (have hno:¬J5 a s u v:=(by rintro ⟨h1,h2,h3,h4⟩;contradiction);rw [Qex hno,decide_eq_false hno];rfl)
 refine VRunD.free rfl (VWant.on rfl rfl (dz fhg31_3)) rfl (OF.fieldAddrO (tv (T.op 1 0) rfl) Qbf) (VRunD.look rfl (VWant.on rfl rfl (dz fhg31_3)) rfl (OL.loadO1 (t:=(tI s.Spent)) (tv (T.op 1 2) rfl) rfl rfl QU) (VRunD.free rfl (VWant.on rfl rfl (dz fhg31_3)) rfl (OF.move (tv (tI v) rfl)) (VRunD.quiet (bi:= [18,13,4,2,1,0,3,11,5,9,7,6,8,10,12,16,14,15,17,21]) rfl (VWant.on rfl rfl (dz fhg31_3)) rfl rfl rfl bn (cS (vc (tv (tI v) rfl) vn) (ZJ rfl) (QaB (n+9) v) rfl rfl) (VRunD.free rfl (VWant.on rfl rfl (dz fhg31_3)) rfl (B.add (n:=(s.Spent+Zi v)) (tv (tI s.Spent) rfl) (tv (tI (Zi v)) rfl) (by (rw [Qt (by omega)];done))) (VRunD.free rfl (VWant.on rfl rfl (dz fhg31_3)) rfl (xgt (tv (tI (s.Spent+Zi v)) rfl) (VEv.int .i64 999)) (fD (OF.pickF (VEv.tmpB rfl (dz fhg31_3)) (tv (tB (decide (999<(s.Spent+Zi v)))) rfl)) rfl rfl (VRunD.nil (tn ?_))))))))
 refine cd (999<(s.Spent+Zi v)) rfl (fun fhc0=> ?_) fun fhc0=> ?_
 ·refine sr ?_
  refine lO (OL.loadOn (us:= [(tS s.Fill),(tI s.Checks),(tI s.Spent),(T.os 1 3 0 ((s.Asked.map (Qa true)).length)),(tI s.Start),(tI s.Now)]) (tv (T.op 4 0) rfl) rfl Zy Q0 (lb rfl) rfl) (cO (B.storeO (us:= [(tS s.Fill),(tI s.Checks),(tI s.Spent),(T.os 1 3 0 ((s.Asked.map (Qa true)).length)),(tI s.Start),(tI s.Now)]) (ws:= [(tS s.Fill),(tI s.Checks),(tI s.Spent),(T.os 1 3 0 ((s.Asked.map (Qa true)).length)),(tI s.Start),(tI s.Now)]) (tv (T.op 2 0) rfl) (tv (T.agg [(tS s.Fill),(tI s.Checks),(tI s.Spent),(T.os 1 3 0 ((s.Asked.map (Qa true)).length)),(tI s.Start),(tI s.Now)]) rfl) nofun rfl rfl (lb rfl) Jt Q0 (bc rfl (bc rfl (bc rfl (bc rfl (bc rfl (bc rfl bn)))))) rfl) (fO (OF.assign (VEv.bool false)) (nt (rt (tr ?_)))))
  refine vfin.eq (r':=(T.tup [(T.agg [(tS s.Fill),(tI s.Checks),(tI s.Spent),(T.sl true 1 (s.Asked.map (Qa true))),(tI s.Start),(tI s.Now)]),(tB false)])) ?_ (vfin.r (VRes.celln (ws:= [(tS s.Fill),(tI s.Checks),(tI s.Spent),(T.os 1 3 0 ((s.Asked.map (Qa true)).length)),(tI s.Start),(tI s.Now)]) rfl rfl Zy Q0 (lb rfl) rfl (VRes.tmp (t:=(tB false)) rfl VRes.nil)) (Give.tup (GiveL.cons (Give.agg (GiveL.cons (Give.str _) (GiveL.cons (Give.int _ _) (GiveL.cons (Give.int _ _) (GiveL.cons (Give.os rfl rfl (okInt.cleanMap _)) (GiveL.cons (Give.int _ _) (GiveL.cons (Give.int _ _) GiveL.nil (by decide)) (by decide)) (by decide)) (by decide)) (by decide)) (by decide))) (GiveL.cons (Give.bool _) GiveL.nil (by decide)) (by decide))))
  show (T.tup [(T.agg [(tS s.Fill),(tI s.Checks),(tI s.Spent),(T.sl true 1 (s.Asked.map (Qa true))),(tI s.Start),(tI s.Now)]),(tB false)])=(T.tup [(T.agg (Qe true (QhJ a s u v))),(tB (decide (J5 a s u v)))])
  (have hno:¬J5 a s u v:=(by rintro ⟨h1,h2,h3,h4⟩;contradiction);rw [Qex hno,decide_eq_false hno];rfl)
 refine sk (tn (sq (VRun.draw (B:= [[],[0],[],[2],[2,3,0,1],[4,3,2,1,0],[0,1,2,3,4,5]]) (by kernel_rfl) (by kernel_rfl) (fD (OF.fieldAddrO (tv (T.op 1 0) rfl) Qbf) rfl rfl (lD (OL.loadO1 (t:=(tI s.Spent)) (tv (T.op 1 2) rfl) rfl rfl QU) rfl rfl (mD (tI v) rfl rfl (VRunD.quiet (bi:= [2]) rfl VWant.always rfl rfl rfl bn (cS (vc (tv (tI v) rfl) vn) (ZJ rfl) (QaB (n+9) v) rfl rfl) (fD (B.add (n:=(s.Spent+Zi v)) (tv (tI s.Spent) rfl) (tv (tI (Zi v)) rfl) (by (rw [Qt (by omega)];done))) rfl rfl (fD (OF.fieldAddrO (tv (T.op 4 0) rfl) Qbf) rfl rfl (VRunD.chain (bi:= [0,1,2,3,4,5]) rfl VWant.always rfl rfl rfl (by kernel_rfl) (B.storeO (us:= [(tI (s.Spent+Zi v))]) (ws:= [(tS s.Fill),(tI s.Checks),(tI (s.Spent+Zi v)),(T.os 1 3 0 ((s.Asked.map (Qa true)).length)),(tI s.Start),(tI s.Now)]) (tv (T.op 4 2) rfl) (tv (tI (s.Spent+Zi v)) rfl) nofun rfl rfl (lb rfl) Yk Q8 (bc rfl bn) rfl) (VRunD.nil ?_)))))))))))
 refine tn (sr (lf (rd 1 Qa s.Asked) rfl Ym rfl rfl YY (mO (tI u) rfl (cO (OC.callF (us:= [(rd 1 Qa s.Asked),(tI u)]) (r:=(T.sl true 1 ((Ya s.Asked u).map (Qa true)))) (r':=(T.os 1 5 0 (((Ya s.Asked u).map (Qa true)).length))) (objs:= [(Obj.rows 1 ((Ya s.Asked u).map (Qa true)))]) rfl (vc (tv (rd 1 Qa s.Asked) rfl) (vc (tv (tI u) rfl) vn)) (ZJ rfl) (QgY (n+10) s.Asked u (by omega)) rfl) (fO (OF.fieldAddrO (tv (T.op 4 0) rfl) Ym) (cO (B.storeO (us:= [(T.os 1 5 0 (((Ya s.Asked u).map (Qa true)).length))]) (ws:= [(tS s.Fill),(tI s.Checks),(tI (s.Spent+Zi v)),(T.os 1 5 0 (((Ya s.Asked u).map (Qa true)).length)),(tI s.Start),(tI s.Now)]) (tv (T.op 4 3) rfl) (tv (T.os 1 5 0 (((Ya s.Asked u).map (Qa true)).length)) rfl) nofun rfl rfl (lb rfl) Qdp QbX (bc rfl bn) rfl) (nt (sr (lO (OL.loadOn (us:= [(tS s.Fill),(tI s.Checks),(tI (s.Spent+Zi v)),(T.os 1 5 0 (((Ya s.Asked u).map (Qa true)).length)),(tI s.Start),(tI s.Now)]) (tv (T.op 4 0) rfl) rfl Zy Q0 (lb rfl) rfl) (cO (B.storeO (us:= [(tS s.Fill),(tI s.Checks),(tI (s.Spent+Zi v)),(T.os 1 5 0 (((Ya s.Asked u).map (Qa true)).length)),(tI s.Start),(tI s.Now)]) (ws:= [(tS s.Fill),(tI s.Checks),(tI (s.Spent+Zi v)),(T.os 1 5 0 (((Ya s.Asked u).map (Qa true)).length)),(tI s.Start),(tI s.Now)]) (tv (T.op 2 0) rfl) (tv (T.agg [(tS s.Fill),(tI s.Checks),(tI (s.Spent+Zi v)),(T.os 1 5 0 (((Ya s.Asked u).map (Qa true)).length)),(tI s.Start),(tI s.Now)]) rfl) nofun rfl rfl (lb rfl) Jt Q0 (bc rfl (bc rfl (bc rfl (bc rfl (bc rfl (bc rfl bn)))))) rfl) (fO (OF.assign (VEv.bool true)) ?_)))))))))))
 refine nt (rt ?_)
 refine vfin.eq (r':=(T.tup [(T.agg [(tS s.Fill),(tI s.Checks),(tI (s.Spent+Zi v)),(T.sl true 1 ((Ya s.Asked u).map (Qa true))),(tI s.Start),(tI s.Now)]),(tB true)])) ?_ (vfin.r (VRes.celln (ws:= [(tS s.Fill),(tI s.Checks),(tI (s.Spent+Zi v)),(T.os 1 5 0 (((Ya s.Asked u).map (Qa true)).length)),(tI s.Start),(tI s.Now)]) rfl rfl Zy Q0 (lb rfl) rfl (VRes.tmp (t:=(tB true)) rfl VRes.nil)) (Give.tup (GiveL.cons (Give.agg (GiveL.cons (Give.str _) (GiveL.cons (Give.int _ _) (GiveL.cons (Give.int _ _) (GiveL.cons (Give.os rfl rfl (okInt.cleanMap _)) (GiveL.cons (Give.int _ _) (GiveL.cons (Give.int _ _) GiveL.nil (by decide)) (by decide)) (by decide)) (by decide)) (by decide)) (by decide))) (GiveL.cons (Give.bool _) GiveL.nil (by decide)) (by decide))))
 show (T.tup [(T.agg [(tS s.Fill),(tI s.Checks),(tI (s.Spent+Zi v)),(T.sl true 1 ((Ya s.Asked u).map (Qa true))),(tI s.Start),(tI s.Now)]),(tB true)])=(T.tup [(T.agg (Qe true (QhJ a s u v))),(tB (decide (J5 a s u v)))])
 (have hok:J5 a s u v:=(by refine ⟨?_,?_,?_,?_⟩<;>assumption);rw [QlD hok,decide_eq_true hok];rfl)
noncomputable section
def QgR (a:D.Puzzle) (s:D.Session) (c:Int) (w:ByteArray):Prop:=QY a s∧(gridOk a.Grid∧(0≤c∧c≤((a.Grid.Cells.size:Nat):Int) - 1)∧Qu a.Grid.Cells (Int.toNat c)=46)∧w.size=1∧Qfb w
instance (a:D.Puzzle) (s:D.Session) (c:Int) (w:ByteArray):Decidable (QgR a s c w):=Classical.propDecidable _
def wrR (a:D.Puzzle) (s:D.Session) (c:Int) (w:ByteArray):D.Session:=if QgR a s c w then D.Session.mk (wrS s.Fill w [c] 1) s.Checks s.Spent s.Asked s.Start s.Now else s
theorem Qmv {a:D.Puzzle} {s:D.Session} {c:Int} {w:ByteArray} (h:¬QgR a s c w):wrR a s c w=s:=if_neg h
theorem Ql4 {a:D.Puzzle} {s:D.Session} {c:Int} {w:ByteArray} (h:QgR a s c w):wrR a s c w=D.Session.mk (wrS s.Fill w [c] 1) s.Checks s.Spent s.Asked s.Start s.Now:=if_pos h
theorem QmK {f w:ByteArray} {c:Int} (hc:0≤c∧c<((f.size:Nat):Int)) (hw:w.size=1):f.extract 0 (Int.toNat c)++w++f.extract (Int.toNat (c+1)) f.size=wrS f w [c] 1:=by
 have h1:=Qlr (f:=f) (w:=w) (cs:= [c]) (i:=0) (c:=c) rfl hc (by omega)
 rw [QnG] at h1
 rw [← h1]
 have h2:w.extract 0 (0+1)=w:=by
  rw [Nat.zero_add,← hw]
  exact ByteArray.extract_zero_size
 rw [h2]
end
theorem Qij (n:Nat) (a:D.Puzzle) (s:D.Session) (c:Int) (w:ByteArray) (hz:QL a≤mx) (hs:QJ s≤mx) (hw:w.size≤maxLen):Pure (Qq Tryz.prog (n+12)) 39 [(T.agg (Qp false a)),(T.agg (Qe false s)),(tI c),(tS w)] (T.tup [(T.agg (Qe true (wrR a s c w))),(tB (decide (QgR a s c w)))]):=by
 refine Pure.intro (rs:= [ResultVar.cell 8 56,ResultVar.tmp 9]) Tryz.func39 rfl rfl rfl (E0:= [(0,(T.agg (Qp false a))),(1,(T.agg (Qe false s))),(2,(tI c)),(3,(tS w))]) rfl ?_
 obtain ⟨hlim,hmx,hmax⟩:=QC
 have hs2:=hs
 simp only [QJ] at hs2
 have hz2:=hz
 simp only [QL,ZE] at hz2
 have hl:=QV (z:=QQ) a.Clues
 have hl2:=QV (z:=zI) s.Asked
 refine sr (kO (B.box (ts:=(Qp false a)) (tv (T.agg (Qp false a)) rfl) nofun rfl) (kO (B.box (ts:=(Qe false s)) (tv (T.agg (Qe false s)) rfl) nofun rfl) (kO (B.alloc (t:=(T.agg [(tS ByteArray.empty),(tN 0),(tN 0),T.nils,(tN 0),(tN 0)])) (ts:= [(tS ByteArray.empty),(tN 0),(tN 0),T.nils,(tN 0),(tN 0)]) QbW Qb0 nofun (fun _=> .agg _ _ rfl (Yg (RL.cons (.str _) (RL.cons (.int _ _) (RL.cons (.int _ _) (RL.cons (.nils) (RL.cons (.int _ _) (RL.cons (.int _ _) (RL.nil _))))))))) rfl) (fO (OF.assign (VEv.bool false)) (nt (sr (lO (OL.loadOn (us:=(Qe false s)) (tv (T.op 1 0) rfl) rfl Zy Q0 (lb rfl) rfl) (cO (OC.callF (us:= [(T.agg (Qe false s))]) (r:=(T.agg (Qe true s))) (r':=(T.agg [(tS s.Fill),(tI s.Checks),(tI s.Spent),(T.os 1 3 0 ((s.Asked.map (Qa true)).length)),(tI s.Start),(tI s.Now)])) (objs:= [(Obj.rows 1 (s.Asked.map (Qa true)))]) rfl (vc (tv (T.agg (Qe false s)) rfl) vn) (LendL.cons (lg Zu) ln) (JW (n+10) s (by assumption)) rfl) (kO (B.alloc (t:=(T.agg [(tS ByteArray.empty),(tN 0),(tN 0),T.nils,(tN 0),(tN 0)])) (ts:= [(tS ByteArray.empty),(tN 0),(tN 0),T.nils,(tN 0),(tN 0)]) QbW Qb0 nofun (fun _=> .agg _ _ rfl (Yg (RL.cons (.str _) (RL.cons (.int _ _) (RL.cons (.int _ _) (RL.cons (.nils) (RL.cons (.int _ _) (RL.cons (.int _ _) (RL.nil _))))))))) rfl) (cO (B.storeO (us:= [(tS s.Fill),(tI s.Checks),(tI s.Spent),(T.os 1 3 0 ((s.Asked.map (Qa true)).length)),(tI s.Start),(tI s.Now)]) (ws:= [(tS s.Fill),(tI s.Checks),(tI s.Spent),(T.os 1 3 0 ((s.Asked.map (Qa true)).length)),(tI s.Start),(tI s.Now)]) (tv (T.op 4 0) rfl) (tv (T.agg [(tS s.Fill),(tI s.Checks),(tI s.Spent),(T.os 1 3 0 ((s.Asked.map (Qa true)).length)),(tI s.Start),(tI s.Now)]) rfl) nofun rfl rfl (lb rfl) Jt Q0 (bc rfl (bc rfl (bc rfl (bc rfl (bc rfl (bc rfl bn)))))) rfl) (nt ?_)))))))))))
 refine sq (sr (lO (OL.loadOn (us:=(Qp false a)) (tv (T.op 0 0) rfl) rfl QeX QdR (lb rfl) rfl) (lO (OL.loadOn (us:=(Qe false s)) (tv (T.op 1 0) rfl) rfl Zy Q0 (lb rfl) rfl) (cO (cS (vc (tv (T.agg (Qp false a)) rfl) (vc (tv (T.agg (Qe false s)) rfl) vn)) (LendL.cons (lg Z4) (LendL.cons (lg Zu) ln)) (Je (n+0) a s (by assumption) (by assumption)) rfl rfl) (fO (QW (tv (tB (decide (QY a s))) rfl)) (mO (tB (!(decide (QY a s)))) rfl ?_))))))
 refine VRunO.joinB 6 [18,19,20,21,22] 23 (tB (decide ((¬(QY a s))∨(¬(gridOk a.Grid∧(0≤c∧c≤((a.Grid.Cells.size:Nat):Int) - 1)∧Qu a.Grid.Cells (Int.toNat c)=46))))) ?_ ?_
 ·refine gn (QY a s) (fun fhg17_1=> ?_) fun fhg17_1=> ?_
  ·refine Qy 5 4 false 17 (ny fhg17_1) rfl rfl rfl ?_
   refine fO (OF.pickT (VEv.tmpB rfl (ny fhg17_1)) (VEv.bool true)) (VRunO.nil ?_)
   exact jq (congrArg T.bool (kOT fhg17_1)) (js rfl (js rfl (js rfl (js rfl (js rfl (jn))))))
  ·refine gF (nz fhg17_1) rfl rfl (OF.fieldAddrO (tv (T.op 0 0) rfl) Y0) ?_
   refine gL (nz fhg17_1) rfl rfl (OL.loadOn (us:=(Qc false a.Grid)) (tv (T.op 0 0) rfl) rfl QX QT (lb rfl) rfl) (gF (nz fhg17_1) rfl rfl (OF.move (tv (tI c) rfl)) (VRunO.chain (VWant.on rfl rfl (nz fhg17_1)) (cS (vc (tv (T.agg (Qc false a.Grid)) rfl) (vc (tv (tI c) rfl) vn)) (LendL.cons (lg Qs) (lp rfl ln)) (Qbr (n+8) a.Grid c (by omega)) rfl rfl) (gF (nz fhg17_1) rfl rfl (QW (tv (tB (decide (gridOk a.Grid∧(0≤c∧c≤((a.Grid.Cells.size:Nat):Int) - 1)∧Qu a.Grid.Cells (Int.toNat c)=46))) rfl)) (fO (OF.pickF (VEv.tmpB rfl (nz fhg17_1)) (tv (tB (!(decide (gridOk a.Grid∧(0≤c∧c≤((a.Grid.Cells.size:Nat):Int) - 1)∧Qu a.Grid.Cells (Int.toNat c)=46)))) rfl)) (VRunO.nil ?_)))))
   exact jq (congrArg T.bool (kOF (not_not_intro fhg17_1) dN)) (js rfl (js rfl (js rfl (js rfl (js rfl (jn))))))
 refine mO (tB (decide ((¬(QY a s))∨(¬(gridOk a.Grid∧(0≤c∧c≤((a.Grid.Cells.size:Nat):Int) - 1)∧Qu a.Grid.Cells (Int.toNat c)=46))))) rfl ?_
 refine VRunO.joinB 4 [25,26,27] 28 (tB (decide (((¬(QY a s))∨(¬(gridOk a.Grid∧(0≤c∧c≤((a.Grid.Cells.size:Nat):Int) - 1)∧Qu a.Grid.Cells (Int.toNat c)=46)))∨(¬(w.size=1))))) ?_ ?_
 ·refine gw ((¬(QY a s))∨(¬(gridOk a.Grid∧(0≤c∧c≤((a.Grid.Cells.size:Nat):Int) - 1)∧Qu a.Grid.Cells (Int.toNat c)=46))) (fun fhg24_2=> ?_) fun fhg24_2=> ?_
  ·refine Qy 3 11 false 24 (dy fhg24_2) rfl rfl rfl ?_
   refine fO (OF.pickT (VEv.tmpB rfl (dy fhg24_2)) (VEv.bool true)) (VRunO.nil ?_)
   exact jq (congrArg T.bool (kOT fhg24_2)) (js rfl (js rfl (js rfl (jn))))
  ·refine gF (dz fhg24_2) rfl rfl (OF.move (tv (tS w) rfl)) ?_
   refine gL (dz fhg24_2) rfl rfl (B.lenS (tv (tS w) rfl) U9) (gF (dz fhg24_2) rfl rfl (B.neq (c:=(!(decide (w.size=1)))) (tv (tN w.size) rfl) (VEv.int .i64 1) (by exact QnM (by omega))) (fO (OF.pickF (VEv.tmpB rfl (dz fhg24_2)) (tv (tB (!(decide (w.size=1)))) rfl)) (VRunO.nil ?_)))
   exact jq (congrArg T.bool (kOF fhg24_2 dN)) (js rfl (js rfl (js rfl (jn))))
 refine mO (tB (decide (((¬(QY a s))∨(¬(gridOk a.Grid∧(0≤c∧c≤((a.Grid.Cells.size:Nat):Int) - 1)∧Qu a.Grid.Cells (Int.toNat c)=46)))∨(¬(w.size=1))))) rfl ?_
 refine VRunO.joinB 4 [30,31,32] 33 (tB (decide ((((¬(QY a s))∨(¬(gridOk a.Grid∧(0≤c∧c≤((a.Grid.Cells.size:Nat):Int) - 1)∧Qu a.Grid.Cells (Int.toNat c)=46)))∨(¬(w.size=1)))∨(¬(Qfb w))))) ?_ ?_
 ·refine gw (((¬(QY a s))∨(¬(gridOk a.Grid∧(0≤c∧c≤((a.Grid.Cells.size:Nat):Int) - 1)∧Qu a.Grid.Cells (Int.toNat c)=46)))∨(¬(w.size=1))) (fun fhg29_3=> ?_) fun fhg29_3=> ?_
  ·refine Qy 3 16 false 29 (dy fhg29_3) rfl rfl rfl ?_
   refine fO (OF.pickT (VEv.tmpB rfl (dy fhg29_3)) (VEv.bool true)) (VRunO.nil ?_)
   exact jq (congrArg T.bool (kOT fhg29_3)) (js rfl (js rfl (js rfl (jn))))
  ·refine gF (dz fhg29_3) rfl rfl (OF.move (tv (tS w) rfl)) ?_
   refine VRunO.chain (VWant.on rfl rfl (dz fhg29_3)) (cS (vc (tv (tS w) rfl) vn) (ZJ rfl) (QdE (n+9) w (by assumption)) rfl rfl) (gF (dz fhg29_3) rfl rfl (QW (tv (tB (decide (Qfb w))) rfl)) (fO (OF.pickF (VEv.tmpB rfl (dz fhg29_3)) (tv (tB (!(decide (Qfb w)))) rfl)) (VRunO.nil ?_)))
   exact jq (congrArg T.bool (kOF fhg29_3 dN)) (js rfl (js rfl (js rfl (jn))))
 refine nt ?_
 refine cd ((((¬(QY a s))∨(¬(gridOk a.Grid∧(0≤c∧c≤((a.Grid.Cells.size:Nat):Int) - 1)∧Qu a.Grid.Cells (Int.toNat c)=46)))∨(¬(w.size=1)))∨(¬(Qfb w))) rfl (fun fhc0=> ?_) fun fhc0=> ?_
 ·refine sr ?_
  refine lO (OL.loadOn (us:= [(tS s.Fill),(tI s.Checks),(tI s.Spent),(T.os 1 3 0 ((s.Asked.map (Qa true)).length)),(tI s.Start),(tI s.Now)]) (tv (T.op 4 0) rfl) rfl Zy Q0 (lb rfl) rfl) (cO (B.storeO (us:= [(tS s.Fill),(tI s.Checks),(tI s.Spent),(T.os 1 3 0 ((s.Asked.map (Qa true)).length)),(tI s.Start),(tI s.Now)]) (ws:= [(tS s.Fill),(tI s.Checks),(tI s.Spent),(T.os 1 3 0 ((s.Asked.map (Qa true)).length)),(tI s.Start),(tI s.Now)]) (tv (T.op 2 0) rfl) (tv (T.agg [(tS s.Fill),(tI s.Checks),(tI s.Spent),(T.os 1 3 0 ((s.Asked.map (Qa true)).length)),(tI s.Start),(tI s.Now)]) rfl) nofun rfl rfl (lb rfl) Jt Q0 (bc rfl (bc rfl (bc rfl (bc rfl (bc rfl (bc rfl bn)))))) rfl) (fO (OF.assign (VEv.bool false)) (nt (rt (tr ?_)))))
  refine vfin.eq (r':=(T.tup [(T.agg [(tS s.Fill),(tI s.Checks),(tI s.Spent),(T.sl true 1 (s.Asked.map (Qa true))),(tI s.Start),(tI s.Now)]),(tB false)])) ?_ (vfin.r (VRes.celln (ws:= [(tS s.Fill),(tI s.Checks),(tI s.Spent),(T.os 1 3 0 ((s.Asked.map (Qa true)).length)),(tI s.Start),(tI s.Now)]) rfl rfl Zy Q0 (lb rfl) rfl (VRes.tmp (t:=(tB false)) rfl VRes.nil)) (Give.tup (GiveL.cons (Give.agg (GiveL.cons (Give.str _) (GiveL.cons (Give.int _ _) (GiveL.cons (Give.int _ _) (GiveL.cons (Give.os rfl rfl (okInt.cleanMap _)) (GiveL.cons (Give.int _ _) (GiveL.cons (Give.int _ _) GiveL.nil (by decide)) (by decide)) (by decide)) (by decide)) (by decide)) (by decide))) (GiveL.cons (Give.bool _) GiveL.nil (by decide)) (by decide))))
  show (T.tup [(T.agg [(tS s.Fill),(tI s.Checks),(tI s.Spent),(T.sl true 1 (s.Asked.map (Qa true))),(tI s.Start),(tI s.Now)]),(tB false)])=(T.tup [(T.agg (Qe true (wrR a s c w))),(tB (decide (QgR a s c w)))])
  (have hno:¬QgR a s c w:=(by rintro ⟨h1,h2,h3,h4⟩;rcases fhc0 with ((h | h) | h) | h<;>contradiction);rw [Qmv hno,decide_eq_false hno];rfl)
 have hok:QgR a s c w:=(by simp only [not_or,Classical.not_not] at fhc0;exact ⟨fhc0.1.1.1,fhc0.1.1.2,fhc0.1.2,fhc0.2⟩)
 have hfz:s.Fill.size=a.Grid.Cells.size:=hok.1.2.1.2.1
 have hcb:=hok.2.1.2.1
 refine sk (tn (sq (VRun.draw (B:= [[],[0],[],[2,0,1],[],[4,1,0,2,3],[],[6],[],[8],[8,9,6,7],[7,6,9,8,10,3,2,0,1,4,5],[11,10,9,8,7,6,5,4,3,2,1,0],[0,1,2,3,4,5,6,7,8,9,10,11,12]]) (by kernel_rfl) (by kernel_rfl) (fD (OF.fieldAddrO (tv (T.op 1 0) rfl) Ju) rfl rfl (lD (OL.loadO1 (t:=(tS s.Fill)) (tv (T.op 1 0) rfl) rfl rfl Z7) rfl rfl (mD (tI c) rfl rfl (lD (OL.sliceSHi (j:=(Int.toNat c)) (tv (tS s.Fill) rfl) (tv (tI c) rfl) (by omega) (by omega) U9) rfl rfl (mD (tS w) rfl rfl (fD (B.sadd (tv (tS (s.Fill.extract 0 (Int.toNat c))) rfl) (tv (tS w) rfl) (by (simp only [ByteArray.size_extract,ByteArray.size_append];omega))) rfl rfl (fD (OF.fieldAddrO (tv (T.op 1 0) rfl) Ju) rfl rfl (lD (OL.loadO1 (t:=(tS s.Fill)) (tv (T.op 1 0) rfl) rfl rfl Z7) rfl rfl ?_)))))))))))
 refine mD (tI c) rfl rfl (fD (B.add (n:=(c+1)) (tv (tI c) rfl) (VEv.int .i64 1) (by (rw [Qt (by omega)];done))) rfl rfl (lD (OL.sliceSLo (i:=(Int.toNat (c+1))) (tv (tS s.Fill) rfl) (tv (tI (c+1)) rfl) (by omega) (by omega) U9) rfl rfl (fD (B.sadd (tv (tS ((s.Fill.extract 0 (Int.toNat c))++w)) rfl) (tv (tS (s.Fill.extract (Int.toNat (c+1)) s.Fill.size)) rfl) (by (simp only [ByteArray.size_extract,ByteArray.size_append];omega))) rfl rfl (fD (OF.fieldAddrO (tv (T.op 4 0) rfl) Ju) rfl rfl (VRunD.chain (bi:= [0,1,2,3,4,5,6,7,8,9,10,11,12]) rfl VWant.always rfl rfl rfl (by kernel_rfl) (B.storeO (us:= [(tS (((s.Fill.extract 0 (Int.toNat c))++w)++(s.Fill.extract (Int.toNat (c+1)) s.Fill.size)))]) (ws:= [(tS (((s.Fill.extract 0 (Int.toNat c))++w)++(s.Fill.extract (Int.toNat (c+1)) s.Fill.size))),(tI s.Checks),(tI s.Spent),(T.os 1 3 0 ((s.Asked.map (Qa true)).length)),(tI s.Start),(tI s.Now)]) (tv (T.op 4 0) rfl) (tv (tS (((s.Fill.extract 0 (Int.toNat c))++w)++(s.Fill.extract (Int.toNat (c+1)) s.Fill.size))) rfl) nofun rfl rfl (lb rfl) if9 sz9 (bc rfl bn) rfl) (VRunD.nil (tn (sr (lO (OL.loadOn (us:= [(tS (((s.Fill.extract 0 (Int.toNat c))++w)++(s.Fill.extract (Int.toNat (c+1)) s.Fill.size))),(tI s.Checks),(tI s.Spent),(T.os 1 3 0 ((s.Asked.map (Qa true)).length)),(tI s.Start),(tI s.Now)]) (tv (T.op 4 0) rfl) rfl Zy Q0 (lb rfl) rfl) (cO (B.storeO (us:= [(tS (((s.Fill.extract 0 (Int.toNat c))++w)++(s.Fill.extract (Int.toNat (c+1)) s.Fill.size))),(tI s.Checks),(tI s.Spent),(T.os 1 3 0 ((s.Asked.map (Qa true)).length)),(tI s.Start),(tI s.Now)]) (ws:= [(tS (((s.Fill.extract 0 (Int.toNat c))++w)++(s.Fill.extract (Int.toNat (c+1)) s.Fill.size))),(tI s.Checks),(tI s.Spent),(T.os 1 3 0 ((s.Asked.map (Qa true)).length)),(tI s.Start),(tI s.Now)]) (tv (T.op 2 0) rfl) (tv (T.agg [(tS (((s.Fill.extract 0 (Int.toNat c))++w)++(s.Fill.extract (Int.toNat (c+1)) s.Fill.size))),(tI s.Checks),(tI s.Spent),(T.os 1 3 0 ((s.Asked.map (Qa true)).length)),(tI s.Start),(tI s.Now)]) rfl) nofun rfl rfl (lb rfl) Jt Q0 (bc rfl (bc rfl (bc rfl (bc rfl (bc rfl (bc rfl bn)))))) rfl) (fO (OF.assign (VEv.bool true)) ?_)))))))))))
 refine nt (rt ?_)
 refine vfin.eq (r':=(T.tup [(T.agg [(tS (((s.Fill.extract 0 (Int.toNat c))++w)++(s.Fill.extract (Int.toNat (c+1)) s.Fill.size))),(tI s.Checks),(tI s.Spent),(T.sl true 1 (s.Asked.map (Qa true))),(tI s.Start),(tI s.Now)]),(tB true)])) ?_ (vfin.r (VRes.celln (ws:= [(tS (((s.Fill.extract 0 (Int.toNat c))++w)++(s.Fill.extract (Int.toNat (c+1)) s.Fill.size))),(tI s.Checks),(tI s.Spent),(T.os 1 3 0 ((s.Asked.map (Qa true)).length)),(tI s.Start),(tI s.Now)]) rfl rfl Zy Q0 (lb rfl) rfl (VRes.tmp (t:=(tB true)) rfl VRes.nil)) (Give.tup (GiveL.cons (Give.agg (GiveL.cons (Give.str _) (GiveL.cons (Give.int _ _) (GiveL.cons (Give.int _ _) (GiveL.cons (Give.os rfl rfl (okInt.cleanMap _)) (GiveL.cons (Give.int _ _) (GiveL.cons (Give.int _ _) GiveL.nil (by decide)) (by decide)) (by decide)) (by decide)) (by decide)) (by decide))) (GiveL.cons (Give.bool _) GiveL.nil (by decide)) (by decide))))
 show (T.tup [(T.agg [(tS (((s.Fill.extract 0 (Int.toNat c))++w)++(s.Fill.extract (Int.toNat (c+1)) s.Fill.size))),(tI s.Checks),(tI s.Spent),(T.sl true 1 (s.Asked.map (Qa true))),(tI s.Start),(tI s.Now)]),(tB true)])=(T.tup [(T.agg (Qe true (wrR a s c w))),(tB (decide (QgR a s c w)))])
 (rw [Ql4 hok,decide_eq_true hok,← QmK ⟨hcb.1,by omega⟩ hok.2.2.1];rfl)
noncomputable section
def Q5 (a:D.Puzzle) (s:D.Session) (u:Int):Prop:=QY a s∧(0≤u∧u≤((a.Clues.length:Nat):Int) - 1)∧¬ 999≤s.Checks∧¬QbP (QG a.Grid s.Fill u)
instance (a:D.Puzzle) (s:D.Session) (u:Int):Decidable (Q5 a s u):=Classical.propDecidable _
def Qr (a:D.Puzzle) (s:D.Session) (u:Int):D.Session:=if Q5 a s u then D.Session.mk s.Fill (s.Checks+1) s.Spent s.Asked s.Start s.Now else s
theorem Qfl {a:D.Puzzle} {s:D.Session} {u:Int} (h:¬Q5 a s u):Qr a s u=s:=if_neg h
theorem QiV {a:D.Puzzle} {s:D.Session} {u:Int} (h:Q5 a s u):Qr a s u=D.Session.mk s.Fill (s.Checks+1) s.Spent s.Asked s.Start s.Now:=if_pos h
theorem QnO (a:D.Puzzle) (s:D.Session) (u:Int):QJ (Qr a s u)=QJ s:=by
 unfold Qr
 split<;>rfl
theorem QlQ (a:D.Puzzle) (s:D.Session) (u:Int):(Qr a s u).Asked.length=s.Asked.length:=by
 unfold Qr
 split<;>rfl
def Yf (a:D.Puzzle) (s:D.Session) (u:Int):Prop:=Q5 a s u∧u∈Zh a.Grid s.Fill a.Seals a.Salt
instance (a:D.Puzzle) (s:D.Session) (u:Int):Decidable (Yf a s u):=Classical.propDecidable _
end
theorem Qde (n:Nat) (a:D.Puzzle) (s:D.Session) (u:Int) (hz:QL a≤mx) (hs:QJ s≤mx):Pure (Qq Tryz.prog (n+12)) 43 [(T.agg (Qp false a)),(T.agg (Qe false s)),(tI u)] (T.tup [(T.agg (Qe true (Qr a s u))),(tB (decide (Yf a s u))),(tB (decide (Q5 a s u)))]):=by
 refine Pure.intro (rs:= [ResultVar.cell 6 56,ResultVar.tmp 7,ResultVar.tmp 8]) Tryz.func43 rfl rfl rfl (E0:= [(0,(T.agg (Qp false a))),(1,(T.agg (Qe false s))),(2,(tI u))]) rfl ?_
 obtain ⟨hlim,hmx,hmax⟩:=QC
 have hs2:=hs
 simp only [QJ] at hs2
 have hz2:=hz
 simp only [QL,ZE] at hz2
 have hl:=QV (z:=QQ) a.Clues
 have hl2:=QV (z:=zI) s.Asked
 have hl3:=QV (z:=zI) a.Seals
 have hsp:=JD a.Grid s.Fill u
 have hrl:=Qe2 a.Grid s.Fill a.Seals a.Salt
 refine sr (kO (B.box (ts:=(Qp false a)) (tv (T.agg (Qp false a)) rfl) nofun rfl) (kO (B.box (ts:=(Qe false s)) (tv (T.agg (Qe false s)) rfl) nofun rfl) (kO (B.alloc (t:=(T.agg [(tS ByteArray.empty),(tN 0),(tN 0),T.nils,(tN 0),(tN 0)])) (ts:= [(tS ByteArray.empty),(tN 0),(tN 0),T.nils,(tN 0),(tN 0)]) QbW Qb0 nofun (fun _=> .agg _ _ rfl (Yg (RL.cons (.str _) (RL.cons (.int _ _) (RL.cons (.int _ _) (RL.cons (.nils) (RL.cons (.int _ _) (RL.cons (.int _ _) (RL.nil _))))))))) rfl) (fO (OF.assign (VEv.bool false)) (fO (OF.assign (VEv.bool false)) (nt (sr (lO (OL.loadOn (us:=(Qe false s)) (tv (T.op 1 0) rfl) rfl Zy Q0 (lb rfl) rfl) (cO (OC.callF (us:= [(T.agg (Qe false s))]) (r:=(T.agg (Qe true s))) (r':=(T.agg [(tS s.Fill),(tI s.Checks),(tI s.Spent),(T.os 1 3 0 ((s.Asked.map (Qa true)).length)),(tI s.Start),(tI s.Now)])) (objs:= [(Obj.rows 1 (s.Asked.map (Qa true)))]) rfl (vc (tv (T.agg (Qe false s)) rfl) vn) (LendL.cons (lg Zu) ln) (JW (n+10) s (by assumption)) rfl) (kO (B.alloc (t:=(T.agg [(tS ByteArray.empty),(tN 0),(tN 0),T.nils,(tN 0),(tN 0)])) (ts:= [(tS ByteArray.empty),(tN 0),(tN 0),T.nils,(tN 0),(tN 0)]) QbW Qb0 nofun (fun _=> .agg _ _ rfl (Yg (RL.cons (.str _) (RL.cons (.int _ _) (RL.cons (.int _ _) (RL.cons (.nils) (RL.cons (.int _ _) (RL.cons (.int _ _) (RL.nil _))))))))) rfl) (cO (B.storeO (us:= [(tS s.Fill),(tI s.Checks),(tI s.Spent),(T.os 1 3 0 ((s.Asked.map (Qa true)).length)),(tI s.Start),(tI s.Now)]) (ws:= [(tS s.Fill),(tI s.Checks),(tI s.Spent),(T.os 1 3 0 ((s.Asked.map (Qa true)).length)),(tI s.Start),(tI s.Now)]) (tv (T.op 4 0) rfl) (tv (T.agg [(tS s.Fill),(tI s.Checks),(tI s.Spent),(T.os 1 3 0 ((s.Asked.map (Qa true)).length)),(tI s.Start),(tI s.Now)]) rfl) nofun rfl rfl (lb rfl) Jt Q0 (bc rfl (bc rfl (bc rfl (bc rfl (bc rfl (bc rfl bn)))))) rfl) ?_)))))))))))
 refine nt (sq (sr (lO (OL.loadOn (us:=(Qp false a)) (tv (T.op 0 0) rfl) rfl QeX QdR (lb rfl) rfl) (lO (OL.loadOn (us:=(Qe false s)) (tv (T.op 1 0) rfl) rfl Zy Q0 (lb rfl) rfl) (cO (cS (vc (tv (T.agg (Qp false a)) rfl) (vc (tv (T.agg (Qe false s)) rfl) vn)) (LendL.cons (lg Z4) (LendL.cons (lg Zu) ln)) (Je (n+0) a s (by assumption) (by assumption)) rfl rfl) (fO (QW (tv (tB (decide (QY a s))) rfl)) (mO (tB (!(decide (QY a s)))) rfl ?_)))))))
 refine gn (QY a s) (fun fhg16_1=> ?_) fun fhg16_1=> ?_
 ·refine Qy 7 4 false 16 (ny fhg16_1) rfl rfl rfl ?_
  refine fO (OF.pickT (VEv.tmpB rfl (ny fhg16_1)) (VEv.bool true)) (mO (tB true) rfl (Qy 3 13 false 25 (b:=true) rfl rfl rfl rfl (fO (OF.pickT (tv (tB true) rfl) (VEv.bool true)) (mO (tB true) rfl (Qy 7 18 false 30 (b:=true) rfl rfl rfl rfl (fO (OF.pickT (tv (tB true) rfl) (VEv.bool true)) (nt (ct rfl (sr (lO (OL.loadOn (us:= [(tS s.Fill),(tI s.Checks),(tI s.Spent),(T.os 1 3 0 ((s.Asked.map (Qa true)).length)),(tI s.Start),(tI s.Now)]) (tv (T.op 4 0) rfl) rfl Zy Q0 (lb rfl) rfl) (cO (B.storeO (us:= [(tS s.Fill),(tI s.Checks),(tI s.Spent),(T.os 1 3 0 ((s.Asked.map (Qa true)).length)),(tI s.Start),(tI s.Now)]) (ws:= [(tS s.Fill),(tI s.Checks),(tI s.Spent),(T.os 1 3 0 ((s.Asked.map (Qa true)).length)),(tI s.Start),(tI s.Now)]) (tv (T.op 2 0) rfl) (tv (T.agg [(tS s.Fill),(tI s.Checks),(tI s.Spent),(T.os 1 3 0 ((s.Asked.map (Qa true)).length)),(tI s.Start),(tI s.Now)]) rfl) nofun rfl rfl (lb rfl) Jt Q0 (bc rfl (bc rfl (bc rfl (bc rfl (bc rfl (bc rfl bn)))))) rfl) ?_)))))))))))
  refine fO (OF.assign (VEv.bool false)) (fO (OF.assign (VEv.bool false)) (nt (rt (tr ?_))))
  refine vfin.eq (r':=(T.tup [(T.agg [(tS s.Fill),(tI s.Checks),(tI s.Spent),(T.sl true 1 (s.Asked.map (Qa true))),(tI s.Start),(tI s.Now)]),(tB false),(tB false)])) ?_ (vfin.r (VRes.celln (ws:= [(tS s.Fill),(tI s.Checks),(tI s.Spent),(T.os 1 3 0 ((s.Asked.map (Qa true)).length)),(tI s.Start),(tI s.Now)]) rfl rfl Zy Q0 (lb rfl) rfl (VRes.tmp (t:=(tB false)) rfl (VRes.tmp (t:=(tB false)) rfl VRes.nil))) (Give.tup (GiveL.cons (Give.agg (GiveL.cons (Give.str _) (GiveL.cons (Give.int _ _) (GiveL.cons (Give.int _ _) (GiveL.cons (Give.os rfl rfl (okInt.cleanMap _)) (GiveL.cons (Give.int _ _) (GiveL.cons (Give.int _ _) GiveL.nil (by decide)) (by decide)) (by decide)) (by decide)) (by decide)) (by decide))) (GiveL.cons (Give.bool _) (GiveL.cons (Give.bool _) GiveL.nil (by decide)) (by decide)) (by decide))))
  show (T.tup [(T.agg [(tS s.Fill),(tI s.Checks),(tI s.Spent),(T.sl true 1 (s.Asked.map (Qa true))),(tI s.Start),(tI s.Now)]),(tB false),(tB false)])=(T.tup [(T.agg (Qe true (Qr a s u))),(tB (decide (Yf a s u))),(tB (decide (Q5 a s u)))])
  (have hno:¬Q5 a s u:=(by rintro ⟨h1,h2,h3,h4⟩;contradiction);rw [Qfl hno,decide_eq_false hno,decide_eq_false (fun h:Yf a s u=>hno h.1)];rfl)
 have hse:QY a s:=fhg16_1
 have hc7:=hse.2.2.1
 refine gF (nz fhg16_1) rfl rfl (OF.move (tv (tI u) rfl)) (Yl (rd 2 Qg a.Clues) (nz fhg16_1) rfl rfl rfl rfl Y2 rfl rfl Qdq (gL (nz fhg16_1) rfl rfl (B.lenR (m:=a.Clues.length) (tv (rd 2 Qg a.Clues) rfl) U35 (List.length_map ..)) (gF (nz fhg16_1) rfl rfl (B.sub (n:=(((a.Clues.length:Nat):Int) - 1)) (tv (tN a.Clues.length) rfl) (VEv.int .i64 1) (by (rw [Qt (by omega)];done))) (VRunO.chain (VWant.on rfl rfl (nz fhg16_1)) (cS (vc (tv (tI u) rfl) (vc (VEv.int .i64 0) (vc (tv (tI (((a.Clues.length:Nat):Int) - 1)) rfl) vn))) (ZJ rfl) (QH (n+10) u 0 (((a.Clues.length:Nat):Int) - 1)) rfl rfl) (gF (nz fhg16_1) rfl rfl (QW (tv (tB (decide (0≤u∧u≤(((a.Clues.length:Nat):Int) - 1)))) rfl)) (fO (OF.pickF (VEv.tmpB rfl (nz fhg16_1)) (tv (tB (!(decide (0≤u∧u≤(((a.Clues.length:Nat):Int) - 1))))) rfl)) (mO (tB (!(decide (0≤u∧u≤(((a.Clues.length:Nat):Int) - 1))))) rfl ?_)))))))
 refine gn (0≤u∧u≤(((a.Clues.length:Nat):Int) - 1)) (fun fhg25_2=> ?_) fun fhg25_2=> ?_
 ·refine Qy 3 13 false 25 (ny fhg25_2) rfl rfl rfl ?_
  refine fO (OF.pickT (VEv.tmpB rfl (ny fhg25_2)) (VEv.bool true)) (mO (tB true) rfl (Qy 7 18 false 30 (b:=true) rfl rfl rfl rfl (fO (OF.pickT (tv (tB true) rfl) (VEv.bool true)) (nt (ct rfl (sr (lO (OL.loadOn (us:= [(tS s.Fill),(tI s.Checks),(tI s.Spent),(T.os 1 3 0 ((s.Asked.map (Qa true)).length)),(tI s.Start),(tI s.Now)]) (tv (T.op 4 0) rfl) rfl Zy Q0 (lb rfl) rfl) (cO (B.storeO (us:= [(tS s.Fill),(tI s.Checks),(tI s.Spent),(T.os 1 3 0 ((s.Asked.map (Qa true)).length)),(tI s.Start),(tI s.Now)]) (ws:= [(tS s.Fill),(tI s.Checks),(tI s.Spent),(T.os 1 3 0 ((s.Asked.map (Qa true)).length)),(tI s.Start),(tI s.Now)]) (tv (T.op 2 0) rfl) (tv (T.agg [(tS s.Fill),(tI s.Checks),(tI s.Spent),(T.os 1 3 0 ((s.Asked.map (Qa true)).length)),(tI s.Start),(tI s.Now)]) rfl) nofun rfl rfl (lb rfl) Jt Q0 (bc rfl (bc rfl (bc rfl (bc rfl (bc rfl (bc rfl bn)))))) rfl) (fO (OF.assign (VEv.bool false)) (fO (OF.assign (VEv.bool false)) (nt ?_)))))))))))
  refine rt (tr ?_)
  refine vfin.eq (r':=(T.tup [(T.agg [(tS s.Fill),(tI s.Checks),(tI s.Spent),(T.sl true 1 (s.Asked.map (Qa true))),(tI s.Start),(tI s.Now)]),(tB false),(tB false)])) ?_ (vfin.r (VRes.celln (ws:= [(tS s.Fill),(tI s.Checks),(tI s.Spent),(T.os 1 3 0 ((s.Asked.map (Qa true)).length)),(tI s.Start),(tI s.Now)]) rfl rfl Zy Q0 (lb rfl) rfl (VRes.tmp (t:=(tB false)) rfl (VRes.tmp (t:=(tB false)) rfl VRes.nil))) (Give.tup (GiveL.cons (Give.agg (GiveL.cons (Give.str _) (GiveL.cons (Give.int _ _) (GiveL.cons (Give.int _ _) (GiveL.cons (Give.os rfl rfl (okInt.cleanMap _)) (GiveL.cons (Give.int _ _) (GiveL.cons (Give.int _ _) GiveL.nil (by decide)) (by decide)) (by decide)) (by decide)) (by decide)) (by decide))) (GiveL.cons (Give.bool _) (GiveL.cons (Give.bool _) GiveL.nil (by decide)) (by decide)) (by decide))))
  show (T.tup [(T.agg [(tS s.Fill),(tI s.Checks),(tI s.Spent),(T.sl true 1 (s.Asked.map (Qa true))),(tI s.Start),(tI s.Now)]),(tB false),(tB false)])=(T.tup [(T.agg (Qe true (Qr a s u))),(tB (decide (Yf a s u))),(tB (decide (Q5 a s u)))])
  (have hno:¬Q5 a s u:=(by rintro ⟨h1,h2,h3,h4⟩;contradiction);rw [Qfl hno,decide_eq_false hno,decide_eq_false (fun h:Yf a s u=>hno h.1)];rfl)
 refine Yl (tI s.Checks) (nz fhg25_2) rfl rfl rfl rfl J9 rfl rfl QU (gF (nz fhg25_2) rfl rfl (xge (tv (tI s.Checks) rfl) (VEv.int .i64 999)) (fO (OF.pickF (VEv.tmpB rfl (nz fhg25_2)) (tv (tB (decide (999≤s.Checks))) rfl)) (mO (tB (decide (999≤s.Checks))) rfl ?_)))
 refine gw (999≤s.Checks) (fun fhg30_3=> ?_) fun fhg30_3=> ?_
 ·refine Qy 7 18 false 30 (dy fhg30_3) rfl rfl rfl ?_
  refine fO (OF.pickT (VEv.tmpB rfl (dy fhg30_3)) (VEv.bool true)) (nt (ct rfl (sr (lO (OL.loadOn (us:= [(tS s.Fill),(tI s.Checks),(tI s.Spent),(T.os 1 3 0 ((s.Asked.map (Qa true)).length)),(tI s.Start),(tI s.Now)]) (tv (T.op 4 0) rfl) rfl Zy Q0 (lb rfl) rfl) (cO (B.storeO (us:= [(tS s.Fill),(tI s.Checks),(tI s.Spent),(T.os 1 3 0 ((s.Asked.map (Qa true)).length)),(tI s.Start),(tI s.Now)]) (ws:= [(tS s.Fill),(tI s.Checks),(tI s.Spent),(T.os 1 3 0 ((s.Asked.map (Qa true)).length)),(tI s.Start),(tI s.Now)]) (tv (T.op 2 0) rfl) (tv (T.agg [(tS s.Fill),(tI s.Checks),(tI s.Spent),(T.os 1 3 0 ((s.Asked.map (Qa true)).length)),(tI s.Start),(tI s.Now)]) rfl) nofun rfl rfl (lb rfl) Jt Q0 (bc rfl (bc rfl (bc rfl (bc rfl (bc rfl (bc rfl bn)))))) rfl) (fO (OF.assign (VEv.bool false)) (fO (OF.assign (VEv.bool false)) (nt (rt (tr ?_))))))))))
  refine vfin.eq (r':=(T.tup [(T.agg [(tS s.Fill),(tI s.Checks),(tI s.Spent),(T.sl true 1 (s.Asked.map (Qa true))),(tI s.Start),(tI s.Now)]),(tB false),(tB false)])) ?_ (vfin.r (VRes.celln (ws:= [(tS s.Fill),(tI s.Checks),(tI s.Spent),(T.os 1 3 0 ((s.Asked.map (Qa true)).length)),(tI s.Start),(tI s.Now)]) rfl rfl Zy Q0 (lb rfl) rfl (VRes.tmp (t:=(tB false)) rfl (VRes.tmp (t:=(tB false)) rfl VRes.nil))) (Give.tup (GiveL.cons (Give.agg (GiveL.cons (Give.str _) (GiveL.cons (Give.int _ _) (GiveL.cons (Give.int _ _) (GiveL.cons (Give.os rfl rfl (okInt.cleanMap _)) (GiveL.cons (Give.int _ _) (GiveL.cons (Give.int _ _) GiveL.nil (by decide)) (by decide)) (by decide)) (by decide)) (by decide)) (by decide))) (GiveL.cons (Give.bool _) (GiveL.cons (Give.bool _) GiveL.nil (by decide)) (by decide)) (by decide))))
  show (T.tup [(T.agg [(tS s.Fill),(tI s.Checks),(tI s.Spent),(T.sl true 1 (s.Asked.map (Qa true))),(tI s.Start),(tI s.Now)]),(tB false),(tB false)])=(T.tup [(T.agg (Qe true (Qr a s u))),(tB (decide (Yf a s u))),(tB (decide (Q5 a s u)))])
  (have hno:¬Q5 a s u:=(by rintro ⟨h1,h2,h3,h4⟩;contradiction);rw [Qfl hno,decide_eq_false hno,decide_eq_false (fun h:Yf a s u=>hno h.1)];rfl)
 refine gF (dz fhg30_3) rfl rfl (OF.fieldAddrO (tv (T.op 0 0) rfl) Y0) (gL (dz fhg30_3) rfl rfl (OL.loadOn (us:=(Qc false a.Grid)) (tv (T.op 0 0) rfl) rfl QX QT (lb rfl) rfl) (Yl (tS s.Fill) (dz fhg30_3) rfl rfl rfl rfl Ju rfl rfl Z7 (gF (dz fhg30_3) rfl rfl (OF.move (tv (tI u) rfl)) (VRunO.chain (VWant.on rfl rfl (dz fhg30_3)) (cS (vc (tv (T.agg (Qc false a.Grid)) rfl) (vc (tv (tS s.Fill) rfl) (vc (tv (tI u) rfl) vn))) (LendL.cons (lg Qs) (lp rfl (lp rfl ln))) (JS (n+6) a.Grid s.Fill u (by omega) (by omega)) rfl rfl) (VRunO.chain (VWant.on rfl rfl (dz fhg30_3)) (cS (vc (tv (tS (QG a.Grid s.Fill u)) rfl) vn) (ZJ rfl) (QeY (n+10) (QG a.Grid s.Fill u) (by omega)) rfl rfl) (fO (OF.pickF (VEv.tmpB rfl (dz fhg30_3)) (tv (tB (decide (QbP (QG a.Grid s.Fill u)))) rfl)) (nt ?_)))))))
 refine cd (QbP (QG a.Grid s.Fill u)) rfl (fun fhc0=> ?_) fun fhc0=> ?_
 ·refine sr ?_
  refine lO (OL.loadOn (us:= [(tS s.Fill),(tI s.Checks),(tI s.Spent),(T.os 1 3 0 ((s.Asked.map (Qa true)).length)),(tI s.Start),(tI s.Now)]) (tv (T.op 4 0) rfl) rfl Zy Q0 (lb rfl) rfl) (cO (B.storeO (us:= [(tS s.Fill),(tI s.Checks),(tI s.Spent),(T.os 1 3 0 ((s.Asked.map (Qa true)).length)),(tI s.Start),(tI s.Now)]) (ws:= [(tS s.Fill),(tI s.Checks),(tI s.Spent),(T.os 1 3 0 ((s.Asked.map (Qa true)).length)),(tI s.Start),(tI s.Now)]) (tv (T.op 2 0) rfl) (tv (T.agg [(tS s.Fill),(tI s.Checks),(tI s.Spent),(T.os 1 3 0 ((s.Asked.map (Qa true)).length)),(tI s.Start),(tI s.Now)]) rfl) nofun rfl rfl (lb rfl) Jt Q0 (bc rfl (bc rfl (bc rfl (bc rfl (bc rfl (bc rfl bn)))))) rfl) (fO (OF.assign (VEv.bool false)) (fO (OF.assign (VEv.bool false)) (nt (rt (tr ?_))))))
  refine vfin.eq (r':=(T.tup [(T.agg [(tS s.Fill),(tI s.Checks),(tI s.Spent),(T.sl true 1 (s.Asked.map (Qa true))),(tI s.Start),(tI s.Now)]),(tB false),(tB false)])) ?_ (vfin.r (VRes.celln (ws:= [(tS s.Fill),(tI s.Checks),(tI s.Spent),(T.os 1 3 0 ((s.Asked.map (Qa true)).length)),(tI s.Start),(tI s.Now)]) rfl rfl Zy Q0 (lb rfl) rfl (VRes.tmp (t:=(tB false)) rfl (VRes.tmp (t:=(tB false)) rfl VRes.nil))) (Give.tup (GiveL.cons (Give.agg (GiveL.cons (Give.str _) (GiveL.cons (Give.int _ _) (GiveL.cons (Give.int _ _) (GiveL.cons (Give.os rfl rfl (okInt.cleanMap _)) (GiveL.cons (Give.int _ _) (GiveL.cons (Give.int _ _) GiveL.nil (by decide)) (by decide)) (by decide)) (by decide)) (by decide)) (by decide))) (GiveL.cons (Give.bool _) (GiveL.cons (Give.bool _) GiveL.nil (by decide)) (by decide)) (by decide))))
  show (T.tup [(T.agg [(tS s.Fill),(tI s.Checks),(tI s.Spent),(T.sl true 1 (s.Asked.map (Qa true))),(tI s.Start),(tI s.Now)]),(tB false),(tB false)])=(T.tup [(T.agg (Qe true (Qr a s u))),(tB (decide (Yf a s u))),(tB (decide (Q5 a s u)))])
  (have hno:¬Q5 a s u:=(by rintro ⟨h1,h2,h3,h4⟩;contradiction);rw [Qfl hno,decide_eq_false hno,decide_eq_false (fun h:Yf a s u=>hno h.1)];rfl)
 refine sk (tn (sr (lf (tI s.Checks) rfl J9 rfl rfl QU (fO (B.add (n:=(s.Checks+1)) (tv (tI s.Checks) rfl) (VEv.int .i64 1) (by (rw [Qt (by omega)];done))) (fO (OF.fieldAddrO (tv (T.op 4 0) rfl) J9) (cO (B.storeO (us:= [(tI (s.Checks+1))]) (ws:= [(tS s.Fill),(tI (s.Checks+1)),(tI s.Spent),(T.os 1 3 0 ((s.Asked.map (Qa true)).length)),(tI s.Start),(tI s.Now)]) (tv (T.op 4 1) rfl) (tv (tI (s.Checks+1)) rfl) nofun rfl rfl (lb rfl) Yk Q8 (bc rfl bn) rfl) (nt (sq (VRun.draw (B:= [[],[],[1],[],[3],[],[5],[],[7],[7,8,5,6,3,4,1,2],[],[10,2,1,4,3,6,5,8,7,9],[9,7,8,5,6,3,4,1,2,10,11,0],[0,12,9,7,8,5,6,3,4,1,2,10,11],[11,10,2,1,4,3,6,5,8,7,9,12,0,13]]) (by kernel_rfl) (by kernel_rfl) (lD (OL.loadOn (us:= [(tS s.Fill),(tI (s.Checks+1)),(tI s.Spent),(T.os 1 3 0 ((s.Asked.map (Qa true)).length)),(tI s.Start),(tI s.Now)]) (tv (T.op 4 0) rfl) rfl Zy Q0 (lb rfl) rfl) rfl rfl (fD (OF.fieldAddrO (tv (T.op 0 0) rfl) Y0) rfl rfl ?_)))))))))))
 refine lD (OL.loadOn (us:=(Qc false a.Grid)) (tv (T.op 0 0) rfl) rfl QX QT (lb rfl) rfl) rfl rfl (fD (OF.fieldAddrO (tv (T.op 1 0) rfl) Ju) rfl rfl (lD (OL.loadO1 (t:=(tS s.Fill)) (tv (T.op 1 0) rfl) rfl rfl Z7) rfl rfl (fD (OF.fieldAddrO (tv (T.op 0 0) rfl) Qbj) rfl rfl (lD (OL.loadO1 (t:=(rd 1 Qa a.Seals)) (tv (T.op 0 4) rfl) rfl rfl YY) rfl rfl (fD (OF.fieldAddrO (tv (T.op 0 0) rfl) Qcq) rfl rfl (lD (OL.loadO1 (t:=(tI a.Salt)) (tv (T.op 0 5) rfl) rfl rfl QU) rfl rfl (VRunD.quiet (bi:= [7,8,5,6,3,4,1,2]) rfl VWant.always rfl rfl rfl bn (OC.callF (us:= [(T.agg (Qc false a.Grid)),(tS s.Fill),(rd 1 Qa a.Seals),(tI a.Salt)]) (r:=(T.sl true 1 ((Zh a.Grid s.Fill a.Seals a.Salt).map (Qa true)))) (r':=(T.os 1 5 0 (((Zh a.Grid s.Fill a.Seals a.Salt).map (Qa true)).length))) (objs:= [(Obj.rows 1 ((Zh a.Grid s.Fill a.Seals a.Salt).map (Qa true)))]) rfl (vc (tv (T.agg (Qc false a.Grid)) rfl) (vc (tv (tS s.Fill) rfl) (vc (tv (rd 1 Qa a.Seals) rfl) (vc (tv (tI a.Salt) rfl) vn)))) (LendL.cons (lg Qs) (lp rfl (lp rfl (lp rfl ln)))) (QcH (n+5) a.Grid s.Fill a.Seals a.Salt (by omega) (by omega) (by omega)) rfl) (mD (tI u) rfl rfl (VRunD.quiet (bi:= [10,2,1,4,3,6,5,8,7,9]) rfl VWant.always rfl rfl rfl bn (cS (us:= [(rd 1 Qa (Zh a.Grid s.Fill a.Seals a.Salt)),(tI u)]) (vc (tv (T.os 1 5 0 (((Zh a.Grid s.Fill a.Seals a.Salt).map (Qa true)).length)) rfl) (vc (tv (tI u) rfl) vn)) (LendL.cons (Lend.os rfl rfl (okInt.fzMap _ _)) (lp rfl ln)) (QcF (n+10) (Zh a.Grid s.Fill a.Seals a.Salt) u (by omega)) rfl rfl) (VRunD.chain (bi:= [9,7,8,5,6,3,4,1,2,10,11,0]) rfl VWant.always rfl rfl rfl (by kernel_rfl) (B.storeO (us:= [(tS s.Fill),(tI (s.Checks+1)),(tI s.Spent),(T.os 1 3 0 ((s.Asked.map (Qa true)).length)),(tI s.Start),(tI s.Now)]) (ws:= [(tS s.Fill),(tI (s.Checks+1)),(tI s.Spent),(T.os 1 3 0 ((s.Asked.map (Qa true)).length)),(tI s.Start),(tI s.Now)]) (tv (T.op 2 0) rfl) (tv (T.agg [(tS s.Fill),(tI (s.Checks+1)),(tI s.Spent),(T.os 1 3 0 ((s.Asked.map (Qa true)).length)),(tI s.Start),(tI s.Now)]) rfl) nofun rfl rfl (lb rfl) Jt Q0 (bc rfl (bc rfl (bc rfl (bc rfl (bc rfl (bc rfl bn)))))) rfl) (fD (OF.assign (tv (tB (decide (u∈(Zh a.Grid s.Fill a.Seals a.Salt)))) rfl)) rfl rfl ?_)))))))))))
 refine fD (OF.assign (VEv.bool true)) rfl rfl (VRunD.nil (tn (rt ?_)))
 refine vfin.eq (r':=(T.tup [(T.agg [(tS s.Fill),(tI (s.Checks+1)),(tI s.Spent),(T.sl true 1 (s.Asked.map (Qa true))),(tI s.Start),(tI s.Now)]),(tB (decide (u∈(Zh a.Grid s.Fill a.Seals a.Salt)))),(tB true)])) ?_ (vfin.r (VRes.celln (ws:= [(tS s.Fill),(tI (s.Checks+1)),(tI s.Spent),(T.os 1 3 0 ((s.Asked.map (Qa true)).length)),(tI s.Start),(tI s.Now)]) rfl rfl Zy Q0 (lb rfl) rfl (VRes.tmp (t:=(tB (decide (u∈(Zh a.Grid s.Fill a.Seals a.Salt))))) rfl (VRes.tmp (t:=(tB true)) rfl VRes.nil))) (Give.tup (GiveL.cons (Give.agg (GiveL.cons (Give.str _) (GiveL.cons (Give.int _ _) (GiveL.cons (Give.int _ _) (GiveL.cons (Give.os rfl rfl (okInt.cleanMap _)) (GiveL.cons (Give.int _ _) (GiveL.cons (Give.int _ _) GiveL.nil (by decide)) (by decide)) (by decide)) (by decide)) (by decide)) (by decide))) (GiveL.cons (Give.bool _) (GiveL.cons (Give.bool _) GiveL.nil (by decide)) (by decide)) (by decide))))
 show (T.tup [(T.agg [(tS s.Fill),(tI (s.Checks+1)),(tI s.Spent),(T.sl true 1 (s.Asked.map (Qa true))),(tI s.Start),(tI s.Now)]),(tB (decide (u∈(Zh a.Grid s.Fill a.Seals a.Salt)))),(tB true)])=(T.tup [(T.agg (Qe true (Qr a s u))),(tB (decide (Yf a s u))),(tB (decide (Q5 a s u)))])
 (have hok:Q5 a s u:=(by refine ⟨?_,?_,?_,?_⟩<;>assumption);rw [QiV hok,decide_eq_true hok,show decide (Yf a s u)=decide (u∈Zh a.Grid s.Fill a.Seals a.Salt) from Zb ⟨fun h=>h.2,fun h=>⟨hok,h⟩⟩];rfl)
theorem QaM (n:Nat) (a:D.Puzzle) (s:D.Session) (u:Int) (hz:QL a≤mx) (hs:QJ s≤mx):Pure (Qq Tryz.prog (n+44)) 44 [(T.agg (Qp false a)),(T.agg (Qe false s)),(tI u)] (T.tup [(T.agg (Qe true (Qr a s u))),(tB (decide (Yf a s u))),(tB (decide (Q5 a s u)))]):=by
 refine Pure.intro (rs:= [ResultVar.cell 6 56,ResultVar.tmp 7,ResultVar.tmp 8]) Tryz.func44 rfl rfl rfl (E0:= [(0,(T.agg (Qp false a))),(1,(T.agg (Qe false s))),(2,(tI u))]) rfl ?_
 obtain ⟨hlim,hmx,hmax⟩:=QC
 have hs2:=hs
 simp only [QJ] at hs2
 have hz2:=hz
 simp only [QL,ZE] at hz2
 have hl:=QV (z:=QQ) a.Clues
 have hl2:=QV (z:=zI) s.Asked
 have hl3:=QV (z:=zI) a.Seals
 have hsp:=JD a.Grid s.Fill u
 have hon:=Qgx (QG a.Grid s.Fill u) (QG a.Grid s.Fill u).size
 have hoi:=QlV (QG a.Grid s.Fill u)
 have hrl:=Qe2 a.Grid s.Fill a.Seals a.Salt
 refine sr (kO (B.box (ts:=(Qp false a)) (tv (T.agg (Qp false a)) rfl) nofun rfl) (kO (B.box (ts:=(Qe false s)) (tv (T.agg (Qe false s)) rfl) nofun rfl) (kO (B.alloc (t:=(T.agg [(tS ByteArray.empty),(tN 0),(tN 0),T.nils,(tN 0),(tN 0)])) (ts:= [(tS ByteArray.empty),(tN 0),(tN 0),T.nils,(tN 0),(tN 0)]) QbW Qb0 nofun (fun _=> .agg _ _ rfl (Yg (RL.cons (.str _) (RL.cons (.int _ _) (RL.cons (.int _ _) (RL.cons (.nils) (RL.cons (.int _ _) (RL.cons (.int _ _) (RL.nil _))))))))) rfl) (fO (OF.assign (VEv.bool false)) (fO (OF.assign (VEv.bool false)) (nt (sr (lO (OL.loadOn (us:=(Qe false s)) (tv (T.op 1 0) rfl) rfl Zy Q0 (lb rfl) rfl) (cO (OC.callF (us:= [(T.agg (Qe false s))]) (r:=(T.agg (Qe true s))) (r':=(T.agg [(tS s.Fill),(tI s.Checks),(tI s.Spent),(T.os 1 3 0 ((s.Asked.map (Qa true)).length)),(tI s.Start),(tI s.Now)])) (objs:= [(Obj.rows 1 (s.Asked.map (Qa true)))]) rfl (vc (tv (T.agg (Qe false s)) rfl) vn) (LendL.cons (lg Zu) ln) (Qcr (n+41) s (by assumption)) rfl) (kO (B.alloc (t:=(T.agg [(tS ByteArray.empty),(tN 0),(tN 0),T.nils,(tN 0),(tN 0)])) (ts:= [(tS ByteArray.empty),(tN 0),(tN 0),T.nils,(tN 0),(tN 0)]) QbW Qb0 nofun (fun _=> .agg _ _ rfl (Yg (RL.cons (.str _) (RL.cons (.int _ _) (RL.cons (.int _ _) (RL.cons (.nils) (RL.cons (.int _ _) (RL.cons (.int _ _) (RL.nil _))))))))) rfl) (cO (B.storeO (us:= [(tS s.Fill),(tI s.Checks),(tI s.Spent),(T.os 1 3 0 ((s.Asked.map (Qa true)).length)),(tI s.Start),(tI s.Now)]) (ws:= [(tS s.Fill),(tI s.Checks),(tI s.Spent),(T.os 1 3 0 ((s.Asked.map (Qa true)).length)),(tI s.Start),(tI s.Now)]) (tv (T.op 4 0) rfl) (tv (T.agg [(tS s.Fill),(tI s.Checks),(tI s.Spent),(T.os 1 3 0 ((s.Asked.map (Qa true)).length)),(tI s.Start),(tI s.Now)]) rfl) nofun rfl rfl (lb rfl) Jt Q0 (bc rfl (bc rfl (bc rfl (bc rfl (bc rfl (bc rfl bn)))))) rfl) ?_)))))))))))
 refine nt (sq (sr (lO (OL.loadOn (us:=(Qp false a)) (tv (T.op 0 0) rfl) rfl QeX QdR (lb rfl) rfl) (lO (OL.loadOn (us:=(Qe false s)) (tv (T.op 1 0) rfl) rfl Zy Q0 (lb rfl) rfl) (cO (cS (vc (tv (T.agg (Qp false a)) rfl) (vc (tv (T.agg (Qe false s)) rfl) vn)) (LendL.cons (lg Z4) (LendL.cons (lg Zu) ln)) (Qdv (n+0) a s (by assumption) (by assumption)) rfl rfl) (fO (QW (tv (tB (decide (QY a s))) rfl)) (mO (tB (!(decide (QY a s)))) rfl ?_)))))))
 refine VRunO.joinB 7 [17,18,19,20,21,22] 23 (tB (decide ((¬(QY a s))∨(¬(0≤u∧u<((a.Clues.length:Nat):Int)))))) ?_ ?_
 ·refine gn (QY a s) (fun fhg16_1=> ?_) fun fhg16_1=> ?_
  ·refine Qy 6 4 false 16 (ny fhg16_1) rfl rfl rfl ?_
   refine fO (OF.pickT (VEv.tmpB rfl (ny fhg16_1)) (VEv.bool true)) (VRunO.nil ?_)
   exact jq (congrArg T.bool (kOT fhg16_1)) (js rfl (js rfl (js rfl (js rfl (js rfl (js rfl (jn)))))))
  ·refine gF (nz fhg16_1) rfl rfl (OF.move (tv (tI u) rfl)) ?_
   refine Yl (rd 2 Qg a.Clues) (nz fhg16_1) rfl rfl rfl rfl Y2 rfl rfl Qdq (gL (nz fhg16_1) rfl rfl (B.lenR (m:=a.Clues.length) (tv (rd 2 Qg a.Clues) rfl) U35 (List.length_map ..)) (VRunO.chain (VWant.on rfl rfl (nz fhg16_1)) (cS (vc (tv (tI u) rfl) (vc (tv (tN a.Clues.length) rfl) vn)) (ZJ rfl) (YB (n+42) u ((a.Clues.length:Nat):Int)) rfl rfl) (gF (nz fhg16_1) rfl rfl (QW (tv (tB (decide (0≤u∧u<((a.Clues.length:Nat):Int)))) rfl)) (fO (OF.pickF (VEv.tmpB rfl (nz fhg16_1)) (tv (tB (!(decide (0≤u∧u<((a.Clues.length:Nat):Int))))) rfl)) (VRunO.nil ?_)))))
   exact jq (congrArg T.bool (kOF (not_not_intro fhg16_1) dN)) (js rfl (js rfl (js rfl (js rfl (js rfl (js rfl (jn)))))))
 refine mO (tB (decide ((¬(QY a s))∨(¬(0≤u∧u<((a.Clues.length:Nat):Int)))))) rfl ?_
 refine VRunO.joinB 9 [25,26,27,28,29,30,31,32] 33 (tB (decide (((¬(QY a s))∨(¬(0≤u∧u<((a.Clues.length:Nat):Int))))∨(0<YV (QG a.Grid s.Fill u) (QG a.Grid s.Fill u).size)))) ?_ ?_
 ·refine gw ((¬(QY a s))∨(¬(0≤u∧u<((a.Clues.length:Nat):Int)))) (fun fhg24_2=> ?_) fun fhg24_2=> ?_
  ·refine Qy 8 12 false 24 (dy fhg24_2) rfl rfl rfl ?_
   refine fO (OF.pickT (VEv.tmpB rfl (dy fhg24_2)) (VEv.bool true)) (VRunO.nil ?_)
   exact jq (congrArg T.bool (kOT fhg24_2)) (js rfl (js rfl (js rfl (js rfl (js rfl (js rfl (js rfl (js rfl (jn)))))))))
  ·refine gF (dz fhg24_2) rfl rfl (OF.fieldAddrO (tv (T.op 0 0) rfl) Y0) ?_
   refine gL (dz fhg24_2) rfl rfl (OL.loadOn (us:=(Qc false a.Grid)) (tv (T.op 0 0) rfl) rfl QX QT (lb rfl) rfl) (Yl (tS s.Fill) (dz fhg24_2) rfl rfl rfl rfl Ju rfl rfl Z7 (gF (dz fhg24_2) rfl rfl (OF.move (tv (tI u) rfl)) (VRunO.chain (VWant.on rfl rfl (dz fhg24_2)) (cS (vc (tv (T.agg (Qc false a.Grid)) rfl) (vc (tv (tS s.Fill) rfl) (vc (tv (tI u) rfl) vn))) (LendL.cons (lg Qs) (lp rfl (lp rfl ln))) (Qco (n+37) a.Grid s.Fill u (by omega) (by omega)) rfl rfl) (VRunO.chain (VWant.on rfl rfl (dz fhg24_2)) (cS (vc (tv (tS (QG a.Grid s.Fill u)) rfl) vn) (ZJ rfl) (Qfx (n+42) (QG a.Grid s.Fill u) (by omega)) rfl rfl) (gF (dz fhg24_2) rfl rfl (B.gtr (c:=(decide (0<YV (QG a.Grid s.Fill u) (QG a.Grid s.Fill u).size))) (tv (tN (YV (QG a.Grid s.Fill u) (QG a.Grid s.Fill u).size)) rfl) (VEv.int .i64 0) (Zb (by omega))) (fO (OF.pickF (VEv.tmpB rfl (dz fhg24_2)) (tv (tB (decide (0<YV (QG a.Grid s.Fill u) (QG a.Grid s.Fill u).size))) rfl)) (VRunO.nil ?_)))))))
   exact jq (congrArg T.bool (kOF fhg24_2 rfl)) (js rfl (js rfl (js rfl (js rfl (js rfl (js rfl (js rfl (js rfl (jn)))))))))
 refine mO (tB (decide (((¬(QY a s))∨(¬(0≤u∧u<((a.Clues.length:Nat):Int))))∨(0<YV (QG a.Grid s.Fill u) (QG a.Grid s.Fill u).size)))) rfl ?_
 refine VRunO.joinB 4 [35,36,37] 38 (tB (decide ((((¬(QY a s))∨(¬(0≤u∧u<((a.Clues.length:Nat):Int))))∨(0<YV (QG a.Grid s.Fill u) (QG a.Grid s.Fill u).size))∨(s.Checks=999)))) ?_ ?_
 ·refine gw (((¬(QY a s))∨(¬(0≤u∧u<((a.Clues.length:Nat):Int))))∨(0<YV (QG a.Grid s.Fill u) (QG a.Grid s.Fill u).size)) (fun fhg34_3=> ?_) fun fhg34_3=> ?_
  ·refine Qy 3 22 false 34 (dy fhg34_3) rfl rfl rfl ?_
   refine fO (OF.pickT (VEv.tmpB rfl (dy fhg34_3)) (VEv.bool true)) (VRunO.nil ?_)
   exact jq (congrArg T.bool (kOT fhg34_3)) (js rfl (js rfl (js rfl (jn))))
  ·refine Yl (tI s.Checks) (dz fhg34_3) rfl rfl rfl rfl J9 rfl rfl QU ?_
   refine gF (dz fhg34_3) rfl rfl (Y7 (tv (tI s.Checks) rfl) (VEv.int .i64 999)) (fO (OF.pickF (VEv.tmpB rfl (dz fhg34_3)) (tv (tB (decide (s.Checks=999))) rfl)) (VRunO.nil ?_))
   exact jq (congrArg T.bool (kOF fhg34_3 rfl)) (js rfl (js rfl (js rfl (jn))))
 refine nt ?_
 refine cd ((((¬(QY a s))∨(¬(0≤u∧u<((a.Clues.length:Nat):Int))))∨(0<YV (QG a.Grid s.Fill u) (QG a.Grid s.Fill u).size))∨(s.Checks=999)) rfl (fun fhc0=> ?_) fun fhc0=> ?_
 ·refine sr ?_
  refine lO (OL.loadOn (us:= [(tS s.Fill),(tI s.Checks),(tI s.Spent),(T.os 1 3 0 ((s.Asked.map (Qa true)).length)),(tI s.Start),(tI s.Now)]) (tv (T.op 4 0) rfl) rfl Zy Q0 (lb rfl) rfl) (cO (B.storeO (us:= [(tS s.Fill),(tI s.Checks),(tI s.Spent),(T.os 1 3 0 ((s.Asked.map (Qa true)).length)),(tI s.Start),(tI s.Now)]) (ws:= [(tS s.Fill),(tI s.Checks),(tI s.Spent),(T.os 1 3 0 ((s.Asked.map (Qa true)).length)),(tI s.Start),(tI s.Now)]) (tv (T.op 2 0) rfl) (tv (T.agg [(tS s.Fill),(tI s.Checks),(tI s.Spent),(T.os 1 3 0 ((s.Asked.map (Qa true)).length)),(tI s.Start),(tI s.Now)]) rfl) nofun rfl rfl (lb rfl) Jt Q0 (bc rfl (bc rfl (bc rfl (bc rfl (bc rfl (bc rfl bn)))))) rfl) (fO (OF.assign (VEv.bool false)) (fO (OF.assign (VEv.bool false)) (nt (rt (tr ?_))))))
  refine vfin.eq (r':=(T.tup [(T.agg [(tS s.Fill),(tI s.Checks),(tI s.Spent),(T.sl true 1 (s.Asked.map (Qa true))),(tI s.Start),(tI s.Now)]),(tB false),(tB false)])) ?_ (vfin.r (VRes.celln (ws:= [(tS s.Fill),(tI s.Checks),(tI s.Spent),(T.os 1 3 0 ((s.Asked.map (Qa true)).length)),(tI s.Start),(tI s.Now)]) rfl rfl Zy Q0 (lb rfl) rfl (VRes.tmp (t:=(tB false)) rfl (VRes.tmp (t:=(tB false)) rfl VRes.nil))) (Give.tup (GiveL.cons (Give.agg (GiveL.cons (Give.str _) (GiveL.cons (Give.int _ _) (GiveL.cons (Give.int _ _) (GiveL.cons (Give.os rfl rfl (okInt.cleanMap _)) (GiveL.cons (Give.int _ _) (GiveL.cons (Give.int _ _) GiveL.nil (by decide)) (by decide)) (by decide)) (by decide)) (by decide)) (by decide))) (GiveL.cons (Give.bool _) (GiveL.cons (Give.bool _) GiveL.nil (by decide)) (by decide)) (by decide))))
  show (T.tup [(T.agg [(tS s.Fill),(tI s.Checks),(tI s.Spent),(T.sl true 1 (s.Asked.map (Qa true))),(tI s.Start),(tI s.Now)]),(tB false),(tB false)])=(T.tup [(T.agg (Qe true (Qr a s u))),(tB (decide (Yf a s u))),(tB (decide (Q5 a s u)))])
  (have hno:¬Q5 a s u:=(by rintro ⟨h1,h2,h3,h4⟩;have:=hoi.2 h4;rcases fhc0 with ((h | h) | h) | h<;>first | contradiction | omega);rw [Qfl hno,decide_eq_false hno,decide_eq_false (fun h:Yf a s u=>hno h.1)];rfl)
 have hok:Q5 a s u:=(by simp only [not_or,Classical.not_not] at fhc0;have:=fhc0.1.1.1.2.2.1;refine ⟨fhc0.1.1.1,?_,?_,hoi.1 ?_⟩<;>omega)
 have hck:=hok.1.2.2.1
 refine sk (tn (sr (lf (tI s.Checks) rfl J9 rfl rfl QU (fO (B.add (n:=(s.Checks+1)) (tv (tI s.Checks) rfl) (VEv.int .i64 1) (by (rw [Qt (by omega)];done))) (fO (OF.fieldAddrO (tv (T.op 4 0) rfl) J9) (cO (B.storeO (us:= [(tI (s.Checks+1))]) (ws:= [(tS s.Fill),(tI (s.Checks+1)),(tI s.Spent),(T.os 1 3 0 ((s.Asked.map (Qa true)).length)),(tI s.Start),(tI s.Now)]) (tv (T.op 4 1) rfl) (tv (tI (s.Checks+1)) rfl) nofun rfl rfl (lb rfl) Yk Q8 (bc rfl bn) rfl) (nt (sq (VRun.draw (B:= [[],[],[1],[],[3],[],[5],[],[7],[7,8,5,6,3,4,1,2],[],[10,2,1,4,3,6,5,8,7,9],[9,7,8,5,6,3,4,1,2,10,11,0],[0,12,9,7,8,5,6,3,4,1,2,10,11],[11,10,2,1,4,3,6,5,8,7,9,12,0,13]]) (by kernel_rfl) (by kernel_rfl) (lD (OL.loadOn (us:= [(tS s.Fill),(tI (s.Checks+1)),(tI s.Spent),(T.os 1 3 0 ((s.Asked.map (Qa true)).length)),(tI s.Start),(tI s.Now)]) (tv (T.op 4 0) rfl) rfl Zy Q0 (lb rfl) rfl) rfl rfl (fD (OF.fieldAddrO (tv (T.op 0 0) rfl) Y0) rfl rfl ?_)))))))))))
 refine lD (OL.loadOn (us:=(Qc false a.Grid)) (tv (T.op 0 0) rfl) rfl QX QT (lb rfl) rfl) rfl rfl (fD (OF.fieldAddrO (tv (T.op 1 0) rfl) Ju) rfl rfl (lD (OL.loadO1 (t:=(tS s.Fill)) (tv (T.op 1 0) rfl) rfl rfl Z7) rfl rfl (fD (OF.fieldAddrO (tv (T.op 0 0) rfl) Qbj) rfl rfl (lD (OL.loadO1 (t:=(rd 1 Qa a.Seals)) (tv (T.op 0 4) rfl) rfl rfl YY) rfl rfl (fD (OF.fieldAddrO (tv (T.op 0 0) rfl) Qcq) rfl rfl (lD (OL.loadO1 (t:=(tI a.Salt)) (tv (T.op 0 5) rfl) rfl rfl QU) rfl rfl (VRunD.quiet (bi:= [7,8,5,6,3,4,1,2]) rfl VWant.always rfl rfl rfl bn (OC.callF (us:= [(T.agg (Qc false a.Grid)),(tS s.Fill),(rd 1 Qa a.Seals),(tI a.Salt)]) (r:=(T.sl true 1 ((Zh a.Grid s.Fill a.Seals a.Salt).map (Qa true)))) (r':=(T.os 1 5 0 (((Zh a.Grid s.Fill a.Seals a.Salt).map (Qa true)).length))) (objs:= [(Obj.rows 1 ((Zh a.Grid s.Fill a.Seals a.Salt).map (Qa true)))]) rfl (vc (tv (T.agg (Qc false a.Grid)) rfl) (vc (tv (tS s.Fill) rfl) (vc (tv (rd 1 Qa a.Seals) rfl) (vc (tv (tI a.Salt) rfl) vn)))) (LendL.cons (lg Qs) (lp rfl (lp rfl (lp rfl ln)))) (QcL (n+37) a.Grid s.Fill a.Seals a.Salt (by omega) (by omega) (by omega)) rfl) (mD (tI u) rfl rfl (VRunD.quiet (bi:= [10,2,1,4,3,6,5,8,7,9]) rfl VWant.always rfl rfl rfl bn (cS (us:= [(rd 1 Qa (Zh a.Grid s.Fill a.Seals a.Salt)),(tI u)]) (vc (tv (T.os 1 5 0 (((Zh a.Grid s.Fill a.Seals a.Salt).map (Qa true)).length)) rfl) (vc (tv (tI u) rfl) vn)) (LendL.cons (Lend.os rfl rfl (okInt.fzMap _ _)) (lp rfl ln)) (Yw (n+41) (Zh a.Grid s.Fill a.Seals a.Salt) u (by omega)) rfl rfl) (VRunD.chain (bi:= [9,7,8,5,6,3,4,1,2,10,11,0]) rfl VWant.always rfl rfl rfl (by kernel_rfl) (B.storeO (us:= [(tS s.Fill),(tI (s.Checks+1)),(tI s.Spent),(T.os 1 3 0 ((s.Asked.map (Qa true)).length)),(tI s.Start),(tI s.Now)]) (ws:= [(tS s.Fill),(tI (s.Checks+1)),(tI s.Spent),(T.os 1 3 0 ((s.Asked.map (Qa true)).length)),(tI s.Start),(tI s.Now)]) (tv (T.op 2 0) rfl) (tv (T.agg [(tS s.Fill),(tI (s.Checks+1)),(tI s.Spent),(T.os 1 3 0 ((s.Asked.map (Qa true)).length)),(tI s.Start),(tI s.Now)]) rfl) nofun rfl rfl (lb rfl) Jt Q0 (bc rfl (bc rfl (bc rfl (bc rfl (bc rfl (bc rfl bn)))))) rfl) (fD (OF.assign (tv (tB (decide (u∈(Zh a.Grid s.Fill a.Seals a.Salt)))) rfl)) rfl rfl ?_)))))))))))
 refine fD (OF.assign (VEv.bool true)) rfl rfl (VRunD.nil (tn (rt ?_)))
 refine vfin.eq (r':=(T.tup [(T.agg [(tS s.Fill),(tI (s.Checks+1)),(tI s.Spent),(T.sl true 1 (s.Asked.map (Qa true))),(tI s.Start),(tI s.Now)]),(tB (decide (u∈(Zh a.Grid s.Fill a.Seals a.Salt)))),(tB true)])) ?_ (vfin.r (VRes.celln (ws:= [(tS s.Fill),(tI (s.Checks+1)),(tI s.Spent),(T.os 1 3 0 ((s.Asked.map (Qa true)).length)),(tI s.Start),(tI s.Now)]) rfl rfl Zy Q0 (lb rfl) rfl (VRes.tmp (t:=(tB (decide (u∈(Zh a.Grid s.Fill a.Seals a.Salt))))) rfl (VRes.tmp (t:=(tB true)) rfl VRes.nil))) (Give.tup (GiveL.cons (Give.agg (GiveL.cons (Give.str _) (GiveL.cons (Give.int _ _) (GiveL.cons (Give.int _ _) (GiveL.cons (Give.os rfl rfl (okInt.cleanMap _)) (GiveL.cons (Give.int _ _) (GiveL.cons (Give.int _ _) GiveL.nil (by decide)) (by decide)) (by decide)) (by decide)) (by decide)) (by decide))) (GiveL.cons (Give.bool _) (GiveL.cons (Give.bool _) GiveL.nil (by decide)) (by decide)) (by decide))))
 show (T.tup [(T.agg [(tS s.Fill),(tI (s.Checks+1)),(tI s.Spent),(T.sl true 1 (s.Asked.map (Qa true))),(tI s.Start),(tI s.Now)]),(tB (decide (u∈(Zh a.Grid s.Fill a.Seals a.Salt)))),(tB true)])=(T.tup [(T.agg (Qe true (Qr a s u))),(tB (decide (Yf a s u))),(tB (decide (Q5 a s u)))])
 (rw [QiV hok,decide_eq_true hok,show decide (Yf a s u)=decide (u∈Zh a.Grid s.Fill a.Seals a.Salt) from Zb ⟨fun h=>h.2,fun h=>⟨hok,h⟩⟩];rfl)
end Go.Proofs.YtcccmceoplcciaaGreat.AE
