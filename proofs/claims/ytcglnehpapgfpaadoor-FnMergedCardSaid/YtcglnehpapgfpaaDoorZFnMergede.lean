/- A part of what the row of FnMerged uses. Conditions: as each theorem states. -/
import Derived.Test.YtcglnehpapgfpaaDoorZFnMergedd
import Derived.Shelf.Spec.SlicesInsertGrow
import Derived.Test.YtcglnehpapgfpaaDoorProg
import Derived.Shelf.LaysM
import Derived.Shelf.Strings.Replace
namespace Go.Proofs.YtcglnehpapgfpaaDoor.AE
open Go Go.RowKit
set_option linter.unusedVariables false
set_option linter.unusedSimpArgs false
set_option maxRecDepth 20000
set_option maxHeartbeats 2000000
theorem ZR (n:Nat) (a:List D.Note) (b:List D.Note) (hla:a.length≤mx) (hlb:b.length≤mx):Pure (QA Tryd.prog (n+1)) 51 [(rd 4 Qa a),(rd 4 Qa b)] (tB (decide (a=b))):=by
 refine Pure.intro (rs:= [ResultVar.tmp 4]) Tryd.func51 Y Y Y (E0:= [(0,(rd 4 Qa a)),(1,(rd 4 Qa b))]) Y ?_
 obtain ⟨hlim,hmx,hmax⟩:=Zk
 refine sr (fO (OF.assign (VEv.bool false)) (nt (sq (sr (mO (rd 4 Qa a) Y (lO (B.lenR (m:=a.length) (tv (rd 4 Qa a) Y) QJ (List.length_map ..)) (mO (rd 4 Qa b) Y (lO (B.lenR (m:=b.length) (tv (rd 4 Qa b) Y) QJ (List.length_map ..)) (fO (Qhl (tv (tN a.length) Y) (tv (tN b.length) Y)) (nt ?_))))))))))
 refine cn (a.length=b.length) Y (fun fhc0=> ?_) fun fhc0=> ?_
 ·refine sr ?_
  refine fO (OF.assign (VEv.bool false)) (nt (rt (tr (vb (b':=false) Y ?_))))
  symm;rw [decide_eq_false_iff_not];rintro rfl;exact fhc0 Y
 refine sk (tn (sq (sr (mO (rd 4 Qa a) Y (lO (B.lenR (m:=a.length) (tv (rd 4 Qa a) Y) QJ (List.length_map ..)) (fO (OF.move (VEv.int .i64 0)) (nt (VRun.block ?_))))))))
 refine VRun.loop (A:=Nat) (fun s_=> [(0,(rd 4 Qa a)),(1,(rd 4 Qa b)),(12,(tN a.length)),(13,(tN s_))]) (fun s_=>Jw []) 0 (fun s_=>s_≤a.length∧∀j,j<s_→a[j]? =b[j]?) (fun s_=>a.length - s_) (0:Nat) ?_ (Wk.mk (fun k=>k) ?_ ?_ ?_) ?_
 ·first | trivial | (simp;done) | omega | (constructor<;>simp)
 ·exact (b2 (b2 (b2 (b2 bn))))
 ·exact bn
 ·exact nd Y
 rintro i (hI':i≤a.length∧∀j,j<i→a[j]? =b[j]?)
 show VRun _ _ _ [(0,(rd 4 Qa a)),(1,(rd 4 Qa b)),(12,(tN a.length)),(13,(tN i))] (Jw []) 0 _
 refine sr (fO (Jx (tv (tN i) Y) (tv (tN a.length) Y)) (nt (sq ?_)))
 refine cd (i<a.length) Y (fun fhc1=> ?_) fun fhc1=> ?_
 ·refine sk ?_
  refine tn (sq (VRun.block (sr (mO (tN i) Y (aO (tN i) Y (nt (sq (VRun.draw (B:= [[],[],[1,0],[0,1,2],[],[],[5,4],[4,5,6],[6,5,4,7,2,1,0,3]]) (by kernel_rfl) (by kernel_rfl) Y (mD (rd 4 Qa a) Y Y (mD (tN i) Y Y ?_))))))))))
  obtain ⟨x1,hx1⟩:∃x,a[i]? =some x:=⟨_,List.getElem?_eq_getElem (by omega)⟩
  refine fD (OF.indexAddrR (row:=(Qa false x1)) (i:=i) (tv (rd 4 Qa a) Y) (tv (tN i) Y) Y (QR _ hx1) QJ Qh Q7) Y Y (lD (OL.loadRn (us:=(Qa false x1)) (tv (T.rp (Qa false x1)) Y) Q6 Qh (lb Y) Y) Y Y (mD (rd 4 Qa b) Y Y (mD (tN i) Y Y ?_)))
  obtain ⟨x2,hx2⟩:∃x,b[i]? =some x:=⟨_,List.getElem?_eq_getElem (by omega)⟩
  refine fD (OF.indexAddrR (row:=(Qa false x2)) (i:=i) (tv (rd 4 Qa b) Y) (tv (tN i) Y) Y (QR _ hx2) QJ Qh Q7) Y Y (lD (OL.loadRn (us:=(Qa false x2)) (tv (T.rp (Qa false x2)) Y) Q6 Qh (lb Y) Y) Y Y (fD (B.neq49 (a:=x1) (b:=x2) (m:=false) (m':=false) (tv (T.agg (Qa false x1)) Y) (tv (T.agg (Qa false x2)) Y)) Y Y (VRunD.nil (tn ?_))))
  refine cn (x1=x2) Y (fun fhc2=> ?_) fun fhc2=> ?_
  ·refine sr ?_
   refine fO (OF.assign (VEv.bool false)) (nt (rt (vinB.r (tr (tr (vinB.r (tr (vb (b':=false) Y ?_))))))))
   symm;rw [decide_eq_false_iff_not];exact QeR hx1 hx2 fhc2
  refine sk (vinB.n (tn (VRun.region (fO (ZB (tv (tN i) Y) (VEv.int .i64 1) (by omega)) (mO (tN (i+1)) Y (VRunO.nil (tn ?_)))))))
  refine ⟨(i+1:Nat),?_,?_,Wk.mk (fun k=>k) ?_ ?_ ?_⟩
  ·exact QdZ hI' hx1 hx2 fhc2
  ·first | omega | (simp only [];omega) | (show _<_;omega) | (simp;omega)
  ·exact (b2 (b2 (b2 (b2 bn))))
  ·exact bn
  ·exact nd Y
 refine VRun.exit (vthn.e (vthn.e (vinB.e (tn (sr (fO (OF.assign (VEv.bool true)) (nt (rt (vb (b':=true) Y ?_)))))))))
 symm;rw [decide_eq_true_eq];exact QeA hI' fhc0 fhc1
theorem Z5 (n:Nat) (a:List D.Note) (b:List D.Note) (ha:a.length≤mx) (hb:b.length≤mx):Pure (QA Tryd.prog (n+2)) 21 [(rd 4 Qa a),(rd 4 Qa b)] (tB (decide (a=b))):=by
 refine Pure.intro (rs:= [ResultVar.tmp 4]) Tryd.func21 Y Y Y (E0:= [(0,(rd 4 Qa a)),(1,(rd 4 Qa b))]) Y ?_
 obtain ⟨hlim,hmx,hmax⟩:=Zk
 refine sr (fO (OF.assign (VEv.bool false)) (nt (sr (mO (rd 4 Qa a) Y (mO (rd 4 Qa b) Y (cO (cS (vc (tv (rd 4 Qa a) Y) (vc (tv (rd 4 Qa b) Y) vn)) (ZO Y) (ZR (n+0) a b (by first | assumption | omega) (by first | assumption | omega)) Y Y) (aO (tB (decide (a=b))) Y (nt (rt ?_)))))))))
 exact vb Y Y
def gN (k:Nat) (l:List D.Note):Prop:=l.length≤k∧∀y∈l,y.Letter.size≤2
theorem Qed {k m:Nat} {l:List D.Note} (h:gN k l) (hm:k≤m):gN m l:=⟨Nat.le_trans h.1 hm,h.2⟩
theorem Qfl {k:Nat} {l:List D.Note} (h:gN k l):zL Qo l≤3*k:=by
 have h1:∀l:List D.Note,(∀x∈l,Qo x≤2)→YT Qo l≤2*l.length:=fun l=>by
  induction l with
  | nil=>exact fun _=>Nat.le_refl _
  | cons x r ih =>
   intro hl
   have h2:=ih (fun y hy=>hl y (List.mem_cons_of_mem _ hy))
   have h3:=hl x List.mem_cons_self
   simp only [YT,List.length_cons];omega
 have h2:=h1 l (fun x hx=>by simp only [Qo];exact h.2 x hx)
 have h3:=h.1
 simp only [zL];omega
theorem QdK {k j:Nat} {l:List D.Note} {x:D.Note} (h:gN k l) (hx:x.Letter.size≤2) (hj:j≤l.length):∀i,i=j∨i=j+1→gN (k+1) (l.take j++x::l.drop i):=fun i hi=>by
 refine ⟨?_,fun y hy=> ?_⟩
 ·have:=h.1
  rw [List.length_append,List.length_cons,List.length_take,List.length_drop];omega
 ·rcases List.mem_append.1 hy with hy | hy
  ·exact h.2 y (List.mem_of_mem_take hy)
  ·rcases List.mem_cons.1 hy with rfl | hy
   ·exact hx
   ·exact h.2 y (List.mem_of_mem_drop hy)
theorem QcP (l:List D.Note) (x:D.Note):JO l x≤l.length:=by
 have h0:=congrArg List.length (List.takeWhile_append_dropWhile (p:=fun y=>decide (y.Cell<x.Cell)) (l:=l))
 rw [List.length_append] at h0
 unfold JO;omega
theorem Qfk {k:Nat} {l:List D.Note} {x:D.Note} (h:gN k l) (hx:x.Letter.size≤2):gN (k+1) (QP l x):=by
 have hp:gN (k+1) (YS l x):=by
  unfold YS
  split
  ·split
   ·split
    ·exact QdK h hx (QcP l x) _ (.inr Y)
    ·exact Qed h (by omega)
   ·exact QdK h hx (QcP l x) _ (.inl Y)
  ·exact QdK h hx (QcP l x) _ (.inl Y)
 unfold QP
 split
 ·exact hp
 ·exact Qed h (by omega)
theorem Yp {k i:Nat} {l:List D.Note} {x:D.Note} (h:gN k l) (hx:x.Letter.size≤2):gN k (l.set i x):=by
 refine ⟨by rw [List.length_set];exact h.1,fun y hy=> ?_⟩
 rcases List.mem_or_eq_of_mem_set hy with hy | rfl
 ·exact h.2 y hy
 ·exact hx
theorem Qat (n:Nat) (code:List Int) (hcl:code.length≤mx):CurE (QA Tryd.prog (n+4)) 61 (rd 1 Qj code) code.length [] (fun x:Int=>True) (fun x:Int=>(tI x)):=by
 refine CurE.intro (rs:= [ResultVar.tmp 2]) Tryd.func61 Y Y Y (by kernel_rfl) (fun pb nb mb ci ch hci=> ?_)
 obtain ⟨hlim,hmx,hmax⟩:=Zk
 show VRun _ _ _ [(0,(T.op 0 0))] [(0,some (Obj.cells [(T.ex pb nb mb (rd 1 Qj code)),(tN ci),(tI ch)]))] 1 _
 refine sr (fO (OF.assign (VEv.int .i64 0)) (nt (sr (mO (T.op 0 0) Y (kO (OM.buildSlice (l:= [(tI (-1)),(tN 0),(tN 99),(tN 100),(tN 1000),(tN 1001),(tN 9223372036854775807),(tI (-9223372036854775808))]) (VEvp.cons (VEv.int .i64 (-1)) (VEvp.cons (VEv.int .i64 0) (VEvp.cons (VEv.int .i64 99) (VEvp.cons (VEv.int .i64 100) (VEvp.cons (VEv.int .i64 1000) (VEvp.cons (VEv.int .i64 1001) (VEvp.cons (VEv.int .i64 9223372036854775807) (VEvp.cons (VEv.int .i64 (-9223372036854775808)) VEvp.nil)))))))) Y (by decide) (bc (nofun) (bc (nofun) (bc (nofun) (bc (nofun) (bc (nofun) (bc (nofun) (bc (nofun) (bc (nofun) bn)))))))) (bc ((bc (Y) bn)) (bc ((bc (Y) bn)) (bc ((bc (Y) bn)) (bc ((bc (Y) bn)) (bc ((bc (Y) bn)) (bc ((bc (Y) bn)) (bc ((bc (Y) bn)) (bc ((bc (Y) bn)) bn)))))))) (bc (Y) (bc (Y) (bc (Y) (bc (Y) (bc (Y) (bc (Y) (bc (Y) (bc (Y) bn)))))))) U68 zo3 (by kernel_rfl) Y (by rw [sz3];decide) sz3 (Nat.le_of_ble_eq_true Y)) ?_)))))
 refine eC (us:= [(T.sl false 1 [[(tI (-1))],[(tN 0)],[(tN 99)],[(tN 100)],[(tN 1000)],[(tN 1001)],[(tN 9223372036854775807)],[(tI (-9223372036854775808))]])]) (r':=fun x_:Int=>(tI x_)) (objs:=fun x_:Int=> []) (m:=0) (k:=0) ci ch VWant.always (vc (tv (T.op 0 0) Y) (vc (tv (T.os 1 1 0 8) Y) vn)) Y (by omega) (LendL.cons (Lend.os Y Y Y) ln) (Yy (n+0) code [(-1),0,99,100,1000,1001,9223372036854775807,(-9223372036854775808)] (by first | assumption | omega | (simp only [List.length_cons,List.length_nil];omega)) (by first | assumption | omega | (simp only [List.length_cons,List.length_nil];omega)) (by first | assumption | omega | (simp only [List.length_cons,List.length_nil];omega))) Y (fun _=>rfl) (fun _=>rfl) fun e5 i5 h5 hs5 hi5=> ?_
 have hs5:e5∈ [(-1),0,99,100,1000,1001,9223372036854775807,(-9223372036854775808)]:=hs5
 refine aO (tI e5) Y (nt (rt ?_))
 refine vcur.r e5 0 i5 h5 ?_ (VRes.tmp (t:=(tI e5)) Y VRes.nil) (Give.int _ _) Y Y (by omega) (by decide)
 show True
 trivial
theorem YL (n:Nat) (code:List Int) (hcl:code.length≤mx):CurE (QA Tryd.prog (n+4)) 57 (rd 1 Qj code) code.length [] (fun x:D.Note=>x.Letter.size≤2) (fun x:D.Note=>(T.agg (Qa true x))):=by
 refine CurE.intro (rs:= [ResultVar.cell 2 49]) Tryd.func57 Y Y Y (by kernel_rfl) (fun pb nb mb ci ch hci=> ?_)
 obtain ⟨hlim,hmx,hmax⟩:=Zk
 show VRun _ _ _ [(0,(T.op 0 0))] [(0,some (Obj.cells [(T.ex pb nb mb (rd 1 Qj code)),(tN ci),(tI ch)]))] 1 _
 refine sr (kO (B.alloc (t:=(T.agg [(tN 0),(tS ByteArray.empty),(tN 0),(tN 0)])) (ts:= [(tN 0),(tS ByteArray.empty),(tN 0),(tN 0)]) QL Qbm nofun (fun _=> .agg _ _ Y (Z8 (RL.cons (.int _ _) (RL.cons (.str _) (RL.cons (.int _ _) (RL.cons (.int _ _) (RL.nil _))))))) Y) (nt (sr (mO (T.op 0 0) Y ?_))))
 refine eC (us:= [(tN 9)]) (r':=fun x_:Int=>(tI x_)) (objs:=fun x_:Int=> []) (m:=0) (k:=0) ci ch VWant.always (vc (tv (T.op 0 0) Y) (vc (VEv.int .i64 9) vn)) Y (by omega) (ZO Y) (QU (n+1) code (9:Int) (by first | (have h2:=hs11.2 (by decide);omega) | assumption | omega | (simp only [List.length_cons,List.length_nil];omega))) Y (fun _=>rfl) (fun _=>rfl) fun e4 i4 h4 hs4 hi4=> ?_
 have hs4:((9:Int)≤0→e4=0)∧(0<(9:Int)→0≤e4∧e4<(9:Int)):=hs4
 refine mO (T.op 0 0) Y (kO (OM.buildSlice (l:= [(tS (⟨#[97]⟩:ByteArray)),(tS (⟨#[116]⟩:ByteArray)),(tS (⟨#[101]⟩:ByteArray)),(tS (⟨#[63]⟩:ByteArray))]) (VEvp.cons (VEv.str (⟨#[97]⟩:ByteArray)) (VEvp.cons (VEv.str (⟨#[116]⟩:ByteArray)) (VEvp.cons (VEv.str (⟨#[101]⟩:ByteArray)) (VEvp.cons (VEv.str (⟨#[63]⟩:ByteArray)) VEvp.nil)))) Y (by decide) (bc (nofun) (bc (nofun) (bc (nofun) (bc (nofun) bn)))) (bc ((bc (Y) bn)) (bc ((bc (Y) bn)) (bc ((bc (Y) bn)) (bc ((bc (Y) bn)) bn)))) (bc (Y) (bc (Y) (bc (Y) (bc (Y) bn)))) U34 zo9 (by kernel_rfl) Y (by rw [sz9];decide) sz9 (Nat.le_of_ble_eq_true Y)) ?_)
 refine eC (us:= [(T.sl false 1 [[(tS (⟨#[97]⟩:ByteArray))],[(tS (⟨#[116]⟩:ByteArray))],[(tS (⟨#[101]⟩:ByteArray))],[(tS (⟨#[63]⟩:ByteArray))]])]) (r':=fun x_:ByteArray=>(tS x_)) (objs:=fun x_:ByteArray=> []) (m:=0) (k:=0) i4 h4 VWant.always (vc (tv (T.op 0 0) Y) (vc (tv (T.os 1 2 0 4) Y) vn)) Y (by omega) (LendL.cons (Lend.os Y Y Y) ln) (Yt (n+0) code [(⟨#[97]⟩:ByteArray),(⟨#[116]⟩:ByteArray),(⟨#[101]⟩:ByteArray),(⟨#[63]⟩:ByteArray)] (by first | (have h2:=hs11.2 (by decide);omega) | assumption | omega | (simp only [List.length_cons,List.length_nil];omega)) (by first | (have h2:=hs11.2 (by decide);omega) | assumption | omega | (simp only [List.length_cons,List.length_nil];omega)) (by first | (have h2:=hs11.2 (by decide);omega) | assumption | omega | (simp only [List.length_cons,List.length_nil];omega))) Y (fun _=>rfl) (fun _=>rfl) fun e7 i7 h7 hs7 hi7=> ?_
 have hs7:e7∈ [(⟨#[97]⟩:ByteArray),(⟨#[116]⟩:ByteArray),(⟨#[101]⟩:ByteArray),(⟨#[63]⟩:ByteArray)]:=hs7
 refine mO (T.op 0 0) Y ?_
 refine eC (us:= [(tN 6)]) (r':=fun x_:Int=>(tI x_)) (objs:=fun x_:Int=> []) (m:=0) (k:=0) i7 h7 VWant.always (vc (tv (T.op 0 0) Y) (vc (VEv.int .i64 6) vn)) Y (by omega) (ZO Y) (QU (n+1) code (6:Int) (by first | (have h2:=hs11.2 (by decide);omega) | assumption | omega | (simp only [List.length_cons,List.length_nil];omega))) Y (fun _=>rfl) (fun _=>rfl) fun e9 i9 h9 hs9 hi9=> ?_
 have hs9:((6:Int)≤0→e9=0)∧(0<(6:Int)→0≤e9∧e9<(6:Int)):=hs9
 refine mO (T.op 0 0) Y ?_
 refine eC (us:= [(tN 3)]) (r':=fun x_:Int=>(tI x_)) (objs:=fun x_:Int=> []) (m:=0) (k:=0) i9 h9 VWant.always (vc (tv (T.op 0 0) Y) (vc (VEv.int .i64 3) vn)) Y (by omega) (ZO Y) (QU (n+1) code (3:Int) (by first | (have h2:=hs11.2 (by decide);omega) | assumption | omega | (simp only [List.length_cons,List.length_nil];omega))) Y (fun _=>rfl) (fun _=>rfl) fun e11 i11 h11 hs11 hi11=> ?_
 have hs11:((3:Int)≤0→e11=0)∧(0<(3:Int)→0≤e11∧e11<(3:Int)):=hs11
 refine fO (B.add (n:=(1+e11)) (VEv.int .i64 1) (tv (tI e11) Y) (by first | (have h2:=hs11.2 (by decide);omega) | rfl | (rw [QB (by omega)];omega) | (rw [QB (by omega)];done))) (fO (OF.build (l:= [(0,(tI e4)),(1,(tS e7)),(2,(tI e9)),(3,(tI (1+e11)))]) (zs:= [(tN 0),(tS ByteArray.empty),(tN 0),(tN 0)]) (out:= [(tI e4),(tS e7),(tI e9),(tI (1+e11))]) (VEvp.cons (i:=0) (tv (tI e4) Y) (VEvp.cons (i:=1) (tv (tS e7) Y) (VEvp.cons (i:=2) (tv (tI e9) Y) (VEvp.cons (i:=3) (tv (tI (1+e11)) Y) VEvp.nil)))) (bc nofun (bc nofun (bc nofun (bc nofun bn)))) Tryd.underlying49 QL (fun _=>RL.cons (.int _ _) (RL.cons (.str _) (RL.cons (.int _ _) (RL.cons (.int _ _) (RL.nil _))))) (by kernel_rfl) (by kernel_rfl)) (cO (B.storeW (us:= [(tI e4),(tS e7),(tI e9),(tI (1+e11))]) (tv (T.op 1 0) Y) (tv (T.agg [(tI e4),(tS e7),(tI e9),(tI (1+e11))]) Y) nofun Y Y Y Q7 Qh (bc Y (bc Y (bc Y (bc Y bn))))) (nt (rt ?_))))
 refine vcur.r (D.Note.mk e4 e7 e9 (1+e11)) 0 i11 h11 ?_ (VRes.celln (ws:= [(tI e4),(tS e7),(tI e9),(tI (1+e11))]) Y Y Q6 Qh (lb Y) Y VRes.nil) (Give.agg (GiveL.cons (Give.int _ _) (GiveL.cons (Give.str _) (GiveL.cons (Give.int _ _) (GiveL.cons (Give.int _ _) GiveL.nil (by decide)) (by decide)) (by decide)) (by decide))) Y Y (by omega) (by decide)
 show (D.Note.mk e4 e7 e9 (1+e11)).Letter.size≤2
 simp only [List.mem_cons,List.not_mem_nil,or_false] at hs7
 show e7.size≤2
 rcases hs7 with h | h | h | h<;>rw [h]<;>decide
theorem QbC (n:Nat) (code:List Int) (hcl:code.length≤mx):CurE (QA Tryd.prog (n+5)) 72 (rd 1 Qj code) code.length [] (fun x:List D.Note=>gN 8 x) (fun x:List D.Note=>(T.sl true 4 (x.map (Qa true)))):=by
 refine CurE.intro (rs:= [ResultVar.tmp 2]) Tryd.func72 Y Y Y (by kernel_rfl) (fun pb nb mb ci ch hci=> ?_)
 obtain ⟨hlim,hmx,hmax⟩:=Zk
 show VRun _ _ _ [(0,(T.op 0 0))] [(0,some (Obj.cells [(T.ex pb nb mb (rd 1 Qj code)),(tN ci),(tI ch)]))] 1 _
 refine sr (fO (OF.assign VEv.nils) (nt (sr (kO (OM.slice0 QJ QL (by kernel_rfl) Y (by rw [Qh];decide) Qh) (aO (T.os 4 1 0 0) Y (nt (sq (sr (mO (T.op 0 0) Y ?_)))))))))
 refine eC (us:= [(tN 9)]) (r':=fun x_:Int=>(tI x_)) (objs:=fun x_:Int=> []) (m:=0) (k:=0) ci ch VWant.always (vc (tv (T.op 0 0) Y) (vc (VEv.int .i64 9) vn)) Y (by omega) (ZO Y) (QU (n+2) code (9:Int) (by first | (have hq:=hs14;simp only [Qo];omega) | assumption | omega | (simp only [List.length_cons,List.length_nil];omega))) Y (fun _=>rfl) (fun _=>rfl) fun e7 i7 h7 hs7 hi7=> ?_
 have hs7:((9:Int)≤0→e7=0)∧(0<(9:Int)→0≤e7∧e7<(9:Int)):=hs7
 refine aO (tI e7) Y (nt (VRun.block ?_))
 have he1: []=([].map (Qa true)):=by first | rfl | (simp;done) | omega
 refine VRun.loop (A:=Nat×(List D.Note)×Nat×Int) (fun s_=> [(0,(T.op 0 0)),(2,T.nils),(3,(T.os 4 1 0 ((s_.2.1.map (Qa true)).length))),(4,(tN s_.1))]) (fun s_=>Jw [(0,(Obj.cells [(T.ex pb nb mb (rd 1 Qj code)),(tN s_.2.2.1),(tI s_.2.2.2)])),(1,(Obj.rows 4 (s_.2.1.map (Qa true))))]) 2 (fun s_=>s_.2.2.1≤code.length∧(s_.1≤8∧gN (8 - s_.1) s_.2.1)) (fun s_=>s_.1) ((Int.toNat e7,[],i7,h7):Nat×(List D.Note)×Nat×Int) ?_ (Wk.mk (fun k=>k) ?_ ?_ ?_) ?_
 ·refine ⟨by omega,?_⟩
  have h2:=hs7.2 (by decide)
  exact ⟨by omega,by simp only [List.length_nil];omega,fun y hy=>nomatch hy⟩
 ·exact (b2 (b2 (bc ⟨(congrArg (fun n_=>T.os 4 1 0 n_) (show 0=([].map (Qa true)).length from (by first | rfl | (simp only [List.length_map];omega) | (simp only [List.length_map,List.length_set,List.length_append,List.length_take,List.length_replicate,List.length_cons,List.length_nil];omega)))),rfl⟩ (bc ⟨(congrArg (T.int .i64) (show e7=(((Int.toNat e7):Nat):Int) from (by first | rfl | omega | (simp;done) | (push_cast;omega)))),rfl⟩ bn))))
 ·exact (b3 (bc ⟨(congrArg (fun l_=>some (Obj.rows 4 l_)) he1),(lb Y),rfl⟩ bn))
 ·exact nd Y
 rintro ⟨k,l,ci0,ch0⟩ (hI':ci0≤code.length∧(k≤8∧gN (8 - k) l))
 show VRun _ _ _ [(0,(T.op 0 0)),(2,T.nils),(3,(T.os 4 1 0 ((l.map (Qa true)).length))),(4,(tN k))] (Jw [(0,(Obj.cells [(T.ex pb nb mb (rd 1 Qj code)),(tN ci0),(tI ch0)])),(1,(Obj.rows 4 (l.map (Qa true))))]) 2 _
 have hci0:=hI'.1
 have hI':=hI'.2
 have hI1:=hI'.1
 have hI2:=hI'.2
 have hz1:=Qfl hI2
 refine sq (sr (mO (tN k) Y (fO (B.gtr (c:=(decide (0<k))) (tv (tN k) Y) (VEv.int .i64 0) (by first | (have hq:=hs14;simp only [Qo];omega) | (exact Z4 (by omega)))) (nt ?_))))
 refine cd (0<k) Y (fun fhc0=> ?_) fun fhc0=> ?_
 ·refine sk ?_
  refine tn (sq (VRun.block (VRun.region (mO (T.os 4 1 0 ((l.map (Qa true)).length)) Y (mO (T.op 0 0) Y ?_)))))
  refine eC (us:= []) (r':=fun x_:D.Note=>(T.agg (Qa true x_))) (objs:=fun x_:D.Note=> []) (m:=0) (k:=0) ci0 ch0 VWant.always (vc (tv (T.op 0 0) Y) vn) Y (by omega) ln (YL (n+0) code (by first | (have hq:=hs14;simp only [Qo];omega) | assumption | omega | (simp only [List.length_cons,List.length_nil];omega))) Y (fun _=>rfl) (fun _=>rfl) fun e14 i14 h14 hs14 hi14=> ?_
  have hs14:e14.Letter.size≤2:=hs14
  refine cO (OC.callF (us:= [(rd 4 Qa l),(T.agg (Qa true e14))]) (r':=(T.os 4 2 0 (((QP l e14).map (Qa true)).length))) (objs:= [(Obj.rows 4 ((QP l e14).map (Qa true)))]) Y (vc (tv (T.os 4 1 0 ((l.map (Qa true)).length)) Y) (vc (tv (T.agg (Qa true e14)) Y) vn)) (LendL.cons (Lend.os Y Y (okeNote.fzMap _ _)) (LendL.cons (Lend.agg (LendL.cons (Lend.pl Y) (LendL.cons (Lend.pl Y) (LendL.cons (Lend.pl Y) (LendL.cons (Lend.pl Y) ln))))) ln)) (Qbd (n+0) l e14 (by first | (have hq:=hs14;simp only [Qo];omega) | assumption | omega)) Y) (aO (T.os 4 2 0 (((QP l e14).map (Qa true)).length)) Y (VRunO.nil (vinB.n (tn (VRun.region (mO (tN k) Y (fO (B.sub (n:=(((k:Nat):Int) - 1)) (tv (tN k) Y) (VEv.int .i64 1) (by first | (have hq:=hs14;simp only [Qo];omega) | rfl | (rw [QB (by omega)];omega) | (rw [QB (by omega)];done))) (aO (tI (((k:Nat):Int) - 1)) Y (VRunO.nil (tn ?_))))))))))
  refine ⟨((k - 1,QP l e14,i14,h14):Nat×(List D.Note)×Nat×Int),?_,?_,Wk.mk (fun k=>if k=1 then 2 else k) ?_ ?_ ?_⟩
  ·refine ⟨by omega,?_⟩
   exact ⟨by omega,Qed (Qfk hI2 hs14) (by omega)⟩
  ·first | omega | (simp only [];omega) | (show _<_;omega) | (simp;omega)
  ·exact (b2 (b2 (b2 (bc ⟨(congrArg (T.int .i64) (show (((k:Nat):Int) - 1)=(((k - 1):Nat):Int) from (by first | rfl | omega | (simp;done) | (push_cast;omega)))),rfl⟩ bn))))
  ·exact (b3 (b3 bn))
  ·exact nd Y
 refine VRun.exit (vthn.e (vthn.e (vinB.e (tn (sr (mO (T.os 4 1 0 ((l.map (Qa true)).length)) Y (aO (T.os 4 1 0 ((l.map (Qa true)).length)) Y (nt (rt ?_)))))))))
 refine vcur.r l 0 ci0 ch0 ?_ (VRes.tmp (t:=(T.os 4 1 0 ((l.map (Qa true)).length))) Y VRes.nil) (Give.os Y Y (okeNote.cleanMap _)) Y Y (by omega) (by decide)
 show gN 8 l
 exact Qed hI2 (by omega)
theorem Y2 (n:Nat) (code:List Int) (hcl:code.length≤mx):CurE (QA Tryd.prog (n+6)) 48 (rd 1 Qj code) code.length [] (fun x:List D.Note=>gN 8 x) (fun x:List D.Note=>(T.sl true 4 (x.map (Qa true)))):=by
 refine CurE.intro (rs:= [ResultVar.tmp 2]) Tryd.func48 Y Y Y (by kernel_rfl) (fun pb nb mb ci ch hci=> ?_)
 obtain ⟨hlim,hmx,hmax⟩:=Zk
 show VRun _ _ _ [(0,(T.op 0 0))] [(0,some (Obj.cells [(T.ex pb nb mb (rd 1 Qj code)),(tN ci),(tI ch)]))] 1 _
 refine sr (fO (OF.assign VEv.nils) (nt (sr (mO (T.op 0 0) Y ?_))))
 refine eC (us:= []) (r':=fun x_:List D.Note=>(T.os 4 1 0 ((x_.map (Qa true)).length))) (objs:=fun x_:List D.Note=> [(Obj.rows 4 (x_.map (Qa true)))]) (m:=1) (k:=0) ci ch VWant.always (vc (tv (T.op 0 0) Y) vn) Y (by omega) ln (QbC (n+0) code (by first | (have h2:=hs14.2 (by omega);omega) | assumption | omega | (simp only [List.length_cons,List.length_nil];omega))) Y (fun _=>rfl) (fun _=>rfl) fun e6 i6 h6 hs6 hi6=> ?_
 have hs6:gN 8 e6:=hs6
 refine aO (T.os 4 1 0 ((e6.map (Qa true)).length)) Y (nt (sq (sr (mO (T.os 4 1 0 ((e6.map (Qa true)).length)) Y (lO (B.lenO (m:=e6.length) (tv (T.os 4 1 0 ((e6.map (Qa true)).length)) Y) QJ (List.length_map ..)) (fO (B.eql (c:=(decide (e6.length=0))) (tv (tN e6.length) Y) (VEv.int .i64 0) (by first | (have h2:=hs14.2 (by omega);omega) | (exact Z4 (by omega)))) (nt ?_)))))))
 refine cd (e6.length=0) Y (fun fhc0=> ?_) fun fhc0=> ?_
 ·refine sr ?_
  refine mO (T.os 4 1 0 ((e6.map (Qa true)).length)) Y (aO (T.os 4 1 0 ((e6.map (Qa true)).length)) Y (nt (rt (tr ?_))))
  refine vcur.r e6 0 i6 h6 ?_ (VRes.tmp (t:=(T.os 4 1 0 ((e6.map (Qa true)).length))) Y VRes.nil) (Give.os Y Y (okeNote.cleanMap _)) Y Y (by omega) (by decide)
  show gN 8 e6
  first
  | (exact hs6)
  | (exact Yp hs6 (show x1.Letter.size≤2 from hs6.2 x1 (List.mem_of_getElem? hx1)))
  | (refine Yp hs6 ?_;show e32.size≤2;simp only [List.mem_cons,List.not_mem_nil,or_false] at hs32;rcases hs32 with h | h | h | h<;>rw [h]<;>decide)
 refine sk (tn (sr (mO (T.op 0 0) Y (mO (T.os 4 1 0 ((e6.map (Qa true)).length)) Y (lO (B.lenO (m:=e6.length) (tv (T.os 4 1 0 ((e6.map (Qa true)).length)) Y) QJ (List.length_map ..)) ?_)))))
 refine eC (us:= [(tN e6.length)]) (r':=fun x_:Int=>(tI x_)) (objs:=fun x_:Int=> []) (m:=0) (k:=0) i6 h6 VWant.always (vc (tv (T.op 0 0) Y) (vc (tv (tN e6.length) Y) vn)) Y (by omega) (ZO Y) (QU (n+3) code ((e6.length:Nat):Int) (by first | (have h2:=hs14.2 (by omega);omega) | assumption | omega | (simp only [List.length_cons,List.length_nil];omega))) Y (fun _=>rfl) (fun _=>rfl) fun e14 i14 h14 hs14 hi14=> ?_
 have hs14:(((e6.length:Nat):Int)≤0→e14=0)∧(0<((e6.length:Nat):Int)→0≤e14∧e14<((e6.length:Nat):Int)):=hs14
 refine aO (tI e14) Y (nt (sq (sr (mO (T.op 0 0) Y ?_))))
 refine eC (us:= [(tN 9)]) (r':=fun x_:Int=>(tI x_)) (objs:=fun x_:Int=> []) (m:=0) (k:=0) i14 h14 VWant.always (vc (tv (T.op 0 0) Y) (vc (VEv.int .i64 9) vn)) Y (by omega) (ZO Y) (QU (n+3) code (9:Int) (by first | (have h2:=hs14.2 (by omega);omega) | assumption | omega | (simp only [List.length_cons,List.length_nil];omega))) Y (fun _=>rfl) (fun _=>rfl) fun e16 i16 h16 hs16 hi16=> ?_
 have hs16:((9:Int)≤0→e16=0)∧(0<(9:Int)→0≤e16∧e16<(9:Int)):=hs16
 refine nt (VRun.block (sr (fO (xeq (tv (tI e16) Y) (VEv.int .i64 0)) (aO (tB (decide (e16=0))) Y (nt ?_)))))
 refine cd (e16=0) Y (fun fhc1=> ?_) fun fhc1=> ?_
 ·refine VRun.region ?_
  refine mO (T.os 4 1 0 ((e6.map (Qa true)).length)) Y (mO (tI e14) Y (mO (T.op 0 0) Y (kO (OM.buildSlice (l:= [(tI (-1)),(tN 35),(tN 36)]) (VEvp.cons (VEv.int .i64 (-1)) (VEvp.cons (VEv.int .i64 35) (VEvp.cons (VEv.int .i64 36) VEvp.nil))) Y (by decide) (bc (nofun) (bc (nofun) (bc (nofun) bn))) (bc ((bc (Y) bn)) (bc ((bc (Y) bn)) (bc ((bc (Y) bn)) bn))) (bc (Y) (bc (Y) (bc (Y) bn))) U68 zo3 (by kernel_rfl) Y (by rw [sz3];decide) sz3 (Nat.le_of_ble_eq_true Y)) ?_)))
  refine eC (us:= [(T.sl false 1 [[(tI (-1))],[(tN 35)],[(tN 36)]])]) (r':=fun x_:Int=>(tI x_)) (objs:=fun x_:Int=> []) (m:=0) (k:=0) i16 h16 VWant.always (vc (tv (T.op 0 0) Y) (vc (tv (T.os 1 2 0 3) Y) vn)) Y (by omega) (LendL.cons (Lend.os Y Y Y) ln) (Yy (n+2) code [(-1),35,36] (by first | (have h2:=hs14.2 (by omega);omega) | assumption | omega | (simp only [List.length_cons,List.length_nil];omega)) (by first | (have h2:=hs14.2 (by omega);omega) | assumption | omega | (simp only [List.length_cons,List.length_nil];omega)) (by first | (have h2:=hs14.2 (by omega);omega) | assumption | omega | (simp only [List.length_cons,List.length_nil];omega))) Y (fun _=>rfl) (fun _=>rfl) fun e23 i23 h23 hs23 hi23=> ?_
  have hs23:e23∈ [(-1),35,36]:=hs23
  obtain ⟨x1,hx1⟩:∃x,e6[(Int.toNat e14)]? =some x:=⟨_,List.getElem?_eq_getElem (by first | (have h2:=hs14.2 (by omega);omega) | omega)⟩
  refine fO (B.indexAddrO (i:=(Int.toNat e14)) (tv (T.os 4 1 0 ((e6.map (Qa true)).length)) Y) (tv (tI e14) Y) (by omega) (by first | (have h2:=hs14.2 (by omega);omega) | omega | (simp only [List.length_map];omega) | (simp only [List.length_map,List.length_append,List.length_cons,List.length_nil,List.length_replicate,List.length_set,List.length_drop,List.length_take,Zh] at *;omega)) QJ Qh Q7) (fO (OF.fieldAddrP (tv (T.orp 4 1 (Int.toNat e14) 0) Y) Ze) (cO (B.storeP (us:= [(tI e23)]) (rows':=((e6.set (Int.toNat e14) (D.Note.mk e23 x1.Letter x1.Tick x1.Who)).map (Qa true))) (row:=(Qa true x1)) (tv (T.orp 4 1 (Int.toNat e14) 0) Y) (tv (tI e23) Y) nofun Y (QR _ hx1) Y (lb Y) if3 sz3 (bc Y bn) (by intro r hr t ht;obtain ⟨x,_,rfl⟩:=List.mem_map.1 hr;rw [QaS] at ht;exact Ye (okeNote.pl _ t ht)) (YE Y)) (VRunO.nil (vinB.n (tn (sr (mO (T.os 4 1 0 ((e6.map (Qa true)).length)) Y (aO (T.os 4 1 0 ((e6.map (Qa true)).length)) Y (nt (rt ?_))))))))))
  refine vcur.r (e6.set (Int.toNat e14) (D.Note.mk e23 x1.Letter x1.Tick x1.Who)) 0 i23 h23 ?_ (VRes.tmp (t:=(T.os 4 1 0 ((e6.map (Qa true)).length))) Y VRes.nil) (Give.os Y (by simp only [List.length_map,List.length_set]) (okeNote.cleanMap _)) Y Y (by omega) (by decide)
  show gN 8 (e6.set (Int.toNat e14) (D.Note.mk e23 x1.Letter x1.Tick x1.Who))
  first
  | (exact hs6)
  | (exact Yp hs6 (show x1.Letter.size≤2 from hs6.2 x1 (List.mem_of_getElem? hx1)))
  | (refine Yp hs6 ?_;show e32.size≤2;simp only [List.mem_cons,List.not_mem_nil,or_false] at hs32;rcases hs32 with h | h | h | h<;>rw [h]<;>decide)
 refine sr (fO (xeq (tv (tI e16) Y) (VEv.int .i64 1)) (aO (tB (decide (e16=1))) Y (nt ?_)))
 refine cd (e16=1) Y (fun fhc2=> ?_) fun fhc2=> ?_
 ·refine VRun.region ?_
  refine mO (T.os 4 1 0 ((e6.map (Qa true)).length)) Y (mO (tI e14) Y (mO (T.op 0 0) Y (kO (OM.buildSlice (l:= [(tS (⟨#[]⟩:ByteArray)),(tS (⟨#[65]⟩:ByteArray)),(tS (⟨#[97,98]⟩:ByteArray)),(tS (⟨#[35]⟩:ByteArray))]) (VEvp.cons (VEv.str (⟨#[]⟩:ByteArray)) (VEvp.cons (VEv.str (⟨#[65]⟩:ByteArray)) (VEvp.cons (VEv.str (⟨#[97,98]⟩:ByteArray)) (VEvp.cons (VEv.str (⟨#[35]⟩:ByteArray)) VEvp.nil)))) Y (by decide) (bc (nofun) (bc (nofun) (bc (nofun) (bc (nofun) bn)))) (bc ((bc (Y) bn)) (bc ((bc (Y) bn)) (bc ((bc (Y) bn)) (bc ((bc (Y) bn)) bn)))) (bc (Y) (bc (Y) (bc (Y) (bc (Y) bn)))) U34 zo9 (by kernel_rfl) Y (by rw [sz9];decide) sz9 (Nat.le_of_ble_eq_true Y)) ?_)))
  refine eC (us:= [(T.sl false 1 [[(tS (⟨#[]⟩:ByteArray))],[(tS (⟨#[65]⟩:ByteArray))],[(tS (⟨#[97,98]⟩:ByteArray))],[(tS (⟨#[35]⟩:ByteArray))]])]) (r':=fun x_:ByteArray=>(tS x_)) (objs:=fun x_:ByteArray=> []) (m:=0) (k:=0) i16 h16 VWant.always (vc (tv (T.op 0 0) Y) (vc (tv (T.os 1 2 0 4) Y) vn)) Y (by omega) (LendL.cons (Lend.os Y Y Y) ln) (Yt (n+2) code [(⟨#[]⟩:ByteArray),(⟨#[65]⟩:ByteArray),(⟨#[97,98]⟩:ByteArray),(⟨#[35]⟩:ByteArray)] (by first | (have h2:=hs14.2 (by omega);omega) | assumption | omega | (simp only [List.length_cons,List.length_nil];omega)) (by first | (have h2:=hs14.2 (by omega);omega) | assumption | omega | (simp only [List.length_cons,List.length_nil];omega)) (by first | (have h2:=hs14.2 (by omega);omega) | assumption | omega | (simp only [List.length_cons,List.length_nil];omega))) Y (fun _=>rfl) (fun _=>rfl) fun e32 i32 h32 hs32 hi32=> ?_
  have hs32:e32∈ [(⟨#[]⟩:ByteArray),(⟨#[65]⟩:ByteArray),(⟨#[97,98]⟩:ByteArray),(⟨#[35]⟩:ByteArray)]:=hs32
  obtain ⟨x1,hx1⟩:∃x,e6[(Int.toNat e14)]? =some x:=⟨_,List.getElem?_eq_getElem (by first | (have h2:=hs14.2 (by omega);omega) | omega)⟩
  refine fO (B.indexAddrO (i:=(Int.toNat e14)) (tv (T.os 4 1 0 ((e6.map (Qa true)).length)) Y) (tv (tI e14) Y) (by omega) (by first | (have h2:=hs14.2 (by omega);omega) | omega | (simp only [List.length_map];omega) | (simp only [List.length_map,List.length_append,List.length_cons,List.length_nil,List.length_replicate,List.length_set,List.length_drop,List.length_take,Zh] at *;omega)) QJ Qh Q7) (fO (OF.fieldAddrP (tv (T.orp 4 1 (Int.toNat e14) 0) Y) ZA) (cO (B.storeP (us:= [(tS e32)]) (rows':=((e6.set (Int.toNat e14) (D.Note.mk x1.Cell e32 x1.Tick x1.Who)).map (Qa true))) (row:=(Qa true x1)) (tv (T.orp 4 1 (Int.toNat e14) 1) Y) (tv (tS e32) Y) nofun Y (QR _ hx1) Y (lb Y) if9 sz9 (bc Y bn) (by intro r hr t ht;obtain ⟨x,_,rfl⟩:=List.mem_map.1 hr;rw [QaS] at ht;exact Ye (okeNote.pl _ t ht)) (YE Y)) (VRunO.nil (vinB.n (tn (sr (mO (T.os 4 1 0 ((e6.map (Qa true)).length)) Y (aO (T.os 4 1 0 ((e6.map (Qa true)).length)) Y (nt (rt ?_))))))))))
  refine vcur.r (e6.set (Int.toNat e14) (D.Note.mk x1.Cell e32 x1.Tick x1.Who)) 0 i32 h32 ?_ (VRes.tmp (t:=(T.os 4 1 0 ((e6.map (Qa true)).length))) Y VRes.nil) (Give.os Y (by simp only [List.length_map,List.length_set]) (okeNote.cleanMap _)) Y Y (by omega) (by decide)
  show gN 8 (e6.set (Int.toNat e14) (D.Note.mk x1.Cell e32 x1.Tick x1.Who))
  first
  | (exact hs6)
  | (exact Yp hs6 (show x1.Letter.size≤2 from hs6.2 x1 (List.mem_of_getElem? hx1)))
  | (refine Yp hs6 ?_;show e32.size≤2;simp only [List.mem_cons,List.not_mem_nil,or_false] at hs32;rcases hs32 with h | h | h | h<;>rw [h]<;>decide)
 refine sr (fO (xeq (tv (tI e16) Y) (VEv.int .i64 2)) (aO (tB (decide (e16=2))) Y (nt ?_)))
 refine cd (e16=2) Y (fun fhc3=> ?_) fun fhc3=> ?_
 ·refine VRun.region ?_
  refine mO (T.os 4 1 0 ((e6.map (Qa true)).length)) Y (mO (tI e14) Y (mO (T.op 0 0) Y ?_))
  refine eC (us:= []) (r':=fun x_:Int=>(tI x_)) (objs:=fun x_:Int=> []) (m:=0) (k:=0) i16 h16 VWant.always (vc (tv (T.op 0 0) Y) vn) Y (by omega) ln (Qat (n+1) code (by first | (have h2:=hs14.2 (by omega);omega) | assumption | omega | (simp only [List.length_cons,List.length_nil];omega))) Y (fun _=>rfl) (fun _=>rfl) fun e40 i40 h40 hs40 hi40=> ?_
  have hs40:True:=hs40
  obtain ⟨x1,hx1⟩:∃x,e6[(Int.toNat e14)]? =some x:=⟨_,List.getElem?_eq_getElem (by first | (have h2:=hs14.2 (by omega);omega) | omega)⟩
  refine fO (B.indexAddrO (i:=(Int.toNat e14)) (tv (T.os 4 1 0 ((e6.map (Qa true)).length)) Y) (tv (tI e14) Y) (by omega) (by first | (have h2:=hs14.2 (by omega);omega) | omega | (simp only [List.length_map];omega) | (simp only [List.length_map,List.length_append,List.length_cons,List.length_nil,List.length_replicate,List.length_set,List.length_drop,List.length_take,Zh] at *;omega)) QJ Qh Q7) (fO (OF.fieldAddrP (tv (T.orp 4 1 (Int.toNat e14) 0) Y) ZG) (cO (B.storeP (us:= [(tI e40)]) (rows':=((e6.set (Int.toNat e14) (D.Note.mk x1.Cell x1.Letter e40 x1.Who)).map (Qa true))) (row:=(Qa true x1)) (tv (T.orp 4 1 (Int.toNat e14) 2) Y) (tv (tI e40) Y) nofun Y (QR _ hx1) Y (lb Y) if3 sz3 (bc Y bn) (by intro r hr t ht;obtain ⟨x,_,rfl⟩:=List.mem_map.1 hr;rw [QaS] at ht;exact Ye (okeNote.pl _ t ht)) (YE Y)) (VRunO.nil (vinB.n (tn (sr (mO (T.os 4 1 0 ((e6.map (Qa true)).length)) Y (aO (T.os 4 1 0 ((e6.map (Qa true)).length)) Y (nt (rt ?_))))))))))
  refine vcur.r (e6.set (Int.toNat e14) (D.Note.mk x1.Cell x1.Letter e40 x1.Who)) 0 i40 h40 ?_ (VRes.tmp (t:=(T.os 4 1 0 ((e6.map (Qa true)).length))) Y VRes.nil) (Give.os Y (by simp only [List.length_map,List.length_set]) (okeNote.cleanMap _)) Y Y (by omega) (by decide)
  show gN 8 (e6.set (Int.toNat e14) (D.Note.mk x1.Cell x1.Letter e40 x1.Who))
  first
  | (exact hs6)
  | (exact Yp hs6 (show x1.Letter.size≤2 from hs6.2 x1 (List.mem_of_getElem? hx1)))
  | (refine Yp hs6 ?_;show e32.size≤2;simp only [List.mem_cons,List.not_mem_nil,or_false] at hs32;rcases hs32 with h | h | h | h<;>rw [h]<;>decide)
 refine sr (fO (xeq (tv (tI e16) Y) (VEv.int .i64 3)) (aO (tB (decide (e16=3))) Y (nt ?_)))
 refine cd (e16=3) Y (fun fhc4=> ?_) fun fhc4=> ?_
 ·refine VRun.region ?_
  refine mO (T.os 4 1 0 ((e6.map (Qa true)).length)) Y (mO (tI e14) Y (mO (T.op 0 0) Y (kO (OM.buildSlice (l:= [(tN 0),(tN 9),(tN 10)]) (VEvp.cons (VEv.int .i64 0) (VEvp.cons (VEv.int .i64 9) (VEvp.cons (VEv.int .i64 10) VEvp.nil))) Y (by decide) (bc (nofun) (bc (nofun) (bc (nofun) bn))) (bc ((bc (Y) bn)) (bc ((bc (Y) bn)) (bc ((bc (Y) bn)) bn))) (bc (Y) (bc (Y) (bc (Y) bn))) U68 zo3 (by kernel_rfl) Y (by rw [sz3];decide) sz3 (Nat.le_of_ble_eq_true Y)) ?_)))
  refine eC (us:= [(T.sl false 1 [[(tN 0)],[(tN 9)],[(tN 10)]])]) (r':=fun x_:Int=>(tI x_)) (objs:=fun x_:Int=> []) (m:=0) (k:=0) i16 h16 VWant.always (vc (tv (T.op 0 0) Y) (vc (tv (T.os 1 2 0 3) Y) vn)) Y (by omega) (LendL.cons (Lend.os Y Y Y) ln) (Yy (n+2) code [0,9,10] (by first | (have h2:=hs14.2 (by omega);omega) | assumption | omega | (simp only [List.length_cons,List.length_nil];omega)) (by first | (have h2:=hs14.2 (by omega);omega) | assumption | omega | (simp only [List.length_cons,List.length_nil];omega)) (by first | (have h2:=hs14.2 (by omega);omega) | assumption | omega | (simp only [List.length_cons,List.length_nil];omega))) Y (fun _=>rfl) (fun _=>rfl) fun e49 i49 h49 hs49 hi49=> ?_
  have hs49:e49∈ [0,9,10]:=hs49
  obtain ⟨x1,hx1⟩:∃x,e6[(Int.toNat e14)]? =some x:=⟨_,List.getElem?_eq_getElem (by first | (have h2:=hs14.2 (by omega);omega) | omega)⟩
  refine fO (B.indexAddrO (i:=(Int.toNat e14)) (tv (T.os 4 1 0 ((e6.map (Qa true)).length)) Y) (tv (tI e14) Y) (by omega) (by first | (have h2:=hs14.2 (by omega);omega) | omega | (simp only [List.length_map];omega) | (simp only [List.length_map,List.length_append,List.length_cons,List.length_nil,List.length_replicate,List.length_set,List.length_drop,List.length_take,Zh] at *;omega)) QJ Qh Q7) (fO (OF.fieldAddrP (tv (T.orp 4 1 (Int.toNat e14) 0) Y) ZD) (cO (B.storeP (us:= [(tI e49)]) (rows':=((e6.set (Int.toNat e14) (D.Note.mk x1.Cell x1.Letter x1.Tick e49)).map (Qa true))) (row:=(Qa true x1)) (tv (T.orp 4 1 (Int.toNat e14) 3) Y) (tv (tI e49) Y) nofun Y (QR _ hx1) Y (lb Y) if3 sz3 (bc Y bn) (by intro r hr t ht;obtain ⟨x,_,rfl⟩:=List.mem_map.1 hr;rw [QaS] at ht;exact Ye (okeNote.pl _ t ht)) (YE Y)) (VRunO.nil (vinB.n (tn (sr (mO (T.os 4 1 0 ((e6.map (Qa true)).length)) Y (aO (T.os 4 1 0 ((e6.map (Qa true)).length)) Y (nt (rt ?_))))))))))
  refine vcur.r (e6.set (Int.toNat e14) (D.Note.mk x1.Cell x1.Letter x1.Tick e49)) 0 i49 h49 ?_ (VRes.tmp (t:=(T.os 4 1 0 ((e6.map (Qa true)).length))) Y VRes.nil) (Give.os Y (by simp only [List.length_map,List.length_set]) (okeNote.cleanMap _)) Y Y (by omega) (by decide)
  show gN 8 (e6.set (Int.toNat e14) (D.Note.mk x1.Cell x1.Letter x1.Tick e49))
  first
  | (exact hs6)
  | (exact Yp hs6 (show x1.Letter.size≤2 from hs6.2 x1 (List.mem_of_getElem? hx1)))
  | (refine Yp hs6 ?_;show e32.size≤2;simp only [List.mem_cons,List.not_mem_nil,or_false] at hs32;rcases hs32 with h | h | h | h<;>rw [h]<;>decide)
 refine sk (vinB.n (tn (sr (mO (T.os 4 1 0 ((e6.map (Qa true)).length)) Y (aO (T.os 4 1 0 ((e6.map (Qa true)).length)) Y (nt (rt ?_)))))))
 refine vcur.r e6 0 i16 h16 ?_ (VRes.tmp (t:=(T.os 4 1 0 ((e6.map (Qa true)).length))) Y VRes.nil) (Give.os Y Y (okeNote.cleanMap _)) Y Y (by omega) (by decide)
 show gN 8 e6
 first
 | (exact hs6)
 | (exact Yp hs6 (show x1.Letter.size≤2 from hs6.2 x1 (List.mem_of_getElem? hx1)))
 | (refine Yp hs6 ?_;show e32.size≤2;simp only [List.mem_cons,List.not_mem_nil,or_false] at hs32;rcases hs32 with h | h | h | h<;>rw [h]<;>decide)
theorem Jy (n:Nat) (code:List Int) (hcl:code.length≤mx):PureE (QA Tryd.prog (n+7)) 19 [(rd 1 Qj code)] (fun x:List D.Note×List D.Note=>gN 8 x.1∧gN 8 x.2) (fun x:List D.Note×List D.Note=>(T.tup [(T.sl true 4 (x.1.map (Qa true))),(T.sl true 4 (x.2.map (Qa true)))])):=by
 refine PureE.intro (rs:= [ResultVar.tmp 2,ResultVar.tmp 3]) Tryd.func19 Y Y Y (E0:= [(0,(rd 1 Qj code))]) Y ?_
 obtain ⟨hlim,hmx,hmax⟩:=Zk
 refine sr (fO (OF.assign VEv.nils) (fO (OF.assign VEv.nils) (nt (sr (mO (rd 1 Qj code) Y ?_)))))
 refine eN VWant.always (vc (tv (rd 1 Qj code) Y) vn) (Jg (n+5) code (by first | assumption | omega)) Y fun pb7 nb7 mb7 hn7=> ?_
 refine aO (T.op 0 0) Y (nt (sr (mO (T.op 0 0) Y ?_)))
 refine eC (us:= []) (r':=fun x_:List D.Note=>(T.os 4 1 0 ((x_.map (Qa true)).length))) (objs:=fun x_:List D.Note=> [(Obj.rows 4 (x_.map (Qa true)))]) (m:=1) (k:=0) 0 hn7 VWant.always (vc (tv (T.op 0 0) Y) vn) Y (by omega) ln (Y2 (n+0) code (by first | assumption | omega | (simp only [List.length_cons,List.length_nil];omega))) Y (fun _=>rfl) (fun _=>rfl) fun e9 i9 h9 hs9 hi9=> ?_
 have hs9:gN 8 e9:=hs9
 refine aO (T.os 4 1 0 ((e9.map (Qa true)).length)) Y (nt (sr (mO (T.os 4 1 0 ((e9.map (Qa true)).length)) Y (mO (T.op 0 0) Y ?_))))
 refine eC (us:= []) (r':=fun x_:List D.Note=>(T.os 4 2 0 ((x_.map (Qa true)).length))) (objs:=fun x_:List D.Note=> [(Obj.rows 4 (x_.map (Qa true)))]) (m:=1) (k:=0) i9 h9 VWant.always (vc (tv (T.op 0 0) Y) vn) Y (by omega) ln (Y2 (n+0) code (by first | assumption | omega | (simp only [List.length_cons,List.length_nil];omega))) Y (fun _=>rfl) (fun _=>rfl) fun e12 i12 h12 hs12 hi12=> ?_
 have hs12:gN 8 e12:=hs12
 refine aO (T.os 4 1 0 ((e9.map (Qa true)).length)) Y (aO (T.os 4 2 0 ((e12.map (Qa true)).length)) Y (nt (rt ?_)))
 refine vfinE.r (e9,e12) ?_ (vfin.r (VRes.tmp (t:=(T.os 4 1 0 ((e9.map (Qa true)).length))) Y (VRes.tmp (t:=(T.os 4 2 0 ((e12.map (Qa true)).length))) Y VRes.nil)) (Give.tup (GiveL.cons (Give.os Y Y (okeNote.cleanMap _)) (GiveL.cons (Give.os Y Y (okeNote.cleanMap _)) GiveL.nil (by decide)) (by decide))))
 show gN 8 e9∧gN 8 e12
 exact ⟨hs9,hs12⟩
theorem YP (n:Nat) (code:List Int) (hcl:code.length≤mx):PureE (QA Tryd.prog (n+5)) 28 [(rd 1 Qj code)] (fun x:D.Note×D.Note=>True) (fun x:D.Note×D.Note=>(T.tup [(T.agg (Qa true x.1)),(T.agg (Qa true x.2))])):=by
 refine PureE.intro (rs:= [ResultVar.cell 2 49,ResultVar.cell 3 49]) Tryd.func28 Y Y Y (E0:= [(0,(rd 1 Qj code))]) Y ?_
 obtain ⟨hlim,hmx,hmax⟩:=Zk
 refine sr (kO (B.alloc (t:=(T.agg [(tN 0),(tS ByteArray.empty),(tN 0),(tN 0)])) (ts:= [(tN 0),(tS ByteArray.empty),(tN 0),(tN 0)]) QL Qbm nofun (fun _=> .agg _ _ Y (Z8 (RL.cons (.int _ _) (RL.cons (.str _) (RL.cons (.int _ _) (RL.cons (.int _ _) (RL.nil _))))))) Y) (kO (B.alloc (t:=(T.agg [(tN 0),(tS ByteArray.empty),(tN 0),(tN 0)])) (ts:= [(tN 0),(tS ByteArray.empty),(tN 0),(tN 0)]) QL Qbm nofun (fun _=> .agg _ _ Y (Z8 (RL.cons (.int _ _) (RL.cons (.str _) (RL.cons (.int _ _) (RL.cons (.int _ _) (RL.nil _))))))) Y) (nt (sr (mO (rd 1 Qj code) Y ?_)))))
 refine eN VWant.always (vc (tv (rd 1 Qj code) Y) vn) (Jg (n+3) code (by first | assumption | omega)) Y fun pb7 nb7 mb7 hn7=> ?_
 refine aO (T.op 2 0) Y (nt (sr (mO (T.op 2 0) Y ?_)))
 refine eC (us:= []) (r':=fun x_:D.Note=>(T.agg (Qa true x_))) (objs:=fun x_:D.Note=> []) (m:=0) (k:=2) 0 hn7 VWant.always (vc (tv (T.op 2 0) Y) vn) Y (by omega) ln (YL (n+0) code (by first | assumption | omega | (simp only [List.length_cons,List.length_nil];omega))) Y (fun _=>rfl) (fun _=>rfl) fun e9 i9 h9 hs9 hi9=> ?_
 have hs9:e9.Letter.size≤2:=hs9
 refine kO (B.alloc (t:=(T.agg [(tN 0),(tS ByteArray.empty),(tN 0),(tN 0)])) (ts:= [(tN 0),(tS ByteArray.empty),(tN 0),(tN 0)]) QL Qbm nofun (fun _=> .agg _ _ Y (Z8 (RL.cons (.int _ _) (RL.cons (.str _) (RL.cons (.int _ _) (RL.cons (.int _ _) (RL.nil _))))))) Y) (cO (B.storeW (us:=(Qa true e9)) (tv (T.op 3 0) Y) (tv (T.agg (Qa true e9)) Y) nofun Y Y Y Q7 Qh (bc Y (bc Y (bc Y (bc Y bn))))) (nt (sq (VRun.drawC (us:= [(T.ex pb7 nb7 mb7 (rd 1 Qj code)),(tN i9),(tI h9)]) 2 [4,7,8] (B:= [[],[],[1],[1,2,0],[0,3,1,2]]) (by kernel_rfl) (by kernel_rfl) Y (bc Y (bc Y (bc Y bn))) Y Y (lD (OL.loadOn (us:=(Qa false e9)) (tv (T.op 3 0) Y) Y Q6 Qh (lb Y) Y) Y Y (mD (T.op 4 0) Y Y ?_))))))
 refine eDC (us:= []) (r':=fun x_:D.Note=>(T.agg (Qa true x_))) (objs:=fun x_:D.Note=> []) (m:=0) (k:=4) (bi:= [1]) i9 h9 Y VWant.always Y Y Y (lb Y) (vc (tv (T.op 4 0) Y) vn) Y (by omega) ln (YL (n+0) code (by first | assumption | omega | (simp only [List.length_cons,List.length_nil];omega))) Y (fun _=>rfl) (fun _=>rfl) fun e12 i12 h12 hs12 hi12=> ?_
 have hs12:e12.Letter.size≤2:=hs12
 refine VRunD.chain (bi:= [1,2,0]) Y VWant.always Y Y Y (by kernel_rfl) (B.storeW (us:=(Qa false e9)) (tv (T.op 0 0) Y) (tv (T.agg (Qa false e9)) Y) nofun Y Y Y Q7 Qh (bc Y (bc Y (bc Y (bc Y bn))))) (VRunD.chain (bi:= [0,3,1,2]) Y VWant.always Y Y Y (by kernel_rfl) (B.storeW (us:=(Qa true e12)) (tv (T.op 1 0) Y) (tv (T.agg (Qa true e12)) Y) nofun Y Y Y Q7 Qh (bc Y (bc Y (bc Y (bc Y bn))))) (VRunD.nil (tn (rt ?_))))
 refine vfinE.r (e9,e12) ?_ (vfin.r (VRes.celln (ws:=(Qa false e9)) Y Y Q6 Qh (lb Y) Y (VRes.celln (ws:=(Qa false e12)) Y Y Q6 Qh (lb Y) Y VRes.nil)) (Give.tup (GiveL.cons (Give.agg (GiveL.cons (Give.int _ _) (GiveL.cons (Give.str _) (GiveL.cons (Give.int _ _) (GiveL.cons (Give.int _ _) GiveL.nil (by decide)) (by decide)) (by decide)) (by decide))) (GiveL.cons (Give.agg (GiveL.cons (Give.int _ _) (GiveL.cons (Give.str _) (GiveL.cons (Give.int _ _) (GiveL.cons (Give.int _ _) GiveL.nil (by decide)) (by decide)) (by decide)) (by decide))) GiveL.nil (by decide)) (by decide))))
 show True
 trivial
noncomputable section
def texts7 : List ByteArray:= [⟨#[46,46,46,47,46,46,46,47,46,46,46]⟩,⟨#[46,46,35,47,46,46,46,47,35,46,46]⟩,⟨#[46,46,46,47,46,35,46,47,46,46,46]⟩,⟨#[46,46,46,46,47,46,46,46,46,47,46,46,46,46]⟩,⟨#[46,46,46,46,35,47,46,35,46,46,46,47,46,46,46,46,46]⟩,⟨#[46,46,46,46,47,46,35,35,46,47,46,46,46,46]⟩,⟨#[46,46,46,46,46,35,47,46,35,46,35,46,46,47,46,46,46,46,46,46]⟩,⟨#[46,46,47,46,46]⟩,⟨#[35,46,46,46,47,46,46,46,46,47,46,46,46,35]⟩,⟨#[46,46,46,47,35,35,35,47,46,46,46]⟩]
def JX (g:D.Grid):Nat→ByteArray
 | 0=>⟨#[]⟩
 | r+1=>(if 0<r then JX g r++⟨#[47]⟩ else JX g r)++g.Cells.extract (r*g.Cols.toNat) ((r+1)*g.Cols.toNat)
theorem QbI (g:D.Grid) (r:Nat):JX g (r+1)=(if 0<r then JX g r++⟨#[47]⟩ else JX g r)++g.Cells.extract (r*g.Cols.toNat) ((r+1)*g.Cols.toNat):=rfl
def Jd (g:D.Grid):ByteArray:=if Qu g then JX g g.Rows.toNat else ⟨#[]⟩
theorem Qdw (g:D.Grid) (hc:g.Cells.size≤200):∀r,(JX g r).size≤r*201
 | 0=>Nat.le_refl _
 | r+1=>by
  have ih:=Qdw g hc r
  have h1:(g.Cells.extract (r*g.Cols.toNat) ((r+1)*g.Cols.toNat)).size≤200:=by
   rw [ByteArray.size_extract];omega
  have h2:(ByteArray.mk #[47]).size=1:=rfl
  unfold JX
  rw [ByteArray.size_append]
  split
  ·rw [ByteArray.size_append];omega
  ·omega
theorem JA {r:Nat} {c:Int} (hc:0≤c∧c≤6) (hr:r≤7):IntKind.i64.wrap (((r:Nat):Int)*c)=((r*c.toNat:Nat):Int):=by
 obtain ⟨k,rfl⟩:∃k:Nat,c=k:=⟨c.toNat,by omega⟩
 have h1:r*k≤7*6:=Nat.mul_le_mul hr (by omega)
 rw [Int.toNat_natCast,← Int.natCast_mul,QB (by omega)]
theorem QgU {g:D.Grid} {r:Nat} (h:Qu g) (hr:((r:Nat):Int)<g.Rows):r*g.Cols.toNat≤(r+1)*g.Cols.toNat∧(r+1)*g.Cols.toNat≤g.Cells.size:=by
 refine ⟨Nat.mul_le_mul_right _ (by omega),?_⟩
 have h1:(r+1)*g.Cols.toNat≤g.Rows.toNat*g.Cols.toNat:=Nat.mul_le_mul_right _ (by omega)
 have h2:=h.2.2.1
 have h3:((g.Rows.toNat*g.Cols.toNat:Nat):Int)=g.Rows*g.Cols:=by
  rw [Int.natCast_mul,Int.toNat_of_nonneg (by have:=h.1.1;omega),Int.toNat_of_nonneg (by have:=h.2.1.1;omega)]
 omega
theorem J0 {g:D.Grid} {r:Nat} (h1:0<r→Qu g) (h2:Qu g→r≤g.Rows.toNat) (h:¬Qu g∨¬((r:Nat):Int)<g.Rows):JX g r=Jd g:=by
 by_cases hg:Qu g
 ·have h3:=h.resolve_left (fun e=>e hg)
  have h4:=h2 hg
  rw [Jd,if_pos hg,show r=g.Rows.toNat by omega]
 ·have h0:r=0:=by
   rcases Nat.eq_zero_or_pos r with h0 | h0
   ·exact h0
   ·exact absurd (h1 h0) hg
  rw [Jd,if_neg hg,h0]
  rfl
def pgN (s:ByteArray) (i:Nat) (g:D.Grid):D.Grid :=
 let g1:=if QT s i=47 then D.Grid.mk (g.Rows+1) g.Cols g.Cells else D.Grid.mk g.Rows g.Cols (g.Cells++s.extract i (i+1))
 if g1.Rows=1 then D.Grid.mk g1.Rows ((i+1:Nat):Int) g1.Cells else g1
def pgG (s:ByteArray):Nat→D.Grid
 | 0=>D.Grid.mk 1 0 ⟨#[]⟩
 | i+1=>pgN s i (pgG s i)
theorem Qbu {s:ByteArray} {i:Nat} {R W:Int} {S:ByteArray} (h:pgG s i=D.Grid.mk R W S):pgG s (i+1)=pgN s i (D.Grid.mk R W S):=by
 show pgN s i (pgG s i)=_
 rw [h]
theorem Qek {s:ByteArray} {i:Nat} {R W:Int} {S:ByteArray} (h:QT s i=47) (h2:R+1=1):pgN s i (D.Grid.mk R W S)=D.Grid.mk (R+1) ((i+1:Nat):Int) S:=by
 unfold pgN;simp only [if_pos h,if_pos h2]
theorem Qei {s:ByteArray} {i:Nat} {R W:Int} {S:ByteArray} (h:QT s i=47) (h2:¬R+1=1):pgN s i (D.Grid.mk R W S)=D.Grid.mk (R+1) W S:=by
 unfold pgN;simp only [if_pos h,if_neg h2]
theorem Qem {s:ByteArray} {i:Nat} {R W:Int} {S:ByteArray} (h:¬QT s i=47) (h2:R=1):pgN s i (D.Grid.mk R W S)=D.Grid.mk R ((i+1:Nat):Int) (S++s.extract i (i+1)):=by
 unfold pgN;simp only [if_neg h,if_pos h2]
theorem Qeb {s:ByteArray} {i:Nat} {R W:Int} {S:ByteArray} (h:¬QT s i=47) (h2:¬R=1):pgN s i (D.Grid.mk R W S)=D.Grid.mk R W (S++s.extract i (i+1)):=by
 unfold pgN;simp only [if_neg h,if_neg h2]
theorem Qes {s S:ByteArray} {i:Nat} (h:S.size≤i):(S++s.extract i (i+1)).size≤i+1:=by
 rw [ByteArray.size_append,ByteArray.size_extract];omega
theorem rg1 {R:Int} (h:1≤R):1≤R+1:=by omega
theorem rg2 {R:Int} {i:Nat} (h:R≤((i:Nat):Int)+1):R≤((i+1:Nat):Int)+1:=by omega
theorem rg3 {R:Int} {i:Nat} (h:R≤((i:Nat):Int)+1):R+1≤((i+1:Nat):Int)+1:=by omega
def Qi (s:ByteArray):D.Grid×Bool:=if Jd (pgG s s.size)=s∧Qu (pgG s s.size) then (pgG s s.size,true) else (D.Grid.mk 0 0 ⟨#[]⟩,false)
theorem QaU {s:ByteArray} {i:Nat} {G:D.Grid} (hi:i≤s.size) (h0:¬i<s.size) (h:pgG s i=G) (h1:Jd G=s) (h2:Qu G):(G,true)=Qi s:=by
 obtain rfl:i=s.size:=by omega
 subst h
 exact (if_pos ⟨h1,h2⟩).symm
theorem Yc {s:ByteArray} {i:Nat} {G:D.Grid} (hi:i≤s.size) (h0:¬i<s.size) (h:pgG s i=G) (h1:¬Jd G=s∨¬Qu G):(D.Grid.mk 0 0 ⟨#[]⟩,false)=Qi s:=by
 obtain rfl:i=s.size:=by omega
 subst h
 exact (if_neg (fun e=>h1.elim (fun h=>h e.1) (fun h=>h e.2))).symm
end
theorem Qbl (n:Nat) (g:D.Grid) (hc:g.Cells.size≤200):Pure (QA Tryd.prog (n+3)) 104 [(T.agg (Ql false g))] (tS (Jd g)):=by
 refine Pure.intro (rs:= [ResultVar.tmp 2]) Tryd.func104 Y Y Y (E0:= [(0,(T.agg (Ql false g)))]) Y ?_
 obtain ⟨hlim,hmx,hmax⟩:=Zk
 refine sr (kO (B.box (ts:=(Ql false g)) (tv (T.agg (Ql false g)) Y) nofun Y) (fO (OF.assign (VEv.str (⟨#[]⟩:ByteArray))) (nt (sr (fO (OF.assign (VEv.str (⟨#[]⟩:ByteArray))) (nt (sq (sr (fO (OF.assign (VEv.int .i64 0)) (nt (VRun.block ?_)))))))))))
 refine VRun.loop (A:=Nat) (fun s_=> [(1,(T.op 0 0)),(2,(tS (⟨#[]⟩:ByteArray))),(3,(tS (JX g s_))),(4,(tN s_))]) (fun s_=>Jw [(0,(Obj.cells (Ql false g)))]) 1 (fun s_=>(0<s_→Qu g)∧(Qu g→s_≤g.Rows.toNat)) (fun s_=>g.Rows.toNat - s_) (0:Nat) ?_ (Wk.mk (fun k=>k) ?_ ?_ ?_) ?_
 ·exact ⟨fun h=>by omega,fun h=>Nat.zero_le _⟩
 ·exact (b2 (b2 (bc ⟨(congrArg T.str (show (⟨#[]⟩:ByteArray)=JX g 0 from (by first | rfl | assumption | (rw [QbI];first | (rw [if_pos fhc1]) | (rw [if_neg fhc1])) | (simp_all;done)))),rfl⟩ (b2 bn))))
 ·exact (b3 bn)
 ·exact nd Y
 rintro r (hI':(0<r→Qu g)∧(Qu g→r≤g.Rows.toNat))
 show VRun _ _ _ [(1,(T.op 0 0)),(2,(tS (⟨#[]⟩:ByteArray))),(3,(tS (JX g r))),(4,(tN r))] (Jw [(0,(Obj.cells (Ql false g)))]) 1 _
 have hI1:=hI'.1
 have hI2:=hI'.2
 have hsz:=Qdw g hc r
 refine sq (sr (mO (tN r) Y (lf (tI g.Rows) Y Y4 Y Y Zo (fO (xls (tv (tN r) Y) (tv (tI g.Rows) Y)) (mO (tB (decide (((r:Nat):Int)<g.Rows))) Y ?_)))))
 refine gw (((r:Nat):Int)<g.Rows) (fun fhg9_1=> ?_) fun fhg9_1=> ?_
 ·refine gL (dy fhg9_1) Y Y (OL.loadOn (us:=(Ql false g)) (tv (T.op 0 0) Y) Y ZF Q9 (lb Y) Y) ?_
  refine VRunO.chain (VWant.on Y Y (dy fhg9_1)) (cS (vc (tv (T.agg (Ql false g)) Y) vn) (LendL.cons (lg ZI) ln) (Qaa (n+0) g (by first | (exact JA (by omega) (by omega)) | (have h2:(ByteArray.mk #[47]).size=1:=rfl;omega) | (rw [ByteArray.size_append,ByteArray.size_extract];have h2:(ByteArray.mk #[47]).size=1:=rfl;omega) | (rw [ByteArray.size_extract];omega) | assumption | omega)) Y Y) (fO (OF.pickT (VEv.tmpB Y (dy fhg9_1)) (tv (tB (decide (Qu g))) Y)) (nt ?_))
  refine cd (Qu g) Y (fun fhc0=> ?_) fun fhc0=> ?_
  ·have hgr:=fhc0.1
   have hgc:=fhc0.2.1
   have hrl:=QgU fhc0 (by omega)
   refine sk (tn (sq (VRun.block (sq (sr (mO (tN r) Y (fO (B.gtr (c:=(decide (0<r))) (tv (tN r) Y) (VEv.int .i64 0) (by first | (exact JA (by omega) (by omega)) | (have h2:(ByteArray.mk #[47]).size=1:=rfl;omega) | (rw [ByteArray.size_append,ByteArray.size_extract];have h2:(ByteArray.mk #[47]).size=1:=rfl;omega) | (rw [ByteArray.size_extract];omega) | (exact Z4 (by omega)))) (nt ?_))))))))
   refine cd (0<r) Y (fun fhc1=> ?_) fun fhc1=> ?_
   ·refine VRun.region ?_
    refine mO (tS (JX g r)) Y (fO (B.sadd (tv (tS (JX g r)) Y) (VEv.str (⟨#[47]⟩:ByteArray)) (by first | (exact JA (by omega) (by omega)) | (have h2:(ByteArray.mk #[47]).size=1:=rfl;omega) | (rw [ByteArray.size_append,ByteArray.size_extract];have h2:(ByteArray.mk #[47]).size=1:=rfl;omega) | (rw [ByteArray.size_extract];omega) | omega | (simp only [List.length_map];omega) | (simp only [List.length_map,List.length_append,List.length_cons,List.length_nil,List.length_replicate,List.length_set,List.length_drop,List.length_take,Zh] at *;omega))) (aO (tS (JX g r++(⟨#[47]⟩:ByteArray))) Y (VRunO.nil (tn (VRun.region (mO (tS (JX g r++(⟨#[47]⟩:ByteArray))) Y (lf (tS g.Cells) Y Za Y Y Y7 (mO (tN r) Y (lf (tI g.Cols) Y YH Y Y Zo (fO (B.mul (n:=(((r*g.Cols.toNat):Nat):Int)) (tv (tN r) Y) (tv (tI g.Cols) Y) (by first | (exact JA (by omega) (by omega)) | (have h2:(ByteArray.mk #[47]).size=1:=rfl;omega) | (rw [ByteArray.size_append,ByteArray.size_extract];have h2:(ByteArray.mk #[47]).size=1:=rfl;omega) | (rw [ByteArray.size_extract];omega) | rfl | (rw [QB (by omega)];omega) | (rw [QB (by omega)];done))) (mO (tN r) Y ?_)))))))))))
    refine fO (ZB (tv (tN r) Y) (VEv.int .i64 1) (by first | (exact JA (by omega) (by omega)) | (have h2:(ByteArray.mk #[47]).size=1:=rfl;omega) | (rw [ByteArray.size_append,ByteArray.size_extract];have h2:(ByteArray.mk #[47]).size=1:=rfl;omega) | (rw [ByteArray.size_extract];omega) | omega)) (lf (tI g.Cols) Y YH Y Y Zo (fO (B.mul (n:=((((r+1)*g.Cols.toNat):Nat):Int)) (tv (tN (r+1)) Y) (tv (tI g.Cols) Y) (by first | (exact JA (by omega) (by omega)) | (have h2:(ByteArray.mk #[47]).size=1:=rfl;omega) | (rw [ByteArray.size_append,ByteArray.size_extract];have h2:(ByteArray.mk #[47]).size=1:=rfl;omega) | (rw [ByteArray.size_extract];omega) | rfl | (rw [QB (by omega)];omega) | (rw [QB (by omega)];done))) (lO (OL.sliceS (i:=(r*g.Cols.toNat)) (j:=((r+1)*g.Cols.toNat)) (tv (tS g.Cells) Y) (tv (tN (r*g.Cols.toNat)) Y) (tv (tN ((r+1)*g.Cols.toNat)) Y) Y Y (by first | (exact JA (by omega) (by omega)) | (have h2:(ByteArray.mk #[47]).size=1:=rfl;omega) | (rw [ByteArray.size_append,ByteArray.size_extract];have h2:(ByteArray.mk #[47]).size=1:=rfl;omega) | (rw [ByteArray.size_extract];omega) | omega | (simp only [List.length_map];omega) | (simp only [List.length_map,List.length_append,List.length_cons,List.length_nil,List.length_replicate,List.length_set,List.length_drop,List.length_take,Zh] at *;omega)) (by first | (exact JA (by omega) (by omega)) | (have h2:(ByteArray.mk #[47]).size=1:=rfl;omega) | (rw [ByteArray.size_append,ByteArray.size_extract];have h2:(ByteArray.mk #[47]).size=1:=rfl;omega) | (rw [ByteArray.size_extract];omega) | omega | (simp only [List.length_map];omega) | (simp only [List.length_map,List.length_append,List.length_cons,List.length_nil,List.length_replicate,List.length_set,List.length_drop,List.length_take,Zh] at *;omega)) U9) (fO (B.sadd (tv (tS (JX g r++(⟨#[47]⟩:ByteArray))) Y) (tv (tS (g.Cells.extract (r*g.Cols.toNat) ((r+1)*g.Cols.toNat))) Y) (by first | (exact JA (by omega) (by omega)) | (have h2:(ByteArray.mk #[47]).size=1:=rfl;omega) | (rw [ByteArray.size_append,ByteArray.size_extract];have h2:(ByteArray.mk #[47]).size=1:=rfl;omega) | (rw [ByteArray.size_extract];omega) | omega | (simp only [List.length_map];omega) | (simp only [List.length_map,List.length_append,List.length_cons,List.length_nil,List.length_replicate,List.length_set,List.length_drop,List.length_take,Zh] at *;omega))) (aO (tS ((JX g r++(⟨#[47]⟩:ByteArray))++(g.Cells.extract (r*g.Cols.toNat) ((r+1)*g.Cols.toNat)))) Y (VRunO.nil (vinB.n (tn (VRun.region (mO (tN r) Y (fO (ZB (tv (tN r) Y) (VEv.int .i64 1) (by first | (exact JA (by omega) (by omega)) | (have h2:(ByteArray.mk #[47]).size=1:=rfl;omega) | (rw [ByteArray.size_append,ByteArray.size_extract];have h2:(ByteArray.mk #[47]).size=1:=rfl;omega) | (rw [ByteArray.size_extract];omega) | omega)) ?_)))))))))))
    refine aO (tN (r+1)) Y (VRunO.nil (tn ?_))
    refine ⟨(r+1:Nat),?_,?_,Wk.mk (fun k=>k) ?_ ?_ ?_⟩
    ·exact ⟨fun _=>fhc0,fun _=>by omega⟩
    ·first | omega | (simp only [];omega) | (show _<_;omega) | (simp;omega)
    ·exact (b2 (b2 (bc ⟨(congrArg T.str (show ((JX g r++(⟨#[47]⟩:ByteArray))++(g.Cells.extract (r*g.Cols.toNat) ((r+1)*g.Cols.toNat)))=JX g (r+1) from (by first | rfl | assumption | (rw [QbI];first | (rw [if_pos fhc1]) | (rw [if_neg fhc1])) | (simp_all;done)))),rfl⟩ (b2 bn))))
    ·exact (b3 bn)
    ·exact nd Y
   refine sk (tn (VRun.region (mO (tS (JX g r)) Y (lf (tS g.Cells) Y Za Y Y Y7 (mO (tN r) Y (lf (tI g.Cols) Y YH Y Y Zo (fO (B.mul (n:=(((r*g.Cols.toNat):Nat):Int)) (tv (tN r) Y) (tv (tI g.Cols) Y) (by first | (exact JA (by omega) (by omega)) | (have h2:(ByteArray.mk #[47]).size=1:=rfl;omega) | (rw [ByteArray.size_append,ByteArray.size_extract];have h2:(ByteArray.mk #[47]).size=1:=rfl;omega) | (rw [ByteArray.size_extract];omega) | rfl | (rw [QB (by omega)];omega) | (rw [QB (by omega)];done))) (mO (tN r) Y (fO (ZB (tv (tN r) Y) (VEv.int .i64 1) (by first | (exact JA (by omega) (by omega)) | (have h2:(ByteArray.mk #[47]).size=1:=rfl;omega) | (rw [ByteArray.size_append,ByteArray.size_extract];have h2:(ByteArray.mk #[47]).size=1:=rfl;omega) | (rw [ByteArray.size_extract];omega) | omega)) (lf (tI g.Cols) Y YH Y Y Zo (fO (B.mul (n:=((((r+1)*g.Cols.toNat):Nat):Int)) (tv (tN (r+1)) Y) (tv (tI g.Cols) Y) (by first | (exact JA (by omega) (by omega)) | (have h2:(ByteArray.mk #[47]).size=1:=rfl;omega) | (rw [ByteArray.size_append,ByteArray.size_extract];have h2:(ByteArray.mk #[47]).size=1:=rfl;omega) | (rw [ByteArray.size_extract];omega) | rfl | (rw [QB (by omega)];omega) | (rw [QB (by omega)];done))) ?_)))))))))))
   refine lO (OL.sliceS (i:=(r*g.Cols.toNat)) (j:=((r+1)*g.Cols.toNat)) (tv (tS g.Cells) Y) (tv (tN (r*g.Cols.toNat)) Y) (tv (tN ((r+1)*g.Cols.toNat)) Y) Y Y (by first | (exact JA (by omega) (by omega)) | (have h2:(ByteArray.mk #[47]).size=1:=rfl;omega) | (rw [ByteArray.size_append,ByteArray.size_extract];have h2:(ByteArray.mk #[47]).size=1:=rfl;omega) | (rw [ByteArray.size_extract];omega) | omega | (simp only [List.length_map];omega) | (simp only [List.length_map,List.length_append,List.length_cons,List.length_nil,List.length_replicate,List.length_set,List.length_drop,List.length_take,Zh] at *;omega)) (by first | (exact JA (by omega) (by omega)) | (have h2:(ByteArray.mk #[47]).size=1:=rfl;omega) | (rw [ByteArray.size_append,ByteArray.size_extract];have h2:(ByteArray.mk #[47]).size=1:=rfl;omega) | (rw [ByteArray.size_extract];omega) | omega | (simp only [List.length_map];omega) | (simp only [List.length_map,List.length_append,List.length_cons,List.length_nil,List.length_replicate,List.length_set,List.length_drop,List.length_take,Zh] at *;omega)) U9) (fO (B.sadd (tv (tS (JX g r)) Y) (tv (tS (g.Cells.extract (r*g.Cols.toNat) ((r+1)*g.Cols.toNat))) Y) (by first | (exact JA (by omega) (by omega)) | (have h2:(ByteArray.mk #[47]).size=1:=rfl;omega) | (rw [ByteArray.size_append,ByteArray.size_extract];have h2:(ByteArray.mk #[47]).size=1:=rfl;omega) | (rw [ByteArray.size_extract];omega) | omega | (simp only [List.length_map];omega) | (simp only [List.length_map,List.length_append,List.length_cons,List.length_nil,List.length_replicate,List.length_set,List.length_drop,List.length_take,Zh] at *;omega))) (aO (tS (JX g r++(g.Cells.extract (r*g.Cols.toNat) ((r+1)*g.Cols.toNat)))) Y (VRunO.nil (vinB.n (tn (VRun.region (mO (tN r) Y (fO (ZB (tv (tN r) Y) (VEv.int .i64 1) (by first | (exact JA (by omega) (by omega)) | (have h2:(ByteArray.mk #[47]).size=1:=rfl;omega) | (rw [ByteArray.size_append,ByteArray.size_extract];have h2:(ByteArray.mk #[47]).size=1:=rfl;omega) | (rw [ByteArray.size_extract];omega) | omega)) (aO (tN (r+1)) Y (VRunO.nil (tn ?_)))))))))))
   refine ⟨(r+1:Nat),?_,?_,Wk.mk (fun k=>k) ?_ ?_ ?_⟩
   ·exact ⟨fun _=>fhc0,fun _=>by omega⟩
   ·first | omega | (simp only [];omega) | (show _<_;omega) | (simp;omega)
   ·exact (b2 (b2 (bc ⟨(congrArg T.str (show (JX g r++(g.Cells.extract (r*g.Cols.toNat) ((r+1)*g.Cols.toNat)))=JX g (r+1) from (by first | rfl | assumption | (rw [QbI];first | (rw [if_pos fhc1]) | (rw [if_neg fhc1])) | (simp_all;done)))),rfl⟩ (b2 bn))))
   ·exact (b3 bn)
   ·exact nd Y
  refine VRun.exit (vthn.e (vthn.e (vinB.e (tn (sr (mO (tS (JX g r)) Y (aO (tS (JX g r)) Y (nt (rt ?_)))))))))
  refine vfin.eq (r':=(tS (JX g r))) ?_ (vfin.r (VRes.tmp (t:=(tS (JX g r))) Y VRes.nil) (Give.str _))
  refine congrArg T.str ?_
  first | (exact J0 hI1 hI2 (.inl fhc0)) | (exact J0 hI1 hI2 (.inr (by assumption)))
 refine Q2 2 4 true 9 (dz fhg9_1) Y Y Y (fO (OF.pickF (VEv.tmpB Y (dz fhg9_1)) (VEv.bool false)) (nt (cf Y (VRun.exit (vthn.e (vthn.e (vinB.e (tn (sr (mO (tS (JX g r)) Y (aO (tS (JX g r)) Y ?_)))))))))))
 refine nt (rt ?_)
 refine vfin.eq (r':=(tS (JX g r))) ?_ (vfin.r (VRes.tmp (t:=(tS (JX g r))) Y VRes.nil) (Give.str _))
 refine congrArg T.str ?_
 first | (exact J0 hI1 hI2 (.inl fhc0)) | (exact J0 hI1 hI2 (.inr (by assumption)))
theorem Qa2 (n:Nat) (s:ByteArray) (hs:s.size≤100):Pure (QA Tryd.prog (n+4)) 90 [(tS s)] (T.tup [(T.agg (Ql true ((Qi s).1))),(tB ((Qi s).2))]):=by
 refine Pure.intro (rs:= [ResultVar.cell 2 52,ResultVar.tmp 3]) Tryd.func90 Y Y Y (E0:= [(0,(tS s))]) Y ?_
 obtain ⟨hlim,hmx,hmax⟩:=Zk
 refine sr (kO (B.alloc (t:=(T.agg [(tN 0),(tN 0),(tS ByteArray.empty)])) (ts:= [(tN 0),(tN 0),(tS ByteArray.empty)]) QaJ Qb6 nofun (fun _=> .agg _ _ Y (Z8 (RL.cons (.int _ _) (RL.cons (.int _ _) (RL.cons (.str _) (RL.nil _)))))) Y) (fO (OF.assign (VEv.bool false)) (nt (sr (fO (OF.build (l:= [(0,(tN 1))]) (zs:= [(tN 0),(tN 0),(tS ByteArray.empty)]) (out:= [(tN 1),(tN 0),(tS ByteArray.empty)]) (VEvp.cons (i:=0) (VEv.int .i64 1) VEvp.nil) (bc nofun bn) Tryd.underlying52 QaJ (fun _=>RL.cons (.int _ _) (RL.cons (.int _ _) (RL.cons (.str _) (RL.nil _)))) (by kernel_rfl) (by kernel_rfl)) (kO (B.alloc (t:=(T.agg [(tN 0),(tN 0),(tS ByteArray.empty)])) (ts:= [(tN 0),(tN 0),(tS ByteArray.empty)]) QaJ Qb6 nofun (fun _=> .agg _ _ Y (Z8 (RL.cons (.int _ _) (RL.cons (.int _ _) (RL.cons (.str _) (RL.nil _)))))) Y) (cO (B.storeW (us:= [(tN 1),(tN 0),(tS ByteArray.empty)]) (tv (T.op 1 0) Y) (tv (T.agg [(tN 1),(tN 0),(tS ByteArray.empty)]) Y) nofun Y Y Y Jz Q9 (bc Y (bc Y (bc Y bn)))) (nt (sq (sr (fO (OF.assign (VEv.int .i64 0)) ?_)))))))))))
 refine nt (VRun.block ?_)
 refine VRun.loop (A:=Nat×Int×Int×ByteArray) (fun s_=> [(0,(tS s)),(2,(T.op 0 0)),(3,(tB false)),(4,(T.op 1 0)),(5,(tN s_.1))]) (fun s_=>Jw [(0,(Obj.cells [(tN 0),(tN 0),(tS ByteArray.empty)])),(1,(Obj.cells [(tI s_.2.1),(tI s_.2.2.1),(tS s_.2.2.2)]))]) 2 (fun s_=>s_.1≤s.size∧pgG s s_.1=D.Grid.mk s_.2.1 s_.2.2.1 s_.2.2.2∧(1≤s_.2.1∧s_.2.1≤((s_.1:Nat):Int)+1)∧s_.2.2.2.size≤s_.1) (fun s_=>s.size - s_.1) ((0,1,0,ByteArray.empty):Nat×Int×Int×ByteArray) ?_ (Wk.mk (fun k=>k) ?_ ?_ ?_) ?_
 ·exact ⟨Nat.zero_le _,rfl,⟨by decide,by decide⟩,Nat.le_refl _⟩
 ·exact (b2 (b2 (b2 (b2 (b2 bn)))))
 ·exact (b3 (b3 bn))
 ·exact nd Y
 rintro ⟨i,R,W,S⟩ (hI':i≤s.size∧pgG s i=D.Grid.mk R W S∧(1≤R∧R≤((i:Nat):Int)+1)∧S.size≤i)
 show VRun _ _ _ [(0,(tS s)),(2,(T.op 0 0)),(3,(tB false)),(4,(T.op 1 0)),(5,(tN i))] (Jw [(0,(Obj.cells [(tN 0),(tN 0),(tS ByteArray.empty)])),(1,(Obj.cells [(tI R),(tI W),(tS S)]))]) 2 _
 have hI1:=hI'.1
 have hI2:=hI'.2.1
 have hI3:=hI'.2.2.1
 have hI4:=hI'.2.2.2
 refine sq (sr (mO (tN i) Y (mO (tS s) Y (lO (B.lenS (tv (tS s) Y) U9) (fO (Jx (tv (tN i) Y) (tv (tN s.size) Y)) (nt ?_))))))
 refine cd (i<s.size) Y (fun fhc0=> ?_) fun fhc0=> ?_
 ·refine sk ?_
  refine tn (sq (VRun.block (sq (sr (mO (tS s) Y (mO (tN i) Y ?_))))))
  have hb1:i<s.size:=(by first | (rw [ByteArray.size_append,ByteArray.size_extract];omega) | (rw [ByteArray.size_extract];omega) | (show S.size≤_;omega) | (show S.size<_;omega) | omega)
  refine fO (xix (tv (tS s) Y) (tv (tN i) Y) hb1 U9) (fO (xeq (tv (T.int .u8 (QT s i)) Y) (VEv.int .u8 47)) (nt ?_))
  refine cd (QT s i=47) Y (fun fhc1=> ?_) fun fhc1=> ?_
  ·refine VRun.region ?_
   refine lf (tI R) Y Y4 Y Y Zo (fO (B.add (n:=(R+1)) (tv (tI R) Y) (VEv.int .i64 1) (by first | (rw [ByteArray.size_append,ByteArray.size_extract];omega) | (rw [ByteArray.size_extract];omega) | (show S.size≤_;omega) | (show S.size<_;omega) | rfl | (rw [QB (by omega)];omega) | (rw [QB (by omega)];done))) (fO (OF.fieldAddrO (tv (T.op 1 0) Y) Y4) (cO (B.storeO (us:= [(tI (R+1))]) (ws:= [(tI (R+1)),(tI W),(tS S)]) (tv (T.op 1 0) Y) (tv (tI (R+1)) Y) nofun Y Y (lb Y) if3 sz3 (bc Y bn) Y) (VRunO.nil (tn (sr (lf (tI (R+1)) Y Y4 Y Y Zo (fO (xeq (tv (tI (R+1)) Y) (VEv.int .i64 1)) (nt ?_)))))))))
   refine cd ((R+1)=1) Y (fun fhc2=> ?_) fun fhc2=> ?_
   ·refine VRun.region ?_
    refine mO (tN i) Y (fO (ZB (tv (tN i) Y) (VEv.int .i64 1) (by first | (rw [ByteArray.size_append,ByteArray.size_extract];omega) | (rw [ByteArray.size_extract];omega) | (show S.size≤_;omega) | (show S.size<_;omega) | omega)) (fO (OF.fieldAddrO (tv (T.op 1 0) Y) YH) (cO (B.storeO (us:= [(tN (i+1))]) (ws:= [(tI (R+1)),(tN (i+1)),(tS S)]) (tv (T.op 1 1) Y) (tv (tN (i+1)) Y) nofun Y Y (lb Y) if3 sz3 (bc Y bn) Y) (VRunO.nil (vinB.n (tn (VRun.region (mO (tN i) Y (fO (ZB (tv (tN i) Y) (VEv.int .i64 1) (by first | (rw [ByteArray.size_append,ByteArray.size_extract];omega) | (rw [ByteArray.size_extract];omega) | (show S.size≤_;omega) | (show S.size<_;omega) | omega)) (aO (tN (i+1)) Y (VRunO.nil ?_)))))))))))
    refine tn ?_
    have he2:(((i+1):Nat):Int)=(((i+1):Nat):Int):=by first | rfl | (simp;done) | omega
    refine ⟨((i+1,(R+1),(((i+1):Nat):Int),S):Nat×Int×Int×ByteArray),?_,?_,Wk.mk (fun k=>k) ?_ ?_ ?_⟩
    ·refine ⟨(show i+1≤s.size by omega),((Qbu hI2).trans ?_),⟨?_,?_⟩,?_⟩
     ·first | exact Qek fhc1 fhc2 | exact Qei fhc1 fhc2 | exact Qem fhc1 fhc2 | exact Qeb fhc1 fhc2
     ·first | exact hI3.1 | exact rg1 hI3.1
     ·first | exact rg2 hI3.2 | exact rg3 hI3.2
     ·first | exact Nat.le_trans hI4 (Nat.le_succ i) | exact Qes hI4
    ·first | omega | (simp only [];omega) | (show _<_;omega) | (simp;omega)
    ·exact (b2 (b2 (b2 (b2 (b2 bn)))))
    ·exact (b3 (bc ⟨(congrArg (fun l_=>some (Obj.cells [(tI (R+1)),(tI l_),(tS S)])) he2),(lb Y),rfl⟩ bn))
    ·exact nd Y
   refine sk (vinB.n (tn (VRun.region (mO (tN i) Y (fO (ZB (tv (tN i) Y) (VEv.int .i64 1) (by first | (rw [ByteArray.size_append,ByteArray.size_extract];omega) | (rw [ByteArray.size_extract];omega) | (show S.size≤_;omega) | (show S.size<_;omega) | omega)) (aO (tN (i+1)) Y (VRunO.nil (tn ?_))))))))
   refine ⟨((i+1,(R+1),W,S):Nat×Int×Int×ByteArray),?_,?_,Wk.mk (fun k=>k) ?_ ?_ ?_⟩
   ·refine ⟨(show i+1≤s.size by omega),((Qbu hI2).trans ?_),⟨?_,?_⟩,?_⟩
    ·first | exact Qek fhc1 fhc2 | exact Qei fhc1 fhc2 | exact Qem fhc1 fhc2 | exact Qeb fhc1 fhc2
    ·first | exact hI3.1 | exact rg1 hI3.1
    ·first | exact rg2 hI3.2 | exact rg3 hI3.2
    ·first | exact Nat.le_trans hI4 (Nat.le_succ i) | exact Qes hI4
   ·first | omega | (simp only [];omega) | (show _<_;omega) | (simp;omega)
   ·exact (b2 (b2 (b2 (b2 (b2 bn)))))
   ·exact (b3 (b3 bn))
   ·exact nd Y
  refine VRun.draw (B:= [[],[0],[],[],[],[4],[4,5,3,2],[2,3,5,4,6,0,1],[7,6,5,4,3,2,1,0],[0,1,2,3,4,5,6,7,8]]) (by kernel_rfl) (by kernel_rfl) Y (fD (OF.fieldAddrO (tv (T.op 1 0) Y) Za) Y Y (lD (OL.loadO1 (t:=(tS S)) (tv (T.op 1 2) Y) Y Y Y7) Y Y (mD (tS s) Y Y (mD (tN i) Y Y (mD (tN i) Y Y (fD (ZB (tv (tN i) Y) (VEv.int .i64 1) (by first | (rw [ByteArray.size_append,ByteArray.size_extract];omega) | (rw [ByteArray.size_extract];omega) | (show S.size≤_;omega) | (show S.size<_;omega) | omega)) Y Y (lD (OL.sliceS (i:=i) (j:=(i+1)) (tv (tS s) Y) (tv (tN i) Y) (tv (tN (i+1)) Y) Y Y (by first | (rw [ByteArray.size_append,ByteArray.size_extract];omega) | (rw [ByteArray.size_extract];omega) | (show S.size≤_;omega) | (show S.size<_;omega) | omega | (simp only [List.length_map];omega) | (simp only [List.length_map,List.length_append,List.length_cons,List.length_nil,List.length_replicate,List.length_set,List.length_drop,List.length_take,Zh] at *;omega)) (by first | (rw [ByteArray.size_append,ByteArray.size_extract];omega) | (rw [ByteArray.size_extract];omega) | (show S.size≤_;omega) | (show S.size<_;omega) | omega | (simp only [List.length_map];omega) | (simp only [List.length_map,List.length_append,List.length_cons,List.length_nil,List.length_replicate,List.length_set,List.length_drop,List.length_take,Zh] at *;omega)) U9) Y Y (fD (B.sadd (tv (tS S) Y) (tv (tS (s.extract i (i+1))) Y) (by first | (rw [ByteArray.size_append,ByteArray.size_extract];omega) | (rw [ByteArray.size_extract];omega) | (show S.size≤_;omega) | (show S.size<_;omega) | omega | (simp only [List.length_map];omega) | (simp only [List.length_map,List.length_append,List.length_cons,List.length_nil,List.length_replicate,List.length_set,List.length_drop,List.length_take,Zh] at *;omega))) Y Y (fD (OF.fieldAddrO (tv (T.op 1 0) Y) Za) Y Y (VRunD.chain (bi:= [0,1,2,3,4,5,6,7,8]) Y VWant.always Y Y Y (by kernel_rfl) (B.storeO (us:= [(tS (S++(s.extract i (i+1))))]) (ws:= [(tI R),(tI W),(tS (S++(s.extract i (i+1))))]) (tv (T.op 1 2) Y) (tv (tS (S++(s.extract i (i+1)))) Y) nofun Y Y (lb Y) if9 sz9 (bc Y bn) Y) (VRunD.nil ?_)))))))))))
  refine tn (sr (lf (tI R) Y Y4 Y Y Zo (fO (xeq (tv (tI R) Y) (VEv.int .i64 1)) (nt ?_))))
  refine cd (R=1) Y (fun fhc2=> ?_) fun fhc2=> ?_
  ·refine VRun.region ?_
   refine mO (tN i) Y (fO (ZB (tv (tN i) Y) (VEv.int .i64 1) (by first | (rw [ByteArray.size_append,ByteArray.size_extract];omega) | (rw [ByteArray.size_extract];omega) | (show S.size≤_;omega) | (show S.size<_;omega) | omega)) (fO (OF.fieldAddrO (tv (T.op 1 0) Y) YH) (cO (B.storeO (us:= [(tN (i+1))]) (ws:= [(tI R),(tN (i+1)),(tS (S++(s.extract i (i+1))))]) (tv (T.op 1 1) Y) (tv (tN (i+1)) Y) nofun Y Y (lb Y) if3 sz3 (bc Y bn) Y) (VRunO.nil (vinB.n (tn (VRun.region (mO (tN i) Y (fO (ZB (tv (tN i) Y) (VEv.int .i64 1) (by first | (rw [ByteArray.size_append,ByteArray.size_extract];omega) | (rw [ByteArray.size_extract];omega) | (show S.size≤_;omega) | (show S.size<_;omega) | omega)) (aO (tN (i+1)) Y (VRunO.nil ?_)))))))))))
   refine tn ?_
   have he3:(((i+1):Nat):Int)=(((i+1):Nat):Int):=by first | rfl | (simp;done) | omega
   refine ⟨((i+1,R,(((i+1):Nat):Int),(S++(s.extract i (i+1)))):Nat×Int×Int×ByteArray),?_,?_,Wk.mk (fun k=>k) ?_ ?_ ?_⟩
   ·refine ⟨(show i+1≤s.size by omega),((Qbu hI2).trans ?_),⟨?_,?_⟩,?_⟩
    ·first | exact Qek fhc1 fhc2 | exact Qei fhc1 fhc2 | exact Qem fhc1 fhc2 | exact Qeb fhc1 fhc2
    ·first | exact hI3.1 | exact rg1 hI3.1
    ·first | exact rg2 hI3.2 | exact rg3 hI3.2
    ·first | exact Nat.le_trans hI4 (Nat.le_succ i) | exact Qes hI4
   ·first | omega | (simp only [];omega) | (show _<_;omega) | (simp;omega)
   ·exact (b2 (b2 (b2 (b2 (b2 bn)))))
   ·exact (b3 (bc ⟨(congrArg (fun l_=>some (Obj.cells [(tI R),(tI l_),(tS (S++(s.extract i (i+1))))])) he3),(lb Y),rfl⟩ bn))
   ·exact nd Y
  refine sk (vinB.n (tn (VRun.region (mO (tN i) Y (fO (ZB (tv (tN i) Y) (VEv.int .i64 1) (by first | (rw [ByteArray.size_append,ByteArray.size_extract];omega) | (rw [ByteArray.size_extract];omega) | (show S.size≤_;omega) | (show S.size<_;omega) | omega)) (aO (tN (i+1)) Y (VRunO.nil (tn ?_))))))))
  refine ⟨((i+1,R,W,(S++(s.extract i (i+1)))):Nat×Int×Int×ByteArray),?_,?_,Wk.mk (fun k=>k) ?_ ?_ ?_⟩
  ·refine ⟨(show i+1≤s.size by omega),((Qbu hI2).trans ?_),⟨?_,?_⟩,?_⟩
   ·first | exact Qek fhc1 fhc2 | exact Qei fhc1 fhc2 | exact Qem fhc1 fhc2 | exact Qeb fhc1 fhc2
   ·first | exact hI3.1 | exact rg1 hI3.1
   ·first | exact rg2 hI3.2 | exact rg3 hI3.2
   ·first | exact Nat.le_trans hI4 (Nat.le_succ i) | exact Qes hI4
  ·first | omega | (simp only [];omega) | (show _<_;omega) | (simp;omega)
  ·exact (b2 (b2 (b2 (b2 (b2 bn)))))
  ·exact (b3 (b3 bn))
  ·exact nd Y
 refine VRun.exit (vthn.e (vthn.e (vinB.e (tn (sq (sr (lO (OL.loadOn (us:= [(tI R),(tI W),(tS S)]) (tv (T.op 1 0) Y) Y ZF Q9 (lb Y) Y) (cO (cS (us:= [(T.agg [(tI R),(tI W),(tS S)])]) (vc (tv (T.agg [(tI R),(tI W),(tS S)]) Y) vn) (LendL.cons (Lend.agg (LendL.cons (Lend.pl Y) (LendL.cons (Lend.pl Y) (LendL.cons (Lend.pl Y) ln)))) ln) (Qbl (n+0) (D.Grid.mk R W S) (by first | (rw [ByteArray.size_append,ByteArray.size_extract];omega) | (rw [ByteArray.size_extract];omega) | (show S.size≤_;omega) | (show S.size<_;omega) | assumption | omega)) Y Y) (mO (tS s) Y (fO (B.sneq (c:=(!(decide (Jd (D.Grid.mk R W S)=s)))) (tv (tS (Jd (D.Grid.mk R W S))) Y) (tv (tS s) Y) Y) (mO (tB (!(decide (Jd (D.Grid.mk R W S)=s)))) Y ?_)))))))))))
 refine gn (Jd (D.Grid.mk R W S)=s) (fun fhg40_4=> ?_) fun fhg40_4=> ?_
 ·refine Q2 3 4 false 40 (ny fhg40_4) Y Y Y ?_
  refine fO (OF.pickT (VEv.tmpB Y (ny fhg40_4)) (VEv.bool true)) (nt (ct Y (sr (fO (OF.build (l:= []) (zs:= [(tN 0),(tN 0),(tS ByteArray.empty)]) (out:= [(tN 0),(tN 0),(tS ByteArray.empty)]) VEvp.nil bn Tryd.underlying52 QaJ (fun _=>RL.cons (.int _ _) (RL.cons (.int _ _) (RL.cons (.str _) (RL.nil _)))) (by kernel_rfl) (by kernel_rfl)) (cO (B.storeW (us:= [(tN 0),(tN 0),(tS ByteArray.empty)]) (tv (T.op 0 0) Y) (tv (T.agg [(tN 0),(tN 0),(tS ByteArray.empty)]) Y) nofun Y Y Y Jz Q9 (bc Y (bc Y (bc Y bn)))) (fO (OF.assign (VEv.bool false)) (nt (rt (tr ?_)))))))))
  refine vfin.eq (r':=(T.tup [(T.agg [(tN 0),(tN 0),(tS ByteArray.empty)]),(tB false)])) ?_ (vfin.r (VRes.celln (ws:= [(tN 0),(tN 0),(tS ByteArray.empty)]) Y Y ZF Q9 (lb Y) Y (VRes.tmp (t:=(tB false)) Y VRes.nil)) (Give.tup (GiveL.cons (Give.agg (GiveL.cons (Give.int _ _) (GiveL.cons (Give.int _ _) (GiveL.cons (Give.str _) GiveL.nil (by decide)) (by decide)) (by decide))) (GiveL.cons (Give.bool _) GiveL.nil (by decide)) (by decide))))
  first | exact congrArg (fun q=>T.tup [T.agg (Ql true q.1),tB q.2]) (QaU hI1 fhc0 hI2 (by assumption) (by assumption)) | exact congrArg (fun q=>T.tup [T.agg (Ql true q.1),tB q.2]) (Yc hI1 fhc0 hI2 (.inl (by assumption))) | exact congrArg (fun q=>T.tup [T.agg (Ql true q.1),tB q.2]) (Yc hI1 fhc0 hI2 (.inr (by assumption)))
 refine gL (nz fhg40_4) Y Y (OL.loadOn (us:= [(tI R),(tI W),(tS S)]) (tv (T.op 1 0) Y) Y ZF Q9 (lb Y) Y) (VRunO.chain (VWant.on Y Y (nz fhg40_4)) (cS (us:= [(T.agg [(tI R),(tI W),(tS S)])]) (vc (tv (T.agg [(tI R),(tI W),(tS S)]) Y) vn) (LendL.cons (Lend.agg (LendL.cons (Lend.pl Y) (LendL.cons (Lend.pl Y) (LendL.cons (Lend.pl Y) ln)))) ln) (Qaa (n+1) (D.Grid.mk R W S) (by first | (rw [ByteArray.size_append,ByteArray.size_extract];omega) | (rw [ByteArray.size_extract];omega) | (show S.size≤_;omega) | (show S.size<_;omega) | assumption | omega)) Y Y) (gF (nz fhg40_4) Y Y (QZ (tv (tB (decide (Qu (D.Grid.mk R W S)))) Y)) (fO (OF.pickF (VEv.tmpB Y (nz fhg40_4)) (tv (tB (!(decide (Qu (D.Grid.mk R W S))))) Y)) (nt ?_))))
 refine cn (Qu (D.Grid.mk R W S)) Y (fun fhc3=> ?_) fun fhc3=> ?_
 ·refine sr ?_
  refine fO (OF.build (l:= []) (zs:= [(tN 0),(tN 0),(tS ByteArray.empty)]) (out:= [(tN 0),(tN 0),(tS ByteArray.empty)]) VEvp.nil bn Tryd.underlying52 QaJ (fun _=>RL.cons (.int _ _) (RL.cons (.int _ _) (RL.cons (.str _) (RL.nil _)))) (by kernel_rfl) (by kernel_rfl)) (cO (B.storeW (us:= [(tN 0),(tN 0),(tS ByteArray.empty)]) (tv (T.op 0 0) Y) (tv (T.agg [(tN 0),(tN 0),(tS ByteArray.empty)]) Y) nofun Y Y Y Jz Q9 (bc Y (bc Y (bc Y bn)))) (fO (OF.assign (VEv.bool false)) (nt (rt (tr ?_)))))
  refine vfin.eq (r':=(T.tup [(T.agg [(tN 0),(tN 0),(tS ByteArray.empty)]),(tB false)])) ?_ (vfin.r (VRes.celln (ws:= [(tN 0),(tN 0),(tS ByteArray.empty)]) Y Y ZF Q9 (lb Y) Y (VRes.tmp (t:=(tB false)) Y VRes.nil)) (Give.tup (GiveL.cons (Give.agg (GiveL.cons (Give.int _ _) (GiveL.cons (Give.int _ _) (GiveL.cons (Give.str _) GiveL.nil (by decide)) (by decide)) (by decide))) (GiveL.cons (Give.bool _) GiveL.nil (by decide)) (by decide))))
  first | exact congrArg (fun q=>T.tup [T.agg (Ql true q.1),tB q.2]) (QaU hI1 fhc0 hI2 (by assumption) (by assumption)) | exact congrArg (fun q=>T.tup [T.agg (Ql true q.1),tB q.2]) (Yc hI1 fhc0 hI2 (.inl (by assumption))) | exact congrArg (fun q=>T.tup [T.agg (Ql true q.1),tB q.2]) (Yc hI1 fhc0 hI2 (.inr (by assumption)))
 refine sk (tn (sr (lO (OL.loadOn (us:= [(tI R),(tI W),(tS S)]) (tv (T.op 1 0) Y) Y ZF Q9 (lb Y) Y) (cO (B.storeW (us:= [(tI R),(tI W),(tS S)]) (tv (T.op 0 0) Y) (tv (T.agg [(tI R),(tI W),(tS S)]) Y) nofun Y Y Y Jz Q9 (bc Y (bc Y (bc Y bn)))) (fO (OF.assign (VEv.bool true)) (nt (rt ?_)))))))
 refine vfin.eq (r':=(T.tup [(T.agg [(tI R),(tI W),(tS S)]),(tB true)])) ?_ (vfin.r (VRes.celln (ws:= [(tI R),(tI W),(tS S)]) Y Y ZF Q9 (lb Y) Y (VRes.tmp (t:=(tB true)) Y VRes.nil)) (Give.tup (GiveL.cons (Give.agg (GiveL.cons (Give.int _ _) (GiveL.cons (Give.int _ _) (GiveL.cons (Give.str _) GiveL.nil (by decide)) (by decide)) (by decide))) (GiveL.cons (Give.bool _) GiveL.nil (by decide)) (by decide))))
 first | exact congrArg (fun q=>T.tup [T.agg (Ql true q.1),tB q.2]) (QaU hI1 fhc0 hI2 (by assumption) (by assumption)) | exact congrArg (fun q=>T.tup [T.agg (Ql true q.1),tB q.2]) (Yc hI1 fhc0 hI2 (.inl (by assumption))) | exact congrArg (fun q=>T.tup [T.agg (Ql true q.1),tB q.2]) (Yc hI1 fhc0 hI2 (.inr (by assumption)))
noncomputable section
def Qfr (g:D.Grid):Bool:=decide (2≤g.Rows∧g.Rows≤6) && decide (2≤g.Cols∧g.Cols≤6) && decide (((g.Cells.size:Nat):Int)=g.Rows*g.Cols) && (List.range g.Cells.size).all (fun j=>decide (QT g.Cells j=35) || decide (QT g.Cells j=46))
theorem QfG {g:D.Grid} (h:Qfr g=true):Qu g:=by
 simp only [Qfr,Bool.and_eq_true,decide_eq_true_eq,List.all_eq_true,List.mem_range,Bool.or_eq_true] at h
 exact ⟨h.1.1.1,h.1.1.2,h.1.2,fun j hj=>h.2 j hj⟩
def txB (s:ByteArray):Bool:=Qfr (pgG s s.size) && decide ((JX (pgG s s.size) (pgG s s.size).Rows.toNat).data.toList=s.data.toList) && decide (1≤(pgG s s.size).Cells.size) && decide ((pgG s s.size).Cells.size≤100) && decide (s.size≤100)
theorem QgE {s:ByteArray} (h:txB s=true):s.size≤100∧1≤(Qi s).1.Cells.size∧(Qi s).1.Cells.size≤100:=by
 simp only [txB,Bool.and_eq_true,decide_eq_true_eq] at h
 obtain ⟨⟨⟨⟨h1,h2⟩,h3⟩,h4⟩,h5⟩:=h
 have hg:=QfG h1
 have ht:Jd (pgG s s.size)=s:=by
  rw [Jd,if_pos hg]
  exact ByteArray.ext (Array.ext' h2)
 have e:Qi s=(pgG s s.size,true):=if_pos ⟨ht,hg⟩
 rw [e]
 exact ⟨h5,h3,h4⟩
theorem QfA : texts7.all txB=true:=by decide +kernel
theorem QeN : ∀y∈texts7,y.size≤100∧1≤(Qi y).1.Cells.size∧(Qi y).1.Cells.size≤100:=fun y hy=>QgE (List.all_eq_true.1 QfA y hy)
end
theorem QbZ (n:Nat):PureE (QA Tryd.prog (n+1)) 91 [] (fun x:List ByteArray=>x.length=10∧∀y∈x,y.size≤100∧1≤(Qi y).1.Cells.size∧(Qi y).1.Cells.size≤100) (fun x:List ByteArray=>(T.sl true 1 (x.map (J6 true)))):=by
 refine PureE.intro (rs:= [ResultVar.tmp 0]) Tryd.func91 Y Y Y (E0:= []) Y ?_
 obtain ⟨hlim,hmx,hmax⟩:=Zk
 refine sr (fO (OF.assign VEv.nils) (nt (sr (kO (OM.buildSlice (l:= [(tS (⟨#[46,46,46,47,46,46,46,47,46,46,46]⟩:ByteArray)),(tS (⟨#[46,46,35,47,46,46,46,47,35,46,46]⟩:ByteArray)),(tS (⟨#[46,46,46,47,46,35,46,47,46,46,46]⟩:ByteArray)),(tS (⟨#[46,46,46,46,47,46,46,46,46,47,46,46,46,46]⟩:ByteArray)),(tS (⟨#[46,46,46,46,35,47,46,35,46,46,46,47,46,46,46,46,46]⟩:ByteArray)),(tS (⟨#[46,46,46,46,47,46,35,35,46,47,46,46,46,46]⟩:ByteArray)),(tS (⟨#[46,46,46,46,46,35,47,46,35,46,35,46,46,47,46,46,46,46,46,46]⟩:ByteArray)),(tS (⟨#[46,46,47,46,46]⟩:ByteArray)),(tS (⟨#[35,46,46,46,47,46,46,46,46,47,46,46,46,35]⟩:ByteArray)),(tS (⟨#[46,46,46,47,35,35,35,47,46,46,46]⟩:ByteArray))]) (VEvp.cons (VEv.str (⟨#[46,46,46,47,46,46,46,47,46,46,46]⟩:ByteArray)) (VEvp.cons (VEv.str (⟨#[46,46,35,47,46,46,46,47,35,46,46]⟩:ByteArray)) (VEvp.cons (VEv.str (⟨#[46,46,46,47,46,35,46,47,46,46,46]⟩:ByteArray)) (VEvp.cons (VEv.str (⟨#[46,46,46,46,47,46,46,46,46,47,46,46,46,46]⟩:ByteArray)) (VEvp.cons (VEv.str (⟨#[46,46,46,46,35,47,46,35,46,46,46,47,46,46,46,46,46]⟩:ByteArray)) (VEvp.cons (VEv.str (⟨#[46,46,46,46,47,46,35,35,46,47,46,46,46,46]⟩:ByteArray)) (VEvp.cons (VEv.str (⟨#[46,46,46,46,46,35,47,46,35,46,35,46,46,47,46,46,46,46,46,46]⟩:ByteArray)) (VEvp.cons (VEv.str (⟨#[46,46,47,46,46]⟩:ByteArray)) (VEvp.cons (VEv.str (⟨#[35,46,46,46,47,46,46,46,46,47,46,46,46,35]⟩:ByteArray)) (VEvp.cons (VEv.str (⟨#[46,46,46,47,35,35,35,47,46,46,46]⟩:ByteArray)) VEvp.nil)))))))))) Y (by decide) (bc (nofun) (bc (nofun) (bc (nofun) (bc (nofun) (bc (nofun) (bc (nofun) (bc (nofun) (bc (nofun) (bc (nofun) (bc (nofun) bn)))))))))) (bc ((bc (Y) bn)) (bc ((bc (Y) bn)) (bc ((bc (Y) bn)) (bc ((bc (Y) bn)) (bc ((bc (Y) bn)) (bc ((bc (Y) bn)) (bc ((bc (Y) bn)) (bc ((bc (Y) bn)) (bc ((bc (Y) bn)) (bc ((bc (Y) bn)) bn)))))))))) (bc (Y) (bc (Y) (bc (Y) (bc (Y) (bc (Y) (bc (Y) (bc (Y) (bc (Y) (bc (Y) (bc (Y) bn)))))))))) U34 zo9 (by kernel_rfl) Y (by rw [sz9];decide) sz9 (Nat.le_of_ble_eq_true Y)) (aO (T.os 1 0 0 10) Y (nt (rt ?_)))))))
 refine vfinE.r [(⟨#[46,46,46,47,46,46,46,47,46,46,46]⟩:ByteArray),(⟨#[46,46,35,47,46,46,46,47,35,46,46]⟩:ByteArray),(⟨#[46,46,46,47,46,35,46,47,46,46,46]⟩:ByteArray),(⟨#[46,46,46,46,47,46,46,46,46,47,46,46,46,46]⟩:ByteArray),(⟨#[46,46,46,46,35,47,46,35,46,46,46,47,46,46,46,46,46]⟩:ByteArray),(⟨#[46,46,46,46,47,46,35,35,46,47,46,46,46,46]⟩:ByteArray),(⟨#[46,46,46,46,46,35,47,46,35,46,35,46,46,47,46,46,46,46,46,46]⟩:ByteArray),(⟨#[46,46,47,46,46]⟩:ByteArray),(⟨#[35,46,46,46,47,46,46,46,46,47,46,46,46,35]⟩:ByteArray),(⟨#[46,46,46,47,35,35,35,47,46,46,46]⟩:ByteArray)] ?_ (vfin.r (VRes.tmp (t:=(T.os 1 0 0 10)) Y VRes.nil) (Give.os Y Y (bc (bc (.str _) bn) (bc (bc (.str _) bn) (bc (bc (.str _) bn) (bc (bc (.str _) bn) (bc (bc (.str _) bn) (bc (bc (.str _) bn) (bc (bc (.str _) bn) (bc (bc (.str _) bn) (bc (bc (.str _) bn) (bc (bc (.str _) bn) bn))))))))))))
 show [(⟨#[46,46,46,47,46,46,46,47,46,46,46]⟩:ByteArray),(⟨#[46,46,35,47,46,46,46,47,35,46,46]⟩:ByteArray),(⟨#[46,46,46,47,46,35,46,47,46,46,46]⟩:ByteArray),(⟨#[46,46,46,46,47,46,46,46,46,47,46,46,46,46]⟩:ByteArray),(⟨#[46,46,46,46,35,47,46,35,46,46,46,47,46,46,46,46,46]⟩:ByteArray),(⟨#[46,46,46,46,47,46,35,35,46,47,46,46,46,46]⟩:ByteArray),(⟨#[46,46,46,46,46,35,47,46,35,46,35,46,46,47,46,46,46,46,46,46]⟩:ByteArray),(⟨#[46,46,47,46,46]⟩:ByteArray),(⟨#[35,46,46,46,47,46,46,46,46,47,46,46,46,35]⟩:ByteArray),(⟨#[46,46,46,47,35,35,35,47,46,46,46]⟩:ByteArray)].length=10∧∀y∈ [(⟨#[46,46,46,47,46,46,46,47,46,46,46]⟩:ByteArray),(⟨#[46,46,35,47,46,46,46,47,35,46,46]⟩:ByteArray),(⟨#[46,46,46,47,46,35,46,47,46,46,46]⟩:ByteArray),(⟨#[46,46,46,46,47,46,46,46,46,47,46,46,46,46]⟩:ByteArray),(⟨#[46,46,46,46,35,47,46,35,46,46,46,47,46,46,46,46,46]⟩:ByteArray),(⟨#[46,46,46,46,47,46,35,35,46,47,46,46,46,46]⟩:ByteArray),(⟨#[46,46,46,46,46,35,47,46,35,46,35,46,46,47,46,46,46,46,46,46]⟩:ByteArray),(⟨#[46,46,47,46,46]⟩:ByteArray),(⟨#[35,46,46,46,47,46,46,46,46,47,46,46,46,35]⟩:ByteArray),(⟨#[46,46,46,47,35,35,35,47,46,46,46]⟩:ByteArray)],y.size≤100∧1≤(Qi y).1.Cells.size∧(Qi y).1.Cells.size≤100
 exact ⟨rfl,QeN⟩
theorem J7 {s u:ByteArray} {k:Int} (h:0≤k∧k<((s.size:Nat):Int)) (hu:u.size=1):(s.extract 0 (Int.toNat k)).size+u.size≤s.size∧(s.extract 0 (Int.toNat k)++u).size+(s.extract (Int.toNat (k+1)) s.size).size=s.size∧(s.extract 0 (Int.toNat k)++u++s.extract (Int.toNat (k+1)) s.size).size=s.size:=by
 simp only [ByteArray.size_append,ByteArray.size_extract];omega
theorem ZN {e:ByteArray} (h:e∈ [(⟨#[35]⟩:ByteArray),⟨#[46]⟩]):e.size=1:=by
 simp only [List.mem_cons,List.not_mem_nil,or_false] at h
 rcases h with h | h<;>rw [h]<;>rfl
theorem Qb3 (n:Nat) (code:List Int) (hcl:code.length≤mx):CurE (QA Tryd.prog (n+5)) 75 (rd 1 Qj code) code.length [] (fun x:D.Grid=>1≤x.Cells.size∧x.Cells.size≤100) (fun x:D.Grid=>(T.agg (Ql true x))):=by
 refine CurE.intro (rs:= [ResultVar.cell 2 52]) Tryd.func75 Y Y Y (by kernel_rfl) (fun pb nb mb ci ch hci=> ?_)
 obtain ⟨hlim,hmx,hmax⟩:=Zk
 show VRun _ _ _ [(0,(T.op 0 0))] [(0,some (Obj.cells [(T.ex pb nb mb (rd 1 Qj code)),(tN ci),(tI ch)]))] 1 _
 refine sr (kO (B.alloc (t:=(T.agg [(tN 0),(tN 0),(tS ByteArray.empty)])) (ts:= [(tN 0),(tN 0),(tS ByteArray.empty)]) QaJ Qb6 nofun (fun _=> .agg _ _ Y (Z8 (RL.cons (.int _ _) (RL.cons (.int _ _) (RL.cons (.str _) (RL.nil _)))))) Y) (nt (sr (mO (T.op 0 0) Y ?_))))
 refine eP (us:= []) (r':=fun x_:List ByteArray=>(T.os 1 2 0 ((x_.map (J6 true)).length))) (objs:=fun x_:List ByteArray=> [(Obj.rows 1 (x_.map (J6 true)))]) (m:=1) VWant.always vn ln (QbZ (n+3)) Y (fun _=>rfl) (fun _=>rfl) fun e8 hs8=> ?_
 have hs8:e8.length=10∧∀y∈e8,y.size≤100∧1≤(Qi y).1.Cells.size∧(Qi y).1.Cells.size≤100:=hs8
 refine eC (us:= [(rd 1 J6 e8)]) (r':=fun x_:ByteArray=>(tS x_)) (objs:=fun x_:ByteArray=> []) (m:=0) (k:=0) ci ch VWant.always (vc (tv (T.op 0 0) Y) (vc (tv (T.os 1 2 0 ((e8.map (J6 true)).length)) Y) vn)) Y (by omega) (LendL.cons (Lend.os Y Y (okStr.fzMap _ _)) ln) (Yt (n+1) code e8 (by first | (have h8:=hs8.1;omega) | exact (hs8.2 _ hs9).1 | (have h26:=J7 hp19 (ZN hs26);omega) | assumption | omega | (simp only [List.length_cons,List.length_nil];omega)) (by first | (have h8:=hs8.1;omega) | exact (hs8.2 _ hs9).1 | (have h26:=J7 hp19 (ZN hs26);omega) | assumption | omega | (simp only [List.length_cons,List.length_nil];omega)) (by first | (have h8:=hs8.1;omega) | exact (hs8.2 _ hs9).1 | (have h26:=J7 hp19 (ZN hs26);omega) | assumption | omega | (simp only [List.length_cons,List.length_nil];omega))) Y (fun _=>rfl) (fun _=>rfl) fun e9 i9 h9 hs9 hi9=> ?_
 have hs9:e9∈e8:=hs9
 refine cO (cS (vc (tv (tS e9) Y) vn) (ZO Y) (Qa2 (n+0) e9 (by first | (have h8:=hs8.1;omega) | exact (hs8.2 _ hs9).1 | (have h26:=J7 hp19 (ZN hs26);omega) | assumption | omega)) Y Y) (mO (T.tup [(T.agg (Ql true ((Qi e9).1))),(tB ((Qi e9).2))]) Y (fO (OF.extract (t:=(T.agg (Ql true ((Qi e9).1)))) (tv (T.tup [(T.agg (Ql true ((Qi e9).1))),(tB ((Qi e9).2))]) Y) Y) (fO (OF.extract (t:=(tB ((Qi e9).2))) (tv (T.tup [(T.agg (Ql true ((Qi e9).1))),(tB ((Qi e9).2))]) Y) Y) (kO (B.alloc (t:=(T.agg [(tN 0),(tN 0),(tS ByteArray.empty)])) (ts:= [(tN 0),(tN 0),(tS ByteArray.empty)]) QaJ Qb6 nofun (fun _=> .agg _ _ Y (Z8 (RL.cons (.int _ _) (RL.cons (.int _ _) (RL.cons (.str _) (RL.nil _)))))) Y) (cO (B.storeW (us:=(Ql true ((Qi e9).1))) (tv (T.op 3 0) Y) (tv (T.agg (Ql true ((Qi e9).1))) Y) nofun Y Y Y Jz Q9 (bc Y (bc Y (bc Y bn)))) (aO (tB ((Qi e9).2)) Y (nt (sq ?_))))))))
 have hp9:=hs8.2 _ hs9
 refine sr (mO (T.op 0 0) Y ?_)
 refine eC (us:= [(tN 3)]) (r':=fun x_:Bool=>(tB x_)) (objs:=fun x_:Bool=> []) (m:=0) (k:=0) i9 h9 VWant.always (vc (tv (T.op 0 0) Y) (vc (VEv.int .i64 3) vn)) Y (by omega) (ZO Y) (Qb4 (n+1) code (3:Int) (by first | (have h8:=hs8.1;omega) | exact (hs8.2 _ hs9).1 | (have h26:=J7 hp19 (ZN hs26);omega) | assumption | omega | (simp only [List.length_cons,List.length_nil];omega))) Y (fun _=>rfl) (fun _=>rfl) fun e14 i14 h14 hs14 hi14=> ?_
 have hs14:True:=hs14
 refine nt ?_
 refine VRun.cond (tv (tB e14) Y) (fun hc0=> ?_) (fun hc0=> ?_)
 ·have fhc0:e14=true:=hc0
  refine sr (mO (T.op 0 0) Y (lf (tS ((Qi e9).1.Cells)) Y Za Y Y Y7 (lO (B.lenS (tv (tS ((Qi e9).1.Cells)) Y) U9) ?_)))
  refine eC (us:= [(tN (((Qi e9).1.Cells).size))]) (r':=fun x_:Int=>(tI x_)) (objs:=fun x_:Int=> []) (m:=0) (k:=0) i14 h14 VWant.always (vc (tv (T.op 0 0) Y) (vc (tv (tN (((Qi e9).1.Cells).size)) Y) vn)) Y (by omega) (ZO Y) (QU (n+2) code ((((Qi e9).1.Cells).size:Nat):Int) (by first | (have h8:=hs8.1;omega) | exact (hs8.2 _ hs9).1 | (have h26:=J7 hp19 (ZN hs26);omega) | assumption | omega | (simp only [List.length_cons,List.length_nil];omega))) Y (fun _=>rfl) (fun _=>rfl) fun e19 i19 h19 hs19 hi19=> ?_
  have hs19:(((((Qi e9).1.Cells).size:Nat):Int)≤0→e19=0)∧(0<((((Qi e9).1.Cells).size:Nat):Int)→0≤e19∧e19<((((Qi e9).1.Cells).size:Nat):Int)):=hs19
  refine aO (tI e19) Y (nt ?_)
  have hp19:=hs19.2 (by omega)
  refine VRun.drawC (us:= [(T.ex pb nb mb (rd 1 Qj code)),(tN i19),(tI h19)]) 0 [0,7,13,15] (B:= [[],[0],[],[2,0,1],[],[],[5,4],[4,5,6,1,0,2,3],[],[8],[],[10],[10,11,8,9],[9,8,11,10,12,3,2,0,1,6,5,4,7],[13,12,11,10,9,8,7,6,5,4,3,2,1,0],[0,1,2,3,4,5,6,7,8,9,10,11,12,13,14]]) (by kernel_rfl) (by kernel_rfl) Y (bc Y (bc Y (bc Y (bc Y bn)))) Y Y (fD (OF.fieldAddrO (tv (T.op 3 0) Y) Za) Y Y (lD (OL.loadO1 (t:=(tS ((Qi e9).1.Cells))) (tv (T.op 3 2) Y) Y Y Y7) Y Y (mD (tI e19) Y Y (lD (OL.sliceSHi (j:=(Int.toNat e19)) (tv (tS ((Qi e9).1.Cells)) Y) (tv (tI e19) Y) (by omega) (by first | (have h8:=hs8.1;omega) | exact (hs8.2 _ hs9).1 | (have h26:=J7 hp19 (ZN hs26);omega) | omega | (simp only [List.length_map];omega) | (simp only [List.length_map,List.length_append,List.length_cons,List.length_nil,List.length_replicate,List.length_set,List.length_drop,List.length_take,Zh] at *;omega)) U9) Y Y (mD (T.op 4 0) Y Y (VRunD.make Y VWant.always Y (OM.buildSlice (l:= [(tS (⟨#[35]⟩:ByteArray)),(tS (⟨#[46]⟩:ByteArray))]) (VEvp.cons (VEv.str (⟨#[35]⟩:ByteArray)) (VEvp.cons (VEv.str (⟨#[46]⟩:ByteArray)) VEvp.nil)) Y (by decide) (bc (nofun) (bc (nofun) bn)) (bc ((bc (Y) bn)) (bc ((bc (Y) bn)) bn)) (bc (Y) (bc (Y) bn)) U34 zo9 (by kernel_rfl) Y (by rw [sz9];decide) sz9 (Nat.le_of_ble_eq_true Y)) ?_))))))
  refine eDC (us:= [(T.sl false 1 [[(tS (⟨#[35]⟩:ByteArray))],[(tS (⟨#[46]⟩:ByteArray))]])]) (r':=fun x_:ByteArray=>(tS x_)) (objs:=fun x_:ByteArray=> []) (m:=0) (k:=4) (bi:= [5,4]) i19 h19 Y VWant.always Y Y Y (lb Y) (vc (tv (T.op 4 0) Y) (vc (tv (T.os 1 5 0 2) Y) vn)) Y (by omega) (LendL.cons (Lend.os Y Y Y) ln) (Yt (n+1) code [(⟨#[35]⟩:ByteArray),(⟨#[46]⟩:ByteArray)] (by first | (have h8:=hs8.1;omega) | exact (hs8.2 _ hs9).1 | (have h26:=J7 hp19 (ZN hs26);omega) | assumption | omega | (simp only [List.length_cons,List.length_nil];omega)) (by first | (have h8:=hs8.1;omega) | exact (hs8.2 _ hs9).1 | (have h26:=J7 hp19 (ZN hs26);omega) | assumption | omega | (simp only [List.length_cons,List.length_nil];omega)) (by first | (have h8:=hs8.1;omega) | exact (hs8.2 _ hs9).1 | (have h26:=J7 hp19 (ZN hs26);omega) | assumption | omega | (simp only [List.length_cons,List.length_nil];omega))) Y (fun _=>rfl) (fun _=>rfl) fun e26 i26 h26 hs26 hi26=> ?_
  have hs26:e26∈ [(⟨#[35]⟩:ByteArray),(⟨#[46]⟩:ByteArray)]:=hs26
  refine fD (B.sadd (tv (tS (((Qi e9).1.Cells).extract 0 (Int.toNat e19))) Y) (tv (tS e26) Y) (by first | (have h8:=hs8.1;omega) | exact (hs8.2 _ hs9).1 | (have h26:=J7 hp19 (ZN hs26);omega) | omega | (simp only [List.length_map];omega) | (simp only [List.length_map,List.length_append,List.length_cons,List.length_nil,List.length_replicate,List.length_set,List.length_drop,List.length_take,Zh] at *;omega))) Y Y (fD (OF.fieldAddrO (tv (T.op 3 0) Y) Za) Y Y (lD (OL.loadO1 (t:=(tS ((Qi e9).1.Cells))) (tv (T.op 3 2) Y) Y Y Y7) Y Y (mD (tI e19) Y Y (fD (B.add (n:=(e19+1)) (tv (tI e19) Y) (VEv.int .i64 1) (by first | (have h8:=hs8.1;omega) | exact (hs8.2 _ hs9).1 | (have h26:=J7 hp19 (ZN hs26);omega) | rfl | (rw [QB (by omega)];omega) | (rw [QB (by omega)];done))) Y Y (lD (OL.sliceSLo (i:=(Int.toNat (e19+1))) (tv (tS ((Qi e9).1.Cells)) Y) (tv (tI (e19+1)) Y) (by omega) (by first | (have h8:=hs8.1;omega) | exact (hs8.2 _ hs9).1 | (have h26:=J7 hp19 (ZN hs26);omega) | omega | (simp only [List.length_map];omega) | (simp only [List.length_map,List.length_append,List.length_cons,List.length_nil,List.length_replicate,List.length_set,List.length_drop,List.length_take,Zh] at *;omega)) U9) Y Y (fD (B.sadd (tv (tS ((((Qi e9).1.Cells).extract 0 (Int.toNat e19))++e26)) Y) (tv (tS (((Qi e9).1.Cells).extract (Int.toNat (e19+1)) ((Qi e9).1.Cells).size)) Y) (by first | (have h8:=hs8.1;omega) | exact (hs8.2 _ hs9).1 | (have h26:=J7 hp19 (ZN hs26);omega) | omega | (simp only [List.length_map];omega) | (simp only [List.length_map,List.length_append,List.length_cons,List.length_nil,List.length_replicate,List.length_set,List.length_drop,List.length_take,Zh] at *;omega))) Y Y (fD (OF.fieldAddrO (tv (T.op 3 0) Y) Za) Y Y (VRunD.chain (bi:= [0,1,2,3,4,5,6,7,8,9,10,11,12,13,14]) Y VWant.always Y Y Y (by kernel_rfl) (B.storeO (us:= [(tS (((((Qi e9).1.Cells).extract 0 (Int.toNat e19))++e26)++(((Qi e9).1.Cells).extract (Int.toNat (e19+1)) ((Qi e9).1.Cells).size)))]) (ws:= [(tI ((Qi e9).1.Rows)),(tI ((Qi e9).1.Cols)),(tS (((((Qi e9).1.Cells).extract 0 (Int.toNat e19))++e26)++(((Qi e9).1.Cells).extract (Int.toNat (e19+1)) ((Qi e9).1.Cells).size)))]) (tv (T.op 3 2) Y) (tv (tS (((((Qi e9).1.Cells).extract 0 (Int.toNat e19))++e26)++(((Qi e9).1.Cells).extract (Int.toNat (e19+1)) ((Qi e9).1.Cells).size))) Y) nofun Y Y (lb Y) if9 sz9 (bc Y bn) Y) (VRunD.nil (tn (sr ?_)))))))))))
  refine lO (OL.loadOn (us:= [(tI ((Qi e9).1.Rows)),(tI ((Qi e9).1.Cols)),(tS (((((Qi e9).1.Cells).extract 0 (Int.toNat e19))++e26)++(((Qi e9).1.Cells).extract (Int.toNat (e19+1)) ((Qi e9).1.Cells).size)))]) (tv (T.op 3 0) Y) Y ZF Q9 (lb Y) Y) (cO (B.storeW (us:= [(tI ((Qi e9).1.Rows)),(tI ((Qi e9).1.Cols)),(tS (((((Qi e9).1.Cells).extract 0 (Int.toNat e19))++e26)++(((Qi e9).1.Cells).extract (Int.toNat (e19+1)) ((Qi e9).1.Cells).size)))]) (tv (T.op 1 0) Y) (tv (T.agg [(tI ((Qi e9).1.Rows)),(tI ((Qi e9).1.Cols)),(tS (((((Qi e9).1.Cells).extract 0 (Int.toNat e19))++e26)++(((Qi e9).1.Cells).extract (Int.toNat (e19+1)) ((Qi e9).1.Cells).size)))]) Y) nofun Y Y Y Jz Q9 (bc Y (bc Y (bc Y bn)))) (nt (rt ?_)))
  refine vcur.r (D.Grid.mk ((Qi e9).1.Rows) ((Qi e9).1.Cols) (((((Qi e9).1.Cells).extract 0 (Int.toNat e19))++e26)++(((Qi e9).1.Cells).extract (Int.toNat (e19+1)) ((Qi e9).1.Cells).size))) 4 i26 h26 ?_ (VRes.celln (ws:= [(tI ((Qi e9).1.Rows)),(tI ((Qi e9).1.Cols)),(tS (((((Qi e9).1.Cells).extract 0 (Int.toNat e19))++e26)++(((Qi e9).1.Cells).extract (Int.toNat (e19+1)) ((Qi e9).1.Cells).size)))]) Y Y ZF Q9 (lb Y) Y VRes.nil) (Give.agg (GiveL.cons (Give.int _ _) (GiveL.cons (Give.int _ _) (GiveL.cons (Give.str _) GiveL.nil (by decide)) (by decide)) (by decide))) Y Y (by omega) (by decide)
  show 1≤(D.Grid.mk ((Qi e9).1.Rows) ((Qi e9).1.Cols) (((((Qi e9).1.Cells).extract 0 (Int.toNat e19))++e26)++(((Qi e9).1.Cells).extract (Int.toNat (e19+1)) ((Qi e9).1.Cells).size))).Cells.size∧(D.Grid.mk ((Qi e9).1.Rows) ((Qi e9).1.Cols) (((((Qi e9).1.Cells).extract 0 (Int.toNat e19))++e26)++(((Qi e9).1.Cells).extract (Int.toNat (e19+1)) ((Qi e9).1.Cells).size))).Cells.size≤100
  first | exact hp9.2 | (have h26:=J7 hp19 (ZN hs26);show 1≤(_:ByteArray).size∧(_:ByteArray).size≤100;rw [h26.2.2];exact hp9.2)
 have fhc0:e14=false:=hc0
 refine sk (tn (sr (lO (OL.loadOn (us:=(Ql false ((Qi e9).1))) (tv (T.op 3 0) Y) Y ZF Q9 (lb Y) Y) (cO (B.storeW (us:=(Ql false ((Qi e9).1))) (tv (T.op 1 0) Y) (tv (T.agg (Ql false ((Qi e9).1))) Y) nofun Y Y Y Jz Q9 (bc Y (bc Y (bc Y bn)))) (nt (rt ?_))))))
 refine vcur.r ((Qi e9).1) 0 i14 h14 ?_ (VRes.celln (ws:=(Ql false ((Qi e9).1))) Y Y ZF Q9 (lb Y) Y VRes.nil) (Give.agg (GiveL.cons (Give.int _ _) (GiveL.cons (Give.int _ _) (GiveL.cons (Give.str _) GiveL.nil (by decide)) (by decide)) (by decide))) Y Y (by omega) (by decide)
 show 1≤((Qi e9).1).Cells.size∧((Qi e9).1).Cells.size≤100
 first | exact hp9.2 | (have h26:=J7 hp19 (ZN hs26);show 1≤(_:ByteArray).size∧(_:ByteArray).size≤100;rw [h26.2.2];exact hp9.2)
theorem QcJ (n:Nat) (code:List Int) (hcl:code.length≤mx):CurE (QA Tryd.prog (n+6)) 53 (rd 1 Qj code) code.length [] (fun x:D.Grid=>x.Cells.size≤101) (fun x:D.Grid=>(T.agg (Ql true x))):=by
 refine CurE.intro (rs:= [ResultVar.cell 2 52]) Tryd.func53 Y Y Y (by kernel_rfl) (fun pb nb mb ci ch hci=> ?_)
 obtain ⟨hlim,hmx,hmax⟩:=Zk
 show VRun _ _ _ [(0,(T.op 0 0))] [(0,some (Obj.cells [(T.ex pb nb mb (rd 1 Qj code)),(tN ci),(tI ch)]))] 1 _
 refine sr (kO (B.alloc (t:=(T.agg [(tN 0),(tN 0),(tS ByteArray.empty)])) (ts:= [(tN 0),(tN 0),(tS ByteArray.empty)]) QaJ Qb6 nofun (fun _=> .agg _ _ Y (Z8 (RL.cons (.int _ _) (RL.cons (.int _ _) (RL.cons (.str _) (RL.nil _)))))) Y) (nt (sr (mO (T.op 0 0) Y ?_))))
 refine eC (us:= []) (r':=fun x_:D.Grid=>(T.agg (Ql true x_))) (objs:=fun x_:D.Grid=> []) (m:=0) (k:=0) ci ch VWant.always (vc (tv (T.op 0 0) Y) vn) Y (by omega) ln (Qb3 (n+0) code (by first | (have h1:(ByteArray.mk #[46]).size=1:=rfl;omega) | (rw [ByteArray.size_extract];have h1:(ByteArray.mk #[120]).size=1:=rfl;omega) | assumption | omega | (simp only [List.length_cons,List.length_nil];omega))) Y (fun _=>rfl) (fun _=>rfl) fun e5 i5 h5 hs5 hi5=> ?_
 have hs5:1≤e5.Cells.size∧e5.Cells.size≤100:=hs5
 refine kO (B.alloc (t:=(T.agg [(tN 0),(tN 0),(tS ByteArray.empty)])) (ts:= [(tN 0),(tN 0),(tS ByteArray.empty)]) QaJ Qb6 nofun (fun _=> .agg _ _ Y (Z8 (RL.cons (.int _ _) (RL.cons (.int _ _) (RL.cons (.str _) (RL.nil _)))))) Y) (cO (B.storeW (us:=(Ql true e5)) (tv (T.op 2 0) Y) (tv (T.agg (Ql true e5)) Y) nofun Y Y Y Jz Q9 (bc Y (bc Y (bc Y bn)))) (nt (sq (sr (mO (T.op 0 0) Y ?_)))))
 refine eC (us:= [(tN 9)]) (r':=fun x_:Int=>(tI x_)) (objs:=fun x_:Int=> []) (m:=0) (k:=0) i5 h5 VWant.always (vc (tv (T.op 0 0) Y) (vc (VEv.int .i64 9) vn)) Y (by omega) (ZO Y) (QU (n+3) code (9:Int) (by first | (have h1:(ByteArray.mk #[46]).size=1:=rfl;omega) | (rw [ByteArray.size_extract];have h1:(ByteArray.mk #[120]).size=1:=rfl;omega) | assumption | omega | (simp only [List.length_cons,List.length_nil];omega))) Y (fun _=>rfl) (fun _=>rfl) fun e7 i7 h7 hs7 hi7=> ?_
 have hs7:((9:Int)≤0→e7=0)∧(0<(9:Int)→0≤e7∧e7<(9:Int)):=hs7
 refine nt (VRun.block (sr (fO (xeq (tv (tI e7) Y) (VEv.int .i64 0)) (aO (tB (decide (e7=0))) Y (nt ?_)))))
 refine cd (e7=0) Y (fun fhc0=> ?_) fun fhc0=> ?_
 ·refine VRun.region ?_
  refine mO (T.op 0 0) Y ?_
  refine eC (us:= []) (r':=fun x_:Int=>(tI x_)) (objs:=fun x_:Int=> []) (m:=0) (k:=0) i7 h7 VWant.always (vc (tv (T.op 0 0) Y) vn) Y (by omega) ln (Qat (n+1) code (by first | (have h1:(ByteArray.mk #[46]).size=1:=rfl;omega) | (rw [ByteArray.size_extract];have h1:(ByteArray.mk #[120]).size=1:=rfl;omega) | assumption | omega | (simp only [List.length_cons,List.length_nil];omega))) Y (fun _=>rfl) (fun _=>rfl) fun e11 i11 h11 hs11 hi11=> ?_
  have hs11:True:=hs11
  refine fO (OF.fieldAddrO (tv (T.op 2 0) Y) Y4) (cO (B.storeO (us:= [(tI e11)]) (ws:= [(tI e11),(tI e5.Cols),(tS e5.Cells)]) (tv (T.op 2 0) Y) (tv (tI e11) Y) nofun Y Y (lb Y) if3 sz3 (bc Y bn) Y) (VRunO.nil (vinB.n (tn (sr (lO (OL.loadOn (us:= [(tI e11),(tI e5.Cols),(tS e5.Cells)]) (tv (T.op 2 0) Y) Y ZF Q9 (lb Y) Y) (cO (B.storeW (us:= [(tI e11),(tI e5.Cols),(tS e5.Cells)]) (tv (T.op 1 0) Y) (tv (T.agg [(tI e11),(tI e5.Cols),(tS e5.Cells)]) Y) nofun Y Y Y Jz Q9 (bc Y (bc Y (bc Y bn)))) (nt (rt ?_)))))))))
  refine vcur.r (D.Grid.mk e11 e5.Cols e5.Cells) 0 i11 h11 ?_ (VRes.celln (ws:= [(tI e11),(tI e5.Cols),(tS e5.Cells)]) Y Y ZF Q9 (lb Y) Y VRes.nil) (Give.agg (GiveL.cons (Give.int _ _) (GiveL.cons (Give.int _ _) (GiveL.cons (Give.str _) GiveL.nil (by decide)) (by decide)) (by decide))) Y Y (by omega) (by decide)
  show (D.Grid.mk e11 e5.Cols e5.Cells).Cells.size≤101
  first | exact Nat.le_trans hs5.2 (by decide) | (show (_:ByteArray).size≤101;rw [ByteArray.size_append];have h1:(ByteArray.mk #[46]).size=1:=rfl;omega) | (show (_:ByteArray).size≤101;rw [ByteArray.size_append,ByteArray.size_extract];have h1:(ByteArray.mk #[120]).size=1:=rfl;omega)
 refine sr (fO (xeq (tv (tI e7) Y) (VEv.int .i64 1)) (aO (tB (decide (e7=1))) Y (nt ?_)))
 refine cd (e7=1) Y (fun fhc1=> ?_) fun fhc1=> ?_
 ·refine VRun.region ?_
  refine mO (T.op 0 0) Y (kO (OM.buildSlice (l:= [(tN 1),(tN 7),(tN 3)]) (VEvp.cons (VEv.int .i64 1) (VEvp.cons (VEv.int .i64 7) (VEvp.cons (VEv.int .i64 3) VEvp.nil))) Y (by decide) (bc (nofun) (bc (nofun) (bc (nofun) bn))) (bc ((bc (Y) bn)) (bc ((bc (Y) bn)) (bc ((bc (Y) bn)) bn))) (bc (Y) (bc (Y) (bc (Y) bn))) U68 zo3 (by kernel_rfl) Y (by rw [sz3];decide) sz3 (Nat.le_of_ble_eq_true Y)) ?_)
  refine eC (us:= [(T.sl false 1 [[(tN 1)],[(tN 7)],[(tN 3)]])]) (r':=fun x_:Int=>(tI x_)) (objs:=fun x_:Int=> []) (m:=0) (k:=0) i7 h7 VWant.always (vc (tv (T.op 0 0) Y) (vc (tv (T.os 1 3 0 3) Y) vn)) Y (by omega) (LendL.cons (Lend.os Y Y Y) ln) (Yy (n+2) code [1,7,3] (by first | (have h1:(ByteArray.mk #[46]).size=1:=rfl;omega) | (rw [ByteArray.size_extract];have h1:(ByteArray.mk #[120]).size=1:=rfl;omega) | assumption | omega | (simp only [List.length_cons,List.length_nil];omega)) (by first | (have h1:(ByteArray.mk #[46]).size=1:=rfl;omega) | (rw [ByteArray.size_extract];have h1:(ByteArray.mk #[120]).size=1:=rfl;omega) | assumption | omega | (simp only [List.length_cons,List.length_nil];omega)) (by first | (have h1:(ByteArray.mk #[46]).size=1:=rfl;omega) | (rw [ByteArray.size_extract];have h1:(ByteArray.mk #[120]).size=1:=rfl;omega) | assumption | omega | (simp only [List.length_cons,List.length_nil];omega))) Y (fun _=>rfl) (fun _=>rfl) fun e17 i17 h17 hs17 hi17=> ?_
  have hs17:e17∈ [1,7,3]:=hs17
  refine fO (OF.fieldAddrO (tv (T.op 2 0) Y) YH) (cO (B.storeO (us:= [(tI e17)]) (ws:= [(tI e5.Rows),(tI e17),(tS e5.Cells)]) (tv (T.op 2 1) Y) (tv (tI e17) Y) nofun Y Y (lb Y) if3 sz3 (bc Y bn) Y) (VRunO.nil (vinB.n (tn (sr (lO (OL.loadOn (us:= [(tI e5.Rows),(tI e17),(tS e5.Cells)]) (tv (T.op 2 0) Y) Y ZF Q9 (lb Y) Y) (cO (B.storeW (us:= [(tI e5.Rows),(tI e17),(tS e5.Cells)]) (tv (T.op 1 0) Y) (tv (T.agg [(tI e5.Rows),(tI e17),(tS e5.Cells)]) Y) nofun Y Y Y Jz Q9 (bc Y (bc Y (bc Y bn)))) (nt (rt ?_)))))))))
  refine vcur.r (D.Grid.mk e5.Rows e17 e5.Cells) 0 i17 h17 ?_ (VRes.celln (ws:= [(tI e5.Rows),(tI e17),(tS e5.Cells)]) Y Y ZF Q9 (lb Y) Y VRes.nil) (Give.agg (GiveL.cons (Give.int _ _) (GiveL.cons (Give.int _ _) (GiveL.cons (Give.str _) GiveL.nil (by decide)) (by decide)) (by decide))) Y Y (by omega) (by decide)
  show (D.Grid.mk e5.Rows e17 e5.Cells).Cells.size≤101
  first | exact Nat.le_trans hs5.2 (by decide) | (show (_:ByteArray).size≤101;rw [ByteArray.size_append];have h1:(ByteArray.mk #[46]).size=1:=rfl;omega) | (show (_:ByteArray).size≤101;rw [ByteArray.size_append,ByteArray.size_extract];have h1:(ByteArray.mk #[120]).size=1:=rfl;omega)
 refine sr (fO (xeq (tv (tI e7) Y) (VEv.int .i64 2)) (aO (tB (decide (e7=2))) Y (nt ?_)))
 refine cd (e7=2) Y (fun fhc2=> ?_) fun fhc2=> ?_
 ·refine VRun.region ?_
  refine lf (tS e5.Cells) Y Za Y Y Y7 (fO (B.sadd (tv (tS e5.Cells) Y) (VEv.str (⟨#[46]⟩:ByteArray)) (by first | (have h1:(ByteArray.mk #[46]).size=1:=rfl;omega) | (rw [ByteArray.size_extract];have h1:(ByteArray.mk #[120]).size=1:=rfl;omega) | omega | (simp only [List.length_map];omega) | (simp only [List.length_map,List.length_append,List.length_cons,List.length_nil,List.length_replicate,List.length_set,List.length_drop,List.length_take,Zh] at *;omega))) (fO (OF.fieldAddrO (tv (T.op 2 0) Y) Za) (cO (B.storeO (us:= [(tS (e5.Cells++(⟨#[46]⟩:ByteArray)))]) (ws:= [(tI e5.Rows),(tI e5.Cols),(tS (e5.Cells++(⟨#[46]⟩:ByteArray)))]) (tv (T.op 2 2) Y) (tv (tS (e5.Cells++(⟨#[46]⟩:ByteArray))) Y) nofun Y Y (lb Y) if9 sz9 (bc Y bn) Y) (VRunO.nil (vinB.n (tn (sr (lO (OL.loadOn (us:= [(tI e5.Rows),(tI e5.Cols),(tS (e5.Cells++(⟨#[46]⟩:ByteArray)))]) (tv (T.op 2 0) Y) Y ZF Q9 (lb Y) Y) (cO (B.storeW (us:= [(tI e5.Rows),(tI e5.Cols),(tS (e5.Cells++(⟨#[46]⟩:ByteArray)))]) (tv (T.op 1 0) Y) (tv (T.agg [(tI e5.Rows),(tI e5.Cols),(tS (e5.Cells++(⟨#[46]⟩:ByteArray)))]) Y) nofun Y Y Y Jz Q9 (bc Y (bc Y (bc Y bn)))) (nt (rt ?_)))))))))))
  refine vcur.r (D.Grid.mk e5.Rows e5.Cols (e5.Cells++(⟨#[46]⟩:ByteArray))) 0 i7 h7 ?_ (VRes.celln (ws:= [(tI e5.Rows),(tI e5.Cols),(tS (e5.Cells++(⟨#[46]⟩:ByteArray)))]) Y Y ZF Q9 (lb Y) Y VRes.nil) (Give.agg (GiveL.cons (Give.int _ _) (GiveL.cons (Give.int _ _) (GiveL.cons (Give.str _) GiveL.nil (by decide)) (by decide)) (by decide))) Y Y (by omega) (by decide)
  show (D.Grid.mk e5.Rows e5.Cols (e5.Cells++(⟨#[46]⟩:ByteArray))).Cells.size≤101
  first | exact Nat.le_trans hs5.2 (by decide) | (show (_:ByteArray).size≤101;rw [ByteArray.size_append];have h1:(ByteArray.mk #[46]).size=1:=rfl;omega) | (show (_:ByteArray).size≤101;rw [ByteArray.size_append,ByteArray.size_extract];have h1:(ByteArray.mk #[120]).size=1:=rfl;omega)
 refine sr (fO (xeq (tv (tI e7) Y) (VEv.int .i64 3)) (aO (tB (decide (e7=3))) Y (nt ?_)))
 refine cd (e7=3) Y (fun fhc3=> ?_) fun fhc3=> ?_
 ·refine VRun.region ?_
  refine lf (tS e5.Cells) Y Za Y Y Y7 (lO (OL.sliceSLo (i:=1) (tv (tS e5.Cells) Y) (VEv.int .i64 1) Y (by first | (have h1:(ByteArray.mk #[46]).size=1:=rfl;omega) | (rw [ByteArray.size_extract];have h1:(ByteArray.mk #[120]).size=1:=rfl;omega) | omega | (simp only [List.length_map];omega) | (simp only [List.length_map,List.length_append,List.length_cons,List.length_nil,List.length_replicate,List.length_set,List.length_drop,List.length_take,Zh] at *;omega)) U9) (fO (B.sadd (VEv.str (⟨#[120]⟩:ByteArray)) (tv (tS (e5.Cells.extract 1 e5.Cells.size)) Y) (by first | (have h1:(ByteArray.mk #[46]).size=1:=rfl;omega) | (rw [ByteArray.size_extract];have h1:(ByteArray.mk #[120]).size=1:=rfl;omega) | omega | (simp only [List.length_map];omega) | (simp only [List.length_map,List.length_append,List.length_cons,List.length_nil,List.length_replicate,List.length_set,List.length_drop,List.length_take,Zh] at *;omega))) (fO (OF.fieldAddrO (tv (T.op 2 0) Y) Za) (cO (B.storeO (us:= [(tS ((⟨#[120]⟩:ByteArray)++(e5.Cells.extract 1 e5.Cells.size)))]) (ws:= [(tI e5.Rows),(tI e5.Cols),(tS ((⟨#[120]⟩:ByteArray)++(e5.Cells.extract 1 e5.Cells.size)))]) (tv (T.op 2 2) Y) (tv (tS ((⟨#[120]⟩:ByteArray)++(e5.Cells.extract 1 e5.Cells.size))) Y) nofun Y Y (lb Y) if9 sz9 (bc Y bn) Y) (VRunO.nil (vinB.n (tn (sr (lO (OL.loadOn (us:= [(tI e5.Rows),(tI e5.Cols),(tS ((⟨#[120]⟩:ByteArray)++(e5.Cells.extract 1 e5.Cells.size)))]) (tv (T.op 2 0) Y) Y ZF Q9 (lb Y) Y) (cO (B.storeW (us:= [(tI e5.Rows),(tI e5.Cols),(tS ((⟨#[120]⟩:ByteArray)++(e5.Cells.extract 1 e5.Cells.size)))]) (tv (T.op 1 0) Y) (tv (T.agg [(tI e5.Rows),(tI e5.Cols),(tS ((⟨#[120]⟩:ByteArray)++(e5.Cells.extract 1 e5.Cells.size)))]) Y) nofun Y Y Y Jz Q9 (bc Y (bc Y (bc Y bn)))) (nt ?_)))))))))))
  refine rt ?_
  refine vcur.r (D.Grid.mk e5.Rows e5.Cols ((⟨#[120]⟩:ByteArray)++(e5.Cells.extract 1 e5.Cells.size))) 0 i7 h7 ?_ (VRes.celln (ws:= [(tI e5.Rows),(tI e5.Cols),(tS ((⟨#[120]⟩:ByteArray)++(e5.Cells.extract 1 e5.Cells.size)))]) Y Y ZF Q9 (lb Y) Y VRes.nil) (Give.agg (GiveL.cons (Give.int _ _) (GiveL.cons (Give.int _ _) (GiveL.cons (Give.str _) GiveL.nil (by decide)) (by decide)) (by decide))) Y Y (by omega) (by decide)
  show (D.Grid.mk e5.Rows e5.Cols ((⟨#[120]⟩:ByteArray)++(e5.Cells.extract 1 e5.Cells.size))).Cells.size≤101
  first | exact Nat.le_trans hs5.2 (by decide) | (show (_:ByteArray).size≤101;rw [ByteArray.size_append];have h1:(ByteArray.mk #[46]).size=1:=rfl;omega) | (show (_:ByteArray).size≤101;rw [ByteArray.size_append,ByteArray.size_extract];have h1:(ByteArray.mk #[120]).size=1:=rfl;omega)
 refine sk (vinB.n (tn (sr (lO (OL.loadOn (us:=(Ql false e5)) (tv (T.op 2 0) Y) Y ZF Q9 (lb Y) Y) (cO (B.storeW (us:=(Ql false e5)) (tv (T.op 1 0) Y) (tv (T.agg (Ql false e5)) Y) nofun Y Y Y Jz Q9 (bc Y (bc Y (bc Y bn)))) (nt (rt ?_)))))))
 refine vcur.r e5 0 i7 h7 ?_ (VRes.celln (ws:=(Ql false e5)) Y Y ZF Q9 (lb Y) Y VRes.nil) (Give.agg (GiveL.cons (Give.int _ _) (GiveL.cons (Give.int _ _) (GiveL.cons (Give.str _) GiveL.nil (by decide)) (by decide)) (by decide))) Y Y (by omega) (by decide)
 show e5.Cells.size≤101
 first | exact Nat.le_trans hs5.2 (by decide) | (show (_:ByteArray).size≤101;rw [ByteArray.size_append];have h1:(ByteArray.mk #[46]).size=1:=rfl;omega) | (show (_:ByteArray).size≤101;rw [ByteArray.size_append,ByteArray.size_extract];have h1:(ByteArray.mk #[120]).size=1:=rfl;omega)
theorem Yk (n:Nat) (code:List Int) (hcl:code.length≤mx):PureE (QA Tryd.prog (n+7)) 24 [(rd 1 Qj code)] (fun x:D.Grid×List D.Note=>x.1.Cells.size≤101∧gN 8 x.2) (fun x:D.Grid×List D.Note=>(T.tup [(T.agg (Ql true x.1)),(T.sl true 4 (x.2.map (Qa true)))])):=by
 refine PureE.intro (rs:= [ResultVar.cell 2 52,ResultVar.tmp 3]) Tryd.func24 Y Y Y (E0:= [(0,(rd 1 Qj code))]) Y ?_
 obtain ⟨hlim,hmx,hmax⟩:=Zk
 refine sr (kO (B.alloc (t:=(T.agg [(tN 0),(tN 0),(tS ByteArray.empty)])) (ts:= [(tN 0),(tN 0),(tS ByteArray.empty)]) QaJ Qb6 nofun (fun _=> .agg _ _ Y (Z8 (RL.cons (.int _ _) (RL.cons (.int _ _) (RL.cons (.str _) (RL.nil _)))))) Y) (fO (OF.assign VEv.nils) (nt (sr (mO (rd 1 Qj code) Y ?_)))))
 refine eN VWant.always (vc (tv (rd 1 Qj code) Y) vn) (Jg (n+5) code (by first | assumption | omega)) Y fun pb7 nb7 mb7 hn7=> ?_
 refine aO (T.op 1 0) Y (nt (sr (mO (T.op 1 0) Y ?_)))
 refine eC (us:= []) (r':=fun x_:D.Grid=>(T.agg (Ql true x_))) (objs:=fun x_:D.Grid=> []) (m:=0) (k:=1) 0 hn7 VWant.always (vc (tv (T.op 1 0) Y) vn) Y (by omega) ln (QcJ (n+0) code (by first | assumption | omega | (simp only [List.length_cons,List.length_nil];omega))) Y (fun _=>rfl) (fun _=>rfl) fun e9 i9 h9 hs9 hi9=> ?_
 have hs9:e9.Cells.size≤101:=hs9
 refine kO (B.alloc (t:=(T.agg [(tN 0),(tN 0),(tS ByteArray.empty)])) (ts:= [(tN 0),(tN 0),(tS ByteArray.empty)]) QaJ Qb6 nofun (fun _=> .agg _ _ Y (Z8 (RL.cons (.int _ _) (RL.cons (.int _ _) (RL.cons (.str _) (RL.nil _)))))) Y) (cO (B.storeW (us:=(Ql true e9)) (tv (T.op 2 0) Y) (tv (T.agg (Ql true e9)) Y) nofun Y Y Y Jz Q9 (bc Y (bc Y (bc Y bn)))) (nt (sq (VRun.drawC (us:= [(T.ex pb7 nb7 mb7 (rd 1 Qj code)),(tN i9),(tI h9)]) 1 [4,7,8] (B:= [[],[],[1],[1,2,0],[0,3,1,2]]) (by kernel_rfl) (by kernel_rfl) Y (bc Y (bc Y (bc Y bn))) Y Y (lD (OL.loadOn (us:=(Ql false e9)) (tv (T.op 2 0) Y) Y ZF Q9 (lb Y) Y) Y Y (mD (T.op 3 0) Y Y ?_))))))
 refine eDC (us:= []) (r':=fun x_:List D.Note=>(T.os 4 4 0 ((x_.map (Qa true)).length))) (objs:=fun x_:List D.Note=> [(Obj.rows 4 (x_.map (Qa true)))]) (m:=1) (k:=3) (bi:= [1]) i9 h9 Y VWant.always Y Y Y (lb Y) (vc (tv (T.op 3 0) Y) vn) Y (by omega) ln (Y2 (n+0) code (by first | assumption | omega | (simp only [List.length_cons,List.length_nil];omega))) Y (fun _=>rfl) (fun _=>rfl) fun e12 i12 h12 hs12 hi12=> ?_
 have hs12:gN 8 e12:=hs12
 refine VRunD.chain (bi:= [1,2,0]) Y VWant.always Y Y Y (by kernel_rfl) (B.storeW (us:=(Ql false e9)) (tv (T.op 0 0) Y) (tv (T.agg (Ql false e9)) Y) nofun Y Y Y Jz Q9 (bc Y (bc Y (bc Y bn)))) (fD (OF.assign (tv (T.os 4 4 0 ((e12.map (Qa true)).length)) Y)) Y Y (VRunD.nil (tn (rt ?_))))
 refine vfinE.r (e9,e12) ?_ (vfin.r (VRes.celln (ws:=(Ql false e9)) Y Y ZF Q9 (lb Y) Y (VRes.tmp (t:=(T.os 4 4 0 ((e12.map (Qa true)).length))) Y VRes.nil)) (Give.tup (GiveL.cons (Give.agg (GiveL.cons (Give.int _ _) (GiveL.cons (Give.int _ _) (GiveL.cons (Give.str _) GiveL.nil (by decide)) (by decide)) (by decide))) (GiveL.cons (Give.os Y Y (okeNote.cleanMap _)) GiveL.nil (by decide)) (by decide))))
 show e9.Cells.size≤101∧gN 8 e12
 exact ⟨hs9,hs12⟩
theorem QdL (n:Nat) (a:List Int):Pure (QA Tryd.prog (n+1)) 5 [(rd 1 Qj a)] (tB (decide (1048576<a.length))):=by
 refine Pure.intro (rs:= [ResultVar.tmp 2]) Tryd.func5 Y Y Y (E0:= [(0,(rd 1 Qj a))]) Y ?_
 obtain ⟨hlim,hmx,hmax⟩:=Zk
 refine sr (fO (OF.assign (VEv.bool false)) (nt (sr (mO (rd 1 Qj a) Y (lO (B.lenR (m:=a.length) (tv (rd 1 Qj a) Y) U22 (List.length_map ..)) (fO (B.gtr (c:=(decide (1048576<a.length))) (tv (tN a.length) Y) (VEv.int .i64 1048576) (Z4 (by omega))) (aO (tB (decide (1048576<a.length))) Y (nt (rt ?_)))))))))
 exact vb Y Y
noncomputable section
theorem QgZ (s:ByteArray) (i:Nat):0≤QT s i∧QT s i<256:=by
 unfold QT
 split
 ·rename_i h
  have:=(s[i]'h).toNat_lt
  omega
 ·omega
theorem Qbs (s:ByteArray) (i:Nat):QT s i=(bys s).getD i 0:=by
 unfold QT
 split
 ·rename_i h
  have h2:i<(bys s).length:=by rw [J2];exact h
  rw [List.getD_eq_getElem?_getD,List.getElem?_eq_getElem h2]
  simp only [bys,List.getElem_map,Option.getD_some]
  rfl
 ·rename_i h
  have h2:(bys s).length≤i:=by rw [J2];omega
  rw [List.getD_eq_getElem?_getD,List.getElem?_eq_none h2]
  rfl
theorem Qg2 (s:ByteArray):∀n∈bys s,0≤n∧n<256:=fun n hn=>by
 obtain ⟨b,_,rfl⟩:=List.mem_map.1 hn
 have:=b.toNat_lt
 omega
theorem QgJ {l:List Int} (h:∀n∈l,0≤n∧n<256):bys (J9 l)=l:=by
 rw [bys,QaG,List.map_map]
 refine (List.map_congr_left (fun n hn=> ?_)).trans (List.map_id l)
 have:=h n hn
 simp only [Function.comp_apply,UInt8.toNat_ofNat',id]
 omega
theorem QgW {f w:ByteArray} {c:Int} (j:Nat) (hj:j<f.size):QT (wrS f w [c] 1) j=if j=Int.toNat c then QT w 0 else QT f j:=by
 have e:wrI f w [c] 1=(bys f).set (Int.toNat c) (QT w 0):=rfl
 have h:∀n∈(bys f).set (Int.toNat c) (QT w 0),0≤n∧n<256:=fun n hn=>by
  rcases List.mem_or_eq_of_mem_set hn with hn | rfl
  ·exact Qg2 f n hn
  ·exact QgZ w 0
 rw [Qbs,wrS,e,QgJ h,List.getD_eq_getElem?_getD,List.getElem?_set]
 have hl:=J2 f
 by_cases hc:j=Int.toNat c
 ·rw [if_pos hc,if_pos hc.symm,if_pos (by omega)]
  rfl
 ·rw [if_neg hc,if_neg (fun e=>hc e.symm),Qbs,List.getD_eq_getElem?_getD]
theorem QfI (a b:ByteArray):bys (a++b)=bys a++bys b:=by
 simp only [bys,ByteArray.data_append,Array.toList_append,List.map_append]
theorem Qdc (s:ByteArray):∀i j,j<i→QT (QcE s i) j=if QT s j=35 then 35 else 63
 | 0,j,h=>absurd h (Nat.not_lt_zero _)
 | i+1,j,h=>by
  have hl:(bys (QcE s i)).length=i:=by rw [J2,J3]
  rw [Qbs,QcE,QfI,List.getD_eq_getElem?_getD]
  rcases Nat.lt_or_ge j i with hj | hj
  ·have ih:=Qdc s i j hj
   rw [Qbs,List.getD_eq_getElem?_getD] at ih
   rw [List.getElem?_append_left (by omega)]
   exact ih
  ·obtain rfl:j=i:=by omega
   rw [List.getElem?_append_right (by omega),hl,Nat.sub_self]
   split<;>rfl
theorem Qdv {g:D.Grid} {l:List D.Note} (hg:Qu g) (hl:∀y∈l,vN y):∀i j,j<g.Cells.size→Ys (QT g.Cells j) (QT (J5 g l i) j)
 | 0,j,hj=>by
  show Ys _ (QT (QaZ g) j)
  rw [QaZ,if_pos hg,Qdc _ _ _ hj]
  unfold Ys
  split<;>omega
 | i+1,j,hj=>by
  have ih:=Qdv hg hl i j hj
  cases hx:l[i]? with
  | none =>
   have e:J5 g l (i+1)=J5 g l i:=by rw [J5,hx]
   rw [e];exact ih
  | some x =>
   by_cases hw:Qck g x.Cell
   ·rw [Js hx hw,QgW j (by rw [JR,QaX hg];exact hj)]
    split
    ·rename_i e
     have hv:=hl x (List.mem_of_getElem? hx)
     have h1:=hw.2.2
     have h2:=hv.2.2.1.2 0 (by have:=hv.2.1;omega)
     subst e
     unfold Ys
     omega
    ·exact ih
   ·rw [QcM hx hw];exact ih
theorem QaA {g:D.Grid} {l:List D.Note} (hg:Qu g) (hl:Qb l):YD g (Zx g l):=by
 have hs:(Zx g l).size=g.Cells.size:=by rw [Zx,if_pos hl,JR,QaX hg]
 refine ⟨hg,hs,fun j hj=> ?_⟩
 rw [hs] at hj
 rw [Zx,if_pos hl]
 exact Qdv hg (Zi hl).1 _ j hj
theorem QgX {m l:List D.Note} {i k:Nat} {y x:D.Note} (h:k≤m.length∧∀j,j<k→∀y x,m[j]? =some y→l[i]? =some x→y.Cell≠x.Cell) (hk:k<m.length) (hy:m[k]? =some y) (hx:l[i]? =some x) (hc:¬y.Cell=x.Cell):k+1≤m.length∧∀j,j<k+1→∀y x,m[j]? =some y→l[i]? =some x→y.Cell≠x.Cell:=by
 refine ⟨hk,fun j hj y2 x2 h1 h2=> ?_⟩
 rcases Nat.lt_or_ge j k with h3 | h3
 ·exact h.2 j h3 y2 x2 h1 h2
 ·obtain rfl:j=k:=by omega
  rw [hy] at h1
  rw [hx] at h2
  cases h1
  cases h2
  exact hc
theorem Zu {x y:D.Note} (h:Qf x y=true) (h2:Qf y x=true):False:=by
 rw [Yx h] at h2;cases h2
theorem ZT {a b:List D.Note} {i k:Nat} (ha:Qb a) (hb:Qb b) (hi:i<(a++b).length) (hk:¬k<(Qc a b).length) (h:∀j,j<k→∀y x,(Qc a b)[j]? =some y→(a++b)[i]? =some x→y.Cell≠x.Cell):False:=by
 have hx:=List.getElem?_eq_getElem hi
 obtain ⟨z,h1,_⟩:=Qa5 ha hb (List.mem_of_getElem? hx)
 obtain ⟨hz,hc⟩:=YR h1
 obtain ⟨j,hj⟩:=List.getElem?_of_mem hz
 have:=(List.getElem?_eq_some_iff.1 hj).1
 exact h j (by omega) z _ hj hx hc
theorem ZU {a b:List D.Note} {i k:Nat} {x y:D.Note} (ha:Qb a) (hb:Qb b) (hx:(a++b)[i]? =some x) (hy:(Qc a b)[k]? =some y) (hc:y.Cell=x.Cell) (hl:Qf x y=true):False:=by
 obtain ⟨z,h1,h2⟩:=Qa5 ha hb (List.mem_of_getElem? hx)
 have h3:=Qag (Zi (QM ha hb).1).2 (List.mem_of_getElem? hy)
 rw [hc,h1] at h3
 obtain rfl:=Option.some.inj h3
 rw [h2] at hl
 cases hl
theorem Qgo {a b:List D.Note} (ha:gN 8 a) (hb:gN 8 b):(zL Qo a≤24∧zL Qo b≤24∧zL Qo (Qc a b)≤48∧zL Qo (Qc b a)≤48∧zL Qo (Qc (Qc a b) b)≤72∧zL Qo (Qc a a)≤48)∧a.length≤24∧b.length≤24∧(Qc a b).length≤48∧(Qc b a).length≤48∧(Qc (Qc a b) b).length≤72∧(Qc a a).length≤48:=by
 have h1:=Qfl ha
 have h2:=Qfl hb
 have h3:=Qao a b
 have h4:=Qao b a
 have h5:=Qao (Qc a b) b
 have h6:=Qao a a
 have l1:=ZV (z:=Qo) a
 have l2:=ZV (z:=Qo) b
 have l3:=ZV (z:=Qo) (Qc a b)
 have l4:=ZV (z:=Qo) (Qc b a)
 have l5:=ZV (z:=Qo) (Qc (Qc a b) b)
 have l6:=ZV (z:=Qo) (Qc a a)
 refine ⟨⟨?_,?_,?_,?_,?_,?_⟩,?_,?_,?_,?_,?_,?_⟩<;>omega
end
theorem Qbc (n:Nat) (a0:List Int) (g0:(a0.length≤maxLen∧∀y∈a0,(Lit.int .u8 y).wf=true)):Pure (QA Tryd.prog (n+8)) 4 [(rd 1 Qj a0)] (tB true):=by
 refine Pure.intro (rs:= [ResultVar.tmp 2]) Tryd.func4 Y Y Y (E0:= [(0,(rd 1 Qj a0))]) Y ?_
 obtain ⟨hlim,hmx,hmax⟩:=Zk
 refine sr (fO (OF.assign (VEv.bool false)) (nt (sq (sr (mO (rd 1 Qj a0) Y (cO (cS (vc (tv (rd 1 Qj a0) Y) vn) (ZO Y) (QdL (n+6) a0) Y Y) (nt ?_)))))))
 refine cd (1048576<a0.length) Y (fun fhc0=> ?_) fun fhc0=> ?_
 ·refine sr ?_
  refine fO (OF.assign (VEv.bool true)) (nt (rt (tr ?_)))
  exact vb Y Y
 refine sk (tn (sr (mO (rd 1 Qj a0) Y ?_)))
 refine eP (us:= [(rd 1 Qj a0)]) (r':=fun x_:List D.Note×List D.Note=>(T.tup [(T.os 4 0 0 ((x_.1.map (Qa true)).length)),(T.os 4 1 0 ((x_.2.map (Qa true)).length))])) (objs:=fun x_:List D.Note×List D.Note=> [(Obj.rows 4 (x_.1.map (Qa true))),(Obj.rows 4 (x_.2.map (Qa true)))]) (m:=2) VWant.always (vc (tv (rd 1 Qj a0) Y) vn) (ZO Y) (Jy (n+0) a0 (by first | (simp only [QS];omega) | assumption | omega | (simp only [List.length_cons,List.length_nil];omega))) Y (fun _=>rfl) (fun _=>rfl) fun e18 hs18=> ?_
 have hs18:gN 8 e18.1∧gN 8 e18.2:=hs18
 refine mO (T.tup [(T.os 4 0 0 ((e18.1.map (Qa true)).length)),(T.os 4 1 0 ((e18.2.map (Qa true)).length))]) Y (fO (OF.extract (t:=(T.os 4 0 0 ((e18.1.map (Qa true)).length))) (tv (T.tup [(T.os 4 0 0 ((e18.1.map (Qa true)).length)),(T.os 4 1 0 ((e18.2.map (Qa true)).length))]) Y) Y) (fO (OF.extract (t:=(T.os 4 1 0 ((e18.2.map (Qa true)).length))) (tv (T.tup [(T.os 4 0 0 ((e18.1.map (Qa true)).length)),(T.os 4 1 0 ((e18.2.map (Qa true)).length))]) Y) Y) (aO (T.os 4 0 0 ((e18.1.map (Qa true)).length)) Y (aO (T.os 4 1 0 ((e18.2.map (Qa true)).length)) Y (nt ?_)))))
 have hmz:=(Qgo hs18.1 hs18.2).1
 have hml:=(Qgo hs18.1 hs18.2).2
 have hab:(e18.1++e18.2).length=e18.1.length+e18.2.length:=List.length_append
 refine sr (mO (T.os 4 0 0 ((e18.1.map (Qa true)).length)) Y (mO (T.os 4 1 0 ((e18.2.map (Qa true)).length)) Y (cO (OC.callF (us:= [(rd 4 Qa e18.1),(rd 4 Qa e18.2)]) (r':=(T.os 4 2 0 (((Qc e18.1 e18.2).map (Qa true)).length))) (objs:= [(Obj.rows 4 ((Qc e18.1 e18.2).map (Qa true)))]) Y (vc (tv (T.os 4 0 0 ((e18.1.map (Qa true)).length)) Y) (vc (tv (T.os 4 1 0 ((e18.2.map (Qa true)).length)) Y) vn)) (LendL.cons (Lend.os Y Y (okeNote.fzMap _ _)) (LendL.cons (Lend.os Y Y (okeNote.fzMap _ _)) ln)) (ZC (n+2) e18.1 e18.2 (by first | (simp only [QS];omega) | assumption | omega)) Y) (aO (T.os 4 2 0 (((Qc e18.1 e18.2).map (Qa true)).length)) Y (nt (sq (sr (mO (T.os 4 2 0 (((Qc e18.1 e18.2).map (Qa true)).length)) Y (mO (T.os 4 1 0 ((e18.2.map (Qa true)).length)) Y (mO (T.os 4 0 0 ((e18.1.map (Qa true)).length)) Y (cO (OC.callF (us:= [(rd 4 Qa e18.2),(rd 4 Qa e18.1)]) (r':=(T.os 4 3 0 (((Qc e18.2 e18.1).map (Qa true)).length))) (objs:= [(Obj.rows 4 ((Qc e18.2 e18.1).map (Qa true)))]) Y (vc (tv (T.os 4 1 0 ((e18.2.map (Qa true)).length)) Y) (vc (tv (T.os 4 0 0 ((e18.1.map (Qa true)).length)) Y) vn)) (LendL.cons (Lend.os Y Y (okeNote.fzMap _ _)) (LendL.cons (Lend.os Y Y (okeNote.fzMap _ _)) ln)) (ZC (n+2) e18.2 e18.1 (by first | (simp only [QS];omega) | assumption | omega)) Y) ?_)))))))))))
 refine cO (cS (us:= [(rd 4 Qa (Qc e18.1 e18.2)),(rd 4 Qa (Qc e18.2 e18.1))]) (vc (tv (T.os 4 2 0 (((Qc e18.1 e18.2).map (Qa true)).length)) Y) (vc (tv (T.os 4 3 0 (((Qc e18.2 e18.1).map (Qa true)).length)) Y) vn)) (LendL.cons (Lend.os Y Y (okeNote.fzMap _ _)) (LendL.cons (Lend.os Y Y (okeNote.fzMap _ _)) ln)) (Z5 (n+5) (Qc e18.1 e18.2) (Qc e18.2 e18.1) (by first | (simp only [QS];omega) | assumption | omega) (by first | (simp only [QS];omega) | assumption | omega)) Y Y) (fO (QZ (tv (tB (decide ((Qc e18.1 e18.2)=(Qc e18.2 e18.1)))) Y)) (nt ?_))
 refine cn ((Qc e18.1 e18.2)=(Qc e18.2 e18.1)) Y (fun fhc1=> ?_) fun fhc1=> ?_
 ·exact absurd (Qdz _ _) fhc1
 refine sk (tn (sq (sr (mO (T.os 4 0 0 ((e18.1.map (Qa true)).length)) Y (cO (cS (us:= [(rd 4 Qa e18.1)]) (vc (tv (T.os 4 0 0 ((e18.1.map (Qa true)).length)) Y) vn) (LendL.cons (Lend.os Y Y (okeNote.fzMap _ _)) ln) (Qn (n+4) e18.1 (by first | (simp only [QS];omega) | assumption | omega)) Y Y) (mO (tB (decide (Qb e18.1))) Y ?_))))))
 refine VRunO.joinB 3 [33,34] 35 (tB (decide ((Qb e18.1)∧(Qb e18.2)))) ?_ ?_
 ·refine gw (Qb e18.1) (fun fhg32_1=> ?_) fun fhg32_1=> ?_
  ·refine gF (dy fhg32_1) Y Y (OF.move (tv (T.os 4 1 0 ((e18.2.map (Qa true)).length)) Y)) ?_
   refine VRunO.chain (VWant.on Y Y (dy fhg32_1)) (cS (us:= [(rd 4 Qa e18.2)]) (vc (tv (T.os 4 1 0 ((e18.2.map (Qa true)).length)) Y) vn) (LendL.cons (Lend.os Y Y (okeNote.fzMap _ _)) ln) (Qn (n+4) e18.2 (by first | (simp only [QS];omega) | assumption | omega)) Y Y) (fO (OF.pickT (VEv.tmpB Y (dy fhg32_1)) (tv (tB (decide (Qb e18.2))) Y)) (VRunO.nil ?_))
   exact jq (congrArg T.bool (kAT fhg32_1 Y)) (js Y (js Y (jn)))
  ·refine Q2 2 2 true 32 (dz fhg32_1) Y Y Y ?_
   refine fO (OF.pickF (VEv.tmpB Y (dz fhg32_1)) (VEv.bool false)) (VRunO.nil ?_)
   exact jq (congrArg T.bool (kAF fhg32_1)) (js Y (js Y (jn)))
 refine nt ?_
 refine cd ((Qb e18.1)∧(Qb e18.2)) Y (fun fhc2=> ?_) fun fhc2=> ?_
 ·have hA:=fhc2.1
  have hB:=fhc2.2
  refine sq (sr (mO (T.os 4 2 0 (((Qc e18.1 e18.2).map (Qa true)).length)) Y (cO (cS (us:= [(rd 4 Qa (Qc e18.1 e18.2))]) (vc (tv (T.os 4 2 0 (((Qc e18.1 e18.2).map (Qa true)).length)) Y) vn) (LendL.cons (Lend.os Y Y (okeNote.fzMap _ _)) ln) (Qn (n+4) (Qc e18.1 e18.2) (by first | (simp only [QS];omega) | assumption | omega)) Y Y) (fO (QZ (tv (tB (decide (Qb (Qc e18.1 e18.2)))) Y)) (mO (tB (!(decide (Qb (Qc e18.1 e18.2))))) Y ?_)))))
  refine gn (Qb (Qc e18.1 e18.2)) (fun fhg39_2=> ?_) fun fhg39_2=> ?_
  ·refine Q2 6 3 false 39 (ny fhg39_2) Y Y Y ?_
   refine fO (OF.pickT (VEv.tmpB Y (ny fhg39_2)) (VEv.bool true)) (mO (tB true) Y (Q2 6 11 false 47 (b:=true) Y Y Y Y (fO (OF.pickT (tv (tB true) Y) (VEv.bool true)) (nt (ct Y (sr (fO (OF.assign (VEv.bool false)) (nt (rt (tr (tr ?_)))))))))))
   refine vb (b':=false) Y ?_
   first | rfl | (exfalso;exact ‹¬Qb (Qc e18.1 e18.2)› (QM hA hB).1) | (exfalso;exact ‹¬Qc (Qc e18.1 e18.2) e18.2=Qc e18.1 e18.2› (QN hA hB)) | (exfalso;exact ‹¬Qc e18.1 e18.1=e18.1› (QV hA)) | (exfalso;exact ZT hA hB fhc4 (by omega) hJ2) | (exfalso;exact ZU hA hB hx2 hx1 fhc5 fhc6) | (exfalso;exact Zu ‹Qf e122.1 e122.2=true› ‹Qf e122.2 e122.1=true›) | (have h9:=QH ‹Qf e122.1 e122.2=false› ‹Qf e122.2 e122.1=false›;first | exact absurd h9.1 ‹_› | exact absurd h9.2.1 ‹_› | exact absurd h9.2.2 ‹_› | exact decide_eq_true h9.2.2)
  refine gF (nz fhg39_2) Y Y (OF.move (tv (T.os 4 2 0 (((Qc e18.1 e18.2).map (Qa true)).length)) Y)) (gF (nz fhg39_2) Y Y (OF.move (tv (T.os 4 1 0 ((e18.2.map (Qa true)).length)) Y)) (VRunO.chain (VWant.on Y Y (nz fhg39_2)) (OC.callF (us:= [(rd 4 Qa (Qc e18.1 e18.2)),(rd 4 Qa e18.2)]) (r':=(T.os 4 4 0 (((Qc (Qc e18.1 e18.2) e18.2).map (Qa true)).length))) (objs:= [(Obj.rows 4 ((Qc (Qc e18.1 e18.2) e18.2).map (Qa true)))]) Y (vc (tv (T.os 4 2 0 (((Qc e18.1 e18.2).map (Qa true)).length)) Y) (vc (tv (T.os 4 1 0 ((e18.2.map (Qa true)).length)) Y) vn)) (LendL.cons (Lend.os Y Y (okeNote.fzMap _ _)) (LendL.cons (Lend.os Y Y (okeNote.fzMap _ _)) ln)) (ZC (n+2) (Qc e18.1 e18.2) e18.2 (by first | (simp only [QS];omega) | assumption | omega)) Y) (gF (nz fhg39_2) Y Y (OF.move (tv (T.os 4 2 0 (((Qc e18.1 e18.2).map (Qa true)).length)) Y)) (VRunO.chain (VWant.on Y Y (nz fhg39_2)) (cS (us:= [(rd 4 Qa (Qc (Qc e18.1 e18.2) e18.2)),(rd 4 Qa (Qc e18.1 e18.2))]) (vc (tv (T.os 4 4 0 (((Qc (Qc e18.1 e18.2) e18.2).map (Qa true)).length)) Y) (vc (tv (T.os 4 2 0 (((Qc e18.1 e18.2).map (Qa true)).length)) Y) vn)) (LendL.cons (Lend.os Y Y (okeNote.fzMap _ _)) (LendL.cons (Lend.os Y Y (okeNote.fzMap _ _)) ln)) (Z5 (n+5) (Qc (Qc e18.1 e18.2) e18.2) (Qc e18.1 e18.2) (by first | (simp only [QS];omega) | assumption | omega) (by first | (simp only [QS];omega) | assumption | omega)) Y Y) (gF (nz fhg39_2) Y Y (QZ (tv (tB (decide ((Qc (Qc e18.1 e18.2) e18.2)=(Qc e18.1 e18.2)))) Y)) (fO (OF.pickF (VEv.tmpB Y (nz fhg39_2)) (tv (tB (!(decide ((Qc (Qc e18.1 e18.2) e18.2)=(Qc e18.1 e18.2))))) Y)) (mO (tB (!(decide ((Qc (Qc e18.1 e18.2) e18.2)=(Qc e18.1 e18.2))))) Y ?_)))))))
  refine gn ((Qc (Qc e18.1 e18.2) e18.2)=(Qc e18.1 e18.2)) (fun fhg47_3=> ?_) fun fhg47_3=> ?_
  ·refine Q2 6 11 false 47 (ny fhg47_3) Y Y Y ?_
   refine fO (OF.pickT (VEv.tmpB Y (ny fhg47_3)) (VEv.bool true)) (nt (ct Y (sr (fO (OF.assign (VEv.bool false)) (nt (rt (tr (tr (vb (b':=false) Y ?_)))))))))
   first | rfl | (exfalso;exact ‹¬Qb (Qc e18.1 e18.2)› (QM hA hB).1) | (exfalso;exact ‹¬Qc (Qc e18.1 e18.2) e18.2=Qc e18.1 e18.2› (QN hA hB)) | (exfalso;exact ‹¬Qc e18.1 e18.1=e18.1› (QV hA)) | (exfalso;exact ZT hA hB fhc4 (by omega) hJ2) | (exfalso;exact ZU hA hB hx2 hx1 fhc5 fhc6) | (exfalso;exact Zu ‹Qf e122.1 e122.2=true› ‹Qf e122.2 e122.1=true›) | (have h9:=QH ‹Qf e122.1 e122.2=false› ‹Qf e122.2 e122.1=false›;first | exact absurd h9.1 ‹_› | exact absurd h9.2.1 ‹_› | exact absurd h9.2.2 ‹_› | exact decide_eq_true h9.2.2)
  refine gF (nz fhg47_3) Y Y (OF.move (tv (T.os 4 0 0 ((e18.1.map (Qa true)).length)) Y)) (gF (nz fhg47_3) Y Y (OF.move (tv (T.os 4 0 0 ((e18.1.map (Qa true)).length)) Y)) (VRunO.chain (VWant.on Y Y (nz fhg47_3)) (OC.callF (us:= [(rd 4 Qa e18.1),(rd 4 Qa e18.1)]) (r':=(T.os 4 5 0 (((Qc e18.1 e18.1).map (Qa true)).length))) (objs:= [(Obj.rows 4 ((Qc e18.1 e18.1).map (Qa true)))]) Y (vc (tv (T.os 4 0 0 ((e18.1.map (Qa true)).length)) Y) (vc (tv (T.os 4 0 0 ((e18.1.map (Qa true)).length)) Y) vn)) (LendL.cons (Lend.os Y Y (okeNote.fzMap _ _)) (LendL.cons (Lend.os Y Y (okeNote.fzMap _ _)) ln)) (ZC (n+2) e18.1 e18.1 (by first | (simp only [QS];omega) | assumption | omega)) Y) (gF (nz fhg47_3) Y Y (OF.move (tv (T.os 4 0 0 ((e18.1.map (Qa true)).length)) Y)) (VRunO.chain (VWant.on Y Y (nz fhg47_3)) (cS (us:= [(rd 4 Qa (Qc e18.1 e18.1)),(rd 4 Qa e18.1)]) (vc (tv (T.os 4 5 0 (((Qc e18.1 e18.1).map (Qa true)).length)) Y) (vc (tv (T.os 4 0 0 ((e18.1.map (Qa true)).length)) Y) vn)) (LendL.cons (Lend.os Y Y (okeNote.fzMap _ _)) (LendL.cons (Lend.os Y Y (okeNote.fzMap _ _)) ln)) (Z5 (n+5) (Qc e18.1 e18.1) e18.1 (by first | (simp only [QS];omega) | assumption | omega) (by first | (simp only [QS];omega) | assumption | omega)) Y Y) (gF (nz fhg47_3) Y Y (QZ (tv (tB (decide ((Qc e18.1 e18.1)=e18.1))) Y)) (fO (OF.pickF (VEv.tmpB Y (nz fhg47_3)) (tv (tB (!(decide ((Qc e18.1 e18.1)=e18.1)))) Y)) (nt ?_)))))))
  refine cn ((Qc e18.1 e18.1)=e18.1) Y (fun fhc3=> ?_) fun fhc3=> ?_
  ·refine sr ?_
   refine fO (OF.assign (VEv.bool false)) (nt (rt (tr (tr (vb (b':=false) Y ?_)))))
   first | rfl | (exfalso;exact ‹¬Qb (Qc e18.1 e18.2)› (QM hA hB).1) | (exfalso;exact ‹¬Qc (Qc e18.1 e18.2) e18.2=Qc e18.1 e18.2› (QN hA hB)) | (exfalso;exact ‹¬Qc e18.1 e18.1=e18.1› (QV hA)) | (exfalso;exact ZT hA hB fhc4 (by omega) hJ2) | (exfalso;exact ZU hA hB hx2 hx1 fhc5 fhc6) | (exfalso;exact Zu ‹Qf e122.1 e122.2=true› ‹Qf e122.2 e122.1=true›) | (have h9:=QH ‹Qf e122.1 e122.2=false› ‹Qf e122.2 e122.1=false›;first | exact absurd h9.1 ‹_› | exact absurd h9.2.1 ‹_› | exact absurd h9.2.2 ‹_› | exact decide_eq_true h9.2.2)
  refine sk (tn (sr (kO (OM.slice0 QJ QL (by kernel_rfl) Y (by rw [Qh];decide) Qh) (mO (T.os 4 0 0 ((e18.1.map (Qa true)).length)) Y (cO (B.append (rows:= []) (rows2:=(e18.1.map (Qa true))) (rows3:=(e18.1.map (Qa true))) (VDst.own (tv (T.os 4 6 0 0) Y) Y Y) (VSrc.own (tv (T.os 4 0 0 ((e18.1.map (Qa true)).length)) Y) Y Y QJ (okeNote.okMap _ _)) (by decide) QJ Qh (by decide) QL Y (of_decide_eq_true (by kernel_rfl)) (by first | (simp only [QS];omega) | omega | (simp only [List.length_map];omega) | (simp only [List.length_map,List.length_append,List.length_cons,List.length_nil,List.length_replicate,List.length_set,List.length_drop,List.length_take,Zh] at *;omega)) (List.nil_append _)) (mO (T.os 4 1 0 ((e18.2.map (Qa true)).length)) Y (cO (B.append (rows:=(e18.1.map (Qa true))) (rows2:=(e18.2.map (Qa true))) (rows3:=((e18.1++e18.2).map (Qa true))) (VDst.own (tv (T.os 4 7 0 ((e18.1.map (Qa true)).length)) Y) Y Y) (VSrc.own (tv (T.os 4 1 0 ((e18.2.map (Qa true)).length)) Y) Y Y QJ (okeNote.okMap _ _)) (by decide) QJ Qh (by decide) QL Y (of_decide_eq_true (by kernel_rfl)) (by first | (simp only [QS];omega) | omega | (simp only [List.length_map];omega) | (simp only [List.length_map,List.length_append,List.length_cons,List.length_nil,List.length_replicate,List.length_set,List.length_drop,List.length_take,Zh] at *;omega)) ((List.map_append (f:=Qa true) (l₁:=e18.1) (l₂:=e18.2)).symm)) (aO (T.os 4 8 0 (((e18.1++e18.2).map (Qa true)).length)) Y (nt (sr (fO (OF.assign (VEv.int .i64 0)) ?_)))))))))))
  refine nt (VRun.block ?_)
  refine VRun.loop (A:=Nat) (fun s_=> [(0,(rd 1 Qj a0)),(5,(T.os 4 0 0 (((Qc e18.1 e18.2).map (Qa true)).length))),(6,(T.os 4 1 0 (((e18.1++e18.2).map (Qa true)).length))),(7,(tN s_))]) (fun s_=>Jw [(0,(Obj.rows 4 ((Qc e18.1 e18.2).map (Qa true)))),(1,(Obj.rows 4 ((e18.1++e18.2).map (Qa true))))]) 2 (fun s_=>s_≤(e18.1++e18.2).length) (fun s_=>(e18.1++e18.2).length - s_) (0:Nat) ?_ (Wk.mk (fun k=>if k=0 then 2 else if k=1 then 8 else k) ?_ ?_ ?_) ?_
  ·first | trivial | (simp;done) | omega | (constructor<;>simp)
  ·exact (b2 (b2 (b2 (b2 bn))))
  ·exact (b3 (b3 bn))
  ·exact nd Y
  rintro i (hI':i≤(e18.1++e18.2).length)
  show VRun _ _ _ [(0,(rd 1 Qj a0)),(5,(T.os 4 0 0 (((Qc e18.1 e18.2).map (Qa true)).length))),(6,(T.os 4 1 0 (((e18.1++e18.2).map (Qa true)).length))),(7,(tN i))] (Jw [(0,(Obj.rows 4 ((Qc e18.1 e18.2).map (Qa true)))),(1,(Obj.rows 4 ((e18.1++e18.2).map (Qa true))))]) 2 _
  have hI1:=hI'
  refine sq (sr (mO (tN i) Y (mO (T.os 4 1 0 (((e18.1++e18.2).map (Qa true)).length)) Y (lO (B.lenO (m:=(e18.1++e18.2).length) (tv (T.os 4 1 0 (((e18.1++e18.2).map (Qa true)).length)) Y) QJ (List.length_map ..)) (fO (Jx (tv (tN i) Y) (tv (tN ((e18.1++e18.2).length)) Y)) (nt ?_))))))
  refine cd (i<(e18.1++e18.2).length) Y (fun fhc4=> ?_) fun fhc4=> ?_
  ·refine sk ?_
   refine tn (sq (VRun.block (sr (fO (OF.assign (VEv.int .i64 0)) (nt (sq (VRun.block ?_)))))))
   refine VRun.loop (A:=Nat) (fun s_=> [(0,(rd 1 Qj a0)),(5,(T.os 4 0 0 (((Qc e18.1 e18.2).map (Qa true)).length))),(6,(T.os 4 1 0 (((e18.1++e18.2).map (Qa true)).length))),(7,(tN i)),(8,(tN s_))]) (fun s_=>Jw [(0,(Obj.rows 4 ((Qc e18.1 e18.2).map (Qa true)))),(1,(Obj.rows 4 ((e18.1++e18.2).map (Qa true))))]) 2 (fun s_=>s_≤(Qc e18.1 e18.2).length∧∀j,j<s_→∀y x,(Qc e18.1 e18.2)[j]? =some y→(e18.1++e18.2)[i]? =some x→y.Cell≠x.Cell) (fun s_=>(Qc e18.1 e18.2).length - s_) (0:Nat) ?_ (Wk.mk (fun k=>k) ?_ ?_ ?_) ?_
   ·exact ⟨Nat.zero_le _,fun j hj=>absurd hj (Nat.not_lt_zero _)⟩
   ·exact (b2 (b2 (b2 (b2 (b2 bn)))))
   ·exact (b3 (b3 bn))
   ·exact nd Y
   rintro k (hI':k≤(Qc e18.1 e18.2).length∧∀j,j<k→∀y x,(Qc e18.1 e18.2)[j]? =some y→(e18.1++e18.2)[i]? =some x→y.Cell≠x.Cell)
   show VRun _ _ _ [(0,(rd 1 Qj a0)),(5,(T.os 4 0 0 (((Qc e18.1 e18.2).map (Qa true)).length))),(6,(T.os 4 1 0 (((e18.1++e18.2).map (Qa true)).length))),(7,(tN i)),(8,(tN k))] (Jw [(0,(Obj.rows 4 ((Qc e18.1 e18.2).map (Qa true)))),(1,(Obj.rows 4 ((e18.1++e18.2).map (Qa true))))]) 2 _
   have hJ1:=hI'.1
   have hJ2:=hI'.2
   refine sq (sq (VRun.draw (B:= [[],[],[1],[1,2,0],[0,2,1,3],[3,1,2,0,4],[3,1,2,0,4],[6,4,0,2,1,3,5],[5,3,1,2,0,4,6,7],[7,6,4,0,2,1,3,5,8],[3,1,2,0,4],[3,1,2,0,4],[11,4,0,2,1,3,10],[10,3,1,2,0,4,11,12],[12,11,4,0,2,1,3,10,13],[13,10,11,12,14,8,5,3,1,2,0,4,6,7,9],[9,7,6,5,8,14,12,11,10,13,15,3,1,2,0,4]]) (by kernel_rfl) (by kernel_rfl) Y (mD (tN k) Y Y (mD (T.os 4 0 0 (((Qc e18.1 e18.2).map (Qa true)).length)) Y Y (lD (B.lenO (m:=(Qc e18.1 e18.2).length) (tv (T.os 4 0 0 (((Qc e18.1 e18.2).map (Qa true)).length)) Y) QJ (List.length_map ..)) Y Y (fD (Jx (tv (tN k) Y) (tv (tN ((Qc e18.1 e18.2).length)) Y)) Y Y (mD (tB (decide (k<(Qc e18.1 e18.2).length))) Y Y ?_)))))))
   refine gw (k<(Qc e18.1 e18.2).length) (fun fhg70_4=> ?_) fun fhg70_4=> ?_
   ·refine VRunD.free Y (VWant.on Y Y (dy fhg70_4)) Y (OF.move (tv (T.os 4 0 0 (((Qc e18.1 e18.2).map (Qa true)).length)) Y)) ?_
    refine VRunD.free Y (VWant.on Y Y (dy fhg70_4)) Y (OF.move (tv (tN k) Y)) ?_
    obtain ⟨x1,hx1⟩:∃x,(Qc e18.1 e18.2)[k]? =some x:=⟨_,List.getElem?_eq_getElem (by first | (simp only [QS];omega) | omega)⟩
    refine VRunD.free Y (VWant.on Y Y (dy fhg70_4)) Y (B.indexAddrO (i:=k) (tv (T.os 4 0 0 (((Qc e18.1 e18.2).map (Qa true)).length)) Y) (tv (tN k) Y) Y (by first | (simp only [QS];omega) | omega | (simp only [List.length_map];omega) | (simp only [List.length_map,List.length_append,List.length_cons,List.length_nil,List.length_replicate,List.length_set,List.length_drop,List.length_take,Zh] at *;omega)) QJ Qh Q7) (VRunD.free Y (VWant.on Y Y (dy fhg70_4)) Y (OF.fieldAddrP (tv (T.orp 4 0 k 0) Y) Ze) (VRunD.look Y (VWant.on Y Y (dy fhg70_4)) Y (OL.loadP1 (t:=(tI x1.Cell)) (row:=(Qa true x1)) (tv (T.orp 4 0 k 0) Y) Y (QR _ hx1) Y Y Zo) (VRunD.free Y (VWant.on Y Y (dy fhg70_4)) Y (OF.move (tv (T.os 4 1 0 (((e18.1++e18.2).map (Qa true)).length)) Y)) (VRunD.free Y (VWant.on Y Y (dy fhg70_4)) Y (OF.move (tv (tN i) Y)) ?_))))
    obtain ⟨x2,hx2⟩:∃x,(e18.1++e18.2)[i]? =some x:=⟨_,List.getElem?_eq_getElem (by first | (simp only [QS];omega) | omega | (simp only [List.length_map];omega) | (simp only [List.length_map,List.length_append,List.length_cons,List.length_nil,List.length_replicate,List.length_set,List.length_drop,List.length_take,Zh] at *;omega))⟩
    refine VRunD.free Y (VWant.on Y Y (dy fhg70_4)) Y (B.indexAddrO (i:=i) (tv (T.os 4 1 0 (((e18.1++e18.2).map (Qa true)).length)) Y) (tv (tN i) Y) Y (by first | (simp only [QS];omega) | omega | (simp only [List.length_map];omega) | (simp only [List.length_map,List.length_append,List.length_cons,List.length_nil,List.length_replicate,List.length_set,List.length_drop,List.length_take,Zh] at *;omega)) QJ Qh Q7) (VRunD.free Y (VWant.on Y Y (dy fhg70_4)) Y (OF.fieldAddrP (tv (T.orp 4 1 i 0) Y) Ze) (VRunD.look Y (VWant.on Y Y (dy fhg70_4)) Y (OL.loadP1 (t:=(tI x2.Cell)) (row:=(Qa true x2)) (tv (T.orp 4 1 i 0) Y) Y (QR _ hx2) Y Y Zo) (VRunD.free Y (VWant.on Y Y (dy fhg70_4)) Y (xne (tv (tI x1.Cell) Y) (tv (tI x2.Cell) Y)) (fD (OF.pickT (VEv.tmpB Y (dy fhg70_4)) (tv (tB (!(decide (x1.Cell=x2.Cell)))) Y)) Y Y (VRunD.nil (tn ?_))))))
    refine cn (x1.Cell=x2.Cell) Y (fun fhc5=> ?_) fun fhc5=> ?_
    ·refine sk ?_
     refine tn (VRun.block (VRun.region (mO (tN k) Y (fO (ZB (tv (tN k) Y) (VEv.int .i64 1) (by first | (simp only [QS];omega) | omega)) (aO (tN (k+1)) Y (VRunO.nil (vinB.n (tn ?_))))))))
     refine ⟨(k+1:Nat),?_,?_,Wk.mk (fun k=>k) ?_ ?_ ?_⟩
     ·exact QgX hI' fhg70_4 hx1 hx2 fhc5
     ·first | omega | (simp only [];omega) | (show _<_;omega) | (simp;omega)
     ·exact (b2 (b2 (b2 (b2 (b2 bn)))))
     ·exact (b3 (b3 bn))
     ·exact nd Y
    refine VRun.exit (vthn.e (vthn.e (vinB.e (tn (sq (VRun.draw (B:= [[],[],[1],[1,2,0],[0,2,1,3],[3,1,2,0,4],[3,1,2,0,4],[6,4,0,2,1,3,5],[5,3,1,2,0,4,6,7],[3,1,2,0,4],[3,1,2,0,4],[10,4,0,2,1,3,9],[9,3,1,2,0,4,10,11],[11,10,9,12,7,6,4,0,2,1,3,5,8],[8,5,6,7,12,9,10,11,13,3,1,2,0,4]]) (by kernel_rfl) (by kernel_rfl) Y (mD (tN k) Y Y (mD (T.os 4 0 0 (((Qc e18.1 e18.2).map (Qa true)).length)) Y Y (lD (B.lenO (m:=(Qc e18.1 e18.2).length) (tv (T.os 4 0 0 (((Qc e18.1 e18.2).map (Qa true)).length)) Y) QJ (List.length_map ..)) Y Y (fD (Qf4 (tv (tN k) Y) (tv (tN ((Qc e18.1 e18.2).length)) Y)) Y Y (mD (tB (decide (k=(Qc e18.1 e18.2).length))) Y Y ?_)))))))))))
    refine gw (k=(Qc e18.1 e18.2).length) (fun fhg89_5=> ?_) fun fhg89_5=> ?_
    ·refine oD Y Y (dy fhg89_5) Y ?_
     refine oD Y Y (dy fhg89_5) Y (oD Y Y (dy fhg89_5) Y (oD Y Y (dy fhg89_5) Y (oD Y Y (dy fhg89_5) Y (oD Y Y (dy fhg89_5) Y (oD Y Y (dy fhg89_5) Y (oD Y Y (dy fhg89_5) Y (oD Y Y (dy fhg89_5) Y (fD (OF.pickT (VEv.tmpB Y (dy fhg89_5)) (VEv.bool true)) Y Y (VRunD.nil (tn (ct Y ?_)))))))))))
     refine sr (fO (OF.assign (VEv.bool false)) (nt (rt (vinB.r (tr (tr (vinB.r (tr (vb (b':=false) Y ?_)))))))))
     first | rfl | (exfalso;exact ‹¬Qb (Qc e18.1 e18.2)› (QM hA hB).1) | (exfalso;exact ‹¬Qc (Qc e18.1 e18.2) e18.2=Qc e18.1 e18.2› (QN hA hB)) | (exfalso;exact ‹¬Qc e18.1 e18.1=e18.1› (QV hA)) | (exfalso;exact ZT hA hB fhc4 (by omega) hJ2) | (exfalso;exact ZU hA hB hx2 hx1 fhc5 fhc6) | (exfalso;exact Zu ‹Qf e122.1 e122.2=true› ‹Qf e122.2 e122.1=true›) | (have h9:=QH ‹Qf e122.1 e122.2=false› ‹Qf e122.2 e122.1=false›;first | exact absurd h9.1 ‹_› | exact absurd h9.2.1 ‹_› | exact absurd h9.2.2 ‹_› | exact decide_eq_true h9.2.2)
    refine VRunD.free Y (VWant.on Y Y (dz fhg89_5)) Y (OF.move (tv (T.os 4 1 0 (((e18.1++e18.2).map (Qa true)).length)) Y)) (VRunD.free Y (VWant.on Y Y (dz fhg89_5)) Y (OF.move (tv (tN i) Y)) (VRunD.free Y (VWant.on Y Y (dz fhg89_5)) Y (B.indexAddrO (i:=i) (tv (T.os 4 1 0 (((e18.1++e18.2).map (Qa true)).length)) Y) (tv (tN i) Y) Y (by first | (simp only [QS];omega) | omega | (simp only [List.length_map];omega) | (simp only [List.length_map,List.length_append,List.length_cons,List.length_nil,List.length_replicate,List.length_set,List.length_drop,List.length_take,Zh] at *;omega)) QJ Qh Q7) (VRunD.look Y (VWant.on Y Y (dz fhg89_5)) Y (OL.loadPn (us:=(Qa false x2)) (row:=(Qa true x2)) (tv (T.orp 4 1 i 0) Y) Y (QR _ hx2) Q6 Qh (lb Y) Y (bc Y (bc Y (bc Y (bc Y bn))))) (VRunD.free Y (VWant.on Y Y (dz fhg89_5)) Y (OF.move (tv (T.os 4 0 0 (((Qc e18.1 e18.2).map (Qa true)).length)) Y)) (VRunD.free Y (VWant.on Y Y (dz fhg89_5)) Y (OF.move (tv (tN k) Y)) (VRunD.free Y (VWant.on Y Y (dz fhg89_5)) Y (B.indexAddrO (i:=k) (tv (T.os 4 0 0 (((Qc e18.1 e18.2).map (Qa true)).length)) Y) (tv (tN k) Y) Y (by first | (simp only [QS];omega) | omega | (simp only [List.length_map];omega) | (simp only [List.length_map,List.length_append,List.length_cons,List.length_nil,List.length_replicate,List.length_set,List.length_drop,List.length_take,Zh] at *;omega)) QJ Qh Q7) (VRunD.look Y (VWant.on Y Y (dz fhg89_5)) Y (OL.loadPn (us:=(Qa false x1)) (row:=(Qa true x1)) (tv (T.orp 4 0 k 0) Y) Y (QR _ hx1) Q6 Qh (lb Y) Y (bc Y (bc Y (bc Y (bc Y bn))))) (VRunD.quiet (bi:= [11,10,9,12,7,6,4,0,2,1,3,5,8]) Y (VWant.on Y Y (dz fhg89_5)) Y Y Y bn (cS (vc (tv (T.agg (Qa false x2)) Y) (vc (tv (T.agg (Qa false x1)) Y) vn)) (LendL.cons (lg okeNote) (LendL.cons (lg okeNote) ln)) (QF (n+6) x2 x1) Y Y) (fD (OF.pickF (VEv.tmpB Y (dz fhg89_5)) (tv (tB (Qf x2 x1)) Y)) Y Y (VRunD.nil (tn ?_)))))))))))
    refine VRun.cond (tv (tB (Qf x2 x1)) Y) (fun hc6=> ?_) (fun hc6=> ?_)
    ·have fhc6:(Qf x2 x1)=true:=hc6
     refine sr (fO (OF.assign (VEv.bool false)) (nt (rt (vinB.r (tr (tr (vinB.r (tr (vb (b':=false) Y ?_)))))))))
     first | rfl | (exfalso;exact ‹¬Qb (Qc e18.1 e18.2)› (QM hA hB).1) | (exfalso;exact ‹¬Qc (Qc e18.1 e18.2) e18.2=Qc e18.1 e18.2› (QN hA hB)) | (exfalso;exact ‹¬Qc e18.1 e18.1=e18.1› (QV hA)) | (exfalso;exact ZT hA hB fhc4 (by omega) hJ2) | (exfalso;exact ZU hA hB hx2 hx1 fhc5 fhc6) | (exfalso;exact Zu ‹Qf e122.1 e122.2=true› ‹Qf e122.2 e122.1=true›) | (have h9:=QH ‹Qf e122.1 e122.2=false› ‹Qf e122.2 e122.1=false›;first | exact absurd h9.1 ‹_› | exact absurd h9.2.1 ‹_› | exact absurd h9.2.2 ‹_› | exact decide_eq_true h9.2.2)
    have fhc6:(Qf x2 x1)=false:=hc6
    refine sk (vinB.n (tn (VRun.region (mO (tN i) Y (fO (ZB (tv (tN i) Y) (VEv.int .i64 1) (by first | (simp only [QS];omega) | omega)) (aO (tN (i+1)) Y (VRunO.nil (tn ?_))))))))
    refine ⟨(i+1:Nat),?_,?_,Wk.mk (fun k=>k) ?_ ?_ ?_⟩
    ·first | trivial | omega | (simp;done) | exact ⟨by omega,hI'.2⟩
    ·first | omega | (simp only [];omega) | (show _<_;omega) | (simp;omega)
    ·exact (b2 (b2 (b2 (b2 bn))))
    ·exact (b3 (b3 bn))
    ·exact nd Y
   refine oD Y Y (dz fhg70_4) Y (oD Y Y (dz fhg70_4) Y (oD Y Y (dz fhg70_4) Y (oD Y Y (dz fhg70_4) Y (oD Y Y (dz fhg70_4) Y (oD Y Y (dz fhg70_4) Y (oD Y Y (dz fhg70_4) Y (oD Y Y (dz fhg70_4) Y (oD Y Y (dz fhg70_4) Y (oD Y Y (dz fhg70_4) Y (oD Y Y (dz fhg70_4) Y (fD (OF.pickF (VEv.tmpB Y (dz fhg70_4)) (VEv.bool false)) Y Y ?_)))))))))))
   refine VRunD.nil (tn (cf Y (VRun.exit (vthn.e (vthn.e (vinB.e (tn (sq (VRun.draw (B:= [[],[],[1],[1,2,0],[0,2,1,3],[3,1,2,0,4],[3,1,2,0,4],[6,4,0,2,1,3,5],[5,3,1,2,0,4,6,7],[3,1,2,0,4],[3,1,2,0,4],[10,4,0,2,1,3,9],[9,3,1,2,0,4,10,11],[11,10,9,12,7,6,4,0,2,1,3,5,8],[8,5,6,7,12,9,10,11,13,3,1,2,0,4]]) (by kernel_rfl) (by kernel_rfl) Y (mD (tN k) Y Y (mD (T.os 4 0 0 (((Qc e18.1 e18.2).map (Qa true)).length)) Y Y ?_)))))))))))
   refine lD (B.lenO (m:=(Qc e18.1 e18.2).length) (tv (T.os 4 0 0 (((Qc e18.1 e18.2).map (Qa true)).length)) Y) QJ (List.length_map ..)) Y Y (fD (Qf4 (tv (tN k) Y) (tv (tN ((Qc e18.1 e18.2).length)) Y)) Y Y (mD (tB (decide (k=(Qc e18.1 e18.2).length))) Y Y ?_))
   refine gw (k=(Qc e18.1 e18.2).length) (fun fhg89_6=> ?_) fun fhg89_6=> ?_
   ·refine oD Y Y (dy fhg89_6) Y ?_
    refine oD Y Y (dy fhg89_6) Y (oD Y Y (dy fhg89_6) Y (oD Y Y (dy fhg89_6) Y (oD Y Y (dy fhg89_6) Y (oD Y Y (dy fhg89_6) Y (oD Y Y (dy fhg89_6) Y (oD Y Y (dy fhg89_6) Y (oD Y Y (dy fhg89_6) Y (fD (OF.pickT (VEv.tmpB Y (dy fhg89_6)) (VEv.bool true)) Y Y (VRunD.nil (tn (ct Y ?_)))))))))))
    refine sr (fO (OF.assign (VEv.bool false)) (nt (rt (vinB.r (tr (tr (vinB.r (tr (vb (b':=false) Y ?_)))))))))
    first | rfl | (exfalso;exact ‹¬Qb (Qc e18.1 e18.2)› (QM hA hB).1) | (exfalso;exact ‹¬Qc (Qc e18.1 e18.2) e18.2=Qc e18.1 e18.2› (QN hA hB)) | (exfalso;exact ‹¬Qc e18.1 e18.1=e18.1› (QV hA)) | (exfalso;exact ZT hA hB fhc4 (by omega) hJ2) | (exfalso;exact ZU hA hB hx2 hx1 fhc5 fhc6) | (exfalso;exact Zu ‹Qf e122.1 e122.2=true› ‹Qf e122.2 e122.1=true›) | (have h9:=QH ‹Qf e122.1 e122.2=false› ‹Qf e122.2 e122.1=false›;first | exact absurd h9.1 ‹_› | exact absurd h9.2.1 ‹_› | exact absurd h9.2.2 ‹_› | exact decide_eq_true h9.2.2)
   refine VRunD.free Y (VWant.on Y Y (dz fhg89_6)) Y (OF.move (tv (T.os 4 1 0 (((e18.1++e18.2).map (Qa true)).length)) Y)) (VRunD.free Y (VWant.on Y Y (dz fhg89_6)) Y (OF.move (tv (tN i) Y)) ?_)
   obtain ⟨x1,hx1⟩:∃x,(e18.1++e18.2)[i]? =some x:=⟨_,List.getElem?_eq_getElem (by first | (simp only [QS];omega) | omega | (simp only [List.length_map];omega) | (simp only [List.length_map,List.length_append,List.length_cons,List.length_nil,List.length_replicate,List.length_set,List.length_drop,List.length_take,Zh] at *;omega))⟩
   refine VRunD.free Y (VWant.on Y Y (dz fhg89_6)) Y (B.indexAddrO (i:=i) (tv (T.os 4 1 0 (((e18.1++e18.2).map (Qa true)).length)) Y) (tv (tN i) Y) Y (by first | (simp only [QS];omega) | omega | (simp only [List.length_map];omega) | (simp only [List.length_map,List.length_append,List.length_cons,List.length_nil,List.length_replicate,List.length_set,List.length_drop,List.length_take,Zh] at *;omega)) QJ Qh Q7) (VRunD.look Y (VWant.on Y Y (dz fhg89_6)) Y (OL.loadPn (us:=(Qa false x1)) (row:=(Qa true x1)) (tv (T.orp 4 1 i 0) Y) Y (QR _ hx1) Q6 Qh (lb Y) Y (bc Y (bc Y (bc Y (bc Y bn))))) (VRunD.free Y (VWant.on Y Y (dz fhg89_6)) Y (OF.move (tv (T.os 4 0 0 (((Qc e18.1 e18.2).map (Qa true)).length)) Y)) (VRunD.free Y (VWant.on Y Y (dz fhg89_6)) Y (OF.move (tv (tN k) Y)) ?_)))
   obtain ⟨x2,hx2⟩:∃x,(Qc e18.1 e18.2)[k]? =some x:=⟨_,List.getElem?_eq_getElem (by first | (simp only [QS];omega) | omega)⟩
   refine VRunD.free Y (VWant.on Y Y (dz fhg89_6)) Y (B.indexAddrO (i:=k) (tv (T.os 4 0 0 (((Qc e18.1 e18.2).map (Qa true)).length)) Y) (tv (tN k) Y) Y (by first | (simp only [QS];omega) | omega | (simp only [List.length_map];omega) | (simp only [List.length_map,List.length_append,List.length_cons,List.length_nil,List.length_replicate,List.length_set,List.length_drop,List.length_take,Zh] at *;omega)) QJ Qh Q7) (VRunD.look Y (VWant.on Y Y (dz fhg89_6)) Y (OL.loadPn (us:=(Qa false x2)) (row:=(Qa true x2)) (tv (T.orp 4 0 k 0) Y) Y (QR _ hx2) Q6 Qh (lb Y) Y (bc Y (bc Y (bc Y (bc Y bn))))) (VRunD.quiet (bi:= [11,10,9,12,7,6,4,0,2,1,3,5,8]) Y (VWant.on Y Y (dz fhg89_6)) Y Y Y bn (cS (vc (tv (T.agg (Qa false x1)) Y) (vc (tv (T.agg (Qa false x2)) Y) vn)) (LendL.cons (lg okeNote) (LendL.cons (lg okeNote) ln)) (QF (n+6) x1 x2) Y Y) (fD (OF.pickF (VEv.tmpB Y (dz fhg89_6)) (tv (tB (Qf x1 x2)) Y)) Y Y (VRunD.nil (tn ?_)))))
   refine VRun.cond (tv (tB (Qf x1 x2)) Y) (fun hc6=> ?_) (fun hc6=> ?_)
   ·have fhc6:(Qf x1 x2)=true:=hc6
    refine sr (fO (OF.assign (VEv.bool false)) (nt (rt (vinB.r (tr (tr (vinB.r (tr (vb (b':=false) Y ?_)))))))))
    first | rfl | (exfalso;exact ‹¬Qb (Qc e18.1 e18.2)› (QM hA hB).1) | (exfalso;exact ‹¬Qc (Qc e18.1 e18.2) e18.2=Qc e18.1 e18.2› (QN hA hB)) | (exfalso;exact ‹¬Qc e18.1 e18.1=e18.1› (QV hA)) | (exfalso;exact ZT hA hB fhc4 (by omega) hJ2) | (exfalso;exact ZU hA hB hx2 hx1 fhc5 fhc6) | (exfalso;exact Zu ‹Qf e122.1 e122.2=true› ‹Qf e122.2 e122.1=true›) | (have h9:=QH ‹Qf e122.1 e122.2=false› ‹Qf e122.2 e122.1=false›;first | exact absurd h9.1 ‹_› | exact absurd h9.2.1 ‹_› | exact absurd h9.2.2 ‹_› | exact decide_eq_true h9.2.2)
   have fhc6:(Qf x1 x2)=false:=hc6
   refine sk (vinB.n (tn (VRun.region (mO (tN i) Y (fO (ZB (tv (tN i) Y) (VEv.int .i64 1) (by first | (simp only [QS];omega) | omega)) (aO (tN (i+1)) Y (VRunO.nil (tn ?_))))))))
   refine ⟨(i+1:Nat),?_,?_,Wk.mk (fun k=>k) ?_ ?_ ?_⟩
   ·first | trivial | omega | (simp;done) | exact ⟨by omega,hI'.2⟩
   ·first | omega | (simp only [];omega) | (show _<_;omega) | (simp;omega)
   ·exact (b2 (b2 (b2 (b2 bn))))
   ·exact (b3 (b3 bn))
   ·exact nd Y
  refine VRun.exit (vthn.e (vthn.e (vinB.e (tn (sr (mO (rd 1 Qj a0) Y ?_))))))
  refine eP (us:= [(rd 1 Qj a0)]) (r':=fun x_:D.Grid×List D.Note=>(T.tup [(T.agg (Ql true x_.1)),(T.os 4 2 0 ((x_.2.map (Qa true)).length))])) (objs:=fun x_:D.Grid×List D.Note=> [(Obj.rows 4 (x_.2.map (Qa true)))]) (m:=1) VWant.always (vc (tv (rd 1 Qj a0) Y) vn) (ZO Y) (Yk (n+0) a0 (by first | (simp only [QS];omega) | assumption | omega | (simp only [List.length_cons,List.length_nil];omega))) Y (fun _=>rfl) (fun _=>rfl) fun e102 hs102=> ?_
  have hs102:e102.1.Cells.size≤101∧gN 8 e102.2:=hs102
  refine mO (T.tup [(T.agg (Ql true e102.1)),(T.os 4 2 0 ((e102.2.map (Qa true)).length))]) Y (fO (OF.extract (t:=(T.agg (Ql true e102.1))) (tv (T.tup [(T.agg (Ql true e102.1)),(T.os 4 2 0 ((e102.2.map (Qa true)).length))]) Y) Y) (fO (OF.extract (t:=(T.os 4 2 0 ((e102.2.map (Qa true)).length))) (tv (T.tup [(T.agg (Ql true e102.1)),(T.os 4 2 0 ((e102.2.map (Qa true)).length))]) Y) Y) (kO (B.alloc (t:=(T.agg [(tN 0),(tN 0),(tS ByteArray.empty)])) (ts:= [(tN 0),(tN 0),(tS ByteArray.empty)]) QaJ Qb6 nofun (fun _=> .agg _ _ Y (Z8 (RL.cons (.int _ _) (RL.cons (.int _ _) (RL.cons (.str _) (RL.nil _)))))) Y) (cO (B.storeW (us:=(Ql true e102.1)) (tv (T.op 3 0) Y) (tv (T.agg (Ql true e102.1)) Y) nofun Y Y Y Jz Q9 (bc Y (bc Y (bc Y bn)))) (aO (T.os 4 2 0 ((e102.2.map (Qa true)).length)) Y (nt ?_))))))
  have hgz:=Qfl hs102.2
  have hgl:=ZV (z:=Qo) e102.2
  have hgc:=hs102.1
  have hgn:=Qbx e102.1 e102.2
  refine sr (lO (OL.loadOn (us:=(Ql false e102.1)) (tv (T.op 3 0) Y) Y ZF Q9 (lb Y) Y) (mO (T.os 4 2 0 ((e102.2.map (Qa true)).length)) Y (cO (cS (us:= [(T.agg (Ql false e102.1)),(rd 4 Qa e102.2)]) (vc (tv (T.agg (Ql false e102.1)) Y) (vc (tv (T.os 4 2 0 ((e102.2.map (Qa true)).length)) Y) vn)) (LendL.cons (lg ZI) (LendL.cons (Lend.os Y Y (okeNote.fzMap _ _)) ln)) (Jc (n+3) e102.1 e102.2 (by first | (simp only [QS];omega) | assumption | omega) (by first | (simp only [QS];omega) | assumption | omega)) Y Y) (aO (tS (Zx e102.1 e102.2)) Y (nt (sq (sr (lO (OL.loadOn (us:=(Ql false e102.1)) (tv (T.op 3 0) Y) Y ZF Q9 (lb Y) Y) (cO (cS (vc (tv (T.agg (Ql false e102.1)) Y) vn) (LendL.cons (lg ZI) ln) (Zz (n+5) e102.1 (by first | (simp only [QS];omega) | assumption | omega)) Y Y) (mO (tB (decide (Qu e102.1))) Y ?_))))))))))
  refine VRunO.joinB 3 [111,112] 113 (tB (decide ((Qu e102.1)∧(Qb e102.2)))) ?_ ?_
  ·refine gw (Qu e102.1) (fun fhg110_7=> ?_) fun fhg110_7=> ?_
   ·refine gF (dy fhg110_7) Y Y (OF.move (tv (T.os 4 2 0 ((e102.2.map (Qa true)).length)) Y)) ?_
    refine VRunO.chain (VWant.on Y Y (dy fhg110_7)) (cS (us:= [(rd 4 Qa e102.2)]) (vc (tv (T.os 4 2 0 ((e102.2.map (Qa true)).length)) Y) vn) (LendL.cons (Lend.os Y Y (okeNote.fzMap _ _)) ln) (Qn (n+4) e102.2 (by first | (simp only [QS];omega) | assumption | omega)) Y Y) (fO (OF.pickT (VEv.tmpB Y (dy fhg110_7)) (tv (tB (decide (Qb e102.2))) Y)) (VRunO.nil ?_))
    exact jq (congrArg T.bool (kAT fhg110_7 Y)) (js Y (js Y (jn)))
   ·refine Q2 2 2 true 110 (dz fhg110_7) Y Y Y ?_
    refine fO (OF.pickF (VEv.tmpB Y (dz fhg110_7)) (VEv.bool false)) (VRunO.nil ?_)
    exact jq (congrArg T.bool (kAF fhg110_7)) (js Y (js Y (jn)))
  refine mO (tB (decide ((Qu e102.1)∧(Qb e102.2)))) Y ?_
  refine VRunO.joinB 5 [115,116,117,118] 119 (tB (decide (((Qu e102.1)∧(Qb e102.2))∧(¬(YD e102.1 (Zx e102.1 e102.2)))))) ?_ ?_
  ·refine gw ((Qu e102.1)∧(Qb e102.2)) (fun fhg114_8=> ?_) fun fhg114_8=> ?_
   ·refine gL (dy fhg114_8) Y Y (OL.loadOn (us:=(Ql false e102.1)) (tv (T.op 3 0) Y) Y ZF Q9 (lb Y) Y) ?_
    refine gF (dy fhg114_8) Y Y (OF.move (tv (tS (Zx e102.1 e102.2)) Y)) (VRunO.chain (VWant.on Y Y (dy fhg114_8)) (cS (vc (tv (T.agg (Ql false e102.1)) Y) (vc (tv (tS (Zx e102.1 e102.2)) Y) vn)) (LendL.cons (lg ZI) (lp Y ln)) (Qad (n+4) e102.1 (Zx e102.1 e102.2) (by first | (simp only [QS];omega) | assumption | omega) (by first | (simp only [QS];omega) | assumption | omega)) Y Y) (gF (dy fhg114_8) Y Y (QZ (tv (tB (decide (YD e102.1 (Zx e102.1 e102.2)))) Y)) (fO (OF.pickT (VEv.tmpB Y (dy fhg114_8)) (tv (tB (!(decide (YD e102.1 (Zx e102.1 e102.2))))) Y)) (VRunO.nil ?_))))
    exact jq (congrArg T.bool (kAT fhg114_8 dN)) (js Y (js Y (js Y (js Y (jn)))))
   ·refine Q2 4 6 true 114 (dz fhg114_8) Y Y Y ?_
    refine fO (OF.pickF (VEv.tmpB Y (dz fhg114_8)) (VEv.bool false)) (VRunO.nil ?_)
    exact jq (congrArg T.bool (kAF fhg114_8)) (js Y (js Y (js Y (js Y (jn)))))
  refine nt ?_
  refine cd (((Qu e102.1)∧(Qb e102.2))∧(¬(YD e102.1 (Zx e102.1 e102.2)))) Y (fun fhc7=> ?_) fun fhc7=> ?_
  ·exact absurd (QaA fhc7.1.1 fhc7.1.2) fhc7.2
  refine sk (tn (sr (mO (rd 1 Qj a0) Y ?_)))
  refine eP (us:= [(rd 1 Qj a0)]) (r':=fun x_:D.Note×D.Note=>(T.tup [(T.agg (Qa true x_.1)),(T.agg (Qa true x_.2))])) (objs:=fun x_:D.Note×D.Note=> []) (m:=0) VWant.always (vc (tv (rd 1 Qj a0) Y) vn) (ZO Y) (YP (n+2) a0 (by first | (simp only [QS];omega) | assumption | omega | (simp only [List.length_cons,List.length_nil];omega))) Y (fun _=>rfl) (fun _=>rfl) fun e122 hs122=> ?_
  have hs122:True:=hs122
  refine mO (T.tup [(T.agg (Qa true e122.1)),(T.agg (Qa true e122.2))]) Y (fO (OF.extract (t:=(T.agg (Qa true e122.1))) (tv (T.tup [(T.agg (Qa true e122.1)),(T.agg (Qa true e122.2))]) Y) Y) (fO (OF.extract (t:=(T.agg (Qa true e122.2))) (tv (T.tup [(T.agg (Qa true e122.1)),(T.agg (Qa true e122.2))]) Y) Y) (kO (B.alloc (t:=(T.agg [(tN 0),(tS ByteArray.empty),(tN 0),(tN 0)])) (ts:= [(tN 0),(tS ByteArray.empty),(tN 0),(tN 0)]) QL Qbm nofun (fun _=> .agg _ _ Y (Z8 (RL.cons (.int _ _) (RL.cons (.str _) (RL.cons (.int _ _) (RL.cons (.int _ _) (RL.nil _))))))) Y) (kO (B.alloc (t:=(T.agg [(tN 0),(tS ByteArray.empty),(tN 0),(tN 0)])) (ts:= [(tN 0),(tS ByteArray.empty),(tN 0),(tN 0)]) QL Qbm nofun (fun _=> .agg _ _ Y (Z8 (RL.cons (.int _ _) (RL.cons (.str _) (RL.cons (.int _ _) (RL.cons (.int _ _) (RL.nil _))))))) Y) (cO (B.storeW (us:=(Qa true e122.1)) (tv (T.op 4 0) Y) (tv (T.agg (Qa true e122.1)) Y) nofun Y Y Y Q7 Qh (bc Y (bc Y (bc Y (bc Y bn))))) (cO (B.storeW (us:=(Qa true e122.2)) (tv (T.op 5 0) Y) (tv (T.agg (Qa true e122.2)) Y) nofun Y Y Y Q7 Qh (bc Y (bc Y (bc Y (bc Y bn))))) (nt (sr (lO (OL.loadOn (us:=(Qa false e122.1)) (tv (T.op 4 0) Y) Y Q6 Qh (lb Y) Y) (lO (OL.loadOn (us:=(Qa false e122.2)) (tv (T.op 5 0) Y) Y Q6 Qh (lb Y) Y) (cO (cS (vc (tv (T.agg (Qa false e122.1)) Y) (vc (tv (T.agg (Qa false e122.2)) Y) vn)) (LendL.cons (lg okeNote) (LendL.cons (lg okeNote) ln)) (QF (n+6) e122.1 e122.2) Y Y) ?_)))))))))))
  refine mO (tB (Qf e122.1 e122.2)) Y ?_
  refine YI (Qf e122.1 e122.2) (fun hg128_9=> ?_) (fun hg128_9=> ?_)
  ·have fhg128_9:(Qf e122.1 e122.2)=true:=hg128_9
   refine gL hg128_9 Y Y (OL.loadOn (us:=(Qa false e122.2)) (tv (T.op 5 0) Y) Y Q6 Qh (lb Y) Y) (gL hg128_9 Y Y (OL.loadOn (us:=(Qa false e122.1)) (tv (T.op 4 0) Y) Y Q6 Qh (lb Y) Y) (VRunO.chain (VWant.on Y Y hg128_9) (cS (vc (tv (T.agg (Qa false e122.2)) Y) (vc (tv (T.agg (Qa false e122.1)) Y) vn)) (LendL.cons (lg okeNote) (LendL.cons (lg okeNote) ln)) (QF (n+6) e122.2 e122.1) Y Y) (fO (OF.pickT (VEv.tmpB Y hg128_9) (tv (tB (Qf e122.2 e122.1)) Y)) (fO (QZ (tv (tB (Qf e122.2 e122.1)) Y)) (mO (tB (!(Qf e122.2 e122.1))) Y ?_)))))
   refine YI (!(Qf e122.2 e122.1)) (fun hg134_10=> ?_) (fun hg134_10=> ?_)
   ·have fhg134_10:(Qf e122.2 e122.1)=false:=Qgd hg134_10
    refine gL hg134_10 Y Y (OL.loadOn (us:=(Qa false e122.1)) (tv (T.op 4 0) Y) Y Q6 Qh (lb Y) Y) (gL hg134_10 Y Y (OL.loadOn (us:=(Qa false e122.2)) (tv (T.op 5 0) Y) Y Q6 Qh (lb Y) Y) (VRunO.chain (VWant.on Y Y hg134_10) (cS (vc (tv (T.agg (Qa false e122.1)) Y) (vc (tv (T.agg (Qa false e122.2)) Y) vn)) (LendL.cons (lg okeNote) (LendL.cons (lg okeNote) ln)) (QF (n+6) e122.1 e122.2) Y Y) (gF hg134_10 Y Y (OF.move (tv (tB (Qf e122.1 e122.2)) Y)) (Q2 3 13 false 138 hg128_9 Y Y Y (gF hg134_10 Y Y (OF.pickT (VEv.tmpB Y hg128_9) (VEv.bool true)) (gF hg134_10 Y Y (OF.move (tv (tB true) Y)) (Q2 6 18 false 143 (b:=true) Y Y Y Y (Jl 5 24 true 149 Y Y Y (Q2 2 18 false 143 (b:=true) Y Y Y Y (Jl 5 31 true 156 Y Y Y (VRunO.off (VWant.not (b:=true) Y Y Y) ?_)))))))))))
    refine gF hg134_10 Y Y (OF.pickT (tv (tB true) Y) (VEv.bool true)) (fO (OF.pickT (VEv.tmpB Y hg134_10) (tv (tB true) Y)) (aO (tB true) Y (nt (rt ?_))))
    exact vb Y Y
   have fhg134_10:(Qf e122.2 e122.1)=true:=Qgb hg134_10
   refine Q2 4 9 true 134 hg134_10 Y Y Y (Jl 3 13 false 138 Y Y Y (Q2 2 9 true 134 hg134_10 Y Y Y (Jl 6 18 false 143 Y Y Y (Jl 5 24 true 149 Y Y Y (Jl 2 18 false 143 Y Y Y (Jl 5 31 true 156 Y Y Y (uO Y Y (oO Y Y hg134_10 (fO (OF.pickF (VEv.tmpB Y hg134_10) (VEv.bool false)) (aO (tB false) Y (nt ?_)))))))))))
   refine rt (vb (b':=false) Y ?_)
   first | rfl | (exfalso;exact ‹¬Qb (Qc e18.1 e18.2)› (QM hA hB).1) | (exfalso;exact ‹¬Qc (Qc e18.1 e18.2) e18.2=Qc e18.1 e18.2› (QN hA hB)) | (exfalso;exact ‹¬Qc e18.1 e18.1=e18.1› (QV hA)) | (exfalso;exact ZT hA hB fhc4 (by omega) hJ2) | (exfalso;exact ZU hA hB hx2 hx1 fhc5 fhc6) | (exfalso;exact Zu ‹Qf e122.1 e122.2=true› ‹Qf e122.2 e122.1=true›) | (have h9:=QH ‹Qf e122.1 e122.2=false› ‹Qf e122.2 e122.1=false›;first | exact absurd h9.1 ‹_› | exact absurd h9.2.1 ‹_› | exact absurd h9.2.2 ‹_› | exact decide_eq_true h9.2.2)
  have fhg128_9:(Qf e122.1 e122.2)=false:=hg128_9
  refine Q2 3 3 true 128 hg128_9 Y Y Y (fO (OF.pickF (VEv.tmpB Y hg128_9) (VEv.bool false)) (fO (B.not (c:=true) (tv (tB false) Y) Y) (mO (tB true) Y (VRunO.look (VWant.on (b:=true) Y Y Y) (OL.loadOn (us:=(Qa false e122.1)) (tv (T.op 4 0) Y) Y Q6 Qh (lb Y) Y) (VRunO.look (VWant.on (b:=true) Y Y Y) (OL.loadOn (us:=(Qa false e122.2)) (tv (T.op 5 0) Y) Y Q6 Qh (lb Y) Y) (VRunO.chain (VWant.on (b:=true) Y Y Y) (cS (vc (tv (T.agg (Qa false e122.1)) Y) (vc (tv (T.agg (Qa false e122.2)) Y) vn)) (LendL.cons (lg okeNote) (LendL.cons (lg okeNote) ln)) (QF (n+6) e122.1 e122.2) Y Y) (VRunO.free (VWant.on (b:=true) Y Y Y) (OF.move (tv (tB (Qf e122.1 e122.2)) Y)) (gL hg128_9 Y Y (OL.loadOn (us:=(Qa false e122.2)) (tv (T.op 5 0) Y) Y Q6 Qh (lb Y) Y) (gL hg128_9 Y Y (OL.loadOn (us:=(Qa false e122.1)) (tv (T.op 4 0) Y) Y Q6 Qh (lb Y) Y) (VRunO.chain (VWant.on Y Y hg128_9) (cS (vc (tv (T.agg (Qa false e122.2)) Y) (vc (tv (T.agg (Qa false e122.1)) Y) vn)) (LendL.cons (lg okeNote) (LendL.cons (lg okeNote) ln)) (QF (n+6) e122.2 e122.1) Y Y) (VRunO.free (VWant.on (b:=true) Y Y Y) (OF.pickF (VEv.tmpB Y hg128_9) (tv (tB (Qf e122.2 e122.1)) Y)) ?_)))))))))))
  refine VRunO.free (VWant.on (b:=true) Y Y Y) (OF.move (tv (tB (Qf e122.2 e122.1)) Y)) ?_
  refine YI (Qf e122.2 e122.1) (fun hg143_11=> ?_) (fun hg143_11=> ?_)
  ·have fhg143_11:(Qf e122.2 e122.1)=true:=hg143_11
   refine Q2 6 18 false 143 hg143_11 Y Y Y (Jl 5 24 true 149 Y Y Y (Q2 2 18 false 143 hg143_11 Y Y Y (Jl 5 31 true 156 Y Y Y (oO Y Y hg143_11 (VRunO.free (VWant.on (b:=true) Y Y Y) (OF.pickT (VEv.tmpB Y hg143_11) (VEv.bool true)) (fO (OF.pickT (tv (tB true) Y) (tv (tB true) Y)) (aO (tB true) Y (nt (rt ?_)))))))))
   exact vb Y Y
  have fhg143_11:(Qf e122.2 e122.1)=false:=hg143_11
  refine glf (tI e122.1.Tick) hg143_11 Y Y Y Y ZG Y Y Zo (glf (tI e122.2.Tick) hg143_11 Y Y Y Y ZG Y Y Zo (gF hg143_11 Y Y (xeq (tv (tI e122.1.Tick) Y) (tv (tI e122.2.Tick) Y)) (gF hg143_11 Y Y (OF.move (tv (tB (decide (e122.1.Tick=e122.2.Tick))) Y)) ?_)))
  refine gw (e122.1.Tick=e122.2.Tick) (fun fhg149_12=> ?_) fun fhg149_12=> ?_
  ·refine glf (tI e122.1.Who) (dy fhg149_12) Y Y Y Y ZD Y Y Zo ?_
   refine glf (tI e122.2.Who) (dy fhg149_12) Y Y Y Y ZD Y Y Zo (gF (dy fhg149_12) Y Y (xeq (tv (tI e122.1.Who) Y) (tv (tI e122.2.Who) Y)) (gF hg143_11 Y Y (OF.pickT (VEv.tmpB Y (dy fhg149_12)) (tv (tB (decide (e122.1.Who=e122.2.Who))) Y)) (gF hg143_11 Y Y (OF.move (tv (tB (decide (e122.1.Who=e122.2.Who))) Y)) ?_)))
   refine gw (e122.1.Who=e122.2.Who) (fun fhg156_13=> ?_) fun fhg156_13=> ?_
   ·refine glf (tS e122.1.Letter) (dy fhg156_13) Y Y Y Y ZA Y Y Y7 ?_
    refine glf (tS e122.2.Letter) (dy fhg156_13) Y Y Y Y ZA Y Y Y7 (gF (dy fhg156_13) Y Y (B.seql (c:=(decide (e122.1.Letter=e122.2.Letter))) (tv (tS e122.1.Letter) Y) (tv (tS e122.2.Letter) Y) Y) (gF hg143_11 Y Y (OF.pickT (VEv.tmpB Y (dy fhg156_13)) (tv (tB (decide (e122.1.Letter=e122.2.Letter))) Y)) (VRunO.free (VWant.on (b:=true) Y Y Y) (OF.pickF (VEv.tmpB Y hg143_11) (tv (tB (decide (e122.1.Letter=e122.2.Letter))) Y)) (fO (OF.pickT (tv (tB true) Y) (tv (tB (decide (e122.1.Letter=e122.2.Letter))) Y)) (aO (tB (decide (e122.1.Letter=e122.2.Letter))) Y (nt (rt (vb (b':=(decide (e122.1.Letter=e122.2.Letter))) Y ?_))))))))
    first | rfl | (exfalso;exact ‹¬Qb (Qc e18.1 e18.2)› (QM hA hB).1) | (exfalso;exact ‹¬Qc (Qc e18.1 e18.2) e18.2=Qc e18.1 e18.2› (QN hA hB)) | (exfalso;exact ‹¬Qc e18.1 e18.1=e18.1› (QV hA)) | (exfalso;exact ZT hA hB fhc4 (by omega) hJ2) | (exfalso;exact ZU hA hB hx2 hx1 fhc5 fhc6) | (exfalso;exact Zu ‹Qf e122.1 e122.2=true› ‹Qf e122.2 e122.1=true›) | (have h9:=QH ‹Qf e122.1 e122.2=false› ‹Qf e122.2 e122.1=false›;first | exact absurd h9.1 ‹_› | exact absurd h9.2.1 ‹_› | exact absurd h9.2.2 ‹_› | exact decide_eq_true h9.2.2)
   refine Q2 5 31 true 156 (dz fhg156_13) Y Y Y (gF hg143_11 Y Y (OF.pickF (VEv.tmpB Y (dz fhg156_13)) (VEv.bool false)) (VRunO.free (VWant.on (b:=true) Y Y Y) (OF.pickF (VEv.tmpB Y hg143_11) (tv (tB false) Y)) (fO (OF.pickT (tv (tB true) Y) (tv (tB false) Y)) (aO (tB false) Y (nt (rt (vb (b':=false) Y ?_)))))))
   first | rfl | (exfalso;exact ‹¬Qb (Qc e18.1 e18.2)› (QM hA hB).1) | (exfalso;exact ‹¬Qc (Qc e18.1 e18.2) e18.2=Qc e18.1 e18.2› (QN hA hB)) | (exfalso;exact ‹¬Qc e18.1 e18.1=e18.1› (QV hA)) | (exfalso;exact ZT hA hB fhc4 (by omega) hJ2) | (exfalso;exact ZU hA hB hx2 hx1 fhc5 fhc6) | (exfalso;exact Zu ‹Qf e122.1 e122.2=true› ‹Qf e122.2 e122.1=true›) | (have h9:=QH ‹Qf e122.1 e122.2=false› ‹Qf e122.2 e122.1=false›;first | exact absurd h9.1 ‹_› | exact absurd h9.2.1 ‹_› | exact absurd h9.2.2 ‹_› | exact decide_eq_true h9.2.2)
  refine Q2 5 24 true 149 (dz fhg149_12) Y Y Y (gF hg143_11 Y Y (OF.pickF (VEv.tmpB Y (dz fhg149_12)) (VEv.bool false)) (gF hg143_11 Y Y (OF.move (tv (tB false) Y)) (Q2 5 31 true 156 (b:=false) Y Y Y Y (gF hg143_11 Y Y (OF.pickF (tv (tB false) Y) (VEv.bool false)) (VRunO.free (VWant.on (b:=true) Y Y Y) (OF.pickF (VEv.tmpB Y hg143_11) (tv (tB false) Y)) (fO (OF.pickT (tv (tB true) Y) (tv (tB false) Y)) (aO (tB false) Y (nt (rt (vb (b':=false) Y ?_))))))))))
  first | rfl | (exfalso;exact ‹¬Qb (Qc e18.1 e18.2)› (QM hA hB).1) | (exfalso;exact ‹¬Qc (Qc e18.1 e18.2) e18.2=Qc e18.1 e18.2› (QN hA hB)) | (exfalso;exact ‹¬Qc e18.1 e18.1=e18.1› (QV hA)) | (exfalso;exact ZT hA hB fhc4 (by omega) hJ2) | (exfalso;exact ZU hA hB hx2 hx1 fhc5 fhc6) | (exfalso;exact Zu ‹Qf e122.1 e122.2=true› ‹Qf e122.2 e122.1=true›) | (have h9:=QH ‹Qf e122.1 e122.2=false› ‹Qf e122.2 e122.1=false›;first | exact absurd h9.1 ‹_› | exact absurd h9.2.1 ‹_› | exact absurd h9.2.2 ‹_› | exact decide_eq_true h9.2.2)
 refine sk (tn (sr (mO (rd 1 Qj a0) Y ?_)))
 refine eP (us:= [(rd 1 Qj a0)]) (r':=fun x_:D.Grid×List D.Note=>(T.tup [(T.agg (Ql true x_.1)),(T.os 4 4 0 ((x_.2.map (Qa true)).length))])) (objs:=fun x_:D.Grid×List D.Note=> [(Obj.rows 4 (x_.2.map (Qa true)))]) (m:=1) VWant.always (vc (tv (rd 1 Qj a0) Y) vn) (ZO Y) (Yk (n+0) a0 (by first | (simp only [QS];omega) | assumption | omega | (simp only [List.length_cons,List.length_nil];omega))) Y (fun _=>rfl) (fun _=>rfl) fun e102 hs102=> ?_
 have hs102:e102.1.Cells.size≤101∧gN 8 e102.2:=hs102
 refine mO (T.tup [(T.agg (Ql true e102.1)),(T.os 4 4 0 ((e102.2.map (Qa true)).length))]) Y (fO (OF.extract (t:=(T.agg (Ql true e102.1))) (tv (T.tup [(T.agg (Ql true e102.1)),(T.os 4 4 0 ((e102.2.map (Qa true)).length))]) Y) Y) (fO (OF.extract (t:=(T.os 4 4 0 ((e102.2.map (Qa true)).length))) (tv (T.tup [(T.agg (Ql true e102.1)),(T.os 4 4 0 ((e102.2.map (Qa true)).length))]) Y) Y) (kO (B.alloc (t:=(T.agg [(tN 0),(tN 0),(tS ByteArray.empty)])) (ts:= [(tN 0),(tN 0),(tS ByteArray.empty)]) QaJ Qb6 nofun (fun _=> .agg _ _ Y (Z8 (RL.cons (.int _ _) (RL.cons (.int _ _) (RL.cons (.str _) (RL.nil _)))))) Y) (cO (B.storeW (us:=(Ql true e102.1)) (tv (T.op 5 0) Y) (tv (T.agg (Ql true e102.1)) Y) nofun Y Y Y Jz Q9 (bc Y (bc Y (bc Y bn)))) (aO (T.os 4 4 0 ((e102.2.map (Qa true)).length)) Y (nt ?_))))))
 have hgz:=Qfl hs102.2
 have hgl:=ZV (z:=Qo) e102.2
 have hgc:=hs102.1
 have hgn:=Qbx e102.1 e102.2
 refine sr (lO (OL.loadOn (us:=(Ql false e102.1)) (tv (T.op 5 0) Y) Y ZF Q9 (lb Y) Y) (mO (T.os 4 4 0 ((e102.2.map (Qa true)).length)) Y (cO (cS (us:= [(T.agg (Ql false e102.1)),(rd 4 Qa e102.2)]) (vc (tv (T.agg (Ql false e102.1)) Y) (vc (tv (T.os 4 4 0 ((e102.2.map (Qa true)).length)) Y) vn)) (LendL.cons (lg ZI) (LendL.cons (Lend.os Y Y (okeNote.fzMap _ _)) ln)) (Jc (n+3) e102.1 e102.2 (by first | (simp only [QS];omega) | assumption | omega) (by first | (simp only [QS];omega) | assumption | omega)) Y Y) (aO (tS (Zx e102.1 e102.2)) Y (nt (sq (sr (lO (OL.loadOn (us:=(Ql false e102.1)) (tv (T.op 5 0) Y) Y ZF Q9 (lb Y) Y) (cO (cS (vc (tv (T.agg (Ql false e102.1)) Y) vn) (LendL.cons (lg ZI) ln) (Zz (n+5) e102.1 (by first | (simp only [QS];omega) | assumption | omega)) Y Y) (mO (tB (decide (Qu e102.1))) Y ?_))))))))))
 refine VRunO.joinB 3 [111,112] 113 (tB (decide ((Qu e102.1)∧(Qb e102.2)))) ?_ ?_
 ·refine gw (Qu e102.1) (fun fhg110_14=> ?_) fun fhg110_14=> ?_
  ·refine gF (dy fhg110_14) Y Y (OF.move (tv (T.os 4 4 0 ((e102.2.map (Qa true)).length)) Y)) ?_
   refine VRunO.chain (VWant.on Y Y (dy fhg110_14)) (cS (us:= [(rd 4 Qa e102.2)]) (vc (tv (T.os 4 4 0 ((e102.2.map (Qa true)).length)) Y) vn) (LendL.cons (Lend.os Y Y (okeNote.fzMap _ _)) ln) (Qn (n+4) e102.2 (by first | (simp only [QS];omega) | assumption | omega)) Y Y) (fO (OF.pickT (VEv.tmpB Y (dy fhg110_14)) (tv (tB (decide (Qb e102.2))) Y)) (VRunO.nil ?_))
   exact jq (congrArg T.bool (kAT fhg110_14 Y)) (js Y (js Y (jn)))
  ·refine Q2 2 2 true 110 (dz fhg110_14) Y Y Y ?_
   refine fO (OF.pickF (VEv.tmpB Y (dz fhg110_14)) (VEv.bool false)) (VRunO.nil ?_)
   exact jq (congrArg T.bool (kAF fhg110_14)) (js Y (js Y (jn)))
 refine mO (tB (decide ((Qu e102.1)∧(Qb e102.2)))) Y ?_
 refine VRunO.joinB 5 [115,116,117,118] 119 (tB (decide (((Qu e102.1)∧(Qb e102.2))∧(¬(YD e102.1 (Zx e102.1 e102.2)))))) ?_ ?_
 ·refine gw ((Qu e102.1)∧(Qb e102.2)) (fun fhg114_15=> ?_) fun fhg114_15=> ?_
  ·refine gL (dy fhg114_15) Y Y (OL.loadOn (us:=(Ql false e102.1)) (tv (T.op 5 0) Y) Y ZF Q9 (lb Y) Y) ?_
   refine gF (dy fhg114_15) Y Y (OF.move (tv (tS (Zx e102.1 e102.2)) Y)) (VRunO.chain (VWant.on Y Y (dy fhg114_15)) (cS (vc (tv (T.agg (Ql false e102.1)) Y) (vc (tv (tS (Zx e102.1 e102.2)) Y) vn)) (LendL.cons (lg ZI) (lp Y ln)) (Qad (n+4) e102.1 (Zx e102.1 e102.2) (by first | (simp only [QS];omega) | assumption | omega) (by first | (simp only [QS];omega) | assumption | omega)) Y Y) (gF (dy fhg114_15) Y Y (QZ (tv (tB (decide (YD e102.1 (Zx e102.1 e102.2)))) Y)) (fO (OF.pickT (VEv.tmpB Y (dy fhg114_15)) (tv (tB (!(decide (YD e102.1 (Zx e102.1 e102.2))))) Y)) (VRunO.nil ?_))))
   exact jq (congrArg T.bool (kAT fhg114_15 dN)) (js Y (js Y (js Y (js Y (jn)))))
  ·refine Q2 4 6 true 114 (dz fhg114_15) Y Y Y ?_
   refine fO (OF.pickF (VEv.tmpB Y (dz fhg114_15)) (VEv.bool false)) (VRunO.nil ?_)
   exact jq (congrArg T.bool (kAF fhg114_15)) (js Y (js Y (js Y (js Y (jn)))))
 refine nt ?_
 refine cd (((Qu e102.1)∧(Qb e102.2))∧(¬(YD e102.1 (Zx e102.1 e102.2)))) Y (fun fhc7=> ?_) fun fhc7=> ?_
 ·exact absurd (QaA fhc7.1.1 fhc7.1.2) fhc7.2
 refine sk (tn (sr (mO (rd 1 Qj a0) Y ?_)))
 refine eP (us:= [(rd 1 Qj a0)]) (r':=fun x_:D.Note×D.Note=>(T.tup [(T.agg (Qa true x_.1)),(T.agg (Qa true x_.2))])) (objs:=fun x_:D.Note×D.Note=> []) (m:=0) VWant.always (vc (tv (rd 1 Qj a0) Y) vn) (ZO Y) (YP (n+2) a0 (by first | (simp only [QS];omega) | assumption | omega | (simp only [List.length_cons,List.length_nil];omega))) Y (fun _=>rfl) (fun _=>rfl) fun e122 hs122=> ?_
 have hs122:True:=hs122
 refine mO (T.tup [(T.agg (Qa true e122.1)),(T.agg (Qa true e122.2))]) Y (fO (OF.extract (t:=(T.agg (Qa true e122.1))) (tv (T.tup [(T.agg (Qa true e122.1)),(T.agg (Qa true e122.2))]) Y) Y) (fO (OF.extract (t:=(T.agg (Qa true e122.2))) (tv (T.tup [(T.agg (Qa true e122.1)),(T.agg (Qa true e122.2))]) Y) Y) (kO (B.alloc (t:=(T.agg [(tN 0),(tS ByteArray.empty),(tN 0),(tN 0)])) (ts:= [(tN 0),(tS ByteArray.empty),(tN 0),(tN 0)]) QL Qbm nofun (fun _=> .agg _ _ Y (Z8 (RL.cons (.int _ _) (RL.cons (.str _) (RL.cons (.int _ _) (RL.cons (.int _ _) (RL.nil _))))))) Y) (kO (B.alloc (t:=(T.agg [(tN 0),(tS ByteArray.empty),(tN 0),(tN 0)])) (ts:= [(tN 0),(tS ByteArray.empty),(tN 0),(tN 0)]) QL Qbm nofun (fun _=> .agg _ _ Y (Z8 (RL.cons (.int _ _) (RL.cons (.str _) (RL.cons (.int _ _) (RL.cons (.int _ _) (RL.nil _))))))) Y) (cO (B.storeW (us:=(Qa true e122.1)) (tv (T.op 6 0) Y) (tv (T.agg (Qa true e122.1)) Y) nofun Y Y Y Q7 Qh (bc Y (bc Y (bc Y (bc Y bn))))) (cO (B.storeW (us:=(Qa true e122.2)) (tv (T.op 7 0) Y) (tv (T.agg (Qa true e122.2)) Y) nofun Y Y Y Q7 Qh (bc Y (bc Y (bc Y (bc Y bn))))) (nt (sr (lO (OL.loadOn (us:=(Qa false e122.1)) (tv (T.op 6 0) Y) Y Q6 Qh (lb Y) Y) (lO (OL.loadOn (us:=(Qa false e122.2)) (tv (T.op 7 0) Y) Y Q6 Qh (lb Y) Y) (cO (cS (vc (tv (T.agg (Qa false e122.1)) Y) (vc (tv (T.agg (Qa false e122.2)) Y) vn)) (LendL.cons (lg okeNote) (LendL.cons (lg okeNote) ln)) (QF (n+6) e122.1 e122.2) Y Y) ?_)))))))))))
 refine mO (tB (Qf e122.1 e122.2)) Y ?_
 refine YI (Qf e122.1 e122.2) (fun hg128_16=> ?_) (fun hg128_16=> ?_)
 ·have fhg128_16:(Qf e122.1 e122.2)=true:=hg128_16
  refine gL hg128_16 Y Y (OL.loadOn (us:=(Qa false e122.2)) (tv (T.op 7 0) Y) Y Q6 Qh (lb Y) Y) (gL hg128_16 Y Y (OL.loadOn (us:=(Qa false e122.1)) (tv (T.op 6 0) Y) Y Q6 Qh (lb Y) Y) (VRunO.chain (VWant.on Y Y hg128_16) (cS (vc (tv (T.agg (Qa false e122.2)) Y) (vc (tv (T.agg (Qa false e122.1)) Y) vn)) (LendL.cons (lg okeNote) (LendL.cons (lg okeNote) ln)) (QF (n+6) e122.2 e122.1) Y Y) (fO (OF.pickT (VEv.tmpB Y hg128_16) (tv (tB (Qf e122.2 e122.1)) Y)) (fO (QZ (tv (tB (Qf e122.2 e122.1)) Y)) (mO (tB (!(Qf e122.2 e122.1))) Y ?_)))))
  refine YI (!(Qf e122.2 e122.1)) (fun hg134_17=> ?_) (fun hg134_17=> ?_)
  ·have fhg134_17:(Qf e122.2 e122.1)=false:=Qgd hg134_17
   refine gL hg134_17 Y Y (OL.loadOn (us:=(Qa false e122.1)) (tv (T.op 6 0) Y) Y Q6 Qh (lb Y) Y) (gL hg134_17 Y Y (OL.loadOn (us:=(Qa false e122.2)) (tv (T.op 7 0) Y) Y Q6 Qh (lb Y) Y) (VRunO.chain (VWant.on Y Y hg134_17) (cS (vc (tv (T.agg (Qa false e122.1)) Y) (vc (tv (T.agg (Qa false e122.2)) Y) vn)) (LendL.cons (lg okeNote) (LendL.cons (lg okeNote) ln)) (QF (n+6) e122.1 e122.2) Y Y) (gF hg134_17 Y Y (OF.move (tv (tB (Qf e122.1 e122.2)) Y)) (Q2 3 13 false 138 hg128_16 Y Y Y (gF hg134_17 Y Y (OF.pickT (VEv.tmpB Y hg128_16) (VEv.bool true)) (gF hg134_17 Y Y (OF.move (tv (tB true) Y)) (Q2 6 18 false 143 (b:=true) Y Y Y Y (Jl 5 24 true 149 Y Y Y (Q2 2 18 false 143 (b:=true) Y Y Y Y (Jl 5 31 true 156 Y Y Y (VRunO.off (VWant.not (b:=true) Y Y Y) ?_)))))))))))
   refine gF hg134_17 Y Y (OF.pickT (tv (tB true) Y) (VEv.bool true)) (fO (OF.pickT (VEv.tmpB Y hg134_17) (tv (tB true) Y)) (aO (tB true) Y (nt (rt ?_))))
   exact vb Y Y
  have fhg134_17:(Qf e122.2 e122.1)=true:=Qgb hg134_17
  refine Q2 4 9 true 134 hg134_17 Y Y Y (Jl 3 13 false 138 Y Y Y (Q2 2 9 true 134 hg134_17 Y Y Y (Jl 6 18 false 143 Y Y Y (Jl 5 24 true 149 Y Y Y (Jl 2 18 false 143 Y Y Y (Jl 5 31 true 156 Y Y Y (uO Y Y (oO Y Y hg134_17 (fO (OF.pickF (VEv.tmpB Y hg134_17) (VEv.bool false)) (aO (tB false) Y (nt ?_)))))))))))
  refine rt (vb (b':=false) Y ?_)
  first | rfl | (exfalso;exact ‹¬Qb (Qc e18.1 e18.2)› (QM hA hB).1) | (exfalso;exact ‹¬Qc (Qc e18.1 e18.2) e18.2=Qc e18.1 e18.2› (QN hA hB)) | (exfalso;exact ‹¬Qc e18.1 e18.1=e18.1› (QV hA)) | (exfalso;exact ZT hA hB fhc4 (by omega) hJ2) | (exfalso;exact ZU hA hB hx2 hx1 fhc5 fhc6) | (exfalso;exact Zu ‹Qf e122.1 e122.2=true› ‹Qf e122.2 e122.1=true›) | (have h9:=QH ‹Qf e122.1 e122.2=false› ‹Qf e122.2 e122.1=false›;first | exact absurd h9.1 ‹_› | exact absurd h9.2.1 ‹_› | exact absurd h9.2.2 ‹_› | exact decide_eq_true h9.2.2)
 have fhg128_16:(Qf e122.1 e122.2)=false:=hg128_16
 refine Q2 3 3 true 128 hg128_16 Y Y Y (fO (OF.pickF (VEv.tmpB Y hg128_16) (VEv.bool false)) (fO (B.not (c:=true) (tv (tB false) Y) Y) (mO (tB true) Y (VRunO.look (VWant.on (b:=true) Y Y Y) (OL.loadOn (us:=(Qa false e122.1)) (tv (T.op 6 0) Y) Y Q6 Qh (lb Y) Y) (VRunO.look (VWant.on (b:=true) Y Y Y) (OL.loadOn (us:=(Qa false e122.2)) (tv (T.op 7 0) Y) Y Q6 Qh (lb Y) Y) (VRunO.chain (VWant.on (b:=true) Y Y Y) (cS (vc (tv (T.agg (Qa false e122.1)) Y) (vc (tv (T.agg (Qa false e122.2)) Y) vn)) (LendL.cons (lg okeNote) (LendL.cons (lg okeNote) ln)) (QF (n+6) e122.1 e122.2) Y Y) (VRunO.free (VWant.on (b:=true) Y Y Y) (OF.move (tv (tB (Qf e122.1 e122.2)) Y)) (gL hg128_16 Y Y (OL.loadOn (us:=(Qa false e122.2)) (tv (T.op 7 0) Y) Y Q6 Qh (lb Y) Y) (gL hg128_16 Y Y (OL.loadOn (us:=(Qa false e122.1)) (tv (T.op 6 0) Y) Y Q6 Qh (lb Y) Y) (VRunO.chain (VWant.on Y Y hg128_16) (cS (vc (tv (T.agg (Qa false e122.2)) Y) (vc (tv (T.agg (Qa false e122.1)) Y) vn)) (LendL.cons (lg okeNote) (LendL.cons (lg okeNote) ln)) (QF (n+6) e122.2 e122.1) Y Y) (VRunO.free (VWant.on (b:=true) Y Y Y) (OF.pickF (VEv.tmpB Y hg128_16) (tv (tB (Qf e122.2 e122.1)) Y)) ?_)))))))))))
 refine VRunO.free (VWant.on (b:=true) Y Y Y) (OF.move (tv (tB (Qf e122.2 e122.1)) Y)) ?_
 refine YI (Qf e122.2 e122.1) (fun hg143_18=> ?_) (fun hg143_18=> ?_)
 ·have fhg143_18:(Qf e122.2 e122.1)=true:=hg143_18
  refine Q2 6 18 false 143 hg143_18 Y Y Y (Jl 5 24 true 149 Y Y Y (Q2 2 18 false 143 hg143_18 Y Y Y (Jl 5 31 true 156 Y Y Y (oO Y Y hg143_18 (VRunO.free (VWant.on (b:=true) Y Y Y) (OF.pickT (VEv.tmpB Y hg143_18) (VEv.bool true)) (fO (OF.pickT (tv (tB true) Y) (tv (tB true) Y)) (aO (tB true) Y (nt (rt ?_)))))))))
  exact vb Y Y
 have fhg143_18:(Qf e122.2 e122.1)=false:=hg143_18
 refine glf (tI e122.1.Tick) hg143_18 Y Y Y Y ZG Y Y Zo (glf (tI e122.2.Tick) hg143_18 Y Y Y Y ZG Y Y Zo (gF hg143_18 Y Y (xeq (tv (tI e122.1.Tick) Y) (tv (tI e122.2.Tick) Y)) (gF hg143_18 Y Y (OF.move (tv (tB (decide (e122.1.Tick=e122.2.Tick))) Y)) ?_)))
 refine gw (e122.1.Tick=e122.2.Tick) (fun fhg149_19=> ?_) fun fhg149_19=> ?_
 ·refine glf (tI e122.1.Who) (dy fhg149_19) Y Y Y Y ZD Y Y Zo ?_
  refine glf (tI e122.2.Who) (dy fhg149_19) Y Y Y Y ZD Y Y Zo (gF (dy fhg149_19) Y Y (xeq (tv (tI e122.1.Who) Y) (tv (tI e122.2.Who) Y)) (gF hg143_18 Y Y (OF.pickT (VEv.tmpB Y (dy fhg149_19)) (tv (tB (decide (e122.1.Who=e122.2.Who))) Y)) (gF hg143_18 Y Y (OF.move (tv (tB (decide (e122.1.Who=e122.2.Who))) Y)) ?_)))
  refine gw (e122.1.Who=e122.2.Who) (fun fhg156_20=> ?_) fun fhg156_20=> ?_
  ·refine glf (tS e122.1.Letter) (dy fhg156_20) Y Y Y Y ZA Y Y Y7 ?_
   refine glf (tS e122.2.Letter) (dy fhg156_20) Y Y Y Y ZA Y Y Y7 (gF (dy fhg156_20) Y Y (B.seql (c:=(decide (e122.1.Letter=e122.2.Letter))) (tv (tS e122.1.Letter) Y) (tv (tS e122.2.Letter) Y) Y) (gF hg143_18 Y Y (OF.pickT (VEv.tmpB Y (dy fhg156_20)) (tv (tB (decide (e122.1.Letter=e122.2.Letter))) Y)) (VRunO.free (VWant.on (b:=true) Y Y Y) (OF.pickF (VEv.tmpB Y hg143_18) (tv (tB (decide (e122.1.Letter=e122.2.Letter))) Y)) (fO (OF.pickT (tv (tB true) Y) (tv (tB (decide (e122.1.Letter=e122.2.Letter))) Y)) (aO (tB (decide (e122.1.Letter=e122.2.Letter))) Y (nt (rt (vb (b':=(decide (e122.1.Letter=e122.2.Letter))) Y ?_))))))))
   first | rfl | (exfalso;exact ‹¬Qb (Qc e18.1 e18.2)› (QM hA hB).1) | (exfalso;exact ‹¬Qc (Qc e18.1 e18.2) e18.2=Qc e18.1 e18.2› (QN hA hB)) | (exfalso;exact ‹¬Qc e18.1 e18.1=e18.1› (QV hA)) | (exfalso;exact ZT hA hB fhc4 (by omega) hJ2) | (exfalso;exact ZU hA hB hx2 hx1 fhc5 fhc6) | (exfalso;exact Zu ‹Qf e122.1 e122.2=true› ‹Qf e122.2 e122.1=true›) | (have h9:=QH ‹Qf e122.1 e122.2=false› ‹Qf e122.2 e122.1=false›;first | exact absurd h9.1 ‹_› | exact absurd h9.2.1 ‹_› | exact absurd h9.2.2 ‹_› | exact decide_eq_true h9.2.2)
  refine Q2 5 31 true 156 (dz fhg156_20) Y Y Y (gF hg143_18 Y Y (OF.pickF (VEv.tmpB Y (dz fhg156_20)) (VEv.bool false)) (VRunO.free (VWant.on (b:=true) Y Y Y) (OF.pickF (VEv.tmpB Y hg143_18) (tv (tB false) Y)) (fO (OF.pickT (tv (tB true) Y) (tv (tB false) Y)) (aO (tB false) Y (nt (rt (vb (b':=false) Y ?_)))))))
  first | rfl | (exfalso;exact ‹¬Qb (Qc e18.1 e18.2)› (QM hA hB).1) | (exfalso;exact ‹¬Qc (Qc e18.1 e18.2) e18.2=Qc e18.1 e18.2› (QN hA hB)) | (exfalso;exact ‹¬Qc e18.1 e18.1=e18.1› (QV hA)) | (exfalso;exact ZT hA hB fhc4 (by omega) hJ2) | (exfalso;exact ZU hA hB hx2 hx1 fhc5 fhc6) | (exfalso;exact Zu ‹Qf e122.1 e122.2=true› ‹Qf e122.2 e122.1=true›) | (have h9:=QH ‹Qf e122.1 e122.2=false› ‹Qf e122.2 e122.1=false›;first | exact absurd h9.1 ‹_› | exact absurd h9.2.1 ‹_› | exact absurd h9.2.2 ‹_› | exact decide_eq_true h9.2.2)
 refine Q2 5 24 true 149 (dz fhg149_19) Y Y Y (gF hg143_18 Y Y (OF.pickF (VEv.tmpB Y (dz fhg149_19)) (VEv.bool false)) (gF hg143_18 Y Y (OF.move (tv (tB false) Y)) (Q2 5 31 true 156 (b:=false) Y Y Y Y (gF hg143_18 Y Y (OF.pickF (tv (tB false) Y) (VEv.bool false)) (VRunO.free (VWant.on (b:=true) Y Y Y) (OF.pickF (VEv.tmpB Y hg143_18) (tv (tB false) Y)) (fO (OF.pickT (tv (tB true) Y) (tv (tB false) Y)) (aO (tB false) Y (nt (rt (vb (b':=false) Y ?_))))))))))
 first | rfl | (exfalso;exact ‹¬Qb (Qc e18.1 e18.2)› (QM hA hB).1) | (exfalso;exact ‹¬Qc (Qc e18.1 e18.2) e18.2=Qc e18.1 e18.2› (QN hA hB)) | (exfalso;exact ‹¬Qc e18.1 e18.1=e18.1› (QV hA)) | (exfalso;exact ZT hA hB fhc4 (by omega) hJ2) | (exfalso;exact ZU hA hB hx2 hx1 fhc5 fhc6) | (exfalso;exact Zu ‹Qf e122.1 e122.2=true› ‹Qf e122.2 e122.1=true›) | (have h9:=QH ‹Qf e122.1 e122.2=false› ‹Qf e122.2 e122.1=false›;first | exact absurd h9.1 ‹_› | exact absurd h9.2.1 ‹_› | exact absurd h9.2.2 ‹_› | exact decide_eq_true h9.2.2)
theorem QdO (a:Option Addr) (n c:Nat):(QdX (.slice a n c)).cells.toList= [QdX (.slice a n c)]:=by cases a<;>rfl
theorem QgA {α:Type} {d:AK α} {e:Bool→α→List T} {x:α} {t:T} {h:AH} {v:Value} (hk:RK d e) (he:e false x= [t]) (hr:d.R h x [v]):R h t v:=by
 have h1:=hk h x _ hr
 rw [he] at h1
 exact h1.tail.1
theorem Qfh {α:Type} {d:AK α} {e:Bool→α→List T} {x:α} {t:T} {h:AH} {a:Option Addr} {n c:Nat} (hk:RK d e) (he:e false x= [t]) (hr:d.R h x (QdX (.slice a n c)).cells.toList):R h t (QdX (.slice a n c)):=by
 rw [QdO] at hr
 exact QgA hk he hr
theorem Pure.bool {call:QC} {f:FuncId} {ts:List T} {b:Bool} (hp:Pure call f ts (.bool b)) {h:AH} {vs:List Value} (hfr:Fr 1 h) (hr:RL h ts vs):CallS call f vs h 1 (fun v _=>v= .bool b):=by
 refine (hp h 1 vs hfr hr).mono ?_
 rintro v h' ⟨_,N,hs,_⟩
 cases hs with
 | fz hr=>cases hr;rfl
open Go Go.RowKit Go.Shelf Go.Lib Go.Proofs
set_option maxHeartbeats 4000000
set_option maxRecDepth 100000
theorem Yf {P:Program} (w:World) (dT sT ty elem:TypeId) {size:Nat} (b o dLen dCap:Nat) (a:Addr) (sLen sCap:Nat) (cs:List Value)
  (hu:P.underlying dT=some (.slice elem)) (hs:∀w,(Go.sizeOf elem).run P w= .ok size w) (hn:cs.length=Nat.min sLen dLen*size)
  (hsrc:∀j v,cs[j]? =some v→w.cell? (a.add j)=some v) (hc:∀j,j<cs.length→(w.cell? ⟨b,o+j,none⟩).isSome=true) (hf:∀j,j<cs.length→w.frozen? ⟨b,o+j,none⟩=false) (h1:∀v∈cs,v.oneCell'=true) :
  (Builtin.copy_ #[dT,sT] ty #[.slice (some ⟨b,o,none⟩) dLen dCap, .slice (some a) sLen sCap]).run P w= .ok (goInt (Nat.min sLen dLen)) (w.setCells b o cs):=by
 have hl:=run_loadCells_list (P:=P) w a cs hsrc
 have hst:=run_storeCells_cells (P:=P) b o cs 0 w (by simpa using hc) (by simpa using hf) h1
 simp [Builtin.copy_,run_underlying hu,Builtin.lenOf,Builtin.firstCells,hs,← hn,hl,hst]
theorem QeO (base:Option Addr) (n c vb voff vc:Nat) (w:World) {v':Value} {W':World} (hn:base=none→n=0∧c=0) (hnc:n≤c)
  (hrun:(Builtin.append_ #[42,42] 42 #[.slice base n c, .slice (some ⟨vb,voff,none⟩) 1 vc]).run Tryd.prog w= .ok v' W') :
  Calls Tryd.prog 74 #[.slice base n c, .int .i64 n, .slice (some ⟨vb,voff,none⟩) 1 vc] w fun e w'=>e= .returned v'∧w'=W':=by
 have t0:=Tryd.underlying0;have u0:=run_underlying Tryd.underlying0
 have t3:=Tryd.underlying3;have u3:=run_underlying Tryd.underlying3
 have t4:=Tryd.underlying4;have u4:=run_underlying Tryd.underlying4
 have t42:=Tryd.underlying42;have u42:=run_underlying Tryd.underlying42
 have t49:=Tryd.underlying49;have u49:=run_underlying Tryd.underlying49
 have z0:∀w,(Go.sizeOf 0).run Tryd.prog w= .ok 1 w:=fun _=>by kernel_rfl
 have z3:∀w,(Go.sizeOf 3).run Tryd.prog w= .ok 1 w:=fun _=>by kernel_rfl
 have z4:∀w,(Go.sizeOf 4).run Tryd.prog w= .ok 1 w:=fun _=>by kernel_rfl
 have z42:∀w,(Go.sizeOf 42).run Tryd.prog w= .ok 1 w:=fun _=>by kernel_rfl
 have z49:∀w,(Go.sizeOf 49).run Tryd.prog w= .ok 4 w:=fun _=>by kernel_rfl
 have a0:∀w,(isAgg 0).run Tryd.prog w= .ok false w:=fun _=>by kernel_rfl
 have a3:∀w,(isAgg 3).run Tryd.prog w= .ok false w:=fun _=>by kernel_rfl
 have a4:∀w,(isAgg 4).run Tryd.prog w= .ok false w:=fun _=>by kernel_rfl
 have a42:∀w,(isAgg 42).run Tryd.prog w= .ok false w:=fun _=>by kernel_rfl
 have v42:∀w,(zeroValue 42).run Tryd.prog w= .ok (Value.slice none 0 0) w:=fun _=>by kernel_rfl
 have v3:∀w,(zeroValue 3).run Tryd.prog w= .ok (Value.int IntKind.i64 0) w:=fun _=>by kernel_rfl
 have mixed:Tryd.prog.follows .mixedOrders=true:=by kernel_rfl
 have hz1:¬((1:Int)=0):=by omega
 go_enter Tryd.func74,Tryd.ntmps74
 cases base with
 | none =>
  obtain ⟨h0,h1⟩:=hn Y
  subst h0
  subst h1
  go_wp2_with (at_builtin;refine Lib.wpList_append_run _ Y _ _ _ _ Y _ _ Y Y _ _ hrun ?_)
  go_ret
  exact ⟨rfl,rfl⟩
 | some a =>
  obtain ⟨ab,ao,asp⟩:=a
  go_wp2_with (at_builtin;refine Lib.wpList_append_run _ Y _ _ _ _ Y _ _ Y Y _ _ hrun ?_)
  all_goals (go_ret;exact ⟨rfl,rfl⟩)
theorem QcY (b off n c i vb voff vc:Nat) (cs vs:List Value) (w:World) (hi:i<n) (hroom:n+1≤c) (hn63:n<9223372036854775807) (hvb:vb≠b)
    (hcl:cs.length=n*4) (hvl:vs.length=4)
    (hcs:∀j v,cs[j]? =some v→w.cell? ⟨b,off+j,none⟩=some v) (hsp:∀j,j<(n+1)*4→(w.cell? ⟨b,off+j,none⟩).isSome=true) (hfz:∀j,j<(n+1)*4→w.frozen? ⟨b,off+j,none⟩=false)
    (hvs:∀j v,vs[j]? =some v→w.cell? ⟨vb,voff+j,none⟩=some v) (h1c:∀v∈cs,v.oneCell'=true) (h1v:∀v∈vs,v.oneCell'=true)
    (tA tB:TypeId) (kA kB:Nat) (hsa:w.shape? vb=some (tA,kA)) (hsb:w.shape? b=some (tB,kB)) (hkB:kB≠0) (hfa:w.frozen? ⟨vb,voff,none⟩=false) (hfe:w.frozen? ⟨vb,kA,none⟩=false) :
    Calls Tryd.prog 74 #[.slice (some ⟨b,off,none⟩) n c, .int .i64 i, .slice (some ⟨vb,voff,none⟩) 1 vc] w fun e w' =>
      e= .returned (.slice (some ⟨b,off,none⟩) (n+1) c)∧w'=(w.drew.setCells b (off+(i+1)*4) (cs.drop (i*4))).setCells b (off+i*4) vs:=by
  have t0:=Tryd.underlying0;have u0:=run_underlying Tryd.underlying0
  have t3:=Tryd.underlying3;have u3:=run_underlying Tryd.underlying3
  have t4:=Tryd.underlying4;have u4:=run_underlying Tryd.underlying4
  have t42:=Tryd.underlying42;have u42:=run_underlying Tryd.underlying42
  have t49:=Tryd.underlying49;have u49:=run_underlying Tryd.underlying49
  have z0:∀w,(Go.sizeOf 0).run Tryd.prog w= .ok 1 w:=fun _=>by kernel_rfl
  have z3:∀w,(Go.sizeOf 3).run Tryd.prog w= .ok 1 w:=fun _=>by kernel_rfl
  have z4:∀w,(Go.sizeOf 4).run Tryd.prog w= .ok 1 w:=fun _=>by kernel_rfl
  have z42:∀w,(Go.sizeOf 42).run Tryd.prog w= .ok 1 w:=fun _=>by kernel_rfl
  have z49:∀w,(Go.sizeOf 49).run Tryd.prog w= .ok 4 w:=fun _=>by kernel_rfl
  have a0:∀w,(isAgg 0).run Tryd.prog w= .ok false w:=fun _=>by kernel_rfl
  have a3:∀w,(isAgg 3).run Tryd.prog w= .ok false w:=fun _=>by kernel_rfl
  have a4:∀w,(isAgg 4).run Tryd.prog w= .ok false w:=fun _=>by kernel_rfl
  have a42:∀w,(isAgg 42).run Tryd.prog w= .ok false w:=fun _=>by kernel_rfl
  have v42:∀w,(zeroValue 42).run Tryd.prog w= .ok (Value.slice none 0 0) w:=fun _=>by kernel_rfl
  have v3:∀w,(zeroValue 3).run Tryd.prog w= .ok (Value.int IntKind.i64 0) w:=fun _=>by kernel_rfl
  have mixed:Tryd.prog.follows .mixedOrders=true:=by kernel_rfl
  have hz1:¬((1:Int)=0):=by omega
  have hz2:¬((i:Int)=(n:Int)):=by omega
  have hov:∀lb cb,(callFunc 88 #[.slice (some ⟨vb,voff,none⟩) 1 vc, .slice (some ⟨b,off+(i+1)*4,none⟩) lb cb]).run Tryd.prog w= .ok (.value (.bool false)) w:=fun lb cb=>by
    rw [run_callFunc_extern Tryd.func88 (by kernel_rfl) (by kernel_rfl) (by kernel_rfl) (e:=Extern.SlicesOverlaps.overlaps #[42,42] #[4]) (by kernel_rfl),
      Lib.run_overlaps_apart w 42 4 49 Tryd.underlying42 4 z49 ⟨vb,voff,none⟩ ⟨b,off+(i+1)*4,none⟩ 1 vc lb cb hvb tA tB kA kB hsa hsb hkB hfa hfe]
    rfl
  have hdl:(cs.drop (i*4)).length=(n - i)*4:=by rw [List.length_drop,hcl];omega
  have hw1:IntKind.i64.wrap ((i:Int)+1)=(i:Int)+1:=by rw [IntKind.wrap_i64];omega
  have hw2:IntKind.i64.wrap ((n:Int)+1)=(n:Int)+1:=by rw [IntKind.wrap_i64];omega
  have hb1:(0:Int)≤(i:Int)+1:=by omega
  have hin:i≤n:=by omega
  have htn:((i:Int)+1).toNat=i+1:=by omega
  have hb2:¬(c=i+1):=by omega
  have hb3:(i:Int)≤(n:Int)+1:=by omega
  have hb4:¬(c=i):=by omega
  have hcp1:∀ty dc sc,(Builtin.copy_ #[42,42] ty #[.slice (some ⟨b,off+(i+1)*4,none⟩) (n - i) dc, .slice (some ⟨b,off+i*4,none⟩) (n+1 - i) sc]).run Tryd.prog w.drew= .ok (goInt (Nat.min (n+1 - i) (n - i))) (w.drew.setCells b (off+(i+1)*4) (cs.drop (i*4))):=fun ty dc sc =>
    Yf w.drew _ _ ty 49 b (off+(i+1)*4) (n - i) dc ⟨b,off+i*4,none⟩ (n+1 - i) sc (cs.drop (i*4)) Tryd.underlying42 z49 (by rw [hdl];simp only [Nat.min_def];split<;>omega)
      (fun j v hj=>by rw [Addr.add_lit,Nat.add_assoc];exact hcs (i*4+j) v (by rwa [List.getElem?_drop] at hj))
      (fun j hj=>by rw [Nat.add_assoc];exact hsp _ (by omega)) (fun j hj=>by rw [Nat.add_assoc];exact hfz _ (by omega)) (fun v hv=>h1c v (List.mem_of_mem_drop hv))
  obtain ⟨W1,hW1⟩:∃W1,W1=w.drew.setCells b (off+(i+1)*4) (cs.drop (i*4)):=⟨_,rfl⟩
  have hsp1:∀k,k<(n+1)*4→(W1.cell? ⟨b,off+k,none⟩).isSome=true:=fun k hk=>by
    rw [hW1]
    exact isSome_setCells b _ _ _ (fun j hj=>by rw [Nat.add_assoc];exact hsp _ (by omega)) _ (hsp k hk)
  have hcp2:∀(W:World),(∀x,W.cell? x=W1.cell? x)→(∀x,W.frozen? x=W1.frozen? x)→∀ty dc,(Builtin.copy_ #[42,42] ty #[.slice (some ⟨b,off+i*4,none⟩) (n+1 - i) dc, .slice (some ⟨vb,voff,none⟩) 1 vc]).run Tryd.prog W= .ok (goInt (Nat.min 1 (n+1 - i))) (W.setCells b (off+i*4) vs):=fun W hWc hWf ty dc =>
    Yf W _ _ ty 49 b (off+i*4) (n+1 - i) dc ⟨vb,voff,none⟩ 1 vc vs Tryd.underlying42 z49 (by rw [hvl];simp only [Nat.min_def];split<;>omega)
      (fun j v hj=>by
        rw [Addr.add_lit,hWc,hW1,World.cell?_setCells_out b _ _ _ _ (fun h _=>absurd h hvb)]
        exact hvs j v hj)
      (fun j hj=>by rw [hWc,Nat.add_assoc];exact hsp1 _ (by omega)) (fun j hj=>by rw [hWf,hW1,World.frozen?_setCells,Nat.add_assoc];exact hfz _ (by omega)) h1v
  rw [← hW1] at hcp1
  go_enter Tryd.func74,Tryd.ntmps74
  go_wp2_with (simp only [hov])
  go_region_law_o (refine step_copy_runI Y _ _ 42 42 Y _ _ (by simp [Act.eval,Act.put]) (by simp [Act.eval,Act.put]) (hcp1 _ _ _) ?_)
  go_wp2_with (at_builtin;refine wpList_copy_runI _ Y _ _ 42 42 Y _ _ Y Y (hcp2 _ (fun _=>rfl) (fun _=>rfl) _ _) ?_)
  go_ret
  first | exact ⟨rfl,rfl⟩ | exact ⟨rfl,by rw [hW1]⟩
theorem Qd1 (b off n i vb voff vc:Nat) (cs vs:List Value) (w:World) (hi:i<n) (hn63:n<4611686018427387904) {i0:TypeInfo} {z:Value} (hi0:Tryd.prog.info? 49=some i0) (hz0:i0.zero=some z) (hzs:i0.size=4) (hzc:z.cells.size=4) (hbig:2*(n+1)*i0.bytes≤281474976710656)
    (hcl:cs.length=n*4) (hvl:vs.length=4)
    (hcs:∀j v,cs[j]? =some v→w.cell? ⟨b,off+j,none⟩=some v)
    (hvs:∀j v,vs[j]? =some v→w.cell? ⟨vb,voff+j,none⟩=some v) (h1c:∀v∈cs,v.oneCell'=true) (h1v:∀v∈vs,v.oneCell'=true) :
    Calls Tryd.prog 74 #[.slice (some ⟨b,off,none⟩) n n, .int .i64 i, .slice (some ⟨vb,voff,none⟩) 1 vc] w fun e w' =>
      e= .returned (.slice (some ⟨w.heap.size,0,none⟩) (n+1) (grownCap w (n+1) n 49)) ∧
      w'=(((w.alloc (.cells ((cs.take (i*4)).toArray++Builtin.zeroCells z.cells (n+1 - i)++Builtin.zeroCells z.cells (grownCap w (n+1) n 49 - (n+1))) 49)).drew.setCells w.heap.size (i*4) vs).drew).setCells w.heap.size ((i+1)*4) (cs.drop (i*4)):=by
  have t0:=Tryd.underlying0;have u0:=run_underlying Tryd.underlying0
  have t3:=Tryd.underlying3;have u3:=run_underlying Tryd.underlying3
  have t4:=Tryd.underlying4;have u4:=run_underlying Tryd.underlying4
  have t42:=Tryd.underlying42;have u42:=run_underlying Tryd.underlying42
  have t49:=Tryd.underlying49;have u49:=run_underlying Tryd.underlying49
  have z0:∀w,(Go.sizeOf 0).run Tryd.prog w= .ok 1 w:=fun _=>by kernel_rfl
  have z3:∀w,(Go.sizeOf 3).run Tryd.prog w= .ok 1 w:=fun _=>by kernel_rfl
  have z4:∀w,(Go.sizeOf 4).run Tryd.prog w= .ok 1 w:=fun _=>by kernel_rfl
  have z42:∀w,(Go.sizeOf 42).run Tryd.prog w= .ok 1 w:=fun _=>by kernel_rfl
  have z49:∀w,(Go.sizeOf 49).run Tryd.prog w= .ok 4 w:=fun _=>by kernel_rfl
  have a0:∀w,(isAgg 0).run Tryd.prog w= .ok false w:=fun _=>by kernel_rfl
  have a3:∀w,(isAgg 3).run Tryd.prog w= .ok false w:=fun _=>by kernel_rfl
  have a4:∀w,(isAgg 4).run Tryd.prog w= .ok false w:=fun _=>by kernel_rfl
  have a42:∀w,(isAgg 42).run Tryd.prog w= .ok false w:=fun _=>by kernel_rfl
  have v42:∀w,(zeroValue 42).run Tryd.prog w= .ok (Value.slice none 0 0) w:=fun _=>by kernel_rfl
  have v3:∀w,(zeroValue 3).run Tryd.prog w= .ok (Value.int IntKind.i64 0) w:=fun _=>by kernel_rfl
  have mixed:Tryd.prog.follows .mixedOrders=true:=by kernel_rfl
  have hz1:¬((1:Int)=0):=by omega
  have hz2:¬((i:Int)=(n:Int)):=by omega
  have hz3:(n:Int)<(n:Int)+1:=by omega
  have hbw:b<w.heap.size:=block_lt_of_cell (hcs 0 _ (List.getElem?_eq_getElem (by omega)))
  have hvw:vb<w.heap.size:=block_lt_of_cell (hvs 0 _ (List.getElem?_eq_getElem (by omega)))
  have hkk:(n:Int)+1 - (i:Int)=((n+1 - i:Nat):Int):=by omega
  have hik:i+(n+1 - i)=n+1:=by omega
  have hold:(Builtin.firstCells i0.size i (.slice (some ⟨b,off,none⟩) i n)).run Tryd.prog w.drew= .ok (cs.take (i*4)).toArray w.drew:=by
    rw [hzs]
    exact run_firstCells_some w.drew 4 i ⟨b,off,none⟩ i n (cs.take (i*4)) (by rw [List.length_take];omega) (fun j v hj=>by
      rw [Addr.add_lit]
      rw [List.getElem?_take] at hj
      split at hj
      · exact hcs j v hj
      · cases hj)
  have hbi:(n+1 - i)*i0.bytes≤281474976710656:=Nat.le_trans (Nat.mul_le_mul_right _ (by omega)) hbig
  have hfit:Builtin.nextslicecap (n+1) n*i0.bytes≤281474976710656:=Nat.le_trans (Nat.mul_le_mul_right _ (nextslicecap_le (by omega))) hbig
  have hrz:∀ty,(Builtin.append_ #[42,3] ty #[.slice (some ⟨b,off,none⟩) i n, .int .i64 ((n:Int)+1 - (i:Int))]).run Tryd.prog w =
      .ok (.slice (some ⟨w.heap.size,0,none⟩) (n+1) (grownCap w (n+1) n 49)) (w.drew.alloc (.cells ((cs.take (i*4)).toArray++Builtin.zeroCells z.cells (n+1 - i)++Builtin.zeroCells z.cells (grownCap w (n+1) n 49 - (n+1))) 49)):=fun ty=>by
    have h:=Lib.run_append_grow_zeros w 42 3 ty 49 i0 _ .i64 .i64 Tryd.underlying42 Tryd.underlying3 hi0 hz0 (some ⟨b,off,none⟩) i n (cs.take (i*4)) hold (n+1 - i) (by omega) (by omega) (by omega) (by omega) hbi (by rw [hik];exact hfit)
    rw [hik] at h
    rw [hkk]
    exact h
  obtain ⟨G,hG⟩:∃G,G=grownCap w (n+1) n 49:=⟨_,rfl⟩
  obtain ⟨ROW,hROW⟩:∃ROW:Array Value,ROW=(cs.take (i*4)).toArray++Builtin.zeroCells z.cells (n+1 - i)++Builtin.zeroCells z.cells (G - (n+1)):=⟨_,rfl⟩
  rw [← hG] at hrz ⊢
  rw [← hROW] at hrz ⊢
  have hRl:(n+1)*4≤ROW.size:=by
    rw [hROW]
    have hq:∀k,(Builtin.zeroCells z.cells k).size=k*z.cells.size:=fun k=>by simp [Builtin.zeroCells]
    rw [Array.size_append,Array.size_append,hq,hq,hzc,List.size_toArray,List.length_take,hcl]
    omega
  obtain ⟨W1,hW1⟩:∃W1,W1=w.drew.alloc (.cells ROW 49):=⟨_,rfl⟩
  rw [← hW1] at hrz
  have hN:∀j,j<(n+1)*4→(W1.cell? ⟨w.heap.size,j,none⟩).isSome=true:=fun j hj=>by
    rw [hW1,World.cell?_alloc_at (w:=w.drew) ROW _ w.heap.size j Y,Array.getElem?_eq_getElem (by omega)];rfl
  have hNf:∀j,W1.frozen? ⟨w.heap.size,j,none⟩=false:=fun j=>by rw [hW1];exact World.frozen?_alloc_at (w:=w.drew) ROW _ w.heap.size j Y
  have hOb:∀j v,w.cell? ⟨b,j,none⟩=some v→W1.cell? ⟨b,j,none⟩=some v:=fun j v h=>by rw [hW1,World.cell?_alloc_past (w:=w.drew) _ b j hbw];exact h
  have hOv:∀j v,w.cell? ⟨vb,j,none⟩=some v→W1.cell? ⟨vb,j,none⟩=some v:=fun j v h=>by rw [hW1,World.cell?_alloc_past (w:=w.drew) _ vb j hvw];exact h
  have hcpA:∀(W:World),(∀x,W.cell? x=W1.cell? x)→(∀x,W.frozen? x=W1.frozen? x)→∀ty dc,(Builtin.copy_ #[42,42] ty #[.slice (some ⟨w.heap.size,i*4,none⟩) (n+1 - i) dc, .slice (some ⟨vb,voff,none⟩) 1 vc]).run Tryd.prog W= .ok (goInt (Nat.min 1 (n+1 - i))) (W.setCells w.heap.size (i*4) vs):=fun W hWc hWf ty dc =>
    Yf W _ _ ty 49 w.heap.size (i*4) (n+1 - i) dc ⟨vb,voff,none⟩ 1 vc vs Tryd.underlying42 z49 (by rw [hvl];simp only [Nat.min_def];split<;>omega)
      (fun j v hj=>by rw [Addr.add_lit,hWc];exact hOv _ v (hvs j v hj))
      (fun j hj=>by rw [hWc];exact hN _ (by omega)) (fun j hj=>by rw [hWf];exact hNf _) h1v
  have hGn:n+1≤G:=by rw [hG];exact YV w _ _ _
  have hGi:¬(G=i):=by omega
  have hGim:¬(G=i+1):=by omega
  have hci:¬(n=i):=by omega
  have hbN:b≠w.heap.size:=by omega
  have hdl:(cs.drop (i*4)).length=(n - i)*4:=by rw [List.length_drop,hcl];omega
  have hcpB:∀(W:World),(∀x,W.cell? x=(W1.setCells w.heap.size (i*4) vs).cell? x)→(∀x,W.frozen? x=(W1.setCells w.heap.size (i*4) vs).frozen? x)→∀ty dc sc,(Builtin.copy_ #[42,42] ty #[.slice (some ⟨w.heap.size,(i+1)*4,none⟩) (n - i) dc, .slice (some ⟨b,off+i*4,none⟩) (n - i) sc]).run Tryd.prog W= .ok (goInt (Nat.min (n - i) (n - i))) (W.setCells w.heap.size ((i+1)*4) (cs.drop (i*4))):=fun W hWc hWf ty dc sc =>
    Yf W _ _ ty 49 w.heap.size ((i+1)*4) (n - i) dc ⟨b,off+i*4,none⟩ (n - i) sc (cs.drop (i*4)) Tryd.underlying42 z49 (by rw [hdl];simp only [Nat.min_def];split<;>omega)
      (fun j v hj=>by
        rw [Addr.add_lit,hWc,World.cell?_setCells_out _ _ _ _ _ (fun h _=>absurd h hbN),Nat.add_assoc]
        exact hOb _ v (hcs (i*4+j) v (by rwa [List.getElem?_drop] at hj)))
      (fun j hj=>by rw [hWc];exact isSome_setCells _ _ _ _ (fun t ht=>hN _ (by omega)) _ (hN _ (by omega)))
      (fun j hj=>by rw [hWf,World.frozen?_setCells];exact hNf _) (fun v hv=>h1c v (List.mem_of_mem_drop hv))
  subst hW1
  have hE1:∀x,((w.alloc (.cells ROW 49)).drew).cell? x=(w.drew.alloc (.cells ROW 49)).cell? x:=fun x=>rfl
  have hE2:∀x,((w.alloc (.cells ROW 49)).drew).frozen? x=(w.drew.alloc (.cells ROW 49)).frozen? x:=fun x=>rfl
  have hF1:∀x,(((w.alloc (.cells ROW 49)).drew.setCells w.heap.size (i*4) vs).drew).cell? x=((w.drew.alloc (.cells ROW 49)).setCells w.heap.size (i*4) vs).cell? x:=fun x=>rfl
  have hF2:∀x,(((w.alloc (.cells ROW 49)).drew.setCells w.heap.size (i*4) vs).drew).frozen? x=((w.drew.alloc (.cells ROW 49)).setCells w.heap.size (i*4) vs).frozen? x:=fun x=>rfl
  have hw1:IntKind.i64.wrap ((i:Int)+1)=(i:Int)+1:=by rw [IntKind.wrap_i64];omega
  have hw2:IntKind.i64.wrap ((n:Int)+1)=(n:Int)+1:=by rw [IntKind.wrap_i64];omega
  have hw3:IntKind.i64.wrap ((n:Int)+1 - (i:Int))=(n:Int)+1 - (i:Int):=by rw [IntKind.wrap_i64];omega
  have hb1:(0:Int)≤(i:Int)+1:=by omega
  have hin:i≤n:=by omega
  have htn:((i:Int)+1).toNat=i+1:=by omega
  have hb3:(i:Int)≤(n:Int):=by omega
  clear hkk hik hold hROW hG hRl
  go_enter Tryd.func74,Tryd.ntmps74
  go_wp2_with (first
    | (at_builtin;refine Lib.wpList_append_run _ Y _ _ _ _ Y _ _ Y Y _ _ (hrz _) ?_)
    | (at_builtin;refine wpList_copy_runI _ Y _ _ 42 42 Y _ _ Y Y (hcpA _ hE1 hE2 _ _) ?_)
    | (at_builtin;refine wpList_copy_runI _ Y _ _ 42 42 Y _ _ Y Y (hcpB _ (fun _=>rfl) (fun _=>rfl) _ _ _) ?_))
  go_region_law_o (refine step_copy_runI Y _ _ 42 42 Y (.slice (some ⟨w.heap.size,(i+1)*4,none⟩) (n - i) (G - (i+1))) (.slice (some ⟨b,off+i*4,none⟩) (n - i) (n - i)) (by simp [Act.eval,Act.put]) (by simp [Act.eval,Act.put]) (hcpB _ hF1 hF2 3 (G - (i+1)) (n - i)) ?_)
  go_wp2
  go_ret
  exact ⟨rfl,rfl⟩
theorem Qge : Qgs Tryd.prog 74 42 49 4 40 where
 ut:=Tryd.underlying42
 info:=⟨_,_,rfl,rfl,rfl,rfl,rfl⟩
 wide:=by decide
 fin base n c vb voff vc w _ _ h1 h2 h3:=QeO base n c vb voff vc w h1 h2 h3
 shift b off n c i vb voff vc cs vs w h1 h2 h3 h4 h5 h6 h7 h8 h9 h10 h11 h12 tA tB kA kB h13 h14 h15 h16 h17:=QcY b off n c i vb voff vc cs vs w h1 h2 h3 h4 h5 h6 h7 h8 h9 h10 h11 h12 tA tB kA kB h13 h14 h15 h16 h17
 grow b off n i vb voff vc cs vs w h1 h2 _ _ h3 h4 h5 h6 h7 h8 h9 h10 h11 h12 h13:=Qd1 b off n i vb voff vc cs vs w h1 h2 h3 h4 h5 h6 h7 h8 h9 h10 h11 h12 h13
open Go Go.RowKit Go.Shelf Go.Proofs
def laysRepl_ren : Go.Shelf.Ren:=⟨fun | 155=>76 | 154=>92 | 138=>106 | 165=>107 | 143=>108 | 166=>109 | 197=>110 | 169=>111 | 195=>119 | 218=>120 | 240=>121 | 241=>122 | 219=>123 | 260=>124 | 276=>130 | 277=>131 | 217=>132 | 225=>133 | 224=>134 | 267=>135 | 266=>138 | 314=>139 | n=>n,fun | 9=>9 | 3=>3 | 4=>4 | 72=>124 | 0=>0 | 76=>128 | 105=>130 | 21=>21 | 5=>5 | 70=>122 | 20=>20 | 37=>22 | 75=>127 | 127=>143 | 164=>149 | 46=>109 | 119=>152 | 139=>155 | 138=>154 | 146=>157 | 51=>146 | 80=>132 | n=>n,fun | 1=>1 | 3=>2 | 4=>3 | n=>n⟩
theorem laysRepl : Go.Proofs.LaysM.n155 Tryd.prog laysRepl_ren where
 mixed:=by kernel_rfl
 f138:=Tryd.func106.trans (congrArg some (by kernel_rfl))
 f143:=Tryd.func108.trans (congrArg some (by kernel_rfl))
 f154:=Tryd.func92.trans (congrArg some (by kernel_rfl))
 f155:=Tryd.func76.trans (congrArg some (by kernel_rfl))
 f165:=Tryd.func107.trans (congrArg some (by kernel_rfl))
 f166:=Tryd.func109.trans (congrArg some (by kernel_rfl))
 f169:=Tryd.func111.trans (congrArg some (by kernel_rfl))
 f195:=Tryd.func119.trans (congrArg some (by kernel_rfl))
 f197:=Tryd.func110.trans (congrArg some (by kernel_rfl))
 f217:=Tryd.func132.trans (congrArg some (by kernel_rfl))
 f218:=Tryd.func120.trans (congrArg some (by kernel_rfl))
 f219:=Tryd.func123.trans (congrArg some (by kernel_rfl))
 f224:=Tryd.func134.trans (congrArg some (by kernel_rfl))
 f225:=Tryd.func133.trans (congrArg some (by kernel_rfl))
 f240:=Tryd.func121.trans (congrArg some (by kernel_rfl))
 f241:=Tryd.func122.trans (congrArg some (by kernel_rfl))
 f260:=Tryd.func124.trans (congrArg some (by kernel_rfl))
 f266:=Tryd.func138.trans (congrArg some (by kernel_rfl))
 f267:=Tryd.func135.trans (congrArg some (by kernel_rfl))
 f276:=Tryd.func130.trans (congrArg some (by kernel_rfl))
 f277:=Tryd.func131.trans (congrArg some (by kernel_rfl))
 f314:=Tryd.func139.trans (congrArg some (by kernel_rfl))
 t0:=Tryd.underlying0
 a0:=Tryd.isAgg0
 z0:=Tryd.sizeOf0
 v0:=Tryd.zeroValue0
 t3:=Tryd.underlying3
 a3:=Tryd.isAgg3
 z3:=Tryd.sizeOf3
 v3:=Tryd.zeroValue3
 t4:=Tryd.underlying4
 a4:=Tryd.isAgg4
 z4:=Tryd.sizeOf4
 v4:=Tryd.zeroValue4
 t5:=Tryd.underlying5
 a5:=Tryd.isAgg5
 z5:=Tryd.sizeOf5
 v5:=Tryd.zeroValue5
 t9:=Tryd.underlying9
 a9:=Tryd.isAgg9
 z9:=Tryd.sizeOf9
 v9:=Tryd.zeroValue9
 t20:=Tryd.underlying20
 a20:=Tryd.isAgg20
 z20:=Tryd.sizeOf20
 v20:=Tryd.zeroValue20
 t21:=Tryd.underlying21
 a21:=Tryd.isAgg21
 z21:=Tryd.sizeOf21
 v21:=Tryd.zeroValue21
 t37:=Tryd.underlying22
 a37:=Tryd.isAgg22
 z37:=Tryd.sizeOf22
 v37:=Tryd.zeroValue22
 t46:=Tryd.underlying109
 a46:=Tryd.isAgg109
 z46:=Tryd.sizeOf109
 v46:=Tryd.zeroValue109
 t51:=Tryd.underlying146
 a51:=Tryd.isAgg146
 z51:=Tryd.sizeOf146
 v51:=Tryd.zeroValue146
 t70:=Tryd.underlying122
 a70:=Tryd.isAgg122
 z70:=Tryd.sizeOf122
 v70:=Tryd.zeroValue122
 t72:=Tryd.underlying124
 a72:=Tryd.isAgg124
 z72:=Tryd.sizeOf124
 v72:=Tryd.zeroValue124
 t75:=Tryd.underlying127
 a75:=Tryd.isAgg127
 z75:=Tryd.sizeOf127
 v75:=Tryd.zeroValue127
 t76:=Tryd.underlying128
 a76:=Tryd.isAgg128
 z76:=Tryd.sizeOf128
 v76:=Tryd.zeroValue128
 t105:=Tryd.underlying130
 a105:=Tryd.isAgg130
 z105:=Tryd.sizeOf130
 v105:=Tryd.zeroValue130
 t119:=Tryd.underlying152
 a119:=Tryd.isAgg152
 z119:=Tryd.sizeOf152
 t127:=Tryd.underlying143
 a127:=Tryd.isAgg143
 z127:=Tryd.sizeOf143
 v127:=Tryd.zeroValue143
 t138:=Tryd.underlying154
 a138:=Tryd.isAgg154
 z138:=Tryd.sizeOf154
 v138:=Tryd.zeroValue154
 t139:=Tryd.underlying155
 a139:=Tryd.isAgg155
 z139:=Tryd.sizeOf155
 v139:=Tryd.zeroValue155
 t146:=Tryd.underlying157
 a146:=Tryd.isAgg157
 z146:=Tryd.sizeOf157
 v146:=Tryd.zeroValue157
 t164:=Tryd.underlying149
 a164:=Tryd.isAgg149
 z164:=Tryd.sizeOf149
 v164:=Tryd.zeroValue149
 g1:=by kernel_rfl
 g3:=by kernel_rfl
 g4:=by kernel_rfl
 t80:=Tryd.underlying132
 a80:=Tryd.isAgg132
 z80:=Tryd.sizeOf132
 v80:=Tryd.zeroValue132
 i0:=by kernel_rfl
 i3:=by kernel_rfl
 i4:=by kernel_rfl
 i5:=by kernel_rfl
 i9:=by kernel_rfl
 i20:=by kernel_rfl
 i21:=by kernel_rfl
 i37:=by kernel_rfl
 i46:=by kernel_rfl
 i51:=by kernel_rfl
 i70:=by kernel_rfl
 i72:=by kernel_rfl
 i75:=by kernel_rfl
 i76:=by kernel_rfl
 i80:=by kernel_rfl
 i105:=by kernel_rfl
 i127:=by kernel_rfl
 i138:=by kernel_rfl
 i139:=by kernel_rfl
 i146:=by kernel_rfl
 i164:=by kernel_rfl
 m1:=by kernel_rfl
 s1_3:=fun w h=>Go.Proofs.cell_of_shapedOpen_int (zero:= #[.int .i64 0]) (t:=3) h (of_decide_eq_true (by kernel_rfl)) (by kernel_rfl) Y (by kernel_rfl) (by kernel_rfl) Tryd.underlying3
 m3:=by kernel_rfl
 m4:=by kernel_rfl
theorem QeL : Builder.Extra Tryd.prog laysRepl_ren where
 sizeBuilder:=by kernel_rfl
 liesBuilder:=by kernel_rfl
 t5:=laysRepl.t5
 a5:=laysRepl.a5
 z5:=laysRepl.z5
 v5:=laysRepl.v5
 infoByte:=by kernel_rfl
 cellsByte:=by kernel_rfl
 sizeByte:=by kernel_rfl
 neB5:=by decide
theorem QgF {W:World} (h:W.ShapedOpen Tryd.prog):GlobOk W.heap.size W:=by
 intro g hg
 obtain rfl:=List.mem_singleton.1 hg
 obtain ⟨m,hm⟩:=laysRepl.s1_3 W h
 refine ⟨?_,m,hm⟩
 unfold World.cell? at hm
 split at hm
 ·rename_i e;exact (Array.getElem?_eq_some_iff.1 e).1
 ·cases hm
theorem QgR : QdQ Tryd.prog:=by
 intro f hf
 by_cases h0:f=76
 ·subst h0
  exact Qc5 (g:=laysRepl_ren.g 1) (by decide) ⟨fun s o n m w h1 h2 h3 h4=>Any.strings_ReplaceAll laysRepl.ton155 QeL s o n m w h1 h2 h3 h4⟩
 by_cases h1:f=74
 ·subst h1
  exact Qd4 Qge
 exfalso
 simp [YK,h0,h1] at hf
end Go.Proofs.YtcglnehpapgfpaaDoor.AE
