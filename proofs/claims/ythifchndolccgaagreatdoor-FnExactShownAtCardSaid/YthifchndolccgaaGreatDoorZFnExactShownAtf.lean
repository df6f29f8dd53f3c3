/- A part of what the row of FnExactShownAt uses. Conditions: as each theorem states. -/
import Derived.Test.YthifchndolccgaaGreatDoorZFnExactShownAte
import Derived.Test.YthifchndolccgaaGreatDoorProg
import Derived.Shelf.LaysM
import Derived.Shelf.Strings.Replace
namespace Go.Proofs.YthifchndolccgaaGreatDoor.AE
open Go Go.RowKit
set_option linter.unusedVariables false
set_option linter.unusedSimpArgs false
set_option maxRecDepth 20000
set_option maxHeartbeats 2000000
noncomputable section
def Jy (f:ByteArray):Prop:=∃j,j<f.size∧Qw f j=63
instance (f:ByteArray):Decidable (Jy f):=Classical.propDecidable _
def YY (f:ByteArray):Nat→Nat
 | 0=>0
 | i+1=>YY f i+(if Qw f i=63 then 1 else 0)
theorem Qjg (f:ByteArray):∀i,YY f i≤i
 | 0=>Nat.le_refl _
 | i+1=>by
  have:=Qjg f i
  unfold YY
  split<;>omega
theorem Qgb (f:ByteArray):∀i,YY f i=0↔∀j,j<i→¬Qw f j=63
 | 0=>⟨fun _ j hj=>by omega,fun _=>rfl⟩
 | i+1=>by
  have ih:=Qgb f i
  unfold YY
  constructor
  ·intro h j hj
   by_cases e:j=i
   ·subst e;intro e2;rw [if_pos e2] at h;omega
   ·exact ih.1 (by omega) j (by omega)
  ·intro h
   rw [if_neg (h i (by omega)),ih.2 (fun j hj=>h j (by omega))]
theorem QlU (f:ByteArray):YY f f.size=0↔¬Jy f:=by
 rw [Qgb]
 exact ⟨fun h ⟨j,h1,h2⟩=>h j h1 h2,fun h j h1 h2=>h ⟨j,h1,h2⟩⟩
end
theorem QeC (n:Nat) (f:ByteArray) (hf:f.size≤maxLen):Pure (Qr Tryz.prog (n+1)) 120 [(tS f)] (tB (decide (Jy f))):=by
 refine Pure.intro (rs:= [ResultVar.tmp 2]) Tryz.func120 Y Y Y (E0:= [(0,(tS f))]) Y ?_
 obtain ⟨hlim,hmx,hmax⟩:=QE
 refine sr (fO (OF.assign (VEv.bool false)) (nt (sq (sr (fO (OF.assign (VEv.int .i64 0)) (nt (VRun.block ?_)))))))
 refine VRun.loop (A:=Nat) (fun s_=> [(0,(tS f)),(3,(tN s_))]) (fun s_=>Q5 []) 0 (fun s_=>s_≤f.size∧∀j,j<s_→¬Qw f j=63) (fun s_=>f.size - s_) (0:Nat) ?_ (Wk.mk (fun k=>k) ?_ ?_ ?_) ?_
 ·exact ⟨Nat.zero_le _,fun j hj=>by omega⟩
 ·exact (b2 (b2 bn))
 ·exact bn
 ·exact nd Y
 rintro i (hI':i≤f.size∧∀j,j<i→¬Qw f j=63)
 show VRun _ _ _ [(0,(tS f)),(3,(tN i))] (Q5 []) 0 _
 have hI1:=hI'.1
 refine sq (sr (mO (tN i) Y (mO (tS f) Y (lO (B.lenS (tv (tS f) Y) U9) (fO (Zg (tv (tN i) Y) (tv (tN f.size) Y)) (nt ?_))))))
 refine cd (i<f.size) Y (fun fhc0=> ?_) fun fhc0=> ?_
 ·refine sk ?_
  refine tn (sq (VRun.block (sr (mO (tS f) Y (mO (tN i) Y ?_)))))
  have hb1:i<f.size:=(by omega)
  refine fO (J6 (tv (tS f) Y) (tv (tN i) Y) hb1 U9) (fO (YD (tv (T.int .u8 (Qw f i)) Y) (VEv.int .u8 63)) (nt ?_))
  refine cd (Qw f i=63) Y (fun fhc1=> ?_) fun fhc1=> ?_
  ·refine sr ?_
   refine fO (OF.assign (VEv.bool true)) (nt (rt (vinB.r (tr (tr (vinB.r (tr (vb (b':=true) Y ?_))))))))
   symm;rw [decide_eq_true_eq];exact ⟨i,fhc0,fhc1⟩
  refine sk (vinB.n (tn (VRun.region (mO (tN i) Y (fO (QB (tv (tN i) Y) (VEv.int .i64 1) (by omega)) (aO (tN (i+1)) Y (VRunO.nil (tn ?_))))))))
  refine ⟨(i+1:Nat),?_,?_,Wk.mk (fun k=>k) ?_ ?_ ?_⟩
  ·exact Q4 hI' fhc0 fhc1
  ·omega
  ·exact (b2 (b2 bn))
  ·exact bn
  ·exact nd Y
 refine VRun.exit (vthn.e (vthn.e (vinB.e (tn (sr (fO (OF.assign (VEv.bool false)) (nt (rt (vb (b':=false) Y ?_)))))))))
 symm;rw [decide_eq_false_iff_not];rintro ⟨j,h1,h2⟩;exact hI'.2 j (by omega) h2
theorem Qfv (n:Nat) (f:ByteArray) (hf:f.size≤maxLen):Pure (Qr Tryz.prog (n+1)) 124 [(tS f)] (tN (YY f f.size)):=by
 refine Pure.intro (rs:= [ResultVar.tmp 2]) Tryz.func124 Y Y Y (E0:= [(0,(tS f))]) Y ?_
 obtain ⟨hlim,hmx,hmax⟩:=QE
 refine sr (fO (OF.assign (VEv.int .i64 0)) (nt (sr (fO (OF.assign (VEv.int .i64 0)) (nt (sq (sr (mO (tS f) Y (lO (B.lenS (tv (tS f) Y) U9) (fO (OF.move (VEv.int .i64 0)) (nt ?_)))))))))))
 refine VRun.block ?_
 refine VRun.loop (A:=Nat) (fun s_=> [(0,(tS f)),(2,(tN 0)),(3,(tN (YY f s_))),(6,(tN f.size)),(7,(tN s_))]) (fun s_=>Q5 []) 0 (fun s_=>s_≤f.size) (fun s_=>f.size - s_) (0:Nat) ?_ (Wk.mk (fun k=>k) ?_ ?_ ?_) ?_
 ·(simp;done)
 ·exact (b2 (b2 (bc ⟨(congrArg (T.int .i64) (show 0=((YY f 0:Nat):Int) from (by rfl))),rfl⟩ (b2 (b2 bn)))))
 ·exact bn
 ·exact nd Y
 rintro i (hI':i≤f.size)
 show VRun _ _ _ [(0,(tS f)),(2,(tN 0)),(3,(tN (YY f i))),(6,(tN f.size)),(7,(tN i))] (Q5 []) 0 _
 have hol:=Qjg f i
 refine sr (fO (Zg (tv (tN i) Y) (tv (tN f.size) Y)) (nt (sq ?_)))
 refine cd (i<f.size) Y (fun fhc0=> ?_) fun fhc0=> ?_
 ·refine sk ?_
  refine tn (sq (VRun.block (sr (mO (tN i) Y (aO (tN i) Y (nt (sr (mO (tS f) Y (mO (tN i) Y ?_)))))))))
  have hb1:i<f.size:=(by omega)
  refine fO (J6 (tv (tS f) Y) (tv (tN i) Y) hb1 U9) (fO (YD (tv (T.int .u8 (Qw f i)) Y) (VEv.int .u8 63)) (nt ?_))
  refine cd (Qw f i=63) Y (fun fhc1=> ?_) fun fhc1=> ?_
  ·refine VRun.region ?_
   refine mO (tN (YY f i)) Y (fO (QB (tv (tN (YY f i)) Y) (VEv.int .i64 1) (by omega)) (aO (tN (YY f i+1)) Y (VRunO.nil (vinB.n (tn (VRun.region (fO (QB (tv (tN i) Y) (VEv.int .i64 1) (by omega)) (mO (tN (i+1)) Y (VRunO.nil (tn ?_))))))))))
   refine ⟨(i+1:Nat),?_,?_,Wk.mk (fun k=>k) ?_ ?_ ?_⟩
   ·trivial
   ·omega
   ·exact (b2 (b2 (bc ⟨(congrArg (T.int .i64) (show (((YY f i+1):Nat):Int)=((YY f (i+1):Nat):Int) from (by (rw [YY,if_pos fhc1];done)))),rfl⟩ (b2 (b2 bn)))))
   ·exact bn
   ·exact nd Y
  refine sk (vinB.n (tn (VRun.region (fO (QB (tv (tN i) Y) (VEv.int .i64 1) (by omega)) (mO (tN (i+1)) Y (VRunO.nil (tn ?_)))))))
  refine ⟨(i+1:Nat),?_,?_,Wk.mk (fun k=>k) ?_ ?_ ?_⟩
  ·trivial
  ·omega
  ·exact (b2 (b2 (bc ⟨(congrArg (T.int .i64) (show ((YY f i:Nat):Int)=((YY f (i+1):Nat):Int) from (by (rw [YY,if_neg fhc1];rfl)))),rfl⟩ (b2 (b2 bn)))))
  ·exact bn
  ·exact nd Y
 refine VRun.exit (vthn.e (vthn.e (vinB.e (tn (sr (mO (tN (YY f i)) Y (aO (tN (YY f i)) Y (nt (rt (vi (n':=((YY f i:Nat):Int)) Y ?_))))))))))
 rw [show i=f.size by omega]
noncomputable section
def J8 (g:D.Grid) (f:ByteArray):Prop:=Q2 g f∧¬Jy f
instance (g:D.Grid) (f:ByteArray):Decidable (J8 g f):=Classical.propDecidable _
end
theorem QfN (n:Nat) (g:D.Grid) (f:ByteArray) (hc:g.Cells.size≤maxLen) (hf:f.size≤maxLen):Pure (Qr Tryz.prog (n+4)) 87 [(T.agg (Qb false g)),(tS f)] (tB (decide (J8 g f))):=by
 refine Pure.intro (rs:= [ResultVar.tmp 4]) Tryz.func87 Y Y Y (E0:= [(0,(T.agg (Qb false g))),(1,(tS f))]) Y ?_
 obtain ⟨hlim,hmx,hmax⟩:=QE
 refine sr (kO (B.box (ts:=(Qb false g)) (tv (T.agg (Qb false g)) Y) nofun Y) (fO (OF.assign (VEv.bool false)) (nt (sr (lO (OL.loadOn (us:=(Qb false g)) (tv (T.op 0 0) Y) Y Q3 QY (lb Y) Y) (mO (tS f) Y (cO (cS (vc (tv (T.agg (Qb false g)) Y) (vc (tv (tS f) Y) vn)) (LendL.cons (lg Qs) (lp Y ln)) (Qab (n+0) g f (by assumption) (by assumption)) Y Y) (mO (tB (decide (Q2 g f))) Y ?_))))))))
 refine VRunO.joinB 4 [9,10,11] 12 (tB (decide ((Q2 g f)∧(¬(Jy f))))) ?_ ?_
 ·refine gw (Q2 g f) (fun fhg8_1=> ?_) fun fhg8_1=> ?_
  ·refine gF (dy fhg8_1) Y Y (OF.move (tv (tS f) Y)) ?_
   refine VRunO.chain (VWant.on Y Y (dy fhg8_1)) (cS (vc (tv (tS f) Y) vn) (ZH Y) (QeC (n+2) f (by assumption)) Y Y) (gF (dy fhg8_1) Y Y (Q8 (tv (tB (decide (Jy f))) Y)) (fO (OF.pickT (VEv.tmpB Y (dy fhg8_1)) (tv (tB (!(decide (Jy f)))) Y)) (VRunO.nil ?_)))
   exact jq (congrArg T.bool (kAT fhg8_1 dN)) (js Y (js Y (js Y (jn))))
  ·refine QA 3 3 true 8 (dz fhg8_1) Y Y Y ?_
   refine fO (OF.pickF (VEv.tmpB Y (dz fhg8_1)) (VEv.bool false)) (VRunO.nil ?_)
   exact jq (congrArg T.bool (kAF fhg8_1)) (js Y (js Y (js Y (jn))))
 refine aO (tB (decide ((Q2 g f)∧(¬(Jy f))))) Y (nt (rt (vb (b':=(decide ((Q2 g f)∧(¬(Jy f))))) Y ?_)))
 exact Zd Iff.rfl
theorem QfA (n:Nat) (g:D.Grid) (f:ByteArray) (hc:g.Cells.size≤maxLen) (hf:f.size≤maxLen):Pure (Qr Tryz.prog (n+4)) 89 [(T.agg (Qb false g)),(tS f)] (tB (decide (J8 g f))):=by
 refine Pure.intro (rs:= [ResultVar.tmp 4]) Tryz.func89 Y Y Y (E0:= [(0,(T.agg (Qb false g))),(1,(tS f))]) Y ?_
 obtain ⟨hlim,hmx,hmax⟩:=QE
 refine sr (kO (B.box (ts:=(Qb false g)) (tv (T.agg (Qb false g)) Y) nofun Y) (fO (OF.assign (VEv.bool false)) (nt (sr (lO (OL.loadOn (us:=(Qb false g)) (tv (T.op 0 0) Y) Y Q3 QY (lb Y) Y) (mO (tS f) Y (cO (cS (vc (tv (T.agg (Qb false g)) Y) (vc (tv (tS f) Y) vn)) (LendL.cons (lg Qs) (lp Y ln)) (QbQ (n+0) g f (by assumption) (by assumption)) Y Y) (mO (tB (decide (Q2 g f))) Y ?_))))))))
 refine VRunO.joinB 4 [9,10,11] 12 (tB (decide ((Q2 g f)∧(YY f f.size=0)))) ?_ ?_
 ·refine gw (Q2 g f) (fun fhg8_1=> ?_) fun fhg8_1=> ?_
  ·refine gF (dy fhg8_1) Y Y (OF.move (tv (tS f) Y)) ?_
   refine VRunO.chain (VWant.on Y Y (dy fhg8_1)) (cS (vc (tv (tS f) Y) vn) (ZH Y) (Qfv (n+2) f (by assumption)) Y Y) (gF (dy fhg8_1) Y Y (B.eql (c:=(decide (YY f f.size=0))) (tv (tN (YY f f.size)) Y) (VEv.int .i64 0) (Zd (by omega))) (fO (OF.pickT (VEv.tmpB Y (dy fhg8_1)) (tv (tB (decide (YY f f.size=0))) Y)) (VRunO.nil ?_)))
   exact jq (congrArg T.bool (kAT fhg8_1 Y)) (js Y (js Y (js Y (jn))))
  ·refine QA 3 3 true 8 (dz fhg8_1) Y Y Y ?_
   refine fO (OF.pickF (VEv.tmpB Y (dz fhg8_1)) (VEv.bool false)) (VRunO.nil ?_)
   exact jq (congrArg T.bool (kAF fhg8_1)) (js Y (js Y (js Y (jn))))
 refine aO (tB (decide ((Q2 g f)∧(YY f f.size=0)))) Y (nt (rt (vb (b':=(decide ((Q2 g f)∧(YY f f.size=0)))) Y ?_)))
 refine Zd ?_;rw [QlU];exact Iff.rfl
noncomputable section
def QcF (p:D.Puzzle):Prop:=Z8 p.Grid=0∧p.Clues.length=(Qa p.Grid).length∧p.Seals.length=(Qa p.Grid).length∧(1≤p.Salt∧p.Salt≤9999)∧∀c∈p.Clues,okC c
instance (p:D.Puzzle):Decidable (QcF p):=Classical.propDecidable _
def noC (c:D.Clue):Prop:=¬okC c
instance (c:D.Clue):Decidable (noC c):=Classical.propDecidable _
end
theorem QcO (n:Nat) (c:D.Clue) (hz:QO c≤mx):Pure (Qr Tryz.prog (n+5)) 58 [(T.agg (Qe false c))] (tB (decide (noC c))):=by
 refine Pure.intro (rs:= [ResultVar.tmp 2]) Tryz.func58 Y Y Y (E0:= [(0,(T.agg (Qe false c)))]) Y ?_
 obtain ⟨hlim,hmx,hmax⟩:=QE
 refine sr (kO (B.box (ts:=(Qe false c)) (tv (T.agg (Qe false c)) Y) nofun Y) (fO (OF.assign (VEv.bool false)) (nt (sr (lO (OL.loadOn (us:=(Qe false c)) (tv (T.op 0 0) Y) Y QdW Jj (lb Y) Y) (cO (cS (vc (tv (T.agg (Qe false c)) Y) vn) (LendL.cons (lg okeClue) ln) (QbL (n+0) c (by assumption)) Y Y) (fO (Q8 (tv (tB (decide ((1≤c.Sense∧c.Sense≤99)∧QT c.Play))) Y)) (aO (tB (!(decide ((1≤c.Sense∧c.Sense≤99)∧QT c.Play)))) Y (nt (rt (vb (b':=(!(decide ((1≤c.Sense∧c.Sense≤99)∧QT c.Play)))) Y ?_)))))))))))
 rw [dN];exact Zd Iff.rfl
theorem ZE (n:Nat) (l:List D.Clue) (hz:zL QO l≤mx):Pure (Qr Tryz.prog (n+6)) 83 [(rd 2 Qe l),(T.fn 58 [])] (tI (ixF noC l)):=by
 refine Pure.intro (rs:= [ResultVar.tmp 4]) Tryz.func83 Y Y Y (E0:= [(0,(rd 2 Qe l)),(1,(T.fn 58 []))]) Y ?_
 obtain ⟨hlim,hmx,hmax⟩:=QE
 have hl:=Zb (z:=QO) l
 refine sr (fO (OF.assign (VEv.int .i64 0)) (nt (sq (sr (mO (rd 2 Qe l) Y (lO (B.lenR (m:=l.length) (tv (rd 2 Qe l) Y) U34 (List.length_map ..)) (fO (OF.move (VEv.int .i64 0)) (nt (VRun.block ?_)))))))))
 refine VRun.loop (A:=Nat) (fun s_=> [(0,(rd 2 Qe l)),(1,(T.fn 58 [])),(7,(tN l.length)),(8,(tN s_))]) (fun s_=>Q5 []) 0 (fun s_=>NoneTo noC l s_) (fun s_=>l.length - s_) (0:Nat) ?_ (Wk.mk (fun k=>k) ?_ ?_ ?_) ?_
 ·exact NoneTo.start _ _
 ·exact (b2 (b2 (b2 (b2 bn))))
 ·exact bn
 ·exact nd Y
 rintro i (hI':NoneTo noC l i)
 show VRun _ _ _ [(0,(rd 2 Qe l)),(1,(T.fn 58 [])),(7,(tN l.length)),(8,(tN i))] (Q5 []) 0 _
 have hI1:=hI'.1
 refine sr (fO (Zg (tv (tN i) Y) (tv (tN l.length) Y)) (nt (sq ?_)))
 refine cd (i<l.length) Y (fun fhc0=> ?_) fun fhc0=> ?_
 ·refine sk ?_
  refine tn (sq (VRun.block (sr (mO (tN i) Y (aO (tN i) Y (nt (sr (mO (T.fn 58 []) Y (mO (rd 2 Qe l) Y (mO (tN i) Y ?_))))))))))
  obtain ⟨x1,hx1⟩:∃x,l[i]? =some x:=⟨_,List.getElem?_eq_getElem (by omega)⟩
  refine fO (OF.indexAddrR (row:=(Qe false x1)) (i:=i) (tv (rd 2 Qe l) Y) (tv (tN i) Y) Y (Qt _ hx1) U34 Jj Qd1) (lO (OL.loadRn (us:=(Qe false x1)) (tv (T.rp (Qe false x1)) Y) QdW Jj (lb Y) Y) (cO (OC.callv (us:= [(T.agg (Qe false x1))]) (ucaps:= []) (r:=(tB (decide (noC x1)))) (r':=(tB (decide (noC x1)))) (objs:= []) Y Y (vc (tv (T.agg (Qe false x1)) Y) vn) (LendL.cons (lg okeClue) ln) ln (QcO (n+0) x1 (by exact Nat.le_trans (QdD hx1) hz)) Y) (nt ?_)))
  refine cd (noC x1) Y (fun fhc1=> ?_) fun fhc1=> ?_
  ·refine sr ?_
   refine mO (tN i) Y (aO (tN i) Y (nt (rt (vinB.r (tr (tr (vinB.r (tr (vi (n':=((i:Nat):Int)) Y ?_)))))))))
   exact (Qdm hx1 fhc1 hI'.2).symm
  refine sk (vinB.n (tn (VRun.region (fO (QB (tv (tN i) Y) (VEv.int .i64 1) (by omega)) (mO (tN (i+1)) Y (VRunO.nil (tn ?_)))))))
  refine ⟨(i+1:Nat),?_,?_,Wk.mk (fun k=>k) ?_ ?_ ?_⟩
  ·exact hI'.next hx1 fhc1
  ·omega
  ·exact (b2 (b2 (b2 (b2 bn))))
  ·exact bn
  ·exact nd Y
 refine VRun.exit (vthn.e (vthn.e (vinB.e (tn (sr (fO (OF.assign (VEv.int .i64 (-1))) (nt (rt (vi (n':=(-1)) Y ?_)))))))))
 exact (Qfi (hI'.all fhc0)).symm
theorem Zv (n:Nat) (l:List D.Clue) (hz:zL QO l≤mx):Pure (Qr Tryz.prog (n+7)) 57 [(rd 2 Qe l),(T.fn 58 [])] (tB (decide (∃c∈l,noC c))):=by
 refine Pure.intro (rs:= [ResultVar.tmp 4]) Tryz.func57 Y Y Y (E0:= [(0,(rd 2 Qe l)),(1,(T.fn 58 []))]) Y ?_
 obtain ⟨hlim,hmx,hmax⟩:=QE
 refine sr (fO (OF.assign (VEv.bool false)) (nt (sr (mO (rd 2 Qe l) Y (mO (T.fn 58 []) Y (cO (cS (us:= [(rd 2 Qe l),(T.fn 58 [])]) (vc (tv (rd 2 Qe l) Y) (vc (tv (T.fn 58 []) Y) vn)) (lp Y (LendL.cons (Lend.fn ln) ln)) (ZE (n+0) l (by assumption)) Y Y) (fO (xge (tv (tI (ixF noC l)) Y) (VEv.int .i64 0)) (aO (tB (decide (0≤ixF noC l))) Y (nt (rt (vb (b':=(decide (0≤ixF noC l))) Y ?_)))))))))))
 refine Zd ?_;exact QiA
theorem QdZ (n:Nat) (a:D.Puzzle) (hz:QP a≤mx):Pure (Qr Tryz.prog (n+10)) 29 [(T.agg (QD false a))] (tB (decide (QcF a))):=by
 refine Pure.intro (rs:= [ResultVar.tmp 2]) Tryz.func29 Y Y Y (E0:= [(0,(T.agg (QD false a)))]) Y ?_
 obtain ⟨hlim,hmx,hmax⟩:=QE
 simp only [QP,ZN] at hz
 have hl:=Zb (z:=QO) a.Clues
 have hl2:=Zb (z:=zI) a.Seals
 refine sr (kO (B.box (ts:=(QD false a)) (tv (T.agg (QD false a)) Y) nofun Y) (fO (OF.assign (VEv.bool false)) (nt (sq (sr (fO (OF.assign (VEv.int .i64 0)) (nt (VRun.block ?_))))))))
 refine VRun.loop (A:=Nat) (fun s_=> [(1,(T.op 0 0)),(3,(tN s_))]) (fun s_=>Q5 [(0,(Obj.cells (QD false a)))]) 1 (fun s_=>NoneTo noC a.Clues s_) (fun s_=>a.Clues.length - s_) (0:Nat) ?_ (Wk.mk (fun k=>k) ?_ ?_ ?_) ?_
 ·exact NoneTo.start _ _
 ·exact (b2 (b2 bn))
 ·exact (b3 bn)
 ·exact nd Y
 rintro i (hI':NoneTo noC a.Clues i)
 show VRun _ _ _ [(1,(T.op 0 0)),(3,(tN i))] (Q5 [(0,(Obj.cells (QD false a)))]) 1 _
 have hI1:=hI'.1
 refine sq (sr (mO (tN i) Y (lf (rd 2 Qe a.Clues) Y Y9 Y Y Qee (lO (B.lenR (m:=a.Clues.length) (tv (rd 2 Qe a.Clues) Y) U34 (List.length_map ..)) (fO (Zg (tv (tN i) Y) (tv (tN a.Clues.length) Y)) (nt ?_))))))
 refine cd (i<a.Clues.length) Y (fun fhc0=> ?_) fun fhc0=> ?_
 ·refine sk ?_
  refine tn (sq (VRun.block (sr (lf (rd 2 Qe a.Clues) Y Y9 Y Y Qee (mO (tN i) Y ?_)))))
  obtain ⟨x1,hx1⟩:∃x,a.Clues[i]? =some x:=⟨_,List.getElem?_eq_getElem (by omega)⟩
  refine fO (OF.indexAddrR (row:=(Qe false x1)) (i:=i) (tv (rd 2 Qe a.Clues) Y) (tv (tN i) Y) Y (Qt _ hx1) U34 Jj Qd1) (lO (OL.loadRn (us:=(Qe false x1)) (tv (T.rp (Qe false x1)) Y) QdW Jj (lb Y) Y) (cO (cS (vc (tv (T.agg (Qe false x1)) Y) vn) (LendL.cons (lg okeClue) ln) (QbR (n+4) x1 (by exact Nat.le_trans (QdD hx1) (by omega))) Y Y) (fO (Q8 (tv (tB (decide ((1≤x1.Sense∧x1.Sense≤99)∧QT x1.Play))) Y)) (nt ?_))))
  refine cn ((1≤x1.Sense∧x1.Sense≤99)∧QT x1.Play) Y (fun fhc1=> ?_) fun fhc1=> ?_
  ·refine sr ?_
   refine fO (OF.assign (VEv.bool false)) (nt (rt (vinB.r (tr (tr (vinB.r (tr (vb (b':=false) Y ?_))))))))
   symm;rw [decide_eq_false_iff_not];rintro ⟨_,_,_,_,h⟩;exact fhc1 (h x1 (List.mem_of_getElem? hx1))
  refine sk (vinB.n (tn (VRun.region (mO (tN i) Y (fO (QB (tv (tN i) Y) (VEv.int .i64 1) (by omega)) (aO (tN (i+1)) Y (VRunO.nil (tn ?_))))))))
  refine ⟨(i+1:Nat),?_,?_,Wk.mk (fun k=>k) ?_ ?_ ?_⟩
  ·exact hI'.next hx1 (fun h=>h fhc1)
  ·omega
  ·exact (b2 (b2 bn))
  ·exact (b3 bn)
  ·exact nd Y
 refine VRun.exit (vthn.e (vthn.e (vinB.e (tn (sr (fO (OF.fieldAddrO (tv (T.op 0 0) Y) JM) (lO (OL.loadOn (us:=(Qb false a.Grid)) (tv (T.op 0 0) Y) Y Q3 QY (lb Y) Y) (cO (OC.callF (r':=(T.os 4 1 0 (((Qa a.Grid).map (Qi true)).length))) (objs:= [(Obj.rows 4 ((Qa a.Grid).map (Qi true)))]) Y (vc (tv (T.agg (Qb false a.Grid)) Y) vn) (LendL.cons (lg Qs) ln) (Zw (n+6) a.Grid (by omega)) Y) (lO (B.lenO (m:=(Qa a.Grid).length) (tv (T.os 4 1 0 (((Qa a.Grid).map (Qi true)).length)) Y) U81 (List.length_map ..)) (aO (tN ((Qa a.Grid).length)) Y (nt ?_)))))))))))
 refine sr (fO (OF.fieldAddrO (tv (T.op 0 0) Y) JM) (lO (OL.loadOn (us:=(Qb false a.Grid)) (tv (T.op 0 0) Y) Y Q3 QY (lb Y) Y) (cO (cS (vc (tv (T.agg (Qb false a.Grid)) Y) vn) (LendL.cons (lg Qs) ln) (QfK (n+0) a.Grid (by omega)) Y Y) (fO (YD (tv (tI (Z8 a.Grid)) Y) (VEv.int .i64 0)) (mO (tB (decide (Z8 a.Grid=0))) Y ?_)))))
 refine VRunO.joinB 6 [28,29,30,31,32] 33 (tB (decide ((Z8 a.Grid=0)∧(a.Clues.length=(Qa a.Grid).length)))) ?_ ?_
 ·refine gw (Z8 a.Grid=0) (fun fhg27_1=> ?_) fun fhg27_1=> ?_
  ·refine Yl (rd 2 Qe a.Clues) (dy fhg27_1) Y Y Y Y Y9 Y Y Qee ?_
   refine gL (dy fhg27_1) Y Y (B.lenR (m:=a.Clues.length) (tv (rd 2 Qe a.Clues) Y) U34 (List.length_map ..)) (gF (dy fhg27_1) Y Y (OF.move (tv (tN ((Qa a.Grid).length)) Y)) (gF (dy fhg27_1) Y Y (Qjp (tv (tN a.Clues.length) Y) (tv (tN ((Qa a.Grid).length)) Y)) (fO (OF.pickT (VEv.tmpB Y (dy fhg27_1)) (tv (tB (decide (a.Clues.length=(Qa a.Grid).length))) Y)) (VRunO.nil ?_))))
   exact jq (congrArg T.bool (kAT fhg27_1 Y)) (js Y (js Y (js Y (js Y (js Y (jn))))))
  ·refine QA 5 4 true 27 (dz fhg27_1) Y Y Y ?_
   refine fO (OF.pickF (VEv.tmpB Y (dz fhg27_1)) (VEv.bool false)) (VRunO.nil ?_)
   exact jq (congrArg T.bool (kAF fhg27_1)) (js Y (js Y (js Y (js Y (js Y (jn))))))
 refine mO (tB (decide ((Z8 a.Grid=0)∧(a.Clues.length=(Qa a.Grid).length)))) Y ?_
 refine VRunO.joinB 6 [35,36,37,38,39] 40 (tB (decide (((Z8 a.Grid=0)∧(a.Clues.length=(Qa a.Grid).length))∧(a.Seals.length=(Qa a.Grid).length)))) ?_ ?_
 ·refine gw ((Z8 a.Grid=0)∧(a.Clues.length=(Qa a.Grid).length)) (fun fhg34_2=> ?_) fun fhg34_2=> ?_
  ·refine Yl (rd 1 Qc a.Seals) (dy fhg34_2) Y Y Y Y QaM Y Y QcB ?_
   refine gL (dy fhg34_2) Y Y (B.lenR (m:=a.Seals.length) (tv (rd 1 Qc a.Seals) Y) ZA (List.length_map ..)) (gF (dy fhg34_2) Y Y (OF.move (tv (tN ((Qa a.Grid).length)) Y)) (gF (dy fhg34_2) Y Y (Qjp (tv (tN a.Seals.length) Y) (tv (tN ((Qa a.Grid).length)) Y)) (fO (OF.pickT (VEv.tmpB Y (dy fhg34_2)) (tv (tB (decide (a.Seals.length=(Qa a.Grid).length))) Y)) (VRunO.nil ?_))))
   exact jq (congrArg T.bool (kAT fhg34_2 Y)) (js Y (js Y (js Y (js Y (js Y (jn))))))
  ·refine QA 5 11 true 34 (dz fhg34_2) Y Y Y ?_
   refine fO (OF.pickF (VEv.tmpB Y (dz fhg34_2)) (VEv.bool false)) (VRunO.nil ?_)
   exact jq (congrArg T.bool (kAF fhg34_2)) (js Y (js Y (js Y (js Y (js Y (jn))))))
 refine mO (tB (decide (((Z8 a.Grid=0)∧(a.Clues.length=(Qa a.Grid).length))∧(a.Seals.length=(Qa a.Grid).length)))) Y ?_
 refine VRunO.joinB 4 [42,43,44] 45 (tB (decide ((((Z8 a.Grid=0)∧(a.Clues.length=(Qa a.Grid).length))∧(a.Seals.length=(Qa a.Grid).length))∧(1≤a.Salt∧a.Salt≤9999)))) ?_ ?_
 ·refine gw (((Z8 a.Grid=0)∧(a.Clues.length=(Qa a.Grid).length))∧(a.Seals.length=(Qa a.Grid).length)) (fun fhg41_3=> ?_) fun fhg41_3=> ?_
  ·refine Yl (tI a.Salt) (dy fhg41_3) Y Y Y Y Qcc Y Y QX ?_
   refine VRunO.chain (VWant.on Y Y (dy fhg41_3)) (cS (vc (tv (tI a.Salt) Y) (vc (VEv.int .i64 1) (vc (VEv.int .i64 9999) vn))) (ZH Y) (QZ (n+8) a.Salt 1 9999) Y Y) (fO (OF.pickT (VEv.tmpB Y (dy fhg41_3)) (tv (tB (decide (1≤a.Salt∧a.Salt≤9999))) Y)) (VRunO.nil ?_))
   exact jq (congrArg T.bool (kAT fhg41_3 Y)) (js Y (js Y (js Y (jn))))
  ·refine QA 3 18 true 41 (dz fhg41_3) Y Y Y ?_
   refine fO (OF.pickF (VEv.tmpB Y (dz fhg41_3)) (VEv.bool false)) (VRunO.nil ?_)
   exact jq (congrArg T.bool (kAF fhg41_3)) (js Y (js Y (js Y (jn))))
 refine aO (tB (decide ((((Z8 a.Grid=0)∧(a.Clues.length=(Qa a.Grid).length))∧(a.Seals.length=(Qa a.Grid).length))∧(1≤a.Salt∧a.Salt≤9999)))) Y (nt (rt (vb (b':=(decide ((((Z8 a.Grid=0)∧(a.Clues.length=(Qa a.Grid).length))∧(a.Seals.length=(Qa a.Grid).length))∧(1≤a.Salt∧a.Salt≤9999)))) Y ?_)))
 refine Zd ⟨fun h=>⟨h.1.1.1,h.1.1.2,h.1.2,h.2,fun c hc=>Classical.byContradiction fun e=>hI'.mem fhc0 c hc e⟩,fun h=>⟨⟨⟨h.1,h.2.1⟩,h.2.2.1⟩,h.2.2.2.1⟩⟩
theorem QdX (n:Nat) (a:D.Puzzle) (hz:QP a≤mx):Pure (Qr Tryz.prog (n+42)) 35 [(T.agg (QD false a))] (tB (decide (QcF a))):=by
 refine Pure.intro (rs:= [ResultVar.tmp 2]) Tryz.func35 Y Y Y (E0:= [(0,(T.agg (QD false a)))]) Y ?_
 obtain ⟨hlim,hmx,hmax⟩:=QE
 simp only [QP,ZN] at hz
 have hl:=Zb (z:=QO) a.Clues
 have hl2:=Zb (z:=zI) a.Seals
 refine sr (kO (B.box (ts:=(QD false a)) (tv (T.agg (QD false a)) Y) nofun Y) (fO (OF.assign (VEv.bool false)) (nt (sq (sr (fO (OF.fieldAddrO (tv (T.op 0 0) Y) JM) (lO (OL.loadOn (us:=(Qb false a.Grid)) (tv (T.op 0 0) Y) Y Q3 QY (lb Y) Y) (cO (cS (vc (tv (T.agg (Qb false a.Grid)) Y) vn) (LendL.cons (lg Qs) ln) (QfM (n+0) a.Grid (by omega)) Y Y) (fO (xne (tv (tI (Z8 a.Grid)) Y) (VEv.int .i64 0)) (nt ?_))))))))))
 refine cn (Z8 a.Grid=0) Y (fun fhc0=> ?_) fun fhc0=> ?_
 ·refine sr ?_
  refine fO (OF.assign (VEv.bool false)) (nt (rt (tr (vb (b':=false) Y ?_))))
  symm;rw [decide_eq_false_iff_not];intro h;exact fhc0 h.1
 refine sk (tn (sr (fO (OF.fieldAddrO (tv (T.op 0 0) Y) JM) (lO (OL.loadOn (us:=(Qb false a.Grid)) (tv (T.op 0 0) Y) Y Q3 QY (lb Y) Y) (cO (OC.callF (r':=(T.os 4 1 0 (((Qa a.Grid).map (Qi true)).length))) (objs:= [(Obj.rows 4 ((Qa a.Grid).map (Qi true)))]) Y (vc (tv (T.agg (Qb false a.Grid)) Y) vn) (LendL.cons (lg Qs) ln) (JR (n+38) a.Grid (by omega)) Y) (lO (B.lenO (m:=(Qa a.Grid).length) (tv (T.os 4 1 0 (((Qa a.Grid).map (Qi true)).length)) Y) U81 (List.length_map ..)) (aO (tN ((Qa a.Grid).length)) Y (nt (sr (lf (rd 2 Qe a.Clues) Y Y9 Y Y Qee (lO (B.lenR (m:=a.Clues.length) (tv (rd 2 Qe a.Clues) Y) U34 (List.length_map ..)) ?_)))))))))))
 refine mO (tN ((Qa a.Grid).length)) Y (fO (Qjp (tv (tN a.Clues.length) Y) (tv (tN ((Qa a.Grid).length)) Y)) (mO (tB (decide (a.Clues.length=(Qa a.Grid).length))) Y ?_))
 refine gw (a.Clues.length=(Qa a.Grid).length) (fun fhg17_1=> ?_) fun fhg17_1=> ?_
 ·refine Yl (rd 1 Qc a.Seals) (dy fhg17_1) Y Y Y Y QaM Y Y QcB ?_
  refine gL (dy fhg17_1) Y Y (B.lenR (m:=a.Seals.length) (tv (rd 1 Qc a.Seals) Y) ZA (List.length_map ..)) (gF (dy fhg17_1) Y Y (OF.move (tv (tN ((Qa a.Grid).length)) Y)) (gF (dy fhg17_1) Y Y (Qjp (tv (tN a.Seals.length) Y) (tv (tN ((Qa a.Grid).length)) Y)) (fO (OF.pickT (VEv.tmpB Y (dy fhg17_1)) (tv (tB (decide (a.Seals.length=(Qa a.Grid).length))) Y)) (mO (tB (decide (a.Seals.length=(Qa a.Grid).length))) Y ?_))))
  refine gw (a.Seals.length=(Qa a.Grid).length) (fun fhg24_2=> ?_) fun fhg24_2=> ?_
  ·refine Yl (tI a.Salt) (dy fhg24_2) Y Y Y Y Qcc Y Y QX ?_
   refine VRunO.chain (VWant.on Y Y (dy fhg24_2)) (cS (vc (tv (tI a.Salt) Y) (vc (VEv.int .i64 1) (vc (VEv.int .i64 9999) vn))) (ZH Y) (Zn (n+40) a.Salt 1 9999) Y Y) (fO (OF.pickT (VEv.tmpB Y (dy fhg24_2)) (tv (tB (decide (1≤a.Salt∧a.Salt≤9999))) Y)) (mO (tB (decide (1≤a.Salt∧a.Salt≤9999))) Y ?_))
   refine gw (1≤a.Salt∧a.Salt≤9999) (fun fhg29_3=> ?_) fun fhg29_3=> ?_
   ·refine Yl (rd 2 Qe a.Clues) (dy fhg29_3) Y Y Y Y Y9 Y Y Qee ?_
    refine VRunO.chain (VWant.on Y Y (dy fhg29_3)) (cS (us:= [(rd 2 Qe a.Clues),(T.fn 58 [])]) (vc (tv (rd 2 Qe a.Clues) Y) (vc (VEv.func 58) vn)) (lp Y (LendL.cons (Lend.fn ln) ln)) (Zv (n+34) a.Clues (by omega)) Y Y) (gF (dy fhg29_3) Y Y (Q8 (tv (tB (decide (∃c∈a.Clues,noC c))) Y)) (fO (OF.pickT (VEv.tmpB Y (dy fhg29_3)) (tv (tB (!(decide (∃c∈a.Clues,noC c)))) Y)) (aO (tB (!(decide (∃c∈a.Clues,noC c)))) Y (nt (rt (vb (b':=(!(decide (∃c∈a.Clues,noC c)))) Y ?_))))))
    (rw [dN];refine Zd ⟨fun h=>⟨?_,?_,?_,?_,fun c hc=>Classical.byContradiction fun e=>h ⟨c,hc,e⟩⟩,fun h=> ?_⟩<;>first | assumption | (rintro ⟨c,hc,hb⟩;exact hb (h.2.2.2.2 c hc)))
   refine QA 4 17 true 29 (dz fhg29_3) Y Y Y (fO (OF.pickF (VEv.tmpB Y (dz fhg29_3)) (VEv.bool false)) (aO (tB false) Y (nt (rt (vb (b':=false) Y ?_)))))
   (symm;rw [decide_eq_false_iff_not];rintro ⟨h1,h2,h3,h4,h5⟩;contradiction)
  refine QA 3 12 true 24 (dz fhg24_2) Y Y Y (fO (OF.pickF (VEv.tmpB Y (dz fhg24_2)) (VEv.bool false)) (mO (tB false) Y (QA 4 17 true 29 (b:=false) Y Y Y Y (fO (OF.pickF (tv (tB false) Y) (VEv.bool false)) (aO (tB false) Y (nt (rt (vb (b':=false) Y ?_))))))))
  (symm;rw [decide_eq_false_iff_not];rintro ⟨h1,h2,h3,h4,h5⟩;contradiction)
 refine QA 5 5 true 17 (dz fhg17_1) Y Y Y (fO (OF.pickF (VEv.tmpB Y (dz fhg17_1)) (VEv.bool false)) (mO (tB false) Y (QA 3 12 true 24 (b:=false) Y Y Y Y (fO (OF.pickF (tv (tB false) Y) (VEv.bool false)) (mO (tB false) Y (QA 4 17 true 29 (b:=false) Y Y Y Y (fO (OF.pickF (tv (tB false) Y) (VEv.bool false)) (aO (tB false) Y (nt (rt (vb (b':=false) Y ?_)))))))))))
 (symm;rw [decide_eq_false_iff_not];rintro ⟨h1,h2,h3,h4,h5⟩;contradiction)
noncomputable section
def QU (p:D.Puzzle) (f:ByteArray):Prop:=QcF p∧J8 p.Grid f∧(ZM p.Grid f p.Seals p.Salt).length=p.Clues.length
instance (p:D.Puzzle) (f:ByteArray):Decidable (QU p f):=Classical.propDecidable _
end
theorem Qd2 (n:Nat) (a:D.Puzzle) (f:ByteArray) (hz:QP a≤mx) (hf:f.size≤maxLen):Pure (Qr Tryz.prog (n+11)) 64 [(T.agg (QD false a)),(tS f)] (tB (decide (QU a f))):=by
 refine Pure.intro (rs:= [ResultVar.tmp 4]) Tryz.func64 Y Y Y (E0:= [(0,(T.agg (QD false a))),(1,(tS f))]) Y ?_
 obtain ⟨hlim,hmx,hmax⟩:=QE
 have hz2:=hz
 simp only [QP,ZN] at hz2
 have hl:=Zb (z:=QO) a.Clues
 have hl2:=Zb (z:=zI) a.Seals
 have hrl:=QeK a.Grid f a.Seals a.Salt
 refine sr (kO (B.box (ts:=(QD false a)) (tv (T.agg (QD false a)) Y) nofun Y) (fO (OF.assign (VEv.bool false)) (nt (sq (VRun.draw (B:= [[],[0],[0,1],[1,0,2],[2,0,1,3],[1,0,2],[5,3,1,0,2,4],[4,3,5,6,1,0,2],[2,0,1,6,5,3,4,7],[7,4,3,5,6,1,0,2,8],[8,2,0,1,6,5,3,4,7,9],[7,4,3,5,6,1,0,2,8],[7,4,3,5,6,1,0,2,8],[8,2,0,1,6,5,3,4,7,12],[7,4,3,5,6,1,0,2,8],[8,2,0,1,6,5,3,4,7,14],[14,15,12,13,11,9,7,4,3,5,6,1,0,2,8,10],[10,8,2,0,1,6,5,3,4,7,9,11,13,12,15,14,16],[7,4,3,5,6,1,0,2,8],[8,2,0,1,6,5,3,4,7,18],[18,7,4,3,5,6,1,0,2,8,19],[19,18,20,16,14,15,12,13,11,9,7,4,3,5,6,1,0,2,8,10,17],[17,10,9,11,13,12,15,14,16,20,18,19,21,7,4,3,5,6,1,0,2,8],[8,2,0,1,6,5,3,4,7,21,19,18,20,16,14,15,12,13,11,9,10,17,22]]) (by kernel_rfl) (by kernel_rfl) (lD (OL.loadOn (us:=(QD false a)) (tv (T.op 0 0) Y) Y QgP Qd5 (lb Y) Y) Y Y (VRunD.quiet (bi:= [0]) Y VWant.always Y Y Y bn (cS (vc (tv (T.agg (QD false a)) Y) vn) (LendL.cons (lg YI) ln) (QdZ (n+0) a (by assumption)) Y Y) (mD (tB (decide (QcF a))) Y Y ?_))))))))
 refine gw (QcF a) (fun fhg7_1=> ?_) fun fhg7_1=> ?_
 ·refine VRunD.free Y (VWant.on Y Y (dy fhg7_1)) Y (OF.fieldAddrO (tv (T.op 0 0) Y) JM) ?_
  refine VRunD.look Y (VWant.on Y Y (dy fhg7_1)) Y (OL.loadOn (us:=(Qb false a.Grid)) (tv (T.op 0 0) Y) Y Q3 QY (lb Y) Y) (VRunD.free Y (VWant.on Y Y (dy fhg7_1)) Y (OF.move (tv (tS f) Y)) (VRunD.quiet (bi:= [5,3,1,0,2,4]) Y (VWant.on Y Y (dy fhg7_1)) Y Y Y bn (cS (vc (tv (T.agg (Qb false a.Grid)) Y) (vc (tv (tS f) Y) vn)) (LendL.cons (lg Qs) (lp Y ln)) (QfN (n+6) a.Grid f (by omega) (by assumption)) Y Y) (fD (OF.pickT (VEv.tmpB Y (dy fhg7_1)) (tv (tB (decide (J8 a.Grid f))) Y)) Y Y (mD (tB (decide (J8 a.Grid f))) Y Y ?_))))
  refine gw (J8 a.Grid f) (fun fhg13_2=> ?_) fun fhg13_2=> ?_
  ·refine VRunD.free Y (VWant.on Y Y (dy fhg13_2)) Y (OF.fieldAddrO (tv (T.op 0 0) Y) JM) ?_
   refine VRunD.look Y (VWant.on Y Y (dy fhg13_2)) Y (OL.loadOn (us:=(Qb false a.Grid)) (tv (T.op 0 0) Y) Y Q3 QY (lb Y) Y) (VRunD.free Y (VWant.on Y Y (dy fhg13_2)) Y (OF.move (tv (tS f) Y)) (VRunD.free Y (VWant.on Y Y (dy fhg13_2)) Y (OF.fieldAddrO (tv (T.op 0 0) Y) QaM) (VRunD.look Y (VWant.on Y Y (dy fhg13_2)) Y (OL.loadO1 (t:=(rd 1 Qc a.Seals)) (tv (T.op 0 4) Y) Y Y QcB) (VRunD.free Y (VWant.on Y Y (dy fhg13_2)) Y (OF.fieldAddrO (tv (T.op 0 0) Y) Qcc) (VRunD.look Y (VWant.on Y Y (dy fhg13_2)) Y (OL.loadO1 (t:=(tI a.Salt)) (tv (T.op 0 5) Y) Y Y QX) (VRunD.quiet (bi:= [14,15,12,13,11,9,7,4,3,5,6,1,0,2,8,10]) Y (VWant.on Y Y (dy fhg13_2)) Y Y Y bn (OC.callF (r':=(T.os 1 1 0 (((ZM a.Grid f a.Seals a.Salt).map (Qc true)).length))) (objs:= [(Obj.rows 1 ((ZM a.Grid f a.Seals a.Salt).map (Qc true)))]) Y (vc (tv (T.agg (Qb false a.Grid)) Y) (vc (tv (tS f) Y) (vc (tv (rd 1 Qc a.Seals) Y) (vc (tv (tI a.Salt) Y) vn)))) (LendL.cons (lg Qs) (lp Y (lp Y (lp Y ln)))) (QcJ (n+4) a.Grid f a.Seals a.Salt (by omega) (by assumption) (by omega)) Y) (VRunD.look Y (VWant.on Y Y (dy fhg13_2)) Y (B.lenO (m:=(ZM a.Grid f a.Seals a.Salt).length) (tv (T.os 1 1 0 (((ZM a.Grid f a.Seals a.Salt).map (Qc true)).length)) Y) ZA (List.length_map ..)) (VRunD.free Y (VWant.on Y Y (dy fhg13_2)) Y (OF.fieldAddrO (tv (T.op 0 0) Y) Y9) (VRunD.look Y (VWant.on Y Y (dy fhg13_2)) Y (OL.loadO1 (t:=(rd 2 Qe a.Clues)) (tv (T.op 0 3) Y) Y Y Qee) (VRunD.look Y (VWant.on Y Y (dy fhg13_2)) Y (B.lenR (m:=a.Clues.length) (tv (rd 2 Qe a.Clues) Y) U34 (List.length_map ..)) (VRunD.free Y (VWant.on Y Y (dy fhg13_2)) Y (Qjp (tv (tN ((ZM a.Grid f a.Seals a.Salt).length)) Y) (tv (tN a.Clues.length) Y)) ?_)))))))))))
   refine fD (OF.pickT (VEv.tmpB Y (dy fhg13_2)) (tv (tB (decide ((ZM a.Grid f a.Seals a.Salt).length=a.Clues.length))) Y)) Y Y (fD (OF.assign (tv (tB (decide ((ZM a.Grid f a.Seals a.Salt).length=a.Clues.length))) Y)) Y Y (VRunD.nil (tn (rt (vb (b':=(decide ((ZM a.Grid f a.Seals a.Salt).length=a.Clues.length))) Y ?_)))))
   (refine Zd ⟨fun h=>⟨?_,?_,h⟩,fun h=>h.2.2⟩<;>assumption)
  refine oD Y Y (dz fhg13_2) Y (oD Y Y (dz fhg13_2) Y (oD Y Y (dz fhg13_2) Y (oD Y Y (dz fhg13_2) Y (oD Y Y (dz fhg13_2) Y (oD Y Y (dz fhg13_2) Y (oD Y Y (dz fhg13_2) Y (oD Y Y (dz fhg13_2) Y (oD Y Y (dz fhg13_2) Y (oD Y Y (dz fhg13_2) Y (oD Y Y (dz fhg13_2) Y (oD Y Y (dz fhg13_2) Y ?_)))))))))))
  refine oD Y Y (dz fhg13_2) Y (fD (OF.pickF (VEv.tmpB Y (dz fhg13_2)) (VEv.bool false)) Y Y (fD (OF.assign (tv (tB false) Y)) Y Y (VRunD.nil (tn (rt (vb (b':=false) Y ?_))))))
  (symm;rw [decide_eq_false_iff_not];rintro ⟨h1,h2,h3⟩;contradiction)
 refine oD Y Y (dz fhg7_1) Y (oD Y Y (dz fhg7_1) Y (oD Y Y (dz fhg7_1) Y (oD Y Y (dz fhg7_1) Y (fD (OF.pickF (VEv.tmpB Y (dz fhg7_1)) (VEv.bool false)) Y Y (mD (tB false) Y Y (VRunD.off Y (VWant.not (b:=false) Y Y Y) (VRunD.off Y (VWant.not (b:=false) Y Y Y) (VRunD.off Y (VWant.not (b:=false) Y Y Y) (VRunD.off Y (VWant.not (b:=false) Y Y Y) (VRunD.off Y (VWant.not (b:=false) Y Y Y) (VRunD.off Y (VWant.not (b:=false) Y Y Y) ?_)))))))))))
 refine VRunD.off Y (VWant.not (b:=false) Y Y Y) (VRunD.off Y (VWant.not (b:=false) Y Y Y) (VRunD.off Y (VWant.not (b:=false) Y Y Y) (VRunD.off Y (VWant.not (b:=false) Y Y Y) (VRunD.off Y (VWant.not (b:=false) Y Y Y) (VRunD.off Y (VWant.not (b:=false) Y Y Y) (VRunD.off Y (VWant.not (b:=false) Y Y Y) (fD (OF.pickF (tv (tB false) Y) (VEv.bool false)) Y Y (fD (OF.assign (tv (tB false) Y)) Y Y (VRunD.nil (tn (rt ?_)))))))))))
 refine vb (b':=false) Y ?_
 (symm;rw [decide_eq_false_iff_not];rintro ⟨h1,h2,h3⟩;contradiction)
theorem QdY (n:Nat) (a:D.Puzzle) (f:ByteArray) (hz:QP a≤mx) (hf:f.size≤maxLen):Pure (Qr Tryz.prog (n+43)) 65 [(T.agg (QD false a)),(tS f)] (tB (decide (QU a f))):=by
 refine Pure.intro (rs:= [ResultVar.tmp 4]) Tryz.func65 Y Y Y (E0:= [(0,(T.agg (QD false a))),(1,(tS f))]) Y ?_
 obtain ⟨hlim,hmx,hmax⟩:=QE
 have hz2:=hz
 simp only [QP,ZN] at hz2
 have hl:=Zb (z:=QO) a.Clues
 have hl2:=Zb (z:=zI) a.Seals
 have hrl:=QeK a.Grid f a.Seals a.Salt
 refine sr (kO (B.box (ts:=(QD false a)) (tv (T.agg (QD false a)) Y) nofun Y) (fO (OF.assign (VEv.bool false)) (nt (sq (VRun.draw (B:= [[],[0],[0,1],[1,0,2],[2,0,1,3],[1,0,2],[5,3,1,0,2,4],[4,3,5,6,1,0,2],[2,0,1,6,5,3,4,7],[7,4,3,5,6,1,0,2,8],[8,2,0,1,6,5,3,4,7,9],[7,4,3,5,6,1,0,2,8],[7,4,3,5,6,1,0,2,8],[8,2,0,1,6,5,3,4,7,12],[7,4,3,5,6,1,0,2,8],[8,2,0,1,6,5,3,4,7,14],[14,15,12,13,11,9,7,4,3,5,6,1,0,2,8,10],[10,8,2,0,1,6,5,3,4,7,9,11,13,12,15,14,16],[7,4,3,5,6,1,0,2,8],[8,2,0,1,6,5,3,4,7,18],[18,7,4,3,5,6,1,0,2,8,19],[19,18,20,16,14,15,12,13,11,9,7,4,3,5,6,1,0,2,8,10,17],[17,10,9,11,13,12,15,14,16,20,18,19,21,7,4,3,5,6,1,0,2,8],[8,2,0,1,6,5,3,4,7,21,19,18,20,16,14,15,12,13,11,9,10,17,22]]) (by kernel_rfl) (by kernel_rfl) (lD (OL.loadOn (us:=(QD false a)) (tv (T.op 0 0) Y) Y QgP Qd5 (lb Y) Y) Y Y (VRunD.quiet (bi:= [0]) Y VWant.always Y Y Y bn (cS (vc (tv (T.agg (QD false a)) Y) vn) (LendL.cons (lg YI) ln) (QdX (n+0) a (by assumption)) Y Y) (mD (tB (decide (QcF a))) Y Y ?_))))))))
 refine gw (QcF a) (fun fhg7_1=> ?_) fun fhg7_1=> ?_
 ·refine VRunD.free Y (VWant.on Y Y (dy fhg7_1)) Y (OF.fieldAddrO (tv (T.op 0 0) Y) JM) ?_
  refine VRunD.look Y (VWant.on Y Y (dy fhg7_1)) Y (OL.loadOn (us:=(Qb false a.Grid)) (tv (T.op 0 0) Y) Y Q3 QY (lb Y) Y) (VRunD.free Y (VWant.on Y Y (dy fhg7_1)) Y (OF.move (tv (tS f) Y)) (VRunD.quiet (bi:= [5,3,1,0,2,4]) Y (VWant.on Y Y (dy fhg7_1)) Y Y Y bn (cS (vc (tv (T.agg (Qb false a.Grid)) Y) (vc (tv (tS f) Y) vn)) (LendL.cons (lg Qs) (lp Y ln)) (QfA (n+38) a.Grid f (by omega) (by assumption)) Y Y) (fD (OF.pickT (VEv.tmpB Y (dy fhg7_1)) (tv (tB (decide (J8 a.Grid f))) Y)) Y Y (mD (tB (decide (J8 a.Grid f))) Y Y ?_))))
  refine gw (J8 a.Grid f) (fun fhg13_2=> ?_) fun fhg13_2=> ?_
  ·refine VRunD.free Y (VWant.on Y Y (dy fhg13_2)) Y (OF.fieldAddrO (tv (T.op 0 0) Y) JM) ?_
   refine VRunD.look Y (VWant.on Y Y (dy fhg13_2)) Y (OL.loadOn (us:=(Qb false a.Grid)) (tv (T.op 0 0) Y) Y Q3 QY (lb Y) Y) (VRunD.free Y (VWant.on Y Y (dy fhg13_2)) Y (OF.move (tv (tS f) Y)) (VRunD.free Y (VWant.on Y Y (dy fhg13_2)) Y (OF.fieldAddrO (tv (T.op 0 0) Y) QaM) (VRunD.look Y (VWant.on Y Y (dy fhg13_2)) Y (OL.loadO1 (t:=(rd 1 Qc a.Seals)) (tv (T.op 0 4) Y) Y Y QcB) (VRunD.free Y (VWant.on Y Y (dy fhg13_2)) Y (OF.fieldAddrO (tv (T.op 0 0) Y) Qcc) (VRunD.look Y (VWant.on Y Y (dy fhg13_2)) Y (OL.loadO1 (t:=(tI a.Salt)) (tv (T.op 0 5) Y) Y Y QX) (VRunD.quiet (bi:= [14,15,12,13,11,9,7,4,3,5,6,1,0,2,8,10]) Y (VWant.on Y Y (dy fhg13_2)) Y Y Y bn (OC.callF (r':=(T.os 1 1 0 (((ZM a.Grid f a.Seals a.Salt).map (Qc true)).length))) (objs:= [(Obj.rows 1 ((ZM a.Grid f a.Seals a.Salt).map (Qc true)))]) Y (vc (tv (T.agg (Qb false a.Grid)) Y) (vc (tv (tS f) Y) (vc (tv (rd 1 Qc a.Seals) Y) (vc (tv (tI a.Salt) Y) vn)))) (LendL.cons (lg Qs) (lp Y (lp Y (lp Y ln)))) (Qcr (n+36) a.Grid f a.Seals a.Salt (by omega) (by assumption) (by omega)) Y) (VRunD.look Y (VWant.on Y Y (dy fhg13_2)) Y (B.lenO (m:=(ZM a.Grid f a.Seals a.Salt).length) (tv (T.os 1 1 0 (((ZM a.Grid f a.Seals a.Salt).map (Qc true)).length)) Y) ZA (List.length_map ..)) (VRunD.free Y (VWant.on Y Y (dy fhg13_2)) Y (OF.fieldAddrO (tv (T.op 0 0) Y) QaM) (VRunD.look Y (VWant.on Y Y (dy fhg13_2)) Y (OL.loadO1 (t:=(rd 1 Qc a.Seals)) (tv (T.op 0 4) Y) Y Y QcB) (VRunD.look Y (VWant.on Y Y (dy fhg13_2)) Y (B.lenR (m:=a.Seals.length) (tv (rd 1 Qc a.Seals) Y) ZA (List.length_map ..)) (VRunD.free Y (VWant.on Y Y (dy fhg13_2)) Y (Qjp (tv (tN ((ZM a.Grid f a.Seals a.Salt).length)) Y) (tv (tN a.Seals.length) Y)) ?_)))))))))))
   refine fD (OF.pickT (VEv.tmpB Y (dy fhg13_2)) (tv (tB (decide ((ZM a.Grid f a.Seals a.Salt).length=a.Seals.length))) Y)) Y Y (fD (OF.assign (tv (tB (decide ((ZM a.Grid f a.Seals a.Salt).length=a.Seals.length))) Y)) Y Y (VRunD.nil (tn (rt (vb (b':=(decide ((ZM a.Grid f a.Seals a.Salt).length=a.Seals.length))) Y ?_)))))
   (refine Zd ⟨fun h=>⟨?_,?_,?_⟩,fun h=> ?_⟩<;>first | assumption | (have h9:=h.1;rw [h.2.2,h9.2.1,h9.2.2.1]) | (have h9:QcF a:=(by assumption);rw [h,h9.2.2.1,h9.2.1]))
  refine oD Y Y (dz fhg13_2) Y (oD Y Y (dz fhg13_2) Y (oD Y Y (dz fhg13_2) Y (oD Y Y (dz fhg13_2) Y (oD Y Y (dz fhg13_2) Y (oD Y Y (dz fhg13_2) Y (oD Y Y (dz fhg13_2) Y (oD Y Y (dz fhg13_2) Y (oD Y Y (dz fhg13_2) Y (oD Y Y (dz fhg13_2) Y (oD Y Y (dz fhg13_2) Y (oD Y Y (dz fhg13_2) Y ?_)))))))))))
  refine oD Y Y (dz fhg13_2) Y (fD (OF.pickF (VEv.tmpB Y (dz fhg13_2)) (VEv.bool false)) Y Y (fD (OF.assign (tv (tB false) Y)) Y Y (VRunD.nil (tn (rt (vb (b':=false) Y ?_))))))
  (symm;rw [decide_eq_false_iff_not];rintro ⟨h1,h2,h3⟩;contradiction)
 refine oD Y Y (dz fhg7_1) Y (oD Y Y (dz fhg7_1) Y (oD Y Y (dz fhg7_1) Y (oD Y Y (dz fhg7_1) Y (fD (OF.pickF (VEv.tmpB Y (dz fhg7_1)) (VEv.bool false)) Y Y (mD (tB false) Y Y (VRunD.off Y (VWant.not (b:=false) Y Y Y) (VRunD.off Y (VWant.not (b:=false) Y Y Y) (VRunD.off Y (VWant.not (b:=false) Y Y Y) (VRunD.off Y (VWant.not (b:=false) Y Y Y) (VRunD.off Y (VWant.not (b:=false) Y Y Y) (VRunD.off Y (VWant.not (b:=false) Y Y Y) ?_)))))))))))
 refine VRunD.off Y (VWant.not (b:=false) Y Y Y) (VRunD.off Y (VWant.not (b:=false) Y Y Y) (VRunD.off Y (VWant.not (b:=false) Y Y Y) (VRunD.off Y (VWant.not (b:=false) Y Y Y) (VRunD.off Y (VWant.not (b:=false) Y Y Y) (VRunD.off Y (VWant.not (b:=false) Y Y Y) (VRunD.off Y (VWant.not (b:=false) Y Y Y) (fD (OF.pickF (tv (tB false) Y) (VEv.bool false)) Y Y (fD (OF.assign (tv (tB false) Y)) Y Y (VRunD.nil (tn (rt ?_)))))))))))
 refine vb (b':=false) Y ?_
 (symm;rw [decide_eq_false_iff_not];rintro ⟨h1,h2,h3⟩;contradiction)
noncomputable section
def ZK (x:D.Issue):Prop:=(1≤x.Number∧x.Number≤999)∧QU x.Puzzle x.Fill∧0≤x.Open∧x.Open<x.Close∧x.Close≤1000
instance (x:D.Issue):Decidable (ZK x):=Classical.propDecidable _
theorem Qdx (x:D.Issue):((((1≤x.Number∧x.Number≤999)∧QU x.Puzzle x.Fill)∧0≤x.Open)∧x.Open<x.Close)∧x.Close≤1000↔ZK x:=by
 unfold ZK
 simp only [and_assoc]
end
theorem Qet (n:Nat) (a:D.Issue) (hz:Zq a≤mx):Pure (Qr Tryz.prog (n+12)) 44 [(T.agg (QG false a))] (tB (decide (ZK a))):=by
 refine Pure.intro (rs:= [ResultVar.tmp 2]) Tryz.func44 Y Y Y (E0:= [(0,(T.agg (QG false a)))]) Y ?_
 obtain ⟨hlim,hmx,hmax⟩:=QE
 simp only [Zq] at hz
 refine sr (kO (B.box (ts:=(QG false a)) (tv (T.agg (QG false a)) Y) nofun Y) (fO (OF.assign (VEv.bool false)) (nt (sr (lf (tI a.Number) Y Qfg Y Y QX (cO (cS (vc (tv (tI a.Number) Y) (vc (VEv.int .i64 1) (vc (VEv.int .i64 999) vn))) (ZH Y) (QZ (n+10) a.Number 1 999) Y Y) (mO (tB (decide (1≤a.Number∧a.Number≤999))) Y ?_)))))))
 refine VRunO.joinB 6 [7,8,9,10,11] 12 (tB (decide ((1≤a.Number∧a.Number≤999)∧(QU a.Puzzle a.Fill)))) ?_ ?_
 ·refine gw (1≤a.Number∧a.Number≤999) (fun fhg6_1=> ?_) fun fhg6_1=> ?_
  ·refine gF (dy fhg6_1) Y Y (OF.fieldAddrO (tv (T.op 0 0) Y) QaF) ?_
   refine gL (dy fhg6_1) Y Y (OL.loadOn (us:=(QD false a.Puzzle)) (tv (T.op 0 1) Y) Y QgP Qd5 (lb Y) Y) (Yl (tS a.Fill) (dy fhg6_1) Y Y Y Y QeI Y Y Ye (VRunO.chain (VWant.on Y Y (dy fhg6_1)) (cS (vc (tv (T.agg (QD false a.Puzzle)) Y) (vc (tv (tS a.Fill) Y) vn)) (LendL.cons (lg YI) (lp Y ln)) (Qd2 (n+0) a.Puzzle a.Fill (by omega) (by omega)) Y Y) (fO (OF.pickT (VEv.tmpB Y (dy fhg6_1)) (tv (tB (decide (QU a.Puzzle a.Fill))) Y)) (VRunO.nil ?_))))
   exact jq (congrArg T.bool (kAT fhg6_1 Y)) (js Y (js Y (js Y (js Y (js Y (jn))))))
  ·refine QA 5 3 true 6 (dz fhg6_1) Y Y Y ?_
   refine fO (OF.pickF (VEv.tmpB Y (dz fhg6_1)) (VEv.bool false)) (VRunO.nil ?_)
   exact jq (congrArg T.bool (kAF fhg6_1)) (js Y (js Y (js Y (js Y (js Y (jn))))))
 refine mO (tB (decide ((1≤a.Number∧a.Number≤999)∧(QU a.Puzzle a.Fill)))) Y ?_
 refine VRunO.joinB 4 [14,15,16] 17 (tB (decide (((1≤a.Number∧a.Number≤999)∧(QU a.Puzzle a.Fill))∧(0≤a.Open)))) ?_ ?_
 ·refine gw ((1≤a.Number∧a.Number≤999)∧(QU a.Puzzle a.Fill)) (fun fhg13_2=> ?_) fun fhg13_2=> ?_
  ·refine Yl (tI a.Open) (dy fhg13_2) Y Y Y Y QaD Y Y QX ?_
   refine gF (dy fhg13_2) Y Y (xge (tv (tI a.Open) Y) (VEv.int .i64 0)) (fO (OF.pickT (VEv.tmpB Y (dy fhg13_2)) (tv (tB (decide (0≤a.Open))) Y)) (VRunO.nil ?_))
   exact jq (congrArg T.bool (kAT fhg13_2 Y)) (js Y (js Y (js Y (jn))))
  ·refine QA 3 10 true 13 (dz fhg13_2) Y Y Y ?_
   refine fO (OF.pickF (VEv.tmpB Y (dz fhg13_2)) (VEv.bool false)) (VRunO.nil ?_)
   exact jq (congrArg T.bool (kAF fhg13_2)) (js Y (js Y (js Y (jn))))
 refine mO (tB (decide (((1≤a.Number∧a.Number≤999)∧(QU a.Puzzle a.Fill))∧(0≤a.Open)))) Y ?_
 refine VRunO.joinB 6 [19,20,21,22,23] 24 (tB (decide ((((1≤a.Number∧a.Number≤999)∧(QU a.Puzzle a.Fill))∧(0≤a.Open))∧(a.Open<a.Close)))) ?_ ?_
 ·refine gw (((1≤a.Number∧a.Number≤999)∧(QU a.Puzzle a.Fill))∧(0≤a.Open)) (fun fhg18_3=> ?_) fun fhg18_3=> ?_
  ·refine Yl (tI a.Open) (dy fhg18_3) Y Y Y Y QaD Y Y QX ?_
   refine Yl (tI a.Close) (dy fhg18_3) Y Y Y Y QbZ Y Y QX (gF (dy fhg18_3) Y Y (xls (tv (tI a.Open) Y) (tv (tI a.Close) Y)) (fO (OF.pickT (VEv.tmpB Y (dy fhg18_3)) (tv (tB (decide (a.Open<a.Close))) Y)) (VRunO.nil ?_)))
   exact jq (congrArg T.bool (kAT fhg18_3 Y)) (js Y (js Y (js Y (js Y (js Y (jn))))))
  ·refine QA 5 15 true 18 (dz fhg18_3) Y Y Y ?_
   refine fO (OF.pickF (VEv.tmpB Y (dz fhg18_3)) (VEv.bool false)) (VRunO.nil ?_)
   exact jq (congrArg T.bool (kAF fhg18_3)) (js Y (js Y (js Y (js Y (js Y (jn))))))
 refine mO (tB (decide ((((1≤a.Number∧a.Number≤999)∧(QU a.Puzzle a.Fill))∧(0≤a.Open))∧(a.Open<a.Close)))) Y ?_
 refine VRunO.joinB 4 [26,27,28] 29 (tB (decide (((((1≤a.Number∧a.Number≤999)∧(QU a.Puzzle a.Fill))∧(0≤a.Open))∧(a.Open<a.Close))∧(a.Close≤1000)))) ?_ ?_
 ·refine gw ((((1≤a.Number∧a.Number≤999)∧(QU a.Puzzle a.Fill))∧(0≤a.Open))∧(a.Open<a.Close)) (fun fhg25_4=> ?_) fun fhg25_4=> ?_
  ·refine Yl (tI a.Close) (dy fhg25_4) Y Y Y Y QbZ Y Y QX ?_
   refine gF (dy fhg25_4) Y Y (xle (tv (tI a.Close) Y) (VEv.int .i64 1000)) (fO (OF.pickT (VEv.tmpB Y (dy fhg25_4)) (tv (tB (decide (a.Close≤1000))) Y)) (VRunO.nil ?_))
   exact jq (congrArg T.bool (kAT fhg25_4 Y)) (js Y (js Y (js Y (jn))))
  ·refine QA 3 22 true 25 (dz fhg25_4) Y Y Y ?_
   refine fO (OF.pickF (VEv.tmpB Y (dz fhg25_4)) (VEv.bool false)) (VRunO.nil ?_)
   exact jq (congrArg T.bool (kAF fhg25_4)) (js Y (js Y (js Y (jn))))
 refine aO (tB (decide (((((1≤a.Number∧a.Number≤999)∧(QU a.Puzzle a.Fill))∧(0≤a.Open))∧(a.Open<a.Close))∧(a.Close≤1000)))) Y (nt (rt (vb (b':=(decide (((((1≤a.Number∧a.Number≤999)∧(QU a.Puzzle a.Fill))∧(0≤a.Open))∧(a.Open<a.Close))∧(a.Close≤1000)))) Y ?_)))
 exact Zd (Qdx a)
theorem Qe6 (n:Nat) (a:D.Issue) (hz:Zq a≤mx):Pure (Qr Tryz.prog (n+44)) 45 [(T.agg (QG false a))] (tB (decide (ZK a))):=by
 refine Pure.intro (rs:= [ResultVar.tmp 2]) Tryz.func45 Y Y Y (E0:= [(0,(T.agg (QG false a)))]) Y ?_
 obtain ⟨hlim,hmx,hmax⟩:=QE
 simp only [Zq] at hz
 refine sr (kO (B.box (ts:=(QG false a)) (tv (T.agg (QG false a)) Y) nofun Y) (fO (OF.assign (VEv.bool false)) (nt (sr (lf (tI a.Number) Y Qfg Y Y QX (cO (cS (vc (tv (tI a.Number) Y) (vc (VEv.int .i64 1) (vc (VEv.int .i64 999) vn))) (ZH Y) (Zn (n+42) a.Number 1 999) Y Y) (mO (tB (decide (1≤a.Number∧a.Number≤999))) Y ?_)))))))
 refine VRunO.joinB 6 [7,8,9,10,11] 12 (tB (decide ((1≤a.Number∧a.Number≤999)∧(QU a.Puzzle a.Fill)))) ?_ ?_
 ·refine gw (1≤a.Number∧a.Number≤999) (fun fhg6_1=> ?_) fun fhg6_1=> ?_
  ·refine gF (dy fhg6_1) Y Y (OF.fieldAddrO (tv (T.op 0 0) Y) QaF) ?_
   refine gL (dy fhg6_1) Y Y (OL.loadOn (us:=(QD false a.Puzzle)) (tv (T.op 0 1) Y) Y QgP Qd5 (lb Y) Y) (Yl (tS a.Fill) (dy fhg6_1) Y Y Y Y QeI Y Y Ye (VRunO.chain (VWant.on Y Y (dy fhg6_1)) (cS (vc (tv (T.agg (QD false a.Puzzle)) Y) (vc (tv (tS a.Fill) Y) vn)) (LendL.cons (lg YI) (lp Y ln)) (QdY (n+0) a.Puzzle a.Fill (by omega) (by omega)) Y Y) (fO (OF.pickT (VEv.tmpB Y (dy fhg6_1)) (tv (tB (decide (QU a.Puzzle a.Fill))) Y)) (VRunO.nil ?_))))
   exact jq (congrArg T.bool (kAT fhg6_1 Y)) (js Y (js Y (js Y (js Y (js Y (jn))))))
  ·refine QA 5 3 true 6 (dz fhg6_1) Y Y Y ?_
   refine fO (OF.pickF (VEv.tmpB Y (dz fhg6_1)) (VEv.bool false)) (VRunO.nil ?_)
   exact jq (congrArg T.bool (kAF fhg6_1)) (js Y (js Y (js Y (js Y (js Y (jn))))))
 refine mO (tB (decide ((1≤a.Number∧a.Number≤999)∧(QU a.Puzzle a.Fill)))) Y ?_
 refine VRunO.joinB 4 [14,15,16] 17 (tB (decide (((1≤a.Number∧a.Number≤999)∧(QU a.Puzzle a.Fill))∧(0≤a.Open)))) ?_ ?_
 ·refine gw ((1≤a.Number∧a.Number≤999)∧(QU a.Puzzle a.Fill)) (fun fhg13_2=> ?_) fun fhg13_2=> ?_
  ·refine Yl (tI a.Open) (dy fhg13_2) Y Y Y Y QaD Y Y QX ?_
   refine gF (dy fhg13_2) Y Y (xge (tv (tI a.Open) Y) (VEv.int .i64 0)) (fO (OF.pickT (VEv.tmpB Y (dy fhg13_2)) (tv (tB (decide (0≤a.Open))) Y)) (VRunO.nil ?_))
   exact jq (congrArg T.bool (kAT fhg13_2 Y)) (js Y (js Y (js Y (jn))))
  ·refine QA 3 10 true 13 (dz fhg13_2) Y Y Y ?_
   refine fO (OF.pickF (VEv.tmpB Y (dz fhg13_2)) (VEv.bool false)) (VRunO.nil ?_)
   exact jq (congrArg T.bool (kAF fhg13_2)) (js Y (js Y (js Y (jn))))
 refine mO (tB (decide (((1≤a.Number∧a.Number≤999)∧(QU a.Puzzle a.Fill))∧(0≤a.Open)))) Y ?_
 refine VRunO.joinB 6 [19,20,21,22,23] 24 (tB (decide ((((1≤a.Number∧a.Number≤999)∧(QU a.Puzzle a.Fill))∧(0≤a.Open))∧(a.Open<a.Close)))) ?_ ?_
 ·refine gw (((1≤a.Number∧a.Number≤999)∧(QU a.Puzzle a.Fill))∧(0≤a.Open)) (fun fhg18_3=> ?_) fun fhg18_3=> ?_
  ·refine Yl (tI a.Open) (dy fhg18_3) Y Y Y Y QaD Y Y QX ?_
   refine Yl (tI a.Close) (dy fhg18_3) Y Y Y Y QbZ Y Y QX (gF (dy fhg18_3) Y Y (xls (tv (tI a.Open) Y) (tv (tI a.Close) Y)) (fO (OF.pickT (VEv.tmpB Y (dy fhg18_3)) (tv (tB (decide (a.Open<a.Close))) Y)) (VRunO.nil ?_)))
   exact jq (congrArg T.bool (kAT fhg18_3 Y)) (js Y (js Y (js Y (js Y (js Y (jn))))))
  ·refine QA 5 15 true 18 (dz fhg18_3) Y Y Y ?_
   refine fO (OF.pickF (VEv.tmpB Y (dz fhg18_3)) (VEv.bool false)) (VRunO.nil ?_)
   exact jq (congrArg T.bool (kAF fhg18_3)) (js Y (js Y (js Y (js Y (js Y (jn))))))
 refine mO (tB (decide ((((1≤a.Number∧a.Number≤999)∧(QU a.Puzzle a.Fill))∧(0≤a.Open))∧(a.Open<a.Close)))) Y ?_
 refine VRunO.joinB 4 [26,27,28] 29 (tB (decide (((((1≤a.Number∧a.Number≤999)∧(QU a.Puzzle a.Fill))∧(0≤a.Open))∧(a.Open<a.Close))∧(a.Close≤1000)))) ?_ ?_
 ·refine gw ((((1≤a.Number∧a.Number≤999)∧(QU a.Puzzle a.Fill))∧(0≤a.Open))∧(a.Open<a.Close)) (fun fhg25_4=> ?_) fun fhg25_4=> ?_
  ·refine Yl (tI a.Close) (dy fhg25_4) Y Y Y Y QbZ Y Y QX ?_
   refine gF (dy fhg25_4) Y Y (xle (tv (tI a.Close) Y) (VEv.int .i64 1000)) (fO (OF.pickT (VEv.tmpB Y (dy fhg25_4)) (tv (tB (decide (a.Close≤1000))) Y)) (VRunO.nil ?_))
   exact jq (congrArg T.bool (kAT fhg25_4 Y)) (js Y (js Y (js Y (jn))))
  ·refine QA 3 22 true 25 (dz fhg25_4) Y Y Y ?_
   refine fO (OF.pickF (VEv.tmpB Y (dz fhg25_4)) (VEv.bool false)) (VRunO.nil ?_)
   exact jq (congrArg T.bool (kAF fhg25_4)) (js Y (js Y (js Y (jn))))
 refine aO (tB (decide (((((1≤a.Number∧a.Number≤999)∧(QU a.Puzzle a.Fill))∧(0≤a.Open))∧(a.Open<a.Close))∧(a.Close≤1000)))) Y (nt (rt (vb (b':=(decide (((((1≤a.Number∧a.Number≤999)∧(QU a.Puzzle a.Fill))∧(0≤a.Open))∧(a.Open<a.Close))∧(a.Close≤1000)))) Y ?_)))
 exact Zd (Qdx a)
theorem QcP (n:Nat) (a:D.Puzzle) (k:Nat) (hk:QK k a.Clues+1*a.Seals.length≤Zr):LoanM (Qr Tryz.prog (n+4)) 12 [(2,(a.Clues.map (Qe true))),(1,(a.Seals.map (Qc true)))] [(T.agg [(tI a.Grid.Rows),(tI a.Grid.Cols),(tS a.Grid.Cells),(T.os 2 0 0 ((a.Clues.map (Qe true)).length)),(T.os 1 1 0 ((a.Seals.map (Qc true)).length)),(tI a.Salt)]),(tN k)] (tN (QK k a.Clues+1*a.Seals.length)) [(2,((ZU k a.Clues).map (Qe true))),(1,((Jm Yv 1 (QK k a.Clues) a.Seals.length).map (Qc true)))]:=by
 refine LoanM.intro (rs:= [ResultVar.tmp 4]) [(0,(T.agg [(tI a.Grid.Rows),(tI a.Grid.Cols),(tS a.Grid.Cells),(T.os 2 0 0 ((a.Clues.map (Qe true)).length)),(T.os 1 1 0 ((a.Seals.map (Qc true)).length)),(tI a.Salt)]))] Tryz.func12 Y Y Y Y (bc ⟨by kernel_rfl,rfl⟩ bn) (PinsTo.at (And.intro (And.intro trivial ⟨_,(.head _),(.agg 3 Y (.os _ _))⟩) ⟨_,(.head _),(.agg 4 Y (.os _ _))⟩)) (.int _ _) (bc (okeClue.cleanMap _) (bc (okInt.cleanMap _) bn)) (E0:= [(0,(T.agg [(tI a.Grid.Rows),(tI a.Grid.Cols),(tS a.Grid.Cells),(T.os 2 0 0 ((a.Clues.map (Qe true)).length)),(T.os 1 1 0 ((a.Seals.map (Qc true)).length)),(tI a.Salt)])),(1,(tN k))]) Y (fun asg=> ?_)
 obtain ⟨hlim,hmx,hmax⟩:=QE
 show VRun _ _ _ [(0,(T.agg [(tI a.Grid.Rows),(tI a.Grid.Cols),(tS a.Grid.Cells),(T.os 2 0 0 ((a.Clues.map (Qe true)).length)),(T.os 1 1 0 ((a.Seals.map (Qc true)).length)),(tI a.Salt)])),(1,(tN k))] (Q5 [(0,(Obj.rowsN 2 (a.Clues.map (Qe true)) (asg 0))),(1,(Obj.rowsN 1 (a.Seals.map (Qc true)) (asg 1)))]) 2 _
 refine sr (kO (B.box (ts:= [(tI a.Grid.Rows),(tI a.Grid.Cols),(tS a.Grid.Cells),(T.os 2 0 0 ((a.Clues.map (Qe true)).length)),(T.os 1 1 0 ((a.Seals.map (Qc true)).length)),(tI a.Salt)]) (tv (T.agg [(tI a.Grid.Rows),(tI a.Grid.Cols),(tS a.Grid.Cells),(T.os 2 0 0 ((a.Clues.map (Qe true)).length)),(T.os 1 1 0 ((a.Seals.map (Qc true)).length)),(tI a.Salt)]) Y) nofun Y) (fO (OF.assign (VEv.int .i64 0)) (nt (sr (lf (T.os 2 0 0 ((a.Clues.map (Qe true)).length)) Y Y9 Y Y Qee (mO (tN k) Y (cO (OC.callL (ts:= [(T.os 2 0 0 ((a.Clues.map (Qe true)).length)),(tN k)]) [0] (r:=(tN (QK k a.Clues))) (L:= [(2,(a.Clues.map (Qe true)))]) [(2,((ZU k a.Clues).map (Qe true)))] [(Obj.rowsN 2 (a.Clues.map (Qe true)) (asg 0))] rfl (vc (tv (T.os 2 0 0 ((a.Clues.map (Qe true)).length)) Y) (vc (tv (tN k) Y) vn)) (by decide) Y (And.intro (And.intro Y Y) (trivial)) (bc (okeClue.cleanMap _) bn) (bc (okeClue.cleanMap _) bn) Y Y (.int _ _) (Qc7 (n+0) a.Clues k (by omega))) (aO (tN (QK k a.Clues)) Y (nt (sr (lf (T.os 1 1 0 ((a.Seals.map (Qc true)).length)) Y QaM Y Y QcB ?_)))))))))))
 refine mO (tN (QK k a.Clues)) Y (cO (OC.viaN (k:=1) Y (ZP (fun _=>rfl) _) (ZP (fun _=>rfl) _) (OC.callMut (rows:=(a.Seals.map (Qc true))) (rows':=((Jm Yv 1 (QK k a.Clues) a.Seals.length).map (Qc true))) Y (vc (tv (T.os 1 1 0 ((a.Seals.map (Qc true)).length)) Y) (vc (tv (tN (QK k a.Clues)) Y) vn)) Y Y (bc Y bn) (ZP (fun _=>rfl) _) (ZP (fun _=>rfl) _) (Qeg (n+2) a.Seals (QK k a.Clues) (by assumption)))) (aO (tN ((QK k a.Clues)+1*a.Seals.length)) Y (nt (sr (mO (tN ((QK k a.Clues)+1*a.Seals.length)) Y (aO (tN ((QK k a.Clues)+1*a.Seals.length)) Y (nt (rt ?_))))))))
 have hnew0:ZU k a.Clues=ZU k a.Clues:=by
  rfl
 have hnew1:Jm Yv 1 (QK k a.Clues) a.Seals.length=Jm Yv 1 (QK k a.Clues) a.Seals.length:=by
  rfl
 exact vloanM.r (L1:= [(2,((ZU k a.Clues).map (Qe true))),(1,((Jm Yv 1 (QK k a.Clues) a.Seals.length).map (Qc true)))]) (fun k=>k) (VRes.tmp (t:=(tN ((QK k a.Clues)+1*a.Seals.length))) Y VRes.nil) (congrArg (T.int .i64) (show (((QK k a.Clues)+1*a.Seals.length:Nat):Int)=((QK k a.Clues+1*a.Seals.length:Nat):Int) by rfl)) (bc Y bn) (And.intro Y (And.intro Y (trivial))) (by rw [hnew0,hnew1])
theorem Qdr (n:Nat) (a:D.Issue) (k:Nat) (hk:QK k a.Puzzle.Clues+1*a.Puzzle.Seals.length≤Zr):LoanM (Qr Tryz.prog (n+5)) 23 [(2,(a.Puzzle.Clues.map (Qe true))),(1,(a.Puzzle.Seals.map (Qc true)))] [(T.agg [(tI a.Number),(tI a.Puzzle.Grid.Rows),(tI a.Puzzle.Grid.Cols),(tS a.Puzzle.Grid.Cells),(T.os 2 0 0 ((a.Puzzle.Clues.map (Qe true)).length)),(T.os 1 1 0 ((a.Puzzle.Seals.map (Qc true)).length)),(tI a.Puzzle.Salt),(tS a.Fill),(tI a.Open),(tI a.Close)]),(tN k)] (tN (QK k a.Puzzle.Clues+1*a.Puzzle.Seals.length)) [(2,((ZU k a.Puzzle.Clues).map (Qe true))),(1,((Jm Yv 1 (QK k a.Puzzle.Clues) a.Puzzle.Seals.length).map (Qc true)))]:=by
 refine LoanM.intro (rs:= [ResultVar.tmp 4]) [(0,(T.agg [(tI a.Number),(tI a.Puzzle.Grid.Rows),(tI a.Puzzle.Grid.Cols),(tS a.Puzzle.Grid.Cells),(T.os 2 0 0 ((a.Puzzle.Clues.map (Qe true)).length)),(T.os 1 1 0 ((a.Puzzle.Seals.map (Qc true)).length)),(tI a.Puzzle.Salt),(tS a.Fill),(tI a.Open),(tI a.Close)]))] Tryz.func23 Y Y Y Y (bc ⟨by kernel_rfl,rfl⟩ bn) (PinsTo.at (And.intro (And.intro trivial ⟨_,(.head _),(.agg 4 Y (.os _ _))⟩) ⟨_,(.head _),(.agg 5 Y (.os _ _))⟩)) (.int _ _) (bc (okeClue.cleanMap _) (bc (okInt.cleanMap _) bn)) (E0:= [(0,(T.agg [(tI a.Number),(tI a.Puzzle.Grid.Rows),(tI a.Puzzle.Grid.Cols),(tS a.Puzzle.Grid.Cells),(T.os 2 0 0 ((a.Puzzle.Clues.map (Qe true)).length)),(T.os 1 1 0 ((a.Puzzle.Seals.map (Qc true)).length)),(tI a.Puzzle.Salt),(tS a.Fill),(tI a.Open),(tI a.Close)])),(1,(tN k))]) Y (fun asg=> ?_)
 obtain ⟨hlim,hmx,hmax⟩:=QE
 show VRun _ _ _ [(0,(T.agg [(tI a.Number),(tI a.Puzzle.Grid.Rows),(tI a.Puzzle.Grid.Cols),(tS a.Puzzle.Grid.Cells),(T.os 2 0 0 ((a.Puzzle.Clues.map (Qe true)).length)),(T.os 1 1 0 ((a.Puzzle.Seals.map (Qc true)).length)),(tI a.Puzzle.Salt),(tS a.Fill),(tI a.Open),(tI a.Close)])),(1,(tN k))] (Q5 [(0,(Obj.rowsN 2 (a.Puzzle.Clues.map (Qe true)) (asg 0))),(1,(Obj.rowsN 1 (a.Puzzle.Seals.map (Qc true)) (asg 1)))]) 2 _
 refine sr (kO (B.box (ts:= [(tI a.Number),(tI a.Puzzle.Grid.Rows),(tI a.Puzzle.Grid.Cols),(tS a.Puzzle.Grid.Cells),(T.os 2 0 0 ((a.Puzzle.Clues.map (Qe true)).length)),(T.os 1 1 0 ((a.Puzzle.Seals.map (Qc true)).length)),(tI a.Puzzle.Salt),(tS a.Fill),(tI a.Open),(tI a.Close)]) (tv (T.agg [(tI a.Number),(tI a.Puzzle.Grid.Rows),(tI a.Puzzle.Grid.Cols),(tS a.Puzzle.Grid.Cells),(T.os 2 0 0 ((a.Puzzle.Clues.map (Qe true)).length)),(T.os 1 1 0 ((a.Puzzle.Seals.map (Qc true)).length)),(tI a.Puzzle.Salt),(tS a.Fill),(tI a.Open),(tI a.Close)]) Y) nofun Y) (fO (OF.assign (VEv.int .i64 0)) (nt (sr (fO (OF.fieldAddrO (tv (T.op 2 0) Y) QaF) (lO (OL.loadOn (us:= [(tI a.Puzzle.Grid.Rows),(tI a.Puzzle.Grid.Cols),(tS a.Puzzle.Grid.Cells),(T.os 2 0 0 ((a.Puzzle.Clues.map (Qe true)).length)),(T.os 1 1 0 ((a.Puzzle.Seals.map (Qc true)).length)),(tI a.Puzzle.Salt)]) (tv (T.op 2 1) Y) Y QgP Qd5 (lb Y) Y) (mO (tN k) Y (cO (OC.callL (ts:= [(T.agg [(tI a.Puzzle.Grid.Rows),(tI a.Puzzle.Grid.Cols),(tS a.Puzzle.Grid.Cells),(T.os 2 0 0 ((a.Puzzle.Clues.map (Qe true)).length)),(T.os 1 1 0 ((a.Puzzle.Seals.map (Qc true)).length)),(tI a.Puzzle.Salt)]),(tN k)]) [0,1] (r:=(tN (QK k a.Puzzle.Clues+1*a.Puzzle.Seals.length))) (L:= [(2,(a.Puzzle.Clues.map (Qe true))),(1,(a.Puzzle.Seals.map (Qc true)))]) [(2,((ZU k a.Puzzle.Clues).map (Qe true))),(1,((Jm Yv 1 (QK k a.Puzzle.Clues) a.Puzzle.Seals.length).map (Qc true)))] [(Obj.rowsN 2 (a.Puzzle.Clues.map (Qe true)) (asg 0)),(Obj.rowsN 1 (a.Puzzle.Seals.map (Qc true)) (asg 1))] rfl (vc (tv (T.agg [(tI a.Puzzle.Grid.Rows),(tI a.Puzzle.Grid.Cols),(tS a.Puzzle.Grid.Cells),(T.os 2 0 0 ((a.Puzzle.Clues.map (Qe true)).length)),(T.os 1 1 0 ((a.Puzzle.Seals.map (Qc true)).length)),(tI a.Puzzle.Salt)]) Y) (vc (tv (tN k) Y) vn)) (by decide) Y (And.intro (And.intro Y Y) (And.intro (And.intro Y Y) (trivial))) (bc (okeClue.cleanMap _) (bc (okInt.cleanMap _) bn)) (bc (okeClue.cleanMap _) (bc (okInt.cleanMap _) bn)) Y Y (.int _ _) (QcP (n+0) a.Puzzle k (by assumption))) (aO (tN (QK k a.Puzzle.Clues+1*a.Puzzle.Seals.length)) Y (nt (sr ?_)))))))))))
 refine mO (tN (QK k a.Puzzle.Clues+1*a.Puzzle.Seals.length)) Y (aO (tN (QK k a.Puzzle.Clues+1*a.Puzzle.Seals.length)) Y (nt (rt ?_)))
 have hnew0:ZU k a.Puzzle.Clues=ZU k a.Puzzle.Clues:=by
  rfl
 have hnew1:Jm Yv 1 (QK k a.Puzzle.Clues) a.Puzzle.Seals.length=Jm Yv 1 (QK k a.Puzzle.Clues) a.Puzzle.Seals.length:=by
  rfl
 exact vloanM.r (L1:= [(2,((ZU k a.Puzzle.Clues).map (Qe true))),(1,((Jm Yv 1 (QK k a.Puzzle.Clues) a.Puzzle.Seals.length).map (Qc true)))]) (fun k=>k) (VRes.tmp (t:=(tN (QK k a.Puzzle.Clues+1*a.Puzzle.Seals.length))) Y VRes.nil) Y (bc Y bn) (And.intro Y (And.intro Y (trivial))) (by rw [hnew0,hnew1])
noncomputable section
def Yf (n:Int):ByteArray:=if n<10 then ⟨#[UInt8.ofNat (48+Int.toNat n)]⟩ else ⟨#[UInt8.ofNat (48+Int.toNat n / 10),UInt8.ofNat (48+Int.toNat n % 10)]⟩
def sm36 : ByteArray:=⟨#[48,49,50,51,52,53,54,55,56,57,97,98,99,100,101,102,103,104,105,106,107,108,109,110,111,112,113,114,115,116,117,118,119,120,121,122]⟩
def sm200 : ByteArray:=⟨#[48,48,48,49,48,50,48,51,48,52,48,53,48,54,48,55,48,56,48,57,49,48,49,49,49,50,49,51,49,52,49,53,49,54,49,55,49,56,49,57,50,48,50,49,50,50,50,51,50,52,50,53,50,54,50,55,50,56,50,57,51,48,51,49,51,50,51,51,51,52,51,53,51,54,51,55,51,56,51,57,52,48,52,49,52,50,52,51,52,52,52,53,52,54,52,55,52,56,52,57,53,48,53,49,53,50,53,51,53,52,53,53,53,54,53,55,53,56,53,57,54,48,54,49,54,50,54,51,54,52,54,53,54,54,54,55,54,56,54,57,55,48,55,49,55,50,55,51,55,52,55,53,55,54,55,55,55,56,55,57,56,48,56,49,56,50,56,51,56,52,56,53,56,54,56,55,56,56,56,57,57,48,57,49,57,50,57,51,57,52,57,53,57,54,57,55,57,56,57,57]⟩
theorem Qn8 : ∀k:Fin 10,sm36.extract (Int.toNat (k.val:Int)) (Int.toNat ((k.val:Int)+1))=Yf (k.val:Int):=by decide +kernel
theorem QnP : ∀k:Fin 100,10≤k.val→sm200.extract (Int.toNat ((k.val:Int)*2)) (Int.toNat ((k.val:Int)*2+2))=Yf (k.val:Int):=by decide +kernel
theorem Qlc {n:Int} (h:0≤n∧n<100) (h1:n<10):sm36.extract (Int.toNat n) (Int.toNat (n+1))=Yf n:=by
 have:=Qn8 ⟨Int.toNat n,by omega⟩
 simp only [Int.toNat_of_nonneg h.1] at this
 exact this
theorem Qke {n:Int} (h:0≤n∧n<100) (h1:¬n<10):sm200.extract (Int.toNat (n*2)) (Int.toNat (n*2+2))=Yf n:=by
 have:=QnP ⟨Int.toNat n,by omega⟩ (by show 10≤Int.toNat n;omega)
 simp only [Int.toNat_of_nonneg h.1] at this
 exact this
theorem QhL (n:Int):(Yf n).size≤2:=by
 unfold Yf
 split
 ·exact Nat.le_succ 1
 ·exact Nat.le_refl 2
def dgX (n:Int):Nat→Int
 | 0=>n
 | 1=>n / 10
 | _=>0
def dgM (n:Int):Nat→Int
 | 0=>n % 10
 | _=>n / 10
def dgT (n:Int):Nat→ByteArray
 | 0=>⟨#[]⟩
 | 1=>⟨#[UInt8.ofNat (48+Int.toNat n % 10)]⟩
 | _=>⟨#[UInt8.ofNat (48+Int.toNat n / 10),UInt8.ofNat (48+Int.toNat n % 10)]⟩
theorem QnI {n:Int} {j:Nat} (h:¬dgX n j=0):j=0∨j=1:=by
 match j,h with
 | 0,_=>exact .inl Y
 | 1,_=>exact .inr Y
 | j+2,h=>exact absurd Y h
theorem Qnu {n:Int} {j:Nat} (h:0≤n∧n<100) (hj:j=0∨j=1):(dgX n j).tmod 10=dgM n j:=by
 rcases hj with rfl | rfl
 ·exact Int.tmod_eq_emod_of_nonneg h.1
 ·show (n / 10).tmod 10=n / 10
  rw [Int.tmod_eq_emod_of_nonneg (by omega)]
  omega
theorem Qns {n:Int} {j:Nat} (h:0≤n∧n<100) (hj:j=0∨j=1):(dgX n j).tdiv 10=dgX n (j+1):=by
 rcases hj with rfl | rfl
 ·exact Int.tdiv_eq_ediv_of_nonneg h.1
 ·show (n / 10).tdiv 10=0
  rw [Int.tdiv_eq_ediv_of_nonneg (by omega)]
  omega
theorem Qnw {n:Int} {j:Nat} (h:0≤n∧n<100) (hj:j=0∨j=1):0≤dgM n j∧dgM n j<10:=by
 rcases hj with rfl | rfl
 ·show 0≤n % 10∧n % 10<10;omega
 ·show 0≤n / 10∧n / 10<10;omega
theorem QnT {n:Int} {j:Nat} (h:0≤n∧n<100) (hj:j=0∨j=1):0≤dgX n j∧dgX n j<100:=by
 rcases hj with rfl | rfl
 ·exact h
 ·show 0≤n / 10∧n / 10<100;omega
theorem Qnq {n:Int} {j:Nat} (h:0≤n∧n<100) (hj:j=0∨j=1):0≤dgX n (j+1)∧dgX n (j+1)<100:=by
 rcases hj with rfl | rfl
 ·show 0≤n / 10∧n / 10<100;omega
 ·show (0:Int)≤0∧(0:Int)<100;omega
theorem QnJ : ∀k:Fin 100,Z2 [IntKind.u8.wrap (48+(k.val:Int) % 10)]++(⟨#[]⟩:ByteArray)=⟨#[UInt8.ofNat (48+k.val % 10)]⟩:=by decide +kernel
theorem QnV : ∀k:Fin 100,Z2 [IntKind.u8.wrap (48+(k.val:Int) / 10)]++(⟨#[UInt8.ofNat (48+k.val % 10)]⟩:ByteArray)=⟨#[UInt8.ofNat (48+k.val / 10),UInt8.ofNat (48+k.val % 10)]⟩:=by decide +kernel
theorem Qng {n:Int} {j:Nat} (h:0≤n∧n<100) (hj:j=0∨j=1):Z2 [IntKind.u8.wrap (48+dgM n j)]++dgT n j=dgT n (j+1):=by
 rcases hj with rfl | rfl
 ·have:=QnJ ⟨Int.toNat n,by omega⟩
  simp only [Int.toNat_of_nonneg h.1] at this
  exact this
 ·have:=QnV ⟨Int.toNat n,by omega⟩
  simp only [Int.toNat_of_nonneg h.1] at this
  exact this
theorem Qnk (n:Int) (j:Nat):(dgT n j).size≤2:=by
 match j with
 | 0=>exact Nat.zero_le _
 | 1=>exact Nat.le_succ 1
 | j+2=>exact Nat.le_refl 2
theorem QlK {n:Int} {j:Nat} (hn:0≤n∧n<100) (hz:¬n=0) (hj:j≤2∧(j=2→10≤n)) (h:dgX n j=0):dgT n j=Yf n:=by
 match j,hj,h with
 | 0,_,h=>exact absurd h hz
 | 1,_,h =>
  have h:n / 10=0:=h
  show (⟨#[UInt8.ofNat (48+Int.toNat n % 10)]⟩:ByteArray)=Yf n
  rw [Yf,if_pos (by omega),Nat.mod_eq_of_lt (by omega)]
 | j+2,hj,_ =>
  have:10≤n:=hj.2 (by omega)
  rw [Yf,if_neg (by omega)]
  rfl
theorem QjR {n:Int} {j:Nat} (hj:j=0∨j=1) (h:¬dgX n j=0) (hn:0≤n∧n<100):j+1≤2∧(j+1=2→10≤n):=by
 rcases hj with rfl | rfl
 ·exact ⟨by omega,fun e=>by omega⟩
 ·have h:¬n / 10=0:=h
  exact ⟨by omega,fun _=>by omega⟩
end
theorem Qan (n:Nat) (n0:Int) (hn:0≤n0∧n0<100):Pure (Qr Tryz.prog (n+1)) 161 [(tI n0)] (tS (Yf n0)):=by
 refine Pure.intro (rs:= [ResultVar.tmp 2]) Tryz.func161 Y Y Y (E0:= [(0,(tI n0))]) Y ?_
 obtain ⟨hlim,hmx,hmax⟩:=QE
 have e36:(⟨#[48,49,50,51,52,53,54,55,56,57,97,98,99,100,101,102,103,104,105,106,107,108,109,110,111,112,113,114,115,116,117,118,119,120,121,122]⟩:ByteArray).size=36:=rfl
 have e200:(⟨#[48,48,48,49,48,50,48,51,48,52,48,53,48,54,48,55,48,56,48,57,49,48,49,49,49,50,49,51,49,52,49,53,49,54,49,55,49,56,49,57,50,48,50,49,50,50,50,51,50,52,50,53,50,54,50,55,50,56,50,57,51,48,51,49,51,50,51,51,51,52,51,53,51,54,51,55,51,56,51,57,52,48,52,49,52,50,52,51,52,52,52,53,52,54,52,55,52,56,52,57,53,48,53,49,53,50,53,51,53,52,53,53,53,54,53,55,53,56,53,57,54,48,54,49,54,50,54,51,54,52,54,53,54,54,54,55,54,56,54,57,55,48,55,49,55,50,55,51,55,52,55,53,55,54,55,55,55,56,55,57,56,48,56,49,56,50,56,51,56,52,56,53,56,54,56,55,56,56,56,57,57,48,57,49,57,50,57,51,57,52,57,53,57,54,57,55,57,56,57,57]⟩:ByteArray).size=200:=rfl
 refine sr (fO (OF.assign (VEv.str (⟨#[]⟩:ByteArray))) (nt (sq (sr (mO (tI n0) Y (fO (xls (tv (tI n0) Y) (VEv.int .i64 10)) (nt ?_)))))))
 refine cd (n0<10) Y (fun fhc0=> ?_) fun fhc0=> ?_
 ·refine sr ?_
  refine mO (tI n0) Y (mO (tI n0) Y (fO (B.add (n:=(n0+1)) (tv (tI n0) Y) (VEv.int .i64 1) (by first | rfl | (rw [Qq (by omega)];omega) | (rw [Qq (by omega)];done))) (lO (OL.sliceS (i:=(Int.toNat n0)) (j:=(Int.toNat (n0+1))) (VEv.str (⟨#[48,49,50,51,52,53,54,55,56,57,97,98,99,100,101,102,103,104,105,106,107,108,109,110,111,112,113,114,115,116,117,118,119,120,121,122]⟩:ByteArray)) (tv (tI n0) Y) (tv (tI (n0+1)) Y) (by omega) (by omega) (by first | omega | (simp only [List.length_map];omega) | (simp only [List.length_map,List.length_append,List.length_cons,List.length_nil,List.length_replicate,List.length_set,List.length_drop,List.length_take,Zr] at *;omega)) (by first | omega | (simp only [List.length_map];omega) | (simp only [List.length_map,List.length_append,List.length_cons,List.length_nil,List.length_replicate,List.length_set,List.length_drop,List.length_take,Zr] at *;omega)) U9) (aO (tS ((⟨#[48,49,50,51,52,53,54,55,56,57,97,98,99,100,101,102,103,104,105,106,107,108,109,110,111,112,113,114,115,116,117,118,119,120,121,122]⟩:ByteArray).extract (Int.toNat n0) (Int.toNat (n0+1)))) Y (nt (rt (tr ?_)))))))
  refine vfin.eq (r':=(tS ((⟨#[48,49,50,51,52,53,54,55,56,57,97,98,99,100,101,102,103,104,105,106,107,108,109,110,111,112,113,114,115,116,117,118,119,120,121,122]⟩:ByteArray).extract (Int.toNat n0) (Int.toNat (n0+1))))) ?_ (vfin.r (VRes.tmp (t:=(tS ((⟨#[48,49,50,51,52,53,54,55,56,57,97,98,99,100,101,102,103,104,105,106,107,108,109,110,111,112,113,114,115,116,117,118,119,120,121,122]⟩:ByteArray).extract (Int.toNat n0) (Int.toNat (n0+1))))) Y VRes.nil) (Give.str _))
  refine congrArg T.str ?_
  exact Qlc hn (by assumption)
 refine sk (tn (sr (mO (tI n0) Y (fO (B.mul (n:=(n0*2)) (tv (tI n0) Y) (VEv.int .i64 2) (by first | rfl | (rw [Qq (by omega)];omega) | (rw [Qq (by omega)];done))) (mO (tI n0) Y (fO (B.mul (n:=(n0*2)) (tv (tI n0) Y) (VEv.int .i64 2) (by first | rfl | (rw [Qq (by omega)];omega) | (rw [Qq (by omega)];done))) (fO (B.add (n:=((n0*2)+2)) (tv (tI (n0*2)) Y) (VEv.int .i64 2) (by first | rfl | (rw [Qq (by omega)];omega) | (rw [Qq (by omega)];done))) (lO (OL.sliceS (i:=(Int.toNat (n0*2))) (j:=(Int.toNat ((n0*2)+2))) (VEv.str (⟨#[48,48,48,49,48,50,48,51,48,52,48,53,48,54,48,55,48,56,48,57,49,48,49,49,49,50,49,51,49,52,49,53,49,54,49,55,49,56,49,57,50,48,50,49,50,50,50,51,50,52,50,53,50,54,50,55,50,56,50,57,51,48,51,49,51,50,51,51,51,52,51,53,51,54,51,55,51,56,51,57,52,48,52,49,52,50,52,51,52,52,52,53,52,54,52,55,52,56,52,57,53,48,53,49,53,50,53,51,53,52,53,53,53,54,53,55,53,56,53,57,54,48,54,49,54,50,54,51,54,52,54,53,54,54,54,55,54,56,54,57,55,48,55,49,55,50,55,51,55,52,55,53,55,54,55,55,55,56,55,57,56,48,56,49,56,50,56,51,56,52,56,53,56,54,56,55,56,56,56,57,57,48,57,49,57,50,57,51,57,52,57,53,57,54,57,55,57,56,57,57]⟩:ByteArray)) (tv (tI (n0*2)) Y) (tv (tI ((n0*2)+2)) Y) (by omega) (by omega) (by first | omega | (simp only [List.length_map];omega) | (simp only [List.length_map,List.length_append,List.length_cons,List.length_nil,List.length_replicate,List.length_set,List.length_drop,List.length_take,Zr] at *;omega)) (by first | omega | (simp only [List.length_map];omega) | (simp only [List.length_map,List.length_append,List.length_cons,List.length_nil,List.length_replicate,List.length_set,List.length_drop,List.length_take,Zr] at *;omega)) U9) (aO (tS ((⟨#[48,48,48,49,48,50,48,51,48,52,48,53,48,54,48,55,48,56,48,57,49,48,49,49,49,50,49,51,49,52,49,53,49,54,49,55,49,56,49,57,50,48,50,49,50,50,50,51,50,52,50,53,50,54,50,55,50,56,50,57,51,48,51,49,51,50,51,51,51,52,51,53,51,54,51,55,51,56,51,57,52,48,52,49,52,50,52,51,52,52,52,53,52,54,52,55,52,56,52,57,53,48,53,49,53,50,53,51,53,52,53,53,53,54,53,55,53,56,53,57,54,48,54,49,54,50,54,51,54,52,54,53,54,54,54,55,54,56,54,57,55,48,55,49,55,50,55,51,55,52,55,53,55,54,55,55,55,56,55,57,56,48,56,49,56,50,56,51,56,52,56,53,56,54,56,55,56,56,56,57,57,48,57,49,57,50,57,51,57,52,57,53,57,54,57,55,57,56,57,57]⟩:ByteArray).extract (Int.toNat (n0*2)) (Int.toNat ((n0*2)+2)))) Y (nt (rt ?_)))))))))))
 refine vfin.eq (r':=(tS ((⟨#[48,48,48,49,48,50,48,51,48,52,48,53,48,54,48,55,48,56,48,57,49,48,49,49,49,50,49,51,49,52,49,53,49,54,49,55,49,56,49,57,50,48,50,49,50,50,50,51,50,52,50,53,50,54,50,55,50,56,50,57,51,48,51,49,51,50,51,51,51,52,51,53,51,54,51,55,51,56,51,57,52,48,52,49,52,50,52,51,52,52,52,53,52,54,52,55,52,56,52,57,53,48,53,49,53,50,53,51,53,52,53,53,53,54,53,55,53,56,53,57,54,48,54,49,54,50,54,51,54,52,54,53,54,54,54,55,54,56,54,57,55,48,55,49,55,50,55,51,55,52,55,53,55,54,55,55,55,56,55,57,56,48,56,49,56,50,56,51,56,52,56,53,56,54,56,55,56,56,56,57,57,48,57,49,57,50,57,51,57,52,57,53,57,54,57,55,57,56,57,57]⟩:ByteArray).extract (Int.toNat (n0*2)) (Int.toNat ((n0*2)+2))))) ?_ (vfin.r (VRes.tmp (t:=(tS ((⟨#[48,48,48,49,48,50,48,51,48,52,48,53,48,54,48,55,48,56,48,57,49,48,49,49,49,50,49,51,49,52,49,53,49,54,49,55,49,56,49,57,50,48,50,49,50,50,50,51,50,52,50,53,50,54,50,55,50,56,50,57,51,48,51,49,51,50,51,51,51,52,51,53,51,54,51,55,51,56,51,57,52,48,52,49,52,50,52,51,52,52,52,53,52,54,52,55,52,56,52,57,53,48,53,49,53,50,53,51,53,52,53,53,53,54,53,55,53,56,53,57,54,48,54,49,54,50,54,51,54,52,54,53,54,54,54,55,54,56,54,57,55,48,55,49,55,50,55,51,55,52,55,53,55,54,55,55,55,56,55,57,56,48,56,49,56,50,56,51,56,52,56,53,56,54,56,55,56,56,56,57,57,48,57,49,57,50,57,51,57,52,57,53,57,54,57,55,57,56,57,57]⟩:ByteArray).extract (Int.toNat (n0*2)) (Int.toNat ((n0*2)+2))))) Y VRes.nil) (Give.str _))
 refine congrArg T.str ?_
 exact Qke hn (by assumption)
theorem Jo (n:Nat) (n0:Int) (b0:Int) (hn:0≤n0∧n0<100) (hb:b0=10):Pure (Qr Tryz.prog (n+2)) 148 [(tI n0),(tI b0)] (tS (Yf n0)):=by
 refine Pure.intro (rs:= [ResultVar.tmp 4]) Tryz.func148 Y Y Y (E0:= [(0,(tI n0)),(1,(tI b0))]) Y ?_
 obtain ⟨hlim,hmx,hmax⟩:=QE
 refine sr (fO (OF.assign (VEv.str (⟨#[]⟩:ByteArray))) (nt (sq (sr (mO (tI b0) Y (fO (YD (tv (tI b0) Y) (VEv.int .i64 10)) (nt ?_)))))))
 refine cd (b0=10) Y (fun fhc0=> ?_) fun fhc0=> ?_
 ·refine sq ?_
  refine sr (mO (tI n0) Y (fO (xle (VEv.int .i64 0) (tv (tI n0) Y)) (mO (tB (decide (0≤n0))) Y ?_)))
  refine VRunO.joinB 3 [15,16] 17 (tB (decide ((0≤n0)∧(n0<100)))) ?_ ?_
  ·refine gw (0≤n0) (fun fhg14_1=> ?_) fun fhg14_1=> ?_
   ·refine gF (dy fhg14_1) Y Y (OF.move (tv (tI n0) Y)) ?_
    refine gF (dy fhg14_1) Y Y (xls (tv (tI n0) Y) (VEv.int .i64 100)) (fO (OF.pickT (VEv.tmpB Y (dy fhg14_1)) (tv (tB (decide (n0<100))) Y)) (VRunO.nil ?_))
    exact jq (congrArg T.bool (kAT fhg14_1 Y)) (js Y (js Y (jn)))
   ·refine QA 2 2 true 14 (dz fhg14_1) Y Y Y ?_
    refine fO (OF.pickF (VEv.tmpB Y (dz fhg14_1)) (VEv.bool false)) (VRunO.nil ?_)
    exact jq (congrArg T.bool (kAF fhg14_1)) (js Y (js Y (jn)))
  refine nt ?_
  refine cd ((0≤n0)∧(n0<100)) Y (fun fhc1=> ?_) fun fhc1=> ?_
  ·refine sr ?_
   refine mO (tI n0) Y (cO (cS (vc (tv (tI n0) Y) vn) (ZH Y) (Qan (n+0) n0 (by first | assumption | omega)) Y Y) (aO (tS (Yf n0)) Y (nt (rt (tr (tr ?_))))))
   refine vfin.eq (r':=(tS (Yf n0))) ?_ (vfin.r (VRes.tmp (t:=(tS (Yf n0))) Y VRes.nil) (Give.str _))
   rfl
  omega
 omega
theorem Qay (n:Nat) (n0:Int) (hn:0≤n0∧n0<100):Pure (Qr Tryz.prog (n+3)) 128 [(tI n0)] (tS (Yf n0)):=by
 refine Pure.intro (rs:= [ResultVar.tmp 2]) Tryz.func128 Y Y Y (E0:= [(0,(tI n0))]) Y ?_
 obtain ⟨hlim,hmx,hmax⟩:=QE
 refine sr (fO (OF.assign (VEv.str (⟨#[]⟩:ByteArray))) (nt (sr (mO (tI n0) Y (cO (cS (vc (tv (tI n0) Y) (vc (VEv.int .i64 10) vn)) (ZH Y) (Jo (n+0) n0 10 (by first | assumption | omega) (by first | assumption | omega)) Y Y) (aO (tS (Yf n0)) Y (nt (rt ?_))))))))
 refine vfin.eq (r':=(tS (Yf n0))) ?_ (vfin.r (VRes.tmp (t:=(tS (Yf n0))) Y VRes.nil) (Give.str _))
 rfl
theorem QeL (n:Nat) (n0:Int) (hn:0≤n0∧n0<100):Pure (Qr Tryz.prog (n+4)) 94 [(tI n0)] (tS (Yf n0)):=by
 refine Pure.intro (rs:= [ResultVar.tmp 2]) Tryz.func94 Y Y Y (E0:= [(0,(tI n0))]) Y ?_
 obtain ⟨hlim,hmx,hmax⟩:=QE
 refine sr (fO (OF.assign (VEv.str (⟨#[]⟩:ByteArray))) (nt (sr (mO (tI n0) Y (cO (cS (vc (tv (tI n0) Y) vn) (ZH Y) (Qay (n+0) n0 (by first | assumption | omega)) Y Y) (aO (tS (Yf n0)) Y (nt (rt ?_))))))))
 refine vfin.eq (r':=(tS (Yf n0))) ?_ (vfin.r (VRes.tmp (t:=(tS (Yf n0))) Y VRes.nil) (Give.str _))
 rfl
theorem Qc2 (n:Nat) (n0:Int) (hn:0≤n0∧n0<100):Pure (Qr Tryz.prog (n+5)) 69 [(tI n0)] (tS (Yf n0)):=by
 refine Pure.intro (rs:= [ResultVar.tmp 2]) Tryz.func69 Y Y Y (E0:= [(0,(tI n0))]) Y ?_
 obtain ⟨hlim,hmx,hmax⟩:=QE
 refine sr (fO (OF.assign (VEv.str (⟨#[]⟩:ByteArray))) (nt (sr (mO (tI n0) Y (cO (cS (vc (tv (tI n0) Y) vn) (ZH Y) (QeL (n+0) n0 (by first | assumption | omega)) Y Y) (aO (tS (Yf n0)) Y (nt (rt ?_))))))))
 refine vfin.eq (r':=(tS (Yf n0))) ?_ (vfin.r (VRes.tmp (t:=(tS (Yf n0))) Y VRes.nil) (Give.str _))
 rfl
theorem Qdp (n:Nat) (n0:Int) (hn:0≤n0∧n0<100):Pure (Qr Tryz.prog (n+1)) 67 [(tI n0)] (tS (Yf n0)):=by
 refine Pure.intro (rs:= [ResultVar.tmp 2]) Tryz.func67 Y Y Y (E0:= [(0,(tI n0))]) Y ?_
 obtain ⟨hlim,hmx,hmax⟩:=QE
 refine sr (fO (OF.assign (VEv.str (⟨#[]⟩:ByteArray))) (nt (sq (sr (mO (tI n0) Y (fO (YD (tv (tI n0) Y) (VEv.int .i64 0)) (nt ?_)))))))
 refine cd (n0=0) Y (fun fhc0=> ?_) fun fhc0=> ?_
 ·refine sr ?_
  refine fO (OF.assign (VEv.str (⟨#[48]⟩:ByteArray))) (nt (rt (tr ?_)))
  refine vfin.eq (r':=(tS (⟨#[48]⟩:ByteArray))) ?_ (vfin.r (VRes.tmp (t:=(tS (⟨#[48]⟩:ByteArray))) Y VRes.nil) (Give.str _))
  refine congrArg T.str ?_
  subst fhc0;rfl
 refine sk (tn (sr (fO (OF.assign (VEv.str (⟨#[]⟩:ByteArray))) (nt (sq (sr (mO (tI n0) Y (aO (tI n0) Y (nt (VRun.block ?_))))))))))
 refine VRun.loop (A:=Nat) (fun s_=> [(0,(tI n0)),(2,(tS (⟨#[]⟩:ByteArray))),(3,(tS (dgT n0 s_))),(4,(tI (dgX n0 s_)))]) (fun s_=>Q5 []) 0 (fun s_=>s_≤2∧(s_=2→10≤n0)) (fun s_=>2 - s_) (0:Nat) ?_ (Wk.mk (fun k=>k) ?_ ?_ ?_) ?_
 ·exact ⟨by omega,fun e=>by omega⟩
 ·exact (b2 (b2 (bc ⟨(congrArg T.str (show (⟨#[]⟩:ByteArray)=dgT n0 0 from (by first | rfl | assumption | exact hT | exact hq | rfl | (simp_all;done)))),rfl⟩ (bc ⟨(congrArg (T.int .i64) (show n0=dgX n0 0 from (by first | rfl | omega | exact hT | exact hq | rfl | (simp;done) | (push_cast;omega)))),rfl⟩ bn))))
 ·exact bn
 ·exact nd Y
 rintro j (hI':j≤2∧(j=2→10≤n0))
 show VRun _ _ _ [(0,(tI n0)),(2,(tS (⟨#[]⟩:ByteArray))),(3,(tS (dgT n0 j))),(4,(tI (dgX n0 j)))] (Q5 []) 0 _
 have hI1:=hI'
 refine sq (sr (mO (tI (dgX n0 j)) Y (fO (xne (tv (tI (dgX n0 j)) Y) (VEv.int .i64 0)) (nt ?_))))
 refine cn (dgX n0 j=0) Y (fun fhc1=> ?_) fun fhc1=> ?_
 ·have hj0:=QnI fhc1
  have hm:=Qnu hn hj0
  have hq:=Qns hn hj0
  have hmb:=Qnw hn hj0
  have hxb:=QnT hn hj0
  have hT:=Qng hn hj0
  have hxc:=Qnq hn hj0
  have e1s:(Z2 [IntKind.u8.wrap (48+dgM n0 j)]).size=1:=rfl
  have e0s:=Qnk n0 j
  refine sk (tn (sq (VRun.block (sr (mO (tI (dgX n0 j)) Y (fO (B.rem (n:=(dgM n0 j)) (tv (tI (dgX n0 j)) Y) (VEv.int .i64 10) (by omega) (by first | exact hm | (rw [hq,Qq (by omega)]) | rfl | (rw [Qq (by omega)];omega) | (rw [Qq (by omega)];done))) (aO (tI (dgM n0 j)) Y (nt (sq (sr (mO (tI (dgM n0 j)) Y ?_)))))))))))
  refine fO (xls (tv (tI (dgM n0 j)) Y) (VEv.int .i64 0)) (nt ?_)
  refine cd (dgM n0 j<0) Y (fun fhc2=> ?_) fun fhc2=> ?_
  ·omega
  refine sk (tn (VRun.region (mO (tI (dgM n0 j)) Y (fO (B.add (n:=(48+dgM n0 j)) (VEv.int .i64 48) (tv (tI (dgM n0 j)) Y) (by first | exact hm | (rw [hq,Qq (by omega)]) | rfl | (rw [Qq (by omega)];omega) | (rw [Qq (by omega)];done))) (fO (OF.convI (tv (tI (48+dgM n0 j)) Y) (k0:= .i64) U3 U5) (kO (OM.buildSlice (l:= [(T.int .u8 (IntKind.u8.wrap (48+dgM n0 j)))]) (VEvp.cons (tv (T.int .u8 (IntKind.u8.wrap (48+dgM n0 j))) Y) VEvp.nil) Y (by decide) (bc (nofun) bn) (bc ((bc (Y) bn)) bn) (bc (Y) bn) U92 zo5 (by kernel_rfl) Y (by rw [sz5];decide) sz5 (Nat.le_of_ble_eq_true Y)) (lO (B.convBS (l:= [IntKind.u8.wrap (48+dgM n0 j)]) (tv (T.os 1 0 0 1) Y) Y Y U92 U5 U9) (mO (tS (dgT n0 j)) Y (fO (B.sadd (tv (tS (Z2 [IntKind.u8.wrap (48+dgM n0 j)])) Y) (tv (tS (dgT n0 j)) Y) (by first | exact hm | (rw [hq,Qq (by omega)]) | omega | (simp only [List.length_map];omega) | (simp only [List.length_map,List.length_append,List.length_cons,List.length_nil,List.length_replicate,List.length_set,List.length_drop,List.length_take,Zr] at *;omega))) (aO (tS ((Z2 [IntKind.u8.wrap (48+dgM n0 j)])++dgT n0 j)) Y (VRunO.nil ?_)))))))))))
  refine vinB.n (tn (VRun.region (mO (tI (dgX n0 j)) Y (fO (B.quo (n:=(dgX n0 (j+1))) (tv (tI (dgX n0 j)) Y) (VEv.int .i64 10) (by omega) (by first | exact hm | (rw [hq,Qq (by omega)]) | rfl | (rw [Qq (by omega)];omega) | (rw [Qq (by omega)];done))) (aO (tI (dgX n0 (j+1))) Y (VRunO.nil (tn ?_)))))))
  refine ⟨(j+1:Nat),?_,?_,Wk.mk (fun k=>k) ?_ ?_ ?_⟩
  ·exact QjR hj0 fhc1 hn
  ·(rcases hj0 with rfl | rfl<;>omega)
  ·exact (b2 (b2 (bc ⟨(congrArg T.str (show ((Z2 [IntKind.u8.wrap (48+dgM n0 j)])++dgT n0 j)=dgT n0 (j+1) from (by first | rfl | assumption | exact hT | exact hq | rfl | (simp_all;done)))),rfl⟩ (b2 bn))))
  ·exact bn
  ·exact nd Y
 refine VRun.exit (vthn.e (vthn.e (vinB.e (tn (sq (sr (mO (tI n0) Y (fO (xls (tv (tI n0) Y) (VEv.int .i64 0)) (nt ?_)))))))))
 refine cd (n0<0) Y (fun fhc3=> ?_) fun fhc3=> ?_
 ·omega
 refine sk (tn (sr (mO (tS (dgT n0 j)) Y (aO (tS (dgT n0 j)) Y (nt (rt ?_))))))
 refine vfin.eq (r':=(tS (dgT n0 j))) ?_ (vfin.r (VRes.tmp (t:=(tS (dgT n0 j))) Y VRes.nil) (Give.str _))
 refine congrArg T.str ?_
 exact QlK hn fhc0 hI1 fhc1
noncomputable section
def lt0 : ByteArray:=⟨#[32,32,98,109,106,105,104,110,116,100]⟩
def lt1 : ByteArray:=⟨#[63,63,98,109,106,105,104,110,116,100]⟩
def ltr (k:Int):ByteArray:=lt0.extract (Int.toNat k) (Int.toNat (k+1))
theorem Ql2 {k:Int} (h:2≤k∧k≤9):lt1.extract (Int.toNat k) (Int.toNat (k+1))=ltr k:=by
 have:k=2∨k=3∨k=4∨k=5∨k=6∨k=7∨k=8∨k=9:=by omega
 rcases this with rfl | rfl | rfl | rfl | rfl | rfl | rfl | rfl<;>rfl
theorem QkQ {k:Int} (h:2≤k∧k≤9):(ltr k).size=1:=by
 have:k=2∨k=3∨k=4∨k=5∨k=6∨k=7∨k=8∨k=9:=by omega
 rcases this with rfl | rfl | rfl | rfl | rfl | rfl | rfl | rfl<;>rfl
def pT (l:List D.Step):Nat→Int→ByteArray
 | 0,_=>⟨#[]⟩
 | d+1,i=>match l[Int.toNat i]? with
  | none=>⟨#[]⟩
  | some x=>if x.Kind=1 then x.Word else if x.Kind=4∨x.Kind=5 then ltr x.Kind++⟨#[40]⟩++pT l d x.A++⟨#[44]⟩++pT l d x.B++⟨#[41]⟩ else ltr x.Kind++⟨#[40]⟩++pT l d x.A++⟨#[41]⟩
theorem Qjh {l:List D.Step} {d:Nat} {i:Int} {x:D.Step} (hx:l[Int.toNat i]? =some x) (h:x.Kind=1):pT l (d+1) i=x.Word:=by
 rw [pT,hx];simp only;rw [if_pos h]
theorem QhF {l:List D.Step} {d:Nat} {i:Int} {x:D.Step} (hx:l[Int.toNat i]? =some x) (h:¬x.Kind=1) (h2:x.Kind=4∨x.Kind=5):pT l (d+1) i=ltr x.Kind++⟨#[40]⟩++pT l d x.A++⟨#[44]⟩++pT l d x.B++⟨#[41]⟩:=by
 rw [pT,hx];simp only;rw [if_neg h,if_pos h2]
theorem QhW {l:List D.Step} {d:Nat} {i:Int} {x:D.Step} (hx:l[Int.toNat i]? =some x) (h:¬x.Kind=1) (h2:¬(x.Kind=4∨x.Kind=5)):pT l (d+1) i=ltr x.Kind++⟨#[40]⟩++pT l d x.A++⟨#[41]⟩:=by
 rw [pT,hx];simp only;rw [if_neg h,if_neg h2]
theorem YQ {l:List D.Step} {i:Nat} {x:D.Step} (h:QT l) (hx:l[i]? =some x):(1≤x.Kind∧x.Kind≤9)∧(x.Kind=1→x.Word.size≤8)∧(¬x.Kind=1→(0≤x.A∧x.A<(i:Int))∧((x.Kind=4∨x.Kind=5)→0≤x.B∧x.B<(i:Int))):=by
 have hi:=(List.getElem?_eq_some_iff.1 hx).1
 obtain ⟨y,hy,h1,h2,h3⟩:=h.2 i hi
 rw [hx] at hy
 obtain rfl:=Option.some.inj hy
 exact ⟨h1,fun e=>(h2 e).1.1.2,fun e=>⟨(h3 e).2.1,fun e2=>(h3 e).2.2.1 e2⟩⟩
theorem QlY {l:List D.Step} (hp:QT l):∀(d:Nat) (i:Int),(pT l d i).size+4≤12*2 ^ d
 | 0,i=>Nat.le_trans (Nat.le_refl 4) (by decide)
 | d+1,i=>by
  have ih:=QlY hp d
  have e1:(⟨#[40]⟩:ByteArray).size=1:=rfl
  have e2:(⟨#[41]⟩:ByteArray).size=1:=rfl
  have e3:(⟨#[44]⟩:ByteArray).size=1:=rfl
  have hpw:2 ^ (d+1)=2*2 ^ d:=by rw [Nat.pow_succ];omega
  have hp1:1≤2 ^ d:=Nat.one_le_two_pow
  cases hx:l[Int.toNat i]? with
  | none =>
   rw [pT,hx]
   show 0+4≤_
   omega
  | some x =>
   obtain ⟨h1,h2,h3⟩:=YQ hp hx
   by_cases hk:x.Kind=1
   ·rw [Qjh hx hk]
    have:=h2 hk
    omega
   ·have hA:=ih x.A
    have hB:=ih x.B
    have hl:=QkQ (k:=x.Kind) (by omega)
    by_cases h4:x.Kind=4∨x.Kind=5
    ·rw [QhF hx hk h4]
     simp only [ByteArray.size_append]
     omega
    ·rw [QhW hx hk h4]
     simp only [ByteArray.size_append]
     omega
theorem Qko {l:List D.Step} (hp:QT l) {d:Nat} (hd:d≤9) (i:Int):(pT l d i).size≤6140:=by
 have h1:=QlY hp d i
 have h2:2 ^ d≤2 ^ 9:=Nat.pow_le_pow_right (by decide) hd
 have h3:2 ^ 9=512:=rfl
 omega
theorem QiH {l:List D.Step} (hp:QT l):∀(d e:Nat) (i:Int),0≤i→i<(d:Int)→i<(e:Int)→pT l d i=pT l e i
 | 0,_,i,h0,h1,_=>by omega
 | _+1,0,i,h0,_,h2=>by omega
 | d+1,e+1,i,h0,h1,h2=>by
  cases hx:l[Int.toNat i]? with
  | none=>rw [pT,pT,hx]
  | some x =>
   obtain ⟨h3,h4,h5⟩:=YQ hp hx
   by_cases hk:x.Kind=1
   ·rw [Qjh hx hk,Qjh hx hk]
   ·have h6:=h5 hk
    by_cases h7:x.Kind=4∨x.Kind=5
    ·have h8:=h6.2 h7
     rw [QhF hx hk h7,QhF hx hk h7,QiH hp d e x.A (by omega) (by omega) (by omega),QiH hp d e x.B (by omega) (by omega) (by omega)]
    ·rw [QhW hx hk h7,QhW hx hk h7,QiH hp d e x.A (by omega) (by omega) (by omega)]
theorem Qkn (s:ByteArray) (a b:Nat):(s.extract a b).size≤b - a:=by rw [ByteArray.size_extract];omega
end
theorem Qex (n:Nat):∀(d:Nat) (l:List D.Step) (i:Int) (hp:QT l) (hz:zL Zf l≤mx) (hd:d≤9) (hi:0≤i∧i<(d:Int)∧i<(l.length:Int)),Pure (Qr Tryz.prog (n+d+0)) 92 [(rd 4 Qg l),(tI i)] (tS (pT l d i)):=by
 intro d
 induction d with
 | zero=>intro l i hp hz hd hi;exact absurd hi.2.1 (by omega)
 | succ d ih =>
 intro l i hp hz hd hi
 refine Pure.intro (n:=n+d+0) (rs:= [ResultVar.tmp 4]) Tryz.func92 Y Y Y (E0:= [(0,(rd 4 Qg l)),(1,(tI i))]) Y ?_
 obtain ⟨hlim,hmx,hmax⟩:=QE
 have hl:=Zb (z:=Zf) l
 have e10:(⟨#[32,32,98,109,106,105,104,110,116,100]⟩:ByteArray).size=10:=rfl
 have e40:(⟨#[40]⟩:ByteArray).size=1:=rfl
 have e41:(⟨#[41]⟩:ByteArray).size=1:=rfl
 have e44:(⟨#[44]⟩:ByteArray).size=1:=rfl
 refine sr (fO (OF.assign (VEv.str (⟨#[]⟩:ByteArray))) (nt (sr (mO (rd 4 Qg l) Y (mO (tI i) Y ?_)))))
 obtain ⟨x1,hx1⟩:∃x,l[(Int.toNat i)]? =some x:=⟨_,List.getElem?_eq_getElem (by first | (simp only [ByteArray.size_append];omega) | omega)⟩
 have hb1:=YQ hp hx1
 refine fO (OF.indexAddrR (row:=(Qg false x1)) (i:=(Int.toNat i)) (tv (rd 4 Qg l) Y) (tv (tI i) Y) (by omega) (Qt _ hx1) U72 ZQ YA) (lO (OL.loadRn (us:=(Qg false x1)) (tv (T.rp (Qg false x1)) Y) QcT ZQ (lb Y) Y) (kO (B.alloc (t:=(T.agg [(tN 0),(tS ByteArray.empty),(tN 0),(tN 0)])) (ts:= [(tN 0),(tS ByteArray.empty),(tN 0),(tN 0)]) QdG QdC nofun (fun _=> .agg _ _ Y (YZ (RL.cons (.int _ _) (RL.cons (.str _) (RL.cons (.int _ _) (RL.cons (.int _ _) (RL.nil _))))))) Y) (cO (B.storeW (us:=(Qg false x1)) (tv (T.op 0 0) Y) (tv (T.agg (Qg false x1)) Y) nofun Y Y Y YA ZQ (bc Y (bc Y (bc Y (bc Y bn))))) (nt (sq (sr (lf (tI x1.Kind) Y QV Y Y QX (fO (YD (tv (tI x1.Kind) Y) (VEv.int .i64 1)) (nt ?_)))))))))
 refine cd (x1.Kind=1) Y (fun fhc0=> ?_) fun fhc0=> ?_
 ·refine sr ?_
  refine lf (tS x1.Word) Y YU Y Y Ye (aO (tS x1.Word) Y (nt (rt (tr ?_))))
  refine vfin.eq (r':=(tS x1.Word)) ?_ (vfin.r (VRes.tmp (t:=(tS x1.Word)) Y VRes.nil) (Give.str _))
  refine congrArg T.str ?_
  exact (Qjh hx1 fhc0).symm
 have hkA:=hb1.2.2 fhc0
 have hex:=Qkn (⟨#[32,32,98,109,106,105,104,110,116,100]⟩:ByteArray) (Int.toNat x1.Kind) (Int.toNat (x1.Kind+1))
 have hsA:=Qko hp (d:=d) (by omega) x1.A
 have hsB:=Qko hp (d:=d) (by omega) x1.B
 refine sk (tn (sq (VRun.draw (B:= [[],[0],[],[2],[2,3],[3,2,4,0,1],[1,0,4,2,3,5],[],[],[8],[8,9,7],[7,9,8,10,5,3,2,4,0,1,6],[6,1,0,4,2,3,5,10,8,9,7,11]]) (by kernel_rfl) (by kernel_rfl) (fD (OF.fieldAddrO (tv (T.op 0 0) Y) QV) Y Y (lD (OL.loadO1 (t:=(tI x1.Kind)) (tv (T.op 0 0) Y) Y Y QX) Y Y (fD (OF.fieldAddrO (tv (T.op 0 0) Y) QV) Y Y (lD (OL.loadO1 (t:=(tI x1.Kind)) (tv (T.op 0 0) Y) Y Y QX) Y Y (fD (B.add (n:=(x1.Kind+1)) (tv (tI x1.Kind) Y) (VEv.int .i64 1) (by first | (simp only [ByteArray.size_append];omega) | rfl | (rw [Qq (by omega)];omega) | (rw [Qq (by omega)];done))) Y Y (lD (OL.sliceS (i:=(Int.toNat x1.Kind)) (j:=(Int.toNat (x1.Kind+1))) (VEv.str (⟨#[32,32,98,109,106,105,104,110,116,100]⟩:ByteArray)) (tv (tI x1.Kind) Y) (tv (tI (x1.Kind+1)) Y) (by omega) (by omega) (by first | (simp only [ByteArray.size_append];omega) | omega | (simp only [List.length_map];omega) | (simp only [List.length_map,List.length_append,List.length_cons,List.length_nil,List.length_replicate,List.length_set,List.length_drop,List.length_take,Zr] at *;omega)) (by first | (simp only [ByteArray.size_append];omega) | omega | (simp only [List.length_map];omega) | (simp only [List.length_map,List.length_append,List.length_cons,List.length_nil,List.length_replicate,List.length_set,List.length_drop,List.length_take,Zr] at *;omega)) U9) Y Y (fD (B.sadd (tv (tS ((⟨#[32,32,98,109,106,105,104,110,116,100]⟩:ByteArray).extract (Int.toNat x1.Kind) (Int.toNat (x1.Kind+1)))) Y) (VEv.str (⟨#[40]⟩:ByteArray)) (by first | (simp only [ByteArray.size_append];omega) | omega | (simp only [List.length_map];omega) | (simp only [List.length_map,List.length_append,List.length_cons,List.length_nil,List.length_replicate,List.length_set,List.length_drop,List.length_take,Zr] at *;omega))) Y Y (mD (rd 4 Qg l) Y Y ?_)))))))))))
 refine fD (OF.fieldAddrO (tv (T.op 0 0) Y) Z4) Y Y (lD (OL.loadO1 (t:=(tI x1.A)) (tv (T.op 0 2) Y) Y Y QX) Y Y (VRunD.quiet (bi:= [8,9,7]) Y VWant.always Y Y Y bn (cS (vc (tv (rd 4 Qg l) Y) (vc (tv (tI x1.A) Y) vn)) (ZH Y) (ih l x1.A (by first | (simp only [ByteArray.size_append];omega) | assumption | omega) (by first | (simp only [ByteArray.size_append];omega) | assumption | omega) (by first | (simp only [ByteArray.size_append];omega) | assumption | omega) (by first | (simp only [ByteArray.size_append];omega) | assumption | omega)) Y Y) (fD (B.sadd (tv (tS (((⟨#[32,32,98,109,106,105,104,110,116,100]⟩:ByteArray).extract (Int.toNat x1.Kind) (Int.toNat (x1.Kind+1)))++(⟨#[40]⟩:ByteArray))) Y) (tv (tS (pT l d x1.A)) Y) (by first | (simp only [ByteArray.size_append];omega) | omega | (simp only [List.length_map];omega) | (simp only [List.length_map,List.length_append,List.length_cons,List.length_nil,List.length_replicate,List.length_set,List.length_drop,List.length_take,Zr] at *;omega))) Y Y (fD (OF.assign (tv (tS ((((⟨#[32,32,98,109,106,105,104,110,116,100]⟩:ByteArray).extract (Int.toNat x1.Kind) (Int.toNat (x1.Kind+1)))++(⟨#[40]⟩:ByteArray))++pT l d x1.A)) Y)) Y Y (VRunD.nil (tn (sq (sr (lf (tI x1.Kind) Y QV Y Y QX (fO (YD (tv (tI x1.Kind) Y) (VEv.int .i64 4)) (mO (tB (decide (x1.Kind=4))) Y ?_)))))))))))
 refine VRunO.joinB 4 [32,33,34] 35 (tB (decide ((x1.Kind=4)∨(x1.Kind=5)))) ?_ ?_
 ·refine gw (x1.Kind=4) (fun fhg31_1=> ?_) fun fhg31_1=> ?_
  ·refine QA 3 3 false 31 (dy fhg31_1) Y Y Y ?_
   refine fO (OF.pickT (VEv.tmpB Y (dy fhg31_1)) (VEv.bool true)) (VRunO.nil ?_)
   exact jq (congrArg T.bool (kOT fhg31_1)) (js Y (js Y (js Y (jn))))
  ·refine Yl (tI x1.Kind) (dz fhg31_1) Y Y Y Y QV Y Y QX ?_
   refine gF (dz fhg31_1) Y Y (YD (tv (tI x1.Kind) Y) (VEv.int .i64 5)) (fO (OF.pickF (VEv.tmpB Y (dz fhg31_1)) (tv (tB (decide (x1.Kind=5))) Y)) (VRunO.nil ?_))
   exact jq (congrArg T.bool (kOF fhg31_1 Y)) (js Y (js Y (js Y (jn))))
 refine nt ?_
 refine cd ((x1.Kind=4)∨(x1.Kind=5)) Y (fun fhc1=> ?_) fun fhc1=> ?_
 ·have hkB:=hkA.2 fhc1
  refine VRun.region (mO (tS ((((⟨#[32,32,98,109,106,105,104,110,116,100]⟩:ByteArray).extract (Int.toNat x1.Kind) (Int.toNat (x1.Kind+1)))++(⟨#[40]⟩:ByteArray))++pT l d x1.A)) Y (fO (B.sadd (tv (tS ((((⟨#[32,32,98,109,106,105,104,110,116,100]⟩:ByteArray).extract (Int.toNat x1.Kind) (Int.toNat (x1.Kind+1)))++(⟨#[40]⟩:ByteArray))++pT l d x1.A)) Y) (VEv.str (⟨#[44]⟩:ByteArray)) (by first | (simp only [ByteArray.size_append];omega) | omega | (simp only [List.length_map];omega) | (simp only [List.length_map,List.length_append,List.length_cons,List.length_nil,List.length_replicate,List.length_set,List.length_drop,List.length_take,Zr] at *;omega))) (mO (rd 4 Qg l) Y (lf (tI x1.B) Y ZV Y Y QX (cO (cS (vc (tv (rd 4 Qg l) Y) (vc (tv (tI x1.B) Y) vn)) (ZH Y) (ih l x1.B (by first | (simp only [ByteArray.size_append];omega) | assumption | omega) (by first | (simp only [ByteArray.size_append];omega) | assumption | omega) (by first | (simp only [ByteArray.size_append];omega) | assumption | omega) (by first | (simp only [ByteArray.size_append];omega) | assumption | omega)) Y Y) (fO (B.sadd (tv (tS (((((⟨#[32,32,98,109,106,105,104,110,116,100]⟩:ByteArray).extract (Int.toNat x1.Kind) (Int.toNat (x1.Kind+1)))++(⟨#[40]⟩:ByteArray))++pT l d x1.A)++(⟨#[44]⟩:ByteArray))) Y) (tv (tS (pT l d x1.B)) Y) (by first | (simp only [ByteArray.size_append];omega) | omega | (simp only [List.length_map];omega) | (simp only [List.length_map,List.length_append,List.length_cons,List.length_nil,List.length_replicate,List.length_set,List.length_drop,List.length_take,Zr] at *;omega))) (aO (tS ((((((⟨#[32,32,98,109,106,105,104,110,116,100]⟩:ByteArray).extract (Int.toNat x1.Kind) (Int.toNat (x1.Kind+1)))++(⟨#[40]⟩:ByteArray))++pT l d x1.A)++(⟨#[44]⟩:ByteArray))++pT l d x1.B)) Y (VRunO.nil (tn (sr (mO (tS ((((((⟨#[32,32,98,109,106,105,104,110,116,100]⟩:ByteArray).extract (Int.toNat x1.Kind) (Int.toNat (x1.Kind+1)))++(⟨#[40]⟩:ByteArray))++pT l d x1.A)++(⟨#[44]⟩:ByteArray))++pT l d x1.B)) Y ?_)))))))))))
  refine fO (B.sadd (tv (tS ((((((⟨#[32,32,98,109,106,105,104,110,116,100]⟩:ByteArray).extract (Int.toNat x1.Kind) (Int.toNat (x1.Kind+1)))++(⟨#[40]⟩:ByteArray))++pT l d x1.A)++(⟨#[44]⟩:ByteArray))++pT l d x1.B)) Y) (VEv.str (⟨#[41]⟩:ByteArray)) (by first | (simp only [ByteArray.size_append];omega) | omega | (simp only [List.length_map];omega) | (simp only [List.length_map,List.length_append,List.length_cons,List.length_nil,List.length_replicate,List.length_set,List.length_drop,List.length_take,Zr] at *;omega))) (aO (tS (((((((⟨#[32,32,98,109,106,105,104,110,116,100]⟩:ByteArray).extract (Int.toNat x1.Kind) (Int.toNat (x1.Kind+1)))++(⟨#[40]⟩:ByteArray))++pT l d x1.A)++(⟨#[44]⟩:ByteArray))++pT l d x1.B)++(⟨#[41]⟩:ByteArray))) Y (nt (rt ?_)))
  refine vfin.eq (r':=(tS (((((((⟨#[32,32,98,109,106,105,104,110,116,100]⟩:ByteArray).extract (Int.toNat x1.Kind) (Int.toNat (x1.Kind+1)))++(⟨#[40]⟩:ByteArray))++pT l d x1.A)++(⟨#[44]⟩:ByteArray))++pT l d x1.B)++(⟨#[41]⟩:ByteArray)))) ?_ (vfin.r (VRes.tmp (t:=(tS (((((((⟨#[32,32,98,109,106,105,104,110,116,100]⟩:ByteArray).extract (Int.toNat x1.Kind) (Int.toNat (x1.Kind+1)))++(⟨#[40]⟩:ByteArray))++pT l d x1.A)++(⟨#[44]⟩:ByteArray))++pT l d x1.B)++(⟨#[41]⟩:ByteArray)))) Y VRes.nil) (Give.str _))
  refine congrArg T.str ?_
  first | exact (QhF hx1 fhc0 fhc1).symm | exact (QhW hx1 fhc0 fhc1).symm
 refine sk (tn (sr (mO (tS ((((⟨#[32,32,98,109,106,105,104,110,116,100]⟩:ByteArray).extract (Int.toNat x1.Kind) (Int.toNat (x1.Kind+1)))++(⟨#[40]⟩:ByteArray))++pT l d x1.A)) Y (fO (B.sadd (tv (tS ((((⟨#[32,32,98,109,106,105,104,110,116,100]⟩:ByteArray).extract (Int.toNat x1.Kind) (Int.toNat (x1.Kind+1)))++(⟨#[40]⟩:ByteArray))++pT l d x1.A)) Y) (VEv.str (⟨#[41]⟩:ByteArray)) (by first | (simp only [ByteArray.size_append];omega) | omega | (simp only [List.length_map];omega) | (simp only [List.length_map,List.length_append,List.length_cons,List.length_nil,List.length_replicate,List.length_set,List.length_drop,List.length_take,Zr] at *;omega))) (aO (tS (((((⟨#[32,32,98,109,106,105,104,110,116,100]⟩:ByteArray).extract (Int.toNat x1.Kind) (Int.toNat (x1.Kind+1)))++(⟨#[40]⟩:ByteArray))++pT l d x1.A)++(⟨#[41]⟩:ByteArray))) Y (nt (rt ?_)))))))
 refine vfin.eq (r':=(tS (((((⟨#[32,32,98,109,106,105,104,110,116,100]⟩:ByteArray).extract (Int.toNat x1.Kind) (Int.toNat (x1.Kind+1)))++(⟨#[40]⟩:ByteArray))++pT l d x1.A)++(⟨#[41]⟩:ByteArray)))) ?_ (vfin.r (VRes.tmp (t:=(tS (((((⟨#[32,32,98,109,106,105,104,110,116,100]⟩:ByteArray).extract (Int.toNat x1.Kind) (Int.toNat (x1.Kind+1)))++(⟨#[40]⟩:ByteArray))++pT l d x1.A)++(⟨#[41]⟩:ByteArray)))) Y VRes.nil) (Give.str _))
 refine congrArg T.str ?_
 first | exact (QhF hx1 fhc0 fhc1).symm | exact (QhW hx1 fhc0 fhc1).symm
theorem Qeh (n:Nat):∀(d:Nat) (l:List D.Step) (i:Int) (hp:QT l) (hz:zL Zf l≤mx) (hd:d≤9) (hi:0≤i∧i<(d:Int)∧i<(l.length:Int)),Pure (Qr Tryz.prog (n+d+1)) 93 [(rd 4 Qg l),(tI i)] (tS (pT l d i)):=by
 intro d
 induction d with
 | zero=>intro l i hp hz hd hi;exact absurd hi.2.1 (by omega)
 | succ d ih =>
 intro l i hp hz hd hi
 refine Pure.intro (n:=n+d+1) (rs:= [ResultVar.tmp 4]) Tryz.func93 Y Y Y (E0:= [(0,(rd 4 Qg l)),(1,(tI i))]) Y ?_
 obtain ⟨hlim,hmx,hmax⟩:=QE
 have hl:=Zb (z:=Zf) l
 have e10:(⟨#[63,63,98,109,106,105,104,110,116,100]⟩:ByteArray).size=10:=rfl
 have e40:(⟨#[40]⟩:ByteArray).size=1:=rfl
 have e41:(⟨#[41]⟩:ByteArray).size=1:=rfl
 have e44:(⟨#[44]⟩:ByteArray).size=1:=rfl
 refine sr (fO (OF.assign (VEv.str (⟨#[]⟩:ByteArray))) (nt (sr (mO (rd 4 Qg l) Y (mO (tI i) Y ?_)))))
 obtain ⟨x1,hx1⟩:∃x,l[(Int.toNat i)]? =some x:=⟨_,List.getElem?_eq_getElem (by first | (simp only [ByteArray.size_append];omega) | omega)⟩
 have hb1:=YQ hp hx1
 refine fO (OF.indexAddrR (row:=(Qg false x1)) (i:=(Int.toNat i)) (tv (rd 4 Qg l) Y) (tv (tI i) Y) (by omega) (Qt _ hx1) U72 ZQ YA) (lO (OL.loadRn (us:=(Qg false x1)) (tv (T.rp (Qg false x1)) Y) QcT ZQ (lb Y) Y) (kO (B.alloc (t:=(T.agg [(tN 0),(tS ByteArray.empty),(tN 0),(tN 0)])) (ts:= [(tN 0),(tS ByteArray.empty),(tN 0),(tN 0)]) QdG QdC nofun (fun _=> .agg _ _ Y (YZ (RL.cons (.int _ _) (RL.cons (.str _) (RL.cons (.int _ _) (RL.cons (.int _ _) (RL.nil _))))))) Y) (cO (B.storeW (us:=(Qg false x1)) (tv (T.op 0 0) Y) (tv (T.agg (Qg false x1)) Y) nofun Y Y Y YA ZQ (bc Y (bc Y (bc Y (bc Y bn))))) (nt (sq (sr (lf (tI x1.Kind) Y QV Y Y QX (fO (YD (tv (tI x1.Kind) Y) (VEv.int .i64 1)) (nt ?_)))))))))
 refine cd (x1.Kind=1) Y (fun fhc0=> ?_) fun fhc0=> ?_
 ·refine sr ?_
  refine lf (tS x1.Word) Y YU Y Y Ye (aO (tS x1.Word) Y (nt (rt (tr ?_))))
  refine vfin.eq (r':=(tS x1.Word)) ?_ (vfin.r (VRes.tmp (t:=(tS x1.Word)) Y VRes.nil) (Give.str _))
  refine congrArg T.str ?_
  exact (Qjh hx1 fhc0).symm
 have hkA:=hb1.2.2 fhc0
 have hex:=Qkn (⟨#[63,63,98,109,106,105,104,110,116,100]⟩:ByteArray) (Int.toNat x1.Kind) (Int.toNat (x1.Kind+1))
 have hsA:=Qko hp (d:=d) (by omega) x1.A
 have hsB:=Qko hp (d:=d) (by omega) x1.B
 refine sk (tn (sq (VRun.draw (B:= [[],[0],[],[2],[2,3],[3,2,4,0,1],[1,0,4,2,3,5],[],[],[8],[8,9,7],[7,9,8,10,5,3,2,4,0,1,6],[6,1,0,4,2,3,5,10,8,9,7,11]]) (by kernel_rfl) (by kernel_rfl) (fD (OF.fieldAddrO (tv (T.op 0 0) Y) QV) Y Y (lD (OL.loadO1 (t:=(tI x1.Kind)) (tv (T.op 0 0) Y) Y Y QX) Y Y (fD (OF.fieldAddrO (tv (T.op 0 0) Y) QV) Y Y (lD (OL.loadO1 (t:=(tI x1.Kind)) (tv (T.op 0 0) Y) Y Y QX) Y Y (fD (B.add (n:=(x1.Kind+1)) (tv (tI x1.Kind) Y) (VEv.int .i64 1) (by first | (simp only [ByteArray.size_append];omega) | rfl | (rw [Qq (by omega)];omega) | (rw [Qq (by omega)];done))) Y Y (lD (OL.sliceS (i:=(Int.toNat x1.Kind)) (j:=(Int.toNat (x1.Kind+1))) (VEv.str (⟨#[63,63,98,109,106,105,104,110,116,100]⟩:ByteArray)) (tv (tI x1.Kind) Y) (tv (tI (x1.Kind+1)) Y) (by omega) (by omega) (by first | (simp only [ByteArray.size_append];omega) | omega | (simp only [List.length_map];omega) | (simp only [List.length_map,List.length_append,List.length_cons,List.length_nil,List.length_replicate,List.length_set,List.length_drop,List.length_take,Zr] at *;omega)) (by first | (simp only [ByteArray.size_append];omega) | omega | (simp only [List.length_map];omega) | (simp only [List.length_map,List.length_append,List.length_cons,List.length_nil,List.length_replicate,List.length_set,List.length_drop,List.length_take,Zr] at *;omega)) U9) Y Y (fD (B.sadd (tv (tS ((⟨#[63,63,98,109,106,105,104,110,116,100]⟩:ByteArray).extract (Int.toNat x1.Kind) (Int.toNat (x1.Kind+1)))) Y) (VEv.str (⟨#[40]⟩:ByteArray)) (by first | (simp only [ByteArray.size_append];omega) | omega | (simp only [List.length_map];omega) | (simp only [List.length_map,List.length_append,List.length_cons,List.length_nil,List.length_replicate,List.length_set,List.length_drop,List.length_take,Zr] at *;omega))) Y Y (mD (rd 4 Qg l) Y Y ?_)))))))))))
 refine fD (OF.fieldAddrO (tv (T.op 0 0) Y) Z4) Y Y (lD (OL.loadO1 (t:=(tI x1.A)) (tv (T.op 0 2) Y) Y Y QX) Y Y (VRunD.quiet (bi:= [8,9,7]) Y VWant.always Y Y Y bn (cS (vc (tv (rd 4 Qg l) Y) (vc (tv (tI x1.A) Y) vn)) (ZH Y) (ih l x1.A (by first | (simp only [ByteArray.size_append];omega) | assumption | omega) (by first | (simp only [ByteArray.size_append];omega) | assumption | omega) (by first | (simp only [ByteArray.size_append];omega) | assumption | omega) (by first | (simp only [ByteArray.size_append];omega) | assumption | omega)) Y Y) (fD (B.sadd (tv (tS (((⟨#[63,63,98,109,106,105,104,110,116,100]⟩:ByteArray).extract (Int.toNat x1.Kind) (Int.toNat (x1.Kind+1)))++(⟨#[40]⟩:ByteArray))) Y) (tv (tS (pT l d x1.A)) Y) (by first | (simp only [ByteArray.size_append];omega) | omega | (simp only [List.length_map];omega) | (simp only [List.length_map,List.length_append,List.length_cons,List.length_nil,List.length_replicate,List.length_set,List.length_drop,List.length_take,Zr] at *;omega))) Y Y (fD (OF.assign (tv (tS ((((⟨#[63,63,98,109,106,105,104,110,116,100]⟩:ByteArray).extract (Int.toNat x1.Kind) (Int.toNat (x1.Kind+1)))++(⟨#[40]⟩:ByteArray))++pT l d x1.A)) Y)) Y Y (VRunD.nil (tn (sq (sr (lf (tI x1.Kind) Y QV Y Y QX (cO (cS (vc (tv (tI x1.Kind) Y) vn) (ZH Y) (Z7 (n+d+0) x1.Kind) Y Y) (nt ?_)))))))))))
 refine cd (x1.Kind=4∨x1.Kind=5) Y (fun fhc1=> ?_) fun fhc1=> ?_
 ·have hkB:=hkA.2 fhc1
  refine VRun.region (mO (tS ((((⟨#[63,63,98,109,106,105,104,110,116,100]⟩:ByteArray).extract (Int.toNat x1.Kind) (Int.toNat (x1.Kind+1)))++(⟨#[40]⟩:ByteArray))++pT l d x1.A)) Y (mO (rd 4 Qg l) Y (lf (tI x1.B) Y ZV Y Y QX (cO (cS (vc (tv (rd 4 Qg l) Y) (vc (tv (tI x1.B) Y) vn)) (ZH Y) (ih l x1.B (by first | (simp only [ByteArray.size_append];omega) | assumption | omega) (by first | (simp only [ByteArray.size_append];omega) | assumption | omega) (by first | (simp only [ByteArray.size_append];omega) | assumption | omega) (by first | (simp only [ByteArray.size_append];omega) | assumption | omega)) Y Y) (fO (B.sadd (VEv.str (⟨#[44]⟩:ByteArray)) (tv (tS (pT l d x1.B)) Y) (by first | (simp only [ByteArray.size_append];omega) | omega | (simp only [List.length_map];omega) | (simp only [List.length_map,List.length_append,List.length_cons,List.length_nil,List.length_replicate,List.length_set,List.length_drop,List.length_take,Zr] at *;omega))) (fO (B.sadd (tv (tS ((((⟨#[63,63,98,109,106,105,104,110,116,100]⟩:ByteArray).extract (Int.toNat x1.Kind) (Int.toNat (x1.Kind+1)))++(⟨#[40]⟩:ByteArray))++pT l d x1.A)) Y) (tv (tS ((⟨#[44]⟩:ByteArray)++pT l d x1.B)) Y) (by first | (simp only [ByteArray.size_append];omega) | omega | (simp only [List.length_map];omega) | (simp only [List.length_map,List.length_append,List.length_cons,List.length_nil,List.length_replicate,List.length_set,List.length_drop,List.length_take,Zr] at *;omega))) (aO (tS (((((⟨#[63,63,98,109,106,105,104,110,116,100]⟩:ByteArray).extract (Int.toNat x1.Kind) (Int.toNat (x1.Kind+1)))++(⟨#[40]⟩:ByteArray))++pT l d x1.A)++((⟨#[44]⟩:ByteArray)++pT l d x1.B))) Y (VRunO.nil (tn (sr (mO (tS (((((⟨#[63,63,98,109,106,105,104,110,116,100]⟩:ByteArray).extract (Int.toNat x1.Kind) (Int.toNat (x1.Kind+1)))++(⟨#[40]⟩:ByteArray))++pT l d x1.A)++((⟨#[44]⟩:ByteArray)++pT l d x1.B))) Y ?_)))))))))))
  refine fO (B.sadd (tv (tS (((((⟨#[63,63,98,109,106,105,104,110,116,100]⟩:ByteArray).extract (Int.toNat x1.Kind) (Int.toNat (x1.Kind+1)))++(⟨#[40]⟩:ByteArray))++pT l d x1.A)++((⟨#[44]⟩:ByteArray)++pT l d x1.B))) Y) (VEv.str (⟨#[41]⟩:ByteArray)) (by first | (simp only [ByteArray.size_append];omega) | omega | (simp only [List.length_map];omega) | (simp only [List.length_map,List.length_append,List.length_cons,List.length_nil,List.length_replicate,List.length_set,List.length_drop,List.length_take,Zr] at *;omega))) (aO (tS ((((((⟨#[63,63,98,109,106,105,104,110,116,100]⟩:ByteArray).extract (Int.toNat x1.Kind) (Int.toNat (x1.Kind+1)))++(⟨#[40]⟩:ByteArray))++pT l d x1.A)++((⟨#[44]⟩:ByteArray)++pT l d x1.B))++(⟨#[41]⟩:ByteArray))) Y (nt (rt ?_)))
  refine vfin.eq (r':=(tS ((((((⟨#[63,63,98,109,106,105,104,110,116,100]⟩:ByteArray).extract (Int.toNat x1.Kind) (Int.toNat (x1.Kind+1)))++(⟨#[40]⟩:ByteArray))++pT l d x1.A)++((⟨#[44]⟩:ByteArray)++pT l d x1.B))++(⟨#[41]⟩:ByteArray)))) ?_ (vfin.r (VRes.tmp (t:=(tS ((((((⟨#[63,63,98,109,106,105,104,110,116,100]⟩:ByteArray).extract (Int.toNat x1.Kind) (Int.toNat (x1.Kind+1)))++(⟨#[40]⟩:ByteArray))++pT l d x1.A)++((⟨#[44]⟩:ByteArray)++pT l d x1.B))++(⟨#[41]⟩:ByteArray)))) Y VRes.nil) (Give.str _))
  refine congrArg T.str ?_
  (have hlt:(⟨#[63,63,98,109,106,105,104,110,116,100]⟩:ByteArray).extract (Int.toNat x1.Kind) (Int.toNat (x1.Kind+1))=ltr x1.Kind:=Ql2 (by omega));first | (rw [QhF hx1 fhc0 fhc1,hlt];simp only [ByteArray.append_assoc];done) | (rw [QhW hx1 fhc0 fhc1,hlt])
 refine sk (tn (sr (mO (tS ((((⟨#[63,63,98,109,106,105,104,110,116,100]⟩:ByteArray).extract (Int.toNat x1.Kind) (Int.toNat (x1.Kind+1)))++(⟨#[40]⟩:ByteArray))++pT l d x1.A)) Y (fO (B.sadd (tv (tS ((((⟨#[63,63,98,109,106,105,104,110,116,100]⟩:ByteArray).extract (Int.toNat x1.Kind) (Int.toNat (x1.Kind+1)))++(⟨#[40]⟩:ByteArray))++pT l d x1.A)) Y) (VEv.str (⟨#[41]⟩:ByteArray)) (by first | (simp only [ByteArray.size_append];omega) | omega | (simp only [List.length_map];omega) | (simp only [List.length_map,List.length_append,List.length_cons,List.length_nil,List.length_replicate,List.length_set,List.length_drop,List.length_take,Zr] at *;omega))) (aO (tS (((((⟨#[63,63,98,109,106,105,104,110,116,100]⟩:ByteArray).extract (Int.toNat x1.Kind) (Int.toNat (x1.Kind+1)))++(⟨#[40]⟩:ByteArray))++pT l d x1.A)++(⟨#[41]⟩:ByteArray))) Y (nt (rt ?_)))))))
 refine vfin.eq (r':=(tS (((((⟨#[63,63,98,109,106,105,104,110,116,100]⟩:ByteArray).extract (Int.toNat x1.Kind) (Int.toNat (x1.Kind+1)))++(⟨#[40]⟩:ByteArray))++pT l d x1.A)++(⟨#[41]⟩:ByteArray)))) ?_ (vfin.r (VRes.tmp (t:=(tS (((((⟨#[63,63,98,109,106,105,104,110,116,100]⟩:ByteArray).extract (Int.toNat x1.Kind) (Int.toNat (x1.Kind+1)))++(⟨#[40]⟩:ByteArray))++pT l d x1.A)++(⟨#[41]⟩:ByteArray)))) Y VRes.nil) (Give.str _))
 refine congrArg T.str ?_
 (have hlt:(⟨#[63,63,98,109,106,105,104,110,116,100]⟩:ByteArray).extract (Int.toNat x1.Kind) (Int.toNat (x1.Kind+1))=ltr x1.Kind:=Ql2 (by omega));first | (rw [QhF hx1 fhc0 fhc1,hlt];simp only [ByteArray.append_assoc];done) | (rw [QhW hx1 fhc0 fhc1,hlt])
noncomputable section
def pZ (l:List D.Step) (k:Nat):Int:=min 999 (((pT l (k+1) ((k:Nat):Int)).size:Nat):Int)
def Yp (l:List D.Step) (j:Nat):List Int:=(List.range j).map (pZ l)
theorem QgN (l:List D.Step) (j:Nat):(Yp l j).length=j:=by simp [Yp]
theorem Zt {l:List D.Step} {j k:Nat} {y:Int} (h:(Yp l j)[k]? =some y):y=pZ l k:=by
 have h1:=(List.getElem?_eq_some_iff.1 h).1
 rw [QgN] at h1
 rw [Yp,List.getElem?_map,List.getElem?_range h1,Option.map_some] at h
 exact (Option.some.inj h).symm
theorem Qb0 {l:List D.Step} {j k:Nat} {y:Int} (h:(Yp l j)[k]? =some y):0≤y∧y≤999:=by
 rw [Zt h]
 unfold pZ
 omega
theorem ZC {l:List D.Step} {j:Nat} {e:Int} (h:e=pZ l j):Yp l j++ [e]=Yp l (j+1):=by
 unfold Yp
 rw [List.range_succ,List.map_append,h]
 rfl
theorem Qje {l:List D.Step} (hp:QT l) {i:Int} {d:Nat} (h0:0≤i) (h1:i<(d:Int)):pZ l (Int.toNat i)=min 999 (((pT l d i).size:Nat):Int):=by
 unfold pZ
 rw [Int.toNat_of_nonneg h0,QiH hp (Int.toNat i+1) d i h0 (by omega) h1]
theorem Qj2 {l:List D.Step} {j:Nat} {x:D.Step} (hp:QT l) (hx:l[j]? =some x) (h:x.Kind=1):((x.Word.size:Nat):Int)=pZ l j:=by
 have h2:=(YQ hp hx).2.1 h
 unfold pZ
 rw [Qjh (i:=((j:Nat):Int)) (x:=x) (by rw [Int.toNat_natCast];exact hx) h]
 omega
theorem QfH {l:List D.Step} {j:Nat} {x:D.Step} {a b:Int} (hp:QT l) (hx:l[j]? =some x) (h:¬x.Kind=1) (h2:x.Kind=4∨x.Kind=5) (ha:a=pZ l (Int.toNat x.A)) (hb:b=pZ l (Int.toNat x.B)):min 999 (a+b+4)=pZ l j:=by
 obtain ⟨h3,_,h4⟩:=YQ hp hx
 have h5:=h4 h
 have h6:=h5.2 h2
 rw [ha,hb,Qje hp (d:=j) h5.1.1 h5.1.2,Qje hp (d:=j) h6.1 h6.2]
 unfold pZ
 rw [QhF (i:=((j:Nat):Int)) (x:=x) (by rw [Int.toNat_natCast];exact hx) h h2]
 have e1:(⟨#[40]⟩:ByteArray).size=1:=rfl
 have e2:(⟨#[41]⟩:ByteArray).size=1:=rfl
 have e3:(⟨#[44]⟩:ByteArray).size=1:=rfl
 have hl:=QkQ (k:=x.Kind) (by omega)
 simp only [ByteArray.size_append]
 omega
theorem Qkz {l:List D.Step} {j:Nat} {x:D.Step} {a:Int} (hp:QT l) (hx:l[j]? =some x) (h:¬x.Kind=1) (h2:¬(x.Kind=4∨x.Kind=5)) (ha:a=pZ l (Int.toNat x.A)):min 999 (a+3)=pZ l j:=by
 obtain ⟨h3,_,h4⟩:=YQ hp hx
 have h5:=h4 h
 rw [ha,Qje hp (d:=j) h5.1.1 h5.1.2]
 unfold pZ
 rw [QhW (i:=((j:Nat):Int)) (x:=x) (by rw [Int.toNat_natCast];exact hx) h h2]
 have e1:(⟨#[40]⟩:ByteArray).size=1:=rfl
 have e2:(⟨#[41]⟩:ByteArray).size=1:=rfl
 have hl:=QkQ (k:=x.Kind) (by omega)
 simp only [ByteArray.size_append]
 omega
theorem Qda {l:List D.Step} (hp:QT l):pZ l (l.length - 1)=min 999 (((pT l 9 (((l.length:Nat):Int) - 1)).size:Nat):Int):=by
 have h1:=hp.1
 rw [← Qje hp (d:=9) (by omega) (by omega)]
 congr 1
 omega
def ZB (l:List D.Step):ByteArray:=if QT l∧(pT l 9 (((l.length:Nat):Int) - 1)).size≤80 then pT l 9 (((l.length:Nat):Int) - 1) else ⟨#[]⟩
theorem QiL (l:List D.Step):(ZB l).size≤80:=by
 unfold ZB
 split
 ·rename_i h
  exact h.2
 ·exact Nat.zero_le _
theorem Qby {l:List D.Step} (hp:QT l) (h:(pT l 9 (((l.length:Nat):Int) - 1)).size≤80):pT l 9 (((l.length:Nat):Int) - 1)=ZB l:=(if_pos ⟨hp,h⟩).symm
theorem Qbw {l:List D.Step} (h:¬QT l):(⟨#[]⟩:ByteArray)=ZB l:=(if_neg (fun x=>h x.1)).symm
theorem QbD {l:List D.Step} (h:¬(pT l 9 (((l.length:Nat):Int) - 1)).size≤80):(⟨#[]⟩:ByteArray)=ZB l:=(if_neg (fun x=>h x.2)).symm
def QM (c:D.Clue):ByteArray:=if ((1≤c.Sense∧c.Sense≤99)∧QT c.Play)∧¬ZB c.Play=⟨#[]⟩ then Yf c.Sense++⟨#[58]⟩++ZB c.Play else ⟨#[]⟩
def Qu (a:D.Issue) (tk:Int):List ByteArray:=if ZK a∧a.Open≤tk then a.Puzzle.Clues.map QM else []
theorem Qia (a:D.Issue) (tk:Int):(Qu a tk).length≤Zq a:=by
 have h:=Zb (z:=QO) a.Puzzle.Clues
 unfold Qu
 simp only [Zq,QP]
 split
 ·rw [List.length_map];omega
 ·exact Nat.zero_le _
theorem Qej {l:List D.Clue} {i:Nat} {x:D.Clue} (h:l[i]? =some x):(l.take i).map QM++ [QM x]=(l.take (i+1)).map QM:=by
 rw [List.take_add_one,h,List.map_append]
 rfl
end
theorem Qb8 (n:Nat) (a:Int) (b:Int):Pure (Qr Tryz.prog (n+1)) 127 [(tI a),(tI b)] (tI (min a b)):=by
 refine Pure.intro (rs:= [ResultVar.tmp 4]) Tryz.func127 Y Y Y (E0:= [(0,(tI a)),(1,(tI b))]) Y ?_
 obtain ⟨hlim,hmx,hmax⟩:=QE
 refine sr (fO (OF.assign (VEv.int .i64 0)) (nt (sq (sr (mO (tI b) Y (mO (tI a) Y (fO (xls (tv (tI b) Y) (tv (tI a) Y)) (nt ?_))))))))
 refine cd (b<a) Y (fun fhc0=> ?_) fun fhc0=> ?_
 ·refine sr ?_
  refine mO (tI b) Y (aO (tI b) Y (nt (rt (tr (vi (n':=b) Y ?_)))))
  omega
 refine sk (tn (sr (mO (tI a) Y (aO (tI a) Y (nt (rt (vi (n':=a) Y ?_)))))))
 omega
theorem Qe1 (n:Nat) (l:List D.Step) (hp:QT l) (hz:zL Zf l≤mx):Pure (Qr Tryz.prog (n+2)) 91 [(rd 4 Qg l)] (tI (pZ l (l.length - 1))):=by
 refine Pure.intro (rs:= [ResultVar.tmp 2]) Tryz.func91 Y Y Y (E0:= [(0,(rd 4 Qg l))]) Y ?_
 obtain ⟨hlim,hmx,hmax⟩:=QE
 have hl:=Zb (z:=Zf) l
 have hpl:=hp.1
 refine sr (fO (OF.assign (VEv.int .i64 0)) (nt (sr (kO (OM.slice0 ZA zo3 (by kernel_rfl) Y (by rw [Zl];decide) Zl) (aO (T.os 1 0 0 0) Y (nt (sq (sr (fO (OF.assign (VEv.int .i64 0)) (nt (VRun.block ?_)))))))))))
 have he1: []=((Yp l 0).map (Qc true)):=by first | rfl | rfl | (exact ZC (Qj2 hp hx1 fhc1)) | (exact ZC (QfH hp hx1 fhc1 (.inl fhc2) (Zt hx2) (Zt hx3))) | (exact ZC (QfH hp hx1 fhc1 (.inr fhc3) (Zt hx2) (Zt hx3))) | (exact ZC (Qkz hp hx1 fhc1 (fun h_=>h_.elim fhc2 fhc3) (Zt hx2))) | (simp;done) | omega
 refine VRun.loop (A:=Nat) (fun s_=> [(0,(rd 4 Qg l)),(2,(tN 0)),(3,(T.os 1 0 0 (((Yp l s_).map (Qc true)).length))),(4,(tN s_))]) (fun s_=>Q5 [(0,(Obj.rows 1 ((Yp l s_).map (Qc true))))]) 1 (fun s_=>s_≤l.length) (fun s_=>l.length - s_) (0:Nat) ?_ (Wk.mk (fun k=>k) ?_ ?_ ?_) ?_
 ·first | trivial | (simp;done) | omega | (constructor<;>simp)
 ·exact (b2 (b2 (bc ⟨(congrArg (fun n_=>T.os 1 0 0 n_) (show 0=((Yp l 0).map (Qc true)).length from (by first | rfl | (simp only [List.length_map,QgN]) | (simp only [List.length_map];omega) | (simp only [List.length_map,List.length_set,List.length_append,List.length_take,List.length_replicate,List.length_cons,List.length_nil];omega)))),rfl⟩ (b2 bn))))
 ·exact (bc ⟨(congrArg (fun l_=>some (Obj.rows 1 l_)) he1),(lb Y),rfl⟩ bn)
 ·exact nd Y
 rintro j (hI':j≤l.length)
 show VRun _ _ _ [(0,(rd 4 Qg l)),(2,(tN 0)),(3,(T.os 1 0 0 (((Yp l j).map (Qc true)).length))),(4,(tN j))] (Q5 [(0,(Obj.rows 1 ((Yp l j).map (Qc true))))]) 1 _
 have hI1:=hI'
 have hsl:=QgN l j
 refine sq (sr (mO (tN j) Y (mO (rd 4 Qg l) Y (lO (B.lenR (m:=l.length) (tv (rd 4 Qg l) Y) U72 (List.length_map ..)) (fO (Zg (tv (tN j) Y) (tv (tN l.length) Y)) (nt ?_))))))
 refine cd (j<l.length) Y (fun fhc0=> ?_) fun fhc0=> ?_
 ·refine sk ?_
  refine tn (sq (VRun.block (sr (mO (rd 4 Qg l) Y (mO (tN j) Y ?_)))))
  obtain ⟨x1,hx1⟩:∃x,l[j]? =some x:=⟨_,List.getElem?_eq_getElem (by omega)⟩
  first | (have hb1:=YQ hp hx1) | (have hv1:=Qb0 hx1)
  refine fO (OF.indexAddrR (row:=(Qg false x1)) (i:=j) (tv (rd 4 Qg l) Y) (tv (tN j) Y) Y (Qt _ hx1) U72 ZQ YA) (lO (OL.loadRn (us:=(Qg false x1)) (tv (T.rp (Qg false x1)) Y) QcT ZQ (lb Y) Y) (kO (B.alloc (t:=(T.agg [(tN 0),(tS ByteArray.empty),(tN 0),(tN 0)])) (ts:= [(tN 0),(tS ByteArray.empty),(tN 0),(tN 0)]) QdG QdC nofun (fun _=> .agg _ _ Y (YZ (RL.cons (.int _ _) (RL.cons (.str _) (RL.cons (.int _ _) (RL.cons (.int _ _) (RL.nil _))))))) Y) (cO (B.storeW (us:=(Qg false x1)) (tv (T.op 1 0) Y) (tv (T.agg (Qg false x1)) Y) nofun Y Y Y YA ZQ (bc Y (bc Y (bc Y (bc Y bn))))) (nt (sr (lf (tI x1.Kind) Y QV Y Y QX (nt (VRun.block (sr (fO (YD (tv (tI x1.Kind) Y) (VEv.int .i64 1)) (aO (tB (decide (x1.Kind=1))) Y ?_)))))))))))
  refine nt ?_
  refine cd (x1.Kind=1) Y (fun fhc1=> ?_) fun fhc1=> ?_
  ·refine VRun.region ?_
   refine mO (T.os 1 0 0 (((Yp l j).map (Qc true)).length)) Y (lf (tS x1.Word) Y YU Y Y Ye (lO (B.lenS (tv (tS x1.Word) Y) U9) (kO (OM.buildSlice (l:= [(tN x1.Word.size)]) (VEvp.cons (tv (tN x1.Word.size) Y) VEvp.nil) Y (by decide) (bc (nofun) bn) (bc ((bc (Y) bn)) bn) (bc (Y) bn) ZA zo3 (by kernel_rfl) Y (by rw [Zl];decide) Zl (Nat.le_of_ble_eq_true Y)) (cO (B.append (rows:=((Yp l j).map (Qc true))) (rows2:= [[(tN x1.Word.size)]]) (rows3:=((Yp l j++ [((x1.Word.size:Nat):Int)]).map (Qc true))) (VDst.own (tv (T.os 1 0 0 (((Yp l j).map (Qc true)).length)) Y) Y Y) (VSrc.own (tv (T.os 1 2 0 1) Y) Y Y ZA (bc (bc Y bn) bn)) (by decide) ZA Zl (by decide) zo3 Y (of_decide_eq_true (by kernel_rfl)) (by first | omega | (simp only [List.length_map];omega) | (simp only [List.length_map,List.length_append,List.length_cons,List.length_nil,List.length_replicate,List.length_set,List.length_drop,List.length_take,Zr] at *;omega)) ((List.map_append (f:=Qc true) (l₁:=Yp l j) (l₂:= [((x1.Word.size:Nat):Int)])).symm)) (aO (T.os 1 3 0 (((Yp l j++ [((x1.Word.size:Nat):Int)]).map (Qc true)).length)) Y (VRunO.nil (vinB.n (vinB.n (tn (VRun.region (mO (tN j) Y ?_)))))))))))
   refine fO (QB (tv (tN j) Y) (VEv.int .i64 1) (by omega)) (aO (tN (j+1)) Y (VRunO.nil (tn ?_)))
   have he2:(Yp l j++ [((x1.Word.size:Nat):Int)])=Yp l (j+1):=by first | rfl | rfl | (exact ZC (Qj2 hp hx1 fhc1)) | (exact ZC (QfH hp hx1 fhc1 (.inl fhc2) (Zt hx2) (Zt hx3))) | (exact ZC (QfH hp hx1 fhc1 (.inr fhc3) (Zt hx2) (Zt hx3))) | (exact ZC (Qkz hp hx1 fhc1 (fun h_=>h_.elim fhc2 fhc3) (Zt hx2))) | (simp;done) | omega
   refine ⟨(j+1:Nat),?_,?_,Wk.mk (fun k=>if k=0 then 3 else k) ?_ ?_ ?_⟩
   ·first | trivial | omega | (simp;done) | exact ⟨by omega,hI'.2⟩
   ·first | omega | (simp only [];omega) | (show _<_;omega) | (simp;omega)
   ·exact (b2 (b2 (bc ⟨(congrArg (fun l_=>T.os 1 3 0 (List.map (Qc true) l_).length) he2),rfl⟩ (b2 bn))))
   ·exact (bc ⟨(congrArg (fun l_=>some (Obj.rows 1 (List.map (Qc true) l_))) he2),(lb Y),rfl⟩ bn)
   ·exact nd Y
  have hkA:=hb1.2.2 fhc1
  refine sq (sr (fO (YD (tv (tI x1.Kind) Y) (VEv.int .i64 4)) (aO (tB (decide (x1.Kind=4))) Y (nt ?_))))
  refine cd (x1.Kind=4) Y (fun fhc2=> ?_) fun fhc2=> ?_
  ·have hkB:=hkA.2 (.inl fhc2)
   refine sk (tn (ck (dy fhc2) Y (VRun.draw (B:= [[],[],[],[2],[2,3,1],[1,3,2,4],[],[],[7],[7,8,6],[6,8,7,9],[9,7,8,6,10,4,2,3,1,5],[5,1,3,2,4,10,6,8,7,9,11],[11,9,7,8,6,10,4,2,3,1,5,12],[12,5,1,3,2,4,10,6,8,7,9,11,13],[13,11,9,7,8,6,10,4,2,3,1,5,12,14,0],[0,14,12,5,1,3,2,4,10,6,8,7,9,11,13,15]]) (by kernel_rfl) (by kernel_rfl) (mD (T.os 1 0 0 (((Yp l j).map (Qc true)).length)) Y Y (mD (T.os 1 0 0 (((Yp l j).map (Qc true)).length)) Y Y (fD (OF.fieldAddrO (tv (T.op 1 0) Y) Z4) Y Y (lD (OL.loadO1 (t:=(tI x1.A)) (tv (T.op 1 2) Y) Y Y QX) Y Y ?_)))))))
   obtain ⟨x2,hx2⟩:∃x,(Yp l j)[(Int.toNat x1.A)]? =some x:=⟨_,List.getElem?_eq_getElem (by omega)⟩
   first | (have hb2:=YQ hp hx2) | (have hv2:=Qb0 hx2)
   refine fD (B.indexAddrO (i:=(Int.toNat x1.A)) (tv (T.os 1 0 0 (((Yp l j).map (Qc true)).length)) Y) (tv (tI x1.A) Y) (by omega) (by first | omega | (simp only [List.length_map];omega) | (simp only [List.length_map,List.length_append,List.length_cons,List.length_nil,List.length_replicate,List.length_set,List.length_drop,List.length_take,Zr] at *;omega)) ZA Zl YK) Y Y (lD (OL.loadP1 (t:=(tI x2)) (row:=(Qc true x2)) (tv (T.orp 1 0 (Int.toNat x1.A) 0) Y) Y (Qt _ hx2) Y Y QX) Y Y (mD (T.os 1 0 0 (((Yp l j).map (Qc true)).length)) Y Y (fD (OF.fieldAddrO (tv (T.op 1 0) Y) ZV) Y Y (lD (OL.loadO1 (t:=(tI x1.B)) (tv (T.op 1 3) Y) Y Y QX) Y Y ?_))))
   obtain ⟨x3,hx3⟩:∃x,(Yp l j)[(Int.toNat x1.B)]? =some x:=⟨_,List.getElem?_eq_getElem (by omega)⟩
   first | (have hb3:=YQ hp hx3) | (have hv3:=Qb0 hx3)
   refine fD (B.indexAddrO (i:=(Int.toNat x1.B)) (tv (T.os 1 0 0 (((Yp l j).map (Qc true)).length)) Y) (tv (tI x1.B) Y) (by omega) (by first | omega | (simp only [List.length_map];omega) | (simp only [List.length_map,List.length_append,List.length_cons,List.length_nil,List.length_replicate,List.length_set,List.length_drop,List.length_take,Zr] at *;omega)) ZA Zl YK) Y Y (lD (OL.loadP1 (t:=(tI x3)) (row:=(Qc true x3)) (tv (T.orp 1 0 (Int.toNat x1.B) 0) Y) Y (Qt _ hx3) Y Y QX) Y Y (fD (B.add (n:=(x2+x3)) (tv (tI x2) Y) (tv (tI x3) Y) (by first | rfl | (rw [Qq (by omega)];omega) | (rw [Qq (by omega)];done))) Y Y (fD (B.add (n:=((x2+x3)+4)) (tv (tI (x2+x3)) Y) (VEv.int .i64 4) (by first | rfl | (rw [Qq (by omega)];omega) | (rw [Qq (by omega)];done))) Y Y (VRunD.quiet (bi:= [11,9,7,8,6,10,4,2,3,1,5,12]) Y VWant.always Y Y Y bn (cS (vc (VEv.int .i64 999) (vc (tv (tI ((x2+x3)+4)) Y) vn)) (ZH Y) (Qb8 (n+0) 999 ((x2+x3)+4)) Y Y) (VRunD.make Y VWant.always Y (OM.buildSlice (l:= [(tI (min 999 ((x2+x3)+4)))]) (VEvp.cons (tv (tI (min 999 ((x2+x3)+4))) Y) VEvp.nil) Y (by decide) (bc (nofun) bn) (bc ((bc (Y) bn)) bn) (bc (Y) bn) ZA zo3 (by kernel_rfl) Y (by rw [Zl];decide) Zl (Nat.le_of_ble_eq_true Y)) (VRunD.chain (bi:= [13,11,9,7,8,6,10,4,2,3,1,5,12,14,0]) Y VWant.always Y Y Y (by kernel_rfl) (B.append (rows:=((Yp l j).map (Qc true))) (rows2:= [[(tI (min 999 ((x2+x3)+4)))]]) (rows3:=((Yp l j++ [min 999 ((x2+x3)+4)]).map (Qc true))) (VDst.own (tv (T.os 1 0 0 (((Yp l j).map (Qc true)).length)) Y) Y Y) (VSrc.own (tv (T.os 1 2 0 1) Y) Y Y ZA (bc (bc Y bn) bn)) (by decide) ZA Zl (by decide) zo3 Y (of_decide_eq_true (by kernel_rfl)) (by first | omega | (simp only [List.length_map];omega) | (simp only [List.length_map,List.length_append,List.length_cons,List.length_nil,List.length_replicate,List.length_set,List.length_drop,List.length_take,Zr] at *;omega)) ((List.map_append (f:=Qc true) (l₁:=Yp l j) (l₂:= [min 999 ((x2+x3)+4)])).symm)) (fD (OF.assign (tv (T.os 1 3 0 (((Yp l j++ [min 999 ((x2+x3)+4)]).map (Qc true)).length)) Y)) Y Y (VRunD.nil (vinB.n (vinB.n (tn ?_)))))))))))
   refine VRun.region (mO (tN j) Y (fO (QB (tv (tN j) Y) (VEv.int .i64 1) (by omega)) (aO (tN (j+1)) Y (VRunO.nil (tn ?_)))))
   have he3:(Yp l j++ [min 999 ((x2+x3)+4)])=Yp l (j+1):=by first | rfl | rfl | (exact ZC (Qj2 hp hx1 fhc1)) | (exact ZC (QfH hp hx1 fhc1 (.inl fhc2) (Zt hx2) (Zt hx3))) | (exact ZC (QfH hp hx1 fhc1 (.inr fhc3) (Zt hx2) (Zt hx3))) | (exact ZC (Qkz hp hx1 fhc1 (fun h_=>h_.elim fhc2 fhc3) (Zt hx2))) | (simp;done) | omega
   refine ⟨(j+1:Nat),?_,?_,Wk.mk (fun k=>if k=0 then 3 else k) ?_ ?_ ?_⟩
   ·first | trivial | omega | (simp;done) | exact ⟨by omega,hI'.2⟩
   ·first | omega | (simp only [];omega) | (show _<_;omega) | (simp;omega)
   ·exact (b2 (b2 (bc ⟨(congrArg (fun l_=>T.os 1 3 0 (List.map (Qc true) l_).length) he3),rfl⟩ (b2 bn))))
   ·exact (bc ⟨(congrArg (fun l_=>some (Obj.rows 1 (List.map (Qc true) l_))) he3),(lb Y),rfl⟩ bn)
   ·exact nd Y
  refine VRun.region (fO (YD (tv (tI x1.Kind) Y) (VEv.int .i64 5)) (aO (tB (decide (x1.Kind=5))) Y (VRunO.nil (tn ?_))))
  refine cd (x1.Kind=5) Y (fun fhc3=> ?_) fun fhc3=> ?_
  ·have hkB:=hkA.2 (.inr fhc3)
   refine VRun.draw (B:= [[],[],[],[2],[2,3,1],[1,3,2,4],[],[],[7],[7,8,6],[6,8,7,9],[9,7,8,6,10,4,2,3,1,5],[5,1,3,2,4,10,6,8,7,9,11],[11,9,7,8,6,10,4,2,3,1,5,12],[12,5,1,3,2,4,10,6,8,7,9,11,13],[13,11,9,7,8,6,10,4,2,3,1,5,12,14,0],[0,14,12,5,1,3,2,4,10,6,8,7,9,11,13,15]]) (by kernel_rfl) (by kernel_rfl) (mD (T.os 1 0 0 (((Yp l j).map (Qc true)).length)) Y Y (mD (T.os 1 0 0 (((Yp l j).map (Qc true)).length)) Y Y (fD (OF.fieldAddrO (tv (T.op 1 0) Y) Z4) Y Y (lD (OL.loadO1 (t:=(tI x1.A)) (tv (T.op 1 2) Y) Y Y QX) Y Y ?_))))
   obtain ⟨x2,hx2⟩:∃x,(Yp l j)[(Int.toNat x1.A)]? =some x:=⟨_,List.getElem?_eq_getElem (by omega)⟩
   first | (have hb2:=YQ hp hx2) | (have hv2:=Qb0 hx2)
   refine fD (B.indexAddrO (i:=(Int.toNat x1.A)) (tv (T.os 1 0 0 (((Yp l j).map (Qc true)).length)) Y) (tv (tI x1.A) Y) (by omega) (by first | omega | (simp only [List.length_map];omega) | (simp only [List.length_map,List.length_append,List.length_cons,List.length_nil,List.length_replicate,List.length_set,List.length_drop,List.length_take,Zr] at *;omega)) ZA Zl YK) Y Y (lD (OL.loadP1 (t:=(tI x2)) (row:=(Qc true x2)) (tv (T.orp 1 0 (Int.toNat x1.A) 0) Y) Y (Qt _ hx2) Y Y QX) Y Y (mD (T.os 1 0 0 (((Yp l j).map (Qc true)).length)) Y Y (fD (OF.fieldAddrO (tv (T.op 1 0) Y) ZV) Y Y (lD (OL.loadO1 (t:=(tI x1.B)) (tv (T.op 1 3) Y) Y Y QX) Y Y ?_))))
   obtain ⟨x3,hx3⟩:∃x,(Yp l j)[(Int.toNat x1.B)]? =some x:=⟨_,List.getElem?_eq_getElem (by omega)⟩
   first | (have hb3:=YQ hp hx3) | (have hv3:=Qb0 hx3)
   refine fD (B.indexAddrO (i:=(Int.toNat x1.B)) (tv (T.os 1 0 0 (((Yp l j).map (Qc true)).length)) Y) (tv (tI x1.B) Y) (by omega) (by first | omega | (simp only [List.length_map];omega) | (simp only [List.length_map,List.length_append,List.length_cons,List.length_nil,List.length_replicate,List.length_set,List.length_drop,List.length_take,Zr] at *;omega)) ZA Zl YK) Y Y (lD (OL.loadP1 (t:=(tI x3)) (row:=(Qc true x3)) (tv (T.orp 1 0 (Int.toNat x1.B) 0) Y) Y (Qt _ hx3) Y Y QX) Y Y (fD (B.add (n:=(x2+x3)) (tv (tI x2) Y) (tv (tI x3) Y) (by first | rfl | (rw [Qq (by omega)];omega) | (rw [Qq (by omega)];done))) Y Y (fD (B.add (n:=((x2+x3)+4)) (tv (tI (x2+x3)) Y) (VEv.int .i64 4) (by first | rfl | (rw [Qq (by omega)];omega) | (rw [Qq (by omega)];done))) Y Y (VRunD.quiet (bi:= [11,9,7,8,6,10,4,2,3,1,5,12]) Y VWant.always Y Y Y bn (cS (vc (VEv.int .i64 999) (vc (tv (tI ((x2+x3)+4)) Y) vn)) (ZH Y) (Qb8 (n+0) 999 ((x2+x3)+4)) Y Y) (VRunD.make Y VWant.always Y (OM.buildSlice (l:= [(tI (min 999 ((x2+x3)+4)))]) (VEvp.cons (tv (tI (min 999 ((x2+x3)+4))) Y) VEvp.nil) Y (by decide) (bc (nofun) bn) (bc ((bc (Y) bn)) bn) (bc (Y) bn) ZA zo3 (by kernel_rfl) Y (by rw [Zl];decide) Zl (Nat.le_of_ble_eq_true Y)) (VRunD.chain (bi:= [13,11,9,7,8,6,10,4,2,3,1,5,12,14,0]) Y VWant.always Y Y Y (by kernel_rfl) (B.append (rows:=((Yp l j).map (Qc true))) (rows2:= [[(tI (min 999 ((x2+x3)+4)))]]) (rows3:=((Yp l j++ [min 999 ((x2+x3)+4)]).map (Qc true))) (VDst.own (tv (T.os 1 0 0 (((Yp l j).map (Qc true)).length)) Y) Y Y) (VSrc.own (tv (T.os 1 2 0 1) Y) Y Y ZA (bc (bc Y bn) bn)) (by decide) ZA Zl (by decide) zo3 Y (of_decide_eq_true (by kernel_rfl)) (by first | omega | (simp only [List.length_map];omega) | (simp only [List.length_map,List.length_append,List.length_cons,List.length_nil,List.length_replicate,List.length_set,List.length_drop,List.length_take,Zr] at *;omega)) ((List.map_append (f:=Qc true) (l₁:=Yp l j) (l₂:= [min 999 ((x2+x3)+4)])).symm)) (fD (OF.assign (tv (T.os 1 3 0 (((Yp l j++ [min 999 ((x2+x3)+4)]).map (Qc true)).length)) Y)) Y Y (VRunD.nil (vinB.n (vinB.n (tn ?_)))))))))))
   refine VRun.region (mO (tN j) Y (fO (QB (tv (tN j) Y) (VEv.int .i64 1) (by omega)) (aO (tN (j+1)) Y (VRunO.nil (tn ?_)))))
   have he4:(Yp l j++ [min 999 ((x2+x3)+4)])=Yp l (j+1):=by first | rfl | rfl | (exact ZC (Qj2 hp hx1 fhc1)) | (exact ZC (QfH hp hx1 fhc1 (.inl fhc2) (Zt hx2) (Zt hx3))) | (exact ZC (QfH hp hx1 fhc1 (.inr fhc3) (Zt hx2) (Zt hx3))) | (exact ZC (Qkz hp hx1 fhc1 (fun h_=>h_.elim fhc2 fhc3) (Zt hx2))) | (simp;done) | omega
   refine ⟨(j+1:Nat),?_,?_,Wk.mk (fun k=>if k=0 then 3 else k) ?_ ?_ ?_⟩
   ·first | trivial | omega | (simp;done) | exact ⟨by omega,hI'.2⟩
   ·first | omega | (simp only [];omega) | (show _<_;omega) | (simp;omega)
   ·exact (b2 (b2 (bc ⟨(congrArg (fun l_=>T.os 1 3 0 (List.map (Qc true) l_).length) he4),rfl⟩ (b2 bn))))
   ·exact (bc ⟨(congrArg (fun l_=>some (Obj.rows 1 (List.map (Qc true) l_))) he4),(lb Y),rfl⟩ bn)
   ·exact nd Y
  refine VRun.region (mO (T.os 1 0 0 (((Yp l j).map (Qc true)).length)) Y (mO (T.os 1 0 0 (((Yp l j).map (Qc true)).length)) Y (lf (tI x1.A) Y Z4 Y Y QX ?_)))
  obtain ⟨x2,hx2⟩:∃x,(Yp l j)[(Int.toNat x1.A)]? =some x:=⟨_,List.getElem?_eq_getElem (by omega)⟩
  first | (have hb2:=YQ hp hx2) | (have hv2:=Qb0 hx2)
  refine fO (B.indexAddrO (i:=(Int.toNat x1.A)) (tv (T.os 1 0 0 (((Yp l j).map (Qc true)).length)) Y) (tv (tI x1.A) Y) (by omega) (by first | omega | (simp only [List.length_map];omega) | (simp only [List.length_map,List.length_append,List.length_cons,List.length_nil,List.length_replicate,List.length_set,List.length_drop,List.length_take,Zr] at *;omega)) ZA Zl YK) (lO (OL.loadP1 (t:=(tI x2)) (row:=(Qc true x2)) (tv (T.orp 1 0 (Int.toNat x1.A) 0) Y) Y (Qt _ hx2) Y Y QX) (fO (B.add (n:=(x2+3)) (tv (tI x2) Y) (VEv.int .i64 3) (by first | rfl | (rw [Qq (by omega)];omega) | (rw [Qq (by omega)];done))) (cO (cS (vc (VEv.int .i64 999) (vc (tv (tI (x2+3)) Y) vn)) (ZH Y) (Qb8 (n+0) 999 (x2+3)) Y Y) (kO (OM.buildSlice (l:= [(tI (min 999 (x2+3)))]) (VEvp.cons (tv (tI (min 999 (x2+3))) Y) VEvp.nil) Y (by decide) (bc (nofun) bn) (bc ((bc (Y) bn)) bn) (bc (Y) bn) ZA zo3 (by kernel_rfl) Y (by rw [Zl];decide) Zl (Nat.le_of_ble_eq_true Y)) (cO (B.append (rows:=((Yp l j).map (Qc true))) (rows2:= [[(tI (min 999 (x2+3)))]]) (rows3:=((Yp l j++ [min 999 (x2+3)]).map (Qc true))) (VDst.own (tv (T.os 1 0 0 (((Yp l j).map (Qc true)).length)) Y) Y Y) (VSrc.own (tv (T.os 1 2 0 1) Y) Y Y ZA (bc (bc Y bn) bn)) (by decide) ZA Zl (by decide) zo3 Y (of_decide_eq_true (by kernel_rfl)) (by first | omega | (simp only [List.length_map];omega) | (simp only [List.length_map,List.length_append,List.length_cons,List.length_nil,List.length_replicate,List.length_set,List.length_drop,List.length_take,Zr] at *;omega)) ((List.map_append (f:=Qc true) (l₁:=Yp l j) (l₂:= [min 999 (x2+3)])).symm)) (aO (T.os 1 3 0 (((Yp l j++ [min 999 (x2+3)]).map (Qc true)).length)) Y (VRunO.nil (vinB.n (vinB.n (tn (VRun.region ?_)))))))))))
  refine mO (tN j) Y (fO (QB (tv (tN j) Y) (VEv.int .i64 1) (by omega)) (aO (tN (j+1)) Y (VRunO.nil (tn ?_))))
  have he5:(Yp l j++ [min 999 (x2+3)])=Yp l (j+1):=by first | rfl | rfl | (exact ZC (Qj2 hp hx1 fhc1)) | (exact ZC (QfH hp hx1 fhc1 (.inl fhc2) (Zt hx2) (Zt hx3))) | (exact ZC (QfH hp hx1 fhc1 (.inr fhc3) (Zt hx2) (Zt hx3))) | (exact ZC (Qkz hp hx1 fhc1 (fun h_=>h_.elim fhc2 fhc3) (Zt hx2))) | (simp;done) | omega
  refine ⟨(j+1:Nat),?_,?_,Wk.mk (fun k=>if k=0 then 3 else k) ?_ ?_ ?_⟩
  ·first | trivial | omega | (simp;done) | exact ⟨by omega,hI'.2⟩
  ·first | omega | (simp only [];omega) | (show _<_;omega) | (simp;omega)
  ·exact (b2 (b2 (bc ⟨(congrArg (fun l_=>T.os 1 3 0 (List.map (Qc true) l_).length) he5),rfl⟩ (b2 bn))))
  ·exact (bc ⟨(congrArg (fun l_=>some (Obj.rows 1 (List.map (Qc true) l_))) he5),(lb Y),rfl⟩ bn)
  ·exact nd Y
 refine VRun.exit (vthn.e (vthn.e (vinB.e (tn (sr (mO (T.os 1 0 0 (((Yp l j).map (Qc true)).length)) Y (mO (T.os 1 0 0 (((Yp l j).map (Qc true)).length)) Y (lO (B.lenO (m:=(Yp l j).length) (tv (T.os 1 0 0 (((Yp l j).map (Qc true)).length)) Y) ZA (List.length_map ..)) (fO (B.sub (n:=((((Yp l j).length:Nat):Int) - 1)) (tv (tN ((Yp l j).length)) Y) (VEv.int .i64 1) (by first | rfl | (rw [Qq (by omega)];omega) | (rw [Qq (by omega)];done))) ?_)))))))))
 obtain ⟨x1,hx1⟩:∃x,(Yp l j)[(Int.toNat ((((Yp l j).length:Nat):Int) - 1))]? =some x:=⟨_,List.getElem?_eq_getElem (by omega)⟩
 first | (have hb1:=YQ hp hx1) | (have hv1:=Qb0 hx1)
 refine fO (B.indexAddrO (i:=(Int.toNat ((((Yp l j).length:Nat):Int) - 1))) (tv (T.os 1 0 0 (((Yp l j).map (Qc true)).length)) Y) (tv (tI ((((Yp l j).length:Nat):Int) - 1)) Y) (by omega) (by first | omega | (simp only [List.length_map];omega) | (simp only [List.length_map,List.length_append,List.length_cons,List.length_nil,List.length_replicate,List.length_set,List.length_drop,List.length_take,Zr] at *;omega)) ZA Zl YK) (lO (OL.loadP1 (t:=(tI x1)) (row:=(Qc true x1)) (tv (T.orp 1 0 (Int.toNat ((((Yp l j).length:Nat):Int) - 1)) 0) Y) Y (Qt _ hx1) Y Y QX) (aO (tI x1) Y (nt (rt (vi (n':=x1) Y ?_)))))
 (rw [Zt hx1];congr 1;omega)
theorem Qd9 (n:Nat) (l:List D.Step) (hz:zL Zf l≤mx):Pure (Qr Tryz.prog (n+10)) 66 [(rd 4 Qg l)] (tS (ZB l)):=by
 refine Pure.intro (rs:= [ResultVar.tmp 2]) Tryz.func66 Y Y Y (E0:= [(0,(rd 4 Qg l))]) Y ?_
 obtain ⟨hlim,hmx,hmax⟩:=QE
 have hl:=Zb (z:=Zf) l
 refine sr (fO (OF.assign (VEv.str (⟨#[]⟩:ByteArray))) (nt (sq (sr (mO (rd 4 Qg l) Y (cO (cS (vc (tv (rd 4 Qg l) Y) vn) (ZH Y) (QbP (n+5) l (by first | assumption | omega)) Y Y) (fO (Q8 (tv (tB (decide (QT l))) Y)) (mO (tB (!(decide (QT l)))) Y ?_))))))))
 refine gn (QT l) (fun fhg6_1=> ?_) fun fhg6_1=> ?_
 ·refine QA 3 3 false 6 (ny fhg6_1) Y Y Y ?_
  refine fO (OF.pickT (VEv.tmpB Y (ny fhg6_1)) (VEv.bool true)) (nt (ct Y (sr (fO (OF.assign (VEv.str (⟨#[]⟩:ByteArray))) (nt (rt (tr ?_)))))))
  refine vfin.eq (r':=(tS (⟨#[]⟩:ByteArray))) ?_ (vfin.r (VRes.tmp (t:=(tS (⟨#[]⟩:ByteArray))) Y VRes.nil) (Give.str _))
  refine congrArg T.str ?_
  first | exact Qbw fhg6_1 | (rw [Qda fhg6_1] at fhc0;refine QbD ?_;omega) | (rw [Qda fhg6_1] at fhc0;refine Qby fhg6_1 ?_;omega)
 refine gF (nz fhg6_1) Y Y (OF.move (tv (rd 4 Qg l) Y)) (VRunO.chain (VWant.on Y Y (nz fhg6_1)) (cS (vc (tv (rd 4 Qg l) Y) vn) (ZH Y) (Qe1 (n+7) l (by first | assumption | omega) (by first | assumption | omega)) Y Y) (gF (nz fhg6_1) Y Y (xgt (tv (tI (pZ l (l.length - 1))) Y) (VEv.int .i64 80)) (fO (OF.pickF (VEv.tmpB Y (nz fhg6_1)) (tv (tB (decide (80<pZ l (l.length - 1)))) Y)) (nt ?_))))
 refine cd (80<pZ l (l.length - 1)) Y (fun fhc0=> ?_) fun fhc0=> ?_
 ·refine sr ?_
  refine fO (OF.assign (VEv.str (⟨#[]⟩:ByteArray))) (nt (rt (tr ?_)))
  refine vfin.eq (r':=(tS (⟨#[]⟩:ByteArray))) ?_ (vfin.r (VRes.tmp (t:=(tS (⟨#[]⟩:ByteArray))) Y VRes.nil) (Give.str _))
  refine congrArg T.str ?_
  first | exact Qbw fhg6_1 | (rw [Qda fhg6_1] at fhc0;refine QbD ?_;omega) | (rw [Qda fhg6_1] at fhc0;refine Qby fhg6_1 ?_;omega)
 have hpl:=fhg6_1.1
 refine sk (tn (sr (mO (rd 4 Qg l) Y (mO (rd 4 Qg l) Y (lO (B.lenR (m:=l.length) (tv (rd 4 Qg l) Y) U72 (List.length_map ..)) (fO (B.sub (n:=(((l.length:Nat):Int) - 1)) (tv (tN l.length) Y) (VEv.int .i64 1) (by first | rfl | (rw [Qq (by omega)];omega) | (rw [Qq (by omega)];done))) (cO (cS (vc (tv (rd 4 Qg l) Y) (vc (tv (tI (((l.length:Nat):Int) - 1)) Y) vn)) (ZH Y) (Qex (n+0) 9 l (((l.length:Nat):Int) - 1) (by first | assumption | omega) (by first | assumption | omega) (by first | assumption | omega) (by first | assumption | omega)) Y Y) (aO (tS (pT l 9 (((l.length:Nat):Int) - 1))) Y (nt (rt ?_))))))))))
 refine vfin.eq (r':=(tS (pT l 9 (((l.length:Nat):Int) - 1)))) ?_ (vfin.r (VRes.tmp (t:=(tS (pT l 9 (((l.length:Nat):Int) - 1)))) Y VRes.nil) (Give.str _))
 refine congrArg T.str ?_
 first | exact Qbw fhg6_1 | (rw [Qda fhg6_1] at fhc0;refine QbD ?_;omega) | (rw [Qda fhg6_1] at fhc0;refine Qby fhg6_1 ?_;omega)
theorem Qd0 (n:Nat) (l:List D.Step) (hz:zL Zf l≤mx):Pure (Qr Tryz.prog (n+11)) 68 [(rd 4 Qg l)] (tS (ZB l)):=by
 refine Pure.intro (rs:= [ResultVar.tmp 2]) Tryz.func68 Y Y Y (E0:= [(0,(rd 4 Qg l))]) Y ?_
 obtain ⟨hlim,hmx,hmax⟩:=QE
 have hl:=Zb (z:=Zf) l
 refine sr (fO (OF.assign (VEv.str (⟨#[]⟩:ByteArray))) (nt (sq (sr (mO (rd 4 Qg l) Y (cO (cS (vc (tv (rd 4 Qg l) Y) vn) (ZH Y) (QbU (n+7) l (by first | assumption | omega)) Y Y) (fO (Q8 (tv (tB (decide (QT l))) Y)) (nt ?_))))))))
 refine cn (QT l) Y (fun fhc0=> ?_) fun fhc0=> ?_
 ·refine sr ?_
  refine fO (OF.assign (VEv.str (⟨#[]⟩:ByteArray))) (nt (rt (tr ?_)))
  refine vfin.eq (r':=(tS (⟨#[]⟩:ByteArray))) ?_ (vfin.r (VRes.tmp (t:=(tS (⟨#[]⟩:ByteArray))) Y VRes.nil) (Give.str _))
  refine congrArg T.str ?_
  first | exact Qbw fhc0 | (refine QbD ?_;omega) | (refine Qby fhc0 ?_;omega)
 have hp0:QT l:=by simpa using fhc0
 have hpl:=hp0.1
 have hsz:=Qko hp0 (d:=9) (Nat.le_refl 9) (((l.length:Nat):Int) - 1)
 refine sk (tn (sr (mO (rd 4 Qg l) Y (mO (rd 4 Qg l) Y (lO (B.lenR (m:=l.length) (tv (rd 4 Qg l) Y) U72 (List.length_map ..)) (fO (B.sub (n:=(((l.length:Nat):Int) - 1)) (tv (tN l.length) Y) (VEv.int .i64 1) (by first | rfl | (rw [Qq (by omega)];omega) | (rw [Qq (by omega)];done))) (cO (cS (vc (tv (rd 4 Qg l) Y) (vc (tv (tI (((l.length:Nat):Int) - 1)) Y) vn)) (ZH Y) (Qeh (n+0) 9 l (((l.length:Nat):Int) - 1) (by first | assumption | omega) (by first | assumption | omega) (by first | assumption | omega) (by first | assumption | omega)) Y Y) (aO (tS (pT l 9 (((l.length:Nat):Int) - 1))) Y (nt (sq (sr ?_)))))))))))
 refine mO (tS (pT l 9 (((l.length:Nat):Int) - 1))) Y (lO (B.lenS (tv (tS (pT l 9 (((l.length:Nat):Int) - 1))) Y) U9) (fO (B.gtr (c:=(decide (80<(pT l 9 (((l.length:Nat):Int) - 1)).size))) (tv (tN ((pT l 9 (((l.length:Nat):Int) - 1)).size)) Y) (VEv.int .i64 80) (Zd (by omega))) (nt ?_)))
 refine cd (80<(pT l 9 (((l.length:Nat):Int) - 1)).size) Y (fun fhc1=> ?_) fun fhc1=> ?_
 ·refine sr ?_
  refine fO (OF.assign (VEv.str (⟨#[]⟩:ByteArray))) (nt (rt (tr ?_)))
  refine vfin.eq (r':=(tS (⟨#[]⟩:ByteArray))) ?_ (vfin.r (VRes.tmp (t:=(tS (⟨#[]⟩:ByteArray))) Y VRes.nil) (Give.str _))
  refine congrArg T.str ?_
  first | exact Qbw fhc0 | (refine QbD ?_;omega) | (refine Qby fhc0 ?_;omega)
 refine sk (tn (sr (mO (tS (pT l 9 (((l.length:Nat):Int) - 1))) Y (aO (tS (pT l 9 (((l.length:Nat):Int) - 1))) Y (nt (rt ?_))))))
 refine vfin.eq (r':=(tS (pT l 9 (((l.length:Nat):Int) - 1)))) ?_ (vfin.r (VRes.tmp (t:=(tS (pT l 9 (((l.length:Nat):Int) - 1)))) Y VRes.nil) (Give.str _))
 refine congrArg T.str ?_
 first | exact Qbw fhc0 | (refine QbD ?_;omega) | (refine Qby fhc0 ?_;omega)
theorem Qbo {c:D.Clue} (h:(1≤c.Sense∧c.Sense≤99)∧QT c.Play) (h2:¬ZB c.Play=⟨#[]⟩):Yf c.Sense++⟨#[58]⟩++ZB c.Play=QM c:=(if_pos ⟨h,h2⟩).symm
theorem Qbr {c:D.Clue} (h:¬((1≤c.Sense∧c.Sense≤99)∧QT c.Play)):(⟨#[]⟩:ByteArray)=QM c:=(if_neg (fun x=>h x.1)).symm
theorem Qbx {c:D.Clue} (h:ZB c.Play=⟨#[]⟩):(⟨#[]⟩:ByteArray)=QM c:=(if_neg (fun x=>x.2 h)).symm
theorem Qco {a:D.Issue} {tk:Int} {i:Nat} (h:ZK a) (h2:a.Open≤tk) (hi:a.Puzzle.Clues.length≤i):(a.Puzzle.Clues.take i).map QM=Qu a tk:=by
 rw [Qu,if_pos ⟨h,h2⟩,List.take_of_length_le hi]
theorem JJ {a:D.Issue} {tk:Int} {i:Nat} (h:¬(ZK a∧a.Open≤tk)) (hi:0<i→ZK a∧a.Open≤tk):(a.Puzzle.Clues.take i).map QM=Qu a tk:=by
 rw [Qu,if_neg h]
 rcases Nat.eq_zero_or_pos i with rfl | h1
 ·rfl
 ·exact absurd (hi h1) h
theorem QeB {a:D.Issue} {tk:Int} {i:Nat} (h:¬i<a.Puzzle.Clues.length) (hi:0<i→ZK a∧a.Open≤tk):(a.Puzzle.Clues.take i).map QM=Qu a tk:=by
 by_cases h1:ZK a∧a.Open≤tk
 ·exact Qco h1.1 h1.2 (by omega)
 ·exact JJ h1 hi
theorem QeW {a:D.Issue} {tk:Int} (h:¬(ZK a∧a.Open≤tk)): []=Qu a tk:=by rw [Qu,if_neg h]
theorem Qea (n:Nat) (c:D.Clue) (hz:QO c≤mx):Pure (Qr Tryz.prog (n+11)) 46 [(T.agg (Qe false c))] (tS (QM c)):=by
 refine Pure.intro (rs:= [ResultVar.tmp 2]) Tryz.func46 Y Y Y (E0:= [(0,(T.agg (Qe false c)))]) Y ?_
 obtain ⟨hlim,hmx,hmax⟩:=QE
 have hzz:=hz
 simp only [QO] at hzz
 have hps:=QiL c.Play
 have hds:=QhL c.Sense
 have e58:(⟨#[58]⟩:ByteArray).size=1:=rfl
 refine sr (kO (B.box (ts:=(Qe false c)) (tv (T.agg (Qe false c)) Y) nofun Y) (fO (OF.assign (VEv.str (⟨#[]⟩:ByteArray))) (nt (sr (lf (rd 4 Qg c.Play) Y Qa5 Y Y Qie (cO (cS (vc (tv (rd 4 Qg c.Play) Y) vn) (ZH Y) (Qd9 (n+0) c.Play (by first | (simp only [ByteArray.size_append];omega) | assumption | omega)) Y Y) (aO (tS (ZB c.Play)) Y (nt (sq (sr (lO (OL.loadOn (us:=(Qe false c)) (tv (T.op 0 0) Y) Y QdW Jj (lb Y) Y) ?_)))))))))))
 refine cO (cS (vc (tv (T.agg (Qe false c)) Y) vn) (LendL.cons (lg okeClue) ln) (QbR (n+5) c (by first | (simp only [ByteArray.size_append];omega) | assumption | omega)) Y Y) (fO (Q8 (tv (tB (decide ((1≤c.Sense∧c.Sense≤99)∧QT c.Play))) Y)) (mO (tB (!(decide ((1≤c.Sense∧c.Sense≤99)∧QT c.Play)))) Y ?_))
 refine gn ((1≤c.Sense∧c.Sense≤99)∧QT c.Play) (fun fhg10_1=> ?_) fun fhg10_1=> ?_
 ·refine QA 2 3 false 10 (ny fhg10_1) Y Y Y ?_
  refine fO (OF.pickT (VEv.tmpB Y (ny fhg10_1)) (VEv.bool true)) (nt (ct Y (sr (fO (OF.assign (VEv.str (⟨#[]⟩:ByteArray))) (nt (rt (tr ?_)))))))
  refine vfin.eq (r':=(tS (⟨#[]⟩:ByteArray))) ?_ (vfin.r (VRes.tmp (t:=(tS (⟨#[]⟩:ByteArray))) Y VRes.nil) (Give.str _))
  refine congrArg T.str ?_
  first | exact Qbr fhg10_1 | exact Qbx fhc0 | exact Qbo fhg10_1 fhc0
 refine gF (nz fhg10_1) Y Y (OF.move (tv (tS (ZB c.Play)) Y)) (gF (nz fhg10_1) Y Y (B.seql (c:=(decide (ZB c.Play=(⟨#[]⟩:ByteArray)))) (tv (tS (ZB c.Play)) Y) (VEv.str (⟨#[]⟩:ByteArray)) Y) (fO (OF.pickF (VEv.tmpB Y (nz fhg10_1)) (tv (tB (decide (ZB c.Play=(⟨#[]⟩:ByteArray)))) Y)) (nt ?_)))
 refine cd (ZB c.Play=(⟨#[]⟩:ByteArray)) Y (fun fhc0=> ?_) fun fhc0=> ?_
 ·refine sr ?_
  refine fO (OF.assign (VEv.str (⟨#[]⟩:ByteArray))) (nt (rt (tr ?_)))
  refine vfin.eq (r':=(tS (⟨#[]⟩:ByteArray))) ?_ (vfin.r (VRes.tmp (t:=(tS (⟨#[]⟩:ByteArray))) Y VRes.nil) (Give.str _))
  refine congrArg T.str ?_
  first | exact Qbr fhg10_1 | exact Qbx fhc0 | exact Qbo fhg10_1 fhc0
 refine sk (tn (sr (lf (tI c.Sense) Y Qa2 Y Y QX (cO (cS (vc (tv (tI c.Sense) Y) vn) (ZH Y) (Qdp (n+9) c.Sense (by first | (simp only [ByteArray.size_append];omega) | assumption | omega)) Y Y) (fO (B.sadd (tv (tS (Yf c.Sense)) Y) (VEv.str (⟨#[58]⟩:ByteArray)) (by first | (simp only [ByteArray.size_append];omega) | omega | (simp only [List.length_map];omega) | (simp only [List.length_map,List.length_append,List.length_cons,List.length_nil,List.length_replicate,List.length_set,List.length_drop,List.length_take,Zr] at *;omega))) (mO (tS (ZB c.Play)) Y (fO (B.sadd (tv (tS (Yf c.Sense++(⟨#[58]⟩:ByteArray))) Y) (tv (tS (ZB c.Play)) Y) (by first | (simp only [ByteArray.size_append];omega) | omega | (simp only [List.length_map];omega) | (simp only [List.length_map,List.length_append,List.length_cons,List.length_nil,List.length_replicate,List.length_set,List.length_drop,List.length_take,Zr] at *;omega))) (aO (tS ((Yf c.Sense++(⟨#[58]⟩:ByteArray))++ZB c.Play)) Y (nt (rt ?_))))))))))
 refine vfin.eq (r':=(tS ((Yf c.Sense++(⟨#[58]⟩:ByteArray))++ZB c.Play))) ?_ (vfin.r (VRes.tmp (t:=(tS ((Yf c.Sense++(⟨#[58]⟩:ByteArray))++ZB c.Play))) Y VRes.nil) (Give.str _))
 refine congrArg T.str ?_
 first | exact Qbr fhg10_1 | exact Qbx fhc0 | exact Qbo fhg10_1 fhc0
theorem QdP (n:Nat) (c:D.Clue) (hz:QO c≤mx):Pure (Qr Tryz.prog (n+12)) 47 [(T.agg (Qe false c))] (tS (QM c)):=by
 refine Pure.intro (rs:= [ResultVar.tmp 2]) Tryz.func47 Y Y Y (E0:= [(0,(T.agg (Qe false c)))]) Y ?_
 obtain ⟨hlim,hmx,hmax⟩:=QE
 have hzz:=hz
 simp only [QO] at hzz
 have hps:=QiL c.Play
 have hds:=QhL c.Sense
 have e58:(⟨#[58]⟩:ByteArray).size=1:=rfl
 refine sr (kO (B.box (ts:=(Qe false c)) (tv (T.agg (Qe false c)) Y) nofun Y) (fO (OF.assign (VEv.str (⟨#[]⟩:ByteArray))) (nt (sr (lf (rd 4 Qg c.Play) Y Qa5 Y Y Qie (cO (cS (vc (tv (rd 4 Qg c.Play) Y) vn) (ZH Y) (Qd0 (n+0) c.Play (by first | (simp only [ByteArray.size_append];omega) | assumption | omega)) Y Y) (aO (tS (ZB c.Play)) Y (nt (sq (sr (lO (OL.loadOn (us:=(Qe false c)) (tv (T.op 0 0) Y) Y QdW Jj (lb Y) Y) ?_)))))))))))
 refine cO (cS (vc (tv (T.agg (Qe false c)) Y) vn) (LendL.cons (lg okeClue) ln) (QbL (n+7) c (by first | (simp only [ByteArray.size_append];omega) | assumption | omega)) Y Y) (fO (Q8 (tv (tB (decide ((1≤c.Sense∧c.Sense≤99)∧QT c.Play))) Y)) (mO (tB (!(decide ((1≤c.Sense∧c.Sense≤99)∧QT c.Play)))) Y ?_))
 refine gn ((1≤c.Sense∧c.Sense≤99)∧QT c.Play) (fun fhg10_1=> ?_) fun fhg10_1=> ?_
 ·refine QA 2 3 false 10 (ny fhg10_1) Y Y Y ?_
  refine fO (OF.pickT (VEv.tmpB Y (ny fhg10_1)) (VEv.bool true)) (nt (ct Y (sr (fO (OF.assign (VEv.str (⟨#[]⟩:ByteArray))) (nt (rt (tr ?_)))))))
  refine vfin.eq (r':=(tS (⟨#[]⟩:ByteArray))) ?_ (vfin.r (VRes.tmp (t:=(tS (⟨#[]⟩:ByteArray))) Y VRes.nil) (Give.str _))
  refine congrArg T.str ?_
  first | exact Qbr fhg10_1 | exact Qbx fhc0 | exact Qbo fhg10_1 fhc0
 refine gF (nz fhg10_1) Y Y (OF.move (tv (tS (ZB c.Play)) Y)) (gF (nz fhg10_1) Y Y (B.seql (c:=(decide (ZB c.Play=(⟨#[]⟩:ByteArray)))) (tv (tS (ZB c.Play)) Y) (VEv.str (⟨#[]⟩:ByteArray)) Y) (fO (OF.pickF (VEv.tmpB Y (nz fhg10_1)) (tv (tB (decide (ZB c.Play=(⟨#[]⟩:ByteArray)))) Y)) (nt ?_)))
 refine cd (ZB c.Play=(⟨#[]⟩:ByteArray)) Y (fun fhc0=> ?_) fun fhc0=> ?_
 ·refine sr ?_
  refine fO (OF.assign (VEv.str (⟨#[]⟩:ByteArray))) (nt (rt (tr ?_)))
  refine vfin.eq (r':=(tS (⟨#[]⟩:ByteArray))) ?_ (vfin.r (VRes.tmp (t:=(tS (⟨#[]⟩:ByteArray))) Y VRes.nil) (Give.str _))
  refine congrArg T.str ?_
  first | exact Qbr fhg10_1 | exact Qbx fhc0 | exact Qbo fhg10_1 fhc0
 refine sk (tn (sr (lf (tI c.Sense) Y Qa2 Y Y QX (cO (cS (vc (tv (tI c.Sense) Y) vn) (ZH Y) (Qc2 (n+6) c.Sense (by first | (simp only [ByteArray.size_append];omega) | assumption | omega)) Y Y) (fO (B.sadd (tv (tS (Yf c.Sense)) Y) (VEv.str (⟨#[58]⟩:ByteArray)) (by first | (simp only [ByteArray.size_append];omega) | omega | (simp only [List.length_map];omega) | (simp only [List.length_map,List.length_append,List.length_cons,List.length_nil,List.length_replicate,List.length_set,List.length_drop,List.length_take,Zr] at *;omega))) (mO (tS (ZB c.Play)) Y (fO (B.sadd (tv (tS (Yf c.Sense++(⟨#[58]⟩:ByteArray))) Y) (tv (tS (ZB c.Play)) Y) (by first | (simp only [ByteArray.size_append];omega) | omega | (simp only [List.length_map];omega) | (simp only [List.length_map,List.length_append,List.length_cons,List.length_nil,List.length_replicate,List.length_set,List.length_drop,List.length_take,Zr] at *;omega))) (aO (tS ((Yf c.Sense++(⟨#[58]⟩:ByteArray))++ZB c.Play)) Y (nt (rt ?_))))))))))
 refine vfin.eq (r':=(tS ((Yf c.Sense++(⟨#[58]⟩:ByteArray))++ZB c.Play))) ?_ (vfin.r (VRes.tmp (t:=(tS ((Yf c.Sense++(⟨#[58]⟩:ByteArray))++ZB c.Play))) Y VRes.nil) (Give.str _))
 refine congrArg T.str ?_
 first | exact Qbr fhg10_1 | exact Qbx fhc0 | exact Qbo fhg10_1 fhc0
theorem QeY (n:Nat) (a:D.Issue) (tk:Int) (hz:Zq a≤mx):Pure (Qr Tryz.prog (n+13)) 20 [(T.agg (QG false a)),(tI tk)] (T.sl true 1 ((Qu a tk).map (Qv true))):=by
 refine Pure.intro (rs:= [ResultVar.tmp 4]) Tryz.func20 Y Y Y (E0:= [(0,(T.agg (QG false a))),(1,(tI tk))]) Y ?_
 obtain ⟨hlim,hmx,hmax⟩:=QE
 have hz2:=hz
 simp only [Zq,QP,ZN] at hz2
 have hlc:=Zb (z:=QO) a.Puzzle.Clues
 refine sr (kO (B.box (ts:=(QG false a)) (tv (T.agg (QG false a)) Y) nofun Y) (fO (OF.assign VEv.nils) (nt (sr (kO (OM.slice0 U52 zo9 (by kernel_rfl) Y (by rw [sz9];decide) sz9) (aO (T.os 1 1 0 0) Y (nt (sq (sr (fO (OF.assign (VEv.int .i64 0)) (nt ?_)))))))))))
 refine VRun.block ?_
 have he1: []=(((a.Puzzle.Clues.take 0).map QM).map (Qv true)):=by first | rfl | rfl | (exact Qej hx1) | (simp;done) | omega
 refine VRun.loop (A:=Nat) (fun s_=> [(1,(tI tk)),(2,(T.op 0 0)),(4,T.nils),(5,(T.os 1 1 0 ((((a.Puzzle.Clues.take s_).map QM).map (Qv true)).length))),(6,(tN s_))]) (fun s_=>Q5 [(0,(Obj.cells (QG false a))),(1,(Obj.rows 1 (((a.Puzzle.Clues.take s_).map QM).map (Qv true))))]) 2 (fun s_=>s_≤a.Puzzle.Clues.length∧(0<s_→ZK a∧a.Open≤tk)) (fun s_=>a.Puzzle.Clues.length - s_) (0:Nat) ?_ (Wk.mk (fun k=>k) ?_ ?_ ?_) ?_
 ·exact ⟨Nat.zero_le _,fun e=>absurd e (Nat.lt_irrefl 0)⟩
 ·exact (b2 (b2 (b2 (bc ⟨(congrArg (fun n_=>T.os 1 1 0 n_) (show 0=(((a.Puzzle.Clues.take 0).map QM).map (Qv true)).length from (by first | rfl | (simp only [List.length_map];omega) | (simp only [List.length_map,List.length_set,List.length_append,List.length_take,List.length_replicate,List.length_cons,List.length_nil];omega)))),rfl⟩ (b2 bn)))))
 ·exact (b3 (bc ⟨(congrArg (fun l_=>some (Obj.rows 1 l_)) he1),(lb Y),rfl⟩ bn))
 ·exact nd Y
 rintro i (hI':i≤a.Puzzle.Clues.length∧(0<i→ZK a∧a.Open≤tk))
 show VRun _ _ _ [(1,(tI tk)),(2,(T.op 0 0)),(4,T.nils),(5,(T.os 1 1 0 ((((a.Puzzle.Clues.take i).map QM).map (Qv true)).length))),(6,(tN i))] (Q5 [(0,(Obj.cells (QG false a))),(1,(Obj.rows 1 (((a.Puzzle.Clues.take i).map QM).map (Qv true))))]) 2 _
 have hI1:=hI'.1
 have hI2:=hI'.2
 have hI3:(a.Puzzle.Clues.take i).length≤a.Puzzle.Clues.length:=by rw [List.length_take];omega
 refine sq (sr (mO (tN i) Y (fO (OF.fieldAddrO (tv (T.op 0 0) Y) QaF) (lf (rd 2 Qe a.Puzzle.Clues) Y Y9 Y Y Qee (lO (B.lenR (m:=a.Puzzle.Clues.length) (tv (rd 2 Qe a.Puzzle.Clues) Y) U34 (List.length_map ..)) (fO (Zg (tv (tN i) Y) (tv (tN a.Puzzle.Clues.length) Y)) (mO (tB (decide (i<a.Puzzle.Clues.length))) Y ?_)))))))
 refine gw (i<a.Puzzle.Clues.length) (fun fhg14_2=> ?_) fun fhg14_2=> ?_
 ·refine gF (dy fhg14_2) Y Y (OF.move (tv (tI tk) Y)) ?_
  refine Yl (tI a.Open) (dy fhg14_2) Y Y Y Y QaD Y Y QX (gF (dy fhg14_2) Y Y (xge (tv (tI tk) Y) (tv (tI a.Open) Y)) (fO (OF.pickT (VEv.tmpB Y (dy fhg14_2)) (tv (tB (decide (a.Open≤tk))) Y)) (mO (tB (decide (a.Open≤tk))) Y ?_)))
  refine gw (a.Open≤tk) (fun fhg20_3=> ?_) fun fhg20_3=> ?_
  ·refine gL (dy fhg20_3) Y Y (OL.loadOn (us:=(QG false a)) (tv (T.op 0 0) Y) Y Qh3 Qgj (lb Y) Y) ?_
   refine VRunO.chain (VWant.on Y Y (dy fhg20_3)) (cS (vc (tv (T.agg (QG false a)) Y) vn) (LendL.cons (lg JL) ln) (Qet (n+0) a (by first | assumption | omega)) Y Y) (fO (OF.pickT (VEv.tmpB Y (dy fhg20_3)) (tv (tB (decide (ZK a))) Y)) (nt ?_))
   refine cd (ZK a) Y (fun fhc0=> ?_) fun fhc0=> ?_
   ·refine sk ?_
    refine tn (sq (VRun.block (VRun.region (mO (T.os 1 1 0 ((((a.Puzzle.Clues.take i).map QM).map (Qv true)).length)) Y (fO (OF.fieldAddrO (tv (T.op 0 0) Y) QaF) (lf (rd 2 Qe a.Puzzle.Clues) Y Y9 Y Y Qee (mO (tN i) Y ?_)))))))
    obtain ⟨x1,hx1⟩:∃x,a.Puzzle.Clues[i]? =some x:=⟨_,List.getElem?_eq_getElem (by omega)⟩
    have hz1:=QdD (z:=QO) hx1
    refine fO (OF.indexAddrR (row:=(Qe false x1)) (i:=i) (tv (rd 2 Qe a.Puzzle.Clues) Y) (tv (tN i) Y) Y (Qt _ hx1) U34 Jj Qd1) (lO (OL.loadRn (us:=(Qe false x1)) (tv (T.rp (Qe false x1)) Y) QdW Jj (lb Y) Y) (cO (cS (vc (tv (T.agg (Qe false x1)) Y) vn) (LendL.cons (lg okeClue) ln) (Qea (n+1) x1 (by first | assumption | omega)) Y Y) (kO (OM.buildSlice (l:= [(tS (QM x1))]) (VEvp.cons (tv (tS (QM x1)) Y) VEvp.nil) Y (by decide) (bc (nofun) bn) (bc ((bc (Y) bn)) bn) (bc (Y) bn) U52 zo9 (by kernel_rfl) Y (by rw [sz9];decide) sz9 (Nat.le_of_ble_eq_true Y)) (cO (B.append (rows:=(((a.Puzzle.Clues.take i).map QM).map (Qv true))) (rows2:= [[(tS (QM x1))]]) (rows3:=(((a.Puzzle.Clues.take i).map QM++ [QM x1]).map (Qv true))) (VDst.own (tv (T.os 1 1 0 ((((a.Puzzle.Clues.take i).map QM).map (Qv true)).length)) Y) Y Y) (VSrc.own (tv (T.os 1 2 0 1) Y) Y Y U52 (bc (bc Y bn) bn)) (by decide) U52 sz9 (by decide) zo9 Y (of_decide_eq_true (by kernel_rfl)) (by first | omega | (simp only [List.length_map];omega) | (simp only [List.length_map,List.length_append,List.length_cons,List.length_nil,List.length_replicate,List.length_set,List.length_drop,List.length_take,Zr] at *;omega)) ((List.map_append (f:=Qv true) (l₁:=(a.Puzzle.Clues.take i).map QM) (l₂:= [QM x1])).symm)) (aO (T.os 1 3 0 ((((a.Puzzle.Clues.take i).map QM++ [QM x1]).map (Qv true)).length)) Y (VRunO.nil (vinB.n (tn (VRun.region (mO (tN i) Y (fO (QB (tv (tN i) Y) (VEv.int .i64 1) (by omega)) ?_)))))))))))
    refine aO (tN (i+1)) Y (VRunO.nil (tn ?_))
    have he4:((a.Puzzle.Clues.take i).map QM++ [QM x1])=(a.Puzzle.Clues.take (i+1)).map QM:=by first | rfl | rfl | (exact Qej hx1) | (simp;done) | omega
    refine ⟨(i+1:Nat),?_,?_,Wk.mk (fun k=>if k=1 then 3 else k) ?_ ?_ ?_⟩
    ·exact ⟨by omega,fun _=>⟨fhc0,fhg20_3⟩⟩
    ·first | omega | (simp only [];omega) | (show _<_;omega) | (simp;omega)
    ·exact (b2 (b2 (b2 (bc ⟨(congrArg (fun l_=>T.os 1 3 0 (List.map (Qv true) l_).length) he4),rfl⟩ (b2 bn)))))
    ·exact (b3 (bc ⟨(congrArg (fun l_=>some (Obj.rows 1 (List.map (Qv true) l_))) he4),(lb Y),rfl⟩ bn))
    ·exact nd Y
   refine VRun.exit (vthn.e (vthn.e (vinB.e (tn (sr (mO (T.os 1 1 0 ((((a.Puzzle.Clues.take i).map QM).map (Qv true)).length)) Y (aO (T.os 1 1 0 ((((a.Puzzle.Clues.take i).map QM).map (Qv true)).length)) Y (nt (rt ?_)))))))))
   refine vfin.eq (r':=(T.sl true 1 (((a.Puzzle.Clues.take i).map QM).map (Qv true)))) ?_ (vfin.r (VRes.tmp (t:=(T.os 1 1 0 ((((a.Puzzle.Clues.take i).map QM).map (Qv true)).length))) Y VRes.nil) (Give.os Y Y (okStr.cleanMap _)))
   refine congrArg (fun l_=>T.sl true 1 (List.map (Qv true) l_)) ?_
   first | exact JJ (fun h_=>fhc0 h_.1) hI2 | exact JJ (fun h_=>fhg20_3 h_.2) hI2 | exact QeB fhg14_2 hI2
  refine QA 2 12 true 20 (dz fhg20_3) Y Y Y (fO (OF.pickF (VEv.tmpB Y (dz fhg20_3)) (VEv.bool false)) (nt (cf Y (VRun.exit (vthn.e (vthn.e (vinB.e (tn (sr (mO (T.os 1 1 0 ((((a.Puzzle.Clues.take i).map QM).map (Qv true)).length)) Y (aO (T.os 1 1 0 ((((a.Puzzle.Clues.take i).map QM).map (Qv true)).length)) Y ?_)))))))))))
  refine nt (rt ?_)
  refine vfin.eq (r':=(T.sl true 1 (((a.Puzzle.Clues.take i).map QM).map (Qv true)))) ?_ (vfin.r (VRes.tmp (t:=(T.os 1 1 0 ((((a.Puzzle.Clues.take i).map QM).map (Qv true)).length))) Y VRes.nil) (Give.os Y Y (okStr.cleanMap _)))
  refine congrArg (fun l_=>T.sl true 1 (List.map (Qv true) l_)) ?_
  first | exact JJ (fun h_=>fhc0 h_.1) hI2 | exact JJ (fun h_=>fhg20_3 h_.2) hI2 | exact QeB fhg14_2 hI2
 refine QA 4 6 true 14 (dz fhg14_2) Y Y Y (fO (OF.pickF (VEv.tmpB Y (dz fhg14_2)) (VEv.bool false)) (mO (tB false) Y (QA 2 12 true 20 (b:=false) Y Y Y Y (fO (OF.pickF (tv (tB false) Y) (VEv.bool false)) (nt (cf Y (VRun.exit (vthn.e (vthn.e (vinB.e (tn ?_)))))))))))
 refine sr (mO (T.os 1 1 0 ((((a.Puzzle.Clues.take i).map QM).map (Qv true)).length)) Y (aO (T.os 1 1 0 ((((a.Puzzle.Clues.take i).map QM).map (Qv true)).length)) Y (nt (rt ?_))))
 refine vfin.eq (r':=(T.sl true 1 (((a.Puzzle.Clues.take i).map QM).map (Qv true)))) ?_ (vfin.r (VRes.tmp (t:=(T.os 1 1 0 ((((a.Puzzle.Clues.take i).map QM).map (Qv true)).length))) Y VRes.nil) (Give.os Y Y (okStr.cleanMap _)))
 refine congrArg (fun l_=>T.sl true 1 (List.map (Qv true) l_)) ?_
 first | exact JJ (fun h_=>fhc0 h_.1) hI2 | exact JJ (fun h_=>fhg20_3 h_.2) hI2 | exact QeB fhg14_2 hI2
theorem Qbb (n:Nat) (a:D.Issue) (tk:Int) (hz:Zq a≤mx):Pure (Qr Tryz.prog (n+45)) 21 [(T.agg (QG false a)),(tI tk)] (T.sl true 1 ((Qu a tk).map (Qv true))):=by
 refine Pure.intro (rs:= [ResultVar.tmp 4]) Tryz.func21 Y Y Y (E0:= [(0,(T.agg (QG false a))),(1,(tI tk))]) Y ?_
 obtain ⟨hlim,hmx,hmax⟩:=QE
 have hz2:=hz
 simp only [Zq,QP,ZN] at hz2
 have hlc:=Zb (z:=QO) a.Puzzle.Clues
 refine sr (kO (B.box (ts:=(QG false a)) (tv (T.agg (QG false a)) Y) nofun Y) (fO (OF.assign VEv.nils) (nt (sq (sr (lO (OL.loadOn (us:=(QG false a)) (tv (T.op 0 0) Y) Y Qh3 Qgj (lb Y) Y) (cO (cS (vc (tv (T.agg (QG false a)) Y) vn) (LendL.cons (lg JL) ln) (Qe6 (n+0) a (by first | assumption | omega)) Y Y) (fO (Q8 (tv (tB (decide (ZK a))) Y)) (mO (tB (!(decide (ZK a)))) Y ?_)))))))))
 refine gn (ZK a) (fun fhg11_1=> ?_) fun fhg11_1=> ?_
 ·refine QA 4 3 false 11 (ny fhg11_1) Y Y Y ?_
  refine fO (OF.pickT (VEv.tmpB Y (ny fhg11_1)) (VEv.bool true)) (nt (ct Y (sr (fO (OF.assign VEv.nils) (nt (rt (tr ?_)))))))
  refine vfin.eq (r':=(T.sl true 1 [])) ?_ (vfin.r (VRes.tmp (t:=T.nils) Y VRes.nil) (Give.nils 1))
  refine congrArg (fun l_=>T.sl true 1 (List.map (Qv true) l_)) (a₁:= []) ?_
  first | (refine QeW (fun h_=> ?_);first | exact absurd h_.1 (by assumption) | (have:=h_.2;omega)) | (refine Qco (by assumption) (by omega) (by omega))
 refine gF (nz fhg11_1) Y Y (OF.move (tv (tI tk) Y)) (Yl (tI a.Open) (nz fhg11_1) Y Y Y Y QaD Y Y QX (gF (nz fhg11_1) Y Y (xls (tv (tI tk) Y) (tv (tI a.Open) Y)) (fO (OF.pickF (VEv.tmpB Y (nz fhg11_1)) (tv (tB (decide (tk<a.Open))) Y)) (nt ?_))))
 refine cd (tk<a.Open) Y (fun fhc0=> ?_) fun fhc0=> ?_
 ·refine sr ?_
  refine fO (OF.assign VEv.nils) (nt (rt (tr ?_)))
  refine vfin.eq (r':=(T.sl true 1 [])) ?_ (vfin.r (VRes.tmp (t:=T.nils) Y VRes.nil) (Give.nils 1))
  refine congrArg (fun l_=>T.sl true 1 (List.map (Qv true) l_)) (a₁:= []) ?_
  first | (refine QeW (fun h_=> ?_);first | exact absurd h_.1 (by assumption) | (have:=h_.2;omega)) | (refine Qco (by assumption) (by omega) (by omega))
 refine sk (tn (sr (fO (OF.assign VEv.nils) (nt (sq (sr (fO (OF.fieldAddrO (tv (T.op 0 0) Y) QaF) (lf (rd 2 Qe a.Puzzle.Clues) Y Y9 Y Y Qee (lO (B.lenR (m:=a.Puzzle.Clues.length) (tv (rd 2 Qe a.Puzzle.Clues) Y) U34 (List.length_map ..)) (fO (OF.move (VEv.int .i64 0)) (nt ?_)))))))))))
 refine VRun.block (VRun.wk (Wk.phantom 5 1 Y) ?_)
 have he2: []=(((a.Puzzle.Clues.take 0).map QM).map (Qv true)):=by first | rfl | rfl | (exact Qej hx1) | (simp;done) | omega
 refine VRun.loop (A:=Nat) (fun s_=> [(4,T.nils),(5,(T.os 1 0 0 ((((a.Puzzle.Clues.take s_).map QM).map (Qv true)).length))),(19,(rd 2 Qe a.Puzzle.Clues)),(20,(tN a.Puzzle.Clues.length)),(21,(tN s_))]) (fun s_=>Q5 [(0,(Obj.rows 1 (((a.Puzzle.Clues.take s_).map QM).map (Qv true))))]) 1 (fun s_=>s_≤a.Puzzle.Clues.length) (fun s_=>a.Puzzle.Clues.length - s_) (0:Nat) ?_ (Wk.mk (fun k=>if k=0 then 1 else k) ?_ ?_ ?_) ?_
 ·first | trivial | (simp;done) | omega | (constructor<;>simp)
 ·exact (b2 (bc ⟨(congrArg (fun n_=>T.os 1 1 0 n_) (show 0=(((a.Puzzle.Clues.take 0).map QM).map (Qv true)).length from (by first | rfl | (simp only [List.length_map];omega) | (simp only [List.length_map,List.length_set,List.length_append,List.length_take,List.length_replicate,List.length_cons,List.length_nil];omega)))),rfl⟩ (b2 (b2 (b2 bn)))))
 ·exact (bc ⟨(congrArg (fun l_=>some (Obj.rows 1 l_)) he2),(lb Y),rfl⟩ bn)
 ·exact nd Y
 rintro i (hI':i≤a.Puzzle.Clues.length)
 show VRun _ _ _ [(4,T.nils),(5,(T.os 1 0 0 ((((a.Puzzle.Clues.take i).map QM).map (Qv true)).length))),(19,(rd 2 Qe a.Puzzle.Clues)),(20,(tN a.Puzzle.Clues.length)),(21,(tN i))] (Q5 [(0,(Obj.rows 1 (((a.Puzzle.Clues.take i).map QM).map (Qv true))))]) 1 _
 have hI1:=hI'
 have hI3:(a.Puzzle.Clues.take i).length≤a.Puzzle.Clues.length:=by rw [List.length_take];omega
 refine sr (fO (Zg (tv (tN i) Y) (tv (tN a.Puzzle.Clues.length) Y)) (nt (sq ?_)))
 refine cd (i<a.Puzzle.Clues.length) Y (fun fhc1=> ?_) fun fhc1=> ?_
 ·refine sk ?_
  refine tn (sq (VRun.block (sr ?_)))
  obtain ⟨x1,hx1⟩:∃x,a.Puzzle.Clues[i]? =some x:=⟨_,List.getElem?_eq_getElem (by omega)⟩
  have hz1:=QdD (z:=QO) hx1
  refine fO (OF.indexAddrR (row:=(Qe false x1)) (i:=i) (tv (rd 2 Qe a.Puzzle.Clues) Y) (tv (tN i) Y) Y (Qt _ hx1) U34 Jj Qd1) (lO (OL.loadRn (us:=(Qe false x1)) (tv (T.rp (Qe false x1)) Y) QdW Jj (lb Y) Y) (kO (B.alloc (t:=(T.agg [(tN 0),T.nils])) (ts:= [(tN 0),T.nils]) QlI QlG nofun (fun _=> .agg _ _ Y (YZ (RL.cons (.int _ _) (RL.cons (.nils) (RL.nil _))))) Y) (cO (B.storeW (us:=(Qe false x1)) (tv (T.op 1 0) Y) (tv (T.agg (Qe false x1)) Y) nofun Y Y Y Qd1 Jj (bc Y (bc Y bn))) (nt (VRun.region (mO (T.os 1 0 0 ((((a.Puzzle.Clues.take i).map QM).map (Qv true)).length)) Y (lO (OL.loadOn (us:=(Qe false x1)) (tv (T.op 1 0) Y) Y QdW Jj (lb Y) Y) (cO (cS (vc (tv (T.agg (Qe false x1)) Y) vn) (LendL.cons (lg okeClue) ln) (QdP (n+32) x1 (by first | assumption | omega)) Y Y) (kO (OM.buildSlice (l:= [(tS (QM x1))]) (VEvp.cons (tv (tS (QM x1)) Y) VEvp.nil) Y (by decide) (bc (nofun) bn) (bc ((bc (Y) bn)) bn) (bc (Y) bn) U52 zo9 (by kernel_rfl) Y (by rw [sz9];decide) sz9 (Nat.le_of_ble_eq_true Y)) (cO (B.append (rows:=(((a.Puzzle.Clues.take i).map QM).map (Qv true))) (rows2:= [[(tS (QM x1))]]) (rows3:=(((a.Puzzle.Clues.take i).map QM++ [QM x1]).map (Qv true))) (VDst.own (tv (T.os 1 0 0 ((((a.Puzzle.Clues.take i).map QM).map (Qv true)).length)) Y) Y Y) (VSrc.own (tv (T.os 1 2 0 1) Y) Y Y U52 (bc (bc Y bn) bn)) (by decide) U52 sz9 (by decide) zo9 Y (of_decide_eq_true (by kernel_rfl)) (by first | omega | (simp only [List.length_map];omega) | (simp only [List.length_map,List.length_append,List.length_cons,List.length_nil,List.length_replicate,List.length_set,List.length_drop,List.length_take,Zr] at *;omega)) ((List.map_append (f:=Qv true) (l₁:=(a.Puzzle.Clues.take i).map QM) (l₂:= [QM x1])).symm)) (aO (T.os 1 3 0 ((((a.Puzzle.Clues.take i).map QM++ [QM x1]).map (Qv true)).length)) Y ?_)))))))))))
  refine VRunO.nil (vinB.n (tn (VRun.region (fO (QB (tv (tN i) Y) (VEv.int .i64 1) (by omega)) (mO (tN (i+1)) Y (VRunO.nil (tn ?_)))))))
  have he3:((a.Puzzle.Clues.take i).map QM++ [QM x1])=(a.Puzzle.Clues.take (i+1)).map QM:=by first | rfl | rfl | (exact Qej hx1) | (simp;done) | omega
  refine ⟨(i+1:Nat),?_,?_,Wk.mk (fun k=>if k=0 then 3 else k) ?_ ?_ ?_⟩
  ·first | trivial | omega | (simp;done) | exact ⟨by omega,hI'.2⟩
  ·first | omega | (simp only [];omega) | (show _<_;omega) | (simp;omega)
  ·exact (b2 (bc ⟨(congrArg (fun l_=>T.os 1 3 0 (List.map (Qv true) l_).length) he3),rfl⟩ (b2 (b2 (b2 bn)))))
  ·exact (bc ⟨(congrArg (fun l_=>some (Obj.rows 1 (List.map (Qv true) l_))) he3),(lb Y),rfl⟩ bn)
  ·exact nd Y
 refine VRun.exit (vthn.e (vthn.e (vinB.e (tn (sr (mO (T.os 1 0 0 ((((a.Puzzle.Clues.take i).map QM).map (Qv true)).length)) Y (aO (T.os 1 0 0 ((((a.Puzzle.Clues.take i).map QM).map (Qv true)).length)) Y (nt (rt ?_)))))))))
 refine vfin.eq (r':=(T.sl true 1 (((a.Puzzle.Clues.take i).map QM).map (Qv true)))) ?_ (vfin.r (VRes.tmp (t:=(T.os 1 0 0 ((((a.Puzzle.Clues.take i).map QM).map (Qv true)).length))) Y VRes.nil) (Give.os Y Y (okStr.cleanMap _)))
 refine congrArg (fun l_=>T.sl true 1 (List.map (Qv true) l_)) ?_
 first | (refine QeW (fun h_=> ?_);first | exact absurd h_.1 (by assumption) | (have:=h_.2;omega)) | (refine Qco (by assumption) (by omega) (by omega))
theorem QaV (n:Nat) (a0:D.Issue) (a1:Int) (g0:Qiu a0) (g1:(Lit.int .i64 a1).wf=true):Pure (Qr Tryz.prog (n+46)) 5 [(T.agg (QG false a0)),(tI a1)] (tB true):=by
 refine Pure.intro (rs:= [ResultVar.tmp 4]) Tryz.func5 Y Y Y (E0:= [(0,(T.agg (QG false a0))),(1,(tI a1))]) Y ?_
 obtain ⟨hlim,hmx,hmax⟩:=QE
 have hl0_0:=Zb (z:=QO) a0.Puzzle.Clues
 have hl0_1:=Zb (z:=zI) a0.Puzzle.Seals
 have hx:=Qia a0 a1
 have hm0:=Qip 1 a0.Puzzle.Clues
 have hd0:zL QO a0.Puzzle.Clues+zL zI a0.Puzzle.Seals≤Zq a0:=by simp only [Zq,QP];omega
 refine sr (kO (B.box (ts:=(QG false a0)) (tv (T.agg (QG false a0)) Y) nofun Y) (fO (OF.assign (VEv.bool false)) (nt (sr (fO (OF.assign (VEv.int .i64 1048576)) (nt (sr (lO (OL.loadOn (us:=(QG false a0)) (tv (T.op 0 0) Y) Y Qlg Qkt (lb Y) Y) (mO (tN 1048576) Y (cO (cS (vc (tv (T.agg (QG false a0)) Y) (vc (tv (tN 1048576) Y) vn)) (LendL.cons (lg JL) (lp Y ln)) (QeP (n+39) a0 1048576 (by first | exact Qz _ _ | (simp only [Qd];omega) | (simp only [Qd,Qm];omega) | (simp only [Qd,Qm];done) | exact Q0 _ _ _ _ | (simp only [Qm];omega) | assumption | omega | (simp only [List.length_map];omega) | (simp only [List.length_map,List.length_append,List.length_cons,List.length_nil,List.length_replicate,List.length_set,List.length_drop,List.length_take,Zr] at *;omega)) (by first | exact Qz _ _ | (simp only [Qd];omega) | (simp only [Qd,Qm];omega) | (simp only [Qd,Qm];done) | exact Q0 _ _ _ _ | (simp only [Qm];omega) | assumption | omega | (simp only [List.length_map];omega) | (simp only [List.length_map,List.length_append,List.length_cons,List.length_nil,List.length_replicate,List.length_set,List.length_drop,List.length_take,Zr] at *;omega)) (by first | exact Qz _ _ | (simp only [Qd];omega) | (simp only [Qd,Qm];omega) | (simp only [Qd,Qm];done) | exact Q0 _ _ _ _ | (simp only [Qm];omega) | assumption | omega | (simp only [List.length_map];omega) | (simp only [List.length_map,List.length_append,List.length_cons,List.length_nil,List.length_replicate,List.length_set,List.length_drop,List.length_take,Zr] at *;omega))) Y Y) (aO (tI (ZJ (Zq a0) 1048576)) Y ?_)))))))))))
 refine nt (sq (sr (mO (tI (ZJ (Zq a0) 1048576)) Y (fO (xls (tv (tI (ZJ (Zq a0) 1048576)) Y) (VEv.int .i64 0)) (nt ?_)))))
 refine cd (ZJ (Zq a0) 1048576<0) Y (fun fhc0=> ?_) fun fhc0=> ?_
 ·refine sr ?_
  refine fO (OF.assign (VEv.bool true)) (nt (rt (tr ?_)))
  exact vb Y Y
 first | (have hz0:=YT fhc0) | skip
 refine sk (tn (sr (lO (OL.loadOn (us:=(QG false a0)) (tv (T.op 0 0) Y) Y Qlg Qkt (lb Y) Y) (cO (OC.callF (r':=(T.agg [(tI a0.Number),(tI a0.Puzzle.Grid.Rows),(tI a0.Puzzle.Grid.Cols),(tS a0.Puzzle.Grid.Cells),(T.os 2 1 0 ((a0.Puzzle.Clues.map (Qe true)).length)),(T.os 1 2 0 ((a0.Puzzle.Seals.map (Qc true)).length)),(tI a0.Puzzle.Salt),(tS a0.Fill),(tI a0.Open),(tI a0.Close)])) (objs:= [(Obj.rows 2 (a0.Puzzle.Clues.map (Qe true))),(Obj.rows 1 (a0.Puzzle.Seals.map (Qc true)))]) Y (vc (tv (T.agg (QG false a0)) Y) vn) (LendL.cons (lg JL) ln) (YR (n+39) a0 (by first | exact Qz _ _ | (simp only [Qd];omega) | (simp only [Qd,Qm];omega) | (simp only [Qd,Qm];done) | exact Q0 _ _ _ _ | (simp only [Qm];omega) | assumption | omega | (simp only [List.length_map];omega) | (simp only [List.length_map,List.length_append,List.length_cons,List.length_nil,List.length_replicate,List.length_set,List.length_drop,List.length_take,Zr] at *;omega))) Y) (mO (tI a1) Y (cO (OC.callF (us:= [(T.agg (QG false a0)),(tI a1)]) (r':=(T.os 1 3 0 (((Qu a0 a1).map (Qv true)).length))) (objs:= [(Obj.rows 1 ((Qu a0 a1).map (Qv true)))]) Y (vc (tv (T.agg [(tI a0.Number),(tI a0.Puzzle.Grid.Rows),(tI a0.Puzzle.Grid.Cols),(tS a0.Puzzle.Grid.Cells),(T.os 2 1 0 ((a0.Puzzle.Clues.map (Qe true)).length)),(T.os 1 2 0 ((a0.Puzzle.Seals.map (Qc true)).length)),(tI a0.Puzzle.Salt),(tS a0.Fill),(tI a0.Open),(tI a0.Close)]) Y) (vc (tv (tI a1) Y) vn)) (LendL.cons (Lend.agg (LendL.cons (Lend.pl Y) (LendL.cons (Lend.pl Y) (LendL.cons (Lend.pl Y) (LendL.cons (Lend.pl Y) (LendL.cons (Lend.os Y Y (okeClue.fzMap _ _)) (LendL.cons (Lend.os Y Y (okInt.fzMap _ _)) (LendL.cons (Lend.pl Y) (LendL.cons (Lend.pl Y) (LendL.cons (Lend.pl Y) (LendL.cons (Lend.pl Y) ln))))))))))) (lp Y ln)) (QeY (n+32) a0 a1 (by first | exact Qz _ _ | (simp only [Qd];omega) | (simp only [Qd,Qm];omega) | (simp only [Qd,Qm];done) | exact Q0 _ _ _ _ | (simp only [Qm];omega) | assumption | omega | (simp only [List.length_map];omega) | (simp only [List.length_map,List.length_append,List.length_cons,List.length_nil,List.length_replicate,List.length_set,List.length_drop,List.length_take,Zr] at *;omega))) Y) (aO (T.os 1 3 0 (((Qu a0 a1).map (Qv true)).length)) Y (nt (sr (lO (OL.loadOn (us:=(QG false a0)) (tv (T.op 0 0) Y) Y Qlg Qkt (lb Y) Y) (cO (OC.callF (r':=(T.agg [(tI a0.Number),(tI a0.Puzzle.Grid.Rows),(tI a0.Puzzle.Grid.Cols),(tS a0.Puzzle.Grid.Cells),(T.os 2 4 0 ((a0.Puzzle.Clues.map (Qe true)).length)),(T.os 1 5 0 ((a0.Puzzle.Seals.map (Qc true)).length)),(tI a0.Puzzle.Salt),(tS a0.Fill),(tI a0.Open),(tI a0.Close)])) (objs:= [(Obj.rows 2 (a0.Puzzle.Clues.map (Qe true))),(Obj.rows 1 (a0.Puzzle.Seals.map (Qc true)))]) Y (vc (tv (T.agg (QG false a0)) Y) vn) (LendL.cons (lg JL) ln) (YR (n+39) a0 (by first | exact Qz _ _ | (simp only [Qd];omega) | (simp only [Qd,Qm];omega) | (simp only [Qd,Qm];done) | exact Q0 _ _ _ _ | (simp only [Qm];omega) | assumption | omega | (simp only [List.length_map];omega) | (simp only [List.length_map,List.length_append,List.length_cons,List.length_nil,List.length_replicate,List.length_set,List.length_drop,List.length_take,Zr] at *;omega))) Y) ?_)))))))))))
 refine kO (B.alloc (t:=(T.agg [(tN 0),(tN 0),(tN 0),(tS ByteArray.empty),T.nils,T.nils,(tN 0),(tS ByteArray.empty),(tN 0),(tN 0)])) (ts:= [(tN 0),(tN 0),(tN 0),(tS ByteArray.empty),T.nils,T.nils,(tN 0),(tS ByteArray.empty),(tN 0),(tN 0)]) Qm3 QmQ nofun (fun _=> .agg _ _ Y (YZ (RL.cons (.int _ _) (RL.cons (.int _ _) (RL.cons (.int _ _) (RL.cons (.str _) (RL.cons (.nils) (RL.cons (.nils) (RL.cons (.int _ _) (RL.cons (.str _) (RL.cons (.int _ _) (RL.cons (.int _ _) (RL.nil _))))))))))))) Y) (cO (B.storeW (us:= [(tI a0.Number),(tI a0.Puzzle.Grid.Rows),(tI a0.Puzzle.Grid.Cols),(tS a0.Puzzle.Grid.Cells),(T.os 2 4 0 ((a0.Puzzle.Clues.map (Qe true)).length)),(T.os 1 5 0 ((a0.Puzzle.Seals.map (Qc true)).length)),(tI a0.Puzzle.Salt),(tS a0.Fill),(tI a0.Open),(tI a0.Close)]) (tv (T.op 6 0) Y) (tv (T.agg [(tI a0.Number),(tI a0.Puzzle.Grid.Rows),(tI a0.Puzzle.Grid.Cols),(tS a0.Puzzle.Grid.Cells),(T.os 2 4 0 ((a0.Puzzle.Clues.map (Qe true)).length)),(T.os 1 5 0 ((a0.Puzzle.Seals.map (Qc true)).length)),(tI a0.Puzzle.Salt),(tS a0.Fill),(tI a0.Open),(tI a0.Close)]) Y) nofun Y Y Y Qnn Qgj (bc Y (bc Y (bc Y (bc Y (bc Y (bc Y (bc Y (bc Y (bc Y (bc Y bn))))))))))) (nt (sr (lO (OL.loadOn (us:= [(tI a0.Number),(tI a0.Puzzle.Grid.Rows),(tI a0.Puzzle.Grid.Cols),(tS a0.Puzzle.Grid.Cells),(T.os 2 4 0 ((a0.Puzzle.Clues.map (Qe true)).length)),(T.os 1 5 0 ((a0.Puzzle.Seals.map (Qc true)).length)),(tI a0.Puzzle.Salt),(tS a0.Fill),(tI a0.Open),(tI a0.Close)]) (tv (T.op 6 0) Y) Y Qh3 Qgj (lb Y) Y) (mO (tI a1) Y (cO (OC.callF (us:= [(T.agg (QG false a0)),(tI a1)]) (r':=(T.os 1 7 0 (((Qu a0 a1).map (Qv true)).length))) (objs:= [(Obj.rows 1 ((Qu a0 a1).map (Qv true)))]) Y (vc (tv (T.agg [(tI a0.Number),(tI a0.Puzzle.Grid.Rows),(tI a0.Puzzle.Grid.Cols),(tS a0.Puzzle.Grid.Cells),(T.os 2 4 0 ((a0.Puzzle.Clues.map (Qe true)).length)),(T.os 1 5 0 ((a0.Puzzle.Seals.map (Qc true)).length)),(tI a0.Puzzle.Salt),(tS a0.Fill),(tI a0.Open),(tI a0.Close)]) Y) (vc (tv (tI a1) Y) vn)) (LendL.cons (Lend.agg (LendL.cons (Lend.pl Y) (LendL.cons (Lend.pl Y) (LendL.cons (Lend.pl Y) (LendL.cons (Lend.pl Y) (LendL.cons (Lend.os Y Y (okeClue.fzMap _ _)) (LendL.cons (Lend.os Y Y (okInt.fzMap _ _)) (LendL.cons (Lend.pl Y) (LendL.cons (Lend.pl Y) (LendL.cons (Lend.pl Y) (LendL.cons (Lend.pl Y) ln))))))))))) (lp Y ln)) (Qbb (n+0) a0 a1 (by first | exact Qz _ _ | (simp only [Qd];omega) | (simp only [Qd,Qm];omega) | (simp only [Qd,Qm];done) | exact Q0 _ _ _ _ | (simp only [Qm];omega) | assumption | omega | (simp only [List.length_map];omega) | (simp only [List.length_map,List.length_append,List.length_cons,List.length_nil,List.length_replicate,List.length_set,List.length_drop,List.length_take,Zr] at *;omega))) Y) (aO (T.os 1 7 0 (((Qu a0 a1).map (Qv true)).length)) Y ?_)))))))
 refine nt (sq (sr (mO (T.os 1 7 0 (((Qu a0 a1).map (Qv true)).length)) Y (mO (T.os 1 3 0 (((Qu a0 a1).map (Qv true)).length)) Y (cO (cS (us:= [(rd 1 Qv (Qu a0 a1)),(rd 1 Qv (Qu a0 a1))]) (vc (tv (T.os 1 7 0 (((Qu a0 a1).map (Qv true)).length)) Y) (vc (tv (T.os 1 3 0 (((Qu a0 a1).map (Qv true)).length)) Y) vn)) (LendL.cons (Lend.os Y Y (okStr.fzMap _ _)) (LendL.cons (Lend.os Y Y (okStr.fzMap _ _)) ln)) (Jd (n+44) (Qu a0 a1) (Qu a0 a1) (by first | exact Qz _ _ | (simp only [Qd];omega) | (simp only [Qd,Qm];omega) | (simp only [Qd,Qm];done) | exact Q0 _ _ _ _ | (simp only [Qm];omega) | assumption | omega | (simp only [List.length_map];omega) | (simp only [List.length_map,List.length_append,List.length_cons,List.length_nil,List.length_replicate,List.length_set,List.length_drop,List.length_take,Zr] at *;omega)) (by first | exact Qz _ _ | (simp only [Qd];omega) | (simp only [Qd,Qm];omega) | (simp only [Qd,Qm];done) | exact Q0 _ _ _ _ | (simp only [Qm];omega) | assumption | omega | (simp only [List.length_map];omega) | (simp only [List.length_map,List.length_append,List.length_cons,List.length_nil,List.length_replicate,List.length_set,List.length_drop,List.length_take,Zr] at *;omega))) Y Y) (fO (Q8 (tv (tB (decide ((Qu a0 a1)=(Qu a0 a1)))) Y)) (nt ?_)))))))
 refine cn ((Qu a0 a1)=(Qu a0 a1)) Y (fun fhc1=> ?_) fun fhc1=> ?_
 ·refine sr ?_
  refine fO (OF.assign (VEv.bool false)) (nt (rt (tr (vb (b':=false) Y ?_))))
  first | rfl | (exfalso;simp only [Qd,not_true_eq_false] at *;done) | (exfalso;simp only [Qd] at* <;>omega) | (exfalso;simp only [Qd,Qm] at* <;>omega) | (exfalso;simp only [Qd,Qm,not_true_eq_false] at *;done) | (exfalso;omega) | (exfalso;(simp only [Qm] at* <;>omega)) | (exfalso;simp only [Qm,not_true_eq_false] at *;done) | (exfalso;simp_all;done)
 first | (have hz1:=YT fhc1) | skip
 refine sk (tn (sq (sq (VRun.draw (B:= [[],[],[1],[1,2,0],[0,2,1,3]]) (by kernel_rfl) (by kernel_rfl) (lD (OL.loadOn (us:= [(tI a0.Number),(tI a0.Puzzle.Grid.Rows),(tI a0.Puzzle.Grid.Cols),(tS a0.Puzzle.Grid.Cells),(T.os 2 4 0 ((a0.Puzzle.Clues.map (Qe true)).length)),(T.os 1 5 0 ((a0.Puzzle.Seals.map (Qc true)).length)),(tI a0.Puzzle.Salt),(tS a0.Fill),(tI a0.Open),(tI a0.Close)]) (tv (T.op 6 0) Y) Y Qh3 Qgj (lb Y) Y) Y Y (lD (OL.loadOn (us:=(QG false a0)) (tv (T.op 0 0) Y) Y Qlg Qkt (lb Y) Y) Y Y (VRunD.quiet (bi:= [1]) Y VWant.always Y Y Y bn (OC.callF (r':=(T.agg [(tI a0.Number),(tI a0.Puzzle.Grid.Rows),(tI a0.Puzzle.Grid.Cols),(tS a0.Puzzle.Grid.Cells),(T.os 2 8 0 ((a0.Puzzle.Clues.map (Qe true)).length)),(T.os 1 9 0 ((a0.Puzzle.Seals.map (Qc true)).length)),(tI a0.Puzzle.Salt),(tS a0.Fill),(tI a0.Open),(tI a0.Close)])) (objs:= [(Obj.rows 2 (a0.Puzzle.Clues.map (Qe true))),(Obj.rows 1 (a0.Puzzle.Seals.map (Qc true)))]) Y (vc (tv (T.agg (QG false a0)) Y) vn) (LendL.cons (lg JL) ln) (YR (n+39) a0 (by first | exact Qz _ _ | (simp only [Qd];omega) | (simp only [Qd,Qm];omega) | (simp only [Qd,Qm];done) | exact Q0 _ _ _ _ | (simp only [Qm];omega) | assumption | omega | (simp only [List.length_map];omega) | (simp only [List.length_map,List.length_append,List.length_cons,List.length_nil,List.length_replicate,List.length_set,List.length_drop,List.length_take,Zr] at *;omega))) Y) (VRunD.quiet (bi:= [1,2,0]) Y VWant.always Y Y Y bn (cS (us:= [(T.agg (QG false a0)),(T.agg (QG false a0))]) (vc (tv (T.agg [(tI a0.Number),(tI a0.Puzzle.Grid.Rows),(tI a0.Puzzle.Grid.Cols),(tS a0.Puzzle.Grid.Cells),(T.os 2 4 0 ((a0.Puzzle.Clues.map (Qe true)).length)),(T.os 1 5 0 ((a0.Puzzle.Seals.map (Qc true)).length)),(tI a0.Puzzle.Salt),(tS a0.Fill),(tI a0.Open),(tI a0.Close)]) Y) (vc (tv (T.agg [(tI a0.Number),(tI a0.Puzzle.Grid.Rows),(tI a0.Puzzle.Grid.Cols),(tS a0.Puzzle.Grid.Cells),(T.os 2 8 0 ((a0.Puzzle.Clues.map (Qe true)).length)),(T.os 1 9 0 ((a0.Puzzle.Seals.map (Qc true)).length)),(tI a0.Puzzle.Salt),(tS a0.Fill),(tI a0.Open),(tI a0.Close)]) Y) vn)) (LendL.cons (Lend.agg (LendL.cons (Lend.pl Y) (LendL.cons (Lend.pl Y) (LendL.cons (Lend.pl Y) (LendL.cons (Lend.pl Y) (LendL.cons (Lend.os Y Y (okeClue.fzMap _ _)) (LendL.cons (Lend.os Y Y (okInt.fzMap _ _)) (LendL.cons (Lend.pl Y) (LendL.cons (Lend.pl Y) (LendL.cons (Lend.pl Y) (LendL.cons (Lend.pl Y) ln))))))))))) (LendL.cons (Lend.agg (LendL.cons (Lend.pl Y) (LendL.cons (Lend.pl Y) (LendL.cons (Lend.pl Y) (LendL.cons (Lend.pl Y) (LendL.cons (Lend.os Y Y (okeClue.fzMap _ _)) (LendL.cons (Lend.os Y Y (okInt.fzMap _ _)) (LendL.cons (Lend.pl Y) (LendL.cons (Lend.pl Y) (LendL.cons (Lend.pl Y) (LendL.cons (Lend.pl Y) ln))))))))))) ln)) (Qez (n+39) a0 a0 (by first | exact Qz _ _ | (simp only [Qd];omega) | (simp only [Qd,Qm];omega) | (simp only [Qd,Qm];done) | exact Q0 _ _ _ _ | (simp only [Qm];omega) | assumption | omega | (simp only [List.length_map];omega) | (simp only [List.length_map,List.length_append,List.length_cons,List.length_nil,List.length_replicate,List.length_set,List.length_drop,List.length_take,Zr] at *;omega)) (by first | exact Qz _ _ | (simp only [Qd];omega) | (simp only [Qd,Qm];omega) | (simp only [Qd,Qm];done) | exact Q0 _ _ _ _ | (simp only [Qm];omega) | assumption | omega | (simp only [List.length_map];omega) | (simp only [List.length_map,List.length_append,List.length_cons,List.length_nil,List.length_replicate,List.length_set,List.length_drop,List.length_take,Zr] at *;omega))) Y Y) ?_))))))))
 refine fD (Q8 (tv (tB (decide (a0=a0))) Y)) Y Y (VRunD.nil (tn ?_))
 refine cn (a0=a0) Y (fun fhc2=> ?_) fun fhc2=> ?_
 ·refine sr ?_
  refine fO (OF.assign (VEv.bool false)) (nt (rt (tr (vb (b':=false) Y ?_))))
  first | rfl | (exfalso;simp only [Qd,not_true_eq_false] at *;done) | (exfalso;simp only [Qd] at* <;>omega) | (exfalso;simp only [Qd,Qm] at* <;>omega) | (exfalso;simp only [Qd,Qm,not_true_eq_false] at *;done) | (exfalso;omega) | (exfalso;(simp only [Qm] at* <;>omega)) | (exfalso;simp only [Qm,not_true_eq_false] at *;done) | (exfalso;simp_all;done)
 first | (have hz2:=YT fhc2) | skip
 refine sk (tn (sr (fO (OF.assign (VEv.int .i64 1)) (nt (sr (lO (OL.loadOn (us:= [(tI a0.Number),(tI a0.Puzzle.Grid.Rows),(tI a0.Puzzle.Grid.Cols),(tS a0.Puzzle.Grid.Cells),(T.os 2 4 0 ((a0.Puzzle.Clues.map (Qe true)).length)),(T.os 1 5 0 ((a0.Puzzle.Seals.map (Qc true)).length)),(tI a0.Puzzle.Salt),(tS a0.Fill),(tI a0.Open),(tI a0.Close)]) (tv (T.op 6 0) Y) Y Qh3 Qgj (lb Y) Y) (mO (tN 1) Y (cO (OC.callL (ts:= [(T.agg [(tI a0.Number),(tI a0.Puzzle.Grid.Rows),(tI a0.Puzzle.Grid.Cols),(tS a0.Puzzle.Grid.Cells),(T.os 2 0 0 ((a0.Puzzle.Clues.map (Qe true)).length)),(T.os 1 1 0 ((a0.Puzzle.Seals.map (Qc true)).length)),(tI a0.Puzzle.Salt),(tS a0.Fill),(tI a0.Open),(tI a0.Close)]),(tN 1)]) [4,5] (r:=(tN (QK 1 a0.Puzzle.Clues+1*a0.Puzzle.Seals.length))) (L:= [(2,(a0.Puzzle.Clues.map (Qe true))),(1,(a0.Puzzle.Seals.map (Qc true)))]) [(2,((ZU 1 a0.Puzzle.Clues).map (Qe true))),(1,((Jm Yv 1 (QK 1 a0.Puzzle.Clues) a0.Puzzle.Seals.length).map (Qc true)))] [(Obj.rows 2 (a0.Puzzle.Clues.map (Qe true))),(Obj.rows 1 (a0.Puzzle.Seals.map (Qc true)))] rfl (vc (tv (T.agg [(tI a0.Number),(tI a0.Puzzle.Grid.Rows),(tI a0.Puzzle.Grid.Cols),(tS a0.Puzzle.Grid.Cells),(T.os 2 4 0 ((a0.Puzzle.Clues.map (Qe true)).length)),(T.os 1 5 0 ((a0.Puzzle.Seals.map (Qc true)).length)),(tI a0.Puzzle.Salt),(tS a0.Fill),(tI a0.Open),(tI a0.Close)]) Y) (vc (tv (tN 1) Y) vn)) (by decide) Y (And.intro (And.intro Y Y) (And.intro (And.intro Y Y) (trivial))) (bc (okeClue.cleanMap _) (bc (okInt.cleanMap _) bn)) (bc (okeClue.cleanMap _) (bc (okInt.cleanMap _) bn)) Y Y (.int _ _) (Qdr (n+40) a0 1 (by first | exact Qz _ _ | (simp only [Qd];omega) | (simp only [Qd,Qm];omega) | (simp only [Qd,Qm];done) | exact Q0 _ _ _ _ | (simp only [Qm];omega) | assumption | omega | (simp only [List.length_map];omega) | (simp only [List.length_map,List.length_append,List.length_cons,List.length_nil,List.length_replicate,List.length_set,List.length_drop,List.length_take,Zr] at *;omega)))) (aO (tN (QK 1 a0.Puzzle.Clues+1*a0.Puzzle.Seals.length)) Y (nt (sq ?_)))))))))))
 refine sr (mO (tN (QK 1 a0.Puzzle.Clues+1*a0.Puzzle.Seals.length)) Y (fO (B.lss (c:=(decide (QK 1 a0.Puzzle.Clues+1*a0.Puzzle.Seals.length<0))) (tv (tN (QK 1 a0.Puzzle.Clues+1*a0.Puzzle.Seals.length)) Y) (VEv.int .i64 0) (by first | exact Qz _ _ | (simp only [Qd];omega) | (simp only [Qd,Qm];omega) | (simp only [Qd,Qm];done) | exact Q0 _ _ _ _ | (simp only [Qm];omega) | (exact Zd (by omega)))) (mO (tB (decide (QK 1 a0.Puzzle.Clues+1*a0.Puzzle.Seals.length<0))) Y ?_)))
 refine gw (QK 1 a0.Puzzle.Clues+1*a0.Puzzle.Seals.length<0) (fun fhg41_1=> ?_) fun fhg41_1=> ?_
 ·refine QA 4 2 false 41 (dy fhg41_1) Y Y Y ?_
  refine fO (OF.pickT (VEv.tmpB Y (dy fhg41_1)) (VEv.bool true)) (nt (ct Y (sr (fO (OF.assign (VEv.bool false)) (nt (rt (tr (vb (b':=false) Y ?_))))))))
  first | rfl | (exfalso;simp only [Qd,not_true_eq_false] at *;done) | (exfalso;simp only [Qd] at* <;>omega) | (exfalso;simp only [Qd,Qm] at* <;>omega) | (exfalso;simp only [Qd,Qm,not_true_eq_false] at *;done) | (exfalso;omega) | (exfalso;(simp only [Qm] at* <;>omega)) | (exfalso;simp only [Qm,not_true_eq_false] at *;done) | (exfalso;simp_all;done)
 refine gF (dz fhg41_1) Y Y (OF.move (tv (T.os 1 7 0 (((Qu a0 a1).map (Qv true)).length)) Y)) (gF (dz fhg41_1) Y Y (OF.move (tv (T.os 1 3 0 (((Qu a0 a1).map (Qv true)).length)) Y)) (VRunO.chain (VWant.on Y Y (dz fhg41_1)) (cS (us:= [(rd 1 Qv (Qu a0 a1)),(rd 1 Qv (Qu a0 a1))]) (vc (tv (T.os 1 7 0 (((Qu a0 a1).map (Qv true)).length)) Y) (vc (tv (T.os 1 3 0 (((Qu a0 a1).map (Qv true)).length)) Y) vn)) (LendL.cons (Lend.os Y Y (okStr.fzMap _ _)) (LendL.cons (Lend.os Y Y (okStr.fzMap _ _)) ln)) (Jd (n+44) (Qu a0 a1) (Qu a0 a1) (by first | exact Qz _ _ | (simp only [Qd];omega) | (simp only [Qd,Qm];omega) | (simp only [Qd,Qm];done) | exact Q0 _ _ _ _ | (simp only [Qm];omega) | assumption | omega | (simp only [List.length_map];omega) | (simp only [List.length_map,List.length_append,List.length_cons,List.length_nil,List.length_replicate,List.length_set,List.length_drop,List.length_take,Zr] at *;omega)) (by first | exact Qz _ _ | (simp only [Qd];omega) | (simp only [Qd,Qm];omega) | (simp only [Qd,Qm];done) | exact Q0 _ _ _ _ | (simp only [Qm];omega) | assumption | omega | (simp only [List.length_map];omega) | (simp only [List.length_map,List.length_append,List.length_cons,List.length_nil,List.length_replicate,List.length_set,List.length_drop,List.length_take,Zr] at *;omega))) Y Y) (gF (dz fhg41_1) Y Y (Q8 (tv (tB (decide ((Qu a0 a1)=(Qu a0 a1)))) Y)) (fO (OF.pickF (VEv.tmpB Y (dz fhg41_1)) (tv (tB (!(decide ((Qu a0 a1)=(Qu a0 a1))))) Y)) (nt (cg (nz fhc1) Y (sk (tn (sr (fO (OF.assign (VEv.int .i64 1)) (nt ?_)))))))))))
 refine sr (mO (T.os 1 7 0 (((Qu a0 a1).map (Qv true)).length)) Y (mO (tN 1) Y (cO (OC.callMut (rows:=((Qu a0 a1).map (Qv true))) (rows':=((Jm QL 1 1 (Qu a0 a1).length).map (Qv true))) Y (vc (tv (T.os 1 7 0 (((Qu a0 a1).map (Qv true)).length)) Y) (vc (tv (tN 1) Y) vn)) Y Y (bc Y bn) (ZP (fun _=>rfl) _) (ZP (fun _=>rfl) _) (Qb6 (n+43) (Qu a0 a1) 1 (by first | exact Qz _ _ | (simp only [Qd];omega) | (simp only [Qd,Qm];omega) | (simp only [Qd,Qm];done) | exact Q0 _ _ _ _ | (simp only [Qm];omega) | assumption | omega))) (aO (tN (1+1*(Qu a0 a1).length)) Y (nt (sr (fO (OF.assign (VEv.int .i64 1)) (nt (sr (mO (T.os 1 7 0 (((Qu a0 a1).map (Qv true)).length)) Y (mO (tN 1) Y ?_)))))))))))
 refine cO (cS (us:= [(rd 1 Qv (Jm QL 1 1 (Qu a0 a1).length)),(tN 1)]) (vc (tv (T.os 1 7 0 (((Qu a0 a1).map (Qv true)).length)) Y) (vc (tv (tN 1) Y) vn)) (LendL.cons (Lend.os Y (by simp only [List.length_map,Qm,List.length_set,QdL]) (okStr.fzMap _ _)) (lp Y ln)) (JH (n+43) (Jm QL 1 1 (Qu a0 a1).length) 1 (by first | exact Qz _ _ | (simp only [Qd];omega) | (simp only [Qd,Qm];omega) | (simp only [Qd,Qm];done) | exact Q0 _ _ _ _ | (simp only [Qm];omega) | assumption | omega | (simp only [List.length_map];omega) | (simp only [List.length_map,List.length_append,List.length_cons,List.length_nil,List.length_replicate,List.length_set,List.length_drop,List.length_take,Zr] at *;omega)) (by first | exact Qz _ _ | (simp only [Qd];omega) | (simp only [Qd,Qm];omega) | (simp only [Qd,Qm];done) | exact Q0 _ _ _ _ | (simp only [Qm];omega) | assumption | omega | (simp only [List.length_map];omega) | (simp only [List.length_map,List.length_append,List.length_cons,List.length_nil,List.length_replicate,List.length_set,List.length_drop,List.length_take,Zr] at *;omega))) Y Y) (aO (tN (1+1*(Jm QL 1 1 (Qu a0 a1).length).length)) Y (nt (sq (sr (mO (tN (1+1*(Jm QL 1 1 (Qu a0 a1).length).length)) Y (fO (B.lss (c:=(decide (1+1*(Jm QL 1 1 (Qu a0 a1).length).length<0))) (tv (tN (1+1*(Jm QL 1 1 (Qu a0 a1).length).length)) Y) (VEv.int .i64 0) (by first | exact Qz _ _ | (simp only [Qd];omega) | (simp only [Qd,Qm];omega) | (simp only [Qd,Qm];done) | exact Q0 _ _ _ _ | (simp only [Qm];omega) | (exact Zd (by omega)))) (nt ?_)))))))
 refine cd (1+1*(Jm QL 1 1 (Qu a0 a1).length).length<0) Y (fun fhc4=> ?_) fun fhc4=> ?_
 ·refine sr ?_
  refine fO (OF.assign (VEv.bool false)) (nt (rt (tr (vb (b':=false) Y ?_))))
  first | rfl | (exfalso;simp only [Qd,not_true_eq_false] at *;done) | (exfalso;simp only [Qd] at* <;>omega) | (exfalso;simp only [Qd,Qm] at* <;>omega) | (exfalso;simp only [Qd,Qm,not_true_eq_false] at *;done) | (exfalso;omega) | (exfalso;(simp only [Qm] at* <;>omega)) | (exfalso;simp only [Qm,not_true_eq_false] at *;done) | (exfalso;simp_all;done)
 first | (have hz4:=YT fhc4) | skip
 refine sk (tn (sq (sr (mO (tN (1+1*(Jm QL 1 1 (Qu a0 a1).length).length)) Y (mO (tN (1+1*(Qu a0 a1).length)) Y (fO (Qhk (tv (tN (1+1*(Jm QL 1 1 (Qu a0 a1).length).length)) Y) (tv (tN (1+1*(Qu a0 a1).length)) Y)) (nt ?_)))))))
 refine cn (1+1*(Jm QL 1 1 (Qu a0 a1).length).length=1+1*(Qu a0 a1).length) Y (fun fhc5=> ?_) fun fhc5=> ?_
 ·refine sr ?_
  refine fO (OF.assign (VEv.bool false)) (nt (rt (tr (vb (b':=false) Y ?_))))
  first | rfl | (exfalso;simp only [Qd,not_true_eq_false] at *;done) | (exfalso;simp only [Qd] at* <;>omega) | (exfalso;simp only [Qd,Qm] at* <;>omega) | (exfalso;simp only [Qd,Qm,not_true_eq_false] at *;done) | (exfalso;omega) | (exfalso;(simp only [Qm] at* <;>omega)) | (exfalso;simp only [Qm,not_true_eq_false] at *;done) | (exfalso;simp_all;done)
 first | (have hz5:=YT fhc5) | skip
 refine sk (tn (sr (lO (OL.loadOn (us:=(QG false a0)) (tv (T.op 0 0) Y) Y Qlg Qkt (lb Y) Y) (cO (OC.callF (r':=(T.agg [(tI a0.Number),(tI a0.Puzzle.Grid.Rows),(tI a0.Puzzle.Grid.Cols),(tS a0.Puzzle.Grid.Cells),(T.os 2 10 0 ((a0.Puzzle.Clues.map (Qe true)).length)),(T.os 1 11 0 ((a0.Puzzle.Seals.map (Qc true)).length)),(tI a0.Puzzle.Salt),(tS a0.Fill),(tI a0.Open),(tI a0.Close)])) (objs:= [(Obj.rows 2 (a0.Puzzle.Clues.map (Qe true))),(Obj.rows 1 (a0.Puzzle.Seals.map (Qc true)))]) Y (vc (tv (T.agg (QG false a0)) Y) vn) (LendL.cons (lg JL) ln) (YR (n+39) a0 (by first | exact Qz _ _ | (simp only [Qd];omega) | (simp only [Qd,Qm];omega) | (simp only [Qd,Qm];done) | exact Q0 _ _ _ _ | (simp only [Qm];omega) | assumption | omega | (simp only [List.length_map];omega) | (simp only [List.length_map,List.length_append,List.length_cons,List.length_nil,List.length_replicate,List.length_set,List.length_drop,List.length_take,Zr] at *;omega))) Y) (mO (tI a1) Y (cO (OC.callF (us:= [(T.agg (QG false a0)),(tI a1)]) (r':=(T.os 1 12 0 (((Qu a0 a1).map (Qv true)).length))) (objs:= [(Obj.rows 1 ((Qu a0 a1).map (Qv true)))]) Y (vc (tv (T.agg [(tI a0.Number),(tI a0.Puzzle.Grid.Rows),(tI a0.Puzzle.Grid.Cols),(tS a0.Puzzle.Grid.Cells),(T.os 2 10 0 ((a0.Puzzle.Clues.map (Qe true)).length)),(T.os 1 11 0 ((a0.Puzzle.Seals.map (Qc true)).length)),(tI a0.Puzzle.Salt),(tS a0.Fill),(tI a0.Open),(tI a0.Close)]) Y) (vc (tv (tI a1) Y) vn)) (LendL.cons (Lend.agg (LendL.cons (Lend.pl Y) (LendL.cons (Lend.pl Y) (LendL.cons (Lend.pl Y) (LendL.cons (Lend.pl Y) (LendL.cons (Lend.os Y Y (okeClue.fzMap _ _)) (LendL.cons (Lend.os Y Y (okInt.fzMap _ _)) (LendL.cons (Lend.pl Y) (LendL.cons (Lend.pl Y) (LendL.cons (Lend.pl Y) (LendL.cons (Lend.pl Y) ln))))))))))) (lp Y ln)) (Qbb (n+0) a0 a1 (by first | exact Qz _ _ | (simp only [Qd];omega) | (simp only [Qd,Qm];omega) | (simp only [Qd,Qm];done) | exact Q0 _ _ _ _ | (simp only [Qm];omega) | assumption | omega | (simp only [List.length_map];omega) | (simp only [List.length_map,List.length_append,List.length_cons,List.length_nil,List.length_replicate,List.length_set,List.length_drop,List.length_take,Zr] at *;omega))) Y) (aO (T.os 1 12 0 (((Qu a0 a1).map (Qv true)).length)) Y (nt (sq (sr (mO (T.os 1 12 0 (((Qu a0 a1).map (Qv true)).length)) Y ?_)))))))))))
 refine mO (T.os 1 3 0 (((Qu a0 a1).map (Qv true)).length)) Y (cO (cS (us:= [(rd 1 Qv (Qu a0 a1)),(rd 1 Qv (Qu a0 a1))]) (vc (tv (T.os 1 12 0 (((Qu a0 a1).map (Qv true)).length)) Y) (vc (tv (T.os 1 3 0 (((Qu a0 a1).map (Qv true)).length)) Y) vn)) (LendL.cons (Lend.os Y Y (okStr.fzMap _ _)) (LendL.cons (Lend.os Y Y (okStr.fzMap _ _)) ln)) (Jd (n+44) (Qu a0 a1) (Qu a0 a1) (by first | exact Qz _ _ | (simp only [Qd];omega) | (simp only [Qd,Qm];omega) | (simp only [Qd,Qm];done) | exact Q0 _ _ _ _ | (simp only [Qm];omega) | assumption | omega | (simp only [List.length_map];omega) | (simp only [List.length_map,List.length_append,List.length_cons,List.length_nil,List.length_replicate,List.length_set,List.length_drop,List.length_take,Zr] at *;omega)) (by first | exact Qz _ _ | (simp only [Qd];omega) | (simp only [Qd,Qm];omega) | (simp only [Qd,Qm];done) | exact Q0 _ _ _ _ | (simp only [Qm];omega) | assumption | omega | (simp only [List.length_map];omega) | (simp only [List.length_map,List.length_append,List.length_cons,List.length_nil,List.length_replicate,List.length_set,List.length_drop,List.length_take,Zr] at *;omega))) Y Y) (fO (Q8 (tv (tB (decide ((Qu a0 a1)=(Qu a0 a1)))) Y)) (nt (cg (nz fhc1) Y (sk (tn (sr (fO (OF.assign (VEv.int .i64 1)) (nt (sr (mO (T.os 1 7 0 (((Qu a0 a1).map (Qv true)).length)) Y ?_)))))))))))
 refine mO (tN 1) Y (cO (cS (us:= [(rd 1 Qv (Jm QL 1 1 (Qu a0 a1).length)),(tN 1)]) (vc (tv (T.os 1 7 0 (((Qu a0 a1).map (Qv true)).length)) Y) (vc (tv (tN 1) Y) vn)) (LendL.cons (Lend.os Y (by simp only [List.length_map,Qm,List.length_set,QdL]) (okStr.fzMap _ _)) (lp Y ln)) (JH (n+43) (Jm QL 1 1 (Qu a0 a1).length) 1 (by first | exact Qz _ _ | (simp only [Qd];omega) | (simp only [Qd,Qm];omega) | (simp only [Qd,Qm];done) | exact Q0 _ _ _ _ | (simp only [Qm];omega) | assumption | omega | (simp only [List.length_map];omega) | (simp only [List.length_map,List.length_append,List.length_cons,List.length_nil,List.length_replicate,List.length_set,List.length_drop,List.length_take,Zr] at *;omega)) (by first | exact Qz _ _ | (simp only [Qd];omega) | (simp only [Qd,Qm];omega) | (simp only [Qd,Qm];done) | exact Q0 _ _ _ _ | (simp only [Qm];omega) | assumption | omega | (simp only [List.length_map];omega) | (simp only [List.length_map,List.length_append,List.length_cons,List.length_nil,List.length_replicate,List.length_set,List.length_drop,List.length_take,Zr] at *;omega))) Y Y) (aO (tN (1+1*(Jm QL 1 1 (Qu a0 a1).length).length)) Y (nt (sq (sr (mO (tN (1+1*(Jm QL 1 1 (Qu a0 a1).length).length)) Y (fO (B.lss (c:=(decide (1+1*(Jm QL 1 1 (Qu a0 a1).length).length<0))) (tv (tN (1+1*(Jm QL 1 1 (Qu a0 a1).length).length)) Y) (VEv.int .i64 0) (by first | exact Qz _ _ | (simp only [Qd];omega) | (simp only [Qd,Qm];omega) | (simp only [Qd,Qm];done) | exact Q0 _ _ _ _ | (simp only [Qm];omega) | (exact Zd (by omega)))) (nt (cg (dz fhc4) Y (sk (tn ?_)))))))))))
 refine sq (sr (mO (tN (1+1*(Jm QL 1 1 (Qu a0 a1).length).length)) Y (mO (tN (1+1*(Qu a0 a1).length)) Y (fO (Qhk (tv (tN (1+1*(Jm QL 1 1 (Qu a0 a1).length).length)) Y) (tv (tN (1+1*(Qu a0 a1).length)) Y)) (nt (cg (nz fhc5) Y (sk (tn (sr (fO (OF.assign (VEv.bool true)) (nt ?_)))))))))))
 refine rt ?_
 exact vb Y Y
theorem QmJ {α:Type} {d:AK α} {e:Bool→α→List T} {x:α} {t:T} {h:AH} {v:Value} (hk:RK d e) (he:e false x= [t]) (hr:d.R h x [v]):R h t v:=by
 have h1:=hk h x _ hr
 rw [he] at h1
 exact h1.tail.1
theorem Qm4 {α:Type} {d:AK α} {e:Bool→α→List T} {x:α} {h:AH} {cs:Array Value} (hk:RK d e) (hr:d.R h x (Qhj (.agg cs)).cells.toList):R h (.agg (e false x)) (Qhj (.agg cs)):=by
 have h1:=hk h x _ hr
 refine .agg _ _ (by simpa [Value.cells,Qhj] using h1.1) (fun i hi=> ?_)
 have:=h1.2 i hi
 simpa [Value.cells,Qhj,Array.getD_eq_getD_getElem?,List.getD_eq_getElem?_getD] using this
theorem Pure.bool {call:QQ} {f:FuncId} {ts:List T} {b:Bool} (hp:Pure call f ts (.bool b)) {h:AH} {vs:List Value} (hfr:Fr 1 h) (hr:RL h ts vs):CallS call f vs h 1 (fun v _=>v= .bool b):=by
 refine (hp h 1 vs hfr hr).mono ?_
 rintro v h' ⟨_,N,hs,_⟩
 cases hs with
 | fz hr=>cases hr;rfl
open Go Go.RowKit Go.Shelf Go.Proofs
def laysRepl_ren : Go.Shelf.Ren:=⟨fun | 155=>61 | 154=>85 | 138=>112 | 165=>113 | 143=>114 | 166=>115 | 197=>116 | 169=>117 | 195=>139 | 218=>140 | 240=>141 | 241=>142 | 219=>143 | 260=>144 | 276=>151 | 277=>152 | 217=>153 | 225=>154 | 224=>155 | 267=>156 | 266=>166 | 314=>167 | n=>n,fun | 9=>9 | 3=>3 | 4=>4 | 72=>126 | 0=>0 | 76=>130 | 105=>132 | 21=>21 | 5=>5 | 70=>124 | 20=>20 | 37=>92 | 75=>129 | 127=>148 | 164=>153 | 46=>157 | 119=>158 | 139=>161 | 138=>160 | 146=>171 | 51=>170 | 80=>134 | n=>n,fun | 1=>0 | 3=>1 | 4=>2 | n=>n⟩
theorem laysRepl : Go.Proofs.LaysM.n155 Tryz.prog laysRepl_ren where
 mixed:=by kernel_rfl
 f138:=Tryz.func112.trans (congrArg some (by kernel_rfl))
 f143:=Tryz.func114.trans (congrArg some (by kernel_rfl))
 f154:=Tryz.func85.trans (congrArg some (by kernel_rfl))
 f155:=Tryz.func61.trans (congrArg some (by kernel_rfl))
 f165:=Tryz.func113.trans (congrArg some (by kernel_rfl))
 f166:=Tryz.func115.trans (congrArg some (by kernel_rfl))
 f169:=Tryz.func117.trans (congrArg some (by kernel_rfl))
 f195:=Tryz.func139.trans (congrArg some (by kernel_rfl))
 f197:=Tryz.func116.trans (congrArg some (by kernel_rfl))
 f217:=Tryz.func153.trans (congrArg some (by kernel_rfl))
 f218:=Tryz.func140.trans (congrArg some (by kernel_rfl))
 f219:=Tryz.func143.trans (congrArg some (by kernel_rfl))
 f224:=Tryz.func155.trans (congrArg some (by kernel_rfl))
 f225:=Tryz.func154.trans (congrArg some (by kernel_rfl))
 f240:=Tryz.func141.trans (congrArg some (by kernel_rfl))
 f241:=Tryz.func142.trans (congrArg some (by kernel_rfl))
 f260:=Tryz.func144.trans (congrArg some (by kernel_rfl))
 f266:=Tryz.func166.trans (congrArg some (by kernel_rfl))
 f267:=Tryz.func156.trans (congrArg some (by kernel_rfl))
 f276:=Tryz.func151.trans (congrArg some (by kernel_rfl))
 f277:=Tryz.func152.trans (congrArg some (by kernel_rfl))
 f314:=Tryz.func167.trans (congrArg some (by kernel_rfl))
 t0:=Tryz.underlying0
 a0:=Tryz.isAgg0
 z0:=Tryz.sizeOf0
 v0:=Tryz.zeroValue0
 t3:=Tryz.underlying3
 a3:=Tryz.isAgg3
 z3:=Tryz.sizeOf3
 v3:=Tryz.zeroValue3
 t4:=Tryz.underlying4
 a4:=Tryz.isAgg4
 z4:=Tryz.sizeOf4
 v4:=Tryz.zeroValue4
 t5:=Tryz.underlying5
 a5:=Tryz.isAgg5
 z5:=Tryz.sizeOf5
 v5:=Tryz.zeroValue5
 t9:=Tryz.underlying9
 a9:=Tryz.isAgg9
 z9:=Tryz.sizeOf9
 v9:=Tryz.zeroValue9
 t20:=Tryz.underlying20
 a20:=Tryz.isAgg20
 z20:=Tryz.sizeOf20
 v20:=Tryz.zeroValue20
 t21:=Tryz.underlying21
 a21:=Tryz.isAgg21
 z21:=Tryz.sizeOf21
 v21:=Tryz.zeroValue21
 t37:=Tryz.underlying92
 a37:=Tryz.isAgg92
 z37:=Tryz.sizeOf92
 v37:=Tryz.zeroValue92
 t46:=Tryz.underlying157
 a46:=Tryz.isAgg157
 z46:=Tryz.sizeOf157
 v46:=Tryz.zeroValue157
 t51:=Tryz.underlying170
 a51:=Tryz.isAgg170
 z51:=Tryz.sizeOf170
 v51:=Tryz.zeroValue170
 t70:=Tryz.underlying124
 a70:=Tryz.isAgg124
 z70:=Tryz.sizeOf124
 v70:=Tryz.zeroValue124
 t72:=Tryz.underlying126
 a72:=Tryz.isAgg126
 z72:=Tryz.sizeOf126
 v72:=Tryz.zeroValue126
 t75:=Tryz.underlying129
 a75:=Tryz.isAgg129
 z75:=Tryz.sizeOf129
 v75:=Tryz.zeroValue129
 t76:=Tryz.underlying130
 a76:=Tryz.isAgg130
 z76:=Tryz.sizeOf130
 v76:=Tryz.zeroValue130
 t105:=Tryz.underlying132
 a105:=Tryz.isAgg132
 z105:=Tryz.sizeOf132
 v105:=Tryz.zeroValue132
 t119:=Tryz.underlying158
 a119:=Tryz.isAgg158
 z119:=Tryz.sizeOf158
 t127:=Tryz.underlying148
 a127:=Tryz.isAgg148
 z127:=Tryz.sizeOf148
 v127:=Tryz.zeroValue148
 t138:=Tryz.underlying160
 a138:=Tryz.isAgg160
 z138:=Tryz.sizeOf160
 v138:=Tryz.zeroValue160
 t139:=Tryz.underlying161
 a139:=Tryz.isAgg161
 z139:=Tryz.sizeOf161
 v139:=Tryz.zeroValue161
 t146:=Tryz.underlying171
 a146:=Tryz.isAgg171
 z146:=Tryz.sizeOf171
 v146:=Tryz.zeroValue171
 t164:=Tryz.underlying153
 a164:=Tryz.isAgg153
 z164:=Tryz.sizeOf153
 v164:=Tryz.zeroValue153
 g1:=by kernel_rfl
 g3:=by kernel_rfl
 g4:=by kernel_rfl
 t80:=Tryz.underlying134
 a80:=Tryz.isAgg134
 z80:=Tryz.sizeOf134
 v80:=Tryz.zeroValue134
 i0:=by kernel_rfl
 i3:=by kernel_rfl
 i4:=by kernel_rfl
 i5:=by kernel_rfl
 i9:=by kernel_rfl
 i20:=by kernel_rfl
 i21:=by kernel_rfl
 i37:=by kernel_rfl
 i46:=by kernel_rfl
 i51:=by kernel_rfl
 i70:=by kernel_rfl
 i72:=by kernel_rfl
 i75:=by kernel_rfl
 i76:=by kernel_rfl
 i80:=by kernel_rfl
 i105:=by kernel_rfl
 i127:=by kernel_rfl
 i138:=by kernel_rfl
 i139:=by kernel_rfl
 i146:=by kernel_rfl
 i164:=by kernel_rfl
 m1:=by kernel_rfl
 s1_3:=fun w h=>Go.Proofs.cell_of_shapedOpen_int (zero:= #[.int .i64 0]) (t:=3) h (of_decide_eq_true (by kernel_rfl)) (by kernel_rfl) Y (by kernel_rfl) (by kernel_rfl) Tryz.underlying3
 m3:=by kernel_rfl
 m4:=by kernel_rfl
theorem QjA : Builder.Extra Tryz.prog laysRepl_ren where
 sizeBuilder:=by kernel_rfl
 liesBuilder:=by kernel_rfl
 t5:=laysRepl.t5
 a5:=laysRepl.a5
 z5:=laysRepl.z5
 v5:=laysRepl.v5
 infoByte:=by kernel_rfl
 cellsByte:=by kernel_rfl
 sizeByte:=by kernel_rfl
 neB5:=by decide
theorem QmO {W:World} (h:W.ShapedOpen Tryz.prog):GlobOk W.heap.size W:=by
 intro g hg
 obtain rfl:=List.mem_singleton.1 hg
 obtain ⟨m,hm⟩:=laysRepl.s1_3 W h
 refine ⟨?_,m,hm⟩
 unfold World.cell? at hm
 split at hm
 ·rename_i e;exact (Array.getElem?_eq_some_iff.1 e).1
 ·cases hm
theorem Qml : Qim Tryz.prog:=by
 intro f hf
 by_cases h0:f=61
 ·subst h0
  exact Qhc (g:=laysRepl_ren.g 1) (by decide) ⟨fun s o n m w h1 h2 h3 h4=>Any.strings_ReplaceAll laysRepl.ton155 QjA s o n m w h1 h2 h3 h4⟩
 exfalso
 simp [QaZ,h0] at hf
end Go.Proofs.YthifchndolccgaaGreatDoor.AE
