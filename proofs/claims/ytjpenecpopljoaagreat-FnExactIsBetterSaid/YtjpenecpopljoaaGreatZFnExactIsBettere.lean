/- A part of what the row of FnExactIsBetter uses. Conditions: as each theorem states. -/
import Derived.Test.YtjpenecpopljoaaGreatZFnExactIsBetterd
namespace Go.Proofs.YtjpenecpopljoaaGreat.AE
open Go Go.RowKit
set_option linter.unusedVariables false
set_option linter.unusedSimpArgs false
set_option maxRecDepth 20000
set_option maxHeartbeats 2000000
noncomputable section
def on (s:List Bool) (j:Nat):Bool:=s[j]?.getD false
theorem QmI {s:List Bool} {j:Nat} (h:on s j=true):j<s.length:=by
 rcases Nat.lt_or_ge j s.length with h1 | h1
 ·exact h1
 ·rw [on,List.getElem?_eq_none h1] at h;cases h
theorem Qej {s:List Bool} {i j:Nat} (hi:i<s.length):on (s.set i true) j=(if j=i then true else on s j):=by
 unfold on
 rw [List.getElem?_set]
 by_cases h:i=j
 ·subst h;simp [hi]
 ·rw [if_neg h,if_neg (fun e=>h e.symm)]
theorem Qmv {s t:List Bool} (hl:s.length=t.length) (h:∀j,on s j=true↔on t j=true):s=t:=by
 refine List.ext_getElem? fun j=> ?_
 rcases Nat.lt_or_ge j s.length with h1 | h1
 ·have h2:j<t.length:=by omega
  have h3:=h j
  unfold on at h3
  rw [List.getElem?_eq_getElem h1,List.getElem?_eq_getElem h2] at h3 ⊢
  simp only [Option.getD_some] at h3
  rw [Bool.eq_iff_iff.2 h3]
 ·rw [List.getElem?_eq_none h1,List.getElem?_eq_none (by omega)]
theorem on_no {s:List Bool} {j:Nat}:on s j=false↔¬on s j=true:=by cases on s j<;>simp
def wG (g:D.Grid):Nat:=g.Cols.toNat
def adj (g:D.Grid) (i j:Nat):Prop:=(j=i+1∧i % wG g+1<wG g)∨(i=j+1∧j % wG g+1<wG g)∨j=i+wG g∨i=j+wG g
inductive Rch (g:D.Grid) (s:List Bool):Nat→Prop
 | base {j:Nat} (h:on s j=true):Rch g s j
 | step {i j:Nat} (h:Rch g s i) (ha:adj g i j) (hj:j<s.length) (hw:Qy g.Cells j=46):Rch g s j
instance (g:D.Grid) (s:List Bool) (j:Nat):Decidable (Rch g s j):=Classical.propDecidable _
def Zz (g:D.Grid) (s:List Bool):List Bool:=(List.range s.length).map fun j=>decide (Rch g s j)
theorem Rch.lt {g:D.Grid} {s:List Bool} {j:Nat} (h:Rch g s j):j<s.length:=by
 cases h with
 | base h=>exact QmI h
 | step _ _ hj _=>exact hj
theorem Qdg (g:D.Grid) (s:List Bool):(Zz g s).length=s.length:=by simp [Zz]
theorem on_reachL {g:D.Grid} {s:List Bool} {j:Nat}:on (Zz g s) j=true↔Rch g s j:=by
 unfold on Zz
 rw [List.getElem?_map]
 rcases Nat.lt_or_ge j s.length with h1 | h1
 ·rw [List.getElem?_eq_getElem (by simpa using h1),List.getElem_range]
  simp
 ·rw [List.getElem?_eq_none (by simpa using h1)]
  simp only [Option.map_none,Option.getD_none,Bool.false_eq_true,false_iff]
  intro h
  have:=h.lt
  omega
def Ql9 (g:D.Grid) (s:List Bool) (i:Nat):Prop:=∃j,adj g j i∧on s j=true
theorem QmC {i w:Nat} (h:0<i % w) (hw:i % w<w):(i - 1) % w+1=i % w∧1≤i:=by
 have h1:i % w≤i:=Nat.mod_le _ _
 have h2:=Nat.div_add_mod i w
 refine ⟨?_,by omega⟩
 have e:i - 1=(i % w - 1)+w*(i / w):=by omega
 rw [e,Nat.add_mul_mod_self_left,Nat.mod_eq_of_lt (by omega)]
 omega
theorem QlC {i w:Nat} (h:i % w+1<w):(i+1) % w=i % w+1:=by
 have h2:=Nat.div_add_mod i w
 have e:i+1=(i % w+1)+w*(i / w):=by omega
 rw [e,Nat.add_mul_mod_self_left,Nat.mod_eq_of_lt h]
theorem Qiz {g:D.Grid} {s:List Bool} {i:Nat} (hw:2≤g.Cols) (hl:i<s.length) :
  ((((0<i % g.Cols.toNat∧on s (i - 1)=true)∨(((i % g.Cols.toNat+1:Nat):Int)<g.Cols∧on s (i+1)=true))∨(g.Cols≤((i:Nat):Int)∧on s (i - g.Cols.toNat)=true))∨(i+g.Cols.toNat<s.length∧on s (i+g.Cols.toNat)=true))↔Ql9 g s i:=by
 have hm:i % g.Cols.toNat<g.Cols.toNat:=Nat.mod_lt _ (by omega)
 constructor
 ·rintro (((⟨h1,h2⟩ | ⟨h1,h2⟩) | ⟨h1,h2⟩) | ⟨h1,h2⟩)
  ·obtain ⟨h3,h4⟩:=QmC h1 hm
   exact ⟨i - 1, .inl ⟨by omega,by unfold wG;omega⟩,h2⟩
  ·exact ⟨i+1, .inr (.inl ⟨rfl,by unfold wG;omega⟩),h2⟩
  ·exact ⟨i - g.Cols.toNat, .inr (.inr (.inl (by unfold wG;omega))),h2⟩
  ·exact ⟨i+g.Cols.toNat, .inr (.inr (.inr (by unfold wG;omega))),h2⟩
 ·rintro ⟨j,(⟨h1,h2⟩ | ⟨h1,h2⟩ | h1 | h1),h3⟩
  ·refine .inl (.inl (.inl ⟨?_,by rw [show i - 1=j by omega];exact h3⟩))
   unfold wG at h2
   rw [h1,QlC h2];omega
  ·refine .inl (.inl (.inr ⟨by unfold wG at h2;omega,by rw [← h1];exact h3⟩))
  ·unfold wG at h1
   refine .inl (.inr ⟨by omega,by rw [show i - g.Cols.toNat=j by omega];exact h3⟩)
  ·unfold wG at h1
   have:=QmI h3
   exact .inr ⟨by omega,by rw [← h1];exact h3⟩
def RS (g:D.Grid) (s0 s:List Bool):Prop:=s.length=s0.length∧(∀j,on s0 j=true→on s j=true)∧∀j,on s j=true→Rch g s0 j
theorem RS.start (g:D.Grid) (s:List Bool):RS g s s:=⟨rfl,fun _ h=>h,fun _ h=> .base h⟩
theorem RS.put {g:D.Grid} {s0 s:List Bool} {i:Nat} (h:RS g s0 s) (hi:i<s.length) (hw:Qy g.Cells i=46) (hn:Ql9 g s i):RS g s0 (s.set i true):=by
 obtain ⟨h1,h2,h3⟩:=h
 refine ⟨by simpa using h1,fun j hj=> ?_,fun j hj=> ?_⟩
 ·rw [Qej hi];split
  ·rfl
  ·exact h2 j hj
 ·rw [Qej hi] at hj
  split at hj
  ·rename_i e
   subst e
   obtain ⟨k,hk,hk2⟩:=hn
   exact .step (h3 k hk2) hk (by omega) hw
  ·exact h3 j hj
def QiA (g:D.Grid) (s:List Bool) (i:Nat):Prop:=Qy g.Cells i=46∧on s i=false∧Ql9 g s i
instance (g:D.Grid) (s:List Bool) (i:Nat):Decidable (QiA g s i):=Classical.propDecidable _
def Y3 (g:D.Grid) (s:List Bool) (i:Nat):List Bool:=if QiA g s i then s.set i true else s
def QcM (g:D.Grid) (ag:Bool) (s:List Bool) (i:Nat):Bool:=if QiA g s i then true else ag
theorem QlS {g:D.Grid} {s:List Bool} {ag:Bool} {i:Nat} (h:QiA g s i):s.set i true=Y3 g s i∧true=QcM g ag s i:=⟨(if_pos h).symm,(if_pos h).symm⟩
theorem Qkm {g:D.Grid} {s:List Bool} {ag:Bool} {i:Nat} (h:¬QiA g s i):s=Y3 g s i∧ag=QcM g ag s i:=⟨(if_neg h).symm,(if_neg h).symm⟩
def Inv1 (g:D.Grid) (s0 s:List Bool) (i:Nat) (s1:List Bool) (ag:Bool):Prop:=i≤s0.length∧RS g s0 s1∧(ag=false→s1=s∧∀j,j<i→¬QiA g s j)∧(ag=true→s1.count false<s.count false)∧s1.count false≤s.count false
theorem Inv1.start {g:D.Grid} {s0 s:List Bool} (h:RS g s0 s):Inv1 g s0 s 0 s false:=⟨Nat.zero_le _,h,fun _=>⟨rfl,fun j hj=>by omega⟩,(fun h=>by cases h),Nat.le_refl _⟩
theorem Qeb {s:List Bool} {i:Nat} (hi:i<s.length) (h:on s i=false):(s.set i true).count false+1=s.count false:=by
 have h2:s[i]=false:=by
  unfold on at h
  rw [List.getElem?_eq_getElem hi] at h
  exact h
 have h3:0<s.count false:=List.count_pos_iff.2 (h2▸List.getElem_mem hi)
 rw [List.count_set hi]
 simp [h2]
 omega
theorem Inv1.next {g:D.Grid} {s0 s s1:List Bool} {i:Nat} {ag:Bool} (h:Inv1 g s0 s i s1 ag) (hi:i<s1.length):Inv1 g s0 s (i+1) (Y3 g s1 i) (QcM g ag s1 i):=by
 obtain ⟨h1,h2,h3,h4,h5⟩:=h
 have hl:=h2.1
 unfold Y3 QcM
 by_cases hw:QiA g s1 i
 ·rw [if_pos hw,if_pos hw]
  have hc:=Qeb hi hw.2.1
  exact ⟨by omega,h2.put hi hw.1 hw.2.2,(fun e=>by cases e),(fun _=>by omega),by omega⟩
 ·rw [if_neg hw,if_neg hw]
  refine ⟨by omega,h2,fun e=> ?_,h4,h5⟩
  obtain ⟨h6,h7⟩:=h3 e
  subst h6
  refine ⟨rfl,fun j hj=> ?_⟩
  rcases Nat.lt_or_ge j i with g1 | g1
  ·exact h7 j g1
  ·obtain rfl:j=i:=by omega
   exact hw
def Inv0 (g:D.Grid) (s0 s:List Bool) (ag:Bool):Prop:=RS g s0 s∧(ag=false→∀j,j<s0.length→¬QiA g s j)
theorem Inv1.done {g:D.Grid} {s0 s s1:List Bool} {i:Nat} {ag:Bool} (h:Inv1 g s0 s i s1 ag) (hi:¬i<s1.length):Inv0 g s0 s1 ag:=by
 obtain ⟨h1,h2,h3,h4,h5⟩:=h
 have hl:=h2.1
 refine ⟨h2,fun e j hj=> ?_⟩
 obtain ⟨h6,h7⟩:=h3 e
 rw [h6]
 exact h7 j (by omega)
theorem Inv1.dec {g:D.Grid} {s0 s s1:List Bool} {i:Nat} {ag ag0:Bool} (h:Inv1 g s0 s i s1 ag) (h0:ag0=true):s1.count false+(if ag=true then 1 else 0)<s.count false+(if ag0=true then 1 else 0):=by
 obtain ⟨h1,h2,h3,h4,h5⟩:=h
 rw [if_pos h0]
 split
 ·rename_i e
  have:=h4 e
  omega
 ·omega
theorem Inv0.done {g:D.Grid} {s0 s:List Bool} {ag:Bool} (h:Inv0 g s0 s ag) (ha:¬ag=true):s=Zz g s0:=by
 obtain ⟨⟨h1,h2,h3⟩,h4⟩:=h
 refine Qmv (by rw [Qdg,h1]) fun j=> ?_
 rw [on_reachL]
 refine ⟨h3 j,fun hj=> ?_⟩
 have h5:=h4 (by cases ag<;>simp_all)
 induction hj with
 | base h=>exact h2 _ h
 | step h ha hj hw ih =>
  rename_i i k
  cases hk:on s k with
  | true=>rfl
  | false=>exact absurd ⟨hw,hk,i,ha,ih⟩ (h5 k hj)
end
theorem Qe6 (n:Nat) (g:D.Grid) (seen:List Bool) (cell:Nat) (hg:gridOk g) (hc:cell<seen.length) (hs:seen.length=g.Cells.size):Loan (Qo Tryz.prog (n+1)) 167 1 (List.map (Qp true) seen) [(T.agg (Qc false g)),(T.os 1 0 0 ((seen.map (Qp true)).length)),(tN cell)] (T.os 1 0 0 (List.map (Qp true) (Zz g (seen.set cell true))).length) (List.map (Qp true) (Zz g (seen.set cell true))):=by
 refine Loan.intro (rs:= [ResultVar.tmp 6]) (j:=1) (pin:=(T.os 1 0 0 ((seen.map (Qp true)).length))) Tryz.func167 Y Y Y (by kernel_rfl) Y (.os _ _) (.os _ _) (ZS (fun _=>rfl) _) (ZS (fun _=>rfl) _) (E0:= [(0,(T.agg (Qc false g))),(1,(T.os 1 0 0 ((seen.map (Qp true)).length))),(2,(tN cell))]) Y ?_
 obtain ⟨hlim,hmx,hmax⟩:=Qz
 have hsz:=hg.size
 have hA:=hg.1
 have hB:=hg.2.1
 refine sr (kO (B.box (ts:=(Qc false g)) (tv (T.agg (Qc false g)) Y) nofun Y) (fO (OF.assign VEv.nils) (nt (sr (mO (T.os 1 0 0 ((seen.map (Qp true)).length)) Y (mO (tN cell) Y ?_))))))
 obtain ⟨x1,hx1⟩:∃x,seen[cell]? =some x:=⟨_,List.getElem?_eq_getElem (by omega)⟩
 skip
 refine fO (B.indexAddrO (i:=cell) (tv (T.os 1 0 0 ((seen.map (Qp true)).length)) Y) (tv (tN cell) Y) Y (by (simp only [List.length_map];omega)) JF sz4 if4) (cO (B.storeP (us:= [(tB true)]) (rows':=((seen.set cell true).map (Qp true))) (row:=(Qp true x1)) (tv (T.orp 1 0 cell 0) Y) (VEv.bool true) nofun Y (Qu _ hx1) Y (lb Y) if4 sz4 (bc Y bn) (by intro r hr t ht;obtain ⟨x,_,rfl⟩:=List.mem_map.1 hr;rw [QhH] at ht;exact ZZ (okBool.pl _ t ht)) (Yc Y)) (nt (sq (sr (fO (OF.assign (VEv.bool true)) (nt (VRun.block ?_)))))))
 refine VRun.loop (A:=Bool×(List Bool)) (fun s_=> [(1,(T.os 1 1 0 ((s_.2.map (Qp true)).length))),(3,(T.op 0 0)),(6,T.nils),(7,(tB s_.1))]) (fun s_=>QV [(0,(Obj.cells (Qc false g))),(1,(Obj.rows 1 (s_.2.map (Qp true))))]) 2 (fun s_=>Inv0 g (seen.set cell true) s_.2 s_.1) (fun s_=>s_.2.count false+(if s_.1=true then 1 else 0)) ((true,seen.set cell true):Bool×(List Bool)) ?_ (Wk.mk (fun k=>if k=0 then 1 else if k=1 then 0 else k) ?_ ?_ ?_) ?_
 ·exact ⟨RS.start _ _,fun h=>by cases h⟩
 ·exact (bc ⟨(congrArg (fun n_=>T.os 1 0 0 n_) (show (seen.map (Qp true)).length=((seen.set cell true).map (Qp true)).length from (by (simp;done)))),rfl⟩ (b2 (b2 (b2 bn))))
 ·exact (b3 (b3 bn))
 ·exact nd Y
 rintro ⟨ag,s⟩ (hI':Inv0 g (seen.set cell true) s ag)
 show VRun _ _ _ [(1,(T.os 1 1 0 ((s.map (Qp true)).length))),(3,(T.op 0 0)),(6,T.nils),(7,(tB ag))] (QV [(0,(Obj.cells (Qc false g))),(1,(Obj.rows 1 (s.map (Qp true))))]) 2 _
 have hI1:=hI'
 have hl0:s.length=g.Cells.size:=by have:=hI'.1.1;rw [List.length_set] at this;omega
 refine sq (sr (mO (tB ag) Y (nt ?_)))
 refine VRun.cond (tv (tB ag) Y) (fun hc0=> ?_) (fun hc0=> ?_)
 ·have fhc0:ag=true:=hc0
  refine sk (tn (VRun.block (sr (fO (OF.assign (VEv.bool false)) (nt (sr (fO (OF.assign (VEv.int .i64 0)) (nt (VRun.block ?_)))))))))
  refine VRun.loop (A:=Nat×(List Bool)×Bool) (fun s_=> [(1,(T.os 1 1 0 ((s_.2.1.map (Qp true)).length))),(3,(T.op 0 0)),(6,T.nils),(7,(tB s_.2.2)),(8,(tN s_.1))]) (fun s_=>QV [(0,(Obj.cells (Qc false g))),(1,(Obj.rows 1 (s_.2.1.map (Qp true))))]) 2 (fun s_=>Inv1 g (seen.set cell true) s s_.1 s_.2.1 s_.2.2) (fun s_=>s_.2.1.length - s_.1) ((0,s,false):Nat×(List Bool)×Bool) ?_ (Wk.mk (fun k=>k) ?_ ?_ ?_) ?_
  ·exact Inv1.start hI1.1
  ·exact (b2 (b2 (b2 (b2 (b2 bn)))))
  ·exact (b3 (b3 bn))
  ·exact nd Y
  rintro ⟨i,s1,ag1⟩ (hI':Inv1 g (seen.set cell true) s i s1 ag1)
  show VRun _ _ _ [(1,(T.os 1 1 0 ((s1.map (Qp true)).length))),(3,(T.op 0 0)),(6,T.nils),(7,(tB ag1)),(8,(tN i))] (QV [(0,(Obj.cells (Qc false g))),(1,(Obj.rows 1 (s1.map (Qp true))))]) 2 _
  have hJ1:=hI'.1
  have hl1:s1.length=g.Cells.size:=by have:=hI'.2.1.1;rw [List.length_set] at this;omega
  refine sq (sr (mO (tN i) Y (mO (T.os 1 1 0 ((s1.map (Qp true)).length)) Y (lO (B.lenO (m:=s1.length) (tv (T.os 1 1 0 ((s1.map (Qp true)).length)) Y) JF (List.length_map ..)) (fO (Q9 (tv (tN i) Y) (tv (tN s1.length) Y)) (nt ?_))))))
  refine cd (i<s1.length) Y (fun fhc1=> ?_) fun fhc1=> ?_
  ·refine sk ?_
   refine tn (sq (VRun.block (sq (sr (mO (T.os 1 1 0 ((s1.map (Qp true)).length)) Y (mO (tN i) Y ?_))))))
   obtain ⟨x2,hx2⟩:∃x,s1[i]? =some x:=⟨_,List.getElem?_eq_getElem (by omega)⟩
   (have e2:on s1 i=x2:=by rw [on,hx2];rfl)
   refine fO (B.indexAddrO (i:=i) (tv (T.os 1 1 0 ((s1.map (Qp true)).length)) Y) (tv (tN i) Y) Y (by (simp only [List.length_map];omega)) JF sz4 if4) (lO (OL.loadP1 (t:=(tB x2)) (row:=(Qp true x2)) (tv (T.orp 1 1 i 0) Y) Y (Qu _ hx2) Y Y st4) (mO (tB x2) Y ?_))
   refine VRunO.joinB 6 [26,27,28,29,30] 31 (tB (decide ((x2=true)∨(¬(Qy g.Cells i=46))))) ?_ ?_
   ·refine Qdu x2 (fun hg25_1=> ?_) (fun hg25_1=> ?_)
    ·have fhg25_1:x2=true:=hg25_1
     refine QD 5 4 false 25 hg25_1 Y Y Y (fO (OF.pickT (VEv.tmpB Y hg25_1) (VEv.bool true)) (VRunO.nil ?_))
     exact jq (congrArg T.bool (jOT (dT _) hg25_1)) (js Y (js Y (js Y (js Y (js Y (jn))))))
    ·have fhg25_1:x2=false:=hg25_1
     refine Yk (tS g.Cells) hg25_1 Y Y Y Y QL Y Y ZG (gF hg25_1 Y Y (OF.move (tv (tN i) Y)) ?_)
     have hb2:i<g.Cells.size:=(by omega)
     refine gF hg25_1 Y Y (xix (tv (tS g.Cells) Y) (tv (tN i) Y) hb2 U9) (gF hg25_1 Y Y (xne (tv (T.int .u8 (Qy g.Cells i)) Y) (VEv.int .u8 46)) (fO (OF.pickF (VEv.tmpB Y hg25_1) (tv (tB (!(decide (Qy g.Cells i=46)))) Y)) (VRunO.nil ?_)))
     exact jq (congrArg T.bool (jOF (dT _) hg25_1 dN)) (js Y (js Y (js Y (js Y (js Y (jn))))))
   refine nt ?_
   refine cd ((x2=true)∨(¬(Qy g.Cells i=46))) Y (fun fhc2=> ?_) fun fhc2=> ?_
   ·have q1:=Qkm (g:=g) (s:=s1) (ag:=ag1) (i:=i) (by rintro ⟨h1,h2,h3⟩;rw [e2] at h2;rcases fhc2 with h4 | h4;rw [h2] at h4;cases h4;exact h4 h1)
    refine VRun.exit (vthn.e (vinB.e (tn (VRun.region (mO (tN i) Y (fO (QB (tv (tN i) Y) (VEv.int .i64 1) (by omega)) (aO (tN (i+1)) Y (VRunO.nil (tn ?_)))))))))
    have he3:s1=(Y3 g s1 i):=by exact q1.1
    refine ⟨((i+1,Y3 g s1 i,QcM g ag1 s1 i):Nat×(List Bool)×Bool),?_,?_,Wk.mk (fun k=>k) ?_ ?_ ?_⟩
    ·exact hI'.next fhc1
    ·show (Y3 g s1 i).length - (i+1)<s1.length - i
     have e1:(Y3 g s1 i).length=s1.length:=by unfold Y3;split<;>simp
     rw [e1];omega
    ·exact (bc ⟨(congrArg (fun l_=>T.os 1 1 0 (List.map (Qp true) l_).length) he3),rfl⟩ (b2 (b2 (bc ⟨(congrArg T.bool (show ag1=(QcM g ag1 s1 i) from (by exact q1.2))),rfl⟩ (b2 bn)))))
    ·exact (b3 (bc ⟨(congrArg (fun l_=>some (Obj.rows 1 (List.map (Qp true) l_))) he3),(lb Y),rfl⟩ bn))
    ·exact nd Y
   refine sk (tn ?_)
   have hci:=Qcn hg (show i<g.Cells.size by omega)
   obtain ⟨m,hm⟩:∃m,m=i % g.Cols.toNat:=⟨_,rfl⟩
   have hq1:0<m→1≤i:=by rw [hm];exact hci.2.1
   have hm6:m<g.Cols.toNat:=by rw [hm];exact hci.1.1
   have hq4:((m+1:Nat):Int)<g.Cols→i+1<g.Cells.size:=by rw [hm];exact hci.2.2.2.1 1
   clear hci
   refine sr (mO (tN i) Y (lf (tI g.Cols) Y ZD Y Y QS (fO (B.rem (n:=((m:Nat):Int)) (tv (tN i) Y) (tv (tI g.Cols) Y) (by omega) (by (rw [hm];refine Qm7 ?_;omega))) (aO (tN m) Y (nt (sr (mO (tN m) Y (fO (B.gtr (c:=(decide (0<m))) (tv (tN m) Y) (VEv.int .i64 0) (by exact Qt (by omega))) (mO (tB (decide (0<m))) Y ?_)))))))))
   refine VRunO.joinB 6 [39,40,41,42,43] 44 (tB (decide ((0<m)∧((s1[i - 1]?.getD false)=true)))) ?_ ?_
   ·refine gw (0<m) (fun fhg38_4=> ?_) fun fhg38_4=> ?_
    ·refine gF (dy fhg38_4) Y Y (OF.move (tv (T.os 1 1 0 ((s1.map (Qp true)).length)) Y)) ?_
     refine gF (dy fhg38_4) Y Y (OF.move (tv (tN i) Y)) (gF (dy fhg38_4) Y Y (B.sub (n:=((i - 1:Nat):Int)) (tv (tN i) Y) (VEv.int .i64 1) (by (rw [Qs (by omega)];omega))) ?_)
     have hy5:s1[i - 1]? =some (s1[i - 1]?.getD false):=Qaz false (by omega)
     refine gF (dy fhg38_4) Y Y (B.indexAddrO (i:=i - 1) (tv (T.os 1 1 0 ((s1.map (Qp true)).length)) Y) (tv (tN (i - 1)) Y) Y (by (simp only [List.length_map];omega)) JF sz4 if4) (gL (dy fhg38_4) Y Y (OL.loadP1 (t:=(tB (s1[i - 1]?.getD false))) (row:=(Qp true (s1[i - 1]?.getD false))) (tv (T.orp 1 1 (i - 1) 0) Y) Y (Qu _ hy5) Y Y st4) (fO (OF.pickT (VEv.tmpB Y (dy fhg38_4)) (tv (tB (s1[i - 1]?.getD false)) Y)) (VRunO.nil ?_)))
     exact jq (congrArg T.bool (kAT fhg38_4 (dT _))) (js Y (js Y (js Y (js Y (js Y (jn))))))
    ·refine QD 5 2 true 38 (dz fhg38_4) Y Y Y ?_
     refine fO (OF.pickF (VEv.tmpB Y (dz fhg38_4)) (VEv.bool false)) (VRunO.nil ?_)
     exact jq (congrArg T.bool (kAF fhg38_4)) (js Y (js Y (js Y (js Y (js Y (jn))))))
   refine mO (tB (decide ((0<m)∧((s1[i - 1]?.getD false)=true)))) Y ?_
   refine VRunO.joinB 13 [46,47,48,49,50,51,52,53,54,55,56,57] 58 (tB (decide (((0<m)∧((s1[i - 1]?.getD false)=true))∨(((((m+1):Nat):Int)<g.Cols)∧((s1[(i+1)]?.getD false)=true))))) ?_ ?_
   ·refine gw ((0<m)∧((s1[i - 1]?.getD false)=true)) (fun fhg45_6=> ?_) fun fhg45_6=> ?_
    ·refine QD 6 9 false 45 (dy fhg45_6) Y Y Y ?_
     refine QaX 5 15 true 51 Y Y Y (oO Y Y (dy fhg45_6) (fO (OF.pickT (VEv.tmpB Y (dy fhg45_6)) (VEv.bool true)) (VRunO.nil ?_)))
     exact jq (congrArg T.bool (kOT fhg45_6)) (js Y (js Y (js Y (js Y (js Y (js Y (js Y (js Y (js Y (js Y (js Y (js Y (jn)))))))))))))
    ·refine gF (dz fhg45_6) Y Y (OF.move (tv (tN m) Y)) ?_
     refine gF (dz fhg45_6) Y Y (QB (tv (tN m) Y) (VEv.int .i64 1) (by omega)) (Yk (tI g.Cols) (dz fhg45_6) Y Y Y Y ZD Y Y QS (gF (dz fhg45_6) Y Y (xls (tv (tN (m+1)) Y) (tv (tI g.Cols) Y)) (gF (dz fhg45_6) Y Y (OF.move (tv (tB (decide ((((m+1):Nat):Int)<g.Cols))) Y)) ?_)))
     refine VRunO.joinB 6 [52,53,54,55,56] 57 (tB (decide (((((m+1):Nat):Int)<g.Cols)∧((s1[(i+1)]?.getD false)=true)))) ?_ ?_
     ·refine gw ((((m+1):Nat):Int)<g.Cols) (fun fhg51_7=> ?_) fun fhg51_7=> ?_
      ·refine gF (dy fhg51_7) Y Y (OF.move (tv (T.os 1 1 0 ((s1.map (Qp true)).length)) Y)) ?_
       refine gF (dy fhg51_7) Y Y (OF.move (tv (tN i) Y)) (gF (dy fhg51_7) Y Y (QB (tv (tN i) Y) (VEv.int .i64 1) (by omega)) ?_)
       have hy8:s1[(i+1)]? =some (s1[(i+1)]?.getD false):=Qaz false (by omega)
       refine gF (dy fhg51_7) Y Y (B.indexAddrO (i:=(i+1)) (tv (T.os 1 1 0 ((s1.map (Qp true)).length)) Y) (tv (tN (i+1)) Y) Y (by (simp only [List.length_map];omega)) JF sz4 if4) (gL (dy fhg51_7) Y Y (OL.loadP1 (t:=(tB (s1[(i+1)]?.getD false))) (row:=(Qp true (s1[(i+1)]?.getD false))) (tv (T.orp 1 1 (i+1) 0) Y) Y (Qu _ hy8) Y Y st4) (gF (dz fhg45_6) Y Y (OF.pickT (VEv.tmpB Y (dy fhg51_7)) (tv (tB (s1[(i+1)]?.getD false)) Y)) (VRunO.nil ?_)))
       exact jq (congrArg T.bool (kAT fhg51_7 (dT _))) (js Y (js Y (js Y (js Y (js Y (jn))))))
      ·refine QD 5 15 true 51 (dz fhg51_7) Y Y Y ?_
       refine gF (dz fhg45_6) Y Y (OF.pickF (VEv.tmpB Y (dz fhg51_7)) (VEv.bool false)) (VRunO.nil ?_)
       exact jq (congrArg T.bool (kAF fhg51_7)) (js Y (js Y (js Y (js Y (js Y (jn))))))
     refine fO (OF.pickF (VEv.tmpB Y (dz fhg45_6)) (tv (tB (decide (((((m+1):Nat):Int)<g.Cols)∧((s1[(i+1)]?.getD false)=true)))) Y)) (VRunO.nil ?_)
     exact jq (congrArg T.bool (kOF fhg45_6 Y)) (js Y (js Y (js Y (js Y (js Y (js Y (js Y (js Y (js Y (js Y (js Y (js Y (jn)))))))))))))
   refine mO (tB (decide (((0<m)∧((s1[i - 1]?.getD false)=true))∨(((((m+1):Nat):Int)<g.Cols)∧((s1[(i+1)]?.getD false)=true))))) Y ?_
   refine VRunO.joinB 14 [60,61,62,63,64,65,66,67,68,69,70,71,72] 73 (tB (decide ((((0<m)∧((s1[i - 1]?.getD false)=true))∨(((((m+1):Nat):Int)<g.Cols)∧((s1[(i+1)]?.getD false)=true)))∨((g.Cols≤((i:Nat):Int))∧((s1[i - g.Cols.toNat]?.getD false)=true))))) ?_ ?_
   ·refine gw (((0<m)∧((s1[i - 1]?.getD false)=true))∨(((((m+1):Nat):Int)<g.Cols)∧((s1[(i+1)]?.getD false)=true))) (fun fhg59_9=> ?_) fun fhg59_9=> ?_
    ·refine QD 5 23 false 59 (dy fhg59_9) Y Y Y ?_
     refine QaX 7 28 true 64 Y Y Y (oO Y Y (dy fhg59_9) (fO (OF.pickT (VEv.tmpB Y (dy fhg59_9)) (VEv.bool true)) (VRunO.nil ?_)))
     exact jq (congrArg T.bool (kOT fhg59_9)) (js Y (js Y (js Y (js Y (js Y (js Y (js Y (js Y (js Y (js Y (js Y (js Y (js Y (jn))))))))))))))
    ·refine gF (dz fhg59_9) Y Y (OF.move (tv (tN i) Y)) ?_
     refine Yk (tI g.Cols) (dz fhg59_9) Y Y Y Y ZD Y Y QS (gF (dz fhg59_9) Y Y (xge (tv (tN i) Y) (tv (tI g.Cols) Y)) (gF (dz fhg59_9) Y Y (OF.move (tv (tB (decide (g.Cols≤((i:Nat):Int)))) Y)) ?_))
     refine VRunO.joinB 8 [65,66,67,68,69,70,71] 72 (tB (decide ((g.Cols≤((i:Nat):Int))∧((s1[i - g.Cols.toNat]?.getD false)=true)))) ?_ ?_
     ·refine gw (g.Cols≤((i:Nat):Int)) (fun fhg64_10=> ?_) fun fhg64_10=> ?_
      ·refine gF (dy fhg64_10) Y Y (OF.move (tv (T.os 1 1 0 ((s1.map (Qp true)).length)) Y)) ?_
       refine gF (dy fhg64_10) Y Y (OF.move (tv (tN i) Y)) (Yk (tI g.Cols) (dy fhg64_10) Y Y Y Y ZD Y Y QS (gF (dy fhg64_10) Y Y (B.sub (n:=((i - g.Cols.toNat:Nat):Int)) (tv (tN i) Y) (tv (tI g.Cols) Y) (by (rw [Qs (by omega)];omega))) ?_))
       have hy11:s1[i - g.Cols.toNat]? =some (s1[i - g.Cols.toNat]?.getD false):=Qaz false (by omega)
       refine gF (dy fhg64_10) Y Y (B.indexAddrO (i:=i - g.Cols.toNat) (tv (T.os 1 1 0 ((s1.map (Qp true)).length)) Y) (tv (tN (i - g.Cols.toNat)) Y) Y (by (simp only [List.length_map];omega)) JF sz4 if4) (gL (dy fhg64_10) Y Y (OL.loadP1 (t:=(tB (s1[i - g.Cols.toNat]?.getD false))) (row:=(Qp true (s1[i - g.Cols.toNat]?.getD false))) (tv (T.orp 1 1 (i - g.Cols.toNat) 0) Y) Y (Qu _ hy11) Y Y st4) (gF (dz fhg59_9) Y Y (OF.pickT (VEv.tmpB Y (dy fhg64_10)) (tv (tB (s1[i - g.Cols.toNat]?.getD false)) Y)) (VRunO.nil ?_)))
       exact jq (congrArg T.bool (kAT fhg64_10 (dT _))) (js Y (js Y (js Y (js Y (js Y (js Y (js Y (jn))))))))
      ·refine QD 7 28 true 64 (dz fhg64_10) Y Y Y ?_
       refine gF (dz fhg59_9) Y Y (OF.pickF (VEv.tmpB Y (dz fhg64_10)) (VEv.bool false)) (VRunO.nil ?_)
       exact jq (congrArg T.bool (kAF fhg64_10)) (js Y (js Y (js Y (js Y (js Y (js Y (js Y (jn))))))))
     refine fO (OF.pickF (VEv.tmpB Y (dz fhg59_9)) (tv (tB (decide ((g.Cols≤((i:Nat):Int))∧((s1[i - g.Cols.toNat]?.getD false)=true)))) Y)) (VRunO.nil ?_)
     exact jq (congrArg T.bool (kOF fhg59_9 Y)) (js Y (js Y (js Y (js Y (js Y (js Y (js Y (js Y (js Y (js Y (js Y (js Y (js Y (jn))))))))))))))
   refine mO (tB (decide ((((0<m)∧((s1[i - 1]?.getD false)=true))∨(((((m+1):Nat):Int)<g.Cols)∧((s1[(i+1)]?.getD false)=true)))∨((g.Cols≤((i:Nat):Int))∧((s1[i - g.Cols.toNat]?.getD false)=true))))) Y ?_
   refine VRunO.joinB 17 [75,76,77,78,79,80,81,82,83,84,85,86,87,88,89,90] 91 (tB (decide (((((0<m)∧((s1[i - 1]?.getD false)=true))∨(((((m+1):Nat):Int)<g.Cols)∧((s1[(i+1)]?.getD false)=true)))∨((g.Cols≤((i:Nat):Int))∧((s1[i - g.Cols.toNat]?.getD false)=true)))∨((i+g.Cols.toNat<s1.length)∧((s1[i+g.Cols.toNat]?.getD false)=true))))) ?_ ?_
   ·refine gw ((((0<m)∧((s1[i - 1]?.getD false)=true))∨(((((m+1):Nat):Int)<g.Cols)∧((s1[(i+1)]?.getD false)=true)))∨((g.Cols≤((i:Nat):Int))∧((s1[i - g.Cols.toNat]?.getD false)=true))) (fun fhg74_12=> ?_) fun fhg74_12=> ?_
    ·refine QD 8 38 false 74 (dy fhg74_12) Y Y Y ?_
     refine QaX 7 46 true 82 Y Y Y (oO Y Y (dy fhg74_12) (fO (OF.pickT (VEv.tmpB Y (dy fhg74_12)) (VEv.bool true)) (VRunO.nil ?_)))
     exact jq (congrArg T.bool (kOT fhg74_12)) (js Y (js Y (js Y (js Y (js Y (js Y (js Y (js Y (js Y (js Y (js Y (js Y (js Y (js Y (js Y (js Y (jn)))))))))))))))))
    ·refine gF (dz fhg74_12) Y Y (OF.move (tv (tN i) Y)) ?_
     refine Yk (tI g.Cols) (dz fhg74_12) Y Y Y Y ZD Y Y QS (gF (dz fhg74_12) Y Y (B.add (n:=((i+g.Cols.toNat:Nat):Int)) (tv (tN i) Y) (tv (tI g.Cols) Y) (by (rw [Qs (by omega)];omega))) (gF (dz fhg74_12) Y Y (OF.move (tv (T.os 1 1 0 ((s1.map (Qp true)).length)) Y)) (gL (dz fhg74_12) Y Y (B.lenO (m:=s1.length) (tv (T.os 1 1 0 ((s1.map (Qp true)).length)) Y) JF (List.length_map ..)) (gF (dz fhg74_12) Y Y (Q9 (tv (tN (i+g.Cols.toNat)) Y) (tv (tN s1.length) Y)) (gF (dz fhg74_12) Y Y (OF.move (tv (tB (decide (i+g.Cols.toNat<s1.length))) Y)) ?_)))))
     refine VRunO.joinB 8 [83,84,85,86,87,88,89] 90 (tB (decide ((i+g.Cols.toNat<s1.length)∧((s1[i+g.Cols.toNat]?.getD false)=true)))) ?_ ?_
     ·refine gw (i+g.Cols.toNat<s1.length) (fun fhg82_13=> ?_) fun fhg82_13=> ?_
      ·refine gF (dy fhg82_13) Y Y (OF.move (tv (T.os 1 1 0 ((s1.map (Qp true)).length)) Y)) ?_
       refine gF (dy fhg82_13) Y Y (OF.move (tv (tN i) Y)) (Yk (tI g.Cols) (dy fhg82_13) Y Y Y Y ZD Y Y QS (gF (dy fhg82_13) Y Y (B.add (n:=((i+g.Cols.toNat:Nat):Int)) (tv (tN i) Y) (tv (tI g.Cols) Y) (by (rw [Qs (by omega)];omega))) ?_))
       have hy14:s1[i+g.Cols.toNat]? =some (s1[i+g.Cols.toNat]?.getD false):=Qaz false (by omega)
       refine gF (dy fhg82_13) Y Y (B.indexAddrO (i:=i+g.Cols.toNat) (tv (T.os 1 1 0 ((s1.map (Qp true)).length)) Y) (tv (tN (i+g.Cols.toNat)) Y) Y (by (simp only [List.length_map];omega)) JF sz4 if4) (gL (dy fhg82_13) Y Y (OL.loadP1 (t:=(tB (s1[i+g.Cols.toNat]?.getD false))) (row:=(Qp true (s1[i+g.Cols.toNat]?.getD false))) (tv (T.orp 1 1 (i+g.Cols.toNat) 0) Y) Y (Qu _ hy14) Y Y st4) (gF (dz fhg74_12) Y Y (OF.pickT (VEv.tmpB Y (dy fhg82_13)) (tv (tB (s1[i+g.Cols.toNat]?.getD false)) Y)) (VRunO.nil ?_)))
       exact jq (congrArg T.bool (kAT fhg82_13 (dT _))) (js Y (js Y (js Y (js Y (js Y (js Y (js Y (jn))))))))
      ·refine QD 7 46 true 82 (dz fhg82_13) Y Y Y ?_
       refine gF (dz fhg74_12) Y Y (OF.pickF (VEv.tmpB Y (dz fhg82_13)) (VEv.bool false)) (VRunO.nil ?_)
       exact jq (congrArg T.bool (kAF fhg82_13)) (js Y (js Y (js Y (js Y (js Y (js Y (js Y (jn))))))))
     refine fO (OF.pickF (VEv.tmpB Y (dz fhg74_12)) (tv (tB (decide ((i+g.Cols.toNat<s1.length)∧((s1[i+g.Cols.toNat]?.getD false)=true)))) Y)) (VRunO.nil ?_)
     exact jq (congrArg T.bool (kOF fhg74_12 Y)) (js Y (js Y (js Y (js Y (js Y (js Y (js Y (js Y (js Y (js Y (js Y (js Y (js Y (js Y (js Y (js Y (jn)))))))))))))))))
   refine aO (tB (decide (((((0<m)∧((s1[i - 1]?.getD false)=true))∨(((((m+1):Nat):Int)<g.Cols)∧((s1[(i+1)]?.getD false)=true)))∨((g.Cols≤((i:Nat):Int))∧((s1[i - g.Cols.toNat]?.getD false)=true)))∨((i+g.Cols.toNat<s1.length)∧((s1[i+g.Cols.toNat]?.getD false)=true))))) Y (nt (sr (mO (tB (decide (((((0<m)∧((s1[i - 1]?.getD false)=true))∨(((((m+1):Nat):Int)<g.Cols)∧((s1[(i+1)]?.getD false)=true)))∨((g.Cols≤((i:Nat):Int))∧((s1[i - g.Cols.toNat]?.getD false)=true)))∨((i+g.Cols.toNat<s1.length)∧((s1[i+g.Cols.toNat]?.getD false)=true))))) Y (nt ?_))))
   refine cd (((((0<m)∧((s1[i - 1]?.getD false)=true))∨(((((m+1):Nat):Int)<g.Cols)∧((s1[(i+1)]?.getD false)=true)))∨((g.Cols≤((i:Nat):Int))∧((s1[i - g.Cols.toNat]?.getD false)=true)))∨((i+g.Cols.toNat<s1.length)∧((s1[i+g.Cols.toNat]?.getD false)=true))) Y (fun fhc3=> ?_) fun fhc3=> ?_
   ·rw [hm] at fhc3
    have q1:=QlS (g:=g) (s:=s1) (ag:=ag1) (i:=i) ⟨by omega,on_no.2 (fun h=>fhc2 (.inl (e2.symm.trans h))),(Qiz hB.1 fhc1).1 fhc3⟩
    refine sr (mO (T.os 1 1 0 ((s1.map (Qp true)).length)) Y (mO (tN i) Y (fO (B.indexAddrO (i:=i) (tv (T.os 1 1 0 ((s1.map (Qp true)).length)) Y) (tv (tN i) Y) Y (by (simp only [List.length_map];omega)) JF sz4 if4) (cO (B.storeP (us:= [(tB true)]) (rows':=((s1.set i true).map (Qp true))) (row:=(Qp true x2)) (tv (T.orp 1 1 i 0) Y) (VEv.bool true) nofun Y (Qu _ hx2) Y (lb Y) if4 sz4 (bc Y bn) (by intro r hr t ht;obtain ⟨x,_,rfl⟩:=List.mem_map.1 hr;rw [QhH] at ht;exact ZZ (okBool.pl _ t ht)) (Yc Y)) (nt (VRun.region (fO (OF.assign (VEv.bool true)) (VRunO.nil (vinB.n (tn (VRun.region ?_)))))))))))
    refine mO (tN i) Y (fO (QB (tv (tN i) Y) (VEv.int .i64 1) (by omega)) (aO (tN (i+1)) Y (VRunO.nil (tn ?_))))
    have he15:(s1.set i true)=(Y3 g s1 i):=by exact q1.1
    refine ⟨((i+1,Y3 g s1 i,QcM g ag1 s1 i):Nat×(List Bool)×Bool),?_,?_,Wk.mk (fun k=>k) ?_ ?_ ?_⟩
    ·exact hI'.next fhc1
    ·show (Y3 g s1 i).length - (i+1)<s1.length - i
     have e1:(Y3 g s1 i).length=s1.length:=by unfold Y3;split<;>simp
     rw [e1];omega
    ·exact (bc ⟨(congrArg (fun n_=>T.os 1 1 0 n_) (show (s1.map (Qp true)).length=((Y3 g s1 i).map (Qp true)).length from (by (rw [← q1.1];simp;done)))),rfl⟩ (b2 (b2 (bc ⟨(congrArg T.bool (show true=(QcM g ag1 s1 i) from (by exact q1.2))),rfl⟩ (b2 bn)))))
    ·exact (b3 (bc ⟨(congrArg (fun l_=>some (Obj.rows 1 (List.map (Qp true) l_))) he15),(lb Y),rfl⟩ bn))
    ·exact nd Y
   rw [hm] at fhc3
   have q1:=Qkm (g:=g) (s:=s1) (ag:=ag1) (i:=i) (by rintro ⟨h1,h2,h3⟩;exact fhc3 ((Qiz hB.1 fhc1).2 h3))
   refine sk (vinB.n (tn (VRun.region (mO (tN i) Y (fO (QB (tv (tN i) Y) (VEv.int .i64 1) (by omega)) (aO (tN (i+1)) Y (VRunO.nil (tn ?_))))))))
   have he16:s1=(Y3 g s1 i):=by exact q1.1
   refine ⟨((i+1,Y3 g s1 i,QcM g ag1 s1 i):Nat×(List Bool)×Bool),?_,?_,Wk.mk (fun k=>k) ?_ ?_ ?_⟩
   ·exact hI'.next fhc1
   ·show (Y3 g s1 i).length - (i+1)<s1.length - i
    have e1:(Y3 g s1 i).length=s1.length:=by unfold Y3;split<;>simp
    rw [e1];omega
   ·exact (bc ⟨(congrArg (fun l_=>T.os 1 1 0 (List.map (Qp true) l_).length) he16),rfl⟩ (b2 (b2 (bc ⟨(congrArg T.bool (show ag1=(QcM g ag1 s1 i) from (by exact q1.2))),rfl⟩ (b2 bn)))))
   ·exact (b3 (bc ⟨(congrArg (fun l_=>some (Obj.rows 1 (List.map (Qp true) l_))) he16),(lb Y),rfl⟩ bn))
   ·exact nd Y
  refine VRun.exit (vthn.e (vthn.e (vinB.e (vinB.n (tn ?_)))))
  refine ⟨((ag1,s1):Bool×(List Bool)),?_,?_,Wk.mk (fun k=>k) ?_ ?_ ?_⟩
  ·exact hI'.done fhc1
  ·exact hI'.dec fhc0
  ·exact (b2 (b2 (b2 (b2 bn))))
  ·exact (b3 (b3 bn))
  ·exact nd Y
 have fhc0:ag=false:=hc0
 refine VRun.exit (vthn.e (vthn.e (vinB.e (tn (sr (mO (T.os 1 1 0 ((s.map (Qp true)).length)) Y (aO (T.os 1 1 0 ((s.map (Qp true)).length)) Y (nt (rt ?_)))))))))
 have hnew:s=Zz g (seen.set cell true):=by
  exact hI'.done (by simp [fhc0])
 exact vloan.r 1 (VRes.tmp (t:=(T.os 1 1 0 ((s.map (Qp true)).length))) Y VRes.nil) (congrArg (fun l_=>T.os 1 1 0 (List.map (Qp true) l_).length) hnew) (congrArg (fun n_=>T.os 1 1 0 n_) (show (s.map (Qp true)).length=(seen.map (Qp true)).length from (by (simp only [List.length_map,Qdg,List.length_set];omega)))) Y (congrArg (List.map (Qp true)) hnew)
noncomputable section
def QgH (a b:List Bool):List Bool:=List.zipWith (fun x y=>x || y) a b
def ZX (a b:List Bool) (k:Nat):List Bool:=(QgH a b).take k++a.drop k
theorem Qae {a b:List Bool} (h:b.length=a.length):(QgH a b).length=a.length:=by simp [QgH,h]
theorem Qeh {a b:List Bool} {k:Nat} (h:b.length=a.length) (hk:k≤a.length):(ZX a b k).length=a.length:=by
 unfold ZX
 rw [List.length_append,List.length_take,Qae h,List.length_drop];omega
theorem Qmp {a b:List Bool} {k:Nat} {x:Bool} (h:b.length=a.length) (hk:k<a.length) (hx:(ZX a b k)[k]? =some x):x=on a k:=by
 unfold ZX at hx
 rw [List.getElem?_append_right (by rw [List.length_take,Qae h];omega),List.length_take,Qae h,Nat.min_eq_left (by omega),Nat.sub_self,List.getElem?_drop,Nat.add_zero] at hx
 rw [on,hx];rfl
theorem Qj8 {a b:List Bool} (h:b.length=a.length) (j:Nat):on (QgH a b) j=(on a j || on b j):=by
 unfold on QgH
 rw [List.getElem?_zipWith]
 rcases Nat.lt_or_ge j a.length with h1 | h1
 ·rw [List.getElem?_eq_getElem h1,List.getElem?_eq_getElem (by omega)];rfl
 ·rw [List.getElem?_eq_none h1,List.getElem?_eq_none (by omega)];rfl
theorem Qj2 {a b:List Bool} {k:Nat} {v:Bool} (h:b.length=a.length) (hk:k<a.length) (hv:v=(on a k || on b k)):(ZX a b k).set k v=ZX a b (k+1):=by
 have hl:=Qae h
 have hu:(QgH a b)[k]? =some v:=by
  have h1:=Qj8 h k
  unfold on at h1 hv
  rw [List.getElem?_eq_getElem (by omega)] at h1 ⊢
  rw [hv,← h1];rfl
 unfold ZX
 rw [List.set_append_right _ _ (by rw [List.length_take];omega),List.length_take,hl,Nat.min_eq_left (by omega),Nat.sub_self,List.drop_eq_getElem_cons hk,List.set_cons_zero,List.take_add_one,hu]
 simp
theorem Qj9 {a b:List Bool} {k:Nat} (h:b.length=a.length) (hk:¬k<a.length):ZX a b k=QgH a b:=by
 unfold ZX
 rw [List.take_of_length_le (by rw [Qae h];omega),List.drop_of_length_le (by omega),List.append_nil]
def fresh (g:D.Grid) (i:Nat):List Bool:=Zz g ((List.replicate g.Cells.size false).set i true)
def Qdp (g:D.Grid) (s:List Bool) (i:Nat):Prop:=Qy g.Cells i=46∧on s i=false
instance (g:D.Grid) (s:List Bool) (i:Nat):Decidable (Qdp g s i):=Classical.propDecidable _
def Qq (g:D.Grid):Nat→Nat×List Bool
 | 0=>(0,List.replicate g.Cells.size false)
 | i+1=>if Qdp g (Qq g i).2 i then ((Qq g i).1+1,QgH (Qq g i).2 (fresh g i)) else Qq g i
theorem Qbk (g:D.Grid) (i:Nat):(fresh g i).length=g.Cells.size:=by simp [fresh,Qdg]
theorem Jz (g:D.Grid):∀i,(Qq g i).2.length=g.Cells.size
 | 0=>by simp [Qq]
 | i+1=>by
  have h:=Jz g i
  unfold Qq
  split
  ·simp only;rw [Qae (by rw [Qbk,h])];exact h
  ·exact h
theorem Qey (g:D.Grid):∀i,(Qq g i).1≤i
 | 0=>Nat.le_refl _
 | i+1=>by
  have h:=Qey g i
  unfold Qq
  split
  ·simp only;omega
  ·omega
theorem Qd7 {g:D.Grid} {i:Nat} (h:Qdp g (Qq g i).2 i):(Qq g (i+1)).1=(Qq g i).1+1∧(Qq g (i+1)).2=QgH (Qq g i).2 (fresh g i):=by
 rw [Qq,if_pos h];exact ⟨rfl,rfl⟩
theorem QbX {g:D.Grid} {i:Nat} (h:¬Qdp g (Qq g i).2 i):Qq g (i+1)=Qq g i:=by
 rw [Qq,if_neg h]
def Yg (g:D.Grid):Nat:=if gridOk g then (Qq g g.Cells.size).1 else 0
theorem Qhy {g:D.Grid} {i:Nat} (h1:i≤g.Cells.size) (h2:gridOk g∨i=0) (h3:¬(i<g.Cells.size∧gridOk g)):(Qq g i).1=Yg g:=by
 unfold Yg
 by_cases hg:gridOk g
 ·rw [if_pos hg,show i=g.Cells.size by have:¬i<g.Cells.size:=fun h=>h3 ⟨h,hg⟩;omega]
 ·rw [if_neg hg,h2.resolve_left hg];rfl
theorem orB (x y:Bool):decide (x=true∨y=true)=(x || y):=by cases x<;>cases y<;>rfl
end
theorem Qgb (n:Nat) (g:D.Grid) (hc:g.Cells.size≤mx):Pure (Qo Tryz.prog (n+3)) 138 [(T.agg (Qc false g))] (tN (Yg g)):=by
 refine Pure.intro (rs:= [ResultVar.tmp 2]) Tryz.func138 Y Y Y (E0:= [(0,(T.agg (Qc false g)))]) Y ?_
 obtain ⟨hlim,hmx,hmax⟩:=Qz
 refine sr (kO (B.box (ts:=(Qc false g)) (tv (T.agg (Qc false g)) Y) nofun Y) (fO (OF.assign (VEv.int .i64 0)) (nt (sr (fO (OF.assign (VEv.int .i64 0)) (nt (sr (kO (OM.slice0 JF zo4 (by kernel_rfl) Y (by rw [sz4];decide) sz4) (aO (T.os 1 1 0 0) Y (nt (sq ?_)))))))))))
 refine sr (fO (OF.assign (VEv.int .i64 0)) (nt (VRun.block ?_)))
 have he1: []=((List.replicate 0 false).map (Qp true)):=by rfl
 refine VRun.loop (A:=Nat) (fun s_=> [(1,(T.op 0 0)),(2,(tN 0)),(3,(tN 0)),(4,(T.os 1 1 0 (((List.replicate s_ false).map (Qp true)).length))),(5,(tN s_))]) (fun s_=>QV [(0,(Obj.cells (Qc false g))),(1,(Obj.rows 1 ((List.replicate s_ false).map (Qp true))))]) 2 (fun s_=>s_≤g.Cells.size) (fun s_=>g.Cells.size - s_) (0:Nat) ?_ (Wk.mk (fun k=>k) ?_ ?_ ?_) ?_
 ·(simp;done)
 ·exact (b2 (b2 (b2 (bc ⟨(congrArg (fun n_=>T.os 1 1 0 n_) (show 0=((List.replicate 0 false).map (Qp true)).length from (by rfl))),rfl⟩ (b2 bn)))))
 ·exact (b3 (bc ⟨(congrArg (fun l_=>some (Obj.rows 1 l_)) he1),(lb Y),rfl⟩ bn))
 ·exact nd Y
 rintro k (hI':k≤g.Cells.size)
 show VRun _ _ _ [(1,(T.op 0 0)),(2,(tN 0)),(3,(tN 0)),(4,(T.os 1 1 0 (((List.replicate k false).map (Qp true)).length))),(5,(tN k))] (QV [(0,(Obj.cells (Qc false g))),(1,(Obj.rows 1 ((List.replicate k false).map (Qp true))))]) 2 _
 have hK1:=hI'
 refine sq (sr (mO (tN k) Y (lf (tS g.Cells) Y QL Y Y ZG (lO (B.lenS (tv (tS g.Cells) Y) U9) (fO (Q9 (tv (tN k) Y) (tv (tN g.Cells.size) Y)) (nt ?_))))))
 refine cd (k<g.Cells.size) Y (fun fhc0=> ?_) fun fhc0=> ?_
 ·refine sk ?_
  refine tn (sq (VRun.block (VRun.region (mO (T.os 1 1 0 (((List.replicate k false).map (Qp true)).length)) Y (kO (OM.buildSlice (l:= [(tB false)]) (VEvp.cons (VEv.bool false) VEvp.nil) Y (by decide) (bc (nofun) bn) (bc ((bc (Y) bn)) bn) (bc (Y) bn) JF zo4 (by kernel_rfl) Y (by rw [sz4];decide) sz4 (Nat.le_of_ble_eq_true Y)) (cO (B.append (rows:=((List.replicate k false).map (Qp true))) (rows2:= [[(tB false)]]) (rows3:=((List.replicate k false++ [false]).map (Qp true))) (VDst.own (tv (T.os 1 1 0 (((List.replicate k false).map (Qp true)).length)) Y) Y Y) (VSrc.own (tv (T.os 1 2 0 1) Y) Y Y JF (bc (bc Y bn) bn)) (by decide) JF sz4 (by decide) zo4 Y (of_decide_eq_true (by kernel_rfl)) (by (simp only [List.length_map,List.length_append,List.length_cons,List.length_nil,List.length_replicate,List.length_set,List.length_drop,List.length_take,Zk] at *;omega)) ((List.map_append (f:=Qp true) (l₁:=List.replicate k false) (l₂:= [false])).symm)) (aO (T.os 1 3 0 (((List.replicate k false++ [false]).map (Qp true)).length)) Y (VRunO.nil (vinB.n (tn (VRun.region ?_)))))))))))
  refine mO (tN k) Y (fO (QB (tv (tN k) Y) (VEv.int .i64 1) (by omega)) (aO (tN (k+1)) Y (VRunO.nil (tn ?_))))
  have he2:(List.replicate k false++ [false])=List.replicate (k+1) false:=by rw [List.replicate_succ']
  refine ⟨(k+1:Nat),?_,?_,Wk.mk (fun k=>if k=1 then 3 else k) ?_ ?_ ?_⟩
  ·trivial
  ·omega
  ·exact (b2 (b2 (b2 (bc ⟨(congrArg (fun l_=>T.os 1 3 0 (List.map (Qp true) l_).length) he2),rfl⟩ (b2 bn)))))
  ·exact (b3 (bc ⟨(congrArg (fun l_=>some (Obj.rows 1 (List.map (Qp true) l_))) he2),(lb Y),rfl⟩ bn))
  ·exact nd Y
 refine VRun.exit (vthn.e (vthn.e (vinB.e (tn (sq (sr (fO (OF.assign (VEv.int .i64 0)) (nt (VRun.block ?_)))))))))
 have he3:List.replicate k false=(Qq g 0).2:=by (show List.replicate k false=List.replicate g.Cells.size false;rw [show k=g.Cells.size by omega])
 refine VRun.loop (A:=Nat) (fun s_=> [(1,(T.op 0 0)),(2,(tN 0)),(3,(tN ((Qq g s_).1))),(4,(T.os 1 1 0 ((((Qq g s_).2).map (Qp true)).length))),(6,(tN s_))]) (fun s_=>QV [(0,(Obj.cells (Qc false g))),(1,(Obj.rows 1 (((Qq g s_).2).map (Qp true))))]) 2 (fun s_=>s_≤g.Cells.size∧(gridOk g∨s_=0)) (fun s_=>g.Cells.size - s_) (0:Nat) ?_ (Wk.mk (fun k=>k) ?_ ?_ ?_) ?_
 ·exact ⟨Nat.zero_le _, .inr Y⟩
 ·exact (b2 (b2 (bc ⟨(congrArg (T.int .i64) (show 0=(((Qq g 0).1:Nat):Int) from (by rfl))),rfl⟩ (bc ⟨(congrArg (fun l_=>T.os 1 1 0 (List.map (Qp true) l_).length) he3),rfl⟩ (b2 bn)))))
 ·exact (b3 (bc ⟨(congrArg (fun l_=>some (Obj.rows 1 (List.map (Qp true) l_))) he3),(lb Y),rfl⟩ bn))
 ·exact nd Y
 rintro i (hI':i≤g.Cells.size∧(gridOk g∨i=0))
 show VRun _ _ _ [(1,(T.op 0 0)),(2,(tN 0)),(3,(tN ((Qq g i).1))),(4,(T.os 1 1 0 ((((Qq g i).2).map (Qp true)).length))),(6,(tN i))] (QV [(0,(Obj.cells (Qc false g))),(1,(Obj.rows 1 (((Qq g i).2).map (Qp true))))]) 2 _
 have hI1:=hI'.1
 have hpl:=Jz g i
 have hpn:=Qey g i
 refine sq (sr (mO (tN i) Y (lf (tS g.Cells) Y QL Y Y ZG (lO (B.lenS (tv (tS g.Cells) Y) U9) (fO (Q9 (tv (tN i) Y) (tv (tN g.Cells.size) Y)) (mO (tB (decide (i<g.Cells.size))) Y ?_))))))
 refine VRunO.joinB 3 [27,28] 29 (tB (decide ((i<g.Cells.size)∧(gridOk g)))) ?_ ?_
 ·refine gw (i<g.Cells.size) (fun fhg26_4=> ?_) fun fhg26_4=> ?_
  ·refine gL (dy fhg26_4) Y Y (OL.loadOn (us:=(Qc false g)) (tv (T.op 0 0) Y) Y Q6 Q0 (lb Y) Y) ?_
   refine VRunO.chain (VWant.on Y Y (dy fhg26_4)) (cS (vc (tv (T.agg (Qc false g)) Y) vn) (LendL.cons (lg Qx) ln) (Z7 (n+0) g (by omega)) Y Y) (fO (OF.pickT (VEv.tmpB Y (dy fhg26_4)) (tv (tB (decide (gridOk g))) Y)) (VRunO.nil ?_))
   exact jq (congrArg T.bool (kAT fhg26_4 Y)) (js Y (js Y (jn)))
  ·refine QD 2 5 true 26 (dz fhg26_4) Y Y Y ?_
   refine fO (OF.pickF (VEv.tmpB Y (dz fhg26_4)) (VEv.bool false)) (VRunO.nil ?_)
   exact jq (congrArg T.bool (kAF fhg26_4)) (js Y (js Y (jn)))
 refine nt ?_
 refine cd ((i<g.Cells.size)∧(gridOk g)) Y (fun fhc1=> ?_) fun fhc1=> ?_
 ·refine sk ?_
  refine tn (sq (VRun.block (sr (lf (tS g.Cells) Y QL Y Y ZG (mO (tN i) Y ?_)))))
  have hb5:i<g.Cells.size:=(by omega)
  refine fO (xix (tv (tS g.Cells) Y) (tv (tN i) Y) hb5 U9) (fO (Yn (tv (T.int .u8 (Qy g.Cells i)) Y) (VEv.int .u8 46)) (mO (tB (decide (Qy g.Cells i=46))) Y ?_))
  refine VRunO.joinB 6 [38,39,40,41,42] 43 (tB (decide ((Qy g.Cells i=46)∧((!(((Qq g i).2)[i]?.getD false))=true)))) ?_ ?_
  ·refine gw (Qy g.Cells i=46) (fun fhg37_6=> ?_) fun fhg37_6=> ?_
   ·refine gF (dy fhg37_6) Y Y (OF.move (tv (T.os 1 1 0 ((((Qq g i).2).map (Qp true)).length)) Y)) ?_
    refine gF (dy fhg37_6) Y Y (OF.move (tv (tN i) Y)) ?_
    have hy7:((Qq g i).2)[i]? =some (((Qq g i).2)[i]?.getD false):=Qaz false (by omega)
    refine gF (dy fhg37_6) Y Y (B.indexAddrO (i:=i) (tv (T.os 1 1 0 ((((Qq g i).2).map (Qp true)).length)) Y) (tv (tN i) Y) Y (by (simp only [List.length_map];omega)) JF sz4 if4) (gL (dy fhg37_6) Y Y (OL.loadP1 (t:=(tB (((Qq g i).2)[i]?.getD false))) (row:=(Qp true (((Qq g i).2)[i]?.getD false))) (tv (T.orp 1 1 i 0) Y) Y (Qu _ hy7) Y Y st4) (gF (dy fhg37_6) Y Y (QU (tv (tB (((Qq g i).2)[i]?.getD false)) Y)) (fO (OF.pickT (VEv.tmpB Y (dy fhg37_6)) (tv (tB (!(((Qq g i).2)[i]?.getD false))) Y)) (VRunO.nil ?_))))
    exact jq (congrArg T.bool (kAT fhg37_6 (dT _))) (js Y (js Y (js Y (js Y (js Y (jn))))))
   ·refine QD 5 5 true 37 (dz fhg37_6) Y Y Y ?_
    refine fO (OF.pickF (VEv.tmpB Y (dz fhg37_6)) (VEv.bool false)) (VRunO.nil ?_)
    exact jq (congrArg T.bool (kAF fhg37_6)) (js Y (js Y (js Y (js Y (js Y (jn))))))
  refine nt ?_
  refine cd ((Qy g.Cells i=46)∧((!(((Qq g i).2)[i]?.getD false))=true)) Y (fun fhc2=> ?_) fun fhc2=> ?_
  ·have q0:Qdp g (Qq g i).2 i:=⟨fhc2.1,by simpa [on] using fhc2.2⟩
   have q1:=Qd7 q0
   have hgs:=fhc1.2.size
   refine sr (mO (tN ((Qq g i).1)) Y (fO (QB (tv (tN ((Qq g i).1)) Y) (VEv.int .i64 1) (by omega)) (aO (tN ((Qq g i).1+1)) Y (nt (sr (kO (OM.slice0 JF zo4 (by kernel_rfl) Y (by rw [sz4];decide) sz4) (aO (T.os 1 2 0 0) Y (nt (sq (sr (fO (OF.assign (VEv.int .i64 0)) ?_)))))))))))
   refine nt (VRun.block ?_)
   have he8: []=((List.replicate 0 false).map (Qp true)):=by rfl
   refine VRun.loop (A:=Nat) (fun s_=> [(1,(T.op 0 0)),(2,(tN 0)),(3,(tN ((Qq g i).1+1))),(4,(T.os 1 1 0 ((((Qq g i).2).map (Qp true)).length))),(6,(tN i)),(7,(T.os 1 2 0 (((List.replicate s_ false).map (Qp true)).length))),(8,(tN s_))]) (fun s_=>QV [(0,(Obj.cells (Qc false g))),(1,(Obj.rows 1 (((Qq g i).2).map (Qp true)))),(2,(Obj.rows 1 ((List.replicate s_ false).map (Qp true))))]) 3 (fun s_=>s_≤(Qq g i).2.length) (fun s_=>(Qq g i).2.length - s_) (0:Nat) ?_ (Wk.mk (fun k=>k) ?_ ?_ ?_) ?_
   ·(simp;done)
   ·exact (b2 (b2 (b2 (b2 (b2 (bc ⟨(congrArg (fun n_=>T.os 1 2 0 n_) (show 0=((List.replicate 0 false).map (Qp true)).length from (by rfl))),rfl⟩ (b2 bn)))))))
   ·exact (b3 (b3 (bc ⟨(congrArg (fun l_=>some (Obj.rows 1 l_)) he8),(lb Y),rfl⟩ bn)))
   ·exact nd Y
   rintro k1 (hI':k1≤(Qq g i).2.length)
   show VRun _ _ _ [(1,(T.op 0 0)),(2,(tN 0)),(3,(tN ((Qq g i).1+1))),(4,(T.os 1 1 0 ((((Qq g i).2).map (Qp true)).length))),(6,(tN i)),(7,(T.os 1 2 0 (((List.replicate k1 false).map (Qp true)).length))),(8,(tN k1))] (QV [(0,(Obj.cells (Qc false g))),(1,(Obj.rows 1 (((Qq g i).2).map (Qp true)))),(2,(Obj.rows 1 ((List.replicate k1 false).map (Qp true))))]) 3 _
   have hK1:=hI'
   refine sq (sr (mO (tN k1) Y (mO (T.os 1 1 0 ((((Qq g i).2).map (Qp true)).length)) Y (lO (B.lenO (m:=((Qq g i).2).length) (tv (T.os 1 1 0 ((((Qq g i).2).map (Qp true)).length)) Y) JF (List.length_map ..)) (fO (Q9 (tv (tN k1) Y) (tv (tN (((Qq g i).2).length)) Y)) (nt ?_))))))
   refine cd (k1<((Qq g i).2).length) Y (fun fhc3=> ?_) fun fhc3=> ?_
   ·refine sk ?_
    refine tn (sq (VRun.block (VRun.region (mO (T.os 1 2 0 (((List.replicate k1 false).map (Qp true)).length)) Y (kO (OM.buildSlice (l:= [(tB false)]) (VEvp.cons (VEv.bool false) VEvp.nil) Y (by decide) (bc (nofun) bn) (bc ((bc (Y) bn)) bn) (bc (Y) bn) JF zo4 (by kernel_rfl) Y (by rw [sz4];decide) sz4 (Nat.le_of_ble_eq_true Y)) (cO (B.append (rows:=((List.replicate k1 false).map (Qp true))) (rows2:= [[(tB false)]]) (rows3:=((List.replicate k1 false++ [false]).map (Qp true))) (VDst.own (tv (T.os 1 2 0 (((List.replicate k1 false).map (Qp true)).length)) Y) Y Y) (VSrc.own (tv (T.os 1 3 0 1) Y) Y Y JF (bc (bc Y bn) bn)) (by decide) JF sz4 (by decide) zo4 Y (of_decide_eq_true (by kernel_rfl)) (by (simp only [List.length_map,List.length_append,List.length_cons,List.length_nil,List.length_replicate,List.length_set,List.length_drop,List.length_take,Zk] at *;omega)) ((List.map_append (f:=Qp true) (l₁:=List.replicate k1 false) (l₂:= [false])).symm)) (aO (T.os 1 4 0 (((List.replicate k1 false++ [false]).map (Qp true)).length)) Y (VRunO.nil (vinB.n (tn (VRun.region ?_)))))))))))
    refine mO (tN k1) Y (fO (QB (tv (tN k1) Y) (VEv.int .i64 1) (by omega)) (aO (tN (k1+1)) Y (VRunO.nil (tn ?_))))
    have he9:(List.replicate k1 false++ [false])=List.replicate (k1+1) false:=by rw [List.replicate_succ']
    refine ⟨(k1+1:Nat),?_,?_,Wk.mk (fun k=>if k=2 then 4 else k) ?_ ?_ ?_⟩
    ·trivial
    ·omega
    ·exact (b2 (b2 (b2 (b2 (b2 (bc ⟨(congrArg (fun l_=>T.os 1 4 0 (List.map (Qp true) l_).length) he9),rfl⟩ (b2 bn)))))))
    ·exact (b3 (b3 (bc ⟨(congrArg (fun l_=>some (Obj.rows 1 (List.map (Qp true) l_))) he9),(lb Y),rfl⟩ bn)))
    ·exact nd Y
   have hk6:k1=g.Cells.size:=by omega
   have hq4:(fresh g i).length=(Qq g i).2.length:=by rw [Qbk,hpl]
   have hfr:Zz g ((List.replicate k1 false).set i true)=fresh g i:=by rw [fresh,hk6]
   have hrl:(Zz g ((List.replicate k1 false).set i true)).length=g.Cells.size:=by rw [hfr,Qbk]
   refine VRun.exit (vthn.e (vthn.e (vinB.e (tn (sr (lO (OL.loadOn (us:=(Qc false g)) (tv (T.op 0 0) Y) Y Q6 Q0 (lb Y) Y) (mO (T.os 1 2 0 (((List.replicate k1 false).map (Qp true)).length)) Y (mO (tN i) Y (cO (OC.callLoan (ts:= [(T.agg (Qc false g)),(T.os 1 0 0 (((List.replicate k1 false).map (Qp true)).length)),(tN i)]) (k:=2) (r:=(T.os 1 0 0 (((Zz g ((List.replicate k1 false).set i true)).map (Qp true)).length))) (rows:=((List.replicate k1 false).map (Qp true))) (rows':=((Zz g ((List.replicate k1 false).set i true)).map (Qp true))) Y (vc (tv (T.agg (Qc false g)) Y) (vc (tv (T.os 1 2 0 (((List.replicate k1 false).map (Qp true)).length)) Y) (vc (tv (tN i) Y) vn))) Y Y Y (LRes.os _ _) Y (ZS (fun _=>rfl) _) (ZS (fun _=>rfl) _) (Qe6 (n+1) g (List.replicate k1 false) i (by exact fhc1.2) (by (simp only [List.length_replicate];omega)) (by (simp only [List.length_replicate];omega)))) (aO (T.os 1 2 0 (((Zz g ((List.replicate k1 false).set i true)).map (Qp true)).length)) Y (nt ?_)))))))))))
   refine sr (fO (OF.assign (VEv.int .i64 0)) (nt (VRun.block ?_)))
   have he10:(Qq g i).2=ZX (Qq g i).2 (fresh g i) 0:=by rfl
   refine VRun.loop (A:=Nat) (fun s_=> [(1,(T.op 0 0)),(2,(tN 0)),(3,(tN ((Qq g i).1+1))),(4,(T.os 1 2 0 (((ZX (Qq g i).2 (fresh g i) s_).map (Qp true)).length))),(6,(tN i)),(7,(T.os 1 1 0 (((Zz g ((List.replicate k1 false).set i true)).map (Qp true)).length))),(9,(tN s_))]) (fun s_=>QV [(0,(Obj.cells (Qc false g))),(1,(Obj.rows 1 ((Zz g ((List.replicate k1 false).set i true)).map (Qp true)))),(2,(Obj.rows 1 ((ZX (Qq g i).2 (fresh g i) s_).map (Qp true))))]) 3 (fun s_=>s_≤(Qq g i).2.length) (fun s_=>(Qq g i).2.length - s_) (0:Nat) ?_ (Wk.mk (fun k=>if k=1 then 2 else if k=2 then 1 else k) ?_ ?_ ?_) ?_
   ·(simp;done)
   ·exact (b2 (b2 (b2 (bc ⟨(congrArg (fun l_=>T.os 1 1 0 (List.map (Qp true) l_).length) he10),rfl⟩ (b2 (b2 (b2 bn)))))))
   ·exact (b3 (b3 (bc ⟨(congrArg (fun l_=>some (Obj.rows 1 (List.map (Qp true) l_))) he10),(lb Y),rfl⟩ bn)))
   ·exact nd Y
   rintro j (hI':j≤(Qq g i).2.length)
   show VRun _ _ _ [(1,(T.op 0 0)),(2,(tN 0)),(3,(tN ((Qq g i).1+1))),(4,(T.os 1 2 0 (((ZX (Qq g i).2 (fresh g i) j).map (Qp true)).length))),(6,(tN i)),(7,(T.os 1 1 0 (((Zz g ((List.replicate k1 false).set i true)).map (Qp true)).length))),(9,(tN j))] (QV [(0,(Obj.cells (Qc false g))),(1,(Obj.rows 1 ((Zz g ((List.replicate k1 false).set i true)).map (Qp true)))),(2,(Obj.rows 1 ((ZX (Qq g i).2 (fresh g i) j).map (Qp true))))]) 3 _
   have hJ1:=hI'
   have hzl:=Qeh hq4 hJ1
   refine sq (sr (mO (tN j) Y (mO (T.os 1 2 0 (((ZX (Qq g i).2 (fresh g i) j).map (Qp true)).length)) Y (lO (B.lenO (m:=(ZX (Qq g i).2 (fresh g i) j).length) (tv (T.os 1 2 0 (((ZX (Qq g i).2 (fresh g i) j).map (Qp true)).length)) Y) JF (List.length_map ..)) (fO (Q9 (tv (tN j) Y) (tv (tN ((ZX (Qq g i).2 (fresh g i) j).length)) Y)) (nt ?_))))))
   refine cd (j<(ZX (Qq g i).2 (fresh g i) j).length) Y (fun fhc4=> ?_) fun fhc4=> ?_
   ·refine sk ?_
    refine tn (sq (VRun.block (VRun.region (mO (T.os 1 2 0 (((ZX (Qq g i).2 (fresh g i) j).map (Qp true)).length)) Y (mO (tN j) Y (mO (T.os 1 2 0 (((ZX (Qq g i).2 (fresh g i) j).map (Qp true)).length)) Y (mO (tN j) Y ?_)))))))
    obtain ⟨x1,hx1⟩:∃x,(ZX (Qq g i).2 (fresh g i) j)[j]? =some x:=⟨_,List.getElem?_eq_getElem (by omega)⟩
    have e3:x1=on (Qq g i).2 j:=Qmp hq4 (by omega) hx1
    refine fO (B.indexAddrO (i:=j) (tv (T.os 1 2 0 (((ZX (Qq g i).2 (fresh g i) j).map (Qp true)).length)) Y) (tv (tN j) Y) Y (by (simp only [List.length_map];omega)) JF sz4 if4) (lO (OL.loadP1 (t:=(tB x1)) (row:=(Qp true x1)) (tv (T.orp 1 2 j 0) Y) Y (Qu _ hx1) Y Y st4) (mO (tB x1) Y ?_))
    refine VRunO.joinB 5 [73,74,75,76] 77 (tB (decide ((x1=true)∨(((Zz g ((List.replicate k1 false).set i true))[j]?.getD false)=true)))) ?_ ?_
    ·refine Qdu x1 (fun hg72_11=> ?_) (fun hg72_11=> ?_)
     ·have fhg72_11:x1=true:=hg72_11
      refine QD 4 6 false 72 hg72_11 Y Y Y (fO (OF.pickT (VEv.tmpB Y hg72_11) (VEv.bool true)) (VRunO.nil ?_))
      exact jq (congrArg T.bool (jOT (dT _) hg72_11)) (js Y (js Y (js Y (js Y (jn)))))
     ·have fhg72_11:x1=false:=hg72_11
      refine gF hg72_11 Y Y (OF.move (tv (T.os 1 1 0 (((Zz g ((List.replicate k1 false).set i true)).map (Qp true)).length)) Y)) (gF hg72_11 Y Y (OF.move (tv (tN j) Y)) ?_)
      have hy12:(Zz g ((List.replicate k1 false).set i true))[j]? =some ((Zz g ((List.replicate k1 false).set i true))[j]?.getD false):=Qaz false (by omega)
      refine gF hg72_11 Y Y (B.indexAddrO (i:=j) (tv (T.os 1 1 0 (((Zz g ((List.replicate k1 false).set i true)).map (Qp true)).length)) Y) (tv (tN j) Y) Y (by (simp only [List.length_map];omega)) JF sz4 if4) (gL hg72_11 Y Y (OL.loadP1 (t:=(tB ((Zz g ((List.replicate k1 false).set i true))[j]?.getD false))) (row:=(Qp true ((Zz g ((List.replicate k1 false).set i true))[j]?.getD false))) (tv (T.orp 1 1 j 0) Y) Y (Qu _ hy12) Y Y st4) (fO (OF.pickF (VEv.tmpB Y hg72_11) (tv (tB ((Zz g ((List.replicate k1 false).set i true))[j]?.getD false)) Y)) (VRunO.nil ?_)))
      exact jq (congrArg T.bool (jOF (dT _) hg72_11 (dT _))) (js Y (js Y (js Y (js Y (jn)))))
    refine fO (B.indexAddrO (i:=j) (tv (T.os 1 2 0 (((ZX (Qq g i).2 (fresh g i) j).map (Qp true)).length)) Y) (tv (tN j) Y) Y (by (simp only [List.length_map];omega)) JF sz4 if4) (cO (B.storeP (us:= [(tB (decide ((x1=true)∨(((Zz g ((List.replicate k1 false).set i true))[j]?.getD false)=true))))]) (rows':=(((ZX (Qq g i).2 (fresh g i) j).set j (decide ((x1=true)∨(((Zz g ((List.replicate k1 false).set i true))[j]?.getD false)=true)))).map (Qp true))) (row:=(Qp true x1)) (tv (T.orp 1 2 j 0) Y) (tv (tB (decide ((x1=true)∨(((Zz g ((List.replicate k1 false).set i true))[j]?.getD false)=true)))) Y) nofun Y (Qu _ hx1) Y (lb Y) if4 sz4 (bc Y bn) (by intro r hr t ht;obtain ⟨x,_,rfl⟩:=List.mem_map.1 hr;rw [QhH] at ht;exact ZZ (okBool.pl _ t ht)) (Yc Y)) (VRunO.nil (vinB.n (tn (VRun.region (mO (tN j) Y (fO (QB (tv (tN j) Y) (VEv.int .i64 1) (by omega)) (aO (tN (j+1)) Y (VRunO.nil (tn ?_))))))))))
    have he13:((ZX (Qq g i).2 (fresh g i) j).set j (decide ((x1=true)∨(((Zz g ((List.replicate k1 false).set i true))[j]?.getD false)=true))))=ZX (Qq g i).2 (fresh g i) (j+1):=by (refine Qj2 hq4 (by omega) ?_;rw [e3,hfr];exact orB _ _)
    refine ⟨(j+1:Nat),?_,?_,Wk.mk (fun k=>k) ?_ ?_ ?_⟩
    ·omega
    ·omega
    ·exact (b2 (b2 (b2 (bc ⟨(congrArg (fun n_=>T.os 1 2 0 n_) (show ((ZX (Qq g i).2 (fresh g i) j).map (Qp true)).length=((ZX (Qq g i).2 (fresh g i) (j+1)).map (Qp true)).length from (by (simp only [List.length_map,List.length_set];rw [Qeh hq4 hJ1,Qeh hq4 (by omega)])))),rfl⟩ (b2 (b2 (b2 bn)))))))
    ·exact (b3 (b3 (bc ⟨(congrArg (fun l_=>some (Obj.rows 1 (List.map (Qp true) l_))) he13),(lb Y),rfl⟩ bn)))
    ·exact nd Y
   have hq5:¬j<(Qq g i).2.length:=by omega
   refine VRun.exit (vthn.e (vthn.e (vinB.e (vinB.n (tn (VRun.region (mO (tN i) Y (fO (QB (tv (tN i) Y) (VEv.int .i64 1) (by omega)) (aO (tN (i+1)) Y (VRunO.nil (tn ?_)))))))))))
   have he14:ZX (Qq g i).2 (fresh g i) j=(Qq g (i+1)).2:=by (rw [q1.2];exact Qj9 hq4 hq5)
   refine ⟨(i+1:Nat),?_,?_,Wk.mk (fun k=>if k=1 then 2 else k) ?_ ?_ ?_⟩
   ·exact ⟨by omega, .inl fhc1.2⟩
   ·omega
   ·exact (b2 (b2 (bc ⟨(congrArg (T.int .i64) (show ((((Qq g i).1+1):Nat):Int)=(((Qq g (i+1)).1:Nat):Int) from (by omega))),rfl⟩ (bc ⟨(congrArg (fun l_=>T.os 1 2 0 (List.map (Qp true) l_).length) he14),rfl⟩ (b2 bn)))))
   ·exact (b3 (bc ⟨(congrArg (fun l_=>some (Obj.rows 1 (List.map (Qp true) l_))) he14),(lb Y),rfl⟩ bn))
   ·exact nd Y
  have q0:¬Qdp g (Qq g i).2 i:=fun h=>fhc2 ⟨h.1,by have:=h.2;unfold on at this;rw [this];rfl⟩
  refine sk (vinB.n (tn (VRun.region (mO (tN i) Y (fO (QB (tv (tN i) Y) (VEv.int .i64 1) (by omega)) (aO (tN (i+1)) Y (VRunO.nil (tn ?_))))))))
  have he15:(Qq g i).2=(Qq g (i+1)).2:=by (rw [QbX q0];done)
  refine ⟨(i+1:Nat),?_,?_,Wk.mk (fun k=>k) ?_ ?_ ?_⟩
  ·exact ⟨by omega, .inl fhc1.2⟩
  ·omega
  ·exact (b2 (b2 (bc ⟨(congrArg (T.int .i64) (show (((Qq g i).1:Nat):Int)=(((Qq g (i+1)).1:Nat):Int) from (by (rw [QbX q0];done)))),rfl⟩ (bc ⟨(congrArg (fun l_=>T.os 1 1 0 (List.map (Qp true) l_).length) he15),rfl⟩ (b2 bn)))))
  ·exact (b3 (bc ⟨(congrArg (fun l_=>some (Obj.rows 1 (List.map (Qp true) l_))) he15),(lb Y),rfl⟩ bn))
  ·exact nd Y
 refine VRun.exit (vthn.e (vthn.e (vinB.e (tn (sr (mO (tN ((Qq g i).1)) Y (aO (tN ((Qq g i).1)) Y (nt (rt (vi (n':=(((Qq g i).1:Nat):Int)) Y ?_))))))))))
 exact congrArg (fun x:Nat=>(x:Int)) (Qhy hI1 hI'.2 fhc1)
noncomputable section
def inG (g:D.Grid) (r c:Int):Prop:=(0≤r∧r<g.Rows)∧(0≤c∧c<g.Cols)
def ZY (g:D.Grid) (r c:Int):Nat:=Int.toNat (r*g.Cols+c)
def Qm4 (g:D.Grid) (m:List Bool) (r c:Int):Prop:=inG g r c∧Qy g.Cells (ZY g r c)=46∧on m (ZY g r c)=false
instance (g:D.Grid) (m:List Bool) (r c:Int):Decidable (Qm4 g m r c):=Classical.propDecidable _
def Jh : Nat→D.Grid→List Bool→Int→Int→List Bool
 | 0,_,m,_,_=>m
 | d+1,g,m,r,c=>if Qm4 g m r c then Jh d g (Jh d g (Jh d g (Jh d g (m.set (ZY g r c) true) (r - 1) c) (r+1) c) r (c - 1)) r (c+1) else m
theorem QdA {g:D.Grid} {r c:Int} (hg:gridOk g) (h1:0≤r∧r<g.Rows) (h2:0≤c∧c<g.Cols):(0≤r*g.Cols∧r*g.Cols≤36)∧0≤r*g.Cols+c∧r*g.Cols+c<((g.Cells.size:Nat):Int):=by
 have hs:=hg.2.2.1
 have hz:=hg.size
 have e1:0≤r*g.Cols:=Int.mul_nonneg h1.1 (by omega)
 have e2:(r+1)*g.Cols≤g.Rows*g.Cols:=Int.mul_le_mul_of_nonneg_right (by omega) (by omega)
 rw [Int.add_mul,Int.one_mul] at e2
 omega
theorem Y1 {g:D.Grid} (hg:gridOk g) (a b:Nat):ZY g ((a:Nat):Int) ((b:Nat):Int)=a*wG g+b:=by
 obtain ⟨w,hw⟩:=Int.eq_ofNat_of_zero_le (show 0≤g.Cols by have:=hg.2.1;omega)
 unfold ZY wG
 rw [hw]
 show Int.toNat (((a:Nat):Int)*((w:Nat):Int)+((b:Nat):Int))=a*w+b
 rw [← Int.natCast_mul,← Int.natCast_add,Int.toNat_natCast]
theorem QmD {g:D.Grid} (hg:gridOk g):g.Cells.size=g.Rows.toNat*wG g:=by
 obtain ⟨⟨a1,a2⟩,⟨b1,b2⟩,hs,_⟩:=hg
 obtain ⟨w,hw⟩:=Int.eq_ofNat_of_zero_le (show 0≤g.Cols by omega)
 obtain ⟨r,hr⟩:=Int.eq_ofNat_of_zero_le (show 0≤g.Rows by omega)
 unfold wG
 rw [hw,hr] at hs ⊢
 exact_mod_cast hs
theorem QhF {g:D.Grid} {r c:Int} (hg:gridOk g) (h:inG g r c):∃a b:Nat,r=a∧c=b∧a<g.Rows.toNat∧b<wG g:=by
 obtain ⟨⟨h1,h2⟩,h3,h4⟩:=h
 exact ⟨r.toNat,c.toNat,by omega,by omega,by omega,by unfold wG;omega⟩
theorem Qn4 {g:D.Grid} {r c r' c':Int} (hg:gridOk g) (h:inG g r c) (h':inG g r' c') (hn:(r'=r∧(c'=c+1∨c'=c - 1))∨(c'=c∧(r'=r+1∨r'=r - 1))):adj g (ZY g r c) (ZY g r' c'):=by
 obtain ⟨a,b,rfl,rfl,ha,hb⟩:=QhF hg h
 obtain ⟨a',b',rfl,rfl,ha',hb'⟩:=QhF hg h'
 rw [Y1 hg,Y1 hg]
 have hm:(a*wG g+b) % wG g=b:=by rw [Nat.mul_comm,Nat.mul_add_mod,Nat.mod_eq_of_lt hb]
 have hm':(a'*wG g+b') % wG g=b':=by rw [Nat.mul_comm,Nat.mul_add_mod,Nat.mod_eq_of_lt hb']
 rcases hn with ⟨h1,h2 | h2⟩ | ⟨h1,h2 | h2⟩
 ·obtain rfl:a'=a:=by omega
  exact .inl ⟨by omega,by rw [hm];omega⟩
 ·obtain rfl:a'=a:=by omega
  exact .inr (.inl ⟨by omega,by rw [hm'];omega⟩)
 ·obtain rfl:b'=b:=by omega
  obtain rfl:a'=a+1:=by omega
  exact .inr (.inr (.inl (by rw [Nat.add_mul,Nat.one_mul];omega)))
 ·obtain rfl:b'=b:=by omega
  obtain rfl:a=a'+1:=by omega
  exact .inr (.inr (.inr (by rw [Nat.add_mul,Nat.one_mul];omega)))
theorem QkX {g:D.Grid} {r c:Int} {y:Nat} (hg:gridOk g) (h:inG g r c) (hy:y<g.Cells.size) (ha:adj g (ZY g r c) y) :
  (inG g (r - 1) c∧y=ZY g (r - 1) c)∨(inG g (r+1) c∧y=ZY g (r+1) c)∨(inG g r (c - 1)∧y=ZY g r (c - 1))∨(inG g r (c+1)∧y=ZY g r (c+1)):=by
 have hsz:=QmD hg
 obtain ⟨⟨h1,h2⟩,h3,h4⟩:=h
 obtain ⟨a,b,rfl,rfl,ha',hb⟩:=QhF hg ⟨⟨h1,h2⟩,h3,h4⟩
 rw [Y1 hg] at ha
 have hm:(a*wG g+b) % wG g=b:=by rw [Nat.mul_comm,Nat.mul_add_mod,Nat.mod_eq_of_lt hb]
 have hw:((wG g:Nat):Int)=g.Cols:=by have:=hg.2.1;unfold wG;omega
 rcases ha with ⟨e1,e2⟩ | ⟨e1,e2⟩ | e1 | e1
 ·rw [hm] at e2
  refine .inr (.inr (.inr ⟨⟨⟨h1,h2⟩,by omega,by omega⟩,?_⟩))
  rw [show ((b:Nat):Int)+1=((b+1:Nat):Int) by omega,Y1 hg];omega
 ·have hb1:1≤b:=by
   rcases Nat.eq_zero_or_pos b with h0 | h0
   ·subst h0
    exfalso
    have ha0:0<a:=by
     rcases Nat.eq_zero_or_pos a with g0 | g0
     ·subst g0;omega
     ·exact g0
    obtain ⟨a1,rfl⟩:∃a1,a=a1+1:=⟨a - 1,by omega⟩
    have e3:y=a1*wG g+(wG g - 1):=by rw [Nat.add_mul,Nat.one_mul] at e1;omega
    rw [e3,Nat.mul_comm,Nat.mul_add_mod,Nat.mod_eq_of_lt (by omega)] at e2
    omega
   ·exact h0
  refine .inr (.inr (.inl ⟨⟨⟨h1,h2⟩,by omega,by omega⟩,?_⟩))
  rw [show ((b:Nat):Int) - 1=((b - 1:Nat):Int) by omega,Y1 hg];omega
 ·have ha1:a+1<g.Rows.toNat:=by
   rcases Nat.lt_or_ge (a+1) g.Rows.toNat with g0 | g0
   ·exact g0
   ·have e4:g.Rows.toNat=a+1:=by omega
    rw [e4,Nat.add_mul,Nat.one_mul] at hsz
    omega
  refine .inr (.inl ⟨⟨⟨by omega,by omega⟩,h3,h4⟩,?_⟩)
  rw [show ((a:Nat):Int)+1=((a+1:Nat):Int) by omega,Y1 hg,Nat.add_mul,Nat.one_mul];omega
 ·have ha0:0<a:=by
   rcases Nat.eq_zero_or_pos a with g0 | g0
   ·subst g0;omega
   ·exact g0
  obtain ⟨a1,rfl⟩:∃a1,a=a1+1:=⟨a - 1,by omega⟩
  refine .inl ⟨⟨⟨by omega,by omega⟩,h3,h4⟩,?_⟩
  rw [show ((a1+1:Nat):Int) - 1=((a1:Nat):Int) by omega,Y1 hg]
  rw [Nat.add_mul,Nat.one_mul] at e1;omega
theorem Qca {g:D.Grid} {r c:Int} (hg:gridOk g) (h:inG g r c):ZY g r c<g.Cells.size:=by
 have:=QdA hg h.1 h.2
 unfold ZY
 omega
theorem ZW (g:D.Grid):∀d m r c,(Jh d g m r c).length=m.length
 | 0,m,r,c=>rfl
 | d+1,m,r,c=>by
  rw [Jh]
  split
  ·rw [ZW g d,ZW g d,ZW g d,ZW g d,List.length_set]
  ·rfl
theorem Yd {g:D.Grid} {j:Nat}:∀d m r c,on m j=true→on (Jh d g m r c) j=true
 | 0,m,r,c,h=>h
 | d+1,m,r,c,h=>by
  rw [Jh]
  split
  ·refine Yd d _ _ _ (Yd d _ _ _ (Yd d _ _ _ (Yd d _ _ _ ?_)))
   have hlt:=QmI h
   unfold on at h ⊢
   rw [List.getElem?_set]
   split
   ·rename_i e
    subst e
    rw [if_pos hlt];rfl
   ·exact h
  ·exact h
theorem QhO {s:List Bool} {i:Nat}:(s.set i true).count false≤s.count false:=by
 rcases Nat.lt_or_ge i s.length with h | h
 ·rw [List.count_set h];simp
 ·rw [List.set_eq_of_length_le h];exact Nat.le_refl _
theorem JI (g:D.Grid):∀d m r c,(Jh d g m r c).count false≤m.count false
 | 0,m,r,c=>Nat.le_refl _
 | d+1,m,r,c=>by
  rw [Jh]
  split
  ·exact Nat.le_trans (JI g d _ _ _) (Nat.le_trans (JI g d _ _ _) (Nat.le_trans (JI g d _ _ _) (Nat.le_trans (JI g d _ _ _) QhO)))
  ·exact Nat.le_refl _
theorem Qa7 {g:D.Grid} (hg:gridOk g) {P:Nat→Prop} (hP:∀i j,P i→adj g i j→j<g.Cells.size→Qy g.Cells j=46→P j):∀d m r c,m.length=g.Cells.size→(inG g r c→Qy g.Cells (ZY g r c)=46→P (ZY g r c))→∀j,on (Jh d g m r c) j=true→on m j=true∨P j
 | 0,m,r,c,_,_,j,hj=> .inl hj
 | d+1,m,r,c,hl,h,j,hj=>by
  rw [Jh] at hj
  split at hj
  ·rename_i hgo
   obtain ⟨g1,g2,g3⟩:=hgo
   have hv:=h g1 g2
   have nb:∀r' c',((r'=r∧(c'=c+1∨c'=c - 1))∨(c'=c∧(r'=r+1∨r'=r - 1)))→inG g r' c'→Qy g.Cells (ZY g r' c')=46→P (ZY g r' c'):=fun r' c' hn hi hw=>hP _ _ hv (Qn4 hg g1 hi hn) (Qca hg hi) hw
   have l1:(m.set (ZY g r c) true).length=g.Cells.size:=by rw [List.length_set,hl]
   rcases Qa7 hg hP d _ _ _ (by rw [ZW,ZW,ZW,l1]) (nb r (c+1) (.inl ⟨rfl, .inl Y⟩)) j hj with hj | hj
   ·rcases Qa7 hg hP d _ _ _ (by rw [ZW,ZW,l1]) (nb r (c - 1) (.inl ⟨rfl, .inr Y⟩)) j hj with hj | hj
    ·rcases Qa7 hg hP d _ _ _ (by rw [ZW,l1]) (nb (r+1) c (.inr ⟨rfl, .inl Y⟩)) j hj with hj | hj
     ·rcases Qa7 hg hP d _ _ _ l1 (nb (r - 1) c (.inr ⟨rfl, .inr Y⟩)) j hj with hj | hj
      ·rw [Qej (by rw [hl];exact Qca hg g1)] at hj
       split at hj
       ·rename_i e
        rw [e];exact .inr hv
       ·exact .inl hj
      ·exact .inr hj
     ·exact .inr hj
    ·exact .inr hj
   ·exact .inr hj
  ·exact .inl hj
theorem Qgk {g:D.Grid} (hg:gridOk g) {d:Nat} {m:List Bool} {r c:Int} (hl:m.length=g.Cells.size) (hc:m.count false<d) (hi:inG g r c) (hw:Qy g.Cells (ZY g r c)=46):on (Jh d g m r c) (ZY g r c)=true:=by
 cases d with
 | zero=>omega
 | succ d =>
  rw [Jh]
  split
  ·refine Yd d _ _ _ (Yd d _ _ _ (Yd d _ _ _ (Yd d _ _ _ ?_)))
   rw [Qej (by rw [hl];exact Qca hg hi),if_pos Y]
  ·rename_i hn
   cases ho:on m (ZY g r c) with
   | true=>rfl
   | false=>exact absurd ⟨hi,hw,ho⟩ hn
theorem QfB {g:D.Grid} (hg:gridOk g):∀d m r c,m.length=g.Cells.size→m.count false<d→∀x y,on (Jh d g m r c) x=true→¬on m x=true→adj g x y→y<g.Cells.size→Qy g.Cells y=46→on (Jh d g m r c) y=true
 | 0,m,r,c,_,hc,x,y,_,_,_,_,_=>by omega
 | d+1,m,r,c,hl,hc,x,y,hx,hnx,ha,hy,hw=>by
  rw [Jh] at hx ⊢
  by_cases hgo:Qm4 g m r c
  ·rw [if_pos hgo] at hx ⊢
   obtain ⟨g1,g2,g3⟩:=hgo
   have hcl:=Qca hg g1
   have l1:(m.set (ZY g r c) true).length=g.Cells.size:=by rw [List.length_set,hl]
   have c1:(m.set (ZY g r c) true).count false<d:=by
    have:=Qeb (by rw [hl];exact hcl) g3
    omega
   generalize hm1:m.set (ZY g r c) true=m1 at *
   have c2:=JI g d m1 (r - 1) c
   have l2:=ZW g d m1 (r - 1) c
   generalize hm2:Jh d g m1 (r - 1) c=m2 at *
   have c3:=JI g d m2 (r+1) c
   have l3:=ZW g d m2 (r+1) c
   generalize hm3:Jh d g m2 (r+1) c=m3 at *
   have c4:=JI g d m3 r (c - 1)
   have l4:=ZW g d m3 r (c - 1)
   generalize hm4:Jh d g m3 r (c - 1)=m4 at *
   have up4:∀j,on m4 j=true→on (Jh d g m4 r (c+1)) j=true:=fun j h=>Yd d _ _ _ h
   have up3:∀j,on m3 j=true→on m4 j=true:=fun j h=>hm4▸Yd d _ _ _ h
   have up2:∀j,on m2 j=true→on m3 j=true:=fun j h=>hm3▸Yd d _ _ _ h
   by_cases h4:on m4 x=true
   ·by_cases h3:on m3 x=true
    ·by_cases h2:on m2 x=true
     ·by_cases h1:on m1 x=true
      ·have hxv:x=ZY g r c:=by
        rw [← hm1,Qej (by rw [hl];exact hcl)] at h1
        split at h1
        ·assumption
        ·exact absurd h1 hnx
       subst hxv
       rcases QkX hg g1 hy ha with ⟨k1,rfl⟩ | ⟨k1,rfl⟩ | ⟨k1,rfl⟩ | ⟨k1,rfl⟩
       ·exact up4 _ (up3 _ (up2 _ (hm2▸Qgk hg l1 c1 k1 hw)))
       ·exact up4 _ (up3 _ (hm3▸Qgk hg (by omega) (by omega) k1 hw))
       ·exact up4 _ (hm4▸Qgk hg (by omega) (by omega) k1 hw)
       ·exact Qgk hg (by omega) (by omega) k1 hw
      ·exact up4 _ (up3 _ (up2 _ (hm2▸QfB hg d m1 (r - 1) c l1 c1 x y (hm2▸h2) h1 ha hy hw)))
     ·exact up4 _ (up3 _ (hm3▸QfB hg d m2 (r+1) c (by omega) (by omega) x y (hm3▸h3) h2 ha hy hw))
    ·exact up4 _ (hm4▸QfB hg d m3 r (c - 1) (by omega) (by omega) x y (hm4▸h4) h3 ha hy hw)
   ·exact QfB hg d m4 r (c+1) (by omega) (by omega) x y hx h4 ha hy hw
  ·rw [if_neg hgo] at hx
   exact absurd hx hnx
def Qku (g:D.Grid) (s:List Bool):Prop:=∀x y,on s x=true→adj g x y→y<g.Cells.size→Qy g.Cells y=46→on s y=true
theorem Qml (n j:Nat):on (List.replicate n false) j=false:=by
 unfold on
 rw [List.getElem?_replicate]
 split<;>rfl
theorem Qiw {g:D.Grid} {i j:Nat} (hi:i<g.Cells.size):on ((List.replicate g.Cells.size false).set i true) j=true↔j=i:=by
 rw [Qej (by simpa using hi),Qml]
 split<;>simp [*]
theorem QcI {g:D.Grid}:∀i,i≤g.Cells.size→Qku g (Qq g i).2
 | 0,_=>fun x y hx=>by rw [Qq,Qml] at hx;cases hx
 | i+1,hi=>by
  have ih:=QcI (g:=g) i (by omega)
  by_cases hn:Qdp g (Qq g i).2 i
  ·rw [(Qd7 hn).2]
   intro x y hx ha hy hw
   have hl:(fresh g i).length=(Qq g i).2.length:=by rw [Qbk,Jz]
   rw [Qj8 hl,Bool.or_eq_true] at hx ⊢
   rcases hx with hx | hx
   ·exact .inl (ih x y hx ha hy hw)
   ·exact .inr (on_reachL.2 (.step (on_reachL.1 hx) ha (by simpa using hy) hw))
  ·rw [QbX hn];exact ih
theorem QmZ {g:D.Grid} (hg:gridOk g) {d i:Nat} {m:List Bool} (hl:m.length=g.Cells.size) (hi:i<g.Cells.size) (hc:m.count false<d) (hcl:Qku g m) (hw:Qy g.Cells i=46) :
  Jh d g m ((i / wG g:Nat):Int) ((i % wG g:Nat):Int)=QgH m (fresh g i):=by
 have hlf:(fresh g i).length=m.length:=by rw [Qbk,hl]
 have hci:ZY g ((i / wG g:Nat):Int) ((i % wG g:Nat):Int)=i:=by
  rw [Y1 hg,Nat.mul_comm];exact Nat.div_add_mod i _
 obtain ⟨⟨q1,q2⟩,_⟩:=Qcn hg hi
 have hin:inG g ((i / wG g:Nat):Int) ((i % wG g:Nat):Int):=by
  have hA:=hg.1
  have hB:=hg.2.1
  unfold wG
  generalize i / g.Cols.toNat=q at *
  generalize i % g.Cols.toNat=m' at *
  exact ⟨⟨by omega,by omega⟩,by omega,by omega⟩
 refine Qmv (by rw [ZW,Qae hlf]) fun j=> ?_
 rw [Qj8 hlf,Bool.or_eq_true]
 constructor
 ·intro hj
  rcases Qa7 hg (P:=fun j=>Rch g ((List.replicate g.Cells.size false).set i true) j) (fun a b h ha hb hw=> .step h ha (by simpa using hb) hw) d m _ _ hl (fun _ _=>by rw [hci];exact .base ((Qiw hi).2 Y)) j hj with h | h
  ·exact .inl h
  ·exact .inr (on_reachL.2 h)
 ·rintro (hj | hj)
  ·exact Yd d _ _ _ hj
  ·have hr:=on_reachL.1 hj
   clear hj
   induction hr with
   | base h =>
    obtain rfl:=(Qiw hi).1 h
    have:=Qgk hg hl hc hin (by rw [hci];exact hw)
    rwa [hci] at this
   | step h ha hb hw2 ih =>
    rename_i a b
    have hb':b<g.Cells.size:=by simpa using hb
    by_cases hma:on m a=true
    ·exact Yd d _ _ _ (hcl a b hma ha hb' hw2)
    ·exact QfB hg d m _ _ hl hc a b ih hma ha hb' hw2
end
theorem Qep (n:Nat) (nn:Nat) (g:D.Grid):∀(d:Nat) (met:List Bool) (r:Int) (c:Int) (hg:gridOk g) (hn:nn=g.Cells.size) (hl:met.length=nn) (hr: -1≤r∧r≤6) (hc: -1≤c∧c≤6) (hu:met.count false<d),Loan (Qo Tryz.prog (n+d+1)) 170 1 (List.map (Qp true) met) [(tI r),(tI c),(T.rp (Qc false g)),(T.vp [(T.os 1 0 0 nn)]),(vtT 170 (T.rp (Qc false g)) (T.vp [(T.os 1 0 0 nn)]) d)] (T.tup []) (List.map (Qp true) (Jh d g met r c)):=by
 intro d
 induction d with
 | zero=>intro met r c hg hn hl hr hc hu;exact absurd hu (Nat.not_lt_zero _)
 | succ d ih =>
 intro met r c hg hn hl hr hc hu
 refine Loan.intro (n:=n+d+1) (rs:= []) (j:=3) (pin:=(T.vp [(T.os 1 0 0 nn)])) Tryz.func170 Y Y Y (by kernel_rfl) Y (.vp _ _) .none (ZS (fun _=>rfl) _) (ZS (fun _=>rfl) _) (E0:= [(0,(tI r)),(1,(tI c)),(2,(T.rp (Qc false g))),(3,(T.vp [(T.os 1 0 0 nn)])),(4,(vtT 170 (T.rp (Qc false g)) (T.vp [(T.os 1 0 0 nn)]) (d+1)))]) Y ?_
 obtain ⟨hlim,hmx,hmax⟩:=Qz
 have hsz:=hg.size
 have hA:=hg.1
 have hB:=hg.2.1
 refine sq (sr (mO (tI r) Y (lr (tI g.Rows) Y (lb Y) QaM Y QS (cO (cS (vc (tv (tI r) Y) (vc (tv (tI g.Rows) Y) vn)) (Zg Y) (YK (n+d+0) r g.Rows) Y Y) (fO (QU (tv (tB (decide (0≤r∧r<g.Rows))) Y)) (mO (tB (!(decide (0≤r∧r<g.Rows)))) Y ?_))))))
 refine VRunO.joinB 6 [13,14,15,16,17] 18 (tB (decide ((¬(0≤r∧r<g.Rows))∨(¬(0≤c∧c<g.Cols))))) ?_ ?_
 ·refine gn (0≤r∧r<g.Rows) (fun fhg12_1=> ?_) fun fhg12_1=> ?_
  ·refine QD 5 5 false 12 (ny fhg12_1) Y Y Y ?_
   refine fO (OF.pickT (VEv.tmpB Y (ny fhg12_1)) (VEv.bool true)) (VRunO.nil ?_)
   exact jq (congrArg T.bool (kOT fhg12_1)) (js Y (js Y (js Y (js Y (js Y (jn))))))
  ·refine gF (nz fhg12_1) Y Y (OF.move (tv (tI c) Y)) ?_
   refine glr (tI g.Cols) (nz fhg12_1) Y Y Y Y (lb Y) ZD Y QS (VRunO.chain (VWant.on Y Y (nz fhg12_1)) (cS (vc (tv (tI c) Y) (vc (tv (tI g.Cols) Y) vn)) (Zg Y) (YK (n+d+0) c g.Cols) Y Y) (gF (nz fhg12_1) Y Y (QU (tv (tB (decide (0≤c∧c<g.Cols))) Y)) (fO (OF.pickF (VEv.tmpB Y (nz fhg12_1)) (tv (tB (!(decide (0≤c∧c<g.Cols)))) Y)) (VRunO.nil ?_))))
   exact jq (congrArg T.bool (kOF (not_not_intro fhg12_1) dN)) (js Y (js Y (js Y (js Y (js Y (jn))))))
 refine mO (tB (decide ((¬(0≤r∧r<g.Rows))∨(¬(0≤c∧c<g.Cols))))) Y ?_
 refine VRunO.joinB 10 [20,21,22,23,24,25,26,27,28] 29 (tB (decide (((¬(0≤r∧r<g.Rows))∨(¬(0≤c∧c<g.Cols)))∨((met[(Int.toNat ((r*g.Cols)+c))]?.getD false)=true)))) ?_ ?_
 ·refine gw ((¬(0≤r∧r<g.Rows))∨(¬(0≤c∧c<g.Cols))) (fun fhg19_2=> ?_) fun fhg19_2=> ?_
  ·refine QD 9 12 false 19 (dy fhg19_2) Y Y Y ?_
   refine fO (OF.pickT (VEv.tmpB Y (dy fhg19_2)) (VEv.bool true)) (VRunO.nil ?_)
   exact jq (congrArg T.bool (kOT fhg19_2)) (js Y (js Y (js Y (js Y (js Y (js Y (js Y (js Y (js Y (jn))))))))))
  ·have hz:=QdA hg (r:=r) (c:=c) (by omega) (by omega)
   refine gL (dz fhg19_2) Y Y (OL.loadV1 (t:=(T.os 1 0 0 nn)) (tv (T.vp [(T.os 1 0 0 nn)]) Y) Y Ql8) (gF (dz fhg19_2) Y Y (OF.move (tv (tI r) Y)) (glr (tI g.Cols) (dz fhg19_2) Y Y Y Y (lb Y) ZD Y QS (gF (dz fhg19_2) Y Y (B.mul (n:=(r*g.Cols)) (tv (tI r) Y) (tv (tI g.Cols) Y) (by (rw [Qs (by omega)];done))) (gF (dz fhg19_2) Y Y (OF.move (tv (tI c) Y)) (gF (dz fhg19_2) Y Y (B.add (n:=((r*g.Cols)+c)) (tv (tI (r*g.Cols)) Y) (tv (tI c) Y) (by (rw [Qs (by omega)];done))) ?_)))))
   have hy3:met[(Int.toNat ((r*g.Cols)+c))]? =some (met[(Int.toNat ((r*g.Cols)+c))]?.getD false):=Qaz false (by omega)
   refine gF (dz fhg19_2) Y Y (B.indexAddrO (i:=(Int.toNat ((r*g.Cols)+c))) (tv (T.os 1 0 0 nn) Y) (tv (tI ((r*g.Cols)+c)) Y) (by omega) (by omega) JF sz4 if4) (gL (dz fhg19_2) Y Y (OL.loadP1 (t:=(tB (met[(Int.toNat ((r*g.Cols)+c))]?.getD false))) (row:=(Qp true (met[(Int.toNat ((r*g.Cols)+c))]?.getD false))) (tv (T.orp 1 0 (Int.toNat ((r*g.Cols)+c)) 0) Y) Y (Qu _ hy3) Y Y st4) (fO (OF.pickF (VEv.tmpB Y (dz fhg19_2)) (tv (tB (met[(Int.toNat ((r*g.Cols)+c))]?.getD false)) Y)) (VRunO.nil ?_)))
   exact jq (congrArg T.bool (kOF fhg19_2 (dT _))) (js Y (js Y (js Y (js Y (js Y (js Y (js Y (js Y (js Y (jn))))))))))
 refine mO (tB (decide (((¬(0≤r∧r<g.Rows))∨(¬(0≤c∧c<g.Cols)))∨((met[(Int.toNat ((r*g.Cols)+c))]?.getD false)=true)))) Y ?_
 refine VRunO.joinB 11 [31,32,33,34,35,36,37,38,39,40] 41 (tB (decide ((((¬(0≤r∧r<g.Rows))∨(¬(0≤c∧c<g.Cols)))∨((met[(Int.toNat ((r*g.Cols)+c))]?.getD false)=true))∨(¬(Qy g.Cells (Int.toNat ((r*g.Cols)+c))=46))))) ?_ ?_
 ·refine gw (((¬(0≤r∧r<g.Rows))∨(¬(0≤c∧c<g.Cols)))∨((met[(Int.toNat ((r*g.Cols)+c))]?.getD false)=true)) (fun fhg30_4=> ?_) fun fhg30_4=> ?_
  ·refine QD 10 23 false 30 (dy fhg30_4) Y Y Y ?_
   refine fO (OF.pickT (VEv.tmpB Y (dy fhg30_4)) (VEv.bool true)) (VRunO.nil ?_)
   exact jq (congrArg T.bool (kOT fhg30_4)) (js Y (js Y (js Y (js Y (js Y (js Y (js Y (js Y (js Y (js Y (jn)))))))))))
  ·have hz:=QdA hg (r:=r) (c:=c) (by omega) (by omega)
   refine glr (tS g.Cells) (dz fhg30_4) Y Y Y Y (lb Y) QL Y ZG (gF (dz fhg30_4) Y Y (OF.move (tv (tI r) Y)) (glr (tI g.Cols) (dz fhg30_4) Y Y Y Y (lb Y) ZD Y QS (gF (dz fhg30_4) Y Y (B.mul (n:=(r*g.Cols)) (tv (tI r) Y) (tv (tI g.Cols) Y) (by (rw [Qs (by omega)];done))) (gF (dz fhg30_4) Y Y (OF.move (tv (tI c) Y)) (gF (dz fhg30_4) Y Y (B.add (n:=((r*g.Cols)+c)) (tv (tI (r*g.Cols)) Y) (tv (tI c) Y) (by (rw [Qs (by omega)];done))) ?_)))))
   have hb5:(Int.toNat ((r*g.Cols)+c))<g.Cells.size:=(by omega)
   refine gF (dz fhg30_4) Y Y (B.index (n:=(Qy g.Cells (Int.toNat ((r*g.Cols)+c)))) (i:=(Int.toNat ((r*g.Cols)+c))) (tv (tS g.Cells) Y) (tv (tI ((r*g.Cols)+c)) Y) (by omega) hb5 U9 (YZ hb5)) (gF (dz fhg30_4) Y Y (xne (tv (T.int .u8 (Qy g.Cells (Int.toNat ((r*g.Cols)+c)))) Y) (VEv.int .u8 46)) (fO (OF.pickF (VEv.tmpB Y (dz fhg30_4)) (tv (tB (!(decide (Qy g.Cells (Int.toNat ((r*g.Cols)+c))=46)))) Y)) (VRunO.nil ?_)))
   exact jq (congrArg T.bool (kOF fhg30_4 dN)) (js Y (js Y (js Y (js Y (js Y (js Y (js Y (js Y (js Y (js Y (jn)))))))))))
 refine nt ?_
 refine cd ((((¬(0≤r∧r<g.Rows))∨(¬(0≤c∧c<g.Cols)))∨((met[(Int.toNat ((r*g.Cols)+c))]?.getD false)=true))∨(¬(Qy g.Cells (Int.toNat ((r*g.Cols)+c))=46))) Y (fun fhc0=> ?_) fun fhc0=> ?_
 ·refine rt ?_
  refine tr ?_
  have hnew:met=Jh (d+1) g met r c:=by
   rw [Jh,if_neg];rintro ⟨h1,h2,h3⟩;rcases fhc0 with (h | h) | h;exact h.elim (fun h=>h h1.1) (fun h=>h h1.2);exact on_no.1 h3 h;exact h h2
  exact vloan.r 0 VRes.nil Y Y Y (congrArg (List.map (Qp true)) hnew)
 have hz:=QdA hg (r:=r) (c:=c) (by omega) (by omega)
 have hin:inG g r c:=⟨by omega,by omega⟩
 have hgo:Qm4 g met r c:=⟨hin,by unfold ZY;omega,on_no.2 (fun h=>fhc0 (.inl (.inr h)))⟩
 have hct:=Qeb (s:=met) (i:=ZY g r c) (by rw [hl,hn];exact Qca hg hin) hgo.2.2
 unfold ZY at hct
 have d1:=JI g d (met.set (Int.toNat (r*g.Cols+c)) true) (r - 1) c
 have d2:=JI g d (Jh d g (met.set (Int.toNat (r*g.Cols+c)) true) (r - 1) c) (r+1) c
 have d3:=JI g d (Jh d g (Jh d g (met.set (Int.toNat (r*g.Cols+c)) true) (r - 1) c) (r+1) c) r (c - 1)
 refine sk (tn (sr (lO (OL.loadV1 (t:=(T.os 1 0 0 nn)) (tv (T.vp [(T.os 1 0 0 nn)]) Y) Y Ql8) (mO (tI r) Y (lr (tI g.Cols) Y (lb Y) ZD Y QS (fO (B.mul (n:=(r*g.Cols)) (tv (tI r) Y) (tv (tI g.Cols) Y) (by (rw [Qs (by omega)];done))) (mO (tI c) Y (fO (B.add (n:=((r*g.Cols)+c)) (tv (tI (r*g.Cols)) Y) (tv (tI c) Y) (by (rw [Qs (by omega)];done))) ?_))))))))
 obtain ⟨x1,hx1⟩:∃x,met[(Int.toNat ((r*g.Cols)+c))]? =some x:=⟨_,List.getElem?_eq_getElem (by omega)⟩
 refine fO (B.indexAddrO (i:=(Int.toNat ((r*g.Cols)+c))) (tv (T.os 1 0 0 nn) Y) (tv (tI ((r*g.Cols)+c)) Y) (by omega) (by omega) JF sz4 if4) (cO (B.storeP (us:= [(tB true)]) (rows':=((met.set (Int.toNat ((r*g.Cols)+c)) true).map (Qp true))) (row:=(Qp true x1)) (tv (T.orp 1 0 (Int.toNat ((r*g.Cols)+c)) 0) Y) (VEv.bool true) nofun Y (Qu _ hx1) Y (lb Y) if4 sz4 (bc Y bn) (by intro r hr t ht;obtain ⟨x,_,rfl⟩:=List.mem_map.1 hr;rw [QhH] at ht;exact ZZ (okBool.pl _ t ht)) (Yc Y)) (nt (sr (lO (OL.loadV1 (t:=(T.fn 170 [(T.rp (Qc false g)),(T.vp [(T.os 1 0 0 nn)]),(vtT 170 (T.rp (Qc false g)) (T.vp [(T.os 1 0 0 nn)]) d)])) (tv (vtT 170 (T.rp (Qc false g)) (T.vp [(T.os 1 0 0 nn)]) (d+1)) Y) Y Qjp) (mO (tI r) Y (fO (B.sub (n:=(r - 1)) (tv (tI r) Y) (VEv.int .i64 1) (by (rw [Qs (by omega)];done))) (mO (tI c) Y (cO (OC.callvLoan (ts:= [(tI (r - 1)),(tI c),(T.rp (Qc false g)),(T.vp [(T.os 1 0 0 nn)]),(vtT 170 (T.rp (Qc false g)) (T.vp [(T.os 1 0 0 nn)]) d)]) (k:=0) (r:=(T.tup [])) (rows:=((met.set (Int.toNat ((r*g.Cols)+c)) true).map (Qp true))) (rows':=((Jh d g (met.set (Int.toNat ((r*g.Cols)+c)) true) (r - 1) c).map (Qp true))) Y Y (vc (tv (tI (r - 1)) Y) (vc (tv (tI c) Y) vn)) Y (by simp only [QbL,ren,Qck,List.cons_append,List.nil_append]) (tl Y (tl Y (tl Y (tl Y (tl (Qef Y Y _) Y))))) LRes.none Y (ZS (fun _=>rfl) _) (ZS (fun _=>rfl) _) (ih (met.set (Int.toNat ((r*g.Cols)+c)) true) (r - 1) c (by assumption) (by assumption) (by (simp only [ZW,List.length_set];omega)) (by omega) (by assumption) (by omega))) (nt (sr (lO (OL.loadV1 (t:=(T.fn 170 [(T.rp (Qc false g)),(T.vp [(T.os 1 0 0 nn)]),(vtT 170 (T.rp (Qc false g)) (T.vp [(T.os 1 0 0 nn)]) d)])) (tv (vtT 170 (T.rp (Qc false g)) (T.vp [(T.os 1 0 0 nn)]) (d+1)) Y) Y Qjp) ?_)))))))))))
 refine mO (tI r) Y (fO (B.add (n:=(r+1)) (tv (tI r) Y) (VEv.int .i64 1) (by (rw [Qs (by omega)];done))) (mO (tI c) Y (cO (OC.callvLoan (ts:= [(tI (r+1)),(tI c),(T.rp (Qc false g)),(T.vp [(T.os 1 0 0 nn)]),(vtT 170 (T.rp (Qc false g)) (T.vp [(T.os 1 0 0 nn)]) d)]) (k:=0) (r:=(T.tup [])) (rows:=((Jh d g (met.set (Int.toNat ((r*g.Cols)+c)) true) (r - 1) c).map (Qp true))) (rows':=((Jh d g (Jh d g (met.set (Int.toNat ((r*g.Cols)+c)) true) (r - 1) c) (r+1) c).map (Qp true))) Y Y (vc (tv (tI (r+1)) Y) (vc (tv (tI c) Y) vn)) Y (by simp only [QbL,ren,Qck,List.cons_append,List.nil_append]) (tl Y (tl Y (tl Y (tl Y (tl (Qef Y Y _) Y))))) LRes.none Y (ZS (fun _=>rfl) _) (ZS (fun _=>rfl) _) (ih (Jh d g (met.set (Int.toNat ((r*g.Cols)+c)) true) (r - 1) c) (r+1) c (by assumption) (by assumption) (by (simp only [ZW,List.length_set];omega)) (by omega) (by assumption) (by omega))) (nt (sr (lO (OL.loadV1 (t:=(T.fn 170 [(T.rp (Qc false g)),(T.vp [(T.os 1 0 0 nn)]),(vtT 170 (T.rp (Qc false g)) (T.vp [(T.os 1 0 0 nn)]) d)])) (tv (vtT 170 (T.rp (Qc false g)) (T.vp [(T.os 1 0 0 nn)]) (d+1)) Y) Y Qjp) (mO (tI r) Y (mO (tI c) Y (fO (B.sub (n:=(c - 1)) (tv (tI c) Y) (VEv.int .i64 1) (by (rw [Qs (by omega)];done))) (cO (OC.callvLoan (ts:= [(tI r),(tI (c - 1)),(T.rp (Qc false g)),(T.vp [(T.os 1 0 0 nn)]),(vtT 170 (T.rp (Qc false g)) (T.vp [(T.os 1 0 0 nn)]) d)]) (k:=0) (r:=(T.tup [])) (rows:=((Jh d g (Jh d g (met.set (Int.toNat ((r*g.Cols)+c)) true) (r - 1) c) (r+1) c).map (Qp true))) (rows':=((Jh d g (Jh d g (Jh d g (met.set (Int.toNat ((r*g.Cols)+c)) true) (r - 1) c) (r+1) c) r (c - 1)).map (Qp true))) Y Y (vc (tv (tI r) Y) (vc (tv (tI (c - 1)) Y) vn)) Y (by simp only [QbL,ren,Qck,List.cons_append,List.nil_append]) (tl Y (tl Y (tl Y (tl Y (tl (Qef Y Y _) Y))))) LRes.none Y (ZS (fun _=>rfl) _) (ZS (fun _=>rfl) _) (ih (Jh d g (Jh d g (met.set (Int.toNat ((r*g.Cols)+c)) true) (r - 1) c) (r+1) c) r (c - 1) (by assumption) (by assumption) (by (simp only [ZW,List.length_set];omega)) (by assumption) (by omega) (by omega))) (nt ?_)))))))))))
 refine VRun.region (lO (OL.loadV1 (t:=(T.fn 170 [(T.rp (Qc false g)),(T.vp [(T.os 1 0 0 nn)]),(vtT 170 (T.rp (Qc false g)) (T.vp [(T.os 1 0 0 nn)]) d)])) (tv (vtT 170 (T.rp (Qc false g)) (T.vp [(T.os 1 0 0 nn)]) (d+1)) Y) Y Qjp) (mO (tI r) Y (mO (tI c) Y (fO (B.add (n:=(c+1)) (tv (tI c) Y) (VEv.int .i64 1) (by (rw [Qs (by omega)];done))) (cO (OC.callvLoan (ts:= [(tI r),(tI (c+1)),(T.rp (Qc false g)),(T.vp [(T.os 1 0 0 nn)]),(vtT 170 (T.rp (Qc false g)) (T.vp [(T.os 1 0 0 nn)]) d)]) (k:=0) (r:=(T.tup [])) (rows:=((Jh d g (Jh d g (Jh d g (met.set (Int.toNat ((r*g.Cols)+c)) true) (r - 1) c) (r+1) c) r (c - 1)).map (Qp true))) (rows':=((Jh d g (Jh d g (Jh d g (Jh d g (met.set (Int.toNat ((r*g.Cols)+c)) true) (r - 1) c) (r+1) c) r (c - 1)) r (c+1)).map (Qp true))) Y Y (vc (tv (tI r) Y) (vc (tv (tI (c+1)) Y) vn)) Y (by simp only [QbL,ren,Qck,List.cons_append,List.nil_append]) (tl Y (tl Y (tl Y (tl Y (tl (Qef Y Y _) Y))))) LRes.none Y (ZS (fun _=>rfl) _) (ZS (fun _=>rfl) _) (ih (Jh d g (Jh d g (Jh d g (met.set (Int.toNat ((r*g.Cols)+c)) true) (r - 1) c) (r+1) c) r (c - 1)) r (c+1) (by assumption) (by assumption) (by (simp only [ZW,List.length_set];omega)) (by assumption) (by omega) (by omega))) (VRunO.nil ?_))))))
 have hnew:Jh d g (Jh d g (Jh d g (Jh d g (met.set (Int.toNat ((r*g.Cols)+c)) true) (r - 1) c) (r+1) c) r (c - 1)) r (c+1)=Jh (d+1) g met r c:=by
  rw [Jh,if_pos hgo];rfl
 exact vloan.n 0 VRes.nil Y Y Y (congrArg (List.map (Qp true)) hnew)
theorem Qgn (n:Nat) (g:D.Grid) (hc:g.Cells.size≤mx):Pure (Qo Tryz.prog (n+39)) 144 [(T.agg (Qc false g))] (tN (Yg g)):=by
 refine Pure.intro (rs:= [ResultVar.tmp 2]) Tryz.func144 Y Y Y (E0:= [(0,(T.agg (Qc false g)))]) Y ?_
 obtain ⟨hlim,hmx,hmax⟩:=Qz
 refine sr (kO (B.box (ts:=(Qc false g)) (tv (T.agg (Qc false g)) Y) nofun Y) (fO (OF.assign (VEv.int .i64 0)) (nt (sq (sr (lO (OL.loadOn (us:=(Qc false g)) (tv (T.op 0 0) Y) Y Q6 Q0 (lb Y) Y) (cO (cS (vc (tv (T.agg (Qc false g)) Y) vn) (LendL.cons (lg Qx) ln) (Yu (n+36) g (by omega)) Y Y) (fO (QU (tv (tB (decide (gridOk g))) Y)) (nt ?_)))))))))
 refine cn (gridOk g) Y (fun fhc0=> ?_) fun fhc0=> ?_
 ·refine sr ?_
  refine fO (OF.assign (VEv.int .i64 0)) (nt (rt (tr (vi (n':=0) Y ?_))))
  rw [Yg,if_neg (by simpa using fhc0)];rfl
 have hgo:gridOk g:=by simpa using fhc0
 have hsz:=hgo.size
 have hA:=hgo.1
 have hB:=hgo.2.1
 refine sk (tn (sr (lf (tS g.Cells) Y QL Y Y ZG (lO (B.lenS (tv (tS g.Cells) Y) U9) (kO (B.makeZ (n:=g.Cells.size) (m:=((List.replicate g.Cells.size false).map (Qp true)).length) (rows:=((List.replicate g.Cells.size false).map (Qp true))) (zr:=(Qp true false)) (tv (tN g.Cells.size) Y) (tv (tN g.Cells.size) Y) Y JF zo4 zc4 Y (by rw [sz4];decide) (by omega) (of_decide_eq_true (by kernel_rfl)) (Z0.bool Z0.nil) sz4 (List.map_replicate ..).symm (by rw [List.length_map,List.length_replicate])) (kO (B.alloc (t:=T.nils) (ts:= [T.nils]) QoV Qpt nofun (fun _=> .nils) Y) (cO (B.storeW (us:= [(T.os 1 1 0 (((List.replicate g.Cells.size false).map (Qp true)).length))]) (tv (T.op 2 0) Y) (tv (T.os 1 1 0 (((List.replicate g.Cells.size false).map (Qp true)).length)) Y) nofun Y Y Y Qpj Qph (bc Y bn)) (nt (sr (kO (B.alloc (t:=T.fn0) (ts:= [T.fn0]) (show Zl Tryz.prog 169=some .nilFunc by kernel_rfl) (show closedV .nilFunc=true by kernel_rfl) nofun (fun _=> .fn0) Y) (nt ?_)))))))))))
 refine sr (fO (OF.makeFunc (vc (tv (T.op 0 0) Y) (vc (tv (T.op 2 0) Y) (vc (tv (T.op 3 0) Y) vn)))) (cO (B.storeW (us:= [(T.fn 170 [(T.op 0 0),(T.op 2 0),(T.op 3 0)])]) (tv (T.op 3 0) Y) (tv (T.fn 170 [(T.op 0 0),(T.op 2 0),(T.op 3 0)]) Y) nofun Y Y Y QoU Qpa (bc Y bn)) (nt (VRun.wk (Wk.recv (sz:=1) (k:=1) (us:=(Qc false g)) (f:=170) 38 (d1:=1) (d2:=3) (d3:=4) Y Y Y Y Y Y (by decide) (by decide) (by decide) (bc Y (bc Y (bc Y bn)))) (sr (fO (OF.assign (VEv.int .i64 0)) (nt (sq (sr (lr (tS g.Cells) Y (lb Y) QL Y ZG (lO (B.lenS (tv (tS g.Cells) Y) U9) ?_)))))))))))
 refine fO (OF.move (VEv.int .i64 0)) (nt (VRun.block ?_))
 have he1:(List.replicate g.Cells.size false)=(Qq g 0).2:=by rfl
 refine VRun.loop (A:=Nat) (fun s_=> [(1,(T.rp (Qc false g))),(2,(tN 0)),(3,(T.vp [(T.os 1 0 0 (((List.replicate g.Cells.size false).map (Qp true)).length))])),(4,(vtT 170 (T.rp (Qc false g)) (T.vp [(T.os 1 0 0 (((List.replicate g.Cells.size false).map (Qp true)).length))]) 38)),(5,(tN ((Qq g s_).1))),(17,(tN g.Cells.size)),(18,(tN s_))]) (fun s_=>QV [(0,(Obj.rows 1 (((Qq g s_).2).map (Qp true))))]) 1 (fun s_=>s_≤g.Cells.size) (fun s_=>g.Cells.size - s_) (0:Nat) ?_ (Wk.mk (fun k=>if k=0 then 1 else k) ?_ ?_ ?_) ?_
 ·(simp;done)
 ·exact (b2 (b2 (b2 (b2 (bc ⟨(congrArg (T.int .i64) (show 0=(((Qq g 0).1:Nat):Int) from (by rfl))),rfl⟩ (b2 (b2 bn)))))))
 ·exact (bc ⟨(congrArg (fun l_=>some (Obj.rows 1 (List.map (Qp true) l_))) he1),(lb Y),rfl⟩ bn)
 ·exact nd Y
 rintro i (hI':i≤g.Cells.size)
 show VRun _ _ _ [(1,(T.rp (Qc false g))),(2,(tN 0)),(3,(T.vp [(T.os 1 0 0 (((List.replicate g.Cells.size false).map (Qp true)).length))])),(4,(vtT 170 (T.rp (Qc false g)) (T.vp [(T.os 1 0 0 (((List.replicate g.Cells.size false).map (Qp true)).length))]) 38)),(5,(tN ((Qq g i).1))),(17,(tN g.Cells.size)),(18,(tN i))] (QV [(0,(Obj.rows 1 (((Qq g i).2).map (Qp true))))]) 1 _
 have hI1:=hI'
 have hpl:=Jz g i
 have hpn:=Qey g i
 refine sr (fO (Q9 (tv (tN i) Y) (tv (tN g.Cells.size) Y)) (nt (sq ?_)))
 refine cd (i<g.Cells.size) Y (fun fhc1=> ?_) fun fhc1=> ?_
 ·refine sk ?_
  refine tn (sq (VRun.block (sr (mO (tN i) Y (aO (tN i) Y (nt (sr (lr (tS g.Cells) Y (lb Y) QL Y ZG (mO (tN i) Y ?_)))))))))
  have hb2:i<g.Cells.size:=(by omega)
  refine fO (xix (tv (tS g.Cells) Y) (tv (tN i) Y) hb2 U9) (fO (Yn (tv (T.int .u8 (Qy g.Cells i)) Y) (VEv.int .u8 46)) (mO (tB (decide (Qy g.Cells i=46))) Y ?_))
  refine VRunO.joinB 6 [27,28,29,30,31] 32 (tB (decide ((Qy g.Cells i=46)∧((!(((Qq g i).2)[i]?.getD false))=true)))) ?_ ?_
  ·refine gw (Qy g.Cells i=46) (fun fhg26_3=> ?_) fun fhg26_3=> ?_
   ·refine gL (dy fhg26_3) Y Y (OL.loadV1 (t:=(T.os 1 0 0 (((List.replicate g.Cells.size false).map (Qp true)).length))) (tv (T.vp [(T.os 1 0 0 (((List.replicate g.Cells.size false).map (Qp true)).length))]) Y) Y Ql8) ?_
    refine gF (dy fhg26_3) Y Y (OF.move (tv (tN i) Y)) ?_
    have hy4:((Qq g i).2)[i]? =some (((Qq g i).2)[i]?.getD false):=Qaz false (by omega)
    refine gF (dy fhg26_3) Y Y (B.indexAddrO (i:=i) (tv (T.os 1 0 0 (((List.replicate g.Cells.size false).map (Qp true)).length)) Y) (tv (tN i) Y) Y (by (simp only [List.length_map,List.length_replicate];omega)) JF sz4 if4) (gL (dy fhg26_3) Y Y (OL.loadP1 (t:=(tB (((Qq g i).2)[i]?.getD false))) (row:=(Qp true (((Qq g i).2)[i]?.getD false))) (tv (T.orp 1 0 i 0) Y) Y (Qu _ hy4) Y Y st4) (gF (dy fhg26_3) Y Y (QU (tv (tB (((Qq g i).2)[i]?.getD false)) Y)) (fO (OF.pickT (VEv.tmpB Y (dy fhg26_3)) (tv (tB (!(((Qq g i).2)[i]?.getD false))) Y)) (VRunO.nil ?_))))
    exact jq (congrArg T.bool (kAT fhg26_3 (dT _))) (js Y (js Y (js Y (js Y (js Y (jn))))))
   ·refine QD 5 5 true 26 (dz fhg26_3) Y Y Y ?_
    refine fO (OF.pickF (VEv.tmpB Y (dz fhg26_3)) (VEv.bool false)) (VRunO.nil ?_)
    exact jq (congrArg T.bool (kAF fhg26_3)) (js Y (js Y (js Y (js Y (js Y (jn))))))
  refine nt ?_
  refine cd ((Qy g.Cells i=46)∧((!(((Qq g i).2)[i]?.getD false))=true)) Y (fun fhc2=> ?_) fun fhc2=> ?_
  ·have q0:Qdp g (Qq g i).2 i:=⟨fhc2.1,by simpa [on] using fhc2.2⟩
   have q1:=Qd7 q0
   have hci:=Qcn hgo (show i<g.Cells.size by omega)
   have hq0:0≤((i:Nat):Int) / ((g.Cols.toNat:Nat):Int):=Int.ediv_nonneg (by omega) (by omega)
   have hm0:0≤((i:Nat):Int) % ((g.Cols.toNat:Nat):Int):=Int.emod_nonneg _ (by omega)
   refine sr (mO (tN ((Qq g i).1)) Y (fO (QB (tv (tN ((Qq g i).1)) Y) (VEv.int .i64 1) (by omega)) (aO (tN ((Qq g i).1+1)) Y (nt (VRun.draw (B:= [[],[],[],[2],[2,3,1],[],[],[6],[6,7,5],[5,7,6,8,1,3,2,4,0]]) (by kernel_rfl) (by kernel_rfl) (lD (OL.loadV1 (t:=(T.fn 170 [(T.rp (Qc false g)),(T.vp [(T.os 1 0 0 (((List.replicate g.Cells.size false).map (Qp true)).length))]),(vtT 170 (T.rp (Qc false g)) (T.vp [(T.os 1 0 0 (((List.replicate g.Cells.size false).map (Qp true)).length))]) 37)])) (tv (vtT 170 (T.rp (Qc false g)) (T.vp [(T.os 1 0 0 (((List.replicate g.Cells.size false).map (Qp true)).length))]) 38) Y) Y Qjp) Y Y (mD (tN i) Y Y (fD (B.fieldAddrR (us:=((Qc false g).drop 1)) (tv (T.rp (Qc false g)) Y) (lb Y) ZD Y) Y Y (lD (OL.loadR1 (t:=(tI g.Cols)) (tv (T.rp ((Qc false g).drop 1)) Y) Y QS) Y Y (fD (B.quo (n:=((i / g.Cols.toNat:Nat):Int)) (tv (tN i) Y) (tv (tI g.Cols) Y) (by omega) (by (refine QnS ?_ ?_<;>omega))) Y Y (mD (tN i) Y Y ?_)))))))))))
   refine fD (B.fieldAddrR (us:=((Qc false g).drop 1)) (tv (T.rp (Qc false g)) Y) (lb Y) ZD Y) Y Y (lD (OL.loadR1 (t:=(tI g.Cols)) (tv (T.rp ((Qc false g).drop 1)) Y) Y QS) Y Y (fD (B.rem (n:=((i % g.Cols.toNat:Nat):Int)) (tv (tN i) Y) (tv (tI g.Cols) Y) (by omega) (by (refine Qm7 ?_;omega))) Y Y (VRunD.chain (bi:= [5,7,6,8,1,3,2,4,0]) Y VWant.always Y Y Y (by kernel_rfl) (OC.callvLoan (ts:= [(tN (i / g.Cols.toNat)),(tN (i % g.Cols.toNat)),(T.rp (Qc false g)),(T.vp [(T.os 1 0 0 (((List.replicate g.Cells.size false).map (Qp true)).length))]),(vtT 170 (T.rp (Qc false g)) (T.vp [(T.os 1 0 0 (((List.replicate g.Cells.size false).map (Qp true)).length))]) 37)]) (k:=0) (r:=(T.tup [])) (rows:=(((Qq g i).2).map (Qp true))) (rows':=((Jh 37 g ((Qq g i).2) ((i / g.Cols.toNat:Nat):Int) ((i % g.Cols.toNat:Nat):Int)).map (Qp true))) Y Y (vc (tv (tN (i / g.Cols.toNat)) Y) (vc (tv (tN (i % g.Cols.toNat)) Y) vn)) Y (by simp only [QbL,ren,Qck,List.cons_append,List.nil_append]) (tl Y (tl Y (tl Y (tl Y (tl (Qef Y Y _) Y))))) LRes.none Y (ZS (fun _=>rfl) _) (ZS (fun _=>rfl) _) (Qep (n+0) (((List.replicate g.Cells.size false).map (Qp true)).length) g 37 ((Qq g i).2) ((i / g.Cols.toNat:Nat):Int) ((i % g.Cols.toNat:Nat):Int) (by exact fhc0) (by (simp only [Jz,List.length_map,List.length_replicate];done)) (by (simp only [List.length_map,List.length_replicate];omega)) (by omega) (by omega) (by (refine Nat.lt_of_le_of_lt List.count_le_length ?_;rw [Jz];omega)))) (VRunD.nil (vinB.n (tn (VRun.region (fO (QB (tv (tN i) Y) (VEv.int .i64 1) (by omega)) (mO (tN (i+1)) Y (VRunO.nil (tn ?_)))))))))))
   have he5:Jh 37 g ((Qq g i).2) ((i / g.Cols.toNat:Nat):Int) ((i % g.Cols.toNat:Nat):Int)=(Qq g (i+1)).2:=by (rw [q1.2];exact QmZ hgo hpl fhc1 (Nat.lt_of_le_of_lt List.count_le_length (by omega)) (QcI i hI1) q0.1)
   refine ⟨(i+1:Nat),?_,?_,Wk.mk (fun k=>k) ?_ ?_ ?_⟩
   ·trivial
   ·omega
   ·exact (b2 (b2 (b2 (b2 (bc ⟨(congrArg (T.int .i64) (show ((((Qq g i).1+1):Nat):Int)=(((Qq g (i+1)).1:Nat):Int) from (by omega))),rfl⟩ (b2 (b2 bn)))))))
   ·exact (bc ⟨(congrArg (fun l_=>some (Obj.rows 1 (List.map (Qp true) l_))) he5),(lb Y),rfl⟩ bn)
   ·exact nd Y
  have q0:¬Qdp g (Qq g i).2 i:=fun h=>fhc2 ⟨h.1,by have:=h.2;unfold on at this;rw [this];rfl⟩
  refine sk (vinB.n (tn (VRun.region (fO (QB (tv (tN i) Y) (VEv.int .i64 1) (by omega)) (mO (tN (i+1)) Y (VRunO.nil (tn ?_)))))))
  have he6:(Qq g i).2=(Qq g (i+1)).2:=by (rw [QbX q0];done)
  refine ⟨(i+1:Nat),?_,?_,Wk.mk (fun k=>k) ?_ ?_ ?_⟩
  ·trivial
  ·omega
  ·exact (b2 (b2 (b2 (b2 (bc ⟨(congrArg (T.int .i64) (show (((Qq g i).1:Nat):Int)=(((Qq g (i+1)).1:Nat):Int) from (by (rw [QbX q0];done)))),rfl⟩ (b2 (b2 bn)))))))
  ·exact (bc ⟨(congrArg (fun l_=>some (Obj.rows 1 (List.map (Qp true) l_))) he6),(lb Y),rfl⟩ bn)
  ·exact nd Y
 refine VRun.exit (vthn.e (vthn.e (vinB.e (tn (sr (mO (tN ((Qq g i).1)) Y (aO (tN ((Qq g i).1)) Y (nt (rt (vi (n':=(((Qq g i).1:Nat):Int)) Y ?_))))))))))
 exact congrArg (fun x:Nat=>(x:Int)) (Qhy hI1 (.inl hgo) (by omega))
noncomputable section
def Z9 (g:D.Grid):Int:=if ¬gridOk g then 1 else if ¬Qfm g then 2 else if ¬Yg g=1 then 3 else if QcW g then 4 else if QbY g then 5 else 0
theorem QjO {g:D.Grid} (h:∀j s,j<(Qa g).length→(Qa g)[j]? =some s→¬Qfa g j s) (hg:gridOk g):QhW g g.Cells↔QbY g:=by
 constructor
 ·rintro ⟨c,h1,h2,_⟩
  exact .inr ⟨c,h1,hg,h2⟩
 ·rintro (⟨j,s,h3,h4⟩ | ⟨c,h1,_,h2⟩)
  ·exact absurd h4 (h j s (List.getElem?_eq_some_iff.1 h3).1 h3)
  ·refine ⟨c,h1,h2,?_⟩
   unfold QbR
   have:=h2.1
   omega
end
theorem Qdd (n:Nat) (g:D.Grid) (hc:g.Cells.size≤mx):Pure (Qo Tryz.prog (n+4)) 104 [(T.agg (Qc false g))] (tB (decide (Yg g=1))):=by
 refine Pure.intro (rs:= [ResultVar.tmp 2]) Tryz.func104 Y Y Y (E0:= [(0,(T.agg (Qc false g)))]) Y ?_
 obtain ⟨hlim,hmx,hmax⟩:=Qz
 refine sr (kO (B.box (ts:=(Qc false g)) (tv (T.agg (Qc false g)) Y) nofun Y) (fO (OF.assign (VEv.bool false)) (nt (sr (lO (OL.loadOn (us:=(Qc false g)) (tv (T.op 0 0) Y) Y Q6 Q0 (lb Y) Y) (cO (cS (vc (tv (T.agg (Qc false g)) Y) vn) (LendL.cons (lg Qx) ln) (Qgb (n+0) g (by assumption)) Y Y) (fO (B.eql (c:=(decide (Yg g=1))) (tv (tN (Yg g)) Y) (VEv.int .i64 1) (Qt (by omega))) (aO (tB (decide (Yg g=1))) Y (nt (rt ?_))))))))))
 exact vb Y Y
theorem Qdh (n:Nat) (g:D.Grid) (hc:g.Cells.size≤mx):Pure (Qo Tryz.prog (n+40)) 111 [(T.agg (Qc false g))] (tB (decide (Yg g=1))):=by
 refine Pure.intro (rs:= [ResultVar.tmp 2]) Tryz.func111 Y Y Y (E0:= [(0,(T.agg (Qc false g)))]) Y ?_
 obtain ⟨hlim,hmx,hmax⟩:=Qz
 refine sr (kO (B.box (ts:=(Qc false g)) (tv (T.agg (Qc false g)) Y) nofun Y) (fO (OF.assign (VEv.bool false)) (nt (sr (lO (OL.loadOn (us:=(Qc false g)) (tv (T.op 0 0) Y) Y Q6 Q0 (lb Y) Y) (cO (cS (vc (tv (T.agg (Qc false g)) Y) vn) (LendL.cons (lg Qx) ln) (Qgn (n+0) g (by assumption)) Y Y) (fO (B.eql (c:=(decide (Yg g=1))) (tv (tN (Yg g)) Y) (VEv.int .i64 1) (Qt (by omega))) (aO (tB (decide (Yg g=1))) Y (nt (rt ?_))))))))))
 exact vb Y Y
theorem Qg1 (n:Nat) (g:D.Grid) (hc:g.Cells.size≤mx):Pure (Qo Tryz.prog (n+9)) 66 [(T.agg (Qc false g))] (tI (Z9 g)):=by
 refine Pure.intro (rs:= [ResultVar.tmp 2]) Tryz.func66 Y Y Y (E0:= [(0,(T.agg (Qc false g)))]) Y ?_
 obtain ⟨hlim,hmx,hmax⟩:=Qz
 refine sr (kO (B.box (ts:=(Qc false g)) (tv (T.agg (Qc false g)) Y) nofun Y) (fO (OF.assign (VEv.int .i64 0)) (nt (sq (VRun.block (sr (lO (OL.loadOn (us:=(Qc false g)) (tv (T.op 0 0) Y) Y Q6 Q0 (lb Y) Y) (cO (cS (vc (tv (T.agg (Qc false g)) Y) vn) (LendL.cons (lg Qx) ln) (Z7 (n+6) g (by omega)) Y Y) (fO (QU (tv (tB (decide (gridOk g))) Y)) (aO (tB (!(decide (gridOk g)))) Y (nt ?_)))))))))))
 refine cn (gridOk g) Y (fun fhc0=> ?_) fun fhc0=> ?_
 ·refine sr ?_
  refine fO (OF.assign (VEv.int .i64 1)) (nt (rt (vinB.r (tr (vi (n':=1) Y ?_)))))
  exact (if_pos (by assumption)).symm
 refine sr (lO (OL.loadOn (us:=(Qc false g)) (tv (T.op 0 0) Y) Y Q6 Q0 (lb Y) Y) (cO (cS (vc (tv (T.agg (Qc false g)) Y) vn) (LendL.cons (lg Qx) ln) (QcR (n+4) g (by omega)) Y Y) (fO (QU (tv (tB (decide (Qfm g))) Y)) (aO (tB (!(decide (Qfm g)))) Y (nt ?_)))))
 refine cn (Qfm g) Y (fun fhc1=> ?_) fun fhc1=> ?_
 ·refine sr ?_
  refine fO (OF.assign (VEv.int .i64 2)) (nt (rt (vinB.r (tr (vi (n':=2) Y ?_)))))
  (simp only [Z9];simp [*];done)
 refine sr (lO (OL.loadOn (us:=(Qc false g)) (tv (T.op 0 0) Y) Y Q6 Q0 (lb Y) Y) (cO (cS (vc (tv (T.agg (Qc false g)) Y) vn) (LendL.cons (lg Qx) ln) (Qdd (n+4) g (by assumption)) Y Y) (fO (QU (tv (tB (decide (Yg g=1))) Y)) (aO (tB (!(decide (Yg g=1)))) Y (nt ?_)))))
 refine cn (Yg g=1) Y (fun fhc2=> ?_) fun fhc2=> ?_
 ·refine sr ?_
  refine fO (OF.assign (VEv.int .i64 3)) (nt (rt (vinB.r (tr (vi (n':=3) Y ?_)))))
  (simp only [Z9];simp [*];done)
 refine sr (lO (OL.loadOn (us:=(Qc false g)) (tv (T.op 0 0) Y) Y Q6 Q0 (lb Y) Y) (cO (cS (vc (tv (T.agg (Qc false g)) Y) vn) (LendL.cons (lg Qx) ln) (Qe1 (n+4) g (by omega)) Y Y) (aO (tB (decide (QcW g))) Y (nt ?_))))
 refine cd (QcW g) Y (fun fhc3=> ?_) fun fhc3=> ?_
 ·refine sr ?_
  refine fO (OF.assign (VEv.int .i64 4)) (nt (rt (vinB.r (tr (vi (n':=4) Y ?_)))))
  (simp only [Z9];simp [*];done)
 refine sr (lO (OL.loadOn (us:=(Qc false g)) (tv (T.op 0 0) Y) Y Q6 Q0 (lb Y) Y) (cO (cS (vc (tv (T.agg (Qc false g)) Y) vn) (LendL.cons (lg Qx) ln) (Qfl (n+0) g (by omega)) Y Y) (aO (tB (decide (QbY g))) Y (nt ?_))))
 refine cd (QbY g) Y (fun fhc4=> ?_) fun fhc4=> ?_
 ·refine sr ?_
  refine fO (OF.assign (VEv.int .i64 5)) (nt (rt (vinB.r (tr (vi (n':=5) Y ?_)))))
  (simp only [Z9];simp [*];done)
 refine sk (vinB.n (tn (sr (fO (OF.assign (VEv.int .i64 0)) (nt (rt (vi (n':=0) Y ?_)))))))
 (simp only [Z9];simp [*];done)
theorem QgW (n:Nat) (g:D.Grid) (hc:g.Cells.size≤mx):Pure (Qo Tryz.prog (n+41)) 71 [(T.agg (Qc false g))] (tI (Z9 g)):=by
 refine Pure.intro (rs:= [ResultVar.tmp 2]) Tryz.func71 Y Y Y (E0:= [(0,(T.agg (Qc false g)))]) Y ?_
 obtain ⟨hlim,hmx,hmax⟩:=Qz
 have hsl:=Zq g
 refine sr (kO (B.box (ts:=(Qc false g)) (tv (T.agg (Qc false g)) Y) nofun Y) (fO (OF.assign (VEv.int .i64 0)) (nt (sq (VRun.block (sr (lO (OL.loadOn (us:=(Qc false g)) (tv (T.op 0 0) Y) Y Q6 Q0 (lb Y) Y) (cO (cS (vc (tv (T.agg (Qc false g)) Y) vn) (LendL.cons (lg Qx) ln) (Yu (n+38) g (by omega)) Y Y) (fO (QU (tv (tB (decide (gridOk g))) Y)) (aO (tB (!(decide (gridOk g)))) Y (nt ?_)))))))))))
 refine cn (gridOk g) Y (fun fhc0=> ?_) fun fhc0=> ?_
 ·refine sr ?_
  refine fO (OF.assign (VEv.int .i64 1)) (nt (rt (vinB.r (tr (vi (n':=1) Y ?_)))))
  exact (if_pos fhc0).symm
 refine sr (lO (OL.loadOn (us:=(Qc false g)) (tv (T.op 0 0) Y) Y Q6 Q0 (lb Y) Y) (cO (cS (vc (tv (T.agg (Qc false g)) Y) vn) (LendL.cons (lg Qx) ln) (QcV (n+36) g (by omega)) Y Y) (fO (QU (tv (tB (decide (Qfm g))) Y)) (aO (tB (!(decide (Qfm g)))) Y (nt ?_)))))
 refine cn (Qfm g) Y (fun fhc1=> ?_) fun fhc1=> ?_
 ·refine sr ?_
  refine fO (OF.assign (VEv.int .i64 2)) (nt (rt (vinB.r (tr (vi (n':=2) Y ?_)))))
  unfold Z9;rw [if_neg (not_not_intro fhc0),if_pos fhc1]
 refine sr (lO (OL.loadOn (us:=(Qc false g)) (tv (T.op 0 0) Y) Y Q6 Q0 (lb Y) Y) (cO (cS (vc (tv (T.agg (Qc false g)) Y) vn) (LendL.cons (lg Qx) ln) (Qdh (n+0) g (by assumption)) Y Y) (fO (QU (tv (tB (decide (Yg g=1))) Y)) (aO (tB (!(decide (Yg g=1)))) Y (nt ?_)))))
 refine cn (Yg g=1) Y (fun fhc2=> ?_) fun fhc2=> ?_
 ·refine sr ?_
  refine fO (OF.assign (VEv.int .i64 3)) (nt (rt (vinB.r (tr (vi (n':=3) Y ?_)))))
  unfold Z9;rw [if_neg (not_not_intro fhc0),if_neg (not_not_intro fhc1),if_pos fhc2]
 refine sk (vinB.n (tn (sr (lO (OL.loadOn (us:=(Qc false g)) (tv (T.op 0 0) Y) Y Q6 Q0 (lb Y) Y) (cO (OC.callF (r':=(T.os 4 1 0 (((Qa g).map (Qk true)).length))) (objs:= [(Obj.rows 4 ((Qa g).map (Qk true)))]) Y (vc (tv (T.agg (Qc false g)) Y) vn) (LendL.cons (lg Qx) ln) (Qat (n+37) g (by omega)) Y) (aO (T.os 4 1 0 (((Qa g).map (Qk true)).length)) Y (nt (sq (sr (mO (T.os 4 1 0 (((Qa g).map (Qk true)).length)) Y (lO (B.lenO (m:=(Qa g).length) (tv (T.os 4 1 0 (((Qa g).map (Qk true)).length)) Y) Yj (List.length_map ..)) ?_)))))))))))
 refine fO (OF.move (VEv.int .i64 0)) (nt (VRun.block ?_))
 refine VRun.loop (A:=Nat) (fun s_=> [(1,(T.op 0 0)),(3,(T.os 4 1 0 (((Qa g).map (Qk true)).length))),(22,(T.os 4 1 0 (((Qa g).map (Qk true)).length))),(23,(tN ((Qa g).length))),(24,(tN s_))]) (fun s_=>QV [(0,(Obj.cells (Qc false g))),(1,(Obj.rows 4 ((Qa g).map (Qk true))))]) 2 (fun s_=>NoneTo (fun s:D.Slot=>s.Length<3) (Qa g) s_) (fun s_=>(Qa g).length - s_) (0:Nat) ?_ (Wk.mk (fun k=>k) ?_ ?_ ?_) ?_
 ·exact NoneTo.start _ _
 ·exact (b2 (b2 (b2 (b2 (b2 bn)))))
 ·exact (b3 (b3 bn))
 ·exact nd Y
 rintro i (hI':NoneTo (fun s:D.Slot=>s.Length<3) (Qa g) i)
 show VRun _ _ _ [(1,(T.op 0 0)),(3,(T.os 4 1 0 (((Qa g).map (Qk true)).length))),(22,(T.os 4 1 0 (((Qa g).map (Qk true)).length))),(23,(tN ((Qa g).length))),(24,(tN i))] (QV [(0,(Obj.cells (Qc false g))),(1,(Obj.rows 4 ((Qa g).map (Qk true))))]) 2 _
 have hI1:=hI'.1
 have hns:=hI'
 refine sr (fO (Q9 (tv (tN i) Y) (tv (tN ((Qa g).length)) Y)) (nt (sq ?_)))
 refine cd (i<(Qa g).length) Y (fun fhc3=> ?_) fun fhc3=> ?_
 ·have hx0:=fhc3
  refine sk (tn (sq (VRun.block (sr ?_))))
  obtain ⟨x1,hx1⟩:∃x,(Qa g)[i]? =some x:=⟨_,List.getElem?_eq_getElem (by omega)⟩
  refine fO (B.indexAddrO (i:=i) (tv (T.os 4 1 0 (((Qa g).map (Qk true)).length)) Y) (tv (tN i) Y) Y (by (simp only [List.length_map];omega)) Yj Zw QbJ) (lO (OL.loadPn (us:=(Qk false x1)) (row:=(Qk true x1)) (tv (T.orp 4 1 i 0) Y) Y (Qu _ hx1) QdV Zw (lb Y) Y (bc Y (bc Y (bc Y (bc Y bn))))) (kO (B.alloc (t:=(T.agg [(tN 0),(tB false),(tN 0),(tN 0)])) (ts:= [(tN 0),(tB false),(tN 0),(tN 0)]) YN QlJ nofun (fun _=> .agg _ _ Y (YS (RL.cons (.int _ _) (RL.cons (.bool _) (RL.cons (.int _ _) (RL.cons (.int _ _) (RL.nil _))))))) Y) (cO (B.storeW (us:=(Qk false x1)) (tv (T.op 2 0) Y) (tv (T.agg (Qk false x1)) Y) nofun Y Y Y QbJ Zw (bc Y (bc Y (bc Y (bc Y bn))))) (nt (sr (lf (tI x1.Length) Y QbA Y Y QS (fO (xls (tv (tI x1.Length) Y) (VEv.int .i64 3)) (nt ?_))))))))
  refine cd (x1.Length<3) Y (fun fhc4=> ?_) fun fhc4=> ?_
  ·refine sr ?_
   refine fO (OF.assign (VEv.int .i64 4)) (nt (rt (vinB.r (tr (tr (vinB.r (tr (vi (n':=4) Y ?_))))))))
   unfold Z9;rw [if_neg (not_not_intro fhc0),if_neg (not_not_intro fhc1),if_neg (not_not_intro fhc2),if_pos (show QcW g from ⟨x1,List.mem_of_getElem? hx1,fhc4⟩)]
  refine sk (vinB.n (tn (VRun.region (fO (QB (tv (tN i) Y) (VEv.int .i64 1) (by omega)) (mO (tN (i+1)) Y (VRunO.nil (tn ?_)))))))
  refine ⟨(i+1:Nat),?_,?_,Wk.mk (fun k=>k) ?_ ?_ ?_⟩
  ·exact hI'.next hx1 fhc4
  ·omega
  ·exact (b2 (b2 (b2 (b2 (b2 bn)))))
  ·exact (b3 (b3 bn))
  ·exact nd Y
 have hsh:¬QcW g:=by rintro ⟨y,hy,hy2⟩;exact hns.mem fhc3 y hy hy2
 refine VRun.exit (vthn.e (vthn.e (vinB.e (tn (sq (sr (mO (T.os 4 1 0 (((Qa g).map (Qk true)).length)) Y (lO (B.lenO (m:=(Qa g).length) (tv (T.os 4 1 0 (((Qa g).map (Qk true)).length)) Y) Yj (List.length_map ..)) (fO (OF.move (VEv.int .i64 0)) (nt (VRun.block ?_)))))))))))
 refine VRun.loop (A:=Nat) (fun s_=> [(1,(T.op 0 0)),(32,(T.os 4 1 0 (((Qa g).map (Qk true)).length))),(33,(tN ((Qa g).length))),(34,(tN s_))]) (fun s_=>QV [(0,(Obj.cells (Qc false g))),(1,(Obj.rows 4 ((Qa g).map (Qk true))))]) 2 (fun s_=>NoBad g s_) (fun s_=>(Qa g).length - s_) (0:Nat) ?_ (Wk.mk (fun k=>k) ?_ ?_ ?_) ?_
 ·exact NoBad.start _
 ·exact (b2 (b2 (b2 (b2 bn))))
 ·exact (b3 (b3 bn))
 ·exact nd Y
 rintro k (hI':NoBad g k)
 show VRun _ _ _ [(1,(T.op 0 0)),(32,(T.os 4 1 0 (((Qa g).map (Qk true)).length))),(33,(tN ((Qa g).length))),(34,(tN k))] (QV [(0,(Obj.cells (Qc false g))),(1,(Obj.rows 4 ((Qa g).map (Qk true))))]) 2 _
 have hJ1:=hI'.1
 have hub:=QlI g ((k:Nat):Int)
 refine sr (fO (Q9 (tv (tN k) Y) (tv (tN ((Qa g).length)) Y)) (nt (sq ?_)))
 refine cd (k<(Qa g).length) Y (fun fhc5=> ?_) fun fhc5=> ?_
 ·refine sk ?_
  refine tn (sq (VRun.block (sr (mO (tN k) Y ?_))))
  obtain ⟨x1,hx1⟩:∃x,(Qa g)[k]? =some x:=⟨_,List.getElem?_eq_getElem (by omega)⟩
  refine fO (B.indexAddrO (i:=k) (tv (T.os 4 1 0 (((Qa g).map (Qk true)).length)) Y) (tv (tN k) Y) Y (by (simp only [List.length_map];omega)) Yj Zw QbJ) (lO (OL.loadPn (us:=(Qk false x1)) (row:=(Qk true x1)) (tv (T.orp 4 1 k 0) Y) Y (Qu _ hx1) QdV Zw (lb Y) Y (bc Y (bc Y (bc Y (bc Y bn))))) (kO (B.alloc (t:=(T.agg [(tN 0),(tB false),(tN 0),(tN 0)])) (ts:= [(tN 0),(tB false),(tN 0),(tN 0)]) YN QlJ nofun (fun _=> .agg _ _ Y (YS (RL.cons (.int _ _) (RL.cons (.bool _) (RL.cons (.int _ _) (RL.cons (.int _ _) (RL.nil _))))))) Y) (aO (tN k) Y (cO (B.storeW (us:=(Qk false x1)) (tv (T.op 2 0) Y) (tv (T.agg (Qk false x1)) Y) nofun Y Y Y QbJ Zw (bc Y (bc Y (bc Y (bc Y bn))))) (nt (sq (VRun.draw (B:= [[],[],[1,0],[0,1,2],[],[4],[4,5,2,1,0,3]]) (by kernel_rfl) (by kernel_rfl) (lD (OL.loadOn (us:=(Qc false g)) (tv (T.op 0 0) Y) Y Q6 Q0 (lb Y) Y) Y Y (mD (tN k) Y Y (VRunD.quiet (bi:= [1,0]) Y VWant.always Y Y Y bn (cS (vc (tv (T.agg (Qc false g)) Y) (vc (tv (tN k) Y) vn)) (LendL.cons (lg Qx) (lp Y ln)) (Qc3 (n+33) g ((k:Nat):Int) (by omega)) Y Y) (fD (B.mul (n:=(2*unG g ((k:Nat):Int))) (VEv.int .i64 2) (tv (tI (unG g ((k:Nat):Int))) Y) (by (rw [Qs (by omega)];done))) Y Y ?_)))))))))))
  refine fD (OF.fieldAddrO (tv (T.op 2 0) Y) QbA) Y Y (lD (OL.loadO1 (t:=(tI x1.Length)) (tv (T.op 2 3) Y) Y Y QS) Y Y (fD (xgt (tv (tI (2*unG g ((k:Nat):Int))) Y) (tv (tI x1.Length) Y)) Y Y (VRunD.nil (tn ?_))))
  refine cd (x1.Length<(2*unG g ((k:Nat):Int))) Y (fun fhc6=> ?_) fun fhc6=> ?_
  ·have q1:Qfa g k x1:=by unfold Qfa;omega
   refine sr (fO (OF.assign (VEv.int .i64 5)) (nt (rt (vinB.r (tr (tr (vinB.r (tr (vi (n':=5) Y ?_)))))))))
   unfold Z9;rw [if_neg (not_not_intro fhc0),if_neg (not_not_intro fhc1),if_neg (not_not_intro fhc2),if_neg hsh,if_pos (show QbY g from .inl ⟨k,x1,hx1,q1⟩)]
  have q1:¬Qfa g k x1:=by unfold Qfa;omega
  refine sk (vinB.n (tn (VRun.region (fO (QB (tv (tN k) Y) (VEv.int .i64 1) (by omega)) (mO (tN (k+1)) Y (VRunO.nil (tn ?_)))))))
  refine ⟨(k+1:Nat),?_,?_,Wk.mk (fun k=>k) ?_ ?_ ?_⟩
  ·exact hI'.next hx1 q1
  ·omega
  ·exact (b2 (b2 (b2 (b2 bn))))
  ·exact (b3 (b3 bn))
  ·exact nd Y
 have hal:=QjO (g:=g) (fun j s hj=>hI'.2 j s (by omega)) (by simpa using fhc0)
 refine VRun.exit (vthn.e (vthn.e (vinB.e (tn (sq (sr (lO (OL.loadOn (us:=(Qc false g)) (tv (T.op 0 0) Y) Y Q6 Q0 (lb Y) Y) (lf (tS g.Cells) Y QL Y Y ZG (cO (cS (vc (tv (T.agg (Qc false g)) Y) (vc (tv (tS g.Cells) Y) vn)) (LendL.cons (lg Qx) (lp Y ln)) (Qh1 (n+35) g g.Cells (by omega) (by omega)) Y Y) (nt ?_))))))))))
 refine cd (QhW g g.Cells) Y (fun fhc7=> ?_) fun fhc7=> ?_
 ·refine sr ?_
  refine fO (OF.assign (VEv.int .i64 5)) (nt (rt (tr (vi (n':=5) Y ?_))))
  unfold Z9;rw [if_neg (not_not_intro fhc0),if_neg (not_not_intro fhc1),if_neg (not_not_intro fhc2),if_neg hsh,if_pos (hal.1 fhc7)]
 refine sk (tn (sr (fO (OF.assign (VEv.int .i64 0)) (nt (rt (vi (n':=0) Y ?_))))))
 unfold Z9;rw [if_neg (not_not_intro fhc0),if_neg (not_not_intro fhc1),if_neg (not_not_intro fhc2),if_neg hsh,if_neg (fun h=>fhc7 (hal.2 h))]
noncomputable section
def okC (c:D.Clue):Prop:=(1≤c.Sense∧c.Sense≤99)∧QJ c.Play
end
noncomputable section
theorem Qh2 {ok:Nat→Prop} [DecidablePred ok]:∀(f n k:Nat),n≤k→k<QaV ok f n→ok k
 | 0,n,k,h1,h2=>by simp only [QaV] at h2;omega
 | f+1,n,k,h1,h2=>by
  simp only [QaV] at h2
  split at h2
  ·by_cases e:k=n
   ·subst e;assumption
   ·exact Qh2 f (n+1) k (by omega) h2
  ·omega
theorem Qmr {g:D.Grid} {cell k:Nat} {down:Bool} (hg:gridOk g) (hc:cell<g.Cells.size) (hk:k<Qr g cell down):0≤((cell:Nat):Int)+((k:Nat):Int)*(if down=true then g.Cols else 1)∧((cell:Nat):Int)+((k:Nat):Int)*(if down=true then g.Cols else 1)<((g.Cells.size:Nat):Int):=by
 have hB:=hg.2.1
 obtain ⟨_,_,_,h4,h5⟩:=Qcn hg hc
 unfold Qr at hk
 cases down with
 | true =>
  rw [if_pos Y] at hk
  unfold Qg8 at hk
  split at hk
  ·have h1:=Qh2 _ _ k (Nat.zero_le _) hk
   have h2:=h5 k h1.1
   have h3:0≤((k:Nat):Int)*g.Cols:=Int.mul_nonneg (by omega) (by omega)
   rw [if_pos Y]
   omega
  ·omega
 | false =>
  rw [if_neg (by simp)] at hk
  unfold Qhp at hk
  split at hk
  ·have h1:=Qh2 _ _ k (Nat.zero_le _) hk
   have h2:=h4 k h1.1
   rw [if_neg (by simp),Int.mul_one]
   omega
  ·omega
theorem QeN (g:D.Grid):∀i,∀s∈(Qg g i).1,∃c:Nat,c<i∧s.Cell=((c:Nat):Int)∧s.Length=((Qr g c s.Down:Nat):Int)
 | 0,s,hs=>by simp [Qg] at hs
 | i+1,s,hs=>by
  rw [YH,List.mem_append,List.mem_append] at hs
  rcases hs with (hs | hs) | hs
  ·obtain ⟨c,h1,h2⟩:=QeN g i s hs
   exact ⟨c,by omega,h2⟩
  ·split at hs
   ·obtain rfl:=List.mem_singleton.1 hs
    exact ⟨i,by omega,rfl,rfl⟩
   ·cases hs
  ·split at hs
   ·obtain rfl:=List.mem_singleton.1 hs
    exact ⟨i,by omega,rfl,rfl⟩
   ·cases hs
theorem Qhe {g:D.Grid} {s:D.Slot} {c:Int} (hs:s∈Qa g) (hc:c∈Ql g s s.Length.toNat):0≤c∧c<((g.Cells.size:Nat):Int):=by
 have hg:=(Qbl hs).1
 unfold Qa at hs
 rw [if_pos hg] at hs
 obtain ⟨c0,h1,h2,h3⟩:=QeN g _ s hs
 unfold Ql at hc
 obtain ⟨k,hk,rfl⟩:=List.mem_map.1 hc
 rw [List.mem_range] at hk
 have:=Qmr (down:=s.Down) hg h1 (k:=k) (by omega)
 rw [h2]
 unfold Qgt
 exact this
def Jj (f:ByteArray) (l:List Int):List Int:=l.map fun c=>Qy f (Int.toNat c)
theorem Qlh {f:ByteArray} {l:List Int} {i:Nat} {c:Int} (h:l[i]? =some c):Jj f (l.take i)++ [Qy f (Int.toNat c)]=Jj f (l.take (i+1)):=by
 unfold Jj
 rw [List.take_add_one,h,Option.toList_some,List.map_append];rfl
theorem QlR (f:ByteArray) (l:List Int):(Jj f l).length=l.length:=by simp [Jj]
def pat (f:ByteArray) (l:List Int):ByteArray:=Q4 (Jj f l)
theorem Ql0 {f:ByteArray} {l:List Int} {i:Nat} {c:Int} (h:l[i]? =some c) (h1:0≤c∧c<((f.size:Nat):Int)):pat f (l.take (i+1))=pat f (l.take i)++f.extract (Int.toNat c) (Int.toNat (c+1)):=by
 have hc:Int.toNat c<f.data.toList.length:=by rw [Array.length_toList];show Int.toNat c<f.size;omega
 refine Qhw ?_
 unfold pat Jj
 rw [List.take_add_one,h,Option.toList_some,List.map_append,ZQ,ByteArray.data_append,Array.toList_append,ZQ,List.map_append]
 congr 1
 rw [ByteArray.data_extract,Array.toList_extract,List.extract_eq_take_drop,show Int.toNat (c+1) - Int.toNat c=1 by omega,List.drop_eq_getElem_cons hc]
 have hb:Qy f (Int.toNat c)=((f.data.toList[Int.toNat c]).toNat:Int):=by
  rw [← YZ (show Int.toNat c<f.size by omega)];rfl
 simp [hb]
theorem QiW (f:ByteArray) (l:List Int):(pat f l).size=l.length:=by
 show (pat f l).data.size=_
 rw [← Array.length_toList]
 unfold pat Jj
 rw [ZQ]
 simp
def Zi (g:D.Grid) (f:ByteArray) (slot:Int):ByteArray:=if 0≤slot then (match (Qa g)[slot.toNat]? with | some s=>if Q7 g f then pat f (Ql g s s.Length.toNat) else ⟨#[]⟩ | none=>⟨#[]⟩) else ⟨#[]⟩
theorem QcN {g:D.Grid} {f:ByteArray} {slot:Int} (h:¬Q7 g f∨¬(0≤slot∧slot≤(((Qa g).length:Nat):Int) - 1)):Zi g f slot=⟨#[]⟩:=by
 unfold Zi
 by_cases h0:0≤slot
 ·rw [if_pos h0]
  cases hs:(Qa g)[slot.toNat]? with
  | none=>rfl
  | some s =>
   have:=(List.getElem?_eq_some_iff.1 hs).1
   simp only
   rw [if_neg]
   rcases h with h | h
   ·exact h
   ·exact absurd ⟨h0,by omega⟩ h
 ·rw [if_neg h0]
theorem Qf3 {g:D.Grid} {f:ByteArray} {slot:Int} {s:D.Slot} (h0:0≤slot) (hs:(Qa g)[slot.toNat]? =some s) (hf:Q7 g f):Zi g f slot=pat f (Ql g s s.Length.toNat):=by
 unfold Zi
 rw [if_pos h0,hs]
 exact if_pos hf
def Zx (g:D.Grid) (f:ByteArray):List ByteArray:=if Q7 g f then (QP g).map (pat f) else []
theorem QiM {g:D.Grid} {f:ByteArray} {i:Nat} {x:ByteArray} (h:(Zx g f)[i]? =some x):x=Zi g f ((i:Nat):Int):=by
 unfold Zx at h
 split at h
 ·rename_i hf
  rw [List.getElem?_map] at h
  obtain ⟨y,h1,rfl⟩:=Option.map_eq_some_iff.1 h
  obtain ⟨s,h2,rfl⟩:=Qgx h1
  exact (Qf3 (by omega) h2 hf).symm
 ·simp at h
theorem QeC {g:D.Grid} {f:ByteArray} (h:Q7 g f):(Zx g f).length=(Qa g).length:=by
 unfold Zx
 rw [if_pos h,List.length_map,Qbc]
theorem Qoj {g:D.Grid} {s:D.Slot} {f:ByteArray} {i:Nat} {c:Int} (hf:Q7 g f) (h:(if s∈Qa g then Ql g s s.Length.toNat else [])[i]? =some c):0≤c∧c<((f.size:Nat):Int):=by
 have hm:=List.mem_of_getElem? h
 split at hm
 ·rename_i hs
  have:=Qhe hs hm
  have:=hf.2.1
  omega
 ·cases hm
end
theorem Qab (n:Nat) (g:D.Grid) (f:ByteArray) (slot:Int) (hc:g.Cells.size≤maxLen) (hf:f.size≤maxLen):Pure (Qo Tryz.prog (n+5)) 57 [(T.agg (Qc false g)),(tS f),(tI slot)] (tS (Zi g f slot)):=by
 refine Pure.intro (rs:= [ResultVar.tmp 6]) Tryz.func57 Y Y Y (E0:= [(0,(T.agg (Qc false g))),(1,(tS f)),(2,(tI slot))]) Y ?_
 obtain ⟨hlim,hmx,hmax⟩:=Qz
 have hsl:=Zq g
 refine sr (kO (B.box (ts:=(Qc false g)) (tv (T.agg (Qc false g)) Y) nofun Y) (fO (OF.assign (VEv.str (⟨#[]⟩:ByteArray))) (nt (sr (lO (OL.loadOn (us:=(Qc false g)) (tv (T.op 0 0) Y) Y Q6 Q0 (lb Y) Y) (cO (OC.callF (r':=(T.os 4 1 0 (((Qa g).map (Qk true)).length))) (objs:= [(Obj.rows 4 ((Qa g).map (Qk true)))]) Y (vc (tv (T.agg (Qc false g)) Y) vn) (LendL.cons (lg Qx) ln) (ZI (n+1) g (by assumption)) Y) (aO (T.os 4 1 0 (((Qa g).map (Qk true)).length)) Y (nt (sq (sr (lO (OL.loadOn (us:=(Qc false g)) (tv (T.op 0 0) Y) Y Q6 Q0 (lb Y) Y) ?_)))))))))))
 refine mO (tS f) Y (cO (cS (vc (tv (T.agg (Qc false g)) Y) (vc (tv (tS f) Y) vn)) (LendL.cons (lg Qx) (lp Y ln)) (QaL (n+1) g f (by assumption) (by assumption)) Y Y) (fO (QU (tv (tB (decide (Q7 g f))) Y)) (mO (tB (!(decide (Q7 g f)))) Y ?_)))
 refine VRunO.joinB 7 [18,19,20,21,22,23] 24 (tB (decide ((¬(Q7 g f))∨(¬(0≤slot∧slot≤((((Qa g).length:Nat):Int) - 1)))))) ?_ ?_
 ·refine gn (Q7 g f) (fun fhg17_1=> ?_) fun fhg17_1=> ?_
  ·refine QD 6 4 false 17 (ny fhg17_1) Y Y Y ?_
   refine fO (OF.pickT (VEv.tmpB Y (ny fhg17_1)) (VEv.bool true)) (VRunO.nil ?_)
   exact jq (congrArg T.bool (kOT fhg17_1)) (js Y (js Y (js Y (js Y (js Y (js Y (jn)))))))
  ·refine gF (nz fhg17_1) Y Y (OF.move (tv (tI slot) Y)) ?_
   refine gF (nz fhg17_1) Y Y (OF.move (tv (T.os 4 1 0 (((Qa g).map (Qk true)).length)) Y)) (gL (nz fhg17_1) Y Y (B.lenO (m:=(Qa g).length) (tv (T.os 4 1 0 (((Qa g).map (Qk true)).length)) Y) Yj (List.length_map ..)) (gF (nz fhg17_1) Y Y (B.sub (n:=((((Qa g).length:Nat):Int) - 1)) (tv (tN ((Qa g).length)) Y) (VEv.int .i64 1) (by (rw [Qs (by omega)];done))) (VRunO.chain (VWant.on Y Y (nz fhg17_1)) (cS (vc (tv (tI slot) Y) (vc (VEv.int .i64 0) (vc (tv (tI ((((Qa g).length:Nat):Int) - 1)) Y) vn))) (Zg Y) (Q2 (n+3) slot 0 ((((Qa g).length:Nat):Int) - 1)) Y Y) (gF (nz fhg17_1) Y Y (QU (tv (tB (decide (0≤slot∧slot≤((((Qa g).length:Nat):Int) - 1)))) Y)) (fO (OF.pickF (VEv.tmpB Y (nz fhg17_1)) (tv (tB (!(decide (0≤slot∧slot≤((((Qa g).length:Nat):Int) - 1))))) Y)) (VRunO.nil ?_))))))
   exact jq (congrArg T.bool (kOF (not_not_intro fhg17_1) dN)) (js Y (js Y (js Y (js Y (js Y (js Y (jn)))))))
 refine nt ?_
 refine cd ((¬(Q7 g f))∨(¬(0≤slot∧slot≤((((Qa g).length:Nat):Int) - 1)))) Y (fun fhc0=> ?_) fun fhc0=> ?_
 ·refine sr ?_
  refine fO (OF.assign (VEv.str (⟨#[]⟩:ByteArray))) (nt (rt (tr ?_)))
  refine vfin.eq (r':=(tS (⟨#[]⟩:ByteArray))) ?_ (vfin.r (VRes.tmp (t:=(tS (⟨#[]⟩:ByteArray))) Y VRes.nil) (Give.str _))
  refine congrArg T.str ?_
  exact (QcN fhc0).symm
 have hs0:0≤slot∧slot≤(((Qa g).length:Nat):Int) - 1:=Classical.byContradiction fun h=>fhc0 (.inr h)
 have hfi:Q7 g f:=Classical.byContradiction fun h=>fhc0 (.inl h)
 have hsz:=hfi.1.size
 refine sk (tn (sr (fO (OF.assign (VEv.str (⟨#[]⟩:ByteArray))) (nt (sq (VRun.draw (B:= [[],[],[],[2,1],[1,2,3],[3,2,1,4,0],[0,4,1,2,3,5]]) (by kernel_rfl) (by kernel_rfl) (lD (OL.loadOn (us:=(Qc false g)) (tv (T.op 0 0) Y) Y Q6 Q0 (lb Y) Y) Y Y (mD (T.os 4 1 0 (((Qa g).map (Qk true)).length)) Y Y (mD (tI slot) Y Y ?_)))))))))
 obtain ⟨x1,hx1⟩:∃x,(Qa g)[(Int.toNat slot)]? =some x:=⟨_,List.getElem?_eq_getElem (by omega)⟩
 skip
 refine fD (B.indexAddrO (i:=(Int.toNat slot)) (tv (T.os 4 1 0 (((Qa g).map (Qk true)).length)) Y) (tv (tI slot) Y) (by omega) (by (simp only [List.length_map];omega)) Yj Zw QbJ) Y Y (lD (OL.loadPn (us:=(Qk false x1)) (row:=(Qk true x1)) (tv (T.orp 4 1 (Int.toNat slot) 0) Y) Y (Qu _ hx1) QdV Zw (lb Y) Y (bc Y (bc Y (bc Y (bc Y bn))))) Y Y (VRunD.quiet (bi:= [3,2,1,4,0]) Y VWant.always Y Y Y bn (OC.callF (r':=(T.os 1 2 0 (((if x1∈Qa g then Ql g x1 x1.Length.toNat else []).map (Qe true)).length))) (objs:= [(Obj.rows 1 ((if x1∈Qa g then Ql g x1 x1.Length.toNat else []).map (Qe true)))]) Y (vc (tv (T.agg (Qc false g)) Y) (vc (tv (T.agg (Qk false x1)) Y) vn)) (LendL.cons (lg Qx) (LendL.cons (lg okeSlot) ln)) (Qaq (n+0) g x1 (by assumption)) Y) (fD (OF.assign (tv (T.os 1 2 0 (((if x1∈Qa g then Ql g x1 x1.Length.toNat else []).map (Qe true)).length)) Y)) Y Y (VRunD.nil (tn (sq (sr (fO (OF.assign (VEv.int .i64 0)) (nt (VRun.block ?_))))))))))
 refine VRun.loop (A:=Nat) (fun s_=> [(1,(tS f)),(6,(tS (⟨#[]⟩:ByteArray))),(8,(tS (pat f ((if x1∈Qa g then Ql g x1 x1.Length.toNat else []).take s_)))),(9,(T.os 1 0 0 (((if x1∈Qa g then Ql g x1 x1.Length.toNat else []).map (Qe true)).length))),(10,(tN s_))]) (fun s_=>QV [(0,(Obj.rows 1 ((if x1∈Qa g then Ql g x1 x1.Length.toNat else []).map (Qe true))))]) 1 (fun s_=>s_≤(if x1∈Qa g then Ql g x1 x1.Length.toNat else []).length) (fun s_=>(if x1∈Qa g then Ql g x1 x1.Length.toNat else []).length - s_) (0:Nat) ?_ (Wk.mk (fun k=>if k=0 then 2 else k) ?_ ?_ ?_) ?_
 ·(simp;done)
 ·exact (b2 (b2 (bc ⟨(congrArg T.str (show (⟨#[]⟩:ByteArray)=pat f ((if x1∈Qa g then Ql g x1 x1.Length.toNat else []).take 0) from (by rfl))),rfl⟩ (b2 (b2 bn)))))
 ·exact (b3 bn)
 ·exact nd Y
 rintro i (hI':i≤(if x1∈Qa g then Ql g x1 x1.Length.toNat else []).length)
 show VRun _ _ _ [(1,(tS f)),(6,(tS (⟨#[]⟩:ByteArray))),(8,(tS (pat f ((if x1∈Qa g then Ql g x1 x1.Length.toNat else []).take i)))),(9,(T.os 1 0 0 (((if x1∈Qa g then Ql g x1 x1.Length.toNat else []).map (Qe true)).length))),(10,(tN i))] (QV [(0,(Obj.rows 1 ((if x1∈Qa g then Ql g x1 x1.Length.toNat else []).map (Qe true))))]) 1 _
 have hI1:=hI'
 have hl6:=QhZ g x1
 have hps:=QiW f ((if x1∈Qa g then Ql g x1 x1.Length.toNat else []).take i)
 have htl:=YF (if x1∈Qa g then Ql g x1 x1.Length.toNat else []) i
 refine sq (sr (mO (tN i) Y (mO (T.os 1 0 0 (((if x1∈Qa g then Ql g x1 x1.Length.toNat else []).map (Qe true)).length)) Y (lO (B.lenO (m:=(if x1∈Qa g then Ql g x1 x1.Length.toNat else []).length) (tv (T.os 1 0 0 (((if x1∈Qa g then Ql g x1 x1.Length.toNat else []).map (Qe true)).length)) Y) Yi (List.length_map ..)) (fO (Q9 (tv (tN i) Y) (tv (tN ((if x1∈Qa g then Ql g x1 x1.Length.toNat else []).length)) Y)) (nt ?_))))))
 refine cd (i<(if x1∈Qa g then Ql g x1 x1.Length.toNat else []).length) Y (fun fhc1=> ?_) fun fhc1=> ?_
 ·refine sk ?_
  refine tn (sq (VRun.block (VRun.draw (B:= [[],[],[],[],[3,2],[2,3,4],[],[],[7,6],[6,7,8],[8,7,6,9],[9,6,7,8,10,4,3,2,5,1],[1,5,2,3,4,10,8,7,6,9,11,0],[0,11,9,6,7,8,10,4,3,2,5,1,12]]) (by kernel_rfl) (by kernel_rfl) (mD (tS (pat f ((if x1∈Qa g then Ql g x1 x1.Length.toNat else []).take i))) Y Y (mD (tS f) Y Y (mD (T.os 1 0 0 (((if x1∈Qa g then Ql g x1 x1.Length.toNat else []).map (Qe true)).length)) Y Y (mD (tN i) Y Y ?_)))))))
  obtain ⟨x2,hx2⟩:∃x,(if x1∈Qa g then Ql g x1 x1.Length.toNat else [])[i]? =some x:=⟨_,List.getElem?_eq_getElem (by omega)⟩
  have hcb:=Qoj hfi hx2
  refine fD (B.indexAddrO (i:=i) (tv (T.os 1 0 0 (((if x1∈Qa g then Ql g x1 x1.Length.toNat else []).map (Qe true)).length)) Y) (tv (tN i) Y) Y (by (simp only [List.length_map];omega)) Yi ZJ Y8) Y Y (lD (OL.loadP1 (t:=(tI x2)) (row:=(Qe true x2)) (tv (T.orp 1 0 i 0) Y) Y (Qu _ hx2) Y Y QS) Y Y (mD (T.os 1 0 0 (((if x1∈Qa g then Ql g x1 x1.Length.toNat else []).map (Qe true)).length)) Y Y (mD (tN i) Y Y (fD (B.indexAddrO (i:=i) (tv (T.os 1 0 0 (((if x1∈Qa g then Ql g x1 x1.Length.toNat else []).map (Qe true)).length)) Y) (tv (tN i) Y) Y (by (simp only [List.length_map];omega)) Yi ZJ Y8) Y Y (lD (OL.loadP1 (t:=(tI x2)) (row:=(Qe true x2)) (tv (T.orp 1 0 i 0) Y) Y (Qu _ hx2) Y Y QS) Y Y (fD (B.add (n:=(x2+1)) (tv (tI x2) Y) (VEv.int .i64 1) (by (rw [Qs (by omega)];done))) Y Y (lD (OL.sliceS (i:=(Int.toNat x2)) (j:=(Int.toNat (x2+1))) (tv (tS f) Y) (tv (tI x2) Y) (tv (tI (x2+1)) Y) (by omega) (by omega) (by omega) (by omega) U9) Y Y (fD (B.sadd (tv (tS (pat f ((if x1∈Qa g then Ql g x1 x1.Length.toNat else []).take i))) Y) (tv (tS (f.extract (Int.toNat x2) (Int.toNat (x2+1)))) Y) (by (simp only [ByteArray.size_extract];omega))) Y Y (fD (OF.assign (tv (tS (pat f ((if x1∈Qa g then Ql g x1 x1.Length.toNat else []).take i)++(f.extract (Int.toNat x2) (Int.toNat (x2+1))))) Y)) Y Y (VRunD.nil (vinB.n ?_)))))))))))
  refine tn (VRun.region (mO (tN i) Y (fO (QB (tv (tN i) Y) (VEv.int .i64 1) (by omega)) (aO (tN (i+1)) Y (VRunO.nil (tn ?_))))))
  refine ⟨(i+1:Nat),?_,?_,Wk.mk (fun k=>k) ?_ ?_ ?_⟩
  ·trivial
  ·omega
  ·exact (b2 (b2 (bc ⟨(congrArg T.str (show (pat f ((if x1∈Qa g then Ql g x1 x1.Length.toNat else []).take i)++(f.extract (Int.toNat x2) (Int.toNat (x2+1))))=pat f ((if x1∈Qa g then Ql g x1 x1.Length.toNat else []).take (i+1)) from (by exact (Ql0 hx2 hcb).symm))),rfl⟩ (b2 (b2 bn)))))
  ·exact (b3 bn)
  ·exact nd Y
 refine VRun.exit (vthn.e (vthn.e (vinB.e (tn (sr (mO (tS (pat f ((if x1∈Qa g then Ql g x1 x1.Length.toNat else []).take i))) Y (aO (tS (pat f ((if x1∈Qa g then Ql g x1 x1.Length.toNat else []).take i))) Y (nt (rt ?_)))))))))
 refine vfin.eq (r':=(tS (pat f ((if x1∈Qa g then Ql g x1 x1.Length.toNat else []).take i)))) ?_ (vfin.r (VRes.tmp (t:=(tS (pat f ((if x1∈Qa g then Ql g x1 x1.Length.toNat else []).take i)))) Y VRes.nil) (Give.str _))
 refine congrArg T.str ?_
 rw [Qf3 hs0.1 hx1 hfi,Y9 hI1 fhc1,Qh0 hx1]
theorem Qes (n:Nat) (f:ByteArray) (l:List Int) (hl:l.length≤64) (hb:∀c∈l,0≤c∧c<((f.size:Nat):Int)):Pure (Qo Tryz.prog (n+1)) 134 [(tS f),(rd 1 Qe l)] (tS (pat f l)):=by
 refine Pure.intro (rs:= [ResultVar.tmp 4]) Tryz.func134 Y Y Y (E0:= [(0,(tS f)),(1,(rd 1 Qe l))]) Y ?_
 obtain ⟨hlim,hmx,hmax⟩:=Qz
 refine sr (fO (OF.assign (VEv.str (⟨#[]⟩:ByteArray))) (nt (sr (fO (OF.assign VEv.nils) (nt (sq (sr (mO (rd 1 Qe l) Y (lO (B.lenR (m:=l.length) (tv (rd 1 Qe l) Y) Yi (List.length_map ..)) (fO (OF.move (VEv.int .i64 0)) (nt ?_)))))))))))
 refine VRun.block (VRun.wk (Wk.phantom 5 1 Y) ?_)
 have he1: []=((Jj f (l.take 0)).map (Qw true)):=by rfl
 refine VRun.loop (A:=Nat) (fun s_=> [(0,(tS f)),(4,(tS (⟨#[]⟩:ByteArray))),(5,(T.os 1 0 0 (((Jj f (l.take s_)).map (Qw true)).length))),(8,(rd 1 Qe l)),(9,(tN l.length)),(10,(tN s_))]) (fun s_=>QV [(0,(Obj.rows 1 ((Jj f (l.take s_)).map (Qw true))))]) 1 (fun s_=>s_≤l.length) (fun s_=>l.length - s_) (0:Nat) ?_ (Wk.mk (fun k=>k) ?_ ?_ ?_) ?_
 ·(simp;done)
 ·exact (b2 (b2 (bc ⟨(congrArg (fun n_=>T.os 1 0 0 n_) (show 0=((Jj f (l.take 0)).map (Qw true)).length from (by rfl))),rfl⟩ (b2 (b2 (b2 bn))))))
 ·exact (bc ⟨(congrArg (fun l_=>some (Obj.rows 1 l_)) he1),(lb Y),rfl⟩ bn)
 ·exact nd Y
 rintro i (hI':i≤l.length)
 show VRun _ _ _ [(0,(tS f)),(4,(tS (⟨#[]⟩:ByteArray))),(5,(T.os 1 0 0 (((Jj f (l.take i)).map (Qw true)).length))),(8,(rd 1 Qe l)),(9,(tN l.length)),(10,(tN i))] (QV [(0,(Obj.rows 1 ((Jj f (l.take i)).map (Qw true))))]) 1 _
 have hI1:=hI'
 have htl:=YF l i
 have hcl:=QlR f (l.take i)
 refine sr (fO (Q9 (tv (tN i) Y) (tv (tN l.length) Y)) (nt (sq ?_)))
 refine cd (i<l.length) Y (fun fhc0=> ?_) fun fhc0=> ?_
 ·refine sk ?_
  refine tn (sq (VRun.block (sr ?_)))
  obtain ⟨x1,hx1⟩:∃x,l[i]? =some x:=⟨_,List.getElem?_eq_getElem (by omega)⟩
  have hbx:=hb _ (List.mem_of_getElem? hx1)
  refine fO (OF.indexAddrR (row:=(Qe false x1)) (i:=i) (tv (rd 1 Qe l) Y) (tv (tN i) Y) Y (Qu _ hx1) Yi ZJ Y8) (lO (OL.loadR1 (t:=(tI x1)) (tv (T.rp [(tI x1)]) Y) Y QS) (aO (tI x1) Y (nt (VRun.region (mO (T.os 1 0 0 (((Jj f (l.take i)).map (Qw true)).length)) Y (mO (tS f) Y (mO (tI x1) Y ?_)))))))
  have hb2:(Int.toNat x1)<f.size:=(by omega)
  refine fO (B.index (n:=(Qy f (Int.toNat x1))) (i:=(Int.toNat x1)) (tv (tS f) Y) (tv (tI x1) Y) (by omega) hb2 U9 (YZ hb2)) (kO (OM.buildSlice (l:= [(T.int .u8 (Qy f (Int.toNat x1)))]) (VEvp.cons (tv (T.int .u8 (Qy f (Int.toNat x1))) Y) VEvp.nil) Y (by decide) (bc (nofun) bn) (bc ((bc (Y) bn)) bn) (bc (Y) bn) Qbg zo5 (by kernel_rfl) Y (by rw [sz5];decide) sz5 (Nat.le_of_ble_eq_true Y)) (cO (B.append (rows:=((Jj f (l.take i)).map (Qw true))) (rows2:= [[(T.int .u8 (Qy f (Int.toNat x1)))]]) (rows3:=((Jj f (l.take i)++ [Qy f (Int.toNat x1)]).map (Qw true))) (VDst.own (tv (T.os 1 0 0 (((Jj f (l.take i)).map (Qw true)).length)) Y) Y Y) (VSrc.own (tv (T.os 1 1 0 1) Y) Y Y Qbg (bc (bc Y bn) bn)) (by decide) Qbg sz5 (by decide) zo5 Y (of_decide_eq_true (by kernel_rfl)) (by (simp only [List.length_map,List.length_append,List.length_cons,List.length_nil,List.length_replicate,List.length_set,List.length_drop,List.length_take,Zk] at *;omega)) ((List.map_append (f:=Qw true) (l₁:=Jj f (l.take i)) (l₂:= [Qy f (Int.toNat x1)])).symm)) (aO (T.os 1 2 0 (((Jj f (l.take i)++ [Qy f (Int.toNat x1)]).map (Qw true)).length)) Y (VRunO.nil (vinB.n (tn (VRun.region (fO (QB (tv (tN i) Y) (VEv.int .i64 1) (by omega)) (mO (tN (i+1)) Y (VRunO.nil (tn ?_)))))))))))
  have he3:(Jj f (l.take i)++ [Qy f (Int.toNat x1)])=Jj f (l.take (i+1)):=by exact Qlh hx1
  refine ⟨(i+1:Nat),?_,?_,Wk.mk (fun k=>if k=0 then 2 else k) ?_ ?_ ?_⟩
  ·trivial
  ·omega
  ·exact (b2 (b2 (bc ⟨(congrArg (fun l_=>T.os 1 2 0 (List.map (Qw true) l_).length) he3),rfl⟩ (b2 (b2 (b2 bn))))))
  ·exact (bc ⟨(congrArg (fun l_=>some (Obj.rows 1 (List.map (Qw true) l_))) he3),(lb Y),rfl⟩ bn)
  ·exact nd Y
 refine VRun.exit (vthn.e (vthn.e (vinB.e (tn (sr (mO (T.os 1 0 0 (((Jj f (l.take i)).map (Qw true)).length)) Y (lO (B.convBS (l:=Jj f (l.take i)) (tv (T.os 1 0 0 (((Jj f (l.take i)).map (Qw true)).length)) Y) Y (List.length_map ..) Qbg U5 U9) (aO (tS (Q4 (Jj f (l.take i)))) Y (nt (rt ?_))))))))))
 refine vfin.eq (r':=(tS (Q4 (Jj f (l.take i))))) ?_ (vfin.r (VRes.tmp (t:=(tS (Q4 (Jj f (l.take i))))) Y VRes.nil) (Give.str _))
 refine congrArg T.str ?_
 rw [Y9 hI' fhc0];rfl
theorem QbG (n:Nat) (g:D.Grid) (f:ByteArray) (hc:g.Cells.size≤maxLen) (hf:f.size≤maxLen):Pure (Qo Tryz.prog (n+5)) 98 [(T.agg (Qc false g)),(tS f)] (T.sl true 1 ((Zx g f).map (Qj true))):=by
 refine Pure.intro (rs:= [ResultVar.tmp 4]) Tryz.func98 Y Y Y (E0:= [(0,(T.agg (Qc false g))),(1,(tS f))]) Y ?_
 obtain ⟨hlim,hmx,hmax⟩:=Qz
 have hsl:=Zq g
 have hll:=Qbc g
 refine sr (kO (B.box (ts:=(Qc false g)) (tv (T.agg (Qc false g)) Y) nofun Y) (fO (OF.assign VEv.nils) (nt (sq (sr (lO (OL.loadOn (us:=(Qc false g)) (tv (T.op 0 0) Y) Y Q6 Q0 (lb Y) Y) (mO (tS f) Y (cO (cS (vc (tv (T.agg (Qc false g)) Y) (vc (tv (tS f) Y) vn)) (LendL.cons (lg Qx) (lp Y ln)) (Qcy (n+1) g f (by assumption) (by assumption)) Y Y) (fO (QU (tv (tB (decide (Q7 g f))) Y)) (nt ?_))))))))))
 refine cn (Q7 g f) Y (fun fhc0=> ?_) fun fhc0=> ?_
 ·refine sr ?_
  refine fO (OF.assign VEv.nils) (nt (rt (tr ?_)))
  refine vfin.eq (r':=(T.sl true 1 [])) ?_ (vfin.r (VRes.tmp (t:=T.nils) Y VRes.nil) (Give.nils 1))
  refine congrArg (fun l_=>T.sl true 1 (List.map (Qj true) l_)) (a₁:= []) ?_
  exact (if_neg fhc0).symm
 refine sk (tn (sr (fO (OF.assign VEv.nils) (nt (sq (sr (lO (OL.loadOn (us:=(Qc false g)) (tv (T.op 0 0) Y) Y Q6 Q0 (lb Y) Y) (cO (OC.callF (r':=(T.os 1 1 0 (((QP g).map ((Jg 1 Qe) true)).length))) (objs:= [(Obj.rows 1 ((QP g).map ((Jg 1 Qe) true)))]) Y (vc (tv (T.agg (Qc false g)) Y) vn) (LendL.cons (lg Qx) ln) (JJ (n+0) g (by assumption)) Y) (lO (B.lenO (m:=(QP g).length) (tv (T.os 1 1 0 (((QP g).map ((Jg 1 Qe) true)).length)) Y) Qgl (List.length_map ..)) (fO (OF.move (VEv.int .i64 0)) (nt ?_)))))))))))
 refine VRun.block (VRun.wk (Wk.freeze (sz:=1) (k:=1) (rows':=((QP g).map ((Jg 1 Qe) false))) [13] (bc Y bn) Y Y ((QlA okInt).fzMap _ _)) (VRun.wk (Wk.phantom 5 1 Y) ?_))
 have he1: []=((((QP g).take 0).map (pat f)).map (Qj true)):=by rfl
 refine VRun.loop (A:=Nat) (fun s_=> [(1,(tS f)),(4,T.nils),(5,(T.os 1 0 0 (((((QP g).take s_).map (pat f)).map (Qj true)).length))),(13,(rd 1 (Jg 1 Qe) (QP g))),(14,(tN ((QP g).length))),(15,(tN s_))]) (fun s_=>QV [(0,(Obj.rows 1 ((((QP g).take s_).map (pat f)).map (Qj true))))]) 1 (fun s_=>s_≤(QP g).length) (fun s_=>(QP g).length - s_) (0:Nat) ?_ (Wk.mk (fun k=>if k=0 then 2 else k) ?_ ?_ ?_) ?_
 ·(simp;done)
 ·exact (b2 (b2 (bc ⟨(congrArg (fun n_=>T.os 1 2 0 n_) (show 0=((((QP g).take 0).map (pat f)).map (Qj true)).length from (by rfl))),rfl⟩ (b2 (b2 (b2 bn))))))
 ·exact (bc ⟨(congrArg (fun l_=>some (Obj.rows 1 l_)) he1),(lb Y),rfl⟩ bn)
 ·exact nd Y
 rintro i (hI':i≤(QP g).length)
 show VRun _ _ _ [(1,(tS f)),(4,T.nils),(5,(T.os 1 0 0 (((((QP g).take i).map (pat f)).map (Qj true)).length))),(13,(rd 1 (Jg 1 Qe) (QP g))),(14,(tN ((QP g).length))),(15,(tN i))] (QV [(0,(Obj.rows 1 ((((QP g).take i).map (pat f)).map (Qj true))))]) 1 _
 have hI1:=hI'
 have htl:=YF (QP g) i
 refine sr (fO (Q9 (tv (tN i) Y) (tv (tN ((QP g).length)) Y)) (nt (sq ?_)))
 refine cd (i<(QP g).length) Y (fun fhc1=> ?_) fun fhc1=> ?_
 ·refine sk ?_
  refine tn (sq (VRun.block (sr ?_)))
  obtain ⟨x1,hx1⟩:∃x,(QP g)[i]? =some x:=⟨_,List.getElem?_eq_getElem (by omega)⟩
  obtain ⟨y1,hy1,hq1⟩:=Qgx hx1
  refine fO (OF.indexAddrR (row:=((Jg 1 Qe) false x1)) (i:=i) (tv (rd 1 (Jg 1 Qe) (QP g)) Y) (tv (tN i) Y) Y (Qu _ hx1) Qgl Qg2 QjR) (lO (OL.loadR1 (t:=(rd 1 Qe x1)) (tv (T.rp [(rd 1 Qe x1)]) Y) Y QeD) (aO (rd 1 Qe x1) Y (nt (VRun.region (mO (T.os 1 0 0 (((((QP g).take i).map (pat f)).map (Qj true)).length)) Y (mO (tS f) Y (mO (rd 1 Qe x1) Y (cO (cS (vc (tv (tS f) Y) (vc (tv (rd 1 Qe x1) Y) vn)) (Zg Y) (Qes (n+3) f x1 (by (rw [hq1];exact Nat.le_trans (Qcf hy1) (by decide))) (by (rw [hq1];intro c hc;have:=Qhe (List.mem_of_getElem? hy1) hc;have:=fhc0.2.1;omega))) Y Y) (kO (OM.buildSlice (l:= [(tS (pat f x1))]) (VEvp.cons (tv (tS (pat f x1)) Y) VEvp.nil) Y (by decide) (bc (nofun) bn) (bc ((bc (Y) bn)) bn) (bc (Y) bn) Jm zo9 (by kernel_rfl) Y (by rw [Ji];decide) Ji (Nat.le_of_ble_eq_true Y)) (cO (B.append (rows:=((((QP g).take i).map (pat f)).map (Qj true))) (rows2:= [[(tS (pat f x1))]]) (rows3:=((((QP g).take i).map (pat f)++ [pat f x1]).map (Qj true))) (VDst.own (tv (T.os 1 0 0 (((((QP g).take i).map (pat f)).map (Qj true)).length)) Y) Y Y) (VSrc.own (tv (T.os 1 1 0 1) Y) Y Y Jm (bc (bc Y bn) bn)) (by decide) Jm Ji (by decide) zo9 Y (of_decide_eq_true (by kernel_rfl)) (by (simp only [List.length_map,List.length_append,List.length_cons,List.length_nil,List.length_replicate,List.length_set,List.length_drop,List.length_take,Zk] at *;omega)) ((List.map_append (f:=Qj true) (l₁:=((QP g).take i).map (pat f)) (l₂:= [pat f x1])).symm)) (aO (T.os 1 2 0 (((((QP g).take i).map (pat f)++ [pat f x1]).map (Qj true)).length)) Y ?_)))))))))))
  refine VRunO.nil (vinB.n (tn (VRun.region (fO (QB (tv (tN i) Y) (VEv.int .i64 1) (by omega)) (mO (tN (i+1)) Y (VRunO.nil (tn ?_)))))))
  have he2:(((QP g).take i).map (pat f)++ [pat f x1])=((QP g).take (i+1)).map (pat f):=by (rw [List.take_add_one,hx1,Option.toList_some,List.map_append];rfl)
  refine ⟨(i+1:Nat),?_,?_,Wk.mk (fun k=>if k=0 then 2 else k) ?_ ?_ ?_⟩
  ·trivial
  ·omega
  ·exact (b2 (b2 (bc ⟨(congrArg (fun l_=>T.os 1 2 0 (List.map (Qj true) l_).length) he2),rfl⟩ (b2 (b2 (b2 bn))))))
  ·exact (bc ⟨(congrArg (fun l_=>some (Obj.rows 1 (List.map (Qj true) l_))) he2),(lb Y),rfl⟩ bn)
  ·exact nd Y
 refine VRun.exit (vthn.e (vthn.e (vinB.e (tn (sr (mO (T.os 1 0 0 (((((QP g).take i).map (pat f)).map (Qj true)).length)) Y (aO (T.os 1 0 0 (((((QP g).take i).map (pat f)).map (Qj true)).length)) Y (nt (rt ?_)))))))))
 refine vfin.eq (r':=(T.sl true 1 ((((QP g).take i).map (pat f)).map (Qj true)))) ?_ (vfin.r (VRes.tmp (t:=(T.os 1 0 0 (((((QP g).take i).map (pat f)).map (Qj true)).length))) Y VRes.nil) (Give.os Y Y (okStr.cleanMap _)))
 refine congrArg (fun l_=>T.sl true 1 (List.map (Qj true) l_)) ?_
 rw [Y9 hI' fhc1,Zx,if_pos (by simpa using fhc0)]
noncomputable section
theorem QbC (n:Int) {m:Int} (h:0<m): -m<n.tmod m∧n.tmod m<m:=⟨Int.lt_tmod_of_pos n h,Int.tmod_lt_of_pos n h⟩
def Jn (n m:Int):Int:=if 1≤m∧m≤1000000000000 then (n.tmod m+m).tmod m else 0
theorem QhP (n:Int):0≤Jn n 2147483647∧Jn n 2147483647<2147483647:=by
 unfold Jn
 rw [if_pos (by omega)]
 have h1:=QbC n (m:=2147483647) (by decide)
 have h2:=QbC (n.tmod 2147483647+2147483647) (m:=2147483647) (by decide)
 exact ⟨Int.tmod_nonneg _ (by omega),h2.2⟩
def QdP (d x:Int):Int:=(d*1000003+Jn x 2147483647+13).tmod 2147483647
def Zd (l:List Int):Int:=l.foldl QdP 11
theorem Qgv {d x:Int} (h:0≤d∧d<2147483647):0≤QdP d x∧QdP d x<2147483647:=by
 have h1:=QhP x
 unfold QdP
 exact ⟨Int.tmod_nonneg _ (by omega),(QbC _ (by decide)).2⟩
theorem Qhq : ∀(l:List Int) (d:Int),0≤d∧d<2147483647→0≤l.foldl QdP d∧l.foldl QdP d<2147483647
 | [],d,h=>h
 | x::r,d,h=>Qhq r _ (Qgv h)
theorem Qjo (l:List Int):0≤Zd l∧Zd l<2147483647:=Qhq l 11 (by decide)
theorem QfU {l:List Int} {i:Nat} {x:Int} (h:l[i]? =some x):Zd (l.take (i+1))=QdP (Zd (l.take i)) x:=by
 unfold Zd
 rw [List.take_add_one,h,Option.toList_some,List.foldl_append]
 rfl
theorem Qma (s:ByteArray) (i:Nat):0≤Qy s i∧Qy s i<256:=by
 unfold Qy
 split
 ·have:=(s[i]).toNat_lt
  omega
 ·decide
theorem QhR {s:ByteArray} {i:Nat} (h:i<s.size):(Zo s)[i]? =some (Qy s i):=by
 unfold Zo
 rw [List.getElem?_map,List.getElem?_eq_getElem (by rw [Array.length_toList];exact h),Option.map_some,← YZ h]
 rfl
theorem QfI {s:ByteArray} {i:Nat} (h:i<s.size):(Zo s).take i++ [Qy s i]=(Zo s).take (i+1):=by
 rw [List.take_add_one,QhR h];rfl
def JY (salt slot:Int) (w:ByteArray):Int:=if Qm w then Zd ([salt,slot,((w.size:Nat):Int)]++Zo w) else 0
def Qgo (seals:List Int) (salt slot:Int) (w:ByteArray):Prop:=0≤slot∧Qm w∧seals[slot.toNat]? =some (JY salt slot w)
instance (seals:List Int) (salt slot:Int) (w:ByteArray):Decidable (Qgo seals salt slot w):=Classical.propDecidable _
theorem Qkj {seals:List Int} {salt slot x:Int} {w:ByteArray} (h0:0≤slot) (hw:Qm w) (hx:seals[slot.toNat]? =some x):JY salt slot w=x↔Qgo seals salt slot w:=by
 unfold Qgo
 rw [hx]
 exact ⟨fun h=>⟨h0,hw,by rw [h]⟩,fun h=>(Option.some.inj h.2.2).symm⟩
theorem Qfv {seals:List Int} {salt slot:Int} {w:ByteArray} (h:Qgo seals salt slot w):slot<((seals.length:Nat):Int):=by
 have:=(List.getElem?_eq_some_iff.1 h.2.2).1
 omega
end
theorem Qj7 (n:Nat) (n0:Int) (m:Int):Pure (Qo Tryz.prog (n+2)) 142 [(tI n0),(tI m)] (tI (Jn n0 m)):=by
 refine Pure.intro (rs:= [ResultVar.tmp 4]) Tryz.func142 Y Y Y (E0:= [(0,(tI n0)),(1,(tI m))]) Y ?_
 obtain ⟨hlim,hmx,hmax⟩:=Qz
 refine sr (fO (OF.assign (VEv.int .i64 0)) (nt (sq (sr (mO (tI m) Y (cO (cS (vc (tv (tI m) Y) (vc (VEv.int .i64 1) (vc (VEv.int .i64 1000000000000) vn))) (Zg Y) (Q2 (n+0) m 1 1000000000000) Y Y) (fO (QU (tv (tB (decide (1≤m∧m≤1000000000000))) Y)) (nt ?_))))))))
 refine cn (1≤m∧m≤1000000000000) Y (fun fhc0=> ?_) fun fhc0=> ?_
 ·refine sr ?_
  refine fO (OF.assign (VEv.int .i64 0)) (nt (rt (tr (vi (n':=0) Y ?_))))
  unfold Jn;rw [if_neg fhc0]
 have hmd:=QbC n0 (m:=m) (by omega)
 have hmd2:=QbC (n0.tmod m+m) (m:=m) (by omega)
 refine sk (tn (sr (mO (tI n0) Y (mO (tI m) Y (fO (B.rem (n:=(n0.tmod m)) (tv (tI n0) Y) (tv (tI m) Y) (by omega) (by rfl)) (mO (tI m) Y (fO (B.add (n:=((n0.tmod m)+m)) (tv (tI (n0.tmod m)) Y) (tv (tI m) Y) (by (rw [Qs (by omega)];done))) (mO (tI m) Y (fO (B.rem (n:=(((n0.tmod m)+m).tmod m)) (tv (tI ((n0.tmod m)+m)) Y) (tv (tI m) Y) (by omega) (by rfl)) (aO (tI (((n0.tmod m)+m).tmod m)) Y (nt ?_)))))))))))
 refine rt (vi (n':=(((n0.tmod m)+m).tmod m)) Y ?_)
 unfold Jn;rw [if_pos (by omega)]
theorem QjS (n:Nat) (n0:Int) (m:Int):Pure (Qo Tryz.prog (n+2)) 148 [(tI n0),(tI m)] (tI (Jn n0 m)):=by
 refine Pure.intro (rs:= [ResultVar.tmp 4]) Tryz.func148 Y Y Y (E0:= [(0,(tI n0)),(1,(tI m))]) Y ?_
 obtain ⟨hlim,hmx,hmax⟩:=Qz
 refine sr (fO (OF.assign (VEv.int .i64 0)) (nt (sq (sr (mO (tI m) Y (cO (cS (vc (tv (tI m) Y) (vc (VEv.int .i64 1) (vc (VEv.int .i64 1000000000000) vn))) (Zg Y) (ZB (n+0) m 1 1000000000000) Y Y) (fO (QU (tv (tB (decide (1≤m∧m≤1000000000000))) Y)) (nt ?_))))))))
 refine cn (1≤m∧m≤1000000000000) Y (fun fhc0=> ?_) fun fhc0=> ?_
 ·refine sr ?_
  refine fO (OF.assign (VEv.int .i64 0)) (nt (rt (tr (vi (n':=0) Y ?_))))
  unfold Jn;rw [if_neg fhc0]
 have hmd:=QbC n0 (m:=m) (by omega)
 have hmd2:=QbC (n0.tmod m+m) (m:=m) (by omega)
 refine sk (tn (sr (mO (tI n0) Y (mO (tI m) Y (fO (B.rem (n:=(n0.tmod m)) (tv (tI n0) Y) (tv (tI m) Y) (by omega) (by rfl)) (mO (tI m) Y (fO (B.add (n:=((n0.tmod m)+m)) (tv (tI (n0.tmod m)) Y) (tv (tI m) Y) (by (rw [Qs (by omega)];done))) (mO (tI m) Y (fO (B.rem (n:=(((n0.tmod m)+m).tmod m)) (tv (tI ((n0.tmod m)+m)) Y) (tv (tI m) Y) (by omega) (by rfl)) (aO (tI (((n0.tmod m)+m).tmod m)) Y (nt ?_)))))))))))
 refine rt (vi (n':=(((n0.tmod m)+m).tmod m)) Y ?_)
 unfold Jn;rw [if_pos (by omega)]
theorem QiJ (n:Nat) (l:List Int) (hl:l.length≤Zk):Pure (Qo Tryz.prog (n+3)) 107 [(rd 1 Qe l)] (tI (Zd l)):=by
 refine Pure.intro (rs:= [ResultVar.tmp 2]) Tryz.func107 Y Y Y (E0:= [(0,(rd 1 Qe l))]) Y ?_
 obtain ⟨hlim,hmx,hmax⟩:=Qz
 refine sr (fO (OF.assign (VEv.int .i64 0)) (nt (sr (fO (OF.assign (VEv.int .i64 11)) (nt (sq (sr (fO (OF.assign (VEv.int .i64 0)) (nt (VRun.block ?_))))))))))
 refine VRun.loop (A:=Nat) (fun s_=> [(0,(rd 1 Qe l)),(2,(tN 0)),(3,(tI (Zd (l.take s_)))),(4,(tN s_))]) (fun s_=>QV []) 0 (fun s_=>s_≤l.length) (fun s_=>l.length - s_) (0:Nat) ?_ (Wk.mk (fun k=>k) ?_ ?_ ?_) ?_
 ·(simp;done)
 ·exact (b2 (b2 (bc ⟨(congrArg (T.int .i64) (show 11=Zd (l.take 0) from (by rfl))),rfl⟩ (b2 bn))))
 ·exact bn
 ·exact nd Y
 rintro i (hI':i≤l.length)
 show VRun _ _ _ [(0,(rd 1 Qe l)),(2,(tN 0)),(3,(tI (Zd (l.take i)))),(4,(tN i))] (QV []) 0 _
 have hhb:=Qjo (l.take i)
 refine sq (sr (mO (tN i) Y (mO (rd 1 Qe l) Y (lO (B.lenR (m:=l.length) (tv (rd 1 Qe l) Y) Yi (List.length_map ..)) (fO (Q9 (tv (tN i) Y) (tv (tN l.length) Y)) (nt ?_))))))
 refine cd (i<l.length) Y (fun fhc0=> ?_) fun fhc0=> ?_
 ·refine sk ?_
  refine tn (sq (VRun.block (VRun.region (mO (tI (Zd (l.take i))) Y (fO (B.mul (n:=(Zd (l.take i)*1000003)) (tv (tI (Zd (l.take i))) Y) (VEv.int .i64 1000003) (by (rw [Qs (by omega)];done))) (mO (rd 1 Qe l) Y (mO (tN i) Y ?_)))))))
  obtain ⟨x1,hx1⟩:∃x,l[i]? =some x:=⟨_,List.getElem?_eq_getElem (by omega)⟩
  have hmz:=QhP x1
  have hhs:=Qgv (x:=x1) hhb
  have hhs2:QdP (Zd (l.take i)) x1=(Zd (l.take i)*1000003+Jn x1 2147483647+13).tmod 2147483647:=rfl
  refine fO (OF.indexAddrR (row:=(Qe false x1)) (i:=i) (tv (rd 1 Qe l) Y) (tv (tN i) Y) Y (Qu _ hx1) Yi ZJ Y8) (lO (OL.loadR1 (t:=(tI x1)) (tv (T.rp [(tI x1)]) Y) Y QS) (cO (cS (vc (tv (tI x1) Y) (vc (VEv.int .i64 2147483647) vn)) (Zg Y) (Qj7 (n+0) x1 2147483647) Y Y) (fO (B.add (n:=((Zd (l.take i)*1000003)+Jn x1 2147483647)) (tv (tI (Zd (l.take i)*1000003)) Y) (tv (tI (Jn x1 2147483647)) Y) (by (rw [Qs (by omega)];done))) (fO (B.add (n:=(((Zd (l.take i)*1000003)+Jn x1 2147483647)+13)) (tv (tI ((Zd (l.take i)*1000003)+Jn x1 2147483647)) Y) (VEv.int .i64 13) (by (rw [Qs (by omega)];done))) (fO (B.rem (n:=((((Zd (l.take i)*1000003)+Jn x1 2147483647)+13).tmod 2147483647)) (tv (tI (((Zd (l.take i)*1000003)+Jn x1 2147483647)+13)) Y) (VEv.int .i64 2147483647) (by omega) (by rfl)) (aO (tI ((((Zd (l.take i)*1000003)+Jn x1 2147483647)+13).tmod 2147483647)) Y (VRunO.nil (vinB.n (tn (VRun.region (mO (tN i) Y ?_)))))))))))
  refine fO (QB (tv (tN i) Y) (VEv.int .i64 1) (by omega)) (aO (tN (i+1)) Y (VRunO.nil (tn ?_)))
  refine ⟨(i+1:Nat),?_,?_,Wk.mk (fun k=>k) ?_ ?_ ?_⟩
  ·trivial
  ·omega
  ·exact (b2 (b2 (bc ⟨(congrArg (T.int .i64) (show ((((Zd (l.take i)*1000003)+Jn x1 2147483647)+13).tmod 2147483647)=Zd (l.take (i+1)) from (by exact (QfU hx1).symm))),rfl⟩ (b2 bn))))
  ·exact bn
  ·exact nd Y
 refine VRun.exit (vthn.e (vthn.e (vinB.e (tn (sr (mO (tI (Zd (l.take i))) Y (aO (tI (Zd (l.take i))) Y (nt (rt (vi (n':=Zd (l.take i)) Y ?_))))))))))
 rw [Y9 hI' fhc0]
theorem Qjl (n:Nat) (l:List Int) (hl:l.length≤Zk):Pure (Qo Tryz.prog (n+3)) 118 [(rd 1 Qe l)] (tI (Zd l)):=by
 refine Pure.intro (rs:= [ResultVar.tmp 2]) Tryz.func118 Y Y Y (E0:= [(0,(rd 1 Qe l))]) Y ?_
 obtain ⟨hlim,hmx,hmax⟩:=Qz
 refine sr (fO (OF.assign (VEv.int .i64 0)) (nt (sr (fO (OF.assign (VEv.int .i64 11)) (nt (sq (sr (mO (rd 1 Qe l) Y (lO (B.lenR (m:=l.length) (tv (rd 1 Qe l) Y) Yi (List.length_map ..)) (fO (OF.move (VEv.int .i64 0)) (nt ?_)))))))))))
 refine VRun.block ?_
 refine VRun.loop (A:=Nat) (fun s_=> [(2,(tN 0)),(3,(tI (Zd (l.take s_)))),(6,(rd 1 Qe l)),(7,(tN l.length)),(8,(tN s_))]) (fun s_=>QV []) 0 (fun s_=>s_≤l.length) (fun s_=>l.length - s_) (0:Nat) ?_ (Wk.mk (fun k=>k) ?_ ?_ ?_) ?_
 ·(simp;done)
 ·exact (b2 (bc ⟨(congrArg (T.int .i64) (show 11=Zd (l.take 0) from (by rfl))),rfl⟩ (b2 (b2 (b2 bn)))))
 ·exact bn
 ·exact nd Y
 rintro i (hI':i≤l.length)
 show VRun _ _ _ [(2,(tN 0)),(3,(tI (Zd (l.take i)))),(6,(rd 1 Qe l)),(7,(tN l.length)),(8,(tN i))] (QV []) 0 _
 have hhb:=Qjo (l.take i)
 refine sr (fO (Q9 (tv (tN i) Y) (tv (tN l.length) Y)) (nt (sq ?_)))
 refine cd (i<l.length) Y (fun fhc0=> ?_) fun fhc0=> ?_
 ·refine sk ?_
  refine tn (sq (VRun.block (sr ?_)))
  obtain ⟨x1,hx1⟩:∃x,l[i]? =some x:=⟨_,List.getElem?_eq_getElem (by omega)⟩
  have hmz:=QhP x1
  have hhs:=Qgv (x:=x1) hhb
  have hhs2:QdP (Zd (l.take i)) x1=(Zd (l.take i)*1000003+Jn x1 2147483647+13).tmod 2147483647:=rfl
  refine fO (OF.indexAddrR (row:=(Qe false x1)) (i:=i) (tv (rd 1 Qe l) Y) (tv (tN i) Y) Y (Qu _ hx1) Yi ZJ Y8) (lO (OL.loadR1 (t:=(tI x1)) (tv (T.rp [(tI x1)]) Y) Y QS) (aO (tI x1) Y (nt (VRun.region (mO (tI (Zd (l.take i))) Y (fO (B.mul (n:=(Zd (l.take i)*1000003)) (tv (tI (Zd (l.take i))) Y) (VEv.int .i64 1000003) (by (rw [Qs (by omega)];done))) (mO (tI x1) Y (cO (cS (vc (tv (tI x1) Y) (vc (VEv.int .i64 2147483647) vn)) (Zg Y) (QjS (n+0) x1 2147483647) Y Y) (fO (B.add (n:=((Zd (l.take i)*1000003)+Jn x1 2147483647)) (tv (tI (Zd (l.take i)*1000003)) Y) (tv (tI (Jn x1 2147483647)) Y) (by (rw [Qs (by omega)];done))) (fO (B.add (n:=(((Zd (l.take i)*1000003)+Jn x1 2147483647)+13)) (tv (tI ((Zd (l.take i)*1000003)+Jn x1 2147483647)) Y) (VEv.int .i64 13) (by (rw [Qs (by omega)];done))) (fO (B.rem (n:=((((Zd (l.take i)*1000003)+Jn x1 2147483647)+13).tmod 2147483647)) (tv (tI (((Zd (l.take i)*1000003)+Jn x1 2147483647)+13)) Y) (VEv.int .i64 2147483647) (by omega) (by rfl)) ?_)))))))))))
  refine aO (tI ((((Zd (l.take i)*1000003)+Jn x1 2147483647)+13).tmod 2147483647)) Y (VRunO.nil (vinB.n (tn (VRun.region (fO (QB (tv (tN i) Y) (VEv.int .i64 1) (by omega)) (mO (tN (i+1)) Y (VRunO.nil (tn ?_))))))))
  refine ⟨(i+1:Nat),?_,?_,Wk.mk (fun k=>k) ?_ ?_ ?_⟩
  ·trivial
  ·omega
  ·exact (b2 (bc ⟨(congrArg (T.int .i64) (show ((((Zd (l.take i)*1000003)+Jn x1 2147483647)+13).tmod 2147483647)=Zd (l.take (i+1)) from (by exact (QfU hx1).symm))),rfl⟩ (b2 (b2 (b2 bn)))))
  ·exact bn
  ·exact nd Y
 refine VRun.exit (vthn.e (vthn.e (vinB.e (tn (sr (mO (tI (Zd (l.take i))) Y (aO (tI (Zd (l.take i))) Y (nt (rt (vi (n':=Zd (l.take i)) Y ?_))))))))))
 rw [Y9 hI' fhc0]
theorem Qd5 (n:Nat) (s:ByteArray) (hs:s.size≤Zk):Pure (Qo Tryz.prog (n+1)) 108 [(tS s)] (T.sl true 1 ((Zo s).map (Qe true))):=by
 refine Pure.intro (rs:= [ResultVar.tmp 2]) Tryz.func108 Y Y Y (E0:= [(0,(tS s))]) Y ?_
 obtain ⟨hlim,hmx,hmax⟩:=Qz
 have hbl:=Ya s
 refine sr (fO (OF.assign VEv.nils) (nt (sr (kO (OM.slice0 Yi zo3 (by kernel_rfl) Y (by rw [ZJ];decide) ZJ) (aO (T.os 1 0 0 0) Y (nt (sq (sr (fO (OF.assign (VEv.int .i64 0)) (nt (VRun.block ?_)))))))))))
 have he1: []=(((Zo s).take 0).map (Qe true)):=by rfl
 refine VRun.loop (A:=Nat) (fun s_=> [(0,(tS s)),(2,T.nils),(3,(T.os 1 0 0 ((((Zo s).take s_).map (Qe true)).length))),(4,(tN s_))]) (fun s_=>QV [(0,(Obj.rows 1 (((Zo s).take s_).map (Qe true))))]) 1 (fun s_=>s_≤s.size) (fun s_=>s.size - s_) (0:Nat) ?_ (Wk.mk (fun k=>k) ?_ ?_ ?_) ?_
 ·(simp;done)
 ·exact (b2 (b2 (bc ⟨(congrArg (fun n_=>T.os 1 0 0 n_) (show 0=(((Zo s).take 0).map (Qe true)).length from (by rfl))),rfl⟩ (b2 bn))))
 ·exact (bc ⟨(congrArg (fun l_=>some (Obj.rows 1 l_)) he1),(lb Y),rfl⟩ bn)
 ·exact nd Y
 rintro i (hI':i≤s.size)
 show VRun _ _ _ [(0,(tS s)),(2,T.nils),(3,(T.os 1 0 0 ((((Zo s).take i).map (Qe true)).length))),(4,(tN i))] (QV [(0,(Obj.rows 1 (((Zo s).take i).map (Qe true))))]) 1 _
 have htl:=YF (Zo s) i
 have hbb:=Qma s i
 refine sq (sr (mO (tN i) Y (mO (tS s) Y (lO (B.lenS (tv (tS s) Y) U9) (fO (Q9 (tv (tN i) Y) (tv (tN s.size) Y)) (nt ?_))))))
 refine cd (i<s.size) Y (fun fhc0=> ?_) fun fhc0=> ?_
 ·refine sk ?_
  refine tn (sq (VRun.block (VRun.region (mO (T.os 1 0 0 ((((Zo s).take i).map (Qe true)).length)) Y (mO (tS s) Y (mO (tN i) Y ?_))))))
  have hb2:i<s.size:=(by omega)
  refine fO (xix (tv (tS s) Y) (tv (tN i) Y) hb2 U9) (fO (xcv (m:=(Qy s i)) (tv (T.int .u8 (Qy s i)) Y) U5 U3 (Qs (by omega))) (kO (OM.buildSlice (l:= [(tI (Qy s i))]) (VEvp.cons (tv (tI (Qy s i)) Y) VEvp.nil) Y (by decide) (bc (nofun) bn) (bc ((bc (Y) bn)) bn) (bc (Y) bn) Yi zo3 (by kernel_rfl) Y (by rw [ZJ];decide) ZJ (Nat.le_of_ble_eq_true Y)) (cO (B.append (rows:=(((Zo s).take i).map (Qe true))) (rows2:= [[(tI (Qy s i))]]) (rows3:=(((Zo s).take i++ [Qy s i]).map (Qe true))) (VDst.own (tv (T.os 1 0 0 ((((Zo s).take i).map (Qe true)).length)) Y) Y Y) (VSrc.own (tv (T.os 1 1 0 1) Y) Y Y Yi (bc (bc Y bn) bn)) (by decide) Yi ZJ (by decide) zo3 Y (of_decide_eq_true (by kernel_rfl)) (by (simp only [List.length_map,List.length_append,List.length_cons,List.length_nil,List.length_replicate,List.length_set,List.length_drop,List.length_take,Zk] at *;omega)) ((List.map_append (f:=Qe true) (l₁:=(Zo s).take i) (l₂:= [Qy s i])).symm)) (aO (T.os 1 2 0 ((((Zo s).take i++ [Qy s i]).map (Qe true)).length)) Y (VRunO.nil (vinB.n (tn (VRun.region (mO (tN i) Y (fO (QB (tv (tN i) Y) (VEv.int .i64 1) (by omega)) (aO (tN (i+1)) Y ?_)))))))))))
  refine VRunO.nil (tn ?_)
  have he3:((Zo s).take i++ [Qy s i])=(Zo s).take (i+1):=by exact QfI fhc0
  refine ⟨(i+1:Nat),?_,?_,Wk.mk (fun k=>if k=0 then 2 else k) ?_ ?_ ?_⟩
  ·trivial
  ·omega
  ·exact (b2 (b2 (bc ⟨(congrArg (fun l_=>T.os 1 2 0 (List.map (Qe true) l_).length) he3),rfl⟩ (b2 bn))))
  ·exact (bc ⟨(congrArg (fun l_=>some (Obj.rows 1 (List.map (Qe true) l_))) he3),(lb Y),rfl⟩ bn)
  ·exact nd Y
 refine VRun.exit (vthn.e (vthn.e (vinB.e (tn (sr (mO (T.os 1 0 0 ((((Zo s).take i).map (Qe true)).length)) Y (aO (T.os 1 0 0 ((((Zo s).take i).map (Qe true)).length)) Y (nt (rt ?_)))))))))
 refine vfin.eq (r':=(T.sl true 1 (((Zo s).take i).map (Qe true)))) ?_ (vfin.r (VRes.tmp (t:=(T.os 1 0 0 ((((Zo s).take i).map (Qe true)).length))) Y VRes.nil) (Give.os Y Y (okInt.cleanMap _)))
 refine congrArg (fun l_=>T.sl true 1 (List.map (Qe true) l_)) ?_
 rw [Y9 (by omega) (by omega)]
theorem Qeq (n:Nat) (s:ByteArray) (hs:s.size≤Zk):Pure (Qo Tryz.prog (n+1)) 119 [(tS s)] (T.sl true 1 ((Zo s).map (Qe true))):=by
 refine Pure.intro (rs:= [ResultVar.tmp 2]) Tryz.func119 Y Y Y (E0:= [(0,(tS s))]) Y ?_
 obtain ⟨hlim,hmx,hmax⟩:=Qz
 have hbl:=Ya s
 refine sr (fO (OF.assign VEv.nils) (nt (sr (fO (OF.assign VEv.nils) (nt (sq (sr (mO (tS s) Y (lO (B.lenS (tv (tS s) Y) U9) (fO (OF.move (VEv.int .i64 0)) (nt ?_)))))))))))
 refine VRun.block (VRun.wk (Wk.phantom 3 1 Y) ?_)
 have he1: []=(((Zo s).take 0).map (Qe true)):=by rfl
 refine VRun.loop (A:=Nat) (fun s_=> [(0,(tS s)),(2,T.nils),(3,(T.os 1 0 0 ((((Zo s).take s_).map (Qe true)).length))),(6,(tN s.size)),(7,(tN s_))]) (fun s_=>QV [(0,(Obj.rows 1 (((Zo s).take s_).map (Qe true))))]) 1 (fun s_=>s_≤s.size) (fun s_=>s.size - s_) (0:Nat) ?_ (Wk.mk (fun k=>k) ?_ ?_ ?_) ?_
 ·(simp;done)
 ·exact (b2 (b2 (bc ⟨(congrArg (fun n_=>T.os 1 0 0 n_) (show 0=(((Zo s).take 0).map (Qe true)).length from (by rfl))),rfl⟩ (b2 (b2 bn)))))
 ·exact (bc ⟨(congrArg (fun l_=>some (Obj.rows 1 l_)) he1),(lb Y),rfl⟩ bn)
 ·exact nd Y
 rintro i (hI':i≤s.size)
 show VRun _ _ _ [(0,(tS s)),(2,T.nils),(3,(T.os 1 0 0 ((((Zo s).take i).map (Qe true)).length))),(6,(tN s.size)),(7,(tN i))] (QV [(0,(Obj.rows 1 (((Zo s).take i).map (Qe true))))]) 1 _
 have htl:=YF (Zo s) i
 have hbb:=Qma s i
 refine sr (fO (Q9 (tv (tN i) Y) (tv (tN s.size) Y)) (nt (sq ?_)))
 refine cd (i<s.size) Y (fun fhc0=> ?_) fun fhc0=> ?_
 ·refine sk ?_
  refine tn (sq (VRun.block (sr (mO (tN i) Y (aO (tN i) Y (nt (VRun.region (mO (T.os 1 0 0 ((((Zo s).take i).map (Qe true)).length)) Y (mO (tS s) Y (mO (tN i) Y ?_))))))))))
  have hb2:i<s.size:=(by omega)
  refine fO (xix (tv (tS s) Y) (tv (tN i) Y) hb2 U9) (fO (xcv (m:=(Qy s i)) (tv (T.int .u8 (Qy s i)) Y) U5 U3 (Qs (by omega))) (kO (OM.buildSlice (l:= [(tI (Qy s i))]) (VEvp.cons (tv (tI (Qy s i)) Y) VEvp.nil) Y (by decide) (bc (nofun) bn) (bc ((bc (Y) bn)) bn) (bc (Y) bn) Yi zo3 (by kernel_rfl) Y (by rw [ZJ];decide) ZJ (Nat.le_of_ble_eq_true Y)) (cO (B.append (rows:=(((Zo s).take i).map (Qe true))) (rows2:= [[(tI (Qy s i))]]) (rows3:=(((Zo s).take i++ [Qy s i]).map (Qe true))) (VDst.own (tv (T.os 1 0 0 ((((Zo s).take i).map (Qe true)).length)) Y) Y Y) (VSrc.own (tv (T.os 1 1 0 1) Y) Y Y Yi (bc (bc Y bn) bn)) (by decide) Yi ZJ (by decide) zo3 Y (of_decide_eq_true (by kernel_rfl)) (by (simp only [List.length_map,List.length_append,List.length_cons,List.length_nil,List.length_replicate,List.length_set,List.length_drop,List.length_take,Zk] at *;omega)) ((List.map_append (f:=Qe true) (l₁:=(Zo s).take i) (l₂:= [Qy s i])).symm)) (aO (T.os 1 2 0 ((((Zo s).take i++ [Qy s i]).map (Qe true)).length)) Y (VRunO.nil (vinB.n (tn (VRun.region (fO (QB (tv (tN i) Y) (VEv.int .i64 1) (by omega)) (mO (tN (i+1)) Y (VRunO.nil ?_)))))))))))
  refine tn ?_
  have he3:((Zo s).take i++ [Qy s i])=(Zo s).take (i+1):=by exact QfI fhc0
  refine ⟨(i+1:Nat),?_,?_,Wk.mk (fun k=>if k=0 then 2 else k) ?_ ?_ ?_⟩
  ·trivial
  ·omega
  ·exact (b2 (b2 (bc ⟨(congrArg (fun l_=>T.os 1 2 0 (List.map (Qe true) l_).length) he3),rfl⟩ (b2 (b2 bn)))))
  ·exact (bc ⟨(congrArg (fun l_=>some (Obj.rows 1 (List.map (Qe true) l_))) he3),(lb Y),rfl⟩ bn)
  ·exact nd Y
 refine VRun.exit (vthn.e (vthn.e (vinB.e (tn (sr (mO (T.os 1 0 0 ((((Zo s).take i).map (Qe true)).length)) Y (aO (T.os 1 0 0 ((((Zo s).take i).map (Qe true)).length)) Y (nt (rt ?_)))))))))
 refine vfin.eq (r':=(T.sl true 1 (((Zo s).take i).map (Qe true)))) ?_ (vfin.r (VRes.tmp (t:=(T.os 1 0 0 ((((Zo s).take i).map (Qe true)).length))) Y VRes.nil) (Give.os Y Y (okInt.cleanMap _)))
 refine congrArg (fun l_=>T.sl true 1 (List.map (Qe true) l_)) ?_
 rw [Y9 (by omega) (by omega)]
theorem QdJ (n:Nat) (salt:Int) (slot:Int) (w:ByteArray) (hw:w.size≤maxLen):Pure (Qo Tryz.prog (n+4)) 70 [(tI salt),(tI slot),(tS w)] (tI (JY salt slot w)):=by
 refine Pure.intro (rs:= [ResultVar.tmp 6]) Tryz.func70 Y Y Y (E0:= [(0,(tI salt)),(1,(tI slot)),(2,(tS w))]) Y ?_
 obtain ⟨hlim,hmx,hmax⟩:=Qz
 have hbl:=Ya w
 refine sr (fO (OF.assign (VEv.int .i64 0)) (nt (sq (sr (mO (tS w) Y (cO (cS (vc (tv (tS w) Y) vn) (Zg Y) (Zm (n+1) w (by assumption)) Y Y) (fO (QU (tv (tB (decide (Qm w))) Y)) (nt ?_))))))))
 refine cn (Qm w) Y (fun fhc0=> ?_) fun fhc0=> ?_
 ·refine sr ?_
  refine fO (OF.assign (VEv.int .i64 0)) (nt (rt (tr (vi (n':=0) Y ?_))))
  unfold JY;rw [if_neg fhc0]
 have hw8:=fhc0.1.2
 refine sk (tn (sr (mO (tI salt) Y (mO (tI slot) Y (mO (tS w) Y (lO (B.lenS (tv (tS w) Y) U9) (kO (OM.buildSlice (l:= [(tI salt),(tI slot),(tN w.size)]) (VEvp.cons (tv (tI salt) Y) (VEvp.cons (tv (tI slot) Y) (VEvp.cons (tv (tN w.size) Y) VEvp.nil))) Y (by decide) (bc (nofun) (bc (nofun) (bc (nofun) bn))) (bc ((bc (Y) bn)) (bc ((bc (Y) bn)) (bc ((bc (Y) bn)) bn))) (bc (Y) (bc (Y) (bc (Y) bn))) Yi zo3 (by kernel_rfl) Y (by rw [ZJ];decide) ZJ (Nat.le_of_ble_eq_true Y)) (mO (tS w) Y (cO (OC.callF (r':=(T.os 1 1 0 (((Zo w).map (Qe true)).length))) (objs:= [(Obj.rows 1 ((Zo w).map (Qe true)))]) Y (vc (tv (tS w) Y) vn) (Zg Y) (Qd5 (n+2) w (by omega)) Y) (cO (B.append (rows:= [[(tI salt)],[(tI slot)],[(tN w.size)]]) (rows2:=((Zo w).map (Qe true))) (rows3:=(([salt,slot,((w.size:Nat):Int)]++Zo w).map (Qe true))) (VDst.own (tv (T.os 1 0 0 3) Y) Y Y) (VSrc.own (tv (T.os 1 1 0 (((Zo w).map (Qe true)).length)) Y) Y Y Yi (okInt.okMap _ _)) (by decide) Yi ZJ (by decide) zo3 Y (of_decide_eq_true (by kernel_rfl)) (by (simp only [List.length_append,List.length_cons,List.length_nil,List.length_map];omega)) ((List.map_append (f:=Qe true) (l₁:= [salt,slot,((w.size:Nat):Int)]) (l₂:=Zo w)).symm)) (cO (cS (us:= [(rd 1 Qe ([salt,slot,((w.size:Nat):Int)]++Zo w))]) (vc (tv (T.os 1 2 0 ((([salt,slot,((w.size:Nat):Int)]++Zo w).map (Qe true)).length)) Y) vn) (LendL.cons (Lend.os Y Y (okInt.fzMap _ _)) ln) (QiJ (n+0) ([salt,slot,((w.size:Nat):Int)]++Zo w) (by (simp only [List.length_append,List.length_cons,List.length_nil,List.length_map];omega))) Y Y) ?_)))))))))))
 refine aO (tI (Zd ([salt,slot,((w.size:Nat):Int)]++Zo w))) Y (nt (rt (vi (n':=Zd ([salt,slot,((w.size:Nat):Int)]++Zo w)) Y ?_)))
 unfold JY;rw [if_pos fhc0]
theorem QdI (n:Nat) (salt:Int) (slot:Int) (w:ByteArray) (hw:w.size≤maxLen):Pure (Qo Tryz.prog (n+4)) 80 [(tI salt),(tI slot),(tS w)] (tI (JY salt slot w)):=by
 refine Pure.intro (rs:= [ResultVar.tmp 6]) Tryz.func80 Y Y Y (E0:= [(0,(tI salt)),(1,(tI slot)),(2,(tS w))]) Y ?_
 obtain ⟨hlim,hmx,hmax⟩:=Qz
 have hbl:=Ya w
 refine sr (fO (OF.assign (VEv.int .i64 0)) (nt (sq (sr (mO (tS w) Y (cO (cS (vc (tv (tS w) Y) vn) (Zg Y) (Zn (n+1) w (by assumption)) Y Y) (fO (QU (tv (tB (decide (Qm w))) Y)) (nt ?_))))))))
 refine cn (Qm w) Y (fun fhc0=> ?_) fun fhc0=> ?_
 ·refine sr ?_
  refine fO (OF.assign (VEv.int .i64 0)) (nt (rt (tr (vi (n':=0) Y ?_))))
  unfold JY;rw [if_neg fhc0]
 have hw8:=fhc0.1.2
 refine sk (tn (sr (mO (tI salt) Y (mO (tI slot) Y (mO (tS w) Y (lO (B.lenS (tv (tS w) Y) U9) (kO (OM.buildSlice (l:= [(tI salt),(tI slot),(tN w.size)]) (VEvp.cons (tv (tI salt) Y) (VEvp.cons (tv (tI slot) Y) (VEvp.cons (tv (tN w.size) Y) VEvp.nil))) Y (by decide) (bc (nofun) (bc (nofun) (bc (nofun) bn))) (bc ((bc (Y) bn)) (bc ((bc (Y) bn)) (bc ((bc (Y) bn)) bn))) (bc (Y) (bc (Y) (bc (Y) bn))) Yi zo3 (by kernel_rfl) Y (by rw [ZJ];decide) ZJ (Nat.le_of_ble_eq_true Y)) (mO (tS w) Y (cO (OC.callF (r':=(T.os 1 1 0 (((Zo w).map (Qe true)).length))) (objs:= [(Obj.rows 1 ((Zo w).map (Qe true)))]) Y (vc (tv (tS w) Y) vn) (Zg Y) (Qeq (n+2) w (by omega)) Y) (cO (B.append (rows:= [[(tI salt)],[(tI slot)],[(tN w.size)]]) (rows2:=((Zo w).map (Qe true))) (rows3:=(([salt,slot,((w.size:Nat):Int)]++Zo w).map (Qe true))) (VDst.own (tv (T.os 1 0 0 3) Y) Y Y) (VSrc.own (tv (T.os 1 1 0 (((Zo w).map (Qe true)).length)) Y) Y Y Yi (okInt.okMap _ _)) (by decide) Yi ZJ (by decide) zo3 Y (of_decide_eq_true (by kernel_rfl)) (by (simp only [List.length_append,List.length_cons,List.length_nil,List.length_map];omega)) ((List.map_append (f:=Qe true) (l₁:= [salt,slot,((w.size:Nat):Int)]) (l₂:=Zo w)).symm)) (cO (cS (us:= [(rd 1 Qe ([salt,slot,((w.size:Nat):Int)]++Zo w))]) (vc (tv (T.os 1 2 0 ((([salt,slot,((w.size:Nat):Int)]++Zo w).map (Qe true)).length)) Y) vn) (LendL.cons (Lend.os Y Y (okInt.fzMap _ _)) ln) (Qjl (n+0) ([salt,slot,((w.size:Nat):Int)]++Zo w) (by (simp only [List.length_append,List.length_cons,List.length_nil,List.length_map];omega))) Y Y) ?_)))))))))))
 refine aO (tI (Zd ([salt,slot,((w.size:Nat):Int)]++Zo w))) Y (nt (rt (vi (n':=Zd ([salt,slot,((w.size:Nat):Int)]++Zo w)) Y ?_)))
 unfold JY;rw [if_pos fhc0]
theorem Qcr (n:Nat) (seals:List Int) (salt:Int) (slot:Int) (w:ByteArray) (hl:seals.length≤Zk) (hw:w.size≤maxLen):Pure (Qo Tryz.prog (n+5)) 34 [(rd 1 Qe seals),(tI salt),(tI slot),(tS w)] (tB (decide (Qgo seals salt slot w))):=by
 refine Pure.intro (rs:= [ResultVar.tmp 8]) Tryz.func34 Y Y Y (E0:= [(0,(rd 1 Qe seals)),(1,(tI salt)),(2,(tI slot)),(3,(tS w))]) Y ?_
 obtain ⟨hlim,hmx,hmax⟩:=Qz
 refine sr (fO (OF.assign (VEv.bool false)) (nt (sq (VRun.draw (B:= [[],[],[1],[1,2],[2,1,3,0],[0,3,1,2,4],[4,2,1,3,0,5],[5,0,3,1,2,4,6],[6,7,4,2,1,3,0,5],[5,0,3,1,2,4,7,6,8],[8,6,7,4,2,1,3,0,5,9],[8,6,7,4,2,1,3,0,5,9],[8,6,7,4,2,1,3,0,5,9],[12,11,9,5,0,3,1,2,4,7,6,8,10],[8,6,7,4,2,1,3,0,5,9],[8,6,7,4,2,1,3,0,5,9],[15,9,5,0,3,1,2,4,7,6,8,14],[14,8,6,7,4,2,1,3,0,5,9,15,16],[16,15,14,17,10,8,6,7,4,2,1,3,0,5,9,11,12,13],[13,12,11,10,17,14,15,16,18,8,6,7,4,2,1,3,0,5,9],[9,5,0,3,1,2,4,7,6,8,18,16,15,14,17,10,11,12,13,19]]) (by kernel_rfl) (by kernel_rfl) (mD (tI slot) Y Y (mD (rd 1 Qe seals) Y Y (lD (B.lenR (m:=seals.length) (tv (rd 1 Qe seals) Y) Yi (List.length_map ..)) Y Y (fD (B.sub (n:=(((seals.length:Nat):Int) - 1)) (tv (tN seals.length) Y) (VEv.int .i64 1) (by (rw [Qs (by omega)];done))) Y Y (VRunD.quiet (bi:= [2,1,3,0]) Y VWant.always Y Y Y bn (cS (vc (tv (tI slot) Y) (vc (VEv.int .i64 0) (vc (tv (tI (((seals.length:Nat):Int) - 1)) Y) vn))) (Zg Y) (Q2 (n+3) slot 0 (((seals.length:Nat):Int) - 1)) Y Y) (mD (tB (decide (0≤slot∧slot≤(((seals.length:Nat):Int) - 1)))) Y Y ?_))))))))))
 refine gw (0≤slot∧slot≤(((seals.length:Nat):Int) - 1)) (fun fhg14_1=> ?_) fun fhg14_1=> ?_
 ·refine VRunD.free Y (VWant.on Y Y (dy fhg14_1)) Y (OF.move (tv (tS w) Y)) ?_
  refine VRunD.quiet (bi:= [5,0,3,1,2,4,6]) Y (VWant.on Y Y (dy fhg14_1)) Y Y Y bn (cS (vc (tv (tS w) Y) vn) (Zg Y) (Zm (n+2) w (by assumption)) Y Y) (fD (OF.pickT (VEv.tmpB Y (dy fhg14_1)) (tv (tB (decide (Qm w))) Y)) Y Y (mD (tB (decide (Qm w))) Y Y ?_))
  refine gw (Qm w) (fun fhg18_2=> ?_) fun fhg18_2=> ?_
  ·refine VRunD.free Y (VWant.on Y Y (dy fhg18_2)) Y (OF.move (tv (tI salt) Y)) ?_
   refine VRunD.free Y (VWant.on Y Y (dy fhg18_2)) Y (OF.move (tv (tI slot) Y)) (VRunD.free Y (VWant.on Y Y (dy fhg18_2)) Y (OF.move (tv (tS w) Y)) (VRunD.quiet (bi:= [12,11,9,5,0,3,1,2,4,7,6,8,10]) Y (VWant.on Y Y (dy fhg18_2)) Y Y Y bn (cS (vc (tv (tI salt) Y) (vc (tv (tI slot) Y) (vc (tv (tS w) Y) vn))) (Zg Y) (QdJ (n+0) salt slot w (by assumption)) Y Y) (VRunD.free Y (VWant.on Y Y (dy fhg18_2)) Y (OF.move (tv (rd 1 Qe seals) Y)) (VRunD.free Y (VWant.on Y Y (dy fhg18_2)) Y (OF.move (tv (tI slot) Y)) ?_))))
   obtain ⟨x1,hx1⟩:∃x,seals[(Int.toNat slot)]? =some x:=⟨_,List.getElem?_eq_getElem (by omega)⟩
   refine VRunD.free Y (VWant.on Y Y (dy fhg18_2)) Y (OF.indexAddrR (row:=(Qe false x1)) (i:=(Int.toNat slot)) (tv (rd 1 Qe seals) Y) (tv (tI slot) Y) (by omega) (Qu _ hx1) Yi ZJ Y8) (VRunD.look Y (VWant.on Y Y (dy fhg18_2)) Y (OL.loadR1 (t:=(tI x1)) (tv (T.rp [(tI x1)]) Y) Y QS) (VRunD.free Y (VWant.on Y Y (dy fhg18_2)) Y (Yn (tv (tI (JY salt slot w)) Y) (tv (tI x1) Y)) (fD (OF.pickT (VEv.tmpB Y (dy fhg18_2)) (tv (tB (decide (JY salt slot w=x1))) Y)) Y Y (fD (OF.assign (tv (tB (decide (JY salt slot w=x1))) Y)) Y Y (VRunD.nil (tn (rt (vb (b':=(decide (JY salt slot w=x1))) Y ?_))))))))
   (refine Qt (Qkj ?_ ?_ hx1);omega;assumption)
  refine oD Y Y (dz fhg18_2) Y (oD Y Y (dz fhg18_2) Y (oD Y Y (dz fhg18_2) Y (oD Y Y (dz fhg18_2) Y (oD Y Y (dz fhg18_2) Y (oD Y Y (dz fhg18_2) Y (oD Y Y (dz fhg18_2) Y (oD Y Y (dz fhg18_2) Y (oD Y Y (dz fhg18_2) Y (fD (OF.pickF (VEv.tmpB Y (dz fhg18_2)) (VEv.bool false)) Y Y (fD (OF.assign (tv (tB false) Y)) Y Y (VRunD.nil ?_)))))))))))
  refine tn (rt (vb (b':=false) Y ?_))
  (symm;rw [decide_eq_false_iff_not];intro h;have h2:=Qfv h;have h3:=h.1;exact absurd h.2.1 (by assumption))
 refine oD Y Y (dz fhg14_1) Y (oD Y Y (dz fhg14_1) Y (fD (OF.pickF (VEv.tmpB Y (dz fhg14_1)) (VEv.bool false)) Y Y (mD (tB false) Y Y (VRunD.off Y (VWant.not (b:=false) Y Y Y) (VRunD.off Y (VWant.not (b:=false) Y Y Y) (VRunD.off Y (VWant.not (b:=false) Y Y Y) (VRunD.off Y (VWant.not (b:=false) Y Y Y) (VRunD.off Y (VWant.not (b:=false) Y Y Y) (VRunD.off Y (VWant.not (b:=false) Y Y Y) (VRunD.off Y (VWant.not (b:=false) Y Y Y) (VRunD.off Y (VWant.not (b:=false) Y Y Y) ?_)))))))))))
 refine VRunD.off Y (VWant.not (b:=false) Y Y Y) (fD (OF.pickF (tv (tB false) Y) (VEv.bool false)) Y Y (fD (OF.assign (tv (tB false) Y)) Y Y (VRunD.nil (tn (rt (vb (b':=false) Y ?_))))))
 (symm;rw [decide_eq_false_iff_not];intro h;have h2:=Qfv h;have h3:=h.1;omega)
theorem Qcw (n:Nat) (seals:List Int) (salt:Int) (slot:Int) (w:ByteArray) (hl:seals.length≤Zk) (hw:w.size≤maxLen):Pure (Qo Tryz.prog (n+5)) 46 [(rd 1 Qe seals),(tI salt),(tI slot),(tS w)] (tB (decide (Qgo seals salt slot w))):=by
 refine Pure.intro (rs:= [ResultVar.tmp 8]) Tryz.func46 Y Y Y (E0:= [(0,(rd 1 Qe seals)),(1,(tI salt)),(2,(tI slot)),(3,(tS w))]) Y ?_
 obtain ⟨hlim,hmx,hmax⟩:=Qz
 refine sr (fO (OF.assign (VEv.bool false)) (nt (sq (VRun.draw (B:= [[],[],[1],[1,2,0],[0,2,1,3],[3,1,2,0,4],[4,0,2,1,3,5],[5,6,3,1,2,0,4],[4,0,2,1,3,6,5,7],[7,5,6,3,1,2,0,4,8],[7,5,6,3,1,2,0,4,8],[7,5,6,3,1,2,0,4,8],[11,10,8,4,0,2,1,3,6,5,7,9],[7,5,6,3,1,2,0,4,8],[7,5,6,3,1,2,0,4,8],[14,8,4,0,2,1,3,6,5,7,13],[13,7,5,6,3,1,2,0,4,8,14,15],[15,14,13,16,9,7,5,6,3,1,2,0,4,8,10,11,12],[12,11,10,9,16,13,14,15,17,7,5,6,3,1,2,0,4,8],[8,4,0,2,1,3,6,5,7,17,15,14,13,16,9,10,11,12,18]]) (by kernel_rfl) (by kernel_rfl) (mD (tI slot) Y Y (mD (rd 1 Qe seals) Y Y (lD (B.lenR (m:=seals.length) (tv (rd 1 Qe seals) Y) Yi (List.length_map ..)) Y Y (VRunD.quiet (bi:= [1,2,0]) Y VWant.always Y Y Y bn (cS (vc (tv (tI slot) Y) (vc (tv (tN seals.length) Y) vn)) (Zg Y) (YK (n+3) slot ((seals.length:Nat):Int)) Y Y) (mD (tB (decide (0≤slot∧slot<((seals.length:Nat):Int)))) Y Y ?_)))))))))
 refine gw (0≤slot∧slot<((seals.length:Nat):Int)) (fun fhg13_1=> ?_) fun fhg13_1=> ?_
 ·refine VRunD.free Y (VWant.on Y Y (dy fhg13_1)) Y (OF.move (tv (tS w) Y)) ?_
  refine VRunD.quiet (bi:= [4,0,2,1,3,5]) Y (VWant.on Y Y (dy fhg13_1)) Y Y Y bn (cS (vc (tv (tS w) Y) vn) (Zg Y) (Zn (n+2) w (by assumption)) Y Y) (fD (OF.pickT (VEv.tmpB Y (dy fhg13_1)) (tv (tB (decide (Qm w))) Y)) Y Y (mD (tB (decide (Qm w))) Y Y ?_))
  refine gw (Qm w) (fun fhg17_2=> ?_) fun fhg17_2=> ?_
  ·refine VRunD.free Y (VWant.on Y Y (dy fhg17_2)) Y (OF.move (tv (tI salt) Y)) ?_
   refine VRunD.free Y (VWant.on Y Y (dy fhg17_2)) Y (OF.move (tv (tI slot) Y)) (VRunD.free Y (VWant.on Y Y (dy fhg17_2)) Y (OF.move (tv (tS w) Y)) (VRunD.quiet (bi:= [11,10,8,4,0,2,1,3,6,5,7,9]) Y (VWant.on Y Y (dy fhg17_2)) Y Y Y bn (cS (vc (tv (tI salt) Y) (vc (tv (tI slot) Y) (vc (tv (tS w) Y) vn))) (Zg Y) (QdI (n+0) salt slot w (by assumption)) Y Y) (VRunD.free Y (VWant.on Y Y (dy fhg17_2)) Y (OF.move (tv (rd 1 Qe seals) Y)) (VRunD.free Y (VWant.on Y Y (dy fhg17_2)) Y (OF.move (tv (tI slot) Y)) ?_))))
   obtain ⟨x1,hx1⟩:∃x,seals[(Int.toNat slot)]? =some x:=⟨_,List.getElem?_eq_getElem (by omega)⟩
   refine VRunD.free Y (VWant.on Y Y (dy fhg17_2)) Y (OF.indexAddrR (row:=(Qe false x1)) (i:=(Int.toNat slot)) (tv (rd 1 Qe seals) Y) (tv (tI slot) Y) (by omega) (Qu _ hx1) Yi ZJ Y8) (VRunD.look Y (VWant.on Y Y (dy fhg17_2)) Y (OL.loadR1 (t:=(tI x1)) (tv (T.rp [(tI x1)]) Y) Y QS) (VRunD.free Y (VWant.on Y Y (dy fhg17_2)) Y (Yn (tv (tI (JY salt slot w)) Y) (tv (tI x1) Y)) (fD (OF.pickT (VEv.tmpB Y (dy fhg17_2)) (tv (tB (decide (JY salt slot w=x1))) Y)) Y Y (fD (OF.assign (tv (tB (decide (JY salt slot w=x1))) Y)) Y Y (VRunD.nil (tn (rt (vb (b':=(decide (JY salt slot w=x1))) Y ?_))))))))
   (refine Qt (Qkj ?_ ?_ hx1);omega;assumption)
  refine oD Y Y (dz fhg17_2) Y (oD Y Y (dz fhg17_2) Y (oD Y Y (dz fhg17_2) Y (oD Y Y (dz fhg17_2) Y (oD Y Y (dz fhg17_2) Y (oD Y Y (dz fhg17_2) Y (oD Y Y (dz fhg17_2) Y (oD Y Y (dz fhg17_2) Y (oD Y Y (dz fhg17_2) Y (fD (OF.pickF (VEv.tmpB Y (dz fhg17_2)) (VEv.bool false)) Y Y (fD (OF.assign (tv (tB false) Y)) Y Y (VRunD.nil ?_)))))))))))
  refine tn (rt (vb (b':=false) Y ?_))
  (symm;rw [decide_eq_false_iff_not];intro h;have h2:=Qfv h;have h3:=h.1;exact absurd h.2.1 (by assumption))
 refine oD Y Y (dz fhg13_1) Y (oD Y Y (dz fhg13_1) Y (fD (OF.pickF (VEv.tmpB Y (dz fhg13_1)) (VEv.bool false)) Y Y (mD (tB false) Y Y (VRunD.off Y (VWant.not (b:=false) Y Y Y) (VRunD.off Y (VWant.not (b:=false) Y Y Y) (VRunD.off Y (VWant.not (b:=false) Y Y Y) (VRunD.off Y (VWant.not (b:=false) Y Y Y) (VRunD.off Y (VWant.not (b:=false) Y Y Y) (VRunD.off Y (VWant.not (b:=false) Y Y Y) (VRunD.off Y (VWant.not (b:=false) Y Y Y) (VRunD.off Y (VWant.not (b:=false) Y Y Y) ?_)))))))))))
 refine VRunD.off Y (VWant.not (b:=false) Y Y Y) (fD (OF.pickF (tv (tB false) Y) (VEv.bool false)) Y Y (fD (OF.assign (tv (tB false) Y)) Y Y (VRunD.nil (tn (rt (vb (b':=false) Y ?_))))))
 (symm;rw [decide_eq_false_iff_not];intro h;have h2:=Qfv h;have h3:=h.1;omega)
noncomputable section
def QR (g:D.Grid) (f:ByteArray) (seals:List Int) (salt:Int):Nat→List Int
 | 0=> []
 | i+1=>QR g f seals salt i++(if Qgo seals salt ((i:Nat):Int) (Zi g f ((i:Nat):Int)) then [((i:Nat):Int)] else [])
def ZO (g:D.Grid) (f:ByteArray) (seals:List Int) (salt:Int):List Int:=if Q7 g f then QR g f seals salt (Qa g).length else []
theorem Qbu (g:D.Grid) (f:ByteArray) (seals:List Int) (salt:Int):∀i,(QR g f seals salt i).length≤i
 | 0=>Nat.le_refl _
 | i+1=>by
  have:=Qbu g f seals salt i
  unfold QR
  rw [List.length_append]
  split<;>simp only [List.length_cons,List.length_nil]<;>omega
theorem Qfz (g:D.Grid) (f:ByteArray) (seals:List Int) (salt:Int):(ZO g f seals salt).length≤72:=by
 unfold ZO
 split
 ·exact Nat.le_trans (Qbu _ _ _ _ _) (Zq g)
 ·simp
theorem Qg7 {g:D.Grid} {f:ByteArray} {seals:List Int} {salt:Int} {i:Nat} (h:Qgo seals salt ((i:Nat):Int) (Zi g f ((i:Nat):Int))):QR g f seals salt i++ [((i:Nat):Int)]=QR g f seals salt (i+1):=by rw [QR,if_pos h]
theorem Qjx {g:D.Grid} {f:ByteArray} {seals:List Int} {salt:Int} {i:Nat} (h:¬Qgo seals salt ((i:Nat):Int) (Zi g f ((i:Nat):Int))):QR g f seals salt i=QR g f seals salt (i+1):=by rw [QR,if_neg h,List.append_nil]
theorem Qho {g:D.Grid} {f:ByteArray} {seals:List Int} {salt:Int} {i:Nat} (h1:i≤(Qa g).length) (h2:Q7 g f∨i=0) (h3:¬(i<(Qa g).length∧Q7 g f)):QR g f seals salt i=ZO g f seals salt:=by
 unfold ZO
 by_cases h:Q7 g f
 ·rw [if_pos h,show i=(Qa g).length by have:¬i<(Qa g).length:=fun e=>h3 ⟨e,h⟩;omega]
 ·rw [if_neg h,h2.resolve_left h];rfl
theorem J1 (g:D.Grid) (f:ByteArray) (slot:Int):(Zi g f slot).size≤6:=by
 unfold Zi
 split
 ·split
  ·rename_i s hs
   split
   ·rw [QiW];exact Qcf hs
   ·exact Nat.zero_le _
  ·exact Nat.zero_le _
 ·exact Nat.zero_le _
theorem Qf1 (g:D.Grid) (f:ByteArray):(Zx g f).length≤(Qa g).length:=by
 by_cases h:Q7 g f
 ·rw [QeC h];exact Nat.le_refl _
 ·unfold Zx;rw [if_neg h];exact Nat.zero_le _
theorem Ql2 {g:D.Grid} {f:ByteArray} (h:¬Q7 g f):Zx g f= []:=if_neg h
theorem QjL {g:D.Grid} {f:ByteArray} {seals:List Int} {salt:Int} {i:Nat} (h1:i≤(Zx g f).length) (h2:¬i<(Zx g f).length):QR g f seals salt i=ZO g f seals salt:=by
 have hpl:=Qf1 g f
 refine Qho (by omega) ?_ ?_
 ·by_cases h:Q7 g f
  ·exact .inl h
  ·right;rw [Ql2 h] at h1;exact Nat.le_zero.1 h1
 ·rintro ⟨h3,h4⟩;rw [QeC h4] at h2;exact h2 h3
end
theorem QdU (n:Nat) (g:D.Grid) (f:ByteArray) (seals:List Int) (salt:Int) (hc:g.Cells.size≤maxLen) (hf:f.size≤maxLen) (hl:seals.length≤Zk):Pure (Qo Tryz.prog (n+6)) 122 [(T.agg (Qc false g)),(tS f),(rd 1 Qe seals),(tI salt)] (T.sl true 1 ((ZO g f seals salt).map (Qe true))):=by
 refine Pure.intro (rs:= [ResultVar.tmp 8]) Tryz.func122 Y Y Y (E0:= [(0,(T.agg (Qc false g))),(1,(tS f)),(2,(rd 1 Qe seals)),(3,(tI salt))]) Y ?_
 obtain ⟨hlim,hmx,hmax⟩:=Qz
 have hsl:=Zq g
 refine sr (kO (B.box (ts:=(Qc false g)) (tv (T.agg (Qc false g)) Y) nofun Y) (fO (OF.assign VEv.nils) (nt (sr (kO (OM.slice0 Yi zo3 (by kernel_rfl) Y (by rw [ZJ];decide) ZJ) (aO (T.os 1 1 0 0) Y (nt (sr (lO (OL.loadOn (us:=(Qc false g)) (tv (T.op 0 0) Y) Y Q6 Q0 (lb Y) Y) (cO (OC.callF (r':=(T.os 4 2 0 (((Qa g).map (Qk true)).length))) (objs:= [(Obj.rows 4 ((Qa g).map (Qk true)))]) Y (vc (tv (T.agg (Qc false g)) Y) vn) (LendL.cons (lg Qx) ln) (ZI (n+2) g (by assumption)) Y) (aO (T.os 4 2 0 (((Qa g).map (Qk true)).length)) Y ?_)))))))))))
 refine nt (sq (sr (fO (OF.assign (VEv.int .i64 0)) (nt (VRun.block ?_)))))
 have he1: []=((QR g f seals salt 0).map (Qe true)):=by rfl
 refine VRun.loop (A:=Nat) (fun s_=> [(1,(tS f)),(2,(rd 1 Qe seals)),(3,(tI salt)),(4,(T.op 0 0)),(8,T.nils),(9,(T.os 1 2 0 (((QR g f seals salt s_).map (Qe true)).length))),(10,(T.os 4 1 0 (((Qa g).map (Qk true)).length))),(11,(tN s_))]) (fun s_=>QV [(0,(Obj.cells (Qc false g))),(1,(Obj.rows 4 ((Qa g).map (Qk true)))),(2,(Obj.rows 1 ((QR g f seals salt s_).map (Qe true))))]) 3 (fun s_=>s_≤(Qa g).length∧(Q7 g f∨s_=0)) (fun s_=>(Qa g).length - s_) (0:Nat) ?_ (Wk.mk (fun k=>if k=1 then 2 else if k=2 then 1 else k) ?_ ?_ ?_) ?_
 ·exact ⟨Nat.zero_le _, .inr Y⟩
 ·exact (b2 (b2 (b2 (b2 (b2 (bc ⟨(congrArg (fun n_=>T.os 1 1 0 n_) (show 0=((QR g f seals salt 0).map (Qe true)).length from (by rfl))),rfl⟩ (b2 (b2 bn))))))))
 ·exact (b3 (b3 (bc ⟨(congrArg (fun l_=>some (Obj.rows 1 l_)) he1),(lb Y),rfl⟩ bn)))
 ·exact nd Y
 rintro i (hI':i≤(Qa g).length∧(Q7 g f∨i=0))
 show VRun _ _ _ [(1,(tS f)),(2,(rd 1 Qe seals)),(3,(tI salt)),(4,(T.op 0 0)),(8,T.nils),(9,(T.os 1 2 0 (((QR g f seals salt i).map (Qe true)).length))),(10,(T.os 4 1 0 (((Qa g).map (Qk true)).length))),(11,(tN i))] (QV [(0,(Obj.cells (Qc false g))),(1,(Obj.rows 4 ((Qa g).map (Qk true)))),(2,(Obj.rows 1 ((QR g f seals salt i).map (Qe true))))]) 3 _
 have hI1:=hI'.1
 have hrl:=Qbu g f seals salt i
 have hps:=J1 g f ((i:Nat):Int)
 refine sq (sr (mO (tN i) Y (mO (T.os 4 1 0 (((Qa g).map (Qk true)).length)) Y (lO (B.lenO (m:=(Qa g).length) (tv (T.os 4 1 0 (((Qa g).map (Qk true)).length)) Y) Yj (List.length_map ..)) (fO (Q9 (tv (tN i) Y) (tv (tN ((Qa g).length)) Y)) (mO (tB (decide (i<(Qa g).length))) Y ?_))))))
 refine VRunO.joinB 4 [20,21,22] 23 (tB (decide ((i<(Qa g).length)∧(Q7 g f)))) ?_ ?_
 ·refine gw (i<(Qa g).length) (fun fhg19_2=> ?_) fun fhg19_2=> ?_
  ·refine gL (dy fhg19_2) Y Y (OL.loadOn (us:=(Qc false g)) (tv (T.op 0 0) Y) Y Q6 Q0 (lb Y) Y) ?_
   refine gF (dy fhg19_2) Y Y (OF.move (tv (tS f) Y)) (VRunO.chain (VWant.on Y Y (dy fhg19_2)) (cS (vc (tv (T.agg (Qc false g)) Y) (vc (tv (tS f) Y) vn)) (LendL.cons (lg Qx) (lp Y ln)) (QaL (n+2) g f (by assumption) (by assumption)) Y Y) (fO (OF.pickT (VEv.tmpB Y (dy fhg19_2)) (tv (tB (decide (Q7 g f))) Y)) (VRunO.nil ?_)))
   exact jq (congrArg T.bool (kAT fhg19_2 Y)) (js Y (js Y (js Y (jn))))
  ·refine QD 3 4 true 19 (dz fhg19_2) Y Y Y ?_
   refine fO (OF.pickF (VEv.tmpB Y (dz fhg19_2)) (VEv.bool false)) (VRunO.nil ?_)
   exact jq (congrArg T.bool (kAF fhg19_2)) (js Y (js Y (js Y (jn))))
 refine nt ?_
 refine cd ((i<(Qa g).length)∧(Q7 g f)) Y (fun fhc0=> ?_) fun fhc0=> ?_
 ·refine sk ?_
  refine tn (sq (VRun.block (sr (mO (rd 1 Qe seals) Y (mO (tI salt) Y (mO (tN i) Y (lO (OL.loadOn (us:=(Qc false g)) (tv (T.op 0 0) Y) Y Q6 Q0 (lb Y) Y) (mO (tS f) Y (mO (tN i) Y (cO (cS (vc (tv (T.agg (Qc false g)) Y) (vc (tv (tS f) Y) (vc (tv (tN i) Y) vn))) (LendL.cons (lg Qx) (lp Y (lp Y ln))) (Qab (n+0) g f ((i:Nat):Int) (by assumption) (by assumption)) Y Y) (cO (cS (vc (tv (rd 1 Qe seals) Y) (vc (tv (tI salt) Y) (vc (tv (tN i) Y) (vc (tv (tS (Zi g f ((i:Nat):Int))) Y) vn)))) (Zg Y) (Qcr (n+0) seals salt ((i:Nat):Int) (Zi g f ((i:Nat):Int)) (by assumption) (by omega)) Y Y) ?_)))))))))))
  refine nt ?_
  refine cd (Qgo seals salt ((i:Nat):Int) (Zi g f ((i:Nat):Int))) Y (fun fhc1=> ?_) fun fhc1=> ?_
  ·refine VRun.region ?_
   refine mO (T.os 1 2 0 (((QR g f seals salt i).map (Qe true)).length)) Y (mO (tN i) Y (kO (OM.buildSlice (l:= [(tN i)]) (VEvp.cons (tv (tN i) Y) VEvp.nil) Y (by decide) (bc (nofun) bn) (bc ((bc (Y) bn)) bn) (bc (Y) bn) Yi zo3 (by kernel_rfl) Y (by rw [ZJ];decide) ZJ (Nat.le_of_ble_eq_true Y)) (cO (B.append (rows:=((QR g f seals salt i).map (Qe true))) (rows2:= [[(tN i)]]) (rows3:=((QR g f seals salt i++ [((i:Nat):Int)]).map (Qe true))) (VDst.own (tv (T.os 1 2 0 (((QR g f seals salt i).map (Qe true)).length)) Y) Y Y) (VSrc.own (tv (T.os 1 3 0 1) Y) Y Y Yi (bc (bc Y bn) bn)) (by decide) Yi ZJ (by decide) zo3 Y (of_decide_eq_true (by kernel_rfl)) (by (simp only [List.length_map,List.length_append,List.length_cons,List.length_nil,List.length_replicate,List.length_set,List.length_drop,List.length_take,Zk] at *;omega)) ((List.map_append (f:=Qe true) (l₁:=QR g f seals salt i) (l₂:= [((i:Nat):Int)])).symm)) (aO (T.os 1 4 0 (((QR g f seals salt i++ [((i:Nat):Int)]).map (Qe true)).length)) Y (VRunO.nil (vinB.n (tn (VRun.region (mO (tN i) Y (fO (QB (tv (tN i) Y) (VEv.int .i64 1) (by omega)) (aO (tN (i+1)) Y ?_)))))))))))
   refine VRunO.nil (tn ?_)
   have he3:(QR g f seals salt i++ [((i:Nat):Int)])=QR g f seals salt (i+1):=by exact Qg7 fhc1
   refine ⟨(i+1:Nat),?_,?_,Wk.mk (fun k=>if k=2 then 4 else k) ?_ ?_ ?_⟩
   ·exact ⟨by omega, .inl fhc0.2⟩
   ·omega
   ·exact (b2 (b2 (b2 (b2 (b2 (bc ⟨(congrArg (fun l_=>T.os 1 4 0 (List.map (Qe true) l_).length) he3),rfl⟩ (b2 (b2 bn))))))))
   ·exact (b3 (b3 (bc ⟨(congrArg (fun l_=>some (Obj.rows 1 (List.map (Qe true) l_))) he3),(lb Y),rfl⟩ bn)))
   ·exact nd Y
  refine sk (vinB.n (tn (VRun.region (mO (tN i) Y (fO (QB (tv (tN i) Y) (VEv.int .i64 1) (by omega)) (aO (tN (i+1)) Y (VRunO.nil (tn ?_))))))))
  have he4:QR g f seals salt i=QR g f seals salt (i+1):=by exact Qjx fhc1
  refine ⟨(i+1:Nat),?_,?_,Wk.mk (fun k=>k) ?_ ?_ ?_⟩
  ·exact ⟨by omega, .inl fhc0.2⟩
  ·omega
  ·exact (b2 (b2 (b2 (b2 (b2 (bc ⟨(congrArg (fun l_=>T.os 1 2 0 (List.map (Qe true) l_).length) he4),rfl⟩ (b2 (b2 bn))))))))
  ·exact (b3 (b3 (bc ⟨(congrArg (fun l_=>some (Obj.rows 1 (List.map (Qe true) l_))) he4),(lb Y),rfl⟩ bn)))
  ·exact nd Y
 refine VRun.exit (vthn.e (vthn.e (vinB.e (tn (sr (mO (T.os 1 2 0 (((QR g f seals salt i).map (Qe true)).length)) Y (aO (T.os 1 2 0 (((QR g f seals salt i).map (Qe true)).length)) Y (nt (rt ?_)))))))))
 refine vfin.eq (r':=(T.sl true 1 ((QR g f seals salt i).map (Qe true)))) ?_ (vfin.r (VRes.tmp (t:=(T.os 1 2 0 (((QR g f seals salt i).map (Qe true)).length))) Y VRes.nil) (Give.os Y Y (okInt.cleanMap _)))
 refine congrArg (fun l_=>T.sl true 1 (List.map (Qe true) l_)) ?_
 exact Qho hI1 hI'.2 fhc0
theorem QdM (n:Nat) (g:D.Grid) (f:ByteArray) (seals:List Int) (salt:Int) (hc:g.Cells.size≤maxLen) (hf:f.size≤maxLen) (hl:seals.length≤Zk):Pure (Qo Tryz.prog (n+6)) 126 [(T.agg (Qc false g)),(tS f),(rd 1 Qe seals),(tI salt)] (T.sl true 1 ((ZO g f seals salt).map (Qe true))):=by
 refine Pure.intro (rs:= [ResultVar.tmp 8]) Tryz.func126 Y Y Y (E0:= [(0,(T.agg (Qc false g))),(1,(tS f)),(2,(rd 1 Qe seals)),(3,(tI salt))]) Y ?_
 obtain ⟨hlim,hmx,hmax⟩:=Qz
 have hsl:=Zq g
 have hpl:=Qf1 g f
 refine sr (kO (B.box (ts:=(Qc false g)) (tv (T.agg (Qc false g)) Y) nofun Y) (fO (OF.assign VEv.nils) (nt (sr (fO (OF.assign VEv.nils) (nt (sq (sr (lO (OL.loadOn (us:=(Qc false g)) (tv (T.op 0 0) Y) Y Q6 Q0 (lb Y) Y) (mO (tS f) Y (cO (OC.callF (r':=(T.os 1 1 0 (((Zx g f).map (Qj true)).length))) (objs:= [(Obj.rows 1 ((Zx g f).map (Qj true)))]) Y (vc (tv (T.agg (Qc false g)) Y) (vc (tv (tS f) Y) vn)) (LendL.cons (lg Qx) (lp Y ln)) (QbG (n+0) g f (by assumption) (by assumption)) Y) ?_)))))))))))
 refine lO (B.lenO (m:=(Zx g f).length) (tv (T.os 1 1 0 (((Zx g f).map (Qj true)).length)) Y) Jm (List.length_map ..)) (fO (OF.move (VEv.int .i64 0)) (nt (VRun.block (VRun.wk (Wk.freeze (sz:=1) (k:=1) (rows':=((Zx g f).map (Qj false))) [14] (bc Y bn) Y Y (okStr.fzMap _ _)) (VRun.wk (Wk.phantom 9 1 Y) ?_)))))
 have he1: []=((QR g f seals salt 0).map (Qe true)):=by rfl
 refine VRun.loop (A:=Nat) (fun s_=> [(2,(rd 1 Qe seals)),(3,(tI salt)),(8,T.nils),(9,(T.os 1 0 0 (((QR g f seals salt s_).map (Qe true)).length))),(14,(rd 1 Qj (Zx g f))),(15,(tN ((Zx g f).length))),(16,(tN s_))]) (fun s_=>QV [(0,(Obj.rows 1 ((QR g f seals salt s_).map (Qe true))))]) 1 (fun s_=>s_≤(Zx g f).length) (fun s_=>(Zx g f).length - s_) (0:Nat) ?_ (Wk.mk (fun k=>if k=0 then 2 else k) ?_ ?_ ?_) ?_
 ·(simp;done)
 ·exact (b2 (b2 (b2 (bc ⟨(congrArg (fun n_=>T.os 1 2 0 n_) (show 0=((QR g f seals salt 0).map (Qe true)).length from (by rfl))),rfl⟩ (b2 (b2 (b2 bn)))))))
 ·exact (bc ⟨(congrArg (fun l_=>some (Obj.rows 1 l_)) he1),(lb Y),rfl⟩ bn)
 ·exact nd Y
 rintro i (hI':i≤(Zx g f).length)
 show VRun _ _ _ [(2,(rd 1 Qe seals)),(3,(tI salt)),(8,T.nils),(9,(T.os 1 0 0 (((QR g f seals salt i).map (Qe true)).length))),(14,(rd 1 Qj (Zx g f))),(15,(tN ((Zx g f).length))),(16,(tN i))] (QV [(0,(Obj.rows 1 ((QR g f seals salt i).map (Qe true))))]) 1 _
 have hrl:=Qbu g f seals salt i
 have hps:=J1 g f ((i:Nat):Int)
 refine sr (fO (Q9 (tv (tN i) Y) (tv (tN ((Zx g f).length)) Y)) (nt (sq ?_)))
 refine cd (i<(Zx g f).length) Y (fun fhc0=> ?_) fun fhc0=> ?_
 ·refine sk ?_
  refine tn (sq (VRun.block (sr (mO (tN i) Y ?_))))
  obtain ⟨x1,hx1⟩:∃x,(Zx g f)[i]? =some x:=⟨_,List.getElem?_eq_getElem (by omega)⟩
  have hpx:=QiM hx1
  refine fO (OF.indexAddrR (row:=(Qj false x1)) (i:=i) (tv (rd 1 Qj (Zx g f)) Y) (tv (tN i) Y) Y (Qu _ hx1) Jm Ji if9) (lO (OL.loadR1 (t:=(tS x1)) (tv (T.rp [(tS x1)]) Y) Y ZG) (aO (tN i) Y (aO (tS x1) Y (nt (sr (mO (rd 1 Qe seals) Y (mO (tI salt) Y (mO (tN i) Y (mO (tS x1) Y (cO (cS (vc (tv (rd 1 Qe seals) Y) (vc (tv (tI salt) Y) (vc (tv (tN i) Y) (vc (tv (tS x1) Y) vn)))) (Zg Y) (Qcw (n+0) seals salt ((i:Nat):Int) x1 (by assumption) (by (rw [hpx];omega))) Y Y) (nt ?_)))))))))))
  refine cd (Qgo seals salt ((i:Nat):Int) x1) Y (fun fhc1=> ?_) fun fhc1=> ?_
  ·refine VRun.region ?_
   refine mO (T.os 1 0 0 (((QR g f seals salt i).map (Qe true)).length)) Y (mO (tN i) Y (kO (OM.buildSlice (l:= [(tN i)]) (VEvp.cons (tv (tN i) Y) VEvp.nil) Y (by decide) (bc (nofun) bn) (bc ((bc (Y) bn)) bn) (bc (Y) bn) Yi zo3 (by kernel_rfl) Y (by rw [ZJ];decide) ZJ (Nat.le_of_ble_eq_true Y)) (cO (B.append (rows:=((QR g f seals salt i).map (Qe true))) (rows2:= [[(tN i)]]) (rows3:=((QR g f seals salt i++ [((i:Nat):Int)]).map (Qe true))) (VDst.own (tv (T.os 1 0 0 (((QR g f seals salt i).map (Qe true)).length)) Y) Y Y) (VSrc.own (tv (T.os 1 1 0 1) Y) Y Y Yi (bc (bc Y bn) bn)) (by decide) Yi ZJ (by decide) zo3 Y (of_decide_eq_true (by kernel_rfl)) (by (simp only [List.length_map,List.length_append,List.length_cons,List.length_nil,List.length_replicate,List.length_set,List.length_drop,List.length_take,Zk] at *;omega)) ((List.map_append (f:=Qe true) (l₁:=QR g f seals salt i) (l₂:= [((i:Nat):Int)])).symm)) (aO (T.os 1 2 0 (((QR g f seals salt i++ [((i:Nat):Int)]).map (Qe true)).length)) Y (VRunO.nil (vinB.n (tn (VRun.region (fO (QB (tv (tN i) Y) (VEv.int .i64 1) (by omega)) (mO (tN (i+1)) Y (VRunO.nil ?_)))))))))))
   refine tn ?_
   have he2:(QR g f seals salt i++ [((i:Nat):Int)])=QR g f seals salt (i+1):=by (rw [hpx] at fhc1;exact Qg7 fhc1)
   refine ⟨(i+1:Nat),?_,?_,Wk.mk (fun k=>if k=0 then 2 else k) ?_ ?_ ?_⟩
   ·trivial
   ·omega
   ·exact (b2 (b2 (b2 (bc ⟨(congrArg (fun l_=>T.os 1 2 0 (List.map (Qe true) l_).length) he2),rfl⟩ (b2 (b2 (b2 bn)))))))
   ·exact (bc ⟨(congrArg (fun l_=>some (Obj.rows 1 (List.map (Qe true) l_))) he2),(lb Y),rfl⟩ bn)
   ·exact nd Y
  refine sk (vinB.n (tn (VRun.region (fO (QB (tv (tN i) Y) (VEv.int .i64 1) (by omega)) (mO (tN (i+1)) Y (VRunO.nil (tn ?_)))))))
  have he3:QR g f seals salt i=QR g f seals salt (i+1):=by (rw [hpx] at fhc1;exact Qjx fhc1)
  refine ⟨(i+1:Nat),?_,?_,Wk.mk (fun k=>k) ?_ ?_ ?_⟩
  ·trivial
  ·omega
  ·exact (b2 (b2 (b2 (bc ⟨(congrArg (fun l_=>T.os 1 0 0 (List.map (Qe true) l_).length) he3),rfl⟩ (b2 (b2 (b2 bn)))))))
  ·exact (bc ⟨(congrArg (fun l_=>some (Obj.rows 1 (List.map (Qe true) l_))) he3),(lb Y),rfl⟩ bn)
  ·exact nd Y
 refine VRun.exit (vthn.e (vthn.e (vinB.e (tn (sr (mO (T.os 1 0 0 (((QR g f seals salt i).map (Qe true)).length)) Y (aO (T.os 1 0 0 (((QR g f seals salt i).map (Qe true)).length)) Y (nt (rt ?_)))))))))
 refine vfin.eq (r':=(T.sl true 1 ((QR g f seals salt i).map (Qe true)))) ?_ (vfin.r (VRes.tmp (t:=(T.os 1 0 0 (((QR g f seals salt i).map (Qe true)).length))) Y VRes.nil) (Give.os Y Y (okInt.cleanMap _)))
 refine congrArg (fun l_=>T.sl true 1 (List.map (Qe true) l_)) ?_
 exact QjL hI' fhc0
noncomputable section
def JZ (f:ByteArray):Prop:=∃j,j<f.size∧Qy f j=63
instance (f:ByteArray):Decidable (JZ f):=Classical.propDecidable _
def Jk (f:ByteArray):Nat→Nat
 | 0=>0
 | i+1=>Jk f i+(if Qy f i=63 then 1 else 0)
theorem Qkx (f:ByteArray):∀i,Jk f i≤i
 | 0=>Nat.le_refl _
 | i+1=>by
  have:=Qkx f i
  unfold Jk
  split<;>omega
theorem Qhh (f:ByteArray):∀i,Jk f i=0↔∀j,j<i→¬Qy f j=63
 | 0=>⟨fun _ j hj=>by omega,fun _=>rfl⟩
 | i+1=>by
  have ih:=Qhh f i
  unfold Jk
  constructor
  ·intro h j hj
   by_cases e:j=i
   ·subst e;intro e2;rw [if_pos e2] at h;omega
   ·exact ih.1 (by omega) j (by omega)
  ·intro h
   rw [if_neg (h i (by omega)),ih.2 (fun j hj=>h j (by omega))]
theorem QmV (f:ByteArray):Jk f f.size=0↔¬JZ f:=by
 rw [Qhh]
 exact ⟨fun h ⟨j,h1,h2⟩=>h j h1 h2,fun h j h1 h2=>h ⟨j,h1,h2⟩⟩
end
theorem QfO (n:Nat) (f:ByteArray) (hf:f.size≤maxLen):Pure (Qo Tryz.prog (n+1)) 149 [(tS f)] (tB (decide (JZ f))):=by
 refine Pure.intro (rs:= [ResultVar.tmp 2]) Tryz.func149 Y Y Y (E0:= [(0,(tS f))]) Y ?_
 obtain ⟨hlim,hmx,hmax⟩:=Qz
 refine sr (fO (OF.assign (VEv.bool false)) (nt (sq (sr (fO (OF.assign (VEv.int .i64 0)) (nt (VRun.block ?_)))))))
 refine VRun.loop (A:=Nat) (fun s_=> [(0,(tS f)),(3,(tN s_))]) (fun s_=>QV []) 0 (fun s_=>s_≤f.size∧∀j,j<s_→¬Qy f j=63) (fun s_=>f.size - s_) (0:Nat) ?_ (Wk.mk (fun k=>k) ?_ ?_ ?_) ?_
 ·exact ⟨Nat.zero_le _,fun j hj=>by omega⟩
 ·exact (b2 (b2 bn))
 ·exact bn
 ·exact nd Y
 rintro i (hI':i≤f.size∧∀j,j<i→¬Qy f j=63)
 show VRun _ _ _ [(0,(tS f)),(3,(tN i))] (QV []) 0 _
 have hI1:=hI'.1
 refine sq (sr (mO (tN i) Y (mO (tS f) Y (lO (B.lenS (tv (tS f) Y) U9) (fO (Q9 (tv (tN i) Y) (tv (tN f.size) Y)) (nt ?_))))))
 refine cd (i<f.size) Y (fun fhc0=> ?_) fun fhc0=> ?_
 ·refine sk ?_
  refine tn (sq (VRun.block (sr (mO (tS f) Y (mO (tN i) Y ?_)))))
  have hb1:i<f.size:=(by omega)
  refine fO (xix (tv (tS f) Y) (tv (tN i) Y) hb1 U9) (fO (Yn (tv (T.int .u8 (Qy f i)) Y) (VEv.int .u8 63)) (nt ?_))
  refine cd (Qy f i=63) Y (fun fhc1=> ?_) fun fhc1=> ?_
  ·refine sr ?_
   refine fO (OF.assign (VEv.bool true)) (nt (rt (vinB.r (tr (tr (vinB.r (tr (vb (b':=true) Y ?_))))))))
   symm;rw [decide_eq_true_eq];exact ⟨i,fhc0,fhc1⟩
  refine sk (vinB.n (tn (VRun.region (mO (tN i) Y (fO (QB (tv (tN i) Y) (VEv.int .i64 1) (by omega)) (aO (tN (i+1)) Y (VRunO.nil (tn ?_))))))))
  refine ⟨(i+1:Nat),?_,?_,Wk.mk (fun k=>k) ?_ ?_ ?_⟩
  ·exact Zb hI' fhc0 fhc1
  ·omega
  ·exact (b2 (b2 bn))
  ·exact bn
  ·exact nd Y
 refine VRun.exit (vthn.e (vthn.e (vinB.e (tn (sr (fO (OF.assign (VEv.bool false)) (nt (rt (vb (b':=false) Y ?_)))))))))
 symm;rw [decide_eq_false_iff_not];rintro ⟨j,h1,h2⟩;exact hI'.2 j (by omega) h2
theorem QgS (n:Nat) (f:ByteArray) (hf:f.size≤maxLen):Pure (Qo Tryz.prog (n+1)) 158 [(tS f)] (tN (Jk f f.size)):=by
 refine Pure.intro (rs:= [ResultVar.tmp 2]) Tryz.func158 Y Y Y (E0:= [(0,(tS f))]) Y ?_
 obtain ⟨hlim,hmx,hmax⟩:=Qz
 refine sr (fO (OF.assign (VEv.int .i64 0)) (nt (sr (fO (OF.assign (VEv.int .i64 0)) (nt (sq (sr (mO (tS f) Y (lO (B.lenS (tv (tS f) Y) U9) (fO (OF.move (VEv.int .i64 0)) (nt ?_)))))))))))
 refine VRun.block ?_
 refine VRun.loop (A:=Nat) (fun s_=> [(0,(tS f)),(2,(tN 0)),(3,(tN (Jk f s_))),(6,(tN f.size)),(7,(tN s_))]) (fun s_=>QV []) 0 (fun s_=>s_≤f.size) (fun s_=>f.size - s_) (0:Nat) ?_ (Wk.mk (fun k=>k) ?_ ?_ ?_) ?_
 ·(simp;done)
 ·exact (b2 (b2 (bc ⟨(congrArg (T.int .i64) (show 0=((Jk f 0:Nat):Int) from (by rfl))),rfl⟩ (b2 (b2 bn)))))
 ·exact bn
 ·exact nd Y
 rintro i (hI':i≤f.size)
 show VRun _ _ _ [(0,(tS f)),(2,(tN 0)),(3,(tN (Jk f i))),(6,(tN f.size)),(7,(tN i))] (QV []) 0 _
 have hol:=Qkx f i
 refine sr (fO (Q9 (tv (tN i) Y) (tv (tN f.size) Y)) (nt (sq ?_)))
 refine cd (i<f.size) Y (fun fhc0=> ?_) fun fhc0=> ?_
 ·refine sk ?_
  refine tn (sq (VRun.block (sr (mO (tN i) Y (aO (tN i) Y (nt (sr (mO (tS f) Y (mO (tN i) Y ?_)))))))))
  have hb1:i<f.size:=(by omega)
  refine fO (xix (tv (tS f) Y) (tv (tN i) Y) hb1 U9) (fO (Yn (tv (T.int .u8 (Qy f i)) Y) (VEv.int .u8 63)) (nt ?_))
  refine cd (Qy f i=63) Y (fun fhc1=> ?_) fun fhc1=> ?_
  ·refine VRun.region ?_
   refine mO (tN (Jk f i)) Y (fO (QB (tv (tN (Jk f i)) Y) (VEv.int .i64 1) (by omega)) (aO (tN (Jk f i+1)) Y (VRunO.nil (vinB.n (tn (VRun.region (fO (QB (tv (tN i) Y) (VEv.int .i64 1) (by omega)) (mO (tN (i+1)) Y (VRunO.nil (tn ?_))))))))))
   refine ⟨(i+1:Nat),?_,?_,Wk.mk (fun k=>k) ?_ ?_ ?_⟩
   ·trivial
   ·omega
   ·exact (b2 (b2 (bc ⟨(congrArg (T.int .i64) (show (((Jk f i+1):Nat):Int)=((Jk f (i+1):Nat):Int) from (by (rw [Jk,if_pos fhc1];done)))),rfl⟩ (b2 (b2 bn)))))
   ·exact bn
   ·exact nd Y
  refine sk (vinB.n (tn (VRun.region (fO (QB (tv (tN i) Y) (VEv.int .i64 1) (by omega)) (mO (tN (i+1)) Y (VRunO.nil (tn ?_)))))))
  refine ⟨(i+1:Nat),?_,?_,Wk.mk (fun k=>k) ?_ ?_ ?_⟩
  ·trivial
  ·omega
  ·exact (b2 (b2 (bc ⟨(congrArg (T.int .i64) (show ((Jk f i:Nat):Int)=((Jk f (i+1):Nat):Int) from (by (rw [Jk,if_neg fhc1];rfl)))),rfl⟩ (b2 (b2 bn)))))
  ·exact bn
  ·exact nd Y
 refine VRun.exit (vthn.e (vthn.e (vinB.e (tn (sr (mO (tN (Jk f i)) Y (aO (tN (Jk f i)) Y (nt (rt (vi (n':=((Jk f i:Nat):Int)) Y ?_))))))))))
 rw [show i=f.size by omega]
noncomputable section
def QaI (g:D.Grid) (f:ByteArray):Prop:=Q7 g f∧¬JZ f
instance (g:D.Grid) (f:ByteArray):Decidable (QaI g f):=Classical.propDecidable _
end
theorem QgZ (n:Nat) (g:D.Grid) (f:ByteArray) (hc:g.Cells.size≤maxLen) (hf:f.size≤maxLen):Pure (Qo Tryz.prog (n+4)) 121 [(T.agg (Qc false g)),(tS f)] (tB (decide (QaI g f))):=by
 refine Pure.intro (rs:= [ResultVar.tmp 4]) Tryz.func121 Y Y Y (E0:= [(0,(T.agg (Qc false g))),(1,(tS f))]) Y ?_
 obtain ⟨hlim,hmx,hmax⟩:=Qz
 refine sr (kO (B.box (ts:=(Qc false g)) (tv (T.agg (Qc false g)) Y) nofun Y) (fO (OF.assign (VEv.bool false)) (nt (sr (lO (OL.loadOn (us:=(Qc false g)) (tv (T.op 0 0) Y) Y Q6 Q0 (lb Y) Y) (mO (tS f) Y (cO (cS (vc (tv (T.agg (Qc false g)) Y) (vc (tv (tS f) Y) vn)) (LendL.cons (lg Qx) (lp Y ln)) (QaL (n+0) g f (by assumption) (by assumption)) Y Y) (mO (tB (decide (Q7 g f))) Y ?_))))))))
 refine VRunO.joinB 4 [9,10,11] 12 (tB (decide ((Q7 g f)∧(¬(JZ f))))) ?_ ?_
 ·refine gw (Q7 g f) (fun fhg8_1=> ?_) fun fhg8_1=> ?_
  ·refine gF (dy fhg8_1) Y Y (OF.move (tv (tS f) Y)) ?_
   refine VRunO.chain (VWant.on Y Y (dy fhg8_1)) (cS (vc (tv (tS f) Y) vn) (Zg Y) (QfO (n+2) f (by assumption)) Y Y) (gF (dy fhg8_1) Y Y (QU (tv (tB (decide (JZ f))) Y)) (fO (OF.pickT (VEv.tmpB Y (dy fhg8_1)) (tv (tB (!(decide (JZ f)))) Y)) (VRunO.nil ?_)))
   exact jq (congrArg T.bool (kAT fhg8_1 dN)) (js Y (js Y (js Y (jn))))
  ·refine QD 3 3 true 8 (dz fhg8_1) Y Y Y ?_
   refine fO (OF.pickF (VEv.tmpB Y (dz fhg8_1)) (VEv.bool false)) (VRunO.nil ?_)
   exact jq (congrArg T.bool (kAF fhg8_1)) (js Y (js Y (js Y (jn))))
 refine aO (tB (decide ((Q7 g f)∧(¬(JZ f))))) Y (nt (rt (vb (b':=(decide ((Q7 g f)∧(¬(JZ f))))) Y ?_)))
 exact Qt Iff.rfl
theorem Qg0 (n:Nat) (g:D.Grid) (f:ByteArray) (hc:g.Cells.size≤maxLen) (hf:f.size≤maxLen):Pure (Qo Tryz.prog (n+4)) 125 [(T.agg (Qc false g)),(tS f)] (tB (decide (QaI g f))):=by
 refine Pure.intro (rs:= [ResultVar.tmp 4]) Tryz.func125 Y Y Y (E0:= [(0,(T.agg (Qc false g))),(1,(tS f))]) Y ?_
 obtain ⟨hlim,hmx,hmax⟩:=Qz
 refine sr (kO (B.box (ts:=(Qc false g)) (tv (T.agg (Qc false g)) Y) nofun Y) (fO (OF.assign (VEv.bool false)) (nt (sr (lO (OL.loadOn (us:=(Qc false g)) (tv (T.op 0 0) Y) Y Q6 Q0 (lb Y) Y) (mO (tS f) Y (cO (cS (vc (tv (T.agg (Qc false g)) Y) (vc (tv (tS f) Y) vn)) (LendL.cons (lg Qx) (lp Y ln)) (Qcy (n+0) g f (by assumption) (by assumption)) Y Y) (mO (tB (decide (Q7 g f))) Y ?_))))))))
 refine VRunO.joinB 4 [9,10,11] 12 (tB (decide ((Q7 g f)∧(Jk f f.size=0)))) ?_ ?_
 ·refine gw (Q7 g f) (fun fhg8_1=> ?_) fun fhg8_1=> ?_
  ·refine gF (dy fhg8_1) Y Y (OF.move (tv (tS f) Y)) ?_
   refine VRunO.chain (VWant.on Y Y (dy fhg8_1)) (cS (vc (tv (tS f) Y) vn) (Zg Y) (QgS (n+2) f (by assumption)) Y Y) (gF (dy fhg8_1) Y Y (B.eql (c:=(decide (Jk f f.size=0))) (tv (tN (Jk f f.size)) Y) (VEv.int .i64 0) (Qt (by omega))) (fO (OF.pickT (VEv.tmpB Y (dy fhg8_1)) (tv (tB (decide (Jk f f.size=0))) Y)) (VRunO.nil ?_)))
   exact jq (congrArg T.bool (kAT fhg8_1 Y)) (js Y (js Y (js Y (jn))))
  ·refine QD 3 3 true 8 (dz fhg8_1) Y Y Y ?_
   refine fO (OF.pickF (VEv.tmpB Y (dz fhg8_1)) (VEv.bool false)) (VRunO.nil ?_)
   exact jq (congrArg T.bool (kAF fhg8_1)) (js Y (js Y (js Y (jn))))
 refine aO (tB (decide ((Q7 g f)∧(Jk f f.size=0)))) Y (nt (rt (vb (b':=(decide ((Q7 g f)∧(Jk f f.size=0)))) Y ?_)))
 refine Qt ?_;rw [QmV];exact Iff.rfl
noncomputable section
def QdE (p:D.Puzzle):Prop:=Z9 p.Grid=0∧p.Clues.length=(Qa p.Grid).length∧p.Seals.length=(Qa p.Grid).length∧(1≤p.Salt∧p.Salt≤9999)∧∀c∈p.Clues,okC c
instance (p:D.Puzzle):Decidable (QdE p):=Classical.propDecidable _
def noC (c:D.Clue):Prop:=¬okC c
instance (c:D.Clue):Decidable (noC c):=Classical.propDecidable _
end
theorem QdC (n:Nat) (c:D.Clue) (hz:QO c≤mx):Pure (Qo Tryz.prog (n+5)) 75 [(T.agg (Qi false c))] (tB (decide (noC c))):=by
 refine Pure.intro (rs:= [ResultVar.tmp 2]) Tryz.func75 Y Y Y (E0:= [(0,(T.agg (Qi false c)))]) Y ?_
 obtain ⟨hlim,hmx,hmax⟩:=Qz
 refine sr (kO (B.box (ts:=(Qi false c)) (tv (T.agg (Qi false c)) Y) nofun Y) (fO (OF.assign (VEv.bool false)) (nt (sr (lO (OL.loadOn (us:=(Qi false c)) (tv (T.op 0 0) Y) Y Qbx Y7 (lb Y) Y) (cO (cS (vc (tv (T.agg (Qi false c)) Y) vn) (LendL.cons (lg okeClue) ln) (QaS (n+0) c (by assumption)) Y Y) (fO (QU (tv (tB (decide ((1≤c.Sense∧c.Sense≤99)∧QJ c.Play))) Y)) (aO (tB (!(decide ((1≤c.Sense∧c.Sense≤99)∧QJ c.Play)))) Y (nt (rt (vb (b':=(!(decide ((1≤c.Sense∧c.Sense≤99)∧QJ c.Play)))) Y ?_)))))))))))
 rw [dN];exact Qt Iff.rfl
theorem ZN (n:Nat) (l:List D.Clue) (hz:zL QO l≤mx):Pure (Qo Tryz.prog (n+6)) 115 [(rd 2 Qi l),(T.fn 75 [])] (tI (ixF noC l)):=by
 refine Pure.intro (rs:= [ResultVar.tmp 4]) Tryz.func115 Y Y Y (E0:= [(0,(rd 2 Qi l)),(1,(T.fn 75 []))]) Y ?_
 obtain ⟨hlim,hmx,hmax⟩:=Qz
 have hl:=Q1 (z:=QO) l
 refine sr (fO (OF.assign (VEv.int .i64 0)) (nt (sq (sr (mO (rd 2 Qi l) Y (lO (B.lenR (m:=l.length) (tv (rd 2 Qi l) Y) U37 (List.length_map ..)) (fO (OF.move (VEv.int .i64 0)) (nt (VRun.block ?_)))))))))
 refine VRun.loop (A:=Nat) (fun s_=> [(0,(rd 2 Qi l)),(1,(T.fn 75 [])),(7,(tN l.length)),(8,(tN s_))]) (fun s_=>QV []) 0 (fun s_=>NoneTo noC l s_) (fun s_=>l.length - s_) (0:Nat) ?_ (Wk.mk (fun k=>k) ?_ ?_ ?_) ?_
 ·exact NoneTo.start _ _
 ·exact (b2 (b2 (b2 (b2 bn))))
 ·exact bn
 ·exact nd Y
 rintro i (hI':NoneTo noC l i)
 show VRun _ _ _ [(0,(rd 2 Qi l)),(1,(T.fn 75 [])),(7,(tN l.length)),(8,(tN i))] (QV []) 0 _
 have hI1:=hI'.1
 refine sr (fO (Q9 (tv (tN i) Y) (tv (tN l.length) Y)) (nt (sq ?_)))
 refine cd (i<l.length) Y (fun fhc0=> ?_) fun fhc0=> ?_
 ·refine sk ?_
  refine tn (sq (VRun.block (sr (mO (tN i) Y (aO (tN i) Y (nt (sr (mO (T.fn 75 []) Y (mO (rd 2 Qi l) Y (mO (tN i) Y ?_))))))))))
  obtain ⟨x1,hx1⟩:∃x,l[i]? =some x:=⟨_,List.getElem?_eq_getElem (by omega)⟩
  refine fO (OF.indexAddrR (row:=(Qi false x1)) (i:=i) (tv (rd 2 Qi l) Y) (tv (tN i) Y) Y (Qu _ hx1) U37 Y7 QhX) (lO (OL.loadRn (us:=(Qi false x1)) (tv (T.rp (Qi false x1)) Y) Qbx Y7 (lb Y) Y) (cO (OC.callv (us:= [(T.agg (Qi false x1))]) (ucaps:= []) (r:=(tB (decide (noC x1)))) (r':=(tB (decide (noC x1)))) (objs:= []) Y Y (vc (tv (T.agg (Qi false x1)) Y) vn) (LendL.cons (lg okeClue) ln) ln (QdC (n+0) x1 (by exact Nat.le_trans (QeI hx1) hz)) Y) (nt ?_)))
  refine cd (noC x1) Y (fun fhc1=> ?_) fun fhc1=> ?_
  ·refine sr ?_
   refine mO (tN i) Y (aO (tN i) Y (nt (rt (vinB.r (tr (tr (vinB.r (tr (vi (n':=((i:Nat):Int)) Y ?_)))))))))
   exact (Qbo hx1 fhc1 hI'.2).symm
  refine sk (vinB.n (tn (VRun.region (fO (QB (tv (tN i) Y) (VEv.int .i64 1) (by omega)) (mO (tN (i+1)) Y (VRunO.nil (tn ?_)))))))
  refine ⟨(i+1:Nat),?_,?_,Wk.mk (fun k=>k) ?_ ?_ ?_⟩
  ·exact hI'.next hx1 fhc1
  ·omega
  ·exact (b2 (b2 (b2 (b2 bn))))
  ·exact bn
  ·exact nd Y
 refine VRun.exit (vthn.e (vthn.e (vinB.e (tn (sr (fO (OF.assign (VEv.int .i64 (-1))) (nt (rt (vi (n':=(-1)) Y ?_)))))))))
 exact (QbS (hI'.all fhc0)).symm
theorem ZF (n:Nat) (l:List D.Clue) (hz:zL QO l≤mx):Pure (Qo Tryz.prog (n+7)) 74 [(rd 2 Qi l),(T.fn 75 [])] (tB (decide (∃c∈l,noC c))):=by
 refine Pure.intro (rs:= [ResultVar.tmp 4]) Tryz.func74 Y Y Y (E0:= [(0,(rd 2 Qi l)),(1,(T.fn 75 []))]) Y ?_
 obtain ⟨hlim,hmx,hmax⟩:=Qz
 refine sr (fO (OF.assign (VEv.bool false)) (nt (sr (mO (rd 2 Qi l) Y (mO (T.fn 75 []) Y (cO (cS (us:= [(rd 2 Qi l),(T.fn 75 [])]) (vc (tv (rd 2 Qi l) Y) (vc (tv (T.fn 75 []) Y) vn)) (lp Y (LendL.cons (Lend.fn ln) ln)) (ZN (n+0) l (by assumption)) Y Y) (fO (xge (tv (tI (ixF noC l)) Y) (VEv.int .i64 0)) (aO (tB (decide (0≤ixF noC l))) Y (nt (rt (vb (b':=(decide (0≤ixF noC l))) Y ?_)))))))))))
 refine Qt ?_;exact Qfy
theorem Qfj (n:Nat) (a:D.Puzzle) (hz:QT a≤mx):Pure (Qo Tryz.prog (n+10)) 32 [(T.agg (QF false a))] (tB (decide (QdE a))):=by
 refine Pure.intro (rs:= [ResultVar.tmp 2]) Tryz.func32 Y Y Y (E0:= [(0,(T.agg (QF false a)))]) Y ?_
 obtain ⟨hlim,hmx,hmax⟩:=Qz
 simp only [QT,ZR] at hz
 have hl:=Q1 (z:=QO) a.Clues
 have hl2:=Q1 (z:=zI) a.Seals
 refine sr (kO (B.box (ts:=(QF false a)) (tv (T.agg (QF false a)) Y) nofun Y) (fO (OF.assign (VEv.bool false)) (nt (sq (sr (fO (OF.assign (VEv.int .i64 0)) (nt (VRun.block ?_))))))))
 refine VRun.loop (A:=Nat) (fun s_=> [(1,(T.op 0 0)),(3,(tN s_))]) (fun s_=>QV [(0,(Obj.cells (QF false a)))]) 1 (fun s_=>NoneTo noC a.Clues s_) (fun s_=>a.Clues.length - s_) (0:Nat) ?_ (Wk.mk (fun k=>k) ?_ ?_ ?_) ?_
 ·exact NoneTo.start _ _
 ·exact (b2 (b2 bn))
 ·exact (b3 bn)
 ·exact nd Y
 rintro i (hI':NoneTo noC a.Clues i)
 show VRun _ _ _ [(1,(T.op 0 0)),(3,(tN i))] (QV [(0,(Obj.cells (QF false a)))]) 1 _
 have hI1:=hI'.1
 refine sq (sr (mO (tN i) Y (lf (rd 2 Qi a.Clues) Y Qal Y Y QgO (lO (B.lenR (m:=a.Clues.length) (tv (rd 2 Qi a.Clues) Y) U37 (List.length_map ..)) (fO (Q9 (tv (tN i) Y) (tv (tN a.Clues.length) Y)) (nt ?_))))))
 refine cd (i<a.Clues.length) Y (fun fhc0=> ?_) fun fhc0=> ?_
 ·refine sk ?_
  refine tn (sq (VRun.block (sr (lf (rd 2 Qi a.Clues) Y Qal Y Y QgO (mO (tN i) Y ?_)))))
  obtain ⟨x1,hx1⟩:∃x,a.Clues[i]? =some x:=⟨_,List.getElem?_eq_getElem (by omega)⟩
  refine fO (OF.indexAddrR (row:=(Qi false x1)) (i:=i) (tv (rd 2 Qi a.Clues) Y) (tv (tN i) Y) Y (Qu _ hx1) U37 Y7 QhX) (lO (OL.loadRn (us:=(Qi false x1)) (tv (T.rp (Qi false x1)) Y) Qbx Y7 (lb Y) Y) (cO (cS (vc (tv (T.agg (Qi false x1)) Y) vn) (LendL.cons (lg okeClue) ln) (QaN (n+4) x1 (by exact Nat.le_trans (QeI hx1) (by omega))) Y Y) (fO (QU (tv (tB (decide ((1≤x1.Sense∧x1.Sense≤99)∧QJ x1.Play))) Y)) (nt ?_))))
  refine cn ((1≤x1.Sense∧x1.Sense≤99)∧QJ x1.Play) Y (fun fhc1=> ?_) fun fhc1=> ?_
  ·refine sr ?_
   refine fO (OF.assign (VEv.bool false)) (nt (rt (vinB.r (tr (tr (vinB.r (tr (vb (b':=false) Y ?_))))))))
   symm;rw [decide_eq_false_iff_not];rintro ⟨_,_,_,_,h⟩;exact fhc1 (h x1 (List.mem_of_getElem? hx1))
  refine sk (vinB.n (tn (VRun.region (mO (tN i) Y (fO (QB (tv (tN i) Y) (VEv.int .i64 1) (by omega)) (aO (tN (i+1)) Y (VRunO.nil (tn ?_))))))))
  refine ⟨(i+1:Nat),?_,?_,Wk.mk (fun k=>k) ?_ ?_ ?_⟩
  ·exact hI'.next hx1 (fun h=>h fhc1)
  ·omega
  ·exact (b2 (b2 bn))
  ·exact (b3 bn)
  ·exact nd Y
 refine VRun.exit (vthn.e (vthn.e (vinB.e (tn (sr (fO (OF.fieldAddrO (tv (T.op 0 0) Y) Jy) (lO (OL.loadOn (us:=(Qc false a.Grid)) (tv (T.op 0 0) Y) Y Q6 Q0 (lb Y) Y) (cO (OC.callF (r':=(T.os 4 1 0 (((Qa a.Grid).map (Qk true)).length))) (objs:= [(Obj.rows 4 ((Qa a.Grid).map (Qk true)))]) Y (vc (tv (T.agg (Qc false a.Grid)) Y) vn) (LendL.cons (lg Qx) ln) (ZI (n+6) a.Grid (by omega)) Y) (lO (B.lenO (m:=(Qa a.Grid).length) (tv (T.os 4 1 0 (((Qa a.Grid).map (Qk true)).length)) Y) Yj (List.length_map ..)) (aO (tN ((Qa a.Grid).length)) Y (nt ?_)))))))))))
 refine sr (fO (OF.fieldAddrO (tv (T.op 0 0) Y) Jy) (lO (OL.loadOn (us:=(Qc false a.Grid)) (tv (T.op 0 0) Y) Y Q6 Q0 (lb Y) Y) (cO (cS (vc (tv (T.agg (Qc false a.Grid)) Y) vn) (LendL.cons (lg Qx) ln) (Qg1 (n+0) a.Grid (by omega)) Y Y) (fO (Yn (tv (tI (Z9 a.Grid)) Y) (VEv.int .i64 0)) (mO (tB (decide (Z9 a.Grid=0))) Y ?_)))))
 refine VRunO.joinB 6 [28,29,30,31,32] 33 (tB (decide ((Z9 a.Grid=0)∧(a.Clues.length=(Qa a.Grid).length)))) ?_ ?_
 ·refine gw (Z9 a.Grid=0) (fun fhg27_1=> ?_) fun fhg27_1=> ?_
  ·refine Yk (rd 2 Qi a.Clues) (dy fhg27_1) Y Y Y Y Qal Y Y QgO ?_
   refine gL (dy fhg27_1) Y Y (B.lenR (m:=a.Clues.length) (tv (rd 2 Qi a.Clues) Y) U37 (List.length_map ..)) (gF (dy fhg27_1) Y Y (OF.move (tv (tN ((Qa a.Grid).length)) Y)) (gF (dy fhg27_1) Y Y (Qll (tv (tN a.Clues.length) Y) (tv (tN ((Qa a.Grid).length)) Y)) (fO (OF.pickT (VEv.tmpB Y (dy fhg27_1)) (tv (tB (decide (a.Clues.length=(Qa a.Grid).length))) Y)) (VRunO.nil ?_))))
   exact jq (congrArg T.bool (kAT fhg27_1 Y)) (js Y (js Y (js Y (js Y (js Y (jn))))))
  ·refine QD 5 4 true 27 (dz fhg27_1) Y Y Y ?_
   refine fO (OF.pickF (VEv.tmpB Y (dz fhg27_1)) (VEv.bool false)) (VRunO.nil ?_)
   exact jq (congrArg T.bool (kAF fhg27_1)) (js Y (js Y (js Y (js Y (js Y (jn))))))
 refine mO (tB (decide ((Z9 a.Grid=0)∧(a.Clues.length=(Qa a.Grid).length)))) Y ?_
 refine VRunO.joinB 6 [35,36,37,38,39] 40 (tB (decide (((Z9 a.Grid=0)∧(a.Clues.length=(Qa a.Grid).length))∧(a.Seals.length=(Qa a.Grid).length)))) ?_ ?_
 ·refine gw ((Z9 a.Grid=0)∧(a.Clues.length=(Qa a.Grid).length)) (fun fhg34_2=> ?_) fun fhg34_2=> ?_
  ·refine Yk (rd 1 Qe a.Seals) (dy fhg34_2) Y Y Y Y QbO Y Y QeD ?_
   refine gL (dy fhg34_2) Y Y (B.lenR (m:=a.Seals.length) (tv (rd 1 Qe a.Seals) Y) Yi (List.length_map ..)) (gF (dy fhg34_2) Y Y (OF.move (tv (tN ((Qa a.Grid).length)) Y)) (gF (dy fhg34_2) Y Y (Qll (tv (tN a.Seals.length) Y) (tv (tN ((Qa a.Grid).length)) Y)) (fO (OF.pickT (VEv.tmpB Y (dy fhg34_2)) (tv (tB (decide (a.Seals.length=(Qa a.Grid).length))) Y)) (VRunO.nil ?_))))
   exact jq (congrArg T.bool (kAT fhg34_2 Y)) (js Y (js Y (js Y (js Y (js Y (jn))))))
  ·refine QD 5 11 true 34 (dz fhg34_2) Y Y Y ?_
   refine fO (OF.pickF (VEv.tmpB Y (dz fhg34_2)) (VEv.bool false)) (VRunO.nil ?_)
   exact jq (congrArg T.bool (kAF fhg34_2)) (js Y (js Y (js Y (js Y (js Y (jn))))))
 refine mO (tB (decide (((Z9 a.Grid=0)∧(a.Clues.length=(Qa a.Grid).length))∧(a.Seals.length=(Qa a.Grid).length)))) Y ?_
 refine VRunO.joinB 4 [42,43,44] 45 (tB (decide ((((Z9 a.Grid=0)∧(a.Clues.length=(Qa a.Grid).length))∧(a.Seals.length=(Qa a.Grid).length))∧(1≤a.Salt∧a.Salt≤9999)))) ?_ ?_
 ·refine gw (((Z9 a.Grid=0)∧(a.Clues.length=(Qa a.Grid).length))∧(a.Seals.length=(Qa a.Grid).length)) (fun fhg41_3=> ?_) fun fhg41_3=> ?_
  ·refine Yk (tI a.Salt) (dy fhg41_3) Y Y Y Y Qc1 Y Y QS ?_
   refine VRunO.chain (VWant.on Y Y (dy fhg41_3)) (cS (vc (tv (tI a.Salt) Y) (vc (VEv.int .i64 1) (vc (VEv.int .i64 9999) vn))) (Zg Y) (Q2 (n+8) a.Salt 1 9999) Y Y) (fO (OF.pickT (VEv.tmpB Y (dy fhg41_3)) (tv (tB (decide (1≤a.Salt∧a.Salt≤9999))) Y)) (VRunO.nil ?_))
   exact jq (congrArg T.bool (kAT fhg41_3 Y)) (js Y (js Y (js Y (jn))))
  ·refine QD 3 18 true 41 (dz fhg41_3) Y Y Y ?_
   refine fO (OF.pickF (VEv.tmpB Y (dz fhg41_3)) (VEv.bool false)) (VRunO.nil ?_)
   exact jq (congrArg T.bool (kAF fhg41_3)) (js Y (js Y (js Y (jn))))
 refine aO (tB (decide ((((Z9 a.Grid=0)∧(a.Clues.length=(Qa a.Grid).length))∧(a.Seals.length=(Qa a.Grid).length))∧(1≤a.Salt∧a.Salt≤9999)))) Y (nt (rt (vb (b':=(decide ((((Z9 a.Grid=0)∧(a.Clues.length=(Qa a.Grid).length))∧(a.Seals.length=(Qa a.Grid).length))∧(1≤a.Salt∧a.Salt≤9999)))) Y ?_)))
 refine Qt ⟨fun h=>⟨h.1.1.1,h.1.1.2,h.1.2,h.2,fun c hc=>Classical.byContradiction fun e=>hI'.mem fhc0 c hc e⟩,fun h=>⟨⟨⟨h.1,h.2.1⟩,h.2.2.1⟩,h.2.2.2.1⟩⟩
theorem Qe9 (n:Nat) (a:D.Puzzle) (hz:QT a≤mx):Pure (Qo Tryz.prog (n+42)) 42 [(T.agg (QF false a))] (tB (decide (QdE a))):=by
 refine Pure.intro (rs:= [ResultVar.tmp 2]) Tryz.func42 Y Y Y (E0:= [(0,(T.agg (QF false a)))]) Y ?_
 obtain ⟨hlim,hmx,hmax⟩:=Qz
 simp only [QT,ZR] at hz
 have hl:=Q1 (z:=QO) a.Clues
 have hl2:=Q1 (z:=zI) a.Seals
 refine sr (kO (B.box (ts:=(QF false a)) (tv (T.agg (QF false a)) Y) nofun Y) (fO (OF.assign (VEv.bool false)) (nt (sq (sr (fO (OF.fieldAddrO (tv (T.op 0 0) Y) Jy) (lO (OL.loadOn (us:=(Qc false a.Grid)) (tv (T.op 0 0) Y) Y Q6 Q0 (lb Y) Y) (cO (cS (vc (tv (T.agg (Qc false a.Grid)) Y) vn) (LendL.cons (lg Qx) ln) (QgW (n+0) a.Grid (by omega)) Y Y) (fO (xne (tv (tI (Z9 a.Grid)) Y) (VEv.int .i64 0)) (nt ?_))))))))))
 refine cn (Z9 a.Grid=0) Y (fun fhc0=> ?_) fun fhc0=> ?_
 ·refine sr ?_
  refine fO (OF.assign (VEv.bool false)) (nt (rt (tr (vb (b':=false) Y ?_))))
  symm;rw [decide_eq_false_iff_not];intro h;exact fhc0 h.1
 refine sk (tn (sr (fO (OF.fieldAddrO (tv (T.op 0 0) Y) Jy) (lO (OL.loadOn (us:=(Qc false a.Grid)) (tv (T.op 0 0) Y) Y Q6 Q0 (lb Y) Y) (cO (OC.callF (r':=(T.os 4 1 0 (((Qa a.Grid).map (Qk true)).length))) (objs:= [(Obj.rows 4 ((Qa a.Grid).map (Qk true)))]) Y (vc (tv (T.agg (Qc false a.Grid)) Y) vn) (LendL.cons (lg Qx) ln) (Qat (n+38) a.Grid (by omega)) Y) (lO (B.lenO (m:=(Qa a.Grid).length) (tv (T.os 4 1 0 (((Qa a.Grid).map (Qk true)).length)) Y) Yj (List.length_map ..)) (aO (tN ((Qa a.Grid).length)) Y (nt (sr (lf (rd 2 Qi a.Clues) Y Qal Y Y QgO (lO (B.lenR (m:=a.Clues.length) (tv (rd 2 Qi a.Clues) Y) U37 (List.length_map ..)) ?_)))))))))))
 refine mO (tN ((Qa a.Grid).length)) Y (fO (Qll (tv (tN a.Clues.length) Y) (tv (tN ((Qa a.Grid).length)) Y)) (mO (tB (decide (a.Clues.length=(Qa a.Grid).length))) Y ?_))
 refine gw (a.Clues.length=(Qa a.Grid).length) (fun fhg17_1=> ?_) fun fhg17_1=> ?_
 ·refine Yk (rd 1 Qe a.Seals) (dy fhg17_1) Y Y Y Y QbO Y Y QeD ?_
  refine gL (dy fhg17_1) Y Y (B.lenR (m:=a.Seals.length) (tv (rd 1 Qe a.Seals) Y) Yi (List.length_map ..)) (gF (dy fhg17_1) Y Y (OF.move (tv (tN ((Qa a.Grid).length)) Y)) (gF (dy fhg17_1) Y Y (Qll (tv (tN a.Seals.length) Y) (tv (tN ((Qa a.Grid).length)) Y)) (fO (OF.pickT (VEv.tmpB Y (dy fhg17_1)) (tv (tB (decide (a.Seals.length=(Qa a.Grid).length))) Y)) (mO (tB (decide (a.Seals.length=(Qa a.Grid).length))) Y ?_))))
  refine gw (a.Seals.length=(Qa a.Grid).length) (fun fhg24_2=> ?_) fun fhg24_2=> ?_
  ·refine Yk (tI a.Salt) (dy fhg24_2) Y Y Y Y Qc1 Y Y QS ?_
   refine VRunO.chain (VWant.on Y Y (dy fhg24_2)) (cS (vc (tv (tI a.Salt) Y) (vc (VEv.int .i64 1) (vc (VEv.int .i64 9999) vn))) (Zg Y) (ZB (n+40) a.Salt 1 9999) Y Y) (fO (OF.pickT (VEv.tmpB Y (dy fhg24_2)) (tv (tB (decide (1≤a.Salt∧a.Salt≤9999))) Y)) (mO (tB (decide (1≤a.Salt∧a.Salt≤9999))) Y ?_))
   refine gw (1≤a.Salt∧a.Salt≤9999) (fun fhg29_3=> ?_) fun fhg29_3=> ?_
   ·refine Yk (rd 2 Qi a.Clues) (dy fhg29_3) Y Y Y Y Qal Y Y QgO ?_
    refine VRunO.chain (VWant.on Y Y (dy fhg29_3)) (cS (us:= [(rd 2 Qi a.Clues),(T.fn 75 [])]) (vc (tv (rd 2 Qi a.Clues) Y) (vc (VEv.func 75) vn)) (lp Y (LendL.cons (Lend.fn ln) ln)) (ZF (n+34) a.Clues (by omega)) Y Y) (gF (dy fhg29_3) Y Y (QU (tv (tB (decide (∃c∈a.Clues,noC c))) Y)) (fO (OF.pickT (VEv.tmpB Y (dy fhg29_3)) (tv (tB (!(decide (∃c∈a.Clues,noC c)))) Y)) (aO (tB (!(decide (∃c∈a.Clues,noC c)))) Y (nt (rt (vb (b':=(!(decide (∃c∈a.Clues,noC c)))) Y ?_))))))
    (rw [dN];refine Qt ⟨fun h=>⟨?_,?_,?_,?_,fun c hc=>Classical.byContradiction fun e=>h ⟨c,hc,e⟩⟩,fun h=> ?_⟩<;>first | assumption | (rintro ⟨c,hc,hb⟩;exact hb (h.2.2.2.2 c hc)))
   refine QD 4 17 true 29 (dz fhg29_3) Y Y Y (fO (OF.pickF (VEv.tmpB Y (dz fhg29_3)) (VEv.bool false)) (aO (tB false) Y (nt (rt (vb (b':=false) Y ?_)))))
   (symm;rw [decide_eq_false_iff_not];rintro ⟨h1,h2,h3,h4,h5⟩;contradiction)
  refine QD 3 12 true 24 (dz fhg24_2) Y Y Y (fO (OF.pickF (VEv.tmpB Y (dz fhg24_2)) (VEv.bool false)) (mO (tB false) Y (QD 4 17 true 29 (b:=false) Y Y Y Y (fO (OF.pickF (tv (tB false) Y) (VEv.bool false)) (aO (tB false) Y (nt (rt (vb (b':=false) Y ?_))))))))
  (symm;rw [decide_eq_false_iff_not];rintro ⟨h1,h2,h3,h4,h5⟩;contradiction)
 refine QD 5 5 true 17 (dz fhg17_1) Y Y Y (fO (OF.pickF (VEv.tmpB Y (dz fhg17_1)) (VEv.bool false)) (mO (tB false) Y (QD 3 12 true 24 (b:=false) Y Y Y Y (fO (OF.pickF (tv (tB false) Y) (VEv.bool false)) (mO (tB false) Y (QD 4 17 true 29 (b:=false) Y Y Y Y (fO (OF.pickF (tv (tB false) Y) (VEv.bool false)) (aO (tB false) Y (nt (rt (vb (b':=false) Y ?_)))))))))))
 (symm;rw [decide_eq_false_iff_not];rintro ⟨h1,h2,h3,h4,h5⟩;contradiction)
noncomputable section
def QW (p:D.Puzzle) (f:ByteArray):Prop:=QdE p∧QaI p.Grid f∧(ZO p.Grid f p.Seals p.Salt).length=p.Clues.length
instance (p:D.Puzzle) (f:ByteArray):Decidable (QW p f):=Classical.propDecidable _
end
theorem Qff (n:Nat) (a:D.Puzzle) (f:ByteArray) (hz:QT a≤mx) (hf:f.size≤maxLen):Pure (Qo Tryz.prog (n+11)) 83 [(T.agg (QF false a)),(tS f)] (tB (decide (QW a f))):=by
 refine Pure.intro (rs:= [ResultVar.tmp 4]) Tryz.func83 Y Y Y (E0:= [(0,(T.agg (QF false a))),(1,(tS f))]) Y ?_
 obtain ⟨hlim,hmx,hmax⟩:=Qz
 have hz2:=hz
 simp only [QT,ZR] at hz2
 have hl:=Q1 (z:=QO) a.Clues
 have hl2:=Q1 (z:=zI) a.Seals
 have hrl:=Qfz a.Grid f a.Seals a.Salt
 refine sr (kO (B.box (ts:=(QF false a)) (tv (T.agg (QF false a)) Y) nofun Y) (fO (OF.assign (VEv.bool false)) (nt (sq (VRun.draw (B:= [[],[0],[0,1],[1,0,2],[2,0,1,3],[1,0,2],[5,3,1,0,2,4],[4,3,5,6,1,0,2],[2,0,1,6,5,3,4,7],[7,4,3,5,6,1,0,2,8],[8,2,0,1,6,5,3,4,7,9],[7,4,3,5,6,1,0,2,8],[7,4,3,5,6,1,0,2,8],[8,2,0,1,6,5,3,4,7,12],[7,4,3,5,6,1,0,2,8],[8,2,0,1,6,5,3,4,7,14],[14,15,12,13,11,9,7,4,3,5,6,1,0,2,8,10],[10,8,2,0,1,6,5,3,4,7,9,11,13,12,15,14,16],[7,4,3,5,6,1,0,2,8],[8,2,0,1,6,5,3,4,7,18],[18,7,4,3,5,6,1,0,2,8,19],[19,18,20,16,14,15,12,13,11,9,7,4,3,5,6,1,0,2,8,10,17],[17,10,9,11,13,12,15,14,16,20,18,19,21,7,4,3,5,6,1,0,2,8],[8,2,0,1,6,5,3,4,7,21,19,18,20,16,14,15,12,13,11,9,10,17,22]]) (by kernel_rfl) (by kernel_rfl) (lD (OL.loadOn (us:=(QF false a)) (tv (T.op 0 0) Y) Y Qjj QfT (lb Y) Y) Y Y (VRunD.quiet (bi:= [0]) Y VWant.always Y Y Y bn (cS (vc (tv (T.agg (QF false a)) Y) vn) (LendL.cons (lg Y5) ln) (Qfj (n+0) a (by assumption)) Y Y) (mD (tB (decide (QdE a))) Y Y ?_))))))))
 refine gw (QdE a) (fun fhg7_1=> ?_) fun fhg7_1=> ?_
 ·refine VRunD.free Y (VWant.on Y Y (dy fhg7_1)) Y (OF.fieldAddrO (tv (T.op 0 0) Y) Jy) ?_
  refine VRunD.look Y (VWant.on Y Y (dy fhg7_1)) Y (OL.loadOn (us:=(Qc false a.Grid)) (tv (T.op 0 0) Y) Y Q6 Q0 (lb Y) Y) (VRunD.free Y (VWant.on Y Y (dy fhg7_1)) Y (OF.move (tv (tS f) Y)) (VRunD.quiet (bi:= [5,3,1,0,2,4]) Y (VWant.on Y Y (dy fhg7_1)) Y Y Y bn (cS (vc (tv (T.agg (Qc false a.Grid)) Y) (vc (tv (tS f) Y) vn)) (LendL.cons (lg Qx) (lp Y ln)) (QgZ (n+6) a.Grid f (by omega) (by assumption)) Y Y) (fD (OF.pickT (VEv.tmpB Y (dy fhg7_1)) (tv (tB (decide (QaI a.Grid f))) Y)) Y Y (mD (tB (decide (QaI a.Grid f))) Y Y ?_))))
  refine gw (QaI a.Grid f) (fun fhg13_2=> ?_) fun fhg13_2=> ?_
  ·refine VRunD.free Y (VWant.on Y Y (dy fhg13_2)) Y (OF.fieldAddrO (tv (T.op 0 0) Y) Jy) ?_
   refine VRunD.look Y (VWant.on Y Y (dy fhg13_2)) Y (OL.loadOn (us:=(Qc false a.Grid)) (tv (T.op 0 0) Y) Y Q6 Q0 (lb Y) Y) (VRunD.free Y (VWant.on Y Y (dy fhg13_2)) Y (OF.move (tv (tS f) Y)) (VRunD.free Y (VWant.on Y Y (dy fhg13_2)) Y (OF.fieldAddrO (tv (T.op 0 0) Y) QbO) (VRunD.look Y (VWant.on Y Y (dy fhg13_2)) Y (OL.loadO1 (t:=(rd 1 Qe a.Seals)) (tv (T.op 0 4) Y) Y Y QeD) (VRunD.free Y (VWant.on Y Y (dy fhg13_2)) Y (OF.fieldAddrO (tv (T.op 0 0) Y) Qc1) (VRunD.look Y (VWant.on Y Y (dy fhg13_2)) Y (OL.loadO1 (t:=(tI a.Salt)) (tv (T.op 0 5) Y) Y Y QS) (VRunD.quiet (bi:= [14,15,12,13,11,9,7,4,3,5,6,1,0,2,8,10]) Y (VWant.on Y Y (dy fhg13_2)) Y Y Y bn (OC.callF (r':=(T.os 1 1 0 (((ZO a.Grid f a.Seals a.Salt).map (Qe true)).length))) (objs:= [(Obj.rows 1 ((ZO a.Grid f a.Seals a.Salt).map (Qe true)))]) Y (vc (tv (T.agg (Qc false a.Grid)) Y) (vc (tv (tS f) Y) (vc (tv (rd 1 Qe a.Seals) Y) (vc (tv (tI a.Salt) Y) vn)))) (LendL.cons (lg Qx) (lp Y (lp Y (lp Y ln)))) (QdU (n+4) a.Grid f a.Seals a.Salt (by omega) (by assumption) (by omega)) Y) (VRunD.look Y (VWant.on Y Y (dy fhg13_2)) Y (B.lenO (m:=(ZO a.Grid f a.Seals a.Salt).length) (tv (T.os 1 1 0 (((ZO a.Grid f a.Seals a.Salt).map (Qe true)).length)) Y) Yi (List.length_map ..)) (VRunD.free Y (VWant.on Y Y (dy fhg13_2)) Y (OF.fieldAddrO (tv (T.op 0 0) Y) Qal) (VRunD.look Y (VWant.on Y Y (dy fhg13_2)) Y (OL.loadO1 (t:=(rd 2 Qi a.Clues)) (tv (T.op 0 3) Y) Y Y QgO) (VRunD.look Y (VWant.on Y Y (dy fhg13_2)) Y (B.lenR (m:=a.Clues.length) (tv (rd 2 Qi a.Clues) Y) U37 (List.length_map ..)) (VRunD.free Y (VWant.on Y Y (dy fhg13_2)) Y (Qll (tv (tN ((ZO a.Grid f a.Seals a.Salt).length)) Y) (tv (tN a.Clues.length) Y)) ?_)))))))))))
   refine fD (OF.pickT (VEv.tmpB Y (dy fhg13_2)) (tv (tB (decide ((ZO a.Grid f a.Seals a.Salt).length=a.Clues.length))) Y)) Y Y (fD (OF.assign (tv (tB (decide ((ZO a.Grid f a.Seals a.Salt).length=a.Clues.length))) Y)) Y Y (VRunD.nil (tn (rt (vb (b':=(decide ((ZO a.Grid f a.Seals a.Salt).length=a.Clues.length))) Y ?_)))))
   (refine Qt ⟨fun h=>⟨?_,?_,h⟩,fun h=>h.2.2⟩<;>assumption)
  refine oD Y Y (dz fhg13_2) Y (oD Y Y (dz fhg13_2) Y (oD Y Y (dz fhg13_2) Y (oD Y Y (dz fhg13_2) Y (oD Y Y (dz fhg13_2) Y (oD Y Y (dz fhg13_2) Y (oD Y Y (dz fhg13_2) Y (oD Y Y (dz fhg13_2) Y (oD Y Y (dz fhg13_2) Y (oD Y Y (dz fhg13_2) Y (oD Y Y (dz fhg13_2) Y (oD Y Y (dz fhg13_2) Y ?_)))))))))))
  refine oD Y Y (dz fhg13_2) Y (fD (OF.pickF (VEv.tmpB Y (dz fhg13_2)) (VEv.bool false)) Y Y (fD (OF.assign (tv (tB false) Y)) Y Y (VRunD.nil (tn (rt (vb (b':=false) Y ?_))))))
  (symm;rw [decide_eq_false_iff_not];rintro ⟨h1,h2,h3⟩;contradiction)
 refine oD Y Y (dz fhg7_1) Y (oD Y Y (dz fhg7_1) Y (oD Y Y (dz fhg7_1) Y (oD Y Y (dz fhg7_1) Y (fD (OF.pickF (VEv.tmpB Y (dz fhg7_1)) (VEv.bool false)) Y Y (mD (tB false) Y Y (VRunD.off Y (VWant.not (b:=false) Y Y Y) (VRunD.off Y (VWant.not (b:=false) Y Y Y) (VRunD.off Y (VWant.not (b:=false) Y Y Y) (VRunD.off Y (VWant.not (b:=false) Y Y Y) (VRunD.off Y (VWant.not (b:=false) Y Y Y) (VRunD.off Y (VWant.not (b:=false) Y Y Y) ?_)))))))))))
 refine VRunD.off Y (VWant.not (b:=false) Y Y Y) (VRunD.off Y (VWant.not (b:=false) Y Y Y) (VRunD.off Y (VWant.not (b:=false) Y Y Y) (VRunD.off Y (VWant.not (b:=false) Y Y Y) (VRunD.off Y (VWant.not (b:=false) Y Y Y) (VRunD.off Y (VWant.not (b:=false) Y Y Y) (VRunD.off Y (VWant.not (b:=false) Y Y Y) (fD (OF.pickF (tv (tB false) Y) (VEv.bool false)) Y Y (fD (OF.assign (tv (tB false) Y)) Y Y (VRunD.nil (tn (rt ?_)))))))))))
 refine vb (b':=false) Y ?_
 (symm;rw [decide_eq_false_iff_not];rintro ⟨h1,h2,h3⟩;contradiction)
theorem Qe0 (n:Nat) (a:D.Puzzle) (f:ByteArray) (hz:QT a≤mx) (hf:f.size≤maxLen):Pure (Qo Tryz.prog (n+43)) 91 [(T.agg (QF false a)),(tS f)] (tB (decide (QW a f))):=by
 refine Pure.intro (rs:= [ResultVar.tmp 4]) Tryz.func91 Y Y Y (E0:= [(0,(T.agg (QF false a))),(1,(tS f))]) Y ?_
 obtain ⟨hlim,hmx,hmax⟩:=Qz
 have hz2:=hz
 simp only [QT,ZR] at hz2
 have hl:=Q1 (z:=QO) a.Clues
 have hl2:=Q1 (z:=zI) a.Seals
 have hrl:=Qfz a.Grid f a.Seals a.Salt
 refine sr (kO (B.box (ts:=(QF false a)) (tv (T.agg (QF false a)) Y) nofun Y) (fO (OF.assign (VEv.bool false)) (nt (sq (VRun.draw (B:= [[],[0],[0,1],[1,0,2],[2,0,1,3],[1,0,2],[5,3,1,0,2,4],[4,3,5,6,1,0,2],[2,0,1,6,5,3,4,7],[7,4,3,5,6,1,0,2,8],[8,2,0,1,6,5,3,4,7,9],[7,4,3,5,6,1,0,2,8],[7,4,3,5,6,1,0,2,8],[8,2,0,1,6,5,3,4,7,12],[7,4,3,5,6,1,0,2,8],[8,2,0,1,6,5,3,4,7,14],[14,15,12,13,11,9,7,4,3,5,6,1,0,2,8,10],[10,8,2,0,1,6,5,3,4,7,9,11,13,12,15,14,16],[7,4,3,5,6,1,0,2,8],[8,2,0,1,6,5,3,4,7,18],[18,7,4,3,5,6,1,0,2,8,19],[19,18,20,16,14,15,12,13,11,9,7,4,3,5,6,1,0,2,8,10,17],[17,10,9,11,13,12,15,14,16,20,18,19,21,7,4,3,5,6,1,0,2,8],[8,2,0,1,6,5,3,4,7,21,19,18,20,16,14,15,12,13,11,9,10,17,22]]) (by kernel_rfl) (by kernel_rfl) (lD (OL.loadOn (us:=(QF false a)) (tv (T.op 0 0) Y) Y Qjj QfT (lb Y) Y) Y Y (VRunD.quiet (bi:= [0]) Y VWant.always Y Y Y bn (cS (vc (tv (T.agg (QF false a)) Y) vn) (LendL.cons (lg Y5) ln) (Qe9 (n+0) a (by assumption)) Y Y) (mD (tB (decide (QdE a))) Y Y ?_))))))))
 refine gw (QdE a) (fun fhg7_1=> ?_) fun fhg7_1=> ?_
 ·refine VRunD.free Y (VWant.on Y Y (dy fhg7_1)) Y (OF.fieldAddrO (tv (T.op 0 0) Y) Jy) ?_
  refine VRunD.look Y (VWant.on Y Y (dy fhg7_1)) Y (OL.loadOn (us:=(Qc false a.Grid)) (tv (T.op 0 0) Y) Y Q6 Q0 (lb Y) Y) (VRunD.free Y (VWant.on Y Y (dy fhg7_1)) Y (OF.move (tv (tS f) Y)) (VRunD.quiet (bi:= [5,3,1,0,2,4]) Y (VWant.on Y Y (dy fhg7_1)) Y Y Y bn (cS (vc (tv (T.agg (Qc false a.Grid)) Y) (vc (tv (tS f) Y) vn)) (LendL.cons (lg Qx) (lp Y ln)) (Qg0 (n+38) a.Grid f (by omega) (by assumption)) Y Y) (fD (OF.pickT (VEv.tmpB Y (dy fhg7_1)) (tv (tB (decide (QaI a.Grid f))) Y)) Y Y (mD (tB (decide (QaI a.Grid f))) Y Y ?_))))
  refine gw (QaI a.Grid f) (fun fhg13_2=> ?_) fun fhg13_2=> ?_
  ·refine VRunD.free Y (VWant.on Y Y (dy fhg13_2)) Y (OF.fieldAddrO (tv (T.op 0 0) Y) Jy) ?_
   refine VRunD.look Y (VWant.on Y Y (dy fhg13_2)) Y (OL.loadOn (us:=(Qc false a.Grid)) (tv (T.op 0 0) Y) Y Q6 Q0 (lb Y) Y) (VRunD.free Y (VWant.on Y Y (dy fhg13_2)) Y (OF.move (tv (tS f) Y)) (VRunD.free Y (VWant.on Y Y (dy fhg13_2)) Y (OF.fieldAddrO (tv (T.op 0 0) Y) QbO) (VRunD.look Y (VWant.on Y Y (dy fhg13_2)) Y (OL.loadO1 (t:=(rd 1 Qe a.Seals)) (tv (T.op 0 4) Y) Y Y QeD) (VRunD.free Y (VWant.on Y Y (dy fhg13_2)) Y (OF.fieldAddrO (tv (T.op 0 0) Y) Qc1) (VRunD.look Y (VWant.on Y Y (dy fhg13_2)) Y (OL.loadO1 (t:=(tI a.Salt)) (tv (T.op 0 5) Y) Y Y QS) (VRunD.quiet (bi:= [14,15,12,13,11,9,7,4,3,5,6,1,0,2,8,10]) Y (VWant.on Y Y (dy fhg13_2)) Y Y Y bn (OC.callF (r':=(T.os 1 1 0 (((ZO a.Grid f a.Seals a.Salt).map (Qe true)).length))) (objs:= [(Obj.rows 1 ((ZO a.Grid f a.Seals a.Salt).map (Qe true)))]) Y (vc (tv (T.agg (Qc false a.Grid)) Y) (vc (tv (tS f) Y) (vc (tv (rd 1 Qe a.Seals) Y) (vc (tv (tI a.Salt) Y) vn)))) (LendL.cons (lg Qx) (lp Y (lp Y (lp Y ln)))) (QdM (n+36) a.Grid f a.Seals a.Salt (by omega) (by assumption) (by omega)) Y) (VRunD.look Y (VWant.on Y Y (dy fhg13_2)) Y (B.lenO (m:=(ZO a.Grid f a.Seals a.Salt).length) (tv (T.os 1 1 0 (((ZO a.Grid f a.Seals a.Salt).map (Qe true)).length)) Y) Yi (List.length_map ..)) (VRunD.free Y (VWant.on Y Y (dy fhg13_2)) Y (OF.fieldAddrO (tv (T.op 0 0) Y) QbO) (VRunD.look Y (VWant.on Y Y (dy fhg13_2)) Y (OL.loadO1 (t:=(rd 1 Qe a.Seals)) (tv (T.op 0 4) Y) Y Y QeD) (VRunD.look Y (VWant.on Y Y (dy fhg13_2)) Y (B.lenR (m:=a.Seals.length) (tv (rd 1 Qe a.Seals) Y) Yi (List.length_map ..)) (VRunD.free Y (VWant.on Y Y (dy fhg13_2)) Y (Qll (tv (tN ((ZO a.Grid f a.Seals a.Salt).length)) Y) (tv (tN a.Seals.length) Y)) ?_)))))))))))
   refine fD (OF.pickT (VEv.tmpB Y (dy fhg13_2)) (tv (tB (decide ((ZO a.Grid f a.Seals a.Salt).length=a.Seals.length))) Y)) Y Y (fD (OF.assign (tv (tB (decide ((ZO a.Grid f a.Seals a.Salt).length=a.Seals.length))) Y)) Y Y (VRunD.nil (tn (rt (vb (b':=(decide ((ZO a.Grid f a.Seals a.Salt).length=a.Seals.length))) Y ?_)))))
   (refine Qt ⟨fun h=>⟨?_,?_,?_⟩,fun h=> ?_⟩<;>first | assumption | (have h9:=h.1;rw [h.2.2,h9.2.1,h9.2.2.1]) | (have h9:QdE a:=(by assumption);rw [h,h9.2.2.1,h9.2.1]))
  refine oD Y Y (dz fhg13_2) Y (oD Y Y (dz fhg13_2) Y (oD Y Y (dz fhg13_2) Y (oD Y Y (dz fhg13_2) Y (oD Y Y (dz fhg13_2) Y (oD Y Y (dz fhg13_2) Y (oD Y Y (dz fhg13_2) Y (oD Y Y (dz fhg13_2) Y (oD Y Y (dz fhg13_2) Y (oD Y Y (dz fhg13_2) Y (oD Y Y (dz fhg13_2) Y (oD Y Y (dz fhg13_2) Y ?_)))))))))))
  refine oD Y Y (dz fhg13_2) Y (fD (OF.pickF (VEv.tmpB Y (dz fhg13_2)) (VEv.bool false)) Y Y (fD (OF.assign (tv (tB false) Y)) Y Y (VRunD.nil (tn (rt (vb (b':=false) Y ?_))))))
  (symm;rw [decide_eq_false_iff_not];rintro ⟨h1,h2,h3⟩;contradiction)
 refine oD Y Y (dz fhg7_1) Y (oD Y Y (dz fhg7_1) Y (oD Y Y (dz fhg7_1) Y (oD Y Y (dz fhg7_1) Y (fD (OF.pickF (VEv.tmpB Y (dz fhg7_1)) (VEv.bool false)) Y Y (mD (tB false) Y Y (VRunD.off Y (VWant.not (b:=false) Y Y Y) (VRunD.off Y (VWant.not (b:=false) Y Y Y) (VRunD.off Y (VWant.not (b:=false) Y Y Y) (VRunD.off Y (VWant.not (b:=false) Y Y Y) (VRunD.off Y (VWant.not (b:=false) Y Y Y) (VRunD.off Y (VWant.not (b:=false) Y Y Y) ?_)))))))))))
 refine VRunD.off Y (VWant.not (b:=false) Y Y Y) (VRunD.off Y (VWant.not (b:=false) Y Y Y) (VRunD.off Y (VWant.not (b:=false) Y Y Y) (VRunD.off Y (VWant.not (b:=false) Y Y Y) (VRunD.off Y (VWant.not (b:=false) Y Y Y) (VRunD.off Y (VWant.not (b:=false) Y Y Y) (VRunD.off Y (VWant.not (b:=false) Y Y Y) (fD (OF.pickF (tv (tB false) Y) (VEv.bool false)) Y Y (fD (OF.assign (tv (tB false) Y)) Y Y (VRunD.nil (tn (rt ?_)))))))))))
 refine vb (b':=false) Y ?_
 (symm;rw [decide_eq_false_iff_not];rintro ⟨h1,h2,h3⟩;contradiction)
noncomputable section
def ZP (x:D.Issue):Prop:=(1≤x.Number∧x.Number≤999)∧QW x.Puzzle x.Fill∧0≤x.Open∧x.Open<x.Close∧x.Close≤1000
instance (x:D.Issue):Decidable (ZP x):=Classical.propDecidable _
theorem QeK (x:D.Issue):((((1≤x.Number∧x.Number≤999)∧QW x.Puzzle x.Fill)∧0≤x.Open)∧x.Open<x.Close)∧x.Close≤1000↔ZP x:=by
 unfold ZP
 simp only [and_assoc]
end
theorem QfV (n:Nat) (a:D.Issue) (hz:QZ a≤mx):Pure (Qo Tryz.prog (n+12)) 54 [(T.agg (QQ false a))] (tB (decide (ZP a))):=by
 refine Pure.intro (rs:= [ResultVar.tmp 2]) Tryz.func54 Y Y Y (E0:= [(0,(T.agg (QQ false a)))]) Y ?_
 obtain ⟨hlim,hmx,hmax⟩:=Qz
 simp only [QZ] at hz
 refine sr (kO (B.box (ts:=(QQ false a)) (tv (T.agg (QQ false a)) Y) nofun Y) (fO (OF.assign (VEv.bool false)) (nt (sr (lf (tI a.Number) Y Qc7 Y Y QS (cO (cS (vc (tv (tI a.Number) Y) (vc (VEv.int .i64 1) (vc (VEv.int .i64 999) vn))) (Zg Y) (Q2 (n+10) a.Number 1 999) Y Y) (mO (tB (decide (1≤a.Number∧a.Number≤999))) Y ?_)))))))
 refine VRunO.joinB 6 [7,8,9,10,11] 12 (tB (decide ((1≤a.Number∧a.Number≤999)∧(QW a.Puzzle a.Fill)))) ?_ ?_
 ·refine gw (1≤a.Number∧a.Number≤999) (fun fhg6_1=> ?_) fun fhg6_1=> ?_
  ·refine gF (dy fhg6_1) Y Y (OF.fieldAddrO (tv (T.op 0 0) Y) Qbt) ?_
   refine gL (dy fhg6_1) Y Y (OL.loadOn (us:=(QF false a.Puzzle)) (tv (T.op 0 1) Y) Y Qjj QfT (lb Y) Y) (Yk (tS a.Fill) (dy fhg6_1) Y Y Y Y QcT Y Y ZG (VRunO.chain (VWant.on Y Y (dy fhg6_1)) (cS (vc (tv (T.agg (QF false a.Puzzle)) Y) (vc (tv (tS a.Fill) Y) vn)) (LendL.cons (lg Y5) (lp Y ln)) (Qff (n+0) a.Puzzle a.Fill (by omega) (by omega)) Y Y) (fO (OF.pickT (VEv.tmpB Y (dy fhg6_1)) (tv (tB (decide (QW a.Puzzle a.Fill))) Y)) (VRunO.nil ?_))))
   exact jq (congrArg T.bool (kAT fhg6_1 Y)) (js Y (js Y (js Y (js Y (js Y (jn))))))
  ·refine QD 5 3 true 6 (dz fhg6_1) Y Y Y ?_
   refine fO (OF.pickF (VEv.tmpB Y (dz fhg6_1)) (VEv.bool false)) (VRunO.nil ?_)
   exact jq (congrArg T.bool (kAF fhg6_1)) (js Y (js Y (js Y (js Y (js Y (jn))))))
 refine mO (tB (decide ((1≤a.Number∧a.Number≤999)∧(QW a.Puzzle a.Fill)))) Y ?_
 refine VRunO.joinB 4 [14,15,16] 17 (tB (decide (((1≤a.Number∧a.Number≤999)∧(QW a.Puzzle a.Fill))∧(0≤a.Open)))) ?_ ?_
 ·refine gw ((1≤a.Number∧a.Number≤999)∧(QW a.Puzzle a.Fill)) (fun fhg13_2=> ?_) fun fhg13_2=> ?_
  ·refine Yk (tI a.Open) (dy fhg13_2) Y Y Y Y Qc8 Y Y QS ?_
   refine gF (dy fhg13_2) Y Y (xge (tv (tI a.Open) Y) (VEv.int .i64 0)) (fO (OF.pickT (VEv.tmpB Y (dy fhg13_2)) (tv (tB (decide (0≤a.Open))) Y)) (VRunO.nil ?_))
   exact jq (congrArg T.bool (kAT fhg13_2 Y)) (js Y (js Y (js Y (jn))))
  ·refine QD 3 10 true 13 (dz fhg13_2) Y Y Y ?_
   refine fO (OF.pickF (VEv.tmpB Y (dz fhg13_2)) (VEv.bool false)) (VRunO.nil ?_)
   exact jq (congrArg T.bool (kAF fhg13_2)) (js Y (js Y (js Y (jn))))
 refine mO (tB (decide (((1≤a.Number∧a.Number≤999)∧(QW a.Puzzle a.Fill))∧(0≤a.Open)))) Y ?_
 refine VRunO.joinB 6 [19,20,21,22,23] 24 (tB (decide ((((1≤a.Number∧a.Number≤999)∧(QW a.Puzzle a.Fill))∧(0≤a.Open))∧(a.Open<a.Close)))) ?_ ?_
 ·refine gw (((1≤a.Number∧a.Number≤999)∧(QW a.Puzzle a.Fill))∧(0≤a.Open)) (fun fhg18_3=> ?_) fun fhg18_3=> ?_
  ·refine Yk (tI a.Open) (dy fhg18_3) Y Y Y Y Qc8 Y Y QS ?_
   refine Yk (tI a.Close) (dy fhg18_3) Y Y Y Y QcQ Y Y QS (gF (dy fhg18_3) Y Y (xls (tv (tI a.Open) Y) (tv (tI a.Close) Y)) (fO (OF.pickT (VEv.tmpB Y (dy fhg18_3)) (tv (tB (decide (a.Open<a.Close))) Y)) (VRunO.nil ?_)))
   exact jq (congrArg T.bool (kAT fhg18_3 Y)) (js Y (js Y (js Y (js Y (js Y (jn))))))
  ·refine QD 5 15 true 18 (dz fhg18_3) Y Y Y ?_
   refine fO (OF.pickF (VEv.tmpB Y (dz fhg18_3)) (VEv.bool false)) (VRunO.nil ?_)
   exact jq (congrArg T.bool (kAF fhg18_3)) (js Y (js Y (js Y (js Y (js Y (jn))))))
 refine mO (tB (decide ((((1≤a.Number∧a.Number≤999)∧(QW a.Puzzle a.Fill))∧(0≤a.Open))∧(a.Open<a.Close)))) Y ?_
 refine VRunO.joinB 4 [26,27,28] 29 (tB (decide (((((1≤a.Number∧a.Number≤999)∧(QW a.Puzzle a.Fill))∧(0≤a.Open))∧(a.Open<a.Close))∧(a.Close≤1000)))) ?_ ?_
 ·refine gw ((((1≤a.Number∧a.Number≤999)∧(QW a.Puzzle a.Fill))∧(0≤a.Open))∧(a.Open<a.Close)) (fun fhg25_4=> ?_) fun fhg25_4=> ?_
  ·refine Yk (tI a.Close) (dy fhg25_4) Y Y Y Y QcQ Y Y QS ?_
   refine gF (dy fhg25_4) Y Y (xle (tv (tI a.Close) Y) (VEv.int .i64 1000)) (fO (OF.pickT (VEv.tmpB Y (dy fhg25_4)) (tv (tB (decide (a.Close≤1000))) Y)) (VRunO.nil ?_))
   exact jq (congrArg T.bool (kAT fhg25_4 Y)) (js Y (js Y (js Y (jn))))
  ·refine QD 3 22 true 25 (dz fhg25_4) Y Y Y ?_
   refine fO (OF.pickF (VEv.tmpB Y (dz fhg25_4)) (VEv.bool false)) (VRunO.nil ?_)
   exact jq (congrArg T.bool (kAF fhg25_4)) (js Y (js Y (js Y (jn))))
 refine aO (tB (decide (((((1≤a.Number∧a.Number≤999)∧(QW a.Puzzle a.Fill))∧(0≤a.Open))∧(a.Open<a.Close))∧(a.Close≤1000)))) Y (nt (rt (vb (b':=(decide (((((1≤a.Number∧a.Number≤999)∧(QW a.Puzzle a.Fill))∧(0≤a.Open))∧(a.Open<a.Close))∧(a.Close≤1000)))) Y ?_)))
 exact Qt (QeK a)
theorem Qgc (n:Nat) (a:D.Issue) (hz:QZ a≤mx):Pure (Qo Tryz.prog (n+44)) 59 [(T.agg (QQ false a))] (tB (decide (ZP a))):=by
 refine Pure.intro (rs:= [ResultVar.tmp 2]) Tryz.func59 Y Y Y (E0:= [(0,(T.agg (QQ false a)))]) Y ?_
 obtain ⟨hlim,hmx,hmax⟩:=Qz
 simp only [QZ] at hz
 refine sr (kO (B.box (ts:=(QQ false a)) (tv (T.agg (QQ false a)) Y) nofun Y) (fO (OF.assign (VEv.bool false)) (nt (sr (lf (tI a.Number) Y Qc7 Y Y QS (cO (cS (vc (tv (tI a.Number) Y) (vc (VEv.int .i64 1) (vc (VEv.int .i64 999) vn))) (Zg Y) (ZB (n+42) a.Number 1 999) Y Y) (mO (tB (decide (1≤a.Number∧a.Number≤999))) Y ?_)))))))
 refine VRunO.joinB 6 [7,8,9,10,11] 12 (tB (decide ((1≤a.Number∧a.Number≤999)∧(QW a.Puzzle a.Fill)))) ?_ ?_
 ·refine gw (1≤a.Number∧a.Number≤999) (fun fhg6_1=> ?_) fun fhg6_1=> ?_
  ·refine gF (dy fhg6_1) Y Y (OF.fieldAddrO (tv (T.op 0 0) Y) Qbt) ?_
   refine gL (dy fhg6_1) Y Y (OL.loadOn (us:=(QF false a.Puzzle)) (tv (T.op 0 1) Y) Y Qjj QfT (lb Y) Y) (Yk (tS a.Fill) (dy fhg6_1) Y Y Y Y QcT Y Y ZG (VRunO.chain (VWant.on Y Y (dy fhg6_1)) (cS (vc (tv (T.agg (QF false a.Puzzle)) Y) (vc (tv (tS a.Fill) Y) vn)) (LendL.cons (lg Y5) (lp Y ln)) (Qe0 (n+0) a.Puzzle a.Fill (by omega) (by omega)) Y Y) (fO (OF.pickT (VEv.tmpB Y (dy fhg6_1)) (tv (tB (decide (QW a.Puzzle a.Fill))) Y)) (VRunO.nil ?_))))
   exact jq (congrArg T.bool (kAT fhg6_1 Y)) (js Y (js Y (js Y (js Y (js Y (jn))))))
  ·refine QD 5 3 true 6 (dz fhg6_1) Y Y Y ?_
   refine fO (OF.pickF (VEv.tmpB Y (dz fhg6_1)) (VEv.bool false)) (VRunO.nil ?_)
   exact jq (congrArg T.bool (kAF fhg6_1)) (js Y (js Y (js Y (js Y (js Y (jn))))))
 refine mO (tB (decide ((1≤a.Number∧a.Number≤999)∧(QW a.Puzzle a.Fill)))) Y ?_
 refine VRunO.joinB 4 [14,15,16] 17 (tB (decide (((1≤a.Number∧a.Number≤999)∧(QW a.Puzzle a.Fill))∧(0≤a.Open)))) ?_ ?_
 ·refine gw ((1≤a.Number∧a.Number≤999)∧(QW a.Puzzle a.Fill)) (fun fhg13_2=> ?_) fun fhg13_2=> ?_
  ·refine Yk (tI a.Open) (dy fhg13_2) Y Y Y Y Qc8 Y Y QS ?_
   refine gF (dy fhg13_2) Y Y (xge (tv (tI a.Open) Y) (VEv.int .i64 0)) (fO (OF.pickT (VEv.tmpB Y (dy fhg13_2)) (tv (tB (decide (0≤a.Open))) Y)) (VRunO.nil ?_))
   exact jq (congrArg T.bool (kAT fhg13_2 Y)) (js Y (js Y (js Y (jn))))
  ·refine QD 3 10 true 13 (dz fhg13_2) Y Y Y ?_
   refine fO (OF.pickF (VEv.tmpB Y (dz fhg13_2)) (VEv.bool false)) (VRunO.nil ?_)
   exact jq (congrArg T.bool (kAF fhg13_2)) (js Y (js Y (js Y (jn))))
 refine mO (tB (decide (((1≤a.Number∧a.Number≤999)∧(QW a.Puzzle a.Fill))∧(0≤a.Open)))) Y ?_
 refine VRunO.joinB 6 [19,20,21,22,23] 24 (tB (decide ((((1≤a.Number∧a.Number≤999)∧(QW a.Puzzle a.Fill))∧(0≤a.Open))∧(a.Open<a.Close)))) ?_ ?_
 ·refine gw (((1≤a.Number∧a.Number≤999)∧(QW a.Puzzle a.Fill))∧(0≤a.Open)) (fun fhg18_3=> ?_) fun fhg18_3=> ?_
  ·refine Yk (tI a.Open) (dy fhg18_3) Y Y Y Y Qc8 Y Y QS ?_
   refine Yk (tI a.Close) (dy fhg18_3) Y Y Y Y QcQ Y Y QS (gF (dy fhg18_3) Y Y (xls (tv (tI a.Open) Y) (tv (tI a.Close) Y)) (fO (OF.pickT (VEv.tmpB Y (dy fhg18_3)) (tv (tB (decide (a.Open<a.Close))) Y)) (VRunO.nil ?_)))
   exact jq (congrArg T.bool (kAT fhg18_3 Y)) (js Y (js Y (js Y (js Y (js Y (jn))))))
  ·refine QD 5 15 true 18 (dz fhg18_3) Y Y Y ?_
   refine fO (OF.pickF (VEv.tmpB Y (dz fhg18_3)) (VEv.bool false)) (VRunO.nil ?_)
   exact jq (congrArg T.bool (kAF fhg18_3)) (js Y (js Y (js Y (js Y (js Y (jn))))))
 refine mO (tB (decide ((((1≤a.Number∧a.Number≤999)∧(QW a.Puzzle a.Fill))∧(0≤a.Open))∧(a.Open<a.Close)))) Y ?_
 refine VRunO.joinB 4 [26,27,28] 29 (tB (decide (((((1≤a.Number∧a.Number≤999)∧(QW a.Puzzle a.Fill))∧(0≤a.Open))∧(a.Open<a.Close))∧(a.Close≤1000)))) ?_ ?_
 ·refine gw ((((1≤a.Number∧a.Number≤999)∧(QW a.Puzzle a.Fill))∧(0≤a.Open))∧(a.Open<a.Close)) (fun fhg25_4=> ?_) fun fhg25_4=> ?_
  ·refine Yk (tI a.Close) (dy fhg25_4) Y Y Y Y QcQ Y Y QS ?_
   refine gF (dy fhg25_4) Y Y (xle (tv (tI a.Close) Y) (VEv.int .i64 1000)) (fO (OF.pickT (VEv.tmpB Y (dy fhg25_4)) (tv (tB (decide (a.Close≤1000))) Y)) (VRunO.nil ?_))
   exact jq (congrArg T.bool (kAT fhg25_4 Y)) (js Y (js Y (js Y (jn))))
  ·refine QD 3 22 true 25 (dz fhg25_4) Y Y Y ?_
   refine fO (OF.pickF (VEv.tmpB Y (dz fhg25_4)) (VEv.bool false)) (VRunO.nil ?_)
   exact jq (congrArg T.bool (kAF fhg25_4)) (js Y (js Y (js Y (jn))))
 refine aO (tB (decide (((((1≤a.Number∧a.Number≤999)∧(QW a.Puzzle a.Fill))∧(0≤a.Open))∧(a.Open<a.Close))∧(a.Close≤1000)))) Y (nt (rt (vb (b':=(decide (((((1≤a.Number∧a.Number≤999)∧(QW a.Puzzle a.Fill))∧(0≤a.Open))∧(a.Open<a.Close))∧(a.Close≤1000)))) Y ?_)))
 exact Qt (QeK a)
end Go.Proofs.YtjpenecpopljoaaGreat.AE
