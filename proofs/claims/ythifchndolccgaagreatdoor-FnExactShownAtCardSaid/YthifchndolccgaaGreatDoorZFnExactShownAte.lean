/- A part of what the row of FnExactShownAt uses. Conditions: as each theorem states. -/
import Derived.Test.YthifchndolccgaaGreatDoorZFnExactShownAtd
namespace Go.Proofs.YthifchndolccgaaGreatDoor.AE
open Go Go.RowKit
set_option linter.unusedVariables false
set_option linter.unusedSimpArgs false
set_option maxRecDepth 20000
set_option maxHeartbeats 2000000
noncomputable section
def on (s:List Bool) (j:Nat):Bool:=s[j]?.getD false
theorem Qkh {s:List Bool} {j:Nat} (h:on s j=true):j<s.length:=by
 rcases Nat.lt_or_ge j s.length with h1 | h1
 ·exact h1
 ·rw [on,List.getElem?_eq_none h1] at h;cases h
theorem Qdg {s:List Bool} {i j:Nat} (hi:i<s.length):on (s.set i true) j=(if j=i then true else on s j):=by
 unfold on
 rw [List.getElem?_set]
 by_cases h:i=j
 ·subst h;simp [hi]
 ·rw [if_neg h,if_neg (fun e=>h e.symm)]
theorem Qkb {s t:List Bool} (hl:s.length=t.length) (h:∀j,on s j=true↔on t j=true):s=t:=by
 refine List.ext_getElem? fun j=> ?_
 rcases Nat.lt_or_ge j s.length with h1 | h1
 ·have h2:j<t.length:=by omega
  have h3:=h j
  unfold on at h3
  rw [List.getElem?_eq_getElem h1,List.getElem?_eq_getElem h2] at h3 ⊢
  simp only [Option.getD_some] at h3
  rw [Bool.eq_iff_iff.2 h3]
 ·rw [List.getElem?_eq_none h1,List.getElem?_eq_none (by omega)]
theorem on_no {s:List Bool} {j:Nat}:on s j=false↔¬on s j=true:=by cases on s j<;>simp
def wG (g:D.Grid):Nat:=g.Cols.toNat
def adj (g:D.Grid) (i j:Nat):Prop:=(j=i+1∧i % wG g+1<wG g)∨(i=j+1∧j % wG g+1<wG g)∨j=i+wG g∨i=j+wG g
inductive Rch (g:D.Grid) (s:List Bool):Nat→Prop
 | base {j:Nat} (h:on s j=true):Rch g s j
 | step {i j:Nat} (h:Rch g s i) (ha:adj g i j) (hj:j<s.length) (hw:Qw g.Cells j=46):Rch g s j
instance (g:D.Grid) (s:List Bool) (j:Nat):Decidable (Rch g s j):=Classical.propDecidable _
def Zk (g:D.Grid) (s:List Bool):List Bool:=(List.range s.length).map fun j=>decide (Rch g s j)
theorem Rch.lt {g:D.Grid} {s:List Bool} {j:Nat} (h:Rch g s j):j<s.length:=by
 cases h with
 | base h=>exact Qkh h
 | step _ _ hj _=>exact hj
theorem Qb1 (g:D.Grid) (s:List Bool):(Zk g s).length=s.length:=by simp [Zk]
theorem on_reachL {g:D.Grid} {s:List Bool} {j:Nat}:on (Zk g s) j=true↔Rch g s j:=by
 unfold on Zk
 rw [List.getElem?_map]
 rcases Nat.lt_or_ge j s.length with h1 | h1
 ·rw [List.getElem?_eq_getElem (by simpa using h1),List.getElem_range]
  simp
 ·rw [List.getElem?_eq_none (by simpa using h1)]
  simp only [Option.map_none,Option.getD_none,Bool.false_eq_true,false_iff]
  intro h
  have:=h.lt
  omega
def QkE (g:D.Grid) (s:List Bool) (i:Nat):Prop:=∃j,adj g j i∧on s j=true
theorem QkZ {i w:Nat} (h:0<i % w) (hw:i % w<w):(i - 1) % w+1=i % w∧1≤i:=by
 have h1:i % w≤i:=Nat.mod_le _ _
 have h2:=Nat.div_add_mod i w
 refine ⟨?_,by omega⟩
 have e:i - 1=(i % w - 1)+w*(i / w):=by omega
 rw [e,Nat.add_mul_mod_self_left,Nat.mod_eq_of_lt (by omega)]
 omega
theorem QkF {i w:Nat} (h:i % w+1<w):(i+1) % w=i % w+1:=by
 have h2:=Nat.div_add_mod i w
 have e:i+1=(i % w+1)+w*(i / w):=by omega
 rw [e,Nat.add_mul_mod_self_left,Nat.mod_eq_of_lt h]
theorem Qg9 {g:D.Grid} {s:List Bool} {i:Nat} (hw:2≤g.Cols) (hl:i<s.length) :
  ((((0<i % g.Cols.toNat∧on s (i - 1)=true)∨(((i % g.Cols.toNat+1:Nat):Int)<g.Cols∧on s (i+1)=true))∨(g.Cols≤((i:Nat):Int)∧on s (i - g.Cols.toNat)=true))∨(i+g.Cols.toNat<s.length∧on s (i+g.Cols.toNat)=true))↔QkE g s i:=by
 have hm:i % g.Cols.toNat<g.Cols.toNat:=Nat.mod_lt _ (by omega)
 constructor
 ·rintro (((⟨h1,h2⟩ | ⟨h1,h2⟩) | ⟨h1,h2⟩) | ⟨h1,h2⟩)
  ·obtain ⟨h3,h4⟩:=QkZ h1 hm
   exact ⟨i - 1, .inl ⟨by omega,by unfold wG;omega⟩,h2⟩
  ·exact ⟨i+1, .inr (.inl ⟨rfl,by unfold wG;omega⟩),h2⟩
  ·exact ⟨i - g.Cols.toNat, .inr (.inr (.inl (by unfold wG;omega))),h2⟩
  ·exact ⟨i+g.Cols.toNat, .inr (.inr (.inr (by unfold wG;omega))),h2⟩
 ·rintro ⟨j,(⟨h1,h2⟩ | ⟨h1,h2⟩ | h1 | h1),h3⟩
  ·refine .inl (.inl (.inl ⟨?_,by rw [show i - 1=j by omega];exact h3⟩))
   unfold wG at h2
   rw [h1,QkF h2];omega
  ·refine .inl (.inl (.inr ⟨by unfold wG at h2;omega,by rw [← h1];exact h3⟩))
  ·unfold wG at h1
   refine .inl (.inr ⟨by omega,by rw [show i - g.Cols.toNat=j by omega];exact h3⟩)
  ·unfold wG at h1
   have:=Qkh h3
   exact .inr ⟨by omega,by rw [← h1];exact h3⟩
def RS (g:D.Grid) (s0 s:List Bool):Prop:=s.length=s0.length∧(∀j,on s0 j=true→on s j=true)∧∀j,on s j=true→Rch g s0 j
theorem RS.start (g:D.Grid) (s:List Bool):RS g s s:=⟨rfl,fun _ h=>h,fun _ h=> .base h⟩
theorem RS.put {g:D.Grid} {s0 s:List Bool} {i:Nat} (h:RS g s0 s) (hi:i<s.length) (hw:Qw g.Cells i=46) (hn:QkE g s i):RS g s0 (s.set i true):=by
 obtain ⟨h1,h2,h3⟩:=h
 refine ⟨by simpa using h1,fun j hj=> ?_,fun j hj=> ?_⟩
 ·rw [Qdg hi];split
  ·rfl
  ·exact h2 j hj
 ·rw [Qdg hi] at hj
  split at hj
  ·rename_i e
   subst e
   obtain ⟨k,hk,hk2⟩:=hn
   exact .step (h3 k hk2) hk (by omega) hw
  ·exact h3 j hj
def QhM (g:D.Grid) (s:List Bool) (i:Nat):Prop:=Qw g.Cells i=46∧on s i=false∧QkE g s i
instance (g:D.Grid) (s:List Bool) (i:Nat):Decidable (QhM g s i):=Classical.propDecidable _
def YH (g:D.Grid) (s:List Bool) (i:Nat):List Bool:=if QhM g s i then s.set i true else s
def QbN (g:D.Grid) (ag:Bool) (s:List Bool) (i:Nat):Bool:=if QhM g s i then true else ag
theorem Qkq {g:D.Grid} {s:List Bool} {ag:Bool} {i:Nat} (h:QhM g s i):s.set i true=YH g s i∧true=QbN g ag s i:=⟨(if_pos h).symm,(if_pos h).symm⟩
theorem QiO {g:D.Grid} {s:List Bool} {ag:Bool} {i:Nat} (h:¬QhM g s i):s=YH g s i∧ag=QbN g ag s i:=⟨(if_neg h).symm,(if_neg h).symm⟩
def Inv1 (g:D.Grid) (s0 s:List Bool) (i:Nat) (s1:List Bool) (ag:Bool):Prop:=i≤s0.length∧RS g s0 s1∧(ag=false→s1=s∧∀j,j<i→¬QhM g s j)∧(ag=true→s1.count false<s.count false)∧s1.count false≤s.count false
theorem Inv1.start {g:D.Grid} {s0 s:List Bool} (h:RS g s0 s):Inv1 g s0 s 0 s false:=⟨Nat.zero_le _,h,fun _=>⟨rfl,fun j hj=>by omega⟩,(fun h=>by cases h),Nat.le_refl _⟩
theorem Qdq {s:List Bool} {i:Nat} (hi:i<s.length) (h:on s i=false):(s.set i true).count false+1=s.count false:=by
 have h2:s[i]=false:=by
  unfold on at h
  rw [List.getElem?_eq_getElem hi] at h
  exact h
 have h3:0<s.count false:=List.count_pos_iff.2 (h2▸List.getElem_mem hi)
 rw [List.count_set hi]
 simp [h2]
 omega
theorem Inv1.next {g:D.Grid} {s0 s s1:List Bool} {i:Nat} {ag:Bool} (h:Inv1 g s0 s i s1 ag) (hi:i<s1.length):Inv1 g s0 s (i+1) (YH g s1 i) (QbN g ag s1 i):=by
 obtain ⟨h1,h2,h3,h4,h5⟩:=h
 have hl:=h2.1
 unfold YH QbN
 by_cases hw:QhM g s1 i
 ·rw [if_pos hw,if_pos hw]
  have hc:=Qdq hi hw.2.1
  exact ⟨by omega,h2.put hi hw.1 hw.2.2,(fun e=>by cases e),(fun _=>by omega),by omega⟩
 ·rw [if_neg hw,if_neg hw]
  refine ⟨by omega,h2,fun e=> ?_,h4,h5⟩
  obtain ⟨h6,h7⟩:=h3 e
  subst h6
  refine ⟨rfl,fun j hj=> ?_⟩
  rcases Nat.lt_or_ge j i with g1 | g1
  ·exact h7 j g1
  ·obtain rfl:j=i:=by omega
   exact hw
def Inv0 (g:D.Grid) (s0 s:List Bool) (ag:Bool):Prop:=RS g s0 s∧(ag=false→∀j,j<s0.length→¬QhM g s j)
theorem Inv1.done {g:D.Grid} {s0 s s1:List Bool} {i:Nat} {ag:Bool} (h:Inv1 g s0 s i s1 ag) (hi:¬i<s1.length):Inv0 g s0 s1 ag:=by
 obtain ⟨h1,h2,h3,h4,h5⟩:=h
 have hl:=h2.1
 refine ⟨h2,fun e j hj=> ?_⟩
 obtain ⟨h6,h7⟩:=h3 e
 rw [h6]
 exact h7 j (by omega)
theorem Inv1.dec {g:D.Grid} {s0 s s1:List Bool} {i:Nat} {ag ag0:Bool} (h:Inv1 g s0 s i s1 ag) (h0:ag0=true):s1.count false+(if ag=true then 1 else 0)<s.count false+(if ag0=true then 1 else 0):=by
 obtain ⟨h1,h2,h3,h4,h5⟩:=h
 rw [if_pos h0]
 split
 ·rename_i e
  have:=h4 e
  omega
 ·omega
theorem Inv0.done {g:D.Grid} {s0 s:List Bool} {ag:Bool} (h:Inv0 g s0 s ag) (ha:¬ag=true):s=Zk g s0:=by
 obtain ⟨⟨h1,h2,h3⟩,h4⟩:=h
 refine Qkb (by rw [Qb1,h1]) fun j=> ?_
 rw [on_reachL]
 refine ⟨h3 j,fun hj=> ?_⟩
 have h5:=h4 (by cases ag<;>simp_all)
 induction hj with
 | base h=>exact h2 _ h
 | step h ha hj hw ih =>
  rename_i i k
  cases hk:on s k with
  | true=>rfl
  | false=>exact absurd ⟨hw,hk,i,ha,ih⟩ (h5 k hj)
end
theorem Qd8 (n:Nat) (g:D.Grid) (seen:List Bool) (cell:Nat) (hg:gridOk g) (hc:cell<seen.length) (hs:seen.length=g.Cells.size):Loan (Qr Tryz.prog (n+1)) 131 1 (List.map (Qn true) seen) [(T.agg (Qb false g)),(T.os 1 0 0 ((seen.map (Qn true)).length)),(tN cell)] (T.os 1 0 0 (List.map (Qn true) (Zk g (seen.set cell true))).length) (List.map (Qn true) (Zk g (seen.set cell true))):=by
 refine Loan.intro (rs:= [ResultVar.tmp 6]) (j:=1) (pin:=(T.os 1 0 0 ((seen.map (Qn true)).length))) Tryz.func131 Y Y Y (by kernel_rfl) Y (.os _ _) (.os _ _) (ZP (fun _=>rfl) _) (ZP (fun _=>rfl) _) (E0:= [(0,(T.agg (Qb false g))),(1,(T.os 1 0 0 ((seen.map (Qn true)).length))),(2,(tN cell))]) Y ?_
 obtain ⟨hlim,hmx,hmax⟩:=QE
 have hsz:=hg.size
 have hA:=hg.1
 have hB:=hg.2.1
 refine sr (kO (B.box (ts:=(Qb false g)) (tv (T.agg (Qb false g)) Y) nofun Y) (fO (OF.assign VEv.nils) (nt (sr (mO (T.os 1 0 0 ((seen.map (Qn true)).length)) Y (mO (tN cell) Y ?_))))))
 obtain ⟨x1,hx1⟩:∃x,seen[cell]? =some x:=⟨_,List.getElem?_eq_getElem (by omega)⟩
 skip
 refine fO (B.indexAddrO (i:=cell) (tv (T.os 1 0 0 ((seen.map (Qn true)).length)) Y) (tv (tN cell) Y) Y (by (simp only [List.length_map];omega)) Jc sz4 if4) (cO (B.storeP (us:= [(tB true)]) (rows':=((seen.set cell true).map (Qn true))) (row:=(Qn true x1)) (tv (T.orp 1 0 cell 0) Y) (VEv.bool true) nofun Y (Qt _ hx1) Y (lb Y) if4 sz4 (bc Y bn) (by intro r hr t ht;obtain ⟨x,_,rfl⟩:=List.mem_map.1 hr;rw [Qgo] at ht;exact ZD (okBool.pl _ t ht)) (Zy Y)) (nt (sq (sr (fO (OF.assign (VEv.bool true)) (nt (VRun.block ?_)))))))
 refine VRun.loop (A:=Bool×(List Bool)) (fun s_=> [(1,(T.os 1 1 0 ((s_.2.map (Qn true)).length))),(3,(T.op 0 0)),(6,T.nils),(7,(tB s_.1))]) (fun s_=>Q5 [(0,(Obj.cells (Qb false g))),(1,(Obj.rows 1 (s_.2.map (Qn true))))]) 2 (fun s_=>Inv0 g (seen.set cell true) s_.2 s_.1) (fun s_=>s_.2.count false+(if s_.1=true then 1 else 0)) ((true,seen.set cell true):Bool×(List Bool)) ?_ (Wk.mk (fun k=>if k=0 then 1 else if k=1 then 0 else k) ?_ ?_ ?_) ?_
 ·exact ⟨RS.start _ _,fun h=>by cases h⟩
 ·exact (bc ⟨(congrArg (fun n_=>T.os 1 0 0 n_) (show (seen.map (Qn true)).length=((seen.set cell true).map (Qn true)).length from (by (simp;done)))),rfl⟩ (b2 (b2 (b2 bn))))
 ·exact (b3 (b3 bn))
 ·exact nd Y
 rintro ⟨ag,s⟩ (hI':Inv0 g (seen.set cell true) s ag)
 show VRun _ _ _ [(1,(T.os 1 1 0 ((s.map (Qn true)).length))),(3,(T.op 0 0)),(6,T.nils),(7,(tB ag))] (Q5 [(0,(Obj.cells (Qb false g))),(1,(Obj.rows 1 (s.map (Qn true))))]) 2 _
 have hI1:=hI'
 have hl0:s.length=g.Cells.size:=by have:=hI'.1.1;rw [List.length_set] at this;omega
 refine sq (sr (mO (tB ag) Y (nt ?_)))
 refine VRun.cond (tv (tB ag) Y) (fun hc0=> ?_) (fun hc0=> ?_)
 ·have fhc0:ag=true:=hc0
  refine sk (tn (VRun.block (sr (fO (OF.assign (VEv.bool false)) (nt (sr (fO (OF.assign (VEv.int .i64 0)) (nt (VRun.block ?_)))))))))
  refine VRun.loop (A:=Nat×(List Bool)×Bool) (fun s_=> [(1,(T.os 1 1 0 ((s_.2.1.map (Qn true)).length))),(3,(T.op 0 0)),(6,T.nils),(7,(tB s_.2.2)),(8,(tN s_.1))]) (fun s_=>Q5 [(0,(Obj.cells (Qb false g))),(1,(Obj.rows 1 (s_.2.1.map (Qn true))))]) 2 (fun s_=>Inv1 g (seen.set cell true) s s_.1 s_.2.1 s_.2.2) (fun s_=>s_.2.1.length - s_.1) ((0,s,false):Nat×(List Bool)×Bool) ?_ (Wk.mk (fun k=>k) ?_ ?_ ?_) ?_
  ·exact Inv1.start hI1.1
  ·exact (b2 (b2 (b2 (b2 (b2 bn)))))
  ·exact (b3 (b3 bn))
  ·exact nd Y
  rintro ⟨i,s1,ag1⟩ (hI':Inv1 g (seen.set cell true) s i s1 ag1)
  show VRun _ _ _ [(1,(T.os 1 1 0 ((s1.map (Qn true)).length))),(3,(T.op 0 0)),(6,T.nils),(7,(tB ag1)),(8,(tN i))] (Q5 [(0,(Obj.cells (Qb false g))),(1,(Obj.rows 1 (s1.map (Qn true))))]) 2 _
  have hJ1:=hI'.1
  have hl1:s1.length=g.Cells.size:=by have:=hI'.2.1.1;rw [List.length_set] at this;omega
  refine sq (sr (mO (tN i) Y (mO (T.os 1 1 0 ((s1.map (Qn true)).length)) Y (lO (B.lenO (m:=s1.length) (tv (T.os 1 1 0 ((s1.map (Qn true)).length)) Y) Jc (List.length_map ..)) (fO (Zg (tv (tN i) Y) (tv (tN s1.length) Y)) (nt ?_))))))
  refine cd (i<s1.length) Y (fun fhc1=> ?_) fun fhc1=> ?_
  ·refine sk ?_
   refine tn (sq (VRun.block (sq (sr (mO (T.os 1 1 0 ((s1.map (Qn true)).length)) Y (mO (tN i) Y ?_))))))
   obtain ⟨x2,hx2⟩:∃x,s1[i]? =some x:=⟨_,List.getElem?_eq_getElem (by omega)⟩
   (have e2:on s1 i=x2:=by rw [on,hx2];rfl)
   refine fO (B.indexAddrO (i:=i) (tv (T.os 1 1 0 ((s1.map (Qn true)).length)) Y) (tv (tN i) Y) Y (by (simp only [List.length_map];omega)) Jc sz4 if4) (lO (OL.loadP1 (t:=(tB x2)) (row:=(Qn true x2)) (tv (T.orp 1 1 i 0) Y) Y (Qt _ hx2) Y Y st4) (mO (tB x2) Y ?_))
   refine VRunO.joinB 6 [26,27,28,29,30] 31 (tB (decide ((x2=true)∨(¬(Qw g.Cells i=46))))) ?_ ?_
   ·refine Qcv x2 (fun hg25_1=> ?_) (fun hg25_1=> ?_)
    ·have fhg25_1:x2=true:=hg25_1
     refine QA 5 4 false 25 hg25_1 Y Y Y (fO (OF.pickT (VEv.tmpB Y hg25_1) (VEv.bool true)) (VRunO.nil ?_))
     exact jq (congrArg T.bool (jOT (dT _) hg25_1)) (js Y (js Y (js Y (js Y (js Y (jn))))))
    ·have fhg25_1:x2=false:=hg25_1
     refine Yl (tS g.Cells) hg25_1 Y Y Y Y QI Y Y Ye (gF hg25_1 Y Y (OF.move (tv (tN i) Y)) ?_)
     have hb2:i<g.Cells.size:=(by omega)
     refine gF hg25_1 Y Y (J6 (tv (tS g.Cells) Y) (tv (tN i) Y) hb2 U9) (gF hg25_1 Y Y (xne (tv (T.int .u8 (Qw g.Cells i)) Y) (VEv.int .u8 46)) (fO (OF.pickF (VEv.tmpB Y hg25_1) (tv (tB (!(decide (Qw g.Cells i=46)))) Y)) (VRunO.nil ?_)))
     exact jq (congrArg T.bool (jOF (dT _) hg25_1 dN)) (js Y (js Y (js Y (js Y (js Y (jn))))))
   refine nt ?_
   refine cd ((x2=true)∨(¬(Qw g.Cells i=46))) Y (fun fhc2=> ?_) fun fhc2=> ?_
   ·have q1:=QiO (g:=g) (s:=s1) (ag:=ag1) (i:=i) (by rintro ⟨h1,h2,h3⟩;rw [e2] at h2;rcases fhc2 with h4 | h4;rw [h2] at h4;cases h4;exact h4 h1)
    refine VRun.exit (vthn.e (vinB.e (tn (VRun.region (mO (tN i) Y (fO (QB (tv (tN i) Y) (VEv.int .i64 1) (by omega)) (aO (tN (i+1)) Y (VRunO.nil (tn ?_)))))))))
    have he3:s1=(YH g s1 i):=by exact q1.1
    refine ⟨((i+1,YH g s1 i,QbN g ag1 s1 i):Nat×(List Bool)×Bool),?_,?_,Wk.mk (fun k=>k) ?_ ?_ ?_⟩
    ·exact hI'.next fhc1
    ·show (YH g s1 i).length - (i+1)<s1.length - i
     have e1:(YH g s1 i).length=s1.length:=by unfold YH;split<;>simp
     rw [e1];omega
    ·exact (bc ⟨(congrArg (fun l_=>T.os 1 1 0 (List.map (Qn true) l_).length) he3),rfl⟩ (b2 (b2 (bc ⟨(congrArg T.bool (show ag1=(QbN g ag1 s1 i) from (by exact q1.2))),rfl⟩ (b2 bn)))))
    ·exact (b3 (bc ⟨(congrArg (fun l_=>some (Obj.rows 1 (List.map (Qn true) l_))) he3),(lb Y),rfl⟩ bn))
    ·exact nd Y
   refine sk (tn ?_)
   have hci:=Qbt hg (show i<g.Cells.size by omega)
   obtain ⟨m,hm⟩:∃m,m=i % g.Cols.toNat:=⟨_,rfl⟩
   have hq1:0<m→1≤i:=by rw [hm];exact hci.2.1
   have hm6:m<g.Cols.toNat:=by rw [hm];exact hci.1.1
   have hq4:((m+1:Nat):Int)<g.Cols→i+1<g.Cells.size:=by rw [hm];exact hci.2.2.2.1 1
   clear hci
   refine sr (mO (tN i) Y (lf (tI g.Cols) Y Zo Y Y QX (fO (B.rem (n:=((m:Nat):Int)) (tv (tN i) Y) (tv (tI g.Cols) Y) (by omega) (by (rw [hm];refine QlW ?_;omega))) (aO (tN m) Y (nt (sr (mO (tN m) Y (fO (B.gtr (c:=(decide (0<m))) (tv (tN m) Y) (VEv.int .i64 0) (by exact Zd (by omega))) (mO (tB (decide (0<m))) Y ?_)))))))))
   refine VRunO.joinB 6 [39,40,41,42,43] 44 (tB (decide ((0<m)∧((s1[i - 1]?.getD false)=true)))) ?_ ?_
   ·refine gw (0<m) (fun fhg38_4=> ?_) fun fhg38_4=> ?_
    ·refine gF (dy fhg38_4) Y Y (OF.move (tv (T.os 1 1 0 ((s1.map (Qn true)).length)) Y)) ?_
     refine gF (dy fhg38_4) Y Y (OF.move (tv (tN i) Y)) (gF (dy fhg38_4) Y Y (B.sub (n:=((i - 1:Nat):Int)) (tv (tN i) Y) (VEv.int .i64 1) (by (rw [Qq (by omega)];omega))) ?_)
     have hy5:s1[i - 1]? =some (s1[i - 1]?.getD false):=J0 false (by omega)
     refine gF (dy fhg38_4) Y Y (B.indexAddrO (i:=i - 1) (tv (T.os 1 1 0 ((s1.map (Qn true)).length)) Y) (tv (tN (i - 1)) Y) Y (by (simp only [List.length_map];omega)) Jc sz4 if4) (gL (dy fhg38_4) Y Y (OL.loadP1 (t:=(tB (s1[i - 1]?.getD false))) (row:=(Qn true (s1[i - 1]?.getD false))) (tv (T.orp 1 1 (i - 1) 0) Y) Y (Qt _ hy5) Y Y st4) (fO (OF.pickT (VEv.tmpB Y (dy fhg38_4)) (tv (tB (s1[i - 1]?.getD false)) Y)) (VRunO.nil ?_)))
     exact jq (congrArg T.bool (kAT fhg38_4 (dT _))) (js Y (js Y (js Y (js Y (js Y (jn))))))
    ·refine QA 5 2 true 38 (dz fhg38_4) Y Y Y ?_
     refine fO (OF.pickF (VEv.tmpB Y (dz fhg38_4)) (VEv.bool false)) (VRunO.nil ?_)
     exact jq (congrArg T.bool (kAF fhg38_4)) (js Y (js Y (js Y (js Y (js Y (jn))))))
   refine mO (tB (decide ((0<m)∧((s1[i - 1]?.getD false)=true)))) Y ?_
   refine VRunO.joinB 13 [46,47,48,49,50,51,52,53,54,55,56,57] 58 (tB (decide (((0<m)∧((s1[i - 1]?.getD false)=true))∨(((((m+1):Nat):Int)<g.Cols)∧((s1[(i+1)]?.getD false)=true))))) ?_ ?_
   ·refine gw ((0<m)∧((s1[i - 1]?.getD false)=true)) (fun fhg45_6=> ?_) fun fhg45_6=> ?_
    ·refine QA 6 9 false 45 (dy fhg45_6) Y Y Y ?_
     refine Qad 5 15 true 51 Y Y Y (oO Y Y (dy fhg45_6) (fO (OF.pickT (VEv.tmpB Y (dy fhg45_6)) (VEv.bool true)) (VRunO.nil ?_)))
     exact jq (congrArg T.bool (kOT fhg45_6)) (js Y (js Y (js Y (js Y (js Y (js Y (js Y (js Y (js Y (js Y (js Y (js Y (jn)))))))))))))
    ·refine gF (dz fhg45_6) Y Y (OF.move (tv (tN m) Y)) ?_
     refine gF (dz fhg45_6) Y Y (QB (tv (tN m) Y) (VEv.int .i64 1) (by omega)) (Yl (tI g.Cols) (dz fhg45_6) Y Y Y Y Zo Y Y QX (gF (dz fhg45_6) Y Y (xls (tv (tN (m+1)) Y) (tv (tI g.Cols) Y)) (gF (dz fhg45_6) Y Y (OF.move (tv (tB (decide ((((m+1):Nat):Int)<g.Cols))) Y)) ?_)))
     refine VRunO.joinB 6 [52,53,54,55,56] 57 (tB (decide (((((m+1):Nat):Int)<g.Cols)∧((s1[(i+1)]?.getD false)=true)))) ?_ ?_
     ·refine gw ((((m+1):Nat):Int)<g.Cols) (fun fhg51_7=> ?_) fun fhg51_7=> ?_
      ·refine gF (dy fhg51_7) Y Y (OF.move (tv (T.os 1 1 0 ((s1.map (Qn true)).length)) Y)) ?_
       refine gF (dy fhg51_7) Y Y (OF.move (tv (tN i) Y)) (gF (dy fhg51_7) Y Y (QB (tv (tN i) Y) (VEv.int .i64 1) (by omega)) ?_)
       have hy8:s1[(i+1)]? =some (s1[(i+1)]?.getD false):=J0 false (by omega)
       refine gF (dy fhg51_7) Y Y (B.indexAddrO (i:=(i+1)) (tv (T.os 1 1 0 ((s1.map (Qn true)).length)) Y) (tv (tN (i+1)) Y) Y (by (simp only [List.length_map];omega)) Jc sz4 if4) (gL (dy fhg51_7) Y Y (OL.loadP1 (t:=(tB (s1[(i+1)]?.getD false))) (row:=(Qn true (s1[(i+1)]?.getD false))) (tv (T.orp 1 1 (i+1) 0) Y) Y (Qt _ hy8) Y Y st4) (gF (dz fhg45_6) Y Y (OF.pickT (VEv.tmpB Y (dy fhg51_7)) (tv (tB (s1[(i+1)]?.getD false)) Y)) (VRunO.nil ?_)))
       exact jq (congrArg T.bool (kAT fhg51_7 (dT _))) (js Y (js Y (js Y (js Y (js Y (jn))))))
      ·refine QA 5 15 true 51 (dz fhg51_7) Y Y Y ?_
       refine gF (dz fhg45_6) Y Y (OF.pickF (VEv.tmpB Y (dz fhg51_7)) (VEv.bool false)) (VRunO.nil ?_)
       exact jq (congrArg T.bool (kAF fhg51_7)) (js Y (js Y (js Y (js Y (js Y (jn))))))
     refine fO (OF.pickF (VEv.tmpB Y (dz fhg45_6)) (tv (tB (decide (((((m+1):Nat):Int)<g.Cols)∧((s1[(i+1)]?.getD false)=true)))) Y)) (VRunO.nil ?_)
     exact jq (congrArg T.bool (kOF fhg45_6 Y)) (js Y (js Y (js Y (js Y (js Y (js Y (js Y (js Y (js Y (js Y (js Y (js Y (jn)))))))))))))
   refine mO (tB (decide (((0<m)∧((s1[i - 1]?.getD false)=true))∨(((((m+1):Nat):Int)<g.Cols)∧((s1[(i+1)]?.getD false)=true))))) Y ?_
   refine VRunO.joinB 14 [60,61,62,63,64,65,66,67,68,69,70,71,72] 73 (tB (decide ((((0<m)∧((s1[i - 1]?.getD false)=true))∨(((((m+1):Nat):Int)<g.Cols)∧((s1[(i+1)]?.getD false)=true)))∨((g.Cols≤((i:Nat):Int))∧((s1[i - g.Cols.toNat]?.getD false)=true))))) ?_ ?_
   ·refine gw (((0<m)∧((s1[i - 1]?.getD false)=true))∨(((((m+1):Nat):Int)<g.Cols)∧((s1[(i+1)]?.getD false)=true))) (fun fhg59_9=> ?_) fun fhg59_9=> ?_
    ·refine QA 5 23 false 59 (dy fhg59_9) Y Y Y ?_
     refine Qad 7 28 true 64 Y Y Y (oO Y Y (dy fhg59_9) (fO (OF.pickT (VEv.tmpB Y (dy fhg59_9)) (VEv.bool true)) (VRunO.nil ?_)))
     exact jq (congrArg T.bool (kOT fhg59_9)) (js Y (js Y (js Y (js Y (js Y (js Y (js Y (js Y (js Y (js Y (js Y (js Y (js Y (jn))))))))))))))
    ·refine gF (dz fhg59_9) Y Y (OF.move (tv (tN i) Y)) ?_
     refine Yl (tI g.Cols) (dz fhg59_9) Y Y Y Y Zo Y Y QX (gF (dz fhg59_9) Y Y (xge (tv (tN i) Y) (tv (tI g.Cols) Y)) (gF (dz fhg59_9) Y Y (OF.move (tv (tB (decide (g.Cols≤((i:Nat):Int)))) Y)) ?_))
     refine VRunO.joinB 8 [65,66,67,68,69,70,71] 72 (tB (decide ((g.Cols≤((i:Nat):Int))∧((s1[i - g.Cols.toNat]?.getD false)=true)))) ?_ ?_
     ·refine gw (g.Cols≤((i:Nat):Int)) (fun fhg64_10=> ?_) fun fhg64_10=> ?_
      ·refine gF (dy fhg64_10) Y Y (OF.move (tv (T.os 1 1 0 ((s1.map (Qn true)).length)) Y)) ?_
       refine gF (dy fhg64_10) Y Y (OF.move (tv (tN i) Y)) (Yl (tI g.Cols) (dy fhg64_10) Y Y Y Y Zo Y Y QX (gF (dy fhg64_10) Y Y (B.sub (n:=((i - g.Cols.toNat:Nat):Int)) (tv (tN i) Y) (tv (tI g.Cols) Y) (by (rw [Qq (by omega)];omega))) ?_))
       have hy11:s1[i - g.Cols.toNat]? =some (s1[i - g.Cols.toNat]?.getD false):=J0 false (by omega)
       refine gF (dy fhg64_10) Y Y (B.indexAddrO (i:=i - g.Cols.toNat) (tv (T.os 1 1 0 ((s1.map (Qn true)).length)) Y) (tv (tN (i - g.Cols.toNat)) Y) Y (by (simp only [List.length_map];omega)) Jc sz4 if4) (gL (dy fhg64_10) Y Y (OL.loadP1 (t:=(tB (s1[i - g.Cols.toNat]?.getD false))) (row:=(Qn true (s1[i - g.Cols.toNat]?.getD false))) (tv (T.orp 1 1 (i - g.Cols.toNat) 0) Y) Y (Qt _ hy11) Y Y st4) (gF (dz fhg59_9) Y Y (OF.pickT (VEv.tmpB Y (dy fhg64_10)) (tv (tB (s1[i - g.Cols.toNat]?.getD false)) Y)) (VRunO.nil ?_)))
       exact jq (congrArg T.bool (kAT fhg64_10 (dT _))) (js Y (js Y (js Y (js Y (js Y (js Y (js Y (jn))))))))
      ·refine QA 7 28 true 64 (dz fhg64_10) Y Y Y ?_
       refine gF (dz fhg59_9) Y Y (OF.pickF (VEv.tmpB Y (dz fhg64_10)) (VEv.bool false)) (VRunO.nil ?_)
       exact jq (congrArg T.bool (kAF fhg64_10)) (js Y (js Y (js Y (js Y (js Y (js Y (js Y (jn))))))))
     refine fO (OF.pickF (VEv.tmpB Y (dz fhg59_9)) (tv (tB (decide ((g.Cols≤((i:Nat):Int))∧((s1[i - g.Cols.toNat]?.getD false)=true)))) Y)) (VRunO.nil ?_)
     exact jq (congrArg T.bool (kOF fhg59_9 Y)) (js Y (js Y (js Y (js Y (js Y (js Y (js Y (js Y (js Y (js Y (js Y (js Y (js Y (jn))))))))))))))
   refine mO (tB (decide ((((0<m)∧((s1[i - 1]?.getD false)=true))∨(((((m+1):Nat):Int)<g.Cols)∧((s1[(i+1)]?.getD false)=true)))∨((g.Cols≤((i:Nat):Int))∧((s1[i - g.Cols.toNat]?.getD false)=true))))) Y ?_
   refine VRunO.joinB 17 [75,76,77,78,79,80,81,82,83,84,85,86,87,88,89,90] 91 (tB (decide (((((0<m)∧((s1[i - 1]?.getD false)=true))∨(((((m+1):Nat):Int)<g.Cols)∧((s1[(i+1)]?.getD false)=true)))∨((g.Cols≤((i:Nat):Int))∧((s1[i - g.Cols.toNat]?.getD false)=true)))∨((i+g.Cols.toNat<s1.length)∧((s1[i+g.Cols.toNat]?.getD false)=true))))) ?_ ?_
   ·refine gw ((((0<m)∧((s1[i - 1]?.getD false)=true))∨(((((m+1):Nat):Int)<g.Cols)∧((s1[(i+1)]?.getD false)=true)))∨((g.Cols≤((i:Nat):Int))∧((s1[i - g.Cols.toNat]?.getD false)=true))) (fun fhg74_12=> ?_) fun fhg74_12=> ?_
    ·refine QA 8 38 false 74 (dy fhg74_12) Y Y Y ?_
     refine Qad 7 46 true 82 Y Y Y (oO Y Y (dy fhg74_12) (fO (OF.pickT (VEv.tmpB Y (dy fhg74_12)) (VEv.bool true)) (VRunO.nil ?_)))
     exact jq (congrArg T.bool (kOT fhg74_12)) (js Y (js Y (js Y (js Y (js Y (js Y (js Y (js Y (js Y (js Y (js Y (js Y (js Y (js Y (js Y (js Y (jn)))))))))))))))))
    ·refine gF (dz fhg74_12) Y Y (OF.move (tv (tN i) Y)) ?_
     refine Yl (tI g.Cols) (dz fhg74_12) Y Y Y Y Zo Y Y QX (gF (dz fhg74_12) Y Y (B.add (n:=((i+g.Cols.toNat:Nat):Int)) (tv (tN i) Y) (tv (tI g.Cols) Y) (by (rw [Qq (by omega)];omega))) (gF (dz fhg74_12) Y Y (OF.move (tv (T.os 1 1 0 ((s1.map (Qn true)).length)) Y)) (gL (dz fhg74_12) Y Y (B.lenO (m:=s1.length) (tv (T.os 1 1 0 ((s1.map (Qn true)).length)) Y) Jc (List.length_map ..)) (gF (dz fhg74_12) Y Y (Zg (tv (tN (i+g.Cols.toNat)) Y) (tv (tN s1.length) Y)) (gF (dz fhg74_12) Y Y (OF.move (tv (tB (decide (i+g.Cols.toNat<s1.length))) Y)) ?_)))))
     refine VRunO.joinB 8 [83,84,85,86,87,88,89] 90 (tB (decide ((i+g.Cols.toNat<s1.length)∧((s1[i+g.Cols.toNat]?.getD false)=true)))) ?_ ?_
     ·refine gw (i+g.Cols.toNat<s1.length) (fun fhg82_13=> ?_) fun fhg82_13=> ?_
      ·refine gF (dy fhg82_13) Y Y (OF.move (tv (T.os 1 1 0 ((s1.map (Qn true)).length)) Y)) ?_
       refine gF (dy fhg82_13) Y Y (OF.move (tv (tN i) Y)) (Yl (tI g.Cols) (dy fhg82_13) Y Y Y Y Zo Y Y QX (gF (dy fhg82_13) Y Y (B.add (n:=((i+g.Cols.toNat:Nat):Int)) (tv (tN i) Y) (tv (tI g.Cols) Y) (by (rw [Qq (by omega)];omega))) ?_))
       have hy14:s1[i+g.Cols.toNat]? =some (s1[i+g.Cols.toNat]?.getD false):=J0 false (by omega)
       refine gF (dy fhg82_13) Y Y (B.indexAddrO (i:=i+g.Cols.toNat) (tv (T.os 1 1 0 ((s1.map (Qn true)).length)) Y) (tv (tN (i+g.Cols.toNat)) Y) Y (by (simp only [List.length_map];omega)) Jc sz4 if4) (gL (dy fhg82_13) Y Y (OL.loadP1 (t:=(tB (s1[i+g.Cols.toNat]?.getD false))) (row:=(Qn true (s1[i+g.Cols.toNat]?.getD false))) (tv (T.orp 1 1 (i+g.Cols.toNat) 0) Y) Y (Qt _ hy14) Y Y st4) (gF (dz fhg74_12) Y Y (OF.pickT (VEv.tmpB Y (dy fhg82_13)) (tv (tB (s1[i+g.Cols.toNat]?.getD false)) Y)) (VRunO.nil ?_)))
       exact jq (congrArg T.bool (kAT fhg82_13 (dT _))) (js Y (js Y (js Y (js Y (js Y (js Y (js Y (jn))))))))
      ·refine QA 7 46 true 82 (dz fhg82_13) Y Y Y ?_
       refine gF (dz fhg74_12) Y Y (OF.pickF (VEv.tmpB Y (dz fhg82_13)) (VEv.bool false)) (VRunO.nil ?_)
       exact jq (congrArg T.bool (kAF fhg82_13)) (js Y (js Y (js Y (js Y (js Y (js Y (js Y (jn))))))))
     refine fO (OF.pickF (VEv.tmpB Y (dz fhg74_12)) (tv (tB (decide ((i+g.Cols.toNat<s1.length)∧((s1[i+g.Cols.toNat]?.getD false)=true)))) Y)) (VRunO.nil ?_)
     exact jq (congrArg T.bool (kOF fhg74_12 Y)) (js Y (js Y (js Y (js Y (js Y (js Y (js Y (js Y (js Y (js Y (js Y (js Y (js Y (js Y (js Y (js Y (jn)))))))))))))))))
   refine aO (tB (decide (((((0<m)∧((s1[i - 1]?.getD false)=true))∨(((((m+1):Nat):Int)<g.Cols)∧((s1[(i+1)]?.getD false)=true)))∨((g.Cols≤((i:Nat):Int))∧((s1[i - g.Cols.toNat]?.getD false)=true)))∨((i+g.Cols.toNat<s1.length)∧((s1[i+g.Cols.toNat]?.getD false)=true))))) Y (nt (sr (mO (tB (decide (((((0<m)∧((s1[i - 1]?.getD false)=true))∨(((((m+1):Nat):Int)<g.Cols)∧((s1[(i+1)]?.getD false)=true)))∨((g.Cols≤((i:Nat):Int))∧((s1[i - g.Cols.toNat]?.getD false)=true)))∨((i+g.Cols.toNat<s1.length)∧((s1[i+g.Cols.toNat]?.getD false)=true))))) Y (nt ?_))))
   refine cd (((((0<m)∧((s1[i - 1]?.getD false)=true))∨(((((m+1):Nat):Int)<g.Cols)∧((s1[(i+1)]?.getD false)=true)))∨((g.Cols≤((i:Nat):Int))∧((s1[i - g.Cols.toNat]?.getD false)=true)))∨((i+g.Cols.toNat<s1.length)∧((s1[i+g.Cols.toNat]?.getD false)=true))) Y (fun fhc3=> ?_) fun fhc3=> ?_
   ·rw [hm] at fhc3
    have q1:=Qkq (g:=g) (s:=s1) (ag:=ag1) (i:=i) ⟨by omega,on_no.2 (fun h=>fhc2 (.inl (e2.symm.trans h))),(Qg9 hB.1 fhc1).1 fhc3⟩
    refine sr (mO (T.os 1 1 0 ((s1.map (Qn true)).length)) Y (mO (tN i) Y (fO (B.indexAddrO (i:=i) (tv (T.os 1 1 0 ((s1.map (Qn true)).length)) Y) (tv (tN i) Y) Y (by (simp only [List.length_map];omega)) Jc sz4 if4) (cO (B.storeP (us:= [(tB true)]) (rows':=((s1.set i true).map (Qn true))) (row:=(Qn true x2)) (tv (T.orp 1 1 i 0) Y) (VEv.bool true) nofun Y (Qt _ hx2) Y (lb Y) if4 sz4 (bc Y bn) (by intro r hr t ht;obtain ⟨x,_,rfl⟩:=List.mem_map.1 hr;rw [Qgo] at ht;exact ZD (okBool.pl _ t ht)) (Zy Y)) (nt (VRun.region (fO (OF.assign (VEv.bool true)) (VRunO.nil (vinB.n (tn (VRun.region ?_)))))))))))
    refine mO (tN i) Y (fO (QB (tv (tN i) Y) (VEv.int .i64 1) (by omega)) (aO (tN (i+1)) Y (VRunO.nil (tn ?_))))
    have he15:(s1.set i true)=(YH g s1 i):=by exact q1.1
    refine ⟨((i+1,YH g s1 i,QbN g ag1 s1 i):Nat×(List Bool)×Bool),?_,?_,Wk.mk (fun k=>k) ?_ ?_ ?_⟩
    ·exact hI'.next fhc1
    ·show (YH g s1 i).length - (i+1)<s1.length - i
     have e1:(YH g s1 i).length=s1.length:=by unfold YH;split<;>simp
     rw [e1];omega
    ·exact (bc ⟨(congrArg (fun n_=>T.os 1 1 0 n_) (show (s1.map (Qn true)).length=((YH g s1 i).map (Qn true)).length from (by (rw [← q1.1];simp;done)))),rfl⟩ (b2 (b2 (bc ⟨(congrArg T.bool (show true=(QbN g ag1 s1 i) from (by exact q1.2))),rfl⟩ (b2 bn)))))
    ·exact (b3 (bc ⟨(congrArg (fun l_=>some (Obj.rows 1 (List.map (Qn true) l_))) he15),(lb Y),rfl⟩ bn))
    ·exact nd Y
   rw [hm] at fhc3
   have q1:=QiO (g:=g) (s:=s1) (ag:=ag1) (i:=i) (by rintro ⟨h1,h2,h3⟩;exact fhc3 ((Qg9 hB.1 fhc1).2 h3))
   refine sk (vinB.n (tn (VRun.region (mO (tN i) Y (fO (QB (tv (tN i) Y) (VEv.int .i64 1) (by omega)) (aO (tN (i+1)) Y (VRunO.nil (tn ?_))))))))
   have he16:s1=(YH g s1 i):=by exact q1.1
   refine ⟨((i+1,YH g s1 i,QbN g ag1 s1 i):Nat×(List Bool)×Bool),?_,?_,Wk.mk (fun k=>k) ?_ ?_ ?_⟩
   ·exact hI'.next fhc1
   ·show (YH g s1 i).length - (i+1)<s1.length - i
    have e1:(YH g s1 i).length=s1.length:=by unfold YH;split<;>simp
    rw [e1];omega
   ·exact (bc ⟨(congrArg (fun l_=>T.os 1 1 0 (List.map (Qn true) l_).length) he16),rfl⟩ (b2 (b2 (bc ⟨(congrArg T.bool (show ag1=(QbN g ag1 s1 i) from (by exact q1.2))),rfl⟩ (b2 bn)))))
   ·exact (b3 (bc ⟨(congrArg (fun l_=>some (Obj.rows 1 (List.map (Qn true) l_))) he16),(lb Y),rfl⟩ bn))
   ·exact nd Y
  refine VRun.exit (vthn.e (vthn.e (vinB.e (vinB.n (tn ?_)))))
  refine ⟨((ag1,s1):Bool×(List Bool)),?_,?_,Wk.mk (fun k=>k) ?_ ?_ ?_⟩
  ·exact hI'.done fhc1
  ·exact hI'.dec fhc0
  ·exact (b2 (b2 (b2 (b2 bn))))
  ·exact (b3 (b3 bn))
  ·exact nd Y
 have fhc0:ag=false:=hc0
 refine VRun.exit (vthn.e (vthn.e (vinB.e (tn (sr (mO (T.os 1 1 0 ((s.map (Qn true)).length)) Y (aO (T.os 1 1 0 ((s.map (Qn true)).length)) Y (nt (rt ?_)))))))))
 have hnew:s=Zk g (seen.set cell true):=by
  exact hI'.done (by simp [fhc0])
 exact vloan.r 1 (VRes.tmp (t:=(T.os 1 1 0 ((s.map (Qn true)).length))) Y VRes.nil) (congrArg (fun l_=>T.os 1 1 0 (List.map (Qn true) l_).length) hnew) (congrArg (fun n_=>T.os 1 1 0 n_) (show (s.map (Qn true)).length=(seen.map (Qn true)).length from (by (simp only [List.length_map,Qb1,List.length_set];omega)))) Y (congrArg (List.map (Qn true)) hnew)
noncomputable section
def Qft (a b:List Bool):List Bool:=List.zipWith (fun x y=>x || y) a b
def ZY (a b:List Bool) (k:Nat):List Bool:=(Qft a b).take k++a.drop k
theorem JP {a b:List Bool} (h:b.length=a.length):(Qft a b).length=a.length:=by simp [Qft,h]
theorem Qdf {a b:List Bool} {k:Nat} (h:b.length=a.length) (hk:k≤a.length):(ZY a b k).length=a.length:=by
 unfold ZY
 rw [List.length_append,List.length_take,JP h,List.length_drop];omega
theorem Qj1 {a b:List Bool} {k:Nat} {x:Bool} (h:b.length=a.length) (hk:k<a.length) (hx:(ZY a b k)[k]? =some x):x=on a k:=by
 unfold ZY at hx
 rw [List.getElem?_append_right (by rw [List.length_take,JP h];omega),List.length_take,JP h,Nat.min_eq_left (by omega),Nat.sub_self,List.getElem?_drop,Nat.add_zero] at hx
 rw [on,hx];rfl
theorem Qh7 {a b:List Bool} (h:b.length=a.length) (j:Nat):on (Qft a b) j=(on a j || on b j):=by
 unfold on Qft
 rw [List.getElem?_zipWith]
 rcases Nat.lt_or_ge j a.length with h1 | h1
 ·rw [List.getElem?_eq_getElem h1,List.getElem?_eq_getElem (by omega)];rfl
 ·rw [List.getElem?_eq_none h1,List.getElem?_eq_none (by omega)];rfl
theorem QiB {a b:List Bool} {k:Nat} {v:Bool} (h:b.length=a.length) (hk:k<a.length) (hv:v=(on a k || on b k)):(ZY a b k).set k v=ZY a b (k+1):=by
 have hl:=JP h
 have hu:(Qft a b)[k]? =some v:=by
  have h1:=Qh7 h k
  unfold on at h1 hv
  rw [List.getElem?_eq_getElem (by omega)] at h1 ⊢
  rw [hv,← h1];rfl
 unfold ZY
 rw [List.set_append_right _ _ (by rw [List.length_take];omega),List.length_take,hl,Nat.min_eq_left (by omega),Nat.sub_self,List.drop_eq_getElem_cons hk,List.set_cons_zero,List.take_add_one,hu]
 simp
theorem Qiw {a b:List Bool} {k:Nat} (h:b.length=a.length) (hk:¬k<a.length):ZY a b k=Qft a b:=by
 unfold ZY
 rw [List.take_of_length_le (by rw [JP h];omega),List.drop_of_length_le (by omega),List.append_nil]
def fresh (g:D.Grid) (i:Nat):List Bool:=Zk g ((List.replicate g.Cells.size false).set i true)
def Qct (g:D.Grid) (s:List Bool) (i:Nat):Prop:=Qw g.Cells i=46∧on s i=false
instance (g:D.Grid) (s:List Bool) (i:Nat):Decidable (Qct g s i):=Classical.propDecidable _
def Qo (g:D.Grid):Nat→Nat×List Bool
 | 0=>(0,List.replicate g.Cells.size false)
 | i+1=>if Qct g (Qo g i).2 i then ((Qo g i).1+1,Qft (Qo g i).2 (fresh g i)) else Qo g i
theorem Qaz (g:D.Grid) (i:Nat):(fresh g i).length=g.Cells.size:=by simp [fresh,Qb1]
theorem Y4 (g:D.Grid):∀i,(Qo g i).2.length=g.Cells.size
 | 0=>by simp [Qo]
 | i+1=>by
  have h:=Y4 g i
  unfold Qo
  split
  ·simp only;rw [JP (by rw [Qaz,h])];exact h
  ·exact h
theorem QcY (g:D.Grid):∀i,(Qo g i).1≤i
 | 0=>Nat.le_refl _
 | i+1=>by
  have h:=QcY g i
  unfold Qo
  split
  ·simp only;omega
  ·omega
theorem Qdw {g:D.Grid} {i:Nat} (h:Qct g (Qo g i).2 i):(Qo g (i+1)).1=(Qo g i).1+1∧(Qo g (i+1)).2=Qft (Qo g i).2 (fresh g i):=by
 rw [Qo,if_pos h];exact ⟨rfl,rfl⟩
theorem Qbg {g:D.Grid} {i:Nat} (h:¬Qct g (Qo g i).2 i):Qo g (i+1)=Qo g i:=by
 rw [Qo,if_neg h]
def Ya (g:D.Grid):Nat:=if gridOk g then (Qo g g.Cells.size).1 else 0
theorem Qf4 {g:D.Grid} {i:Nat} (h1:i≤g.Cells.size) (h2:gridOk g∨i=0) (h3:¬(i<g.Cells.size∧gridOk g)):(Qo g i).1=Ya g:=by
 unfold Ya
 by_cases hg:gridOk g
 ·rw [if_pos hg,show i=g.Cells.size by have:¬i<g.Cells.size:=fun h=>h3 ⟨h,hg⟩;omega]
 ·rw [if_neg hg,h2.resolve_left hg];rfl
theorem orB (x y:Bool):decide (x=true∨y=true)=(x || y):=by cases x<;>cases y<;>rfl
end
theorem Qeu (n:Nat) (g:D.Grid) (hc:g.Cells.size≤mx):Pure (Qr Tryz.prog (n+3)) 98 [(T.agg (Qb false g))] (tN (Ya g)):=by
 refine Pure.intro (rs:= [ResultVar.tmp 2]) Tryz.func98 Y Y Y (E0:= [(0,(T.agg (Qb false g)))]) Y ?_
 obtain ⟨hlim,hmx,hmax⟩:=QE
 refine sr (kO (B.box (ts:=(Qb false g)) (tv (T.agg (Qb false g)) Y) nofun Y) (fO (OF.assign (VEv.int .i64 0)) (nt (sr (fO (OF.assign (VEv.int .i64 0)) (nt (sr (kO (OM.slice0 Jc zo4 (by kernel_rfl) Y (by rw [sz4];decide) sz4) (aO (T.os 1 1 0 0) Y (nt (sq ?_)))))))))))
 refine sr (fO (OF.assign (VEv.int .i64 0)) (nt (VRun.block ?_)))
 have he1: []=((List.replicate 0 false).map (Qn true)):=by rfl
 refine VRun.loop (A:=Nat) (fun s_=> [(1,(T.op 0 0)),(2,(tN 0)),(3,(tN 0)),(4,(T.os 1 1 0 (((List.replicate s_ false).map (Qn true)).length))),(5,(tN s_))]) (fun s_=>Q5 [(0,(Obj.cells (Qb false g))),(1,(Obj.rows 1 ((List.replicate s_ false).map (Qn true))))]) 2 (fun s_=>s_≤g.Cells.size) (fun s_=>g.Cells.size - s_) (0:Nat) ?_ (Wk.mk (fun k=>k) ?_ ?_ ?_) ?_
 ·(simp;done)
 ·exact (b2 (b2 (b2 (bc ⟨(congrArg (fun n_=>T.os 1 1 0 n_) (show 0=((List.replicate 0 false).map (Qn true)).length from (by rfl))),rfl⟩ (b2 bn)))))
 ·exact (b3 (bc ⟨(congrArg (fun l_=>some (Obj.rows 1 l_)) he1),(lb Y),rfl⟩ bn))
 ·exact nd Y
 rintro k (hI':k≤g.Cells.size)
 show VRun _ _ _ [(1,(T.op 0 0)),(2,(tN 0)),(3,(tN 0)),(4,(T.os 1 1 0 (((List.replicate k false).map (Qn true)).length))),(5,(tN k))] (Q5 [(0,(Obj.cells (Qb false g))),(1,(Obj.rows 1 ((List.replicate k false).map (Qn true))))]) 2 _
 have hK1:=hI'
 refine sq (sr (mO (tN k) Y (lf (tS g.Cells) Y QI Y Y Ye (lO (B.lenS (tv (tS g.Cells) Y) U9) (fO (Zg (tv (tN k) Y) (tv (tN g.Cells.size) Y)) (nt ?_))))))
 refine cd (k<g.Cells.size) Y (fun fhc0=> ?_) fun fhc0=> ?_
 ·refine sk ?_
  refine tn (sq (VRun.block (VRun.region (mO (T.os 1 1 0 (((List.replicate k false).map (Qn true)).length)) Y (kO (OM.buildSlice (l:= [(tB false)]) (VEvp.cons (VEv.bool false) VEvp.nil) Y (by decide) (bc (nofun) bn) (bc ((bc (Y) bn)) bn) (bc (Y) bn) Jc zo4 (by kernel_rfl) Y (by rw [sz4];decide) sz4 (Nat.le_of_ble_eq_true Y)) (cO (B.append (rows:=((List.replicate k false).map (Qn true))) (rows2:= [[(tB false)]]) (rows3:=((List.replicate k false++ [false]).map (Qn true))) (VDst.own (tv (T.os 1 1 0 (((List.replicate k false).map (Qn true)).length)) Y) Y Y) (VSrc.own (tv (T.os 1 2 0 1) Y) Y Y Jc (bc (bc Y bn) bn)) (by decide) Jc sz4 (by decide) zo4 Y (of_decide_eq_true (by kernel_rfl)) (by (simp only [List.length_map,List.length_append,List.length_cons,List.length_nil,List.length_replicate,List.length_set,List.length_drop,List.length_take,Zr] at *;omega)) ((List.map_append (f:=Qn true) (l₁:=List.replicate k false) (l₂:= [false])).symm)) (aO (T.os 1 3 0 (((List.replicate k false++ [false]).map (Qn true)).length)) Y (VRunO.nil (vinB.n (tn (VRun.region ?_)))))))))))
  refine mO (tN k) Y (fO (QB (tv (tN k) Y) (VEv.int .i64 1) (by omega)) (aO (tN (k+1)) Y (VRunO.nil (tn ?_))))
  have he2:(List.replicate k false++ [false])=List.replicate (k+1) false:=by rw [List.replicate_succ']
  refine ⟨(k+1:Nat),?_,?_,Wk.mk (fun k=>if k=1 then 3 else k) ?_ ?_ ?_⟩
  ·trivial
  ·omega
  ·exact (b2 (b2 (b2 (bc ⟨(congrArg (fun l_=>T.os 1 3 0 (List.map (Qn true) l_).length) he2),rfl⟩ (b2 bn)))))
  ·exact (b3 (bc ⟨(congrArg (fun l_=>some (Obj.rows 1 (List.map (Qn true) l_))) he2),(lb Y),rfl⟩ bn))
  ·exact nd Y
 refine VRun.exit (vthn.e (vthn.e (vinB.e (tn (sq (sr (fO (OF.assign (VEv.int .i64 0)) (nt (VRun.block ?_)))))))))
 have he3:List.replicate k false=(Qo g 0).2:=by (show List.replicate k false=List.replicate g.Cells.size false;rw [show k=g.Cells.size by omega])
 refine VRun.loop (A:=Nat) (fun s_=> [(1,(T.op 0 0)),(2,(tN 0)),(3,(tN ((Qo g s_).1))),(4,(T.os 1 1 0 ((((Qo g s_).2).map (Qn true)).length))),(6,(tN s_))]) (fun s_=>Q5 [(0,(Obj.cells (Qb false g))),(1,(Obj.rows 1 (((Qo g s_).2).map (Qn true))))]) 2 (fun s_=>s_≤g.Cells.size∧(gridOk g∨s_=0)) (fun s_=>g.Cells.size - s_) (0:Nat) ?_ (Wk.mk (fun k=>k) ?_ ?_ ?_) ?_
 ·exact ⟨Nat.zero_le _, .inr Y⟩
 ·exact (b2 (b2 (bc ⟨(congrArg (T.int .i64) (show 0=(((Qo g 0).1:Nat):Int) from (by rfl))),rfl⟩ (bc ⟨(congrArg (fun l_=>T.os 1 1 0 (List.map (Qn true) l_).length) he3),rfl⟩ (b2 bn)))))
 ·exact (b3 (bc ⟨(congrArg (fun l_=>some (Obj.rows 1 (List.map (Qn true) l_))) he3),(lb Y),rfl⟩ bn))
 ·exact nd Y
 rintro i (hI':i≤g.Cells.size∧(gridOk g∨i=0))
 show VRun _ _ _ [(1,(T.op 0 0)),(2,(tN 0)),(3,(tN ((Qo g i).1))),(4,(T.os 1 1 0 ((((Qo g i).2).map (Qn true)).length))),(6,(tN i))] (Q5 [(0,(Obj.cells (Qb false g))),(1,(Obj.rows 1 (((Qo g i).2).map (Qn true))))]) 2 _
 have hI1:=hI'.1
 have hpl:=Y4 g i
 have hpn:=QcY g i
 refine sq (sr (mO (tN i) Y (lf (tS g.Cells) Y QI Y Y Ye (lO (B.lenS (tv (tS g.Cells) Y) U9) (fO (Zg (tv (tN i) Y) (tv (tN g.Cells.size) Y)) (mO (tB (decide (i<g.Cells.size))) Y ?_))))))
 refine VRunO.joinB 3 [27,28] 29 (tB (decide ((i<g.Cells.size)∧(gridOk g)))) ?_ ?_
 ·refine gw (i<g.Cells.size) (fun fhg26_4=> ?_) fun fhg26_4=> ?_
  ·refine gL (dy fhg26_4) Y Y (OL.loadOn (us:=(Qb false g)) (tv (T.op 0 0) Y) Y Q3 QY (lb Y) Y) ?_
   refine VRunO.chain (VWant.on Y Y (dy fhg26_4)) (cS (vc (tv (T.agg (Qb false g)) Y) vn) (LendL.cons (lg Qs) ln) (Z5 (n+0) g (by omega)) Y Y) (fO (OF.pickT (VEv.tmpB Y (dy fhg26_4)) (tv (tB (decide (gridOk g))) Y)) (VRunO.nil ?_))
   exact jq (congrArg T.bool (kAT fhg26_4 Y)) (js Y (js Y (jn)))
  ·refine QA 2 5 true 26 (dz fhg26_4) Y Y Y ?_
   refine fO (OF.pickF (VEv.tmpB Y (dz fhg26_4)) (VEv.bool false)) (VRunO.nil ?_)
   exact jq (congrArg T.bool (kAF fhg26_4)) (js Y (js Y (jn)))
 refine nt ?_
 refine cd ((i<g.Cells.size)∧(gridOk g)) Y (fun fhc1=> ?_) fun fhc1=> ?_
 ·refine sk ?_
  refine tn (sq (VRun.block (sr (lf (tS g.Cells) Y QI Y Y Ye (mO (tN i) Y ?_)))))
  have hb5:i<g.Cells.size:=(by omega)
  refine fO (J6 (tv (tS g.Cells) Y) (tv (tN i) Y) hb5 U9) (fO (YD (tv (T.int .u8 (Qw g.Cells i)) Y) (VEv.int .u8 46)) (mO (tB (decide (Qw g.Cells i=46))) Y ?_))
  refine VRunO.joinB 6 [38,39,40,41,42] 43 (tB (decide ((Qw g.Cells i=46)∧((!(((Qo g i).2)[i]?.getD false))=true)))) ?_ ?_
  ·refine gw (Qw g.Cells i=46) (fun fhg37_6=> ?_) fun fhg37_6=> ?_
   ·refine gF (dy fhg37_6) Y Y (OF.move (tv (T.os 1 1 0 ((((Qo g i).2).map (Qn true)).length)) Y)) ?_
    refine gF (dy fhg37_6) Y Y (OF.move (tv (tN i) Y)) ?_
    have hy7:((Qo g i).2)[i]? =some (((Qo g i).2)[i]?.getD false):=J0 false (by omega)
    refine gF (dy fhg37_6) Y Y (B.indexAddrO (i:=i) (tv (T.os 1 1 0 ((((Qo g i).2).map (Qn true)).length)) Y) (tv (tN i) Y) Y (by (simp only [List.length_map];omega)) Jc sz4 if4) (gL (dy fhg37_6) Y Y (OL.loadP1 (t:=(tB (((Qo g i).2)[i]?.getD false))) (row:=(Qn true (((Qo g i).2)[i]?.getD false))) (tv (T.orp 1 1 i 0) Y) Y (Qt _ hy7) Y Y st4) (gF (dy fhg37_6) Y Y (Q8 (tv (tB (((Qo g i).2)[i]?.getD false)) Y)) (fO (OF.pickT (VEv.tmpB Y (dy fhg37_6)) (tv (tB (!(((Qo g i).2)[i]?.getD false))) Y)) (VRunO.nil ?_))))
    exact jq (congrArg T.bool (kAT fhg37_6 (dT _))) (js Y (js Y (js Y (js Y (js Y (jn))))))
   ·refine QA 5 5 true 37 (dz fhg37_6) Y Y Y ?_
    refine fO (OF.pickF (VEv.tmpB Y (dz fhg37_6)) (VEv.bool false)) (VRunO.nil ?_)
    exact jq (congrArg T.bool (kAF fhg37_6)) (js Y (js Y (js Y (js Y (js Y (jn))))))
  refine nt ?_
  refine cd ((Qw g.Cells i=46)∧((!(((Qo g i).2)[i]?.getD false))=true)) Y (fun fhc2=> ?_) fun fhc2=> ?_
  ·have q0:Qct g (Qo g i).2 i:=⟨fhc2.1,by simpa [on] using fhc2.2⟩
   have q1:=Qdw q0
   have hgs:=fhc1.2.size
   refine sr (mO (tN ((Qo g i).1)) Y (fO (QB (tv (tN ((Qo g i).1)) Y) (VEv.int .i64 1) (by omega)) (aO (tN ((Qo g i).1+1)) Y (nt (sr (kO (OM.slice0 Jc zo4 (by kernel_rfl) Y (by rw [sz4];decide) sz4) (aO (T.os 1 2 0 0) Y (nt (sq (sr (fO (OF.assign (VEv.int .i64 0)) ?_)))))))))))
   refine nt (VRun.block ?_)
   have he8: []=((List.replicate 0 false).map (Qn true)):=by rfl
   refine VRun.loop (A:=Nat) (fun s_=> [(1,(T.op 0 0)),(2,(tN 0)),(3,(tN ((Qo g i).1+1))),(4,(T.os 1 1 0 ((((Qo g i).2).map (Qn true)).length))),(6,(tN i)),(7,(T.os 1 2 0 (((List.replicate s_ false).map (Qn true)).length))),(8,(tN s_))]) (fun s_=>Q5 [(0,(Obj.cells (Qb false g))),(1,(Obj.rows 1 (((Qo g i).2).map (Qn true)))),(2,(Obj.rows 1 ((List.replicate s_ false).map (Qn true))))]) 3 (fun s_=>s_≤(Qo g i).2.length) (fun s_=>(Qo g i).2.length - s_) (0:Nat) ?_ (Wk.mk (fun k=>k) ?_ ?_ ?_) ?_
   ·(simp;done)
   ·exact (b2 (b2 (b2 (b2 (b2 (bc ⟨(congrArg (fun n_=>T.os 1 2 0 n_) (show 0=((List.replicate 0 false).map (Qn true)).length from (by rfl))),rfl⟩ (b2 bn)))))))
   ·exact (b3 (b3 (bc ⟨(congrArg (fun l_=>some (Obj.rows 1 l_)) he8),(lb Y),rfl⟩ bn)))
   ·exact nd Y
   rintro k1 (hI':k1≤(Qo g i).2.length)
   show VRun _ _ _ [(1,(T.op 0 0)),(2,(tN 0)),(3,(tN ((Qo g i).1+1))),(4,(T.os 1 1 0 ((((Qo g i).2).map (Qn true)).length))),(6,(tN i)),(7,(T.os 1 2 0 (((List.replicate k1 false).map (Qn true)).length))),(8,(tN k1))] (Q5 [(0,(Obj.cells (Qb false g))),(1,(Obj.rows 1 (((Qo g i).2).map (Qn true)))),(2,(Obj.rows 1 ((List.replicate k1 false).map (Qn true))))]) 3 _
   have hK1:=hI'
   refine sq (sr (mO (tN k1) Y (mO (T.os 1 1 0 ((((Qo g i).2).map (Qn true)).length)) Y (lO (B.lenO (m:=((Qo g i).2).length) (tv (T.os 1 1 0 ((((Qo g i).2).map (Qn true)).length)) Y) Jc (List.length_map ..)) (fO (Zg (tv (tN k1) Y) (tv (tN (((Qo g i).2).length)) Y)) (nt ?_))))))
   refine cd (k1<((Qo g i).2).length) Y (fun fhc3=> ?_) fun fhc3=> ?_
   ·refine sk ?_
    refine tn (sq (VRun.block (VRun.region (mO (T.os 1 2 0 (((List.replicate k1 false).map (Qn true)).length)) Y (kO (OM.buildSlice (l:= [(tB false)]) (VEvp.cons (VEv.bool false) VEvp.nil) Y (by decide) (bc (nofun) bn) (bc ((bc (Y) bn)) bn) (bc (Y) bn) Jc zo4 (by kernel_rfl) Y (by rw [sz4];decide) sz4 (Nat.le_of_ble_eq_true Y)) (cO (B.append (rows:=((List.replicate k1 false).map (Qn true))) (rows2:= [[(tB false)]]) (rows3:=((List.replicate k1 false++ [false]).map (Qn true))) (VDst.own (tv (T.os 1 2 0 (((List.replicate k1 false).map (Qn true)).length)) Y) Y Y) (VSrc.own (tv (T.os 1 3 0 1) Y) Y Y Jc (bc (bc Y bn) bn)) (by decide) Jc sz4 (by decide) zo4 Y (of_decide_eq_true (by kernel_rfl)) (by (simp only [List.length_map,List.length_append,List.length_cons,List.length_nil,List.length_replicate,List.length_set,List.length_drop,List.length_take,Zr] at *;omega)) ((List.map_append (f:=Qn true) (l₁:=List.replicate k1 false) (l₂:= [false])).symm)) (aO (T.os 1 4 0 (((List.replicate k1 false++ [false]).map (Qn true)).length)) Y (VRunO.nil (vinB.n (tn (VRun.region ?_)))))))))))
    refine mO (tN k1) Y (fO (QB (tv (tN k1) Y) (VEv.int .i64 1) (by omega)) (aO (tN (k1+1)) Y (VRunO.nil (tn ?_))))
    have he9:(List.replicate k1 false++ [false])=List.replicate (k1+1) false:=by rw [List.replicate_succ']
    refine ⟨(k1+1:Nat),?_,?_,Wk.mk (fun k=>if k=2 then 4 else k) ?_ ?_ ?_⟩
    ·trivial
    ·omega
    ·exact (b2 (b2 (b2 (b2 (b2 (bc ⟨(congrArg (fun l_=>T.os 1 4 0 (List.map (Qn true) l_).length) he9),rfl⟩ (b2 bn)))))))
    ·exact (b3 (b3 (bc ⟨(congrArg (fun l_=>some (Obj.rows 1 (List.map (Qn true) l_))) he9),(lb Y),rfl⟩ bn)))
    ·exact nd Y
   have hk6:k1=g.Cells.size:=by omega
   have hq4:(fresh g i).length=(Qo g i).2.length:=by rw [Qaz,hpl]
   have hfr:Zk g ((List.replicate k1 false).set i true)=fresh g i:=by rw [fresh,hk6]
   have hrl:(Zk g ((List.replicate k1 false).set i true)).length=g.Cells.size:=by rw [hfr,Qaz]
   refine VRun.exit (vthn.e (vthn.e (vinB.e (tn (sr (lO (OL.loadOn (us:=(Qb false g)) (tv (T.op 0 0) Y) Y Q3 QY (lb Y) Y) (mO (T.os 1 2 0 (((List.replicate k1 false).map (Qn true)).length)) Y (mO (tN i) Y (cO (OC.callLoan (ts:= [(T.agg (Qb false g)),(T.os 1 0 0 (((List.replicate k1 false).map (Qn true)).length)),(tN i)]) (k:=2) (r:=(T.os 1 0 0 (((Zk g ((List.replicate k1 false).set i true)).map (Qn true)).length))) (rows:=((List.replicate k1 false).map (Qn true))) (rows':=((Zk g ((List.replicate k1 false).set i true)).map (Qn true))) Y (vc (tv (T.agg (Qb false g)) Y) (vc (tv (T.os 1 2 0 (((List.replicate k1 false).map (Qn true)).length)) Y) (vc (tv (tN i) Y) vn))) Y Y Y (LRes.os _ _) Y (ZP (fun _=>rfl) _) (ZP (fun _=>rfl) _) (Qd8 (n+1) g (List.replicate k1 false) i (by exact fhc1.2) (by (simp only [List.length_replicate];omega)) (by (simp only [List.length_replicate];omega)))) (aO (T.os 1 2 0 (((Zk g ((List.replicate k1 false).set i true)).map (Qn true)).length)) Y (nt ?_)))))))))))
   refine sr (fO (OF.assign (VEv.int .i64 0)) (nt (VRun.block ?_)))
   have he10:(Qo g i).2=ZY (Qo g i).2 (fresh g i) 0:=by rfl
   refine VRun.loop (A:=Nat) (fun s_=> [(1,(T.op 0 0)),(2,(tN 0)),(3,(tN ((Qo g i).1+1))),(4,(T.os 1 2 0 (((ZY (Qo g i).2 (fresh g i) s_).map (Qn true)).length))),(6,(tN i)),(7,(T.os 1 1 0 (((Zk g ((List.replicate k1 false).set i true)).map (Qn true)).length))),(9,(tN s_))]) (fun s_=>Q5 [(0,(Obj.cells (Qb false g))),(1,(Obj.rows 1 ((Zk g ((List.replicate k1 false).set i true)).map (Qn true)))),(2,(Obj.rows 1 ((ZY (Qo g i).2 (fresh g i) s_).map (Qn true))))]) 3 (fun s_=>s_≤(Qo g i).2.length) (fun s_=>(Qo g i).2.length - s_) (0:Nat) ?_ (Wk.mk (fun k=>if k=1 then 2 else if k=2 then 1 else k) ?_ ?_ ?_) ?_
   ·(simp;done)
   ·exact (b2 (b2 (b2 (bc ⟨(congrArg (fun l_=>T.os 1 1 0 (List.map (Qn true) l_).length) he10),rfl⟩ (b2 (b2 (b2 bn)))))))
   ·exact (b3 (b3 (bc ⟨(congrArg (fun l_=>some (Obj.rows 1 (List.map (Qn true) l_))) he10),(lb Y),rfl⟩ bn)))
   ·exact nd Y
   rintro j (hI':j≤(Qo g i).2.length)
   show VRun _ _ _ [(1,(T.op 0 0)),(2,(tN 0)),(3,(tN ((Qo g i).1+1))),(4,(T.os 1 2 0 (((ZY (Qo g i).2 (fresh g i) j).map (Qn true)).length))),(6,(tN i)),(7,(T.os 1 1 0 (((Zk g ((List.replicate k1 false).set i true)).map (Qn true)).length))),(9,(tN j))] (Q5 [(0,(Obj.cells (Qb false g))),(1,(Obj.rows 1 ((Zk g ((List.replicate k1 false).set i true)).map (Qn true)))),(2,(Obj.rows 1 ((ZY (Qo g i).2 (fresh g i) j).map (Qn true))))]) 3 _
   have hJ1:=hI'
   have hzl:=Qdf hq4 hJ1
   refine sq (sr (mO (tN j) Y (mO (T.os 1 2 0 (((ZY (Qo g i).2 (fresh g i) j).map (Qn true)).length)) Y (lO (B.lenO (m:=(ZY (Qo g i).2 (fresh g i) j).length) (tv (T.os 1 2 0 (((ZY (Qo g i).2 (fresh g i) j).map (Qn true)).length)) Y) Jc (List.length_map ..)) (fO (Zg (tv (tN j) Y) (tv (tN ((ZY (Qo g i).2 (fresh g i) j).length)) Y)) (nt ?_))))))
   refine cd (j<(ZY (Qo g i).2 (fresh g i) j).length) Y (fun fhc4=> ?_) fun fhc4=> ?_
   ·refine sk ?_
    refine tn (sq (VRun.block (VRun.region (mO (T.os 1 2 0 (((ZY (Qo g i).2 (fresh g i) j).map (Qn true)).length)) Y (mO (tN j) Y (mO (T.os 1 2 0 (((ZY (Qo g i).2 (fresh g i) j).map (Qn true)).length)) Y (mO (tN j) Y ?_)))))))
    obtain ⟨x1,hx1⟩:∃x,(ZY (Qo g i).2 (fresh g i) j)[j]? =some x:=⟨_,List.getElem?_eq_getElem (by omega)⟩
    have e3:x1=on (Qo g i).2 j:=Qj1 hq4 (by omega) hx1
    refine fO (B.indexAddrO (i:=j) (tv (T.os 1 2 0 (((ZY (Qo g i).2 (fresh g i) j).map (Qn true)).length)) Y) (tv (tN j) Y) Y (by (simp only [List.length_map];omega)) Jc sz4 if4) (lO (OL.loadP1 (t:=(tB x1)) (row:=(Qn true x1)) (tv (T.orp 1 2 j 0) Y) Y (Qt _ hx1) Y Y st4) (mO (tB x1) Y ?_))
    refine VRunO.joinB 5 [73,74,75,76] 77 (tB (decide ((x1=true)∨(((Zk g ((List.replicate k1 false).set i true))[j]?.getD false)=true)))) ?_ ?_
    ·refine Qcv x1 (fun hg72_11=> ?_) (fun hg72_11=> ?_)
     ·have fhg72_11:x1=true:=hg72_11
      refine QA 4 6 false 72 hg72_11 Y Y Y (fO (OF.pickT (VEv.tmpB Y hg72_11) (VEv.bool true)) (VRunO.nil ?_))
      exact jq (congrArg T.bool (jOT (dT _) hg72_11)) (js Y (js Y (js Y (js Y (jn)))))
     ·have fhg72_11:x1=false:=hg72_11
      refine gF hg72_11 Y Y (OF.move (tv (T.os 1 1 0 (((Zk g ((List.replicate k1 false).set i true)).map (Qn true)).length)) Y)) (gF hg72_11 Y Y (OF.move (tv (tN j) Y)) ?_)
      have hy12:(Zk g ((List.replicate k1 false).set i true))[j]? =some ((Zk g ((List.replicate k1 false).set i true))[j]?.getD false):=J0 false (by omega)
      refine gF hg72_11 Y Y (B.indexAddrO (i:=j) (tv (T.os 1 1 0 (((Zk g ((List.replicate k1 false).set i true)).map (Qn true)).length)) Y) (tv (tN j) Y) Y (by (simp only [List.length_map];omega)) Jc sz4 if4) (gL hg72_11 Y Y (OL.loadP1 (t:=(tB ((Zk g ((List.replicate k1 false).set i true))[j]?.getD false))) (row:=(Qn true ((Zk g ((List.replicate k1 false).set i true))[j]?.getD false))) (tv (T.orp 1 1 j 0) Y) Y (Qt _ hy12) Y Y st4) (fO (OF.pickF (VEv.tmpB Y hg72_11) (tv (tB ((Zk g ((List.replicate k1 false).set i true))[j]?.getD false)) Y)) (VRunO.nil ?_)))
      exact jq (congrArg T.bool (jOF (dT _) hg72_11 (dT _))) (js Y (js Y (js Y (js Y (jn)))))
    refine fO (B.indexAddrO (i:=j) (tv (T.os 1 2 0 (((ZY (Qo g i).2 (fresh g i) j).map (Qn true)).length)) Y) (tv (tN j) Y) Y (by (simp only [List.length_map];omega)) Jc sz4 if4) (cO (B.storeP (us:= [(tB (decide ((x1=true)∨(((Zk g ((List.replicate k1 false).set i true))[j]?.getD false)=true))))]) (rows':=(((ZY (Qo g i).2 (fresh g i) j).set j (decide ((x1=true)∨(((Zk g ((List.replicate k1 false).set i true))[j]?.getD false)=true)))).map (Qn true))) (row:=(Qn true x1)) (tv (T.orp 1 2 j 0) Y) (tv (tB (decide ((x1=true)∨(((Zk g ((List.replicate k1 false).set i true))[j]?.getD false)=true)))) Y) nofun Y (Qt _ hx1) Y (lb Y) if4 sz4 (bc Y bn) (by intro r hr t ht;obtain ⟨x,_,rfl⟩:=List.mem_map.1 hr;rw [Qgo] at ht;exact ZD (okBool.pl _ t ht)) (Zy Y)) (VRunO.nil (vinB.n (tn (VRun.region (mO (tN j) Y (fO (QB (tv (tN j) Y) (VEv.int .i64 1) (by omega)) (aO (tN (j+1)) Y (VRunO.nil (tn ?_))))))))))
    have he13:((ZY (Qo g i).2 (fresh g i) j).set j (decide ((x1=true)∨(((Zk g ((List.replicate k1 false).set i true))[j]?.getD false)=true))))=ZY (Qo g i).2 (fresh g i) (j+1):=by (refine QiB hq4 (by omega) ?_;rw [e3,hfr];exact orB _ _)
    refine ⟨(j+1:Nat),?_,?_,Wk.mk (fun k=>k) ?_ ?_ ?_⟩
    ·omega
    ·omega
    ·exact (b2 (b2 (b2 (bc ⟨(congrArg (fun n_=>T.os 1 2 0 n_) (show ((ZY (Qo g i).2 (fresh g i) j).map (Qn true)).length=((ZY (Qo g i).2 (fresh g i) (j+1)).map (Qn true)).length from (by (simp only [List.length_map,List.length_set];rw [Qdf hq4 hJ1,Qdf hq4 (by omega)])))),rfl⟩ (b2 (b2 (b2 bn)))))))
    ·exact (b3 (b3 (bc ⟨(congrArg (fun l_=>some (Obj.rows 1 (List.map (Qn true) l_))) he13),(lb Y),rfl⟩ bn)))
    ·exact nd Y
   have hq5:¬j<(Qo g i).2.length:=by omega
   refine VRun.exit (vthn.e (vthn.e (vinB.e (vinB.n (tn (VRun.region (mO (tN i) Y (fO (QB (tv (tN i) Y) (VEv.int .i64 1) (by omega)) (aO (tN (i+1)) Y (VRunO.nil (tn ?_)))))))))))
   have he14:ZY (Qo g i).2 (fresh g i) j=(Qo g (i+1)).2:=by (rw [q1.2];exact Qiw hq4 hq5)
   refine ⟨(i+1:Nat),?_,?_,Wk.mk (fun k=>if k=1 then 2 else k) ?_ ?_ ?_⟩
   ·exact ⟨by omega, .inl fhc1.2⟩
   ·omega
   ·exact (b2 (b2 (bc ⟨(congrArg (T.int .i64) (show ((((Qo g i).1+1):Nat):Int)=(((Qo g (i+1)).1:Nat):Int) from (by omega))),rfl⟩ (bc ⟨(congrArg (fun l_=>T.os 1 2 0 (List.map (Qn true) l_).length) he14),rfl⟩ (b2 bn)))))
   ·exact (b3 (bc ⟨(congrArg (fun l_=>some (Obj.rows 1 (List.map (Qn true) l_))) he14),(lb Y),rfl⟩ bn))
   ·exact nd Y
  have q0:¬Qct g (Qo g i).2 i:=fun h=>fhc2 ⟨h.1,by have:=h.2;unfold on at this;rw [this];rfl⟩
  refine sk (vinB.n (tn (VRun.region (mO (tN i) Y (fO (QB (tv (tN i) Y) (VEv.int .i64 1) (by omega)) (aO (tN (i+1)) Y (VRunO.nil (tn ?_))))))))
  have he15:(Qo g i).2=(Qo g (i+1)).2:=by (rw [Qbg q0];done)
  refine ⟨(i+1:Nat),?_,?_,Wk.mk (fun k=>k) ?_ ?_ ?_⟩
  ·exact ⟨by omega, .inl fhc1.2⟩
  ·omega
  ·exact (b2 (b2 (bc ⟨(congrArg (T.int .i64) (show (((Qo g i).1:Nat):Int)=(((Qo g (i+1)).1:Nat):Int) from (by (rw [Qbg q0];done)))),rfl⟩ (bc ⟨(congrArg (fun l_=>T.os 1 1 0 (List.map (Qn true) l_).length) he15),rfl⟩ (b2 bn)))))
  ·exact (b3 (bc ⟨(congrArg (fun l_=>some (Obj.rows 1 (List.map (Qn true) l_))) he15),(lb Y),rfl⟩ bn))
  ·exact nd Y
 refine VRun.exit (vthn.e (vthn.e (vinB.e (tn (sr (mO (tN ((Qo g i).1)) Y (aO (tN ((Qo g i).1)) Y (nt (rt (vi (n':=(((Qo g i).1:Nat):Int)) Y ?_))))))))))
 exact congrArg (fun x:Nat=>(x:Int)) (Qf4 hI1 hI'.2 fhc1)
noncomputable section
def inG (g:D.Grid) (r c:Int):Prop:=(0≤r∧r<g.Rows)∧(0≤c∧c<g.Cols)
def ZX (g:D.Grid) (r c:Int):Nat:=Int.toNat (r*g.Cols+c)
def QlN (g:D.Grid) (m:List Bool) (r c:Int):Prop:=inG g r c∧Qw g.Cells (ZX g r c)=46∧on m (ZX g r c)=false
instance (g:D.Grid) (m:List Bool) (r c:Int):Decidable (QlN g m r c):=Classical.propDecidable _
def YX : Nat→D.Grid→List Bool→Int→Int→List Bool
 | 0,_,m,_,_=>m
 | d+1,g,m,r,c=>if QlN g m r c then YX d g (YX d g (YX d g (YX d g (m.set (ZX g r c) true) (r - 1) c) (r+1) c) r (c - 1)) r (c+1) else m
theorem QcC {g:D.Grid} {r c:Int} (hg:gridOk g) (h1:0≤r∧r<g.Rows) (h2:0≤c∧c<g.Cols):(0≤r*g.Cols∧r*g.Cols≤36)∧0≤r*g.Cols+c∧r*g.Cols+c<((g.Cells.size:Nat):Int):=by
 have hs:=hg.2.2.1
 have hz:=hg.size
 have e1:0≤r*g.Cols:=Int.mul_nonneg h1.1 (by omega)
 have e2:(r+1)*g.Cols≤g.Rows*g.Cols:=Int.mul_le_mul_of_nonneg_right (by omega) (by omega)
 rw [Int.add_mul,Int.one_mul] at e2
 omega
theorem YF {g:D.Grid} (hg:gridOk g) (a b:Nat):ZX g ((a:Nat):Int) ((b:Nat):Int)=a*wG g+b:=by
 obtain ⟨w,hw⟩:=Int.eq_ofNat_of_zero_le (show 0≤g.Cols by have:=hg.2.1;omega)
 unfold ZX wG
 rw [hw]
 show Int.toNat (((a:Nat):Int)*((w:Nat):Int)+((b:Nat):Int))=a*w+b
 rw [← Int.natCast_mul,← Int.natCast_add,Int.toNat_natCast]
theorem QkN {g:D.Grid} (hg:gridOk g):g.Cells.size=g.Rows.toNat*wG g:=by
 obtain ⟨⟨a1,a2⟩,⟨b1,b2⟩,hs,_⟩:=hg
 obtain ⟨w,hw⟩:=Int.eq_ofNat_of_zero_le (show 0≤g.Cols by omega)
 obtain ⟨r,hr⟩:=Int.eq_ofNat_of_zero_le (show 0≤g.Rows by omega)
 unfold wG
 rw [hw,hr] at hs ⊢
 exact_mod_cast hs
theorem Qg0 {g:D.Grid} {r c:Int} (hg:gridOk g) (h:inG g r c):∃a b:Nat,r=a∧c=b∧a<g.Rows.toNat∧b<wG g:=by
 obtain ⟨⟨h1,h2⟩,h3,h4⟩:=h
 exact ⟨r.toNat,c.toNat,by omega,by omega,by omega,by unfold wG;omega⟩
theorem Qmj {g:D.Grid} {r c r' c':Int} (hg:gridOk g) (h:inG g r c) (h':inG g r' c') (hn:(r'=r∧(c'=c+1∨c'=c - 1))∨(c'=c∧(r'=r+1∨r'=r - 1))):adj g (ZX g r c) (ZX g r' c'):=by
 obtain ⟨a,b,rfl,rfl,ha,hb⟩:=Qg0 hg h
 obtain ⟨a',b',rfl,rfl,ha',hb'⟩:=Qg0 hg h'
 rw [YF hg,YF hg]
 have hm:(a*wG g+b) % wG g=b:=by rw [Nat.mul_comm,Nat.mul_add_mod,Nat.mod_eq_of_lt hb]
 have hm':(a'*wG g+b') % wG g=b':=by rw [Nat.mul_comm,Nat.mul_add_mod,Nat.mod_eq_of_lt hb']
 rcases hn with ⟨h1,h2 | h2⟩ | ⟨h1,h2 | h2⟩
 ·obtain rfl:a'=a:=by omega
  exact .inl ⟨by omega,by rw [hm];omega⟩
 ·obtain rfl:a'=a:=by omega
  exact .inr (.inl ⟨by omega,by rw [hm'];omega⟩)
 ·obtain rfl:b'=b:=by omega
  obtain rfl:a'=a+1:=by omega
  exact .inr (.inr (.inl (by rw [Nat.add_mul,Nat.one_mul];omega)))
 ·obtain rfl:b'=b:=by omega
  obtain rfl:a=a'+1:=by omega
  exact .inr (.inr (.inr (by rw [Nat.add_mul,Nat.one_mul];omega)))
theorem Qjz {g:D.Grid} {r c:Int} {y:Nat} (hg:gridOk g) (h:inG g r c) (hy:y<g.Cells.size) (ha:adj g (ZX g r c) y) :
  (inG g (r - 1) c∧y=ZX g (r - 1) c)∨(inG g (r+1) c∧y=ZX g (r+1) c)∨(inG g r (c - 1)∧y=ZX g r (c - 1))∨(inG g r (c+1)∧y=ZX g r (c+1)):=by
 have hsz:=QkN hg
 obtain ⟨⟨h1,h2⟩,h3,h4⟩:=h
 obtain ⟨a,b,rfl,rfl,ha',hb⟩:=Qg0 hg ⟨⟨h1,h2⟩,h3,h4⟩
 rw [YF hg] at ha
 have hm:(a*wG g+b) % wG g=b:=by rw [Nat.mul_comm,Nat.mul_add_mod,Nat.mod_eq_of_lt hb]
 have hw:((wG g:Nat):Int)=g.Cols:=by have:=hg.2.1;unfold wG;omega
 rcases ha with ⟨e1,e2⟩ | ⟨e1,e2⟩ | e1 | e1
 ·rw [hm] at e2
  refine .inr (.inr (.inr ⟨⟨⟨h1,h2⟩,by omega,by omega⟩,?_⟩))
  rw [show ((b:Nat):Int)+1=((b+1:Nat):Int) by omega,YF hg];omega
 ·have hb1:1≤b:=by
   rcases Nat.eq_zero_or_pos b with h0 | h0
   ·subst h0
    exfalso
    have ha0:0<a:=by
     rcases Nat.eq_zero_or_pos a with g0 | g0
     ·subst g0;omega
     ·exact g0
    obtain ⟨a1,rfl⟩:∃a1,a=a1+1:=⟨a - 1,by omega⟩
    have e3:y=a1*wG g+(wG g - 1):=by rw [Nat.add_mul,Nat.one_mul] at e1;omega
    rw [e3,Nat.mul_comm,Nat.mul_add_mod,Nat.mod_eq_of_lt (by omega)] at e2
    omega
   ·exact h0
  refine .inr (.inr (.inl ⟨⟨⟨h1,h2⟩,by omega,by omega⟩,?_⟩))
  rw [show ((b:Nat):Int) - 1=((b - 1:Nat):Int) by omega,YF hg];omega
 ·have ha1:a+1<g.Rows.toNat:=by
   rcases Nat.lt_or_ge (a+1) g.Rows.toNat with g0 | g0
   ·exact g0
   ·have e4:g.Rows.toNat=a+1:=by omega
    rw [e4,Nat.add_mul,Nat.one_mul] at hsz
    omega
  refine .inr (.inl ⟨⟨⟨by omega,by omega⟩,h3,h4⟩,?_⟩)
  rw [show ((a:Nat):Int)+1=((a+1:Nat):Int) by omega,YF hg,Nat.add_mul,Nat.one_mul];omega
 ·have ha0:0<a:=by
   rcases Nat.eq_zero_or_pos a with g0 | g0
   ·subst g0;omega
   ·exact g0
  obtain ⟨a1,rfl⟩:∃a1,a=a1+1:=⟨a - 1,by omega⟩
  refine .inl ⟨⟨⟨by omega,by omega⟩,h3,h4⟩,?_⟩
  rw [show ((a1+1:Nat):Int) - 1=((a1:Nat):Int) by omega,YF hg]
  rw [Nat.add_mul,Nat.one_mul] at e1;omega
theorem Qa1 {g:D.Grid} {r c:Int} (hg:gridOk g) (h:inG g r c):ZX g r c<g.Cells.size:=by
 have:=QcC hg h.1 h.2
 unfold ZX
 omega
theorem ZW (g:D.Grid):∀d m r c,(YX d g m r c).length=m.length
 | 0,m,r,c=>rfl
 | d+1,m,r,c=>by
  rw [YX]
  split
  ·rw [ZW g d,ZW g d,ZW g d,ZW g d,List.length_set]
  ·rfl
theorem Yc {g:D.Grid} {j:Nat}:∀d m r c,on m j=true→on (YX d g m r c) j=true
 | 0,m,r,c,h=>h
 | d+1,m,r,c,h=>by
  rw [YX]
  split
  ·refine Yc d _ _ _ (Yc d _ _ _ (Yc d _ _ _ (Yc d _ _ _ ?_)))
   have hlt:=Qkh h
   unfold on at h ⊢
   rw [List.getElem?_set]
   split
   ·rename_i e
    subst e
    rw [if_pos hlt];rfl
   ·exact h
  ·exact h
theorem QgY {s:List Bool} {i:Nat}:(s.set i true).count false≤s.count false:=by
 rcases Nat.lt_or_ge i s.length with h | h
 ·rw [List.count_set h];simp
 ·rw [List.set_eq_of_length_le h];exact Nat.le_refl _
theorem Jf (g:D.Grid):∀d m r c,(YX d g m r c).count false≤m.count false
 | 0,m,r,c=>Nat.le_refl _
 | d+1,m,r,c=>by
  rw [YX]
  split
  ·exact Nat.le_trans (Jf g d _ _ _) (Nat.le_trans (Jf g d _ _ _) (Nat.le_trans (Jf g d _ _ _) (Nat.le_trans (Jf g d _ _ _) QgY)))
  ·exact Nat.le_refl _
theorem QaA {g:D.Grid} (hg:gridOk g) {P:Nat→Prop} (hP:∀i j,P i→adj g i j→j<g.Cells.size→Qw g.Cells j=46→P j):∀d m r c,m.length=g.Cells.size→(inG g r c→Qw g.Cells (ZX g r c)=46→P (ZX g r c))→∀j,on (YX d g m r c) j=true→on m j=true∨P j
 | 0,m,r,c,_,_,j,hj=> .inl hj
 | d+1,m,r,c,hl,h,j,hj=>by
  rw [YX] at hj
  split at hj
  ·rename_i hgo
   obtain ⟨g1,g2,g3⟩:=hgo
   have hv:=h g1 g2
   have nb:∀r' c',((r'=r∧(c'=c+1∨c'=c - 1))∨(c'=c∧(r'=r+1∨r'=r - 1)))→inG g r' c'→Qw g.Cells (ZX g r' c')=46→P (ZX g r' c'):=fun r' c' hn hi hw=>hP _ _ hv (Qmj hg g1 hi hn) (Qa1 hg hi) hw
   have l1:(m.set (ZX g r c) true).length=g.Cells.size:=by rw [List.length_set,hl]
   rcases QaA hg hP d _ _ _ (by rw [ZW,ZW,ZW,l1]) (nb r (c+1) (.inl ⟨rfl, .inl Y⟩)) j hj with hj | hj
   ·rcases QaA hg hP d _ _ _ (by rw [ZW,ZW,l1]) (nb r (c - 1) (.inl ⟨rfl, .inr Y⟩)) j hj with hj | hj
    ·rcases QaA hg hP d _ _ _ (by rw [ZW,l1]) (nb (r+1) c (.inr ⟨rfl, .inl Y⟩)) j hj with hj | hj
     ·rcases QaA hg hP d _ _ _ l1 (nb (r - 1) c (.inr ⟨rfl, .inr Y⟩)) j hj with hj | hj
      ·rw [Qdg (by rw [hl];exact Qa1 hg g1)] at hj
       split at hj
       ·rename_i e
        rw [e];exact .inr hv
       ·exact .inl hj
      ·exact .inr hj
     ·exact .inr hj
    ·exact .inr hj
   ·exact .inr hj
  ·exact .inl hj
theorem Qer {g:D.Grid} (hg:gridOk g) {d:Nat} {m:List Bool} {r c:Int} (hl:m.length=g.Cells.size) (hc:m.count false<d) (hi:inG g r c) (hw:Qw g.Cells (ZX g r c)=46):on (YX d g m r c) (ZX g r c)=true:=by
 cases d with
 | zero=>omega
 | succ d =>
  rw [YX]
  split
  ·refine Yc d _ _ _ (Yc d _ _ _ (Yc d _ _ _ (Yc d _ _ _ ?_)))
   rw [Qdg (by rw [hl];exact Qa1 hg hi),if_pos Y]
  ·rename_i hn
   cases ho:on m (ZX g r c) with
   | true=>rfl
   | false=>exact absurd ⟨hi,hw,ho⟩ hn
theorem QeG {g:D.Grid} (hg:gridOk g):∀d m r c,m.length=g.Cells.size→m.count false<d→∀x y,on (YX d g m r c) x=true→¬on m x=true→adj g x y→y<g.Cells.size→Qw g.Cells y=46→on (YX d g m r c) y=true
 | 0,m,r,c,_,hc,x,y,_,_,_,_,_=>by omega
 | d+1,m,r,c,hl,hc,x,y,hx,hnx,ha,hy,hw=>by
  rw [YX] at hx ⊢
  by_cases hgo:QlN g m r c
  ·rw [if_pos hgo] at hx ⊢
   obtain ⟨g1,g2,g3⟩:=hgo
   have hcl:=Qa1 hg g1
   have l1:(m.set (ZX g r c) true).length=g.Cells.size:=by rw [List.length_set,hl]
   have c1:(m.set (ZX g r c) true).count false<d:=by
    have:=Qdq (by rw [hl];exact hcl) g3
    omega
   generalize hm1:m.set (ZX g r c) true=m1 at *
   have c2:=Jf g d m1 (r - 1) c
   have l2:=ZW g d m1 (r - 1) c
   generalize hm2:YX d g m1 (r - 1) c=m2 at *
   have c3:=Jf g d m2 (r+1) c
   have l3:=ZW g d m2 (r+1) c
   generalize hm3:YX d g m2 (r+1) c=m3 at *
   have c4:=Jf g d m3 r (c - 1)
   have l4:=ZW g d m3 r (c - 1)
   generalize hm4:YX d g m3 r (c - 1)=m4 at *
   have up4:∀j,on m4 j=true→on (YX d g m4 r (c+1)) j=true:=fun j h=>Yc d _ _ _ h
   have up3:∀j,on m3 j=true→on m4 j=true:=fun j h=>hm4▸Yc d _ _ _ h
   have up2:∀j,on m2 j=true→on m3 j=true:=fun j h=>hm3▸Yc d _ _ _ h
   by_cases h4:on m4 x=true
   ·by_cases h3:on m3 x=true
    ·by_cases h2:on m2 x=true
     ·by_cases h1:on m1 x=true
      ·have hxv:x=ZX g r c:=by
        rw [← hm1,Qdg (by rw [hl];exact hcl)] at h1
        split at h1
        ·assumption
        ·exact absurd h1 hnx
       subst hxv
       rcases Qjz hg g1 hy ha with ⟨k1,rfl⟩ | ⟨k1,rfl⟩ | ⟨k1,rfl⟩ | ⟨k1,rfl⟩
       ·exact up4 _ (up3 _ (up2 _ (hm2▸Qer hg l1 c1 k1 hw)))
       ·exact up4 _ (up3 _ (hm3▸Qer hg (by omega) (by omega) k1 hw))
       ·exact up4 _ (hm4▸Qer hg (by omega) (by omega) k1 hw)
       ·exact Qer hg (by omega) (by omega) k1 hw
      ·exact up4 _ (up3 _ (up2 _ (hm2▸QeG hg d m1 (r - 1) c l1 c1 x y (hm2▸h2) h1 ha hy hw)))
     ·exact up4 _ (up3 _ (hm3▸QeG hg d m2 (r+1) c (by omega) (by omega) x y (hm3▸h3) h2 ha hy hw))
    ·exact up4 _ (hm4▸QeG hg d m3 r (c - 1) (by omega) (by omega) x y (hm4▸h4) h3 ha hy hw)
   ·exact QeG hg d m4 r (c+1) (by omega) (by omega) x y hx h4 ha hy hw
  ·rw [if_neg hgo] at hx
   exact absurd hx hnx
def Qjb (g:D.Grid) (s:List Bool):Prop:=∀x y,on s x=true→adj g x y→y<g.Cells.size→Qw g.Cells y=46→on s y=true
theorem Qli (n j:Nat):on (List.replicate n false) j=false:=by
 unfold on
 rw [List.getElem?_replicate]
 split<;>rfl
theorem Qg6 {g:D.Grid} {i j:Nat} (hi:i<g.Cells.size):on ((List.replicate g.Cells.size false).set i true) j=true↔j=i:=by
 rw [Qdg (by simpa using hi),Qli]
 split<;>simp [*]
theorem QbM {g:D.Grid}:∀i,i≤g.Cells.size→Qjb g (Qo g i).2
 | 0,_=>fun x y hx=>by rw [Qo,Qli] at hx;cases hx
 | i+1,hi=>by
  have ih:=QbM (g:=g) i (by omega)
  by_cases hn:Qct g (Qo g i).2 i
  ·rw [(Qdw hn).2]
   intro x y hx ha hy hw
   have hl:(fresh g i).length=(Qo g i).2.length:=by rw [Qaz,Y4]
   rw [Qh7 hl,Bool.or_eq_true] at hx ⊢
   rcases hx with hx | hx
   ·exact .inl (ih x y hx ha hy hw)
   ·exact .inr (on_reachL.2 (.step (on_reachL.1 hx) ha (by simpa using hy) hw))
  ·rw [Qbg hn];exact ih
theorem Qlp {g:D.Grid} (hg:gridOk g) {d i:Nat} {m:List Bool} (hl:m.length=g.Cells.size) (hi:i<g.Cells.size) (hc:m.count false<d) (hcl:Qjb g m) (hw:Qw g.Cells i=46) :
  YX d g m ((i / wG g:Nat):Int) ((i % wG g:Nat):Int)=Qft m (fresh g i):=by
 have hlf:(fresh g i).length=m.length:=by rw [Qaz,hl]
 have hci:ZX g ((i / wG g:Nat):Int) ((i % wG g:Nat):Int)=i:=by
  rw [YF hg,Nat.mul_comm];exact Nat.div_add_mod i _
 obtain ⟨⟨q1,q2⟩,_⟩:=Qbt hg hi
 have hin:inG g ((i / wG g:Nat):Int) ((i % wG g:Nat):Int):=by
  have hA:=hg.1
  have hB:=hg.2.1
  unfold wG
  generalize i / g.Cols.toNat=q at *
  generalize i % g.Cols.toNat=m' at *
  exact ⟨⟨by omega,by omega⟩,by omega,by omega⟩
 refine Qkb (by rw [ZW,JP hlf]) fun j=> ?_
 rw [Qh7 hlf,Bool.or_eq_true]
 constructor
 ·intro hj
  rcases QaA hg (P:=fun j=>Rch g ((List.replicate g.Cells.size false).set i true) j) (fun a b h ha hb hw=> .step h ha (by simpa using hb) hw) d m _ _ hl (fun _ _=>by rw [hci];exact .base ((Qg6 hi).2 Y)) j hj with h | h
  ·exact .inl h
  ·exact .inr (on_reachL.2 h)
 ·rintro (hj | hj)
  ·exact Yc d _ _ _ hj
  ·have hr:=on_reachL.1 hj
   clear hj
   induction hr with
   | base h =>
    obtain rfl:=(Qg6 hi).1 h
    have:=Qer hg hl hc hin (by rw [hci];exact hw)
    rwa [hci] at this
   | step h ha hb hw2 ih =>
    rename_i a b
    have hb':b<g.Cells.size:=by simpa using hb
    by_cases hma:on m a=true
    ·exact Yc d _ _ _ (hcl a b hma ha hb' hw2)
    ·exact QeG hg d m _ _ hl hc a b ih hma ha hb' hw2
end
theorem Qc6 (n:Nat) (nn:Nat) (g:D.Grid):∀(d:Nat) (met:List Bool) (r:Int) (c:Int) (hg:gridOk g) (hn:nn=g.Cells.size) (hl:met.length=nn) (hr: -1≤r∧r≤6) (hc: -1≤c∧c≤6) (hu:met.count false<d),Loan (Qr Tryz.prog (n+d+1)) 136 1 (List.map (Qn true) met) [(tI r),(tI c),(T.rp (Qb false g)),(T.vp [(T.os 1 0 0 nn)]),(vtT 136 (T.rp (Qb false g)) (T.vp [(T.os 1 0 0 nn)]) d)] (T.tup []) (List.map (Qn true) (YX d g met r c)):=by
 intro d
 induction d with
 | zero=>intro met r c hg hn hl hr hc hu;exact absurd hu (Nat.not_lt_zero _)
 | succ d ih =>
 intro met r c hg hn hl hr hc hu
 refine Loan.intro (n:=n+d+1) (rs:= []) (j:=3) (pin:=(T.vp [(T.os 1 0 0 nn)])) Tryz.func136 Y Y Y (by kernel_rfl) Y (.vp _ _) .none (ZP (fun _=>rfl) _) (ZP (fun _=>rfl) _) (E0:= [(0,(tI r)),(1,(tI c)),(2,(T.rp (Qb false g))),(3,(T.vp [(T.os 1 0 0 nn)])),(4,(vtT 136 (T.rp (Qb false g)) (T.vp [(T.os 1 0 0 nn)]) (d+1)))]) Y ?_
 obtain ⟨hlim,hmx,hmax⟩:=QE
 have hsz:=hg.size
 have hA:=hg.1
 have hB:=hg.2.1
 refine sq (sr (mO (tI r) Y (lr (tI g.Rows) Y (lb Y) Qak Y QX (cO (cS (vc (tv (tI r) Y) (vc (tv (tI g.Rows) Y) vn)) (ZH Y) (Y8 (n+d+0) r g.Rows) Y Y) (fO (Q8 (tv (tB (decide (0≤r∧r<g.Rows))) Y)) (mO (tB (!(decide (0≤r∧r<g.Rows)))) Y ?_))))))
 refine VRunO.joinB 6 [13,14,15,16,17] 18 (tB (decide ((¬(0≤r∧r<g.Rows))∨(¬(0≤c∧c<g.Cols))))) ?_ ?_
 ·refine gn (0≤r∧r<g.Rows) (fun fhg12_1=> ?_) fun fhg12_1=> ?_
  ·refine QA 5 5 false 12 (ny fhg12_1) Y Y Y ?_
   refine fO (OF.pickT (VEv.tmpB Y (ny fhg12_1)) (VEv.bool true)) (VRunO.nil ?_)
   exact jq (congrArg T.bool (kOT fhg12_1)) (js Y (js Y (js Y (js Y (js Y (jn))))))
  ·refine gF (nz fhg12_1) Y Y (OF.move (tv (tI c) Y)) ?_
   refine glr (tI g.Cols) (nz fhg12_1) Y Y Y Y (lb Y) Zo Y QX (VRunO.chain (VWant.on Y Y (nz fhg12_1)) (cS (vc (tv (tI c) Y) (vc (tv (tI g.Cols) Y) vn)) (ZH Y) (Y8 (n+d+0) c g.Cols) Y Y) (gF (nz fhg12_1) Y Y (Q8 (tv (tB (decide (0≤c∧c<g.Cols))) Y)) (fO (OF.pickF (VEv.tmpB Y (nz fhg12_1)) (tv (tB (!(decide (0≤c∧c<g.Cols)))) Y)) (VRunO.nil ?_))))
   exact jq (congrArg T.bool (kOF (not_not_intro fhg12_1) dN)) (js Y (js Y (js Y (js Y (js Y (jn))))))
 refine mO (tB (decide ((¬(0≤r∧r<g.Rows))∨(¬(0≤c∧c<g.Cols))))) Y ?_
 refine VRunO.joinB 10 [20,21,22,23,24,25,26,27,28] 29 (tB (decide (((¬(0≤r∧r<g.Rows))∨(¬(0≤c∧c<g.Cols)))∨((met[(Int.toNat ((r*g.Cols)+c))]?.getD false)=true)))) ?_ ?_
 ·refine gw ((¬(0≤r∧r<g.Rows))∨(¬(0≤c∧c<g.Cols))) (fun fhg19_2=> ?_) fun fhg19_2=> ?_
  ·refine QA 9 12 false 19 (dy fhg19_2) Y Y Y ?_
   refine fO (OF.pickT (VEv.tmpB Y (dy fhg19_2)) (VEv.bool true)) (VRunO.nil ?_)
   exact jq (congrArg T.bool (kOT fhg19_2)) (js Y (js Y (js Y (js Y (js Y (js Y (js Y (js Y (js Y (jn))))))))))
  ·have hz:=QcC hg (r:=r) (c:=c) (by omega) (by omega)
   refine gL (dz fhg19_2) Y Y (OL.loadV1 (t:=(T.os 1 0 0 nn)) (tv (T.vp [(T.os 1 0 0 nn)]) Y) Y QkH) (gF (dz fhg19_2) Y Y (OF.move (tv (tI r) Y)) (glr (tI g.Cols) (dz fhg19_2) Y Y Y Y (lb Y) Zo Y QX (gF (dz fhg19_2) Y Y (B.mul (n:=(r*g.Cols)) (tv (tI r) Y) (tv (tI g.Cols) Y) (by (rw [Qq (by omega)];done))) (gF (dz fhg19_2) Y Y (OF.move (tv (tI c) Y)) (gF (dz fhg19_2) Y Y (B.add (n:=((r*g.Cols)+c)) (tv (tI (r*g.Cols)) Y) (tv (tI c) Y) (by (rw [Qq (by omega)];done))) ?_)))))
   have hy3:met[(Int.toNat ((r*g.Cols)+c))]? =some (met[(Int.toNat ((r*g.Cols)+c))]?.getD false):=J0 false (by omega)
   refine gF (dz fhg19_2) Y Y (B.indexAddrO (i:=(Int.toNat ((r*g.Cols)+c))) (tv (T.os 1 0 0 nn) Y) (tv (tI ((r*g.Cols)+c)) Y) (by omega) (by omega) Jc sz4 if4) (gL (dz fhg19_2) Y Y (OL.loadP1 (t:=(tB (met[(Int.toNat ((r*g.Cols)+c))]?.getD false))) (row:=(Qn true (met[(Int.toNat ((r*g.Cols)+c))]?.getD false))) (tv (T.orp 1 0 (Int.toNat ((r*g.Cols)+c)) 0) Y) Y (Qt _ hy3) Y Y st4) (fO (OF.pickF (VEv.tmpB Y (dz fhg19_2)) (tv (tB (met[(Int.toNat ((r*g.Cols)+c))]?.getD false)) Y)) (VRunO.nil ?_)))
   exact jq (congrArg T.bool (kOF fhg19_2 (dT _))) (js Y (js Y (js Y (js Y (js Y (js Y (js Y (js Y (js Y (jn))))))))))
 refine mO (tB (decide (((¬(0≤r∧r<g.Rows))∨(¬(0≤c∧c<g.Cols)))∨((met[(Int.toNat ((r*g.Cols)+c))]?.getD false)=true)))) Y ?_
 refine VRunO.joinB 11 [31,32,33,34,35,36,37,38,39,40] 41 (tB (decide ((((¬(0≤r∧r<g.Rows))∨(¬(0≤c∧c<g.Cols)))∨((met[(Int.toNat ((r*g.Cols)+c))]?.getD false)=true))∨(¬(Qw g.Cells (Int.toNat ((r*g.Cols)+c))=46))))) ?_ ?_
 ·refine gw (((¬(0≤r∧r<g.Rows))∨(¬(0≤c∧c<g.Cols)))∨((met[(Int.toNat ((r*g.Cols)+c))]?.getD false)=true)) (fun fhg30_4=> ?_) fun fhg30_4=> ?_
  ·refine QA 10 23 false 30 (dy fhg30_4) Y Y Y ?_
   refine fO (OF.pickT (VEv.tmpB Y (dy fhg30_4)) (VEv.bool true)) (VRunO.nil ?_)
   exact jq (congrArg T.bool (kOT fhg30_4)) (js Y (js Y (js Y (js Y (js Y (js Y (js Y (js Y (js Y (js Y (jn)))))))))))
  ·have hz:=QcC hg (r:=r) (c:=c) (by omega) (by omega)
   refine glr (tS g.Cells) (dz fhg30_4) Y Y Y Y (lb Y) QI Y Ye (gF (dz fhg30_4) Y Y (OF.move (tv (tI r) Y)) (glr (tI g.Cols) (dz fhg30_4) Y Y Y Y (lb Y) Zo Y QX (gF (dz fhg30_4) Y Y (B.mul (n:=(r*g.Cols)) (tv (tI r) Y) (tv (tI g.Cols) Y) (by (rw [Qq (by omega)];done))) (gF (dz fhg30_4) Y Y (OF.move (tv (tI c) Y)) (gF (dz fhg30_4) Y Y (B.add (n:=((r*g.Cols)+c)) (tv (tI (r*g.Cols)) Y) (tv (tI c) Y) (by (rw [Qq (by omega)];done))) ?_)))))
   have hb5:(Int.toNat ((r*g.Cols)+c))<g.Cells.size:=(by omega)
   refine gF (dz fhg30_4) Y Y (B.index (n:=(Qw g.Cells (Int.toNat ((r*g.Cols)+c)))) (i:=(Int.toNat ((r*g.Cols)+c))) (tv (tS g.Cells) Y) (tv (tI ((r*g.Cols)+c)) Y) (by omega) hb5 U9 (YP hb5)) (gF (dz fhg30_4) Y Y (xne (tv (T.int .u8 (Qw g.Cells (Int.toNat ((r*g.Cols)+c)))) Y) (VEv.int .u8 46)) (fO (OF.pickF (VEv.tmpB Y (dz fhg30_4)) (tv (tB (!(decide (Qw g.Cells (Int.toNat ((r*g.Cols)+c))=46)))) Y)) (VRunO.nil ?_)))
   exact jq (congrArg T.bool (kOF fhg30_4 dN)) (js Y (js Y (js Y (js Y (js Y (js Y (js Y (js Y (js Y (js Y (jn)))))))))))
 refine nt ?_
 refine cd ((((¬(0≤r∧r<g.Rows))∨(¬(0≤c∧c<g.Cols)))∨((met[(Int.toNat ((r*g.Cols)+c))]?.getD false)=true))∨(¬(Qw g.Cells (Int.toNat ((r*g.Cols)+c))=46))) Y (fun fhc0=> ?_) fun fhc0=> ?_
 ·refine rt ?_
  refine tr ?_
  have hnew:met=YX (d+1) g met r c:=by
   rw [YX,if_neg];rintro ⟨h1,h2,h3⟩;rcases fhc0 with (h | h) | h;exact h.elim (fun h=>h h1.1) (fun h=>h h1.2);exact on_no.1 h3 h;exact h h2
  exact vloan.r 0 VRes.nil Y Y Y (congrArg (List.map (Qn true)) hnew)
 have hz:=QcC hg (r:=r) (c:=c) (by omega) (by omega)
 have hin:inG g r c:=⟨by omega,by omega⟩
 have hgo:QlN g met r c:=⟨hin,by unfold ZX;omega,on_no.2 (fun h=>fhc0 (.inl (.inr h)))⟩
 have hct:=Qdq (s:=met) (i:=ZX g r c) (by rw [hl,hn];exact Qa1 hg hin) hgo.2.2
 unfold ZX at hct
 have d1:=Jf g d (met.set (Int.toNat (r*g.Cols+c)) true) (r - 1) c
 have d2:=Jf g d (YX d g (met.set (Int.toNat (r*g.Cols+c)) true) (r - 1) c) (r+1) c
 have d3:=Jf g d (YX d g (YX d g (met.set (Int.toNat (r*g.Cols+c)) true) (r - 1) c) (r+1) c) r (c - 1)
 refine sk (tn (sr (lO (OL.loadV1 (t:=(T.os 1 0 0 nn)) (tv (T.vp [(T.os 1 0 0 nn)]) Y) Y QkH) (mO (tI r) Y (lr (tI g.Cols) Y (lb Y) Zo Y QX (fO (B.mul (n:=(r*g.Cols)) (tv (tI r) Y) (tv (tI g.Cols) Y) (by (rw [Qq (by omega)];done))) (mO (tI c) Y (fO (B.add (n:=((r*g.Cols)+c)) (tv (tI (r*g.Cols)) Y) (tv (tI c) Y) (by (rw [Qq (by omega)];done))) ?_))))))))
 obtain ⟨x1,hx1⟩:∃x,met[(Int.toNat ((r*g.Cols)+c))]? =some x:=⟨_,List.getElem?_eq_getElem (by omega)⟩
 refine fO (B.indexAddrO (i:=(Int.toNat ((r*g.Cols)+c))) (tv (T.os 1 0 0 nn) Y) (tv (tI ((r*g.Cols)+c)) Y) (by omega) (by omega) Jc sz4 if4) (cO (B.storeP (us:= [(tB true)]) (rows':=((met.set (Int.toNat ((r*g.Cols)+c)) true).map (Qn true))) (row:=(Qn true x1)) (tv (T.orp 1 0 (Int.toNat ((r*g.Cols)+c)) 0) Y) (VEv.bool true) nofun Y (Qt _ hx1) Y (lb Y) if4 sz4 (bc Y bn) (by intro r hr t ht;obtain ⟨x,_,rfl⟩:=List.mem_map.1 hr;rw [Qgo] at ht;exact ZD (okBool.pl _ t ht)) (Zy Y)) (nt (sr (lO (OL.loadV1 (t:=(T.fn 136 [(T.rp (Qb false g)),(T.vp [(T.os 1 0 0 nn)]),(vtT 136 (T.rp (Qb false g)) (T.vp [(T.os 1 0 0 nn)]) d)])) (tv (vtT 136 (T.rp (Qb false g)) (T.vp [(T.os 1 0 0 nn)]) (d+1)) Y) Y Qhx) (mO (tI r) Y (fO (B.sub (n:=(r - 1)) (tv (tI r) Y) (VEv.int .i64 1) (by (rw [Qq (by omega)];done))) (mO (tI c) Y (cO (OC.callvLoan (ts:= [(tI (r - 1)),(tI c),(T.rp (Qb false g)),(T.vp [(T.os 1 0 0 nn)]),(vtT 136 (T.rp (Qb false g)) (T.vp [(T.os 1 0 0 nn)]) d)]) (k:=0) (r:=(T.tup [])) (rows:=((met.set (Int.toNat ((r*g.Cols)+c)) true).map (Qn true))) (rows':=((YX d g (met.set (Int.toNat ((r*g.Cols)+c)) true) (r - 1) c).map (Qn true))) Y Y (vc (tv (tI (r - 1)) Y) (vc (tv (tI c) Y) vn)) Y (by simp only [Qao,ren,QbB,List.cons_append,List.nil_append]) (tl Y (tl Y (tl Y (tl Y (tl (Qc9 Y Y _) Y))))) LRes.none Y (ZP (fun _=>rfl) _) (ZP (fun _=>rfl) _) (ih (met.set (Int.toNat ((r*g.Cols)+c)) true) (r - 1) c (by assumption) (by assumption) (by (simp only [ZW,List.length_set];omega)) (by omega) (by assumption) (by omega))) (nt (sr (lO (OL.loadV1 (t:=(T.fn 136 [(T.rp (Qb false g)),(T.vp [(T.os 1 0 0 nn)]),(vtT 136 (T.rp (Qb false g)) (T.vp [(T.os 1 0 0 nn)]) d)])) (tv (vtT 136 (T.rp (Qb false g)) (T.vp [(T.os 1 0 0 nn)]) (d+1)) Y) Y Qhx) ?_)))))))))))
 refine mO (tI r) Y (fO (B.add (n:=(r+1)) (tv (tI r) Y) (VEv.int .i64 1) (by (rw [Qq (by omega)];done))) (mO (tI c) Y (cO (OC.callvLoan (ts:= [(tI (r+1)),(tI c),(T.rp (Qb false g)),(T.vp [(T.os 1 0 0 nn)]),(vtT 136 (T.rp (Qb false g)) (T.vp [(T.os 1 0 0 nn)]) d)]) (k:=0) (r:=(T.tup [])) (rows:=((YX d g (met.set (Int.toNat ((r*g.Cols)+c)) true) (r - 1) c).map (Qn true))) (rows':=((YX d g (YX d g (met.set (Int.toNat ((r*g.Cols)+c)) true) (r - 1) c) (r+1) c).map (Qn true))) Y Y (vc (tv (tI (r+1)) Y) (vc (tv (tI c) Y) vn)) Y (by simp only [Qao,ren,QbB,List.cons_append,List.nil_append]) (tl Y (tl Y (tl Y (tl Y (tl (Qc9 Y Y _) Y))))) LRes.none Y (ZP (fun _=>rfl) _) (ZP (fun _=>rfl) _) (ih (YX d g (met.set (Int.toNat ((r*g.Cols)+c)) true) (r - 1) c) (r+1) c (by assumption) (by assumption) (by (simp only [ZW,List.length_set];omega)) (by omega) (by assumption) (by omega))) (nt (sr (lO (OL.loadV1 (t:=(T.fn 136 [(T.rp (Qb false g)),(T.vp [(T.os 1 0 0 nn)]),(vtT 136 (T.rp (Qb false g)) (T.vp [(T.os 1 0 0 nn)]) d)])) (tv (vtT 136 (T.rp (Qb false g)) (T.vp [(T.os 1 0 0 nn)]) (d+1)) Y) Y Qhx) (mO (tI r) Y (mO (tI c) Y (fO (B.sub (n:=(c - 1)) (tv (tI c) Y) (VEv.int .i64 1) (by (rw [Qq (by omega)];done))) (cO (OC.callvLoan (ts:= [(tI r),(tI (c - 1)),(T.rp (Qb false g)),(T.vp [(T.os 1 0 0 nn)]),(vtT 136 (T.rp (Qb false g)) (T.vp [(T.os 1 0 0 nn)]) d)]) (k:=0) (r:=(T.tup [])) (rows:=((YX d g (YX d g (met.set (Int.toNat ((r*g.Cols)+c)) true) (r - 1) c) (r+1) c).map (Qn true))) (rows':=((YX d g (YX d g (YX d g (met.set (Int.toNat ((r*g.Cols)+c)) true) (r - 1) c) (r+1) c) r (c - 1)).map (Qn true))) Y Y (vc (tv (tI r) Y) (vc (tv (tI (c - 1)) Y) vn)) Y (by simp only [Qao,ren,QbB,List.cons_append,List.nil_append]) (tl Y (tl Y (tl Y (tl Y (tl (Qc9 Y Y _) Y))))) LRes.none Y (ZP (fun _=>rfl) _) (ZP (fun _=>rfl) _) (ih (YX d g (YX d g (met.set (Int.toNat ((r*g.Cols)+c)) true) (r - 1) c) (r+1) c) r (c - 1) (by assumption) (by assumption) (by (simp only [ZW,List.length_set];omega)) (by assumption) (by omega) (by omega))) (nt ?_)))))))))))
 refine VRun.region (lO (OL.loadV1 (t:=(T.fn 136 [(T.rp (Qb false g)),(T.vp [(T.os 1 0 0 nn)]),(vtT 136 (T.rp (Qb false g)) (T.vp [(T.os 1 0 0 nn)]) d)])) (tv (vtT 136 (T.rp (Qb false g)) (T.vp [(T.os 1 0 0 nn)]) (d+1)) Y) Y Qhx) (mO (tI r) Y (mO (tI c) Y (fO (B.add (n:=(c+1)) (tv (tI c) Y) (VEv.int .i64 1) (by (rw [Qq (by omega)];done))) (cO (OC.callvLoan (ts:= [(tI r),(tI (c+1)),(T.rp (Qb false g)),(T.vp [(T.os 1 0 0 nn)]),(vtT 136 (T.rp (Qb false g)) (T.vp [(T.os 1 0 0 nn)]) d)]) (k:=0) (r:=(T.tup [])) (rows:=((YX d g (YX d g (YX d g (met.set (Int.toNat ((r*g.Cols)+c)) true) (r - 1) c) (r+1) c) r (c - 1)).map (Qn true))) (rows':=((YX d g (YX d g (YX d g (YX d g (met.set (Int.toNat ((r*g.Cols)+c)) true) (r - 1) c) (r+1) c) r (c - 1)) r (c+1)).map (Qn true))) Y Y (vc (tv (tI r) Y) (vc (tv (tI (c+1)) Y) vn)) Y (by simp only [Qao,ren,QbB,List.cons_append,List.nil_append]) (tl Y (tl Y (tl Y (tl Y (tl (Qc9 Y Y _) Y))))) LRes.none Y (ZP (fun _=>rfl) _) (ZP (fun _=>rfl) _) (ih (YX d g (YX d g (YX d g (met.set (Int.toNat ((r*g.Cols)+c)) true) (r - 1) c) (r+1) c) r (c - 1)) r (c+1) (by assumption) (by assumption) (by (simp only [ZW,List.length_set];omega)) (by assumption) (by omega) (by omega))) (VRunO.nil ?_))))))
 have hnew:YX d g (YX d g (YX d g (YX d g (met.set (Int.toNat ((r*g.Cols)+c)) true) (r - 1) c) (r+1) c) r (c - 1)) r (c+1)=YX (d+1) g met r c:=by
  rw [YX,if_pos hgo];rfl
 exact vloan.n 0 VRes.nil Y Y Y (congrArg (List.map (Qn true)) hnew)
theorem QeD (n:Nat) (g:D.Grid) (hc:g.Cells.size≤mx):Pure (Qr Tryz.prog (n+39)) 104 [(T.agg (Qb false g))] (tN (Ya g)):=by
 refine Pure.intro (rs:= [ResultVar.tmp 2]) Tryz.func104 Y Y Y (E0:= [(0,(T.agg (Qb false g)))]) Y ?_
 obtain ⟨hlim,hmx,hmax⟩:=QE
 refine sr (kO (B.box (ts:=(Qb false g)) (tv (T.agg (Qb false g)) Y) nofun Y) (fO (OF.assign (VEv.int .i64 0)) (nt (sq (sr (lO (OL.loadOn (us:=(Qb false g)) (tv (T.op 0 0) Y) Y Q3 QY (lb Y) Y) (cO (cS (vc (tv (T.agg (Qb false g)) Y) vn) (LendL.cons (lg Qs) ln) (Yk (n+36) g (by omega)) Y Y) (fO (Q8 (tv (tB (decide (gridOk g))) Y)) (nt ?_)))))))))
 refine cn (gridOk g) Y (fun fhc0=> ?_) fun fhc0=> ?_
 ·refine sr ?_
  refine fO (OF.assign (VEv.int .i64 0)) (nt (rt (tr (vi (n':=0) Y ?_))))
  rw [Ya,if_neg (by simpa using fhc0)];rfl
 have hgo:gridOk g:=by simpa using fhc0
 have hsz:=hgo.size
 have hA:=hgo.1
 have hB:=hgo.2.1
 refine sk (tn (sr (lf (tS g.Cells) Y QI Y Y Ye (lO (B.lenS (tv (tS g.Cells) Y) U9) (kO (B.makeZ (n:=g.Cells.size) (m:=((List.replicate g.Cells.size false).map (Qn true)).length) (rows:=((List.replicate g.Cells.size false).map (Qn true))) (zr:=(Qn true false)) (tv (tN g.Cells.size) Y) (tv (tN g.Cells.size) Y) Y Jc zo4 zc4 Y (by rw [sz4];decide) (by omega) (of_decide_eq_true (by kernel_rfl)) (Z0.bool Z0.nil) sz4 (List.map_replicate ..).symm (by rw [List.length_map,List.length_replicate])) (kO (B.alloc (t:=T.nils) (ts:= [T.nils]) Qnp Qnl nofun (fun _=> .nils) Y) (cO (B.storeW (us:= [(T.os 1 1 0 (((List.replicate g.Cells.size false).map (Qn true)).length))]) (tv (T.op 2 0) Y) (tv (T.os 1 1 0 (((List.replicate g.Cells.size false).map (Qn true)).length)) Y) nofun Y Y Y QnE QnL (bc Y bn)) (nt (sr (kO (B.alloc (t:=T.fn0) (ts:= [T.fn0]) (show Ze Tryz.prog 146=some .nilFunc by kernel_rfl) (show closedV .nilFunc=true by kernel_rfl) nofun (fun _=> .fn0) Y) (nt ?_)))))))))))
 refine sr (fO (OF.makeFunc (vc (tv (T.op 0 0) Y) (vc (tv (T.op 2 0) Y) (vc (tv (T.op 3 0) Y) vn)))) (cO (B.storeW (us:= [(T.fn 136 [(T.op 0 0),(T.op 2 0),(T.op 3 0)])]) (tv (T.op 3 0) Y) (tv (T.fn 136 [(T.op 0 0),(T.op 2 0),(T.op 3 0)]) Y) nofun Y Y Y Qne QnK (bc Y bn)) (nt (VRun.wk (Wk.recv (sz:=1) (k:=1) (us:=(Qb false g)) (f:=136) 38 (d1:=1) (d2:=3) (d3:=4) Y Y Y Y Y Y (by decide) (by decide) (by decide) (bc Y (bc Y (bc Y bn)))) (sr (fO (OF.assign (VEv.int .i64 0)) (nt (sq (sr (lr (tS g.Cells) Y (lb Y) QI Y Ye (lO (B.lenS (tv (tS g.Cells) Y) U9) ?_)))))))))))
 refine fO (OF.move (VEv.int .i64 0)) (nt (VRun.block ?_))
 have he1:(List.replicate g.Cells.size false)=(Qo g 0).2:=by rfl
 refine VRun.loop (A:=Nat) (fun s_=> [(1,(T.rp (Qb false g))),(2,(tN 0)),(3,(T.vp [(T.os 1 0 0 (((List.replicate g.Cells.size false).map (Qn true)).length))])),(4,(vtT 136 (T.rp (Qb false g)) (T.vp [(T.os 1 0 0 (((List.replicate g.Cells.size false).map (Qn true)).length))]) 38)),(5,(tN ((Qo g s_).1))),(17,(tN g.Cells.size)),(18,(tN s_))]) (fun s_=>Q5 [(0,(Obj.rows 1 (((Qo g s_).2).map (Qn true))))]) 1 (fun s_=>s_≤g.Cells.size) (fun s_=>g.Cells.size - s_) (0:Nat) ?_ (Wk.mk (fun k=>if k=0 then 1 else k) ?_ ?_ ?_) ?_
 ·(simp;done)
 ·exact (b2 (b2 (b2 (b2 (bc ⟨(congrArg (T.int .i64) (show 0=(((Qo g 0).1:Nat):Int) from (by rfl))),rfl⟩ (b2 (b2 bn)))))))
 ·exact (bc ⟨(congrArg (fun l_=>some (Obj.rows 1 (List.map (Qn true) l_))) he1),(lb Y),rfl⟩ bn)
 ·exact nd Y
 rintro i (hI':i≤g.Cells.size)
 show VRun _ _ _ [(1,(T.rp (Qb false g))),(2,(tN 0)),(3,(T.vp [(T.os 1 0 0 (((List.replicate g.Cells.size false).map (Qn true)).length))])),(4,(vtT 136 (T.rp (Qb false g)) (T.vp [(T.os 1 0 0 (((List.replicate g.Cells.size false).map (Qn true)).length))]) 38)),(5,(tN ((Qo g i).1))),(17,(tN g.Cells.size)),(18,(tN i))] (Q5 [(0,(Obj.rows 1 (((Qo g i).2).map (Qn true))))]) 1 _
 have hI1:=hI'
 have hpl:=Y4 g i
 have hpn:=QcY g i
 refine sr (fO (Zg (tv (tN i) Y) (tv (tN g.Cells.size) Y)) (nt (sq ?_)))
 refine cd (i<g.Cells.size) Y (fun fhc1=> ?_) fun fhc1=> ?_
 ·refine sk ?_
  refine tn (sq (VRun.block (sr (mO (tN i) Y (aO (tN i) Y (nt (sr (lr (tS g.Cells) Y (lb Y) QI Y Ye (mO (tN i) Y ?_)))))))))
  have hb2:i<g.Cells.size:=(by omega)
  refine fO (J6 (tv (tS g.Cells) Y) (tv (tN i) Y) hb2 U9) (fO (YD (tv (T.int .u8 (Qw g.Cells i)) Y) (VEv.int .u8 46)) (mO (tB (decide (Qw g.Cells i=46))) Y ?_))
  refine VRunO.joinB 6 [27,28,29,30,31] 32 (tB (decide ((Qw g.Cells i=46)∧((!(((Qo g i).2)[i]?.getD false))=true)))) ?_ ?_
  ·refine gw (Qw g.Cells i=46) (fun fhg26_3=> ?_) fun fhg26_3=> ?_
   ·refine gL (dy fhg26_3) Y Y (OL.loadV1 (t:=(T.os 1 0 0 (((List.replicate g.Cells.size false).map (Qn true)).length))) (tv (T.vp [(T.os 1 0 0 (((List.replicate g.Cells.size false).map (Qn true)).length))]) Y) Y QkH) ?_
    refine gF (dy fhg26_3) Y Y (OF.move (tv (tN i) Y)) ?_
    have hy4:((Qo g i).2)[i]? =some (((Qo g i).2)[i]?.getD false):=J0 false (by omega)
    refine gF (dy fhg26_3) Y Y (B.indexAddrO (i:=i) (tv (T.os 1 0 0 (((List.replicate g.Cells.size false).map (Qn true)).length)) Y) (tv (tN i) Y) Y (by (simp only [List.length_map,List.length_replicate];omega)) Jc sz4 if4) (gL (dy fhg26_3) Y Y (OL.loadP1 (t:=(tB (((Qo g i).2)[i]?.getD false))) (row:=(Qn true (((Qo g i).2)[i]?.getD false))) (tv (T.orp 1 0 i 0) Y) Y (Qt _ hy4) Y Y st4) (gF (dy fhg26_3) Y Y (Q8 (tv (tB (((Qo g i).2)[i]?.getD false)) Y)) (fO (OF.pickT (VEv.tmpB Y (dy fhg26_3)) (tv (tB (!(((Qo g i).2)[i]?.getD false))) Y)) (VRunO.nil ?_))))
    exact jq (congrArg T.bool (kAT fhg26_3 (dT _))) (js Y (js Y (js Y (js Y (js Y (jn))))))
   ·refine QA 5 5 true 26 (dz fhg26_3) Y Y Y ?_
    refine fO (OF.pickF (VEv.tmpB Y (dz fhg26_3)) (VEv.bool false)) (VRunO.nil ?_)
    exact jq (congrArg T.bool (kAF fhg26_3)) (js Y (js Y (js Y (js Y (js Y (jn))))))
  refine nt ?_
  refine cd ((Qw g.Cells i=46)∧((!(((Qo g i).2)[i]?.getD false))=true)) Y (fun fhc2=> ?_) fun fhc2=> ?_
  ·have q0:Qct g (Qo g i).2 i:=⟨fhc2.1,by simpa [on] using fhc2.2⟩
   have q1:=Qdw q0
   have hci:=Qbt hgo (show i<g.Cells.size by omega)
   have hq0:0≤((i:Nat):Int) / ((g.Cols.toNat:Nat):Int):=Int.ediv_nonneg (by omega) (by omega)
   have hm0:0≤((i:Nat):Int) % ((g.Cols.toNat:Nat):Int):=Int.emod_nonneg _ (by omega)
   refine sr (mO (tN ((Qo g i).1)) Y (fO (QB (tv (tN ((Qo g i).1)) Y) (VEv.int .i64 1) (by omega)) (aO (tN ((Qo g i).1+1)) Y (nt (VRun.draw (B:= [[],[],[],[2],[2,3,1],[],[],[6],[6,7,5],[5,7,6,8,1,3,2,4,0]]) (by kernel_rfl) (by kernel_rfl) (lD (OL.loadV1 (t:=(T.fn 136 [(T.rp (Qb false g)),(T.vp [(T.os 1 0 0 (((List.replicate g.Cells.size false).map (Qn true)).length))]),(vtT 136 (T.rp (Qb false g)) (T.vp [(T.os 1 0 0 (((List.replicate g.Cells.size false).map (Qn true)).length))]) 37)])) (tv (vtT 136 (T.rp (Qb false g)) (T.vp [(T.os 1 0 0 (((List.replicate g.Cells.size false).map (Qn true)).length))]) 38) Y) Y Qhx) Y Y (mD (tN i) Y Y (fD (B.fieldAddrR (us:=((Qb false g).drop 1)) (tv (T.rp (Qb false g)) Y) (lb Y) Zo Y) Y Y (lD (OL.loadR1 (t:=(tI g.Cols)) (tv (T.rp ((Qb false g).drop 1)) Y) Y QX) Y Y (fD (B.quo (n:=((i / g.Cols.toNat:Nat):Int)) (tv (tN i) Y) (tv (tI g.Cols) Y) (by omega) (by (refine Qmp ?_ ?_<;>omega))) Y Y (mD (tN i) Y Y ?_)))))))))))
   refine fD (B.fieldAddrR (us:=((Qb false g).drop 1)) (tv (T.rp (Qb false g)) Y) (lb Y) Zo Y) Y Y (lD (OL.loadR1 (t:=(tI g.Cols)) (tv (T.rp ((Qb false g).drop 1)) Y) Y QX) Y Y (fD (B.rem (n:=((i % g.Cols.toNat:Nat):Int)) (tv (tN i) Y) (tv (tI g.Cols) Y) (by omega) (by (refine QlW ?_;omega))) Y Y (VRunD.chain (bi:= [5,7,6,8,1,3,2,4,0]) Y VWant.always Y Y Y (by kernel_rfl) (OC.callvLoan (ts:= [(tN (i / g.Cols.toNat)),(tN (i % g.Cols.toNat)),(T.rp (Qb false g)),(T.vp [(T.os 1 0 0 (((List.replicate g.Cells.size false).map (Qn true)).length))]),(vtT 136 (T.rp (Qb false g)) (T.vp [(T.os 1 0 0 (((List.replicate g.Cells.size false).map (Qn true)).length))]) 37)]) (k:=0) (r:=(T.tup [])) (rows:=(((Qo g i).2).map (Qn true))) (rows':=((YX 37 g ((Qo g i).2) ((i / g.Cols.toNat:Nat):Int) ((i % g.Cols.toNat:Nat):Int)).map (Qn true))) Y Y (vc (tv (tN (i / g.Cols.toNat)) Y) (vc (tv (tN (i % g.Cols.toNat)) Y) vn)) Y (by simp only [Qao,ren,QbB,List.cons_append,List.nil_append]) (tl Y (tl Y (tl Y (tl Y (tl (Qc9 Y Y _) Y))))) LRes.none Y (ZP (fun _=>rfl) _) (ZP (fun _=>rfl) _) (Qc6 (n+0) (((List.replicate g.Cells.size false).map (Qn true)).length) g 37 ((Qo g i).2) ((i / g.Cols.toNat:Nat):Int) ((i % g.Cols.toNat:Nat):Int) (by exact fhc0) (by (simp only [Y4,List.length_map,List.length_replicate];done)) (by (simp only [List.length_map,List.length_replicate];omega)) (by omega) (by omega) (by (refine Nat.lt_of_le_of_lt List.count_le_length ?_;rw [Y4];omega)))) (VRunD.nil (vinB.n (tn (VRun.region (fO (QB (tv (tN i) Y) (VEv.int .i64 1) (by omega)) (mO (tN (i+1)) Y (VRunO.nil (tn ?_)))))))))))
   have he5:YX 37 g ((Qo g i).2) ((i / g.Cols.toNat:Nat):Int) ((i % g.Cols.toNat:Nat):Int)=(Qo g (i+1)).2:=by (rw [q1.2];exact Qlp hgo hpl fhc1 (Nat.lt_of_le_of_lt List.count_le_length (by omega)) (QbM i hI1) q0.1)
   refine ⟨(i+1:Nat),?_,?_,Wk.mk (fun k=>k) ?_ ?_ ?_⟩
   ·trivial
   ·omega
   ·exact (b2 (b2 (b2 (b2 (bc ⟨(congrArg (T.int .i64) (show ((((Qo g i).1+1):Nat):Int)=(((Qo g (i+1)).1:Nat):Int) from (by omega))),rfl⟩ (b2 (b2 bn)))))))
   ·exact (bc ⟨(congrArg (fun l_=>some (Obj.rows 1 (List.map (Qn true) l_))) he5),(lb Y),rfl⟩ bn)
   ·exact nd Y
  have q0:¬Qct g (Qo g i).2 i:=fun h=>fhc2 ⟨h.1,by have:=h.2;unfold on at this;rw [this];rfl⟩
  refine sk (vinB.n (tn (VRun.region (fO (QB (tv (tN i) Y) (VEv.int .i64 1) (by omega)) (mO (tN (i+1)) Y (VRunO.nil (tn ?_)))))))
  have he6:(Qo g i).2=(Qo g (i+1)).2:=by (rw [Qbg q0];done)
  refine ⟨(i+1:Nat),?_,?_,Wk.mk (fun k=>k) ?_ ?_ ?_⟩
  ·trivial
  ·omega
  ·exact (b2 (b2 (b2 (b2 (bc ⟨(congrArg (T.int .i64) (show (((Qo g i).1:Nat):Int)=(((Qo g (i+1)).1:Nat):Int) from (by (rw [Qbg q0];done)))),rfl⟩ (b2 (b2 bn)))))))
  ·exact (bc ⟨(congrArg (fun l_=>some (Obj.rows 1 (List.map (Qn true) l_))) he6),(lb Y),rfl⟩ bn)
  ·exact nd Y
 refine VRun.exit (vthn.e (vthn.e (vinB.e (tn (sr (mO (tN ((Qo g i).1)) Y (aO (tN ((Qo g i).1)) Y (nt (rt (vi (n':=(((Qo g i).1:Nat):Int)) Y ?_))))))))))
 exact congrArg (fun x:Nat=>(x:Int)) (Qf4 hI1 (.inl hgo) (by omega))
noncomputable section
def Z8 (g:D.Grid):Int:=if ¬gridOk g then 1 else if ¬Qd6 g then 2 else if ¬Ya g=1 then 3 else if QbX g then 4 else if QaX g then 5 else 0
theorem Qii {g:D.Grid} (h:∀j s,j<(Qa g).length→(Qa g)[j]? =some s→¬QdT g j s) (hg:gridOk g):Qgn g g.Cells↔QaX g:=by
 constructor
 ·rintro ⟨c,h1,h2,_⟩
  exact .inr ⟨c,h1,hg,h2⟩
 ·rintro (⟨j,s,h3,h4⟩ | ⟨c,h1,_,h2⟩)
  ·exact absurd h4 (h j s (List.getElem?_eq_some_iff.1 h3).1 h3)
  ·refine ⟨c,h1,h2,?_⟩
   unfold Qbd
   have:=h2.1
   omega
end
theorem Qb3 (n:Nat) (g:D.Grid) (hc:g.Cells.size≤mx):Pure (Qr Tryz.prog (n+4)) 74 [(T.agg (Qb false g))] (tB (decide (Ya g=1))):=by
 refine Pure.intro (rs:= [ResultVar.tmp 2]) Tryz.func74 Y Y Y (E0:= [(0,(T.agg (Qb false g)))]) Y ?_
 obtain ⟨hlim,hmx,hmax⟩:=QE
 refine sr (kO (B.box (ts:=(Qb false g)) (tv (T.agg (Qb false g)) Y) nofun Y) (fO (OF.assign (VEv.bool false)) (nt (sr (lO (OL.loadOn (us:=(Qb false g)) (tv (T.op 0 0) Y) Y Q3 QY (lb Y) Y) (cO (cS (vc (tv (T.agg (Qb false g)) Y) vn) (LendL.cons (lg Qs) ln) (Qeu (n+0) g (by assumption)) Y Y) (fO (B.eql (c:=(decide (Ya g=1))) (tv (tN (Ya g)) Y) (VEv.int .i64 1) (Zd (by omega))) (aO (tB (decide (Ya g=1))) Y (nt (rt ?_))))))))))
 exact vb Y Y
theorem QbW (n:Nat) (g:D.Grid) (hc:g.Cells.size≤mx):Pure (Qr Tryz.prog (n+40)) 79 [(T.agg (Qb false g))] (tB (decide (Ya g=1))):=by
 refine Pure.intro (rs:= [ResultVar.tmp 2]) Tryz.func79 Y Y Y (E0:= [(0,(T.agg (Qb false g)))]) Y ?_
 obtain ⟨hlim,hmx,hmax⟩:=QE
 refine sr (kO (B.box (ts:=(Qb false g)) (tv (T.agg (Qb false g)) Y) nofun Y) (fO (OF.assign (VEv.bool false)) (nt (sr (lO (OL.loadOn (us:=(Qb false g)) (tv (T.op 0 0) Y) Y Q3 QY (lb Y) Y) (cO (cS (vc (tv (T.agg (Qb false g)) Y) vn) (LendL.cons (lg Qs) ln) (QeD (n+0) g (by assumption)) Y Y) (fO (B.eql (c:=(decide (Ya g=1))) (tv (tN (Ya g)) Y) (VEv.int .i64 1) (Zd (by omega))) (aO (tB (decide (Ya g=1))) Y (nt (rt ?_))))))))))
 exact vb Y Y
theorem QfK (n:Nat) (g:D.Grid) (hc:g.Cells.size≤mx):Pure (Qr Tryz.prog (n+9)) 52 [(T.agg (Qb false g))] (tI (Z8 g)):=by
 refine Pure.intro (rs:= [ResultVar.tmp 2]) Tryz.func52 Y Y Y (E0:= [(0,(T.agg (Qb false g)))]) Y ?_
 obtain ⟨hlim,hmx,hmax⟩:=QE
 refine sr (kO (B.box (ts:=(Qb false g)) (tv (T.agg (Qb false g)) Y) nofun Y) (fO (OF.assign (VEv.int .i64 0)) (nt (sq (VRun.block (sr (lO (OL.loadOn (us:=(Qb false g)) (tv (T.op 0 0) Y) Y Q3 QY (lb Y) Y) (cO (cS (vc (tv (T.agg (Qb false g)) Y) vn) (LendL.cons (lg Qs) ln) (Z5 (n+6) g (by omega)) Y Y) (fO (Q8 (tv (tB (decide (gridOk g))) Y)) (aO (tB (!(decide (gridOk g)))) Y (nt ?_)))))))))))
 refine cn (gridOk g) Y (fun fhc0=> ?_) fun fhc0=> ?_
 ·refine sr ?_
  refine fO (OF.assign (VEv.int .i64 1)) (nt (rt (vinB.r (tr (vi (n':=1) Y ?_)))))
  exact (if_pos (by assumption)).symm
 refine sr (lO (OL.loadOn (us:=(Qb false g)) (tv (T.op 0 0) Y) Y Q3 QY (lb Y) Y) (cO (cS (vc (tv (T.agg (Qb false g)) Y) vn) (LendL.cons (lg Qs) ln) (Qcf (n+4) g (by omega)) Y Y) (fO (Q8 (tv (tB (decide (Qd6 g))) Y)) (aO (tB (!(decide (Qd6 g)))) Y (nt ?_)))))
 refine cn (Qd6 g) Y (fun fhc1=> ?_) fun fhc1=> ?_
 ·refine sr ?_
  refine fO (OF.assign (VEv.int .i64 2)) (nt (rt (vinB.r (tr (vi (n':=2) Y ?_)))))
  (simp only [Z8];simp [*];done)
 refine sr (lO (OL.loadOn (us:=(Qb false g)) (tv (T.op 0 0) Y) Y Q3 QY (lb Y) Y) (cO (cS (vc (tv (T.agg (Qb false g)) Y) vn) (LendL.cons (lg Qs) ln) (Qb3 (n+4) g (by assumption)) Y Y) (fO (Q8 (tv (tB (decide (Ya g=1))) Y)) (aO (tB (!(decide (Ya g=1)))) Y (nt ?_)))))
 refine cn (Ya g=1) Y (fun fhc2=> ?_) fun fhc2=> ?_
 ·refine sr ?_
  refine fO (OF.assign (VEv.int .i64 3)) (nt (rt (vinB.r (tr (vi (n':=3) Y ?_)))))
  (simp only [Z8];simp [*];done)
 refine sr (lO (OL.loadOn (us:=(Qb false g)) (tv (T.op 0 0) Y) Y Q3 QY (lb Y) Y) (cO (cS (vc (tv (T.agg (Qb false g)) Y) vn) (LendL.cons (lg Qs) ln) (QdS (n+4) g (by omega)) Y Y) (aO (tB (decide (QbX g))) Y (nt ?_))))
 refine cd (QbX g) Y (fun fhc3=> ?_) fun fhc3=> ?_
 ·refine sr ?_
  refine fO (OF.assign (VEv.int .i64 4)) (nt (rt (vinB.r (tr (vi (n':=4) Y ?_)))))
  (simp only [Z8];simp [*];done)
 refine sr (lO (OL.loadOn (us:=(Qb false g)) (tv (T.op 0 0) Y) Y Q3 QY (lb Y) Y) (cO (cS (vc (tv (T.agg (Qb false g)) Y) vn) (LendL.cons (lg Qs) ln) (QdV (n+0) g (by omega)) Y Y) (aO (tB (decide (QaX g))) Y (nt ?_))))
 refine cd (QaX g) Y (fun fhc4=> ?_) fun fhc4=> ?_
 ·refine sr ?_
  refine fO (OF.assign (VEv.int .i64 5)) (nt (rt (vinB.r (tr (vi (n':=5) Y ?_)))))
  (simp only [Z8];simp [*];done)
 refine sk (vinB.n (tn (sr (fO (OF.assign (VEv.int .i64 0)) (nt (rt (vi (n':=0) Y ?_)))))))
 (simp only [Z8];simp [*];done)
theorem QfM (n:Nat) (g:D.Grid) (hc:g.Cells.size≤mx):Pure (Qr Tryz.prog (n+41)) 55 [(T.agg (Qb false g))] (tI (Z8 g)):=by
 refine Pure.intro (rs:= [ResultVar.tmp 2]) Tryz.func55 Y Y Y (E0:= [(0,(T.agg (Qb false g)))]) Y ?_
 obtain ⟨hlim,hmx,hmax⟩:=QE
 have hsl:=Zh g
 refine sr (kO (B.box (ts:=(Qb false g)) (tv (T.agg (Qb false g)) Y) nofun Y) (fO (OF.assign (VEv.int .i64 0)) (nt (sq (VRun.block (sr (lO (OL.loadOn (us:=(Qb false g)) (tv (T.op 0 0) Y) Y Q3 QY (lb Y) Y) (cO (cS (vc (tv (T.agg (Qb false g)) Y) vn) (LendL.cons (lg Qs) ln) (Yk (n+38) g (by omega)) Y Y) (fO (Q8 (tv (tB (decide (gridOk g))) Y)) (aO (tB (!(decide (gridOk g)))) Y (nt ?_)))))))))))
 refine cn (gridOk g) Y (fun fhc0=> ?_) fun fhc0=> ?_
 ·refine sr ?_
  refine fO (OF.assign (VEv.int .i64 1)) (nt (rt (vinB.r (tr (vi (n':=1) Y ?_)))))
  exact (if_pos fhc0).symm
 refine sr (lO (OL.loadOn (us:=(Qb false g)) (tv (T.op 0 0) Y) Y Q3 QY (lb Y) Y) (cO (cS (vc (tv (T.agg (Qb false g)) Y) vn) (LendL.cons (lg Qs) ln) (Qb2 (n+36) g (by omega)) Y Y) (fO (Q8 (tv (tB (decide (Qd6 g))) Y)) (aO (tB (!(decide (Qd6 g)))) Y (nt ?_)))))
 refine cn (Qd6 g) Y (fun fhc1=> ?_) fun fhc1=> ?_
 ·refine sr ?_
  refine fO (OF.assign (VEv.int .i64 2)) (nt (rt (vinB.r (tr (vi (n':=2) Y ?_)))))
  unfold Z8;rw [if_neg (not_not_intro fhc0),if_pos fhc1]
 refine sr (lO (OL.loadOn (us:=(Qb false g)) (tv (T.op 0 0) Y) Y Q3 QY (lb Y) Y) (cO (cS (vc (tv (T.agg (Qb false g)) Y) vn) (LendL.cons (lg Qs) ln) (QbW (n+0) g (by assumption)) Y Y) (fO (Q8 (tv (tB (decide (Ya g=1))) Y)) (aO (tB (!(decide (Ya g=1)))) Y (nt ?_)))))
 refine cn (Ya g=1) Y (fun fhc2=> ?_) fun fhc2=> ?_
 ·refine sr ?_
  refine fO (OF.assign (VEv.int .i64 3)) (nt (rt (vinB.r (tr (vi (n':=3) Y ?_)))))
  unfold Z8;rw [if_neg (not_not_intro fhc0),if_neg (not_not_intro fhc1),if_pos fhc2]
 refine sk (vinB.n (tn (sr (lO (OL.loadOn (us:=(Qb false g)) (tv (T.op 0 0) Y) Y Q3 QY (lb Y) Y) (cO (OC.callF (r':=(T.os 4 1 0 (((Qa g).map (Qi true)).length))) (objs:= [(Obj.rows 4 ((Qa g).map (Qi true)))]) Y (vc (tv (T.agg (Qb false g)) Y) vn) (LendL.cons (lg Qs) ln) (JR (n+37) g (by omega)) Y) (aO (T.os 4 1 0 (((Qa g).map (Qi true)).length)) Y (nt (sq (sr (mO (T.os 4 1 0 (((Qa g).map (Qi true)).length)) Y (lO (B.lenO (m:=(Qa g).length) (tv (T.os 4 1 0 (((Qa g).map (Qi true)).length)) Y) U81 (List.length_map ..)) ?_)))))))))))
 refine fO (OF.move (VEv.int .i64 0)) (nt (VRun.block ?_))
 refine VRun.loop (A:=Nat) (fun s_=> [(1,(T.op 0 0)),(3,(T.os 4 1 0 (((Qa g).map (Qi true)).length))),(22,(T.os 4 1 0 (((Qa g).map (Qi true)).length))),(23,(tN ((Qa g).length))),(24,(tN s_))]) (fun s_=>Q5 [(0,(Obj.cells (Qb false g))),(1,(Obj.rows 4 ((Qa g).map (Qi true))))]) 2 (fun s_=>NoneTo (fun s:D.Slot=>s.Length<3) (Qa g) s_) (fun s_=>(Qa g).length - s_) (0:Nat) ?_ (Wk.mk (fun k=>k) ?_ ?_ ?_) ?_
 ·exact NoneTo.start _ _
 ·exact (b2 (b2 (b2 (b2 (b2 bn)))))
 ·exact (b3 (b3 bn))
 ·exact nd Y
 rintro i (hI':NoneTo (fun s:D.Slot=>s.Length<3) (Qa g) i)
 show VRun _ _ _ [(1,(T.op 0 0)),(3,(T.os 4 1 0 (((Qa g).map (Qi true)).length))),(22,(T.os 4 1 0 (((Qa g).map (Qi true)).length))),(23,(tN ((Qa g).length))),(24,(tN i))] (Q5 [(0,(Obj.cells (Qb false g))),(1,(Obj.rows 4 ((Qa g).map (Qi true))))]) 2 _
 have hI1:=hI'.1
 have hns:=hI'
 refine sr (fO (Zg (tv (tN i) Y) (tv (tN ((Qa g).length)) Y)) (nt (sq ?_)))
 refine cd (i<(Qa g).length) Y (fun fhc3=> ?_) fun fhc3=> ?_
 ·have hx0:=fhc3
  refine sk (tn (sq (VRun.block (sr ?_))))
  obtain ⟨x1,hx1⟩:∃x,(Qa g)[i]? =some x:=⟨_,List.getElem?_eq_getElem (by omega)⟩
  refine fO (B.indexAddrO (i:=i) (tv (T.os 4 1 0 (((Qa g).map (Qi true)).length)) Y) (tv (tN i) Y) Y (by (simp only [List.length_map];omega)) U81 Yb Qef) (lO (OL.loadPn (us:=(Qi false x1)) (row:=(Qi true x1)) (tv (T.orp 4 1 i 0) Y) Y (Qt _ hx1) QgC Yb (lb Y) Y (bc Y (bc Y (bc Y (bc Y bn))))) (kO (B.alloc (t:=(T.agg [(tN 0),(tB false),(tN 0),(tN 0)])) (ts:= [(tN 0),(tB false),(tN 0),(tN 0)]) JZ QmH nofun (fun _=> .agg _ _ Y (YZ (RL.cons (.int _ _) (RL.cons (.bool _) (RL.cons (.int _ _) (RL.cons (.int _ _) (RL.nil _))))))) Y) (cO (B.storeW (us:=(Qi false x1)) (tv (T.op 2 0) Y) (tv (T.agg (Qi false x1)) Y) nofun Y Y Y Qef Yb (bc Y (bc Y (bc Y (bc Y bn))))) (nt (sr (lf (tI x1.Length) Y Qcb Y Y QX (fO (xls (tv (tI x1.Length) Y) (VEv.int .i64 3)) (nt ?_))))))))
  refine cd (x1.Length<3) Y (fun fhc4=> ?_) fun fhc4=> ?_
  ·refine sr ?_
   refine fO (OF.assign (VEv.int .i64 4)) (nt (rt (vinB.r (tr (tr (vinB.r (tr (vi (n':=4) Y ?_))))))))
   unfold Z8;rw [if_neg (not_not_intro fhc0),if_neg (not_not_intro fhc1),if_neg (not_not_intro fhc2),if_pos (show QbX g from ⟨x1,List.mem_of_getElem? hx1,fhc4⟩)]
  refine sk (vinB.n (tn (VRun.region (fO (QB (tv (tN i) Y) (VEv.int .i64 1) (by omega)) (mO (tN (i+1)) Y (VRunO.nil (tn ?_)))))))
  refine ⟨(i+1:Nat),?_,?_,Wk.mk (fun k=>k) ?_ ?_ ?_⟩
  ·exact hI'.next hx1 fhc4
  ·omega
  ·exact (b2 (b2 (b2 (b2 (b2 bn)))))
  ·exact (b3 (b3 bn))
  ·exact nd Y
 have hsh:¬QbX g:=by rintro ⟨y,hy,hy2⟩;exact hns.mem fhc3 y hy hy2
 refine VRun.exit (vthn.e (vthn.e (vinB.e (tn (sq (sr (mO (T.os 4 1 0 (((Qa g).map (Qi true)).length)) Y (lO (B.lenO (m:=(Qa g).length) (tv (T.os 4 1 0 (((Qa g).map (Qi true)).length)) Y) U81 (List.length_map ..)) (fO (OF.move (VEv.int .i64 0)) (nt (VRun.block ?_)))))))))))
 refine VRun.loop (A:=Nat) (fun s_=> [(1,(T.op 0 0)),(32,(T.os 4 1 0 (((Qa g).map (Qi true)).length))),(33,(tN ((Qa g).length))),(34,(tN s_))]) (fun s_=>Q5 [(0,(Obj.cells (Qb false g))),(1,(Obj.rows 4 ((Qa g).map (Qi true))))]) 2 (fun s_=>NoBad g s_) (fun s_=>(Qa g).length - s_) (0:Nat) ?_ (Wk.mk (fun k=>k) ?_ ?_ ?_) ?_
 ·exact NoBad.start _
 ·exact (b2 (b2 (b2 (b2 bn))))
 ·exact (b3 (b3 bn))
 ·exact nd Y
 rintro k (hI':NoBad g k)
 show VRun _ _ _ [(1,(T.op 0 0)),(32,(T.os 4 1 0 (((Qa g).map (Qi true)).length))),(33,(tN ((Qa g).length))),(34,(tN k))] (Q5 [(0,(Obj.cells (Qb false g))),(1,(Obj.rows 4 ((Qa g).map (Qi true))))]) 2 _
 have hJ1:=hI'.1
 have hub:=Qkg g ((k:Nat):Int)
 refine sr (fO (Zg (tv (tN k) Y) (tv (tN ((Qa g).length)) Y)) (nt (sq ?_)))
 refine cd (k<(Qa g).length) Y (fun fhc5=> ?_) fun fhc5=> ?_
 ·refine sk ?_
  refine tn (sq (VRun.block (sr (mO (tN k) Y ?_))))
  obtain ⟨x1,hx1⟩:∃x,(Qa g)[k]? =some x:=⟨_,List.getElem?_eq_getElem (by omega)⟩
  refine fO (B.indexAddrO (i:=k) (tv (T.os 4 1 0 (((Qa g).map (Qi true)).length)) Y) (tv (tN k) Y) Y (by (simp only [List.length_map];omega)) U81 Yb Qef) (lO (OL.loadPn (us:=(Qi false x1)) (row:=(Qi true x1)) (tv (T.orp 4 1 k 0) Y) Y (Qt _ hx1) QgC Yb (lb Y) Y (bc Y (bc Y (bc Y (bc Y bn))))) (kO (B.alloc (t:=(T.agg [(tN 0),(tB false),(tN 0),(tN 0)])) (ts:= [(tN 0),(tB false),(tN 0),(tN 0)]) JZ QmH nofun (fun _=> .agg _ _ Y (YZ (RL.cons (.int _ _) (RL.cons (.bool _) (RL.cons (.int _ _) (RL.cons (.int _ _) (RL.nil _))))))) Y) (aO (tN k) Y (cO (B.storeW (us:=(Qi false x1)) (tv (T.op 2 0) Y) (tv (T.agg (Qi false x1)) Y) nofun Y Y Y Qef Yb (bc Y (bc Y (bc Y (bc Y bn))))) (nt (sq (VRun.draw (B:= [[],[],[1,0],[0,1,2],[],[4],[4,5,2,1,0,3]]) (by kernel_rfl) (by kernel_rfl) (lD (OL.loadOn (us:=(Qb false g)) (tv (T.op 0 0) Y) Y Q3 QY (lb Y) Y) Y Y (mD (tN k) Y Y (VRunD.quiet (bi:= [1,0]) Y VWant.always Y Y Y bn (cS (vc (tv (T.agg (Qb false g)) Y) (vc (tv (tN k) Y) vn)) (LendL.cons (lg Qs) (lp Y ln)) (Qcg (n+33) g ((k:Nat):Int) (by omega)) Y Y) (fD (B.mul (n:=(2*unG g ((k:Nat):Int))) (VEv.int .i64 2) (tv (tI (unG g ((k:Nat):Int))) Y) (by (rw [Qq (by omega)];done))) Y Y ?_)))))))))))
  refine fD (OF.fieldAddrO (tv (T.op 2 0) Y) Qcb) Y Y (lD (OL.loadO1 (t:=(tI x1.Length)) (tv (T.op 2 3) Y) Y Y QX) Y Y (fD (xgt (tv (tI (2*unG g ((k:Nat):Int))) Y) (tv (tI x1.Length) Y)) Y Y (VRunD.nil (tn ?_))))
  refine cd (x1.Length<(2*unG g ((k:Nat):Int))) Y (fun fhc6=> ?_) fun fhc6=> ?_
  ·have q1:QdT g k x1:=by unfold QdT;omega
   refine sr (fO (OF.assign (VEv.int .i64 5)) (nt (rt (vinB.r (tr (tr (vinB.r (tr (vi (n':=5) Y ?_)))))))))
   unfold Z8;rw [if_neg (not_not_intro fhc0),if_neg (not_not_intro fhc1),if_neg (not_not_intro fhc2),if_neg hsh,if_pos (show QaX g from .inl ⟨k,x1,hx1,q1⟩)]
  have q1:¬QdT g k x1:=by unfold QdT;omega
  refine sk (vinB.n (tn (VRun.region (fO (QB (tv (tN k) Y) (VEv.int .i64 1) (by omega)) (mO (tN (k+1)) Y (VRunO.nil (tn ?_)))))))
  refine ⟨(k+1:Nat),?_,?_,Wk.mk (fun k=>k) ?_ ?_ ?_⟩
  ·exact hI'.next hx1 q1
  ·omega
  ·exact (b2 (b2 (b2 (b2 bn))))
  ·exact (b3 (b3 bn))
  ·exact nd Y
 have hal:=Qii (g:=g) (fun j s hj=>hI'.2 j s (by omega)) (by simpa using fhc0)
 refine VRun.exit (vthn.e (vthn.e (vinB.e (tn (sq (sr (lO (OL.loadOn (us:=(Qb false g)) (tv (T.op 0 0) Y) Y Q3 QY (lb Y) Y) (lf (tS g.Cells) Y QI Y Y Ye (cO (cS (vc (tv (T.agg (Qb false g)) Y) (vc (tv (tS g.Cells) Y) vn)) (LendL.cons (lg Qs) (lp Y ln)) (QgO (n+35) g g.Cells (by omega) (by omega)) Y Y) (nt ?_))))))))))
 refine cd (Qgn g g.Cells) Y (fun fhc7=> ?_) fun fhc7=> ?_
 ·refine sr ?_
  refine fO (OF.assign (VEv.int .i64 5)) (nt (rt (tr (vi (n':=5) Y ?_))))
  unfold Z8;rw [if_neg (not_not_intro fhc0),if_neg (not_not_intro fhc1),if_neg (not_not_intro fhc2),if_neg hsh,if_pos (hal.1 fhc7)]
 refine sk (tn (sr (fO (OF.assign (VEv.int .i64 0)) (nt (rt (vi (n':=0) Y ?_))))))
 unfold Z8;rw [if_neg (not_not_intro fhc0),if_neg (not_not_intro fhc1),if_neg (not_not_intro fhc2),if_neg hsh,if_neg (fun h=>fhc7 (hal.2 h))]
noncomputable section
def okC (c:D.Clue):Prop:=(1≤c.Sense∧c.Sense≤99)∧QT c.Play
end
noncomputable section
def QeN : Nat→Int→ByteArray→ByteArray
 | 0,_,acc=>acc
 | f+1,k,acc=>if 0<k then QeN f (k.tdiv 10) (Z2 [IntKind.u8.wrap (48+k.tmod 10)]++acc) else acc
def JA (k:Int):ByteArray:=if k≤0 then ⟨#[109,48]⟩ else ⟨#[109]⟩++QeN k.toNat k ⟨#[]⟩
theorem QjK {f:Nat} {k:Int} {acc:ByteArray} (hk:0<k) (hf:k.toNat≤f):0≤k.tdiv 10∧(k.tdiv 10).toNat≤f - 1∧QeN f k acc=QeN (f - 1) (k.tdiv 10) (Z2 [IntKind.u8.wrap (48+k.tmod 10)]++acc):=by
 have h1:k.tdiv 10=k / 10:=Int.tdiv_eq_ediv_of_nonneg (by omega)
 cases f with
 | zero=>omega
 | succ f =>
  refine ⟨by omega,by omega,?_⟩
  simp only [QeN,if_pos hk]
  rfl
theorem QkP {f:Nat} {k:Int} {acc:ByteArray} (hk:¬ 0<k):QeN f k acc=acc:=by
 cases f with
 | zero=>rfl
 | succ f=>simp only [QeN,if_neg hk]
theorem QkW (n:Int):(Z2 [n]).size=1:=rfl
theorem Qm2 {k:Int} (h:0<k):0≤k.tmod 10∧k.tmod 10<10∧0≤k.tdiv 10∧k.tdiv 10≤k:=by
 rw [Int.tmod_eq_emod_of_nonneg (by omega),Int.tdiv_eq_ediv_of_nonneg (by omega)]
 omega
end
theorem Jr (n:Nat) (q:Int) (hq:q≤Zr):Pure (Qr Tryz.prog (n+1)) 48 [(tI q)] (tS (JA q)):=by
 refine Pure.intro (rs:= [ResultVar.tmp 2]) Tryz.func48 Y Y Y (E0:= [(0,(tI q))]) Y ?_
 obtain ⟨hlim,hmx,hmax⟩:=QE
 refine sr (fO (OF.assign (VEv.str (⟨#[]⟩:ByteArray))) (nt (sq (sr (mO (tI q) Y (fO (xle (tv (tI q) Y) (VEv.int .i64 0)) (nt ?_)))))))
 refine cd (q≤0) Y (fun fhc0=> ?_) fun fhc0=> ?_
 ·refine sr ?_
  refine fO (OF.assign (VEv.str (⟨#[109,48]⟩:ByteArray))) (nt (rt (tr ?_)))
  refine vfin.eq (r':=(tS (⟨#[109,48]⟩:ByteArray))) ?_ (vfin.r (VRes.tmp (t:=(tS (⟨#[109,48]⟩:ByteArray))) Y VRes.nil) (Give.str _))
  refine congrArg T.str ?_
  exact (if_pos fhc0).symm
 refine sk (tn (sr (fO (OF.assign (VEv.str (⟨#[]⟩:ByteArray))) (nt (sq (VRun.block ?_))))))
 refine VRun.loop (A:=Int×Nat×ByteArray) (fun s_=> [(0,(tI s_.1)),(2,(tS (⟨#[]⟩:ByteArray))),(3,(tS s_.2.2))]) (fun s_=>Q5 []) 0 (fun s_=>0≤s_.1∧s_.1.toNat≤s_.2.1∧s_.2.2.size+s_.2.1≤q.toNat∧QeN q.toNat q ⟨#[]⟩=QeN s_.2.1 s_.1 s_.2.2) (fun s_=>s_.2.1) ((q,q.toNat,⟨#[]⟩):Int×Nat×ByteArray) ?_ (Wk.mk (fun k=>k) ?_ ?_ ?_) ?_
 ·exact ⟨by omega,Nat.le_refl _,by show 0+q.toNat≤q.toNat;omega,rfl⟩
 ·exact (b2 (b2 (bc ⟨(congrArg T.str (show (⟨#[]⟩:ByteArray)=⟨#[]⟩ from (by rfl))),rfl⟩ bn)))
 ·exact bn
 ·exact nd Y
 rintro ⟨k,f,acc⟩ (hI':0≤k∧k.toNat≤f∧acc.size+f≤q.toNat∧QeN q.toNat q ⟨#[]⟩=QeN f k acc)
 show VRun _ _ _ [(0,(tI k)),(2,(tS (⟨#[]⟩:ByteArray))),(3,(tS acc))] (Q5 []) 0 _
 have hI1:=hI'.1
 have hI2:=hI'.2.1
 have hI3:=hI'.2.2.1
 have hI4:=hI'.2.2.2
 refine sq (sr (mO (tI k) Y (fO (xgt (tv (tI k) Y) (VEv.int .i64 0)) (nt ?_))))
 refine cd (0<k) Y (fun fhc1=> ?_) fun fhc1=> ?_
 ·obtain ⟨m1,m2,m3,m4⟩:=Qm2 fhc1
  refine sk (tn (VRun.block (sr (mO (tI k) Y (fO (B.rem (n:=(k.tmod 10)) (tv (tI k) Y) (VEv.int .i64 10) (by omega) (by rfl)) (fO (B.add (n:=(48+(k.tmod 10))) (VEv.int .i64 48) (tv (tI (k.tmod 10)) Y) (by (rw [Qq (by omega)];done))) (fO (OF.convI (tv (tI (48+(k.tmod 10))) Y) (k0:= .i64) U3 U5) (kO (OM.buildSlice (l:= [(T.int .u8 (IntKind.u8.wrap (48+(k.tmod 10))))]) (VEvp.cons (tv (T.int .u8 (IntKind.u8.wrap (48+(k.tmod 10)))) Y) VEvp.nil) Y (by decide) (bc (nofun) bn) (bc ((bc (Y) bn)) bn) (bc (Y) bn) U92 zo5 (by kernel_rfl) Y (by rw [sz5];decide) sz5 (Nat.le_of_ble_eq_true Y)) (lO (B.convBS (l:= [IntKind.u8.wrap (48+(k.tmod 10))]) (tv (T.os 1 0 0 1) Y) Y Y U92 U5 U9) (mO (tS acc) Y (fO (B.sadd (tv (tS (Z2 [IntKind.u8.wrap (48+(k.tmod 10))])) Y) (tv (tS acc) Y) (by (simp only [QkW];omega))) ?_)))))))))))
  refine aO (tS ((Z2 [IntKind.u8.wrap (48+(k.tmod 10))])++acc)) Y (nt (VRun.region (mO (tI k) Y (fO (B.quo (n:=(k.tdiv 10)) (tv (tI k) Y) (VEv.int .i64 10) (by omega) (by (rw [Qq (by omega)];done))) (aO (tI (k.tdiv 10)) Y (VRunO.nil (vinB.n (tn ?_))))))))
  obtain ⟨n1,n2,n3⟩:=QjK (acc:=acc) fhc1 hI2
  refine ⟨((k.tdiv 10,f - 1,Z2 [IntKind.u8.wrap (48+k.tmod 10)]++acc):Int×Nat×ByteArray),?_,?_,Wk.mk (fun k=>k) ?_ ?_ ?_⟩
  ·exact ⟨n1,n2,by show (Z2 _++acc).size+(f - 1)≤q.toNat;rw [ByteArray.size_append,QkW];omega,hI4.trans n3⟩
  ·(simp only [];omega)
  ·exact (b2 (b2 (bc ⟨(congrArg T.str (show ((Z2 [IntKind.u8.wrap (48+(k.tmod 10))])++acc)=(Z2 [IntKind.u8.wrap (48+k.tmod 10)]++acc) from (by rfl))),rfl⟩ bn)))
  ·exact bn
  ·exact nd Y
 refine VRun.exit (vthn.e (vthn.e (vinB.e (tn (sr (mO (tS acc) Y (fO (B.sadd (VEv.str (⟨#[109]⟩:ByteArray)) (tv (tS acc) Y) (by (rw [show (⟨#[109]⟩:ByteArray).size=1 from rfl];omega))) (aO (tS ((⟨#[109]⟩:ByteArray)++acc)) Y (nt (rt ?_))))))))))
 refine vfin.eq (r':=(tS ((⟨#[109]⟩:ByteArray)++acc))) ?_ (vfin.r (VRes.tmp (t:=(tS ((⟨#[109]⟩:ByteArray)++acc))) Y VRes.nil) (Give.str _))
 refine congrArg T.str ?_
 unfold JA
 rw [if_neg fhc0,hI4,QkP fhc1]
noncomputable section
def QL (k:Nat):ByteArray:=JA ((k:Nat):Int)
end
theorem Qb6 (n:Nat) (a:List ByteArray) (k:Nat) (hk:k+1*a.length≤Zr):Mut (Qr Tryz.prog (n+2)) 24 1 (a.map (Qv true)) [(tN k)] (some ((k+1*a.length:Nat):Int)) ((Jm QL 1 k a.length).map (Qv true)):=by
 refine Mut.intro (rt:=4) Tryz.func24 Y Y Y (by kernel_rfl) (ZP (fun _=>rfl) _) (ZP (fun _=>rfl) _) (E0:= [(1,(tN k))]) Y ?_
 obtain ⟨hlim,hmx,hmax⟩:=QE
 refine sr (fO (OF.assign (VEv.int .i64 0)) (nt (sq (sr (fO (OF.assign (VEv.int .i64 0)) (nt (VRun.block ?_)))))))
 have he1:a=Yi QL 1 k a 0:=by first | rfl | (refine Qbl ?_;omega) | (simp only [List.set_set];refine Qbl ?_;omega) | (simp;done) | omega
 refine VRun.loop (A:=Nat) (fun s_=> [(0,(T.os 1 0 0 (((Yi QL 1 k a s_).map (Qv true)).length))),(1,(tN (k+1*s_))),(4,(tN 0)),(5,(tN s_))]) (fun s_=>Q5 [(0,(Obj.rows 1 ((Yi QL 1 k a s_).map (Qv true))))]) 1 (fun s_=>s_≤a.length) (fun s_=>a.length - s_) (0:Nat) ?_ (Wk.mk (fun k=>k) ?_ ?_ ?_) ?_
 ·first | trivial | (simp;done) | omega | (constructor<;>simp)
 ·exact (bc ⟨(congrArg (fun l_=>T.os 1 0 0 (List.map (Qv true) l_).length) he1),rfl⟩ (bc ⟨(congrArg (T.int .i64) (show ((k:Nat):Int)=((k+1*0:Nat):Int) from (by first | rfl | omega | (simp;done) | (push_cast;omega)))),rfl⟩ (b2 (b2 bn))))
 ·exact (bc ⟨(congrArg (fun l_=>some (Obj.rows 1 (List.map (Qv true) l_))) he1),(lb Y),rfl⟩ bn)
 ·exact nd Y
 rintro i (hI':i≤a.length)
 show VRun _ _ _ [(0,(T.os 1 0 0 (((Yi QL 1 k a i).map (Qv true)).length))),(1,(tN (k+1*i))),(4,(tN 0)),(5,(tN i))] (Q5 [(0,(Obj.rows 1 ((Yi QL 1 k a i).map (Qv true))))]) 1 _
 have hml:=Ju (f:=QL) (w:=1) (k:=k) hI'
 refine sq (sr (mO (tN i) Y (mO (T.os 1 0 0 (((Yi QL 1 k a i).map (Qv true)).length)) Y (lO (B.lenO (m:=(Yi QL 1 k a i).length) (tv (T.os 1 0 0 (((Yi QL 1 k a i).map (Qv true)).length)) Y) U52 (List.length_map ..)) (fO (Zg (tv (tN i) Y) (tv (tN ((Yi QL 1 k a i).length)) Y)) (nt ?_))))))
 refine cd (i<(Yi QL 1 k a i).length) Y (fun fhc0=> ?_) fun fhc0=> ?_
 ·refine sk ?_
  refine tn (sq (VRun.block (sr (mO (T.os 1 0 0 (((Yi QL 1 k a i).map (Qv true)).length)) Y (mO (tN i) Y (mO (tN (k+1*i)) Y (cO (cS (vc (tv (tN (k+1*i)) Y) vn) (ZH Y) (Jr (n+0) ((k+1*i:Nat):Int) (by first | omega | (simp only [List.length_set];omega) | assumption | omega)) Y Y) ?_)))))))
  obtain ⟨x1,hx1⟩:∃x,(Yi QL 1 k a i)[i]? =some x:=⟨_,List.getElem?_eq_getElem (by first | omega | (simp only [List.length_set];omega) | omega)⟩
  refine fO (B.indexAddrO (i:=i) (tv (T.os 1 0 0 (((Yi QL 1 k a i).map (Qv true)).length)) Y) (tv (tN i) Y) Y (by first | omega | (simp only [List.length_set];omega) | omega | (simp only [List.length_map];omega) | (simp only [List.length_map,List.length_append,List.length_cons,List.length_nil,List.length_replicate,List.length_set,List.length_drop,List.length_take,Zr] at *;omega)) U52 sz9 if9) (cO (B.storeP (us:= [(tS (JA ((k+1*i:Nat):Int)))]) (rows':=(((Yi QL 1 k a i).set i (JA ((k+1*i:Nat):Int))).map (Qv true))) (row:=(Qv true x1)) (tv (T.orp 1 0 i 0) Y) (tv (tS (JA ((k+1*i:Nat):Int))) Y) nofun Y (Qt _ hx1) Y (lb Y) if9 sz9 (bc Y bn) (by intro r hr t ht;obtain ⟨x,_,rfl⟩:=List.mem_map.1 hr;rw [Qnz] at ht;exact ZD (okStr.pl _ t ht)) (Zy Y)) (nt (VRun.region (mO (tN (k+1*i)) Y (fO (QB (tv (tN (k+1*i)) Y) (VEv.int .i64 1) (by first | omega | (simp only [List.length_set];omega) | omega)) (aO (tN (k+1*i+1)) Y (VRunO.nil (vinB.n (tn (VRun.region (mO (tN i) Y ?_)))))))))))
  refine fO (QB (tv (tN i) Y) (VEv.int .i64 1) (by first | omega | (simp only [List.length_set];omega) | omega)) (aO (tN (i+1)) Y (VRunO.nil (tn ?_)))
  have hi1:i+1≤a.length:=by omega
  have he2:((Yi QL 1 k a i).set i (JA ((k+1*i:Nat):Int)))=Yi QL 1 k a (i+1):=by first | rfl | (refine Qbl ?_;omega) | (simp only [List.set_set];refine Qbl ?_;omega) | (simp;done) | omega
  refine ⟨(i+1:Nat),?_,?_,Wk.mk (fun k=>k) ?_ ?_ ?_⟩
  ·first | trivial | omega | (simp;done) | exact ⟨by omega,hI'.2⟩
  ·first | omega | (simp only [];omega) | (show _<_;omega) | (simp;omega)
  ·exact (bc ⟨(congrArg (fun n_=>T.os 1 0 0 n_) (show ((Yi QL 1 k a i).map (Qv true)).length=((Yi QL 1 k a (i+1)).map (Qv true)).length from (by first | rfl | (rw [List.length_map,List.length_map,Ju hI',Ju hi1]) | (simp only [List.length_map];omega) | (simp only [List.length_map,List.length_set,List.length_append,List.length_take,List.length_replicate,List.length_cons,List.length_nil];omega)))),rfl⟩ (bc ⟨(congrArg (T.int .i64) (show (((k+1*i+1):Nat):Int)=((k+1*(i+1):Nat):Int) from (by first | rfl | omega | (simp;done) | (push_cast;omega)))),rfl⟩ (b2 (b2 bn))))
  ·exact (bc ⟨(congrArg (fun l_=>some (Obj.rows 1 (List.map (Qv true) l_))) he2),(lb Y),rfl⟩ bn)
  ·exact nd Y
 refine VRun.exit (vthn.e (vthn.e (vinB.e (tn (sr (mO (tN (k+1*i)) Y (aO (tN (k+1*i)) Y (nt (rt ?_)))))))))
 refine vmut.r (r0:=((k+1*i:Nat):Int)) (rows:=((Yi QL 1 k a i).map (Qv true))) Y Y Y ?_ ?_ Y
 ·first | rfl | (push_cast;omega) | (have:i=a.length:=(by omega);subst this;rfl)
 ·show List.map _ (Yi QL 1 k a i)=List.map _ (Jm QL 1 k a.length)
  refine congrArg (List.map _) ?_
  exact QgT hI' (by omega)
theorem JH (n:Nat) (a:List ByteArray) (k:Nat) (hh:a=Jm QL 1 k a.length) (hk:k+1*a.length≤Zr):Pure (Qr Tryz.prog (n+2)) 25 [(rd 1 Qv a),(tN k)] (tN (k+1*a.length)):=by
 refine Pure.intro (rs:= [ResultVar.tmp 4]) Tryz.func25 Y Y Y (E0:= [(0,(rd 1 Qv a)),(1,(tN k))]) Y ?_
 obtain ⟨hlim,hmx,hmax⟩:=QE
 refine sr (fO (OF.assign (VEv.int .i64 0)) (nt (sq (sr (fO (OF.assign (VEv.int .i64 0)) (nt (VRun.block ?_)))))))
 refine VRun.loop (A:=Nat) (fun s_=> [(0,(rd 1 Qv a)),(1,(tN (k+1*s_))),(5,(tN s_))]) (fun s_=>Q5 []) 0 (fun s_=>s_≤a.length) (fun s_=>a.length - s_) (0:Nat) ?_ (Wk.mk (fun k=>k) ?_ ?_ ?_) ?_
 ·first | trivial | (simp;done) | omega | (constructor<;>simp)
 ·exact (b2 (bc ⟨(congrArg (T.int .i64) (show ((k:Nat):Int)=((k+1*0:Nat):Int) from (by first | rfl | omega | (simp;done) | (push_cast;omega)))),rfl⟩ (b2 bn)))
 ·exact bn
 ·exact nd Y
 rintro i (hI':i≤a.length)
 show VRun _ _ _ [(0,(rd 1 Qv a)),(1,(tN (k+1*i))),(5,(tN i))] (Q5 []) 0 _
 refine sq (sr (mO (tN i) Y (mO (rd 1 Qv a) Y (lO (B.lenR (m:=a.length) (tv (rd 1 Qv a) Y) U52 (List.length_map ..)) (fO (Zg (tv (tN i) Y) (tv (tN a.length) Y)) (nt ?_))))))
 refine cd (i<a.length) Y (fun fhc0=> ?_) fun fhc0=> ?_
 ·refine sk ?_
  refine tn (sq (VRun.block (sq (sq (VRun.draw (B:= [[],[],[1,0],[0,1,2],[],[4],[4,5,2,1,0,3]]) (by kernel_rfl) (by kernel_rfl) (mD (rd 1 Qv a) Y Y (mD (tN i) Y Y ?_)))))))
  obtain ⟨x1,hx1⟩:∃x,a[i]? =some x:=⟨_,List.getElem?_eq_getElem (by omega)⟩
  refine fD (OF.indexAddrR (row:=(Qv false x1)) (i:=i) (tv (rd 1 Qv a) Y) (tv (tN i) Y) Y (Qt _ hx1) U52 sz9 if9) Y Y (lD (OL.loadR1 (t:=(tS x1)) (tv (T.rp [(tS x1)]) Y) Y Ye) Y Y (mD (tN (k+1*i)) Y Y (VRunD.quiet (bi:= [4]) Y VWant.always Y Y Y bn (cS (vc (tv (tN (k+1*i)) Y) vn) (ZH Y) (Jr (n+0) ((k+1*i:Nat):Int) (by first | assumption | omega)) Y Y) (fD (B.sneq (c:=(!(decide (x1=JA ((k+1*i:Nat):Int))))) (tv (tS x1) Y) (tv (tS (JA ((k+1*i:Nat):Int))) Y) Y) Y Y (VRunD.nil (tn ?_))))))
  refine cn (x1=JA ((k+1*i:Nat):Int)) Y (fun fhc1=> ?_) fun fhc1=> ?_
  ·exact absurd (Qmo hh hx1) fhc1
  refine sk (tn (VRun.region (mO (tN (k+1*i)) Y (fO (QB (tv (tN (k+1*i)) Y) (VEv.int .i64 1) (by omega)) (aO (tN (k+1*i+1)) Y (VRunO.nil (vinB.n (tn (VRun.region (mO (tN i) Y (fO (QB (tv (tN i) Y) (VEv.int .i64 1) (by omega)) ?_)))))))))))
  refine aO (tN (i+1)) Y (VRunO.nil (tn ?_))
  refine ⟨(i+1:Nat),?_,?_,Wk.mk (fun k=>k) ?_ ?_ ?_⟩
  ·first | trivial | omega | (simp;done) | exact ⟨by omega,hI'.2⟩
  ·first | omega | (simp only [];omega) | (show _<_;omega) | (simp;omega)
  ·exact (b2 (bc ⟨(congrArg (T.int .i64) (show (((k+1*i+1):Nat):Int)=((k+1*(i+1):Nat):Int) from (by first | rfl | omega | (simp;done) | (push_cast;omega)))),rfl⟩ (b2 bn)))
  ·exact bn
  ·exact nd Y
 refine VRun.exit (vthn.e (vthn.e (vinB.e (tn (sr (mO (tN (k+1*i)) Y (aO (tN (k+1*i)) Y (nt (rt (vi (n':=((k+1*i:Nat):Int)) Y ?_))))))))))
 omega
noncomputable section
def Zu (k:Nat):D.Step:=(D.Step.mk ((k:Nat):Int) (JA ((k+1:Nat):Int)) ((k+2:Nat):Int) ((k+3:Nat):Int))
end
theorem Qdh (n:Nat) (a:List D.Step) (k:Nat) (hk:k+4*a.length≤Zr):Mut (Qr Tryz.prog (n+2)) 63 4 (a.map (Qg true)) [(tN k)] (some ((k+4*a.length:Nat):Int)) ((Jm Zu 4 k a.length).map (Qg true)):=by
 refine Mut.intro (rt:=4) Tryz.func63 Y Y Y (by kernel_rfl) (ZP (fun _=>rfl) _) (ZP (fun _=>rfl) _) (E0:= [(1,(tN k))]) Y ?_
 obtain ⟨hlim,hmx,hmax⟩:=QE
 refine sr (fO (OF.assign (VEv.int .i64 0)) (nt (sq (sr (fO (OF.assign (VEv.int .i64 0)) (nt (VRun.block ?_)))))))
 have he1:a=Yi Zu 4 k a 0:=by rfl
 refine VRun.loop (A:=Nat) (fun s_=> [(0,(T.os 4 0 0 (((Yi Zu 4 k a s_).map (Qg true)).length))),(1,(tN (k+4*s_))),(4,(tN 0)),(5,(tN s_))]) (fun s_=>Q5 [(0,(Obj.rows 4 ((Yi Zu 4 k a s_).map (Qg true))))]) 1 (fun s_=>s_≤a.length) (fun s_=>a.length - s_) (0:Nat) ?_ (Wk.mk (fun k=>k) ?_ ?_ ?_) ?_
 ·(simp;done)
 ·exact (bc ⟨(congrArg (fun l_=>T.os 4 0 0 (List.map (Qg true) l_).length) he1),rfl⟩ (bc ⟨(congrArg (T.int .i64) (show ((k:Nat):Int)=((k+4*0:Nat):Int) from (by rfl))),rfl⟩ (b2 (b2 bn))))
 ·exact (bc ⟨(congrArg (fun l_=>some (Obj.rows 4 (List.map (Qg true) l_))) he1),(lb Y),rfl⟩ bn)
 ·exact nd Y
 rintro i (hI':i≤a.length)
 show VRun _ _ _ [(0,(T.os 4 0 0 (((Yi Zu 4 k a i).map (Qg true)).length))),(1,(tN (k+4*i))),(4,(tN 0)),(5,(tN i))] (Q5 [(0,(Obj.rows 4 ((Yi Zu 4 k a i).map (Qg true))))]) 1 _
 have hml:=Ju (f:=Zu) (w:=4) (k:=k) hI'
 refine sq (sr (mO (tN i) Y (mO (T.os 4 0 0 (((Yi Zu 4 k a i).map (Qg true)).length)) Y (lO (B.lenO (m:=(Yi Zu 4 k a i).length) (tv (T.os 4 0 0 (((Yi Zu 4 k a i).map (Qg true)).length)) Y) U72 (List.length_map ..)) (fO (Zg (tv (tN i) Y) (tv (tN ((Yi Zu 4 k a i).length)) Y)) (nt ?_))))))
 refine cd (i<(Yi Zu 4 k a i).length) Y (fun fhc0=> ?_) fun fhc0=> ?_
 ·refine sk ?_
  refine tn (sq (VRun.block (sr (mO (T.os 4 0 0 (((Yi Zu 4 k a i).map (Qg true)).length)) Y (mO (tN i) Y (mO (tN (k+4*i)) Y ?_))))))
  obtain ⟨x1,hx1⟩:∃x,(Yi Zu 4 k a i)[i]? =some x:=⟨_,List.getElem?_eq_getElem (by omega)⟩
  refine fO (B.indexAddrO (i:=i) (tv (T.os 4 0 0 (((Yi Zu 4 k a i).map (Qg true)).length)) Y) (tv (tN i) Y) Y (by (simp only [List.length_map];omega)) U72 ZQ YA) (fO (OF.fieldAddrP (tv (T.orp 4 0 i 0) Y) QV) (cO (B.storeP (us:= [(tN (k+4*i))]) (rows':=(((Yi Zu 4 k a i).set i (D.Step.mk ((k+4*i:Nat):Int) x1.Word x1.A x1.B)).map (Qg true))) (row:=(Qg true x1)) (tv (T.orp 4 0 i 0) Y) (tv (tN (k+4*i)) Y) nofun Y (Qt _ hx1) Y (lb Y) YK Zl (bc Y bn) (by intro r hr t ht;obtain ⟨x,_,rfl⟩:=List.mem_map.1 hr;rw [Qe5] at ht;exact ZD (okeStep.pl _ t ht)) (Zy Y)) (nt (sr (mO (tN (k+4*i)) Y (fO (QB (tv (tN (k+4*i)) Y) (VEv.int .i64 1) (by omega)) (aO (tN (k+4*i+1)) Y (nt (sr (mO (T.os 4 0 0 (((Yi Zu 4 k a i).map (Qg true)).length)) Y (mO (tN i) Y ?_)))))))))))
  refine mO (tN (k+4*i+1)) Y (cO (cS (vc (tv (tN (k+4*i+1)) Y) vn) (ZH Y) (Jr (n+0) (((k+4*i+1):Nat):Int) (by omega)) Y Y) (fO (B.indexAddrO (i:=i) (tv (T.os 4 0 0 (((Yi Zu 4 k a i).map (Qg true)).length)) Y) (tv (tN i) Y) Y (by (simp only [List.length_map];omega)) U72 ZQ YA) (fO (OF.fieldAddrP (tv (T.orp 4 0 i 0) Y) YU) (cO (B.storeP (us:= [(tS (JA (((k+4*i+1):Nat):Int)))]) (rows':=((((Yi Zu 4 k a i).set i (D.Step.mk ((k+4*i:Nat):Int) x1.Word x1.A x1.B)).set i (D.Step.mk ((k+4*i:Nat):Int) (JA (((k+4*i+1):Nat):Int)) x1.A x1.B)).map (Qg true))) (row:=(Qg true (D.Step.mk ((k+4*i:Nat):Int) x1.Word x1.A x1.B))) (tv (T.orp 4 0 i 1) Y) (tv (tS (JA (((k+4*i+1):Nat):Int))) Y) nofun Y (Qt _ (Qgg (by omega))) Y (lb Y) if9 sz9 (bc Y bn) (by intro r hr t ht;obtain ⟨x,_,rfl⟩:=List.mem_map.1 hr;rw [Qe5] at ht;exact ZD (okeStep.pl _ t ht)) (Zy Y)) (nt (sr (mO (tN (k+4*i+1)) Y (fO (QB (tv (tN (k+4*i+1)) Y) (VEv.int .i64 1) (by omega)) (aO (tN ((k+4*i+1)+1)) Y (nt (sr ?_)))))))))))
  refine mO (T.os 4 0 0 (((Yi Zu 4 k a i).map (Qg true)).length)) Y (mO (tN i) Y (mO (tN ((k+4*i+1)+1)) Y (fO (B.indexAddrO (i:=i) (tv (T.os 4 0 0 (((Yi Zu 4 k a i).map (Qg true)).length)) Y) (tv (tN i) Y) Y (by (simp only [List.length_map];omega)) U72 ZQ YA) (fO (OF.fieldAddrP (tv (T.orp 4 0 i 0) Y) Z4) (cO (B.storeP (us:= [(tN ((k+4*i+1)+1))]) (rows':=(((((Yi Zu 4 k a i).set i (D.Step.mk ((k+4*i:Nat):Int) x1.Word x1.A x1.B)).set i (D.Step.mk ((k+4*i:Nat):Int) (JA (((k+4*i+1):Nat):Int)) x1.A x1.B)).set i (D.Step.mk ((k+4*i:Nat):Int) (JA (((k+4*i+1):Nat):Int)) ((((k+4*i+1)+1):Nat):Int) x1.B)).map (Qg true))) (row:=(Qg true (D.Step.mk ((k+4*i:Nat):Int) (JA (((k+4*i+1):Nat):Int)) x1.A x1.B))) (tv (T.orp 4 0 i 2) Y) (tv (tN ((k+4*i+1)+1)) Y) nofun Y (Qt _ (Qgg (by (simp only [List.length_set];omega)))) Y (lb Y) YK Zl (bc Y bn) (by intro r hr t ht;obtain ⟨x,_,rfl⟩:=List.mem_map.1 hr;rw [Qe5] at ht;exact ZD (okeStep.pl _ t ht)) (Zy Y)) (nt (sr (mO (tN ((k+4*i+1)+1)) Y (fO (QB (tv (tN ((k+4*i+1)+1)) Y) (VEv.int .i64 1) (by omega)) (aO (tN (((k+4*i+1)+1)+1)) Y (nt ?_)))))))))))
  refine sr (mO (T.os 4 0 0 (((Yi Zu 4 k a i).map (Qg true)).length)) Y (mO (tN i) Y (mO (tN (((k+4*i+1)+1)+1)) Y (fO (B.indexAddrO (i:=i) (tv (T.os 4 0 0 (((Yi Zu 4 k a i).map (Qg true)).length)) Y) (tv (tN i) Y) Y (by (simp only [List.length_map];omega)) U72 ZQ YA) (fO (OF.fieldAddrP (tv (T.orp 4 0 i 0) Y) ZV) (cO (B.storeP (us:= [(tN (((k+4*i+1)+1)+1))]) (rows':=((((((Yi Zu 4 k a i).set i (D.Step.mk ((k+4*i:Nat):Int) x1.Word x1.A x1.B)).set i (D.Step.mk ((k+4*i:Nat):Int) (JA (((k+4*i+1):Nat):Int)) x1.A x1.B)).set i (D.Step.mk ((k+4*i:Nat):Int) (JA (((k+4*i+1):Nat):Int)) ((((k+4*i+1)+1):Nat):Int) x1.B)).set i (D.Step.mk ((k+4*i:Nat):Int) (JA (((k+4*i+1):Nat):Int)) ((((k+4*i+1)+1):Nat):Int) (((((k+4*i+1)+1)+1):Nat):Int))).map (Qg true))) (row:=(Qg true (D.Step.mk ((k+4*i:Nat):Int) (JA (((k+4*i+1):Nat):Int)) ((((k+4*i+1)+1):Nat):Int) x1.B))) (tv (T.orp 4 0 i 3) Y) (tv (tN (((k+4*i+1)+1)+1)) Y) nofun Y (Qt _ (Qgg (by (simp only [List.length_set];omega)))) Y (lb Y) YK Zl (bc Y bn) (by intro r hr t ht;obtain ⟨x,_,rfl⟩:=List.mem_map.1 hr;rw [Qe5] at ht;exact ZD (okeStep.pl _ t ht)) (Zy Y)) (nt (VRun.region (mO (tN (((k+4*i+1)+1)+1)) Y (fO (QB (tv (tN (((k+4*i+1)+1)+1)) Y) (VEv.int .i64 1) (by omega)) (aO (tN ((((k+4*i+1)+1)+1)+1)) Y ?_)))))))))))
  refine VRunO.nil (vinB.n (tn (VRun.region (mO (tN i) Y (fO (QB (tv (tN i) Y) (VEv.int .i64 1) (by omega)) (aO (tN (i+1)) Y (VRunO.nil (tn ?_))))))))
  have hi1:i+1≤a.length:=by omega
  have he2:(((((Yi Zu 4 k a i).set i (D.Step.mk ((k+4*i:Nat):Int) x1.Word x1.A x1.B)).set i (D.Step.mk ((k+4*i:Nat):Int) (JA (((k+4*i+1):Nat):Int)) x1.A x1.B)).set i (D.Step.mk ((k+4*i:Nat):Int) (JA (((k+4*i+1):Nat):Int)) ((((k+4*i+1)+1):Nat):Int) x1.B)).set i (D.Step.mk ((k+4*i:Nat):Int) (JA (((k+4*i+1):Nat):Int)) ((((k+4*i+1)+1):Nat):Int) (((((k+4*i+1)+1)+1):Nat):Int)))=Yi Zu 4 k a (i+1):=by (simp only [List.set_set];refine Qbl ?_;omega)
  refine ⟨(i+1:Nat),?_,?_,Wk.mk (fun k=>k) ?_ ?_ ?_⟩
  ·trivial
  ·omega
  ·exact (bc ⟨(congrArg (fun n_=>T.os 4 0 0 n_) (show ((Yi Zu 4 k a i).map (Qg true)).length=((Yi Zu 4 k a (i+1)).map (Qg true)).length from (by rw [List.length_map,List.length_map,Ju hI',Ju hi1]))),rfl⟩ (bc ⟨(congrArg (T.int .i64) (show ((((((k+4*i+1)+1)+1)+1):Nat):Int)=((k+4*(i+1):Nat):Int) from (by rfl))),rfl⟩ (b2 (b2 bn))))
  ·exact (bc ⟨(congrArg (fun l_=>some (Obj.rows 4 (List.map (Qg true) l_))) he2),(lb Y),rfl⟩ bn)
  ·exact nd Y
 refine VRun.exit (vthn.e (vthn.e (vinB.e (tn (sr (mO (tN (k+4*i)) Y (aO (tN (k+4*i)) Y (nt (rt ?_)))))))))
 refine vmut.r (r0:=((k+4*i:Nat):Int)) (rows:=((Yi Zu 4 k a i).map (Qg true))) Y Y Y ?_ ?_ Y
 ·(push_cast;omega)
 ·show List.map _ (Yi Zu 4 k a i)=List.map _ (Jm Zu 4 k a.length)
  refine congrArg (List.map _) ?_
  exact QgT hI' (by omega)
noncomputable section
def Yv (k:Nat):Int:=((k:Nat):Int)
end
theorem Qeg (n:Nat) (a:List Int) (k:Nat) (hk:k+1*a.length≤Zr):Mut (Qr Tryz.prog (n+1)) 42 1 (a.map (Qc true)) [(tN k)] (some ((k+1*a.length:Nat):Int)) ((Jm Yv 1 k a.length).map (Qc true)):=by
 refine Mut.intro (rt:=4) Tryz.func42 Y Y Y (by kernel_rfl) (ZP (fun _=>rfl) _) (ZP (fun _=>rfl) _) (E0:= [(1,(tN k))]) Y ?_
 obtain ⟨hlim,hmx,hmax⟩:=QE
 refine sr (fO (OF.assign (VEv.int .i64 0)) (nt (sq (sr (fO (OF.assign (VEv.int .i64 0)) (nt (VRun.block ?_)))))))
 have he1:a=Yi Yv 1 k a 0:=by rfl
 refine VRun.loop (A:=Nat) (fun s_=> [(0,(T.os 1 0 0 (((Yi Yv 1 k a s_).map (Qc true)).length))),(1,(tN (k+1*s_))),(4,(tN 0)),(5,(tN s_))]) (fun s_=>Q5 [(0,(Obj.rows 1 ((Yi Yv 1 k a s_).map (Qc true))))]) 1 (fun s_=>s_≤a.length) (fun s_=>a.length - s_) (0:Nat) ?_ (Wk.mk (fun k=>k) ?_ ?_ ?_) ?_
 ·(simp;done)
 ·exact (bc ⟨(congrArg (fun l_=>T.os 1 0 0 (List.map (Qc true) l_).length) he1),rfl⟩ (bc ⟨(congrArg (T.int .i64) (show ((k:Nat):Int)=((k+1*0:Nat):Int) from (by rfl))),rfl⟩ (b2 (b2 bn))))
 ·exact (bc ⟨(congrArg (fun l_=>some (Obj.rows 1 (List.map (Qc true) l_))) he1),(lb Y),rfl⟩ bn)
 ·exact nd Y
 rintro i (hI':i≤a.length)
 show VRun _ _ _ [(0,(T.os 1 0 0 (((Yi Yv 1 k a i).map (Qc true)).length))),(1,(tN (k+1*i))),(4,(tN 0)),(5,(tN i))] (Q5 [(0,(Obj.rows 1 ((Yi Yv 1 k a i).map (Qc true))))]) 1 _
 have hml:=Ju (f:=Yv) (w:=1) (k:=k) hI'
 refine sq (sr (mO (tN i) Y (mO (T.os 1 0 0 (((Yi Yv 1 k a i).map (Qc true)).length)) Y (lO (B.lenO (m:=(Yi Yv 1 k a i).length) (tv (T.os 1 0 0 (((Yi Yv 1 k a i).map (Qc true)).length)) Y) ZA (List.length_map ..)) (fO (Zg (tv (tN i) Y) (tv (tN ((Yi Yv 1 k a i).length)) Y)) (nt ?_))))))
 refine cd (i<(Yi Yv 1 k a i).length) Y (fun fhc0=> ?_) fun fhc0=> ?_
 ·refine sk ?_
  refine tn (sq (VRun.block (sr (mO (T.os 1 0 0 (((Yi Yv 1 k a i).map (Qc true)).length)) Y (mO (tN i) Y (mO (tN (k+1*i)) Y ?_))))))
  obtain ⟨x1,hx1⟩:∃x,(Yi Yv 1 k a i)[i]? =some x:=⟨_,List.getElem?_eq_getElem (by omega)⟩
  refine fO (B.indexAddrO (i:=i) (tv (T.os 1 0 0 (((Yi Yv 1 k a i).map (Qc true)).length)) Y) (tv (tN i) Y) Y (by (simp only [List.length_map];omega)) ZA Zl YK) (cO (B.storeP (us:= [(tN (k+1*i))]) (rows':=(((Yi Yv 1 k a i).set i ((k+1*i:Nat):Int)).map (Qc true))) (row:=(Qc true x1)) (tv (T.orp 1 0 i 0) Y) (tv (tN (k+1*i)) Y) nofun Y (Qt _ hx1) Y (lb Y) YK Zl (bc Y bn) (by intro r hr t ht;obtain ⟨x,_,rfl⟩:=List.mem_map.1 hr;rw [Ql3] at ht;exact ZD (okInt.pl _ t ht)) (Zy Y)) (nt (VRun.region (mO (tN (k+1*i)) Y (fO (QB (tv (tN (k+1*i)) Y) (VEv.int .i64 1) (by omega)) (aO (tN (k+1*i+1)) Y (VRunO.nil (vinB.n (tn (VRun.region (mO (tN i) Y ?_)))))))))))
  refine fO (QB (tv (tN i) Y) (VEv.int .i64 1) (by omega)) (aO (tN (i+1)) Y (VRunO.nil (tn ?_)))
  have hi1:i+1≤a.length:=by omega
  have he2:((Yi Yv 1 k a i).set i ((k+1*i:Nat):Int))=Yi Yv 1 k a (i+1):=by (refine Qbl ?_;omega)
  refine ⟨(i+1:Nat),?_,?_,Wk.mk (fun k=>k) ?_ ?_ ?_⟩
  ·trivial
  ·omega
  ·exact (bc ⟨(congrArg (fun n_=>T.os 1 0 0 n_) (show ((Yi Yv 1 k a i).map (Qc true)).length=((Yi Yv 1 k a (i+1)).map (Qc true)).length from (by rw [List.length_map,List.length_map,Ju hI',Ju hi1]))),rfl⟩ (bc ⟨(congrArg (T.int .i64) (show (((k+1*i+1):Nat):Int)=((k+1*(i+1):Nat):Int) from (by rfl))),rfl⟩ (b2 (b2 bn))))
  ·exact (bc ⟨(congrArg (fun l_=>some (Obj.rows 1 (List.map (Qc true) l_))) he2),(lb Y),rfl⟩ bn)
  ·exact nd Y
 refine VRun.exit (vthn.e (vthn.e (vinB.e (tn (sr (mO (tN (k+1*i)) Y (aO (tN (k+1*i)) Y (nt (rt ?_)))))))))
 refine vmut.r (r0:=((k+1*i:Nat):Int)) (rows:=((Yi Yv 1 k a i).map (Qc true))) Y Y Y ?_ ?_ Y
 ·(push_cast;omega)
 ·show List.map _ (Yi Yv 1 k a i)=List.map _ (Jm Yv 1 k a.length)
  refine congrArg (List.map _) ?_
  exact QgT hI' (by omega)
noncomputable section
def QS (c:D.Clue):Nat:=1+4*c.Play.length
def ZO (k:Nat) (c:D.Clue):D.Clue:=D.Clue.mk ((k:Nat):Int) (Jm Zu 4 (k+1) c.Play.length)
theorem Qi7 (k:Nat) (c:D.Clue):QS (ZO k c)=QS c:=by unfold QS ZO;simp only [Qm]
theorem QlB (k:Nat) (c:D.Clue):ZO k (ZO k c)=ZO k c:=by unfold ZO;simp only [Qm]
theorem Qlz (c:D.Clue):QS c≤5*(1+QO c):=by
 have:=Zb (z:=Zf) c.Play
 unfold QS QO
 omega
def ZU : Nat→List D.Clue→List D.Clue:=mkL ZO QS
def QK : Nat→List D.Clue→Nat:=Jl QS
theorem Qz (k:Nat) (l:List D.Clue):ZU k l=ZU k (ZU k l):=QhK Qi7 QlB k l
theorem Qd (k k2:Nat) (l:List D.Clue):QK k (ZU k2 l)=QK k l:=QhE Qi7 k k2 l
theorem Qip (k:Nat) (l:List D.Clue):QK k l≤k+5*zL QO l:=Qk4 Qlz k l
theorem QdL (k:Nat) (l:List D.Clue):(ZU k l).length=l.length:=QaJ k l
end
theorem Qc7 (n:Nat) (a:List D.Clue) (k:Nat) (hk:QK k a≤Zr):LoanM (Qr Tryz.prog (n+3)) 41 [(2,(a.map (Qe true)))] [(T.os 2 0 0 ((a.map (Qe true)).length)),(tN k)] (tN (QK k a)) [(2,((ZU k a).map (Qe true)))]:=by
 refine LoanM.intro (rs:= [ResultVar.tmp 4]) [(0,(T.os 2 0 0 ((a.map (Qe true)).length)))] Tryz.func41 Y Y Y Y (bc ⟨by kernel_rfl,rfl⟩ bn) (PinsTo.at (And.intro trivial ⟨_,(.head _),(.os _ _)⟩)) (.int _ _) (bc (okeClue.cleanMap _) bn) (E0:= [(0,(T.os 2 0 0 ((a.map (Qe true)).length))),(1,(tN k))]) Y (fun asg=> ?_)
 obtain ⟨hlim,hmx,hmax⟩:=QE
 show VRun _ _ _ [(0,(T.os 2 0 0 ((a.map (Qe true)).length))),(1,(tN k))] (Q5 [(0,(Obj.rowsN 2 (a.map (Qe true)) (asg 0)))]) 1 _
 have hk2:=hk
 unfold QK at hk2
 have hla:=Qi1 (w:=QS) (fun x=>Nat.le_add_right _ _) k a
 refine sr (fO (OF.assign (VEv.int .i64 0)) (nt (sq (sr (fO (OF.assign (VEv.int .i64 0)) (nt (VRun.block ?_)))))))
 have he1:a=mkT ZO QS k a 0:=by rfl
 refine VRun.loop (A:=Nat) (fun s_=> [(0,(T.os 2 0 0 (((mkT ZO QS k a s_).map (Qe true)).length))),(1,(tN (Jl QS k (a.take s_)))),(4,(tN 0)),(5,(tN s_))]) (fun s_=>Q5 [(0,(Obj.rowsN 2 ((mkT ZO QS k a s_).map (Qe true)) (asg 0)))]) 1 (fun s_=>s_≤a.length) (fun s_=>a.length - s_) (0:Nat) ?_ (Wk.mk (fun k=>k) ?_ ?_ ?_) ?_
 ·(simp;done)
 ·exact (bc ⟨(congrArg (fun l_=>T.os 2 0 0 (List.map (Qe true) l_).length) he1),rfl⟩ (bc ⟨(congrArg (T.int .i64) (show ((k:Nat):Int)=((Jl QS k (a.take 0):Nat):Int) from (by rfl))),rfl⟩ (b2 (b2 bn))))
 ·exact (bc ⟨(congrArg (fun l_=>some (Obj.rowsN 2 (List.map (Qe true) l_) (asg 0))) he1),(lb Y),rfl⟩ bn)
 ·exact nd Y
 rintro i (hI':i≤a.length)
 show VRun _ _ _ [(0,(T.os 2 0 0 (((mkT ZO QS k a i).map (Qe true)).length))),(1,(tN (Jl QS k (a.take i)))),(4,(tN 0)),(5,(tN i))] (Q5 [(0,(Obj.rowsN 2 ((mkT ZO QS k a i).map (Qe true)) (asg 0)))]) 1 _
 have hml:=Qem (f:=ZO) (w:=QS) k a i
 have hme:=QhR (w:=QS) k a i
 refine sq (sr (mO (tN i) Y (mO (T.os 2 0 0 (((mkT ZO QS k a i).map (Qe true)).length)) Y (lO (B.lenO (m:=(mkT ZO QS k a i).length) (tv (T.os 2 0 0 (((mkT ZO QS k a i).map (Qe true)).length)) Y) U34 (List.length_map ..)) (fO (Zg (tv (tN i) Y) (tv (tN ((mkT ZO QS k a i).length)) Y)) (nt ?_))))))
 refine cd (i<(mkT ZO QS k a i).length) Y (fun fhc0=> ?_) fun fhc0=> ?_
 ·refine sk ?_
  refine tn (sq (VRun.block (sr (mO (T.os 2 0 0 (((mkT ZO QS k a i).map (Qe true)).length)) Y (mO (tN i) Y (mO (tN (Jl QS k (a.take i))) Y ?_))))))
  obtain ⟨x1,hx1⟩:∃x,(mkT ZO QS k a i)[i]? =some x:=⟨_,List.getElem?_eq_getElem (by omega)⟩
  (have hy1:=Qmd (show i<a.length by omega) hx1;have hnx:=Qk8 (w:=QS) (k:=k) hy1;have hnt:=QhR (w:=QS) k a (i+1);have hw2:QS x1=1+4*x1.Play.length:=rfl)
  refine fO (B.indexAddrO (i:=i) (tv (T.os 2 0 0 (((mkT ZO QS k a i).map (Qe true)).length)) Y) (tv (tN i) Y) Y (by (simp only [List.length_map];omega)) U34 Jj Qd1) (fO (OF.fieldAddrP (tv (T.orp 2 0 i 0) Y) Qa2) (cO (B.storeN (t0:=(tI x1.Sense)) (rows':=(((mkT ZO QS k a i).set i (D.Clue.mk ((Jl QS k (a.take i):Nat):Int) x1.Play)).map (Qe true))) (row:=(Qe true x1)) (tv (T.orp 2 0 i 0) Y) (tv (tN (Jl QS k (a.take i))) Y) Y Y (Qt _ hx1) Y Y YK Zl (Zy Y)) (nt (sr (mO (tN (Jl QS k (a.take i))) Y (fO (QB (tv (tN (Jl QS k (a.take i))) Y) (VEv.int .i64 1) (by omega)) (aO (tN (Jl QS k (a.take i)+1)) Y (nt (VRun.region (mO (T.os 2 0 0 (((mkT ZO QS k a i).map (Qe true)).length)) Y (mO (tN i) Y ?_)))))))))))
  refine fO (B.indexAddrO (i:=i) (tv (T.os 2 0 0 (((mkT ZO QS k a i).map (Qe true)).length)) Y) (tv (tN i) Y) Y (by (simp only [List.length_map];omega)) U34 Jj Qd1) (fO (OF.fieldAddrP (tv (T.orp 2 0 i 0) Y) Qa5) (VRunO.nest (row:=(Qe true (D.Clue.mk ((Jl QS k (a.take i):Nat):Int) x1.Play))) (rs:=(x1.Play.map (Qg true))) (rs':=((Jm Zu 4 (Jl QS k (a.take i)+1) x1.Play.length).map (Qg true))) (rows':=((((mkT ZO QS k a i).set i (D.Clue.mk ((Jl QS k (a.take i):Nat):Int) x1.Play)).set i (D.Clue.mk ((Jl QS k (a.take i):Nat):Int) (Jm Zu 4 (Jl QS k (a.take i)+1) x1.Play.length))).map (Qe true))) (n:=(((Jl QS k (a.take i)+1):Nat):Int)) (r:=(((Jl QS k (a.take i)+1)+4*x1.Play.length:Nat):Int)) Y (tv (T.orp 2 0 i 1) Y) Y (Qt _ (Qgg (by omega))) Y Qie (tv (tN (Jl QS k (a.take i)+1)) Y) Y (Qdh (n+0) x1.Play (Jl QS k (a.take i)+1) (by omega)) (okeStep.cleanMap _) (Zy Y) (aO (tN ((Jl QS k (a.take i)+1)+4*x1.Play.length)) Y (VRunO.nil (vinB.n (tn (VRun.region (mO (tN i) Y (fO (QB (tv (tN i) Y) (VEv.int .i64 1) (by omega)) (aO (tN (i+1)) Y (VRunO.nil ?_)))))))))))
  refine tn ?_
  have he2:(((mkT ZO QS k a i).set i (D.Clue.mk ((Jl QS k (a.take i):Nat):Int) x1.Play)).set i (D.Clue.mk ((Jl QS k (a.take i):Nat):Int) (Jm Zu 4 (Jl QS k (a.take i)+1) x1.Play.length)))=mkT ZO QS k a (i+1):=by (rw [List.set_set];exact QlV hy1 Y)
  refine ⟨(i+1:Nat),?_,?_,Wk.mk (fun k=>k) ?_ ?_ ?_⟩
  ·omega
  ·omega
  ·exact (bc ⟨(congrArg (fun n_=>T.os 2 0 0 n_) (show ((mkT ZO QS k a i).map (Qe true)).length=((mkT ZO QS k a (i+1)).map (Qe true)).length from (by rw [List.length_map,List.length_map,Qem,Qem]))),rfl⟩ (bc ⟨(congrArg (T.int .i64) (show (((Jl QS k (a.take i)+1)+4*x1.Play.length:Nat):Int)=((Jl QS k (a.take (i+1)):Nat):Int) from (by omega))),rfl⟩ (b2 (b2 bn))))
  ·exact (bc ⟨(congrArg (fun l_=>some (Obj.rowsN 2 (List.map (Qe true) l_) (asg 0))) he2),(lb Y),rfl⟩ bn)
  ·exact nd Y
 refine VRun.exit (vthn.e (vthn.e (vinB.e (tn (sr (mO (tN (Jl QS k (a.take i))) Y (aO (tN (Jl QS k (a.take i))) Y (nt (rt ?_)))))))))
 have hnew0:mkT ZO QS k a i=ZU k a:=by
  exact QjS (by omega)
 exact vloanM.r (L1:= [(2,((mkT ZO QS k a i).map (Qe true)))]) (fun k=>k) (VRes.tmp (t:=(tN (Jl QS k (a.take i)))) Y VRes.nil) (congrArg (T.int .i64) (show ((Jl QS k (a.take i):Nat):Int)=((QK k a:Nat):Int) by rw [List.take_of_length_le (by omega)];rfl)) (bc (congrArg (fun n_=>T.os 2 0 0 n_) (show ((mkT ZO QS k a i).map (Qe true)).length=(a.map (Qe true)).length from (by rw [List.length_map,List.length_map,Qem]))) bn) (And.intro Y (trivial)) (by rw [hnew0])
noncomputable section
theorem Qgu {ok:Nat→Prop} [DecidablePred ok]:∀(f n k:Nat),n≤k→k<Qaa ok f n→ok k
 | 0,n,k,h1,h2=>by simp only [Qaa] at h2;omega
 | f+1,n,k,h1,h2=>by
  simp only [Qaa] at h2
  split at h2
  ·by_cases e:k=n
   ·subst e;assumption
   ·exact Qgu f (n+1) k (by omega) h2
  ·omega
theorem Qk7 {g:D.Grid} {cell k:Nat} {down:Bool} (hg:gridOk g) (hc:cell<g.Cells.size) (hk:k<Qp g cell down):0≤((cell:Nat):Int)+((k:Nat):Int)*(if down=true then g.Cols else 1)∧((cell:Nat):Int)+((k:Nat):Int)*(if down=true then g.Cols else 1)<((g.Cells.size:Nat):Int):=by
 have hB:=hg.2.1
 obtain ⟨_,_,_,h4,h5⟩:=Qbt hg hc
 unfold Qp at hk
 cases down with
 | true =>
  rw [if_pos Y] at hk
  unfold Qgf at hk
  split at hk
  ·have h1:=Qgu _ _ k (Nat.zero_le _) hk
   have h2:=h5 k h1.1
   have h3:0≤((k:Nat):Int)*g.Cols:=Int.mul_nonneg (by omega) (by omega)
   rw [if_pos Y]
   omega
  ·omega
 | false =>
  rw [if_neg (by simp)] at hk
  unfold QfT at hk
  split at hk
  ·have h1:=Qgu _ _ k (Nat.zero_le _) hk
   have h2:=h4 k h1.1
   rw [if_neg (by simp),Int.mul_one]
   omega
  ·omega
theorem Qdy (g:D.Grid):∀i,∀s∈(Qf g i).1,∃c:Nat,c<i∧s.Cell=((c:Nat):Int)∧s.Length=((Qp g c s.Down:Nat):Int)
 | 0,s,hs=>by simp [Qf] at hs
 | i+1,s,hs=>by
  rw [Yx,List.mem_append,List.mem_append] at hs
  rcases hs with (hs | hs) | hs
  ·obtain ⟨c,h1,h2⟩:=Qdy g i s hs
   exact ⟨c,by omega,h2⟩
  ·split at hs
   ·obtain rfl:=List.mem_singleton.1 hs
    exact ⟨i,by omega,rfl,rfl⟩
   ·cases hs
  ·split at hs
   ·obtain rfl:=List.mem_singleton.1 hs
    exact ⟨i,by omega,rfl,rfl⟩
   ·cases hs
theorem Qf7 {g:D.Grid} {s:D.Slot} {c:Int} (hs:s∈Qa g) (hc:c∈Qk g s s.Length.toNat):0≤c∧c<((g.Cells.size:Nat):Int):=by
 have hg:=(Qat hs).1
 unfold Qa at hs
 rw [if_pos hg] at hs
 obtain ⟨c0,h1,h2,h3⟩:=Qdy g _ s hs
 unfold Qk at hc
 obtain ⟨k,hk,rfl⟩:=List.mem_map.1 hc
 rw [List.mem_range] at hk
 have:=Qk7 (down:=s.Down) hg h1 (k:=k) (by omega)
 rw [h2]
 unfold Qes
 exact this
def Y2 (f:ByteArray) (l:List Int):List Int:=l.map fun c=>Qw f (Int.toNat c)
theorem Qjt {f:ByteArray} {l:List Int} {i:Nat} {c:Int} (h:l[i]? =some c):Y2 f (l.take i)++ [Qw f (Int.toNat c)]=Y2 f (l.take (i+1)):=by
 unfold Y2
 rw [List.take_add_one,h,Option.toList_some,List.map_append];rfl
theorem Qkl (f:ByteArray) (l:List Int):(Y2 f l).length=l.length:=by simp [Y2]
def JI (f:ByteArray) (l:List Int):ByteArray:=Z2 (Y2 f l)
theorem QkV {f:ByteArray} {l:List Int} {i:Nat} {c:Int} (h:l[i]? =some c) (h1:0≤c∧c<((f.size:Nat):Int)):JI f (l.take (i+1))=JI f (l.take i)++f.extract (Int.toNat c) (Int.toNat (c+1)):=by
 have hc:Int.toNat c<f.data.toList.length:=by rw [Array.length_toList];show Int.toNat c<f.size;omega
 refine QfV ?_
 unfold JI Y2
 rw [List.take_add_one,h,Option.toList_some,List.map_append,Jz,ByteArray.data_append,Array.toList_append,Jz,List.map_append]
 congr 1
 rw [ByteArray.data_extract,Array.toList_extract,List.extract_eq_take_drop,show Int.toNat (c+1) - Int.toNat c=1 by omega,List.drop_eq_getElem_cons hc]
 have hb:Qw f (Int.toNat c)=((f.data.toList[Int.toNat c]).toNat:Int):=by
  rw [← YP (show Int.toNat c<f.size by omega)];rfl
 simp [hb]
theorem QhG (f:ByteArray) (l:List Int):(JI f l).size=l.length:=by
 show (JI f l).data.size=_
 rw [← Array.length_toList]
 unfold JI Y2
 rw [Jz]
 simp
def Ym (g:D.Grid) (f:ByteArray) (slot:Int):ByteArray:=if 0≤slot then (match (Qa g)[slot.toNat]? with | some s=>if Q2 g f then JI f (Qk g s s.Length.toNat) else ⟨#[]⟩ | none=>⟨#[]⟩) else ⟨#[]⟩
theorem Qir {g:D.Grid} {f:ByteArray} {slot:Int} (h:¬Q2 g f∨¬(0≤slot∧slot≤(((Qa g).length:Nat):Int) - 1)):Ym g f slot=⟨#[]⟩:=by
 unfold Ym
 by_cases h0:0≤slot
 ·rw [if_pos h0]
  cases hs:(Qa g)[slot.toNat]? with
  | none=>rfl
  | some s =>
   have:=(List.getElem?_eq_some_iff.1 hs).1
   simp only
   rw [if_neg]
   rcases h with h | h
   ·exact h
   ·exact absurd ⟨h0,by omega⟩ h
 ·rw [if_neg h0]
theorem Qfa {g:D.Grid} {f:ByteArray} {slot:Int} {s:D.Slot} (h0:0≤slot) (hs:(Qa g)[slot.toNat]? =some s) (hf:Q2 g f):Ym g f slot=JI f (Qk g s s.Length.toNat):=by
 unfold Ym
 rw [if_pos h0,hs]
 exact if_pos hf
def Yd (g:D.Grid) (f:ByteArray):List ByteArray:=if Q2 g f then (QJ g).map (JI f) else []
theorem QkD {g:D.Grid} {f:ByteArray} {i:Nat} {x:ByteArray} (h:(Yd g f)[i]? =some x):x=Ym g f ((i:Nat):Int):=by
 unfold Yd at h
 split at h
 ·rename_i hf
  rw [List.getElem?_map] at h
  obtain ⟨y,h1,rfl⟩:=Option.map_eq_some_iff.1 h
  obtain ⟨s,h2,rfl⟩:=QeH h1
  exact (Qfa (by omega) h2 hf).symm
 ·simp at h
theorem Qf0 {g:D.Grid} {f:ByteArray} (h:Q2 g f):(Yd g f).length=(Qa g).length:=by
 unfold Yd
 rw [if_pos h,List.length_map,Qav]
theorem Qmi {g:D.Grid} {s:D.Slot} {f:ByteArray} {i:Nat} {c:Int} (hf:Q2 g f) (h:(if s∈Qa g then Qk g s s.Length.toNat else [])[i]? =some c):0≤c∧c<((f.size:Nat):Int):=by
 have hm:=List.mem_of_getElem? h
 split at hm
 ·rename_i hs
  have:=Qf7 hs hm
  have:=hf.2.1
  omega
 ·cases hm
end
theorem Qb7 (n:Nat) (g:D.Grid) (f:ByteArray) (slot:Int) (hc:g.Cells.size≤maxLen) (hf:f.size≤maxLen):Pure (Qr Tryz.prog (n+5)) 122 [(T.agg (Qb false g)),(tS f),(tI slot)] (tS (Ym g f slot)):=by
 refine Pure.intro (rs:= [ResultVar.tmp 6]) Tryz.func122 Y Y Y (E0:= [(0,(T.agg (Qb false g))),(1,(tS f)),(2,(tI slot))]) Y ?_
 obtain ⟨hlim,hmx,hmax⟩:=QE
 have hsl:=Zh g
 refine sr (kO (B.box (ts:=(Qb false g)) (tv (T.agg (Qb false g)) Y) nofun Y) (fO (OF.assign (VEv.str (⟨#[]⟩:ByteArray))) (nt (sr (lO (OL.loadOn (us:=(Qb false g)) (tv (T.op 0 0) Y) Y Q3 QY (lb Y) Y) (cO (OC.callF (r':=(T.os 4 1 0 (((Qa g).map (Qi true)).length))) (objs:= [(Obj.rows 4 ((Qa g).map (Qi true)))]) Y (vc (tv (T.agg (Qb false g)) Y) vn) (LendL.cons (lg Qs) ln) (Zw (n+1) g (by assumption)) Y) (aO (T.os 4 1 0 (((Qa g).map (Qi true)).length)) Y (nt (sq (sr (lO (OL.loadOn (us:=(Qb false g)) (tv (T.op 0 0) Y) Y Q3 QY (lb Y) Y) ?_)))))))))))
 refine mO (tS f) Y (cO (cS (vc (tv (T.agg (Qb false g)) Y) (vc (tv (tS f) Y) vn)) (LendL.cons (lg Qs) (lp Y ln)) (Qab (n+1) g f (by assumption) (by assumption)) Y Y) (fO (Q8 (tv (tB (decide (Q2 g f))) Y)) (mO (tB (!(decide (Q2 g f)))) Y ?_)))
 refine VRunO.joinB 7 [18,19,20,21,22,23] 24 (tB (decide ((¬(Q2 g f))∨(¬(0≤slot∧slot≤((((Qa g).length:Nat):Int) - 1)))))) ?_ ?_
 ·refine gn (Q2 g f) (fun fhg17_1=> ?_) fun fhg17_1=> ?_
  ·refine QA 6 4 false 17 (ny fhg17_1) Y Y Y ?_
   refine fO (OF.pickT (VEv.tmpB Y (ny fhg17_1)) (VEv.bool true)) (VRunO.nil ?_)
   exact jq (congrArg T.bool (kOT fhg17_1)) (js Y (js Y (js Y (js Y (js Y (js Y (jn)))))))
  ·refine gF (nz fhg17_1) Y Y (OF.move (tv (tI slot) Y)) ?_
   refine gF (nz fhg17_1) Y Y (OF.move (tv (T.os 4 1 0 (((Qa g).map (Qi true)).length)) Y)) (gL (nz fhg17_1) Y Y (B.lenO (m:=(Qa g).length) (tv (T.os 4 1 0 (((Qa g).map (Qi true)).length)) Y) U81 (List.length_map ..)) (gF (nz fhg17_1) Y Y (B.sub (n:=((((Qa g).length:Nat):Int) - 1)) (tv (tN ((Qa g).length)) Y) (VEv.int .i64 1) (by (rw [Qq (by omega)];done))) (VRunO.chain (VWant.on Y Y (nz fhg17_1)) (cS (vc (tv (tI slot) Y) (vc (VEv.int .i64 0) (vc (tv (tI ((((Qa g).length:Nat):Int) - 1)) Y) vn))) (ZH Y) (QZ (n+3) slot 0 ((((Qa g).length:Nat):Int) - 1)) Y Y) (gF (nz fhg17_1) Y Y (Q8 (tv (tB (decide (0≤slot∧slot≤((((Qa g).length:Nat):Int) - 1)))) Y)) (fO (OF.pickF (VEv.tmpB Y (nz fhg17_1)) (tv (tB (!(decide (0≤slot∧slot≤((((Qa g).length:Nat):Int) - 1))))) Y)) (VRunO.nil ?_))))))
   exact jq (congrArg T.bool (kOF (not_not_intro fhg17_1) dN)) (js Y (js Y (js Y (js Y (js Y (js Y (jn)))))))
 refine nt ?_
 refine cd ((¬(Q2 g f))∨(¬(0≤slot∧slot≤((((Qa g).length:Nat):Int) - 1)))) Y (fun fhc0=> ?_) fun fhc0=> ?_
 ·refine sr ?_
  refine fO (OF.assign (VEv.str (⟨#[]⟩:ByteArray))) (nt (rt (tr ?_)))
  refine vfin.eq (r':=(tS (⟨#[]⟩:ByteArray))) ?_ (vfin.r (VRes.tmp (t:=(tS (⟨#[]⟩:ByteArray))) Y VRes.nil) (Give.str _))
  refine congrArg T.str ?_
  exact (Qir fhc0).symm
 have hs0:0≤slot∧slot≤(((Qa g).length:Nat):Int) - 1:=Classical.byContradiction fun h=>fhc0 (.inr h)
 have hfi:Q2 g f:=Classical.byContradiction fun h=>fhc0 (.inl h)
 have hsz:=hfi.1.size
 refine sk (tn (sr (fO (OF.assign (VEv.str (⟨#[]⟩:ByteArray))) (nt (sq (VRun.draw (B:= [[],[],[],[2,1],[1,2,3],[3,2,1,4,0],[0,4,1,2,3,5]]) (by kernel_rfl) (by kernel_rfl) (lD (OL.loadOn (us:=(Qb false g)) (tv (T.op 0 0) Y) Y Q3 QY (lb Y) Y) Y Y (mD (T.os 4 1 0 (((Qa g).map (Qi true)).length)) Y Y (mD (tI slot) Y Y ?_)))))))))
 obtain ⟨x1,hx1⟩:∃x,(Qa g)[(Int.toNat slot)]? =some x:=⟨_,List.getElem?_eq_getElem (by omega)⟩
 skip
 refine fD (B.indexAddrO (i:=(Int.toNat slot)) (tv (T.os 4 1 0 (((Qa g).map (Qi true)).length)) Y) (tv (tI slot) Y) (by omega) (by (simp only [List.length_map];omega)) U81 Yb Qef) Y Y (lD (OL.loadPn (us:=(Qi false x1)) (row:=(Qi true x1)) (tv (T.orp 4 1 (Int.toNat slot) 0) Y) Y (Qt _ hx1) QgC Yb (lb Y) Y (bc Y (bc Y (bc Y (bc Y bn))))) Y Y (VRunD.quiet (bi:= [3,2,1,4,0]) Y VWant.always Y Y Y bn (OC.callF (r':=(T.os 1 2 0 (((if x1∈Qa g then Qk g x1 x1.Length.toNat else []).map (Qc true)).length))) (objs:= [(Obj.rows 1 ((if x1∈Qa g then Qk g x1 x1.Length.toNat else []).map (Qc true)))]) Y (vc (tv (T.agg (Qb false g)) Y) (vc (tv (T.agg (Qi false x1)) Y) vn)) (LendL.cons (lg Qs) (LendL.cons (lg okeSlot) ln)) (JO (n+0) g x1 (by assumption)) Y) (fD (OF.assign (tv (T.os 1 2 0 (((if x1∈Qa g then Qk g x1 x1.Length.toNat else []).map (Qc true)).length)) Y)) Y Y (VRunD.nil (tn (sq (sr (fO (OF.assign (VEv.int .i64 0)) (nt (VRun.block ?_))))))))))
 refine VRun.loop (A:=Nat) (fun s_=> [(1,(tS f)),(6,(tS (⟨#[]⟩:ByteArray))),(8,(tS (JI f ((if x1∈Qa g then Qk g x1 x1.Length.toNat else []).take s_)))),(9,(T.os 1 0 0 (((if x1∈Qa g then Qk g x1 x1.Length.toNat else []).map (Qc true)).length))),(10,(tN s_))]) (fun s_=>Q5 [(0,(Obj.rows 1 ((if x1∈Qa g then Qk g x1 x1.Length.toNat else []).map (Qc true))))]) 1 (fun s_=>s_≤(if x1∈Qa g then Qk g x1 x1.Length.toNat else []).length) (fun s_=>(if x1∈Qa g then Qk g x1 x1.Length.toNat else []).length - s_) (0:Nat) ?_ (Wk.mk (fun k=>if k=0 then 2 else k) ?_ ?_ ?_) ?_
 ·(simp;done)
 ·exact (b2 (b2 (bc ⟨(congrArg T.str (show (⟨#[]⟩:ByteArray)=JI f ((if x1∈Qa g then Qk g x1 x1.Length.toNat else []).take 0) from (by rfl))),rfl⟩ (b2 (b2 bn)))))
 ·exact (b3 bn)
 ·exact nd Y
 rintro i (hI':i≤(if x1∈Qa g then Qk g x1 x1.Length.toNat else []).length)
 show VRun _ _ _ [(1,(tS f)),(6,(tS (⟨#[]⟩:ByteArray))),(8,(tS (JI f ((if x1∈Qa g then Qk g x1 x1.Length.toNat else []).take i)))),(9,(T.os 1 0 0 (((if x1∈Qa g then Qk g x1 x1.Length.toNat else []).map (Qc true)).length))),(10,(tN i))] (Q5 [(0,(Obj.rows 1 ((if x1∈Qa g then Qk g x1 x1.Length.toNat else []).map (Qc true))))]) 1 _
 have hI1:=hI'
 have hl6:=QgX g x1
 have hps:=QhG f ((if x1∈Qa g then Qk g x1 x1.Length.toNat else []).take i)
 have htl:=Yt (if x1∈Qa g then Qk g x1 x1.Length.toNat else []) i
 refine sq (sr (mO (tN i) Y (mO (T.os 1 0 0 (((if x1∈Qa g then Qk g x1 x1.Length.toNat else []).map (Qc true)).length)) Y (lO (B.lenO (m:=(if x1∈Qa g then Qk g x1 x1.Length.toNat else []).length) (tv (T.os 1 0 0 (((if x1∈Qa g then Qk g x1 x1.Length.toNat else []).map (Qc true)).length)) Y) ZA (List.length_map ..)) (fO (Zg (tv (tN i) Y) (tv (tN ((if x1∈Qa g then Qk g x1 x1.Length.toNat else []).length)) Y)) (nt ?_))))))
 refine cd (i<(if x1∈Qa g then Qk g x1 x1.Length.toNat else []).length) Y (fun fhc1=> ?_) fun fhc1=> ?_
 ·refine sk ?_
  refine tn (sq (VRun.block (VRun.draw (B:= [[],[],[],[],[3,2],[2,3,4],[],[],[7,6],[6,7,8],[8,7,6,9],[9,6,7,8,10,4,3,2,5,1],[1,5,2,3,4,10,8,7,6,9,11,0],[0,11,9,6,7,8,10,4,3,2,5,1,12]]) (by kernel_rfl) (by kernel_rfl) (mD (tS (JI f ((if x1∈Qa g then Qk g x1 x1.Length.toNat else []).take i))) Y Y (mD (tS f) Y Y (mD (T.os 1 0 0 (((if x1∈Qa g then Qk g x1 x1.Length.toNat else []).map (Qc true)).length)) Y Y (mD (tN i) Y Y ?_)))))))
  obtain ⟨x2,hx2⟩:∃x,(if x1∈Qa g then Qk g x1 x1.Length.toNat else [])[i]? =some x:=⟨_,List.getElem?_eq_getElem (by omega)⟩
  have hcb:=Qmi hfi hx2
  refine fD (B.indexAddrO (i:=i) (tv (T.os 1 0 0 (((if x1∈Qa g then Qk g x1 x1.Length.toNat else []).map (Qc true)).length)) Y) (tv (tN i) Y) Y (by (simp only [List.length_map];omega)) ZA Zl YK) Y Y (lD (OL.loadP1 (t:=(tI x2)) (row:=(Qc true x2)) (tv (T.orp 1 0 i 0) Y) Y (Qt _ hx2) Y Y QX) Y Y (mD (T.os 1 0 0 (((if x1∈Qa g then Qk g x1 x1.Length.toNat else []).map (Qc true)).length)) Y Y (mD (tN i) Y Y (fD (B.indexAddrO (i:=i) (tv (T.os 1 0 0 (((if x1∈Qa g then Qk g x1 x1.Length.toNat else []).map (Qc true)).length)) Y) (tv (tN i) Y) Y (by (simp only [List.length_map];omega)) ZA Zl YK) Y Y (lD (OL.loadP1 (t:=(tI x2)) (row:=(Qc true x2)) (tv (T.orp 1 0 i 0) Y) Y (Qt _ hx2) Y Y QX) Y Y (fD (B.add (n:=(x2+1)) (tv (tI x2) Y) (VEv.int .i64 1) (by (rw [Qq (by omega)];done))) Y Y (lD (OL.sliceS (i:=(Int.toNat x2)) (j:=(Int.toNat (x2+1))) (tv (tS f) Y) (tv (tI x2) Y) (tv (tI (x2+1)) Y) (by omega) (by omega) (by omega) (by omega) U9) Y Y (fD (B.sadd (tv (tS (JI f ((if x1∈Qa g then Qk g x1 x1.Length.toNat else []).take i))) Y) (tv (tS (f.extract (Int.toNat x2) (Int.toNat (x2+1)))) Y) (by (simp only [ByteArray.size_extract];omega))) Y Y (fD (OF.assign (tv (tS (JI f ((if x1∈Qa g then Qk g x1 x1.Length.toNat else []).take i)++(f.extract (Int.toNat x2) (Int.toNat (x2+1))))) Y)) Y Y (VRunD.nil (vinB.n ?_)))))))))))
  refine tn (VRun.region (mO (tN i) Y (fO (QB (tv (tN i) Y) (VEv.int .i64 1) (by omega)) (aO (tN (i+1)) Y (VRunO.nil (tn ?_))))))
  refine ⟨(i+1:Nat),?_,?_,Wk.mk (fun k=>k) ?_ ?_ ?_⟩
  ·trivial
  ·omega
  ·exact (b2 (b2 (bc ⟨(congrArg T.str (show (JI f ((if x1∈Qa g then Qk g x1 x1.Length.toNat else []).take i)++(f.extract (Int.toNat x2) (Int.toNat (x2+1))))=JI f ((if x1∈Qa g then Qk g x1 x1.Length.toNat else []).take (i+1)) from (by exact (QkV hx2 hcb).symm))),rfl⟩ (b2 (b2 bn)))))
  ·exact (b3 bn)
  ·exact nd Y
 refine VRun.exit (vthn.e (vthn.e (vinB.e (tn (sr (mO (tS (JI f ((if x1∈Qa g then Qk g x1 x1.Length.toNat else []).take i))) Y (aO (tS (JI f ((if x1∈Qa g then Qk g x1 x1.Length.toNat else []).take i))) Y (nt (rt ?_)))))))))
 refine vfin.eq (r':=(tS (JI f ((if x1∈Qa g then Qk g x1 x1.Length.toNat else []).take i)))) ?_ (vfin.r (VRes.tmp (t:=(tS (JI f ((if x1∈Qa g then Qk g x1 x1.Length.toNat else []).take i)))) Y VRes.nil) (Give.str _))
 refine congrArg T.str ?_
 rw [Qfa hs0.1 hx1 hfi,YV hI1 fhc1,Qgs hx1]
theorem Qdt (n:Nat) (f:ByteArray) (l:List Int) (hl:l.length≤64) (hb:∀c∈l,0≤c∧c<((f.size:Nat):Int)):Pure (Qr Tryz.prog (n+1)) 146 [(tS f),(rd 1 Qc l)] (tS (JI f l)):=by
 refine Pure.intro (rs:= [ResultVar.tmp 4]) Tryz.func146 Y Y Y (E0:= [(0,(tS f)),(1,(rd 1 Qc l))]) Y ?_
 obtain ⟨hlim,hmx,hmax⟩:=QE
 refine sr (fO (OF.assign (VEv.str (⟨#[]⟩:ByteArray))) (nt (sr (fO (OF.assign VEv.nils) (nt (sq (sr (mO (rd 1 Qc l) Y (lO (B.lenR (m:=l.length) (tv (rd 1 Qc l) Y) ZA (List.length_map ..)) (fO (OF.move (VEv.int .i64 0)) (nt ?_)))))))))))
 refine VRun.block (VRun.wk (Wk.phantom 5 1 Y) ?_)
 have he1: []=((Y2 f (l.take 0)).map (QW true)):=by rfl
 refine VRun.loop (A:=Nat) (fun s_=> [(0,(tS f)),(4,(tS (⟨#[]⟩:ByteArray))),(5,(T.os 1 0 0 (((Y2 f (l.take s_)).map (QW true)).length))),(8,(rd 1 Qc l)),(9,(tN l.length)),(10,(tN s_))]) (fun s_=>Q5 [(0,(Obj.rows 1 ((Y2 f (l.take s_)).map (QW true))))]) 1 (fun s_=>s_≤l.length) (fun s_=>l.length - s_) (0:Nat) ?_ (Wk.mk (fun k=>k) ?_ ?_ ?_) ?_
 ·(simp;done)
 ·exact (b2 (b2 (bc ⟨(congrArg (fun n_=>T.os 1 0 0 n_) (show 0=((Y2 f (l.take 0)).map (QW true)).length from (by rfl))),rfl⟩ (b2 (b2 (b2 bn))))))
 ·exact (bc ⟨(congrArg (fun l_=>some (Obj.rows 1 l_)) he1),(lb Y),rfl⟩ bn)
 ·exact nd Y
 rintro i (hI':i≤l.length)
 show VRun _ _ _ [(0,(tS f)),(4,(tS (⟨#[]⟩:ByteArray))),(5,(T.os 1 0 0 (((Y2 f (l.take i)).map (QW true)).length))),(8,(rd 1 Qc l)),(9,(tN l.length)),(10,(tN i))] (Q5 [(0,(Obj.rows 1 ((Y2 f (l.take i)).map (QW true))))]) 1 _
 have hI1:=hI'
 have htl:=Yt l i
 have hcl:=Qkl f (l.take i)
 refine sr (fO (Zg (tv (tN i) Y) (tv (tN l.length) Y)) (nt (sq ?_)))
 refine cd (i<l.length) Y (fun fhc0=> ?_) fun fhc0=> ?_
 ·refine sk ?_
  refine tn (sq (VRun.block (sr ?_)))
  obtain ⟨x1,hx1⟩:∃x,l[i]? =some x:=⟨_,List.getElem?_eq_getElem (by omega)⟩
  have hbx:=hb _ (List.mem_of_getElem? hx1)
  refine fO (OF.indexAddrR (row:=(Qc false x1)) (i:=i) (tv (rd 1 Qc l) Y) (tv (tN i) Y) Y (Qt _ hx1) ZA Zl YK) (lO (OL.loadR1 (t:=(tI x1)) (tv (T.rp [(tI x1)]) Y) Y QX) (aO (tI x1) Y (nt (VRun.region (mO (T.os 1 0 0 (((Y2 f (l.take i)).map (QW true)).length)) Y (mO (tS f) Y (mO (tI x1) Y ?_)))))))
  have hb2:(Int.toNat x1)<f.size:=(by omega)
  refine fO (B.index (n:=(Qw f (Int.toNat x1))) (i:=(Int.toNat x1)) (tv (tS f) Y) (tv (tI x1) Y) (by omega) hb2 U9 (YP hb2)) (kO (OM.buildSlice (l:= [(T.int .u8 (Qw f (Int.toNat x1)))]) (VEvp.cons (tv (T.int .u8 (Qw f (Int.toNat x1))) Y) VEvp.nil) Y (by decide) (bc (nofun) bn) (bc ((bc (Y) bn)) bn) (bc (Y) bn) U92 zo5 (by kernel_rfl) Y (by rw [sz5];decide) sz5 (Nat.le_of_ble_eq_true Y)) (cO (B.append (rows:=((Y2 f (l.take i)).map (QW true))) (rows2:= [[(T.int .u8 (Qw f (Int.toNat x1)))]]) (rows3:=((Y2 f (l.take i)++ [Qw f (Int.toNat x1)]).map (QW true))) (VDst.own (tv (T.os 1 0 0 (((Y2 f (l.take i)).map (QW true)).length)) Y) Y Y) (VSrc.own (tv (T.os 1 1 0 1) Y) Y Y U92 (bc (bc Y bn) bn)) (by decide) U92 sz5 (by decide) zo5 Y (of_decide_eq_true (by kernel_rfl)) (by (simp only [List.length_map,List.length_append,List.length_cons,List.length_nil,List.length_replicate,List.length_set,List.length_drop,List.length_take,Zr] at *;omega)) ((List.map_append (f:=QW true) (l₁:=Y2 f (l.take i)) (l₂:= [Qw f (Int.toNat x1)])).symm)) (aO (T.os 1 2 0 (((Y2 f (l.take i)++ [Qw f (Int.toNat x1)]).map (QW true)).length)) Y (VRunO.nil (vinB.n (tn (VRun.region (fO (QB (tv (tN i) Y) (VEv.int .i64 1) (by omega)) (mO (tN (i+1)) Y (VRunO.nil (tn ?_)))))))))))
  have he3:(Y2 f (l.take i)++ [Qw f (Int.toNat x1)])=Y2 f (l.take (i+1)):=by exact Qjt hx1
  refine ⟨(i+1:Nat),?_,?_,Wk.mk (fun k=>if k=0 then 2 else k) ?_ ?_ ?_⟩
  ·trivial
  ·omega
  ·exact (b2 (b2 (bc ⟨(congrArg (fun l_=>T.os 1 2 0 (List.map (QW true) l_).length) he3),rfl⟩ (b2 (b2 (b2 bn))))))
  ·exact (bc ⟨(congrArg (fun l_=>some (Obj.rows 1 (List.map (QW true) l_))) he3),(lb Y),rfl⟩ bn)
  ·exact nd Y
 refine VRun.exit (vthn.e (vthn.e (vinB.e (tn (sr (mO (T.os 1 0 0 (((Y2 f (l.take i)).map (QW true)).length)) Y (lO (B.convBS (l:=Y2 f (l.take i)) (tv (T.os 1 0 0 (((Y2 f (l.take i)).map (QW true)).length)) Y) Y (List.length_map ..) U92 U5 U9) (aO (tS (Z2 (Y2 f (l.take i)))) Y (nt (rt ?_))))))))))
 refine vfin.eq (r':=(tS (Z2 (Y2 f (l.take i))))) ?_ (vfin.r (VRes.tmp (t:=(tS (Z2 (Y2 f (l.take i))))) Y VRes.nil) (Give.str _))
 refine congrArg T.str ?_
 rw [YV hI' fhc0];rfl
theorem Qd7 (n:Nat) (g:D.Grid) (f:ByteArray) (hc:g.Cells.size≤maxLen) (hf:f.size≤maxLen):Pure (Qr Tryz.prog (n+5)) 125 [(T.agg (Qb false g)),(tS f)] (T.sl true 1 ((Yd g f).map (Qv true))):=by
 refine Pure.intro (rs:= [ResultVar.tmp 4]) Tryz.func125 Y Y Y (E0:= [(0,(T.agg (Qb false g))),(1,(tS f))]) Y ?_
 obtain ⟨hlim,hmx,hmax⟩:=QE
 have hsl:=Zh g
 have hll:=Qav g
 refine sr (kO (B.box (ts:=(Qb false g)) (tv (T.agg (Qb false g)) Y) nofun Y) (fO (OF.assign VEv.nils) (nt (sq (sr (lO (OL.loadOn (us:=(Qb false g)) (tv (T.op 0 0) Y) Y Q3 QY (lb Y) Y) (mO (tS f) Y (cO (cS (vc (tv (T.agg (Qb false g)) Y) (vc (tv (tS f) Y) vn)) (LendL.cons (lg Qs) (lp Y ln)) (QbQ (n+1) g f (by assumption) (by assumption)) Y Y) (fO (Q8 (tv (tB (decide (Q2 g f))) Y)) (nt ?_))))))))))
 refine cn (Q2 g f) Y (fun fhc0=> ?_) fun fhc0=> ?_
 ·refine sr ?_
  refine fO (OF.assign VEv.nils) (nt (rt (tr ?_)))
  refine vfin.eq (r':=(T.sl true 1 [])) ?_ (vfin.r (VRes.tmp (t:=T.nils) Y VRes.nil) (Give.nils 1))
  refine congrArg (fun l_=>T.sl true 1 (List.map (Qv true) l_)) (a₁:= []) ?_
  exact (if_neg fhc0).symm
 refine sk (tn (sr (fO (OF.assign VEv.nils) (nt (sq (sr (lO (OL.loadOn (us:=(Qb false g)) (tv (T.op 0 0) Y) Y Q3 QY (lb Y) Y) (cO (OC.callF (r':=(T.os 1 1 0 (((QJ g).map ((YW 1 Qc) true)).length))) (objs:= [(Obj.rows 1 ((QJ g).map ((YW 1 Qc) true)))]) Y (vc (tv (T.agg (Qb false g)) Y) vn) (LendL.cons (lg Qs) ln) (Jg (n+0) g (by assumption)) Y) (lO (B.lenO (m:=(QJ g).length) (tv (T.os 1 1 0 (((QJ g).map ((YW 1 Qc) true)).length)) Y) Qfd (List.length_map ..)) (fO (OF.move (VEv.int .i64 0)) (nt ?_)))))))))))
 refine VRun.block (VRun.wk (Wk.freeze (sz:=1) (k:=1) (rows':=((QJ g).map ((YW 1 Qc) false))) [13] (bc Y bn) Y Y ((Qkj okInt).fzMap _ _)) (VRun.wk (Wk.phantom 5 1 Y) ?_))
 have he1: []=((((QJ g).take 0).map (JI f)).map (Qv true)):=by rfl
 refine VRun.loop (A:=Nat) (fun s_=> [(1,(tS f)),(4,T.nils),(5,(T.os 1 0 0 (((((QJ g).take s_).map (JI f)).map (Qv true)).length))),(13,(rd 1 (YW 1 Qc) (QJ g))),(14,(tN ((QJ g).length))),(15,(tN s_))]) (fun s_=>Q5 [(0,(Obj.rows 1 ((((QJ g).take s_).map (JI f)).map (Qv true))))]) 1 (fun s_=>s_≤(QJ g).length) (fun s_=>(QJ g).length - s_) (0:Nat) ?_ (Wk.mk (fun k=>if k=0 then 2 else k) ?_ ?_ ?_) ?_
 ·(simp;done)
 ·exact (b2 (b2 (bc ⟨(congrArg (fun n_=>T.os 1 2 0 n_) (show 0=((((QJ g).take 0).map (JI f)).map (Qv true)).length from (by rfl))),rfl⟩ (b2 (b2 (b2 bn))))))
 ·exact (bc ⟨(congrArg (fun l_=>some (Obj.rows 1 l_)) he1),(lb Y),rfl⟩ bn)
 ·exact nd Y
 rintro i (hI':i≤(QJ g).length)
 show VRun _ _ _ [(1,(tS f)),(4,T.nils),(5,(T.os 1 0 0 (((((QJ g).take i).map (JI f)).map (Qv true)).length))),(13,(rd 1 (YW 1 Qc) (QJ g))),(14,(tN ((QJ g).length))),(15,(tN i))] (Q5 [(0,(Obj.rows 1 ((((QJ g).take i).map (JI f)).map (Qv true))))]) 1 _
 have hI1:=hI'
 have htl:=Yt (QJ g) i
 refine sr (fO (Zg (tv (tN i) Y) (tv (tN ((QJ g).length)) Y)) (nt (sq ?_)))
 refine cd (i<(QJ g).length) Y (fun fhc1=> ?_) fun fhc1=> ?_
 ·refine sk ?_
  refine tn (sq (VRun.block (sr ?_)))
  obtain ⟨x1,hx1⟩:∃x,(QJ g)[i]? =some x:=⟨_,List.getElem?_eq_getElem (by omega)⟩
  obtain ⟨y1,hy1,hq1⟩:=QeH hx1
  refine fO (OF.indexAddrR (row:=((YW 1 Qc) false x1)) (i:=i) (tv (rd 1 (YW 1 Qc) (QJ g)) Y) (tv (tN i) Y) Y (Qt _ hx1) Qfd QfR QiD) (lO (OL.loadR1 (t:=(rd 1 Qc x1)) (tv (T.rp [(rd 1 Qc x1)]) Y) Y QcB) (aO (rd 1 Qc x1) Y (nt (VRun.region (mO (T.os 1 0 0 (((((QJ g).take i).map (JI f)).map (Qv true)).length)) Y (mO (tS f) Y (mO (rd 1 Qc x1) Y (cO (cS (vc (tv (tS f) Y) (vc (tv (rd 1 Qc x1) Y) vn)) (ZH Y) (Qdt (n+3) f x1 (by (rw [hq1];exact Nat.le_trans (Qbm hy1) (by decide))) (by (rw [hq1];intro c hc;have:=Qf7 (List.mem_of_getElem? hy1) hc;have:=fhc0.2.1;omega))) Y Y) (kO (OM.buildSlice (l:= [(tS (JI f x1))]) (VEvp.cons (tv (tS (JI f x1)) Y) VEvp.nil) Y (by decide) (bc (nofun) bn) (bc ((bc (Y) bn)) bn) (bc (Y) bn) U52 zo9 (by kernel_rfl) Y (by rw [sz9];decide) sz9 (Nat.le_of_ble_eq_true Y)) (cO (B.append (rows:=((((QJ g).take i).map (JI f)).map (Qv true))) (rows2:= [[(tS (JI f x1))]]) (rows3:=((((QJ g).take i).map (JI f)++ [JI f x1]).map (Qv true))) (VDst.own (tv (T.os 1 0 0 (((((QJ g).take i).map (JI f)).map (Qv true)).length)) Y) Y Y) (VSrc.own (tv (T.os 1 1 0 1) Y) Y Y U52 (bc (bc Y bn) bn)) (by decide) U52 sz9 (by decide) zo9 Y (of_decide_eq_true (by kernel_rfl)) (by (simp only [List.length_map,List.length_append,List.length_cons,List.length_nil,List.length_replicate,List.length_set,List.length_drop,List.length_take,Zr] at *;omega)) ((List.map_append (f:=Qv true) (l₁:=((QJ g).take i).map (JI f)) (l₂:= [JI f x1])).symm)) (aO (T.os 1 2 0 (((((QJ g).take i).map (JI f)++ [JI f x1]).map (Qv true)).length)) Y ?_)))))))))))
  refine VRunO.nil (vinB.n (tn (VRun.region (fO (QB (tv (tN i) Y) (VEv.int .i64 1) (by omega)) (mO (tN (i+1)) Y (VRunO.nil (tn ?_)))))))
  have he2:(((QJ g).take i).map (JI f)++ [JI f x1])=((QJ g).take (i+1)).map (JI f):=by (rw [List.take_add_one,hx1,Option.toList_some,List.map_append];rfl)
  refine ⟨(i+1:Nat),?_,?_,Wk.mk (fun k=>if k=0 then 2 else k) ?_ ?_ ?_⟩
  ·trivial
  ·omega
  ·exact (b2 (b2 (bc ⟨(congrArg (fun l_=>T.os 1 2 0 (List.map (Qv true) l_).length) he2),rfl⟩ (b2 (b2 (b2 bn))))))
  ·exact (bc ⟨(congrArg (fun l_=>some (Obj.rows 1 (List.map (Qv true) l_))) he2),(lb Y),rfl⟩ bn)
  ·exact nd Y
 refine VRun.exit (vthn.e (vthn.e (vinB.e (tn (sr (mO (T.os 1 0 0 (((((QJ g).take i).map (JI f)).map (Qv true)).length)) Y (aO (T.os 1 0 0 (((((QJ g).take i).map (JI f)).map (Qv true)).length)) Y (nt (rt ?_)))))))))
 refine vfin.eq (r':=(T.sl true 1 ((((QJ g).take i).map (JI f)).map (Qv true)))) ?_ (vfin.r (VRes.tmp (t:=(T.os 1 0 0 (((((QJ g).take i).map (JI f)).map (Qv true)).length))) Y VRes.nil) (Give.os Y Y (okStr.cleanMap _)))
 refine congrArg (fun l_=>T.sl true 1 (List.map (Qv true) l_)) ?_
 rw [YV hI' fhc1,Yd,if_pos (by simpa using fhc0)]
noncomputable section
theorem QaP (n:Int) {m:Int} (h:0<m): -m<n.tmod m∧n.tmod m<m:=⟨Int.lt_tmod_of_pos n h,Int.tmod_lt_of_pos n h⟩
def Y0 (n m:Int):Int:=if 1≤m∧m≤1000000000000 then (n.tmod m+m).tmod m else 0
theorem QgK (n:Int):0≤Y0 n 2147483647∧Y0 n 2147483647<2147483647:=by
 unfold Y0
 rw [if_pos (by omega)]
 have h1:=QaP n (m:=2147483647) (by decide)
 have h2:=QaP (n.tmod 2147483647+2147483647) (m:=2147483647) (by decide)
 exact ⟨Int.tmod_nonneg _ (by omega),h2.2⟩
def QcN (d x:Int):Int:=(d*1000003+Y0 x 2147483647+13).tmod 2147483647
def Q6 (l:List Int):Int:=l.foldl QcN 11
theorem Qfe {d x:Int} (h:0≤d∧d<2147483647):0≤QcN d x∧QcN d x<2147483647:=by
 have h1:=QgK x
 unfold QcN
 exact ⟨Int.tmod_nonneg _ (by omega),(QaP _ (by decide)).2⟩
theorem QfW : ∀(l:List Int) (d:Int),0≤d∧d<2147483647→0≤l.foldl QcN d∧l.foldl QcN d<2147483647
 | [],d,h=>h
 | x::r,d,h=>QfW r _ (Qfe h)
theorem Qht (l:List Int):0≤Q6 l∧Q6 l<2147483647:=QfW l 11 (by decide)
theorem Qfc {l:List Int} {i:Nat} {x:Int} (h:l[i]? =some x):Q6 (l.take (i+1))=QcN (Q6 (l.take i)) x:=by
 unfold Q6
 rw [List.take_add_one,h,Option.toList_some,List.foldl_append]
 rfl
theorem QkS (s:ByteArray) (i:Nat):0≤Qw s i∧Qw s i<256:=by
 unfold Qw
 split
 ·have:=(s[i]).toNat_lt
  omega
 ·decide
theorem Qmy {s:ByteArray} {i:Nat} (h:i<s.size):(Z1 s)[i]? =some (Qw s i):=by
 unfold Z1
 rw [List.getElem?_map,List.getElem?_eq_getElem (by rw [Array.length_toList];exact h),Option.map_some,← YP h]
 rfl
theorem Qhi {s:ByteArray} {i:Nat} (h:i<s.size):(Z1 s).take i++ [Qw s i]=(Z1 s).take (i+1):=by
 rw [List.take_add_one,Qmy h];rfl
def Jt (salt slot:Int) (w:ByteArray):Int:=if Zj w then Q6 ([salt,slot,((w.size:Nat):Int)]++Z1 w) else 0
def Qe2 (seals:List Int) (salt slot:Int) (w:ByteArray):Prop:=0≤slot∧Zj w∧seals[slot.toNat]? =some (Jt salt slot w)
instance (seals:List Int) (salt slot:Int) (w:ByteArray):Decidable (Qe2 seals salt slot w):=Classical.propDecidable _
theorem Qi0 {seals:List Int} {salt slot x:Int} {w:ByteArray} (h0:0≤slot) (hw:Zj w) (hx:seals[slot.toNat]? =some x):Jt salt slot w=x↔Qe2 seals salt slot w:=by
 unfold Qe2
 rw [hx]
 exact ⟨fun h=>⟨h0,hw,by rw [h]⟩,fun h=>(Option.some.inj h.2.2).symm⟩
theorem Qeo {seals:List Int} {salt slot:Int} {w:ByteArray} (h:Qe2 seals salt slot w):slot<((seals.length:Nat):Int):=by
 have:=(List.getElem?_eq_some_iff.1 h.2.2).1
 omega
end
theorem Qio (n:Nat) (n0:Int) (m:Int):Pure (Qr Tryz.prog (n+2)) 168 [(tI n0),(tI m)] (tI (Y0 n0 m)):=by
 refine Pure.intro (rs:= [ResultVar.tmp 4]) Tryz.func168 Y Y Y (E0:= [(0,(tI n0)),(1,(tI m))]) Y ?_
 obtain ⟨hlim,hmx,hmax⟩:=QE
 refine sr (fO (OF.assign (VEv.int .i64 0)) (nt (sq (sr (mO (tI m) Y (cO (cS (vc (tv (tI m) Y) (vc (VEv.int .i64 1) (vc (VEv.int .i64 1000000000000) vn))) (ZH Y) (QZ (n+0) m 1 1000000000000) Y Y) (fO (Q8 (tv (tB (decide (1≤m∧m≤1000000000000))) Y)) (nt ?_))))))))
 refine cn (1≤m∧m≤1000000000000) Y (fun fhc0=> ?_) fun fhc0=> ?_
 ·refine sr ?_
  refine fO (OF.assign (VEv.int .i64 0)) (nt (rt (tr (vi (n':=0) Y ?_))))
  unfold Y0;rw [if_neg fhc0]
 have hmd:=QaP n0 (m:=m) (by omega)
 have hmd2:=QaP (n0.tmod m+m) (m:=m) (by omega)
 refine sk (tn (sr (mO (tI n0) Y (mO (tI m) Y (fO (B.rem (n:=(n0.tmod m)) (tv (tI n0) Y) (tv (tI m) Y) (by omega) (by rfl)) (mO (tI m) Y (fO (B.add (n:=((n0.tmod m)+m)) (tv (tI (n0.tmod m)) Y) (tv (tI m) Y) (by (rw [Qq (by omega)];done))) (mO (tI m) Y (fO (B.rem (n:=(((n0.tmod m)+m).tmod m)) (tv (tI ((n0.tmod m)+m)) Y) (tv (tI m) Y) (by omega) (by rfl)) (aO (tI (((n0.tmod m)+m).tmod m)) Y (nt ?_)))))))))))
 refine rt (vi (n':=(((n0.tmod m)+m).tmod m)) Y ?_)
 unfold Y0;rw [if_pos (by omega)]
theorem Qil (n:Nat) (n0:Int) (m:Int):Pure (Qr Tryz.prog (n+2)) 169 [(tI n0),(tI m)] (tI (Y0 n0 m)):=by
 refine Pure.intro (rs:= [ResultVar.tmp 4]) Tryz.func169 Y Y Y (E0:= [(0,(tI n0)),(1,(tI m))]) Y ?_
 obtain ⟨hlim,hmx,hmax⟩:=QE
 refine sr (fO (OF.assign (VEv.int .i64 0)) (nt (sq (sr (mO (tI m) Y (cO (cS (vc (tv (tI m) Y) (vc (VEv.int .i64 1) (vc (VEv.int .i64 1000000000000) vn))) (ZH Y) (Zn (n+0) m 1 1000000000000) Y Y) (fO (Q8 (tv (tB (decide (1≤m∧m≤1000000000000))) Y)) (nt ?_))))))))
 refine cn (1≤m∧m≤1000000000000) Y (fun fhc0=> ?_) fun fhc0=> ?_
 ·refine sr ?_
  refine fO (OF.assign (VEv.int .i64 0)) (nt (rt (tr (vi (n':=0) Y ?_))))
  unfold Y0;rw [if_neg fhc0]
 have hmd:=QaP n0 (m:=m) (by omega)
 have hmd2:=QaP (n0.tmod m+m) (m:=m) (by omega)
 refine sk (tn (sr (mO (tI n0) Y (mO (tI m) Y (fO (B.rem (n:=(n0.tmod m)) (tv (tI n0) Y) (tv (tI m) Y) (by omega) (by rfl)) (mO (tI m) Y (fO (B.add (n:=((n0.tmod m)+m)) (tv (tI (n0.tmod m)) Y) (tv (tI m) Y) (by (rw [Qq (by omega)];done))) (mO (tI m) Y (fO (B.rem (n:=(((n0.tmod m)+m).tmod m)) (tv (tI ((n0.tmod m)+m)) Y) (tv (tI m) Y) (by omega) (by rfl)) (aO (tI (((n0.tmod m)+m).tmod m)) Y (nt ?_)))))))))))
 refine rt (vi (n':=(((n0.tmod m)+m).tmod m)) Y ?_)
 unfold Y0;rw [if_pos (by omega)]
theorem Qhb (n:Nat) (l:List Int) (hl:l.length≤Zr):Pure (Qr Tryz.prog (n+3)) 157 [(rd 1 Qc l)] (tI (Q6 l)):=by
 refine Pure.intro (rs:= [ResultVar.tmp 2]) Tryz.func157 Y Y Y (E0:= [(0,(rd 1 Qc l))]) Y ?_
 obtain ⟨hlim,hmx,hmax⟩:=QE
 refine sr (fO (OF.assign (VEv.int .i64 0)) (nt (sr (fO (OF.assign (VEv.int .i64 11)) (nt (sq (sr (fO (OF.assign (VEv.int .i64 0)) (nt (VRun.block ?_))))))))))
 refine VRun.loop (A:=Nat) (fun s_=> [(0,(rd 1 Qc l)),(2,(tN 0)),(3,(tI (Q6 (l.take s_)))),(4,(tN s_))]) (fun s_=>Q5 []) 0 (fun s_=>s_≤l.length) (fun s_=>l.length - s_) (0:Nat) ?_ (Wk.mk (fun k=>k) ?_ ?_ ?_) ?_
 ·(simp;done)
 ·exact (b2 (b2 (bc ⟨(congrArg (T.int .i64) (show 11=Q6 (l.take 0) from (by rfl))),rfl⟩ (b2 bn))))
 ·exact bn
 ·exact nd Y
 rintro i (hI':i≤l.length)
 show VRun _ _ _ [(0,(rd 1 Qc l)),(2,(tN 0)),(3,(tI (Q6 (l.take i)))),(4,(tN i))] (Q5 []) 0 _
 have hhb:=Qht (l.take i)
 refine sq (sr (mO (tN i) Y (mO (rd 1 Qc l) Y (lO (B.lenR (m:=l.length) (tv (rd 1 Qc l) Y) ZA (List.length_map ..)) (fO (Zg (tv (tN i) Y) (tv (tN l.length) Y)) (nt ?_))))))
 refine cd (i<l.length) Y (fun fhc0=> ?_) fun fhc0=> ?_
 ·refine sk ?_
  refine tn (sq (VRun.block (VRun.region (mO (tI (Q6 (l.take i))) Y (fO (B.mul (n:=(Q6 (l.take i)*1000003)) (tv (tI (Q6 (l.take i))) Y) (VEv.int .i64 1000003) (by (rw [Qq (by omega)];done))) (mO (rd 1 Qc l) Y (mO (tN i) Y ?_)))))))
  obtain ⟨x1,hx1⟩:∃x,l[i]? =some x:=⟨_,List.getElem?_eq_getElem (by omega)⟩
  have hmz:=QgK x1
  have hhs:=Qfe (x:=x1) hhb
  have hhs2:QcN (Q6 (l.take i)) x1=(Q6 (l.take i)*1000003+Y0 x1 2147483647+13).tmod 2147483647:=rfl
  refine fO (OF.indexAddrR (row:=(Qc false x1)) (i:=i) (tv (rd 1 Qc l) Y) (tv (tN i) Y) Y (Qt _ hx1) ZA Zl YK) (lO (OL.loadR1 (t:=(tI x1)) (tv (T.rp [(tI x1)]) Y) Y QX) (cO (cS (vc (tv (tI x1) Y) (vc (VEv.int .i64 2147483647) vn)) (ZH Y) (Qio (n+0) x1 2147483647) Y Y) (fO (B.add (n:=((Q6 (l.take i)*1000003)+Y0 x1 2147483647)) (tv (tI (Q6 (l.take i)*1000003)) Y) (tv (tI (Y0 x1 2147483647)) Y) (by (rw [Qq (by omega)];done))) (fO (B.add (n:=(((Q6 (l.take i)*1000003)+Y0 x1 2147483647)+13)) (tv (tI ((Q6 (l.take i)*1000003)+Y0 x1 2147483647)) Y) (VEv.int .i64 13) (by (rw [Qq (by omega)];done))) (fO (B.rem (n:=((((Q6 (l.take i)*1000003)+Y0 x1 2147483647)+13).tmod 2147483647)) (tv (tI (((Q6 (l.take i)*1000003)+Y0 x1 2147483647)+13)) Y) (VEv.int .i64 2147483647) (by omega) (by rfl)) (aO (tI ((((Q6 (l.take i)*1000003)+Y0 x1 2147483647)+13).tmod 2147483647)) Y (VRunO.nil (vinB.n (tn (VRun.region (mO (tN i) Y ?_)))))))))))
  refine fO (QB (tv (tN i) Y) (VEv.int .i64 1) (by omega)) (aO (tN (i+1)) Y (VRunO.nil (tn ?_)))
  refine ⟨(i+1:Nat),?_,?_,Wk.mk (fun k=>k) ?_ ?_ ?_⟩
  ·trivial
  ·omega
  ·exact (b2 (b2 (bc ⟨(congrArg (T.int .i64) (show ((((Q6 (l.take i)*1000003)+Y0 x1 2147483647)+13).tmod 2147483647)=Q6 (l.take (i+1)) from (by exact (Qfc hx1).symm))),rfl⟩ (b2 bn))))
  ·exact bn
  ·exact nd Y
 refine VRun.exit (vthn.e (vthn.e (vinB.e (tn (sr (mO (tI (Q6 (l.take i))) Y (aO (tI (Q6 (l.take i))) Y (nt (rt (vi (n':=Q6 (l.take i)) Y ?_))))))))))
 rw [YV hI' fhc0]
theorem QhC (n:Nat) (l:List Int) (hl:l.length≤Zr):Pure (Qr Tryz.prog (n+3)) 159 [(rd 1 Qc l)] (tI (Q6 l)):=by
 refine Pure.intro (rs:= [ResultVar.tmp 2]) Tryz.func159 Y Y Y (E0:= [(0,(rd 1 Qc l))]) Y ?_
 obtain ⟨hlim,hmx,hmax⟩:=QE
 refine sr (fO (OF.assign (VEv.int .i64 0)) (nt (sr (fO (OF.assign (VEv.int .i64 11)) (nt (sq (sr (mO (rd 1 Qc l) Y (lO (B.lenR (m:=l.length) (tv (rd 1 Qc l) Y) ZA (List.length_map ..)) (fO (OF.move (VEv.int .i64 0)) (nt ?_)))))))))))
 refine VRun.block ?_
 refine VRun.loop (A:=Nat) (fun s_=> [(2,(tN 0)),(3,(tI (Q6 (l.take s_)))),(6,(rd 1 Qc l)),(7,(tN l.length)),(8,(tN s_))]) (fun s_=>Q5 []) 0 (fun s_=>s_≤l.length) (fun s_=>l.length - s_) (0:Nat) ?_ (Wk.mk (fun k=>k) ?_ ?_ ?_) ?_
 ·(simp;done)
 ·exact (b2 (bc ⟨(congrArg (T.int .i64) (show 11=Q6 (l.take 0) from (by rfl))),rfl⟩ (b2 (b2 (b2 bn)))))
 ·exact bn
 ·exact nd Y
 rintro i (hI':i≤l.length)
 show VRun _ _ _ [(2,(tN 0)),(3,(tI (Q6 (l.take i)))),(6,(rd 1 Qc l)),(7,(tN l.length)),(8,(tN i))] (Q5 []) 0 _
 have hhb:=Qht (l.take i)
 refine sr (fO (Zg (tv (tN i) Y) (tv (tN l.length) Y)) (nt (sq ?_)))
 refine cd (i<l.length) Y (fun fhc0=> ?_) fun fhc0=> ?_
 ·refine sk ?_
  refine tn (sq (VRun.block (sr ?_)))
  obtain ⟨x1,hx1⟩:∃x,l[i]? =some x:=⟨_,List.getElem?_eq_getElem (by omega)⟩
  have hmz:=QgK x1
  have hhs:=Qfe (x:=x1) hhb
  have hhs2:QcN (Q6 (l.take i)) x1=(Q6 (l.take i)*1000003+Y0 x1 2147483647+13).tmod 2147483647:=rfl
  refine fO (OF.indexAddrR (row:=(Qc false x1)) (i:=i) (tv (rd 1 Qc l) Y) (tv (tN i) Y) Y (Qt _ hx1) ZA Zl YK) (lO (OL.loadR1 (t:=(tI x1)) (tv (T.rp [(tI x1)]) Y) Y QX) (aO (tI x1) Y (nt (VRun.region (mO (tI (Q6 (l.take i))) Y (fO (B.mul (n:=(Q6 (l.take i)*1000003)) (tv (tI (Q6 (l.take i))) Y) (VEv.int .i64 1000003) (by (rw [Qq (by omega)];done))) (mO (tI x1) Y (cO (cS (vc (tv (tI x1) Y) (vc (VEv.int .i64 2147483647) vn)) (ZH Y) (Qil (n+0) x1 2147483647) Y Y) (fO (B.add (n:=((Q6 (l.take i)*1000003)+Y0 x1 2147483647)) (tv (tI (Q6 (l.take i)*1000003)) Y) (tv (tI (Y0 x1 2147483647)) Y) (by (rw [Qq (by omega)];done))) (fO (B.add (n:=(((Q6 (l.take i)*1000003)+Y0 x1 2147483647)+13)) (tv (tI ((Q6 (l.take i)*1000003)+Y0 x1 2147483647)) Y) (VEv.int .i64 13) (by (rw [Qq (by omega)];done))) (fO (B.rem (n:=((((Q6 (l.take i)*1000003)+Y0 x1 2147483647)+13).tmod 2147483647)) (tv (tI (((Q6 (l.take i)*1000003)+Y0 x1 2147483647)+13)) Y) (VEv.int .i64 2147483647) (by omega) (by rfl)) ?_)))))))))))
  refine aO (tI ((((Q6 (l.take i)*1000003)+Y0 x1 2147483647)+13).tmod 2147483647)) Y (VRunO.nil (vinB.n (tn (VRun.region (fO (QB (tv (tN i) Y) (VEv.int .i64 1) (by omega)) (mO (tN (i+1)) Y (VRunO.nil (tn ?_))))))))
  refine ⟨(i+1:Nat),?_,?_,Wk.mk (fun k=>k) ?_ ?_ ?_⟩
  ·trivial
  ·omega
  ·exact (b2 (bc ⟨(congrArg (T.int .i64) (show ((((Q6 (l.take i)*1000003)+Y0 x1 2147483647)+13).tmod 2147483647)=Q6 (l.take (i+1)) from (by exact (Qfc hx1).symm))),rfl⟩ (b2 (b2 (b2 bn)))))
  ·exact bn
  ·exact nd Y
 refine VRun.exit (vthn.e (vthn.e (vinB.e (tn (sr (mO (tI (Q6 (l.take i))) Y (aO (tI (Q6 (l.take i))) Y (nt (rt (vi (n':=Q6 (l.take i)) Y ?_))))))))))
 rw [YV hI' fhc0]
theorem Qdn (n:Nat) (s:ByteArray) (hs:s.size≤Zr):Pure (Qr Tryz.prog (n+1)) 158 [(tS s)] (T.sl true 1 ((Z1 s).map (Qc true))):=by
 refine Pure.intro (rs:= [ResultVar.tmp 2]) Tryz.func158 Y Y Y (E0:= [(0,(tS s))]) Y ?_
 obtain ⟨hlim,hmx,hmax⟩:=QE
 have hbl:=Qbi s
 refine sr (fO (OF.assign VEv.nils) (nt (sr (kO (OM.slice0 ZA zo3 (by kernel_rfl) Y (by rw [Zl];decide) Zl) (aO (T.os 1 0 0 0) Y (nt (sq (sr (fO (OF.assign (VEv.int .i64 0)) (nt (VRun.block ?_)))))))))))
 have he1: []=(((Z1 s).take 0).map (Qc true)):=by rfl
 refine VRun.loop (A:=Nat) (fun s_=> [(0,(tS s)),(2,T.nils),(3,(T.os 1 0 0 ((((Z1 s).take s_).map (Qc true)).length))),(4,(tN s_))]) (fun s_=>Q5 [(0,(Obj.rows 1 (((Z1 s).take s_).map (Qc true))))]) 1 (fun s_=>s_≤s.size) (fun s_=>s.size - s_) (0:Nat) ?_ (Wk.mk (fun k=>k) ?_ ?_ ?_) ?_
 ·(simp;done)
 ·exact (b2 (b2 (bc ⟨(congrArg (fun n_=>T.os 1 0 0 n_) (show 0=(((Z1 s).take 0).map (Qc true)).length from (by rfl))),rfl⟩ (b2 bn))))
 ·exact (bc ⟨(congrArg (fun l_=>some (Obj.rows 1 l_)) he1),(lb Y),rfl⟩ bn)
 ·exact nd Y
 rintro i (hI':i≤s.size)
 show VRun _ _ _ [(0,(tS s)),(2,T.nils),(3,(T.os 1 0 0 ((((Z1 s).take i).map (Qc true)).length))),(4,(tN i))] (Q5 [(0,(Obj.rows 1 (((Z1 s).take i).map (Qc true))))]) 1 _
 have htl:=Yt (Z1 s) i
 have hbb:=QkS s i
 refine sq (sr (mO (tN i) Y (mO (tS s) Y (lO (B.lenS (tv (tS s) Y) U9) (fO (Zg (tv (tN i) Y) (tv (tN s.size) Y)) (nt ?_))))))
 refine cd (i<s.size) Y (fun fhc0=> ?_) fun fhc0=> ?_
 ·refine sk ?_
  refine tn (sq (VRun.block (VRun.region (mO (T.os 1 0 0 ((((Z1 s).take i).map (Qc true)).length)) Y (mO (tS s) Y (mO (tN i) Y ?_))))))
  have hb2:i<s.size:=(by omega)
  refine fO (J6 (tv (tS s) Y) (tv (tN i) Y) hb2 U9) (fO (xcv (m:=(Qw s i)) (tv (T.int .u8 (Qw s i)) Y) U5 U3 (Qq (by omega))) (kO (OM.buildSlice (l:= [(tI (Qw s i))]) (VEvp.cons (tv (tI (Qw s i)) Y) VEvp.nil) Y (by decide) (bc (nofun) bn) (bc ((bc (Y) bn)) bn) (bc (Y) bn) ZA zo3 (by kernel_rfl) Y (by rw [Zl];decide) Zl (Nat.le_of_ble_eq_true Y)) (cO (B.append (rows:=(((Z1 s).take i).map (Qc true))) (rows2:= [[(tI (Qw s i))]]) (rows3:=(((Z1 s).take i++ [Qw s i]).map (Qc true))) (VDst.own (tv (T.os 1 0 0 ((((Z1 s).take i).map (Qc true)).length)) Y) Y Y) (VSrc.own (tv (T.os 1 1 0 1) Y) Y Y ZA (bc (bc Y bn) bn)) (by decide) ZA Zl (by decide) zo3 Y (of_decide_eq_true (by kernel_rfl)) (by (simp only [List.length_map,List.length_append,List.length_cons,List.length_nil,List.length_replicate,List.length_set,List.length_drop,List.length_take,Zr] at *;omega)) ((List.map_append (f:=Qc true) (l₁:=(Z1 s).take i) (l₂:= [Qw s i])).symm)) (aO (T.os 1 2 0 ((((Z1 s).take i++ [Qw s i]).map (Qc true)).length)) Y (VRunO.nil (vinB.n (tn (VRun.region (mO (tN i) Y (fO (QB (tv (tN i) Y) (VEv.int .i64 1) (by omega)) (aO (tN (i+1)) Y ?_)))))))))))
  refine VRunO.nil (tn ?_)
  have he3:((Z1 s).take i++ [Qw s i])=(Z1 s).take (i+1):=by exact Qhi fhc0
  refine ⟨(i+1:Nat),?_,?_,Wk.mk (fun k=>if k=0 then 2 else k) ?_ ?_ ?_⟩
  ·trivial
  ·omega
  ·exact (b2 (b2 (bc ⟨(congrArg (fun l_=>T.os 1 2 0 (List.map (Qc true) l_).length) he3),rfl⟩ (b2 bn))))
  ·exact (bc ⟨(congrArg (fun l_=>some (Obj.rows 1 (List.map (Qc true) l_))) he3),(lb Y),rfl⟩ bn)
  ·exact nd Y
 refine VRun.exit (vthn.e (vthn.e (vinB.e (tn (sr (mO (T.os 1 0 0 ((((Z1 s).take i).map (Qc true)).length)) Y (aO (T.os 1 0 0 ((((Z1 s).take i).map (Qc true)).length)) Y (nt (rt ?_)))))))))
 refine vfin.eq (r':=(T.sl true 1 (((Z1 s).take i).map (Qc true)))) ?_ (vfin.r (VRes.tmp (t:=(T.os 1 0 0 ((((Z1 s).take i).map (Qc true)).length))) Y VRes.nil) (Give.os Y Y (okInt.cleanMap _)))
 refine congrArg (fun l_=>T.sl true 1 (List.map (Qc true) l_)) ?_
 rw [YV (by omega) (by omega)]
theorem Qc1 (n:Nat) (s:ByteArray) (hs:s.size≤Zr):Pure (Qr Tryz.prog (n+1)) 160 [(tS s)] (T.sl true 1 ((Z1 s).map (Qc true))):=by
 refine Pure.intro (rs:= [ResultVar.tmp 2]) Tryz.func160 Y Y Y (E0:= [(0,(tS s))]) Y ?_
 obtain ⟨hlim,hmx,hmax⟩:=QE
 have hbl:=Qbi s
 refine sr (fO (OF.assign VEv.nils) (nt (sr (fO (OF.assign VEv.nils) (nt (sq (sr (mO (tS s) Y (lO (B.lenS (tv (tS s) Y) U9) (fO (OF.move (VEv.int .i64 0)) (nt ?_)))))))))))
 refine VRun.block (VRun.wk (Wk.phantom 3 1 Y) ?_)
 have he1: []=(((Z1 s).take 0).map (Qc true)):=by rfl
 refine VRun.loop (A:=Nat) (fun s_=> [(0,(tS s)),(2,T.nils),(3,(T.os 1 0 0 ((((Z1 s).take s_).map (Qc true)).length))),(6,(tN s.size)),(7,(tN s_))]) (fun s_=>Q5 [(0,(Obj.rows 1 (((Z1 s).take s_).map (Qc true))))]) 1 (fun s_=>s_≤s.size) (fun s_=>s.size - s_) (0:Nat) ?_ (Wk.mk (fun k=>k) ?_ ?_ ?_) ?_
 ·(simp;done)
 ·exact (b2 (b2 (bc ⟨(congrArg (fun n_=>T.os 1 0 0 n_) (show 0=(((Z1 s).take 0).map (Qc true)).length from (by rfl))),rfl⟩ (b2 (b2 bn)))))
 ·exact (bc ⟨(congrArg (fun l_=>some (Obj.rows 1 l_)) he1),(lb Y),rfl⟩ bn)
 ·exact nd Y
 rintro i (hI':i≤s.size)
 show VRun _ _ _ [(0,(tS s)),(2,T.nils),(3,(T.os 1 0 0 ((((Z1 s).take i).map (Qc true)).length))),(6,(tN s.size)),(7,(tN i))] (Q5 [(0,(Obj.rows 1 (((Z1 s).take i).map (Qc true))))]) 1 _
 have htl:=Yt (Z1 s) i
 have hbb:=QkS s i
 refine sr (fO (Zg (tv (tN i) Y) (tv (tN s.size) Y)) (nt (sq ?_)))
 refine cd (i<s.size) Y (fun fhc0=> ?_) fun fhc0=> ?_
 ·refine sk ?_
  refine tn (sq (VRun.block (sr (mO (tN i) Y (aO (tN i) Y (nt (VRun.region (mO (T.os 1 0 0 ((((Z1 s).take i).map (Qc true)).length)) Y (mO (tS s) Y (mO (tN i) Y ?_))))))))))
  have hb2:i<s.size:=(by omega)
  refine fO (J6 (tv (tS s) Y) (tv (tN i) Y) hb2 U9) (fO (xcv (m:=(Qw s i)) (tv (T.int .u8 (Qw s i)) Y) U5 U3 (Qq (by omega))) (kO (OM.buildSlice (l:= [(tI (Qw s i))]) (VEvp.cons (tv (tI (Qw s i)) Y) VEvp.nil) Y (by decide) (bc (nofun) bn) (bc ((bc (Y) bn)) bn) (bc (Y) bn) ZA zo3 (by kernel_rfl) Y (by rw [Zl];decide) Zl (Nat.le_of_ble_eq_true Y)) (cO (B.append (rows:=(((Z1 s).take i).map (Qc true))) (rows2:= [[(tI (Qw s i))]]) (rows3:=(((Z1 s).take i++ [Qw s i]).map (Qc true))) (VDst.own (tv (T.os 1 0 0 ((((Z1 s).take i).map (Qc true)).length)) Y) Y Y) (VSrc.own (tv (T.os 1 1 0 1) Y) Y Y ZA (bc (bc Y bn) bn)) (by decide) ZA Zl (by decide) zo3 Y (of_decide_eq_true (by kernel_rfl)) (by (simp only [List.length_map,List.length_append,List.length_cons,List.length_nil,List.length_replicate,List.length_set,List.length_drop,List.length_take,Zr] at *;omega)) ((List.map_append (f:=Qc true) (l₁:=(Z1 s).take i) (l₂:= [Qw s i])).symm)) (aO (T.os 1 2 0 ((((Z1 s).take i++ [Qw s i]).map (Qc true)).length)) Y (VRunO.nil (vinB.n (tn (VRun.region (fO (QB (tv (tN i) Y) (VEv.int .i64 1) (by omega)) (mO (tN (i+1)) Y (VRunO.nil ?_)))))))))))
  refine tn ?_
  have he3:((Z1 s).take i++ [Qw s i])=(Z1 s).take (i+1):=by exact Qhi fhc0
  refine ⟨(i+1:Nat),?_,?_,Wk.mk (fun k=>if k=0 then 2 else k) ?_ ?_ ?_⟩
  ·trivial
  ·omega
  ·exact (b2 (b2 (bc ⟨(congrArg (fun l_=>T.os 1 2 0 (List.map (Qc true) l_).length) he3),rfl⟩ (b2 (b2 bn)))))
  ·exact (bc ⟨(congrArg (fun l_=>some (Obj.rows 1 (List.map (Qc true) l_))) he3),(lb Y),rfl⟩ bn)
  ·exact nd Y
 refine VRun.exit (vthn.e (vthn.e (vinB.e (tn (sr (mO (T.os 1 0 0 ((((Z1 s).take i).map (Qc true)).length)) Y (aO (T.os 1 0 0 ((((Z1 s).take i).map (Qc true)).length)) Y (nt (rt ?_)))))))))
 refine vfin.eq (r':=(T.sl true 1 (((Z1 s).take i).map (Qc true)))) ?_ (vfin.r (VRes.tmp (t:=(T.os 1 0 0 ((((Z1 s).take i).map (Qc true)).length))) Y VRes.nil) (Give.os Y Y (okInt.cleanMap _)))
 refine congrArg (fun l_=>T.sl true 1 (List.map (Qc true) l_)) ?_
 rw [YV (by omega) (by omega)]
theorem QcA (n:Nat) (salt:Int) (slot:Int) (w:ByteArray) (hw:w.size≤maxLen):Pure (Qr Tryz.prog (n+4)) 145 [(tI salt),(tI slot),(tS w)] (tI (Jt salt slot w)):=by
 refine Pure.intro (rs:= [ResultVar.tmp 6]) Tryz.func145 Y Y Y (E0:= [(0,(tI salt)),(1,(tI slot)),(2,(tS w))]) Y ?_
 obtain ⟨hlim,hmx,hmax⟩:=QE
 have hbl:=Qbi w
 refine sr (fO (OF.assign (VEv.int .i64 0)) (nt (sq (sr (mO (tS w) Y (cO (cS (vc (tv (tS w) Y) vn) (ZH Y) (Qah (n+1) w (by assumption)) Y Y) (fO (Q8 (tv (tB (decide (Zj w))) Y)) (nt ?_))))))))
 refine cn (Zj w) Y (fun fhc0=> ?_) fun fhc0=> ?_
 ·refine sr ?_
  refine fO (OF.assign (VEv.int .i64 0)) (nt (rt (tr (vi (n':=0) Y ?_))))
  unfold Jt;rw [if_neg fhc0]
 have hw8:=fhc0.1.2
 refine sk (tn (sr (mO (tI salt) Y (mO (tI slot) Y (mO (tS w) Y (lO (B.lenS (tv (tS w) Y) U9) (kO (OM.buildSlice (l:= [(tI salt),(tI slot),(tN w.size)]) (VEvp.cons (tv (tI salt) Y) (VEvp.cons (tv (tI slot) Y) (VEvp.cons (tv (tN w.size) Y) VEvp.nil))) Y (by decide) (bc (nofun) (bc (nofun) (bc (nofun) bn))) (bc ((bc (Y) bn)) (bc ((bc (Y) bn)) (bc ((bc (Y) bn)) bn))) (bc (Y) (bc (Y) (bc (Y) bn))) ZA zo3 (by kernel_rfl) Y (by rw [Zl];decide) Zl (Nat.le_of_ble_eq_true Y)) (mO (tS w) Y (cO (OC.callF (r':=(T.os 1 1 0 (((Z1 w).map (Qc true)).length))) (objs:= [(Obj.rows 1 ((Z1 w).map (Qc true)))]) Y (vc (tv (tS w) Y) vn) (ZH Y) (Qdn (n+2) w (by omega)) Y) (cO (B.append (rows:= [[(tI salt)],[(tI slot)],[(tN w.size)]]) (rows2:=((Z1 w).map (Qc true))) (rows3:=(([salt,slot,((w.size:Nat):Int)]++Z1 w).map (Qc true))) (VDst.own (tv (T.os 1 0 0 3) Y) Y Y) (VSrc.own (tv (T.os 1 1 0 (((Z1 w).map (Qc true)).length)) Y) Y Y ZA (okInt.okMap _ _)) (by decide) ZA Zl (by decide) zo3 Y (of_decide_eq_true (by kernel_rfl)) (by (simp only [List.length_append,List.length_cons,List.length_nil,List.length_map];omega)) ((List.map_append (f:=Qc true) (l₁:= [salt,slot,((w.size:Nat):Int)]) (l₂:=Z1 w)).symm)) (cO (cS (us:= [(rd 1 Qc ([salt,slot,((w.size:Nat):Int)]++Z1 w))]) (vc (tv (T.os 1 2 0 ((([salt,slot,((w.size:Nat):Int)]++Z1 w).map (Qc true)).length)) Y) vn) (LendL.cons (Lend.os Y Y (okInt.fzMap _ _)) ln) (Qhb (n+0) ([salt,slot,((w.size:Nat):Int)]++Z1 w) (by (simp only [List.length_append,List.length_cons,List.length_nil,List.length_map];omega))) Y Y) ?_)))))))))))
 refine aO (tI (Q6 ([salt,slot,((w.size:Nat):Int)]++Z1 w))) Y (nt (rt (vi (n':=Q6 ([salt,slot,((w.size:Nat):Int)]++Z1 w)) Y ?_)))
 unfold Jt;rw [if_pos fhc0]
theorem Qcn (n:Nat) (salt:Int) (slot:Int) (w:ByteArray) (hw:w.size≤maxLen):Pure (Qr Tryz.prog (n+4)) 147 [(tI salt),(tI slot),(tS w)] (tI (Jt salt slot w)):=by
 refine Pure.intro (rs:= [ResultVar.tmp 6]) Tryz.func147 Y Y Y (E0:= [(0,(tI salt)),(1,(tI slot)),(2,(tS w))]) Y ?_
 obtain ⟨hlim,hmx,hmax⟩:=QE
 have hbl:=Qbi w
 refine sr (fO (OF.assign (VEv.int .i64 0)) (nt (sq (sr (mO (tS w) Y (cO (cS (vc (tv (tS w) Y) vn) (ZH Y) (Qac (n+1) w (by assumption)) Y Y) (fO (Q8 (tv (tB (decide (Zj w))) Y)) (nt ?_))))))))
 refine cn (Zj w) Y (fun fhc0=> ?_) fun fhc0=> ?_
 ·refine sr ?_
  refine fO (OF.assign (VEv.int .i64 0)) (nt (rt (tr (vi (n':=0) Y ?_))))
  unfold Jt;rw [if_neg fhc0]
 have hw8:=fhc0.1.2
 refine sk (tn (sr (mO (tI salt) Y (mO (tI slot) Y (mO (tS w) Y (lO (B.lenS (tv (tS w) Y) U9) (kO (OM.buildSlice (l:= [(tI salt),(tI slot),(tN w.size)]) (VEvp.cons (tv (tI salt) Y) (VEvp.cons (tv (tI slot) Y) (VEvp.cons (tv (tN w.size) Y) VEvp.nil))) Y (by decide) (bc (nofun) (bc (nofun) (bc (nofun) bn))) (bc ((bc (Y) bn)) (bc ((bc (Y) bn)) (bc ((bc (Y) bn)) bn))) (bc (Y) (bc (Y) (bc (Y) bn))) ZA zo3 (by kernel_rfl) Y (by rw [Zl];decide) Zl (Nat.le_of_ble_eq_true Y)) (mO (tS w) Y (cO (OC.callF (r':=(T.os 1 1 0 (((Z1 w).map (Qc true)).length))) (objs:= [(Obj.rows 1 ((Z1 w).map (Qc true)))]) Y (vc (tv (tS w) Y) vn) (ZH Y) (Qc1 (n+2) w (by omega)) Y) (cO (B.append (rows:= [[(tI salt)],[(tI slot)],[(tN w.size)]]) (rows2:=((Z1 w).map (Qc true))) (rows3:=(([salt,slot,((w.size:Nat):Int)]++Z1 w).map (Qc true))) (VDst.own (tv (T.os 1 0 0 3) Y) Y Y) (VSrc.own (tv (T.os 1 1 0 (((Z1 w).map (Qc true)).length)) Y) Y Y ZA (okInt.okMap _ _)) (by decide) ZA Zl (by decide) zo3 Y (of_decide_eq_true (by kernel_rfl)) (by (simp only [List.length_append,List.length_cons,List.length_nil,List.length_map];omega)) ((List.map_append (f:=Qc true) (l₁:= [salt,slot,((w.size:Nat):Int)]) (l₂:=Z1 w)).symm)) (cO (cS (us:= [(rd 1 Qc ([salt,slot,((w.size:Nat):Int)]++Z1 w))]) (vc (tv (T.os 1 2 0 ((([salt,slot,((w.size:Nat):Int)]++Z1 w).map (Qc true)).length)) Y) vn) (LendL.cons (Lend.os Y Y (okInt.fzMap _ _)) ln) (QhC (n+0) ([salt,slot,((w.size:Nat):Int)]++Z1 w) (by (simp only [List.length_append,List.length_cons,List.length_nil,List.length_map];omega))) Y Y) ?_)))))))))))
 refine aO (tI (Q6 ([salt,slot,((w.size:Nat):Int)]++Z1 w))) Y (nt (rt (vi (n':=Q6 ([salt,slot,((w.size:Nat):Int)]++Z1 w)) Y ?_)))
 unfold Jt;rw [if_pos fhc0]
theorem QbF (n:Nat) (seals:List Int) (salt:Int) (slot:Int) (w:ByteArray) (hl:seals.length≤Zr) (hw:w.size≤maxLen):Pure (Qr Tryz.prog (n+5)) 121 [(rd 1 Qc seals),(tI salt),(tI slot),(tS w)] (tB (decide (Qe2 seals salt slot w))):=by
 refine Pure.intro (rs:= [ResultVar.tmp 8]) Tryz.func121 Y Y Y (E0:= [(0,(rd 1 Qc seals)),(1,(tI salt)),(2,(tI slot)),(3,(tS w))]) Y ?_
 obtain ⟨hlim,hmx,hmax⟩:=QE
 refine sr (fO (OF.assign (VEv.bool false)) (nt (sq (VRun.draw (B:= [[],[],[1],[1,2],[2,1,3,0],[0,3,1,2,4],[4,2,1,3,0,5],[5,0,3,1,2,4,6],[6,7,4,2,1,3,0,5],[5,0,3,1,2,4,7,6,8],[8,6,7,4,2,1,3,0,5,9],[8,6,7,4,2,1,3,0,5,9],[8,6,7,4,2,1,3,0,5,9],[12,11,9,5,0,3,1,2,4,7,6,8,10],[8,6,7,4,2,1,3,0,5,9],[8,6,7,4,2,1,3,0,5,9],[15,9,5,0,3,1,2,4,7,6,8,14],[14,8,6,7,4,2,1,3,0,5,9,15,16],[16,15,14,17,10,8,6,7,4,2,1,3,0,5,9,11,12,13],[13,12,11,10,17,14,15,16,18,8,6,7,4,2,1,3,0,5,9],[9,5,0,3,1,2,4,7,6,8,18,16,15,14,17,10,11,12,13,19]]) (by kernel_rfl) (by kernel_rfl) (mD (tI slot) Y Y (mD (rd 1 Qc seals) Y Y (lD (B.lenR (m:=seals.length) (tv (rd 1 Qc seals) Y) ZA (List.length_map ..)) Y Y (fD (B.sub (n:=(((seals.length:Nat):Int) - 1)) (tv (tN seals.length) Y) (VEv.int .i64 1) (by (rw [Qq (by omega)];done))) Y Y (VRunD.quiet (bi:= [2,1,3,0]) Y VWant.always Y Y Y bn (cS (vc (tv (tI slot) Y) (vc (VEv.int .i64 0) (vc (tv (tI (((seals.length:Nat):Int) - 1)) Y) vn))) (ZH Y) (QZ (n+3) slot 0 (((seals.length:Nat):Int) - 1)) Y Y) (mD (tB (decide (0≤slot∧slot≤(((seals.length:Nat):Int) - 1)))) Y Y ?_))))))))))
 refine gw (0≤slot∧slot≤(((seals.length:Nat):Int) - 1)) (fun fhg14_1=> ?_) fun fhg14_1=> ?_
 ·refine VRunD.free Y (VWant.on Y Y (dy fhg14_1)) Y (OF.move (tv (tS w) Y)) ?_
  refine VRunD.quiet (bi:= [5,0,3,1,2,4,6]) Y (VWant.on Y Y (dy fhg14_1)) Y Y Y bn (cS (vc (tv (tS w) Y) vn) (ZH Y) (Qah (n+2) w (by assumption)) Y Y) (fD (OF.pickT (VEv.tmpB Y (dy fhg14_1)) (tv (tB (decide (Zj w))) Y)) Y Y (mD (tB (decide (Zj w))) Y Y ?_))
  refine gw (Zj w) (fun fhg18_2=> ?_) fun fhg18_2=> ?_
  ·refine VRunD.free Y (VWant.on Y Y (dy fhg18_2)) Y (OF.move (tv (tI salt) Y)) ?_
   refine VRunD.free Y (VWant.on Y Y (dy fhg18_2)) Y (OF.move (tv (tI slot) Y)) (VRunD.free Y (VWant.on Y Y (dy fhg18_2)) Y (OF.move (tv (tS w) Y)) (VRunD.quiet (bi:= [12,11,9,5,0,3,1,2,4,7,6,8,10]) Y (VWant.on Y Y (dy fhg18_2)) Y Y Y bn (cS (vc (tv (tI salt) Y) (vc (tv (tI slot) Y) (vc (tv (tS w) Y) vn))) (ZH Y) (QcA (n+0) salt slot w (by assumption)) Y Y) (VRunD.free Y (VWant.on Y Y (dy fhg18_2)) Y (OF.move (tv (rd 1 Qc seals) Y)) (VRunD.free Y (VWant.on Y Y (dy fhg18_2)) Y (OF.move (tv (tI slot) Y)) ?_))))
   obtain ⟨x1,hx1⟩:∃x,seals[(Int.toNat slot)]? =some x:=⟨_,List.getElem?_eq_getElem (by omega)⟩
   refine VRunD.free Y (VWant.on Y Y (dy fhg18_2)) Y (OF.indexAddrR (row:=(Qc false x1)) (i:=(Int.toNat slot)) (tv (rd 1 Qc seals) Y) (tv (tI slot) Y) (by omega) (Qt _ hx1) ZA Zl YK) (VRunD.look Y (VWant.on Y Y (dy fhg18_2)) Y (OL.loadR1 (t:=(tI x1)) (tv (T.rp [(tI x1)]) Y) Y QX) (VRunD.free Y (VWant.on Y Y (dy fhg18_2)) Y (YD (tv (tI (Jt salt slot w)) Y) (tv (tI x1) Y)) (fD (OF.pickT (VEv.tmpB Y (dy fhg18_2)) (tv (tB (decide (Jt salt slot w=x1))) Y)) Y Y (fD (OF.assign (tv (tB (decide (Jt salt slot w=x1))) Y)) Y Y (VRunD.nil (tn (rt (vb (b':=(decide (Jt salt slot w=x1))) Y ?_))))))))
   (refine Zd (Qi0 ?_ ?_ hx1);omega;assumption)
  refine oD Y Y (dz fhg18_2) Y (oD Y Y (dz fhg18_2) Y (oD Y Y (dz fhg18_2) Y (oD Y Y (dz fhg18_2) Y (oD Y Y (dz fhg18_2) Y (oD Y Y (dz fhg18_2) Y (oD Y Y (dz fhg18_2) Y (oD Y Y (dz fhg18_2) Y (oD Y Y (dz fhg18_2) Y (fD (OF.pickF (VEv.tmpB Y (dz fhg18_2)) (VEv.bool false)) Y Y (fD (OF.assign (tv (tB false) Y)) Y Y (VRunD.nil ?_)))))))))))
  refine tn (rt (vb (b':=false) Y ?_))
  (symm;rw [decide_eq_false_iff_not];intro h;have h2:=Qeo h;have h3:=h.1;exact absurd h.2.1 (by assumption))
 refine oD Y Y (dz fhg14_1) Y (oD Y Y (dz fhg14_1) Y (fD (OF.pickF (VEv.tmpB Y (dz fhg14_1)) (VEv.bool false)) Y Y (mD (tB false) Y Y (VRunD.off Y (VWant.not (b:=false) Y Y Y) (VRunD.off Y (VWant.not (b:=false) Y Y Y) (VRunD.off Y (VWant.not (b:=false) Y Y Y) (VRunD.off Y (VWant.not (b:=false) Y Y Y) (VRunD.off Y (VWant.not (b:=false) Y Y Y) (VRunD.off Y (VWant.not (b:=false) Y Y Y) (VRunD.off Y (VWant.not (b:=false) Y Y Y) (VRunD.off Y (VWant.not (b:=false) Y Y Y) ?_)))))))))))
 refine VRunD.off Y (VWant.not (b:=false) Y Y Y) (fD (OF.pickF (tv (tB false) Y) (VEv.bool false)) Y Y (fD (OF.assign (tv (tB false) Y)) Y Y (VRunD.nil (tn (rt (vb (b':=false) Y ?_))))))
 (symm;rw [decide_eq_false_iff_not];intro h;have h2:=Qeo h;have h3:=h.1;omega)
theorem QbJ (n:Nat) (seals:List Int) (salt:Int) (slot:Int) (w:ByteArray) (hl:seals.length≤Zr) (hw:w.size≤maxLen):Pure (Qr Tryz.prog (n+5)) 126 [(rd 1 Qc seals),(tI salt),(tI slot),(tS w)] (tB (decide (Qe2 seals salt slot w))):=by
 refine Pure.intro (rs:= [ResultVar.tmp 8]) Tryz.func126 Y Y Y (E0:= [(0,(rd 1 Qc seals)),(1,(tI salt)),(2,(tI slot)),(3,(tS w))]) Y ?_
 obtain ⟨hlim,hmx,hmax⟩:=QE
 refine sr (fO (OF.assign (VEv.bool false)) (nt (sq (VRun.draw (B:= [[],[],[1],[1,2,0],[0,2,1,3],[3,1,2,0,4],[4,0,2,1,3,5],[5,6,3,1,2,0,4],[4,0,2,1,3,6,5,7],[7,5,6,3,1,2,0,4,8],[7,5,6,3,1,2,0,4,8],[7,5,6,3,1,2,0,4,8],[11,10,8,4,0,2,1,3,6,5,7,9],[7,5,6,3,1,2,0,4,8],[7,5,6,3,1,2,0,4,8],[14,8,4,0,2,1,3,6,5,7,13],[13,7,5,6,3,1,2,0,4,8,14,15],[15,14,13,16,9,7,5,6,3,1,2,0,4,8,10,11,12],[12,11,10,9,16,13,14,15,17,7,5,6,3,1,2,0,4,8],[8,4,0,2,1,3,6,5,7,17,15,14,13,16,9,10,11,12,18]]) (by kernel_rfl) (by kernel_rfl) (mD (tI slot) Y Y (mD (rd 1 Qc seals) Y Y (lD (B.lenR (m:=seals.length) (tv (rd 1 Qc seals) Y) ZA (List.length_map ..)) Y Y (VRunD.quiet (bi:= [1,2,0]) Y VWant.always Y Y Y bn (cS (vc (tv (tI slot) Y) (vc (tv (tN seals.length) Y) vn)) (ZH Y) (Y8 (n+3) slot ((seals.length:Nat):Int)) Y Y) (mD (tB (decide (0≤slot∧slot<((seals.length:Nat):Int)))) Y Y ?_)))))))))
 refine gw (0≤slot∧slot<((seals.length:Nat):Int)) (fun fhg13_1=> ?_) fun fhg13_1=> ?_
 ·refine VRunD.free Y (VWant.on Y Y (dy fhg13_1)) Y (OF.move (tv (tS w) Y)) ?_
  refine VRunD.quiet (bi:= [4,0,2,1,3,5]) Y (VWant.on Y Y (dy fhg13_1)) Y Y Y bn (cS (vc (tv (tS w) Y) vn) (ZH Y) (Qac (n+2) w (by assumption)) Y Y) (fD (OF.pickT (VEv.tmpB Y (dy fhg13_1)) (tv (tB (decide (Zj w))) Y)) Y Y (mD (tB (decide (Zj w))) Y Y ?_))
  refine gw (Zj w) (fun fhg17_2=> ?_) fun fhg17_2=> ?_
  ·refine VRunD.free Y (VWant.on Y Y (dy fhg17_2)) Y (OF.move (tv (tI salt) Y)) ?_
   refine VRunD.free Y (VWant.on Y Y (dy fhg17_2)) Y (OF.move (tv (tI slot) Y)) (VRunD.free Y (VWant.on Y Y (dy fhg17_2)) Y (OF.move (tv (tS w) Y)) (VRunD.quiet (bi:= [11,10,8,4,0,2,1,3,6,5,7,9]) Y (VWant.on Y Y (dy fhg17_2)) Y Y Y bn (cS (vc (tv (tI salt) Y) (vc (tv (tI slot) Y) (vc (tv (tS w) Y) vn))) (ZH Y) (Qcn (n+0) salt slot w (by assumption)) Y Y) (VRunD.free Y (VWant.on Y Y (dy fhg17_2)) Y (OF.move (tv (rd 1 Qc seals) Y)) (VRunD.free Y (VWant.on Y Y (dy fhg17_2)) Y (OF.move (tv (tI slot) Y)) ?_))))
   obtain ⟨x1,hx1⟩:∃x,seals[(Int.toNat slot)]? =some x:=⟨_,List.getElem?_eq_getElem (by omega)⟩
   refine VRunD.free Y (VWant.on Y Y (dy fhg17_2)) Y (OF.indexAddrR (row:=(Qc false x1)) (i:=(Int.toNat slot)) (tv (rd 1 Qc seals) Y) (tv (tI slot) Y) (by omega) (Qt _ hx1) ZA Zl YK) (VRunD.look Y (VWant.on Y Y (dy fhg17_2)) Y (OL.loadR1 (t:=(tI x1)) (tv (T.rp [(tI x1)]) Y) Y QX) (VRunD.free Y (VWant.on Y Y (dy fhg17_2)) Y (YD (tv (tI (Jt salt slot w)) Y) (tv (tI x1) Y)) (fD (OF.pickT (VEv.tmpB Y (dy fhg17_2)) (tv (tB (decide (Jt salt slot w=x1))) Y)) Y Y (fD (OF.assign (tv (tB (decide (Jt salt slot w=x1))) Y)) Y Y (VRunD.nil (tn (rt (vb (b':=(decide (Jt salt slot w=x1))) Y ?_))))))))
   (refine Zd (Qi0 ?_ ?_ hx1);omega;assumption)
  refine oD Y Y (dz fhg17_2) Y (oD Y Y (dz fhg17_2) Y (oD Y Y (dz fhg17_2) Y (oD Y Y (dz fhg17_2) Y (oD Y Y (dz fhg17_2) Y (oD Y Y (dz fhg17_2) Y (oD Y Y (dz fhg17_2) Y (oD Y Y (dz fhg17_2) Y (oD Y Y (dz fhg17_2) Y (fD (OF.pickF (VEv.tmpB Y (dz fhg17_2)) (VEv.bool false)) Y Y (fD (OF.assign (tv (tB false) Y)) Y Y (VRunD.nil ?_)))))))))))
  refine tn (rt (vb (b':=false) Y ?_))
  (symm;rw [decide_eq_false_iff_not];intro h;have h2:=Qeo h;have h3:=h.1;exact absurd h.2.1 (by assumption))
 refine oD Y Y (dz fhg13_1) Y (oD Y Y (dz fhg13_1) Y (fD (OF.pickF (VEv.tmpB Y (dz fhg13_1)) (VEv.bool false)) Y Y (mD (tB false) Y Y (VRunD.off Y (VWant.not (b:=false) Y Y Y) (VRunD.off Y (VWant.not (b:=false) Y Y Y) (VRunD.off Y (VWant.not (b:=false) Y Y Y) (VRunD.off Y (VWant.not (b:=false) Y Y Y) (VRunD.off Y (VWant.not (b:=false) Y Y Y) (VRunD.off Y (VWant.not (b:=false) Y Y Y) (VRunD.off Y (VWant.not (b:=false) Y Y Y) (VRunD.off Y (VWant.not (b:=false) Y Y Y) ?_)))))))))))
 refine VRunD.off Y (VWant.not (b:=false) Y Y Y) (fD (OF.pickF (tv (tB false) Y) (VEv.bool false)) Y Y (fD (OF.assign (tv (tB false) Y)) Y Y (VRunD.nil (tn (rt (vb (b':=false) Y ?_))))))
 (symm;rw [decide_eq_false_iff_not];intro h;have h2:=Qeo h;have h3:=h.1;omega)
noncomputable section
def QN (g:D.Grid) (f:ByteArray) (seals:List Int) (salt:Int):Nat→List Int
 | 0=> []
 | i+1=>QN g f seals salt i++(if Qe2 seals salt ((i:Nat):Int) (Ym g f ((i:Nat):Int)) then [((i:Nat):Int)] else [])
def ZM (g:D.Grid) (f:ByteArray) (seals:List Int) (salt:Int):List Int:=if Q2 g f then QN g f seals salt (Qa g).length else []
theorem QaL (g:D.Grid) (f:ByteArray) (seals:List Int) (salt:Int):∀i,(QN g f seals salt i).length≤i
 | 0=>Nat.le_refl _
 | i+1=>by
  have:=QaL g f seals salt i
  unfold QN
  rw [List.length_append]
  split<;>simp only [List.length_cons,List.length_nil]<;>omega
theorem QeK (g:D.Grid) (f:ByteArray) (seals:List Int) (salt:Int):(ZM g f seals salt).length≤72:=by
 unfold ZM
 split
 ·exact Nat.le_trans (QaL _ _ _ _ _) (Zh g)
 ·simp
theorem Qf6 {g:D.Grid} {f:ByteArray} {seals:List Int} {salt:Int} {i:Nat} (h:Qe2 seals salt ((i:Nat):Int) (Ym g f ((i:Nat):Int))):QN g f seals salt i++ [((i:Nat):Int)]=QN g f seals salt (i+1):=by rw [QN,if_pos h]
theorem Qhv {g:D.Grid} {f:ByteArray} {seals:List Int} {salt:Int} {i:Nat} (h:¬Qe2 seals salt ((i:Nat):Int) (Ym g f ((i:Nat):Int))):QN g f seals salt i=QN g f seals salt (i+1):=by rw [QN,if_neg h,List.append_nil]
theorem Qf5 {g:D.Grid} {f:ByteArray} {seals:List Int} {salt:Int} {i:Nat} (h1:i≤(Qa g).length) (h2:Q2 g f∨i=0) (h3:¬(i<(Qa g).length∧Q2 g f)):QN g f seals salt i=ZM g f seals salt:=by
 unfold ZM
 by_cases h:Q2 g f
 ·rw [if_pos h,show i=(Qa g).length by have:¬i<(Qa g).length:=fun e=>h3 ⟨e,h⟩;omega]
 ·rw [if_neg h,h2.resolve_left h];rfl
theorem QcS (g:D.Grid) (f:ByteArray) (slot:Int):(Ym g f slot).size≤6:=by
 unfold Ym
 split
 ·split
  ·rename_i s hs
   split
   ·rw [QhG];exact Qbm hs
   ·exact Nat.zero_le _
  ·exact Nat.zero_le _
 ·exact Nat.zero_le _
theorem Qhp (g:D.Grid) (f:ByteArray):(Yd g f).length≤(Qa g).length:=by
 by_cases h:Q2 g f
 ·rw [Qf0 h];exact Nat.le_refl _
 ·unfold Yd;rw [if_neg h];exact Nat.zero_le _
theorem Qkw {g:D.Grid} {f:ByteArray} (h:¬Q2 g f):Yd g f= []:=if_neg h
theorem Qin {g:D.Grid} {f:ByteArray} {seals:List Int} {salt:Int} {i:Nat} (h1:i≤(Yd g f).length) (h2:¬i<(Yd g f).length):QN g f seals salt i=ZM g f seals salt:=by
 have hpl:=Qhp g f
 refine Qf5 (by omega) ?_ ?_
 ·by_cases h:Q2 g f
  ·exact .inl h
  ·right;rw [Qkw h] at h1;exact Nat.le_zero.1 h1
 ·rintro ⟨h3,h4⟩;rw [Qf0 h4] at h2;exact h2 h3
end
theorem QcJ (n:Nat) (g:D.Grid) (f:ByteArray) (seals:List Int) (salt:Int) (hc:g.Cells.size≤maxLen) (hf:f.size≤maxLen) (hl:seals.length≤Zr):Pure (Qr Tryz.prog (n+6)) 88 [(T.agg (Qb false g)),(tS f),(rd 1 Qc seals),(tI salt)] (T.sl true 1 ((ZM g f seals salt).map (Qc true))):=by
 refine Pure.intro (rs:= [ResultVar.tmp 8]) Tryz.func88 Y Y Y (E0:= [(0,(T.agg (Qb false g))),(1,(tS f)),(2,(rd 1 Qc seals)),(3,(tI salt))]) Y ?_
 obtain ⟨hlim,hmx,hmax⟩:=QE
 have hsl:=Zh g
 refine sr (kO (B.box (ts:=(Qb false g)) (tv (T.agg (Qb false g)) Y) nofun Y) (fO (OF.assign VEv.nils) (nt (sr (kO (OM.slice0 ZA zo3 (by kernel_rfl) Y (by rw [Zl];decide) Zl) (aO (T.os 1 1 0 0) Y (nt (sr (lO (OL.loadOn (us:=(Qb false g)) (tv (T.op 0 0) Y) Y Q3 QY (lb Y) Y) (cO (OC.callF (r':=(T.os 4 2 0 (((Qa g).map (Qi true)).length))) (objs:= [(Obj.rows 4 ((Qa g).map (Qi true)))]) Y (vc (tv (T.agg (Qb false g)) Y) vn) (LendL.cons (lg Qs) ln) (Zw (n+2) g (by assumption)) Y) (aO (T.os 4 2 0 (((Qa g).map (Qi true)).length)) Y ?_)))))))))))
 refine nt (sq (sr (fO (OF.assign (VEv.int .i64 0)) (nt (VRun.block ?_)))))
 have he1: []=((QN g f seals salt 0).map (Qc true)):=by rfl
 refine VRun.loop (A:=Nat) (fun s_=> [(1,(tS f)),(2,(rd 1 Qc seals)),(3,(tI salt)),(4,(T.op 0 0)),(8,T.nils),(9,(T.os 1 2 0 (((QN g f seals salt s_).map (Qc true)).length))),(10,(T.os 4 1 0 (((Qa g).map (Qi true)).length))),(11,(tN s_))]) (fun s_=>Q5 [(0,(Obj.cells (Qb false g))),(1,(Obj.rows 4 ((Qa g).map (Qi true)))),(2,(Obj.rows 1 ((QN g f seals salt s_).map (Qc true))))]) 3 (fun s_=>s_≤(Qa g).length∧(Q2 g f∨s_=0)) (fun s_=>(Qa g).length - s_) (0:Nat) ?_ (Wk.mk (fun k=>if k=1 then 2 else if k=2 then 1 else k) ?_ ?_ ?_) ?_
 ·exact ⟨Nat.zero_le _, .inr Y⟩
 ·exact (b2 (b2 (b2 (b2 (b2 (bc ⟨(congrArg (fun n_=>T.os 1 1 0 n_) (show 0=((QN g f seals salt 0).map (Qc true)).length from (by rfl))),rfl⟩ (b2 (b2 bn))))))))
 ·exact (b3 (b3 (bc ⟨(congrArg (fun l_=>some (Obj.rows 1 l_)) he1),(lb Y),rfl⟩ bn)))
 ·exact nd Y
 rintro i (hI':i≤(Qa g).length∧(Q2 g f∨i=0))
 show VRun _ _ _ [(1,(tS f)),(2,(rd 1 Qc seals)),(3,(tI salt)),(4,(T.op 0 0)),(8,T.nils),(9,(T.os 1 2 0 (((QN g f seals salt i).map (Qc true)).length))),(10,(T.os 4 1 0 (((Qa g).map (Qi true)).length))),(11,(tN i))] (Q5 [(0,(Obj.cells (Qb false g))),(1,(Obj.rows 4 ((Qa g).map (Qi true)))),(2,(Obj.rows 1 ((QN g f seals salt i).map (Qc true))))]) 3 _
 have hI1:=hI'.1
 have hrl:=QaL g f seals salt i
 have hps:=QcS g f ((i:Nat):Int)
 refine sq (sr (mO (tN i) Y (mO (T.os 4 1 0 (((Qa g).map (Qi true)).length)) Y (lO (B.lenO (m:=(Qa g).length) (tv (T.os 4 1 0 (((Qa g).map (Qi true)).length)) Y) U81 (List.length_map ..)) (fO (Zg (tv (tN i) Y) (tv (tN ((Qa g).length)) Y)) (mO (tB (decide (i<(Qa g).length))) Y ?_))))))
 refine VRunO.joinB 4 [20,21,22] 23 (tB (decide ((i<(Qa g).length)∧(Q2 g f)))) ?_ ?_
 ·refine gw (i<(Qa g).length) (fun fhg19_2=> ?_) fun fhg19_2=> ?_
  ·refine gL (dy fhg19_2) Y Y (OL.loadOn (us:=(Qb false g)) (tv (T.op 0 0) Y) Y Q3 QY (lb Y) Y) ?_
   refine gF (dy fhg19_2) Y Y (OF.move (tv (tS f) Y)) (VRunO.chain (VWant.on Y Y (dy fhg19_2)) (cS (vc (tv (T.agg (Qb false g)) Y) (vc (tv (tS f) Y) vn)) (LendL.cons (lg Qs) (lp Y ln)) (Qab (n+2) g f (by assumption) (by assumption)) Y Y) (fO (OF.pickT (VEv.tmpB Y (dy fhg19_2)) (tv (tB (decide (Q2 g f))) Y)) (VRunO.nil ?_)))
   exact jq (congrArg T.bool (kAT fhg19_2 Y)) (js Y (js Y (js Y (jn))))
  ·refine QA 3 4 true 19 (dz fhg19_2) Y Y Y ?_
   refine fO (OF.pickF (VEv.tmpB Y (dz fhg19_2)) (VEv.bool false)) (VRunO.nil ?_)
   exact jq (congrArg T.bool (kAF fhg19_2)) (js Y (js Y (js Y (jn))))
 refine nt ?_
 refine cd ((i<(Qa g).length)∧(Q2 g f)) Y (fun fhc0=> ?_) fun fhc0=> ?_
 ·refine sk ?_
  refine tn (sq (VRun.block (sr (mO (rd 1 Qc seals) Y (mO (tI salt) Y (mO (tN i) Y (lO (OL.loadOn (us:=(Qb false g)) (tv (T.op 0 0) Y) Y Q3 QY (lb Y) Y) (mO (tS f) Y (mO (tN i) Y (cO (cS (vc (tv (T.agg (Qb false g)) Y) (vc (tv (tS f) Y) (vc (tv (tN i) Y) vn))) (LendL.cons (lg Qs) (lp Y (lp Y ln))) (Qb7 (n+0) g f ((i:Nat):Int) (by assumption) (by assumption)) Y Y) (cO (cS (vc (tv (rd 1 Qc seals) Y) (vc (tv (tI salt) Y) (vc (tv (tN i) Y) (vc (tv (tS (Ym g f ((i:Nat):Int))) Y) vn)))) (ZH Y) (QbF (n+0) seals salt ((i:Nat):Int) (Ym g f ((i:Nat):Int)) (by assumption) (by omega)) Y Y) ?_)))))))))))
  refine nt ?_
  refine cd (Qe2 seals salt ((i:Nat):Int) (Ym g f ((i:Nat):Int))) Y (fun fhc1=> ?_) fun fhc1=> ?_
  ·refine VRun.region ?_
   refine mO (T.os 1 2 0 (((QN g f seals salt i).map (Qc true)).length)) Y (mO (tN i) Y (kO (OM.buildSlice (l:= [(tN i)]) (VEvp.cons (tv (tN i) Y) VEvp.nil) Y (by decide) (bc (nofun) bn) (bc ((bc (Y) bn)) bn) (bc (Y) bn) ZA zo3 (by kernel_rfl) Y (by rw [Zl];decide) Zl (Nat.le_of_ble_eq_true Y)) (cO (B.append (rows:=((QN g f seals salt i).map (Qc true))) (rows2:= [[(tN i)]]) (rows3:=((QN g f seals salt i++ [((i:Nat):Int)]).map (Qc true))) (VDst.own (tv (T.os 1 2 0 (((QN g f seals salt i).map (Qc true)).length)) Y) Y Y) (VSrc.own (tv (T.os 1 3 0 1) Y) Y Y ZA (bc (bc Y bn) bn)) (by decide) ZA Zl (by decide) zo3 Y (of_decide_eq_true (by kernel_rfl)) (by (simp only [List.length_map,List.length_append,List.length_cons,List.length_nil,List.length_replicate,List.length_set,List.length_drop,List.length_take,Zr] at *;omega)) ((List.map_append (f:=Qc true) (l₁:=QN g f seals salt i) (l₂:= [((i:Nat):Int)])).symm)) (aO (T.os 1 4 0 (((QN g f seals salt i++ [((i:Nat):Int)]).map (Qc true)).length)) Y (VRunO.nil (vinB.n (tn (VRun.region (mO (tN i) Y (fO (QB (tv (tN i) Y) (VEv.int .i64 1) (by omega)) (aO (tN (i+1)) Y ?_)))))))))))
   refine VRunO.nil (tn ?_)
   have he3:(QN g f seals salt i++ [((i:Nat):Int)])=QN g f seals salt (i+1):=by exact Qf6 fhc1
   refine ⟨(i+1:Nat),?_,?_,Wk.mk (fun k=>if k=2 then 4 else k) ?_ ?_ ?_⟩
   ·exact ⟨by omega, .inl fhc0.2⟩
   ·omega
   ·exact (b2 (b2 (b2 (b2 (b2 (bc ⟨(congrArg (fun l_=>T.os 1 4 0 (List.map (Qc true) l_).length) he3),rfl⟩ (b2 (b2 bn))))))))
   ·exact (b3 (b3 (bc ⟨(congrArg (fun l_=>some (Obj.rows 1 (List.map (Qc true) l_))) he3),(lb Y),rfl⟩ bn)))
   ·exact nd Y
  refine sk (vinB.n (tn (VRun.region (mO (tN i) Y (fO (QB (tv (tN i) Y) (VEv.int .i64 1) (by omega)) (aO (tN (i+1)) Y (VRunO.nil (tn ?_))))))))
  have he4:QN g f seals salt i=QN g f seals salt (i+1):=by exact Qhv fhc1
  refine ⟨(i+1:Nat),?_,?_,Wk.mk (fun k=>k) ?_ ?_ ?_⟩
  ·exact ⟨by omega, .inl fhc0.2⟩
  ·omega
  ·exact (b2 (b2 (b2 (b2 (b2 (bc ⟨(congrArg (fun l_=>T.os 1 2 0 (List.map (Qc true) l_).length) he4),rfl⟩ (b2 (b2 bn))))))))
  ·exact (b3 (b3 (bc ⟨(congrArg (fun l_=>some (Obj.rows 1 (List.map (Qc true) l_))) he4),(lb Y),rfl⟩ bn)))
  ·exact nd Y
 refine VRun.exit (vthn.e (vthn.e (vinB.e (tn (sr (mO (T.os 1 2 0 (((QN g f seals salt i).map (Qc true)).length)) Y (aO (T.os 1 2 0 (((QN g f seals salt i).map (Qc true)).length)) Y (nt (rt ?_)))))))))
 refine vfin.eq (r':=(T.sl true 1 ((QN g f seals salt i).map (Qc true)))) ?_ (vfin.r (VRes.tmp (t:=(T.os 1 2 0 (((QN g f seals salt i).map (Qc true)).length))) Y VRes.nil) (Give.os Y Y (okInt.cleanMap _)))
 refine congrArg (fun l_=>T.sl true 1 (List.map (Qc true) l_)) ?_
 exact Qf5 hI1 hI'.2 fhc0
theorem Qcr (n:Nat) (g:D.Grid) (f:ByteArray) (seals:List Int) (salt:Int) (hc:g.Cells.size≤maxLen) (hf:f.size≤maxLen) (hl:seals.length≤Zr):Pure (Qr Tryz.prog (n+6)) 90 [(T.agg (Qb false g)),(tS f),(rd 1 Qc seals),(tI salt)] (T.sl true 1 ((ZM g f seals salt).map (Qc true))):=by
 refine Pure.intro (rs:= [ResultVar.tmp 8]) Tryz.func90 Y Y Y (E0:= [(0,(T.agg (Qb false g))),(1,(tS f)),(2,(rd 1 Qc seals)),(3,(tI salt))]) Y ?_
 obtain ⟨hlim,hmx,hmax⟩:=QE
 have hsl:=Zh g
 have hpl:=Qhp g f
 refine sr (kO (B.box (ts:=(Qb false g)) (tv (T.agg (Qb false g)) Y) nofun Y) (fO (OF.assign VEv.nils) (nt (sr (fO (OF.assign VEv.nils) (nt (sq (sr (lO (OL.loadOn (us:=(Qb false g)) (tv (T.op 0 0) Y) Y Q3 QY (lb Y) Y) (mO (tS f) Y (cO (OC.callF (r':=(T.os 1 1 0 (((Yd g f).map (Qv true)).length))) (objs:= [(Obj.rows 1 ((Yd g f).map (Qv true)))]) Y (vc (tv (T.agg (Qb false g)) Y) (vc (tv (tS f) Y) vn)) (LendL.cons (lg Qs) (lp Y ln)) (Qd7 (n+0) g f (by assumption) (by assumption)) Y) ?_)))))))))))
 refine lO (B.lenO (m:=(Yd g f).length) (tv (T.os 1 1 0 (((Yd g f).map (Qv true)).length)) Y) U52 (List.length_map ..)) (fO (OF.move (VEv.int .i64 0)) (nt (VRun.block (VRun.wk (Wk.freeze (sz:=1) (k:=1) (rows':=((Yd g f).map (Qv false))) [14] (bc Y bn) Y Y (okStr.fzMap _ _)) (VRun.wk (Wk.phantom 9 1 Y) ?_)))))
 have he1: []=((QN g f seals salt 0).map (Qc true)):=by rfl
 refine VRun.loop (A:=Nat) (fun s_=> [(2,(rd 1 Qc seals)),(3,(tI salt)),(8,T.nils),(9,(T.os 1 0 0 (((QN g f seals salt s_).map (Qc true)).length))),(14,(rd 1 Qv (Yd g f))),(15,(tN ((Yd g f).length))),(16,(tN s_))]) (fun s_=>Q5 [(0,(Obj.rows 1 ((QN g f seals salt s_).map (Qc true))))]) 1 (fun s_=>s_≤(Yd g f).length) (fun s_=>(Yd g f).length - s_) (0:Nat) ?_ (Wk.mk (fun k=>if k=0 then 2 else k) ?_ ?_ ?_) ?_
 ·(simp;done)
 ·exact (b2 (b2 (b2 (bc ⟨(congrArg (fun n_=>T.os 1 2 0 n_) (show 0=((QN g f seals salt 0).map (Qc true)).length from (by rfl))),rfl⟩ (b2 (b2 (b2 bn)))))))
 ·exact (bc ⟨(congrArg (fun l_=>some (Obj.rows 1 l_)) he1),(lb Y),rfl⟩ bn)
 ·exact nd Y
 rintro i (hI':i≤(Yd g f).length)
 show VRun _ _ _ [(2,(rd 1 Qc seals)),(3,(tI salt)),(8,T.nils),(9,(T.os 1 0 0 (((QN g f seals salt i).map (Qc true)).length))),(14,(rd 1 Qv (Yd g f))),(15,(tN ((Yd g f).length))),(16,(tN i))] (Q5 [(0,(Obj.rows 1 ((QN g f seals salt i).map (Qc true))))]) 1 _
 have hrl:=QaL g f seals salt i
 have hps:=QcS g f ((i:Nat):Int)
 refine sr (fO (Zg (tv (tN i) Y) (tv (tN ((Yd g f).length)) Y)) (nt (sq ?_)))
 refine cd (i<(Yd g f).length) Y (fun fhc0=> ?_) fun fhc0=> ?_
 ·refine sk ?_
  refine tn (sq (VRun.block (sr (mO (tN i) Y ?_))))
  obtain ⟨x1,hx1⟩:∃x,(Yd g f)[i]? =some x:=⟨_,List.getElem?_eq_getElem (by omega)⟩
  have hpx:=QkD hx1
  refine fO (OF.indexAddrR (row:=(Qv false x1)) (i:=i) (tv (rd 1 Qv (Yd g f)) Y) (tv (tN i) Y) Y (Qt _ hx1) U52 sz9 if9) (lO (OL.loadR1 (t:=(tS x1)) (tv (T.rp [(tS x1)]) Y) Y Ye) (aO (tN i) Y (aO (tS x1) Y (nt (sr (mO (rd 1 Qc seals) Y (mO (tI salt) Y (mO (tN i) Y (mO (tS x1) Y (cO (cS (vc (tv (rd 1 Qc seals) Y) (vc (tv (tI salt) Y) (vc (tv (tN i) Y) (vc (tv (tS x1) Y) vn)))) (ZH Y) (QbJ (n+0) seals salt ((i:Nat):Int) x1 (by assumption) (by (rw [hpx];omega))) Y Y) (nt ?_)))))))))))
  refine cd (Qe2 seals salt ((i:Nat):Int) x1) Y (fun fhc1=> ?_) fun fhc1=> ?_
  ·refine VRun.region ?_
   refine mO (T.os 1 0 0 (((QN g f seals salt i).map (Qc true)).length)) Y (mO (tN i) Y (kO (OM.buildSlice (l:= [(tN i)]) (VEvp.cons (tv (tN i) Y) VEvp.nil) Y (by decide) (bc (nofun) bn) (bc ((bc (Y) bn)) bn) (bc (Y) bn) ZA zo3 (by kernel_rfl) Y (by rw [Zl];decide) Zl (Nat.le_of_ble_eq_true Y)) (cO (B.append (rows:=((QN g f seals salt i).map (Qc true))) (rows2:= [[(tN i)]]) (rows3:=((QN g f seals salt i++ [((i:Nat):Int)]).map (Qc true))) (VDst.own (tv (T.os 1 0 0 (((QN g f seals salt i).map (Qc true)).length)) Y) Y Y) (VSrc.own (tv (T.os 1 1 0 1) Y) Y Y ZA (bc (bc Y bn) bn)) (by decide) ZA Zl (by decide) zo3 Y (of_decide_eq_true (by kernel_rfl)) (by (simp only [List.length_map,List.length_append,List.length_cons,List.length_nil,List.length_replicate,List.length_set,List.length_drop,List.length_take,Zr] at *;omega)) ((List.map_append (f:=Qc true) (l₁:=QN g f seals salt i) (l₂:= [((i:Nat):Int)])).symm)) (aO (T.os 1 2 0 (((QN g f seals salt i++ [((i:Nat):Int)]).map (Qc true)).length)) Y (VRunO.nil (vinB.n (tn (VRun.region (fO (QB (tv (tN i) Y) (VEv.int .i64 1) (by omega)) (mO (tN (i+1)) Y (VRunO.nil ?_)))))))))))
   refine tn ?_
   have he2:(QN g f seals salt i++ [((i:Nat):Int)])=QN g f seals salt (i+1):=by (rw [hpx] at fhc1;exact Qf6 fhc1)
   refine ⟨(i+1:Nat),?_,?_,Wk.mk (fun k=>if k=0 then 2 else k) ?_ ?_ ?_⟩
   ·trivial
   ·omega
   ·exact (b2 (b2 (b2 (bc ⟨(congrArg (fun l_=>T.os 1 2 0 (List.map (Qc true) l_).length) he2),rfl⟩ (b2 (b2 (b2 bn)))))))
   ·exact (bc ⟨(congrArg (fun l_=>some (Obj.rows 1 (List.map (Qc true) l_))) he2),(lb Y),rfl⟩ bn)
   ·exact nd Y
  refine sk (vinB.n (tn (VRun.region (fO (QB (tv (tN i) Y) (VEv.int .i64 1) (by omega)) (mO (tN (i+1)) Y (VRunO.nil (tn ?_)))))))
  have he3:QN g f seals salt i=QN g f seals salt (i+1):=by (rw [hpx] at fhc1;exact Qhv fhc1)
  refine ⟨(i+1:Nat),?_,?_,Wk.mk (fun k=>k) ?_ ?_ ?_⟩
  ·trivial
  ·omega
  ·exact (b2 (b2 (b2 (bc ⟨(congrArg (fun l_=>T.os 1 0 0 (List.map (Qc true) l_).length) he3),rfl⟩ (b2 (b2 (b2 bn)))))))
  ·exact (bc ⟨(congrArg (fun l_=>some (Obj.rows 1 (List.map (Qc true) l_))) he3),(lb Y),rfl⟩ bn)
  ·exact nd Y
 refine VRun.exit (vthn.e (vthn.e (vinB.e (tn (sr (mO (T.os 1 0 0 (((QN g f seals salt i).map (Qc true)).length)) Y (aO (T.os 1 0 0 (((QN g f seals salt i).map (Qc true)).length)) Y (nt (rt ?_)))))))))
 refine vfin.eq (r':=(T.sl true 1 ((QN g f seals salt i).map (Qc true)))) ?_ (vfin.r (VRes.tmp (t:=(T.os 1 0 0 (((QN g f seals salt i).map (Qc true)).length))) Y VRes.nil) (Give.os Y Y (okInt.cleanMap _)))
 refine congrArg (fun l_=>T.sl true 1 (List.map (Qc true) l_)) ?_
 exact Qin hI' fhc0
end Go.Proofs.YthifchndolccgaaGreatDoor.AE
