/- A part of what the row of FnExactIsTested uses. Conditions: as each theorem states. -/
import Derived.Test.YtjpenecpopljoaaGreatZFnExactIsTestedd
namespace Go.Proofs.YtjpenecpopljoaaGreat.AE
open Go Go.RowKit
set_option linter.unusedVariables false
set_option linter.unusedSimpArgs false
set_option maxRecDepth 20000
set_option maxHeartbeats 2000000
noncomputable section
def on (s:List Bool) (j:Nat):Bool:=s[j]?.getD false
theorem Qk6 {s:List Bool} {j:Nat} (h:on s j=true):j<s.length:=by
 rcases Nat.lt_or_ge j s.length with h1 | h1
 ·exact h1
 ·rw [on,List.getElem?_eq_none h1] at h;cases h
theorem QdD {s:List Bool} {i j:Nat} (hi:i<s.length):on (s.set i true) j=(if j=i then true else on s j):=by
 unfold on
 rw [List.getElem?_set]
 by_cases h:i=j
 ·subst h;simp [hi]
 ·rw [if_neg h,if_neg (fun e=>h e.symm)]
theorem QlM {s t:List Bool} (hl:s.length=t.length) (h:∀j,on s j=true↔on t j=true):s=t:=by
 refine List.ext_getElem? fun j=> ?_
 rcases Nat.lt_or_ge j s.length with h1 | h1
 ·have h2:j<t.length:=by omega
  have h3:=h j
  unfold on at h3
  rw [List.getElem?_eq_getElem h1,List.getElem?_eq_getElem h2] at h3 ⊢
  simp only [Option.getD_some] at h3
  rw [Bool.eq_iff_iff.2 h3]
 ·rw [List.getElem?_eq_none h1,List.getElem?_eq_none (by omega)]
theorem on_no {s:List Bool} {j:Nat}:on s j=false↔¬on s j=true:=by cases on s j<;>simp
def wG (g:D.Grid):Nat:=g.Cols.toNat
def adj (g:D.Grid) (i j:Nat):Prop:=(j=i+1∧i % wG g+1<wG g)∨(i=j+1∧j % wG g+1<wG g)∨j=i+wG g∨i=j+wG g
inductive Rch (g:D.Grid) (s:List Bool):Nat→Prop
 | base {j:Nat} (h:on s j=true):Rch g s j
 | step {i j:Nat} (h:Rch g s i) (ha:adj g i j) (hj:j<s.length) (hw:QD g.Cells j=46):Rch g s j
instance (g:D.Grid) (s:List Bool) (j:Nat):Decidable (Rch g s j):=Classical.propDecidable _
def Zp (g:D.Grid) (s:List Bool):List Bool:=(List.range s.length).map fun j=>decide (Rch g s j)
theorem Rch.lt {g:D.Grid} {s:List Bool} {j:Nat} (h:Rch g s j):j<s.length:=by
 cases h with
 | base h=>exact Qk6 h
 | step _ _ hj _=>exact hj
theorem Qch (g:D.Grid) (s:List Bool):(Zp g s).length=s.length:=by simp [Zp]
theorem on_reachL {g:D.Grid} {s:List Bool} {j:Nat}:on (Zp g s) j=true↔Rch g s j:=by
 unfold on Zp
 rw [List.getElem?_map]
 rcases Nat.lt_or_ge j s.length with h1 | h1
 ·rw [List.getElem?_eq_getElem (by simpa using h1),List.getElem_range]
  simp
 ·rw [List.getElem?_eq_none (by simpa using h1)]
  simp only [Option.map_none,Option.getD_none,Bool.false_eq_true,false_iff]
  intro h
  have:=h.lt
  omega
def QkL (g:D.Grid) (s:List Bool) (i:Nat):Prop:=∃j,adj g j i∧on s j=true
theorem Qlo {i w:Nat} (h:0<i % w) (hw:i % w<w):(i - 1) % w+1=i % w∧1≤i:=by
 have h1:i % w≤i:=Nat.mod_le _ _
 have h2:=Nat.div_add_mod i w
 refine ⟨?_,by omega⟩
 have e:i - 1=(i % w - 1)+w*(i / w):=by omega
 rw [e,Nat.add_mul_mod_self_left,Nat.mod_eq_of_lt (by omega)]
 omega
theorem Qli {i w:Nat} (h:i % w+1<w):(i+1) % w=i % w+1:=by
 have h2:=Nat.div_add_mod i w
 have e:i+1=(i % w+1)+w*(i / w):=by omega
 rw [e,Nat.add_mul_mod_self_left,Nat.mod_eq_of_lt h]
theorem Qir {g:D.Grid} {s:List Bool} {i:Nat} (hw:2≤g.Cols) (hl:i<s.length) :
  ((((0<i % g.Cols.toNat∧on s (i - 1)=true)∨(((i % g.Cols.toNat+1:Nat):Int)<g.Cols∧on s (i+1)=true))∨(g.Cols≤((i:Nat):Int)∧on s (i - g.Cols.toNat)=true))∨(i+g.Cols.toNat<s.length∧on s (i+g.Cols.toNat)=true))↔QkL g s i:=by
 have hm:i % g.Cols.toNat<g.Cols.toNat:=Nat.mod_lt _ (by omega)
 constructor
 ·rintro (((⟨h1,h2⟩ | ⟨h1,h2⟩) | ⟨h1,h2⟩) | ⟨h1,h2⟩)
  ·obtain ⟨h3,h4⟩:=Qlo h1 hm
   exact ⟨i - 1, .inl ⟨by omega,by unfold wG;omega⟩,h2⟩
  ·exact ⟨i+1, .inr (.inl ⟨rfl,by unfold wG;omega⟩),h2⟩
  ·exact ⟨i - g.Cols.toNat, .inr (.inr (.inl (by unfold wG;omega))),h2⟩
  ·exact ⟨i+g.Cols.toNat, .inr (.inr (.inr (by unfold wG;omega))),h2⟩
 ·rintro ⟨j,(⟨h1,h2⟩ | ⟨h1,h2⟩ | h1 | h1),h3⟩
  ·refine .inl (.inl (.inl ⟨?_,by rw [show i - 1=j by omega];exact h3⟩))
   unfold wG at h2
   rw [h1,Qli h2];omega
  ·refine .inl (.inl (.inr ⟨by unfold wG at h2;omega,by rw [← h1];exact h3⟩))
  ·unfold wG at h1
   refine .inl (.inr ⟨by omega,by rw [show i - g.Cols.toNat=j by omega];exact h3⟩)
  ·unfold wG at h1
   have:=Qk6 h3
   exact .inr ⟨by omega,by rw [← h1];exact h3⟩
def RS (g:D.Grid) (s0 s:List Bool):Prop:=s.length=s0.length∧(∀j,on s0 j=true→on s j=true)∧∀j,on s j=true→Rch g s0 j
theorem RS.start (g:D.Grid) (s:List Bool):RS g s s:=⟨rfl,fun _ h=>h,fun _ h=> .base h⟩
theorem RS.put {g:D.Grid} {s0 s:List Bool} {i:Nat} (h:RS g s0 s) (hi:i<s.length) (hw:QD g.Cells i=46) (hn:QkL g s i):RS g s0 (s.set i true):=by
 obtain ⟨h1,h2,h3⟩:=h
 refine ⟨by simpa using h1,fun j hj=> ?_,fun j hj=> ?_⟩
 ·rw [QdD hi];split
  ·rfl
  ·exact h2 j hj
 ·rw [QdD hi] at hj
  split at hj
  ·rename_i e
   subst e
   obtain ⟨k,hk,hk2⟩:=hn
   exact .step (h3 k hk2) hk (by omega) hw
  ·exact h3 j hj
def Qin (g:D.Grid) (s:List Bool) (i:Nat):Prop:=QD g.Cells i=46∧on s i=false∧QkL g s i
instance (g:D.Grid) (s:List Bool) (i:Nat):Decidable (Qin g s i):=Classical.propDecidable _
def YX (g:D.Grid) (s:List Bool) (i:Nat):List Bool:=if Qin g s i then s.set i true else s
def Qb7 (g:D.Grid) (ag:Bool) (s:List Bool) (i:Nat):Bool:=if Qin g s i then true else ag
theorem Qlr {g:D.Grid} {s:List Bool} {ag:Bool} {i:Nat} (h:Qin g s i):s.set i true=YX g s i∧true=Qb7 g ag s i:=⟨(if_pos h).symm,(if_pos h).symm⟩
theorem QjY {g:D.Grid} {s:List Bool} {ag:Bool} {i:Nat} (h:¬Qin g s i):s=YX g s i∧ag=Qb7 g ag s i:=⟨(if_neg h).symm,(if_neg h).symm⟩
def Inv1 (g:D.Grid) (s0 s:List Bool) (i:Nat) (s1:List Bool) (ag:Bool):Prop:=i≤s0.length∧RS g s0 s1∧(ag=false→s1=s∧∀j,j<i→¬Qin g s j)∧(ag=true→s1.count false<s.count false)∧s1.count false≤s.count false
theorem Inv1.start {g:D.Grid} {s0 s:List Bool} (h:RS g s0 s):Inv1 g s0 s 0 s false:=⟨Nat.zero_le _,h,fun _=>⟨rfl,fun j hj=>by omega⟩,(fun h=>by cases h),Nat.le_refl _⟩
theorem QdX {s:List Bool} {i:Nat} (hi:i<s.length) (h:on s i=false):(s.set i true).count false+1=s.count false:=by
 have h2:s[i]=false:=by
  unfold on at h
  rw [List.getElem?_eq_getElem hi] at h
  exact h
 have h3:0<s.count false:=List.count_pos_iff.2 (h2▸List.getElem_mem hi)
 rw [List.count_set hi]
 simp [h2]
 omega
theorem Inv1.next {g:D.Grid} {s0 s s1:List Bool} {i:Nat} {ag:Bool} (h:Inv1 g s0 s i s1 ag) (hi:i<s1.length):Inv1 g s0 s (i+1) (YX g s1 i) (Qb7 g ag s1 i):=by
 obtain ⟨h1,h2,h3,h4,h5⟩:=h
 have hl:=h2.1
 unfold YX Qb7
 by_cases hw:Qin g s1 i
 ·rw [if_pos hw,if_pos hw]
  have hc:=QdX hi hw.2.1
  exact ⟨by omega,h2.put hi hw.1 hw.2.2,(fun e=>by cases e),(fun _=>by omega),by omega⟩
 ·rw [if_neg hw,if_neg hw]
  refine ⟨by omega,h2,fun e=> ?_,h4,h5⟩
  obtain ⟨h6,h7⟩:=h3 e
  subst h6
  refine ⟨rfl,fun j hj=> ?_⟩
  rcases Nat.lt_or_ge j i with g1 | g1
  ·exact h7 j g1
  ·obtain rfl:j=i:=by omega
   exact hw
def Inv0 (g:D.Grid) (s0 s:List Bool) (ag:Bool):Prop:=RS g s0 s∧(ag=false→∀j,j<s0.length→¬Qin g s j)
theorem Inv1.done {g:D.Grid} {s0 s s1:List Bool} {i:Nat} {ag:Bool} (h:Inv1 g s0 s i s1 ag) (hi:¬i<s1.length):Inv0 g s0 s1 ag:=by
 obtain ⟨h1,h2,h3,h4,h5⟩:=h
 have hl:=h2.1
 refine ⟨h2,fun e j hj=> ?_⟩
 obtain ⟨h6,h7⟩:=h3 e
 rw [h6]
 exact h7 j (by omega)
theorem Inv1.dec {g:D.Grid} {s0 s s1:List Bool} {i:Nat} {ag ag0:Bool} (h:Inv1 g s0 s i s1 ag) (h0:ag0=true):s1.count false+(if ag=true then 1 else 0)<s.count false+(if ag0=true then 1 else 0):=by
 obtain ⟨h1,h2,h3,h4,h5⟩:=h
 rw [if_pos h0]
 split
 ·rename_i e
  have:=h4 e
  omega
 ·omega
theorem Inv0.done {g:D.Grid} {s0 s:List Bool} {ag:Bool} (h:Inv0 g s0 s ag) (ha:¬ag=true):s=Zp g s0:=by
 obtain ⟨⟨h1,h2,h3⟩,h4⟩:=h
 refine QlM (by rw [Qch,h1]) fun j=> ?_
 rw [on_reachL]
 refine ⟨h3 j,fun hj=> ?_⟩
 have h5:=h4 (by cases ag<;>simp_all)
 induction hj with
 | base h=>exact h2 _ h
 | step h ha hj hw ih =>
  rename_i i k
  cases hk:on s k with
  | true=>rfl
  | false=>exact absurd ⟨hw,hk,i,ha,ih⟩ (h5 k hj)
end
theorem Qem (n:Nat) (g:D.Grid) (seen:List Bool) (cell:Nat) (hg:gridOk g) (hc:cell<seen.length) (hs:seen.length=g.Cells.size):Loan (Qq Tryz.prog (n+1)) 167 1 (List.map (Qn true) seen) [(T.agg (Qc false g)),(T.os 1 0 0 ((seen.map (Qn true)).length)),(tN cell)] (T.os 1 0 0 (List.map (Qn true) (Zp g (seen.set cell true))).length) (List.map (Qn true) (Zp g (seen.set cell true))):=by
 refine Loan.intro (rs:= [ResultVar.tmp 6]) (j:=1) (pin:=(T.os 1 0 0 ((seen.map (Qn true)).length))) Tryz.func167 Y Y Y (by kernel_rfl) Y (.os _ _) (.os _ _) (ZF (fun _=>rfl) _) (ZF (fun _=>rfl) _) (E0:= [(0,(T.agg (Qc false g))),(1,(T.os 1 0 0 ((seen.map (Qn true)).length))),(2,(tN cell))]) Y ?_
 obtain ⟨hlim,hmx,hmax⟩:=QC
 have hsz:=hg.size
 have hA:=hg.1
 have hB:=hg.2.1
 refine sr (kO (B.box (ts:=(Qc false g)) (tv (T.agg (Qc false g)) Y) nofun Y) (fO (OF.assign VEv.nils) (nt (sr (mO (T.os 1 0 0 ((seen.map (Qn true)).length)) Y (mO (tN cell) Y ?_))))))
 obtain ⟨x1,hx1⟩:∃x,seen[cell]? =some x:=⟨_,List.getElem?_eq_getElem (by omega)⟩
 skip
 refine fO (B.indexAddrO (i:=cell) (tv (T.os 1 0 0 ((seen.map (Qn true)).length)) Y) (tv (tN cell) Y) Y (by (simp only [List.length_map];omega)) Jo sz4 if4) (cO (B.storeP (us:= [(tB true)]) (rows':=((seen.set cell true).map (Qn true))) (row:=(Qn true x1)) (tv (T.orp 1 0 cell 0) Y) (VEv.bool true) nofun Y (Qu _ hx1) Y (lb Y) if4 sz4 (bc Y bn) (by intro r hr t ht;obtain ⟨x,_,rfl⟩:=List.mem_map.1 hr;rw [Qhd] at ht;exact ZN (okBool.pl _ t ht)) (Z6 Y)) (nt (sq (sr (fO (OF.assign (VEv.bool true)) (nt (VRun.block ?_)))))))
 refine VRun.loop (A:=Bool×(List Bool)) (fun s_=> [(1,(T.os 1 1 0 ((s_.2.map (Qn true)).length))),(3,(T.op 0 0)),(6,T.nils),(7,(tB s_.1))]) (fun s_=>QU [(0,(Obj.cells (Qc false g))),(1,(Obj.rows 1 (s_.2.map (Qn true))))]) 2 (fun s_=>Inv0 g (seen.set cell true) s_.2 s_.1) (fun s_=>s_.2.count false+(if s_.1=true then 1 else 0)) ((true,seen.set cell true):Bool×(List Bool)) ?_ (Wk.mk (fun k=>if k=0 then 1 else if k=1 then 0 else k) ?_ ?_ ?_) ?_
 ·exact ⟨RS.start _ _,fun h=>by cases h⟩
 ·exact (bc ⟨(congrArg (fun n_=>T.os 1 0 0 n_) (show (seen.map (Qn true)).length=((seen.set cell true).map (Qn true)).length from (by (simp;done)))),rfl⟩ (b2 (b2 (b2 bn))))
 ·exact (b3 (b3 bn))
 ·exact nd Y
 rintro ⟨ag,s⟩ (hI':Inv0 g (seen.set cell true) s ag)
 show VRun _ _ _ [(1,(T.os 1 1 0 ((s.map (Qn true)).length))),(3,(T.op 0 0)),(6,T.nils),(7,(tB ag))] (QU [(0,(Obj.cells (Qc false g))),(1,(Obj.rows 1 (s.map (Qn true))))]) 2 _
 have hI1:=hI'
 have hl0:s.length=g.Cells.size:=by have:=hI'.1.1;rw [List.length_set] at this;omega
 refine sq (sr (mO (tB ag) Y (nt ?_)))
 refine VRun.cond (tv (tB ag) Y) (fun hc0=> ?_) (fun hc0=> ?_)
 ·have fhc0:ag=true:=hc0
  refine sk (tn (VRun.block (sr (fO (OF.assign (VEv.bool false)) (nt (sr (fO (OF.assign (VEv.int .i64 0)) (nt (VRun.block ?_)))))))))
  refine VRun.loop (A:=Nat×(List Bool)×Bool) (fun s_=> [(1,(T.os 1 1 0 ((s_.2.1.map (Qn true)).length))),(3,(T.op 0 0)),(6,T.nils),(7,(tB s_.2.2)),(8,(tN s_.1))]) (fun s_=>QU [(0,(Obj.cells (Qc false g))),(1,(Obj.rows 1 (s_.2.1.map (Qn true))))]) 2 (fun s_=>Inv1 g (seen.set cell true) s s_.1 s_.2.1 s_.2.2) (fun s_=>s_.2.1.length - s_.1) ((0,s,false):Nat×(List Bool)×Bool) ?_ (Wk.mk (fun k=>k) ?_ ?_ ?_) ?_
  ·exact Inv1.start hI1.1
  ·exact (b2 (b2 (b2 (b2 (b2 bn)))))
  ·exact (b3 (b3 bn))
  ·exact nd Y
  rintro ⟨i,s1,ag1⟩ (hI':Inv1 g (seen.set cell true) s i s1 ag1)
  show VRun _ _ _ [(1,(T.os 1 1 0 ((s1.map (Qn true)).length))),(3,(T.op 0 0)),(6,T.nils),(7,(tB ag1)),(8,(tN i))] (QU [(0,(Obj.cells (Qc false g))),(1,(Obj.rows 1 (s1.map (Qn true))))]) 2 _
  have hJ1:=hI'.1
  have hl1:s1.length=g.Cells.size:=by have:=hI'.2.1.1;rw [List.length_set] at this;omega
  refine sq (sr (mO (tN i) Y (mO (T.os 1 1 0 ((s1.map (Qn true)).length)) Y (lO (B.lenO (m:=s1.length) (tv (T.os 1 1 0 ((s1.map (Qn true)).length)) Y) Jo (List.length_map ..)) (fO (Q2 (tv (tN i) Y) (tv (tN s1.length) Y)) (nt ?_))))))
  refine cd (i<s1.length) Y (fun fhc1=> ?_) fun fhc1=> ?_
  ·refine sk ?_
   refine tn (sq (VRun.block (sq (sr (mO (T.os 1 1 0 ((s1.map (Qn true)).length)) Y (mO (tN i) Y ?_))))))
   obtain ⟨x2,hx2⟩:∃x,s1[i]? =some x:=⟨_,List.getElem?_eq_getElem (by omega)⟩
   (have e2:on s1 i=x2:=by rw [on,hx2];rfl)
   refine fO (B.indexAddrO (i:=i) (tv (T.os 1 1 0 ((s1.map (Qn true)).length)) Y) (tv (tN i) Y) Y (by (simp only [List.length_map];omega)) Jo sz4 if4) (lO (OL.loadP1 (t:=(tB x2)) (row:=(Qn true x2)) (tv (T.orp 1 1 i 0) Y) Y (Qu _ hx2) Y Y st4) (mO (tB x2) Y ?_))
   refine VRunO.joinB 6 [26,27,28,29,30] 31 (tB (decide ((x2=true)∨(¬(QD g.Cells i=46))))) ?_ ?_
   ·refine QfM x2 (fun hg25_1=> ?_) (fun hg25_1=> ?_)
    ·have fhg25_1:x2=true:=hg25_1
     refine Qz 5 4 false 25 hg25_1 Y Y Y (fO (OF.pickT (VEv.tmpB Y hg25_1) (VEv.bool true)) (VRunO.nil ?_))
     exact jq (congrArg T.bool (jOT (dT _) hg25_1)) (js Y (js Y (js Y (js Y (js Y (jn))))))
    ·have fhg25_1:x2=false:=hg25_1
     refine Yt (tS g.Cells) hg25_1 Y Y Y Y QL Y Y ZH (gF hg25_1 Y Y (OF.move (tv (tN i) Y)) ?_)
     have hb2:i<g.Cells.size:=(by omega)
     refine gF hg25_1 Y Y (xix (tv (tS g.Cells) Y) (tv (tN i) Y) hb2 U9) (gF hg25_1 Y Y (xne (tv (T.int .u8 (QD g.Cells i)) Y) (VEv.int .u8 46)) (fO (OF.pickF (VEv.tmpB Y hg25_1) (tv (tB (!(decide (QD g.Cells i=46)))) Y)) (VRunO.nil ?_)))
     exact jq (congrArg T.bool (jOF (dT _) hg25_1 dN)) (js Y (js Y (js Y (js Y (js Y (jn))))))
   refine nt ?_
   refine cd ((x2=true)∨(¬(QD g.Cells i=46))) Y (fun fhc2=> ?_) fun fhc2=> ?_
   ·have q1:=QjY (g:=g) (s:=s1) (ag:=ag1) (i:=i) (by rintro ⟨h1,h2,h3⟩;rw [e2] at h2;rcases fhc2 with h4 | h4;rw [h2] at h4;cases h4;exact h4 h1)
    refine VRun.exit (vthn.e (vinB.e (tn (VRun.region (mO (tN i) Y (fO (Qx (tv (tN i) Y) (VEv.int .i64 1) (by omega)) (aO (tN (i+1)) Y (VRunO.nil (tn ?_)))))))))
    have he3:s1=(YX g s1 i):=by exact q1.1
    refine ⟨((i+1,YX g s1 i,Qb7 g ag1 s1 i):Nat×(List Bool)×Bool),?_,?_,Wk.mk (fun k=>k) ?_ ?_ ?_⟩
    ·exact hI'.next fhc1
    ·show (YX g s1 i).length - (i+1)<s1.length - i
     have e1:(YX g s1 i).length=s1.length:=by unfold YX;split<;>simp
     rw [e1];omega
    ·exact (bc ⟨(congrArg (fun l_=>T.os 1 1 0 (List.map (Qn true) l_).length) he3),rfl⟩ (b2 (b2 (bc ⟨(congrArg T.bool (show ag1=(Qb7 g ag1 s1 i) from (by exact q1.2))),rfl⟩ (b2 bn)))))
    ·exact (b3 (bc ⟨(congrArg (fun l_=>some (Obj.rows 1 (List.map (Qn true) l_))) he3),(lb Y),rfl⟩ bn))
    ·exact nd Y
   refine sk (tn ?_)
   have hci:=Qdf hg (show i<g.Cells.size by omega)
   obtain ⟨m,hm⟩:∃m,m=i % g.Cols.toNat:=⟨_,rfl⟩
   have hq1:0<m→1≤i:=by rw [hm];exact hci.2.1
   have hm6:m<g.Cols.toNat:=by rw [hm];exact hci.1.1
   have hq4:((m+1:Nat):Int)<g.Cols→i+1<g.Cells.size:=by rw [hm];exact hci.2.2.2.1 1
   clear hci
   refine sr (mO (tN i) Y (lf (tI g.Cols) Y Zr Y Y QQ (fO (B.rem (n:=((m:Nat):Int)) (tv (tN i) Y) (tv (tI g.Cols) Y) (by omega) (by (rw [hm];refine Qmu ?_;omega))) (aO (tN m) Y (nt (sr (mO (tN m) Y (fO (B.gtr (c:=(decide (0<m))) (tv (tN m) Y) (VEv.int .i64 0) (by exact Qv (by omega))) (mO (tB (decide (0<m))) Y ?_)))))))))
   refine VRunO.joinB 6 [39,40,41,42,43] 44 (tB (decide ((0<m)∧((s1[i - 1]?.getD false)=true)))) ?_ ?_
   ·refine gw (0<m) (fun fhg38_4=> ?_) fun fhg38_4=> ?_
    ·refine gF (dy fhg38_4) Y Y (OF.move (tv (T.os 1 1 0 ((s1.map (Qn true)).length)) Y)) ?_
     refine gF (dy fhg38_4) Y Y (OF.move (tv (tN i) Y)) (gF (dy fhg38_4) Y Y (B.sub (n:=((i - 1:Nat):Int)) (tv (tN i) Y) (VEv.int .i64 1) (by (rw [Qs (by omega)];omega))) ?_)
     have hy5:s1[i - 1]? =some (s1[i - 1]?.getD false):=Qaf false (by omega)
     refine gF (dy fhg38_4) Y Y (B.indexAddrO (i:=i - 1) (tv (T.os 1 1 0 ((s1.map (Qn true)).length)) Y) (tv (tN (i - 1)) Y) Y (by (simp only [List.length_map];omega)) Jo sz4 if4) (gL (dy fhg38_4) Y Y (OL.loadP1 (t:=(tB (s1[i - 1]?.getD false))) (row:=(Qn true (s1[i - 1]?.getD false))) (tv (T.orp 1 1 (i - 1) 0) Y) Y (Qu _ hy5) Y Y st4) (fO (OF.pickT (VEv.tmpB Y (dy fhg38_4)) (tv (tB (s1[i - 1]?.getD false)) Y)) (VRunO.nil ?_)))
     exact jq (congrArg T.bool (kAT fhg38_4 (dT _))) (js Y (js Y (js Y (js Y (js Y (jn))))))
    ·refine Qz 5 2 true 38 (dz fhg38_4) Y Y Y ?_
     refine fO (OF.pickF (VEv.tmpB Y (dz fhg38_4)) (VEv.bool false)) (VRunO.nil ?_)
     exact jq (congrArg T.bool (kAF fhg38_4)) (js Y (js Y (js Y (js Y (js Y (jn))))))
   refine mO (tB (decide ((0<m)∧((s1[i - 1]?.getD false)=true)))) Y ?_
   refine VRunO.joinB 13 [46,47,48,49,50,51,52,53,54,55,56,57] 58 (tB (decide (((0<m)∧((s1[i - 1]?.getD false)=true))∨(((((m+1):Nat):Int)<g.Cols)∧((s1[(i+1)]?.getD false)=true))))) ?_ ?_
   ·refine gw ((0<m)∧((s1[i - 1]?.getD false)=true)) (fun fhg45_6=> ?_) fun fhg45_6=> ?_
    ·refine Qz 6 9 false 45 (dy fhg45_6) Y Y Y ?_
     refine Qai 5 15 true 51 Y Y Y (oO Y Y (dy fhg45_6) (fO (OF.pickT (VEv.tmpB Y (dy fhg45_6)) (VEv.bool true)) (VRunO.nil ?_)))
     exact jq (congrArg T.bool (kOT fhg45_6)) (js Y (js Y (js Y (js Y (js Y (js Y (js Y (js Y (js Y (js Y (js Y (js Y (jn)))))))))))))
    ·refine gF (dz fhg45_6) Y Y (OF.move (tv (tN m) Y)) ?_
     refine gF (dz fhg45_6) Y Y (Qx (tv (tN m) Y) (VEv.int .i64 1) (by omega)) (Yt (tI g.Cols) (dz fhg45_6) Y Y Y Y Zr Y Y QQ (gF (dz fhg45_6) Y Y (xls (tv (tN (m+1)) Y) (tv (tI g.Cols) Y)) (gF (dz fhg45_6) Y Y (OF.move (tv (tB (decide ((((m+1):Nat):Int)<g.Cols))) Y)) ?_)))
     refine VRunO.joinB 6 [52,53,54,55,56] 57 (tB (decide (((((m+1):Nat):Int)<g.Cols)∧((s1[(i+1)]?.getD false)=true)))) ?_ ?_
     ·refine gw ((((m+1):Nat):Int)<g.Cols) (fun fhg51_7=> ?_) fun fhg51_7=> ?_
      ·refine gF (dy fhg51_7) Y Y (OF.move (tv (T.os 1 1 0 ((s1.map (Qn true)).length)) Y)) ?_
       refine gF (dy fhg51_7) Y Y (OF.move (tv (tN i) Y)) (gF (dy fhg51_7) Y Y (Qx (tv (tN i) Y) (VEv.int .i64 1) (by omega)) ?_)
       have hy8:s1[(i+1)]? =some (s1[(i+1)]?.getD false):=Qaf false (by omega)
       refine gF (dy fhg51_7) Y Y (B.indexAddrO (i:=(i+1)) (tv (T.os 1 1 0 ((s1.map (Qn true)).length)) Y) (tv (tN (i+1)) Y) Y (by (simp only [List.length_map];omega)) Jo sz4 if4) (gL (dy fhg51_7) Y Y (OL.loadP1 (t:=(tB (s1[(i+1)]?.getD false))) (row:=(Qn true (s1[(i+1)]?.getD false))) (tv (T.orp 1 1 (i+1) 0) Y) Y (Qu _ hy8) Y Y st4) (gF (dz fhg45_6) Y Y (OF.pickT (VEv.tmpB Y (dy fhg51_7)) (tv (tB (s1[(i+1)]?.getD false)) Y)) (VRunO.nil ?_)))
       exact jq (congrArg T.bool (kAT fhg51_7 (dT _))) (js Y (js Y (js Y (js Y (js Y (jn))))))
      ·refine Qz 5 15 true 51 (dz fhg51_7) Y Y Y ?_
       refine gF (dz fhg45_6) Y Y (OF.pickF (VEv.tmpB Y (dz fhg51_7)) (VEv.bool false)) (VRunO.nil ?_)
       exact jq (congrArg T.bool (kAF fhg51_7)) (js Y (js Y (js Y (js Y (js Y (jn))))))
     refine fO (OF.pickF (VEv.tmpB Y (dz fhg45_6)) (tv (tB (decide (((((m+1):Nat):Int)<g.Cols)∧((s1[(i+1)]?.getD false)=true)))) Y)) (VRunO.nil ?_)
     exact jq (congrArg T.bool (kOF fhg45_6 Y)) (js Y (js Y (js Y (js Y (js Y (js Y (js Y (js Y (js Y (js Y (js Y (js Y (jn)))))))))))))
   refine mO (tB (decide (((0<m)∧((s1[i - 1]?.getD false)=true))∨(((((m+1):Nat):Int)<g.Cols)∧((s1[(i+1)]?.getD false)=true))))) Y ?_
   refine VRunO.joinB 14 [60,61,62,63,64,65,66,67,68,69,70,71,72] 73 (tB (decide ((((0<m)∧((s1[i - 1]?.getD false)=true))∨(((((m+1):Nat):Int)<g.Cols)∧((s1[(i+1)]?.getD false)=true)))∨((g.Cols≤((i:Nat):Int))∧((s1[i - g.Cols.toNat]?.getD false)=true))))) ?_ ?_
   ·refine gw (((0<m)∧((s1[i - 1]?.getD false)=true))∨(((((m+1):Nat):Int)<g.Cols)∧((s1[(i+1)]?.getD false)=true))) (fun fhg59_9=> ?_) fun fhg59_9=> ?_
    ·refine Qz 5 23 false 59 (dy fhg59_9) Y Y Y ?_
     refine Qai 7 28 true 64 Y Y Y (oO Y Y (dy fhg59_9) (fO (OF.pickT (VEv.tmpB Y (dy fhg59_9)) (VEv.bool true)) (VRunO.nil ?_)))
     exact jq (congrArg T.bool (kOT fhg59_9)) (js Y (js Y (js Y (js Y (js Y (js Y (js Y (js Y (js Y (js Y (js Y (js Y (js Y (jn))))))))))))))
    ·refine gF (dz fhg59_9) Y Y (OF.move (tv (tN i) Y)) ?_
     refine Yt (tI g.Cols) (dz fhg59_9) Y Y Y Y Zr Y Y QQ (gF (dz fhg59_9) Y Y (xge (tv (tN i) Y) (tv (tI g.Cols) Y)) (gF (dz fhg59_9) Y Y (OF.move (tv (tB (decide (g.Cols≤((i:Nat):Int)))) Y)) ?_))
     refine VRunO.joinB 8 [65,66,67,68,69,70,71] 72 (tB (decide ((g.Cols≤((i:Nat):Int))∧((s1[i - g.Cols.toNat]?.getD false)=true)))) ?_ ?_
     ·refine gw (g.Cols≤((i:Nat):Int)) (fun fhg64_10=> ?_) fun fhg64_10=> ?_
      ·refine gF (dy fhg64_10) Y Y (OF.move (tv (T.os 1 1 0 ((s1.map (Qn true)).length)) Y)) ?_
       refine gF (dy fhg64_10) Y Y (OF.move (tv (tN i) Y)) (Yt (tI g.Cols) (dy fhg64_10) Y Y Y Y Zr Y Y QQ (gF (dy fhg64_10) Y Y (B.sub (n:=((i - g.Cols.toNat:Nat):Int)) (tv (tN i) Y) (tv (tI g.Cols) Y) (by (rw [Qs (by omega)];omega))) ?_))
       have hy11:s1[i - g.Cols.toNat]? =some (s1[i - g.Cols.toNat]?.getD false):=Qaf false (by omega)
       refine gF (dy fhg64_10) Y Y (B.indexAddrO (i:=i - g.Cols.toNat) (tv (T.os 1 1 0 ((s1.map (Qn true)).length)) Y) (tv (tN (i - g.Cols.toNat)) Y) Y (by (simp only [List.length_map];omega)) Jo sz4 if4) (gL (dy fhg64_10) Y Y (OL.loadP1 (t:=(tB (s1[i - g.Cols.toNat]?.getD false))) (row:=(Qn true (s1[i - g.Cols.toNat]?.getD false))) (tv (T.orp 1 1 (i - g.Cols.toNat) 0) Y) Y (Qu _ hy11) Y Y st4) (gF (dz fhg59_9) Y Y (OF.pickT (VEv.tmpB Y (dy fhg64_10)) (tv (tB (s1[i - g.Cols.toNat]?.getD false)) Y)) (VRunO.nil ?_)))
       exact jq (congrArg T.bool (kAT fhg64_10 (dT _))) (js Y (js Y (js Y (js Y (js Y (js Y (js Y (jn))))))))
      ·refine Qz 7 28 true 64 (dz fhg64_10) Y Y Y ?_
       refine gF (dz fhg59_9) Y Y (OF.pickF (VEv.tmpB Y (dz fhg64_10)) (VEv.bool false)) (VRunO.nil ?_)
       exact jq (congrArg T.bool (kAF fhg64_10)) (js Y (js Y (js Y (js Y (js Y (js Y (js Y (jn))))))))
     refine fO (OF.pickF (VEv.tmpB Y (dz fhg59_9)) (tv (tB (decide ((g.Cols≤((i:Nat):Int))∧((s1[i - g.Cols.toNat]?.getD false)=true)))) Y)) (VRunO.nil ?_)
     exact jq (congrArg T.bool (kOF fhg59_9 Y)) (js Y (js Y (js Y (js Y (js Y (js Y (js Y (js Y (js Y (js Y (js Y (js Y (js Y (jn))))))))))))))
   refine mO (tB (decide ((((0<m)∧((s1[i - 1]?.getD false)=true))∨(((((m+1):Nat):Int)<g.Cols)∧((s1[(i+1)]?.getD false)=true)))∨((g.Cols≤((i:Nat):Int))∧((s1[i - g.Cols.toNat]?.getD false)=true))))) Y ?_
   refine VRunO.joinB 17 [75,76,77,78,79,80,81,82,83,84,85,86,87,88,89,90] 91 (tB (decide (((((0<m)∧((s1[i - 1]?.getD false)=true))∨(((((m+1):Nat):Int)<g.Cols)∧((s1[(i+1)]?.getD false)=true)))∨((g.Cols≤((i:Nat):Int))∧((s1[i - g.Cols.toNat]?.getD false)=true)))∨((i+g.Cols.toNat<s1.length)∧((s1[i+g.Cols.toNat]?.getD false)=true))))) ?_ ?_
   ·refine gw ((((0<m)∧((s1[i - 1]?.getD false)=true))∨(((((m+1):Nat):Int)<g.Cols)∧((s1[(i+1)]?.getD false)=true)))∨((g.Cols≤((i:Nat):Int))∧((s1[i - g.Cols.toNat]?.getD false)=true))) (fun fhg74_12=> ?_) fun fhg74_12=> ?_
    ·refine Qz 8 38 false 74 (dy fhg74_12) Y Y Y ?_
     refine Qai 7 46 true 82 Y Y Y (oO Y Y (dy fhg74_12) (fO (OF.pickT (VEv.tmpB Y (dy fhg74_12)) (VEv.bool true)) (VRunO.nil ?_)))
     exact jq (congrArg T.bool (kOT fhg74_12)) (js Y (js Y (js Y (js Y (js Y (js Y (js Y (js Y (js Y (js Y (js Y (js Y (js Y (js Y (js Y (js Y (jn)))))))))))))))))
    ·refine gF (dz fhg74_12) Y Y (OF.move (tv (tN i) Y)) ?_
     refine Yt (tI g.Cols) (dz fhg74_12) Y Y Y Y Zr Y Y QQ (gF (dz fhg74_12) Y Y (B.add (n:=((i+g.Cols.toNat:Nat):Int)) (tv (tN i) Y) (tv (tI g.Cols) Y) (by (rw [Qs (by omega)];omega))) (gF (dz fhg74_12) Y Y (OF.move (tv (T.os 1 1 0 ((s1.map (Qn true)).length)) Y)) (gL (dz fhg74_12) Y Y (B.lenO (m:=s1.length) (tv (T.os 1 1 0 ((s1.map (Qn true)).length)) Y) Jo (List.length_map ..)) (gF (dz fhg74_12) Y Y (Q2 (tv (tN (i+g.Cols.toNat)) Y) (tv (tN s1.length) Y)) (gF (dz fhg74_12) Y Y (OF.move (tv (tB (decide (i+g.Cols.toNat<s1.length))) Y)) ?_)))))
     refine VRunO.joinB 8 [83,84,85,86,87,88,89] 90 (tB (decide ((i+g.Cols.toNat<s1.length)∧((s1[i+g.Cols.toNat]?.getD false)=true)))) ?_ ?_
     ·refine gw (i+g.Cols.toNat<s1.length) (fun fhg82_13=> ?_) fun fhg82_13=> ?_
      ·refine gF (dy fhg82_13) Y Y (OF.move (tv (T.os 1 1 0 ((s1.map (Qn true)).length)) Y)) ?_
       refine gF (dy fhg82_13) Y Y (OF.move (tv (tN i) Y)) (Yt (tI g.Cols) (dy fhg82_13) Y Y Y Y Zr Y Y QQ (gF (dy fhg82_13) Y Y (B.add (n:=((i+g.Cols.toNat:Nat):Int)) (tv (tN i) Y) (tv (tI g.Cols) Y) (by (rw [Qs (by omega)];omega))) ?_))
       have hy14:s1[i+g.Cols.toNat]? =some (s1[i+g.Cols.toNat]?.getD false):=Qaf false (by omega)
       refine gF (dy fhg82_13) Y Y (B.indexAddrO (i:=i+g.Cols.toNat) (tv (T.os 1 1 0 ((s1.map (Qn true)).length)) Y) (tv (tN (i+g.Cols.toNat)) Y) Y (by (simp only [List.length_map];omega)) Jo sz4 if4) (gL (dy fhg82_13) Y Y (OL.loadP1 (t:=(tB (s1[i+g.Cols.toNat]?.getD false))) (row:=(Qn true (s1[i+g.Cols.toNat]?.getD false))) (tv (T.orp 1 1 (i+g.Cols.toNat) 0) Y) Y (Qu _ hy14) Y Y st4) (gF (dz fhg74_12) Y Y (OF.pickT (VEv.tmpB Y (dy fhg82_13)) (tv (tB (s1[i+g.Cols.toNat]?.getD false)) Y)) (VRunO.nil ?_)))
       exact jq (congrArg T.bool (kAT fhg82_13 (dT _))) (js Y (js Y (js Y (js Y (js Y (js Y (js Y (jn))))))))
      ·refine Qz 7 46 true 82 (dz fhg82_13) Y Y Y ?_
       refine gF (dz fhg74_12) Y Y (OF.pickF (VEv.tmpB Y (dz fhg82_13)) (VEv.bool false)) (VRunO.nil ?_)
       exact jq (congrArg T.bool (kAF fhg82_13)) (js Y (js Y (js Y (js Y (js Y (js Y (js Y (jn))))))))
     refine fO (OF.pickF (VEv.tmpB Y (dz fhg74_12)) (tv (tB (decide ((i+g.Cols.toNat<s1.length)∧((s1[i+g.Cols.toNat]?.getD false)=true)))) Y)) (VRunO.nil ?_)
     exact jq (congrArg T.bool (kOF fhg74_12 Y)) (js Y (js Y (js Y (js Y (js Y (js Y (js Y (js Y (js Y (js Y (js Y (js Y (js Y (js Y (js Y (js Y (jn)))))))))))))))))
   refine aO (tB (decide (((((0<m)∧((s1[i - 1]?.getD false)=true))∨(((((m+1):Nat):Int)<g.Cols)∧((s1[(i+1)]?.getD false)=true)))∨((g.Cols≤((i:Nat):Int))∧((s1[i - g.Cols.toNat]?.getD false)=true)))∨((i+g.Cols.toNat<s1.length)∧((s1[i+g.Cols.toNat]?.getD false)=true))))) Y (nt (sr (mO (tB (decide (((((0<m)∧((s1[i - 1]?.getD false)=true))∨(((((m+1):Nat):Int)<g.Cols)∧((s1[(i+1)]?.getD false)=true)))∨((g.Cols≤((i:Nat):Int))∧((s1[i - g.Cols.toNat]?.getD false)=true)))∨((i+g.Cols.toNat<s1.length)∧((s1[i+g.Cols.toNat]?.getD false)=true))))) Y (nt ?_))))
   refine cd (((((0<m)∧((s1[i - 1]?.getD false)=true))∨(((((m+1):Nat):Int)<g.Cols)∧((s1[(i+1)]?.getD false)=true)))∨((g.Cols≤((i:Nat):Int))∧((s1[i - g.Cols.toNat]?.getD false)=true)))∨((i+g.Cols.toNat<s1.length)∧((s1[i+g.Cols.toNat]?.getD false)=true))) Y (fun fhc3=> ?_) fun fhc3=> ?_
   ·rw [hm] at fhc3
    have q1:=Qlr (g:=g) (s:=s1) (ag:=ag1) (i:=i) ⟨by omega,on_no.2 (fun h=>fhc2 (.inl (e2.symm.trans h))),(Qir hB.1 fhc1).1 fhc3⟩
    refine sr (mO (T.os 1 1 0 ((s1.map (Qn true)).length)) Y (mO (tN i) Y (fO (B.indexAddrO (i:=i) (tv (T.os 1 1 0 ((s1.map (Qn true)).length)) Y) (tv (tN i) Y) Y (by (simp only [List.length_map];omega)) Jo sz4 if4) (cO (B.storeP (us:= [(tB true)]) (rows':=((s1.set i true).map (Qn true))) (row:=(Qn true x2)) (tv (T.orp 1 1 i 0) Y) (VEv.bool true) nofun Y (Qu _ hx2) Y (lb Y) if4 sz4 (bc Y bn) (by intro r hr t ht;obtain ⟨x,_,rfl⟩:=List.mem_map.1 hr;rw [Qhd] at ht;exact ZN (okBool.pl _ t ht)) (Z6 Y)) (nt (VRun.region (fO (OF.assign (VEv.bool true)) (VRunO.nil (vinB.n (tn (VRun.region ?_)))))))))))
    refine mO (tN i) Y (fO (Qx (tv (tN i) Y) (VEv.int .i64 1) (by omega)) (aO (tN (i+1)) Y (VRunO.nil (tn ?_))))
    have he15:(s1.set i true)=(YX g s1 i):=by exact q1.1
    refine ⟨((i+1,YX g s1 i,Qb7 g ag1 s1 i):Nat×(List Bool)×Bool),?_,?_,Wk.mk (fun k=>k) ?_ ?_ ?_⟩
    ·exact hI'.next fhc1
    ·show (YX g s1 i).length - (i+1)<s1.length - i
     have e1:(YX g s1 i).length=s1.length:=by unfold YX;split<;>simp
     rw [e1];omega
    ·exact (bc ⟨(congrArg (fun n_=>T.os 1 1 0 n_) (show (s1.map (Qn true)).length=((YX g s1 i).map (Qn true)).length from (by (rw [← q1.1];simp;done)))),rfl⟩ (b2 (b2 (bc ⟨(congrArg T.bool (show true=(Qb7 g ag1 s1 i) from (by exact q1.2))),rfl⟩ (b2 bn)))))
    ·exact (b3 (bc ⟨(congrArg (fun l_=>some (Obj.rows 1 (List.map (Qn true) l_))) he15),(lb Y),rfl⟩ bn))
    ·exact nd Y
   rw [hm] at fhc3
   have q1:=QjY (g:=g) (s:=s1) (ag:=ag1) (i:=i) (by rintro ⟨h1,h2,h3⟩;exact fhc3 ((Qir hB.1 fhc1).2 h3))
   refine sk (vinB.n (tn (VRun.region (mO (tN i) Y (fO (Qx (tv (tN i) Y) (VEv.int .i64 1) (by omega)) (aO (tN (i+1)) Y (VRunO.nil (tn ?_))))))))
   have he16:s1=(YX g s1 i):=by exact q1.1
   refine ⟨((i+1,YX g s1 i,Qb7 g ag1 s1 i):Nat×(List Bool)×Bool),?_,?_,Wk.mk (fun k=>k) ?_ ?_ ?_⟩
   ·exact hI'.next fhc1
   ·show (YX g s1 i).length - (i+1)<s1.length - i
    have e1:(YX g s1 i).length=s1.length:=by unfold YX;split<;>simp
    rw [e1];omega
   ·exact (bc ⟨(congrArg (fun l_=>T.os 1 1 0 (List.map (Qn true) l_).length) he16),rfl⟩ (b2 (b2 (bc ⟨(congrArg T.bool (show ag1=(Qb7 g ag1 s1 i) from (by exact q1.2))),rfl⟩ (b2 bn)))))
   ·exact (b3 (bc ⟨(congrArg (fun l_=>some (Obj.rows 1 (List.map (Qn true) l_))) he16),(lb Y),rfl⟩ bn))
   ·exact nd Y
  refine VRun.exit (vthn.e (vthn.e (vinB.e (vinB.n (tn ?_)))))
  refine ⟨((ag1,s1):Bool×(List Bool)),?_,?_,Wk.mk (fun k=>k) ?_ ?_ ?_⟩
  ·exact hI'.done fhc1
  ·exact hI'.dec fhc0
  ·exact (b2 (b2 (b2 (b2 bn))))
  ·exact (b3 (b3 bn))
  ·exact nd Y
 have fhc0:ag=false:=hc0
 refine VRun.exit (vthn.e (vthn.e (vinB.e (tn (sr (mO (T.os 1 1 0 ((s.map (Qn true)).length)) Y (aO (T.os 1 1 0 ((s.map (Qn true)).length)) Y (nt (rt ?_)))))))))
 have hnew:s=Zp g (seen.set cell true):=by
  exact hI'.done (by simp [fhc0])
 exact vloan.r 1 (VRes.tmp (t:=(T.os 1 1 0 ((s.map (Qn true)).length))) Y VRes.nil) (congrArg (fun l_=>T.os 1 1 0 (List.map (Qn true) l_).length) hnew) (congrArg (fun n_=>T.os 1 1 0 n_) (show (s.map (Qn true)).length=(seen.map (Qn true)).length from (by (simp only [List.length_map,Qch,List.length_set];omega)))) Y (congrArg (List.map (Qn true)) hnew)
noncomputable section
def QfR (a b:List Bool):List Bool:=List.zipWith (fun x y=>x || y) a b
def ZM (a b:List Bool) (k:Nat):List Bool:=(QfR a b).take k++a.drop k
theorem JW {a b:List Bool} (h:b.length=a.length):(QfR a b).length=a.length:=by simp [QfR,h]
theorem QdT {a b:List Bool} {k:Nat} (h:b.length=a.length) (hk:k≤a.length):(ZM a b k).length=a.length:=by
 unfold ZM
 rw [List.length_append,List.length_take,JW h,List.length_drop];omega
theorem Qll {a b:List Bool} {k:Nat} {x:Bool} (h:b.length=a.length) (hk:k<a.length) (hx:(ZM a b k)[k]? =some x):x=on a k:=by
 unfold ZM at hx
 rw [List.getElem?_append_right (by rw [List.length_take,JW h];omega),List.length_take,JW h,Nat.min_eq_left (by omega),Nat.sub_self,List.getElem?_drop,Nat.add_zero] at hx
 rw [on,hx];rfl
theorem Qjh {a b:List Bool} (h:b.length=a.length) (j:Nat):on (QfR a b) j=(on a j || on b j):=by
 unfold on QfR
 rw [List.getElem?_zipWith]
 rcases Nat.lt_or_ge j a.length with h1 | h1
 ·rw [List.getElem?_eq_getElem h1,List.getElem?_eq_getElem (by omega)];rfl
 ·rw [List.getElem?_eq_none h1,List.getElem?_eq_none (by omega)];rfl
theorem Qjj {a b:List Bool} {k:Nat} {v:Bool} (h:b.length=a.length) (hk:k<a.length) (hv:v=(on a k || on b k)):(ZM a b k).set k v=ZM a b (k+1):=by
 have hl:=JW h
 have hu:(QfR a b)[k]? =some v:=by
  have h1:=Qjh h k
  unfold on at h1 hv
  rw [List.getElem?_eq_getElem (by omega)] at h1 ⊢
  rw [hv,← h1];rfl
 unfold ZM
 rw [List.set_append_right _ _ (by rw [List.length_take];omega),List.length_take,hl,Nat.min_eq_left (by omega),Nat.sub_self,List.drop_eq_getElem_cons hk,List.set_cons_zero,List.take_add_one,hu]
 simp
theorem Qi2 {a b:List Bool} {k:Nat} (h:b.length=a.length) (hk:¬k<a.length):ZM a b k=QfR a b:=by
 unfold ZM
 rw [List.take_of_length_le (by rw [JW h];omega),List.drop_of_length_le (by omega),List.append_nil]
def fresh (g:D.Grid) (i:Nat):List Bool:=Zp g ((List.replicate g.Cells.size false).set i true)
def QcT (g:D.Grid) (s:List Bool) (i:Nat):Prop:=QD g.Cells i=46∧on s i=false
instance (g:D.Grid) (s:List Bool) (i:Nat):Decidable (QcT g s i):=Classical.propDecidable _
def Qo (g:D.Grid):Nat→Nat×List Bool
 | 0=>(0,List.replicate g.Cells.size false)
 | i+1=>if QcT g (Qo g i).2 i then ((Qo g i).1+1,QfR (Qo g i).2 (fresh g i)) else Qo g i
theorem QaQ (g:D.Grid) (i:Nat):(fresh g i).length=g.Cells.size:=by simp [fresh,Qch]
theorem Ji (g:D.Grid):∀i,(Qo g i).2.length=g.Cells.size
 | 0=>by simp [Qo]
 | i+1=>by
  have h:=Ji g i
  unfold Qo
  split
  ·simp only;rw [JW (by rw [QaQ,h])];exact h
  ·exact h
theorem QdB (g:D.Grid):∀i,(Qo g i).1≤i
 | 0=>Nat.le_refl _
 | i+1=>by
  have h:=QdB g i
  unfold Qo
  split
  ·simp only;omega
  ·omega
theorem QdY {g:D.Grid} {i:Nat} (h:QcT g (Qo g i).2 i):(Qo g (i+1)).1=(Qo g i).1+1∧(Qo g (i+1)).2=QfR (Qo g i).2 (fresh g i):=by
 rw [Qo,if_pos h];exact ⟨rfl,rfl⟩
theorem QbH {g:D.Grid} {i:Nat} (h:¬QcT g (Qo g i).2 i):Qo g (i+1)=Qo g i:=by
 rw [Qo,if_neg h]
def ZZ (g:D.Grid):Nat:=if gridOk g then (Qo g g.Cells.size).1 else 0
theorem Qgz {g:D.Grid} {i:Nat} (h1:i≤g.Cells.size) (h2:gridOk g∨i=0) (h3:¬(i<g.Cells.size∧gridOk g)):(Qo g i).1=ZZ g:=by
 unfold ZZ
 by_cases hg:gridOk g
 ·rw [if_pos hg,show i=g.Cells.size by have:¬i<g.Cells.size:=fun h=>h3 ⟨h,hg⟩;omega]
 ·rw [if_neg hg,h2.resolve_left hg];rfl
theorem orB (x y:Bool):decide (x=true∨y=true)=(x || y):=by cases x<;>cases y<;>rfl
end
theorem Qfz (n:Nat) (g:D.Grid) (hc:g.Cells.size≤mx):Pure (Qq Tryz.prog (n+3)) 138 [(T.agg (Qc false g))] (tN (ZZ g)):=by
 refine Pure.intro (rs:= [ResultVar.tmp 2]) Tryz.func138 Y Y Y (E0:= [(0,(T.agg (Qc false g)))]) Y ?_
 obtain ⟨hlim,hmx,hmax⟩:=QC
 refine sr (kO (B.box (ts:=(Qc false g)) (tv (T.agg (Qc false g)) Y) nofun Y) (fO (OF.assign (VEv.int .i64 0)) (nt (sr (fO (OF.assign (VEv.int .i64 0)) (nt (sr (kO (OM.slice0 Jo zo4 (by kernel_rfl) Y (by rw [sz4];decide) sz4) (aO (T.os 1 1 0 0) Y (nt (sq ?_)))))))))))
 refine sr (fO (OF.assign (VEv.int .i64 0)) (nt (VRun.block ?_)))
 have he1: []=((List.replicate 0 false).map (Qn true)):=by rfl
 refine VRun.loop (A:=Nat) (fun s_=> [(1,(T.op 0 0)),(2,(tN 0)),(3,(tN 0)),(4,(T.os 1 1 0 (((List.replicate s_ false).map (Qn true)).length))),(5,(tN s_))]) (fun s_=>QU [(0,(Obj.cells (Qc false g))),(1,(Obj.rows 1 ((List.replicate s_ false).map (Qn true))))]) 2 (fun s_=>s_≤g.Cells.size) (fun s_=>g.Cells.size - s_) (0:Nat) ?_ (Wk.mk (fun k=>k) ?_ ?_ ?_) ?_
 ·(simp;done)
 ·exact (b2 (b2 (b2 (bc ⟨(congrArg (fun n_=>T.os 1 1 0 n_) (show 0=((List.replicate 0 false).map (Qn true)).length from (by rfl))),rfl⟩ (b2 bn)))))
 ·exact (b3 (bc ⟨(congrArg (fun l_=>some (Obj.rows 1 l_)) he1),(lb Y),rfl⟩ bn))
 ·exact nd Y
 rintro k (hI':k≤g.Cells.size)
 show VRun _ _ _ [(1,(T.op 0 0)),(2,(tN 0)),(3,(tN 0)),(4,(T.os 1 1 0 (((List.replicate k false).map (Qn true)).length))),(5,(tN k))] (QU [(0,(Obj.cells (Qc false g))),(1,(Obj.rows 1 ((List.replicate k false).map (Qn true))))]) 2 _
 have hK1:=hI'
 refine sq (sr (mO (tN k) Y (lf (tS g.Cells) Y QL Y Y ZH (lO (B.lenS (tv (tS g.Cells) Y) U9) (fO (Q2 (tv (tN k) Y) (tv (tN g.Cells.size) Y)) (nt ?_))))))
 refine cd (k<g.Cells.size) Y (fun fhc0=> ?_) fun fhc0=> ?_
 ·refine sk ?_
  refine tn (sq (VRun.block (VRun.region (mO (T.os 1 1 0 (((List.replicate k false).map (Qn true)).length)) Y (kO (OM.buildSlice (l:= [(tB false)]) (VEvp.cons (VEv.bool false) VEvp.nil) Y (by decide) (bc (nofun) bn) (bc ((bc (Y) bn)) bn) (bc (Y) bn) Jo zo4 (by kernel_rfl) Y (by rw [sz4];decide) sz4 (Nat.le_of_ble_eq_true Y)) (cO (B.append (rows:=((List.replicate k false).map (Qn true))) (rows2:= [[(tB false)]]) (rows3:=((List.replicate k false++ [false]).map (Qn true))) (VDst.own (tv (T.os 1 1 0 (((List.replicate k false).map (Qn true)).length)) Y) Y Y) (VSrc.own (tv (T.os 1 2 0 1) Y) Y Y Jo (bc (bc Y bn) bn)) (by decide) Jo sz4 (by decide) zo4 Y (of_decide_eq_true (by kernel_rfl)) (by (simp only [List.length_map,List.length_append,List.length_cons,List.length_nil,List.length_replicate,List.length_set,List.length_drop,List.length_take,Zk] at *;omega)) ((List.map_append (f:=Qn true) (l₁:=List.replicate k false) (l₂:= [false])).symm)) (aO (T.os 1 3 0 (((List.replicate k false++ [false]).map (Qn true)).length)) Y (VRunO.nil (vinB.n (tn (VRun.region ?_)))))))))))
  refine mO (tN k) Y (fO (Qx (tv (tN k) Y) (VEv.int .i64 1) (by omega)) (aO (tN (k+1)) Y (VRunO.nil (tn ?_))))
  have he2:(List.replicate k false++ [false])=List.replicate (k+1) false:=by rw [List.replicate_succ']
  refine ⟨(k+1:Nat),?_,?_,Wk.mk (fun k=>if k=1 then 3 else k) ?_ ?_ ?_⟩
  ·trivial
  ·omega
  ·exact (b2 (b2 (b2 (bc ⟨(congrArg (fun l_=>T.os 1 3 0 (List.map (Qn true) l_).length) he2),rfl⟩ (b2 bn)))))
  ·exact (b3 (bc ⟨(congrArg (fun l_=>some (Obj.rows 1 (List.map (Qn true) l_))) he2),(lb Y),rfl⟩ bn))
  ·exact nd Y
 refine VRun.exit (vthn.e (vthn.e (vinB.e (tn (sq (sr (fO (OF.assign (VEv.int .i64 0)) (nt (VRun.block ?_)))))))))
 have he3:List.replicate k false=(Qo g 0).2:=by (show List.replicate k false=List.replicate g.Cells.size false;rw [show k=g.Cells.size by omega])
 refine VRun.loop (A:=Nat) (fun s_=> [(1,(T.op 0 0)),(2,(tN 0)),(3,(tN ((Qo g s_).1))),(4,(T.os 1 1 0 ((((Qo g s_).2).map (Qn true)).length))),(6,(tN s_))]) (fun s_=>QU [(0,(Obj.cells (Qc false g))),(1,(Obj.rows 1 (((Qo g s_).2).map (Qn true))))]) 2 (fun s_=>s_≤g.Cells.size∧(gridOk g∨s_=0)) (fun s_=>g.Cells.size - s_) (0:Nat) ?_ (Wk.mk (fun k=>k) ?_ ?_ ?_) ?_
 ·exact ⟨Nat.zero_le _, .inr Y⟩
 ·exact (b2 (b2 (bc ⟨(congrArg (T.int .i64) (show 0=(((Qo g 0).1:Nat):Int) from (by rfl))),rfl⟩ (bc ⟨(congrArg (fun l_=>T.os 1 1 0 (List.map (Qn true) l_).length) he3),rfl⟩ (b2 bn)))))
 ·exact (b3 (bc ⟨(congrArg (fun l_=>some (Obj.rows 1 (List.map (Qn true) l_))) he3),(lb Y),rfl⟩ bn))
 ·exact nd Y
 rintro i (hI':i≤g.Cells.size∧(gridOk g∨i=0))
 show VRun _ _ _ [(1,(T.op 0 0)),(2,(tN 0)),(3,(tN ((Qo g i).1))),(4,(T.os 1 1 0 ((((Qo g i).2).map (Qn true)).length))),(6,(tN i))] (QU [(0,(Obj.cells (Qc false g))),(1,(Obj.rows 1 (((Qo g i).2).map (Qn true))))]) 2 _
 have hI1:=hI'.1
 have hpl:=Ji g i
 have hpn:=QdB g i
 refine sq (sr (mO (tN i) Y (lf (tS g.Cells) Y QL Y Y ZH (lO (B.lenS (tv (tS g.Cells) Y) U9) (fO (Q2 (tv (tN i) Y) (tv (tN g.Cells.size) Y)) (mO (tB (decide (i<g.Cells.size))) Y ?_))))))
 refine VRunO.joinB 3 [27,28] 29 (tB (decide ((i<g.Cells.size)∧(gridOk g)))) ?_ ?_
 ·refine gw (i<g.Cells.size) (fun fhg26_4=> ?_) fun fhg26_4=> ?_
  ·refine gL (dy fhg26_4) Y Y (OL.loadOn (us:=(Qc false g)) (tv (T.op 0 0) Y) Y Zj Q6 (lb Y) Y) ?_
   refine VRunO.chain (VWant.on Y Y (dy fhg26_4)) (cS (vc (tv (T.agg (Qc false g)) Y) vn) (LendL.cons (lg QE) ln) (ZU (n+0) g (by omega)) Y Y) (fO (OF.pickT (VEv.tmpB Y (dy fhg26_4)) (tv (tB (decide (gridOk g))) Y)) (VRunO.nil ?_))
   exact jq (congrArg T.bool (kAT fhg26_4 Y)) (js Y (js Y (jn)))
  ·refine Qz 2 5 true 26 (dz fhg26_4) Y Y Y ?_
   refine fO (OF.pickF (VEv.tmpB Y (dz fhg26_4)) (VEv.bool false)) (VRunO.nil ?_)
   exact jq (congrArg T.bool (kAF fhg26_4)) (js Y (js Y (jn)))
 refine nt ?_
 refine cd ((i<g.Cells.size)∧(gridOk g)) Y (fun fhc1=> ?_) fun fhc1=> ?_
 ·refine sk ?_
  refine tn (sq (VRun.block (sr (lf (tS g.Cells) Y QL Y Y ZH (mO (tN i) Y ?_)))))
  have hb5:i<g.Cells.size:=(by omega)
  refine fO (xix (tv (tS g.Cells) Y) (tv (tN i) Y) hb5 U9) (fO (Z7 (tv (T.int .u8 (QD g.Cells i)) Y) (VEv.int .u8 46)) (mO (tB (decide (QD g.Cells i=46))) Y ?_))
  refine VRunO.joinB 6 [38,39,40,41,42] 43 (tB (decide ((QD g.Cells i=46)∧((!(((Qo g i).2)[i]?.getD false))=true)))) ?_ ?_
  ·refine gw (QD g.Cells i=46) (fun fhg37_6=> ?_) fun fhg37_6=> ?_
   ·refine gF (dy fhg37_6) Y Y (OF.move (tv (T.os 1 1 0 ((((Qo g i).2).map (Qn true)).length)) Y)) ?_
    refine gF (dy fhg37_6) Y Y (OF.move (tv (tN i) Y)) ?_
    have hy7:((Qo g i).2)[i]? =some (((Qo g i).2)[i]?.getD false):=Qaf false (by omega)
    refine gF (dy fhg37_6) Y Y (B.indexAddrO (i:=i) (tv (T.os 1 1 0 ((((Qo g i).2).map (Qn true)).length)) Y) (tv (tN i) Y) Y (by (simp only [List.length_map];omega)) Jo sz4 if4) (gL (dy fhg37_6) Y Y (OL.loadP1 (t:=(tB (((Qo g i).2)[i]?.getD false))) (row:=(Qn true (((Qo g i).2)[i]?.getD false))) (tv (T.orp 1 1 i 0) Y) Y (Qu _ hy7) Y Y st4) (gF (dy fhg37_6) Y Y (QW (tv (tB (((Qo g i).2)[i]?.getD false)) Y)) (fO (OF.pickT (VEv.tmpB Y (dy fhg37_6)) (tv (tB (!(((Qo g i).2)[i]?.getD false))) Y)) (VRunO.nil ?_))))
    exact jq (congrArg T.bool (kAT fhg37_6 (dT _))) (js Y (js Y (js Y (js Y (js Y (jn))))))
   ·refine Qz 5 5 true 37 (dz fhg37_6) Y Y Y ?_
    refine fO (OF.pickF (VEv.tmpB Y (dz fhg37_6)) (VEv.bool false)) (VRunO.nil ?_)
    exact jq (congrArg T.bool (kAF fhg37_6)) (js Y (js Y (js Y (js Y (js Y (jn))))))
  refine nt ?_
  refine cd ((QD g.Cells i=46)∧((!(((Qo g i).2)[i]?.getD false))=true)) Y (fun fhc2=> ?_) fun fhc2=> ?_
  ·have q0:QcT g (Qo g i).2 i:=⟨fhc2.1,by simpa [on] using fhc2.2⟩
   have q1:=QdY q0
   have hgs:=fhc1.2.size
   refine sr (mO (tN ((Qo g i).1)) Y (fO (Qx (tv (tN ((Qo g i).1)) Y) (VEv.int .i64 1) (by omega)) (aO (tN ((Qo g i).1+1)) Y (nt (sr (kO (OM.slice0 Jo zo4 (by kernel_rfl) Y (by rw [sz4];decide) sz4) (aO (T.os 1 2 0 0) Y (nt (sq (sr (fO (OF.assign (VEv.int .i64 0)) ?_)))))))))))
   refine nt (VRun.block ?_)
   have he8: []=((List.replicate 0 false).map (Qn true)):=by rfl
   refine VRun.loop (A:=Nat) (fun s_=> [(1,(T.op 0 0)),(2,(tN 0)),(3,(tN ((Qo g i).1+1))),(4,(T.os 1 1 0 ((((Qo g i).2).map (Qn true)).length))),(6,(tN i)),(7,(T.os 1 2 0 (((List.replicate s_ false).map (Qn true)).length))),(8,(tN s_))]) (fun s_=>QU [(0,(Obj.cells (Qc false g))),(1,(Obj.rows 1 (((Qo g i).2).map (Qn true)))),(2,(Obj.rows 1 ((List.replicate s_ false).map (Qn true))))]) 3 (fun s_=>s_≤(Qo g i).2.length) (fun s_=>(Qo g i).2.length - s_) (0:Nat) ?_ (Wk.mk (fun k=>k) ?_ ?_ ?_) ?_
   ·(simp;done)
   ·exact (b2 (b2 (b2 (b2 (b2 (bc ⟨(congrArg (fun n_=>T.os 1 2 0 n_) (show 0=((List.replicate 0 false).map (Qn true)).length from (by rfl))),rfl⟩ (b2 bn)))))))
   ·exact (b3 (b3 (bc ⟨(congrArg (fun l_=>some (Obj.rows 1 l_)) he8),(lb Y),rfl⟩ bn)))
   ·exact nd Y
   rintro k1 (hI':k1≤(Qo g i).2.length)
   show VRun _ _ _ [(1,(T.op 0 0)),(2,(tN 0)),(3,(tN ((Qo g i).1+1))),(4,(T.os 1 1 0 ((((Qo g i).2).map (Qn true)).length))),(6,(tN i)),(7,(T.os 1 2 0 (((List.replicate k1 false).map (Qn true)).length))),(8,(tN k1))] (QU [(0,(Obj.cells (Qc false g))),(1,(Obj.rows 1 (((Qo g i).2).map (Qn true)))),(2,(Obj.rows 1 ((List.replicate k1 false).map (Qn true))))]) 3 _
   have hK1:=hI'
   refine sq (sr (mO (tN k1) Y (mO (T.os 1 1 0 ((((Qo g i).2).map (Qn true)).length)) Y (lO (B.lenO (m:=((Qo g i).2).length) (tv (T.os 1 1 0 ((((Qo g i).2).map (Qn true)).length)) Y) Jo (List.length_map ..)) (fO (Q2 (tv (tN k1) Y) (tv (tN (((Qo g i).2).length)) Y)) (nt ?_))))))
   refine cd (k1<((Qo g i).2).length) Y (fun fhc3=> ?_) fun fhc3=> ?_
   ·refine sk ?_
    refine tn (sq (VRun.block (VRun.region (mO (T.os 1 2 0 (((List.replicate k1 false).map (Qn true)).length)) Y (kO (OM.buildSlice (l:= [(tB false)]) (VEvp.cons (VEv.bool false) VEvp.nil) Y (by decide) (bc (nofun) bn) (bc ((bc (Y) bn)) bn) (bc (Y) bn) Jo zo4 (by kernel_rfl) Y (by rw [sz4];decide) sz4 (Nat.le_of_ble_eq_true Y)) (cO (B.append (rows:=((List.replicate k1 false).map (Qn true))) (rows2:= [[(tB false)]]) (rows3:=((List.replicate k1 false++ [false]).map (Qn true))) (VDst.own (tv (T.os 1 2 0 (((List.replicate k1 false).map (Qn true)).length)) Y) Y Y) (VSrc.own (tv (T.os 1 3 0 1) Y) Y Y Jo (bc (bc Y bn) bn)) (by decide) Jo sz4 (by decide) zo4 Y (of_decide_eq_true (by kernel_rfl)) (by (simp only [List.length_map,List.length_append,List.length_cons,List.length_nil,List.length_replicate,List.length_set,List.length_drop,List.length_take,Zk] at *;omega)) ((List.map_append (f:=Qn true) (l₁:=List.replicate k1 false) (l₂:= [false])).symm)) (aO (T.os 1 4 0 (((List.replicate k1 false++ [false]).map (Qn true)).length)) Y (VRunO.nil (vinB.n (tn (VRun.region ?_)))))))))))
    refine mO (tN k1) Y (fO (Qx (tv (tN k1) Y) (VEv.int .i64 1) (by omega)) (aO (tN (k1+1)) Y (VRunO.nil (tn ?_))))
    have he9:(List.replicate k1 false++ [false])=List.replicate (k1+1) false:=by rw [List.replicate_succ']
    refine ⟨(k1+1:Nat),?_,?_,Wk.mk (fun k=>if k=2 then 4 else k) ?_ ?_ ?_⟩
    ·trivial
    ·omega
    ·exact (b2 (b2 (b2 (b2 (b2 (bc ⟨(congrArg (fun l_=>T.os 1 4 0 (List.map (Qn true) l_).length) he9),rfl⟩ (b2 bn)))))))
    ·exact (b3 (b3 (bc ⟨(congrArg (fun l_=>some (Obj.rows 1 (List.map (Qn true) l_))) he9),(lb Y),rfl⟩ bn)))
    ·exact nd Y
   have hk6:k1=g.Cells.size:=by omega
   have hq4:(fresh g i).length=(Qo g i).2.length:=by rw [QaQ,hpl]
   have hfr:Zp g ((List.replicate k1 false).set i true)=fresh g i:=by rw [fresh,hk6]
   have hrl:(Zp g ((List.replicate k1 false).set i true)).length=g.Cells.size:=by rw [hfr,QaQ]
   refine VRun.exit (vthn.e (vthn.e (vinB.e (tn (sr (lO (OL.loadOn (us:=(Qc false g)) (tv (T.op 0 0) Y) Y Zj Q6 (lb Y) Y) (mO (T.os 1 2 0 (((List.replicate k1 false).map (Qn true)).length)) Y (mO (tN i) Y (cO (OC.callLoan (ts:= [(T.agg (Qc false g)),(T.os 1 0 0 (((List.replicate k1 false).map (Qn true)).length)),(tN i)]) (k:=2) (r:=(T.os 1 0 0 (((Zp g ((List.replicate k1 false).set i true)).map (Qn true)).length))) (rows:=((List.replicate k1 false).map (Qn true))) (rows':=((Zp g ((List.replicate k1 false).set i true)).map (Qn true))) Y (vc (tv (T.agg (Qc false g)) Y) (vc (tv (T.os 1 2 0 (((List.replicate k1 false).map (Qn true)).length)) Y) (vc (tv (tN i) Y) vn))) Y Y Y (LRes.os _ _) Y (ZF (fun _=>rfl) _) (ZF (fun _=>rfl) _) (Qem (n+1) g (List.replicate k1 false) i (by exact fhc1.2) (by (simp only [List.length_replicate];omega)) (by (simp only [List.length_replicate];omega)))) (aO (T.os 1 2 0 (((Zp g ((List.replicate k1 false).set i true)).map (Qn true)).length)) Y (nt ?_)))))))))))
   refine sr (fO (OF.assign (VEv.int .i64 0)) (nt (VRun.block ?_)))
   have he10:(Qo g i).2=ZM (Qo g i).2 (fresh g i) 0:=by rfl
   refine VRun.loop (A:=Nat) (fun s_=> [(1,(T.op 0 0)),(2,(tN 0)),(3,(tN ((Qo g i).1+1))),(4,(T.os 1 2 0 (((ZM (Qo g i).2 (fresh g i) s_).map (Qn true)).length))),(6,(tN i)),(7,(T.os 1 1 0 (((Zp g ((List.replicate k1 false).set i true)).map (Qn true)).length))),(9,(tN s_))]) (fun s_=>QU [(0,(Obj.cells (Qc false g))),(1,(Obj.rows 1 ((Zp g ((List.replicate k1 false).set i true)).map (Qn true)))),(2,(Obj.rows 1 ((ZM (Qo g i).2 (fresh g i) s_).map (Qn true))))]) 3 (fun s_=>s_≤(Qo g i).2.length) (fun s_=>(Qo g i).2.length - s_) (0:Nat) ?_ (Wk.mk (fun k=>if k=1 then 2 else if k=2 then 1 else k) ?_ ?_ ?_) ?_
   ·(simp;done)
   ·exact (b2 (b2 (b2 (bc ⟨(congrArg (fun l_=>T.os 1 1 0 (List.map (Qn true) l_).length) he10),rfl⟩ (b2 (b2 (b2 bn)))))))
   ·exact (b3 (b3 (bc ⟨(congrArg (fun l_=>some (Obj.rows 1 (List.map (Qn true) l_))) he10),(lb Y),rfl⟩ bn)))
   ·exact nd Y
   rintro j (hI':j≤(Qo g i).2.length)
   show VRun _ _ _ [(1,(T.op 0 0)),(2,(tN 0)),(3,(tN ((Qo g i).1+1))),(4,(T.os 1 2 0 (((ZM (Qo g i).2 (fresh g i) j).map (Qn true)).length))),(6,(tN i)),(7,(T.os 1 1 0 (((Zp g ((List.replicate k1 false).set i true)).map (Qn true)).length))),(9,(tN j))] (QU [(0,(Obj.cells (Qc false g))),(1,(Obj.rows 1 ((Zp g ((List.replicate k1 false).set i true)).map (Qn true)))),(2,(Obj.rows 1 ((ZM (Qo g i).2 (fresh g i) j).map (Qn true))))]) 3 _
   have hJ1:=hI'
   have hzl:=QdT hq4 hJ1
   refine sq (sr (mO (tN j) Y (mO (T.os 1 2 0 (((ZM (Qo g i).2 (fresh g i) j).map (Qn true)).length)) Y (lO (B.lenO (m:=(ZM (Qo g i).2 (fresh g i) j).length) (tv (T.os 1 2 0 (((ZM (Qo g i).2 (fresh g i) j).map (Qn true)).length)) Y) Jo (List.length_map ..)) (fO (Q2 (tv (tN j) Y) (tv (tN ((ZM (Qo g i).2 (fresh g i) j).length)) Y)) (nt ?_))))))
   refine cd (j<(ZM (Qo g i).2 (fresh g i) j).length) Y (fun fhc4=> ?_) fun fhc4=> ?_
   ·refine sk ?_
    refine tn (sq (VRun.block (VRun.region (mO (T.os 1 2 0 (((ZM (Qo g i).2 (fresh g i) j).map (Qn true)).length)) Y (mO (tN j) Y (mO (T.os 1 2 0 (((ZM (Qo g i).2 (fresh g i) j).map (Qn true)).length)) Y (mO (tN j) Y ?_)))))))
    obtain ⟨x1,hx1⟩:∃x,(ZM (Qo g i).2 (fresh g i) j)[j]? =some x:=⟨_,List.getElem?_eq_getElem (by omega)⟩
    have e3:x1=on (Qo g i).2 j:=Qll hq4 (by omega) hx1
    refine fO (B.indexAddrO (i:=j) (tv (T.os 1 2 0 (((ZM (Qo g i).2 (fresh g i) j).map (Qn true)).length)) Y) (tv (tN j) Y) Y (by (simp only [List.length_map];omega)) Jo sz4 if4) (lO (OL.loadP1 (t:=(tB x1)) (row:=(Qn true x1)) (tv (T.orp 1 2 j 0) Y) Y (Qu _ hx1) Y Y st4) (mO (tB x1) Y ?_))
    refine VRunO.joinB 5 [73,74,75,76] 77 (tB (decide ((x1=true)∨(((Zp g ((List.replicate k1 false).set i true))[j]?.getD false)=true)))) ?_ ?_
    ·refine QfM x1 (fun hg72_11=> ?_) (fun hg72_11=> ?_)
     ·have fhg72_11:x1=true:=hg72_11
      refine Qz 4 6 false 72 hg72_11 Y Y Y (fO (OF.pickT (VEv.tmpB Y hg72_11) (VEv.bool true)) (VRunO.nil ?_))
      exact jq (congrArg T.bool (jOT (dT _) hg72_11)) (js Y (js Y (js Y (js Y (jn)))))
     ·have fhg72_11:x1=false:=hg72_11
      refine gF hg72_11 Y Y (OF.move (tv (T.os 1 1 0 (((Zp g ((List.replicate k1 false).set i true)).map (Qn true)).length)) Y)) (gF hg72_11 Y Y (OF.move (tv (tN j) Y)) ?_)
      have hy12:(Zp g ((List.replicate k1 false).set i true))[j]? =some ((Zp g ((List.replicate k1 false).set i true))[j]?.getD false):=Qaf false (by omega)
      refine gF hg72_11 Y Y (B.indexAddrO (i:=j) (tv (T.os 1 1 0 (((Zp g ((List.replicate k1 false).set i true)).map (Qn true)).length)) Y) (tv (tN j) Y) Y (by (simp only [List.length_map];omega)) Jo sz4 if4) (gL hg72_11 Y Y (OL.loadP1 (t:=(tB ((Zp g ((List.replicate k1 false).set i true))[j]?.getD false))) (row:=(Qn true ((Zp g ((List.replicate k1 false).set i true))[j]?.getD false))) (tv (T.orp 1 1 j 0) Y) Y (Qu _ hy12) Y Y st4) (fO (OF.pickF (VEv.tmpB Y hg72_11) (tv (tB ((Zp g ((List.replicate k1 false).set i true))[j]?.getD false)) Y)) (VRunO.nil ?_)))
      exact jq (congrArg T.bool (jOF (dT _) hg72_11 (dT _))) (js Y (js Y (js Y (js Y (jn)))))
    refine fO (B.indexAddrO (i:=j) (tv (T.os 1 2 0 (((ZM (Qo g i).2 (fresh g i) j).map (Qn true)).length)) Y) (tv (tN j) Y) Y (by (simp only [List.length_map];omega)) Jo sz4 if4) (cO (B.storeP (us:= [(tB (decide ((x1=true)∨(((Zp g ((List.replicate k1 false).set i true))[j]?.getD false)=true))))]) (rows':=(((ZM (Qo g i).2 (fresh g i) j).set j (decide ((x1=true)∨(((Zp g ((List.replicate k1 false).set i true))[j]?.getD false)=true)))).map (Qn true))) (row:=(Qn true x1)) (tv (T.orp 1 2 j 0) Y) (tv (tB (decide ((x1=true)∨(((Zp g ((List.replicate k1 false).set i true))[j]?.getD false)=true)))) Y) nofun Y (Qu _ hx1) Y (lb Y) if4 sz4 (bc Y bn) (by intro r hr t ht;obtain ⟨x,_,rfl⟩:=List.mem_map.1 hr;rw [Qhd] at ht;exact ZN (okBool.pl _ t ht)) (Z6 Y)) (VRunO.nil (vinB.n (tn (VRun.region (mO (tN j) Y (fO (Qx (tv (tN j) Y) (VEv.int .i64 1) (by omega)) (aO (tN (j+1)) Y (VRunO.nil (tn ?_))))))))))
    have he13:((ZM (Qo g i).2 (fresh g i) j).set j (decide ((x1=true)∨(((Zp g ((List.replicate k1 false).set i true))[j]?.getD false)=true))))=ZM (Qo g i).2 (fresh g i) (j+1):=by (refine Qjj hq4 (by omega) ?_;rw [e3,hfr];exact orB _ _)
    refine ⟨(j+1:Nat),?_,?_,Wk.mk (fun k=>k) ?_ ?_ ?_⟩
    ·omega
    ·omega
    ·exact (b2 (b2 (b2 (bc ⟨(congrArg (fun n_=>T.os 1 2 0 n_) (show ((ZM (Qo g i).2 (fresh g i) j).map (Qn true)).length=((ZM (Qo g i).2 (fresh g i) (j+1)).map (Qn true)).length from (by (simp only [List.length_map,List.length_set];rw [QdT hq4 hJ1,QdT hq4 (by omega)])))),rfl⟩ (b2 (b2 (b2 bn)))))))
    ·exact (b3 (b3 (bc ⟨(congrArg (fun l_=>some (Obj.rows 1 (List.map (Qn true) l_))) he13),(lb Y),rfl⟩ bn)))
    ·exact nd Y
   have hq5:¬j<(Qo g i).2.length:=by omega
   refine VRun.exit (vthn.e (vthn.e (vinB.e (vinB.n (tn (VRun.region (mO (tN i) Y (fO (Qx (tv (tN i) Y) (VEv.int .i64 1) (by omega)) (aO (tN (i+1)) Y (VRunO.nil (tn ?_)))))))))))
   have he14:ZM (Qo g i).2 (fresh g i) j=(Qo g (i+1)).2:=by (rw [q1.2];exact Qi2 hq4 hq5)
   refine ⟨(i+1:Nat),?_,?_,Wk.mk (fun k=>if k=1 then 2 else k) ?_ ?_ ?_⟩
   ·exact ⟨by omega, .inl fhc1.2⟩
   ·omega
   ·exact (b2 (b2 (bc ⟨(congrArg (T.int .i64) (show ((((Qo g i).1+1):Nat):Int)=(((Qo g (i+1)).1:Nat):Int) from (by omega))),rfl⟩ (bc ⟨(congrArg (fun l_=>T.os 1 2 0 (List.map (Qn true) l_).length) he14),rfl⟩ (b2 bn)))))
   ·exact (b3 (bc ⟨(congrArg (fun l_=>some (Obj.rows 1 (List.map (Qn true) l_))) he14),(lb Y),rfl⟩ bn))
   ·exact nd Y
  have q0:¬QcT g (Qo g i).2 i:=fun h=>fhc2 ⟨h.1,by have:=h.2;unfold on at this;rw [this];rfl⟩
  refine sk (vinB.n (tn (VRun.region (mO (tN i) Y (fO (Qx (tv (tN i) Y) (VEv.int .i64 1) (by omega)) (aO (tN (i+1)) Y (VRunO.nil (tn ?_))))))))
  have he15:(Qo g i).2=(Qo g (i+1)).2:=by (rw [QbH q0];done)
  refine ⟨(i+1:Nat),?_,?_,Wk.mk (fun k=>k) ?_ ?_ ?_⟩
  ·exact ⟨by omega, .inl fhc1.2⟩
  ·omega
  ·exact (b2 (b2 (bc ⟨(congrArg (T.int .i64) (show (((Qo g i).1:Nat):Int)=(((Qo g (i+1)).1:Nat):Int) from (by (rw [QbH q0];done)))),rfl⟩ (bc ⟨(congrArg (fun l_=>T.os 1 1 0 (List.map (Qn true) l_).length) he15),rfl⟩ (b2 bn)))))
  ·exact (b3 (bc ⟨(congrArg (fun l_=>some (Obj.rows 1 (List.map (Qn true) l_))) he15),(lb Y),rfl⟩ bn))
  ·exact nd Y
 refine VRun.exit (vthn.e (vthn.e (vinB.e (tn (sr (mO (tN ((Qo g i).1)) Y (aO (tN ((Qo g i).1)) Y (nt (rt (vi (n':=(((Qo g i).1:Nat):Int)) Y ?_))))))))))
 exact congrArg (fun x:Nat=>(x:Int)) (Qgz hI1 hI'.2 fhc1)
noncomputable section
def inG (g:D.Grid) (r c:Int):Prop:=(0≤r∧r<g.Rows)∧(0≤c∧c<g.Cols)
def ZL (g:D.Grid) (r c:Int):Nat:=Int.toNat (r*g.Cols+c)
def Qmq (g:D.Grid) (m:List Bool) (r c:Int):Prop:=inG g r c∧QD g.Cells (ZL g r c)=46∧on m (ZL g r c)=false
instance (g:D.Grid) (m:List Bool) (r c:Int):Decidable (Qmq g m r c):=Classical.propDecidable _
def Y6 : Nat→D.Grid→List Bool→Int→Int→List Bool
 | 0,_,m,_,_=>m
 | d+1,g,m,r,c=>if Qmq g m r c then Y6 d g (Y6 d g (Y6 d g (Y6 d g (m.set (ZL g r c) true) (r - 1) c) (r+1) c) r (c - 1)) r (c+1) else m
theorem Qc1 {g:D.Grid} {r c:Int} (hg:gridOk g) (h1:0≤r∧r<g.Rows) (h2:0≤c∧c<g.Cols):(0≤r*g.Cols∧r*g.Cols≤36)∧0≤r*g.Cols+c∧r*g.Cols+c<((g.Cells.size:Nat):Int):=by
 have hs:=hg.2.2.1
 have hz:=hg.size
 have e1:0≤r*g.Cols:=Int.mul_nonneg h1.1 (by omega)
 have e2:(r+1)*g.Cols≤g.Rows*g.Cols:=Int.mul_le_mul_of_nonneg_right (by omega) (by omega)
 rw [Int.add_mul,Int.one_mul] at e2
 omega
theorem YV {g:D.Grid} (hg:gridOk g) (a b:Nat):ZL g ((a:Nat):Int) ((b:Nat):Int)=a*wG g+b:=by
 obtain ⟨w,hw⟩:=Int.eq_ofNat_of_zero_le (show 0≤g.Cols by have:=hg.2.1;omega)
 unfold ZL wG
 rw [hw]
 show Int.toNat (((a:Nat):Int)*((w:Nat):Int)+((b:Nat):Int))=a*w+b
 rw [← Int.natCast_mul,← Int.natCast_add,Int.toNat_natCast]
theorem Qlh {g:D.Grid} (hg:gridOk g):g.Cells.size=g.Rows.toNat*wG g:=by
 obtain ⟨⟨a1,a2⟩,⟨b1,b2⟩,hs,_⟩:=hg
 obtain ⟨w,hw⟩:=Int.eq_ofNat_of_zero_le (show 0≤g.Cols by omega)
 obtain ⟨r,hr⟩:=Int.eq_ofNat_of_zero_le (show 0≤g.Rows by omega)
 unfold wG
 rw [hw,hr] at hs ⊢
 exact_mod_cast hs
theorem Qg3 {g:D.Grid} {r c:Int} (hg:gridOk g) (h:inG g r c):∃a b:Nat,r=a∧c=b∧a<g.Rows.toNat∧b<wG g:=by
 obtain ⟨⟨h1,h2⟩,h3,h4⟩:=h
 exact ⟨r.toNat,c.toNat,by omega,by omega,by omega,by unfold wG;omega⟩
theorem QmR {g:D.Grid} {r c r' c':Int} (hg:gridOk g) (h:inG g r c) (h':inG g r' c') (hn:(r'=r∧(c'=c+1∨c'=c - 1))∨(c'=c∧(r'=r+1∨r'=r - 1))):adj g (ZL g r c) (ZL g r' c'):=by
 obtain ⟨a,b,rfl,rfl,ha,hb⟩:=Qg3 hg h
 obtain ⟨a',b',rfl,rfl,ha',hb'⟩:=Qg3 hg h'
 rw [YV hg,YV hg]
 have hm:(a*wG g+b) % wG g=b:=by rw [Nat.mul_comm,Nat.mul_add_mod,Nat.mod_eq_of_lt hb]
 have hm':(a'*wG g+b') % wG g=b':=by rw [Nat.mul_comm,Nat.mul_add_mod,Nat.mod_eq_of_lt hb']
 rcases hn with ⟨h1,h2 | h2⟩ | ⟨h1,h2 | h2⟩
 ·obtain rfl:a'=a:=by omega
  exact .inl ⟨by omega,by rw [hm];omega⟩
 ·obtain rfl:a'=a:=by omega
  exact .inr (.inl ⟨by omega,by rw [hm'];omega⟩)
 ·obtain rfl:b'=b:=by omega
  obtain rfl:a'=a+1:=by omega
  exact .inr (.inr (.inl (by rw [Nat.add_mul,Nat.one_mul];omega)))
 ·obtain rfl:b'=b:=by omega
  obtain rfl:a=a'+1:=by omega
  exact .inr (.inr (.inr (by rw [Nat.add_mul,Nat.one_mul];omega)))
theorem Qj4 {g:D.Grid} {r c:Int} {y:Nat} (hg:gridOk g) (h:inG g r c) (hy:y<g.Cells.size) (ha:adj g (ZL g r c) y) :
  (inG g (r - 1) c∧y=ZL g (r - 1) c)∨(inG g (r+1) c∧y=ZL g (r+1) c)∨(inG g r (c - 1)∧y=ZL g r (c - 1))∨(inG g r (c+1)∧y=ZL g r (c+1)):=by
 have hsz:=Qlh hg
 obtain ⟨⟨h1,h2⟩,h3,h4⟩:=h
 obtain ⟨a,b,rfl,rfl,ha',hb⟩:=Qg3 hg ⟨⟨h1,h2⟩,h3,h4⟩
 rw [YV hg] at ha
 have hm:(a*wG g+b) % wG g=b:=by rw [Nat.mul_comm,Nat.mul_add_mod,Nat.mod_eq_of_lt hb]
 have hw:((wG g:Nat):Int)=g.Cols:=by have:=hg.2.1;unfold wG;omega
 rcases ha with ⟨e1,e2⟩ | ⟨e1,e2⟩ | e1 | e1
 ·rw [hm] at e2
  refine .inr (.inr (.inr ⟨⟨⟨h1,h2⟩,by omega,by omega⟩,?_⟩))
  rw [show ((b:Nat):Int)+1=((b+1:Nat):Int) by omega,YV hg];omega
 ·have hb1:1≤b:=by
   rcases Nat.eq_zero_or_pos b with h0 | h0
   ·subst h0
    exfalso
    have ha0:0<a:=by
     rcases Nat.eq_zero_or_pos a with g0 | g0
     ·subst g0;omega
     ·exact g0
    obtain ⟨a1,rfl⟩:∃a1,a=a1+1:=⟨a - 1,by omega⟩
    have e3:y=a1*wG g+(wG g - 1):=by rw [Nat.add_mul,Nat.one_mul] at e1;omega
    rw [e3,Nat.mul_comm,Nat.mul_add_mod,Nat.mod_eq_of_lt (by omega)] at e2
    omega
   ·exact h0
  refine .inr (.inr (.inl ⟨⟨⟨h1,h2⟩,by omega,by omega⟩,?_⟩))
  rw [show ((b:Nat):Int) - 1=((b - 1:Nat):Int) by omega,YV hg];omega
 ·have ha1:a+1<g.Rows.toNat:=by
   rcases Nat.lt_or_ge (a+1) g.Rows.toNat with g0 | g0
   ·exact g0
   ·have e4:g.Rows.toNat=a+1:=by omega
    rw [e4,Nat.add_mul,Nat.one_mul] at hsz
    omega
  refine .inr (.inl ⟨⟨⟨by omega,by omega⟩,h3,h4⟩,?_⟩)
  rw [show ((a:Nat):Int)+1=((a+1:Nat):Int) by omega,YV hg,Nat.add_mul,Nat.one_mul];omega
 ·have ha0:0<a:=by
   rcases Nat.eq_zero_or_pos a with g0 | g0
   ·subst g0;omega
   ·exact g0
  obtain ⟨a1,rfl⟩:∃a1,a=a1+1:=⟨a - 1,by omega⟩
  refine .inl ⟨⟨⟨by omega,by omega⟩,h3,h4⟩,?_⟩
  rw [show ((a1+1:Nat):Int) - 1=((a1:Nat):Int) by omega,YV hg]
  rw [Nat.add_mul,Nat.one_mul] at e1;omega
theorem QbA {g:D.Grid} {r c:Int} (hg:gridOk g) (h:inG g r c):ZL g r c<g.Cells.size:=by
 have:=Qc1 hg h.1 h.2
 unfold ZL
 omega
theorem ZK (g:D.Grid):∀d m r c,(Y6 d g m r c).length=m.length
 | 0,m,r,c=>rfl
 | d+1,m,r,c=>by
  rw [Y6]
  split
  ·rw [ZK g d,ZK g d,ZK g d,ZK g d,List.length_set]
  ·rfl
theorem Z3 {g:D.Grid} {j:Nat}:∀d m r c,on m j=true→on (Y6 d g m r c) j=true
 | 0,m,r,c,h=>h
 | d+1,m,r,c,h=>by
  rw [Y6]
  split
  ·refine Z3 d _ _ _ (Z3 d _ _ _ (Z3 d _ _ _ (Z3 d _ _ _ ?_)))
   have hlt:=Qk6 h
   unfold on at h ⊢
   rw [List.getElem?_set]
   split
   ·rename_i e
    subst e
    rw [if_pos hlt];rfl
   ·exact h
  ·exact h
theorem QhE {s:List Bool} {i:Nat}:(s.set i true).count false≤s.count false:=by
 rcases Nat.lt_or_ge i s.length with h | h
 ·rw [List.count_set h];simp
 ·rw [List.set_eq_of_length_le h];exact Nat.le_refl _
theorem Jt (g:D.Grid):∀d m r c,(Y6 d g m r c).count false≤m.count false
 | 0,m,r,c=>Nat.le_refl _
 | d+1,m,r,c=>by
  rw [Y6]
  split
  ·exact Nat.le_trans (Jt g d _ _ _) (Nat.le_trans (Jt g d _ _ _) (Nat.le_trans (Jt g d _ _ _) (Nat.le_trans (Jt g d _ _ _) QhE)))
  ·exact Nat.le_refl _
theorem QaN {g:D.Grid} (hg:gridOk g) {P:Nat→Prop} (hP:∀i j,P i→adj g i j→j<g.Cells.size→QD g.Cells j=46→P j):∀d m r c,m.length=g.Cells.size→(inG g r c→QD g.Cells (ZL g r c)=46→P (ZL g r c))→∀j,on (Y6 d g m r c) j=true→on m j=true∨P j
 | 0,m,r,c,_,_,j,hj=> .inl hj
 | d+1,m,r,c,hl,h,j,hj=>by
  rw [Y6] at hj
  split at hj
  ·rename_i hgo
   obtain ⟨g1,g2,g3⟩:=hgo
   have hv:=h g1 g2
   have nb:∀r' c',((r'=r∧(c'=c+1∨c'=c - 1))∨(c'=c∧(r'=r+1∨r'=r - 1)))→inG g r' c'→QD g.Cells (ZL g r' c')=46→P (ZL g r' c'):=fun r' c' hn hi hw=>hP _ _ hv (QmR hg g1 hi hn) (QbA hg hi) hw
   have l1:(m.set (ZL g r c) true).length=g.Cells.size:=by rw [List.length_set,hl]
   rcases QaN hg hP d _ _ _ (by rw [ZK,ZK,ZK,l1]) (nb r (c+1) (.inl ⟨rfl, .inl Y⟩)) j hj with hj | hj
   ·rcases QaN hg hP d _ _ _ (by rw [ZK,ZK,l1]) (nb r (c - 1) (.inl ⟨rfl, .inr Y⟩)) j hj with hj | hj
    ·rcases QaN hg hP d _ _ _ (by rw [ZK,l1]) (nb (r+1) c (.inr ⟨rfl, .inl Y⟩)) j hj with hj | hj
     ·rcases QaN hg hP d _ _ _ l1 (nb (r - 1) c (.inr ⟨rfl, .inr Y⟩)) j hj with hj | hj
      ·rw [QdD (by rw [hl];exact QbA hg g1)] at hj
       split at hj
       ·rename_i e
        rw [e];exact .inr hv
       ·exact .inl hj
      ·exact .inr hj
     ·exact .inr hj
    ·exact .inr hj
   ·exact .inr hj
  ·exact .inl hj
theorem Qe8 {g:D.Grid} (hg:gridOk g) {d:Nat} {m:List Bool} {r c:Int} (hl:m.length=g.Cells.size) (hc:m.count false<d) (hi:inG g r c) (hw:QD g.Cells (ZL g r c)=46):on (Y6 d g m r c) (ZL g r c)=true:=by
 cases d with
 | zero=>omega
 | succ d =>
  rw [Y6]
  split
  ·refine Z3 d _ _ _ (Z3 d _ _ _ (Z3 d _ _ _ (Z3 d _ _ _ ?_)))
   rw [QdD (by rw [hl];exact QbA hg hi),if_pos Y]
  ·rename_i hn
   cases ho:on m (ZL g r c) with
   | true=>rfl
   | false=>exact absurd ⟨hi,hw,ho⟩ hn
theorem Qfo {g:D.Grid} (hg:gridOk g):∀d m r c,m.length=g.Cells.size→m.count false<d→∀x y,on (Y6 d g m r c) x=true→¬on m x=true→adj g x y→y<g.Cells.size→QD g.Cells y=46→on (Y6 d g m r c) y=true
 | 0,m,r,c,_,hc,x,y,_,_,_,_,_=>by omega
 | d+1,m,r,c,hl,hc,x,y,hx,hnx,ha,hy,hw=>by
  rw [Y6] at hx ⊢
  by_cases hgo:Qmq g m r c
  ·rw [if_pos hgo] at hx ⊢
   obtain ⟨g1,g2,g3⟩:=hgo
   have hcl:=QbA hg g1
   have l1:(m.set (ZL g r c) true).length=g.Cells.size:=by rw [List.length_set,hl]
   have c1:(m.set (ZL g r c) true).count false<d:=by
    have:=QdX (by rw [hl];exact hcl) g3
    omega
   generalize hm1:m.set (ZL g r c) true=m1 at *
   have c2:=Jt g d m1 (r - 1) c
   have l2:=ZK g d m1 (r - 1) c
   generalize hm2:Y6 d g m1 (r - 1) c=m2 at *
   have c3:=Jt g d m2 (r+1) c
   have l3:=ZK g d m2 (r+1) c
   generalize hm3:Y6 d g m2 (r+1) c=m3 at *
   have c4:=Jt g d m3 r (c - 1)
   have l4:=ZK g d m3 r (c - 1)
   generalize hm4:Y6 d g m3 r (c - 1)=m4 at *
   have up4:∀j,on m4 j=true→on (Y6 d g m4 r (c+1)) j=true:=fun j h=>Z3 d _ _ _ h
   have up3:∀j,on m3 j=true→on m4 j=true:=fun j h=>hm4▸Z3 d _ _ _ h
   have up2:∀j,on m2 j=true→on m3 j=true:=fun j h=>hm3▸Z3 d _ _ _ h
   by_cases h4:on m4 x=true
   ·by_cases h3:on m3 x=true
    ·by_cases h2:on m2 x=true
     ·by_cases h1:on m1 x=true
      ·have hxv:x=ZL g r c:=by
        rw [← hm1,QdD (by rw [hl];exact hcl)] at h1
        split at h1
        ·assumption
        ·exact absurd h1 hnx
       subst hxv
       rcases Qj4 hg g1 hy ha with ⟨k1,rfl⟩ | ⟨k1,rfl⟩ | ⟨k1,rfl⟩ | ⟨k1,rfl⟩
       ·exact up4 _ (up3 _ (up2 _ (hm2▸Qe8 hg l1 c1 k1 hw)))
       ·exact up4 _ (up3 _ (hm3▸Qe8 hg (by omega) (by omega) k1 hw))
       ·exact up4 _ (hm4▸Qe8 hg (by omega) (by omega) k1 hw)
       ·exact Qe8 hg (by omega) (by omega) k1 hw
      ·exact up4 _ (up3 _ (up2 _ (hm2▸Qfo hg d m1 (r - 1) c l1 c1 x y (hm2▸h2) h1 ha hy hw)))
     ·exact up4 _ (up3 _ (hm3▸Qfo hg d m2 (r+1) c (by omega) (by omega) x y (hm3▸h3) h2 ha hy hw))
    ·exact up4 _ (hm4▸Qfo hg d m3 r (c - 1) (by omega) (by omega) x y (hm4▸h4) h3 ha hy hw)
   ·exact Qfo hg d m4 r (c+1) (by omega) (by omega) x y hx h4 ha hy hw
  ·rw [if_neg hgo] at hx
   exact absurd hx hnx
def QjK (g:D.Grid) (s:List Bool):Prop:=∀x y,on s x=true→adj g x y→y<g.Cells.size→QD g.Cells y=46→on s y=true
theorem Qlp (n j:Nat):on (List.replicate n false) j=false:=by
 unfold on
 rw [List.getElem?_replicate]
 split<;>rfl
theorem QiG {g:D.Grid} {i j:Nat} (hi:i<g.Cells.size):on ((List.replicate g.Cells.size false).set i true) j=true↔j=i:=by
 rw [QdD (by simpa using hi),Qlp]
 split<;>simp [*]
theorem Qcb {g:D.Grid}:∀i,i≤g.Cells.size→QjK g (Qo g i).2
 | 0,_=>fun x y hx=>by rw [Qo,Qlp] at hx;cases hx
 | i+1,hi=>by
  have ih:=Qcb (g:=g) i (by omega)
  by_cases hn:QcT g (Qo g i).2 i
  ·rw [(QdY hn).2]
   intro x y hx ha hy hw
   have hl:(fresh g i).length=(Qo g i).2.length:=by rw [QaQ,Ji]
   rw [Qjh hl,Bool.or_eq_true] at hx ⊢
   rcases hx with hx | hx
   ·exact .inl (ih x y hx ha hy hw)
   ·exact .inr (on_reachL.2 (.step (on_reachL.1 hx) ha (by simpa using hy) hw))
  ·rw [QbH hn];exact ih
theorem QmA {g:D.Grid} (hg:gridOk g) {d i:Nat} {m:List Bool} (hl:m.length=g.Cells.size) (hi:i<g.Cells.size) (hc:m.count false<d) (hcl:QjK g m) (hw:QD g.Cells i=46) :
  Y6 d g m ((i / wG g:Nat):Int) ((i % wG g:Nat):Int)=QfR m (fresh g i):=by
 have hlf:(fresh g i).length=m.length:=by rw [QaQ,hl]
 have hci:ZL g ((i / wG g:Nat):Int) ((i % wG g:Nat):Int)=i:=by
  rw [YV hg,Nat.mul_comm];exact Nat.div_add_mod i _
 obtain ⟨⟨q1,q2⟩,_⟩:=Qdf hg hi
 have hin:inG g ((i / wG g:Nat):Int) ((i % wG g:Nat):Int):=by
  have hA:=hg.1
  have hB:=hg.2.1
  unfold wG
  generalize i / g.Cols.toNat=q at *
  generalize i % g.Cols.toNat=m' at *
  exact ⟨⟨by omega,by omega⟩,by omega,by omega⟩
 refine QlM (by rw [ZK,JW hlf]) fun j=> ?_
 rw [Qjh hlf,Bool.or_eq_true]
 constructor
 ·intro hj
  rcases QaN hg (P:=fun j=>Rch g ((List.replicate g.Cells.size false).set i true) j) (fun a b h ha hb hw=> .step h ha (by simpa using hb) hw) d m _ _ hl (fun _ _=>by rw [hci];exact .base ((QiG hi).2 Y)) j hj with h | h
  ·exact .inl h
  ·exact .inr (on_reachL.2 h)
 ·rintro (hj | hj)
  ·exact Z3 d _ _ _ hj
  ·have hr:=on_reachL.1 hj
   clear hj
   induction hr with
   | base h =>
    obtain rfl:=(QiG hi).1 h
    have:=Qe8 hg hl hc hin (by rw [hci];exact hw)
    rwa [hci] at this
   | step h ha hb hw2 ih =>
    rename_i a b
    have hb':b<g.Cells.size:=by simpa using hb
    by_cases hma:on m a=true
    ·exact Z3 d _ _ _ (hcl a b hma ha hb' hw2)
    ·exact Qfo hg d m _ _ hl hc a b ih hma ha hb' hw2
end
theorem QdN (n:Nat) (nn:Nat) (g:D.Grid):∀(d:Nat) (met:List Bool) (r:Int) (c:Int) (hg:gridOk g) (hn:nn=g.Cells.size) (hl:met.length=nn) (hr: -1≤r∧r≤6) (hc: -1≤c∧c≤6) (hu:met.count false<d),Loan (Qq Tryz.prog (n+d+1)) 170 1 (List.map (Qn true) met) [(tI r),(tI c),(T.rp (Qc false g)),(T.vp [(T.os 1 0 0 nn)]),(vtT 170 (T.rp (Qc false g)) (T.vp [(T.os 1 0 0 nn)]) d)] (T.tup []) (List.map (Qn true) (Y6 d g met r c)):=by
 intro d
 induction d with
 | zero=>intro met r c hg hn hl hr hc hu;exact absurd hu (Nat.not_lt_zero _)
 | succ d ih =>
 intro met r c hg hn hl hr hc hu
 refine Loan.intro (n:=n+d+1) (rs:= []) (j:=3) (pin:=(T.vp [(T.os 1 0 0 nn)])) Tryz.func170 Y Y Y (by kernel_rfl) Y (.vp _ _) .none (ZF (fun _=>rfl) _) (ZF (fun _=>rfl) _) (E0:= [(0,(tI r)),(1,(tI c)),(2,(T.rp (Qc false g))),(3,(T.vp [(T.os 1 0 0 nn)])),(4,(vtT 170 (T.rp (Qc false g)) (T.vp [(T.os 1 0 0 nn)]) (d+1)))]) Y ?_
 obtain ⟨hlim,hmx,hmax⟩:=QC
 have hsz:=hg.size
 have hA:=hg.1
 have hB:=hg.2.1
 refine sq (sr (mO (tI r) Y (lr (tI g.Rows) Y (lb Y) Qan Y QQ (cO (cS (vc (tv (tI r) Y) (vc (tv (tI g.Rows) Y) vn)) (Q8 Y) (YR (n+d+0) r g.Rows) Y Y) (fO (QW (tv (tB (decide (0≤r∧r<g.Rows))) Y)) (mO (tB (!(decide (0≤r∧r<g.Rows)))) Y ?_))))))
 refine VRunO.joinB 6 [13,14,15,16,17] 18 (tB (decide ((¬(0≤r∧r<g.Rows))∨(¬(0≤c∧c<g.Cols))))) ?_ ?_
 ·refine gn (0≤r∧r<g.Rows) (fun fhg12_1=> ?_) fun fhg12_1=> ?_
  ·refine Qz 5 5 false 12 (ny fhg12_1) Y Y Y ?_
   refine fO (OF.pickT (VEv.tmpB Y (ny fhg12_1)) (VEv.bool true)) (VRunO.nil ?_)
   exact jq (congrArg T.bool (kOT fhg12_1)) (js Y (js Y (js Y (js Y (js Y (jn))))))
  ·refine gF (nz fhg12_1) Y Y (OF.move (tv (tI c) Y)) ?_
   refine glr (tI g.Cols) (nz fhg12_1) Y Y Y Y (lb Y) Zr Y QQ (VRunO.chain (VWant.on Y Y (nz fhg12_1)) (cS (vc (tv (tI c) Y) (vc (tv (tI g.Cols) Y) vn)) (Q8 Y) (YR (n+d+0) c g.Cols) Y Y) (gF (nz fhg12_1) Y Y (QW (tv (tB (decide (0≤c∧c<g.Cols))) Y)) (fO (OF.pickF (VEv.tmpB Y (nz fhg12_1)) (tv (tB (!(decide (0≤c∧c<g.Cols)))) Y)) (VRunO.nil ?_))))
   exact jq (congrArg T.bool (kOF (not_not_intro fhg12_1) dN)) (js Y (js Y (js Y (js Y (js Y (jn))))))
 refine mO (tB (decide ((¬(0≤r∧r<g.Rows))∨(¬(0≤c∧c<g.Cols))))) Y ?_
 refine VRunO.joinB 10 [20,21,22,23,24,25,26,27,28] 29 (tB (decide (((¬(0≤r∧r<g.Rows))∨(¬(0≤c∧c<g.Cols)))∨((met[(Int.toNat ((r*g.Cols)+c))]?.getD false)=true)))) ?_ ?_
 ·refine gw ((¬(0≤r∧r<g.Rows))∨(¬(0≤c∧c<g.Cols))) (fun fhg19_2=> ?_) fun fhg19_2=> ?_
  ·refine Qz 9 12 false 19 (dy fhg19_2) Y Y Y ?_
   refine fO (OF.pickT (VEv.tmpB Y (dy fhg19_2)) (VEv.bool true)) (VRunO.nil ?_)
   exact jq (congrArg T.bool (kOT fhg19_2)) (js Y (js Y (js Y (js Y (js Y (js Y (js Y (js Y (js Y (jn))))))))))
  ·have hz:=Qc1 hg (r:=r) (c:=c) (by omega) (by omega)
   refine gL (dz fhg19_2) Y Y (OL.loadV1 (t:=(T.os 1 0 0 nn)) (tv (T.vp [(T.os 1 0 0 nn)]) Y) Y Qlx) (gF (dz fhg19_2) Y Y (OF.move (tv (tI r) Y)) (glr (tI g.Cols) (dz fhg19_2) Y Y Y Y (lb Y) Zr Y QQ (gF (dz fhg19_2) Y Y (B.mul (n:=(r*g.Cols)) (tv (tI r) Y) (tv (tI g.Cols) Y) (by (rw [Qs (by omega)];done))) (gF (dz fhg19_2) Y Y (OF.move (tv (tI c) Y)) (gF (dz fhg19_2) Y Y (B.add (n:=((r*g.Cols)+c)) (tv (tI (r*g.Cols)) Y) (tv (tI c) Y) (by (rw [Qs (by omega)];done))) ?_)))))
   have hy3:met[(Int.toNat ((r*g.Cols)+c))]? =some (met[(Int.toNat ((r*g.Cols)+c))]?.getD false):=Qaf false (by omega)
   refine gF (dz fhg19_2) Y Y (B.indexAddrO (i:=(Int.toNat ((r*g.Cols)+c))) (tv (T.os 1 0 0 nn) Y) (tv (tI ((r*g.Cols)+c)) Y) (by omega) (by omega) Jo sz4 if4) (gL (dz fhg19_2) Y Y (OL.loadP1 (t:=(tB (met[(Int.toNat ((r*g.Cols)+c))]?.getD false))) (row:=(Qn true (met[(Int.toNat ((r*g.Cols)+c))]?.getD false))) (tv (T.orp 1 0 (Int.toNat ((r*g.Cols)+c)) 0) Y) Y (Qu _ hy3) Y Y st4) (fO (OF.pickF (VEv.tmpB Y (dz fhg19_2)) (tv (tB (met[(Int.toNat ((r*g.Cols)+c))]?.getD false)) Y)) (VRunO.nil ?_)))
   exact jq (congrArg T.bool (kOF fhg19_2 (dT _))) (js Y (js Y (js Y (js Y (js Y (js Y (js Y (js Y (js Y (jn))))))))))
 refine mO (tB (decide (((¬(0≤r∧r<g.Rows))∨(¬(0≤c∧c<g.Cols)))∨((met[(Int.toNat ((r*g.Cols)+c))]?.getD false)=true)))) Y ?_
 refine VRunO.joinB 11 [31,32,33,34,35,36,37,38,39,40] 41 (tB (decide ((((¬(0≤r∧r<g.Rows))∨(¬(0≤c∧c<g.Cols)))∨((met[(Int.toNat ((r*g.Cols)+c))]?.getD false)=true))∨(¬(QD g.Cells (Int.toNat ((r*g.Cols)+c))=46))))) ?_ ?_
 ·refine gw (((¬(0≤r∧r<g.Rows))∨(¬(0≤c∧c<g.Cols)))∨((met[(Int.toNat ((r*g.Cols)+c))]?.getD false)=true)) (fun fhg30_4=> ?_) fun fhg30_4=> ?_
  ·refine Qz 10 23 false 30 (dy fhg30_4) Y Y Y ?_
   refine fO (OF.pickT (VEv.tmpB Y (dy fhg30_4)) (VEv.bool true)) (VRunO.nil ?_)
   exact jq (congrArg T.bool (kOT fhg30_4)) (js Y (js Y (js Y (js Y (js Y (js Y (js Y (js Y (js Y (js Y (jn)))))))))))
  ·have hz:=Qc1 hg (r:=r) (c:=c) (by omega) (by omega)
   refine glr (tS g.Cells) (dz fhg30_4) Y Y Y Y (lb Y) QL Y ZH (gF (dz fhg30_4) Y Y (OF.move (tv (tI r) Y)) (glr (tI g.Cols) (dz fhg30_4) Y Y Y Y (lb Y) Zr Y QQ (gF (dz fhg30_4) Y Y (B.mul (n:=(r*g.Cols)) (tv (tI r) Y) (tv (tI g.Cols) Y) (by (rw [Qs (by omega)];done))) (gF (dz fhg30_4) Y Y (OF.move (tv (tI c) Y)) (gF (dz fhg30_4) Y Y (B.add (n:=((r*g.Cols)+c)) (tv (tI (r*g.Cols)) Y) (tv (tI c) Y) (by (rw [Qs (by omega)];done))) ?_)))))
   have hb5:(Int.toNat ((r*g.Cols)+c))<g.Cells.size:=(by omega)
   refine gF (dz fhg30_4) Y Y (B.index (n:=(QD g.Cells (Int.toNat ((r*g.Cols)+c)))) (i:=(Int.toNat ((r*g.Cols)+c))) (tv (tS g.Cells) Y) (tv (tI ((r*g.Cols)+c)) Y) (by omega) hb5 U9 (Jm hb5)) (gF (dz fhg30_4) Y Y (xne (tv (T.int .u8 (QD g.Cells (Int.toNat ((r*g.Cols)+c)))) Y) (VEv.int .u8 46)) (fO (OF.pickF (VEv.tmpB Y (dz fhg30_4)) (tv (tB (!(decide (QD g.Cells (Int.toNat ((r*g.Cols)+c))=46)))) Y)) (VRunO.nil ?_)))
   exact jq (congrArg T.bool (kOF fhg30_4 dN)) (js Y (js Y (js Y (js Y (js Y (js Y (js Y (js Y (js Y (js Y (jn)))))))))))
 refine nt ?_
 refine cd ((((¬(0≤r∧r<g.Rows))∨(¬(0≤c∧c<g.Cols)))∨((met[(Int.toNat ((r*g.Cols)+c))]?.getD false)=true))∨(¬(QD g.Cells (Int.toNat ((r*g.Cols)+c))=46))) Y (fun fhc0=> ?_) fun fhc0=> ?_
 ·refine rt ?_
  refine tr ?_
  have hnew:met=Y6 (d+1) g met r c:=by
   rw [Y6,if_neg];rintro ⟨h1,h2,h3⟩;rcases fhc0 with (h | h) | h;exact h.elim (fun h=>h h1.1) (fun h=>h h1.2);exact on_no.1 h3 h;exact h h2
  exact vloan.r 0 VRes.nil Y Y Y (congrArg (List.map (Qn true)) hnew)
 have hz:=Qc1 hg (r:=r) (c:=c) (by omega) (by omega)
 have hin:inG g r c:=⟨by omega,by omega⟩
 have hgo:Qmq g met r c:=⟨hin,by unfold ZL;omega,on_no.2 (fun h=>fhc0 (.inl (.inr h)))⟩
 have hct:=QdX (s:=met) (i:=ZL g r c) (by rw [hl,hn];exact QbA hg hin) hgo.2.2
 unfold ZL at hct
 have d1:=Jt g d (met.set (Int.toNat (r*g.Cols+c)) true) (r - 1) c
 have d2:=Jt g d (Y6 d g (met.set (Int.toNat (r*g.Cols+c)) true) (r - 1) c) (r+1) c
 have d3:=Jt g d (Y6 d g (Y6 d g (met.set (Int.toNat (r*g.Cols+c)) true) (r - 1) c) (r+1) c) r (c - 1)
 refine sk (tn (sr (lO (OL.loadV1 (t:=(T.os 1 0 0 nn)) (tv (T.vp [(T.os 1 0 0 nn)]) Y) Y Qlx) (mO (tI r) Y (lr (tI g.Cols) Y (lb Y) Zr Y QQ (fO (B.mul (n:=(r*g.Cols)) (tv (tI r) Y) (tv (tI g.Cols) Y) (by (rw [Qs (by omega)];done))) (mO (tI c) Y (fO (B.add (n:=((r*g.Cols)+c)) (tv (tI (r*g.Cols)) Y) (tv (tI c) Y) (by (rw [Qs (by omega)];done))) ?_))))))))
 obtain ⟨x1,hx1⟩:∃x,met[(Int.toNat ((r*g.Cols)+c))]? =some x:=⟨_,List.getElem?_eq_getElem (by omega)⟩
 refine fO (B.indexAddrO (i:=(Int.toNat ((r*g.Cols)+c))) (tv (T.os 1 0 0 nn) Y) (tv (tI ((r*g.Cols)+c)) Y) (by omega) (by omega) Jo sz4 if4) (cO (B.storeP (us:= [(tB true)]) (rows':=((met.set (Int.toNat ((r*g.Cols)+c)) true).map (Qn true))) (row:=(Qn true x1)) (tv (T.orp 1 0 (Int.toNat ((r*g.Cols)+c)) 0) Y) (VEv.bool true) nofun Y (Qu _ hx1) Y (lb Y) if4 sz4 (bc Y bn) (by intro r hr t ht;obtain ⟨x,_,rfl⟩:=List.mem_map.1 hr;rw [Qhd] at ht;exact ZN (okBool.pl _ t ht)) (Z6 Y)) (nt (sr (lO (OL.loadV1 (t:=(T.fn 170 [(T.rp (Qc false g)),(T.vp [(T.os 1 0 0 nn)]),(vtT 170 (T.rp (Qc false g)) (T.vp [(T.os 1 0 0 nn)]) d)])) (tv (vtT 170 (T.rp (Qc false g)) (T.vp [(T.os 1 0 0 nn)]) (d+1)) Y) Y Qh5) (mO (tI r) Y (fO (B.sub (n:=(r - 1)) (tv (tI r) Y) (VEv.int .i64 1) (by (rw [Qs (by omega)];done))) (mO (tI c) Y (cO (OC.callvLoan (ts:= [(tI (r - 1)),(tI c),(T.rp (Qc false g)),(T.vp [(T.os 1 0 0 nn)]),(vtT 170 (T.rp (Qc false g)) (T.vp [(T.os 1 0 0 nn)]) d)]) (k:=0) (r:=(T.tup [])) (rows:=((met.set (Int.toNat ((r*g.Cols)+c)) true).map (Qn true))) (rows':=((Y6 d g (met.set (Int.toNat ((r*g.Cols)+c)) true) (r - 1) c).map (Qn true))) Y Y (vc (tv (tI (r - 1)) Y) (vc (tv (tI c) Y) vn)) Y (by simp only [Qbh,ren,QbN,List.cons_append,List.nil_append]) (tl Y (tl Y (tl Y (tl Y (tl (QdL Y Y _) Y))))) LRes.none Y (ZF (fun _=>rfl) _) (ZF (fun _=>rfl) _) (ih (met.set (Int.toNat ((r*g.Cols)+c)) true) (r - 1) c (by assumption) (by assumption) (by (simp only [ZK,List.length_set];omega)) (by omega) (by assumption) (by omega))) (nt (sr (lO (OL.loadV1 (t:=(T.fn 170 [(T.rp (Qc false g)),(T.vp [(T.os 1 0 0 nn)]),(vtT 170 (T.rp (Qc false g)) (T.vp [(T.os 1 0 0 nn)]) d)])) (tv (vtT 170 (T.rp (Qc false g)) (T.vp [(T.os 1 0 0 nn)]) (d+1)) Y) Y Qh5) ?_)))))))))))
 refine mO (tI r) Y (fO (B.add (n:=(r+1)) (tv (tI r) Y) (VEv.int .i64 1) (by (rw [Qs (by omega)];done))) (mO (tI c) Y (cO (OC.callvLoan (ts:= [(tI (r+1)),(tI c),(T.rp (Qc false g)),(T.vp [(T.os 1 0 0 nn)]),(vtT 170 (T.rp (Qc false g)) (T.vp [(T.os 1 0 0 nn)]) d)]) (k:=0) (r:=(T.tup [])) (rows:=((Y6 d g (met.set (Int.toNat ((r*g.Cols)+c)) true) (r - 1) c).map (Qn true))) (rows':=((Y6 d g (Y6 d g (met.set (Int.toNat ((r*g.Cols)+c)) true) (r - 1) c) (r+1) c).map (Qn true))) Y Y (vc (tv (tI (r+1)) Y) (vc (tv (tI c) Y) vn)) Y (by simp only [Qbh,ren,QbN,List.cons_append,List.nil_append]) (tl Y (tl Y (tl Y (tl Y (tl (QdL Y Y _) Y))))) LRes.none Y (ZF (fun _=>rfl) _) (ZF (fun _=>rfl) _) (ih (Y6 d g (met.set (Int.toNat ((r*g.Cols)+c)) true) (r - 1) c) (r+1) c (by assumption) (by assumption) (by (simp only [ZK,List.length_set];omega)) (by omega) (by assumption) (by omega))) (nt (sr (lO (OL.loadV1 (t:=(T.fn 170 [(T.rp (Qc false g)),(T.vp [(T.os 1 0 0 nn)]),(vtT 170 (T.rp (Qc false g)) (T.vp [(T.os 1 0 0 nn)]) d)])) (tv (vtT 170 (T.rp (Qc false g)) (T.vp [(T.os 1 0 0 nn)]) (d+1)) Y) Y Qh5) (mO (tI r) Y (mO (tI c) Y (fO (B.sub (n:=(c - 1)) (tv (tI c) Y) (VEv.int .i64 1) (by (rw [Qs (by omega)];done))) (cO (OC.callvLoan (ts:= [(tI r),(tI (c - 1)),(T.rp (Qc false g)),(T.vp [(T.os 1 0 0 nn)]),(vtT 170 (T.rp (Qc false g)) (T.vp [(T.os 1 0 0 nn)]) d)]) (k:=0) (r:=(T.tup [])) (rows:=((Y6 d g (Y6 d g (met.set (Int.toNat ((r*g.Cols)+c)) true) (r - 1) c) (r+1) c).map (Qn true))) (rows':=((Y6 d g (Y6 d g (Y6 d g (met.set (Int.toNat ((r*g.Cols)+c)) true) (r - 1) c) (r+1) c) r (c - 1)).map (Qn true))) Y Y (vc (tv (tI r) Y) (vc (tv (tI (c - 1)) Y) vn)) Y (by simp only [Qbh,ren,QbN,List.cons_append,List.nil_append]) (tl Y (tl Y (tl Y (tl Y (tl (QdL Y Y _) Y))))) LRes.none Y (ZF (fun _=>rfl) _) (ZF (fun _=>rfl) _) (ih (Y6 d g (Y6 d g (met.set (Int.toNat ((r*g.Cols)+c)) true) (r - 1) c) (r+1) c) r (c - 1) (by assumption) (by assumption) (by (simp only [ZK,List.length_set];omega)) (by assumption) (by omega) (by omega))) (nt ?_)))))))))))
 refine VRun.region (lO (OL.loadV1 (t:=(T.fn 170 [(T.rp (Qc false g)),(T.vp [(T.os 1 0 0 nn)]),(vtT 170 (T.rp (Qc false g)) (T.vp [(T.os 1 0 0 nn)]) d)])) (tv (vtT 170 (T.rp (Qc false g)) (T.vp [(T.os 1 0 0 nn)]) (d+1)) Y) Y Qh5) (mO (tI r) Y (mO (tI c) Y (fO (B.add (n:=(c+1)) (tv (tI c) Y) (VEv.int .i64 1) (by (rw [Qs (by omega)];done))) (cO (OC.callvLoan (ts:= [(tI r),(tI (c+1)),(T.rp (Qc false g)),(T.vp [(T.os 1 0 0 nn)]),(vtT 170 (T.rp (Qc false g)) (T.vp [(T.os 1 0 0 nn)]) d)]) (k:=0) (r:=(T.tup [])) (rows:=((Y6 d g (Y6 d g (Y6 d g (met.set (Int.toNat ((r*g.Cols)+c)) true) (r - 1) c) (r+1) c) r (c - 1)).map (Qn true))) (rows':=((Y6 d g (Y6 d g (Y6 d g (Y6 d g (met.set (Int.toNat ((r*g.Cols)+c)) true) (r - 1) c) (r+1) c) r (c - 1)) r (c+1)).map (Qn true))) Y Y (vc (tv (tI r) Y) (vc (tv (tI (c+1)) Y) vn)) Y (by simp only [Qbh,ren,QbN,List.cons_append,List.nil_append]) (tl Y (tl Y (tl Y (tl Y (tl (QdL Y Y _) Y))))) LRes.none Y (ZF (fun _=>rfl) _) (ZF (fun _=>rfl) _) (ih (Y6 d g (Y6 d g (Y6 d g (met.set (Int.toNat ((r*g.Cols)+c)) true) (r - 1) c) (r+1) c) r (c - 1)) r (c+1) (by assumption) (by assumption) (by (simp only [ZK,List.length_set];omega)) (by assumption) (by omega) (by omega))) (VRunO.nil ?_))))))
 have hnew:Y6 d g (Y6 d g (Y6 d g (Y6 d g (met.set (Int.toNat ((r*g.Cols)+c)) true) (r - 1) c) (r+1) c) r (c - 1)) r (c+1)=Y6 (d+1) g met r c:=by
  rw [Y6,if_pos hgo];rfl
 exact vloan.n 0 VRes.nil Y Y Y (congrArg (List.map (Qn true)) hnew)
theorem Qe0 (n:Nat) (g:D.Grid) (hc:g.Cells.size≤mx):Pure (Qq Tryz.prog (n+39)) 144 [(T.agg (Qc false g))] (tN (ZZ g)):=by
 refine Pure.intro (rs:= [ResultVar.tmp 2]) Tryz.func144 Y Y Y (E0:= [(0,(T.agg (Qc false g)))]) Y ?_
 obtain ⟨hlim,hmx,hmax⟩:=QC
 refine sr (kO (B.box (ts:=(Qc false g)) (tv (T.agg (Qc false g)) Y) nofun Y) (fO (OF.assign (VEv.int .i64 0)) (nt (sq (sr (lO (OL.loadOn (us:=(Qc false g)) (tv (T.op 0 0) Y) Y Zj Q6 (lb Y) Y) (cO (cS (vc (tv (T.agg (Qc false g)) Y) vn) (LendL.cons (lg QE) ln) (YF (n+36) g (by omega)) Y Y) (fO (QW (tv (tB (decide (gridOk g))) Y)) (nt ?_)))))))))
 refine cn (gridOk g) Y (fun fhc0=> ?_) fun fhc0=> ?_
 ·refine sr ?_
  refine fO (OF.assign (VEv.int .i64 0)) (nt (rt (tr (vi (n':=0) Y ?_))))
  rw [ZZ,if_neg (by simpa using fhc0)];rfl
 have hgo:gridOk g:=by simpa using fhc0
 have hsz:=hgo.size
 have hA:=hgo.1
 have hB:=hgo.2.1
 refine sk (tn (sr (lf (tS g.Cells) Y QL Y Y ZH (lO (B.lenS (tv (tS g.Cells) Y) U9) (kO (B.makeZ (n:=g.Cells.size) (m:=((List.replicate g.Cells.size false).map (Qn true)).length) (rows:=((List.replicate g.Cells.size false).map (Qn true))) (zr:=(Qn true false)) (tv (tN g.Cells.size) Y) (tv (tN g.Cells.size) Y) Y Jo zo4 zc4 Y (by rw [sz4];decide) (by omega) (of_decide_eq_true (by kernel_rfl)) (Z0.bool Z0.nil) sz4 (List.map_replicate ..).symm (by rw [List.length_map,List.length_replicate])) (kO (B.alloc (t:=T.nils) (ts:= [T.nils]) Qok Qoj nofun (fun _=> .nils) Y) (cO (B.storeW (us:= [(T.os 1 1 0 (((List.replicate g.Cells.size false).map (Qn true)).length))]) (tv (T.op 2 0) Y) (tv (T.os 1 1 0 (((List.replicate g.Cells.size false).map (Qn true)).length)) Y) nofun Y Y Y Qn4 Qop (bc Y bn)) (nt (sr (kO (B.alloc (t:=T.fn0) (ts:= [T.fn0]) (show Zg Tryz.prog 169=some .nilFunc by kernel_rfl) (show closedV .nilFunc=true by kernel_rfl) nofun (fun _=> .fn0) Y) (nt ?_)))))))))))
 refine sr (fO (OF.makeFunc (vc (tv (T.op 0 0) Y) (vc (tv (T.op 2 0) Y) (vc (tv (T.op 3 0) Y) vn)))) (cO (B.storeW (us:= [(T.fn 170 [(T.op 0 0),(T.op 2 0),(T.op 3 0)])]) (tv (T.op 3 0) Y) (tv (T.fn 170 [(T.op 0 0),(T.op 2 0),(T.op 3 0)]) Y) nofun Y Y Y Qn1 Qoz (bc Y bn)) (nt (VRun.wk (Wk.recv (sz:=1) (k:=1) (us:=(Qc false g)) (f:=170) 38 (d1:=1) (d2:=3) (d3:=4) Y Y Y Y Y Y (by decide) (by decide) (by decide) (bc Y (bc Y (bc Y bn)))) (sr (fO (OF.assign (VEv.int .i64 0)) (nt (sq (sr (lr (tS g.Cells) Y (lb Y) QL Y ZH (lO (B.lenS (tv (tS g.Cells) Y) U9) ?_)))))))))))
 refine fO (OF.move (VEv.int .i64 0)) (nt (VRun.block ?_))
 have he1:(List.replicate g.Cells.size false)=(Qo g 0).2:=by rfl
 refine VRun.loop (A:=Nat) (fun s_=> [(1,(T.rp (Qc false g))),(2,(tN 0)),(3,(T.vp [(T.os 1 0 0 (((List.replicate g.Cells.size false).map (Qn true)).length))])),(4,(vtT 170 (T.rp (Qc false g)) (T.vp [(T.os 1 0 0 (((List.replicate g.Cells.size false).map (Qn true)).length))]) 38)),(5,(tN ((Qo g s_).1))),(17,(tN g.Cells.size)),(18,(tN s_))]) (fun s_=>QU [(0,(Obj.rows 1 (((Qo g s_).2).map (Qn true))))]) 1 (fun s_=>s_≤g.Cells.size) (fun s_=>g.Cells.size - s_) (0:Nat) ?_ (Wk.mk (fun k=>if k=0 then 1 else k) ?_ ?_ ?_) ?_
 ·(simp;done)
 ·exact (b2 (b2 (b2 (b2 (bc ⟨(congrArg (T.int .i64) (show 0=(((Qo g 0).1:Nat):Int) from (by rfl))),rfl⟩ (b2 (b2 bn)))))))
 ·exact (bc ⟨(congrArg (fun l_=>some (Obj.rows 1 (List.map (Qn true) l_))) he1),(lb Y),rfl⟩ bn)
 ·exact nd Y
 rintro i (hI':i≤g.Cells.size)
 show VRun _ _ _ [(1,(T.rp (Qc false g))),(2,(tN 0)),(3,(T.vp [(T.os 1 0 0 (((List.replicate g.Cells.size false).map (Qn true)).length))])),(4,(vtT 170 (T.rp (Qc false g)) (T.vp [(T.os 1 0 0 (((List.replicate g.Cells.size false).map (Qn true)).length))]) 38)),(5,(tN ((Qo g i).1))),(17,(tN g.Cells.size)),(18,(tN i))] (QU [(0,(Obj.rows 1 (((Qo g i).2).map (Qn true))))]) 1 _
 have hI1:=hI'
 have hpl:=Ji g i
 have hpn:=QdB g i
 refine sr (fO (Q2 (tv (tN i) Y) (tv (tN g.Cells.size) Y)) (nt (sq ?_)))
 refine cd (i<g.Cells.size) Y (fun fhc1=> ?_) fun fhc1=> ?_
 ·refine sk ?_
  refine tn (sq (VRun.block (sr (mO (tN i) Y (aO (tN i) Y (nt (sr (lr (tS g.Cells) Y (lb Y) QL Y ZH (mO (tN i) Y ?_)))))))))
  have hb2:i<g.Cells.size:=(by omega)
  refine fO (xix (tv (tS g.Cells) Y) (tv (tN i) Y) hb2 U9) (fO (Z7 (tv (T.int .u8 (QD g.Cells i)) Y) (VEv.int .u8 46)) (mO (tB (decide (QD g.Cells i=46))) Y ?_))
  refine VRunO.joinB 6 [27,28,29,30,31] 32 (tB (decide ((QD g.Cells i=46)∧((!(((Qo g i).2)[i]?.getD false))=true)))) ?_ ?_
  ·refine gw (QD g.Cells i=46) (fun fhg26_3=> ?_) fun fhg26_3=> ?_
   ·refine gL (dy fhg26_3) Y Y (OL.loadV1 (t:=(T.os 1 0 0 (((List.replicate g.Cells.size false).map (Qn true)).length))) (tv (T.vp [(T.os 1 0 0 (((List.replicate g.Cells.size false).map (Qn true)).length))]) Y) Y Qlx) ?_
    refine gF (dy fhg26_3) Y Y (OF.move (tv (tN i) Y)) ?_
    have hy4:((Qo g i).2)[i]? =some (((Qo g i).2)[i]?.getD false):=Qaf false (by omega)
    refine gF (dy fhg26_3) Y Y (B.indexAddrO (i:=i) (tv (T.os 1 0 0 (((List.replicate g.Cells.size false).map (Qn true)).length)) Y) (tv (tN i) Y) Y (by (simp only [List.length_map,List.length_replicate];omega)) Jo sz4 if4) (gL (dy fhg26_3) Y Y (OL.loadP1 (t:=(tB (((Qo g i).2)[i]?.getD false))) (row:=(Qn true (((Qo g i).2)[i]?.getD false))) (tv (T.orp 1 0 i 0) Y) Y (Qu _ hy4) Y Y st4) (gF (dy fhg26_3) Y Y (QW (tv (tB (((Qo g i).2)[i]?.getD false)) Y)) (fO (OF.pickT (VEv.tmpB Y (dy fhg26_3)) (tv (tB (!(((Qo g i).2)[i]?.getD false))) Y)) (VRunO.nil ?_))))
    exact jq (congrArg T.bool (kAT fhg26_3 (dT _))) (js Y (js Y (js Y (js Y (js Y (jn))))))
   ·refine Qz 5 5 true 26 (dz fhg26_3) Y Y Y ?_
    refine fO (OF.pickF (VEv.tmpB Y (dz fhg26_3)) (VEv.bool false)) (VRunO.nil ?_)
    exact jq (congrArg T.bool (kAF fhg26_3)) (js Y (js Y (js Y (js Y (js Y (jn))))))
  refine nt ?_
  refine cd ((QD g.Cells i=46)∧((!(((Qo g i).2)[i]?.getD false))=true)) Y (fun fhc2=> ?_) fun fhc2=> ?_
  ·have q0:QcT g (Qo g i).2 i:=⟨fhc2.1,by simpa [on] using fhc2.2⟩
   have q1:=QdY q0
   have hci:=Qdf hgo (show i<g.Cells.size by omega)
   have hq0:0≤((i:Nat):Int) / ((g.Cols.toNat:Nat):Int):=Int.ediv_nonneg (by omega) (by omega)
   have hm0:0≤((i:Nat):Int) % ((g.Cols.toNat:Nat):Int):=Int.emod_nonneg _ (by omega)
   refine sr (mO (tN ((Qo g i).1)) Y (fO (Qx (tv (tN ((Qo g i).1)) Y) (VEv.int .i64 1) (by omega)) (aO (tN ((Qo g i).1+1)) Y (nt (VRun.draw (B:= [[],[],[],[2],[2,3,1],[],[],[6],[6,7,5],[5,7,6,8,1,3,2,4,0]]) (by kernel_rfl) (by kernel_rfl) (lD (OL.loadV1 (t:=(T.fn 170 [(T.rp (Qc false g)),(T.vp [(T.os 1 0 0 (((List.replicate g.Cells.size false).map (Qn true)).length))]),(vtT 170 (T.rp (Qc false g)) (T.vp [(T.os 1 0 0 (((List.replicate g.Cells.size false).map (Qn true)).length))]) 37)])) (tv (vtT 170 (T.rp (Qc false g)) (T.vp [(T.os 1 0 0 (((List.replicate g.Cells.size false).map (Qn true)).length))]) 38) Y) Y Qh5) Y Y (mD (tN i) Y Y (fD (B.fieldAddrR (us:=((Qc false g).drop 1)) (tv (T.rp (Qc false g)) Y) (lb Y) Zr Y) Y Y (lD (OL.loadR1 (t:=(tI g.Cols)) (tv (T.rp ((Qc false g).drop 1)) Y) Y QQ) Y Y (fD (B.quo (n:=((i / g.Cols.toNat:Nat):Int)) (tv (tN i) Y) (tv (tI g.Cols) Y) (by omega) (by (refine Qnd ?_ ?_<;>omega))) Y Y (mD (tN i) Y Y ?_)))))))))))
   refine fD (B.fieldAddrR (us:=((Qc false g).drop 1)) (tv (T.rp (Qc false g)) Y) (lb Y) Zr Y) Y Y (lD (OL.loadR1 (t:=(tI g.Cols)) (tv (T.rp ((Qc false g).drop 1)) Y) Y QQ) Y Y (fD (B.rem (n:=((i % g.Cols.toNat:Nat):Int)) (tv (tN i) Y) (tv (tI g.Cols) Y) (by omega) (by (refine Qmu ?_;omega))) Y Y (VRunD.chain (bi:= [5,7,6,8,1,3,2,4,0]) Y VWant.always Y Y Y (by kernel_rfl) (OC.callvLoan (ts:= [(tN (i / g.Cols.toNat)),(tN (i % g.Cols.toNat)),(T.rp (Qc false g)),(T.vp [(T.os 1 0 0 (((List.replicate g.Cells.size false).map (Qn true)).length))]),(vtT 170 (T.rp (Qc false g)) (T.vp [(T.os 1 0 0 (((List.replicate g.Cells.size false).map (Qn true)).length))]) 37)]) (k:=0) (r:=(T.tup [])) (rows:=(((Qo g i).2).map (Qn true))) (rows':=((Y6 37 g ((Qo g i).2) ((i / g.Cols.toNat:Nat):Int) ((i % g.Cols.toNat:Nat):Int)).map (Qn true))) Y Y (vc (tv (tN (i / g.Cols.toNat)) Y) (vc (tv (tN (i % g.Cols.toNat)) Y) vn)) Y (by simp only [Qbh,ren,QbN,List.cons_append,List.nil_append]) (tl Y (tl Y (tl Y (tl Y (tl (QdL Y Y _) Y))))) LRes.none Y (ZF (fun _=>rfl) _) (ZF (fun _=>rfl) _) (QdN (n+0) (((List.replicate g.Cells.size false).map (Qn true)).length) g 37 ((Qo g i).2) ((i / g.Cols.toNat:Nat):Int) ((i % g.Cols.toNat:Nat):Int) (by exact fhc0) (by (simp only [Ji,List.length_map,List.length_replicate];done)) (by (simp only [List.length_map,List.length_replicate];omega)) (by omega) (by omega) (by (refine Nat.lt_of_le_of_lt List.count_le_length ?_;rw [Ji];omega)))) (VRunD.nil (vinB.n (tn (VRun.region (fO (Qx (tv (tN i) Y) (VEv.int .i64 1) (by omega)) (mO (tN (i+1)) Y (VRunO.nil (tn ?_)))))))))))
   have he5:Y6 37 g ((Qo g i).2) ((i / g.Cols.toNat:Nat):Int) ((i % g.Cols.toNat:Nat):Int)=(Qo g (i+1)).2:=by (rw [q1.2];exact QmA hgo hpl fhc1 (Nat.lt_of_le_of_lt List.count_le_length (by omega)) (Qcb i hI1) q0.1)
   refine ⟨(i+1:Nat),?_,?_,Wk.mk (fun k=>k) ?_ ?_ ?_⟩
   ·trivial
   ·omega
   ·exact (b2 (b2 (b2 (b2 (bc ⟨(congrArg (T.int .i64) (show ((((Qo g i).1+1):Nat):Int)=(((Qo g (i+1)).1:Nat):Int) from (by omega))),rfl⟩ (b2 (b2 bn)))))))
   ·exact (bc ⟨(congrArg (fun l_=>some (Obj.rows 1 (List.map (Qn true) l_))) he5),(lb Y),rfl⟩ bn)
   ·exact nd Y
  have q0:¬QcT g (Qo g i).2 i:=fun h=>fhc2 ⟨h.1,by have:=h.2;unfold on at this;rw [this];rfl⟩
  refine sk (vinB.n (tn (VRun.region (fO (Qx (tv (tN i) Y) (VEv.int .i64 1) (by omega)) (mO (tN (i+1)) Y (VRunO.nil (tn ?_)))))))
  have he6:(Qo g i).2=(Qo g (i+1)).2:=by (rw [QbH q0];done)
  refine ⟨(i+1:Nat),?_,?_,Wk.mk (fun k=>k) ?_ ?_ ?_⟩
  ·trivial
  ·omega
  ·exact (b2 (b2 (b2 (b2 (bc ⟨(congrArg (T.int .i64) (show (((Qo g i).1:Nat):Int)=(((Qo g (i+1)).1:Nat):Int) from (by (rw [QbH q0];done)))),rfl⟩ (b2 (b2 bn)))))))
  ·exact (bc ⟨(congrArg (fun l_=>some (Obj.rows 1 (List.map (Qn true) l_))) he6),(lb Y),rfl⟩ bn)
  ·exact nd Y
 refine VRun.exit (vthn.e (vthn.e (vinB.e (tn (sr (mO (tN ((Qo g i).1)) Y (aO (tN ((Qo g i).1)) Y (nt (rt (vi (n':=(((Qo g i).1:Nat):Int)) Y ?_))))))))))
 exact congrArg (fun x:Nat=>(x:Int)) (Qgz hI1 (.inl hgo) (by omega))
noncomputable section
def ZX (g:D.Grid):Int:=if ¬gridOk g then 1 else if ¬QeC g then 2 else if ¬ZZ g=1 then 3 else if Qcp g then 4 else if Qby g then 5 else 0
theorem Qi9 {g:D.Grid} (h:∀j s,j<(Qd g).length→(Qd g)[j]? =some s→¬Qen g j s) (hg:gridOk g):Qg5 g g.Cells↔Qby g:=by
 constructor
 ·rintro ⟨c,h1,h2,_⟩
  exact .inr ⟨c,h1,hg,h2⟩
 ·rintro (⟨j,s,h3,h4⟩ | ⟨c,h1,_,h2⟩)
  ·exact absurd h4 (h j s (List.getElem?_eq_some_iff.1 h3).1 h3)
  ·refine ⟨c,h1,h2,?_⟩
   unfold Qbn
   have:=h2.1
   omega
end
theorem Qct (n:Nat) (g:D.Grid) (hc:g.Cells.size≤mx):Pure (Qq Tryz.prog (n+4)) 104 [(T.agg (Qc false g))] (tB (decide (ZZ g=1))):=by
 refine Pure.intro (rs:= [ResultVar.tmp 2]) Tryz.func104 Y Y Y (E0:= [(0,(T.agg (Qc false g)))]) Y ?_
 obtain ⟨hlim,hmx,hmax⟩:=QC
 refine sr (kO (B.box (ts:=(Qc false g)) (tv (T.agg (Qc false g)) Y) nofun Y) (fO (OF.assign (VEv.bool false)) (nt (sr (lO (OL.loadOn (us:=(Qc false g)) (tv (T.op 0 0) Y) Y Zj Q6 (lb Y) Y) (cO (cS (vc (tv (T.agg (Qc false g)) Y) vn) (LendL.cons (lg QE) ln) (Qfz (n+0) g (by assumption)) Y Y) (fO (B.eql (c:=(decide (ZZ g=1))) (tv (tN (ZZ g)) Y) (VEv.int .i64 1) (Qv (by omega))) (aO (tB (decide (ZZ g=1))) Y (nt (rt ?_))))))))))
 exact vb Y Y
theorem Qck (n:Nat) (g:D.Grid) (hc:g.Cells.size≤mx):Pure (Qq Tryz.prog (n+40)) 111 [(T.agg (Qc false g))] (tB (decide (ZZ g=1))):=by
 refine Pure.intro (rs:= [ResultVar.tmp 2]) Tryz.func111 Y Y Y (E0:= [(0,(T.agg (Qc false g)))]) Y ?_
 obtain ⟨hlim,hmx,hmax⟩:=QC
 refine sr (kO (B.box (ts:=(Qc false g)) (tv (T.agg (Qc false g)) Y) nofun Y) (fO (OF.assign (VEv.bool false)) (nt (sr (lO (OL.loadOn (us:=(Qc false g)) (tv (T.op 0 0) Y) Y Zj Q6 (lb Y) Y) (cO (cS (vc (tv (T.agg (Qc false g)) Y) vn) (LendL.cons (lg QE) ln) (Qe0 (n+0) g (by assumption)) Y Y) (fO (B.eql (c:=(decide (ZZ g=1))) (tv (tN (ZZ g)) Y) (VEv.int .i64 1) (Qv (by omega))) (aO (tB (decide (ZZ g=1))) Y (nt (rt ?_))))))))))
 exact vb Y Y
theorem Qgj (n:Nat) (g:D.Grid) (hc:g.Cells.size≤mx):Pure (Qq Tryz.prog (n+9)) 66 [(T.agg (Qc false g))] (tI (ZX g)):=by
 refine Pure.intro (rs:= [ResultVar.tmp 2]) Tryz.func66 Y Y Y (E0:= [(0,(T.agg (Qc false g)))]) Y ?_
 obtain ⟨hlim,hmx,hmax⟩:=QC
 refine sr (kO (B.box (ts:=(Qc false g)) (tv (T.agg (Qc false g)) Y) nofun Y) (fO (OF.assign (VEv.int .i64 0)) (nt (sq (VRun.block (sr (lO (OL.loadOn (us:=(Qc false g)) (tv (T.op 0 0) Y) Y Zj Q6 (lb Y) Y) (cO (cS (vc (tv (T.agg (Qc false g)) Y) vn) (LendL.cons (lg QE) ln) (ZU (n+6) g (by omega)) Y Y) (fO (QW (tv (tB (decide (gridOk g))) Y)) (aO (tB (!(decide (gridOk g)))) Y (nt ?_)))))))))))
 refine cn (gridOk g) Y (fun fhc0=> ?_) fun fhc0=> ?_
 ·refine sr ?_
  refine fO (OF.assign (VEv.int .i64 1)) (nt (rt (vinB.r (tr (vi (n':=1) Y ?_)))))
  exact (if_pos (by assumption)).symm
 refine sr (lO (OL.loadOn (us:=(Qc false g)) (tv (T.op 0 0) Y) Y Zj Q6 (lb Y) Y) (cO (cS (vc (tv (T.agg (Qc false g)) Y) vn) (LendL.cons (lg QE) ln) (QcG (n+4) g (by omega)) Y Y) (fO (QW (tv (tB (decide (QeC g))) Y)) (aO (tB (!(decide (QeC g)))) Y (nt ?_)))))
 refine cn (QeC g) Y (fun fhc1=> ?_) fun fhc1=> ?_
 ·refine sr ?_
  refine fO (OF.assign (VEv.int .i64 2)) (nt (rt (vinB.r (tr (vi (n':=2) Y ?_)))))
  (simp only [ZX];simp [*];done)
 refine sr (lO (OL.loadOn (us:=(Qc false g)) (tv (T.op 0 0) Y) Y Zj Q6 (lb Y) Y) (cO (cS (vc (tv (T.agg (Qc false g)) Y) vn) (LendL.cons (lg QE) ln) (Qct (n+4) g (by assumption)) Y Y) (fO (QW (tv (tB (decide (ZZ g=1))) Y)) (aO (tB (!(decide (ZZ g=1)))) Y (nt ?_)))))
 refine cn (ZZ g=1) Y (fun fhc2=> ?_) fun fhc2=> ?_
 ·refine sr ?_
  refine fO (OF.assign (VEv.int .i64 3)) (nt (rt (vinB.r (tr (vi (n':=3) Y ?_)))))
  (simp only [ZX];simp [*];done)
 refine sr (lO (OL.loadOn (us:=(Qc false g)) (tv (T.op 0 0) Y) Y Zj Q6 (lb Y) Y) (cO (cS (vc (tv (T.agg (Qc false g)) Y) vn) (LendL.cons (lg QE) ln) (Qeh (n+4) g (by omega)) Y Y) (aO (tB (decide (Qcp g))) Y (nt ?_))))
 refine cd (Qcp g) Y (fun fhc3=> ?_) fun fhc3=> ?_
 ·refine sr ?_
  refine fO (OF.assign (VEv.int .i64 4)) (nt (rt (vinB.r (tr (vi (n':=4) Y ?_)))))
  (simp only [ZX];simp [*];done)
 refine sr (lO (OL.loadOn (us:=(Qc false g)) (tv (T.op 0 0) Y) Y Zj Q6 (lb Y) Y) (cO (cS (vc (tv (T.agg (Qc false g)) Y) vn) (LendL.cons (lg QE) ln) (QeD (n+0) g (by omega)) Y Y) (aO (tB (decide (Qby g))) Y (nt ?_))))
 refine cd (Qby g) Y (fun fhc4=> ?_) fun fhc4=> ?_
 ·refine sr ?_
  refine fO (OF.assign (VEv.int .i64 5)) (nt (rt (vinB.r (tr (vi (n':=5) Y ?_)))))
  (simp only [ZX];simp [*];done)
 refine sk (vinB.n (tn (sr (fO (OF.assign (VEv.int .i64 0)) (nt (rt (vi (n':=0) Y ?_)))))))
 (simp only [ZX];simp [*];done)
theorem Qf5 (n:Nat) (g:D.Grid) (hc:g.Cells.size≤mx):Pure (Qq Tryz.prog (n+41)) 71 [(T.agg (Qc false g))] (tI (ZX g)):=by
 refine Pure.intro (rs:= [ResultVar.tmp 2]) Tryz.func71 Y Y Y (E0:= [(0,(T.agg (Qc false g)))]) Y ?_
 obtain ⟨hlim,hmx,hmax⟩:=QC
 have hsl:=ZS g
 refine sr (kO (B.box (ts:=(Qc false g)) (tv (T.agg (Qc false g)) Y) nofun Y) (fO (OF.assign (VEv.int .i64 0)) (nt (sq (VRun.block (sr (lO (OL.loadOn (us:=(Qc false g)) (tv (T.op 0 0) Y) Y Zj Q6 (lb Y) Y) (cO (cS (vc (tv (T.agg (Qc false g)) Y) vn) (LendL.cons (lg QE) ln) (YF (n+38) g (by omega)) Y Y) (fO (QW (tv (tB (decide (gridOk g))) Y)) (aO (tB (!(decide (gridOk g)))) Y (nt ?_)))))))))))
 refine cn (gridOk g) Y (fun fhc0=> ?_) fun fhc0=> ?_
 ·refine sr ?_
  refine fO (OF.assign (VEv.int .i64 1)) (nt (rt (vinB.r (tr (vi (n':=1) Y ?_)))))
  exact (if_pos fhc0).symm
 refine sr (lO (OL.loadOn (us:=(Qc false g)) (tv (T.op 0 0) Y) Y Zj Q6 (lb Y) Y) (cO (cS (vc (tv (T.agg (Qc false g)) Y) vn) (LendL.cons (lg QE) ln) (Qcm (n+36) g (by omega)) Y Y) (fO (QW (tv (tB (decide (QeC g))) Y)) (aO (tB (!(decide (QeC g)))) Y (nt ?_)))))
 refine cn (QeC g) Y (fun fhc1=> ?_) fun fhc1=> ?_
 ·refine sr ?_
  refine fO (OF.assign (VEv.int .i64 2)) (nt (rt (vinB.r (tr (vi (n':=2) Y ?_)))))
  unfold ZX;rw [if_neg (not_not_intro fhc0),if_pos fhc1]
 refine sr (lO (OL.loadOn (us:=(Qc false g)) (tv (T.op 0 0) Y) Y Zj Q6 (lb Y) Y) (cO (cS (vc (tv (T.agg (Qc false g)) Y) vn) (LendL.cons (lg QE) ln) (Qck (n+0) g (by assumption)) Y Y) (fO (QW (tv (tB (decide (ZZ g=1))) Y)) (aO (tB (!(decide (ZZ g=1)))) Y (nt ?_)))))
 refine cn (ZZ g=1) Y (fun fhc2=> ?_) fun fhc2=> ?_
 ·refine sr ?_
  refine fO (OF.assign (VEv.int .i64 3)) (nt (rt (vinB.r (tr (vi (n':=3) Y ?_)))))
  unfold ZX;rw [if_neg (not_not_intro fhc0),if_neg (not_not_intro fhc1),if_pos fhc2]
 refine sk (vinB.n (tn (sr (lO (OL.loadOn (us:=(Qc false g)) (tv (T.op 0 0) Y) Y Zj Q6 (lb Y) Y) (cO (OC.callF (r':=(T.os 4 1 0 (((Qd g).map (Qj true)).length))) (objs:= [(Obj.rows 4 ((Qd g).map (Qj true)))]) Y (vc (tv (T.agg (Qc false g)) Y) vn) (LendL.cons (lg QE) ln) (J2 (n+37) g (by omega)) Y) (aO (T.os 4 1 0 (((Qd g).map (Qj true)).length)) Y (nt (sq (sr (mO (T.os 4 1 0 (((Qd g).map (Qj true)).length)) Y (lO (B.lenO (m:=(Qd g).length) (tv (T.os 4 1 0 (((Qd g).map (Qj true)).length)) Y) Yl (List.length_map ..)) ?_)))))))))))
 refine fO (OF.move (VEv.int .i64 0)) (nt (VRun.block ?_))
 refine VRun.loop (A:=Nat) (fun s_=> [(1,(T.op 0 0)),(3,(T.os 4 1 0 (((Qd g).map (Qj true)).length))),(22,(T.os 4 1 0 (((Qd g).map (Qj true)).length))),(23,(tN ((Qd g).length))),(24,(tN s_))]) (fun s_=>QU [(0,(Obj.cells (Qc false g))),(1,(Obj.rows 4 ((Qd g).map (Qj true))))]) 2 (fun s_=>NoneTo (fun s:D.Slot=>s.Length<3) (Qd g) s_) (fun s_=>(Qd g).length - s_) (0:Nat) ?_ (Wk.mk (fun k=>k) ?_ ?_ ?_) ?_
 ·exact NoneTo.start _ _
 ·exact (b2 (b2 (b2 (b2 (b2 bn)))))
 ·exact (b3 (b3 bn))
 ·exact nd Y
 rintro i (hI':NoneTo (fun s:D.Slot=>s.Length<3) (Qd g) i)
 show VRun _ _ _ [(1,(T.op 0 0)),(3,(T.os 4 1 0 (((Qd g).map (Qj true)).length))),(22,(T.os 4 1 0 (((Qd g).map (Qj true)).length))),(23,(tN ((Qd g).length))),(24,(tN i))] (QU [(0,(Obj.cells (Qc false g))),(1,(Obj.rows 4 ((Qd g).map (Qj true))))]) 2 _
 have hI1:=hI'.1
 have hns:=hI'
 refine sr (fO (Q2 (tv (tN i) Y) (tv (tN ((Qd g).length)) Y)) (nt (sq ?_)))
 refine cd (i<(Qd g).length) Y (fun fhc3=> ?_) fun fhc3=> ?_
 ·have hx0:=fhc3
  refine sk (tn (sq (VRun.block (sr ?_))))
  obtain ⟨x1,hx1⟩:∃x,(Qd g)[i]? =some x:=⟨_,List.getElem?_eq_getElem (by omega)⟩
  refine fO (B.indexAddrO (i:=i) (tv (T.os 4 1 0 (((Qd g).map (Qj true)).length)) Y) (tv (tN i) Y) Y (by (simp only [List.length_map];omega)) Yl Zq Qbw) (lO (OL.loadPn (us:=(Qj false x1)) (row:=(Qj true x1)) (tv (T.orp 4 1 i 0) Y) Y (Qu _ hx1) Qeb Zq (lb Y) Y (bc Y (bc Y (bc Y (bc Y bn))))) (kO (B.alloc (t:=(T.agg [(tN 0),(tB false),(tN 0),(tN 0)])) (ts:= [(tN 0),(tB false),(tN 0),(tN 0)]) YA Qk3 nofun (fun _=> .agg _ _ Y (YK (RL.cons (.int _ _) (RL.cons (.bool _) (RL.cons (.int _ _) (RL.cons (.int _ _) (RL.nil _))))))) Y) (cO (B.storeW (us:=(Qj false x1)) (tv (T.op 2 0) Y) (tv (T.agg (Qj false x1)) Y) nofun Y Y Y Qbw Zq (bc Y (bc Y (bc Y (bc Y bn))))) (nt (sr (lf (tI x1.Length) Y QaZ Y Y QQ (fO (xls (tv (tI x1.Length) Y) (VEv.int .i64 3)) (nt ?_))))))))
  refine cd (x1.Length<3) Y (fun fhc4=> ?_) fun fhc4=> ?_
  ·refine sr ?_
   refine fO (OF.assign (VEv.int .i64 4)) (nt (rt (vinB.r (tr (tr (vinB.r (tr (vi (n':=4) Y ?_))))))))
   unfold ZX;rw [if_neg (not_not_intro fhc0),if_neg (not_not_intro fhc1),if_neg (not_not_intro fhc2),if_pos (show Qcp g from ⟨x1,List.mem_of_getElem? hx1,fhc4⟩)]
  refine sk (vinB.n (tn (VRun.region (fO (Qx (tv (tN i) Y) (VEv.int .i64 1) (by omega)) (mO (tN (i+1)) Y (VRunO.nil (tn ?_)))))))
  refine ⟨(i+1:Nat),?_,?_,Wk.mk (fun k=>k) ?_ ?_ ?_⟩
  ·exact hI'.next hx1 fhc4
  ·omega
  ·exact (b2 (b2 (b2 (b2 (b2 bn)))))
  ·exact (b3 (b3 bn))
  ·exact nd Y
 have hsh:¬Qcp g:=by rintro ⟨y,hy,hy2⟩;exact hns.mem fhc3 y hy hy2
 refine VRun.exit (vthn.e (vthn.e (vinB.e (tn (sq (sr (mO (T.os 4 1 0 (((Qd g).map (Qj true)).length)) Y (lO (B.lenO (m:=(Qd g).length) (tv (T.os 4 1 0 (((Qd g).map (Qj true)).length)) Y) Yl (List.length_map ..)) (fO (OF.move (VEv.int .i64 0)) (nt (VRun.block ?_)))))))))))
 refine VRun.loop (A:=Nat) (fun s_=> [(1,(T.op 0 0)),(32,(T.os 4 1 0 (((Qd g).map (Qj true)).length))),(33,(tN ((Qd g).length))),(34,(tN s_))]) (fun s_=>QU [(0,(Obj.cells (Qc false g))),(1,(Obj.rows 4 ((Qd g).map (Qj true))))]) 2 (fun s_=>NoBad g s_) (fun s_=>(Qd g).length - s_) (0:Nat) ?_ (Wk.mk (fun k=>k) ?_ ?_ ?_) ?_
 ·exact NoBad.start _
 ·exact (b2 (b2 (b2 (b2 bn))))
 ·exact (b3 (b3 bn))
 ·exact nd Y
 rintro k (hI':NoBad g k)
 show VRun _ _ _ [(1,(T.op 0 0)),(32,(T.os 4 1 0 (((Qd g).map (Qj true)).length))),(33,(tN ((Qd g).length))),(34,(tN k))] (QU [(0,(Obj.cells (Qc false g))),(1,(Obj.rows 4 ((Qd g).map (Qj true))))]) 2 _
 have hJ1:=hI'.1
 have hub:=QkU g ((k:Nat):Int)
 refine sr (fO (Q2 (tv (tN k) Y) (tv (tN ((Qd g).length)) Y)) (nt (sq ?_)))
 refine cd (k<(Qd g).length) Y (fun fhc5=> ?_) fun fhc5=> ?_
 ·refine sk ?_
  refine tn (sq (VRun.block (sr (mO (tN k) Y ?_))))
  obtain ⟨x1,hx1⟩:∃x,(Qd g)[k]? =some x:=⟨_,List.getElem?_eq_getElem (by omega)⟩
  refine fO (B.indexAddrO (i:=k) (tv (T.os 4 1 0 (((Qd g).map (Qj true)).length)) Y) (tv (tN k) Y) Y (by (simp only [List.length_map];omega)) Yl Zq Qbw) (lO (OL.loadPn (us:=(Qj false x1)) (row:=(Qj true x1)) (tv (T.orp 4 1 k 0) Y) Y (Qu _ hx1) Qeb Zq (lb Y) Y (bc Y (bc Y (bc Y (bc Y bn))))) (kO (B.alloc (t:=(T.agg [(tN 0),(tB false),(tN 0),(tN 0)])) (ts:= [(tN 0),(tB false),(tN 0),(tN 0)]) YA Qk3 nofun (fun _=> .agg _ _ Y (YK (RL.cons (.int _ _) (RL.cons (.bool _) (RL.cons (.int _ _) (RL.cons (.int _ _) (RL.nil _))))))) Y) (aO (tN k) Y (cO (B.storeW (us:=(Qj false x1)) (tv (T.op 2 0) Y) (tv (T.agg (Qj false x1)) Y) nofun Y Y Y Qbw Zq (bc Y (bc Y (bc Y (bc Y bn))))) (nt (sq (VRun.draw (B:= [[],[],[1,0],[0,1,2],[],[4],[4,5,2,1,0,3]]) (by kernel_rfl) (by kernel_rfl) (lD (OL.loadOn (us:=(Qc false g)) (tv (T.op 0 0) Y) Y Zj Q6 (lb Y) Y) Y Y (mD (tN k) Y Y (VRunD.quiet (bi:= [1,0]) Y VWant.always Y Y Y bn (cS (vc (tv (T.agg (Qc false g)) Y) (vc (tv (tN k) Y) vn)) (LendL.cons (lg QE) (lp Y ln)) (Qcu (n+33) g ((k:Nat):Int) (by omega)) Y Y) (fD (B.mul (n:=(2*unG g ((k:Nat):Int))) (VEv.int .i64 2) (tv (tI (unG g ((k:Nat):Int))) Y) (by (rw [Qs (by omega)];done))) Y Y ?_)))))))))))
  refine fD (OF.fieldAddrO (tv (T.op 2 0) Y) QaZ) Y Y (lD (OL.loadO1 (t:=(tI x1.Length)) (tv (T.op 2 3) Y) Y Y QQ) Y Y (fD (xgt (tv (tI (2*unG g ((k:Nat):Int))) Y) (tv (tI x1.Length) Y)) Y Y (VRunD.nil (tn ?_))))
  refine cd (x1.Length<(2*unG g ((k:Nat):Int))) Y (fun fhc6=> ?_) fun fhc6=> ?_
  ·have q1:Qen g k x1:=by unfold Qen;omega
   refine sr (fO (OF.assign (VEv.int .i64 5)) (nt (rt (vinB.r (tr (tr (vinB.r (tr (vi (n':=5) Y ?_)))))))))
   unfold ZX;rw [if_neg (not_not_intro fhc0),if_neg (not_not_intro fhc1),if_neg (not_not_intro fhc2),if_neg hsh,if_pos (show Qby g from .inl ⟨k,x1,hx1,q1⟩)]
  have q1:¬Qen g k x1:=by unfold Qen;omega
  refine sk (vinB.n (tn (VRun.region (fO (Qx (tv (tN k) Y) (VEv.int .i64 1) (by omega)) (mO (tN (k+1)) Y (VRunO.nil (tn ?_)))))))
  refine ⟨(k+1:Nat),?_,?_,Wk.mk (fun k=>k) ?_ ?_ ?_⟩
  ·exact hI'.next hx1 q1
  ·omega
  ·exact (b2 (b2 (b2 (b2 bn))))
  ·exact (b3 (b3 bn))
  ·exact nd Y
 have hal:=Qi9 (g:=g) (fun j s hj=>hI'.2 j s (by omega)) (by simpa using fhc0)
 refine VRun.exit (vthn.e (vthn.e (vinB.e (tn (sq (sr (lO (OL.loadOn (us:=(Qc false g)) (tv (T.op 0 0) Y) Y Zj Q6 (lb Y) Y) (lf (tS g.Cells) Y QL Y Y ZH (cO (cS (vc (tv (T.agg (Qc false g)) Y) (vc (tv (tS g.Cells) Y) vn)) (LendL.cons (lg QE) (lp Y ln)) (Qhw (n+35) g g.Cells (by omega) (by omega)) Y Y) (nt ?_))))))))))
 refine cd (Qg5 g g.Cells) Y (fun fhc7=> ?_) fun fhc7=> ?_
 ·refine sr ?_
  refine fO (OF.assign (VEv.int .i64 5)) (nt (rt (tr (vi (n':=5) Y ?_))))
  unfold ZX;rw [if_neg (not_not_intro fhc0),if_neg (not_not_intro fhc1),if_neg (not_not_intro fhc2),if_neg hsh,if_pos (hal.1 fhc7)]
 refine sk (tn (sr (fO (OF.assign (VEv.int .i64 0)) (nt (rt (vi (n':=0) Y ?_))))))
 unfold ZX;rw [if_neg (not_not_intro fhc0),if_neg (not_not_intro fhc1),if_neg (not_not_intro fhc2),if_neg hsh,if_neg (fun h=>fhc7 (hal.2 h))]
noncomputable section
def okC (c:D.Clue):Prop:=(1≤c.Sense∧c.Sense≤99)∧QR c.Play
end
noncomputable section
theorem Qa2 (n:Int) {m:Int} (h:0<m): -m<n.tmod m∧n.tmod m<m:=⟨Int.lt_tmod_of_pos n h,Int.tmod_lt_of_pos n h⟩
def Y9 (n m:Int):Int:=if 1≤m∧m≤1000000000000 then (n.tmod m+m).tmod m else 0
theorem Qg1 (n:Int):0≤Y9 n 2147483647∧Y9 n 2147483647<2147483647:=by
 unfold Y9
 rw [if_pos (by omega)]
 have h1:=Qa2 n (m:=2147483647) (by decide)
 have h2:=Qa2 (n.tmod 2147483647+2147483647) (m:=2147483647) (by decide)
 exact ⟨Int.tmod_nonneg _ (by omega),h2.2⟩
def Qdg (d x:Int):Int:=(d*1000003+Y9 x 2147483647+13).tmod 2147483647
def Q1 (l:List Int):Int:=l.foldl Qdg 11
theorem QfI {d x:Int} (h:0≤d∧d<2147483647):0≤Qdg d x∧Qdg d x<2147483647:=by
 have h1:=Qg1 x
 unfold Qdg
 exact ⟨Int.tmod_nonneg _ (by omega),(Qa2 _ (by decide)).2⟩
theorem Qgu : ∀(l:List Int) (d:Int),0≤d∧d<2147483647→0≤l.foldl Qdg d∧l.foldl Qdg d<2147483647
 | [],d,h=>h
 | x::r,d,h=>Qgu r _ (QfI h)
theorem Qia (l:List Int):0≤Q1 l∧Q1 l<2147483647:=Qgu l 11 (by decide)
theorem Qe3 {l:List Int} {i:Nat} {x:Int} (h:l[i]? =some x):Q1 (l.take (i+1))=Qdg (Q1 (l.take i)) x:=by
 unfold Q1
 rw [List.take_add_one,h,Option.toList_some,List.foldl_append]
 rfl
theorem QlC (s:ByteArray) (i:Nat):0≤QD s i∧QD s i<256:=by
 unfold QD
 split
 ·have:=(s[i]).toNat_lt
  omega
 ·decide
theorem Qhr {s:ByteArray} {i:Nat} (h:i<s.size):(Zd s)[i]? =some (QD s i):=by
 unfold Zd
 rw [List.getElem?_map,List.getElem?_eq_getElem (by rw [Array.length_toList];exact h),Option.map_some,← Jm h]
 rfl
theorem QfB {s:ByteArray} {i:Nat} (h:i<s.size):(Zd s).take i++ [QD s i]=(Zd s).take (i+1):=by
 rw [List.take_add_one,Qhr h];rfl
def JF (salt slot:Int) (w:ByteArray):Int:=if Ql w then Q1 ([salt,slot,((w.size:Nat):Int)]++Zd w) else 0
def J4 (seals:List Int) (salt slot:Int) (w:ByteArray):Prop:=0≤slot∧Ql w∧seals[slot.toNat]? =some (JF salt slot w)
instance (seals:List Int) (salt slot:Int) (w:ByteArray):Decidable (J4 seals salt slot w):=Classical.propDecidable _
theorem Qjs {seals:List Int} {salt slot x:Int} {w:ByteArray} (h0:0≤slot) (hw:Ql w) (hx:seals[slot.toNat]? =some x):JF salt slot w=x↔J4 seals salt slot w:=by
 unfold J4
 rw [hx]
 exact ⟨fun h=>⟨h0,hw,by rw [h]⟩,fun h=>(Option.some.inj h.2.2).symm⟩
theorem QeP {seals:List Int} {salt slot:Int} {w:ByteArray} (h:J4 seals salt slot w):slot<((seals.length:Nat):Int):=by
 have:=(List.getElem?_eq_some_iff.1 h.2.2).1
 omega
end
theorem Qjd (n:Nat) (n0:Int) (m:Int):Pure (Qq Tryz.prog (n+2)) 142 [(tI n0),(tI m)] (tI (Y9 n0 m)):=by
 refine Pure.intro (rs:= [ResultVar.tmp 4]) Tryz.func142 Y Y Y (E0:= [(0,(tI n0)),(1,(tI m))]) Y ?_
 obtain ⟨hlim,hmx,hmax⟩:=QC
 refine sr (fO (OF.assign (VEv.int .i64 0)) (nt (sq (sr (mO (tI m) Y (cO (cS (vc (tv (tI m) Y) (vc (VEv.int .i64 1) (vc (VEv.int .i64 1000000000000) vn))) (Q8 Y) (Q0 (n+0) m 1 1000000000000) Y Y) (fO (QW (tv (tB (decide (1≤m∧m≤1000000000000))) Y)) (nt ?_))))))))
 refine cn (1≤m∧m≤1000000000000) Y (fun fhc0=> ?_) fun fhc0=> ?_
 ·refine sr ?_
  refine fO (OF.assign (VEv.int .i64 0)) (nt (rt (tr (vi (n':=0) Y ?_))))
  unfold Y9;rw [if_neg fhc0]
 have hmd:=Qa2 n0 (m:=m) (by omega)
 have hmd2:=Qa2 (n0.tmod m+m) (m:=m) (by omega)
 refine sk (tn (sr (mO (tI n0) Y (mO (tI m) Y (fO (B.rem (n:=(n0.tmod m)) (tv (tI n0) Y) (tv (tI m) Y) (by omega) (by rfl)) (mO (tI m) Y (fO (B.add (n:=((n0.tmod m)+m)) (tv (tI (n0.tmod m)) Y) (tv (tI m) Y) (by (rw [Qs (by omega)];done))) (mO (tI m) Y (fO (B.rem (n:=(((n0.tmod m)+m).tmod m)) (tv (tI ((n0.tmod m)+m)) Y) (tv (tI m) Y) (by omega) (by rfl)) (aO (tI (((n0.tmod m)+m).tmod m)) Y (nt ?_)))))))))))
 refine rt (vi (n':=(((n0.tmod m)+m).tmod m)) Y ?_)
 unfold Y9;rw [if_pos (by omega)]
theorem Qjf (n:Nat) (n0:Int) (m:Int):Pure (Qq Tryz.prog (n+2)) 148 [(tI n0),(tI m)] (tI (Y9 n0 m)):=by
 refine Pure.intro (rs:= [ResultVar.tmp 4]) Tryz.func148 Y Y Y (E0:= [(0,(tI n0)),(1,(tI m))]) Y ?_
 obtain ⟨hlim,hmx,hmax⟩:=QC
 refine sr (fO (OF.assign (VEv.int .i64 0)) (nt (sq (sr (mO (tI m) Y (cO (cS (vc (tv (tI m) Y) (vc (VEv.int .i64 1) (vc (VEv.int .i64 1000000000000) vn))) (Q8 Y) (Zx (n+0) m 1 1000000000000) Y Y) (fO (QW (tv (tB (decide (1≤m∧m≤1000000000000))) Y)) (nt ?_))))))))
 refine cn (1≤m∧m≤1000000000000) Y (fun fhc0=> ?_) fun fhc0=> ?_
 ·refine sr ?_
  refine fO (OF.assign (VEv.int .i64 0)) (nt (rt (tr (vi (n':=0) Y ?_))))
  unfold Y9;rw [if_neg fhc0]
 have hmd:=Qa2 n0 (m:=m) (by omega)
 have hmd2:=Qa2 (n0.tmod m+m) (m:=m) (by omega)
 refine sk (tn (sr (mO (tI n0) Y (mO (tI m) Y (fO (B.rem (n:=(n0.tmod m)) (tv (tI n0) Y) (tv (tI m) Y) (by omega) (by rfl)) (mO (tI m) Y (fO (B.add (n:=((n0.tmod m)+m)) (tv (tI (n0.tmod m)) Y) (tv (tI m) Y) (by (rw [Qs (by omega)];done))) (mO (tI m) Y (fO (B.rem (n:=(((n0.tmod m)+m).tmod m)) (tv (tI ((n0.tmod m)+m)) Y) (tv (tI m) Y) (by omega) (by rfl)) (aO (tI (((n0.tmod m)+m).tmod m)) Y (nt ?_)))))))))))
 refine rt (vi (n':=(((n0.tmod m)+m).tmod m)) Y ?_)
 unfold Y9;rw [if_pos (by omega)]
theorem QhV (n:Nat) (l:List Int) (hl:l.length≤Zk):Pure (Qq Tryz.prog (n+3)) 107 [(rd 1 Qe l)] (tI (Q1 l)):=by
 refine Pure.intro (rs:= [ResultVar.tmp 2]) Tryz.func107 Y Y Y (E0:= [(0,(rd 1 Qe l))]) Y ?_
 obtain ⟨hlim,hmx,hmax⟩:=QC
 refine sr (fO (OF.assign (VEv.int .i64 0)) (nt (sr (fO (OF.assign (VEv.int .i64 11)) (nt (sq (sr (fO (OF.assign (VEv.int .i64 0)) (nt (VRun.block ?_))))))))))
 refine VRun.loop (A:=Nat) (fun s_=> [(0,(rd 1 Qe l)),(2,(tN 0)),(3,(tI (Q1 (l.take s_)))),(4,(tN s_))]) (fun s_=>QU []) 0 (fun s_=>s_≤l.length) (fun s_=>l.length - s_) (0:Nat) ?_ (Wk.mk (fun k=>k) ?_ ?_ ?_) ?_
 ·(simp;done)
 ·exact (b2 (b2 (bc ⟨(congrArg (T.int .i64) (show 11=Q1 (l.take 0) from (by rfl))),rfl⟩ (b2 bn))))
 ·exact bn
 ·exact nd Y
 rintro i (hI':i≤l.length)
 show VRun _ _ _ [(0,(rd 1 Qe l)),(2,(tN 0)),(3,(tI (Q1 (l.take i)))),(4,(tN i))] (QU []) 0 _
 have hhb:=Qia (l.take i)
 refine sq (sr (mO (tN i) Y (mO (rd 1 Qe l) Y (lO (B.lenR (m:=l.length) (tv (rd 1 Qe l) Y) ZE (List.length_map ..)) (fO (Q2 (tv (tN i) Y) (tv (tN l.length) Y)) (nt ?_))))))
 refine cd (i<l.length) Y (fun fhc0=> ?_) fun fhc0=> ?_
 ·refine sk ?_
  refine tn (sq (VRun.block (VRun.region (mO (tI (Q1 (l.take i))) Y (fO (B.mul (n:=(Q1 (l.take i)*1000003)) (tv (tI (Q1 (l.take i))) Y) (VEv.int .i64 1000003) (by (rw [Qs (by omega)];done))) (mO (rd 1 Qe l) Y (mO (tN i) Y ?_)))))))
  obtain ⟨x1,hx1⟩:∃x,l[i]? =some x:=⟨_,List.getElem?_eq_getElem (by omega)⟩
  have hmz:=Qg1 x1
  have hhs:=QfI (x:=x1) hhb
  have hhs2:Qdg (Q1 (l.take i)) x1=(Q1 (l.take i)*1000003+Y9 x1 2147483647+13).tmod 2147483647:=rfl
  refine fO (OF.indexAddrR (row:=(Qe false x1)) (i:=i) (tv (rd 1 Qe l) Y) (tv (tN i) Y) Y (Qu _ hx1) ZE Zu Jc) (lO (OL.loadR1 (t:=(tI x1)) (tv (T.rp [(tI x1)]) Y) Y QQ) (cO (cS (vc (tv (tI x1) Y) (vc (VEv.int .i64 2147483647) vn)) (Q8 Y) (Qjd (n+0) x1 2147483647) Y Y) (fO (B.add (n:=((Q1 (l.take i)*1000003)+Y9 x1 2147483647)) (tv (tI (Q1 (l.take i)*1000003)) Y) (tv (tI (Y9 x1 2147483647)) Y) (by (rw [Qs (by omega)];done))) (fO (B.add (n:=(((Q1 (l.take i)*1000003)+Y9 x1 2147483647)+13)) (tv (tI ((Q1 (l.take i)*1000003)+Y9 x1 2147483647)) Y) (VEv.int .i64 13) (by (rw [Qs (by omega)];done))) (fO (B.rem (n:=((((Q1 (l.take i)*1000003)+Y9 x1 2147483647)+13).tmod 2147483647)) (tv (tI (((Q1 (l.take i)*1000003)+Y9 x1 2147483647)+13)) Y) (VEv.int .i64 2147483647) (by omega) (by rfl)) (aO (tI ((((Q1 (l.take i)*1000003)+Y9 x1 2147483647)+13).tmod 2147483647)) Y (VRunO.nil (vinB.n (tn (VRun.region (mO (tN i) Y ?_)))))))))))
  refine fO (Qx (tv (tN i) Y) (VEv.int .i64 1) (by omega)) (aO (tN (i+1)) Y (VRunO.nil (tn ?_)))
  refine ⟨(i+1:Nat),?_,?_,Wk.mk (fun k=>k) ?_ ?_ ?_⟩
  ·trivial
  ·omega
  ·exact (b2 (b2 (bc ⟨(congrArg (T.int .i64) (show ((((Q1 (l.take i)*1000003)+Y9 x1 2147483647)+13).tmod 2147483647)=Q1 (l.take (i+1)) from (by exact (Qe3 hx1).symm))),rfl⟩ (b2 bn))))
  ·exact bn
  ·exact nd Y
 refine VRun.exit (vthn.e (vthn.e (vinB.e (tn (sr (mO (tI (Q1 (l.take i))) Y (aO (tI (Q1 (l.take i))) Y (nt (rt (vi (n':=Q1 (l.take i)) Y ?_))))))))))
 rw [QaM hI' fhc0]
theorem Qh6 (n:Nat) (l:List Int) (hl:l.length≤Zk):Pure (Qq Tryz.prog (n+3)) 118 [(rd 1 Qe l)] (tI (Q1 l)):=by
 refine Pure.intro (rs:= [ResultVar.tmp 2]) Tryz.func118 Y Y Y (E0:= [(0,(rd 1 Qe l))]) Y ?_
 obtain ⟨hlim,hmx,hmax⟩:=QC
 refine sr (fO (OF.assign (VEv.int .i64 0)) (nt (sr (fO (OF.assign (VEv.int .i64 11)) (nt (sq (sr (mO (rd 1 Qe l) Y (lO (B.lenR (m:=l.length) (tv (rd 1 Qe l) Y) ZE (List.length_map ..)) (fO (OF.move (VEv.int .i64 0)) (nt ?_)))))))))))
 refine VRun.block ?_
 refine VRun.loop (A:=Nat) (fun s_=> [(2,(tN 0)),(3,(tI (Q1 (l.take s_)))),(6,(rd 1 Qe l)),(7,(tN l.length)),(8,(tN s_))]) (fun s_=>QU []) 0 (fun s_=>s_≤l.length) (fun s_=>l.length - s_) (0:Nat) ?_ (Wk.mk (fun k=>k) ?_ ?_ ?_) ?_
 ·(simp;done)
 ·exact (b2 (bc ⟨(congrArg (T.int .i64) (show 11=Q1 (l.take 0) from (by rfl))),rfl⟩ (b2 (b2 (b2 bn)))))
 ·exact bn
 ·exact nd Y
 rintro i (hI':i≤l.length)
 show VRun _ _ _ [(2,(tN 0)),(3,(tI (Q1 (l.take i)))),(6,(rd 1 Qe l)),(7,(tN l.length)),(8,(tN i))] (QU []) 0 _
 have hhb:=Qia (l.take i)
 refine sr (fO (Q2 (tv (tN i) Y) (tv (tN l.length) Y)) (nt (sq ?_)))
 refine cd (i<l.length) Y (fun fhc0=> ?_) fun fhc0=> ?_
 ·refine sk ?_
  refine tn (sq (VRun.block (sr ?_)))
  obtain ⟨x1,hx1⟩:∃x,l[i]? =some x:=⟨_,List.getElem?_eq_getElem (by omega)⟩
  have hmz:=Qg1 x1
  have hhs:=QfI (x:=x1) hhb
  have hhs2:Qdg (Q1 (l.take i)) x1=(Q1 (l.take i)*1000003+Y9 x1 2147483647+13).tmod 2147483647:=rfl
  refine fO (OF.indexAddrR (row:=(Qe false x1)) (i:=i) (tv (rd 1 Qe l) Y) (tv (tN i) Y) Y (Qu _ hx1) ZE Zu Jc) (lO (OL.loadR1 (t:=(tI x1)) (tv (T.rp [(tI x1)]) Y) Y QQ) (aO (tI x1) Y (nt (VRun.region (mO (tI (Q1 (l.take i))) Y (fO (B.mul (n:=(Q1 (l.take i)*1000003)) (tv (tI (Q1 (l.take i))) Y) (VEv.int .i64 1000003) (by (rw [Qs (by omega)];done))) (mO (tI x1) Y (cO (cS (vc (tv (tI x1) Y) (vc (VEv.int .i64 2147483647) vn)) (Q8 Y) (Qjf (n+0) x1 2147483647) Y Y) (fO (B.add (n:=((Q1 (l.take i)*1000003)+Y9 x1 2147483647)) (tv (tI (Q1 (l.take i)*1000003)) Y) (tv (tI (Y9 x1 2147483647)) Y) (by (rw [Qs (by omega)];done))) (fO (B.add (n:=(((Q1 (l.take i)*1000003)+Y9 x1 2147483647)+13)) (tv (tI ((Q1 (l.take i)*1000003)+Y9 x1 2147483647)) Y) (VEv.int .i64 13) (by (rw [Qs (by omega)];done))) (fO (B.rem (n:=((((Q1 (l.take i)*1000003)+Y9 x1 2147483647)+13).tmod 2147483647)) (tv (tI (((Q1 (l.take i)*1000003)+Y9 x1 2147483647)+13)) Y) (VEv.int .i64 2147483647) (by omega) (by rfl)) ?_)))))))))))
  refine aO (tI ((((Q1 (l.take i)*1000003)+Y9 x1 2147483647)+13).tmod 2147483647)) Y (VRunO.nil (vinB.n (tn (VRun.region (fO (Qx (tv (tN i) Y) (VEv.int .i64 1) (by omega)) (mO (tN (i+1)) Y (VRunO.nil (tn ?_))))))))
  refine ⟨(i+1:Nat),?_,?_,Wk.mk (fun k=>k) ?_ ?_ ?_⟩
  ·trivial
  ·omega
  ·exact (b2 (bc ⟨(congrArg (T.int .i64) (show ((((Q1 (l.take i)*1000003)+Y9 x1 2147483647)+13).tmod 2147483647)=Q1 (l.take (i+1)) from (by exact (Qe3 hx1).symm))),rfl⟩ (b2 (b2 (b2 bn)))))
  ·exact bn
  ·exact nd Y
 refine VRun.exit (vthn.e (vthn.e (vinB.e (tn (sr (mO (tI (Q1 (l.take i))) Y (aO (tI (Q1 (l.take i))) Y (nt (rt (vi (n':=Q1 (l.take i)) Y ?_))))))))))
 rw [QaM hI' fhc0]
theorem QdU (n:Nat) (s:ByteArray) (hs:s.size≤Zk):Pure (Qq Tryz.prog (n+1)) 108 [(tS s)] (T.sl true 1 ((Zd s).map (Qe true))):=by
 refine Pure.intro (rs:= [ResultVar.tmp 2]) Tryz.func108 Y Y Y (E0:= [(0,(tS s))]) Y ?_
 obtain ⟨hlim,hmx,hmax⟩:=QC
 have hbl:=ZY s
 refine sr (fO (OF.assign VEv.nils) (nt (sr (kO (OM.slice0 ZE zo3 (by kernel_rfl) Y (by rw [Zu];decide) Zu) (aO (T.os 1 0 0 0) Y (nt (sq (sr (fO (OF.assign (VEv.int .i64 0)) (nt (VRun.block ?_)))))))))))
 have he1: []=(((Zd s).take 0).map (Qe true)):=by rfl
 refine VRun.loop (A:=Nat) (fun s_=> [(0,(tS s)),(2,T.nils),(3,(T.os 1 0 0 ((((Zd s).take s_).map (Qe true)).length))),(4,(tN s_))]) (fun s_=>QU [(0,(Obj.rows 1 (((Zd s).take s_).map (Qe true))))]) 1 (fun s_=>s_≤s.size) (fun s_=>s.size - s_) (0:Nat) ?_ (Wk.mk (fun k=>k) ?_ ?_ ?_) ?_
 ·(simp;done)
 ·exact (b2 (b2 (bc ⟨(congrArg (fun n_=>T.os 1 0 0 n_) (show 0=(((Zd s).take 0).map (Qe true)).length from (by rfl))),rfl⟩ (b2 bn))))
 ·exact (bc ⟨(congrArg (fun l_=>some (Obj.rows 1 l_)) he1),(lb Y),rfl⟩ bn)
 ·exact nd Y
 rintro i (hI':i≤s.size)
 show VRun _ _ _ [(0,(tS s)),(2,T.nils),(3,(T.os 1 0 0 ((((Zd s).take i).map (Qe true)).length))),(4,(tN i))] (QU [(0,(Obj.rows 1 (((Zd s).take i).map (Qe true))))]) 1 _
 have htl:=J8 (Zd s) i
 have hbb:=QlC s i
 refine sq (sr (mO (tN i) Y (mO (tS s) Y (lO (B.lenS (tv (tS s) Y) U9) (fO (Q2 (tv (tN i) Y) (tv (tN s.size) Y)) (nt ?_))))))
 refine cd (i<s.size) Y (fun fhc0=> ?_) fun fhc0=> ?_
 ·refine sk ?_
  refine tn (sq (VRun.block (VRun.region (mO (T.os 1 0 0 ((((Zd s).take i).map (Qe true)).length)) Y (mO (tS s) Y (mO (tN i) Y ?_))))))
  have hb2:i<s.size:=(by omega)
  refine fO (xix (tv (tS s) Y) (tv (tN i) Y) hb2 U9) (fO (xcv (m:=(QD s i)) (tv (T.int .u8 (QD s i)) Y) U5 U3 (Qs (by omega))) (kO (OM.buildSlice (l:= [(tI (QD s i))]) (VEvp.cons (tv (tI (QD s i)) Y) VEvp.nil) Y (by decide) (bc (nofun) bn) (bc ((bc (Y) bn)) bn) (bc (Y) bn) ZE zo3 (by kernel_rfl) Y (by rw [Zu];decide) Zu (Nat.le_of_ble_eq_true Y)) (cO (B.append (rows:=(((Zd s).take i).map (Qe true))) (rows2:= [[(tI (QD s i))]]) (rows3:=(((Zd s).take i++ [QD s i]).map (Qe true))) (VDst.own (tv (T.os 1 0 0 ((((Zd s).take i).map (Qe true)).length)) Y) Y Y) (VSrc.own (tv (T.os 1 1 0 1) Y) Y Y ZE (bc (bc Y bn) bn)) (by decide) ZE Zu (by decide) zo3 Y (of_decide_eq_true (by kernel_rfl)) (by (simp only [List.length_map,List.length_append,List.length_cons,List.length_nil,List.length_replicate,List.length_set,List.length_drop,List.length_take,Zk] at *;omega)) ((List.map_append (f:=Qe true) (l₁:=(Zd s).take i) (l₂:= [QD s i])).symm)) (aO (T.os 1 2 0 ((((Zd s).take i++ [QD s i]).map (Qe true)).length)) Y (VRunO.nil (vinB.n (tn (VRun.region (mO (tN i) Y (fO (Qx (tv (tN i) Y) (VEv.int .i64 1) (by omega)) (aO (tN (i+1)) Y ?_)))))))))))
  refine VRunO.nil (tn ?_)
  have he3:((Zd s).take i++ [QD s i])=(Zd s).take (i+1):=by exact QfB fhc0
  refine ⟨(i+1:Nat),?_,?_,Wk.mk (fun k=>if k=0 then 2 else k) ?_ ?_ ?_⟩
  ·trivial
  ·omega
  ·exact (b2 (b2 (bc ⟨(congrArg (fun l_=>T.os 1 2 0 (List.map (Qe true) l_).length) he3),rfl⟩ (b2 bn))))
  ·exact (bc ⟨(congrArg (fun l_=>some (Obj.rows 1 (List.map (Qe true) l_))) he3),(lb Y),rfl⟩ bn)
  ·exact nd Y
 refine VRun.exit (vthn.e (vthn.e (vinB.e (tn (sr (mO (T.os 1 0 0 ((((Zd s).take i).map (Qe true)).length)) Y (aO (T.os 1 0 0 ((((Zd s).take i).map (Qe true)).length)) Y (nt (rt ?_)))))))))
 refine vfin.eq (r':=(T.sl true 1 (((Zd s).take i).map (Qe true)))) ?_ (vfin.r (VRes.tmp (t:=(T.os 1 0 0 ((((Zd s).take i).map (Qe true)).length))) Y VRes.nil) (Give.os Y Y (okInt.cleanMap _)))
 refine congrArg (fun l_=>T.sl true 1 (List.map (Qe true) l_)) ?_
 rw [QaM (by omega) (by omega)]
theorem Qdr (n:Nat) (s:ByteArray) (hs:s.size≤Zk):Pure (Qq Tryz.prog (n+1)) 119 [(tS s)] (T.sl true 1 ((Zd s).map (Qe true))):=by
 refine Pure.intro (rs:= [ResultVar.tmp 2]) Tryz.func119 Y Y Y (E0:= [(0,(tS s))]) Y ?_
 obtain ⟨hlim,hmx,hmax⟩:=QC
 have hbl:=ZY s
 refine sr (fO (OF.assign VEv.nils) (nt (sr (fO (OF.assign VEv.nils) (nt (sq (sr (mO (tS s) Y (lO (B.lenS (tv (tS s) Y) U9) (fO (OF.move (VEv.int .i64 0)) (nt ?_)))))))))))
 refine VRun.block (VRun.wk (Wk.phantom 3 1 Y) ?_)
 have he1: []=(((Zd s).take 0).map (Qe true)):=by rfl
 refine VRun.loop (A:=Nat) (fun s_=> [(0,(tS s)),(2,T.nils),(3,(T.os 1 0 0 ((((Zd s).take s_).map (Qe true)).length))),(6,(tN s.size)),(7,(tN s_))]) (fun s_=>QU [(0,(Obj.rows 1 (((Zd s).take s_).map (Qe true))))]) 1 (fun s_=>s_≤s.size) (fun s_=>s.size - s_) (0:Nat) ?_ (Wk.mk (fun k=>k) ?_ ?_ ?_) ?_
 ·(simp;done)
 ·exact (b2 (b2 (bc ⟨(congrArg (fun n_=>T.os 1 0 0 n_) (show 0=(((Zd s).take 0).map (Qe true)).length from (by rfl))),rfl⟩ (b2 (b2 bn)))))
 ·exact (bc ⟨(congrArg (fun l_=>some (Obj.rows 1 l_)) he1),(lb Y),rfl⟩ bn)
 ·exact nd Y
 rintro i (hI':i≤s.size)
 show VRun _ _ _ [(0,(tS s)),(2,T.nils),(3,(T.os 1 0 0 ((((Zd s).take i).map (Qe true)).length))),(6,(tN s.size)),(7,(tN i))] (QU [(0,(Obj.rows 1 (((Zd s).take i).map (Qe true))))]) 1 _
 have htl:=J8 (Zd s) i
 have hbb:=QlC s i
 refine sr (fO (Q2 (tv (tN i) Y) (tv (tN s.size) Y)) (nt (sq ?_)))
 refine cd (i<s.size) Y (fun fhc0=> ?_) fun fhc0=> ?_
 ·refine sk ?_
  refine tn (sq (VRun.block (sr (mO (tN i) Y (aO (tN i) Y (nt (VRun.region (mO (T.os 1 0 0 ((((Zd s).take i).map (Qe true)).length)) Y (mO (tS s) Y (mO (tN i) Y ?_))))))))))
  have hb2:i<s.size:=(by omega)
  refine fO (xix (tv (tS s) Y) (tv (tN i) Y) hb2 U9) (fO (xcv (m:=(QD s i)) (tv (T.int .u8 (QD s i)) Y) U5 U3 (Qs (by omega))) (kO (OM.buildSlice (l:= [(tI (QD s i))]) (VEvp.cons (tv (tI (QD s i)) Y) VEvp.nil) Y (by decide) (bc (nofun) bn) (bc ((bc (Y) bn)) bn) (bc (Y) bn) ZE zo3 (by kernel_rfl) Y (by rw [Zu];decide) Zu (Nat.le_of_ble_eq_true Y)) (cO (B.append (rows:=(((Zd s).take i).map (Qe true))) (rows2:= [[(tI (QD s i))]]) (rows3:=(((Zd s).take i++ [QD s i]).map (Qe true))) (VDst.own (tv (T.os 1 0 0 ((((Zd s).take i).map (Qe true)).length)) Y) Y Y) (VSrc.own (tv (T.os 1 1 0 1) Y) Y Y ZE (bc (bc Y bn) bn)) (by decide) ZE Zu (by decide) zo3 Y (of_decide_eq_true (by kernel_rfl)) (by (simp only [List.length_map,List.length_append,List.length_cons,List.length_nil,List.length_replicate,List.length_set,List.length_drop,List.length_take,Zk] at *;omega)) ((List.map_append (f:=Qe true) (l₁:=(Zd s).take i) (l₂:= [QD s i])).symm)) (aO (T.os 1 2 0 ((((Zd s).take i++ [QD s i]).map (Qe true)).length)) Y (VRunO.nil (vinB.n (tn (VRun.region (fO (Qx (tv (tN i) Y) (VEv.int .i64 1) (by omega)) (mO (tN (i+1)) Y (VRunO.nil ?_)))))))))))
  refine tn ?_
  have he3:((Zd s).take i++ [QD s i])=(Zd s).take (i+1):=by exact QfB fhc0
  refine ⟨(i+1:Nat),?_,?_,Wk.mk (fun k=>if k=0 then 2 else k) ?_ ?_ ?_⟩
  ·trivial
  ·omega
  ·exact (b2 (b2 (bc ⟨(congrArg (fun l_=>T.os 1 2 0 (List.map (Qe true) l_).length) he3),rfl⟩ (b2 (b2 bn)))))
  ·exact (bc ⟨(congrArg (fun l_=>some (Obj.rows 1 (List.map (Qe true) l_))) he3),(lb Y),rfl⟩ bn)
  ·exact nd Y
 refine VRun.exit (vthn.e (vthn.e (vinB.e (tn (sr (mO (T.os 1 0 0 ((((Zd s).take i).map (Qe true)).length)) Y (aO (T.os 1 0 0 ((((Zd s).take i).map (Qe true)).length)) Y (nt (rt ?_)))))))))
 refine vfin.eq (r':=(T.sl true 1 (((Zd s).take i).map (Qe true)))) ?_ (vfin.r (VRes.tmp (t:=(T.os 1 0 0 ((((Zd s).take i).map (Qe true)).length))) Y VRes.nil) (Give.os Y Y (okInt.cleanMap _)))
 refine congrArg (fun l_=>T.sl true 1 (List.map (Qe true) l_)) ?_
 rw [QaM (by omega) (by omega)]
theorem QcO (n:Nat) (salt:Int) (slot:Int) (w:ByteArray) (hw:w.size≤maxLen):Pure (Qq Tryz.prog (n+4)) 70 [(tI salt),(tI slot),(tS w)] (tI (JF salt slot w)):=by
 refine Pure.intro (rs:= [ResultVar.tmp 6]) Tryz.func70 Y Y Y (E0:= [(0,(tI salt)),(1,(tI slot)),(2,(tS w))]) Y ?_
 obtain ⟨hlim,hmx,hmax⟩:=QC
 have hbl:=ZY w
 refine sr (fO (OF.assign (VEv.int .i64 0)) (nt (sq (sr (mO (tS w) Y (cO (cS (vc (tv (tS w) Y) vn) (Q8 Y) (Q9 (n+1) w (by assumption)) Y Y) (fO (QW (tv (tB (decide (Ql w))) Y)) (nt ?_))))))))
 refine cn (Ql w) Y (fun fhc0=> ?_) fun fhc0=> ?_
 ·refine sr ?_
  refine fO (OF.assign (VEv.int .i64 0)) (nt (rt (tr (vi (n':=0) Y ?_))))
  unfold JF;rw [if_neg fhc0]
 have hw8:=fhc0.1.2
 refine sk (tn (sr (mO (tI salt) Y (mO (tI slot) Y (mO (tS w) Y (lO (B.lenS (tv (tS w) Y) U9) (kO (OM.buildSlice (l:= [(tI salt),(tI slot),(tN w.size)]) (VEvp.cons (tv (tI salt) Y) (VEvp.cons (tv (tI slot) Y) (VEvp.cons (tv (tN w.size) Y) VEvp.nil))) Y (by decide) (bc (nofun) (bc (nofun) (bc (nofun) bn))) (bc ((bc (Y) bn)) (bc ((bc (Y) bn)) (bc ((bc (Y) bn)) bn))) (bc (Y) (bc (Y) (bc (Y) bn))) ZE zo3 (by kernel_rfl) Y (by rw [Zu];decide) Zu (Nat.le_of_ble_eq_true Y)) (mO (tS w) Y (cO (OC.callF (r':=(T.os 1 1 0 (((Zd w).map (Qe true)).length))) (objs:= [(Obj.rows 1 ((Zd w).map (Qe true)))]) Y (vc (tv (tS w) Y) vn) (Q8 Y) (QdU (n+2) w (by omega)) Y) (cO (B.append (rows:= [[(tI salt)],[(tI slot)],[(tN w.size)]]) (rows2:=((Zd w).map (Qe true))) (rows3:=(([salt,slot,((w.size:Nat):Int)]++Zd w).map (Qe true))) (VDst.own (tv (T.os 1 0 0 3) Y) Y Y) (VSrc.own (tv (T.os 1 1 0 (((Zd w).map (Qe true)).length)) Y) Y Y ZE (okInt.okMap _ _)) (by decide) ZE Zu (by decide) zo3 Y (of_decide_eq_true (by kernel_rfl)) (by (simp only [List.length_append,List.length_cons,List.length_nil,List.length_map];omega)) ((List.map_append (f:=Qe true) (l₁:= [salt,slot,((w.size:Nat):Int)]) (l₂:=Zd w)).symm)) (cO (cS (us:= [(rd 1 Qe ([salt,slot,((w.size:Nat):Int)]++Zd w))]) (vc (tv (T.os 1 2 0 ((([salt,slot,((w.size:Nat):Int)]++Zd w).map (Qe true)).length)) Y) vn) (LendL.cons (Lend.os Y Y (okInt.fzMap _ _)) ln) (QhV (n+0) ([salt,slot,((w.size:Nat):Int)]++Zd w) (by (simp only [List.length_append,List.length_cons,List.length_nil,List.length_map];omega))) Y Y) ?_)))))))))))
 refine aO (tI (Q1 ([salt,slot,((w.size:Nat):Int)]++Zd w))) Y (nt (rt (vi (n':=Q1 ([salt,slot,((w.size:Nat):Int)]++Zd w)) Y ?_)))
 unfold JF;rw [if_pos fhc0]
theorem QcP (n:Nat) (salt:Int) (slot:Int) (w:ByteArray) (hw:w.size≤maxLen):Pure (Qq Tryz.prog (n+4)) 80 [(tI salt),(tI slot),(tS w)] (tI (JF salt slot w)):=by
 refine Pure.intro (rs:= [ResultVar.tmp 6]) Tryz.func80 Y Y Y (E0:= [(0,(tI salt)),(1,(tI slot)),(2,(tS w))]) Y ?_
 obtain ⟨hlim,hmx,hmax⟩:=QC
 have hbl:=ZY w
 refine sr (fO (OF.assign (VEv.int .i64 0)) (nt (sq (sr (mO (tS w) Y (cO (cS (vc (tv (tS w) Y) vn) (Q8 Y) (Za (n+1) w (by assumption)) Y Y) (fO (QW (tv (tB (decide (Ql w))) Y)) (nt ?_))))))))
 refine cn (Ql w) Y (fun fhc0=> ?_) fun fhc0=> ?_
 ·refine sr ?_
  refine fO (OF.assign (VEv.int .i64 0)) (nt (rt (tr (vi (n':=0) Y ?_))))
  unfold JF;rw [if_neg fhc0]
 have hw8:=fhc0.1.2
 refine sk (tn (sr (mO (tI salt) Y (mO (tI slot) Y (mO (tS w) Y (lO (B.lenS (tv (tS w) Y) U9) (kO (OM.buildSlice (l:= [(tI salt),(tI slot),(tN w.size)]) (VEvp.cons (tv (tI salt) Y) (VEvp.cons (tv (tI slot) Y) (VEvp.cons (tv (tN w.size) Y) VEvp.nil))) Y (by decide) (bc (nofun) (bc (nofun) (bc (nofun) bn))) (bc ((bc (Y) bn)) (bc ((bc (Y) bn)) (bc ((bc (Y) bn)) bn))) (bc (Y) (bc (Y) (bc (Y) bn))) ZE zo3 (by kernel_rfl) Y (by rw [Zu];decide) Zu (Nat.le_of_ble_eq_true Y)) (mO (tS w) Y (cO (OC.callF (r':=(T.os 1 1 0 (((Zd w).map (Qe true)).length))) (objs:= [(Obj.rows 1 ((Zd w).map (Qe true)))]) Y (vc (tv (tS w) Y) vn) (Q8 Y) (Qdr (n+2) w (by omega)) Y) (cO (B.append (rows:= [[(tI salt)],[(tI slot)],[(tN w.size)]]) (rows2:=((Zd w).map (Qe true))) (rows3:=(([salt,slot,((w.size:Nat):Int)]++Zd w).map (Qe true))) (VDst.own (tv (T.os 1 0 0 3) Y) Y Y) (VSrc.own (tv (T.os 1 1 0 (((Zd w).map (Qe true)).length)) Y) Y Y ZE (okInt.okMap _ _)) (by decide) ZE Zu (by decide) zo3 Y (of_decide_eq_true (by kernel_rfl)) (by (simp only [List.length_append,List.length_cons,List.length_nil,List.length_map];omega)) ((List.map_append (f:=Qe true) (l₁:= [salt,slot,((w.size:Nat):Int)]) (l₂:=Zd w)).symm)) (cO (cS (us:= [(rd 1 Qe ([salt,slot,((w.size:Nat):Int)]++Zd w))]) (vc (tv (T.os 1 2 0 ((([salt,slot,((w.size:Nat):Int)]++Zd w).map (Qe true)).length)) Y) vn) (LendL.cons (Lend.os Y Y (okInt.fzMap _ _)) ln) (Qh6 (n+0) ([salt,slot,((w.size:Nat):Int)]++Zd w) (by (simp only [List.length_append,List.length_cons,List.length_nil,List.length_map];omega))) Y Y) ?_)))))))))))
 refine aO (tI (Q1 ([salt,slot,((w.size:Nat):Int)]++Zd w))) Y (nt (rt (vi (n':=Q1 ([salt,slot,((w.size:Nat):Int)]++Zd w)) Y ?_)))
 unfold JF;rw [if_pos fhc0]
theorem JJ (n:Nat) (seals:List Int) (salt:Int) (slot:Int) (w:ByteArray) (hl:seals.length≤Zk) (hw:w.size≤maxLen):Pure (Qq Tryz.prog (n+5)) 34 [(rd 1 Qe seals),(tI salt),(tI slot),(tS w)] (tB (decide (J4 seals salt slot w))):=by
 refine Pure.intro (rs:= [ResultVar.tmp 8]) Tryz.func34 Y Y Y (E0:= [(0,(rd 1 Qe seals)),(1,(tI salt)),(2,(tI slot)),(3,(tS w))]) Y ?_
 obtain ⟨hlim,hmx,hmax⟩:=QC
 refine sr (fO (OF.assign (VEv.bool false)) (nt (sq (VRun.draw (B:= [[],[],[1],[1,2],[2,1,3,0],[0,3,1,2,4],[4,2,1,3,0,5],[5,0,3,1,2,4,6],[6,7,4,2,1,3,0,5],[5,0,3,1,2,4,7,6,8],[8,6,7,4,2,1,3,0,5,9],[8,6,7,4,2,1,3,0,5,9],[8,6,7,4,2,1,3,0,5,9],[12,11,9,5,0,3,1,2,4,7,6,8,10],[8,6,7,4,2,1,3,0,5,9],[8,6,7,4,2,1,3,0,5,9],[15,9,5,0,3,1,2,4,7,6,8,14],[14,8,6,7,4,2,1,3,0,5,9,15,16],[16,15,14,17,10,8,6,7,4,2,1,3,0,5,9,11,12,13],[13,12,11,10,17,14,15,16,18,8,6,7,4,2,1,3,0,5,9],[9,5,0,3,1,2,4,7,6,8,18,16,15,14,17,10,11,12,13,19]]) (by kernel_rfl) (by kernel_rfl) (mD (tI slot) Y Y (mD (rd 1 Qe seals) Y Y (lD (B.lenR (m:=seals.length) (tv (rd 1 Qe seals) Y) ZE (List.length_map ..)) Y Y (fD (B.sub (n:=(((seals.length:Nat):Int) - 1)) (tv (tN seals.length) Y) (VEv.int .i64 1) (by (rw [Qs (by omega)];done))) Y Y (VRunD.quiet (bi:= [2,1,3,0]) Y VWant.always Y Y Y bn (cS (vc (tv (tI slot) Y) (vc (VEv.int .i64 0) (vc (tv (tI (((seals.length:Nat):Int) - 1)) Y) vn))) (Q8 Y) (Q0 (n+3) slot 0 (((seals.length:Nat):Int) - 1)) Y Y) (mD (tB (decide (0≤slot∧slot≤(((seals.length:Nat):Int) - 1)))) Y Y ?_))))))))))
 refine gw (0≤slot∧slot≤(((seals.length:Nat):Int) - 1)) (fun fhg14_1=> ?_) fun fhg14_1=> ?_
 ·refine VRunD.free Y (VWant.on Y Y (dy fhg14_1)) Y (OF.move (tv (tS w) Y)) ?_
  refine VRunD.quiet (bi:= [5,0,3,1,2,4,6]) Y (VWant.on Y Y (dy fhg14_1)) Y Y Y bn (cS (vc (tv (tS w) Y) vn) (Q8 Y) (Q9 (n+2) w (by assumption)) Y Y) (fD (OF.pickT (VEv.tmpB Y (dy fhg14_1)) (tv (tB (decide (Ql w))) Y)) Y Y (mD (tB (decide (Ql w))) Y Y ?_))
  refine gw (Ql w) (fun fhg18_2=> ?_) fun fhg18_2=> ?_
  ·refine VRunD.free Y (VWant.on Y Y (dy fhg18_2)) Y (OF.move (tv (tI salt) Y)) ?_
   refine VRunD.free Y (VWant.on Y Y (dy fhg18_2)) Y (OF.move (tv (tI slot) Y)) (VRunD.free Y (VWant.on Y Y (dy fhg18_2)) Y (OF.move (tv (tS w) Y)) (VRunD.quiet (bi:= [12,11,9,5,0,3,1,2,4,7,6,8,10]) Y (VWant.on Y Y (dy fhg18_2)) Y Y Y bn (cS (vc (tv (tI salt) Y) (vc (tv (tI slot) Y) (vc (tv (tS w) Y) vn))) (Q8 Y) (QcO (n+0) salt slot w (by assumption)) Y Y) (VRunD.free Y (VWant.on Y Y (dy fhg18_2)) Y (OF.move (tv (rd 1 Qe seals) Y)) (VRunD.free Y (VWant.on Y Y (dy fhg18_2)) Y (OF.move (tv (tI slot) Y)) ?_))))
   obtain ⟨x1,hx1⟩:∃x,seals[(Int.toNat slot)]? =some x:=⟨_,List.getElem?_eq_getElem (by omega)⟩
   refine VRunD.free Y (VWant.on Y Y (dy fhg18_2)) Y (OF.indexAddrR (row:=(Qe false x1)) (i:=(Int.toNat slot)) (tv (rd 1 Qe seals) Y) (tv (tI slot) Y) (by omega) (Qu _ hx1) ZE Zu Jc) (VRunD.look Y (VWant.on Y Y (dy fhg18_2)) Y (OL.loadR1 (t:=(tI x1)) (tv (T.rp [(tI x1)]) Y) Y QQ) (VRunD.free Y (VWant.on Y Y (dy fhg18_2)) Y (Z7 (tv (tI (JF salt slot w)) Y) (tv (tI x1) Y)) (fD (OF.pickT (VEv.tmpB Y (dy fhg18_2)) (tv (tB (decide (JF salt slot w=x1))) Y)) Y Y (fD (OF.assign (tv (tB (decide (JF salt slot w=x1))) Y)) Y Y (VRunD.nil (tn (rt (vb (b':=(decide (JF salt slot w=x1))) Y ?_))))))))
   (refine Qv (Qjs ?_ ?_ hx1);omega;assumption)
  refine oD Y Y (dz fhg18_2) Y (oD Y Y (dz fhg18_2) Y (oD Y Y (dz fhg18_2) Y (oD Y Y (dz fhg18_2) Y (oD Y Y (dz fhg18_2) Y (oD Y Y (dz fhg18_2) Y (oD Y Y (dz fhg18_2) Y (oD Y Y (dz fhg18_2) Y (oD Y Y (dz fhg18_2) Y (fD (OF.pickF (VEv.tmpB Y (dz fhg18_2)) (VEv.bool false)) Y Y (fD (OF.assign (tv (tB false) Y)) Y Y (VRunD.nil ?_)))))))))))
  refine tn (rt (vb (b':=false) Y ?_))
  (symm;rw [decide_eq_false_iff_not];intro h;have h2:=QeP h;have h3:=h.1;exact absurd h.2.1 (by assumption))
 refine oD Y Y (dz fhg14_1) Y (oD Y Y (dz fhg14_1) Y (fD (OF.pickF (VEv.tmpB Y (dz fhg14_1)) (VEv.bool false)) Y Y (mD (tB false) Y Y (VRunD.off Y (VWant.not (b:=false) Y Y Y) (VRunD.off Y (VWant.not (b:=false) Y Y Y) (VRunD.off Y (VWant.not (b:=false) Y Y Y) (VRunD.off Y (VWant.not (b:=false) Y Y Y) (VRunD.off Y (VWant.not (b:=false) Y Y Y) (VRunD.off Y (VWant.not (b:=false) Y Y Y) (VRunD.off Y (VWant.not (b:=false) Y Y Y) (VRunD.off Y (VWant.not (b:=false) Y Y Y) ?_)))))))))))
 refine VRunD.off Y (VWant.not (b:=false) Y Y Y) (fD (OF.pickF (tv (tB false) Y) (VEv.bool false)) Y Y (fD (OF.assign (tv (tB false) Y)) Y Y (VRunD.nil (tn (rt (vb (b':=false) Y ?_))))))
 (symm;rw [decide_eq_false_iff_not];intro h;have h2:=QeP h;have h3:=h.1;omega)
theorem JG (n:Nat) (seals:List Int) (salt:Int) (slot:Int) (w:ByteArray) (hl:seals.length≤Zk) (hw:w.size≤maxLen):Pure (Qq Tryz.prog (n+5)) 46 [(rd 1 Qe seals),(tI salt),(tI slot),(tS w)] (tB (decide (J4 seals salt slot w))):=by
 refine Pure.intro (rs:= [ResultVar.tmp 8]) Tryz.func46 Y Y Y (E0:= [(0,(rd 1 Qe seals)),(1,(tI salt)),(2,(tI slot)),(3,(tS w))]) Y ?_
 obtain ⟨hlim,hmx,hmax⟩:=QC
 refine sr (fO (OF.assign (VEv.bool false)) (nt (sq (VRun.draw (B:= [[],[],[1],[1,2,0],[0,2,1,3],[3,1,2,0,4],[4,0,2,1,3,5],[5,6,3,1,2,0,4],[4,0,2,1,3,6,5,7],[7,5,6,3,1,2,0,4,8],[7,5,6,3,1,2,0,4,8],[7,5,6,3,1,2,0,4,8],[11,10,8,4,0,2,1,3,6,5,7,9],[7,5,6,3,1,2,0,4,8],[7,5,6,3,1,2,0,4,8],[14,8,4,0,2,1,3,6,5,7,13],[13,7,5,6,3,1,2,0,4,8,14,15],[15,14,13,16,9,7,5,6,3,1,2,0,4,8,10,11,12],[12,11,10,9,16,13,14,15,17,7,5,6,3,1,2,0,4,8],[8,4,0,2,1,3,6,5,7,17,15,14,13,16,9,10,11,12,18]]) (by kernel_rfl) (by kernel_rfl) (mD (tI slot) Y Y (mD (rd 1 Qe seals) Y Y (lD (B.lenR (m:=seals.length) (tv (rd 1 Qe seals) Y) ZE (List.length_map ..)) Y Y (VRunD.quiet (bi:= [1,2,0]) Y VWant.always Y Y Y bn (cS (vc (tv (tI slot) Y) (vc (tv (tN seals.length) Y) vn)) (Q8 Y) (YR (n+3) slot ((seals.length:Nat):Int)) Y Y) (mD (tB (decide (0≤slot∧slot<((seals.length:Nat):Int)))) Y Y ?_)))))))))
 refine gw (0≤slot∧slot<((seals.length:Nat):Int)) (fun fhg13_1=> ?_) fun fhg13_1=> ?_
 ·refine VRunD.free Y (VWant.on Y Y (dy fhg13_1)) Y (OF.move (tv (tS w) Y)) ?_
  refine VRunD.quiet (bi:= [4,0,2,1,3,5]) Y (VWant.on Y Y (dy fhg13_1)) Y Y Y bn (cS (vc (tv (tS w) Y) vn) (Q8 Y) (Za (n+2) w (by assumption)) Y Y) (fD (OF.pickT (VEv.tmpB Y (dy fhg13_1)) (tv (tB (decide (Ql w))) Y)) Y Y (mD (tB (decide (Ql w))) Y Y ?_))
  refine gw (Ql w) (fun fhg17_2=> ?_) fun fhg17_2=> ?_
  ·refine VRunD.free Y (VWant.on Y Y (dy fhg17_2)) Y (OF.move (tv (tI salt) Y)) ?_
   refine VRunD.free Y (VWant.on Y Y (dy fhg17_2)) Y (OF.move (tv (tI slot) Y)) (VRunD.free Y (VWant.on Y Y (dy fhg17_2)) Y (OF.move (tv (tS w) Y)) (VRunD.quiet (bi:= [11,10,8,4,0,2,1,3,6,5,7,9]) Y (VWant.on Y Y (dy fhg17_2)) Y Y Y bn (cS (vc (tv (tI salt) Y) (vc (tv (tI slot) Y) (vc (tv (tS w) Y) vn))) (Q8 Y) (QcP (n+0) salt slot w (by assumption)) Y Y) (VRunD.free Y (VWant.on Y Y (dy fhg17_2)) Y (OF.move (tv (rd 1 Qe seals) Y)) (VRunD.free Y (VWant.on Y Y (dy fhg17_2)) Y (OF.move (tv (tI slot) Y)) ?_))))
   obtain ⟨x1,hx1⟩:∃x,seals[(Int.toNat slot)]? =some x:=⟨_,List.getElem?_eq_getElem (by omega)⟩
   refine VRunD.free Y (VWant.on Y Y (dy fhg17_2)) Y (OF.indexAddrR (row:=(Qe false x1)) (i:=(Int.toNat slot)) (tv (rd 1 Qe seals) Y) (tv (tI slot) Y) (by omega) (Qu _ hx1) ZE Zu Jc) (VRunD.look Y (VWant.on Y Y (dy fhg17_2)) Y (OL.loadR1 (t:=(tI x1)) (tv (T.rp [(tI x1)]) Y) Y QQ) (VRunD.free Y (VWant.on Y Y (dy fhg17_2)) Y (Z7 (tv (tI (JF salt slot w)) Y) (tv (tI x1) Y)) (fD (OF.pickT (VEv.tmpB Y (dy fhg17_2)) (tv (tB (decide (JF salt slot w=x1))) Y)) Y Y (fD (OF.assign (tv (tB (decide (JF salt slot w=x1))) Y)) Y Y (VRunD.nil (tn (rt (vb (b':=(decide (JF salt slot w=x1))) Y ?_))))))))
   (refine Qv (Qjs ?_ ?_ hx1);omega;assumption)
  refine oD Y Y (dz fhg17_2) Y (oD Y Y (dz fhg17_2) Y (oD Y Y (dz fhg17_2) Y (oD Y Y (dz fhg17_2) Y (oD Y Y (dz fhg17_2) Y (oD Y Y (dz fhg17_2) Y (oD Y Y (dz fhg17_2) Y (oD Y Y (dz fhg17_2) Y (oD Y Y (dz fhg17_2) Y (fD (OF.pickF (VEv.tmpB Y (dz fhg17_2)) (VEv.bool false)) Y Y (fD (OF.assign (tv (tB false) Y)) Y Y (VRunD.nil ?_)))))))))))
  refine tn (rt (vb (b':=false) Y ?_))
  (symm;rw [decide_eq_false_iff_not];intro h;have h2:=QeP h;have h3:=h.1;exact absurd h.2.1 (by assumption))
 refine oD Y Y (dz fhg13_1) Y (oD Y Y (dz fhg13_1) Y (fD (OF.pickF (VEv.tmpB Y (dz fhg13_1)) (VEv.bool false)) Y Y (mD (tB false) Y Y (VRunD.off Y (VWant.not (b:=false) Y Y Y) (VRunD.off Y (VWant.not (b:=false) Y Y Y) (VRunD.off Y (VWant.not (b:=false) Y Y Y) (VRunD.off Y (VWant.not (b:=false) Y Y Y) (VRunD.off Y (VWant.not (b:=false) Y Y Y) (VRunD.off Y (VWant.not (b:=false) Y Y Y) (VRunD.off Y (VWant.not (b:=false) Y Y Y) (VRunD.off Y (VWant.not (b:=false) Y Y Y) ?_)))))))))))
 refine VRunD.off Y (VWant.not (b:=false) Y Y Y) (fD (OF.pickF (tv (tB false) Y) (VEv.bool false)) Y Y (fD (OF.assign (tv (tB false) Y)) Y Y (VRunD.nil (tn (rt (vb (b':=false) Y ?_))))))
 (symm;rw [decide_eq_false_iff_not];intro h;have h2:=QeP h;have h3:=h.1;omega)
noncomputable section
def YB (p:D.Puzzle):Prop:=ZX p.Grid=0∧p.Clues.length=(Qd p.Grid).length∧p.Seals.length=(Qd p.Grid).length∧(1≤p.Salt∧p.Salt≤9999)∧∀c∈p.Clues,okC c
instance (p:D.Puzzle):Decidable (YB p):=Classical.propDecidable _
def noC (c:D.Clue):Prop:=¬okC c
instance (c:D.Clue):Decidable (noC c):=Classical.propDecidable _
end
theorem QcL (n:Nat) (c:D.Clue) (hz:QP c≤mx):Pure (Qq Tryz.prog (n+5)) 75 [(T.agg (Qi false c))] (tB (decide (noC c))):=by
 refine Pure.intro (rs:= [ResultVar.tmp 2]) Tryz.func75 Y Y Y (E0:= [(0,(T.agg (Qi false c)))]) Y ?_
 obtain ⟨hlim,hmx,hmax⟩:=QC
 refine sr (kO (B.box (ts:=(Qi false c)) (tv (T.agg (Qi false c)) Y) nofun Y) (fO (OF.assign (VEv.bool false)) (nt (sr (lO (OL.loadOn (us:=(Qi false c)) (tv (T.op 0 0) Y) Y Qft J5 (lb Y) Y) (cO (cS (vc (tv (T.agg (Qi false c)) Y) vn) (LendL.cons (lg okeClue) ln) (Qcd (n+0) c (by assumption)) Y Y) (fO (QW (tv (tB (decide ((1≤c.Sense∧c.Sense≤99)∧QR c.Play))) Y)) (aO (tB (!(decide ((1≤c.Sense∧c.Sense≤99)∧QR c.Play)))) Y (nt (rt (vb (b':=(!(decide ((1≤c.Sense∧c.Sense≤99)∧QR c.Play)))) Y ?_)))))))))))
 rw [dN];exact Qv Iff.rfl
theorem ZB (n:Nat) (l:List D.Clue) (hz:zL QP l≤mx):Pure (Qq Tryz.prog (n+6)) 115 [(rd 2 Qi l),(T.fn 75 [])] (tI (ixF noC l)):=by
 refine Pure.intro (rs:= [ResultVar.tmp 4]) Tryz.func115 Y Y Y (E0:= [(0,(rd 2 Qi l)),(1,(T.fn 75 []))]) Y ?_
 obtain ⟨hlim,hmx,hmax⟩:=QC
 have hl:=QV (z:=QP) l
 refine sr (fO (OF.assign (VEv.int .i64 0)) (nt (sq (sr (mO (rd 2 Qi l) Y (lO (B.lenR (m:=l.length) (tv (rd 2 Qi l) Y) U37 (List.length_map ..)) (fO (OF.move (VEv.int .i64 0)) (nt (VRun.block ?_)))))))))
 refine VRun.loop (A:=Nat) (fun s_=> [(0,(rd 2 Qi l)),(1,(T.fn 75 [])),(7,(tN l.length)),(8,(tN s_))]) (fun s_=>QU []) 0 (fun s_=>NoneTo noC l s_) (fun s_=>l.length - s_) (0:Nat) ?_ (Wk.mk (fun k=>k) ?_ ?_ ?_) ?_
 ·exact NoneTo.start _ _
 ·exact (b2 (b2 (b2 (b2 bn))))
 ·exact bn
 ·exact nd Y
 rintro i (hI':NoneTo noC l i)
 show VRun _ _ _ [(0,(rd 2 Qi l)),(1,(T.fn 75 [])),(7,(tN l.length)),(8,(tN i))] (QU []) 0 _
 have hI1:=hI'.1
 refine sr (fO (Q2 (tv (tN i) Y) (tv (tN l.length) Y)) (nt (sq ?_)))
 refine cd (i<l.length) Y (fun fhc0=> ?_) fun fhc0=> ?_
 ·refine sk ?_
  refine tn (sq (VRun.block (sr (mO (tN i) Y (aO (tN i) Y (nt (sr (mO (T.fn 75 []) Y (mO (rd 2 Qi l) Y (mO (tN i) Y ?_))))))))))
  obtain ⟨x1,hx1⟩:∃x,l[i]? =some x:=⟨_,List.getElem?_eq_getElem (by omega)⟩
  refine fO (OF.indexAddrR (row:=(Qi false x1)) (i:=i) (tv (rd 2 Qi l) Y) (tv (tN i) Y) Y (Qu _ hx1) U37 J5 Qhi) (lO (OL.loadRn (us:=(Qi false x1)) (tv (T.rp (Qi false x1)) Y) Qft J5 (lb Y) Y) (cO (OC.callv (us:= [(T.agg (Qi false x1))]) (ucaps:= []) (r:=(tB (decide (noC x1)))) (r':=(tB (decide (noC x1)))) (objs:= []) Y Y (vc (tv (T.agg (Qi false x1)) Y) vn) (LendL.cons (lg okeClue) ln) ln (QcL (n+0) x1 (by exact Nat.le_trans (JH hx1) hz)) Y) (nt ?_)))
  refine cd (noC x1) Y (fun fhc1=> ?_) fun fhc1=> ?_
  ·refine sr ?_
   refine mO (tN i) Y (aO (tN i) Y (nt (rt (vinB.r (tr (tr (vinB.r (tr (vi (n':=((i:Nat):Int)) Y ?_)))))))))
   exact (QaW hx1 fhc1 hI'.2).symm
  refine sk (vinB.n (tn (VRun.region (fO (Qx (tv (tN i) Y) (VEv.int .i64 1) (by omega)) (mO (tN (i+1)) Y (VRunO.nil (tn ?_)))))))
  refine ⟨(i+1:Nat),?_,?_,Wk.mk (fun k=>k) ?_ ?_ ?_⟩
  ·exact hI'.next hx1 fhc1
  ·omega
  ·exact (b2 (b2 (b2 (b2 bn))))
  ·exact bn
  ·exact nd Y
 refine VRun.exit (vthn.e (vthn.e (vinB.e (tn (sr (fO (OF.assign (VEv.int .i64 (-1))) (nt (rt (vi (n':=(-1)) Y ?_)))))))))
 exact (QbM (hI'.all fhc0)).symm
theorem Zw (n:Nat) (l:List D.Clue) (hz:zL QP l≤mx):Pure (Qq Tryz.prog (n+7)) 74 [(rd 2 Qi l),(T.fn 75 [])] (tB (decide (∃c∈l,noC c))):=by
 refine Pure.intro (rs:= [ResultVar.tmp 4]) Tryz.func74 Y Y Y (E0:= [(0,(rd 2 Qi l)),(1,(T.fn 75 []))]) Y ?_
 obtain ⟨hlim,hmx,hmax⟩:=QC
 refine sr (fO (OF.assign (VEv.bool false)) (nt (sr (mO (rd 2 Qi l) Y (mO (T.fn 75 []) Y (cO (cS (us:= [(rd 2 Qi l),(T.fn 75 [])]) (vc (tv (rd 2 Qi l) Y) (vc (tv (T.fn 75 []) Y) vn)) (lp Y (LendL.cons (Lend.fn ln) ln)) (ZB (n+0) l (by assumption)) Y Y) (fO (xge (tv (tI (ixF noC l)) Y) (VEv.int .i64 0)) (aO (tB (decide (0≤ixF noC l))) Y (nt (rt (vb (b':=(decide (0≤ixF noC l))) Y ?_)))))))))))
 refine Qv ?_;exact Qfn
theorem Qbb (n:Nat) (a:D.Puzzle) (hz:QN a≤mx):Pure (Qq Tryz.prog (n+10)) 32 [(T.agg (Qt false a))] (tB (decide (YB a))):=by
 refine Pure.intro (rs:= [ResultVar.tmp 2]) Tryz.func32 Y Y Y (E0:= [(0,(T.agg (Qt false a)))]) Y ?_
 obtain ⟨hlim,hmx,hmax⟩:=QC
 simp only [QN,ZC] at hz
 have hl:=QV (z:=QP) a.Clues
 have hl2:=QV (z:=zI) a.Seals
 refine sr (kO (B.box (ts:=(Qt false a)) (tv (T.agg (Qt false a)) Y) nofun Y) (fO (OF.assign (VEv.bool false)) (nt (sq (sr (fO (OF.assign (VEv.int .i64 0)) (nt (VRun.block ?_))))))))
 refine VRun.loop (A:=Nat) (fun s_=> [(1,(T.op 0 0)),(3,(tN s_))]) (fun s_=>QU [(0,(Obj.cells (Qt false a)))]) 1 (fun s_=>NoneTo noC a.Clues s_) (fun s_=>a.Clues.length - s_) (0:Nat) ?_ (Wk.mk (fun k=>k) ?_ ?_ ?_) ?_
 ·exact NoneTo.start _ _
 ·exact (b2 (b2 bn))
 ·exact (b3 bn)
 ·exact nd Y
 rintro i (hI':NoneTo noC a.Clues i)
 show VRun _ _ _ [(1,(T.op 0 0)),(3,(tN i))] (QU [(0,(Obj.cells (Qt false a)))]) 1 _
 have hI1:=hI'.1
 refine sq (sr (mO (tN i) Y (lf (rd 2 Qi a.Clues) Y Y5 Y Y QdI (lO (B.lenR (m:=a.Clues.length) (tv (rd 2 Qi a.Clues) Y) U37 (List.length_map ..)) (fO (Q2 (tv (tN i) Y) (tv (tN a.Clues.length) Y)) (nt ?_))))))
 refine cd (i<a.Clues.length) Y (fun fhc0=> ?_) fun fhc0=> ?_
 ·refine sk ?_
  refine tn (sq (VRun.block (sr (lf (rd 2 Qi a.Clues) Y Y5 Y Y QdI (mO (tN i) Y ?_)))))
  obtain ⟨x1,hx1⟩:∃x,a.Clues[i]? =some x:=⟨_,List.getElem?_eq_getElem (by omega)⟩
  refine fO (OF.indexAddrR (row:=(Qi false x1)) (i:=i) (tv (rd 2 Qi a.Clues) Y) (tv (tN i) Y) Y (Qu _ hx1) U37 J5 Qhi) (lO (OL.loadRn (us:=(Qi false x1)) (tv (T.rp (Qi false x1)) Y) Qft J5 (lb Y) Y) (cO (cS (vc (tv (T.agg (Qi false x1)) Y) vn) (LendL.cons (lg okeClue) ln) (Qcf (n+4) x1 (by exact Nat.le_trans (JH hx1) (by omega))) Y Y) (fO (QW (tv (tB (decide ((1≤x1.Sense∧x1.Sense≤99)∧QR x1.Play))) Y)) (nt ?_))))
  refine cn ((1≤x1.Sense∧x1.Sense≤99)∧QR x1.Play) Y (fun fhc1=> ?_) fun fhc1=> ?_
  ·refine sr ?_
   refine fO (OF.assign (VEv.bool false)) (nt (rt (vinB.r (tr (tr (vinB.r (tr (vb (b':=false) Y ?_))))))))
   symm;rw [decide_eq_false_iff_not];rintro ⟨_,_,_,_,h⟩;exact fhc1 (h x1 (List.mem_of_getElem? hx1))
  refine sk (vinB.n (tn (VRun.region (mO (tN i) Y (fO (Qx (tv (tN i) Y) (VEv.int .i64 1) (by omega)) (aO (tN (i+1)) Y (VRunO.nil (tn ?_))))))))
  refine ⟨(i+1:Nat),?_,?_,Wk.mk (fun k=>k) ?_ ?_ ?_⟩
  ·exact hI'.next hx1 (fun h=>h fhc1)
  ·omega
  ·exact (b2 (b2 bn))
  ·exact (b3 bn)
  ·exact nd Y
 refine VRun.exit (vthn.e (vthn.e (vinB.e (tn (sr (fO (OF.fieldAddrO (tv (T.op 0 0) Y) Qcq) (lO (OL.loadOn (us:=(Qc false a.Grid)) (tv (T.op 0 0) Y) Y Zj Q6 (lb Y) Y) (cO (OC.callF (r':=(T.os 4 1 0 (((Qd a.Grid).map (Qj true)).length))) (objs:= [(Obj.rows 4 ((Qd a.Grid).map (Qj true)))]) Y (vc (tv (T.agg (Qc false a.Grid)) Y) vn) (LendL.cons (lg QE) ln) (Z5 (n+6) a.Grid (by omega)) Y) (lO (B.lenO (m:=(Qd a.Grid).length) (tv (T.os 4 1 0 (((Qd a.Grid).map (Qj true)).length)) Y) Yl (List.length_map ..)) (aO (tN ((Qd a.Grid).length)) Y (nt ?_)))))))))))
 refine sr (fO (OF.fieldAddrO (tv (T.op 0 0) Y) Qcq) (lO (OL.loadOn (us:=(Qc false a.Grid)) (tv (T.op 0 0) Y) Y Zj Q6 (lb Y) Y) (cO (cS (vc (tv (T.agg (Qc false a.Grid)) Y) vn) (LendL.cons (lg QE) ln) (Qgj (n+0) a.Grid (by omega)) Y Y) (fO (Z7 (tv (tI (ZX a.Grid)) Y) (VEv.int .i64 0)) (mO (tB (decide (ZX a.Grid=0))) Y ?_)))))
 refine VRunO.joinB 6 [28,29,30,31,32] 33 (tB (decide ((ZX a.Grid=0)∧(a.Clues.length=(Qd a.Grid).length)))) ?_ ?_
 ·refine gw (ZX a.Grid=0) (fun fhg27_1=> ?_) fun fhg27_1=> ?_
  ·refine Yt (rd 2 Qi a.Clues) (dy fhg27_1) Y Y Y Y Y5 Y Y QdI ?_
   refine gL (dy fhg27_1) Y Y (B.lenR (m:=a.Clues.length) (tv (rd 2 Qi a.Clues) Y) U37 (List.length_map ..)) (gF (dy fhg27_1) Y Y (OF.move (tv (tN ((Qd a.Grid).length)) Y)) (gF (dy fhg27_1) Y Y (Qml (tv (tN a.Clues.length) Y) (tv (tN ((Qd a.Grid).length)) Y)) (fO (OF.pickT (VEv.tmpB Y (dy fhg27_1)) (tv (tB (decide (a.Clues.length=(Qd a.Grid).length))) Y)) (VRunO.nil ?_))))
   exact jq (congrArg T.bool (kAT fhg27_1 Y)) (js Y (js Y (js Y (js Y (js Y (jn))))))
  ·refine Qz 5 4 true 27 (dz fhg27_1) Y Y Y ?_
   refine fO (OF.pickF (VEv.tmpB Y (dz fhg27_1)) (VEv.bool false)) (VRunO.nil ?_)
   exact jq (congrArg T.bool (kAF fhg27_1)) (js Y (js Y (js Y (js Y (js Y (jn))))))
 refine mO (tB (decide ((ZX a.Grid=0)∧(a.Clues.length=(Qd a.Grid).length)))) Y ?_
 refine VRunO.joinB 6 [35,36,37,38,39] 40 (tB (decide (((ZX a.Grid=0)∧(a.Clues.length=(Qd a.Grid).length))∧(a.Seals.length=(Qd a.Grid).length)))) ?_ ?_
 ·refine gw ((ZX a.Grid=0)∧(a.Clues.length=(Qd a.Grid).length)) (fun fhg34_2=> ?_) fun fhg34_2=> ?_
  ·refine Yt (rd 1 Qe a.Seals) (dy fhg34_2) Y Y Y Y Qa9 Y Y QdG ?_
   refine gL (dy fhg34_2) Y Y (B.lenR (m:=a.Seals.length) (tv (rd 1 Qe a.Seals) Y) ZE (List.length_map ..)) (gF (dy fhg34_2) Y Y (OF.move (tv (tN ((Qd a.Grid).length)) Y)) (gF (dy fhg34_2) Y Y (Qml (tv (tN a.Seals.length) Y) (tv (tN ((Qd a.Grid).length)) Y)) (fO (OF.pickT (VEv.tmpB Y (dy fhg34_2)) (tv (tB (decide (a.Seals.length=(Qd a.Grid).length))) Y)) (VRunO.nil ?_))))
   exact jq (congrArg T.bool (kAT fhg34_2 Y)) (js Y (js Y (js Y (js Y (js Y (jn))))))
  ·refine Qz 5 11 true 34 (dz fhg34_2) Y Y Y ?_
   refine fO (OF.pickF (VEv.tmpB Y (dz fhg34_2)) (VEv.bool false)) (VRunO.nil ?_)
   exact jq (congrArg T.bool (kAF fhg34_2)) (js Y (js Y (js Y (js Y (js Y (jn))))))
 refine mO (tB (decide (((ZX a.Grid=0)∧(a.Clues.length=(Qd a.Grid).length))∧(a.Seals.length=(Qd a.Grid).length)))) Y ?_
 refine VRunO.joinB 4 [42,43,44] 45 (tB (decide ((((ZX a.Grid=0)∧(a.Clues.length=(Qd a.Grid).length))∧(a.Seals.length=(Qd a.Grid).length))∧(1≤a.Salt∧a.Salt≤9999)))) ?_ ?_
 ·refine gw (((ZX a.Grid=0)∧(a.Clues.length=(Qd a.Grid).length))∧(a.Seals.length=(Qd a.Grid).length)) (fun fhg41_3=> ?_) fun fhg41_3=> ?_
  ·refine Yt (tI a.Salt) (dy fhg41_3) Y Y Y Y Qa3 Y Y QQ ?_
   refine VRunO.chain (VWant.on Y Y (dy fhg41_3)) (cS (vc (tv (tI a.Salt) Y) (vc (VEv.int .i64 1) (vc (VEv.int .i64 9999) vn))) (Q8 Y) (Q0 (n+8) a.Salt 1 9999) Y Y) (fO (OF.pickT (VEv.tmpB Y (dy fhg41_3)) (tv (tB (decide (1≤a.Salt∧a.Salt≤9999))) Y)) (VRunO.nil ?_))
   exact jq (congrArg T.bool (kAT fhg41_3 Y)) (js Y (js Y (js Y (jn))))
  ·refine Qz 3 18 true 41 (dz fhg41_3) Y Y Y ?_
   refine fO (OF.pickF (VEv.tmpB Y (dz fhg41_3)) (VEv.bool false)) (VRunO.nil ?_)
   exact jq (congrArg T.bool (kAF fhg41_3)) (js Y (js Y (js Y (jn))))
 refine aO (tB (decide ((((ZX a.Grid=0)∧(a.Clues.length=(Qd a.Grid).length))∧(a.Seals.length=(Qd a.Grid).length))∧(1≤a.Salt∧a.Salt≤9999)))) Y (nt (rt (vb (b':=(decide ((((ZX a.Grid=0)∧(a.Clues.length=(Qd a.Grid).length))∧(a.Seals.length=(Qd a.Grid).length))∧(1≤a.Salt∧a.Salt≤9999)))) Y ?_)))
 refine Qv ⟨fun h=>⟨h.1.1.1,h.1.1.2,h.1.2,h.2,fun c hc=>Classical.byContradiction fun e=>hI'.mem fhc0 c hc e⟩,fun h=>⟨⟨⟨h.1,h.2.1⟩,h.2.2.1⟩,h.2.2.2.1⟩⟩
theorem Qbd (n:Nat) (a:D.Puzzle) (hz:QN a≤mx):Pure (Qq Tryz.prog (n+42)) 42 [(T.agg (Qt false a))] (tB (decide (YB a))):=by
 refine Pure.intro (rs:= [ResultVar.tmp 2]) Tryz.func42 Y Y Y (E0:= [(0,(T.agg (Qt false a)))]) Y ?_
 obtain ⟨hlim,hmx,hmax⟩:=QC
 simp only [QN,ZC] at hz
 have hl:=QV (z:=QP) a.Clues
 have hl2:=QV (z:=zI) a.Seals
 refine sr (kO (B.box (ts:=(Qt false a)) (tv (T.agg (Qt false a)) Y) nofun Y) (fO (OF.assign (VEv.bool false)) (nt (sq (sr (fO (OF.fieldAddrO (tv (T.op 0 0) Y) Qcq) (lO (OL.loadOn (us:=(Qc false a.Grid)) (tv (T.op 0 0) Y) Y Zj Q6 (lb Y) Y) (cO (cS (vc (tv (T.agg (Qc false a.Grid)) Y) vn) (LendL.cons (lg QE) ln) (Qf5 (n+0) a.Grid (by omega)) Y Y) (fO (xne (tv (tI (ZX a.Grid)) Y) (VEv.int .i64 0)) (nt ?_))))))))))
 refine cn (ZX a.Grid=0) Y (fun fhc0=> ?_) fun fhc0=> ?_
 ·refine sr ?_
  refine fO (OF.assign (VEv.bool false)) (nt (rt (tr (vb (b':=false) Y ?_))))
  symm;rw [decide_eq_false_iff_not];intro h;exact fhc0 h.1
 refine sk (tn (sr (fO (OF.fieldAddrO (tv (T.op 0 0) Y) Qcq) (lO (OL.loadOn (us:=(Qc false a.Grid)) (tv (T.op 0 0) Y) Y Zj Q6 (lb Y) Y) (cO (OC.callF (r':=(T.os 4 1 0 (((Qd a.Grid).map (Qj true)).length))) (objs:= [(Obj.rows 4 ((Qd a.Grid).map (Qj true)))]) Y (vc (tv (T.agg (Qc false a.Grid)) Y) vn) (LendL.cons (lg QE) ln) (J2 (n+38) a.Grid (by omega)) Y) (lO (B.lenO (m:=(Qd a.Grid).length) (tv (T.os 4 1 0 (((Qd a.Grid).map (Qj true)).length)) Y) Yl (List.length_map ..)) (aO (tN ((Qd a.Grid).length)) Y (nt (sr (lf (rd 2 Qi a.Clues) Y Y5 Y Y QdI (lO (B.lenR (m:=a.Clues.length) (tv (rd 2 Qi a.Clues) Y) U37 (List.length_map ..)) ?_)))))))))))
 refine mO (tN ((Qd a.Grid).length)) Y (fO (Qml (tv (tN a.Clues.length) Y) (tv (tN ((Qd a.Grid).length)) Y)) (mO (tB (decide (a.Clues.length=(Qd a.Grid).length))) Y ?_))
 refine gw (a.Clues.length=(Qd a.Grid).length) (fun fhg17_1=> ?_) fun fhg17_1=> ?_
 ·refine Yt (rd 1 Qe a.Seals) (dy fhg17_1) Y Y Y Y Qa9 Y Y QdG ?_
  refine gL (dy fhg17_1) Y Y (B.lenR (m:=a.Seals.length) (tv (rd 1 Qe a.Seals) Y) ZE (List.length_map ..)) (gF (dy fhg17_1) Y Y (OF.move (tv (tN ((Qd a.Grid).length)) Y)) (gF (dy fhg17_1) Y Y (Qml (tv (tN a.Seals.length) Y) (tv (tN ((Qd a.Grid).length)) Y)) (fO (OF.pickT (VEv.tmpB Y (dy fhg17_1)) (tv (tB (decide (a.Seals.length=(Qd a.Grid).length))) Y)) (mO (tB (decide (a.Seals.length=(Qd a.Grid).length))) Y ?_))))
  refine gw (a.Seals.length=(Qd a.Grid).length) (fun fhg24_2=> ?_) fun fhg24_2=> ?_
  ·refine Yt (tI a.Salt) (dy fhg24_2) Y Y Y Y Qa3 Y Y QQ ?_
   refine VRunO.chain (VWant.on Y Y (dy fhg24_2)) (cS (vc (tv (tI a.Salt) Y) (vc (VEv.int .i64 1) (vc (VEv.int .i64 9999) vn))) (Q8 Y) (Zx (n+40) a.Salt 1 9999) Y Y) (fO (OF.pickT (VEv.tmpB Y (dy fhg24_2)) (tv (tB (decide (1≤a.Salt∧a.Salt≤9999))) Y)) (mO (tB (decide (1≤a.Salt∧a.Salt≤9999))) Y ?_))
   refine gw (1≤a.Salt∧a.Salt≤9999) (fun fhg29_3=> ?_) fun fhg29_3=> ?_
   ·refine Yt (rd 2 Qi a.Clues) (dy fhg29_3) Y Y Y Y Y5 Y Y QdI ?_
    refine VRunO.chain (VWant.on Y Y (dy fhg29_3)) (cS (us:= [(rd 2 Qi a.Clues),(T.fn 75 [])]) (vc (tv (rd 2 Qi a.Clues) Y) (vc (VEv.func 75) vn)) (lp Y (LendL.cons (Lend.fn ln) ln)) (Zw (n+34) a.Clues (by omega)) Y Y) (gF (dy fhg29_3) Y Y (QW (tv (tB (decide (∃c∈a.Clues,noC c))) Y)) (fO (OF.pickT (VEv.tmpB Y (dy fhg29_3)) (tv (tB (!(decide (∃c∈a.Clues,noC c)))) Y)) (aO (tB (!(decide (∃c∈a.Clues,noC c)))) Y (nt (rt (vb (b':=(!(decide (∃c∈a.Clues,noC c)))) Y ?_))))))
    (rw [dN];refine Qv ⟨fun h=>⟨?_,?_,?_,?_,fun c hc=>Classical.byContradiction fun e=>h ⟨c,hc,e⟩⟩,fun h=> ?_⟩<;>first | assumption | (rintro ⟨c,hc,hb⟩;exact hb (h.2.2.2.2 c hc)))
   refine Qz 4 17 true 29 (dz fhg29_3) Y Y Y (fO (OF.pickF (VEv.tmpB Y (dz fhg29_3)) (VEv.bool false)) (aO (tB false) Y (nt (rt (vb (b':=false) Y ?_)))))
   (symm;rw [decide_eq_false_iff_not];rintro ⟨h1,h2,h3,h4,h5⟩;contradiction)
  refine Qz 3 12 true 24 (dz fhg24_2) Y Y Y (fO (OF.pickF (VEv.tmpB Y (dz fhg24_2)) (VEv.bool false)) (mO (tB false) Y (Qz 4 17 true 29 (b:=false) Y Y Y Y (fO (OF.pickF (tv (tB false) Y) (VEv.bool false)) (aO (tB false) Y (nt (rt (vb (b':=false) Y ?_))))))))
  (symm;rw [decide_eq_false_iff_not];rintro ⟨h1,h2,h3,h4,h5⟩;contradiction)
 refine Qz 5 5 true 17 (dz fhg17_1) Y Y Y (fO (OF.pickF (VEv.tmpB Y (dz fhg17_1)) (VEv.bool false)) (mO (tB false) Y (Qz 3 12 true 24 (b:=false) Y Y Y Y (fO (OF.pickF (tv (tB false) Y) (VEv.bool false)) (mO (tB false) Y (Qz 4 17 true 29 (b:=false) Y Y Y Y (fO (OF.pickF (tv (tB false) Y) (VEv.bool false)) (aO (tB false) Y (nt (rt (vb (b':=false) Y ?_)))))))))))
 (symm;rw [decide_eq_false_iff_not];rintro ⟨h1,h2,h3,h4,h5⟩;contradiction)
noncomputable section
def Q3 : List Int→Int→List Int
 | [],n=> [n]
 | x::r,n=>if x<n then x::Q3 r n else if x=n then x::r else n::x::r
theorem l9put_mem {l:List Int} {n y:Int}:y∈Q3 l n↔y∈l∨y=n:=by
 induction l with
 | nil=>simp [Q3]
 | cons x r ih =>
  simp only [Q3]
  split
  ·simp only [List.mem_cons,ih,or_assoc]
  ·split
   ·rename_i h1 h2
    subst h2
    simp only [List.mem_cons]
    exact ⟨.inl,fun h=>h.elim id .inl⟩
   ·simp only [List.mem_cons]
    exact or_comm
theorem Qkt {l:List Int} {n:Int}:(Q3 l n).length≤l.length+1:=by
 induction l with
 | nil=>simp [Q3]
 | cons x r ih =>
  simp only [Q3]
  split
  ·simp only [List.length_cons];omega
  ·split<;>simp
theorem Qj6 {l:List Int} {n:Int} (h:l.Pairwise (· < ·)):(Q3 l n).Pairwise (· < ·):=by
 induction l with
 | nil=>simp [Q3]
 | cons x r ih =>
  have h1:=List.pairwise_cons.1 h
  simp only [Q3]
  split
  ·rename_i hx
   refine List.pairwise_cons.2 ⟨fun y hy=> ?_,ih h1.2⟩
   rcases l9put_mem.1 hy with h2 | h2
   ·exact h1.1 y h2
   ·exact h2▸hx
  ·split
   ·exact h
   ·refine List.pairwise_cons.2 ⟨fun y hy=> ?_,h⟩
    rcases List.mem_cons.1 hy with h2 | h2
    ·omega
    ·have:=h1.1 y h2
     omega
theorem QmG {n:Int}:∀ {l:List Int} {k:Nat},(∀j y,j<k→l[j]? =some y→y<n)→l[k]? =some n→l=Q3 l n
 | [],_,_,h=>by simp at h
 | x::r,0,_,h=>by
  obtain rfl:x=n:=by simpa using h
  simp [Q3]
 | x::r,k+1,h1,h=>by
  have h2:=h1 0 x (by omega) (by simp)
  simp only [Q3,if_pos h2]
  rw [← QmG (k:=k) (fun j y hj hy=>h1 (j+1) y (by omega) (by simpa using hy)) (by simpa using h)]
theorem Qi3 {n:Int}:∀ {l:List Int} {k:Nat},(∀j y,j<k→l[j]? =some y→y<n)→k≤l.length→(∀y,l[k]? =some y→n<y)→(l.take k++ [n])++l.drop k=Q3 l n
 | [],k,_,h,_=>by
  obtain rfl:k=0:=by simpa using h
  rfl
 | x::r,0,_,_,h=>by
  have h2:=h x (by simp)
  simp only [Q3]
  rw [if_neg (by omega),if_neg (by omega)]
  rfl
 | x::r,k+1,h1,h,h3=>by
  have h2:=h1 0 x (by omega) (by simp)
  simp only [Q3,if_pos h2]
  rw [← Qi3 (k:=k) (fun j y hj hy=>h1 (j+1) y (by omega) (by simpa using hy)) (by simpa using h) (fun y hy=>h3 y (by simpa using hy))]
  rfl
theorem QhZ {α:Type} {l:List α} {i:Nat} {x y:α} (hx:l[i]? =some x) (hy:l[i]? =some y):y=x:=by
 rw [hx] at hy
 exact (Option.some.inj hy).symm
end
theorem Qc8 (n:Nat) (l:List Int) (v:Int) (hl:l.length≤mx):Pure (Qq Tryz.prog (n+1)) 35 [(rd 1 Qe l),(tI v)] (T.sl true 1 ((Q3 l v).map (Qe true))):=by
 refine Pure.intro (rs:= [ResultVar.tmp 4]) Tryz.func35 Y Y Y (E0:= [(0,(rd 1 Qe l)),(1,(tI v))]) Y ?_
 obtain ⟨hlim,hmx,hmax⟩:=QC
 refine sr (fO (OF.assign VEv.nils) (nt (sr (fO (OF.assign (VEv.int .i64 0)) (nt (sq (VRun.block ?_)))))))
 refine VRun.loop (A:=Nat) (fun s_=> [(0,(rd 1 Qe l)),(1,(tI v)),(4,T.nils),(5,(tN s_))]) (fun s_=>QU []) 0 (fun s_=>s_≤l.length∧∀j y,j<s_→l[j]? =some y→y<v) (fun s_=>l.length - s_) (0:Nat) ?_ (Wk.mk (fun k=>k) ?_ ?_ ?_) ?_
 ·exact ⟨Nat.zero_le _,fun j y hj=>by omega⟩
 ·exact (b2 (b2 (b2 (b2 bn))))
 ·exact bn
 ·exact nd Y
 rintro k (hI':k≤l.length∧∀j y,j<k→l[j]? =some y→y<v)
 show VRun _ _ _ [(0,(rd 1 Qe l)),(1,(tI v)),(4,T.nils),(5,(tN k))] (QU []) 0 _
 have hI1:=hI'.1
 refine sq (sr (mO (tN k) Y (mO (rd 1 Qe l) Y (lO (B.lenR (m:=l.length) (tv (rd 1 Qe l) Y) ZE (List.length_map ..)) (fO (Q2 (tv (tN k) Y) (tv (tN l.length) Y)) (mO (tB (decide (k<l.length))) Y ?_))))))
 refine gw (k<l.length) (fun fhg10_1=> ?_) fun fhg10_1=> ?_
 ·refine gF (dy fhg10_1) Y Y (OF.move (tv (rd 1 Qe l) Y)) ?_
  refine gF (dy fhg10_1) Y Y (OF.move (tv (tN k) Y)) ?_
  obtain ⟨x1,hx1⟩:∃x,l[k]? =some x:=⟨_,List.getElem?_eq_getElem (by omega)⟩
  refine gF (dy fhg10_1) Y Y (OF.indexAddrR (row:=(Qe false x1)) (i:=k) (tv (rd 1 Qe l) Y) (tv (tN k) Y) Y (Qu _ hx1) ZE Zu Jc) (gL (dy fhg10_1) Y Y (OL.loadR1 (t:=(tI x1)) (tv (T.rp [(tI x1)]) Y) Y QQ) (gF (dy fhg10_1) Y Y (OF.move (tv (tI v) Y)) (gF (dy fhg10_1) Y Y (xls (tv (tI x1) Y) (tv (tI v) Y)) (fO (OF.pickT (VEv.tmpB Y (dy fhg10_1)) (tv (tB (decide (x1<v))) Y)) (nt ?_)))))
  refine cd (x1<v) Y (fun fhc0=> ?_) fun fhc0=> ?_
  ·refine sk ?_
   refine tn (VRun.block (VRun.region (mO (tN k) Y (fO (Qx (tv (tN k) Y) (VEv.int .i64 1) (by omega)) (aO (tN (k+1)) Y (VRunO.nil (vinB.n (tn ?_))))))))
   refine ⟨(k+1:Nat),?_,?_,Wk.mk (fun k=>k) ?_ ?_ ?_⟩
   ·refine ⟨by omega,fun j y hj hy=> ?_⟩
    rcases Nat.lt_or_ge j k with h1 | h1
    ·exact hI'.2 j y h1 hy
    ·obtain rfl:j=k:=(by omega);obtain rfl:=QhZ hx1 hy;assumption
   ·omega
   ·exact (b2 (b2 (b2 (b2 bn))))
   ·exact bn
   ·exact nd Y
  refine VRun.exit (vthn.e (vthn.e (vinB.e (tn (sq (sr (mO (tN k) Y (mO (rd 1 Qe l) Y (lO (B.lenR (m:=l.length) (tv (rd 1 Qe l) Y) ZE (List.length_map ..)) (fO (Q2 (tv (tN k) Y) (tv (tN l.length) Y)) (mO (tB (decide (k<l.length))) Y ?_)))))))))))
  refine gF (dy fhg10_1) Y Y (OF.move (tv (rd 1 Qe l) Y)) (gF (dy fhg10_1) Y Y (OF.move (tv (tN k) Y)) (gF (dy fhg10_1) Y Y (OF.indexAddrR (row:=(Qe false x1)) (i:=k) (tv (rd 1 Qe l) Y) (tv (tN k) Y) Y (Qu _ hx1) ZE Zu Jc) (gL (dy fhg10_1) Y Y (OL.loadR1 (t:=(tI x1)) (tv (T.rp [(tI x1)]) Y) Y QQ) (gF (dy fhg10_1) Y Y (OF.move (tv (tI v) Y)) (gF (dy fhg10_1) Y Y (Z7 (tv (tI x1) Y) (tv (tI v) Y)) (fO (OF.pickT (VEv.tmpB Y (dy fhg10_1)) (tv (tB (decide (x1=v))) Y)) (nt ?_)))))))
  refine cd (x1=v) Y (fun fhc1=> ?_) fun fhc1=> ?_
  ·refine sr ?_
   refine kO (OM.slice0 ZE zo3 (by kernel_rfl) Y (by rw [Zu];decide) Zu) (mO (rd 1 Qe l) Y (cO (B.append (rows:= []) (rows2:=(l.map (Qe false))) (rows3:=(l.map (Qe true))) (VDst.own (tv (T.os 1 0 0 0) Y) Y Y) (VSrc.read (tv (rd 1 Qe l) Y) ZE (okInt.okMap _ _)) nofun ZE Zu (by decide) zo3 Y (of_decide_eq_true (by kernel_rfl)) (by (simp only [List.length_map,List.length_append,List.length_cons,List.length_nil,List.length_replicate,List.length_set,List.length_drop,List.length_take,Zk] at *;omega)) (List.nil_append _)) (aO (T.os 1 1 0 ((l.map (Qe true)).length)) Y (nt (rt (tr ?_))))))
   refine vfin.eq (r':=(T.sl true 1 (l.map (Qe true)))) ?_ (vfin.r (VRes.tmp (t:=(T.os 1 1 0 ((l.map (Qe true)).length))) Y VRes.nil) (Give.os Y Y (okInt.cleanMap _)))
   refine congrArg (fun l_=>T.sl true 1 (List.map (Qe true) l_)) ?_
   (refine QmG hI'.2 ?_;simp_all;done)
  refine sk (tn (sq (VRun.draw (B:= [[],[],[],[2,1],[1,2,3,0],[],[5],[5,6,0,3,2,1,4],[],[],[9,8],[8,9,10,4,1,2,3,0,6,5,7],[7,5,6,0,3,2,1,4,10,9,8,11]]) (by kernel_rfl) (by kernel_rfl) (VRunD.make Y VWant.always Y (OM.slice0 ZE zo3 (by kernel_rfl) Y (by rw [Zu];decide) Zu) (mD (rd 1 Qe l) Y Y (mD (tN k) Y Y (lD (show OL _ _ _ _ _ (T.sl false 1 ((l.take k).map (Qe false))) by rw [List.map_take];exact (OL.sliceRHi (j:=k) (tv (rd 1 Qe l) Y) (tv (tN k) Y) Y (by (simp only [List.length_map];omega)) ZE Zu Jc)) Y Y (VRunD.quiet (bi:= [1,2,3,0]) Y VWant.always Y Y Y (bc (lb Y) bn) (B.append (rows:= []) (rows2:=((l.take k).map (Qe false))) (rows3:=((l.take k).map (Qe true))) (VDst.own (tv (T.os 1 0 0 0) Y) Y Y) (VSrc.read (tv (rd 1 Qe (l.take k)) Y) ZE (okInt.okMap _ _)) nofun ZE Zu (by decide) zo3 Y (of_decide_eq_true (by kernel_rfl)) (by (simp only [List.length_map,List.length_append,List.length_cons,List.length_nil,List.length_replicate,List.length_set,List.length_drop,List.length_take,Zk] at *;omega)) (List.nil_append _)) (mD (tI v) Y Y (VRunD.make Y VWant.always Y (OM.buildSlice (l:= [(tI v)]) (VEvp.cons (tv (tI v) Y) VEvp.nil) Y (by decide) (bc (nofun) bn) (bc ((bc (Y) bn)) bn) (bc (Y) bn) ZE zo3 (by kernel_rfl) Y (by rw [Zu];decide) Zu (Nat.le_of_ble_eq_true Y)) (VRunD.quiet (bi:= [5,6,0,3,2,1,4]) Y VWant.always Y Y Y (bc (lb Y) (bc (lb Y) bn)) (B.append (rows:=((l.take k).map (Qe true))) (rows2:= [[(tI v)]]) (rows3:=(((l.take k)++ [v]).map (Qe true))) (VDst.own (tv (T.os 1 1 0 (((l.take k).map (Qe true)).length)) Y) Y Y) (VSrc.own (tv (T.os 1 2 0 1) Y) Y Y ZE (bc (bc Y bn) bn)) (by decide) ZE Zu (by decide) zo3 Y (of_decide_eq_true (by kernel_rfl)) (by (simp only [List.length_map,List.length_append,List.length_cons,List.length_nil,List.length_replicate,List.length_set,List.length_drop,List.length_take,Zk] at *;omega)) ((List.map_append (f:=Qe true) (l₁:=(l.take k)) (l₂:= [v])).symm)) ?_)))))))))))
  refine mD (rd 1 Qe l) Y Y (mD (tN k) Y Y (lD (show OL _ _ _ _ _ (T.sl false 1 ((l.drop k).map (Qe false))) by rw [List.map_drop];exact (OL.sliceRLo (i:=k) (tv (rd 1 Qe l) Y) (tv (tN k) Y) Y (by (simp only [List.length_map];omega)) ZE Zu Jc)) Y Y (VRunD.quiet (bi:= [8,9,10,4,1,2,3,0,6,5,7]) Y VWant.always Y Y Y (bc (lb Y) bn) (B.append (rows:=(((l.take k)++ [v]).map (Qe true))) (rows2:=((l.drop k).map (Qe false))) (rows3:=((((l.take k)++ [v])++(l.drop k)).map (Qe true))) (VDst.own (tv (T.os 1 3 0 ((((l.take k)++ [v]).map (Qe true)).length)) Y) Y Y) (VSrc.read (tv (rd 1 Qe (l.drop k)) Y) ZE (okInt.okMap _ _)) nofun ZE Zu (by decide) zo3 Y (of_decide_eq_true (by kernel_rfl)) (by (simp only [List.length_map,List.length_append,List.length_cons,List.length_nil,List.length_replicate,List.length_set,List.length_drop,List.length_take,Zk] at *;omega)) ((List.map_append (f:=Qe true) (l₁:=((l.take k)++ [v])) (l₂:=(l.drop k))).symm)) (fD (OF.assign (tv (T.os 1 4 0 (((((l.take k)++ [v])++(l.drop k)).map (Qe true)).length)) Y)) Y Y (VRunD.nil (tn (rt ?_)))))))
  refine vfin.eq (r':=(T.sl true 1 ((((l.take k)++ [v])++(l.drop k)).map (Qe true)))) ?_ (vfin.r (VRes.tmp (t:=(T.os 1 4 0 (((((l.take k)++ [v])++(l.drop k)).map (Qe true)).length))) Y VRes.nil) (Give.os Y Y (okInt.cleanMap _)))
  refine congrArg (fun l_=>T.sl true 1 (List.map (Qe true) l_)) ?_
  (refine Qi3 hI'.2 hI1 ?_;intro y hy;obtain rfl:=QhZ hx1 hy;omega)
 refine Qz 6 4 true 10 (dz fhg10_1) Y Y Y (fO (OF.pickF (VEv.tmpB Y (dz fhg10_1)) (VEv.bool false)) (nt (cf Y (VRun.exit (vthn.e (vthn.e (vinB.e (tn (sq (sr (mO (tN k) Y ?_)))))))))))
 refine mO (rd 1 Qe l) Y (lO (B.lenR (m:=l.length) (tv (rd 1 Qe l) Y) ZE (List.length_map ..)) (fO (Q2 (tv (tN k) Y) (tv (tN l.length) Y)) (mO (tB (decide (k<l.length))) Y (Qz 6 4 true 24 (dz fhg10_1) Y Y Y (fO (OF.pickF (VEv.tmpB Y (dz fhg10_1)) (VEv.bool false)) (nt (cf Y (sk (tn (sq (VRun.draw (B:= [[],[],[],[2,1],[1,2,3,0],[],[5],[5,6,0,3,2,1,4],[],[],[9,8],[8,9,10,4,1,2,3,0,6,5,7],[7,5,6,0,3,2,1,4,10,9,8,11]]) (by kernel_rfl) (by kernel_rfl) ?_)))))))))))
 refine VRunD.make Y VWant.always Y (OM.slice0 ZE zo3 (by kernel_rfl) Y (by rw [Zu];decide) Zu) (mD (rd 1 Qe l) Y Y (mD (tN k) Y Y (lD (show OL _ _ _ _ _ (T.sl false 1 ((l.take k).map (Qe false))) by rw [List.map_take];exact (OL.sliceRHi (j:=k) (tv (rd 1 Qe l) Y) (tv (tN k) Y) Y (by (simp only [List.length_map];omega)) ZE Zu Jc)) Y Y (VRunD.quiet (bi:= [1,2,3,0]) Y VWant.always Y Y Y (bc (lb Y) bn) (B.append (rows:= []) (rows2:=((l.take k).map (Qe false))) (rows3:=((l.take k).map (Qe true))) (VDst.own (tv (T.os 1 0 0 0) Y) Y Y) (VSrc.read (tv (rd 1 Qe (l.take k)) Y) ZE (okInt.okMap _ _)) nofun ZE Zu (by decide) zo3 Y (of_decide_eq_true (by kernel_rfl)) (by (simp only [List.length_map,List.length_append,List.length_cons,List.length_nil,List.length_replicate,List.length_set,List.length_drop,List.length_take,Zk] at *;omega)) (List.nil_append _)) (mD (tI v) Y Y (VRunD.make Y VWant.always Y (OM.buildSlice (l:= [(tI v)]) (VEvp.cons (tv (tI v) Y) VEvp.nil) Y (by decide) (bc (nofun) bn) (bc ((bc (Y) bn)) bn) (bc (Y) bn) ZE zo3 (by kernel_rfl) Y (by rw [Zu];decide) Zu (Nat.le_of_ble_eq_true Y)) (VRunD.quiet (bi:= [5,6,0,3,2,1,4]) Y VWant.always Y Y Y (bc (lb Y) (bc (lb Y) bn)) (B.append (rows:=((l.take k).map (Qe true))) (rows2:= [[(tI v)]]) (rows3:=(((l.take k)++ [v]).map (Qe true))) (VDst.own (tv (T.os 1 1 0 (((l.take k).map (Qe true)).length)) Y) Y Y) (VSrc.own (tv (T.os 1 2 0 1) Y) Y Y ZE (bc (bc Y bn) bn)) (by decide) ZE Zu (by decide) zo3 Y (of_decide_eq_true (by kernel_rfl)) (by (simp only [List.length_map,List.length_append,List.length_cons,List.length_nil,List.length_replicate,List.length_set,List.length_drop,List.length_take,Zk] at *;omega)) ((List.map_append (f:=Qe true) (l₁:=(l.take k)) (l₂:= [v])).symm)) (mD (rd 1 Qe l) Y Y (mD (tN k) Y Y (lD (show OL _ _ _ _ _ (T.sl false 1 ((l.drop k).map (Qe false))) by rw [List.map_drop];exact (OL.sliceRLo (i:=k) (tv (rd 1 Qe l) Y) (tv (tN k) Y) Y (by (simp only [List.length_map];omega)) ZE Zu Jc)) Y Y (VRunD.quiet (bi:= [8,9,10,4,1,2,3,0,6,5,7]) Y VWant.always Y Y Y (bc (lb Y) bn) (B.append (rows:=(((l.take k)++ [v]).map (Qe true))) (rows2:=((l.drop k).map (Qe false))) (rows3:=((((l.take k)++ [v])++(l.drop k)).map (Qe true))) (VDst.own (tv (T.os 1 3 0 ((((l.take k)++ [v]).map (Qe true)).length)) Y) Y Y) (VSrc.read (tv (rd 1 Qe (l.drop k)) Y) ZE (okInt.okMap _ _)) nofun ZE Zu (by decide) zo3 Y (of_decide_eq_true (by kernel_rfl)) (by (simp only [List.length_map,List.length_append,List.length_cons,List.length_nil,List.length_replicate,List.length_set,List.length_drop,List.length_take,Zk] at *;omega)) ((List.map_append (f:=Qe true) (l₁:=((l.take k)++ [v])) (l₂:=(l.drop k))).symm)) ?_)))))))))))
 refine fD (OF.assign (tv (T.os 1 4 0 (((((l.take k)++ [v])++(l.drop k)).map (Qe true)).length)) Y)) Y Y (VRunD.nil (tn (rt ?_)))
 refine vfin.eq (r':=(T.sl true 1 ((((l.take k)++ [v])++(l.drop k)).map (Qe true)))) ?_ (vfin.r (VRes.tmp (t:=(T.os 1 4 0 (((((l.take k)++ [v])++(l.drop k)).map (Qe true)).length))) Y VRes.nil) (Give.os Y Y (okInt.cleanMap _)))
 refine congrArg (fun l_=>T.sl true 1 (List.map (Qe true) l_)) ?_
 (refine Qi3 hI'.2 hI1 ?_;intro y hy;have:=(List.getElem?_eq_some_iff.1 hy).1;omega)
noncomputable section
def tks (l:List D.Report) (s k:Int):List Int:=(l.filter (fun x=>decide (x.Slot=s∧x.Kind=k))).map (fun x=>x.Tester)
theorem QhM {a:List D.Report} {i:Nat} {x:D.Report} (s k:Int) (h:a[i]? =some x):tks (a.take (i+1)) s k=tks (a.take i) s k++(if x.Slot=s∧x.Kind=k then [x.Tester] else []):=by
 unfold tks
 rw [List.take_add_one,h,List.filter_append,List.map_append]
 by_cases hp:x.Slot=s∧x.Kind=k
 ·simp [hp]
 ·rw [if_neg hp]
  simp [hp]
def cnt (a:List D.Report) (s k:Int):List Int:=(tks a s k).foldl Y2 []
def srt (a:List D.Report) (s k:Int):List Int:=(tks a s k).foldl Q3 []
theorem Qfe : ∀(t:List Int) {b c:List Int},b.Pairwise (· < ·)→c.Nodup→(∀x,x∈b↔x∈c)→(t.foldl Q3 b).length=(t.foldl Y2 c).length
 | [],b,c,h1,h2,h3=>QlT (h1.imp (fun h=>by omega)) h2 h3
 | x::t,b,c,h1,h2,h3=>Qfe t (Qj6 h1) (Qg8 h2) (fun y=>by rw [l9put_mem,Qje,h3])
theorem Qmy (a:List D.Report) (s k:Int):(srt a s k).length=(cnt a s k).length:=Qfe _ List.Pairwise.nil List.nodup_nil (fun _=>Iff.rfl)
theorem QeZ {a:List D.Report} {i:Nat} {x:D.Report} {s k:Int} {m:List (Int×Int)} (h:a[i]? =some x) (hm:m.map (·.1)=cnt (a.take i) s k):(if x.Slot=s∧x.Kind=k then Yf m x.Tester 1 else m).map (·.1)=cnt (a.take (i+1)) s k:=by
 unfold cnt at *
 rw [QhM s k h,List.foldl_append,← hm]
 split
 ·rw [QgJ];rfl
 ·rfl
theorem QfD {a:List D.Report} {i:Nat} {x:D.Report} {s k:Int} {m:List Int} (h:a[i]? =some x) (hm:m=srt (a.take i) s k):(if x.Slot=s∧x.Kind=k then Q3 m x.Tester else m)=srt (a.take (i+1)) s k:=by
 unfold srt at *
 rw [QhM s k h,List.foldl_append,← hm]
 split<;>rfl
theorem QbP {c:Prop} [Decidable c] {m:List Int} {n:Int} {i:Nat} (h:m.length≤i):(if c then Q3 m n else m).length≤i+1:=by
 split
 ·have:=Qkt (l:=m) (n:=n)
  omega
 ·omega
end
theorem QdS (n:Nat) (a:List D.Report) (s:Int) (k:Int) (hz:zL QA a≤mx):Pure (Qq Tryz.prog (n+2)) 36 [(rd 4 Qa a),(tI s),(tI k)] (tN ((cnt a s k).length)):=by
 refine Pure.intro (rs:= [ResultVar.tmp 6]) Tryz.func36 Y Y Y (E0:= [(0,(rd 4 Qa a)),(1,(tI s)),(2,(tI k))]) Y ?_
 obtain ⟨hlim,hmx,hmax⟩:=QC
 have ha:=QV (z:=QA) a
 refine sr (fO (OF.assign (VEv.int .i64 0)) (nt (sr (kO (OM.slice0 ZE zo3 (by kernel_rfl) Y (by rw [Zu];decide) Zu) (aO (T.os 1 0 0 0) Y (nt (sq (sr (fO (OF.assign (VEv.int .i64 0)) (nt (VRun.block ?_)))))))))))
 have he1: []=([].map (Qe true)):=by first | rfl | (refine (if_pos ?_).symm;constructor<;>assumption) | (refine (if_neg ?_).symm;rintro ⟨_,_⟩;contradiction) | (simp;done) | omega
 refine VRun.loop (A:=Nat×(List Int)) (fun s_=> [(0,(rd 4 Qa a)),(1,(tI s)),(2,(tI k)),(6,(tN 0)),(7,(T.os 1 0 0 ((s_.2.map (Qe true)).length))),(8,(tN s_.1))]) (fun s_=>QU [(0,(Obj.rows 1 (s_.2.map (Qe true))))]) 1 (fun s_=>s_.1≤a.length∧s_.2.length≤s_.1∧s_.2=srt (a.take s_.1) s k) (fun s_=>a.length - s_.1) ((0,[]):Nat×(List Int)) ?_ (Wk.mk (fun k=>k) ?_ ?_ ?_) ?_
 ·exact ⟨Nat.zero_le _,Nat.le_refl _,rfl⟩
 ·exact (b2 (b2 (b2 (b2 (bc ⟨(congrArg (fun n_=>T.os 1 0 0 n_) (show 0=([].map (Qe true)).length from (by first | rfl | (simp only [List.length_map];omega) | (simp only [List.length_map,List.length_set,List.length_append,List.length_take,List.length_replicate,List.length_cons,List.length_nil];omega)))),rfl⟩ (b2 bn))))))
 ·exact (bc ⟨(congrArg (fun l_=>some (Obj.rows 1 l_)) he1),(lb Y),rfl⟩ bn)
 ·exact nd Y
 rintro ⟨i,out⟩ (hI':i≤a.length∧out.length≤i∧out=srt (a.take i) s k)
 show VRun _ _ _ [(0,(rd 4 Qa a)),(1,(tI s)),(2,(tI k)),(6,(tN 0)),(7,(T.os 1 0 0 ((out.map (Qe true)).length))),(8,(tN i))] (QU [(0,(Obj.rows 1 (out.map (Qe true))))]) 1 _
 have hI1:=hI'.1
 have hI2:=hI'.2.1
 refine sq (sr (mO (tN i) Y (mO (rd 4 Qa a) Y (lO (B.lenR (m:=a.length) (tv (rd 4 Qa a) Y) U34 (List.length_map ..)) (fO (Q2 (tv (tN i) Y) (tv (tN a.length) Y)) (nt ?_))))))
 refine cd (i<a.length) Y (fun fhc0=> ?_) fun fhc0=> ?_
 ·refine sk ?_
  refine tn (sq (VRun.block (sr (mO (rd 4 Qa a) Y (mO (tN i) Y ?_)))))
  obtain ⟨x1,hx1⟩:∃x,a[i]? =some x:=⟨_,List.getElem?_eq_getElem (by omega)⟩
  refine fO (OF.indexAddrR (row:=(Qa false x1)) (i:=i) (tv (rd 4 Qa a) Y) (tv (tN i) Y) Y (Qu _ hx1) U34 YE QaT) (lr (tI x1.Slot) Y (lb Y) Jg Y QQ (mO (tI s) Y (fO (Z7 (tv (tI x1.Slot) Y) (tv (tI s) Y)) (mO (tB (decide (x1.Slot=s))) Y ?_))))
  refine gw (x1.Slot=s) (fun fhg23_2=> ?_) fun fhg23_2=> ?_
  ·refine gF (dy fhg23_2) Y Y (OF.move (tv (rd 4 Qa a) Y)) ?_
   refine gF (dy fhg23_2) Y Y (OF.move (tv (tN i) Y)) (gF (dy fhg23_2) Y Y (OF.indexAddrR (row:=(Qa false x1)) (i:=i) (tv (rd 4 Qa a) Y) (tv (tN i) Y) Y (Qu _ hx1) U34 YE QaT) (glr (tI x1.Kind) (dy fhg23_2) Y Y Y Y (lb Y) Qa1 Y QQ (gF (dy fhg23_2) Y Y (OF.move (tv (tI k) Y)) (gF (dy fhg23_2) Y Y (Z7 (tv (tI x1.Kind) Y) (tv (tI k) Y)) (fO (OF.pickT (VEv.tmpB Y (dy fhg23_2)) (tv (tB (decide (x1.Kind=k))) Y)) (nt ?_))))))
   refine cd (x1.Kind=k) Y (fun fhc1=> ?_) fun fhc1=> ?_
   ·refine VRun.region ?_
    refine mO (T.os 1 0 0 ((out.map (Qe true)).length)) Y (mO (rd 4 Qa a) Y (mO (tN i) Y (fO (OF.indexAddrR (row:=(Qa false x1)) (i:=i) (tv (rd 4 Qa a) Y) (tv (tN i) Y) Y (Qu _ hx1) U34 YE QaT) (lr (tI x1.Tester) Y (lb Y) QcB Y QQ (cO (OC.callF (us:= [(rd 1 Qe out),(tI x1.Tester)]) (r':=(T.os 1 1 0 (((Q3 out x1.Tester).map (Qe true)).length))) (objs:= [(Obj.rows 1 ((Q3 out x1.Tester).map (Qe true)))]) Y (vc (tv (T.os 1 0 0 ((out.map (Qe true)).length)) Y) (vc (tv (tI x1.Tester) Y) vn)) (LendL.cons (Lend.os Y Y (okInt.fzMap _ _)) (lp Y ln)) (Qc8 (n+0) out x1.Tester (by first | assumption | omega)) Y) (aO (T.os 1 1 0 (((Q3 out x1.Tester).map (Qe true)).length)) Y (VRunO.nil (vinB.n (tn (VRun.region (mO (tN i) Y ?_)))))))))))
    refine fO (Qx (tv (tN i) Y) (VEv.int .i64 1) (by omega)) (aO (tN (i+1)) Y (VRunO.nil (tn ?_)))
    have he3:Q3 out x1.Tester=(if x1.Slot=s∧x1.Kind=k then Q3 out x1.Tester else out):=by first | rfl | (refine (if_pos ?_).symm;constructor<;>assumption) | (refine (if_neg ?_).symm;rintro ⟨_,_⟩;contradiction) | (simp;done) | omega
    refine ⟨((i+1,if x1.Slot=s∧x1.Kind=k then Q3 out x1.Tester else out):Nat×(List Int)),?_,?_,Wk.mk (fun k=>if k=0 then 1 else k) ?_ ?_ ?_⟩
    ·exact ⟨by omega,QbP hI2,QfD hx1 hI'.2.2⟩
    ·first | omega | (simp only [];omega) | (show _<_;omega) | (simp;omega)
    ·exact (b2 (b2 (b2 (b2 (bc ⟨(congrArg (fun l_=>T.os 1 1 0 (List.map (Qe true) l_).length) he3),rfl⟩ (b2 bn))))))
    ·exact (bc ⟨(congrArg (fun l_=>some (Obj.rows 1 (List.map (Qe true) l_))) he3),(lb Y),rfl⟩ bn)
    ·exact nd Y
   refine sk (vinB.n (tn (VRun.region (mO (tN i) Y (fO (Qx (tv (tN i) Y) (VEv.int .i64 1) (by omega)) (aO (tN (i+1)) Y (VRunO.nil (tn ?_))))))))
   have he4:out=(if x1.Slot=s∧x1.Kind=k then Q3 out x1.Tester else out):=by first | rfl | (refine (if_pos ?_).symm;constructor<;>assumption) | (refine (if_neg ?_).symm;rintro ⟨_,_⟩;contradiction) | (simp;done) | omega
   refine ⟨((i+1,if x1.Slot=s∧x1.Kind=k then Q3 out x1.Tester else out):Nat×(List Int)),?_,?_,Wk.mk (fun k=>k) ?_ ?_ ?_⟩
   ·exact ⟨by omega,QbP hI2,QfD hx1 hI'.2.2⟩
   ·first | omega | (simp only [];omega) | (show _<_;omega) | (simp;omega)
   ·exact (b2 (b2 (b2 (b2 (bc ⟨(congrArg (fun l_=>T.os 1 0 0 (List.map (Qe true) l_).length) he4),rfl⟩ (b2 bn))))))
   ·exact (bc ⟨(congrArg (fun l_=>some (Obj.rows 1 (List.map (Qe true) l_))) he4),(lb Y),rfl⟩ bn)
   ·exact nd Y
  refine Qz 7 7 true 23 (dz fhg23_2) Y Y Y (fO (OF.pickF (VEv.tmpB Y (dz fhg23_2)) (VEv.bool false)) (nt (cf Y (sk (vinB.n (tn (VRun.region (mO (tN i) Y (fO (Qx (tv (tN i) Y) (VEv.int .i64 1) (by omega)) (aO (tN (i+1)) Y (VRunO.nil ?_)))))))))))
  refine tn ?_
  have he5:out=(if x1.Slot=s∧x1.Kind=k then Q3 out x1.Tester else out):=by first | rfl | (refine (if_pos ?_).symm;constructor<;>assumption) | (refine (if_neg ?_).symm;rintro ⟨_,_⟩;contradiction) | (simp;done) | omega
  refine ⟨((i+1,if x1.Slot=s∧x1.Kind=k then Q3 out x1.Tester else out):Nat×(List Int)),?_,?_,Wk.mk (fun k=>k) ?_ ?_ ?_⟩
  ·exact ⟨by omega,QbP hI2,QfD hx1 hI'.2.2⟩
  ·first | omega | (simp only [];omega) | (show _<_;omega) | (simp;omega)
  ·exact (b2 (b2 (b2 (b2 (bc ⟨(congrArg (fun l_=>T.os 1 0 0 (List.map (Qe true) l_).length) he5),rfl⟩ (b2 bn))))))
  ·exact (bc ⟨(congrArg (fun l_=>some (Obj.rows 1 (List.map (Qe true) l_))) he5),(lb Y),rfl⟩ bn)
  ·exact nd Y
 refine VRun.exit (vthn.e (vthn.e (vinB.e (tn (sr (mO (T.os 1 0 0 ((out.map (Qe true)).length)) Y (lO (B.lenO (m:=out.length) (tv (T.os 1 0 0 ((out.map (Qe true)).length)) Y) ZE (List.length_map ..)) (aO (tN out.length) Y (nt (rt (vi (n':=((out.length:Nat):Int)) Y ?_)))))))))))
 have e:=hI'.2.2
 rw [List.take_of_length_le (by omega)] at e
 rw [e,Qmy]
theorem QcH (n:Nat) (x:D.Report):Pure (Qq Tryz.prog (n+1)) 81 [(T.agg (Qa false x))] (tB true):=by
 refine Pure.intro (rs:= [ResultVar.tmp 2]) Tryz.func81 Y Y Y (E0:= [(0,(T.agg (Qa false x)))]) Y ?_
 obtain ⟨hlim,hmx,hmax⟩:=QC
 refine sr (kO (B.box (ts:=(Qa false x)) (tv (T.agg (Qa false x)) Y) nofun Y) (fO (OF.assign (VEv.bool false)) (nt (sr (fO (OF.assign (VEv.bool true)) (nt (rt ?_)))))))
 exact vb Y Y
theorem Y8 (n:Nat) (a:List D.Report) (s:Int) (k:Int) (hz:zL QA a≤mx):Pure (Qq Tryz.prog (n+2)) 44 [(rd 4 Qa a),(tI s),(tI k),(T.fn 81 [])] (tN ((cnt a s k).length)):=by
 refine Pure.intro (rs:= [ResultVar.tmp 8]) Tryz.func44 Y Y Y (E0:= [(0,(rd 4 Qa a)),(1,(tI s)),(2,(tI k)),(3,(T.fn 81 []))]) Y ?_
 obtain ⟨hlim,hmx,hmax⟩:=QC
 have ha:=QV (z:=QA) a
 refine sr (fO (OF.assign (VEv.int .i64 0)) (nt (sr (kO B.makeMap (aO (T.om 0) Y (nt (sq (sr (mO (rd 4 Qa a) Y (lO (B.lenR (m:=a.length) (tv (rd 4 Qa a) Y) U34 (List.length_map ..)) (fO (OF.move (VEv.int .i64 0)) ?_)))))))))))
 refine nt (VRun.block ?_)
 have he1:([]:List (Int×Int))= []:=by first | rfl | (refine (if_pos ?_).symm;constructor<;>assumption) | (refine (if_neg ?_).symm;rintro ⟨_,_⟩;contradiction) | (simp;done) | omega
 refine VRun.loop (A:=Nat×(List (Int×Int))) (fun s_=> [(1,(tI s)),(2,(tI k)),(3,(T.fn 81 [])),(8,(tN 0)),(9,(T.om 0)),(13,(rd 4 Qa a)),(14,(tN a.length)),(15,(tN s_.1))]) (fun s_=>QU [(0,(Obj.map (eM s_.2)))]) 1 (fun s_=>s_.1≤a.length∧s_.2.map (·.1)=cnt (a.take s_.1) s k) (fun s_=>a.length - s_.1) ((0,[]):Nat×(List (Int×Int))) ?_ (Wk.mk (fun k=>k) ?_ ?_ ?_) ?_
 ·exact ⟨Nat.zero_le _,rfl⟩
 ·exact (b2 (b2 (b2 (b2 (b2 (b2 (b2 (b2 bn))))))))
 ·exact (bc ⟨(congrArg (fun l_=>some (Obj.map (eM l_))) he1),(lb Y),rfl⟩ bn)
 ·exact nd Y
 rintro ⟨i,m⟩ (hI':i≤a.length∧m.map (·.1)=cnt (a.take i) s k)
 show VRun _ _ _ [(1,(tI s)),(2,(tI k)),(3,(T.fn 81 [])),(8,(tN 0)),(9,(T.om 0)),(13,(rd 4 Qa a)),(14,(tN a.length)),(15,(tN i))] (QU [(0,(Obj.map (eM m)))]) 1 _
 have hI1:=hI'.1
 refine sr (fO (Q2 (tv (tN i) Y) (tv (tN a.length) Y)) (nt (sq ?_)))
 refine cd (i<a.length) Y (fun fhc0=> ?_) fun fhc0=> ?_
 ·refine sk ?_
  refine tn (sq (VRun.block (sr ?_)))
  obtain ⟨x1,hx1⟩:∃x,a[i]? =some x:=⟨_,List.getElem?_eq_getElem (by omega)⟩
  refine fO (OF.indexAddrR (row:=(Qa false x1)) (i:=i) (tv (rd 4 Qa a) Y) (tv (tN i) Y) Y (Qu _ hx1) U34 YE QaT) (lO (OL.loadRn (us:=(Qa false x1)) (tv (T.rp (Qa false x1)) Y) QfZ YE (lb Y) Y) (kO (B.alloc (t:=(T.agg [(tN 0),(tN 0),(tN 0),(tS ByteArray.empty)])) (ts:= [(tN 0),(tN 0),(tN 0),(tS ByteArray.empty)]) QiU QiY nofun (fun _=> .agg _ _ Y (YK (RL.cons (.int _ _) (RL.cons (.int _ _) (RL.cons (.int _ _) (RL.cons (.str _) (RL.nil _))))))) Y) (cO (B.storeW (us:=(Qa false x1)) (tv (T.op 1 0) Y) (tv (T.agg (Qa false x1)) Y) nofun Y Y Y QaT YE (bc Y (bc Y (bc Y (bc Y bn))))) (nt (sr (lf (tI x1.Slot) Y Jg Y Y QQ (mO (tI s) Y (fO (Z7 (tv (tI x1.Slot) Y) (tv (tI s) Y)) (mO (tB (decide (x1.Slot=s))) Y ?_)))))))))
  refine gw (x1.Slot=s) (fun fhg23_2=> ?_) fun fhg23_2=> ?_
  ·refine Yt (tI x1.Kind) (dy fhg23_2) Y Y Y Y Qa1 Y Y QQ ?_
   refine gF (dy fhg23_2) Y Y (OF.move (tv (tI k) Y)) (gF (dy fhg23_2) Y Y (Z7 (tv (tI x1.Kind) Y) (tv (tI k) Y)) (fO (OF.pickT (VEv.tmpB Y (dy fhg23_2)) (tv (tB (decide (x1.Kind=k))) Y)) (mO (tB (decide (x1.Kind=k))) Y ?_)))
   refine gw (x1.Kind=k) (fun fhg29_3=> ?_) fun fhg29_3=> ?_
   ·refine gF (dy fhg29_3) Y Y (OF.move (tv (T.fn 81 []) Y)) ?_
    refine gL (dy fhg29_3) Y Y (OL.loadOn (us:=(Qa false x1)) (tv (T.op 1 0) Y) Y QfZ YE (lb Y) Y) (VRunO.chain (VWant.on Y Y (dy fhg29_3)) (OC.callv (us:= [(T.agg (Qa false x1))]) (ucaps:= []) (r:=(tB true)) (r':=(tB true)) (objs:= []) Y Y (vc (tv (T.agg (Qa false x1)) Y) vn) (LendL.cons (lg okeReport) ln) ln (QcH (n+0) x1) Y) (fO (OF.pickT (VEv.tmpB Y (dy fhg29_3)) (tv (tB true) Y)) (nt (ct Y (VRun.region (mO (T.om 0) Y (lf (tI x1.Tester) Y QcB Y Y QQ (cO (B.mapSet (l:=m) (l':=(Yf m x1.Tester 1)) (tv (T.om 0) Y) (tv (tI x1.Tester) Y) (VEv.int .i64 1) Y Qko U3 Y) (VRunO.nil (vinB.n (tn ?_)))))))))))
    refine VRun.region (fO (Qx (tv (tN i) Y) (VEv.int .i64 1) (by omega)) (mO (tN (i+1)) Y (VRunO.nil (tn ?_))))
    have he4:(Yf m x1.Tester 1)=(if x1.Slot=s∧x1.Kind=k then Yf m x1.Tester 1 else m):=by first | rfl | (refine (if_pos ?_).symm;constructor<;>assumption) | (refine (if_neg ?_).symm;rintro ⟨_,_⟩;contradiction) | (simp;done) | omega
    refine ⟨((i+1,if x1.Slot=s∧x1.Kind=k then Yf m x1.Tester 1 else m):Nat×(List (Int×Int))),?_,?_,Wk.mk (fun k=>k) ?_ ?_ ?_⟩
    ·exact ⟨by omega,QeZ hx1 hI'.2⟩
    ·first | omega | (simp only [];omega) | (show _<_;omega) | (simp;omega)
    ·exact (b2 (b2 (b2 (b2 (b2 (b2 (b2 (b2 bn))))))))
    ·exact (bc ⟨(congrArg (fun l_=>some (Obj.map (eM l_))) he4),(lb Y),rfl⟩ bn)
    ·exact nd Y
   refine Qz 3 10 true 29 (dz fhg29_3) Y Y Y (fO (OF.pickF (VEv.tmpB Y (dz fhg29_3)) (VEv.bool false)) (nt (cf Y (sk (vinB.n (tn (VRun.region (fO (Qx (tv (tN i) Y) (VEv.int .i64 1) (by omega)) (mO (tN (i+1)) Y (VRunO.nil (tn ?_)))))))))))
   have he5:m=(if x1.Slot=s∧x1.Kind=k then Yf m x1.Tester 1 else m):=by first | rfl | (refine (if_pos ?_).symm;constructor<;>assumption) | (refine (if_neg ?_).symm;rintro ⟨_,_⟩;contradiction) | (simp;done) | omega
   refine ⟨((i+1,if x1.Slot=s∧x1.Kind=k then Yf m x1.Tester 1 else m):Nat×(List (Int×Int))),?_,?_,Wk.mk (fun k=>k) ?_ ?_ ?_⟩
   ·exact ⟨by omega,QeZ hx1 hI'.2⟩
   ·first | omega | (simp only [];omega) | (show _<_;omega) | (simp;omega)
   ·exact (b2 (b2 (b2 (b2 (b2 (b2 (b2 (b2 bn))))))))
   ·exact (bc ⟨(congrArg (fun l_=>some (Obj.map (eM l_))) he5),(lb Y),rfl⟩ bn)
   ·exact nd Y
  refine Qz 4 4 true 23 (dz fhg23_2) Y Y Y (fO (OF.pickF (VEv.tmpB Y (dz fhg23_2)) (VEv.bool false)) (mO (tB false) Y (Qz 3 10 true 29 (b:=false) Y Y Y Y (fO (OF.pickF (tv (tB false) Y) (VEv.bool false)) (nt (cf Y (sk (vinB.n (tn (VRun.region (fO (Qx (tv (tN i) Y) (VEv.int .i64 1) (by omega)) ?_)))))))))))
  refine mO (tN (i+1)) Y (VRunO.nil (tn ?_))
  have he6:m=(if x1.Slot=s∧x1.Kind=k then Yf m x1.Tester 1 else m):=by first | rfl | (refine (if_pos ?_).symm;constructor<;>assumption) | (refine (if_neg ?_).symm;rintro ⟨_,_⟩;contradiction) | (simp;done) | omega
  refine ⟨((i+1,if x1.Slot=s∧x1.Kind=k then Yf m x1.Tester 1 else m):Nat×(List (Int×Int))),?_,?_,Wk.mk (fun k=>k) ?_ ?_ ?_⟩
  ·exact ⟨by omega,QeZ hx1 hI'.2⟩
  ·first | omega | (simp only [];omega) | (show _<_;omega) | (simp;omega)
  ·exact (b2 (b2 (b2 (b2 (b2 (b2 (b2 (b2 bn))))))))
  ·exact (bc ⟨(congrArg (fun l_=>some (Obj.map (eM l_))) he6),(lb Y),rfl⟩ bn)
  ·exact nd Y
 refine VRun.exit (vthn.e (vthn.e (vinB.e (tn (sr (mO (T.om 0) Y (lO (B.lenM (m:=m.length) (tv (T.om 0) Y) Y Qko Y) (aO (tN m.length) Y (nt (rt (vi (n':=((m.length:Nat):Int)) Y ?_)))))))))))
 have e:=congrArg List.length hI'.2
 rw [List.take_of_length_le (by omega),List.length_map] at e
 rw [e]
theorem Qdx (n:Nat) (a:List D.Report) (s:Int) (k:Int) (hz:zL QA a≤mx):Pure (Qq Tryz.prog (n+3)) 47 [(rd 4 Qa a),(tI s),(tI k)] (tN ((cnt a s k).length)):=by
 refine Pure.intro (rs:= [ResultVar.tmp 6]) Tryz.func47 Y Y Y (E0:= [(0,(rd 4 Qa a)),(1,(tI s)),(2,(tI k))]) Y ?_
 obtain ⟨hlim,hmx,hmax⟩:=QC
 refine sr (fO (OF.assign (VEv.int .i64 0)) (nt (sr (mO (rd 4 Qa a) Y (mO (tI s) Y (mO (tI k) Y (cO (cS (us:= [(rd 4 Qa a),(tI s),(tI k),(T.fn 81 [])]) (vc (tv (rd 4 Qa a) Y) (vc (tv (tI s) Y) (vc (tv (tI k) Y) (vc (VEv.func 81) vn)))) (lp Y (lp Y (lp Y (LendL.cons (Lend.fn ln) ln)))) (Y8 (n+0) a s k (by first | assumption | omega)) Y Y) (aO (tN ((cnt a s k).length)) Y (nt (rt ?_))))))))))
 exact vi Y Y
noncomputable section
def QaU (x:Int):List Int→List Int
 | []=> [x]
 | y::s=>if x<y then x::y::s else y::QaU x s
def QI (l:List Int):List Int:=l.foldl (fun s x=>QaU x s) []
theorem Qip (x:Int):∀s:List Int,(QaU x s).length=s.length+1
 | []=>rfl
 | y::s=>by
  unfold QaU
  split
  ·rfl
  ·rw [List.length_cons,Qip x s,List.length_cons]
theorem insI_mem {x z:Int}:∀ {s:List Int},z∈QaU x s↔z=x∨z∈s
 | []=>by simp [QaU]
 | y::s=>by
  have ih:=insI_mem (x:=x) (z:=z) (s:=s)
  unfold QaU
  split
  ·simp
  ·rw [List.mem_cons,ih,List.mem_cons]
   constructor
   ·rintro (h | h | h)
    ·exact .inr (.inl h)
    ·exact .inl h
    ·exact .inr (.inr h)
   ·rintro (h | h | h)
    ·exact .inr (.inl h)
    ·exact .inl h
    ·exact .inr (.inr h)
theorem Qid {x:Int}:∀ {s:List Int},s.Pairwise (· ≤ ·)→(QaU x s).Pairwise (· ≤ ·)
 | [],_=>List.pairwise_singleton _ _
 | y::s,h=>by
  have h1:=List.pairwise_cons.1 h
  unfold QaU
  split
  ·refine List.pairwise_cons.2 ⟨fun z hz=> ?_,h⟩
   rcases List.mem_cons.1 hz with rfl | hz
   ·omega
   ·have:=h1.1 z hz
    omega
  ·refine List.pairwise_cons.2 ⟨fun z hz=> ?_,Qid h1.2⟩
   rcases insI_mem.1 hz with rfl | hz
   ·omega
   ·exact h1.1 z hz
theorem Qgt (x:Int):∀s:List Int,(QaU x s).Perm (x::s)
 | []=>List.Perm.refl _
 | y::s=>by
  unfold QaU
  split
  ·exact List.Perm.refl _
  ·exact ((Qgt x s).cons y).trans (List.Perm.swap x y s)
theorem Qh7 : ∀(l s:List Int),s.Pairwise (· ≤ ·)→(l.foldl (fun s x=>QaU x s) s).Pairwise (· ≤ ·)
 | [],_,h=>h
 | x::l,s,h=>Qh7 l (QaU x s) (Qid h)
theorem Qgv : ∀(l s:List Int),(l.foldl (fun s x=>QaU x s) s).Perm (l++s)
 | [],_=>List.Perm.refl _
 | x::l,s=>(Qgv l (QaU x s)).trans ((List.Perm.append_left l (Qgt x s)).trans List.perm_middle)
theorem QjW : ∀(l s:List Int),(l.foldl (fun s x=>QaU x s) s).length=l.length+s.length
 | [],s=>by simp
 | x::l,s=>by
  rw [List.foldl_cons,QjW l,Qip,List.length_cons]
  omega
theorem Qe2 (l:List Int):(QI l).Pairwise (· ≤ ·):=Qh7 l [] List.Pairwise.nil
theorem QhJ (l:List Int):(QI l).Perm l:=by
 have:=Qgv l []
 rwa [List.append_nil] at this
theorem YN (l:List Int):(QI l).length=l.length:=by
 have:=QjW l []
 exact this
theorem QhQ {a:List Int} {i:Nat} {x:Int} (h:a[i]? =some x):QI (a.take (i+1))=QaU x (QI (a.take i)):=by
 unfold QI
 rw [List.take_add_one,h,List.foldl_append]
 rfl
theorem Qfy {x:Int}:∀ {s:List Int} {j:Nat},s.Pairwise (· ≤ ·)→(∀y∈s.drop j,x<y)→(∀y,1≤j→s[j - 1]? =some y→¬x<y)→j≤s.length→s.take j++x::s.drop j=QaU x s
 | [],j,_,_,_,hj=>by
  obtain rfl:j=0:=Nat.le_zero.1 hj
  rfl
 | y::s,0,_,h2,_,_=>by
  unfold QaU
  rw [if_pos (h2 y (by simp))]
  rfl
 | y::s,j+1,h1,h2,h3,hj=>by
  have h4:=List.pairwise_cons.1 h1
  have hy:¬x<y:=by
   have hj2:j<(y::s).length:=by simp only [List.length_cons] at *;omega
   have h5:=h3 _ (by omega) (List.getElem?_eq_getElem (l:=y::s) (i:=j) hj2)
   rcases Nat.eq_zero_or_pos j with rfl | hp
   ·exact h5
   ·have h6:(y::s)[j]∈s:=by
     obtain ⟨k,rfl⟩:∃k,j=k+1:=⟨j - 1,by omega⟩
     rw [List.getElem_cons_succ]
     exact List.getElem_mem _
    have:=h4.1 _ h6
    omega
  unfold QaU
  rw [if_neg hy]
  show y::(s.take j++x::s.drop j)=_
  rw [Qfy h4.2 h2 (fun z hz hs=> ?_) (by simpa using hj)]
  obtain ⟨k,rfl⟩:∃k,j=k+1:=⟨j - 1,by omega⟩
  exact h3 z (by omega) hs
def Zy (a:List Int) (i j:Nat):List Int:=((QI (a.take i)).take j++a.getD i 0::(QI (a.take i)).drop j)++a.drop (i+1)
theorem QbL {a:List Int} {i:Nat} (h:i<a.length):(QI (a.take i)).length=i:=by rw [YN,List.length_take];omega
theorem Qij {a:List Int} {i j:Nat} (h:i<a.length) (hj:j≤i):(Zy a i j).length=a.length:=by
 have:=QbL h
 simp only [Zy,List.length_append,List.length_cons,List.length_take,List.length_drop]
 omega
theorem gD {a:List Int} {i:Nat} (h:i<a.length):a[i]? =some (a.getD i 0):=by
 rw [List.getD_eq_getElem?_getD,List.getElem?_eq_getElem h]
 rfl
theorem QnA {a:List Int} {i j:Nat} (h:i<a.length) (hj:j≤i):(Zy a i j)[j]? =some (a.getD i 0):=by
 have hl:=QbL h
 have ht:((QI (a.take i)).take j).length=j:=by rw [List.length_take];omega
 unfold Zy
 rw [List.append_assoc,List.getElem?_append_right (by omega),ht,Nat.sub_self]
 rfl
theorem Qnc {a:List Int} {i j:Nat} (h:i<a.length) (hj:j+1≤i):(Zy a i (j+1))[j]? =(QI (a.take i))[j]? :=by
 have hl:=QbL h
 unfold Zy
 rw [List.append_assoc,List.getElem?_append_left (by rw [List.length_take];omega),List.getElem?_take,if_pos (by omega)]
theorem Qmo {α:Type} {p q:List α} {y x:α} {n:Nat} (h:p.length=n):((p++y::x::q).set (n+1) y).set n x=p++x::y::q:=by
 subst h
 rw [List.set_append_right _ _ (by omega),List.set_append_right _ _ (by omega)]
 simp
theorem QkB {a:List Int} {i j:Nat} {y:Int} (h:i<a.length) (hj:j+1≤i) (hy:(QI (a.take i))[j]? =some y):((Zy a i (j+1)).set (j+1) y).set j (a.getD i 0)=Zy a i j:=by
 have hl:=QbL h
 have e1:(QI (a.take i)).take (j+1)=(QI (a.take i)).take j++ [y]:=by rw [List.take_add_one,hy];rfl
 have e2:(QI (a.take i)).drop j=y::(QI (a.take i)).drop (j+1):=by
  have hj2:j<(QI (a.take i)).length:=by omega
  rw [List.drop_eq_getElem_cons hj2]
  rw [List.getElem?_eq_getElem hj2] at hy
  rw [Option.some.inj hy]
 unfold Zy
 rw [e1,e2]
 simp only [List.append_assoc,List.cons_append,List.nil_append]
 exact Qmo (by rw [List.length_take];omega)
theorem QhN {a:List Int} {i:Nat} (h:i<a.length):QI (a.take i)++a.drop i=Zy a i i:=by
 have hl:=QbL h
 have e1:(QI (a.take i)).take i=QI (a.take i):=List.take_of_length_le (by omega)
 have e2:(QI (a.take i)).drop i= []:=List.drop_eq_nil_of_le (by omega)
 have e3:a.drop i=a.getD i 0::a.drop (i+1):=by
  have:=gD h
  rw [List.getElem?_eq_getElem h] at this
  rw [List.drop_eq_getElem_cons h,Option.some.inj this]
 unfold Zy
 rw [e1,e2,e3]
 simp
def Qcc (a:List Int) (i j:Nat):Prop:=j≤i∧∀y∈(QI (a.take i)).drop j,a.getD i 0<y
theorem Qka {a:List Int} {i:Nat} (h:i<a.length):Qcc a i i:=⟨Nat.le_refl _,fun y hy=>by
 have hl:=QbL h
 rw [List.drop_eq_nil_of_le (by omega)] at hy
 exact absurd hy List.not_mem_nil⟩
theorem QiQ {a:List Int} {i j:Nat} {y:Int} (h:i<a.length) (hk:Qcc a i (j+1)) (hy:(QI (a.take i))[j]? =some y) (hx:a.getD i 0<y):Qcc a i j:=by
 refine ⟨by have:=hk.1;omega,fun z hz=> ?_⟩
 have hj2:j<(QI (a.take i)).length:=by have:=hk.1;rw [QbL h];omega
 rw [List.drop_eq_getElem_cons hj2] at hz
 rw [List.getElem?_eq_getElem hj2] at hy
 rw [Option.some.inj hy] at hz
 rcases List.mem_cons.1 hz with rfl | hz
 ·exact hx
 ·exact hk.2 z hz
theorem QhU {a:List Int} {i j:Nat} (h:i<a.length) (hk:Qcc a i j) (he:∀y,1≤j→(QI (a.take i))[j - 1]? =some y→¬a.getD i 0<y):Zy a i j=QI (a.take (i+1))++a.drop (i+1):=by
 have hl:=QbL h
 unfold Zy
 rw [Qfy (Qe2 _) hk.2 he (by have:=hk.1;omega),QhQ (gD h)]
theorem Qk5 {a:List Int} {i m:Nat} {x1 x2:Int} (h:i<a.length) (hm:m<i) (hx1:(Zy a i (i - m))[Int.toNat (((i:Nat):Int) - ((m:Nat):Int))]? =some x1) (hx2:(Zy a i (i - m))[Int.toNat (((i:Nat):Int) - ((m:Nat):Int) - 1)]? =some x2):x1=a.getD i 0∧(QI (a.take i))[i - (m+1)]? =some x2:=by
 rw [show Int.toNat (((i:Nat):Int) - ((m:Nat):Int))=i - m by omega,QnA h (Nat.sub_le i m)] at hx1
 rw [show Int.toNat (((i:Nat):Int) - ((m:Nat):Int) - 1)=i - (m+1) by omega,show i - m=i - (m+1)+1 by omega,Qnc h (by omega)] at hx2
 exact ⟨(Option.some.inj hx1).symm,hx2⟩
theorem Qlt {a:List Int} {i m:Nat} {x1 x2:Int} (h:i<a.length) (hm:m<i) (hx1:(Zy a i (i - m))[Int.toNat (((i:Nat):Int) - ((m:Nat):Int))]? =some x1) (hx2:(Zy a i (i - m))[Int.toNat (((i:Nat):Int) - ((m:Nat):Int) - 1)]? =some x2):((Zy a i (i - m)).set (Int.toNat (((i:Nat):Int) - ((m:Nat):Int))) x2).set (Int.toNat (((i:Nat):Int) - ((m:Nat):Int) - 1)) x1=Zy a i (i - (m+1)):=by
 obtain ⟨e1,e2⟩:=Qk5 h hm hx1 hx2
 rw [show Int.toNat (((i:Nat):Int) - ((m:Nat):Int))=i - (m+1)+1 by omega,show Int.toNat (((i:Nat):Int) - ((m:Nat):Int) - 1)=i - (m+1) by omega,show i - m=i - (m+1)+1 by omega,e1]
 exact QkB h (by omega) e2
theorem Qnh {a:List Int} {i m:Nat} {x1 x2:Int} (h:i<a.length) (hm:m<i) (hx1:(Zy a i (i - m))[Int.toNat (((i:Nat):Int) - ((m:Nat):Int))]? =some x1) (hx2:(Zy a i (i - m))[Int.toNat (((i:Nat):Int) - ((m:Nat):Int) - 1)]? =some x2) (hl:x1<x2) (hk:Qcc a i (i - m)):m+1≤i∧Qcc a i (i - (m+1)):=by
 obtain ⟨e1,e2⟩:=Qk5 h hm hx1 hx2
 rw [show i - m=i - (m+1)+1 by omega] at hk
 exact ⟨by omega,QiQ h hk e2 (by rw [← e1];exact hl)⟩
theorem Qe4 {a:List Int} {i m:Nat} {x1 x2:Int} (h:i<a.length) (hm:m<i) (hx1:(Zy a i (i - m))[Int.toNat (((i:Nat):Int) - ((m:Nat):Int))]? =some x1) (hx2:(Zy a i (i - m))[Int.toNat (((i:Nat):Int) - ((m:Nat):Int) - 1)]? =some x2) (hl:¬x1<x2) (hk:Qcc a i (i - m)):Zy a i (i - m)=QI (a.take (i+1))++a.drop (i+1):=by
 obtain ⟨e1,e2⟩:=Qk5 h hm hx1 hx2
 refine QhU h hk (fun y _ hy=> ?_)
 rw [show i - m - 1=i - (m+1) by omega,e2] at hy
 rw [← Option.some.inj hy,← e1]
 exact hl
theorem QfE {a:List Int} {i m:Nat} (h:i<a.length) (hm:¬m<i) (hk:Qcc a i (i - m)):Zy a i (i - m)=QI (a.take (i+1))++a.drop (i+1):=QhU h hk (fun y h1 _=>by omega)
theorem vmut.q {rt:Tmp} {sz k n:Nat} {rows rows':List (List T)} {E:Q4} {O:QJ} {nx:Nat} (h2:gE E 0= .os sz k 0 n) (h3:gO O k=some (.rows sz rows)) (e2:rows=rows') (e3:n=rows.length):vmut rt none sz rows' .ret E O nx:=by
 subst e2
 subst e3
 unfold vmut
 exact ⟨fun n hn=>(by cases hn),k,h2,h3⟩
theorem Qdv (a:List Int):a=QI (a.take 1)++a.drop 1:=by
 cases a with
 | nil=>rfl
 | cons x s=>rfl
end
theorem Qc9 (n:Nat) (x:Int):Pure (Qq Tryz.prog (n+1)) 196 [(T.int .u8 x)] (tB false):=by
 refine Pure.intro (rs:= [ResultVar.tmp 2]) Tryz.func196 Y Y Y (E0:= [(0,(T.int .u8 x))]) Y ?_
 obtain ⟨hlim,hmx,hmax⟩:=QC
 refine sr (fO (OF.assign (VEv.bool false)) (nt (sr (mO (T.int .u8 x) Y (mO (T.int .u8 x) Y (fO (xne (tv (T.int .u8 x) Y) (tv (T.int .u8 x) Y)) (aO (tB (!(decide (x=x)))) Y (nt (rt (vb (b':=(!(decide (x=x)))) Y ?_))))))))))
 first | rfl | simp
theorem Qd4 (n:Nat) (x:Int) (y:Int):Pure (Qq Tryz.prog (n+2)) 186 [(T.int .u8 x),(T.int .u8 y)] (tB (decide (x<y))):=by
 refine Pure.intro (rs:= [ResultVar.tmp 4]) Tryz.func186 Y Y Y (E0:= [(0,(T.int .u8 x)),(1,(T.int .u8 y))]) Y ?_
 obtain ⟨hlim,hmx,hmax⟩:=QC
 refine sr (fO (OF.assign (VEv.bool false)) (nt (sr (mO (T.int .u8 x) Y (cO (cS (vc (tv (T.int .u8 x) Y) vn) (Q8 Y) (Qc9 (n+0) x) Y Y) (mO (tB false) Y (Qz 3 2 true 7 (b:=false) Y Y Y Y (fO (OF.pickF (tv (tB false) Y) (VEv.bool false)) (mO (tB false) Y (VRunO.free (VWant.on (b:=false) Y Y Y) (OF.move (tv (T.int .u8 x) Y)) (VRunO.free (VWant.on (b:=false) Y Y Y) (OF.move (tv (T.int .u8 y) Y)) ?_)))))))))))
 refine VRunO.free (VWant.on (b:=false) Y Y Y) (xls (tv (T.int .u8 x) Y) (tv (T.int .u8 y) Y)) (fO (OF.pickF (tv (tB false) Y) (tv (tB (decide (x<y))) Y)) (aO (tB (decide (x<y))) Y (nt (rt ?_))))
 exact vb Y Y
theorem YI (n:Nat) (a:List Int) (p:Int) (q:Int) (hp:p=0) (hq:q=((a.length:Nat):Int)) (ha:a.length≤12):Mut (Qq Tryz.prog (n+3)) 180 1 (a.map (Qw true)) [(tI p),(tI q)] none ((QI a).map (Qw true)):=by
 refine Mut.intro (rt:=0) Tryz.func180 Y Y Y (by kernel_rfl) (ZF (fun _=>rfl) _) (ZF (fun _=>rfl) _) (E0:= [(1,(tI p)),(2,(tI q))]) Y ?_
 obtain ⟨hlim,hmx,hmax⟩:=QC
 refine sr (mO (tI p) Y (fO (B.add (n:=(p+1)) (tv (tI p) Y) (VEv.int .i64 1) (by first | rfl | (rw [Qs (by omega)];omega) | (rw [Qs (by omega)];done))) (aO (tI (p+1)) Y (nt (VRun.block ?_)))))
 have he1:a=QI (a.take 1)++a.drop 1:=by first | rfl | (exact Qdv a) | (refine Qe4 hil ?_ hx1 hx2 fhc1 hJ2;omega) | (refine QfE hil ?_ hJ2;omega) | (simp;done) | omega
 refine VRun.loop (A:=Nat) (fun s_=> [(0,(T.os 1 0 0 (((QI (a.take s_)++a.drop s_).map (Qw true)).length))),(1,(tI p)),(2,(tI q)),(6,(tN s_))]) (fun s_=>QU [(0,(Obj.rows 1 ((QI (a.take s_)++a.drop s_).map (Qw true))))]) 1 (fun s_=>1≤s_∧s_≤a.length+1) (fun s_=>a.length+1 - s_) (1:Nat) ?_ (Wk.mk (fun k=>k) ?_ ?_ ?_) ?_
 ·exact ⟨Nat.le_refl 1,by omega⟩
 ·exact (bc ⟨(congrArg (fun l_=>T.os 1 0 0 (List.map (Qw true) l_).length) he1),rfl⟩ (b2 (b2 (bc ⟨(congrArg (T.int .i64) (show (p+1)=((1:Nat):Int) from (by first | rfl | omega | (simp;done) | (push_cast;omega)))),rfl⟩ bn))))
 ·exact (bc ⟨(congrArg (fun l_=>some (Obj.rows 1 (List.map (Qw true) l_))) he1),(lb Y),rfl⟩ bn)
 ·exact nd Y
 rintro i (hI':1≤i∧i≤a.length+1)
 show VRun _ _ _ [(0,(T.os 1 0 0 (((QI (a.take i)++a.drop i).map (Qw true)).length))),(1,(tI p)),(2,(tI q)),(6,(tN i))] (QU [(0,(Obj.rows 1 ((QI (a.take i)++a.drop i).map (Qw true))))]) 1 _
 have hI1:=hI'.1
 have hI2:=hI'.2
 have hml:(QI (a.take i)++a.drop i).length=a.length:=by rw [List.length_append,YN,List.length_take,List.length_drop];omega
 refine sq (sr (mO (tN i) Y (mO (tI q) Y (fO (xls (tv (tN i) Y) (tv (tI q) Y)) (nt ?_)))))
 refine cd (((i:Nat):Int)<q) Y (fun fhc0=> ?_) fun fhc0=> ?_
 ·have hil:i<a.length:=by omega
  refine sk (tn (sq (VRun.block (sr (mO (tN i) Y (aO (tN i) Y (nt (VRun.block ?_))))))))
  have he2:QI (a.take i)++a.drop i=Zy a i (i - 0):=by first | rfl | (exact QhN hil) | (refine Qlt hil ?_ hx1 hx2;omega) | (refine Qe4 hil ?_ hx1 hx2 fhc1 hJ2;omega) | (refine QfE hil ?_ hJ2;omega) | (simp;done) | omega
  refine VRun.loop (A:=Nat) (fun s_=> [(0,(T.os 1 0 0 (((Zy a i (i - s_)).map (Qw true)).length))),(1,(tI p)),(2,(tI q)),(6,(tN i)),(7,(tI (((i:Nat):Int) - ((s_:Nat):Int))))]) (fun s_=>QU [(0,(Obj.rows 1 ((Zy a i (i - s_)).map (Qw true))))]) 1 (fun s_=>s_≤i∧Qcc a i (i - s_)) (fun s_=>i - s_) (0:Nat) ?_ (Wk.mk (fun k=>k) ?_ ?_ ?_) ?_
  ·exact ⟨Nat.zero_le _,Qka hil⟩
  ·exact (bc ⟨(congrArg (fun l_=>T.os 1 0 0 (List.map (Qw true) l_).length) he2),rfl⟩ (b2 (b2 (b2 (bc ⟨(congrArg (T.int .i64) (show ((i:Nat):Int)=((i:Nat):Int) - ((0:Nat):Int) from (by first | rfl | omega | (simp;done) | (push_cast;omega)))),rfl⟩ bn)))))
  ·exact (bc ⟨(congrArg (fun l_=>some (Obj.rows 1 (List.map (Qw true) l_))) he2),(lb Y),rfl⟩ bn)
  ·exact nd Y
  rintro m (hI':m≤i∧Qcc a i (i - m))
  show VRun _ _ _ [(0,(T.os 1 0 0 (((Zy a i (i - m)).map (Qw true)).length))),(1,(tI p)),(2,(tI q)),(6,(tN i)),(7,(tI (((i:Nat):Int) - ((m:Nat):Int))))] (QU [(0,(Obj.rows 1 ((Zy a i (i - m)).map (Qw true))))]) 1 _
  have hJ1:=hI'.1
  have hJ2:=hI'.2
  have hml2:=Qij hil (Nat.sub_le i m)
  refine sq (sq (VRun.draw (B:= [[],[],[1,0],[0,1,2],[2,1,0,3],[2,1,0,3],[5,3,0,1,2,4],[4,2,1,0,3,5,6],[2,1,0,3],[2,1,0,3],[3,0,1,2,9],[9,10,3,0,1,2,8],[8,2,1,0,3,10,9,11],[11,9,10,8,12,6,5,3,0,1,2,4,7],[7,4,5,6,12,8,10,9,11,13,2,1,0,3]]) (by kernel_rfl) (by kernel_rfl) (mD (tI (((i:Nat):Int) - ((m:Nat):Int))) Y Y (mD (tI p) Y Y (fD (xgt (tv (tI (((i:Nat):Int) - ((m:Nat):Int))) Y) (tv (tI p) Y)) Y Y (mD (tB (decide (p<((i:Nat):Int) - ((m:Nat):Int)))) Y Y ?_))))))
  refine gw (p<((i:Nat):Int) - ((m:Nat):Int)) (fun fhg19_3=> ?_) fun fhg19_3=> ?_
  ·refine VRunD.free Y (VWant.on Y Y (dy fhg19_3)) Y (OF.move (tv (T.os 1 0 0 (((Zy a i (i - m)).map (Qw true)).length)) Y)) ?_
   refine VRunD.free Y (VWant.on Y Y (dy fhg19_3)) Y (OF.move (tv (tI (((i:Nat):Int) - ((m:Nat):Int))) Y)) ?_
   obtain ⟨x1,hx1⟩:∃x,(Zy a i (i - m))[(Int.toNat (((i:Nat):Int) - ((m:Nat):Int)))]? =some x:=⟨_,List.getElem?_eq_getElem (by omega)⟩
   refine VRunD.free Y (VWant.on Y Y (dy fhg19_3)) Y (B.indexAddrO (i:=(Int.toNat (((i:Nat):Int) - ((m:Nat):Int)))) (tv (T.os 1 0 0 (((Zy a i (i - m)).map (Qw true)).length)) Y) (tv (tI (((i:Nat):Int) - ((m:Nat):Int))) Y) (by omega) (by first | omega | (simp only [List.length_map];omega) | (simp only [List.length_map,List.length_append,List.length_cons,List.length_nil,List.length_replicate,List.length_set,List.length_drop,List.length_take,Zk] at *;omega)) Qb4 sz5 if5) (VRunD.look Y (VWant.on Y Y (dy fhg19_3)) Y (OL.loadP1 (t:=(T.int .u8 x1)) (row:=(Qw true x1)) (tv (T.orp 1 0 (Int.toNat (((i:Nat):Int) - ((m:Nat):Int))) 0) Y) Y (Qu _ hx1) Y Y st5) (VRunD.free Y (VWant.on Y Y (dy fhg19_3)) Y (OF.move (tv (T.os 1 0 0 (((Zy a i (i - m)).map (Qw true)).length)) Y)) (VRunD.free Y (VWant.on Y Y (dy fhg19_3)) Y (OF.move (tv (tI (((i:Nat):Int) - ((m:Nat):Int))) Y)) (VRunD.free Y (VWant.on Y Y (dy fhg19_3)) Y (B.sub (n:=(((i:Nat):Int) - ((m:Nat):Int) - 1)) (tv (tI (((i:Nat):Int) - ((m:Nat):Int))) Y) (VEv.int .i64 1) (by first | rfl | (rw [Qs (by omega)];omega) | (rw [Qs (by omega)];done))) ?_))))
   obtain ⟨x2,hx2⟩:∃x,(Zy a i (i - m))[(Int.toNat (((i:Nat):Int) - ((m:Nat):Int) - 1))]? =some x:=⟨_,List.getElem?_eq_getElem (by omega)⟩
   refine VRunD.free Y (VWant.on Y Y (dy fhg19_3)) Y (B.indexAddrO (i:=(Int.toNat (((i:Nat):Int) - ((m:Nat):Int) - 1))) (tv (T.os 1 0 0 (((Zy a i (i - m)).map (Qw true)).length)) Y) (tv (tI (((i:Nat):Int) - ((m:Nat):Int) - 1)) Y) (by omega) (by first | omega | (simp only [List.length_map];omega) | (simp only [List.length_map,List.length_append,List.length_cons,List.length_nil,List.length_replicate,List.length_set,List.length_drop,List.length_take,Zk] at *;omega)) Qb4 sz5 if5) (VRunD.look Y (VWant.on Y Y (dy fhg19_3)) Y (OL.loadP1 (t:=(T.int .u8 x2)) (row:=(Qw true x2)) (tv (T.orp 1 0 (Int.toNat (((i:Nat):Int) - ((m:Nat):Int) - 1)) 0) Y) Y (Qu _ hx2) Y Y st5) (VRunD.quiet (bi:= [11,9,10,8,12,6,5,3,0,1,2,4,7]) Y (VWant.on Y Y (dy fhg19_3)) Y Y Y bn (cS (vc (tv (T.int .u8 x1) Y) (vc (tv (T.int .u8 x2) Y) vn)) (Q8 Y) (Qd4 (n+0) x1 x2) Y Y) (fD (OF.pickT (VEv.tmpB Y (dy fhg19_3)) (tv (tB (decide (x1<x2))) Y)) Y Y (VRunD.nil (tn ?_)))))
   refine cd (x1<x2) Y (fun fhc1=> ?_) fun fhc1=> ?_
   ·refine sk ?_
    refine tn (sq (VRun.block (VRun.draw (B:= [[],[],[],[],[3],[],[],[6],[6,7,5],[5,7,6,8],[],[],[11,10],[10,11,12],[12,11,10,13,9,8,7,6,5,1,0],[0,1,5,6,7,8,9,13,10,11,12,14],[15,14,13,12,11,10,9,8,7,6,5,1,0,3,4,2],[2,4,3,0,1,5,6,7,8,9,10,11,12,13,14,15,16]]) (by kernel_rfl) (by kernel_rfl) (mD (T.os 1 0 0 (((Zy a i (i - m)).map (Qw true)).length)) Y Y (mD (tI (((i:Nat):Int) - ((m:Nat):Int))) Y Y (mD (T.os 1 0 0 (((Zy a i (i - m)).map (Qw true)).length)) Y Y (mD (tI (((i:Nat):Int) - ((m:Nat):Int))) Y Y (fD (B.sub (n:=(((i:Nat):Int) - ((m:Nat):Int) - 1)) (tv (tI (((i:Nat):Int) - ((m:Nat):Int))) Y) (VEv.int .i64 1) (by first | rfl | (rw [Qs (by omega)];omega) | (rw [Qs (by omega)];done))) Y Y (mD (T.os 1 0 0 (((Zy a i (i - m)).map (Qw true)).length)) Y Y (mD (tI (((i:Nat):Int) - ((m:Nat):Int))) Y Y (fD (B.sub (n:=(((i:Nat):Int) - ((m:Nat):Int) - 1)) (tv (tI (((i:Nat):Int) - ((m:Nat):Int))) Y) (VEv.int .i64 1) (by first | rfl | (rw [Qs (by omega)];omega) | (rw [Qs (by omega)];done))) Y Y ?_)))))))))))
    refine fD (B.indexAddrO (i:=(Int.toNat (((i:Nat):Int) - ((m:Nat):Int) - 1))) (tv (T.os 1 0 0 (((Zy a i (i - m)).map (Qw true)).length)) Y) (tv (tI (((i:Nat):Int) - ((m:Nat):Int) - 1)) Y) (by omega) (by first | omega | (simp only [List.length_map];omega) | (simp only [List.length_map,List.length_append,List.length_cons,List.length_nil,List.length_replicate,List.length_set,List.length_drop,List.length_take,Zk] at *;omega)) Qb4 sz5 if5) Y Y (lD (OL.loadP1 (t:=(T.int .u8 x2)) (row:=(Qw true x2)) (tv (T.orp 1 0 (Int.toNat (((i:Nat):Int) - ((m:Nat):Int) - 1)) 0) Y) Y (Qu _ hx2) Y Y st5) Y Y (mD (T.os 1 0 0 (((Zy a i (i - m)).map (Qw true)).length)) Y Y (mD (tI (((i:Nat):Int) - ((m:Nat):Int))) Y Y (fD (B.indexAddrO (i:=(Int.toNat (((i:Nat):Int) - ((m:Nat):Int)))) (tv (T.os 1 0 0 (((Zy a i (i - m)).map (Qw true)).length)) Y) (tv (tI (((i:Nat):Int) - ((m:Nat):Int))) Y) (by omega) (by first | omega | (simp only [List.length_map];omega) | (simp only [List.length_map,List.length_append,List.length_cons,List.length_nil,List.length_replicate,List.length_set,List.length_drop,List.length_take,Zk] at *;omega)) Qb4 sz5 if5) Y Y (lD (OL.loadP1 (t:=(T.int .u8 x1)) (row:=(Qw true x1)) (tv (T.orp 1 0 (Int.toNat (((i:Nat):Int) - ((m:Nat):Int))) 0) Y) Y (Qu _ hx1) Y Y st5) Y Y (fD (B.indexAddrO (i:=(Int.toNat (((i:Nat):Int) - ((m:Nat):Int)))) (tv (T.os 1 0 0 (((Zy a i (i - m)).map (Qw true)).length)) Y) (tv (tI (((i:Nat):Int) - ((m:Nat):Int))) Y) (by omega) (by first | omega | (simp only [List.length_map];omega) | (simp only [List.length_map,List.length_append,List.length_cons,List.length_nil,List.length_replicate,List.length_set,List.length_drop,List.length_take,Zk] at *;omega)) Qb4 sz5 if5) Y Y (VRunD.chain (bi:= [0,1,5,6,7,8,9,13,10,11,12,14]) Y VWant.always Y Y Y (by kernel_rfl) (B.storeP (us:= [(T.int .u8 x2)]) (rows':=(((Zy a i (i - m)).set (Int.toNat (((i:Nat):Int) - ((m:Nat):Int))) x2).map (Qw true))) (row:=(Qw true x1)) (tv (T.orp 1 0 (Int.toNat (((i:Nat):Int) - ((m:Nat):Int))) 0) Y) (tv (T.int .u8 x2) Y) nofun Y (Qu _ hx1) Y (lb Y) if5 sz5 (bc Y bn) (by intro r hr t ht;obtain ⟨x,_,rfl⟩:=List.mem_map.1 hr;rw [Qg9] at ht;exact ZN (okByte.pl _ t ht)) (Z6 Y)) ?_)))))))
    obtain ⟨x3,hx3⟩:∃x,((Zy a i (i - m)).set (Int.toNat (((i:Nat):Int) - ((m:Nat):Int))) x2)[(Int.toNat (((i:Nat):Int) - ((m:Nat):Int) - 1))]? =some x:=⟨_,List.getElem?_eq_getElem (by first | omega | (simp only [List.length_map];omega) | (simp only [List.length_map,List.length_append,List.length_cons,List.length_nil,List.length_replicate,List.length_set,List.length_drop,List.length_take,Zk] at *;omega))⟩
    refine fD (B.indexAddrO (i:=(Int.toNat (((i:Nat):Int) - ((m:Nat):Int) - 1))) (tv (T.os 1 0 0 (((Zy a i (i - m)).map (Qw true)).length)) Y) (tv (tI (((i:Nat):Int) - ((m:Nat):Int) - 1)) Y) (by omega) (by first | omega | (simp only [List.length_map];omega) | (simp only [List.length_map,List.length_append,List.length_cons,List.length_nil,List.length_replicate,List.length_set,List.length_drop,List.length_take,Zk] at *;omega)) Qb4 sz5 if5) Y Y (VRunD.chain (bi:= [2,4,3,0,1,5,6,7,8,9,10,11,12,13,14,15,16]) Y VWant.always Y Y Y (by kernel_rfl) (B.storeP (us:= [(T.int .u8 x1)]) (rows':=((((Zy a i (i - m)).set (Int.toNat (((i:Nat):Int) - ((m:Nat):Int))) x2).set (Int.toNat (((i:Nat):Int) - ((m:Nat):Int) - 1)) x1).map (Qw true))) (row:=(Qw true x3)) (tv (T.orp 1 0 (Int.toNat (((i:Nat):Int) - ((m:Nat):Int) - 1)) 0) Y) (tv (T.int .u8 x1) Y) nofun Y (Qu _ hx3) Y (lb Y) if5 sz5 (bc Y bn) (by intro r hr t ht;obtain ⟨x,_,rfl⟩:=List.mem_map.1 hr;rw [Qg9] at ht;exact ZN (okByte.pl _ t ht)) (Z6 Y)) (VRunD.nil (vinB.n (tn (VRun.region (mO (tI (((i:Nat):Int) - ((m:Nat):Int))) Y (fO (B.sub (n:=(((i:Nat):Int) - ((m:Nat):Int) - 1)) (tv (tI (((i:Nat):Int) - ((m:Nat):Int))) Y) (VEv.int .i64 1) (by first | rfl | (rw [Qs (by omega)];omega) | (rw [Qs (by omega)];done))) (aO (tI (((i:Nat):Int) - ((m:Nat):Int) - 1)) Y (VRunO.nil (tn ?_))))))))))
    have hml3:=Qij hil (Nat.sub_le i (m+1))
    have he4:(((Zy a i (i - m)).set (Int.toNat (((i:Nat):Int) - ((m:Nat):Int))) x2).set (Int.toNat (((i:Nat):Int) - ((m:Nat):Int) - 1)) x1)=Zy a i (i - (m+1)):=by first | rfl | (exact QhN hil) | (refine Qlt hil ?_ hx1 hx2;omega) | (refine Qe4 hil ?_ hx1 hx2 fhc1 hJ2;omega) | (refine QfE hil ?_ hJ2;omega) | (simp;done) | omega
    refine ⟨(m+1:Nat),?_,?_,Wk.mk (fun k=>k) ?_ ?_ ?_⟩
    ·(refine Qnh hil ?_ hx1 hx2 fhc1 hJ2;omega)
    ·first | omega | (simp only [];omega) | (show _<_;omega) | (simp;omega)
    ·exact (bc ⟨(congrArg (fun n_=>T.os 1 0 0 n_) (show ((Zy a i (i - m)).map (Qw true)).length=((Zy a i (i - (m+1))).map (Qw true)).length from (by first | rfl | (simp only [List.length_map];omega) | (simp only [List.length_map,List.length_set,List.length_append,List.length_take,List.length_replicate,List.length_cons,List.length_nil];omega)))),rfl⟩ (b2 (b2 (b2 (bc ⟨(congrArg (T.int .i64) (show (((i:Nat):Int) - ((m:Nat):Int) - 1)=((i:Nat):Int) - (((m+1):Nat):Int) from (by first | rfl | omega | (simp;done) | (push_cast;omega)))),rfl⟩ bn)))))
    ·exact (bc ⟨(congrArg (fun l_=>some (Obj.rows 1 (List.map (Qw true) l_))) he4),(lb Y),rfl⟩ bn)
    ·exact nd Y
   refine VRun.exit (vthn.e (vthn.e (vinB.e (vinB.n (tn (VRun.region (mO (tN i) Y (fO (Qx (tv (tN i) Y) (VEv.int .i64 1) (by omega)) (aO (tN (i+1)) Y (VRunO.nil (tn ?_)))))))))))
   have he5:Zy a i (i - m)=QI (a.take (i+1))++a.drop (i+1):=by first | rfl | (exact Qdv a) | (refine Qe4 hil ?_ hx1 hx2 fhc1 hJ2;omega) | (refine QfE hil ?_ hJ2;omega) | (simp;done) | omega
   refine ⟨(i+1:Nat),?_,?_,Wk.mk (fun k=>k) ?_ ?_ ?_⟩
   ·exact ⟨by omega,by omega⟩
   ·first | omega | (simp only [];omega) | (show _<_;omega) | (simp;omega)
   ·exact (bc ⟨(congrArg (fun l_=>T.os 1 0 0 (List.map (Qw true) l_).length) he5),rfl⟩ (b2 (b2 (b2 bn))))
   ·exact (bc ⟨(congrArg (fun l_=>some (Obj.rows 1 (List.map (Qw true) l_))) he5),(lb Y),rfl⟩ bn)
   ·exact nd Y
  refine oD Y Y (dz fhg19_3) Y (oD Y Y (dz fhg19_3) Y (oD Y Y (dz fhg19_3) Y (oD Y Y (dz fhg19_3) Y (oD Y Y (dz fhg19_3) Y (oD Y Y (dz fhg19_3) Y (oD Y Y (dz fhg19_3) Y (oD Y Y (dz fhg19_3) Y (oD Y Y (dz fhg19_3) Y (oD Y Y (dz fhg19_3) Y (fD (OF.pickF (VEv.tmpB Y (dz fhg19_3)) (VEv.bool false)) Y Y (VRunD.nil ?_)))))))))))
  refine tn (cf Y (VRun.exit (vthn.e (vthn.e (vinB.e (vinB.n (tn (VRun.region (mO (tN i) Y (fO (Qx (tv (tN i) Y) (VEv.int .i64 1) (by omega)) (aO (tN (i+1)) Y ?_)))))))))))
  refine VRunO.nil (tn ?_)
  have he6:Zy a i (i - m)=QI (a.take (i+1))++a.drop (i+1):=by first | rfl | (exact Qdv a) | (refine Qe4 hil ?_ hx1 hx2 fhc1 hJ2;omega) | (refine QfE hil ?_ hJ2;omega) | (simp;done) | omega
  refine ⟨(i+1:Nat),?_,?_,Wk.mk (fun k=>k) ?_ ?_ ?_⟩
  ·exact ⟨by omega,by omega⟩
  ·first | omega | (simp only [];omega) | (show _<_;omega) | (simp;omega)
  ·exact (bc ⟨(congrArg (fun l_=>T.os 1 0 0 (List.map (Qw true) l_).length) he6),rfl⟩ (b2 (b2 (b2 bn))))
  ·exact (bc ⟨(congrArg (fun l_=>some (Obj.rows 1 (List.map (Qw true) l_))) he6),(lb Y),rfl⟩ bn)
  ·exact nd Y
 refine VRun.exit (vthn.e (vthn.e (vinB.e ?_)))
 refine vmut.v (rows:=((QI (a.take i)++a.drop i).map (Qw true))) Y Y ?_ Y
 ·show List.map _ (QI (a.take i)++a.drop i)=List.map _ (QI a)
  refine congrArg (List.map _) ?_
  (rw [List.take_of_length_le (by omega),List.drop_eq_nil_of_le (by omega),List.append_nil])
theorem Jx (n:Nat) (a:List Int) (p:Int) (q:Int) (lm:Int) (hp:p=0) (hq:q=((a.length:Nat):Int)) (ha:a.length≤12):Mut (Qq Tryz.prog (n+4)) 178 1 (a.map (Qw true)) [(tI p),(tI q),(tI lm)] none ((QI a).map (Qw true)):=by
 refine Mut.intro (rt:=0) Tryz.func178 Y Y Y (by kernel_rfl) (ZF (fun _=>rfl) _) (ZF (fun _=>rfl) _) (E0:= [(1,(tI p)),(2,(tI q)),(3,(tI lm))]) Y ?_
 obtain ⟨hlim,hmx,hmax⟩:=QC
 refine sr (fO (OF.assign (VEv.bool true)) (nt (sr (fO (OF.assign (VEv.bool true)) (nt (VRun.block ?_))))))
 refine VRun.loop (A:=Nat) (fun s_=> [(0,(T.os 1 0 0 ((a.map (Qw true)).length))),(1,(tI p)),(2,(tI q)),(3,(tI lm)),(8,(tB true)),(9,(tB true))]) (fun s_=>QU [(0,(Obj.rows 1 (a.map (Qw true))))]) 1 (fun s_=>s_=0) (fun s_=>0) (0:Nat) ?_ (Wk.mk (fun k=>k) ?_ ?_ ?_) ?_
 ·first | trivial | (simp;done) | omega | (constructor<;>simp)
 ·exact (b2 (b2 (b2 (b2 (b2 (b2 bn))))))
 ·exact (b3 bn)
 ·exact nd Y
 rintro i (hI':i=0)
 show VRun _ _ _ [(0,(T.os 1 0 0 ((a.map (Qw true)).length))),(1,(tI p)),(2,(tI q)),(3,(tI lm)),(8,(tB true)),(9,(tB true))] (QU [(0,(Obj.rows 1 (a.map (Qw true))))]) 1 _
 refine VRun.block (sr (mO (tI q) Y (mO (tI p) Y (fO (B.sub (n:=(q - p)) (tv (tI q) Y) (tv (tI p) Y) (by first | rfl | (rw [Qs (by omega)];omega) | (rw [Qs (by omega)];done))) (aO (tI (q - p)) Y (nt (sq (sr (mO (tI (q - p)) Y (fO (xle (tv (tI (q - p)) Y) (VEv.int .i64 12)) (nt ?_)))))))))))
 refine cd ((q - p)≤12) Y (fun fhc0=> ?_) fun fhc0=> ?_
 ·refine sr ?_
  refine mO (T.os 1 0 0 ((a.map (Qw true)).length)) Y (mO (tI p) Y (mO (tI q) Y (cO (OC.callMut (rows:=(a.map (Qw true))) (rows':=((QI a).map (Qw true))) Y (vc (tv (T.os 1 0 0 ((a.map (Qw true)).length)) Y) (vc (tv (tI p) Y) (vc (tv (tI q) Y) vn))) Y Y (bc Y (bc Y bn)) (ZF (fun _=>rfl) _) (ZF (fun _=>rfl) _) (YI (n+0) a p q (by first | assumption | omega) (by first | assumption | omega) (by first | assumption | omega))) (nt (rt (tr (vinB.r (tr (vinB.r ?_)))))))))
  refine vmut.q (rows:=((QI a).map (Qw true))) Y Y ?_ (by (simp only [List.length_map,YN]))
  ·show List.map _ (QI a)=List.map _ (QI a)
   refine congrArg (List.map _) ?_
   rfl
 omega
noncomputable section
def Qfs (x:Int):Int:=if x=0 then 0 else if x=1 then 1 else if x<4 then 2 else if x<8 then 3 else 4
theorem QnH {x:Int} (h:0≤x∧x≤12):x=0∨x=1∨x=2∨x=3∨x=4∨x=5∨x=6∨x=7∨x=8∨x=9∨x=10∨x=11∨x=12:=by omega
def l8t : ByteArray:=(⟨#[0,1,2,2,3,3,3,3,4,4,4,4,4,4,4,4,5,5,5,5,5,5,5,5,5,5,5,5,5,5,5,5,6,6,6,6,6,6,6,6,6,6,6,6,6,6,6,6,6,6,6,6,6,6,6,6,6,6,6,6,6,6,6,6,7,7,7,7,7,7,7,7,7,7,7,7,7,7,7,7,7,7,7,7,7,7,7,7,7,7,7,7,7,7,7,7,7,7,7,7,7,7,7,7,7,7,7,7,7,7,7,7,7,7,7,7,7,7,7,7,7,7,7,7,7,7,7,7,8,8,8,8,8,8,8,8,8,8,8,8,8,8,8,8,8,8,8,8,8,8,8,8,8,8,8,8,8,8,8,8,8,8,8,8,8,8,8,8,8,8,8,8,8,8,8,8,8,8,8,8,8,8,8,8,8,8,8,8,8,8,8,8,8,8,8,8,8,8,8,8,8,8,8,8,8,8,8,8,8,8,8,8,8,8,8,8,8,8,8,8,8,8,8,8,8,8,8,8,8,8,8,8,8,8,8,8,8,8,8,8,8,8,8,8,8,8,8,8,8,8,8,8,8,8,8,8]⟩:ByteArray)
theorem Qou : l8t.size=256:=rfl
theorem Qn9 {x:Int} (h:0≤x∧x≤12):IntKind.u8.wrap x=x:=by
 rcases QnH h with rfl | rfl | rfl | rfl | rfl | rfl | rfl | rfl | rfl | rfl | rfl | rfl | rfl<;>rfl
theorem QkQ {x:Int} (h:0≤x∧x≤12):IntKind.u64.wrap x=x:=by
 rcases QnH h with rfl | rfl | rfl | rfl | rfl | rfl | rfl | rfl | rfl | rfl | rfl | rfl | rfl<;>rfl
theorem QoZ {x:Int} (h:0≤x∧x≤12):QD l8t (Int.toNat (IntKind.u8.wrap x))=Qfs x:=by
 rw [Qn9 h]
 rcases QnH h with rfl | rfl | rfl | rfl | rfl | rfl | rfl | rfl | rfl | rfl | rfl | rfl | rfl<;>rfl
theorem Qla (x:Int):0≤Qfs x∧Qfs x≤4:=by
 unfold Qfs
 repeat (first | omega | split)
theorem QoC {x:Int} (h:0≤x∧x≤12):IntKind.i64.wrap (QD l8t (Int.toNat (IntKind.u8.wrap x)))=Qfs x:=by
 have:=Qla x
 rw [QoZ h,Qs (by omega)]
end
theorem Qc7 (n:Nat) (x:Int) (hx:0≤x∧x≤12):Pure (Qq Tryz.prog (n+1)) 190 [(T.int .u64 x)] (tI (Qfs x)):=by
 refine Pure.intro (rs:= [ResultVar.tmp 2]) Tryz.func190 Y Y Y (E0:= [(0,(T.int .u64 x))]) Y ?_
 obtain ⟨hlim,hmx,hmax⟩:=QC
 have e256:(⟨#[0,1,2,2,3,3,3,3,4,4,4,4,4,4,4,4,5,5,5,5,5,5,5,5,5,5,5,5,5,5,5,5,6,6,6,6,6,6,6,6,6,6,6,6,6,6,6,6,6,6,6,6,6,6,6,6,6,6,6,6,6,6,6,6,7,7,7,7,7,7,7,7,7,7,7,7,7,7,7,7,7,7,7,7,7,7,7,7,7,7,7,7,7,7,7,7,7,7,7,7,7,7,7,7,7,7,7,7,7,7,7,7,7,7,7,7,7,7,7,7,7,7,7,7,7,7,7,7,8,8,8,8,8,8,8,8,8,8,8,8,8,8,8,8,8,8,8,8,8,8,8,8,8,8,8,8,8,8,8,8,8,8,8,8,8,8,8,8,8,8,8,8,8,8,8,8,8,8,8,8,8,8,8,8,8,8,8,8,8,8,8,8,8,8,8,8,8,8,8,8,8,8,8,8,8,8,8,8,8,8,8,8,8,8,8,8,8,8,8,8,8,8,8,8,8,8,8,8,8,8,8,8,8,8,8,8,8,8,8,8,8,8,8,8,8,8,8,8,8,8,8,8,8,8,8,8]⟩:ByteArray).size=256:=Qou
 have hwx:=Qn9 hx
 have hux:=QkQ hx
 have hv:IntKind.i64.wrap (QD (⟨#[0,1,2,2,3,3,3,3,4,4,4,4,4,4,4,4,5,5,5,5,5,5,5,5,5,5,5,5,5,5,5,5,6,6,6,6,6,6,6,6,6,6,6,6,6,6,6,6,6,6,6,6,6,6,6,6,6,6,6,6,6,6,6,6,7,7,7,7,7,7,7,7,7,7,7,7,7,7,7,7,7,7,7,7,7,7,7,7,7,7,7,7,7,7,7,7,7,7,7,7,7,7,7,7,7,7,7,7,7,7,7,7,7,7,7,7,7,7,7,7,7,7,7,7,7,7,7,7,8,8,8,8,8,8,8,8,8,8,8,8,8,8,8,8,8,8,8,8,8,8,8,8,8,8,8,8,8,8,8,8,8,8,8,8,8,8,8,8,8,8,8,8,8,8,8,8,8,8,8,8,8,8,8,8,8,8,8,8,8,8,8,8,8,8,8,8,8,8,8,8,8,8,8,8,8,8,8,8,8,8,8,8,8,8,8,8,8,8,8,8,8,8,8,8,8,8,8,8,8,8,8,8,8,8,8,8,8,8,8,8,8,8,8,8,8,8,8,8,8,8,8,8,8,8,8,8]⟩:ByteArray) (Int.toNat (IntKind.u8.wrap x)))=Qfs x:=QoC hx
 have hvb:=Qla x
 refine sr (fO (OF.assign (VEv.int .i64 0)) (nt (sq (sr (mO (T.int .u64 x) Y (fO (xge (tv (T.int .u64 x) Y) (VEv.int .u64 4294967296)) (nt ?_)))))))
 refine cd (4294967296≤x) Y (fun fhc0=> ?_) fun fhc0=> ?_
 ·omega
 refine sk (tn (sq (sr (mO (T.int .u64 x) Y (fO (xge (tv (T.int .u64 x) Y) (VEv.int .u64 65536)) (nt ?_))))))
 refine cd (65536≤x) Y (fun fhc1=> ?_) fun fhc1=> ?_
 ·omega
 refine sk (tn (sq (sr (mO (T.int .u64 x) Y (fO (xge (tv (T.int .u64 x) Y) (VEv.int .u64 256)) (nt ?_))))))
 refine cd (256≤x) Y (fun fhc2=> ?_) fun fhc2=> ?_
 ·omega
 refine sk (tn (sr (mO (tN 0) Y (mO (T.int .u64 x) Y (fO (OF.convI (tv (T.int .u64 x) Y) (k0:= .u64) QoY U5) ?_)))))
 have hb1:(Int.toNat (IntKind.u8.wrap x))<(⟨#[0,1,2,2,3,3,3,3,4,4,4,4,4,4,4,4,5,5,5,5,5,5,5,5,5,5,5,5,5,5,5,5,6,6,6,6,6,6,6,6,6,6,6,6,6,6,6,6,6,6,6,6,6,6,6,6,6,6,6,6,6,6,6,6,7,7,7,7,7,7,7,7,7,7,7,7,7,7,7,7,7,7,7,7,7,7,7,7,7,7,7,7,7,7,7,7,7,7,7,7,7,7,7,7,7,7,7,7,7,7,7,7,7,7,7,7,7,7,7,7,7,7,7,7,7,7,7,7,8,8,8,8,8,8,8,8,8,8,8,8,8,8,8,8,8,8,8,8,8,8,8,8,8,8,8,8,8,8,8,8,8,8,8,8,8,8,8,8,8,8,8,8,8,8,8,8,8,8,8,8,8,8,8,8,8,8,8,8,8,8,8,8,8,8,8,8,8,8,8,8,8,8,8,8,8,8,8,8,8,8,8,8,8,8,8,8,8,8,8,8,8,8,8,8,8,8,8,8,8,8,8,8,8,8,8,8,8,8,8,8,8,8,8,8,8,8,8,8,8,8,8,8,8,8,8,8]⟩:ByteArray).size:=(by omega)
 refine fO (B.index (n:=(QD (⟨#[0,1,2,2,3,3,3,3,4,4,4,4,4,4,4,4,5,5,5,5,5,5,5,5,5,5,5,5,5,5,5,5,6,6,6,6,6,6,6,6,6,6,6,6,6,6,6,6,6,6,6,6,6,6,6,6,6,6,6,6,6,6,6,6,7,7,7,7,7,7,7,7,7,7,7,7,7,7,7,7,7,7,7,7,7,7,7,7,7,7,7,7,7,7,7,7,7,7,7,7,7,7,7,7,7,7,7,7,7,7,7,7,7,7,7,7,7,7,7,7,7,7,7,7,7,7,7,7,8,8,8,8,8,8,8,8,8,8,8,8,8,8,8,8,8,8,8,8,8,8,8,8,8,8,8,8,8,8,8,8,8,8,8,8,8,8,8,8,8,8,8,8,8,8,8,8,8,8,8,8,8,8,8,8,8,8,8,8,8,8,8,8,8,8,8,8,8,8,8,8,8,8,8,8,8,8,8,8,8,8,8,8,8,8,8,8,8,8,8,8,8,8,8,8,8,8,8,8,8,8,8,8,8,8,8,8,8,8,8,8,8,8,8,8,8,8,8,8,8,8,8,8,8,8,8,8]⟩:ByteArray) (Int.toNat (IntKind.u8.wrap x)))) (i:=(Int.toNat (IntKind.u8.wrap x))) (VEv.str (⟨#[0,1,2,2,3,3,3,3,4,4,4,4,4,4,4,4,5,5,5,5,5,5,5,5,5,5,5,5,5,5,5,5,6,6,6,6,6,6,6,6,6,6,6,6,6,6,6,6,6,6,6,6,6,6,6,6,6,6,6,6,6,6,6,6,7,7,7,7,7,7,7,7,7,7,7,7,7,7,7,7,7,7,7,7,7,7,7,7,7,7,7,7,7,7,7,7,7,7,7,7,7,7,7,7,7,7,7,7,7,7,7,7,7,7,7,7,7,7,7,7,7,7,7,7,7,7,7,7,8,8,8,8,8,8,8,8,8,8,8,8,8,8,8,8,8,8,8,8,8,8,8,8,8,8,8,8,8,8,8,8,8,8,8,8,8,8,8,8,8,8,8,8,8,8,8,8,8,8,8,8,8,8,8,8,8,8,8,8,8,8,8,8,8,8,8,8,8,8,8,8,8,8,8,8,8,8,8,8,8,8,8,8,8,8,8,8,8,8,8,8,8,8,8,8,8,8,8,8,8,8,8,8,8,8,8,8,8,8,8,8,8,8,8,8,8,8,8,8,8,8,8,8,8,8,8,8]⟩:ByteArray)) (tv (T.int .u8 (IntKind.u8.wrap x)) Y) (by omega) hb1 U9 (Jm hb1)) (fO (OF.convI (tv (T.int .u8 (QD (⟨#[0,1,2,2,3,3,3,3,4,4,4,4,4,4,4,4,5,5,5,5,5,5,5,5,5,5,5,5,5,5,5,5,6,6,6,6,6,6,6,6,6,6,6,6,6,6,6,6,6,6,6,6,6,6,6,6,6,6,6,6,6,6,6,6,7,7,7,7,7,7,7,7,7,7,7,7,7,7,7,7,7,7,7,7,7,7,7,7,7,7,7,7,7,7,7,7,7,7,7,7,7,7,7,7,7,7,7,7,7,7,7,7,7,7,7,7,7,7,7,7,7,7,7,7,7,7,7,7,8,8,8,8,8,8,8,8,8,8,8,8,8,8,8,8,8,8,8,8,8,8,8,8,8,8,8,8,8,8,8,8,8,8,8,8,8,8,8,8,8,8,8,8,8,8,8,8,8,8,8,8,8,8,8,8,8,8,8,8,8,8,8,8,8,8,8,8,8,8,8,8,8,8,8,8,8,8,8,8,8,8,8,8,8,8,8,8,8,8,8,8,8,8,8,8,8,8,8,8,8,8,8,8,8,8,8,8,8,8,8,8,8,8,8,8,8,8,8,8,8,8,8,8,8,8,8,8]⟩:ByteArray) (Int.toNat (IntKind.u8.wrap x)))) Y) (k0:= .u8) U5 U3) (fO (B.add (n:=(0+IntKind.i64.wrap (QD (⟨#[0,1,2,2,3,3,3,3,4,4,4,4,4,4,4,4,5,5,5,5,5,5,5,5,5,5,5,5,5,5,5,5,6,6,6,6,6,6,6,6,6,6,6,6,6,6,6,6,6,6,6,6,6,6,6,6,6,6,6,6,6,6,6,6,7,7,7,7,7,7,7,7,7,7,7,7,7,7,7,7,7,7,7,7,7,7,7,7,7,7,7,7,7,7,7,7,7,7,7,7,7,7,7,7,7,7,7,7,7,7,7,7,7,7,7,7,7,7,7,7,7,7,7,7,7,7,7,7,8,8,8,8,8,8,8,8,8,8,8,8,8,8,8,8,8,8,8,8,8,8,8,8,8,8,8,8,8,8,8,8,8,8,8,8,8,8,8,8,8,8,8,8,8,8,8,8,8,8,8,8,8,8,8,8,8,8,8,8,8,8,8,8,8,8,8,8,8,8,8,8,8,8,8,8,8,8,8,8,8,8,8,8,8,8,8,8,8,8,8,8,8,8,8,8,8,8,8,8,8,8,8,8,8,8,8,8,8,8,8,8,8,8,8,8,8,8,8,8,8,8,8,8,8,8,8,8]⟩:ByteArray) (Int.toNat (IntKind.u8.wrap x))))) (tv (tN 0) Y) (tv (tI (IntKind.i64.wrap (QD (⟨#[0,1,2,2,3,3,3,3,4,4,4,4,4,4,4,4,5,5,5,5,5,5,5,5,5,5,5,5,5,5,5,5,6,6,6,6,6,6,6,6,6,6,6,6,6,6,6,6,6,6,6,6,6,6,6,6,6,6,6,6,6,6,6,6,7,7,7,7,7,7,7,7,7,7,7,7,7,7,7,7,7,7,7,7,7,7,7,7,7,7,7,7,7,7,7,7,7,7,7,7,7,7,7,7,7,7,7,7,7,7,7,7,7,7,7,7,7,7,7,7,7,7,7,7,7,7,7,7,8,8,8,8,8,8,8,8,8,8,8,8,8,8,8,8,8,8,8,8,8,8,8,8,8,8,8,8,8,8,8,8,8,8,8,8,8,8,8,8,8,8,8,8,8,8,8,8,8,8,8,8,8,8,8,8,8,8,8,8,8,8,8,8,8,8,8,8,8,8,8,8,8,8,8,8,8,8,8,8,8,8,8,8,8,8,8,8,8,8,8,8,8,8,8,8,8,8,8,8,8,8,8,8,8,8,8,8,8,8,8,8,8,8,8,8,8,8,8,8,8,8,8,8,8,8,8,8]⟩:ByteArray) (Int.toNat (IntKind.u8.wrap x))))) Y) (by first | rfl | (rw [Qs (by omega)];omega) | (rw [Qs (by omega)];done))) ?_))
 refine aO (tI (0+IntKind.i64.wrap (QD (⟨#[0,1,2,2,3,3,3,3,4,4,4,4,4,4,4,4,5,5,5,5,5,5,5,5,5,5,5,5,5,5,5,5,6,6,6,6,6,6,6,6,6,6,6,6,6,6,6,6,6,6,6,6,6,6,6,6,6,6,6,6,6,6,6,6,7,7,7,7,7,7,7,7,7,7,7,7,7,7,7,7,7,7,7,7,7,7,7,7,7,7,7,7,7,7,7,7,7,7,7,7,7,7,7,7,7,7,7,7,7,7,7,7,7,7,7,7,7,7,7,7,7,7,7,7,7,7,7,7,8,8,8,8,8,8,8,8,8,8,8,8,8,8,8,8,8,8,8,8,8,8,8,8,8,8,8,8,8,8,8,8,8,8,8,8,8,8,8,8,8,8,8,8,8,8,8,8,8,8,8,8,8,8,8,8,8,8,8,8,8,8,8,8,8,8,8,8,8,8,8,8,8,8,8,8,8,8,8,8,8,8,8,8,8,8,8,8,8,8,8,8,8,8,8,8,8,8,8,8,8,8,8,8,8,8,8,8,8,8,8,8,8,8,8,8,8,8,8,8,8,8,8,8,8,8,8,8]⟩:ByteArray) (Int.toNat (IntKind.u8.wrap x))))) Y (nt (rt (vi (n':=(0+IntKind.i64.wrap (QD (⟨#[0,1,2,2,3,3,3,3,4,4,4,4,4,4,4,4,5,5,5,5,5,5,5,5,5,5,5,5,5,5,5,5,6,6,6,6,6,6,6,6,6,6,6,6,6,6,6,6,6,6,6,6,6,6,6,6,6,6,6,6,6,6,6,6,7,7,7,7,7,7,7,7,7,7,7,7,7,7,7,7,7,7,7,7,7,7,7,7,7,7,7,7,7,7,7,7,7,7,7,7,7,7,7,7,7,7,7,7,7,7,7,7,7,7,7,7,7,7,7,7,7,7,7,7,7,7,7,7,8,8,8,8,8,8,8,8,8,8,8,8,8,8,8,8,8,8,8,8,8,8,8,8,8,8,8,8,8,8,8,8,8,8,8,8,8,8,8,8,8,8,8,8,8,8,8,8,8,8,8,8,8,8,8,8,8,8,8,8,8,8,8,8,8,8,8,8,8,8,8,8,8,8,8,8,8,8,8,8,8,8,8,8,8,8,8,8,8,8,8,8,8,8,8,8,8,8,8,8,8,8,8,8,8,8,8,8,8,8,8,8,8,8,8,8,8,8,8,8,8,8,8,8,8,8,8,8]⟩:ByteArray) (Int.toNat (IntKind.u8.wrap x))))) Y ?_)))
 omega
theorem Qej (n:Nat) (x:Int) (hx:0≤x∧x≤12):Pure (Qq Tryz.prog (n+2)) 179 [(T.int .u64 x)] (tI (Qfs x)):=by
 refine Pure.intro (rs:= [ResultVar.tmp 2]) Tryz.func179 Y Y Y (E0:= [(0,(T.int .u64 x))]) Y ?_
 obtain ⟨hlim,hmx,hmax⟩:=QC
 have hux:=QkQ hx
 refine sr (fO (OF.assign (VEv.int .i64 0)) (nt (sq ?_)))
 refine VRun.cond (VEv.bool false) (fun hk1=> ?_) (fun hk1=> ?_)
 ·exact absurd (rfl.symm.trans hk1) (by decide)
 ·skip
  refine sk (tn (sr (mO (T.int .u64 x) Y (cO (cS (vc (tv (T.int .u64 x) Y) vn) (Q8 Y) (Qc7 (n+0) x (by first | assumption | omega)) Y Y) (aO (tI (Qfs x)) Y (nt (rt ?_)))))))
  exact vi Y Y
theorem Qaj (n:Nat) (a:List Int) (ha:a.length≤12):Mut (Qq Tryz.prog (n+5)) 176 1 (a.map (Qw true)) [] none ((QI a).map (Qw true)):=by
 refine Mut.intro (rt:=0) Tryz.func176 Y Y Y (by kernel_rfl) (ZF (fun _=>rfl) _) (ZF (fun _=>rfl) _) (E0:= []) Y ?_
 obtain ⟨hlim,hmx,hmax⟩:=QC
 have hux:=QkQ (x:=((a.length:Nat):Int)) (by omega)
 refine sr (mO (T.os 1 0 0 ((a.map (Qw true)).length)) Y (lO (B.lenO (m:=a.length) (tv (T.os 1 0 0 ((a.map (Qw true)).length)) Y) Qb4 (List.length_map ..)) (aO (tN a.length) Y (nt (VRun.region (mO (T.os 1 0 0 ((a.map (Qw true)).length)) Y (mO (tN a.length) Y (mO (tN a.length) Y (fO (OF.convI (tv (tN a.length) Y) (k0:= .i64) U3 Qo0) (cO (cS (vc (tv (T.int .u64 (IntKind.u64.wrap ((a.length:Nat):Int))) Y) vn) (Q8 Y) (Qej (n+2) (IntKind.u64.wrap ((a.length:Nat):Int)) (by first | assumption | omega)) Y Y) (cO (OC.callMut (rows:=(a.map (Qw true))) (rows':=((QI a).map (Qw true))) Y (vc (tv (T.os 1 0 0 ((a.map (Qw true)).length)) Y) (vc (VEv.int .i64 0) (vc (tv (tN a.length) Y) (vc (tv (tI (Qfs (IntKind.u64.wrap ((a.length:Nat):Int)))) Y) vn)))) Y Y (bc Y (bc Y (bc Y bn))) (ZF (fun _=>rfl) _) (ZF (fun _=>rfl) _) (Jx (n+0) a 0 ((a.length:Nat):Int) (Qfs (IntKind.u64.wrap ((a.length:Nat):Int))) (by first | assumption | omega) (by first | assumption | omega) (by first | assumption | omega))) ?_)))))))))))
 refine VRunO.nil ?_
 refine vmut.v (rows:=((QI a).map (Qw true))) Y Y ?_ (by (simp only [List.length_map,YN]))
 ·show List.map _ (QI a)=List.map _ (QI a)
  refine congrArg (List.map _) ?_
  rfl
noncomputable section
def hdS (w:ByteArray):ByteArray:=if Ql w then w.extract 0 1 else ⟨#[]⟩
def nhS (w:ByteArray):ByteArray:=if Ql w then w.extract 1 w.size else ⟨#[]⟩
def ntS (w:ByteArray):ByteArray:=if Ql w then w.extract 0 (w.size - 1) else ⟨#[]⟩
def QdV (p w:ByteArray):Prop:=(Ql p∧Ql w)∧∃i,1≤i∧i+p.size<w.size∧w.extract i (i+p.size)=p
instance (p w:ByteArray):Decidable (QdV p w):=Classical.propDecidable _
def Qif (p w:ByteArray) (i:Nat):Prop:=∀k,1≤k→k<i→¬w.extract k (k+p.size)=p
theorem QkM (p w:ByteArray):Qif p w 1:=fun k h1 h2=>by omega
theorem QgH {p w:ByteArray} {i:Nat} (h:Qif p w i) (hn:¬w.extract i (i+p.size)=p):Qif p w (i+1):=fun k h1 h2=>by
 rcases Nat.lt_or_ge k i with h3 | h3
 ·exact h k h1 h3
 ·rw [show k=i by omega];exact hn
theorem Qah {p w:ByteArray} (h:¬Ql p):false=decide (QdV p w):=(decide_eq_false (fun x=>h x.1.1)).symm
theorem Qac {p w:ByteArray} (h:¬Ql w):false=decide (QdV p w):=(decide_eq_false (fun x=>h x.1.2)).symm
theorem QbE {p w:ByteArray} {i:Nat} (h1:Ql p) (h2:Ql w) (h3:1≤i) (h4:i+p.size<w.size) (h5:w.extract i (i+p.size)=p):true=decide (QdV p w):=(decide_eq_true ⟨⟨h1,h2⟩,i,h3,h4,h5⟩).symm
theorem Qbx {p w:ByteArray} {i:Nat} (h:Qif p w i) (hi:¬i+p.size<w.size):false=decide (QdV p w):=(decide_eq_false (fun ⟨_,k,h1,h2,h3⟩=>h k h1 (by omega) h3)).symm
end
theorem Qf8 (n:Nat) (w:ByteArray) (hw:w.size≤maxLen):Pure (Qq Tryz.prog (n+3)) 154 [(tS w)] (tS (hdS w)):=by
 refine Pure.intro (rs:= [ResultVar.tmp 2]) Tryz.func154 Y Y Y (E0:= [(0,(tS w))]) Y ?_
 obtain ⟨hlim,hmx,hmax⟩:=QC
 refine sr (fO (OF.assign (VEv.str (⟨#[]⟩:ByteArray))) (nt (sq (sr (mO (tS w) Y (cO (cS (vc (tv (tS w) Y) vn) (Q8 Y) (Q9 (n+0) w (by first | assumption | omega)) Y Y) (fO (QW (tv (tB (decide (Ql w))) Y)) (nt ?_))))))))
 refine cn (Ql w) Y (fun fhc0=> ?_) fun fhc0=> ?_
 ·refine sr ?_
  refine fO (OF.assign (VEv.str (⟨#[]⟩:ByteArray))) (nt (rt (tr ?_)))
  refine vfin.eq (r':=(tS (⟨#[]⟩:ByteArray))) ?_ (vfin.r (VRes.tmp (t:=(tS (⟨#[]⟩:ByteArray))) Y VRes.nil) (Give.str _))
  refine congrArg T.str ?_
  exact (if_neg fhc0).symm
 have hw1:=fhc0.1
 refine sk (tn (sr (mO (tS w) Y (lO (OL.sliceSHi (j:=1) (tv (tS w) Y) (VEv.int .i64 1) Y (by first | omega | (simp only [List.length_map];omega) | (simp only [List.length_map,List.length_append,List.length_cons,List.length_nil,List.length_replicate,List.length_set,List.length_drop,List.length_take,Zk] at *;omega)) U9) (aO (tS (w.extract 0 1)) Y (nt (rt ?_)))))))
 refine vfin.eq (r':=(tS (w.extract 0 1))) ?_ (vfin.r (VRes.tmp (t:=(tS (w.extract 0 1))) Y VRes.nil) (Give.str _))
 refine congrArg T.str ?_
 exact (if_pos fhc0).symm
theorem Qgi (n:Nat) (w:ByteArray) (hw:w.size≤maxLen):Pure (Qq Tryz.prog (n+3)) 162 [(tS w)] (tS (hdS w)):=by
 refine Pure.intro (rs:= [ResultVar.tmp 2]) Tryz.func162 Y Y Y (E0:= [(0,(tS w))]) Y ?_
 obtain ⟨hlim,hmx,hmax⟩:=QC
 refine sr (fO (OF.assign (VEv.str (⟨#[]⟩:ByteArray))) (nt (sq (sr (mO (tS w) Y (cO (cS (vc (tv (tS w) Y) vn) (Q8 Y) (Za (n+0) w (by first | assumption | omega)) Y Y) (fO (QW (tv (tB (decide (Ql w))) Y)) (nt ?_))))))))
 refine cn (Ql w) Y (fun fhc0=> ?_) fun fhc0=> ?_
 ·refine sr ?_
  refine fO (OF.assign (VEv.str (⟨#[]⟩:ByteArray))) (nt (rt (tr ?_)))
  refine vfin.eq (r':=(tS (⟨#[]⟩:ByteArray))) ?_ (vfin.r (VRes.tmp (t:=(tS (⟨#[]⟩:ByteArray))) Y VRes.nil) (Give.str _))
  refine congrArg T.str ?_
  exact (if_neg fhc0).symm
 have hw1:=fhc0.1
 refine sk (tn (sr (mO (tS w) Y (lO (OL.sliceSHi (j:=1) (tv (tS w) Y) (VEv.int .i64 1) Y (by first | omega | (simp only [List.length_map];omega) | (simp only [List.length_map,List.length_append,List.length_cons,List.length_nil,List.length_replicate,List.length_set,List.length_drop,List.length_take,Zk] at *;omega)) U9) (aO (tS (w.extract 0 1)) Y (nt (rt ?_)))))))
 refine vfin.eq (r':=(tS (w.extract 0 1))) ?_ (vfin.r (VRes.tmp (t:=(tS (w.extract 0 1))) Y VRes.nil) (Give.str _))
 refine congrArg T.str ?_
 exact (if_pos fhc0).symm
theorem QcF (n:Nat) (w:ByteArray) (hw:w.size≤maxLen):Pure (Qq Tryz.prog (n+3)) 155 [(tS w)] (tS (nhS w)):=by
 refine Pure.intro (rs:= [ResultVar.tmp 2]) Tryz.func155 Y Y Y (E0:= [(0,(tS w))]) Y ?_
 obtain ⟨hlim,hmx,hmax⟩:=QC
 refine sr (fO (OF.assign (VEv.str (⟨#[]⟩:ByteArray))) (nt (sq (sr (mO (tS w) Y (cO (cS (vc (tv (tS w) Y) vn) (Q8 Y) (Q9 (n+0) w (by first | assumption | omega)) Y Y) (fO (QW (tv (tB (decide (Ql w))) Y)) (nt ?_))))))))
 refine cn (Ql w) Y (fun fhc0=> ?_) fun fhc0=> ?_
 ·refine sr ?_
  refine fO (OF.assign (VEv.str (⟨#[]⟩:ByteArray))) (nt (rt (tr ?_)))
  refine vfin.eq (r':=(tS (⟨#[]⟩:ByteArray))) ?_ (vfin.r (VRes.tmp (t:=(tS (⟨#[]⟩:ByteArray))) Y VRes.nil) (Give.str _))
  refine congrArg T.str ?_
  exact (if_neg fhc0).symm
 have hw1:=fhc0.1
 refine sk (tn (sr (mO (tS w) Y (lO (OL.sliceSLo (i:=1) (tv (tS w) Y) (VEv.int .i64 1) Y (by first | omega | (simp only [List.length_map];omega) | (simp only [List.length_map,List.length_append,List.length_cons,List.length_nil,List.length_replicate,List.length_set,List.length_drop,List.length_take,Zk] at *;omega)) U9) (aO (tS (w.extract 1 w.size)) Y (nt (rt ?_)))))))
 refine vfin.eq (r':=(tS (w.extract 1 w.size))) ?_ (vfin.r (VRes.tmp (t:=(tS (w.extract 1 w.size))) Y VRes.nil) (Give.str _))
 refine congrArg T.str ?_
 exact (if_pos fhc0).symm
theorem QcD (n:Nat) (w:ByteArray) (hw:w.size≤maxLen):Pure (Qq Tryz.prog (n+3)) 163 [(tS w)] (tS (nhS w)):=by
 refine Pure.intro (rs:= [ResultVar.tmp 2]) Tryz.func163 Y Y Y (E0:= [(0,(tS w))]) Y ?_
 obtain ⟨hlim,hmx,hmax⟩:=QC
 refine sr (fO (OF.assign (VEv.str (⟨#[]⟩:ByteArray))) (nt (sq (sr (mO (tS w) Y (cO (cS (vc (tv (tS w) Y) vn) (Q8 Y) (Za (n+0) w (by first | assumption | omega)) Y Y) (fO (QW (tv (tB (decide (Ql w))) Y)) (nt ?_))))))))
 refine cn (Ql w) Y (fun fhc0=> ?_) fun fhc0=> ?_
 ·refine sr ?_
  refine fO (OF.assign (VEv.str (⟨#[]⟩:ByteArray))) (nt (rt (tr ?_)))
  refine vfin.eq (r':=(tS (⟨#[]⟩:ByteArray))) ?_ (vfin.r (VRes.tmp (t:=(tS (⟨#[]⟩:ByteArray))) Y VRes.nil) (Give.str _))
  refine congrArg T.str ?_
  exact (if_neg fhc0).symm
 have hw1:=fhc0.1
 refine sk (tn (sr (mO (tS w) Y (lO (OL.sliceSLo (i:=1) (tv (tS w) Y) (VEv.int .i64 1) Y (by first | omega | (simp only [List.length_map];omega) | (simp only [List.length_map,List.length_append,List.length_cons,List.length_nil,List.length_replicate,List.length_set,List.length_drop,List.length_take,Zk] at *;omega)) U9) (aO (tS (w.extract 1 w.size)) Y (nt (rt ?_)))))))
 refine vfin.eq (r':=(tS (w.extract 1 w.size))) ?_ (vfin.r (VRes.tmp (t:=(tS (w.extract 1 w.size))) Y VRes.nil) (Give.str _))
 refine congrArg T.str ?_
 exact (if_pos fhc0).symm
theorem Qcr (n:Nat) (w:ByteArray) (hw:w.size≤maxLen):Pure (Qq Tryz.prog (n+3)) 156 [(tS w)] (tS (ntS w)):=by
 refine Pure.intro (rs:= [ResultVar.tmp 2]) Tryz.func156 Y Y Y (E0:= [(0,(tS w))]) Y ?_
 obtain ⟨hlim,hmx,hmax⟩:=QC
 refine sr (fO (OF.assign (VEv.str (⟨#[]⟩:ByteArray))) (nt (sq (sr (mO (tS w) Y (cO (cS (vc (tv (tS w) Y) vn) (Q8 Y) (Q9 (n+0) w (by first | assumption | omega)) Y Y) (fO (QW (tv (tB (decide (Ql w))) Y)) (nt ?_))))))))
 refine cn (Ql w) Y (fun fhc0=> ?_) fun fhc0=> ?_
 ·refine sr ?_
  refine fO (OF.assign (VEv.str (⟨#[]⟩:ByteArray))) (nt (rt (tr ?_)))
  refine vfin.eq (r':=(tS (⟨#[]⟩:ByteArray))) ?_ (vfin.r (VRes.tmp (t:=(tS (⟨#[]⟩:ByteArray))) Y VRes.nil) (Give.str _))
  refine congrArg T.str ?_
  exact (if_neg fhc0).symm
 have hw1:=fhc0.1
 refine sk (tn (sr (mO (tS w) Y (mO (tS w) Y (lO (B.lenS (tv (tS w) Y) U9) (fO (B.sub (n:=(((w.size:Nat):Int) - 1)) (tv (tN w.size) Y) (VEv.int .i64 1) (by first | rfl | (rw [Qs (by omega)];omega) | (rw [Qs (by omega)];done))) (lO (OL.sliceSHi (j:=(Int.toNat (((w.size:Nat):Int) - 1))) (tv (tS w) Y) (tv (tI (((w.size:Nat):Int) - 1)) Y) (by omega) (by first | omega | (simp only [List.length_map];omega) | (simp only [List.length_map,List.length_append,List.length_cons,List.length_nil,List.length_replicate,List.length_set,List.length_drop,List.length_take,Zk] at *;omega)) U9) (aO (tS (w.extract 0 (Int.toNat (((w.size:Nat):Int) - 1)))) Y (nt (rt ?_))))))))))
 refine vfin.eq (r':=(tS (w.extract 0 (Int.toNat (((w.size:Nat):Int) - 1))))) ?_ (vfin.r (VRes.tmp (t:=(tS (w.extract 0 (Int.toNat (((w.size:Nat):Int) - 1))))) Y VRes.nil) (Give.str _))
 refine congrArg T.str ?_
 rw [ntS,if_pos fhc0];first | rfl | (congr 1;omega)
theorem Qcv (n:Nat) (w:ByteArray) (hw:w.size≤maxLen):Pure (Qq Tryz.prog (n+3)) 164 [(tS w)] (tS (ntS w)):=by
 refine Pure.intro (rs:= [ResultVar.tmp 2]) Tryz.func164 Y Y Y (E0:= [(0,(tS w))]) Y ?_
 obtain ⟨hlim,hmx,hmax⟩:=QC
 refine sr (fO (OF.assign (VEv.str (⟨#[]⟩:ByteArray))) (nt (sq (sr (mO (tS w) Y (cO (cS (vc (tv (tS w) Y) vn) (Q8 Y) (Za (n+0) w (by first | assumption | omega)) Y Y) (fO (QW (tv (tB (decide (Ql w))) Y)) (nt ?_))))))))
 refine cn (Ql w) Y (fun fhc0=> ?_) fun fhc0=> ?_
 ·refine sr ?_
  refine fO (OF.assign (VEv.str (⟨#[]⟩:ByteArray))) (nt (rt (tr ?_)))
  refine vfin.eq (r':=(tS (⟨#[]⟩:ByteArray))) ?_ (vfin.r (VRes.tmp (t:=(tS (⟨#[]⟩:ByteArray))) Y VRes.nil) (Give.str _))
  refine congrArg T.str ?_
  exact (if_neg fhc0).symm
 have hw1:=fhc0.1
 refine sk (tn (sr (mO (tS w) Y (mO (tS w) Y (lO (B.lenS (tv (tS w) Y) U9) (fO (B.sub (n:=(((w.size:Nat):Int) - 1)) (tv (tN w.size) Y) (VEv.int .i64 1) (by first | rfl | (rw [Qs (by omega)];omega) | (rw [Qs (by omega)];done))) (lO (OL.sliceSHi (j:=(Int.toNat (((w.size:Nat):Int) - 1))) (tv (tS w) Y) (tv (tI (((w.size:Nat):Int) - 1)) Y) (by omega) (by first | omega | (simp only [List.length_map];omega) | (simp only [List.length_map,List.length_append,List.length_cons,List.length_nil,List.length_replicate,List.length_set,List.length_drop,List.length_take,Zk] at *;omega)) U9) (aO (tS (w.extract 0 (Int.toNat (((w.size:Nat):Int) - 1)))) Y (nt (rt ?_))))))))))
 refine vfin.eq (r':=(tS (w.extract 0 (Int.toNat (((w.size:Nat):Int) - 1))))) ?_ (vfin.r (VRes.tmp (t:=(tS (w.extract 0 (Int.toNat (((w.size:Nat):Int) - 1))))) Y VRes.nil) (Give.str _))
 refine congrArg T.str ?_
 rw [ntS,if_pos fhc0];first | rfl | (congr 1;omega)
theorem Qet (n:Nat) (p:ByteArray) (w:ByteArray) (hp:p.size≤maxLen) (hw:w.size≤maxLen):Pure (Qq Tryz.prog (n+3)) 157 [(tS p),(tS w)] (tB (decide (QdV p w))):=by
 refine Pure.intro (rs:= [ResultVar.tmp 4]) Tryz.func157 Y Y Y (E0:= [(0,(tS p)),(1,(tS w))]) Y ?_
 obtain ⟨hlim,hmx,hmax⟩:=QC
 refine sr (fO (OF.assign (VEv.bool false)) (nt (sq (sr (mO (tS p) Y (cO (cS (vc (tv (tS p) Y) vn) (Q8 Y) (Q9 (n+0) p (by first | assumption | omega)) Y Y) (fO (QW (tv (tB (decide (Ql p))) Y)) (mO (tB (!(decide (Ql p)))) Y ?_))))))))
 refine gn (Ql p) (fun fhg9_1=> ?_) fun fhg9_1=> ?_
 ·refine Qz 3 3 false 9 (ny fhg9_1) Y Y Y ?_
  refine fO (OF.pickT (VEv.tmpB Y (ny fhg9_1)) (VEv.bool true)) (nt (ct Y (sr (fO (OF.assign (VEv.bool false)) (nt (rt (tr (vb (b':=false) Y ?_))))))))
  first | exact Qah fhg9_1 | exact Qac fhc0 | exact QbE fhg9_1 fhc0 hI1.1 fhc1 fhc2 | exact Qbx hI2 fhc1
 refine gF (nz fhg9_1) Y Y (OF.move (tv (tS w) Y)) (VRunO.chain (VWant.on Y Y (nz fhg9_1)) (cS (vc (tv (tS w) Y) vn) (Q8 Y) (Q9 (n+0) w (by first | assumption | omega)) Y Y) (gF (nz fhg9_1) Y Y (QW (tv (tB (decide (Ql w))) Y)) (fO (OF.pickF (VEv.tmpB Y (nz fhg9_1)) (tv (tB (!(decide (Ql w)))) Y)) (nt ?_))))
 refine cn (Ql w) Y (fun fhc0=> ?_) fun fhc0=> ?_
 ·refine sr ?_
  refine fO (OF.assign (VEv.bool false)) (nt (rt (tr (vb (b':=false) Y ?_))))
  first | exact Qah fhg9_1 | exact Qac fhc0 | exact QbE fhg9_1 fhc0 hI1.1 fhc1 fhc2 | exact Qbx hI2 fhc1
 have hp1:=fhg9_1.1
 have hw1:=fhc0.1
 refine sk (tn (sq (sr (fO (OF.assign (VEv.int .i64 1)) (nt (VRun.block ?_))))))
 refine VRun.loop (A:=Nat) (fun s_=> [(0,(tS p)),(1,(tS w)),(5,(tN s_))]) (fun s_=>QU []) 0 (fun s_=>(1≤s_∧s_≤9)∧Qif p w s_) (fun s_=>w.size - s_) (1:Nat) ?_ (Wk.mk (fun k=>k) ?_ ?_ ?_) ?_
 ·exact ⟨⟨Nat.le_refl 1,by decide⟩,QkM p w⟩
 ·exact (b2 (b2 (b2 bn)))
 ·exact bn
 ·exact nd Y
 rintro i (hI':(1≤i∧i≤9)∧Qif p w i)
 show VRun _ _ _ [(0,(tS p)),(1,(tS w)),(5,(tN i))] (QU []) 0 _
 have hI1:=hI'.1
 have hI2:=hI'.2
 refine sq (sr (mO (tN i) Y (mO (tS p) Y (lO (B.lenS (tv (tS p) Y) U9) (fO (B.add (n:=(((i+p.size):Nat):Int)) (tv (tN i) Y) (tv (tN p.size) Y) (by first | rfl | (rw [Qs (by omega)];omega) | (rw [Qs (by omega)];done))) (mO (tS w) Y (lO (B.lenS (tv (tS w) Y) U9) (fO (Q2 (tv (tN (i+p.size)) Y) (tv (tN w.size) Y)) (nt ?_)))))))))
 refine cd ((i+p.size)<w.size) Y (fun fhc1=> ?_) fun fhc1=> ?_
 ·refine sk ?_
  refine tn (sq (VRun.block (sr (mO (tS w) Y (mO (tN i) Y (mO (tN i) Y (mO (tS p) Y (lO (B.lenS (tv (tS p) Y) U9) (fO (B.add (n:=(((i+p.size):Nat):Int)) (tv (tN i) Y) (tv (tN p.size) Y) (by first | rfl | (rw [Qs (by omega)];omega) | (rw [Qs (by omega)];done))) (lO (OL.sliceS (i:=i) (j:=(i+p.size)) (tv (tS w) Y) (tv (tN i) Y) (tv (tN (i+p.size)) Y) Y Y (by first | omega | (simp only [List.length_map];omega) | (simp only [List.length_map,List.length_append,List.length_cons,List.length_nil,List.length_replicate,List.length_set,List.length_drop,List.length_take,Zk] at *;omega)) (by first | omega | (simp only [List.length_map];omega) | (simp only [List.length_map,List.length_append,List.length_cons,List.length_nil,List.length_replicate,List.length_set,List.length_drop,List.length_take,Zk] at *;omega)) U9) (mO (tS p) Y ?_)))))))))))
  refine fO (B.seql (c:=(decide ((w.extract i (i+p.size))=p))) (tv (tS (w.extract i (i+p.size))) Y) (tv (tS p) Y) Y) (nt ?_)
  refine cd ((w.extract i (i+p.size))=p) Y (fun fhc2=> ?_) fun fhc2=> ?_
  ·refine sr ?_
   refine fO (OF.assign (VEv.bool true)) (nt (rt (vinB.r (tr (tr (vinB.r (tr (vb (b':=true) Y ?_))))))))
   first | exact Qah fhg9_1 | exact Qac fhc0 | exact QbE fhg9_1 fhc0 hI1.1 fhc1 fhc2 | exact Qbx hI2 fhc1
  refine sk (vinB.n (tn (VRun.region (mO (tN i) Y (fO (Qx (tv (tN i) Y) (VEv.int .i64 1) (by omega)) (aO (tN (i+1)) Y (VRunO.nil (tn ?_))))))))
  refine ⟨(i+1:Nat),?_,?_,Wk.mk (fun k=>k) ?_ ?_ ?_⟩
  ·exact ⟨⟨by omega,by omega⟩,QgH hI2 fhc2⟩
  ·first | omega | (simp only [];omega) | (show _<_;omega) | (simp;omega)
  ·exact (b2 (b2 (b2 bn)))
  ·exact bn
  ·exact nd Y
 refine VRun.exit (vthn.e (vthn.e (vinB.e (tn (sr (fO (OF.assign (VEv.bool false)) (nt (rt (vb (b':=false) Y ?_)))))))))
 first | exact Qah fhg9_1 | exact Qac fhc0 | exact QbE fhg9_1 fhc0 hI1.1 fhc1 fhc2 | exact Qbx hI2 fhc1
theorem Qer (n:Nat) (p:ByteArray) (w:ByteArray) (hp:p.size≤maxLen) (hw:w.size≤maxLen):Pure (Qq Tryz.prog (n+3)) 165 [(tS p),(tS w)] (tB (decide (QdV p w))):=by
 refine Pure.intro (rs:= [ResultVar.tmp 4]) Tryz.func165 Y Y Y (E0:= [(0,(tS p)),(1,(tS w))]) Y ?_
 obtain ⟨hlim,hmx,hmax⟩:=QC
 refine sr (fO (OF.assign (VEv.bool false)) (nt (sq (sr (mO (tS p) Y (cO (cS (vc (tv (tS p) Y) vn) (Q8 Y) (Za (n+0) p (by first | assumption | omega)) Y Y) (fO (QW (tv (tB (decide (Ql p))) Y)) (mO (tB (!(decide (Ql p)))) Y ?_))))))))
 refine gn (Ql p) (fun fhg9_1=> ?_) fun fhg9_1=> ?_
 ·refine Qz 3 3 false 9 (ny fhg9_1) Y Y Y ?_
  refine fO (OF.pickT (VEv.tmpB Y (ny fhg9_1)) (VEv.bool true)) (nt (ct Y (sr (fO (OF.assign (VEv.bool false)) (nt (rt (tr (vb (b':=false) Y ?_))))))))
  first | exact Qah fhg9_1 | exact Qac fhc0 | exact QbE fhg9_1 fhc0 hI1.1 fhc1 fhc2 | exact Qbx hI2 fhc1
 refine gF (nz fhg9_1) Y Y (OF.move (tv (tS w) Y)) (VRunO.chain (VWant.on Y Y (nz fhg9_1)) (cS (vc (tv (tS w) Y) vn) (Q8 Y) (Za (n+0) w (by first | assumption | omega)) Y Y) (gF (nz fhg9_1) Y Y (QW (tv (tB (decide (Ql w))) Y)) (fO (OF.pickF (VEv.tmpB Y (nz fhg9_1)) (tv (tB (!(decide (Ql w)))) Y)) (nt ?_))))
 refine cn (Ql w) Y (fun fhc0=> ?_) fun fhc0=> ?_
 ·refine sr ?_
  refine fO (OF.assign (VEv.bool false)) (nt (rt (tr (vb (b':=false) Y ?_))))
  first | exact Qah fhg9_1 | exact Qac fhc0 | exact QbE fhg9_1 fhc0 hI1.1 fhc1 fhc2 | exact Qbx hI2 fhc1
 have hp1:=fhg9_1.1
 have hw1:=fhc0.1
 refine sk (tn (sq (sr (fO (OF.assign (VEv.int .i64 1)) (nt (VRun.block ?_))))))
 refine VRun.loop (A:=Nat) (fun s_=> [(0,(tS p)),(1,(tS w)),(5,(tN s_))]) (fun s_=>QU []) 0 (fun s_=>(1≤s_∧s_≤9)∧Qif p w s_) (fun s_=>w.size - s_) (1:Nat) ?_ (Wk.mk (fun k=>k) ?_ ?_ ?_) ?_
 ·exact ⟨⟨Nat.le_refl 1,by decide⟩,QkM p w⟩
 ·exact (b2 (b2 (b2 bn)))
 ·exact bn
 ·exact nd Y
 rintro i (hI':(1≤i∧i≤9)∧Qif p w i)
 show VRun _ _ _ [(0,(tS p)),(1,(tS w)),(5,(tN i))] (QU []) 0 _
 have hI1:=hI'.1
 have hI2:=hI'.2
 refine sq (sr (mO (tN i) Y (mO (tS p) Y (lO (B.lenS (tv (tS p) Y) U9) (fO (B.add (n:=(((i+p.size):Nat):Int)) (tv (tN i) Y) (tv (tN p.size) Y) (by first | rfl | (rw [Qs (by omega)];omega) | (rw [Qs (by omega)];done))) (mO (tS w) Y (lO (B.lenS (tv (tS w) Y) U9) (fO (Q2 (tv (tN (i+p.size)) Y) (tv (tN w.size) Y)) (nt ?_)))))))))
 refine cd ((i+p.size)<w.size) Y (fun fhc1=> ?_) fun fhc1=> ?_
 ·refine sk ?_
  refine tn (sq (VRun.block (sr (mO (tS w) Y (mO (tN i) Y (mO (tN i) Y (mO (tS p) Y (lO (B.lenS (tv (tS p) Y) U9) (fO (B.add (n:=(((i+p.size):Nat):Int)) (tv (tN i) Y) (tv (tN p.size) Y) (by first | rfl | (rw [Qs (by omega)];omega) | (rw [Qs (by omega)];done))) (lO (OL.sliceS (i:=i) (j:=(i+p.size)) (tv (tS w) Y) (tv (tN i) Y) (tv (tN (i+p.size)) Y) Y Y (by first | omega | (simp only [List.length_map];omega) | (simp only [List.length_map,List.length_append,List.length_cons,List.length_nil,List.length_replicate,List.length_set,List.length_drop,List.length_take,Zk] at *;omega)) (by first | omega | (simp only [List.length_map];omega) | (simp only [List.length_map,List.length_append,List.length_cons,List.length_nil,List.length_replicate,List.length_set,List.length_drop,List.length_take,Zk] at *;omega)) U9) (mO (tS p) Y ?_)))))))))))
  refine fO (B.seql (c:=(decide ((w.extract i (i+p.size))=p))) (tv (tS (w.extract i (i+p.size))) Y) (tv (tS p) Y) Y) (nt ?_)
  refine cd ((w.extract i (i+p.size))=p) Y (fun fhc2=> ?_) fun fhc2=> ?_
  ·refine sr ?_
   refine fO (OF.assign (VEv.bool true)) (nt (rt (vinB.r (tr (tr (vinB.r (tr (vb (b':=true) Y ?_))))))))
   first | exact Qah fhg9_1 | exact Qac fhc0 | exact QbE fhg9_1 fhc0 hI1.1 fhc1 fhc2 | exact Qbx hI2 fhc1
  refine sk (vinB.n (tn (VRun.region (mO (tN i) Y (fO (Qx (tv (tN i) Y) (VEv.int .i64 1) (by omega)) (aO (tN (i+1)) Y (VRunO.nil (tn ?_))))))))
  refine ⟨(i+1:Nat),?_,?_,Wk.mk (fun k=>k) ?_ ?_ ?_⟩
  ·exact ⟨⟨by omega,by omega⟩,QgH hI2 fhc2⟩
  ·first | omega | (simp only [];omega) | (show _<_;omega) | (simp;omega)
  ·exact (b2 (b2 (b2 bn)))
  ·exact bn
  ·exact nd Y
 refine VRun.exit (vthn.e (vthn.e (vinB.e (tn (sr (fO (OF.assign (VEv.bool false)) (nt (rt (vb (b':=false) Y ?_)))))))))
 first | exact Qah fhg9_1 | exact Qac fhc0 | exact QbE fhg9_1 fhc0 hI1.1 fhc1 fhc2 | exact Qbx hI2 fhc1
end Go.Proofs.YtjpenecpopljoaaGreat.AE
