/- A part of what the row of FnExactNewSession uses. Conditions: as each theorem states. -/
import Derived.Test.YthifchndolccgaaGreatDoorZFnExactNewSessiond
import Derived.Test.YthifchndolccgaaGreatDoorProg
import Derived.Shelf.LaysM
import Derived.Shelf.Strings.Replace
namespace Go.Proofs.YthifchndolccgaaGreatDoor.AE
open Go Go.RowKit
set_option linter.unusedVariables false
set_option linter.unusedSimpArgs false
set_option maxRecDepth 20000
set_option maxHeartbeats 2000000
noncomputable section
def on (s:List Bool) (j:Nat):Bool:=s[j]?.getD false
theorem QiE {s:List Bool} {j:Nat} (h:on s j=true):j<s.length:=by
 rcases Nat.lt_or_ge j s.length with h1 | h1
 ·exact h1
 ·rw [on,List.getElem?_eq_none h1] at h;cases h
theorem QbS {s:List Bool} {i j:Nat} (hi:i<s.length):on (s.set i true) j=(if j=i then true else on s j):=by
 unfold on
 rw [List.getElem?_set]
 by_cases h:i=j
 ·subst h;simp [hi]
 ·rw [if_neg h,if_neg (fun e=>h e.symm)]
theorem QiV {s t:List Bool} (hl:s.length=t.length) (h:∀j,on s j=true↔on t j=true):s=t:=by
 refine List.ext_getElem? fun j=> ?_
 rcases Nat.lt_or_ge j s.length with h1 | h1
 ·have h2:j<t.length:=by omega
  have h3:=h j
  unfold on at h3
  rw [List.getElem?_eq_getElem h1,List.getElem?_eq_getElem h2] at h3 ⊢
  simp only [Option.getD_some] at h3
  rw [Bool.eq_iff_iff.2 h3]
 ·rw [List.getElem?_eq_none h1,List.getElem?_eq_none (by omega)]
theorem on_no {s:List Bool} {j:Nat}:on s j=false↔¬on s j=true:=by cases on s j<;>simp
def wG (g:D.Grid):Nat:=g.Cols.toNat
def adj (g:D.Grid) (i j:Nat):Prop:=(j=i+1∧i % wG g+1<wG g)∨(i=j+1∧j % wG g+1<wG g)∨j=i+wG g∨i=j+wG g
inductive Rch (g:D.Grid) (s:List Bool):Nat→Prop
 | base {j:Nat} (h:on s j=true):Rch g s j
 | step {i j:Nat} (h:Rch g s i) (ha:adj g i j) (hj:j<s.length) (hw:QB g.Cells j=46):Rch g s j
instance (g:D.Grid) (s:List Bool) (j:Nat):Decidable (Rch g s j):=Classical.propDecidable _
def Q6 (g:D.Grid) (s:List Bool):List Bool:=(List.range s.length).map fun j=>decide (Rch g s j)
theorem Rch.lt {g:D.Grid} {s:List Bool} {j:Nat} (h:Rch g s j):j<s.length:=by
 cases h with
 | base h=>exact QiE h
 | step _ _ hj _=>exact hj
theorem Qa5 (g:D.Grid) (s:List Bool):(Q6 g s).length=s.length:=by simp [Q6]
theorem on_reachL {g:D.Grid} {s:List Bool} {j:Nat}:on (Q6 g s) j=true↔Rch g s j:=by
 unfold on Q6
 rw [List.getElem?_map]
 rcases Nat.lt_or_ge j s.length with h1 | h1
 ·rw [List.getElem?_eq_getElem (by simpa using h1),List.getElem_range]
  simp
 ·rw [List.getElem?_eq_none (by simpa using h1)]
  simp only [Option.map_none,Option.getD_none,Bool.false_eq_true,false_iff]
  intro h
  have:=h.lt
  omega
def QiM (g:D.Grid) (s:List Bool) (i:Nat):Prop:=∃j,adj g j i∧on s j=true
theorem QiS {i w:Nat} (h:0<i % w) (hw:i % w<w):(i - 1) % w+1=i % w∧1≤i:=by
 have h1:i % w≤i:=Nat.mod_le _ _
 have h2:=Nat.div_add_mod i w
 refine ⟨?_,by omega⟩
 have e:i - 1=(i % w - 1)+w*(i / w):=by omega
 rw [e,Nat.add_mul_mod_self_left,Nat.mod_eq_of_lt (by omega)]
 omega
theorem Qim {i w:Nat} (h:i % w+1<w):(i+1) % w=i % w+1:=by
 have h2:=Nat.div_add_mod i w
 have e:i+1=(i % w+1)+w*(i / w):=by omega
 rw [e,Nat.add_mul_mod_self_left,Nat.mod_eq_of_lt h]
theorem QfQ {g:D.Grid} {s:List Bool} {i:Nat} (hw:2≤g.Cols) (hl:i<s.length) :
  ((((0<i % g.Cols.toNat∧on s (i - 1)=true)∨(((i % g.Cols.toNat+1:Nat):Int)<g.Cols∧on s (i+1)=true))∨(g.Cols≤((i:Nat):Int)∧on s (i - g.Cols.toNat)=true))∨(i+g.Cols.toNat<s.length∧on s (i+g.Cols.toNat)=true))↔QiM g s i:=by
 have hm:i % g.Cols.toNat<g.Cols.toNat:=Nat.mod_lt _ (by omega)
 constructor
 ·rintro (((⟨h1,h2⟩ | ⟨h1,h2⟩) | ⟨h1,h2⟩) | ⟨h1,h2⟩)
  ·obtain ⟨h3,h4⟩:=QiS h1 hm
   exact ⟨i - 1, .inl ⟨by omega,by unfold wG;omega⟩,h2⟩
  ·exact ⟨i+1, .inr (.inl ⟨rfl,by unfold wG;omega⟩),h2⟩
  ·exact ⟨i - g.Cols.toNat, .inr (.inr (.inl (by unfold wG;omega))),h2⟩
  ·exact ⟨i+g.Cols.toNat, .inr (.inr (.inr (by unfold wG;omega))),h2⟩
 ·rintro ⟨j,(⟨h1,h2⟩ | ⟨h1,h2⟩ | h1 | h1),h3⟩
  ·refine .inl (.inl (.inl ⟨?_,by rw [show i - 1=j by omega];exact h3⟩))
   unfold wG at h2
   rw [h1,Qim h2];omega
  ·refine .inl (.inl (.inr ⟨by unfold wG at h2;omega,by rw [← h1];exact h3⟩))
  ·unfold wG at h1
   refine .inl (.inr ⟨by omega,by rw [show i - g.Cols.toNat=j by omega];exact h3⟩)
  ·unfold wG at h1
   have:=QiE h3
   exact .inr ⟨by omega,by rw [← h1];exact h3⟩
def RS (g:D.Grid) (s0 s:List Bool):Prop:=s.length=s0.length∧(∀j,on s0 j=true→on s j=true)∧∀j,on s j=true→Rch g s0 j
theorem RS.start (g:D.Grid) (s:List Bool):RS g s s:=⟨rfl,fun _ h=>h,fun _ h=> .base h⟩
theorem RS.put {g:D.Grid} {s0 s:List Bool} {i:Nat} (h:RS g s0 s) (hi:i<s.length) (hw:QB g.Cells i=46) (hn:QiM g s i):RS g s0 (s.set i true):=by
 obtain ⟨h1,h2,h3⟩:=h
 refine ⟨by simpa using h1,fun j hj=> ?_,fun j hj=> ?_⟩
 ·rw [QbS hi];split
  ·rfl
  ·exact h2 j hj
 ·rw [QbS hi] at hj
  split at hj
  ·rename_i e
   subst e
   obtain ⟨k,hk,hk2⟩:=hn
   exact .step (h3 k hk2) hk (by omega) hw
  ·exact h3 j hj
def QfR (g:D.Grid) (s:List Bool) (i:Nat):Prop:=QB g.Cells i=46∧on s i=false∧QiM g s i
instance (g:D.Grid) (s:List Bool) (i:Nat):Decidable (QfR g s i):=Classical.propDecidable _
def Yj (g:D.Grid) (s:List Bool) (i:Nat):List Bool:=if QfR g s i then s.set i true else s
def QaV (g:D.Grid) (ag:Bool) (s:List Bool) (i:Nat):Bool:=if QfR g s i then true else ag
theorem Qi9 {g:D.Grid} {s:List Bool} {ag:Bool} {i:Nat} (h:QfR g s i):s.set i true=Yj g s i∧true=QaV g ag s i:=⟨(if_pos h).symm,(if_pos h).symm⟩
theorem QgM {g:D.Grid} {s:List Bool} {ag:Bool} {i:Nat} (h:¬QfR g s i):s=Yj g s i∧ag=QaV g ag s i:=⟨(if_neg h).symm,(if_neg h).symm⟩
def Inv1 (g:D.Grid) (s0 s:List Bool) (i:Nat) (s1:List Bool) (ag:Bool):Prop:=i≤s0.length∧RS g s0 s1∧(ag=false→s1=s∧∀j,j<i→¬QfR g s j)∧(ag=true→s1.count false<s.count false)∧s1.count false≤s.count false
theorem Inv1.start {g:D.Grid} {s0 s:List Bool} (h:RS g s0 s):Inv1 g s0 s 0 s false:=⟨Nat.zero_le _,h,fun _=>⟨rfl,fun j hj=>by omega⟩,(fun h=>by cases h),Nat.le_refl _⟩
theorem Qcp {s:List Bool} {i:Nat} (hi:i<s.length) (h:on s i=false):(s.set i true).count false+1=s.count false:=by
 have h2:s[i]=false:=by
  unfold on at h
  rw [List.getElem?_eq_getElem hi] at h
  exact h
 have h3:0<s.count false:=List.count_pos_iff.2 (h2▸List.getElem_mem hi)
 rw [List.count_set hi]
 simp [h2]
 omega
theorem Inv1.next {g:D.Grid} {s0 s s1:List Bool} {i:Nat} {ag:Bool} (h:Inv1 g s0 s i s1 ag) (hi:i<s1.length):Inv1 g s0 s (i+1) (Yj g s1 i) (QaV g ag s1 i):=by
 obtain ⟨h1,h2,h3,h4,h5⟩:=h
 have hl:=h2.1
 unfold Yj QaV
 by_cases hw:QfR g s1 i
 ·rw [if_pos hw,if_pos hw]
  have hc:=Qcp hi hw.2.1
  exact ⟨by omega,h2.put hi hw.1 hw.2.2,(fun e=>by cases e),(fun _=>by omega),by omega⟩
 ·rw [if_neg hw,if_neg hw]
  refine ⟨by omega,h2,fun e=> ?_,h4,h5⟩
  obtain ⟨h6,h7⟩:=h3 e
  subst h6
  refine ⟨rfl,fun j hj=> ?_⟩
  rcases Nat.lt_or_ge j i with g1 | g1
  ·exact h7 j g1
  ·obtain rfl:j=i:=by omega
   exact hw
def Inv0 (g:D.Grid) (s0 s:List Bool) (ag:Bool):Prop:=RS g s0 s∧(ag=false→∀j,j<s0.length→¬QfR g s j)
theorem Inv1.done {g:D.Grid} {s0 s s1:List Bool} {i:Nat} {ag:Bool} (h:Inv1 g s0 s i s1 ag) (hi:¬i<s1.length):Inv0 g s0 s1 ag:=by
 obtain ⟨h1,h2,h3,h4,h5⟩:=h
 have hl:=h2.1
 refine ⟨h2,fun e j hj=> ?_⟩
 obtain ⟨h6,h7⟩:=h3 e
 rw [h6]
 exact h7 j (by omega)
theorem Inv1.dec {g:D.Grid} {s0 s s1:List Bool} {i:Nat} {ag ag0:Bool} (h:Inv1 g s0 s i s1 ag) (h0:ag0=true):s1.count false+(if ag=true then 1 else 0)<s.count false+(if ag0=true then 1 else 0):=by
 obtain ⟨h1,h2,h3,h4,h5⟩:=h
 rw [if_pos h0]
 split
 ·rename_i e
  have:=h4 e
  omega
 ·omega
theorem Inv0.done {g:D.Grid} {s0 s:List Bool} {ag:Bool} (h:Inv0 g s0 s ag) (ha:¬ag=true):s=Q6 g s0:=by
 obtain ⟨⟨h1,h2,h3⟩,h4⟩:=h
 refine QiV (by rw [Qa5,h1]) fun j=> ?_
 rw [on_reachL]
 refine ⟨h3 j,fun hj=> ?_⟩
 have h5:=h4 (by cases ag<;>simp_all)
 induction hj with
 | base h=>exact h2 _ h
 | step h ha hj hw ih =>
  rename_i i k
  cases hk:on s k with
  | true=>rfl
  | false=>exact absurd ⟨hw,hk,i,ha,ih⟩ (h5 k hj)
end
theorem QcT (n:Nat) (g:D.Grid) (seen:List Bool) (cell:Nat) (hg:gridOk g) (hc:cell<seen.length) (hs:seen.length=g.Cells.size):Loan (Qr Tryz.prog (n+1)) 131 1 (List.map (Qm true) seen) [(T.agg (Qa false g)),(T.os 1 0 0 ((seen.map (Qm true)).length)),(tN cell)] (T.os 1 0 0 (List.map (Qm true) (Q6 g (seen.set cell true))).length) (List.map (Qm true) (Q6 g (seen.set cell true))):=by
 refine Loan.intro (rs:= [ResultVar.tmp 6]) (j:=1) (pin:=(T.os 1 0 0 ((seen.map (Qm true)).length))) Tryz.func131 rfl rfl rfl (by kernel_rfl) rfl (.os _ _) (.os _ _) (Zq (fun _=>rfl) _) (Zq (fun _=>rfl) _) (E0:= [(0,(T.agg (Qa false g))),(1,(T.os 1 0 0 ((seen.map (Qm true)).length))),(2,(tN cell))]) rfl ?_
 obtain ⟨hlim,hmx,hmax⟩:=QJ
 have hsz:=hg.size
 have hA:=hg.1
 have hB:=hg.2.1
 refine sr (kO (B.box (ts:=(Qa false g)) (tv (T.agg (Qa false g)) rfl) nofun rfl) (fO (OF.assign VEv.nils) (nt (sr (mO (T.os 1 0 0 ((seen.map (Qm true)).length)) rfl (mO (tN cell) rfl ?_))))))
 obtain ⟨x1,hx1⟩:∃x,seen[cell]? =some x:=⟨_,List.getElem?_eq_getElem (by omega)⟩
 skip
 refine fO (B.indexAddrO (i:=cell) (tv (T.os 1 0 0 ((seen.map (Qm true)).length)) rfl) (tv (tN cell) rfl) rfl (by (simp only [List.length_map];omega)) YA sz4 if4) (cO (B.storeP (us:= [(tB true)]) (rows':=((seen.set cell true).map (Qm true))) (row:=(Qm true x1)) (tv (T.orp 1 0 cell 0) rfl) (VEv.bool true) nofun rfl (QA _ hx1) rfl (lb rfl) if4 sz4 (bc rfl bn) (by intro r hr t ht;obtain ⟨x,_,rfl⟩:=List.mem_map.1 hr;rw [QeQ] at ht;exact Zs (okBool.pl _ t ht)) (Zm rfl)) (nt (sq (sr (fO (OF.assign (VEv.bool true)) (nt (VRun.block ?_)))))))
 refine VRun.loop (A:=Bool×(List Bool)) (fun s_=> [(1,(T.os 1 1 0 ((s_.2.map (Qm true)).length))),(3,(T.op 0 0)),(6,T.nils),(7,(tB s_.1))]) (fun s_=>Q3 [(0,(Obj.cells (Qa false g))),(1,(Obj.rows 1 (s_.2.map (Qm true))))]) 2 (fun s_=>Inv0 g (seen.set cell true) s_.2 s_.1) (fun s_=>s_.2.count false+(if s_.1=true then 1 else 0)) ((true,seen.set cell true):Bool×(List Bool)) ?_ (Wk.mk (fun k=>if k=0 then 1 else if k=1 then 0 else k) ?_ ?_ ?_) ?_
 ·exact ⟨RS.start _ _,fun h=>by cases h⟩
 ·exact (bc ⟨(congrArg (fun n_=>T.os 1 0 0 n_) (show (seen.map (Qm true)).length=((seen.set cell true).map (Qm true)).length from (by (simp;done)))),rfl⟩ (b2 (b2 (b2 bn))))
 ·exact (b3 (b3 bn))
 ·exact nd rfl
 rintro ⟨ag,s⟩ (hI':Inv0 g (seen.set cell true) s ag)
 show VRun _ _ _ [(1,(T.os 1 1 0 ((s.map (Qm true)).length))),(3,(T.op 0 0)),(6,T.nils),(7,(tB ag))] (Q3 [(0,(Obj.cells (Qa false g))),(1,(Obj.rows 1 (s.map (Qm true))))]) 2 _
 have hI1:=hI'
 have hl0:s.length=g.Cells.size:=by have:=hI'.1.1;rw [List.length_set] at this;omega
 refine sq (sr (mO (tB ag) rfl (nt ?_)))
 refine VRun.cond (tv (tB ag) rfl) (fun hc0=> ?_) (fun hc0=> ?_)
 ·have fhc0:ag=true:=hc0
  refine sk (tn (VRun.block (sr (fO (OF.assign (VEv.bool false)) (nt (sr (fO (OF.assign (VEv.int .i64 0)) (nt (VRun.block ?_)))))))))
  refine VRun.loop (A:=Nat×(List Bool)×Bool) (fun s_=> [(1,(T.os 1 1 0 ((s_.2.1.map (Qm true)).length))),(3,(T.op 0 0)),(6,T.nils),(7,(tB s_.2.2)),(8,(tN s_.1))]) (fun s_=>Q3 [(0,(Obj.cells (Qa false g))),(1,(Obj.rows 1 (s_.2.1.map (Qm true))))]) 2 (fun s_=>Inv1 g (seen.set cell true) s s_.1 s_.2.1 s_.2.2) (fun s_=>s_.2.1.length - s_.1) ((0,s,false):Nat×(List Bool)×Bool) ?_ (Wk.mk (fun k=>k) ?_ ?_ ?_) ?_
  ·exact Inv1.start hI1.1
  ·exact (b2 (b2 (b2 (b2 (b2 bn)))))
  ·exact (b3 (b3 bn))
  ·exact nd rfl
  rintro ⟨i,s1,ag1⟩ (hI':Inv1 g (seen.set cell true) s i s1 ag1)
  show VRun _ _ _ [(1,(T.os 1 1 0 ((s1.map (Qm true)).length))),(3,(T.op 0 0)),(6,T.nils),(7,(tB ag1)),(8,(tN i))] (Q3 [(0,(Obj.cells (Qa false g))),(1,(Obj.rows 1 (s1.map (Qm true))))]) 2 _
  have hJ1:=hI'.1
  have hl1:s1.length=g.Cells.size:=by have:=hI'.2.1.1;rw [List.length_set] at this;omega
  refine sq (sr (mO (tN i) rfl (mO (T.os 1 1 0 ((s1.map (Qm true)).length)) rfl (lO (B.lenO (m:=s1.length) (tv (T.os 1 1 0 ((s1.map (Qm true)).length)) rfl) YA (List.length_map ..)) (fO (Zt (tv (tN i) rfl) (tv (tN s1.length) rfl)) (nt ?_))))))
  refine cd (i<s1.length) rfl (fun fhc1=> ?_) fun fhc1=> ?_
  ·refine sk ?_
   refine tn (sq (VRun.block (sq (sr (mO (T.os 1 1 0 ((s1.map (Qm true)).length)) rfl (mO (tN i) rfl ?_))))))
   obtain ⟨x2,hx2⟩:∃x,s1[i]? =some x:=⟨_,List.getElem?_eq_getElem (by omega)⟩
   (have e2:on s1 i=x2:=by rw [on,hx2];rfl)
   refine fO (B.indexAddrO (i:=i) (tv (T.os 1 1 0 ((s1.map (Qm true)).length)) rfl) (tv (tN i) rfl) rfl (by (simp only [List.length_map];omega)) YA sz4 if4) (lO (OL.loadP1 (t:=(tB x2)) (row:=(Qm true x2)) (tv (T.orp 1 1 i 0) rfl) rfl (QA _ hx2) rfl rfl st4) (mO (tB x2) rfl ?_))
   refine VRunO.joinB 6 [26,27,28,29,30] 31 (tB (decide ((x2=true)∨(¬(QB g.Cells i=46))))) ?_ ?_
   ·refine Qdx x2 (fun hg25_1=> ?_) (fun hg25_1=> ?_)
    ·have fhg25_1:x2=true:=hg25_1
     refine QC 5 4 false 25 hg25_1 rfl rfl rfl (fO (OF.pickT (VEv.tmpB rfl hg25_1) (VEv.bool true)) (VRunO.nil ?_))
     exact jq (congrArg T.bool (jOT (dT _) hg25_1)) (js rfl (js rfl (js rfl (js rfl (js rfl (jn))))))
    ·have fhg25_1:x2=false:=hg25_1
     refine Yn (tS g.Cells) hg25_1 rfl rfl rfl rfl QD rfl rfl Z3 (gF hg25_1 rfl rfl (OF.move (tv (tN i) rfl)) ?_)
     have hb2:i<g.Cells.size:=(by omega)
     refine gF hg25_1 rfl rfl (xix (tv (tS g.Cells) rfl) (tv (tN i) rfl) hb2 U9) (gF hg25_1 rfl rfl (xne (tv (T.int .u8 (QB g.Cells i)) rfl) (VEv.int .u8 46)) (fO (OF.pickF (VEv.tmpB rfl hg25_1) (tv (tB (!(decide (QB g.Cells i=46)))) rfl)) (VRunO.nil ?_)))
     exact jq (congrArg T.bool (jOF (dT _) hg25_1 dN)) (js rfl (js rfl (js rfl (js rfl (js rfl (jn))))))
   refine nt ?_
   refine cd ((x2=true)∨(¬(QB g.Cells i=46))) rfl (fun fhc2=> ?_) fun fhc2=> ?_
   ·have q1:=QgM (g:=g) (s:=s1) (ag:=ag1) (i:=i) (by rintro ⟨h1,h2,h3⟩;rw [e2] at h2;rcases fhc2 with h4 | h4;rw [h2] at h4;cases h4;exact h4 h1)
    refine VRun.exit (vthn.e (vinB.e (tn (VRun.region (mO (tN i) rfl (fO (QF (tv (tN i) rfl) (VEv.int .i64 1) (by omega)) (aO (tN (i+1)) rfl (VRunO.nil (tn ?_)))))))))
    have he3:s1=(Yj g s1 i):=by exact q1.1
    refine ⟨((i+1,Yj g s1 i,QaV g ag1 s1 i):Nat×(List Bool)×Bool),?_,?_,Wk.mk (fun k=>k) ?_ ?_ ?_⟩
    ·exact hI'.next fhc1
    ·show (Yj g s1 i).length - (i+1)<s1.length - i
     have e1:(Yj g s1 i).length=s1.length:=by unfold Yj;split<;>simp
     rw [e1];omega
    ·exact (bc ⟨(congrArg (fun l_=>T.os 1 1 0 (List.map (Qm true) l_).length) he3),rfl⟩ (b2 (b2 (bc ⟨(congrArg T.bool (show ag1=(QaV g ag1 s1 i) from (by exact q1.2))),rfl⟩ (b2 bn)))))
    ·exact (b3 (bc ⟨(congrArg (fun l_=>some (Obj.rows 1 (List.map (Qm true) l_))) he3),(lb rfl),rfl⟩ bn))
    ·exact nd rfl
   refine sk (tn ?_)
   have hci:=Qbo hg (show i<g.Cells.size by omega)
   obtain ⟨m,hm⟩:∃m,m=i % g.Cols.toNat:=⟨_,rfl⟩
   have hq1:0<m→1≤i:=by rw [hm];exact hci.2.1
   have hm6:m<g.Cols.toNat:=by rw [hm];exact hci.1.1
   have hq4:((m+1:Nat):Int)<g.Cols→i+1<g.Cells.size:=by rw [hm];exact hci.2.2.2.1 1
   clear hci
   refine sr (mO (tN i) rfl (lf (tI g.Cols) rfl Q7 rfl rfl Q0 (fO (B.rem (n:=((m:Nat):Int)) (tv (tN i) rfl) (tv (tI g.Cols) rfl) (by omega) (by (rw [hm];refine Qjv ?_;omega))) (aO (tN m) rfl (nt (sr (mO (tN m) rfl (fO (B.gtr (c:=(decide (0<m))) (tv (tN m) rfl) (VEv.int .i64 0) (by exact Q8 (by omega))) (mO (tB (decide (0<m))) rfl ?_)))))))))
   refine VRunO.joinB 6 [39,40,41,42,43] 44 (tB (decide ((0<m)∧((s1[i - 1]?.getD false)=true)))) ?_ ?_
   ·refine gw (0<m) (fun fhg38_4=> ?_) fun fhg38_4=> ?_
    ·refine gF (dy fhg38_4) rfl rfl (OF.move (tv (T.os 1 1 0 ((s1.map (Qm true)).length)) rfl)) ?_
     refine gF (dy fhg38_4) rfl rfl (OF.move (tv (tN i) rfl)) (gF (dy fhg38_4) rfl rfl (B.sub (n:=((i - 1:Nat):Int)) (tv (tN i) rfl) (VEv.int .i64 1) (by (rw [Qy (by omega)];omega))) ?_)
     have hy5:s1[i - 1]? =some (s1[i - 1]?.getD false):=Jj false (by omega)
     refine gF (dy fhg38_4) rfl rfl (B.indexAddrO (i:=i - 1) (tv (T.os 1 1 0 ((s1.map (Qm true)).length)) rfl) (tv (tN (i - 1)) rfl) rfl (by (simp only [List.length_map];omega)) YA sz4 if4) (gL (dy fhg38_4) rfl rfl (OL.loadP1 (t:=(tB (s1[i - 1]?.getD false))) (row:=(Qm true (s1[i - 1]?.getD false))) (tv (T.orp 1 1 (i - 1) 0) rfl) rfl (QA _ hy5) rfl rfl st4) (fO (OF.pickT (VEv.tmpB rfl (dy fhg38_4)) (tv (tB (s1[i - 1]?.getD false)) rfl)) (VRunO.nil ?_)))
     exact jq (congrArg T.bool (kAT fhg38_4 (dT _))) (js rfl (js rfl (js rfl (js rfl (js rfl (jn))))))
    ·refine QC 5 2 true 38 (dz fhg38_4) rfl rfl rfl ?_
     refine fO (OF.pickF (VEv.tmpB rfl (dz fhg38_4)) (VEv.bool false)) (VRunO.nil ?_)
     exact jq (congrArg T.bool (kAF fhg38_4)) (js rfl (js rfl (js rfl (js rfl (js rfl (jn))))))
   refine mO (tB (decide ((0<m)∧((s1[i - 1]?.getD false)=true)))) rfl ?_
   refine VRunO.joinB 13 [46,47,48,49,50,51,52,53,54,55,56,57] 58 (tB (decide (((0<m)∧((s1[i - 1]?.getD false)=true))∨(((((m+1):Nat):Int)<g.Cols)∧((s1[(i+1)]?.getD false)=true))))) ?_ ?_
   ·refine gw ((0<m)∧((s1[i - 1]?.getD false)=true)) (fun fhg45_6=> ?_) fun fhg45_6=> ?_
    ·refine QC 6 9 false 45 (dy fhg45_6) rfl rfl rfl ?_
     refine JA 5 15 true 51 rfl rfl rfl (oO rfl rfl (dy fhg45_6) (fO (OF.pickT (VEv.tmpB rfl (dy fhg45_6)) (VEv.bool true)) (VRunO.nil ?_)))
     exact jq (congrArg T.bool (kOT fhg45_6)) (js rfl (js rfl (js rfl (js rfl (js rfl (js rfl (js rfl (js rfl (js rfl (js rfl (js rfl (js rfl (jn)))))))))))))
    ·refine gF (dz fhg45_6) rfl rfl (OF.move (tv (tN m) rfl)) ?_
     refine gF (dz fhg45_6) rfl rfl (QF (tv (tN m) rfl) (VEv.int .i64 1) (by omega)) (Yn (tI g.Cols) (dz fhg45_6) rfl rfl rfl rfl Q7 rfl rfl Q0 (gF (dz fhg45_6) rfl rfl (xls (tv (tN (m+1)) rfl) (tv (tI g.Cols) rfl)) (gF (dz fhg45_6) rfl rfl (OF.move (tv (tB (decide ((((m+1):Nat):Int)<g.Cols))) rfl)) ?_)))
     refine VRunO.joinB 6 [52,53,54,55,56] 57 (tB (decide (((((m+1):Nat):Int)<g.Cols)∧((s1[(i+1)]?.getD false)=true)))) ?_ ?_
     ·refine gw ((((m+1):Nat):Int)<g.Cols) (fun fhg51_7=> ?_) fun fhg51_7=> ?_
      ·refine gF (dy fhg51_7) rfl rfl (OF.move (tv (T.os 1 1 0 ((s1.map (Qm true)).length)) rfl)) ?_
       refine gF (dy fhg51_7) rfl rfl (OF.move (tv (tN i) rfl)) (gF (dy fhg51_7) rfl rfl (QF (tv (tN i) rfl) (VEv.int .i64 1) (by omega)) ?_)
       have hy8:s1[(i+1)]? =some (s1[(i+1)]?.getD false):=Jj false (by omega)
       refine gF (dy fhg51_7) rfl rfl (B.indexAddrO (i:=(i+1)) (tv (T.os 1 1 0 ((s1.map (Qm true)).length)) rfl) (tv (tN (i+1)) rfl) rfl (by (simp only [List.length_map];omega)) YA sz4 if4) (gL (dy fhg51_7) rfl rfl (OL.loadP1 (t:=(tB (s1[(i+1)]?.getD false))) (row:=(Qm true (s1[(i+1)]?.getD false))) (tv (T.orp 1 1 (i+1) 0) rfl) rfl (QA _ hy8) rfl rfl st4) (gF (dz fhg45_6) rfl rfl (OF.pickT (VEv.tmpB rfl (dy fhg51_7)) (tv (tB (s1[(i+1)]?.getD false)) rfl)) (VRunO.nil ?_)))
       exact jq (congrArg T.bool (kAT fhg51_7 (dT _))) (js rfl (js rfl (js rfl (js rfl (js rfl (jn))))))
      ·refine QC 5 15 true 51 (dz fhg51_7) rfl rfl rfl ?_
       refine gF (dz fhg45_6) rfl rfl (OF.pickF (VEv.tmpB rfl (dz fhg51_7)) (VEv.bool false)) (VRunO.nil ?_)
       exact jq (congrArg T.bool (kAF fhg51_7)) (js rfl (js rfl (js rfl (js rfl (js rfl (jn))))))
     refine fO (OF.pickF (VEv.tmpB rfl (dz fhg45_6)) (tv (tB (decide (((((m+1):Nat):Int)<g.Cols)∧((s1[(i+1)]?.getD false)=true)))) rfl)) (VRunO.nil ?_)
     exact jq (congrArg T.bool (kOF fhg45_6 rfl)) (js rfl (js rfl (js rfl (js rfl (js rfl (js rfl (js rfl (js rfl (js rfl (js rfl (js rfl (js rfl (jn)))))))))))))
   refine mO (tB (decide (((0<m)∧((s1[i - 1]?.getD false)=true))∨(((((m+1):Nat):Int)<g.Cols)∧((s1[(i+1)]?.getD false)=true))))) rfl ?_
   refine VRunO.joinB 14 [60,61,62,63,64,65,66,67,68,69,70,71,72] 73 (tB (decide ((((0<m)∧((s1[i - 1]?.getD false)=true))∨(((((m+1):Nat):Int)<g.Cols)∧((s1[(i+1)]?.getD false)=true)))∨((g.Cols≤((i:Nat):Int))∧((s1[i - g.Cols.toNat]?.getD false)=true))))) ?_ ?_
   ·refine gw (((0<m)∧((s1[i - 1]?.getD false)=true))∨(((((m+1):Nat):Int)<g.Cols)∧((s1[(i+1)]?.getD false)=true))) (fun fhg59_9=> ?_) fun fhg59_9=> ?_
    ·refine QC 5 23 false 59 (dy fhg59_9) rfl rfl rfl ?_
     refine JA 7 28 true 64 rfl rfl rfl (oO rfl rfl (dy fhg59_9) (fO (OF.pickT (VEv.tmpB rfl (dy fhg59_9)) (VEv.bool true)) (VRunO.nil ?_)))
     exact jq (congrArg T.bool (kOT fhg59_9)) (js rfl (js rfl (js rfl (js rfl (js rfl (js rfl (js rfl (js rfl (js rfl (js rfl (js rfl (js rfl (js rfl (jn))))))))))))))
    ·refine gF (dz fhg59_9) rfl rfl (OF.move (tv (tN i) rfl)) ?_
     refine Yn (tI g.Cols) (dz fhg59_9) rfl rfl rfl rfl Q7 rfl rfl Q0 (gF (dz fhg59_9) rfl rfl (xge (tv (tN i) rfl) (tv (tI g.Cols) rfl)) (gF (dz fhg59_9) rfl rfl (OF.move (tv (tB (decide (g.Cols≤((i:Nat):Int)))) rfl)) ?_))
     refine VRunO.joinB 8 [65,66,67,68,69,70,71] 72 (tB (decide ((g.Cols≤((i:Nat):Int))∧((s1[i - g.Cols.toNat]?.getD false)=true)))) ?_ ?_
     ·refine gw (g.Cols≤((i:Nat):Int)) (fun fhg64_10=> ?_) fun fhg64_10=> ?_
      ·refine gF (dy fhg64_10) rfl rfl (OF.move (tv (T.os 1 1 0 ((s1.map (Qm true)).length)) rfl)) ?_
       refine gF (dy fhg64_10) rfl rfl (OF.move (tv (tN i) rfl)) (Yn (tI g.Cols) (dy fhg64_10) rfl rfl rfl rfl Q7 rfl rfl Q0 (gF (dy fhg64_10) rfl rfl (B.sub (n:=((i - g.Cols.toNat:Nat):Int)) (tv (tN i) rfl) (tv (tI g.Cols) rfl) (by (rw [Qy (by omega)];omega))) ?_))
       have hy11:s1[i - g.Cols.toNat]? =some (s1[i - g.Cols.toNat]?.getD false):=Jj false (by omega)
       refine gF (dy fhg64_10) rfl rfl (B.indexAddrO (i:=i - g.Cols.toNat) (tv (T.os 1 1 0 ((s1.map (Qm true)).length)) rfl) (tv (tN (i - g.Cols.toNat)) rfl) rfl (by (simp only [List.length_map];omega)) YA sz4 if4) (gL (dy fhg64_10) rfl rfl (OL.loadP1 (t:=(tB (s1[i - g.Cols.toNat]?.getD false))) (row:=(Qm true (s1[i - g.Cols.toNat]?.getD false))) (tv (T.orp 1 1 (i - g.Cols.toNat) 0) rfl) rfl (QA _ hy11) rfl rfl st4) (gF (dz fhg59_9) rfl rfl (OF.pickT (VEv.tmpB rfl (dy fhg64_10)) (tv (tB (s1[i - g.Cols.toNat]?.getD false)) rfl)) (VRunO.nil ?_)))
       exact jq (congrArg T.bool (kAT fhg64_10 (dT _))) (js rfl (js rfl (js rfl (js rfl (js rfl (js rfl (js rfl (jn))))))))
      ·refine QC 7 28 true 64 (dz fhg64_10) rfl rfl rfl ?_
       refine gF (dz fhg59_9) rfl rfl (OF.pickF (VEv.tmpB rfl (dz fhg64_10)) (VEv.bool false)) (VRunO.nil ?_)
       exact jq (congrArg T.bool (kAF fhg64_10)) (js rfl (js rfl (js rfl (js rfl (js rfl (js rfl (js rfl (jn))))))))
     refine fO (OF.pickF (VEv.tmpB rfl (dz fhg59_9)) (tv (tB (decide ((g.Cols≤((i:Nat):Int))∧((s1[i - g.Cols.toNat]?.getD false)=true)))) rfl)) (VRunO.nil ?_)
     exact jq (congrArg T.bool (kOF fhg59_9 rfl)) (js rfl (js rfl (js rfl (js rfl (js rfl (js rfl (js rfl (js rfl (js rfl (js rfl (js rfl (js rfl (js rfl (jn))))))))))))))
   refine mO (tB (decide ((((0<m)∧((s1[i - 1]?.getD false)=true))∨(((((m+1):Nat):Int)<g.Cols)∧((s1[(i+1)]?.getD false)=true)))∨((g.Cols≤((i:Nat):Int))∧((s1[i - g.Cols.toNat]?.getD false)=true))))) rfl ?_
   refine VRunO.joinB 17 [75,76,77,78,79,80,81,82,83,84,85,86,87,88,89,90] 91 (tB (decide (((((0<m)∧((s1[i - 1]?.getD false)=true))∨(((((m+1):Nat):Int)<g.Cols)∧((s1[(i+1)]?.getD false)=true)))∨((g.Cols≤((i:Nat):Int))∧((s1[i - g.Cols.toNat]?.getD false)=true)))∨((i+g.Cols.toNat<s1.length)∧((s1[i+g.Cols.toNat]?.getD false)=true))))) ?_ ?_
   ·refine gw ((((0<m)∧((s1[i - 1]?.getD false)=true))∨(((((m+1):Nat):Int)<g.Cols)∧((s1[(i+1)]?.getD false)=true)))∨((g.Cols≤((i:Nat):Int))∧((s1[i - g.Cols.toNat]?.getD false)=true))) (fun fhg74_12=> ?_) fun fhg74_12=> ?_
    ·refine QC 8 38 false 74 (dy fhg74_12) rfl rfl rfl ?_
     refine JA 7 46 true 82 rfl rfl rfl (oO rfl rfl (dy fhg74_12) (fO (OF.pickT (VEv.tmpB rfl (dy fhg74_12)) (VEv.bool true)) (VRunO.nil ?_)))
     exact jq (congrArg T.bool (kOT fhg74_12)) (js rfl (js rfl (js rfl (js rfl (js rfl (js rfl (js rfl (js rfl (js rfl (js rfl (js rfl (js rfl (js rfl (js rfl (js rfl (js rfl (jn)))))))))))))))))
    ·refine gF (dz fhg74_12) rfl rfl (OF.move (tv (tN i) rfl)) ?_
     refine Yn (tI g.Cols) (dz fhg74_12) rfl rfl rfl rfl Q7 rfl rfl Q0 (gF (dz fhg74_12) rfl rfl (B.add (n:=((i+g.Cols.toNat:Nat):Int)) (tv (tN i) rfl) (tv (tI g.Cols) rfl) (by (rw [Qy (by omega)];omega))) (gF (dz fhg74_12) rfl rfl (OF.move (tv (T.os 1 1 0 ((s1.map (Qm true)).length)) rfl)) (gL (dz fhg74_12) rfl rfl (B.lenO (m:=s1.length) (tv (T.os 1 1 0 ((s1.map (Qm true)).length)) rfl) YA (List.length_map ..)) (gF (dz fhg74_12) rfl rfl (Zt (tv (tN (i+g.Cols.toNat)) rfl) (tv (tN s1.length) rfl)) (gF (dz fhg74_12) rfl rfl (OF.move (tv (tB (decide (i+g.Cols.toNat<s1.length))) rfl)) ?_)))))
     refine VRunO.joinB 8 [83,84,85,86,87,88,89] 90 (tB (decide ((i+g.Cols.toNat<s1.length)∧((s1[i+g.Cols.toNat]?.getD false)=true)))) ?_ ?_
     ·refine gw (i+g.Cols.toNat<s1.length) (fun fhg82_13=> ?_) fun fhg82_13=> ?_
      ·refine gF (dy fhg82_13) rfl rfl (OF.move (tv (T.os 1 1 0 ((s1.map (Qm true)).length)) rfl)) ?_
       refine gF (dy fhg82_13) rfl rfl (OF.move (tv (tN i) rfl)) (Yn (tI g.Cols) (dy fhg82_13) rfl rfl rfl rfl Q7 rfl rfl Q0 (gF (dy fhg82_13) rfl rfl (B.add (n:=((i+g.Cols.toNat:Nat):Int)) (tv (tN i) rfl) (tv (tI g.Cols) rfl) (by (rw [Qy (by omega)];omega))) ?_))
       have hy14:s1[i+g.Cols.toNat]? =some (s1[i+g.Cols.toNat]?.getD false):=Jj false (by omega)
       refine gF (dy fhg82_13) rfl rfl (B.indexAddrO (i:=i+g.Cols.toNat) (tv (T.os 1 1 0 ((s1.map (Qm true)).length)) rfl) (tv (tN (i+g.Cols.toNat)) rfl) rfl (by (simp only [List.length_map];omega)) YA sz4 if4) (gL (dy fhg82_13) rfl rfl (OL.loadP1 (t:=(tB (s1[i+g.Cols.toNat]?.getD false))) (row:=(Qm true (s1[i+g.Cols.toNat]?.getD false))) (tv (T.orp 1 1 (i+g.Cols.toNat) 0) rfl) rfl (QA _ hy14) rfl rfl st4) (gF (dz fhg74_12) rfl rfl (OF.pickT (VEv.tmpB rfl (dy fhg82_13)) (tv (tB (s1[i+g.Cols.toNat]?.getD false)) rfl)) (VRunO.nil ?_)))
       exact jq (congrArg T.bool (kAT fhg82_13 (dT _))) (js rfl (js rfl (js rfl (js rfl (js rfl (js rfl (js rfl (jn))))))))
      ·refine QC 7 46 true 82 (dz fhg82_13) rfl rfl rfl ?_
       refine gF (dz fhg74_12) rfl rfl (OF.pickF (VEv.tmpB rfl (dz fhg82_13)) (VEv.bool false)) (VRunO.nil ?_)
       exact jq (congrArg T.bool (kAF fhg82_13)) (js rfl (js rfl (js rfl (js rfl (js rfl (js rfl (js rfl (jn))))))))
     refine fO (OF.pickF (VEv.tmpB rfl (dz fhg74_12)) (tv (tB (decide ((i+g.Cols.toNat<s1.length)∧((s1[i+g.Cols.toNat]?.getD false)=true)))) rfl)) (VRunO.nil ?_)
     exact jq (congrArg T.bool (kOF fhg74_12 rfl)) (js rfl (js rfl (js rfl (js rfl (js rfl (js rfl (js rfl (js rfl (js rfl (js rfl (js rfl (js rfl (js rfl (js rfl (js rfl (js rfl (jn)))))))))))))))))
   refine aO (tB (decide (((((0<m)∧((s1[i - 1]?.getD false)=true))∨(((((m+1):Nat):Int)<g.Cols)∧((s1[(i+1)]?.getD false)=true)))∨((g.Cols≤((i:Nat):Int))∧((s1[i - g.Cols.toNat]?.getD false)=true)))∨((i+g.Cols.toNat<s1.length)∧((s1[i+g.Cols.toNat]?.getD false)=true))))) rfl (nt (sr (mO (tB (decide (((((0<m)∧((s1[i - 1]?.getD false)=true))∨(((((m+1):Nat):Int)<g.Cols)∧((s1[(i+1)]?.getD false)=true)))∨((g.Cols≤((i:Nat):Int))∧((s1[i - g.Cols.toNat]?.getD false)=true)))∨((i+g.Cols.toNat<s1.length)∧((s1[i+g.Cols.toNat]?.getD false)=true))))) rfl (nt ?_))))
   refine cd (((((0<m)∧((s1[i - 1]?.getD false)=true))∨(((((m+1):Nat):Int)<g.Cols)∧((s1[(i+1)]?.getD false)=true)))∨((g.Cols≤((i:Nat):Int))∧((s1[i - g.Cols.toNat]?.getD false)=true)))∨((i+g.Cols.toNat<s1.length)∧((s1[i+g.Cols.toNat]?.getD false)=true))) rfl (fun fhc3=> ?_) fun fhc3=> ?_
   ·rw [hm] at fhc3
    have q1:=Qi9 (g:=g) (s:=s1) (ag:=ag1) (i:=i) ⟨by omega,on_no.2 (fun h=>fhc2 (.inl (e2.symm.trans h))),(QfQ hB.1 fhc1).1 fhc3⟩
    refine sr (mO (T.os 1 1 0 ((s1.map (Qm true)).length)) rfl (mO (tN i) rfl (fO (B.indexAddrO (i:=i) (tv (T.os 1 1 0 ((s1.map (Qm true)).length)) rfl) (tv (tN i) rfl) rfl (by (simp only [List.length_map];omega)) YA sz4 if4) (cO (B.storeP (us:= [(tB true)]) (rows':=((s1.set i true).map (Qm true))) (row:=(Qm true x2)) (tv (T.orp 1 1 i 0) rfl) (VEv.bool true) nofun rfl (QA _ hx2) rfl (lb rfl) if4 sz4 (bc rfl bn) (by intro r hr t ht;obtain ⟨x,_,rfl⟩:=List.mem_map.1 hr;rw [QeQ] at ht;exact Zs (okBool.pl _ t ht)) (Zm rfl)) (nt (VRun.region (fO (OF.assign (VEv.bool true)) (VRunO.nil (vinB.n (tn (VRun.region ?_)))))))))))
    refine mO (tN i) rfl (fO (QF (tv (tN i) rfl) (VEv.int .i64 1) (by omega)) (aO (tN (i+1)) rfl (VRunO.nil (tn ?_))))
    have he15:(s1.set i true)=(Yj g s1 i):=by exact q1.1
    refine ⟨((i+1,Yj g s1 i,QaV g ag1 s1 i):Nat×(List Bool)×Bool),?_,?_,Wk.mk (fun k=>k) ?_ ?_ ?_⟩
    ·exact hI'.next fhc1
    ·show (Yj g s1 i).length - (i+1)<s1.length - i
     have e1:(Yj g s1 i).length=s1.length:=by unfold Yj;split<;>simp
     rw [e1];omega
    ·exact (bc ⟨(congrArg (fun n_=>T.os 1 1 0 n_) (show (s1.map (Qm true)).length=((Yj g s1 i).map (Qm true)).length from (by (rw [← q1.1];simp;done)))),rfl⟩ (b2 (b2 (bc ⟨(congrArg T.bool (show true=(QaV g ag1 s1 i) from (by exact q1.2))),rfl⟩ (b2 bn)))))
    ·exact (b3 (bc ⟨(congrArg (fun l_=>some (Obj.rows 1 (List.map (Qm true) l_))) he15),(lb rfl),rfl⟩ bn))
    ·exact nd rfl
   rw [hm] at fhc3
   have q1:=QgM (g:=g) (s:=s1) (ag:=ag1) (i:=i) (by rintro ⟨h1,h2,h3⟩;exact fhc3 ((QfQ hB.1 fhc1).2 h3))
   refine sk (vinB.n (tn (VRun.region (mO (tN i) rfl (fO (QF (tv (tN i) rfl) (VEv.int .i64 1) (by omega)) (aO (tN (i+1)) rfl (VRunO.nil (tn ?_))))))))
   have he16:s1=(Yj g s1 i):=by exact q1.1
   refine ⟨((i+1,Yj g s1 i,QaV g ag1 s1 i):Nat×(List Bool)×Bool),?_,?_,Wk.mk (fun k=>k) ?_ ?_ ?_⟩
   ·exact hI'.next fhc1
   ·show (Yj g s1 i).length - (i+1)<s1.length - i
    have e1:(Yj g s1 i).length=s1.length:=by unfold Yj;split<;>simp
    rw [e1];omega
   ·exact (bc ⟨(congrArg (fun l_=>T.os 1 1 0 (List.map (Qm true) l_).length) he16),rfl⟩ (b2 (b2 (bc ⟨(congrArg T.bool (show ag1=(QaV g ag1 s1 i) from (by exact q1.2))),rfl⟩ (b2 bn)))))
   ·exact (b3 (bc ⟨(congrArg (fun l_=>some (Obj.rows 1 (List.map (Qm true) l_))) he16),(lb rfl),rfl⟩ bn))
   ·exact nd rfl
  refine VRun.exit (vthn.e (vthn.e (vinB.e (vinB.n (tn ?_)))))
  refine ⟨((ag1,s1):Bool×(List Bool)),?_,?_,Wk.mk (fun k=>k) ?_ ?_ ?_⟩
  ·exact hI'.done fhc1
  ·exact hI'.dec fhc0
  ·exact (b2 (b2 (b2 (b2 bn))))
  ·exact (b3 (b3 bn))
  ·exact nd rfl
 have fhc0:ag=false:=hc0
 refine VRun.exit (vthn.e (vthn.e (vinB.e (tn (sr (mO (T.os 1 1 0 ((s.map (Qm true)).length)) rfl (aO (T.os 1 1 0 ((s.map (Qm true)).length)) rfl (nt (rt ?_)))))))))
 have hnew:s=Q6 g (seen.set cell true):=by
  exact hI'.done (by simp [fhc0])
 exact vloan.r 1 (VRes.tmp (t:=(T.os 1 1 0 ((s.map (Qm true)).length))) rfl VRes.nil) (congrArg (fun l_=>T.os 1 1 0 (List.map (Qm true) l_).length) hnew) (congrArg (fun n_=>T.os 1 1 0 n_) (show (s.map (Qm true)).length=(seen.map (Qm true)).length from (by (simp only [List.length_map,Qa5,List.length_set];omega)))) rfl (congrArg (List.map (Qm true)) hnew)
end Go.Proofs.YthifchndolccgaaGreatDoor.AE
namespace Go.Proofs.YthifchndolccgaaGreatDoor.AE
open Go Go.RowKit
set_option linter.unusedVariables false
set_option linter.unusedSimpArgs false
set_option maxRecDepth 20000
set_option maxHeartbeats 2000000
noncomputable section
def Qd3 (a b:List Bool):List Bool:=List.zipWith (fun x y=>x || y) a b
def Zz (a b:List Bool) (k:Nat):List Bool:=(Qd3 a b).take k++a.drop k
theorem Y5 {a b:List Bool} (h:b.length=a.length):(Qd3 a b).length=a.length:=by simp [Qd3,h]
theorem Qch {a b:List Bool} {k:Nat} (h:b.length=a.length) (hk:k≤a.length):(Zz a b k).length=a.length:=by
 unfold Zz
 rw [List.length_append,List.length_take,Y5 h,List.length_drop];omega
theorem QiB {a b:List Bool} {k:Nat} {x:Bool} (h:b.length=a.length) (hk:k<a.length) (hx:(Zz a b k)[k]? =some x):x=on a k:=by
 unfold Zz at hx
 rw [List.getElem?_append_right (by rw [List.length_take,Y5 h];omega),List.length_take,Y5 h,Nat.min_eq_left (by omega),Nat.sub_self,List.getElem?_drop,Nat.add_zero] at hx
 rw [on,hx];rfl
theorem Qgu {a b:List Bool} (h:b.length=a.length) (j:Nat):on (Qd3 a b) j=(on a j || on b j):=by
 unfold on Qd3
 rw [List.getElem?_zipWith]
 rcases Nat.lt_or_ge j a.length with h1 | h1
 ·rw [List.getElem?_eq_getElem h1,List.getElem?_eq_getElem (by omega)];rfl
 ·rw [List.getElem?_eq_none h1,List.getElem?_eq_none (by omega)];rfl
theorem Qf9 {a b:List Bool} {k:Nat} {v:Bool} (h:b.length=a.length) (hk:k<a.length) (hv:v=(on a k || on b k)):(Zz a b k).set k v=Zz a b (k+1):=by
 have hl:=Y5 h
 have hu:(Qd3 a b)[k]? =some v:=by
  have h1:=Qgu h k
  unfold on at h1 hv
  rw [List.getElem?_eq_getElem (by omega)] at h1 ⊢
  rw [hv,← h1];rfl
 unfold Zz
 rw [List.set_append_right _ _ (by rw [List.length_take];omega),List.length_take,hl,Nat.min_eq_left (by omega),Nat.sub_self,List.drop_eq_getElem_cons hk,List.set_cons_zero,List.take_add_one,hu]
 simp
theorem Qgj {a b:List Bool} {k:Nat} (h:b.length=a.length) (hk:¬k<a.length):Zz a b k=Qd3 a b:=by
 unfold Zz
 rw [List.take_of_length_le (by rw [Y5 h];omega),List.drop_of_length_le (by omega),List.append_nil]
def fresh (g:D.Grid) (i:Nat):List Bool:=Q6 g ((List.replicate g.Cells.size false).set i true)
def QbD (g:D.Grid) (s:List Bool) (i:Nat):Prop:=QB g.Cells i=46∧on s i=false
instance (g:D.Grid) (s:List Bool) (i:Nat):Decidable (QbD g s i):=Classical.propDecidable _
def Qn (g:D.Grid):Nat→Nat×List Bool
 | 0=>(0,List.replicate g.Cells.size false)
 | i+1=>if QbD g (Qn g i).2 i then ((Qn g i).1+1,Qd3 (Qn g i).2 (fresh g i)) else Qn g i
theorem JK (g:D.Grid) (i:Nat):(fresh g i).length=g.Cells.size:=by simp [fresh,Qa5]
theorem YB (g:D.Grid):∀i,(Qn g i).2.length=g.Cells.size
 | 0=>by simp [Qn]
 | i+1=>by
  have h:=YB g i
  unfold Qn
  split
  ·simp only;rw [Y5 (by rw [JK,h])];exact h
  ·exact h
theorem Qcm (g:D.Grid):∀i,(Qn g i).1≤i
 | 0=>Nat.le_refl _
 | i+1=>by
  have h:=Qcm g i
  unfold Qn
  split
  ·simp only;omega
  ·omega
theorem Qb1 {g:D.Grid} {i:Nat} (h:QbD g (Qn g i).2 i):(Qn g (i+1)).1=(Qn g i).1+1∧(Qn g (i+1)).2=Qd3 (Qn g i).2 (fresh g i):=by
 rw [Qn,if_pos h];exact ⟨rfl,rfl⟩
theorem Qat {g:D.Grid} {i:Nat} (h:¬QbD g (Qn g i).2 i):Qn g (i+1)=Qn g i:=by
 rw [Qn,if_neg h]
def ZJ (g:D.Grid):Nat:=if gridOk g then (Qn g g.Cells.size).1 else 0
theorem Qem {g:D.Grid} {i:Nat} (h1:i≤g.Cells.size) (h2:gridOk g∨i=0) (h3:¬(i<g.Cells.size∧gridOk g)):(Qn g i).1=ZJ g:=by
 unfold ZJ
 by_cases hg:gridOk g
 ·rw [if_pos hg,show i=g.Cells.size by have:¬i<g.Cells.size:=fun h=>h3 ⟨h,hg⟩;omega]
 ·rw [if_neg hg,h2.resolve_left hg];rfl
theorem orB (x y:Bool):decide (x=true∨y=true)=(x || y):=by cases x<;>cases y<;>rfl
end
theorem Qdc (n:Nat) (g:D.Grid) (hc:g.Cells.size≤mx):Pure (Qr Tryz.prog (n+3)) 98 [(T.agg (Qa false g))] (tN (ZJ g)):=by
 refine Pure.intro (rs:= [ResultVar.tmp 2]) Tryz.func98 rfl rfl rfl (E0:= [(0,(T.agg (Qa false g)))]) rfl ?_
 obtain ⟨hlim,hmx,hmax⟩:=QJ
 refine sr (kO (B.box (ts:=(Qa false g)) (tv (T.agg (Qa false g)) rfl) nofun rfl) (fO (OF.assign (VEv.int .i64 0)) (nt (sr (fO (OF.assign (VEv.int .i64 0)) (nt (sr (kO (OM.slice0 YA zo4 (by kernel_rfl) rfl (by rw [sz4];decide) sz4) (aO (T.os 1 1 0 0) rfl (nt (sq ?_)))))))))))
 refine sr (fO (OF.assign (VEv.int .i64 0)) (nt (VRun.block ?_)))
 have he1: []=((List.replicate 0 false).map (Qm true)):=by rfl
 refine VRun.loop (A:=Nat) (fun s_=> [(1,(T.op 0 0)),(2,(tN 0)),(3,(tN 0)),(4,(T.os 1 1 0 (((List.replicate s_ false).map (Qm true)).length))),(5,(tN s_))]) (fun s_=>Q3 [(0,(Obj.cells (Qa false g))),(1,(Obj.rows 1 ((List.replicate s_ false).map (Qm true))))]) 2 (fun s_=>s_≤g.Cells.size) (fun s_=>g.Cells.size - s_) (0:Nat) ?_ (Wk.mk (fun k=>k) ?_ ?_ ?_) ?_
 ·(simp;done)
 ·exact (b2 (b2 (b2 (bc ⟨(congrArg (fun n_=>T.os 1 1 0 n_) (show 0=((List.replicate 0 false).map (Qm true)).length from (by rfl))),rfl⟩ (b2 bn)))))
 ·exact (b3 (bc ⟨(congrArg (fun l_=>some (Obj.rows 1 l_)) he1),(lb rfl),rfl⟩ bn))
 ·exact nd rfl
 rintro k (hI':k≤g.Cells.size)
 show VRun _ _ _ [(1,(T.op 0 0)),(2,(tN 0)),(3,(tN 0)),(4,(T.os 1 1 0 (((List.replicate k false).map (Qm true)).length))),(5,(tN k))] (Q3 [(0,(Obj.cells (Qa false g))),(1,(Obj.rows 1 ((List.replicate k false).map (Qm true))))]) 2 _
 have hK1:=hI'
 refine sq (sr (mO (tN k) rfl (lf (tS g.Cells) rfl QD rfl rfl Z3 (lO (B.lenS (tv (tS g.Cells) rfl) U9) (fO (Zt (tv (tN k) rfl) (tv (tN g.Cells.size) rfl)) (nt ?_))))))
 refine cd (k<g.Cells.size) rfl (fun fhc0=> ?_) fun fhc0=> ?_
 ·refine sk ?_
  refine tn (sq (VRun.block (VRun.region (mO (T.os 1 1 0 (((List.replicate k false).map (Qm true)).length)) rfl (kO (OM.buildSlice (l:= [(tB false)]) (VEvp.cons (VEv.bool false) VEvp.nil) rfl (by decide) (bc (nofun) bn) (bc ((bc (rfl) bn)) bn) (bc (rfl) bn) YA zo4 (by kernel_rfl) rfl (by rw [sz4];decide) sz4 (Nat.le_of_ble_eq_true rfl)) (cO (B.append (rows:=((List.replicate k false).map (Qm true))) (rows2:= [[(tB false)]]) (rows3:=((List.replicate k false++ [false]).map (Qm true))) (VDst.own (tv (T.os 1 1 0 (((List.replicate k false).map (Qm true)).length)) rfl) rfl rfl) (VSrc.own (tv (T.os 1 2 0 1) rfl) rfl rfl YA (bc (bc rfl bn) bn)) (by decide) YA sz4 (by decide) zo4 rfl (of_decide_eq_true (by kernel_rfl)) (by (simp only [List.length_map,List.length_append,List.length_cons,List.length_nil,List.length_replicate,List.length_set,List.length_drop,List.length_take,Yd] at *;omega)) ((List.map_append (f:=Qm true) (l₁:=List.replicate k false) (l₂:= [false])).symm)) (aO (T.os 1 3 0 (((List.replicate k false++ [false]).map (Qm true)).length)) rfl (VRunO.nil (vinB.n (tn (VRun.region ?_)))))))))))
  refine mO (tN k) rfl (fO (QF (tv (tN k) rfl) (VEv.int .i64 1) (by omega)) (aO (tN (k+1)) rfl (VRunO.nil (tn ?_))))
  have he2:(List.replicate k false++ [false])=List.replicate (k+1) false:=by rw [List.replicate_succ']
  refine ⟨(k+1:Nat),?_,?_,Wk.mk (fun k=>if k=1 then 3 else k) ?_ ?_ ?_⟩
  ·trivial
  ·omega
  ·exact (b2 (b2 (b2 (bc ⟨(congrArg (fun l_=>T.os 1 3 0 (List.map (Qm true) l_).length) he2),rfl⟩ (b2 bn)))))
  ·exact (b3 (bc ⟨(congrArg (fun l_=>some (Obj.rows 1 (List.map (Qm true) l_))) he2),(lb rfl),rfl⟩ bn))
  ·exact nd rfl
 refine VRun.exit (vthn.e (vthn.e (vinB.e (tn (sq (sr (fO (OF.assign (VEv.int .i64 0)) (nt (VRun.block ?_)))))))))
 have he3:List.replicate k false=(Qn g 0).2:=by (show List.replicate k false=List.replicate g.Cells.size false;rw [show k=g.Cells.size by omega])
 refine VRun.loop (A:=Nat) (fun s_=> [(1,(T.op 0 0)),(2,(tN 0)),(3,(tN ((Qn g s_).1))),(4,(T.os 1 1 0 ((((Qn g s_).2).map (Qm true)).length))),(6,(tN s_))]) (fun s_=>Q3 [(0,(Obj.cells (Qa false g))),(1,(Obj.rows 1 (((Qn g s_).2).map (Qm true))))]) 2 (fun s_=>s_≤g.Cells.size∧(gridOk g∨s_=0)) (fun s_=>g.Cells.size - s_) (0:Nat) ?_ (Wk.mk (fun k=>k) ?_ ?_ ?_) ?_
 ·exact ⟨Nat.zero_le _, .inr rfl⟩
 ·exact (b2 (b2 (bc ⟨(congrArg (T.int .i64) (show 0=(((Qn g 0).1:Nat):Int) from (by rfl))),rfl⟩ (bc ⟨(congrArg (fun l_=>T.os 1 1 0 (List.map (Qm true) l_).length) he3),rfl⟩ (b2 bn)))))
 ·exact (b3 (bc ⟨(congrArg (fun l_=>some (Obj.rows 1 (List.map (Qm true) l_))) he3),(lb rfl),rfl⟩ bn))
 ·exact nd rfl
 rintro i (hI':i≤g.Cells.size∧(gridOk g∨i=0))
 show VRun _ _ _ [(1,(T.op 0 0)),(2,(tN 0)),(3,(tN ((Qn g i).1))),(4,(T.os 1 1 0 ((((Qn g i).2).map (Qm true)).length))),(6,(tN i))] (Q3 [(0,(Obj.cells (Qa false g))),(1,(Obj.rows 1 (((Qn g i).2).map (Qm true))))]) 2 _
 have hI1:=hI'.1
 have hpl:=YB g i
 have hpn:=Qcm g i
 refine sq (sr (mO (tN i) rfl (lf (tS g.Cells) rfl QD rfl rfl Z3 (lO (B.lenS (tv (tS g.Cells) rfl) U9) (fO (Zt (tv (tN i) rfl) (tv (tN g.Cells.size) rfl)) (mO (tB (decide (i<g.Cells.size))) rfl ?_))))))
 refine VRunO.joinB 3 [27,28] 29 (tB (decide ((i<g.Cells.size)∧(gridOk g)))) ?_ ?_
 ·refine gw (i<g.Cells.size) (fun fhg26_4=> ?_) fun fhg26_4=> ?_
  ·refine gL (dy fhg26_4) rfl rfl (OL.loadOn (us:=(Qa false g)) (tv (T.op 0 0) rfl) rfl QY QR (lb rfl) rfl) ?_
   refine VRunO.chain (VWant.on rfl rfl (dy fhg26_4)) (cS (vc (tv (T.agg (Qa false g)) rfl) vn) (LendL.cons (lg Qt) ln) (Zr (n+0) g (by omega)) rfl rfl) (fO (OF.pickT (VEv.tmpB rfl (dy fhg26_4)) (tv (tB (decide (gridOk g))) rfl)) (VRunO.nil ?_))
   exact jq (congrArg T.bool (kAT fhg26_4 rfl)) (js rfl (js rfl (jn)))
  ·refine QC 2 5 true 26 (dz fhg26_4) rfl rfl rfl ?_
   refine fO (OF.pickF (VEv.tmpB rfl (dz fhg26_4)) (VEv.bool false)) (VRunO.nil ?_)
   exact jq (congrArg T.bool (kAF fhg26_4)) (js rfl (js rfl (jn)))
 refine nt ?_
 refine cd ((i<g.Cells.size)∧(gridOk g)) rfl (fun fhc1=> ?_) fun fhc1=> ?_
 ·refine sk ?_
  refine tn (sq (VRun.block (sr (lf (tS g.Cells) rfl QD rfl rfl Z3 (mO (tN i) rfl ?_)))))
  have hb5:i<g.Cells.size:=(by omega)
  refine fO (xix (tv (tS g.Cells) rfl) (tv (tN i) rfl) hb5 U9) (fO (YR (tv (T.int .u8 (QB g.Cells i)) rfl) (VEv.int .u8 46)) (mO (tB (decide (QB g.Cells i=46))) rfl ?_))
  refine VRunO.joinB 6 [38,39,40,41,42] 43 (tB (decide ((QB g.Cells i=46)∧((!(((Qn g i).2)[i]?.getD false))=true)))) ?_ ?_
  ·refine gw (QB g.Cells i=46) (fun fhg37_6=> ?_) fun fhg37_6=> ?_
   ·refine gF (dy fhg37_6) rfl rfl (OF.move (tv (T.os 1 1 0 ((((Qn g i).2).map (Qm true)).length)) rfl)) ?_
    refine gF (dy fhg37_6) rfl rfl (OF.move (tv (tN i) rfl)) ?_
    have hy7:((Qn g i).2)[i]? =some (((Qn g i).2)[i]?.getD false):=Jj false (by omega)
    refine gF (dy fhg37_6) rfl rfl (B.indexAddrO (i:=i) (tv (T.os 1 1 0 ((((Qn g i).2).map (Qm true)).length)) rfl) (tv (tN i) rfl) rfl (by (simp only [List.length_map];omega)) YA sz4 if4) (gL (dy fhg37_6) rfl rfl (OL.loadP1 (t:=(tB (((Qn g i).2)[i]?.getD false))) (row:=(Qm true (((Qn g i).2)[i]?.getD false))) (tv (T.orp 1 1 i 0) rfl) rfl (QA _ hy7) rfl rfl st4) (gF (dy fhg37_6) rfl rfl (Q1 (tv (tB (((Qn g i).2)[i]?.getD false)) rfl)) (fO (OF.pickT (VEv.tmpB rfl (dy fhg37_6)) (tv (tB (!(((Qn g i).2)[i]?.getD false))) rfl)) (VRunO.nil ?_))))
    exact jq (congrArg T.bool (kAT fhg37_6 (dT _))) (js rfl (js rfl (js rfl (js rfl (js rfl (jn))))))
   ·refine QC 5 5 true 37 (dz fhg37_6) rfl rfl rfl ?_
    refine fO (OF.pickF (VEv.tmpB rfl (dz fhg37_6)) (VEv.bool false)) (VRunO.nil ?_)
    exact jq (congrArg T.bool (kAF fhg37_6)) (js rfl (js rfl (js rfl (js rfl (js rfl (jn))))))
  refine nt ?_
  refine cd ((QB g.Cells i=46)∧((!(((Qn g i).2)[i]?.getD false))=true)) rfl (fun fhc2=> ?_) fun fhc2=> ?_
  ·have q0:QbD g (Qn g i).2 i:=⟨fhc2.1,by simpa [on] using fhc2.2⟩
   have q1:=Qb1 q0
   have hgs:=fhc1.2.size
   refine sr (mO (tN ((Qn g i).1)) rfl (fO (QF (tv (tN ((Qn g i).1)) rfl) (VEv.int .i64 1) (by omega)) (aO (tN ((Qn g i).1+1)) rfl (nt (sr (kO (OM.slice0 YA zo4 (by kernel_rfl) rfl (by rw [sz4];decide) sz4) (aO (T.os 1 2 0 0) rfl (nt (sq (sr (fO (OF.assign (VEv.int .i64 0)) ?_)))))))))))
   refine nt (VRun.block ?_)
   have he8: []=((List.replicate 0 false).map (Qm true)):=by rfl
   refine VRun.loop (A:=Nat) (fun s_=> [(1,(T.op 0 0)),(2,(tN 0)),(3,(tN ((Qn g i).1+1))),(4,(T.os 1 1 0 ((((Qn g i).2).map (Qm true)).length))),(6,(tN i)),(7,(T.os 1 2 0 (((List.replicate s_ false).map (Qm true)).length))),(8,(tN s_))]) (fun s_=>Q3 [(0,(Obj.cells (Qa false g))),(1,(Obj.rows 1 (((Qn g i).2).map (Qm true)))),(2,(Obj.rows 1 ((List.replicate s_ false).map (Qm true))))]) 3 (fun s_=>s_≤(Qn g i).2.length) (fun s_=>(Qn g i).2.length - s_) (0:Nat) ?_ (Wk.mk (fun k=>k) ?_ ?_ ?_) ?_
   ·(simp;done)
   ·exact (b2 (b2 (b2 (b2 (b2 (bc ⟨(congrArg (fun n_=>T.os 1 2 0 n_) (show 0=((List.replicate 0 false).map (Qm true)).length from (by rfl))),rfl⟩ (b2 bn)))))))
   ·exact (b3 (b3 (bc ⟨(congrArg (fun l_=>some (Obj.rows 1 l_)) he8),(lb rfl),rfl⟩ bn)))
   ·exact nd rfl
   rintro k1 (hI':k1≤(Qn g i).2.length)
   show VRun _ _ _ [(1,(T.op 0 0)),(2,(tN 0)),(3,(tN ((Qn g i).1+1))),(4,(T.os 1 1 0 ((((Qn g i).2).map (Qm true)).length))),(6,(tN i)),(7,(T.os 1 2 0 (((List.replicate k1 false).map (Qm true)).length))),(8,(tN k1))] (Q3 [(0,(Obj.cells (Qa false g))),(1,(Obj.rows 1 (((Qn g i).2).map (Qm true)))),(2,(Obj.rows 1 ((List.replicate k1 false).map (Qm true))))]) 3 _
   have hK1:=hI'
   refine sq (sr (mO (tN k1) rfl (mO (T.os 1 1 0 ((((Qn g i).2).map (Qm true)).length)) rfl (lO (B.lenO (m:=((Qn g i).2).length) (tv (T.os 1 1 0 ((((Qn g i).2).map (Qm true)).length)) rfl) YA (List.length_map ..)) (fO (Zt (tv (tN k1) rfl) (tv (tN (((Qn g i).2).length)) rfl)) (nt ?_))))))
   refine cd (k1<((Qn g i).2).length) rfl (fun fhc3=> ?_) fun fhc3=> ?_
   ·refine sk ?_
    refine tn (sq (VRun.block (VRun.region (mO (T.os 1 2 0 (((List.replicate k1 false).map (Qm true)).length)) rfl (kO (OM.buildSlice (l:= [(tB false)]) (VEvp.cons (VEv.bool false) VEvp.nil) rfl (by decide) (bc (nofun) bn) (bc ((bc (rfl) bn)) bn) (bc (rfl) bn) YA zo4 (by kernel_rfl) rfl (by rw [sz4];decide) sz4 (Nat.le_of_ble_eq_true rfl)) (cO (B.append (rows:=((List.replicate k1 false).map (Qm true))) (rows2:= [[(tB false)]]) (rows3:=((List.replicate k1 false++ [false]).map (Qm true))) (VDst.own (tv (T.os 1 2 0 (((List.replicate k1 false).map (Qm true)).length)) rfl) rfl rfl) (VSrc.own (tv (T.os 1 3 0 1) rfl) rfl rfl YA (bc (bc rfl bn) bn)) (by decide) YA sz4 (by decide) zo4 rfl (of_decide_eq_true (by kernel_rfl)) (by (simp only [List.length_map,List.length_append,List.length_cons,List.length_nil,List.length_replicate,List.length_set,List.length_drop,List.length_take,Yd] at *;omega)) ((List.map_append (f:=Qm true) (l₁:=List.replicate k1 false) (l₂:= [false])).symm)) (aO (T.os 1 4 0 (((List.replicate k1 false++ [false]).map (Qm true)).length)) rfl (VRunO.nil (vinB.n (tn (VRun.region ?_)))))))))))
    refine mO (tN k1) rfl (fO (QF (tv (tN k1) rfl) (VEv.int .i64 1) (by omega)) (aO (tN (k1+1)) rfl (VRunO.nil (tn ?_))))
    have he9:(List.replicate k1 false++ [false])=List.replicate (k1+1) false:=by rw [List.replicate_succ']
    refine ⟨(k1+1:Nat),?_,?_,Wk.mk (fun k=>if k=2 then 4 else k) ?_ ?_ ?_⟩
    ·trivial
    ·omega
    ·exact (b2 (b2 (b2 (b2 (b2 (bc ⟨(congrArg (fun l_=>T.os 1 4 0 (List.map (Qm true) l_).length) he9),rfl⟩ (b2 bn)))))))
    ·exact (b3 (b3 (bc ⟨(congrArg (fun l_=>some (Obj.rows 1 (List.map (Qm true) l_))) he9),(lb rfl),rfl⟩ bn)))
    ·exact nd rfl
   have hk6:k1=g.Cells.size:=by omega
   have hq4:(fresh g i).length=(Qn g i).2.length:=by rw [JK,hpl]
   have hfr:Q6 g ((List.replicate k1 false).set i true)=fresh g i:=by rw [fresh,hk6]
   have hrl:(Q6 g ((List.replicate k1 false).set i true)).length=g.Cells.size:=by rw [hfr,JK]
   refine VRun.exit (vthn.e (vthn.e (vinB.e (tn (sr (lO (OL.loadOn (us:=(Qa false g)) (tv (T.op 0 0) rfl) rfl QY QR (lb rfl) rfl) (mO (T.os 1 2 0 (((List.replicate k1 false).map (Qm true)).length)) rfl (mO (tN i) rfl (cO (OC.callLoan (ts:= [(T.agg (Qa false g)),(T.os 1 0 0 (((List.replicate k1 false).map (Qm true)).length)),(tN i)]) (k:=2) (r:=(T.os 1 0 0 (((Q6 g ((List.replicate k1 false).set i true)).map (Qm true)).length))) (rows:=((List.replicate k1 false).map (Qm true))) (rows':=((Q6 g ((List.replicate k1 false).set i true)).map (Qm true))) rfl (vc (tv (T.agg (Qa false g)) rfl) (vc (tv (T.os 1 2 0 (((List.replicate k1 false).map (Qm true)).length)) rfl) (vc (tv (tN i) rfl) vn))) rfl rfl rfl (LRes.os _ _) rfl (Zq (fun _=>rfl) _) (Zq (fun _=>rfl) _) (QcT (n+1) g (List.replicate k1 false) i (by exact fhc1.2) (by (simp only [List.length_replicate];omega)) (by (simp only [List.length_replicate];omega)))) (aO (T.os 1 2 0 (((Q6 g ((List.replicate k1 false).set i true)).map (Qm true)).length)) rfl (nt ?_)))))))))))
   refine sr (fO (OF.assign (VEv.int .i64 0)) (nt (VRun.block ?_)))
   have he10:(Qn g i).2=Zz (Qn g i).2 (fresh g i) 0:=by rfl
   refine VRun.loop (A:=Nat) (fun s_=> [(1,(T.op 0 0)),(2,(tN 0)),(3,(tN ((Qn g i).1+1))),(4,(T.os 1 2 0 (((Zz (Qn g i).2 (fresh g i) s_).map (Qm true)).length))),(6,(tN i)),(7,(T.os 1 1 0 (((Q6 g ((List.replicate k1 false).set i true)).map (Qm true)).length))),(9,(tN s_))]) (fun s_=>Q3 [(0,(Obj.cells (Qa false g))),(1,(Obj.rows 1 ((Q6 g ((List.replicate k1 false).set i true)).map (Qm true)))),(2,(Obj.rows 1 ((Zz (Qn g i).2 (fresh g i) s_).map (Qm true))))]) 3 (fun s_=>s_≤(Qn g i).2.length) (fun s_=>(Qn g i).2.length - s_) (0:Nat) ?_ (Wk.mk (fun k=>if k=1 then 2 else if k=2 then 1 else k) ?_ ?_ ?_) ?_
   ·(simp;done)
   ·exact (b2 (b2 (b2 (bc ⟨(congrArg (fun l_=>T.os 1 1 0 (List.map (Qm true) l_).length) he10),rfl⟩ (b2 (b2 (b2 bn)))))))
   ·exact (b3 (b3 (bc ⟨(congrArg (fun l_=>some (Obj.rows 1 (List.map (Qm true) l_))) he10),(lb rfl),rfl⟩ bn)))
   ·exact nd rfl
   rintro j (hI':j≤(Qn g i).2.length)
   show VRun _ _ _ [(1,(T.op 0 0)),(2,(tN 0)),(3,(tN ((Qn g i).1+1))),(4,(T.os 1 2 0 (((Zz (Qn g i).2 (fresh g i) j).map (Qm true)).length))),(6,(tN i)),(7,(T.os 1 1 0 (((Q6 g ((List.replicate k1 false).set i true)).map (Qm true)).length))),(9,(tN j))] (Q3 [(0,(Obj.cells (Qa false g))),(1,(Obj.rows 1 ((Q6 g ((List.replicate k1 false).set i true)).map (Qm true)))),(2,(Obj.rows 1 ((Zz (Qn g i).2 (fresh g i) j).map (Qm true))))]) 3 _
   have hJ1:=hI'
   have hzl:=Qch hq4 hJ1
   refine sq (sr (mO (tN j) rfl (mO (T.os 1 2 0 (((Zz (Qn g i).2 (fresh g i) j).map (Qm true)).length)) rfl (lO (B.lenO (m:=(Zz (Qn g i).2 (fresh g i) j).length) (tv (T.os 1 2 0 (((Zz (Qn g i).2 (fresh g i) j).map (Qm true)).length)) rfl) YA (List.length_map ..)) (fO (Zt (tv (tN j) rfl) (tv (tN ((Zz (Qn g i).2 (fresh g i) j).length)) rfl)) (nt ?_))))))
   refine cd (j<(Zz (Qn g i).2 (fresh g i) j).length) rfl (fun fhc4=> ?_) fun fhc4=> ?_
   ·refine sk ?_
    refine tn (sq (VRun.block (VRun.region (mO (T.os 1 2 0 (((Zz (Qn g i).2 (fresh g i) j).map (Qm true)).length)) rfl (mO (tN j) rfl (mO (T.os 1 2 0 (((Zz (Qn g i).2 (fresh g i) j).map (Qm true)).length)) rfl (mO (tN j) rfl ?_)))))))
    obtain ⟨x1,hx1⟩:∃x,(Zz (Qn g i).2 (fresh g i) j)[j]? =some x:=⟨_,List.getElem?_eq_getElem (by omega)⟩
    have e3:x1=on (Qn g i).2 j:=QiB hq4 (by omega) hx1
    refine fO (B.indexAddrO (i:=j) (tv (T.os 1 2 0 (((Zz (Qn g i).2 (fresh g i) j).map (Qm true)).length)) rfl) (tv (tN j) rfl) rfl (by (simp only [List.length_map];omega)) YA sz4 if4) (lO (OL.loadP1 (t:=(tB x1)) (row:=(Qm true x1)) (tv (T.orp 1 2 j 0) rfl) rfl (QA _ hx1) rfl rfl st4) (mO (tB x1) rfl ?_))
    refine VRunO.joinB 5 [73,74,75,76] 77 (tB (decide ((x1=true)∨(((Q6 g ((List.replicate k1 false).set i true))[j]?.getD false)=true)))) ?_ ?_
    ·refine Qdx x1 (fun hg72_11=> ?_) (fun hg72_11=> ?_)
     ·have fhg72_11:x1=true:=hg72_11
      refine QC 4 6 false 72 hg72_11 rfl rfl rfl (fO (OF.pickT (VEv.tmpB rfl hg72_11) (VEv.bool true)) (VRunO.nil ?_))
      exact jq (congrArg T.bool (jOT (dT _) hg72_11)) (js rfl (js rfl (js rfl (js rfl (jn)))))
     ·have fhg72_11:x1=false:=hg72_11
      refine gF hg72_11 rfl rfl (OF.move (tv (T.os 1 1 0 (((Q6 g ((List.replicate k1 false).set i true)).map (Qm true)).length)) rfl)) (gF hg72_11 rfl rfl (OF.move (tv (tN j) rfl)) ?_)
      have hy12:(Q6 g ((List.replicate k1 false).set i true))[j]? =some ((Q6 g ((List.replicate k1 false).set i true))[j]?.getD false):=Jj false (by omega)
      refine gF hg72_11 rfl rfl (B.indexAddrO (i:=j) (tv (T.os 1 1 0 (((Q6 g ((List.replicate k1 false).set i true)).map (Qm true)).length)) rfl) (tv (tN j) rfl) rfl (by (simp only [List.length_map];omega)) YA sz4 if4) (gL hg72_11 rfl rfl (OL.loadP1 (t:=(tB ((Q6 g ((List.replicate k1 false).set i true))[j]?.getD false))) (row:=(Qm true ((Q6 g ((List.replicate k1 false).set i true))[j]?.getD false))) (tv (T.orp 1 1 j 0) rfl) rfl (QA _ hy12) rfl rfl st4) (fO (OF.pickF (VEv.tmpB rfl hg72_11) (tv (tB ((Q6 g ((List.replicate k1 false).set i true))[j]?.getD false)) rfl)) (VRunO.nil ?_)))
      exact jq (congrArg T.bool (jOF (dT _) hg72_11 (dT _))) (js rfl (js rfl (js rfl (js rfl (jn)))))
    refine fO (B.indexAddrO (i:=j) (tv (T.os 1 2 0 (((Zz (Qn g i).2 (fresh g i) j).map (Qm true)).length)) rfl) (tv (tN j) rfl) rfl (by (simp only [List.length_map];omega)) YA sz4 if4) (cO (B.storeP (us:= [(tB (decide ((x1=true)∨(((Q6 g ((List.replicate k1 false).set i true))[j]?.getD false)=true))))]) (rows':=(((Zz (Qn g i).2 (fresh g i) j).set j (decide ((x1=true)∨(((Q6 g ((List.replicate k1 false).set i true))[j]?.getD false)=true)))).map (Qm true))) (row:=(Qm true x1)) (tv (T.orp 1 2 j 0) rfl) (tv (tB (decide ((x1=true)∨(((Q6 g ((List.replicate k1 false).set i true))[j]?.getD false)=true)))) rfl) nofun rfl (QA _ hx1) rfl (lb rfl) if4 sz4 (bc rfl bn) (by intro r hr t ht;obtain ⟨x,_,rfl⟩:=List.mem_map.1 hr;rw [QeQ] at ht;exact Zs (okBool.pl _ t ht)) (Zm rfl)) (VRunO.nil (vinB.n (tn (VRun.region (mO (tN j) rfl (fO (QF (tv (tN j) rfl) (VEv.int .i64 1) (by omega)) (aO (tN (j+1)) rfl (VRunO.nil (tn ?_))))))))))
    have he13:((Zz (Qn g i).2 (fresh g i) j).set j (decide ((x1=true)∨(((Q6 g ((List.replicate k1 false).set i true))[j]?.getD false)=true))))=Zz (Qn g i).2 (fresh g i) (j+1):=by (refine Qf9 hq4 (by omega) ?_;rw [e3,hfr];exact orB _ _)
    refine ⟨(j+1:Nat),?_,?_,Wk.mk (fun k=>k) ?_ ?_ ?_⟩
    ·omega
    ·omega
    ·exact (b2 (b2 (b2 (bc ⟨(congrArg (fun n_=>T.os 1 2 0 n_) (show ((Zz (Qn g i).2 (fresh g i) j).map (Qm true)).length=((Zz (Qn g i).2 (fresh g i) (j+1)).map (Qm true)).length from (by (simp only [List.length_map,List.length_set];rw [Qch hq4 hJ1,Qch hq4 (by omega)])))),rfl⟩ (b2 (b2 (b2 bn)))))))
    ·exact (b3 (b3 (bc ⟨(congrArg (fun l_=>some (Obj.rows 1 (List.map (Qm true) l_))) he13),(lb rfl),rfl⟩ bn)))
    ·exact nd rfl
   have hq5:¬j<(Qn g i).2.length:=by omega
   refine VRun.exit (vthn.e (vthn.e (vinB.e (vinB.n (tn (VRun.region (mO (tN i) rfl (fO (QF (tv (tN i) rfl) (VEv.int .i64 1) (by omega)) (aO (tN (i+1)) rfl (VRunO.nil (tn ?_)))))))))))
   have he14:Zz (Qn g i).2 (fresh g i) j=(Qn g (i+1)).2:=by (rw [q1.2];exact Qgj hq4 hq5)
   refine ⟨(i+1:Nat),?_,?_,Wk.mk (fun k=>if k=1 then 2 else k) ?_ ?_ ?_⟩
   ·exact ⟨by omega, .inl fhc1.2⟩
   ·omega
   ·exact (b2 (b2 (bc ⟨(congrArg (T.int .i64) (show ((((Qn g i).1+1):Nat):Int)=(((Qn g (i+1)).1:Nat):Int) from (by omega))),rfl⟩ (bc ⟨(congrArg (fun l_=>T.os 1 2 0 (List.map (Qm true) l_).length) he14),rfl⟩ (b2 bn)))))
   ·exact (b3 (bc ⟨(congrArg (fun l_=>some (Obj.rows 1 (List.map (Qm true) l_))) he14),(lb rfl),rfl⟩ bn))
   ·exact nd rfl
  have q0:¬QbD g (Qn g i).2 i:=fun h=>fhc2 ⟨h.1,by have:=h.2;unfold on at this;rw [this];rfl⟩
  refine sk (vinB.n (tn (VRun.region (mO (tN i) rfl (fO (QF (tv (tN i) rfl) (VEv.int .i64 1) (by omega)) (aO (tN (i+1)) rfl (VRunO.nil (tn ?_))))))))
  have he15:(Qn g i).2=(Qn g (i+1)).2:=by (rw [Qat q0];done)
  refine ⟨(i+1:Nat),?_,?_,Wk.mk (fun k=>k) ?_ ?_ ?_⟩
  ·exact ⟨by omega, .inl fhc1.2⟩
  ·omega
  ·exact (b2 (b2 (bc ⟨(congrArg (T.int .i64) (show (((Qn g i).1:Nat):Int)=(((Qn g (i+1)).1:Nat):Int) from (by (rw [Qat q0];done)))),rfl⟩ (bc ⟨(congrArg (fun l_=>T.os 1 1 0 (List.map (Qm true) l_).length) he15),rfl⟩ (b2 bn)))))
  ·exact (b3 (bc ⟨(congrArg (fun l_=>some (Obj.rows 1 (List.map (Qm true) l_))) he15),(lb rfl),rfl⟩ bn))
  ·exact nd rfl
 refine VRun.exit (vthn.e (vthn.e (vinB.e (tn (sr (mO (tN ((Qn g i).1)) rfl (aO (tN ((Qn g i).1)) rfl (nt (rt (vi (n':=(((Qn g i).1:Nat):Int)) rfl ?_))))))))))
 exact congrArg (fun x:Nat=>(x:Int)) (Qem hI1 hI'.2 fhc1)
end Go.Proofs.YthifchndolccgaaGreatDoor.AE
namespace Go.Proofs.YthifchndolccgaaGreatDoor.AE
open Go Go.RowKit
set_option linter.unusedVariables false
set_option linter.unusedSimpArgs false
set_option maxRecDepth 20000
set_option maxHeartbeats 2000000
noncomputable section
def inG (g:D.Grid) (r c:Int):Prop:=(0≤r∧r<g.Rows)∧(0≤c∧c<g.Cols)
def Zy (g:D.Grid) (r c:Int):Nat:=Int.toNat (r*g.Cols+c)
def Qjw (g:D.Grid) (m:List Bool) (r c:Int):Prop:=inG g r c∧QB g.Cells (Zy g r c)=46∧on m (Zy g r c)=false
instance (g:D.Grid) (m:List Bool) (r c:Int):Decidable (Qjw g m r c):=Classical.propDecidable _
def Yr : Nat→D.Grid→List Bool→Int→Int→List Bool
 | 0,_,m,_,_=>m
 | d+1,g,m,r,c=>if Qjw g m r c then Yr d g (Yr d g (Yr d g (Yr d g (m.set (Zy g r c) true) (r - 1) c) (r+1) c) r (c - 1)) r (c+1) else m
theorem QbB {g:D.Grid} {r c:Int} (hg:gridOk g) (h1:0≤r∧r<g.Rows) (h2:0≤c∧c<g.Cols):(0≤r*g.Cols∧r*g.Cols≤36)∧0≤r*g.Cols+c∧r*g.Cols+c<((g.Cells.size:Nat):Int):=by
 have hs:=hg.2.2.1
 have hz:=hg.size
 have e1:0≤r*g.Cols:=Int.mul_nonneg h1.1 (by omega)
 have e2:(r+1)*g.Cols≤g.Rows*g.Cols:=Int.mul_le_mul_of_nonneg_right (by omega) (by omega)
 rw [Int.add_mul,Int.one_mul] at e2
 omega
theorem Yg {g:D.Grid} (hg:gridOk g) (a b:Nat):Zy g ((a:Nat):Int) ((b:Nat):Int)=a*wG g+b:=by
 obtain ⟨w,hw⟩:=Int.eq_ofNat_of_zero_le (show 0≤g.Cols by have:=hg.2.1;omega)
 unfold Zy wG
 rw [hw]
 show Int.toNat (((a:Nat):Int)*((w:Nat):Int)+((b:Nat):Int))=a*w+b
 rw [← Int.natCast_mul,← Int.natCast_add,Int.toNat_natCast]
theorem Qi3 {g:D.Grid} (hg:gridOk g):g.Cells.size=g.Rows.toNat*wG g:=by
 obtain ⟨⟨a1,a2⟩,⟨b1,b2⟩,hs,_⟩:=hg
 obtain ⟨w,hw⟩:=Int.eq_ofNat_of_zero_le (show 0≤g.Cols by omega)
 obtain ⟨r,hr⟩:=Int.eq_ofNat_of_zero_le (show 0≤g.Rows by omega)
 unfold wG
 rw [hw,hr] at hs ⊢
 exact_mod_cast hs
theorem Qe5 {g:D.Grid} {r c:Int} (hg:gridOk g) (h:inG g r c):∃a b:Nat,r=a∧c=b∧a<g.Rows.toNat∧b<wG g:=by
 obtain ⟨⟨h1,h2⟩,h3,h4⟩:=h
 exact ⟨r.toNat,c.toNat,by omega,by omega,by omega,by unfold wG;omega⟩
theorem Qki {g:D.Grid} {r c r' c':Int} (hg:gridOk g) (h:inG g r c) (h':inG g r' c') (hn:(r'=r∧(c'=c+1∨c'=c - 1))∨(c'=c∧(r'=r+1∨r'=r - 1))):adj g (Zy g r c) (Zy g r' c'):=by
 obtain ⟨a,b,rfl,rfl,ha,hb⟩:=Qe5 hg h
 obtain ⟨a',b',rfl,rfl,ha',hb'⟩:=Qe5 hg h'
 rw [Yg hg,Yg hg]
 have hm:(a*wG g+b) % wG g=b:=by rw [Nat.mul_comm,Nat.mul_add_mod,Nat.mod_eq_of_lt hb]
 have hm':(a'*wG g+b') % wG g=b':=by rw [Nat.mul_comm,Nat.mul_add_mod,Nat.mod_eq_of_lt hb']
 rcases hn with ⟨h1,h2 | h2⟩ | ⟨h1,h2 | h2⟩
 ·obtain rfl:a'=a:=by omega
  exact .inl ⟨by omega,by rw [hm];omega⟩
 ·obtain rfl:a'=a:=by omega
  exact .inr (.inl ⟨by omega,by rw [hm'];omega⟩)
 ·obtain rfl:b'=b:=by omega
  obtain rfl:a'=a+1:=by omega
  exact .inr (.inr (.inl (by rw [Nat.add_mul,Nat.one_mul];omega)))
 ·obtain rfl:b'=b:=by omega
  obtain rfl:a=a'+1:=by omega
  exact .inr (.inr (.inr (by rw [Nat.add_mul,Nat.one_mul];omega)))
theorem QhP {g:D.Grid} {r c:Int} {y:Nat} (hg:gridOk g) (h:inG g r c) (hy:y<g.Cells.size) (ha:adj g (Zy g r c) y) :
  (inG g (r - 1) c∧y=Zy g (r - 1) c)∨(inG g (r+1) c∧y=Zy g (r+1) c)∨(inG g r (c - 1)∧y=Zy g r (c - 1))∨(inG g r (c+1)∧y=Zy g r (c+1)):=by
 have hsz:=Qi3 hg
 obtain ⟨⟨h1,h2⟩,h3,h4⟩:=h
 obtain ⟨a,b,rfl,rfl,ha',hb⟩:=Qe5 hg ⟨⟨h1,h2⟩,h3,h4⟩
 rw [Yg hg] at ha
 have hm:(a*wG g+b) % wG g=b:=by rw [Nat.mul_comm,Nat.mul_add_mod,Nat.mod_eq_of_lt hb]
 have hw:((wG g:Nat):Int)=g.Cols:=by have:=hg.2.1;unfold wG;omega
 rcases ha with ⟨e1,e2⟩ | ⟨e1,e2⟩ | e1 | e1
 ·rw [hm] at e2
  refine .inr (.inr (.inr ⟨⟨⟨h1,h2⟩,by omega,by omega⟩,?_⟩))
  rw [show ((b:Nat):Int)+1=((b+1:Nat):Int) by omega,Yg hg];omega
 ·have hb1:1≤b:=by
   rcases Nat.eq_zero_or_pos b with h0 | h0
   ·subst h0
    exfalso
    have ha0:0<a:=by
     rcases Nat.eq_zero_or_pos a with g0 | g0
     ·subst g0;omega
     ·exact g0
    obtain ⟨a1,rfl⟩:∃a1,a=a1+1:=⟨a - 1,by omega⟩
    have e3:y=a1*wG g+(wG g - 1):=by rw [Nat.add_mul,Nat.one_mul] at e1;omega
    rw [e3,Nat.mul_comm,Nat.mul_add_mod,Nat.mod_eq_of_lt (by omega)] at e2
    omega
   ·exact h0
  refine .inr (.inr (.inl ⟨⟨⟨h1,h2⟩,by omega,by omega⟩,?_⟩))
  rw [show ((b:Nat):Int) - 1=((b - 1:Nat):Int) by omega,Yg hg];omega
 ·have ha1:a+1<g.Rows.toNat:=by
   rcases Nat.lt_or_ge (a+1) g.Rows.toNat with g0 | g0
   ·exact g0
   ·have e4:g.Rows.toNat=a+1:=by omega
    rw [e4,Nat.add_mul,Nat.one_mul] at hsz
    omega
  refine .inr (.inl ⟨⟨⟨by omega,by omega⟩,h3,h4⟩,?_⟩)
  rw [show ((a:Nat):Int)+1=((a+1:Nat):Int) by omega,Yg hg,Nat.add_mul,Nat.one_mul];omega
 ·have ha0:0<a:=by
   rcases Nat.eq_zero_or_pos a with g0 | g0
   ·subst g0;omega
   ·exact g0
  obtain ⟨a1,rfl⟩:∃a1,a=a1+1:=⟨a - 1,by omega⟩
  refine .inl ⟨⟨⟨by omega,by omega⟩,h3,h4⟩,?_⟩
  rw [show ((a1+1:Nat):Int) - 1=((a1:Nat):Int) by omega,Yg hg]
  rw [Nat.add_mul,Nat.one_mul] at e1;omega
theorem Qaq {g:D.Grid} {r c:Int} (hg:gridOk g) (h:inG g r c):Zy g r c<g.Cells.size:=by
 have:=QbB hg h.1 h.2
 unfold Zy
 omega
theorem Zw (g:D.Grid):∀d m r c,(Yr d g m r c).length=m.length
 | 0,m,r,c=>rfl
 | d+1,m,r,c=>by
  rw [Yr]
  split
  ·rw [Zw g d,Zw g d,Zw g d,Zw g d,List.length_set]
  ·rfl
theorem ZH {g:D.Grid} {j:Nat}:∀d m r c,on m j=true→on (Yr d g m r c) j=true
 | 0,m,r,c,h=>h
 | d+1,m,r,c,h=>by
  rw [Yr]
  split
  ·refine ZH d _ _ _ (ZH d _ _ _ (ZH d _ _ _ (ZH d _ _ _ ?_)))
   have hlt:=QiE h
   unfold on at h ⊢
   rw [List.getElem?_set]
   split
   ·rename_i e
    subst e
    rw [if_pos hlt];rfl
   ·exact h
  ·exact h
theorem QeC {s:List Bool} {i:Nat}:(s.set i true).count false≤s.count false:=by
 rcases Nat.lt_or_ge i s.length with h | h
 ·rw [List.count_set h];simp
 ·rw [List.set_eq_of_length_le h];exact Nat.le_refl _
theorem YI (g:D.Grid):∀d m r c,(Yr d g m r c).count false≤m.count false
 | 0,m,r,c=>Nat.le_refl _
 | d+1,m,r,c=>by
  rw [Yr]
  split
  ·exact Nat.le_trans (YI g d _ _ _) (Nat.le_trans (YI g d _ _ _) (Nat.le_trans (YI g d _ _ _) (Nat.le_trans (YI g d _ _ _) QeC)))
  ·exact Nat.le_refl _
theorem JN {g:D.Grid} (hg:gridOk g) {P:Nat→Prop} (hP:∀i j,P i→adj g i j→j<g.Cells.size→QB g.Cells j=46→P j):∀d m r c,m.length=g.Cells.size→(inG g r c→QB g.Cells (Zy g r c)=46→P (Zy g r c))→∀j,on (Yr d g m r c) j=true→on m j=true∨P j
 | 0,m,r,c,_,_,j,hj=> .inl hj
 | d+1,m,r,c,hl,h,j,hj=>by
  rw [Yr] at hj
  split at hj
  ·rename_i hgo
   obtain ⟨g1,g2,g3⟩:=hgo
   have hv:=h g1 g2
   have nb:∀r' c',((r'=r∧(c'=c+1∨c'=c - 1))∨(c'=c∧(r'=r+1∨r'=r - 1)))→inG g r' c'→QB g.Cells (Zy g r' c')=46→P (Zy g r' c'):=fun r' c' hn hi hw=>hP _ _ hv (Qki hg g1 hi hn) (Qaq hg hi) hw
   have l1:(m.set (Zy g r c) true).length=g.Cells.size:=by rw [List.length_set,hl]
   rcases JN hg hP d _ _ _ (by rw [Zw,Zw,Zw,l1]) (nb r (c+1) (.inl ⟨rfl, .inl rfl⟩)) j hj with hj | hj
   ·rcases JN hg hP d _ _ _ (by rw [Zw,Zw,l1]) (nb r (c - 1) (.inl ⟨rfl, .inr rfl⟩)) j hj with hj | hj
    ·rcases JN hg hP d _ _ _ (by rw [Zw,l1]) (nb (r+1) c (.inr ⟨rfl, .inl rfl⟩)) j hj with hj | hj
     ·rcases JN hg hP d _ _ _ l1 (nb (r - 1) c (.inr ⟨rfl, .inr rfl⟩)) j hj with hj | hj
      ·rw [QbS (by rw [hl];exact Qaq hg g1)] at hj
       split at hj
       ·rename_i e
        rw [e];exact .inr hv
       ·exact .inl hj
      ·exact .inr hj
     ·exact .inr hj
    ·exact .inr hj
   ·exact .inr hj
  ·exact .inl hj
theorem Qc7 {g:D.Grid} (hg:gridOk g) {d:Nat} {m:List Bool} {r c:Int} (hl:m.length=g.Cells.size) (hc:m.count false<d) (hi:inG g r c) (hw:QB g.Cells (Zy g r c)=46):on (Yr d g m r c) (Zy g r c)=true:=by
 cases d with
 | zero=>omega
 | succ d =>
  rw [Yr]
  split
  ·refine ZH d _ _ _ (ZH d _ _ _ (ZH d _ _ _ (ZH d _ _ _ ?_)))
   rw [QbS (by rw [hl];exact Qaq hg hi),if_pos rfl]
  ·rename_i hn
   cases ho:on m (Zy g r c) with
   | true=>rfl
   | false=>exact absurd ⟨hi,hw,ho⟩ hn
theorem Qdk {g:D.Grid} (hg:gridOk g):∀d m r c,m.length=g.Cells.size→m.count false<d→∀x y,on (Yr d g m r c) x=true→¬on m x=true→adj g x y→y<g.Cells.size→QB g.Cells y=46→on (Yr d g m r c) y=true
 | 0,m,r,c,_,hc,x,y,_,_,_,_,_=>by omega
 | d+1,m,r,c,hl,hc,x,y,hx,hnx,ha,hy,hw=>by
  rw [Yr] at hx ⊢
  by_cases hgo:Qjw g m r c
  ·rw [if_pos hgo] at hx ⊢
   obtain ⟨g1,g2,g3⟩:=hgo
   have hcl:=Qaq hg g1
   have l1:(m.set (Zy g r c) true).length=g.Cells.size:=by rw [List.length_set,hl]
   have c1:(m.set (Zy g r c) true).count false<d:=by
    have:=Qcp (by rw [hl];exact hcl) g3
    omega
   generalize hm1:m.set (Zy g r c) true=m1 at *
   have c2:=YI g d m1 (r - 1) c
   have l2:=Zw g d m1 (r - 1) c
   generalize hm2:Yr d g m1 (r - 1) c=m2 at *
   have c3:=YI g d m2 (r+1) c
   have l3:=Zw g d m2 (r+1) c
   generalize hm3:Yr d g m2 (r+1) c=m3 at *
   have c4:=YI g d m3 r (c - 1)
   have l4:=Zw g d m3 r (c - 1)
   generalize hm4:Yr d g m3 r (c - 1)=m4 at *
   have up4:∀j,on m4 j=true→on (Yr d g m4 r (c+1)) j=true:=fun j h=>ZH d _ _ _ h
   have up3:∀j,on m3 j=true→on m4 j=true:=fun j h=>hm4▸ZH d _ _ _ h
   have up2:∀j,on m2 j=true→on m3 j=true:=fun j h=>hm3▸ZH d _ _ _ h
   by_cases h4:on m4 x=true
   ·by_cases h3:on m3 x=true
    ·by_cases h2:on m2 x=true
     ·by_cases h1:on m1 x=true
      ·have hxv:x=Zy g r c:=by
        rw [← hm1,QbS (by rw [hl];exact hcl)] at h1
        split at h1
        ·assumption
        ·exact absurd h1 hnx
       subst hxv
       rcases QhP hg g1 hy ha with ⟨k1,rfl⟩ | ⟨k1,rfl⟩ | ⟨k1,rfl⟩ | ⟨k1,rfl⟩
       ·exact up4 _ (up3 _ (up2 _ (hm2▸Qc7 hg l1 c1 k1 hw)))
       ·exact up4 _ (up3 _ (hm3▸Qc7 hg (by omega) (by omega) k1 hw))
       ·exact up4 _ (hm4▸Qc7 hg (by omega) (by omega) k1 hw)
       ·exact Qc7 hg (by omega) (by omega) k1 hw
      ·exact up4 _ (up3 _ (up2 _ (hm2▸Qdk hg d m1 (r - 1) c l1 c1 x y (hm2▸h2) h1 ha hy hw)))
     ·exact up4 _ (up3 _ (hm3▸Qdk hg d m2 (r+1) c (by omega) (by omega) x y (hm3▸h3) h2 ha hy hw))
    ·exact up4 _ (hm4▸Qdk hg d m3 r (c - 1) (by omega) (by omega) x y (hm4▸h4) h3 ha hy hw)
   ·exact Qdk hg d m4 r (c+1) (by omega) (by omega) x y hx h4 ha hy hw
  ·rw [if_neg hgo] at hx
   exact absurd hx hnx
def QgK (g:D.Grid) (s:List Bool):Prop:=∀x y,on s x=true→adj g x y→y<g.Cells.size→QB g.Cells y=46→on s y=true
theorem Qia (n j:Nat):on (List.replicate n false) j=false:=by
 unfold on
 rw [List.getElem?_replicate]
 split<;>rfl
theorem Qf0 {g:D.Grid} {i j:Nat} (hi:i<g.Cells.size):on ((List.replicate g.Cells.size false).set i true) j=true↔j=i:=by
 rw [QbS (by simpa using hi),Qia]
 split<;>simp [*]
theorem QaW {g:D.Grid}:∀i,i≤g.Cells.size→QgK g (Qn g i).2
 | 0,_=>fun x y hx=>by rw [Qn,Qia] at hx;cases hx
 | i+1,hi=>by
  have ih:=QaW (g:=g) i (by omega)
  by_cases hn:QbD g (Qn g i).2 i
  ·rw [(Qb1 hn).2]
   intro x y hx ha hy hw
   have hl:(fresh g i).length=(Qn g i).2.length:=by rw [JK,YB]
   rw [Qgu hl,Bool.or_eq_true] at hx ⊢
   rcases hx with hx | hx
   ·exact .inl (ih x y hx ha hy hw)
   ·exact .inr (on_reachL.2 (.step (on_reachL.1 hx) ha (by simpa using hy) hw))
  ·rw [Qat hn];exact ih
theorem Qjx {g:D.Grid} (hg:gridOk g) {d i:Nat} {m:List Bool} (hl:m.length=g.Cells.size) (hi:i<g.Cells.size) (hc:m.count false<d) (hcl:QgK g m) (hw:QB g.Cells i=46) :
  Yr d g m ((i / wG g:Nat):Int) ((i % wG g:Nat):Int)=Qd3 m (fresh g i):=by
 have hlf:(fresh g i).length=m.length:=by rw [JK,hl]
 have hci:Zy g ((i / wG g:Nat):Int) ((i % wG g:Nat):Int)=i:=by
  rw [Yg hg,Nat.mul_comm];exact Nat.div_add_mod i _
 obtain ⟨⟨q1,q2⟩,_⟩:=Qbo hg hi
 have hin:inG g ((i / wG g:Nat):Int) ((i % wG g:Nat):Int):=by
  have hA:=hg.1
  have hB:=hg.2.1
  unfold wG
  generalize i / g.Cols.toNat=q at *
  generalize i % g.Cols.toNat=m' at *
  exact ⟨⟨by omega,by omega⟩,by omega,by omega⟩
 refine QiV (by rw [Zw,Y5 hlf]) fun j=> ?_
 rw [Qgu hlf,Bool.or_eq_true]
 constructor
 ·intro hj
  rcases JN hg (P:=fun j=>Rch g ((List.replicate g.Cells.size false).set i true) j) (fun a b h ha hb hw=> .step h ha (by simpa using hb) hw) d m _ _ hl (fun _ _=>by rw [hci];exact .base ((Qf0 hi).2 rfl)) j hj with h | h
  ·exact .inl h
  ·exact .inr (on_reachL.2 h)
 ·rintro (hj | hj)
  ·exact ZH d _ _ _ hj
  ·have hr:=on_reachL.1 hj
   clear hj
   induction hr with
   | base h =>
    obtain rfl:=(Qf0 hi).1 h
    have:=Qc7 hg hl hc hin (by rw [hci];exact hw)
    rwa [hci] at this
   | step h ha hb hw2 ih =>
    rename_i a b
    have hb':b<g.Cells.size:=by simpa using hb
    by_cases hma:on m a=true
    ·exact ZH d _ _ _ (hcl a b hma ha hb' hw2)
    ·exact Qdk hg d m _ _ hl hc a b ih hma ha hb' hw2
end
theorem Qca (n:Nat) (nn:Nat) (g:D.Grid):∀(d:Nat) (met:List Bool) (r:Int) (c:Int) (hg:gridOk g) (hn:nn=g.Cells.size) (hl:met.length=nn) (hr: -1≤r∧r≤6) (hc: -1≤c∧c≤6) (hu:met.count false<d),Loan (Qr Tryz.prog (n+d+1)) 136 1 (List.map (Qm true) met) [(tI r),(tI c),(T.rp (Qa false g)),(T.vp [(T.os 1 0 0 nn)]),(vtT 136 (T.rp (Qa false g)) (T.vp [(T.os 1 0 0 nn)]) d)] (T.tup []) (List.map (Qm true) (Yr d g met r c)):=by
 intro d
 induction d with
 | zero=>intro met r c hg hn hl hr hc hu;exact absurd hu (Nat.not_lt_zero _)
 | succ d ih =>
 intro met r c hg hn hl hr hc hu
 refine Loan.intro (n:=n+d+1) (rs:= []) (j:=3) (pin:=(T.vp [(T.os 1 0 0 nn)])) Tryz.func136 rfl rfl rfl (by kernel_rfl) rfl (.vp _ _) .none (Zq (fun _=>rfl) _) (Zq (fun _=>rfl) _) (E0:= [(0,(tI r)),(1,(tI c)),(2,(T.rp (Qa false g))),(3,(T.vp [(T.os 1 0 0 nn)])),(4,(vtT 136 (T.rp (Qa false g)) (T.vp [(T.os 1 0 0 nn)]) (d+1)))]) rfl ?_
 obtain ⟨hlim,hmx,hmax⟩:=QJ
 have hsz:=hg.size
 have hA:=hg.1
 have hB:=hg.2.1
 refine sq (sr (mO (tI r) rfl (lr (tI g.Rows) rfl (lb rfl) JD rfl Q0 (cO (cS (vc (tv (tI r) rfl) (vc (tv (tI g.Rows) rfl) vn)) (Yl rfl) (YZ (n+d+0) r g.Rows) rfl rfl) (fO (Q1 (tv (tB (decide (0≤r∧r<g.Rows))) rfl)) (mO (tB (!(decide (0≤r∧r<g.Rows)))) rfl ?_))))))
 refine VRunO.joinB 6 [13,14,15,16,17] 18 (tB (decide ((¬(0≤r∧r<g.Rows))∨(¬(0≤c∧c<g.Cols))))) ?_ ?_
 ·refine gn (0≤r∧r<g.Rows) (fun fhg12_1=> ?_) fun fhg12_1=> ?_
  ·refine QC 5 5 false 12 (ny fhg12_1) rfl rfl rfl ?_
   refine fO (OF.pickT (VEv.tmpB rfl (ny fhg12_1)) (VEv.bool true)) (VRunO.nil ?_)
   exact jq (congrArg T.bool (kOT fhg12_1)) (js rfl (js rfl (js rfl (js rfl (js rfl (jn))))))
  ·refine gF (nz fhg12_1) rfl rfl (OF.move (tv (tI c) rfl)) ?_
   refine glr (tI g.Cols) (nz fhg12_1) rfl rfl rfl rfl (lb rfl) Q7 rfl Q0 (VRunO.chain (VWant.on rfl rfl (nz fhg12_1)) (cS (vc (tv (tI c) rfl) (vc (tv (tI g.Cols) rfl) vn)) (Yl rfl) (YZ (n+d+0) c g.Cols) rfl rfl) (gF (nz fhg12_1) rfl rfl (Q1 (tv (tB (decide (0≤c∧c<g.Cols))) rfl)) (fO (OF.pickF (VEv.tmpB rfl (nz fhg12_1)) (tv (tB (!(decide (0≤c∧c<g.Cols)))) rfl)) (VRunO.nil ?_))))
   exact jq (congrArg T.bool (kOF (not_not_intro fhg12_1) dN)) (js rfl (js rfl (js rfl (js rfl (js rfl (jn))))))
 refine mO (tB (decide ((¬(0≤r∧r<g.Rows))∨(¬(0≤c∧c<g.Cols))))) rfl ?_
 refine VRunO.joinB 10 [20,21,22,23,24,25,26,27,28] 29 (tB (decide (((¬(0≤r∧r<g.Rows))∨(¬(0≤c∧c<g.Cols)))∨((met[(Int.toNat ((r*g.Cols)+c))]?.getD false)=true)))) ?_ ?_
 ·refine gw ((¬(0≤r∧r<g.Rows))∨(¬(0≤c∧c<g.Cols))) (fun fhg19_2=> ?_) fun fhg19_2=> ?_
  ·refine QC 9 12 false 19 (dy fhg19_2) rfl rfl rfl ?_
   refine fO (OF.pickT (VEv.tmpB rfl (dy fhg19_2)) (VEv.bool true)) (VRunO.nil ?_)
   exact jq (congrArg T.bool (kOT fhg19_2)) (js rfl (js rfl (js rfl (js rfl (js rfl (js rfl (js rfl (js rfl (js rfl (jn))))))))))
  ·have hz:=QbB hg (r:=r) (c:=c) (by omega) (by omega)
   refine gL (dz fhg19_2) rfl rfl (OL.loadV1 (t:=(T.os 1 0 0 nn)) (tv (T.vp [(T.os 1 0 0 nn)]) rfl) rfl Qi7) (gF (dz fhg19_2) rfl rfl (OF.move (tv (tI r) rfl)) (glr (tI g.Cols) (dz fhg19_2) rfl rfl rfl rfl (lb rfl) Q7 rfl Q0 (gF (dz fhg19_2) rfl rfl (B.mul (n:=(r*g.Cols)) (tv (tI r) rfl) (tv (tI g.Cols) rfl) (by (rw [Qy (by omega)];done))) (gF (dz fhg19_2) rfl rfl (OF.move (tv (tI c) rfl)) (gF (dz fhg19_2) rfl rfl (B.add (n:=((r*g.Cols)+c)) (tv (tI (r*g.Cols)) rfl) (tv (tI c) rfl) (by (rw [Qy (by omega)];done))) ?_)))))
   have hy3:met[(Int.toNat ((r*g.Cols)+c))]? =some (met[(Int.toNat ((r*g.Cols)+c))]?.getD false):=Jj false (by omega)
   refine gF (dz fhg19_2) rfl rfl (B.indexAddrO (i:=(Int.toNat ((r*g.Cols)+c))) (tv (T.os 1 0 0 nn) rfl) (tv (tI ((r*g.Cols)+c)) rfl) (by omega) (by omega) YA sz4 if4) (gL (dz fhg19_2) rfl rfl (OL.loadP1 (t:=(tB (met[(Int.toNat ((r*g.Cols)+c))]?.getD false))) (row:=(Qm true (met[(Int.toNat ((r*g.Cols)+c))]?.getD false))) (tv (T.orp 1 0 (Int.toNat ((r*g.Cols)+c)) 0) rfl) rfl (QA _ hy3) rfl rfl st4) (fO (OF.pickF (VEv.tmpB rfl (dz fhg19_2)) (tv (tB (met[(Int.toNat ((r*g.Cols)+c))]?.getD false)) rfl)) (VRunO.nil ?_)))
   exact jq (congrArg T.bool (kOF fhg19_2 (dT _))) (js rfl (js rfl (js rfl (js rfl (js rfl (js rfl (js rfl (js rfl (js rfl (jn))))))))))
 refine mO (tB (decide (((¬(0≤r∧r<g.Rows))∨(¬(0≤c∧c<g.Cols)))∨((met[(Int.toNat ((r*g.Cols)+c))]?.getD false)=true)))) rfl ?_
 refine VRunO.joinB 11 [31,32,33,34,35,36,37,38,39,40] 41 (tB (decide ((((¬(0≤r∧r<g.Rows))∨(¬(0≤c∧c<g.Cols)))∨((met[(Int.toNat ((r*g.Cols)+c))]?.getD false)=true))∨(¬(QB g.Cells (Int.toNat ((r*g.Cols)+c))=46))))) ?_ ?_
 ·refine gw (((¬(0≤r∧r<g.Rows))∨(¬(0≤c∧c<g.Cols)))∨((met[(Int.toNat ((r*g.Cols)+c))]?.getD false)=true)) (fun fhg30_4=> ?_) fun fhg30_4=> ?_
  ·refine QC 10 23 false 30 (dy fhg30_4) rfl rfl rfl ?_
   refine fO (OF.pickT (VEv.tmpB rfl (dy fhg30_4)) (VEv.bool true)) (VRunO.nil ?_)
   exact jq (congrArg T.bool (kOT fhg30_4)) (js rfl (js rfl (js rfl (js rfl (js rfl (js rfl (js rfl (js rfl (js rfl (js rfl (jn)))))))))))
  ·have hz:=QbB hg (r:=r) (c:=c) (by omega) (by omega)
   refine glr (tS g.Cells) (dz fhg30_4) rfl rfl rfl rfl (lb rfl) QD rfl Z3 (gF (dz fhg30_4) rfl rfl (OF.move (tv (tI r) rfl)) (glr (tI g.Cols) (dz fhg30_4) rfl rfl rfl rfl (lb rfl) Q7 rfl Q0 (gF (dz fhg30_4) rfl rfl (B.mul (n:=(r*g.Cols)) (tv (tI r) rfl) (tv (tI g.Cols) rfl) (by (rw [Qy (by omega)];done))) (gF (dz fhg30_4) rfl rfl (OF.move (tv (tI c) rfl)) (gF (dz fhg30_4) rfl rfl (B.add (n:=((r*g.Cols)+c)) (tv (tI (r*g.Cols)) rfl) (tv (tI c) rfl) (by (rw [Qy (by omega)];done))) ?_)))))
   have hb5:(Int.toNat ((r*g.Cols)+c))<g.Cells.size:=(by omega)
   refine gF (dz fhg30_4) rfl rfl (B.index (n:=(QB g.Cells (Int.toNat ((r*g.Cols)+c)))) (i:=(Int.toNat ((r*g.Cols)+c))) (tv (tS g.Cells) rfl) (tv (tI ((r*g.Cols)+c)) rfl) (by omega) hb5 U9 (YP hb5)) (gF (dz fhg30_4) rfl rfl (xne (tv (T.int .u8 (QB g.Cells (Int.toNat ((r*g.Cols)+c)))) rfl) (VEv.int .u8 46)) (fO (OF.pickF (VEv.tmpB rfl (dz fhg30_4)) (tv (tB (!(decide (QB g.Cells (Int.toNat ((r*g.Cols)+c))=46)))) rfl)) (VRunO.nil ?_)))
   exact jq (congrArg T.bool (kOF fhg30_4 dN)) (js rfl (js rfl (js rfl (js rfl (js rfl (js rfl (js rfl (js rfl (js rfl (js rfl (jn)))))))))))
 refine nt ?_
 refine cd ((((¬(0≤r∧r<g.Rows))∨(¬(0≤c∧c<g.Cols)))∨((met[(Int.toNat ((r*g.Cols)+c))]?.getD false)=true))∨(¬(QB g.Cells (Int.toNat ((r*g.Cols)+c))=46))) rfl (fun fhc0=> ?_) fun fhc0=> ?_
 ·refine rt ?_
  refine tr ?_
  have hnew:met=Yr (d+1) g met r c:=by
   rw [Yr,if_neg];rintro ⟨h1,h2,h3⟩;rcases fhc0 with (h | h) | h;exact h.elim (fun h=>h h1.1) (fun h=>h h1.2);exact on_no.1 h3 h;exact h h2
  exact vloan.r 0 VRes.nil rfl rfl rfl (congrArg (List.map (Qm true)) hnew)
 have hz:=QbB hg (r:=r) (c:=c) (by omega) (by omega)
 have hin:inG g r c:=⟨by omega,by omega⟩
 have hgo:Qjw g met r c:=⟨hin,by unfold Zy;omega,on_no.2 (fun h=>fhc0 (.inl (.inr h)))⟩
 have hct:=Qcp (s:=met) (i:=Zy g r c) (by rw [hl,hn];exact Qaq hg hin) hgo.2.2
 unfold Zy at hct
 have d1:=YI g d (met.set (Int.toNat (r*g.Cols+c)) true) (r - 1) c
 have d2:=YI g d (Yr d g (met.set (Int.toNat (r*g.Cols+c)) true) (r - 1) c) (r+1) c
 have d3:=YI g d (Yr d g (Yr d g (met.set (Int.toNat (r*g.Cols+c)) true) (r - 1) c) (r+1) c) r (c - 1)
 refine sk (tn (sr (lO (OL.loadV1 (t:=(T.os 1 0 0 nn)) (tv (T.vp [(T.os 1 0 0 nn)]) rfl) rfl Qi7) (mO (tI r) rfl (lr (tI g.Cols) rfl (lb rfl) Q7 rfl Q0 (fO (B.mul (n:=(r*g.Cols)) (tv (tI r) rfl) (tv (tI g.Cols) rfl) (by (rw [Qy (by omega)];done))) (mO (tI c) rfl (fO (B.add (n:=((r*g.Cols)+c)) (tv (tI (r*g.Cols)) rfl) (tv (tI c) rfl) (by (rw [Qy (by omega)];done))) ?_))))))))
 obtain ⟨x1,hx1⟩:∃x,met[(Int.toNat ((r*g.Cols)+c))]? =some x:=⟨_,List.getElem?_eq_getElem (by omega)⟩
 refine fO (B.indexAddrO (i:=(Int.toNat ((r*g.Cols)+c))) (tv (T.os 1 0 0 nn) rfl) (tv (tI ((r*g.Cols)+c)) rfl) (by omega) (by omega) YA sz4 if4) (cO (B.storeP (us:= [(tB true)]) (rows':=((met.set (Int.toNat ((r*g.Cols)+c)) true).map (Qm true))) (row:=(Qm true x1)) (tv (T.orp 1 0 (Int.toNat ((r*g.Cols)+c)) 0) rfl) (VEv.bool true) nofun rfl (QA _ hx1) rfl (lb rfl) if4 sz4 (bc rfl bn) (by intro r hr t ht;obtain ⟨x,_,rfl⟩:=List.mem_map.1 hr;rw [QeQ] at ht;exact Zs (okBool.pl _ t ht)) (Zm rfl)) (nt (sr (lO (OL.loadV1 (t:=(T.fn 136 [(T.rp (Qa false g)),(T.vp [(T.os 1 0 0 nn)]),(vtT 136 (T.rp (Qa false g)) (T.vp [(T.os 1 0 0 nn)]) d)])) (tv (vtT 136 (T.rp (Qa false g)) (T.vp [(T.os 1 0 0 nn)]) (d+1)) rfl) rfl QfA) (mO (tI r) rfl (fO (B.sub (n:=(r - 1)) (tv (tI r) rfl) (VEv.int .i64 1) (by (rw [Qy (by omega)];done))) (mO (tI c) rfl (cO (OC.callvLoan (ts:= [(tI (r - 1)),(tI c),(T.rp (Qa false g)),(T.vp [(T.os 1 0 0 nn)]),(vtT 136 (T.rp (Qa false g)) (T.vp [(T.os 1 0 0 nn)]) d)]) (k:=0) (r:=(T.tup [])) (rows:=((met.set (Int.toNat ((r*g.Cols)+c)) true).map (Qm true))) (rows':=((Yr d g (met.set (Int.toNat ((r*g.Cols)+c)) true) (r - 1) c).map (Qm true))) rfl rfl (vc (tv (tI (r - 1)) rfl) (vc (tv (tI c) rfl) vn)) rfl (by simp only [JC,ren,QaG,List.cons_append,List.nil_append]) (tl rfl (tl rfl (tl rfl (tl rfl (tl (Qck rfl rfl _) rfl))))) LRes.none rfl (Zq (fun _=>rfl) _) (Zq (fun _=>rfl) _) (ih (met.set (Int.toNat ((r*g.Cols)+c)) true) (r - 1) c (by assumption) (by assumption) (by (simp only [Zw,List.length_set];omega)) (by omega) (by assumption) (by omega))) (nt (sr (lO (OL.loadV1 (t:=(T.fn 136 [(T.rp (Qa false g)),(T.vp [(T.os 1 0 0 nn)]),(vtT 136 (T.rp (Qa false g)) (T.vp [(T.os 1 0 0 nn)]) d)])) (tv (vtT 136 (T.rp (Qa false g)) (T.vp [(T.os 1 0 0 nn)]) (d+1)) rfl) rfl QfA) ?_)))))))))))
 refine mO (tI r) rfl (fO (B.add (n:=(r+1)) (tv (tI r) rfl) (VEv.int .i64 1) (by (rw [Qy (by omega)];done))) (mO (tI c) rfl (cO (OC.callvLoan (ts:= [(tI (r+1)),(tI c),(T.rp (Qa false g)),(T.vp [(T.os 1 0 0 nn)]),(vtT 136 (T.rp (Qa false g)) (T.vp [(T.os 1 0 0 nn)]) d)]) (k:=0) (r:=(T.tup [])) (rows:=((Yr d g (met.set (Int.toNat ((r*g.Cols)+c)) true) (r - 1) c).map (Qm true))) (rows':=((Yr d g (Yr d g (met.set (Int.toNat ((r*g.Cols)+c)) true) (r - 1) c) (r+1) c).map (Qm true))) rfl rfl (vc (tv (tI (r+1)) rfl) (vc (tv (tI c) rfl) vn)) rfl (by simp only [JC,ren,QaG,List.cons_append,List.nil_append]) (tl rfl (tl rfl (tl rfl (tl rfl (tl (Qck rfl rfl _) rfl))))) LRes.none rfl (Zq (fun _=>rfl) _) (Zq (fun _=>rfl) _) (ih (Yr d g (met.set (Int.toNat ((r*g.Cols)+c)) true) (r - 1) c) (r+1) c (by assumption) (by assumption) (by (simp only [Zw,List.length_set];omega)) (by omega) (by assumption) (by omega))) (nt (sr (lO (OL.loadV1 (t:=(T.fn 136 [(T.rp (Qa false g)),(T.vp [(T.os 1 0 0 nn)]),(vtT 136 (T.rp (Qa false g)) (T.vp [(T.os 1 0 0 nn)]) d)])) (tv (vtT 136 (T.rp (Qa false g)) (T.vp [(T.os 1 0 0 nn)]) (d+1)) rfl) rfl QfA) (mO (tI r) rfl (mO (tI c) rfl (fO (B.sub (n:=(c - 1)) (tv (tI c) rfl) (VEv.int .i64 1) (by (rw [Qy (by omega)];done))) (cO (OC.callvLoan (ts:= [(tI r),(tI (c - 1)),(T.rp (Qa false g)),(T.vp [(T.os 1 0 0 nn)]),(vtT 136 (T.rp (Qa false g)) (T.vp [(T.os 1 0 0 nn)]) d)]) (k:=0) (r:=(T.tup [])) (rows:=((Yr d g (Yr d g (met.set (Int.toNat ((r*g.Cols)+c)) true) (r - 1) c) (r+1) c).map (Qm true))) (rows':=((Yr d g (Yr d g (Yr d g (met.set (Int.toNat ((r*g.Cols)+c)) true) (r - 1) c) (r+1) c) r (c - 1)).map (Qm true))) rfl rfl (vc (tv (tI r) rfl) (vc (tv (tI (c - 1)) rfl) vn)) rfl (by simp only [JC,ren,QaG,List.cons_append,List.nil_append]) (tl rfl (tl rfl (tl rfl (tl rfl (tl (Qck rfl rfl _) rfl))))) LRes.none rfl (Zq (fun _=>rfl) _) (Zq (fun _=>rfl) _) (ih (Yr d g (Yr d g (met.set (Int.toNat ((r*g.Cols)+c)) true) (r - 1) c) (r+1) c) r (c - 1) (by assumption) (by assumption) (by (simp only [Zw,List.length_set];omega)) (by assumption) (by omega) (by omega))) (nt ?_)))))))))))
 refine VRun.region (lO (OL.loadV1 (t:=(T.fn 136 [(T.rp (Qa false g)),(T.vp [(T.os 1 0 0 nn)]),(vtT 136 (T.rp (Qa false g)) (T.vp [(T.os 1 0 0 nn)]) d)])) (tv (vtT 136 (T.rp (Qa false g)) (T.vp [(T.os 1 0 0 nn)]) (d+1)) rfl) rfl QfA) (mO (tI r) rfl (mO (tI c) rfl (fO (B.add (n:=(c+1)) (tv (tI c) rfl) (VEv.int .i64 1) (by (rw [Qy (by omega)];done))) (cO (OC.callvLoan (ts:= [(tI r),(tI (c+1)),(T.rp (Qa false g)),(T.vp [(T.os 1 0 0 nn)]),(vtT 136 (T.rp (Qa false g)) (T.vp [(T.os 1 0 0 nn)]) d)]) (k:=0) (r:=(T.tup [])) (rows:=((Yr d g (Yr d g (Yr d g (met.set (Int.toNat ((r*g.Cols)+c)) true) (r - 1) c) (r+1) c) r (c - 1)).map (Qm true))) (rows':=((Yr d g (Yr d g (Yr d g (Yr d g (met.set (Int.toNat ((r*g.Cols)+c)) true) (r - 1) c) (r+1) c) r (c - 1)) r (c+1)).map (Qm true))) rfl rfl (vc (tv (tI r) rfl) (vc (tv (tI (c+1)) rfl) vn)) rfl (by simp only [JC,ren,QaG,List.cons_append,List.nil_append]) (tl rfl (tl rfl (tl rfl (tl rfl (tl (Qck rfl rfl _) rfl))))) LRes.none rfl (Zq (fun _=>rfl) _) (Zq (fun _=>rfl) _) (ih (Yr d g (Yr d g (Yr d g (met.set (Int.toNat ((r*g.Cols)+c)) true) (r - 1) c) (r+1) c) r (c - 1)) r (c+1) (by assumption) (by assumption) (by (simp only [Zw,List.length_set];omega)) (by assumption) (by omega) (by omega))) (VRunO.nil ?_))))))
 have hnew:Yr d g (Yr d g (Yr d g (Yr d g (met.set (Int.toNat ((r*g.Cols)+c)) true) (r - 1) c) (r+1) c) r (c - 1)) r (c+1)=Yr (d+1) g met r c:=by
  rw [Yr,if_pos hgo];rfl
 exact vloan.n 0 VRes.nil rfl rfl rfl (congrArg (List.map (Qm true)) hnew)
theorem Qdh (n:Nat) (g:D.Grid) (hc:g.Cells.size≤mx):Pure (Qr Tryz.prog (n+39)) 104 [(T.agg (Qa false g))] (tN (ZJ g)):=by
 refine Pure.intro (rs:= [ResultVar.tmp 2]) Tryz.func104 rfl rfl rfl (E0:= [(0,(T.agg (Qa false g)))]) rfl ?_
 obtain ⟨hlim,hmx,hmax⟩:=QJ
 refine sr (kO (B.box (ts:=(Qa false g)) (tv (T.agg (Qa false g)) rfl) nofun rfl) (fO (OF.assign (VEv.int .i64 0)) (nt (sq (sr (lO (OL.loadOn (us:=(Qa false g)) (tv (T.op 0 0) rfl) rfl QY QR (lb rfl) rfl) (cO (cS (vc (tv (T.agg (Qa false g)) rfl) vn) (LendL.cons (lg Qt) ln) (ZQ (n+36) g (by omega)) rfl rfl) (fO (Q1 (tv (tB (decide (gridOk g))) rfl)) (nt ?_)))))))))
 refine cn (gridOk g) rfl (fun fhc0=> ?_) fun fhc0=> ?_
 ·refine sr ?_
  refine fO (OF.assign (VEv.int .i64 0)) (nt (rt (tr (vi (n':=0) rfl ?_))))
  rw [ZJ,if_neg (by simpa using fhc0)];rfl
 have hgo:gridOk g:=by simpa using fhc0
 have hsz:=hgo.size
 have hA:=hgo.1
 have hB:=hgo.2.1
 refine sk (tn (sr (lf (tS g.Cells) rfl QD rfl rfl Z3 (lO (B.lenS (tv (tS g.Cells) rfl) U9) (kO (B.makeZ (n:=g.Cells.size) (m:=((List.replicate g.Cells.size false).map (Qm true)).length) (rows:=((List.replicate g.Cells.size false).map (Qm true))) (zr:=(Qm true false)) (tv (tN g.Cells.size) rfl) (tv (tN g.Cells.size) rfl) rfl YA zo4 zc4 rfl (by rw [sz4];decide) (by omega) (of_decide_eq_true (by kernel_rfl)) (Z0.bool Z0.nil) sz4 (List.map_replicate ..).symm (by rw [List.length_map,List.length_replicate])) (kO (B.alloc (t:=T.nils) (ts:= [T.nils]) Qly Qle nofun (fun _=> .nils) rfl) (cO (B.storeW (us:= [(T.os 1 1 0 (((List.replicate g.Cells.size false).map (Qm true)).length))]) (tv (T.op 2 0) rfl) (tv (T.os 1 1 0 (((List.replicate g.Cells.size false).map (Qm true)).length)) rfl) nofun rfl rfl rfl Qlg Qlz (bc rfl bn)) (nt (sr (kO (B.alloc (t:=T.fn0) (ts:= [T.fn0]) (show Q2 Tryz.prog 146=some .nilFunc by kernel_rfl) (show closedV .nilFunc=true by kernel_rfl) nofun (fun _=> .fn0) rfl) (nt ?_)))))))))))
 refine sr (fO (OF.makeFunc (vc (tv (T.op 0 0) rfl) (vc (tv (T.op 2 0) rfl) (vc (tv (T.op 3 0) rfl) vn)))) (cO (B.storeW (us:= [(T.fn 136 [(T.op 0 0),(T.op 2 0),(T.op 3 0)])]) (tv (T.op 3 0) rfl) (tv (T.fn 136 [(T.op 0 0),(T.op 2 0),(T.op 3 0)]) rfl) nofun rfl rfl rfl Qlq Qlc (bc rfl bn)) (nt (VRun.wk (Wk.recv (sz:=1) (k:=1) (us:=(Qa false g)) (f:=136) 38 (d1:=1) (d2:=3) (d3:=4) rfl rfl rfl rfl rfl rfl (by decide) (by decide) (by decide) (bc rfl (bc rfl (bc rfl bn)))) (sr (fO (OF.assign (VEv.int .i64 0)) (nt (sq (sr (lr (tS g.Cells) rfl (lb rfl) QD rfl Z3 (lO (B.lenS (tv (tS g.Cells) rfl) U9) ?_)))))))))))
 refine fO (OF.move (VEv.int .i64 0)) (nt (VRun.block ?_))
 have he1:(List.replicate g.Cells.size false)=(Qn g 0).2:=by rfl
 refine VRun.loop (A:=Nat) (fun s_=> [(1,(T.rp (Qa false g))),(2,(tN 0)),(3,(T.vp [(T.os 1 0 0 (((List.replicate g.Cells.size false).map (Qm true)).length))])),(4,(vtT 136 (T.rp (Qa false g)) (T.vp [(T.os 1 0 0 (((List.replicate g.Cells.size false).map (Qm true)).length))]) 38)),(5,(tN ((Qn g s_).1))),(17,(tN g.Cells.size)),(18,(tN s_))]) (fun s_=>Q3 [(0,(Obj.rows 1 (((Qn g s_).2).map (Qm true))))]) 1 (fun s_=>s_≤g.Cells.size) (fun s_=>g.Cells.size - s_) (0:Nat) ?_ (Wk.mk (fun k=>if k=0 then 1 else k) ?_ ?_ ?_) ?_
 ·(simp;done)
 ·exact (b2 (b2 (b2 (b2 (bc ⟨(congrArg (T.int .i64) (show 0=(((Qn g 0).1:Nat):Int) from (by rfl))),rfl⟩ (b2 (b2 bn)))))))
 ·exact (bc ⟨(congrArg (fun l_=>some (Obj.rows 1 (List.map (Qm true) l_))) he1),(lb rfl),rfl⟩ bn)
 ·exact nd rfl
 rintro i (hI':i≤g.Cells.size)
 show VRun _ _ _ [(1,(T.rp (Qa false g))),(2,(tN 0)),(3,(T.vp [(T.os 1 0 0 (((List.replicate g.Cells.size false).map (Qm true)).length))])),(4,(vtT 136 (T.rp (Qa false g)) (T.vp [(T.os 1 0 0 (((List.replicate g.Cells.size false).map (Qm true)).length))]) 38)),(5,(tN ((Qn g i).1))),(17,(tN g.Cells.size)),(18,(tN i))] (Q3 [(0,(Obj.rows 1 (((Qn g i).2).map (Qm true))))]) 1 _
 have hI1:=hI'
 have hpl:=YB g i
 have hpn:=Qcm g i
 refine sr (fO (Zt (tv (tN i) rfl) (tv (tN g.Cells.size) rfl)) (nt (sq ?_)))
 refine cd (i<g.Cells.size) rfl (fun fhc1=> ?_) fun fhc1=> ?_
 ·refine sk ?_
  refine tn (sq (VRun.block (sr (mO (tN i) rfl (aO (tN i) rfl (nt (sr (lr (tS g.Cells) rfl (lb rfl) QD rfl Z3 (mO (tN i) rfl ?_)))))))))
  have hb2:i<g.Cells.size:=(by omega)
  refine fO (xix (tv (tS g.Cells) rfl) (tv (tN i) rfl) hb2 U9) (fO (YR (tv (T.int .u8 (QB g.Cells i)) rfl) (VEv.int .u8 46)) (mO (tB (decide (QB g.Cells i=46))) rfl ?_))
  refine VRunO.joinB 6 [27,28,29,30,31] 32 (tB (decide ((QB g.Cells i=46)∧((!(((Qn g i).2)[i]?.getD false))=true)))) ?_ ?_
  ·refine gw (QB g.Cells i=46) (fun fhg26_3=> ?_) fun fhg26_3=> ?_
   ·refine gL (dy fhg26_3) rfl rfl (OL.loadV1 (t:=(T.os 1 0 0 (((List.replicate g.Cells.size false).map (Qm true)).length))) (tv (T.vp [(T.os 1 0 0 (((List.replicate g.Cells.size false).map (Qm true)).length))]) rfl) rfl Qi7) ?_
    refine gF (dy fhg26_3) rfl rfl (OF.move (tv (tN i) rfl)) ?_
    have hy4:((Qn g i).2)[i]? =some (((Qn g i).2)[i]?.getD false):=Jj false (by omega)
    refine gF (dy fhg26_3) rfl rfl (B.indexAddrO (i:=i) (tv (T.os 1 0 0 (((List.replicate g.Cells.size false).map (Qm true)).length)) rfl) (tv (tN i) rfl) rfl (by (simp only [List.length_map,List.length_replicate];omega)) YA sz4 if4) (gL (dy fhg26_3) rfl rfl (OL.loadP1 (t:=(tB (((Qn g i).2)[i]?.getD false))) (row:=(Qm true (((Qn g i).2)[i]?.getD false))) (tv (T.orp 1 0 i 0) rfl) rfl (QA _ hy4) rfl rfl st4) (gF (dy fhg26_3) rfl rfl (Q1 (tv (tB (((Qn g i).2)[i]?.getD false)) rfl)) (fO (OF.pickT (VEv.tmpB rfl (dy fhg26_3)) (tv (tB (!(((Qn g i).2)[i]?.getD false))) rfl)) (VRunO.nil ?_))))
    exact jq (congrArg T.bool (kAT fhg26_3 (dT _))) (js rfl (js rfl (js rfl (js rfl (js rfl (jn))))))
   ·refine QC 5 5 true 26 (dz fhg26_3) rfl rfl rfl ?_
    refine fO (OF.pickF (VEv.tmpB rfl (dz fhg26_3)) (VEv.bool false)) (VRunO.nil ?_)
    exact jq (congrArg T.bool (kAF fhg26_3)) (js rfl (js rfl (js rfl (js rfl (js rfl (jn))))))
  refine nt ?_
  refine cd ((QB g.Cells i=46)∧((!(((Qn g i).2)[i]?.getD false))=true)) rfl (fun fhc2=> ?_) fun fhc2=> ?_
  ·have q0:QbD g (Qn g i).2 i:=⟨fhc2.1,by simpa [on] using fhc2.2⟩
   have q1:=Qb1 q0
   have hci:=Qbo hgo (show i<g.Cells.size by omega)
   have hq0:0≤((i:Nat):Int) / ((g.Cols.toNat:Nat):Int):=Int.ediv_nonneg (by omega) (by omega)
   have hm0:0≤((i:Nat):Int) % ((g.Cols.toNat:Nat):Int):=Int.emod_nonneg _ (by omega)
   refine sr (mO (tN ((Qn g i).1)) rfl (fO (QF (tv (tN ((Qn g i).1)) rfl) (VEv.int .i64 1) (by omega)) (aO (tN ((Qn g i).1+1)) rfl (nt (VRun.draw (B:= [[],[],[],[2],[2,3,1],[],[],[6],[6,7,5],[5,7,6,8,1,3,2,4,0]]) (by kernel_rfl) (by kernel_rfl) (lD (OL.loadV1 (t:=(T.fn 136 [(T.rp (Qa false g)),(T.vp [(T.os 1 0 0 (((List.replicate g.Cells.size false).map (Qm true)).length))]),(vtT 136 (T.rp (Qa false g)) (T.vp [(T.os 1 0 0 (((List.replicate g.Cells.size false).map (Qm true)).length))]) 37)])) (tv (vtT 136 (T.rp (Qa false g)) (T.vp [(T.os 1 0 0 (((List.replicate g.Cells.size false).map (Qm true)).length))]) 38) rfl) rfl QfA) rfl rfl (mD (tN i) rfl rfl (fD (B.fieldAddrR (us:=((Qa false g).drop 1)) (tv (T.rp (Qa false g)) rfl) (lb rfl) Q7 rfl) rfl rfl (lD (OL.loadR1 (t:=(tI g.Cols)) (tv (T.rp ((Qa false g).drop 1)) rfl) rfl Q0) rfl rfl (fD (B.quo (n:=((i / g.Cols.toNat:Nat):Int)) (tv (tN i) rfl) (tv (tI g.Cols) rfl) (by omega) (by (refine QkM ?_ ?_<;>omega))) rfl rfl (mD (tN i) rfl rfl ?_)))))))))))
   refine fD (B.fieldAddrR (us:=((Qa false g).drop 1)) (tv (T.rp (Qa false g)) rfl) (lb rfl) Q7 rfl) rfl rfl (lD (OL.loadR1 (t:=(tI g.Cols)) (tv (T.rp ((Qa false g).drop 1)) rfl) rfl Q0) rfl rfl (fD (B.rem (n:=((i % g.Cols.toNat:Nat):Int)) (tv (tN i) rfl) (tv (tI g.Cols) rfl) (by omega) (by (refine Qjv ?_;omega))) rfl rfl (VRunD.chain (bi:= [5,7,6,8,1,3,2,4,0]) rfl VWant.always rfl rfl rfl (by kernel_rfl) (OC.callvLoan (ts:= [(tN (i / g.Cols.toNat)),(tN (i % g.Cols.toNat)),(T.rp (Qa false g)),(T.vp [(T.os 1 0 0 (((List.replicate g.Cells.size false).map (Qm true)).length))]),(vtT 136 (T.rp (Qa false g)) (T.vp [(T.os 1 0 0 (((List.replicate g.Cells.size false).map (Qm true)).length))]) 37)]) (k:=0) (r:=(T.tup [])) (rows:=(((Qn g i).2).map (Qm true))) (rows':=((Yr 37 g ((Qn g i).2) ((i / g.Cols.toNat:Nat):Int) ((i % g.Cols.toNat:Nat):Int)).map (Qm true))) rfl rfl (vc (tv (tN (i / g.Cols.toNat)) rfl) (vc (tv (tN (i % g.Cols.toNat)) rfl) vn)) rfl (by simp only [JC,ren,QaG,List.cons_append,List.nil_append]) (tl rfl (tl rfl (tl rfl (tl rfl (tl (Qck rfl rfl _) rfl))))) LRes.none rfl (Zq (fun _=>rfl) _) (Zq (fun _=>rfl) _) (Qca (n+0) (((List.replicate g.Cells.size false).map (Qm true)).length) g 37 ((Qn g i).2) ((i / g.Cols.toNat:Nat):Int) ((i % g.Cols.toNat:Nat):Int) (by exact fhc0) (by (simp only [YB,List.length_map,List.length_replicate];done)) (by (simp only [List.length_map,List.length_replicate];omega)) (by omega) (by omega) (by (refine Nat.lt_of_le_of_lt List.count_le_length ?_;rw [YB];omega)))) (VRunD.nil (vinB.n (tn (VRun.region (fO (QF (tv (tN i) rfl) (VEv.int .i64 1) (by omega)) (mO (tN (i+1)) rfl (VRunO.nil (tn ?_)))))))))))
   have he5:Yr 37 g ((Qn g i).2) ((i / g.Cols.toNat:Nat):Int) ((i % g.Cols.toNat:Nat):Int)=(Qn g (i+1)).2:=by (rw [q1.2];exact Qjx hgo hpl fhc1 (Nat.lt_of_le_of_lt List.count_le_length (by omega)) (QaW i hI1) q0.1)
   refine ⟨(i+1:Nat),?_,?_,Wk.mk (fun k=>k) ?_ ?_ ?_⟩
   ·trivial
   ·omega
   ·exact (b2 (b2 (b2 (b2 (bc ⟨(congrArg (T.int .i64) (show ((((Qn g i).1+1):Nat):Int)=(((Qn g (i+1)).1:Nat):Int) from (by omega))),rfl⟩ (b2 (b2 bn)))))))
   ·exact (bc ⟨(congrArg (fun l_=>some (Obj.rows 1 (List.map (Qm true) l_))) he5),(lb rfl),rfl⟩ bn)
   ·exact nd rfl
  have q0:¬QbD g (Qn g i).2 i:=fun h=>fhc2 ⟨h.1,by have:=h.2;unfold on at this;rw [this];rfl⟩
  refine sk (vinB.n (tn (VRun.region (fO (QF (tv (tN i) rfl) (VEv.int .i64 1) (by omega)) (mO (tN (i+1)) rfl (VRunO.nil (tn ?_)))))))
  have he6:(Qn g i).2=(Qn g (i+1)).2:=by (rw [Qat q0];done)
  refine ⟨(i+1:Nat),?_,?_,Wk.mk (fun k=>k) ?_ ?_ ?_⟩
  ·trivial
  ·omega
  ·exact (b2 (b2 (b2 (b2 (bc ⟨(congrArg (T.int .i64) (show (((Qn g i).1:Nat):Int)=(((Qn g (i+1)).1:Nat):Int) from (by (rw [Qat q0];done)))),rfl⟩ (b2 (b2 bn)))))))
  ·exact (bc ⟨(congrArg (fun l_=>some (Obj.rows 1 (List.map (Qm true) l_))) he6),(lb rfl),rfl⟩ bn)
  ·exact nd rfl
 refine VRun.exit (vthn.e (vthn.e (vinB.e (tn (sr (mO (tN ((Qn g i).1)) rfl (aO (tN ((Qn g i).1)) rfl (nt (rt (vi (n':=(((Qn g i).1:Nat):Int)) rfl ?_))))))))))
 exact congrArg (fun x:Nat=>(x:Int)) (Qem hI1 (.inl hgo) (by omega))
end Go.Proofs.YthifchndolccgaaGreatDoor.AE
namespace Go.Proofs.YthifchndolccgaaGreatDoor.AE
open Go Go.RowKit
set_option linter.unusedVariables false
set_option linter.unusedSimpArgs false
set_option maxRecDepth 20000
set_option maxHeartbeats 2000000
noncomputable section
def ZG (g:D.Grid):Int:=if ¬gridOk g then 1 else if ¬QcG g then 2 else if ¬ZJ g=1 then 3 else if Qa0 g then 4 else if Qaw g then 5 else 0
theorem QgB {g:D.Grid} (h:∀j s,j<(Qb g).length→(Qb g)[j]? =some s→¬QcL g j s) (hg:gridOk g):QeB g g.Cells↔Qaw g:=by
 constructor
 ·rintro ⟨c,h1,h2,_⟩
  exact .inr ⟨c,h1,hg,h2⟩
 ·rintro (⟨j,s,h3,h4⟩ | ⟨c,h1,_,h2⟩)
  ·exact absurd h4 (h j s (List.getElem?_eq_some_iff.1 h3).1 h3)
  ·refine ⟨c,h1,h2,?_⟩
   unfold Qao
   have:=h2.1
   omega
end
theorem Qbe (n:Nat) (g:D.Grid) (hc:g.Cells.size≤mx):Pure (Qr Tryz.prog (n+4)) 74 [(T.agg (Qa false g))] (tB (decide (ZJ g=1))):=by
 refine Pure.intro (rs:= [ResultVar.tmp 2]) Tryz.func74 rfl rfl rfl (E0:= [(0,(T.agg (Qa false g)))]) rfl ?_
 obtain ⟨hlim,hmx,hmax⟩:=QJ
 refine sr (kO (B.box (ts:=(Qa false g)) (tv (T.agg (Qa false g)) rfl) nofun rfl) (fO (OF.assign (VEv.bool false)) (nt (sr (lO (OL.loadOn (us:=(Qa false g)) (tv (T.op 0 0) rfl) rfl QY QR (lb rfl) rfl) (cO (cS (vc (tv (T.agg (Qa false g)) rfl) vn) (LendL.cons (lg Qt) ln) (Qdc (n+0) g (by assumption)) rfl rfl) (fO (B.eql (c:=(decide (ZJ g=1))) (tv (tN (ZJ g)) rfl) (VEv.int .i64 1) (Q8 (by omega))) (aO (tB (decide (ZJ g=1))) rfl (nt (rt ?_))))))))))
 exact vb rfl rfl
theorem Qa2 (n:Nat) (g:D.Grid) (hc:g.Cells.size≤mx):Pure (Qr Tryz.prog (n+40)) 79 [(T.agg (Qa false g))] (tB (decide (ZJ g=1))):=by
 refine Pure.intro (rs:= [ResultVar.tmp 2]) Tryz.func79 rfl rfl rfl (E0:= [(0,(T.agg (Qa false g)))]) rfl ?_
 obtain ⟨hlim,hmx,hmax⟩:=QJ
 refine sr (kO (B.box (ts:=(Qa false g)) (tv (T.agg (Qa false g)) rfl) nofun rfl) (fO (OF.assign (VEv.bool false)) (nt (sr (lO (OL.loadOn (us:=(Qa false g)) (tv (T.op 0 0) rfl) rfl QY QR (lb rfl) rfl) (cO (cS (vc (tv (T.agg (Qa false g)) rfl) vn) (LendL.cons (lg Qt) ln) (Qdh (n+0) g (by assumption)) rfl rfl) (fO (B.eql (c:=(decide (ZJ g=1))) (tv (tN (ZJ g)) rfl) (VEv.int .i64 1) (Q8 (by omega))) (aO (tB (decide (ZJ g=1))) rfl (nt (rt ?_))))))))))
 exact vb rfl rfl
theorem QdL (n:Nat) (g:D.Grid) (hc:g.Cells.size≤mx):Pure (Qr Tryz.prog (n+9)) 52 [(T.agg (Qa false g))] (tI (ZG g)):=by
 refine Pure.intro (rs:= [ResultVar.tmp 2]) Tryz.func52 rfl rfl rfl (E0:= [(0,(T.agg (Qa false g)))]) rfl ?_
 obtain ⟨hlim,hmx,hmax⟩:=QJ
 refine sr (kO (B.box (ts:=(Qa false g)) (tv (T.agg (Qa false g)) rfl) nofun rfl) (fO (OF.assign (VEv.int .i64 0)) (nt (sq (VRun.block (sr (lO (OL.loadOn (us:=(Qa false g)) (tv (T.op 0 0) rfl) rfl QY QR (lb rfl) rfl) (cO (cS (vc (tv (T.agg (Qa false g)) rfl) vn) (LendL.cons (lg Qt) ln) (Zr (n+6) g (by omega)) rfl rfl) (fO (Q1 (tv (tB (decide (gridOk g))) rfl)) (aO (tB (!(decide (gridOk g)))) rfl (nt ?_)))))))))))
 refine cn (gridOk g) rfl (fun fhc0=> ?_) fun fhc0=> ?_
 ·refine sr ?_
  refine fO (OF.assign (VEv.int .i64 1)) (nt (rt (vinB.r (tr (vi (n':=1) rfl ?_)))))
  exact (if_pos (by assumption)).symm
 refine sr (lO (OL.loadOn (us:=(Qa false g)) (tv (T.op 0 0) rfl) rfl QY QR (lb rfl) rfl) (cO (cS (vc (tv (T.agg (Qa false g)) rfl) vn) (LendL.cons (lg Qt) ln) (Qa3 (n+4) g (by omega)) rfl rfl) (fO (Q1 (tv (tB (decide (QcG g))) rfl)) (aO (tB (!(decide (QcG g)))) rfl (nt ?_)))))
 refine cn (QcG g) rfl (fun fhc1=> ?_) fun fhc1=> ?_
 ·refine sr ?_
  refine fO (OF.assign (VEv.int .i64 2)) (nt (rt (vinB.r (tr (vi (n':=2) rfl ?_)))))
  (simp only [ZG];simp [*];done)
 refine sr (lO (OL.loadOn (us:=(Qa false g)) (tv (T.op 0 0) rfl) rfl QY QR (lb rfl) rfl) (cO (cS (vc (tv (T.agg (Qa false g)) rfl) vn) (LendL.cons (lg Qt) ln) (Qbe (n+4) g (by assumption)) rfl rfl) (fO (Q1 (tv (tB (decide (ZJ g=1))) rfl)) (aO (tB (!(decide (ZJ g=1)))) rfl (nt ?_)))))
 refine cn (ZJ g=1) rfl (fun fhc2=> ?_) fun fhc2=> ?_
 ·refine sr ?_
  refine fO (OF.assign (VEv.int .i64 3)) (nt (rt (vinB.r (tr (vi (n':=3) rfl ?_)))))
  (simp only [ZG];simp [*];done)
 refine sr (lO (OL.loadOn (us:=(Qa false g)) (tv (T.op 0 0) rfl) rfl QY QR (lb rfl) rfl) (cO (cS (vc (tv (T.agg (Qa false g)) rfl) vn) (LendL.cons (lg Qt) ln) (QcV (n+4) g (by omega)) rfl rfl) (aO (tB (decide (Qa0 g))) rfl (nt ?_))))
 refine cd (Qa0 g) rfl (fun fhc3=> ?_) fun fhc3=> ?_
 ·refine sr ?_
  refine fO (OF.assign (VEv.int .i64 4)) (nt (rt (vinB.r (tr (vi (n':=4) rfl ?_)))))
  (simp only [ZG];simp [*];done)
 refine sr (lO (OL.loadOn (us:=(Qa false g)) (tv (T.op 0 0) rfl) rfl QY QR (lb rfl) rfl) (cO (cS (vc (tv (T.agg (Qa false g)) rfl) vn) (LendL.cons (lg Qt) ln) (QcO (n+0) g (by omega)) rfl rfl) (aO (tB (decide (Qaw g))) rfl (nt ?_))))
 refine cd (Qaw g) rfl (fun fhc4=> ?_) fun fhc4=> ?_
 ·refine sr ?_
  refine fO (OF.assign (VEv.int .i64 5)) (nt (rt (vinB.r (tr (vi (n':=5) rfl ?_)))))
  (simp only [ZG];simp [*];done)
 refine sk (vinB.n (tn (sr (fO (OF.assign (VEv.int .i64 0)) (nt (rt (vi (n':=0) rfl ?_)))))))
 (simp only [ZG];simp [*];done)
theorem QdS (n:Nat) (g:D.Grid) (hc:g.Cells.size≤mx):Pure (Qr Tryz.prog (n+41)) 55 [(T.agg (Qa false g))] (tI (ZG g)):=by
 refine Pure.intro (rs:= [ResultVar.tmp 2]) Tryz.func55 rfl rfl rfl (E0:= [(0,(T.agg (Qa false g)))]) rfl ?_
 obtain ⟨hlim,hmx,hmax⟩:=QJ
 have hsl:=ZE g
 refine sr (kO (B.box (ts:=(Qa false g)) (tv (T.agg (Qa false g)) rfl) nofun rfl) (fO (OF.assign (VEv.int .i64 0)) (nt (sq (VRun.block (sr (lO (OL.loadOn (us:=(Qa false g)) (tv (T.op 0 0) rfl) rfl QY QR (lb rfl) rfl) (cO (cS (vc (tv (T.agg (Qa false g)) rfl) vn) (LendL.cons (lg Qt) ln) (ZQ (n+38) g (by omega)) rfl rfl) (fO (Q1 (tv (tB (decide (gridOk g))) rfl)) (aO (tB (!(decide (gridOk g)))) rfl (nt ?_)))))))))))
 refine cn (gridOk g) rfl (fun fhc0=> ?_) fun fhc0=> ?_
 ·refine sr ?_
  refine fO (OF.assign (VEv.int .i64 1)) (nt (rt (vinB.r (tr (vi (n':=1) rfl ?_)))))
  exact (if_pos fhc0).symm
 refine sr (lO (OL.loadOn (us:=(Qa false g)) (tv (T.op 0 0) rfl) rfl QY QR (lb rfl) rfl) (cO (cS (vc (tv (T.agg (Qa false g)) rfl) vn) (LendL.cons (lg Qt) ln) (Qbg (n+36) g (by omega)) rfl rfl) (fO (Q1 (tv (tB (decide (QcG g))) rfl)) (aO (tB (!(decide (QcG g)))) rfl (nt ?_)))))
 refine cn (QcG g) rfl (fun fhc1=> ?_) fun fhc1=> ?_
 ·refine sr ?_
  refine fO (OF.assign (VEv.int .i64 2)) (nt (rt (vinB.r (tr (vi (n':=2) rfl ?_)))))
  unfold ZG;rw [if_neg (not_not_intro fhc0),if_pos fhc1]
 refine sr (lO (OL.loadOn (us:=(Qa false g)) (tv (T.op 0 0) rfl) rfl QY QR (lb rfl) rfl) (cO (cS (vc (tv (T.agg (Qa false g)) rfl) vn) (LendL.cons (lg Qt) ln) (Qa2 (n+0) g (by assumption)) rfl rfl) (fO (Q1 (tv (tB (decide (ZJ g=1))) rfl)) (aO (tB (!(decide (ZJ g=1)))) rfl (nt ?_)))))
 refine cn (ZJ g=1) rfl (fun fhc2=> ?_) fun fhc2=> ?_
 ·refine sr ?_
  refine fO (OF.assign (VEv.int .i64 3)) (nt (rt (vinB.r (tr (vi (n':=3) rfl ?_)))))
  unfold ZG;rw [if_neg (not_not_intro fhc0),if_neg (not_not_intro fhc1),if_pos fhc2]
 refine sk (vinB.n (tn (sr (lO (OL.loadOn (us:=(Qa false g)) (tv (T.op 0 0) rfl) rfl QY QR (lb rfl) rfl) (cO (OC.callF (r':=(T.os 4 1 0 (((Qb g).map (Qi true)).length))) (objs:= [(Obj.rows 4 ((Qb g).map (Qi true)))]) rfl (vc (tv (T.agg (Qa false g)) rfl) vn) (LendL.cons (lg Qt) ln) (Jc (n+37) g (by omega)) rfl) (aO (T.os 4 1 0 (((Qb g).map (Qi true)).length)) rfl (nt (sq (sr (mO (T.os 4 1 0 (((Qb g).map (Qi true)).length)) rfl (lO (B.lenO (m:=(Qb g).length) (tv (T.os 4 1 0 (((Qb g).map (Qi true)).length)) rfl) J8 (List.length_map ..)) ?_)))))))))))
 refine fO (OF.move (VEv.int .i64 0)) (nt (VRun.block ?_))
 refine VRun.loop (A:=Nat) (fun s_=> [(1,(T.op 0 0)),(3,(T.os 4 1 0 (((Qb g).map (Qi true)).length))),(22,(T.os 4 1 0 (((Qb g).map (Qi true)).length))),(23,(tN ((Qb g).length))),(24,(tN s_))]) (fun s_=>Q3 [(0,(Obj.cells (Qa false g))),(1,(Obj.rows 4 ((Qb g).map (Qi true))))]) 2 (fun s_=>NoneTo (fun s:D.Slot=>s.Length<3) (Qb g) s_) (fun s_=>(Qb g).length - s_) (0:Nat) ?_ (Wk.mk (fun k=>k) ?_ ?_ ?_) ?_
 ·exact NoneTo.start _ _
 ·exact (b2 (b2 (b2 (b2 (b2 bn)))))
 ·exact (b3 (b3 bn))
 ·exact nd rfl
 rintro i (hI':NoneTo (fun s:D.Slot=>s.Length<3) (Qb g) i)
 show VRun _ _ _ [(1,(T.op 0 0)),(3,(T.os 4 1 0 (((Qb g).map (Qi true)).length))),(22,(T.os 4 1 0 (((Qb g).map (Qi true)).length))),(23,(tN ((Qb g).length))),(24,(tN i))] (Q3 [(0,(Obj.cells (Qa false g))),(1,(Obj.rows 4 ((Qb g).map (Qi true))))]) 2 _
 have hI1:=hI'.1
 have hns:=hI'
 refine sr (fO (Zt (tv (tN i) rfl) (tv (tN ((Qb g).length)) rfl)) (nt (sq ?_)))
 refine cd (i<(Qb g).length) rfl (fun fhc3=> ?_) fun fhc3=> ?_
 ·have hx0:=fhc3
  refine sk (tn (sq (VRun.block (sr ?_))))
  obtain ⟨x1,hx1⟩:∃x,(Qb g)[i]? =some x:=⟨_,List.getElem?_eq_getElem (by omega)⟩
  refine fO (B.indexAddrO (i:=i) (tv (T.os 4 1 0 (((Qb g).map (Qi true)).length)) rfl) (tv (tN i) rfl) rfl (by (simp only [List.length_map];omega)) J8 ZM Qc8) (lO (OL.loadPn (us:=(Qi false x1)) (row:=(Qi true x1)) (tv (T.orp 4 1 i 0) rfl) rfl (QA _ hx1) QfT ZM (lb rfl) rfl (bc rfl (bc rfl (bc rfl (bc rfl bn))))) (kO (B.alloc (t:=(T.agg [(tN 0),(tB false),(tN 0),(tN 0)])) (ts:= [(tN 0),(tB false),(tN 0),(tN 0)]) Jg Qky nofun (fun _=> .agg _ _ rfl (YD (RL.cons (.int _ _) (RL.cons (.bool _) (RL.cons (.int _ _) (RL.cons (.int _ _) (RL.nil _))))))) rfl) (cO (B.storeW (us:=(Qi false x1)) (tv (T.op 2 0) rfl) (tv (T.agg (Qi false x1)) rfl) nofun rfl rfl rfl Qc8 ZM (bc rfl (bc rfl (bc rfl (bc rfl bn))))) (nt (sr (lf (tI x1.Length) rfl Qba rfl rfl Q0 (fO (xls (tv (tI x1.Length) rfl) (VEv.int .i64 3)) (nt ?_))))))))
  refine cd (x1.Length<3) rfl (fun fhc4=> ?_) fun fhc4=> ?_
  ·refine sr ?_
   refine fO (OF.assign (VEv.int .i64 4)) (nt (rt (vinB.r (tr (tr (vinB.r (tr (vi (n':=4) rfl ?_))))))))
   unfold ZG;rw [if_neg (not_not_intro fhc0),if_neg (not_not_intro fhc1),if_neg (not_not_intro fhc2),if_pos (show Qa0 g from ⟨x1,List.mem_of_getElem? hx1,fhc4⟩)]
  refine sk (vinB.n (tn (VRun.region (fO (QF (tv (tN i) rfl) (VEv.int .i64 1) (by omega)) (mO (tN (i+1)) rfl (VRunO.nil (tn ?_)))))))
  refine ⟨(i+1:Nat),?_,?_,Wk.mk (fun k=>k) ?_ ?_ ?_⟩
  ·exact hI'.next hx1 fhc4
  ·omega
  ·exact (b2 (b2 (b2 (b2 (b2 bn)))))
  ·exact (b3 (b3 bn))
  ·exact nd rfl
 have hsh:¬Qa0 g:=by rintro ⟨y,hy,hy2⟩;exact hns.mem fhc3 y hy hy2
 refine VRun.exit (vthn.e (vthn.e (vinB.e (tn (sq (sr (mO (T.os 4 1 0 (((Qb g).map (Qi true)).length)) rfl (lO (B.lenO (m:=(Qb g).length) (tv (T.os 4 1 0 (((Qb g).map (Qi true)).length)) rfl) J8 (List.length_map ..)) (fO (OF.move (VEv.int .i64 0)) (nt (VRun.block ?_)))))))))))
 refine VRun.loop (A:=Nat) (fun s_=> [(1,(T.op 0 0)),(32,(T.os 4 1 0 (((Qb g).map (Qi true)).length))),(33,(tN ((Qb g).length))),(34,(tN s_))]) (fun s_=>Q3 [(0,(Obj.cells (Qa false g))),(1,(Obj.rows 4 ((Qb g).map (Qi true))))]) 2 (fun s_=>NoBad g s_) (fun s_=>(Qb g).length - s_) (0:Nat) ?_ (Wk.mk (fun k=>k) ?_ ?_ ?_) ?_
 ·exact NoBad.start _
 ·exact (b2 (b2 (b2 (b2 bn))))
 ·exact (b3 (b3 bn))
 ·exact nd rfl
 rintro k (hI':NoBad g k)
 show VRun _ _ _ [(1,(T.op 0 0)),(32,(T.os 4 1 0 (((Qb g).map (Qi true)).length))),(33,(tN ((Qb g).length))),(34,(tN k))] (Q3 [(0,(Obj.cells (Qa false g))),(1,(Obj.rows 4 ((Qb g).map (Qi true))))]) 2 _
 have hJ1:=hI'.1
 have hub:=QiR g ((k:Nat):Int)
 refine sr (fO (Zt (tv (tN k) rfl) (tv (tN ((Qb g).length)) rfl)) (nt (sq ?_)))
 refine cd (k<(Qb g).length) rfl (fun fhc5=> ?_) fun fhc5=> ?_
 ·refine sk ?_
  refine tn (sq (VRun.block (sr (mO (tN k) rfl ?_))))
  obtain ⟨x1,hx1⟩:∃x,(Qb g)[k]? =some x:=⟨_,List.getElem?_eq_getElem (by omega)⟩
  refine fO (B.indexAddrO (i:=k) (tv (T.os 4 1 0 (((Qb g).map (Qi true)).length)) rfl) (tv (tN k) rfl) rfl (by (simp only [List.length_map];omega)) J8 ZM Qc8) (lO (OL.loadPn (us:=(Qi false x1)) (row:=(Qi true x1)) (tv (T.orp 4 1 k 0) rfl) rfl (QA _ hx1) QfT ZM (lb rfl) rfl (bc rfl (bc rfl (bc rfl (bc rfl bn))))) (kO (B.alloc (t:=(T.agg [(tN 0),(tB false),(tN 0),(tN 0)])) (ts:= [(tN 0),(tB false),(tN 0),(tN 0)]) Jg Qky nofun (fun _=> .agg _ _ rfl (YD (RL.cons (.int _ _) (RL.cons (.bool _) (RL.cons (.int _ _) (RL.cons (.int _ _) (RL.nil _))))))) rfl) (aO (tN k) rfl (cO (B.storeW (us:=(Qi false x1)) (tv (T.op 2 0) rfl) (tv (T.agg (Qi false x1)) rfl) nofun rfl rfl rfl Qc8 ZM (bc rfl (bc rfl (bc rfl (bc rfl bn))))) (nt (sq (VRun.draw (B:= [[],[],[1,0],[0,1,2],[],[4],[4,5,2,1,0,3]]) (by kernel_rfl) (by kernel_rfl) (lD (OL.loadOn (us:=(Qa false g)) (tv (T.op 0 0) rfl) rfl QY QR (lb rfl) rfl) rfl rfl (mD (tN k) rfl rfl (VRunD.quiet (bi:= [1,0]) rfl VWant.always rfl rfl rfl bn (cS (vc (tv (T.agg (Qa false g)) rfl) (vc (tv (tN k) rfl) vn)) (LendL.cons (lg Qt) (lp rfl ln)) (Qbb (n+33) g ((k:Nat):Int) (by omega)) rfl rfl) (fD (B.mul (n:=(2*unG g ((k:Nat):Int))) (VEv.int .i64 2) (tv (tI (unG g ((k:Nat):Int))) rfl) (by (rw [Qy (by omega)];done))) rfl rfl ?_)))))))))))
  refine fD (OF.fieldAddrO (tv (T.op 2 0) rfl) Qba) rfl rfl (lD (OL.loadO1 (t:=(tI x1.Length)) (tv (T.op 2 3) rfl) rfl rfl Q0) rfl rfl (fD (xgt (tv (tI (2*unG g ((k:Nat):Int))) rfl) (tv (tI x1.Length) rfl)) rfl rfl (VRunD.nil (tn ?_))))
  refine cd (x1.Length<(2*unG g ((k:Nat):Int))) rfl (fun fhc6=> ?_) fun fhc6=> ?_
  ·have q1:QcL g k x1:=by unfold QcL;omega
   refine sr (fO (OF.assign (VEv.int .i64 5)) (nt (rt (vinB.r (tr (tr (vinB.r (tr (vi (n':=5) rfl ?_)))))))))
   unfold ZG;rw [if_neg (not_not_intro fhc0),if_neg (not_not_intro fhc1),if_neg (not_not_intro fhc2),if_neg hsh,if_pos (show Qaw g from .inl ⟨k,x1,hx1,q1⟩)]
  have q1:¬QcL g k x1:=by unfold QcL;omega
  refine sk (vinB.n (tn (VRun.region (fO (QF (tv (tN k) rfl) (VEv.int .i64 1) (by omega)) (mO (tN (k+1)) rfl (VRunO.nil (tn ?_)))))))
  refine ⟨(k+1:Nat),?_,?_,Wk.mk (fun k=>k) ?_ ?_ ?_⟩
  ·exact hI'.next hx1 q1
  ·omega
  ·exact (b2 (b2 (b2 (b2 bn))))
  ·exact (b3 (b3 bn))
  ·exact nd rfl
 have hal:=QgB (g:=g) (fun j s hj=>hI'.2 j s (by omega)) (by simpa using fhc0)
 refine VRun.exit (vthn.e (vthn.e (vinB.e (tn (sq (sr (lO (OL.loadOn (us:=(Qa false g)) (tv (T.op 0 0) rfl) rfl QY QR (lb rfl) rfl) (lf (tS g.Cells) rfl QD rfl rfl Z3 (cO (cS (vc (tv (T.agg (Qa false g)) rfl) (vc (tv (tS g.Cells) rfl) vn)) (LendL.cons (lg Qt) (lp rfl ln)) (Qe0 (n+35) g g.Cells (by omega) (by omega)) rfl rfl) (nt ?_))))))))))
 refine cd (QeB g g.Cells) rfl (fun fhc7=> ?_) fun fhc7=> ?_
 ·refine sr ?_
  refine fO (OF.assign (VEv.int .i64 5)) (nt (rt (tr (vi (n':=5) rfl ?_))))
  unfold ZG;rw [if_neg (not_not_intro fhc0),if_neg (not_not_intro fhc1),if_neg (not_not_intro fhc2),if_neg hsh,if_pos (hal.1 fhc7)]
 refine sk (tn (sr (fO (OF.assign (VEv.int .i64 0)) (nt (rt (vi (n':=0) rfl ?_))))))
 unfold ZG;rw [if_neg (not_not_intro fhc0),if_neg (not_not_intro fhc1),if_neg (not_not_intro fhc2),if_neg hsh,if_neg (fun h=>fhc7 (hal.2 h))]
end Go.Proofs.YthifchndolccgaaGreatDoor.AE
namespace Go.Proofs.YthifchndolccgaaGreatDoor.AE
open Go Go.RowKit
set_option linter.unusedVariables false
set_option linter.unusedSimpArgs false
set_option maxRecDepth 20000
set_option maxHeartbeats 2000000
noncomputable section
def okC (c:D.Clue):Prop:=(1≤c.Sense∧c.Sense≤99)∧ZX c.Play
end
end Go.Proofs.YthifchndolccgaaGreatDoor.AE
namespace Go.Proofs.YthifchndolccgaaGreatDoor.AE
open Go Go.RowKit
set_option linter.unusedVariables false
set_option linter.unusedSimpArgs false
set_option maxRecDepth 20000
set_option maxHeartbeats 2000000
noncomputable section
def Qdb : Nat→Int→ByteArray→ByteArray
 | 0,_,acc=>acc
 | f+1,k,acc=>if 0<k then Qdb f (k.tdiv 10) (Yu [IntKind.u8.wrap (48+k.tmod 10)]++acc) else acc
def QaP (k:Int):ByteArray:=if k≤0 then ⟨#[109,48]⟩ else ⟨#[109]⟩++Qdb k.toNat k ⟨#[]⟩
theorem Qhv {f:Nat} {k:Int} {acc:ByteArray} (hk:0<k) (hf:k.toNat≤f):0≤k.tdiv 10∧(k.tdiv 10).toNat≤f - 1∧Qdb f k acc=Qdb (f - 1) (k.tdiv 10) (Yu [IntKind.u8.wrap (48+k.tmod 10)]++acc):=by
 have h1:k.tdiv 10=k / 10:=Int.tdiv_eq_ediv_of_nonneg (by omega)
 cases f with
 | zero=>omega
 | succ f =>
  refine ⟨by omega,by omega,?_⟩
  simp only [Qdb,if_pos hk]
  rfl
theorem Qi6 {f:Nat} {k:Int} {acc:ByteArray} (hk:¬ 0<k):Qdb f k acc=acc:=by
 cases f with
 | zero=>rfl
 | succ f=>simp only [Qdb,if_neg hk]
theorem Qh1 (n:Int):(Yu [n]).size=1:=rfl
theorem QkD {k:Int} (h:0<k):0≤k.tmod 10∧k.tmod 10<10∧0≤k.tdiv 10∧k.tdiv 10≤k:=by
 rw [Int.tmod_eq_emod_of_nonneg (by omega),Int.tdiv_eq_ediv_of_nonneg (by omega)]
 omega
end
theorem QcJ (n:Nat) (q:Int) (hq:q≤Yd):Pure (Qr Tryz.prog (n+1)) 48 [(tI q)] (tS (QaP q)):=by
 refine Pure.intro (rs:= [ResultVar.tmp 2]) Tryz.func48 rfl rfl rfl (E0:= [(0,(tI q))]) rfl ?_
 obtain ⟨hlim,hmx,hmax⟩:=QJ
 refine sr (fO (OF.assign (VEv.str (⟨#[]⟩:ByteArray))) (nt (sq (sr (mO (tI q) rfl (fO (xle (tv (tI q) rfl) (VEv.int .i64 0)) (nt ?_)))))))
 refine cd (q≤0) rfl (fun fhc0=> ?_) fun fhc0=> ?_
 ·refine sr ?_
  refine fO (OF.assign (VEv.str (⟨#[109,48]⟩:ByteArray))) (nt (rt (tr ?_)))
  refine vfin.eq (r':=(tS (⟨#[109,48]⟩:ByteArray))) ?_ (vfin.r (VRes.tmp (t:=(tS (⟨#[109,48]⟩:ByteArray))) rfl VRes.nil) (Give.str _))
  refine congrArg T.str ?_
  exact (if_pos fhc0).symm
 refine sk (tn (sr (fO (OF.assign (VEv.str (⟨#[]⟩:ByteArray))) (nt (sq (VRun.block ?_))))))
 refine VRun.loop (A:=Int×Nat×ByteArray) (fun s_=> [(0,(tI s_.1)),(2,(tS (⟨#[]⟩:ByteArray))),(3,(tS s_.2.2))]) (fun s_=>Q3 []) 0 (fun s_=>0≤s_.1∧s_.1.toNat≤s_.2.1∧s_.2.2.size+s_.2.1≤q.toNat∧Qdb q.toNat q ⟨#[]⟩=Qdb s_.2.1 s_.1 s_.2.2) (fun s_=>s_.2.1) ((q,q.toNat,⟨#[]⟩):Int×Nat×ByteArray) ?_ (Wk.mk (fun k=>k) ?_ ?_ ?_) ?_
 ·exact ⟨by omega,Nat.le_refl _,by show 0+q.toNat≤q.toNat;omega,rfl⟩
 ·exact (b2 (b2 (bc ⟨(congrArg T.str (show (⟨#[]⟩:ByteArray)=⟨#[]⟩ from (by rfl))),rfl⟩ bn)))
 ·exact bn
 ·exact nd rfl
 rintro ⟨k,f,acc⟩ (hI':0≤k∧k.toNat≤f∧acc.size+f≤q.toNat∧Qdb q.toNat q ⟨#[]⟩=Qdb f k acc)
 show VRun _ _ _ [(0,(tI k)),(2,(tS (⟨#[]⟩:ByteArray))),(3,(tS acc))] (Q3 []) 0 _
 have hI1:=hI'.1
 have hI2:=hI'.2.1
 have hI3:=hI'.2.2.1
 have hI4:=hI'.2.2.2
 refine sq (sr (mO (tI k) rfl (fO (xgt (tv (tI k) rfl) (VEv.int .i64 0)) (nt ?_))))
 refine cd (0<k) rfl (fun fhc1=> ?_) fun fhc1=> ?_
 ·obtain ⟨m1,m2,m3,m4⟩:=QkD fhc1
  refine sk (tn (VRun.block (sr (mO (tI k) rfl (fO (B.rem (n:=(k.tmod 10)) (tv (tI k) rfl) (VEv.int .i64 10) (by omega) (by rfl)) (fO (B.add (n:=(48+(k.tmod 10))) (VEv.int .i64 48) (tv (tI (k.tmod 10)) rfl) (by (rw [Qy (by omega)];done))) (fO (OF.convI (tv (tI (48+(k.tmod 10))) rfl) (k0:= .i64) U3 U5) (kO (OM.buildSlice (l:= [(T.int .u8 (IntKind.u8.wrap (48+(k.tmod 10))))]) (VEvp.cons (tv (T.int .u8 (IntKind.u8.wrap (48+(k.tmod 10)))) rfl) VEvp.nil) rfl (by decide) (bc (nofun) bn) (bc ((bc (rfl) bn)) bn) (bc (rfl) bn) U92 zo5 (by kernel_rfl) rfl (by rw [sz5];decide) sz5 (Nat.le_of_ble_eq_true rfl)) (lO (B.convBS (l:= [IntKind.u8.wrap (48+(k.tmod 10))]) (tv (T.os 1 0 0 1) rfl) rfl rfl U92 U5 U9) (mO (tS acc) rfl (fO (B.sadd (tv (tS (Yu [IntKind.u8.wrap (48+(k.tmod 10))])) rfl) (tv (tS acc) rfl) (by (simp only [Qh1];omega))) ?_)))))))))))
  refine aO (tS ((Yu [IntKind.u8.wrap (48+(k.tmod 10))])++acc)) rfl (nt (VRun.region (mO (tI k) rfl (fO (B.quo (n:=(k.tdiv 10)) (tv (tI k) rfl) (VEv.int .i64 10) (by omega) (by (rw [Qy (by omega)];done))) (aO (tI (k.tdiv 10)) rfl (VRunO.nil (vinB.n (tn ?_))))))))
  obtain ⟨n1,n2,n3⟩:=Qhv (acc:=acc) fhc1 hI2
  refine ⟨((k.tdiv 10,f - 1,Yu [IntKind.u8.wrap (48+k.tmod 10)]++acc):Int×Nat×ByteArray),?_,?_,Wk.mk (fun k=>k) ?_ ?_ ?_⟩
  ·exact ⟨n1,n2,by show (Yu _++acc).size+(f - 1)≤q.toNat;rw [ByteArray.size_append,Qh1];omega,hI4.trans n3⟩
  ·(simp only [];omega)
  ·exact (b2 (b2 (bc ⟨(congrArg T.str (show ((Yu [IntKind.u8.wrap (48+(k.tmod 10))])++acc)=(Yu [IntKind.u8.wrap (48+k.tmod 10)]++acc) from (by rfl))),rfl⟩ bn)))
  ·exact bn
  ·exact nd rfl
 refine VRun.exit (vthn.e (vthn.e (vinB.e (tn (sr (mO (tS acc) rfl (fO (B.sadd (VEv.str (⟨#[109]⟩:ByteArray)) (tv (tS acc) rfl) (by (rw [show (⟨#[109]⟩:ByteArray).size=1 from rfl];omega))) (aO (tS ((⟨#[109]⟩:ByteArray)++acc)) rfl (nt (rt ?_))))))))))
 refine vfin.eq (r':=(tS ((⟨#[109]⟩:ByteArray)++acc))) ?_ (vfin.r (VRes.tmp (t:=(tS ((⟨#[109]⟩:ByteArray)++acc))) rfl VRes.nil) (Give.str _))
 refine congrArg T.str ?_
 unfold QaP
 rw [if_neg fhc0,hI4,Qi6 fhc1]
end Go.Proofs.YthifchndolccgaaGreatDoor.AE
namespace Go.Proofs.YthifchndolccgaaGreatDoor.AE
open Go Go.RowKit
set_option linter.unusedVariables false
set_option linter.unusedSimpArgs false
set_option maxRecDepth 20000
set_option maxHeartbeats 2000000
noncomputable section
def Zc (k:Nat):D.Step:=(D.Step.mk ((k:Nat):Int) (QaP ((k+1:Nat):Int)) ((k+2:Nat):Int) ((k+3:Nat):Int))
end
theorem QbZ (n:Nat) (a:List D.Step) (k:Nat) (hk:k+4*a.length≤Yd):Mut (Qr Tryz.prog (n+2)) 63 4 (a.map (Qj true)) [(tN k)] (some ((k+4*a.length:Nat):Int)) ((YT Zc 4 k a.length).map (Qj true)):=by
 refine Mut.intro (rt:=4) Tryz.func63 rfl rfl rfl (by kernel_rfl) (Zq (fun _=>rfl) _) (Zq (fun _=>rfl) _) (E0:= [(1,(tN k))]) rfl ?_
 obtain ⟨hlim,hmx,hmax⟩:=QJ
 refine sr (fO (OF.assign (VEv.int .i64 0)) (nt (sq (sr (fO (OF.assign (VEv.int .i64 0)) (nt (VRun.block ?_)))))))
 have he1:a=Yv Zc 4 k a 0:=by rfl
 refine VRun.loop (A:=Nat) (fun s_=> [(0,(T.os 4 0 0 (((Yv Zc 4 k a s_).map (Qj true)).length))),(1,(tN (k+4*s_))),(4,(tN 0)),(5,(tN s_))]) (fun s_=>Q3 [(0,(Obj.rows 4 ((Yv Zc 4 k a s_).map (Qj true))))]) 1 (fun s_=>s_≤a.length) (fun s_=>a.length - s_) (0:Nat) ?_ (Wk.mk (fun k=>k) ?_ ?_ ?_) ?_
 ·(simp;done)
 ·exact (bc ⟨(congrArg (fun l_=>T.os 4 0 0 (List.map (Qj true) l_).length) he1),rfl⟩ (bc ⟨(congrArg (T.int .i64) (show ((k:Nat):Int)=((k+4*0:Nat):Int) from (by rfl))),rfl⟩ (b2 (b2 bn))))
 ·exact (bc ⟨(congrArg (fun l_=>some (Obj.rows 4 (List.map (Qj true) l_))) he1),(lb rfl),rfl⟩ bn)
 ·exact nd rfl
 rintro i (hI':i≤a.length)
 show VRun _ _ _ [(0,(T.os 4 0 0 (((Yv Zc 4 k a i).map (Qj true)).length))),(1,(tN (k+4*i))),(4,(tN 0)),(5,(tN i))] (Q3 [(0,(Obj.rows 4 ((Yv Zc 4 k a i).map (Qj true))))]) 1 _
 have hml:=QaF (f:=Zc) (w:=4) (k:=k) hI'
 refine sq (sr (mO (tN i) rfl (mO (T.os 4 0 0 (((Yv Zc 4 k a i).map (Qj true)).length)) rfl (lO (B.lenO (m:=(Yv Zc 4 k a i).length) (tv (T.os 4 0 0 (((Yv Zc 4 k a i).map (Qj true)).length)) rfl) U72 (List.length_map ..)) (fO (Zt (tv (tN i) rfl) (tv (tN ((Yv Zc 4 k a i).length)) rfl)) (nt ?_))))))
 refine cd (i<(Yv Zc 4 k a i).length) rfl (fun fhc0=> ?_) fun fhc0=> ?_
 ·refine sk ?_
  refine tn (sq (VRun.block (sr (mO (T.os 4 0 0 (((Yv Zc 4 k a i).map (Qj true)).length)) rfl (mO (tN i) rfl (mO (tN (k+4*i)) rfl ?_))))))
  obtain ⟨x1,hx1⟩:∃x,(Yv Zc 4 k a i)[i]? =some x:=⟨_,List.getElem?_eq_getElem (by omega)⟩
  refine fO (B.indexAddrO (i:=i) (tv (T.os 4 0 0 (((Yv Zc 4 k a i).map (Qj true)).length)) rfl) (tv (tN i) rfl) rfl (by (simp only [List.length_map];omega)) U72 ZZ Y8) (fO (OF.fieldAddrP (tv (T.orp 4 0 i 0) rfl) QZ) (cO (B.storeP (us:= [(tN (k+4*i))]) (rows':=(((Yv Zc 4 k a i).set i (D.Step.mk ((k+4*i:Nat):Int) x1.Word x1.A x1.B)).map (Qj true))) (row:=(Qj true x1)) (tv (T.orp 4 0 i 0) rfl) (tv (tN (k+4*i)) rfl) nofun rfl (QA _ hx1) rfl (lb rfl) Jp Z8 (bc rfl bn) (by intro r hr t ht;obtain ⟨x,_,rfl⟩:=List.mem_map.1 hr;rw [Qds] at ht;exact Zs (okeStep.pl _ t ht)) (Zm rfl)) (nt (sr (mO (tN (k+4*i)) rfl (fO (QF (tv (tN (k+4*i)) rfl) (VEv.int .i64 1) (by omega)) (aO (tN (k+4*i+1)) rfl (nt (sr (mO (T.os 4 0 0 (((Yv Zc 4 k a i).map (Qj true)).length)) rfl (mO (tN i) rfl ?_)))))))))))
  refine mO (tN (k+4*i+1)) rfl (cO (cS (vc (tv (tN (k+4*i+1)) rfl) vn) (Yl rfl) (QcJ (n+0) (((k+4*i+1):Nat):Int) (by omega)) rfl rfl) (fO (B.indexAddrO (i:=i) (tv (T.os 4 0 0 (((Yv Zc 4 k a i).map (Qj true)).length)) rfl) (tv (tN i) rfl) rfl (by (simp only [List.length_map];omega)) U72 ZZ Y8) (fO (OF.fieldAddrP (tv (T.orp 4 0 i 0) rfl) Jr) (cO (B.storeP (us:= [(tS (QaP (((k+4*i+1):Nat):Int)))]) (rows':=((((Yv Zc 4 k a i).set i (D.Step.mk ((k+4*i:Nat):Int) x1.Word x1.A x1.B)).set i (D.Step.mk ((k+4*i:Nat):Int) (QaP (((k+4*i+1):Nat):Int)) x1.A x1.B)).map (Qj true))) (row:=(Qj true (D.Step.mk ((k+4*i:Nat):Int) x1.Word x1.A x1.B))) (tv (T.orp 4 0 i 1) rfl) (tv (tS (QaP (((k+4*i+1):Nat):Int))) rfl) nofun rfl (QA _ (QeV (by omega))) rfl (lb rfl) if9 sz9 (bc rfl bn) (by intro r hr t ht;obtain ⟨x,_,rfl⟩:=List.mem_map.1 hr;rw [Qds] at ht;exact Zs (okeStep.pl _ t ht)) (Zm rfl)) (nt (sr (mO (tN (k+4*i+1)) rfl (fO (QF (tv (tN (k+4*i+1)) rfl) (VEv.int .i64 1) (by omega)) (aO (tN ((k+4*i+1)+1)) rfl (nt (sr ?_)))))))))))
  refine mO (T.os 4 0 0 (((Yv Zc 4 k a i).map (Qj true)).length)) rfl (mO (tN i) rfl (mO (tN ((k+4*i+1)+1)) rfl (fO (B.indexAddrO (i:=i) (tv (T.os 4 0 0 (((Yv Zc 4 k a i).map (Qj true)).length)) rfl) (tv (tN i) rfl) rfl (by (simp only [List.length_map];omega)) U72 ZZ Y8) (fO (OF.fieldAddrP (tv (T.orp 4 0 i 0) rfl) Ye) (cO (B.storeP (us:= [(tN ((k+4*i+1)+1))]) (rows':=(((((Yv Zc 4 k a i).set i (D.Step.mk ((k+4*i:Nat):Int) x1.Word x1.A x1.B)).set i (D.Step.mk ((k+4*i:Nat):Int) (QaP (((k+4*i+1):Nat):Int)) x1.A x1.B)).set i (D.Step.mk ((k+4*i:Nat):Int) (QaP (((k+4*i+1):Nat):Int)) ((((k+4*i+1)+1):Nat):Int) x1.B)).map (Qj true))) (row:=(Qj true (D.Step.mk ((k+4*i:Nat):Int) (QaP (((k+4*i+1):Nat):Int)) x1.A x1.B))) (tv (T.orp 4 0 i 2) rfl) (tv (tN ((k+4*i+1)+1)) rfl) nofun rfl (QA _ (QeV (by (simp only [List.length_set];omega)))) rfl (lb rfl) Jp Z8 (bc rfl bn) (by intro r hr t ht;obtain ⟨x,_,rfl⟩:=List.mem_map.1 hr;rw [Qds] at ht;exact Zs (okeStep.pl _ t ht)) (Zm rfl)) (nt (sr (mO (tN ((k+4*i+1)+1)) rfl (fO (QF (tv (tN ((k+4*i+1)+1)) rfl) (VEv.int .i64 1) (by omega)) (aO (tN (((k+4*i+1)+1)+1)) rfl (nt ?_)))))))))))
  refine sr (mO (T.os 4 0 0 (((Yv Zc 4 k a i).map (Qj true)).length)) rfl (mO (tN i) rfl (mO (tN (((k+4*i+1)+1)+1)) rfl (fO (B.indexAddrO (i:=i) (tv (T.os 4 0 0 (((Yv Zc 4 k a i).map (Qj true)).length)) rfl) (tv (tN i) rfl) rfl (by (simp only [List.length_map];omega)) U72 ZZ Y8) (fO (OF.fieldAddrP (tv (T.orp 4 0 i 0) rfl) ZS) (cO (B.storeP (us:= [(tN (((k+4*i+1)+1)+1))]) (rows':=((((((Yv Zc 4 k a i).set i (D.Step.mk ((k+4*i:Nat):Int) x1.Word x1.A x1.B)).set i (D.Step.mk ((k+4*i:Nat):Int) (QaP (((k+4*i+1):Nat):Int)) x1.A x1.B)).set i (D.Step.mk ((k+4*i:Nat):Int) (QaP (((k+4*i+1):Nat):Int)) ((((k+4*i+1)+1):Nat):Int) x1.B)).set i (D.Step.mk ((k+4*i:Nat):Int) (QaP (((k+4*i+1):Nat):Int)) ((((k+4*i+1)+1):Nat):Int) (((((k+4*i+1)+1)+1):Nat):Int))).map (Qj true))) (row:=(Qj true (D.Step.mk ((k+4*i:Nat):Int) (QaP (((k+4*i+1):Nat):Int)) ((((k+4*i+1)+1):Nat):Int) x1.B))) (tv (T.orp 4 0 i 3) rfl) (tv (tN (((k+4*i+1)+1)+1)) rfl) nofun rfl (QA _ (QeV (by (simp only [List.length_set];omega)))) rfl (lb rfl) Jp Z8 (bc rfl bn) (by intro r hr t ht;obtain ⟨x,_,rfl⟩:=List.mem_map.1 hr;rw [Qds] at ht;exact Zs (okeStep.pl _ t ht)) (Zm rfl)) (nt (VRun.region (mO (tN (((k+4*i+1)+1)+1)) rfl (fO (QF (tv (tN (((k+4*i+1)+1)+1)) rfl) (VEv.int .i64 1) (by omega)) (aO (tN ((((k+4*i+1)+1)+1)+1)) rfl ?_)))))))))))
  refine VRunO.nil (vinB.n (tn (VRun.region (mO (tN i) rfl (fO (QF (tv (tN i) rfl) (VEv.int .i64 1) (by omega)) (aO (tN (i+1)) rfl (VRunO.nil (tn ?_))))))))
  have hi1:i+1≤a.length:=by omega
  have he2:(((((Yv Zc 4 k a i).set i (D.Step.mk ((k+4*i:Nat):Int) x1.Word x1.A x1.B)).set i (D.Step.mk ((k+4*i:Nat):Int) (QaP (((k+4*i+1):Nat):Int)) x1.A x1.B)).set i (D.Step.mk ((k+4*i:Nat):Int) (QaP (((k+4*i+1):Nat):Int)) ((((k+4*i+1)+1):Nat):Int) x1.B)).set i (D.Step.mk ((k+4*i:Nat):Int) (QaP (((k+4*i+1):Nat):Int)) ((((k+4*i+1)+1):Nat):Int) (((((k+4*i+1)+1)+1):Nat):Int)))=Yv Zc 4 k a (i+1):=by (simp only [List.set_set];refine Qg0 ?_;omega)
  refine ⟨(i+1:Nat),?_,?_,Wk.mk (fun k=>k) ?_ ?_ ?_⟩
  ·trivial
  ·omega
  ·exact (bc ⟨(congrArg (fun n_=>T.os 4 0 0 n_) (show ((Yv Zc 4 k a i).map (Qj true)).length=((Yv Zc 4 k a (i+1)).map (Qj true)).length from (by rw [List.length_map,List.length_map,QaF hI',QaF hi1]))),rfl⟩ (bc ⟨(congrArg (T.int .i64) (show ((((((k+4*i+1)+1)+1)+1):Nat):Int)=((k+4*(i+1):Nat):Int) from (by rfl))),rfl⟩ (b2 (b2 bn))))
  ·exact (bc ⟨(congrArg (fun l_=>some (Obj.rows 4 (List.map (Qj true) l_))) he2),(lb rfl),rfl⟩ bn)
  ·exact nd rfl
 refine VRun.exit (vthn.e (vthn.e (vinB.e (tn (sr (mO (tN (k+4*i)) rfl (aO (tN (k+4*i)) rfl (nt (rt ?_)))))))))
 refine vmut.r (r0:=((k+4*i:Nat):Int)) (rows:=((Yv Zc 4 k a i).map (Qj true))) rfl rfl rfl ?_ ?_ rfl
 ·(push_cast;omega)
 ·show List.map _ (Yv Zc 4 k a i)=List.map _ (YT Zc 4 k a.length)
  refine congrArg (List.map _) ?_
  exact Qhl hI' (by omega)
noncomputable section
def Zb (k:Nat):Int:=((k:Nat):Int)
end
theorem J2 (n:Nat) (a:List Int) (k:Nat) (hk:k+1*a.length≤Yd):Mut (Qr Tryz.prog (n+1)) 42 1 (a.map (Qd true)) [(tN k)] (some ((k+1*a.length:Nat):Int)) ((YT Zb 1 k a.length).map (Qd true)):=by
 refine Mut.intro (rt:=4) Tryz.func42 rfl rfl rfl (by kernel_rfl) (Zq (fun _=>rfl) _) (Zq (fun _=>rfl) _) (E0:= [(1,(tN k))]) rfl ?_
 obtain ⟨hlim,hmx,hmax⟩:=QJ
 refine sr (fO (OF.assign (VEv.int .i64 0)) (nt (sq (sr (fO (OF.assign (VEv.int .i64 0)) (nt (VRun.block ?_)))))))
 have he1:a=Yv Zb 1 k a 0:=by rfl
 refine VRun.loop (A:=Nat) (fun s_=> [(0,(T.os 1 0 0 (((Yv Zb 1 k a s_).map (Qd true)).length))),(1,(tN (k+1*s_))),(4,(tN 0)),(5,(tN s_))]) (fun s_=>Q3 [(0,(Obj.rows 1 ((Yv Zb 1 k a s_).map (Qd true))))]) 1 (fun s_=>s_≤a.length) (fun s_=>a.length - s_) (0:Nat) ?_ (Wk.mk (fun k=>k) ?_ ?_ ?_) ?_
 ·(simp;done)
 ·exact (bc ⟨(congrArg (fun l_=>T.os 1 0 0 (List.map (Qd true) l_).length) he1),rfl⟩ (bc ⟨(congrArg (T.int .i64) (show ((k:Nat):Int)=((k+1*0:Nat):Int) from (by rfl))),rfl⟩ (b2 (b2 bn))))
 ·exact (bc ⟨(congrArg (fun l_=>some (Obj.rows 1 (List.map (Qd true) l_))) he1),(lb rfl),rfl⟩ bn)
 ·exact nd rfl
 rintro i (hI':i≤a.length)
 show VRun _ _ _ [(0,(T.os 1 0 0 (((Yv Zb 1 k a i).map (Qd true)).length))),(1,(tN (k+1*i))),(4,(tN 0)),(5,(tN i))] (Q3 [(0,(Obj.rows 1 ((Yv Zb 1 k a i).map (Qd true))))]) 1 _
 have hml:=QaF (f:=Zb) (w:=1) (k:=k) hI'
 refine sq (sr (mO (tN i) rfl (mO (T.os 1 0 0 (((Yv Zb 1 k a i).map (Qd true)).length)) rfl (lO (B.lenO (m:=(Yv Zb 1 k a i).length) (tv (T.os 1 0 0 (((Yv Zb 1 k a i).map (Qd true)).length)) rfl) YQ (List.length_map ..)) (fO (Zt (tv (tN i) rfl) (tv (tN ((Yv Zb 1 k a i).length)) rfl)) (nt ?_))))))
 refine cd (i<(Yv Zb 1 k a i).length) rfl (fun fhc0=> ?_) fun fhc0=> ?_
 ·refine sk ?_
  refine tn (sq (VRun.block (sr (mO (T.os 1 0 0 (((Yv Zb 1 k a i).map (Qd true)).length)) rfl (mO (tN i) rfl (mO (tN (k+1*i)) rfl ?_))))))
  obtain ⟨x1,hx1⟩:∃x,(Yv Zb 1 k a i)[i]? =some x:=⟨_,List.getElem?_eq_getElem (by omega)⟩
  refine fO (B.indexAddrO (i:=i) (tv (T.os 1 0 0 (((Yv Zb 1 k a i).map (Qd true)).length)) rfl) (tv (tN i) rfl) rfl (by (simp only [List.length_map];omega)) YQ Z8 Jp) (cO (B.storeP (us:= [(tN (k+1*i))]) (rows':=(((Yv Zb 1 k a i).set i ((k+1*i:Nat):Int)).map (Qd true))) (row:=(Qd true x1)) (tv (T.orp 1 0 i 0) rfl) (tv (tN (k+1*i)) rfl) nofun rfl (QA _ hx1) rfl (lb rfl) Jp Z8 (bc rfl bn) (by intro r hr t ht;obtain ⟨x,_,rfl⟩:=List.mem_map.1 hr;rw [Qj5] at ht;exact Zs (okInt.pl _ t ht)) (Zm rfl)) (nt (VRun.region (mO (tN (k+1*i)) rfl (fO (QF (tv (tN (k+1*i)) rfl) (VEv.int .i64 1) (by omega)) (aO (tN (k+1*i+1)) rfl (VRunO.nil (vinB.n (tn (VRun.region (mO (tN i) rfl ?_)))))))))))
  refine fO (QF (tv (tN i) rfl) (VEv.int .i64 1) (by omega)) (aO (tN (i+1)) rfl (VRunO.nil (tn ?_)))
  have hi1:i+1≤a.length:=by omega
  have he2:((Yv Zb 1 k a i).set i ((k+1*i:Nat):Int))=Yv Zb 1 k a (i+1):=by (refine Qg0 ?_;omega)
  refine ⟨(i+1:Nat),?_,?_,Wk.mk (fun k=>k) ?_ ?_ ?_⟩
  ·trivial
  ·omega
  ·exact (bc ⟨(congrArg (fun n_=>T.os 1 0 0 n_) (show ((Yv Zb 1 k a i).map (Qd true)).length=((Yv Zb 1 k a (i+1)).map (Qd true)).length from (by rw [List.length_map,List.length_map,QaF hI',QaF hi1]))),rfl⟩ (bc ⟨(congrArg (T.int .i64) (show (((k+1*i+1):Nat):Int)=((k+1*(i+1):Nat):Int) from (by rfl))),rfl⟩ (b2 (b2 bn))))
  ·exact (bc ⟨(congrArg (fun l_=>some (Obj.rows 1 (List.map (Qd true) l_))) he2),(lb rfl),rfl⟩ bn)
  ·exact nd rfl
 refine VRun.exit (vthn.e (vthn.e (vinB.e (tn (sr (mO (tN (k+1*i)) rfl (aO (tN (k+1*i)) rfl (nt (rt ?_)))))))))
 refine vmut.r (r0:=((k+1*i:Nat):Int)) (rows:=((Yv Zb 1 k a i).map (Qd true))) rfl rfl rfl ?_ ?_ rfl
 ·(push_cast;omega)
 ·show List.map _ (Yv Zb 1 k a i)=List.map _ (YT Zb 1 k a.length)
  refine congrArg (List.map _) ?_
  exact Qhl hI' (by omega)
theorem QcF (n:Nat) (a:List Int) (k:Nat) (hh:a=YT Zb 1 k a.length) (hk:k+1*a.length≤Yd):Pure (Qr Tryz.prog (n+1)) 43 [(rd 1 Qd a),(tN k)] (tN (k+1*a.length)):=by
 refine Pure.intro (rs:= [ResultVar.tmp 4]) Tryz.func43 rfl rfl rfl (E0:= [(0,(rd 1 Qd a)),(1,(tN k))]) rfl ?_
 obtain ⟨hlim,hmx,hmax⟩:=QJ
 refine sr (fO (OF.assign (VEv.int .i64 0)) (nt (sq (sr (fO (OF.assign (VEv.int .i64 0)) (nt (VRun.block ?_)))))))
 refine VRun.loop (A:=Nat) (fun s_=> [(0,(rd 1 Qd a)),(1,(tN (k+1*s_))),(5,(tN s_))]) (fun s_=>Q3 []) 0 (fun s_=>s_≤a.length) (fun s_=>a.length - s_) (0:Nat) ?_ (Wk.mk (fun k=>k) ?_ ?_ ?_) ?_
 ·(simp;done)
 ·exact (b2 (bc ⟨(congrArg (T.int .i64) (show ((k:Nat):Int)=((k+1*0:Nat):Int) from (by rfl))),rfl⟩ (b2 bn)))
 ·exact bn
 ·exact nd rfl
 rintro i (hI':i≤a.length)
 show VRun _ _ _ [(0,(rd 1 Qd a)),(1,(tN (k+1*i))),(5,(tN i))] (Q3 []) 0 _
 refine sq (sr (mO (tN i) rfl (mO (rd 1 Qd a) rfl (lO (B.lenR (m:=a.length) (tv (rd 1 Qd a) rfl) YQ (List.length_map ..)) (fO (Zt (tv (tN i) rfl) (tv (tN a.length) rfl)) (nt ?_))))))
 refine cd (i<a.length) rfl (fun fhc0=> ?_) fun fhc0=> ?_
 ·refine sk ?_
  refine tn (sq (VRun.block (sq (sr (mO (rd 1 Qd a) rfl (mO (tN i) rfl ?_))))))
  obtain ⟨x1,hx1⟩:∃x,a[i]? =some x:=⟨_,List.getElem?_eq_getElem (by omega)⟩
  refine fO (OF.indexAddrR (row:=(Qd false x1)) (i:=i) (tv (rd 1 Qd a) rfl) (tv (tN i) rfl) rfl (QA _ hx1) YQ Z8 Jp) (lO (OL.loadR1 (t:=(tI x1)) (tv (T.rp [(tI x1)]) rfl) rfl Q0) (mO (tN (k+1*i)) rfl (fO (xne (tv (tI x1) rfl) (tv (tN (k+1*i)) rfl)) (nt ?_))))
  refine cn (x1=((k+1*i:Nat):Int)) rfl (fun fhc1=> ?_) fun fhc1=> ?_
  ·exact absurd (QkB hh hx1) fhc1
  refine sk (tn (VRun.region (mO (tN (k+1*i)) rfl (fO (QF (tv (tN (k+1*i)) rfl) (VEv.int .i64 1) (by omega)) (aO (tN (k+1*i+1)) rfl (VRunO.nil (vinB.n (tn (VRun.region (mO (tN i) rfl (fO (QF (tv (tN i) rfl) (VEv.int .i64 1) (by omega)) ?_)))))))))))
  refine aO (tN (i+1)) rfl (VRunO.nil (tn ?_))
  refine ⟨(i+1:Nat),?_,?_,Wk.mk (fun k=>k) ?_ ?_ ?_⟩
  ·trivial
  ·omega
  ·exact (b2 (bc ⟨(congrArg (T.int .i64) (show (((k+1*i+1):Nat):Int)=((k+1*(i+1):Nat):Int) from (by rfl))),rfl⟩ (b2 bn)))
  ·exact bn
  ·exact nd rfl
 refine VRun.exit (vthn.e (vthn.e (vinB.e (tn (sr (mO (tN (k+1*i)) rfl (aO (tN (k+1*i)) rfl (nt (rt (vi (n':=((k+1*i:Nat):Int)) rfl ?_))))))))))
 omega
end Go.Proofs.YthifchndolccgaaGreatDoor.AE
namespace Go.Proofs.YthifchndolccgaaGreatDoor.AE
open Go Go.RowKit
set_option linter.unusedVariables false
set_option linter.unusedSimpArgs false
set_option maxRecDepth 20000
set_option maxHeartbeats 2000000
noncomputable section
def QG (c:D.Clue):Nat:=1+4*c.Play.length
def Zp (k:Nat) (c:D.Clue):D.Clue:=D.Clue.mk ((k:Nat):Int) (YT Zc 4 (k+1) c.Play.length)
theorem Qg8 (k:Nat) (c:D.Clue):QG (Zp k c)=QG c:=by unfold QG Zp;simp only [Qk]
theorem QjT (k:Nat) (c:D.Clue):Zp k (Zp k c)=Zp k c:=by unfold Zp;simp only [Qk]
theorem Qju (c:D.Clue):QG c≤5*(1+QL c):=by
 have:=Zi (z:=Zg) c.Play
 unfold QG QL
 omega
def Z4 : Nat→List D.Clue→List D.Clue:=mkL Zp QG
def QM : Nat→List D.Clue→Nat:=YK QG
theorem Qw (k:Nat) (l:List D.Clue):Z4 k l=Z4 k (Z4 k l):=Qfw Qg8 QjT k l
theorem Qc (k k2:Nat) (l:List D.Clue):QM k (Z4 k2 l)=QM k l:=QfX Qg8 k k2 l
theorem Qgp (k:Nat) (l:List D.Clue):QM k l≤k+5*zL QL l:=Qic Qju k l
theorem Qcy (k:Nat) (l:List D.Clue):(Z4 k l).length=l.length:=JV k l
end
theorem Qb4 (n:Nat) (a:List D.Clue) (k:Nat) (hk:QM k a≤Yd):LoanM (Qr Tryz.prog (n+3)) 41 [(2,(a.map (Qg true)))] [(T.os 2 0 0 ((a.map (Qg true)).length)),(tN k)] (tN (QM k a)) [(2,((Z4 k a).map (Qg true)))]:=by
 refine LoanM.intro (rs:= [ResultVar.tmp 4]) [(0,(T.os 2 0 0 ((a.map (Qg true)).length)))] Tryz.func41 rfl rfl rfl rfl (bc ⟨by kernel_rfl,rfl⟩ bn) (PinsTo.at (And.intro trivial ⟨_,(.head _),(.os _ _)⟩)) (.int _ _) (bc (okeClue.cleanMap _) bn) (E0:= [(0,(T.os 2 0 0 ((a.map (Qg true)).length))),(1,(tN k))]) rfl (fun asg=> ?_)
 obtain ⟨hlim,hmx,hmax⟩:=QJ
 show VRun _ _ _ [(0,(T.os 2 0 0 ((a.map (Qg true)).length))),(1,(tN k))] (Q3 [(0,(Obj.rowsN 2 (a.map (Qg true)) (asg 0)))]) 1 _
 have hk2:=hk
 unfold QM at hk2
 have hla:=Qhj (w:=QG) (fun x=>Nat.le_add_right _ _) k a
 refine sr (fO (OF.assign (VEv.int .i64 0)) (nt (sq (sr (fO (OF.assign (VEv.int .i64 0)) (nt (VRun.block ?_)))))))
 have he1:a=mkT Zp QG k a 0:=by rfl
 refine VRun.loop (A:=Nat) (fun s_=> [(0,(T.os 2 0 0 (((mkT Zp QG k a s_).map (Qg true)).length))),(1,(tN (YK QG k (a.take s_)))),(4,(tN 0)),(5,(tN s_))]) (fun s_=>Q3 [(0,(Obj.rowsN 2 ((mkT Zp QG k a s_).map (Qg true)) (asg 0)))]) 1 (fun s_=>s_≤a.length) (fun s_=>a.length - s_) (0:Nat) ?_ (Wk.mk (fun k=>k) ?_ ?_ ?_) ?_
 ·(simp;done)
 ·exact (bc ⟨(congrArg (fun l_=>T.os 2 0 0 (List.map (Qg true) l_).length) he1),rfl⟩ (bc ⟨(congrArg (T.int .i64) (show ((k:Nat):Int)=((YK QG k (a.take 0):Nat):Int) from (by rfl))),rfl⟩ (b2 (b2 bn))))
 ·exact (bc ⟨(congrArg (fun l_=>some (Obj.rowsN 2 (List.map (Qg true) l_) (asg 0))) he1),(lb rfl),rfl⟩ bn)
 ·exact nd rfl
 rintro i (hI':i≤a.length)
 show VRun _ _ _ [(0,(T.os 2 0 0 (((mkT Zp QG k a i).map (Qg true)).length))),(1,(tN (YK QG k (a.take i)))),(4,(tN 0)),(5,(tN i))] (Q3 [(0,(Obj.rowsN 2 ((mkT Zp QG k a i).map (Qg true)) (asg 0)))]) 1 _
 have hml:=Qc2 (f:=Zp) (w:=QG) k a i
 have hme:=QfP (w:=QG) k a i
 refine sq (sr (mO (tN i) rfl (mO (T.os 2 0 0 (((mkT Zp QG k a i).map (Qg true)).length)) rfl (lO (B.lenO (m:=(mkT Zp QG k a i).length) (tv (T.os 2 0 0 (((mkT Zp QG k a i).map (Qg true)).length)) rfl) U34 (List.length_map ..)) (fO (Zt (tv (tN i) rfl) (tv (tN ((mkT Zp QG k a i).length)) rfl)) (nt ?_))))))
 refine cd (i<(mkT Zp QG k a i).length) rfl (fun fhc0=> ?_) fun fhc0=> ?_
 ·refine sk ?_
  refine tn (sq (VRun.block (sr (mO (T.os 2 0 0 (((mkT Zp QG k a i).map (Qg true)).length)) rfl (mO (tN i) rfl (mO (tN (YK QG k (a.take i))) rfl ?_))))))
  obtain ⟨x1,hx1⟩:∃x,(mkT Zp QG k a i)[i]? =some x:=⟨_,List.getElem?_eq_getElem (by omega)⟩
  (have hy1:=QkH (show i<a.length by omega) hx1;have hnx:=QiY (w:=QG) (k:=k) hy1;have hnt:=QfP (w:=QG) k a (i+1);have hw2:QG x1=1+4*x1.Play.length:=rfl)
  refine fO (B.indexAddrO (i:=i) (tv (T.os 2 0 0 (((mkT Zp QG k a i).map (Qg true)).length)) rfl) (tv (tN i) rfl) rfl (by (simp only [List.length_map];omega)) U34 J7 Qfa) (fO (OF.fieldAddrP (tv (T.orp 2 0 i 0) rfl) QbR) (cO (B.storeN (t0:=(tI x1.Sense)) (rows':=(((mkT Zp QG k a i).set i (D.Clue.mk ((YK QG k (a.take i):Nat):Int) x1.Play)).map (Qg true))) (row:=(Qg true x1)) (tv (T.orp 2 0 i 0) rfl) (tv (tN (YK QG k (a.take i))) rfl) rfl rfl (QA _ hx1) rfl rfl Jp Z8 (Zm rfl)) (nt (sr (mO (tN (YK QG k (a.take i))) rfl (fO (QF (tv (tN (YK QG k (a.take i))) rfl) (VEv.int .i64 1) (by omega)) (aO (tN (YK QG k (a.take i)+1)) rfl (nt (VRun.region (mO (T.os 2 0 0 (((mkT Zp QG k a i).map (Qg true)).length)) rfl (mO (tN i) rfl ?_)))))))))))
  refine fO (B.indexAddrO (i:=i) (tv (T.os 2 0 0 (((mkT Zp QG k a i).map (Qg true)).length)) rfl) (tv (tN i) rfl) rfl (by (simp only [List.length_map];omega)) U34 J7 Qfa) (fO (OF.fieldAddrP (tv (T.orp 2 0 i 0) rfl) Qb7) (VRunO.nest (row:=(Qg true (D.Clue.mk ((YK QG k (a.take i):Nat):Int) x1.Play))) (rs:=(x1.Play.map (Qj true))) (rs':=((YT Zc 4 (YK QG k (a.take i)+1) x1.Play.length).map (Qj true))) (rows':=((((mkT Zp QG k a i).set i (D.Clue.mk ((YK QG k (a.take i):Nat):Int) x1.Play)).set i (D.Clue.mk ((YK QG k (a.take i):Nat):Int) (YT Zc 4 (YK QG k (a.take i)+1) x1.Play.length))).map (Qg true))) (n:=(((YK QG k (a.take i)+1):Nat):Int)) (r:=(((YK QG k (a.take i)+1)+4*x1.Play.length:Nat):Int)) rfl (tv (T.orp 2 0 i 1) rfl) rfl (QA _ (QeV (by omega))) rfl Qih (tv (tN (YK QG k (a.take i)+1)) rfl) rfl (QbZ (n+0) x1.Play (YK QG k (a.take i)+1) (by omega)) (okeStep.cleanMap _) (Zm rfl) (aO (tN ((YK QG k (a.take i)+1)+4*x1.Play.length)) rfl (VRunO.nil (vinB.n (tn (VRun.region (mO (tN i) rfl (fO (QF (tv (tN i) rfl) (VEv.int .i64 1) (by omega)) (aO (tN (i+1)) rfl (VRunO.nil ?_)))))))))))
  refine tn ?_
  have he2:(((mkT Zp QG k a i).set i (D.Clue.mk ((YK QG k (a.take i):Nat):Int) x1.Play)).set i (D.Clue.mk ((YK QG k (a.take i):Nat):Int) (YT Zc 4 (YK QG k (a.take i)+1) x1.Play.length)))=mkT Zp QG k a (i+1):=by (rw [List.set_set];exact Qjt hy1 rfl)
  refine ⟨(i+1:Nat),?_,?_,Wk.mk (fun k=>k) ?_ ?_ ?_⟩
  ·omega
  ·omega
  ·exact (bc ⟨(congrArg (fun n_=>T.os 2 0 0 n_) (show ((mkT Zp QG k a i).map (Qg true)).length=((mkT Zp QG k a (i+1)).map (Qg true)).length from (by rw [List.length_map,List.length_map,Qc2,Qc2]))),rfl⟩ (bc ⟨(congrArg (T.int .i64) (show (((YK QG k (a.take i)+1)+4*x1.Play.length:Nat):Int)=((YK QG k (a.take (i+1)):Nat):Int) from (by omega))),rfl⟩ (b2 (b2 bn))))
  ·exact (bc ⟨(congrArg (fun l_=>some (Obj.rowsN 2 (List.map (Qg true) l_) (asg 0))) he2),(lb rfl),rfl⟩ bn)
  ·exact nd rfl
 refine VRun.exit (vthn.e (vthn.e (vinB.e (tn (sr (mO (tN (YK QG k (a.take i))) rfl (aO (tN (YK QG k (a.take i))) rfl (nt (rt ?_)))))))))
 have hnew0:mkT Zp QG k a i=Z4 k a:=by
  exact Qiv (by omega)
 exact vloanM.r (L1:= [(2,((mkT Zp QG k a i).map (Qg true)))]) (fun k=>k) (VRes.tmp (t:=(tN (YK QG k (a.take i)))) rfl VRes.nil) (congrArg (T.int .i64) (show ((YK QG k (a.take i):Nat):Int)=((QM k a:Nat):Int) by rw [List.take_of_length_le (by omega)];rfl)) (bc (congrArg (fun n_=>T.os 2 0 0 n_) (show ((mkT Zp QG k a i).map (Qg true)).length=(a.map (Qg true)).length from (by rw [List.length_map,List.length_map,Qc2]))) bn) (And.intro rfl (trivial)) (by rw [hnew0])
end Go.Proofs.YthifchndolccgaaGreatDoor.AE
namespace Go.Proofs.YthifchndolccgaaGreatDoor.AE
open Go Go.RowKit
set_option linter.unusedVariables false
set_option linter.unusedSimpArgs false
set_option maxRecDepth 20000
set_option maxHeartbeats 2000000
noncomputable section
def Jq (p:D.Puzzle):Prop:=ZG p.Grid=0∧p.Clues.length=(Qb p.Grid).length∧p.Seals.length=(Qb p.Grid).length∧(1≤p.Salt∧p.Salt≤9999)∧∀c∈p.Clues,okC c
instance (p:D.Puzzle):Decidable (Jq p):=Classical.propDecidable _
def noC (c:D.Clue):Prop:=¬okC c
instance (c:D.Clue):Decidable (noC c):=Classical.propDecidable _
end
theorem Qbq (n:Nat) (c:D.Clue) (hz:QL c≤mx):Pure (Qr Tryz.prog (n+5)) 58 [(T.agg (Qg false c))] (tB (decide (noC c))):=by
 refine Pure.intro (rs:= [ResultVar.tmp 2]) Tryz.func58 rfl rfl rfl (E0:= [(0,(T.agg (Qg false c)))]) rfl ?_
 obtain ⟨hlim,hmx,hmax⟩:=QJ
 refine sr (kO (B.box (ts:=(Qg false c)) (tv (T.agg (Qg false c)) rfl) nofun rfl) (fO (OF.assign (VEv.bool false)) (nt (sr (lO (OL.loadOn (us:=(Qg false c)) (tv (T.op 0 0) rfl) rfl Qgz J7 (lb rfl) rfl) (cO (cS (vc (tv (T.agg (Qg false c)) rfl) vn) (LendL.cons (lg okeClue) ln) (Qd5 (n+0) c (by assumption)) rfl rfl) (fO (Q1 (tv (tB (decide ((1≤c.Sense∧c.Sense≤99)∧ZX c.Play))) rfl)) (aO (tB (!(decide ((1≤c.Sense∧c.Sense≤99)∧ZX c.Play)))) rfl (nt (rt (vb (b':=(!(decide ((1≤c.Sense∧c.Sense≤99)∧ZX c.Play)))) rfl ?_)))))))))))
 rw [dN];exact Q8 Iff.rfl
theorem Zk (n:Nat) (l:List D.Clue) (hz:zL QL l≤mx):Pure (Qr Tryz.prog (n+6)) 83 [(rd 2 Qg l),(T.fn 58 [])] (tI (ixF noC l)):=by
 refine Pure.intro (rs:= [ResultVar.tmp 4]) Tryz.func83 rfl rfl rfl (E0:= [(0,(rd 2 Qg l)),(1,(T.fn 58 []))]) rfl ?_
 obtain ⟨hlim,hmx,hmax⟩:=QJ
 have hl:=Zi (z:=QL) l
 refine sr (fO (OF.assign (VEv.int .i64 0)) (nt (sq (sr (mO (rd 2 Qg l) rfl (lO (B.lenR (m:=l.length) (tv (rd 2 Qg l) rfl) U34 (List.length_map ..)) (fO (OF.move (VEv.int .i64 0)) (nt (VRun.block ?_)))))))))
 refine VRun.loop (A:=Nat) (fun s_=> [(0,(rd 2 Qg l)),(1,(T.fn 58 [])),(7,(tN l.length)),(8,(tN s_))]) (fun s_=>Q3 []) 0 (fun s_=>NoneTo noC l s_) (fun s_=>l.length - s_) (0:Nat) ?_ (Wk.mk (fun k=>k) ?_ ?_ ?_) ?_
 ·exact NoneTo.start _ _
 ·exact (b2 (b2 (b2 (b2 bn))))
 ·exact bn
 ·exact nd rfl
 rintro i (hI':NoneTo noC l i)
 show VRun _ _ _ [(0,(rd 2 Qg l)),(1,(T.fn 58 [])),(7,(tN l.length)),(8,(tN i))] (Q3 []) 0 _
 have hI1:=hI'.1
 refine sr (fO (Zt (tv (tN i) rfl) (tv (tN l.length) rfl)) (nt (sq ?_)))
 refine cd (i<l.length) rfl (fun fhc0=> ?_) fun fhc0=> ?_
 ·refine sk ?_
  refine tn (sq (VRun.block (sr (mO (tN i) rfl (aO (tN i) rfl (nt (sr (mO (T.fn 58 []) rfl (mO (rd 2 Qg l) rfl (mO (tN i) rfl ?_))))))))))
  obtain ⟨x1,hx1⟩:∃x,l[i]? =some x:=⟨_,List.getElem?_eq_getElem (by omega)⟩
  refine fO (OF.indexAddrR (row:=(Qg false x1)) (i:=i) (tv (rd 2 Qg l) rfl) (tv (tN i) rfl) rfl (QA _ hx1) U34 J7 Qfa) (lO (OL.loadRn (us:=(Qg false x1)) (tv (T.rp (Qg false x1)) rfl) Qgz J7 (lb rfl) rfl) (cO (OC.callv (us:= [(T.agg (Qg false x1))]) (ucaps:= []) (r:=(tB (decide (noC x1)))) (r':=(tB (decide (noC x1)))) (objs:= []) rfl rfl (vc (tv (T.agg (Qg false x1)) rfl) vn) (LendL.cons (lg okeClue) ln) ln (Qbq (n+0) x1 (by exact Nat.le_trans (Qej hx1) hz)) rfl) (nt ?_)))
  refine cd (noC x1) rfl (fun fhc1=> ?_) fun fhc1=> ?_
  ·refine sr ?_
   refine mO (tN i) rfl (aO (tN i) rfl (nt (rt (vinB.r (tr (tr (vinB.r (tr (vi (n':=((i:Nat):Int)) rfl ?_)))))))))
   exact (Qcc hx1 fhc1 hI'.2).symm
  refine sk (vinB.n (tn (VRun.region (fO (QF (tv (tN i) rfl) (VEv.int .i64 1) (by omega)) (mO (tN (i+1)) rfl (VRunO.nil (tn ?_)))))))
  refine ⟨(i+1:Nat),?_,?_,Wk.mk (fun k=>k) ?_ ?_ ?_⟩
  ·exact hI'.next hx1 fhc1
  ·omega
  ·exact (b2 (b2 (b2 (b2 bn))))
  ·exact bn
  ·exact nd rfl
 refine VRun.exit (vthn.e (vthn.e (vinB.e (tn (sr (fO (OF.assign (VEv.int .i64 (-1))) (nt (rt (vi (n':=(-1)) rfl ?_)))))))))
 exact (Qdj (hI'.all fhc0)).symm
theorem Zd (n:Nat) (l:List D.Clue) (hz:zL QL l≤mx):Pure (Qr Tryz.prog (n+7)) 57 [(rd 2 Qg l),(T.fn 58 [])] (tB (decide (∃c∈l,noC c))):=by
 refine Pure.intro (rs:= [ResultVar.tmp 4]) Tryz.func57 rfl rfl rfl (E0:= [(0,(rd 2 Qg l)),(1,(T.fn 58 []))]) rfl ?_
 obtain ⟨hlim,hmx,hmax⟩:=QJ
 refine sr (fO (OF.assign (VEv.bool false)) (nt (sr (mO (rd 2 Qg l) rfl (mO (T.fn 58 []) rfl (cO (cS (us:= [(rd 2 Qg l),(T.fn 58 [])]) (vc (tv (rd 2 Qg l) rfl) (vc (tv (T.fn 58 []) rfl) vn)) (lp rfl (LendL.cons (Lend.fn ln) ln)) (Zk (n+0) l (by assumption)) rfl rfl) (fO (xge (tv (tI (ixF noC l)) rfl) (VEv.int .i64 0)) (aO (tB (decide (0≤ixF noC l))) rfl (nt (rt (vb (b':=(decide (0≤ixF noC l))) rfl ?_)))))))))))
 refine Q8 ?_;exact QgC
theorem QcQ (n:Nat) (a:D.Puzzle) (hz:QS a≤mx):Pure (Qr Tryz.prog (n+10)) 29 [(T.agg (Qs false a))] (tB (decide (Jq a))):=by
 refine Pure.intro (rs:= [ResultVar.tmp 2]) Tryz.func29 rfl rfl rfl (E0:= [(0,(T.agg (Qs false a)))]) rfl ?_
 obtain ⟨hlim,hmx,hmax⟩:=QJ
 simp only [QS,Zv] at hz
 have hl:=Zi (z:=QL) a.Clues
 have hl2:=Zi (z:=zI) a.Seals
 refine sr (kO (B.box (ts:=(Qs false a)) (tv (T.agg (Qs false a)) rfl) nofun rfl) (fO (OF.assign (VEv.bool false)) (nt (sq (sr (fO (OF.assign (VEv.int .i64 0)) (nt (VRun.block ?_))))))))
 refine VRun.loop (A:=Nat) (fun s_=> [(1,(T.op 0 0)),(3,(tN s_))]) (fun s_=>Q3 [(0,(Obj.cells (Qs false a)))]) 1 (fun s_=>NoneTo noC a.Clues s_) (fun s_=>a.Clues.length - s_) (0:Nat) ?_ (Wk.mk (fun k=>k) ?_ ?_ ?_) ?_
 ·exact NoneTo.start _ _
 ·exact (b2 (b2 bn))
 ·exact (b3 bn)
 ·exact nd rfl
 rintro i (hI':NoneTo noC a.Clues i)
 show VRun _ _ _ [(1,(T.op 0 0)),(3,(tN i))] (Q3 [(0,(Obj.cells (Qs false a)))]) 1 _
 have hI1:=hI'.1
 refine sq (sr (mO (tN i) rfl (lf (rd 2 Qg a.Clues) rfl JX rfl rfl QfF (lO (B.lenR (m:=a.Clues.length) (tv (rd 2 Qg a.Clues) rfl) U34 (List.length_map ..)) (fO (Zt (tv (tN i) rfl) (tv (tN a.Clues.length) rfl)) (nt ?_))))))
 refine cd (i<a.Clues.length) rfl (fun fhc0=> ?_) fun fhc0=> ?_
 ·refine sk ?_
  refine tn (sq (VRun.block (sr (lf (rd 2 Qg a.Clues) rfl JX rfl rfl QfF (mO (tN i) rfl ?_)))))
  obtain ⟨x1,hx1⟩:∃x,a.Clues[i]? =some x:=⟨_,List.getElem?_eq_getElem (by omega)⟩
  refine fO (OF.indexAddrR (row:=(Qg false x1)) (i:=i) (tv (rd 2 Qg a.Clues) rfl) (tv (tN i) rfl) rfl (QA _ hx1) U34 J7 Qfa) (lO (OL.loadRn (us:=(Qg false x1)) (tv (T.rp (Qg false x1)) rfl) Qgz J7 (lb rfl) rfl) (cO (cS (vc (tv (T.agg (Qg false x1)) rfl) vn) (LendL.cons (lg okeClue) ln) (QdJ (n+4) x1 (by exact Nat.le_trans (Qej hx1) (by omega))) rfl rfl) (fO (Q1 (tv (tB (decide ((1≤x1.Sense∧x1.Sense≤99)∧ZX x1.Play))) rfl)) (nt ?_))))
  refine cn ((1≤x1.Sense∧x1.Sense≤99)∧ZX x1.Play) rfl (fun fhc1=> ?_) fun fhc1=> ?_
  ·refine sr ?_
   refine fO (OF.assign (VEv.bool false)) (nt (rt (vinB.r (tr (tr (vinB.r (tr (vb (b':=false) rfl ?_))))))))
   symm;rw [decide_eq_false_iff_not];rintro ⟨_,_,_,_,h⟩;exact fhc1 (h x1 (List.mem_of_getElem? hx1))
  refine sk (vinB.n (tn (VRun.region (mO (tN i) rfl (fO (QF (tv (tN i) rfl) (VEv.int .i64 1) (by omega)) (aO (tN (i+1)) rfl (VRunO.nil (tn ?_))))))))
  refine ⟨(i+1:Nat),?_,?_,Wk.mk (fun k=>k) ?_ ?_ ?_⟩
  ·exact hI'.next hx1 (fun h=>h fhc1)
  ·omega
  ·exact (b2 (b2 bn))
  ·exact (b3 bn)
  ·exact nd rfl
 refine VRun.exit (vthn.e (vthn.e (vinB.e (tn (sr (fO (OF.fieldAddrO (tv (T.op 0 0) rfl) JP) (lO (OL.loadOn (us:=(Qa false a.Grid)) (tv (T.op 0 0) rfl) rfl QY QR (lb rfl) rfl) (cO (OC.callF (r':=(T.os 4 1 0 (((Qb a.Grid).map (Qi true)).length))) (objs:= [(Obj.rows 4 ((Qb a.Grid).map (Qi true)))]) rfl (vc (tv (T.agg (Qa false a.Grid)) rfl) vn) (LendL.cons (lg Qt) ln) (ZI (n+6) a.Grid (by omega)) rfl) (lO (B.lenO (m:=(Qb a.Grid).length) (tv (T.os 4 1 0 (((Qb a.Grid).map (Qi true)).length)) rfl) J8 (List.length_map ..)) (aO (tN ((Qb a.Grid).length)) rfl (nt ?_)))))))))))
 refine sr (fO (OF.fieldAddrO (tv (T.op 0 0) rfl) JP) (lO (OL.loadOn (us:=(Qa false a.Grid)) (tv (T.op 0 0) rfl) rfl QY QR (lb rfl) rfl) (cO (cS (vc (tv (T.agg (Qa false a.Grid)) rfl) vn) (LendL.cons (lg Qt) ln) (QdL (n+0) a.Grid (by omega)) rfl rfl) (fO (YR (tv (tI (ZG a.Grid)) rfl) (VEv.int .i64 0)) (mO (tB (decide (ZG a.Grid=0))) rfl ?_)))))
 refine VRunO.joinB 6 [28,29,30,31,32] 33 (tB (decide ((ZG a.Grid=0)∧(a.Clues.length=(Qb a.Grid).length)))) ?_ ?_
 ·refine gw (ZG a.Grid=0) (fun fhg27_1=> ?_) fun fhg27_1=> ?_
  ·refine Yn (rd 2 Qg a.Clues) (dy fhg27_1) rfl rfl rfl rfl JX rfl rfl QfF ?_
   refine gL (dy fhg27_1) rfl rfl (B.lenR (m:=a.Clues.length) (tv (rd 2 Qg a.Clues) rfl) U34 (List.length_map ..)) (gF (dy fhg27_1) rfl rfl (OF.move (tv (tN ((Qb a.Grid).length)) rfl)) (gF (dy fhg27_1) rfl rfl (QjA (tv (tN a.Clues.length) rfl) (tv (tN ((Qb a.Grid).length)) rfl)) (fO (OF.pickT (VEv.tmpB rfl (dy fhg27_1)) (tv (tB (decide (a.Clues.length=(Qb a.Grid).length))) rfl)) (VRunO.nil ?_))))
   exact jq (congrArg T.bool (kAT fhg27_1 rfl)) (js rfl (js rfl (js rfl (js rfl (js rfl (jn))))))
  ·refine QC 5 4 true 27 (dz fhg27_1) rfl rfl rfl ?_
   refine fO (OF.pickF (VEv.tmpB rfl (dz fhg27_1)) (VEv.bool false)) (VRunO.nil ?_)
   exact jq (congrArg T.bool (kAF fhg27_1)) (js rfl (js rfl (js rfl (js rfl (js rfl (jn))))))
 refine mO (tB (decide ((ZG a.Grid=0)∧(a.Clues.length=(Qb a.Grid).length)))) rfl ?_
 refine VRunO.joinB 6 [35,36,37,38,39] 40 (tB (decide (((ZG a.Grid=0)∧(a.Clues.length=(Qb a.Grid).length))∧(a.Seals.length=(Qb a.Grid).length)))) ?_ ?_
 ·refine gw ((ZG a.Grid=0)∧(a.Clues.length=(Qb a.Grid).length)) (fun fhg34_2=> ?_) fun fhg34_2=> ?_
  ·refine Yn (rd 1 Qd a.Seals) (dy fhg34_2) rfl rfl rfl rfl Qb3 rfl rfl QbM ?_
   refine gL (dy fhg34_2) rfl rfl (B.lenR (m:=a.Seals.length) (tv (rd 1 Qd a.Seals) rfl) YQ (List.length_map ..)) (gF (dy fhg34_2) rfl rfl (OF.move (tv (tN ((Qb a.Grid).length)) rfl)) (gF (dy fhg34_2) rfl rfl (QjA (tv (tN a.Seals.length) rfl) (tv (tN ((Qb a.Grid).length)) rfl)) (fO (OF.pickT (VEv.tmpB rfl (dy fhg34_2)) (tv (tB (decide (a.Seals.length=(Qb a.Grid).length))) rfl)) (VRunO.nil ?_))))
   exact jq (congrArg T.bool (kAT fhg34_2 rfl)) (js rfl (js rfl (js rfl (js rfl (js rfl (jn))))))
  ·refine QC 5 11 true 34 (dz fhg34_2) rfl rfl rfl ?_
   refine fO (OF.pickF (VEv.tmpB rfl (dz fhg34_2)) (VEv.bool false)) (VRunO.nil ?_)
   exact jq (congrArg T.bool (kAF fhg34_2)) (js rfl (js rfl (js rfl (js rfl (js rfl (jn))))))
 refine mO (tB (decide (((ZG a.Grid=0)∧(a.Clues.length=(Qb a.Grid).length))∧(a.Seals.length=(Qb a.Grid).length)))) rfl ?_
 refine VRunO.joinB 4 [42,43,44] 45 (tB (decide ((((ZG a.Grid=0)∧(a.Clues.length=(Qb a.Grid).length))∧(a.Seals.length=(Qb a.Grid).length))∧(1≤a.Salt∧a.Salt≤9999)))) ?_ ?_
 ·refine gw (((ZG a.Grid=0)∧(a.Clues.length=(Qb a.Grid).length))∧(a.Seals.length=(Qb a.Grid).length)) (fun fhg41_3=> ?_) fun fhg41_3=> ?_
  ·refine Yn (tI a.Salt) (dy fhg41_3) rfl rfl rfl rfl Qde rfl rfl Q0 ?_
   refine VRunO.chain (VWant.on rfl rfl (dy fhg41_3)) (cS (vc (tv (tI a.Salt) rfl) (vc (VEv.int .i64 1) (vc (VEv.int .i64 9999) vn))) (Yl rfl) (QV (n+8) a.Salt 1 9999) rfl rfl) (fO (OF.pickT (VEv.tmpB rfl (dy fhg41_3)) (tv (tB (decide (1≤a.Salt∧a.Salt≤9999))) rfl)) (VRunO.nil ?_))
   exact jq (congrArg T.bool (kAT fhg41_3 rfl)) (js rfl (js rfl (js rfl (jn))))
  ·refine QC 3 18 true 41 (dz fhg41_3) rfl rfl rfl ?_
   refine fO (OF.pickF (VEv.tmpB rfl (dz fhg41_3)) (VEv.bool false)) (VRunO.nil ?_)
   exact jq (congrArg T.bool (kAF fhg41_3)) (js rfl (js rfl (js rfl (jn))))
 refine aO (tB (decide ((((ZG a.Grid=0)∧(a.Clues.length=(Qb a.Grid).length))∧(a.Seals.length=(Qb a.Grid).length))∧(1≤a.Salt∧a.Salt≤9999)))) rfl (nt (rt (vb (b':=(decide ((((ZG a.Grid=0)∧(a.Clues.length=(Qb a.Grid).length))∧(a.Seals.length=(Qb a.Grid).length))∧(1≤a.Salt∧a.Salt≤9999)))) rfl ?_)))
 refine Q8 ⟨fun h=>⟨h.1.1.1,h.1.1.2,h.1.2,h.2,fun c hc=>Classical.byContradiction fun e=>hI'.mem fhc0 c hc e⟩,fun h=>⟨⟨⟨h.1,h.2.1⟩,h.2.2.1⟩,h.2.2.2.1⟩⟩
theorem QcW (n:Nat) (a:D.Puzzle) (hz:QS a≤mx):Pure (Qr Tryz.prog (n+42)) 35 [(T.agg (Qs false a))] (tB (decide (Jq a))):=by
 refine Pure.intro (rs:= [ResultVar.tmp 2]) Tryz.func35 rfl rfl rfl (E0:= [(0,(T.agg (Qs false a)))]) rfl ?_
 obtain ⟨hlim,hmx,hmax⟩:=QJ
 simp only [QS,Zv] at hz
 have hl:=Zi (z:=QL) a.Clues
 have hl2:=Zi (z:=zI) a.Seals
 refine sr (kO (B.box (ts:=(Qs false a)) (tv (T.agg (Qs false a)) rfl) nofun rfl) (fO (OF.assign (VEv.bool false)) (nt (sq (sr (fO (OF.fieldAddrO (tv (T.op 0 0) rfl) JP) (lO (OL.loadOn (us:=(Qa false a.Grid)) (tv (T.op 0 0) rfl) rfl QY QR (lb rfl) rfl) (cO (cS (vc (tv (T.agg (Qa false a.Grid)) rfl) vn) (LendL.cons (lg Qt) ln) (QdS (n+0) a.Grid (by omega)) rfl rfl) (fO (xne (tv (tI (ZG a.Grid)) rfl) (VEv.int .i64 0)) (nt ?_))))))))))
 refine cn (ZG a.Grid=0) rfl (fun fhc0=> ?_) fun fhc0=> ?_
 ·refine sr ?_
  refine fO (OF.assign (VEv.bool false)) (nt (rt (tr (vb (b':=false) rfl ?_))))
  symm;rw [decide_eq_false_iff_not];intro h;exact fhc0 h.1
 refine sk (tn (sr (fO (OF.fieldAddrO (tv (T.op 0 0) rfl) JP) (lO (OL.loadOn (us:=(Qa false a.Grid)) (tv (T.op 0 0) rfl) rfl QY QR (lb rfl) rfl) (cO (OC.callF (r':=(T.os 4 1 0 (((Qb a.Grid).map (Qi true)).length))) (objs:= [(Obj.rows 4 ((Qb a.Grid).map (Qi true)))]) rfl (vc (tv (T.agg (Qa false a.Grid)) rfl) vn) (LendL.cons (lg Qt) ln) (Jc (n+38) a.Grid (by omega)) rfl) (lO (B.lenO (m:=(Qb a.Grid).length) (tv (T.os 4 1 0 (((Qb a.Grid).map (Qi true)).length)) rfl) J8 (List.length_map ..)) (aO (tN ((Qb a.Grid).length)) rfl (nt (sr (lf (rd 2 Qg a.Clues) rfl JX rfl rfl QfF (lO (B.lenR (m:=a.Clues.length) (tv (rd 2 Qg a.Clues) rfl) U34 (List.length_map ..)) ?_)))))))))))
 refine mO (tN ((Qb a.Grid).length)) rfl (fO (QjA (tv (tN a.Clues.length) rfl) (tv (tN ((Qb a.Grid).length)) rfl)) (mO (tB (decide (a.Clues.length=(Qb a.Grid).length))) rfl ?_))
 refine gw (a.Clues.length=(Qb a.Grid).length) (fun fhg17_1=> ?_) fun fhg17_1=> ?_
 ·refine Yn (rd 1 Qd a.Seals) (dy fhg17_1) rfl rfl rfl rfl Qb3 rfl rfl QbM ?_
  refine gL (dy fhg17_1) rfl rfl (B.lenR (m:=a.Seals.length) (tv (rd 1 Qd a.Seals) rfl) YQ (List.length_map ..)) (gF (dy fhg17_1) rfl rfl (OF.move (tv (tN ((Qb a.Grid).length)) rfl)) (gF (dy fhg17_1) rfl rfl (QjA (tv (tN a.Seals.length) rfl) (tv (tN ((Qb a.Grid).length)) rfl)) (fO (OF.pickT (VEv.tmpB rfl (dy fhg17_1)) (tv (tB (decide (a.Seals.length=(Qb a.Grid).length))) rfl)) (mO (tB (decide (a.Seals.length=(Qb a.Grid).length))) rfl ?_))))
  refine gw (a.Seals.length=(Qb a.Grid).length) (fun fhg24_2=> ?_) fun fhg24_2=> ?_
  ·refine Yn (tI a.Salt) (dy fhg24_2) rfl rfl rfl rfl Qde rfl rfl Q0 ?_
   refine VRunO.chain (VWant.on rfl rfl (dy fhg24_2)) (cS (vc (tv (tI a.Salt) rfl) (vc (VEv.int .i64 1) (vc (VEv.int .i64 9999) vn))) (Yl rfl) (Zf (n+40) a.Salt 1 9999) rfl rfl) (fO (OF.pickT (VEv.tmpB rfl (dy fhg24_2)) (tv (tB (decide (1≤a.Salt∧a.Salt≤9999))) rfl)) (mO (tB (decide (1≤a.Salt∧a.Salt≤9999))) rfl ?_))
   refine gw (1≤a.Salt∧a.Salt≤9999) (fun fhg29_3=> ?_) fun fhg29_3=> ?_
   ·refine Yn (rd 2 Qg a.Clues) (dy fhg29_3) rfl rfl rfl rfl JX rfl rfl QfF ?_
    refine VRunO.chain (VWant.on rfl rfl (dy fhg29_3)) (cS (us:= [(rd 2 Qg a.Clues),(T.fn 58 [])]) (vc (tv (rd 2 Qg a.Clues) rfl) (vc (VEv.func 58) vn)) (lp rfl (LendL.cons (Lend.fn ln) ln)) (Zd (n+34) a.Clues (by omega)) rfl rfl) (gF (dy fhg29_3) rfl rfl (Q1 (tv (tB (decide (∃c∈a.Clues,noC c))) rfl)) (fO (OF.pickT (VEv.tmpB rfl (dy fhg29_3)) (tv (tB (!(decide (∃c∈a.Clues,noC c)))) rfl)) (aO (tB (!(decide (∃c∈a.Clues,noC c)))) rfl (nt (rt (vb (b':=(!(decide (∃c∈a.Clues,noC c)))) rfl ?_))))))
    (rw [dN];refine Q8 ⟨fun h=>⟨?_,?_,?_,?_,fun c hc=>Classical.byContradiction fun e=>h ⟨c,hc,e⟩⟩,fun h=> ?_⟩<;>first | assumption | (rintro ⟨c,hc,hb⟩;exact hb (h.2.2.2.2 c hc)))
   refine QC 4 17 true 29 (dz fhg29_3) rfl rfl rfl (fO (OF.pickF (VEv.tmpB rfl (dz fhg29_3)) (VEv.bool false)) (aO (tB false) rfl (nt (rt (vb (b':=false) rfl ?_)))))
   (symm;rw [decide_eq_false_iff_not];rintro ⟨h1,h2,h3,h4,h5⟩;contradiction)
  refine QC 3 12 true 24 (dz fhg24_2) rfl rfl rfl (fO (OF.pickF (VEv.tmpB rfl (dz fhg24_2)) (VEv.bool false)) (mO (tB false) rfl (QC 4 17 true 29 (b:=false) rfl rfl rfl rfl (fO (OF.pickF (tv (tB false) rfl) (VEv.bool false)) (aO (tB false) rfl (nt (rt (vb (b':=false) rfl ?_))))))))
  (symm;rw [decide_eq_false_iff_not];rintro ⟨h1,h2,h3,h4,h5⟩;contradiction)
 refine QC 5 5 true 17 (dz fhg17_1) rfl rfl rfl (fO (OF.pickF (VEv.tmpB rfl (dz fhg17_1)) (VEv.bool false)) (mO (tB false) rfl (QC 3 12 true 24 (b:=false) rfl rfl rfl rfl (fO (OF.pickF (tv (tB false) rfl) (VEv.bool false)) (mO (tB false) rfl (QC 4 17 true 29 (b:=false) rfl rfl rfl rfl (fO (OF.pickF (tv (tB false) rfl) (VEv.bool false)) (aO (tB false) rfl (nt (rt (vb (b':=false) rfl ?_)))))))))))
 (symm;rw [decide_eq_false_iff_not];rintro ⟨h1,h2,h3,h4,h5⟩;contradiction)
end Go.Proofs.YthifchndolccgaaGreatDoor.AE
namespace Go.Proofs.YthifchndolccgaaGreatDoor.AE
open Go Go.RowKit
set_option linter.unusedVariables false
set_option linter.unusedSimpArgs false
set_option maxRecDepth 20000
set_option maxHeartbeats 2000000
noncomputable section
theorem Qfh : ∀(s:List UInt8),(Lib.index s [46]= -1∧∀b∈s,b≠46)∨∃i:Nat,Lib.index s [46]=i∧i<s.length∧(∀b∈s.take i,b≠46)∧s[i]? =some 46
 | []=> .inl ⟨rfl,fun b hb=>by cases hb⟩
 | b::l=>by
  by_cases hb:b=46
  ·subst hb
   exact .inr ⟨0,by simp [Lib.index],by simp,fun b hb=>by simp at hb,by simp⟩
  ·have hp:([46]:List UInt8).isPrefixOf (b::l)=false:=by
    simp [List.isPrefixOf]
    exact fun e=>hb e.symm
   rcases Qfh l with ⟨h1,h2⟩ | ⟨i,h1,h2,h3,h4⟩
   ·refine .inl ⟨?_,fun c hc=> ?_⟩
    ·unfold Lib.index
     rw [hp,h1]
     rfl
    ·rcases List.mem_cons.1 hc with rfl | hc
     ·exact hb
     ·exact h2 c hc
   ·refine .inr ⟨i+1,?_,by simp only [List.length_cons];omega,fun c hc=> ?_,by simpa using h4⟩
    ·unfold Lib.index
     rw [hp,h1]
     have:((i:Int) == -1)=false:=by rw [beq_eq_false_iff_ne];omega
     simp only [this]
     simp
    ·rw [List.take_succ_cons] at hc
     rcases List.mem_cons.1 hc with rfl | hc
     ·exact hb
     ·exact h3 c hc
def swB (b:UInt8):UInt8:=if b=46 then 63 else b
theorem QjZ {l:List UInt8} (h:∀b∈l,b≠46):l.map swB=l:=by
 induction l with
 | nil=>rfl
 | cons b r ih =>
  rw [List.map_cons,ih (fun c hc=>h c (by simp [hc]))]
  unfold swB
  rw [if_neg (h b (by simp))]
theorem Qfz : ∀(n:Nat) (s:List UInt8),s.length≤n→Lib.replaceK [46] [63] (Lib.count s [46]) s=s.map swB
 | n,s,hn=>by
  rcases Qfh s with ⟨h1,h2⟩ | ⟨i,h1,h2,h3,h4⟩
  ·rw [Lib.count_miss h1,QjZ h2]
   rfl
  ·match n,hn with
   | 0,hn=>omega
   | n+1,hn =>
    rw [Lib.count_hit (by simp) h1,Nat.add_comm 1,Lib.replaceK_hit _ _ _ _ _ h1]
    have ih:=Qfz n (s.drop (i+([46]:List UInt8).length)) (by simp;omega)
    rw [ih]
    have h5:s=s.take i++46::s.drop (i+1):=by
     have h6:=List.drop_eq_getElem_cons h2
     rw [List.getElem?_eq_getElem h2] at h4
     rw [Option.some.inj h4] at h6
     rw [← h6,List.take_append_drop]
    show s.take i++ [63]++(s.drop (i+1)).map swB=s.map swB
    conv=>rhs;rw [h5]
    rw [List.map_append,QjZ h3,List.map_cons]
    simp [swB]
def Qbx (s o w:ByteArray):ByteArray:=⟨(Lib.replaceAll s.data.toList o.data.toList w.data.toList).toArray⟩
theorem Qhy (s:ByteArray):Qbx s ⟨#[46]⟩ ⟨#[63]⟩=⟨(s.data.toList.map swB).toArray⟩:=by
 unfold Qbx Lib.replaceAll Lib.replace
 rw [if_neg (by decide)]
 have:Lib.replaceNum s.data.toList [46] (-1)=Lib.count s.data.toList [46]:=by unfold Lib.replaceNum;rw [if_pos (.inl (by decide))]
 show (⟨(Lib.replaceK [46] [63] (Lib.replaceNum s.data.toList [46] (-1)) s.data.toList).toArray⟩:ByteArray)=_
 rw [this,Qfz _ _ (Nat.le_refl _)]
theorem R.strInv2 {h:AH} {s:ByteArray} {v:Value} (hr:R h (.str s) v):v= .string s:=by cases hr;rfl
theorem Qiw {P:Program} {f:FuncId} (n:Nat) (hp:JT f=false) (hq:QiL f=Qae) {s o w:ByteArray} (h1:s.size<4294967281) (h2:1≤o.size) (h3:s.size+Lib.countB s o*w.size≤140737488355328):Pure (Qr P (n+1)) f [.str s, .str o, .str w] (.str (Qbx s o w)):=by
 intro h p vs hfr hvs
 match vs,hvs with
 | [],hvs=>exact absurd hvs.1 (by simp)
 | [_],hvs=>exact absurd hvs.1 (by simp)
 | [_,_],hvs=>exact absurd hvs.1 (by simp)
 | [a,b,c],hvs =>
  obtain ⟨g1,hvs⟩:=hvs.tail
  obtain ⟨g2,hvs⟩:=hvs.tail
  obtain ⟨g3,hvs⟩:=hvs.tail
  obtain rfl:=R.strInv2 g1
  obtain rfl:=R.strInv2 g2
  obtain rfl:=R.strInv2 g3
  unfold CallS
  refine ⟨.string (Qbx s o w),h,?_,fun _ h=> .inl h,fun _ _=>rfl,[], .fz (.str _),by simp,by simp⟩
  rw [Qr,if_neg (by rw [hp];simp),hq]
  unfold Qae
  simp only
  rw [if_pos ⟨h1,h2,h3⟩]
  rfl
 | _::_::_::_::_,hvs=>exact absurd hvs.1 (by simp)
def Yk (s:ByteArray):Nat→ByteArray
 | 0=>⟨#[]⟩
 | i+1=>Yk s i++(if QB s i=35 then ⟨#[35]⟩ else ⟨#[63]⟩)
theorem QbY (s:ByteArray):∀i,(Yk s i).size=i
 | 0=>rfl
 | i+1=>by
  rw [Yk,ByteArray.size_append,QbY s i]
  split<;>rfl
theorem Qer (s:ByteArray) (hs:∀j,j<s.size→QB s j=46∨QB s j=35):∀i,i≤s.size→(Yk s i).data.toList=(s.data.toList.take i).map swB
 | 0,_=>rfl
 | i+1,hi=>by
  have ih:=Qer s hs i (by omega)
  have hlt:i<s.data.toList.length:=by
   rw [Array.length_toList]
   exact hi
  rw [List.take_succ_eq_append_getElem hlt,List.map_append,← ih,Yk]
  have hb:=YP (s:=s) (i:=i) (by omega)
  have hv:s.data.toList[i]=s[i]'(by omega):=rfl
  rw [hv]
  have h35:∀(b:UInt8) (n:Nat),((b.toNat:Nat):Int)=n→n<256→b=UInt8.ofNat n:=fun b n e hn=>by
   have:b.toNat=n:=by omega
   rw [← this];simp
  rcases hs i (by omega) with h | h
  ·rw [h] at hb
   have:=h35 _ 46 hb (by decide)
   rw [if_neg (by omega),this]
   simp only [ByteArray.data_append,Array.toList_append]
   rfl
  ·rw [h] at hb
   have:=h35 _ 35 hb (by decide)
   rw [if_pos h,this]
   simp only [ByteArray.data_append,Array.toList_append]
   rfl
def YN (g:D.Grid):ByteArray:=if gridOk g then Yk g.Cells g.Cells.size else ⟨#[]⟩
theorem Qb2 (g:D.Grid):(YN g).size≤g.Cells.size:=by
 unfold YN
 split
 ·rw [QbY];exact Nat.le_refl _
 ·exact Nat.zero_le _
theorem Qhz {g:D.Grid} (h:gridOk g):Qbx g.Cells ⟨#[46]⟩ ⟨#[63]⟩=YN g:=by
 have h1:=Qer g.Cells (fun j hj=>(h.2.2.2 j hj).symm) g.Cells.size (Nat.le_refl _)
 rw [Qhy,YN,if_pos h]
 refine Qeo ?_
 rw [h1,List.take_of_length_le (by simp)]
theorem QjK {g:D.Grid} {i:Nat} (h1:i≤g.Cells.size) (h2:i=0∨gridOk g) (h3:¬(i<g.Cells.size∧gridOk g)):Yk g.Cells i=YN g:=by
 by_cases hg:gridOk g
 ·have h4:i=g.Cells.size:=by
   rcases Nat.lt_or_ge i g.Cells.size with h | h
   ·exact absurd ⟨h,hg⟩ h3
   ·omega
  rw [YN,if_pos hg,h4]
 ·obtain rfl:=h2.resolve_right hg
  rw [YN,if_neg hg]
  rfl
theorem QhH (s o:ByteArray) (h:1≤o.size):Lib.countB s o≤s.size:=by
 have h1:=Lib.countB_mul_le o h s.size s (Nat.le_refl _)
 have h2:Lib.countB s o*1≤Lib.countB s o*o.size:=Nat.mul_le_mul_left _ h
 omega
end
theorem Qaf (n:Nat) (s:ByteArray) (o:ByteArray) (w:ByteArray) (hs:s.size≤mx+64) (ho:1≤o.size) (hw:w.size≤1):Pure (Qr Tryz.prog (n+1)) 61 [(tS s),(tS o),(tS w)] (tS (Qbx s o w)):=by
 obtain ⟨hlim,hmx,hmax⟩:=QJ
 have h1:=QhH s o ho
 have h2:Lib.countB s o*w.size≤Lib.countB s o*1:=Nat.mul_le_mul_left _ hw
 exact Qiw n rfl rfl (by omega) ho (by omega)
theorem QbU (n:Nat) (g:D.Grid) (hc:g.Cells.size≤maxLen - 1):Pure (Qr Tryz.prog (n+3)) 31 [(T.agg (Qa false g))] (tS (YN g)):=by
 refine Pure.intro (rs:= [ResultVar.tmp 2]) Tryz.func31 rfl rfl rfl (E0:= [(0,(T.agg (Qa false g)))]) rfl ?_
 obtain ⟨hlim,hmx,hmax⟩:=QJ
 have e35:(⟨#[35]⟩:ByteArray).size=1:=rfl
 have e63:(⟨#[63]⟩:ByteArray).size=1:=rfl
 refine sr (kO (B.box (ts:=(Qa false g)) (tv (T.agg (Qa false g)) rfl) nofun rfl) (fO (OF.assign (VEv.str (⟨#[]⟩:ByteArray))) (nt (sr (fO (OF.assign (VEv.str (⟨#[]⟩:ByteArray))) (nt (sq (sr (fO (OF.assign (VEv.int .i64 0)) (nt (VRun.block ?_)))))))))))
 refine VRun.loop (A:=Nat) (fun s_=> [(1,(T.op 0 0)),(2,(tS (⟨#[]⟩:ByteArray))),(3,(tS (Yk g.Cells s_))),(4,(tN s_))]) (fun s_=>Q3 [(0,(Obj.cells (Qa false g)))]) 1 (fun s_=>s_≤g.Cells.size∧(s_=0∨gridOk g)) (fun s_=>g.Cells.size - s_) (0:Nat) ?_ (Wk.mk (fun k=>k) ?_ ?_ ?_) ?_
 ·exact ⟨Nat.zero_le _, .inl rfl⟩
 ·exact (b2 (b2 (bc ⟨(congrArg T.str (show (⟨#[]⟩:ByteArray)=Yk g.Cells 0 from (by first | rfl | assumption | rfl | (rw [Yk,if_pos (by assumption)];done) | (rw [Yk,if_neg (by assumption)];done) | (simp_all;done)))),rfl⟩ (b2 bn))))
 ·exact (b3 bn)
 ·exact nd rfl
 rintro i (hI':i≤g.Cells.size∧(i=0∨gridOk g))
 show VRun _ _ _ [(1,(T.op 0 0)),(2,(tS (⟨#[]⟩:ByteArray))),(3,(tS (Yk g.Cells i))),(4,(tN i))] (Q3 [(0,(Obj.cells (Qa false g)))]) 1 _
 have hI1:=hI'.1
 have hes:=QbY g.Cells i
 refine sq (sr (mO (tN i) rfl (lf (tS g.Cells) rfl QD rfl rfl Z3 (lO (B.lenS (tv (tS g.Cells) rfl) U9) (fO (Zt (tv (tN i) rfl) (tv (tN g.Cells.size) rfl)) (mO (tB (decide (i<g.Cells.size))) rfl ?_))))))
 refine VRunO.joinB 3 [11,12] 13 (tB (decide ((i<g.Cells.size)∧(gridOk g)))) ?_ ?_
 ·refine gw (i<g.Cells.size) (fun fhg10_1=> ?_) fun fhg10_1=> ?_
  ·refine gL (dy fhg10_1) rfl rfl (OL.loadOn (us:=(Qa false g)) (tv (T.op 0 0) rfl) rfl QY QR (lb rfl) rfl) ?_
   refine VRunO.chain (VWant.on rfl rfl (dy fhg10_1)) (cS (vc (tv (T.agg (Qa false g)) rfl) vn) (LendL.cons (lg Qt) ln) (Zr (n+0) g (by first | assumption | omega)) rfl rfl) (fO (OF.pickT (VEv.tmpB rfl (dy fhg10_1)) (tv (tB (decide (gridOk g))) rfl)) (VRunO.nil ?_))
   exact jq (congrArg T.bool (kAT fhg10_1 rfl)) (js rfl (js rfl (jn)))
  ·refine QC 2 5 true 10 (dz fhg10_1) rfl rfl rfl ?_
   refine fO (OF.pickF (VEv.tmpB rfl (dz fhg10_1)) (VEv.bool false)) (VRunO.nil ?_)
   exact jq (congrArg T.bool (kAF fhg10_1)) (js rfl (js rfl (jn)))
 refine nt ?_
 refine cd ((i<g.Cells.size)∧(gridOk g)) rfl (fun fhc0=> ?_) fun fhc0=> ?_
 ·refine sk ?_
  refine tn (sq (VRun.block (sr (lf (tS g.Cells) rfl QD rfl rfl Z3 (mO (tN i) rfl ?_)))))
  have hb2:i<g.Cells.size:=(by omega)
  refine fO (xix (tv (tS g.Cells) rfl) (tv (tN i) rfl) hb2 U9) (fO (YR (tv (T.int .u8 (QB g.Cells i)) rfl) (VEv.int .u8 35)) (nt ?_))
  refine cd (QB g.Cells i=35) rfl (fun fhc1=> ?_) fun fhc1=> ?_
  ·refine VRun.region ?_
   refine mO (tS (Yk g.Cells i)) rfl (fO (B.sadd (tv (tS (Yk g.Cells i)) rfl) (VEv.str (⟨#[35]⟩:ByteArray)) (by first | omega | (simp only [List.length_map];omega) | (simp only [List.length_map,List.length_append,List.length_cons,List.length_nil,List.length_replicate,List.length_set,List.length_drop,List.length_take,Yd] at *;omega))) (aO (tS (Yk g.Cells i++(⟨#[35]⟩:ByteArray))) rfl (VRunO.nil (vinB.n (tn (VRun.region (mO (tN i) rfl (fO (QF (tv (tN i) rfl) (VEv.int .i64 1) (by omega)) (aO (tN (i+1)) rfl (VRunO.nil (tn ?_)))))))))))
   refine ⟨(i+1:Nat),?_,?_,Wk.mk (fun k=>k) ?_ ?_ ?_⟩
   ·exact ⟨fhc0.1, .inr fhc0.2⟩
   ·first | omega | (simp only [];omega) | (show _<_;omega) | (simp;omega)
   ·exact (b2 (b2 (bc ⟨(congrArg T.str (show (Yk g.Cells i++(⟨#[35]⟩:ByteArray))=Yk g.Cells (i+1) from (by first | rfl | assumption | rfl | (rw [Yk,if_pos (by assumption)];done) | (rw [Yk,if_neg (by assumption)];done) | (simp_all;done)))),rfl⟩ (b2 bn))))
   ·exact (b3 bn)
   ·exact nd rfl
  refine VRun.region (mO (tS (Yk g.Cells i)) rfl (fO (B.sadd (tv (tS (Yk g.Cells i)) rfl) (VEv.str (⟨#[63]⟩:ByteArray)) (by first | omega | (simp only [List.length_map];omega) | (simp only [List.length_map,List.length_append,List.length_cons,List.length_nil,List.length_replicate,List.length_set,List.length_drop,List.length_take,Yd] at *;omega))) (aO (tS (Yk g.Cells i++(⟨#[63]⟩:ByteArray))) rfl (VRunO.nil (vinB.n (tn (VRun.region (mO (tN i) rfl (fO (QF (tv (tN i) rfl) (VEv.int .i64 1) (by omega)) (aO (tN (i+1)) rfl (VRunO.nil ?_)))))))))))
  refine tn ?_
  refine ⟨(i+1:Nat),?_,?_,Wk.mk (fun k=>k) ?_ ?_ ?_⟩
  ·exact ⟨fhc0.1, .inr fhc0.2⟩
  ·first | omega | (simp only [];omega) | (show _<_;omega) | (simp;omega)
  ·exact (b2 (b2 (bc ⟨(congrArg T.str (show (Yk g.Cells i++(⟨#[63]⟩:ByteArray))=Yk g.Cells (i+1) from (by first | rfl | assumption | rfl | (rw [Yk,if_pos (by assumption)];done) | (rw [Yk,if_neg (by assumption)];done) | (simp_all;done)))),rfl⟩ (b2 bn))))
  ·exact (b3 bn)
  ·exact nd rfl
 refine VRun.exit (vthn.e (vthn.e (vinB.e (tn (sr (mO (tS (Yk g.Cells i)) rfl (aO (tS (Yk g.Cells i)) rfl (nt (rt ?_)))))))))
 refine vfin.eq (r':=(tS (Yk g.Cells i))) ?_ (vfin.r (VRes.tmp (t:=(tS (Yk g.Cells i))) rfl VRes.nil) (Give.str _))
 refine congrArg T.str ?_
 exact QjK hI'.1 hI'.2 fhc0
theorem Qb8 (n:Nat) (g:D.Grid) (hc:g.Cells.size≤mx):Pure (Qr Tryz.prog (n+3)) 37 [(T.agg (Qa false g))] (tS (YN g)):=by
 refine Pure.intro (rs:= [ResultVar.tmp 2]) Tryz.func37 rfl rfl rfl (E0:= [(0,(T.agg (Qa false g)))]) rfl ?_
 obtain ⟨hlim,hmx,hmax⟩:=QJ
 refine sr (kO (B.box (ts:=(Qa false g)) (tv (T.agg (Qa false g)) rfl) nofun rfl) (fO (OF.assign (VEv.str (⟨#[]⟩:ByteArray))) (nt (sq (sr (lO (OL.loadOn (us:=(Qa false g)) (tv (T.op 0 0) rfl) rfl QY QR (lb rfl) rfl) (cO (cS (vc (tv (T.agg (Qa false g)) rfl) vn) (LendL.cons (lg Qt) ln) (ZQ (n+0) g (by first | decide | assumption | omega)) rfl rfl) (fO (Q1 (tv (tB (decide (gridOk g))) rfl)) (nt ?_)))))))))
 refine cn (gridOk g) rfl (fun fhc0=> ?_) fun fhc0=> ?_
 ·refine sr ?_
  refine fO (OF.assign (VEv.str (⟨#[]⟩:ByteArray))) (nt (rt (tr ?_)))
  refine vfin.eq (r':=(tS (⟨#[]⟩:ByteArray))) ?_ (vfin.r (VRes.tmp (t:=(tS (⟨#[]⟩:ByteArray))) rfl VRes.nil) (Give.str _))
  refine congrArg T.str ?_
  exact (if_neg fhc0).symm
 refine sk (tn (sr (lf (tS g.Cells) rfl QD rfl rfl Z3 (cO (cS (vc (tv (tS g.Cells) rfl) (vc (VEv.str (⟨#[46]⟩:ByteArray)) (vc (VEv.str (⟨#[63]⟩:ByteArray)) vn))) (Yl rfl) (Qaf (n+1) g.Cells (⟨#[46]⟩:ByteArray) (⟨#[63]⟩:ByteArray) (by first | decide | assumption | omega) (by first | decide | assumption | omega) (by first | decide | assumption | omega)) rfl rfl) (aO (tS (Qbx g.Cells (⟨#[46]⟩:ByteArray) (⟨#[63]⟩:ByteArray))) rfl (nt (rt ?_)))))))
 refine vfin.eq (r':=(tS (Qbx g.Cells (⟨#[46]⟩:ByteArray) (⟨#[63]⟩:ByteArray)))) ?_ (vfin.r (VRes.tmp (t:=(tS (Qbx g.Cells (⟨#[46]⟩:ByteArray) (⟨#[63]⟩:ByteArray)))) rfl VRes.nil) (Give.str _))
 refine congrArg T.str ?_
 exact Qhz (by assumption)
end Go.Proofs.YthifchndolccgaaGreatDoor.AE
namespace Go.Proofs.YthifchndolccgaaGreatDoor.AE
open Go Go.RowKit
set_option linter.unusedVariables false
set_option linter.unusedSimpArgs false
set_option maxRecDepth 20000
set_option maxHeartbeats 2000000
theorem QbF (n:Nat) (a:D.Puzzle) (k:Nat) (hk:QM k a.Clues+1*a.Seals.length≤Yd):LoanM (Qr Tryz.prog (n+4)) 12 [(2,(a.Clues.map (Qg true))),(1,(a.Seals.map (Qd true)))] [(T.agg [(tI a.Grid.Rows),(tI a.Grid.Cols),(tS a.Grid.Cells),(T.os 2 0 0 ((a.Clues.map (Qg true)).length)),(T.os 1 1 0 ((a.Seals.map (Qd true)).length)),(tI a.Salt)]),(tN k)] (tN (QM k a.Clues+1*a.Seals.length)) [(2,((Z4 k a.Clues).map (Qg true))),(1,((YT Zb 1 (QM k a.Clues) a.Seals.length).map (Qd true)))]:=by
 refine LoanM.intro (rs:= [ResultVar.tmp 4]) [(0,(T.agg [(tI a.Grid.Rows),(tI a.Grid.Cols),(tS a.Grid.Cells),(T.os 2 0 0 ((a.Clues.map (Qg true)).length)),(T.os 1 1 0 ((a.Seals.map (Qd true)).length)),(tI a.Salt)]))] Tryz.func12 rfl rfl rfl rfl (bc ⟨by kernel_rfl,rfl⟩ bn) (PinsTo.at (And.intro (And.intro trivial ⟨_,(.head _),(.agg 3 rfl (.os _ _))⟩) ⟨_,(.head _),(.agg 4 rfl (.os _ _))⟩)) (.int _ _) (bc (okeClue.cleanMap _) (bc (okInt.cleanMap _) bn)) (E0:= [(0,(T.agg [(tI a.Grid.Rows),(tI a.Grid.Cols),(tS a.Grid.Cells),(T.os 2 0 0 ((a.Clues.map (Qg true)).length)),(T.os 1 1 0 ((a.Seals.map (Qd true)).length)),(tI a.Salt)])),(1,(tN k))]) rfl (fun asg=> ?_)
 obtain ⟨hlim,hmx,hmax⟩:=QJ
 show VRun _ _ _ [(0,(T.agg [(tI a.Grid.Rows),(tI a.Grid.Cols),(tS a.Grid.Cells),(T.os 2 0 0 ((a.Clues.map (Qg true)).length)),(T.os 1 1 0 ((a.Seals.map (Qd true)).length)),(tI a.Salt)])),(1,(tN k))] (Q3 [(0,(Obj.rowsN 2 (a.Clues.map (Qg true)) (asg 0))),(1,(Obj.rowsN 1 (a.Seals.map (Qd true)) (asg 1)))]) 2 _
 refine sr (kO (B.box (ts:= [(tI a.Grid.Rows),(tI a.Grid.Cols),(tS a.Grid.Cells),(T.os 2 0 0 ((a.Clues.map (Qg true)).length)),(T.os 1 1 0 ((a.Seals.map (Qd true)).length)),(tI a.Salt)]) (tv (T.agg [(tI a.Grid.Rows),(tI a.Grid.Cols),(tS a.Grid.Cells),(T.os 2 0 0 ((a.Clues.map (Qg true)).length)),(T.os 1 1 0 ((a.Seals.map (Qd true)).length)),(tI a.Salt)]) rfl) nofun rfl) (fO (OF.assign (VEv.int .i64 0)) (nt (sr (lf (T.os 2 0 0 ((a.Clues.map (Qg true)).length)) rfl JX rfl rfl QfF (mO (tN k) rfl (cO (OC.callL (ts:= [(T.os 2 0 0 ((a.Clues.map (Qg true)).length)),(tN k)]) [0] (r:=(tN (QM k a.Clues))) (L:= [(2,(a.Clues.map (Qg true)))]) [(2,((Z4 k a.Clues).map (Qg true)))] [(Obj.rowsN 2 (a.Clues.map (Qg true)) (asg 0))] rfl (vc (tv (T.os 2 0 0 ((a.Clues.map (Qg true)).length)) rfl) (vc (tv (tN k) rfl) vn)) (by decide) rfl (And.intro (And.intro rfl rfl) (trivial)) (bc (okeClue.cleanMap _) bn) (bc (okeClue.cleanMap _) bn) rfl rfl (.int _ _) (Qb4 (n+0) a.Clues k (by omega))) (aO (tN (QM k a.Clues)) rfl (nt (sr (lf (T.os 1 1 0 ((a.Seals.map (Qd true)).length)) rfl Qb3 rfl rfl QbM ?_)))))))))))
 refine mO (tN (QM k a.Clues)) rfl (cO (OC.viaN (k:=1) rfl (Zq (fun _=>rfl) _) (Zq (fun _=>rfl) _) (OC.callMut (rows:=(a.Seals.map (Qd true))) (rows':=((YT Zb 1 (QM k a.Clues) a.Seals.length).map (Qd true))) rfl (vc (tv (T.os 1 1 0 ((a.Seals.map (Qd true)).length)) rfl) (vc (tv (tN (QM k a.Clues)) rfl) vn)) rfl rfl (bc rfl bn) (Zq (fun _=>rfl) _) (Zq (fun _=>rfl) _) (J2 (n+2) a.Seals (QM k a.Clues) (by assumption)))) (aO (tN ((QM k a.Clues)+1*a.Seals.length)) rfl (nt (sr (mO (tN ((QM k a.Clues)+1*a.Seals.length)) rfl (aO (tN ((QM k a.Clues)+1*a.Seals.length)) rfl (nt (rt ?_))))))))
 have hnew0:Z4 k a.Clues=Z4 k a.Clues:=by
  rfl
 have hnew1:YT Zb 1 (QM k a.Clues) a.Seals.length=YT Zb 1 (QM k a.Clues) a.Seals.length:=by
  rfl
 exact vloanM.r (L1:= [(2,((Z4 k a.Clues).map (Qg true))),(1,((YT Zb 1 (QM k a.Clues) a.Seals.length).map (Qd true)))]) (fun k=>k) (VRes.tmp (t:=(tN ((QM k a.Clues)+1*a.Seals.length))) rfl VRes.nil) (congrArg (T.int .i64) (show (((QM k a.Clues)+1*a.Seals.length:Nat):Int)=((QM k a.Clues+1*a.Seals.length:Nat):Int) by rfl)) (bc rfl bn) (And.intro rfl (And.intro rfl (trivial))) (by rw [hnew0,hnew1])
theorem Qbf (n:Nat) (a:D.Session) (k:Nat) (hk:k+1*a.Asked.length≤Yd):LoanM (Qr Tryz.prog (n+2)) 13 [(1,(a.Asked.map (Qd true)))] [(T.agg [(tS a.Fill),(tI a.Checks),(tI a.Spent),(T.os 1 0 0 ((a.Asked.map (Qd true)).length)),(tI a.Start),(tI a.Now)]),(tN k)] (tN (k+1*a.Asked.length)) [(1,((YT Zb 1 k a.Asked.length).map (Qd true)))]:=by
 refine LoanM.intro (rs:= [ResultVar.tmp 4]) [(0,(T.agg [(tS a.Fill),(tI a.Checks),(tI a.Spent),(T.os 1 0 0 ((a.Asked.map (Qd true)).length)),(tI a.Start),(tI a.Now)]))] Tryz.func13 rfl rfl rfl rfl (bc ⟨by kernel_rfl,rfl⟩ bn) (PinsTo.at (And.intro trivial ⟨_,(.head _),(.agg 3 rfl (.os _ _))⟩)) (.int _ _) (bc (okInt.cleanMap _) bn) (E0:= [(0,(T.agg [(tS a.Fill),(tI a.Checks),(tI a.Spent),(T.os 1 0 0 ((a.Asked.map (Qd true)).length)),(tI a.Start),(tI a.Now)])),(1,(tN k))]) rfl (fun asg=> ?_)
 obtain ⟨hlim,hmx,hmax⟩:=QJ
 show VRun _ _ _ [(0,(T.agg [(tS a.Fill),(tI a.Checks),(tI a.Spent),(T.os 1 0 0 ((a.Asked.map (Qd true)).length)),(tI a.Start),(tI a.Now)])),(1,(tN k))] (Q3 [(0,(Obj.rowsN 1 (a.Asked.map (Qd true)) (asg 0)))]) 1 _
 refine sr (kO (B.box (ts:= [(tS a.Fill),(tI a.Checks),(tI a.Spent),(T.os 1 0 0 ((a.Asked.map (Qd true)).length)),(tI a.Start),(tI a.Now)]) (tv (T.agg [(tS a.Fill),(tI a.Checks),(tI a.Spent),(T.os 1 0 0 ((a.Asked.map (Qd true)).length)),(tI a.Start),(tI a.Now)]) rfl) nofun rfl) (fO (OF.assign (VEv.int .i64 0)) (nt (sr (lf (T.os 1 0 0 ((a.Asked.map (Qd true)).length)) rfl Qex rfl rfl QbM (mO (tN k) rfl (cO (OC.viaN (k:=0) rfl (Zq (fun _=>rfl) _) (Zq (fun _=>rfl) _) (OC.callMut (rows:=(a.Asked.map (Qd true))) (rows':=((YT Zb 1 k a.Asked.length).map (Qd true))) rfl (vc (tv (T.os 1 0 0 ((a.Asked.map (Qd true)).length)) rfl) (vc (tv (tN k) rfl) vn)) rfl rfl (bc rfl bn) (Zq (fun _=>rfl) _) (Zq (fun _=>rfl) _) (J2 (n+0) a.Asked k (by assumption)))) (aO (tN (k+1*a.Asked.length)) rfl (nt (sr (mO (tN (k+1*a.Asked.length)) rfl ?_)))))))))))
 refine aO (tN (k+1*a.Asked.length)) rfl (nt (rt ?_))
 have hnew0:YT Zb 1 k a.Asked.length=YT Zb 1 k a.Asked.length:=by
  rfl
 exact vloanM.r (L1:= [(1,((YT Zb 1 k a.Asked.length).map (Qd true)))]) (fun k=>k) (VRes.tmp (t:=(tN (k+1*a.Asked.length))) rfl VRes.nil) rfl (bc rfl bn) (And.intro rfl (trivial)) (by rw [hnew0])
theorem Y4 (n:Nat) (a:D.Session) (k:Nat) (hh:a.Asked=YT Zb 1 k a.Asked.length) (hk:k+1*a.Asked.length≤Yd):Pure (Qr Tryz.prog (n+2)) 14 [(T.agg (Q4 false a)),(tN k)] (tN (k+1*a.Asked.length)):=by
 refine Pure.intro (rs:= [ResultVar.tmp 4]) Tryz.func14 rfl rfl rfl (E0:= [(0,(T.agg (Q4 false a))),(1,(tN k))]) rfl ?_
 obtain ⟨hlim,hmx,hmax⟩:=QJ
 refine sr (kO (B.box (ts:=(Q4 false a)) (tv (T.agg (Q4 false a)) rfl) nofun rfl) (fO (OF.assign (VEv.int .i64 0)) (nt (sr (lf (rd 1 Qd a.Asked) rfl Qex rfl rfl QbM (mO (tN k) rfl (cO (cS (vc (tv (rd 1 Qd a.Asked) rfl) (vc (tv (tN k) rfl) vn)) (Yl rfl) (QcF (n+0) a.Asked k (by assumption) (by assumption)) rfl rfl) (aO (tN (k+1*a.Asked.length)) rfl (nt (sq (sr ?_)))))))))))
 refine mO (tN (k+1*a.Asked.length)) rfl (fO (B.lss (c:=(decide (k+1*a.Asked.length<0))) (tv (tN (k+1*a.Asked.length)) rfl) (VEv.int .i64 0) (Q8 (by omega))) (nt ?_))
 refine cd (k+1*a.Asked.length<0) rfl (fun fhc0=> ?_) fun fhc0=> ?_
 ·omega
 refine sk (tn (sr (mO (tN (k+1*a.Asked.length)) rfl (aO (tN (k+1*a.Asked.length)) rfl (nt (rt ?_))))))
 exact vi rfl rfl
end Go.Proofs.YthifchndolccgaaGreatDoor.AE
namespace Go.Proofs.YthifchndolccgaaGreatDoor.AE
open Go Go.RowKit
set_option linter.unusedVariables false
set_option linter.unusedSimpArgs false
set_option maxRecDepth 20000
set_option maxHeartbeats 2000000
noncomputable section
def QK (a:D.Puzzle) (tk:Int):Prop:=Jq a∧(0≤tk∧tk≤1000)
instance (a:D.Puzzle) (tk:Int):Decidable (QK a tk):=Classical.propDecidable _
def Qf (a:D.Puzzle) (tk:Int):D.Session:=if QK a tk then D.Session.mk (YN a.Grid) 0 0 [] tk tk else D.Session.mk ⟨#[]⟩ 0 0 [] 0 0
theorem Qhb {a:D.Puzzle} {tk:Int} (h:¬QK a tk):Qf a tk=D.Session.mk ⟨#[]⟩ 0 0 [] 0 0:=if_neg h
theorem QfI {a:D.Puzzle} {tk:Int} (h:QK a tk):Qf a tk=D.Session.mk (YN a.Grid) 0 0 [] tk tk:=if_pos h
theorem Qdf (a:D.Puzzle) (tk:Int):(Qf a tk).Asked= []:=by unfold Qf;split<;>rfl
theorem Qkm (a:D.Puzzle) (tk:Int):Qad (Qf a tk)≤QS a:=by
 have h1:=Qdf a tk
 have h2:(Qf a tk).Fill.size≤a.Grid.Cells.size:=by
  unfold Qf
  split
  ·exact Qb2 a.Grid
  ·exact Nat.zero_le _
 simp only [Qad,h1,QS,Zv]
 have:zL zI []=0:=rfl
 omega
theorem Qik (a:D.Puzzle) (tk:Int):(Qf a tk).Asked.length=0:=by rw [Qdf];rfl
end
theorem Qbs (n:Nat) (a:D.Puzzle) (tk:Int) (hz:QS a≤mx):Pure (Qr Tryz.prog (n+11)) 7 [(T.agg (Qs false a)),(tI tk)] (T.tup [(T.agg (Q4 true (Qf a tk))),(tB (decide (QK a tk)))]):=by
 refine Pure.intro (rs:= [ResultVar.cell 4 30,ResultVar.tmp 5]) Tryz.func7 rfl rfl rfl (E0:= [(0,(T.agg (Qs false a))),(1,(tI tk))]) rfl ?_
 obtain ⟨hlim,hmx,hmax⟩:=QJ
 have hz2:=hz
 simp only [QS,Zv] at hz2
 have hes:=Qb2 a.Grid
 refine sr (kO (B.box (ts:=(Qs false a)) (tv (T.agg (Qs false a)) rfl) nofun rfl) (kO (B.alloc (t:=(T.agg [(tS ByteArray.empty),(tN 0),(tN 0),T.nils,(tN 0),(tN 0)])) (ts:= [(tS ByteArray.empty),(tN 0),(tN 0),T.nils,(tN 0),(tN 0)]) QeG QiC nofun (fun _=> .agg _ _ rfl (YD (RL.cons (.str _) (RL.cons (.int _ _) (RL.cons (.int _ _) (RL.cons (.nils) (RL.cons (.int _ _) (RL.cons (.int _ _) (RL.nil _))))))))) rfl) (fO (OF.assign (VEv.bool false)) (nt (sq (sr (lO (OL.loadOn (us:=(Qs false a)) (tv (T.op 0 0) rfl) rfl Qga QeL (lb rfl) rfl) (cO (cS (vc (tv (T.agg (Qs false a)) rfl) vn) (LendL.cons (lg Yx) ln) (QcQ (n+0) a (by first | assumption | omega)) rfl rfl) (fO (Q1 (tv (tB (decide (Jq a))) rfl)) (mO (tB (!(decide (Jq a)))) rfl ?_))))))))))
 refine VRunO.joinB 4 [10,11,12] 13 (tB (decide ((¬(Jq a))∨(¬(0≤tk∧tk≤1000))))) ?_ ?_
 ·refine gn (Jq a) (fun fhg9_1=> ?_) fun fhg9_1=> ?_
  ·refine QC 3 3 false 9 (ny fhg9_1) rfl rfl rfl ?_
   refine fO (OF.pickT (VEv.tmpB rfl (ny fhg9_1)) (VEv.bool true)) (VRunO.nil ?_)
   exact jq (congrArg T.bool (kOT fhg9_1)) (js rfl (js rfl (js rfl (jn))))
  ·refine gF (nz fhg9_1) rfl rfl (OF.move (tv (tI tk) rfl)) ?_
   refine VRunO.chain (VWant.on rfl rfl (nz fhg9_1)) (cS (vc (tv (tI tk) rfl) (vc (VEv.int .i64 0) (vc (VEv.int .i64 1000) vn))) (Yl rfl) (QV (n+9) tk 0 1000) rfl rfl) (gF (nz fhg9_1) rfl rfl (Q1 (tv (tB (decide (0≤tk∧tk≤1000))) rfl)) (fO (OF.pickF (VEv.tmpB rfl (nz fhg9_1)) (tv (tB (!(decide (0≤tk∧tk≤1000)))) rfl)) (VRunO.nil ?_)))
   exact jq (congrArg T.bool (kOF (not_not_intro fhg9_1) dN)) (js rfl (js rfl (js rfl (jn))))
 refine nt ?_
 refine cd ((¬(Jq a))∨(¬(0≤tk∧tk≤1000))) rfl (fun fhc0=> ?_) fun fhc0=> ?_
 ·refine sr ?_
  refine fO (OF.build (l:= []) (zs:= [(tS ByteArray.empty),(tN 0),(tN 0),T.nils,(tN 0),(tN 0)]) (out:= [(tS ByteArray.empty),(tN 0),(tN 0),T.nils,(tN 0),(tN 0)]) VEvp.nil bn Tryz.underlying30 QeG (fun _=>RL.cons (.str _) (RL.cons (.int _ _) (RL.cons (.int _ _) (RL.cons (.nils) (RL.cons (.int _ _) (RL.cons (.int _ _) (RL.nil _))))))) (by kernel_rfl) (by kernel_rfl)) (cO (B.storeW (us:= [(tS ByteArray.empty),(tN 0),(tN 0),T.nils,(tN 0),(tN 0)]) (tv (T.op 1 0) rfl) (tv (T.agg [(tS ByteArray.empty),(tN 0),(tN 0),T.nils,(tN 0),(tN 0)]) rfl) nofun rfl rfl rfl Qgn JL (bc rfl (bc rfl (bc rfl (bc rfl (bc rfl (bc rfl bn))))))) (fO (OF.assign (VEv.bool false)) (nt (rt (tr ?_)))))
  refine vfin.eq (r':=(T.tup [(T.agg [(tS ByteArray.empty),(tN 0),(tN 0),(T.sl true 1 []),(tN 0),(tN 0)]),(tB false)])) ?_ (vfin.r (VRes.celln (ws:= [(tS ByteArray.empty),(tN 0),(tN 0),T.nils,(tN 0),(tN 0)]) rfl rfl Qb6 JL (lb rfl) rfl (VRes.tmp (t:=(tB false)) rfl VRes.nil)) (Give.tup (GiveL.cons (Give.agg (GiveL.cons (Give.str _) (GiveL.cons (Give.int _ _) (GiveL.cons (Give.int _ _) (GiveL.cons (Give.nils 1) (GiveL.cons (Give.int _ _) (GiveL.cons (Give.int _ _) GiveL.nil (by decide)) (by decide)) (by decide)) (by decide)) (by decide)) (by decide))) (GiveL.cons (Give.bool _) GiveL.nil (by decide)) (by decide))))
  have hno:¬QK a tk:=(by rintro ⟨h1,h2⟩;rcases fhc0 with h | h<;>contradiction)
  rw [Qhb hno,decide_eq_false hno];rfl
 refine sk (tn (sr (fO (OF.fieldAddrO (tv (T.op 0 0) rfl) JP) (lO (OL.loadOn (us:=(Qa false a.Grid)) (tv (T.op 0 0) rfl) rfl QY QR (lb rfl) rfl) (cO (cS (vc (tv (T.agg (Qa false a.Grid)) rfl) vn) (LendL.cons (lg Qt) ln) (QbU (n+7) a.Grid (by first | assumption | omega)) rfl rfl) (mO (tI tk) rfl (mO (tI tk) rfl (fO (OF.build (l:= [(0,(tS (YN a.Grid))),(4,(tI tk)),(5,(tI tk))]) (zs:= [(tS ByteArray.empty),(tN 0),(tN 0),T.nils,(tN 0),(tN 0)]) (out:= [(tS (YN a.Grid)),(tN 0),(tN 0),T.nils,(tI tk),(tI tk)]) (VEvp.cons (i:=0) (tv (tS (YN a.Grid)) rfl) (VEvp.cons (i:=4) (tv (tI tk) rfl) (VEvp.cons (i:=5) (tv (tI tk) rfl) VEvp.nil))) (bc nofun (bc nofun (bc nofun bn))) Tryz.underlying30 QeG (fun _=>RL.cons (.str _) (RL.cons (.int _ _) (RL.cons (.int _ _) (RL.cons (.nils) (RL.cons (.int _ _) (RL.cons (.int _ _) (RL.nil _))))))) (by kernel_rfl) (by kernel_rfl)) (cO (B.storeW (us:= [(tS (YN a.Grid)),(tN 0),(tN 0),T.nils,(tI tk),(tI tk)]) (tv (T.op 1 0) rfl) (tv (T.agg [(tS (YN a.Grid)),(tN 0),(tN 0),T.nils,(tI tk),(tI tk)]) rfl) nofun rfl rfl rfl Qgn JL (bc rfl (bc rfl (bc rfl (bc rfl (bc rfl (bc rfl bn))))))) (fO (OF.assign (VEv.bool true)) (nt ?_)))))))))))
 refine rt ?_
 refine vfin.eq (r':=(T.tup [(T.agg [(tS (YN a.Grid)),(tN 0),(tN 0),(T.sl true 1 []),(tI tk),(tI tk)]),(tB true)])) ?_ (vfin.r (VRes.celln (ws:= [(tS (YN a.Grid)),(tN 0),(tN 0),T.nils,(tI tk),(tI tk)]) rfl rfl Qb6 JL (lb rfl) rfl (VRes.tmp (t:=(tB true)) rfl VRes.nil)) (Give.tup (GiveL.cons (Give.agg (GiveL.cons (Give.str _) (GiveL.cons (Give.int _ _) (GiveL.cons (Give.int _ _) (GiveL.cons (Give.nils 1) (GiveL.cons (Give.int _ _) (GiveL.cons (Give.int _ _) GiveL.nil (by decide)) (by decide)) (by decide)) (by decide)) (by decide)) (by decide))) (GiveL.cons (Give.bool _) GiveL.nil (by decide)) (by decide))))
 have hok:QK a tk:=(by simp only [not_or,Classical.not_not] at fhc0;exact fhc0)
 rw [QfI hok,decide_eq_true hok];rfl
theorem Jl (n:Nat) (a:D.Puzzle) (tk:Int) (hz:QS a≤mx):Pure (Qr Tryz.prog (n+43)) 9 [(T.agg (Qs false a)),(tI tk)] (T.tup [(T.agg (Q4 true (Qf a tk))),(tB (decide (QK a tk)))]):=by
 refine Pure.intro (rs:= [ResultVar.cell 4 30,ResultVar.tmp 5]) Tryz.func9 rfl rfl rfl (E0:= [(0,(T.agg (Qs false a))),(1,(tI tk))]) rfl ?_
 obtain ⟨hlim,hmx,hmax⟩:=QJ
 have hz2:=hz
 simp only [QS,Zv] at hz2
 have hes:=Qb2 a.Grid
 refine sr (kO (B.box (ts:=(Qs false a)) (tv (T.agg (Qs false a)) rfl) nofun rfl) (kO (B.alloc (t:=(T.agg [(tS ByteArray.empty),(tN 0),(tN 0),T.nils,(tN 0),(tN 0)])) (ts:= [(tS ByteArray.empty),(tN 0),(tN 0),T.nils,(tN 0),(tN 0)]) QeG QiC nofun (fun _=> .agg _ _ rfl (YD (RL.cons (.str _) (RL.cons (.int _ _) (RL.cons (.int _ _) (RL.cons (.nils) (RL.cons (.int _ _) (RL.cons (.int _ _) (RL.nil _))))))))) rfl) (fO (OF.assign (VEv.bool false)) (nt (sq (sr (lO (OL.loadOn (us:=(Qs false a)) (tv (T.op 0 0) rfl) rfl Qga QeL (lb rfl) rfl) (cO (cS (vc (tv (T.agg (Qs false a)) rfl) vn) (LendL.cons (lg Yx) ln) (QcW (n+0) a (by first | assumption | omega)) rfl rfl) (fO (Q1 (tv (tB (decide (Jq a))) rfl)) (mO (tB (!(decide (Jq a)))) rfl ?_))))))))))
 refine VRunO.joinB 4 [10,11,12] 13 (tB (decide ((¬(Jq a))∨(¬(0≤tk∧tk≤1000))))) ?_ ?_
 ·refine gn (Jq a) (fun fhg9_1=> ?_) fun fhg9_1=> ?_
  ·refine QC 3 3 false 9 (ny fhg9_1) rfl rfl rfl ?_
   refine fO (OF.pickT (VEv.tmpB rfl (ny fhg9_1)) (VEv.bool true)) (VRunO.nil ?_)
   exact jq (congrArg T.bool (kOT fhg9_1)) (js rfl (js rfl (js rfl (jn))))
  ·refine gF (nz fhg9_1) rfl rfl (OF.move (tv (tI tk) rfl)) ?_
   refine VRunO.chain (VWant.on rfl rfl (nz fhg9_1)) (cS (vc (tv (tI tk) rfl) (vc (VEv.int .i64 0) (vc (VEv.int .i64 1000) vn))) (Yl rfl) (Zf (n+41) tk 0 1000) rfl rfl) (gF (nz fhg9_1) rfl rfl (Q1 (tv (tB (decide (0≤tk∧tk≤1000))) rfl)) (fO (OF.pickF (VEv.tmpB rfl (nz fhg9_1)) (tv (tB (!(decide (0≤tk∧tk≤1000)))) rfl)) (VRunO.nil ?_)))
   exact jq (congrArg T.bool (kOF (not_not_intro fhg9_1) dN)) (js rfl (js rfl (js rfl (jn))))
 refine nt ?_
 refine cd ((¬(Jq a))∨(¬(0≤tk∧tk≤1000))) rfl (fun fhc0=> ?_) fun fhc0=> ?_
 ·refine sr ?_
  refine fO (OF.build (l:= []) (zs:= [(tS ByteArray.empty),(tN 0),(tN 0),T.nils,(tN 0),(tN 0)]) (out:= [(tS ByteArray.empty),(tN 0),(tN 0),T.nils,(tN 0),(tN 0)]) VEvp.nil bn Tryz.underlying30 QeG (fun _=>RL.cons (.str _) (RL.cons (.int _ _) (RL.cons (.int _ _) (RL.cons (.nils) (RL.cons (.int _ _) (RL.cons (.int _ _) (RL.nil _))))))) (by kernel_rfl) (by kernel_rfl)) (cO (B.storeW (us:= [(tS ByteArray.empty),(tN 0),(tN 0),T.nils,(tN 0),(tN 0)]) (tv (T.op 1 0) rfl) (tv (T.agg [(tS ByteArray.empty),(tN 0),(tN 0),T.nils,(tN 0),(tN 0)]) rfl) nofun rfl rfl rfl Qgn JL (bc rfl (bc rfl (bc rfl (bc rfl (bc rfl (bc rfl bn))))))) (fO (OF.assign (VEv.bool false)) (nt (rt (tr ?_)))))
  refine vfin.eq (r':=(T.tup [(T.agg [(tS ByteArray.empty),(tN 0),(tN 0),(T.sl true 1 []),(tN 0),(tN 0)]),(tB false)])) ?_ (vfin.r (VRes.celln (ws:= [(tS ByteArray.empty),(tN 0),(tN 0),T.nils,(tN 0),(tN 0)]) rfl rfl Qb6 JL (lb rfl) rfl (VRes.tmp (t:=(tB false)) rfl VRes.nil)) (Give.tup (GiveL.cons (Give.agg (GiveL.cons (Give.str _) (GiveL.cons (Give.int _ _) (GiveL.cons (Give.int _ _) (GiveL.cons (Give.nils 1) (GiveL.cons (Give.int _ _) (GiveL.cons (Give.int _ _) GiveL.nil (by decide)) (by decide)) (by decide)) (by decide)) (by decide)) (by decide))) (GiveL.cons (Give.bool _) GiveL.nil (by decide)) (by decide))))
  have hno:¬QK a tk:=(by rintro ⟨h1,h2⟩;rcases fhc0 with h | h<;>contradiction)
  rw [Qhb hno,decide_eq_false hno];rfl
 refine sk (tn (sr (fO (OF.fieldAddrO (tv (T.op 0 0) rfl) JP) (lO (OL.loadOn (us:=(Qa false a.Grid)) (tv (T.op 0 0) rfl) rfl QY QR (lb rfl) rfl) (cO (cS (vc (tv (T.agg (Qa false a.Grid)) rfl) vn) (LendL.cons (lg Qt) ln) (Qb8 (n+39) a.Grid (by first | assumption | omega)) rfl rfl) (mO (tI tk) rfl (mO (tI tk) rfl (fO (OF.build (l:= [(0,(tS (YN a.Grid))),(4,(tI tk)),(5,(tI tk))]) (zs:= [(tS ByteArray.empty),(tN 0),(tN 0),T.nils,(tN 0),(tN 0)]) (out:= [(tS (YN a.Grid)),(tN 0),(tN 0),T.nils,(tI tk),(tI tk)]) (VEvp.cons (i:=0) (tv (tS (YN a.Grid)) rfl) (VEvp.cons (i:=4) (tv (tI tk) rfl) (VEvp.cons (i:=5) (tv (tI tk) rfl) VEvp.nil))) (bc nofun (bc nofun (bc nofun bn))) Tryz.underlying30 QeG (fun _=>RL.cons (.str _) (RL.cons (.int _ _) (RL.cons (.int _ _) (RL.cons (.nils) (RL.cons (.int _ _) (RL.cons (.int _ _) (RL.nil _))))))) (by kernel_rfl) (by kernel_rfl)) (cO (B.storeW (us:= [(tS (YN a.Grid)),(tN 0),(tN 0),T.nils,(tI tk),(tI tk)]) (tv (T.op 1 0) rfl) (tv (T.agg [(tS (YN a.Grid)),(tN 0),(tN 0),T.nils,(tI tk),(tI tk)]) rfl) nofun rfl rfl rfl Qgn JL (bc rfl (bc rfl (bc rfl (bc rfl (bc rfl (bc rfl bn))))))) (fO (OF.assign (VEv.bool true)) (nt ?_)))))))))))
 refine rt ?_
 refine vfin.eq (r':=(T.tup [(T.agg [(tS (YN a.Grid)),(tN 0),(tN 0),(T.sl true 1 []),(tI tk),(tI tk)]),(tB true)])) ?_ (vfin.r (VRes.celln (ws:= [(tS (YN a.Grid)),(tN 0),(tN 0),T.nils,(tI tk),(tI tk)]) rfl rfl Qb6 JL (lb rfl) rfl (VRes.tmp (t:=(tB true)) rfl VRes.nil)) (Give.tup (GiveL.cons (Give.agg (GiveL.cons (Give.str _) (GiveL.cons (Give.int _ _) (GiveL.cons (Give.int _ _) (GiveL.cons (Give.nils 1) (GiveL.cons (Give.int _ _) (GiveL.cons (Give.int _ _) GiveL.nil (by decide)) (by decide)) (by decide)) (by decide)) (by decide)) (by decide))) (GiveL.cons (Give.bool _) GiveL.nil (by decide)) (by decide))))
 have hok:QK a tk:=(by simp only [not_or,Classical.not_not] at fhc0;exact fhc0)
 rw [QfI hok,decide_eq_true hok];rfl
end Go.Proofs.YthifchndolccgaaGreatDoor.AE
namespace Go.Proofs.YthifchndolccgaaGreatDoor.AE
open Go Go.RowKit
set_option linter.unusedVariables false
set_option linter.unusedSimpArgs false
set_option maxRecDepth 20000
set_option maxHeartbeats 2000000
theorem Jw (n:Nat) (a0:D.Puzzle) (a1:Int) (g0:QeH a0) (g1:(Lit.int .i64 a1).wf=true):Pure (Qr Tryz.prog (n+44)) 3 [(T.agg (Qs false a0)),(tI a1)] (tB true):=by
 refine Pure.intro (rs:= [ResultVar.tmp 4]) Tryz.func3 rfl rfl rfl (E0:= [(0,(T.agg (Qs false a0))),(1,(tI a1))]) rfl ?_
 obtain ⟨hlim,hmx,hmax⟩:=QJ
 have hl0_0:=Zi (z:=QL) a0.Clues
 have hl0_1:=Zi (z:=zI) a0.Seals
 have hm0:=Qgp 1 a0.Clues
 have hd0:zL QL a0.Clues+zL zI a0.Seals≤QS a0:=by simp only [QS];omega
 have hx:=Qkm a0 a1
 have hx2:=Qik a0 a1
 refine sr (kO (B.box (ts:=(Qs false a0)) (tv (T.agg (Qs false a0)) rfl) nofun rfl) (fO (OF.assign (VEv.bool false)) (nt (sr (fO (OF.assign (VEv.int .i64 1048576)) (nt (sr (lO (OL.loadOn (us:=(Qs false a0)) (tv (T.op 0 0) rfl) rfl Qii Qif (lb rfl) rfl) (mO (tN 1048576) rfl (cO (cS (vc (tv (T.agg (Qs false a0)) rfl) (vc (tv (tN 1048576) rfl) vn)) (LendL.cons (lg Yx) (lp rfl ln)) (QcH (n+38) a0 1048576 (by first | exact Qw _ _ | (simp only [Qc];omega) | (simp only [Qc,Qk];omega) | (simp only [Qc,Qk];done) | exact QN _ _ _ _ | (simp only [Qk];omega) | assumption | omega | (simp only [List.length_map];omega) | (simp only [List.length_map,List.length_append,List.length_cons,List.length_nil,List.length_replicate,List.length_set,List.length_drop,List.length_take,Yd] at *;omega)) (by first | exact Qw _ _ | (simp only [Qc];omega) | (simp only [Qc,Qk];omega) | (simp only [Qc,Qk];done) | exact QN _ _ _ _ | (simp only [Qk];omega) | assumption | omega | (simp only [List.length_map];omega) | (simp only [List.length_map,List.length_append,List.length_cons,List.length_nil,List.length_replicate,List.length_set,List.length_drop,List.length_take,Yd] at *;omega)) (by first | exact Qw _ _ | (simp only [Qc];omega) | (simp only [Qc,Qk];omega) | (simp only [Qc,Qk];done) | exact QN _ _ _ _ | (simp only [Qk];omega) | assumption | omega | (simp only [List.length_map];omega) | (simp only [List.length_map,List.length_append,List.length_cons,List.length_nil,List.length_replicate,List.length_set,List.length_drop,List.length_take,Yd] at *;omega))) rfl rfl) (aO (tI (ZF (QS a0) 1048576)) rfl ?_)))))))))))
 refine nt (sq (sr (mO (tI (ZF (QS a0) 1048576)) rfl (fO (xls (tv (tI (ZF (QS a0) 1048576)) rfl) (VEv.int .i64 0)) (nt ?_)))))
 refine cd (ZF (QS a0) 1048576<0) rfl (fun fhc0=> ?_) fun fhc0=> ?_
 ·refine sr ?_
  refine fO (OF.assign (VEv.bool true)) (nt (rt (tr ?_)))
  exact vb rfl rfl
 first | (have hz0:=YG fhc0) | skip
 refine sk (tn (sr (lO (OL.loadOn (us:=(Qs false a0)) (tv (T.op 0 0) rfl) rfl Qii Qif (lb rfl) rfl) (cO (OC.callF (r':=(T.agg [(tI a0.Grid.Rows),(tI a0.Grid.Cols),(tS a0.Grid.Cells),(T.os 2 1 0 ((a0.Clues.map (Qg true)).length)),(T.os 1 2 0 ((a0.Seals.map (Qd true)).length)),(tI a0.Salt)])) (objs:= [(Obj.rows 2 (a0.Clues.map (Qg true))),(Obj.rows 1 (a0.Seals.map (Qd true)))]) rfl (vc (tv (T.agg (Qs false a0)) rfl) vn) (LendL.cons (lg Yx) ln) (Yb (n+38) a0 (by first | exact Qw _ _ | (simp only [Qc];omega) | (simp only [Qc,Qk];omega) | (simp only [Qc,Qk];done) | exact QN _ _ _ _ | (simp only [Qk];omega) | assumption | omega | (simp only [List.length_map];omega) | (simp only [List.length_map,List.length_append,List.length_cons,List.length_nil,List.length_replicate,List.length_set,List.length_drop,List.length_take,Yd] at *;omega))) rfl) (mO (tI a1) rfl (cO (OC.callF (us:= [(T.agg (Qs false a0)),(tI a1)]) (r':=(T.tup [(T.agg [(tS ((Qf a0 a1).Fill)),(tI ((Qf a0 a1).Checks)),(tI ((Qf a0 a1).Spent)),(T.os 1 3 0 ((((Qf a0 a1).Asked).map (Qd true)).length)),(tI ((Qf a0 a1).Start)),(tI ((Qf a0 a1).Now))]),(tB (decide (QK a0 a1)))])) (objs:= [(Obj.rows 1 (((Qf a0 a1).Asked).map (Qd true)))]) rfl (vc (tv (T.agg [(tI a0.Grid.Rows),(tI a0.Grid.Cols),(tS a0.Grid.Cells),(T.os 2 1 0 ((a0.Clues.map (Qg true)).length)),(T.os 1 2 0 ((a0.Seals.map (Qd true)).length)),(tI a0.Salt)]) rfl) (vc (tv (tI a1) rfl) vn)) (LendL.cons (Lend.agg (LendL.cons (Lend.pl rfl) (LendL.cons (Lend.pl rfl) (LendL.cons (Lend.pl rfl) (LendL.cons (Lend.os rfl rfl (okeClue.fzMap _ _)) (LendL.cons (Lend.os rfl rfl (okInt.fzMap _ _)) (LendL.cons (Lend.pl rfl) ln))))))) (lp rfl ln)) (Qbs (n+32) a0 a1 (by first | exact Qw _ _ | (simp only [Qc];omega) | (simp only [Qc,Qk];omega) | (simp only [Qc,Qk];done) | exact QN _ _ _ _ | (simp only [Qk];omega) | assumption | omega | (simp only [List.length_map];omega) | (simp only [List.length_map,List.length_append,List.length_cons,List.length_nil,List.length_replicate,List.length_set,List.length_drop,List.length_take,Yd] at *;omega))) rfl) (mO (T.tup [(T.agg [(tS ((Qf a0 a1).Fill)),(tI ((Qf a0 a1).Checks)),(tI ((Qf a0 a1).Spent)),(T.os 1 3 0 ((((Qf a0 a1).Asked).map (Qd true)).length)),(tI ((Qf a0 a1).Start)),(tI ((Qf a0 a1).Now))]),(tB (decide (QK a0 a1)))]) rfl (fO (OF.extract (t:=(T.agg [(tS ((Qf a0 a1).Fill)),(tI ((Qf a0 a1).Checks)),(tI ((Qf a0 a1).Spent)),(T.os 1 3 0 ((((Qf a0 a1).Asked).map (Qd true)).length)),(tI ((Qf a0 a1).Start)),(tI ((Qf a0 a1).Now))])) (tv (T.tup [(T.agg [(tS ((Qf a0 a1).Fill)),(tI ((Qf a0 a1).Checks)),(tI ((Qf a0 a1).Spent)),(T.os 1 3 0 ((((Qf a0 a1).Asked).map (Qd true)).length)),(tI ((Qf a0 a1).Start)),(tI ((Qf a0 a1).Now))]),(tB (decide (QK a0 a1)))]) rfl) rfl) ?_))))))))
 refine fO (OF.extract (t:=(tB (decide (QK a0 a1)))) (tv (T.tup [(T.agg [(tS ((Qf a0 a1).Fill)),(tI ((Qf a0 a1).Checks)),(tI ((Qf a0 a1).Spent)),(T.os 1 3 0 ((((Qf a0 a1).Asked).map (Qd true)).length)),(tI ((Qf a0 a1).Start)),(tI ((Qf a0 a1).Now))]),(tB (decide (QK a0 a1)))]) rfl) rfl) (kO (B.alloc (t:=(T.agg [(tS ByteArray.empty),(tN 0),(tN 0),T.nils,(tN 0),(tN 0)])) (ts:= [(tS ByteArray.empty),(tN 0),(tN 0),T.nils,(tN 0),(tN 0)]) QeG QiC nofun (fun _=> .agg _ _ rfl (YD (RL.cons (.str _) (RL.cons (.int _ _) (RL.cons (.int _ _) (RL.cons (.nils) (RL.cons (.int _ _) (RL.cons (.int _ _) (RL.nil _))))))))) rfl) (cO (B.storeW (us:= [(tS ((Qf a0 a1).Fill)),(tI ((Qf a0 a1).Checks)),(tI ((Qf a0 a1).Spent)),(T.os 1 3 0 ((((Qf a0 a1).Asked).map (Qd true)).length)),(tI ((Qf a0 a1).Start)),(tI ((Qf a0 a1).Now))]) (tv (T.op 4 0) rfl) (tv (T.agg [(tS ((Qf a0 a1).Fill)),(tI ((Qf a0 a1).Checks)),(tI ((Qf a0 a1).Spent)),(T.os 1 3 0 ((((Qf a0 a1).Asked).map (Qd true)).length)),(tI ((Qf a0 a1).Start)),(tI ((Qf a0 a1).Now))]) rfl) nofun rfl rfl rfl Qgn JL (bc rfl (bc rfl (bc rfl (bc rfl (bc rfl (bc rfl bn))))))) (aO (tB (decide (QK a0 a1))) rfl (nt (sr (lO (OL.loadOn (us:=(Qs false a0)) (tv (T.op 0 0) rfl) rfl Qii Qif (lb rfl) rfl) (cO (OC.callF (r':=(T.agg [(tI a0.Grid.Rows),(tI a0.Grid.Cols),(tS a0.Grid.Cells),(T.os 2 5 0 ((a0.Clues.map (Qg true)).length)),(T.os 1 6 0 ((a0.Seals.map (Qd true)).length)),(tI a0.Salt)])) (objs:= [(Obj.rows 2 (a0.Clues.map (Qg true))),(Obj.rows 1 (a0.Seals.map (Qd true)))]) rfl (vc (tv (T.agg (Qs false a0)) rfl) vn) (LendL.cons (lg Yx) ln) (Yb (n+38) a0 (by first | exact Qw _ _ | (simp only [Qc];omega) | (simp only [Qc,Qk];omega) | (simp only [Qc,Qk];done) | exact QN _ _ _ _ | (simp only [Qk];omega) | assumption | omega | (simp only [List.length_map];omega) | (simp only [List.length_map,List.length_append,List.length_cons,List.length_nil,List.length_replicate,List.length_set,List.length_drop,List.length_take,Yd] at *;omega))) rfl) (kO (B.alloc (t:=(T.agg [(tN 0),(tN 0),(tS ByteArray.empty),T.nils,T.nils,(tN 0)])) (ts:= [(tN 0),(tN 0),(tS ByteArray.empty),T.nils,T.nils,(tN 0)]) Qkn QkE nofun (fun _=> .agg _ _ rfl (YD (RL.cons (.int _ _) (RL.cons (.int _ _) (RL.cons (.str _) (RL.cons (.nils) (RL.cons (.nils) (RL.cons (.int _ _) (RL.nil _))))))))) rfl) (cO (B.storeW (us:= [(tI a0.Grid.Rows),(tI a0.Grid.Cols),(tS a0.Grid.Cells),(T.os 2 5 0 ((a0.Clues.map (Qg true)).length)),(T.os 1 6 0 ((a0.Seals.map (Qd true)).length)),(tI a0.Salt)]) (tv (T.op 7 0) rfl) (tv (T.agg [(tI a0.Grid.Rows),(tI a0.Grid.Cols),(tS a0.Grid.Cells),(T.os 2 5 0 ((a0.Clues.map (Qg true)).length)),(T.os 1 6 0 ((a0.Seals.map (Qd true)).length)),(tI a0.Salt)]) rfl) nofun rfl rfl rfl Qlw QeL (bc rfl (bc rfl (bc rfl (bc rfl (bc rfl (bc rfl bn))))))) ?_)))))))))
 refine nt (sr (lO (OL.loadOn (us:= [(tI a0.Grid.Rows),(tI a0.Grid.Cols),(tS a0.Grid.Cells),(T.os 2 5 0 ((a0.Clues.map (Qg true)).length)),(T.os 1 6 0 ((a0.Seals.map (Qd true)).length)),(tI a0.Salt)]) (tv (T.op 7 0) rfl) rfl Qga QeL (lb rfl) rfl) (mO (tI a1) rfl (cO (OC.callF (us:= [(T.agg (Qs false a0)),(tI a1)]) (r':=(T.tup [(T.agg [(tS ((Qf a0 a1).Fill)),(tI ((Qf a0 a1).Checks)),(tI ((Qf a0 a1).Spent)),(T.os 1 8 0 ((((Qf a0 a1).Asked).map (Qd true)).length)),(tI ((Qf a0 a1).Start)),(tI ((Qf a0 a1).Now))]),(tB (decide (QK a0 a1)))])) (objs:= [(Obj.rows 1 (((Qf a0 a1).Asked).map (Qd true)))]) rfl (vc (tv (T.agg [(tI a0.Grid.Rows),(tI a0.Grid.Cols),(tS a0.Grid.Cells),(T.os 2 5 0 ((a0.Clues.map (Qg true)).length)),(T.os 1 6 0 ((a0.Seals.map (Qd true)).length)),(tI a0.Salt)]) rfl) (vc (tv (tI a1) rfl) vn)) (LendL.cons (Lend.agg (LendL.cons (Lend.pl rfl) (LendL.cons (Lend.pl rfl) (LendL.cons (Lend.pl rfl) (LendL.cons (Lend.os rfl rfl (okeClue.fzMap _ _)) (LendL.cons (Lend.os rfl rfl (okInt.fzMap _ _)) (LendL.cons (Lend.pl rfl) ln))))))) (lp rfl ln)) (Jl (n+0) a0 a1 (by first | exact Qw _ _ | (simp only [Qc];omega) | (simp only [Qc,Qk];omega) | (simp only [Qc,Qk];done) | exact QN _ _ _ _ | (simp only [Qk];omega) | assumption | omega | (simp only [List.length_map];omega) | (simp only [List.length_map,List.length_append,List.length_cons,List.length_nil,List.length_replicate,List.length_set,List.length_drop,List.length_take,Yd] at *;omega))) rfl) (mO (T.tup [(T.agg [(tS ((Qf a0 a1).Fill)),(tI ((Qf a0 a1).Checks)),(tI ((Qf a0 a1).Spent)),(T.os 1 8 0 ((((Qf a0 a1).Asked).map (Qd true)).length)),(tI ((Qf a0 a1).Start)),(tI ((Qf a0 a1).Now))]),(tB (decide (QK a0 a1)))]) rfl (fO (OF.extract (t:=(T.agg [(tS ((Qf a0 a1).Fill)),(tI ((Qf a0 a1).Checks)),(tI ((Qf a0 a1).Spent)),(T.os 1 8 0 ((((Qf a0 a1).Asked).map (Qd true)).length)),(tI ((Qf a0 a1).Start)),(tI ((Qf a0 a1).Now))])) (tv (T.tup [(T.agg [(tS ((Qf a0 a1).Fill)),(tI ((Qf a0 a1).Checks)),(tI ((Qf a0 a1).Spent)),(T.os 1 8 0 ((((Qf a0 a1).Asked).map (Qd true)).length)),(tI ((Qf a0 a1).Start)),(tI ((Qf a0 a1).Now))]),(tB (decide (QK a0 a1)))]) rfl) rfl) (fO (OF.extract (t:=(tB (decide (QK a0 a1)))) (tv (T.tup [(T.agg [(tS ((Qf a0 a1).Fill)),(tI ((Qf a0 a1).Checks)),(tI ((Qf a0 a1).Spent)),(T.os 1 8 0 ((((Qf a0 a1).Asked).map (Qd true)).length)),(tI ((Qf a0 a1).Start)),(tI ((Qf a0 a1).Now))]),(tB (decide (QK a0 a1)))]) rfl) rfl) (kO (B.alloc (t:=(T.agg [(tS ByteArray.empty),(tN 0),(tN 0),T.nils,(tN 0),(tN 0)])) (ts:= [(tS ByteArray.empty),(tN 0),(tN 0),T.nils,(tN 0),(tN 0)]) QeG QiC nofun (fun _=> .agg _ _ rfl (YD (RL.cons (.str _) (RL.cons (.int _ _) (RL.cons (.int _ _) (RL.cons (.nils) (RL.cons (.int _ _) (RL.cons (.int _ _) (RL.nil _))))))))) rfl) (cO (B.storeW (us:= [(tS ((Qf a0 a1).Fill)),(tI ((Qf a0 a1).Checks)),(tI ((Qf a0 a1).Spent)),(T.os 1 8 0 ((((Qf a0 a1).Asked).map (Qd true)).length)),(tI ((Qf a0 a1).Start)),(tI ((Qf a0 a1).Now))]) (tv (T.op 9 0) rfl) (tv (T.agg [(tS ((Qf a0 a1).Fill)),(tI ((Qf a0 a1).Checks)),(tI ((Qf a0 a1).Spent)),(T.os 1 8 0 ((((Qf a0 a1).Asked).map (Qd true)).length)),(tI ((Qf a0 a1).Start)),(tI ((Qf a0 a1).Now))]) rfl) nofun rfl rfl rfl Qgn JL (bc rfl (bc rfl (bc rfl (bc rfl (bc rfl (bc rfl bn))))))) ?_)))))))))
 refine aO (tB (decide (QK a0 a1))) rfl (nt (sq (sr (lO (OL.loadOn (us:= [(tS ((Qf a0 a1).Fill)),(tI ((Qf a0 a1).Checks)),(tI ((Qf a0 a1).Spent)),(T.os 1 8 0 ((((Qf a0 a1).Asked).map (Qd true)).length)),(tI ((Qf a0 a1).Start)),(tI ((Qf a0 a1).Now))]) (tv (T.op 9 0) rfl) rfl Qb6 JL (lb rfl) rfl) (lO (OL.loadOn (us:= [(tS ((Qf a0 a1).Fill)),(tI ((Qf a0 a1).Checks)),(tI ((Qf a0 a1).Spent)),(T.os 1 3 0 ((((Qf a0 a1).Asked).map (Qd true)).length)),(tI ((Qf a0 a1).Start)),(tI ((Qf a0 a1).Now))]) (tv (T.op 4 0) rfl) rfl Qb6 JL (lb rfl) rfl) (cO (cS (us:= [(T.agg (Q4 false (Qf a0 a1))),(T.agg (Q4 false (Qf a0 a1)))]) (vc (tv (T.agg [(tS ((Qf a0 a1).Fill)),(tI ((Qf a0 a1).Checks)),(tI ((Qf a0 a1).Spent)),(T.os 1 8 0 ((((Qf a0 a1).Asked).map (Qd true)).length)),(tI ((Qf a0 a1).Start)),(tI ((Qf a0 a1).Now))]) rfl) (vc (tv (T.agg [(tS ((Qf a0 a1).Fill)),(tI ((Qf a0 a1).Checks)),(tI ((Qf a0 a1).Spent)),(T.os 1 3 0 ((((Qf a0 a1).Asked).map (Qd true)).length)),(tI ((Qf a0 a1).Start)),(tI ((Qf a0 a1).Now))]) rfl) vn)) (LendL.cons (Lend.agg (LendL.cons (Lend.pl rfl) (LendL.cons (Lend.pl rfl) (LendL.cons (Lend.pl rfl) (LendL.cons (Lend.os rfl rfl (okInt.fzMap _ _)) (LendL.cons (Lend.pl rfl) (LendL.cons (Lend.pl rfl) ln))))))) (LendL.cons (Lend.agg (LendL.cons (Lend.pl rfl) (LendL.cons (Lend.pl rfl) (LendL.cons (Lend.pl rfl) (LendL.cons (Lend.os rfl rfl (okInt.fzMap _ _)) (LendL.cons (Lend.pl rfl) (LendL.cons (Lend.pl rfl) ln))))))) ln)) (YF (n+41) (Qf a0 a1) (Qf a0 a1) (by first | exact Qw _ _ | (simp only [Qc];omega) | (simp only [Qc,Qk];omega) | (simp only [Qc,Qk];done) | exact QN _ _ _ _ | (simp only [Qk];omega) | assumption | omega | (simp only [List.length_map];omega) | (simp only [List.length_map,List.length_append,List.length_cons,List.length_nil,List.length_replicate,List.length_set,List.length_drop,List.length_take,Yd] at *;omega)) (by first | exact Qw _ _ | (simp only [Qc];omega) | (simp only [Qc,Qk];omega) | (simp only [Qc,Qk];done) | exact QN _ _ _ _ | (simp only [Qk];omega) | assumption | omega | (simp only [List.length_map];omega) | (simp only [List.length_map,List.length_append,List.length_cons,List.length_nil,List.length_replicate,List.length_set,List.length_drop,List.length_take,Yd] at *;omega))) rfl rfl) (fO (Q1 (tv (tB (decide ((Qf a0 a1)=(Qf a0 a1)))) rfl)) (mO (tB (!(decide ((Qf a0 a1)=(Qf a0 a1))))) rfl ?_))))))))
 refine gn ((Qf a0 a1)=(Qf a0 a1)) (fun fhg40_1=> ?_) fun fhg40_1=> ?_
 ·refine QC 3 4 false 40 (ny fhg40_1) rfl rfl rfl ?_
  refine fO (OF.pickT (VEv.tmpB rfl (ny fhg40_1)) (VEv.bool true)) (nt (ct rfl (sr (fO (OF.assign (VEv.bool false)) (nt (rt (tr (vb (b':=false) rfl ?_))))))))
  first | rfl | (exfalso;simp only [Qc,not_true_eq_false] at *;done) | (exfalso;simp only [Qc] at* <;>omega) | (exfalso;simp only [Qc,Qk] at* <;>omega) | (exfalso;simp only [Qc,Qk,not_true_eq_false] at *;done) | (exfalso;omega) | (exfalso;(simp only [Qk] at* <;>omega)) | (exfalso;simp only [Qk,not_true_eq_false] at *;done) | (exfalso;simp_all;done)
 refine gF (nz fhg40_1) rfl rfl (OF.move (tv (tB (decide (QK a0 a1))) rfl)) (gF (nz fhg40_1) rfl rfl (OF.move (tv (tB (decide (QK a0 a1))) rfl)) (gF (nz fhg40_1) rfl rfl (B.bneq U4 (c:=(!((decide (QK a0 a1)) == (decide (QK a0 a1))))) (tv (tB (decide (QK a0 a1))) rfl) (tv (tB (decide (QK a0 a1))) rfl) rfl) (fO (OF.pickF (VEv.tmpB rfl (nz fhg40_1)) (tv (tB (!((decide (QK a0 a1)) == (decide (QK a0 a1))))) rfl)) (nt ?_))))
 refine VRun.cond (tv (tB (!((decide (QK a0 a1)) == (decide (QK a0 a1))))) rfl) (fun hc1=> ?_) (fun hc1=> ?_)
 ·have fhc1:(!((decide (QK a0 a1)) == (decide (QK a0 a1))))=true:=hc1
  refine sr (fO (OF.assign (VEv.bool false)) (nt (rt (tr (vb (b':=false) rfl ?_)))))
  first | rfl | (exfalso;simp only [Qc,not_true_eq_false] at *;done) | (exfalso;simp only [Qc] at* <;>omega) | (exfalso;simp only [Qc,Qk] at* <;>omega) | (exfalso;simp only [Qc,Qk,not_true_eq_false] at *;done) | (exfalso;omega) | (exfalso;(simp only [Qk] at* <;>omega)) | (exfalso;simp only [Qk,not_true_eq_false] at *;done) | (exfalso;simp_all;done)
 have fhc1:(!((decide (QK a0 a1)) == (decide (QK a0 a1))))=false:=hc1
 first | (have hz1:=YG fhc1) | skip
 refine sk (tn (sq (sq (VRun.draw (B:= [[],[],[1],[1,2,0],[0,2,1,3]]) (by kernel_rfl) (by kernel_rfl) (lD (OL.loadOn (us:= [(tI a0.Grid.Rows),(tI a0.Grid.Cols),(tS a0.Grid.Cells),(T.os 2 5 0 ((a0.Clues.map (Qg true)).length)),(T.os 1 6 0 ((a0.Seals.map (Qd true)).length)),(tI a0.Salt)]) (tv (T.op 7 0) rfl) rfl Qga QeL (lb rfl) rfl) rfl rfl (lD (OL.loadOn (us:=(Qs false a0)) (tv (T.op 0 0) rfl) rfl Qii Qif (lb rfl) rfl) rfl rfl (VRunD.quiet (bi:= [1]) rfl VWant.always rfl rfl rfl bn (OC.callF (r':=(T.agg [(tI a0.Grid.Rows),(tI a0.Grid.Cols),(tS a0.Grid.Cells),(T.os 2 10 0 ((a0.Clues.map (Qg true)).length)),(T.os 1 11 0 ((a0.Seals.map (Qd true)).length)),(tI a0.Salt)])) (objs:= [(Obj.rows 2 (a0.Clues.map (Qg true))),(Obj.rows 1 (a0.Seals.map (Qd true)))]) rfl (vc (tv (T.agg (Qs false a0)) rfl) vn) (LendL.cons (lg Yx) ln) (Yb (n+38) a0 (by first | exact Qw _ _ | (simp only [Qc];omega) | (simp only [Qc,Qk];omega) | (simp only [Qc,Qk];done) | exact QN _ _ _ _ | (simp only [Qk];omega) | assumption | omega | (simp only [List.length_map];omega) | (simp only [List.length_map,List.length_append,List.length_cons,List.length_nil,List.length_replicate,List.length_set,List.length_drop,List.length_take,Yd] at *;omega))) rfl) (VRunD.quiet (bi:= [1,2,0]) rfl VWant.always rfl rfl rfl bn (cS (us:= [(T.agg (Qs false a0)),(T.agg (Qs false a0))]) (vc (tv (T.agg [(tI a0.Grid.Rows),(tI a0.Grid.Cols),(tS a0.Grid.Cells),(T.os 2 5 0 ((a0.Clues.map (Qg true)).length)),(T.os 1 6 0 ((a0.Seals.map (Qd true)).length)),(tI a0.Salt)]) rfl) (vc (tv (T.agg [(tI a0.Grid.Rows),(tI a0.Grid.Cols),(tS a0.Grid.Cells),(T.os 2 10 0 ((a0.Clues.map (Qg true)).length)),(T.os 1 11 0 ((a0.Seals.map (Qd true)).length)),(tI a0.Salt)]) rfl) vn)) (LendL.cons (Lend.agg (LendL.cons (Lend.pl rfl) (LendL.cons (Lend.pl rfl) (LendL.cons (Lend.pl rfl) (LendL.cons (Lend.os rfl rfl (okeClue.fzMap _ _)) (LendL.cons (Lend.os rfl rfl (okInt.fzMap _ _)) (LendL.cons (Lend.pl rfl) ln))))))) (LendL.cons (Lend.agg (LendL.cons (Lend.pl rfl) (LendL.cons (Lend.pl rfl) (LendL.cons (Lend.pl rfl) (LendL.cons (Lend.os rfl rfl (okeClue.fzMap _ _)) (LendL.cons (Lend.os rfl rfl (okInt.fzMap _ _)) (LendL.cons (Lend.pl rfl) ln))))))) ln)) (QcR (n+38) a0 a0 (by first | exact Qw _ _ | (simp only [Qc];omega) | (simp only [Qc,Qk];omega) | (simp only [Qc,Qk];done) | exact QN _ _ _ _ | (simp only [Qk];omega) | assumption | omega | (simp only [List.length_map];omega) | (simp only [List.length_map,List.length_append,List.length_cons,List.length_nil,List.length_replicate,List.length_set,List.length_drop,List.length_take,Yd] at *;omega)) (by first | exact Qw _ _ | (simp only [Qc];omega) | (simp only [Qc,Qk];omega) | (simp only [Qc,Qk];done) | exact QN _ _ _ _ | (simp only [Qk];omega) | assumption | omega | (simp only [List.length_map];omega) | (simp only [List.length_map,List.length_append,List.length_cons,List.length_nil,List.length_replicate,List.length_set,List.length_drop,List.length_take,Yd] at *;omega))) rfl rfl) ?_))))))))
 refine fD (Q1 (tv (tB (decide (a0=a0))) rfl)) rfl rfl (VRunD.nil (tn ?_))
 refine cn (a0=a0) rfl (fun fhc2=> ?_) fun fhc2=> ?_
 ·refine sr ?_
  refine fO (OF.assign (VEv.bool false)) (nt (rt (tr (vb (b':=false) rfl ?_))))
  first | rfl | (exfalso;simp only [Qc,not_true_eq_false] at *;done) | (exfalso;simp only [Qc] at* <;>omega) | (exfalso;simp only [Qc,Qk] at* <;>omega) | (exfalso;simp only [Qc,Qk,not_true_eq_false] at *;done) | (exfalso;omega) | (exfalso;(simp only [Qk] at* <;>omega)) | (exfalso;simp only [Qk,not_true_eq_false] at *;done) | (exfalso;simp_all;done)
 first | (have hz2:=YG fhc2) | skip
 refine sk (tn (sr (fO (OF.assign (VEv.int .i64 1)) (nt (sr (lO (OL.loadOn (us:= [(tI a0.Grid.Rows),(tI a0.Grid.Cols),(tS a0.Grid.Cells),(T.os 2 5 0 ((a0.Clues.map (Qg true)).length)),(T.os 1 6 0 ((a0.Seals.map (Qd true)).length)),(tI a0.Salt)]) (tv (T.op 7 0) rfl) rfl Qga QeL (lb rfl) rfl) (mO (tN 1) rfl (cO (OC.callL (ts:= [(T.agg [(tI a0.Grid.Rows),(tI a0.Grid.Cols),(tS a0.Grid.Cells),(T.os 2 0 0 ((a0.Clues.map (Qg true)).length)),(T.os 1 1 0 ((a0.Seals.map (Qd true)).length)),(tI a0.Salt)]),(tN 1)]) [5,6] (r:=(tN (QM 1 a0.Clues+1*a0.Seals.length))) (L:= [(2,(a0.Clues.map (Qg true))),(1,(a0.Seals.map (Qd true)))]) [(2,((Z4 1 a0.Clues).map (Qg true))),(1,((YT Zb 1 (QM 1 a0.Clues) a0.Seals.length).map (Qd true)))] [(Obj.rows 2 (a0.Clues.map (Qg true))),(Obj.rows 1 (a0.Seals.map (Qd true)))] rfl (vc (tv (T.agg [(tI a0.Grid.Rows),(tI a0.Grid.Cols),(tS a0.Grid.Cells),(T.os 2 5 0 ((a0.Clues.map (Qg true)).length)),(T.os 1 6 0 ((a0.Seals.map (Qd true)).length)),(tI a0.Salt)]) rfl) (vc (tv (tN 1) rfl) vn)) (by decide) rfl (And.intro (And.intro rfl rfl) (And.intro (And.intro rfl rfl) (trivial))) (bc (okeClue.cleanMap _) (bc (okInt.cleanMap _) bn)) (bc (okeClue.cleanMap _) (bc (okInt.cleanMap _) bn)) rfl rfl (.int _ _) (QbF (n+39) a0 1 (by first | exact Qw _ _ | (simp only [Qc];omega) | (simp only [Qc,Qk];omega) | (simp only [Qc,Qk];done) | exact QN _ _ _ _ | (simp only [Qk];omega) | assumption | omega | (simp only [List.length_map];omega) | (simp only [List.length_map,List.length_append,List.length_cons,List.length_nil,List.length_replicate,List.length_set,List.length_drop,List.length_take,Yd] at *;omega)))) (aO (tN (QM 1 a0.Clues+1*a0.Seals.length)) rfl (nt (sq ?_)))))))))))
 refine sr (mO (tN (QM 1 a0.Clues+1*a0.Seals.length)) rfl (fO (B.lss (c:=(decide (QM 1 a0.Clues+1*a0.Seals.length<0))) (tv (tN (QM 1 a0.Clues+1*a0.Seals.length)) rfl) (VEv.int .i64 0) (by first | exact Qw _ _ | (simp only [Qc];omega) | (simp only [Qc,Qk];omega) | (simp only [Qc,Qk];done) | exact QN _ _ _ _ | (simp only [Qk];omega) | (exact Q8 (by omega)))) (mO (tB (decide (QM 1 a0.Clues+1*a0.Seals.length<0))) rfl ?_)))
 refine gw (QM 1 a0.Clues+1*a0.Seals.length<0) (fun fhg55_2=> ?_) fun fhg55_2=> ?_
 ·refine QC 4 2 false 55 (dy fhg55_2) rfl rfl rfl ?_
  refine fO (OF.pickT (VEv.tmpB rfl (dy fhg55_2)) (VEv.bool true)) (mO (tB true) rfl (QC 3 8 false 61 (b:=true) rfl rfl rfl rfl (fO (OF.pickT (tv (tB true) rfl) (VEv.bool true)) (nt (ct rfl (sr (fO (OF.assign (VEv.bool false)) (nt (rt (tr (vb (b':=false) rfl ?_)))))))))))
  first | rfl | (exfalso;simp only [Qc,not_true_eq_false] at *;done) | (exfalso;simp only [Qc] at* <;>omega) | (exfalso;simp only [Qc,Qk] at* <;>omega) | (exfalso;simp only [Qc,Qk,not_true_eq_false] at *;done) | (exfalso;omega) | (exfalso;(simp only [Qk] at* <;>omega)) | (exfalso;simp only [Qk,not_true_eq_false] at *;done) | (exfalso;simp_all;done)
 refine gL (dz fhg55_2) rfl rfl (OL.loadOn (us:= [(tS ((Qf a0 a1).Fill)),(tI ((Qf a0 a1).Checks)),(tI ((Qf a0 a1).Spent)),(T.os 1 8 0 ((((Qf a0 a1).Asked).map (Qd true)).length)),(tI ((Qf a0 a1).Start)),(tI ((Qf a0 a1).Now))]) (tv (T.op 9 0) rfl) rfl Qb6 JL (lb rfl) rfl) (gL (dz fhg55_2) rfl rfl (OL.loadOn (us:= [(tS ((Qf a0 a1).Fill)),(tI ((Qf a0 a1).Checks)),(tI ((Qf a0 a1).Spent)),(T.os 1 3 0 ((((Qf a0 a1).Asked).map (Qd true)).length)),(tI ((Qf a0 a1).Start)),(tI ((Qf a0 a1).Now))]) (tv (T.op 4 0) rfl) rfl Qb6 JL (lb rfl) rfl) (VRunO.chain (VWant.on rfl rfl (dz fhg55_2)) (cS (us:= [(T.agg (Q4 false (Qf a0 a1))),(T.agg (Q4 false (Qf a0 a1)))]) (vc (tv (T.agg [(tS ((Qf a0 a1).Fill)),(tI ((Qf a0 a1).Checks)),(tI ((Qf a0 a1).Spent)),(T.os 1 8 0 ((((Qf a0 a1).Asked).map (Qd true)).length)),(tI ((Qf a0 a1).Start)),(tI ((Qf a0 a1).Now))]) rfl) (vc (tv (T.agg [(tS ((Qf a0 a1).Fill)),(tI ((Qf a0 a1).Checks)),(tI ((Qf a0 a1).Spent)),(T.os 1 3 0 ((((Qf a0 a1).Asked).map (Qd true)).length)),(tI ((Qf a0 a1).Start)),(tI ((Qf a0 a1).Now))]) rfl) vn)) (LendL.cons (Lend.agg (LendL.cons (Lend.pl rfl) (LendL.cons (Lend.pl rfl) (LendL.cons (Lend.pl rfl) (LendL.cons (Lend.os rfl rfl (okInt.fzMap _ _)) (LendL.cons (Lend.pl rfl) (LendL.cons (Lend.pl rfl) ln))))))) (LendL.cons (Lend.agg (LendL.cons (Lend.pl rfl) (LendL.cons (Lend.pl rfl) (LendL.cons (Lend.pl rfl) (LendL.cons (Lend.os rfl rfl (okInt.fzMap _ _)) (LendL.cons (Lend.pl rfl) (LendL.cons (Lend.pl rfl) ln))))))) ln)) (YF (n+41) (Qf a0 a1) (Qf a0 a1) (by first | exact Qw _ _ | (simp only [Qc];omega) | (simp only [Qc,Qk];omega) | (simp only [Qc,Qk];done) | exact QN _ _ _ _ | (simp only [Qk];omega) | assumption | omega | (simp only [List.length_map];omega) | (simp only [List.length_map,List.length_append,List.length_cons,List.length_nil,List.length_replicate,List.length_set,List.length_drop,List.length_take,Yd] at *;omega)) (by first | exact Qw _ _ | (simp only [Qc];omega) | (simp only [Qc,Qk];omega) | (simp only [Qc,Qk];done) | exact QN _ _ _ _ | (simp only [Qk];omega) | assumption | omega | (simp only [List.length_map];omega) | (simp only [List.length_map,List.length_append,List.length_cons,List.length_nil,List.length_replicate,List.length_set,List.length_drop,List.length_take,Yd] at *;omega))) rfl rfl) (gF (dz fhg55_2) rfl rfl (Q1 (tv (tB (decide ((Qf a0 a1)=(Qf a0 a1)))) rfl)) (fO (OF.pickF (VEv.tmpB rfl (dz fhg55_2)) (tv (tB (!(decide ((Qf a0 a1)=(Qf a0 a1))))) rfl)) (mO (tB (!(decide ((Qf a0 a1)=(Qf a0 a1))))) rfl (gF (nz fhg40_1) rfl rfl (OF.move (tv (tB (decide (QK a0 a1))) rfl)) (gF (nz fhg40_1) rfl rfl (OF.move (tv (tB (decide (QK a0 a1))) rfl)) (gF (nz fhg40_1) rfl rfl (B.bneq U4 (c:=(!((decide (QK a0 a1)) == (decide (QK a0 a1))))) (tv (tB (decide (QK a0 a1))) rfl) (tv (tB (decide (QK a0 a1))) rfl) rfl) ?_))))))))
 refine fO (OF.pickF (VEv.tmpB rfl (nz fhg40_1)) (tv (tB (!((decide (QK a0 a1)) == (decide (QK a0 a1))))) rfl)) (nt (cg hc1 rfl (sk (tn (sr (fO (OF.assign (VEv.int .i64 1)) (nt (sr (lO (OL.loadOn (us:= [(tS ((Qf a0 a1).Fill)),(tI ((Qf a0 a1).Checks)),(tI ((Qf a0 a1).Spent)),(T.os 1 8 0 ((((Qf a0 a1).Asked).map (Qd true)).length)),(tI ((Qf a0 a1).Start)),(tI ((Qf a0 a1).Now))]) (tv (T.op 9 0) rfl) rfl Qb6 JL (lb rfl) rfl) (mO (tN 1) rfl (cO (OC.callL (ts:= [(T.agg [(tS ((Qf a0 a1).Fill)),(tI ((Qf a0 a1).Checks)),(tI ((Qf a0 a1).Spent)),(T.os 1 0 0 ((((Qf a0 a1).Asked).map (Qd true)).length)),(tI ((Qf a0 a1).Start)),(tI ((Qf a0 a1).Now))]),(tN 1)]) [8] (r:=(tN (1+1*((Qf a0 a1).Asked).length))) (L:= [(1,(((Qf a0 a1).Asked).map (Qd true)))]) [(1,((YT Zb 1 1 ((Qf a0 a1).Asked).length).map (Qd true)))] [(Obj.rows 1 (((Qf a0 a1).Asked).map (Qd true)))] rfl (vc (tv (T.agg [(tS ((Qf a0 a1).Fill)),(tI ((Qf a0 a1).Checks)),(tI ((Qf a0 a1).Spent)),(T.os 1 8 0 ((((Qf a0 a1).Asked).map (Qd true)).length)),(tI ((Qf a0 a1).Start)),(tI ((Qf a0 a1).Now))]) rfl) (vc (tv (tN 1) rfl) vn)) (by decide) rfl (And.intro (And.intro rfl rfl) (trivial)) (bc (okInt.cleanMap _) bn) (bc (okInt.cleanMap _) bn) rfl rfl (.int _ _) (Qbf (n+41) (Qf a0 a1) 1 (by first | exact Qw _ _ | (simp only [Qc];omega) | (simp only [Qc,Qk];omega) | (simp only [Qc,Qk];done) | exact QN _ _ _ _ | (simp only [Qk];omega) | assumption | omega | (simp only [List.length_map];omega) | (simp only [List.length_map,List.length_append,List.length_cons,List.length_nil,List.length_replicate,List.length_set,List.length_drop,List.length_take,Yd] at *;omega)))) ?_)))))))))))
 refine aO (tN (1+1*((Qf a0 a1).Asked).length)) rfl (nt (sr (fO (OF.assign (VEv.int .i64 1)) (nt (sr (lO (OL.loadOn (us:= [(tS ((Qf a0 a1).Fill)),(tI ((Qf a0 a1).Checks)),(tI ((Qf a0 a1).Spent)),(T.os 1 8 0 ((((Qf a0 a1).Asked).map (Qd true)).length)),(tI ((Qf a0 a1).Start)),(tI ((Qf a0 a1).Now))]) (tv (T.op 9 0) rfl) rfl Qb6 JL (lb rfl) rfl) (mO (tN 1) rfl (cO (cS (us:= [(T.agg [(tS ((Qf a0 a1).Fill)),(tI ((Qf a0 a1).Checks)),(tI ((Qf a0 a1).Spent)),(rd 1 Qd (YT Zb 1 1 ((Qf a0 a1).Asked).length)),(tI ((Qf a0 a1).Start)),(tI ((Qf a0 a1).Now))]),(tN 1)]) (vc (tv (T.agg [(tS ((Qf a0 a1).Fill)),(tI ((Qf a0 a1).Checks)),(tI ((Qf a0 a1).Spent)),(T.os 1 8 0 ((((Qf a0 a1).Asked).map (Qd true)).length)),(tI ((Qf a0 a1).Start)),(tI ((Qf a0 a1).Now))]) rfl) (vc (tv (tN 1) rfl) vn)) (LendL.cons (Lend.agg (LendL.cons (Lend.pl rfl) (LendL.cons (Lend.pl rfl) (LendL.cons (Lend.pl rfl) (LendL.cons (Lend.os rfl (by simp only [List.length_map,Qk,List.length_set,Qcy]) (okInt.fzMap _ _)) (LendL.cons (Lend.pl rfl) (LendL.cons (Lend.pl rfl) ln))))))) (lp rfl ln)) (Y4 (n+41) (D.Session.mk ((Qf a0 a1).Fill) ((Qf a0 a1).Checks) ((Qf a0 a1).Spent) (YT Zb 1 1 ((Qf a0 a1).Asked).length) ((Qf a0 a1).Start) ((Qf a0 a1).Now)) 1 (by first | exact Qw _ _ | (simp only [Qc];omega) | (simp only [Qc,Qk];omega) | (simp only [Qc,Qk];done) | exact QN _ _ _ _ | (simp only [Qk];omega) | assumption | omega | (simp only [List.length_map];omega) | (simp only [List.length_map,List.length_append,List.length_cons,List.length_nil,List.length_replicate,List.length_set,List.length_drop,List.length_take,Yd] at *;omega)) (by first | exact Qw _ _ | (simp only [Qc];omega) | (simp only [Qc,Qk];omega) | (simp only [Qc,Qk];done) | exact QN _ _ _ _ | (simp only [Qk];omega) | assumption | omega | (simp only [List.length_map];omega) | (simp only [List.length_map,List.length_append,List.length_cons,List.length_nil,List.length_replicate,List.length_set,List.length_drop,List.length_take,Yd] at *;omega))) rfl rfl) (aO (tN (1+1*(D.Session.mk ((Qf a0 a1).Fill) ((Qf a0 a1).Checks) ((Qf a0 a1).Spent) (YT Zb 1 1 ((Qf a0 a1).Asked).length) ((Qf a0 a1).Start) ((Qf a0 a1).Now)).Asked.length)) rfl (nt (sq ?_)))))))))))
 refine sr (mO (tN (1+1*(D.Session.mk ((Qf a0 a1).Fill) ((Qf a0 a1).Checks) ((Qf a0 a1).Spent) (YT Zb 1 1 ((Qf a0 a1).Asked).length) ((Qf a0 a1).Start) ((Qf a0 a1).Now)).Asked.length)) rfl (fO (B.lss (c:=(decide (1+1*(D.Session.mk ((Qf a0 a1).Fill) ((Qf a0 a1).Checks) ((Qf a0 a1).Spent) (YT Zb 1 1 ((Qf a0 a1).Asked).length) ((Qf a0 a1).Start) ((Qf a0 a1).Now)).Asked.length<0))) (tv (tN (1+1*(D.Session.mk ((Qf a0 a1).Fill) ((Qf a0 a1).Checks) ((Qf a0 a1).Spent) (YT Zb 1 1 ((Qf a0 a1).Asked).length) ((Qf a0 a1).Start) ((Qf a0 a1).Now)).Asked.length)) rfl) (VEv.int .i64 0) (by first | exact Qw _ _ | (simp only [Qc];omega) | (simp only [Qc,Qk];omega) | (simp only [Qc,Qk];done) | exact QN _ _ _ _ | (simp only [Qk];omega) | (exact Q8 (by omega)))) (nt ?_)))
 refine cd (1+1*(D.Session.mk ((Qf a0 a1).Fill) ((Qf a0 a1).Checks) ((Qf a0 a1).Spent) (YT Zb 1 1 ((Qf a0 a1).Asked).length) ((Qf a0 a1).Start) ((Qf a0 a1).Now)).Asked.length<0) rfl (fun fhc4=> ?_) fun fhc4=> ?_
 ·refine sr ?_
  refine fO (OF.assign (VEv.bool false)) (nt (rt (tr (vb (b':=false) rfl ?_))))
  first | rfl | (exfalso;simp only [Qc,not_true_eq_false] at *;done) | (exfalso;simp only [Qc] at* <;>omega) | (exfalso;simp only [Qc,Qk] at* <;>omega) | (exfalso;simp only [Qc,Qk,not_true_eq_false] at *;done) | (exfalso;omega) | (exfalso;(simp only [Qk] at* <;>omega)) | (exfalso;simp only [Qk,not_true_eq_false] at *;done) | (exfalso;simp_all;done)
 first | (have hz4:=YG fhc4) | skip
 refine sk (tn (sq (sr (mO (tN (1+1*(D.Session.mk ((Qf a0 a1).Fill) ((Qf a0 a1).Checks) ((Qf a0 a1).Spent) (YT Zb 1 1 ((Qf a0 a1).Asked).length) ((Qf a0 a1).Start) ((Qf a0 a1).Now)).Asked.length)) rfl (mO (tN (1+1*((Qf a0 a1).Asked).length)) rfl (fO (QhC (tv (tN (1+1*(D.Session.mk ((Qf a0 a1).Fill) ((Qf a0 a1).Checks) ((Qf a0 a1).Spent) (YT Zb 1 1 ((Qf a0 a1).Asked).length) ((Qf a0 a1).Start) ((Qf a0 a1).Now)).Asked.length)) rfl) (tv (tN (1+1*((Qf a0 a1).Asked).length)) rfl)) (nt ?_)))))))
 refine cn (1+1*(D.Session.mk ((Qf a0 a1).Fill) ((Qf a0 a1).Checks) ((Qf a0 a1).Spent) (YT Zb 1 1 ((Qf a0 a1).Asked).length) ((Qf a0 a1).Start) ((Qf a0 a1).Now)).Asked.length=1+1*((Qf a0 a1).Asked).length) rfl (fun fhc5=> ?_) fun fhc5=> ?_
 ·refine sr ?_
  refine fO (OF.assign (VEv.bool false)) (nt (rt (tr (vb (b':=false) rfl ?_))))
  first | rfl | (exfalso;simp only [Qc,not_true_eq_false] at *;done) | (exfalso;simp only [Qc] at* <;>omega) | (exfalso;simp only [Qc,Qk] at* <;>omega) | (exfalso;simp only [Qc,Qk,not_true_eq_false] at *;done) | (exfalso;omega) | (exfalso;(simp only [Qk] at* <;>omega)) | (exfalso;simp only [Qk,not_true_eq_false] at *;done) | (exfalso;simp_all;done)
 first | (have hz5:=YG fhc5) | skip
 refine sk (tn (sr (lO (OL.loadOn (us:=(Qs false a0)) (tv (T.op 0 0) rfl) rfl Qii Qif (lb rfl) rfl) (cO (OC.callF (r':=(T.agg [(tI a0.Grid.Rows),(tI a0.Grid.Cols),(tS a0.Grid.Cells),(T.os 2 12 0 ((a0.Clues.map (Qg true)).length)),(T.os 1 13 0 ((a0.Seals.map (Qd true)).length)),(tI a0.Salt)])) (objs:= [(Obj.rows 2 (a0.Clues.map (Qg true))),(Obj.rows 1 (a0.Seals.map (Qd true)))]) rfl (vc (tv (T.agg (Qs false a0)) rfl) vn) (LendL.cons (lg Yx) ln) (Yb (n+38) a0 (by first | exact Qw _ _ | (simp only [Qc];omega) | (simp only [Qc,Qk];omega) | (simp only [Qc,Qk];done) | exact QN _ _ _ _ | (simp only [Qk];omega) | assumption | omega | (simp only [List.length_map];omega) | (simp only [List.length_map,List.length_append,List.length_cons,List.length_nil,List.length_replicate,List.length_set,List.length_drop,List.length_take,Yd] at *;omega))) rfl) (mO (tI a1) rfl (cO (OC.callF (us:= [(T.agg (Qs false a0)),(tI a1)]) (r':=(T.tup [(T.agg [(tS ((Qf a0 a1).Fill)),(tI ((Qf a0 a1).Checks)),(tI ((Qf a0 a1).Spent)),(T.os 1 14 0 ((((Qf a0 a1).Asked).map (Qd true)).length)),(tI ((Qf a0 a1).Start)),(tI ((Qf a0 a1).Now))]),(tB (decide (QK a0 a1)))])) (objs:= [(Obj.rows 1 (((Qf a0 a1).Asked).map (Qd true)))]) rfl (vc (tv (T.agg [(tI a0.Grid.Rows),(tI a0.Grid.Cols),(tS a0.Grid.Cells),(T.os 2 12 0 ((a0.Clues.map (Qg true)).length)),(T.os 1 13 0 ((a0.Seals.map (Qd true)).length)),(tI a0.Salt)]) rfl) (vc (tv (tI a1) rfl) vn)) (LendL.cons (Lend.agg (LendL.cons (Lend.pl rfl) (LendL.cons (Lend.pl rfl) (LendL.cons (Lend.pl rfl) (LendL.cons (Lend.os rfl rfl (okeClue.fzMap _ _)) (LendL.cons (Lend.os rfl rfl (okInt.fzMap _ _)) (LendL.cons (Lend.pl rfl) ln))))))) (lp rfl ln)) (Jl (n+0) a0 a1 (by first | exact Qw _ _ | (simp only [Qc];omega) | (simp only [Qc,Qk];omega) | (simp only [Qc,Qk];done) | exact QN _ _ _ _ | (simp only [Qk];omega) | assumption | omega | (simp only [List.length_map];omega) | (simp only [List.length_map,List.length_append,List.length_cons,List.length_nil,List.length_replicate,List.length_set,List.length_drop,List.length_take,Yd] at *;omega))) rfl) (mO (T.tup [(T.agg [(tS ((Qf a0 a1).Fill)),(tI ((Qf a0 a1).Checks)),(tI ((Qf a0 a1).Spent)),(T.os 1 14 0 ((((Qf a0 a1).Asked).map (Qd true)).length)),(tI ((Qf a0 a1).Start)),(tI ((Qf a0 a1).Now))]),(tB (decide (QK a0 a1)))]) rfl (fO (OF.extract (t:=(T.agg [(tS ((Qf a0 a1).Fill)),(tI ((Qf a0 a1).Checks)),(tI ((Qf a0 a1).Spent)),(T.os 1 14 0 ((((Qf a0 a1).Asked).map (Qd true)).length)),(tI ((Qf a0 a1).Start)),(tI ((Qf a0 a1).Now))])) (tv (T.tup [(T.agg [(tS ((Qf a0 a1).Fill)),(tI ((Qf a0 a1).Checks)),(tI ((Qf a0 a1).Spent)),(T.os 1 14 0 ((((Qf a0 a1).Asked).map (Qd true)).length)),(tI ((Qf a0 a1).Start)),(tI ((Qf a0 a1).Now))]),(tB (decide (QK a0 a1)))]) rfl) rfl) ?_))))))))
 refine fO (OF.extract (t:=(tB (decide (QK a0 a1)))) (tv (T.tup [(T.agg [(tS ((Qf a0 a1).Fill)),(tI ((Qf a0 a1).Checks)),(tI ((Qf a0 a1).Spent)),(T.os 1 14 0 ((((Qf a0 a1).Asked).map (Qd true)).length)),(tI ((Qf a0 a1).Start)),(tI ((Qf a0 a1).Now))]),(tB (decide (QK a0 a1)))]) rfl) rfl) (kO (B.alloc (t:=(T.agg [(tS ByteArray.empty),(tN 0),(tN 0),T.nils,(tN 0),(tN 0)])) (ts:= [(tS ByteArray.empty),(tN 0),(tN 0),T.nils,(tN 0),(tN 0)]) QeG QiC nofun (fun _=> .agg _ _ rfl (YD (RL.cons (.str _) (RL.cons (.int _ _) (RL.cons (.int _ _) (RL.cons (.nils) (RL.cons (.int _ _) (RL.cons (.int _ _) (RL.nil _))))))))) rfl) (cO (B.storeW (us:= [(tS ((Qf a0 a1).Fill)),(tI ((Qf a0 a1).Checks)),(tI ((Qf a0 a1).Spent)),(T.os 1 14 0 ((((Qf a0 a1).Asked).map (Qd true)).length)),(tI ((Qf a0 a1).Start)),(tI ((Qf a0 a1).Now))]) (tv (T.op 15 0) rfl) (tv (T.agg [(tS ((Qf a0 a1).Fill)),(tI ((Qf a0 a1).Checks)),(tI ((Qf a0 a1).Spent)),(T.os 1 14 0 ((((Qf a0 a1).Asked).map (Qd true)).length)),(tI ((Qf a0 a1).Start)),(tI ((Qf a0 a1).Now))]) rfl) nofun rfl rfl rfl Qgn JL (bc rfl (bc rfl (bc rfl (bc rfl (bc rfl (bc rfl bn))))))) (aO (tB (decide (QK a0 a1))) rfl (nt (sq (sr (lO (OL.loadOn (us:= [(tS ((Qf a0 a1).Fill)),(tI ((Qf a0 a1).Checks)),(tI ((Qf a0 a1).Spent)),(T.os 1 14 0 ((((Qf a0 a1).Asked).map (Qd true)).length)),(tI ((Qf a0 a1).Start)),(tI ((Qf a0 a1).Now))]) (tv (T.op 15 0) rfl) rfl Qb6 JL (lb rfl) rfl) (lO (OL.loadOn (us:= [(tS ((Qf a0 a1).Fill)),(tI ((Qf a0 a1).Checks)),(tI ((Qf a0 a1).Spent)),(T.os 1 3 0 ((((Qf a0 a1).Asked).map (Qd true)).length)),(tI ((Qf a0 a1).Start)),(tI ((Qf a0 a1).Now))]) (tv (T.op 4 0) rfl) rfl Qb6 JL (lb rfl) rfl) (cO (cS (us:= [(T.agg (Q4 false (Qf a0 a1))),(T.agg (Q4 false (Qf a0 a1)))]) (vc (tv (T.agg [(tS ((Qf a0 a1).Fill)),(tI ((Qf a0 a1).Checks)),(tI ((Qf a0 a1).Spent)),(T.os 1 14 0 ((((Qf a0 a1).Asked).map (Qd true)).length)),(tI ((Qf a0 a1).Start)),(tI ((Qf a0 a1).Now))]) rfl) (vc (tv (T.agg [(tS ((Qf a0 a1).Fill)),(tI ((Qf a0 a1).Checks)),(tI ((Qf a0 a1).Spent)),(T.os 1 3 0 ((((Qf a0 a1).Asked).map (Qd true)).length)),(tI ((Qf a0 a1).Start)),(tI ((Qf a0 a1).Now))]) rfl) vn)) (LendL.cons (Lend.agg (LendL.cons (Lend.pl rfl) (LendL.cons (Lend.pl rfl) (LendL.cons (Lend.pl rfl) (LendL.cons (Lend.os rfl rfl (okInt.fzMap _ _)) (LendL.cons (Lend.pl rfl) (LendL.cons (Lend.pl rfl) ln))))))) (LendL.cons (Lend.agg (LendL.cons (Lend.pl rfl) (LendL.cons (Lend.pl rfl) (LendL.cons (Lend.pl rfl) (LendL.cons (Lend.os rfl rfl (okInt.fzMap _ _)) (LendL.cons (Lend.pl rfl) (LendL.cons (Lend.pl rfl) ln))))))) ln)) (YF (n+41) (Qf a0 a1) (Qf a0 a1) (by first | exact Qw _ _ | (simp only [Qc];omega) | (simp only [Qc,Qk];omega) | (simp only [Qc,Qk];done) | exact QN _ _ _ _ | (simp only [Qk];omega) | assumption | omega | (simp only [List.length_map];omega) | (simp only [List.length_map,List.length_append,List.length_cons,List.length_nil,List.length_replicate,List.length_set,List.length_drop,List.length_take,Yd] at *;omega)) (by first | exact Qw _ _ | (simp only [Qc];omega) | (simp only [Qc,Qk];omega) | (simp only [Qc,Qk];done) | exact QN _ _ _ _ | (simp only [Qk];omega) | assumption | omega | (simp only [List.length_map];omega) | (simp only [List.length_map,List.length_append,List.length_cons,List.length_nil,List.length_replicate,List.length_set,List.length_drop,List.length_take,Yd] at *;omega))) rfl rfl) ?_)))))))))
 refine fO (Q1 (tv (tB (decide ((Qf a0 a1)=(Qf a0 a1)))) rfl)) (mO (tB (!(decide ((Qf a0 a1)=(Qf a0 a1))))) rfl (gF (nz fhg40_1) rfl rfl (OF.move (tv (tB (decide (QK a0 a1))) rfl)) (gF (nz fhg40_1) rfl rfl (OF.move (tv (tB (decide (QK a0 a1))) rfl)) (gF (nz fhg40_1) rfl rfl (B.bneq U4 (c:=(!((decide (QK a0 a1)) == (decide (QK a0 a1))))) (tv (tB (decide (QK a0 a1))) rfl) (tv (tB (decide (QK a0 a1))) rfl) rfl) (fO (OF.pickF (VEv.tmpB rfl (nz fhg40_1)) (tv (tB (!((decide (QK a0 a1)) == (decide (QK a0 a1))))) rfl)) (nt (cg hc1 rfl (sk (tn (sr (fO (OF.assign (VEv.int .i64 1)) ?_)))))))))))
 refine nt (sr (lO (OL.loadOn (us:= [(tS ((Qf a0 a1).Fill)),(tI ((Qf a0 a1).Checks)),(tI ((Qf a0 a1).Spent)),(T.os 1 8 0 ((((Qf a0 a1).Asked).map (Qd true)).length)),(tI ((Qf a0 a1).Start)),(tI ((Qf a0 a1).Now))]) (tv (T.op 9 0) rfl) rfl Qb6 JL (lb rfl) rfl) (mO (tN 1) rfl (cO (cS (us:= [(T.agg [(tS ((Qf a0 a1).Fill)),(tI ((Qf a0 a1).Checks)),(tI ((Qf a0 a1).Spent)),(rd 1 Qd (YT Zb 1 1 ((Qf a0 a1).Asked).length)),(tI ((Qf a0 a1).Start)),(tI ((Qf a0 a1).Now))]),(tN 1)]) (vc (tv (T.agg [(tS ((Qf a0 a1).Fill)),(tI ((Qf a0 a1).Checks)),(tI ((Qf a0 a1).Spent)),(T.os 1 8 0 ((((Qf a0 a1).Asked).map (Qd true)).length)),(tI ((Qf a0 a1).Start)),(tI ((Qf a0 a1).Now))]) rfl) (vc (tv (tN 1) rfl) vn)) (LendL.cons (Lend.agg (LendL.cons (Lend.pl rfl) (LendL.cons (Lend.pl rfl) (LendL.cons (Lend.pl rfl) (LendL.cons (Lend.os rfl (by simp only [List.length_map,Qk,List.length_set,Qcy]) (okInt.fzMap _ _)) (LendL.cons (Lend.pl rfl) (LendL.cons (Lend.pl rfl) ln))))))) (lp rfl ln)) (Y4 (n+41) (D.Session.mk ((Qf a0 a1).Fill) ((Qf a0 a1).Checks) ((Qf a0 a1).Spent) (YT Zb 1 1 ((Qf a0 a1).Asked).length) ((Qf a0 a1).Start) ((Qf a0 a1).Now)) 1 (by first | exact Qw _ _ | (simp only [Qc];omega) | (simp only [Qc,Qk];omega) | (simp only [Qc,Qk];done) | exact QN _ _ _ _ | (simp only [Qk];omega) | assumption | omega | (simp only [List.length_map];omega) | (simp only [List.length_map,List.length_append,List.length_cons,List.length_nil,List.length_replicate,List.length_set,List.length_drop,List.length_take,Yd] at *;omega)) (by first | exact Qw _ _ | (simp only [Qc];omega) | (simp only [Qc,Qk];omega) | (simp only [Qc,Qk];done) | exact QN _ _ _ _ | (simp only [Qk];omega) | assumption | omega | (simp only [List.length_map];omega) | (simp only [List.length_map,List.length_append,List.length_cons,List.length_nil,List.length_replicate,List.length_set,List.length_drop,List.length_take,Yd] at *;omega))) rfl rfl) (aO (tN (1+1*(D.Session.mk ((Qf a0 a1).Fill) ((Qf a0 a1).Checks) ((Qf a0 a1).Spent) (YT Zb 1 1 ((Qf a0 a1).Asked).length) ((Qf a0 a1).Start) ((Qf a0 a1).Now)).Asked.length)) rfl (nt (sq (sr (mO (tN (1+1*(D.Session.mk ((Qf a0 a1).Fill) ((Qf a0 a1).Checks) ((Qf a0 a1).Spent) (YT Zb 1 1 ((Qf a0 a1).Asked).length) ((Qf a0 a1).Start) ((Qf a0 a1).Now)).Asked.length)) rfl (fO (B.lss (c:=(decide (1+1*(D.Session.mk ((Qf a0 a1).Fill) ((Qf a0 a1).Checks) ((Qf a0 a1).Spent) (YT Zb 1 1 ((Qf a0 a1).Asked).length) ((Qf a0 a1).Start) ((Qf a0 a1).Now)).Asked.length<0))) (tv (tN (1+1*(D.Session.mk ((Qf a0 a1).Fill) ((Qf a0 a1).Checks) ((Qf a0 a1).Spent) (YT Zb 1 1 ((Qf a0 a1).Asked).length) ((Qf a0 a1).Start) ((Qf a0 a1).Now)).Asked.length)) rfl) (VEv.int .i64 0) (by first | exact Qw _ _ | (simp only [Qc];omega) | (simp only [Qc,Qk];omega) | (simp only [Qc,Qk];done) | exact QN _ _ _ _ | (simp only [Qk];omega) | (exact Q8 (by omega)))) ?_))))))))))
 refine nt (cg (dz fhc4) rfl (sk (tn (sq (sr (mO (tN (1+1*(D.Session.mk ((Qf a0 a1).Fill) ((Qf a0 a1).Checks) ((Qf a0 a1).Spent) (YT Zb 1 1 ((Qf a0 a1).Asked).length) ((Qf a0 a1).Start) ((Qf a0 a1).Now)).Asked.length)) rfl (mO (tN (1+1*((Qf a0 a1).Asked).length)) rfl (fO (QhC (tv (tN (1+1*(D.Session.mk ((Qf a0 a1).Fill) ((Qf a0 a1).Checks) ((Qf a0 a1).Spent) (YT Zb 1 1 ((Qf a0 a1).Asked).length) ((Qf a0 a1).Start) ((Qf a0 a1).Now)).Asked.length)) rfl) (tv (tN (1+1*((Qf a0 a1).Asked).length)) rfl)) (nt (cg (nz fhc5) rfl (sk ?_)))))))))))
 refine tn (sr (fO (OF.assign (VEv.bool true)) (nt (rt ?_))))
 exact vb rfl rfl
end Go.Proofs.YthifchndolccgaaGreatDoor.AE
namespace Go.Proofs.YthifchndolccgaaGreatDoor.AE
open Go Go.RowKit
set_option linter.unusedVariables false
set_option linter.unusedSimpArgs false
theorem QkO {α:Type} {d:AK α} {e:Bool→α→List T} {x:α} {t:T} {h:AH} {v:Value} (hk:RK d e) (he:e false x= [t]) (hr:d.R h x [v]):R h t v:=by
 have h1:=hk h x _ hr
 rw [he] at h1
 exact h1.tail.1
theorem Qkt {α:Type} {d:AK α} {e:Bool→α→List T} {x:α} {h:AH} {cs:Array Value} (hk:RK d e) (hr:d.R h x (QfS (.agg cs)).cells.toList):R h (.agg (e false x)) (QfS (.agg cs)):=by
 have h1:=hk h x _ hr
 refine .agg _ _ (by simpa [Value.cells,QfS] using h1.1) (fun i hi=> ?_)
 have:=h1.2 i hi
 simpa [Value.cells,QfS,Array.getD_eq_getD_getElem?,List.getD_eq_getElem?_getD] using this
theorem Pure.bool {call:QH} {f:FuncId} {ts:List T} {b:Bool} (hp:Pure call f ts (.bool b)) {h:AH} {vs:List Value} (hfr:Fr 1 h) (hr:RL h ts vs):CallS call f vs h 1 (fun v _=>v= .bool b):=by
 refine (hp h 1 vs hfr hr).mono ?_
 rintro v h' ⟨_,N,hs,_⟩
 cases hs with
 | fz hr=>cases hr;rfl
end Go.Proofs.YthifchndolccgaaGreatDoor.AE
namespace Go.Proofs.YthifchndolccgaaGreatDoor.AE
open Go Go.RowKit Go.Shelf Go.Proofs
def laysRepl_ren : Go.Shelf.Ren:=⟨fun | 155=>61 | 154=>85 | 138=>112 | 165=>113 | 143=>114 | 166=>115 | 197=>116 | 169=>117 | 195=>139 | 218=>140 | 240=>141 | 241=>142 | 219=>143 | 260=>144 | 276=>151 | 277=>152 | 217=>153 | 225=>154 | 224=>155 | 267=>156 | 266=>166 | 314=>167 | n=>n,fun | 9=>9 | 3=>3 | 4=>4 | 72=>126 | 0=>0 | 76=>130 | 105=>132 | 21=>21 | 5=>5 | 70=>124 | 20=>20 | 37=>92 | 75=>129 | 127=>148 | 164=>153 | 46=>157 | 119=>158 | 139=>161 | 138=>160 | 146=>171 | 51=>170 | 80=>134 | n=>n,fun | 1=>0 | 3=>1 | 4=>2 | n=>n⟩
theorem laysRepl : Go.Proofs.LaysM.n155 Tryz.prog laysRepl_ren where
 mixed:=by kernel_rfl
 f138:=Tryz.func112.trans (congrArg some (by kernel_rfl))
 f143:=Tryz.func114.trans (congrArg some (by kernel_rfl))
 f154:=Tryz.func85.trans (congrArg some (by kernel_rfl))
 f155:=Tryz.func61.trans (congrArg some (by kernel_rfl))
 f165:=Tryz.func113.trans (congrArg some (by kernel_rfl))
 f166:=Tryz.func115.trans (congrArg some (by kernel_rfl))
 f169:=Tryz.func117.trans (congrArg some (by kernel_rfl))
 f195:=Tryz.func139.trans (congrArg some (by kernel_rfl))
 f197:=Tryz.func116.trans (congrArg some (by kernel_rfl))
 f217:=Tryz.func153.trans (congrArg some (by kernel_rfl))
 f218:=Tryz.func140.trans (congrArg some (by kernel_rfl))
 f219:=Tryz.func143.trans (congrArg some (by kernel_rfl))
 f224:=Tryz.func155.trans (congrArg some (by kernel_rfl))
 f225:=Tryz.func154.trans (congrArg some (by kernel_rfl))
 f240:=Tryz.func141.trans (congrArg some (by kernel_rfl))
 f241:=Tryz.func142.trans (congrArg some (by kernel_rfl))
 f260:=Tryz.func144.trans (congrArg some (by kernel_rfl))
 f266:=Tryz.func166.trans (congrArg some (by kernel_rfl))
 f267:=Tryz.func156.trans (congrArg some (by kernel_rfl))
 f276:=Tryz.func151.trans (congrArg some (by kernel_rfl))
 f277:=Tryz.func152.trans (congrArg some (by kernel_rfl))
 f314:=Tryz.func167.trans (congrArg some (by kernel_rfl))
 t0:=Tryz.underlying0
 a0:=Tryz.isAgg0
 z0:=Tryz.sizeOf0
 v0:=Tryz.zeroValue0
 t3:=Tryz.underlying3
 a3:=Tryz.isAgg3
 z3:=Tryz.sizeOf3
 v3:=Tryz.zeroValue3
 t4:=Tryz.underlying4
 a4:=Tryz.isAgg4
 z4:=Tryz.sizeOf4
 v4:=Tryz.zeroValue4
 t5:=Tryz.underlying5
 a5:=Tryz.isAgg5
 z5:=Tryz.sizeOf5
 v5:=Tryz.zeroValue5
 t9:=Tryz.underlying9
 a9:=Tryz.isAgg9
 z9:=Tryz.sizeOf9
 v9:=Tryz.zeroValue9
 t20:=Tryz.underlying20
 a20:=Tryz.isAgg20
 z20:=Tryz.sizeOf20
 v20:=Tryz.zeroValue20
 t21:=Tryz.underlying21
 a21:=Tryz.isAgg21
 z21:=Tryz.sizeOf21
 v21:=Tryz.zeroValue21
 t37:=Tryz.underlying92
 a37:=Tryz.isAgg92
 z37:=Tryz.sizeOf92
 v37:=Tryz.zeroValue92
 t46:=Tryz.underlying157
 a46:=Tryz.isAgg157
 z46:=Tryz.sizeOf157
 v46:=Tryz.zeroValue157
 t51:=Tryz.underlying170
 a51:=Tryz.isAgg170
 z51:=Tryz.sizeOf170
 v51:=Tryz.zeroValue170
 t70:=Tryz.underlying124
 a70:=Tryz.isAgg124
 z70:=Tryz.sizeOf124
 v70:=Tryz.zeroValue124
 t72:=Tryz.underlying126
 a72:=Tryz.isAgg126
 z72:=Tryz.sizeOf126
 v72:=Tryz.zeroValue126
 t75:=Tryz.underlying129
 a75:=Tryz.isAgg129
 z75:=Tryz.sizeOf129
 v75:=Tryz.zeroValue129
 t76:=Tryz.underlying130
 a76:=Tryz.isAgg130
 z76:=Tryz.sizeOf130
 v76:=Tryz.zeroValue130
 t105:=Tryz.underlying132
 a105:=Tryz.isAgg132
 z105:=Tryz.sizeOf132
 v105:=Tryz.zeroValue132
 t119:=Tryz.underlying158
 a119:=Tryz.isAgg158
 z119:=Tryz.sizeOf158
 t127:=Tryz.underlying148
 a127:=Tryz.isAgg148
 z127:=Tryz.sizeOf148
 v127:=Tryz.zeroValue148
 t138:=Tryz.underlying160
 a138:=Tryz.isAgg160
 z138:=Tryz.sizeOf160
 v138:=Tryz.zeroValue160
 t139:=Tryz.underlying161
 a139:=Tryz.isAgg161
 z139:=Tryz.sizeOf161
 v139:=Tryz.zeroValue161
 t146:=Tryz.underlying171
 a146:=Tryz.isAgg171
 z146:=Tryz.sizeOf171
 v146:=Tryz.zeroValue171
 t164:=Tryz.underlying153
 a164:=Tryz.isAgg153
 z164:=Tryz.sizeOf153
 v164:=Tryz.zeroValue153
 g1:=by kernel_rfl
 g3:=by kernel_rfl
 g4:=by kernel_rfl
 t80:=Tryz.underlying134
 a80:=Tryz.isAgg134
 z80:=Tryz.sizeOf134
 v80:=Tryz.zeroValue134
 i0:=by kernel_rfl
 i3:=by kernel_rfl
 i4:=by kernel_rfl
 i5:=by kernel_rfl
 i9:=by kernel_rfl
 i20:=by kernel_rfl
 i21:=by kernel_rfl
 i37:=by kernel_rfl
 i46:=by kernel_rfl
 i51:=by kernel_rfl
 i70:=by kernel_rfl
 i72:=by kernel_rfl
 i75:=by kernel_rfl
 i76:=by kernel_rfl
 i80:=by kernel_rfl
 i105:=by kernel_rfl
 i127:=by kernel_rfl
 i138:=by kernel_rfl
 i139:=by kernel_rfl
 i146:=by kernel_rfl
 i164:=by kernel_rfl
 m1:=by kernel_rfl
 s1_3:=fun w h=>Go.Proofs.cell_of_shapedOpen_int (zero:= #[.int .i64 0]) (t:=3) h (of_decide_eq_true (by kernel_rfl)) (by kernel_rfl) rfl (by kernel_rfl) (by kernel_rfl) Tryz.underlying3
 m3:=by kernel_rfl
 m4:=by kernel_rfl
theorem Qhp : Builder.Extra Tryz.prog laysRepl_ren where
 sizeBuilder:=by kernel_rfl
 liesBuilder:=by kernel_rfl
 t5:=laysRepl.t5
 a5:=laysRepl.a5
 z5:=laysRepl.z5
 v5:=laysRepl.v5
 infoByte:=by kernel_rfl
 cellsByte:=by kernel_rfl
 sizeByte:=by kernel_rfl
 neB5:=by decide
theorem QkN {W:World} (h:W.ShapedOpen Tryz.prog):GlobOk W.heap.size W:=by
 intro g hg
 obtain rfl:=List.mem_singleton.1 hg
 obtain ⟨m,hm⟩:=laysRepl.s1_3 W h
 refine ⟨?_,m,hm⟩
 unfold World.cell? at hm
 split at hm
 ·rename_i e;exact (Array.getElem?_eq_some_iff.1 e).1
 ·cases hm
theorem QkK : QgD Tryz.prog:=by
 intro f hf
 by_cases h0:f=61
 ·subst h0
  exact Qfl (g:=laysRepl_ren.g 1) (by decide) ⟨fun s o n m w h1 h2 h3 h4=>Any.strings_ReplaceAll laysRepl.ton155 Qhp s o n m w h1 h2 h3 h4⟩
 exfalso
 simp [JT,h0] at hf
end Go.Proofs.YthifchndolccgaaGreatDoor.AE
