/- A part of what the row of FnExactCheckSlot uses. Conditions: as each theorem states. -/
import Derived.Test.YtcccmceoplcciaaGreatZFnExactCheckSlotb
import Derived.Test.YtcccmceoplcciaaGreatProg
import Derived.KernelRfl
namespace Go.Proofs.YtcccmceoplcciaaGreat.AE
open Go Go.RowKit
set_option linter.unusedVariables false
set_option linter.unusedSimpArgs false
def noW (t:Nat):Code→Bool
 | .region _ ops _=>ops.toList.all fun o=>o.dst !=some t
 | .seq a b=>noW t a && noW t b
 | .cond _ a b=>noW t a && noW t b
 | .block _ c=>noW t c
 | .loop c=>noW t c
 | .scope c=>noW t c
 | _=>true
theorem JL {E:Nat→Value} {d:Option Tmp} {v:Value} {t:Nat} (h:d≠some t):ZP E d v t=E t:=by
 cases d with
 | none=>rfl
 | some d =>
  have:¬t=d:=fun e=>h (by rw [e])
  simp only [ZP,if_neg this]
section
variable {call : QN} {P : Program} {π t : Nat}
theorem Qjx {ops:Array Oper} {i:Nat} {o:Oper} {s s':St} (hd:o.dst≠some t) (h:Qfj call P π ops i o s=some s'):s'.E t=s.E t:=by
 unfold Qfj at h
 split at h
 ·obtain ⟨r,h1,rfl⟩:=Option.map_eq_some_iff.1 h
  exact JL hd
 ·obtain rfl:=Option.some.inj h
  exact JL hd
theorem Qhb {ops:Array Oper}:∀ {l:List Oper} {i:Nat} {s s':St},(∀o∈l,o.dst≠some t)→Qbt call P π ops l i s=some s'→s'.E t=s.E t
 | [],i,s,s',_,h=>by
  obtain rfl:=Option.some.inj h
  rfl
 | o::r,i,s,s',hd,h=>by
  unfold Qbt at h
  obtain ⟨s1,h1,h2⟩:=Option.bind_eq_some_iff.1 h
  rw [Qhb (fun o ho=>hd o (by simp [ho])) h2,Qjx (hd o (by simp)) h1]
theorem QjF {c:Nat} {ops:Array Oper} {B:List (List Nat)} {base:AH} {i:Nat} {o:Oper} {s s':DSt} (hd:o.dst≠some t) (h:QaP call P π c ops B base i o s=some s'):s'.E t=s.E t:=by
 unfold QaP at h
 split at h
 ·split at h
  ·obtain ⟨r,h1,rfl⟩:=Option.map_eq_some_iff.1 h
   exact JL hd
  ·split at h
   ·split at h
    ·obtain rfl:=Option.some.inj h
     exact JL hd
    ·cases h
   ·cases h
  ·split at h
   ·split at h
    ·obtain rfl:=Option.some.inj h
     exact JL hd
    ·cases h
   ·cases h
 ·obtain rfl:=Option.some.inj h
  exact JL hd
theorem QhO {c:Nat} {ops:Array Oper} {B:List (List Nat)} {base:AH}:∀ {l:List Oper} {i:Nat} {s s':DSt},(∀o∈l,o.dst≠some t)→QeH call P π c ops B base l i s=some s'→s'.E t=s.E t
 | [],i,s,s',_,h=>by
  unfold QeH at h
  obtain rfl:=Option.some.inj h
  rfl
 | o::r,i,s,s',hd,h=>by
  unfold QeH at h
  obtain ⟨s1,h1,h2⟩:=Option.bind_eq_some_iff.1 h
  rw [QhO (fun o ho=>hd o (by simp [ho])) h2,QjF (hd o (by simp)) h1]
theorem Qj2 {ops:Array Oper} {s s':St} (hd:∀o∈ops.toList,o.dst≠some t) (h:Qf5 call P π ops s=some s'):s'.E t=s.E t:=by
 unfold Qf5 at h
 simp only at h
 split at h
 ·obtain ⟨d,h1,rfl⟩:=Option.map_eq_some_iff.1 h
  have h3:d.E t=s.E t:=QhO hd h1
  exact h3
 ·cases h
theorem Qli {f:St→Option (AX×St)} (hf:∀s e s',f s=some (e,s')→s'.E t=s.E t) {s:St} {e:AX} {s':St} (h:LoopR f s e s'):s'.E t=s.E t:=by
 induction h with
 | stop h _=>exact hf _ _ _ h
 | more h _ ih=>rw [ih,hf _ _ _ h]
theorem Yj : ∀(co:Code) (s:St) (e:AX) (s':St),noW t co=true→QZ call P π co s=some (e,s')→s'.E t=s.E t
 | .skip,s,e,s',_,h=>by simp only [QZ,Option.some.injEq,Prod.mk.injEq] at h;rw [← h.2]
 | .label _,s,e,s',_,h=>by simp only [QZ,Option.some.injEq,Prod.mk.injEq] at h;rw [← h.2]
 | .exit _,s,e,s',_,h=>by simp only [QZ,Option.some.injEq,Prod.mk.injEq] at h;rw [← h.2]
 | .ret,s,e,s',_,h=>by simp only [QZ,Option.some.injEq,Prod.mk.injEq] at h;rw [← h.2]
 | .region _ ops false,s,e,s',hn,h=>by
  simp only [QZ] at h
  obtain ⟨s1,h1,h2⟩:=Option.map_eq_some_iff.1 h
  simp only [Prod.mk.injEq] at h2
  obtain ⟨_,rfl⟩:=h2
  have h3:s1.E t=s.E t:=Qhb (fun o ho e=>by
   have:=List.all_eq_true.1 hn o ho
   simp [e] at this) h1
  exact h3
 | .region _ ops true,s,e,s',hn,h=>by
  simp only [QZ] at h
  obtain ⟨s1,h1,h2⟩:=Option.map_eq_some_iff.1 h
  simp only [Prod.mk.injEq] at h2
  obtain ⟨_,rfl⟩:=h2
  exact Qj2 (fun o ho e=>by
   have:=List.all_eq_true.1 hn o ho
   simp [e] at this) h1
 | .seq a b,s,e,s',hn,h=>by
  simp only [noW,Bool.and_eq_true] at hn
  simp only [QZ] at h
  cases hx:QZ call P π a s with
  | none=>rw [hx] at h;cases h
  | some r =>
   obtain ⟨e1,s1⟩:=r
   rw [hx] at h
   have h1:=Yj a s e1 s1 hn.1 hx
   cases e1 with
   | normal=>exact (Yj b s1 e s' hn.2 h).trans h1
   | exit id =>
    simp only [Option.some.injEq,Prod.mk.injEq] at h
    rw [← h.2];exact h1
   | ret =>
    simp only [Option.some.injEq,Prod.mk.injEq] at h
    rw [← h.2];exact h1
 | .cond c a b,s,e,s',hn,h=>by
  simp only [noW,Bool.and_eq_true] at hn
  simp only [QZ] at h
  split at h
  ·exact Yj a s e s' hn.1 h
  ·exact Yj b s e s' hn.2 h
  ·cases h
 | .block id c,s,e,s',hn,h=>by
  simp only [QZ] at h
  cases hx:QZ call P π c s with
  | none=>rw [hx] at h;cases h
  | some r =>
   obtain ⟨e1,s1⟩:=r
   rw [hx] at h
   have h1:=Yj c s e1 s1 hn hx
   cases e1 with
   | normal =>
    simp only [Option.some.injEq,Prod.mk.injEq] at h
    rw [← h.2];exact h1
   | exit id' =>
    simp only at h
    split at h<;>(simp only [Option.some.injEq,Prod.mk.injEq] at h;rw [← h.2];exact h1)
   | ret =>
    simp only [Option.some.injEq,Prod.mk.injEq] at h
    rw [← h.2];exact h1
 | .loop c,s,e,s',hn,h=>by
  simp only [QZ] at h
  exact Qli (fun s e s' h=>Yj c s e s' hn h) (Qfe h)
 | .scope c,s,e,s',hn,h=>Yj c s e s' hn (by simpa only [QZ] using h)
end
def sc : T→Bool
 | .bool _=>true
 | .int _ _=>true
 | .str _=>true
 | _=>false
def scR (rows:List (List T)):Prop:=∀r∈rows,∀t∈r,sc t=true
theorem QcA {t:T} (h:sc t=true):Clean t:=by
 cases t<;>first | exact .bool _ | exact .int _ _ | exact .str _ | (simp [sc] at h;done)
theorem SL.sc {hf h:AH}:∀ {ts:List T} {vs:List Value} {N:List Nat},SL hf h ts vs N→(∀t∈ts,AE.sc t=true)→N= []
 | _,_,_, .nil,_=>rfl
 | _,_,_, .cons (t:=t) hs hr,hc=>by
  rw [SL.sc hr (fun t ht=>hc t (by simp [ht]))]
  have h1:=hc t (by simp)
  cases hs with
  | fz hr=>rfl
  | _=>simp [AE.sc] at h1
theorem scR.flat {rows:List (List T)} (h:scR rows):∀t∈rows.flatten,sc t=true:=fun t ht=>by
 obtain ⟨r,hr,htr⟩:=List.mem_flatten.1 ht
 exact h r hr t htr
theorem S.slInv {hf h:AH} {sz:Nat} {rows:List (List T)} {v:Value} {N:List Nat} (hs:S hf h (.sl true sz rows) v N):(rows= []∧N= []∧(v= .slice none 0 0∨∃a o,v= .slice (some ⟨a,o,none⟩) 0 0))∨∃a cs M m,N=a::M∧v= .slice (some ⟨a,0,none⟩) rows.length m∧0<m∧h a=some (.cells sz cs)∧a % 2=1∧(∀r∈rows,r.length=sz)∧rows.length*sz≤cs.length∧SL hf h rows.flatten (cs.take (rows.length*sz)) M:=by
 cases hs with
 | fz hr=>cases hr
 | ow0=>exact .inl ⟨rfl,rfl, .inl rfl⟩
 | owe sz a o=>exact .inl ⟨rfl,rfl, .inr ⟨a,o,rfl⟩⟩
 | ow sz rows m hm hk hodd hlen hfit hsl=>exact .inr ⟨_,_,_,m,rfl,rfl,hm,hk,hodd,hlen,hfit,hsl⟩
def rvV : Option Int→Value
 | some r=> .int .i64 r
 | none=> .tuple #[]
def rvT : Option Int→T
 | some r=> .int .i64 r
 | none=> .tup []
def rvR (rt:Tmp):Option Int→List ResultVar
 | some _=> [.tmp rt]
 | none=> []
theorem Qn4 (hf:AH) (rv:Option Int):R hf (rvT rv) (rvV rv):=by
 cases rv with
 | none=>exact .tup [] #[] rfl (fun i hi=>by simp at hi)
 | some r=>exact .int _ _
def Mut (call:QN) (f:FuncId) (sz:Nat) (rows:List (List T)) (us:List T) (r:Option Int) (rows':List (List T)):Prop:=∀(h:AH) (p:Nat) (hf:AH) (v0:Value) (N:List Nat) (vs:List Value),Fr p h→(∀b o,hf b=some o→h b=some o∧b∉N)→S (fun _=>none) h (.sl true sz rows) v0 N→N.Nodup→RL hf us vs →
 CallS call f (v0::vs) h p (fun v h'=>(∀b,h b≠none→b∉N→h' b=h b)∧v=rvV r∧S (fun _=>none) h' (.sl true sz rows') v0 N)
def vmut (rt:Tmp) (r:Option Int) (sz:Nat) (rows':List (List T)):AX→Q2→Qz→Nat→Prop
 | .exit _,_,_,_=>False
 | _,E,O,_=>(∀n,r=some n→gE E rt= .int .i64 n)∧∃k,gE E 0= .os sz k 0 rows'.length∧gO O k=some (.rows sz rows')
theorem vmut.r {rt:Tmp} {r r0:Int} {sz k n:Nat} {rows rows':List (List T)} {E:Q2} {O:Qz} {nx:Nat} (h1:gE E rt= .int .i64 r0) (h2:gE E 0= .os sz k 0 n) (h3:gO O k=some (.rows sz rows)) (e1:r0=r) (e2:rows=rows') (e3:n=rows.length):vmut rt (some r) sz rows' .ret E O nx:=by
 subst e1
 subst e2
 subst e3
 exact ⟨fun n hn=>(by cases hn;exact h1),k,h2,h3⟩
theorem vmut.v {rt:Tmp} {sz k n:Nat} {rows rows':List (List T)} {E:Q2} {O:Qz} {nx:Nat} (h2:gE E 0= .os sz k 0 n) (h3:gO O k=some (.rows sz rows)) (e2:rows=rows') (e3:n=rows.length):vmut rt none sz rows' .normal E O nx:=by
 subst e2
 subst e3
 exact ⟨fun n hn=>(by cases hn),k,h2,h3⟩
theorem Mut.intro {P:Program} {f:FuncId} {fn:Func} {c:Code} {n sz:Nat} {rt:Tmp} {us:List T} {r:Option Int} {rows rows':List (List T)} (hf:P.funcs[f]? =some fn) (hb:fn.body=some c) (hc:ZM fn.ntmps c=true) (hrs:fn.results.toList=rvR rt r) (hn:noW 0 c=true) (hsc:scR rows) (hsc':scR rows') {E0:Q2} (hE:Qek 1 us=E0) (hr:VRun (Qq P n) P c ((0, .os sz 0 0 rows.length)::E0) [(0,some (.rows sz rows))] 1 (vmut rt r sz rows')) (hpr:Qap f=true:=by rfl):Mut (Qq P (n+1)) f sz rows us r rows':=by
 subst hE
 intro h p hfr v0 N vs hfp hfN hS hnd hvs
 classical
 let hb0:AH:=fun b=>if b∈N then none else h b
 have hb1:∀b,b∉N→hb0 b=h b:=fun b hb=>if_neg hb
 have hb2:∀b,b∈N→hb0 b=none:=fun b hb=>if_pos hb
 have hb3:∀b o,hb0 b=some o→b∉N∧h b=some o:=fun b o hb=>by
  by_cases hm:b∈N
  ·rw [hb2 b hm] at hb;cases hb
  ·exact ⟨hm,(hb1 b hm).symm.trans hb⟩
 have hs0:SR p ⟨hb0,fun b=>b∈N⟩ (fun _=>none) hb0 (fun _=>none) (Qek 1 us) [] 0 (fun t=>(v0::vs).getD t undef) h:=by
  refine ⟨fun t=> ?_,fun k o hk=>(by cases hk),fun a o ha=>⟨(hb3 a o ha).2,rfl⟩,fun a k ha=>(by cases ha),fun _ _=>rfl,fun t ht=> ?_⟩
  ·rw [QcN]
   split
   ·exact .any _
   ·cases t with
    | zero=>exact absurd (by omega) ‹¬ 0<1›
    | succ t =>
     rw [Nat.add_sub_cancel,List.getD_cons_succ]
     rcases Nat.lt_or_ge t us.length with h1 | h1
     ·exact .fz ((hvs.2 t h1).mono (fun b o hb=>by rw [hb1 b (hfN b o hb).2];exact (hfN b o hb).1))
     ·rw [List.getD_eq_getElem?_getD,List.getElem?_eq_none h1]
      exact .any _
  ·by_cases hm:t∈N
   ·exact .inr (.inr hm)
   ·exact .inl (by show hb0 t≠none;rw [hb1 t hm];exact ht)
 obtain ⟨σ,own,hs1,_,hv,_⟩:=S.adopt hS hs0 hnd (fun a ha=>⟨.inr ha,hb2 a ha,hS.names a ha,hb2 a ha,rfl⟩)
 have hs2:=hs1.put hv (some 0)
 have hEa:ZP (fun t=>(v0::vs).getD t undef) (some 0) v0=fun t=>(v0::vs).getD t undef:=by
  funext t
  cases t with
  | zero=>rfl
  | succ t=>rfl
 rw [hEa] at hs2
 unfold VRun at hr
 have hrun:=hr p _ σ _ own _ h 0 hs2
 have hrun2:Run (Qq P n) P p c ⟨fun t=>(v0::vs).getD t undef,h,0⟩ (fun e s=>KK p ⟨hb0,fun b=>b∈N⟩ (vmut rt r sz rows' e) s.E s.h∧s.E 0=v0):=by
  unfold Run at hrun ⊢
  intro hfc
  obtain ⟨e,s',h1,h2,h3⟩:=hrun hfc
  exact ⟨e,s',h1,h2,h3,Yj _ _ _ _ hn h1⟩
 refine CallS.intro (hpr:=hpr) (rs:=rvR rt r) hf hb hc hfp hrs (Run.mono hrun2 ?_)
 rintro e s' ⟨⟨σ',hf',own',E,O,nx,h1,h2⟩,h0⟩
 have key:((∀n,r=some n→gE E rt= .int .i64 n)∧∃k,gE E 0= .os sz k 0 rows'.length∧gO O k=some (.rows sz rows'))→∃l,JP P s'.h s'.E (rvR rt r)=some l∧(fun v h'=>(∀b,h b≠none→b∉N→h' b=h b)∧v=rvV r∧S (fun _=>none) h' (.sl true sz rows') v0 N) (YU l) (if Q7 (YU l) then YI h s'.h else Qbc p h s'.h):=by
  rintro ⟨g1,k,g2,g3⟩
  have hl:∃l,JP P s'.h s'.E (rvR rt r)=some l∧YU l=rvV r:=by
   cases r with
   | none=>exact ⟨[],rfl,rfl⟩
   | some r =>
    have e1:=h1.env rt
    rw [g1 r rfl] at e1
    exact ⟨[.int .i64 r],Qic (congrArg some e1.intInv) rfl,rfl⟩
  obtain ⟨l,hl1,hl2⟩:=hl
  refine ⟨l,hl1,?_⟩
  have ht:Q7 (YU l)=true:=by rw [hl2];cases r<;>simp [rvV,Q7,closedV,closed1]
  rw [if_pos ht,hl2]
  have hbd:∀b,h b≠none→YI h s'.h b=s'.h b:=fun b hb=>by
   unfold YI
   cases hh:h b with
   | none=>exact absurd hh hb
   | some o=>rfl
  refine ⟨fun b hb hbN=> ?_,rfl,?_⟩
  ·rw [hbd b hb]
   have e3:hf' b=hb0 b:=h1.base b (by show hb0 b≠none;rw [hb1 b hbN];exact hb)
   rw [hb1 b hbN] at e3
   obtain ⟨o,ho⟩:=Option.ne_none_iff_exists'.1 hb
   rw [ho] at e3
   rw [(h1.fro b o e3).1,ho]
  ·have e3:=h1.env 0
   rw [g2,h0] at e3
   obtain ⟨M,hM1,hM2,e4⟩:=h1.objAt g3
   obtain ⟨_,⟨a,m,e5,e6,e7⟩ | ⟨e6,_,e7,e8⟩⟩:=e3.osInv
   ·rw [e6] at e4
    rw [Nat.zero_mul] at e5
    cases e4 with
    | rows hh hodd hlen hfit hsl =>
     obtain rfl:=hsl.sc hsc'.flat
     rcases hS.slInv with ⟨_,_,e9 | ⟨_,_,e9⟩⟩ | ⟨a2,cs2,M2,m2,rfl,e9,e10,e11,e12,e13,e14,e15⟩
     ·rw [e5] at e9;exact absurd e9 (by simp)
     ·rw [e5] at e9
      simp only [Value.slice.injEq] at e9
      omega
     ·obtain rfl:=e15.sc hsc.flat
      rw [e5] at e9
      simp only [Value.slice.injEq,Option.some.injEq,Addr.mk.injEq] at e9
      obtain ⟨⟨rfl,_⟩,_⟩:=e9
      subst e5
      refine S.mono (fun _ _ e=>e) (S.clean (.ow sz rows' m e7 hh hodd hlen hfit hsl) (.sl _ _ fun r hr t ht=>QcA (hsc' r hr t ht))) (fun b hb=> ?_)
      obtain rfl:=List.mem_singleton.1 hb
      exact hbd _ (by rw [e11];simp)
   ·obtain rfl:=List.eq_nil_of_length_eq_zero e7
    rcases hS.slInv with ⟨_,rfl,_⟩ | ⟨a2,cs2,M2,m2,rfl,e9,e10,e11⟩
    ·rcases e8 with rfl | ⟨a,o,rfl⟩
     ·exact .ow0 sz
     ·exact .owe sz a o
    ·rcases e8 with e8 | ⟨a,o,e8⟩
     ·rw [e9] at e8;exact absurd e8 (by simp)
     ·rw [e9] at e8
      simp only [Value.slice.injEq] at e8
      omega
 cases e with
 | normal=>unfold fin;exact key h2
 | ret=>unfold fin;exact key h2
 | exit id=>exact h2.elim
section
variable {call : QN} {P : Program} {E : Q2} {O : Qz} {d : Option Tmp} {ty : TypeId} {ps : String} {af : Array Edge} {g : Option (Nat × Bool)} {nx : Nat}
theorem OC.callMut {f:FuncId} {args:Array Operand} {tys:Array TypeId} {ts:List T} {sz k n:Nat} {r:Option Int} {rows rows':List (List T)} (hb:Yo P f=true) (ha:VEvs E args.toList (.os sz k 0 n::ts)) (hk:gO O k=some (.rows sz rows)) (hn:n=rows.length) (hts:∀t∈ts,JV t=true) (hsc:scR rows) (hsc':scR rows') (hp:Mut call f sz rows ts r rows') :
  OC call P E O nx ⟨d, .call ⟨.value (.func f),args,tys⟩,ty,ps,af,g⟩ (rvT r) ((k,some (.rows sz rows'))::O) nx [k]:=⟨Nat.le_refl _,fun q p h0 σ hf own Ea h hs hu hF=>by
 subst hn
 obtain ⟨vs,h1,h2⟩:=ha σ hf nx Ea hs.env
 obtain ⟨v0,l,rfl,h3,h4⟩:=h2.tail
 obtain ⟨N,hN1,hN2,h5⟩:=hs.objAt hk
 have hS:∃N',S (fun _=>none) h (.sl true sz rows) v0 N'∧N'.Nodup∧(∀a∈N',own a=some k)∧((∃a M m,N'=a::M∧σ k=some a∧v0= .slice (some ⟨a,0,none⟩) rows.length m∧0<m)∨(N'= []∧rows= []∧σ k=none∧(v0= .slice none 0 0∨∃a o,v0= .slice (some ⟨a,o,none⟩) 0 0))):=by
  obtain ⟨_,⟨a,m,e5,e6,e7⟩ | ⟨e6,_,e7,e8⟩⟩:=h3.osInv
  ·rw [e6] at h5
   rw [Nat.zero_mul] at e5
   cases h5 with
   | rows hh hodd hlen hfit hsl =>
    subst e5
    exact ⟨_,S.clean (.ow sz rows m e7 hh hodd hlen hfit hsl) (.sl _ _ fun r hr t ht=>QcA (hsc r hr t ht)),hN1,hN2, .inl ⟨_,_,m,rfl,e6,rfl,e7⟩⟩
  ·obtain rfl:=List.eq_nil_of_length_eq_zero e7
   refine ⟨[],?_,by simp,by simp, .inr ⟨rfl,rfl,e6,e8⟩⟩
   rcases e8 with rfl | ⟨a,o,rfl⟩
   ·exact .ow0 sz
   ·exact .owe sz a o
 obtain ⟨N',g1,g2,g3,g4⟩:=hS
 have h6:=hp h q hf v0 N' l hF (fun b o hb=>⟨(hs.fro b o hb).1,fun hm=>by have:=g3 b hm;rw [(hs.fro b o hb).2] at this;cases this⟩) g1 g2 (h4.pl hts)
 unfold CallS at h6
 obtain ⟨v,h',k1,k2,k3,rfl,k5⟩:=h6
 refine ⟨_,h',σ,own,by simp only [QA,X.calls hb h1,k1],k2,fun _ _=>rfl,⟨hs.env,fun k' o hk'=> ?_,fun b o hb=> ?_,fun b k' hb=> ?_,hs.base,fun t ht=> ?_⟩, .fz (Qn4 _ _),fun b hb hnk=>k3 b hb (fun hm=>hnk k (by simp) (g3 b hm)),fun b k' e=> .inl e⟩
 ·simp only [gO] at hk'
  split at hk'
  ·rename_i e
   subst e
   obtain rfl:=Option.some.inj hk'
   refine ⟨(hs.obj _ _ hk).1,N',g2,g3,?_⟩
   rcases g4 with ⟨a,M,m,rfl,g5,g6,g7⟩ | ⟨rfl,rfl,g5,g6⟩
   ·rcases k5.slInv with ⟨_,e9,_⟩ | ⟨a2,cs2,M2,m2,e8,e9,e10,e11,e12,e13,e14,e15⟩
    ·cases e9
    ·cases e8
     rw [g5]
     exact .rows e11 e12 e13 e14 (e15.clean (fun t ht=>QcA (hsc'.flat t ht)))
   ·rcases k5.slInv with ⟨rfl,_,_⟩ | ⟨a2,cs2,M2,m2,e8,_⟩
    ·rw [g5]
     exact .none sz
    ·cases e8
  ·rename_i hne
   obtain ⟨m1,N2,m2,m3,m4⟩:=hs.obj k' o hk'
   refine ⟨m1,N2,m2,m3,m4.mono (fun _ _ e=>e) (Nat.le_refl _) (fun _ _=>rfl) (fun b hb=>k3 b (hs.mine b k' (m3 b hb)).2.2.1 (fun hm=> ?_))⟩
   have:=g3 b hm
   rw [m3 b hb] at this
   exact hne (Option.some.inj this)
 ·obtain ⟨m1,m2⟩:=hs.fro b o hb
  refine ⟨?_,m2⟩
  rw [k3 b (by rw [m1];simp) (fun hm=>by have:=g3 b hm;rw [m2] at this;cases this)]
  exact m1
 ·obtain ⟨m1,m2,m3,m4⟩:=hs.mine b k' hb
  refine ⟨m1,m2,?_,m4⟩
  by_cases hm:b∈N'
  ·exact k5.names b hm
  ·rw [k3 b m3 hm]
   exact m3
 ·rcases k2 t ht with e | e
  ·exact hs.dom t e
  ·exact .inr (hu t e)⟩
end
attribute [irreducible] vmut
theorem Zw {α:Type} {enc:Bool→α→List T} (he:∀x,(enc true x).all sc=true) (l:List α):scR (l.map (enc true)):=fun r hr t ht=>by
 obtain ⟨x,_,rfl⟩:=List.mem_map.1 hr
 exact List.all_eq_true.1 (he x) t ht
theorem SL.ints {hf h:AH} {k:IntKind}:∀ {l:List Int} {vs:List Value} {N:List Nat},SL hf h (l.map (T.int k)) vs N→vs=l.map (Value.int k)
 | [],_,_, .nil=>rfl
 | n::l,_,_, .cons hs hr=>by
  rw [SL.ints hr]
  cases hs with
  | fz hr=>cases hr;rfl
theorem Qf2 : ∀l:List Int,QiQ (l.map (Value.int .u8))=some l
 | []=>rfl
 | n::l=>by simp only [List.map_cons,QiQ,Qf2 l,Option.map_some]
theorem Qcv : ∀l:List Int,(l.map (QR true)).flatten=l.map (T.int .u8)
 | []=>rfl
 | n::l=>by simp only [List.map_cons,List.flatten_cons,Qcv l];rfl
theorem B.convBS {call:QN} {P:Program} {E:Q2} {O:Qz} {d:Option Tmp} {ty st dt e:TypeId} {ps:String} {af:Array Edge} {g:Option (Nat×Bool)} {x:Operand} {k n:Nat} {l:List Int} (hx:VEv E x (.os 1 k 0 n)) (hk:gO O k=some (.rows 1 (l.map (QR true)))) (hn:n=l.length) (hu:P.underlying st=some (.slice e)) (he:P.underlying e=some (.int .u8)) (hd:P.underlying dt=some .string) :
  OL call P E O ⟨d, .convert st dt x,ty,ps,af,g⟩ (.str (Yc l)):=fun q p h0 σ hf own nx Ea h hs=>by
 subst hn
 obtain ⟨v,h1,h2⟩:=hx σ hf nx Ea hs.env
 obtain ⟨N,hN1,hN2,h5⟩:=hs.objAt hk
 refine ⟨.string (Yc l),X.convert h1 (h':=h) ?_, .fz (.str _)⟩
 obtain ⟨_,⟨a,m,rfl,e6,e7⟩ | ⟨e6,_,e7,e8⟩⟩:=h2.osInv
 ·rw [e6] at h5
  generalize hrr:l.map (QR true)=rws at h5
  cases h5 with
  | rows hh hodd hlen hfit hsl =>
   rename_i cs N
   subst hrr
   rw [Qcv] at hsl
   have e10:=hsl.ints
   rw [List.length_map,Nat.mul_one] at e10 hfit
   simp only [Qc6,hu,he,hd]
   by_cases hz:l.length=0
   ·rw [if_pos hz]
    obtain rfl:=List.eq_nil_of_length_eq_zero hz
    rfl
   ·rw [if_neg hz]
    simp only [hh,Nat.zero_mul,Nat.zero_add,if_pos hfit,List.drop_zero,e10,Qf2,Option.map_some]
 ·obtain rfl:=List.eq_nil_of_length_eq_zero e7
  rcases e8 with rfl | ⟨a,o,rfl⟩
  ·simp only [Qc6,hu,he,hd];rfl
  ·simp only [Qc6,hu,he,hd,if_true];rfl
def ZN (s:ByteArray):List Int:=s.data.toList.map fun b=>(b.toNat:Int)
theorem QaX (s:ByteArray):(ZN s).length=s.size:=by rw [ZN,List.length_map];exact Array.length_toList
theorem Qfh (s:ByteArray):Jh s=(ZN s).map (Value.int .u8):=by
 simp [Jh,byteCells,ZN,Function.comp_def]
theorem Qjm (hf h:AH) (k:IntKind):∀l:List Int,SL hf h (l.map (T.int k)) (l.map (Value.int k)) []
 | []=> .nil
 | n::l=> .cons (N:= []) (M:= []) (.fz (.int _ _)) (Qjm hf h k l)
theorem B.convSB {call:QN} {P:Program} {E:Q2} {nx:Nat} {d:Option Tmp} {ty st dt e:TypeId} {ps:String} {af:Array Edge} {g:Option (Nat×Bool)} {x:Operand} {s:ByteArray} (hx:VEv E x (.str s)) (hu:P.underlying st=some .string) (hd:P.underlying dt=some (.slice e)) (he:P.underlying e=some (.int .u8)) :
  OM call P E nx ⟨d, .convert st dt x,ty,ps,af,g⟩ (.os 1 nx 0 ((ZN s).map (QR true)).length) (.rows 1 ((ZN s).map (QR true))):=fun q σ hf Ea hE=>by
 obtain ⟨v,h1,h2⟩:=hx σ hf nx Ea hE
 obtain rfl:=h2.strInv
 have hl:((ZN s).map (QR true)).length=s.size:=by rw [List.length_map,QaX]
 refine ⟨.slice (some ⟨Qk q,0,none⟩) s.size 1, .cells 1 (Jh s),some (Qk q),[Qk q],fun h=>X.convert h1 ?_, .inl ⟨rfl,rfl⟩,?_,fun h=> ?_⟩
 ·simp only [Qc6,hu,hd,he]
 ·rw [hl]
  have:=V.os (σ:=fun k=>if k=nx then some (Qk q) else σ k) (hf:=hf) (nx:=nx+1) (a:=Qk q) 1 nx 0 s.size 1 (by omega) (by simp) (by omega)
  rw [Nat.zero_mul] at this
  exact this
 ·refine .rows (N:= []) (AH.upd_same _ _ _) (JG q) (fun r hr=> ?_) ?_ ?_
  ·obtain ⟨n,_,rfl⟩:=List.mem_map.1 hr
   rfl
  ·rw [Qfh,List.length_map,List.length_map];omega
  ·rw [Qcv,Qfh,List.take_of_length_le (by rw [List.length_map,List.length_map];omega)]
   exact Qjm _ _ _ _
section
variable {α : Type}
def JJ (f:Nat→α) (w k n:Nat):List α:=(List.range n).map fun j=>f (k+w*j)
def Jb (f:Nat→α) (w k:Nat) (a:List α) (i:Nat):List α:=JJ f w k i++a.drop i
theorem YZ (f:Nat→α) (w k n:Nat):(JJ f w k n).length=n:=by simp [JJ]
theorem QbG {f:Nat→α} {w k:Nat} {a:List α} {i:Nat} (h:i≤a.length):(Jb f w k a i).length=a.length:=by
 simp only [Jb,List.length_append,YZ,List.length_drop]
 omega
theorem QiU {f:Nat→α} {w k:Nat} {a:List α} {i:Nat} (h:i≤a.length) (h2:¬i<a.length):Jb f w k a i=JJ f w k a.length:=by
 obtain rfl:i=a.length:=by omega
 simp [Jb]
theorem QiX {f:Nat→α} {w k:Nat} {a:List α} {i:Nat} (h:i<a.length):(Jb f w k a i).set i (f (k+w*i))=Jb f w k a (i+1):=by
 unfold Jb
 rw [List.drop_eq_getElem_cons h,List.set_append_right _ _ (by rw [YZ];omega),YZ,Nat.sub_self,List.set_cons_zero]
 simp only [JJ,List.range_succ,List.map_append,List.map_cons,List.map_nil,List.append_assoc,List.cons_append,List.nil_append]
theorem QmM {f:Nat→α} {w k i:Nat} {a:List α} {x:α} (h:a=JJ f w k a.length) (hx:a[i]? =some x):x=f (k+w*i):=by
 rw [h] at hx
 unfold JJ at hx
 rw [List.getElem?_map] at hx
 obtain ⟨j,h1,rfl⟩:=Option.map_eq_some_iff.1 hx
 obtain ⟨h2,h3⟩:=List.getElem?_eq_some_iff.1 h1
 rw [List.getElem_range] at h3
 rw [h3]
theorem QgW {l:List α} {i:Nat} {v:α} (h:i<l.length):(l.set i v)[i]? =some v:=by simp [h]
end
end Go.Proofs.YtcccmceoplcciaaGreat.AE
namespace Go.Proofs.YtcccmceoplcciaaGreat.AE
open Go Go.RowKit
set_option linter.unusedVariables false
set_option linter.unusedSimpArgs false
def eM (l:List (Int×Int)):List (T×T):=l.map fun p=>(.int .i64 p.1, .int .i64 p.2)
def vM (l:List (Int×Int)):List (Value×Value):=l.map fun p=>(.int .i64 p.1, .int .i64 p.2)
def QbV : List (Int×Int)→Int→Int→List (Int×Int)
 | [],n,v=> [(n,v)]
 | p::r,n,v=>if n=p.1 then (n,v)::r else p::QbV r n v
theorem RL.ints {hf:AH}:∀ {l:List Int} {vs:List Value},RL hf (l.map (fun n=>T.int .i64 n)) vs→vs=l.map (fun n=>Value.int .i64 n)
 | [],vs,h=>List.eq_nil_of_length_eq_zero h.1.symm
 | n::l,[],h=>by cases h.1
 | n::l,v::vs,h=>by
  obtain ⟨h1,h2⟩:=RL.tail h
  cases h1
  rw [RL.ints h2]
  rfl
theorem Qmi {ev:List (Value×Value)} {l:List (Int×Int)} (h1:RL (fun _=>none) ((eM l).map (·.1)) (ev.map (·.1))) (h2:RL (fun _=>none) ((eM l).map (·.2)) (ev.map (·.2))):ev=vM l:=by
 have e1:(eM l).map (·.1)=(l.map (·.1)).map (fun n=>T.int .i64 n):=by simp [eM,Function.comp_def]
 have e2:(eM l).map (·.2)=(l.map (·.2)).map (fun n=>T.int .i64 n):=by simp [eM,Function.comp_def]
 rw [e1] at h1
 rw [e2] at h2
 have g1:=RL.ints h1
 have g2:=RL.ints h2
 clear h1 h2 e1 e2
 induction l generalizing ev with
 | nil=>simpa [vM] using g1
 | cons p l ih =>
  cases ev with
  | nil=>simp at g1
  | cons q ev =>
   simp only [List.map_cons,List.cons.injEq] at g1 g2
   rw [ih g1.2 g2.2]
   show q::vM l=(_,_)::vM l
   rw [← g1.1,← g2.1]
theorem QgE (hf:AH):∀l:List Int,RL hf (l.map (fun n=>T.int .i64 n)) (l.map (fun n=>Value.int .i64 n))
 | []=>RL.nil hf
 | n::l=>RL.cons (.int _ _) (QgE hf l)
theorem Qmp (l:List (Int×Int)):RL (fun _=>none) ((eM l).map (·.1)) ((vM l).map (·.1))∧RL (fun _=>none) ((eM l).map (·.2)) ((vM l).map (·.2)):=by
 constructor
 ·have:=QgE (fun _=>none) (l.map (·.1))
  simpa [eM,vM,Function.comp_def] using this
 ·have:=QgE (fun _=>none) (l.map (·.2))
  simpa [eM,vM,Function.comp_def] using this
theorem Qhl (n v:Int):∀l:List (Int×Int),(∃j w,Qbd .i64 n (vM l)=some (some (j,w))∧(vM l).set j (.int .i64 n, .int .i64 v)=vM (QbV l n v))∨(Qbd .i64 n (vM l)=some none∧vM l++ [(.int .i64 n, .int .i64 v)]=vM (QbV l n v))
 | []=> .inr ⟨rfl,rfl⟩
 | p::r=>by
  by_cases h:n=p.1
  ·refine .inl ⟨0, .int .i64 p.2,?_,?_⟩
   ·simp [vM,Qbd,h]
   ·simp [vM,QbV,h]
  ·have hb:(n == p.1)=false:=by simp [h]
   rcases Qhl n v r with ⟨j,w,h1,h2⟩ | ⟨h1,h2⟩
   ·refine .inl ⟨j+1,w,?_,?_⟩
    ·show Qbd .i64 n ((.int .i64 p.1, .int .i64 p.2)::vM r)=_
     simp only [Qbd,if_true,hb,Bool.false_eq_true,if_false,h1]
     rfl
    ·simp only [QbV,if_neg h]
     show (_::(vM r)).set (j+1) _=_::vM (QbV r n v)
     rw [List.set_cons_succ,h2]
   ·refine .inr ⟨?_,?_⟩
    ·show Qbd .i64 n ((.int .i64 p.1, .int .i64 p.2)::vM r)=_
     simp only [Qbd,if_true,hb,Bool.false_eq_true,if_false,h1]
     rfl
    ·simp only [QbV,if_neg h]
     show _::(vM r++_)=_::vM (QbV r n v)
     rw [h2]
def Qbe : List (Int×Int)→Int→Int
 | [],_=>0
 | p::r,n=>if n=p.1 then p.2 else Qbe r n
theorem QhU (n v c:Int):∀l:List (Int×Int),Qbe (QbV l n v) c=if c=n then v else Qbe l c
 | []=>by simp [QbV,Qbe]
 | p::r=>by
  simp only [QbV]
  by_cases h:n=p.1
  ·rw [if_pos h]
   simp only [Qbe]
   by_cases h2:c=n
   ·rw [if_pos h2,if_pos h2]
   ·rw [if_neg h2,if_neg h2,if_neg (fun e=>h2 (e.trans h.symm))]
  ·rw [if_neg h]
   simp only [Qbe,QhU n v c r]
   by_cases h2:c=n
   ·subst h2;simp [h]
   ·simp [h2]
theorem Qhw (n:Int):∀l:List (Int×Int),∃o,Qbd .i64 n (vM l)=some o∧(o.map (·.2)).getD (.int .i64 0)= .int .i64 (Qbe l n)
 | []=>⟨none,rfl,rfl⟩
 | p::r=>by
  by_cases h:n=p.1
  ·exact ⟨some (0, .int .i64 p.2),by simp [vM,Qbd,h],by simp [Qbe,h]⟩
  ·have hb:(n == p.1)=false:=by simp [h]
   obtain ⟨o,h1,h2⟩:=Qhw n r
   refine ⟨o.map fun x=>(x.1+1,x.2),?_,?_⟩
   ·show Qbd .i64 n ((.int .i64 p.1, .int .i64 p.2)::vM r)=_
    simp only [Qbd,if_true,hb,Bool.false_eq_true,if_false,h1]
    rfl
   ·simp only [Qbe,if_neg h,← h2]
    cases o<;>rfl
theorem V.omInv {σ:Nat→Option Nat} {hf:AH} {nx k:Nat} {v:Value} (h:V σ hf nx (.om k) v):∃a,v= .map (some a)∧σ k=some a∧k<nx:=by
 cases h with
 | fz hr=>cases hr
 | om k hk hs=>exact ⟨_,rfl,hs,hk⟩
section
variable {call : QN} {P : Program} {E : Q2} {O : Qz} {d : Option Tmp} {ty tt kt et : TypeId} {ps : String} {af : Array Edge} {g : Option (Nat × Bool)} {x y z : Operand} {nx k : Nat} {l l' : List (Int × Int)}
theorem B.makeMap : OM call P E nx ⟨d, .makeMap tt none,ty,ps,af,g⟩ (.om nx) (.map (eM [])):=fun q σ hf Ea he =>
 ⟨.map (some (Qk q)), .map [],some (Qk q),[Qk q],fun h=>X.makeMap, .inl ⟨rfl,rfl⟩, .om nx (by omega) (by simp),fun h=> .map (AH.upd_same _ _ _) (JG _) (RL.nil _) (RL.nil _)⟩
theorem B.mapSet {n v:Int} {k0:IntKind} (hx:VEv E x (.om k)) (hy:VEv E y (.int .i64 n)) (hz:VEv E z (.int .i64 v)) (hk:gO O k=some (.map (eM l))) (hu:P.underlying tt=some (.map kt et)) (hkt:P.underlying kt=some (.int k0)) (hl:QbV l n v=l'):OC call P E O nx ⟨d, .mapUpdate tt x y z,ty,ps,af,g⟩ .any ((k,some (.map (eM l')))::O) nx [k]:=⟨Nat.le_refl _,fun q p h0 σ hf own Ea h hs hu' hF=>by
 subst hl
 obtain ⟨v1,a1,a2⟩:=hx σ hf nx Ea hs.env
 obtain ⟨v2,a3,a4⟩:=hy σ hf nx Ea hs.env
 obtain ⟨v3,a5,a6⟩:=hz σ hf nx Ea hs.env
 obtain ⟨a,rfl,h3,h4⟩:=a2.omInv
 obtain rfl:=a4.intInv
 obtain rfl:=a6.intInv
 obtain ⟨N,hN1,hN2,h5⟩:=hs.objAt hk
 rw [h3] at h5
 cases h5 with
 | map hh hodd g1 g2 =>
  rename_i ev
  obtain rfl:=Qmi g1 g2
  have hown:own a=some k:=hN2 a (by simp)
  have hset:Qbz P tt h (.map (some a)) (.int .i64 n) (.int .i64 v)=some (h.upd a (some (.map (vM (QbV l n v))))):=by
   simp only [Qbz,hu,hkt,hh]
   rcases Qhl n v l with ⟨j,w,e1,e2⟩ | ⟨e1,e2⟩
   ·simp only [e1,e2]
   ·simp only [e1,e2]
  refine ⟨undef,_,σ,own,X.mapUpdate a1 a3 a5 hset,Dom.old (by rw [hh];simp) _,fun _ _=>rfl,hs.upd h3 h4 hown (N:= [a]) (by simp) (by simpa using hown) (.map (AH.upd_same _ _ _) hodd (Qmp _).1 (Qmp _).2), .any _,fun b hb hnk=>AH.upd_ne _ (fun e=> ?_) _,fun b k' e=> .inl e⟩
  exact hnk k (by simp) (e▸hown)⟩
theorem B.mapGet {n:Int} {k0:IntKind} (hx:VEv E x (.om k)) (hy:VEv E y (.int .i64 n)) (hk:gO O k=some (.map (eM l))) (hu:P.underlying tt=some (.map kt et)) (hkt:P.underlying kt=some (.int k0)) (hz:Zd P et=some (.int .i64 0)):OL call P E O ⟨d, .lookup tt x y false,ty,ps,af,g⟩ (.int .i64 (Qbe l n)):=fun q p h0 σ hf own nx Ea h hs=>by
 obtain ⟨v1,a1,a2⟩:=hx σ hf nx Ea hs.env
 obtain ⟨v2,a3,a4⟩:=hy σ hf nx Ea hs.env
 obtain ⟨a,rfl,h3,h4⟩:=a2.omInv
 obtain rfl:=a4.intInv
 obtain ⟨N,hN1,hN2,h5⟩:=hs.objAt hk
 rw [h3] at h5
 cases h5 with
 | map hh hodd g1 g2 =>
  rename_i ev
  obtain rfl:=Qmi g1 g2
  obtain ⟨o,e1,e2⟩:=Qhw n l
  refine ⟨_,X.lookup a1 a3 (w:= .int .i64 (Qbe l n)) ?_, .fz (.int _ _)⟩
  have hc:closedV (.int .i64 0)=true:=rfl
  simp only [QcG,hu,hkt,hh,hz,hc,e1,Option.map_some,e2,and_self,if_true]
end
end Go.Proofs.YtcccmceoplcciaaGreat.AE
namespace Go.Proofs.YtcccmceoplcciaaGreat.AE
open Go Go.RowKit
set_option linter.unusedVariables false
set_option linter.unusedSimpArgs false
theorem V.vpInv {σ:Nat→Option Nat} {hf:AH} {nx:Nat} {ts:List T} {v:Value} (h:V σ hf nx (.vp ts) v):∃a o es cs,v= .pointer (some ⟨a,o,none⟩)∧hf a=some (.cells es cs)∧o+ts.length≤cs.length∧∀i,i<ts.length→V σ hf nx (ts.getD i .any) (cs.getD (o+i) undef):=by
 cases h with
 | fz hr=>cases hr
 | vp ts o hk hfit h=>exact ⟨_,o,_,_,rfl,hk,hfit,h⟩
section
variable {call : QN} {P : Program} {E : Q2} {O : Qz} {d : Option Tmp} {ty tt : TypeId} {ps : String} {af : Array Edge} {g : Option (Nat × Bool)} {x y z : Operand} {t : T} {nx : Nat}
theorem OL.loadV1 {ts:List T} (hx:VEv E x (.vp ts)) (ht:ts[0]? =some t) (hst:Qw P tt=some false):OL call P E O ⟨d, .load tt x,ty,ps,af,g⟩ t:=fun q p h0 σ hf own nx Ea h hs=>by
 obtain ⟨v,h1,h2⟩:=hx σ hf nx Ea hs.env
 obtain ⟨a,o,es,cs,rfl,h3,h4,h5⟩:=h2.vpInv
 have hlt:0<ts.length:=(List.getElem?_eq_some_iff.1 ht).1
 have h6:=h5 0 hlt
 rw [Nat.add_zero,List.getD_eq_getElem?_getD,ht,List.getD_eq_getElem?_getD,List.getElem?_eq_getElem (show o<cs.length by omega)] at h6
 exact ⟨_,X.load h1 (JI hst (hs.fro _ _ h3).1 (List.getElem?_eq_getElem (show o<cs.length by omega))),h6⟩
end
def Loan (call:QN) (f:FuncId) (sz:Nat) (rows:List (List T)) (ts:List T) (r:T) (rows':List (List T)):Prop:=∀(h:AH) (p:Nat) (hf:AH) (σ:Nat→Option Nat) (N:List Nat) (vs:List Value),Fr p h→(∀b o,hf b=some o→h b=some o∧b∉N)→N.Nodup→ObjR σ hf 1 h (.rows sz rows) (σ 0) N→VL σ hf 1 ts vs →
 CallS call f vs h p (fun v h'=>(∀b,h b≠none→b∉N→h' b=h b)∧V σ hf 1 r v∧ObjR σ hf 1 h' (.rows sz rows') (σ 0) N)
inductive Pin : T→Prop
 | os (sz n:Nat):Pin (.os sz 0 0 n)
 | vp (sz n:Nat):Pin (.vp [.os sz 0 0 n])
inductive LRes : T→Prop
 | none:LRes (.tup [])
 | int (k:IntKind) (n:Int):LRes (.int k n)
 | bool (b:Bool):LRes (.bool b)
 | os (sz n:Nat):LRes (.os sz 0 0 n)
def vloan (P:Program) (rs:List ResultVar) (j:Nat) (pin:T) (sz:Nat) (rows':List (List T)) (r:T):AX→Q2→Qz→Nat→Prop
 | .exit _,_,_,_=>False
 | _,E,O,_=>∃k ts,VRes P E O rs ts∧QdC ts=ren (fun _=>k) r∧gE E j=ren (fun _=>k) pin∧gO O k=some (.rows sz rows')
theorem vloan.r {P:Program} {rs:List ResultVar} {j sz nx:Nat} {pin r:T} {rows rows':List (List T)} {E:Q2} {O:Qz} {ts:List T} (k:Nat) (h:VRes P E O rs ts) (h1:QdC ts=ren (fun _=>k) r) (h2:gE E j=ren (fun _=>k) pin) (h3:gO O k=some (.rows sz rows)) (e:rows=rows'):vloan P rs j pin sz rows' r .ret E O nx:=⟨k,ts,h,h1,h2,e▸h3⟩
theorem vloan.n {P:Program} {rs:List ResultVar} {j sz nx:Nat} {pin r:T} {rows rows':List (List T)} {E:Q2} {O:Qz} {ts:List T} (k:Nat) (h:VRes P E O rs ts) (h1:QdC ts=ren (fun _=>k) r) (h2:gE E j=ren (fun _=>k) pin) (h3:gO O k=some (.rows sz rows)) (e:rows=rows'):vloan P rs j pin sz rows' r .normal E O nx:=⟨k,ts,h,h1,h2,e▸h3⟩
theorem Qlm {σ σ':Nat→Option Nat} {hf hf':AH} {nx nx' sz k n:Nat} {v:Value} (h:V σ hf nx (.os sz 0 0 n) v) (h':V σ' hf' nx' (.os sz k 0 n) v):σ' k=σ 0:=by
 obtain ⟨_,⟨a,m,e1,e2,e3⟩ | ⟨e1,_,e2,e3⟩⟩:=h.osInv
 ·obtain ⟨_,⟨a',m',f1,f2,f3⟩ | ⟨f1,_,f2,f3⟩⟩:=h'.osInv
  ·rw [e1] at f1
   simp only [Value.slice.injEq,Option.some.injEq,Addr.mk.injEq] at f1
   rw [e2,f2,f1.1.1]
  ·subst e1
   rcases f3 with f3 | ⟨b,o,f3⟩
   ·exact absurd f3 (by simp)
   ·simp only [Value.slice.injEq] at f3
    omega
 ·obtain ⟨_,⟨a',m',f1,f2,f3⟩ | ⟨f1,_,f2,f3⟩⟩:=h'.osInv
  ·subst f1
   rcases e3 with e3 | ⟨b,o,e3⟩
   ·exact absurd e3 (by simp)
   ·simp only [Value.slice.injEq] at e3
    omega
  ·rw [e1,f1]
theorem Pin.same {σ σ':Nat→Option Nat} {hf hf':AH} {nx nx' k:Nat} {pin:T} {v:Value} (hp:Pin pin) (hm:∀a o,hf a=some o→hf' a=some o) (h:V σ hf nx pin v) (h':V σ' hf' nx' (ren (fun _=>k) pin) v):σ' k=σ 0:=by
 cases hp with
 | os sz n=>exact Qlm h h'
 | vp sz n =>
  obtain ⟨a,o,es,cs,rfl,e1,e2,e3⟩:=h.vpInv
  obtain ⟨a',o',es',cs',f0,f1,f2,f3⟩:=V.vpInv h'
  simp only [Value.pointer.injEq,Option.some.injEq,Addr.mk.injEq] at f0
  obtain ⟨rfl,rfl,_⟩:=f0
  rw [hm _ _ e1] at f1
  cases f1
  have g1:=e3 0 (by simp)
  have g2:=f3 0 (by simp [Qay])
  exact Qlm g1 g2
theorem LRes.back {σ σ':Nat→Option Nat} {hf hf':AH} {nx nx' k:Nat} {r:T} {v:Value} (hr:LRes r) (h0:0<nx) (hσ:σ' k=σ 0) (h:V σ' hf' nx' (ren (fun _=>k) r) v):V σ hf nx r v:=by
 cases hr with
 | none =>
  obtain ⟨l,rfl,h1⟩:=V.tupL h
  obtain rfl:=List.eq_nil_of_length_eq_zero h1.1.symm
  exact .fz (.tup [] #[] rfl (fun i hi=>by simp at hi))
 | int k n=>obtain rfl:=V.intInv h;exact .fz (.int _ _)
 | bool b=>obtain rfl:=V.boolInv h;exact .fz (.bool _)
 | os sz n =>
  obtain ⟨_,⟨a,m,rfl,e2,e3⟩ | ⟨e1,e4,e2,e3⟩⟩:=V.osInv h
  ·exact .os sz 0 0 n m h0 (hσ.symm.trans e2) e3
  ·subst e2
   rcases e3 with rfl | ⟨a,o,rfl⟩
   ·exact .os0 sz 0 h0 (hσ.symm.trans e1)
   ·exact .ose sz 0 a o h0 (hσ.symm.trans e1)
theorem ObjR.one {σ:Nat→Option Nat} {hf h:AH} {nx sz:Nat} {rows:List (List T)} {oa:Option Nat} {N:List Nat} (h1:ObjR σ hf nx h (.rows sz rows) oa N) (hsc:scR rows):(oa=Option.none∧N= []∧rows= [])∨∃a,oa=some a∧N= [a]∧h a≠Option.none:=by
 cases h1 with
 | none sz=>exact .inl ⟨rfl,rfl,rfl⟩
 | rows hk hodd hlen hfit hs =>
  obtain rfl:=hs.sc hsc.flat
  exact .inr ⟨_,rfl,rfl,by rw [hk];simp⟩
theorem ObjR.scM {σ σ':Nat→Option Nat} {hf hf' h h':AH} {nx nx' sz:Nat} {rows:List (List T)} {oa:Option Nat} {N:List Nat} (h1:ObjR σ hf nx h (.rows sz rows) oa N) (hsc:scR rows) (hh:∀a∈N,h' a=h a):ObjR σ' hf' nx' h' (.rows sz rows) oa N:=by
 cases h1 with
 | none sz=>exact .none sz
 | rows hk hodd hlen hfit hs =>
  obtain rfl:=hs.sc hsc.flat
  exact .rows ((hh _ (by simp)).trans hk) hodd hlen hfit (SL.mono (fun _ _ e=>e) (SL.clean hs (fun t ht=>QcA (hsc.flat t ht))) (by simp))
theorem Loan.intro {P:Program} {f:FuncId} {fn:Func} {c:Code} {n sz j:Nat} {ts:List T} {r pin:T} {rows rows':List (List T)} {rs:List ResultVar} (hf:P.funcs[f]? =some fn) (hb:fn.body=some c) (hc:ZM fn.ntmps c=true) (hrs:fn.results.toList=rs) (hn:noW j c=true) (hj:ts[j]? =some pin) (hpin:Pin pin) (hr0:LRes r) (hsc:scR rows) (hsc':scR rows') {E0:Q2} (hE:Qek 0 ts=E0)
  (hr:VRun (Qq P n) P c E0 [(0,some (.rows sz rows))] 1 (vloan P rs j pin sz rows' r)) (hpr:Qap f=true:=by rfl):Loan (Qq P (n+1)) f sz rows ts r rows':=by
 subst hE
 intro h p hfz σ N vs hfp hfN hnd hO hvs
 classical
 let hb0:AH:=fun b=>if b∈N then none else h b
 have hb1:∀b,b∉N→hb0 b=h b:=fun b hb=>if_neg hb
 have hb2:∀b,b∈N→hb0 b=none:=fun b hb=>if_pos hb
 have hb3:∀b o,hb0 b=some o→b∉N∧h b=some o:=fun b o hb=>by
  by_cases hm:b∈N
  ·rw [hb2 b hm] at hb;cases hb
  ·exact ⟨hm,(hb1 b hm).symm.trans hb⟩
 have hsub:∀b o,hfz b=some o→hb0 b=some o:=fun b o hb=>(hb1 b (hfN b o hb).2).trans (hfN b o hb).1
 have hNn:∀a∈N,h a≠none:=fun a ha=>by
  rcases hO.one hsc with ⟨_,rfl,_⟩ | ⟨a',_,rfl,h3⟩
  ·cases ha
  ·obtain rfl:=List.mem_singleton.1 ha
   exact h3
 have hjl:j<ts.length:=(List.getElem?_eq_some_iff.1 hj).1
 have hs0:SR p ⟨hb0,fun b=>b∈N⟩ σ hb0 (fun b=>if b∈N then some 0 else none) (Qek 0 ts) [(0,some (.rows sz rows))] 1 (fun t=>vs.getD t undef) h:=by
  refine ⟨fun t=> ?_,fun k o hk=> ?_,fun a o ha=>⟨(hb3 a o ha).2,if_neg (hb3 a o ha).1⟩,fun a k ha=> ?_,fun _ _=>rfl,fun t ht=> ?_⟩
  ·rw [QcN,if_neg (by omega),Nat.sub_zero]
   rcases Nat.lt_or_ge t ts.length with h1 | h1
   ·exact (hvs.2 t h1).mono hsub (Nat.le_refl _) (fun _ _=>rfl)
   ·rw [List.getD_eq_getElem?_getD,List.getElem?_eq_none h1]
    exact .any _
  ·simp only [gO] at hk
   split at hk
   ·rename_i e
    subst e
    obtain rfl:=Option.some.inj hk
    exact ⟨by omega,N,hnd,fun a ha=>if_pos ha,hO.mono hsub (Nat.le_refl _) (fun _ _=>rfl) (fun _ _=>rfl)⟩
   ·cases hk
  ·split at ha
   ·rename_i hm
    obtain rfl:=Option.some.inj ha
    exact ⟨.inr hm,hb2 a hm,hNn a hm,by omega⟩
   ·cases ha
  ·by_cases hm:t∈N
   ·exact .inr (.inr hm)
   ·exact .inl (by show hb0 t≠none;rw [hb1 t hm];exact ht)
 unfold VRun at hr
 have hrun:=hr p _ σ _ _ _ h 0 hs0
 have hrun2:Run (Qq P n) P p c ⟨fun t=>vs.getD t undef,h,0⟩ (fun e s=>KK p ⟨hb0,fun b=>b∈N⟩ (vloan P rs j pin sz rows' r e) s.E s.h∧s.E j=vs.getD j undef):=by
  unfold Run at hrun ⊢
  intro hfc
  obtain ⟨e,s',h1,h2,h3⟩:=hrun hfc
  exact ⟨e,s',h1,h2,h3,Yj _ _ _ _ hn h1⟩
 refine CallS.intro (hpr:=hpr) (rs:=rs) hf hb hc hfp hrs (Run.mono hrun2 ?_)
 rintro e s' ⟨⟨σ',hf',own',E,O,nx,h1,h2⟩,h0⟩
 have key:(∃k ts,VRes P E O rs ts∧QdC ts=ren (fun _=>k) r∧gE E j=ren (fun _=>k) pin∧gO O k=some (.rows sz rows'))→∃l,JP P s'.h s'.E rs=some l∧(fun v h'=>(∀b,h b≠none→b∉N→h' b=h b)∧V σ hfz 1 r v∧ObjR σ hfz 1 h' (.rows sz rows') (σ 0) N) (YU l) (if Q7 (YU l) then YI h s'.h else Qbc p h s'.h):=by
  rintro ⟨k,us,g1,g2,g3,g4⟩
  obtain ⟨l,l1,l2⟩:=g1.run h1
  have g5:V σ' hf' nx (QdC us) (YU l):=by
   have hlen:=l2.1
   match us,l,l2,hlen with
   | [],[],g4,_=>exact g4.toTup
   | [t],[v],g4,_ =>
    obtain ⟨v',r',e,g6,_⟩:=g4.tail
    cases e
    exact g6
   | t::t'::us,v::v'::l,g4,_=>exact g4.toTup
   | [],_::_,_,hl=>cases hl
   | [_],[],_,hl=>cases hl
   | [_],_::_::_,_,hl=>cases hl
   | _::_::_,[],_,hl=>cases hl
   | _::_::_,[_],_,hl=>cases hl
  have hbase:∀a o,hb0 a=some o→hf' a=some o:=fun a o ha=>by
   have e3:hf' a=hb0 a:=h1.base a (by show hb0 a≠none;rw [ha];simp)
   rw [e3,ha]
  have hσ:σ' k=σ 0:=by
   have p1:=hvs.2 j hjl
   rw [List.getD_eq_getElem?_getD,hj] at p1
   have p2:=h1.env j
   rw [g3,h0] at p2
   exact hpin.same (fun a o ha=>hbase a o (hsub a o ha)) p1 p2
  have hold:∀b,h b≠none→(if Q7 (YU l) then YI h s'.h else Qbc p h s'.h) b=s'.h b:=fun b hb=>by
   split
   ·unfold YI
    cases hh:h b with
    | none=>exact absurd hh hb
    | some o=>rfl
   ·exact Qes (.inl hb)
  refine ⟨l,l1,fun b hb hbN=> ?_,hr0.back (by omega) hσ (by rw [← g2];exact g5),?_⟩
  ·rw [hold b hb]
   obtain ⟨o,ho⟩:=Option.ne_none_iff_exists'.1 hb
   rw [(h1.fro b o (hbase b o ((hb1 b hbN).trans ho))).1,ho]
  ·obtain ⟨M,hM1,hM2,e4⟩:=h1.objAt g4
   rw [hσ] at e4
   have hMN:M=N:=by
    rcases hO.one hsc with ⟨q1,rfl,_⟩ | ⟨a,q1,rfl,_⟩
    ·rcases e4.one hsc' with ⟨_,rfl,_⟩ | ⟨a',q3,_,_⟩
     ·rfl
     ·rw [q1] at q3;cases q3
    ·rcases e4.one hsc' with ⟨q3,_,_⟩ | ⟨a',q3,rfl,_⟩
     ·rw [q1] at q3;cases q3
     ·rw [q1] at q3;rw [Option.some.inj q3]
   subst hMN
   exact e4.scM hsc' (fun a ha=>hold a (hNn a ha))
 cases e with
 | normal=>unfold fin;exact key h2
 | ret=>unfold fin;exact key h2
 | exit id=>exact h2.elim
section
variable {call : QN} {P : Program} {E : Q2} {O : Qz} {d : Option Tmp} {ty : TypeId} {ps : String} {af : Array Edge} {g : Option (Nat × Bool)} {nx : Nat}
theorem LRes.fwd {σ σ':Nat→Option Nat} {hf hf':AH} {nx nx' k:Nat} {r:T} {v:Value} (hr:LRes r) (hk:k<nx') (hσ:σ' k=σ 0) (h:V σ hf nx r v):V σ' hf' nx' (ren (fun _=>k) r) v:=by
 cases hr with
 | none =>
  obtain ⟨l,rfl,h1⟩:=V.tupL h
  obtain rfl:=List.eq_nil_of_length_eq_zero h1.1.symm
  exact .fz (.tup [] #[] rfl (fun i hi=>by simp at hi))
 | int k n=>obtain rfl:=V.intInv h;exact .fz (.int _ _)
 | bool b=>obtain rfl:=V.boolInv h;exact .fz (.bool _)
 | os sz n =>
  obtain ⟨_,⟨a,m,rfl,e2,e3⟩ | ⟨e1,e4,e2,e3⟩⟩:=V.osInv h
  ·exact .os sz k 0 n m hk (hσ.trans e2) e3
  ·subst e2
   rcases e3 with rfl | ⟨a,o,rfl⟩
   ·exact .os0 sz k hk (hσ.trans e1)
   ·exact .ose sz k a o hk (hσ.trans e1)
theorem OC.loanX {f:FuncId} {o:Oper} {ts0 ts:List T} {sz k:Nat} {r:T} {rows rows':List (List T)} (ho:∀(q p:Nat) (h0:LB) (σ:Nat→Option Nat) (hf:AH) (own:Nat→Option Nat) (Ea:Nat→Value) (h:AH),SR p h0 σ hf own E O nx Ea h→∃vs,aop P q Ea h o=some (.enter f vs)∧VL σ hf nx ts0 vs) (hk:gO O k=some (.rows sz rows)) (hts:Qay (fun _=>k) ts=ts0) (htl:Yv 1 ts=true) (hr0:LRes r) (hsc:scR rows) (hsc':scR rows') (hp:Loan call f sz rows ts r rows') :
  OC call P E O nx o (ren (fun _=>k) r) ((k,some (.rows sz rows'))::O) nx [k]:=⟨Nat.le_refl _,fun q p h0 σ hf own Ea h hs hu hF=>by
 subst hts
 obtain ⟨vs,h1,h2⟩:=ho q p h0 σ hf own Ea h hs
 obtain ⟨hkn,N,hN1,hN2,h5⟩:=hs.obj k _ hk
 have hl:VL (fun _=>σ k) hf 1 ts vs:=by
  refine ⟨by have:=h2.1;rw [Zr,List.length_map] at this;exact this,fun i hi=> ?_⟩
  have h6:=h2.2 i (by rw [Zr,List.length_map];exact hi)
  refine V.ren (σ':=fun _=>σ k) (nx':=1) (fun _ _=>rfl) h6 ?_ ?_
  ·rw [Zr]
   simp [List.getD_eq_getElem?_getD,hi]
  ·rw [YO,List.all_eq_true] at htl
   refine htl _ ?_
   rw [List.getD_eq_getElem?_getD,List.getElem?_eq_getElem hi]
   exact List.getElem_mem hi
 have h6:=hp h q hf (fun _=>σ k) N vs hF (fun b o hb=>⟨(hs.fro b o hb).1,fun hm=>by have:=hN2 b hm;rw [(hs.fro b o hb).2] at this;cases this⟩) hN1 (h5.scM hsc (fun _ _=>rfl)) hl
 unfold CallS at h6
 obtain ⟨v,h',k1,k2,k3,k4,k5⟩:=h6
 refine ⟨v,h',σ,own,by simp only [QA,h1,k1],k2,fun _ _=>rfl,⟨hs.env,fun k' o hk'=> ?_,fun b o hb=> ?_,fun b k' hb=> ?_,hs.base,fun t ht=> ?_⟩,hr0.fwd hkn rfl k4,fun b hb hnk=>k3 b hb (fun hm=>hnk k (by simp) (hN2 b hm)),fun b k' e=> .inl e⟩
 ·simp only [gO] at hk'
  split at hk'
  ·rename_i e
   subst e
   obtain rfl:=Option.some.inj hk'
   exact ⟨hkn,N,hN1,hN2,k5.scM hsc' (fun _ _=>rfl)⟩
  ·rename_i hne
   obtain ⟨m1,N2,m2,m3,m4⟩:=hs.obj k' o hk'
   refine ⟨m1,N2,m2,m3,m4.mono (fun _ _ e=>e) (Nat.le_refl _) (fun _ _=>rfl) (fun b hb=>k3 b (hs.mine b k' (m3 b hb)).2.2.1 (fun hm=> ?_))⟩
   have:=hN2 b hm
   rw [m3 b hb] at this
   exact hne (Option.some.inj this)
 ·obtain ⟨m1,m2⟩:=hs.fro b o hb
  refine ⟨?_,m2⟩
  rw [k3 b (by rw [m1];simp) (fun hm=>by have:=hN2 b hm;rw [m2] at this;cases this)]
  exact m1
 ·obtain ⟨m1,m2,m3,m4⟩:=hs.mine b k' hb
  refine ⟨m1,m2,?_,m4⟩
  by_cases hm:b∈N
  ·rcases k5.one hsc' with ⟨_,rfl,_⟩ | ⟨a,_,rfl,h3⟩
   ·cases hm
   ·obtain rfl:=List.mem_singleton.1 hm
    exact h3
  ·rw [k3 b m3 hm]
   exact m3
 ·rcases k2 t ht with e | e
  ·exact hs.dom t e
  ·exact .inr (hu t e)⟩
theorem OC.callLoan {f:FuncId} {args:Array Operand} {tys:Array TypeId} {ts0 ts:List T} {sz k:Nat} {r r':T} {rows rows':List (List T)} (hb:Yo P f=true) (ha:VEvs E args.toList ts0) (hk:gO O k=some (.rows sz rows)) (hts:Qay (fun _=>k) ts=ts0) (htl:Yv 1 ts=true) (hr0:LRes r) (hrr:ren (fun _=>k) r=r') (hsc:scR rows) (hsc':scR rows') (hp:Loan call f sz rows ts r rows') :
  OC call P E O nx ⟨d, .call ⟨.value (.func f),args,tys⟩,ty,ps,af,g⟩ r' ((k,some (.rows sz rows'))::O) nx [k]:=hrr▸OC.loanX (fun q p h0 σ hf own Ea h hs=>by
 obtain ⟨vs,h1,h2⟩:=ha σ hf nx Ea hs.env
 exact ⟨vs,X.calls hb h1,h2⟩) hk hts htl hr0 hsc hsc' hp
theorem VL.app {σ:Nat→Option Nat} {hf:AH} {nx:Nat}:∀ {ts us:List T} {vs ws:List Value},VL σ hf nx ts vs→VL σ hf nx us ws→VL σ hf nx (ts++us) (vs++ws)
 | [],us,vs,ws,h,h2=>by
  obtain rfl:=List.eq_nil_of_length_eq_zero h.1.symm
  exact h2
 | t::ts,us,vs,ws,h,h2=>by
  obtain ⟨v,l,rfl,h3,h4⟩:=h.tail
  exact .cons h3 (VL.app h4 h2)
theorem OC.callvLoan {f:FuncId} {a:Tmp} {args:Array Operand} {tys:Array TypeId} {ts0 ts caps:List T} {sz k:Nat} {r r':T} {rows rows':List (List T)} (hf:gE E a= .fn f caps) (hb:Yo P f=true) (ha:VEvs E args.toList ts0) (hk:gO O k=some (.rows sz rows)) (hts:Qay (fun _=>k) ts=ts0++caps) (htl:Yv 1 ts=true) (hr0:LRes r) (hrr:ren (fun _=>k) r=r') (hsc:scR rows) (hsc':scR rows') (hp:Loan call f sz rows ts r rows') :
  OC call P E O nx ⟨d, .call ⟨.value (.tmp a),args,tys⟩,ty,ps,af,g⟩ r' ((k,some (.rows sz rows'))::O) nx [k]:=hrr▸OC.loanX (fun q p h0 σ hf' own Ea h hs=>by
 obtain ⟨vs,h1,h2⟩:=ha σ hf' nx Ea hs.env
 have h3:=hs.env a
 rw [hf] at h3
 obtain ⟨cs,h4,h5⟩:=h3.fnL
 exact ⟨vs++cs,by have:=X.callv (P:=P) (p:=q) (h:=h) (d:=d) (ty:=ty) (ps:=ps) (af:=af) (g:=g) (ts:=tys) h4 hb h1;simpa using this,h2.app h5⟩) hk hts htl hr0 hsc hsc' hp
end
def vtT (f:FuncId) (a b:T):Nat→T
 | 0=> .any
 | d+1=> .vp [.fn f [a,b,vtT f a b d]]
theorem QbQ (g:Nat→Nat) (f:FuncId) (a b:T):∀d,ren g (vtT f a b d)=vtT f (ren g a) (ren g b) d
 | 0=>rfl
 | d+1=>by simp only [vtT,ren,Qay,QbQ g f a b d]
theorem QdB {n:Nat} {f:FuncId} {a b:T} (ha:Y6 n a=true) (hb:Y6 n b=true):∀d,Y6 n (vtT f a b d)=true
 | 0=>rfl
 | d+1=>by simp only [vtT,Y6,Yv,ha,hb,QdB ha hb d,Bool.and_true]
theorem tl {n:Nat} {t:T} {ts:List T} (h:Y6 n t=true) (hr:Yv n ts=true):Yv n (t::ts)=true:=by simp only [Yv,h,hr,Bool.and_true]
theorem SR.hold {p nx k:Nat} {h0:LB} {hf h:AH} {σ own:Nat→Option Nat} {E:Q2} {O:Qz} {Ea:Nat→Value} {us:List T} (hs:SR p h0 σ hf own E O nx Ea h) (hk:gO O k=some (.cells us)):∃hf' own' a es cs,SR p h0 σ hf' own' E ((k,none)::O) nx Ea h∧(∀a o,hf a=some o→hf' a=some o)∧σ k=some a∧hf' a=some (.cells es cs)∧VL σ hf nx us cs:=by
 classical
 obtain ⟨hkn,N,hN1,hN2,h3⟩:=hs.obj k _ hk
 cases hσ:σ k with
 | none=>rw [hσ] at h3;cases h3
 | some a =>
 rw [hσ] at h3
 cases h3 with
 | cells hh hodd hv =>
  rename_i es cs
  have howna:=hN2 a (by simp)
  have hmono:∀b o,hf b=some o→(fun b=>if own b=some k then h b else hf b) b=some o:=fun b o ho=>by
   have:=(hs.fro b o ho).2
   simp only [this]
   rw [if_neg (by simp)]
   exact ho
  refine ⟨fun b=>if own b=some k then h b else hf b,fun b=>if own b=some k then none else own b,a,es,cs,⟨fun t=>(hs.env t).mono hmono (Nat.le_refl _) (fun _ _=>rfl),fun k' o hk'=> ?_,fun b o ha=> ?_,fun b k' ha=> ?_,fun b ha=> ?_,hs.dom⟩,hmono,rfl,by simp only [howna,if_true];exact hh,hv⟩
  ·simp only [gO] at hk'
   split at hk'
   ·cases hk'
   ·rename_i hne
    obtain ⟨h1,M,h2,h4,h5⟩:=hs.obj k' o hk'
    refine ⟨h1,M,h2,fun b hb=> ?_,h5.mono hmono (Nat.le_refl _) (fun _ _=>rfl) (fun _ _=>rfl)⟩
    have:=h4 b hb
    simp only [this]
    rw [if_neg (fun e=>hne (Option.some.inj e))]
  ·split at ha
   ·rename_i e
    exact ⟨ha,by simp only [e,if_true]⟩
   ·rename_i e
    obtain ⟨h1,h2⟩:=hs.fro b o ha
    exact ⟨h1,by simp [h2]⟩
  ·split at ha
   ·cases ha
   ·exact hs.mine b k' ha
  ·have:own b≠some k:=fun e=>ha (hs.mine b k e).2.1
   simp only [if_neg this]
   exact hs.base b ha
theorem SR.told {p nx:Nat} {h0:LB} {hf h:AH} {σ own:Nat→Option Nat} {E E':Q2} {O:Qz} {Ea:Nat→Value} (hs:SR p h0 σ hf own E O nx Ea h) (he:∀t,V σ hf nx (gE E' t) (Ea t)):SR p h0 σ hf own E' O nx Ea h:=⟨he,hs.obj,hs.fro,hs.mine,hs.base,hs.dom⟩
theorem V.opAt {σ:Nat→Option Nat} {hf:AH} {nx k o a:Nat} {v:Value} (h:V σ hf nx (.op k o) v) (hσ:σ k=some a):v= .pointer (some ⟨a,o,none⟩):=by
 obtain ⟨a',e1,e2,_⟩:=h.opInv
 rw [hσ] at e2
 rw [e1,Option.some.inj e2]
theorem Wk.recv {E:Q2} {O:Qz} {nx d1 d2 d3 k1 k2 k3 sz k n:Nat} {us:List T} {f:FuncId} (dep:Nat) (e1:gE E d1= .op k1 0) (e2:gE E d2= .op k2 0) (e3:gE E d3= .op k3 0) (o1:gO O k1=some (.cells us)) (o2:gO O k2=some (.cells [.os sz k 0 n])) (o3:gO O k3=some (.cells [.fn f [.op k1 0, .op k2 0, .op k3 0]])) (h12:¬k2=k1) (h13:¬k3=k1) (h23:¬k3=k2) (hpl:∀t∈us,JV t=true) :
  Wk E O nx ((d1, .rp us)::(d2, .vp [.os sz k 0 n])::(d3,vtT f (.rp us) (.vp [.os sz k 0 n]) dep)::E) ((k3,none)::(k2,none)::(k1,none)::O) nx:=fun p h0 σ hf own Ea h hs=>by
 obtain ⟨hf1,own1,a1,es1,cs1,s1,m1,g1,f1,v1⟩:=hs.hold o1
 obtain ⟨hf2,own2,a2,es2,cs2,s2,m2,g2,f2,v2⟩:=s1.hold (k:=k2) (us:= [.os sz k 0 n]) (by simp only [gO,if_neg h12];exact o2)
 obtain ⟨hf3,own3,a3,es3,cs3,s3,m3,g3,f3,v3⟩:=s2.hold (k:=k3) (us:= [.fn f [.op k1 0, .op k2 0, .op k3 0]]) (by simp only [gO,if_neg h13,if_neg h23];exact o3)
 have c1:V σ hf3 nx (.rp us) (.pointer (some ⟨a1,0,none⟩)):=by
  have r1:=(v1.mono (hf':=hf3) (σ':=σ) (nx':=nx) (fun a o e=>m3 _ _ (m2 _ _ (m1 _ _ e))) (Nat.le_refl _) (fun _ _=>rfl)).pl hpl
  exact .fz (.rp us 0 (m3 _ _ (m2 _ _ f1)) (by have:=r1.1;omega) (fun i hi=>by rw [Nat.zero_add];exact r1.2 i hi))
 have c2:V σ hf3 nx (.vp [.os sz k 0 n]) (.pointer (some ⟨a2,0,none⟩)):=by
  have r1:=v2.mono (hf':=hf3) (σ':=σ) (nx':=nx) (fun a o e=>m3 _ _ (m2 _ _ e)) (Nat.le_refl _) (fun _ _=>rfl)
  exact .vp _ 0 (m3 _ _ f2) (by have:=r1.1;omega) (fun i hi=>by rw [Nat.zero_add];exact r1.2 i hi)
 obtain ⟨w,l,hw,w1,w2⟩:=v3.tail
 obtain rfl:=List.eq_nil_of_length_eq_zero w2.1.symm
 subst hw
 obtain ⟨ws,rfl,w3⟩:=w1.fnL
 obtain ⟨x1,l1,rfl,y1,w3⟩:=w3.tail
 obtain ⟨x2,l2,rfl,y2,w3⟩:=w3.tail
 obtain ⟨x3,l3,rfl,y3,w3⟩:=w3.tail
 obtain rfl:=List.eq_nil_of_length_eq_zero w3.1.symm
 obtain rfl:=y1.opAt g1
 obtain rfl:=y2.opAt g2
 obtain rfl:=y3.opAt g3
 have c3:∀dep,V σ hf3 nx (vtT f (.rp us) (.vp [.os sz k 0 n]) dep) (.pointer (some ⟨a3,0,none⟩)):=by
  intro dep
  induction dep with
  | zero=>exact .any _
  | succ dep ih=>exact .vp _ 0 f3 (by simp) (fun i hi=>by
    obtain rfl:i=0:=by simpa using hi
    exact (VL.cons c1 (VL.cons c2 (VL.cons ih (VL.nil _ _ _)))).toFn f)
 refine ⟨σ,hf3,own3,s3.told fun t=> ?_⟩
 simp only [gE]
 split
 ·rename_i e;subst e
  have:=hs.env t
  rw [e1] at this
  rw [this.opAt g1];exact c1
 ·split
  ·rename_i e;subst e
   have:=hs.env t
   rw [e2] at this
   rw [this.opAt g2];exact c2
  ·split
   ·rename_i e;subst e
    have:=hs.env t
    rw [e3] at this
    rw [this.opAt g3];exact c3 dep
   ·exact s3.env t
section
variable {call : QN} {P : Program} {π c i : Nat} {ops : Array Oper}
theorem Qd2 : ∀(l1 l2:List Oper) (i:Nat) (s:St),Qbt call P π ops (l1++l2) i s=(Qbt call P π ops l1 i s).bind (Qbt call P π ops l2 (i+l1.length))
 | [],l2,i,s=>by simp [Qbt]
 | o::r,l2,i,s=>by
  rw [List.cons_append,Qbt,Qbt]
  cases hx:Qfj call P π ops i o s with
  | none=>rfl
  | some s1 =>
   rw [Option.bind_some,Option.bind_some,Qd2 r l2,List.length_cons,show i+1+r.length=i+(r.length+1) by omega]
theorem RunO.app {l1 l2:List Oper} {E:Nat→Value} {h:AH} {K:(Nat→Value)→AH→Prop} (h1:RunO call P π ops c l1 i E h (fun E' h'=>RunO call P π ops c l2 (i+l1.length) E' h' K)):RunO call P π ops c (l1++l2) i E h K:=by
 unfold RunO at h1 ⊢
 intro hf
 obtain ⟨s1,e1,e2,e3,e4⟩:=h1 hf
 obtain ⟨s2,f1,f2,f3,f4⟩:=e4 e3
 refine ⟨s2,?_,f2,?_,f4⟩
 ·rw [Qd2,e1,Option.bind_some,← f1]
  obtain ⟨E1,h1',c1⟩:=s1
  simp only at e2
  subst e2
  rfl
 ·rw [List.length_append,← Nat.add_assoc i]
  exact f3
end
def QmD (ds:List Nat) (E:Q2):Q2:=(ds.map fun e=>(e,T.any))++E
inductive JE (E:Q2) (ds:List Nat):Q2→Prop
 | nil:JE E ds E
 | cons {E1:Q2} {e:Nat} {t:T} (he:ds.contains e=true) (h:JE E ds E1):JE E ds ((e,t)::E1)
theorem jn {E:Q2} {ds:List Nat}:JE E ds E:= .nil
theorem js {E E1:Q2} {ds:List Nat} {e:Nat} {t:T} (he:ds.contains e=true) (h:JE E ds E1):JE E ds ((e,t)::E1):= .cons he h
theorem Qja (E:Q2) (t:Nat):∀ds:List Nat,gE (QmD ds E) t=if ds.contains t then .any else gE E t
 | []=>rfl
 | e::r=>by
  have ih:=Qja E t r
  unfold QmD at ih ⊢
  simp only [List.map_cons,List.cons_append,gE,ih,List.contains_cons]
  by_cases h:t=e
  ·simp [h]
  ·have:(t == e)=false:=by simp [h]
   simp [h]
theorem JE.off {E E1:Q2} {ds:List Nat} (h:JE E ds E1) {t:Nat} (ht:ds.contains t=false):gE E1 t=gE E t:=by
 induction h with
 | nil=>rfl
 | cons he _ ih =>
  rename_i e _ _
  have:¬t=e:=fun x=>by rw [x,he] at ht;cases ht
  simp only [gE,if_neg this,ih]
def JQ (E:Q2) (O:Qz) (nx:Nat) (ds:List Nat) (d:Nat) (b:T) (E1:Q2) (O1:Qz) (nx1:Nat):Prop:=O1=O∧nx1=nx∧∃E2,E1=(d,b)::E2∧JE E ds E2
theorem jq {E E2:Q2} {O:Qz} {nx d:Nat} {ds:List Nat} {b v:T} (hv:v=b) (h:JE E ds E2):JQ E O nx ds d b ((d,v)::E2) O nx:=⟨rfl,rfl,E2,by rw [hv],h⟩
theorem VRunO.joinB {call:QN} {P:Program} {ops:Array Oper} {l:List Oper} {E:Q2} {O:Qz} {nx:Nat} {K:Q2→Qz→Nat→Prop} (m:Nat) (ds:List Nat) (d:Nat) (b:T) (h1:VRunO call P ops (l.take m) E O nx (JQ E O nx ds d b)) (h2:VRunO call P ops (l.drop m) ((d,b)::QmD ds E) O nx K):VRunO call P ops l E O nx K:=by
 unfold VRunO at h1 h2 ⊢
 intro p h0 σ hf own Ea h c i hs
 rw [← List.take_append_drop m l]
 refine RunO.app ?_
 have h3:=h1 p h0 σ hf own Ea h c i hs
 unfold RunO at h3 ⊢
 intro hfc
 obtain ⟨s',e1,e2,e3,σ',hf',own',E1,O1,nx1,e4,rfl,rfl,E2,rfl,e5⟩:=h3 hfc
 have h4:=h2 p h0 σ' hf' own' s'.E s'.h c (i+(l.take m).length) (e4.told fun t=> ?_)
 ·unfold RunO at h4
  exact ⟨s',e1,e2,e3,h4⟩
 have h6:=e4.env t
 simp only [gE] at h6 ⊢
 split
 ·rename_i e
  simpa only [e,if_true] using h6
 ·rename_i e
  rw [if_neg e] at h6
  rw [Qja]
  split
  ·exact .any _
  ·rename_i hc
   rwa [e5.off (by simpa using hc)] at h6
section
variable {c v : Bool} {C Q : Prop} [Decidable C] [Decidable Q]
theorem jOT (hc:c=decide C) (h:c=true):true=decide (C∨Q):=by
 have:C:=of_decide_eq_true (hc▸h)
 simp [this]
theorem jOF (hc:c=decide C) (h:c=false) (hv:v=decide Q):v=decide (C∨Q):=by
 have:¬C:=of_decide_eq_false (hc▸h)
 simp [hv,this]
theorem dN : (!decide C)=decide (¬C):=by by_cases h:C<;>simp [h]
theorem dT (x:Bool):x=decide (x=true):=by cases x<;>rfl
end
section
variable {C Q R : Prop} {v : Bool}
theorem dy [Decidable C] (h:C):decide C=true:=decide_eq_true h
theorem dz [Decidable C] (h:¬C):decide C=false:=decide_eq_false h
theorem ny [Decidable C] (h:¬C):(!decide C)=true:=by simp [h]
theorem nz [Decidable C] (h:C):(!decide C)=false:=by simp [h]
theorem kAT [Decidable C] [Decidable Q] (h:C) (hv:v=decide Q):v=decide (C∧Q):=by simp [hv,h]
theorem kAF [Decidable C] [Decidable Q] (h:¬C):false=decide (C∧Q):=by simp [h]
theorem kOT [Decidable C] [Decidable Q] (h:C):true=decide (C∨Q):=by simp [h]
theorem kOF [Decidable C] [Decidable Q] (h:¬C) (hv:v=decide Q):v=decide (C∨Q):=by simp [hv,h]
theorem gw (C:Prop) (ht:C→R) (hf:¬C→R):R:=(Classical.em C).elim ht hf
theorem gn (C:Prop) (ht:¬C→R) (hf:C→R):R:=(Classical.em C).elim hf ht
theorem cd {call:QN} {P:Program} {E:Q2} {O:Qz} {nx:Nat} {S:AX→Q2→Qz→Nat→Prop} {x y:Code} {a:Tmp} (C:Prop) [Decidable C] (h:gE E a= .bool (decide C)) (ht:C→VRun call P x E O nx S) (hf:¬C→VRun call P y E O nx S):VRun call P (.cond (.tmp a) x y) E O nx S:=VRun.cond (VEv.tmp h) (fun e=>ht (of_decide_eq_true e)) (fun e=>hf (of_decide_eq_false e))
theorem cn {call:QN} {P:Program} {E:Q2} {O:Qz} {nx:Nat} {S:AX→Q2→Qz→Nat→Prop} {x y:Code} {a:Tmp} (C:Prop) [Decidable C] (h:gE E a= .bool (!decide C)) (ht:¬C→VRun call P x E O nx S) (hf:C→VRun call P y E O nx S):VRun call P (.cond (.tmp a) x y) E O nx S:=VRun.cond (VEv.tmp h) (fun e=>ht (by simpa using e)) (fun e=>hf (by simpa using e))
end
theorem lb {a b:Nat} (h:Nat.ble a b=true):a≤b:=Nat.le_of_ble_eq_true h
theorem bn {α:Type} {p:α→Prop}:∀x∈([]:List α),p x:=Zp
theorem bc {α:Type} {p:α→Prop} {a:α} {l:List α} (h:p a) (hr:∀x∈l,p x):∀x∈a::l,p x:=Ql h hr
theorem b2 {α:Type} {p:α→Prop} {a:α} {l:List α} (hr:∀x∈l,p x) (h:p a:=by exact ⟨rfl,rfl⟩):∀x∈a::l,p x:=Ql h hr
theorem b3 {α:Type} {p:α→Prop} {a:α} {l:List α} (hr:∀x∈l,p x) (h:p a:=by exact ⟨rfl,lb rfl,rfl⟩):∀x∈a::l,p x:=Ql h hr
theorem QC : YW=1099511627776∧mx=1048576∧maxLen=9223372036854775807:=⟨rfl,rfl,rfl⟩
theorem Qae {α:Type} {l:List α} {i:Nat} (z:α) (h:i<l.length):l[i]? =some (l[i]?.getD z):=by rw [List.getElem?_eq_getElem h,Option.getD_some]
end Go.Proofs.YtcccmceoplcciaaGreat.AE
namespace Go.Proofs.YtcccmceoplcciaaGreat.AE
open Go Go.RowKit
set_option linter.unusedVariables false
set_option linter.unusedSimpArgs false
theorem SL.cut {hf h:AH}:∀ {ts:List T} {vs:List Value} {N:List Nat} (j:Nat) (hj:j<ts.length),SL hf h ts vs N→∃A B C,N=A++(B++C)∧S hf h (ts.getD j .any) (vs.getD j undef) B∧∀(h':AH) (t':T) (v':Value),(∀a∈A,h' a=h a)→(∀a∈C,h' a=h a)→S hf h' t' v' B→SL hf h' (ts.set j t') (vs.set j v') N
 | _,_,_,j,hj, .nil=>by simp at hj
 | _,_,_,0,hj, .cons (N:=N) (M:=M) hs hr=>⟨[],N,M,rfl,by simpa using hs,fun h' t' v' _ hC hS=> .cons hS (SL.mono (fun _ _ e=>e) hr hC)⟩
 | _,_,_,j+1,hj, .cons (N:=N) (M:=M) hs hr=>by
  obtain ⟨A,B,C,e,h1,h2⟩:=SL.cut j (by simpa using hj) hr
  refine ⟨N++A,B,C,by rw [e,List.append_assoc],by simpa using h1,fun h' t' v' hA hC hS=> ?_⟩
  exact .cons (S.mono (fun _ _ e=>e) hs (fun a ha=>hA a (by simp [ha]))) (h2 h' t' v' (fun a ha=>hA a (by simp [ha])) hC hS)
theorem Qjj {cs:List T} {o:Nat} {t:T} (h:o<cs.length):spl cs o [t]=cs.set o t:=by
 rw [spl,List.set_eq_take_append_cons_drop,if_pos h]
 simp
theorem QiL {cs:List Value} {o:Nat} {t:Value} (h:o<cs.length):AE.splice cs o [t]=cs.set o t:=by
 rw [AE.splice,List.set_eq_take_append_cons_drop,if_pos h]
 simp
theorem Qmt {u:T} (hu:sc u=true) {σ:Nat→Option Nat} {hf:AH} {nx:Nat} {v:Value} (hv:V σ hf nx u v):v.cells.toList= [v]∧v.oneCell'=true∧∀hf h,S hf h u v []:=by
 cases u<;>first | (simp [sc] at hu;done) | skip
 ·obtain rfl:=hv.boolInv;exact ⟨rfl,rfl,fun _ _=> .fz (.bool _)⟩
 ·obtain rfl:=hv.intInv;exact ⟨rfl,rfl,fun _ _=> .fz (.int _ _)⟩
 ·obtain rfl:=hv.strInv;exact ⟨rfl,rfl,fun _ _=> .fz (.str _)⟩
theorem S.scN {hf h:AH} {t:T} {v:Value} {N:List Nat} (hs:S hf h t v N) (ht:AE.sc t=true):N= []:=by
 cases hs with
 | fz hr=>rfl
 | _=>simp [AE.sc] at ht
section
variable {call : QN} {P : Program} {E : Q2} {O : Qz} {d : Option Tmp} {ty tt : TypeId} {ps : String} {af : Array Edge} {g : Option (Nat × Bool)} {x y : Operand} {nx sz k i o : Nat} {rows rows' : List (List T)} {row : List T} {asg : List Nat}
theorem QiY {σ:Nat→Option Nat} {hf h:AH} {a:Nat} {cs:List Value} {N:List Nat} {t0:T} (hh:h a=some (.cells sz cs)) (hlen:∀r∈rows,r.length=sz) (hfit:rows.length*sz≤cs.length) (hsl:SL hf h rows.flatten (cs.take (rows.length*sz)) N) (hi:rows[i]? =some row) (ho:row[o]? =some t0) :
  i*sz+o<rows.length*sz∧∃v A B C,cs[i*sz+o]? =some v∧N=A++(B++C)∧S hf h t0 v B∧∀(h':AH) (t':T) (v':Value),(∀b∈A,h' b=h b)→(∀b∈C,h' b=h b)→S hf h' t' v' B→SL hf h' (rows.set i (row.set o t')).flatten ((cs.set (i*sz+o) v').take (rows.length*sz)) N:=by
 have hlt:i<rows.length:=(List.getElem?_eq_some_iff.1 hi).1
 have hrow:row.length=sz:=hlen row (List.mem_of_getElem? hi)
 have hol:=(List.getElem?_eq_some_iff.1 ho).1
 have ho':o<sz:=by rw [← hrow];exact hol
 have hf1:=QbK (sz:=sz) hlt
 have hfl:=ZO hlen
 obtain ⟨A,B,C,e,h1,h2⟩:=hsl.cut (i*sz+o) (by omega)
 rw [Ye hlen hi ho',List.getD_eq_getElem?_getD,ho,Option.getD_some,List.getD_eq_getElem?_getD,List.getElem?_take,if_pos (by omega),List.getElem?_eq_getElem (by omega),Option.getD_some] at h1
 refine ⟨by omega,_,A,B,C,List.getElem?_eq_getElem (by omega),e,h1,fun h' t' v' hA hC hS=> ?_⟩
 have h3:=h2 h' t' v' hA hC hS
 rw [← Qjj (by omega),← Qbg hlen hi (by simp only [List.length_cons,List.length_nil];omega),Qjj hol] at h3
 rw [List.take_set]
 exact h3
theorem B.storeN {t0 u:T} (hx:VEv E x (.orp sz k i o)) (hy:VEv E y u) (hu:sc u=true) (hk:gO O k=some (.rowsN sz rows asg)) (hi:rows[i]? =some row) (ho:row[o]? =some t0) (ht0:sc t0=true) (hif:(P.info? tt).isSome=true) (hn:P.cellsOf tt=1) (hr:rows.set i (row.set o u)=rows') :
  OC call P E O nx ⟨d, .store tt x y,ty,ps,af,g⟩ .any ((k,some (.rowsN sz rows' asg))::O) nx [k]:=⟨Nat.le_refl _,fun q p h0 σ hf own Ea h hs hq hF=>by
 subst hr
 obtain ⟨v,h1,h2⟩:=hx σ hf nx Ea hs.env
 obtain ⟨v',h3,h4⟩:=hy σ hf nx Ea hs.env
 obtain ⟨c1,c2,c3⟩:=Qmt hu h4
 obtain ⟨a,rfl,h5,h6⟩:=h2.orpInv
 obtain ⟨N,hN1,hN2,h7⟩:=hs.objAt hk
 rw [h5] at h7
 cases h7 with
 | rowsN hh hodd hlen hfit hsl =>
  rename_i cs
  obtain ⟨hlt,w,A,B,C,e1,e2,e3,e4⟩:=QiY (σ:=σ) hh hlen hfit hsl hi ho
  obtain rfl:=e3.scN ht0
  have hst:=QbM (P:=P) (t:=tt) (v:=v') (o:=i*sz+o) hodd hh hif hn c1 rfl (by simp only [List.length_cons,List.length_nil];omega) (by simpa using c2)
  rw [QiL (by omega)] at hst
  have hown:own a=some k:=hN2 a (by simp)
  have haN:∀b,b∈asg→b≠a:=fun b hb e=>(List.nodup_cons.1 hN1).1 (e▸hb)
  have hupd:∀z:Yd,∀b∈asg,(h.upd a (some z)) b=h b:=fun z b hb=>AH.upd_ne _ (haN b hb) _
  have hobj:ObjR σ hf nx (h.upd a (some (.cells sz (cs.set (i*sz+o) v')))) (.rowsN sz (rows.set i (row.set o u)) asg) (some a) (a::asg):=by
   refine .rowsN (AH.upd_same _ _ _) hodd (fun r hr=> ?_) (by rw [List.length_set,List.length_set];exact hfit) ?_
   ·rcases List.mem_or_eq_of_mem_set hr with hm | rfl
    ·exact hlen r hm
    ·rw [List.length_set];exact hlen row (List.mem_of_getElem? hi)
   ·rw [List.length_set]
    exact e4 _ _ _ (fun b hb=>hupd _ b (by rw [e2];simp [hb])) (fun b hb=>hupd _ b (by rw [e2];simp [hb])) (c3 _ _)
  refine ⟨undef,_,σ,own,X.store h1 h3 hst,Dom.old (by rw [hh];simp) _,fun _ _=>rfl,hs.upd h5 h6 hown hN1 hN2 hobj, .any _,fun b hb hnk=>AH.upd_ne _ (fun e=> ?_) _,fun b k' e=> .inl e⟩
  exact hnk k (by simp) (e▸hown)⟩
theorem VRunO.nest {ops:Array Oper} {l:List Oper} {K:Q2→Qz→Nat→Prop} {d1 d2 d3:Nat} {ty1 ty2 ty3:TypeId} {ps1 ps2 ps3:String} {af1 af2 af3:Array Edge} {f:FuncId} {tys:Array TypeId} {sz2:Nat} {rs rs':List (List T)} {n r:Int} (h12:(d1 == d2)=false) (hx:VEv E x (.orp sz k i o)) (hk:gO O k=some (.rowsN sz rows asg)) (hi:rows[i]? =some row) (ho:row[o]? =some (.sl true sz2 rs)) (hst:Qw P tt=some false) (hy:VEv ((d1, .any)::E) y (.int .i64 n)) (hb:Yo P f=true) (hm:Mut call f sz2 rs [.int .i64 n] (some r) rs') (hc:∀r∈rs,∀t∈r,Clean t) (hr:rows.set i (row.set o (.sl true sz2 rs'))=rows')
  (hK:VRunO call P ops l ((d3, .int .i64 r)::(d2, .int .i64 n)::(d1, .any)::E) ((k,some (.rowsN sz rows' asg))::O) nx K) :
  VRunO call P ops (⟨some d1, .load tt x,ty1,ps1,af1,none⟩::⟨some d2, .move y,ty2,ps2,af2,none⟩::⟨some d3, .call ⟨.value (.func f),#[.tmp d1, .tmp d2],tys⟩,ty3,ps3,af3,none⟩::l) E O nx K:=by
 unfold VRunO at hK ⊢
 intro p h0 σ hf own Ea h c j hs
 subst hr
 obtain ⟨v,h1,h2⟩:=hx σ hf nx Ea hs.env
 obtain ⟨a,rfl,h5,h6⟩:=h2.orpInv
 obtain ⟨N,hN1,hN2,h7⟩:=hs.objAt hk
 rw [h5] at h7
 cases h7 with
 | rowsN hh hodd hlen hfit hsl =>
  rename_i cs
  obtain ⟨hlt,v0,A,B,C,e1,e2,e3,e4⟩:=QiY (σ:=σ) hh hlen hfit hsl hi ho
  have hs1:=hs.put (V.any (σ:=σ) (hf:=hf) (nx:=nx) v0) (some d1)
  obtain ⟨w,y1,y2⟩:=hy σ hf nx _ hs1.env
  obtain rfl:=y2.intInv
  have hs2:=hs1.put y2 (some d2)
  have hdd:d1≠d2:=by simpa using h12
  refine RunO.pure rfl rfl rfl (X.load h1 (JI hst hh e1)) (RunO.pure rfl rfl rfl (X.move y1) ?_)
  have hown:own a=some k:=hN2 a (by simp)
  have hsub:∀b∈B,b∈asg:=fun b hb=>by rw [e2];simp [hb]
  have hnd:asg.Nodup:=(List.nodup_cons.1 hN1).2
  have hndB:B.Nodup:=by rw [e2,List.nodup_append,List.nodup_append] at hnd;exact hnd.2.1.1
  have hdisA:∀b∈A,b∉B:=fun b hb hm2=>by rw [e2,List.nodup_append] at hnd;exact hnd.2.2 b hb b (by simp [hm2]) rfl
  have hdisC:∀b∈C,b∉B:=fun b hb hm2=>by rw [e2,List.nodup_append,List.nodup_append] at hnd;exact hnd.2.1.2.2 b hm2 b hb rfl
  have haB:a∉B:=fun hm2=>(List.nodup_cons.1 hN1).1 (hsub a hm2)
  have hevs:AE.evs (ZP (ZP Ea (some d1) v0) (some d2) (.int .i64 n)) [.tmp d1, .tmp d2]=some [v0, .int .i64 n]:=by
   simp [AE.evs,ZB,ZP,hdd]
  unfold RunO
  intro hfc
  have hF:Fr (child p (c+(j+1+1))) h:=FrC.fr hfc (Nat.le_refl _)
  have hS0:S (fun _=>none) h (.sl true sz2 rs) v0 B:=S.clean e3 (.sl _ _ hc)
  have h8:=hm h (child p (c+(j+1+1))) hf v0 B [.int .i64 n] hF (fun b o hb=>⟨(hs.fro b o hb).1,fun hm2=>by have:=hN2 b (by simp [hsub b hm2]);rw [(hs.fro b o hb).2] at this;cases this⟩) hS0 hndB (RL.cons (.int _ _) (RL.nil _))
  unfold CallS at h8
  obtain ⟨v,h',k1,k2,k3,rfl,k5⟩:=h8
  have hha:h' a=some (.cells sz cs):=(k3 a (by rw [hh];simp) haB).trans hh
  have hobj:ObjR σ hf nx h' (.rowsN sz (rows.set i (row.set o (.sl true sz2 rs'))) asg) (σ k) (a::asg):=by
   rw [h5]
   refine .rowsN hha hodd (fun r hr=> ?_) (by rw [List.length_set];exact hfit) ?_
   ·rcases List.mem_or_eq_of_mem_set hr with hm2 | rfl
    ·exact hlen r hm2
    ·rw [List.length_set];exact hlen row (List.mem_of_getElem? hi)
   ·rw [List.length_set]
    have hnn:∀b∈asg,h b≠none:=fun b hb=>hsl.names b hb
    have:=e4 h' (.sl true sz2 rs') v0 (fun b hb=>k3 b (hnn b (by rw [e2];simp [hb])) (hdisA b hb)) (fun b hb=>k3 b (hnn b (by rw [e2];simp [hb])) (hdisC b hb)) (k5.mono (fun _ _ e=>by cases e) (fun _ _=>rfl))
    have e5:cs.set (i*sz+o) v0=cs:=by
     refine List.ext_getElem? fun q=> ?_
     rw [List.getElem?_set]
     split
     ·rename_i e;subst e;rw [if_pos (by omega),e1]
     ·rfl
    rwa [e5] at this
  have hs3:SR p h0 σ hf own ((d2, .int .i64 n)::(d1, .any)::E) ((k,some (.rowsN sz (rows.set i (row.set o (.sl true sz2 rs'))) asg))::O) nx (ZP (ZP Ea (some d1) v0) (some d2) (.int .i64 n)) h':=by
   refine ⟨hs2.env,fun k' o' hk'=> ?_,fun b o' hb=> ?_,fun b k' hb=> ?_,hs.base,fun t ht=> ?_⟩
   ·simp only [gO] at hk'
    split at hk'
    ·rename_i e
     subst e
     obtain rfl:=Option.some.inj hk'
     exact ⟨h6,a::asg,hN1,hN2,hobj⟩
    ·rename_i hne
     obtain ⟨m1,N2,m2,m3,m4⟩:=hs.obj k' o' hk'
     refine ⟨m1,N2,m2,m3,m4.mono (fun _ _ e=>e) (Nat.le_refl _) (fun _ _=>rfl) (fun b hb=>k3 b (hs.mine b k' (m3 b hb)).2.2.1 (fun hm2=> ?_))⟩
     have:=hN2 b (by simp [hsub b hm2])
     rw [m3 b hb] at this
     exact hne (Option.some.inj this)
   ·obtain ⟨m1,m2⟩:=hs.fro b o' hb
    refine ⟨?_,m2⟩
    rw [k3 b (by rw [m1];simp) (fun hm2=>by have:=hN2 b (by simp [hsub b hm2]);rw [m2] at this;cases this)]
    exact m1
   ·obtain ⟨m1,m2,m3,m4⟩:=hs.mine b k' hb
    refine ⟨m1,m2,?_,m4⟩
    by_cases hm2:b∈B
    ·exact k5.names b hm2
    ·rw [k3 b m3 hm2];exact m3
   ·rcases k2 t ht with e | e
    ·exact hs.dom t e
    ·exact .inr (.inl (Qal e))
  have hs4:=hs3.put (V.fz (σ:=σ) (hf:=hf) (nx:=nx) (R.int (hf:=hf) .i64 r)) (some d3)
  have hk4:=hK p h0 σ hf own _ h' c (j+1+1+1) hs4
  have hex:QA call P (child p (c+(j+1+1))) (ZP (ZP Ea (some d1) v0) (some d2) (.int .i64 n)) h ⟨some d3, .call ⟨.value (.func f),#[.tmp d1, .tmp d2],tys⟩,ty3,ps3,af3,none⟩=some (rvV (some r),h'):=by
   simp only [QA,X.calls (ts:=tys) hb (show AE.evs _ (#[Operand.tmp d1,Operand.tmp d2].toList)=some [v0, .int .i64 n] from hevs),k1]
  have hst2:=RunO.step (call:=call) (P:=P) (π:=p) (c:=c) (i:=j+1+1) (ops:=ops) (r:=l) (K:=KK p h0 K) rfl rfl rfl hex (fun _=>k2) (fun _=>hk4)
  unfold RunO at hst2
  exact hst2 hfc
end
abbrev LO := List (Nat×List (List T))
def loO (asg:Nat→List Nat):Nat→LO→Qz
 | _,[]=> []
 | n,x::r=>(n,some (.rowsN x.1 x.2 (asg n)))::loO asg (n+1) r
theorem Qkc (asg:Nat→List Nat) (k:Nat):∀(L:LO) (n:Nat),gO (loO asg n L) k=if n≤k then (L[k - n]?).map (fun x=>Obj.rowsN x.1 x.2 (asg k)) else none
 | [],n=>by simp [loO,gO]
 | x::r,n=>by
  rw [loO,gO]
  by_cases h:k=n
  ·subst h;simp
  ·rw [if_neg h,Qkc asg k r (n+1)]
   by_cases h2:n≤k
   ·rw [if_pos h2,if_pos (by omega),show k - n=(k - (n+1))+1 by omega,List.getElem?_cons_succ]
   ·rw [if_neg h2,if_neg (by omega)]
def Qof (σ:Nat→Option Nat) (hf:AH) (own:Nat→Option Nat) (asg:Nat→List Nat) (L:LO) (h:AH):Prop:=∀k x,L[k]? =some x→∃N,N.Nodup∧(∀a∈N,own a=some k)∧ObjR σ hf L.length h (.rowsN x.1 x.2 (asg k)) (σ k) N
def LoanM (call:QN) (f:FuncId) (L:LO) (ts:List T) (r:T) (L':LO):Prop:=∀(asg:Nat→List Nat) (h:AH) (p:Nat) (hf:AH) (σ own:Nat→Option Nat) (vs:List Value),Fr p h→(∀b o,hf b=some o→h b=some o∧own b=none)→(∀b k,own b=some k→h b≠none∧k<L.length)→Qof σ hf own asg L h→VL σ hf L.length ts vs →
 CallS call f vs h p (fun v h'=>(∀b,h b≠none→own b=none→h' b=h b)∧(∃hf2,V σ hf2 L.length r v)∧∀k x,L'[k]? =some x→∃N,N.Nodup∧(∀a∈N,own a=some k)∧ObjR σ hf L.length h' (.rowsN x.1 x.2 (asg k)) (σ k) N)
inductive PinK (k:Nat):T→Prop
 | os (sz n:Nat):PinK k (.os sz k 0 n)
 | agg {ts:List T} {t:T} (i:Nat) (h:ts[i]? =some t) (hp:PinK k t):PinK k (.agg ts)
inductive PRes : T→Prop
 | none:PRes (.tup [])
 | int (k:IntKind) (n:Int):PRes (.int k n)
 | bool (b:Bool):PRes (.bool b)
theorem PRes.R {r:T} {v:Value} {σ:Nat→Option Nat} {hf:AH} {nx:Nat} (hr:PRes r) (h:V σ hf nx r v) (hf':AH):AE.R hf' r v:=by
 cases hr with
 | none =>
  obtain ⟨l,rfl,h1⟩:=V.tupL h
  obtain rfl:=List.eq_nil_of_length_eq_zero h1.1.symm
  exact .tup [] #[] rfl (fun i hi=>by simp at hi)
 | int k n=>obtain rfl:=V.intInv h;exact .int _ _
 | bool b=>obtain rfl:=V.boolInv h;exact .bool _
theorem QlM {σ σ':Nat→Option Nat} {hf hf':AH} {nx nx' sz k k' n:Nat} {v:Value} (h:V σ hf nx (.os sz k 0 n) v) (h':V σ' hf' nx' (.os sz k' 0 n) v):σ' k'=σ k:=by
 obtain ⟨_,⟨a,m,e1,e2,e3⟩ | ⟨e1,_,e2,e3⟩⟩:=h.osInv
 ·obtain ⟨_,⟨a',m',f1,f2,f3⟩ | ⟨f1,_,f2,f3⟩⟩:=h'.osInv
  ·rw [e1] at f1
   simp only [Value.slice.injEq,Option.some.injEq,Addr.mk.injEq] at f1
   rw [e2,f2,f1.1.1]
  ·subst e1
   rcases f3 with f3 | ⟨b,o,f3⟩
   ·exact absurd f3 (by simp)
   ·simp only [Value.slice.injEq] at f3
    omega
 ·obtain ⟨_,⟨a',m',f1,f2,f3⟩ | ⟨f1,_,f2,f3⟩⟩:=h'.osInv
  ·subst f1
   rcases e3 with e3 | ⟨b,o,e3⟩
   ·exact absurd e3 (by simp)
   ·simp only [Value.slice.injEq] at e3
    omega
  ·rw [e1,f1]
theorem PinK.same {σ σ':Nat→Option Nat} {hf hf':AH} {nx nx' k:Nat} {f:Nat→Nat} {pin:T} {v:Value} (hp:PinK k pin) (h:V σ hf nx pin v) (h':V σ' hf' nx' (ren f pin) v):σ' (f k)=σ k:=by
 induction hp generalizing v with
 | os sz n=>exact QlM h h'
 | agg i hi hp ih =>
  rename_i ts t
  obtain ⟨l,rfl,h1⟩:=V.aggL h
  have h2:V σ' hf' nx' (.agg (Qay f ts)) (.agg l.toArray):=h'
  obtain ⟨l2,e,h3⟩:=V.aggL h2
  have e2:l2=l:=by
   simp only [Value.agg.injEq] at e
   have:=congrArg Array.toList e
   simpa using this.symm
  subst e2
  have hlt:=(List.getElem?_eq_some_iff.1 hi).1
  have g1:=h1.2 i hlt
  have g2:=h3.2 i (by rw [Zr,List.length_map];exact hlt)
  rw [List.getD_eq_getElem?_getD,hi,Option.getD_some] at g1
  rw [Zr,List.getD_eq_getElem?_getD,List.getElem?_map,hi,Option.map_some,Option.getD_some] at g2
  exact ih g1 g2
def finO (O:Qz) (f:Nat→Nat) (asg:Nat→List Nat):Nat→LO→Prop
 | _,[]=>True
 | n,x::r=>gO O (f n)=some (.rowsN x.1 x.2 (asg n))∧finO O f asg (n+1) r
theorem finO.at {O:Qz} {f:Nat→Nat} {asg:Nat→List Nat}:∀ {L:LO} {n:Nat} (k:Nat) {x},finO O f asg n L→L[k]? =some x→gO O (f (n+k))=some (.rowsN x.1 x.2 (asg (n+k)))
 | [],n,k,x,_,h=>by simp at h
 | y::r,n,0,x,h,e=>by
  obtain rfl:y=x:=by simpa using e
  exact h.1
 | y::r,n,k+1,x,h,e=>by
  have:=finO.at (L:=r) (n:=n+1) k h.2 (by simpa using e)
  rwa [show n+1+k=n+(k+1) by omega] at this
def vloanM (P:Program) (rs:List ResultVar) (pins:List (Nat×T)) (L':LO) (asg:Nat→List Nat) (r:T):AX→Q2→Qz→Nat→Prop
 | .exit _,_,_,_=>False
 | _,E,O,_=>∃(f:Nat→Nat) (us:List T),VRes P E O rs us∧QdC us=r∧(∀x∈pins,gE E x.1=ren f x.2)∧finO O f asg 0 L'
theorem vloanM.r {P:Program} {rs:List ResultVar} {pins:List (Nat×T)} {L1 L':LO} {asg:Nat→List Nat} {r:T} {E:Q2} {O:Qz} {nx:Nat} {us:List T} (f:Nat→Nat) (h:VRes P E O rs us) (h1:QdC us=r) (h2:∀x∈pins,gE E x.1=ren f x.2) (h3:finO O f asg 0 L1) (e:L1=L'):vloanM P rs pins L' asg r .ret E O nx:=⟨f,us,h,h1,h2,e▸h3⟩
theorem ObjR.nameN {σ:Nat→Option Nat} {hf h:AH} {nx sz:Nat} {rows:List (List T)} {asg N:List Nat} {oa:Option Nat} (h1:ObjR σ hf nx h (.rowsN sz rows asg) oa N):(oa=Option.none∧N= []∧asg= [])∨∃a,oa=some a∧N=a::asg:=by
 cases h1 with
 | noneN sz=>exact .inl ⟨rfl,rfl,rfl⟩
 | rowsN hk hodd hlen hfit hs=>exact .inr ⟨_,rfl,rfl⟩
theorem ObjR.moveN {σ σ':Nat→Option Nat} {hf hf' h h':AH} {nx nx' sz:Nat} {rows:List (List T)} {asg N:List Nat} {oa:Option Nat} (h1:ObjR σ hf nx h (.rowsN sz rows asg) oa N) (hc:∀r∈rows,∀t∈r,Clean t) (hh:∀a∈N,h' a=h a):ObjR σ' hf' nx' h' (.rowsN sz rows asg) oa N:=by
 cases h1 with
 | noneN sz=>exact .noneN sz
 | rowsN hk hodd hlen hfit hs =>
  refine .rowsN ((hh _ (by simp)).trans hk) hodd hlen hfit ?_
  have h2:=SL.clean (hf':=fun _=>Option.none) hs (fun t ht=>by
   obtain ⟨r,hr,htr⟩:=List.mem_flatten.1 ht
   exact hc r hr t htr)
  exact h2.mono (fun _ _ e=>(by cases e)) (fun a ha=>hh a (by simp [ha]))
theorem ObjR.namesN {σ:Nat→Option Nat} {hf h:AH} {nx sz:Nat} {rows:List (List T)} {asg N:List Nat} {oa:Option Nat} (h1:ObjR σ hf nx h (.rowsN sz rows asg) oa N):∀a∈N,h a≠Option.none:=by
 cases h1 with
 | noneN sz=>intro a ha;cases ha
 | rowsN hk hodd hlen hfit hs =>
  intro a ha
  rcases List.mem_cons.1 ha with rfl | ha
  ·rw [hk];simp
  ·exact hs.names a ha
theorem LoanM.intro {P:Program} {f:FuncId} {fn:Func} {c:Code} {n:Nat} {ts:List T} {r:T} {L L':LO} {rs:List ResultVar} (pins:List (Nat×T)) (hf:P.funcs[f]? =some fn) (hb:fn.body=some c) (hc:ZM fn.ntmps c=true) (hrs:fn.results.toList=rs) (hL:L'.length=L.length) (hp1:∀x∈pins,noW x.1 c=true∧ts[x.1]? =some x.2) (hp2:∀k,k<L.length→∃x∈pins,PinK k x.2) (hr0:PRes r) (hcl:∀x∈L',∀r∈x.2,∀t∈r,Clean t) {E0:Q2} (hE:Qek 0 ts=E0)
  (hr:∀asg,VRun (Qq P n) P c E0 (loO asg 0 L) L.length (vloanM P rs pins L' asg r)) (hpr:Qap f=true:=by rfl):LoanM (Qq P (n+1)) f L ts r L':=by
 subst hE
 intro asg h p hfz σ own vs hfp hfN hown hO hvs
 classical
 let hb0:AH:=fun b=>if own b≠none then none else h b
 have hb1:∀b,own b=none→hb0 b=h b:=fun b hb=>if_neg (by simp [hb])
 have hb2:∀b,own b≠none→hb0 b=none:=fun b hb=>if_pos hb
 have hb3:∀b o,hb0 b=some o→own b=none∧h b=some o:=fun b o hb=>by
  by_cases hm:own b=none
  ·exact ⟨hm,(hb1 b hm).symm.trans hb⟩
  ·rw [hb2 b hm] at hb;cases hb
 have hsub:∀b o,hfz b=some o→hb0 b=some o:=fun b o hb=>(hb1 b (hfN b o hb).2).trans (hfN b o hb).1
 have hs0:SR p ⟨hb0,fun b=>own b≠none⟩ σ hb0 own (Qek 0 ts) (loO asg 0 L) L.length (fun t=>vs.getD t undef) h:=by
  refine ⟨fun t=> ?_,fun k o hk=> ?_,fun a o ha=>⟨(hb3 a o ha).2,(hb3 a o ha).1⟩,fun a k ha=> ?_,fun _ _=>rfl,fun t ht=> ?_⟩
  ·rw [QcN,if_neg (by omega),Nat.sub_zero]
   rcases Nat.lt_or_ge t ts.length with h1 | h1
   ·exact (hvs.2 t h1).mono hsub (Nat.le_refl _) (fun _ _=>rfl)
   ·rw [List.getD_eq_getElem?_getD,List.getElem?_eq_none h1]
    exact .any _
  ·rw [Qkc,if_pos (Nat.zero_le _),Nat.sub_zero] at hk
   obtain ⟨x,hx,rfl⟩:=Option.map_eq_some_iff.1 hk
   obtain ⟨N,g1,g2,g3⟩:=hO k x hx
   exact ⟨(List.getElem?_eq_some_iff.1 hx).1,N,g1,g2,g3.mono hsub (Nat.le_refl _) (fun _ _=>rfl) (fun _ _=>rfl)⟩
  ·have h1:own a≠none:=by rw [ha];simp
   exact ⟨.inr h1,hb2 a h1,(hown a k ha).1,(hown a k ha).2⟩
  ·by_cases hm:own t=none
   ·exact .inl (by show hb0 t≠none;rw [hb1 t hm];exact ht)
   ·exact .inr (.inr hm)
 have hr1:=hr asg
 unfold VRun at hr1
 have hrun:=hr1 p _ σ _ _ _ h 0 hs0
 have hrun2:Run (Qq P n) P p c ⟨fun t=>vs.getD t undef,h,0⟩ (fun e s=>KK p ⟨hb0,fun b=>own b≠none⟩ (vloanM P rs pins L' asg r e) s.E s.h∧∀x∈pins,s.E x.1=vs.getD x.1 undef):=by
  unfold Run at hrun ⊢
  intro hfc
  obtain ⟨e,s',h1,h2,h3⟩:=hrun hfc
  exact ⟨e,s',h1,h2,h3,fun x hx=>Yj _ _ _ _ (hp1 x hx).1 h1⟩
 refine CallS.intro (hpr:=hpr) (rs:=rs) hf hb hc hfp hrs (Run.mono hrun2 ?_)
 rintro e s' ⟨⟨σ',hf',own',E,O,nx,h1,h2⟩,h0⟩
 have key:(∃(f:Nat→Nat) (us:List T),VRes P E O rs us∧QdC us=r∧(∀x∈pins,gE E x.1=ren f x.2)∧finO O f asg 0 L')→∃l,JP P s'.h s'.E rs=some l∧(fun v h'=>(∀b,h b≠none→own b=none→h' b=h b)∧(∃hf2,V σ hf2 L.length r v)∧∀k x,L'[k]? =some x→∃N,N.Nodup∧(∀a∈N,own a=some k)∧ObjR σ hfz L.length h' (.rowsN x.1 x.2 (asg k)) (σ k) N) (YU l) (if Q7 (YU l) then YI h s'.h else Qbc p h s'.h):=by
  rintro ⟨f,us,g1,g2,g3,g4⟩
  obtain ⟨l,l1,l2⟩:=g1.run h1
  have g5:V σ' hf' nx (QdC us) (YU l):=by
   have hlen:=l2.1
   match us,l,l2,hlen with
   | [],[],g4,_=>exact g4.toTup
   | [t],[v],g4,_ =>
    obtain ⟨v',r',e,g6,_⟩:=g4.tail
    cases e
    exact g6
   | t::t'::us,v::v'::l,g4,_=>exact g4.toTup
   | [],_::_,_,hl=>cases hl
   | [_],[],_,hl=>cases hl
   | [_],_::_::_,_,hl=>cases hl
   | _::_::_,[],_,hl=>cases hl
   | _::_::_,[_],_,hl=>cases hl
  rw [g2] at g5
  have hbase:∀a o,hb0 a=some o→hf' a=some o:=fun a o ha=>by
   have e3:hf' a=hb0 a:=h1.base a (by show hb0 a≠none;rw [ha];simp)
   rw [e3,ha]
  have hσ:∀k,k<L.length→σ' (f k)=σ k:=fun k hk=>by
   obtain ⟨x,hx,hpk⟩:=hp2 k hk
   have e1:=(hp1 x hx).2
   have hjl:=(List.getElem?_eq_some_iff.1 e1).1
   have p1:=hvs.2 x.1 hjl
   rw [List.getD_eq_getElem?_getD,e1] at p1
   have p2:=h1.env x.1
   rw [g3 x hx,h0 x hx] at p2
   exact hpk.same p1 p2
  have hold:∀b,h b≠none→(if Q7 (YU l) then YI h s'.h else Qbc p h s'.h) b=s'.h b:=fun b hb=>by
   split
   ·unfold YI
    cases hh:h b with
    | none=>exact absurd hh hb
    | some o=>rfl
   ·exact Qes (.inl hb)
  refine ⟨l,l1,fun b hb hbN=> ?_,⟨hf', .fz (hr0.R g5 _)⟩,fun k x hx=> ?_⟩
  ·rw [hold b hb]
   obtain ⟨o,ho⟩:=Option.ne_none_iff_exists'.1 hb
   rw [(h1.fro b o (hbase b o ((hb1 b hbN).trans ho))).1,ho]
  ·have hkl:k<L.length:=by rw [← hL];exact (List.getElem?_eq_some_iff.1 hx).1
   obtain ⟨N,n1,n2,n3⟩:=hO k _ (List.getElem?_eq_getElem hkl)
   have g6:=finO.at k g4 hx
   rw [Nat.zero_add] at g6
   obtain ⟨M,m1,m2,m3⟩:=h1.objAt g6
   rw [hσ k hkl] at m3
   have hMN:M=N:=by
    rcases n3.nameN with ⟨q1,rfl,q2⟩ | ⟨a,q1,rfl⟩
    ·rcases m3.nameN with ⟨_,rfl,_⟩ | ⟨a',q3,_⟩
     ·rfl
     ·rw [q1] at q3;cases q3
    ·rcases m3.nameN with ⟨q3,_,_⟩ | ⟨a',q3,rfl⟩
     ·rw [q1] at q3;cases q3
     ·rw [q1] at q3;rw [Option.some.inj q3]
   subst hMN
   exact ⟨M,n1,n2,m3.moveN (hcl x (List.mem_of_getElem? hx)) (fun a ha=>hold a (hown a k (n2 a ha)).1)⟩
 cases e with
 | normal=>unfold fin;exact key h2
 | ret=>unfold fin;exact key h2
 | exit id=>exact h2.elim
def ix : List Nat→Nat→Option Nat
 | [],_=>none
 | a::r,k=>if k=a then some 0 else (ix r k).map (· +1)
theorem QbF : ∀ {ks:List Nat} {k n:Nat},ix ks k=some n→ks[n]? =some k
 | [],k,n,h=>by cases h
 | a::r,k,n,h=>by
  simp only [ix] at h
  split at h
  ·rename_i e
   obtain rfl:=Option.some.inj h
   simp [e]
  ·obtain ⟨m,h1,rfl⟩:=Option.map_eq_some_iff.1 h
   simpa using QbF h1
theorem Qmn : ∀ {ks:List Nat} {k n:Nat},ks.Nodup→ks[n]? =some k→ix ks k=some n
 | [],k,n,_,h=>by simp at h
 | a::r,k,0,_,h=>by
  obtain rfl:a=k:=by simpa using h
  simp [ix]
 | a::r,k,n+1,hn,h=>by
  have h1:r[n]? =some k:=by simpa using h
  have h2:=List.nodup_cons.1 hn
  have h3:¬k=a:=fun e=>h2.1 (e▸List.mem_of_getElem? h1)
  simp only [ix,if_neg h3,Qmn h2.2 h1,Option.map_some]
def isR : Obj→Nat×List (List T)→Prop
 | .rows sz rows,x=>x=(sz,rows)
 | .rowsN sz rows _,x=>x=(sz,rows)
 | _,_=>False
def QlT : Obj→Nat×List (List T)→Obj
 | .rows _ _,x=> .rows x.1 x.2
 | .rowsN _ _ asg,x=> .rowsN x.1 x.2 asg
 | o,_=>o
theorem isR.toN {σ:Nat→Option Nat} {hf h:AH} {nx:Nat} {o:Obj} {x:Nat×List (List T)} {oa:Option Nat} {N:List Nat} (ho:isR o x) (h1:ObjR σ hf nx h o oa N):∃asg,ObjR σ hf nx h (.rowsN x.1 x.2 asg) oa N∧∀ {σ':Nat→Option Nat} {hf' h':AH} {nx':Nat} {y:Nat×List (List T)},ObjR σ' hf' nx' h' (.rowsN y.1 y.2 asg) oa N→ObjR σ' hf' nx' h' (QlT o y) oa N:=by
 cases h1 with
 | rows hk hodd hlen hfit hs =>
  obtain rfl:x=_:=ho
  refine ⟨_, .rowsN hk hodd hlen hfit hs,fun {σ' hf' h' nx' y} h2=> ?_⟩
  obtain ⟨sz',rows'⟩:=y
  cases h2 with
  | rowsN hk hodd hlen hfit hs=>exact .rows hk hodd hlen hfit hs
 | none sz =>
  obtain rfl:x=_:=ho
  refine ⟨_, .noneN sz,fun {σ' hf' h' nx' y} h2=> ?_⟩
  obtain ⟨sz',rows'⟩:=y
  cases h2 with
  | noneN sz=>exact ObjR.none _
 | rowsN hk hodd hlen hfit hs =>
  obtain rfl:x=_:=ho
  exact ⟨_, .rowsN hk hodd hlen hfit hs,fun h2=>h2⟩
 | noneN sz =>
  obtain rfl:x=_:=ho
  exact ⟨_, .noneN sz,fun h2=>h2⟩
 | cells hk hodd hv=>exact (show False from ho).elim
 | map hk hodd g1 g2=>exact (show False from ho).elim
def QjS : Qz→List Nat→LO→List Obj→Qz
 | O,k::ks,x::r,o::os=>QjS ((k,some (QlT o x))::O) ks r os
 | O,_,_,_=>O
theorem QiW (q:Nat):∀ {ks:List Nat} {L:LO} {os:List Obj} {O:Qz},ks.Nodup→L.length=ks.length→os.length=ks.length→gO (QjS O ks L os) q=match ix ks q with
  | some n=>(match L[n]?,os[n]? with | some x,some o=>some (QlT o x) | _,_=>none)
  | none=>gO O q
 | [],L,os,O,_,hl,ho=>by
  cases L with
  | nil=>simp [QjS,ix]
  | cons x r=>cases hl
 | k::ks,[],os,O,_,hl,ho=>by cases hl
 | k::ks,x::r,[],O,_,hl,ho=>by cases ho
 | k::ks,x::r,o::os,O,hn,hl,ho=>by
  have hn2:=List.nodup_cons.1 hn
  rw [QjS,QiW q hn2.2 (by simpa using hl) (by simpa using ho)]
  simp only [ix]
  by_cases hq:q=k
  ·subst hq
   have:ix ks q=none:=by
    cases hx:ix ks q with
    | none=>rfl
    | some n=>exact absurd (List.mem_of_getElem? (QbF hx)) hn2.1
   simp [this,gO]
  ·rw [if_neg hq]
   cases hx:ix ks q with
   | none=>simp [gO,hq]
   | some n=>simp
def hosL (O:Qz):List Nat→List Obj→LO→Prop
 | [],[],[]=>True
 | k::ks,o::os,x::L=>(gO O k=some o∧isR o x)∧hosL O ks os L
 | _,_,_=>False
theorem hosL.len {O:Qz}:∀ {ks:List Nat} {os:List Obj} {L:LO},hosL O ks os L→L.length=ks.length∧os.length=ks.length
 | [],[],[],_=>⟨rfl,rfl⟩
 | k::ks,o::os,x::L,h=>by
  obtain ⟨h1,h2⟩:=hosL.len h.2
  exact ⟨by simp [h1],by simp [h2]⟩
 | [],_::_,_,h=>h.elim
 | [],[],_::_,h=>h.elim
 | _::_,[],_,h=>h.elim
 | _::_,_::_,[],h=>h.elim
theorem hosL.at {O:Qz}:∀ {ks:List Nat} {os:List Obj} {L:LO},hosL O ks os L→∀n k:Nat,ks[n]? =some k→∃(o:Obj) (x:Nat×List (List T)),os[n]? =some o∧L[n]? =some x∧gO O k=some o∧isR o x
 | [],_,_,_,n,k,e=>by simp at e
 | k::ks,o::os,x::L,h,0,k',e=>by
  obtain rfl:k=k':=by simpa using e
  exact ⟨o,x,rfl,rfl,h.1.1,h.1.2⟩
 | k::ks,o::os,x::L,h,n+1,k',e=>by
  obtain ⟨o',x',e1,e2,e3⟩:=hosL.at h.2 n k' (by simpa using e)
  exact ⟨o',x',by simpa using e1,by simpa using e2,e3⟩
 | _::_,[],_,h,_,_,_=>h.elim
 | _::_,_::_,[],h,_,_,_=>h.elim
def PinsTo (pins:List (Nat×T)):Nat→Prop
 | 0=>True
 | n+1=>PinsTo pins n∧∃x∈pins,PinK n x.2
theorem PinsTo.at {pins:List (Nat×T)}:∀ {m:Nat},PinsTo pins m→∀k,k<m→∃x∈pins,PinK k x.2
 | 0,_,k,h=>by omega
 | m+1,h,k,hk=>by
  by_cases e:k=m
  ·subst e;exact h.2
  ·exact PinsTo.at h.1 k (by omega)
theorem OC.viaN {call:QN} {P:Program} {E:Q2} {O O1:Qz} {nx nx' k sz:Nat} {o:Oper} {t:T} {rows rows':List (List T)} {asg ks:List Nat} (hk:gO O k=some (.rowsN sz rows asg)) (hsc:scR rows) (hsc':scR rows')
  (h:OC call P E ((k,some (.rows sz rows))::O) nx o t ((k,some (.rows sz rows'))::O1) nx' ks):OC call P E O nx o t ((k,some (.rowsN sz rows' asg))::O1) nx' ks:=⟨h.1,fun q p h0 σ hf own Ea H hs hu hF=>by
 obtain ⟨N,hN1,hN2,h3⟩:=hs.objAt hk
 have hasg:asg= []:=by
  generalize σ k=oa at h3
  cases h3 with
  | noneN=>rfl
  | rowsN hh hodd hlen hfit hsl=>exact hsl.sc hsc.flat
 subst hasg
 have hs':SR p h0 σ hf own E ((k,some (.rows sz rows))::O) nx Ea H:=⟨hs.env,fun k2 o2 h2=>by
  by_cases e:k2=k
  ·subst e
   rw [QkF] at h2
   obtain rfl:=Option.some.inj h2
   refine ⟨(hs.obj _ _ hk).1,N,hN1,hN2,?_⟩
   generalize σ k2=oa at h3 ⊢
   cases h3 with
   | noneN=>exact .none _
   | rowsN hh hodd hlen hfit hsl=>exact .rows hh hodd hlen hfit hsl
  ·rw [QiJ _ (by simpa using e)] at h2
   exact hs.obj k2 o2 h2,hs.fro,hs.mine,hs.base,hs.dom⟩
 obtain ⟨v,h',σ',own',e1,e2,e3,e4,e5⟩:=h.2 q p h0 σ hf own Ea H hs' hu hF
 refine ⟨v,h',σ',own',e1,e2,e3,⟨e4.env,fun k2 o2 h2=> ?_,e4.fro,e4.mine,e4.base,e4.dom⟩,e5⟩
 by_cases e:k2=k
 ·subst e
  rw [QkF] at h2
  obtain rfl:=Option.some.inj h2
  obtain ⟨f1,N',f2,f3,f4⟩:=e4.obj k2 _ (QkF _ _ _)
  refine ⟨f1,N',f2,f3,?_⟩
  generalize hσk:σ' k2=oa at f4 ⊢
  cases f4 with
  | none=>exact .noneN _
  | rows hh hodd hlen hfit hsl =>
   have:=hsl.sc hsc'.flat
   subst this
   exact .rowsN hh hodd hlen hfit hsl
 ·rw [QiJ _ (by simpa using e)] at h2
  exact e4.obj k2 o2 (by rw [QiJ _ (by simpa using e)];exact h2)⟩
section
variable {call : QN} {P : Program} {E : Q2} {O : Qz} {d : Option Tmp} {ty : TypeId} {ps : String} {af : Array Edge} {g : Option (Nat × Bool)} {nx : Nat}
theorem OC.callM {f:FuncId} {args:Array Operand} {tys:Array TypeId} {ts0 ts:List T} {ks:List Nat} {r:T} {L L':LO} {os:List Obj} {O':Qz} (hb:Yo P f=true) (ha:VEvs E args.toList ts0) (hkn:ks.Nodup) (hkl:L.length=ks.length) (hol:os.length=ks.length) (hL':L'.length=ks.length) (hos:∀n k:Nat,ks[n]? =some k→∃(o:Obj) (x:Nat×List (List T)),os[n]? =some o∧L[n]? =some x∧gO O k=some o∧isR o x) (hcl0:∀x∈L,∀r∈x.2,∀t∈r,Clean t) (hcl:∀x∈L',∀r∈x.2,∀t∈r,Clean t) (hts:Qay (fun n=>ks.getD n 0) ts=ts0) (htl:Yv ks.length ts=true) (hr0:PRes r) (hO':QjS O ks L' os=O') (hp:LoanM call f L ts r L') :
  OC call P E O nx ⟨d, .call ⟨.value (.func f),args,tys⟩,ty,ps,af,g⟩ r O' nx ks:=⟨Nat.le_refl _,fun q p h0 σ hf own Ea h hs hu hF=>by
 subst hts
 subst hO'
 classical
 obtain ⟨vs,h1,h2⟩:=ha σ hf nx Ea hs.env
 have key:∀n:Nat,∃w:List Nat×List Nat,∀k:Nat,ks[n]? =some k→∃(o:Obj) (x:Nat×List (List T)),os[n]? =some o∧L[n]? =some x∧k<nx∧w.2.Nodup∧(∀a∈w.2,own a=some k)∧ObjR σ hf nx h (.rowsN x.1 x.2 w.1) (σ k) w.2∧∀ {σ':Nat→Option Nat} {hf' h':AH} {nx':Nat} {y:Nat×List (List T)},ObjR σ' hf' nx' h' (.rowsN y.1 y.2 w.1) (σ k) w.2→ObjR σ' hf' nx' h' (QlT o y) (σ k) w.2:=fun n=>by
  cases hk:ks[n]? with
  | none=>exact ⟨([],[]),fun k e=>by cases e⟩
  | some k =>
   obtain ⟨o,x,e1,e2,e3,e4⟩:=hos n k hk
   obtain ⟨hkx,N,n1,n2,n3⟩:=hs.obj k o e3
   obtain ⟨asg,g1,g2⟩:=e4.toN n3
   refine ⟨(asg,N),fun k' e=> ?_⟩
   obtain rfl:=Option.some.inj e
   exact ⟨o,x,e1,e2,hkx,n1,n2,g1,g2⟩
 obtain ⟨W,has⟩:=Classical.skolem.1 key
 have hgk:∀n k:Nat,ks[n]? =some k→ks.getD n 0=k:=fun n k e=>by rw [List.getD_eq_getElem?_getD,e];rfl
 have hl:VL (fun n=>σ (ks.getD n 0)) hf L.length ts vs:=by
  refine ⟨by have:=h2.1;rw [Zr,List.length_map] at this;exact this,fun i hi=> ?_⟩
  have h6:=h2.2 i (by rw [Zr,List.length_map];exact hi)
  refine V.ren (σ':=fun n=>σ (ks.getD n 0)) (nx':=L.length) (fun _ _=>rfl) h6 ?_ ?_
  ·rw [Zr]
   simp [List.getD_eq_getElem?_getD,hi]
  ·rw [YO,List.all_eq_true] at htl
   rw [hkl]
   refine htl _ ?_
   rw [List.getD_eq_getElem?_getD,List.getElem?_eq_getElem hi]
   exact List.getElem_mem hi
 have h6:=hp (fun n=>(W n).1) h q hf (fun n=>σ (ks.getD n 0)) (fun b=>(own b).bind fun k=>(ix ks k).bind fun n=>if b∈(W n).2 then some n else none) vs hF (fun b o hb=>⟨(hs.fro b o hb).1,by simp only [(hs.fro b o hb).2,Option.bind_none]⟩) (fun b n hb=>by
  obtain ⟨k,e1,e2⟩:=Option.bind_eq_some_iff.1 hb
  obtain ⟨m,e3,e4⟩:=Option.bind_eq_some_iff.1 e2
  split at e4
  ·obtain rfl:=Option.some.inj e4
   exact ⟨(hs.mine b k e1).2.2.1,by rw [hkl];exact (List.getElem?_eq_some_iff.1 (QbF e3)).1⟩
  ·cases e4) (fun n x hx=>by
  have hnl:n<ks.length:=by rw [← hkl];exact (List.getElem?_eq_some_iff.1 hx).1
  have hk:=List.getElem?_eq_getElem hnl
  obtain ⟨o,x',e1,e2,e3,e4,e5,e6,e7⟩:=has n _ hk
  obtain rfl:x=x':=by rw [hx] at e2;exact Option.some.inj e2
  refine ⟨(W n).2,e4,fun a ha=>by simp only [e5 a ha,Option.bind_some,Qmn hkn hk,if_pos ha],?_⟩
  show ObjR _ hf _ h _ (σ (ks.getD n 0)) _
  rw [hgk n _ hk]
  exact e6.moveN (hcl0 x (List.mem_of_getElem? hx)) (fun _ _=>rfl)) hl
 unfold CallS at h6
 obtain ⟨v,h',k1,k2,k3,⟨hf2,k4⟩,k5⟩:=h6
 have hfree:∀b,h b≠none→(∀k n,own b=some k→ix ks k=some n→b∉(W n).2)→h' b=h b:=fun b hb hn=>k3 b hb (by
  cases ho:own b with
  | none=>rfl
  | some k =>
   simp only [Option.bind_some]
   cases hx:ix ks k with
   | none=>rfl
   | some n=>simp only [Option.bind_some];rw [if_neg (hn k n ho hx)])
 refine ⟨v,h',σ,own,by simp only [QA,X.calls hb h1,k1],k2,fun _ _=>rfl,⟨hs.env,fun k' o hk'=> ?_,fun b o hb=> ?_,fun b k' hb=> ?_,hs.base,fun t ht=> ?_⟩, .fz (hr0.R k4 _),fun b hb hnk=>hfree b hb (fun k n e e2=>absurd e (hnk k (List.mem_of_getElem? (QbF e2)))),fun b k' e=> .inl e⟩
 ·rw [QiW k' hkn hL' hol] at hk'
  cases hx:ix ks k' with
  | none =>
   rw [hx] at hk'
   obtain ⟨m1,N2,m2,m3,m4⟩:=hs.obj k' o hk'
   exact ⟨m1,N2,m2,m3,m4.mono (fun _ _ e=>e) (Nat.le_refl _) (fun _ _=>rfl) (fun b hb=>hfree b (hs.mine b k' (m3 b hb)).2.2.1 (fun k n e e2=>by rw [m3 b hb] at e;obtain rfl:=Option.some.inj e;rw [hx] at e2;cases e2))⟩
  | some n =>
   rw [hx] at hk'
   have hk:=QbF hx
   obtain ⟨o1,x,e1,e2,e3,e4,e5,e6,e7⟩:=has n k' hk
   have hnl:=(List.getElem?_eq_some_iff.1 hk).1
   have e8:=List.getElem?_eq_getElem (show n<L'.length by rw [hL'];exact hnl)
   simp only [e8,e1] at hk'
   obtain rfl:=Option.some.inj hk'
   obtain ⟨N',n1,n2,n3⟩:=k5 n _ e8
   simp only [hgk n _ hk] at n3
   have hNN:N'=(W n).2:=by
    rcases e6.nameN with ⟨q1,q3,q2⟩ | ⟨a,q1,q2⟩
    ·rcases n3.nameN with ⟨_,rfl,_⟩ | ⟨a',q4,_⟩
     ·exact q3.symm
     ·rw [q1] at q4;cases q4
    ·rcases n3.nameN with ⟨q3,_,_⟩ | ⟨a',q3,rfl⟩
     ·rw [q1] at q3;cases q3
     ·rw [q1] at q3;rw [q2,Option.some.inj q3]
   rw [hNN] at n3
   exact ⟨e3,(W n).2,e4,e5,e7 (n3.moveN (hcl _ (List.mem_of_getElem? e8)) (fun _ _=>rfl))⟩
 ·obtain ⟨m1,m2⟩:=hs.fro b o hb
  refine ⟨?_,m2⟩
  rw [hfree b (by rw [m1];simp) (fun k n e _=>by rw [m2] at e;cases e)]
  exact m1
 ·obtain ⟨m1,m2,m3,m4⟩:=hs.mine b k' hb
  refine ⟨m1,m2,?_,m4⟩
  by_cases hbm:∃n,ix ks k'=some n∧b∈(W n).2
  ·obtain ⟨n,hx,hbm⟩:=hbm
   have hk:=QbF hx
   have hnl:=(List.getElem?_eq_some_iff.1 hk).1
   have e8:=List.getElem?_eq_getElem (show n<L'.length by rw [hL'];exact hnl)
   obtain ⟨o1,x,e1,e2,e3,e4,e5,e6,e7⟩:=has n k' hk
   obtain ⟨N',n1,n2,n3⟩:=k5 n _ e8
   simp only [hgk n _ hk] at n3
   have hNN:N'=(W n).2:=by
    rcases e6.nameN with ⟨q1,q3,q2⟩ | ⟨a,q1,q2⟩
    ·rcases n3.nameN with ⟨_,rfl,_⟩ | ⟨a',q4,_⟩
     ·exact q3.symm
     ·rw [q1] at q4;cases q4
    ·rcases n3.nameN with ⟨q3,_,_⟩ | ⟨a',q3,rfl⟩
     ·rw [q1] at q3;cases q3
     ·rw [q1] at q3;rw [q2,Option.some.inj q3]
   exact n3.namesN b (by rw [hNN];exact hbm)
  ·rw [hfree b m3 (fun k n e e2 hm=>hbm ⟨n,by rw [hb] at e;rw [Option.some.inj e];exact e2,hm⟩)]
   exact m3
 ·rcases k2 t ht with e | e
  ·exact hs.dom t e
  ·exact .inr (hu t e)⟩
theorem OC.callL {f:FuncId} {args:Array Operand} {tys:Array TypeId} {ts0 ts:List T} (ks:List Nat) {r:T} {L:LO} (L':LO) (os:List Obj) (hb:Yo P f=true) (ha:VEvs E args.toList ts0) (hkn:ks.Nodup) (hL':L'.length=ks.length) (hos:hosL O ks os L) (hcl0:∀x∈L,∀r∈x.2,∀t∈r,Clean t) (hcl:∀x∈L',∀r∈x.2,∀t∈r,Clean t) (hts:Qay (fun n=>ks.getD n 0) ts=ts0) (htl:Yv ks.length ts=true) (hr0:PRes r) (hp:LoanM call f L ts r L') :
  OC call P E O nx ⟨d, .call ⟨.value (.func f),args,tys⟩,ty,ps,af,g⟩ r (QjS O ks L' os) nx ks:=OC.callM hb ha hkn hos.len.1 hos.len.2 hL' hos.at hcl0 hcl hts htl hr0 rfl hp
end
section
variable {α : Type}
def mkL (f:Nat→α→α) (w:α→Nat):Nat→List α→List α
 | _,[]=> []
 | k,x::r=>f k x::mkL f w (k+w x) r
def Jr (w:α→Nat):Nat→List α→Nat
 | k,[]=>k
 | k,x::r=>Jr w (k+w x) r
variable {f : Nat → α → α} {w : α → Nat}
theorem Qa3 : ∀(k:Nat) (l:List α),(mkL f w k l).length=l.length
 | k,[]=>rfl
 | k,x::r=>by simp only [mkL,List.length_cons,Qa3 (k+w x) r]
theorem Qgh : ∀(k:Nat) (l m:List α),Jr w k (l++m)=Jr w (Jr w k l) m
 | k,[],m=>rfl
 | k,x::r,m=>by simp only [List.cons_append,Jr,Qgh (k+w x) r m]
theorem Qji : ∀(k:Nat) (l m:List α),mkL f w k (l++m)=mkL f w k l++mkL f w (Jr w k l) m
 | k,[],m=>rfl
 | k,x::r,m=>by simp only [List.cons_append,mkL,Jr,Qji (k+w x) r m]
theorem Qk4 : ∀(k:Nat) (l:List α),k≤Jr w k l
 | k,[]=>Nat.le_refl _
 | k,x::r=>Nat.le_trans (Nat.le_add_right _ _) (Qk4 (k+w x) r)
theorem Qlg {l:List α} {i k:Nat} {x:α} (h:l[i]? =some x):Jr w k (l.take (i+1))=Jr w k (l.take i)+w x:=by
 rw [List.take_add_one,h,Option.toList_some,Qgh]
 rfl
theorem Qh3 (k:Nat) (l:List α) (i:Nat):Jr w k (l.take i)≤Jr w k l:=by
 have h:Jr w k (l.take i++l.drop i)=Jr w (Jr w k (l.take i)) (l.drop i):=Qgh _ _ _
 rw [List.take_append_drop] at h
 rw [h]
 exact Qk4 _ _
def mkT (f:Nat→α→α) (w:α→Nat) (k:Nat) (l:List α) (i:Nat):List α:=mkL f w k (l.take i)++l.drop i
theorem Qet (k:Nat) (l:List α) (i:Nat):(mkT f w k l i).length=l.length:=by
 unfold mkT
 rw [List.length_append,Qa3,List.length_take,List.length_drop];omega
theorem QmB {k:Nat} {l:List α} {i:Nat} {x:α} (hi:i<l.length) (h:(mkT f w k l i)[i]? =some x):l[i]? =some x:=by
 unfold mkT at h
 rw [List.getElem?_append_right (by rw [Qa3,List.length_take];omega),Qa3,List.length_take,Nat.min_eq_left (by omega),Nat.sub_self,List.getElem?_drop,Nat.add_zero] at h
 exact h
theorem QlO {k:Nat} {l:List α} {i:Nat} {x y:α} (h:l[i]? =some x) (hy:y=f (Jr w k (l.take i)) x):(mkT f w k l i).set i y=mkT f w k l (i+1):=by
 have hi:=(List.getElem?_eq_some_iff.1 h).1
 subst hy
 unfold mkT
 rw [List.set_append_right _ _ (by rw [Qa3,List.length_take];omega),Qa3,List.length_take,Nat.min_eq_left (by omega),Nat.sub_self,List.drop_eq_getElem_cons hi,List.set_cons_zero,List.take_add_one,h,Option.toList_some,Qji]
 simp [mkL]
theorem Qk3 {k:Nat} {l:List α} {i:Nat} (h:¬i<l.length):mkT f w k l i=mkL f w k l:=by
 unfold mkT
 rw [List.take_of_length_le (by omega),List.drop_of_length_le (by omega),List.append_nil]
theorem Qid (hw:∀k x,w (f k x)=w x):∀(k k2:Nat) (l:List α),Jr w k (mkL f w k2 l)=Jr w k l
 | k,k2,[]=>rfl
 | k,k2,x::r=>by simp only [mkL,Jr,hw,Qid hw (k+w x) (k2+w x) r]
theorem Qi3 (hw:∀x,1≤w x):∀(k:Nat) (l:List α),k+l.length≤Jr w k l
 | k,[]=>Nat.le_refl _
 | k,x::r=>by
  have h1:=Qi3 hw (k+w x) r
  have h2:=hw x
  simp only [Jr,List.length_cons]
  omega
theorem Qlo {z:α→Nat} {c:Nat} (hw:∀x,w x≤c*(1+z x)):∀(k:Nat) (l:List α),Jr w k l≤k+c*zL z l
 | k,[]=>Nat.le_add_right _ _
 | k,x::r=>by
  have h1:=Qlo hw (k+w x) r
  have h2:=hw x
  have e:zL z (x::r)=(1+z x)+zL z r:=by simp only [zL,Qav,List.length_cons];omega
  rw [e,Nat.mul_add]
  simp only [Jr]
  omega
end
end Go.Proofs.YtcccmceoplcciaaGreat.AE
namespace Go.Proofs.YtcccmceoplcciaaGreat.AE
open Go Go.RowKit
set_option linter.unusedVariables false
set_option linter.unusedSimpArgs false
theorem SL.intRows {hf h:AH}:∀ {a:List Int} {vs:List Value} {N:List Nat},SL hf h (a.map (Qa true)).flatten vs N→vs=a.map (.int .i64)∧N= []
 | [],vs,N,hs=>by
  cases hs with
  | nil=>exact ⟨rfl,rfl⟩
 | x::r,vs,N,hs=>by
  have hs:SL hf h (T.int .i64 x::(r.map (Qa true)).flatten) vs N:=hs
  cases hs with
  | cons h1 h2 =>
   obtain ⟨rfl,rfl⟩:=SL.intRows h2
   cases h1 with
   | fz hr =>
    cases hr with
    | int k n=>exact ⟨rfl,rfl⟩
theorem SL.ofInts {hf h:AH}:∀(a:List Int),SL hf h (a.map (Qa true)).flatten (a.map (.int .i64)) []
 | []=> .nil
 | x::r=>SL.cons (N:= []) (M:= []) (.fz (.int .i64 x)) (SL.ofInts r)
theorem QhR (a:List Int):∀r∈a.map (Qa true),r.length=1:=fun r hr=>by
 obtain ⟨x,_,rfl⟩:=List.mem_map.1 hr
 rfl
theorem Qf9 {cs:List Value} {a:List Int} {n:Nat} (h:cs.take n=a.map (.int .i64)) (hl:a.length=n):Qa5 (cs.take n)=some a:=by rw [h];exact Qe7 a
theorem Loan.len {call:QN} {f:FuncId} {sz n m:Nat} {rows rows':List (List T)} {ts:List T} {r:T} (e:n=m) (h:Loan call f sz rows (.os sz 0 0 m::ts) r rows'):Loan call f sz rows (.os sz 0 0 n::ts) r rows':=e▸h
theorem Qf0 : YG []= []:=by simp [YG]
theorem V.unit {σ:Nat→Option Nat} {hf:AH} {nx:Nat}:V σ hf nx (.tup []) (.tuple #[]):= .fz (.tup [] #[] rfl (fun i hi=>by simp at hi))
theorem QlA {P:Program} {f:FuncId} (n:Nat) (hp:Qap f=false) (hq:Qi8 f=QaI) (a:List Int) (hb:a.length<4611686018427387904):Loan (Qq P (n+1)) f 1 (a.map (Qa true)) [.os 1 0 0 (a.map (Qa true)).length] (.tup []) ((YG a).map (Qa true)):=by
 intro h p hf σ N vs hfr hfN hnd hO hvs
 obtain ⟨v0,l,rfl,hv,hl⟩:=hvs.tail
 obtain rfl:=List.eq_nil_of_length_eq_zero hl.1.symm
 have hcall:∀args,Qq P (n+1) f args h p=QaI args h:=fun args=>by rw [Qq,if_neg (by rw [hp];simp),hq]
 unfold CallS
 rw [hcall]
 obtain ⟨_,⟨t,m,rfl,hs,hm⟩ | ⟨hs,_,hn,hv0⟩⟩:=hv.osInv
 ·rw [hs] at hO
  generalize hoa:some t=oa at hO
  generalize hrw:a.map (Qa true)=rows at hO
  cases hO with
  | none=>cases hoa
  | rows hk hodd hlen hfit hsl =>
   cases hoa
   subst hrw
   rename_i cs N
   rw [List.length_map,Nat.mul_one] at hsl
   obtain ⟨hcs,rfl⟩:=SL.intRows hsl
   by_cases h0:a.length=0
   ·obtain rfl:=List.eq_nil_of_length_eq_zero h0
    refine ⟨.tuple #[],h,rfl,fun _ h=> .inl h,fun _ _ _=>rfl,V.unit,?_⟩
    rw [hs,Qf0]
    exact .rows hk hodd hlen hfit hsl
   ·refine ⟨.tuple #[],h.upd t (some (.cells 1 ((YG a).map (.int .i64)))),?_,fun b hb=> ?_,fun b _ hb=> ?_,V.unit,?_⟩
    ·unfold QaI
     simp only [List.length_map,if_neg h0,Nat.zero_mul,hk,Qf9 hcs rfl]
     rw [if_pos ⟨hodd,trivial,hb⟩]
    ·unfold AH.upd at hb
     split at hb
     ·rename_i e;subst e;exact .inl (by rw [hk];simp)
     ·exact .inl hb
    ·exact if_neg (fun e=>hb (by simp [e]))
    ·rw [hs]
     exact .rows (if_pos rfl) hodd (QhR _) (by simp) (by
      rw [List.length_map,Nat.mul_one,List.take_of_length_le (by simp)]
      exact SL.ofInts _)
 ·have ha:a= []:=List.eq_nil_of_length_eq_zero (by simpa using hn)
  subst ha
  refine ⟨.tuple #[],h,?_,fun _ h=> .inl h,fun _ _ _=>rfl,V.unit,by rw [Qf0];exact hO⟩
  rcases hv0 with rfl | ⟨b,o,rfl⟩<;>rfl
theorem QlB {P:Program} {f:FuncId} (n:Nat) (hp:Qap f=false) (hq:Qi8 f=QaK) (a:List Int) (hb:a.length<4611686018427387904):Loan (Qq P (n+1)) f 1 (a.map (Qa true)) [.os 1 0 0 (a.map (Qa true)).length] (.os 1 0 0 ((Lib.compact a).map (Qa true)).length) ((Lib.compact a).map (Qa true)):=by
 intro h p hf σ N vs hfr hfN hnd hO hvs
 obtain ⟨v0,l,rfl,hv,hl⟩:=hvs.tail
 obtain rfl:=List.eq_nil_of_length_eq_zero hl.1.symm
 have hcall:∀args,Qq P (n+1) f args h p=QaK args h:=fun args=>by rw [Qq,if_neg (by rw [hp];simp),hq]
 unfold CallS
 rw [hcall]
 obtain ⟨hk0,⟨t,m,rfl,hs,hm⟩ | ⟨hs,_,hn,hv0⟩⟩:=hv.osInv
 ·rw [hs] at hO
  generalize hoa:some t=oa at hO
  generalize hrw:a.map (Qa true)=rows at hO
  cases hO with
  | none=>cases hoa
  | rows hk hodd hlen hfit hsl =>
   cases hoa
   subst hrw
   rename_i cs N
   rw [List.length_map,Nat.mul_one] at hsl
   obtain ⟨hcs,rfl⟩:=SL.intRows hsl
   by_cases h0:a.length=0
   ·obtain rfl:=List.eq_nil_of_length_eq_zero h0
    refine ⟨_,h,rfl,fun _ h=> .inl h,fun _ _ _=>rfl,hv,?_⟩
    rw [hs]
    exact .rows hk hodd hlen hfit hsl
   ·refine ⟨.slice (some ⟨t,0,none⟩) (Lib.compact a).length m,h.upd t (some (.cells 1 ((Lib.compact a).map (.int .i64)))),?_,fun b hb=> ?_,fun b _ hb=> ?_,?_,?_⟩
    ·unfold QaK
     simp only [List.length_map,if_neg h0,Nat.zero_mul,hk,Qf9 hcs rfl]
     rw [if_pos ⟨hodd,trivial,hb⟩]
    ·unfold AH.upd at hb
     split at hb
     ·rename_i e;subst e;exact .inl (by rw [hk];simp)
     ·exact .inl hb
    ·exact if_neg (fun e=>hb (by simp [e]))
    ·have:=V.os (σ:=σ) (hf:=hf) (nx:=1) 1 0 0 (Lib.compact a).length m hk0 hs hm
     rw [Nat.zero_mul] at this
     rw [List.length_map]
     exact this
    ·rw [hs]
     exact .rows (if_pos rfl) hodd (QhR _) (by simp) (by
      rw [List.length_map,Nat.mul_one,List.take_of_length_le (by simp)]
      exact SL.ofInts _)
 ·have ha:a= []:=List.eq_nil_of_length_eq_zero (by simpa using hn)
  subst ha
  rcases hv0 with rfl | ⟨b,o,rfl⟩
  ·exact ⟨_,h,rfl,fun _ h=> .inl h,fun _ _ _=>rfl,hv,hO⟩
  ·exact ⟨_,h,rfl,fun _ h=> .inl h,fun _ _ _=>rfl,hv,hO⟩
end Go.Proofs.YtcccmceoplcciaaGreat.AE
namespace Go.Proofs.YtcccmceoplcciaaGreat.AE
open Go Go.RowKit
set_option linter.unusedVariables false
set_option linter.unusedSimpArgs false
section
variable {call : QN} {P : Program} {E : Q2} {O : Qz} {nx : Nat} {S : AX → Q2 → Qz → Nat → Prop} {u v : Code} {c : Tmp}
theorem ct (h:gE E c= .bool true) (hx:VRun call P u E O nx S):VRun call P (.cond (.tmp c) u v) E O nx S:=VRun.cond (VEv.tmp h) (fun _=>hx) (fun e=>absurd e (by decide))
theorem cf (h:gE E c= .bool false) (hx:VRun call P v E O nx S):VRun call P (.cond (.tmp c) u v) E O nx S:=VRun.cond (VEv.tmp h) (fun e=>absurd e (by decide)) (fun _=>hx)
theorem ck {b:Bool} (hb:b=true) (h:gE E c= .bool b) (hx:VRun call P u E O nx S):VRun call P (.cond (.tmp c) u v) E O nx S:=ct (hb▸h) hx
theorem cg {b:Bool} (hb:b=false) (h:gE E c= .bool b) (hx:VRun call P v E O nx S):VRun call P (.cond (.tmp c) u v) E O nx S:=cf (hb▸h) hx
theorem vn : VEvs E [] []:= .nil
theorem ln : LendL O [] []:=LendL.nil
theorem ZJ : ∀ {ts:List T},ts.all JV=true→LendL O ts ts
 | [],_=>LendL.nil
 | t::r,h=>by
  simp only [List.all_cons,Bool.and_eq_true] at h
  exact LendL.cons (Lend.pl h.1) (ZJ h.2)
def QmW : List Nat→Bool
 | []=>true
 | a::r=> !(r.contains a) && QmW r
theorem nd : ∀ {l:List Nat},QmW l=true→l.Nodup
 | [],_=>List.nodup_nil
 | a::r,h=>by
  simp only [QmW,Bool.and_eq_true] at h
  exact List.nodup_cons.2 ⟨by simpa using h.1,nd h.2⟩
end
section
variable {call : QN} {P : Program} {E : Q2} {O : Qz} {d : Option Tmp} {ty tt xt : TypeId} {ps : String} {af : Array Edge} {g : Option (Nat × Bool)} {x y : Operand} {kk : IntKind} {a b : Int} {m n : Nat}
theorem xls (hx:VEv E x (.int kk a)) (hy:VEv E y (.int kk b)):OF call P E ⟨d, .binOp .lss tt x y xt,ty,ps,af,g⟩ (.bool (decide (a<b))):=B.lss hx hy rfl
theorem xle (hx:VEv E x (.int kk a)) (hy:VEv E y (.int kk b)):OF call P E ⟨d, .binOp .leq tt x y xt,ty,ps,af,g⟩ (.bool (decide (a≤b))):=B.leq hx hy rfl
theorem xgt (hx:VEv E x (.int kk a)) (hy:VEv E y (.int kk b)):OF call P E ⟨d, .binOp .gtr tt x y xt,ty,ps,af,g⟩ (.bool (decide (b<a))):=B.gtr hx hy rfl
theorem xge (hx:VEv E x (.int kk a)) (hy:VEv E y (.int kk b)):OF call P E ⟨d, .binOp .geq tt x y xt,ty,ps,af,g⟩ (.bool (decide (b≤a))):=B.geq hx hy rfl
theorem Y7 (hx:VEv E x (.int kk a)) (hy:VEv E y (.int kk b)):OF call P E ⟨d, .binOp .eql tt x y xt,ty,ps,af,g⟩ (.bool (decide (a=b))):=B.eql hx hy rfl
theorem xne (hx:VEv E x (.int kk a)) (hy:VEv E y (.int kk b)):OF call P E ⟨d, .binOp .neq tt x y xt,ty,ps,af,g⟩ (.bool (!decide (a=b))):=B.neq hx hy rfl
theorem Zf (hx:VEv E x (tN m)) (hy:VEv E y (tN n)):OF call P E ⟨d, .binOp .lss tt x y xt,ty,ps,af,g⟩ (.bool (decide (m<n))):=B.lss hx hy (Zb (by omega))
theorem QlZ (hx:VEv E x (tN m)) (hy:VEv E y (tN n)):OF call P E ⟨d, .binOp .eql tt x y xt,ty,ps,af,g⟩ (.bool (decide (m=n))):=B.eql hx hy (Zb (by omega))
theorem Qia (hx:VEv E x (tN m)) (hy:VEv E y (tN n)):OF call P E ⟨d, .binOp .neq tt x y xt,ty,ps,af,g⟩ (.bool (!decide (m=n))):=B.neq hx hy (congrArg (!·) (Zb (by omega)))
theorem QW {b1:Bool} (hx:VEv E x (.bool b1)):OF call P E ⟨d, .unOp .not tt x,ty,ps,af,g⟩ (.bool (!b1)):=B.not hx rfl
theorem QB (hx:VEv E x (tN m)) (hy:VEv E y (.int .i64 1)) (h:m+1<9223372036854775808):OF call P E ⟨d, .binOp .add tt x y xt,ty,ps,af,g⟩ (tN (m+1)):=B.add hx hy (by rw [Qt (by omega)];omega)
theorem xcv {k0 kd:IntKind} {st dt:TypeId} {m:Int} (hx:VEv E x (.int k0 a)) (h1:P.underlying st=some (.int k0)) (h2:P.underlying dt=some (.int kd)) (he:kd.wrap a=m):OF call P E ⟨d, .convert st dt x,ty,ps,af,g⟩ (.int kd m):=he▸OF.convI hx h1 h2
theorem JN {s:ByteArray} (hx:VEv E x (.str s)) (hy:VEv E y (tN m)) (hi:m<s.size) (hu:P.underlying tt=some .string):OF call P E ⟨d, .index tt x y,ty,ps,af,g⟩ (.int .u8 (Qu s m)):=B.index hx hy rfl hi hu (YN hi)
end
section
variable {call : QN} {P : Program} {ops : Array Oper} {l : List Oper} {E : Q2} {O : Qz} {nx : Nat} {K : Q2 → Qz → Nat → Prop} {d1 a : Nat} {d2 : Option Tmp} {ty1 ty2 tt tt2 : TypeId} {ps1 ps2 : String} {af1 af2 : Array Edge} {j k o off : Nat} {us : List T}
theorem Qew (E:Q2) (n:Nat) (t:T):gE ((n,t)::E) n=t:=by simp [gE]
theorem lf (t:T) (h:gE E a= .op k o) (fa:∀k o,Qh P tt (.pointer (some ⟨k,o,none⟩)) j=some (.pointer (some ⟨k,o+off,none⟩))) (hk:gO O k=some (.cells us)) (ht:us[o+off]? =some t) (hst:Qw P tt2=some false) (hK:VRunO call P ops l (pE ((d1, .op k (o+off))::E) d2 t) O nx K) :
  VRunO call P ops (⟨some d1, .fieldAddr tt (.tmp a) j,ty1,ps1,af1,none⟩::⟨d2, .load tt2 (.tmp d1),ty2,ps2,af2,none⟩::l) E O nx K:=fO (OF.fieldAddrO (VEv.tmp h) fa) (lO (OL.loadO1 (VEv.tmp (Qew _ _ _)) hk ht hst) hK)
theorem lr (t:T) (h:gE E a= .rp us) (hn:off≤us.length) (fa:∀k o,Qh P tt (.pointer (some ⟨k,o,none⟩)) j=some (.pointer (some ⟨k,o+off,none⟩))) (ht:(us.drop off)[0]? =some t) (hst:Qw P tt2=some false) (hK:VRunO call P ops l (pE ((d1, .rp (us.drop off))::E) d2 t) O nx K) :
  VRunO call P ops (⟨some d1, .fieldAddr tt (.tmp a) j,ty1,ps1,af1,none⟩::⟨d2, .load tt2 (.tmp d1),ty2,ps2,af2,none⟩::l) E O nx K:=fO (B.fieldAddrR (VEv.tmp h) hn fa rfl) (lO (OL.loadR1 (VEv.tmp (Qew _ _ _)) ht hst) hK)
variable {i q : Nat} {w b : Bool} {t0 : T}
theorem Yl (t:T) (hb:b=w) (hd:(ops[i]?).bind (·.dst)=some q) (hq:gE E q= .bool b) (hne:(q == d1)=false) (h:gE E a= .op k o) (fa:∀k o,Qh P tt (.pointer (some ⟨k,o,none⟩)) j=some (.pointer (some ⟨k,o+off,none⟩))) (hk:gO O k=some (.cells us)) (ht:us[o+off]? =some t) (hst:Qw P tt2=some false) (hK:VRunO call P ops l (pE ((d1, .op k (o+off))::E) d2 t) O nx K) :
  VRunO call P ops (⟨some d1, .fieldAddr tt (.tmp a) j,ty1,ps1,af1,some (i,w)⟩::⟨d2, .load tt2 (.tmp d1),ty2,ps2,af2,some (i,w)⟩::l) E O nx K:=gF hb hd hq (OF.fieldAddrO (VEv.tmp h) fa) (gL hb hd ((QiA E hne _).trans hq) (OL.loadO1 (VEv.tmp (Qew _ _ _)) hk ht hst) hK)
theorem glr (t:T) (hb:b=w) (hd:(ops[i]?).bind (·.dst)=some q) (hq:gE E q= .bool b) (hne:(q == d1)=false) (h:gE E a= .rp us) (hn:off≤us.length) (fa:∀k o,Qh P tt (.pointer (some ⟨k,o,none⟩)) j=some (.pointer (some ⟨k,o+off,none⟩))) (ht:(us.drop off)[0]? =some t) (hst:Qw P tt2=some false) (hK:VRunO call P ops l (pE ((d1, .rp (us.drop off))::E) d2 t) O nx K) :
  VRunO call P ops (⟨some d1, .fieldAddr tt (.tmp a) j,ty1,ps1,af1,some (i,w)⟩::⟨d2, .load tt2 (.tmp d1),ty2,ps2,af2,some (i,w)⟩::l) E O nx K:=gF hb hd hq (B.fieldAddrR (VEv.tmp h) hn fa rfl) (gL hb hd ((QiA E hne _).trans hq) (OL.loadR1 (VEv.tmp (Qew _ _ _)) ht hst) hK)
def Qly (i:Nat) (w:Bool) (q:Nat):List Oper→Bool
 | []=>true
 | o::r=>(match o.guard with | some (a,b)=>Nat.beq a i && (b == w) | none=>false) && (match o.dst with | some d=> !(Nat.beq d q) | none=>true) && Qly i w q r
def Qmf (E:Q2):List Oper→Q2
 | []=>E
 | o::r=>Qmf (pE E o.dst (.tup [])) r
theorem QnI (hd:(ops[i]?).bind (·.dst)=some q) (hv:∀(dd:Option Tmp) (op:Op) (ty:TypeId) (ps:String) (af:Array Edge) (E:Q2),gE E q=t0→VWant ops E ⟨dd,op,ty,ps,af,some (i,w)⟩ false) {l2:List Oper} (l1:List Oper):∀(E:Q2),Qly i w q l1=true→gE E q=t0→VRunO call P ops l2 (Qmf E l1) O nx K→VRunO call P ops (l1++l2) E O nx K:=by
 induction l1 with
 | nil=>exact fun E _ _ hK=>hK
 | cons o r ih =>
  intro E hc hq hK
  obtain ⟨dd,op,ty,ps,af,g⟩:=o
  simp only [Qly,Bool.and_eq_true] at hc
  obtain ⟨⟨h1,h2⟩,h3⟩:=hc
  cases g with
  | none=>cases h1
  | some g =>
   obtain ⟨a,b⟩:=g
   simp only [Bool.and_eq_true] at h1
   have e1:a=i:=Nat.eq_of_beq_eq_true h1.1
   have e2:b=w:=by simpa using h1.2
   subst e1
   subst e2
   refine VRunO.off (hv _ _ _ _ _ _ hq) (ih _ h3 ?_ hK)
   cases dd with
   | none=>exact hq
   | some d =>
    refine (QiA E (d:=d) (t:=q) ?_ _).trans hq
    rw [beq_eq_false_iff_ne]
    rintro rfl
    simp at h2
theorem Qy (m i:Nat) (w:Bool) (q:Nat) (hb:b= !w) (hd:(ops[i]?).bind (·.dst)=some q) (hq:gE E q= .bool b) (hc:Qly i w q (l.take m)=true) (hK:VRunO call P ops (l.drop m) (Qmf E (l.take m)) O nx K):VRunO call P ops l E O nx K:=by
 rw [← List.take_append_drop m l]
 exact QnI hd (fun _ _ _ _ _ _ h=>VWant.not hd h hb) _ _ hc hq hK
theorem Qac (m i:Nat) (w:Bool) (q:Nat) (hd:(ops[i]?).bind (·.dst)=some q) (hq:gE E q= .tup []) (hc:Qly i w q (l.take m)=true) (hK:VRunO call P ops (l.drop m) (Qmf E (l.take m)) O nx K):VRunO call P ops l E O nx K:=by
 rw [← List.take_append_drop m l]
 exact QnI hd (fun _ _ _ _ _ _ h=>VWant.undef hd h) _ _ hc hq hK
end
end Go.Proofs.YtcccmceoplcciaaGreat.AE
namespace Go.Proofs.YtcccmceoplcciaaGreat.AE
open Go Go.RowKit
set_option linter.unusedVariables false
set_option linter.unusedSimpArgs false
structure D.Grid where
 Rows:Int
 Cols:Int
 Cells:ByteArray
def QkB : AK D.Grid:=AK.iso (AK.pair (AK.int .i64) (AK.pair (AK.int .i64) AK.string)) (fun x=>(x.Rows,x.Cols,x.Cells))
def QkZ (x:D.Grid):Prop:=((Lit.int .i64 x.Rows).wf=true)∧((Lit.int .i64 x.Cols).wf=true)∧(x.Cells.size≤maxLen)
structure D.Step where
 Kind:Int
 Word:ByteArray
 A:Int
 B:Int
def Qlz : AK D.Step:=AK.iso (AK.pair (AK.int .i64) (AK.pair AK.string (AK.pair (AK.int .i64) (AK.int .i64)))) (fun x=>(x.Kind,x.Word,x.A,x.B))
def Qjf (x:D.Step):Prop:=((Lit.int .i64 x.Kind).wf=true)∧(x.Word.size≤maxLen)∧((Lit.int .i64 x.A).wf=true)∧((Lit.int .i64 x.B).wf=true)
structure D.Clue where
 Sense:Int
 Play:_root_.List D.Step
def QkU : AK D.Clue:=AK.iso (AK.pair (AK.int .i64) (AK.slice Qlz)) (fun x=>(x.Sense,x.Play))
def Qjb (x:D.Clue):Prop:=((Lit.int .i64 x.Sense).wf=true)∧((x.Play.length≤maxLen∧∀y∈x.Play,Qjf y))
structure D.Puzzle where
 Grid:D.Grid
 Clues:_root_.List D.Clue
 Seals:_root_.List Int
 Salt:Int
def Qjt : AK D.Puzzle:=AK.iso (AK.pair QkB (AK.pair (AK.slice QkU) (AK.pair (AK.slice (AK.int .i64)) (AK.int .i64)))) (fun x=>(x.Grid,x.Clues,x.Seals,x.Salt))
def QgP (x:D.Puzzle):Prop:=(QkZ x.Grid)∧((x.Clues.length≤maxLen∧∀y∈x.Clues,Qjb y))∧((x.Seals.length≤maxLen∧∀y∈x.Seals,(Lit.int .i64 y).wf=true))∧((Lit.int .i64 x.Salt).wf=true)
structure D.Session where
 Fill:ByteArray
 Checks:Int
 Spent:Int
 Asked:_root_.List Int
 Start:Int
 Now:Int
def QhB : AK D.Session:=AK.iso (AK.pair AK.string (AK.pair (AK.int .i64) (AK.pair (AK.int .i64) (AK.pair (AK.slice (AK.int .i64)) (AK.pair (AK.int .i64) (AK.int .i64)))))) (fun x=>(x.Fill,x.Checks,x.Spent,x.Asked,x.Start,x.Now))
def QeK (x:D.Session):Prop:=(x.Fill.size≤maxLen)∧((Lit.int .i64 x.Checks).wf=true)∧((Lit.int .i64 x.Spent).wf=true)∧((x.Asked.length≤maxLen∧∀y∈x.Asked,(Lit.int .i64 y).wf=true))∧((Lit.int .i64 x.Start).wf=true)∧((Lit.int .i64 x.Now).wf=true)
structure D.Slot where
 Number:Int
 Down:Bool
 Cell:Int
 Length:Int
theorem Qn9 : Y5 Tryz.prog 23 QkB QkZ:=Jp (YJ (P:=Tryz.prog) (t:=23) (fun x:D.Grid=>(x.Rows,x.Cols,x.Cells)) (fun x=>⟨x.1,x.2.1,x.2.2⟩) (fun _=>rfl) Tryz.underlying23 (by kernel_rfl) (Q6 rfl (by kernel_rfl) (Zo (k:= .i64) Tryz.underlying3) (Q6 rfl (by kernel_rfl) (Zo (k:= .i64) Tryz.underlying3) (Jq rfl (by kernel_rfl) (Qao Tryz.underlying9))))) (fun _ h=>h)
theorem Qnw : Y5 Tryz.prog 154 Qlz Qjf:=Jp (YJ (P:=Tryz.prog) (t:=154) (fun x:D.Step=>(x.Kind,x.Word,x.A,x.B)) (fun x=>⟨x.1,x.2.1,x.2.2.1,x.2.2.2⟩) (fun _=>rfl) Tryz.underlying154 (by kernel_rfl) (Q6 rfl (by kernel_rfl) (Zo (k:= .i64) Tryz.underlying3) (Q6 rfl (by kernel_rfl) (Qao Tryz.underlying9) (Q6 rfl (by kernel_rfl) (Zo (k:= .i64) Tryz.underlying3) (Jq rfl (by kernel_rfl) (Zo (k:= .i64) Tryz.underlying3)))))) (fun _ h=>h)
theorem Qoc : Y5 Tryz.prog 76 QkU Qjb:=Jp (YJ (P:=Tryz.prog) (t:=76) (fun x:D.Clue=>(x.Sense,x.Play)) (fun x=>⟨x.1,x.2⟩) (fun _=>rfl) Tryz.underlying76 (by kernel_rfl) (Q6 rfl (by kernel_rfl) (Zo (k:= .i64) Tryz.underlying3) (Jq rfl (by kernel_rfl) (JF Tryz.underlying74 (by kernel_rfl) (of_decide_eq_true (by kernel_rfl)) Qnw)))) (fun _ h=>h)
theorem Qob : Y5 Tryz.prog 27 Qjt QgP:=Jp (YJ (P:=Tryz.prog) (t:=27) (fun x:D.Puzzle=>(x.Grid,x.Clues,x.Seals,x.Salt)) (fun x=>⟨x.1,x.2.1,x.2.2.1,x.2.2.2⟩) (fun _=>rfl) Tryz.underlying27 (by kernel_rfl) (Q6 rfl (by kernel_rfl) Qn9 (Q6 rfl (by kernel_rfl) (JF Tryz.underlying24 (by kernel_rfl) (of_decide_eq_true (by kernel_rfl)) Qoc) (Q6 rfl (by kernel_rfl) (JF Tryz.underlying25 (by kernel_rfl) (of_decide_eq_true (by kernel_rfl)) (Zo (k:= .i64) Tryz.underlying3)) (Jq rfl (by kernel_rfl) (Zo (k:= .i64) Tryz.underlying3)))))) (fun _ h=>h)
theorem Qoi : Y5 Tryz.prog 51 QhB QeK:=Jp (YJ (P:=Tryz.prog) (t:=51) (fun x:D.Session=>(x.Fill,x.Checks,x.Spent,x.Asked,x.Start,x.Now)) (fun x=>⟨x.1,x.2.1,x.2.2.1,x.2.2.2.1,x.2.2.2.2.1,x.2.2.2.2.2⟩) (fun _=>rfl) Tryz.underlying51 (by kernel_rfl) (Q6 rfl (by kernel_rfl) (Qao Tryz.underlying9) (Q6 rfl (by kernel_rfl) (Zo (k:= .i64) Tryz.underlying3) (Q6 rfl (by kernel_rfl) (Zo (k:= .i64) Tryz.underlying3) (Q6 rfl (by kernel_rfl) (JF Tryz.underlying25 (by kernel_rfl) (of_decide_eq_true (by kernel_rfl)) (Zo (k:= .i64) Tryz.underlying3)) (Q6 rfl (by kernel_rfl) (Zo (k:= .i64) Tryz.underlying3) (Jq rfl (by kernel_rfl) (Zo (k:= .i64) Tryz.underlying3)))))))) (fun _ h=>h)
theorem sz2 : Tryz.prog.cellsOf 2=1:=by kernel_rfl
theorem QU : Qw Tryz.prog 3=some false:=by kernel_rfl
theorem Q8 : Tryz.prog.cellsOf 3=1:=by kernel_rfl
theorem Yk : (Tryz.prog.info? 3).isSome=true:=by kernel_rfl
theorem J3 : Zd Tryz.prog 3=some (.int .i64 0):=by kernel_rfl
theorem zc3 : closedV (.int .i64 0)=true:=by kernel_rfl
theorem st4 : Qw Tryz.prog 4=some false:=by kernel_rfl
theorem sz4 : Tryz.prog.cellsOf 4=1:=by kernel_rfl
theorem if4 : (Tryz.prog.info? 4).isSome=true:=by kernel_rfl
theorem zo4 : Zd Tryz.prog 4=some (.bool false):=by kernel_rfl
theorem zc4 : closedV (.bool false)=true:=by kernel_rfl
theorem st5 : Qw Tryz.prog 5=some false:=by kernel_rfl
theorem sz5 : Tryz.prog.cellsOf 5=1:=by kernel_rfl
theorem if5 : (Tryz.prog.info? 5).isSome=true:=by kernel_rfl
theorem zo5 : Zd Tryz.prog 5=some (.int .u8 0):=by kernel_rfl
theorem Z7 : Qw Tryz.prog 9=some false:=by kernel_rfl
theorem sz9 : Tryz.prog.cellsOf 9=1:=by kernel_rfl
theorem if9 : (Tryz.prog.info? 9).isSome=true:=by kernel_rfl
theorem zo9 : Zd Tryz.prog 9=some (.string ByteArray.empty):=by kernel_rfl
theorem Qnx : Qw Tryz.prog 23=some true:=by kernel_rfl
theorem QmX : Tryz.prog.cellsOf 23=3:=by kernel_rfl
theorem Qog : (Tryz.prog.info? 23).isSome=true:=by kernel_rfl
theorem QnW : Qw Tryz.prog 24=some false:=by kernel_rfl
theorem Qoh : Tryz.prog.cellsOf 24=1:=by kernel_rfl
theorem Qn7 : (Tryz.prog.info? 24).isSome=true:=by kernel_rfl
theorem YY : Qw Tryz.prog 25=some false:=by kernel_rfl
theorem QbX : Tryz.prog.cellsOf 25=1:=by kernel_rfl
theorem Qdp : (Tryz.prog.info? 25).isSome=true:=by kernel_rfl
theorem QnK : Zd Tryz.prog 25=some (.slice none 0 0):=by kernel_rfl
theorem Qky : Qw Tryz.prog 27=some true:=by kernel_rfl
theorem Qlt : Tryz.prog.cellsOf 27=6:=by kernel_rfl
theorem QX : Qw Tryz.prog 34=some true:=by kernel_rfl
theorem QT : Tryz.prog.cellsOf 34=3:=by kernel_rfl
theorem Qii : (Tryz.prog.info? 34).isSome=true:=by kernel_rfl
theorem QjR : Zd Tryz.prog 34=some (.agg #[.int .i64 0, .int .i64 0, .string ByteArray.empty]):=by kernel_rfl
theorem QlR : closedV (.agg #[.int .i64 0, .int .i64 0, .string ByteArray.empty])=true:=by kernel_rfl
theorem Qdq : Qw Tryz.prog 35=some false:=by kernel_rfl
theorem QnS : Tryz.prog.cellsOf 35=1:=by kernel_rfl
theorem QnR : (Tryz.prog.info? 35).isSome=true:=by kernel_rfl
theorem QeX : Qw Tryz.prog 37=some true:=by kernel_rfl
theorem QdR : Tryz.prog.cellsOf 37=6:=by kernel_rfl
theorem Qnv : (Tryz.prog.info? 37).isSome=true:=by kernel_rfl
theorem QmT : Zd Tryz.prog 37=some (.agg #[.int .i64 0, .int .i64 0, .string ByteArray.empty, .slice none 0 0, .slice none 0 0, .int .i64 0]):=by kernel_rfl
theorem Qnf : closedV (.agg #[.int .i64 0, .int .i64 0, .string ByteArray.empty, .slice none 0 0, .slice none 0 0, .int .i64 0])=true:=by kernel_rfl
theorem Qke : Qw Tryz.prog 51=some true:=by kernel_rfl
theorem QkO : Tryz.prog.cellsOf 51=6:=by kernel_rfl
theorem Zy : Qw Tryz.prog 56=some true:=by kernel_rfl
theorem Q0 : Tryz.prog.cellsOf 56=6:=by kernel_rfl
theorem Jt : (Tryz.prog.info? 56).isSome=true:=by kernel_rfl
theorem QbW : Zd Tryz.prog 56=some (.agg #[.string ByteArray.empty, .int .i64 0, .int .i64 0, .slice none 0 0, .int .i64 0, .int .i64 0]):=by kernel_rfl
theorem Qb0 : closedV (.agg #[.string ByteArray.empty, .int .i64 0, .int .i64 0, .slice none 0 0, .int .i64 0, .int .i64 0])=true:=by kernel_rfl
theorem QnQ : Qw Tryz.prog 74=some false:=by kernel_rfl
theorem Qn3 : Tryz.prog.cellsOf 74=1:=by kernel_rfl
theorem Qoa : (Tryz.prog.info? 74).isSome=true:=by kernel_rfl
theorem QnV : Qw Tryz.prog 76=some true:=by kernel_rfl
theorem Ql7 : Tryz.prog.cellsOf 76=2:=by kernel_rfl
theorem QnP : (Tryz.prog.info? 76).isSome=true:=by kernel_rfl
theorem QkD : Qw Tryz.prog 81=some false:=by kernel_rfl
theorem QnJ : Tryz.prog.cellsOf 81=1:=by kernel_rfl
theorem QnH : (Tryz.prog.info? 81).isSome=true:=by kernel_rfl
theorem QiD : Qw Tryz.prog 83=some true:=by kernel_rfl
theorem Qbb : Tryz.prog.cellsOf 83=2:=by kernel_rfl
theorem QgJ : (Tryz.prog.info? 83).isSome=true:=by kernel_rfl
theorem Qmu : Zd Tryz.prog 83=some (.agg #[.int .i64 0, .slice none 0 0]):=by kernel_rfl
theorem Qm6 : closedV (.agg #[.int .i64 0, .slice none 0 0])=true:=by kernel_rfl
theorem Qgd : Qw Tryz.prog 121=some true:=by kernel_rfl
theorem Yt : Tryz.prog.cellsOf 121=4:=by kernel_rfl
theorem J6 : (Tryz.prog.info? 121).isSome=true:=by kernel_rfl
theorem QhG : Zd Tryz.prog 121=some (.agg #[.int .i64 0, .string ByteArray.empty, .int .i64 0, .int .i64 0]):=by kernel_rfl
theorem QhF : closedV (.agg #[.int .i64 0, .string ByteArray.empty, .int .i64 0, .int .i64 0])=true:=by kernel_rfl
theorem QcD : Qw Tryz.prog 138=some true:=by kernel_rfl
theorem Zk : Tryz.prog.cellsOf 138=4:=by kernel_rfl
theorem Qa7 : (Tryz.prog.info? 138).isSome=true:=by kernel_rfl
theorem YE : Zd Tryz.prog 138=some (.agg #[.int .i64 0, .bool false, .int .i64 0, .int .i64 0]):=by kernel_rfl
theorem QkY : closedV (.agg #[.int .i64 0, .bool false, .int .i64 0, .int .i64 0])=true:=by kernel_rfl
theorem Qmr : Qw Tryz.prog 154=some true:=by kernel_rfl
theorem Qi0 : Tryz.prog.cellsOf 154=4:=by kernel_rfl
theorem Qmo : (Tryz.prog.info? 154).isSome=true:=by kernel_rfl
theorem Qkg : Qw Tryz.prog 176=some false:=by kernel_rfl
theorem QnC : Tryz.prog.cellsOf 176=1:=by kernel_rfl
theorem QnX : (Tryz.prog.info? 176).isSome=true:=by kernel_rfl
theorem QnN : Zd Tryz.prog 176=some (.slice none 0 0):=by kernel_rfl
theorem QnD : closedV (.slice none 0 0)=true:=by kernel_rfl
theorem QhT : Qw Tryz.prog 178=some false:=by kernel_rfl
theorem Qnt : Tryz.prog.cellsOf 178=1:=by kernel_rfl
theorem Qnz : (Tryz.prog.info? 178).isSome=true:=by kernel_rfl
theorem QmU (k o:Nat):Qh Tryz.prog 23 (.pointer (some ⟨k,o,none⟩)) 0=some (.pointer (some ⟨k,o+0,none⟩)):=by simp [Qh,Tryz.underlying23,Yk,Q8]
theorem QmI (k o:Nat):Qh Tryz.prog 23 (.pointer (some ⟨k,o,none⟩)) 1=some (.pointer (some ⟨k,o+1,none⟩)):=by simp [Qh,Tryz.underlying23,Yk,Q8]
theorem QkI (k o:Nat):Qh Tryz.prog 23 (.pointer (some ⟨k,o,none⟩)) 2=some (.pointer (some ⟨k,o+2,none⟩)):=by simp [Qh,Tryz.underlying23,if9,sz9]
theorem Qkp (k o:Nat):Qh Tryz.prog 27 (.pointer (some ⟨k,o,none⟩)) 0=some (.pointer (some ⟨k,o+0,none⟩)):=by simp [Qh,Tryz.underlying27,Qog,QmX]
theorem Qk5 (k o:Nat):Qh Tryz.prog 27 (.pointer (some ⟨k,o,none⟩)) 1=some (.pointer (some ⟨k,o+3,none⟩)):=by simp [Qh,Tryz.underlying27,Qn7,Qoh]
theorem QkX (k o:Nat):Qh Tryz.prog 27 (.pointer (some ⟨k,o,none⟩)) 2=some (.pointer (some ⟨k,o+4,none⟩)):=by simp [Qh,Tryz.underlying27,Qdp,QbX]
theorem Qm1 (k o:Nat):Qh Tryz.prog 27 (.pointer (some ⟨k,o,none⟩)) 3=some (.pointer (some ⟨k,o+5,none⟩)):=by simp [Qh,Tryz.underlying27,Yk,Q8]
theorem Qaz (k o:Nat):Qh Tryz.prog 34 (.pointer (some ⟨k,o,none⟩)) 0=some (.pointer (some ⟨k,o+0,none⟩)):=by simp [Qh,Tryz.underlying34,Yk,Q8]
theorem Zn (k o:Nat):Qh Tryz.prog 34 (.pointer (some ⟨k,o,none⟩)) 1=some (.pointer (some ⟨k,o+1,none⟩)):=by simp [Qh,Tryz.underlying34,Yk,Q8]
theorem QE (k o:Nat):Qh Tryz.prog 34 (.pointer (some ⟨k,o,none⟩)) 2=some (.pointer (some ⟨k,o+2,none⟩)):=by simp [Qh,Tryz.underlying34,if9,sz9]
theorem Y0 (k o:Nat):Qh Tryz.prog 37 (.pointer (some ⟨k,o,none⟩)) 0=some (.pointer (some ⟨k,o+0,none⟩)):=by simp [Qh,Tryz.underlying37,Qii,QT]
theorem Y2 (k o:Nat):Qh Tryz.prog 37 (.pointer (some ⟨k,o,none⟩)) 1=some (.pointer (some ⟨k,o+3,none⟩)):=by simp [Qh,Tryz.underlying37,QnR,QnS]
theorem Qbj (k o:Nat):Qh Tryz.prog 37 (.pointer (some ⟨k,o,none⟩)) 2=some (.pointer (some ⟨k,o+4,none⟩)):=by simp [Qh,Tryz.underlying37,Qdp,QbX]
theorem Qcq (k o:Nat):Qh Tryz.prog 37 (.pointer (some ⟨k,o,none⟩)) 3=some (.pointer (some ⟨k,o+5,none⟩)):=by simp [Qh,Tryz.underlying37,Yk,Q8]
theorem Qkf (k o:Nat):Qh Tryz.prog 51 (.pointer (some ⟨k,o,none⟩)) 0=some (.pointer (some ⟨k,o+0,none⟩)):=by simp [Qh,Tryz.underlying51,if9,sz9]
theorem Qm0 (k o:Nat):Qh Tryz.prog 51 (.pointer (some ⟨k,o,none⟩)) 1=some (.pointer (some ⟨k,o+1,none⟩)):=by simp [Qh,Tryz.underlying51,Yk,Q8]
theorem QmS (k o:Nat):Qh Tryz.prog 51 (.pointer (some ⟨k,o,none⟩)) 2=some (.pointer (some ⟨k,o+2,none⟩)):=by simp [Qh,Tryz.underlying51,Yk,Q8]
theorem Qlp (k o:Nat):Qh Tryz.prog 51 (.pointer (some ⟨k,o,none⟩)) 3=some (.pointer (some ⟨k,o+3,none⟩)):=by simp [Qh,Tryz.underlying51,Qdp,QbX]
theorem QmJ (k o:Nat):Qh Tryz.prog 51 (.pointer (some ⟨k,o,none⟩)) 4=some (.pointer (some ⟨k,o+4,none⟩)):=by simp [Qh,Tryz.underlying51,Yk,Q8]
theorem Qni (k o:Nat):Qh Tryz.prog 51 (.pointer (some ⟨k,o,none⟩)) 5=some (.pointer (some ⟨k,o+5,none⟩)):=by simp [Qh,Tryz.underlying51,Yk,Q8]
theorem Ju (k o:Nat):Qh Tryz.prog 56 (.pointer (some ⟨k,o,none⟩)) 0=some (.pointer (some ⟨k,o+0,none⟩)):=by simp [Qh,Tryz.underlying56,if9,sz9]
theorem J9 (k o:Nat):Qh Tryz.prog 56 (.pointer (some ⟨k,o,none⟩)) 1=some (.pointer (some ⟨k,o+1,none⟩)):=by simp [Qh,Tryz.underlying56,Yk,Q8]
theorem Qbf (k o:Nat):Qh Tryz.prog 56 (.pointer (some ⟨k,o,none⟩)) 2=some (.pointer (some ⟨k,o+2,none⟩)):=by simp [Qh,Tryz.underlying56,Yk,Q8]
theorem Ym (k o:Nat):Qh Tryz.prog 56 (.pointer (some ⟨k,o,none⟩)) 3=some (.pointer (some ⟨k,o+3,none⟩)):=by simp [Qh,Tryz.underlying56,Qdp,QbX]
theorem Qdc (k o:Nat):Qh Tryz.prog 56 (.pointer (some ⟨k,o,none⟩)) 4=some (.pointer (some ⟨k,o+4,none⟩)):=by simp [Qh,Tryz.underlying56,Yk,Q8]
theorem Qch (k o:Nat):Qh Tryz.prog 56 (.pointer (some ⟨k,o,none⟩)) 5=some (.pointer (some ⟨k,o+5,none⟩)):=by simp [Qh,Tryz.underlying56,Yk,Q8]
theorem QmE (k o:Nat):Qh Tryz.prog 76 (.pointer (some ⟨k,o,none⟩)) 0=some (.pointer (some ⟨k,o+0,none⟩)):=by simp [Qh,Tryz.underlying76,Yk,Q8]
theorem QkC (k o:Nat):Qh Tryz.prog 76 (.pointer (some ⟨k,o,none⟩)) 1=some (.pointer (some ⟨k,o+1,none⟩)):=by simp [Qh,Tryz.underlying76,Qoa,Qn3]
theorem QdG (k o:Nat):Qh Tryz.prog 83 (.pointer (some ⟨k,o,none⟩)) 0=some (.pointer (some ⟨k,o+0,none⟩)):=by simp [Qh,Tryz.underlying83,Yk,Q8]
theorem QdF (k o:Nat):Qh Tryz.prog 83 (.pointer (some ⟨k,o,none⟩)) 1=some (.pointer (some ⟨k,o+1,none⟩)):=by simp [Qh,Tryz.underlying83,QnH,QnJ]
theorem Za (k o:Nat):Qh Tryz.prog 121 (.pointer (some ⟨k,o,none⟩)) 0=some (.pointer (some ⟨k,o+0,none⟩)):=by simp [Qh,Tryz.underlying121,Yk,Q8]
theorem Qah (k o:Nat):Qh Tryz.prog 121 (.pointer (some ⟨k,o,none⟩)) 1=some (.pointer (some ⟨k,o+1,none⟩)):=by simp [Qh,Tryz.underlying121,if9,sz9]
theorem YK (k o:Nat):Qh Tryz.prog 121 (.pointer (some ⟨k,o,none⟩)) 2=some (.pointer (some ⟨k,o+2,none⟩)):=by simp [Qh,Tryz.underlying121,Yk,Q8]
theorem Yn (k o:Nat):Qh Tryz.prog 121 (.pointer (some ⟨k,o,none⟩)) 3=some (.pointer (some ⟨k,o+3,none⟩)):=by simp [Qh,Tryz.underlying121,Yk,Q8]
theorem Qi7 (k o:Nat):Qh Tryz.prog 138 (.pointer (some ⟨k,o,none⟩)) 1=some (.pointer (some ⟨k,o+1,none⟩)):=by simp [Qh,Tryz.underlying138,if4,sz4]
theorem Qeu (k o:Nat):Qh Tryz.prog 138 (.pointer (some ⟨k,o,none⟩)) 2=some (.pointer (some ⟨k,o+2,none⟩)):=by simp [Qh,Tryz.underlying138,Yk,Q8]
theorem QaV (k o:Nat):Qh Tryz.prog 138 (.pointer (some ⟨k,o,none⟩)) 3=some (.pointer (some ⟨k,o+3,none⟩)):=by simp [Qh,Tryz.underlying138,Yk,Q8]
theorem QlI (k o:Nat):Qh Tryz.prog 154 (.pointer (some ⟨k,o,none⟩)) 0=some (.pointer (some ⟨k,o+0,none⟩)):=by simp [Qh,Tryz.underlying154,Yk,Q8]
theorem Qi9 (k o:Nat):Qh Tryz.prog 154 (.pointer (some ⟨k,o,none⟩)) 1=some (.pointer (some ⟨k,o+1,none⟩)):=by simp [Qh,Tryz.underlying154,if9,sz9]
theorem QlS (k o:Nat):Qh Tryz.prog 154 (.pointer (some ⟨k,o,none⟩)) 2=some (.pointer (some ⟨k,o+2,none⟩)):=by simp [Qh,Tryz.underlying154,Yk,Q8]
theorem Ql2 (k o:Nat):Qh Tryz.prog 154 (.pointer (some ⟨k,o,none⟩)) 3=some (.pointer (some ⟨k,o+3,none⟩)):=by simp [Qh,Tryz.underlying154,Yk,Q8]
theorem Qn5 (a b:D.Grid):∃q,eqv Tryz.prog 20 34 (.agg #[Value.int .i64 a.Rows,Value.int .i64 a.Cols,Value.string a.Cells]) (.agg #[Value.int .i64 b.Rows,Value.int .i64 b.Cols,Value.string b.Cells])=some q∧(q=true↔a=b):=by
 refine ⟨_,Qe5 19 Tryz.underlying34 rfl (by kernel_rfl) (eqf_cons rfl (ZF QU rfl) (ZF QU rfl) (QcK 18 Tryz.underlying3) (eqf_cons rfl (ZF QU rfl) (ZF QU rfl) (QcK 18 Tryz.underlying3) (eqf_cons rfl (ZF Z7 rfl) (ZF Z7 rfl) (Qmc 18 Tryz.underlying9) QiZ))),?_⟩
 obtain ⟨a0,a1,a2⟩:=a
 obtain ⟨b0,b1,b2⟩:=b
 simp
theorem QnU (a b:D.Grid) (xo yo:Operand):∃q,ZW Tryz.prog .eql 34 xo yo (.agg #[Value.int .i64 a.Rows,Value.int .i64 a.Cols,Value.string a.Cells]) (.agg #[Value.int .i64 b.Rows,Value.int .i64 b.Cols,Value.string b.Cells])=some (.bool q)∧(q=true↔a=b):=by
 obtain ⟨q,h1,h2⟩:=Qn5 a b
 exact ⟨q,QkV (by simp [closedV,closed1]) (by simp [closedV,closed1]) (by kernel_rfl) h1,h2⟩
theorem QnE (a b:D.Slot):∃q,eqv Tryz.prog 20 138 (.agg #[Value.int .i64 a.Number,Value.bool a.Down,Value.int .i64 a.Cell,Value.int .i64 a.Length]) (.agg #[Value.int .i64 b.Number,Value.bool b.Down,Value.int .i64 b.Cell,Value.int .i64 b.Length])=some q∧(q=true↔a=b):=by
 refine ⟨_,Qe5 19 Tryz.underlying138 rfl (by kernel_rfl) (eqf_cons rfl (ZF QU rfl) (ZF QU rfl) (QcK 18 Tryz.underlying3) (eqf_cons rfl (ZF st4 rfl) (ZF st4 rfl) (Qls 18 Tryz.underlying4) (eqf_cons rfl (ZF QU rfl) (ZF QU rfl) (QcK 18 Tryz.underlying3) (eqf_cons rfl (ZF QU rfl) (ZF QU rfl) (QcK 18 Tryz.underlying3) QiZ)))),?_⟩
 obtain ⟨a0,a1,a2,a3⟩:=a
 obtain ⟨b0,b1,b2,b3⟩:=b
 simp
theorem Qnd (a b:D.Slot) (xo yo:Operand):∃q,ZW Tryz.prog .neq 138 xo yo (.agg #[Value.int .i64 a.Number,Value.bool a.Down,Value.int .i64 a.Cell,Value.int .i64 a.Length]) (.agg #[Value.int .i64 b.Number,Value.bool b.Down,Value.int .i64 b.Cell,Value.int .i64 b.Length])=some (.bool (!q))∧(q=true↔a=b):=by
 obtain ⟨q,h1,h2⟩:=QnE a b
 exact ⟨q,Qk0 (by simp [closedV,closed1]) (by simp [closedV,closed1]) (by kernel_rfl) h1,h2⟩
theorem follows : Tryz.prog.follows .mixedOrders=true:=by kernel_rfl
theorem QjX : Plain Tryz.prog:=by
 unfold Plain
 kernel_rfl
end Go.Proofs.YtcccmceoplcciaaGreat.AE
namespace Go.Proofs.YtcccmceoplcciaaGreat.AE
open Go Go.RowKit
set_option linter.unusedVariables false
set_option linter.unusedSimpArgs false
noncomputable instance : DecidableEq D.Grid:=Classical.typeDecidableEq _
def Qc (m:Bool) (x:D.Grid):List T:= [.int .i64 x.Rows, .int .i64 x.Cols, .str x.Cells]
theorem Qs : EncOk Qc 3:=⟨fun _ _=>rfl,fun x=>Ql (.int _ _) (Ql (.int _ _) (Ql (.str _) (Zp))),fun m x=>by simp only [Qc,fzL,AE.fz],fun m x=>Ql rfl (Ql rfl (Ql rfl (Zp))),fun x=>Ql rfl (Ql rfl (Ql rfl (Zp)))⟩
def ZE (x:D.Grid):Nat:=ByteArray.size x.Cells
theorem QmF : RK QkB Qc:=Qhd (Y1 Qad (Y1 Qad QlE)) (fun _=>rfl)
theorem QkS (m:Bool) (x:D.Grid):SvL (Qc m x) [Value.int .i64 x.Rows,Value.int .i64 x.Cols,Value.string x.Cells]:= .cons (.int _ _) (.cons (.int _ _) (.cons (.str _) (.nil)))
noncomputable instance : DecidableEq D.Step:=Classical.typeDecidableEq _
def Qj (m:Bool) (x:D.Step):List T:= [.int .i64 x.Kind, .str x.Word, .int .i64 x.A, .int .i64 x.B]
theorem okeStep : EncOk Qj 4:=⟨fun _ _=>rfl,fun x=>Ql (.int _ _) (Ql (.str _) (Ql (.int _ _) (Ql (.int _ _) (Zp)))),fun m x=>by simp only [Qj,fzL,AE.fz],fun m x=>Ql rfl (Ql rfl (Ql rfl (Ql rfl (Zp)))),fun x=>Ql rfl (Ql rfl (Ql rfl (Ql rfl (Zp))))⟩
def ZG (x:D.Step):Nat:=ByteArray.size x.Word
theorem Qfi : Qjr Qj:=fun _ _=>rfl
theorem Qm8 : RK Qlz Qj:=Qhd (Y1 Qad (Y1 QlE (Y1 Qad Qad))) (fun _=>rfl)
noncomputable instance : DecidableEq D.Clue:=Classical.typeDecidableEq _
def Qg (m:Bool) (x:D.Clue):List T:= [.int .i64 x.Sense, .sl m 4 (x.Play.map (Qj m))]
theorem okeClue : EncOk Qg 2:=⟨fun _ _=>rfl,fun x=>Ql (.int _ _) (Ql (.sl _ _ (okeStep.cleanMap _)) (Zp)),fun m x=>by simp only [Qg,fzL,AE.fz,okeStep.fzMap],fun m x=>Ql rfl (Ql rfl (Zp)),fun x=>Ql rfl (Ql rfl (Zp))⟩
def QQ (x:D.Clue):Nat:=(zL ZG) x.Play
theorem Qm3 : RK QkU Qg:=Qhd (Y1 Qad (QlJ Qm8 okeStep rfl)) (fun _=>rfl)
noncomputable instance : DecidableEq D.Puzzle:=Classical.typeDecidableEq _
def Qp (m:Bool) (x:D.Puzzle):List T:= [.int .i64 x.Grid.Rows, .int .i64 x.Grid.Cols, .str x.Grid.Cells, .sl m 2 (x.Clues.map (Qg m)), .sl m 1 (x.Seals.map (Qa m)), .int .i64 x.Salt]
theorem Z4 : EncOk Qp 6:=⟨fun _ _=>rfl,fun x=>Ql (.int _ _) (Ql (.int _ _) (Ql (.str _) (Ql (.sl _ _ (okeClue.cleanMap _)) (Ql (.sl _ _ (okInt.cleanMap _)) (Ql (.int _ _) (Zp)))))),fun m x=>by simp only [Qp,fzL,AE.fz,okInt.fzMap,okeClue.fzMap],fun m x=>Ql rfl (Ql rfl (Ql rfl (Ql rfl (Ql rfl (Ql rfl (Zp)))))),fun x=>Ql rfl (Ql rfl (Ql rfl (Ql rfl (Ql rfl (Ql rfl (Zp))))))⟩
def QL (x:D.Puzzle):Nat:=ZE x.Grid+(zL QQ) x.Clues+(zL zI) x.Seals
theorem Qk8 : RK Qjt Qp:=Qhd (Y1 QmF (Y1 (QlJ Qm3 okeClue rfl) (Y1 (QlJ Qad okInt rfl) Qad))) (fun _=>rfl)
noncomputable instance : DecidableEq D.Session:=Classical.typeDecidableEq _
def Qe (m:Bool) (x:D.Session):List T:= [.str x.Fill, .int .i64 x.Checks, .int .i64 x.Spent, .sl m 1 (x.Asked.map (Qa m)), .int .i64 x.Start, .int .i64 x.Now]
theorem Zu : EncOk Qe 6:=⟨fun _ _=>rfl,fun x=>Ql (.str _) (Ql (.int _ _) (Ql (.int _ _) (Ql (.sl _ _ (okInt.cleanMap _)) (Ql (.int _ _) (Ql (.int _ _) (Zp)))))),fun m x=>by simp only [Qe,fzL,AE.fz,okInt.fzMap],fun m x=>Ql rfl (Ql rfl (Ql rfl (Ql rfl (Ql rfl (Ql rfl (Zp)))))),fun x=>Ql rfl (Ql rfl (Ql rfl (Ql rfl (Ql rfl (Ql rfl (Zp))))))⟩
def QJ (x:D.Session):Nat:=ByteArray.size x.Fill+(zL zI) x.Asked
theorem QjJ : RK QhB Qe:=Qhd (Y1 QlE (Y1 Qad (Y1 Qad (Y1 (QlJ Qad okInt rfl) (Y1 Qad Qad))))) (fun _=>rfl)
noncomputable instance : DecidableEq D.Slot:=Classical.typeDecidableEq _
def Qf (m:Bool) (x:D.Slot):List T:= [.int .i64 x.Number, .bool x.Down, .int .i64 x.Cell, .int .i64 x.Length]
theorem okeSlot : EncOk Qf 4:=⟨fun _ _=>rfl,fun x=>Ql (.int _ _) (Ql (.bool _) (Ql (.int _ _) (Ql (.int _ _) (Zp)))),fun m x=>by simp only [Qf,fzL,AE.fz],fun m x=>Ql rfl (Ql rfl (Ql rfl (Ql rfl (Zp)))),fun x=>Ql rfl (Ql rfl (Ql rfl (Ql rfl (Zp))))⟩
theorem Qkw (m:Bool) (x:D.Slot):SvL (Qf m x) [Value.int .i64 x.Number,Value.bool x.Down,Value.int .i64 x.Cell,Value.int .i64 x.Length]:= .cons (.int _ _) (.cons (.bool _) (.cons (.int _ _) (.cons (.int _ _) (.nil))))
theorem B.eql34 {call:QN} {E:Q2} {d:Option Tmp} {ty xt:TypeId} {ps:String} {af:Array Edge} {g:Option (Nat×Bool)} {x y:Operand} {a b:D.Grid} {m m':Bool} (hx:VEv E x (.agg (Qc m a))) (hy:VEv E y (.agg (Qc m' b))):OF call Tryz.prog E ⟨d, .binOp .eql 34 x y xt,ty,ps,af,g⟩ (.bool (decide (a=b))):=by
 obtain ⟨q,h1,h2⟩:=QnU a b x y
 have h3:q=decide (a=b):=by
  by_cases h:a=b
  ·rw [h2.2 h,decide_eq_true h]
  ·rw [decide_eq_false h]
   cases q
   ·rfl
   ·exact absurd (h2.1 rfl) h
 exact h3▸OF.binA hx hy (QkS _ a) (QkS _ b) h1 (.bool _)
theorem B.neq138 {call:QN} {E:Q2} {d:Option Tmp} {ty xt:TypeId} {ps:String} {af:Array Edge} {g:Option (Nat×Bool)} {x y:Operand} {a b:D.Slot} {m m':Bool} (hx:VEv E x (.agg (Qf m a))) (hy:VEv E y (.agg (Qf m' b))):OF call Tryz.prog E ⟨d, .binOp .neq 138 x y xt,ty,ps,af,g⟩ (.bool (!decide (a=b))):=by
 obtain ⟨q,h1,h2⟩:=Qnd a b x y
 have h3:q=decide (a=b):=by
  by_cases h:a=b
  ·rw [h2.2 h,decide_eq_true h]
  ·rw [decide_eq_false h]
   cases q
   ·rfl
   ·exact absurd (h2.1 rfl) h
 exact h3▸OF.binA hx hy (Qkw _ a) (Qkw _ b) h1 (.bool _)
theorem U3 : Tryz.prog.underlying 3=some (.int .i64):=Tryz.underlying3
theorem U4 : Tryz.prog.underlying 4=some .bool:=Tryz.underlying4
theorem U5 : Tryz.prog.underlying 5=some (.int .u8):=Tryz.underlying5
theorem U9 : Tryz.prog.underlying 9=some .string:=Tryz.underlying9
theorem U24 : Tryz.prog.underlying 24=some (.slice 76):=Tryz.underlying24
theorem Zg : Tryz.prog.underlying 25=some (.slice 3):=Tryz.underlying25
theorem U35 : Tryz.prog.underlying 35=some (.slice 83):=Tryz.underlying35
theorem U74 : Tryz.prog.underlying 74=some (.slice 154):=Tryz.underlying74
theorem U81 : Tryz.prog.underlying 81=some (.slice 121):=Tryz.underlying81
theorem Z9 : Tryz.prog.underlying 123=some (.slice 138):=Tryz.underlying123
theorem QdI : Tryz.prog.underlying 132=some (.slice 5):=Tryz.underlying132
theorem QiG : Tryz.prog.underlying 134=some (.slice 9):=Tryz.underlying134
theorem Qfg : Tryz.prog.underlying 150=some (.slice 25):=Tryz.underlying150
theorem QnB : Tryz.prog.underlying 160=some (.map 3 3):=Tryz.underlying160
theorem Jd : Tryz.prog.underlying 176=some (.slice 4):=Tryz.underlying176
end Go.Proofs.YtcccmceoplcciaaGreat.AE
namespace Go.Proofs.YtcccmceoplcciaaGreat.AE
open Go Go.RowKit
set_option linter.unusedVariables false
set_option linter.unusedSimpArgs false
set_option maxRecDepth 20000
set_option maxHeartbeats 2000000
theorem Qb5 (n:Nat) (a:List Int) (left:Int) (h0:0≤left) (h1:left≤(mx:Int)) (hg:a.length≤maxLen):Pure (Qq Tryz.prog (n+1)) 55 [(rd 1 Qa a),(tI left)] (tI (ZD (zL zI a) left)):=by
 refine Pure.intro (rs:= [ResultVar.tmp 4]) Tryz.func55 rfl rfl rfl (E0:= [(0,(rd 1 Qa a)),(1,(tI left))]) rfl ?_
 obtain ⟨hlim,hmx,hmax⟩:=QC
 refine sr (fO (OF.assign (VEv.int .i64 0)) (nt (sr (mO (tI left) rfl (mO (rd 1 Qa a) rfl (lO (B.lenR (m:=a.length) (tv (rd 1 Qa a) rfl) Zg (List.length_map ..)) (fO (B.sub (n:=(left - ((a.length:Nat):Int))) (tv (tI left) rfl) (tv (tN a.length) rfl) (by first | rfl | (rw [Qt (by omega)];omega) | (rw [Qt (by omega)];done))) (aO (tI (left - ((a.length:Nat):Int))) rfl (nt (sq (sr ?_)))))))))))
 refine mO (tI (left - ((a.length:Nat):Int))) rfl (fO (xls (tv (tI (left - ((a.length:Nat):Int))) rfl) (VEv.int .i64 0)) (nt ?_))
 refine cd ((left - ((a.length:Nat):Int))<0) rfl (fun fhc0=> ?_) fun fhc0=> ?_
 ·refine sr ?_
  refine fO (OF.assign (VEv.int .i64 (-1))) (nt (rt (tr (vi (n':=(-1)) rfl ?_))))
  exact SzI.early fhc0
 refine sk (tn (sr (mO (tI (left - ((a.length:Nat):Int))) rfl (aO (tI (left - ((a.length:Nat):Int))) rfl (nt (rt (vi (n':=(left - ((a.length:Nat):Int))) rfl ?_)))))))
 rw [QlW (z:=zI) (fun _=>rfl)];exact Qcy fhc0
theorem QfC (n:Nat) (a:D.Grid) (left:Int) (h0:0≤left) (h1:left≤(mx:Int)) (hg:QkZ a):Pure (Qq Tryz.prog (n+1)) 53 [(T.agg (Qc false a)),(tI left)] (tI (ZD (ZE a) left)):=by
 refine Pure.intro (rs:= [ResultVar.tmp 4]) Tryz.func53 rfl rfl rfl (E0:= [(0,(T.agg (Qc false a))),(1,(tI left))]) rfl ?_
 obtain ⟨hlim,hmx,hmax⟩:=QC
 obtain ⟨hg0,hg1,hg2⟩:=hg
 refine sr (kO (B.box (ts:=(Qc false a)) (tv (T.agg (Qc false a)) rfl) nofun rfl) (fO (OF.assign (VEv.int .i64 0)) (nt (sr (mO (tI left) rfl (lf (tS a.Cells) rfl QkI rfl rfl Z7 (lO (B.lenS (tv (tS a.Cells) rfl) U9) (fO (B.sub (n:=(left - ((a.Cells.size:Nat):Int))) (tv (tI left) rfl) (tv (tN a.Cells.size) rfl) (by (rw [Qt (by omega)];done))) (aO (tI (left - ((a.Cells.size:Nat):Int))) rfl (nt (sq ?_)))))))))))
 refine sr (mO (tI (left - ((a.Cells.size:Nat):Int))) rfl (fO (xls (tv (tI (left - ((a.Cells.size:Nat):Int))) rfl) (VEv.int .i64 0)) (nt ?_)))
 refine cd ((left - ((a.Cells.size:Nat):Int))<0) rfl (fun fhc0=> ?_) fun fhc0=> ?_
 ·refine sr ?_
  refine fO (OF.assign (VEv.int .i64 (-1))) (nt (rt (tr (vi (n':=(-1)) rfl ?_))))
  exact Jn (by simp only [ZE];omega)
 refine sk (tn (sr (mO (tI (left - ((a.Cells.size:Nat):Int))) rfl (aO (tI (left - ((a.Cells.size:Nat):Int))) rfl (nt (rt (vi (n':=(left - ((a.Cells.size:Nat):Int))) rfl ?_)))))))
 rw [← Qcy (z:=ZE a) (l:=left) (by simp only [ZE];omega)]
 all_goals rfl
theorem QfA (n:Nat) (a:D.Step) (left:Int) (h0:0≤left) (h1:left≤(mx:Int)) (hg:Qjf a):Pure (Qq Tryz.prog (n+1)) 152 [(T.agg (Qj false a)),(tI left)] (tI (ZD (ZG a) left)):=by
 refine Pure.intro (rs:= [ResultVar.tmp 4]) Tryz.func152 rfl rfl rfl (E0:= [(0,(T.agg (Qj false a))),(1,(tI left))]) rfl ?_
 obtain ⟨hlim,hmx,hmax⟩:=QC
 obtain ⟨hg0,hg1,hg2,hg3⟩:=hg
 refine sr (kO (B.box (ts:=(Qj false a)) (tv (T.agg (Qj false a)) rfl) nofun rfl) (fO (OF.assign (VEv.int .i64 0)) (nt (sr (mO (tI left) rfl (lf (tS a.Word) rfl Qi9 rfl rfl Z7 (lO (B.lenS (tv (tS a.Word) rfl) U9) (fO (B.sub (n:=(left - ((a.Word.size:Nat):Int))) (tv (tI left) rfl) (tv (tN a.Word.size) rfl) (by (rw [Qt (by omega)];done))) (aO (tI (left - ((a.Word.size:Nat):Int))) rfl (nt (sq ?_)))))))))))
 refine sr (mO (tI (left - ((a.Word.size:Nat):Int))) rfl (fO (xls (tv (tI (left - ((a.Word.size:Nat):Int))) rfl) (VEv.int .i64 0)) (nt ?_)))
 refine cd ((left - ((a.Word.size:Nat):Int))<0) rfl (fun fhc0=> ?_) fun fhc0=> ?_
 ·refine sr ?_
  refine fO (OF.assign (VEv.int .i64 (-1))) (nt (rt (tr (vi (n':=(-1)) rfl ?_))))
  exact Jn (by simp only [ZG];omega)
 refine sk (tn (sr (mO (tI (left - ((a.Word.size:Nat):Int))) rfl (aO (tI (left - ((a.Word.size:Nat):Int))) rfl (nt (rt (vi (n':=(left - ((a.Word.size:Nat):Int))) rfl ?_)))))))
 rw [← Qcy (z:=ZG a) (l:=left) (by simp only [ZG];omega)]
 all_goals rfl
theorem QeP (n:Nat) (a:List D.Step) (left:Int) (h0:0≤left) (h1:left≤(mx:Int)) (hg:a.length≤maxLen∧∀x∈a,Qjf x):Pure (Qq Tryz.prog (n+2)) 126 [(rd 4 Qj a),(tI left)] (tI (ZD (zL ZG a) left)):=by
 refine Pure.intro (rs:= [ResultVar.tmp 4]) Tryz.func126 rfl rfl rfl (E0:= [(0,(rd 4 Qj a)),(1,(tI left))]) rfl ?_
 obtain ⟨hlim,hmx,hmax⟩:=QC
 obtain ⟨hg1,hg2⟩:=hg
 refine sr (fO (OF.assign (VEv.int .i64 0)) (nt (sr (mO (tI left) rfl (mO (rd 4 Qj a) rfl (lO (B.lenR (m:=a.length) (tv (rd 4 Qj a) rfl) U74 (List.length_map ..)) (fO (B.sub (n:=(left - ((a.length:Nat):Int))) (tv (tI left) rfl) (tv (tN a.length) rfl) (by (rw [Qt (by omega)];done))) (aO (tI (left - ((a.length:Nat):Int))) rfl (nt (sq (sr ?_)))))))))))
 refine mO (tI (left - ((a.length:Nat):Int))) rfl (fO (xls (tv (tI (left - ((a.length:Nat):Int))) rfl) (VEv.int .i64 0)) (nt ?_))
 refine cd ((left - ((a.length:Nat):Int))<0) rfl (fun fhc0=> ?_) fun fhc0=> ?_
 ·refine sr ?_
  refine fO (OF.assign (VEv.int .i64 (-1))) (nt (rt (tr (vi (n':=(-1)) rfl ?_))))
  exact SzI.early fhc0
 refine sk (tn (sq (sr (fO (OF.assign (VEv.int .i64 0)) (nt (VRun.block ?_))))))
 refine VRun.loop (A:=Nat×Int) (fun s_=> [(0,(rd 4 Qj a)),(1,(tI s_.2)),(5,(tN s_.1))]) (fun s_=>Q3 []) 0 (fun s_=>SzI ZG a left s_.1 s_.2) (fun s_=>a.length - s_.1) ((0,left - (a.length:Int)):Nat×Int) ?_ (Wk.mk (fun k=>k) ?_ ?_ ?_) ?_
 ·exact SzI.start h1 fhc0
 ·exact (b2 (bc ⟨(congrArg (T.int .i64) (show (left - ((a.length:Nat):Int))=(left - (a.length:Int)) from (by rfl))),rfl⟩ (b2 bn)))
 ·exact bn
 ·exact nd rfl
 rintro ⟨i,r⟩ (hI':SzI ZG a left i r)
 show VRun _ _ _ [(0,(rd 4 Qj a)),(1,(tI r)),(5,(tN i))] (Q3 []) 0 _
 have hI2:=hI'.1
 have hI3:=hI'.2.1
 have hI4:=hI'.2.2.1
 refine sq (sr (mO (tN i) rfl (mO (rd 4 Qj a) rfl (lO (B.lenR (m:=a.length) (tv (rd 4 Qj a) rfl) U74 (List.length_map ..)) (fO (Zf (tv (tN i) rfl) (tv (tN a.length) rfl)) (nt ?_))))))
 refine cd (i<a.length) rfl (fun fhc1=> ?_) fun fhc1=> ?_
 ·refine sk ?_
  refine tn (sq (VRun.block (sr (mO (rd 4 Qj a) rfl (mO (tN i) rfl ?_)))))
  obtain ⟨x1,hx1⟩:∃x,a[i]? =some x:=⟨_,List.getElem?_eq_getElem (by omega)⟩
  refine fO (OF.indexAddrR (row:=(Qj false x1)) (i:=i) (tv (rd 4 Qj a) rfl) (tv (tN i) rfl) rfl (Qv _ hx1) U74 Qi0 Qmo) (lO (OL.loadRn (us:=(Qj false x1)) (tv (T.rp (Qj false x1)) rfl) Qmr Qi0 (lb rfl) rfl) (mO (tI r) rfl (cO (cS (vc (tv (T.agg (Qj false x1)) rfl) (vc (tv (tI r) rfl) vn)) (LendL.cons (lg okeStep) (lp rfl ln)) (QfA (n+0) x1 r (by assumption) (by assumption) (by exact hg2 _ (List.mem_of_getElem? hx1))) rfl rfl) (aO (tI (ZD (ZG x1) r)) rfl (nt (sr (mO (tI (ZD (ZG x1) r)) rfl (fO (xls (tv (tI (ZD (ZG x1) r)) rfl) (VEv.int .i64 0)) (nt ?_)))))))))
  refine cd (ZD (ZG x1) r<0) rfl (fun fhc2=> ?_) fun fhc2=> ?_
  ·refine sr ?_
   refine fO (OF.assign (VEv.int .i64 (-1))) (nt (rt (vinB.r (tr (tr (vinB.r (tr (vi (n':=(-1)) rfl ?_))))))))
   exact hI'.bad hx1 fhc2
  refine sk (vinB.n (tn (VRun.region (mO (tN i) rfl (fO (QB (tv (tN i) rfl) (VEv.int .i64 1) (by omega)) (aO (tN (i+1)) rfl (VRunO.nil (tn ?_))))))))
  refine ⟨((i+1,ZD (ZG x1) r):Nat×Int),?_,?_,Wk.mk (fun k=>k) ?_ ?_ ?_⟩
  ·exact hI'.next hx1 fhc2
  ·omega
  ·exact (b2 (b2 (b2 bn)))
  ·exact bn
  ·exact nd rfl
 refine VRun.exit (vthn.e (vthn.e (vinB.e (tn (sr (mO (tI r) rfl (aO (tI r) rfl (nt (rt (vi (n':=r) rfl ?_))))))))))
 exact hI'.done fhc1
theorem Qfv (n:Nat) (a:D.Clue) (left:Int) (h0:0≤left) (h1:left≤(mx:Int)) (hg:Qjb a):Pure (Qq Tryz.prog (n+3)) 97 [(T.agg (Qg false a)),(tI left)] (tI (ZD (QQ a) left)):=by
 refine Pure.intro (rs:= [ResultVar.tmp 4]) Tryz.func97 rfl rfl rfl (E0:= [(0,(T.agg (Qg false a))),(1,(tI left))]) rfl ?_
 obtain ⟨hlim,hmx,hmax⟩:=QC
 obtain ⟨hg0,hg1⟩:=hg
 refine sr (kO (B.box (ts:=(Qg false a)) (tv (T.agg (Qg false a)) rfl) nofun rfl) (fO (OF.assign (VEv.int .i64 0)) (nt (sr (lf (rd 4 Qj a.Play) rfl QkC rfl rfl QnQ (mO (tI left) rfl (cO (cS (vc (tv (rd 4 Qj a.Play) rfl) (vc (tv (tI left) rfl) vn)) (ZJ rfl) (QeP (n+0) a.Play left (by assumption) (by assumption) (by assumption)) rfl rfl) (aO (tI (ZD (zL ZG a.Play) left)) rfl (nt (sq (sr ?_)))))))))))
 refine mO (tI (ZD (zL ZG a.Play) left)) rfl (fO (xls (tv (tI (ZD (zL ZG a.Play) left)) rfl) (VEv.int .i64 0)) (nt ?_))
 refine cd (ZD (zL ZG a.Play) left<0) rfl (fun fhc0=> ?_) fun fhc0=> ?_
 ·refine sr ?_
  refine fO (OF.assign (VEv.int .i64 (-1))) (nt (rt (tr (vi (n':=(-1)) rfl ?_))))
  exact Jn (by have hlt:=Qdh fhc0;simp only [QQ];omega)
 have hq0:=Qag fhc0
 refine sk (tn (sr (mO (tI (ZD (zL ZG a.Play) left)) rfl (aO (tI (ZD (zL ZG a.Play) left)) rfl (nt (rt (vi (n':=ZD (zL ZG a.Play) left) rfl ?_)))))))
 rw [← Qcy (z:=QQ a) (l:=left) (by simp only [QQ];omega)]
 all_goals (simp only [QQ];omega)
theorem QeT (n:Nat) (a:List D.Clue) (left:Int) (h0:0≤left) (h1:left≤(mx:Int)) (hg:a.length≤maxLen∧∀x∈a,Qjb x):Pure (Qq Tryz.prog (n+4)) 54 [(rd 2 Qg a),(tI left)] (tI (ZD (zL QQ a) left)):=by
 refine Pure.intro (rs:= [ResultVar.tmp 4]) Tryz.func54 rfl rfl rfl (E0:= [(0,(rd 2 Qg a)),(1,(tI left))]) rfl ?_
 obtain ⟨hlim,hmx,hmax⟩:=QC
 obtain ⟨hg1,hg2⟩:=hg
 refine sr (fO (OF.assign (VEv.int .i64 0)) (nt (sr (mO (tI left) rfl (mO (rd 2 Qg a) rfl (lO (B.lenR (m:=a.length) (tv (rd 2 Qg a) rfl) U24 (List.length_map ..)) (fO (B.sub (n:=(left - ((a.length:Nat):Int))) (tv (tI left) rfl) (tv (tN a.length) rfl) (by (rw [Qt (by omega)];done))) (aO (tI (left - ((a.length:Nat):Int))) rfl (nt (sq (sr ?_)))))))))))
 refine mO (tI (left - ((a.length:Nat):Int))) rfl (fO (xls (tv (tI (left - ((a.length:Nat):Int))) rfl) (VEv.int .i64 0)) (nt ?_))
 refine cd ((left - ((a.length:Nat):Int))<0) rfl (fun fhc0=> ?_) fun fhc0=> ?_
 ·refine sr ?_
  refine fO (OF.assign (VEv.int .i64 (-1))) (nt (rt (tr (vi (n':=(-1)) rfl ?_))))
  exact SzI.early fhc0
 refine sk (tn (sq (sr (fO (OF.assign (VEv.int .i64 0)) (nt (VRun.block ?_))))))
 refine VRun.loop (A:=Nat×Int) (fun s_=> [(0,(rd 2 Qg a)),(1,(tI s_.2)),(5,(tN s_.1))]) (fun s_=>Q3 []) 0 (fun s_=>SzI QQ a left s_.1 s_.2) (fun s_=>a.length - s_.1) ((0,left - (a.length:Int)):Nat×Int) ?_ (Wk.mk (fun k=>k) ?_ ?_ ?_) ?_
 ·exact SzI.start h1 fhc0
 ·exact (b2 (bc ⟨(congrArg (T.int .i64) (show (left - ((a.length:Nat):Int))=(left - (a.length:Int)) from (by rfl))),rfl⟩ (b2 bn)))
 ·exact bn
 ·exact nd rfl
 rintro ⟨i,r⟩ (hI':SzI QQ a left i r)
 show VRun _ _ _ [(0,(rd 2 Qg a)),(1,(tI r)),(5,(tN i))] (Q3 []) 0 _
 have hI2:=hI'.1
 have hI3:=hI'.2.1
 have hI4:=hI'.2.2.1
 refine sq (sr (mO (tN i) rfl (mO (rd 2 Qg a) rfl (lO (B.lenR (m:=a.length) (tv (rd 2 Qg a) rfl) U24 (List.length_map ..)) (fO (Zf (tv (tN i) rfl) (tv (tN a.length) rfl)) (nt ?_))))))
 refine cd (i<a.length) rfl (fun fhc1=> ?_) fun fhc1=> ?_
 ·refine sk ?_
  refine tn (sq (VRun.block (sr (mO (rd 2 Qg a) rfl (mO (tN i) rfl ?_)))))
  obtain ⟨x1,hx1⟩:∃x,a[i]? =some x:=⟨_,List.getElem?_eq_getElem (by omega)⟩
  refine fO (OF.indexAddrR (row:=(Qg false x1)) (i:=i) (tv (rd 2 Qg a) rfl) (tv (tN i) rfl) rfl (Qv _ hx1) U24 Ql7 QnP) (lO (OL.loadRn (us:=(Qg false x1)) (tv (T.rp (Qg false x1)) rfl) QnV Ql7 (lb rfl) rfl) (mO (tI r) rfl (cO (cS (vc (tv (T.agg (Qg false x1)) rfl) (vc (tv (tI r) rfl) vn)) (LendL.cons (lg okeClue) (lp rfl ln)) (Qfv (n+0) x1 r (by assumption) (by assumption) (by exact hg2 _ (List.mem_of_getElem? hx1))) rfl rfl) (aO (tI (ZD (QQ x1) r)) rfl (nt (sr (mO (tI (ZD (QQ x1) r)) rfl (fO (xls (tv (tI (ZD (QQ x1) r)) rfl) (VEv.int .i64 0)) (nt ?_)))))))))
  refine cd (ZD (QQ x1) r<0) rfl (fun fhc2=> ?_) fun fhc2=> ?_
  ·refine sr ?_
   refine fO (OF.assign (VEv.int .i64 (-1))) (nt (rt (vinB.r (tr (tr (vinB.r (tr (vi (n':=(-1)) rfl ?_))))))))
   exact hI'.bad hx1 fhc2
  refine sk (vinB.n (tn (VRun.region (mO (tN i) rfl (fO (QB (tv (tN i) rfl) (VEv.int .i64 1) (by omega)) (aO (tN (i+1)) rfl (VRunO.nil (tn ?_))))))))
  refine ⟨((i+1,ZD (QQ x1) r):Nat×Int),?_,?_,Wk.mk (fun k=>k) ?_ ?_ ?_⟩
  ·exact hI'.next hx1 fhc2
  ·omega
  ·exact (b2 (b2 (b2 bn)))
  ·exact bn
  ·exact nd rfl
 refine VRun.exit (vthn.e (vthn.e (vinB.e (tn (sr (mO (tI r) rfl (aO (tI r) rfl (nt (rt (vi (n':=r) rfl ?_))))))))))
 exact hI'.done fhc1
theorem Qel (n:Nat) (a:D.Puzzle) (left:Int) (h0:0≤left) (h1:left≤(mx:Int)) (hg:QgP a):Pure (Qq Tryz.prog (n+5)) 23 [(T.agg (Qp false a)),(tI left)] (tI (ZD (QL a) left)):=by
 refine Pure.intro (rs:= [ResultVar.tmp 4]) Tryz.func23 rfl rfl rfl (E0:= [(0,(T.agg (Qp false a))),(1,(tI left))]) rfl ?_
 obtain ⟨hlim,hmx,hmax⟩:=QC
 obtain ⟨hg0,hg1,hg2,hg3⟩:=hg
 refine sr (kO (B.box (ts:=(Qp false a)) (tv (T.agg (Qp false a)) rfl) nofun rfl) (fO (OF.assign (VEv.int .i64 0)) (nt (sr (fO (OF.fieldAddrO (tv (T.op 0 0) rfl) Qkp) (lO (OL.loadOn (us:=(Qc false a.Grid)) (tv (T.op 0 0) rfl) rfl Qnx QmX (lb rfl) rfl) (mO (tI left) rfl (cO (cS (vc (tv (T.agg (Qc false a.Grid)) rfl) (vc (tv (tI left) rfl) vn)) (LendL.cons (lg Qs) (lp rfl ln)) (QfC (n+3) a.Grid left (by first | assumption | omega) (by first | assumption | omega) (by first | assumption | omega)) rfl rfl) (aO (tI (ZD (ZE a.Grid) left)) rfl (nt (sq ?_)))))))))))
 refine sr (mO (tI (ZD (ZE a.Grid) left)) rfl (fO (xls (tv (tI (ZD (ZE a.Grid) left)) rfl) (VEv.int .i64 0)) (nt ?_)))
 refine cd (ZD (ZE a.Grid) left<0) rfl (fun fhc0=> ?_) fun fhc0=> ?_
 ·refine sr ?_
  refine fO (OF.assign (VEv.int .i64 (-1))) (nt (rt (tr (vi (n':=(-1)) rfl ?_))))
  exact Jn (by have hlt:=Qdh fhc0;simp only [QL];omega)
 have hq0:=Qag fhc0
 refine sk (tn (sr (lf (rd 2 Qg a.Clues) rfl Qk5 rfl rfl QnW (mO (tI (ZD (ZE a.Grid) left)) rfl (cO (cS (vc (tv (rd 2 Qg a.Clues) rfl) (vc (tv (tI (ZD (ZE a.Grid) left)) rfl) vn)) (ZJ rfl) (QeT (n+0) a.Clues (ZD (ZE a.Grid) left) (by first | assumption | omega) (by first | assumption | omega) (by first | assumption | omega)) rfl rfl) (aO (tI (ZD (zL QQ a.Clues) (ZD (ZE a.Grid) left))) rfl (nt (sq (sr (mO (tI (ZD (zL QQ a.Clues) (ZD (ZE a.Grid) left))) rfl (fO (xls (tv (tI (ZD (zL QQ a.Clues) (ZD (ZE a.Grid) left))) rfl) (VEv.int .i64 0)) ?_)))))))))))
 refine nt ?_
 refine cd (ZD (zL QQ a.Clues) (ZD (ZE a.Grid) left)<0) rfl (fun fhc1=> ?_) fun fhc1=> ?_
 ·refine sr ?_
  refine fO (OF.assign (VEv.int .i64 (-1))) (nt (rt (tr (vi (n':=(-1)) rfl ?_))))
  exact Jn (by have hlt:=Qdh fhc1;simp only [QL];omega)
 have hq1:=Qag fhc1
 refine sk (tn (sr (lf (rd 1 Qa a.Seals) rfl QkX rfl rfl YY (mO (tI (ZD (zL QQ a.Clues) (ZD (ZE a.Grid) left))) rfl (cO (cS (vc (tv (rd 1 Qa a.Seals) rfl) (vc (tv (tI (ZD (zL QQ a.Clues) (ZD (ZE a.Grid) left))) rfl) vn)) (ZJ rfl) (Qb5 (n+3) a.Seals (ZD (zL QQ a.Clues) (ZD (ZE a.Grid) left)) (by first | assumption | omega) (by first | assumption | omega) (by first | assumption | omega)) rfl rfl) (aO (tI (ZD (zL zI a.Seals) (ZD (zL QQ a.Clues) (ZD (ZE a.Grid) left)))) rfl (nt (sq (sr (mO (tI (ZD (zL zI a.Seals) (ZD (zL QQ a.Clues) (ZD (ZE a.Grid) left)))) rfl (fO (xls (tv (tI (ZD (zL zI a.Seals) (ZD (zL QQ a.Clues) (ZD (ZE a.Grid) left)))) rfl) (VEv.int .i64 0)) ?_)))))))))))
 refine nt ?_
 refine cd (ZD (zL zI a.Seals) (ZD (zL QQ a.Clues) (ZD (ZE a.Grid) left))<0) rfl (fun fhc2=> ?_) fun fhc2=> ?_
 ·refine sr ?_
  refine fO (OF.assign (VEv.int .i64 (-1))) (nt (rt (tr (vi (n':=(-1)) rfl ?_))))
  exact Jn (by have hlt:=Qdh fhc2;simp only [QL];omega)
 have hq2:=Qag fhc2
 refine sk (tn (sr (mO (tI (ZD (zL zI a.Seals) (ZD (zL QQ a.Clues) (ZD (ZE a.Grid) left)))) rfl (aO (tI (ZD (zL zI a.Seals) (ZD (zL QQ a.Clues) (ZD (ZE a.Grid) left)))) rfl (nt (rt (vi (n':=ZD (zL zI a.Seals) (ZD (zL QQ a.Clues) (ZD (ZE a.Grid) left))) rfl ?_)))))))
 rw [← Qcy (z:=QL a) (l:=left) (by simp only [QL];omega)]
 all_goals first | rfl | (simp only [QL];done) | (simp only [QL];omega)
theorem QdN (n:Nat) (a:D.Session) (left:Int) (h0:0≤left) (h1:left≤(mx:Int)) (hg:QeK a):Pure (Qq Tryz.prog (n+2)) 24 [(T.agg (Qe false a)),(tI left)] (tI (ZD (QJ a) left)):=by
 refine Pure.intro (rs:= [ResultVar.tmp 4]) Tryz.func24 rfl rfl rfl (E0:= [(0,(T.agg (Qe false a))),(1,(tI left))]) rfl ?_
 obtain ⟨hlim,hmx,hmax⟩:=QC
 obtain ⟨hg0,hg1,hg2,hg3,hg4,hg5⟩:=hg
 refine sr (kO (B.box (ts:=(Qe false a)) (tv (T.agg (Qe false a)) rfl) nofun rfl) (fO (OF.assign (VEv.int .i64 0)) (nt (sr (mO (tI left) rfl (lf (tS a.Fill) rfl Qkf rfl rfl Z7 (lO (B.lenS (tv (tS a.Fill) rfl) U9) (fO (B.sub (n:=(left - ((a.Fill.size:Nat):Int))) (tv (tI left) rfl) (tv (tN a.Fill.size) rfl) (by first | rfl | (rw [Qt (by omega)];omega) | (rw [Qt (by omega)];done))) (aO (tI (left - ((a.Fill.size:Nat):Int))) rfl (nt (sq ?_)))))))))))
 refine sr (mO (tI (left - ((a.Fill.size:Nat):Int))) rfl (fO (xls (tv (tI (left - ((a.Fill.size:Nat):Int))) rfl) (VEv.int .i64 0)) (nt ?_)))
 refine cd ((left - ((a.Fill.size:Nat):Int))<0) rfl (fun fhc0=> ?_) fun fhc0=> ?_
 ·refine sr ?_
  refine fO (OF.assign (VEv.int .i64 (-1))) (nt (rt (tr (vi (n':=(-1)) rfl ?_))))
  exact Jn (by simp only [QJ];omega)
 refine sk (tn (sr (lf (rd 1 Qa a.Asked) rfl Qlp rfl rfl YY (mO (tI (left - ((a.Fill.size:Nat):Int))) rfl (cO (cS (vc (tv (rd 1 Qa a.Asked) rfl) (vc (tv (tI (left - ((a.Fill.size:Nat):Int))) rfl) vn)) (ZJ rfl) (Qb5 (n+0) a.Asked (left - ((a.Fill.size:Nat):Int)) (by first | assumption | omega) (by first | assumption | omega) (by first | assumption | omega)) rfl rfl) (aO (tI (ZD (zL zI a.Asked) (left - ((a.Fill.size:Nat):Int)))) rfl (nt (sq (sr (mO (tI (ZD (zL zI a.Asked) (left - ((a.Fill.size:Nat):Int)))) rfl (fO (xls (tv (tI (ZD (zL zI a.Asked) (left - ((a.Fill.size:Nat):Int)))) rfl) (VEv.int .i64 0)) ?_)))))))))))
 refine nt ?_
 refine cd (ZD (zL zI a.Asked) (left - ((a.Fill.size:Nat):Int))<0) rfl (fun fhc1=> ?_) fun fhc1=> ?_
 ·refine sr ?_
  refine fO (OF.assign (VEv.int .i64 (-1))) (nt (rt (tr (vi (n':=(-1)) rfl ?_))))
  exact Jn (by have hlt:=Qdh fhc1;simp only [QJ];omega)
 have hq1:=Qag fhc1
 refine sk (tn (sr (mO (tI (ZD (zL zI a.Asked) (left - ((a.Fill.size:Nat):Int)))) rfl (aO (tI (ZD (zL zI a.Asked) (left - ((a.Fill.size:Nat):Int)))) rfl (nt (rt (vi (n':=ZD (zL zI a.Asked) (left - ((a.Fill.size:Nat):Int))) rfl ?_)))))))
 rw [← Qcy (z:=QJ a) (l:=left) (by simp only [QJ];omega)]
 all_goals first | rfl | (simp only [QJ];done) | (simp only [QJ];omega)
end Go.Proofs.YtcccmceoplcciaaGreat.AE
namespace Go.Proofs.YtcccmceoplcciaaGreat.AE
open Go Go.RowKit
set_option linter.unusedVariables false
set_option linter.unusedSimpArgs false
set_option maxRecDepth 20000
set_option maxHeartbeats 2000000
theorem Qb8 (n:Nat) (a:List Int) (ha:a.length≤mx):Pure (Qq Tryz.prog (n+1)) 61 [(rd 1 Qa a)] (T.sl true 1 (a.map (Qa true))):=by
 refine Pure.intro (rs:= [ResultVar.tmp 2]) Tryz.func61 rfl rfl rfl (E0:= [(0,(rd 1 Qa a))]) rfl ?_
 obtain ⟨hlim,hmx,hmax⟩:=QC
 refine sr (fO (OF.assign VEv.nils) (nt (sr (mO (rd 1 Qa a) rfl (lO (B.lenR (m:=a.length) (tv (rd 1 Qa a) rfl) Zg (List.length_map ..)) (kO (B.makeZ (n:=a.length) (m:=((List.replicate a.length 0).map (Qa true)).length) (rows:=((List.replicate a.length 0).map (Qa true))) (zr:=(Qa true 0)) (tv (tN a.length) rfl) (tv (tN a.length) rfl) rfl Zg J3 zc3 rfl (by rw [Q8];decide) (by first | omega | (simp only [List.length_map];omega) | (simp only [List.length_map,List.length_append,List.length_cons,List.length_nil,List.length_replicate,List.length_set,List.length_drop,List.length_take,YW] at *;omega)) (of_decide_eq_true (by kernel_rfl)) (Z0.int Z0.nil) Q8 (List.map_replicate ..).symm (by rw [List.length_map,List.length_replicate])) (aO (T.os 1 0 0 (((List.replicate a.length 0).map (Qa true)).length)) rfl (nt (sq (sr (fO (OF.assign (VEv.int .i64 0)) ?_)))))))))))
 refine nt (VRun.block ?_)
 have he1:(List.replicate a.length 0)=(a.take 0++List.replicate (a.length - 0) 0):=by first | rfl | (exact QbD hx1) | (simp;done) | omega
 refine VRun.loop (A:=Nat) (fun s_=> [(0,(rd 1 Qa a)),(2,T.nils),(3,(T.os 1 0 0 (((a.take s_++List.replicate (a.length - s_) 0).map (Qa true)).length))),(4,(tN s_))]) (fun s_=>Q3 [(0,(Obj.rows 1 ((a.take s_++List.replicate (a.length - s_) 0).map (Qa true))))]) 1 (fun s_=>s_≤a.length) (fun s_=>a.length - s_) (0:Nat) ?_ (Wk.mk (fun k=>k) ?_ ?_ ?_) ?_
 ·first | trivial | (simp;done) | omega | (constructor<;>simp)
 ·exact (b2 (b2 (bc ⟨(congrArg (fun l_=>T.os 1 0 0 (List.map (Qa true) l_).length) he1),rfl⟩ (b2 bn))))
 ·exact (bc ⟨(congrArg (fun l_=>some (Obj.rows 1 (List.map (Qa true) l_))) he1),(lb rfl),rfl⟩ bn)
 ·exact nd rfl
 rintro i (hI':i≤a.length)
 show VRun _ _ _ [(0,(rd 1 Qa a)),(2,T.nils),(3,(T.os 1 0 0 (((a.take i++List.replicate (a.length - i) 0).map (Qa true)).length))),(4,(tN i))] (Q3 [(0,(Obj.rows 1 ((a.take i++List.replicate (a.length - i) 0).map (Qa true))))]) 1 _
 have hfl:=QgU (w:=0) hI'
 refine sq (sr (mO (tN i) rfl (mO (rd 1 Qa a) rfl (lO (B.lenR (m:=a.length) (tv (rd 1 Qa a) rfl) Zg (List.length_map ..)) (fO (Zf (tv (tN i) rfl) (tv (tN a.length) rfl)) (nt ?_))))))
 refine cd (i<a.length) rfl (fun fhc0=> ?_) fun fhc0=> ?_
 ·refine sk ?_
  refine tn (sq (VRun.block (VRun.region (mO (T.os 1 0 0 (((a.take i++List.replicate (a.length - i) 0).map (Qa true)).length)) rfl (mO (tN i) rfl (mO (rd 1 Qa a) rfl (mO (tN i) rfl ?_)))))))
  obtain ⟨x1,hx1⟩:∃x,a[i]? =some x:=⟨_,List.getElem?_eq_getElem (by omega)⟩
  refine fO (OF.indexAddrR (row:=(Qa false x1)) (i:=i) (tv (rd 1 Qa a) rfl) (tv (tN i) rfl) rfl (Qv _ hx1) Zg Q8 Yk) (lO (OL.loadR1 (t:=(tI x1)) (tv (T.rp [(tI x1)]) rfl) rfl QU) ?_)
  obtain ⟨x2,hx2⟩:∃x,(a.take i++List.replicate (a.length - i) 0)[i]? =some x:=⟨_,List.getElem?_eq_getElem (by first | omega | (simp only [List.length_map];omega) | (simp only [List.length_map,List.length_append,List.length_cons,List.length_nil,List.length_replicate,List.length_set,List.length_drop,List.length_take,YW] at *;omega))⟩
  refine fO (B.indexAddrO (i:=i) (tv (T.os 1 0 0 (((a.take i++List.replicate (a.length - i) 0).map (Qa true)).length)) rfl) (tv (tN i) rfl) rfl (by first | omega | (simp only [List.length_map];omega) | (simp only [List.length_map,List.length_append,List.length_cons,List.length_nil,List.length_replicate,List.length_set,List.length_drop,List.length_take,YW] at *;omega)) Zg Q8 Yk) (cO (B.storeP (us:= [(tI x1)]) (rows':=(((a.take i++List.replicate (a.length - i) 0).set i x1).map (Qa true))) (row:=(Qa true x2)) (tv (T.orp 1 0 i 0) rfl) (tv (tI x1) rfl) nofun rfl (Qv _ hx2) rfl (lb rfl) Yk Q8 (bc rfl bn) (by intro r hr t ht;obtain ⟨x,_,rfl⟩:=List.mem_map.1 hr;rw [Qmk] at ht;exact ZQ (okInt.pl _ t ht)) (ZL rfl)) (VRunO.nil (vinB.n (tn (VRun.region (mO (tN i) rfl (fO (QB (tv (tN i) rfl) (VEv.int .i64 1) (by omega)) (aO (tN (i+1)) rfl (VRunO.nil (tn ?_))))))))))
  have he2:((a.take i++List.replicate (a.length - i) 0).set i x1)=(a.take (i+1)++List.replicate (a.length - (i+1)) 0):=by first | rfl | (exact QbD hx1) | (simp;done) | omega
  refine ⟨(i+1:Nat),?_,?_,Wk.mk (fun k=>k) ?_ ?_ ?_⟩
  ·first | trivial | omega | (simp;done) | exact ⟨by omega,hI'.2⟩
  ·first | omega | (simp only [];omega) | (show _<_;omega) | (simp;omega)
  ·exact (b2 (b2 (bc ⟨(congrArg (fun n_=>T.os 1 0 0 n_) (show ((a.take i++List.replicate (a.length - i) 0).map (Qa true)).length=((a.take (i+1)++List.replicate (a.length - (i+1)) 0).map (Qa true)).length from (by first | rfl | (simp only [List.length_map];omega) | (simp only [List.length_map,List.length_set,List.length_append,List.length_take,List.length_replicate,List.length_cons,List.length_nil];omega)))),rfl⟩ (b2 bn))))
  ·exact (bc ⟨(congrArg (fun l_=>some (Obj.rows 1 (List.map (Qa true) l_))) he2),(lb rfl),rfl⟩ bn)
  ·exact nd rfl
 refine VRun.exit (vthn.e (vthn.e (vinB.e (tn (sr (mO (T.os 1 0 0 (((a.take i++List.replicate (a.length - i) 0).map (Qa true)).length)) rfl (aO (T.os 1 0 0 (((a.take i++List.replicate (a.length - i) 0).map (Qa true)).length)) rfl (nt (rt ?_)))))))))
 refine vfin.eq (r':=(T.sl true 1 ((a.take i++List.replicate (a.length - i) 0).map (Qa true)))) ?_ (vfin.r (VRes.tmp (t:=(T.os 1 0 0 (((a.take i++List.replicate (a.length - i) 0).map (Qa true)).length))) rfl VRes.nil) (Give.os rfl rfl (okInt.cleanMap _)))
 show (T.sl true 1 ((a.take i++List.replicate (a.length - i) 0).map (Qa true)))=(T.sl true 1 (a.map (Qa true)))
 refine congrArg (fun l_=>T.sl true 1 (List.map (Qa true) l_)) ?_
 exact QdM fhc0
theorem Qfs (n:Nat) (a:D.Grid):Pure (Qq Tryz.prog (n+1)) 59 [(T.agg (Qc false a))] (T.agg (Qc true a)):=by
 refine Pure.intro (rs:= [ResultVar.cell 2 34]) Tryz.func59 rfl rfl rfl (E0:= [(0,(T.agg (Qc false a)))]) rfl ?_
 obtain ⟨hlim,hmx,hmax⟩:=QC
 refine sr (kO (B.box (ts:=(Qc false a)) (tv (T.agg (Qc false a)) rfl) nofun rfl) (kO (B.alloc (t:=(T.agg [(tN 0),(tN 0),(tS ByteArray.empty)])) (ts:= [(tN 0),(tN 0),(tS ByteArray.empty)]) QjR QlR nofun (fun _=> .agg _ _ rfl (Yg (RL.cons (.int _ _) (RL.cons (.int _ _) (RL.cons (.str _) (RL.nil _)))))) rfl) (nt (sr (kO (B.alloc (t:=(T.agg [(tN 0),(tN 0),(tS ByteArray.empty)])) (ts:= [(tN 0),(tN 0),(tS ByteArray.empty)]) QjR QlR nofun (fun _=> .agg _ _ rfl (Yg (RL.cons (.int _ _) (RL.cons (.int _ _) (RL.cons (.str _) (RL.nil _)))))) rfl) (nt (sr (lf (tI a.Rows) rfl QmU rfl rfl QU (fO (OF.fieldAddrO (tv (T.op 2 0) rfl) Qaz) (cO (B.storeO (us:= [(tI a.Rows)]) (ws:= [(tI a.Rows),(tN 0),(tS ByteArray.empty)]) (tv (T.op 2 0) rfl) (tv (tI a.Rows) rfl) nofun rfl rfl (lb rfl) Yk Q8 (bc rfl bn) rfl) (nt ?_)))))))))))
 refine sr (lf (tI a.Cols) rfl QmI rfl rfl QU (fO (OF.fieldAddrO (tv (T.op 2 0) rfl) Zn) (cO (B.storeO (us:= [(tI a.Cols)]) (ws:= [(tI a.Rows),(tI a.Cols),(tS ByteArray.empty)]) (tv (T.op 2 1) rfl) (tv (tI a.Cols) rfl) nofun rfl rfl (lb rfl) Yk Q8 (bc rfl bn) rfl) (nt (sr (lf (tS a.Cells) rfl QkI rfl rfl Z7 (fO (OF.fieldAddrO (tv (T.op 2 0) rfl) QE) (cO (B.storeO (us:= [(tS a.Cells)]) (ws:= [(tI a.Rows),(tI a.Cols),(tS a.Cells)]) (tv (T.op 2 2) rfl) (tv (tS a.Cells) rfl) nofun rfl rfl (lb rfl) if9 sz9 (bc rfl bn) rfl) (nt (sr (lO (OL.loadOn (us:=(Qc false a)) (tv (T.op 2 0) rfl) rfl QX QT (lb rfl) rfl) ?_)))))))))))
 refine cO (B.storeO (us:=(Qc false a)) (ws:=(Qc false a)) (tv (T.op 1 0) rfl) (tv (T.agg (Qc false a)) rfl) nofun rfl rfl (lb rfl) Qii QT (bc rfl (bc rfl (bc rfl bn))) rfl) (nt (rt ?_))
 refine vfin.eq (r':=(T.agg (Qc false a))) ?_ (vfin.r (VRes.celln (ws:=(Qc false a)) rfl rfl QX QT (lb rfl) rfl VRes.nil) (Give.agg (GiveL.cons (Give.int _ _) (GiveL.cons (Give.int _ _) (GiveL.cons (Give.str _) GiveL.nil (by decide)) (by decide)) (by decide))))
 show (T.agg (Qc false a))=(T.agg (Qc true a))
 rfl
theorem QfL (n:Nat) (a:D.Step):Pure (Qq Tryz.prog (n+1)) 154 [(T.agg (Qj false a))] (T.agg (Qj true a)):=by
 refine Pure.intro (rs:= [ResultVar.cell 2 121]) Tryz.func154 rfl rfl rfl (E0:= [(0,(T.agg (Qj false a)))]) rfl ?_
 obtain ⟨hlim,hmx,hmax⟩:=QC
 refine sr (kO (B.box (ts:=(Qj false a)) (tv (T.agg (Qj false a)) rfl) nofun rfl) (kO (B.alloc (t:=(T.agg [(tN 0),(tS ByteArray.empty),(tN 0),(tN 0)])) (ts:= [(tN 0),(tS ByteArray.empty),(tN 0),(tN 0)]) QhG QhF nofun (fun _=> .agg _ _ rfl (Yg (RL.cons (.int _ _) (RL.cons (.str _) (RL.cons (.int _ _) (RL.cons (.int _ _) (RL.nil _))))))) rfl) (nt (sr (kO (B.alloc (t:=(T.agg [(tN 0),(tS ByteArray.empty),(tN 0),(tN 0)])) (ts:= [(tN 0),(tS ByteArray.empty),(tN 0),(tN 0)]) QhG QhF nofun (fun _=> .agg _ _ rfl (Yg (RL.cons (.int _ _) (RL.cons (.str _) (RL.cons (.int _ _) (RL.cons (.int _ _) (RL.nil _))))))) rfl) (nt (sr (lf (tI a.Kind) rfl QlI rfl rfl QU (fO (OF.fieldAddrO (tv (T.op 2 0) rfl) Za) (cO (B.storeO (us:= [(tI a.Kind)]) (ws:= [(tI a.Kind),(tS ByteArray.empty),(tN 0),(tN 0)]) (tv (T.op 2 0) rfl) (tv (tI a.Kind) rfl) nofun rfl rfl (lb rfl) Yk Q8 (bc rfl bn) rfl) (nt ?_)))))))))))
 refine sr (lf (tS a.Word) rfl Qi9 rfl rfl Z7 (fO (OF.fieldAddrO (tv (T.op 2 0) rfl) Qah) (cO (B.storeO (us:= [(tS a.Word)]) (ws:= [(tI a.Kind),(tS a.Word),(tN 0),(tN 0)]) (tv (T.op 2 1) rfl) (tv (tS a.Word) rfl) nofun rfl rfl (lb rfl) if9 sz9 (bc rfl bn) rfl) (nt (sr (lf (tI a.A) rfl QlS rfl rfl QU (fO (OF.fieldAddrO (tv (T.op 2 0) rfl) YK) (cO (B.storeO (us:= [(tI a.A)]) (ws:= [(tI a.Kind),(tS a.Word),(tI a.A),(tN 0)]) (tv (T.op 2 2) rfl) (tv (tI a.A) rfl) nofun rfl rfl (lb rfl) Yk Q8 (bc rfl bn) rfl) (nt (sr (lf (tI a.B) rfl Ql2 rfl rfl QU ?_)))))))))))
 refine fO (OF.fieldAddrO (tv (T.op 2 0) rfl) Yn) (cO (B.storeO (us:= [(tI a.B)]) (ws:= [(tI a.Kind),(tS a.Word),(tI a.A),(tI a.B)]) (tv (T.op 2 3) rfl) (tv (tI a.B) rfl) nofun rfl rfl (lb rfl) Yk Q8 (bc rfl bn) rfl) (nt (sr (lO (OL.loadOn (us:=(Qj false a)) (tv (T.op 2 0) rfl) rfl Qgd Yt (lb rfl) rfl) (cO (B.storeO (us:=(Qj false a)) (ws:=(Qj false a)) (tv (T.op 1 0) rfl) (tv (T.agg (Qj false a)) rfl) nofun rfl rfl (lb rfl) J6 Yt (bc rfl (bc rfl (bc rfl (bc rfl bn)))) rfl) (nt (rt ?_)))))))
 refine vfin.eq (r':=(T.agg (Qj false a))) ?_ (vfin.r (VRes.celln (ws:=(Qj false a)) rfl rfl Qgd Yt (lb rfl) rfl VRes.nil) (Give.agg (GiveL.cons (Give.int _ _) (GiveL.cons (Give.str _) (GiveL.cons (Give.int _ _) (GiveL.cons (Give.int _ _) GiveL.nil (by decide)) (by decide)) (by decide)) (by decide))))
 show (T.agg (Qj false a))=(T.agg (Qj true a))
 rfl
theorem QeM (n:Nat) (a:List D.Step) (ha:a.length≤mx):Pure (Qq Tryz.prog (n+2)) 129 [(rd 4 Qj a)] (T.sl true 4 (a.map (Qj true))):=by
 refine Pure.intro (rs:= [ResultVar.tmp 2]) Tryz.func129 rfl rfl rfl (E0:= [(0,(rd 4 Qj a))]) rfl ?_
 obtain ⟨hlim,hmx,hmax⟩:=QC
 refine sr (fO (OF.assign VEv.nils) (nt (sr (mO (rd 4 Qj a) rfl (lO (B.lenR (m:=a.length) (tv (rd 4 Qj a) rfl) U74 (List.length_map ..)) (kO (B.makeZ (n:=a.length) (m:=((List.replicate a.length (D.Step.mk 0 ByteArray.empty 0 0)).map (Qj true)).length) (rows:=((List.replicate a.length (D.Step.mk 0 ByteArray.empty 0 0)).map (Qj true))) (zr:=(Qj true (D.Step.mk 0 ByteArray.empty 0 0))) (tv (tN a.length) rfl) (tv (tN a.length) rfl) rfl U81 QhG QhF rfl (by rw [Yt];decide) (by omega) (of_decide_eq_true (by kernel_rfl)) (Z0.int (Z0.str (Z0.int (Z0.int Z0.nil)))) Yt (List.map_replicate ..).symm (by rw [List.length_map,List.length_replicate])) (aO (T.os 4 0 0 (((List.replicate a.length (D.Step.mk 0 ByteArray.empty 0 0)).map (Qj true)).length)) rfl (nt (sq (sr (fO (OF.assign (VEv.int .i64 0)) ?_)))))))))))
 refine nt (VRun.block ?_)
 have he1:(List.replicate a.length (D.Step.mk 0 ByteArray.empty 0 0))=(a.take 0++List.replicate (a.length - 0) (D.Step.mk 0 ByteArray.empty 0 0)):=by rfl
 refine VRun.loop (A:=Nat) (fun s_=> [(0,(rd 4 Qj a)),(2,T.nils),(3,(T.os 4 0 0 (((a.take s_++List.replicate (a.length - s_) (D.Step.mk 0 ByteArray.empty 0 0)).map (Qj true)).length))),(4,(tN s_))]) (fun s_=>Q3 [(0,(Obj.rows 4 ((a.take s_++List.replicate (a.length - s_) (D.Step.mk 0 ByteArray.empty 0 0)).map (Qj true))))]) 1 (fun s_=>s_≤a.length) (fun s_=>a.length - s_) (0:Nat) ?_ (Wk.mk (fun k=>k) ?_ ?_ ?_) ?_
 ·(simp;done)
 ·exact (b2 (b2 (bc ⟨(congrArg (fun l_=>T.os 4 0 0 (List.map (Qj true) l_).length) he1),rfl⟩ (b2 bn))))
 ·exact (bc ⟨(congrArg (fun l_=>some (Obj.rows 4 (List.map (Qj true) l_))) he1),(lb rfl),rfl⟩ bn)
 ·exact nd rfl
 rintro i (hI':i≤a.length)
 show VRun _ _ _ [(0,(rd 4 Qj a)),(2,T.nils),(3,(T.os 4 0 0 (((a.take i++List.replicate (a.length - i) (D.Step.mk 0 ByteArray.empty 0 0)).map (Qj true)).length))),(4,(tN i))] (Q3 [(0,(Obj.rows 4 ((a.take i++List.replicate (a.length - i) (D.Step.mk 0 ByteArray.empty 0 0)).map (Qj true))))]) 1 _
 have hfl:=QgU (w:=(D.Step.mk 0 ByteArray.empty 0 0)) hI'
 refine sq (sr (mO (tN i) rfl (mO (rd 4 Qj a) rfl (lO (B.lenR (m:=a.length) (tv (rd 4 Qj a) rfl) U74 (List.length_map ..)) (fO (Zf (tv (tN i) rfl) (tv (tN a.length) rfl)) (nt ?_))))))
 refine cd (i<a.length) rfl (fun fhc0=> ?_) fun fhc0=> ?_
 ·refine sk ?_
  refine tn (sq (VRun.block (VRun.region (mO (T.os 4 0 0 (((a.take i++List.replicate (a.length - i) (D.Step.mk 0 ByteArray.empty 0 0)).map (Qj true)).length)) rfl (mO (tN i) rfl (mO (rd 4 Qj a) rfl (mO (tN i) rfl ?_)))))))
  obtain ⟨x1,hx1⟩:∃x,a[i]? =some x:=⟨_,List.getElem?_eq_getElem (by omega)⟩
  refine fO (OF.indexAddrR (row:=(Qj false x1)) (i:=i) (tv (rd 4 Qj a) rfl) (tv (tN i) rfl) rfl (Qv _ hx1) U74 Qi0 Qmo) (lO (OL.loadRn (us:=(Qj false x1)) (tv (T.rp (Qj false x1)) rfl) Qmr Qi0 (lb rfl) rfl) (cO (cS (vc (tv (T.agg (Qj false x1)) rfl) vn) (LendL.cons (lg okeStep) ln) (QfL (n+0) x1) rfl rfl) ?_))
  obtain ⟨x2,hx2⟩:∃x,(a.take i++List.replicate (a.length - i) (D.Step.mk 0 ByteArray.empty 0 0))[i]? =some x:=⟨_,List.getElem?_eq_getElem (by omega)⟩
  refine fO (B.indexAddrO (i:=i) (tv (T.os 4 0 0 (((a.take i++List.replicate (a.length - i) (D.Step.mk 0 ByteArray.empty 0 0)).map (Qj true)).length)) rfl) (tv (tN i) rfl) rfl (by (simp only [List.length_map];omega)) U81 Yt J6) (cO (B.storeP (us:=(Qj true x1)) (rows':=(((a.take i++List.replicate (a.length - i) (D.Step.mk 0 ByteArray.empty 0 0)).set i x1).map (Qj true))) (row:=(Qj true x2)) (tv (T.orp 4 0 i 0) rfl) (tv (T.agg (Qj true x1)) rfl) nofun rfl (Qv _ hx2) rfl (lb rfl) J6 Yt (bc rfl (bc rfl (bc rfl (bc rfl bn)))) (by intro r hr t ht;obtain ⟨x,_,rfl⟩:=List.mem_map.1 hr;rw [Qfi] at ht;exact ZQ (okeStep.pl _ t ht)) (ZL rfl)) (VRunO.nil (vinB.n (tn (VRun.region (mO (tN i) rfl (fO (QB (tv (tN i) rfl) (VEv.int .i64 1) (by omega)) (aO (tN (i+1)) rfl (VRunO.nil (tn ?_))))))))))
  have he2:((a.take i++List.replicate (a.length - i) (D.Step.mk 0 ByteArray.empty 0 0)).set i x1)=(a.take (i+1)++List.replicate (a.length - (i+1)) (D.Step.mk 0 ByteArray.empty 0 0)):=by exact QbD hx1
  refine ⟨(i+1:Nat),?_,?_,Wk.mk (fun k=>k) ?_ ?_ ?_⟩
  ·trivial
  ·omega
  ·exact (b2 (b2 (bc ⟨(congrArg (fun n_=>T.os 4 0 0 n_) (show ((a.take i++List.replicate (a.length - i) (D.Step.mk 0 ByteArray.empty 0 0)).map (Qj true)).length=((a.take (i+1)++List.replicate (a.length - (i+1)) (D.Step.mk 0 ByteArray.empty 0 0)).map (Qj true)).length from (by (simp only [List.length_map,List.length_set,List.length_append,List.length_take,List.length_replicate,List.length_cons,List.length_nil];omega)))),rfl⟩ (b2 bn))))
  ·exact (bc ⟨(congrArg (fun l_=>some (Obj.rows 4 (List.map (Qj true) l_))) he2),(lb rfl),rfl⟩ bn)
  ·exact nd rfl
 refine VRun.exit (vthn.e (vthn.e (vinB.e (tn (sr (mO (T.os 4 0 0 (((a.take i++List.replicate (a.length - i) (D.Step.mk 0 ByteArray.empty 0 0)).map (Qj true)).length)) rfl (aO (T.os 4 0 0 (((a.take i++List.replicate (a.length - i) (D.Step.mk 0 ByteArray.empty 0 0)).map (Qj true)).length)) rfl (nt (rt ?_)))))))))
 refine vfin.eq (r':=(T.sl true 4 ((a.take i++List.replicate (a.length - i) (D.Step.mk 0 ByteArray.empty 0 0)).map (Qj true)))) ?_ (vfin.r (VRes.tmp (t:=(T.os 4 0 0 (((a.take i++List.replicate (a.length - i) (D.Step.mk 0 ByteArray.empty 0 0)).map (Qj true)).length))) rfl VRes.nil) (Give.os rfl rfl (okeStep.cleanMap _)))
 show (T.sl true 4 ((a.take i++List.replicate (a.length - i) (D.Step.mk 0 ByteArray.empty 0 0)).map (Qj true)))=(T.sl true 4 (a.map (Qj true)))
 refine congrArg (fun l_=>T.sl true 4 (List.map (Qj true) l_)) ?_
 exact QdM fhc0
theorem Qfz (n:Nat) (a:D.Clue) (ha:QQ a≤mx):Pure (Qq Tryz.prog (n+3)) 100 [(T.agg (Qg false a))] (T.agg (Qg true a)):=by
 refine Pure.intro (rs:= [ResultVar.cell 2 83]) Tryz.func100 rfl rfl rfl (E0:= [(0,(T.agg (Qg false a)))]) rfl ?_
 obtain ⟨hlim,hmx,hmax⟩:=QC
 simp only [QQ] at ha
 have hla_Play:=QV (z:=ZG) a.Play
 refine sr (kO (B.box (ts:=(Qg false a)) (tv (T.agg (Qg false a)) rfl) nofun rfl) (kO (B.alloc (t:=(T.agg [(tN 0),T.nils])) (ts:= [(tN 0),T.nils]) Qmu Qm6 nofun (fun _=> .agg _ _ rfl (Yg (RL.cons (.int _ _) (RL.cons (.nils) (RL.nil _))))) rfl) (nt (sr (kO (B.alloc (t:=(T.agg [(tN 0),T.nils])) (ts:= [(tN 0),T.nils]) Qmu Qm6 nofun (fun _=> .agg _ _ rfl (Yg (RL.cons (.int _ _) (RL.cons (.nils) (RL.nil _))))) rfl) (nt (sr (lf (tI a.Sense) rfl QmE rfl rfl QU (fO (OF.fieldAddrO (tv (T.op 2 0) rfl) QdG) (cO (B.storeO (us:= [(tI a.Sense)]) (ws:= [(tI a.Sense),T.nils]) (tv (T.op 2 0) rfl) (tv (tI a.Sense) rfl) nofun rfl rfl (lb rfl) Yk Q8 (bc rfl bn) rfl) (nt ?_)))))))))))
 refine sr (lf (rd 4 Qj a.Play) rfl QkC rfl rfl QnQ (cO (OC.callF (us:= [(rd 4 Qj a.Play)]) (r:=(T.sl true 4 (a.Play.map (Qj true)))) (r':=(T.os 4 3 0 ((a.Play.map (Qj true)).length))) (objs:= [(Obj.rows 4 (a.Play.map (Qj true)))]) rfl (vc (tv (rd 4 Qj a.Play) rfl) vn) (ZJ rfl) (QeM (n+0) a.Play (by omega)) rfl) (fO (OF.fieldAddrO (tv (T.op 2 0) rfl) QdF) (cO (B.storeO (us:= [(T.os 4 3 0 ((a.Play.map (Qj true)).length))]) (ws:= [(tI a.Sense),(T.os 4 3 0 ((a.Play.map (Qj true)).length))]) (tv (T.op 2 1) rfl) (tv (T.os 4 3 0 ((a.Play.map (Qj true)).length)) rfl) nofun rfl rfl (lb rfl) QnH QnJ (bc rfl bn) rfl) (nt (sr (lO (OL.loadOn (us:= [(tI a.Sense),(T.os 4 3 0 ((a.Play.map (Qj true)).length))]) (tv (T.op 2 0) rfl) rfl QiD Qbb (lb rfl) rfl) (cO (B.storeO (us:= [(tI a.Sense),(T.os 4 3 0 ((a.Play.map (Qj true)).length))]) (ws:= [(tI a.Sense),(T.os 4 3 0 ((a.Play.map (Qj true)).length))]) (tv (T.op 1 0) rfl) (tv (T.agg [(tI a.Sense),(T.os 4 3 0 ((a.Play.map (Qj true)).length))]) rfl) nofun rfl rfl (lb rfl) QgJ Qbb (bc rfl (bc rfl bn)) rfl) (nt (rt ?_))))))))))
 refine vfin.eq (r':=(T.agg [(tI a.Sense),(T.sl true 4 (a.Play.map (Qj true)))])) ?_ (vfin.r (VRes.celln (ws:= [(tI a.Sense),(T.os 4 3 0 ((a.Play.map (Qj true)).length))]) rfl rfl QiD Qbb (lb rfl) rfl VRes.nil) (Give.agg (GiveL.cons (Give.int _ _) (GiveL.cons (Give.os rfl rfl (okeStep.cleanMap _)) GiveL.nil (by decide)) (by decide))))
 show (T.agg [(tI a.Sense),(T.sl true 4 (a.Play.map (Qj true)))])=(T.agg (Qg true a))
 rfl
theorem QeN (n:Nat) (a:List D.Clue) (ha:zL QQ a≤mx):Pure (Qq Tryz.prog (n+4)) 60 [(rd 2 Qg a)] (T.sl true 2 (a.map (Qg true))):=by
 refine Pure.intro (rs:= [ResultVar.tmp 2]) Tryz.func60 rfl rfl rfl (E0:= [(0,(rd 2 Qg a))]) rfl ?_
 obtain ⟨hlim,hmx,hmax⟩:=QC
 have hla:=QV (z:=QQ) a
 refine sr (fO (OF.assign VEv.nils) (nt (sr (mO (rd 2 Qg a) rfl (lO (B.lenR (m:=a.length) (tv (rd 2 Qg a) rfl) U24 (List.length_map ..)) (kO (B.makeZ (n:=a.length) (m:=((List.replicate a.length (D.Clue.mk 0 [])).map (Qg true)).length) (rows:=((List.replicate a.length (D.Clue.mk 0 [])).map (Qg true))) (zr:=(Qg true (D.Clue.mk 0 []))) (tv (tN a.length) rfl) (tv (tN a.length) rfl) rfl U35 Qmu Qm6 rfl (by rw [Qbb];decide) (by omega) (of_decide_eq_true (by kernel_rfl)) (Z0.int (Z0.sl Z0.nil)) Qbb (List.map_replicate ..).symm (by rw [List.length_map,List.length_replicate])) (aO (T.os 2 0 0 (((List.replicate a.length (D.Clue.mk 0 [])).map (Qg true)).length)) rfl (nt (sq (sr (fO (OF.assign (VEv.int .i64 0)) ?_)))))))))))
 refine nt (VRun.block ?_)
 have he1:(List.replicate a.length (D.Clue.mk 0 []))=(a.take 0++List.replicate (a.length - 0) (D.Clue.mk 0 [])):=by rfl
 refine VRun.loop (A:=Nat) (fun s_=> [(0,(rd 2 Qg a)),(2,T.nils),(3,(T.os 2 0 0 (((a.take s_++List.replicate (a.length - s_) (D.Clue.mk 0 [])).map (Qg true)).length))),(4,(tN s_))]) (fun s_=>Q3 [(0,(Obj.rows 2 ((a.take s_++List.replicate (a.length - s_) (D.Clue.mk 0 [])).map (Qg true))))]) 1 (fun s_=>s_≤a.length) (fun s_=>a.length - s_) (0:Nat) ?_ (Wk.mk (fun k=>k) ?_ ?_ ?_) ?_
 ·(simp;done)
 ·exact (b2 (b2 (bc ⟨(congrArg (fun l_=>T.os 2 0 0 (List.map (Qg true) l_).length) he1),rfl⟩ (b2 bn))))
 ·exact (bc ⟨(congrArg (fun l_=>some (Obj.rows 2 (List.map (Qg true) l_))) he1),(lb rfl),rfl⟩ bn)
 ·exact nd rfl
 rintro i (hI':i≤a.length)
 show VRun _ _ _ [(0,(rd 2 Qg a)),(2,T.nils),(3,(T.os 2 0 0 (((a.take i++List.replicate (a.length - i) (D.Clue.mk 0 [])).map (Qg true)).length))),(4,(tN i))] (Q3 [(0,(Obj.rows 2 ((a.take i++List.replicate (a.length - i) (D.Clue.mk 0 [])).map (Qg true))))]) 1 _
 have hfl:=QgU (w:=(D.Clue.mk 0 [])) hI'
 refine sq (sr (mO (tN i) rfl (mO (rd 2 Qg a) rfl (lO (B.lenR (m:=a.length) (tv (rd 2 Qg a) rfl) U24 (List.length_map ..)) (fO (Zf (tv (tN i) rfl) (tv (tN a.length) rfl)) (nt ?_))))))
 refine cd (i<a.length) rfl (fun fhc0=> ?_) fun fhc0=> ?_
 ·refine sk ?_
  refine tn (sq (VRun.block (VRun.region (mO (T.os 2 0 0 (((a.take i++List.replicate (a.length - i) (D.Clue.mk 0 [])).map (Qg true)).length)) rfl (mO (tN i) rfl (mO (rd 2 Qg a) rfl (mO (tN i) rfl ?_)))))))
  obtain ⟨x1,hx1⟩:∃x,a[i]? =some x:=⟨_,List.getElem?_eq_getElem (by omega)⟩
  refine fO (OF.indexAddrR (row:=(Qg false x1)) (i:=i) (tv (rd 2 Qg a) rfl) (tv (tN i) rfl) rfl (Qv _ hx1) U24 Ql7 QnP) (lO (OL.loadRn (us:=(Qg false x1)) (tv (T.rp (Qg false x1)) rfl) QnV Ql7 (lb rfl) rfl) (cO (OC.callF (us:= [(T.agg (Qg false x1))]) (r:=(T.agg (Qg true x1))) (r':=(T.agg [(tI x1.Sense),(T.os 4 1 0 ((x1.Play.map (Qj true)).length))])) (objs:= [(Obj.rows 4 (x1.Play.map (Qj true)))]) rfl (vc (tv (T.agg (Qg false x1)) rfl) vn) (LendL.cons (lg okeClue) ln) (Qfz (n+0) x1 (by exact Nat.le_trans (Qgb hx1) ha)) rfl) ?_))
  obtain ⟨x2,hx2⟩:∃x,(a.take i++List.replicate (a.length - i) (D.Clue.mk 0 []))[i]? =some x:=⟨_,List.getElem?_eq_getElem (by omega)⟩
  refine fO (B.indexAddrO (i:=i) (tv (T.os 2 0 0 (((a.take i++List.replicate (a.length - i) (D.Clue.mk 0 [])).map (Qg true)).length)) rfl) (tv (tN i) rfl) rfl (by (simp only [List.length_map];omega)) U35 Qbb QgJ) (cO (B.storeB (us:= [(tI x1.Sense),(T.os 4 1 0 ((x1.Play.map (Qj true)).length))]) (ws:= [(tI x1.Sense),(T.sl true 4 (x1.Play.map (Qj true)))]) (rows':=(((a.take i++List.replicate (a.length - i) (D.Clue.mk 0 [])).set i x1).map (Qg true))) (row:=(Qg true x2)) (tv (T.orp 2 0 i 0) rfl) (tv (T.agg [(tI x1.Sense),(T.os 4 1 0 ((x1.Play.map (Qj true)).length))]) rfl) nofun rfl (Qv _ hx2) rfl (lb rfl) QgJ Qbb (bc rfl (bc rfl bn)) (Bury.pl rfl (Bury.os rfl rfl Bury.nil (by decide))) rfl (by decide) (ZL rfl)) (VRunO.nil (vinB.n (tn (VRun.region (mO (tN i) rfl (fO (QB (tv (tN i) rfl) (VEv.int .i64 1) (by omega)) (aO (tN (i+1)) rfl (VRunO.nil (tn ?_))))))))))
  have he2:((a.take i++List.replicate (a.length - i) (D.Clue.mk 0 [])).set i x1)=(a.take (i+1)++List.replicate (a.length - (i+1)) (D.Clue.mk 0 [])):=by exact QbD hx1
  refine ⟨(i+1:Nat),?_,?_,Wk.mk (fun k=>k) ?_ ?_ ?_⟩
  ·trivial
  ·omega
  ·exact (b2 (b2 (bc ⟨(congrArg (fun n_=>T.os 2 0 0 n_) (show ((a.take i++List.replicate (a.length - i) (D.Clue.mk 0 [])).map (Qg true)).length=((a.take (i+1)++List.replicate (a.length - (i+1)) (D.Clue.mk 0 [])).map (Qg true)).length from (by (simp only [List.length_map,List.length_set,List.length_append,List.length_take,List.length_replicate,List.length_cons,List.length_nil];omega)))),rfl⟩ (b2 bn))))
  ·exact (bc ⟨(congrArg (fun l_=>some (Obj.rows 2 (List.map (Qg true) l_))) he2),(lb rfl),rfl⟩ bn)
  ·exact nd rfl
 refine VRun.exit (vthn.e (vthn.e (vinB.e (tn (sr (mO (T.os 2 0 0 (((a.take i++List.replicate (a.length - i) (D.Clue.mk 0 [])).map (Qg true)).length)) rfl (aO (T.os 2 0 0 (((a.take i++List.replicate (a.length - i) (D.Clue.mk 0 [])).map (Qg true)).length)) rfl (nt (rt ?_)))))))))
 refine vfin.eq (r':=(T.sl true 2 ((a.take i++List.replicate (a.length - i) (D.Clue.mk 0 [])).map (Qg true)))) ?_ (vfin.r (VRes.tmp (t:=(T.os 2 0 0 (((a.take i++List.replicate (a.length - i) (D.Clue.mk 0 [])).map (Qg true)).length))) rfl VRes.nil) (Give.os rfl rfl (okeClue.cleanMap _)))
 show (T.sl true 2 ((a.take i++List.replicate (a.length - i) (D.Clue.mk 0 [])).map (Qg true)))=(T.sl true 2 (a.map (Qg true)))
 refine congrArg (fun l_=>T.sl true 2 (List.map (Qg true) l_)) ?_
 exact QdM fhc0
theorem YL (n:Nat) (a:D.Puzzle) (ha:QL a≤mx):Pure (Qq Tryz.prog (n+5)) 26 [(T.agg (Qp false a))] (T.agg (Qp true a)):=by
 refine Pure.intro (rs:= [ResultVar.cell 2 37]) Tryz.func26 rfl rfl rfl (E0:= [(0,(T.agg (Qp false a)))]) rfl ?_
 obtain ⟨hlim,hmx,hmax⟩:=QC
 simp only [QL] at ha
 have hla_Clues:=QV (z:=QQ) a.Clues
 have hla_Seals:=QV (z:=zI) a.Seals
 refine sr (kO (B.box (ts:=(Qp false a)) (tv (T.agg (Qp false a)) rfl) nofun rfl) (kO (B.alloc (t:=(T.agg [(tN 0),(tN 0),(tS ByteArray.empty),T.nils,T.nils,(tN 0)])) (ts:= [(tN 0),(tN 0),(tS ByteArray.empty),T.nils,T.nils,(tN 0)]) QmT Qnf nofun (fun _=> .agg _ _ rfl (Yg (RL.cons (.int _ _) (RL.cons (.int _ _) (RL.cons (.str _) (RL.cons (.nils) (RL.cons (.nils) (RL.cons (.int _ _) (RL.nil _))))))))) rfl) (nt (sr (kO (B.alloc (t:=(T.agg [(tN 0),(tN 0),(tS ByteArray.empty),T.nils,T.nils,(tN 0)])) (ts:= [(tN 0),(tN 0),(tS ByteArray.empty),T.nils,T.nils,(tN 0)]) QmT Qnf nofun (fun _=> .agg _ _ rfl (Yg (RL.cons (.int _ _) (RL.cons (.int _ _) (RL.cons (.str _) (RL.cons (.nils) (RL.cons (.nils) (RL.cons (.int _ _) (RL.nil _))))))))) rfl) (nt (sr (fO (OF.fieldAddrO (tv (T.op 0 0) rfl) Qkp) (lO (OL.loadOn (us:=(Qc false a.Grid)) (tv (T.op 0 0) rfl) rfl Qnx QmX (lb rfl) rfl) (cO (cS (vc (tv (T.agg (Qc false a.Grid)) rfl) vn) (LendL.cons (lg Qs) ln) (Qfs (n+3) a.Grid) rfl rfl) (fO (OF.fieldAddrO (tv (T.op 2 0) rfl) Y0) ?_)))))))))))
 refine cO (B.storeO (us:=(Qc true a.Grid)) (ws:= [(tI a.Grid.Rows),(tI a.Grid.Cols),(tS a.Grid.Cells),T.nils,T.nils,(tN 0)]) (tv (T.op 2 0) rfl) (tv (T.agg (Qc true a.Grid)) rfl) nofun rfl rfl (lb rfl) Qii QT (bc rfl (bc rfl (bc rfl bn))) rfl) (nt (sr (lf (rd 2 Qg a.Clues) rfl Qk5 rfl rfl QnW (cO (OC.callF (us:= [(rd 2 Qg a.Clues)]) (r:=(T.sl true 2 (a.Clues.map (Qg true)))) (r':=(T.os 2 3 0 ((a.Clues.map (Qg true)).length))) (objs:= [(Obj.rows 2 (a.Clues.map (Qg true)))]) rfl (vc (tv (rd 2 Qg a.Clues) rfl) vn) (ZJ rfl) (QeN (n+0) a.Clues (by first | assumption | omega)) rfl) (fO (OF.fieldAddrO (tv (T.op 2 0) rfl) Y2) (cO (B.storeO (us:= [(T.os 2 3 0 ((a.Clues.map (Qg true)).length))]) (ws:= [(tI a.Grid.Rows),(tI a.Grid.Cols),(tS a.Grid.Cells),(T.os 2 3 0 ((a.Clues.map (Qg true)).length)),T.nils,(tN 0)]) (tv (T.op 2 3) rfl) (tv (T.os 2 3 0 ((a.Clues.map (Qg true)).length)) rfl) nofun rfl rfl (lb rfl) QnR QnS (bc rfl bn) rfl) (nt (sr (lf (rd 1 Qa a.Seals) rfl QkX rfl rfl YY (cO (OC.callF (us:= [(rd 1 Qa a.Seals)]) (r:=(T.sl true 1 (a.Seals.map (Qa true)))) (r':=(T.os 1 4 0 ((a.Seals.map (Qa true)).length))) (objs:= [(Obj.rows 1 (a.Seals.map (Qa true)))]) rfl (vc (tv (rd 1 Qa a.Seals) rfl) vn) (ZJ rfl) (Qb8 (n+3) a.Seals (by first | assumption | omega)) rfl) (fO (OF.fieldAddrO (tv (T.op 2 0) rfl) Qbj) ?_)))))))))))
 refine cO (B.storeO (us:= [(T.os 1 4 0 ((a.Seals.map (Qa true)).length))]) (ws:= [(tI a.Grid.Rows),(tI a.Grid.Cols),(tS a.Grid.Cells),(T.os 2 3 0 ((a.Clues.map (Qg true)).length)),(T.os 1 4 0 ((a.Seals.map (Qa true)).length)),(tN 0)]) (tv (T.op 2 4) rfl) (tv (T.os 1 4 0 ((a.Seals.map (Qa true)).length)) rfl) nofun rfl rfl (lb rfl) Qdp QbX (bc rfl bn) rfl) (nt (sr (lf (tI a.Salt) rfl Qm1 rfl rfl QU (fO (OF.fieldAddrO (tv (T.op 2 0) rfl) Qcq) (cO (B.storeO (us:= [(tI a.Salt)]) (ws:= [(tI a.Grid.Rows),(tI a.Grid.Cols),(tS a.Grid.Cells),(T.os 2 3 0 ((a.Clues.map (Qg true)).length)),(T.os 1 4 0 ((a.Seals.map (Qa true)).length)),(tI a.Salt)]) (tv (T.op 2 5) rfl) (tv (tI a.Salt) rfl) nofun rfl rfl (lb rfl) Yk Q8 (bc rfl bn) rfl) (nt (sr (lO (OL.loadOn (us:= [(tI a.Grid.Rows),(tI a.Grid.Cols),(tS a.Grid.Cells),(T.os 2 3 0 ((a.Clues.map (Qg true)).length)),(T.os 1 4 0 ((a.Seals.map (Qa true)).length)),(tI a.Salt)]) (tv (T.op 2 0) rfl) rfl QeX QdR (lb rfl) rfl) (cO (B.storeO (us:= [(tI a.Grid.Rows),(tI a.Grid.Cols),(tS a.Grid.Cells),(T.os 2 3 0 ((a.Clues.map (Qg true)).length)),(T.os 1 4 0 ((a.Seals.map (Qa true)).length)),(tI a.Salt)]) (ws:= [(tI a.Grid.Rows),(tI a.Grid.Cols),(tS a.Grid.Cells),(T.os 2 3 0 ((a.Clues.map (Qg true)).length)),(T.os 1 4 0 ((a.Seals.map (Qa true)).length)),(tI a.Salt)]) (tv (T.op 1 0) rfl) (tv (T.agg [(tI a.Grid.Rows),(tI a.Grid.Cols),(tS a.Grid.Cells),(T.os 2 3 0 ((a.Clues.map (Qg true)).length)),(T.os 1 4 0 ((a.Seals.map (Qa true)).length)),(tI a.Salt)]) rfl) nofun rfl rfl (lb rfl) Qnv QdR (bc rfl (bc rfl (bc rfl (bc rfl (bc rfl (bc rfl bn)))))) rfl) (nt (rt ?_)))))))))))
 refine vfin.eq (r':=(T.agg [(tI a.Grid.Rows),(tI a.Grid.Cols),(tS a.Grid.Cells),(T.sl true 2 (a.Clues.map (Qg true))),(T.sl true 1 (a.Seals.map (Qa true))),(tI a.Salt)])) ?_ (vfin.r (VRes.celln (ws:= [(tI a.Grid.Rows),(tI a.Grid.Cols),(tS a.Grid.Cells),(T.os 2 3 0 ((a.Clues.map (Qg true)).length)),(T.os 1 4 0 ((a.Seals.map (Qa true)).length)),(tI a.Salt)]) rfl rfl QeX QdR (lb rfl) rfl VRes.nil) (Give.agg (GiveL.cons (Give.int _ _) (GiveL.cons (Give.int _ _) (GiveL.cons (Give.str _) (GiveL.cons (Give.os rfl rfl (okeClue.cleanMap _)) (GiveL.cons (Give.os rfl rfl (okInt.cleanMap _)) (GiveL.cons (Give.int _ _) GiveL.nil (by decide)) (by decide)) (by decide)) (by decide)) (by decide)) (by decide))))
 show (T.agg [(tI a.Grid.Rows),(tI a.Grid.Cols),(tS a.Grid.Cells),(T.sl true 2 (a.Clues.map (Qg true))),(T.sl true 1 (a.Seals.map (Qa true))),(tI a.Salt)])=(T.agg (Qp true a))
 first | rfl | (exact Zb (by omega)) | (symm;rw [decide_eq_false_iff_not];omega) | (symm;rw [decide_eq_true_eq];omega) | (simp_all;done)
theorem YC (n:Nat) (a:D.Session) (ha:QJ a≤mx):Pure (Qq Tryz.prog (n+2)) 27 [(T.agg (Qe false a))] (T.agg (Qe true a)):=by
 refine Pure.intro (rs:= [ResultVar.cell 2 56]) Tryz.func27 rfl rfl rfl (E0:= [(0,(T.agg (Qe false a)))]) rfl ?_
 obtain ⟨hlim,hmx,hmax⟩:=QC
 simp only [QJ] at ha
 have hla_Asked:=QV (z:=zI) a.Asked
 refine sr (kO (B.box (ts:=(Qe false a)) (tv (T.agg (Qe false a)) rfl) nofun rfl) (kO (B.alloc (t:=(T.agg [(tS ByteArray.empty),(tN 0),(tN 0),T.nils,(tN 0),(tN 0)])) (ts:= [(tS ByteArray.empty),(tN 0),(tN 0),T.nils,(tN 0),(tN 0)]) QbW Qb0 nofun (fun _=> .agg _ _ rfl (Yg (RL.cons (.str _) (RL.cons (.int _ _) (RL.cons (.int _ _) (RL.cons (.nils) (RL.cons (.int _ _) (RL.cons (.int _ _) (RL.nil _))))))))) rfl) (nt (sr (kO (B.alloc (t:=(T.agg [(tS ByteArray.empty),(tN 0),(tN 0),T.nils,(tN 0),(tN 0)])) (ts:= [(tS ByteArray.empty),(tN 0),(tN 0),T.nils,(tN 0),(tN 0)]) QbW Qb0 nofun (fun _=> .agg _ _ rfl (Yg (RL.cons (.str _) (RL.cons (.int _ _) (RL.cons (.int _ _) (RL.cons (.nils) (RL.cons (.int _ _) (RL.cons (.int _ _) (RL.nil _))))))))) rfl) (nt (sr (lf (tS a.Fill) rfl Qkf rfl rfl Z7 (fO (OF.fieldAddrO (tv (T.op 2 0) rfl) Ju) (cO (B.storeO (us:= [(tS a.Fill)]) (ws:= [(tS a.Fill),(tN 0),(tN 0),T.nils,(tN 0),(tN 0)]) (tv (T.op 2 0) rfl) (tv (tS a.Fill) rfl) nofun rfl rfl (lb rfl) if9 sz9 (bc rfl bn) rfl) (nt ?_)))))))))))
 refine sr (lf (tI a.Checks) rfl Qm0 rfl rfl QU (fO (OF.fieldAddrO (tv (T.op 2 0) rfl) J9) (cO (B.storeO (us:= [(tI a.Checks)]) (ws:= [(tS a.Fill),(tI a.Checks),(tN 0),T.nils,(tN 0),(tN 0)]) (tv (T.op 2 1) rfl) (tv (tI a.Checks) rfl) nofun rfl rfl (lb rfl) Yk Q8 (bc rfl bn) rfl) (nt (sr (lf (tI a.Spent) rfl QmS rfl rfl QU (fO (OF.fieldAddrO (tv (T.op 2 0) rfl) Qbf) (cO (B.storeO (us:= [(tI a.Spent)]) (ws:= [(tS a.Fill),(tI a.Checks),(tI a.Spent),T.nils,(tN 0),(tN 0)]) (tv (T.op 2 2) rfl) (tv (tI a.Spent) rfl) nofun rfl rfl (lb rfl) Yk Q8 (bc rfl bn) rfl) (nt (sr (lf (rd 1 Qa a.Asked) rfl Qlp rfl rfl YY ?_)))))))))))
 refine cO (OC.callF (us:= [(rd 1 Qa a.Asked)]) (r:=(T.sl true 1 (a.Asked.map (Qa true)))) (r':=(T.os 1 3 0 ((a.Asked.map (Qa true)).length))) (objs:= [(Obj.rows 1 (a.Asked.map (Qa true)))]) rfl (vc (tv (rd 1 Qa a.Asked) rfl) vn) (ZJ rfl) (Qb8 (n+0) a.Asked (by first | assumption | omega)) rfl) (fO (OF.fieldAddrO (tv (T.op 2 0) rfl) Ym) (cO (B.storeO (us:= [(T.os 1 3 0 ((a.Asked.map (Qa true)).length))]) (ws:= [(tS a.Fill),(tI a.Checks),(tI a.Spent),(T.os 1 3 0 ((a.Asked.map (Qa true)).length)),(tN 0),(tN 0)]) (tv (T.op 2 3) rfl) (tv (T.os 1 3 0 ((a.Asked.map (Qa true)).length)) rfl) nofun rfl rfl (lb rfl) Qdp QbX (bc rfl bn) rfl) (nt (sr (lf (tI a.Start) rfl QmJ rfl rfl QU (fO (OF.fieldAddrO (tv (T.op 2 0) rfl) Qdc) (cO (B.storeO (us:= [(tI a.Start)]) (ws:= [(tS a.Fill),(tI a.Checks),(tI a.Spent),(T.os 1 3 0 ((a.Asked.map (Qa true)).length)),(tI a.Start),(tN 0)]) (tv (T.op 2 4) rfl) (tv (tI a.Start) rfl) nofun rfl rfl (lb rfl) Yk Q8 (bc rfl bn) rfl) (nt (sr (lf (tI a.Now) rfl Qni rfl rfl QU (fO (OF.fieldAddrO (tv (T.op 2 0) rfl) Qch) ?_)))))))))))
 refine cO (B.storeO (us:= [(tI a.Now)]) (ws:= [(tS a.Fill),(tI a.Checks),(tI a.Spent),(T.os 1 3 0 ((a.Asked.map (Qa true)).length)),(tI a.Start),(tI a.Now)]) (tv (T.op 2 5) rfl) (tv (tI a.Now) rfl) nofun rfl rfl (lb rfl) Yk Q8 (bc rfl bn) rfl) (nt (sr (lO (OL.loadOn (us:= [(tS a.Fill),(tI a.Checks),(tI a.Spent),(T.os 1 3 0 ((a.Asked.map (Qa true)).length)),(tI a.Start),(tI a.Now)]) (tv (T.op 2 0) rfl) rfl Zy Q0 (lb rfl) rfl) (cO (B.storeO (us:= [(tS a.Fill),(tI a.Checks),(tI a.Spent),(T.os 1 3 0 ((a.Asked.map (Qa true)).length)),(tI a.Start),(tI a.Now)]) (ws:= [(tS a.Fill),(tI a.Checks),(tI a.Spent),(T.os 1 3 0 ((a.Asked.map (Qa true)).length)),(tI a.Start),(tI a.Now)]) (tv (T.op 1 0) rfl) (tv (T.agg [(tS a.Fill),(tI a.Checks),(tI a.Spent),(T.os 1 3 0 ((a.Asked.map (Qa true)).length)),(tI a.Start),(tI a.Now)]) rfl) nofun rfl rfl (lb rfl) Jt Q0 (bc rfl (bc rfl (bc rfl (bc rfl (bc rfl (bc rfl bn)))))) rfl) (nt (rt ?_))))))
 refine vfin.eq (r':=(T.agg [(tS a.Fill),(tI a.Checks),(tI a.Spent),(T.sl true 1 (a.Asked.map (Qa true))),(tI a.Start),(tI a.Now)])) ?_ (vfin.r (VRes.celln (ws:= [(tS a.Fill),(tI a.Checks),(tI a.Spent),(T.os 1 3 0 ((a.Asked.map (Qa true)).length)),(tI a.Start),(tI a.Now)]) rfl rfl Zy Q0 (lb rfl) rfl VRes.nil) (Give.agg (GiveL.cons (Give.str _) (GiveL.cons (Give.int _ _) (GiveL.cons (Give.int _ _) (GiveL.cons (Give.os rfl rfl (okInt.cleanMap _)) (GiveL.cons (Give.int _ _) (GiveL.cons (Give.int _ _) GiveL.nil (by decide)) (by decide)) (by decide)) (by decide)) (by decide)) (by decide))))
 show (T.agg [(tS a.Fill),(tI a.Checks),(tI a.Spent),(T.sl true 1 (a.Asked.map (Qa true))),(tI a.Start),(tI a.Now)])=(T.agg (Qe true a))
 first | rfl | (exact Zb (by omega)) | (symm;rw [decide_eq_false_iff_not];omega) | (symm;rw [decide_eq_true_eq];omega) | (simp_all;done)
end Go.Proofs.YtcccmceoplcciaaGreat.AE
namespace Go.Proofs.YtcccmceoplcciaaGreat.AE
open Go Go.RowKit
set_option linter.unusedVariables false
set_option linter.unusedSimpArgs false
set_option maxRecDepth 20000
set_option maxHeartbeats 2000000
theorem Qb2 (n:Nat) (a:List Int) (b:List Int) (hla:a.length≤mx) (hlb:b.length≤mx):Pure (Qq Tryz.prog (n+1)) 16 [(rd 1 Qa a),(rd 1 Qa b)] (tB (decide (a=b))):=by
 refine Pure.intro (rs:= [ResultVar.tmp 4]) Tryz.func16 rfl rfl rfl (E0:= [(0,(rd 1 Qa a)),(1,(rd 1 Qa b))]) rfl ?_
 obtain ⟨hlim,hmx,hmax⟩:=QC
 refine sr (fO (OF.assign (VEv.bool false)) (nt (sq (sr (mO (rd 1 Qa a) rfl (lO (B.lenR (m:=a.length) (tv (rd 1 Qa a) rfl) Zg (List.length_map ..)) (mO (rd 1 Qa b) rfl (lO (B.lenR (m:=b.length) (tv (rd 1 Qa b) rfl) Zg (List.length_map ..)) (fO (Qia (tv (tN a.length) rfl) (tv (tN b.length) rfl)) (nt ?_))))))))))
 refine cn (a.length=b.length) rfl (fun fhc0=> ?_) fun fhc0=> ?_
 ·refine sr ?_
  refine fO (OF.assign (VEv.bool false)) (nt (rt (tr (vb (b':=false) rfl ?_))))
  symm;rw [decide_eq_false_iff_not];rintro rfl;exact fhc0 rfl
 refine sk (tn (sq (sr (fO (OF.assign (VEv.int .i64 0)) (nt (VRun.block ?_))))))
 refine VRun.loop (A:=Nat) (fun s_=> [(0,(rd 1 Qa a)),(1,(rd 1 Qa b)),(5,(tN s_))]) (fun s_=>Q3 []) 0 (fun s_=>s_≤a.length∧∀j,j<s_→a[j]? =b[j]?) (fun s_=>a.length - s_) (0:Nat) ?_ (Wk.mk (fun k=>k) ?_ ?_ ?_) ?_
 ·(simp;done)
 ·exact (b2 (b2 (b2 bn)))
 ·exact bn
 ·exact nd rfl
 rintro i (hI':i≤a.length∧∀j,j<i→a[j]? =b[j]?)
 show VRun _ _ _ [(0,(rd 1 Qa a)),(1,(rd 1 Qa b)),(5,(tN i))] (Q3 []) 0 _
 refine sq (sr (mO (tN i) rfl (mO (rd 1 Qa a) rfl (lO (B.lenR (m:=a.length) (tv (rd 1 Qa a) rfl) Zg (List.length_map ..)) (fO (Zf (tv (tN i) rfl) (tv (tN a.length) rfl)) (nt ?_))))))
 refine cd (i<a.length) rfl (fun fhc1=> ?_) fun fhc1=> ?_
 ·refine sk ?_
  refine tn (sq (VRun.block (sq (VRun.draw (B:= [[],[],[1,0],[0,1,2],[],[],[5,4],[4,5,6],[6,5,4,7,2,1,0,3]]) (by kernel_rfl) (by kernel_rfl) (mD (rd 1 Qa a) rfl rfl (mD (tN i) rfl rfl ?_))))))
  obtain ⟨x1,hx1⟩:∃x,a[i]? =some x:=⟨_,List.getElem?_eq_getElem (by omega)⟩
  refine fD (OF.indexAddrR (row:=(Qa false x1)) (i:=i) (tv (rd 1 Qa a) rfl) (tv (tN i) rfl) rfl (Qv _ hx1) Zg Q8 Yk) rfl rfl (lD (OL.loadR1 (t:=(tI x1)) (tv (T.rp [(tI x1)]) rfl) rfl QU) rfl rfl (mD (rd 1 Qa b) rfl rfl (mD (tN i) rfl rfl ?_)))
  obtain ⟨x2,hx2⟩:∃x,b[i]? =some x:=⟨_,List.getElem?_eq_getElem (by omega)⟩
  refine fD (OF.indexAddrR (row:=(Qa false x2)) (i:=i) (tv (rd 1 Qa b) rfl) (tv (tN i) rfl) rfl (Qv _ hx2) Zg Q8 Yk) rfl rfl (lD (OL.loadR1 (t:=(tI x2)) (tv (T.rp [(tI x2)]) rfl) rfl QU) rfl rfl (fD (xne (tv (tI x1) rfl) (tv (tI x2) rfl)) rfl rfl (VRunD.nil (tn ?_))))
  refine cn (x1=x2) rfl (fun fhc2=> ?_) fun fhc2=> ?_
  ·refine sr ?_
   refine fO (OF.assign (VEv.bool false)) (nt (rt (vinB.r (tr (tr (vinB.r (tr (vb (b':=false) rfl ?_))))))))
   symm;rw [decide_eq_false_iff_not];exact QbJ hx1 hx2 fhc2
  refine sk (vinB.n (tn (VRun.region (mO (tN i) rfl (fO (QB (tv (tN i) rfl) (VEv.int .i64 1) (by omega)) (aO (tN (i+1)) rfl (VRunO.nil (tn ?_))))))))
  refine ⟨(i+1:Nat),?_,?_,Wk.mk (fun k=>k) ?_ ?_ ?_⟩
  ·exact QaZ hI' hx1 hx2 fhc2
  ·omega
  ·exact (b2 (b2 (b2 bn)))
  ·exact bn
  ·exact nd rfl
 refine VRun.exit (vthn.e (vthn.e (vinB.e (tn (sr (fO (OF.assign (VEv.bool true)) (nt (rt (vb (b':=true) rfl ?_)))))))))
 symm;rw [decide_eq_true_eq];exact QbH hI' fhc0 fhc1
theorem Qfq (n:Nat) (a:D.Grid) (b:D.Grid):Pure (Qq Tryz.prog (n+1)) 68 [(T.agg (Qc false a)),(T.agg (Qc false b))] (tB (decide (a=b))):=by
 refine Pure.intro (rs:= [ResultVar.tmp 4]) Tryz.func68 rfl rfl rfl (E0:= [(0,(T.agg (Qc false a))),(1,(T.agg (Qc false b)))]) rfl ?_
 obtain ⟨hlim,hmx,hmax⟩:=QC
 refine sr (kO (B.box (ts:=(Qc false a)) (tv (T.agg (Qc false a)) rfl) nofun rfl) (kO (B.box (ts:=(Qc false b)) (tv (T.agg (Qc false b)) rfl) nofun rfl) (fO (OF.assign (VEv.bool false)) (nt (sq (sr (lf (tI a.Rows) rfl Qaz rfl rfl QU (lf (tI b.Rows) rfl Qaz rfl rfl QU (fO (xne (tv (tI a.Rows) rfl) (tv (tI b.Rows) rfl)) (nt ?_))))))))))
 refine cn (a.Rows=b.Rows) rfl (fun fhc0=> ?_) fun fhc0=> ?_
 ·refine sr ?_
  refine fO (OF.assign (VEv.bool false)) (nt (rt (tr (vb (b':=false) rfl ?_))))
  obtain ⟨a0,a1,a2⟩:=a
  obtain ⟨b0,b1,b2⟩:=b
  simp_all
 refine sk (tn (sq (sr (lf (tI a.Cols) rfl Zn rfl rfl QU (lf (tI b.Cols) rfl Zn rfl rfl QU (fO (xne (tv (tI a.Cols) rfl) (tv (tI b.Cols) rfl)) (nt ?_)))))))
 refine cn (a.Cols=b.Cols) rfl (fun fhc1=> ?_) fun fhc1=> ?_
 ·refine sr ?_
  refine fO (OF.assign (VEv.bool false)) (nt (rt (tr (vb (b':=false) rfl ?_))))
  obtain ⟨a0,a1,a2⟩:=a
  obtain ⟨b0,b1,b2⟩:=b
  simp_all
 refine sk (tn (sq (sr (lf (tS a.Cells) rfl QE rfl rfl Z7 (lf (tS b.Cells) rfl QE rfl rfl Z7 (fO (B.sneq (c:=(!(decide (a.Cells=b.Cells)))) (tv (tS a.Cells) rfl) (tv (tS b.Cells) rfl) rfl) (nt ?_)))))))
 refine cn (a.Cells=b.Cells) rfl (fun fhc2=> ?_) fun fhc2=> ?_
 ·refine sr ?_
  refine fO (OF.assign (VEv.bool false)) (nt (rt (tr (vb (b':=false) rfl ?_))))
  obtain ⟨a0,a1,a2⟩:=a
  obtain ⟨b0,b1,b2⟩:=b
  simp_all
 refine sk (tn (sr (fO (OF.assign (VEv.bool true)) (nt (rt (vb (b':=true) rfl ?_))))))
 obtain ⟨a0,a1,a2⟩:=a
 obtain ⟨b0,b1,b2⟩:=b
 simp_all
theorem QfD (n:Nat) (a:D.Step) (b:D.Step):Pure (Qq Tryz.prog (n+1)) 155 [(T.agg (Qj false a)),(T.agg (Qj false b))] (tB (decide (a=b))):=by
 refine Pure.intro (rs:= [ResultVar.tmp 4]) Tryz.func155 rfl rfl rfl (E0:= [(0,(T.agg (Qj false a))),(1,(T.agg (Qj false b)))]) rfl ?_
 obtain ⟨hlim,hmx,hmax⟩:=QC
 refine sr (kO (B.box (ts:=(Qj false a)) (tv (T.agg (Qj false a)) rfl) nofun rfl) (kO (B.box (ts:=(Qj false b)) (tv (T.agg (Qj false b)) rfl) nofun rfl) (fO (OF.assign (VEv.bool false)) (nt (sq (sr (lf (tI a.Kind) rfl Za rfl rfl QU (lf (tI b.Kind) rfl Za rfl rfl QU (fO (xne (tv (tI a.Kind) rfl) (tv (tI b.Kind) rfl)) (nt ?_))))))))))
 refine cn (a.Kind=b.Kind) rfl (fun fhc0=> ?_) fun fhc0=> ?_
 ·refine sr ?_
  refine fO (OF.assign (VEv.bool false)) (nt (rt (tr (vb (b':=false) rfl ?_))))
  obtain ⟨a0,a1,a2,a3⟩:=a
  obtain ⟨b0,b1,b2,b3⟩:=b
  simp_all
 refine sk (tn (sq (sr (lf (tS a.Word) rfl Qah rfl rfl Z7 (lf (tS b.Word) rfl Qah rfl rfl Z7 (fO (B.sneq (c:=(!(decide (a.Word=b.Word)))) (tv (tS a.Word) rfl) (tv (tS b.Word) rfl) rfl) (nt ?_)))))))
 refine cn (a.Word=b.Word) rfl (fun fhc1=> ?_) fun fhc1=> ?_
 ·refine sr ?_
  refine fO (OF.assign (VEv.bool false)) (nt (rt (tr (vb (b':=false) rfl ?_))))
  obtain ⟨a0,a1,a2,a3⟩:=a
  obtain ⟨b0,b1,b2,b3⟩:=b
  simp_all
 refine sk (tn (sq (sr (lf (tI a.A) rfl YK rfl rfl QU (lf (tI b.A) rfl YK rfl rfl QU (fO (xne (tv (tI a.A) rfl) (tv (tI b.A) rfl)) (nt ?_)))))))
 refine cn (a.A=b.A) rfl (fun fhc2=> ?_) fun fhc2=> ?_
 ·refine sr ?_
  refine fO (OF.assign (VEv.bool false)) (nt (rt (tr (vb (b':=false) rfl ?_))))
  obtain ⟨a0,a1,a2,a3⟩:=a
  obtain ⟨b0,b1,b2,b3⟩:=b
  simp_all
 refine sk (tn (sq (sr (lf (tI a.B) rfl Yn rfl rfl QU (lf (tI b.B) rfl Yn rfl rfl QU (fO (xne (tv (tI a.B) rfl) (tv (tI b.B) rfl)) (nt ?_)))))))
 refine cn (a.B=b.B) rfl (fun fhc3=> ?_) fun fhc3=> ?_
 ·refine sr ?_
  refine fO (OF.assign (VEv.bool false)) (nt (rt (tr (vb (b':=false) rfl ?_))))
  obtain ⟨a0,a1,a2,a3⟩:=a
  obtain ⟨b0,b1,b2,b3⟩:=b
  simp_all
 refine sk (tn (sr (fO (OF.assign (VEv.bool true)) (nt (rt (vb (b':=true) rfl ?_))))))
 obtain ⟨a0,a1,a2,a3⟩:=a
 obtain ⟨b0,b1,b2,b3⟩:=b
 simp_all
theorem QeO (n:Nat) (a:List D.Step) (b:List D.Step) (hla:a.length≤mx) (hlb:b.length≤mx):Pure (Qq Tryz.prog (n+2)) 130 [(rd 4 Qj a),(rd 4 Qj b)] (tB (decide (a=b))):=by
 refine Pure.intro (rs:= [ResultVar.tmp 4]) Tryz.func130 rfl rfl rfl (E0:= [(0,(rd 4 Qj a)),(1,(rd 4 Qj b))]) rfl ?_
 obtain ⟨hlim,hmx,hmax⟩:=QC
 refine sr (fO (OF.assign (VEv.bool false)) (nt (sq (sr (mO (rd 4 Qj a) rfl (lO (B.lenR (m:=a.length) (tv (rd 4 Qj a) rfl) U81 (List.length_map ..)) (mO (rd 4 Qj b) rfl (lO (B.lenR (m:=b.length) (tv (rd 4 Qj b) rfl) U81 (List.length_map ..)) (fO (Qia (tv (tN a.length) rfl) (tv (tN b.length) rfl)) (nt ?_))))))))))
 refine cn (a.length=b.length) rfl (fun fhc0=> ?_) fun fhc0=> ?_
 ·refine sr ?_
  refine fO (OF.assign (VEv.bool false)) (nt (rt (tr (vb (b':=false) rfl ?_))))
  symm;rw [decide_eq_false_iff_not];rintro rfl;exact fhc0 rfl
 refine sk (tn (sq (sr (fO (OF.assign (VEv.int .i64 0)) (nt (VRun.block ?_))))))
 refine VRun.loop (A:=Nat) (fun s_=> [(0,(rd 4 Qj a)),(1,(rd 4 Qj b)),(5,(tN s_))]) (fun s_=>Q3 []) 0 (fun s_=>s_≤a.length∧∀j,j<s_→a[j]? =b[j]?) (fun s_=>a.length - s_) (0:Nat) ?_ (Wk.mk (fun k=>k) ?_ ?_ ?_) ?_
 ·(simp;done)
 ·exact (b2 (b2 (b2 bn)))
 ·exact bn
 ·exact nd rfl
 rintro i (hI':i≤a.length∧∀j,j<i→a[j]? =b[j]?)
 show VRun _ _ _ [(0,(rd 4 Qj a)),(1,(rd 4 Qj b)),(5,(tN i))] (Q3 []) 0 _
 refine sq (sr (mO (tN i) rfl (mO (rd 4 Qj a) rfl (lO (B.lenR (m:=a.length) (tv (rd 4 Qj a) rfl) U81 (List.length_map ..)) (fO (Zf (tv (tN i) rfl) (tv (tN a.length) rfl)) (nt ?_))))))
 refine cd (i<a.length) rfl (fun fhc1=> ?_) fun fhc1=> ?_
 ·refine sk ?_
  refine tn (sq (VRun.block (sq (VRun.draw (B:= [[],[],[1,0],[0,1,2],[],[],[5,4],[4,5,6],[6,5,4,7,2,1,0,3],[3,0,1,2,7,4,5,6,8]]) (by kernel_rfl) (by kernel_rfl) (mD (rd 4 Qj a) rfl rfl (mD (tN i) rfl rfl ?_))))))
  obtain ⟨x1,hx1⟩:∃x,a[i]? =some x:=⟨_,List.getElem?_eq_getElem (by omega)⟩
  refine fD (OF.indexAddrR (row:=(Qj false x1)) (i:=i) (tv (rd 4 Qj a) rfl) (tv (tN i) rfl) rfl (Qv _ hx1) U81 Yt J6) rfl rfl (lD (OL.loadRn (us:=(Qj false x1)) (tv (T.rp (Qj false x1)) rfl) Qgd Yt (lb rfl) rfl) rfl rfl (mD (rd 4 Qj b) rfl rfl (mD (tN i) rfl rfl ?_)))
  obtain ⟨x2,hx2⟩:∃x,b[i]? =some x:=⟨_,List.getElem?_eq_getElem (by omega)⟩
  refine fD (OF.indexAddrR (row:=(Qj false x2)) (i:=i) (tv (rd 4 Qj b) rfl) (tv (tN i) rfl) rfl (Qv _ hx2) U81 Yt J6) rfl rfl (lD (OL.loadRn (us:=(Qj false x2)) (tv (T.rp (Qj false x2)) rfl) Qgd Yt (lb rfl) rfl) rfl rfl (VRunD.quiet (bi:= [6,5,4,7,2,1,0,3]) rfl VWant.always rfl rfl rfl bn (cS (vc (tv (T.agg (Qj false x1)) rfl) (vc (tv (T.agg (Qj false x2)) rfl) vn)) (LendL.cons (lg okeStep) (LendL.cons (lg okeStep) ln)) (QfD (n+0) x1 x2) rfl rfl) (fD (QW (tv (tB (decide (x1=x2))) rfl)) rfl rfl (VRunD.nil (tn ?_)))))
  refine cn (x1=x2) rfl (fun fhc2=> ?_) fun fhc2=> ?_
  ·refine sr ?_
   refine fO (OF.assign (VEv.bool false)) (nt (rt (vinB.r (tr (tr (vinB.r (tr (vb (b':=false) rfl ?_))))))))
   symm;rw [decide_eq_false_iff_not];exact QbJ hx1 hx2 fhc2
  refine sk (vinB.n (tn (VRun.region (mO (tN i) rfl (fO (QB (tv (tN i) rfl) (VEv.int .i64 1) (by omega)) (aO (tN (i+1)) rfl (VRunO.nil (tn ?_))))))))
  refine ⟨(i+1:Nat),?_,?_,Wk.mk (fun k=>k) ?_ ?_ ?_⟩
  ·exact QaZ hI' hx1 hx2 fhc2
  ·omega
  ·exact (b2 (b2 (b2 bn)))
  ·exact bn
  ·exact nd rfl
 refine VRun.exit (vthn.e (vthn.e (vinB.e (tn (sr (fO (OF.assign (VEv.bool true)) (nt (rt (vb (b':=true) rfl ?_)))))))))
 symm;rw [decide_eq_true_eq];exact QbH hI' fhc0 fhc1
theorem QfB (n:Nat) (a:D.Clue) (b:D.Clue) (ha:QQ a≤mx) (hb:QQ b≤mx):Pure (Qq Tryz.prog (n+3)) 101 [(T.agg (Qg false a)),(T.agg (Qg false b))] (tB (decide (a=b))):=by
 refine Pure.intro (rs:= [ResultVar.tmp 4]) Tryz.func101 rfl rfl rfl (E0:= [(0,(T.agg (Qg false a))),(1,(T.agg (Qg false b)))]) rfl ?_
 obtain ⟨hlim,hmx,hmax⟩:=QC
 simp only [QQ] at ha hb
 have hla_Play:=QV (z:=ZG) a.Play
 have hlb_Play:=QV (z:=ZG) b.Play
 refine sr (kO (B.box (ts:=(Qg false a)) (tv (T.agg (Qg false a)) rfl) nofun rfl) (kO (B.box (ts:=(Qg false b)) (tv (T.agg (Qg false b)) rfl) nofun rfl) (fO (OF.assign (VEv.bool false)) (nt (sq (sr (lf (tI a.Sense) rfl QdG rfl rfl QU (lf (tI b.Sense) rfl QdG rfl rfl QU (fO (xne (tv (tI a.Sense) rfl) (tv (tI b.Sense) rfl)) (nt ?_))))))))))
 refine cn (a.Sense=b.Sense) rfl (fun fhc0=> ?_) fun fhc0=> ?_
 ·refine sr ?_
  refine fO (OF.assign (VEv.bool false)) (nt (rt (tr (vb (b':=false) rfl ?_))))
  obtain ⟨a0,a1⟩:=a
  obtain ⟨b0,b1⟩:=b
  simp_all
 refine sk (tn (sq (sr (lf (rd 4 Qj a.Play) rfl QdF rfl rfl QkD (lf (rd 4 Qj b.Play) rfl QdF rfl rfl QkD (cO (cS (vc (tv (rd 4 Qj a.Play) rfl) (vc (tv (rd 4 Qj b.Play) rfl) vn)) (ZJ rfl) (QeO (n+0) a.Play b.Play (by omega) (by omega)) rfl rfl) (fO (QW (tv (tB (decide (a.Play=b.Play))) rfl)) (nt ?_))))))))
 refine cn (a.Play=b.Play) rfl (fun fhc1=> ?_) fun fhc1=> ?_
 ·refine sr ?_
  refine fO (OF.assign (VEv.bool false)) (nt (rt (tr (vb (b':=false) rfl ?_))))
  obtain ⟨a0,a1⟩:=a
  obtain ⟨b0,b1⟩:=b
  simp_all
 refine sk (tn (sr (fO (OF.assign (VEv.bool true)) (nt (rt (vb (b':=true) rfl ?_))))))
 obtain ⟨a0,a1⟩:=a
 obtain ⟨b0,b1⟩:=b
 simp_all
theorem Qe8 (n:Nat) (a:List D.Clue) (b:List D.Clue) (ha:zL QQ a≤mx) (hb:zL QQ b≤mx):Pure (Qq Tryz.prog (n+4)) 69 [(rd 2 Qg a),(rd 2 Qg b)] (tB (decide (a=b))):=by
 refine Pure.intro (rs:= [ResultVar.tmp 4]) Tryz.func69 rfl rfl rfl (E0:= [(0,(rd 2 Qg a)),(1,(rd 2 Qg b))]) rfl ?_
 obtain ⟨hlim,hmx,hmax⟩:=QC
 have hla:=QV (z:=QQ) a
 have hlb:=QV (z:=QQ) b
 refine sr (fO (OF.assign (VEv.bool false)) (nt (sq (sr (mO (rd 2 Qg a) rfl (lO (B.lenR (m:=a.length) (tv (rd 2 Qg a) rfl) U35 (List.length_map ..)) (mO (rd 2 Qg b) rfl (lO (B.lenR (m:=b.length) (tv (rd 2 Qg b) rfl) U35 (List.length_map ..)) (fO (Qia (tv (tN a.length) rfl) (tv (tN b.length) rfl)) (nt ?_))))))))))
 refine cn (a.length=b.length) rfl (fun fhc0=> ?_) fun fhc0=> ?_
 ·refine sr ?_
  refine fO (OF.assign (VEv.bool false)) (nt (rt (tr (vb (b':=false) rfl ?_))))
  symm;rw [decide_eq_false_iff_not];rintro rfl;exact fhc0 rfl
 refine sk (tn (sq (sr (fO (OF.assign (VEv.int .i64 0)) (nt (VRun.block ?_))))))
 refine VRun.loop (A:=Nat) (fun s_=> [(0,(rd 2 Qg a)),(1,(rd 2 Qg b)),(5,(tN s_))]) (fun s_=>Q3 []) 0 (fun s_=>s_≤a.length∧∀j,j<s_→a[j]? =b[j]?) (fun s_=>a.length - s_) (0:Nat) ?_ (Wk.mk (fun k=>k) ?_ ?_ ?_) ?_
 ·(simp;done)
 ·exact (b2 (b2 (b2 bn)))
 ·exact bn
 ·exact nd rfl
 rintro i (hI':i≤a.length∧∀j,j<i→a[j]? =b[j]?)
 show VRun _ _ _ [(0,(rd 2 Qg a)),(1,(rd 2 Qg b)),(5,(tN i))] (Q3 []) 0 _
 refine sq (sr (mO (tN i) rfl (mO (rd 2 Qg a) rfl (lO (B.lenR (m:=a.length) (tv (rd 2 Qg a) rfl) U35 (List.length_map ..)) (fO (Zf (tv (tN i) rfl) (tv (tN a.length) rfl)) (nt ?_))))))
 refine cd (i<a.length) rfl (fun fhc1=> ?_) fun fhc1=> ?_
 ·refine sk ?_
  refine tn (sq (VRun.block (sq (VRun.draw (B:= [[],[],[1,0],[0,1,2],[],[],[5,4],[4,5,6],[6,5,4,7,2,1,0,3],[3,0,1,2,7,4,5,6,8]]) (by kernel_rfl) (by kernel_rfl) (mD (rd 2 Qg a) rfl rfl (mD (tN i) rfl rfl ?_))))))
  obtain ⟨x1,hx1⟩:∃x,a[i]? =some x:=⟨_,List.getElem?_eq_getElem (by omega)⟩
  refine fD (OF.indexAddrR (row:=(Qg false x1)) (i:=i) (tv (rd 2 Qg a) rfl) (tv (tN i) rfl) rfl (Qv _ hx1) U35 Qbb QgJ) rfl rfl (lD (OL.loadRn (us:=(Qg false x1)) (tv (T.rp (Qg false x1)) rfl) QiD Qbb (lb rfl) rfl) rfl rfl (mD (rd 2 Qg b) rfl rfl (mD (tN i) rfl rfl ?_)))
  obtain ⟨x2,hx2⟩:∃x,b[i]? =some x:=⟨_,List.getElem?_eq_getElem (by omega)⟩
  refine fD (OF.indexAddrR (row:=(Qg false x2)) (i:=i) (tv (rd 2 Qg b) rfl) (tv (tN i) rfl) rfl (Qv _ hx2) U35 Qbb QgJ) rfl rfl (lD (OL.loadRn (us:=(Qg false x2)) (tv (T.rp (Qg false x2)) rfl) QiD Qbb (lb rfl) rfl) rfl rfl (VRunD.quiet (bi:= [6,5,4,7,2,1,0,3]) rfl VWant.always rfl rfl rfl bn (cS (vc (tv (T.agg (Qg false x1)) rfl) (vc (tv (T.agg (Qg false x2)) rfl) vn)) (LendL.cons (lg okeClue) (LendL.cons (lg okeClue) ln)) (QfB (n+0) x1 x2 (by exact Nat.le_trans (Qgb hx1) ha) (by exact Nat.le_trans (Qgb hx2) hb)) rfl rfl) (fD (QW (tv (tB (decide (x1=x2))) rfl)) rfl rfl (VRunD.nil (tn ?_)))))
  refine cn (x1=x2) rfl (fun fhc2=> ?_) fun fhc2=> ?_
  ·refine sr ?_
   refine fO (OF.assign (VEv.bool false)) (nt (rt (vinB.r (tr (tr (vinB.r (tr (vb (b':=false) rfl ?_))))))))
   symm;rw [decide_eq_false_iff_not];exact QbJ hx1 hx2 fhc2
  refine sk (vinB.n (tn (VRun.region (mO (tN i) rfl (fO (QB (tv (tN i) rfl) (VEv.int .i64 1) (by omega)) (aO (tN (i+1)) rfl (VRunO.nil (tn ?_))))))))
  refine ⟨(i+1:Nat),?_,?_,Wk.mk (fun k=>k) ?_ ?_ ?_⟩
  ·exact QaZ hI' hx1 hx2 fhc2
  ·omega
  ·exact (b2 (b2 (b2 bn)))
  ·exact bn
  ·exact nd rfl
 refine VRun.exit (vthn.e (vthn.e (vinB.e (tn (sr (fO (OF.assign (VEv.bool true)) (nt (rt (vb (b':=true) rfl ?_)))))))))
 symm;rw [decide_eq_true_eq];exact QbH hI' fhc0 fhc1
theorem Qei (n:Nat) (a:D.Puzzle) (b:D.Puzzle) (ha:QL a≤mx) (hb:QL b≤mx):Pure (Qq Tryz.prog (n+5)) 29 [(T.agg (Qp false a)),(T.agg (Qp false b))] (tB (decide (a=b))):=by
 refine Pure.intro (rs:= [ResultVar.tmp 4]) Tryz.func29 rfl rfl rfl (E0:= [(0,(T.agg (Qp false a))),(1,(T.agg (Qp false b)))]) rfl ?_
 obtain ⟨hlim,hmx,hmax⟩:=QC
 simp only [QL] at ha hb
 have hla_Clues:=QV (z:=QQ) a.Clues
 have hla_Seals:=QV (z:=zI) a.Seals
 have hlb_Clues:=QV (z:=QQ) b.Clues
 have hlb_Seals:=QV (z:=zI) b.Seals
 refine sr (kO (B.box (ts:=(Qp false a)) (tv (T.agg (Qp false a)) rfl) nofun rfl) (kO (B.box (ts:=(Qp false b)) (tv (T.agg (Qp false b)) rfl) nofun rfl) (fO (OF.assign (VEv.bool false)) (nt (sq (sr (fO (OF.fieldAddrO (tv (T.op 0 0) rfl) Y0) (lO (OL.loadOn (us:=(Qc false a.Grid)) (tv (T.op 0 0) rfl) rfl QX QT (lb rfl) rfl) (fO (OF.fieldAddrO (tv (T.op 1 0) rfl) Y0) (lO (OL.loadOn (us:=(Qc false b.Grid)) (tv (T.op 1 0) rfl) rfl QX QT (lb rfl) rfl) (cO (cS (vc (tv (T.agg (Qc false a.Grid)) rfl) (vc (tv (T.agg (Qc false b.Grid)) rfl) vn)) (LendL.cons (lg Qs) (LendL.cons (lg Qs) ln)) (Qfq (n+3) a.Grid b.Grid) rfl rfl) ?_)))))))))))
 refine fO (QW (tv (tB (decide (a.Grid=b.Grid))) rfl)) (nt ?_)
 refine cn (a.Grid=b.Grid) rfl (fun fhc0=> ?_) fun fhc0=> ?_
 ·refine sr ?_
  refine fO (OF.assign (VEv.bool false)) (nt (rt (tr (vb (b':=false) rfl ?_))))
  obtain ⟨a0,a1,a2,a3⟩:=a
  obtain ⟨b0,b1,b2,b3⟩:=b
  simp_all
 refine sk (tn (sq (sr (lf (rd 2 Qg a.Clues) rfl Y2 rfl rfl Qdq (lf (rd 2 Qg b.Clues) rfl Y2 rfl rfl Qdq (cO (cS (vc (tv (rd 2 Qg a.Clues) rfl) (vc (tv (rd 2 Qg b.Clues) rfl) vn)) (ZJ rfl) (Qe8 (n+0) a.Clues b.Clues (by first | assumption | omega) (by first | assumption | omega)) rfl rfl) (fO (QW (tv (tB (decide (a.Clues=b.Clues))) rfl)) (nt ?_))))))))
 refine cn (a.Clues=b.Clues) rfl (fun fhc1=> ?_) fun fhc1=> ?_
 ·refine sr ?_
  refine fO (OF.assign (VEv.bool false)) (nt (rt (tr (vb (b':=false) rfl ?_))))
  obtain ⟨a0,a1,a2,a3⟩:=a
  obtain ⟨b0,b1,b2,b3⟩:=b
  simp_all
 refine sk (tn (sq (sr (lf (rd 1 Qa a.Seals) rfl Qbj rfl rfl YY (lf (rd 1 Qa b.Seals) rfl Qbj rfl rfl YY (cO (cS (vc (tv (rd 1 Qa a.Seals) rfl) (vc (tv (rd 1 Qa b.Seals) rfl) vn)) (ZJ rfl) (Qb2 (n+3) a.Seals b.Seals (by first | assumption | omega) (by first | assumption | omega)) rfl rfl) (fO (QW (tv (tB (decide (a.Seals=b.Seals))) rfl)) (nt ?_))))))))
 refine cn (a.Seals=b.Seals) rfl (fun fhc2=> ?_) fun fhc2=> ?_
 ·refine sr ?_
  refine fO (OF.assign (VEv.bool false)) (nt (rt (tr (vb (b':=false) rfl ?_))))
  obtain ⟨a0,a1,a2,a3⟩:=a
  obtain ⟨b0,b1,b2,b3⟩:=b
  simp_all
 refine sk (tn (sq (sr (lf (tI a.Salt) rfl Qcq rfl rfl QU (lf (tI b.Salt) rfl Qcq rfl rfl QU (fO (xne (tv (tI a.Salt) rfl) (tv (tI b.Salt) rfl)) (nt ?_)))))))
 refine cn (a.Salt=b.Salt) rfl (fun fhc3=> ?_) fun fhc3=> ?_
 ·refine sr ?_
  refine fO (OF.assign (VEv.bool false)) (nt (rt (tr (vb (b':=false) rfl ?_))))
  obtain ⟨a0,a1,a2,a3⟩:=a
  obtain ⟨b0,b1,b2,b3⟩:=b
  simp_all
 refine sk (tn (sr (fO (OF.assign (VEv.bool true)) (nt (rt (vb (b':=true) rfl ?_))))))
 obtain ⟨a0,a1,a2,a3⟩:=a
 obtain ⟨b0,b1,b2,b3⟩:=b
 simp_all
theorem YA (n:Nat) (a:D.Session) (b:D.Session) (ha:QJ a≤mx) (hb:QJ b≤mx):Pure (Qq Tryz.prog (n+2)) 30 [(T.agg (Qe false a)),(T.agg (Qe false b))] (tB (decide (a=b))):=by
 refine Pure.intro (rs:= [ResultVar.tmp 4]) Tryz.func30 rfl rfl rfl (E0:= [(0,(T.agg (Qe false a))),(1,(T.agg (Qe false b)))]) rfl ?_
 obtain ⟨hlim,hmx,hmax⟩:=QC
 simp only [QJ] at ha hb
 have hla_Asked:=QV (z:=zI) a.Asked
 have hlb_Asked:=QV (z:=zI) b.Asked
 refine sr (kO (B.box (ts:=(Qe false a)) (tv (T.agg (Qe false a)) rfl) nofun rfl) (kO (B.box (ts:=(Qe false b)) (tv (T.agg (Qe false b)) rfl) nofun rfl) (fO (OF.assign (VEv.bool false)) (nt (sq (sr (lf (tS a.Fill) rfl Ju rfl rfl Z7 (lf (tS b.Fill) rfl Ju rfl rfl Z7 (fO (B.sneq (c:=(!(decide (a.Fill=b.Fill)))) (tv (tS a.Fill) rfl) (tv (tS b.Fill) rfl) rfl) (nt ?_))))))))))
 refine cn (a.Fill=b.Fill) rfl (fun fhc0=> ?_) fun fhc0=> ?_
 ·refine sr ?_
  refine fO (OF.assign (VEv.bool false)) (nt (rt (tr (vb (b':=false) rfl ?_))))
  obtain ⟨a0,a1,a2,a3,a4,a5⟩:=a
  obtain ⟨b0,b1,b2,b3,b4,b5⟩:=b
  simp_all
 refine sk (tn (sq (sr (lf (tI a.Checks) rfl J9 rfl rfl QU (lf (tI b.Checks) rfl J9 rfl rfl QU (fO (xne (tv (tI a.Checks) rfl) (tv (tI b.Checks) rfl)) (nt ?_)))))))
 refine cn (a.Checks=b.Checks) rfl (fun fhc1=> ?_) fun fhc1=> ?_
 ·refine sr ?_
  refine fO (OF.assign (VEv.bool false)) (nt (rt (tr (vb (b':=false) rfl ?_))))
  obtain ⟨a0,a1,a2,a3,a4,a5⟩:=a
  obtain ⟨b0,b1,b2,b3,b4,b5⟩:=b
  simp_all
 refine sk (tn (sq (sr (lf (tI a.Spent) rfl Qbf rfl rfl QU (lf (tI b.Spent) rfl Qbf rfl rfl QU (fO (xne (tv (tI a.Spent) rfl) (tv (tI b.Spent) rfl)) (nt ?_)))))))
 refine cn (a.Spent=b.Spent) rfl (fun fhc2=> ?_) fun fhc2=> ?_
 ·refine sr ?_
  refine fO (OF.assign (VEv.bool false)) (nt (rt (tr (vb (b':=false) rfl ?_))))
  obtain ⟨a0,a1,a2,a3,a4,a5⟩:=a
  obtain ⟨b0,b1,b2,b3,b4,b5⟩:=b
  simp_all
 refine sk (tn (sq (sr (lf (rd 1 Qa a.Asked) rfl Ym rfl rfl YY (lf (rd 1 Qa b.Asked) rfl Ym rfl rfl YY (cO (cS (vc (tv (rd 1 Qa a.Asked) rfl) (vc (tv (rd 1 Qa b.Asked) rfl) vn)) (ZJ rfl) (Qb2 (n+0) a.Asked b.Asked (by first | assumption | omega) (by first | assumption | omega)) rfl rfl) (fO (QW (tv (tB (decide (a.Asked=b.Asked))) rfl)) (nt ?_))))))))
 refine cn (a.Asked=b.Asked) rfl (fun fhc3=> ?_) fun fhc3=> ?_
 ·refine sr ?_
  refine fO (OF.assign (VEv.bool false)) (nt (rt (tr (vb (b':=false) rfl ?_))))
  obtain ⟨a0,a1,a2,a3,a4,a5⟩:=a
  obtain ⟨b0,b1,b2,b3,b4,b5⟩:=b
  simp_all
 refine sk (tn (sq (sr (lf (tI a.Start) rfl Qdc rfl rfl QU (lf (tI b.Start) rfl Qdc rfl rfl QU (fO (xne (tv (tI a.Start) rfl) (tv (tI b.Start) rfl)) (nt ?_)))))))
 refine cn (a.Start=b.Start) rfl (fun fhc4=> ?_) fun fhc4=> ?_
 ·refine sr ?_
  refine fO (OF.assign (VEv.bool false)) (nt (rt (tr (vb (b':=false) rfl ?_))))
  obtain ⟨a0,a1,a2,a3,a4,a5⟩:=a
  obtain ⟨b0,b1,b2,b3,b4,b5⟩:=b
  simp_all
 refine sk (tn (sq (sr (lf (tI a.Now) rfl Qch rfl rfl QU (lf (tI b.Now) rfl Qch rfl rfl QU (fO (xne (tv (tI a.Now) rfl) (tv (tI b.Now) rfl)) (nt ?_)))))))
 refine cn (a.Now=b.Now) rfl (fun fhc5=> ?_) fun fhc5=> ?_
 ·refine sr ?_
  refine fO (OF.assign (VEv.bool false)) (nt (rt (tr (vb (b':=false) rfl ?_))))
  obtain ⟨a0,a1,a2,a3,a4,a5⟩:=a
  obtain ⟨b0,b1,b2,b3,b4,b5⟩:=b
  simp_all
 refine sk (tn (sr (fO (OF.assign (VEv.bool true)) (nt (rt (vb (b':=true) rfl ?_))))))
 obtain ⟨a0,a1,a2,a3,a4,a5⟩:=a
 obtain ⟨b0,b1,b2,b3,b4,b5⟩:=b
 simp_all
end Go.Proofs.YtcccmceoplcciaaGreat.AE
namespace Go.Proofs.YtcccmceoplcciaaGreat.AE
open Go Go.RowKit
set_option linter.unusedVariables false
set_option linter.unusedSimpArgs false
set_option maxRecDepth 20000
set_option maxHeartbeats 2000000
noncomputable section
theorem QS {ok:Nat→Prop} {i n:Nat} (h:i≤n∧∀j,j<i→ok j) (hi:i<n) (hk:ok i):i+1≤n∧∀j,j<i+1→ok j:=by
 refine ⟨hi,fun j hj=> ?_⟩
 rcases Nat.lt_or_ge j i with h1 | h1
 ·exact h.2 j h1
 ·obtain rfl:j=i:=by omega
  exact hk
theorem Jc {ok:Nat→Prop} {i n:Nat} (h:i≤n∧∀j,j<i→ok j) (hi:¬i<n):∀j,j<n→ok j:=fun j hj=>h.2 j (by omega)
theorem QcT {α:Type} {l:List α} {i:Nat} {x y:α} (hx:l[i]? =some x) (hy:l[i]? =some y):y=x:=by
 rw [hx] at hy
 exact (Option.some.inj hy).symm
def Zl (s:ByteArray):Prop:=(1≤s.size∧s.size≤8)∧∀i,i<s.size→97≤Qu s i∧Qu s i≤122
instance (s:ByteArray):Decidable (Zl s):=Classical.propDecidable _
def ixF {α:Type} (p:α→Prop) [DecidablePred p]:List α→Int
 | []=> -1
 | x::r=>if p x then 0 else if ixF p r<0 then -1 else ixF p r+1
theorem Qdj {α:Type} {p:α→Prop} [DecidablePred p]:∀ {l:List α} {i:Nat} {x:α},l[i]? =some x→p x→(∀j y,j<i→l[j]? =some y→¬p y)→ixF p l=i
 | [],i,x,h,_,_=>by simp at h
 | y::r,0,x,h,hp,_=>by
  obtain rfl:y=x:=by simpa using h
  simp only [ixF,if_pos hp]
  rfl
 | y::r,i+1,x,h,hp,hn=>by
  have h1:=Qdj (l:=r) (i:=i) (by simpa using h) hp (fun j z hj hz=>hn (j+1) z (by omega) (by simpa using hz))
  have h2:¬p y:=hn 0 y (by omega) (by simp)
  simp only [ixF,if_neg h2,h1]
  rw [if_neg (by omega)]
  rfl
theorem QeB {α:Type} {p:α→Prop} [DecidablePred p]:∀ {l:List α},(∀j y,j<l.length→l[j]? =some y→¬p y)→ixF p l= -1
 | [],_=>rfl
 | y::r,hn=>by
  have h1:=QeB (l:=r) (fun j z hj hz=>hn (j+1) z (by simp;omega) (by simpa using hz))
  have h2:¬p y:=hn 0 y (by simp) (by simp)
  simp only [ixF,if_neg h2,h1]
  rfl
theorem Qih {α:Type} {p:α→Prop} [DecidablePred p]:∀ {l:List α},0≤ixF p l↔∃x∈l,p x
 | []=>by simp [ixF]
 | y::r=>by
  have h1:=Qih (p:=p) (l:=r)
  simp only [ixF,List.mem_cons,exists_eq_or_imp]
  by_cases hy:p y
  ·simp [hy]
  ·simp only [if_neg hy,hy,false_or]
   rw [← h1]
   by_cases h:ixF p r<0
   ·rw [if_pos h]
    exact ⟨fun h2=>absurd h2 (by decide),fun h2=>by omega⟩
   ·rw [if_neg h]
    exact ⟨fun h2=>by omega,fun h2=>by omega⟩
def NoneTo {α:Type} (p:α→Prop) (l:List α) (i:Nat):Prop:=i≤l.length∧∀j y,j<i→l[j]? =some y→¬p y
theorem NoneTo.start {α:Type} (p:α→Prop) (l:List α):NoneTo p l 0:=⟨Nat.zero_le _,fun j y hj=>by omega⟩
theorem NoneTo.next {α:Type} {p:α→Prop} {l:List α} {i:Nat} {x:α} (h:NoneTo p l i) (hx:l[i]? =some x) (hn:¬p x):NoneTo p l (i+1):=by
 have:=(List.getElem?_eq_some_iff.1 hx).1
 refine ⟨by omega,fun j y hj hy=> ?_⟩
 rcases Nat.lt_or_ge j i with h1 | h1
 ·exact h.2 j y h1 hy
 ·obtain rfl:j=i:=by omega
  rw [hx] at hy
  exact Option.some.inj hy▸hn
theorem NoneTo.all {α:Type} {p:α→Prop} {l:List α} {i:Nat} (h:NoneTo p l i) (hi:¬i<l.length):∀j y,j<l.length→l[j]? =some y→¬p y:=fun j y hj hy=>h.2 j y (by omega) hy
theorem NoneTo.mem {α:Type} {p:α→Prop} {l:List α} {i:Nat} (h:NoneTo p l i) (hi:¬i<l.length):∀y∈l,¬p y:=fun y hy=>by
 obtain ⟨j,hj⟩:=List.getElem?_of_mem hy
 exact h.all hi j y (List.getElem?_eq_some_iff.1 hj).1 hj
end
theorem QH (n:Nat) (a:Int) (b:Int) (c:Int):Pure (Qq Tryz.prog (n+1)) 56 [(tI a),(tI b),(tI c)] (tB (decide (b≤a∧a≤c))):=by
 refine Pure.intro (rs:= [ResultVar.tmp 6]) Tryz.func56 rfl rfl rfl (E0:= [(0,(tI a)),(1,(tI b)),(2,(tI c))]) rfl ?_
 obtain ⟨hlim,hmx,hmax⟩:=QC
 refine sr (fO (OF.assign (VEv.bool false)) (nt (sr (mO (tI a) rfl (mO (tI b) rfl (fO (xge (tv (tI a) rfl) (tv (tI b) rfl)) (mO (tB (decide (b≤a))) rfl ?_)))))))
 refine gw (b≤a) (fun fhg10_1=> ?_) fun fhg10_1=> ?_
 ·refine gF (dy fhg10_1) rfl rfl (OF.move (tv (tI a) rfl)) ?_
  refine gF (dy fhg10_1) rfl rfl (OF.move (tv (tI c) rfl)) (gF (dy fhg10_1) rfl rfl (xle (tv (tI a) rfl) (tv (tI c) rfl)) (fO (OF.pickT (VEv.tmpB rfl (dy fhg10_1)) (tv (tB (decide (a≤c))) rfl)) (aO (tB (decide (a≤c))) rfl (nt (rt (vb (b':=(decide (a≤c))) rfl ?_))))))
  exact Zb (by omega)
 refine Qy 3 3 true 10 (dz fhg10_1) rfl rfl rfl (fO (OF.pickF (VEv.tmpB rfl (dz fhg10_1)) (VEv.bool false)) (aO (tB false) rfl (nt (rt (vb (b':=false) rfl ?_)))))
 (symm;rw [decide_eq_false_iff_not];omega)
theorem Q4 (n:Nat) (a:Int) (b:Int) (c:Int):Pure (Qq Tryz.prog (n+1)) 64 [(tI a),(tI b),(tI c)] (tB (decide (b≤a∧a≤c))):=by
 refine Pure.intro (rs:= [ResultVar.tmp 6]) Tryz.func64 rfl rfl rfl (E0:= [(0,(tI a)),(1,(tI b)),(2,(tI c))]) rfl ?_
 obtain ⟨hlim,hmx,hmax⟩:=QC
 refine sr (fO (OF.assign (VEv.bool false)) (nt (sr (mO (tI b) rfl (mO (tI a) rfl (fO (xle (tv (tI b) rfl) (tv (tI a) rfl)) (mO (tB (decide (b≤a))) rfl ?_)))))))
 refine gw (b≤a) (fun fhg10_1=> ?_) fun fhg10_1=> ?_
 ·refine gF (dy fhg10_1) rfl rfl (OF.move (tv (tI a) rfl)) ?_
  refine gF (dy fhg10_1) rfl rfl (OF.move (tv (tI c) rfl)) (gF (dy fhg10_1) rfl rfl (xle (tv (tI a) rfl) (tv (tI c) rfl)) (fO (OF.pickT (VEv.tmpB rfl (dy fhg10_1)) (tv (tB (decide (a≤c))) rfl)) (aO (tB (decide (a≤c))) rfl (nt (rt (vb (b':=(decide (a≤c))) rfl ?_))))))
  exact Zb (by omega)
 refine Qy 3 3 true 10 (dz fhg10_1) rfl rfl rfl (fO (OF.pickF (VEv.tmpB rfl (dz fhg10_1)) (VEv.bool false)) (aO (tB false) rfl (nt (rt (vb (b':=false) rfl ?_)))))
 (symm;rw [decide_eq_false_iff_not];omega)
theorem Jv (n:Nat) (a:Int):Pure (Qq Tryz.prog (n+1)) 112 [(T.int .u8 a)] (tB (decide (97≤a∧a≤122))):=by
 refine Pure.intro (rs:= [ResultVar.tmp 2]) Tryz.func112 rfl rfl rfl (E0:= [(0,(T.int .u8 a))]) rfl ?_
 obtain ⟨hlim,hmx,hmax⟩:=QC
 refine sr (fO (OF.assign (VEv.bool false)) (nt (sr (mO (T.int .u8 a) rfl (fO (xge (tv (T.int .u8 a) rfl) (VEv.int .u8 97)) (mO (tB (decide (97≤a))) rfl ?_))))))
 refine gw (97≤a) (fun fhg5_1=> ?_) fun fhg5_1=> ?_
 ·refine gF (dy fhg5_1) rfl rfl (OF.move (tv (T.int .u8 a) rfl)) ?_
  refine gF (dy fhg5_1) rfl rfl (xle (tv (T.int .u8 a) rfl) (VEv.int .u8 122)) (fO (OF.pickT (VEv.tmpB rfl (dy fhg5_1)) (tv (tB (decide (a≤122))) rfl)) (aO (tB (decide (a≤122))) rfl (nt (rt (vb (b':=(decide (a≤122))) rfl ?_)))))
  exact Zb (by omega)
 refine Qy 2 2 true 5 (dz fhg5_1) rfl rfl rfl (fO (OF.pickF (VEv.tmpB rfl (dz fhg5_1)) (VEv.bool false)) (aO (tB false) rfl (nt (rt (vb (b':=false) rfl ?_)))))
 (symm;rw [decide_eq_false_iff_not];omega)
theorem YB (n:Nat) (a:Int) (b:Int):Pure (Qq Tryz.prog (n+1)) 81 [(tI a),(tI b)] (tB (decide (0≤a∧a<b))):=by
 refine Pure.intro (rs:= [ResultVar.tmp 4]) Tryz.func81 rfl rfl rfl (E0:= [(0,(tI a)),(1,(tI b))]) rfl ?_
 obtain ⟨hlim,hmx,hmax⟩:=QC
 refine sr (fO (OF.assign (VEv.bool false)) (nt (sr (mO (tI a) rfl (fO (xge (tv (tI a) rfl) (VEv.int .i64 0)) (mO (tB (decide (0≤a))) rfl ?_))))))
 refine gw (0≤a) (fun fhg7_1=> ?_) fun fhg7_1=> ?_
 ·refine gF (dy fhg7_1) rfl rfl (OF.move (tv (tI a) rfl)) ?_
  refine gF (dy fhg7_1) rfl rfl (OF.move (tv (tI b) rfl)) (gF (dy fhg7_1) rfl rfl (xls (tv (tI a) rfl) (tv (tI b) rfl)) (fO (OF.pickT (VEv.tmpB rfl (dy fhg7_1)) (tv (tB (decide (a<b))) rfl)) (aO (tB (decide (a<b))) rfl (nt (rt (vb (b':=(decide (a<b))) rfl ?_))))))
  exact Zb (by omega)
 refine Qy 3 2 true 7 (dz fhg7_1) rfl rfl rfl (fO (OF.pickF (VEv.tmpB rfl (dz fhg7_1)) (VEv.bool false)) (aO (tB false) rfl (nt (rt (vb (b':=false) rfl ?_)))))
 (symm;rw [decide_eq_false_iff_not];omega)
theorem Qau (n:Nat) (a:ByteArray) (ha:a.size≤maxLen):Pure (Qq Tryz.prog (n+2)) 146 [(tS a)] (tB (decide (Zl a))):=by
 refine Pure.intro (rs:= [ResultVar.tmp 2]) Tryz.func146 rfl rfl rfl (E0:= [(0,(tS a))]) rfl ?_
 obtain ⟨hlim,hmx,hmax⟩:=QC
 refine sr (fO (OF.assign (VEv.bool false)) (nt (sq (sr (mO (tS a) rfl (lO (B.lenS (tv (tS a) rfl) U9) (cO (cS (vc (tv (tN a.size) rfl) (vc (VEv.int .i64 1) (vc (VEv.int .i64 8) vn))) (ZJ rfl) (QH (n+0) ((a.size:Nat):Int) 1 8) rfl rfl) (fO (QW (tv (tB (decide (1≤((a.size:Nat):Int)∧((a.size:Nat):Int)≤8))) rfl)) (nt ?_)))))))))
 refine cn (1≤((a.size:Nat):Int)∧((a.size:Nat):Int)≤8) rfl (fun fhc0=> ?_) fun fhc0=> ?_
 ·refine sr ?_
  refine fO (OF.assign (VEv.bool false)) (nt (rt (tr (vb (b':=false) rfl ?_))))
  symm;rw [decide_eq_false_iff_not];rintro ⟨h1,_⟩;omega
 refine sk (tn (sq (sr (fO (OF.assign (VEv.int .i64 0)) (nt (VRun.block ?_))))))
 refine VRun.loop (A:=Nat) (fun s_=> [(0,(tS a)),(3,(tN s_))]) (fun s_=>Q3 []) 0 (fun s_=>s_≤a.size∧∀j,j<s_→97≤Qu a j∧Qu a j≤122) (fun s_=>a.size - s_) (0:Nat) ?_ (Wk.mk (fun k=>k) ?_ ?_ ?_) ?_
 ·exact ⟨Nat.zero_le _,fun j hj=>by omega⟩
 ·exact (b2 (b2 bn))
 ·exact bn
 ·exact nd rfl
 rintro i (hI':i≤a.size∧∀j,j<i→97≤Qu a j∧Qu a j≤122)
 show VRun _ _ _ [(0,(tS a)),(3,(tN i))] (Q3 []) 0 _
 refine sq (sr (mO (tN i) rfl (mO (tS a) rfl (lO (B.lenS (tv (tS a) rfl) U9) (fO (Zf (tv (tN i) rfl) (tv (tN a.size) rfl)) (nt ?_))))))
 refine cd (i<a.size) rfl (fun fhc1=> ?_) fun fhc1=> ?_
 ·refine sk ?_
  refine tn (sq (VRun.block (sr (mO (tS a) rfl (mO (tN i) rfl ?_)))))
  have hb1:i<a.size:=(by omega)
  refine fO (JN (tv (tS a) rfl) (tv (tN i) rfl) hb1 U9) (fO (xls (tv (T.int .u8 (Qu a i)) rfl) (VEv.int .u8 97)) (mO (tB (decide (Qu a i<97))) rfl ?_))
  refine gw (Qu a i<97) (fun fhg18_2=> ?_) fun fhg18_2=> ?_
  ·refine Qy 4 4 false 18 (dy fhg18_2) rfl rfl rfl ?_
   refine fO (OF.pickT (VEv.tmpB rfl (dy fhg18_2)) (VEv.bool true)) (nt (ct rfl (sr (fO (OF.assign (VEv.bool false)) (nt (rt (vinB.r (tr (tr (vinB.r (tr ?_)))))))))))
   refine vb (b':=false) rfl ?_
   symm;rw [decide_eq_false_iff_not];rintro ⟨_,h2⟩;have:=h2 i fhc1;omega
  refine gF (dz fhg18_2) rfl rfl (OF.move (tv (tS a) rfl)) (gF (dz fhg18_2) rfl rfl (OF.move (tv (tN i) rfl)) ?_)
  have hb3:i<a.size:=(by omega)
  refine gF (dz fhg18_2) rfl rfl (JN (tv (tS a) rfl) (tv (tN i) rfl) hb3 U9) (gF (dz fhg18_2) rfl rfl (xgt (tv (T.int .u8 (Qu a i)) rfl) (VEv.int .u8 122)) (fO (OF.pickF (VEv.tmpB rfl (dz fhg18_2)) (tv (tB (decide (122<Qu a i))) rfl)) (nt ?_)))
  refine cd (122<Qu a i) rfl (fun fhc2=> ?_) fun fhc2=> ?_
  ·refine sr ?_
   refine fO (OF.assign (VEv.bool false)) (nt (rt (vinB.r (tr (tr (vinB.r (tr (vb (b':=false) rfl ?_))))))))
   symm;rw [decide_eq_false_iff_not];rintro ⟨_,h2⟩;have:=h2 i fhc1;omega
  refine sk (vinB.n (tn (VRun.region (mO (tN i) rfl (fO (QB (tv (tN i) rfl) (VEv.int .i64 1) (by omega)) (aO (tN (i+1)) rfl (VRunO.nil (tn ?_))))))))
  refine ⟨(i+1:Nat),?_,?_,Wk.mk (fun k=>k) ?_ ?_ ?_⟩
  ·exact QS (ok:=fun j=>97≤Qu a j∧Qu a j≤122) hI' fhc1 (by omega)
  ·omega
  ·exact (b2 (b2 bn))
  ·exact bn
  ·exact nd rfl
 refine VRun.exit (vthn.e (vthn.e (vinB.e (tn (sr (fO (OF.assign (VEv.bool true)) (nt (rt (vb (b':=true) rfl ?_)))))))))
 symm;rw [decide_eq_true_eq];exact ⟨by omega,Jc hI' fhc1⟩
theorem QaA (n:Nat) (a:ByteArray) (ha:a.size≤maxLen):Pure (Qq Tryz.prog (n+2)) 150 [(tS a)] (tB (decide (Zl a))):=by
 refine Pure.intro (rs:= [ResultVar.tmp 2]) Tryz.func150 rfl rfl rfl (E0:= [(0,(tS a))]) rfl ?_
 obtain ⟨hlim,hmx,hmax⟩:=QC
 refine sr (fO (OF.assign (VEv.bool false)) (nt (sq (sr (mO (tS a) rfl (lO (B.lenS (tv (tS a) rfl) U9) (cO (cS (vc (tv (tN a.size) rfl) (vc (VEv.int .i64 1) (vc (VEv.int .i64 8) vn))) (ZJ rfl) (Q4 (n+0) ((a.size:Nat):Int) 1 8) rfl rfl) (fO (QW (tv (tB (decide (1≤((a.size:Nat):Int)∧((a.size:Nat):Int)≤8))) rfl)) (nt ?_)))))))))
 refine cn (1≤((a.size:Nat):Int)∧((a.size:Nat):Int)≤8) rfl (fun fhc0=> ?_) fun fhc0=> ?_
 ·refine sr ?_
  refine fO (OF.assign (VEv.bool false)) (nt (rt (tr (vb (b':=false) rfl ?_))))
  symm;rw [decide_eq_false_iff_not];rintro ⟨h1,_⟩;omega
 refine sk (tn (sq (sr (mO (tS a) rfl (lO (B.lenS (tv (tS a) rfl) U9) (fO (OF.move (VEv.int .i64 0)) (nt (VRun.block ?_))))))))
 refine VRun.loop (A:=Nat) (fun s_=> [(0,(tS a)),(9,(tN a.size)),(10,(tN s_))]) (fun s_=>Q3 []) 0 (fun s_=>s_≤a.size∧∀j,j<s_→97≤Qu a j∧Qu a j≤122) (fun s_=>a.size - s_) (0:Nat) ?_ (Wk.mk (fun k=>k) ?_ ?_ ?_) ?_
 ·exact ⟨Nat.zero_le _,fun j hj=>by omega⟩
 ·exact (b2 (b2 (b2 bn)))
 ·exact bn
 ·exact nd rfl
 rintro i (hI':i≤a.size∧∀j,j<i→97≤Qu a j∧Qu a j≤122)
 show VRun _ _ _ [(0,(tS a)),(9,(tN a.size)),(10,(tN i))] (Q3 []) 0 _
 refine sr (fO (Zf (tv (tN i) rfl) (tv (tN a.size) rfl)) (nt (sq ?_)))
 refine cd (i<a.size) rfl (fun fhc1=> ?_) fun fhc1=> ?_
 ·refine sk ?_
  refine tn (sq (VRun.block (sr (mO (tN i) rfl (aO (tN i) rfl (nt (sr (mO (tS a) rfl (mO (tN i) rfl ?_)))))))))
  have hb1:i<a.size:=(by omega)
  refine fO (JN (tv (tS a) rfl) (tv (tN i) rfl) hb1 U9) (cO (cS (vc (tv (T.int .u8 (Qu a i)) rfl) vn) (ZJ rfl) (Jv (n+0) (Qu a i)) rfl rfl) (fO (QW (tv (tB (decide (97≤(Qu a i)∧(Qu a i)≤122))) rfl)) (nt ?_)))
  refine cn (97≤(Qu a i)∧(Qu a i)≤122) rfl (fun fhc2=> ?_) fun fhc2=> ?_
  ·refine sr ?_
   refine fO (OF.assign (VEv.bool false)) (nt (rt (vinB.r (tr (tr (vinB.r (tr (vb (b':=false) rfl ?_))))))))
   symm;rw [decide_eq_false_iff_not];rintro ⟨_,h2⟩;have:=h2 i fhc1;omega
  refine sk (vinB.n (tn (VRun.region (fO (QB (tv (tN i) rfl) (VEv.int .i64 1) (by omega)) (mO (tN (i+1)) rfl (VRunO.nil (tn ?_)))))))
  refine ⟨(i+1:Nat),?_,?_,Wk.mk (fun k=>k) ?_ ?_ ?_⟩
  ·exact QS (ok:=fun j=>97≤Qu a j∧Qu a j≤122) hI' fhc1 (by omega)
  ·omega
  ·exact (b2 (b2 (b2 bn)))
  ·exact bn
  ·exact nd rfl
 refine VRun.exit (vthn.e (vthn.e (vinB.e (tn (sr (fO (OF.assign (VEv.bool true)) (nt (rt (vb (b':=true) rfl ?_)))))))))
 symm;rw [decide_eq_true_eq];exact ⟨by omega,Jc hI' fhc1⟩
end Go.Proofs.YtcccmceoplcciaaGreat.AE
