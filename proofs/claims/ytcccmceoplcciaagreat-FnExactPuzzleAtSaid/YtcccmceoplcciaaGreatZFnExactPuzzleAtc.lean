/- A part of what the row of FnExactPuzzleAt uses. Conditions: as each theorem states. -/
import Derived.Test.YtcccmceoplcciaaGreatZFnExactPuzzleAtb
import Derived.Test.YtcccmceoplcciaaGreatProg
import Derived.KernelRfl
namespace Go.Proofs.YtcccmceoplcciaaGreat.AE
open Go Go.RowKit
set_option linter.unusedVariables false
set_option linter.unusedSimpArgs false
def noW (t:Nat):Code→Bool
 | .region _ ops _=>ops.toList.all fun o=>o.dst !=some t
 | .seq a b=>noW t a && noW t b
 | .cond _ a b=>noW t a && noW t b
 | .block _ c=>noW t c
 | .loop c=>noW t c
 | .scope c=>noW t c
 | _=>true
theorem J2 {E:Nat→Value} {d:Option Tmp} {v:Value} {t:Nat} (h:d≠some t):ZW E d v t=E t:=by
 cases d with
 | none=>rfl
 | some d =>
  have:¬t=d:=fun e=>h (by rw [e])
  simp only [ZW,if_neg this]
section
variable {call : QR} {P : Program} {π t : Nat}
theorem QkV {ops:Array Oper} {i:Nat} {o:Oper} {s s':St} (hd:o.dst≠some t) (h:Qf8 call P π ops i o s=some s'):s'.E t=s.E t:=by
 unfold Qf8 at h
 split at h
 ·obtain ⟨r,h1,rfl⟩:=Option.map_eq_some_iff.1 h
  exact J2 hd
 ·obtain rfl:=Option.some.inj h
  exact J2 hd
theorem Qid {ops:Array Oper}:∀ {l:List Oper} {i:Nat} {s s':St},(∀o∈l,o.dst≠some t)→QbS call P π ops l i s=some s'→s'.E t=s.E t
 | [],i,s,s',_,h=>by
  obtain rfl:=Option.some.inj h
  rfl
 | o::r,i,s,s',hd,h=>by
  unfold QbS at h
  obtain ⟨s1,h1,h2⟩:=Option.bind_eq_some_iff.1 h
  rw [Qid (fun o ho=>hd o (by simp [ho])) h2,QkV (hd o (by simp)) h1]
theorem QkX {c:Nat} {ops:Array Oper} {B:List (List Nat)} {base:AH} {i:Nat} {o:Oper} {s s':DSt} (hd:o.dst≠some t) (h:QaW call P π c ops B base i o s=some s'):s'.E t=s.E t:=by
 unfold QaW at h
 split at h
 ·split at h
  ·obtain ⟨r,h1,rfl⟩:=Option.map_eq_some_iff.1 h
   exact J2 hd
  ·split at h
   ·split at h
    ·obtain rfl:=Option.some.inj h
     exact J2 hd
    ·cases h
   ·cases h
  ·split at h
   ·split at h
    ·obtain rfl:=Option.some.inj h
     exact J2 hd
    ·cases h
   ·cases h
 ·obtain rfl:=Option.some.inj h
  exact J2 hd
theorem Qis {c:Nat} {ops:Array Oper} {B:List (List Nat)} {base:AH}:∀ {l:List Oper} {i:Nat} {s s':DSt},(∀o∈l,o.dst≠some t)→Qf6 call P π c ops B base l i s=some s'→s'.E t=s.E t
 | [],i,s,s',_,h=>by
  unfold Qf6 at h
  obtain rfl:=Option.some.inj h
  rfl
 | o::r,i,s,s',hd,h=>by
  unfold Qf6 at h
  obtain ⟨s1,h1,h2⟩:=Option.bind_eq_some_iff.1 h
  rw [Qis (fun o ho=>hd o (by simp [ho])) h2,QkX (hd o (by simp)) h1]
theorem Qkq {ops:Array Oper} {s s':St} (hd:∀o∈ops.toList,o.dst≠some t) (h:QgZ call P π ops s=some s'):s'.E t=s.E t:=by
 unfold QgZ at h
 simp only at h
 split at h
 ·obtain ⟨d,h1,rfl⟩:=Option.map_eq_some_iff.1 h
  have h3:d.E t=s.E t:=Qis hd h1
  exact h3
 ·cases h
theorem Qmo {f:St→Option (AX×St)} (hf:∀s e s',f s=some (e,s')→s'.E t=s.E t) {s:St} {e:AX} {s':St} (h:LoopR f s e s'):s'.E t=s.E t:=by
 induction h with
 | stop h _=>exact hf _ _ _ h
 | more h _ ih=>rw [ih,hf _ _ _ h]
theorem Yq : ∀(co:Code) (s:St) (e:AX) (s':St),noW t co=true→Q7 call P π co s=some (e,s')→s'.E t=s.E t
 | .skip,s,e,s',_,h=>by simp only [Q7,Option.some.injEq,Prod.mk.injEq] at h;rw [← h.2]
 | .label _,s,e,s',_,h=>by simp only [Q7,Option.some.injEq,Prod.mk.injEq] at h;rw [← h.2]
 | .exit _,s,e,s',_,h=>by simp only [Q7,Option.some.injEq,Prod.mk.injEq] at h;rw [← h.2]
 | .ret,s,e,s',_,h=>by simp only [Q7,Option.some.injEq,Prod.mk.injEq] at h;rw [← h.2]
 | .region _ ops false,s,e,s',hn,h=>by
  simp only [Q7] at h
  obtain ⟨s1,h1,h2⟩:=Option.map_eq_some_iff.1 h
  simp only [Prod.mk.injEq] at h2
  obtain ⟨_,rfl⟩:=h2
  have h3:s1.E t=s.E t:=Qid (fun o ho e=>by
   have:=List.all_eq_true.1 hn o ho
   simp [e] at this) h1
  exact h3
 | .region _ ops true,s,e,s',hn,h=>by
  simp only [Q7] at h
  obtain ⟨s1,h1,h2⟩:=Option.map_eq_some_iff.1 h
  simp only [Prod.mk.injEq] at h2
  obtain ⟨_,rfl⟩:=h2
  exact Qkq (fun o ho e=>by
   have:=List.all_eq_true.1 hn o ho
   simp [e] at this) h1
 | .seq a b,s,e,s',hn,h=>by
  simp only [noW,Bool.and_eq_true] at hn
  simp only [Q7] at h
  cases hx:Q7 call P π a s with
  | none=>rw [hx] at h;cases h
  | some r =>
   obtain ⟨e1,s1⟩:=r
   rw [hx] at h
   have h1:=Yq a s e1 s1 hn.1 hx
   cases e1 with
   | normal=>exact (Yq b s1 e s' hn.2 h).trans h1
   | exit id =>
    simp only [Option.some.injEq,Prod.mk.injEq] at h
    rw [← h.2];exact h1
   | ret =>
    simp only [Option.some.injEq,Prod.mk.injEq] at h
    rw [← h.2];exact h1
 | .cond c a b,s,e,s',hn,h=>by
  simp only [noW,Bool.and_eq_true] at hn
  simp only [Q7] at h
  split at h
  ·exact Yq a s e s' hn.1 h
  ·exact Yq b s e s' hn.2 h
  ·cases h
 | .block id c,s,e,s',hn,h=>by
  simp only [Q7] at h
  cases hx:Q7 call P π c s with
  | none=>rw [hx] at h;cases h
  | some r =>
   obtain ⟨e1,s1⟩:=r
   rw [hx] at h
   have h1:=Yq c s e1 s1 hn hx
   cases e1 with
   | normal =>
    simp only [Option.some.injEq,Prod.mk.injEq] at h
    rw [← h.2];exact h1
   | exit id' =>
    simp only at h
    split at h<;>(simp only [Option.some.injEq,Prod.mk.injEq] at h;rw [← h.2];exact h1)
   | ret =>
    simp only [Option.some.injEq,Prod.mk.injEq] at h
    rw [← h.2];exact h1
 | .loop c,s,e,s',hn,h=>by
  simp only [Q7] at h
  exact Qmo (fun s e s' h=>Yq c s e s' hn h) (Qf1 h)
 | .scope c,s,e,s',hn,h=>Yq c s e s' hn (by simpa only [Q7] using h)
end
def sc : T→Bool
 | .bool _=>true
 | .int _ _=>true
 | .str _=>true
 | _=>false
def scR (rows:List (List T)):Prop:=∀r∈rows,∀t∈r,sc t=true
theorem Qde {t:T} (h:sc t=true):Clean t:=by
 cases t<;>first | exact .bool _ | exact .int _ _ | exact .str _ | (simp [sc] at h;done)
theorem SL.sc {hf h:AH}:∀ {ts:List T} {vs:List Value} {N:List Nat},SL hf h ts vs N→(∀t∈ts,AE.sc t=true)→N= []
 | _,_,_, .nil,_=>rfl
 | _,_,_, .cons (t:=t) hs hr,hc=>by
  rw [SL.sc hr (fun t ht=>hc t (by simp [ht]))]
  have h1:=hc t (by simp)
  cases hs with
  | fz hr=>rfl
  | _=>simp [AE.sc] at h1
theorem scR.flat {rows:List (List T)} (h:scR rows):∀t∈rows.flatten,sc t=true:=fun t ht=>by
 obtain ⟨r,hr,htr⟩:=List.mem_flatten.1 ht
 exact h r hr t htr
theorem S.slInv {hf h:AH} {sz:Nat} {rows:List (List T)} {v:Value} {N:List Nat} (hs:S hf h (.sl true sz rows) v N):(rows= []∧N= []∧(v= .slice none 0 0∨∃a o,v= .slice (some ⟨a,o,none⟩) 0 0))∨∃a cs M m,N=a::M∧v= .slice (some ⟨a,0,none⟩) rows.length m∧0<m∧h a=some (.cells sz cs)∧a % 2=1∧(∀r∈rows,r.length=sz)∧rows.length*sz≤cs.length∧SL hf h rows.flatten (cs.take (rows.length*sz)) M:=by
 cases hs with
 | fz hr=>cases hr
 | ow0=>exact .inl ⟨rfl,rfl, .inl Y⟩
 | owe sz a o=>exact .inl ⟨rfl,rfl, .inr ⟨a,o,rfl⟩⟩
 | ow sz rows m hm hk hodd hlen hfit hsl=>exact .inr ⟨_,_,_,m,rfl,rfl,hm,hk,hodd,hlen,hfit,hsl⟩
def rvV : Option Int→Value
 | some r=> .int .i64 r
 | none=> .tuple #[]
def rvT : Option Int→T
 | some r=> .int .i64 r
 | none=> .tup []
def rvR (rt:Tmp):Option Int→List ResultVar
 | some _=> [.tmp rt]
 | none=> []
theorem QoX (hf:AH) (rv:Option Int):R hf (rvT rv) (rvV rv):=by
 cases rv with
 | none=>exact .tup [] #[] rfl (fun i hi=>by simp at hi)
 | some r=>exact .int _ _
def Mut (call:QR) (f:FuncId) (sz:Nat) (rows:List (List T)) (us:List T) (r:Option Int) (rows':List (List T)):Prop:=∀(h:AH) (p:Nat) (hf:AH) (v0:Value) (N:List Nat) (vs:List Value),Fr p h→(∀b o,hf b=some o→h b=some o∧b∉N)→S (fun _=>none) h (.sl true sz rows) v0 N→N.Nodup→RL hf us vs →
 CallS call f (v0::vs) h p (fun v h'=>(∀b,h b≠none→b∉N→h' b=h b)∧v=rvV r∧S (fun _=>none) h' (.sl true sz rows') v0 N)
def vmut (rt:Tmp) (r:Option Int) (sz:Nat) (rows':List (List T)):AX→Q9→QF→Nat→Prop
 | .exit _,_,_,_=>False
 | _,E,O,_=>(∀n,r=some n→gE E rt= .int .i64 n)∧∃k,gE E 0= .os sz k 0 rows'.length∧gO O k=some (.rows sz rows')
theorem vmut.r {rt:Tmp} {r r0:Int} {sz k n:Nat} {rows rows':List (List T)} {E:Q9} {O:QF} {nx:Nat} (h1:gE E rt= .int .i64 r0) (h2:gE E 0= .os sz k 0 n) (h3:gO O k=some (.rows sz rows)) (e1:r0=r) (e2:rows=rows') (e3:n=rows.length):vmut rt (some r) sz rows' .ret E O nx:=by
 subst e1
 subst e2
 subst e3
 exact ⟨fun n hn=>(by cases hn;exact h1),k,h2,h3⟩
theorem vmut.v {rt:Tmp} {sz k n:Nat} {rows rows':List (List T)} {E:Q9} {O:QF} {nx:Nat} (h2:gE E 0= .os sz k 0 n) (h3:gO O k=some (.rows sz rows)) (e2:rows=rows') (e3:n=rows.length):vmut rt none sz rows' .normal E O nx:=by
 subst e2
 subst e3
 exact ⟨fun n hn=>(by cases hn),k,h2,h3⟩
theorem Mut.intro {P:Program} {f:FuncId} {fn:Func} {c:Code} {n sz:Nat} {rt:Tmp} {us:List T} {r:Option Int} {rows rows':List (List T)} (hf:P.funcs[f]? =some fn) (hb:fn.body=some c) (hc:ZT fn.ntmps c=true) (hrs:fn.results.toList=rvR rt r) (hn:noW 0 c=true) (hsc:scR rows) (hsc':scR rows') {E0:Q9} (hE:QeI 1 us=E0) (hr:VRun (Qs P n) P c ((0, .os sz 0 0 rows.length)::E0) [(0,some (.rows sz rows))] 1 (vmut rt r sz rows')) (hpr:QbT f=true:=by rfl):Mut (Qs P (n+1)) f sz rows us r rows':=by
 subst hE
 intro h p hfr v0 N vs hfp hfN hS hnd hvs
 classical
 let hb0:AH:=fun b=>if b∈N then none else h b
 have hb1:∀b,b∉N→hb0 b=h b:=fun b hb=>if_neg hb
 have hb2:∀b,b∈N→hb0 b=none:=fun b hb=>if_pos hb
 have hb3:∀b o,hb0 b=some o→b∉N∧h b=some o:=fun b o hb=>by
  by_cases hm:b∈N
  ·rw [hb2 b hm] at hb;cases hb
  ·exact ⟨hm,(hb1 b hm).symm.trans hb⟩
 have hs0:SR p ⟨hb0,fun b=>b∈N⟩ (fun _=>none) hb0 (fun _=>none) (QeI 1 us) [] 0 (fun t=>(v0::vs).getD t undef) h:=by
  refine ⟨fun t=> ?_,fun k o hk=>(by cases hk),fun a o ha=>⟨(hb3 a o ha).2,rfl⟩,fun a k ha=>(by cases ha),fun _ _=>rfl,fun t ht=> ?_⟩
  ·rw [QdF]
   split
   ·exact .any _
   ·cases t with
    | zero=>exact absurd (by omega) ‹¬ 0<1›
    | succ t =>
     rw [Nat.add_sub_cancel,List.getD_cons_succ]
     rcases Nat.lt_or_ge t us.length with h1 | h1
     ·exact .fz ((hvs.2 t h1).mono (fun b o hb=>by rw [hb1 b (hfN b o hb).2];exact (hfN b o hb).1))
     ·rw [List.getD_eq_getElem?_getD,List.getElem?_eq_none h1]
      exact .any _
  ·by_cases hm:t∈N
   ·exact .inr (.inr hm)
   ·exact .inl (by show hb0 t≠none;rw [hb1 t hm];exact ht)
 obtain ⟨σ,own,hs1,_,hv,_⟩:=S.adopt hS hs0 hnd (fun a ha=>⟨.inr ha,hb2 a ha,hS.names a ha,hb2 a ha,rfl⟩)
 have hs2:=hs1.put hv (some 0)
 have hEa:ZW (fun t=>(v0::vs).getD t undef) (some 0) v0=fun t=>(v0::vs).getD t undef:=by
  funext t
  cases t with
  | zero=>rfl
  | succ t=>rfl
 rw [hEa] at hs2
 unfold VRun at hr
 have hrun:=hr p _ σ _ own _ h 0 hs2
 have hrun2:Run (Qs P n) P p c ⟨fun t=>(v0::vs).getD t undef,h,0⟩ (fun e s=>KK p ⟨hb0,fun b=>b∈N⟩ (vmut rt r sz rows' e) s.E s.h∧s.E 0=v0):=by
  unfold Run at hrun ⊢
  intro hfc
  obtain ⟨e,s',h1,h2,h3⟩:=hrun hfc
  exact ⟨e,s',h1,h2,h3,Yq _ _ _ _ hn h1⟩
 refine CallS.intro (hpr:=hpr) (rs:=rvR rt r) hf hb hc hfp hrs (Run.mono hrun2 ?_)
 rintro e s' ⟨⟨σ',hf',own',E,O,nx,h1,h2⟩,h0⟩
 have key:((∀n,r=some n→gE E rt= .int .i64 n)∧∃k,gE E 0= .os sz k 0 rows'.length∧gO O k=some (.rows sz rows'))→∃l,J7 P s'.h s'.E (rvR rt r)=some l∧(fun v h'=>(∀b,h b≠none→b∉N→h' b=h b)∧v=rvV r∧S (fun _=>none) h' (.sl true sz rows') v0 N) (Y8 l) (if Zg (Y8 l) then YW h s'.h else Qbz p h s'.h):=by
  rintro ⟨g1,k,g2,g3⟩
  have hl:∃l,J7 P s'.h s'.E (rvR rt r)=some l∧Y8 l=rvV r:=by
   cases r with
   | none=>exact ⟨[],rfl,rfl⟩
   | some r =>
    have e1:=h1.env rt
    rw [g1 r Y] at e1
    exact ⟨[.int .i64 r],Qil (congrArg some e1.intInv) Y,rfl⟩
  obtain ⟨l,hl1,hl2⟩:=hl
  refine ⟨l,hl1,?_⟩
  have ht:Zg (Y8 l)=true:=by rw [hl2];cases r<;>simp [rvV,Zg,closedV,closed1]
  rw [if_pos ht,hl2]
  have hbd:∀b,h b≠none→YW h s'.h b=s'.h b:=fun b hb=>by
   unfold YW
   cases hh:h b with
   | none=>exact absurd hh hb
   | some o=>rfl
  refine ⟨fun b hb hbN=> ?_,rfl,?_⟩
  ·rw [hbd b hb]
   have e3:hf' b=hb0 b:=h1.base b (by show hb0 b≠none;rw [hb1 b hbN];exact hb)
   rw [hb1 b hbN] at e3
   obtain ⟨o,ho⟩:=Option.ne_none_iff_exists'.1 hb
   rw [ho] at e3
   rw [(h1.fro b o e3).1,ho]
  ·have e3:=h1.env 0
   rw [g2,h0] at e3
   obtain ⟨M,hM1,hM2,e4⟩:=h1.objAt g3
   obtain ⟨_,⟨a,m,e5,e6,e7⟩ | ⟨e6,_,e7,e8⟩⟩:=e3.osInv
   ·rw [e6] at e4
    rw [Nat.zero_mul] at e5
    cases e4 with
    | rows hh hodd hlen hfit hsl =>
     obtain rfl:=hsl.sc hsc'.flat
     rcases hS.slInv with ⟨_,_,e9 | ⟨_,_,e9⟩⟩ | ⟨a2,cs2,M2,m2,rfl,e9,e10,e11,e12,e13,e14,e15⟩
     ·rw [e5] at e9;exact absurd e9 (by simp)
     ·rw [e5] at e9
      simp only [Value.slice.injEq] at e9
      omega
     ·obtain rfl:=e15.sc hsc.flat
      rw [e5] at e9
      simp only [Value.slice.injEq,Option.some.injEq,Addr.mk.injEq] at e9
      obtain ⟨⟨rfl,_⟩,_⟩:=e9
      subst e5
      refine S.mono (fun _ _ e=>e) (S.clean (.ow sz rows' m e7 hh hodd hlen hfit hsl) (.sl _ _ fun r hr t ht=>Qde (hsc' r hr t ht))) (fun b hb=> ?_)
      obtain rfl:=List.mem_singleton.1 hb
      exact hbd _ (by rw [e11];simp)
   ·obtain rfl:=List.eq_nil_of_length_eq_zero e7
    rcases hS.slInv with ⟨_,rfl,_⟩ | ⟨a2,cs2,M2,m2,rfl,e9,e10,e11⟩
    ·rcases e8 with rfl | ⟨a,o,rfl⟩
     ·exact .ow0 sz
     ·exact .owe sz a o
    ·rcases e8 with e8 | ⟨a,o,e8⟩
     ·rw [e9] at e8;exact absurd e8 (by simp)
     ·rw [e9] at e8
      simp only [Value.slice.injEq] at e8
      omega
 cases e with
 | normal=>unfold fin;exact key h2
 | ret=>unfold fin;exact key h2
 | exit id=>exact h2.elim
section
variable {call : QR} {P : Program} {E : Q9} {O : QF} {d : Option Tmp} {ty : TypeId} {ps : String} {af : Array Edge} {g : Option (Nat × Bool)} {nx : Nat}
theorem OC.callMut {f:FuncId} {args:Array Operand} {tys:Array TypeId} {ts:List T} {sz k n:Nat} {r:Option Int} {rows rows':List (List T)} (hb:YA P f=true) (ha:VEvs E args.toList (.os sz k 0 n::ts)) (hk:gO O k=some (.rows sz rows)) (hn:n=rows.length) (hts:∀t∈ts,J9 t=true) (hsc:scR rows) (hsc':scR rows') (hp:Mut call f sz rows ts r rows') :
  OC call P E O nx ⟨d, .call ⟨.value (.func f),args,tys⟩,ty,ps,af,g⟩ (rvT r) ((k,some (.rows sz rows'))::O) nx [k]:=⟨Nat.le_refl _,fun q p h0 σ hf own Ea h hs hu hF=>by
 subst hn
 obtain ⟨vs,h1,h2⟩:=ha σ hf nx Ea hs.env
 obtain ⟨v0,l,rfl,h3,h4⟩:=h2.tail
 obtain ⟨N,hN1,hN2,h5⟩:=hs.objAt hk
 have hS:∃N',S (fun _=>none) h (.sl true sz rows) v0 N'∧N'.Nodup∧(∀a∈N',own a=some k)∧((∃a M m,N'=a::M∧σ k=some a∧v0= .slice (some ⟨a,0,none⟩) rows.length m∧0<m)∨(N'= []∧rows= []∧σ k=none∧(v0= .slice none 0 0∨∃a o,v0= .slice (some ⟨a,o,none⟩) 0 0))):=by
  obtain ⟨_,⟨a,m,e5,e6,e7⟩ | ⟨e6,_,e7,e8⟩⟩:=h3.osInv
  ·rw [e6] at h5
   rw [Nat.zero_mul] at e5
   cases h5 with
   | rows hh hodd hlen hfit hsl =>
    subst e5
    exact ⟨_,S.clean (.ow sz rows m e7 hh hodd hlen hfit hsl) (.sl _ _ fun r hr t ht=>Qde (hsc r hr t ht)),hN1,hN2, .inl ⟨_,_,m,rfl,e6,rfl,e7⟩⟩
  ·obtain rfl:=List.eq_nil_of_length_eq_zero e7
   refine ⟨[],?_,by simp,by simp, .inr ⟨rfl,rfl,e6,e8⟩⟩
   rcases e8 with rfl | ⟨a,o,rfl⟩
   ·exact .ow0 sz
   ·exact .owe sz a o
 obtain ⟨N',g1,g2,g3,g4⟩:=hS
 have h6:=hp h q hf v0 N' l hF (fun b o hb=>⟨(hs.fro b o hb).1,fun hm=>by have:=g3 b hm;rw [(hs.fro b o hb).2] at this;cases this⟩) g1 g2 (h4.pl hts)
 unfold CallS at h6
 obtain ⟨v,h',k1,k2,k3,rfl,k5⟩:=h6
 refine ⟨_,h',σ,own,by simp only [QJ,X.calls hb h1,k1],k2,fun _ _=>rfl,⟨hs.env,fun k' o hk'=> ?_,fun b o hb=> ?_,fun b k' hb=> ?_,hs.base,fun t ht=> ?_⟩, .fz (QoX _ _),fun b hb hnk=>k3 b hb (fun hm=>hnk k (by simp) (g3 b hm)),fun b k' e=> .inl e⟩
 ·simp only [gO] at hk'
  split at hk'
  ·rename_i e
   subst e
   obtain rfl:=Option.some.inj hk'
   refine ⟨(hs.obj _ _ hk).1,N',g2,g3,?_⟩
   rcases g4 with ⟨a,M,m,rfl,g5,g6,g7⟩ | ⟨rfl,rfl,g5,g6⟩
   ·rcases k5.slInv with ⟨_,e9,_⟩ | ⟨a2,cs2,M2,m2,e8,e9,e10,e11,e12,e13,e14,e15⟩
    ·cases e9
    ·cases e8
     rw [g5]
     exact .rows e11 e12 e13 e14 (e15.clean (fun t ht=>Qde (hsc'.flat t ht)))
   ·rcases k5.slInv with ⟨rfl,_,_⟩ | ⟨a2,cs2,M2,m2,e8,_⟩
    ·rw [g5]
     exact .none sz
    ·cases e8
  ·rename_i hne
   obtain ⟨m1,N2,m2,m3,m4⟩:=hs.obj k' o hk'
   refine ⟨m1,N2,m2,m3,m4.mono (fun _ _ e=>e) (Nat.le_refl _) (fun _ _=>rfl) (fun b hb=>k3 b (hs.mine b k' (m3 b hb)).2.2.1 (fun hm=> ?_))⟩
   have:=g3 b hm
   rw [m3 b hb] at this
   exact hne (Option.some.inj this)
 ·obtain ⟨m1,m2⟩:=hs.fro b o hb
  refine ⟨?_,m2⟩
  rw [k3 b (by rw [m1];simp) (fun hm=>by have:=g3 b hm;rw [m2] at this;cases this)]
  exact m1
 ·obtain ⟨m1,m2,m3,m4⟩:=hs.mine b k' hb
  refine ⟨m1,m2,?_,m4⟩
  by_cases hm:b∈N'
  ·exact k5.names b hm
  ·rw [k3 b m3 hm]
   exact m3
 ·rcases k2 t ht with e | e
  ·exact hs.dom t e
  ·exact .inr (hu t e)⟩
end
attribute [irreducible] vmut
theorem Yb {α:Type} {enc:Bool→α→List T} (he:∀x,(enc true x).all sc=true) (l:List α):scR (l.map (enc true)):=fun r hr t ht=>by
 obtain ⟨x,_,rfl⟩:=List.mem_map.1 hr
 exact List.all_eq_true.1 (he x) t ht
theorem SL.ints {hf h:AH} {k:IntKind}:∀ {l:List Int} {vs:List Value} {N:List Nat},SL hf h (l.map (T.int k)) vs N→vs=l.map (Value.int k)
 | [],_,_, .nil=>rfl
 | n::l,_,_, .cons hs hr=>by
  rw [SL.ints hr]
  cases hs with
  | fz hr=>cases hr;rfl
theorem QgR : ∀l:List Int,Qjr (l.map (Value.int .u8))=some l
 | []=>rfl
 | n::l=>by simp only [List.map_cons,Qjr,QgR l,Option.map_some]
theorem QcT : ∀l:List Int,(l.map (QW true)).flatten=l.map (T.int .u8)
 | []=>rfl
 | n::l=>by simp only [List.map_cons,List.flatten_cons,QcT l];rfl
theorem B.convBS {call:QR} {P:Program} {E:Q9} {O:QF} {d:Option Tmp} {ty st dt e:TypeId} {ps:String} {af:Array Edge} {g:Option (Nat×Bool)} {x:Operand} {k n:Nat} {l:List Int} (hx:VEv E x (.os 1 k 0 n)) (hk:gO O k=some (.rows 1 (l.map (QW true)))) (hn:n=l.length) (hu:P.underlying st=some (.slice e)) (he:P.underlying e=some (.int .u8)) (hd:P.underlying dt=some .string) :
  OL call P E O ⟨d, .convert st dt x,ty,ps,af,g⟩ (.str (YO l)):=fun q p h0 σ hf own nx Ea h hs=>by
 subst hn
 obtain ⟨v,h1,h2⟩:=hx σ hf nx Ea hs.env
 obtain ⟨N,hN1,hN2,h5⟩:=hs.objAt hk
 refine ⟨.string (YO l),X.convert h1 (h':=h) ?_, .fz (.str _)⟩
 obtain ⟨_,⟨a,m,rfl,e6,e7⟩ | ⟨e6,_,e7,e8⟩⟩:=h2.osInv
 ·rw [e6] at h5
  generalize hrr:l.map (QW true)=rws at h5
  cases h5 with
  | rows hh hodd hlen hfit hsl =>
   rename_i cs N
   subst hrr
   rw [QcT] at hsl
   have e10:=hsl.ints
   rw [List.length_map,Nat.mul_one] at e10 hfit
   simp only [Qdb,hu,he,hd]
   by_cases hz:l.length=0
   ·rw [if_pos hz]
    obtain rfl:=List.eq_nil_of_length_eq_zero hz
    rfl
   ·rw [if_neg hz]
    simp only [hh,Nat.zero_mul,Nat.zero_add,if_pos hfit,List.drop_zero,e10,QgR,Option.map_some]
 ·obtain rfl:=List.eq_nil_of_length_eq_zero e7
  rcases e8 with rfl | ⟨a,o,rfl⟩
  ·simp only [Qdb,hu,he,hd];rfl
  ·simp only [Qdb,hu,he,hd,if_true];rfl
def Z5 (s:ByteArray):List Int:=s.data.toList.map fun b=>(b.toNat:Int)
theorem Qca (s:ByteArray):(Z5 s).length=s.size:=by rw [Z5,List.length_map];exact Array.length_toList
theorem Qfv (s:ByteArray):Jx s=(Z5 s).map (Value.int .u8):=by
 simp [Jx,byteCells,Z5,Function.comp_def]
theorem QjM (hf h:AH) (k:IntKind):∀l:List Int,SL hf h (l.map (T.int k)) (l.map (Value.int k)) []
 | []=> .nil
 | n::l=> .cons (N:= []) (M:= []) (.fz (.int _ _)) (QjM hf h k l)
theorem B.convSB {call:QR} {P:Program} {E:Q9} {nx:Nat} {d:Option Tmp} {ty st dt e:TypeId} {ps:String} {af:Array Edge} {g:Option (Nat×Bool)} {x:Operand} {s:ByteArray} (hx:VEv E x (.str s)) (hu:P.underlying st=some .string) (hd:P.underlying dt=some (.slice e)) (he:P.underlying e=some (.int .u8)) :
  OM call P E nx ⟨d, .convert st dt x,ty,ps,af,g⟩ (.os 1 nx 0 ((Z5 s).map (QW true)).length) (.rows 1 ((Z5 s).map (QW true))):=fun q σ hf Ea hE=>by
 obtain ⟨v,h1,h2⟩:=hx σ hf nx Ea hE
 obtain rfl:=h2.strInv
 have hl:((Z5 s).map (QW true)).length=s.size:=by rw [List.length_map,Qca]
 refine ⟨.slice (some ⟨Qo q,0,none⟩) s.size 1, .cells 1 (Jx s),some (Qo q),[Qo q],fun h=>X.convert h1 ?_, .inl ⟨rfl,rfl⟩,?_,fun h=> ?_⟩
 ·simp only [Qdb,hu,hd,he]
 ·rw [hl]
  have:=V.os (σ:=fun k=>if k=nx then some (Qo q) else σ k) (hf:=hf) (nx:=nx+1) (a:=Qo q) 1 nx 0 s.size 1 (by omega) (by simp) (by omega)
  rw [Nat.zero_mul] at this
  exact this
 ·refine .rows (N:= []) (AH.upd_same _ _ _) (JT q) (fun r hr=> ?_) ?_ ?_
  ·obtain ⟨n,_,rfl⟩:=List.mem_map.1 hr
   rfl
  ·rw [Qfv,List.length_map,List.length_map];omega
  ·rw [QcT,Qfv,List.take_of_length_le (by rw [List.length_map,List.length_map];omega)]
   exact QjM _ _ _ _
section
variable {α : Type}
def YH (f:Nat→α) (w k n:Nat):List α:=(List.range n).map fun j=>f (k+w*j)
def Js (f:Nat→α) (w k:Nat) (a:List α) (i:Nat):List α:=YH f w k i++a.drop i
theorem Yl (f:Nat→α) (w k n:Nat):(YH f w k n).length=n:=by simp [YH]
theorem Qb8 {f:Nat→α} {w k:Nat} {a:List α} {i:Nat} (h:i≤a.length):(Js f w k a i).length=a.length:=by
 simp only [Js,List.length_append,Yl,List.length_drop]
 omega
theorem Qj0 {f:Nat→α} {w k:Nat} {a:List α} {i:Nat} (h:i≤a.length) (h2:¬i<a.length):Js f w k a i=YH f w k a.length:=by
 obtain rfl:i=a.length:=by omega
 simp [Js]
theorem QjZ {f:Nat→α} {w k:Nat} {a:List α} {i:Nat} (h:i<a.length):(Js f w k a i).set i (f (k+w*i))=Js f w k a (i+1):=by
 unfold Js
 rw [List.drop_eq_getElem_cons h,List.set_append_right _ _ (by rw [Yl];omega),Yl,Nat.sub_self,List.set_cons_zero]
 simp only [YH,List.range_succ,List.map_append,List.map_cons,List.map_nil,List.append_assoc,List.cons_append,List.nil_append]
theorem Qfh {f:Nat→α} {w k i:Nat} {a:List α} {x:α} (h:a=YH f w k a.length) (hx:a[i]? =some x):x=f (k+w*i):=by
 rw [h] at hx
 unfold YH at hx
 rw [List.getElem?_map] at hx
 obtain ⟨j,h1,rfl⟩:=Option.map_eq_some_iff.1 hx
 obtain ⟨h2,h3⟩:=List.getElem?_eq_some_iff.1 h1
 rw [List.getElem_range] at h3
 rw [h3]
theorem QbY {l:List α} {i:Nat} {v:α} (h:i<l.length):(l.set i v)[i]? =some v:=by simp [h]
end
def eM (l:List (Int×Int)):List (T×T):=l.map fun p=>(.int .i64 p.1, .int .i64 p.2)
def vM (l:List (Int×Int)):List (Value×Value):=l.map fun p=>(.int .i64 p.1, .int .i64 p.2)
def Qcs : List (Int×Int)→Int→Int→List (Int×Int)
 | [],n,v=> [(n,v)]
 | p::r,n,v=>if n=p.1 then (n,v)::r else p::Qcs r n v
theorem RL.ints {hf:AH}:∀ {l:List Int} {vs:List Value},RL hf (l.map (fun n=>T.int .i64 n)) vs→vs=l.map (fun n=>Value.int .i64 n)
 | [],vs,h=>List.eq_nil_of_length_eq_zero h.1.symm
 | n::l,[],h=>by cases h.1
 | n::l,v::vs,h=>by
  obtain ⟨h1,h2⟩:=RL.tail h
  cases h1
  rw [RL.ints h2]
  rfl
theorem Qnk {ev:List (Value×Value)} {l:List (Int×Int)} (h1:RL (fun _=>none) ((eM l).map (·.1)) (ev.map (·.1))) (h2:RL (fun _=>none) ((eM l).map (·.2)) (ev.map (·.2))):ev=vM l:=by
 have e1:(eM l).map (·.1)=(l.map (·.1)).map (fun n=>T.int .i64 n):=by simp [eM,Function.comp_def]
 have e2:(eM l).map (·.2)=(l.map (·.2)).map (fun n=>T.int .i64 n):=by simp [eM,Function.comp_def]
 rw [e1] at h1
 rw [e2] at h2
 have g1:=RL.ints h1
 have g2:=RL.ints h2
 clear h1 h2 e1 e2
 induction l generalizing ev with
 | nil=>simpa [vM] using g1
 | cons p l ih =>
  cases ev with
  | nil=>simp at g1
  | cons q ev =>
   simp only [List.map_cons,List.cons.injEq] at g1 g2
   rw [ih g1.2 g2.2]
   show q::vM l=(_,_)::vM l
   rw [← g1.1,← g2.1]
theorem QhK (hf:AH):∀l:List Int,RL hf (l.map (fun n=>T.int .i64 n)) (l.map (fun n=>Value.int .i64 n))
 | []=>RL.nil hf
 | n::l=>RL.cons (.int _ _) (QhK hf l)
theorem Qnb (l:List (Int×Int)):RL (fun _=>none) ((eM l).map (·.1)) ((vM l).map (·.1))∧RL (fun _=>none) ((eM l).map (·.2)) ((vM l).map (·.2)):=by
 constructor
 ·have:=QhK (fun _=>none) (l.map (·.1))
  simpa [eM,vM,Function.comp_def] using this
 ·have:=QhK (fun _=>none) (l.map (·.2))
  simpa [eM,vM,Function.comp_def] using this
theorem Qiw (n v:Int):∀l:List (Int×Int),(∃j w,Qbw .i64 n (vM l)=some (some (j,w))∧(vM l).set j (.int .i64 n, .int .i64 v)=vM (Qcs l n v))∨(Qbw .i64 n (vM l)=some none∧vM l++ [(.int .i64 n, .int .i64 v)]=vM (Qcs l n v))
 | []=> .inr ⟨rfl,rfl⟩
 | p::r=>by
  by_cases h:n=p.1
  ·refine .inl ⟨0, .int .i64 p.2,?_,?_⟩
   ·simp [vM,Qbw,h]
   ·simp [vM,Qcs,h]
  ·have hb:(n == p.1)=false:=by simp [h]
   rcases Qiw n v r with ⟨j,w,h1,h2⟩ | ⟨h1,h2⟩
   ·refine .inl ⟨j+1,w,?_,?_⟩
    ·show Qbw .i64 n ((.int .i64 p.1, .int .i64 p.2)::vM r)=_
     simp only [Qbw,if_true,hb,Bool.false_eq_true,if_false,h1]
     rfl
    ·simp only [Qcs,if_neg h]
     show (_::(vM r)).set (j+1) _=_::vM (Qcs r n v)
     rw [List.set_cons_succ,h2]
   ·refine .inr ⟨?_,?_⟩
    ·show Qbw .i64 n ((.int .i64 p.1, .int .i64 p.2)::vM r)=_
     simp only [Qbw,if_true,hb,Bool.false_eq_true,if_false,h1]
     rfl
    ·simp only [Qcs,if_neg h]
     show _::(vM r++_)=_::vM (Qcs r n v)
     rw [h2]
def QbJ : List (Int×Int)→Int→Int
 | [],_=>0
 | p::r,n=>if n=p.1 then p.2 else QbJ r n
theorem QiT (n v c:Int):∀l:List (Int×Int),QbJ (Qcs l n v) c=if c=n then v else QbJ l c
 | []=>by simp [Qcs,QbJ]
 | p::r=>by
  simp only [Qcs]
  by_cases h:n=p.1
  ·rw [if_pos h]
   simp only [QbJ]
   by_cases h2:c=n
   ·rw [if_pos h2,if_pos h2]
   ·rw [if_neg h2,if_neg h2,if_neg (fun e=>h2 (e.trans h.symm))]
  ·rw [if_neg h]
   simp only [QbJ,QiT n v c r]
   by_cases h2:c=n
   ·subst h2;simp [h]
   ·simp [h2]
theorem Qip (n:Int):∀l:List (Int×Int),∃o,Qbw .i64 n (vM l)=some o∧(o.map (·.2)).getD (.int .i64 0)= .int .i64 (QbJ l n)
 | []=>⟨none,rfl,rfl⟩
 | p::r=>by
  by_cases h:n=p.1
  ·exact ⟨some (0, .int .i64 p.2),by simp [vM,Qbw,h],by simp [QbJ,h]⟩
  ·have hb:(n == p.1)=false:=by simp [h]
   obtain ⟨o,h1,h2⟩:=Qip n r
   refine ⟨o.map fun x=>(x.1+1,x.2),?_,?_⟩
   ·show Qbw .i64 n ((.int .i64 p.1, .int .i64 p.2)::vM r)=_
    simp only [Qbw,if_true,hb,Bool.false_eq_true,if_false,h1]
    rfl
   ·simp only [QbJ,if_neg h,← h2]
    cases o<;>rfl
theorem V.omInv {σ:Nat→Option Nat} {hf:AH} {nx k:Nat} {v:Value} (h:V σ hf nx (.om k) v):∃a,v= .map (some a)∧σ k=some a∧k<nx:=by
 cases h with
 | fz hr=>cases hr
 | om k hk hs=>exact ⟨_,rfl,hs,hk⟩
section
variable {call : QR} {P : Program} {E : Q9} {O : QF} {d : Option Tmp} {ty tt kt et : TypeId} {ps : String} {af : Array Edge} {g : Option (Nat × Bool)} {x y z : Operand} {nx k : Nat} {l l' : List (Int × Int)}
theorem B.makeMap : OM call P E nx ⟨d, .makeMap tt none,ty,ps,af,g⟩ (.om nx) (.map (eM [])):=fun q σ hf Ea he =>
 ⟨.map (some (Qo q)), .map [],some (Qo q),[Qo q],fun h=>X.makeMap, .inl ⟨rfl,rfl⟩, .om nx (by omega) (by simp),fun h=> .map (AH.upd_same _ _ _) (JT _) (RL.nil _) (RL.nil _)⟩
theorem B.mapSet {n v:Int} {k0:IntKind} (hx:VEv E x (.om k)) (hy:VEv E y (.int .i64 n)) (hz:VEv E z (.int .i64 v)) (hk:gO O k=some (.map (eM l))) (hu:P.underlying tt=some (.map kt et)) (hkt:P.underlying kt=some (.int k0)) (hl:Qcs l n v=l'):OC call P E O nx ⟨d, .mapUpdate tt x y z,ty,ps,af,g⟩ .any ((k,some (.map (eM l')))::O) nx [k]:=⟨Nat.le_refl _,fun q p h0 σ hf own Ea h hs hu' hF=>by
 subst hl
 obtain ⟨v1,a1,a2⟩:=hx σ hf nx Ea hs.env
 obtain ⟨v2,a3,a4⟩:=hy σ hf nx Ea hs.env
 obtain ⟨v3,a5,a6⟩:=hz σ hf nx Ea hs.env
 obtain ⟨a,rfl,h3,h4⟩:=a2.omInv
 obtain rfl:=a4.intInv
 obtain rfl:=a6.intInv
 obtain ⟨N,hN1,hN2,h5⟩:=hs.objAt hk
 rw [h3] at h5
 cases h5 with
 | map hh hodd g1 g2 =>
  rename_i ev
  obtain rfl:=Qnk g1 g2
  have hown:own a=some k:=hN2 a (by simp)
  have hset:Qcg P tt h (.map (some a)) (.int .i64 n) (.int .i64 v)=some (h.upd a (some (.map (vM (Qcs l n v))))):=by
   simp only [Qcg,hu,hkt,hh]
   rcases Qiw n v l with ⟨j,w,e1,e2⟩ | ⟨e1,e2⟩
   ·simp only [e1,e2]
   ·simp only [e1,e2]
  refine ⟨undef,_,σ,own,X.mapUpdate a1 a3 a5 hset,Dom.old (by rw [hh];simp) _,fun _ _=>rfl,hs.upd h3 h4 hown (N:= [a]) (by simp) (by simpa using hown) (.map (AH.upd_same _ _ _) hodd (Qnb _).1 (Qnb _).2), .any _,fun b hb hnk=>AH.upd_ne _ (fun e=> ?_) _,fun b k' e=> .inl e⟩
  exact hnk k (by simp) (e▸hown)⟩
theorem B.mapGet {n:Int} {k0:IntKind} (hx:VEv E x (.om k)) (hy:VEv E y (.int .i64 n)) (hk:gO O k=some (.map (eM l))) (hu:P.underlying tt=some (.map kt et)) (hkt:P.underlying kt=some (.int k0)) (hz:Zk P et=some (.int .i64 0)):OL call P E O ⟨d, .lookup tt x y false,ty,ps,af,g⟩ (.int .i64 (QbJ l n)):=fun q p h0 σ hf own nx Ea h hs=>by
 obtain ⟨v1,a1,a2⟩:=hx σ hf nx Ea hs.env
 obtain ⟨v2,a3,a4⟩:=hy σ hf nx Ea hs.env
 obtain ⟨a,rfl,h3,h4⟩:=a2.omInv
 obtain rfl:=a4.intInv
 obtain ⟨N,hN1,hN2,h5⟩:=hs.objAt hk
 rw [h3] at h5
 cases h5 with
 | map hh hodd g1 g2 =>
  rename_i ev
  obtain rfl:=Qnk g1 g2
  obtain ⟨o,e1,e2⟩:=Qip n l
  refine ⟨_,X.lookup a1 a3 (w:= .int .i64 (QbJ l n)) ?_, .fz (.int _ _)⟩
  have hc:closedV (.int .i64 0)=true:=rfl
  simp only [QdC,hu,hkt,hh,hz,hc,e1,Option.map_some,e2,and_self,if_true]
end
theorem V.vpInv {σ:Nat→Option Nat} {hf:AH} {nx:Nat} {ts:List T} {v:Value} (h:V σ hf nx (.vp ts) v):∃a o es cs,v= .pointer (some ⟨a,o,none⟩)∧hf a=some (.cells es cs)∧o+ts.length≤cs.length∧∀i,i<ts.length→V σ hf nx (ts.getD i .any) (cs.getD (o+i) undef):=by
 cases h with
 | fz hr=>cases hr
 | vp ts o hk hfit h=>exact ⟨_,o,_,_,rfl,hk,hfit,h⟩
section
variable {call : QR} {P : Program} {E : Q9} {O : QF} {d : Option Tmp} {ty tt : TypeId} {ps : String} {af : Array Edge} {g : Option (Nat × Bool)} {x y z : Operand} {t : T} {nx : Nat}
theorem OL.loadV1 {ts:List T} (hx:VEv E x (.vp ts)) (ht:ts[0]? =some t) (hst:QB P tt=some false):OL call P E O ⟨d, .load tt x,ty,ps,af,g⟩ t:=fun q p h0 σ hf own nx Ea h hs=>by
 obtain ⟨v,h1,h2⟩:=hx σ hf nx Ea hs.env
 obtain ⟨a,o,es,cs,rfl,h3,h4,h5⟩:=h2.vpInv
 have hlt:0<ts.length:=(List.getElem?_eq_some_iff.1 ht).1
 have h6:=h5 0 hlt
 rw [Nat.add_zero,List.getD_eq_getElem?_getD,ht,List.getD_eq_getElem?_getD,List.getElem?_eq_getElem (show o<cs.length by omega)] at h6
 exact ⟨_,X.load h1 (J3 hst (hs.fro _ _ h3).1 (List.getElem?_eq_getElem (show o<cs.length by omega))),h6⟩
end
def Loan (call:QR) (f:FuncId) (sz:Nat) (rows:List (List T)) (ts:List T) (r:T) (rows':List (List T)):Prop:=∀(h:AH) (p:Nat) (hf:AH) (σ:Nat→Option Nat) (N:List Nat) (vs:List Value),Fr p h→(∀b o,hf b=some o→h b=some o∧b∉N)→N.Nodup→ObjR σ hf 1 h (.rows sz rows) (σ 0) N→VL σ hf 1 ts vs →
 CallS call f vs h p (fun v h'=>(∀b,h b≠none→b∉N→h' b=h b)∧V σ hf 1 r v∧ObjR σ hf 1 h' (.rows sz rows') (σ 0) N)
inductive Pin : T→Prop
 | os (sz n:Nat):Pin (.os sz 0 0 n)
 | vp (sz n:Nat):Pin (.vp [.os sz 0 0 n])
inductive LRes : T→Prop
 | none:LRes (.tup [])
 | int (k:IntKind) (n:Int):LRes (.int k n)
 | bool (b:Bool):LRes (.bool b)
 | os (sz n:Nat):LRes (.os sz 0 0 n)
def vloan (P:Program) (rs:List ResultVar) (j:Nat) (pin:T) (sz:Nat) (rows':List (List T)) (r:T):AX→Q9→QF→Nat→Prop
 | .exit _,_,_,_=>False
 | _,E,O,_=>∃k ts,VRes P E O rs ts∧Qen ts=ren (fun _=>k) r∧gE E j=ren (fun _=>k) pin∧gO O k=some (.rows sz rows')
theorem vloan.r {P:Program} {rs:List ResultVar} {j sz nx:Nat} {pin r:T} {rows rows':List (List T)} {E:Q9} {O:QF} {ts:List T} (k:Nat) (h:VRes P E O rs ts) (h1:Qen ts=ren (fun _=>k) r) (h2:gE E j=ren (fun _=>k) pin) (h3:gO O k=some (.rows sz rows)) (e:rows=rows'):vloan P rs j pin sz rows' r .ret E O nx:=⟨k,ts,h,h1,h2,e▸h3⟩
theorem vloan.n {P:Program} {rs:List ResultVar} {j sz nx:Nat} {pin r:T} {rows rows':List (List T)} {E:Q9} {O:QF} {ts:List T} (k:Nat) (h:VRes P E O rs ts) (h1:Qen ts=ren (fun _=>k) r) (h2:gE E j=ren (fun _=>k) pin) (h3:gO O k=some (.rows sz rows)) (e:rows=rows'):vloan P rs j pin sz rows' r .normal E O nx:=⟨k,ts,h,h1,h2,e▸h3⟩
theorem QlY {σ σ':Nat→Option Nat} {hf hf':AH} {nx nx' sz k n:Nat} {v:Value} (h:V σ hf nx (.os sz 0 0 n) v) (h':V σ' hf' nx' (.os sz k 0 n) v):σ' k=σ 0:=by
 obtain ⟨_,⟨a,m,e1,e2,e3⟩ | ⟨e1,_,e2,e3⟩⟩:=h.osInv
 ·obtain ⟨_,⟨a',m',f1,f2,f3⟩ | ⟨f1,_,f2,f3⟩⟩:=h'.osInv
  ·rw [e1] at f1
   simp only [Value.slice.injEq,Option.some.injEq,Addr.mk.injEq] at f1
   rw [e2,f2,f1.1.1]
  ·subst e1
   rcases f3 with f3 | ⟨b,o,f3⟩
   ·exact absurd f3 (by simp)
   ·simp only [Value.slice.injEq] at f3
    omega
 ·obtain ⟨_,⟨a',m',f1,f2,f3⟩ | ⟨f1,_,f2,f3⟩⟩:=h'.osInv
  ·subst f1
   rcases e3 with e3 | ⟨b,o,e3⟩
   ·exact absurd e3 (by simp)
   ·simp only [Value.slice.injEq] at e3
    omega
  ·rw [e1,f1]
theorem Pin.same {σ σ':Nat→Option Nat} {hf hf':AH} {nx nx' k:Nat} {pin:T} {v:Value} (hp:Pin pin) (hm:∀a o,hf a=some o→hf' a=some o) (h:V σ hf nx pin v) (h':V σ' hf' nx' (ren (fun _=>k) pin) v):σ' k=σ 0:=by
 cases hp with
 | os sz n=>exact QlY h h'
 | vp sz n =>
  obtain ⟨a,o,es,cs,rfl,e1,e2,e3⟩:=h.vpInv
  obtain ⟨a',o',es',cs',f0,f1,f2,f3⟩:=V.vpInv h'
  simp only [Value.pointer.injEq,Option.some.injEq,Addr.mk.injEq] at f0
  obtain ⟨rfl,rfl,_⟩:=f0
  rw [hm _ _ e1] at f1
  cases f1
  have g1:=e3 0 (by simp)
  have g2:=f3 0 (by simp [QaH])
  exact QlY g1 g2
theorem LRes.back {σ σ':Nat→Option Nat} {hf hf':AH} {nx nx' k:Nat} {r:T} {v:Value} (hr:LRes r) (h0:0<nx) (hσ:σ' k=σ 0) (h:V σ' hf' nx' (ren (fun _=>k) r) v):V σ hf nx r v:=by
 cases hr with
 | none =>
  obtain ⟨l,rfl,h1⟩:=V.tupL h
  obtain rfl:=List.eq_nil_of_length_eq_zero h1.1.symm
  exact .fz (.tup [] #[] rfl (fun i hi=>by simp at hi))
 | int k n=>obtain rfl:=V.intInv h;exact .fz (.int _ _)
 | bool b=>obtain rfl:=V.boolInv h;exact .fz (.bool _)
 | os sz n =>
  obtain ⟨_,⟨a,m,rfl,e2,e3⟩ | ⟨e1,e4,e2,e3⟩⟩:=V.osInv h
  ·exact .os sz 0 0 n m h0 (hσ.symm.trans e2) e3
  ·subst e2
   rcases e3 with rfl | ⟨a,o,rfl⟩
   ·exact .os0 sz 0 h0 (hσ.symm.trans e1)
   ·exact .ose sz 0 a o h0 (hσ.symm.trans e1)
theorem ObjR.one {σ:Nat→Option Nat} {hf h:AH} {nx sz:Nat} {rows:List (List T)} {oa:Option Nat} {N:List Nat} (h1:ObjR σ hf nx h (.rows sz rows) oa N) (hsc:scR rows):(oa=Option.none∧N= []∧rows= [])∨∃a,oa=some a∧N= [a]∧h a≠Option.none:=by
 cases h1 with
 | none sz=>exact .inl ⟨rfl,rfl,rfl⟩
 | rows hk hodd hlen hfit hs =>
  obtain rfl:=hs.sc hsc.flat
  exact .inr ⟨_,rfl,rfl,by rw [hk];simp⟩
theorem ObjR.scM {σ σ':Nat→Option Nat} {hf hf' h h':AH} {nx nx' sz:Nat} {rows:List (List T)} {oa:Option Nat} {N:List Nat} (h1:ObjR σ hf nx h (.rows sz rows) oa N) (hsc:scR rows) (hh:∀a∈N,h' a=h a):ObjR σ' hf' nx' h' (.rows sz rows) oa N:=by
 cases h1 with
 | none sz=>exact .none sz
 | rows hk hodd hlen hfit hs =>
  obtain rfl:=hs.sc hsc.flat
  exact .rows ((hh _ (by simp)).trans hk) hodd hlen hfit (SL.mono (fun _ _ e=>e) (SL.clean hs (fun t ht=>Qde (hsc.flat t ht))) (by simp))
theorem Loan.intro {P:Program} {f:FuncId} {fn:Func} {c:Code} {n sz j:Nat} {ts:List T} {r pin:T} {rows rows':List (List T)} {rs:List ResultVar} (hf:P.funcs[f]? =some fn) (hb:fn.body=some c) (hc:ZT fn.ntmps c=true) (hrs:fn.results.toList=rs) (hn:noW j c=true) (hj:ts[j]? =some pin) (hpin:Pin pin) (hr0:LRes r) (hsc:scR rows) (hsc':scR rows') {E0:Q9} (hE:QeI 0 ts=E0)
  (hr:VRun (Qs P n) P c E0 [(0,some (.rows sz rows))] 1 (vloan P rs j pin sz rows' r)) (hpr:QbT f=true:=by rfl):Loan (Qs P (n+1)) f sz rows ts r rows':=by
 subst hE
 intro h p hfz σ N vs hfp hfN hnd hO hvs
 classical
 let hb0:AH:=fun b=>if b∈N then none else h b
 have hb1:∀b,b∉N→hb0 b=h b:=fun b hb=>if_neg hb
 have hb2:∀b,b∈N→hb0 b=none:=fun b hb=>if_pos hb
 have hb3:∀b o,hb0 b=some o→b∉N∧h b=some o:=fun b o hb=>by
  by_cases hm:b∈N
  ·rw [hb2 b hm] at hb;cases hb
  ·exact ⟨hm,(hb1 b hm).symm.trans hb⟩
 have hsub:∀b o,hfz b=some o→hb0 b=some o:=fun b o hb=>(hb1 b (hfN b o hb).2).trans (hfN b o hb).1
 have hNn:∀a∈N,h a≠none:=fun a ha=>by
  rcases hO.one hsc with ⟨_,rfl,_⟩ | ⟨a',_,rfl,h3⟩
  ·cases ha
  ·obtain rfl:=List.mem_singleton.1 ha
   exact h3
 have hjl:j<ts.length:=(List.getElem?_eq_some_iff.1 hj).1
 have hs0:SR p ⟨hb0,fun b=>b∈N⟩ σ hb0 (fun b=>if b∈N then some 0 else none) (QeI 0 ts) [(0,some (.rows sz rows))] 1 (fun t=>vs.getD t undef) h:=by
  refine ⟨fun t=> ?_,fun k o hk=> ?_,fun a o ha=>⟨(hb3 a o ha).2,if_neg (hb3 a o ha).1⟩,fun a k ha=> ?_,fun _ _=>rfl,fun t ht=> ?_⟩
  ·rw [QdF,if_neg (by omega),Nat.sub_zero]
   rcases Nat.lt_or_ge t ts.length with h1 | h1
   ·exact (hvs.2 t h1).mono hsub (Nat.le_refl _) (fun _ _=>rfl)
   ·rw [List.getD_eq_getElem?_getD,List.getElem?_eq_none h1]
    exact .any _
  ·simp only [gO] at hk
   split at hk
   ·rename_i e
    subst e
    obtain rfl:=Option.some.inj hk
    exact ⟨by omega,N,hnd,fun a ha=>if_pos ha,hO.mono hsub (Nat.le_refl _) (fun _ _=>rfl) (fun _ _=>rfl)⟩
   ·cases hk
  ·split at ha
   ·rename_i hm
    obtain rfl:=Option.some.inj ha
    exact ⟨.inr hm,hb2 a hm,hNn a hm,by omega⟩
   ·cases ha
  ·by_cases hm:t∈N
   ·exact .inr (.inr hm)
   ·exact .inl (by show hb0 t≠none;rw [hb1 t hm];exact ht)
 unfold VRun at hr
 have hrun:=hr p _ σ _ _ _ h 0 hs0
 have hrun2:Run (Qs P n) P p c ⟨fun t=>vs.getD t undef,h,0⟩ (fun e s=>KK p ⟨hb0,fun b=>b∈N⟩ (vloan P rs j pin sz rows' r e) s.E s.h∧s.E j=vs.getD j undef):=by
  unfold Run at hrun ⊢
  intro hfc
  obtain ⟨e,s',h1,h2,h3⟩:=hrun hfc
  exact ⟨e,s',h1,h2,h3,Yq _ _ _ _ hn h1⟩
 refine CallS.intro (hpr:=hpr) (rs:=rs) hf hb hc hfp hrs (Run.mono hrun2 ?_)
 rintro e s' ⟨⟨σ',hf',own',E,O,nx,h1,h2⟩,h0⟩
 have key:(∃k ts,VRes P E O rs ts∧Qen ts=ren (fun _=>k) r∧gE E j=ren (fun _=>k) pin∧gO O k=some (.rows sz rows'))→∃l,J7 P s'.h s'.E rs=some l∧(fun v h'=>(∀b,h b≠none→b∉N→h' b=h b)∧V σ hfz 1 r v∧ObjR σ hfz 1 h' (.rows sz rows') (σ 0) N) (Y8 l) (if Zg (Y8 l) then YW h s'.h else Qbz p h s'.h):=by
  rintro ⟨k,us,g1,g2,g3,g4⟩
  obtain ⟨l,l1,l2⟩:=g1.run h1
  have g5:V σ' hf' nx (Qen us) (Y8 l):=by
   have hlen:=l2.1
   match us,l,l2,hlen with
   | [],[],g4,_=>exact g4.toTup
   | [t],[v],g4,_ =>
    obtain ⟨v',r',e,g6,_⟩:=g4.tail
    cases e
    exact g6
   | t::t'::us,v::v'::l,g4,_=>exact g4.toTup
   | [],_::_,_,hl=>cases hl
   | [_],[],_,hl=>cases hl
   | [_],_::_::_,_,hl=>cases hl
   | _::_::_,[],_,hl=>cases hl
   | _::_::_,[_],_,hl=>cases hl
  have hbase:∀a o,hb0 a=some o→hf' a=some o:=fun a o ha=>by
   have e3:hf' a=hb0 a:=h1.base a (by show hb0 a≠none;rw [ha];simp)
   rw [e3,ha]
  have hσ:σ' k=σ 0:=by
   have p1:=hvs.2 j hjl
   rw [List.getD_eq_getElem?_getD,hj] at p1
   have p2:=h1.env j
   rw [g3,h0] at p2
   exact hpin.same (fun a o ha=>hbase a o (hsub a o ha)) p1 p2
  have hold:∀b,h b≠none→(if Zg (Y8 l) then YW h s'.h else Qbz p h s'.h) b=s'.h b:=fun b hb=>by
   split
   ·unfold YW
    cases hh:h b with
    | none=>exact absurd hh hb
    | some o=>rfl
   ·exact Qe8 (.inl hb)
  refine ⟨l,l1,fun b hb hbN=> ?_,hr0.back (by omega) hσ (by rw [← g2];exact g5),?_⟩
  ·rw [hold b hb]
   obtain ⟨o,ho⟩:=Option.ne_none_iff_exists'.1 hb
   rw [(h1.fro b o (hbase b o ((hb1 b hbN).trans ho))).1,ho]
  ·obtain ⟨M,hM1,hM2,e4⟩:=h1.objAt g4
   rw [hσ] at e4
   have hMN:M=N:=by
    rcases hO.one hsc with ⟨q1,rfl,_⟩ | ⟨a,q1,rfl,_⟩
    ·rcases e4.one hsc' with ⟨_,rfl,_⟩ | ⟨a',q3,_,_⟩
     ·rfl
     ·rw [q1] at q3;cases q3
    ·rcases e4.one hsc' with ⟨q3,_,_⟩ | ⟨a',q3,rfl,_⟩
     ·rw [q1] at q3;cases q3
     ·rw [q1] at q3;rw [Option.some.inj q3]
   subst hMN
   exact e4.scM hsc' (fun a ha=>hold a (hNn a ha))
 cases e with
 | normal=>unfold fin;exact key h2
 | ret=>unfold fin;exact key h2
 | exit id=>exact h2.elim
section
variable {call : QR} {P : Program} {E : Q9} {O : QF} {d : Option Tmp} {ty : TypeId} {ps : String} {af : Array Edge} {g : Option (Nat × Bool)} {nx : Nat}
theorem LRes.fwd {σ σ':Nat→Option Nat} {hf hf':AH} {nx nx' k:Nat} {r:T} {v:Value} (hr:LRes r) (hk:k<nx') (hσ:σ' k=σ 0) (h:V σ hf nx r v):V σ' hf' nx' (ren (fun _=>k) r) v:=by
 cases hr with
 | none =>
  obtain ⟨l,rfl,h1⟩:=V.tupL h
  obtain rfl:=List.eq_nil_of_length_eq_zero h1.1.symm
  exact .fz (.tup [] #[] rfl (fun i hi=>by simp at hi))
 | int k n=>obtain rfl:=V.intInv h;exact .fz (.int _ _)
 | bool b=>obtain rfl:=V.boolInv h;exact .fz (.bool _)
 | os sz n =>
  obtain ⟨_,⟨a,m,rfl,e2,e3⟩ | ⟨e1,e4,e2,e3⟩⟩:=V.osInv h
  ·exact .os sz k 0 n m hk (hσ.trans e2) e3
  ·subst e2
   rcases e3 with rfl | ⟨a,o,rfl⟩
   ·exact .os0 sz k hk (hσ.trans e1)
   ·exact .ose sz k a o hk (hσ.trans e1)
theorem OC.loanX {f:FuncId} {o:Oper} {ts0 ts:List T} {sz k:Nat} {r:T} {rows rows':List (List T)} (ho:∀(q p:Nat) (h0:LB) (σ:Nat→Option Nat) (hf:AH) (own:Nat→Option Nat) (Ea:Nat→Value) (h:AH),SR p h0 σ hf own E O nx Ea h→∃vs,aop P q Ea h o=some (.enter f vs)∧VL σ hf nx ts0 vs) (hk:gO O k=some (.rows sz rows)) (hts:QaH (fun _=>k) ts=ts0) (htl:YC 1 ts=true) (hr0:LRes r) (hsc:scR rows) (hsc':scR rows') (hp:Loan call f sz rows ts r rows') :
  OC call P E O nx o (ren (fun _=>k) r) ((k,some (.rows sz rows'))::O) nx [k]:=⟨Nat.le_refl _,fun q p h0 σ hf own Ea h hs hu hF=>by
 subst hts
 obtain ⟨vs,h1,h2⟩:=ho q p h0 σ hf own Ea h hs
 obtain ⟨hkn,N,hN1,hN2,h5⟩:=hs.obj k _ hk
 have hl:VL (fun _=>σ k) hf 1 ts vs:=by
  refine ⟨by have:=h2.1;rw [ZA,List.length_map] at this;exact this,fun i hi=> ?_⟩
  have h6:=h2.2 i (by rw [ZA,List.length_map];exact hi)
  refine V.ren (σ':=fun _=>σ k) (nx':=1) (fun _ _=>rfl) h6 ?_ ?_
  ·rw [ZA]
   simp [List.getD_eq_getElem?_getD,hi]
  ·rw [YZ,List.all_eq_true] at htl
   refine htl _ ?_
   rw [List.getD_eq_getElem?_getD,List.getElem?_eq_getElem hi]
   exact List.getElem_mem hi
 have h6:=hp h q hf (fun _=>σ k) N vs hF (fun b o hb=>⟨(hs.fro b o hb).1,fun hm=>by have:=hN2 b hm;rw [(hs.fro b o hb).2] at this;cases this⟩) hN1 (h5.scM hsc (fun _ _=>rfl)) hl
 unfold CallS at h6
 obtain ⟨v,h',k1,k2,k3,k4,k5⟩:=h6
 refine ⟨v,h',σ,own,by simp only [QJ,h1,k1],k2,fun _ _=>rfl,⟨hs.env,fun k' o hk'=> ?_,fun b o hb=> ?_,fun b k' hb=> ?_,hs.base,fun t ht=> ?_⟩,hr0.fwd hkn Y k4,fun b hb hnk=>k3 b hb (fun hm=>hnk k (by simp) (hN2 b hm)),fun b k' e=> .inl e⟩
 ·simp only [gO] at hk'
  split at hk'
  ·rename_i e
   subst e
   obtain rfl:=Option.some.inj hk'
   exact ⟨hkn,N,hN1,hN2,k5.scM hsc' (fun _ _=>rfl)⟩
  ·rename_i hne
   obtain ⟨m1,N2,m2,m3,m4⟩:=hs.obj k' o hk'
   refine ⟨m1,N2,m2,m3,m4.mono (fun _ _ e=>e) (Nat.le_refl _) (fun _ _=>rfl) (fun b hb=>k3 b (hs.mine b k' (m3 b hb)).2.2.1 (fun hm=> ?_))⟩
   have:=hN2 b hm
   rw [m3 b hb] at this
   exact hne (Option.some.inj this)
 ·obtain ⟨m1,m2⟩:=hs.fro b o hb
  refine ⟨?_,m2⟩
  rw [k3 b (by rw [m1];simp) (fun hm=>by have:=hN2 b hm;rw [m2] at this;cases this)]
  exact m1
 ·obtain ⟨m1,m2,m3,m4⟩:=hs.mine b k' hb
  refine ⟨m1,m2,?_,m4⟩
  by_cases hm:b∈N
  ·rcases k5.one hsc' with ⟨_,rfl,_⟩ | ⟨a,_,rfl,h3⟩
   ·cases hm
   ·obtain rfl:=List.mem_singleton.1 hm
    exact h3
  ·rw [k3 b m3 hm]
   exact m3
 ·rcases k2 t ht with e | e
  ·exact hs.dom t e
  ·exact .inr (hu t e)⟩
theorem OC.callLoan {f:FuncId} {args:Array Operand} {tys:Array TypeId} {ts0 ts:List T} {sz k:Nat} {r r':T} {rows rows':List (List T)} (hb:YA P f=true) (ha:VEvs E args.toList ts0) (hk:gO O k=some (.rows sz rows)) (hts:QaH (fun _=>k) ts=ts0) (htl:YC 1 ts=true) (hr0:LRes r) (hrr:ren (fun _=>k) r=r') (hsc:scR rows) (hsc':scR rows') (hp:Loan call f sz rows ts r rows') :
  OC call P E O nx ⟨d, .call ⟨.value (.func f),args,tys⟩,ty,ps,af,g⟩ r' ((k,some (.rows sz rows'))::O) nx [k]:=hrr▸OC.loanX (fun q p h0 σ hf own Ea h hs=>by
 obtain ⟨vs,h1,h2⟩:=ha σ hf nx Ea hs.env
 exact ⟨vs,X.calls hb h1,h2⟩) hk hts htl hr0 hsc hsc' hp
theorem VL.app {σ:Nat→Option Nat} {hf:AH} {nx:Nat}:∀ {ts us:List T} {vs ws:List Value},VL σ hf nx ts vs→VL σ hf nx us ws→VL σ hf nx (ts++us) (vs++ws)
 | [],us,vs,ws,h,h2=>by
  obtain rfl:=List.eq_nil_of_length_eq_zero h.1.symm
  exact h2
 | t::ts,us,vs,ws,h,h2=>by
  obtain ⟨v,l,rfl,h3,h4⟩:=h.tail
  exact .cons h3 (VL.app h4 h2)
theorem OC.callvLoan {f:FuncId} {a:Tmp} {args:Array Operand} {tys:Array TypeId} {ts0 ts caps:List T} {sz k:Nat} {r r':T} {rows rows':List (List T)} (hf:gE E a= .fn f caps) (hb:YA P f=true) (ha:VEvs E args.toList ts0) (hk:gO O k=some (.rows sz rows)) (hts:QaH (fun _=>k) ts=ts0++caps) (htl:YC 1 ts=true) (hr0:LRes r) (hrr:ren (fun _=>k) r=r') (hsc:scR rows) (hsc':scR rows') (hp:Loan call f sz rows ts r rows') :
  OC call P E O nx ⟨d, .call ⟨.value (.tmp a),args,tys⟩,ty,ps,af,g⟩ r' ((k,some (.rows sz rows'))::O) nx [k]:=hrr▸OC.loanX (fun q p h0 σ hf' own Ea h hs=>by
 obtain ⟨vs,h1,h2⟩:=ha σ hf' nx Ea hs.env
 have h3:=hs.env a
 rw [hf] at h3
 obtain ⟨cs,h4,h5⟩:=h3.fnL
 exact ⟨vs++cs,by have:=X.callv (P:=P) (p:=q) (h:=h) (d:=d) (ty:=ty) (ps:=ps) (af:=af) (g:=g) (ts:=tys) h4 hb h1;simpa using this,h2.app h5⟩) hk hts htl hr0 hsc hsc' hp
end
def vtT (f:FuncId) (a b:T):Nat→T
 | 0=> .any
 | d+1=> .vp [.fn f [a,b,vtT f a b d]]
theorem Qck (g:Nat→Nat) (f:FuncId) (a b:T):∀d,ren g (vtT f a b d)=vtT f (ren g a) (ren g b) d
 | 0=>rfl
 | d+1=>by simp only [vtT,ren,QaH,Qck g f a b d]
theorem QdL {n:Nat} {f:FuncId} {a b:T} (ha:Jd n a=true) (hb:Jd n b=true):∀d,Jd n (vtT f a b d)=true
 | 0=>rfl
 | d+1=>by simp only [vtT,Jd,YC,ha,hb,QdL ha hb d,Bool.and_true]
theorem tl {n:Nat} {t:T} {ts:List T} (h:Jd n t=true) (hr:YC n ts=true):YC n (t::ts)=true:=by simp only [YC,h,hr,Bool.and_true]
theorem SR.hold {p nx k:Nat} {h0:LB} {hf h:AH} {σ own:Nat→Option Nat} {E:Q9} {O:QF} {Ea:Nat→Value} {us:List T} (hs:SR p h0 σ hf own E O nx Ea h) (hk:gO O k=some (.cells us)):∃hf' own' a es cs,SR p h0 σ hf' own' E ((k,none)::O) nx Ea h∧(∀a o,hf a=some o→hf' a=some o)∧σ k=some a∧hf' a=some (.cells es cs)∧VL σ hf nx us cs:=by
 classical
 obtain ⟨hkn,N,hN1,hN2,h3⟩:=hs.obj k _ hk
 cases hσ:σ k with
 | none=>rw [hσ] at h3;cases h3
 | some a =>
 rw [hσ] at h3
 cases h3 with
 | cells hh hodd hv =>
  rename_i es cs
  have howna:=hN2 a (by simp)
  have hmono:∀b o,hf b=some o→(fun b=>if own b=some k then h b else hf b) b=some o:=fun b o ho=>by
   have:=(hs.fro b o ho).2
   simp only [this]
   rw [if_neg (by simp)]
   exact ho
  refine ⟨fun b=>if own b=some k then h b else hf b,fun b=>if own b=some k then none else own b,a,es,cs,⟨fun t=>(hs.env t).mono hmono (Nat.le_refl _) (fun _ _=>rfl),fun k' o hk'=> ?_,fun b o ha=> ?_,fun b k' ha=> ?_,fun b ha=> ?_,hs.dom⟩,hmono,rfl,by simp only [howna,if_true];exact hh,hv⟩
  ·simp only [gO] at hk'
   split at hk'
   ·cases hk'
   ·rename_i hne
    obtain ⟨h1,M,h2,h4,h5⟩:=hs.obj k' o hk'
    refine ⟨h1,M,h2,fun b hb=> ?_,h5.mono hmono (Nat.le_refl _) (fun _ _=>rfl) (fun _ _=>rfl)⟩
    have:=h4 b hb
    simp only [this]
    rw [if_neg (fun e=>hne (Option.some.inj e))]
  ·split at ha
   ·rename_i e
    exact ⟨ha,by simp only [e,if_true]⟩
   ·rename_i e
    obtain ⟨h1,h2⟩:=hs.fro b o ha
    exact ⟨h1,by simp [h2]⟩
  ·split at ha
   ·cases ha
   ·exact hs.mine b k' ha
  ·have:own b≠some k:=fun e=>ha (hs.mine b k e).2.1
   simp only [if_neg this]
   exact hs.base b ha
theorem SR.told {p nx:Nat} {h0:LB} {hf h:AH} {σ own:Nat→Option Nat} {E E':Q9} {O:QF} {Ea:Nat→Value} (hs:SR p h0 σ hf own E O nx Ea h) (he:∀t,V σ hf nx (gE E' t) (Ea t)):SR p h0 σ hf own E' O nx Ea h:=⟨he,hs.obj,hs.fro,hs.mine,hs.base,hs.dom⟩
theorem V.opAt {σ:Nat→Option Nat} {hf:AH} {nx k o a:Nat} {v:Value} (h:V σ hf nx (.op k o) v) (hσ:σ k=some a):v= .pointer (some ⟨a,o,none⟩):=by
 obtain ⟨a',e1,e2,_⟩:=h.opInv
 rw [hσ] at e2
 rw [e1,Option.some.inj e2]
theorem Wk.recv {E:Q9} {O:QF} {nx d1 d2 d3 k1 k2 k3 sz k n:Nat} {us:List T} {f:FuncId} (dep:Nat) (e1:gE E d1= .op k1 0) (e2:gE E d2= .op k2 0) (e3:gE E d3= .op k3 0) (o1:gO O k1=some (.cells us)) (o2:gO O k2=some (.cells [.os sz k 0 n])) (o3:gO O k3=some (.cells [.fn f [.op k1 0, .op k2 0, .op k3 0]])) (h12:¬k2=k1) (h13:¬k3=k1) (h23:¬k3=k2) (hpl:∀t∈us,J9 t=true) :
  Wk E O nx ((d1, .rp us)::(d2, .vp [.os sz k 0 n])::(d3,vtT f (.rp us) (.vp [.os sz k 0 n]) dep)::E) ((k3,none)::(k2,none)::(k1,none)::O) nx:=fun p h0 σ hf own Ea h hs=>by
 obtain ⟨hf1,own1,a1,es1,cs1,s1,m1,g1,f1,v1⟩:=hs.hold o1
 obtain ⟨hf2,own2,a2,es2,cs2,s2,m2,g2,f2,v2⟩:=s1.hold (k:=k2) (us:= [.os sz k 0 n]) (by simp only [gO,if_neg h12];exact o2)
 obtain ⟨hf3,own3,a3,es3,cs3,s3,m3,g3,f3,v3⟩:=s2.hold (k:=k3) (us:= [.fn f [.op k1 0, .op k2 0, .op k3 0]]) (by simp only [gO,if_neg h13,if_neg h23];exact o3)
 have c1:V σ hf3 nx (.rp us) (.pointer (some ⟨a1,0,none⟩)):=by
  have r1:=(v1.mono (hf':=hf3) (σ':=σ) (nx':=nx) (fun a o e=>m3 _ _ (m2 _ _ (m1 _ _ e))) (Nat.le_refl _) (fun _ _=>rfl)).pl hpl
  exact .fz (.rp us 0 (m3 _ _ (m2 _ _ f1)) (by have:=r1.1;omega) (fun i hi=>by rw [Nat.zero_add];exact r1.2 i hi))
 have c2:V σ hf3 nx (.vp [.os sz k 0 n]) (.pointer (some ⟨a2,0,none⟩)):=by
  have r1:=v2.mono (hf':=hf3) (σ':=σ) (nx':=nx) (fun a o e=>m3 _ _ (m2 _ _ e)) (Nat.le_refl _) (fun _ _=>rfl)
  exact .vp _ 0 (m3 _ _ f2) (by have:=r1.1;omega) (fun i hi=>by rw [Nat.zero_add];exact r1.2 i hi)
 obtain ⟨w,l,hw,w1,w2⟩:=v3.tail
 obtain rfl:=List.eq_nil_of_length_eq_zero w2.1.symm
 subst hw
 obtain ⟨ws,rfl,w3⟩:=w1.fnL
 obtain ⟨x1,l1,rfl,y1,w3⟩:=w3.tail
 obtain ⟨x2,l2,rfl,y2,w3⟩:=w3.tail
 obtain ⟨x3,l3,rfl,y3,w3⟩:=w3.tail
 obtain rfl:=List.eq_nil_of_length_eq_zero w3.1.symm
 obtain rfl:=y1.opAt g1
 obtain rfl:=y2.opAt g2
 obtain rfl:=y3.opAt g3
 have c3:∀dep,V σ hf3 nx (vtT f (.rp us) (.vp [.os sz k 0 n]) dep) (.pointer (some ⟨a3,0,none⟩)):=by
  intro dep
  induction dep with
  | zero=>exact .any _
  | succ dep ih=>exact .vp _ 0 f3 (by simp) (fun i hi=>by
    obtain rfl:i=0:=by simpa using hi
    exact (VL.cons c1 (VL.cons c2 (VL.cons ih (VL.nil _ _ _)))).toFn f)
 refine ⟨σ,hf3,own3,s3.told fun t=> ?_⟩
 simp only [gE]
 split
 ·rename_i e;subst e
  have:=hs.env t
  rw [e1] at this
  rw [this.opAt g1];exact c1
 ·split
  ·rename_i e;subst e
   have:=hs.env t
   rw [e2] at this
   rw [this.opAt g2];exact c2
  ·split
   ·rename_i e;subst e
    have:=hs.env t
    rw [e3] at this
    rw [this.opAt g3];exact c3 dep
   ·exact s3.env t
section
variable {call : QR} {P : Program} {π c i : Nat} {ops : Array Oper}
theorem Qez : ∀(l1 l2:List Oper) (i:Nat) (s:St),QbS call P π ops (l1++l2) i s=(QbS call P π ops l1 i s).bind (QbS call P π ops l2 (i+l1.length))
 | [],l2,i,s=>by simp [QbS]
 | o::r,l2,i,s=>by
  rw [List.cons_append,QbS,QbS]
  cases hx:Qf8 call P π ops i o s with
  | none=>rfl
  | some s1 =>
   rw [Option.bind_some,Option.bind_some,Qez r l2,List.length_cons,show i+1+r.length=i+(r.length+1) by omega]
theorem RunO.app {l1 l2:List Oper} {E:Nat→Value} {h:AH} {K:(Nat→Value)→AH→Prop} (h1:RunO call P π ops c l1 i E h (fun E' h'=>RunO call P π ops c l2 (i+l1.length) E' h' K)):RunO call P π ops c (l1++l2) i E h K:=by
 unfold RunO at h1 ⊢
 intro hf
 obtain ⟨s1,e1,e2,e3,e4⟩:=h1 hf
 obtain ⟨s2,f1,f2,f3,f4⟩:=e4 e3
 refine ⟨s2,?_,f2,?_,f4⟩
 ·rw [Qez,e1,Option.bind_some,← f1]
  obtain ⟨E1,h1',c1⟩:=s1
  simp only at e2
  subst e2
  rfl
 ·rw [List.length_append,← Nat.add_assoc i]
  exact f3
end
def QnS (ds:List Nat) (E:Q9):Q9:=(ds.map fun e=>(e,T.any))++E
inductive JE (E:Q9) (ds:List Nat):Q9→Prop
 | nil:JE E ds E
 | cons {E1:Q9} {e:Nat} {t:T} (he:ds.contains e=true) (h:JE E ds E1):JE E ds ((e,t)::E1)
theorem jn {E:Q9} {ds:List Nat}:JE E ds E:= .nil
theorem js {E E1:Q9} {ds:List Nat} {e:Nat} {t:T} (he:ds.contains e=true) (h:JE E ds E1):JE E ds ((e,t)::E1):= .cons he h
theorem Qj4 (E:Q9) (t:Nat):∀ds:List Nat,gE (QnS ds E) t=if ds.contains t then .any else gE E t
 | []=>rfl
 | e::r=>by
  have ih:=Qj4 E t r
  unfold QnS at ih ⊢
  simp only [List.map_cons,List.cons_append,gE,ih,List.contains_cons]
  by_cases h:t=e
  ·simp [h]
  ·have:(t == e)=false:=by simp [h]
   simp [h]
theorem JE.off {E E1:Q9} {ds:List Nat} (h:JE E ds E1) {t:Nat} (ht:ds.contains t=false):gE E1 t=gE E t:=by
 induction h with
 | nil=>rfl
 | cons he _ ih =>
  rename_i e _ _
  have:¬t=e:=fun x=>by rw [x,he] at ht;cases ht
  simp only [gE,if_neg this,ih]
def JQ (E:Q9) (O:QF) (nx:Nat) (ds:List Nat) (d:Nat) (b:T) (E1:Q9) (O1:QF) (nx1:Nat):Prop:=O1=O∧nx1=nx∧∃E2,E1=(d,b)::E2∧JE E ds E2
theorem jq {E E2:Q9} {O:QF} {nx d:Nat} {ds:List Nat} {b v:T} (hv:v=b) (h:JE E ds E2):JQ E O nx ds d b ((d,v)::E2) O nx:=⟨rfl,rfl,E2,by rw [hv],h⟩
theorem VRunO.joinB {call:QR} {P:Program} {ops:Array Oper} {l:List Oper} {E:Q9} {O:QF} {nx:Nat} {K:Q9→QF→Nat→Prop} (m:Nat) (ds:List Nat) (d:Nat) (b:T) (h1:VRunO call P ops (l.take m) E O nx (JQ E O nx ds d b)) (h2:VRunO call P ops (l.drop m) ((d,b)::QnS ds E) O nx K):VRunO call P ops l E O nx K:=by
 unfold VRunO at h1 h2 ⊢
 intro p h0 σ hf own Ea h c i hs
 rw [← List.take_append_drop m l]
 refine RunO.app ?_
 have h3:=h1 p h0 σ hf own Ea h c i hs
 unfold RunO at h3 ⊢
 intro hfc
 obtain ⟨s',e1,e2,e3,σ',hf',own',E1,O1,nx1,e4,rfl,rfl,E2,rfl,e5⟩:=h3 hfc
 have h4:=h2 p h0 σ' hf' own' s'.E s'.h c (i+(l.take m).length) (e4.told fun t=> ?_)
 ·unfold RunO at h4
  exact ⟨s',e1,e2,e3,h4⟩
 have h6:=e4.env t
 simp only [gE] at h6 ⊢
 split
 ·rename_i e
  simpa only [e,if_true] using h6
 ·rename_i e
  rw [if_neg e] at h6
  rw [Qj4]
  split
  ·exact .any _
  ·rename_i hc
   rwa [e5.off (by simpa using hc)] at h6
section
variable {c v : Bool} {C Q : Prop} [Decidable C] [Decidable Q]
theorem jOT (hc:c=decide C) (h:c=true):true=decide (C∨Q):=by
 have:C:=of_decide_eq_true (hc▸h)
 simp [this]
theorem jOF (hc:c=decide C) (h:c=false) (hv:v=decide Q):v=decide (C∨Q):=by
 have:¬C:=of_decide_eq_false (hc▸h)
 simp [hv,this]
theorem dN : (!decide C)=decide (¬C):=by by_cases h:C<;>simp [h]
theorem dT (x:Bool):x=decide (x=true):=by cases x<;>rfl
end
section
variable {C Q R : Prop} {v : Bool}
theorem dy [Decidable C] (h:C):decide C=true:=decide_eq_true h
theorem dz [Decidable C] (h:¬C):decide C=false:=decide_eq_false h
theorem ny [Decidable C] (h:¬C):(!decide C)=true:=by simp [h]
theorem nz [Decidable C] (h:C):(!decide C)=false:=by simp [h]
theorem kAT [Decidable C] [Decidable Q] (h:C) (hv:v=decide Q):v=decide (C∧Q):=by simp [hv,h]
theorem kAF [Decidable C] [Decidable Q] (h:¬C):false=decide (C∧Q):=by simp [h]
theorem kOT [Decidable C] [Decidable Q] (h:C):true=decide (C∨Q):=by simp [h]
theorem kOF [Decidable C] [Decidable Q] (h:¬C) (hv:v=decide Q):v=decide (C∨Q):=by simp [hv,h]
theorem gw (C:Prop) (ht:C→R) (hf:¬C→R):R:=(Classical.em C).elim ht hf
theorem gn (C:Prop) (ht:¬C→R) (hf:C→R):R:=(Classical.em C).elim hf ht
theorem cd {call:QR} {P:Program} {E:Q9} {O:QF} {nx:Nat} {S:AX→Q9→QF→Nat→Prop} {x y:Code} {a:Tmp} (C:Prop) [Decidable C] (h:gE E a= .bool (decide C)) (ht:C→VRun call P x E O nx S) (hf:¬C→VRun call P y E O nx S):VRun call P (.cond (.tmp a) x y) E O nx S:=VRun.cond (VEv.tmp h) (fun e=>ht (of_decide_eq_true e)) (fun e=>hf (of_decide_eq_false e))
theorem cn {call:QR} {P:Program} {E:Q9} {O:QF} {nx:Nat} {S:AX→Q9→QF→Nat→Prop} {x y:Code} {a:Tmp} (C:Prop) [Decidable C] (h:gE E a= .bool (!decide C)) (ht:¬C→VRun call P x E O nx S) (hf:C→VRun call P y E O nx S):VRun call P (.cond (.tmp a) x y) E O nx S:=VRun.cond (VEv.tmp h) (fun e=>ht (by simpa using e)) (fun e=>hf (by simpa using e))
end
theorem lb {a b:Nat} (h:Nat.ble a b=true):a≤b:=Nat.le_of_ble_eq_true h
theorem bn {α:Type} {p:α→Prop}:∀x∈([]:List α),p x:=Zn
theorem bc {α:Type} {p:α→Prop} {a:α} {l:List α} (h:p a) (hr:∀x∈l,p x):∀x∈a::l,p x:=Qj h hr
theorem b2 {α:Type} {p:α→Prop} {a:α} {l:List α} (hr:∀x∈l,p x) (h:p a:=by exact ⟨rfl,rfl⟩):∀x∈a::l,p x:=Qj h hr
theorem b3 {α:Type} {p:α→Prop} {a:α} {l:List α} (hr:∀x∈l,p x) (h:p a:=by exact ⟨rfl,lb Y,rfl⟩):∀x∈a::l,p x:=Qj h hr
theorem QG : YG=1099511627776∧mx=1048576∧maxLen=9223372036854775807:=⟨rfl,rfl,rfl⟩
theorem QaA {α:Type} {l:List α} {i:Nat} (z:α) (h:i<l.length):l[i]? =some (l[i]?.getD z):=by rw [List.getElem?_eq_getElem h,Option.getD_some]
theorem SL.cut {hf h:AH}:∀ {ts:List T} {vs:List Value} {N:List Nat} (j:Nat) (hj:j<ts.length),SL hf h ts vs N→∃A B C,N=A++(B++C)∧S hf h (ts.getD j .any) (vs.getD j undef) B∧∀(h':AH) (t':T) (v':Value),(∀a∈A,h' a=h a)→(∀a∈C,h' a=h a)→S hf h' t' v' B→SL hf h' (ts.set j t') (vs.set j v') N
 | _,_,_,j,hj, .nil=>by simp at hj
 | _,_,_,0,hj, .cons (N:=N) (M:=M) hs hr=>⟨[],N,M,rfl,by simpa using hs,fun h' t' v' _ hC hS=> .cons hS (SL.mono (fun _ _ e=>e) hr hC)⟩
 | _,_,_,j+1,hj, .cons (N:=N) (M:=M) hs hr=>by
  obtain ⟨A,B,C,e,h1,h2⟩:=SL.cut j (by simpa using hj) hr
  refine ⟨N++A,B,C,by rw [e,List.append_assoc],by simpa using h1,fun h' t' v' hA hC hS=> ?_⟩
  exact .cons (S.mono (fun _ _ e=>e) hs (fun a ha=>hA a (by simp [ha]))) (h2 h' t' v' (fun a ha=>hA a (by simp [ha])) hC hS)
theorem Qkh {cs:List T} {o:Nat} {t:T} (h:o<cs.length):spl cs o [t]=cs.set o t:=by
 rw [spl,List.set_eq_take_append_cons_drop,if_pos h]
 simp
theorem Qi4 {cs:List Value} {o:Nat} {t:Value} (h:o<cs.length):AE.splice cs o [t]=cs.set o t:=by
 rw [AE.splice,List.set_eq_take_append_cons_drop,if_pos h]
 simp
theorem Qnx {u:T} (hu:sc u=true) {σ:Nat→Option Nat} {hf:AH} {nx:Nat} {v:Value} (hv:V σ hf nx u v):v.cells.toList= [v]∧v.oneCell'=true∧∀hf h,S hf h u v []:=by
 cases u<;>first | (simp [sc] at hu;done) | skip
 ·obtain rfl:=hv.boolInv;exact ⟨rfl,rfl,fun _ _=> .fz (.bool _)⟩
 ·obtain rfl:=hv.intInv;exact ⟨rfl,rfl,fun _ _=> .fz (.int _ _)⟩
 ·obtain rfl:=hv.strInv;exact ⟨rfl,rfl,fun _ _=> .fz (.str _)⟩
theorem S.scN {hf h:AH} {t:T} {v:Value} {N:List Nat} (hs:S hf h t v N) (ht:AE.sc t=true):N= []:=by
 cases hs with
 | fz hr=>rfl
 | _=>simp [AE.sc] at ht
section
variable {call : QR} {P : Program} {E : Q9} {O : QF} {d : Option Tmp} {ty tt : TypeId} {ps : String} {af : Array Edge} {g : Option (Nat × Bool)} {x y : Operand} {nx sz k i o : Nat} {rows rows' : List (List T)} {row : List T} {asg : List Nat}
theorem QjR {σ:Nat→Option Nat} {hf h:AH} {a:Nat} {cs:List Value} {N:List Nat} {t0:T} (hh:h a=some (.cells sz cs)) (hlen:∀r∈rows,r.length=sz) (hfit:rows.length*sz≤cs.length) (hsl:SL hf h rows.flatten (cs.take (rows.length*sz)) N) (hi:rows[i]? =some row) (ho:row[o]? =some t0) :
  i*sz+o<rows.length*sz∧∃v A B C,cs[i*sz+o]? =some v∧N=A++(B++C)∧S hf h t0 v B∧∀(h':AH) (t':T) (v':Value),(∀b∈A,h' b=h b)→(∀b∈C,h' b=h b)→S hf h' t' v' B→SL hf h' (rows.set i (row.set o t')).flatten ((cs.set (i*sz+o) v').take (rows.length*sz)) N:=by
 have hlt:i<rows.length:=(List.getElem?_eq_some_iff.1 hi).1
 have hrow:row.length=sz:=hlen row (List.mem_of_getElem? hi)
 have hol:=(List.getElem?_eq_some_iff.1 ho).1
 have ho':o<sz:=by rw [← hrow];exact hol
 have hf1:=Qcn (sz:=sz) hlt
 have hfl:=ZU hlen
 obtain ⟨A,B,C,e,h1,h2⟩:=hsl.cut (i*sz+o) (by omega)
 rw [Ym hlen hi ho',List.getD_eq_getElem?_getD,ho,Option.getD_some,List.getD_eq_getElem?_getD,List.getElem?_take,if_pos (by omega),List.getElem?_eq_getElem (by omega),Option.getD_some] at h1
 refine ⟨by omega,_,A,B,C,List.getElem?_eq_getElem (by omega),e,h1,fun h' t' v' hA hC hS=> ?_⟩
 have h3:=h2 h' t' v' hA hC hS
 rw [← Qkh (by omega),← QbM hlen hi (by simp only [List.length_cons,List.length_nil];omega),Qkh hol] at h3
 rw [List.take_set]
 exact h3
theorem B.storeN {t0 u:T} (hx:VEv E x (.orp sz k i o)) (hy:VEv E y u) (hu:sc u=true) (hk:gO O k=some (.rowsN sz rows asg)) (hi:rows[i]? =some row) (ho:row[o]? =some t0) (ht0:sc t0=true) (hif:(P.info? tt).isSome=true) (hn:P.cellsOf tt=1) (hr:rows.set i (row.set o u)=rows') :
  OC call P E O nx ⟨d, .store tt x y,ty,ps,af,g⟩ .any ((k,some (.rowsN sz rows' asg))::O) nx [k]:=⟨Nat.le_refl _,fun q p h0 σ hf own Ea h hs hq hF=>by
 subst hr
 obtain ⟨v,h1,h2⟩:=hx σ hf nx Ea hs.env
 obtain ⟨v',h3,h4⟩:=hy σ hf nx Ea hs.env
 obtain ⟨c1,c2,c3⟩:=Qnx hu h4
 obtain ⟨a,rfl,h5,h6⟩:=h2.orpInv
 obtain ⟨N,hN1,hN2,h7⟩:=hs.objAt hk
 rw [h5] at h7
 cases h7 with
 | rowsN hh hodd hlen hfit hsl =>
  rename_i cs
  obtain ⟨hlt,w,A,B,C,e1,e2,e3,e4⟩:=QjR (σ:=σ) hh hlen hfit hsl hi ho
  obtain rfl:=e3.scN ht0
  have hst:=Qci (P:=P) (t:=tt) (v:=v') (o:=i*sz+o) hodd hh hif hn c1 Y (by simp only [List.length_cons,List.length_nil];omega) (by simpa using c2)
  rw [Qi4 (by omega)] at hst
  have hown:own a=some k:=hN2 a (by simp)
  have haN:∀b,b∈asg→b≠a:=fun b hb e=>(List.nodup_cons.1 hN1).1 (e▸hb)
  have hupd:∀z:Yk,∀b∈asg,(h.upd a (some z)) b=h b:=fun z b hb=>AH.upd_ne _ (haN b hb) _
  have hobj:ObjR σ hf nx (h.upd a (some (.cells sz (cs.set (i*sz+o) v')))) (.rowsN sz (rows.set i (row.set o u)) asg) (some a) (a::asg):=by
   refine .rowsN (AH.upd_same _ _ _) hodd (fun r hr=> ?_) (by rw [List.length_set,List.length_set];exact hfit) ?_
   ·rcases List.mem_or_eq_of_mem_set hr with hm | rfl
    ·exact hlen r hm
    ·rw [List.length_set];exact hlen row (List.mem_of_getElem? hi)
   ·rw [List.length_set]
    exact e4 _ _ _ (fun b hb=>hupd _ b (by rw [e2];simp [hb])) (fun b hb=>hupd _ b (by rw [e2];simp [hb])) (c3 _ _)
  refine ⟨undef,_,σ,own,X.store h1 h3 hst,Dom.old (by rw [hh];simp) _,fun _ _=>rfl,hs.upd h5 h6 hown hN1 hN2 hobj, .any _,fun b hb hnk=>AH.upd_ne _ (fun e=> ?_) _,fun b k' e=> .inl e⟩
  exact hnk k (by simp) (e▸hown)⟩
theorem VRunO.nest {ops:Array Oper} {l:List Oper} {K:Q9→QF→Nat→Prop} {d1 d2 d3:Nat} {ty1 ty2 ty3:TypeId} {ps1 ps2 ps3:String} {af1 af2 af3:Array Edge} {f:FuncId} {tys:Array TypeId} {sz2:Nat} {rs rs':List (List T)} {n r:Int} (h12:(d1 == d2)=false) (hx:VEv E x (.orp sz k i o)) (hk:gO O k=some (.rowsN sz rows asg)) (hi:rows[i]? =some row) (ho:row[o]? =some (.sl true sz2 rs)) (hst:QB P tt=some false) (hy:VEv ((d1, .any)::E) y (.int .i64 n)) (hb:YA P f=true) (hm:Mut call f sz2 rs [.int .i64 n] (some r) rs') (hc:∀r∈rs,∀t∈r,Clean t) (hr:rows.set i (row.set o (.sl true sz2 rs'))=rows')
  (hK:VRunO call P ops l ((d3, .int .i64 r)::(d2, .int .i64 n)::(d1, .any)::E) ((k,some (.rowsN sz rows' asg))::O) nx K) :
  VRunO call P ops (⟨some d1, .load tt x,ty1,ps1,af1,none⟩::⟨some d2, .move y,ty2,ps2,af2,none⟩::⟨some d3, .call ⟨.value (.func f),#[.tmp d1, .tmp d2],tys⟩,ty3,ps3,af3,none⟩::l) E O nx K:=by
 unfold VRunO at hK ⊢
 intro p h0 σ hf own Ea h c j hs
 subst hr
 obtain ⟨v,h1,h2⟩:=hx σ hf nx Ea hs.env
 obtain ⟨a,rfl,h5,h6⟩:=h2.orpInv
 obtain ⟨N,hN1,hN2,h7⟩:=hs.objAt hk
 rw [h5] at h7
 cases h7 with
 | rowsN hh hodd hlen hfit hsl =>
  rename_i cs
  obtain ⟨hlt,v0,A,B,C,e1,e2,e3,e4⟩:=QjR (σ:=σ) hh hlen hfit hsl hi ho
  have hs1:=hs.put (V.any (σ:=σ) (hf:=hf) (nx:=nx) v0) (some d1)
  obtain ⟨w,y1,y2⟩:=hy σ hf nx _ hs1.env
  obtain rfl:=y2.intInv
  have hs2:=hs1.put y2 (some d2)
  have hdd:d1≠d2:=by simpa using h12
  refine RunO.pure Y Y Y (X.load h1 (J3 hst hh e1)) (RunO.pure Y Y Y (X.move y1) ?_)
  have hown:own a=some k:=hN2 a (by simp)
  have hsub:∀b∈B,b∈asg:=fun b hb=>by rw [e2];simp [hb]
  have hnd:asg.Nodup:=(List.nodup_cons.1 hN1).2
  have hndB:B.Nodup:=by rw [e2,List.nodup_append,List.nodup_append] at hnd;exact hnd.2.1.1
  have hdisA:∀b∈A,b∉B:=fun b hb hm2=>by rw [e2,List.nodup_append] at hnd;exact hnd.2.2 b hb b (by simp [hm2]) Y
  have hdisC:∀b∈C,b∉B:=fun b hb hm2=>by rw [e2,List.nodup_append,List.nodup_append] at hnd;exact hnd.2.1.2.2 b hm2 b hb Y
  have haB:a∉B:=fun hm2=>(List.nodup_cons.1 hN1).1 (hsub a hm2)
  have hevs:AE.evs (ZW (ZW Ea (some d1) v0) (some d2) (.int .i64 n)) [.tmp d1, .tmp d2]=some [v0, .int .i64 n]:=by
   simp [AE.evs,ZK,ZW,hdd]
  unfold RunO
  intro hfc
  have hF:Fr (child p (c+(j+1+1))) h:=FrC.fr hfc (Nat.le_refl _)
  have hS0:S (fun _=>none) h (.sl true sz2 rs) v0 B:=S.clean e3 (.sl _ _ hc)
  have h8:=hm h (child p (c+(j+1+1))) hf v0 B [.int .i64 n] hF (fun b o hb=>⟨(hs.fro b o hb).1,fun hm2=>by have:=hN2 b (by simp [hsub b hm2]);rw [(hs.fro b o hb).2] at this;cases this⟩) hS0 hndB (RL.cons (.int _ _) (RL.nil _))
  unfold CallS at h8
  obtain ⟨v,h',k1,k2,k3,rfl,k5⟩:=h8
  have hha:h' a=some (.cells sz cs):=(k3 a (by rw [hh];simp) haB).trans hh
  have hobj:ObjR σ hf nx h' (.rowsN sz (rows.set i (row.set o (.sl true sz2 rs'))) asg) (σ k) (a::asg):=by
   rw [h5]
   refine .rowsN hha hodd (fun r hr=> ?_) (by rw [List.length_set];exact hfit) ?_
   ·rcases List.mem_or_eq_of_mem_set hr with hm2 | rfl
    ·exact hlen r hm2
    ·rw [List.length_set];exact hlen row (List.mem_of_getElem? hi)
   ·rw [List.length_set]
    have hnn:∀b∈asg,h b≠none:=fun b hb=>hsl.names b hb
    have:=e4 h' (.sl true sz2 rs') v0 (fun b hb=>k3 b (hnn b (by rw [e2];simp [hb])) (hdisA b hb)) (fun b hb=>k3 b (hnn b (by rw [e2];simp [hb])) (hdisC b hb)) (k5.mono (fun _ _ e=>by cases e) (fun _ _=>rfl))
    have e5:cs.set (i*sz+o) v0=cs:=by
     refine List.ext_getElem? fun q=> ?_
     rw [List.getElem?_set]
     split
     ·rename_i e;subst e;rw [if_pos (by omega),e1]
     ·rfl
    rwa [e5] at this
  have hs3:SR p h0 σ hf own ((d2, .int .i64 n)::(d1, .any)::E) ((k,some (.rowsN sz (rows.set i (row.set o (.sl true sz2 rs'))) asg))::O) nx (ZW (ZW Ea (some d1) v0) (some d2) (.int .i64 n)) h':=by
   refine ⟨hs2.env,fun k' o' hk'=> ?_,fun b o' hb=> ?_,fun b k' hb=> ?_,hs.base,fun t ht=> ?_⟩
   ·simp only [gO] at hk'
    split at hk'
    ·rename_i e
     subst e
     obtain rfl:=Option.some.inj hk'
     exact ⟨h6,a::asg,hN1,hN2,hobj⟩
    ·rename_i hne
     obtain ⟨m1,N2,m2,m3,m4⟩:=hs.obj k' o' hk'
     refine ⟨m1,N2,m2,m3,m4.mono (fun _ _ e=>e) (Nat.le_refl _) (fun _ _=>rfl) (fun b hb=>k3 b (hs.mine b k' (m3 b hb)).2.2.1 (fun hm2=> ?_))⟩
     have:=hN2 b (by simp [hsub b hm2])
     rw [m3 b hb] at this
     exact hne (Option.some.inj this)
   ·obtain ⟨m1,m2⟩:=hs.fro b o' hb
    refine ⟨?_,m2⟩
    rw [k3 b (by rw [m1];simp) (fun hm2=>by have:=hN2 b (by simp [hsub b hm2]);rw [m2] at this;cases this)]
    exact m1
   ·obtain ⟨m1,m2,m3,m4⟩:=hs.mine b k' hb
    refine ⟨m1,m2,?_,m4⟩
    by_cases hm2:b∈B
    ·exact k5.names b hm2
    ·rw [k3 b m3 hm2];exact m3
   ·rcases k2 t ht with e | e
    ·exact hs.dom t e
    ·exact .inr (.inl (QaB e))
  have hs4:=hs3.put (V.fz (σ:=σ) (hf:=hf) (nx:=nx) (R.int (hf:=hf) .i64 r)) (some d3)
  have hk4:=hK p h0 σ hf own _ h' c (j+1+1+1) hs4
  have hex:QJ call P (child p (c+(j+1+1))) (ZW (ZW Ea (some d1) v0) (some d2) (.int .i64 n)) h ⟨some d3, .call ⟨.value (.func f),#[.tmp d1, .tmp d2],tys⟩,ty3,ps3,af3,none⟩=some (rvV (some r),h'):=by
   simp only [QJ,X.calls (ts:=tys) hb (show AE.evs _ (#[Operand.tmp d1,Operand.tmp d2].toList)=some [v0, .int .i64 n] from hevs),k1]
  have hst2:=RunO.step (call:=call) (P:=P) (π:=p) (c:=c) (i:=j+1+1) (ops:=ops) (r:=l) (K:=KK p h0 K) Y Y Y hex (fun _=>k2) (fun _=>hk4)
  unfold RunO at hst2
  exact hst2 hfc
end
abbrev LO := List (Nat×List (List T))
def loO (asg:Nat→List Nat):Nat→LO→QF
 | _,[]=> []
 | n,x::r=>(n,some (.rowsN x.1 x.2 (asg n)))::loO asg (n+1) r
theorem Qmn (asg:Nat→List Nat) (k:Nat):∀(L:LO) (n:Nat),gO (loO asg n L) k=if n≤k then (L[k - n]?).map (fun x=>Obj.rowsN x.1 x.2 (asg k)) else none
 | [],n=>by simp [loO,gO]
 | x::r,n=>by
  rw [loO,gO]
  by_cases h:k=n
  ·subst h;simp
  ·rw [if_neg h,Qmn asg k r (n+1)]
   by_cases h2:n≤k
   ·rw [if_pos h2,if_pos (by omega),show k - n=(k - (n+1))+1 by omega,List.getElem?_cons_succ]
   ·rw [if_neg h2,if_neg (by omega)]
def Qpb (σ:Nat→Option Nat) (hf:AH) (own:Nat→Option Nat) (asg:Nat→List Nat) (L:LO) (h:AH):Prop:=∀k x,L[k]? =some x→∃N,N.Nodup∧(∀a∈N,own a=some k)∧ObjR σ hf L.length h (.rowsN x.1 x.2 (asg k)) (σ k) N
def LoanM (call:QR) (f:FuncId) (L:LO) (ts:List T) (r:T) (L':LO):Prop:=∀(asg:Nat→List Nat) (h:AH) (p:Nat) (hf:AH) (σ own:Nat→Option Nat) (vs:List Value),Fr p h→(∀b o,hf b=some o→h b=some o∧own b=none)→(∀b k,own b=some k→h b≠none∧k<L.length)→Qpb σ hf own asg L h→VL σ hf L.length ts vs →
 CallS call f vs h p (fun v h'=>(∀b,h b≠none→own b=none→h' b=h b)∧(∃hf2,V σ hf2 L.length r v)∧∀k x,L'[k]? =some x→∃N,N.Nodup∧(∀a∈N,own a=some k)∧ObjR σ hf L.length h' (.rowsN x.1 x.2 (asg k)) (σ k) N)
inductive PinK (k:Nat):T→Prop
 | os (sz n:Nat):PinK k (.os sz k 0 n)
 | agg {ts:List T} {t:T} (i:Nat) (h:ts[i]? =some t) (hp:PinK k t):PinK k (.agg ts)
inductive PRes : T→Prop
 | none:PRes (.tup [])
 | int (k:IntKind) (n:Int):PRes (.int k n)
 | bool (b:Bool):PRes (.bool b)
theorem PRes.R {r:T} {v:Value} {σ:Nat→Option Nat} {hf:AH} {nx:Nat} (hr:PRes r) (h:V σ hf nx r v) (hf':AH):AE.R hf' r v:=by
 cases hr with
 | none =>
  obtain ⟨l,rfl,h1⟩:=V.tupL h
  obtain rfl:=List.eq_nil_of_length_eq_zero h1.1.symm
  exact .tup [] #[] rfl (fun i hi=>by simp at hi)
 | int k n=>obtain rfl:=V.intInv h;exact .int _ _
 | bool b=>obtain rfl:=V.boolInv h;exact .bool _
theorem QmP {σ σ':Nat→Option Nat} {hf hf':AH} {nx nx' sz k k' n:Nat} {v:Value} (h:V σ hf nx (.os sz k 0 n) v) (h':V σ' hf' nx' (.os sz k' 0 n) v):σ' k'=σ k:=by
 obtain ⟨_,⟨a,m,e1,e2,e3⟩ | ⟨e1,_,e2,e3⟩⟩:=h.osInv
 ·obtain ⟨_,⟨a',m',f1,f2,f3⟩ | ⟨f1,_,f2,f3⟩⟩:=h'.osInv
  ·rw [e1] at f1
   simp only [Value.slice.injEq,Option.some.injEq,Addr.mk.injEq] at f1
   rw [e2,f2,f1.1.1]
  ·subst e1
   rcases f3 with f3 | ⟨b,o,f3⟩
   ·exact absurd f3 (by simp)
   ·simp only [Value.slice.injEq] at f3
    omega
 ·obtain ⟨_,⟨a',m',f1,f2,f3⟩ | ⟨f1,_,f2,f3⟩⟩:=h'.osInv
  ·subst f1
   rcases e3 with e3 | ⟨b,o,e3⟩
   ·exact absurd e3 (by simp)
   ·simp only [Value.slice.injEq] at e3
    omega
  ·rw [e1,f1]
theorem PinK.same {σ σ':Nat→Option Nat} {hf hf':AH} {nx nx' k:Nat} {f:Nat→Nat} {pin:T} {v:Value} (hp:PinK k pin) (h:V σ hf nx pin v) (h':V σ' hf' nx' (ren f pin) v):σ' (f k)=σ k:=by
 induction hp generalizing v with
 | os sz n=>exact QmP h h'
 | agg i hi hp ih =>
  rename_i ts t
  obtain ⟨l,rfl,h1⟩:=V.aggL h
  have h2:V σ' hf' nx' (.agg (QaH f ts)) (.agg l.toArray):=h'
  obtain ⟨l2,e,h3⟩:=V.aggL h2
  have e2:l2=l:=by
   simp only [Value.agg.injEq] at e
   have:=congrArg Array.toList e
   simpa using this.symm
  subst e2
  have hlt:=(List.getElem?_eq_some_iff.1 hi).1
  have g1:=h1.2 i hlt
  have g2:=h3.2 i (by rw [ZA,List.length_map];exact hlt)
  rw [List.getD_eq_getElem?_getD,hi,Option.getD_some] at g1
  rw [ZA,List.getD_eq_getElem?_getD,List.getElem?_map,hi,Option.map_some,Option.getD_some] at g2
  exact ih g1 g2
def finO (O:QF) (f:Nat→Nat) (asg:Nat→List Nat):Nat→LO→Prop
 | _,[]=>True
 | n,x::r=>gO O (f n)=some (.rowsN x.1 x.2 (asg n))∧finO O f asg (n+1) r
theorem finO.at {O:QF} {f:Nat→Nat} {asg:Nat→List Nat}:∀ {L:LO} {n:Nat} (k:Nat) {x},finO O f asg n L→L[k]? =some x→gO O (f (n+k))=some (.rowsN x.1 x.2 (asg (n+k)))
 | [],n,k,x,_,h=>by simp at h
 | y::r,n,0,x,h,e=>by
  obtain rfl:y=x:=by simpa using e
  exact h.1
 | y::r,n,k+1,x,h,e=>by
  have:=finO.at (L:=r) (n:=n+1) k h.2 (by simpa using e)
  rwa [show n+1+k=n+(k+1) by omega] at this
def vloanM (P:Program) (rs:List ResultVar) (pins:List (Nat×T)) (L':LO) (asg:Nat→List Nat) (r:T):AX→Q9→QF→Nat→Prop
 | .exit _,_,_,_=>False
 | _,E,O,_=>∃(f:Nat→Nat) (us:List T),VRes P E O rs us∧Qen us=r∧(∀x∈pins,gE E x.1=ren f x.2)∧finO O f asg 0 L'
theorem vloanM.r {P:Program} {rs:List ResultVar} {pins:List (Nat×T)} {L1 L':LO} {asg:Nat→List Nat} {r:T} {E:Q9} {O:QF} {nx:Nat} {us:List T} (f:Nat→Nat) (h:VRes P E O rs us) (h1:Qen us=r) (h2:∀x∈pins,gE E x.1=ren f x.2) (h3:finO O f asg 0 L1) (e:L1=L'):vloanM P rs pins L' asg r .ret E O nx:=⟨f,us,h,h1,h2,e▸h3⟩
theorem ObjR.nameN {σ:Nat→Option Nat} {hf h:AH} {nx sz:Nat} {rows:List (List T)} {asg N:List Nat} {oa:Option Nat} (h1:ObjR σ hf nx h (.rowsN sz rows asg) oa N):(oa=Option.none∧N= []∧asg= [])∨∃a,oa=some a∧N=a::asg:=by
 cases h1 with
 | noneN sz=>exact .inl ⟨rfl,rfl,rfl⟩
 | rowsN hk hodd hlen hfit hs=>exact .inr ⟨_,rfl,rfl⟩
theorem ObjR.moveN {σ σ':Nat→Option Nat} {hf hf' h h':AH} {nx nx' sz:Nat} {rows:List (List T)} {asg N:List Nat} {oa:Option Nat} (h1:ObjR σ hf nx h (.rowsN sz rows asg) oa N) (hc:∀r∈rows,∀t∈r,Clean t) (hh:∀a∈N,h' a=h a):ObjR σ' hf' nx' h' (.rowsN sz rows asg) oa N:=by
 cases h1 with
 | noneN sz=>exact .noneN sz
 | rowsN hk hodd hlen hfit hs =>
  refine .rowsN ((hh _ (by simp)).trans hk) hodd hlen hfit ?_
  have h2:=SL.clean (hf':=fun _=>Option.none) hs (fun t ht=>by
   obtain ⟨r,hr,htr⟩:=List.mem_flatten.1 ht
   exact hc r hr t htr)
  exact h2.mono (fun _ _ e=>(by cases e)) (fun a ha=>hh a (by simp [ha]))
theorem ObjR.namesN {σ:Nat→Option Nat} {hf h:AH} {nx sz:Nat} {rows:List (List T)} {asg N:List Nat} {oa:Option Nat} (h1:ObjR σ hf nx h (.rowsN sz rows asg) oa N):∀a∈N,h a≠Option.none:=by
 cases h1 with
 | noneN sz=>intro a ha;cases ha
 | rowsN hk hodd hlen hfit hs =>
  intro a ha
  rcases List.mem_cons.1 ha with rfl | ha
  ·rw [hk];simp
  ·exact hs.names a ha
theorem LoanM.intro {P:Program} {f:FuncId} {fn:Func} {c:Code} {n:Nat} {ts:List T} {r:T} {L L':LO} {rs:List ResultVar} (pins:List (Nat×T)) (hf:P.funcs[f]? =some fn) (hb:fn.body=some c) (hc:ZT fn.ntmps c=true) (hrs:fn.results.toList=rs) (hL:L'.length=L.length) (hp1:∀x∈pins,noW x.1 c=true∧ts[x.1]? =some x.2) (hp2:∀k,k<L.length→∃x∈pins,PinK k x.2) (hr0:PRes r) (hcl:∀x∈L',∀r∈x.2,∀t∈r,Clean t) {E0:Q9} (hE:QeI 0 ts=E0)
  (hr:∀asg,VRun (Qs P n) P c E0 (loO asg 0 L) L.length (vloanM P rs pins L' asg r)) (hpr:QbT f=true:=by rfl):LoanM (Qs P (n+1)) f L ts r L':=by
 subst hE
 intro asg h p hfz σ own vs hfp hfN hown hO hvs
 classical
 let hb0:AH:=fun b=>if own b≠none then none else h b
 have hb1:∀b,own b=none→hb0 b=h b:=fun b hb=>if_neg (by simp [hb])
 have hb2:∀b,own b≠none→hb0 b=none:=fun b hb=>if_pos hb
 have hb3:∀b o,hb0 b=some o→own b=none∧h b=some o:=fun b o hb=>by
  by_cases hm:own b=none
  ·exact ⟨hm,(hb1 b hm).symm.trans hb⟩
  ·rw [hb2 b hm] at hb;cases hb
 have hsub:∀b o,hfz b=some o→hb0 b=some o:=fun b o hb=>(hb1 b (hfN b o hb).2).trans (hfN b o hb).1
 have hs0:SR p ⟨hb0,fun b=>own b≠none⟩ σ hb0 own (QeI 0 ts) (loO asg 0 L) L.length (fun t=>vs.getD t undef) h:=by
  refine ⟨fun t=> ?_,fun k o hk=> ?_,fun a o ha=>⟨(hb3 a o ha).2,(hb3 a o ha).1⟩,fun a k ha=> ?_,fun _ _=>rfl,fun t ht=> ?_⟩
  ·rw [QdF,if_neg (by omega),Nat.sub_zero]
   rcases Nat.lt_or_ge t ts.length with h1 | h1
   ·exact (hvs.2 t h1).mono hsub (Nat.le_refl _) (fun _ _=>rfl)
   ·rw [List.getD_eq_getElem?_getD,List.getElem?_eq_none h1]
    exact .any _
  ·rw [Qmn,if_pos (Nat.zero_le _),Nat.sub_zero] at hk
   obtain ⟨x,hx,rfl⟩:=Option.map_eq_some_iff.1 hk
   obtain ⟨N,g1,g2,g3⟩:=hO k x hx
   exact ⟨(List.getElem?_eq_some_iff.1 hx).1,N,g1,g2,g3.mono hsub (Nat.le_refl _) (fun _ _=>rfl) (fun _ _=>rfl)⟩
  ·have h1:own a≠none:=by rw [ha];simp
   exact ⟨.inr h1,hb2 a h1,(hown a k ha).1,(hown a k ha).2⟩
  ·by_cases hm:own t=none
   ·exact .inl (by show hb0 t≠none;rw [hb1 t hm];exact ht)
   ·exact .inr (.inr hm)
 have hr1:=hr asg
 unfold VRun at hr1
 have hrun:=hr1 p _ σ _ _ _ h 0 hs0
 have hrun2:Run (Qs P n) P p c ⟨fun t=>vs.getD t undef,h,0⟩ (fun e s=>KK p ⟨hb0,fun b=>own b≠none⟩ (vloanM P rs pins L' asg r e) s.E s.h∧∀x∈pins,s.E x.1=vs.getD x.1 undef):=by
  unfold Run at hrun ⊢
  intro hfc
  obtain ⟨e,s',h1,h2,h3⟩:=hrun hfc
  exact ⟨e,s',h1,h2,h3,fun x hx=>Yq _ _ _ _ (hp1 x hx).1 h1⟩
 refine CallS.intro (hpr:=hpr) (rs:=rs) hf hb hc hfp hrs (Run.mono hrun2 ?_)
 rintro e s' ⟨⟨σ',hf',own',E,O,nx,h1,h2⟩,h0⟩
 have key:(∃(f:Nat→Nat) (us:List T),VRes P E O rs us∧Qen us=r∧(∀x∈pins,gE E x.1=ren f x.2)∧finO O f asg 0 L')→∃l,J7 P s'.h s'.E rs=some l∧(fun v h'=>(∀b,h b≠none→own b=none→h' b=h b)∧(∃hf2,V σ hf2 L.length r v)∧∀k x,L'[k]? =some x→∃N,N.Nodup∧(∀a∈N,own a=some k)∧ObjR σ hfz L.length h' (.rowsN x.1 x.2 (asg k)) (σ k) N) (Y8 l) (if Zg (Y8 l) then YW h s'.h else Qbz p h s'.h):=by
  rintro ⟨f,us,g1,g2,g3,g4⟩
  obtain ⟨l,l1,l2⟩:=g1.run h1
  have g5:V σ' hf' nx (Qen us) (Y8 l):=by
   have hlen:=l2.1
   match us,l,l2,hlen with
   | [],[],g4,_=>exact g4.toTup
   | [t],[v],g4,_ =>
    obtain ⟨v',r',e,g6,_⟩:=g4.tail
    cases e
    exact g6
   | t::t'::us,v::v'::l,g4,_=>exact g4.toTup
   | [],_::_,_,hl=>cases hl
   | [_],[],_,hl=>cases hl
   | [_],_::_::_,_,hl=>cases hl
   | _::_::_,[],_,hl=>cases hl
   | _::_::_,[_],_,hl=>cases hl
  rw [g2] at g5
  have hbase:∀a o,hb0 a=some o→hf' a=some o:=fun a o ha=>by
   have e3:hf' a=hb0 a:=h1.base a (by show hb0 a≠none;rw [ha];simp)
   rw [e3,ha]
  have hσ:∀k,k<L.length→σ' (f k)=σ k:=fun k hk=>by
   obtain ⟨x,hx,hpk⟩:=hp2 k hk
   have e1:=(hp1 x hx).2
   have hjl:=(List.getElem?_eq_some_iff.1 e1).1
   have p1:=hvs.2 x.1 hjl
   rw [List.getD_eq_getElem?_getD,e1] at p1
   have p2:=h1.env x.1
   rw [g3 x hx,h0 x hx] at p2
   exact hpk.same p1 p2
  have hold:∀b,h b≠none→(if Zg (Y8 l) then YW h s'.h else Qbz p h s'.h) b=s'.h b:=fun b hb=>by
   split
   ·unfold YW
    cases hh:h b with
    | none=>exact absurd hh hb
    | some o=>rfl
   ·exact Qe8 (.inl hb)
  refine ⟨l,l1,fun b hb hbN=> ?_,⟨hf', .fz (hr0.R g5 _)⟩,fun k x hx=> ?_⟩
  ·rw [hold b hb]
   obtain ⟨o,ho⟩:=Option.ne_none_iff_exists'.1 hb
   rw [(h1.fro b o (hbase b o ((hb1 b hbN).trans ho))).1,ho]
  ·have hkl:k<L.length:=by rw [← hL];exact (List.getElem?_eq_some_iff.1 hx).1
   obtain ⟨N,n1,n2,n3⟩:=hO k _ (List.getElem?_eq_getElem hkl)
   have g6:=finO.at k g4 hx
   rw [Nat.zero_add] at g6
   obtain ⟨M,m1,m2,m3⟩:=h1.objAt g6
   rw [hσ k hkl] at m3
   have hMN:M=N:=by
    rcases n3.nameN with ⟨q1,rfl,q2⟩ | ⟨a,q1,rfl⟩
    ·rcases m3.nameN with ⟨_,rfl,_⟩ | ⟨a',q3,_⟩
     ·rfl
     ·rw [q1] at q3;cases q3
    ·rcases m3.nameN with ⟨q3,_,_⟩ | ⟨a',q3,rfl⟩
     ·rw [q1] at q3;cases q3
     ·rw [q1] at q3;rw [Option.some.inj q3]
   subst hMN
   exact ⟨M,n1,n2,m3.moveN (hcl x (List.mem_of_getElem? hx)) (fun a ha=>hold a (hown a k (n2 a ha)).1)⟩
 cases e with
 | normal=>unfold fin;exact key h2
 | ret=>unfold fin;exact key h2
 | exit id=>exact h2.elim
def ix : List Nat→Nat→Option Nat
 | [],_=>none
 | a::r,k=>if k=a then some 0 else (ix r k).map (· +1)
theorem Qch : ∀ {ks:List Nat} {k n:Nat},ix ks k=some n→ks[n]? =some k
 | [],k,n,h=>by cases h
 | a::r,k,n,h=>by
  simp only [ix] at h
  split at h
  ·rename_i e
   obtain rfl:=Option.some.inj h
   simp [e]
  ·obtain ⟨m,h1,rfl⟩:=Option.map_eq_some_iff.1 h
   simpa using Qch h1
theorem Qne : ∀ {ks:List Nat} {k n:Nat},ks.Nodup→ks[n]? =some k→ix ks k=some n
 | [],k,n,_,h=>by simp at h
 | a::r,k,0,_,h=>by
  obtain rfl:a=k:=by simpa using h
  simp [ix]
 | a::r,k,n+1,hn,h=>by
  have h1:r[n]? =some k:=by simpa using h
  have h2:=List.nodup_cons.1 hn
  have h3:¬k=a:=fun e=>h2.1 (e▸List.mem_of_getElem? h1)
  simp only [ix,if_neg h3,Qne h2.2 h1,Option.map_some]
def isR : Obj→Nat×List (List T)→Prop
 | .rows sz rows,x=>x=(sz,rows)
 | .rowsN sz rows _,x=>x=(sz,rows)
 | _,_=>False
def Qmw : Obj→Nat×List (List T)→Obj
 | .rows _ _,x=> .rows x.1 x.2
 | .rowsN _ _ asg,x=> .rowsN x.1 x.2 asg
 | o,_=>o
theorem isR.toN {σ:Nat→Option Nat} {hf h:AH} {nx:Nat} {o:Obj} {x:Nat×List (List T)} {oa:Option Nat} {N:List Nat} (ho:isR o x) (h1:ObjR σ hf nx h o oa N):∃asg,ObjR σ hf nx h (.rowsN x.1 x.2 asg) oa N∧∀ {σ':Nat→Option Nat} {hf' h':AH} {nx':Nat} {y:Nat×List (List T)},ObjR σ' hf' nx' h' (.rowsN y.1 y.2 asg) oa N→ObjR σ' hf' nx' h' (Qmw o y) oa N:=by
 cases h1 with
 | rows hk hodd hlen hfit hs =>
  obtain rfl:x=_:=ho
  refine ⟨_, .rowsN hk hodd hlen hfit hs,fun {σ' hf' h' nx' y} h2=> ?_⟩
  obtain ⟨sz',rows'⟩:=y
  cases h2 with
  | rowsN hk hodd hlen hfit hs=>exact .rows hk hodd hlen hfit hs
 | none sz =>
  obtain rfl:x=_:=ho
  refine ⟨_, .noneN sz,fun {σ' hf' h' nx' y} h2=> ?_⟩
  obtain ⟨sz',rows'⟩:=y
  cases h2 with
  | noneN sz=>exact ObjR.none _
 | rowsN hk hodd hlen hfit hs =>
  obtain rfl:x=_:=ho
  exact ⟨_, .rowsN hk hodd hlen hfit hs,fun h2=>h2⟩
 | noneN sz =>
  obtain rfl:x=_:=ho
  exact ⟨_, .noneN sz,fun h2=>h2⟩
 | cells hk hodd hv=>exact (show False from ho).elim
 | map hk hodd g1 g2=>exact (show False from ho).elim
def QkW : QF→List Nat→LO→List Obj→QF
 | O,k::ks,x::r,o::os=>QkW ((k,some (Qmw o x))::O) ks r os
 | O,_,_,_=>O
theorem QjN (q:Nat):∀ {ks:List Nat} {L:LO} {os:List Obj} {O:QF},ks.Nodup→L.length=ks.length→os.length=ks.length→gO (QkW O ks L os) q=match ix ks q with
  | some n=>(match L[n]?,os[n]? with | some x,some o=>some (Qmw o x) | _,_=>none)
  | none=>gO O q
 | [],L,os,O,_,hl,ho=>by
  cases L with
  | nil=>simp [QkW,ix]
  | cons x r=>cases hl
 | k::ks,[],os,O,_,hl,ho=>by cases hl
 | k::ks,x::r,[],O,_,hl,ho=>by cases ho
 | k::ks,x::r,o::os,O,hn,hl,ho=>by
  have hn2:=List.nodup_cons.1 hn
  rw [QkW,QjN q hn2.2 (by simpa using hl) (by simpa using ho)]
  simp only [ix]
  by_cases hq:q=k
  ·subst hq
   have:ix ks q=none:=by
    cases hx:ix ks q with
    | none=>rfl
    | some n=>exact absurd (List.mem_of_getElem? (Qch hx)) hn2.1
   simp [this,gO]
  ·rw [if_neg hq]
   cases hx:ix ks q with
   | none=>simp [gO,hq]
   | some n=>simp
def hosL (O:QF):List Nat→List Obj→LO→Prop
 | [],[],[]=>True
 | k::ks,o::os,x::L=>(gO O k=some o∧isR o x)∧hosL O ks os L
 | _,_,_=>False
theorem hosL.len {O:QF}:∀ {ks:List Nat} {os:List Obj} {L:LO},hosL O ks os L→L.length=ks.length∧os.length=ks.length
 | [],[],[],_=>⟨rfl,rfl⟩
 | k::ks,o::os,x::L,h=>by
  obtain ⟨h1,h2⟩:=hosL.len h.2
  exact ⟨by simp [h1],by simp [h2]⟩
 | [],_::_,_,h=>h.elim
 | [],[],_::_,h=>h.elim
 | _::_,[],_,h=>h.elim
 | _::_,_::_,[],h=>h.elim
theorem hosL.at {O:QF}:∀ {ks:List Nat} {os:List Obj} {L:LO},hosL O ks os L→∀n k:Nat,ks[n]? =some k→∃(o:Obj) (x:Nat×List (List T)),os[n]? =some o∧L[n]? =some x∧gO O k=some o∧isR o x
 | [],_,_,_,n,k,e=>by simp at e
 | k::ks,o::os,x::L,h,0,k',e=>by
  obtain rfl:k=k':=by simpa using e
  exact ⟨o,x,rfl,rfl,h.1.1,h.1.2⟩
 | k::ks,o::os,x::L,h,n+1,k',e=>by
  obtain ⟨o',x',e1,e2,e3⟩:=hosL.at h.2 n k' (by simpa using e)
  exact ⟨o',x',by simpa using e1,by simpa using e2,e3⟩
 | _::_,[],_,h,_,_,_=>h.elim
 | _::_,_::_,[],h,_,_,_=>h.elim
def PinsTo (pins:List (Nat×T)):Nat→Prop
 | 0=>True
 | n+1=>PinsTo pins n∧∃x∈pins,PinK n x.2
theorem PinsTo.at {pins:List (Nat×T)}:∀ {m:Nat},PinsTo pins m→∀k,k<m→∃x∈pins,PinK k x.2
 | 0,_,k,h=>by omega
 | m+1,h,k,hk=>by
  by_cases e:k=m
  ·subst e;exact h.2
  ·exact PinsTo.at h.1 k (by omega)
theorem OC.viaN {call:QR} {P:Program} {E:Q9} {O O1:QF} {nx nx' k sz:Nat} {o:Oper} {t:T} {rows rows':List (List T)} {asg ks:List Nat} (hk:gO O k=some (.rowsN sz rows asg)) (hsc:scR rows) (hsc':scR rows')
  (h:OC call P E ((k,some (.rows sz rows))::O) nx o t ((k,some (.rows sz rows'))::O1) nx' ks):OC call P E O nx o t ((k,some (.rowsN sz rows' asg))::O1) nx' ks:=⟨h.1,fun q p h0 σ hf own Ea H hs hu hF=>by
 obtain ⟨N,hN1,hN2,h3⟩:=hs.objAt hk
 have hasg:asg= []:=by
  generalize σ k=oa at h3
  cases h3 with
  | noneN=>rfl
  | rowsN hh hodd hlen hfit hsl=>exact hsl.sc hsc.flat
 subst hasg
 have hs':SR p h0 σ hf own E ((k,some (.rows sz rows))::O) nx Ea H:=⟨hs.env,fun k2 o2 h2=>by
  by_cases e:k2=k
  ·subst e
   rw [Qk5] at h2
   obtain rfl:=Option.some.inj h2
   refine ⟨(hs.obj _ _ hk).1,N,hN1,hN2,?_⟩
   generalize σ k2=oa at h3 ⊢
   cases h3 with
   | noneN=>exact .none _
   | rowsN hh hodd hlen hfit hsl=>exact .rows hh hodd hlen hfit hsl
  ·rw [QjB _ (by simpa using e)] at h2
   exact hs.obj k2 o2 h2,hs.fro,hs.mine,hs.base,hs.dom⟩
 obtain ⟨v,h',σ',own',e1,e2,e3,e4,e5⟩:=h.2 q p h0 σ hf own Ea H hs' hu hF
 refine ⟨v,h',σ',own',e1,e2,e3,⟨e4.env,fun k2 o2 h2=> ?_,e4.fro,e4.mine,e4.base,e4.dom⟩,e5⟩
 by_cases e:k2=k
 ·subst e
  rw [Qk5] at h2
  obtain rfl:=Option.some.inj h2
  obtain ⟨f1,N',f2,f3,f4⟩:=e4.obj k2 _ (Qk5 _ _ _)
  refine ⟨f1,N',f2,f3,?_⟩
  generalize hσk:σ' k2=oa at f4 ⊢
  cases f4 with
  | none=>exact .noneN _
  | rows hh hodd hlen hfit hsl =>
   have:=hsl.sc hsc'.flat
   subst this
   exact .rowsN hh hodd hlen hfit hsl
 ·rw [QjB _ (by simpa using e)] at h2
  exact e4.obj k2 o2 (by rw [QjB _ (by simpa using e)];exact h2)⟩
section
variable {call : QR} {P : Program} {E : Q9} {O : QF} {d : Option Tmp} {ty : TypeId} {ps : String} {af : Array Edge} {g : Option (Nat × Bool)} {nx : Nat}
theorem OC.callM {f:FuncId} {args:Array Operand} {tys:Array TypeId} {ts0 ts:List T} {ks:List Nat} {r:T} {L L':LO} {os:List Obj} {O':QF} (hb:YA P f=true) (ha:VEvs E args.toList ts0) (hkn:ks.Nodup) (hkl:L.length=ks.length) (hol:os.length=ks.length) (hL':L'.length=ks.length) (hos:∀n k:Nat,ks[n]? =some k→∃(o:Obj) (x:Nat×List (List T)),os[n]? =some o∧L[n]? =some x∧gO O k=some o∧isR o x) (hcl0:∀x∈L,∀r∈x.2,∀t∈r,Clean t) (hcl:∀x∈L',∀r∈x.2,∀t∈r,Clean t) (hts:QaH (fun n=>ks.getD n 0) ts=ts0) (htl:YC ks.length ts=true) (hr0:PRes r) (hO':QkW O ks L' os=O') (hp:LoanM call f L ts r L') :
  OC call P E O nx ⟨d, .call ⟨.value (.func f),args,tys⟩,ty,ps,af,g⟩ r O' nx ks:=⟨Nat.le_refl _,fun q p h0 σ hf own Ea h hs hu hF=>by
 subst hts
 subst hO'
 classical
 obtain ⟨vs,h1,h2⟩:=ha σ hf nx Ea hs.env
 have key:∀n:Nat,∃w:List Nat×List Nat,∀k:Nat,ks[n]? =some k→∃(o:Obj) (x:Nat×List (List T)),os[n]? =some o∧L[n]? =some x∧k<nx∧w.2.Nodup∧(∀a∈w.2,own a=some k)∧ObjR σ hf nx h (.rowsN x.1 x.2 w.1) (σ k) w.2∧∀ {σ':Nat→Option Nat} {hf' h':AH} {nx':Nat} {y:Nat×List (List T)},ObjR σ' hf' nx' h' (.rowsN y.1 y.2 w.1) (σ k) w.2→ObjR σ' hf' nx' h' (Qmw o y) (σ k) w.2:=fun n=>by
  cases hk:ks[n]? with
  | none=>exact ⟨([],[]),fun k e=>by cases e⟩
  | some k =>
   obtain ⟨o,x,e1,e2,e3,e4⟩:=hos n k hk
   obtain ⟨hkx,N,n1,n2,n3⟩:=hs.obj k o e3
   obtain ⟨asg,g1,g2⟩:=e4.toN n3
   refine ⟨(asg,N),fun k' e=> ?_⟩
   obtain rfl:=Option.some.inj e
   exact ⟨o,x,e1,e2,hkx,n1,n2,g1,g2⟩
 obtain ⟨W,has⟩:=Classical.skolem.1 key
 have hgk:∀n k:Nat,ks[n]? =some k→ks.getD n 0=k:=fun n k e=>by rw [List.getD_eq_getElem?_getD,e];rfl
 have hl:VL (fun n=>σ (ks.getD n 0)) hf L.length ts vs:=by
  refine ⟨by have:=h2.1;rw [ZA,List.length_map] at this;exact this,fun i hi=> ?_⟩
  have h6:=h2.2 i (by rw [ZA,List.length_map];exact hi)
  refine V.ren (σ':=fun n=>σ (ks.getD n 0)) (nx':=L.length) (fun _ _=>rfl) h6 ?_ ?_
  ·rw [ZA]
   simp [List.getD_eq_getElem?_getD,hi]
  ·rw [YZ,List.all_eq_true] at htl
   rw [hkl]
   refine htl _ ?_
   rw [List.getD_eq_getElem?_getD,List.getElem?_eq_getElem hi]
   exact List.getElem_mem hi
 have h6:=hp (fun n=>(W n).1) h q hf (fun n=>σ (ks.getD n 0)) (fun b=>(own b).bind fun k=>(ix ks k).bind fun n=>if b∈(W n).2 then some n else none) vs hF (fun b o hb=>⟨(hs.fro b o hb).1,by simp only [(hs.fro b o hb).2,Option.bind_none]⟩) (fun b n hb=>by
  obtain ⟨k,e1,e2⟩:=Option.bind_eq_some_iff.1 hb
  obtain ⟨m,e3,e4⟩:=Option.bind_eq_some_iff.1 e2
  split at e4
  ·obtain rfl:=Option.some.inj e4
   exact ⟨(hs.mine b k e1).2.2.1,by rw [hkl];exact (List.getElem?_eq_some_iff.1 (Qch e3)).1⟩
  ·cases e4) (fun n x hx=>by
  have hnl:n<ks.length:=by rw [← hkl];exact (List.getElem?_eq_some_iff.1 hx).1
  have hk:=List.getElem?_eq_getElem hnl
  obtain ⟨o,x',e1,e2,e3,e4,e5,e6,e7⟩:=has n _ hk
  obtain rfl:x=x':=by rw [hx] at e2;exact Option.some.inj e2
  refine ⟨(W n).2,e4,fun a ha=>by simp only [e5 a ha,Option.bind_some,Qne hkn hk,if_pos ha],?_⟩
  show ObjR _ hf _ h _ (σ (ks.getD n 0)) _
  rw [hgk n _ hk]
  exact e6.moveN (hcl0 x (List.mem_of_getElem? hx)) (fun _ _=>rfl)) hl
 unfold CallS at h6
 obtain ⟨v,h',k1,k2,k3,⟨hf2,k4⟩,k5⟩:=h6
 have hfree:∀b,h b≠none→(∀k n,own b=some k→ix ks k=some n→b∉(W n).2)→h' b=h b:=fun b hb hn=>k3 b hb (by
  cases ho:own b with
  | none=>rfl
  | some k =>
   simp only [Option.bind_some]
   cases hx:ix ks k with
   | none=>rfl
   | some n=>simp only [Option.bind_some];rw [if_neg (hn k n ho hx)])
 refine ⟨v,h',σ,own,by simp only [QJ,X.calls hb h1,k1],k2,fun _ _=>rfl,⟨hs.env,fun k' o hk'=> ?_,fun b o hb=> ?_,fun b k' hb=> ?_,hs.base,fun t ht=> ?_⟩, .fz (hr0.R k4 _),fun b hb hnk=>hfree b hb (fun k n e e2=>absurd e (hnk k (List.mem_of_getElem? (Qch e2)))),fun b k' e=> .inl e⟩
 ·rw [QjN k' hkn hL' hol] at hk'
  cases hx:ix ks k' with
  | none =>
   rw [hx] at hk'
   obtain ⟨m1,N2,m2,m3,m4⟩:=hs.obj k' o hk'
   exact ⟨m1,N2,m2,m3,m4.mono (fun _ _ e=>e) (Nat.le_refl _) (fun _ _=>rfl) (fun b hb=>hfree b (hs.mine b k' (m3 b hb)).2.2.1 (fun k n e e2=>by rw [m3 b hb] at e;obtain rfl:=Option.some.inj e;rw [hx] at e2;cases e2))⟩
  | some n =>
   rw [hx] at hk'
   have hk:=Qch hx
   obtain ⟨o1,x,e1,e2,e3,e4,e5,e6,e7⟩:=has n k' hk
   have hnl:=(List.getElem?_eq_some_iff.1 hk).1
   have e8:=List.getElem?_eq_getElem (show n<L'.length by rw [hL'];exact hnl)
   simp only [e8,e1] at hk'
   obtain rfl:=Option.some.inj hk'
   obtain ⟨N',n1,n2,n3⟩:=k5 n _ e8
   simp only [hgk n _ hk] at n3
   have hNN:N'=(W n).2:=by
    rcases e6.nameN with ⟨q1,q3,q2⟩ | ⟨a,q1,q2⟩
    ·rcases n3.nameN with ⟨_,rfl,_⟩ | ⟨a',q4,_⟩
     ·exact q3.symm
     ·rw [q1] at q4;cases q4
    ·rcases n3.nameN with ⟨q3,_,_⟩ | ⟨a',q3,rfl⟩
     ·rw [q1] at q3;cases q3
     ·rw [q1] at q3;rw [q2,Option.some.inj q3]
   rw [hNN] at n3
   exact ⟨e3,(W n).2,e4,e5,e7 (n3.moveN (hcl _ (List.mem_of_getElem? e8)) (fun _ _=>rfl))⟩
 ·obtain ⟨m1,m2⟩:=hs.fro b o hb
  refine ⟨?_,m2⟩
  rw [hfree b (by rw [m1];simp) (fun k n e _=>by rw [m2] at e;cases e)]
  exact m1
 ·obtain ⟨m1,m2,m3,m4⟩:=hs.mine b k' hb
  refine ⟨m1,m2,?_,m4⟩
  by_cases hbm:∃n,ix ks k'=some n∧b∈(W n).2
  ·obtain ⟨n,hx,hbm⟩:=hbm
   have hk:=Qch hx
   have hnl:=(List.getElem?_eq_some_iff.1 hk).1
   have e8:=List.getElem?_eq_getElem (show n<L'.length by rw [hL'];exact hnl)
   obtain ⟨o1,x,e1,e2,e3,e4,e5,e6,e7⟩:=has n k' hk
   obtain ⟨N',n1,n2,n3⟩:=k5 n _ e8
   simp only [hgk n _ hk] at n3
   have hNN:N'=(W n).2:=by
    rcases e6.nameN with ⟨q1,q3,q2⟩ | ⟨a,q1,q2⟩
    ·rcases n3.nameN with ⟨_,rfl,_⟩ | ⟨a',q4,_⟩
     ·exact q3.symm
     ·rw [q1] at q4;cases q4
    ·rcases n3.nameN with ⟨q3,_,_⟩ | ⟨a',q3,rfl⟩
     ·rw [q1] at q3;cases q3
     ·rw [q1] at q3;rw [q2,Option.some.inj q3]
   exact n3.namesN b (by rw [hNN];exact hbm)
  ·rw [hfree b m3 (fun k n e e2 hm=>hbm ⟨n,by rw [hb] at e;rw [Option.some.inj e];exact e2,hm⟩)]
   exact m3
 ·rcases k2 t ht with e | e
  ·exact hs.dom t e
  ·exact .inr (hu t e)⟩
theorem OC.callL {f:FuncId} {args:Array Operand} {tys:Array TypeId} {ts0 ts:List T} (ks:List Nat) {r:T} {L:LO} (L':LO) (os:List Obj) (hb:YA P f=true) (ha:VEvs E args.toList ts0) (hkn:ks.Nodup) (hL':L'.length=ks.length) (hos:hosL O ks os L) (hcl0:∀x∈L,∀r∈x.2,∀t∈r,Clean t) (hcl:∀x∈L',∀r∈x.2,∀t∈r,Clean t) (hts:QaH (fun n=>ks.getD n 0) ts=ts0) (htl:YC ks.length ts=true) (hr0:PRes r) (hp:LoanM call f L ts r L') :
  OC call P E O nx ⟨d, .call ⟨.value (.func f),args,tys⟩,ty,ps,af,g⟩ r (QkW O ks L' os) nx ks:=OC.callM hb ha hkn hos.len.1 hos.len.2 hL' hos.at hcl0 hcl hts htl hr0 Y hp
end
section
variable {α : Type}
def mkL (f:Nat→α→α) (w:α→Nat):Nat→List α→List α
 | _,[]=> []
 | k,x::r=>f k x::mkL f w (k+w x) r
def Q2 (w:α→Nat):Nat→List α→Nat
 | k,[]=>k
 | k,x::r=>Q2 w (k+w x) r
variable {f : Nat → α → α} {w : α → Nat}
theorem Qaz : ∀(k:Nat) (l:List α),(mkL f w k l).length=l.length
 | k,[]=>rfl
 | k,x::r=>by simp only [mkL,List.length_cons,Qaz (k+w x) r]
theorem QhJ : ∀(k:Nat) (l m:List α),Q2 w k (l++m)=Q2 w (Q2 w k l) m
 | k,[],m=>rfl
 | k,x::r,m=>by simp only [List.cons_append,Q2,QhJ (k+w x) r m]
theorem Qj7 : ∀(k:Nat) (l m:List α),mkL f w k (l++m)=mkL f w k l++mkL f w (Q2 w k l) m
 | k,[],m=>rfl
 | k,x::r,m=>by simp only [List.cons_append,mkL,Q2,Qj7 (k+w x) r m]
theorem QlO : ∀(k:Nat) (l:List α),k≤Q2 w k l
 | k,[]=>Nat.le_refl _
 | k,x::r=>Nat.le_trans (Nat.le_add_right _ _) (QlO (k+w x) r)
theorem Qff {l:List α} {i k:Nat} {x:α} (h:l[i]? =some x):Q2 w k (l.take (i+1))=Q2 w k (l.take i)+w x:=by
 rw [List.take_add_one,h,Option.toList_some,QhJ]
 rfl
theorem QaY (k:Nat) (l:List α) (i:Nat):Q2 w k (l.take i)≤Q2 w k l:=by
 have h:Q2 w k (l.take i++l.drop i)=Q2 w (Q2 w k (l.take i)) (l.drop i):=QhJ _ _ _
 rw [List.take_append_drop] at h
 rw [h]
 exact QlO _ _
def YS (f:Nat→α→α) (w:α→Nat) (k:Nat) (l:List α) (i:Nat):List α:=mkL f w k (l.take i)++l.drop i
theorem Qbi (k:Nat) (l:List α) (i:Nat):(YS f w k l i).length=l.length:=by
 unfold YS
 rw [List.length_append,Qaz,List.length_take,List.length_drop];omega
theorem QlN {k:Nat} {l:List α} {i:Nat} {x:α} (hi:i<l.length) (h:(YS f w k l i)[i]? =some x):l[i]? =some x:=by
 unfold YS at h
 rw [List.getElem?_append_right (by rw [Qaz,List.length_take];omega),Qaz,List.length_take,Nat.min_eq_left (by omega),Nat.sub_self,List.getElem?_drop,Nat.add_zero] at h
 exact h
theorem Qj1 {k:Nat} {l:List α} {i:Nat} {x y:α} (h:l[i]? =some x) (hy:y=f (Q2 w k (l.take i)) x):(YS f w k l i).set i y=YS f w k l (i+1):=by
 have hi:=(List.getElem?_eq_some_iff.1 h).1
 subst hy
 unfold YS
 rw [List.set_append_right _ _ (by rw [Qaz,List.length_take];omega),Qaz,List.length_take,Nat.min_eq_left (by omega),Nat.sub_self,List.drop_eq_getElem_cons hi,List.set_cons_zero,List.take_add_one,h,Option.toList_some,Qj7]
 simp [mkL]
theorem Qiz {k:Nat} {l:List α} {i:Nat} (h:¬i<l.length):YS f w k l i=mkL f w k l:=by
 unfold YS
 rw [List.take_of_length_le (by omega),List.drop_of_length_le (by omega),List.append_nil]
theorem Qlb : ∀ {k:Nat} {l:List α} {i:Nat} {x:α},l[i]? =some x→(mkL f w k l)[i]? =some (f (Q2 w k (l.take i)) x)
 | k,[],i,x,h=>by simp at h
 | k,y::r,0,x,h=>by
  obtain rfl:y=x:=by simpa using h
  rfl
 | k,y::r,i+1,x,h=>by
  have:=Qlb (k:=k+w y) (l:=r) (i:=i) (by simpa using h)
  simpa [mkL,Q2] using this
theorem Ql7 {k:Nat} {l:List α} {i:Nat} {x:α} (hh:l=mkL f w k l) (h:l[i]? =some x):x=f (Q2 w k (l.take i)) x:=by
 have h1:=Qlb (f:=f) (w:=w) (k:=k) h
 rw [← hh,h] at h1
 exact Option.some.inj h1
theorem Qit (hw:∀k x,w (f k x)=w x) (hf:∀k x,f k (f k x)=f k x):∀(k:Nat) (l:List α),mkL f w k l=mkL f w k (mkL f w k l)
 | k,[]=>rfl
 | k,x::r=>by simp only [mkL,hw,hf,← Qit hw hf (k+w x) r]
theorem Qfx (hw:∀k x,w (f k x)=w x):∀(k k2:Nat) (l:List α),Q2 w k (mkL f w k2 l)=Q2 w k l
 | k,k2,[]=>rfl
 | k,k2,x::r=>by simp only [mkL,Q2,hw,Qfx hw (k+w x) (k2+w x) r]
theorem Qe6 (hw:∀x,1≤w x):∀(k:Nat) (l:List α),k+l.length≤Q2 w k l
 | k,[]=>Nat.le_refl _
 | k,x::r=>by
  have h1:=Qe6 hw (k+w x) r
  have h2:=hw x
  simp only [Q2,List.length_cons]
  omega
theorem Qjz {z:α→Nat} {c:Nat} (hw:∀x,w x≤c*(1+z x)):∀(k:Nat) (l:List α),Q2 w k l≤k+c*zL z l
 | k,[]=>Nat.le_add_right _ _
 | k,x::r=>by
  have h1:=Qjz hw (k+w x) r
  have h2:=hw x
  have e:zL z (x::r)=(1+z x)+zL z r:=by simp only [zL,Jl,List.length_cons];omega
  rw [e,Nat.mul_add]
  simp only [Q2]
  omega
end
theorem B.storeW {call:QR} {P:Program} {E:Q9} {O:QF} {nx:Nat} {d:Option Tmp} {ty tt:TypeId} {ps:String} {af:Array Edge} {g:Option (Nat×Bool)} {x y:Operand} {t:T} {k:Nat} {ts us:List T} (hx:VEv E x (.op k 0)) (hy:VEv E y t) (ht:t≠ .any) (hk:gO O k=some (.cells ts)) (hus:Zf t=us) (hl:us.length=ts.length) (hif:(P.info? tt).isSome=true) (hn:P.cellsOf tt=us.length) (hc:∀a∈us,JL a=true) :
  OC call P E O nx ⟨d, .store tt x y,ty,ps,af,g⟩ .any ((k,some (.cells us))::O) nx [k]:=B.storeO hx hy ht hk hus (by omega) hif hn hc (by simp [spl,hl])
section
variable {call : QR} {P : Program} {E : Q9} {O : QF} {nx : Nat} {S : AX → Q9 → QF → Nat → Prop} {u v : Code} {c : Tmp}
theorem ct (h:gE E c= .bool true) (hx:VRun call P u E O nx S):VRun call P (.cond (.tmp c) u v) E O nx S:=VRun.cond (VEv.tmp h) (fun _=>hx) (fun e=>absurd e (by decide))
theorem cf (h:gE E c= .bool false) (hx:VRun call P v E O nx S):VRun call P (.cond (.tmp c) u v) E O nx S:=VRun.cond (VEv.tmp h) (fun e=>absurd e (by decide)) (fun _=>hx)
theorem ck {b:Bool} (hb:b=true) (h:gE E c= .bool b) (hx:VRun call P u E O nx S):VRun call P (.cond (.tmp c) u v) E O nx S:=ct (hb▸h) hx
theorem cg {b:Bool} (hb:b=false) (h:gE E c= .bool b) (hx:VRun call P v E O nx S):VRun call P (.cond (.tmp c) u v) E O nx S:=cf (hb▸h) hx
theorem vn : VEvs E [] []:= .nil
theorem ln : LendL O [] []:=LendL.nil
theorem ZO : ∀ {ts:List T},ts.all J9=true→LendL O ts ts
 | [],_=>LendL.nil
 | t::r,h=>by
  simp only [List.all_cons,Bool.and_eq_true] at h
  exact LendL.cons (Lend.pl h.1) (ZO h.2)
def Qnt : List Nat→Bool
 | []=>true
 | a::r=> !(r.contains a) && Qnt r
theorem nd : ∀ {l:List Nat},Qnt l=true→l.Nodup
 | [],_=>List.nodup_nil
 | a::r,h=>by
  simp only [Qnt,Bool.and_eq_true] at h
  exact List.nodup_cons.2 ⟨by simpa using h.1,nd h.2⟩
end
section
variable {call : QR} {P : Program} {E : Q9} {O : QF} {d : Option Tmp} {ty tt xt : TypeId} {ps : String} {af : Array Edge} {g : Option (Nat × Bool)} {x y : Operand} {kk : IntKind} {a b : Int} {m n : Nat}
theorem xls (hx:VEv E x (.int kk a)) (hy:VEv E y (.int kk b)):OF call P E ⟨d, .binOp .lss tt x y xt,ty,ps,af,g⟩ (.bool (decide (a<b))):=B.lss hx hy Y
theorem xle (hx:VEv E x (.int kk a)) (hy:VEv E y (.int kk b)):OF call P E ⟨d, .binOp .leq tt x y xt,ty,ps,af,g⟩ (.bool (decide (a≤b))):=B.leq hx hy Y
theorem xgt (hx:VEv E x (.int kk a)) (hy:VEv E y (.int kk b)):OF call P E ⟨d, .binOp .gtr tt x y xt,ty,ps,af,g⟩ (.bool (decide (b<a))):=B.gtr hx hy Y
theorem xge (hx:VEv E x (.int kk a)) (hy:VEv E y (.int kk b)):OF call P E ⟨d, .binOp .geq tt x y xt,ty,ps,af,g⟩ (.bool (decide (b≤a))):=B.geq hx hy Y
theorem Y9 (hx:VEv E x (.int kk a)) (hy:VEv E y (.int kk b)):OF call P E ⟨d, .binOp .eql tt x y xt,ty,ps,af,g⟩ (.bool (decide (a=b))):=B.eql hx hy Y
theorem xne (hx:VEv E x (.int kk a)) (hy:VEv E y (.int kk b)):OF call P E ⟨d, .binOp .neq tt x y xt,ty,ps,af,g⟩ (.bool (!decide (a=b))):=B.neq hx hy Y
theorem Zb (hx:VEv E x (tN m)) (hy:VEv E y (tN n)):OF call P E ⟨d, .binOp .lss tt x y xt,ty,ps,af,g⟩ (.bool (decide (m<n))):=B.lss hx hy (Q6 (by omega))
theorem QkF (hx:VEv E x (tN m)) (hy:VEv E y (tN n)):OF call P E ⟨d, .binOp .eql tt x y xt,ty,ps,af,g⟩ (.bool (decide (m=n))):=B.eql hx hy (Q6 (by omega))
theorem Qir (hx:VEv E x (tN m)) (hy:VEv E y (tN n)):OF call P E ⟨d, .binOp .neq tt x y xt,ty,ps,af,g⟩ (.bool (!decide (m=n))):=B.neq hx hy (congrArg (!·) (Q6 (by omega)))
theorem Q1 {b1:Bool} (hx:VEv E x (.bool b1)):OF call P E ⟨d, .unOp .not tt x,ty,ps,af,g⟩ (.bool (!b1)):=B.not hx Y
theorem Qy (hx:VEv E x (tN m)) (hy:VEv E y (.int .i64 1)) (h:m+1<9223372036854775808):OF call P E ⟨d, .binOp .add tt x y xt,ty,ps,af,g⟩ (tN (m+1)):=B.add hx hy (by rw [Qx (by omega)];omega)
theorem xcv {k0 kd:IntKind} {st dt:TypeId} {m:Int} (hx:VEv E x (.int k0 a)) (h1:P.underlying st=some (.int k0)) (h2:P.underlying dt=some (.int kd)) (he:kd.wrap a=m):OF call P E ⟨d, .convert st dt x,ty,ps,af,g⟩ (.int kd m):=he▸OF.convI hx h1 h2
theorem xix {s:ByteArray} (hx:VEv E x (.str s)) (hy:VEv E y (tN m)) (hi:m<s.size) (hu:P.underlying tt=some .string):OF call P E ⟨d, .index tt x y,ty,ps,af,g⟩ (.int .u8 (QA s m)):=B.index hx hy Y hi hu (Jc hi)
end
section
variable {call : QR} {P : Program} {ops : Array Oper} {l : List Oper} {E : Q9} {O : QF} {nx : Nat} {K : Q9 → QF → Nat → Prop} {d1 a : Nat} {d2 : Option Tmp} {ty1 ty2 tt tt2 : TypeId} {ps1 ps2 : String} {af1 af2 : Array Edge} {j k o off : Nat} {us : List T}
theorem Qe9 (E:Q9) (n:Nat) (t:T):gE ((n,t)::E) n=t:=by simp [gE]
theorem lf (t:T) (h:gE E a= .op k o) (fa:∀k o,Qh P tt (.pointer (some ⟨k,o,none⟩)) j=some (.pointer (some ⟨k,o+off,none⟩))) (hk:gO O k=some (.cells us)) (ht:us[o+off]? =some t) (hst:QB P tt2=some false) (hK:VRunO call P ops l (pE ((d1, .op k (o+off))::E) d2 t) O nx K) :
  VRunO call P ops (⟨some d1, .fieldAddr tt (.tmp a) j,ty1,ps1,af1,none⟩::⟨d2, .load tt2 (.tmp d1),ty2,ps2,af2,none⟩::l) E O nx K:=fO (OF.fieldAddrO (VEv.tmp h) fa) (lO (OL.loadO1 (VEv.tmp (Qe9 _ _ _)) hk ht hst) hK)
theorem lr (t:T) (h:gE E a= .rp us) (hn:off≤us.length) (fa:∀k o,Qh P tt (.pointer (some ⟨k,o,none⟩)) j=some (.pointer (some ⟨k,o+off,none⟩))) (ht:(us.drop off)[0]? =some t) (hst:QB P tt2=some false) (hK:VRunO call P ops l (pE ((d1, .rp (us.drop off))::E) d2 t) O nx K) :
  VRunO call P ops (⟨some d1, .fieldAddr tt (.tmp a) j,ty1,ps1,af1,none⟩::⟨d2, .load tt2 (.tmp d1),ty2,ps2,af2,none⟩::l) E O nx K:=fO (B.fieldAddrR (VEv.tmp h) hn fa Y) (lO (OL.loadR1 (VEv.tmp (Qe9 _ _ _)) ht hst) hK)
variable {i q : Nat} {w b : Bool} {t0 : T}
theorem Yx (t:T) (hb:b=w) (hd:(ops[i]?).bind (·.dst)=some q) (hq:gE E q= .bool b) (hne:(q == d1)=false) (h:gE E a= .op k o) (fa:∀k o,Qh P tt (.pointer (some ⟨k,o,none⟩)) j=some (.pointer (some ⟨k,o+off,none⟩))) (hk:gO O k=some (.cells us)) (ht:us[o+off]? =some t) (hst:QB P tt2=some false) (hK:VRunO call P ops l (pE ((d1, .op k (o+off))::E) d2 t) O nx K) :
  VRunO call P ops (⟨some d1, .fieldAddr tt (.tmp a) j,ty1,ps1,af1,some (i,w)⟩::⟨d2, .load tt2 (.tmp d1),ty2,ps2,af2,some (i,w)⟩::l) E O nx K:=gF hb hd hq (OF.fieldAddrO (VEv.tmp h) fa) (gL hb hd ((QjC E hne _).trans hq) (OL.loadO1 (VEv.tmp (Qe9 _ _ _)) hk ht hst) hK)
theorem glr (t:T) (hb:b=w) (hd:(ops[i]?).bind (·.dst)=some q) (hq:gE E q= .bool b) (hne:(q == d1)=false) (h:gE E a= .rp us) (hn:off≤us.length) (fa:∀k o,Qh P tt (.pointer (some ⟨k,o,none⟩)) j=some (.pointer (some ⟨k,o+off,none⟩))) (ht:(us.drop off)[0]? =some t) (hst:QB P tt2=some false) (hK:VRunO call P ops l (pE ((d1, .rp (us.drop off))::E) d2 t) O nx K) :
  VRunO call P ops (⟨some d1, .fieldAddr tt (.tmp a) j,ty1,ps1,af1,some (i,w)⟩::⟨d2, .load tt2 (.tmp d1),ty2,ps2,af2,some (i,w)⟩::l) E O nx K:=gF hb hd hq (B.fieldAddrR (VEv.tmp h) hn fa Y) (gL hb hd ((QjC E hne _).trans hq) (OL.loadR1 (VEv.tmp (Qe9 _ _ _)) ht hst) hK)
def Qln (i:Nat) (w:Bool) (q:Nat):List Oper→Bool
 | []=>true
 | o::r=>(match o.guard with | some (a,b)=>Nat.beq a i && (b == w) | none=>false) && (match o.dst with | some d=> !(Nat.beq d q) | none=>true) && Qln i w q r
def Qm6 (E:Q9):List Oper→Q9
 | []=>E
 | o::r=>Qm6 (pE E o.dst (.tup [])) r
theorem Qow (hd:(ops[i]?).bind (·.dst)=some q) (hv:∀(dd:Option Tmp) (op:Op) (ty:TypeId) (ps:String) (af:Array Edge) (E:Q9),gE E q=t0→VWant ops E ⟨dd,op,ty,ps,af,some (i,w)⟩ false) {l2:List Oper} (l1:List Oper):∀(E:Q9),Qln i w q l1=true→gE E q=t0→VRunO call P ops l2 (Qm6 E l1) O nx K→VRunO call P ops (l1++l2) E O nx K:=by
 induction l1 with
 | nil=>exact fun E _ _ hK=>hK
 | cons o r ih =>
  intro E hc hq hK
  obtain ⟨dd,op,ty,ps,af,g⟩:=o
  simp only [Qln,Bool.and_eq_true] at hc
  obtain ⟨⟨h1,h2⟩,h3⟩:=hc
  cases g with
  | none=>cases h1
  | some g =>
   obtain ⟨a,b⟩:=g
   simp only [Bool.and_eq_true] at h1
   have e1:a=i:=Nat.eq_of_beq_eq_true h1.1
   have e2:b=w:=by simpa using h1.2
   subst e1
   subst e2
   refine VRunO.off (hv _ _ _ _ _ _ hq) (ih _ h3 ?_ hK)
   cases dd with
   | none=>exact hq
   | some d =>
    refine (QjC E (d:=d) (t:=q) ?_ _).trans hq
    rw [beq_eq_false_iff_ne]
    rintro rfl
    simp at h2
theorem QE (m i:Nat) (w:Bool) (q:Nat) (hb:b= !w) (hd:(ops[i]?).bind (·.dst)=some q) (hq:gE E q= .bool b) (hc:Qln i w q (l.take m)=true) (hK:VRunO call P ops (l.drop m) (Qm6 E (l.take m)) O nx K):VRunO call P ops l E O nx K:=by
 rw [← List.take_append_drop m l]
 exact Qow hd (fun _ _ _ _ _ _ h=>VWant.not hd h hb) _ _ hc hq hK
theorem QaQ (m i:Nat) (w:Bool) (q:Nat) (hd:(ops[i]?).bind (·.dst)=some q) (hq:gE E q= .tup []) (hc:Qln i w q (l.take m)=true) (hK:VRunO call P ops (l.drop m) (Qm6 E (l.take m)) O nx K):VRunO call P ops l E O nx K:=by
 rw [← List.take_append_drop m l]
 exact Qow hd (fun _ _ _ _ _ _ h=>VWant.undef hd h) _ _ hc hq hK
end
structure D.Grid where
 Rows:Int
 Cols:Int
 Cells:ByteArray
def Qll : AK D.Grid:=AK.iso (AK.pair (AK.int .i64) (AK.pair (AK.int .i64) AK.string)) (fun x=>(x.Rows,x.Cols,x.Cells))
def Qma (x:D.Grid):Prop:=((Lit.int .i64 x.Rows).wf=true)∧((Lit.int .i64 x.Cols).wf=true)∧(x.Cells.size≤maxLen)
structure D.Step where
 Kind:Int
 Word:ByteArray
 A:Int
 B:Int
def Qld : AK D.Step:=AK.iso (AK.pair (AK.int .i64) (AK.pair AK.string (AK.pair (AK.int .i64) (AK.int .i64)))) (fun x=>(x.Kind,x.Word,x.A,x.B))
def QjT (x:D.Step):Prop:=((Lit.int .i64 x.Kind).wf=true)∧(x.Word.size≤maxLen)∧((Lit.int .i64 x.A).wf=true)∧((Lit.int .i64 x.B).wf=true)
structure D.Clue where
 Sense:Int
 Play:_root_.List D.Step
def Qkg : AK D.Clue:=AK.iso (AK.pair (AK.int .i64) (AK.slice Qld)) (fun x=>(x.Sense,x.Play))
def QiH (x:D.Clue):Prop:=((Lit.int .i64 x.Sense).wf=true)∧((x.Play.length≤maxLen∧∀y∈x.Play,QjT y))
structure D.Puzzle where
 Grid:D.Grid
 Clues:_root_.List D.Clue
 Seals:_root_.List Int
 Salt:Int
def QhW : AK D.Puzzle:=AK.iso (AK.pair Qll (AK.pair (AK.slice Qkg) (AK.pair (AK.slice (AK.int .i64)) (AK.int .i64)))) (fun x=>(x.Grid,x.Clues,x.Seals,x.Salt))
def Qhv (x:D.Puzzle):Prop:=(Qma x.Grid)∧((x.Clues.length≤maxLen∧∀y∈x.Clues,QiH y))∧((x.Seals.length≤maxLen∧∀y∈x.Seals,(Lit.int .i64 y).wf=true))∧((Lit.int .i64 x.Salt).wf=true)
structure D.Issue where
 Number:Int
 Puzzle:D.Puzzle
 Fill:ByteArray
 Open:Int
 Close:Int
def QlV : AK D.Issue:=AK.iso (AK.pair (AK.int .i64) (AK.pair QhW (AK.pair AK.string (AK.pair (AK.int .i64) (AK.int .i64))))) (fun x=>(x.Number,x.Puzzle,x.Fill,x.Open,x.Close))
def Qjx (x:D.Issue):Prop:=((Lit.int .i64 x.Number).wf=true)∧(Qhv x.Puzzle)∧(x.Fill.size≤maxLen)∧((Lit.int .i64 x.Open).wf=true)∧((Lit.int .i64 x.Close).wf=true)
structure D.Correction where
 Issue:Int
 Slot:Int
 Clue:D.Clue
 Tick:Int
def QeA : AK D.Correction:=AK.iso (AK.pair (AK.int .i64) (AK.pair (AK.int .i64) (AK.pair Qkg (AK.int .i64)))) (fun x=>(x.Issue,x.Slot,x.Clue,x.Tick))
def Qao (x:D.Correction):Prop:=((Lit.int .i64 x.Issue).wf=true)∧((Lit.int .i64 x.Slot).wf=true)∧(QiH x.Clue)∧((Lit.int .i64 x.Tick).wf=true)
structure D.Slot where
 Number:Int
 Down:Bool
 Cell:Int
 Length:Int
theorem Qo0 : Y0 Tryz.prog 23 Qll Qma:=Y6 (Ys (P:=Tryz.prog) (t:=23) (fun x:D.Grid=>(x.Rows,x.Cols,x.Cells)) (fun x=>⟨x.1,x.2.1,x.2.2⟩) (fun _=>rfl) Tryz.underlying23 (by kernel_rfl) (Q3 Y (by kernel_rfl) (Zq (k:= .i64) Tryz.underlying3) (Q3 Y (by kernel_rfl) (Zq (k:= .i64) Tryz.underlying3) (Y7 Y (by kernel_rfl) (QaU Tryz.underlying9))))) (fun _ h=>h)
theorem Qoo : Y0 Tryz.prog 154 Qld QjT:=Y6 (Ys (P:=Tryz.prog) (t:=154) (fun x:D.Step=>(x.Kind,x.Word,x.A,x.B)) (fun x=>⟨x.1,x.2.1,x.2.2.1,x.2.2.2⟩) (fun _=>rfl) Tryz.underlying154 (by kernel_rfl) (Q3 Y (by kernel_rfl) (Zq (k:= .i64) Tryz.underlying3) (Q3 Y (by kernel_rfl) (QaU Tryz.underlying9) (Q3 Y (by kernel_rfl) (Zq (k:= .i64) Tryz.underlying3) (Y7 Y (by kernel_rfl) (Zq (k:= .i64) Tryz.underlying3)))))) (fun _ h=>h)
theorem QoP : Y0 Tryz.prog 76 Qkg QiH:=Y6 (Ys (P:=Tryz.prog) (t:=76) (fun x:D.Clue=>(x.Sense,x.Play)) (fun x=>⟨x.1,x.2⟩) (fun _=>rfl) Tryz.underlying76 (by kernel_rfl) (Q3 Y (by kernel_rfl) (Zq (k:= .i64) Tryz.underlying3) (Y7 Y (by kernel_rfl) (JU Tryz.underlying74 (by kernel_rfl) (of_decide_eq_true (by kernel_rfl)) Qoo)))) (fun _ h=>h)
theorem Qo2 : Y0 Tryz.prog 27 QhW Qhv:=Y6 (Ys (P:=Tryz.prog) (t:=27) (fun x:D.Puzzle=>(x.Grid,x.Clues,x.Seals,x.Salt)) (fun x=>⟨x.1,x.2.1,x.2.2.1,x.2.2.2⟩) (fun _=>rfl) Tryz.underlying27 (by kernel_rfl) (Q3 Y (by kernel_rfl) Qo0 (Q3 Y (by kernel_rfl) (JU Tryz.underlying24 (by kernel_rfl) (of_decide_eq_true (by kernel_rfl)) QoP) (Q3 Y (by kernel_rfl) (JU Tryz.underlying25 (by kernel_rfl) (of_decide_eq_true (by kernel_rfl)) (Zq (k:= .i64) Tryz.underlying3)) (Y7 Y (by kernel_rfl) (Zq (k:= .i64) Tryz.underlying3)))))) (fun _ h=>h)
theorem Qpc : Y0 Tryz.prog 29 QlV Qjx:=Y6 (Ys (P:=Tryz.prog) (t:=29) (fun x:D.Issue=>(x.Number,x.Puzzle,x.Fill,x.Open,x.Close)) (fun x=>⟨x.1,x.2.1,x.2.2.1,x.2.2.2.1,x.2.2.2.2⟩) (fun _=>rfl) Tryz.underlying29 (by kernel_rfl) (Q3 Y (by kernel_rfl) (Zq (k:= .i64) Tryz.underlying3) (Q3 Y (by kernel_rfl) Qo2 (Q3 Y (by kernel_rfl) (QaU Tryz.underlying9) (Q3 Y (by kernel_rfl) (Zq (k:= .i64) Tryz.underlying3) (Y7 Y (by kernel_rfl) (Zq (k:= .i64) Tryz.underlying3))))))) (fun _ h=>h)
theorem QoZ : Y0 Tryz.prog 78 QeA Qao:=Y6 (Ys (P:=Tryz.prog) (t:=78) (fun x:D.Correction=>(x.Issue,x.Slot,x.Clue,x.Tick)) (fun x=>⟨x.1,x.2.1,x.2.2.1,x.2.2.2⟩) (fun _=>rfl) Tryz.underlying78 (by kernel_rfl) (Q3 Y (by kernel_rfl) (Zq (k:= .i64) Tryz.underlying3) (Q3 Y (by kernel_rfl) (Zq (k:= .i64) Tryz.underlying3) (Q3 Y (by kernel_rfl) QoP (Y7 Y (by kernel_rfl) (Zq (k:= .i64) Tryz.underlying3)))))) (fun _ h=>h)
theorem sz2 : Tryz.prog.cellsOf 2=1:=by kernel_rfl
theorem QQ : QB Tryz.prog 3=some false:=by kernel_rfl
theorem Zd : Tryz.prog.cellsOf 3=1:=by kernel_rfl
theorem Yo : (Tryz.prog.info? 3).isSome=true:=by kernel_rfl
theorem JW : Zk Tryz.prog 3=some (.int .i64 0):=by kernel_rfl
theorem zc3 : closedV (.int .i64 0)=true:=by kernel_rfl
theorem st4 : QB Tryz.prog 4=some false:=by kernel_rfl
theorem sz4 : Tryz.prog.cellsOf 4=1:=by kernel_rfl
theorem if4 : (Tryz.prog.info? 4).isSome=true:=by kernel_rfl
theorem zo4 : Zk Tryz.prog 4=some (.bool false):=by kernel_rfl
theorem zc4 : closedV (.bool false)=true:=by kernel_rfl
theorem st5 : QB Tryz.prog 5=some false:=by kernel_rfl
theorem sz5 : Tryz.prog.cellsOf 5=1:=by kernel_rfl
theorem if5 : (Tryz.prog.info? 5).isSome=true:=by kernel_rfl
theorem zo5 : Zk Tryz.prog 5=some (.int .u8 0):=by kernel_rfl
theorem Yp : QB Tryz.prog 9=some false:=by kernel_rfl
theorem sz9 : Tryz.prog.cellsOf 9=1:=by kernel_rfl
theorem if9 : (Tryz.prog.info? 9).isSome=true:=by kernel_rfl
theorem zo9 : Zk Tryz.prog 9=some (.string ByteArray.empty):=by kernel_rfl
theorem QoL : QB Tryz.prog 23=some true:=by kernel_rfl
theorem QnX : Tryz.prog.cellsOf 23=3:=by kernel_rfl
theorem QoY : (Tryz.prog.info? 23).isSome=true:=by kernel_rfl
theorem QoC : QB Tryz.prog 24=some false:=by kernel_rfl
theorem Qo5 : Tryz.prog.cellsOf 24=1:=by kernel_rfl
theorem Qo3 : (Tryz.prog.info? 24).isSome=true:=by kernel_rfl
theorem QbP : QB Tryz.prog 25=some false:=by kernel_rfl
theorem QgB : Tryz.prog.cellsOf 25=1:=by kernel_rfl
theorem Qi8 : (Tryz.prog.info? 25).isSome=true:=by kernel_rfl
theorem QoH : Zk Tryz.prog 25=some (.slice none 0 0):=by kernel_rfl
theorem QoR : QB Tryz.prog 27=some true:=by kernel_rfl
theorem Qn2 : Tryz.prog.cellsOf 27=6:=by kernel_rfl
theorem Qo8 : (Tryz.prog.info? 27).isSome=true:=by kernel_rfl
theorem Ql3 : QB Tryz.prog 29=some true:=by kernel_rfl
theorem Qk8 : Tryz.prog.cellsOf 29=10:=by kernel_rfl
theorem Q4 : QB Tryz.prog 34=some true:=by kernel_rfl
theorem QX : Tryz.prog.cellsOf 34=3:=by kernel_rfl
theorem Qi7 : (Tryz.prog.info? 34).isSome=true:=by kernel_rfl
theorem Qkr : Zk Tryz.prog 34=some (.agg #[.int .i64 0, .int .i64 0, .string ByteArray.empty]):=by kernel_rfl
theorem QmJ : closedV (.agg #[.int .i64 0, .int .i64 0, .string ByteArray.empty])=true:=by kernel_rfl
theorem QbE : QB Tryz.prog 35=some false:=by kernel_rfl
theorem Qon : Tryz.prog.cellsOf 35=1:=by kernel_rfl
theorem QoM : (Tryz.prog.info? 35).isSome=true:=by kernel_rfl
theorem Jn : QB Tryz.prog 37=some true:=by kernel_rfl
theorem Yc : Tryz.prog.cellsOf 37=6:=by kernel_rfl
theorem Qdl : (Tryz.prog.info? 37).isSome=true:=by kernel_rfl
theorem Qc0 : Zk Tryz.prog 37=some (.agg #[.int .i64 0, .int .i64 0, .string ByteArray.empty, .slice none 0 0, .slice none 0 0, .int .i64 0]):=by kernel_rfl
theorem Qf4 : closedV (.agg #[.int .i64 0, .int .i64 0, .string ByteArray.empty, .slice none 0 0, .slice none 0 0, .int .i64 0])=true:=by kernel_rfl
theorem Qgg : QB Tryz.prog 39=some true:=by kernel_rfl
theorem QeR : Tryz.prog.cellsOf 39=10:=by kernel_rfl
theorem Qoy : (Tryz.prog.info? 39).isSome=true:=by kernel_rfl
theorem Qn1 : Zk Tryz.prog 39=some (.agg #[.int .i64 0, .int .i64 0, .int .i64 0, .string ByteArray.empty, .slice none 0 0, .slice none 0 0, .int .i64 0, .string ByteArray.empty, .int .i64 0, .int .i64 0]):=by kernel_rfl
theorem QnZ : closedV (.agg #[.int .i64 0, .int .i64 0, .int .i64 0, .string ByteArray.empty, .slice none 0 0, .slice none 0 0, .int .i64 0, .string ByteArray.empty, .int .i64 0, .int .i64 0])=true:=by kernel_rfl
theorem QoI : QB Tryz.prog 74=some false:=by kernel_rfl
theorem Qo4 : Tryz.prog.cellsOf 74=1:=by kernel_rfl
theorem Qpa : (Tryz.prog.info? 74).isSome=true:=by kernel_rfl
theorem QmD : QB Tryz.prog 76=some true:=by kernel_rfl
theorem Qi3 : Tryz.prog.cellsOf 76=2:=by kernel_rfl
theorem QnW : (Tryz.prog.info? 76).isSome=true:=by kernel_rfl
theorem Qom : QB Tryz.prog 78=some true:=by kernel_rfl
theorem QmC : Tryz.prog.cellsOf 78=5:=by kernel_rfl
theorem Qol : (Tryz.prog.info? 78).isSome=true:=by kernel_rfl
theorem Qhl : QB Tryz.prog 81=some false:=by kernel_rfl
theorem QoK : Tryz.prog.cellsOf 81=1:=by kernel_rfl
theorem QoD : (Tryz.prog.info? 81).isSome=true:=by kernel_rfl
theorem Qby : QB Tryz.prog 83=some true:=by kernel_rfl
theorem ZP : Tryz.prog.cellsOf 83=2:=by kernel_rfl
theorem Qak : (Tryz.prog.info? 83).isSome=true:=by kernel_rfl
theorem Qel : Zk Tryz.prog 83=some (.agg #[.int .i64 0, .slice none 0 0]):=by kernel_rfl
theorem Qks : closedV (.agg #[.int .i64 0, .slice none 0 0])=true:=by kernel_rfl
theorem Qjw : QB Tryz.prog 85=some true:=by kernel_rfl
theorem Yv : Tryz.prog.cellsOf 85=5:=by kernel_rfl
theorem Jk : (Tryz.prog.info? 85).isSome=true:=by kernel_rfl
theorem QkZ : Zk Tryz.prog 85=some (.agg #[.int .i64 0, .int .i64 0, .int .i64 0, .slice none 0 0, .int .i64 0]):=by kernel_rfl
theorem QkM : closedV (.agg #[.int .i64 0, .int .i64 0, .int .i64 0, .slice none 0 0, .int .i64 0])=true:=by kernel_rfl
theorem Qg7 : QB Tryz.prog 121=some true:=by kernel_rfl
theorem ZQ : Tryz.prog.cellsOf 121=4:=by kernel_rfl
theorem Je : (Tryz.prog.info? 121).isSome=true:=by kernel_rfl
theorem Qc8 : Zk Tryz.prog 121=some (.agg #[.int .i64 0, .string ByteArray.empty, .int .i64 0, .int .i64 0]):=by kernel_rfl
theorem Qio : closedV (.agg #[.int .i64 0, .string ByteArray.empty, .int .i64 0, .int .i64 0])=true:=by kernel_rfl
theorem Qdw : QB Tryz.prog 138=some true:=by kernel_rfl
theorem Zt : Tryz.prog.cellsOf 138=4:=by kernel_rfl
theorem Qbt : (Tryz.prog.info? 138).isSome=true:=by kernel_rfl
theorem YP : Zk Tryz.prog 138=some (.agg #[.int .i64 0, .bool false, .int .i64 0, .int .i64 0]):=by kernel_rfl
theorem QlS : closedV (.agg #[.int .i64 0, .bool false, .int .i64 0, .int .i64 0])=true:=by kernel_rfl
theorem Qnf : QB Tryz.prog 154=some true:=by kernel_rfl
theorem QjS : Tryz.prog.cellsOf 154=4:=by kernel_rfl
theorem Qnl : (Tryz.prog.info? 154).isSome=true:=by kernel_rfl
theorem QlU : QB Tryz.prog 176=some false:=by kernel_rfl
theorem QoJ : Tryz.prog.cellsOf 176=1:=by kernel_rfl
theorem Qov : (Tryz.prog.info? 176).isSome=true:=by kernel_rfl
theorem QoG : Zk Tryz.prog 176=some (.slice none 0 0):=by kernel_rfl
theorem Qop : closedV (.slice none 0 0)=true:=by kernel_rfl
theorem Qie : QB Tryz.prog 178=some false:=by kernel_rfl
theorem Qos : Tryz.prog.cellsOf 178=1:=by kernel_rfl
theorem QoA : (Tryz.prog.info? 178).isSome=true:=by kernel_rfl
theorem QnJ (k o:Nat):Qh Tryz.prog 23 (.pointer (some ⟨k,o,none⟩)) 0=some (.pointer (some ⟨k,o+0,none⟩)):=by simp [Qh,Tryz.underlying23,Yo,Zd]
theorem QnM (k o:Nat):Qh Tryz.prog 23 (.pointer (some ⟨k,o,none⟩)) 1=some (.pointer (some ⟨k,o+1,none⟩)):=by simp [Qh,Tryz.underlying23,Yo,Zd]
theorem Qk7 (k o:Nat):Qh Tryz.prog 23 (.pointer (some ⟨k,o,none⟩)) 2=some (.pointer (some ⟨k,o+2,none⟩)):=by simp [Qh,Tryz.underlying23,if9,sz9]
theorem Ql6 (k o:Nat):Qh Tryz.prog 27 (.pointer (some ⟨k,o,none⟩)) 0=some (.pointer (some ⟨k,o+0,none⟩)):=by simp [Qh,Tryz.underlying27,QoY,QnX]
theorem Ql5 (k o:Nat):Qh Tryz.prog 27 (.pointer (some ⟨k,o,none⟩)) 1=some (.pointer (some ⟨k,o+3,none⟩)):=by simp [Qh,Tryz.underlying27,Qo3,Qo5]
theorem Ql0 (k o:Nat):Qh Tryz.prog 27 (.pointer (some ⟨k,o,none⟩)) 2=some (.pointer (some ⟨k,o+4,none⟩)):=by simp [Qh,Tryz.underlying27,Qi8,QgB]
theorem QnN (k o:Nat):Qh Tryz.prog 27 (.pointer (some ⟨k,o,none⟩)) 3=some (.pointer (some ⟨k,o+5,none⟩)):=by simp [Qh,Tryz.underlying27,Yo,Zd]
theorem Qnn (k o:Nat):Qh Tryz.prog 29 (.pointer (some ⟨k,o,none⟩)) 0=some (.pointer (some ⟨k,o+0,none⟩)):=by simp [Qh,Tryz.underlying29,Yo,Zd]
theorem QlP (k o:Nat):Qh Tryz.prog 29 (.pointer (some ⟨k,o,none⟩)) 1=some (.pointer (some ⟨k,o+1,none⟩)):=by simp [Qh,Tryz.underlying29,Qo8,Qn2]
theorem Ql8 (k o:Nat):Qh Tryz.prog 29 (.pointer (some ⟨k,o,none⟩)) 2=some (.pointer (some ⟨k,o+7,none⟩)):=by simp [Qh,Tryz.underlying29,if9,sz9]
theorem QnH (k o:Nat):Qh Tryz.prog 29 (.pointer (some ⟨k,o,none⟩)) 3=some (.pointer (some ⟨k,o+8,none⟩)):=by simp [Qh,Tryz.underlying29,Yo,Zd]
theorem QnE (k o:Nat):Qh Tryz.prog 29 (.pointer (some ⟨k,o,none⟩)) 4=some (.pointer (some ⟨k,o+9,none⟩)):=by simp [Qh,Tryz.underlying29,Yo,Zd]
theorem QaK (k o:Nat):Qh Tryz.prog 34 (.pointer (some ⟨k,o,none⟩)) 0=some (.pointer (some ⟨k,o+0,none⟩)):=by simp [Qh,Tryz.underlying34,Yo,Zd]
theorem Zx (k o:Nat):Qh Tryz.prog 34 (.pointer (some ⟨k,o,none⟩)) 1=some (.pointer (some ⟨k,o+1,none⟩)):=by simp [Qh,Tryz.underlying34,Yo,Zd]
theorem QN (k o:Nat):Qh Tryz.prog 34 (.pointer (some ⟨k,o,none⟩)) 2=some (.pointer (some ⟨k,o+2,none⟩)):=by simp [Qh,Tryz.underlying34,if9,sz9]
theorem Ju (k o:Nat):Qh Tryz.prog 37 (.pointer (some ⟨k,o,none⟩)) 0=some (.pointer (some ⟨k,o+0,none⟩)):=by simp [Qh,Tryz.underlying37,Qi7,QX]
theorem Yu (k o:Nat):Qh Tryz.prog 37 (.pointer (some ⟨k,o,none⟩)) 1=some (.pointer (some ⟨k,o+3,none⟩)):=by simp [Qh,Tryz.underlying37,QoM,Qon]
theorem JH (k o:Nat):Qh Tryz.prog 37 (.pointer (some ⟨k,o,none⟩)) 2=some (.pointer (some ⟨k,o+4,none⟩)):=by simp [Qh,Tryz.underlying37,Qi8,QgB]
theorem Qbm (k o:Nat):Qh Tryz.prog 37 (.pointer (some ⟨k,o,none⟩)) 3=some (.pointer (some ⟨k,o+5,none⟩)):=by simp [Qh,Tryz.underlying37,Yo,Zd]
theorem QbF (k o:Nat):Qh Tryz.prog 39 (.pointer (some ⟨k,o,none⟩)) 0=some (.pointer (some ⟨k,o+0,none⟩)):=by simp [Qh,Tryz.underlying39,Yo,Zd]
theorem QaV (k o:Nat):Qh Tryz.prog 39 (.pointer (some ⟨k,o,none⟩)) 1=some (.pointer (some ⟨k,o+1,none⟩)):=by simp [Qh,Tryz.underlying39,Qdl,Yc]
theorem Qfy (k o:Nat):Qh Tryz.prog 39 (.pointer (some ⟨k,o,none⟩)) 2=some (.pointer (some ⟨k,o+7,none⟩)):=by simp [Qh,Tryz.underlying39,if9,sz9]
theorem Qc3 (k o:Nat):Qh Tryz.prog 39 (.pointer (some ⟨k,o,none⟩)) 3=some (.pointer (some ⟨k,o+8,none⟩)):=by simp [Qh,Tryz.underlying39,Yo,Zd]
theorem QcM (k o:Nat):Qh Tryz.prog 39 (.pointer (some ⟨k,o,none⟩)) 4=some (.pointer (some ⟨k,o+9,none⟩)):=by simp [Qh,Tryz.underlying39,Yo,Zd]
theorem Qnv (k o:Nat):Qh Tryz.prog 76 (.pointer (some ⟨k,o,none⟩)) 0=some (.pointer (some ⟨k,o+0,none⟩)):=by simp [Qh,Tryz.underlying76,Yo,Zd]
theorem Qmk (k o:Nat):Qh Tryz.prog 76 (.pointer (some ⟨k,o,none⟩)) 1=some (.pointer (some ⟨k,o+1,none⟩)):=by simp [Qh,Tryz.underlying76,Qpa,Qo4]
theorem Qnp (k o:Nat):Qh Tryz.prog 78 (.pointer (some ⟨k,o,none⟩)) 0=some (.pointer (some ⟨k,o+0,none⟩)):=by simp [Qh,Tryz.underlying78,Yo,Zd]
theorem Qny (k o:Nat):Qh Tryz.prog 78 (.pointer (some ⟨k,o,none⟩)) 1=some (.pointer (some ⟨k,o+1,none⟩)):=by simp [Qh,Tryz.underlying78,Yo,Zd]
theorem Qlv (k o:Nat):Qh Tryz.prog 78 (.pointer (some ⟨k,o,none⟩)) 2=some (.pointer (some ⟨k,o+2,none⟩)):=by simp [Qh,Tryz.underlying78,QnW,Qi3]
theorem Qnu (k o:Nat):Qh Tryz.prog 78 (.pointer (some ⟨k,o,none⟩)) 3=some (.pointer (some ⟨k,o+4,none⟩)):=by simp [Qh,Tryz.underlying78,Yo,Zd]
theorem QaL (k o:Nat):Qh Tryz.prog 83 (.pointer (some ⟨k,o,none⟩)) 0=some (.pointer (some ⟨k,o+0,none⟩)):=by simp [Qh,Tryz.underlying83,Yo,Zd]
theorem QaG (k o:Nat):Qh Tryz.prog 83 (.pointer (some ⟨k,o,none⟩)) 1=some (.pointer (some ⟨k,o+1,none⟩)):=by simp [Qh,Tryz.underlying83,QoD,QoK]
theorem Qbg (k o:Nat):Qh Tryz.prog 85 (.pointer (some ⟨k,o,none⟩)) 0=some (.pointer (some ⟨k,o+0,none⟩)):=by simp [Qh,Tryz.underlying85,Yo,Zd]
theorem J6 (k o:Nat):Qh Tryz.prog 85 (.pointer (some ⟨k,o,none⟩)) 1=some (.pointer (some ⟨k,o+1,none⟩)):=by simp [Qh,Tryz.underlying85,Yo,Zd]
theorem Qbp (k o:Nat):Qh Tryz.prog 85 (.pointer (some ⟨k,o,none⟩)) 2=some (.pointer (some ⟨k,o+2,none⟩)):=by simp [Qh,Tryz.underlying85,Qak,ZP]
theorem Jz (k o:Nat):Qh Tryz.prog 85 (.pointer (some ⟨k,o,none⟩)) 3=some (.pointer (some ⟨k,o+4,none⟩)):=by simp [Qh,Tryz.underlying85,Yo,Zd]
theorem Zj (k o:Nat):Qh Tryz.prog 121 (.pointer (some ⟨k,o,none⟩)) 0=some (.pointer (some ⟨k,o+0,none⟩)):=by simp [Qh,Tryz.underlying121,Yo,Zd]
theorem JR (k o:Nat):Qh Tryz.prog 121 (.pointer (some ⟨k,o,none⟩)) 1=some (.pointer (some ⟨k,o+1,none⟩)):=by simp [Qh,Tryz.underlying121,if9,sz9]
theorem YI (k o:Nat):Qh Tryz.prog 121 (.pointer (some ⟨k,o,none⟩)) 2=some (.pointer (some ⟨k,o+2,none⟩)):=by simp [Qh,Tryz.underlying121,Yo,Zd]
theorem Yj (k o:Nat):Qh Tryz.prog 121 (.pointer (some ⟨k,o,none⟩)) 3=some (.pointer (some ⟨k,o+3,none⟩)):=by simp [Qh,Tryz.underlying121,Yo,Zd]
theorem Qj8 (k o:Nat):Qh Tryz.prog 138 (.pointer (some ⟨k,o,none⟩)) 1=some (.pointer (some ⟨k,o+1,none⟩)):=by simp [Qh,Tryz.underlying138,if4,sz4]
theorem Qfb (k o:Nat):Qh Tryz.prog 138 (.pointer (some ⟨k,o,none⟩)) 2=some (.pointer (some ⟨k,o+2,none⟩)):=by simp [Qh,Tryz.underlying138,Yo,Zd]
theorem Qbc (k o:Nat):Qh Tryz.prog 138 (.pointer (some ⟨k,o,none⟩)) 3=some (.pointer (some ⟨k,o+3,none⟩)):=by simp [Qh,Tryz.underlying138,Yo,Zd]
theorem Qm3 (k o:Nat):Qh Tryz.prog 154 (.pointer (some ⟨k,o,none⟩)) 0=some (.pointer (some ⟨k,o+0,none⟩)):=by simp [Qh,Tryz.underlying154,Yo,Zd]
theorem Qkc (k o:Nat):Qh Tryz.prog 154 (.pointer (some ⟨k,o,none⟩)) 1=some (.pointer (some ⟨k,o+1,none⟩)):=by simp [Qh,Tryz.underlying154,if9,sz9]
theorem QmG (k o:Nat):Qh Tryz.prog 154 (.pointer (some ⟨k,o,none⟩)) 2=some (.pointer (some ⟨k,o+2,none⟩)):=by simp [Qh,Tryz.underlying154,Yo,Zd]
theorem QmK (k o:Nat):Qh Tryz.prog 154 (.pointer (some ⟨k,o,none⟩)) 3=some (.pointer (some ⟨k,o+3,none⟩)):=by simp [Qh,Tryz.underlying154,Yo,Zd]
theorem Qo9 (a b:D.Grid):∃q,eqv Tryz.prog 20 34 (.agg #[Value.int .i64 a.Rows,Value.int .i64 a.Cols,Value.string a.Cells]) (.agg #[Value.int .i64 b.Rows,Value.int .i64 b.Cols,Value.string b.Cells])=some q∧(q=true↔a=b):=by
 refine ⟨_,QfU 19 Tryz.underlying34 Y (by kernel_rfl) (eqf_cons Y (ZL QQ Y) (ZL QQ Y) (Qdq 18 Tryz.underlying3) (eqf_cons Y (ZL QQ Y) (ZL QQ Y) (Qdq 18 Tryz.underlying3) (eqf_cons Y (ZL Yp Y) (ZL Yp Y) (QmV 18 Tryz.underlying9) QjW))),?_⟩
 obtain ⟨a0,a1,a2⟩:=a
 obtain ⟨b0,b1,b2⟩:=b
 simp
theorem QoF (a b:D.Grid) (xo yo:Operand):∃q,Z7 Tryz.prog .eql 34 xo yo (.agg #[Value.int .i64 a.Rows,Value.int .i64 a.Cols,Value.string a.Cells]) (.agg #[Value.int .i64 b.Rows,Value.int .i64 b.Cols,Value.string b.Cells])=some (.bool q)∧(q=true↔a=b):=by
 obtain ⟨q,h1,h2⟩:=Qo9 a b
 exact ⟨q,Qlm (by simp [closedV,closed1]) (by simp [closedV,closed1]) (by kernel_rfl) h1,h2⟩
theorem QoB (a b:D.Slot):∃q,eqv Tryz.prog 20 138 (.agg #[Value.int .i64 a.Number,Value.bool a.Down,Value.int .i64 a.Cell,Value.int .i64 a.Length]) (.agg #[Value.int .i64 b.Number,Value.bool b.Down,Value.int .i64 b.Cell,Value.int .i64 b.Length])=some q∧(q=true↔a=b):=by
 refine ⟨_,QfU 19 Tryz.underlying138 Y (by kernel_rfl) (eqf_cons Y (ZL QQ Y) (ZL QQ Y) (Qdq 18 Tryz.underlying3) (eqf_cons Y (ZL st4 Y) (ZL st4 Y) (Qlr 18 Tryz.underlying4) (eqf_cons Y (ZL QQ Y) (ZL QQ Y) (Qdq 18 Tryz.underlying3) (eqf_cons Y (ZL QQ Y) (ZL QQ Y) (Qdq 18 Tryz.underlying3) QjW)))),?_⟩
 obtain ⟨a0,a1,a2,a3⟩:=a
 obtain ⟨b0,b1,b2,b3⟩:=b
 simp
theorem QnV (a b:D.Slot) (xo yo:Operand):∃q,Z7 Tryz.prog .neq 138 xo yo (.agg #[Value.int .i64 a.Number,Value.bool a.Down,Value.int .i64 a.Cell,Value.int .i64 a.Length]) (.agg #[Value.int .i64 b.Number,Value.bool b.Down,Value.int .i64 b.Cell,Value.int .i64 b.Length])=some (.bool (!q))∧(q=true↔a=b):=by
 obtain ⟨q,h1,h2⟩:=QoB a b
 exact ⟨q,Qle (by simp [closedV,closed1]) (by simp [closedV,closed1]) (by kernel_rfl) h1,h2⟩
theorem follows : Tryz.prog.follows .mixedOrders=true:=by kernel_rfl
theorem QkU : Plain Tryz.prog:=by
 unfold Plain
 kernel_rfl
noncomputable instance : DecidableEq D.Grid:=Classical.typeDecidableEq _
def Qe (m:Bool) (x:D.Grid):List T:= [.int .i64 x.Rows, .int .i64 x.Cols, .str x.Cells]
theorem Qw : EncOk Qe 3:=⟨fun _ _=>rfl,fun x=>Qj (.int _ _) (Qj (.int _ _) (Qj (.str _) (Zn))),fun m x=>by simp only [Qe,fzL,AE.fz],fun m x=>Qj Y (Qj Y (Qj Y (Zn))),fun x=>Qj Y (Qj Y (Qj Y (Zn)))⟩
def ZD (x:D.Grid):Nat:=ByteArray.size x.Cells
theorem Qno : RK Qll Qe:=QgY (YR Qae (YR Qae QlT)) (fun _=>rfl)
theorem QlZ (m:Bool) (x:D.Grid):SvL (Qe m x) [Value.int .i64 x.Rows,Value.int .i64 x.Cols,Value.string x.Cells]:= .cons (.int _ _) (.cons (.int _ _) (.cons (.str _) (.nil)))
noncomputable instance : DecidableEq D.Step:=Classical.typeDecidableEq _
def Qg (m:Bool) (x:D.Step):List T:= [.int .i64 x.Kind, .str x.Word, .int .i64 x.A, .int .i64 x.B]
theorem okeStep : EncOk Qg 4:=⟨fun _ _=>rfl,fun x=>Qj (.int _ _) (Qj (.str _) (Qj (.int _ _) (Qj (.int _ _) (Zn)))),fun m x=>by simp only [Qg,fzL,AE.fz],fun m x=>Qj Y (Qj Y (Qj Y (Qj Y (Zn)))),fun x=>Qj Y (Qj Y (Qj Y (Qj Y (Zn))))⟩
def ZB (x:D.Step):Nat:=ByteArray.size x.Word
theorem Qfw : Qke Qg:=fun _ _=>rfl
theorem Qn0 : RK Qld Qg:=QgY (YR Qae (YR QlT (YR Qae Qae))) (fun _=>rfl)
noncomputable instance : DecidableEq D.Clue:=Classical.typeDecidableEq _
def Qd (m:Bool) (x:D.Clue):List T:= [.int .i64 x.Sense, .sl m 4 (x.Play.map (Qg m))]
theorem okeClue : EncOk Qd 2:=⟨fun _ _=>rfl,fun x=>Qj (.int _ _) (Qj (.sl _ _ (okeStep.cleanMap _)) (Zn)),fun m x=>by simp only [Qd,fzL,AE.fz,okeStep.fzMap],fun m x=>Qj Y (Qj Y (Zn)),fun x=>Qj Y (Qj Y (Zn))⟩
def QH (x:D.Clue):Nat:=(zL ZB) x.Play
theorem Ql1 : RK Qkg Qd:=QgY (YR Qae (QmN Qn0 okeStep Y)) (fun _=>rfl)
noncomputable instance : DecidableEq D.Puzzle:=Classical.typeDecidableEq _
def Qv (m:Bool) (x:D.Puzzle):List T:= [.int .i64 x.Grid.Rows, .int .i64 x.Grid.Cols, .str x.Grid.Cells, .sl m 2 (x.Clues.map (Qd m)), .sl m 1 (x.Seals.map (Qb m)), .int .i64 x.Salt]
theorem Yt : EncOk Qv 6:=⟨fun _ _=>rfl,fun x=>Qj (.int _ _) (Qj (.int _ _) (Qj (.str _) (Qj (.sl _ _ (okeClue.cleanMap _)) (Qj (.sl _ _ (okInt.cleanMap _)) (Qj (.int _ _) (Zn)))))),fun m x=>by simp only [Qv,fzL,AE.fz,okInt.fzMap,okeClue.fzMap],fun m x=>Qj Y (Qj Y (Qj Y (Qj Y (Qj Y (Qj Y (Zn)))))),fun x=>Qj Y (Qj Y (Qj Y (Qj Y (Qj Y (Qj Y (Zn))))))⟩
def QK (x:D.Puzzle):Nat:=ZD x.Grid+(zL QH) x.Clues+(zL zI) x.Seals
theorem Qlf : RK QhW Qv:=QgY (YR Qno (YR (QmN Ql1 okeClue Y) (YR (QmN Qae okInt Y) Qae))) (fun _=>rfl)
noncomputable instance : DecidableEq D.Issue:=Classical.typeDecidableEq _
def Qz (m:Bool) (x:D.Issue):List T:= [.int .i64 x.Number, .int .i64 x.Puzzle.Grid.Rows, .int .i64 x.Puzzle.Grid.Cols, .str x.Puzzle.Grid.Cells, .sl m 2 (x.Puzzle.Clues.map (Qd m)), .sl m 1 (x.Puzzle.Seals.map (Qb m)), .int .i64 x.Puzzle.Salt, .str x.Fill, .int .i64 x.Open, .int .i64 x.Close]
theorem YT : EncOk Qz 10:=⟨fun _ _=>rfl,fun x=>Qj (.int _ _) (Qj (.int _ _) (Qj (.int _ _) (Qj (.str _) (Qj (.sl _ _ (okeClue.cleanMap _)) (Qj (.sl _ _ (okInt.cleanMap _)) (Qj (.int _ _) (Qj (.str _) (Qj (.int _ _) (Qj (.int _ _) (Zn)))))))))),fun m x=>by simp only [Qz,fzL,AE.fz,okInt.fzMap,okeClue.fzMap],fun m x=>Qj Y (Qj Y (Qj Y (Qj Y (Qj Y (Qj Y (Qj Y (Qj Y (Qj Y (Qj Y (Zn)))))))))),fun x=>Qj Y (Qj Y (Qj Y (Qj Y (Qj Y (Qj Y (Qj Y (Qj Y (Qj Y (Qj Y (Zn))))))))))⟩
def Q5 (x:D.Issue):Nat:=QK x.Puzzle+ByteArray.size x.Fill
theorem QmM : RK QlV Qz:=QgY (YR Qae (YR Qlf (YR QlT (YR Qae Qae)))) (fun _=>rfl)
noncomputable instance : DecidableEq D.Correction:=Classical.typeDecidableEq _
def Qa (m:Bool) (x:D.Correction):List T:= [.int .i64 x.Issue, .int .i64 x.Slot, .int .i64 x.Clue.Sense, .sl m 4 (x.Clue.Play.map (Qg m)), .int .i64 x.Tick]
theorem okeCorrection : EncOk Qa 5:=⟨fun _ _=>rfl,fun x=>Qj (.int _ _) (Qj (.int _ _) (Qj (.int _ _) (Qj (.sl _ _ (okeStep.cleanMap _)) (Qj (.int _ _) (Zn))))),fun m x=>by simp only [Qa,fzL,AE.fz,okeStep.fzMap],fun m x=>Qj Y (Qj Y (Qj Y (Qj Y (Qj Y (Zn))))),fun x=>Qj Y (Qj Y (Qj Y (Qj Y (Qj Y (Zn)))))⟩
def Qn (x:D.Correction):Nat:=QH x.Clue
theorem Qhe : RK QeA Qa:=QgY (YR Qae (YR Qae (YR Ql1 Qae))) (fun _=>rfl)
noncomputable instance : DecidableEq D.Slot:=Classical.typeDecidableEq _
def Qk (m:Bool) (x:D.Slot):List T:= [.int .i64 x.Number, .bool x.Down, .int .i64 x.Cell, .int .i64 x.Length]
theorem okeSlot : EncOk Qk 4:=⟨fun _ _=>rfl,fun x=>Qj (.int _ _) (Qj (.bool _) (Qj (.int _ _) (Qj (.int _ _) (Zn)))),fun m x=>by simp only [Qk,fzL,AE.fz],fun m x=>Qj Y (Qj Y (Qj Y (Qj Y (Zn)))),fun x=>Qj Y (Qj Y (Qj Y (Qj Y (Zn))))⟩
theorem QlC (m:Bool) (x:D.Slot):SvL (Qk m x) [Value.int .i64 x.Number,Value.bool x.Down,Value.int .i64 x.Cell,Value.int .i64 x.Length]:= .cons (.int _ _) (.cons (.bool _) (.cons (.int _ _) (.cons (.int _ _) (.nil))))
theorem B.eql34 {call:QR} {E:Q9} {d:Option Tmp} {ty xt:TypeId} {ps:String} {af:Array Edge} {g:Option (Nat×Bool)} {x y:Operand} {a b:D.Grid} {m m':Bool} (hx:VEv E x (.agg (Qe m a))) (hy:VEv E y (.agg (Qe m' b))):OF call Tryz.prog E ⟨d, .binOp .eql 34 x y xt,ty,ps,af,g⟩ (.bool (decide (a=b))):=by
 obtain ⟨q,h1,h2⟩:=QoF a b x y
 have h3:q=decide (a=b):=by
  by_cases h:a=b
  ·rw [h2.2 h,decide_eq_true h]
  ·rw [decide_eq_false h]
   cases q
   ·rfl
   ·exact absurd (h2.1 Y) h
 exact h3▸OF.binA hx hy (QlZ _ a) (QlZ _ b) h1 (.bool _)
theorem B.neq138 {call:QR} {E:Q9} {d:Option Tmp} {ty xt:TypeId} {ps:String} {af:Array Edge} {g:Option (Nat×Bool)} {x y:Operand} {a b:D.Slot} {m m':Bool} (hx:VEv E x (.agg (Qk m a))) (hy:VEv E y (.agg (Qk m' b))):OF call Tryz.prog E ⟨d, .binOp .neq 138 x y xt,ty,ps,af,g⟩ (.bool (!decide (a=b))):=by
 obtain ⟨q,h1,h2⟩:=QnV a b x y
 have h3:q=decide (a=b):=by
  by_cases h:a=b
  ·rw [h2.2 h,decide_eq_true h]
  ·rw [decide_eq_false h]
   cases q
   ·rfl
   ·exact absurd (h2.1 Y) h
 exact h3▸OF.binA hx hy (QlC _ a) (QlC _ b) h1 (.bool _)
theorem U3 : Tryz.prog.underlying 3=some (.int .i64):=Tryz.underlying3
theorem U4 : Tryz.prog.underlying 4=some .bool:=Tryz.underlying4
theorem U5 : Tryz.prog.underlying 5=some (.int .u8):=Tryz.underlying5
theorem U9 : Tryz.prog.underlying 9=some .string:=Tryz.underlying9
theorem U24 : Tryz.prog.underlying 24=some (.slice 76):=Tryz.underlying24
theorem Zr : Tryz.prog.underlying 25=some (.slice 3):=Tryz.underlying25
theorem U30 : Tryz.prog.underlying 30=some (.slice 78):=Tryz.underlying30
theorem U35 : Tryz.prog.underlying 35=some (.slice 83):=Tryz.underlying35
theorem U41 : Tryz.prog.underlying 41=some (.slice 85):=Tryz.underlying41
theorem U74 : Tryz.prog.underlying 74=some (.slice 154):=Tryz.underlying74
theorem U81 : Tryz.prog.underlying 81=some (.slice 121):=Tryz.underlying81
theorem Yh : Tryz.prog.underlying 123=some (.slice 138):=Tryz.underlying123
theorem Qd2 : Tryz.prog.underlying 132=some (.slice 5):=Tryz.underlying132
theorem Qmr : Tryz.prog.underlying 134=some (.slice 9):=Tryz.underlying134
theorem Qfg : Tryz.prog.underlying 150=some (.slice 25):=Tryz.underlying150
theorem Qou : Tryz.prog.underlying 160=some (.map 3 3):=Tryz.underlying160
theorem JB : Tryz.prog.underlying 176=some (.slice 4):=Tryz.underlying176
set_option maxRecDepth 20000
set_option maxHeartbeats 2000000
theorem Qgm (n:Nat) (a:List Int) (left:Int) (h0:0≤left) (h1:left≤(mx:Int)) (hg:a.length≤maxLen):Pure (Qs Tryz.prog (n+1)) 55 [(rd 1 Qb a),(tI left)] (tI (Zs (zL zI a) left)):=by
 refine Pure.intro (rs:= [ResultVar.tmp 4]) Tryz.func55 Y Y Y (E0:= [(0,(rd 1 Qb a)),(1,(tI left))]) Y ?_
 obtain ⟨hlim,hmx,hmax⟩:=QG
 refine sr (fO (OF.assign (VEv.int .i64 0)) (nt (sr (mO (tI left) Y (mO (rd 1 Qb a) Y (lO (B.lenR (m:=a.length) (tv (rd 1 Qb a) Y) Zr (List.length_map ..)) (fO (B.sub (n:=(left - ((a.length:Nat):Int))) (tv (tI left) Y) (tv (tN a.length) Y) (by first | rfl | (rw [Qx (by omega)];omega) | (rw [Qx (by omega)];done))) (aO (tI (left - ((a.length:Nat):Int))) Y (nt (sq (sr ?_)))))))))))
 refine mO (tI (left - ((a.length:Nat):Int))) Y (fO (xls (tv (tI (left - ((a.length:Nat):Int))) Y) (VEv.int .i64 0)) (nt ?_))
 refine cd ((left - ((a.length:Nat):Int))<0) Y (fun fhc0=> ?_) fun fhc0=> ?_
 ·refine sr ?_
  refine fO (OF.assign (VEv.int .i64 (-1))) (nt (rt (tr (vi (n':=(-1)) Y ?_))))
  exact SzI.early fhc0
 refine sk (tn (sr (mO (tI (left - ((a.length:Nat):Int))) Y (aO (tI (left - ((a.length:Nat):Int))) Y (nt (rt (vi (n':=(left - ((a.length:Nat):Int))) Y ?_)))))))
 rw [QmL (z:=zI) (fun _=>rfl)];exact QbO fhc0
theorem QgH (n:Nat) (a:D.Grid) (left:Int) (h0:0≤left) (h1:left≤(mx:Int)) (hg:Qma a):Pure (Qs Tryz.prog (n+1)) 53 [(T.agg (Qe false a)),(tI left)] (tI (Zs (ZD a) left)):=by
 refine Pure.intro (rs:= [ResultVar.tmp 4]) Tryz.func53 Y Y Y (E0:= [(0,(T.agg (Qe false a))),(1,(tI left))]) Y ?_
 obtain ⟨hlim,hmx,hmax⟩:=QG
 obtain ⟨hg0,hg1,hg2⟩:=hg
 refine sr (kO (B.box (ts:=(Qe false a)) (tv (T.agg (Qe false a)) Y) nofun Y) (fO (OF.assign (VEv.int .i64 0)) (nt (sr (mO (tI left) Y (lf (tS a.Cells) Y Qk7 Y Y Yp (lO (B.lenS (tv (tS a.Cells) Y) U9) (fO (B.sub (n:=(left - ((a.Cells.size:Nat):Int))) (tv (tI left) Y) (tv (tN a.Cells.size) Y) (by (rw [Qx (by omega)];done))) (aO (tI (left - ((a.Cells.size:Nat):Int))) Y (nt (sq ?_)))))))))))
 refine sr (mO (tI (left - ((a.Cells.size:Nat):Int))) Y (fO (xls (tv (tI (left - ((a.Cells.size:Nat):Int))) Y) (VEv.int .i64 0)) (nt ?_)))
 refine cd ((left - ((a.Cells.size:Nat):Int))<0) Y (fun fhc0=> ?_) fun fhc0=> ?_
 ·refine sr ?_
  refine fO (OF.assign (VEv.int .i64 (-1))) (nt (rt (tr (vi (n':=(-1)) Y ?_))))
  exact Jb (by simp only [ZD];omega)
 refine sk (tn (sr (mO (tI (left - ((a.Cells.size:Nat):Int))) Y (aO (tI (left - ((a.Cells.size:Nat):Int))) Y (nt (rt (vi (n':=(left - ((a.Cells.size:Nat):Int))) Y ?_)))))))
 rw [← QbO (z:=ZD a) (l:=left) (by simp only [ZD];omega)]
 all_goals rfl
theorem QgC (n:Nat) (a:D.Step) (left:Int) (h0:0≤left) (h1:left≤(mx:Int)) (hg:QjT a):Pure (Qs Tryz.prog (n+1)) 152 [(T.agg (Qg false a)),(tI left)] (tI (Zs (ZB a) left)):=by
 refine Pure.intro (rs:= [ResultVar.tmp 4]) Tryz.func152 Y Y Y (E0:= [(0,(T.agg (Qg false a))),(1,(tI left))]) Y ?_
 obtain ⟨hlim,hmx,hmax⟩:=QG
 obtain ⟨hg0,hg1,hg2,hg3⟩:=hg
 refine sr (kO (B.box (ts:=(Qg false a)) (tv (T.agg (Qg false a)) Y) nofun Y) (fO (OF.assign (VEv.int .i64 0)) (nt (sr (mO (tI left) Y (lf (tS a.Word) Y Qkc Y Y Yp (lO (B.lenS (tv (tS a.Word) Y) U9) (fO (B.sub (n:=(left - ((a.Word.size:Nat):Int))) (tv (tI left) Y) (tv (tN a.Word.size) Y) (by (rw [Qx (by omega)];done))) (aO (tI (left - ((a.Word.size:Nat):Int))) Y (nt (sq ?_)))))))))))
 refine sr (mO (tI (left - ((a.Word.size:Nat):Int))) Y (fO (xls (tv (tI (left - ((a.Word.size:Nat):Int))) Y) (VEv.int .i64 0)) (nt ?_)))
 refine cd ((left - ((a.Word.size:Nat):Int))<0) Y (fun fhc0=> ?_) fun fhc0=> ?_
 ·refine sr ?_
  refine fO (OF.assign (VEv.int .i64 (-1))) (nt (rt (tr (vi (n':=(-1)) Y ?_))))
  exact Jb (by simp only [ZB];omega)
 refine sk (tn (sr (mO (tI (left - ((a.Word.size:Nat):Int))) Y (aO (tI (left - ((a.Word.size:Nat):Int))) Y (nt (rt (vi (n':=(left - ((a.Word.size:Nat):Int))) Y ?_)))))))
 rw [← QbO (z:=ZB a) (l:=left) (by simp only [ZB];omega)]
 all_goals rfl
theorem Qfu (n:Nat) (a:List D.Step) (left:Int) (h0:0≤left) (h1:left≤(mx:Int)) (hg:a.length≤maxLen∧∀x∈a,QjT x):Pure (Qs Tryz.prog (n+2)) 126 [(rd 4 Qg a),(tI left)] (tI (Zs (zL ZB a) left)):=by
 refine Pure.intro (rs:= [ResultVar.tmp 4]) Tryz.func126 Y Y Y (E0:= [(0,(rd 4 Qg a)),(1,(tI left))]) Y ?_
 obtain ⟨hlim,hmx,hmax⟩:=QG
 obtain ⟨hg1,hg2⟩:=hg
 refine sr (fO (OF.assign (VEv.int .i64 0)) (nt (sr (mO (tI left) Y (mO (rd 4 Qg a) Y (lO (B.lenR (m:=a.length) (tv (rd 4 Qg a) Y) U74 (List.length_map ..)) (fO (B.sub (n:=(left - ((a.length:Nat):Int))) (tv (tI left) Y) (tv (tN a.length) Y) (by (rw [Qx (by omega)];done))) (aO (tI (left - ((a.length:Nat):Int))) Y (nt (sq (sr ?_)))))))))))
 refine mO (tI (left - ((a.length:Nat):Int))) Y (fO (xls (tv (tI (left - ((a.length:Nat):Int))) Y) (VEv.int .i64 0)) (nt ?_))
 refine cd ((left - ((a.length:Nat):Int))<0) Y (fun fhc0=> ?_) fun fhc0=> ?_
 ·refine sr ?_
  refine fO (OF.assign (VEv.int .i64 (-1))) (nt (rt (tr (vi (n':=(-1)) Y ?_))))
  exact SzI.early fhc0
 refine sk (tn (sq (sr (fO (OF.assign (VEv.int .i64 0)) (nt (VRun.block ?_))))))
 refine VRun.loop (A:=Nat×Int) (fun s_=> [(0,(rd 4 Qg a)),(1,(tI s_.2)),(5,(tN s_.1))]) (fun s_=>QY []) 0 (fun s_=>SzI ZB a left s_.1 s_.2) (fun s_=>a.length - s_.1) ((0,left - (a.length:Int)):Nat×Int) ?_ (Wk.mk (fun k=>k) ?_ ?_ ?_) ?_
 ·exact SzI.start h1 fhc0
 ·exact (b2 (bc ⟨(congrArg (T.int .i64) (show (left - ((a.length:Nat):Int))=(left - (a.length:Int)) from (by rfl))),rfl⟩ (b2 bn)))
 ·exact bn
 ·exact nd Y
 rintro ⟨i,r⟩ (hI':SzI ZB a left i r)
 show VRun _ _ _ [(0,(rd 4 Qg a)),(1,(tI r)),(5,(tN i))] (QY []) 0 _
 have hI2:=hI'.1
 have hI3:=hI'.2.1
 have hI4:=hI'.2.2.1
 refine sq (sr (mO (tN i) Y (mO (rd 4 Qg a) Y (lO (B.lenR (m:=a.length) (tv (rd 4 Qg a) Y) U74 (List.length_map ..)) (fO (Zb (tv (tN i) Y) (tv (tN a.length) Y)) (nt ?_))))))
 refine cd (i<a.length) Y (fun fhc1=> ?_) fun fhc1=> ?_
 ·refine sk ?_
  refine tn (sq (VRun.block (sr (mO (rd 4 Qg a) Y (mO (tN i) Y ?_)))))
  obtain ⟨x1,hx1⟩:∃x,a[i]? =some x:=⟨_,List.getElem?_eq_getElem (by omega)⟩
  refine fO (OF.indexAddrR (row:=(Qg false x1)) (i:=i) (tv (rd 4 Qg a) Y) (tv (tN i) Y) Y (Qt _ hx1) U74 QjS Qnl) (lO (OL.loadRn (us:=(Qg false x1)) (tv (T.rp (Qg false x1)) Y) Qnf QjS (lb Y) Y) (mO (tI r) Y (cO (cS (vc (tv (T.agg (Qg false x1)) Y) (vc (tv (tI r) Y) vn)) (LendL.cons (lg okeStep) (lp Y ln)) (QgC (n+0) x1 r (by assumption) (by assumption) (by exact hg2 _ (List.mem_of_getElem? hx1))) Y Y) (aO (tI (Zs (ZB x1) r)) Y (nt (sr (mO (tI (Zs (ZB x1) r)) Y (fO (xls (tv (tI (Zs (ZB x1) r)) Y) (VEv.int .i64 0)) (nt ?_)))))))))
  refine cd (Zs (ZB x1) r<0) Y (fun fhc2=> ?_) fun fhc2=> ?_
  ·refine sr ?_
   refine fO (OF.assign (VEv.int .i64 (-1))) (nt (rt (vinB.r (tr (tr (vinB.r (tr (vi (n':=(-1)) Y ?_))))))))
   exact hI'.bad hx1 fhc2
  refine sk (vinB.n (tn (VRun.region (mO (tN i) Y (fO (Qy (tv (tN i) Y) (VEv.int .i64 1) (by omega)) (aO (tN (i+1)) Y (VRunO.nil (tn ?_))))))))
  refine ⟨((i+1,Zs (ZB x1) r):Nat×Int),?_,?_,Wk.mk (fun k=>k) ?_ ?_ ?_⟩
  ·exact hI'.next hx1 fhc2
  ·omega
  ·exact (b2 (b2 (b2 bn)))
  ·exact bn
  ·exact nd Y
 refine VRun.exit (vthn.e (vthn.e (vinB.e (tn (sr (mO (tI r) Y (aO (tI r) Y (nt (rt (vi (n':=r) Y ?_))))))))))
 exact hI'.done fhc1
theorem Qcw (n:Nat) (a:D.Clue) (left:Int) (h0:0≤left) (h1:left≤(mx:Int)) (hg:QiH a):Pure (Qs Tryz.prog (n+3)) 97 [(T.agg (Qd false a)),(tI left)] (tI (Zs (QH a) left)):=by
 refine Pure.intro (rs:= [ResultVar.tmp 4]) Tryz.func97 Y Y Y (E0:= [(0,(T.agg (Qd false a))),(1,(tI left))]) Y ?_
 obtain ⟨hlim,hmx,hmax⟩:=QG
 obtain ⟨hg0,hg1⟩:=hg
 refine sr (kO (B.box (ts:=(Qd false a)) (tv (T.agg (Qd false a)) Y) nofun Y) (fO (OF.assign (VEv.int .i64 0)) (nt (sr (lf (rd 4 Qg a.Play) Y Qmk Y Y QoI (mO (tI left) Y (cO (cS (vc (tv (rd 4 Qg a.Play) Y) (vc (tv (tI left) Y) vn)) (ZO Y) (Qfu (n+0) a.Play left (by assumption) (by assumption) (by assumption)) Y Y) (aO (tI (Zs (zL ZB a.Play) left)) Y (nt (sq (sr ?_)))))))))))
 refine mO (tI (Zs (zL ZB a.Play) left)) Y (fO (xls (tv (tI (Zs (zL ZB a.Play) left)) Y) (VEv.int .i64 0)) (nt ?_))
 refine cd (Zs (zL ZB a.Play) left<0) Y (fun fhc0=> ?_) fun fhc0=> ?_
 ·refine sr ?_
  refine fO (OF.assign (VEv.int .i64 (-1))) (nt (rt (tr (vi (n':=(-1)) Y ?_))))
  exact Jb (by have hlt:=QcI fhc0;simp only [QH];omega)
 have hq0:=JP fhc0
 refine sk (tn (sr (mO (tI (Zs (zL ZB a.Play) left)) Y (aO (tI (Zs (zL ZB a.Play) left)) Y (nt (rt (vi (n':=Zs (zL ZB a.Play) left) Y ?_)))))))
 rw [← QbO (z:=QH a) (l:=left) (by simp only [QH];omega)]
 all_goals (simp only [QH];omega)
theorem QfN (n:Nat) (a:List D.Clue) (left:Int) (h0:0≤left) (h1:left≤(mx:Int)) (hg:a.length≤maxLen∧∀x∈a,QiH x):Pure (Qs Tryz.prog (n+4)) 54 [(rd 2 Qd a),(tI left)] (tI (Zs (zL QH a) left)):=by
 refine Pure.intro (rs:= [ResultVar.tmp 4]) Tryz.func54 Y Y Y (E0:= [(0,(rd 2 Qd a)),(1,(tI left))]) Y ?_
 obtain ⟨hlim,hmx,hmax⟩:=QG
 obtain ⟨hg1,hg2⟩:=hg
 refine sr (fO (OF.assign (VEv.int .i64 0)) (nt (sr (mO (tI left) Y (mO (rd 2 Qd a) Y (lO (B.lenR (m:=a.length) (tv (rd 2 Qd a) Y) U24 (List.length_map ..)) (fO (B.sub (n:=(left - ((a.length:Nat):Int))) (tv (tI left) Y) (tv (tN a.length) Y) (by (rw [Qx (by omega)];done))) (aO (tI (left - ((a.length:Nat):Int))) Y (nt (sq (sr ?_)))))))))))
 refine mO (tI (left - ((a.length:Nat):Int))) Y (fO (xls (tv (tI (left - ((a.length:Nat):Int))) Y) (VEv.int .i64 0)) (nt ?_))
 refine cd ((left - ((a.length:Nat):Int))<0) Y (fun fhc0=> ?_) fun fhc0=> ?_
 ·refine sr ?_
  refine fO (OF.assign (VEv.int .i64 (-1))) (nt (rt (tr (vi (n':=(-1)) Y ?_))))
  exact SzI.early fhc0
 refine sk (tn (sq (sr (fO (OF.assign (VEv.int .i64 0)) (nt (VRun.block ?_))))))
 refine VRun.loop (A:=Nat×Int) (fun s_=> [(0,(rd 2 Qd a)),(1,(tI s_.2)),(5,(tN s_.1))]) (fun s_=>QY []) 0 (fun s_=>SzI QH a left s_.1 s_.2) (fun s_=>a.length - s_.1) ((0,left - (a.length:Int)):Nat×Int) ?_ (Wk.mk (fun k=>k) ?_ ?_ ?_) ?_
 ·exact SzI.start h1 fhc0
 ·exact (b2 (bc ⟨(congrArg (T.int .i64) (show (left - ((a.length:Nat):Int))=(left - (a.length:Int)) from (by rfl))),rfl⟩ (b2 bn)))
 ·exact bn
 ·exact nd Y
 rintro ⟨i,r⟩ (hI':SzI QH a left i r)
 show VRun _ _ _ [(0,(rd 2 Qd a)),(1,(tI r)),(5,(tN i))] (QY []) 0 _
 have hI2:=hI'.1
 have hI3:=hI'.2.1
 have hI4:=hI'.2.2.1
 refine sq (sr (mO (tN i) Y (mO (rd 2 Qd a) Y (lO (B.lenR (m:=a.length) (tv (rd 2 Qd a) Y) U24 (List.length_map ..)) (fO (Zb (tv (tN i) Y) (tv (tN a.length) Y)) (nt ?_))))))
 refine cd (i<a.length) Y (fun fhc1=> ?_) fun fhc1=> ?_
 ·refine sk ?_
  refine tn (sq (VRun.block (sr (mO (rd 2 Qd a) Y (mO (tN i) Y ?_)))))
  obtain ⟨x1,hx1⟩:∃x,a[i]? =some x:=⟨_,List.getElem?_eq_getElem (by omega)⟩
  refine fO (OF.indexAddrR (row:=(Qd false x1)) (i:=i) (tv (rd 2 Qd a) Y) (tv (tN i) Y) Y (Qt _ hx1) U24 Qi3 QnW) (lO (OL.loadRn (us:=(Qd false x1)) (tv (T.rp (Qd false x1)) Y) QmD Qi3 (lb Y) Y) (mO (tI r) Y (cO (cS (vc (tv (T.agg (Qd false x1)) Y) (vc (tv (tI r) Y) vn)) (LendL.cons (lg okeClue) (lp Y ln)) (Qcw (n+0) x1 r (by assumption) (by assumption) (by exact hg2 _ (List.mem_of_getElem? hx1))) Y Y) (aO (tI (Zs (QH x1) r)) Y (nt (sr (mO (tI (Zs (QH x1) r)) Y (fO (xls (tv (tI (Zs (QH x1) r)) Y) (VEv.int .i64 0)) (nt ?_)))))))))
  refine cd (Zs (QH x1) r<0) Y (fun fhc2=> ?_) fun fhc2=> ?_
  ·refine sr ?_
   refine fO (OF.assign (VEv.int .i64 (-1))) (nt (rt (vinB.r (tr (tr (vinB.r (tr (vi (n':=(-1)) Y ?_))))))))
   exact hI'.bad hx1 fhc2
  refine sk (vinB.n (tn (VRun.region (mO (tN i) Y (fO (Qy (tv (tN i) Y) (VEv.int .i64 1) (by omega)) (aO (tN (i+1)) Y (VRunO.nil (tn ?_))))))))
  refine ⟨((i+1,Zs (QH x1) r):Nat×Int),?_,?_,Wk.mk (fun k=>k) ?_ ?_ ?_⟩
  ·exact hI'.next hx1 fhc2
  ·omega
  ·exact (b2 (b2 (b2 bn)))
  ·exact bn
  ·exact nd Y
 refine VRun.exit (vthn.e (vthn.e (vinB.e (tn (sr (mO (tI r) Y (aO (tI r) Y (nt (rt (vi (n':=r) Y ?_))))))))))
 exact hI'.done fhc1
theorem QeT (n:Nat) (a:D.Puzzle) (left:Int) (h0:0≤left) (h1:left≤(mx:Int)) (hg:Qhv a):Pure (Qs Tryz.prog (n+5)) 23 [(T.agg (Qv false a)),(tI left)] (tI (Zs (QK a) left)):=by
 refine Pure.intro (rs:= [ResultVar.tmp 4]) Tryz.func23 Y Y Y (E0:= [(0,(T.agg (Qv false a))),(1,(tI left))]) Y ?_
 obtain ⟨hlim,hmx,hmax⟩:=QG
 obtain ⟨hg0,hg1,hg2,hg3⟩:=hg
 refine sr (kO (B.box (ts:=(Qv false a)) (tv (T.agg (Qv false a)) Y) nofun Y) (fO (OF.assign (VEv.int .i64 0)) (nt (sr (fO (OF.fieldAddrO (tv (T.op 0 0) Y) Ql6) (lO (OL.loadOn (us:=(Qe false a.Grid)) (tv (T.op 0 0) Y) Y QoL QnX (lb Y) Y) (mO (tI left) Y (cO (cS (vc (tv (T.agg (Qe false a.Grid)) Y) (vc (tv (tI left) Y) vn)) (LendL.cons (lg Qw) (lp Y ln)) (QgH (n+3) a.Grid left (by first | assumption | omega) (by first | assumption | omega) (by first | assumption | omega)) Y Y) (aO (tI (Zs (ZD a.Grid) left)) Y (nt (sq ?_)))))))))))
 refine sr (mO (tI (Zs (ZD a.Grid) left)) Y (fO (xls (tv (tI (Zs (ZD a.Grid) left)) Y) (VEv.int .i64 0)) (nt ?_)))
 refine cd (Zs (ZD a.Grid) left<0) Y (fun fhc0=> ?_) fun fhc0=> ?_
 ·refine sr ?_
  refine fO (OF.assign (VEv.int .i64 (-1))) (nt (rt (tr (vi (n':=(-1)) Y ?_))))
  exact Jb (by have hlt:=QcI fhc0;simp only [QK];omega)
 have hq0:=JP fhc0
 refine sk (tn (sr (lf (rd 2 Qd a.Clues) Y Ql5 Y Y QoC (mO (tI (Zs (ZD a.Grid) left)) Y (cO (cS (vc (tv (rd 2 Qd a.Clues) Y) (vc (tv (tI (Zs (ZD a.Grid) left)) Y) vn)) (ZO Y) (QfN (n+0) a.Clues (Zs (ZD a.Grid) left) (by first | assumption | omega) (by first | assumption | omega) (by first | assumption | omega)) Y Y) (aO (tI (Zs (zL QH a.Clues) (Zs (ZD a.Grid) left))) Y (nt (sq (sr (mO (tI (Zs (zL QH a.Clues) (Zs (ZD a.Grid) left))) Y (fO (xls (tv (tI (Zs (zL QH a.Clues) (Zs (ZD a.Grid) left))) Y) (VEv.int .i64 0)) ?_)))))))))))
 refine nt ?_
 refine cd (Zs (zL QH a.Clues) (Zs (ZD a.Grid) left)<0) Y (fun fhc1=> ?_) fun fhc1=> ?_
 ·refine sr ?_
  refine fO (OF.assign (VEv.int .i64 (-1))) (nt (rt (tr (vi (n':=(-1)) Y ?_))))
  exact Jb (by have hlt:=QcI fhc1;simp only [QK];omega)
 have hq1:=JP fhc1
 refine sk (tn (sr (lf (rd 1 Qb a.Seals) Y Ql0 Y Y QbP (mO (tI (Zs (zL QH a.Clues) (Zs (ZD a.Grid) left))) Y (cO (cS (vc (tv (rd 1 Qb a.Seals) Y) (vc (tv (tI (Zs (zL QH a.Clues) (Zs (ZD a.Grid) left))) Y) vn)) (ZO Y) (Qgm (n+3) a.Seals (Zs (zL QH a.Clues) (Zs (ZD a.Grid) left)) (by first | assumption | omega) (by first | assumption | omega) (by first | assumption | omega)) Y Y) (aO (tI (Zs (zL zI a.Seals) (Zs (zL QH a.Clues) (Zs (ZD a.Grid) left)))) Y (nt (sq (sr (mO (tI (Zs (zL zI a.Seals) (Zs (zL QH a.Clues) (Zs (ZD a.Grid) left)))) Y (fO (xls (tv (tI (Zs (zL zI a.Seals) (Zs (zL QH a.Clues) (Zs (ZD a.Grid) left)))) Y) (VEv.int .i64 0)) ?_)))))))))))
 refine nt ?_
 refine cd (Zs (zL zI a.Seals) (Zs (zL QH a.Clues) (Zs (ZD a.Grid) left))<0) Y (fun fhc2=> ?_) fun fhc2=> ?_
 ·refine sr ?_
  refine fO (OF.assign (VEv.int .i64 (-1))) (nt (rt (tr (vi (n':=(-1)) Y ?_))))
  exact Jb (by have hlt:=QcI fhc2;simp only [QK];omega)
 have hq2:=JP fhc2
 refine sk (tn (sr (mO (tI (Zs (zL zI a.Seals) (Zs (zL QH a.Clues) (Zs (ZD a.Grid) left)))) Y (aO (tI (Zs (zL zI a.Seals) (Zs (zL QH a.Clues) (Zs (ZD a.Grid) left)))) Y (nt (rt (vi (n':=Zs (zL zI a.Seals) (Zs (zL QH a.Clues) (Zs (ZD a.Grid) left))) Y ?_)))))))
 rw [← QbO (z:=QK a) (l:=left) (by simp only [QK];omega)]
 all_goals first | rfl | (simp only [QK];done) | (simp only [QK];omega)
theorem QfP (n:Nat) (a:D.Issue) (left:Int) (h0:0≤left) (h1:left≤(mx:Int)) (hg:Qjx a):Pure (Qs Tryz.prog (n+6)) 10 [(T.agg (Qz false a)),(tI left)] (tI (Zs (Q5 a) left)):=by
 refine Pure.intro (rs:= [ResultVar.tmp 4]) Tryz.func10 Y Y Y (E0:= [(0,(T.agg (Qz false a))),(1,(tI left))]) Y ?_
 obtain ⟨hlim,hmx,hmax⟩:=QG
 obtain ⟨hg0,hg1,hg2,hg3,hg4⟩:=hg
 refine sr (kO (B.box (ts:=(Qz false a)) (tv (T.agg (Qz false a)) Y) nofun Y) (fO (OF.assign (VEv.int .i64 0)) (nt (sr (fO (OF.fieldAddrO (tv (T.op 0 0) Y) QlP) (lO (OL.loadOn (us:=(Qv false a.Puzzle)) (tv (T.op 0 1) Y) Y QoR Qn2 (lb Y) Y) (mO (tI left) Y (cO (cS (vc (tv (T.agg (Qv false a.Puzzle)) Y) (vc (tv (tI left) Y) vn)) (LendL.cons (lg Yt) (lp Y ln)) (QeT (n+0) a.Puzzle left (by first | assumption | omega) (by first | assumption | omega) (by first | assumption | omega)) Y Y) (aO (tI (Zs (QK a.Puzzle) left)) Y (nt (sq ?_)))))))))))
 refine sr (mO (tI (Zs (QK a.Puzzle) left)) Y (fO (xls (tv (tI (Zs (QK a.Puzzle) left)) Y) (VEv.int .i64 0)) (nt ?_)))
 refine cd (Zs (QK a.Puzzle) left<0) Y (fun fhc0=> ?_) fun fhc0=> ?_
 ·refine sr ?_
  refine fO (OF.assign (VEv.int .i64 (-1))) (nt (rt (tr (vi (n':=(-1)) Y ?_))))
  exact Jb (by have hlt:=QcI fhc0;simp only [Q5];omega)
 have hq0:=JP fhc0
 refine sk (tn (sr (mO (tI (Zs (QK a.Puzzle) left)) Y (lf (tS a.Fill) Y Ql8 Y Y Yp (lO (B.lenS (tv (tS a.Fill) Y) U9) (fO (B.sub (n:=(Zs (QK a.Puzzle) left - ((a.Fill.size:Nat):Int))) (tv (tI (Zs (QK a.Puzzle) left)) Y) (tv (tN a.Fill.size) Y) (by first | rfl | (rw [Qx (by omega)];omega) | (rw [Qx (by omega)];done))) (aO (tI (Zs (QK a.Puzzle) left - ((a.Fill.size:Nat):Int))) Y (nt (sq (sr (mO (tI (Zs (QK a.Puzzle) left - ((a.Fill.size:Nat):Int))) Y ?_)))))))))))
 refine fO (xls (tv (tI (Zs (QK a.Puzzle) left - ((a.Fill.size:Nat):Int))) Y) (VEv.int .i64 0)) (nt ?_)
 refine cd ((Zs (QK a.Puzzle) left - ((a.Fill.size:Nat):Int))<0) Y (fun fhc1=> ?_) fun fhc1=> ?_
 ·refine sr ?_
  refine fO (OF.assign (VEv.int .i64 (-1))) (nt (rt (tr (vi (n':=(-1)) Y ?_))))
  exact Jb (by simp only [Q5];omega)
 refine sk (tn (sr (mO (tI (Zs (QK a.Puzzle) left - ((a.Fill.size:Nat):Int))) Y (aO (tI (Zs (QK a.Puzzle) left - ((a.Fill.size:Nat):Int))) Y (nt (rt (vi (n':=(Zs (QK a.Puzzle) left - ((a.Fill.size:Nat):Int))) Y ?_)))))))
 rw [← QbO (z:=Q5 a) (l:=left) (by simp only [Q5];omega)]
 all_goals first | rfl | (simp only [Q5];done) | (simp only [Q5];omega)
theorem Qct (n:Nat) (a:D.Correction) (left:Int) (h0:0≤left) (h1:left≤(mx:Int)) (hg:Qao a):Pure (Qs Tryz.prog (n+4)) 45 [(T.agg (Qa false a)),(tI left)] (tI (Zs (Qn a) left)):=by
 refine Pure.intro (rs:= [ResultVar.tmp 4]) Tryz.func45 Y Y Y (E0:= [(0,(T.agg (Qa false a))),(1,(tI left))]) Y ?_
 obtain ⟨hlim,hmx,hmax⟩:=QG
 obtain ⟨hg0,hg1,hg2,hg3⟩:=hg
 refine sr (kO (B.box (ts:=(Qa false a)) (tv (T.agg (Qa false a)) Y) nofun Y) (fO (OF.assign (VEv.int .i64 0)) (nt (sr (fO (OF.fieldAddrO (tv (T.op 0 0) Y) Qlv) (lO (OL.loadOn (us:=(Qd false a.Clue)) (tv (T.op 0 2) Y) Y QmD Qi3 (lb Y) Y) (mO (tI left) Y (cO (cS (vc (tv (T.agg (Qd false a.Clue)) Y) (vc (tv (tI left) Y) vn)) (LendL.cons (lg okeClue) (lp Y ln)) (Qcw (n+0) a.Clue left (by first | assumption | omega) (by first | assumption | omega) (by first | assumption | omega)) Y Y) (aO (tI (Zs (QH a.Clue) left)) Y (nt (sq ?_)))))))))))
 refine sr (mO (tI (Zs (QH a.Clue) left)) Y (fO (xls (tv (tI (Zs (QH a.Clue) left)) Y) (VEv.int .i64 0)) (nt ?_)))
 refine cd (Zs (QH a.Clue) left<0) Y (fun fhc0=> ?_) fun fhc0=> ?_
 ·refine sr ?_
  refine fO (OF.assign (VEv.int .i64 (-1))) (nt (rt (tr (vi (n':=(-1)) Y ?_))))
  exact Jb (by have hlt:=QcI fhc0;simp only [Qn];omega)
 have hq0:=JP fhc0
 refine sk (tn (sr (mO (tI (Zs (QH a.Clue) left)) Y (aO (tI (Zs (QH a.Clue) left)) Y (nt (rt (vi (n':=Zs (QH a.Clue) left) Y ?_)))))))
 rw [← QbO (z:=Qn a) (l:=left) (by simp only [Qn];omega)]
 all_goals first | rfl | (simp only [Qn];done) | (simp only [Qn];omega)
theorem QbB (n:Nat) (a:List D.Correction) (left:Int) (h0:0≤left) (h1:left≤(mx:Int)) (hg:a.length≤maxLen∧∀x∈a,Qao x):Pure (Qs Tryz.prog (n+5)) 11 [(rd 5 Qa a),(tI left)] (tI (Zs (zL Qn a) left)):=by
 refine Pure.intro (rs:= [ResultVar.tmp 4]) Tryz.func11 Y Y Y (E0:= [(0,(rd 5 Qa a)),(1,(tI left))]) Y ?_
 obtain ⟨hlim,hmx,hmax⟩:=QG
 obtain ⟨hg1,hg2⟩:=hg
 refine sr (fO (OF.assign (VEv.int .i64 0)) (nt (sr (mO (tI left) Y (mO (rd 5 Qa a) Y (lO (B.lenR (m:=a.length) (tv (rd 5 Qa a) Y) U30 (List.length_map ..)) (fO (B.sub (n:=(left - ((a.length:Nat):Int))) (tv (tI left) Y) (tv (tN a.length) Y) (by first | exact hg2 _ (List.mem_of_getElem? hx1) | rfl | (rw [Qx (by omega)];omega) | (rw [Qx (by omega)];done))) (aO (tI (left - ((a.length:Nat):Int))) Y (nt (sq (sr ?_)))))))))))
 refine mO (tI (left - ((a.length:Nat):Int))) Y (fO (xls (tv (tI (left - ((a.length:Nat):Int))) Y) (VEv.int .i64 0)) (nt ?_))
 refine cd ((left - ((a.length:Nat):Int))<0) Y (fun fhc0=> ?_) fun fhc0=> ?_
 ·refine sr ?_
  refine fO (OF.assign (VEv.int .i64 (-1))) (nt (rt (tr (vi (n':=(-1)) Y ?_))))
  exact SzI.early fhc0
 refine sk (tn (sq (sr (fO (OF.assign (VEv.int .i64 0)) (nt (VRun.block ?_))))))
 refine VRun.loop (A:=Nat×Int) (fun s_=> [(0,(rd 5 Qa a)),(1,(tI s_.2)),(5,(tN s_.1))]) (fun s_=>QY []) 0 (fun s_=>SzI Qn a left s_.1 s_.2) (fun s_=>a.length - s_.1) ((0,left - (a.length:Int)):Nat×Int) ?_ (Wk.mk (fun k=>k) ?_ ?_ ?_) ?_
 ·exact SzI.start h1 fhc0
 ·exact (b2 (bc ⟨(congrArg (T.int .i64) (show (left - ((a.length:Nat):Int))=(left - (a.length:Int)) from (by first | rfl | omega | (simp;done) | (push_cast;omega)))),rfl⟩ (b2 bn)))
 ·exact bn
 ·exact nd Y
 rintro ⟨i,r⟩ (hI':SzI Qn a left i r)
 show VRun _ _ _ [(0,(rd 5 Qa a)),(1,(tI r)),(5,(tN i))] (QY []) 0 _
 have hI2:=hI'.1
 have hI3:=hI'.2.1
 have hI4:=hI'.2.2.1
 refine sq (sr (mO (tN i) Y (mO (rd 5 Qa a) Y (lO (B.lenR (m:=a.length) (tv (rd 5 Qa a) Y) U30 (List.length_map ..)) (fO (Zb (tv (tN i) Y) (tv (tN a.length) Y)) (nt ?_))))))
 refine cd (i<a.length) Y (fun fhc1=> ?_) fun fhc1=> ?_
 ·refine sk ?_
  refine tn (sq (VRun.block (sr (mO (rd 5 Qa a) Y (mO (tN i) Y ?_)))))
  obtain ⟨x1,hx1⟩:∃x,a[i]? =some x:=⟨_,List.getElem?_eq_getElem (by first | exact hg2 _ (List.mem_of_getElem? hx1) | omega)⟩
  refine fO (OF.indexAddrR (row:=(Qa false x1)) (i:=i) (tv (rd 5 Qa a) Y) (tv (tN i) Y) Y (Qt _ hx1) U30 QmC Qol) (lO (OL.loadRn (us:=(Qa false x1)) (tv (T.rp (Qa false x1)) Y) Qom QmC (lb Y) Y) (mO (tI r) Y (cO (cS (vc (tv (T.agg (Qa false x1)) Y) (vc (tv (tI r) Y) vn)) (LendL.cons (lg okeCorrection) (lp Y ln)) (Qct (n+0) x1 r (by first | exact hg2 _ (List.mem_of_getElem? hx1) | assumption | omega) (by first | exact hg2 _ (List.mem_of_getElem? hx1) | assumption | omega) (by first | exact hg2 _ (List.mem_of_getElem? hx1) | assumption | omega)) Y Y) (aO (tI (Zs (Qn x1) r)) Y (nt (sr (mO (tI (Zs (Qn x1) r)) Y (fO (xls (tv (tI (Zs (Qn x1) r)) Y) (VEv.int .i64 0)) (nt ?_)))))))))
  refine cd (Zs (Qn x1) r<0) Y (fun fhc2=> ?_) fun fhc2=> ?_
  ·refine sr ?_
   refine fO (OF.assign (VEv.int .i64 (-1))) (nt (rt (vinB.r (tr (tr (vinB.r (tr (vi (n':=(-1)) Y ?_))))))))
   exact hI'.bad hx1 fhc2
  refine sk (vinB.n (tn (VRun.region (mO (tN i) Y (fO (Qy (tv (tN i) Y) (VEv.int .i64 1) (by first | exact hg2 _ (List.mem_of_getElem? hx1) | omega)) (aO (tN (i+1)) Y (VRunO.nil (tn ?_))))))))
  refine ⟨((i+1,Zs (Qn x1) r):Nat×Int),?_,?_,Wk.mk (fun k=>k) ?_ ?_ ?_⟩
  ·exact hI'.next hx1 fhc2
  ·first | omega | (simp only [];omega) | (show _<_;omega) | (simp;omega)
  ·exact (b2 (b2 (b2 bn)))
  ·exact bn
  ·exact nd Y
 refine VRun.exit (vthn.e (vthn.e (vinB.e (tn (sr (mO (tI r) Y (aO (tI r) Y (nt (rt (vi (n':=r) Y ?_))))))))))
 exact hI'.done fhc1
theorem Qgk (n:Nat) (a:List Int) (ha:a.length≤mx):Pure (Qs Tryz.prog (n+1)) 61 [(rd 1 Qb a)] (T.sl true 1 (a.map (Qb true))):=by
 refine Pure.intro (rs:= [ResultVar.tmp 2]) Tryz.func61 Y Y Y (E0:= [(0,(rd 1 Qb a))]) Y ?_
 obtain ⟨hlim,hmx,hmax⟩:=QG
 refine sr (fO (OF.assign VEv.nils) (nt (sr (mO (rd 1 Qb a) Y (lO (B.lenR (m:=a.length) (tv (rd 1 Qb a) Y) Zr (List.length_map ..)) (kO (B.makeZ (n:=a.length) (m:=((List.replicate a.length 0).map (Qb true)).length) (rows:=((List.replicate a.length 0).map (Qb true))) (zr:=(Qb true 0)) (tv (tN a.length) Y) (tv (tN a.length) Y) Y Zr JW zc3 Y (by rw [Zd];decide) (by first | omega | (simp only [List.length_map];omega) | (simp only [List.length_map,List.length_append,List.length_cons,List.length_nil,List.length_replicate,List.length_set,List.length_drop,List.length_take,YG] at *;omega)) (of_decide_eq_true (by kernel_rfl)) (Z0.int Z0.nil) Zd (List.map_replicate ..).symm (by rw [List.length_map,List.length_replicate])) (aO (T.os 1 0 0 (((List.replicate a.length 0).map (Qb true)).length)) Y (nt (sq (sr (fO (OF.assign (VEv.int .i64 0)) ?_)))))))))))
 refine nt (VRun.block ?_)
 have he1:(List.replicate a.length 0)=(a.take 0++List.replicate (a.length - 0) 0):=by first | rfl | (exact JZ hx1) | (simp;done) | omega
 refine VRun.loop (A:=Nat) (fun s_=> [(0,(rd 1 Qb a)),(2,T.nils),(3,(T.os 1 0 0 (((a.take s_++List.replicate (a.length - s_) 0).map (Qb true)).length))),(4,(tN s_))]) (fun s_=>QY [(0,(Obj.rows 1 ((a.take s_++List.replicate (a.length - s_) 0).map (Qb true))))]) 1 (fun s_=>s_≤a.length) (fun s_=>a.length - s_) (0:Nat) ?_ (Wk.mk (fun k=>k) ?_ ?_ ?_) ?_
 ·first | trivial | (simp;done) | omega | (constructor<;>simp)
 ·exact (b2 (b2 (bc ⟨(congrArg (fun l_=>T.os 1 0 0 (List.map (Qb true) l_).length) he1),rfl⟩ (b2 bn))))
 ·exact (bc ⟨(congrArg (fun l_=>some (Obj.rows 1 (List.map (Qb true) l_))) he1),(lb Y),rfl⟩ bn)
 ·exact nd Y
 rintro i (hI':i≤a.length)
 show VRun _ _ _ [(0,(rd 1 Qb a)),(2,T.nils),(3,(T.os 1 0 0 (((a.take i++List.replicate (a.length - i) 0).map (Qb true)).length))),(4,(tN i))] (QY [(0,(Obj.rows 1 ((a.take i++List.replicate (a.length - i) 0).map (Qb true))))]) 1 _
 have hfl:=Qe7 (w:=0) hI'
 refine sq (sr (mO (tN i) Y (mO (rd 1 Qb a) Y (lO (B.lenR (m:=a.length) (tv (rd 1 Qb a) Y) Zr (List.length_map ..)) (fO (Zb (tv (tN i) Y) (tv (tN a.length) Y)) (nt ?_))))))
 refine cd (i<a.length) Y (fun fhc0=> ?_) fun fhc0=> ?_
 ·refine sk ?_
  refine tn (sq (VRun.block (VRun.region (mO (T.os 1 0 0 (((a.take i++List.replicate (a.length - i) 0).map (Qb true)).length)) Y (mO (tN i) Y (mO (rd 1 Qb a) Y (mO (tN i) Y ?_)))))))
  obtain ⟨x1,hx1⟩:∃x,a[i]? =some x:=⟨_,List.getElem?_eq_getElem (by omega)⟩
  refine fO (OF.indexAddrR (row:=(Qb false x1)) (i:=i) (tv (rd 1 Qb a) Y) (tv (tN i) Y) Y (Qt _ hx1) Zr Zd Yo) (lO (OL.loadR1 (t:=(tI x1)) (tv (T.rp [(tI x1)]) Y) Y QQ) ?_)
  obtain ⟨x2,hx2⟩:∃x,(a.take i++List.replicate (a.length - i) 0)[i]? =some x:=⟨_,List.getElem?_eq_getElem (by first | omega | (simp only [List.length_map];omega) | (simp only [List.length_map,List.length_append,List.length_cons,List.length_nil,List.length_replicate,List.length_set,List.length_drop,List.length_take,YG] at *;omega))⟩
  refine fO (B.indexAddrO (i:=i) (tv (T.os 1 0 0 (((a.take i++List.replicate (a.length - i) 0).map (Qb true)).length)) Y) (tv (tN i) Y) Y (by first | omega | (simp only [List.length_map];omega) | (simp only [List.length_map,List.length_append,List.length_cons,List.length_nil,List.length_replicate,List.length_set,List.length_drop,List.length_take,YG] at *;omega)) Zr Zd Yo) (cO (B.storeP (us:= [(tI x1)]) (rows':=(((a.take i++List.replicate (a.length - i) 0).set i x1).map (Qb true))) (row:=(Qb true x2)) (tv (T.orp 1 0 i 0) Y) (tv (tI x1) Y) nofun Y (Qt _ hx2) Y (lb Y) Yo Zd (bc Y bn) (by intro r hr t ht;obtain ⟨x,_,rfl⟩:=List.mem_map.1 hr;rw [Qng] at ht;exact ZV (okInt.pl _ t ht)) (Ze Y)) (VRunO.nil (vinB.n (tn (VRun.region (mO (tN i) Y (fO (Qy (tv (tN i) Y) (VEv.int .i64 1) (by omega)) (aO (tN (i+1)) Y (VRunO.nil (tn ?_))))))))))
  have he2:((a.take i++List.replicate (a.length - i) 0).set i x1)=(a.take (i+1)++List.replicate (a.length - (i+1)) 0):=by first | rfl | (exact JZ hx1) | (simp;done) | omega
  refine ⟨(i+1:Nat),?_,?_,Wk.mk (fun k=>k) ?_ ?_ ?_⟩
  ·first | trivial | omega | (simp;done) | exact ⟨by omega,hI'.2⟩
  ·first | omega | (simp only [];omega) | (show _<_;omega) | (simp;omega)
  ·exact (b2 (b2 (bc ⟨(congrArg (fun n_=>T.os 1 0 0 n_) (show ((a.take i++List.replicate (a.length - i) 0).map (Qb true)).length=((a.take (i+1)++List.replicate (a.length - (i+1)) 0).map (Qb true)).length from (by first | rfl | (simp only [List.length_map];omega) | (simp only [List.length_map,List.length_set,List.length_append,List.length_take,List.length_replicate,List.length_cons,List.length_nil];omega)))),rfl⟩ (b2 bn))))
  ·exact (bc ⟨(congrArg (fun l_=>some (Obj.rows 1 (List.map (Qb true) l_))) he2),(lb Y),rfl⟩ bn)
  ·exact nd Y
 refine VRun.exit (vthn.e (vthn.e (vinB.e (tn (sr (mO (T.os 1 0 0 (((a.take i++List.replicate (a.length - i) 0).map (Qb true)).length)) Y (aO (T.os 1 0 0 (((a.take i++List.replicate (a.length - i) 0).map (Qb true)).length)) Y (nt (rt ?_)))))))))
 refine vfin.eq (r':=(T.sl true 1 ((a.take i++List.replicate (a.length - i) 0).map (Qb true)))) ?_ (vfin.r (VRes.tmp (t:=(T.os 1 0 0 (((a.take i++List.replicate (a.length - i) 0).map (Qb true)).length))) Y VRes.nil) (Give.os Y Y (okInt.cleanMap _)))
 refine congrArg (fun l_=>T.sl true 1 (List.map (Qb true) l_)) ?_
 exact Qcl fhc0
theorem Qgv (n:Nat) (a:D.Grid):Pure (Qs Tryz.prog (n+1)) 59 [(T.agg (Qe false a))] (T.agg (Qe true a)):=by
 refine Pure.intro (rs:= [ResultVar.cell 2 34]) Tryz.func59 Y Y Y (E0:= [(0,(T.agg (Qe false a)))]) Y ?_
 obtain ⟨hlim,hmx,hmax⟩:=QG
 refine sr (kO (B.box (ts:=(Qe false a)) (tv (T.agg (Qe false a)) Y) nofun Y) (kO (B.alloc (t:=(T.agg [(tN 0),(tN 0),(tS ByteArray.empty)])) (ts:= [(tN 0),(tN 0),(tS ByteArray.empty)]) Qkr QmJ nofun (fun _=> .agg _ _ Y (Yf (RL.cons (.int _ _) (RL.cons (.int _ _) (RL.cons (.str _) (RL.nil _)))))) Y) (nt (sr (kO (B.alloc (t:=(T.agg [(tN 0),(tN 0),(tS ByteArray.empty)])) (ts:= [(tN 0),(tN 0),(tS ByteArray.empty)]) Qkr QmJ nofun (fun _=> .agg _ _ Y (Yf (RL.cons (.int _ _) (RL.cons (.int _ _) (RL.cons (.str _) (RL.nil _)))))) Y) (nt (sr (lf (tI a.Rows) Y QnJ Y Y QQ (fO (OF.fieldAddrO (tv (T.op 2 0) Y) QaK) (cO (B.storeO (us:= [(tI a.Rows)]) (ws:= [(tI a.Rows),(tN 0),(tS ByteArray.empty)]) (tv (T.op 2 0) Y) (tv (tI a.Rows) Y) nofun Y Y (lb Y) Yo Zd (bc Y bn) Y) (nt ?_)))))))))))
 refine sr (lf (tI a.Cols) Y QnM Y Y QQ (fO (OF.fieldAddrO (tv (T.op 2 0) Y) Zx) (cO (B.storeO (us:= [(tI a.Cols)]) (ws:= [(tI a.Rows),(tI a.Cols),(tS ByteArray.empty)]) (tv (T.op 2 1) Y) (tv (tI a.Cols) Y) nofun Y Y (lb Y) Yo Zd (bc Y bn) Y) (nt (sr (lf (tS a.Cells) Y Qk7 Y Y Yp (fO (OF.fieldAddrO (tv (T.op 2 0) Y) QN) (cO (B.storeO (us:= [(tS a.Cells)]) (ws:= [(tI a.Rows),(tI a.Cols),(tS a.Cells)]) (tv (T.op 2 2) Y) (tv (tS a.Cells) Y) nofun Y Y (lb Y) if9 sz9 (bc Y bn) Y) (nt (sr (lO (OL.loadOn (us:=(Qe false a)) (tv (T.op 2 0) Y) Y Q4 QX (lb Y) Y) ?_)))))))))))
 refine cO (B.storeW (us:=(Qe false a)) (tv (T.op 1 0) Y) (tv (T.agg (Qe false a)) Y) nofun Y Y Y Qi7 QX (bc Y (bc Y (bc Y bn)))) (nt (rt ?_))
 refine vfin.eq (r':=(T.agg (Qe false a))) ?_ (vfin.r (VRes.celln (ws:=(Qe false a)) Y Y Q4 QX (lb Y) Y VRes.nil) (Give.agg (GiveL.cons (Give.int _ _) (GiveL.cons (Give.int _ _) (GiveL.cons (Give.str _) GiveL.nil (by decide)) (by decide)) (by decide))))
 rfl
theorem Qgp (n:Nat) (a:D.Step):Pure (Qs Tryz.prog (n+1)) 154 [(T.agg (Qg false a))] (T.agg (Qg true a)):=by
 refine Pure.intro (rs:= [ResultVar.cell 2 121]) Tryz.func154 Y Y Y (E0:= [(0,(T.agg (Qg false a)))]) Y ?_
 obtain ⟨hlim,hmx,hmax⟩:=QG
 refine sr (kO (B.box (ts:=(Qg false a)) (tv (T.agg (Qg false a)) Y) nofun Y) (kO (B.alloc (t:=(T.agg [(tN 0),(tS ByteArray.empty),(tN 0),(tN 0)])) (ts:= [(tN 0),(tS ByteArray.empty),(tN 0),(tN 0)]) Qc8 Qio nofun (fun _=> .agg _ _ Y (Yf (RL.cons (.int _ _) (RL.cons (.str _) (RL.cons (.int _ _) (RL.cons (.int _ _) (RL.nil _))))))) Y) (nt (sr (kO (B.alloc (t:=(T.agg [(tN 0),(tS ByteArray.empty),(tN 0),(tN 0)])) (ts:= [(tN 0),(tS ByteArray.empty),(tN 0),(tN 0)]) Qc8 Qio nofun (fun _=> .agg _ _ Y (Yf (RL.cons (.int _ _) (RL.cons (.str _) (RL.cons (.int _ _) (RL.cons (.int _ _) (RL.nil _))))))) Y) (nt (sr (lf (tI a.Kind) Y Qm3 Y Y QQ (fO (OF.fieldAddrO (tv (T.op 2 0) Y) Zj) (cO (B.storeO (us:= [(tI a.Kind)]) (ws:= [(tI a.Kind),(tS ByteArray.empty),(tN 0),(tN 0)]) (tv (T.op 2 0) Y) (tv (tI a.Kind) Y) nofun Y Y (lb Y) Yo Zd (bc Y bn) Y) (nt ?_)))))))))))
 refine sr (lf (tS a.Word) Y Qkc Y Y Yp (fO (OF.fieldAddrO (tv (T.op 2 0) Y) JR) (cO (B.storeO (us:= [(tS a.Word)]) (ws:= [(tI a.Kind),(tS a.Word),(tN 0),(tN 0)]) (tv (T.op 2 1) Y) (tv (tS a.Word) Y) nofun Y Y (lb Y) if9 sz9 (bc Y bn) Y) (nt (sr (lf (tI a.A) Y QmG Y Y QQ (fO (OF.fieldAddrO (tv (T.op 2 0) Y) YI) (cO (B.storeO (us:= [(tI a.A)]) (ws:= [(tI a.Kind),(tS a.Word),(tI a.A),(tN 0)]) (tv (T.op 2 2) Y) (tv (tI a.A) Y) nofun Y Y (lb Y) Yo Zd (bc Y bn) Y) (nt (sr (lf (tI a.B) Y QmK Y Y QQ ?_)))))))))))
 refine fO (OF.fieldAddrO (tv (T.op 2 0) Y) Yj) (cO (B.storeO (us:= [(tI a.B)]) (ws:= [(tI a.Kind),(tS a.Word),(tI a.A),(tI a.B)]) (tv (T.op 2 3) Y) (tv (tI a.B) Y) nofun Y Y (lb Y) Yo Zd (bc Y bn) Y) (nt (sr (lO (OL.loadOn (us:=(Qg false a)) (tv (T.op 2 0) Y) Y Qg7 ZQ (lb Y) Y) (cO (B.storeW (us:=(Qg false a)) (tv (T.op 1 0) Y) (tv (T.agg (Qg false a)) Y) nofun Y Y Y Je ZQ (bc Y (bc Y (bc Y (bc Y bn))))) (nt (rt ?_)))))))
 refine vfin.eq (r':=(T.agg (Qg false a))) ?_ (vfin.r (VRes.celln (ws:=(Qg false a)) Y Y Qg7 ZQ (lb Y) Y VRes.nil) (Give.agg (GiveL.cons (Give.int _ _) (GiveL.cons (Give.str _) (GiveL.cons (Give.int _ _) (GiveL.cons (Give.int _ _) GiveL.nil (by decide)) (by decide)) (by decide)) (by decide))))
 rfl
theorem QfL (n:Nat) (a:List D.Step) (ha:a.length≤mx):Pure (Qs Tryz.prog (n+2)) 129 [(rd 4 Qg a)] (T.sl true 4 (a.map (Qg true))):=by
 refine Pure.intro (rs:= [ResultVar.tmp 2]) Tryz.func129 Y Y Y (E0:= [(0,(rd 4 Qg a))]) Y ?_
 obtain ⟨hlim,hmx,hmax⟩:=QG
 refine sr (fO (OF.assign VEv.nils) (nt (sr (mO (rd 4 Qg a) Y (lO (B.lenR (m:=a.length) (tv (rd 4 Qg a) Y) U74 (List.length_map ..)) (kO (B.makeZ (n:=a.length) (m:=((List.replicate a.length (D.Step.mk 0 ByteArray.empty 0 0)).map (Qg true)).length) (rows:=((List.replicate a.length (D.Step.mk 0 ByteArray.empty 0 0)).map (Qg true))) (zr:=(Qg true (D.Step.mk 0 ByteArray.empty 0 0))) (tv (tN a.length) Y) (tv (tN a.length) Y) Y U81 Qc8 Qio Y (by rw [ZQ];decide) (by omega) (of_decide_eq_true (by kernel_rfl)) (Z0.int (Z0.str (Z0.int (Z0.int Z0.nil)))) ZQ (List.map_replicate ..).symm (by rw [List.length_map,List.length_replicate])) (aO (T.os 4 0 0 (((List.replicate a.length (D.Step.mk 0 ByteArray.empty 0 0)).map (Qg true)).length)) Y (nt (sq (sr (fO (OF.assign (VEv.int .i64 0)) ?_)))))))))))
 refine nt (VRun.block ?_)
 have he1:(List.replicate a.length (D.Step.mk 0 ByteArray.empty 0 0))=(a.take 0++List.replicate (a.length - 0) (D.Step.mk 0 ByteArray.empty 0 0)):=by rfl
 refine VRun.loop (A:=Nat) (fun s_=> [(0,(rd 4 Qg a)),(2,T.nils),(3,(T.os 4 0 0 (((a.take s_++List.replicate (a.length - s_) (D.Step.mk 0 ByteArray.empty 0 0)).map (Qg true)).length))),(4,(tN s_))]) (fun s_=>QY [(0,(Obj.rows 4 ((a.take s_++List.replicate (a.length - s_) (D.Step.mk 0 ByteArray.empty 0 0)).map (Qg true))))]) 1 (fun s_=>s_≤a.length) (fun s_=>a.length - s_) (0:Nat) ?_ (Wk.mk (fun k=>k) ?_ ?_ ?_) ?_
 ·(simp;done)
 ·exact (b2 (b2 (bc ⟨(congrArg (fun l_=>T.os 4 0 0 (List.map (Qg true) l_).length) he1),rfl⟩ (b2 bn))))
 ·exact (bc ⟨(congrArg (fun l_=>some (Obj.rows 4 (List.map (Qg true) l_))) he1),(lb Y),rfl⟩ bn)
 ·exact nd Y
 rintro i (hI':i≤a.length)
 show VRun _ _ _ [(0,(rd 4 Qg a)),(2,T.nils),(3,(T.os 4 0 0 (((a.take i++List.replicate (a.length - i) (D.Step.mk 0 ByteArray.empty 0 0)).map (Qg true)).length))),(4,(tN i))] (QY [(0,(Obj.rows 4 ((a.take i++List.replicate (a.length - i) (D.Step.mk 0 ByteArray.empty 0 0)).map (Qg true))))]) 1 _
 have hfl:=Qe7 (w:=(D.Step.mk 0 ByteArray.empty 0 0)) hI'
 refine sq (sr (mO (tN i) Y (mO (rd 4 Qg a) Y (lO (B.lenR (m:=a.length) (tv (rd 4 Qg a) Y) U74 (List.length_map ..)) (fO (Zb (tv (tN i) Y) (tv (tN a.length) Y)) (nt ?_))))))
 refine cd (i<a.length) Y (fun fhc0=> ?_) fun fhc0=> ?_
 ·refine sk ?_
  refine tn (sq (VRun.block (VRun.region (mO (T.os 4 0 0 (((a.take i++List.replicate (a.length - i) (D.Step.mk 0 ByteArray.empty 0 0)).map (Qg true)).length)) Y (mO (tN i) Y (mO (rd 4 Qg a) Y (mO (tN i) Y ?_)))))))
  obtain ⟨x1,hx1⟩:∃x,a[i]? =some x:=⟨_,List.getElem?_eq_getElem (by omega)⟩
  refine fO (OF.indexAddrR (row:=(Qg false x1)) (i:=i) (tv (rd 4 Qg a) Y) (tv (tN i) Y) Y (Qt _ hx1) U74 QjS Qnl) (lO (OL.loadRn (us:=(Qg false x1)) (tv (T.rp (Qg false x1)) Y) Qnf QjS (lb Y) Y) (cO (cS (vc (tv (T.agg (Qg false x1)) Y) vn) (LendL.cons (lg okeStep) ln) (Qgp (n+0) x1) Y Y) ?_))
  obtain ⟨x2,hx2⟩:∃x,(a.take i++List.replicate (a.length - i) (D.Step.mk 0 ByteArray.empty 0 0))[i]? =some x:=⟨_,List.getElem?_eq_getElem (by omega)⟩
  refine fO (B.indexAddrO (i:=i) (tv (T.os 4 0 0 (((a.take i++List.replicate (a.length - i) (D.Step.mk 0 ByteArray.empty 0 0)).map (Qg true)).length)) Y) (tv (tN i) Y) Y (by (simp only [List.length_map];omega)) U81 ZQ Je) (cO (B.storeP (us:=(Qg true x1)) (rows':=(((a.take i++List.replicate (a.length - i) (D.Step.mk 0 ByteArray.empty 0 0)).set i x1).map (Qg true))) (row:=(Qg true x2)) (tv (T.orp 4 0 i 0) Y) (tv (T.agg (Qg true x1)) Y) nofun Y (Qt _ hx2) Y (lb Y) Je ZQ (bc Y (bc Y (bc Y (bc Y bn)))) (by intro r hr t ht;obtain ⟨x,_,rfl⟩:=List.mem_map.1 hr;rw [Qfw] at ht;exact ZV (okeStep.pl _ t ht)) (Ze Y)) (VRunO.nil (vinB.n (tn (VRun.region (mO (tN i) Y (fO (Qy (tv (tN i) Y) (VEv.int .i64 1) (by omega)) (aO (tN (i+1)) Y (VRunO.nil (tn ?_))))))))))
  have he2:((a.take i++List.replicate (a.length - i) (D.Step.mk 0 ByteArray.empty 0 0)).set i x1)=(a.take (i+1)++List.replicate (a.length - (i+1)) (D.Step.mk 0 ByteArray.empty 0 0)):=by exact JZ hx1
  refine ⟨(i+1:Nat),?_,?_,Wk.mk (fun k=>k) ?_ ?_ ?_⟩
  ·trivial
  ·omega
  ·exact (b2 (b2 (bc ⟨(congrArg (fun n_=>T.os 4 0 0 n_) (show ((a.take i++List.replicate (a.length - i) (D.Step.mk 0 ByteArray.empty 0 0)).map (Qg true)).length=((a.take (i+1)++List.replicate (a.length - (i+1)) (D.Step.mk 0 ByteArray.empty 0 0)).map (Qg true)).length from (by (simp only [List.length_map,List.length_set,List.length_append,List.length_take,List.length_replicate,List.length_cons,List.length_nil];omega)))),rfl⟩ (b2 bn))))
  ·exact (bc ⟨(congrArg (fun l_=>some (Obj.rows 4 (List.map (Qg true) l_))) he2),(lb Y),rfl⟩ bn)
  ·exact nd Y
 refine VRun.exit (vthn.e (vthn.e (vinB.e (tn (sr (mO (T.os 4 0 0 (((a.take i++List.replicate (a.length - i) (D.Step.mk 0 ByteArray.empty 0 0)).map (Qg true)).length)) Y (aO (T.os 4 0 0 (((a.take i++List.replicate (a.length - i) (D.Step.mk 0 ByteArray.empty 0 0)).map (Qg true)).length)) Y (nt (rt ?_)))))))))
 refine vfin.eq (r':=(T.sl true 4 ((a.take i++List.replicate (a.length - i) (D.Step.mk 0 ByteArray.empty 0 0)).map (Qg true)))) ?_ (vfin.r (VRes.tmp (t:=(T.os 4 0 0 (((a.take i++List.replicate (a.length - i) (D.Step.mk 0 ByteArray.empty 0 0)).map (Qg true)).length))) Y VRes.nil) (Give.os Y Y (okeStep.cleanMap _)))
 refine congrArg (fun l_=>T.sl true 4 (List.map (Qg true) l_)) ?_
 exact Qcl fhc0
theorem QcE (n:Nat) (a:D.Clue) (ha:QH a≤mx):Pure (Qs Tryz.prog (n+3)) 100 [(T.agg (Qd false a))] (T.agg (Qd true a)):=by
 refine Pure.intro (rs:= [ResultVar.cell 2 83]) Tryz.func100 Y Y Y (E0:= [(0,(T.agg (Qd false a)))]) Y ?_
 obtain ⟨hlim,hmx,hmax⟩:=QG
 simp only [QH] at ha
 have hla_Play:=QU (z:=ZB) a.Play
 refine sr (kO (B.box (ts:=(Qd false a)) (tv (T.agg (Qd false a)) Y) nofun Y) (kO (B.alloc (t:=(T.agg [(tN 0),T.nils])) (ts:= [(tN 0),T.nils]) Qel Qks nofun (fun _=> .agg _ _ Y (Yf (RL.cons (.int _ _) (RL.cons (.nils) (RL.nil _))))) Y) (nt (sr (kO (B.alloc (t:=(T.agg [(tN 0),T.nils])) (ts:= [(tN 0),T.nils]) Qel Qks nofun (fun _=> .agg _ _ Y (Yf (RL.cons (.int _ _) (RL.cons (.nils) (RL.nil _))))) Y) (nt (sr (lf (tI a.Sense) Y Qnv Y Y QQ (fO (OF.fieldAddrO (tv (T.op 2 0) Y) QaL) (cO (B.storeO (us:= [(tI a.Sense)]) (ws:= [(tI a.Sense),T.nils]) (tv (T.op 2 0) Y) (tv (tI a.Sense) Y) nofun Y Y (lb Y) Yo Zd (bc Y bn) Y) (nt ?_)))))))))))
 refine sr (lf (rd 4 Qg a.Play) Y Qmk Y Y QoI (cO (OC.callF (r':=(T.os 4 3 0 ((a.Play.map (Qg true)).length))) (objs:= [(Obj.rows 4 (a.Play.map (Qg true)))]) Y (vc (tv (rd 4 Qg a.Play) Y) vn) (ZO Y) (QfL (n+0) a.Play (by omega)) Y) (fO (OF.fieldAddrO (tv (T.op 2 0) Y) QaG) (cO (B.storeO (us:= [(T.os 4 3 0 ((a.Play.map (Qg true)).length))]) (ws:= [(tI a.Sense),(T.os 4 3 0 ((a.Play.map (Qg true)).length))]) (tv (T.op 2 1) Y) (tv (T.os 4 3 0 ((a.Play.map (Qg true)).length)) Y) nofun Y Y (lb Y) QoD QoK (bc Y bn) Y) (nt (sr (lO (OL.loadOn (us:= [(tI a.Sense),(T.os 4 3 0 ((a.Play.map (Qg true)).length))]) (tv (T.op 2 0) Y) Y Qby ZP (lb Y) Y) (cO (B.storeW (us:= [(tI a.Sense),(T.os 4 3 0 ((a.Play.map (Qg true)).length))]) (tv (T.op 1 0) Y) (tv (T.agg [(tI a.Sense),(T.os 4 3 0 ((a.Play.map (Qg true)).length))]) Y) nofun Y Y Y Qak ZP (bc Y (bc Y bn))) (nt (rt ?_))))))))))
 refine vfin.eq (r':=(T.agg [(tI a.Sense),(T.sl true 4 (a.Play.map (Qg true)))])) ?_ (vfin.r (VRes.celln (ws:= [(tI a.Sense),(T.os 4 3 0 ((a.Play.map (Qg true)).length))]) Y Y Qby ZP (lb Y) Y VRes.nil) (Give.agg (GiveL.cons (Give.int _ _) (GiveL.cons (Give.os Y Y (okeStep.cleanMap _)) GiveL.nil (by decide)) (by decide))))
 rfl
theorem QfM (n:Nat) (a:List D.Clue) (ha:zL QH a≤mx):Pure (Qs Tryz.prog (n+4)) 60 [(rd 2 Qd a)] (T.sl true 2 (a.map (Qd true))):=by
 refine Pure.intro (rs:= [ResultVar.tmp 2]) Tryz.func60 Y Y Y (E0:= [(0,(rd 2 Qd a))]) Y ?_
 obtain ⟨hlim,hmx,hmax⟩:=QG
 have hla:=QU (z:=QH) a
 refine sr (fO (OF.assign VEv.nils) (nt (sr (mO (rd 2 Qd a) Y (lO (B.lenR (m:=a.length) (tv (rd 2 Qd a) Y) U24 (List.length_map ..)) (kO (B.makeZ (n:=a.length) (m:=((List.replicate a.length (D.Clue.mk 0 [])).map (Qd true)).length) (rows:=((List.replicate a.length (D.Clue.mk 0 [])).map (Qd true))) (zr:=(Qd true (D.Clue.mk 0 []))) (tv (tN a.length) Y) (tv (tN a.length) Y) Y U35 Qel Qks Y (by rw [ZP];decide) (by omega) (of_decide_eq_true (by kernel_rfl)) (Z0.int (Z0.sl Z0.nil)) ZP (List.map_replicate ..).symm (by rw [List.length_map,List.length_replicate])) (aO (T.os 2 0 0 (((List.replicate a.length (D.Clue.mk 0 [])).map (Qd true)).length)) Y (nt (sq (sr (fO (OF.assign (VEv.int .i64 0)) ?_)))))))))))
 refine nt (VRun.block ?_)
 have he1:(List.replicate a.length (D.Clue.mk 0 []))=(a.take 0++List.replicate (a.length - 0) (D.Clue.mk 0 [])):=by rfl
 refine VRun.loop (A:=Nat) (fun s_=> [(0,(rd 2 Qd a)),(2,T.nils),(3,(T.os 2 0 0 (((a.take s_++List.replicate (a.length - s_) (D.Clue.mk 0 [])).map (Qd true)).length))),(4,(tN s_))]) (fun s_=>QY [(0,(Obj.rows 2 ((a.take s_++List.replicate (a.length - s_) (D.Clue.mk 0 [])).map (Qd true))))]) 1 (fun s_=>s_≤a.length) (fun s_=>a.length - s_) (0:Nat) ?_ (Wk.mk (fun k=>k) ?_ ?_ ?_) ?_
 ·(simp;done)
 ·exact (b2 (b2 (bc ⟨(congrArg (fun l_=>T.os 2 0 0 (List.map (Qd true) l_).length) he1),rfl⟩ (b2 bn))))
 ·exact (bc ⟨(congrArg (fun l_=>some (Obj.rows 2 (List.map (Qd true) l_))) he1),(lb Y),rfl⟩ bn)
 ·exact nd Y
 rintro i (hI':i≤a.length)
 show VRun _ _ _ [(0,(rd 2 Qd a)),(2,T.nils),(3,(T.os 2 0 0 (((a.take i++List.replicate (a.length - i) (D.Clue.mk 0 [])).map (Qd true)).length))),(4,(tN i))] (QY [(0,(Obj.rows 2 ((a.take i++List.replicate (a.length - i) (D.Clue.mk 0 [])).map (Qd true))))]) 1 _
 have hfl:=Qe7 (w:=(D.Clue.mk 0 [])) hI'
 refine sq (sr (mO (tN i) Y (mO (rd 2 Qd a) Y (lO (B.lenR (m:=a.length) (tv (rd 2 Qd a) Y) U24 (List.length_map ..)) (fO (Zb (tv (tN i) Y) (tv (tN a.length) Y)) (nt ?_))))))
 refine cd (i<a.length) Y (fun fhc0=> ?_) fun fhc0=> ?_
 ·refine sk ?_
  refine tn (sq (VRun.block (VRun.region (mO (T.os 2 0 0 (((a.take i++List.replicate (a.length - i) (D.Clue.mk 0 [])).map (Qd true)).length)) Y (mO (tN i) Y (mO (rd 2 Qd a) Y (mO (tN i) Y ?_)))))))
  obtain ⟨x1,hx1⟩:∃x,a[i]? =some x:=⟨_,List.getElem?_eq_getElem (by omega)⟩
  refine fO (OF.indexAddrR (row:=(Qd false x1)) (i:=i) (tv (rd 2 Qd a) Y) (tv (tN i) Y) Y (Qt _ hx1) U24 Qi3 QnW) (lO (OL.loadRn (us:=(Qd false x1)) (tv (T.rp (Qd false x1)) Y) QmD Qi3 (lb Y) Y) (cO (OC.callF (r':=(T.agg [(tI x1.Sense),(T.os 4 1 0 ((x1.Play.map (Qg true)).length))])) (objs:= [(Obj.rows 4 (x1.Play.map (Qg true)))]) Y (vc (tv (T.agg (Qd false x1)) Y) vn) (LendL.cons (lg okeClue) ln) (QcE (n+0) x1 (by exact Nat.le_trans (QaC hx1) ha)) Y) ?_))
  obtain ⟨x2,hx2⟩:∃x,(a.take i++List.replicate (a.length - i) (D.Clue.mk 0 []))[i]? =some x:=⟨_,List.getElem?_eq_getElem (by omega)⟩
  refine fO (B.indexAddrO (i:=i) (tv (T.os 2 0 0 (((a.take i++List.replicate (a.length - i) (D.Clue.mk 0 [])).map (Qd true)).length)) Y) (tv (tN i) Y) Y (by (simp only [List.length_map];omega)) U35 ZP Qak) (cO (B.storeB (us:= [(tI x1.Sense),(T.os 4 1 0 ((x1.Play.map (Qg true)).length))]) (ws:= [(tI x1.Sense),(T.sl true 4 (x1.Play.map (Qg true)))]) (rows':=(((a.take i++List.replicate (a.length - i) (D.Clue.mk 0 [])).set i x1).map (Qd true))) (row:=(Qd true x2)) (tv (T.orp 2 0 i 0) Y) (tv (T.agg [(tI x1.Sense),(T.os 4 1 0 ((x1.Play.map (Qg true)).length))]) Y) nofun Y (Qt _ hx2) Y (lb Y) Qak ZP (bc Y (bc Y bn)) (Bury.pl Y (Bury.os Y Y Bury.nil (by decide))) Y (by decide) (Ze Y)) (VRunO.nil (vinB.n (tn (VRun.region (mO (tN i) Y (fO (Qy (tv (tN i) Y) (VEv.int .i64 1) (by omega)) (aO (tN (i+1)) Y (VRunO.nil (tn ?_))))))))))
  have he2:((a.take i++List.replicate (a.length - i) (D.Clue.mk 0 [])).set i x1)=(a.take (i+1)++List.replicate (a.length - (i+1)) (D.Clue.mk 0 [])):=by exact JZ hx1
  refine ⟨(i+1:Nat),?_,?_,Wk.mk (fun k=>k) ?_ ?_ ?_⟩
  ·trivial
  ·omega
  ·exact (b2 (b2 (bc ⟨(congrArg (fun n_=>T.os 2 0 0 n_) (show ((a.take i++List.replicate (a.length - i) (D.Clue.mk 0 [])).map (Qd true)).length=((a.take (i+1)++List.replicate (a.length - (i+1)) (D.Clue.mk 0 [])).map (Qd true)).length from (by (simp only [List.length_map,List.length_set,List.length_append,List.length_take,List.length_replicate,List.length_cons,List.length_nil];omega)))),rfl⟩ (b2 bn))))
  ·exact (bc ⟨(congrArg (fun l_=>some (Obj.rows 2 (List.map (Qd true) l_))) he2),(lb Y),rfl⟩ bn)
  ·exact nd Y
 refine VRun.exit (vthn.e (vthn.e (vinB.e (tn (sr (mO (T.os 2 0 0 (((a.take i++List.replicate (a.length - i) (D.Clue.mk 0 [])).map (Qd true)).length)) Y (aO (T.os 2 0 0 (((a.take i++List.replicate (a.length - i) (D.Clue.mk 0 [])).map (Qd true)).length)) Y (nt (rt ?_)))))))))
 refine vfin.eq (r':=(T.sl true 2 ((a.take i++List.replicate (a.length - i) (D.Clue.mk 0 [])).map (Qd true)))) ?_ (vfin.r (VRes.tmp (t:=(T.os 2 0 0 (((a.take i++List.replicate (a.length - i) (D.Clue.mk 0 [])).map (Qd true)).length))) Y VRes.nil) (Give.os Y Y (okeClue.cleanMap _)))
 refine congrArg (fun l_=>T.sl true 2 (List.map (Qd true) l_)) ?_
 exact Qcl fhc0
theorem QeM (n:Nat) (a:D.Puzzle) (ha:QK a≤mx):Pure (Qs Tryz.prog (n+5)) 26 [(T.agg (Qv false a))] (T.agg (Qv true a)):=by
 refine Pure.intro (rs:= [ResultVar.cell 2 37]) Tryz.func26 Y Y Y (E0:= [(0,(T.agg (Qv false a)))]) Y ?_
 obtain ⟨hlim,hmx,hmax⟩:=QG
 simp only [QK] at ha
 have hla_Clues:=QU (z:=QH) a.Clues
 have hla_Seals:=QU (z:=zI) a.Seals
 refine sr (kO (B.box (ts:=(Qv false a)) (tv (T.agg (Qv false a)) Y) nofun Y) (kO (B.alloc (t:=(T.agg [(tN 0),(tN 0),(tS ByteArray.empty),T.nils,T.nils,(tN 0)])) (ts:= [(tN 0),(tN 0),(tS ByteArray.empty),T.nils,T.nils,(tN 0)]) Qc0 Qf4 nofun (fun _=> .agg _ _ Y (Yf (RL.cons (.int _ _) (RL.cons (.int _ _) (RL.cons (.str _) (RL.cons (.nils) (RL.cons (.nils) (RL.cons (.int _ _) (RL.nil _))))))))) Y) (nt (sr (kO (B.alloc (t:=(T.agg [(tN 0),(tN 0),(tS ByteArray.empty),T.nils,T.nils,(tN 0)])) (ts:= [(tN 0),(tN 0),(tS ByteArray.empty),T.nils,T.nils,(tN 0)]) Qc0 Qf4 nofun (fun _=> .agg _ _ Y (Yf (RL.cons (.int _ _) (RL.cons (.int _ _) (RL.cons (.str _) (RL.cons (.nils) (RL.cons (.nils) (RL.cons (.int _ _) (RL.nil _))))))))) Y) (nt (sr (fO (OF.fieldAddrO (tv (T.op 0 0) Y) Ql6) (lO (OL.loadOn (us:=(Qe false a.Grid)) (tv (T.op 0 0) Y) Y QoL QnX (lb Y) Y) (cO (cS (vc (tv (T.agg (Qe false a.Grid)) Y) vn) (LendL.cons (lg Qw) ln) (Qgv (n+3) a.Grid) Y Y) (fO (OF.fieldAddrO (tv (T.op 2 0) Y) Ju) ?_)))))))))))
 refine cO (B.storeO (us:=(Qe true a.Grid)) (ws:= [(tI a.Grid.Rows),(tI a.Grid.Cols),(tS a.Grid.Cells),T.nils,T.nils,(tN 0)]) (tv (T.op 2 0) Y) (tv (T.agg (Qe true a.Grid)) Y) nofun Y Y (lb Y) Qi7 QX (bc Y (bc Y (bc Y bn))) Y) (nt (sr (lf (rd 2 Qd a.Clues) Y Ql5 Y Y QoC (cO (OC.callF (r':=(T.os 2 3 0 ((a.Clues.map (Qd true)).length))) (objs:= [(Obj.rows 2 (a.Clues.map (Qd true)))]) Y (vc (tv (rd 2 Qd a.Clues) Y) vn) (ZO Y) (QfM (n+0) a.Clues (by first | assumption | omega)) Y) (fO (OF.fieldAddrO (tv (T.op 2 0) Y) Yu) (cO (B.storeO (us:= [(T.os 2 3 0 ((a.Clues.map (Qd true)).length))]) (ws:= [(tI a.Grid.Rows),(tI a.Grid.Cols),(tS a.Grid.Cells),(T.os 2 3 0 ((a.Clues.map (Qd true)).length)),T.nils,(tN 0)]) (tv (T.op 2 3) Y) (tv (T.os 2 3 0 ((a.Clues.map (Qd true)).length)) Y) nofun Y Y (lb Y) QoM Qon (bc Y bn) Y) (nt (sr (lf (rd 1 Qb a.Seals) Y Ql0 Y Y QbP (cO (OC.callF (r':=(T.os 1 4 0 ((a.Seals.map (Qb true)).length))) (objs:= [(Obj.rows 1 (a.Seals.map (Qb true)))]) Y (vc (tv (rd 1 Qb a.Seals) Y) vn) (ZO Y) (Qgk (n+3) a.Seals (by first | assumption | omega)) Y) (fO (OF.fieldAddrO (tv (T.op 2 0) Y) JH) ?_)))))))))))
 refine cO (B.storeO (us:= [(T.os 1 4 0 ((a.Seals.map (Qb true)).length))]) (ws:= [(tI a.Grid.Rows),(tI a.Grid.Cols),(tS a.Grid.Cells),(T.os 2 3 0 ((a.Clues.map (Qd true)).length)),(T.os 1 4 0 ((a.Seals.map (Qb true)).length)),(tN 0)]) (tv (T.op 2 4) Y) (tv (T.os 1 4 0 ((a.Seals.map (Qb true)).length)) Y) nofun Y Y (lb Y) Qi8 QgB (bc Y bn) Y) (nt (sr (lf (tI a.Salt) Y QnN Y Y QQ (fO (OF.fieldAddrO (tv (T.op 2 0) Y) Qbm) (cO (B.storeO (us:= [(tI a.Salt)]) (ws:= [(tI a.Grid.Rows),(tI a.Grid.Cols),(tS a.Grid.Cells),(T.os 2 3 0 ((a.Clues.map (Qd true)).length)),(T.os 1 4 0 ((a.Seals.map (Qb true)).length)),(tI a.Salt)]) (tv (T.op 2 5) Y) (tv (tI a.Salt) Y) nofun Y Y (lb Y) Yo Zd (bc Y bn) Y) (nt (sr (lO (OL.loadOn (us:= [(tI a.Grid.Rows),(tI a.Grid.Cols),(tS a.Grid.Cells),(T.os 2 3 0 ((a.Clues.map (Qd true)).length)),(T.os 1 4 0 ((a.Seals.map (Qb true)).length)),(tI a.Salt)]) (tv (T.op 2 0) Y) Y Jn Yc (lb Y) Y) (cO (B.storeW (us:= [(tI a.Grid.Rows),(tI a.Grid.Cols),(tS a.Grid.Cells),(T.os 2 3 0 ((a.Clues.map (Qd true)).length)),(T.os 1 4 0 ((a.Seals.map (Qb true)).length)),(tI a.Salt)]) (tv (T.op 1 0) Y) (tv (T.agg [(tI a.Grid.Rows),(tI a.Grid.Cols),(tS a.Grid.Cells),(T.os 2 3 0 ((a.Clues.map (Qd true)).length)),(T.os 1 4 0 ((a.Seals.map (Qb true)).length)),(tI a.Salt)]) Y) nofun Y Y Y Qdl Yc (bc Y (bc Y (bc Y (bc Y (bc Y (bc Y bn))))))) (nt (rt ?_)))))))))))
 refine vfin.eq (r':=(T.agg [(tI a.Grid.Rows),(tI a.Grid.Cols),(tS a.Grid.Cells),(T.sl true 2 (a.Clues.map (Qd true))),(T.sl true 1 (a.Seals.map (Qb true))),(tI a.Salt)])) ?_ (vfin.r (VRes.celln (ws:= [(tI a.Grid.Rows),(tI a.Grid.Cols),(tS a.Grid.Cells),(T.os 2 3 0 ((a.Clues.map (Qd true)).length)),(T.os 1 4 0 ((a.Seals.map (Qb true)).length)),(tI a.Salt)]) Y Y Jn Yc (lb Y) Y VRes.nil) (Give.agg (GiveL.cons (Give.int _ _) (GiveL.cons (Give.int _ _) (GiveL.cons (Give.str _) (GiveL.cons (Give.os Y Y (okeClue.cleanMap _)) (GiveL.cons (Give.os Y Y (okInt.cleanMap _)) (GiveL.cons (Give.int _ _) GiveL.nil (by decide)) (by decide)) (by decide)) (by decide)) (by decide)) (by decide))))
 first | rfl | (exact Q6 (by omega)) | (symm;rw [decide_eq_false_iff_not];omega) | (symm;rw [decide_eq_true_eq];omega) | (simp_all;done)
theorem Jf (n:Nat) (a:D.Issue) (ha:Q5 a≤mx):Pure (Qs Tryz.prog (n+6)) 13 [(T.agg (Qz false a))] (T.agg (Qz true a)):=by
 refine Pure.intro (rs:= [ResultVar.cell 2 39]) Tryz.func13 Y Y Y (E0:= [(0,(T.agg (Qz false a)))]) Y ?_
 obtain ⟨hlim,hmx,hmax⟩:=QG
 simp only [Q5] at ha
 refine sr (kO (B.box (ts:=(Qz false a)) (tv (T.agg (Qz false a)) Y) nofun Y) (kO (B.alloc (t:=(T.agg [(tN 0),(tN 0),(tN 0),(tS ByteArray.empty),T.nils,T.nils,(tN 0),(tS ByteArray.empty),(tN 0),(tN 0)])) (ts:= [(tN 0),(tN 0),(tN 0),(tS ByteArray.empty),T.nils,T.nils,(tN 0),(tS ByteArray.empty),(tN 0),(tN 0)]) Qn1 QnZ nofun (fun _=> .agg _ _ Y (Yf (RL.cons (.int _ _) (RL.cons (.int _ _) (RL.cons (.int _ _) (RL.cons (.str _) (RL.cons (.nils) (RL.cons (.nils) (RL.cons (.int _ _) (RL.cons (.str _) (RL.cons (.int _ _) (RL.cons (.int _ _) (RL.nil _))))))))))))) Y) (nt (sr (kO (B.alloc (t:=(T.agg [(tN 0),(tN 0),(tN 0),(tS ByteArray.empty),T.nils,T.nils,(tN 0),(tS ByteArray.empty),(tN 0),(tN 0)])) (ts:= [(tN 0),(tN 0),(tN 0),(tS ByteArray.empty),T.nils,T.nils,(tN 0),(tS ByteArray.empty),(tN 0),(tN 0)]) Qn1 QnZ nofun (fun _=> .agg _ _ Y (Yf (RL.cons (.int _ _) (RL.cons (.int _ _) (RL.cons (.int _ _) (RL.cons (.str _) (RL.cons (.nils) (RL.cons (.nils) (RL.cons (.int _ _) (RL.cons (.str _) (RL.cons (.int _ _) (RL.cons (.int _ _) (RL.nil _))))))))))))) Y) (nt (sr (lf (tI a.Number) Y Qnn Y Y QQ (fO (OF.fieldAddrO (tv (T.op 2 0) Y) QbF) (cO (B.storeO (us:= [(tI a.Number)]) (ws:= [(tI a.Number),(tN 0),(tN 0),(tS ByteArray.empty),T.nils,T.nils,(tN 0),(tS ByteArray.empty),(tN 0),(tN 0)]) (tv (T.op 2 0) Y) (tv (tI a.Number) Y) nofun Y Y (lb Y) Yo Zd (bc Y bn) Y) (nt ?_)))))))))))
 refine sr (fO (OF.fieldAddrO (tv (T.op 0 0) Y) QlP) (lO (OL.loadOn (us:=(Qv false a.Puzzle)) (tv (T.op 0 1) Y) Y QoR Qn2 (lb Y) Y) (cO (OC.callF (r':=(T.agg [(tI a.Puzzle.Grid.Rows),(tI a.Puzzle.Grid.Cols),(tS a.Puzzle.Grid.Cells),(T.os 2 3 0 ((a.Puzzle.Clues.map (Qd true)).length)),(T.os 1 4 0 ((a.Puzzle.Seals.map (Qb true)).length)),(tI a.Puzzle.Salt)])) (objs:= [(Obj.rows 2 (a.Puzzle.Clues.map (Qd true))),(Obj.rows 1 (a.Puzzle.Seals.map (Qb true)))]) Y (vc (tv (T.agg (Qv false a.Puzzle)) Y) vn) (LendL.cons (lg Yt) ln) (QeM (n+0) a.Puzzle (by first | assumption | omega)) Y) (fO (OF.fieldAddrO (tv (T.op 2 0) Y) QaV) (cO (B.storeO (us:= [(tI a.Puzzle.Grid.Rows),(tI a.Puzzle.Grid.Cols),(tS a.Puzzle.Grid.Cells),(T.os 2 3 0 ((a.Puzzle.Clues.map (Qd true)).length)),(T.os 1 4 0 ((a.Puzzle.Seals.map (Qb true)).length)),(tI a.Puzzle.Salt)]) (ws:= [(tI a.Number),(tI a.Puzzle.Grid.Rows),(tI a.Puzzle.Grid.Cols),(tS a.Puzzle.Grid.Cells),(T.os 2 3 0 ((a.Puzzle.Clues.map (Qd true)).length)),(T.os 1 4 0 ((a.Puzzle.Seals.map (Qb true)).length)),(tI a.Puzzle.Salt),(tS ByteArray.empty),(tN 0),(tN 0)]) (tv (T.op 2 1) Y) (tv (T.agg [(tI a.Puzzle.Grid.Rows),(tI a.Puzzle.Grid.Cols),(tS a.Puzzle.Grid.Cells),(T.os 2 3 0 ((a.Puzzle.Clues.map (Qd true)).length)),(T.os 1 4 0 ((a.Puzzle.Seals.map (Qb true)).length)),(tI a.Puzzle.Salt)]) Y) nofun Y Y (lb Y) Qdl Yc (bc Y (bc Y (bc Y (bc Y (bc Y (bc Y bn)))))) Y) (nt (sr (lf (tS a.Fill) Y Ql8 Y Y Yp (fO (OF.fieldAddrO (tv (T.op 2 0) Y) Qfy) (cO (B.storeO (us:= [(tS a.Fill)]) (ws:= [(tI a.Number),(tI a.Puzzle.Grid.Rows),(tI a.Puzzle.Grid.Cols),(tS a.Puzzle.Grid.Cells),(T.os 2 3 0 ((a.Puzzle.Clues.map (Qd true)).length)),(T.os 1 4 0 ((a.Puzzle.Seals.map (Qb true)).length)),(tI a.Puzzle.Salt),(tS a.Fill),(tN 0),(tN 0)]) (tv (T.op 2 7) Y) (tv (tS a.Fill) Y) nofun Y Y (lb Y) if9 sz9 (bc Y bn) Y) (nt ?_)))))))))))
 refine sr (lf (tI a.Open) Y QnH Y Y QQ (fO (OF.fieldAddrO (tv (T.op 2 0) Y) Qc3) (cO (B.storeO (us:= [(tI a.Open)]) (ws:= [(tI a.Number),(tI a.Puzzle.Grid.Rows),(tI a.Puzzle.Grid.Cols),(tS a.Puzzle.Grid.Cells),(T.os 2 3 0 ((a.Puzzle.Clues.map (Qd true)).length)),(T.os 1 4 0 ((a.Puzzle.Seals.map (Qb true)).length)),(tI a.Puzzle.Salt),(tS a.Fill),(tI a.Open),(tN 0)]) (tv (T.op 2 8) Y) (tv (tI a.Open) Y) nofun Y Y (lb Y) Yo Zd (bc Y bn) Y) (nt (sr (lf (tI a.Close) Y QnE Y Y QQ (fO (OF.fieldAddrO (tv (T.op 2 0) Y) QcM) (cO (B.storeO (us:= [(tI a.Close)]) (ws:= [(tI a.Number),(tI a.Puzzle.Grid.Rows),(tI a.Puzzle.Grid.Cols),(tS a.Puzzle.Grid.Cells),(T.os 2 3 0 ((a.Puzzle.Clues.map (Qd true)).length)),(T.os 1 4 0 ((a.Puzzle.Seals.map (Qb true)).length)),(tI a.Puzzle.Salt),(tS a.Fill),(tI a.Open),(tI a.Close)]) (tv (T.op 2 9) Y) (tv (tI a.Close) Y) nofun Y Y (lb Y) Yo Zd (bc Y bn) Y) (nt (sr (lO (OL.loadOn (us:= [(tI a.Number),(tI a.Puzzle.Grid.Rows),(tI a.Puzzle.Grid.Cols),(tS a.Puzzle.Grid.Cells),(T.os 2 3 0 ((a.Puzzle.Clues.map (Qd true)).length)),(T.os 1 4 0 ((a.Puzzle.Seals.map (Qb true)).length)),(tI a.Puzzle.Salt),(tS a.Fill),(tI a.Open),(tI a.Close)]) (tv (T.op 2 0) Y) Y Qgg QeR (lb Y) Y) ?_)))))))))))
 refine cO (B.storeW (us:= [(tI a.Number),(tI a.Puzzle.Grid.Rows),(tI a.Puzzle.Grid.Cols),(tS a.Puzzle.Grid.Cells),(T.os 2 3 0 ((a.Puzzle.Clues.map (Qd true)).length)),(T.os 1 4 0 ((a.Puzzle.Seals.map (Qb true)).length)),(tI a.Puzzle.Salt),(tS a.Fill),(tI a.Open),(tI a.Close)]) (tv (T.op 1 0) Y) (tv (T.agg [(tI a.Number),(tI a.Puzzle.Grid.Rows),(tI a.Puzzle.Grid.Cols),(tS a.Puzzle.Grid.Cells),(T.os 2 3 0 ((a.Puzzle.Clues.map (Qd true)).length)),(T.os 1 4 0 ((a.Puzzle.Seals.map (Qb true)).length)),(tI a.Puzzle.Salt),(tS a.Fill),(tI a.Open),(tI a.Close)]) Y) nofun Y Y Y Qoy QeR (bc Y (bc Y (bc Y (bc Y (bc Y (bc Y (bc Y (bc Y (bc Y (bc Y bn))))))))))) (nt (rt ?_))
 refine vfin.eq (r':=(T.agg [(tI a.Number),(tI a.Puzzle.Grid.Rows),(tI a.Puzzle.Grid.Cols),(tS a.Puzzle.Grid.Cells),(T.sl true 2 (a.Puzzle.Clues.map (Qd true))),(T.sl true 1 (a.Puzzle.Seals.map (Qb true))),(tI a.Puzzle.Salt),(tS a.Fill),(tI a.Open),(tI a.Close)])) ?_ (vfin.r (VRes.celln (ws:= [(tI a.Number),(tI a.Puzzle.Grid.Rows),(tI a.Puzzle.Grid.Cols),(tS a.Puzzle.Grid.Cells),(T.os 2 3 0 ((a.Puzzle.Clues.map (Qd true)).length)),(T.os 1 4 0 ((a.Puzzle.Seals.map (Qb true)).length)),(tI a.Puzzle.Salt),(tS a.Fill),(tI a.Open),(tI a.Close)]) Y Y Qgg QeR (lb Y) Y VRes.nil) (Give.agg (GiveL.cons (Give.int _ _) (GiveL.cons (Give.int _ _) (GiveL.cons (Give.int _ _) (GiveL.cons (Give.str _) (GiveL.cons (Give.os Y Y (okeClue.cleanMap _)) (GiveL.cons (Give.os Y Y (okInt.cleanMap _)) (GiveL.cons (Give.int _ _) (GiveL.cons (Give.str _) (GiveL.cons (Give.int _ _) (GiveL.cons (Give.int _ _) GiveL.nil (by decide)) (by decide)) (by decide)) (by decide)) (by decide)) (by decide)) (by decide)) (by decide)) (by decide)) (by decide))))
 first | rfl | (exact Q6 (by omega)) | (symm;rw [decide_eq_false_iff_not];omega) | (symm;rw [decide_eq_true_eq];omega) | (simp_all;done)
theorem Qcq (n:Nat) (a:D.Correction) (ha:Qn a≤mx):Pure (Qs Tryz.prog (n+4)) 49 [(T.agg (Qa false a))] (T.agg (Qa true a)):=by
 refine Pure.intro (rs:= [ResultVar.cell 2 85]) Tryz.func49 Y Y Y (E0:= [(0,(T.agg (Qa false a)))]) Y ?_
 obtain ⟨hlim,hmx,hmax⟩:=QG
 simp only [Qn] at ha
 refine sr (kO (B.box (ts:=(Qa false a)) (tv (T.agg (Qa false a)) Y) nofun Y) (kO (B.alloc (t:=(T.agg [(tN 0),(tN 0),(tN 0),T.nils,(tN 0)])) (ts:= [(tN 0),(tN 0),(tN 0),T.nils,(tN 0)]) QkZ QkM nofun (fun _=> .agg _ _ Y (Yf (RL.cons (.int _ _) (RL.cons (.int _ _) (RL.cons (.int _ _) (RL.cons (.nils) (RL.cons (.int _ _) (RL.nil _)))))))) Y) (nt (sr (kO (B.alloc (t:=(T.agg [(tN 0),(tN 0),(tN 0),T.nils,(tN 0)])) (ts:= [(tN 0),(tN 0),(tN 0),T.nils,(tN 0)]) QkZ QkM nofun (fun _=> .agg _ _ Y (Yf (RL.cons (.int _ _) (RL.cons (.int _ _) (RL.cons (.int _ _) (RL.cons (.nils) (RL.cons (.int _ _) (RL.nil _)))))))) Y) (nt (sr (lf (tI a.Issue) Y Qnp Y Y QQ (fO (OF.fieldAddrO (tv (T.op 2 0) Y) Qbg) (cO (B.storeO (us:= [(tI a.Issue)]) (ws:= [(tI a.Issue),(tN 0),(tN 0),T.nils,(tN 0)]) (tv (T.op 2 0) Y) (tv (tI a.Issue) Y) nofun Y Y (lb Y) Yo Zd (bc Y bn) Y) (nt ?_)))))))))))
 refine sr (lf (tI a.Slot) Y Qny Y Y QQ (fO (OF.fieldAddrO (tv (T.op 2 0) Y) J6) (cO (B.storeO (us:= [(tI a.Slot)]) (ws:= [(tI a.Issue),(tI a.Slot),(tN 0),T.nils,(tN 0)]) (tv (T.op 2 1) Y) (tv (tI a.Slot) Y) nofun Y Y (lb Y) Yo Zd (bc Y bn) Y) (nt (sr (fO (OF.fieldAddrO (tv (T.op 0 0) Y) Qlv) (lO (OL.loadOn (us:=(Qd false a.Clue)) (tv (T.op 0 2) Y) Y QmD Qi3 (lb Y) Y) (cO (OC.callF (r':=(T.agg [(tI a.Clue.Sense),(T.os 4 3 0 ((a.Clue.Play.map (Qg true)).length))])) (objs:= [(Obj.rows 4 (a.Clue.Play.map (Qg true)))]) Y (vc (tv (T.agg (Qd false a.Clue)) Y) vn) (LendL.cons (lg okeClue) ln) (QcE (n+0) a.Clue (by first | assumption | omega)) Y) (fO (OF.fieldAddrO (tv (T.op 2 0) Y) Qbp) (cO (B.storeO (us:= [(tI a.Clue.Sense),(T.os 4 3 0 ((a.Clue.Play.map (Qg true)).length))]) (ws:= [(tI a.Issue),(tI a.Slot),(tI a.Clue.Sense),(T.os 4 3 0 ((a.Clue.Play.map (Qg true)).length)),(tN 0)]) (tv (T.op 2 2) Y) (tv (T.agg [(tI a.Clue.Sense),(T.os 4 3 0 ((a.Clue.Play.map (Qg true)).length))]) Y) nofun Y Y (lb Y) Qak ZP (bc Y (bc Y bn)) Y) (nt ?_)))))))))))
 refine sr (lf (tI a.Tick) Y Qnu Y Y QQ (fO (OF.fieldAddrO (tv (T.op 2 0) Y) Jz) (cO (B.storeO (us:= [(tI a.Tick)]) (ws:= [(tI a.Issue),(tI a.Slot),(tI a.Clue.Sense),(T.os 4 3 0 ((a.Clue.Play.map (Qg true)).length)),(tI a.Tick)]) (tv (T.op 2 4) Y) (tv (tI a.Tick) Y) nofun Y Y (lb Y) Yo Zd (bc Y bn) Y) (nt (sr (lO (OL.loadOn (us:= [(tI a.Issue),(tI a.Slot),(tI a.Clue.Sense),(T.os 4 3 0 ((a.Clue.Play.map (Qg true)).length)),(tI a.Tick)]) (tv (T.op 2 0) Y) Y Qjw Yv (lb Y) Y) (cO (B.storeW (us:= [(tI a.Issue),(tI a.Slot),(tI a.Clue.Sense),(T.os 4 3 0 ((a.Clue.Play.map (Qg true)).length)),(tI a.Tick)]) (tv (T.op 1 0) Y) (tv (T.agg [(tI a.Issue),(tI a.Slot),(tI a.Clue.Sense),(T.os 4 3 0 ((a.Clue.Play.map (Qg true)).length)),(tI a.Tick)]) Y) nofun Y Y Y Jk Yv (bc Y (bc Y (bc Y (bc Y (bc Y bn)))))) (nt (rt ?_)))))))))
 refine vfin.eq (r':=(T.agg [(tI a.Issue),(tI a.Slot),(tI a.Clue.Sense),(T.sl true 4 (a.Clue.Play.map (Qg true))),(tI a.Tick)])) ?_ (vfin.r (VRes.celln (ws:= [(tI a.Issue),(tI a.Slot),(tI a.Clue.Sense),(T.os 4 3 0 ((a.Clue.Play.map (Qg true)).length)),(tI a.Tick)]) Y Y Qjw Yv (lb Y) Y VRes.nil) (Give.agg (GiveL.cons (Give.int _ _) (GiveL.cons (Give.int _ _) (GiveL.cons (Give.int _ _) (GiveL.cons (Give.os Y Y (okeStep.cleanMap _)) (GiveL.cons (Give.int _ _) GiveL.nil (by decide)) (by decide)) (by decide)) (by decide)) (by decide))))
 first | rfl | (exact Q6 (by omega)) | (symm;rw [decide_eq_false_iff_not];omega) | (symm;rw [decide_eq_true_eq];omega) | (simp_all;done)
theorem Z3 (n:Nat) (a:List D.Correction) (ha:zL Qn a≤mx):Pure (Qs Tryz.prog (n+5)) 14 [(rd 5 Qa a)] (T.sl true 5 (a.map (Qa true))):=by
 refine Pure.intro (rs:= [ResultVar.tmp 2]) Tryz.func14 Y Y Y (E0:= [(0,(rd 5 Qa a))]) Y ?_
 obtain ⟨hlim,hmx,hmax⟩:=QG
 have hla:=QU (z:=Qn) a
 refine sr (fO (OF.assign VEv.nils) (nt (sr (mO (rd 5 Qa a) Y (lO (B.lenR (m:=a.length) (tv (rd 5 Qa a) Y) U30 (List.length_map ..)) (kO (B.makeZ (n:=a.length) (m:=((List.replicate a.length (D.Correction.mk 0 0 (D.Clue.mk 0 []) 0)).map (Qa true)).length) (rows:=((List.replicate a.length (D.Correction.mk 0 0 (D.Clue.mk 0 []) 0)).map (Qa true))) (zr:=(Qa true (D.Correction.mk 0 0 (D.Clue.mk 0 []) 0))) (tv (tN a.length) Y) (tv (tN a.length) Y) Y U41 QkZ QkM Y (by rw [Yv];decide) (by first | exact Nat.le_trans (QaC hx1) ha | omega | (simp only [List.length_map];omega) | (simp only [List.length_map,List.length_append,List.length_cons,List.length_nil,List.length_replicate,List.length_set,List.length_drop,List.length_take,YG] at *;omega)) (of_decide_eq_true (by kernel_rfl)) (Z0.int (Z0.int (Z0.int (Z0.sl (Z0.int Z0.nil))))) Yv (List.map_replicate ..).symm (by rw [List.length_map,List.length_replicate])) (aO (T.os 5 0 0 (((List.replicate a.length (D.Correction.mk 0 0 (D.Clue.mk 0 []) 0)).map (Qa true)).length)) Y (nt (sq (sr (fO (OF.assign (VEv.int .i64 0)) ?_)))))))))))
 refine nt (VRun.block ?_)
 have he1:(List.replicate a.length (D.Correction.mk 0 0 (D.Clue.mk 0 []) 0))=(a.take 0++List.replicate (a.length - 0) (D.Correction.mk 0 0 (D.Clue.mk 0 []) 0)):=by first | rfl | (exact JZ hx1) | (simp;done) | omega
 refine VRun.loop (A:=Nat) (fun s_=> [(0,(rd 5 Qa a)),(2,T.nils),(3,(T.os 5 0 0 (((a.take s_++List.replicate (a.length - s_) (D.Correction.mk 0 0 (D.Clue.mk 0 []) 0)).map (Qa true)).length))),(4,(tN s_))]) (fun s_=>QY [(0,(Obj.rows 5 ((a.take s_++List.replicate (a.length - s_) (D.Correction.mk 0 0 (D.Clue.mk 0 []) 0)).map (Qa true))))]) 1 (fun s_=>s_≤a.length) (fun s_=>a.length - s_) (0:Nat) ?_ (Wk.mk (fun k=>k) ?_ ?_ ?_) ?_
 ·first | trivial | (simp;done) | omega | (constructor<;>simp)
 ·exact (b2 (b2 (bc ⟨(congrArg (fun l_=>T.os 5 0 0 (List.map (Qa true) l_).length) he1),rfl⟩ (b2 bn))))
 ·exact (bc ⟨(congrArg (fun l_=>some (Obj.rows 5 (List.map (Qa true) l_))) he1),(lb Y),rfl⟩ bn)
 ·exact nd Y
 rintro i (hI':i≤a.length)
 show VRun _ _ _ [(0,(rd 5 Qa a)),(2,T.nils),(3,(T.os 5 0 0 (((a.take i++List.replicate (a.length - i) (D.Correction.mk 0 0 (D.Clue.mk 0 []) 0)).map (Qa true)).length))),(4,(tN i))] (QY [(0,(Obj.rows 5 ((a.take i++List.replicate (a.length - i) (D.Correction.mk 0 0 (D.Clue.mk 0 []) 0)).map (Qa true))))]) 1 _
 have hfl:=Qe7 (w:=(D.Correction.mk 0 0 (D.Clue.mk 0 []) 0)) hI'
 refine sq (sr (mO (tN i) Y (mO (rd 5 Qa a) Y (lO (B.lenR (m:=a.length) (tv (rd 5 Qa a) Y) U30 (List.length_map ..)) (fO (Zb (tv (tN i) Y) (tv (tN a.length) Y)) (nt ?_))))))
 refine cd (i<a.length) Y (fun fhc0=> ?_) fun fhc0=> ?_
 ·refine sk ?_
  refine tn (sq (VRun.block (VRun.region (mO (T.os 5 0 0 (((a.take i++List.replicate (a.length - i) (D.Correction.mk 0 0 (D.Clue.mk 0 []) 0)).map (Qa true)).length)) Y (mO (tN i) Y (mO (rd 5 Qa a) Y (mO (tN i) Y ?_)))))))
  obtain ⟨x1,hx1⟩:∃x,a[i]? =some x:=⟨_,List.getElem?_eq_getElem (by first | exact Nat.le_trans (QaC hx1) ha | omega)⟩
  refine fO (OF.indexAddrR (row:=(Qa false x1)) (i:=i) (tv (rd 5 Qa a) Y) (tv (tN i) Y) Y (Qt _ hx1) U30 QmC Qol) (lO (OL.loadRn (us:=(Qa false x1)) (tv (T.rp (Qa false x1)) Y) Qom QmC (lb Y) Y) (cO (OC.callF (r':=(T.agg [(tI x1.Issue),(tI x1.Slot),(tI x1.Clue.Sense),(T.os 4 1 0 ((x1.Clue.Play.map (Qg true)).length)),(tI x1.Tick)])) (objs:= [(Obj.rows 4 (x1.Clue.Play.map (Qg true)))]) Y (vc (tv (T.agg (Qa false x1)) Y) vn) (LendL.cons (lg okeCorrection) ln) (Qcq (n+0) x1 (by first | exact Nat.le_trans (QaC hx1) ha | assumption | omega)) Y) ?_))
  obtain ⟨x2,hx2⟩:∃x,(a.take i++List.replicate (a.length - i) (D.Correction.mk 0 0 (D.Clue.mk 0 []) 0))[i]? =some x:=⟨_,List.getElem?_eq_getElem (by first | exact Nat.le_trans (QaC hx1) ha | omega | (simp only [List.length_map];omega) | (simp only [List.length_map,List.length_append,List.length_cons,List.length_nil,List.length_replicate,List.length_set,List.length_drop,List.length_take,YG] at *;omega))⟩
  refine fO (B.indexAddrO (i:=i) (tv (T.os 5 0 0 (((a.take i++List.replicate (a.length - i) (D.Correction.mk 0 0 (D.Clue.mk 0 []) 0)).map (Qa true)).length)) Y) (tv (tN i) Y) Y (by first | exact Nat.le_trans (QaC hx1) ha | omega | (simp only [List.length_map];omega) | (simp only [List.length_map,List.length_append,List.length_cons,List.length_nil,List.length_replicate,List.length_set,List.length_drop,List.length_take,YG] at *;omega)) U41 Yv Jk) (cO (B.storeB (us:= [(tI x1.Issue),(tI x1.Slot),(tI x1.Clue.Sense),(T.os 4 1 0 ((x1.Clue.Play.map (Qg true)).length)),(tI x1.Tick)]) (ws:= [(tI x1.Issue),(tI x1.Slot),(tI x1.Clue.Sense),(T.sl true 4 (x1.Clue.Play.map (Qg true))),(tI x1.Tick)]) (rows':=(((a.take i++List.replicate (a.length - i) (D.Correction.mk 0 0 (D.Clue.mk 0 []) 0)).set i x1).map (Qa true))) (row:=(Qa true x2)) (tv (T.orp 5 0 i 0) Y) (tv (T.agg [(tI x1.Issue),(tI x1.Slot),(tI x1.Clue.Sense),(T.os 4 1 0 ((x1.Clue.Play.map (Qg true)).length)),(tI x1.Tick)]) Y) nofun Y (Qt _ hx2) Y (lb Y) Jk Yv (bc Y (bc Y (bc Y (bc Y (bc Y bn))))) (Bury.pl Y (Bury.pl Y (Bury.pl Y (Bury.os Y Y (Bury.pl Y Bury.nil) (by decide))))) Y (by decide) (Ze Y)) (VRunO.nil (vinB.n (tn (VRun.region (mO (tN i) Y (fO (Qy (tv (tN i) Y) (VEv.int .i64 1) (by first | exact Nat.le_trans (QaC hx1) ha | omega)) (aO (tN (i+1)) Y (VRunO.nil (tn ?_))))))))))
  have he2:((a.take i++List.replicate (a.length - i) (D.Correction.mk 0 0 (D.Clue.mk 0 []) 0)).set i x1)=(a.take (i+1)++List.replicate (a.length - (i+1)) (D.Correction.mk 0 0 (D.Clue.mk 0 []) 0)):=by first | rfl | (exact JZ hx1) | (simp;done) | omega
  refine ⟨(i+1:Nat),?_,?_,Wk.mk (fun k=>k) ?_ ?_ ?_⟩
  ·first | trivial | omega | (simp;done) | exact ⟨by omega,hI'.2⟩
  ·first | omega | (simp only [];omega) | (show _<_;omega) | (simp;omega)
  ·exact (b2 (b2 (bc ⟨(congrArg (fun n_=>T.os 5 0 0 n_) (show ((a.take i++List.replicate (a.length - i) (D.Correction.mk 0 0 (D.Clue.mk 0 []) 0)).map (Qa true)).length=((a.take (i+1)++List.replicate (a.length - (i+1)) (D.Correction.mk 0 0 (D.Clue.mk 0 []) 0)).map (Qa true)).length from (by first | rfl | (simp only [List.length_map];omega) | (simp only [List.length_map,List.length_set,List.length_append,List.length_take,List.length_replicate,List.length_cons,List.length_nil];omega)))),rfl⟩ (b2 bn))))
  ·exact (bc ⟨(congrArg (fun l_=>some (Obj.rows 5 (List.map (Qa true) l_))) he2),(lb Y),rfl⟩ bn)
  ·exact nd Y
 refine VRun.exit (vthn.e (vthn.e (vinB.e (tn (sr (mO (T.os 5 0 0 (((a.take i++List.replicate (a.length - i) (D.Correction.mk 0 0 (D.Clue.mk 0 []) 0)).map (Qa true)).length)) Y (aO (T.os 5 0 0 (((a.take i++List.replicate (a.length - i) (D.Correction.mk 0 0 (D.Clue.mk 0 []) 0)).map (Qa true)).length)) Y (nt (rt ?_)))))))))
 refine vfin.eq (r':=(T.sl true 5 ((a.take i++List.replicate (a.length - i) (D.Correction.mk 0 0 (D.Clue.mk 0 []) 0)).map (Qa true)))) ?_ (vfin.r (VRes.tmp (t:=(T.os 5 0 0 (((a.take i++List.replicate (a.length - i) (D.Correction.mk 0 0 (D.Clue.mk 0 []) 0)).map (Qa true)).length))) Y VRes.nil) (Give.os Y Y (okeCorrection.cleanMap _)))
 refine congrArg (fun l_=>T.sl true 5 (List.map (Qa true) l_)) ?_
 exact Qcl fhc0
theorem QgG (n:Nat) (a:List Int) (b:List Int) (hla:a.length≤mx) (hlb:b.length≤mx):Pure (Qs Tryz.prog (n+1)) 16 [(rd 1 Qb a),(rd 1 Qb b)] (tB (decide (a=b))):=by
 refine Pure.intro (rs:= [ResultVar.tmp 4]) Tryz.func16 Y Y Y (E0:= [(0,(rd 1 Qb a)),(1,(rd 1 Qb b))]) Y ?_
 obtain ⟨hlim,hmx,hmax⟩:=QG
 refine sr (fO (OF.assign (VEv.bool false)) (nt (sq (sr (mO (rd 1 Qb a) Y (lO (B.lenR (m:=a.length) (tv (rd 1 Qb a) Y) Zr (List.length_map ..)) (mO (rd 1 Qb b) Y (lO (B.lenR (m:=b.length) (tv (rd 1 Qb b) Y) Zr (List.length_map ..)) (fO (Qir (tv (tN a.length) Y) (tv (tN b.length) Y)) (nt ?_))))))))))
 refine cn (a.length=b.length) Y (fun fhc0=> ?_) fun fhc0=> ?_
 ·refine sr ?_
  refine fO (OF.assign (VEv.bool false)) (nt (rt (tr (vb (b':=false) Y ?_))))
  symm;rw [decide_eq_false_iff_not];rintro rfl;exact fhc0 Y
 refine sk (tn (sq (sr (fO (OF.assign (VEv.int .i64 0)) (nt (VRun.block ?_))))))
 refine VRun.loop (A:=Nat) (fun s_=> [(0,(rd 1 Qb a)),(1,(rd 1 Qb b)),(5,(tN s_))]) (fun s_=>QY []) 0 (fun s_=>s_≤a.length∧∀j,j<s_→a[j]? =b[j]?) (fun s_=>a.length - s_) (0:Nat) ?_ (Wk.mk (fun k=>k) ?_ ?_ ?_) ?_
 ·(simp;done)
 ·exact (b2 (b2 (b2 bn)))
 ·exact bn
 ·exact nd Y
 rintro i (hI':i≤a.length∧∀j,j<i→a[j]? =b[j]?)
 show VRun _ _ _ [(0,(rd 1 Qb a)),(1,(rd 1 Qb b)),(5,(tN i))] (QY []) 0 _
 refine sq (sr (mO (tN i) Y (mO (rd 1 Qb a) Y (lO (B.lenR (m:=a.length) (tv (rd 1 Qb a) Y) Zr (List.length_map ..)) (fO (Zb (tv (tN i) Y) (tv (tN a.length) Y)) (nt ?_))))))
 refine cd (i<a.length) Y (fun fhc1=> ?_) fun fhc1=> ?_
 ·refine sk ?_
  refine tn (sq (VRun.block (sq (VRun.draw (B:= [[],[],[1,0],[0,1,2],[],[],[5,4],[4,5,6],[6,5,4,7,2,1,0,3]]) (by kernel_rfl) (by kernel_rfl) (mD (rd 1 Qb a) Y Y (mD (tN i) Y Y ?_))))))
  obtain ⟨x1,hx1⟩:∃x,a[i]? =some x:=⟨_,List.getElem?_eq_getElem (by omega)⟩
  refine fD (OF.indexAddrR (row:=(Qb false x1)) (i:=i) (tv (rd 1 Qb a) Y) (tv (tN i) Y) Y (Qt _ hx1) Zr Zd Yo) Y Y (lD (OL.loadR1 (t:=(tI x1)) (tv (T.rp [(tI x1)]) Y) Y QQ) Y Y (mD (rd 1 Qb b) Y Y (mD (tN i) Y Y ?_)))
  obtain ⟨x2,hx2⟩:∃x,b[i]? =some x:=⟨_,List.getElem?_eq_getElem (by omega)⟩
  refine fD (OF.indexAddrR (row:=(Qb false x2)) (i:=i) (tv (rd 1 Qb b) Y) (tv (tN i) Y) Y (Qt _ hx2) Zr Zd Yo) Y Y (lD (OL.loadR1 (t:=(tI x2)) (tv (T.rp [(tI x2)]) Y) Y QQ) Y Y (fD (xne (tv (tI x1) Y) (tv (tI x2) Y)) Y Y (VRunD.nil (tn ?_))))
  refine cn (x1=x2) Y (fun fhc2=> ?_) fun fhc2=> ?_
  ·refine sr ?_
   refine fO (OF.assign (VEv.bool false)) (nt (rt (vinB.r (tr (tr (vinB.r (tr (vb (b':=false) Y ?_))))))))
   symm;rw [decide_eq_false_iff_not];exact Qcf hx1 hx2 fhc2
  refine sk (vinB.n (tn (VRun.region (mO (tN i) Y (fO (Qy (tv (tN i) Y) (VEv.int .i64 1) (by omega)) (aO (tN (i+1)) Y (VRunO.nil (tn ?_))))))))
  refine ⟨(i+1:Nat),?_,?_,Wk.mk (fun k=>k) ?_ ?_ ?_⟩
  ·exact Qbh hI' hx1 hx2 fhc2
  ·omega
  ·exact (b2 (b2 (b2 bn)))
  ·exact bn
  ·exact nd Y
 refine VRun.exit (vthn.e (vthn.e (vinB.e (tn (sr (fO (OF.assign (VEv.bool true)) (nt (rt (vb (b':=true) Y ?_)))))))))
 symm;rw [decide_eq_true_eq];exact Qb9 hI' fhc0 fhc1
theorem Qgw (n:Nat) (a:D.Grid) (b:D.Grid):Pure (Qs Tryz.prog (n+1)) 68 [(T.agg (Qe false a)),(T.agg (Qe false b))] (tB (decide (a=b))):=by
 refine Pure.intro (rs:= [ResultVar.tmp 4]) Tryz.func68 Y Y Y (E0:= [(0,(T.agg (Qe false a))),(1,(T.agg (Qe false b)))]) Y ?_
 obtain ⟨hlim,hmx,hmax⟩:=QG
 refine sr (kO (B.box (ts:=(Qe false a)) (tv (T.agg (Qe false a)) Y) nofun Y) (kO (B.box (ts:=(Qe false b)) (tv (T.agg (Qe false b)) Y) nofun Y) (fO (OF.assign (VEv.bool false)) (nt (sq (sr (lf (tI a.Rows) Y QaK Y Y QQ (lf (tI b.Rows) Y QaK Y Y QQ (fO (xne (tv (tI a.Rows) Y) (tv (tI b.Rows) Y)) (nt ?_))))))))))
 refine cn (a.Rows=b.Rows) Y (fun fhc0=> ?_) fun fhc0=> ?_
 ·refine sr ?_
  refine fO (OF.assign (VEv.bool false)) (nt (rt (tr (vb (b':=false) Y ?_))))
  obtain ⟨a0,a1,a2⟩:=a
  obtain ⟨b0,b1,b2⟩:=b
  simp_all
 refine sk (tn (sq (sr (lf (tI a.Cols) Y Zx Y Y QQ (lf (tI b.Cols) Y Zx Y Y QQ (fO (xne (tv (tI a.Cols) Y) (tv (tI b.Cols) Y)) (nt ?_)))))))
 refine cn (a.Cols=b.Cols) Y (fun fhc1=> ?_) fun fhc1=> ?_
 ·refine sr ?_
  refine fO (OF.assign (VEv.bool false)) (nt (rt (tr (vb (b':=false) Y ?_))))
  obtain ⟨a0,a1,a2⟩:=a
  obtain ⟨b0,b1,b2⟩:=b
  simp_all
 refine sk (tn (sq (sr (lf (tS a.Cells) Y QN Y Y Yp (lf (tS b.Cells) Y QN Y Y Yp (fO (B.sneq (c:=(!(decide (a.Cells=b.Cells)))) (tv (tS a.Cells) Y) (tv (tS b.Cells) Y) Y) (nt ?_)))))))
 refine cn (a.Cells=b.Cells) Y (fun fhc2=> ?_) fun fhc2=> ?_
 ·refine sr ?_
  refine fO (OF.assign (VEv.bool false)) (nt (rt (tr (vb (b':=false) Y ?_))))
  obtain ⟨a0,a1,a2⟩:=a
  obtain ⟨b0,b1,b2⟩:=b
  simp_all
 refine sk (tn (sr (fO (OF.assign (VEv.bool true)) (nt (rt (vb (b':=true) Y ?_))))))
 obtain ⟨a0,a1,a2⟩:=a
 obtain ⟨b0,b1,b2⟩:=b
 simp_all
theorem QgF (n:Nat) (a:D.Step) (b:D.Step):Pure (Qs Tryz.prog (n+1)) 155 [(T.agg (Qg false a)),(T.agg (Qg false b))] (tB (decide (a=b))):=by
 refine Pure.intro (rs:= [ResultVar.tmp 4]) Tryz.func155 Y Y Y (E0:= [(0,(T.agg (Qg false a))),(1,(T.agg (Qg false b)))]) Y ?_
 obtain ⟨hlim,hmx,hmax⟩:=QG
 refine sr (kO (B.box (ts:=(Qg false a)) (tv (T.agg (Qg false a)) Y) nofun Y) (kO (B.box (ts:=(Qg false b)) (tv (T.agg (Qg false b)) Y) nofun Y) (fO (OF.assign (VEv.bool false)) (nt (sq (sr (lf (tI a.Kind) Y Zj Y Y QQ (lf (tI b.Kind) Y Zj Y Y QQ (fO (xne (tv (tI a.Kind) Y) (tv (tI b.Kind) Y)) (nt ?_))))))))))
 refine cn (a.Kind=b.Kind) Y (fun fhc0=> ?_) fun fhc0=> ?_
 ·refine sr ?_
  refine fO (OF.assign (VEv.bool false)) (nt (rt (tr (vb (b':=false) Y ?_))))
  obtain ⟨a0,a1,a2,a3⟩:=a
  obtain ⟨b0,b1,b2,b3⟩:=b
  simp_all
 refine sk (tn (sq (sr (lf (tS a.Word) Y JR Y Y Yp (lf (tS b.Word) Y JR Y Y Yp (fO (B.sneq (c:=(!(decide (a.Word=b.Word)))) (tv (tS a.Word) Y) (tv (tS b.Word) Y) Y) (nt ?_)))))))
 refine cn (a.Word=b.Word) Y (fun fhc1=> ?_) fun fhc1=> ?_
 ·refine sr ?_
  refine fO (OF.assign (VEv.bool false)) (nt (rt (tr (vb (b':=false) Y ?_))))
  obtain ⟨a0,a1,a2,a3⟩:=a
  obtain ⟨b0,b1,b2,b3⟩:=b
  simp_all
 refine sk (tn (sq (sr (lf (tI a.A) Y YI Y Y QQ (lf (tI b.A) Y YI Y Y QQ (fO (xne (tv (tI a.A) Y) (tv (tI b.A) Y)) (nt ?_)))))))
 refine cn (a.A=b.A) Y (fun fhc2=> ?_) fun fhc2=> ?_
 ·refine sr ?_
  refine fO (OF.assign (VEv.bool false)) (nt (rt (tr (vb (b':=false) Y ?_))))
  obtain ⟨a0,a1,a2,a3⟩:=a
  obtain ⟨b0,b1,b2,b3⟩:=b
  simp_all
 refine sk (tn (sq (sr (lf (tI a.B) Y Yj Y Y QQ (lf (tI b.B) Y Yj Y Y QQ (fO (xne (tv (tI a.B) Y) (tv (tI b.B) Y)) (nt ?_)))))))
 refine cn (a.B=b.B) Y (fun fhc3=> ?_) fun fhc3=> ?_
 ·refine sr ?_
  refine fO (OF.assign (VEv.bool false)) (nt (rt (tr (vb (b':=false) Y ?_))))
  obtain ⟨a0,a1,a2,a3⟩:=a
  obtain ⟨b0,b1,b2,b3⟩:=b
  simp_all
 refine sk (tn (sr (fO (OF.assign (VEv.bool true)) (nt (rt (vb (b':=true) Y ?_))))))
 obtain ⟨a0,a1,a2,a3⟩:=a
 obtain ⟨b0,b1,b2,b3⟩:=b
 simp_all
theorem Qf7 (n:Nat) (a:List D.Step) (b:List D.Step) (hla:a.length≤mx) (hlb:b.length≤mx):Pure (Qs Tryz.prog (n+2)) 130 [(rd 4 Qg a),(rd 4 Qg b)] (tB (decide (a=b))):=by
 refine Pure.intro (rs:= [ResultVar.tmp 4]) Tryz.func130 Y Y Y (E0:= [(0,(rd 4 Qg a)),(1,(rd 4 Qg b))]) Y ?_
 obtain ⟨hlim,hmx,hmax⟩:=QG
 refine sr (fO (OF.assign (VEv.bool false)) (nt (sq (sr (mO (rd 4 Qg a) Y (lO (B.lenR (m:=a.length) (tv (rd 4 Qg a) Y) U81 (List.length_map ..)) (mO (rd 4 Qg b) Y (lO (B.lenR (m:=b.length) (tv (rd 4 Qg b) Y) U81 (List.length_map ..)) (fO (Qir (tv (tN a.length) Y) (tv (tN b.length) Y)) (nt ?_))))))))))
 refine cn (a.length=b.length) Y (fun fhc0=> ?_) fun fhc0=> ?_
 ·refine sr ?_
  refine fO (OF.assign (VEv.bool false)) (nt (rt (tr (vb (b':=false) Y ?_))))
  symm;rw [decide_eq_false_iff_not];rintro rfl;exact fhc0 Y
 refine sk (tn (sq (sr (fO (OF.assign (VEv.int .i64 0)) (nt (VRun.block ?_))))))
 refine VRun.loop (A:=Nat) (fun s_=> [(0,(rd 4 Qg a)),(1,(rd 4 Qg b)),(5,(tN s_))]) (fun s_=>QY []) 0 (fun s_=>s_≤a.length∧∀j,j<s_→a[j]? =b[j]?) (fun s_=>a.length - s_) (0:Nat) ?_ (Wk.mk (fun k=>k) ?_ ?_ ?_) ?_
 ·(simp;done)
 ·exact (b2 (b2 (b2 bn)))
 ·exact bn
 ·exact nd Y
 rintro i (hI':i≤a.length∧∀j,j<i→a[j]? =b[j]?)
 show VRun _ _ _ [(0,(rd 4 Qg a)),(1,(rd 4 Qg b)),(5,(tN i))] (QY []) 0 _
 refine sq (sr (mO (tN i) Y (mO (rd 4 Qg a) Y (lO (B.lenR (m:=a.length) (tv (rd 4 Qg a) Y) U81 (List.length_map ..)) (fO (Zb (tv (tN i) Y) (tv (tN a.length) Y)) (nt ?_))))))
 refine cd (i<a.length) Y (fun fhc1=> ?_) fun fhc1=> ?_
 ·refine sk ?_
  refine tn (sq (VRun.block (sq (VRun.draw (B:= [[],[],[1,0],[0,1,2],[],[],[5,4],[4,5,6],[6,5,4,7,2,1,0,3],[3,0,1,2,7,4,5,6,8]]) (by kernel_rfl) (by kernel_rfl) (mD (rd 4 Qg a) Y Y (mD (tN i) Y Y ?_))))))
  obtain ⟨x1,hx1⟩:∃x,a[i]? =some x:=⟨_,List.getElem?_eq_getElem (by omega)⟩
  refine fD (OF.indexAddrR (row:=(Qg false x1)) (i:=i) (tv (rd 4 Qg a) Y) (tv (tN i) Y) Y (Qt _ hx1) U81 ZQ Je) Y Y (lD (OL.loadRn (us:=(Qg false x1)) (tv (T.rp (Qg false x1)) Y) Qg7 ZQ (lb Y) Y) Y Y (mD (rd 4 Qg b) Y Y (mD (tN i) Y Y ?_)))
  obtain ⟨x2,hx2⟩:∃x,b[i]? =some x:=⟨_,List.getElem?_eq_getElem (by omega)⟩
  refine fD (OF.indexAddrR (row:=(Qg false x2)) (i:=i) (tv (rd 4 Qg b) Y) (tv (tN i) Y) Y (Qt _ hx2) U81 ZQ Je) Y Y (lD (OL.loadRn (us:=(Qg false x2)) (tv (T.rp (Qg false x2)) Y) Qg7 ZQ (lb Y) Y) Y Y (VRunD.quiet (bi:= [6,5,4,7,2,1,0,3]) Y VWant.always Y Y Y bn (cS (vc (tv (T.agg (Qg false x1)) Y) (vc (tv (T.agg (Qg false x2)) Y) vn)) (LendL.cons (lg okeStep) (LendL.cons (lg okeStep) ln)) (QgF (n+0) x1 x2) Y Y) (fD (Q1 (tv (tB (decide (x1=x2))) Y)) Y Y (VRunD.nil (tn ?_)))))
  refine cn (x1=x2) Y (fun fhc2=> ?_) fun fhc2=> ?_
  ·refine sr ?_
   refine fO (OF.assign (VEv.bool false)) (nt (rt (vinB.r (tr (tr (vinB.r (tr (vb (b':=false) Y ?_))))))))
   symm;rw [decide_eq_false_iff_not];exact Qcf hx1 hx2 fhc2
  refine sk (vinB.n (tn (VRun.region (mO (tN i) Y (fO (Qy (tv (tN i) Y) (VEv.int .i64 1) (by omega)) (aO (tN (i+1)) Y (VRunO.nil (tn ?_))))))))
  refine ⟨(i+1:Nat),?_,?_,Wk.mk (fun k=>k) ?_ ?_ ?_⟩
  ·exact Qbh hI' hx1 hx2 fhc2
  ·omega
  ·exact (b2 (b2 (b2 bn)))
  ·exact bn
  ·exact nd Y
 refine VRun.exit (vthn.e (vthn.e (vinB.e (tn (sr (fO (OF.assign (VEv.bool true)) (nt (rt (vb (b':=true) Y ?_)))))))))
 symm;rw [decide_eq_true_eq];exact Qb9 hI' fhc0 fhc1
theorem QcH (n:Nat) (a:D.Clue) (b:D.Clue) (ha:QH a≤mx) (hb:QH b≤mx):Pure (Qs Tryz.prog (n+3)) 101 [(T.agg (Qd false a)),(T.agg (Qd false b))] (tB (decide (a=b))):=by
 refine Pure.intro (rs:= [ResultVar.tmp 4]) Tryz.func101 Y Y Y (E0:= [(0,(T.agg (Qd false a))),(1,(T.agg (Qd false b)))]) Y ?_
 obtain ⟨hlim,hmx,hmax⟩:=QG
 simp only [QH] at ha hb
 have hla_Play:=QU (z:=ZB) a.Play
 have hlb_Play:=QU (z:=ZB) b.Play
 refine sr (kO (B.box (ts:=(Qd false a)) (tv (T.agg (Qd false a)) Y) nofun Y) (kO (B.box (ts:=(Qd false b)) (tv (T.agg (Qd false b)) Y) nofun Y) (fO (OF.assign (VEv.bool false)) (nt (sq (sr (lf (tI a.Sense) Y QaL Y Y QQ (lf (tI b.Sense) Y QaL Y Y QQ (fO (xne (tv (tI a.Sense) Y) (tv (tI b.Sense) Y)) (nt ?_))))))))))
 refine cn (a.Sense=b.Sense) Y (fun fhc0=> ?_) fun fhc0=> ?_
 ·refine sr ?_
  refine fO (OF.assign (VEv.bool false)) (nt (rt (tr (vb (b':=false) Y ?_))))
  obtain ⟨a0,a1⟩:=a
  obtain ⟨b0,b1⟩:=b
  simp_all
 refine sk (tn (sq (sr (lf (rd 4 Qg a.Play) Y QaG Y Y Qhl (lf (rd 4 Qg b.Play) Y QaG Y Y Qhl (cO (cS (vc (tv (rd 4 Qg a.Play) Y) (vc (tv (rd 4 Qg b.Play) Y) vn)) (ZO Y) (Qf7 (n+0) a.Play b.Play (by omega) (by omega)) Y Y) (fO (Q1 (tv (tB (decide (a.Play=b.Play))) Y)) (nt ?_))))))))
 refine cn (a.Play=b.Play) Y (fun fhc1=> ?_) fun fhc1=> ?_
 ·refine sr ?_
  refine fO (OF.assign (VEv.bool false)) (nt (rt (tr (vb (b':=false) Y ?_))))
  obtain ⟨a0,a1⟩:=a
  obtain ⟨b0,b1⟩:=b
  simp_all
 refine sk (tn (sr (fO (OF.assign (VEv.bool true)) (nt (rt (vb (b':=true) Y ?_))))))
 obtain ⟨a0,a1⟩:=a
 obtain ⟨b0,b1⟩:=b
 simp_all
theorem Qfd (n:Nat) (a:List D.Clue) (b:List D.Clue) (ha:zL QH a≤mx) (hb:zL QH b≤mx):Pure (Qs Tryz.prog (n+4)) 69 [(rd 2 Qd a),(rd 2 Qd b)] (tB (decide (a=b))):=by
 refine Pure.intro (rs:= [ResultVar.tmp 4]) Tryz.func69 Y Y Y (E0:= [(0,(rd 2 Qd a)),(1,(rd 2 Qd b))]) Y ?_
 obtain ⟨hlim,hmx,hmax⟩:=QG
 have hla:=QU (z:=QH) a
 have hlb:=QU (z:=QH) b
 refine sr (fO (OF.assign (VEv.bool false)) (nt (sq (sr (mO (rd 2 Qd a) Y (lO (B.lenR (m:=a.length) (tv (rd 2 Qd a) Y) U35 (List.length_map ..)) (mO (rd 2 Qd b) Y (lO (B.lenR (m:=b.length) (tv (rd 2 Qd b) Y) U35 (List.length_map ..)) (fO (Qir (tv (tN a.length) Y) (tv (tN b.length) Y)) (nt ?_))))))))))
 refine cn (a.length=b.length) Y (fun fhc0=> ?_) fun fhc0=> ?_
 ·refine sr ?_
  refine fO (OF.assign (VEv.bool false)) (nt (rt (tr (vb (b':=false) Y ?_))))
  symm;rw [decide_eq_false_iff_not];rintro rfl;exact fhc0 Y
 refine sk (tn (sq (sr (fO (OF.assign (VEv.int .i64 0)) (nt (VRun.block ?_))))))
 refine VRun.loop (A:=Nat) (fun s_=> [(0,(rd 2 Qd a)),(1,(rd 2 Qd b)),(5,(tN s_))]) (fun s_=>QY []) 0 (fun s_=>s_≤a.length∧∀j,j<s_→a[j]? =b[j]?) (fun s_=>a.length - s_) (0:Nat) ?_ (Wk.mk (fun k=>k) ?_ ?_ ?_) ?_
 ·(simp;done)
 ·exact (b2 (b2 (b2 bn)))
 ·exact bn
 ·exact nd Y
 rintro i (hI':i≤a.length∧∀j,j<i→a[j]? =b[j]?)
 show VRun _ _ _ [(0,(rd 2 Qd a)),(1,(rd 2 Qd b)),(5,(tN i))] (QY []) 0 _
 refine sq (sr (mO (tN i) Y (mO (rd 2 Qd a) Y (lO (B.lenR (m:=a.length) (tv (rd 2 Qd a) Y) U35 (List.length_map ..)) (fO (Zb (tv (tN i) Y) (tv (tN a.length) Y)) (nt ?_))))))
 refine cd (i<a.length) Y (fun fhc1=> ?_) fun fhc1=> ?_
 ·refine sk ?_
  refine tn (sq (VRun.block (sq (VRun.draw (B:= [[],[],[1,0],[0,1,2],[],[],[5,4],[4,5,6],[6,5,4,7,2,1,0,3],[3,0,1,2,7,4,5,6,8]]) (by kernel_rfl) (by kernel_rfl) (mD (rd 2 Qd a) Y Y (mD (tN i) Y Y ?_))))))
  obtain ⟨x1,hx1⟩:∃x,a[i]? =some x:=⟨_,List.getElem?_eq_getElem (by omega)⟩
  refine fD (OF.indexAddrR (row:=(Qd false x1)) (i:=i) (tv (rd 2 Qd a) Y) (tv (tN i) Y) Y (Qt _ hx1) U35 ZP Qak) Y Y (lD (OL.loadRn (us:=(Qd false x1)) (tv (T.rp (Qd false x1)) Y) Qby ZP (lb Y) Y) Y Y (mD (rd 2 Qd b) Y Y (mD (tN i) Y Y ?_)))
  obtain ⟨x2,hx2⟩:∃x,b[i]? =some x:=⟨_,List.getElem?_eq_getElem (by omega)⟩
  refine fD (OF.indexAddrR (row:=(Qd false x2)) (i:=i) (tv (rd 2 Qd b) Y) (tv (tN i) Y) Y (Qt _ hx2) U35 ZP Qak) Y Y (lD (OL.loadRn (us:=(Qd false x2)) (tv (T.rp (Qd false x2)) Y) Qby ZP (lb Y) Y) Y Y (VRunD.quiet (bi:= [6,5,4,7,2,1,0,3]) Y VWant.always Y Y Y bn (cS (vc (tv (T.agg (Qd false x1)) Y) (vc (tv (T.agg (Qd false x2)) Y) vn)) (LendL.cons (lg okeClue) (LendL.cons (lg okeClue) ln)) (QcH (n+0) x1 x2 (by exact Nat.le_trans (QaC hx1) ha) (by exact Nat.le_trans (QaC hx2) hb)) Y Y) (fD (Q1 (tv (tB (decide (x1=x2))) Y)) Y Y (VRunD.nil (tn ?_)))))
  refine cn (x1=x2) Y (fun fhc2=> ?_) fun fhc2=> ?_
  ·refine sr ?_
   refine fO (OF.assign (VEv.bool false)) (nt (rt (vinB.r (tr (tr (vinB.r (tr (vb (b':=false) Y ?_))))))))
   symm;rw [decide_eq_false_iff_not];exact Qcf hx1 hx2 fhc2
  refine sk (vinB.n (tn (VRun.region (mO (tN i) Y (fO (Qy (tv (tN i) Y) (VEv.int .i64 1) (by omega)) (aO (tN (i+1)) Y (VRunO.nil (tn ?_))))))))
  refine ⟨(i+1:Nat),?_,?_,Wk.mk (fun k=>k) ?_ ?_ ?_⟩
  ·exact Qbh hI' hx1 hx2 fhc2
  ·omega
  ·exact (b2 (b2 (b2 bn)))
  ·exact bn
  ·exact nd Y
 refine VRun.exit (vthn.e (vthn.e (vinB.e (tn (sr (fO (OF.assign (VEv.bool true)) (nt (rt (vb (b':=true) Y ?_)))))))))
 symm;rw [decide_eq_true_eq];exact Qb9 hI' fhc0 fhc1
theorem YX (n:Nat) (a:D.Puzzle) (b:D.Puzzle) (ha:QK a≤mx) (hb:QK b≤mx):Pure (Qs Tryz.prog (n+5)) 29 [(T.agg (Qv false a)),(T.agg (Qv false b))] (tB (decide (a=b))):=by
 refine Pure.intro (rs:= [ResultVar.tmp 4]) Tryz.func29 Y Y Y (E0:= [(0,(T.agg (Qv false a))),(1,(T.agg (Qv false b)))]) Y ?_
 obtain ⟨hlim,hmx,hmax⟩:=QG
 simp only [QK] at ha hb
 have hla_Clues:=QU (z:=QH) a.Clues
 have hla_Seals:=QU (z:=zI) a.Seals
 have hlb_Clues:=QU (z:=QH) b.Clues
 have hlb_Seals:=QU (z:=zI) b.Seals
 refine sr (kO (B.box (ts:=(Qv false a)) (tv (T.agg (Qv false a)) Y) nofun Y) (kO (B.box (ts:=(Qv false b)) (tv (T.agg (Qv false b)) Y) nofun Y) (fO (OF.assign (VEv.bool false)) (nt (sq (sr (fO (OF.fieldAddrO (tv (T.op 0 0) Y) Ju) (lO (OL.loadOn (us:=(Qe false a.Grid)) (tv (T.op 0 0) Y) Y Q4 QX (lb Y) Y) (fO (OF.fieldAddrO (tv (T.op 1 0) Y) Ju) (lO (OL.loadOn (us:=(Qe false b.Grid)) (tv (T.op 1 0) Y) Y Q4 QX (lb Y) Y) (cO (cS (vc (tv (T.agg (Qe false a.Grid)) Y) (vc (tv (T.agg (Qe false b.Grid)) Y) vn)) (LendL.cons (lg Qw) (LendL.cons (lg Qw) ln)) (Qgw (n+3) a.Grid b.Grid) Y Y) ?_)))))))))))
 refine fO (Q1 (tv (tB (decide (a.Grid=b.Grid))) Y)) (nt ?_)
 refine cn (a.Grid=b.Grid) Y (fun fhc0=> ?_) fun fhc0=> ?_
 ·refine sr ?_
  refine fO (OF.assign (VEv.bool false)) (nt (rt (tr (vb (b':=false) Y ?_))))
  obtain ⟨a0,a1,a2,a3⟩:=a
  obtain ⟨b0,b1,b2,b3⟩:=b
  simp_all
 refine sk (tn (sq (sr (lf (rd 2 Qd a.Clues) Y Yu Y Y QbE (lf (rd 2 Qd b.Clues) Y Yu Y Y QbE (cO (cS (vc (tv (rd 2 Qd a.Clues) Y) (vc (tv (rd 2 Qd b.Clues) Y) vn)) (ZO Y) (Qfd (n+0) a.Clues b.Clues (by first | assumption | omega) (by first | assumption | omega)) Y Y) (fO (Q1 (tv (tB (decide (a.Clues=b.Clues))) Y)) (nt ?_))))))))
 refine cn (a.Clues=b.Clues) Y (fun fhc1=> ?_) fun fhc1=> ?_
 ·refine sr ?_
  refine fO (OF.assign (VEv.bool false)) (nt (rt (tr (vb (b':=false) Y ?_))))
  obtain ⟨a0,a1,a2,a3⟩:=a
  obtain ⟨b0,b1,b2,b3⟩:=b
  simp_all
 refine sk (tn (sq (sr (lf (rd 1 Qb a.Seals) Y JH Y Y QbP (lf (rd 1 Qb b.Seals) Y JH Y Y QbP (cO (cS (vc (tv (rd 1 Qb a.Seals) Y) (vc (tv (rd 1 Qb b.Seals) Y) vn)) (ZO Y) (QgG (n+3) a.Seals b.Seals (by first | assumption | omega) (by first | assumption | omega)) Y Y) (fO (Q1 (tv (tB (decide (a.Seals=b.Seals))) Y)) (nt ?_))))))))
 refine cn (a.Seals=b.Seals) Y (fun fhc2=> ?_) fun fhc2=> ?_
 ·refine sr ?_
  refine fO (OF.assign (VEv.bool false)) (nt (rt (tr (vb (b':=false) Y ?_))))
  obtain ⟨a0,a1,a2,a3⟩:=a
  obtain ⟨b0,b1,b2,b3⟩:=b
  simp_all
 refine sk (tn (sq (sr (lf (tI a.Salt) Y Qbm Y Y QQ (lf (tI b.Salt) Y Qbm Y Y QQ (fO (xne (tv (tI a.Salt) Y) (tv (tI b.Salt) Y)) (nt ?_)))))))
 refine cn (a.Salt=b.Salt) Y (fun fhc3=> ?_) fun fhc3=> ?_
 ·refine sr ?_
  refine fO (OF.assign (VEv.bool false)) (nt (rt (tr (vb (b':=false) Y ?_))))
  obtain ⟨a0,a1,a2,a3⟩:=a
  obtain ⟨b0,b1,b2,b3⟩:=b
  simp_all
 refine sk (tn (sr (fO (OF.assign (VEv.bool true)) (nt (rt (vb (b':=true) Y ?_))))))
 obtain ⟨a0,a1,a2,a3⟩:=a
 obtain ⟨b0,b1,b2,b3⟩:=b
 simp_all
theorem QfD (n:Nat) (a:D.Issue) (b:D.Issue) (ha:Q5 a≤mx) (hb:Q5 b≤mx):Pure (Qs Tryz.prog (n+6)) 17 [(T.agg (Qz false a)),(T.agg (Qz false b))] (tB (decide (a=b))):=by
 refine Pure.intro (rs:= [ResultVar.tmp 4]) Tryz.func17 Y Y Y (E0:= [(0,(T.agg (Qz false a))),(1,(T.agg (Qz false b)))]) Y ?_
 obtain ⟨hlim,hmx,hmax⟩:=QG
 simp only [Q5] at ha hb
 refine sr (kO (B.box (ts:=(Qz false a)) (tv (T.agg (Qz false a)) Y) nofun Y) (kO (B.box (ts:=(Qz false b)) (tv (T.agg (Qz false b)) Y) nofun Y) (fO (OF.assign (VEv.bool false)) (nt (sq (sr (lf (tI a.Number) Y QbF Y Y QQ (lf (tI b.Number) Y QbF Y Y QQ (fO (xne (tv (tI a.Number) Y) (tv (tI b.Number) Y)) (nt ?_))))))))))
 refine cn (a.Number=b.Number) Y (fun fhc0=> ?_) fun fhc0=> ?_
 ·refine sr ?_
  refine fO (OF.assign (VEv.bool false)) (nt (rt (tr (vb (b':=false) Y ?_))))
  obtain ⟨a0,a1,a2,a3,a4⟩:=a
  obtain ⟨b0,b1,b2,b3,b4⟩:=b
  simp_all
 refine sk (tn (sq (sr (fO (OF.fieldAddrO (tv (T.op 0 0) Y) QaV) (lO (OL.loadOn (us:=(Qv false a.Puzzle)) (tv (T.op 0 1) Y) Y Jn Yc (lb Y) Y) (fO (OF.fieldAddrO (tv (T.op 1 0) Y) QaV) (lO (OL.loadOn (us:=(Qv false b.Puzzle)) (tv (T.op 1 1) Y) Y Jn Yc (lb Y) Y) (cO (cS (vc (tv (T.agg (Qv false a.Puzzle)) Y) (vc (tv (T.agg (Qv false b.Puzzle)) Y) vn)) (LendL.cons (lg Yt) (LendL.cons (lg Yt) ln)) (YX (n+0) a.Puzzle b.Puzzle (by first | assumption | omega) (by first | assumption | omega)) Y Y) (fO (Q1 (tv (tB (decide (a.Puzzle=b.Puzzle))) Y)) (nt ?_))))))))))
 refine cn (a.Puzzle=b.Puzzle) Y (fun fhc1=> ?_) fun fhc1=> ?_
 ·refine sr ?_
  refine fO (OF.assign (VEv.bool false)) (nt (rt (tr (vb (b':=false) Y ?_))))
  obtain ⟨a0,a1,a2,a3,a4⟩:=a
  obtain ⟨b0,b1,b2,b3,b4⟩:=b
  simp_all
 refine sk (tn (sq (sr (lf (tS a.Fill) Y Qfy Y Y Yp (lf (tS b.Fill) Y Qfy Y Y Yp (fO (B.sneq (c:=(!(decide (a.Fill=b.Fill)))) (tv (tS a.Fill) Y) (tv (tS b.Fill) Y) Y) (nt ?_)))))))
 refine cn (a.Fill=b.Fill) Y (fun fhc2=> ?_) fun fhc2=> ?_
 ·refine sr ?_
  refine fO (OF.assign (VEv.bool false)) (nt (rt (tr (vb (b':=false) Y ?_))))
  obtain ⟨a0,a1,a2,a3,a4⟩:=a
  obtain ⟨b0,b1,b2,b3,b4⟩:=b
  simp_all
 refine sk (tn (sq (sr (lf (tI a.Open) Y Qc3 Y Y QQ (lf (tI b.Open) Y Qc3 Y Y QQ (fO (xne (tv (tI a.Open) Y) (tv (tI b.Open) Y)) (nt ?_)))))))
 refine cn (a.Open=b.Open) Y (fun fhc3=> ?_) fun fhc3=> ?_
 ·refine sr ?_
  refine fO (OF.assign (VEv.bool false)) (nt (rt (tr (vb (b':=false) Y ?_))))
  obtain ⟨a0,a1,a2,a3,a4⟩:=a
  obtain ⟨b0,b1,b2,b3,b4⟩:=b
  simp_all
 refine sk (tn (sq (sr (lf (tI a.Close) Y QcM Y Y QQ (lf (tI b.Close) Y QcM Y Y QQ (fO (xne (tv (tI a.Close) Y) (tv (tI b.Close) Y)) (nt ?_)))))))
 refine cn (a.Close=b.Close) Y (fun fhc4=> ?_) fun fhc4=> ?_
 ·refine sr ?_
  refine fO (OF.assign (VEv.bool false)) (nt (rt (tr (vb (b':=false) Y ?_))))
  obtain ⟨a0,a1,a2,a3,a4⟩:=a
  obtain ⟨b0,b1,b2,b3,b4⟩:=b
  simp_all
 refine sk (tn (sr (fO (OF.assign (VEv.bool true)) (nt (rt (vb (b':=true) Y ?_))))))
 obtain ⟨a0,a1,a2,a3,a4⟩:=a
 obtain ⟨b0,b1,b2,b3,b4⟩:=b
 simp_all
theorem Qco (n:Nat) (a:D.Correction) (b:D.Correction) (ha:Qn a≤mx) (hb:Qn b≤mx):Pure (Qs Tryz.prog (n+4)) 51 [(T.agg (Qa false a)),(T.agg (Qa false b))] (tB (decide (a=b))):=by
 refine Pure.intro (rs:= [ResultVar.tmp 4]) Tryz.func51 Y Y Y (E0:= [(0,(T.agg (Qa false a))),(1,(T.agg (Qa false b)))]) Y ?_
 obtain ⟨hlim,hmx,hmax⟩:=QG
 simp only [Qn] at ha hb
 refine sr (kO (B.box (ts:=(Qa false a)) (tv (T.agg (Qa false a)) Y) nofun Y) (kO (B.box (ts:=(Qa false b)) (tv (T.agg (Qa false b)) Y) nofun Y) (fO (OF.assign (VEv.bool false)) (nt (sq (sr (lf (tI a.Issue) Y Qbg Y Y QQ (lf (tI b.Issue) Y Qbg Y Y QQ (fO (xne (tv (tI a.Issue) Y) (tv (tI b.Issue) Y)) (nt ?_))))))))))
 refine cn (a.Issue=b.Issue) Y (fun fhc0=> ?_) fun fhc0=> ?_
 ·refine sr ?_
  refine fO (OF.assign (VEv.bool false)) (nt (rt (tr (vb (b':=false) Y ?_))))
  obtain ⟨a0,a1,a2,a3⟩:=a
  obtain ⟨b0,b1,b2,b3⟩:=b
  simp_all
 refine sk (tn (sq (sr (lf (tI a.Slot) Y J6 Y Y QQ (lf (tI b.Slot) Y J6 Y Y QQ (fO (xne (tv (tI a.Slot) Y) (tv (tI b.Slot) Y)) (nt ?_)))))))
 refine cn (a.Slot=b.Slot) Y (fun fhc1=> ?_) fun fhc1=> ?_
 ·refine sr ?_
  refine fO (OF.assign (VEv.bool false)) (nt (rt (tr (vb (b':=false) Y ?_))))
  obtain ⟨a0,a1,a2,a3⟩:=a
  obtain ⟨b0,b1,b2,b3⟩:=b
  simp_all
 refine sk (tn (sq (sr (fO (OF.fieldAddrO (tv (T.op 0 0) Y) Qbp) (lO (OL.loadOn (us:=(Qd false a.Clue)) (tv (T.op 0 2) Y) Y Qby ZP (lb Y) Y) (fO (OF.fieldAddrO (tv (T.op 1 0) Y) Qbp) (lO (OL.loadOn (us:=(Qd false b.Clue)) (tv (T.op 1 2) Y) Y Qby ZP (lb Y) Y) (cO (cS (vc (tv (T.agg (Qd false a.Clue)) Y) (vc (tv (T.agg (Qd false b.Clue)) Y) vn)) (LendL.cons (lg okeClue) (LendL.cons (lg okeClue) ln)) (QcH (n+0) a.Clue b.Clue (by first | assumption | omega) (by first | assumption | omega)) Y Y) (fO (Q1 (tv (tB (decide (a.Clue=b.Clue))) Y)) (nt ?_))))))))))
 refine cn (a.Clue=b.Clue) Y (fun fhc2=> ?_) fun fhc2=> ?_
 ·refine sr ?_
  refine fO (OF.assign (VEv.bool false)) (nt (rt (tr (vb (b':=false) Y ?_))))
  obtain ⟨a0,a1,a2,a3⟩:=a
  obtain ⟨b0,b1,b2,b3⟩:=b
  simp_all
 refine sk (tn (sq (sr (lf (tI a.Tick) Y Jz Y Y QQ (lf (tI b.Tick) Y Jz Y Y QQ (fO (xne (tv (tI a.Tick) Y) (tv (tI b.Tick) Y)) (nt ?_)))))))
 refine cn (a.Tick=b.Tick) Y (fun fhc3=> ?_) fun fhc3=> ?_
 ·refine sr ?_
  refine fO (OF.assign (VEv.bool false)) (nt (rt (tr (vb (b':=false) Y ?_))))
  obtain ⟨a0,a1,a2,a3⟩:=a
  obtain ⟨b0,b1,b2,b3⟩:=b
  simp_all
 refine sk (tn (sr (fO (OF.assign (VEv.bool true)) (nt (rt (vb (b':=true) Y ?_))))))
 obtain ⟨a0,a1,a2,a3⟩:=a
 obtain ⟨b0,b1,b2,b3⟩:=b
 simp_all
theorem QbR (n:Nat) (a:List D.Correction) (b:List D.Correction) (ha:zL Qn a≤mx+1) (hb:zL Qn b≤mx+1):Pure (Qs Tryz.prog (n+5)) 18 [(rd 5 Qa a),(rd 5 Qa b)] (tB (decide (a=b))):=by
 refine Pure.intro (rs:= [ResultVar.tmp 4]) Tryz.func18 Y Y Y (E0:= [(0,(rd 5 Qa a)),(1,(rd 5 Qa b))]) Y ?_
 obtain ⟨hlim,hmx,hmax⟩:=QG
 have hla:=QU (z:=Qn) a
 have hlb:=QU (z:=Qn) b
 refine sr (fO (OF.assign (VEv.bool false)) (nt (sq (sr (mO (rd 5 Qa a) Y (lO (B.lenR (m:=a.length) (tv (rd 5 Qa a) Y) U41 (List.length_map ..)) (mO (rd 5 Qa b) Y (lO (B.lenR (m:=b.length) (tv (rd 5 Qa b) Y) U41 (List.length_map ..)) (fO (Qir (tv (tN a.length) Y) (tv (tN b.length) Y)) (nt ?_))))))))))
 refine cn (a.length=b.length) Y (fun fhc0=> ?_) fun fhc0=> ?_
 ·refine sr ?_
  refine fO (OF.assign (VEv.bool false)) (nt (rt (tr (vb (b':=false) Y ?_))))
  symm;rw [decide_eq_false_iff_not];rintro rfl;exact fhc0 Y
 refine sk (tn (sq (sr (fO (OF.assign (VEv.int .i64 0)) (nt (VRun.block ?_))))))
 refine VRun.loop (A:=Nat) (fun s_=> [(0,(rd 5 Qa a)),(1,(rd 5 Qa b)),(5,(tN s_))]) (fun s_=>QY []) 0 (fun s_=>s_≤a.length∧∀j,j<s_→a[j]? =b[j]?) (fun s_=>a.length - s_) (0:Nat) ?_ (Wk.mk (fun k=>k) ?_ ?_ ?_) ?_
 ·first | trivial | (simp;done) | omega | (constructor<;>simp)
 ·exact (b2 (b2 (b2 bn)))
 ·exact bn
 ·exact nd Y
 rintro i (hI':i≤a.length∧∀j,j<i→a[j]? =b[j]?)
 show VRun _ _ _ [(0,(rd 5 Qa a)),(1,(rd 5 Qa b)),(5,(tN i))] (QY []) 0 _
 refine sq (sr (mO (tN i) Y (mO (rd 5 Qa a) Y (lO (B.lenR (m:=a.length) (tv (rd 5 Qa a) Y) U41 (List.length_map ..)) (fO (Zb (tv (tN i) Y) (tv (tN a.length) Y)) (nt ?_))))))
 refine cd (i<a.length) Y (fun fhc1=> ?_) fun fhc1=> ?_
 ·refine sk ?_
  refine tn (sq (VRun.block (sq (VRun.draw (B:= [[],[],[1,0],[0,1,2],[],[],[5,4],[4,5,6],[6,5,4,7,2,1,0,3],[3,0,1,2,7,4,5,6,8]]) (by kernel_rfl) (by kernel_rfl) (mD (rd 5 Qa a) Y Y (mD (tN i) Y Y ?_))))))
  obtain ⟨x1,hx1⟩:∃x,a[i]? =some x:=⟨_,List.getElem?_eq_getElem (by first | (have h9:=YY (z:=Qn) hx1;have h8:=(List.getElem?_eq_some_iff.1 hx1).1;unfold zL at ha;omega) | (have h9:=YY (z:=Qn) hx2;have h8:=(List.getElem?_eq_some_iff.1 hx2).1;unfold zL at hb;omega) | omega)⟩
  refine fD (OF.indexAddrR (row:=(Qa false x1)) (i:=i) (tv (rd 5 Qa a) Y) (tv (tN i) Y) Y (Qt _ hx1) U41 Yv Jk) Y Y (lD (OL.loadRn (us:=(Qa false x1)) (tv (T.rp (Qa false x1)) Y) Qjw Yv (lb Y) Y) Y Y (mD (rd 5 Qa b) Y Y (mD (tN i) Y Y ?_)))
  obtain ⟨x2,hx2⟩:∃x,b[i]? =some x:=⟨_,List.getElem?_eq_getElem (by first | (have h9:=YY (z:=Qn) hx1;have h8:=(List.getElem?_eq_some_iff.1 hx1).1;unfold zL at ha;omega) | (have h9:=YY (z:=Qn) hx2;have h8:=(List.getElem?_eq_some_iff.1 hx2).1;unfold zL at hb;omega) | omega)⟩
  refine fD (OF.indexAddrR (row:=(Qa false x2)) (i:=i) (tv (rd 5 Qa b) Y) (tv (tN i) Y) Y (Qt _ hx2) U41 Yv Jk) Y Y (lD (OL.loadRn (us:=(Qa false x2)) (tv (T.rp (Qa false x2)) Y) Qjw Yv (lb Y) Y) Y Y (VRunD.quiet (bi:= [6,5,4,7,2,1,0,3]) Y VWant.always Y Y Y bn (cS (vc (tv (T.agg (Qa false x1)) Y) (vc (tv (T.agg (Qa false x2)) Y) vn)) (LendL.cons (lg okeCorrection) (LendL.cons (lg okeCorrection) ln)) (Qco (n+0) x1 x2 (by first | (have h9:=YY (z:=Qn) hx1;have h8:=(List.getElem?_eq_some_iff.1 hx1).1;unfold zL at ha;omega) | (have h9:=YY (z:=Qn) hx2;have h8:=(List.getElem?_eq_some_iff.1 hx2).1;unfold zL at hb;omega) | assumption | omega) (by first | (have h9:=YY (z:=Qn) hx1;have h8:=(List.getElem?_eq_some_iff.1 hx1).1;unfold zL at ha;omega) | (have h9:=YY (z:=Qn) hx2;have h8:=(List.getElem?_eq_some_iff.1 hx2).1;unfold zL at hb;omega) | assumption | omega)) Y Y) (fD (Q1 (tv (tB (decide (x1=x2))) Y)) Y Y (VRunD.nil (tn ?_)))))
  refine cn (x1=x2) Y (fun fhc2=> ?_) fun fhc2=> ?_
  ·refine sr ?_
   refine fO (OF.assign (VEv.bool false)) (nt (rt (vinB.r (tr (tr (vinB.r (tr (vb (b':=false) Y ?_))))))))
   symm;rw [decide_eq_false_iff_not];exact Qcf hx1 hx2 fhc2
  refine sk (vinB.n (tn (VRun.region (mO (tN i) Y (fO (Qy (tv (tN i) Y) (VEv.int .i64 1) (by first | (have h9:=YY (z:=Qn) hx1;have h8:=(List.getElem?_eq_some_iff.1 hx1).1;unfold zL at ha;omega) | (have h9:=YY (z:=Qn) hx2;have h8:=(List.getElem?_eq_some_iff.1 hx2).1;unfold zL at hb;omega) | omega)) (aO (tN (i+1)) Y (VRunO.nil (tn ?_))))))))
  refine ⟨(i+1:Nat),?_,?_,Wk.mk (fun k=>k) ?_ ?_ ?_⟩
  ·exact Qbh hI' hx1 hx2 fhc2
  ·first | omega | (simp only [];omega) | (show _<_;omega) | (simp;omega)
  ·exact (b2 (b2 (b2 bn)))
  ·exact bn
  ·exact nd Y
 refine VRun.exit (vthn.e (vthn.e (vinB.e (tn (sr (fO (OF.assign (VEv.bool true)) (nt (rt (vb (b':=true) Y ?_)))))))))
 symm;rw [decide_eq_true_eq];exact Qb9 hI' fhc0 fhc1
noncomputable section
theorem QZ {ok:Nat→Prop} {i n:Nat} (h:i≤n∧∀j,j<i→ok j) (hi:i<n) (hk:ok i):i+1≤n∧∀j,j<i+1→ok j:=by
 refine ⟨hi,fun j hj=> ?_⟩
 rcases Nat.lt_or_ge j i with h1 | h1
 ·exact h.2 j h1
 ·obtain rfl:j=i:=by omega
  exact hk
theorem ZY {ok:Nat→Prop} {i n:Nat} (h:i≤n∧∀j,j<i→ok j) (hi:¬i<n):∀j,j<n→ok j:=fun j hj=>h.2 j (by omega)
theorem Zh {α:Type} {l:List α} {i:Nat} {x y:α} (hx:l[i]? =some x) (hy:l[i]? =some y):y=x:=by
 rw [hx] at hy
 exact (Option.some.inj hy).symm
def Zw (s:ByteArray):Prop:=(1≤s.size∧s.size≤8)∧∀i,i<s.size→97≤QA s i∧QA s i≤122
instance (s:ByteArray):Decidable (Zw s):=Classical.propDecidable _
def ixF {α:Type} (p:α→Prop) [DecidablePred p]:List α→Int
 | []=> -1
 | x::r=>if p x then 0 else if ixF p r<0 then -1 else ixF p r+1
theorem Qek {α:Type} {p:α→Prop} [DecidablePred p]:∀ {l:List α} {i:Nat} {x:α},l[i]? =some x→p x→(∀j y,j<i→l[j]? =some y→¬p y)→ixF p l=i
 | [],i,x,h,_,_=>by simp at h
 | y::r,0,x,h,hp,_=>by
  obtain rfl:y=x:=by simpa using h
  simp only [ixF,if_pos hp]
  rfl
 | y::r,i+1,x,h,hp,hn=>by
  have h1:=Qek (l:=r) (i:=i) (by simpa using h) hp (fun j z hj hz=>hn (j+1) z (by omega) (by simpa using hz))
  have h2:¬p y:=hn 0 y (by omega) (by simp)
  simp only [ixF,if_neg h2,h1]
  rw [if_neg (by omega)]
  rfl
theorem Qfz {α:Type} {p:α→Prop} [DecidablePred p]:∀ {l:List α},(∀j y,j<l.length→l[j]? =some y→¬p y)→ixF p l= -1
 | [],_=>rfl
 | y::r,hn=>by
  have h1:=Qfz (l:=r) (fun j z hj hz=>hn (j+1) z (by simp;omega) (by simpa using hz))
  have h2:¬p y:=hn 0 y (by simp) (by simp)
  simp only [ixF,if_neg h2,h1]
  rfl
theorem QjE {α:Type} {p:α→Prop} [DecidablePred p]:∀ {l:List α},0≤ixF p l↔∃x∈l,p x
 | []=>by simp [ixF]
 | y::r=>by
  have h1:=QjE (p:=p) (l:=r)
  simp only [ixF,List.mem_cons,exists_eq_or_imp]
  by_cases hy:p y
  ·simp [hy]
  ·simp only [if_neg hy,hy,false_or]
   rw [← h1]
   by_cases h:ixF p r<0
   ·rw [if_pos h]
    exact ⟨fun h2=>absurd h2 (by decide),fun h2=>by omega⟩
   ·rw [if_neg h]
    exact ⟨fun h2=>by omega,fun h2=>by omega⟩
def NoneTo {α:Type} (p:α→Prop) (l:List α) (i:Nat):Prop:=i≤l.length∧∀j y,j<i→l[j]? =some y→¬p y
theorem NoneTo.start {α:Type} (p:α→Prop) (l:List α):NoneTo p l 0:=⟨Nat.zero_le _,fun j y hj=>by omega⟩
theorem NoneTo.next {α:Type} {p:α→Prop} {l:List α} {i:Nat} {x:α} (h:NoneTo p l i) (hx:l[i]? =some x) (hn:¬p x):NoneTo p l (i+1):=by
 have:=(List.getElem?_eq_some_iff.1 hx).1
 refine ⟨by omega,fun j y hj hy=> ?_⟩
 rcases Nat.lt_or_ge j i with h1 | h1
 ·exact h.2 j y h1 hy
 ·obtain rfl:j=i:=by omega
  rw [hx] at hy
  exact Option.some.inj hy▸hn
theorem NoneTo.all {α:Type} {p:α→Prop} {l:List α} {i:Nat} (h:NoneTo p l i) (hi:¬i<l.length):∀j y,j<l.length→l[j]? =some y→¬p y:=fun j y hj hy=>h.2 j y (by omega) hy
theorem NoneTo.mem {α:Type} {p:α→Prop} {l:List α} {i:Nat} (h:NoneTo p l i) (hi:¬i<l.length):∀y∈l,¬p y:=fun y hy=>by
 obtain ⟨j,hj⟩:=List.getElem?_of_mem hy
 exact h.all hi j y (List.getElem?_eq_some_iff.1 hj).1 hj
end
theorem QT (n:Nat) (a:Int) (b:Int) (c:Int):Pure (Qs Tryz.prog (n+1)) 56 [(tI a),(tI b),(tI c)] (tB (decide (b≤a∧a≤c))):=by
 refine Pure.intro (rs:= [ResultVar.tmp 6]) Tryz.func56 Y Y Y (E0:= [(0,(tI a)),(1,(tI b)),(2,(tI c))]) Y ?_
 obtain ⟨hlim,hmx,hmax⟩:=QG
 refine sr (fO (OF.assign (VEv.bool false)) (nt (sr (mO (tI a) Y (mO (tI b) Y (fO (xge (tv (tI a) Y) (tv (tI b) Y)) (mO (tB (decide (b≤a))) Y ?_)))))))
 refine gw (b≤a) (fun fhg10_1=> ?_) fun fhg10_1=> ?_
 ·refine gF (dy fhg10_1) Y Y (OF.move (tv (tI a) Y)) ?_
  refine gF (dy fhg10_1) Y Y (OF.move (tv (tI c) Y)) (gF (dy fhg10_1) Y Y (xle (tv (tI a) Y) (tv (tI c) Y)) (fO (OF.pickT (VEv.tmpB Y (dy fhg10_1)) (tv (tB (decide (a≤c))) Y)) (aO (tB (decide (a≤c))) Y (nt (rt (vb (b':=(decide (a≤c))) Y ?_))))))
  exact Q6 (by omega)
 refine QE 3 3 true 10 (dz fhg10_1) Y Y Y (fO (OF.pickF (VEv.tmpB Y (dz fhg10_1)) (VEv.bool false)) (aO (tB false) Y (nt (rt (vb (b':=false) Y ?_)))))
 (symm;rw [decide_eq_false_iff_not];omega)
theorem Zc (n:Nat) (a:Int) (b:Int) (c:Int):Pure (Qs Tryz.prog (n+1)) 64 [(tI a),(tI b),(tI c)] (tB (decide (b≤a∧a≤c))):=by
 refine Pure.intro (rs:= [ResultVar.tmp 6]) Tryz.func64 Y Y Y (E0:= [(0,(tI a)),(1,(tI b)),(2,(tI c))]) Y ?_
 obtain ⟨hlim,hmx,hmax⟩:=QG
 refine sr (fO (OF.assign (VEv.bool false)) (nt (sr (mO (tI b) Y (mO (tI a) Y (fO (xle (tv (tI b) Y) (tv (tI a) Y)) (mO (tB (decide (b≤a))) Y ?_)))))))
 refine gw (b≤a) (fun fhg10_1=> ?_) fun fhg10_1=> ?_
 ·refine gF (dy fhg10_1) Y Y (OF.move (tv (tI a) Y)) ?_
  refine gF (dy fhg10_1) Y Y (OF.move (tv (tI c) Y)) (gF (dy fhg10_1) Y Y (xle (tv (tI a) Y) (tv (tI c) Y)) (fO (OF.pickT (VEv.tmpB Y (dy fhg10_1)) (tv (tB (decide (a≤c))) Y)) (aO (tB (decide (a≤c))) Y (nt (rt (vb (b':=(decide (a≤c))) Y ?_))))))
  exact Q6 (by omega)
 refine QE 3 3 true 10 (dz fhg10_1) Y Y Y (fO (OF.pickF (VEv.tmpB Y (dz fhg10_1)) (VEv.bool false)) (aO (tB false) Y (nt (rt (vb (b':=false) Y ?_)))))
 (symm;rw [decide_eq_false_iff_not];omega)
theorem JK (n:Nat) (a:Int):Pure (Qs Tryz.prog (n+1)) 112 [(T.int .u8 a)] (tB (decide (97≤a∧a≤122))):=by
 refine Pure.intro (rs:= [ResultVar.tmp 2]) Tryz.func112 Y Y Y (E0:= [(0,(T.int .u8 a))]) Y ?_
 obtain ⟨hlim,hmx,hmax⟩:=QG
 refine sr (fO (OF.assign (VEv.bool false)) (nt (sr (mO (T.int .u8 a) Y (fO (xge (tv (T.int .u8 a) Y) (VEv.int .u8 97)) (mO (tB (decide (97≤a))) Y ?_))))))
 refine gw (97≤a) (fun fhg5_1=> ?_) fun fhg5_1=> ?_
 ·refine gF (dy fhg5_1) Y Y (OF.move (tv (T.int .u8 a) Y)) ?_
  refine gF (dy fhg5_1) Y Y (xle (tv (T.int .u8 a) Y) (VEv.int .u8 122)) (fO (OF.pickT (VEv.tmpB Y (dy fhg5_1)) (tv (tB (decide (a≤122))) Y)) (aO (tB (decide (a≤122))) Y (nt (rt (vb (b':=(decide (a≤122))) Y ?_)))))
  exact Q6 (by omega)
 refine QE 2 2 true 5 (dz fhg5_1) Y Y Y (fO (OF.pickF (VEv.tmpB Y (dz fhg5_1)) (VEv.bool false)) (aO (tB false) Y (nt (rt (vb (b':=false) Y ?_)))))
 (symm;rw [decide_eq_false_iff_not];omega)
theorem Jw (n:Nat) (a:Int) (b:Int):Pure (Qs Tryz.prog (n+1)) 81 [(tI a),(tI b)] (tB (decide (0≤a∧a<b))):=by
 refine Pure.intro (rs:= [ResultVar.tmp 4]) Tryz.func81 Y Y Y (E0:= [(0,(tI a)),(1,(tI b))]) Y ?_
 obtain ⟨hlim,hmx,hmax⟩:=QG
 refine sr (fO (OF.assign (VEv.bool false)) (nt (sr (mO (tI a) Y (fO (xge (tv (tI a) Y) (VEv.int .i64 0)) (mO (tB (decide (0≤a))) Y ?_))))))
 refine gw (0≤a) (fun fhg7_1=> ?_) fun fhg7_1=> ?_
 ·refine gF (dy fhg7_1) Y Y (OF.move (tv (tI a) Y)) ?_
  refine gF (dy fhg7_1) Y Y (OF.move (tv (tI b) Y)) (gF (dy fhg7_1) Y Y (xls (tv (tI a) Y) (tv (tI b) Y)) (fO (OF.pickT (VEv.tmpB Y (dy fhg7_1)) (tv (tB (decide (a<b))) Y)) (aO (tB (decide (a<b))) Y (nt (rt (vb (b':=(decide (a<b))) Y ?_))))))
  exact Q6 (by omega)
 refine QE 3 2 true 7 (dz fhg7_1) Y Y Y (fO (OF.pickF (VEv.tmpB Y (dz fhg7_1)) (VEv.bool false)) (aO (tB false) Y (nt (rt (vb (b':=false) Y ?_)))))
 (symm;rw [decide_eq_false_iff_not];omega)
theorem QaN (n:Nat) (a:ByteArray) (ha:a.size≤maxLen):Pure (Qs Tryz.prog (n+2)) 146 [(tS a)] (tB (decide (Zw a))):=by
 refine Pure.intro (rs:= [ResultVar.tmp 2]) Tryz.func146 Y Y Y (E0:= [(0,(tS a))]) Y ?_
 obtain ⟨hlim,hmx,hmax⟩:=QG
 refine sr (fO (OF.assign (VEv.bool false)) (nt (sq (sr (mO (tS a) Y (lO (B.lenS (tv (tS a) Y) U9) (cO (cS (vc (tv (tN a.size) Y) (vc (VEv.int .i64 1) (vc (VEv.int .i64 8) vn))) (ZO Y) (QT (n+0) ((a.size:Nat):Int) 1 8) Y Y) (fO (Q1 (tv (tB (decide (1≤((a.size:Nat):Int)∧((a.size:Nat):Int)≤8))) Y)) (nt ?_)))))))))
 refine cn (1≤((a.size:Nat):Int)∧((a.size:Nat):Int)≤8) Y (fun fhc0=> ?_) fun fhc0=> ?_
 ·refine sr ?_
  refine fO (OF.assign (VEv.bool false)) (nt (rt (tr (vb (b':=false) Y ?_))))
  symm;rw [decide_eq_false_iff_not];rintro ⟨h1,_⟩;omega
 refine sk (tn (sq (sr (fO (OF.assign (VEv.int .i64 0)) (nt (VRun.block ?_))))))
 refine VRun.loop (A:=Nat) (fun s_=> [(0,(tS a)),(3,(tN s_))]) (fun s_=>QY []) 0 (fun s_=>s_≤a.size∧∀j,j<s_→97≤QA a j∧QA a j≤122) (fun s_=>a.size - s_) (0:Nat) ?_ (Wk.mk (fun k=>k) ?_ ?_ ?_) ?_
 ·exact ⟨Nat.zero_le _,fun j hj=>by omega⟩
 ·exact (b2 (b2 bn))
 ·exact bn
 ·exact nd Y
 rintro i (hI':i≤a.size∧∀j,j<i→97≤QA a j∧QA a j≤122)
 show VRun _ _ _ [(0,(tS a)),(3,(tN i))] (QY []) 0 _
 refine sq (sr (mO (tN i) Y (mO (tS a) Y (lO (B.lenS (tv (tS a) Y) U9) (fO (Zb (tv (tN i) Y) (tv (tN a.size) Y)) (nt ?_))))))
 refine cd (i<a.size) Y (fun fhc1=> ?_) fun fhc1=> ?_
 ·refine sk ?_
  refine tn (sq (VRun.block (sr (mO (tS a) Y (mO (tN i) Y ?_)))))
  have hb1:i<a.size:=(by omega)
  refine fO (xix (tv (tS a) Y) (tv (tN i) Y) hb1 U9) (fO (xls (tv (T.int .u8 (QA a i)) Y) (VEv.int .u8 97)) (mO (tB (decide (QA a i<97))) Y ?_))
  refine gw (QA a i<97) (fun fhg18_2=> ?_) fun fhg18_2=> ?_
  ·refine QE 4 4 false 18 (dy fhg18_2) Y Y Y ?_
   refine fO (OF.pickT (VEv.tmpB Y (dy fhg18_2)) (VEv.bool true)) (nt (ct Y (sr (fO (OF.assign (VEv.bool false)) (nt (rt (vinB.r (tr (tr (vinB.r (tr ?_)))))))))))
   refine vb (b':=false) Y ?_
   symm;rw [decide_eq_false_iff_not];rintro ⟨_,h2⟩;have:=h2 i fhc1;omega
  refine gF (dz fhg18_2) Y Y (OF.move (tv (tS a) Y)) (gF (dz fhg18_2) Y Y (OF.move (tv (tN i) Y)) ?_)
  have hb3:i<a.size:=(by omega)
  refine gF (dz fhg18_2) Y Y (xix (tv (tS a) Y) (tv (tN i) Y) hb3 U9) (gF (dz fhg18_2) Y Y (xgt (tv (T.int .u8 (QA a i)) Y) (VEv.int .u8 122)) (fO (OF.pickF (VEv.tmpB Y (dz fhg18_2)) (tv (tB (decide (122<QA a i))) Y)) (nt ?_)))
  refine cd (122<QA a i) Y (fun fhc2=> ?_) fun fhc2=> ?_
  ·refine sr ?_
   refine fO (OF.assign (VEv.bool false)) (nt (rt (vinB.r (tr (tr (vinB.r (tr (vb (b':=false) Y ?_))))))))
   symm;rw [decide_eq_false_iff_not];rintro ⟨_,h2⟩;have:=h2 i fhc1;omega
  refine sk (vinB.n (tn (VRun.region (mO (tN i) Y (fO (Qy (tv (tN i) Y) (VEv.int .i64 1) (by omega)) (aO (tN (i+1)) Y (VRunO.nil (tn ?_))))))))
  refine ⟨(i+1:Nat),?_,?_,Wk.mk (fun k=>k) ?_ ?_ ?_⟩
  ·exact QZ (ok:=fun j=>97≤QA a j∧QA a j≤122) hI' fhc1 (by omega)
  ·omega
  ·exact (b2 (b2 bn))
  ·exact bn
  ·exact nd Y
 refine VRun.exit (vthn.e (vthn.e (vinB.e (tn (sr (fO (OF.assign (VEv.bool true)) (nt (rt (vb (b':=true) Y ?_)))))))))
 symm;rw [decide_eq_true_eq];exact ⟨by omega,ZY hI' fhc1⟩
theorem QaM (n:Nat) (a:ByteArray) (ha:a.size≤maxLen):Pure (Qs Tryz.prog (n+2)) 150 [(tS a)] (tB (decide (Zw a))):=by
 refine Pure.intro (rs:= [ResultVar.tmp 2]) Tryz.func150 Y Y Y (E0:= [(0,(tS a))]) Y ?_
 obtain ⟨hlim,hmx,hmax⟩:=QG
 refine sr (fO (OF.assign (VEv.bool false)) (nt (sq (sr (mO (tS a) Y (lO (B.lenS (tv (tS a) Y) U9) (cO (cS (vc (tv (tN a.size) Y) (vc (VEv.int .i64 1) (vc (VEv.int .i64 8) vn))) (ZO Y) (Zc (n+0) ((a.size:Nat):Int) 1 8) Y Y) (fO (Q1 (tv (tB (decide (1≤((a.size:Nat):Int)∧((a.size:Nat):Int)≤8))) Y)) (nt ?_)))))))))
 refine cn (1≤((a.size:Nat):Int)∧((a.size:Nat):Int)≤8) Y (fun fhc0=> ?_) fun fhc0=> ?_
 ·refine sr ?_
  refine fO (OF.assign (VEv.bool false)) (nt (rt (tr (vb (b':=false) Y ?_))))
  symm;rw [decide_eq_false_iff_not];rintro ⟨h1,_⟩;omega
 refine sk (tn (sq (sr (mO (tS a) Y (lO (B.lenS (tv (tS a) Y) U9) (fO (OF.move (VEv.int .i64 0)) (nt (VRun.block ?_))))))))
 refine VRun.loop (A:=Nat) (fun s_=> [(0,(tS a)),(9,(tN a.size)),(10,(tN s_))]) (fun s_=>QY []) 0 (fun s_=>s_≤a.size∧∀j,j<s_→97≤QA a j∧QA a j≤122) (fun s_=>a.size - s_) (0:Nat) ?_ (Wk.mk (fun k=>k) ?_ ?_ ?_) ?_
 ·exact ⟨Nat.zero_le _,fun j hj=>by omega⟩
 ·exact (b2 (b2 (b2 bn)))
 ·exact bn
 ·exact nd Y
 rintro i (hI':i≤a.size∧∀j,j<i→97≤QA a j∧QA a j≤122)
 show VRun _ _ _ [(0,(tS a)),(9,(tN a.size)),(10,(tN i))] (QY []) 0 _
 refine sr (fO (Zb (tv (tN i) Y) (tv (tN a.size) Y)) (nt (sq ?_)))
 refine cd (i<a.size) Y (fun fhc1=> ?_) fun fhc1=> ?_
 ·refine sk ?_
  refine tn (sq (VRun.block (sr (mO (tN i) Y (aO (tN i) Y (nt (sr (mO (tS a) Y (mO (tN i) Y ?_)))))))))
  have hb1:i<a.size:=(by omega)
  refine fO (xix (tv (tS a) Y) (tv (tN i) Y) hb1 U9) (cO (cS (vc (tv (T.int .u8 (QA a i)) Y) vn) (ZO Y) (JK (n+0) (QA a i)) Y Y) (fO (Q1 (tv (tB (decide (97≤(QA a i)∧(QA a i)≤122))) Y)) (nt ?_)))
  refine cn (97≤(QA a i)∧(QA a i)≤122) Y (fun fhc2=> ?_) fun fhc2=> ?_
  ·refine sr ?_
   refine fO (OF.assign (VEv.bool false)) (nt (rt (vinB.r (tr (tr (vinB.r (tr (vb (b':=false) Y ?_))))))))
   symm;rw [decide_eq_false_iff_not];rintro ⟨_,h2⟩;have:=h2 i fhc1;omega
  refine sk (vinB.n (tn (VRun.region (fO (Qy (tv (tN i) Y) (VEv.int .i64 1) (by omega)) (mO (tN (i+1)) Y (VRunO.nil (tn ?_)))))))
  refine ⟨(i+1:Nat),?_,?_,Wk.mk (fun k=>k) ?_ ?_ ?_⟩
  ·exact QZ (ok:=fun j=>97≤QA a j∧QA a j≤122) hI' fhc1 (by omega)
  ·omega
  ·exact (b2 (b2 (b2 bn)))
  ·exact bn
  ·exact nd Y
 refine VRun.exit (vthn.e (vthn.e (vinB.e (tn (sr (fO (OF.assign (VEv.bool true)) (nt (rt (vb (b':=true) Y ?_)))))))))
 symm;rw [decide_eq_true_eq];exact ⟨by omega,ZY hI' fhc1⟩
end Go.Proofs.YtcccmceoplcciaaGreat.AE
