/- A part of what the row of FnExactIsBetter uses. Conditions: as each theorem states. -/
import Derived.Test.YtjpenecpopljoaaGreatZFnExactIsBetterb
import Derived.Test.YtjpenecpopljoaaGreatProg
import Derived.KernelRfl
namespace Go.Proofs.YtjpenecpopljoaaGreat.AE
open Go Go.RowKit
set_option linter.unusedVariables false
set_option linter.unusedSimpArgs false
theorem V.vpInv {σ:Nat→Option Nat} {hf:AH} {nx:Nat} {ts:List T} {v:Value} (h:V σ hf nx (.vp ts) v):∃a o es cs,v= .pointer (some ⟨a,o,none⟩)∧hf a=some (.cells es cs)∧o+ts.length≤cs.length∧∀i,i<ts.length→V σ hf nx (ts.getD i .any) (cs.getD (o+i) undef):=by
 cases h with
 | fz hr=>cases hr
 | vp ts o hk hfit h=>exact ⟨_,o,_,_,rfl,hk,hfit,h⟩
section
variable {call : QX} {P : Program} {E : Zh} {O : QM} {d : Option Tmp} {ty tt : TypeId} {ps : String} {af : Array Edge} {g : Option (Nat × Bool)} {x y z : Operand} {t : T} {nx : Nat}
theorem OL.loadV1 {ts:List T} (hx:VEv E x (.vp ts)) (ht:ts[0]? =some t) (hst:QA P tt=some false):OL call P E O ⟨d, .load tt x,ty,ps,af,g⟩ t:=fun q p h0 σ hf own nx Ea h hs=>by
 obtain ⟨v,h1,h2⟩:=hx σ hf nx Ea hs.env
 obtain ⟨a,o,es,cs,rfl,h3,h4,h5⟩:=h2.vpInv
 have hlt:0<ts.length:=(List.getElem?_eq_some_iff.1 ht).1
 have h6:=h5 0 hlt
 rw [Nat.add_zero,List.getD_eq_getElem?_getD,ht,List.getD_eq_getElem?_getD,List.getElem?_eq_getElem (show o<cs.length by omega)] at h6
 exact ⟨_,X.load h1 (Qbj hst (hs.fro _ _ h3).1 (List.getElem?_eq_getElem (show o<cs.length by omega))),h6⟩
end
def Loan (call:QX) (f:FuncId) (sz:Nat) (rows:List (List T)) (ts:List T) (r:T) (rows':List (List T)):Prop:=∀(h:AH) (p:Nat) (hf:AH) (σ:Nat→Option Nat) (N:List Nat) (vs:List Value),Fr p h→(∀b o,hf b=some o→h b=some o∧b∉N)→N.Nodup→ObjR σ hf 1 h (.rows sz rows) (σ 0) N→VL σ hf 1 ts vs →
 CallS call f vs h p (fun v h'=>(∀b,h b≠none→b∉N→h' b=h b)∧V σ hf 1 r v∧ObjR σ hf 1 h' (.rows sz rows') (σ 0) N)
inductive Pin : T→Prop
 | os (sz n:Nat):Pin (.os sz 0 0 n)
 | vp (sz n:Nat):Pin (.vp [.os sz 0 0 n])
inductive LRes : T→Prop
 | none:LRes (.tup [])
 | int (k:IntKind) (n:Int):LRes (.int k n)
 | bool (b:Bool):LRes (.bool b)
 | os (sz n:Nat):LRes (.os sz 0 0 n)
def vloan (P:Program) (rs:List ResultVar) (j:Nat) (pin:T) (sz:Nat) (rows':List (List T)) (r:T):AX→Zh→QM→Nat→Prop
 | .exit _,_,_,_=>False
 | _,E,O,_=>∃k ts,VRes P E O rs ts∧QhE ts=ren (fun _=>k) r∧gE E j=ren (fun _=>k) pin∧gO O k=some (.rows sz rows')
theorem vloan.r {P:Program} {rs:List ResultVar} {j sz nx:Nat} {pin r:T} {rows rows':List (List T)} {E:Zh} {O:QM} {ts:List T} (k:Nat) (h:VRes P E O rs ts) (h1:QhE ts=ren (fun _=>k) r) (h2:gE E j=ren (fun _=>k) pin) (h3:gO O k=some (.rows sz rows)) (e:rows=rows'):vloan P rs j pin sz rows' r .ret E O nx:=⟨k,ts,h,h1,h2,e▸h3⟩
theorem vloan.n {P:Program} {rs:List ResultVar} {j sz nx:Nat} {pin r:T} {rows rows':List (List T)} {E:Zh} {O:QM} {ts:List T} (k:Nat) (h:VRes P E O rs ts) (h1:QhE ts=ren (fun _=>k) r) (h2:gE E j=ren (fun _=>k) pin) (h3:gO O k=some (.rows sz rows)) (e:rows=rows'):vloan P rs j pin sz rows' r .normal E O nx:=⟨k,ts,h,h1,h2,e▸h3⟩
theorem Qmu {σ σ':Nat→Option Nat} {hf hf':AH} {nx nx' sz k n:Nat} {v:Value} (h:V σ hf nx (.os sz 0 0 n) v) (h':V σ' hf' nx' (.os sz k 0 n) v):σ' k=σ 0:=by
 obtain ⟨_,⟨a,m,e1,e2,e3⟩ | ⟨e1,_,e2,e3⟩⟩:=h.osInv
 ·obtain ⟨_,⟨a',m',f1,f2,f3⟩ | ⟨f1,_,f2,f3⟩⟩:=h'.osInv
  ·rw [e1] at f1
   simp only [Value.slice.injEq,Option.some.injEq,Addr.mk.injEq] at f1
   rw [e2,f2,f1.1.1]
  ·subst e1
   rcases f3 with f3 | ⟨b,o,f3⟩
   ·exact absurd f3 (by simp)
   ·simp only [Value.slice.injEq] at f3
    omega
 ·obtain ⟨_,⟨a',m',f1,f2,f3⟩ | ⟨f1,_,f2,f3⟩⟩:=h'.osInv
  ·subst f1
   rcases e3 with e3 | ⟨b,o,e3⟩
   ·exact absurd e3 (by simp)
   ·simp only [Value.slice.injEq] at e3
    omega
  ·rw [e1,f1]
theorem Pin.same {σ σ':Nat→Option Nat} {hf hf':AH} {nx nx' k:Nat} {pin:T} {v:Value} (hp:Pin pin) (hm:∀a o,hf a=some o→hf' a=some o) (h:V σ hf nx pin v) (h':V σ' hf' nx' (ren (fun _=>k) pin) v):σ' k=σ 0:=by
 cases hp with
 | os sz n=>exact Qmu h h'
 | vp sz n =>
  obtain ⟨a,o,es,cs,rfl,e1,e2,e3⟩:=h.vpInv
  obtain ⟨a',o',es',cs',f0,f1,f2,f3⟩:=V.vpInv h'
  simp only [Value.pointer.injEq,Option.some.injEq,Addr.mk.injEq] at f0
  obtain ⟨rfl,rfl,_⟩:=f0
  rw [hm _ _ e1] at f1
  cases f1
  have g1:=e3 0 (by simp)
  have g2:=f3 0 (by simp [QbL])
  exact Qmu g1 g2
theorem LRes.back {σ σ':Nat→Option Nat} {hf hf':AH} {nx nx' k:Nat} {r:T} {v:Value} (hr:LRes r) (h0:0<nx) (hσ:σ' k=σ 0) (h:V σ' hf' nx' (ren (fun _=>k) r) v):V σ hf nx r v:=by
 cases hr with
 | none =>
  obtain ⟨l,rfl,h1⟩:=V.tupL h
  obtain rfl:=List.eq_nil_of_length_eq_zero h1.1.symm
  exact .fz (.tup [] #[] rfl (fun i hi=>by simp at hi))
 | int k n=>obtain rfl:=V.intInv h;exact .fz (.int _ _)
 | bool b=>obtain rfl:=V.boolInv h;exact .fz (.bool _)
 | os sz n =>
  obtain ⟨_,⟨a,m,rfl,e2,e3⟩ | ⟨e1,e4,e2,e3⟩⟩:=V.osInv h
  ·exact .os sz 0 0 n m h0 (hσ.symm.trans e2) e3
  ·subst e2
   rcases e3 with rfl | ⟨a,o,rfl⟩
   ·exact .os0 sz 0 h0 (hσ.symm.trans e1)
   ·exact .ose sz 0 a o h0 (hσ.symm.trans e1)
theorem ObjR.one {σ:Nat→Option Nat} {hf h:AH} {nx sz:Nat} {rows:List (List T)} {oa:Option Nat} {N:List Nat} (h1:ObjR σ hf nx h (.rows sz rows) oa N) (hsc:scR rows):(oa=Option.none∧N= []∧rows= [])∨∃a,oa=some a∧N= [a]∧h a≠Option.none:=by
 cases h1 with
 | none sz=>exact .inl ⟨rfl,rfl,rfl⟩
 | rows hk hodd hlen hfit hs =>
  obtain rfl:=hs.sc hsc.flat
  exact .inr ⟨_,rfl,rfl,by rw [hk];simp⟩
theorem ObjR.scM {σ σ':Nat→Option Nat} {hf hf' h h':AH} {nx nx' sz:Nat} {rows:List (List T)} {oa:Option Nat} {N:List Nat} (h1:ObjR σ hf nx h (.rows sz rows) oa N) (hsc:scR rows) (hh:∀a∈N,h' a=h a):ObjR σ' hf' nx' h' (.rows sz rows) oa N:=by
 cases h1 with
 | none sz=>exact .none sz
 | rows hk hodd hlen hfit hs =>
  obtain rfl:=hs.sc hsc.flat
  exact .rows ((hh _ (by simp)).trans hk) hodd hlen hfit (SL.mono (fun _ _ e=>e) (SL.clean hs (fun t ht=>Qdn (hsc.flat t ht))) (by simp))
theorem Loan.intro {P:Program} {f:FuncId} {fn:Func} {c:Code} {n sz j:Nat} {ts:List T} {r pin:T} {rows rows':List (List T)} {rs:List ResultVar} (hf:P.funcs[f]? =some fn) (hb:fn.body=some c) (hc:ZV fn.ntmps c=true) (hrs:fn.results.toList=rs) (hn:noW j c=true) (hj:ts[j]? =some pin) (hpin:Pin pin) (hr0:LRes r) (hsc:scR rows) (hsc':scR rows') {E0:Zh} (hE:QgU 0 ts=E0)
  (hr:VRun (Qo P n) P c E0 [(0,some (.rows sz rows))] 1 (vloan P rs j pin sz rows' r)) (hpr:Qex f=true:=by rfl):Loan (Qo P (n+1)) f sz rows ts r rows':=by
 subst hE
 intro h p hfz σ N vs hfp hfN hnd hO hvs
 classical
 let hb0:AH:=fun b=>if b∈N then none else h b
 have hb1:∀b,b∉N→hb0 b=h b:=fun b hb=>if_neg hb
 have hb2:∀b,b∈N→hb0 b=none:=fun b hb=>if_pos hb
 have hb3:∀b o,hb0 b=some o→b∉N∧h b=some o:=fun b o hb=>by
  by_cases hm:b∈N
  ·rw [hb2 b hm] at hb;cases hb
  ·exact ⟨hm,(hb1 b hm).symm.trans hb⟩
 have hsub:∀b o,hfz b=some o→hb0 b=some o:=fun b o hb=>(hb1 b (hfN b o hb).2).trans (hfN b o hb).1
 have hNn:∀a∈N,h a≠none:=fun a ha=>by
  rcases hO.one hsc with ⟨_,rfl,_⟩ | ⟨a',_,rfl,h3⟩
  ·cases ha
  ·obtain rfl:=List.mem_singleton.1 ha
   exact h3
 have hjl:j<ts.length:=(List.getElem?_eq_some_iff.1 hj).1
 have hs0:SR p ⟨hb0,fun b=>b∈N⟩ σ hb0 (fun b=>if b∈N then some 0 else none) (QgU 0 ts) [(0,some (.rows sz rows))] 1 (fun t=>vs.getD t undef) h:=by
  refine ⟨fun t=> ?_,fun k o hk=> ?_,fun a o ha=>⟨(hb3 a o ha).2,if_neg (hb3 a o ha).1⟩,fun a k ha=> ?_,fun _ _=>rfl,fun t ht=> ?_⟩
  ·rw [Qfq,if_neg (by omega),Nat.sub_zero]
   rcases Nat.lt_or_ge t ts.length with h1 | h1
   ·exact (hvs.2 t h1).mono hsub (Nat.le_refl _) (fun _ _=>rfl)
   ·rw [List.getD_eq_getElem?_getD,List.getElem?_eq_none h1]
    exact .any _
  ·simp only [gO] at hk
   split at hk
   ·rename_i e
    subst e
    obtain rfl:=Option.some.inj hk
    exact ⟨by omega,N,hnd,fun a ha=>if_pos ha,hO.mono hsub (Nat.le_refl _) (fun _ _=>rfl) (fun _ _=>rfl)⟩
   ·cases hk
  ·split at ha
   ·rename_i hm
    obtain rfl:=Option.some.inj ha
    exact ⟨.inr hm,hb2 a hm,hNn a hm,by omega⟩
   ·cases ha
  ·by_cases hm:t∈N
   ·exact .inr (.inr hm)
   ·exact .inl (by show hb0 t≠none;rw [hb1 t hm];exact ht)
 unfold VRun at hr
 have hrun:=hr p _ σ _ _ _ h 0 hs0
 have hrun2:Run (Qo P n) P p c ⟨fun t=>vs.getD t undef,h,0⟩ (fun e s=>KK p ⟨hb0,fun b=>b∈N⟩ (vloan P rs j pin sz rows' r e) s.E s.h∧s.E j=vs.getD j undef):=by
  unfold Run at hrun ⊢
  intro hfc
  obtain ⟨e,s',h1,h2,h3⟩:=hrun hfc
  exact ⟨e,s',h1,h2,h3,YJ _ _ _ _ hn h1⟩
 refine CallS.intro (hpr:=hpr) (rs:=rs) hf hb hc hfp hrs (Run.mono hrun2 ?_)
 rintro e s' ⟨⟨σ',hf',own',E,O,nx,h1,h2⟩,h0⟩
 have key:(∃k ts,VRes P E O rs ts∧QhE ts=ren (fun _=>k) r∧gE E j=ren (fun _=>k) pin∧gO O k=some (.rows sz rows'))→∃l,Qaw P s'.h s'.E rs=some l∧(fun v h'=>(∀b,h b≠none→b∉N→h' b=h b)∧V σ hfz 1 r v∧ObjR σ hfz 1 h' (.rows sz rows') (σ 0) N) (JL l) (if Zr (JL l) then Jq h s'.h else Qct p h s'.h):=by
  rintro ⟨k,us,g1,g2,g3,g4⟩
  obtain ⟨l,l1,l2⟩:=g1.run h1
  have g5:V σ' hf' nx (QhE us) (JL l):=by
   have hlen:=l2.1
   match us,l,l2,hlen with
   | [],[],g4,_=>exact g4.toTup
   | [t],[v],g4,_ =>
    obtain ⟨v',r',e,g6,_⟩:=g4.tail
    cases e
    exact g6
   | t::t'::us,v::v'::l,g4,_=>exact g4.toTup
   | [],_::_,_,hl=>cases hl
   | [_],[],_,hl=>cases hl
   | [_],_::_::_,_,hl=>cases hl
   | _::_::_,[],_,hl=>cases hl
   | _::_::_,[_],_,hl=>cases hl
  have hbase:∀a o,hb0 a=some o→hf' a=some o:=fun a o ha=>by
   have e3:hf' a=hb0 a:=h1.base a (by show hb0 a≠none;rw [ha];simp)
   rw [e3,ha]
  have hσ:σ' k=σ 0:=by
   have p1:=hvs.2 j hjl
   rw [List.getD_eq_getElem?_getD,hj] at p1
   have p2:=h1.env j
   rw [g3,h0] at p2
   exact hpin.same (fun a o ha=>hbase a o (hsub a o ha)) p1 p2
  have hold:∀b,h b≠none→(if Zr (JL l) then Jq h s'.h else Qct p h s'.h) b=s'.h b:=fun b hb=>by
   split
   ·unfold Jq
    cases hh:h b with
    | none=>exact absurd hh hb
    | some o=>rfl
   ·exact Qia (.inl hb)
  refine ⟨l,l1,fun b hb hbN=> ?_,hr0.back (by omega) hσ (by rw [← g2];exact g5),?_⟩
  ·rw [hold b hb]
   obtain ⟨o,ho⟩:=Option.ne_none_iff_exists'.1 hb
   rw [(h1.fro b o (hbase b o ((hb1 b hbN).trans ho))).1,ho]
  ·obtain ⟨M,hM1,hM2,e4⟩:=h1.objAt g4
   rw [hσ] at e4
   have hMN:M=N:=by
    rcases hO.one hsc with ⟨q1,rfl,_⟩ | ⟨a,q1,rfl,_⟩
    ·rcases e4.one hsc' with ⟨_,rfl,_⟩ | ⟨a',q3,_,_⟩
     ·rfl
     ·rw [q1] at q3;cases q3
    ·rcases e4.one hsc' with ⟨q3,_,_⟩ | ⟨a',q3,rfl,_⟩
     ·rw [q1] at q3;cases q3
     ·rw [q1] at q3;rw [Option.some.inj q3]
   subst hMN
   exact e4.scM hsc' (fun a ha=>hold a (hNn a ha))
 cases e with
 | normal=>unfold fin;exact key h2
 | ret=>unfold fin;exact key h2
 | exit id=>exact h2.elim
section
variable {call : QX} {P : Program} {E : Zh} {O : QM} {d : Option Tmp} {ty : TypeId} {ps : String} {af : Array Edge} {g : Option (Nat × Bool)} {nx : Nat}
theorem LRes.fwd {σ σ':Nat→Option Nat} {hf hf':AH} {nx nx' k:Nat} {r:T} {v:Value} (hr:LRes r) (hk:k<nx') (hσ:σ' k=σ 0) (h:V σ hf nx r v):V σ' hf' nx' (ren (fun _=>k) r) v:=by
 cases hr with
 | none =>
  obtain ⟨l,rfl,h1⟩:=V.tupL h
  obtain rfl:=List.eq_nil_of_length_eq_zero h1.1.symm
  exact .fz (.tup [] #[] rfl (fun i hi=>by simp at hi))
 | int k n=>obtain rfl:=V.intInv h;exact .fz (.int _ _)
 | bool b=>obtain rfl:=V.boolInv h;exact .fz (.bool _)
 | os sz n =>
  obtain ⟨_,⟨a,m,rfl,e2,e3⟩ | ⟨e1,e4,e2,e3⟩⟩:=V.osInv h
  ·exact .os sz k 0 n m hk (hσ.trans e2) e3
  ·subst e2
   rcases e3 with rfl | ⟨a,o,rfl⟩
   ·exact .os0 sz k hk (hσ.trans e1)
   ·exact .ose sz k a o hk (hσ.trans e1)
theorem OC.loanX {f:FuncId} {o:Oper} {ts0 ts:List T} {sz k:Nat} {r:T} {rows rows':List (List T)} (ho:∀(q p:Nat) (h0:LB) (σ:Nat→Option Nat) (hf:AH) (own:Nat→Option Nat) (Ea:Nat→Value) (h:AH),SR p h0 σ hf own E O nx Ea h→∃vs,aop P q Ea h o=some (.enter f vs)∧VL σ hf nx ts0 vs) (hk:gO O k=some (.rows sz rows)) (hts:QbL (fun _=>k) ts=ts0) (htl:YY 1 ts=true) (hr0:LRes r) (hsc:scR rows) (hsc':scR rows') (hp:Loan call f sz rows ts r rows') :
  OC call P E O nx o (ren (fun _=>k) r) ((k,some (.rows sz rows'))::O) nx [k]:=⟨Nat.le_refl _,fun q p h0 σ hf own Ea h hs hu hF=>by
 subst hts
 obtain ⟨vs,h1,h2⟩:=ho q p h0 σ hf own Ea h hs
 obtain ⟨hkn,N,hN1,hN2,h5⟩:=hs.obj k _ hk
 have hl:VL (fun _=>σ k) hf 1 ts vs:=by
  refine ⟨by have:=h2.1;rw [Yh,List.length_map] at this;exact this,fun i hi=> ?_⟩
  have h6:=h2.2 i (by rw [Yh,List.length_map];exact hi)
  refine V.ren (σ':=fun _=>σ k) (nx':=1) (fun _ _=>rfl) h6 ?_ ?_
  ·rw [Yh]
   simp [List.getD_eq_getElem?_getD,hi]
  ·rw [Jt,List.all_eq_true] at htl
   refine htl _ ?_
   rw [List.getD_eq_getElem?_getD,List.getElem?_eq_getElem hi]
   exact List.getElem_mem hi
 have h6:=hp h q hf (fun _=>σ k) N vs hF (fun b o hb=>⟨(hs.fro b o hb).1,fun hm=>by have:=hN2 b hm;rw [(hs.fro b o hb).2] at this;cases this⟩) hN1 (h5.scM hsc (fun _ _=>rfl)) hl
 unfold CallS at h6
 obtain ⟨v,h',k1,k2,k3,k4,k5⟩:=h6
 refine ⟨v,h',σ,own,by simp only [QH,h1,k1],k2,fun _ _=>rfl,⟨hs.env,fun k' o hk'=> ?_,fun b o hb=> ?_,fun b k' hb=> ?_,hs.base,fun t ht=> ?_⟩,hr0.fwd hkn Y k4,fun b hb hnk=>k3 b hb (fun hm=>hnk k (by simp) (hN2 b hm)),fun b k' e=> .inl e⟩
 ·simp only [gO] at hk'
  split at hk'
  ·rename_i e
   subst e
   obtain rfl:=Option.some.inj hk'
   exact ⟨hkn,N,hN1,hN2,k5.scM hsc' (fun _ _=>rfl)⟩
  ·rename_i hne
   obtain ⟨m1,N2,m2,m3,m4⟩:=hs.obj k' o hk'
   refine ⟨m1,N2,m2,m3,m4.mono (fun _ _ e=>e) (Nat.le_refl _) (fun _ _=>rfl) (fun b hb=>k3 b (hs.mine b k' (m3 b hb)).2.2.1 (fun hm=> ?_))⟩
   have:=hN2 b hm
   rw [m3 b hb] at this
   exact hne (Option.some.inj this)
 ·obtain ⟨m1,m2⟩:=hs.fro b o hb
  refine ⟨?_,m2⟩
  rw [k3 b (by rw [m1];simp) (fun hm=>by have:=hN2 b hm;rw [m2] at this;cases this)]
  exact m1
 ·obtain ⟨m1,m2,m3,m4⟩:=hs.mine b k' hb
  refine ⟨m1,m2,?_,m4⟩
  by_cases hm:b∈N
  ·rcases k5.one hsc' with ⟨_,rfl,_⟩ | ⟨a,_,rfl,h3⟩
   ·cases hm
   ·obtain rfl:=List.mem_singleton.1 hm
    exact h3
  ·rw [k3 b m3 hm]
   exact m3
 ·rcases k2 t ht with e | e
  ·exact hs.dom t e
  ·exact .inr (hu t e)⟩
theorem OC.callLoan {f:FuncId} {args:Array Operand} {tys:Array TypeId} {ts0 ts:List T} {sz k:Nat} {r r':T} {rows rows':List (List T)} (hb:Jc P f=true) (ha:VEvs E args.toList ts0) (hk:gO O k=some (.rows sz rows)) (hts:QbL (fun _=>k) ts=ts0) (htl:YY 1 ts=true) (hr0:LRes r) (hrr:ren (fun _=>k) r=r') (hsc:scR rows) (hsc':scR rows') (hp:Loan call f sz rows ts r rows') :
  OC call P E O nx ⟨d, .call ⟨.value (.func f),args,tys⟩,ty,ps,af,g⟩ r' ((k,some (.rows sz rows'))::O) nx [k]:=hrr▸OC.loanX (fun q p h0 σ hf own Ea h hs=>by
 obtain ⟨vs,h1,h2⟩:=ha σ hf nx Ea hs.env
 exact ⟨vs,X.calls hb h1,h2⟩) hk hts htl hr0 hsc hsc' hp
theorem VL.app {σ:Nat→Option Nat} {hf:AH} {nx:Nat}:∀ {ts us:List T} {vs ws:List Value},VL σ hf nx ts vs→VL σ hf nx us ws→VL σ hf nx (ts++us) (vs++ws)
 | [],us,vs,ws,h,h2=>by
  obtain rfl:=List.eq_nil_of_length_eq_zero h.1.symm
  exact h2
 | t::ts,us,vs,ws,h,h2=>by
  obtain ⟨v,l,rfl,h3,h4⟩:=h.tail
  exact .cons h3 (VL.app h4 h2)
theorem OC.callvLoan {f:FuncId} {a:Tmp} {args:Array Operand} {tys:Array TypeId} {ts0 ts caps:List T} {sz k:Nat} {r r':T} {rows rows':List (List T)} (hf:gE E a= .fn f caps) (hb:Jc P f=true) (ha:VEvs E args.toList ts0) (hk:gO O k=some (.rows sz rows)) (hts:QbL (fun _=>k) ts=ts0++caps) (htl:YY 1 ts=true) (hr0:LRes r) (hrr:ren (fun _=>k) r=r') (hsc:scR rows) (hsc':scR rows') (hp:Loan call f sz rows ts r rows') :
  OC call P E O nx ⟨d, .call ⟨.value (.tmp a),args,tys⟩,ty,ps,af,g⟩ r' ((k,some (.rows sz rows'))::O) nx [k]:=hrr▸OC.loanX (fun q p h0 σ hf' own Ea h hs=>by
 obtain ⟨vs,h1,h2⟩:=ha σ hf' nx Ea hs.env
 have h3:=hs.env a
 rw [hf] at h3
 obtain ⟨cs,h4,h5⟩:=h3.fnL
 exact ⟨vs++cs,by have:=X.callv (P:=P) (p:=q) (h:=h) (d:=d) (ty:=ty) (ps:=ps) (af:=af) (g:=g) (ts:=tys) h4 hb h1;simpa using this,h2.app h5⟩) hk hts htl hr0 hsc hsc' hp
end
def vtT (f:FuncId) (a b:T):Nat→T
 | 0=> .any
 | d+1=> .vp [.fn f [a,b,vtT f a b d]]
theorem Qck (g:Nat→Nat) (f:FuncId) (a b:T):∀d,ren g (vtT f a b d)=vtT f (ren g a) (ren g b) d
 | 0=>rfl
 | d+1=>by simp only [vtT,ren,QbL,Qck g f a b d]
theorem Qef {n:Nat} {f:FuncId} {a b:T} (ha:Ja n a=true) (hb:Ja n b=true):∀d,Ja n (vtT f a b d)=true
 | 0=>rfl
 | d+1=>by simp only [vtT,Ja,YY,ha,hb,Qef ha hb d,Bool.and_true]
theorem tl {n:Nat} {t:T} {ts:List T} (h:Ja n t=true) (hr:YY n ts=true):YY n (t::ts)=true:=by simp only [YY,h,hr,Bool.and_true]
theorem SR.hold {p nx k:Nat} {h0:LB} {hf h:AH} {σ own:Nat→Option Nat} {E:Zh} {O:QM} {Ea:Nat→Value} {us:List T} (hs:SR p h0 σ hf own E O nx Ea h) (hk:gO O k=some (.cells us)):∃hf' own' a es cs,SR p h0 σ hf' own' E ((k,none)::O) nx Ea h∧(∀a o,hf a=some o→hf' a=some o)∧σ k=some a∧hf' a=some (.cells es cs)∧VL σ hf nx us cs:=by
 classical
 obtain ⟨hkn,N,hN1,hN2,h3⟩:=hs.obj k _ hk
 cases hσ:σ k with
 | none=>rw [hσ] at h3;cases h3
 | some a =>
 rw [hσ] at h3
 cases h3 with
 | cells hh hodd hv =>
  rename_i es cs
  have howna:=hN2 a (by simp)
  have hmono:∀b o,hf b=some o→(fun b=>if own b=some k then h b else hf b) b=some o:=fun b o ho=>by
   have:=(hs.fro b o ho).2
   simp only [this]
   rw [if_neg (by simp)]
   exact ho
  refine ⟨fun b=>if own b=some k then h b else hf b,fun b=>if own b=some k then none else own b,a,es,cs,⟨fun t=>(hs.env t).mono hmono (Nat.le_refl _) (fun _ _=>rfl),fun k' o hk'=> ?_,fun b o ha=> ?_,fun b k' ha=> ?_,fun b ha=> ?_,hs.dom⟩,hmono,rfl,by simp only [howna,if_true];exact hh,hv⟩
  ·simp only [gO] at hk'
   split at hk'
   ·cases hk'
   ·rename_i hne
    obtain ⟨h1,M,h2,h4,h5⟩:=hs.obj k' o hk'
    refine ⟨h1,M,h2,fun b hb=> ?_,h5.mono hmono (Nat.le_refl _) (fun _ _=>rfl) (fun _ _=>rfl)⟩
    have:=h4 b hb
    simp only [this]
    rw [if_neg (fun e=>hne (Option.some.inj e))]
  ·split at ha
   ·rename_i e
    exact ⟨ha,by simp only [e,if_true]⟩
   ·rename_i e
    obtain ⟨h1,h2⟩:=hs.fro b o ha
    exact ⟨h1,by simp [h2]⟩
  ·split at ha
   ·cases ha
   ·exact hs.mine b k' ha
  ·have:own b≠some k:=fun e=>ha (hs.mine b k e).2.1
   simp only [if_neg this]
   exact hs.base b ha
theorem SR.told {p nx:Nat} {h0:LB} {hf h:AH} {σ own:Nat→Option Nat} {E E':Zh} {O:QM} {Ea:Nat→Value} (hs:SR p h0 σ hf own E O nx Ea h) (he:∀t,V σ hf nx (gE E' t) (Ea t)):SR p h0 σ hf own E' O nx Ea h:=⟨he,hs.obj,hs.fro,hs.mine,hs.base,hs.dom⟩
theorem V.opAt {σ:Nat→Option Nat} {hf:AH} {nx k o a:Nat} {v:Value} (h:V σ hf nx (.op k o) v) (hσ:σ k=some a):v= .pointer (some ⟨a,o,none⟩):=by
 obtain ⟨a',e1,e2,_⟩:=h.opInv
 rw [hσ] at e2
 rw [e1,Option.some.inj e2]
theorem Wk.recv {E:Zh} {O:QM} {nx d1 d2 d3 k1 k2 k3 sz k n:Nat} {us:List T} {f:FuncId} (dep:Nat) (e1:gE E d1= .op k1 0) (e2:gE E d2= .op k2 0) (e3:gE E d3= .op k3 0) (o1:gO O k1=some (.cells us)) (o2:gO O k2=some (.cells [.os sz k 0 n])) (o3:gO O k3=some (.cells [.fn f [.op k1 0, .op k2 0, .op k3 0]])) (h12:¬k2=k1) (h13:¬k3=k1) (h23:¬k3=k2) (hpl:∀t∈us,Qap t=true) :
  Wk E O nx ((d1, .rp us)::(d2, .vp [.os sz k 0 n])::(d3,vtT f (.rp us) (.vp [.os sz k 0 n]) dep)::E) ((k3,none)::(k2,none)::(k1,none)::O) nx:=fun p h0 σ hf own Ea h hs=>by
 obtain ⟨hf1,own1,a1,es1,cs1,s1,m1,g1,f1,v1⟩:=hs.hold o1
 obtain ⟨hf2,own2,a2,es2,cs2,s2,m2,g2,f2,v2⟩:=s1.hold (k:=k2) (us:= [.os sz k 0 n]) (by simp only [gO,if_neg h12];exact o2)
 obtain ⟨hf3,own3,a3,es3,cs3,s3,m3,g3,f3,v3⟩:=s2.hold (k:=k3) (us:= [.fn f [.op k1 0, .op k2 0, .op k3 0]]) (by simp only [gO,if_neg h13,if_neg h23];exact o3)
 have c1:V σ hf3 nx (.rp us) (.pointer (some ⟨a1,0,none⟩)):=by
  have r1:=(v1.mono (hf':=hf3) (σ':=σ) (nx':=nx) (fun a o e=>m3 _ _ (m2 _ _ (m1 _ _ e))) (Nat.le_refl _) (fun _ _=>rfl)).pl hpl
  exact .fz (.rp us 0 (m3 _ _ (m2 _ _ f1)) (by have:=r1.1;omega) (fun i hi=>by rw [Nat.zero_add];exact r1.2 i hi))
 have c2:V σ hf3 nx (.vp [.os sz k 0 n]) (.pointer (some ⟨a2,0,none⟩)):=by
  have r1:=v2.mono (hf':=hf3) (σ':=σ) (nx':=nx) (fun a o e=>m3 _ _ (m2 _ _ e)) (Nat.le_refl _) (fun _ _=>rfl)
  exact .vp _ 0 (m3 _ _ f2) (by have:=r1.1;omega) (fun i hi=>by rw [Nat.zero_add];exact r1.2 i hi)
 obtain ⟨w,l,hw,w1,w2⟩:=v3.tail
 obtain rfl:=List.eq_nil_of_length_eq_zero w2.1.symm
 subst hw
 obtain ⟨ws,rfl,w3⟩:=w1.fnL
 obtain ⟨x1,l1,rfl,y1,w3⟩:=w3.tail
 obtain ⟨x2,l2,rfl,y2,w3⟩:=w3.tail
 obtain ⟨x3,l3,rfl,y3,w3⟩:=w3.tail
 obtain rfl:=List.eq_nil_of_length_eq_zero w3.1.symm
 obtain rfl:=y1.opAt g1
 obtain rfl:=y2.opAt g2
 obtain rfl:=y3.opAt g3
 have c3:∀dep,V σ hf3 nx (vtT f (.rp us) (.vp [.os sz k 0 n]) dep) (.pointer (some ⟨a3,0,none⟩)):=by
  intro dep
  induction dep with
  | zero=>exact .any _
  | succ dep ih=>exact .vp _ 0 f3 (by simp) (fun i hi=>by
    obtain rfl:i=0:=by simpa using hi
    exact (VL.cons c1 (VL.cons c2 (VL.cons ih (VL.nil _ _ _)))).toFn f)
 refine ⟨σ,hf3,own3,s3.told fun t=> ?_⟩
 simp only [gE]
 split
 ·rename_i e;subst e
  have:=hs.env t
  rw [e1] at this
  rw [this.opAt g1];exact c1
 ·split
  ·rename_i e;subst e
   have:=hs.env t
   rw [e2] at this
   rw [this.opAt g2];exact c2
  ·split
   ·rename_i e;subst e
    have:=hs.env t
    rw [e3] at this
    rw [this.opAt g3];exact c3 dep
   ·exact s3.env t
section
variable {call : QX} {P : Program} {π c i : Nat} {ops : Array Oper}
theorem QeT : ∀(l1 l2:List Oper) (i:Nat) (s:St),QbV call P π ops (l1++l2) i s=(QbV call P π ops l1 i s).bind (QbV call P π ops l2 (i+l1.length))
 | [],l2,i,s=>by simp [QbV]
 | o::r,l2,i,s=>by
  rw [List.cons_append,QbV,QbV]
  cases hx:QfW call P π ops i o s with
  | none=>rfl
  | some s1 =>
   rw [Option.bind_some,Option.bind_some,QeT r l2,List.length_cons,show i+1+r.length=i+(r.length+1) by omega]
theorem RunO.app {l1 l2:List Oper} {E:Nat→Value} {h:AH} {K:(Nat→Value)→AH→Prop} (h1:RunO call P π ops c l1 i E h (fun E' h'=>RunO call P π ops c l2 (i+l1.length) E' h' K)):RunO call P π ops c (l1++l2) i E h K:=by
 unfold RunO at h1 ⊢
 intro hf
 obtain ⟨s1,e1,e2,e3,e4⟩:=h1 hf
 obtain ⟨s2,f1,f2,f3,f4⟩:=e4 e3
 refine ⟨s2,?_,f2,?_,f4⟩
 ·rw [QeT,e1,Option.bind_some,← f1]
  obtain ⟨E1,h1',c1⟩:=s1
  simp only at e2
  subst e2
  rfl
 ·rw [List.length_append,← Nat.add_assoc i]
  exact f3
end
def Qok (ds:List Nat) (E:Zh):Zh:=(ds.map fun e=>(e,T.any))++E
inductive JE (E:Zh) (ds:List Nat):Zh→Prop
 | nil:JE E ds E
 | cons {E1:Zh} {e:Nat} {t:T} (he:ds.contains e=true) (h:JE E ds E1):JE E ds ((e,t)::E1)
theorem jn {E:Zh} {ds:List Nat}:JE E ds E:= .nil
theorem js {E E1:Zh} {ds:List Nat} {e:Nat} {t:T} (he:ds.contains e=true) (h:JE E ds E1):JE E ds ((e,t)::E1):= .cons he h
theorem Qkq (E:Zh) (t:Nat):∀ds:List Nat,gE (Qok ds E) t=if ds.contains t then .any else gE E t
 | []=>rfl
 | e::r=>by
  have ih:=Qkq E t r
  unfold Qok at ih ⊢
  simp only [List.map_cons,List.cons_append,gE,ih,List.contains_cons]
  by_cases h:t=e
  ·simp [h]
  ·have:(t == e)=false:=by simp [h]
   simp [h]
theorem JE.off {E E1:Zh} {ds:List Nat} (h:JE E ds E1) {t:Nat} (ht:ds.contains t=false):gE E1 t=gE E t:=by
 induction h with
 | nil=>rfl
 | cons he _ ih =>
  rename_i e _ _
  have:¬t=e:=fun x=>by rw [x,he] at ht;cases ht
  simp only [gE,if_neg this,ih]
def JQ (E:Zh) (O:QM) (nx:Nat) (ds:List Nat) (d:Nat) (b:T) (E1:Zh) (O1:QM) (nx1:Nat):Prop:=O1=O∧nx1=nx∧∃E2,E1=(d,b)::E2∧JE E ds E2
theorem jq {E E2:Zh} {O:QM} {nx d:Nat} {ds:List Nat} {b v:T} (hv:v=b) (h:JE E ds E2):JQ E O nx ds d b ((d,v)::E2) O nx:=⟨rfl,rfl,E2,by rw [hv],h⟩
theorem VRunO.joinB {call:QX} {P:Program} {ops:Array Oper} {l:List Oper} {E:Zh} {O:QM} {nx:Nat} {K:Zh→QM→Nat→Prop} (m:Nat) (ds:List Nat) (d:Nat) (b:T) (h1:VRunO call P ops (l.take m) E O nx (JQ E O nx ds d b)) (h2:VRunO call P ops (l.drop m) ((d,b)::Qok ds E) O nx K):VRunO call P ops l E O nx K:=by
 unfold VRunO at h1 h2 ⊢
 intro p h0 σ hf own Ea h c i hs
 rw [← List.take_append_drop m l]
 refine RunO.app ?_
 have h3:=h1 p h0 σ hf own Ea h c i hs
 unfold RunO at h3 ⊢
 intro hfc
 obtain ⟨s',e1,e2,e3,σ',hf',own',E1,O1,nx1,e4,rfl,rfl,E2,rfl,e5⟩:=h3 hfc
 have h4:=h2 p h0 σ' hf' own' s'.E s'.h c (i+(l.take m).length) (e4.told fun t=> ?_)
 ·unfold RunO at h4
  exact ⟨s',e1,e2,e3,h4⟩
 have h6:=e4.env t
 simp only [gE] at h6 ⊢
 split
 ·rename_i e
  simpa only [e,if_true] using h6
 ·rename_i e
  rw [if_neg e] at h6
  rw [Qkq]
  split
  ·exact .any _
  ·rename_i hc
   rwa [e5.off (by simpa using hc)] at h6
section
variable {c v : Bool} {C Q : Prop} [Decidable C] [Decidable Q]
theorem jOT (hc:c=decide C) (h:c=true):true=decide (C∨Q):=by
 have:C:=of_decide_eq_true (hc▸h)
 simp [this]
theorem jOF (hc:c=decide C) (h:c=false) (hv:v=decide Q):v=decide (C∨Q):=by
 have:¬C:=of_decide_eq_false (hc▸h)
 simp [hv,this]
theorem dN : (!decide C)=decide (¬C):=by by_cases h:C<;>simp [h]
theorem dT (x:Bool):x=decide (x=true):=by cases x<;>rfl
end
section
variable {C Q R : Prop} {v : Bool}
theorem dy [Decidable C] (h:C):decide C=true:=decide_eq_true h
theorem dz [Decidable C] (h:¬C):decide C=false:=decide_eq_false h
theorem ny [Decidable C] (h:¬C):(!decide C)=true:=by simp [h]
theorem nz [Decidable C] (h:C):(!decide C)=false:=by simp [h]
theorem kAT [Decidable C] [Decidable Q] (h:C) (hv:v=decide Q):v=decide (C∧Q):=by simp [hv,h]
theorem kAF [Decidable C] [Decidable Q] (h:¬C):false=decide (C∧Q):=by simp [h]
theorem kOT [Decidable C] [Decidable Q] (h:C):true=decide (C∨Q):=by simp [h]
theorem kOF [Decidable C] [Decidable Q] (h:¬C) (hv:v=decide Q):v=decide (C∨Q):=by simp [hv,h]
theorem gw (C:Prop) (ht:C→R) (hf:¬C→R):R:=(Classical.em C).elim ht hf
theorem gn (C:Prop) (ht:¬C→R) (hf:C→R):R:=(Classical.em C).elim hf ht
theorem cd {call:QX} {P:Program} {E:Zh} {O:QM} {nx:Nat} {S:AX→Zh→QM→Nat→Prop} {x y:Code} {a:Tmp} (C:Prop) [Decidable C] (h:gE E a= .bool (decide C)) (ht:C→VRun call P x E O nx S) (hf:¬C→VRun call P y E O nx S):VRun call P (.cond (.tmp a) x y) E O nx S:=VRun.cond (VEv.tmp h) (fun e=>ht (of_decide_eq_true e)) (fun e=>hf (of_decide_eq_false e))
theorem cn {call:QX} {P:Program} {E:Zh} {O:QM} {nx:Nat} {S:AX→Zh→QM→Nat→Prop} {x y:Code} {a:Tmp} (C:Prop) [Decidable C] (h:gE E a= .bool (!decide C)) (ht:¬C→VRun call P x E O nx S) (hf:C→VRun call P y E O nx S):VRun call P (.cond (.tmp a) x y) E O nx S:=VRun.cond (VEv.tmp h) (fun e=>ht (by simpa using e)) (fun e=>hf (by simpa using e))
end
theorem lb {a b:Nat} (h:Nat.ble a b=true):a≤b:=Nat.le_of_ble_eq_true h
theorem bn {α:Type} {p:α→Prop}:∀x∈([]:List α),p x:=Ze
theorem bc {α:Type} {p:α→Prop} {a:α} {l:List α} (h:p a) (hr:∀x∈l,p x):∀x∈a::l,p x:=Qh h hr
theorem b2 {α:Type} {p:α→Prop} {a:α} {l:List α} (hr:∀x∈l,p x) (h:p a:=by exact ⟨rfl,rfl⟩):∀x∈a::l,p x:=Qh h hr
theorem b3 {α:Type} {p:α→Prop} {a:α} {l:List α} (hr:∀x∈l,p x) (h:p a:=by exact ⟨rfl,lb Y,rfl⟩):∀x∈a::l,p x:=Qh h hr
theorem Qz : Zk=1099511627776∧mx=1048576∧maxLen=9223372036854775807:=⟨rfl,rfl,rfl⟩
theorem Qaz {α:Type} {l:List α} {i:Nat} (z:α) (h:i<l.length):l[i]? =some (l[i]?.getD z):=by rw [List.getElem?_eq_getElem h,Option.getD_some]
abbrev LO := List (Nat×List (List T))
def ix : List Nat→Nat→Option Nat
 | [],_=>none
 | a::r,k=>if k=a then some 0 else (ix r k).map (· +1)
theorem B.storeW {call:QX} {P:Program} {E:Zh} {O:QM} {nx:Nat} {d:Option Tmp} {ty tt:TypeId} {ps:String} {af:Array Edge} {g:Option (Nat×Bool)} {x y:Operand} {t:T} {k:Nat} {ts us:List T} (hx:VEv E x (.op k 0)) (hy:VEv E y t) (ht:t≠ .any) (hk:gO O k=some (.cells ts)) (hus:Zj t=us) (hl:us.length=ts.length) (hif:(P.info? tt).isSome=true) (hn:P.cellsOf tt=us.length) (hc:∀a∈us,JU a=true) :
  OC call P E O nx ⟨d, .store tt x y,ty,ps,af,g⟩ .any ((k,some (.cells us))::O) nx [k]:=B.storeO hx hy ht hk hus (by omega) hif hn hc (by simp [spl,hl])
section
variable {call : QX} {P : Program} {E : Zh} {O : QM} {nx : Nat} {S : AX → Zh → QM → Nat → Prop} {u v : Code} {c : Tmp}
theorem ct (h:gE E c= .bool true) (hx:VRun call P u E O nx S):VRun call P (.cond (.tmp c) u v) E O nx S:=VRun.cond (VEv.tmp h) (fun _=>hx) (fun e=>absurd e (by decide))
theorem cf (h:gE E c= .bool false) (hx:VRun call P v E O nx S):VRun call P (.cond (.tmp c) u v) E O nx S:=VRun.cond (VEv.tmp h) (fun e=>absurd e (by decide)) (fun _=>hx)
theorem ck {b:Bool} (hb:b=true) (h:gE E c= .bool b) (hx:VRun call P u E O nx S):VRun call P (.cond (.tmp c) u v) E O nx S:=ct (hb▸h) hx
theorem cg {b:Bool} (hb:b=false) (h:gE E c= .bool b) (hx:VRun call P v E O nx S):VRun call P (.cond (.tmp c) u v) E O nx S:=cf (hb▸h) hx
theorem vn : VEvs E [] []:= .nil
theorem ln : LendL O [] []:=LendL.nil
theorem Zg : ∀ {ts:List T},ts.all Qap=true→LendL O ts ts
 | [],_=>LendL.nil
 | t::r,h=>by
  simp only [List.all_cons,Bool.and_eq_true] at h
  exact LendL.cons (Lend.pl h.1) (Zg h.2)
def Qoq : List Nat→Bool
 | []=>true
 | a::r=> !(r.contains a) && Qoq r
theorem nd : ∀ {l:List Nat},Qoq l=true→l.Nodup
 | [],_=>List.nodup_nil
 | a::r,h=>by
  simp only [Qoq,Bool.and_eq_true] at h
  exact List.nodup_cons.2 ⟨by simpa using h.1,nd h.2⟩
end
section
variable {call : QX} {P : Program} {E : Zh} {O : QM} {d : Option Tmp} {ty tt xt : TypeId} {ps : String} {af : Array Edge} {g : Option (Nat × Bool)} {x y : Operand} {kk : IntKind} {a b : Int} {m n : Nat}
theorem xls (hx:VEv E x (.int kk a)) (hy:VEv E y (.int kk b)):OF call P E ⟨d, .binOp .lss tt x y xt,ty,ps,af,g⟩ (.bool (decide (a<b))):=B.lss hx hy Y
theorem xle (hx:VEv E x (.int kk a)) (hy:VEv E y (.int kk b)):OF call P E ⟨d, .binOp .leq tt x y xt,ty,ps,af,g⟩ (.bool (decide (a≤b))):=B.leq hx hy Y
theorem xgt (hx:VEv E x (.int kk a)) (hy:VEv E y (.int kk b)):OF call P E ⟨d, .binOp .gtr tt x y xt,ty,ps,af,g⟩ (.bool (decide (b<a))):=B.gtr hx hy Y
theorem xge (hx:VEv E x (.int kk a)) (hy:VEv E y (.int kk b)):OF call P E ⟨d, .binOp .geq tt x y xt,ty,ps,af,g⟩ (.bool (decide (b≤a))):=B.geq hx hy Y
theorem Yn (hx:VEv E x (.int kk a)) (hy:VEv E y (.int kk b)):OF call P E ⟨d, .binOp .eql tt x y xt,ty,ps,af,g⟩ (.bool (decide (a=b))):=B.eql hx hy Y
theorem xne (hx:VEv E x (.int kk a)) (hy:VEv E y (.int kk b)):OF call P E ⟨d, .binOp .neq tt x y xt,ty,ps,af,g⟩ (.bool (!decide (a=b))):=B.neq hx hy Y
theorem Q9 (hx:VEv E x (tN m)) (hy:VEv E y (tN n)):OF call P E ⟨d, .binOp .lss tt x y xt,ty,ps,af,g⟩ (.bool (decide (m<n))):=B.lss hx hy (Qt (by omega))
theorem Qll (hx:VEv E x (tN m)) (hy:VEv E y (tN n)):OF call P E ⟨d, .binOp .eql tt x y xt,ty,ps,af,g⟩ (.bool (decide (m=n))):=B.eql hx hy (Qt (by omega))
theorem Qjw (hx:VEv E x (tN m)) (hy:VEv E y (tN n)):OF call P E ⟨d, .binOp .neq tt x y xt,ty,ps,af,g⟩ (.bool (!decide (m=n))):=B.neq hx hy (congrArg (!·) (Qt (by omega)))
theorem QU {b1:Bool} (hx:VEv E x (.bool b1)):OF call P E ⟨d, .unOp .not tt x,ty,ps,af,g⟩ (.bool (!b1)):=B.not hx Y
theorem QB (hx:VEv E x (tN m)) (hy:VEv E y (.int .i64 1)) (h:m+1<9223372036854775808):OF call P E ⟨d, .binOp .add tt x y xt,ty,ps,af,g⟩ (tN (m+1)):=B.add hx hy (by rw [Qs (by omega)];omega)
theorem xcv {k0 kd:IntKind} {st dt:TypeId} {m:Int} (hx:VEv E x (.int k0 a)) (h1:P.underlying st=some (.int k0)) (h2:P.underlying dt=some (.int kd)) (he:kd.wrap a=m):OF call P E ⟨d, .convert st dt x,ty,ps,af,g⟩ (.int kd m):=he▸OF.convI hx h1 h2
theorem xix {s:ByteArray} (hx:VEv E x (.str s)) (hy:VEv E y (tN m)) (hi:m<s.size) (hu:P.underlying tt=some .string):OF call P E ⟨d, .index tt x y,ty,ps,af,g⟩ (.int .u8 (Qy s m)):=B.index hx hy Y hi hu (YZ hi)
end
section
variable {call : QX} {P : Program} {ops : Array Oper} {l : List Oper} {E : Zh} {O : QM} {nx : Nat} {K : Zh → QM → Nat → Prop} {d1 a : Nat} {d2 : Option Tmp} {ty1 ty2 tt tt2 : TypeId} {ps1 ps2 : String} {af1 af2 : Array Edge} {j k o off : Nat} {us : List T}
theorem Qfr (E:Zh) (n:Nat) (t:T):gE ((n,t)::E) n=t:=by simp [gE]
theorem lf (t:T) (h:gE E a= .op k o) (fa:∀k o,Qf P tt (.pointer (some ⟨k,o,none⟩)) j=some (.pointer (some ⟨k,o+off,none⟩))) (hk:gO O k=some (.cells us)) (ht:us[o+off]? =some t) (hst:QA P tt2=some false) (hK:VRunO call P ops l (pE ((d1, .op k (o+off))::E) d2 t) O nx K) :
  VRunO call P ops (⟨some d1, .fieldAddr tt (.tmp a) j,ty1,ps1,af1,none⟩::⟨d2, .load tt2 (.tmp d1),ty2,ps2,af2,none⟩::l) E O nx K:=fO (OF.fieldAddrO (VEv.tmp h) fa) (lO (OL.loadO1 (VEv.tmp (Qfr _ _ _)) hk ht hst) hK)
theorem lr (t:T) (h:gE E a= .rp us) (hn:off≤us.length) (fa:∀k o,Qf P tt (.pointer (some ⟨k,o,none⟩)) j=some (.pointer (some ⟨k,o+off,none⟩))) (ht:(us.drop off)[0]? =some t) (hst:QA P tt2=some false) (hK:VRunO call P ops l (pE ((d1, .rp (us.drop off))::E) d2 t) O nx K) :
  VRunO call P ops (⟨some d1, .fieldAddr tt (.tmp a) j,ty1,ps1,af1,none⟩::⟨d2, .load tt2 (.tmp d1),ty2,ps2,af2,none⟩::l) E O nx K:=fO (B.fieldAddrR (VEv.tmp h) hn fa Y) (lO (OL.loadR1 (VEv.tmp (Qfr _ _ _)) ht hst) hK)
variable {i q : Nat} {w b : Bool} {t0 : T}
theorem Yk (t:T) (hb:b=w) (hd:(ops[i]?).bind (·.dst)=some q) (hq:gE E q= .bool b) (hne:(q == d1)=false) (h:gE E a= .op k o) (fa:∀k o,Qf P tt (.pointer (some ⟨k,o,none⟩)) j=some (.pointer (some ⟨k,o+off,none⟩))) (hk:gO O k=some (.cells us)) (ht:us[o+off]? =some t) (hst:QA P tt2=some false) (hK:VRunO call P ops l (pE ((d1, .op k (o+off))::E) d2 t) O nx K) :
  VRunO call P ops (⟨some d1, .fieldAddr tt (.tmp a) j,ty1,ps1,af1,some (i,w)⟩::⟨d2, .load tt2 (.tmp d1),ty2,ps2,af2,some (i,w)⟩::l) E O nx K:=gF hb hd hq (OF.fieldAddrO (VEv.tmp h) fa) (gL hb hd ((QjK E hne _).trans hq) (OL.loadO1 (VEv.tmp (Qfr _ _ _)) hk ht hst) hK)
theorem glr (t:T) (hb:b=w) (hd:(ops[i]?).bind (·.dst)=some q) (hq:gE E q= .bool b) (hne:(q == d1)=false) (h:gE E a= .rp us) (hn:off≤us.length) (fa:∀k o,Qf P tt (.pointer (some ⟨k,o,none⟩)) j=some (.pointer (some ⟨k,o+off,none⟩))) (ht:(us.drop off)[0]? =some t) (hst:QA P tt2=some false) (hK:VRunO call P ops l (pE ((d1, .rp (us.drop off))::E) d2 t) O nx K) :
  VRunO call P ops (⟨some d1, .fieldAddr tt (.tmp a) j,ty1,ps1,af1,some (i,w)⟩::⟨d2, .load tt2 (.tmp d1),ty2,ps2,af2,some (i,w)⟩::l) E O nx K:=gF hb hd hq (B.fieldAddrR (VEv.tmp h) hn fa Y) (gL hb hd ((QjK E hne _).trans hq) (OL.loadR1 (VEv.tmp (Qfr _ _ _)) ht hst) hK)
def Qlx (i:Nat) (w:Bool) (q:Nat):List Oper→Bool
 | []=>true
 | o::r=>(match o.guard with | some (a,b)=>Nat.beq a i && (b == w) | none=>false) && (match o.dst with | some d=> !(Nat.beq d q) | none=>true) && Qlx i w q r
def Qno (E:Zh):List Oper→Zh
 | []=>E
 | o::r=>Qno (pE E o.dst (.tup [])) r
theorem Qpo (hd:(ops[i]?).bind (·.dst)=some q) (hv:∀(dd:Option Tmp) (op:Op) (ty:TypeId) (ps:String) (af:Array Edge) (E:Zh),gE E q=t0→VWant ops E ⟨dd,op,ty,ps,af,some (i,w)⟩ false) {l2:List Oper} (l1:List Oper):∀(E:Zh),Qlx i w q l1=true→gE E q=t0→VRunO call P ops l2 (Qno E l1) O nx K→VRunO call P ops (l1++l2) E O nx K:=by
 induction l1 with
 | nil=>exact fun E _ _ hK=>hK
 | cons o r ih =>
  intro E hc hq hK
  obtain ⟨dd,op,ty,ps,af,g⟩:=o
  simp only [Qlx,Bool.and_eq_true] at hc
  obtain ⟨⟨h1,h2⟩,h3⟩:=hc
  cases g with
  | none=>cases h1
  | some g =>
   obtain ⟨a,b⟩:=g
   simp only [Bool.and_eq_true] at h1
   have e1:a=i:=Nat.eq_of_beq_eq_true h1.1
   have e2:b=w:=by simpa using h1.2
   subst e1
   subst e2
   refine VRunO.off (hv _ _ _ _ _ _ hq) (ih _ h3 ?_ hK)
   cases dd with
   | none=>exact hq
   | some d =>
    refine (QjK E (d:=d) (t:=q) ?_ _).trans hq
    rw [beq_eq_false_iff_ne]
    rintro rfl
    simp at h2
theorem QD (m i:Nat) (w:Bool) (q:Nat) (hb:b= !w) (hd:(ops[i]?).bind (·.dst)=some q) (hq:gE E q= .bool b) (hc:Qlx i w q (l.take m)=true) (hK:VRunO call P ops (l.drop m) (Qno E (l.take m)) O nx K):VRunO call P ops l E O nx K:=by
 rw [← List.take_append_drop m l]
 exact Qpo hd (fun _ _ _ _ _ _ h=>VWant.not hd h hb) _ _ hc hq hK
theorem QaX (m i:Nat) (w:Bool) (q:Nat) (hd:(ops[i]?).bind (·.dst)=some q) (hq:gE E q= .tup []) (hc:Qlx i w q (l.take m)=true) (hK:VRunO call P ops (l.drop m) (Qno E (l.take m)) O nx K):VRunO call P ops l E O nx K:=by
 rw [← List.take_append_drop m l]
 exact Qpo hd (fun _ _ _ _ _ _ h=>VWant.undef hd h) _ _ hc hq hK
end
structure D.Grid where
 Rows:Int
 Cols:Int
 Cells:ByteArray
def Ql3 : AK D.Grid:=AK.iso (AK.pair (AK.int .i64) (AK.pair (AK.int .i64) AK.string)) (fun x=>(x.Rows,x.Cols,x.Cells))
def Qmt (x:D.Grid):Prop:=((Lit.int .i64 x.Rows).wf=true)∧((Lit.int .i64 x.Cols).wf=true)∧(x.Cells.size≤maxLen)
structure D.Step where
 Kind:Int
 Word:ByteArray
 A:Int
 B:Int
def Qmi : AK D.Step:=AK.iso (AK.pair (AK.int .i64) (AK.pair AK.string (AK.pair (AK.int .i64) (AK.int .i64)))) (fun x=>(x.Kind,x.Word,x.A,x.B))
def QkB (x:D.Step):Prop:=((Lit.int .i64 x.Kind).wf=true)∧(x.Word.size≤maxLen)∧((Lit.int .i64 x.A).wf=true)∧((Lit.int .i64 x.B).wf=true)
structure D.Clue where
 Sense:Int
 Play:_root_.List D.Step
def Qkz : AK D.Clue:=AK.iso (AK.pair (AK.int .i64) (AK.slice Qmi)) (fun x=>(x.Sense,x.Play))
def QiK (x:D.Clue):Prop:=((Lit.int .i64 x.Sense).wf=true)∧((x.Play.length≤maxLen∧∀y∈x.Play,QkB y))
structure D.Puzzle where
 Grid:D.Grid
 Clues:_root_.List D.Clue
 Seals:_root_.List Int
 Salt:Int
def QhK : AK D.Puzzle:=AK.iso (AK.pair Ql3 (AK.pair (AK.slice Qkz) (AK.pair (AK.slice (AK.int .i64)) (AK.int .i64)))) (fun x=>(x.Grid,x.Clues,x.Seals,x.Salt))
def QhV (x:D.Puzzle):Prop:=(Qmt x.Grid)∧((x.Clues.length≤maxLen∧∀y∈x.Clues,QiK y))∧((x.Seals.length≤maxLen∧∀y∈x.Seals,(Lit.int .i64 y).wf=true))∧((Lit.int .i64 x.Salt).wf=true)
structure D.Issue where
 Number:Int
 Puzzle:D.Puzzle
 Fill:ByteArray
 Open:Int
 Close:Int
def QlL : AK D.Issue:=AK.iso (AK.pair (AK.int .i64) (AK.pair QhK (AK.pair AK.string (AK.pair (AK.int .i64) (AK.int .i64))))) (fun x=>(x.Number,x.Puzzle,x.Fill,x.Open,x.Close))
def QjW (x:D.Issue):Prop:=((Lit.int .i64 x.Number).wf=true)∧(QhV x.Puzzle)∧(x.Fill.size≤maxLen)∧((Lit.int .i64 x.Open).wf=true)∧((Lit.int .i64 x.Close).wf=true)
structure D.Correction where
 Issue:Int
 Slot:Int
 Clue:D.Clue
 Tick:Int
def QeS : AK D.Correction:=AK.iso (AK.pair (AK.int .i64) (AK.pair (AK.int .i64) (AK.pair Qkz (AK.int .i64)))) (fun x=>(x.Issue,x.Slot,x.Clue,x.Tick))
def QbW (x:D.Correction):Prop:=((Lit.int .i64 x.Issue).wf=true)∧((Lit.int .i64 x.Slot).wf=true)∧(QiK x.Clue)∧((Lit.int .i64 x.Tick).wf=true)
structure D.Meaning where
 Word:ByteArray
 Sense:Int
def Qi4 : AK D.Meaning:=AK.iso (AK.pair AK.string (AK.int .i64)) (fun x=>(x.Word,x.Sense))
def Qdl (x:D.Meaning):Prop:=(x.Word.size≤maxLen)∧((Lit.int .i64 x.Sense).wf=true)
structure D.Slot where
 Number:Int
 Down:Bool
 Cell:Int
 Length:Int
theorem QpG : YQ Tryz.prog 24 Ql3 Qmt:=YB (Z6 (P:=Tryz.prog) (t:=24) (fun x:D.Grid=>(x.Rows,x.Cols,x.Cells)) (fun x=>⟨x.1,x.2.1,x.2.2⟩) (fun _=>rfl) Tryz.underlying24 (by kernel_rfl) (Q3 Y (by kernel_rfl) (Zu (k:= .i64) Tryz.underlying3) (Q3 Y (by kernel_rfl) (Zu (k:= .i64) Tryz.underlying3) (YG Y (by kernel_rfl) (YT Tryz.underlying9))))) (fun _ h=>h)
theorem Qo8 : YQ Tryz.prog 142 Qmi QkB:=YB (Z6 (P:=Tryz.prog) (t:=142) (fun x:D.Step=>(x.Kind,x.Word,x.A,x.B)) (fun x=>⟨x.1,x.2.1,x.2.2.1,x.2.2.2⟩) (fun _=>rfl) Tryz.underlying142 (by kernel_rfl) (Q3 Y (by kernel_rfl) (Zu (k:= .i64) Tryz.underlying3) (Q3 Y (by kernel_rfl) (YT Tryz.underlying9) (Q3 Y (by kernel_rfl) (Zu (k:= .i64) Tryz.underlying3) (YG Y (by kernel_rfl) (Zu (k:= .i64) Tryz.underlying3)))))) (fun _ h=>h)
theorem Qo3 : YQ Tryz.prog 51 Qkz QiK:=YB (Z6 (P:=Tryz.prog) (t:=51) (fun x:D.Clue=>(x.Sense,x.Play)) (fun x=>⟨x.1,x.2⟩) (fun _=>rfl) Tryz.underlying51 (by kernel_rfl) (Q3 Y (by kernel_rfl) (Zu (k:= .i64) Tryz.underlying3) (YG Y (by kernel_rfl) (Je Tryz.underlying49 (by kernel_rfl) (of_decide_eq_true (by kernel_rfl)) Qo8)))) (fun _ h=>h)
theorem QpJ : YQ Tryz.prog 28 QhK QhV:=YB (Z6 (P:=Tryz.prog) (t:=28) (fun x:D.Puzzle=>(x.Grid,x.Clues,x.Seals,x.Salt)) (fun x=>⟨x.1,x.2.1,x.2.2.1,x.2.2.2⟩) (fun _=>rfl) Tryz.underlying28 (by kernel_rfl) (Q3 Y (by kernel_rfl) QpG (Q3 Y (by kernel_rfl) (Je Tryz.underlying25 (by kernel_rfl) (of_decide_eq_true (by kernel_rfl)) Qo3) (Q3 Y (by kernel_rfl) (Je Tryz.underlying26 (by kernel_rfl) (of_decide_eq_true (by kernel_rfl)) (Zu (k:= .i64) Tryz.underlying3)) (YG Y (by kernel_rfl) (Zu (k:= .i64) Tryz.underlying3)))))) (fun _ h=>h)
theorem QpV : YQ Tryz.prog 48 QlL QjW:=YB (Z6 (P:=Tryz.prog) (t:=48) (fun x:D.Issue=>(x.Number,x.Puzzle,x.Fill,x.Open,x.Close)) (fun x=>⟨x.1,x.2.1,x.2.2.1,x.2.2.2.1,x.2.2.2.2⟩) (fun _=>rfl) Tryz.underlying48 (by kernel_rfl) (Q3 Y (by kernel_rfl) (Zu (k:= .i64) Tryz.underlying3) (Q3 Y (by kernel_rfl) QpJ (Q3 Y (by kernel_rfl) (YT Tryz.underlying9) (Q3 Y (by kernel_rfl) (Zu (k:= .i64) Tryz.underlying3) (YG Y (by kernel_rfl) (Zu (k:= .i64) Tryz.underlying3))))))) (fun _ h=>h)
theorem QpQ : YQ Tryz.prog 53 QeS QbW:=YB (Z6 (P:=Tryz.prog) (t:=53) (fun x:D.Correction=>(x.Issue,x.Slot,x.Clue,x.Tick)) (fun x=>⟨x.1,x.2.1,x.2.2.1,x.2.2.2⟩) (fun _=>rfl) Tryz.underlying53 (by kernel_rfl) (Q3 Y (by kernel_rfl) (Zu (k:= .i64) Tryz.underlying3) (Q3 Y (by kernel_rfl) (Zu (k:= .i64) Tryz.underlying3) (Q3 Y (by kernel_rfl) Qo3 (YG Y (by kernel_rfl) (Zu (k:= .i64) Tryz.underlying3)))))) (fun _ h=>h)
theorem QpS : YQ Tryz.prog 81 Qi4 Qdl:=YB (Z6 (P:=Tryz.prog) (t:=81) (fun x:D.Meaning=>(x.Word,x.Sense)) (fun x=>⟨x.1,x.2⟩) (fun _=>rfl) Tryz.underlying81 (by kernel_rfl) (Q3 Y (by kernel_rfl) (YT Tryz.underlying9) (YG Y (by kernel_rfl) (Zu (k:= .i64) Tryz.underlying3)))) (fun _ h=>h)
theorem QS : QA Tryz.prog 3=some false:=by kernel_rfl
theorem ZJ : Tryz.prog.cellsOf 3=1:=by kernel_rfl
theorem Y8 : (Tryz.prog.info? 3).isSome=true:=by kernel_rfl
theorem zo3 : Zl Tryz.prog 3=some (.int .i64 0):=by kernel_rfl
theorem zc3 : closedV (.int .i64 0)=true:=by kernel_rfl
theorem st4 : QA Tryz.prog 4=some false:=by kernel_rfl
theorem sz4 : Tryz.prog.cellsOf 4=1:=by kernel_rfl
theorem if4 : (Tryz.prog.info? 4).isSome=true:=by kernel_rfl
theorem zo4 : Zl Tryz.prog 4=some (.bool false):=by kernel_rfl
theorem zc4 : closedV (.bool false)=true:=by kernel_rfl
theorem st5 : QA Tryz.prog 5=some false:=by kernel_rfl
theorem sz5 : Tryz.prog.cellsOf 5=1:=by kernel_rfl
theorem if5 : (Tryz.prog.info? 5).isSome=true:=by kernel_rfl
theorem zo5 : Zl Tryz.prog 5=some (.int .u8 0):=by kernel_rfl
theorem ZG : QA Tryz.prog 9=some false:=by kernel_rfl
theorem Ji : Tryz.prog.cellsOf 9=1:=by kernel_rfl
theorem if9 : (Tryz.prog.info? 9).isSome=true:=by kernel_rfl
theorem zo9 : Zl Tryz.prog 9=some (.string ByteArray.empty):=by kernel_rfl
theorem zc9 : closedV (.string ByteArray.empty)=true:=by kernel_rfl
theorem Qpn : QA Tryz.prog 24=some true:=by kernel_rfl
theorem Qoe : Tryz.prog.cellsOf 24=3:=by kernel_rfl
theorem QpP : (Tryz.prog.info? 24).isSome=true:=by kernel_rfl
theorem Qpe : QA Tryz.prog 25=some false:=by kernel_rfl
theorem QpH : Tryz.prog.cellsOf 25=1:=by kernel_rfl
theorem QpW : (Tryz.prog.info? 25).isSome=true:=by kernel_rfl
theorem QeD : QA Tryz.prog 26=some false:=by kernel_rfl
theorem Qg2 : Tryz.prog.cellsOf 26=1:=by kernel_rfl
theorem QjR : (Tryz.prog.info? 26).isSome=true:=by kernel_rfl
theorem Qpv : Zl Tryz.prog 26=some (.slice none 0 0):=by kernel_rfl
theorem Qpu : QA Tryz.prog 28=some true:=by kernel_rfl
theorem Qos : Tryz.prog.cellsOf 28=6:=by kernel_rfl
theorem QpX : (Tryz.prog.info? 28).isSome=true:=by kernel_rfl
theorem Q6 : QA Tryz.prog 36=some true:=by kernel_rfl
theorem Q0 : Tryz.prog.cellsOf 36=3:=by kernel_rfl
theorem QjU : (Tryz.prog.info? 36).isSome=true:=by kernel_rfl
theorem Qk2 : Zl Tryz.prog 36=some (.agg #[.int .i64 0, .int .i64 0, .string ByteArray.empty]):=by kernel_rfl
theorem QmW : closedV (.agg #[.int .i64 0, .int .i64 0, .string ByteArray.empty])=true:=by kernel_rfl
theorem QgO : QA Tryz.prog 37=some false:=by kernel_rfl
theorem Qps : Tryz.prog.cellsOf 37=1:=by kernel_rfl
theorem Qo1 : (Tryz.prog.info? 37).isSome=true:=by kernel_rfl
theorem Qjj : QA Tryz.prog 39=some true:=by kernel_rfl
theorem QfT : Tryz.prog.cellsOf 39=6:=by kernel_rfl
theorem QoD : (Tryz.prog.info? 39).isSome=true:=by kernel_rfl
theorem Qpy : Zl Tryz.prog 39=some (.agg #[.int .i64 0, .int .i64 0, .string ByteArray.empty, .slice none 0 0, .slice none 0 0, .int .i64 0]):=by kernel_rfl
theorem Qpg : closedV (.agg #[.int .i64 0, .int .i64 0, .string ByteArray.empty, .slice none 0 0, .slice none 0 0, .int .i64 0])=true:=by kernel_rfl
theorem QpI : QA Tryz.prog 41=some false:=by kernel_rfl
theorem QmM : QA Tryz.prog 48=some true:=by kernel_rfl
theorem Qnd : Tryz.prog.cellsOf 48=10:=by kernel_rfl
theorem Qpw : QA Tryz.prog 49=some false:=by kernel_rfl
theorem QpK : Tryz.prog.cellsOf 49=1:=by kernel_rfl
theorem QpT : (Tryz.prog.info? 49).isSome=true:=by kernel_rfl
theorem Qnl : QA Tryz.prog 51=some true:=by kernel_rfl
theorem QjE : Tryz.prog.cellsOf 51=2:=by kernel_rfl
theorem Qoz : (Tryz.prog.info? 51).isSome=true:=by kernel_rfl
theorem Qm2 : QA Tryz.prog 53=some true:=by kernel_rfl
theorem Qnn : Tryz.prog.cellsOf 53=5:=by kernel_rfl
theorem Qli : QA Tryz.prog 60=some true:=by kernel_rfl
theorem Qi0 : Tryz.prog.cellsOf 60=10:=by kernel_rfl
theorem QoZ : (Tryz.prog.info? 60).isSome=true:=by kernel_rfl
theorem QnL : Zl Tryz.prog 60=some (.agg #[.int .i64 0, .int .i64 0, .int .i64 0, .string ByteArray.empty, .slice none 0 0, .slice none 0 0, .int .i64 0, .string ByteArray.empty, .int .i64 0, .int .i64 0]):=by kernel_rfl
theorem QnT : closedV (.agg #[.int .i64 0, .int .i64 0, .int .i64 0, .string ByteArray.empty, .slice none 0 0, .slice none 0 0, .int .i64 0, .string ByteArray.empty, .int .i64 0, .int .i64 0])=true:=by kernel_rfl
theorem QgP : QA Tryz.prog 62=some false:=by kernel_rfl
theorem Qpd : Tryz.prog.cellsOf 62=1:=by kernel_rfl
theorem Qpp : (Tryz.prog.info? 62).isSome=true:=by kernel_rfl
theorem Qbx : QA Tryz.prog 64=some true:=by kernel_rfl
theorem Y7 : Tryz.prog.cellsOf 64=2:=by kernel_rfl
theorem QhX : (Tryz.prog.info? 64).isSome=true:=by kernel_rfl
theorem QoA : Zl Tryz.prog 64=some (.agg #[.int .i64 0, .slice none 0 0]):=by kernel_rfl
theorem QnP : closedV (.agg #[.int .i64 0, .slice none 0 0])=true:=by kernel_rfl
theorem QmN : QA Tryz.prog 66=some true:=by kernel_rfl
theorem Qlm : Tryz.prog.cellsOf 66=5:=by kernel_rfl
theorem QoY : (Tryz.prog.info? 66).isSome=true:=by kernel_rfl
theorem Qn8 : Zl Tryz.prog 66=some (.agg #[.int .i64 0, .int .i64 0, .int .i64 0, .slice none 0 0, .int .i64 0]):=by kernel_rfl
theorem QnJ : closedV (.agg #[.int .i64 0, .int .i64 0, .int .i64 0, .slice none 0 0, .int .i64 0])=true:=by kernel_rfl
theorem Qpm : QA Tryz.prog 81=some true:=by kernel_rfl
theorem Qne : Tryz.prog.cellsOf 81=2:=by kernel_rfl
theorem Qo2 : (Tryz.prog.info? 81).isSome=true:=by kernel_rfl
theorem Qj1 : QA Tryz.prog 92=some true:=by kernel_rfl
theorem Qb3 : Tryz.prog.cellsOf 92=2:=by kernel_rfl
theorem QiE : (Tryz.prog.info? 92).isSome=true:=by kernel_rfl
theorem QmT : Zl Tryz.prog 92=some (.agg #[.string ByteArray.empty, .int .i64 0]):=by kernel_rfl
theorem QoB : closedV (.agg #[.string ByteArray.empty, .int .i64 0])=true:=by kernel_rfl
theorem QdV : QA Tryz.prog 128=some true:=by kernel_rfl
theorem Zw : Tryz.prog.cellsOf 128=4:=by kernel_rfl
theorem QbJ : (Tryz.prog.info? 128).isSome=true:=by kernel_rfl
theorem YN : Zl Tryz.prog 128=some (.agg #[.int .i64 0, .bool false, .int .i64 0, .int .i64 0]):=by kernel_rfl
theorem QlJ : closedV (.agg #[.int .i64 0, .bool false, .int .i64 0, .int .i64 0])=true:=by kernel_rfl
theorem Qnu : QA Tryz.prog 142=some true:=by kernel_rfl
theorem Qkd : Tryz.prog.cellsOf 142=4:=by kernel_rfl
theorem QnE : (Tryz.prog.info? 142).isSome=true:=by kernel_rfl
theorem QbQ : QA Tryz.prog 145=some true:=by kernel_rfl
theorem ZE : Tryz.prog.cellsOf 145=4:=by kernel_rfl
theorem Yq : (Tryz.prog.info? 145).isSome=true:=by kernel_rfl
theorem QeR : Zl Tryz.prog 145=some (.agg #[.int .i64 0, .string ByteArray.empty, .int .i64 0, .int .i64 0]):=by kernel_rfl
theorem QeQ : closedV (.agg #[.int .i64 0, .string ByteArray.empty, .int .i64 0, .int .i64 0])=true:=by kernel_rfl
theorem Ql8 : QA Tryz.prog 166=some false:=by kernel_rfl
theorem Qph : Tryz.prog.cellsOf 166=1:=by kernel_rfl
theorem Qpj : (Tryz.prog.info? 166).isSome=true:=by kernel_rfl
theorem QoV : Zl Tryz.prog 166=some (.slice none 0 0):=by kernel_rfl
theorem Qpt : closedV (.slice none 0 0)=true:=by kernel_rfl
theorem Qjp : QA Tryz.prog 169=some false:=by kernel_rfl
theorem Qpa : Tryz.prog.cellsOf 169=1:=by kernel_rfl
theorem QoU : (Tryz.prog.info? 169).isSome=true:=by kernel_rfl
theorem QoK (k o:Nat):Qf Tryz.prog 24 (.pointer (some ⟨k,o,none⟩)) 0=some (.pointer (some ⟨k,o+0,none⟩)):=by simp [Qf,Tryz.underlying24,Y8,ZJ]
theorem QnV (k o:Nat):Qf Tryz.prog 24 (.pointer (some ⟨k,o,none⟩)) 1=some (.pointer (some ⟨k,o+1,none⟩)):=by simp [Qf,Tryz.underlying24,Y8,ZJ]
theorem QlX (k o:Nat):Qf Tryz.prog 24 (.pointer (some ⟨k,o,none⟩)) 2=some (.pointer (some ⟨k,o+2,none⟩)):=by simp [Qf,Tryz.underlying24,if9,Ji]
theorem QlM (k o:Nat):Qf Tryz.prog 28 (.pointer (some ⟨k,o,none⟩)) 0=some (.pointer (some ⟨k,o+0,none⟩)):=by simp [Qf,Tryz.underlying28,QpP,Qoe]
theorem QmH (k o:Nat):Qf Tryz.prog 28 (.pointer (some ⟨k,o,none⟩)) 1=some (.pointer (some ⟨k,o+3,none⟩)):=by simp [Qf,Tryz.underlying28,QpW,QpH]
theorem Qmo (k o:Nat):Qf Tryz.prog 28 (.pointer (some ⟨k,o,none⟩)) 2=some (.pointer (some ⟨k,o+4,none⟩)):=by simp [Qf,Tryz.underlying28,QjR,Qg2]
theorem QnW (k o:Nat):Qf Tryz.prog 28 (.pointer (some ⟨k,o,none⟩)) 3=some (.pointer (some ⟨k,o+5,none⟩)):=by simp [Qf,Tryz.underlying28,Y8,ZJ]
theorem QaM (k o:Nat):Qf Tryz.prog 36 (.pointer (some ⟨k,o,none⟩)) 0=some (.pointer (some ⟨k,o+0,none⟩)):=by simp [Qf,Tryz.underlying36,Y8,ZJ]
theorem ZD (k o:Nat):Qf Tryz.prog 36 (.pointer (some ⟨k,o,none⟩)) 1=some (.pointer (some ⟨k,o+1,none⟩)):=by simp [Qf,Tryz.underlying36,Y8,ZJ]
theorem QL (k o:Nat):Qf Tryz.prog 36 (.pointer (some ⟨k,o,none⟩)) 2=some (.pointer (some ⟨k,o+2,none⟩)):=by simp [Qf,Tryz.underlying36,if9,Ji]
theorem Jy (k o:Nat):Qf Tryz.prog 39 (.pointer (some ⟨k,o,none⟩)) 0=some (.pointer (some ⟨k,o+0,none⟩)):=by simp [Qf,Tryz.underlying39,QjU,Q0]
theorem Qal (k o:Nat):Qf Tryz.prog 39 (.pointer (some ⟨k,o,none⟩)) 1=some (.pointer (some ⟨k,o+3,none⟩)):=by simp [Qf,Tryz.underlying39,Qo1,Qps]
theorem QbO (k o:Nat):Qf Tryz.prog 39 (.pointer (some ⟨k,o,none⟩)) 2=some (.pointer (some ⟨k,o+4,none⟩)):=by simp [Qf,Tryz.underlying39,QjR,Qg2]
theorem Qc1 (k o:Nat):Qf Tryz.prog 39 (.pointer (some ⟨k,o,none⟩)) 3=some (.pointer (some ⟨k,o+5,none⟩)):=by simp [Qf,Tryz.underlying39,Y8,ZJ]
theorem QnI (k o:Nat):Qf Tryz.prog 48 (.pointer (some ⟨k,o,none⟩)) 0=some (.pointer (some ⟨k,o+0,none⟩)):=by simp [Qf,Tryz.underlying48,Y8,ZJ]
theorem Qmd (k o:Nat):Qf Tryz.prog 48 (.pointer (some ⟨k,o,none⟩)) 1=some (.pointer (some ⟨k,o+1,none⟩)):=by simp [Qf,Tryz.underlying48,QpX,Qos]
theorem QlQ (k o:Nat):Qf Tryz.prog 48 (.pointer (some ⟨k,o,none⟩)) 2=some (.pointer (some ⟨k,o+7,none⟩)):=by simp [Qf,Tryz.underlying48,if9,Ji]
theorem QoG (k o:Nat):Qf Tryz.prog 48 (.pointer (some ⟨k,o,none⟩)) 3=some (.pointer (some ⟨k,o+8,none⟩)):=by simp [Qf,Tryz.underlying48,Y8,ZJ]
theorem Qoi (k o:Nat):Qf Tryz.prog 48 (.pointer (some ⟨k,o,none⟩)) 4=some (.pointer (some ⟨k,o+9,none⟩)):=by simp [Qf,Tryz.underlying48,Y8,ZJ]
theorem Qof (k o:Nat):Qf Tryz.prog 51 (.pointer (some ⟨k,o,none⟩)) 0=some (.pointer (some ⟨k,o+0,none⟩)):=by simp [Qf,Tryz.underlying51,Y8,ZJ]
theorem Qmc (k o:Nat):Qf Tryz.prog 51 (.pointer (some ⟨k,o,none⟩)) 1=some (.pointer (some ⟨k,o+1,none⟩)):=by simp [Qf,Tryz.underlying51,QpT,QpK]
theorem Qoy (k o:Nat):Qf Tryz.prog 53 (.pointer (some ⟨k,o,none⟩)) 0=some (.pointer (some ⟨k,o+0,none⟩)):=by simp [Qf,Tryz.underlying53,Y8,ZJ]
theorem Qop (k o:Nat):Qf Tryz.prog 53 (.pointer (some ⟨k,o,none⟩)) 1=some (.pointer (some ⟨k,o+1,none⟩)):=by simp [Qf,Tryz.underlying53,Y8,ZJ]
theorem Qlu (k o:Nat):Qf Tryz.prog 53 (.pointer (some ⟨k,o,none⟩)) 2=some (.pointer (some ⟨k,o+2,none⟩)):=by simp [Qf,Tryz.underlying53,Qoz,QjE]
theorem QnU (k o:Nat):Qf Tryz.prog 53 (.pointer (some ⟨k,o,none⟩)) 3=some (.pointer (some ⟨k,o+4,none⟩)):=by simp [Qf,Tryz.underlying53,Y8,ZJ]
theorem Qc7 (k o:Nat):Qf Tryz.prog 60 (.pointer (some ⟨k,o,none⟩)) 0=some (.pointer (some ⟨k,o+0,none⟩)):=by simp [Qf,Tryz.underlying60,Y8,ZJ]
theorem Qbt (k o:Nat):Qf Tryz.prog 60 (.pointer (some ⟨k,o,none⟩)) 1=some (.pointer (some ⟨k,o+1,none⟩)):=by simp [Qf,Tryz.underlying60,QoD,QfT]
theorem QcT (k o:Nat):Qf Tryz.prog 60 (.pointer (some ⟨k,o,none⟩)) 2=some (.pointer (some ⟨k,o+7,none⟩)):=by simp [Qf,Tryz.underlying60,if9,Ji]
theorem Qc8 (k o:Nat):Qf Tryz.prog 60 (.pointer (some ⟨k,o,none⟩)) 3=some (.pointer (some ⟨k,o+8,none⟩)):=by simp [Qf,Tryz.underlying60,Y8,ZJ]
theorem QcQ (k o:Nat):Qf Tryz.prog 60 (.pointer (some ⟨k,o,none⟩)) 4=some (.pointer (some ⟨k,o+9,none⟩)):=by simp [Qf,Tryz.underlying60,Y8,ZJ]
theorem Qbz (k o:Nat):Qf Tryz.prog 64 (.pointer (some ⟨k,o,none⟩)) 0=some (.pointer (some ⟨k,o+0,none⟩)):=by simp [Qf,Tryz.underlying64,Y8,ZJ]
theorem Qac (k o:Nat):Qf Tryz.prog 64 (.pointer (some ⟨k,o,none⟩)) 1=some (.pointer (some ⟨k,o+1,none⟩)):=by simp [Qf,Tryz.underlying64,Qpp,Qpd]
theorem QfS (k o:Nat):Qf Tryz.prog 66 (.pointer (some ⟨k,o,none⟩)) 0=some (.pointer (some ⟨k,o+0,none⟩)):=by simp [Qf,Tryz.underlying66,Y8,ZJ]
theorem Qdc (k o:Nat):Qf Tryz.prog 66 (.pointer (some ⟨k,o,none⟩)) 1=some (.pointer (some ⟨k,o+1,none⟩)):=by simp [Qf,Tryz.underlying66,Y8,ZJ]
theorem QfN (k o:Nat):Qf Tryz.prog 66 (.pointer (some ⟨k,o,none⟩)) 2=some (.pointer (some ⟨k,o+2,none⟩)):=by simp [Qf,Tryz.underlying66,QhX,Y7]
theorem Qj4 (k o:Nat):Qf Tryz.prog 66 (.pointer (some ⟨k,o,none⟩)) 3=some (.pointer (some ⟨k,o+4,none⟩)):=by simp [Qf,Tryz.underlying66,Y8,ZJ]
theorem Ql1 (k o:Nat):Qf Tryz.prog 81 (.pointer (some ⟨k,o,none⟩)) 0=some (.pointer (some ⟨k,o+0,none⟩)):=by simp [Qf,Tryz.underlying81,if9,Ji]
theorem Qol (k o:Nat):Qf Tryz.prog 81 (.pointer (some ⟨k,o,none⟩)) 1=some (.pointer (some ⟨k,o+1,none⟩)):=by simp [Qf,Tryz.underlying81,Y8,ZJ]
theorem Qif (k o:Nat):Qf Tryz.prog 92 (.pointer (some ⟨k,o,none⟩)) 0=some (.pointer (some ⟨k,o+0,none⟩)):=by simp [Qf,Tryz.underlying92,if9,Ji]
theorem QhU (k o:Nat):Qf Tryz.prog 92 (.pointer (some ⟨k,o,none⟩)) 1=some (.pointer (some ⟨k,o+1,none⟩)):=by simp [Qf,Tryz.underlying92,Y8,ZJ]
theorem Qkn (k o:Nat):Qf Tryz.prog 128 (.pointer (some ⟨k,o,none⟩)) 1=some (.pointer (some ⟨k,o+1,none⟩)):=by simp [Qf,Tryz.underlying128,if4,sz4]
theorem Qfw (k o:Nat):Qf Tryz.prog 128 (.pointer (some ⟨k,o,none⟩)) 2=some (.pointer (some ⟨k,o+2,none⟩)):=by simp [Qf,Tryz.underlying128,Y8,ZJ]
theorem QbA (k o:Nat):Qf Tryz.prog 128 (.pointer (some ⟨k,o,none⟩)) 3=some (.pointer (some ⟨k,o+3,none⟩)):=by simp [Qf,Tryz.underlying128,Y8,ZJ]
theorem Qm8 (k o:Nat):Qf Tryz.prog 142 (.pointer (some ⟨k,o,none⟩)) 0=some (.pointer (some ⟨k,o+0,none⟩)):=by simp [Qf,Tryz.underlying142,Y8,ZJ]
theorem Qke (k o:Nat):Qf Tryz.prog 142 (.pointer (some ⟨k,o,none⟩)) 1=some (.pointer (some ⟨k,o+1,none⟩)):=by simp [Qf,Tryz.underlying142,if9,Ji]
theorem QmO (k o:Nat):Qf Tryz.prog 142 (.pointer (some ⟨k,o,none⟩)) 2=some (.pointer (some ⟨k,o+2,none⟩)):=by simp [Qf,Tryz.underlying142,Y8,ZJ]
theorem Qm0 (k o:Nat):Qf Tryz.prog 142 (.pointer (some ⟨k,o,none⟩)) 3=some (.pointer (some ⟨k,o+3,none⟩)):=by simp [Qf,Tryz.underlying142,Y8,ZJ]
theorem Zf (k o:Nat):Qf Tryz.prog 145 (.pointer (some ⟨k,o,none⟩)) 0=some (.pointer (some ⟨k,o+0,none⟩)):=by simp [Qf,Tryz.underlying145,Y8,ZJ]
theorem Z3 (k o:Nat):Qf Tryz.prog 145 (.pointer (some ⟨k,o,none⟩)) 1=some (.pointer (some ⟨k,o+1,none⟩)):=by simp [Qf,Tryz.underlying145,if9,Ji]
theorem ZC (k o:Nat):Qf Tryz.prog 145 (.pointer (some ⟨k,o,none⟩)) 2=some (.pointer (some ⟨k,o+2,none⟩)):=by simp [Qf,Tryz.underlying145,Y8,ZJ]
theorem Z4 (k o:Nat):Qf Tryz.prog 145 (.pointer (some ⟨k,o,none⟩)) 3=some (.pointer (some ⟨k,o+3,none⟩)):=by simp [Qf,Tryz.underlying145,Y8,ZJ]
theorem Qp0 (a b:D.Grid):∃q,eqv Tryz.prog 20 36 (.agg #[Value.int .i64 a.Rows,Value.int .i64 a.Cols,Value.string a.Cells]) (.agg #[Value.int .i64 b.Rows,Value.int .i64 b.Cols,Value.string b.Cells])=some q∧(q=true↔a=b):=by
 refine ⟨_,Qdb 19 Tryz.underlying36 Y (by kernel_rfl) (eqf_cons Y (Zs QS Y) (Zs QS Y) (Qce 18 Tryz.underlying3) (eqf_cons Y (Zs QS Y) (Zs QS Y) (Qce 18 Tryz.underlying3) (eqf_cons Y (Zs ZG Y) (Zs ZG Y) (Qkt 18 Tryz.underlying9) Qig))),?_⟩
 obtain ⟨a0,a1,a2⟩:=a
 obtain ⟨b0,b1,b2⟩:=b
 simp
theorem Qpb (a b:D.Grid) (xo yo:Operand):∃q,Z8 Tryz.prog .eql 36 xo yo (.agg #[Value.int .i64 a.Rows,Value.int .i64 a.Cols,Value.string a.Cells]) (.agg #[Value.int .i64 b.Rows,Value.int .i64 b.Cols,Value.string b.Cells])=some (.bool q)∧(q=true↔a=b):=by
 obtain ⟨q,h1,h2⟩:=Qp0 a b
 exact ⟨q,Qi7 (by simp [closedV,closed1]) (by simp [closedV,closed1]) (by kernel_rfl) h1,h2⟩
theorem QpU (a b:D.Meaning):∃q,eqv Tryz.prog 20 92 (.agg #[Value.string a.Word,Value.int .i64 a.Sense]) (.agg #[Value.string b.Word,Value.int .i64 b.Sense])=some q∧(q=true↔a=b):=by
 refine ⟨_,Qdb 19 Tryz.underlying92 Y (by kernel_rfl) (eqf_cons Y (Zs ZG Y) (Zs ZG Y) (Qkt 18 Tryz.underlying9) (eqf_cons Y (Zs QS Y) (Zs QS Y) (Qce 18 Tryz.underlying3) Qig)),?_⟩
 obtain ⟨a0,a1⟩:=a
 obtain ⟨b0,b1⟩:=b
 simp
theorem Qo4 (a b:D.Meaning) (xo yo:Operand):∃q,Z8 Tryz.prog .eql 92 xo yo (.agg #[Value.string a.Word,Value.int .i64 a.Sense]) (.agg #[Value.string b.Word,Value.int .i64 b.Sense])=some (.bool q)∧(q=true↔a=b):=by
 obtain ⟨q,h1,h2⟩:=QpU a b
 exact ⟨q,Qi7 (by simp [closedV,closed1]) (by simp [closedV,closed1]) (by kernel_rfl) h1,h2⟩
theorem Qpi (a b:D.Slot):∃q,eqv Tryz.prog 20 128 (.agg #[Value.int .i64 a.Number,Value.bool a.Down,Value.int .i64 a.Cell,Value.int .i64 a.Length]) (.agg #[Value.int .i64 b.Number,Value.bool b.Down,Value.int .i64 b.Cell,Value.int .i64 b.Length])=some q∧(q=true↔a=b):=by
 refine ⟨_,Qdb 19 Tryz.underlying128 Y (by kernel_rfl) (eqf_cons Y (Zs QS Y) (Zs QS Y) (Qce 18 Tryz.underlying3) (eqf_cons Y (Zs st4 Y) (Zs st4 Y) (Qms 18 Tryz.underlying4) (eqf_cons Y (Zs QS Y) (Zs QS Y) (Qce 18 Tryz.underlying3) (eqf_cons Y (Zs QS Y) (Zs QS Y) (Qce 18 Tryz.underlying3) Qig)))),?_⟩
 obtain ⟨a0,a1,a2,a3⟩:=a
 obtain ⟨b0,b1,b2,b3⟩:=b
 simp
theorem Qoo (a b:D.Slot) (xo yo:Operand):∃q,Z8 Tryz.prog .neq 128 xo yo (.agg #[Value.int .i64 a.Number,Value.bool a.Down,Value.int .i64 a.Cell,Value.int .i64 a.Length]) (.agg #[Value.int .i64 b.Number,Value.bool b.Down,Value.int .i64 b.Cell,Value.int .i64 b.Length])=some (.bool (!q))∧(q=true↔a=b):=by
 obtain ⟨q,h1,h2⟩:=Qpi a b
 exact ⟨q,QlH (by simp [closedV,closed1]) (by simp [closedV,closed1]) (by kernel_rfl) h1,h2⟩
theorem follows : Tryz.prog.follows .mixedOrders=true:=by kernel_rfl
theorem QkL : Plain Tryz.prog:=by
 unfold Plain
 kernel_rfl
noncomputable instance : DecidableEq D.Grid:=Classical.typeDecidableEq _
def Qc (m:Bool) (x:D.Grid):List T:= [.int .i64 x.Rows, .int .i64 x.Cols, .str x.Cells]
theorem Qx : EncOk Qc 3:=⟨fun _ _=>rfl,fun x=>Qh (.int _ _) (Qh (.int _ _) (Qh (.str _) (Ze))),fun m x=>by simp only [Qc,fzL,AE.fz],fun m x=>Qh Y (Qh Y (Qh Y (Ze))),fun x=>Qh Y (Qh Y (Qh Y (Ze)))⟩
def ZR (x:D.Grid):Nat:=ByteArray.size x.Cells
theorem QnK : RK Ql3 Qc:=Qf0 (YE Qah (YE Qah Qi8)) (fun _=>rfl)
theorem QlD (m:Bool) (x:D.Grid):SvL (Qc m x) [Value.int .i64 x.Rows,Value.int .i64 x.Cols,Value.string x.Cells]:= .cons (.int _ _) (.cons (.int _ _) (.cons (.str _) (.nil)))
noncomputable instance : DecidableEq D.Step:=Classical.typeDecidableEq _
def Qd (m:Bool) (x:D.Step):List T:= [.int .i64 x.Kind, .str x.Word, .int .i64 x.A, .int .i64 x.B]
theorem okeStep : EncOk Qd 4:=⟨fun _ _=>rfl,fun x=>Qh (.int _ _) (Qh (.str _) (Qh (.int _ _) (Qh (.int _ _) (Ze)))),fun m x=>by simp only [Qd,fzL,AE.fz],fun m x=>Qh Y (Qh Y (Qh Y (Qh Y (Ze)))),fun x=>Qh Y (Qh Y (Qh Y (Qh Y (Ze))))⟩
def Zc (x:D.Step):Nat:=ByteArray.size x.Word
theorem Qov : Qg9 Qd:=fun _ _=>rfl
theorem QoE : RK Qmi Qd:=Qf0 (YE Qah (YE Qi8 (YE Qah Qah))) (fun _=>rfl)
noncomputable instance : DecidableEq D.Clue:=Classical.typeDecidableEq _
def Qi (m:Bool) (x:D.Clue):List T:= [.int .i64 x.Sense, .sl m 4 (x.Play.map (Qd m))]
theorem okeClue : EncOk Qi 2:=⟨fun _ _=>rfl,fun x=>Qh (.int _ _) (Qh (.sl _ _ (okeStep.cleanMap _)) (Ze)),fun m x=>by simp only [Qi,fzL,AE.fz,okeStep.fzMap],fun m x=>Qh Y (Qh Y (Ze)),fun x=>Qh Y (Qh Y (Ze))⟩
def QO (x:D.Clue):Nat:=(zL Zc) x.Play
theorem Qlv : RK Qkz Qi:=Qf0 (YE Qah (QmG QoE okeStep Y)) (fun _=>rfl)
noncomputable instance : DecidableEq D.Puzzle:=Classical.typeDecidableEq _
def QF (m:Bool) (x:D.Puzzle):List T:= [.int .i64 x.Grid.Rows, .int .i64 x.Grid.Cols, .str x.Grid.Cells, .sl m 2 (x.Clues.map (Qi m)), .sl m 1 (x.Seals.map (Qe m)), .int .i64 x.Salt]
theorem Y5 : EncOk QF 6:=⟨fun _ _=>rfl,fun x=>Qh (.int _ _) (Qh (.int _ _) (Qh (.str _) (Qh (.sl _ _ (okeClue.cleanMap _)) (Qh (.sl _ _ (okInt.cleanMap _)) (Qh (.int _ _) (Ze)))))),fun m x=>by simp only [QF,fzL,AE.fz,okInt.fzMap,okeClue.fzMap],fun m x=>Qh Y (Qh Y (Qh Y (Qh Y (Qh Y (Qh Y (Ze)))))),fun x=>Qh Y (Qh Y (Qh Y (Qh Y (Qh Y (Qh Y (Ze))))))⟩
def QT (x:D.Puzzle):Nat:=ZR x.Grid+(zL QO) x.Clues+(zL zI) x.Seals
theorem Qlz : RK QhK QF:=Qf0 (YE QnK (YE (QmG Qlv okeClue Y) (YE (QmG Qah okInt Y) Qah))) (fun _=>rfl)
noncomputable instance : DecidableEq D.Issue:=Classical.typeDecidableEq _
def QQ (m:Bool) (x:D.Issue):List T:= [.int .i64 x.Number, .int .i64 x.Puzzle.Grid.Rows, .int .i64 x.Puzzle.Grid.Cols, .str x.Puzzle.Grid.Cells, .sl m 2 (x.Puzzle.Clues.map (Qi m)), .sl m 1 (x.Puzzle.Seals.map (Qe m)), .int .i64 x.Puzzle.Salt, .str x.Fill, .int .i64 x.Open, .int .i64 x.Close]
theorem Qa6 : EncOk QQ 10:=⟨fun _ _=>rfl,fun x=>Qh (.int _ _) (Qh (.int _ _) (Qh (.int _ _) (Qh (.str _) (Qh (.sl _ _ (okeClue.cleanMap _)) (Qh (.sl _ _ (okInt.cleanMap _)) (Qh (.int _ _) (Qh (.str _) (Qh (.int _ _) (Qh (.int _ _) (Ze)))))))))),fun m x=>by simp only [QQ,fzL,AE.fz,okInt.fzMap,okeClue.fzMap],fun m x=>Qh Y (Qh Y (Qh Y (Qh Y (Qh Y (Qh Y (Qh Y (Qh Y (Qh Y (Qh Y (Ze)))))))))),fun x=>Qh Y (Qh Y (Qh Y (Qh Y (Qh Y (Qh Y (Qh Y (Qh Y (Qh Y (Qh Y (Ze))))))))))⟩
def QZ (x:D.Issue):Nat:=QT x.Puzzle+ByteArray.size x.Fill
theorem QmR : RK QlL QQ:=Qf0 (YE Qah (YE Qlz (YE Qi8 (YE Qah Qah)))) (fun _=>rfl)
noncomputable instance : DecidableEq D.Correction:=Classical.typeDecidableEq _
def Qv (m:Bool) (x:D.Correction):List T:= [.int .i64 x.Issue, .int .i64 x.Slot, .int .i64 x.Clue.Sense, .sl m 4 (x.Clue.Play.map (Qd m)), .int .i64 x.Tick]
theorem JH : EncOk Qv 5:=⟨fun _ _=>rfl,fun x=>Qh (.int _ _) (Qh (.int _ _) (Qh (.int _ _) (Qh (.sl _ _ (okeStep.cleanMap _)) (Qh (.int _ _) (Ze))))),fun m x=>by simp only [Qv,fzL,AE.fz,okeStep.fzMap],fun m x=>Qh Y (Qh Y (Qh Y (Qh Y (Qh Y (Ze))))),fun x=>Qh Y (Qh Y (Qh Y (Qh Y (Qh Y (Ze)))))⟩
def QC (x:D.Correction):Nat:=QO x.Clue
theorem Qh5 : RK QeS Qv:=Qf0 (YE Qah (YE Qah (YE Qlv Qah))) (fun _=>rfl)
noncomputable instance : DecidableEq D.Meaning:=Classical.typeDecidableEq _
def Qb (m:Bool) (x:D.Meaning):List T:= [.str x.Word, .int .i64 x.Sense]
theorem okeMeaning : EncOk Qb 2:=⟨fun _ _=>rfl,fun x=>Qh (.str _) (Qh (.int _ _) (Ze)),fun m x=>by simp only [Qb,fzL,AE.fz],fun m x=>Qh Y (Qh Y (Ze)),fun x=>Qh Y (Qh Y (Ze))⟩
def Za (x:D.Meaning):Nat:=ByteArray.size x.Word
theorem QkN : Qg9 Qb:=fun _ _=>rfl
theorem QkQ : RK Qi4 Qb:=Qf0 (YE Qi8 Qah) (fun _=>rfl)
theorem Qhu (m:Bool) (x:D.Meaning):SvL (Qb m x) [Value.string x.Word,Value.int .i64 x.Sense]:= .cons (.str _) (.cons (.int _ _) (.nil))
noncomputable instance : DecidableEq D.Slot:=Classical.typeDecidableEq _
def Qk (m:Bool) (x:D.Slot):List T:= [.int .i64 x.Number, .bool x.Down, .int .i64 x.Cell, .int .i64 x.Length]
theorem okeSlot : EncOk Qk 4:=⟨fun _ _=>rfl,fun x=>Qh (.int _ _) (Qh (.bool _) (Qh (.int _ _) (Qh (.int _ _) (Ze)))),fun m x=>by simp only [Qk,fzL,AE.fz],fun m x=>Qh Y (Qh Y (Qh Y (Qh Y (Ze)))),fun x=>Qh Y (Qh Y (Qh Y (Qh Y (Ze))))⟩
theorem Qmy (m:Bool) (x:D.Slot):SvL (Qk m x) [Value.int .i64 x.Number,Value.bool x.Down,Value.int .i64 x.Cell,Value.int .i64 x.Length]:= .cons (.int _ _) (.cons (.bool _) (.cons (.int _ _) (.cons (.int _ _) (.nil))))
theorem B.eql36 {call:QX} {E:Zh} {d:Option Tmp} {ty xt:TypeId} {ps:String} {af:Array Edge} {g:Option (Nat×Bool)} {x y:Operand} {a b:D.Grid} {m m':Bool} (hx:VEv E x (.agg (Qc m a))) (hy:VEv E y (.agg (Qc m' b))):OF call Tryz.prog E ⟨d, .binOp .eql 36 x y xt,ty,ps,af,g⟩ (.bool (decide (a=b))):=by
 obtain ⟨q,h1,h2⟩:=Qpb a b x y
 have h3:q=decide (a=b):=by
  by_cases h:a=b
  ·rw [h2.2 h,decide_eq_true h]
  ·rw [decide_eq_false h]
   cases q
   ·rfl
   ·exact absurd (h2.1 Y) h
 exact h3▸OF.binA hx hy (QlD _ a) (QlD _ b) h1 (.bool _)
theorem B.eql92 {call:QX} {E:Zh} {d:Option Tmp} {ty xt:TypeId} {ps:String} {af:Array Edge} {g:Option (Nat×Bool)} {x y:Operand} {a b:D.Meaning} {m m':Bool} (hx:VEv E x (.agg (Qb m a))) (hy:VEv E y (.agg (Qb m' b))):OF call Tryz.prog E ⟨d, .binOp .eql 92 x y xt,ty,ps,af,g⟩ (.bool (decide (a=b))):=by
 obtain ⟨q,h1,h2⟩:=Qo4 a b x y
 have h3:q=decide (a=b):=by
  by_cases h:a=b
  ·rw [h2.2 h,decide_eq_true h]
  ·rw [decide_eq_false h]
   cases q
   ·rfl
   ·exact absurd (h2.1 Y) h
 exact h3▸OF.binA hx hy (Qhu _ a) (Qhu _ b) h1 (.bool _)
theorem B.neq128 {call:QX} {E:Zh} {d:Option Tmp} {ty xt:TypeId} {ps:String} {af:Array Edge} {g:Option (Nat×Bool)} {x y:Operand} {a b:D.Slot} {m m':Bool} (hx:VEv E x (.agg (Qk m a))) (hy:VEv E y (.agg (Qk m' b))):OF call Tryz.prog E ⟨d, .binOp .neq 128 x y xt,ty,ps,af,g⟩ (.bool (!decide (a=b))):=by
 obtain ⟨q,h1,h2⟩:=Qoo a b x y
 have h3:q=decide (a=b):=by
  by_cases h:a=b
  ·rw [h2.2 h,decide_eq_true h]
  ·rw [decide_eq_false h]
   cases q
   ·rfl
   ·exact absurd (h2.1 Y) h
 exact h3▸OF.binA hx hy (Qmy _ a) (Qmy _ b) h1 (.bool _)
theorem U3 : Tryz.prog.underlying 3=some (.int .i64):=Tryz.underlying3
theorem U4 : Tryz.prog.underlying 4=some .bool:=Tryz.underlying4
theorem U5 : Tryz.prog.underlying 5=some (.int .u8):=Tryz.underlying5
theorem U9 : Tryz.prog.underlying 9=some .string:=Tryz.underlying9
theorem U21 : Tryz.prog.underlying 21=some (.int .i32):=Tryz.underlying21
theorem U25 : Tryz.prog.underlying 25=some (.slice 51):=Tryz.underlying25
theorem Yi : Tryz.prog.underlying 26=some (.slice 3):=Tryz.underlying26
theorem U29 : Tryz.prog.underlying 29=some (.slice 81):=Tryz.underlying29
theorem U37 : Tryz.prog.underlying 37=some (.slice 64):=Tryz.underlying37
theorem U41 : Tryz.prog.underlying 41=some (.slice 92):=Tryz.underlying41
theorem U49 : Tryz.prog.underlying 49=some (.slice 142):=Tryz.underlying49
theorem Jm : Tryz.prog.underlying 54=some (.slice 9):=Tryz.underlying54
theorem U62 : Tryz.prog.underlying 62=some (.slice 145):=Tryz.underlying62
theorem Yj : Tryz.prog.underlying 110=some (.slice 128):=Tryz.underlying110
theorem QoX : Tryz.prog.underlying 118=some (.map 3 3):=Tryz.underlying118
theorem Qgl : Tryz.prog.underlying 150=some (.slice 26):=Tryz.underlying150
theorem Qbg : Tryz.prog.underlying 165=some (.slice 5):=Tryz.underlying165
theorem JF : Tryz.prog.underlying 166=some (.slice 4):=Tryz.underlying166
theorem QpZ : Tryz.prog.underlying 173=some (.int .u64):=Tryz.underlying173
theorem QpR : Tryz.prog.underlying 186=some (.int .u64):=Tryz.underlying186
set_option maxRecDepth 20000
set_option maxHeartbeats 2000000
theorem QgB (n:Nat) (a:List Int) (left:Int) (h0:0≤left) (h1:left≤(mx:Int)) (hg:a.length≤maxLen):Pure (Qo Tryz.prog (n+1)) 30 [(rd 1 Qe a),(tI left)] (tI (Q5 (zL zI a) left)):=by
 refine Pure.intro (rs:= [ResultVar.tmp 4]) Tryz.func30 Y Y Y (E0:= [(0,(rd 1 Qe a)),(1,(tI left))]) Y ?_
 obtain ⟨hlim,hmx,hmax⟩:=Qz
 refine sr (fO (OF.assign (VEv.int .i64 0)) (nt (sr (mO (tI left) Y (mO (rd 1 Qe a) Y (lO (B.lenR (m:=a.length) (tv (rd 1 Qe a) Y) Yi (List.length_map ..)) (fO (B.sub (n:=(left - ((a.length:Nat):Int))) (tv (tI left) Y) (tv (tN a.length) Y) (by first | rfl | (rw [Qs (by omega)];omega) | (rw [Qs (by omega)];done))) (aO (tI (left - ((a.length:Nat):Int))) Y (nt (sq (sr ?_)))))))))))
 refine mO (tI (left - ((a.length:Nat):Int))) Y (fO (xls (tv (tI (left - ((a.length:Nat):Int))) Y) (VEv.int .i64 0)) (nt ?_))
 refine cd ((left - ((a.length:Nat):Int))<0) Y (fun fhc0=> ?_) fun fhc0=> ?_
 ·refine sr ?_
  refine fO (OF.assign (VEv.int .i64 (-1))) (nt (rt (tr (vi (n':=(-1)) Y ?_))))
  exact SzI.early fhc0
 refine sk (tn (sr (mO (tI (left - ((a.length:Nat):Int))) Y (aO (tI (left - ((a.length:Nat):Int))) Y (nt (rt (vi (n':=(left - ((a.length:Nat):Int))) Y ?_)))))))
 rw [Qm1 (z:=zI) (fun _=>rfl)];exact Qbp fhc0
theorem QgR (n:Nat) (a:D.Grid) (left:Int) (h0:0≤left) (h1:left≤(mx:Int)) (hg:Qmt a):Pure (Qo Tryz.prog (n+1)) 28 [(T.agg (Qc false a)),(tI left)] (tI (Q5 (ZR a) left)):=by
 refine Pure.intro (rs:= [ResultVar.tmp 4]) Tryz.func28 Y Y Y (E0:= [(0,(T.agg (Qc false a))),(1,(tI left))]) Y ?_
 obtain ⟨hlim,hmx,hmax⟩:=Qz
 obtain ⟨hg0,hg1,hg2⟩:=hg
 refine sr (kO (B.box (ts:=(Qc false a)) (tv (T.agg (Qc false a)) Y) nofun Y) (fO (OF.assign (VEv.int .i64 0)) (nt (sr (mO (tI left) Y (lf (tS a.Cells) Y QlX Y Y ZG (lO (B.lenS (tv (tS a.Cells) Y) U9) (fO (B.sub (n:=(left - ((a.Cells.size:Nat):Int))) (tv (tI left) Y) (tv (tN a.Cells.size) Y) (by (rw [Qs (by omega)];done))) (aO (tI (left - ((a.Cells.size:Nat):Int))) Y (nt (sq ?_)))))))))))
 refine sr (mO (tI (left - ((a.Cells.size:Nat):Int))) Y (fO (xls (tv (tI (left - ((a.Cells.size:Nat):Int))) Y) (VEv.int .i64 0)) (nt ?_)))
 refine cd ((left - ((a.Cells.size:Nat):Int))<0) Y (fun fhc0=> ?_) fun fhc0=> ?_
 ·refine sr ?_
  refine fO (OF.assign (VEv.int .i64 (-1))) (nt (rt (tr (vi (n':=(-1)) Y ?_))))
  exact YX (by simp only [ZR];omega)
 refine sk (tn (sr (mO (tI (left - ((a.Cells.size:Nat):Int))) Y (aO (tI (left - ((a.Cells.size:Nat):Int))) Y (nt (rt (vi (n':=(left - ((a.Cells.size:Nat):Int))) Y ?_)))))))
 rw [← Qbp (z:=ZR a) (l:=left) (by simp only [ZR];omega)]
 all_goals rfl
theorem QgN (n:Nat) (a:D.Step) (left:Int) (h0:0≤left) (h1:left≤(mx:Int)) (hg:QkB a):Pure (Qo Tryz.prog (n+1)) 120 [(T.agg (Qd false a)),(tI left)] (tI (Q5 (Zc a) left)):=by
 refine Pure.intro (rs:= [ResultVar.tmp 4]) Tryz.func120 Y Y Y (E0:= [(0,(T.agg (Qd false a))),(1,(tI left))]) Y ?_
 obtain ⟨hlim,hmx,hmax⟩:=Qz
 obtain ⟨hg0,hg1,hg2,hg3⟩:=hg
 refine sr (kO (B.box (ts:=(Qd false a)) (tv (T.agg (Qd false a)) Y) nofun Y) (fO (OF.assign (VEv.int .i64 0)) (nt (sr (mO (tI left) Y (lf (tS a.Word) Y Qke Y Y ZG (lO (B.lenS (tv (tS a.Word) Y) U9) (fO (B.sub (n:=(left - ((a.Word.size:Nat):Int))) (tv (tI left) Y) (tv (tN a.Word.size) Y) (by (rw [Qs (by omega)];done))) (aO (tI (left - ((a.Word.size:Nat):Int))) Y (nt (sq ?_)))))))))))
 refine sr (mO (tI (left - ((a.Word.size:Nat):Int))) Y (fO (xls (tv (tI (left - ((a.Word.size:Nat):Int))) Y) (VEv.int .i64 0)) (nt ?_)))
 refine cd ((left - ((a.Word.size:Nat):Int))<0) Y (fun fhc0=> ?_) fun fhc0=> ?_
 ·refine sr ?_
  refine fO (OF.assign (VEv.int .i64 (-1))) (nt (rt (tr (vi (n':=(-1)) Y ?_))))
  exact YX (by simp only [Zc];omega)
 refine sk (tn (sr (mO (tI (left - ((a.Word.size:Nat):Int))) Y (aO (tI (left - ((a.Word.size:Nat):Int))) Y (nt (rt (vi (n':=(left - ((a.Word.size:Nat):Int))) Y ?_)))))))
 rw [← Qbp (z:=Zc a) (l:=left) (by simp only [Zc];omega)]
 all_goals rfl
theorem Qfx (n:Nat) (a:List D.Step) (left:Int) (h0:0≤left) (h1:left≤(mx:Int)) (hg:a.length≤maxLen∧∀x∈a,QkB x):Pure (Qo Tryz.prog (n+2)) 82 [(rd 4 Qd a),(tI left)] (tI (Q5 (zL Zc a) left)):=by
 refine Pure.intro (rs:= [ResultVar.tmp 4]) Tryz.func82 Y Y Y (E0:= [(0,(rd 4 Qd a)),(1,(tI left))]) Y ?_
 obtain ⟨hlim,hmx,hmax⟩:=Qz
 obtain ⟨hg1,hg2⟩:=hg
 refine sr (fO (OF.assign (VEv.int .i64 0)) (nt (sr (mO (tI left) Y (mO (rd 4 Qd a) Y (lO (B.lenR (m:=a.length) (tv (rd 4 Qd a) Y) U49 (List.length_map ..)) (fO (B.sub (n:=(left - ((a.length:Nat):Int))) (tv (tI left) Y) (tv (tN a.length) Y) (by (rw [Qs (by omega)];done))) (aO (tI (left - ((a.length:Nat):Int))) Y (nt (sq (sr ?_)))))))))))
 refine mO (tI (left - ((a.length:Nat):Int))) Y (fO (xls (tv (tI (left - ((a.length:Nat):Int))) Y) (VEv.int .i64 0)) (nt ?_))
 refine cd ((left - ((a.length:Nat):Int))<0) Y (fun fhc0=> ?_) fun fhc0=> ?_
 ·refine sr ?_
  refine fO (OF.assign (VEv.int .i64 (-1))) (nt (rt (tr (vi (n':=(-1)) Y ?_))))
  exact SzI.early fhc0
 refine sk (tn (sq (sr (fO (OF.assign (VEv.int .i64 0)) (nt (VRun.block ?_))))))
 refine VRun.loop (A:=Nat×Int) (fun s_=> [(0,(rd 4 Qd a)),(1,(tI s_.2)),(5,(tN s_.1))]) (fun s_=>QV []) 0 (fun s_=>SzI Zc a left s_.1 s_.2) (fun s_=>a.length - s_.1) ((0,left - (a.length:Int)):Nat×Int) ?_ (Wk.mk (fun k=>k) ?_ ?_ ?_) ?_
 ·exact SzI.start h1 fhc0
 ·exact (b2 (bc ⟨(congrArg (T.int .i64) (show (left - ((a.length:Nat):Int))=(left - (a.length:Int)) from (by rfl))),rfl⟩ (b2 bn)))
 ·exact bn
 ·exact nd Y
 rintro ⟨i,r⟩ (hI':SzI Zc a left i r)
 show VRun _ _ _ [(0,(rd 4 Qd a)),(1,(tI r)),(5,(tN i))] (QV []) 0 _
 have hI2:=hI'.1
 have hI3:=hI'.2.1
 have hI4:=hI'.2.2.1
 refine sq (sr (mO (tN i) Y (mO (rd 4 Qd a) Y (lO (B.lenR (m:=a.length) (tv (rd 4 Qd a) Y) U49 (List.length_map ..)) (fO (Q9 (tv (tN i) Y) (tv (tN a.length) Y)) (nt ?_))))))
 refine cd (i<a.length) Y (fun fhc1=> ?_) fun fhc1=> ?_
 ·refine sk ?_
  refine tn (sq (VRun.block (sr (mO (rd 4 Qd a) Y (mO (tN i) Y ?_)))))
  obtain ⟨x1,hx1⟩:∃x,a[i]? =some x:=⟨_,List.getElem?_eq_getElem (by omega)⟩
  refine fO (OF.indexAddrR (row:=(Qd false x1)) (i:=i) (tv (rd 4 Qd a) Y) (tv (tN i) Y) Y (Qu _ hx1) U49 Qkd QnE) (lO (OL.loadRn (us:=(Qd false x1)) (tv (T.rp (Qd false x1)) Y) Qnu Qkd (lb Y) Y) (mO (tI r) Y (cO (cS (vc (tv (T.agg (Qd false x1)) Y) (vc (tv (tI r) Y) vn)) (LendL.cons (lg okeStep) (lp Y ln)) (QgN (n+0) x1 r (by assumption) (by assumption) (by exact hg2 _ (List.mem_of_getElem? hx1))) Y Y) (aO (tI (Q5 (Zc x1) r)) Y (nt (sr (mO (tI (Q5 (Zc x1) r)) Y (fO (xls (tv (tI (Q5 (Zc x1) r)) Y) (VEv.int .i64 0)) (nt ?_)))))))))
  refine cd (Q5 (Zc x1) r<0) Y (fun fhc2=> ?_) fun fhc2=> ?_
  ·refine sr ?_
   refine fO (OF.assign (VEv.int .i64 (-1))) (nt (rt (vinB.r (tr (tr (vinB.r (tr (vi (n':=(-1)) Y ?_))))))))
   exact hI'.bad hx1 fhc2
  refine sk (vinB.n (tn (VRun.region (mO (tN i) Y (fO (QB (tv (tN i) Y) (VEv.int .i64 1) (by omega)) (aO (tN (i+1)) Y (VRunO.nil (tn ?_))))))))
  refine ⟨((i+1,Q5 (Zc x1) r):Nat×Int),?_,?_,Wk.mk (fun k=>k) ?_ ?_ ?_⟩
  ·exact hI'.next hx1 fhc2
  ·omega
  ·exact (b2 (b2 (b2 bn)))
  ·exact bn
  ·exact nd Y
 refine VRun.exit (vthn.e (vthn.e (vinB.e (tn (sr (mO (tI r) Y (aO (tI r) Y (nt (rt (vi (n':=r) Y ?_))))))))))
 exact hI'.done fhc1
theorem QcG (n:Nat) (a:D.Clue) (left:Int) (h0:0≤left) (h1:left≤(mx:Int)) (hg:QiK a):Pure (Qo Tryz.prog (n+3)) 53 [(T.agg (Qi false a)),(tI left)] (tI (Q5 (QO a) left)):=by
 refine Pure.intro (rs:= [ResultVar.tmp 4]) Tryz.func53 Y Y Y (E0:= [(0,(T.agg (Qi false a))),(1,(tI left))]) Y ?_
 obtain ⟨hlim,hmx,hmax⟩:=Qz
 obtain ⟨hg0,hg1⟩:=hg
 refine sr (kO (B.box (ts:=(Qi false a)) (tv (T.agg (Qi false a)) Y) nofun Y) (fO (OF.assign (VEv.int .i64 0)) (nt (sr (lf (rd 4 Qd a.Play) Y Qmc Y Y Qpw (mO (tI left) Y (cO (cS (vc (tv (rd 4 Qd a.Play) Y) (vc (tv (tI left) Y) vn)) (Zg Y) (Qfx (n+0) a.Play left (by assumption) (by assumption) (by assumption)) Y Y) (aO (tI (Q5 (zL Zc a.Play) left)) Y (nt (sq (sr ?_)))))))))))
 refine mO (tI (Q5 (zL Zc a.Play) left)) Y (fO (xls (tv (tI (Q5 (zL Zc a.Play) left)) Y) (VEv.int .i64 0)) (nt ?_))
 refine cd (Q5 (zL Zc a.Play) left<0) Y (fun fhc0=> ?_) fun fhc0=> ?_
 ·refine sr ?_
  refine fO (OF.assign (VEv.int .i64 (-1))) (nt (rt (tr (vi (n':=(-1)) Y ?_))))
  exact YX (by have hlt:=QcP fhc0;simp only [QO];omega)
 have hq0:=Yb fhc0
 refine sk (tn (sr (mO (tI (Q5 (zL Zc a.Play) left)) Y (aO (tI (Q5 (zL Zc a.Play) left)) Y (nt (rt (vi (n':=Q5 (zL Zc a.Play) left) Y ?_)))))))
 rw [← Qbp (z:=QO a) (l:=left) (by simp only [QO];omega)]
 all_goals (simp only [QO];omega)
theorem QfH (n:Nat) (a:List D.Clue) (left:Int) (h0:0≤left) (h1:left≤(mx:Int)) (hg:a.length≤maxLen∧∀x∈a,QiK x):Pure (Qo Tryz.prog (n+4)) 29 [(rd 2 Qi a),(tI left)] (tI (Q5 (zL QO a) left)):=by
 refine Pure.intro (rs:= [ResultVar.tmp 4]) Tryz.func29 Y Y Y (E0:= [(0,(rd 2 Qi a)),(1,(tI left))]) Y ?_
 obtain ⟨hlim,hmx,hmax⟩:=Qz
 obtain ⟨hg1,hg2⟩:=hg
 refine sr (fO (OF.assign (VEv.int .i64 0)) (nt (sr (mO (tI left) Y (mO (rd 2 Qi a) Y (lO (B.lenR (m:=a.length) (tv (rd 2 Qi a) Y) U25 (List.length_map ..)) (fO (B.sub (n:=(left - ((a.length:Nat):Int))) (tv (tI left) Y) (tv (tN a.length) Y) (by (rw [Qs (by omega)];done))) (aO (tI (left - ((a.length:Nat):Int))) Y (nt (sq (sr ?_)))))))))))
 refine mO (tI (left - ((a.length:Nat):Int))) Y (fO (xls (tv (tI (left - ((a.length:Nat):Int))) Y) (VEv.int .i64 0)) (nt ?_))
 refine cd ((left - ((a.length:Nat):Int))<0) Y (fun fhc0=> ?_) fun fhc0=> ?_
 ·refine sr ?_
  refine fO (OF.assign (VEv.int .i64 (-1))) (nt (rt (tr (vi (n':=(-1)) Y ?_))))
  exact SzI.early fhc0
 refine sk (tn (sq (sr (fO (OF.assign (VEv.int .i64 0)) (nt (VRun.block ?_))))))
 refine VRun.loop (A:=Nat×Int) (fun s_=> [(0,(rd 2 Qi a)),(1,(tI s_.2)),(5,(tN s_.1))]) (fun s_=>QV []) 0 (fun s_=>SzI QO a left s_.1 s_.2) (fun s_=>a.length - s_.1) ((0,left - (a.length:Int)):Nat×Int) ?_ (Wk.mk (fun k=>k) ?_ ?_ ?_) ?_
 ·exact SzI.start h1 fhc0
 ·exact (b2 (bc ⟨(congrArg (T.int .i64) (show (left - ((a.length:Nat):Int))=(left - (a.length:Int)) from (by rfl))),rfl⟩ (b2 bn)))
 ·exact bn
 ·exact nd Y
 rintro ⟨i,r⟩ (hI':SzI QO a left i r)
 show VRun _ _ _ [(0,(rd 2 Qi a)),(1,(tI r)),(5,(tN i))] (QV []) 0 _
 have hI2:=hI'.1
 have hI3:=hI'.2.1
 have hI4:=hI'.2.2.1
 refine sq (sr (mO (tN i) Y (mO (rd 2 Qi a) Y (lO (B.lenR (m:=a.length) (tv (rd 2 Qi a) Y) U25 (List.length_map ..)) (fO (Q9 (tv (tN i) Y) (tv (tN a.length) Y)) (nt ?_))))))
 refine cd (i<a.length) Y (fun fhc1=> ?_) fun fhc1=> ?_
 ·refine sk ?_
  refine tn (sq (VRun.block (sr (mO (rd 2 Qi a) Y (mO (tN i) Y ?_)))))
  obtain ⟨x1,hx1⟩:∃x,a[i]? =some x:=⟨_,List.getElem?_eq_getElem (by omega)⟩
  refine fO (OF.indexAddrR (row:=(Qi false x1)) (i:=i) (tv (rd 2 Qi a) Y) (tv (tN i) Y) Y (Qu _ hx1) U25 QjE Qoz) (lO (OL.loadRn (us:=(Qi false x1)) (tv (T.rp (Qi false x1)) Y) Qnl QjE (lb Y) Y) (mO (tI r) Y (cO (cS (vc (tv (T.agg (Qi false x1)) Y) (vc (tv (tI r) Y) vn)) (LendL.cons (lg okeClue) (lp Y ln)) (QcG (n+0) x1 r (by assumption) (by assumption) (by exact hg2 _ (List.mem_of_getElem? hx1))) Y Y) (aO (tI (Q5 (QO x1) r)) Y (nt (sr (mO (tI (Q5 (QO x1) r)) Y (fO (xls (tv (tI (Q5 (QO x1) r)) Y) (VEv.int .i64 0)) (nt ?_)))))))))
  refine cd (Q5 (QO x1) r<0) Y (fun fhc2=> ?_) fun fhc2=> ?_
  ·refine sr ?_
   refine fO (OF.assign (VEv.int .i64 (-1))) (nt (rt (vinB.r (tr (tr (vinB.r (tr (vi (n':=(-1)) Y ?_))))))))
   exact hI'.bad hx1 fhc2
  refine sk (vinB.n (tn (VRun.region (mO (tN i) Y (fO (QB (tv (tN i) Y) (VEv.int .i64 1) (by omega)) (aO (tN (i+1)) Y (VRunO.nil (tn ?_))))))))
  refine ⟨((i+1,Q5 (QO x1) r):Nat×Int),?_,?_,Wk.mk (fun k=>k) ?_ ?_ ?_⟩
  ·exact hI'.next hx1 fhc2
  ·omega
  ·exact (b2 (b2 (b2 bn)))
  ·exact bn
  ·exact nd Y
 refine VRun.exit (vthn.e (vthn.e (vinB.e (tn (sr (mO (tI r) Y (aO (tI r) Y (nt (rt (vi (n':=r) Y ?_))))))))))
 exact hI'.done fhc1
theorem Qd9 (n:Nat) (a:D.Meaning) (left:Int) (h0:0≤left) (h1:left≤(mx:Int)) (hg:Qdl a):Pure (Qo Tryz.prog (n+1)) 31 [(T.agg (Qb false a)),(tI left)] (tI (Q5 (Za a) left)):=by
 refine Pure.intro (rs:= [ResultVar.tmp 4]) Tryz.func31 Y Y Y (E0:= [(0,(T.agg (Qb false a))),(1,(tI left))]) Y ?_
 obtain ⟨hlim,hmx,hmax⟩:=Qz
 obtain ⟨hg0,hg1⟩:=hg
 refine sr (kO (B.box (ts:=(Qb false a)) (tv (T.agg (Qb false a)) Y) nofun Y) (fO (OF.assign (VEv.int .i64 0)) (nt (sr (mO (tI left) Y (lf (tS a.Word) Y Ql1 Y Y ZG (lO (B.lenS (tv (tS a.Word) Y) U9) (fO (B.sub (n:=(left - ((a.Word.size:Nat):Int))) (tv (tI left) Y) (tv (tN a.Word.size) Y) (by first | rfl | (rw [Qs (by omega)];omega) | (rw [Qs (by omega)];done))) (aO (tI (left - ((a.Word.size:Nat):Int))) Y (nt (sq ?_)))))))))))
 refine sr (mO (tI (left - ((a.Word.size:Nat):Int))) Y (fO (xls (tv (tI (left - ((a.Word.size:Nat):Int))) Y) (VEv.int .i64 0)) (nt ?_)))
 refine cd ((left - ((a.Word.size:Nat):Int))<0) Y (fun fhc0=> ?_) fun fhc0=> ?_
 ·refine sr ?_
  refine fO (OF.assign (VEv.int .i64 (-1))) (nt (rt (tr (vi (n':=(-1)) Y ?_))))
  exact YX (by simp only [Za];omega)
 refine sk (tn (sr (mO (tI (left - ((a.Word.size:Nat):Int))) Y (aO (tI (left - ((a.Word.size:Nat):Int))) Y (nt (rt (vi (n':=(left - ((a.Word.size:Nat):Int))) Y ?_)))))))
 rw [← Qbp (z:=Za a) (l:=left) (by simp only [Za];omega)]
 all_goals first | rfl | (simp only [Za];done) | (simp only [Za];omega)
theorem QdX (n:Nat) (a:List D.Meaning) (left:Int) (h0:0≤left) (h1:left≤(mx:Int)) (hg:a.length≤maxLen∧∀x∈a,Qdl x):Pure (Qo Tryz.prog (n+2)) 7 [(rd 2 Qb a),(tI left)] (tI (Q5 (zL Za a) left)):=by
 refine Pure.intro (rs:= [ResultVar.tmp 4]) Tryz.func7 Y Y Y (E0:= [(0,(rd 2 Qb a)),(1,(tI left))]) Y ?_
 obtain ⟨hlim,hmx,hmax⟩:=Qz
 obtain ⟨hg1,hg2⟩:=hg
 refine sr (fO (OF.assign (VEv.int .i64 0)) (nt (sr (mO (tI left) Y (mO (rd 2 Qb a) Y (lO (B.lenR (m:=a.length) (tv (rd 2 Qb a) Y) U29 (List.length_map ..)) (fO (B.sub (n:=(left - ((a.length:Nat):Int))) (tv (tI left) Y) (tv (tN a.length) Y) (by first | exact hg2 _ (List.mem_of_getElem? hx1) | rfl | (rw [Qs (by omega)];omega) | (rw [Qs (by omega)];done))) (aO (tI (left - ((a.length:Nat):Int))) Y (nt (sq (sr ?_)))))))))))
 refine mO (tI (left - ((a.length:Nat):Int))) Y (fO (xls (tv (tI (left - ((a.length:Nat):Int))) Y) (VEv.int .i64 0)) (nt ?_))
 refine cd ((left - ((a.length:Nat):Int))<0) Y (fun fhc0=> ?_) fun fhc0=> ?_
 ·refine sr ?_
  refine fO (OF.assign (VEv.int .i64 (-1))) (nt (rt (tr (vi (n':=(-1)) Y ?_))))
  exact SzI.early fhc0
 refine sk (tn (sq (sr (fO (OF.assign (VEv.int .i64 0)) (nt (VRun.block ?_))))))
 refine VRun.loop (A:=Nat×Int) (fun s_=> [(0,(rd 2 Qb a)),(1,(tI s_.2)),(5,(tN s_.1))]) (fun s_=>QV []) 0 (fun s_=>SzI Za a left s_.1 s_.2) (fun s_=>a.length - s_.1) ((0,left - (a.length:Int)):Nat×Int) ?_ (Wk.mk (fun k=>k) ?_ ?_ ?_) ?_
 ·exact SzI.start h1 fhc0
 ·exact (b2 (bc ⟨(congrArg (T.int .i64) (show (left - ((a.length:Nat):Int))=(left - (a.length:Int)) from (by first | rfl | omega | (simp;done) | (push_cast;omega)))),rfl⟩ (b2 bn)))
 ·exact bn
 ·exact nd Y
 rintro ⟨i,r⟩ (hI':SzI Za a left i r)
 show VRun _ _ _ [(0,(rd 2 Qb a)),(1,(tI r)),(5,(tN i))] (QV []) 0 _
 have hI2:=hI'.1
 have hI3:=hI'.2.1
 have hI4:=hI'.2.2.1
 refine sq (sr (mO (tN i) Y (mO (rd 2 Qb a) Y (lO (B.lenR (m:=a.length) (tv (rd 2 Qb a) Y) U29 (List.length_map ..)) (fO (Q9 (tv (tN i) Y) (tv (tN a.length) Y)) (nt ?_))))))
 refine cd (i<a.length) Y (fun fhc1=> ?_) fun fhc1=> ?_
 ·refine sk ?_
  refine tn (sq (VRun.block (sr (mO (rd 2 Qb a) Y (mO (tN i) Y ?_)))))
  obtain ⟨x1,hx1⟩:∃x,a[i]? =some x:=⟨_,List.getElem?_eq_getElem (by first | exact hg2 _ (List.mem_of_getElem? hx1) | omega)⟩
  refine fO (OF.indexAddrR (row:=(Qb false x1)) (i:=i) (tv (rd 2 Qb a) Y) (tv (tN i) Y) Y (Qu _ hx1) U29 Qne Qo2) (lO (OL.loadRn (us:=(Qb false x1)) (tv (T.rp (Qb false x1)) Y) Qpm Qne (lb Y) Y) (mO (tI r) Y (cO (cS (vc (tv (T.agg (Qb false x1)) Y) (vc (tv (tI r) Y) vn)) (LendL.cons (lg okeMeaning) (lp Y ln)) (Qd9 (n+0) x1 r (by first | exact hg2 _ (List.mem_of_getElem? hx1) | assumption | omega) (by first | exact hg2 _ (List.mem_of_getElem? hx1) | assumption | omega) (by first | exact hg2 _ (List.mem_of_getElem? hx1) | assumption | omega)) Y Y) (aO (tI (Q5 (Za x1) r)) Y (nt (sr (mO (tI (Q5 (Za x1) r)) Y (fO (xls (tv (tI (Q5 (Za x1) r)) Y) (VEv.int .i64 0)) (nt ?_)))))))))
  refine cd (Q5 (Za x1) r<0) Y (fun fhc2=> ?_) fun fhc2=> ?_
  ·refine sr ?_
   refine fO (OF.assign (VEv.int .i64 (-1))) (nt (rt (vinB.r (tr (tr (vinB.r (tr (vi (n':=(-1)) Y ?_))))))))
   exact hI'.bad hx1 fhc2
  refine sk (vinB.n (tn (VRun.region (mO (tN i) Y (fO (QB (tv (tN i) Y) (VEv.int .i64 1) (by first | exact hg2 _ (List.mem_of_getElem? hx1) | omega)) (aO (tN (i+1)) Y (VRunO.nil (tn ?_))))))))
  refine ⟨((i+1,Q5 (Za x1) r):Nat×Int),?_,?_,Wk.mk (fun k=>k) ?_ ?_ ?_⟩
  ·exact hI'.next hx1 fhc2
  ·first | omega | (simp only [];omega) | (show _<_;omega) | (simp;omega)
  ·exact (b2 (b2 (b2 bn)))
  ·exact bn
  ·exact nd Y
 refine VRun.exit (vthn.e (vthn.e (vinB.e (tn (sr (mO (tI r) Y (aO (tI r) Y (nt (rt (vi (n':=r) Y ?_))))))))))
 exact hI'.done fhc1
theorem Qfn (n:Nat) (a:D.Puzzle) (left:Int) (h0:0≤left) (h1:left≤(mx:Int)) (hg:QhV a):Pure (Qo Tryz.prog (n+5)) 6 [(T.agg (QF false a)),(tI left)] (tI (Q5 (QT a) left)):=by
 refine Pure.intro (rs:= [ResultVar.tmp 4]) Tryz.func6 Y Y Y (E0:= [(0,(T.agg (QF false a))),(1,(tI left))]) Y ?_
 obtain ⟨hlim,hmx,hmax⟩:=Qz
 obtain ⟨hg0,hg1,hg2,hg3⟩:=hg
 refine sr (kO (B.box (ts:=(QF false a)) (tv (T.agg (QF false a)) Y) nofun Y) (fO (OF.assign (VEv.int .i64 0)) (nt (sr (fO (OF.fieldAddrO (tv (T.op 0 0) Y) QlM) (lO (OL.loadOn (us:=(Qc false a.Grid)) (tv (T.op 0 0) Y) Y Qpn Qoe (lb Y) Y) (mO (tI left) Y (cO (cS (vc (tv (T.agg (Qc false a.Grid)) Y) (vc (tv (tI left) Y) vn)) (LendL.cons (lg Qx) (lp Y ln)) (QgR (n+3) a.Grid left (by first | assumption | omega) (by first | assumption | omega) (by first | assumption | omega)) Y Y) (aO (tI (Q5 (ZR a.Grid) left)) Y (nt (sq ?_)))))))))))
 refine sr (mO (tI (Q5 (ZR a.Grid) left)) Y (fO (xls (tv (tI (Q5 (ZR a.Grid) left)) Y) (VEv.int .i64 0)) (nt ?_)))
 refine cd (Q5 (ZR a.Grid) left<0) Y (fun fhc0=> ?_) fun fhc0=> ?_
 ·refine sr ?_
  refine fO (OF.assign (VEv.int .i64 (-1))) (nt (rt (tr (vi (n':=(-1)) Y ?_))))
  exact YX (by have hlt:=QcP fhc0;simp only [QT];omega)
 have hq0:=Yb fhc0
 refine sk (tn (sr (lf (rd 2 Qi a.Clues) Y QmH Y Y Qpe (mO (tI (Q5 (ZR a.Grid) left)) Y (cO (cS (vc (tv (rd 2 Qi a.Clues) Y) (vc (tv (tI (Q5 (ZR a.Grid) left)) Y) vn)) (Zg Y) (QfH (n+0) a.Clues (Q5 (ZR a.Grid) left) (by first | assumption | omega) (by first | assumption | omega) (by first | assumption | omega)) Y Y) (aO (tI (Q5 (zL QO a.Clues) (Q5 (ZR a.Grid) left))) Y (nt (sq (sr (mO (tI (Q5 (zL QO a.Clues) (Q5 (ZR a.Grid) left))) Y (fO (xls (tv (tI (Q5 (zL QO a.Clues) (Q5 (ZR a.Grid) left))) Y) (VEv.int .i64 0)) ?_)))))))))))
 refine nt ?_
 refine cd (Q5 (zL QO a.Clues) (Q5 (ZR a.Grid) left)<0) Y (fun fhc1=> ?_) fun fhc1=> ?_
 ·refine sr ?_
  refine fO (OF.assign (VEv.int .i64 (-1))) (nt (rt (tr (vi (n':=(-1)) Y ?_))))
  exact YX (by have hlt:=QcP fhc1;simp only [QT];omega)
 have hq1:=Yb fhc1
 refine sk (tn (sr (lf (rd 1 Qe a.Seals) Y Qmo Y Y QeD (mO (tI (Q5 (zL QO a.Clues) (Q5 (ZR a.Grid) left))) Y (cO (cS (vc (tv (rd 1 Qe a.Seals) Y) (vc (tv (tI (Q5 (zL QO a.Clues) (Q5 (ZR a.Grid) left))) Y) vn)) (Zg Y) (QgB (n+3) a.Seals (Q5 (zL QO a.Clues) (Q5 (ZR a.Grid) left)) (by first | assumption | omega) (by first | assumption | omega) (by first | assumption | omega)) Y Y) (aO (tI (Q5 (zL zI a.Seals) (Q5 (zL QO a.Clues) (Q5 (ZR a.Grid) left)))) Y (nt (sq (sr (mO (tI (Q5 (zL zI a.Seals) (Q5 (zL QO a.Clues) (Q5 (ZR a.Grid) left)))) Y (fO (xls (tv (tI (Q5 (zL zI a.Seals) (Q5 (zL QO a.Clues) (Q5 (ZR a.Grid) left)))) Y) (VEv.int .i64 0)) ?_)))))))))))
 refine nt ?_
 refine cd (Q5 (zL zI a.Seals) (Q5 (zL QO a.Clues) (Q5 (ZR a.Grid) left))<0) Y (fun fhc2=> ?_) fun fhc2=> ?_
 ·refine sr ?_
  refine fO (OF.assign (VEv.int .i64 (-1))) (nt (rt (tr (vi (n':=(-1)) Y ?_))))
  exact YX (by have hlt:=QcP fhc2;simp only [QT];omega)
 have hq2:=Yb fhc2
 refine sk (tn (sr (mO (tI (Q5 (zL zI a.Seals) (Q5 (zL QO a.Clues) (Q5 (ZR a.Grid) left)))) Y (aO (tI (Q5 (zL zI a.Seals) (Q5 (zL QO a.Clues) (Q5 (ZR a.Grid) left)))) Y (nt (rt (vi (n':=Q5 (zL zI a.Seals) (Q5 (zL QO a.Clues) (Q5 (ZR a.Grid) left))) Y ?_)))))))
 rw [← Qbp (z:=QT a) (l:=left) (by simp only [QT];omega)]
 all_goals first | rfl | (simp only [QT];done) | (simp only [QT];omega)
theorem Qgg (n:Nat) (a:D.Issue) (left:Int) (h0:0≤left) (h1:left≤(mx:Int)) (hg:QjW a):Pure (Qo Tryz.prog (n+6)) 16 [(T.agg (QQ false a)),(tI left)] (tI (Q5 (QZ a) left)):=by
 refine Pure.intro (rs:= [ResultVar.tmp 4]) Tryz.func16 Y Y Y (E0:= [(0,(T.agg (QQ false a))),(1,(tI left))]) Y ?_
 obtain ⟨hlim,hmx,hmax⟩:=Qz
 obtain ⟨hg0,hg1,hg2,hg3,hg4⟩:=hg
 refine sr (kO (B.box (ts:=(QQ false a)) (tv (T.agg (QQ false a)) Y) nofun Y) (fO (OF.assign (VEv.int .i64 0)) (nt (sr (fO (OF.fieldAddrO (tv (T.op 0 0) Y) Qmd) (lO (OL.loadOn (us:=(QF false a.Puzzle)) (tv (T.op 0 1) Y) Y Qpu Qos (lb Y) Y) (mO (tI left) Y (cO (cS (vc (tv (T.agg (QF false a.Puzzle)) Y) (vc (tv (tI left) Y) vn)) (LendL.cons (lg Y5) (lp Y ln)) (Qfn (n+0) a.Puzzle left (by first | assumption | omega) (by first | assumption | omega) (by first | assumption | omega)) Y Y) (aO (tI (Q5 (QT a.Puzzle) left)) Y (nt (sq ?_)))))))))))
 refine sr (mO (tI (Q5 (QT a.Puzzle) left)) Y (fO (xls (tv (tI (Q5 (QT a.Puzzle) left)) Y) (VEv.int .i64 0)) (nt ?_)))
 refine cd (Q5 (QT a.Puzzle) left<0) Y (fun fhc0=> ?_) fun fhc0=> ?_
 ·refine sr ?_
  refine fO (OF.assign (VEv.int .i64 (-1))) (nt (rt (tr (vi (n':=(-1)) Y ?_))))
  exact YX (by have hlt:=QcP fhc0;simp only [QZ];omega)
 have hq0:=Yb fhc0
 refine sk (tn (sr (mO (tI (Q5 (QT a.Puzzle) left)) Y (lf (tS a.Fill) Y QlQ Y Y ZG (lO (B.lenS (tv (tS a.Fill) Y) U9) (fO (B.sub (n:=(Q5 (QT a.Puzzle) left - ((a.Fill.size:Nat):Int))) (tv (tI (Q5 (QT a.Puzzle) left)) Y) (tv (tN a.Fill.size) Y) (by first | rfl | (rw [Qs (by omega)];omega) | (rw [Qs (by omega)];done))) (aO (tI (Q5 (QT a.Puzzle) left - ((a.Fill.size:Nat):Int))) Y (nt (sq (sr (mO (tI (Q5 (QT a.Puzzle) left - ((a.Fill.size:Nat):Int))) Y ?_)))))))))))
 refine fO (xls (tv (tI (Q5 (QT a.Puzzle) left - ((a.Fill.size:Nat):Int))) Y) (VEv.int .i64 0)) (nt ?_)
 refine cd ((Q5 (QT a.Puzzle) left - ((a.Fill.size:Nat):Int))<0) Y (fun fhc1=> ?_) fun fhc1=> ?_
 ·refine sr ?_
  refine fO (OF.assign (VEv.int .i64 (-1))) (nt (rt (tr (vi (n':=(-1)) Y ?_))))
  exact YX (by simp only [QZ];omega)
 refine sk (tn (sr (mO (tI (Q5 (QT a.Puzzle) left - ((a.Fill.size:Nat):Int))) Y (aO (tI (Q5 (QT a.Puzzle) left - ((a.Fill.size:Nat):Int))) Y (nt (rt (vi (n':=(Q5 (QT a.Puzzle) left - ((a.Fill.size:Nat):Int))) Y ?_)))))))
 rw [← Qbp (z:=QZ a) (l:=left) (by simp only [QZ];omega)]
 all_goals first | rfl | (simp only [QZ];done) | (simp only [QZ];omega)
theorem Qcs (n:Nat) (a:D.Correction) (left:Int) (h0:0≤left) (h1:left≤(mx:Int)) (hg:QbW a):Pure (Qo Tryz.prog (n+4)) 17 [(T.agg (Qv false a)),(tI left)] (tI (Q5 (QC a) left)):=by
 refine Pure.intro (rs:= [ResultVar.tmp 4]) Tryz.func17 Y Y Y (E0:= [(0,(T.agg (Qv false a))),(1,(tI left))]) Y ?_
 obtain ⟨hlim,hmx,hmax⟩:=Qz
 obtain ⟨hg0,hg1,hg2,hg3⟩:=hg
 refine sr (kO (B.box (ts:=(Qv false a)) (tv (T.agg (Qv false a)) Y) nofun Y) (fO (OF.assign (VEv.int .i64 0)) (nt (sr (fO (OF.fieldAddrO (tv (T.op 0 0) Y) Qlu) (lO (OL.loadOn (us:=(Qi false a.Clue)) (tv (T.op 0 2) Y) Y Qnl QjE (lb Y) Y) (mO (tI left) Y (cO (cS (vc (tv (T.agg (Qi false a.Clue)) Y) (vc (tv (tI left) Y) vn)) (LendL.cons (lg okeClue) (lp Y ln)) (QcG (n+0) a.Clue left (by first | assumption | omega) (by first | assumption | omega) (by first | assumption | omega)) Y Y) (aO (tI (Q5 (QO a.Clue) left)) Y (nt (sq ?_)))))))))))
 refine sr (mO (tI (Q5 (QO a.Clue) left)) Y (fO (xls (tv (tI (Q5 (QO a.Clue) left)) Y) (VEv.int .i64 0)) (nt ?_)))
 refine cd (Q5 (QO a.Clue) left<0) Y (fun fhc0=> ?_) fun fhc0=> ?_
 ·refine sr ?_
  refine fO (OF.assign (VEv.int .i64 (-1))) (nt (rt (tr (vi (n':=(-1)) Y ?_))))
  exact YX (by have hlt:=QcP fhc0;simp only [QC];omega)
 have hq0:=Yb fhc0
 refine sk (tn (sr (mO (tI (Q5 (QO a.Clue) left)) Y (aO (tI (Q5 (QO a.Clue) left)) Y (nt (rt (vi (n':=Q5 (QO a.Clue) left) Y ?_)))))))
 rw [← Qbp (z:=QC a) (l:=left) (by simp only [QC];omega)]
 all_goals first | rfl | (simp only [QC];done) | (simp only [QC];omega)
theorem QeB (n:Nat) (a:List ByteArray) (left:Int) (h0:0≤left) (h1:left≤(mx:Int)) (hg:a.length≤maxLen∧∀x∈a,x.size≤maxLen):Pure (Qo Tryz.prog (n+1)) 18 [(rd 1 Qj a),(tI left)] (tI (Q5 (zL ByteArray.size a) left)):=by
 refine Pure.intro (rs:= [ResultVar.tmp 4]) Tryz.func18 Y Y Y (E0:= [(0,(rd 1 Qj a)),(1,(tI left))]) Y ?_
 obtain ⟨hlim,hmx,hmax⟩:=Qz
 obtain ⟨hg1,hg2⟩:=hg
 refine sr (fO (OF.assign (VEv.int .i64 0)) (nt (sr (mO (tI left) Y (mO (rd 1 Qj a) Y (lO (B.lenR (m:=a.length) (tv (rd 1 Qj a) Y) Jm (List.length_map ..)) (fO (B.sub (n:=(left - ((a.length:Nat):Int))) (tv (tI left) Y) (tv (tN a.length) Y) (by first | rfl | (rw [Qs (by omega)];omega) | (rw [Qs (by omega)];done))) (aO (tI (left - ((a.length:Nat):Int))) Y (nt (sq (sr ?_)))))))))))
 refine mO (tI (left - ((a.length:Nat):Int))) Y (fO (xls (tv (tI (left - ((a.length:Nat):Int))) Y) (VEv.int .i64 0)) (nt ?_))
 refine cd ((left - ((a.length:Nat):Int))<0) Y (fun fhc0=> ?_) fun fhc0=> ?_
 ·refine sr ?_
  refine fO (OF.assign (VEv.int .i64 (-1))) (nt (rt (tr (vi (n':=(-1)) Y ?_))))
  exact SzI.early fhc0
 refine sk (tn (sq (sr (fO (OF.assign (VEv.int .i64 0)) (nt (VRun.block ?_))))))
 refine VRun.loop (A:=Nat×Int) (fun s_=> [(0,(rd 1 Qj a)),(1,(tI s_.2)),(5,(tN s_.1))]) (fun s_=>QV []) 0 (fun s_=>SzI ByteArray.size a left s_.1 s_.2) (fun s_=>a.length - s_.1) ((0,left - (a.length:Int)):Nat×Int) ?_ (Wk.mk (fun k=>k) ?_ ?_ ?_) ?_
 ·exact SzI.start h1 fhc0
 ·exact (b2 (bc ⟨(congrArg (T.int .i64) (show (left - ((a.length:Nat):Int))=(left - (a.length:Int)) from (by first | rfl | omega | (simp;done) | (push_cast;omega)))),rfl⟩ (b2 bn)))
 ·exact bn
 ·exact nd Y
 rintro ⟨i,r⟩ (hI':SzI ByteArray.size a left i r)
 show VRun _ _ _ [(0,(rd 1 Qj a)),(1,(tI r)),(5,(tN i))] (QV []) 0 _
 have hI2:=hI'.1
 have hI3:=hI'.2.1
 have hI4:=hI'.2.2.1
 refine sq (sr (mO (tN i) Y (mO (rd 1 Qj a) Y (lO (B.lenR (m:=a.length) (tv (rd 1 Qj a) Y) Jm (List.length_map ..)) (fO (Q9 (tv (tN i) Y) (tv (tN a.length) Y)) (nt ?_))))))
 refine cd (i<a.length) Y (fun fhc1=> ?_) fun fhc1=> ?_
 ·refine sk ?_
  refine tn (sq (VRun.block (sr (mO (tI r) Y (mO (rd 1 Qj a) Y (mO (tN i) Y ?_))))))
  obtain ⟨x1,hx1⟩:∃x,a[i]? =some x:=⟨_,List.getElem?_eq_getElem (by omega)⟩
  have hz1:=hg2 _ (List.mem_of_getElem? hx1)
  refine fO (OF.indexAddrR (row:=(Qj false x1)) (i:=i) (tv (rd 1 Qj a) Y) (tv (tN i) Y) Y (Qu _ hx1) Jm Ji if9) (lO (OL.loadR1 (t:=(tS x1)) (tv (T.rp [(tS x1)]) Y) Y ZG) (lO (B.lenS (tv (tS x1) Y) U9) (fO (B.sub (n:=(r - ((x1.size:Nat):Int))) (tv (tI r) Y) (tv (tN x1.size) Y) (by first | rfl | (rw [Qs (by omega)];omega) | (rw [Qs (by omega)];done))) (aO (tI (r - ((x1.size:Nat):Int))) Y (nt (sr (mO (tI (r - ((x1.size:Nat):Int))) Y (fO (xls (tv (tI (r - ((x1.size:Nat):Int))) Y) (VEv.int .i64 0)) (nt ?_)))))))))
  refine cd ((r - ((x1.size:Nat):Int))<0) Y (fun fhc2=> ?_) fun fhc2=> ?_
  ·refine sr ?_
   refine fO (OF.assign (VEv.int .i64 (-1))) (nt (rt (vinB.r (tr (tr (vinB.r (tr (vi (n':=(-1)) Y ?_))))))))
   exact hI'.bad' hx1 fhc2
  refine sk (vinB.n (tn (VRun.region (mO (tN i) Y (fO (QB (tv (tN i) Y) (VEv.int .i64 1) (by omega)) (aO (tN (i+1)) Y (VRunO.nil (tn ?_))))))))
  refine ⟨((i+1,r - (x1.size:Int)):Nat×Int),?_,?_,Wk.mk (fun k=>k) ?_ ?_ ?_⟩
  ·exact hI'.next' hx1 fhc2
  ·first | omega | (simp only [];omega) | (show _<_;omega) | (simp;omega)
  ·exact (b2 (bc ⟨(congrArg (T.int .i64) (show (r - ((x1.size:Nat):Int))=(r - (x1.size:Int)) from (by first | rfl | omega | (simp;done) | (push_cast;omega)))),rfl⟩ (b2 bn)))
  ·exact bn
  ·exact nd Y
 refine VRun.exit (vthn.e (vthn.e (vinB.e (tn (sr (mO (tI r) Y (aO (tI r) Y (nt (rt (vi (n':=r) Y ?_))))))))))
 exact hI'.done fhc1
theorem QgG (n:Nat) (a:List Int) (ha:a.length≤mx):Pure (Qo Tryz.prog (n+1)) 40 [(rd 1 Qe a)] (T.sl true 1 (a.map (Qe true))):=by
 refine Pure.intro (rs:= [ResultVar.tmp 2]) Tryz.func40 Y Y Y (E0:= [(0,(rd 1 Qe a))]) Y ?_
 obtain ⟨hlim,hmx,hmax⟩:=Qz
 refine sr (fO (OF.assign VEv.nils) (nt (sr (mO (rd 1 Qe a) Y (lO (B.lenR (m:=a.length) (tv (rd 1 Qe a) Y) Yi (List.length_map ..)) (kO (B.makeZ (n:=a.length) (m:=((List.replicate a.length 0).map (Qe true)).length) (rows:=((List.replicate a.length 0).map (Qe true))) (zr:=(Qe true 0)) (tv (tN a.length) Y) (tv (tN a.length) Y) Y Yi zo3 zc3 Y (by rw [ZJ];decide) (by first | omega | (simp only [List.length_map];omega) | (simp only [List.length_map,List.length_append,List.length_cons,List.length_nil,List.length_replicate,List.length_set,List.length_drop,List.length_take,Zk] at *;omega)) (of_decide_eq_true (by kernel_rfl)) (Z0.int Z0.nil) ZJ (List.map_replicate ..).symm (by rw [List.length_map,List.length_replicate])) (aO (T.os 1 0 0 (((List.replicate a.length 0).map (Qe true)).length)) Y (nt (sq (sr (fO (OF.assign (VEv.int .i64 0)) ?_)))))))))))
 refine nt (VRun.block ?_)
 have he1:(List.replicate a.length 0)=(a.take 0++List.replicate (a.length - 0) 0):=by first | rfl | (exact Y6 hx1) | (simp;done) | omega
 refine VRun.loop (A:=Nat) (fun s_=> [(0,(rd 1 Qe a)),(2,T.nils),(3,(T.os 1 0 0 (((a.take s_++List.replicate (a.length - s_) 0).map (Qe true)).length))),(4,(tN s_))]) (fun s_=>QV [(0,(Obj.rows 1 ((a.take s_++List.replicate (a.length - s_) 0).map (Qe true))))]) 1 (fun s_=>s_≤a.length) (fun s_=>a.length - s_) (0:Nat) ?_ (Wk.mk (fun k=>k) ?_ ?_ ?_) ?_
 ·first | trivial | (simp;done) | omega | (constructor<;>simp)
 ·exact (b2 (b2 (bc ⟨(congrArg (fun l_=>T.os 1 0 0 (List.map (Qe true) l_).length) he1),rfl⟩ (b2 bn))))
 ·exact (bc ⟨(congrArg (fun l_=>some (Obj.rows 1 (List.map (Qe true) l_))) he1),(lb Y),rfl⟩ bn)
 ·exact nd Y
 rintro i (hI':i≤a.length)
 show VRun _ _ _ [(0,(rd 1 Qe a)),(2,T.nils),(3,(T.os 1 0 0 (((a.take i++List.replicate (a.length - i) 0).map (Qe true)).length))),(4,(tN i))] (QV [(0,(Obj.rows 1 ((a.take i++List.replicate (a.length - i) 0).map (Qe true))))]) 1 _
 have hfl:=QdD (w:=0) hI'
 refine sq (sr (mO (tN i) Y (mO (rd 1 Qe a) Y (lO (B.lenR (m:=a.length) (tv (rd 1 Qe a) Y) Yi (List.length_map ..)) (fO (Q9 (tv (tN i) Y) (tv (tN a.length) Y)) (nt ?_))))))
 refine cd (i<a.length) Y (fun fhc0=> ?_) fun fhc0=> ?_
 ·refine sk ?_
  refine tn (sq (VRun.block (VRun.region (mO (T.os 1 0 0 (((a.take i++List.replicate (a.length - i) 0).map (Qe true)).length)) Y (mO (tN i) Y (mO (rd 1 Qe a) Y (mO (tN i) Y ?_)))))))
  obtain ⟨x1,hx1⟩:∃x,a[i]? =some x:=⟨_,List.getElem?_eq_getElem (by omega)⟩
  refine fO (OF.indexAddrR (row:=(Qe false x1)) (i:=i) (tv (rd 1 Qe a) Y) (tv (tN i) Y) Y (Qu _ hx1) Yi ZJ Y8) (lO (OL.loadR1 (t:=(tI x1)) (tv (T.rp [(tI x1)]) Y) Y QS) ?_)
  obtain ⟨x2,hx2⟩:∃x,(a.take i++List.replicate (a.length - i) 0)[i]? =some x:=⟨_,List.getElem?_eq_getElem (by first | omega | (simp only [List.length_map];omega) | (simp only [List.length_map,List.length_append,List.length_cons,List.length_nil,List.length_replicate,List.length_set,List.length_drop,List.length_take,Zk] at *;omega))⟩
  refine fO (B.indexAddrO (i:=i) (tv (T.os 1 0 0 (((a.take i++List.replicate (a.length - i) 0).map (Qe true)).length)) Y) (tv (tN i) Y) Y (by first | omega | (simp only [List.length_map];omega) | (simp only [List.length_map,List.length_append,List.length_cons,List.length_nil,List.length_replicate,List.length_set,List.length_drop,List.length_take,Zk] at *;omega)) Yi ZJ Y8) (cO (B.storeP (us:= [(tI x1)]) (rows':=(((a.take i++List.replicate (a.length - i) 0).set i x1).map (Qe true))) (row:=(Qe true x2)) (tv (T.orp 1 0 i 0) Y) (tv (tI x1) Y) nofun Y (Qu _ hx2) Y (lb Y) Y8 ZJ (bc Y bn) (by intro r hr t ht;obtain ⟨x,_,rfl⟩:=List.mem_map.1 hr;rw [QoS] at ht;exact ZZ (okInt.pl _ t ht)) (Yc Y)) (VRunO.nil (vinB.n (tn (VRun.region (mO (tN i) Y (fO (QB (tv (tN i) Y) (VEv.int .i64 1) (by omega)) (aO (tN (i+1)) Y (VRunO.nil (tn ?_))))))))))
  have he2:((a.take i++List.replicate (a.length - i) 0).set i x1)=(a.take (i+1)++List.replicate (a.length - (i+1)) 0):=by first | rfl | (exact Y6 hx1) | (simp;done) | omega
  refine ⟨(i+1:Nat),?_,?_,Wk.mk (fun k=>k) ?_ ?_ ?_⟩
  ·first | trivial | omega | (simp;done) | exact ⟨by omega,hI'.2⟩
  ·first | omega | (simp only [];omega) | (show _<_;omega) | (simp;omega)
  ·exact (b2 (b2 (bc ⟨(congrArg (fun n_=>T.os 1 0 0 n_) (show ((a.take i++List.replicate (a.length - i) 0).map (Qe true)).length=((a.take (i+1)++List.replicate (a.length - (i+1)) 0).map (Qe true)).length from (by first | rfl | (simp only [List.length_map];omega) | (simp only [List.length_map,List.length_set,List.length_append,List.length_take,List.length_replicate,List.length_cons,List.length_nil];omega)))),rfl⟩ (b2 bn))))
  ·exact (bc ⟨(congrArg (fun l_=>some (Obj.rows 1 (List.map (Qe true) l_))) he2),(lb Y),rfl⟩ bn)
  ·exact nd Y
 refine VRun.exit (vthn.e (vthn.e (vinB.e (tn (sr (mO (T.os 1 0 0 (((a.take i++List.replicate (a.length - i) 0).map (Qe true)).length)) Y (aO (T.os 1 0 0 (((a.take i++List.replicate (a.length - i) 0).map (Qe true)).length)) Y (nt (rt ?_)))))))))
 refine vfin.eq (r':=(T.sl true 1 ((a.take i++List.replicate (a.length - i) 0).map (Qe true)))) ?_ (vfin.r (VRes.tmp (t:=(T.os 1 0 0 (((a.take i++List.replicate (a.length - i) 0).map (Qe true)).length))) Y VRes.nil) (Give.os Y Y (okInt.cleanMap _)))
 refine congrArg (fun l_=>T.sl true 1 (List.map (Qe true) l_)) ?_
 exact Qa9 fhc0
theorem QgY (n:Nat) (a:D.Grid):Pure (Qo Tryz.prog (n+1)) 38 [(T.agg (Qc false a))] (T.agg (Qc true a)):=by
 refine Pure.intro (rs:= [ResultVar.cell 2 36]) Tryz.func38 Y Y Y (E0:= [(0,(T.agg (Qc false a)))]) Y ?_
 obtain ⟨hlim,hmx,hmax⟩:=Qz
 refine sr (kO (B.box (ts:=(Qc false a)) (tv (T.agg (Qc false a)) Y) nofun Y) (kO (B.alloc (t:=(T.agg [(tN 0),(tN 0),(tS ByteArray.empty)])) (ts:= [(tN 0),(tN 0),(tS ByteArray.empty)]) Qk2 QmW nofun (fun _=> .agg _ _ Y (YS (RL.cons (.int _ _) (RL.cons (.int _ _) (RL.cons (.str _) (RL.nil _)))))) Y) (nt (sr (kO (B.alloc (t:=(T.agg [(tN 0),(tN 0),(tS ByteArray.empty)])) (ts:= [(tN 0),(tN 0),(tS ByteArray.empty)]) Qk2 QmW nofun (fun _=> .agg _ _ Y (YS (RL.cons (.int _ _) (RL.cons (.int _ _) (RL.cons (.str _) (RL.nil _)))))) Y) (nt (sr (lf (tI a.Rows) Y QoK Y Y QS (fO (OF.fieldAddrO (tv (T.op 2 0) Y) QaM) (cO (B.storeO (us:= [(tI a.Rows)]) (ws:= [(tI a.Rows),(tN 0),(tS ByteArray.empty)]) (tv (T.op 2 0) Y) (tv (tI a.Rows) Y) nofun Y Y (lb Y) Y8 ZJ (bc Y bn) Y) (nt ?_)))))))))))
 refine sr (lf (tI a.Cols) Y QnV Y Y QS (fO (OF.fieldAddrO (tv (T.op 2 0) Y) ZD) (cO (B.storeO (us:= [(tI a.Cols)]) (ws:= [(tI a.Rows),(tI a.Cols),(tS ByteArray.empty)]) (tv (T.op 2 1) Y) (tv (tI a.Cols) Y) nofun Y Y (lb Y) Y8 ZJ (bc Y bn) Y) (nt (sr (lf (tS a.Cells) Y QlX Y Y ZG (fO (OF.fieldAddrO (tv (T.op 2 0) Y) QL) (cO (B.storeO (us:= [(tS a.Cells)]) (ws:= [(tI a.Rows),(tI a.Cols),(tS a.Cells)]) (tv (T.op 2 2) Y) (tv (tS a.Cells) Y) nofun Y Y (lb Y) if9 Ji (bc Y bn) Y) (nt (sr (lO (OL.loadOn (us:=(Qc false a)) (tv (T.op 2 0) Y) Y Q6 Q0 (lb Y) Y) ?_)))))))))))
 refine cO (B.storeW (us:=(Qc false a)) (tv (T.op 1 0) Y) (tv (T.agg (Qc false a)) Y) nofun Y Y Y QjU Q0 (bc Y (bc Y (bc Y bn)))) (nt (rt ?_))
 refine vfin.eq (r':=(T.agg (Qc false a))) ?_ (vfin.r (VRes.celln (ws:=(Qc false a)) Y Y Q6 Q0 (lb Y) Y VRes.nil) (Give.agg (GiveL.cons (Give.int _ _) (GiveL.cons (Give.int _ _) (GiveL.cons (Give.str _) GiveL.nil (by decide)) (by decide)) (by decide))))
 rfl
theorem QgI (n:Nat) (a:D.Step):Pure (Qo Tryz.prog (n+1)) 124 [(T.agg (Qd false a))] (T.agg (Qd true a)):=by
 refine Pure.intro (rs:= [ResultVar.cell 2 145]) Tryz.func124 Y Y Y (E0:= [(0,(T.agg (Qd false a)))]) Y ?_
 obtain ⟨hlim,hmx,hmax⟩:=Qz
 refine sr (kO (B.box (ts:=(Qd false a)) (tv (T.agg (Qd false a)) Y) nofun Y) (kO (B.alloc (t:=(T.agg [(tN 0),(tS ByteArray.empty),(tN 0),(tN 0)])) (ts:= [(tN 0),(tS ByteArray.empty),(tN 0),(tN 0)]) QeR QeQ nofun (fun _=> .agg _ _ Y (YS (RL.cons (.int _ _) (RL.cons (.str _) (RL.cons (.int _ _) (RL.cons (.int _ _) (RL.nil _))))))) Y) (nt (sr (kO (B.alloc (t:=(T.agg [(tN 0),(tS ByteArray.empty),(tN 0),(tN 0)])) (ts:= [(tN 0),(tS ByteArray.empty),(tN 0),(tN 0)]) QeR QeQ nofun (fun _=> .agg _ _ Y (YS (RL.cons (.int _ _) (RL.cons (.str _) (RL.cons (.int _ _) (RL.cons (.int _ _) (RL.nil _))))))) Y) (nt (sr (lf (tI a.Kind) Y Qm8 Y Y QS (fO (OF.fieldAddrO (tv (T.op 2 0) Y) Zf) (cO (B.storeO (us:= [(tI a.Kind)]) (ws:= [(tI a.Kind),(tS ByteArray.empty),(tN 0),(tN 0)]) (tv (T.op 2 0) Y) (tv (tI a.Kind) Y) nofun Y Y (lb Y) Y8 ZJ (bc Y bn) Y) (nt ?_)))))))))))
 refine sr (lf (tS a.Word) Y Qke Y Y ZG (fO (OF.fieldAddrO (tv (T.op 2 0) Y) Z3) (cO (B.storeO (us:= [(tS a.Word)]) (ws:= [(tI a.Kind),(tS a.Word),(tN 0),(tN 0)]) (tv (T.op 2 1) Y) (tv (tS a.Word) Y) nofun Y Y (lb Y) if9 Ji (bc Y bn) Y) (nt (sr (lf (tI a.A) Y QmO Y Y QS (fO (OF.fieldAddrO (tv (T.op 2 0) Y) ZC) (cO (B.storeO (us:= [(tI a.A)]) (ws:= [(tI a.Kind),(tS a.Word),(tI a.A),(tN 0)]) (tv (T.op 2 2) Y) (tv (tI a.A) Y) nofun Y Y (lb Y) Y8 ZJ (bc Y bn) Y) (nt (sr (lf (tI a.B) Y Qm0 Y Y QS ?_)))))))))))
 refine fO (OF.fieldAddrO (tv (T.op 2 0) Y) Z4) (cO (B.storeO (us:= [(tI a.B)]) (ws:= [(tI a.Kind),(tS a.Word),(tI a.A),(tI a.B)]) (tv (T.op 2 3) Y) (tv (tI a.B) Y) nofun Y Y (lb Y) Y8 ZJ (bc Y bn) Y) (nt (sr (lO (OL.loadOn (us:=(Qd false a)) (tv (T.op 2 0) Y) Y QbQ ZE (lb Y) Y) (cO (B.storeW (us:=(Qd false a)) (tv (T.op 1 0) Y) (tv (T.agg (Qd false a)) Y) nofun Y Y Y Yq ZE (bc Y (bc Y (bc Y (bc Y bn))))) (nt (rt ?_)))))))
 refine vfin.eq (r':=(T.agg (Qd false a))) ?_ (vfin.r (VRes.celln (ws:=(Qd false a)) Y Y QbQ ZE (lb Y) Y VRes.nil) (Give.agg (GiveL.cons (Give.int _ _) (GiveL.cons (Give.str _) (GiveL.cons (Give.int _ _) (GiveL.cons (Give.int _ _) GiveL.nil (by decide)) (by decide)) (by decide)) (by decide))))
 rfl
theorem Qgs (n:Nat) (a:List D.Step) (ha:a.length≤mx):Pure (Qo Tryz.prog (n+2)) 90 [(rd 4 Qd a)] (T.sl true 4 (a.map (Qd true))):=by
 refine Pure.intro (rs:= [ResultVar.tmp 2]) Tryz.func90 Y Y Y (E0:= [(0,(rd 4 Qd a))]) Y ?_
 obtain ⟨hlim,hmx,hmax⟩:=Qz
 refine sr (fO (OF.assign VEv.nils) (nt (sr (mO (rd 4 Qd a) Y (lO (B.lenR (m:=a.length) (tv (rd 4 Qd a) Y) U49 (List.length_map ..)) (kO (B.makeZ (n:=a.length) (m:=((List.replicate a.length (D.Step.mk 0 ByteArray.empty 0 0)).map (Qd true)).length) (rows:=((List.replicate a.length (D.Step.mk 0 ByteArray.empty 0 0)).map (Qd true))) (zr:=(Qd true (D.Step.mk 0 ByteArray.empty 0 0))) (tv (tN a.length) Y) (tv (tN a.length) Y) Y U62 QeR QeQ Y (by rw [ZE];decide) (by omega) (of_decide_eq_true (by kernel_rfl)) (Z0.int (Z0.str (Z0.int (Z0.int Z0.nil)))) ZE (List.map_replicate ..).symm (by rw [List.length_map,List.length_replicate])) (aO (T.os 4 0 0 (((List.replicate a.length (D.Step.mk 0 ByteArray.empty 0 0)).map (Qd true)).length)) Y (nt (sq (sr (fO (OF.assign (VEv.int .i64 0)) ?_)))))))))))
 refine nt (VRun.block ?_)
 have he1:(List.replicate a.length (D.Step.mk 0 ByteArray.empty 0 0))=(a.take 0++List.replicate (a.length - 0) (D.Step.mk 0 ByteArray.empty 0 0)):=by rfl
 refine VRun.loop (A:=Nat) (fun s_=> [(0,(rd 4 Qd a)),(2,T.nils),(3,(T.os 4 0 0 (((a.take s_++List.replicate (a.length - s_) (D.Step.mk 0 ByteArray.empty 0 0)).map (Qd true)).length))),(4,(tN s_))]) (fun s_=>QV [(0,(Obj.rows 4 ((a.take s_++List.replicate (a.length - s_) (D.Step.mk 0 ByteArray.empty 0 0)).map (Qd true))))]) 1 (fun s_=>s_≤a.length) (fun s_=>a.length - s_) (0:Nat) ?_ (Wk.mk (fun k=>k) ?_ ?_ ?_) ?_
 ·(simp;done)
 ·exact (b2 (b2 (bc ⟨(congrArg (fun l_=>T.os 4 0 0 (List.map (Qd true) l_).length) he1),rfl⟩ (b2 bn))))
 ·exact (bc ⟨(congrArg (fun l_=>some (Obj.rows 4 (List.map (Qd true) l_))) he1),(lb Y),rfl⟩ bn)
 ·exact nd Y
 rintro i (hI':i≤a.length)
 show VRun _ _ _ [(0,(rd 4 Qd a)),(2,T.nils),(3,(T.os 4 0 0 (((a.take i++List.replicate (a.length - i) (D.Step.mk 0 ByteArray.empty 0 0)).map (Qd true)).length))),(4,(tN i))] (QV [(0,(Obj.rows 4 ((a.take i++List.replicate (a.length - i) (D.Step.mk 0 ByteArray.empty 0 0)).map (Qd true))))]) 1 _
 have hfl:=QdD (w:=(D.Step.mk 0 ByteArray.empty 0 0)) hI'
 refine sq (sr (mO (tN i) Y (mO (rd 4 Qd a) Y (lO (B.lenR (m:=a.length) (tv (rd 4 Qd a) Y) U49 (List.length_map ..)) (fO (Q9 (tv (tN i) Y) (tv (tN a.length) Y)) (nt ?_))))))
 refine cd (i<a.length) Y (fun fhc0=> ?_) fun fhc0=> ?_
 ·refine sk ?_
  refine tn (sq (VRun.block (VRun.region (mO (T.os 4 0 0 (((a.take i++List.replicate (a.length - i) (D.Step.mk 0 ByteArray.empty 0 0)).map (Qd true)).length)) Y (mO (tN i) Y (mO (rd 4 Qd a) Y (mO (tN i) Y ?_)))))))
  obtain ⟨x1,hx1⟩:∃x,a[i]? =some x:=⟨_,List.getElem?_eq_getElem (by omega)⟩
  refine fO (OF.indexAddrR (row:=(Qd false x1)) (i:=i) (tv (rd 4 Qd a) Y) (tv (tN i) Y) Y (Qu _ hx1) U49 Qkd QnE) (lO (OL.loadRn (us:=(Qd false x1)) (tv (T.rp (Qd false x1)) Y) Qnu Qkd (lb Y) Y) (cO (cS (vc (tv (T.agg (Qd false x1)) Y) vn) (LendL.cons (lg okeStep) ln) (QgI (n+0) x1) Y Y) ?_))
  obtain ⟨x2,hx2⟩:∃x,(a.take i++List.replicate (a.length - i) (D.Step.mk 0 ByteArray.empty 0 0))[i]? =some x:=⟨_,List.getElem?_eq_getElem (by omega)⟩
  refine fO (B.indexAddrO (i:=i) (tv (T.os 4 0 0 (((a.take i++List.replicate (a.length - i) (D.Step.mk 0 ByteArray.empty 0 0)).map (Qd true)).length)) Y) (tv (tN i) Y) Y (by (simp only [List.length_map];omega)) U62 ZE Yq) (cO (B.storeP (us:=(Qd true x1)) (rows':=(((a.take i++List.replicate (a.length - i) (D.Step.mk 0 ByteArray.empty 0 0)).set i x1).map (Qd true))) (row:=(Qd true x2)) (tv (T.orp 4 0 i 0) Y) (tv (T.agg (Qd true x1)) Y) nofun Y (Qu _ hx2) Y (lb Y) Yq ZE (bc Y (bc Y (bc Y (bc Y bn)))) (by intro r hr t ht;obtain ⟨x,_,rfl⟩:=List.mem_map.1 hr;rw [Qov] at ht;exact ZZ (okeStep.pl _ t ht)) (Yc Y)) (VRunO.nil (vinB.n (tn (VRun.region (mO (tN i) Y (fO (QB (tv (tN i) Y) (VEv.int .i64 1) (by omega)) (aO (tN (i+1)) Y (VRunO.nil (tn ?_))))))))))
  have he2:((a.take i++List.replicate (a.length - i) (D.Step.mk 0 ByteArray.empty 0 0)).set i x1)=(a.take (i+1)++List.replicate (a.length - (i+1)) (D.Step.mk 0 ByteArray.empty 0 0)):=by exact Y6 hx1
  refine ⟨(i+1:Nat),?_,?_,Wk.mk (fun k=>k) ?_ ?_ ?_⟩
  ·trivial
  ·omega
  ·exact (b2 (b2 (bc ⟨(congrArg (fun n_=>T.os 4 0 0 n_) (show ((a.take i++List.replicate (a.length - i) (D.Step.mk 0 ByteArray.empty 0 0)).map (Qd true)).length=((a.take (i+1)++List.replicate (a.length - (i+1)) (D.Step.mk 0 ByteArray.empty 0 0)).map (Qd true)).length from (by (simp only [List.length_map,List.length_set,List.length_append,List.length_take,List.length_replicate,List.length_cons,List.length_nil];omega)))),rfl⟩ (b2 bn))))
  ·exact (bc ⟨(congrArg (fun l_=>some (Obj.rows 4 (List.map (Qd true) l_))) he2),(lb Y),rfl⟩ bn)
  ·exact nd Y
 refine VRun.exit (vthn.e (vthn.e (vinB.e (tn (sr (mO (T.os 4 0 0 (((a.take i++List.replicate (a.length - i) (D.Step.mk 0 ByteArray.empty 0 0)).map (Qd true)).length)) Y (aO (T.os 4 0 0 (((a.take i++List.replicate (a.length - i) (D.Step.mk 0 ByteArray.empty 0 0)).map (Qd true)).length)) Y (nt (rt ?_)))))))))
 refine vfin.eq (r':=(T.sl true 4 ((a.take i++List.replicate (a.length - i) (D.Step.mk 0 ByteArray.empty 0 0)).map (Qd true)))) ?_ (vfin.r (VRes.tmp (t:=(T.os 4 0 0 (((a.take i++List.replicate (a.length - i) (D.Step.mk 0 ByteArray.empty 0 0)).map (Qd true)).length))) Y VRes.nil) (Give.os Y Y (okeStep.cleanMap _)))
 refine congrArg (fun l_=>T.sl true 4 (List.map (Qd true) l_)) ?_
 exact Qa9 fhc0
theorem QcD (n:Nat) (a:D.Clue) (ha:QO a≤mx):Pure (Qo Tryz.prog (n+3)) 58 [(T.agg (Qi false a))] (T.agg (Qi true a)):=by
 refine Pure.intro (rs:= [ResultVar.cell 2 64]) Tryz.func58 Y Y Y (E0:= [(0,(T.agg (Qi false a)))]) Y ?_
 obtain ⟨hlim,hmx,hmax⟩:=Qz
 simp only [QO] at ha
 have hla_Play:=Q1 (z:=Zc) a.Play
 refine sr (kO (B.box (ts:=(Qi false a)) (tv (T.agg (Qi false a)) Y) nofun Y) (kO (B.alloc (t:=(T.agg [(tN 0),T.nils])) (ts:= [(tN 0),T.nils]) QoA QnP nofun (fun _=> .agg _ _ Y (YS (RL.cons (.int _ _) (RL.cons (.nils) (RL.nil _))))) Y) (nt (sr (kO (B.alloc (t:=(T.agg [(tN 0),T.nils])) (ts:= [(tN 0),T.nils]) QoA QnP nofun (fun _=> .agg _ _ Y (YS (RL.cons (.int _ _) (RL.cons (.nils) (RL.nil _))))) Y) (nt (sr (lf (tI a.Sense) Y Qof Y Y QS (fO (OF.fieldAddrO (tv (T.op 2 0) Y) Qbz) (cO (B.storeO (us:= [(tI a.Sense)]) (ws:= [(tI a.Sense),T.nils]) (tv (T.op 2 0) Y) (tv (tI a.Sense) Y) nofun Y Y (lb Y) Y8 ZJ (bc Y bn) Y) (nt ?_)))))))))))
 refine sr (lf (rd 4 Qd a.Play) Y Qmc Y Y Qpw (cO (OC.callF (r':=(T.os 4 3 0 ((a.Play.map (Qd true)).length))) (objs:= [(Obj.rows 4 (a.Play.map (Qd true)))]) Y (vc (tv (rd 4 Qd a.Play) Y) vn) (Zg Y) (Qgs (n+0) a.Play (by omega)) Y) (fO (OF.fieldAddrO (tv (T.op 2 0) Y) Qac) (cO (B.storeO (us:= [(T.os 4 3 0 ((a.Play.map (Qd true)).length))]) (ws:= [(tI a.Sense),(T.os 4 3 0 ((a.Play.map (Qd true)).length))]) (tv (T.op 2 1) Y) (tv (T.os 4 3 0 ((a.Play.map (Qd true)).length)) Y) nofun Y Y (lb Y) Qpp Qpd (bc Y bn) Y) (nt (sr (lO (OL.loadOn (us:= [(tI a.Sense),(T.os 4 3 0 ((a.Play.map (Qd true)).length))]) (tv (T.op 2 0) Y) Y Qbx Y7 (lb Y) Y) (cO (B.storeW (us:= [(tI a.Sense),(T.os 4 3 0 ((a.Play.map (Qd true)).length))]) (tv (T.op 1 0) Y) (tv (T.agg [(tI a.Sense),(T.os 4 3 0 ((a.Play.map (Qd true)).length))]) Y) nofun Y Y Y QhX Y7 (bc Y (bc Y bn))) (nt (rt ?_))))))))))
 refine vfin.eq (r':=(T.agg [(tI a.Sense),(T.sl true 4 (a.Play.map (Qd true)))])) ?_ (vfin.r (VRes.celln (ws:= [(tI a.Sense),(T.os 4 3 0 ((a.Play.map (Qd true)).length))]) Y Y Qbx Y7 (lb Y) Y VRes.nil) (Give.agg (GiveL.cons (Give.int _ _) (GiveL.cons (Give.os Y Y (okeStep.cleanMap _)) GiveL.nil (by decide)) (by decide))))
 rfl
theorem QfY (n:Nat) (a:List D.Clue) (ha:zL QO a≤mx):Pure (Qo Tryz.prog (n+4)) 39 [(rd 2 Qi a)] (T.sl true 2 (a.map (Qi true))):=by
 refine Pure.intro (rs:= [ResultVar.tmp 2]) Tryz.func39 Y Y Y (E0:= [(0,(rd 2 Qi a))]) Y ?_
 obtain ⟨hlim,hmx,hmax⟩:=Qz
 have hla:=Q1 (z:=QO) a
 refine sr (fO (OF.assign VEv.nils) (nt (sr (mO (rd 2 Qi a) Y (lO (B.lenR (m:=a.length) (tv (rd 2 Qi a) Y) U25 (List.length_map ..)) (kO (B.makeZ (n:=a.length) (m:=((List.replicate a.length (D.Clue.mk 0 [])).map (Qi true)).length) (rows:=((List.replicate a.length (D.Clue.mk 0 [])).map (Qi true))) (zr:=(Qi true (D.Clue.mk 0 []))) (tv (tN a.length) Y) (tv (tN a.length) Y) Y U37 QoA QnP Y (by rw [Y7];decide) (by omega) (of_decide_eq_true (by kernel_rfl)) (Z0.int (Z0.sl Z0.nil)) Y7 (List.map_replicate ..).symm (by rw [List.length_map,List.length_replicate])) (aO (T.os 2 0 0 (((List.replicate a.length (D.Clue.mk 0 [])).map (Qi true)).length)) Y (nt (sq (sr (fO (OF.assign (VEv.int .i64 0)) ?_)))))))))))
 refine nt (VRun.block ?_)
 have he1:(List.replicate a.length (D.Clue.mk 0 []))=(a.take 0++List.replicate (a.length - 0) (D.Clue.mk 0 [])):=by rfl
 refine VRun.loop (A:=Nat) (fun s_=> [(0,(rd 2 Qi a)),(2,T.nils),(3,(T.os 2 0 0 (((a.take s_++List.replicate (a.length - s_) (D.Clue.mk 0 [])).map (Qi true)).length))),(4,(tN s_))]) (fun s_=>QV [(0,(Obj.rows 2 ((a.take s_++List.replicate (a.length - s_) (D.Clue.mk 0 [])).map (Qi true))))]) 1 (fun s_=>s_≤a.length) (fun s_=>a.length - s_) (0:Nat) ?_ (Wk.mk (fun k=>k) ?_ ?_ ?_) ?_
 ·(simp;done)
 ·exact (b2 (b2 (bc ⟨(congrArg (fun l_=>T.os 2 0 0 (List.map (Qi true) l_).length) he1),rfl⟩ (b2 bn))))
 ·exact (bc ⟨(congrArg (fun l_=>some (Obj.rows 2 (List.map (Qi true) l_))) he1),(lb Y),rfl⟩ bn)
 ·exact nd Y
 rintro i (hI':i≤a.length)
 show VRun _ _ _ [(0,(rd 2 Qi a)),(2,T.nils),(3,(T.os 2 0 0 (((a.take i++List.replicate (a.length - i) (D.Clue.mk 0 [])).map (Qi true)).length))),(4,(tN i))] (QV [(0,(Obj.rows 2 ((a.take i++List.replicate (a.length - i) (D.Clue.mk 0 [])).map (Qi true))))]) 1 _
 have hfl:=QdD (w:=(D.Clue.mk 0 [])) hI'
 refine sq (sr (mO (tN i) Y (mO (rd 2 Qi a) Y (lO (B.lenR (m:=a.length) (tv (rd 2 Qi a) Y) U25 (List.length_map ..)) (fO (Q9 (tv (tN i) Y) (tv (tN a.length) Y)) (nt ?_))))))
 refine cd (i<a.length) Y (fun fhc0=> ?_) fun fhc0=> ?_
 ·refine sk ?_
  refine tn (sq (VRun.block (VRun.region (mO (T.os 2 0 0 (((a.take i++List.replicate (a.length - i) (D.Clue.mk 0 [])).map (Qi true)).length)) Y (mO (tN i) Y (mO (rd 2 Qi a) Y (mO (tN i) Y ?_)))))))
  obtain ⟨x1,hx1⟩:∃x,a[i]? =some x:=⟨_,List.getElem?_eq_getElem (by omega)⟩
  refine fO (OF.indexAddrR (row:=(Qi false x1)) (i:=i) (tv (rd 2 Qi a) Y) (tv (tN i) Y) Y (Qu _ hx1) U25 QjE Qoz) (lO (OL.loadRn (us:=(Qi false x1)) (tv (T.rp (Qi false x1)) Y) Qnl QjE (lb Y) Y) (cO (OC.callF (r':=(T.agg [(tI x1.Sense),(T.os 4 1 0 ((x1.Play.map (Qd true)).length))])) (objs:= [(Obj.rows 4 (x1.Play.map (Qd true)))]) Y (vc (tv (T.agg (Qi false x1)) Y) vn) (LendL.cons (lg okeClue) ln) (QcD (n+0) x1 (by exact Nat.le_trans (QeI hx1) ha)) Y) ?_))
  obtain ⟨x2,hx2⟩:∃x,(a.take i++List.replicate (a.length - i) (D.Clue.mk 0 []))[i]? =some x:=⟨_,List.getElem?_eq_getElem (by omega)⟩
  refine fO (B.indexAddrO (i:=i) (tv (T.os 2 0 0 (((a.take i++List.replicate (a.length - i) (D.Clue.mk 0 [])).map (Qi true)).length)) Y) (tv (tN i) Y) Y (by (simp only [List.length_map];omega)) U37 Y7 QhX) (cO (B.storeB (us:= [(tI x1.Sense),(T.os 4 1 0 ((x1.Play.map (Qd true)).length))]) (ws:= [(tI x1.Sense),(T.sl true 4 (x1.Play.map (Qd true)))]) (rows':=(((a.take i++List.replicate (a.length - i) (D.Clue.mk 0 [])).set i x1).map (Qi true))) (row:=(Qi true x2)) (tv (T.orp 2 0 i 0) Y) (tv (T.agg [(tI x1.Sense),(T.os 4 1 0 ((x1.Play.map (Qd true)).length))]) Y) nofun Y (Qu _ hx2) Y (lb Y) QhX Y7 (bc Y (bc Y bn)) (Bury.pl Y (Bury.os Y Y Bury.nil (by decide))) Y (by decide) (Yc Y)) (VRunO.nil (vinB.n (tn (VRun.region (mO (tN i) Y (fO (QB (tv (tN i) Y) (VEv.int .i64 1) (by omega)) (aO (tN (i+1)) Y (VRunO.nil (tn ?_))))))))))
  have he2:((a.take i++List.replicate (a.length - i) (D.Clue.mk 0 [])).set i x1)=(a.take (i+1)++List.replicate (a.length - (i+1)) (D.Clue.mk 0 [])):=by exact Y6 hx1
  refine ⟨(i+1:Nat),?_,?_,Wk.mk (fun k=>k) ?_ ?_ ?_⟩
  ·trivial
  ·omega
  ·exact (b2 (b2 (bc ⟨(congrArg (fun n_=>T.os 2 0 0 n_) (show ((a.take i++List.replicate (a.length - i) (D.Clue.mk 0 [])).map (Qi true)).length=((a.take (i+1)++List.replicate (a.length - (i+1)) (D.Clue.mk 0 [])).map (Qi true)).length from (by (simp only [List.length_map,List.length_set,List.length_append,List.length_take,List.length_replicate,List.length_cons,List.length_nil];omega)))),rfl⟩ (b2 bn))))
  ·exact (bc ⟨(congrArg (fun l_=>some (Obj.rows 2 (List.map (Qi true) l_))) he2),(lb Y),rfl⟩ bn)
  ·exact nd Y
 refine VRun.exit (vthn.e (vthn.e (vinB.e (tn (sr (mO (T.os 2 0 0 (((a.take i++List.replicate (a.length - i) (D.Clue.mk 0 [])).map (Qi true)).length)) Y (aO (T.os 2 0 0 (((a.take i++List.replicate (a.length - i) (D.Clue.mk 0 [])).map (Qi true)).length)) Y (nt (rt ?_)))))))))
 refine vfin.eq (r':=(T.sl true 2 ((a.take i++List.replicate (a.length - i) (D.Clue.mk 0 [])).map (Qi true)))) ?_ (vfin.r (VRes.tmp (t:=(T.os 2 0 0 (((a.take i++List.replicate (a.length - i) (D.Clue.mk 0 [])).map (Qi true)).length))) Y VRes.nil) (Give.os Y Y (okeClue.cleanMap _)))
 refine congrArg (fun l_=>T.sl true 2 (List.map (Qi true) l_)) ?_
 exact Qa9 fhc0
theorem QeA (n:Nat) (a:D.Meaning):Pure (Qo Tryz.prog (n+1)) 41 [(T.agg (Qb false a))] (T.agg (Qb true a)):=by
 refine Pure.intro (rs:= [ResultVar.cell 2 92]) Tryz.func41 Y Y Y (E0:= [(0,(T.agg (Qb false a)))]) Y ?_
 obtain ⟨hlim,hmx,hmax⟩:=Qz
 refine sr (kO (B.box (ts:=(Qb false a)) (tv (T.agg (Qb false a)) Y) nofun Y) (kO (B.alloc (t:=(T.agg [(tS ByteArray.empty),(tN 0)])) (ts:= [(tS ByteArray.empty),(tN 0)]) QmT QoB nofun (fun _=> .agg _ _ Y (YS (RL.cons (.str _) (RL.cons (.int _ _) (RL.nil _))))) Y) (nt (sr (kO (B.alloc (t:=(T.agg [(tS ByteArray.empty),(tN 0)])) (ts:= [(tS ByteArray.empty),(tN 0)]) QmT QoB nofun (fun _=> .agg _ _ Y (YS (RL.cons (.str _) (RL.cons (.int _ _) (RL.nil _))))) Y) (nt (sr (lf (tS a.Word) Y Ql1 Y Y ZG (fO (OF.fieldAddrO (tv (T.op 2 0) Y) Qif) (cO (B.storeO (us:= [(tS a.Word)]) (ws:= [(tS a.Word),(tN 0)]) (tv (T.op 2 0) Y) (tv (tS a.Word) Y) nofun Y Y (lb Y) if9 Ji (bc Y bn) Y) (nt ?_)))))))))))
 refine sr (lf (tI a.Sense) Y Qol Y Y QS (fO (OF.fieldAddrO (tv (T.op 2 0) Y) QhU) (cO (B.storeO (us:= [(tI a.Sense)]) (ws:= [(tS a.Word),(tI a.Sense)]) (tv (T.op 2 1) Y) (tv (tI a.Sense) Y) nofun Y Y (lb Y) Y8 ZJ (bc Y bn) Y) (nt (sr (lO (OL.loadOn (us:=(Qb false a)) (tv (T.op 2 0) Y) Y Qj1 Qb3 (lb Y) Y) (cO (B.storeW (us:=(Qb false a)) (tv (T.op 1 0) Y) (tv (T.agg (Qb false a)) Y) nofun Y Y Y QiE Qb3 (bc Y (bc Y bn))) (nt (rt ?_)))))))))
 refine vfin.eq (r':=(T.agg (Qb false a))) ?_ (vfin.r (VRes.celln (ws:=(Qb false a)) Y Y Qj1 Qb3 (lb Y) Y VRes.nil) (Give.agg (GiveL.cons (Give.str _) (GiveL.cons (Give.int _ _) GiveL.nil (by decide)) (by decide))))
 first | rfl | (exact Qt (by omega)) | (symm;rw [decide_eq_false_iff_not];omega) | (symm;rw [decide_eq_true_eq];omega) | (simp_all;done)
theorem Jd (n:Nat) (a:List D.Meaning) (ha:a.length≤mx):Pure (Qo Tryz.prog (n+2)) 11 [(rd 2 Qb a)] (T.sl true 2 (a.map (Qb true))):=by
 refine Pure.intro (rs:= [ResultVar.tmp 2]) Tryz.func11 Y Y Y (E0:= [(0,(rd 2 Qb a))]) Y ?_
 obtain ⟨hlim,hmx,hmax⟩:=Qz
 refine sr (fO (OF.assign VEv.nils) (nt (sr (mO (rd 2 Qb a) Y (lO (B.lenR (m:=a.length) (tv (rd 2 Qb a) Y) U29 (List.length_map ..)) (kO (B.makeZ (n:=a.length) (m:=((List.replicate a.length (D.Meaning.mk ByteArray.empty 0)).map (Qb true)).length) (rows:=((List.replicate a.length (D.Meaning.mk ByteArray.empty 0)).map (Qb true))) (zr:=(Qb true (D.Meaning.mk ByteArray.empty 0))) (tv (tN a.length) Y) (tv (tN a.length) Y) Y U41 QmT QoB Y (by rw [Qb3];decide) (by first | omega | (simp only [List.length_map];omega) | (simp only [List.length_map,List.length_append,List.length_cons,List.length_nil,List.length_replicate,List.length_set,List.length_drop,List.length_take,Zk] at *;omega)) (of_decide_eq_true (by kernel_rfl)) (Z0.str (Z0.int Z0.nil)) Qb3 (List.map_replicate ..).symm (by rw [List.length_map,List.length_replicate])) (aO (T.os 2 0 0 (((List.replicate a.length (D.Meaning.mk ByteArray.empty 0)).map (Qb true)).length)) Y (nt (sq (sr (fO (OF.assign (VEv.int .i64 0)) ?_)))))))))))
 refine nt (VRun.block ?_)
 have he1:(List.replicate a.length (D.Meaning.mk ByteArray.empty 0))=(a.take 0++List.replicate (a.length - 0) (D.Meaning.mk ByteArray.empty 0)):=by first | rfl | (exact Y6 hx1) | (simp;done) | omega
 refine VRun.loop (A:=Nat) (fun s_=> [(0,(rd 2 Qb a)),(2,T.nils),(3,(T.os 2 0 0 (((a.take s_++List.replicate (a.length - s_) (D.Meaning.mk ByteArray.empty 0)).map (Qb true)).length))),(4,(tN s_))]) (fun s_=>QV [(0,(Obj.rows 2 ((a.take s_++List.replicate (a.length - s_) (D.Meaning.mk ByteArray.empty 0)).map (Qb true))))]) 1 (fun s_=>s_≤a.length) (fun s_=>a.length - s_) (0:Nat) ?_ (Wk.mk (fun k=>k) ?_ ?_ ?_) ?_
 ·first | trivial | (simp;done) | omega | (constructor<;>simp)
 ·exact (b2 (b2 (bc ⟨(congrArg (fun l_=>T.os 2 0 0 (List.map (Qb true) l_).length) he1),rfl⟩ (b2 bn))))
 ·exact (bc ⟨(congrArg (fun l_=>some (Obj.rows 2 (List.map (Qb true) l_))) he1),(lb Y),rfl⟩ bn)
 ·exact nd Y
 rintro i (hI':i≤a.length)
 show VRun _ _ _ [(0,(rd 2 Qb a)),(2,T.nils),(3,(T.os 2 0 0 (((a.take i++List.replicate (a.length - i) (D.Meaning.mk ByteArray.empty 0)).map (Qb true)).length))),(4,(tN i))] (QV [(0,(Obj.rows 2 ((a.take i++List.replicate (a.length - i) (D.Meaning.mk ByteArray.empty 0)).map (Qb true))))]) 1 _
 have hfl:=QdD (w:=(D.Meaning.mk ByteArray.empty 0)) hI'
 refine sq (sr (mO (tN i) Y (mO (rd 2 Qb a) Y (lO (B.lenR (m:=a.length) (tv (rd 2 Qb a) Y) U29 (List.length_map ..)) (fO (Q9 (tv (tN i) Y) (tv (tN a.length) Y)) (nt ?_))))))
 refine cd (i<a.length) Y (fun fhc0=> ?_) fun fhc0=> ?_
 ·refine sk ?_
  refine tn (sq (VRun.block (VRun.region (mO (T.os 2 0 0 (((a.take i++List.replicate (a.length - i) (D.Meaning.mk ByteArray.empty 0)).map (Qb true)).length)) Y (mO (tN i) Y (mO (rd 2 Qb a) Y (mO (tN i) Y ?_)))))))
  obtain ⟨x1,hx1⟩:∃x,a[i]? =some x:=⟨_,List.getElem?_eq_getElem (by omega)⟩
  refine fO (OF.indexAddrR (row:=(Qb false x1)) (i:=i) (tv (rd 2 Qb a) Y) (tv (tN i) Y) Y (Qu _ hx1) U29 Qne Qo2) (lO (OL.loadRn (us:=(Qb false x1)) (tv (T.rp (Qb false x1)) Y) Qpm Qne (lb Y) Y) (cO (cS (vc (tv (T.agg (Qb false x1)) Y) vn) (LendL.cons (lg okeMeaning) ln) (QeA (n+0) x1) Y Y) ?_))
  obtain ⟨x2,hx2⟩:∃x,(a.take i++List.replicate (a.length - i) (D.Meaning.mk ByteArray.empty 0))[i]? =some x:=⟨_,List.getElem?_eq_getElem (by first | omega | (simp only [List.length_map];omega) | (simp only [List.length_map,List.length_append,List.length_cons,List.length_nil,List.length_replicate,List.length_set,List.length_drop,List.length_take,Zk] at *;omega))⟩
  refine fO (B.indexAddrO (i:=i) (tv (T.os 2 0 0 (((a.take i++List.replicate (a.length - i) (D.Meaning.mk ByteArray.empty 0)).map (Qb true)).length)) Y) (tv (tN i) Y) Y (by first | omega | (simp only [List.length_map];omega) | (simp only [List.length_map,List.length_append,List.length_cons,List.length_nil,List.length_replicate,List.length_set,List.length_drop,List.length_take,Zk] at *;omega)) U41 Qb3 QiE) (cO (B.storeP (us:=(Qb true x1)) (rows':=(((a.take i++List.replicate (a.length - i) (D.Meaning.mk ByteArray.empty 0)).set i x1).map (Qb true))) (row:=(Qb true x2)) (tv (T.orp 2 0 i 0) Y) (tv (T.agg (Qb true x1)) Y) nofun Y (Qu _ hx2) Y (lb Y) QiE Qb3 (bc Y (bc Y bn)) (by intro r hr t ht;obtain ⟨x,_,rfl⟩:=List.mem_map.1 hr;rw [QkN] at ht;exact ZZ (okeMeaning.pl _ t ht)) (Yc Y)) (VRunO.nil (vinB.n (tn (VRun.region (mO (tN i) Y (fO (QB (tv (tN i) Y) (VEv.int .i64 1) (by omega)) (aO (tN (i+1)) Y (VRunO.nil (tn ?_))))))))))
  have he2:((a.take i++List.replicate (a.length - i) (D.Meaning.mk ByteArray.empty 0)).set i x1)=(a.take (i+1)++List.replicate (a.length - (i+1)) (D.Meaning.mk ByteArray.empty 0)):=by first | rfl | (exact Y6 hx1) | (simp;done) | omega
  refine ⟨(i+1:Nat),?_,?_,Wk.mk (fun k=>k) ?_ ?_ ?_⟩
  ·first | trivial | omega | (simp;done) | exact ⟨by omega,hI'.2⟩
  ·first | omega | (simp only [];omega) | (show _<_;omega) | (simp;omega)
  ·exact (b2 (b2 (bc ⟨(congrArg (fun n_=>T.os 2 0 0 n_) (show ((a.take i++List.replicate (a.length - i) (D.Meaning.mk ByteArray.empty 0)).map (Qb true)).length=((a.take (i+1)++List.replicate (a.length - (i+1)) (D.Meaning.mk ByteArray.empty 0)).map (Qb true)).length from (by first | rfl | (simp only [List.length_map];omega) | (simp only [List.length_map,List.length_set,List.length_append,List.length_take,List.length_replicate,List.length_cons,List.length_nil];omega)))),rfl⟩ (b2 bn))))
  ·exact (bc ⟨(congrArg (fun l_=>some (Obj.rows 2 (List.map (Qb true) l_))) he2),(lb Y),rfl⟩ bn)
  ·exact nd Y
 refine VRun.exit (vthn.e (vthn.e (vinB.e (tn (sr (mO (T.os 2 0 0 (((a.take i++List.replicate (a.length - i) (D.Meaning.mk ByteArray.empty 0)).map (Qb true)).length)) Y (aO (T.os 2 0 0 (((a.take i++List.replicate (a.length - i) (D.Meaning.mk ByteArray.empty 0)).map (Qb true)).length)) Y (nt (rt ?_)))))))))
 refine vfin.eq (r':=(T.sl true 2 ((a.take i++List.replicate (a.length - i) (D.Meaning.mk ByteArray.empty 0)).map (Qb true)))) ?_ (vfin.r (VRes.tmp (t:=(T.os 2 0 0 (((a.take i++List.replicate (a.length - i) (D.Meaning.mk ByteArray.empty 0)).map (Qb true)).length))) Y VRes.nil) (Give.os Y Y (okeMeaning.cleanMap _)))
 refine congrArg (fun l_=>T.sl true 2 (List.map (Qb true) l_)) ?_
 exact Qa9 fhc0
theorem Qfc (n:Nat) (a:D.Puzzle) (ha:QT a≤mx):Pure (Qo Tryz.prog (n+5)) 10 [(T.agg (QF false a))] (T.agg (QF true a)):=by
 refine Pure.intro (rs:= [ResultVar.cell 2 39]) Tryz.func10 Y Y Y (E0:= [(0,(T.agg (QF false a)))]) Y ?_
 obtain ⟨hlim,hmx,hmax⟩:=Qz
 simp only [QT] at ha
 have hla_Clues:=Q1 (z:=QO) a.Clues
 have hla_Seals:=Q1 (z:=zI) a.Seals
 refine sr (kO (B.box (ts:=(QF false a)) (tv (T.agg (QF false a)) Y) nofun Y) (kO (B.alloc (t:=(T.agg [(tN 0),(tN 0),(tS ByteArray.empty),T.nils,T.nils,(tN 0)])) (ts:= [(tN 0),(tN 0),(tS ByteArray.empty),T.nils,T.nils,(tN 0)]) Qpy Qpg nofun (fun _=> .agg _ _ Y (YS (RL.cons (.int _ _) (RL.cons (.int _ _) (RL.cons (.str _) (RL.cons (.nils) (RL.cons (.nils) (RL.cons (.int _ _) (RL.nil _))))))))) Y) (nt (sr (kO (B.alloc (t:=(T.agg [(tN 0),(tN 0),(tS ByteArray.empty),T.nils,T.nils,(tN 0)])) (ts:= [(tN 0),(tN 0),(tS ByteArray.empty),T.nils,T.nils,(tN 0)]) Qpy Qpg nofun (fun _=> .agg _ _ Y (YS (RL.cons (.int _ _) (RL.cons (.int _ _) (RL.cons (.str _) (RL.cons (.nils) (RL.cons (.nils) (RL.cons (.int _ _) (RL.nil _))))))))) Y) (nt (sr (fO (OF.fieldAddrO (tv (T.op 0 0) Y) QlM) (lO (OL.loadOn (us:=(Qc false a.Grid)) (tv (T.op 0 0) Y) Y Qpn Qoe (lb Y) Y) (cO (cS (vc (tv (T.agg (Qc false a.Grid)) Y) vn) (LendL.cons (lg Qx) ln) (QgY (n+3) a.Grid) Y Y) (fO (OF.fieldAddrO (tv (T.op 2 0) Y) Jy) ?_)))))))))))
 refine cO (B.storeO (us:=(Qc true a.Grid)) (ws:= [(tI a.Grid.Rows),(tI a.Grid.Cols),(tS a.Grid.Cells),T.nils,T.nils,(tN 0)]) (tv (T.op 2 0) Y) (tv (T.agg (Qc true a.Grid)) Y) nofun Y Y (lb Y) QjU Q0 (bc Y (bc Y (bc Y bn))) Y) (nt (sr (lf (rd 2 Qi a.Clues) Y QmH Y Y Qpe (cO (OC.callF (r':=(T.os 2 3 0 ((a.Clues.map (Qi true)).length))) (objs:= [(Obj.rows 2 (a.Clues.map (Qi true)))]) Y (vc (tv (rd 2 Qi a.Clues) Y) vn) (Zg Y) (QfY (n+0) a.Clues (by first | assumption | omega)) Y) (fO (OF.fieldAddrO (tv (T.op 2 0) Y) Qal) (cO (B.storeO (us:= [(T.os 2 3 0 ((a.Clues.map (Qi true)).length))]) (ws:= [(tI a.Grid.Rows),(tI a.Grid.Cols),(tS a.Grid.Cells),(T.os 2 3 0 ((a.Clues.map (Qi true)).length)),T.nils,(tN 0)]) (tv (T.op 2 3) Y) (tv (T.os 2 3 0 ((a.Clues.map (Qi true)).length)) Y) nofun Y Y (lb Y) Qo1 Qps (bc Y bn) Y) (nt (sr (lf (rd 1 Qe a.Seals) Y Qmo Y Y QeD (cO (OC.callF (r':=(T.os 1 4 0 ((a.Seals.map (Qe true)).length))) (objs:= [(Obj.rows 1 (a.Seals.map (Qe true)))]) Y (vc (tv (rd 1 Qe a.Seals) Y) vn) (Zg Y) (QgG (n+3) a.Seals (by first | assumption | omega)) Y) (fO (OF.fieldAddrO (tv (T.op 2 0) Y) QbO) ?_)))))))))))
 refine cO (B.storeO (us:= [(T.os 1 4 0 ((a.Seals.map (Qe true)).length))]) (ws:= [(tI a.Grid.Rows),(tI a.Grid.Cols),(tS a.Grid.Cells),(T.os 2 3 0 ((a.Clues.map (Qi true)).length)),(T.os 1 4 0 ((a.Seals.map (Qe true)).length)),(tN 0)]) (tv (T.op 2 4) Y) (tv (T.os 1 4 0 ((a.Seals.map (Qe true)).length)) Y) nofun Y Y (lb Y) QjR Qg2 (bc Y bn) Y) (nt (sr (lf (tI a.Salt) Y QnW Y Y QS (fO (OF.fieldAddrO (tv (T.op 2 0) Y) Qc1) (cO (B.storeO (us:= [(tI a.Salt)]) (ws:= [(tI a.Grid.Rows),(tI a.Grid.Cols),(tS a.Grid.Cells),(T.os 2 3 0 ((a.Clues.map (Qi true)).length)),(T.os 1 4 0 ((a.Seals.map (Qe true)).length)),(tI a.Salt)]) (tv (T.op 2 5) Y) (tv (tI a.Salt) Y) nofun Y Y (lb Y) Y8 ZJ (bc Y bn) Y) (nt (sr (lO (OL.loadOn (us:= [(tI a.Grid.Rows),(tI a.Grid.Cols),(tS a.Grid.Cells),(T.os 2 3 0 ((a.Clues.map (Qi true)).length)),(T.os 1 4 0 ((a.Seals.map (Qe true)).length)),(tI a.Salt)]) (tv (T.op 2 0) Y) Y Qjj QfT (lb Y) Y) (cO (B.storeW (us:= [(tI a.Grid.Rows),(tI a.Grid.Cols),(tS a.Grid.Cells),(T.os 2 3 0 ((a.Clues.map (Qi true)).length)),(T.os 1 4 0 ((a.Seals.map (Qe true)).length)),(tI a.Salt)]) (tv (T.op 1 0) Y) (tv (T.agg [(tI a.Grid.Rows),(tI a.Grid.Cols),(tS a.Grid.Cells),(T.os 2 3 0 ((a.Clues.map (Qi true)).length)),(T.os 1 4 0 ((a.Seals.map (Qe true)).length)),(tI a.Salt)]) Y) nofun Y Y Y QoD QfT (bc Y (bc Y (bc Y (bc Y (bc Y (bc Y bn))))))) (nt (rt ?_)))))))))))
 refine vfin.eq (r':=(T.agg [(tI a.Grid.Rows),(tI a.Grid.Cols),(tS a.Grid.Cells),(T.sl true 2 (a.Clues.map (Qi true))),(T.sl true 1 (a.Seals.map (Qe true))),(tI a.Salt)])) ?_ (vfin.r (VRes.celln (ws:= [(tI a.Grid.Rows),(tI a.Grid.Cols),(tS a.Grid.Cells),(T.os 2 3 0 ((a.Clues.map (Qi true)).length)),(T.os 1 4 0 ((a.Seals.map (Qe true)).length)),(tI a.Salt)]) Y Y Qjj QfT (lb Y) Y VRes.nil) (Give.agg (GiveL.cons (Give.int _ _) (GiveL.cons (Give.int _ _) (GiveL.cons (Give.str _) (GiveL.cons (Give.os Y Y (okeClue.cleanMap _)) (GiveL.cons (Give.os Y Y (okInt.cleanMap _)) (GiveL.cons (Give.int _ _) GiveL.nil (by decide)) (by decide)) (by decide)) (by decide)) (by decide)) (by decide))))
 first | rfl | (exact Qt (by omega)) | (symm;rw [decide_eq_false_iff_not];omega) | (symm;rw [decide_eq_true_eq];omega) | (simp_all;done)
theorem Qam (n:Nat) (a:D.Issue) (ha:QZ a≤mx):Pure (Qo Tryz.prog (n+6)) 20 [(T.agg (QQ false a))] (T.agg (QQ true a)):=by
 refine Pure.intro (rs:= [ResultVar.cell 2 60]) Tryz.func20 Y Y Y (E0:= [(0,(T.agg (QQ false a)))]) Y ?_
 obtain ⟨hlim,hmx,hmax⟩:=Qz
 simp only [QZ] at ha
 refine sr (kO (B.box (ts:=(QQ false a)) (tv (T.agg (QQ false a)) Y) nofun Y) (kO (B.alloc (t:=(T.agg [(tN 0),(tN 0),(tN 0),(tS ByteArray.empty),T.nils,T.nils,(tN 0),(tS ByteArray.empty),(tN 0),(tN 0)])) (ts:= [(tN 0),(tN 0),(tN 0),(tS ByteArray.empty),T.nils,T.nils,(tN 0),(tS ByteArray.empty),(tN 0),(tN 0)]) QnL QnT nofun (fun _=> .agg _ _ Y (YS (RL.cons (.int _ _) (RL.cons (.int _ _) (RL.cons (.int _ _) (RL.cons (.str _) (RL.cons (.nils) (RL.cons (.nils) (RL.cons (.int _ _) (RL.cons (.str _) (RL.cons (.int _ _) (RL.cons (.int _ _) (RL.nil _))))))))))))) Y) (nt (sr (kO (B.alloc (t:=(T.agg [(tN 0),(tN 0),(tN 0),(tS ByteArray.empty),T.nils,T.nils,(tN 0),(tS ByteArray.empty),(tN 0),(tN 0)])) (ts:= [(tN 0),(tN 0),(tN 0),(tS ByteArray.empty),T.nils,T.nils,(tN 0),(tS ByteArray.empty),(tN 0),(tN 0)]) QnL QnT nofun (fun _=> .agg _ _ Y (YS (RL.cons (.int _ _) (RL.cons (.int _ _) (RL.cons (.int _ _) (RL.cons (.str _) (RL.cons (.nils) (RL.cons (.nils) (RL.cons (.int _ _) (RL.cons (.str _) (RL.cons (.int _ _) (RL.cons (.int _ _) (RL.nil _))))))))))))) Y) (nt (sr (lf (tI a.Number) Y QnI Y Y QS (fO (OF.fieldAddrO (tv (T.op 2 0) Y) Qc7) (cO (B.storeO (us:= [(tI a.Number)]) (ws:= [(tI a.Number),(tN 0),(tN 0),(tS ByteArray.empty),T.nils,T.nils,(tN 0),(tS ByteArray.empty),(tN 0),(tN 0)]) (tv (T.op 2 0) Y) (tv (tI a.Number) Y) nofun Y Y (lb Y) Y8 ZJ (bc Y bn) Y) (nt ?_)))))))))))
 refine sr (fO (OF.fieldAddrO (tv (T.op 0 0) Y) Qmd) (lO (OL.loadOn (us:=(QF false a.Puzzle)) (tv (T.op 0 1) Y) Y Qpu Qos (lb Y) Y) (cO (OC.callF (r':=(T.agg [(tI a.Puzzle.Grid.Rows),(tI a.Puzzle.Grid.Cols),(tS a.Puzzle.Grid.Cells),(T.os 2 3 0 ((a.Puzzle.Clues.map (Qi true)).length)),(T.os 1 4 0 ((a.Puzzle.Seals.map (Qe true)).length)),(tI a.Puzzle.Salt)])) (objs:= [(Obj.rows 2 (a.Puzzle.Clues.map (Qi true))),(Obj.rows 1 (a.Puzzle.Seals.map (Qe true)))]) Y (vc (tv (T.agg (QF false a.Puzzle)) Y) vn) (LendL.cons (lg Y5) ln) (Qfc (n+0) a.Puzzle (by first | assumption | omega)) Y) (fO (OF.fieldAddrO (tv (T.op 2 0) Y) Qbt) (cO (B.storeO (us:= [(tI a.Puzzle.Grid.Rows),(tI a.Puzzle.Grid.Cols),(tS a.Puzzle.Grid.Cells),(T.os 2 3 0 ((a.Puzzle.Clues.map (Qi true)).length)),(T.os 1 4 0 ((a.Puzzle.Seals.map (Qe true)).length)),(tI a.Puzzle.Salt)]) (ws:= [(tI a.Number),(tI a.Puzzle.Grid.Rows),(tI a.Puzzle.Grid.Cols),(tS a.Puzzle.Grid.Cells),(T.os 2 3 0 ((a.Puzzle.Clues.map (Qi true)).length)),(T.os 1 4 0 ((a.Puzzle.Seals.map (Qe true)).length)),(tI a.Puzzle.Salt),(tS ByteArray.empty),(tN 0),(tN 0)]) (tv (T.op 2 1) Y) (tv (T.agg [(tI a.Puzzle.Grid.Rows),(tI a.Puzzle.Grid.Cols),(tS a.Puzzle.Grid.Cells),(T.os 2 3 0 ((a.Puzzle.Clues.map (Qi true)).length)),(T.os 1 4 0 ((a.Puzzle.Seals.map (Qe true)).length)),(tI a.Puzzle.Salt)]) Y) nofun Y Y (lb Y) QoD QfT (bc Y (bc Y (bc Y (bc Y (bc Y (bc Y bn)))))) Y) (nt (sr (lf (tS a.Fill) Y QlQ Y Y ZG (fO (OF.fieldAddrO (tv (T.op 2 0) Y) QcT) (cO (B.storeO (us:= [(tS a.Fill)]) (ws:= [(tI a.Number),(tI a.Puzzle.Grid.Rows),(tI a.Puzzle.Grid.Cols),(tS a.Puzzle.Grid.Cells),(T.os 2 3 0 ((a.Puzzle.Clues.map (Qi true)).length)),(T.os 1 4 0 ((a.Puzzle.Seals.map (Qe true)).length)),(tI a.Puzzle.Salt),(tS a.Fill),(tN 0),(tN 0)]) (tv (T.op 2 7) Y) (tv (tS a.Fill) Y) nofun Y Y (lb Y) if9 Ji (bc Y bn) Y) (nt ?_)))))))))))
 refine sr (lf (tI a.Open) Y QoG Y Y QS (fO (OF.fieldAddrO (tv (T.op 2 0) Y) Qc8) (cO (B.storeO (us:= [(tI a.Open)]) (ws:= [(tI a.Number),(tI a.Puzzle.Grid.Rows),(tI a.Puzzle.Grid.Cols),(tS a.Puzzle.Grid.Cells),(T.os 2 3 0 ((a.Puzzle.Clues.map (Qi true)).length)),(T.os 1 4 0 ((a.Puzzle.Seals.map (Qe true)).length)),(tI a.Puzzle.Salt),(tS a.Fill),(tI a.Open),(tN 0)]) (tv (T.op 2 8) Y) (tv (tI a.Open) Y) nofun Y Y (lb Y) Y8 ZJ (bc Y bn) Y) (nt (sr (lf (tI a.Close) Y Qoi Y Y QS (fO (OF.fieldAddrO (tv (T.op 2 0) Y) QcQ) (cO (B.storeO (us:= [(tI a.Close)]) (ws:= [(tI a.Number),(tI a.Puzzle.Grid.Rows),(tI a.Puzzle.Grid.Cols),(tS a.Puzzle.Grid.Cells),(T.os 2 3 0 ((a.Puzzle.Clues.map (Qi true)).length)),(T.os 1 4 0 ((a.Puzzle.Seals.map (Qe true)).length)),(tI a.Puzzle.Salt),(tS a.Fill),(tI a.Open),(tI a.Close)]) (tv (T.op 2 9) Y) (tv (tI a.Close) Y) nofun Y Y (lb Y) Y8 ZJ (bc Y bn) Y) (nt (sr (lO (OL.loadOn (us:= [(tI a.Number),(tI a.Puzzle.Grid.Rows),(tI a.Puzzle.Grid.Cols),(tS a.Puzzle.Grid.Cells),(T.os 2 3 0 ((a.Puzzle.Clues.map (Qi true)).length)),(T.os 1 4 0 ((a.Puzzle.Seals.map (Qe true)).length)),(tI a.Puzzle.Salt),(tS a.Fill),(tI a.Open),(tI a.Close)]) (tv (T.op 2 0) Y) Y Qli Qi0 (lb Y) Y) ?_)))))))))))
 refine cO (B.storeW (us:= [(tI a.Number),(tI a.Puzzle.Grid.Rows),(tI a.Puzzle.Grid.Cols),(tS a.Puzzle.Grid.Cells),(T.os 2 3 0 ((a.Puzzle.Clues.map (Qi true)).length)),(T.os 1 4 0 ((a.Puzzle.Seals.map (Qe true)).length)),(tI a.Puzzle.Salt),(tS a.Fill),(tI a.Open),(tI a.Close)]) (tv (T.op 1 0) Y) (tv (T.agg [(tI a.Number),(tI a.Puzzle.Grid.Rows),(tI a.Puzzle.Grid.Cols),(tS a.Puzzle.Grid.Cells),(T.os 2 3 0 ((a.Puzzle.Clues.map (Qi true)).length)),(T.os 1 4 0 ((a.Puzzle.Seals.map (Qe true)).length)),(tI a.Puzzle.Salt),(tS a.Fill),(tI a.Open),(tI a.Close)]) Y) nofun Y Y Y QoZ Qi0 (bc Y (bc Y (bc Y (bc Y (bc Y (bc Y (bc Y (bc Y (bc Y (bc Y bn))))))))))) (nt (rt ?_))
 refine vfin.eq (r':=(T.agg [(tI a.Number),(tI a.Puzzle.Grid.Rows),(tI a.Puzzle.Grid.Cols),(tS a.Puzzle.Grid.Cells),(T.sl true 2 (a.Puzzle.Clues.map (Qi true))),(T.sl true 1 (a.Puzzle.Seals.map (Qe true))),(tI a.Puzzle.Salt),(tS a.Fill),(tI a.Open),(tI a.Close)])) ?_ (vfin.r (VRes.celln (ws:= [(tI a.Number),(tI a.Puzzle.Grid.Rows),(tI a.Puzzle.Grid.Cols),(tS a.Puzzle.Grid.Cells),(T.os 2 3 0 ((a.Puzzle.Clues.map (Qi true)).length)),(T.os 1 4 0 ((a.Puzzle.Seals.map (Qe true)).length)),(tI a.Puzzle.Salt),(tS a.Fill),(tI a.Open),(tI a.Close)]) Y Y Qli Qi0 (lb Y) Y VRes.nil) (Give.agg (GiveL.cons (Give.int _ _) (GiveL.cons (Give.int _ _) (GiveL.cons (Give.int _ _) (GiveL.cons (Give.str _) (GiveL.cons (Give.os Y Y (okeClue.cleanMap _)) (GiveL.cons (Give.os Y Y (okInt.cleanMap _)) (GiveL.cons (Give.int _ _) (GiveL.cons (Give.str _) (GiveL.cons (Give.int _ _) (GiveL.cons (Give.int _ _) GiveL.nil (by decide)) (by decide)) (by decide)) (by decide)) (by decide)) (by decide)) (by decide)) (by decide)) (by decide)) (by decide))))
 first | rfl | (exact Qt (by omega)) | (symm;rw [decide_eq_false_iff_not];omega) | (symm;rw [decide_eq_true_eq];omega) | (simp_all;done)
theorem YO (n:Nat) (a:D.Correction) (ha:QC a≤mx):Pure (Qo Tryz.prog (n+4)) 21 [(T.agg (Qv false a))] (T.agg (Qv true a)):=by
 refine Pure.intro (rs:= [ResultVar.cell 2 66]) Tryz.func21 Y Y Y (E0:= [(0,(T.agg (Qv false a)))]) Y ?_
 obtain ⟨hlim,hmx,hmax⟩:=Qz
 simp only [QC] at ha
 refine sr (kO (B.box (ts:=(Qv false a)) (tv (T.agg (Qv false a)) Y) nofun Y) (kO (B.alloc (t:=(T.agg [(tN 0),(tN 0),(tN 0),T.nils,(tN 0)])) (ts:= [(tN 0),(tN 0),(tN 0),T.nils,(tN 0)]) Qn8 QnJ nofun (fun _=> .agg _ _ Y (YS (RL.cons (.int _ _) (RL.cons (.int _ _) (RL.cons (.int _ _) (RL.cons (.nils) (RL.cons (.int _ _) (RL.nil _)))))))) Y) (nt (sr (kO (B.alloc (t:=(T.agg [(tN 0),(tN 0),(tN 0),T.nils,(tN 0)])) (ts:= [(tN 0),(tN 0),(tN 0),T.nils,(tN 0)]) Qn8 QnJ nofun (fun _=> .agg _ _ Y (YS (RL.cons (.int _ _) (RL.cons (.int _ _) (RL.cons (.int _ _) (RL.cons (.nils) (RL.cons (.int _ _) (RL.nil _)))))))) Y) (nt (sr (lf (tI a.Issue) Y Qoy Y Y QS (fO (OF.fieldAddrO (tv (T.op 2 0) Y) QfS) (cO (B.storeO (us:= [(tI a.Issue)]) (ws:= [(tI a.Issue),(tN 0),(tN 0),T.nils,(tN 0)]) (tv (T.op 2 0) Y) (tv (tI a.Issue) Y) nofun Y Y (lb Y) Y8 ZJ (bc Y bn) Y) (nt ?_)))))))))))
 refine sr (lf (tI a.Slot) Y Qop Y Y QS (fO (OF.fieldAddrO (tv (T.op 2 0) Y) Qdc) (cO (B.storeO (us:= [(tI a.Slot)]) (ws:= [(tI a.Issue),(tI a.Slot),(tN 0),T.nils,(tN 0)]) (tv (T.op 2 1) Y) (tv (tI a.Slot) Y) nofun Y Y (lb Y) Y8 ZJ (bc Y bn) Y) (nt (sr (fO (OF.fieldAddrO (tv (T.op 0 0) Y) Qlu) (lO (OL.loadOn (us:=(Qi false a.Clue)) (tv (T.op 0 2) Y) Y Qnl QjE (lb Y) Y) (cO (OC.callF (r':=(T.agg [(tI a.Clue.Sense),(T.os 4 3 0 ((a.Clue.Play.map (Qd true)).length))])) (objs:= [(Obj.rows 4 (a.Clue.Play.map (Qd true)))]) Y (vc (tv (T.agg (Qi false a.Clue)) Y) vn) (LendL.cons (lg okeClue) ln) (QcD (n+0) a.Clue (by first | assumption | omega)) Y) (fO (OF.fieldAddrO (tv (T.op 2 0) Y) QfN) (cO (B.storeO (us:= [(tI a.Clue.Sense),(T.os 4 3 0 ((a.Clue.Play.map (Qd true)).length))]) (ws:= [(tI a.Issue),(tI a.Slot),(tI a.Clue.Sense),(T.os 4 3 0 ((a.Clue.Play.map (Qd true)).length)),(tN 0)]) (tv (T.op 2 2) Y) (tv (T.agg [(tI a.Clue.Sense),(T.os 4 3 0 ((a.Clue.Play.map (Qd true)).length))]) Y) nofun Y Y (lb Y) QhX Y7 (bc Y (bc Y bn)) Y) (nt ?_)))))))))))
 refine sr (lf (tI a.Tick) Y QnU Y Y QS (fO (OF.fieldAddrO (tv (T.op 2 0) Y) Qj4) (cO (B.storeO (us:= [(tI a.Tick)]) (ws:= [(tI a.Issue),(tI a.Slot),(tI a.Clue.Sense),(T.os 4 3 0 ((a.Clue.Play.map (Qd true)).length)),(tI a.Tick)]) (tv (T.op 2 4) Y) (tv (tI a.Tick) Y) nofun Y Y (lb Y) Y8 ZJ (bc Y bn) Y) (nt (sr (lO (OL.loadOn (us:= [(tI a.Issue),(tI a.Slot),(tI a.Clue.Sense),(T.os 4 3 0 ((a.Clue.Play.map (Qd true)).length)),(tI a.Tick)]) (tv (T.op 2 0) Y) Y QmN Qlm (lb Y) Y) (cO (B.storeW (us:= [(tI a.Issue),(tI a.Slot),(tI a.Clue.Sense),(T.os 4 3 0 ((a.Clue.Play.map (Qd true)).length)),(tI a.Tick)]) (tv (T.op 1 0) Y) (tv (T.agg [(tI a.Issue),(tI a.Slot),(tI a.Clue.Sense),(T.os 4 3 0 ((a.Clue.Play.map (Qd true)).length)),(tI a.Tick)]) Y) nofun Y Y Y QoY Qlm (bc Y (bc Y (bc Y (bc Y (bc Y bn)))))) (nt (rt ?_)))))))))
 refine vfin.eq (r':=(T.agg [(tI a.Issue),(tI a.Slot),(tI a.Clue.Sense),(T.sl true 4 (a.Clue.Play.map (Qd true))),(tI a.Tick)])) ?_ (vfin.r (VRes.celln (ws:= [(tI a.Issue),(tI a.Slot),(tI a.Clue.Sense),(T.os 4 3 0 ((a.Clue.Play.map (Qd true)).length)),(tI a.Tick)]) Y Y QmN Qlm (lb Y) Y VRes.nil) (Give.agg (GiveL.cons (Give.int _ _) (GiveL.cons (Give.int _ _) (GiveL.cons (Give.int _ _) (GiveL.cons (Give.os Y Y (okeStep.cleanMap _)) (GiveL.cons (Give.int _ _) GiveL.nil (by decide)) (by decide)) (by decide)) (by decide)) (by decide))))
 first | rfl | (exact Qt (by omega)) | (symm;rw [decide_eq_false_iff_not];omega) | (symm;rw [decide_eq_true_eq];omega) | (simp_all;done)
theorem JA (n:Nat) (a:List ByteArray) (ha:a.length≤mx):Pure (Qo Tryz.prog (n+1)) 22 [(rd 1 Qj a)] (T.sl true 1 (a.map (Qj true))):=by
 refine Pure.intro (rs:= [ResultVar.tmp 2]) Tryz.func22 Y Y Y (E0:= [(0,(rd 1 Qj a))]) Y ?_
 obtain ⟨hlim,hmx,hmax⟩:=Qz
 refine sr (fO (OF.assign VEv.nils) (nt (sr (mO (rd 1 Qj a) Y (lO (B.lenR (m:=a.length) (tv (rd 1 Qj a) Y) Jm (List.length_map ..)) (kO (B.makeZ (n:=a.length) (m:=((List.replicate a.length ByteArray.empty).map (Qj true)).length) (rows:=((List.replicate a.length ByteArray.empty).map (Qj true))) (zr:=(Qj true ByteArray.empty)) (tv (tN a.length) Y) (tv (tN a.length) Y) Y Jm zo9 zc9 Y (by rw [Ji];decide) (by first | omega | (simp only [List.length_map];omega) | (simp only [List.length_map,List.length_append,List.length_cons,List.length_nil,List.length_replicate,List.length_set,List.length_drop,List.length_take,Zk] at *;omega)) (of_decide_eq_true (by kernel_rfl)) (Z0.str Z0.nil) Ji (List.map_replicate ..).symm (by rw [List.length_map,List.length_replicate])) (aO (T.os 1 0 0 (((List.replicate a.length ByteArray.empty).map (Qj true)).length)) Y (nt (sq (sr (fO (OF.assign (VEv.int .i64 0)) ?_)))))))))))
 refine nt (VRun.block ?_)
 have he1:(List.replicate a.length ByteArray.empty)=(a.take 0++List.replicate (a.length - 0) ByteArray.empty):=by first | rfl | (exact Y6 hx1) | (simp;done) | omega
 refine VRun.loop (A:=Nat) (fun s_=> [(0,(rd 1 Qj a)),(2,T.nils),(3,(T.os 1 0 0 (((a.take s_++List.replicate (a.length - s_) ByteArray.empty).map (Qj true)).length))),(4,(tN s_))]) (fun s_=>QV [(0,(Obj.rows 1 ((a.take s_++List.replicate (a.length - s_) ByteArray.empty).map (Qj true))))]) 1 (fun s_=>s_≤a.length) (fun s_=>a.length - s_) (0:Nat) ?_ (Wk.mk (fun k=>k) ?_ ?_ ?_) ?_
 ·first | trivial | (simp;done) | omega | (constructor<;>simp)
 ·exact (b2 (b2 (bc ⟨(congrArg (fun l_=>T.os 1 0 0 (List.map (Qj true) l_).length) he1),rfl⟩ (b2 bn))))
 ·exact (bc ⟨(congrArg (fun l_=>some (Obj.rows 1 (List.map (Qj true) l_))) he1),(lb Y),rfl⟩ bn)
 ·exact nd Y
 rintro i (hI':i≤a.length)
 show VRun _ _ _ [(0,(rd 1 Qj a)),(2,T.nils),(3,(T.os 1 0 0 (((a.take i++List.replicate (a.length - i) ByteArray.empty).map (Qj true)).length))),(4,(tN i))] (QV [(0,(Obj.rows 1 ((a.take i++List.replicate (a.length - i) ByteArray.empty).map (Qj true))))]) 1 _
 have hfl:=QdD (w:=ByteArray.empty) hI'
 refine sq (sr (mO (tN i) Y (mO (rd 1 Qj a) Y (lO (B.lenR (m:=a.length) (tv (rd 1 Qj a) Y) Jm (List.length_map ..)) (fO (Q9 (tv (tN i) Y) (tv (tN a.length) Y)) (nt ?_))))))
 refine cd (i<a.length) Y (fun fhc0=> ?_) fun fhc0=> ?_
 ·refine sk ?_
  refine tn (sq (VRun.block (VRun.region (mO (T.os 1 0 0 (((a.take i++List.replicate (a.length - i) ByteArray.empty).map (Qj true)).length)) Y (mO (tN i) Y (mO (rd 1 Qj a) Y (mO (tN i) Y ?_)))))))
  obtain ⟨x1,hx1⟩:∃x,a[i]? =some x:=⟨_,List.getElem?_eq_getElem (by omega)⟩
  refine fO (OF.indexAddrR (row:=(Qj false x1)) (i:=i) (tv (rd 1 Qj a) Y) (tv (tN i) Y) Y (Qu _ hx1) Jm Ji if9) (lO (OL.loadR1 (t:=(tS x1)) (tv (T.rp [(tS x1)]) Y) Y ZG) ?_)
  obtain ⟨x2,hx2⟩:∃x,(a.take i++List.replicate (a.length - i) ByteArray.empty)[i]? =some x:=⟨_,List.getElem?_eq_getElem (by first | omega | (simp only [List.length_map];omega) | (simp only [List.length_map,List.length_append,List.length_cons,List.length_nil,List.length_replicate,List.length_set,List.length_drop,List.length_take,Zk] at *;omega))⟩
  refine fO (B.indexAddrO (i:=i) (tv (T.os 1 0 0 (((a.take i++List.replicate (a.length - i) ByteArray.empty).map (Qj true)).length)) Y) (tv (tN i) Y) Y (by first | omega | (simp only [List.length_map];omega) | (simp only [List.length_map,List.length_append,List.length_cons,List.length_nil,List.length_replicate,List.length_set,List.length_drop,List.length_take,Zk] at *;omega)) Jm Ji if9) (cO (B.storeP (us:= [(tS x1)]) (rows':=(((a.take i++List.replicate (a.length - i) ByteArray.empty).set i x1).map (Qj true))) (row:=(Qj true x2)) (tv (T.orp 1 0 i 0) Y) (tv (tS x1) Y) nofun Y (Qu _ hx2) Y (lb Y) if9 Ji (bc Y bn) (by intro r hr t ht;obtain ⟨x,_,rfl⟩:=List.mem_map.1 hr;rw [QoT] at ht;exact ZZ (okStr.pl _ t ht)) (Yc Y)) (VRunO.nil (vinB.n (tn (VRun.region (mO (tN i) Y (fO (QB (tv (tN i) Y) (VEv.int .i64 1) (by omega)) (aO (tN (i+1)) Y (VRunO.nil (tn ?_))))))))))
  have he2:((a.take i++List.replicate (a.length - i) ByteArray.empty).set i x1)=(a.take (i+1)++List.replicate (a.length - (i+1)) ByteArray.empty):=by first | rfl | (exact Y6 hx1) | (simp;done) | omega
  refine ⟨(i+1:Nat),?_,?_,Wk.mk (fun k=>k) ?_ ?_ ?_⟩
  ·first | trivial | omega | (simp;done) | exact ⟨by omega,hI'.2⟩
  ·first | omega | (simp only [];omega) | (show _<_;omega) | (simp;omega)
  ·exact (b2 (b2 (bc ⟨(congrArg (fun n_=>T.os 1 0 0 n_) (show ((a.take i++List.replicate (a.length - i) ByteArray.empty).map (Qj true)).length=((a.take (i+1)++List.replicate (a.length - (i+1)) ByteArray.empty).map (Qj true)).length from (by first | rfl | (simp only [List.length_map];omega) | (simp only [List.length_map,List.length_set,List.length_append,List.length_take,List.length_replicate,List.length_cons,List.length_nil];omega)))),rfl⟩ (b2 bn))))
  ·exact (bc ⟨(congrArg (fun l_=>some (Obj.rows 1 (List.map (Qj true) l_))) he2),(lb Y),rfl⟩ bn)
  ·exact nd Y
 refine VRun.exit (vthn.e (vthn.e (vinB.e (tn (sr (mO (T.os 1 0 0 (((a.take i++List.replicate (a.length - i) ByteArray.empty).map (Qj true)).length)) Y (aO (T.os 1 0 0 (((a.take i++List.replicate (a.length - i) ByteArray.empty).map (Qj true)).length)) Y (nt (rt ?_)))))))))
 refine vfin.eq (r':=(T.sl true 1 ((a.take i++List.replicate (a.length - i) ByteArray.empty).map (Qj true)))) ?_ (vfin.r (VRes.tmp (t:=(T.os 1 0 0 (((a.take i++List.replicate (a.length - i) ByteArray.empty).map (Qj true)).length))) Y VRes.nil) (Give.os Y Y (okStr.cleanMap _)))
 refine congrArg (fun l_=>T.sl true 1 (List.map (Qj true) l_)) ?_
 exact Qa9 fhc0
theorem QgF (n:Nat) (a:List Int) (b:List Int) (hla:a.length≤mx) (hlb:b.length≤mx):Pure (Qo Tryz.prog (n+1)) 51 [(rd 1 Qe a),(rd 1 Qe b)] (tB (decide (a=b))):=by
 refine Pure.intro (rs:= [ResultVar.tmp 4]) Tryz.func51 Y Y Y (E0:= [(0,(rd 1 Qe a)),(1,(rd 1 Qe b))]) Y ?_
 obtain ⟨hlim,hmx,hmax⟩:=Qz
 refine sr (fO (OF.assign (VEv.bool false)) (nt (sq (sr (mO (rd 1 Qe a) Y (lO (B.lenR (m:=a.length) (tv (rd 1 Qe a) Y) Yi (List.length_map ..)) (mO (rd 1 Qe b) Y (lO (B.lenR (m:=b.length) (tv (rd 1 Qe b) Y) Yi (List.length_map ..)) (fO (Qjw (tv (tN a.length) Y) (tv (tN b.length) Y)) (nt ?_))))))))))
 refine cn (a.length=b.length) Y (fun fhc0=> ?_) fun fhc0=> ?_
 ·refine sr ?_
  refine fO (OF.assign (VEv.bool false)) (nt (rt (tr (vb (b':=false) Y ?_))))
  symm;rw [decide_eq_false_iff_not];rintro rfl;exact fhc0 Y
 refine sk (tn (sq (sr (fO (OF.assign (VEv.int .i64 0)) (nt (VRun.block ?_))))))
 refine VRun.loop (A:=Nat) (fun s_=> [(0,(rd 1 Qe a)),(1,(rd 1 Qe b)),(5,(tN s_))]) (fun s_=>QV []) 0 (fun s_=>s_≤a.length∧∀j,j<s_→a[j]? =b[j]?) (fun s_=>a.length - s_) (0:Nat) ?_ (Wk.mk (fun k=>k) ?_ ?_ ?_) ?_
 ·(simp;done)
 ·exact (b2 (b2 (b2 bn)))
 ·exact bn
 ·exact nd Y
 rintro i (hI':i≤a.length∧∀j,j<i→a[j]? =b[j]?)
 show VRun _ _ _ [(0,(rd 1 Qe a)),(1,(rd 1 Qe b)),(5,(tN i))] (QV []) 0 _
 refine sq (sr (mO (tN i) Y (mO (rd 1 Qe a) Y (lO (B.lenR (m:=a.length) (tv (rd 1 Qe a) Y) Yi (List.length_map ..)) (fO (Q9 (tv (tN i) Y) (tv (tN a.length) Y)) (nt ?_))))))
 refine cd (i<a.length) Y (fun fhc1=> ?_) fun fhc1=> ?_
 ·refine sk ?_
  refine tn (sq (VRun.block (sq (VRun.draw (B:= [[],[],[1,0],[0,1,2],[],[],[5,4],[4,5,6],[6,5,4,7,2,1,0,3]]) (by kernel_rfl) (by kernel_rfl) (mD (rd 1 Qe a) Y Y (mD (tN i) Y Y ?_))))))
  obtain ⟨x1,hx1⟩:∃x,a[i]? =some x:=⟨_,List.getElem?_eq_getElem (by omega)⟩
  refine fD (OF.indexAddrR (row:=(Qe false x1)) (i:=i) (tv (rd 1 Qe a) Y) (tv (tN i) Y) Y (Qu _ hx1) Yi ZJ Y8) Y Y (lD (OL.loadR1 (t:=(tI x1)) (tv (T.rp [(tI x1)]) Y) Y QS) Y Y (mD (rd 1 Qe b) Y Y (mD (tN i) Y Y ?_)))
  obtain ⟨x2,hx2⟩:∃x,b[i]? =some x:=⟨_,List.getElem?_eq_getElem (by omega)⟩
  refine fD (OF.indexAddrR (row:=(Qe false x2)) (i:=i) (tv (rd 1 Qe b) Y) (tv (tN i) Y) Y (Qu _ hx2) Yi ZJ Y8) Y Y (lD (OL.loadR1 (t:=(tI x2)) (tv (T.rp [(tI x2)]) Y) Y QS) Y Y (fD (xne (tv (tI x1) Y) (tv (tI x2) Y)) Y Y (VRunD.nil (tn ?_))))
  refine cn (x1=x2) Y (fun fhc2=> ?_) fun fhc2=> ?_
  ·refine sr ?_
   refine fO (OF.assign (VEv.bool false)) (nt (rt (vinB.r (tr (tr (vinB.r (tr (vb (b':=false) Y ?_))))))))
   symm;rw [decide_eq_false_iff_not];exact J6 hx1 hx2 fhc2
  refine sk (vinB.n (tn (VRun.region (mO (tN i) Y (fO (QB (tv (tN i) Y) (VEv.int .i64 1) (by omega)) (aO (tN (i+1)) Y (VRunO.nil (tn ?_))))))))
  refine ⟨(i+1:Nat),?_,?_,Wk.mk (fun k=>k) ?_ ?_ ?_⟩
  ·exact Js hI' hx1 hx2 fhc2
  ·omega
  ·exact (b2 (b2 (b2 bn)))
  ·exact bn
  ·exact nd Y
 refine VRun.exit (vthn.e (vthn.e (vinB.e (tn (sr (fO (OF.assign (VEv.bool true)) (nt (rt (vb (b':=true) Y ?_)))))))))
 symm;rw [decide_eq_true_eq];exact Qaa hI' fhc0 fhc1
theorem QgM (n:Nat) (a:D.Grid) (b:D.Grid):Pure (Qo Tryz.prog (n+1)) 49 [(T.agg (Qc false a)),(T.agg (Qc false b))] (tB (decide (a=b))):=by
 refine Pure.intro (rs:= [ResultVar.tmp 4]) Tryz.func49 Y Y Y (E0:= [(0,(T.agg (Qc false a))),(1,(T.agg (Qc false b)))]) Y ?_
 obtain ⟨hlim,hmx,hmax⟩:=Qz
 refine sr (kO (B.box (ts:=(Qc false a)) (tv (T.agg (Qc false a)) Y) nofun Y) (kO (B.box (ts:=(Qc false b)) (tv (T.agg (Qc false b)) Y) nofun Y) (fO (OF.assign (VEv.bool false)) (nt (sq (sr (lf (tI a.Rows) Y QaM Y Y QS (lf (tI b.Rows) Y QaM Y Y QS (fO (xne (tv (tI a.Rows) Y) (tv (tI b.Rows) Y)) (nt ?_))))))))))
 refine cn (a.Rows=b.Rows) Y (fun fhc0=> ?_) fun fhc0=> ?_
 ·refine sr ?_
  refine fO (OF.assign (VEv.bool false)) (nt (rt (tr (vb (b':=false) Y ?_))))
  obtain ⟨a0,a1,a2⟩:=a
  obtain ⟨b0,b1,b2⟩:=b
  simp_all
 refine sk (tn (sq (sr (lf (tI a.Cols) Y ZD Y Y QS (lf (tI b.Cols) Y ZD Y Y QS (fO (xne (tv (tI a.Cols) Y) (tv (tI b.Cols) Y)) (nt ?_)))))))
 refine cn (a.Cols=b.Cols) Y (fun fhc1=> ?_) fun fhc1=> ?_
 ·refine sr ?_
  refine fO (OF.assign (VEv.bool false)) (nt (rt (tr (vb (b':=false) Y ?_))))
  obtain ⟨a0,a1,a2⟩:=a
  obtain ⟨b0,b1,b2⟩:=b
  simp_all
 refine sk (tn (sq (sr (lf (tS a.Cells) Y QL Y Y ZG (lf (tS b.Cells) Y QL Y Y ZG (fO (B.sneq (c:=(!(decide (a.Cells=b.Cells)))) (tv (tS a.Cells) Y) (tv (tS b.Cells) Y) Y) (nt ?_)))))))
 refine cn (a.Cells=b.Cells) Y (fun fhc2=> ?_) fun fhc2=> ?_
 ·refine sr ?_
  refine fO (OF.assign (VEv.bool false)) (nt (rt (tr (vb (b':=false) Y ?_))))
  obtain ⟨a0,a1,a2⟩:=a
  obtain ⟨b0,b1,b2⟩:=b
  simp_all
 refine sk (tn (sr (fO (OF.assign (VEv.bool true)) (nt (rt (vb (b':=true) Y ?_))))))
 obtain ⟨a0,a1,a2⟩:=a
 obtain ⟨b0,b1,b2⟩:=b
 simp_all
theorem QgL (n:Nat) (a:D.Step) (b:D.Step):Pure (Qo Tryz.prog (n+1)) 135 [(T.agg (Qd false a)),(T.agg (Qd false b))] (tB (decide (a=b))):=by
 refine Pure.intro (rs:= [ResultVar.tmp 4]) Tryz.func135 Y Y Y (E0:= [(0,(T.agg (Qd false a))),(1,(T.agg (Qd false b)))]) Y ?_
 obtain ⟨hlim,hmx,hmax⟩:=Qz
 refine sr (kO (B.box (ts:=(Qd false a)) (tv (T.agg (Qd false a)) Y) nofun Y) (kO (B.box (ts:=(Qd false b)) (tv (T.agg (Qd false b)) Y) nofun Y) (fO (OF.assign (VEv.bool false)) (nt (sq (sr (lf (tI a.Kind) Y Zf Y Y QS (lf (tI b.Kind) Y Zf Y Y QS (fO (xne (tv (tI a.Kind) Y) (tv (tI b.Kind) Y)) (nt ?_))))))))))
 refine cn (a.Kind=b.Kind) Y (fun fhc0=> ?_) fun fhc0=> ?_
 ·refine sr ?_
  refine fO (OF.assign (VEv.bool false)) (nt (rt (tr (vb (b':=false) Y ?_))))
  obtain ⟨a0,a1,a2,a3⟩:=a
  obtain ⟨b0,b1,b2,b3⟩:=b
  simp_all
 refine sk (tn (sq (sr (lf (tS a.Word) Y Z3 Y Y ZG (lf (tS b.Word) Y Z3 Y Y ZG (fO (B.sneq (c:=(!(decide (a.Word=b.Word)))) (tv (tS a.Word) Y) (tv (tS b.Word) Y) Y) (nt ?_)))))))
 refine cn (a.Word=b.Word) Y (fun fhc1=> ?_) fun fhc1=> ?_
 ·refine sr ?_
  refine fO (OF.assign (VEv.bool false)) (nt (rt (tr (vb (b':=false) Y ?_))))
  obtain ⟨a0,a1,a2,a3⟩:=a
  obtain ⟨b0,b1,b2,b3⟩:=b
  simp_all
 refine sk (tn (sq (sr (lf (tI a.A) Y ZC Y Y QS (lf (tI b.A) Y ZC Y Y QS (fO (xne (tv (tI a.A) Y) (tv (tI b.A) Y)) (nt ?_)))))))
 refine cn (a.A=b.A) Y (fun fhc2=> ?_) fun fhc2=> ?_
 ·refine sr ?_
  refine fO (OF.assign (VEv.bool false)) (nt (rt (tr (vb (b':=false) Y ?_))))
  obtain ⟨a0,a1,a2,a3⟩:=a
  obtain ⟨b0,b1,b2,b3⟩:=b
  simp_all
 refine sk (tn (sq (sr (lf (tI a.B) Y Z4 Y Y QS (lf (tI b.B) Y Z4 Y Y QS (fO (xne (tv (tI a.B) Y) (tv (tI b.B) Y)) (nt ?_)))))))
 refine cn (a.B=b.B) Y (fun fhc3=> ?_) fun fhc3=> ?_
 ·refine sr ?_
  refine fO (OF.assign (VEv.bool false)) (nt (rt (tr (vb (b':=false) Y ?_))))
  obtain ⟨a0,a1,a2,a3⟩:=a
  obtain ⟨b0,b1,b2,b3⟩:=b
  simp_all
 refine sk (tn (sr (fO (OF.assign (VEv.bool true)) (nt (rt (vb (b':=true) Y ?_))))))
 obtain ⟨a0,a1,a2,a3⟩:=a
 obtain ⟨b0,b1,b2,b3⟩:=b
 simp_all
theorem QfZ (n:Nat) (a:List D.Step) (b:List D.Step) (hla:a.length≤mx) (hlb:b.length≤mx):Pure (Qo Tryz.prog (n+2)) 99 [(rd 4 Qd a),(rd 4 Qd b)] (tB (decide (a=b))):=by
 refine Pure.intro (rs:= [ResultVar.tmp 4]) Tryz.func99 Y Y Y (E0:= [(0,(rd 4 Qd a)),(1,(rd 4 Qd b))]) Y ?_
 obtain ⟨hlim,hmx,hmax⟩:=Qz
 refine sr (fO (OF.assign (VEv.bool false)) (nt (sq (sr (mO (rd 4 Qd a) Y (lO (B.lenR (m:=a.length) (tv (rd 4 Qd a) Y) U62 (List.length_map ..)) (mO (rd 4 Qd b) Y (lO (B.lenR (m:=b.length) (tv (rd 4 Qd b) Y) U62 (List.length_map ..)) (fO (Qjw (tv (tN a.length) Y) (tv (tN b.length) Y)) (nt ?_))))))))))
 refine cn (a.length=b.length) Y (fun fhc0=> ?_) fun fhc0=> ?_
 ·refine sr ?_
  refine fO (OF.assign (VEv.bool false)) (nt (rt (tr (vb (b':=false) Y ?_))))
  symm;rw [decide_eq_false_iff_not];rintro rfl;exact fhc0 Y
 refine sk (tn (sq (sr (fO (OF.assign (VEv.int .i64 0)) (nt (VRun.block ?_))))))
 refine VRun.loop (A:=Nat) (fun s_=> [(0,(rd 4 Qd a)),(1,(rd 4 Qd b)),(5,(tN s_))]) (fun s_=>QV []) 0 (fun s_=>s_≤a.length∧∀j,j<s_→a[j]? =b[j]?) (fun s_=>a.length - s_) (0:Nat) ?_ (Wk.mk (fun k=>k) ?_ ?_ ?_) ?_
 ·(simp;done)
 ·exact (b2 (b2 (b2 bn)))
 ·exact bn
 ·exact nd Y
 rintro i (hI':i≤a.length∧∀j,j<i→a[j]? =b[j]?)
 show VRun _ _ _ [(0,(rd 4 Qd a)),(1,(rd 4 Qd b)),(5,(tN i))] (QV []) 0 _
 refine sq (sr (mO (tN i) Y (mO (rd 4 Qd a) Y (lO (B.lenR (m:=a.length) (tv (rd 4 Qd a) Y) U62 (List.length_map ..)) (fO (Q9 (tv (tN i) Y) (tv (tN a.length) Y)) (nt ?_))))))
 refine cd (i<a.length) Y (fun fhc1=> ?_) fun fhc1=> ?_
 ·refine sk ?_
  refine tn (sq (VRun.block (sq (VRun.draw (B:= [[],[],[1,0],[0,1,2],[],[],[5,4],[4,5,6],[6,5,4,7,2,1,0,3],[3,0,1,2,7,4,5,6,8]]) (by kernel_rfl) (by kernel_rfl) (mD (rd 4 Qd a) Y Y (mD (tN i) Y Y ?_))))))
  obtain ⟨x1,hx1⟩:∃x,a[i]? =some x:=⟨_,List.getElem?_eq_getElem (by omega)⟩
  refine fD (OF.indexAddrR (row:=(Qd false x1)) (i:=i) (tv (rd 4 Qd a) Y) (tv (tN i) Y) Y (Qu _ hx1) U62 ZE Yq) Y Y (lD (OL.loadRn (us:=(Qd false x1)) (tv (T.rp (Qd false x1)) Y) QbQ ZE (lb Y) Y) Y Y (mD (rd 4 Qd b) Y Y (mD (tN i) Y Y ?_)))
  obtain ⟨x2,hx2⟩:∃x,b[i]? =some x:=⟨_,List.getElem?_eq_getElem (by omega)⟩
  refine fD (OF.indexAddrR (row:=(Qd false x2)) (i:=i) (tv (rd 4 Qd b) Y) (tv (tN i) Y) Y (Qu _ hx2) U62 ZE Yq) Y Y (lD (OL.loadRn (us:=(Qd false x2)) (tv (T.rp (Qd false x2)) Y) QbQ ZE (lb Y) Y) Y Y (VRunD.quiet (bi:= [6,5,4,7,2,1,0,3]) Y VWant.always Y Y Y bn (cS (vc (tv (T.agg (Qd false x1)) Y) (vc (tv (T.agg (Qd false x2)) Y) vn)) (LendL.cons (lg okeStep) (LendL.cons (lg okeStep) ln)) (QgL (n+0) x1 x2) Y Y) (fD (QU (tv (tB (decide (x1=x2))) Y)) Y Y (VRunD.nil (tn ?_)))))
  refine cn (x1=x2) Y (fun fhc2=> ?_) fun fhc2=> ?_
  ·refine sr ?_
   refine fO (OF.assign (VEv.bool false)) (nt (rt (vinB.r (tr (tr (vinB.r (tr (vb (b':=false) Y ?_))))))))
   symm;rw [decide_eq_false_iff_not];exact J6 hx1 hx2 fhc2
  refine sk (vinB.n (tn (VRun.region (mO (tN i) Y (fO (QB (tv (tN i) Y) (VEv.int .i64 1) (by omega)) (aO (tN (i+1)) Y (VRunO.nil (tn ?_))))))))
  refine ⟨(i+1:Nat),?_,?_,Wk.mk (fun k=>k) ?_ ?_ ?_⟩
  ·exact Js hI' hx1 hx2 fhc2
  ·omega
  ·exact (b2 (b2 (b2 bn)))
  ·exact bn
  ·exact nd Y
 refine VRun.exit (vthn.e (vthn.e (vinB.e (tn (sr (fO (OF.assign (VEv.bool true)) (nt (rt (vb (b':=true) Y ?_)))))))))
 symm;rw [decide_eq_true_eq];exact Qaa hI' fhc0 fhc1
theorem QcE (n:Nat) (a:D.Clue) (b:D.Clue) (ha:QO a≤mx) (hb:QO b≤mx):Pure (Qo Tryz.prog (n+3)) 63 [(T.agg (Qi false a)),(T.agg (Qi false b))] (tB (decide (a=b))):=by
 refine Pure.intro (rs:= [ResultVar.tmp 4]) Tryz.func63 Y Y Y (E0:= [(0,(T.agg (Qi false a))),(1,(T.agg (Qi false b)))]) Y ?_
 obtain ⟨hlim,hmx,hmax⟩:=Qz
 simp only [QO] at ha hb
 have hla_Play:=Q1 (z:=Zc) a.Play
 have hlb_Play:=Q1 (z:=Zc) b.Play
 refine sr (kO (B.box (ts:=(Qi false a)) (tv (T.agg (Qi false a)) Y) nofun Y) (kO (B.box (ts:=(Qi false b)) (tv (T.agg (Qi false b)) Y) nofun Y) (fO (OF.assign (VEv.bool false)) (nt (sq (sr (lf (tI a.Sense) Y Qbz Y Y QS (lf (tI b.Sense) Y Qbz Y Y QS (fO (xne (tv (tI a.Sense) Y) (tv (tI b.Sense) Y)) (nt ?_))))))))))
 refine cn (a.Sense=b.Sense) Y (fun fhc0=> ?_) fun fhc0=> ?_
 ·refine sr ?_
  refine fO (OF.assign (VEv.bool false)) (nt (rt (tr (vb (b':=false) Y ?_))))
  obtain ⟨a0,a1⟩:=a
  obtain ⟨b0,b1⟩:=b
  simp_all
 refine sk (tn (sq (sr (lf (rd 4 Qd a.Play) Y Qac Y Y QgP (lf (rd 4 Qd b.Play) Y Qac Y Y QgP (cO (cS (vc (tv (rd 4 Qd a.Play) Y) (vc (tv (rd 4 Qd b.Play) Y) vn)) (Zg Y) (QfZ (n+0) a.Play b.Play (by omega) (by omega)) Y Y) (fO (QU (tv (tB (decide (a.Play=b.Play))) Y)) (nt ?_))))))))
 refine cn (a.Play=b.Play) Y (fun fhc1=> ?_) fun fhc1=> ?_
 ·refine sr ?_
  refine fO (OF.assign (VEv.bool false)) (nt (rt (tr (vb (b':=false) Y ?_))))
  obtain ⟨a0,a1⟩:=a
  obtain ⟨b0,b1⟩:=b
  simp_all
 refine sk (tn (sr (fO (OF.assign (VEv.bool true)) (nt (rt (vb (b':=true) Y ?_))))))
 obtain ⟨a0,a1⟩:=a
 obtain ⟨b0,b1⟩:=b
 simp_all
theorem QfK (n:Nat) (a:List D.Clue) (b:List D.Clue) (ha:zL QO a≤mx) (hb:zL QO b≤mx):Pure (Qo Tryz.prog (n+4)) 50 [(rd 2 Qi a),(rd 2 Qi b)] (tB (decide (a=b))):=by
 refine Pure.intro (rs:= [ResultVar.tmp 4]) Tryz.func50 Y Y Y (E0:= [(0,(rd 2 Qi a)),(1,(rd 2 Qi b))]) Y ?_
 obtain ⟨hlim,hmx,hmax⟩:=Qz
 have hla:=Q1 (z:=QO) a
 have hlb:=Q1 (z:=QO) b
 refine sr (fO (OF.assign (VEv.bool false)) (nt (sq (sr (mO (rd 2 Qi a) Y (lO (B.lenR (m:=a.length) (tv (rd 2 Qi a) Y) U37 (List.length_map ..)) (mO (rd 2 Qi b) Y (lO (B.lenR (m:=b.length) (tv (rd 2 Qi b) Y) U37 (List.length_map ..)) (fO (Qjw (tv (tN a.length) Y) (tv (tN b.length) Y)) (nt ?_))))))))))
 refine cn (a.length=b.length) Y (fun fhc0=> ?_) fun fhc0=> ?_
 ·refine sr ?_
  refine fO (OF.assign (VEv.bool false)) (nt (rt (tr (vb (b':=false) Y ?_))))
  symm;rw [decide_eq_false_iff_not];rintro rfl;exact fhc0 Y
 refine sk (tn (sq (sr (fO (OF.assign (VEv.int .i64 0)) (nt (VRun.block ?_))))))
 refine VRun.loop (A:=Nat) (fun s_=> [(0,(rd 2 Qi a)),(1,(rd 2 Qi b)),(5,(tN s_))]) (fun s_=>QV []) 0 (fun s_=>s_≤a.length∧∀j,j<s_→a[j]? =b[j]?) (fun s_=>a.length - s_) (0:Nat) ?_ (Wk.mk (fun k=>k) ?_ ?_ ?_) ?_
 ·(simp;done)
 ·exact (b2 (b2 (b2 bn)))
 ·exact bn
 ·exact nd Y
 rintro i (hI':i≤a.length∧∀j,j<i→a[j]? =b[j]?)
 show VRun _ _ _ [(0,(rd 2 Qi a)),(1,(rd 2 Qi b)),(5,(tN i))] (QV []) 0 _
 refine sq (sr (mO (tN i) Y (mO (rd 2 Qi a) Y (lO (B.lenR (m:=a.length) (tv (rd 2 Qi a) Y) U37 (List.length_map ..)) (fO (Q9 (tv (tN i) Y) (tv (tN a.length) Y)) (nt ?_))))))
 refine cd (i<a.length) Y (fun fhc1=> ?_) fun fhc1=> ?_
 ·refine sk ?_
  refine tn (sq (VRun.block (sq (VRun.draw (B:= [[],[],[1,0],[0,1,2],[],[],[5,4],[4,5,6],[6,5,4,7,2,1,0,3],[3,0,1,2,7,4,5,6,8]]) (by kernel_rfl) (by kernel_rfl) (mD (rd 2 Qi a) Y Y (mD (tN i) Y Y ?_))))))
  obtain ⟨x1,hx1⟩:∃x,a[i]? =some x:=⟨_,List.getElem?_eq_getElem (by omega)⟩
  refine fD (OF.indexAddrR (row:=(Qi false x1)) (i:=i) (tv (rd 2 Qi a) Y) (tv (tN i) Y) Y (Qu _ hx1) U37 Y7 QhX) Y Y (lD (OL.loadRn (us:=(Qi false x1)) (tv (T.rp (Qi false x1)) Y) Qbx Y7 (lb Y) Y) Y Y (mD (rd 2 Qi b) Y Y (mD (tN i) Y Y ?_)))
  obtain ⟨x2,hx2⟩:∃x,b[i]? =some x:=⟨_,List.getElem?_eq_getElem (by omega)⟩
  refine fD (OF.indexAddrR (row:=(Qi false x2)) (i:=i) (tv (rd 2 Qi b) Y) (tv (tN i) Y) Y (Qu _ hx2) U37 Y7 QhX) Y Y (lD (OL.loadRn (us:=(Qi false x2)) (tv (T.rp (Qi false x2)) Y) Qbx Y7 (lb Y) Y) Y Y (VRunD.quiet (bi:= [6,5,4,7,2,1,0,3]) Y VWant.always Y Y Y bn (cS (vc (tv (T.agg (Qi false x1)) Y) (vc (tv (T.agg (Qi false x2)) Y) vn)) (LendL.cons (lg okeClue) (LendL.cons (lg okeClue) ln)) (QcE (n+0) x1 x2 (by exact Nat.le_trans (QeI hx1) ha) (by exact Nat.le_trans (QeI hx2) hb)) Y Y) (fD (QU (tv (tB (decide (x1=x2))) Y)) Y Y (VRunD.nil (tn ?_)))))
  refine cn (x1=x2) Y (fun fhc2=> ?_) fun fhc2=> ?_
  ·refine sr ?_
   refine fO (OF.assign (VEv.bool false)) (nt (rt (vinB.r (tr (tr (vinB.r (tr (vb (b':=false) Y ?_))))))))
   symm;rw [decide_eq_false_iff_not];exact J6 hx1 hx2 fhc2
  refine sk (vinB.n (tn (VRun.region (mO (tN i) Y (fO (QB (tv (tN i) Y) (VEv.int .i64 1) (by omega)) (aO (tN (i+1)) Y (VRunO.nil (tn ?_))))))))
  refine ⟨(i+1:Nat),?_,?_,Wk.mk (fun k=>k) ?_ ?_ ?_⟩
  ·exact Js hI' hx1 hx2 fhc2
  ·omega
  ·exact (b2 (b2 (b2 bn)))
  ·exact bn
  ·exact nd Y
 refine VRun.exit (vthn.e (vthn.e (vinB.e (tn (sr (fO (OF.assign (VEv.bool true)) (nt (rt (vb (b':=true) Y ?_)))))))))
 symm;rw [decide_eq_true_eq];exact Qaa hI' fhc0 fhc1
theorem Qed (n:Nat) (a:D.Meaning) (b:D.Meaning):Pure (Qo Tryz.prog (n+1)) 52 [(T.agg (Qb false a)),(T.agg (Qb false b))] (tB (decide (a=b))):=by
 refine Pure.intro (rs:= [ResultVar.tmp 4]) Tryz.func52 Y Y Y (E0:= [(0,(T.agg (Qb false a))),(1,(T.agg (Qb false b)))]) Y ?_
 obtain ⟨hlim,hmx,hmax⟩:=Qz
 refine sr (kO (B.box (ts:=(Qb false a)) (tv (T.agg (Qb false a)) Y) nofun Y) (kO (B.box (ts:=(Qb false b)) (tv (T.agg (Qb false b)) Y) nofun Y) (fO (OF.assign (VEv.bool false)) (nt (sq (sr (lf (tS a.Word) Y Qif Y Y ZG (lf (tS b.Word) Y Qif Y Y ZG (fO (B.sneq (c:=(!(decide (a.Word=b.Word)))) (tv (tS a.Word) Y) (tv (tS b.Word) Y) Y) (nt ?_))))))))))
 refine cn (a.Word=b.Word) Y (fun fhc0=> ?_) fun fhc0=> ?_
 ·refine sr ?_
  refine fO (OF.assign (VEv.bool false)) (nt (rt (tr (vb (b':=false) Y ?_))))
  obtain ⟨a0,a1⟩:=a
  obtain ⟨b0,b1⟩:=b
  simp_all
 refine sk (tn (sq (sr (lf (tI a.Sense) Y QhU Y Y QS (lf (tI b.Sense) Y QhU Y Y QS (fO (xne (tv (tI a.Sense) Y) (tv (tI b.Sense) Y)) (nt ?_)))))))
 refine cn (a.Sense=b.Sense) Y (fun fhc1=> ?_) fun fhc1=> ?_
 ·refine sr ?_
  refine fO (OF.assign (VEv.bool false)) (nt (rt (tr (vb (b':=false) Y ?_))))
  obtain ⟨a0,a1⟩:=a
  obtain ⟨b0,b1⟩:=b
  simp_all
 refine sk (tn (sr (fO (OF.assign (VEv.bool true)) (nt (rt (vb (b':=true) Y ?_))))))
 obtain ⟨a0,a1⟩:=a
 obtain ⟨b0,b1⟩:=b
 simp_all
theorem QdR (n:Nat) (a:List D.Meaning) (b:List D.Meaning) (hla:a.length≤mx) (hlb:b.length≤mx):Pure (Qo Tryz.prog (n+2)) 15 [(rd 2 Qb a),(rd 2 Qb b)] (tB (decide (a=b))):=by
 refine Pure.intro (rs:= [ResultVar.tmp 4]) Tryz.func15 Y Y Y (E0:= [(0,(rd 2 Qb a)),(1,(rd 2 Qb b))]) Y ?_
 obtain ⟨hlim,hmx,hmax⟩:=Qz
 refine sr (fO (OF.assign (VEv.bool false)) (nt (sq (sr (mO (rd 2 Qb a) Y (lO (B.lenR (m:=a.length) (tv (rd 2 Qb a) Y) U41 (List.length_map ..)) (mO (rd 2 Qb b) Y (lO (B.lenR (m:=b.length) (tv (rd 2 Qb b) Y) U41 (List.length_map ..)) (fO (Qjw (tv (tN a.length) Y) (tv (tN b.length) Y)) (nt ?_))))))))))
 refine cn (a.length=b.length) Y (fun fhc0=> ?_) fun fhc0=> ?_
 ·refine sr ?_
  refine fO (OF.assign (VEv.bool false)) (nt (rt (tr (vb (b':=false) Y ?_))))
  symm;rw [decide_eq_false_iff_not];rintro rfl;exact fhc0 Y
 refine sk (tn (sq (sr (fO (OF.assign (VEv.int .i64 0)) (nt (VRun.block ?_))))))
 refine VRun.loop (A:=Nat) (fun s_=> [(0,(rd 2 Qb a)),(1,(rd 2 Qb b)),(5,(tN s_))]) (fun s_=>QV []) 0 (fun s_=>s_≤a.length∧∀j,j<s_→a[j]? =b[j]?) (fun s_=>a.length - s_) (0:Nat) ?_ (Wk.mk (fun k=>k) ?_ ?_ ?_) ?_
 ·first | trivial | (simp;done) | omega | (constructor<;>simp)
 ·exact (b2 (b2 (b2 bn)))
 ·exact bn
 ·exact nd Y
 rintro i (hI':i≤a.length∧∀j,j<i→a[j]? =b[j]?)
 show VRun _ _ _ [(0,(rd 2 Qb a)),(1,(rd 2 Qb b)),(5,(tN i))] (QV []) 0 _
 refine sq (sr (mO (tN i) Y (mO (rd 2 Qb a) Y (lO (B.lenR (m:=a.length) (tv (rd 2 Qb a) Y) U41 (List.length_map ..)) (fO (Q9 (tv (tN i) Y) (tv (tN a.length) Y)) (nt ?_))))))
 refine cd (i<a.length) Y (fun fhc1=> ?_) fun fhc1=> ?_
 ·refine sk ?_
  refine tn (sq (VRun.block (sq (VRun.draw (B:= [[],[],[1,0],[0,1,2],[],[],[5,4],[4,5,6],[6,5,4,7,2,1,0,3],[3,0,1,2,7,4,5,6,8]]) (by kernel_rfl) (by kernel_rfl) (mD (rd 2 Qb a) Y Y (mD (tN i) Y Y ?_))))))
  obtain ⟨x1,hx1⟩:∃x,a[i]? =some x:=⟨_,List.getElem?_eq_getElem (by omega)⟩
  refine fD (OF.indexAddrR (row:=(Qb false x1)) (i:=i) (tv (rd 2 Qb a) Y) (tv (tN i) Y) Y (Qu _ hx1) U41 Qb3 QiE) Y Y (lD (OL.loadRn (us:=(Qb false x1)) (tv (T.rp (Qb false x1)) Y) Qj1 Qb3 (lb Y) Y) Y Y (mD (rd 2 Qb b) Y Y (mD (tN i) Y Y ?_)))
  obtain ⟨x2,hx2⟩:∃x,b[i]? =some x:=⟨_,List.getElem?_eq_getElem (by omega)⟩
  refine fD (OF.indexAddrR (row:=(Qb false x2)) (i:=i) (tv (rd 2 Qb b) Y) (tv (tN i) Y) Y (Qu _ hx2) U41 Qb3 QiE) Y Y (lD (OL.loadRn (us:=(Qb false x2)) (tv (T.rp (Qb false x2)) Y) Qj1 Qb3 (lb Y) Y) Y Y (VRunD.quiet (bi:= [6,5,4,7,2,1,0,3]) Y VWant.always Y Y Y bn (cS (vc (tv (T.agg (Qb false x1)) Y) (vc (tv (T.agg (Qb false x2)) Y) vn)) (LendL.cons (lg okeMeaning) (LendL.cons (lg okeMeaning) ln)) (Qed (n+0) x1 x2) Y Y) (fD (QU (tv (tB (decide (x1=x2))) Y)) Y Y (VRunD.nil (tn ?_)))))
  refine cn (x1=x2) Y (fun fhc2=> ?_) fun fhc2=> ?_
  ·refine sr ?_
   refine fO (OF.assign (VEv.bool false)) (nt (rt (vinB.r (tr (tr (vinB.r (tr (vb (b':=false) Y ?_))))))))
   symm;rw [decide_eq_false_iff_not];exact J6 hx1 hx2 fhc2
  refine sk (vinB.n (tn (VRun.region (mO (tN i) Y (fO (QB (tv (tN i) Y) (VEv.int .i64 1) (by omega)) (aO (tN (i+1)) Y (VRunO.nil (tn ?_))))))))
  refine ⟨(i+1:Nat),?_,?_,Wk.mk (fun k=>k) ?_ ?_ ?_⟩
  ·exact Js hI' hx1 hx2 fhc2
  ·first | omega | (simp only [];omega) | (show _<_;omega) | (simp;omega)
  ·exact (b2 (b2 (b2 bn)))
  ·exact bn
  ·exact nd Y
 refine VRun.exit (vthn.e (vthn.e (vinB.e (tn (sr (fO (OF.assign (VEv.bool true)) (nt (rt (vb (b':=true) Y ?_)))))))))
 symm;rw [decide_eq_true_eq];exact Qaa hI' fhc0 fhc1
theorem QeY (n:Nat) (a:D.Puzzle) (b:D.Puzzle) (ha:QT a≤mx) (hb:QT b≤mx):Pure (Qo Tryz.prog (n+5)) 14 [(T.agg (QF false a)),(T.agg (QF false b))] (tB (decide (a=b))):=by
 refine Pure.intro (rs:= [ResultVar.tmp 4]) Tryz.func14 Y Y Y (E0:= [(0,(T.agg (QF false a))),(1,(T.agg (QF false b)))]) Y ?_
 obtain ⟨hlim,hmx,hmax⟩:=Qz
 simp only [QT] at ha hb
 have hla_Clues:=Q1 (z:=QO) a.Clues
 have hla_Seals:=Q1 (z:=zI) a.Seals
 have hlb_Clues:=Q1 (z:=QO) b.Clues
 have hlb_Seals:=Q1 (z:=zI) b.Seals
 refine sr (kO (B.box (ts:=(QF false a)) (tv (T.agg (QF false a)) Y) nofun Y) (kO (B.box (ts:=(QF false b)) (tv (T.agg (QF false b)) Y) nofun Y) (fO (OF.assign (VEv.bool false)) (nt (sq (sr (fO (OF.fieldAddrO (tv (T.op 0 0) Y) Jy) (lO (OL.loadOn (us:=(Qc false a.Grid)) (tv (T.op 0 0) Y) Y Q6 Q0 (lb Y) Y) (fO (OF.fieldAddrO (tv (T.op 1 0) Y) Jy) (lO (OL.loadOn (us:=(Qc false b.Grid)) (tv (T.op 1 0) Y) Y Q6 Q0 (lb Y) Y) (cO (cS (vc (tv (T.agg (Qc false a.Grid)) Y) (vc (tv (T.agg (Qc false b.Grid)) Y) vn)) (LendL.cons (lg Qx) (LendL.cons (lg Qx) ln)) (QgM (n+3) a.Grid b.Grid) Y Y) ?_)))))))))))
 refine fO (QU (tv (tB (decide (a.Grid=b.Grid))) Y)) (nt ?_)
 refine cn (a.Grid=b.Grid) Y (fun fhc0=> ?_) fun fhc0=> ?_
 ·refine sr ?_
  refine fO (OF.assign (VEv.bool false)) (nt (rt (tr (vb (b':=false) Y ?_))))
  obtain ⟨a0,a1,a2,a3⟩:=a
  obtain ⟨b0,b1,b2,b3⟩:=b
  simp_all
 refine sk (tn (sq (sr (lf (rd 2 Qi a.Clues) Y Qal Y Y QgO (lf (rd 2 Qi b.Clues) Y Qal Y Y QgO (cO (cS (vc (tv (rd 2 Qi a.Clues) Y) (vc (tv (rd 2 Qi b.Clues) Y) vn)) (Zg Y) (QfK (n+0) a.Clues b.Clues (by first | assumption | omega) (by first | assumption | omega)) Y Y) (fO (QU (tv (tB (decide (a.Clues=b.Clues))) Y)) (nt ?_))))))))
 refine cn (a.Clues=b.Clues) Y (fun fhc1=> ?_) fun fhc1=> ?_
 ·refine sr ?_
  refine fO (OF.assign (VEv.bool false)) (nt (rt (tr (vb (b':=false) Y ?_))))
  obtain ⟨a0,a1,a2,a3⟩:=a
  obtain ⟨b0,b1,b2,b3⟩:=b
  simp_all
 refine sk (tn (sq (sr (lf (rd 1 Qe a.Seals) Y QbO Y Y QeD (lf (rd 1 Qe b.Seals) Y QbO Y Y QeD (cO (cS (vc (tv (rd 1 Qe a.Seals) Y) (vc (tv (rd 1 Qe b.Seals) Y) vn)) (Zg Y) (QgF (n+3) a.Seals b.Seals (by first | assumption | omega) (by first | assumption | omega)) Y Y) (fO (QU (tv (tB (decide (a.Seals=b.Seals))) Y)) (nt ?_))))))))
 refine cn (a.Seals=b.Seals) Y (fun fhc2=> ?_) fun fhc2=> ?_
 ·refine sr ?_
  refine fO (OF.assign (VEv.bool false)) (nt (rt (tr (vb (b':=false) Y ?_))))
  obtain ⟨a0,a1,a2,a3⟩:=a
  obtain ⟨b0,b1,b2,b3⟩:=b
  simp_all
 refine sk (tn (sq (sr (lf (tI a.Salt) Y Qc1 Y Y QS (lf (tI b.Salt) Y Qc1 Y Y QS (fO (xne (tv (tI a.Salt) Y) (tv (tI b.Salt) Y)) (nt ?_)))))))
 refine cn (a.Salt=b.Salt) Y (fun fhc3=> ?_) fun fhc3=> ?_
 ·refine sr ?_
  refine fO (OF.assign (VEv.bool false)) (nt (rt (tr (vb (b':=false) Y ?_))))
  obtain ⟨a0,a1,a2,a3⟩:=a
  obtain ⟨b0,b1,b2,b3⟩:=b
  simp_all
 refine sk (tn (sr (fO (OF.assign (VEv.bool true)) (nt (rt (vb (b':=true) Y ?_))))))
 obtain ⟨a0,a1,a2,a3⟩:=a
 obtain ⟨b0,b1,b2,b3⟩:=b
 simp_all
theorem Qf6 (n:Nat) (a:D.Issue) (b:D.Issue) (ha:QZ a≤mx) (hb:QZ b≤mx):Pure (Qo Tryz.prog (n+6)) 24 [(T.agg (QQ false a)),(T.agg (QQ false b))] (tB (decide (a=b))):=by
 refine Pure.intro (rs:= [ResultVar.tmp 4]) Tryz.func24 Y Y Y (E0:= [(0,(T.agg (QQ false a))),(1,(T.agg (QQ false b)))]) Y ?_
 obtain ⟨hlim,hmx,hmax⟩:=Qz
 simp only [QZ] at ha hb
 refine sr (kO (B.box (ts:=(QQ false a)) (tv (T.agg (QQ false a)) Y) nofun Y) (kO (B.box (ts:=(QQ false b)) (tv (T.agg (QQ false b)) Y) nofun Y) (fO (OF.assign (VEv.bool false)) (nt (sq (sr (lf (tI a.Number) Y Qc7 Y Y QS (lf (tI b.Number) Y Qc7 Y Y QS (fO (xne (tv (tI a.Number) Y) (tv (tI b.Number) Y)) (nt ?_))))))))))
 refine cn (a.Number=b.Number) Y (fun fhc0=> ?_) fun fhc0=> ?_
 ·refine sr ?_
  refine fO (OF.assign (VEv.bool false)) (nt (rt (tr (vb (b':=false) Y ?_))))
  obtain ⟨a0,a1,a2,a3,a4⟩:=a
  obtain ⟨b0,b1,b2,b3,b4⟩:=b
  simp_all
 refine sk (tn (sq (sr (fO (OF.fieldAddrO (tv (T.op 0 0) Y) Qbt) (lO (OL.loadOn (us:=(QF false a.Puzzle)) (tv (T.op 0 1) Y) Y Qjj QfT (lb Y) Y) (fO (OF.fieldAddrO (tv (T.op 1 0) Y) Qbt) (lO (OL.loadOn (us:=(QF false b.Puzzle)) (tv (T.op 1 1) Y) Y Qjj QfT (lb Y) Y) (cO (cS (vc (tv (T.agg (QF false a.Puzzle)) Y) (vc (tv (T.agg (QF false b.Puzzle)) Y) vn)) (LendL.cons (lg Y5) (LendL.cons (lg Y5) ln)) (QeY (n+0) a.Puzzle b.Puzzle (by first | assumption | omega) (by first | assumption | omega)) Y Y) (fO (QU (tv (tB (decide (a.Puzzle=b.Puzzle))) Y)) (nt ?_))))))))))
 refine cn (a.Puzzle=b.Puzzle) Y (fun fhc1=> ?_) fun fhc1=> ?_
 ·refine sr ?_
  refine fO (OF.assign (VEv.bool false)) (nt (rt (tr (vb (b':=false) Y ?_))))
  obtain ⟨a0,a1,a2,a3,a4⟩:=a
  obtain ⟨b0,b1,b2,b3,b4⟩:=b
  simp_all
 refine sk (tn (sq (sr (lf (tS a.Fill) Y QcT Y Y ZG (lf (tS b.Fill) Y QcT Y Y ZG (fO (B.sneq (c:=(!(decide (a.Fill=b.Fill)))) (tv (tS a.Fill) Y) (tv (tS b.Fill) Y) Y) (nt ?_)))))))
 refine cn (a.Fill=b.Fill) Y (fun fhc2=> ?_) fun fhc2=> ?_
 ·refine sr ?_
  refine fO (OF.assign (VEv.bool false)) (nt (rt (tr (vb (b':=false) Y ?_))))
  obtain ⟨a0,a1,a2,a3,a4⟩:=a
  obtain ⟨b0,b1,b2,b3,b4⟩:=b
  simp_all
 refine sk (tn (sq (sr (lf (tI a.Open) Y Qc8 Y Y QS (lf (tI b.Open) Y Qc8 Y Y QS (fO (xne (tv (tI a.Open) Y) (tv (tI b.Open) Y)) (nt ?_)))))))
 refine cn (a.Open=b.Open) Y (fun fhc3=> ?_) fun fhc3=> ?_
 ·refine sr ?_
  refine fO (OF.assign (VEv.bool false)) (nt (rt (tr (vb (b':=false) Y ?_))))
  obtain ⟨a0,a1,a2,a3,a4⟩:=a
  obtain ⟨b0,b1,b2,b3,b4⟩:=b
  simp_all
 refine sk (tn (sq (sr (lf (tI a.Close) Y QcQ Y Y QS (lf (tI b.Close) Y QcQ Y Y QS (fO (xne (tv (tI a.Close) Y) (tv (tI b.Close) Y)) (nt ?_)))))))
 refine cn (a.Close=b.Close) Y (fun fhc4=> ?_) fun fhc4=> ?_
 ·refine sr ?_
  refine fO (OF.assign (VEv.bool false)) (nt (rt (tr (vb (b':=false) Y ?_))))
  obtain ⟨a0,a1,a2,a3,a4⟩:=a
  obtain ⟨b0,b1,b2,b3,b4⟩:=b
  simp_all
 refine sk (tn (sr (fO (OF.assign (VEv.bool true)) (nt (rt (vb (b':=true) Y ?_))))))
 obtain ⟨a0,a1,a2,a3,a4⟩:=a
 obtain ⟨b0,b1,b2,b3,b4⟩:=b
 simp_all
theorem Qcq (n:Nat) (a:D.Correction) (b:D.Correction) (ha:QC a≤mx) (hb:QC b≤mx):Pure (Qo Tryz.prog (n+4)) 25 [(T.agg (Qv false a)),(T.agg (Qv false b))] (tB (decide (a=b))):=by
 refine Pure.intro (rs:= [ResultVar.tmp 4]) Tryz.func25 Y Y Y (E0:= [(0,(T.agg (Qv false a))),(1,(T.agg (Qv false b)))]) Y ?_
 obtain ⟨hlim,hmx,hmax⟩:=Qz
 simp only [QC] at ha hb
 refine sr (kO (B.box (ts:=(Qv false a)) (tv (T.agg (Qv false a)) Y) nofun Y) (kO (B.box (ts:=(Qv false b)) (tv (T.agg (Qv false b)) Y) nofun Y) (fO (OF.assign (VEv.bool false)) (nt (sq (sr (lf (tI a.Issue) Y QfS Y Y QS (lf (tI b.Issue) Y QfS Y Y QS (fO (xne (tv (tI a.Issue) Y) (tv (tI b.Issue) Y)) (nt ?_))))))))))
 refine cn (a.Issue=b.Issue) Y (fun fhc0=> ?_) fun fhc0=> ?_
 ·refine sr ?_
  refine fO (OF.assign (VEv.bool false)) (nt (rt (tr (vb (b':=false) Y ?_))))
  obtain ⟨a0,a1,a2,a3⟩:=a
  obtain ⟨b0,b1,b2,b3⟩:=b
  simp_all
 refine sk (tn (sq (sr (lf (tI a.Slot) Y Qdc Y Y QS (lf (tI b.Slot) Y Qdc Y Y QS (fO (xne (tv (tI a.Slot) Y) (tv (tI b.Slot) Y)) (nt ?_)))))))
 refine cn (a.Slot=b.Slot) Y (fun fhc1=> ?_) fun fhc1=> ?_
 ·refine sr ?_
  refine fO (OF.assign (VEv.bool false)) (nt (rt (tr (vb (b':=false) Y ?_))))
  obtain ⟨a0,a1,a2,a3⟩:=a
  obtain ⟨b0,b1,b2,b3⟩:=b
  simp_all
 refine sk (tn (sq (sr (fO (OF.fieldAddrO (tv (T.op 0 0) Y) QfN) (lO (OL.loadOn (us:=(Qi false a.Clue)) (tv (T.op 0 2) Y) Y Qbx Y7 (lb Y) Y) (fO (OF.fieldAddrO (tv (T.op 1 0) Y) QfN) (lO (OL.loadOn (us:=(Qi false b.Clue)) (tv (T.op 1 2) Y) Y Qbx Y7 (lb Y) Y) (cO (cS (vc (tv (T.agg (Qi false a.Clue)) Y) (vc (tv (T.agg (Qi false b.Clue)) Y) vn)) (LendL.cons (lg okeClue) (LendL.cons (lg okeClue) ln)) (QcE (n+0) a.Clue b.Clue (by first | assumption | omega) (by first | assumption | omega)) Y Y) (fO (QU (tv (tB (decide (a.Clue=b.Clue))) Y)) (nt ?_))))))))))
 refine cn (a.Clue=b.Clue) Y (fun fhc2=> ?_) fun fhc2=> ?_
 ·refine sr ?_
  refine fO (OF.assign (VEv.bool false)) (nt (rt (tr (vb (b':=false) Y ?_))))
  obtain ⟨a0,a1,a2,a3⟩:=a
  obtain ⟨b0,b1,b2,b3⟩:=b
  simp_all
 refine sk (tn (sq (sr (lf (tI a.Tick) Y Qj4 Y Y QS (lf (tI b.Tick) Y Qj4 Y Y QS (fO (xne (tv (tI a.Tick) Y) (tv (tI b.Tick) Y)) (nt ?_)))))))
 refine cn (a.Tick=b.Tick) Y (fun fhc3=> ?_) fun fhc3=> ?_
 ·refine sr ?_
  refine fO (OF.assign (VEv.bool false)) (nt (rt (tr (vb (b':=false) Y ?_))))
  obtain ⟨a0,a1,a2,a3⟩:=a
  obtain ⟨b0,b1,b2,b3⟩:=b
  simp_all
 refine sk (tn (sr (fO (OF.assign (VEv.bool true)) (nt (rt (vb (b':=true) Y ?_))))))
 obtain ⟨a0,a1,a2,a3⟩:=a
 obtain ⟨b0,b1,b2,b3⟩:=b
 simp_all
theorem Qei (n:Nat) (a:List ByteArray) (b:List ByteArray) (hla:a.length≤mx) (hlb:b.length≤mx):Pure (Qo Tryz.prog (n+1)) 26 [(rd 1 Qj a),(rd 1 Qj b)] (tB (decide (a=b))):=by
 refine Pure.intro (rs:= [ResultVar.tmp 4]) Tryz.func26 Y Y Y (E0:= [(0,(rd 1 Qj a)),(1,(rd 1 Qj b))]) Y ?_
 obtain ⟨hlim,hmx,hmax⟩:=Qz
 refine sr (fO (OF.assign (VEv.bool false)) (nt (sq (sr (mO (rd 1 Qj a) Y (lO (B.lenR (m:=a.length) (tv (rd 1 Qj a) Y) Jm (List.length_map ..)) (mO (rd 1 Qj b) Y (lO (B.lenR (m:=b.length) (tv (rd 1 Qj b) Y) Jm (List.length_map ..)) (fO (Qjw (tv (tN a.length) Y) (tv (tN b.length) Y)) (nt ?_))))))))))
 refine cn (a.length=b.length) Y (fun fhc0=> ?_) fun fhc0=> ?_
 ·refine sr ?_
  refine fO (OF.assign (VEv.bool false)) (nt (rt (tr (vb (b':=false) Y ?_))))
  symm;rw [decide_eq_false_iff_not];rintro rfl;exact fhc0 Y
 refine sk (tn (sq (sr (fO (OF.assign (VEv.int .i64 0)) (nt (VRun.block ?_))))))
 refine VRun.loop (A:=Nat) (fun s_=> [(0,(rd 1 Qj a)),(1,(rd 1 Qj b)),(5,(tN s_))]) (fun s_=>QV []) 0 (fun s_=>s_≤a.length∧∀j,j<s_→a[j]? =b[j]?) (fun s_=>a.length - s_) (0:Nat) ?_ (Wk.mk (fun k=>k) ?_ ?_ ?_) ?_
 ·first | trivial | (simp;done) | omega | (constructor<;>simp)
 ·exact (b2 (b2 (b2 bn)))
 ·exact bn
 ·exact nd Y
 rintro i (hI':i≤a.length∧∀j,j<i→a[j]? =b[j]?)
 show VRun _ _ _ [(0,(rd 1 Qj a)),(1,(rd 1 Qj b)),(5,(tN i))] (QV []) 0 _
 refine sq (sr (mO (tN i) Y (mO (rd 1 Qj a) Y (lO (B.lenR (m:=a.length) (tv (rd 1 Qj a) Y) Jm (List.length_map ..)) (fO (Q9 (tv (tN i) Y) (tv (tN a.length) Y)) (nt ?_))))))
 refine cd (i<a.length) Y (fun fhc1=> ?_) fun fhc1=> ?_
 ·refine sk ?_
  refine tn (sq (VRun.block (sq (VRun.draw (B:= [[],[],[1,0],[0,1,2],[],[],[5,4],[4,5,6],[6,5,4,7,2,1,0,3]]) (by kernel_rfl) (by kernel_rfl) (mD (rd 1 Qj a) Y Y (mD (tN i) Y Y ?_))))))
  obtain ⟨x1,hx1⟩:∃x,a[i]? =some x:=⟨_,List.getElem?_eq_getElem (by omega)⟩
  refine fD (OF.indexAddrR (row:=(Qj false x1)) (i:=i) (tv (rd 1 Qj a) Y) (tv (tN i) Y) Y (Qu _ hx1) Jm Ji if9) Y Y (lD (OL.loadR1 (t:=(tS x1)) (tv (T.rp [(tS x1)]) Y) Y ZG) Y Y (mD (rd 1 Qj b) Y Y (mD (tN i) Y Y ?_)))
  obtain ⟨x2,hx2⟩:∃x,b[i]? =some x:=⟨_,List.getElem?_eq_getElem (by omega)⟩
  refine fD (OF.indexAddrR (row:=(Qj false x2)) (i:=i) (tv (rd 1 Qj b) Y) (tv (tN i) Y) Y (Qu _ hx2) Jm Ji if9) Y Y (lD (OL.loadR1 (t:=(tS x2)) (tv (T.rp [(tS x2)]) Y) Y ZG) Y Y (fD (B.sneq (c:=(!(decide (x1=x2)))) (tv (tS x1) Y) (tv (tS x2) Y) Y) Y Y (VRunD.nil (tn ?_))))
  refine cn (x1=x2) Y (fun fhc2=> ?_) fun fhc2=> ?_
  ·refine sr ?_
   refine fO (OF.assign (VEv.bool false)) (nt (rt (vinB.r (tr (tr (vinB.r (tr (vb (b':=false) Y ?_))))))))
   symm;rw [decide_eq_false_iff_not];exact J6 hx1 hx2 fhc2
  refine sk (vinB.n (tn (VRun.region (mO (tN i) Y (fO (QB (tv (tN i) Y) (VEv.int .i64 1) (by omega)) (aO (tN (i+1)) Y (VRunO.nil (tn ?_))))))))
  refine ⟨(i+1:Nat),?_,?_,Wk.mk (fun k=>k) ?_ ?_ ?_⟩
  ·exact Js hI' hx1 hx2 fhc2
  ·first | omega | (simp only [];omega) | (show _<_;omega) | (simp;omega)
  ·exact (b2 (b2 (b2 bn)))
  ·exact bn
  ·exact nd Y
 refine VRun.exit (vthn.e (vthn.e (vinB.e (tn (sr (fO (OF.assign (VEv.bool true)) (nt (rt (vb (b':=true) Y ?_)))))))))
 symm;rw [decide_eq_true_eq];exact Qaa hI' fhc0 fhc1
noncomputable section
theorem Zb {ok:Nat→Prop} {i n:Nat} (h:i≤n∧∀j,j<i→ok j) (hi:i<n) (hk:ok i):i+1≤n∧∀j,j<i+1→ok j:=by
 refine ⟨hi,fun j hj=> ?_⟩
 rcases Nat.lt_or_ge j i with h1 | h1
 ·exact h.2 j h1
 ·obtain rfl:j=i:=by omega
  exact hk
theorem Qa4 {ok:Nat→Prop} {i n:Nat} (h:i≤n∧∀j,j<i→ok j) (hi:¬i<n):∀j,j<n→ok j:=fun j hj=>h.2 j (by omega)
theorem Qkp {α:Type} {l:List α} {i:Nat} {x y:α} (hx:l[i]? =some x) (hy:l[i]? =some y):y=x:=by
 rw [hx] at hy
 exact (Option.some.inj hy).symm
def Qm (s:ByteArray):Prop:=(1≤s.size∧s.size≤8)∧∀i,i<s.size→97≤Qy s i∧Qy s i≤122
instance (s:ByteArray):Decidable (Qm s):=Classical.propDecidable _
def ixF {α:Type} (p:α→Prop) [DecidablePred p]:List α→Int
 | []=> -1
 | x::r=>if p x then 0 else if ixF p r<0 then -1 else ixF p r+1
theorem Qbo {α:Type} {p:α→Prop} [DecidablePred p]:∀ {l:List α} {i:Nat} {x:α},l[i]? =some x→p x→(∀j y,j<i→l[j]? =some y→¬p y)→ixF p l=i
 | [],i,x,h,_,_=>by simp at h
 | y::r,0,x,h,hp,_=>by
  obtain rfl:y=x:=by simpa using h
  simp only [ixF,if_pos hp]
  rfl
 | y::r,i+1,x,h,hp,hn=>by
  have h1:=Qbo (l:=r) (i:=i) (by simpa using h) hp (fun j z hj hz=>hn (j+1) z (by omega) (by simpa using hz))
  have h2:¬p y:=hn 0 y (by omega) (by simp)
  simp only [ixF,if_neg h2,h1]
  rw [if_neg (by omega)]
  rfl
theorem QbS {α:Type} {p:α→Prop} [DecidablePred p]:∀ {l:List α},(∀j y,j<l.length→l[j]? =some y→¬p y)→ixF p l= -1
 | [],_=>rfl
 | y::r,hn=>by
  have h1:=QbS (l:=r) (fun j z hj hz=>hn (j+1) z (by simp;omega) (by simpa using hz))
  have h2:¬p y:=hn 0 y (by simp) (by simp)
  simp only [ixF,if_neg h2,h1]
  rfl
theorem Qfy {α:Type} {p:α→Prop} [DecidablePred p]:∀ {l:List α},0≤ixF p l↔∃x∈l,p x
 | []=>by simp [ixF]
 | y::r=>by
  have h1:=Qfy (p:=p) (l:=r)
  simp only [ixF,List.mem_cons,exists_eq_or_imp]
  by_cases hy:p y
  ·simp [hy]
  ·simp only [if_neg hy,hy,false_or]
   rw [← h1]
   by_cases h:ixF p r<0
   ·rw [if_pos h]
    exact ⟨fun h2=>absurd h2 (by decide),fun h2=>by omega⟩
   ·rw [if_neg h]
    exact ⟨fun h2=>by omega,fun h2=>by omega⟩
def NoneTo {α:Type} (p:α→Prop) (l:List α) (i:Nat):Prop:=i≤l.length∧∀j y,j<i→l[j]? =some y→¬p y
theorem NoneTo.start {α:Type} (p:α→Prop) (l:List α):NoneTo p l 0:=⟨Nat.zero_le _,fun j y hj=>by omega⟩
theorem NoneTo.next {α:Type} {p:α→Prop} {l:List α} {i:Nat} {x:α} (h:NoneTo p l i) (hx:l[i]? =some x) (hn:¬p x):NoneTo p l (i+1):=by
 have:=(List.getElem?_eq_some_iff.1 hx).1
 refine ⟨by omega,fun j y hj hy=> ?_⟩
 rcases Nat.lt_or_ge j i with h1 | h1
 ·exact h.2 j y h1 hy
 ·obtain rfl:j=i:=by omega
  rw [hx] at hy
  exact Option.some.inj hy▸hn
theorem NoneTo.all {α:Type} {p:α→Prop} {l:List α} {i:Nat} (h:NoneTo p l i) (hi:¬i<l.length):∀j y,j<l.length→l[j]? =some y→¬p y:=fun j y hj hy=>h.2 j y (by omega) hy
theorem NoneTo.mem {α:Type} {p:α→Prop} {l:List α} {i:Nat} (h:NoneTo p l i) (hi:¬i<l.length):∀y∈l,¬p y:=fun y hy=>by
 obtain ⟨j,hj⟩:=List.getElem?_of_mem hy
 exact h.all hi j y (List.getElem?_eq_some_iff.1 hj).1 hj
end
theorem Q2 (n:Nat) (a:Int) (b:Int) (c:Int):Pure (Qo Tryz.prog (n+1)) 55 [(tI a),(tI b),(tI c)] (tB (decide (b≤a∧a≤c))):=by
 refine Pure.intro (rs:= [ResultVar.tmp 6]) Tryz.func55 Y Y Y (E0:= [(0,(tI a)),(1,(tI b)),(2,(tI c))]) Y ?_
 obtain ⟨hlim,hmx,hmax⟩:=Qz
 refine sr (fO (OF.assign (VEv.bool false)) (nt (sr (mO (tI a) Y (mO (tI b) Y (fO (xge (tv (tI a) Y) (tv (tI b) Y)) (mO (tB (decide (b≤a))) Y ?_)))))))
 refine gw (b≤a) (fun fhg10_1=> ?_) fun fhg10_1=> ?_
 ·refine gF (dy fhg10_1) Y Y (OF.move (tv (tI a) Y)) ?_
  refine gF (dy fhg10_1) Y Y (OF.move (tv (tI c) Y)) (gF (dy fhg10_1) Y Y (xle (tv (tI a) Y) (tv (tI c) Y)) (fO (OF.pickT (VEv.tmpB Y (dy fhg10_1)) (tv (tB (decide (a≤c))) Y)) (aO (tB (decide (a≤c))) Y (nt (rt (vb (b':=(decide (a≤c))) Y ?_))))))
  exact Qt (by omega)
 refine QD 3 3 true 10 (dz fhg10_1) Y Y Y (fO (OF.pickF (VEv.tmpB Y (dz fhg10_1)) (VEv.bool false)) (aO (tB false) Y (nt (rt (vb (b':=false) Y ?_)))))
 (symm;rw [decide_eq_false_iff_not];omega)
theorem ZB (n:Nat) (a:Int) (b:Int) (c:Int):Pure (Qo Tryz.prog (n+1)) 73 [(tI a),(tI b),(tI c)] (tB (decide (b≤a∧a≤c))):=by
 refine Pure.intro (rs:= [ResultVar.tmp 6]) Tryz.func73 Y Y Y (E0:= [(0,(tI a)),(1,(tI b)),(2,(tI c))]) Y ?_
 obtain ⟨hlim,hmx,hmax⟩:=Qz
 refine sr (fO (OF.assign (VEv.bool false)) (nt (sr (mO (tI b) Y (mO (tI a) Y (fO (xle (tv (tI b) Y) (tv (tI a) Y)) (mO (tB (decide (b≤a))) Y ?_)))))))
 refine gw (b≤a) (fun fhg10_1=> ?_) fun fhg10_1=> ?_
 ·refine gF (dy fhg10_1) Y Y (OF.move (tv (tI a) Y)) ?_
  refine gF (dy fhg10_1) Y Y (OF.move (tv (tI c) Y)) (gF (dy fhg10_1) Y Y (xle (tv (tI a) Y) (tv (tI c) Y)) (fO (OF.pickT (VEv.tmpB Y (dy fhg10_1)) (tv (tB (decide (a≤c))) Y)) (aO (tB (decide (a≤c))) Y (nt (rt (vb (b':=(decide (a≤c))) Y ?_))))))
  exact Qt (by omega)
 refine QD 3 3 true 10 (dz fhg10_1) Y Y Y (fO (OF.pickF (VEv.tmpB Y (dz fhg10_1)) (VEv.bool false)) (aO (tB false) Y (nt (rt (vb (b':=false) Y ?_)))))
 (symm;rw [decide_eq_false_iff_not];omega)
theorem JT (n:Nat) (a:Int):Pure (Qo Tryz.prog (n+1)) 117 [(T.int .u8 a)] (tB (decide (97≤a∧a≤122))):=by
 refine Pure.intro (rs:= [ResultVar.tmp 2]) Tryz.func117 Y Y Y (E0:= [(0,(T.int .u8 a))]) Y ?_
 obtain ⟨hlim,hmx,hmax⟩:=Qz
 refine sr (fO (OF.assign (VEv.bool false)) (nt (sr (mO (T.int .u8 a) Y (fO (xge (tv (T.int .u8 a) Y) (VEv.int .u8 97)) (mO (tB (decide (97≤a))) Y ?_))))))
 refine gw (97≤a) (fun fhg5_1=> ?_) fun fhg5_1=> ?_
 ·refine gF (dy fhg5_1) Y Y (OF.move (tv (T.int .u8 a) Y)) ?_
  refine gF (dy fhg5_1) Y Y (xle (tv (T.int .u8 a) Y) (VEv.int .u8 122)) (fO (OF.pickT (VEv.tmpB Y (dy fhg5_1)) (tv (tB (decide (a≤122))) Y)) (aO (tB (decide (a≤122))) Y (nt (rt (vb (b':=(decide (a≤122))) Y ?_)))))
  exact Qt (by omega)
 refine QD 2 2 true 5 (dz fhg5_1) Y Y Y (fO (OF.pickF (VEv.tmpB Y (dz fhg5_1)) (VEv.bool false)) (aO (tB false) Y (nt (rt (vb (b':=false) Y ?_)))))
 (symm;rw [decide_eq_false_iff_not];omega)
theorem YK (n:Nat) (a:Int) (b:Int):Pure (Qo Tryz.prog (n+1)) 60 [(tI a),(tI b)] (tB (decide (0≤a∧a<b))):=by
 refine Pure.intro (rs:= [ResultVar.tmp 4]) Tryz.func60 Y Y Y (E0:= [(0,(tI a)),(1,(tI b))]) Y ?_
 obtain ⟨hlim,hmx,hmax⟩:=Qz
 refine sr (fO (OF.assign (VEv.bool false)) (nt (sr (mO (tI a) Y (fO (xge (tv (tI a) Y) (VEv.int .i64 0)) (mO (tB (decide (0≤a))) Y ?_))))))
 refine gw (0≤a) (fun fhg7_1=> ?_) fun fhg7_1=> ?_
 ·refine gF (dy fhg7_1) Y Y (OF.move (tv (tI a) Y)) ?_
  refine gF (dy fhg7_1) Y Y (OF.move (tv (tI b) Y)) (gF (dy fhg7_1) Y Y (xls (tv (tI a) Y) (tv (tI b) Y)) (fO (OF.pickT (VEv.tmpB Y (dy fhg7_1)) (tv (tB (decide (a<b))) Y)) (aO (tB (decide (a<b))) Y (nt (rt (vb (b':=(decide (a<b))) Y ?_))))))
  exact Qt (by omega)
 refine QD 3 2 true 7 (dz fhg7_1) Y Y Y (fO (OF.pickF (VEv.tmpB Y (dz fhg7_1)) (VEv.bool false)) (aO (tB false) Y (nt (rt (vb (b':=false) Y ?_)))))
 (symm;rw [decide_eq_false_iff_not];omega)
theorem Zm (n:Nat) (a:ByteArray) (ha:a.size≤maxLen):Pure (Qo Tryz.prog (n+2)) 69 [(tS a)] (tB (decide (Qm a))):=by
 refine Pure.intro (rs:= [ResultVar.tmp 2]) Tryz.func69 Y Y Y (E0:= [(0,(tS a))]) Y ?_
 obtain ⟨hlim,hmx,hmax⟩:=Qz
 refine sr (fO (OF.assign (VEv.bool false)) (nt (sq (sr (mO (tS a) Y (lO (B.lenS (tv (tS a) Y) U9) (cO (cS (vc (tv (tN a.size) Y) (vc (VEv.int .i64 1) (vc (VEv.int .i64 8) vn))) (Zg Y) (Q2 (n+0) ((a.size:Nat):Int) 1 8) Y Y) (fO (QU (tv (tB (decide (1≤((a.size:Nat):Int)∧((a.size:Nat):Int)≤8))) Y)) (nt ?_)))))))))
 refine cn (1≤((a.size:Nat):Int)∧((a.size:Nat):Int)≤8) Y (fun fhc0=> ?_) fun fhc0=> ?_
 ·refine sr ?_
  refine fO (OF.assign (VEv.bool false)) (nt (rt (tr (vb (b':=false) Y ?_))))
  symm;rw [decide_eq_false_iff_not];rintro ⟨h1,_⟩;omega
 refine sk (tn (sq (sr (fO (OF.assign (VEv.int .i64 0)) (nt (VRun.block ?_))))))
 refine VRun.loop (A:=Nat) (fun s_=> [(0,(tS a)),(3,(tN s_))]) (fun s_=>QV []) 0 (fun s_=>s_≤a.size∧∀j,j<s_→97≤Qy a j∧Qy a j≤122) (fun s_=>a.size - s_) (0:Nat) ?_ (Wk.mk (fun k=>k) ?_ ?_ ?_) ?_
 ·exact ⟨Nat.zero_le _,fun j hj=>by omega⟩
 ·exact (b2 (b2 bn))
 ·exact bn
 ·exact nd Y
 rintro i (hI':i≤a.size∧∀j,j<i→97≤Qy a j∧Qy a j≤122)
 show VRun _ _ _ [(0,(tS a)),(3,(tN i))] (QV []) 0 _
 refine sq (sr (mO (tN i) Y (mO (tS a) Y (lO (B.lenS (tv (tS a) Y) U9) (fO (Q9 (tv (tN i) Y) (tv (tN a.size) Y)) (nt ?_))))))
 refine cd (i<a.size) Y (fun fhc1=> ?_) fun fhc1=> ?_
 ·refine sk ?_
  refine tn (sq (VRun.block (sr (mO (tS a) Y (mO (tN i) Y ?_)))))
  have hb1:i<a.size:=(by omega)
  refine fO (xix (tv (tS a) Y) (tv (tN i) Y) hb1 U9) (fO (xls (tv (T.int .u8 (Qy a i)) Y) (VEv.int .u8 97)) (mO (tB (decide (Qy a i<97))) Y ?_))
  refine gw (Qy a i<97) (fun fhg18_2=> ?_) fun fhg18_2=> ?_
  ·refine QD 4 4 false 18 (dy fhg18_2) Y Y Y ?_
   refine fO (OF.pickT (VEv.tmpB Y (dy fhg18_2)) (VEv.bool true)) (nt (ct Y (sr (fO (OF.assign (VEv.bool false)) (nt (rt (vinB.r (tr (tr (vinB.r (tr ?_)))))))))))
   refine vb (b':=false) Y ?_
   symm;rw [decide_eq_false_iff_not];rintro ⟨_,h2⟩;have:=h2 i fhc1;omega
  refine gF (dz fhg18_2) Y Y (OF.move (tv (tS a) Y)) (gF (dz fhg18_2) Y Y (OF.move (tv (tN i) Y)) ?_)
  have hb3:i<a.size:=(by omega)
  refine gF (dz fhg18_2) Y Y (xix (tv (tS a) Y) (tv (tN i) Y) hb3 U9) (gF (dz fhg18_2) Y Y (xgt (tv (T.int .u8 (Qy a i)) Y) (VEv.int .u8 122)) (fO (OF.pickF (VEv.tmpB Y (dz fhg18_2)) (tv (tB (decide (122<Qy a i))) Y)) (nt ?_)))
  refine cd (122<Qy a i) Y (fun fhc2=> ?_) fun fhc2=> ?_
  ·refine sr ?_
   refine fO (OF.assign (VEv.bool false)) (nt (rt (vinB.r (tr (tr (vinB.r (tr (vb (b':=false) Y ?_))))))))
   symm;rw [decide_eq_false_iff_not];rintro ⟨_,h2⟩;have:=h2 i fhc1;omega
  refine sk (vinB.n (tn (VRun.region (mO (tN i) Y (fO (QB (tv (tN i) Y) (VEv.int .i64 1) (by omega)) (aO (tN (i+1)) Y (VRunO.nil (tn ?_))))))))
  refine ⟨(i+1:Nat),?_,?_,Wk.mk (fun k=>k) ?_ ?_ ?_⟩
  ·exact Zb (ok:=fun j=>97≤Qy a j∧Qy a j≤122) hI' fhc1 (by omega)
  ·omega
  ·exact (b2 (b2 bn))
  ·exact bn
  ·exact nd Y
 refine VRun.exit (vthn.e (vthn.e (vinB.e (tn (sr (fO (OF.assign (VEv.bool true)) (nt (rt (vb (b':=true) Y ?_)))))))))
 symm;rw [decide_eq_true_eq];exact ⟨by omega,Qa4 hI' fhc1⟩
theorem Zn (n:Nat) (a:ByteArray) (ha:a.size≤maxLen):Pure (Qo Tryz.prog (n+2)) 79 [(tS a)] (tB (decide (Qm a))):=by
 refine Pure.intro (rs:= [ResultVar.tmp 2]) Tryz.func79 Y Y Y (E0:= [(0,(tS a))]) Y ?_
 obtain ⟨hlim,hmx,hmax⟩:=Qz
 refine sr (fO (OF.assign (VEv.bool false)) (nt (sq (sr (mO (tS a) Y (lO (B.lenS (tv (tS a) Y) U9) (cO (cS (vc (tv (tN a.size) Y) (vc (VEv.int .i64 1) (vc (VEv.int .i64 8) vn))) (Zg Y) (ZB (n+0) ((a.size:Nat):Int) 1 8) Y Y) (fO (QU (tv (tB (decide (1≤((a.size:Nat):Int)∧((a.size:Nat):Int)≤8))) Y)) (nt ?_)))))))))
 refine cn (1≤((a.size:Nat):Int)∧((a.size:Nat):Int)≤8) Y (fun fhc0=> ?_) fun fhc0=> ?_
 ·refine sr ?_
  refine fO (OF.assign (VEv.bool false)) (nt (rt (tr (vb (b':=false) Y ?_))))
  symm;rw [decide_eq_false_iff_not];rintro ⟨h1,_⟩;omega
 refine sk (tn (sq (sr (mO (tS a) Y (lO (B.lenS (tv (tS a) Y) U9) (fO (OF.move (VEv.int .i64 0)) (nt (VRun.block ?_))))))))
 refine VRun.loop (A:=Nat) (fun s_=> [(0,(tS a)),(9,(tN a.size)),(10,(tN s_))]) (fun s_=>QV []) 0 (fun s_=>s_≤a.size∧∀j,j<s_→97≤Qy a j∧Qy a j≤122) (fun s_=>a.size - s_) (0:Nat) ?_ (Wk.mk (fun k=>k) ?_ ?_ ?_) ?_
 ·exact ⟨Nat.zero_le _,fun j hj=>by omega⟩
 ·exact (b2 (b2 (b2 bn)))
 ·exact bn
 ·exact nd Y
 rintro i (hI':i≤a.size∧∀j,j<i→97≤Qy a j∧Qy a j≤122)
 show VRun _ _ _ [(0,(tS a)),(9,(tN a.size)),(10,(tN i))] (QV []) 0 _
 refine sr (fO (Q9 (tv (tN i) Y) (tv (tN a.size) Y)) (nt (sq ?_)))
 refine cd (i<a.size) Y (fun fhc1=> ?_) fun fhc1=> ?_
 ·refine sk ?_
  refine tn (sq (VRun.block (sr (mO (tN i) Y (aO (tN i) Y (nt (sr (mO (tS a) Y (mO (tN i) Y ?_)))))))))
  have hb1:i<a.size:=(by omega)
  refine fO (xix (tv (tS a) Y) (tv (tN i) Y) hb1 U9) (cO (cS (vc (tv (T.int .u8 (Qy a i)) Y) vn) (Zg Y) (JT (n+0) (Qy a i)) Y Y) (fO (QU (tv (tB (decide (97≤(Qy a i)∧(Qy a i)≤122))) Y)) (nt ?_)))
  refine cn (97≤(Qy a i)∧(Qy a i)≤122) Y (fun fhc2=> ?_) fun fhc2=> ?_
  ·refine sr ?_
   refine fO (OF.assign (VEv.bool false)) (nt (rt (vinB.r (tr (tr (vinB.r (tr (vb (b':=false) Y ?_))))))))
   symm;rw [decide_eq_false_iff_not];rintro ⟨_,h2⟩;have:=h2 i fhc1;omega
  refine sk (vinB.n (tn (VRun.region (fO (QB (tv (tN i) Y) (VEv.int .i64 1) (by omega)) (mO (tN (i+1)) Y (VRunO.nil (tn ?_)))))))
  refine ⟨(i+1:Nat),?_,?_,Wk.mk (fun k=>k) ?_ ?_ ?_⟩
  ·exact Zb (ok:=fun j=>97≤Qy a j∧Qy a j≤122) hI' fhc1 (by omega)
  ·omega
  ·exact (b2 (b2 (b2 bn)))
  ·exact bn
  ·exact nd Y
 refine VRun.exit (vthn.e (vthn.e (vinB.e (tn (sr (fO (OF.assign (VEv.bool true)) (nt (rt (vb (b':=true) Y ?_)))))))))
 symm;rw [decide_eq_true_eq];exact ⟨by omega,Qa4 hI' fhc1⟩
noncomputable section
def two (k:Int):Prop:=k=4∨k=5
def JV (l:List D.Step) (j:Nat):Prop:=∃x,l[j]? =some x∧(1≤x.Kind∧x.Kind≤9)∧(x.Kind=1→Qm x.Word∧x.A=0∧x.B=0) ∧
 (¬x.Kind=1→x.Word=(⟨#[]⟩:ByteArray)∧(0≤x.A∧x.A<(j:Int))∧(two x.Kind→0≤x.B∧x.B<(j:Int))∧(¬two x.Kind→x.B=0)∧(¬two x.Kind→¬x.Kind=2→∃y,l[x.A.toNat]? =some y∧y.Kind=1))
instance (l:List D.Step) (j:Nat):Decidable (JV l j):=Classical.propDecidable _
def QJ (l:List D.Step):Prop:=(1≤l.length∧l.length≤9)∧∀j,j<l.length→JV l j
instance (l:List D.Step):Decidable (QJ l):=Classical.propDecidable _
def QeO (l:List D.Step) (j:Nat) (x:D.Step):Prop:=(1≤x.Kind∧x.Kind≤9)∧(x.Kind=1→Qm x.Word∧x.A=0∧x.B=0) ∧
 (¬x.Kind=1→x.Word=(⟨#[]⟩:ByteArray)∧(0≤x.A∧x.A<(j:Int))∧(two x.Kind→0≤x.B∧x.B<(j:Int))∧(¬two x.Kind→x.B=0)∧(¬two x.Kind→¬x.Kind=2→∃y,l[x.A.toNat]? =some y∧y.Kind=1))
theorem QN {l:List D.Step} {j:Nat} {x:D.Step} (hx:l[j]? =some x):JV l j↔QeO l j x:=by
 constructor
 ·rintro ⟨y,hy,h⟩
  obtain rfl:=Qkp hx hy
  exact h
 ·intro h
  exact ⟨x,hx,h⟩
theorem QpL {l:List D.Step} {k:Nat} {y:D.Step} (hy:l[k]? =some y):(∃z,l[k]? =some z∧z.Kind=1)↔y.Kind=1:=by
 constructor
 ·rintro ⟨z,hz,h⟩
  obtain rfl:=Qkp hy hz
  exact h
 ·intro h
  exact ⟨y,hy,h⟩
theorem Qo0 {l:List D.Step} {j:Nat} {x y:D.Step} (hx:l[j]? =some x) (hy:l[x.A.toNat]? =some y) (h1:1≤x.Kind∧x.Kind≤9) (h2:¬x.Kind=1) (h3:x.Word=(⟨#[]⟩:ByteArray)) (h4:0≤x.A∧x.A<(j:Int)) (h5:x.B=0) (h6:¬two x.Kind) (h7:¬x.Kind=2):decide (y.Kind=1)=decide (JV l j):=by
 refine Qt ?_
 rw [QN hx]
 simp only [QeO,QpL hy]
 exact ⟨fun h=>⟨h1,fun hk=>absurd hk h2,fun _=>⟨h3,h4,fun h=>absurd h h6,fun _=>h5,fun _ _=>h⟩⟩,fun h=>(h.2.2 h2).2.2.2.2 h6 h7⟩
theorem Qpr {l:List D.Step} {j:Nat} {x:D.Step} (hx:l[j]? =some x) (h1:1≤x.Kind∧x.Kind≤9) (h2:x.Kind=1) (h3:Qm x.Word) (h4:x.A=0):decide (x.B=0)=decide (JV l j):=by
 refine Qt ?_
 rw [QN hx]
 simp only [QeO]
 exact ⟨fun h=>⟨h1,fun _=>⟨h3,h4,h⟩,fun hk=>absurd h2 hk⟩,fun h=>(h.2.1 h2).2.2⟩
theorem Zy : ¬Qm (⟨#[]⟩:ByteArray):=fun h=>absurd h.1.1 (by decide)
end
theorem Qea (n:Nat) (a:Int):Pure (Qo Tryz.prog (n+1)) 146 [(tI a)] (tB (decide (a=3∨6≤a))):=by
 refine Pure.intro (rs:= [ResultVar.tmp 2]) Tryz.func146 Y Y Y (E0:= [(0,(tI a))]) Y ?_
 obtain ⟨hlim,hmx,hmax⟩:=Qz
 refine sr (fO (OF.assign (VEv.bool false)) (nt (sr (mO (tI a) Y (fO (Yn (tv (tI a) Y) (VEv.int .i64 3)) (mO (tB (decide (a=3))) Y ?_))))))
 refine gw (a=3) (fun fhg5_1=> ?_) fun fhg5_1=> ?_
 ·refine QD 2 2 false 5 (dy fhg5_1) Y Y Y ?_
  refine fO (OF.pickT (VEv.tmpB Y (dy fhg5_1)) (VEv.bool true)) (aO (tB true) Y (nt (rt (vb (b':=true) Y ?_))))
  (symm;rw [decide_eq_true_eq];omega)
 refine gF (dz fhg5_1) Y Y (OF.move (tv (tI a) Y)) (gF (dz fhg5_1) Y Y (xge (tv (tI a) Y) (VEv.int .i64 6)) (fO (OF.pickF (VEv.tmpB Y (dz fhg5_1)) (tv (tB (decide (6≤a))) Y)) (aO (tB (decide (6≤a))) Y (nt (rt (vb (b':=(decide (6≤a))) Y ?_))))))
 exact Qt (by omega)
theorem Yv (n:Nat) (a:Int):Pure (Qo Tryz.prog (n+1)) 147 [(tI a)] (tB (decide (a=4∨a=5))):=by
 refine Pure.intro (rs:= [ResultVar.tmp 2]) Tryz.func147 Y Y Y (E0:= [(0,(tI a))]) Y ?_
 obtain ⟨hlim,hmx,hmax⟩:=Qz
 refine sr (fO (OF.assign (VEv.bool false)) (nt (sr (mO (tI a) Y (fO (Yn (tv (tI a) Y) (VEv.int .i64 4)) (mO (tB (decide (a=4))) Y ?_))))))
 refine gw (a=4) (fun fhg5_1=> ?_) fun fhg5_1=> ?_
 ·refine QD 2 2 false 5 (dy fhg5_1) Y Y Y ?_
  refine fO (OF.pickT (VEv.tmpB Y (dy fhg5_1)) (VEv.bool true)) (aO (tB true) Y (nt (rt (vb (b':=true) Y ?_))))
  (symm;rw [decide_eq_true_eq];omega)
 refine gF (dz fhg5_1) Y Y (OF.move (tv (tI a) Y)) (gF (dz fhg5_1) Y Y (Yn (tv (tI a) Y) (VEv.int .i64 5)) (fO (OF.pickF (VEv.tmpB Y (dz fhg5_1)) (tv (tB (decide (a=5))) Y)) (aO (tB (decide (a=5))) Y (nt (rt (vb (b':=(decide (a=5))) Y ?_))))))
 exact Qt (by omega)
theorem Qid (n:Nat) (a:List D.Step) (i:Nat) (hz:zL Zc a≤mx) (hi:i<a.length):Pure (Qo Tryz.prog (n+3)) 136 [(rd 4 Qd a),(tN i)] (tB (decide (JV a i))):=by
 refine Pure.intro (rs:= [ResultVar.tmp 4]) Tryz.func136 Y Y Y (E0:= [(0,(rd 4 Qd a)),(1,(tN i))]) Y ?_
 obtain ⟨hlim,hmx,hmax⟩:=Qz
 have ha:=Q1 (z:=Zc) a
 have hw:∀x∈a,x.Word.size≤maxLen:=fun x hx=>by have h1:=QlB (z:=Zc) hx;simp only [Zc] at h1;omega
 refine sr (fO (OF.assign (VEv.bool false)) (nt (sr (mO (rd 4 Qd a) Y (mO (tN i) Y ?_)))))
 obtain ⟨x1,hx1⟩:∃x,a[i]? =some x:=⟨_,List.getElem?_eq_getElem (by omega)⟩
 refine fO (OF.indexAddrR (row:=(Qd false x1)) (i:=i) (tv (rd 4 Qd a) Y) (tv (tN i) Y) Y (Qu _ hx1) U62 ZE Yq) (lO (OL.loadRn (us:=(Qd false x1)) (tv (T.rp (Qd false x1)) Y) QbQ ZE (lb Y) Y) (kO (B.alloc (t:=(T.agg [(tN 0),(tS ByteArray.empty),(tN 0),(tN 0)])) (ts:= [(tN 0),(tS ByteArray.empty),(tN 0),(tN 0)]) QeR QeQ nofun (fun _=> .agg _ _ Y (YS (RL.cons (.int _ _) (RL.cons (.str _) (RL.cons (.int _ _) (RL.cons (.int _ _) (RL.nil _))))))) Y) (cO (B.storeW (us:=(Qd false x1)) (tv (T.op 0 0) Y) (tv (T.agg (Qd false x1)) Y) nofun Y Y Y Yq ZE (bc Y (bc Y (bc Y (bc Y bn))))) (nt (sq (sq (VRun.draw (B:= [[],[0],[0,1],[1,0,2],[2,0,1,3],[3,1,0,2,4],[4,2,0,1,3,5],[5,3,1,0,2,4,6],[3,1,0,2,4],[4,2,0,1,3,8],[8,3,1,0,2,4,9],[9,8,10,6,4,2,0,1,3,5,7],[7,5,6,10,8,9,11,3,1,0,2,4],[4,2,0,1,3,11,9,8,10,6,5,7,12],[12,7,5,6,10,8,9,11,3,1,0,2,4,13],[13,4,2,0,1,3,11,9,8,10,6,5,7,12,14],[14,12,7,5,6,10,8,9,11,3,1,0,2,4,13,15],[15,13,4,2,0,1,3,11,9,8,10,6,5,7,12,14,16],[16,14,12,7,5,6,10,8,9,11,3,1,0,2,4,13,15,17],[17,15,13,4,2,0,1,3,11,9,8,10,6,5,7,12,14,16,18],[18,16,14,12,7,5,6,10,8,9,11,3,1,0,2,4,13,15,17,19],[19,18,20,16,14,12,7,5,6,10,8,9,11,3,1,0,2,4,13,15,17],[17,15,14,16,20,18,19,21,12,7,5,6,10,8,9,11,3,1,0,2,4,13]]) (by kernel_rfl) (by kernel_rfl) (fD (OF.fieldAddrO (tv (T.op 0 0) Y) Zf) Y Y (lD (OL.loadO1 (t:=(tI x1.Kind)) (tv (T.op 0 0) Y) Y Y QS) Y Y (VRunD.quiet (bi:= [0,1]) Y VWant.always Y Y Y bn (cS (vc (tv (tI x1.Kind) Y) (vc (VEv.int .i64 1) (vc (VEv.int .i64 9) vn))) (Zg Y) (Q2 (n+1) x1.Kind 1 9) Y Y) (fD (QU (tv (tB (decide (1≤x1.Kind∧x1.Kind≤9))) Y)) Y Y ?_)))))))))))
 refine mD (tB (!(decide (1≤x1.Kind∧x1.Kind≤9)))) Y Y ?_
 refine gn (1≤x1.Kind∧x1.Kind≤9) (fun fhg15_1=> ?_) fun fhg15_1=> ?_
 ·refine oD Y Y (ny fhg15_1) Y ?_
  refine oD Y Y (ny fhg15_1) Y (oD Y Y (ny fhg15_1) Y (oD Y Y (ny fhg15_1) Y (oD Y Y (ny fhg15_1) Y (oD Y Y (ny fhg15_1) Y (oD Y Y (ny fhg15_1) Y (fD (OF.pickT (VEv.tmpB Y (ny fhg15_1)) (VEv.bool true)) Y Y (mD (tB true) Y Y (VRunD.off Y (VWant.not (b:=true) Y Y Y) (VRunD.off Y (VWant.not (b:=true) Y Y Y) (VRunD.off Y (VWant.not (b:=true) Y Y Y) (VRunD.off Y (VWant.not (b:=true) Y Y Y) ?_)))))))))))
  refine uD Y Y Y (uD Y Y Y (uD Y Y Y (VRunD.off Y (VWant.not (b:=true) Y Y Y) (fD (OF.pickT (tv (tB true) Y) (VEv.bool true)) Y Y (VRunD.nil (tn (ct Y (sr (fO (OF.assign (VEv.bool false)) (nt (rt ?_)))))))))))
  refine tr (vb (b':=false) Y ?_)
  (symm;rw [decide_eq_false_iff_not,QN hx1];rintro ⟨h1,h2,h3⟩;by_cases hk:x1.Kind=1<;>simp only [hk,two] at* <;>omega)
 refine VRunD.free Y (VWant.on Y Y (nz fhg15_1)) Y (OF.fieldAddrO (tv (T.op 0 0) Y) Zf) (VRunD.look Y (VWant.on Y Y (nz fhg15_1)) Y (OL.loadO1 (t:=(tI x1.Kind)) (tv (T.op 0 0) Y) Y Y QS) (VRunD.free Y (VWant.on Y Y (nz fhg15_1)) Y (Yn (tv (tI x1.Kind) Y) (VEv.int .i64 1)) (VRunD.free Y (VWant.on Y Y (nz fhg15_1)) Y (OF.fieldAddrO (tv (T.op 0 0) Y) Z3) (VRunD.look Y (VWant.on Y Y (nz fhg15_1)) Y (OL.loadO1 (t:=(tS x1.Word)) (tv (T.op 0 1) Y) Y Y ZG) (VRunD.quiet (bi:= [8,3,1,0,2,4,9]) Y (VWant.on Y Y (nz fhg15_1)) Y Y Y bn (cS (vc (tv (tS x1.Word) Y) vn) (Zg Y) (Zm (n+0) x1.Word (by exact hw _ (List.mem_of_getElem? hx1))) Y Y) (VRunD.free Y (VWant.on Y Y (nz fhg15_1)) Y (B.bneq U4 (c:=(!((decide (x1.Kind=1)) == (decide (Qm x1.Word))))) (tv (tB (decide (x1.Kind=1))) Y) (tv (tB (decide (Qm x1.Word))) Y) Y) (fD (OF.pickF (VEv.tmpB Y (nz fhg15_1)) (tv (tB (!((decide (x1.Kind=1)) == (decide (Qm x1.Word))))) Y)) Y Y (mD (tB (!((decide (x1.Kind=1)) == (decide (Qm x1.Word))))) Y Y ?_))))))))
 refine Qdu (!((decide (x1.Kind=1)) == (decide (Qm x1.Word)))) (fun hg24_2=> ?_) (fun hg24_2=> ?_)
 ·have fhg24_2:(!((decide (x1.Kind=1)) == (decide (Qm x1.Word))))=true:=hg24_2
  refine oD Y Y hg24_2 Y (oD Y Y hg24_2 Y (oD Y Y hg24_2 Y (oD Y Y hg24_2 Y (uD Y Y Y (uD Y Y Y (uD Y Y Y (oD Y Y hg24_2 Y (fD (OF.pickT (VEv.tmpB Y hg24_2) (VEv.bool true)) Y Y (VRunD.nil (tn (ct Y ?_)))))))))))
  refine sr (fO (OF.assign (VEv.bool false)) (nt (rt (tr (vb (b':=false) Y ?_)))))
  (symm;rw [decide_eq_false_iff_not,QN hx1];rintro ⟨h1,h2,h3⟩;by_cases hk:x1.Kind=1<;>simp only [hk,two] at* <;>(simp_all [Zy];done))
 have fhg24_2:(!((decide (x1.Kind=1)) == (decide (Qm x1.Word))))=false:=hg24_2
 refine VRunD.free Y (VWant.on Y Y hg24_2) Y (OF.fieldAddrO (tv (T.op 0 0) Y) Zf) (VRunD.look Y (VWant.on Y Y hg24_2) Y (OL.loadO1 (t:=(tI x1.Kind)) (tv (T.op 0 0) Y) Y Y QS) (VRunD.free Y (VWant.on Y Y hg24_2) Y (xne (tv (tI x1.Kind) Y) (VEv.int .i64 1)) (VRunD.free Y (VWant.on Y Y hg24_2) Y (OF.move (tv (tB (!(decide (x1.Kind=1)))) Y)) ?_)))
 refine gn (x1.Kind=1) (fun fhg28_3=> ?_) fun fhg28_3=> ?_
 ·refine VRunD.free Y (VWant.on Y Y (ny fhg28_3)) Y (OF.fieldAddrO (tv (T.op 0 0) Y) Z3) ?_
  refine VRunD.look Y (VWant.on Y Y (ny fhg28_3)) Y (OL.loadO1 (t:=(tS x1.Word)) (tv (T.op 0 1) Y) Y Y ZG) (VRunD.free Y (VWant.on Y Y (ny fhg28_3)) Y (B.sneq (c:=(!(decide (x1.Word=(⟨#[]⟩:ByteArray))))) (tv (tS x1.Word) Y) (VEv.str (⟨#[]⟩:ByteArray)) Y) (VRunD.free Y (VWant.on Y Y hg24_2) Y (OF.pickT (VEv.tmpB Y (ny fhg28_3)) (tv (tB (!(decide (x1.Word=(⟨#[]⟩:ByteArray))))) Y)) (fD (OF.pickF (VEv.tmpB Y hg24_2) (tv (tB (!(decide (x1.Word=(⟨#[]⟩:ByteArray))))) Y)) Y Y (VRunD.nil (tn ?_)))))
  refine cn (x1.Word=(⟨#[]⟩:ByteArray)) Y (fun fhc0=> ?_) fun fhc0=> ?_
  ·refine sr ?_
   refine fO (OF.assign (VEv.bool false)) (nt (rt (tr (vb (b':=false) Y ?_))))
   (symm;rw [decide_eq_false_iff_not,QN hx1];rintro ⟨h1,h2,h3⟩;by_cases hk:x1.Kind=1<;>simp only [hk,two] at* <;>(simp_all [Zy];done))
  refine sk (tn (sr (lf (tI x1.Kind) Y Zf Y Y QS (fO (Yn (tv (tI x1.Kind) Y) (VEv.int .i64 4)) (mO (tB (decide (x1.Kind=4))) Y ?_)))))
  refine gw (x1.Kind=4) (fun fhg37_4=> ?_) fun fhg37_4=> ?_
  ·refine QD 3 3 false 37 (dy fhg37_4) Y Y Y ?_
   refine fO (OF.pickT (VEv.tmpB Y (dy fhg37_4)) (VEv.bool true)) (aO (tB true) Y (nt (sq (sr (lf (tI x1.Kind) Y Zf Y Y QS (fO (Yn (tv (tI x1.Kind) Y) (VEv.int .i64 1)) (nt (cg (dz fhg28_3) Y (sk (tn (sq ?_)))))))))))
   refine sr (lf (tI x1.A) Y ZC Y Y QS (mO (tN i) Y (fO (B.sub (n:=(((i:Nat):Int) - 1)) (tv (tN i) Y) (VEv.int .i64 1) (by (rw [Qs (by omega)];done))) (cO (cS (vc (tv (tI x1.A) Y) (vc (VEv.int .i64 0) (vc (tv (tI (((i:Nat):Int) - 1)) Y) vn))) (Zg Y) (Q2 (n+1) x1.A 0 (((i:Nat):Int) - 1)) Y Y) (fO (QU (tv (tB (decide (0≤x1.A∧x1.A≤(((i:Nat):Int) - 1)))) Y)) (mO (tB (!(decide (0≤x1.A∧x1.A≤(((i:Nat):Int) - 1))))) Y ?_))))))
   refine gn (0≤x1.A∧x1.A≤(((i:Nat):Int) - 1)) (fun fhg59_5=> ?_) fun fhg59_5=> ?_
   ·refine QD 2 6 false 59 (ny fhg59_5) Y Y Y ?_
    refine QaX 6 8 true 61 Y Y Y (oO Y Y (ny fhg59_5) (fO (OF.pickT (VEv.tmpB Y (ny fhg59_5)) (VEv.bool true)) (mO (tB true) Y (QD 3 17 false 70 (b:=true) Y Y Y Y (QaX 3 20 true 73 Y Y Y (VRunO.off (VWant.not (b:=true) Y Y Y) (fO (OF.pickT (tv (tB true) Y) (VEv.bool true)) (nt (ct Y (sr (fO (OF.assign (VEv.bool false)) ?_)))))))))))
    refine nt (rt (tr (vb (b':=false) Y ?_)))
    (symm;rw [decide_eq_false_iff_not,QN hx1];rintro ⟨h1,h2,h3⟩;by_cases hk:x1.Kind=1<;>simp only [hk,two] at* <;>first | omega | (simp_all [Zy];omega))
   refine gF (nz fhg59_5) Y Y (OF.move (tv (tB true) Y)) (gF (nz fhg59_5) Y Y (OF.move (tv (tB true) Y)) (VRunO.free (VWant.on (b:=true) Y Y Y) (OF.fieldAddrO (tv (T.op 0 0) Y) Z4) (VRunO.look (VWant.on (b:=true) Y Y Y) (OL.loadO1 (t:=(tI x1.B)) (tv (T.op 0 3) Y) Y Y QS) (VRunO.free (VWant.on (b:=true) Y Y Y) (OF.move (tv (tN i) Y)) (VRunO.free (VWant.on (b:=true) Y Y Y) (B.sub (n:=(((i:Nat):Int) - 1)) (tv (tN i) Y) (VEv.int .i64 1) (by (rw [Qs (by omega)];done))) (VRunO.chain (VWant.on (b:=true) Y Y Y) (cS (vc (tv (tI x1.B) Y) (vc (VEv.int .i64 0) (vc (tv (tI (((i:Nat):Int) - 1)) Y) vn))) (Zg Y) (Q2 (n+1) x1.B 0 (((i:Nat):Int) - 1)) Y Y) (VRunO.free (VWant.on (b:=true) Y Y Y) (QU (tv (tB (decide (0≤x1.B∧x1.B≤(((i:Nat):Int) - 1)))) Y)) (gF (nz fhg59_5) Y Y (OF.pickT (tv (tB true) Y) (tv (tB (!(decide (0≤x1.B∧x1.B≤(((i:Nat):Int) - 1))))) Y)) (fO (OF.pickF (VEv.tmpB Y (nz fhg59_5)) (tv (tB (!(decide (0≤x1.B∧x1.B≤(((i:Nat):Int) - 1))))) Y)) (mO (tB (!(decide (0≤x1.B∧x1.B≤(((i:Nat):Int) - 1))))) Y ?_))))))))))
   refine gn (0≤x1.B∧x1.B≤(((i:Nat):Int) - 1)) (fun fhg70_6=> ?_) fun fhg70_6=> ?_
   ·refine QD 3 17 false 70 (ny fhg70_6) Y Y Y ?_
    refine QaX 3 20 true 73 Y Y Y (oO Y Y (ny fhg70_6) (fO (OF.pickT (VEv.tmpB Y (ny fhg70_6)) (VEv.bool true)) (nt (ct Y (sr (fO (OF.assign (VEv.bool false)) (nt (rt (tr (vb (b':=false) Y ?_))))))))))
    (symm;rw [decide_eq_false_iff_not,QN hx1];rintro ⟨h1,h2,h3⟩;by_cases hk:x1.Kind=1<;>simp only [hk,two] at* <;>first | omega | (simp_all [Zy];omega))
   refine gF (nz fhg70_6) Y Y (OF.move (tv (tB true) Y)) (gF (nz fhg70_6) Y Y (B.not (c:=false) (tv (tB true) Y) Y) (gF (nz fhg70_6) Y Y (OF.move (tv (tB false) Y)) (QD 3 20 true 73 (b:=false) Y Y Y Y (gF (nz fhg70_6) Y Y (OF.pickF (tv (tB false) Y) (VEv.bool false)) (fO (OF.pickF (VEv.tmpB Y (nz fhg70_6)) (tv (tB false) Y)) (nt (cf Y (sk (tn (sr (mO (tB true) Y ?_)))))))))))
   refine mO (tB true) Y (QD 3 1 false 80 (b:=true) Y Y Y Y (fO (OF.pickT (tv (tB true) Y) (VEv.bool true)) (mO (tB true) Y (QD 7 6 false 85 (b:=true) Y Y Y Y (fO (OF.pickT (tv (tB true) Y) (VEv.bool true)) (aO (tB true) Y (nt (rt (vb (b':=true) Y ?_)))))))))
   (symm;rw [decide_eq_true_eq,QN hx1];refine ⟨by omega,fun hk=> ?_,fun hk=> ?_⟩<;>first | (exfalso;omega) | (simp_all [two,Zy];omega))
  refine Yk (tI x1.Kind) (dz fhg37_4) Y Y Y Y Zf Y Y QS (gF (dz fhg37_4) Y Y (Yn (tv (tI x1.Kind) Y) (VEv.int .i64 5)) (fO (OF.pickF (VEv.tmpB Y (dz fhg37_4)) (tv (tB (decide (x1.Kind=5))) Y)) (aO (tB (decide (x1.Kind=5))) Y (nt (sq (sr (lf (tI x1.Kind) Y Zf Y Y QS (fO (Yn (tv (tI x1.Kind) Y) (VEv.int .i64 1)) (nt (cg (dz fhg28_3) Y (sk ?_)))))))))))
  refine tn (sq (sr (lf (tI x1.A) Y ZC Y Y QS (mO (tN i) Y (fO (B.sub (n:=(((i:Nat):Int) - 1)) (tv (tN i) Y) (VEv.int .i64 1) (by (rw [Qs (by omega)];done))) (cO (cS (vc (tv (tI x1.A) Y) (vc (VEv.int .i64 0) (vc (tv (tI (((i:Nat):Int) - 1)) Y) vn))) (Zg Y) (Q2 (n+1) x1.A 0 (((i:Nat):Int) - 1)) Y Y) (fO (QU (tv (tB (decide (0≤x1.A∧x1.A≤(((i:Nat):Int) - 1)))) Y)) (mO (tB (!(decide (0≤x1.A∧x1.A≤(((i:Nat):Int) - 1))))) Y ?_))))))))
  refine gn (0≤x1.A∧x1.A≤(((i:Nat):Int) - 1)) (fun fhg59_7=> ?_) fun fhg59_7=> ?_
  ·refine QD 2 6 false 59 (ny fhg59_7) Y Y Y ?_
   refine QaX 6 8 true 61 Y Y Y (oO Y Y (ny fhg59_7) (fO (OF.pickT (VEv.tmpB Y (ny fhg59_7)) (VEv.bool true)) (mO (tB true) Y (QD 3 17 false 70 (b:=true) Y Y Y Y (QaX 3 20 true 73 Y Y Y (VRunO.off (VWant.not (b:=true) Y Y Y) (fO (OF.pickT (tv (tB true) Y) (VEv.bool true)) (nt (ct Y (sr (fO (OF.assign (VEv.bool false)) ?_)))))))))))
   refine nt (rt (tr (vb (b':=false) Y ?_)))
   (symm;rw [decide_eq_false_iff_not,QN hx1];rintro ⟨h1,h2,h3⟩;by_cases hk:x1.Kind=1<;>simp only [hk,two] at* <;>first | (simp_all [Zy];done) | (simp_all [Zy];omega))
  refine gF (nz fhg59_7) Y Y (OF.move (tv (tB (decide (x1.Kind=5))) Y)) (gF (nz fhg59_7) Y Y (OF.move (tv (tB (decide (x1.Kind=5))) Y)) ?_)
  refine gw (x1.Kind=5) (fun fhg61_8=> ?_) fun fhg61_8=> ?_
  ·refine Yk (tI x1.B) (dy fhg61_8) Y Y Y Y Z4 Y Y QS ?_
   refine gF (dy fhg61_8) Y Y (OF.move (tv (tN i) Y)) (gF (dy fhg61_8) Y Y (B.sub (n:=(((i:Nat):Int) - 1)) (tv (tN i) Y) (VEv.int .i64 1) (by (rw [Qs (by omega)];done))) (VRunO.chain (VWant.on Y Y (dy fhg61_8)) (cS (vc (tv (tI x1.B) Y) (vc (VEv.int .i64 0) (vc (tv (tI (((i:Nat):Int) - 1)) Y) vn))) (Zg Y) (Q2 (n+1) x1.B 0 (((i:Nat):Int) - 1)) Y Y) (gF (dy fhg61_8) Y Y (QU (tv (tB (decide (0≤x1.B∧x1.B≤(((i:Nat):Int) - 1)))) Y)) (gF (nz fhg59_7) Y Y (OF.pickT (VEv.tmpB Y (dy fhg61_8)) (tv (tB (!(decide (0≤x1.B∧x1.B≤(((i:Nat):Int) - 1))))) Y)) (fO (OF.pickF (VEv.tmpB Y (nz fhg59_7)) (tv (tB (!(decide (0≤x1.B∧x1.B≤(((i:Nat):Int) - 1))))) Y)) (mO (tB (!(decide (0≤x1.B∧x1.B≤(((i:Nat):Int) - 1))))) Y ?_))))))
   refine gn (0≤x1.B∧x1.B≤(((i:Nat):Int) - 1)) (fun fhg70_9=> ?_) fun fhg70_9=> ?_
   ·refine QD 3 17 false 70 (ny fhg70_9) Y Y Y ?_
    refine QaX 3 20 true 73 Y Y Y (oO Y Y (ny fhg70_9) (fO (OF.pickT (VEv.tmpB Y (ny fhg70_9)) (VEv.bool true)) (nt (ct Y (sr (fO (OF.assign (VEv.bool false)) (nt (rt (tr (vb (b':=false) Y ?_))))))))))
    (symm;rw [decide_eq_false_iff_not,QN hx1];rintro ⟨h1,h2,h3⟩;by_cases hk:x1.Kind=1<;>simp only [hk,two] at* <;>first | omega | (simp_all [Zy];omega))
   refine gF (nz fhg70_9) Y Y (OF.move (tv (tB (decide (x1.Kind=5))) Y)) (gF (nz fhg70_9) Y Y (QU (tv (tB (decide (x1.Kind=5))) Y)) (gF (nz fhg70_9) Y Y (OF.move (tv (tB (!(decide (x1.Kind=5)))) Y)) (QD 3 20 true 73 (nkT (dy fhg61_8)) Y Y Y (gF (nz fhg70_9) Y Y (OF.pickF (VEv.tmpB Y (nkT (dy fhg61_8))) (VEv.bool false)) (fO (OF.pickF (VEv.tmpB Y (nz fhg70_9)) (tv (tB false) Y)) (nt (cf Y (sk (tn (sr (mO (tB (decide (x1.Kind=5))) Y ?_)))))))))))
   refine mO (tB (decide (x1.Kind=5))) Y (QD 3 1 false 80 (dy fhg61_8) Y Y Y (fO (OF.pickT (VEv.tmpB Y (dy fhg61_8)) (VEv.bool true)) (mO (tB true) Y (QD 7 6 false 85 (b:=true) Y Y Y Y (fO (OF.pickT (tv (tB true) Y) (VEv.bool true)) (aO (tB true) Y (nt (rt (vb (b':=true) Y ?_)))))))))
   (symm;rw [decide_eq_true_eq,QN hx1];refine ⟨by omega,fun hk=> ?_,fun hk=> ?_⟩<;>first | (exfalso;omega) | (simp_all [two,Zy];omega))
  refine QD 6 8 true 61 (dz fhg61_8) Y Y Y (gF (nz fhg59_7) Y Y (OF.pickF (VEv.tmpB Y (dz fhg61_8)) (VEv.bool false)) (fO (OF.pickF (VEv.tmpB Y (nz fhg59_7)) (tv (tB false) Y)) (mO (tB false) Y (VRunO.free (VWant.on (b:=false) Y Y Y) (OF.move (tv (tB (decide (x1.Kind=5))) Y)) (VRunO.free (VWant.on (b:=false) Y Y Y) (QU (tv (tB (decide (x1.Kind=5))) Y)) (VRunO.free (VWant.on (b:=false) Y Y Y) (OF.move (tv (tB (!(decide (x1.Kind=5)))) Y)) (Yk (tI x1.B) (nkF (dz fhg61_8)) Y Y Y Y Z4 Y Y QS (gF (nkF (dz fhg61_8)) Y Y (xne (tv (tI x1.B) Y) (VEv.int .i64 0)) (VRunO.free (VWant.on (b:=false) Y Y Y) (OF.pickT (VEv.tmpB Y (nkF (dz fhg61_8))) (tv (tB (!(decide (x1.B=0)))) Y)) (fO (OF.pickF (tv (tB false) Y) (tv (tB (!(decide (x1.B=0)))) Y)) (nt ?_)))))))))))
  refine cn (x1.B=0) Y (fun fhc2=> ?_) fun fhc2=> ?_
  ·refine sr ?_
   refine fO (OF.assign (VEv.bool false)) (nt (rt (tr (vb (b':=false) Y ?_))))
   (symm;rw [decide_eq_false_iff_not,QN hx1];rintro ⟨h1,h2,h3⟩;by_cases hk:x1.Kind=1<;>simp only [hk,two] at* <;>(simp_all [Zy];done))
  refine sk (tn (sr (mO (tB (decide (x1.Kind=5))) Y (mO (tB (decide (x1.Kind=5))) Y (Yk (tI x1.Kind) (dz fhg61_8) Y Y Y Y Zf Y Y QS (gF (dz fhg61_8) Y Y (Yn (tv (tI x1.Kind) Y) (VEv.int .i64 2)) (fO (OF.pickF (VEv.tmpB Y (dz fhg61_8)) (tv (tB (decide (x1.Kind=2))) Y)) (mO (tB (decide (x1.Kind=2))) Y ?_))))))))
  refine gw (x1.Kind=2) (fun fhg85_10=> ?_) fun fhg85_10=> ?_
  ·refine QD 7 6 false 85 (dy fhg85_10) Y Y Y ?_
   refine fO (OF.pickT (VEv.tmpB Y (dy fhg85_10)) (VEv.bool true)) (aO (tB true) Y (nt (rt (vb (b':=true) Y ?_))))
   (symm;rw [decide_eq_true_eq,QN hx1];refine ⟨by omega,fun hk=> ?_,fun hk=> ?_⟩<;>first | (exfalso;omega) | (simp_all [two,Zy];omega))
  refine gF (dz fhg85_10) Y Y (OF.move (tv (rd 4 Qd a) Y)) (Yk (tI x1.A) (dz fhg85_10) Y Y Y Y ZC Y Y QS ?_)
  obtain ⟨x2,hx2⟩:∃x,a[(Int.toNat x1.A)]? =some x:=⟨_,List.getElem?_eq_getElem (by omega)⟩
  refine gF (dz fhg85_10) Y Y (OF.indexAddrR (row:=(Qd false x2)) (i:=(Int.toNat x1.A)) (tv (rd 4 Qd a) Y) (tv (tI x1.A) Y) (by omega) (Qu _ hx2) U62 ZE Yq) (glr (tI x2.Kind) (dz fhg85_10) Y Y Y Y (lb Y) Zf Y QS (gF (dz fhg85_10) Y Y (Yn (tv (tI x2.Kind) Y) (VEv.int .i64 1)) (fO (OF.pickF (VEv.tmpB Y (dz fhg85_10)) (tv (tB (decide (x2.Kind=1))) Y)) (aO (tB (decide (x2.Kind=1))) Y (nt (rt (vb (b':=(decide (x2.Kind=1))) Y ?_)))))))
  (refine Qo0 hx1 hx2 ?_ ?_ ?_ ?_ ?_ ?_ ?_<;>first | assumption | omega | (simp only [two];omega))
 refine oD Y Y (nz fhg28_3) Y (oD Y Y (nz fhg28_3) Y (oD Y Y (nz fhg28_3) Y (VRunD.free Y (VWant.on Y Y hg24_2) Y (OF.pickF (VEv.tmpB Y (nz fhg28_3)) (VEv.bool false)) (fD (OF.pickF (VEv.tmpB Y hg24_2) (tv (tB false) Y)) Y Y (VRunD.nil (tn (cf Y (sk (tn (sr (lf (tI x1.Kind) Y Zf Y Y QS ?_)))))))))))
 refine fO (Yn (tv (tI x1.Kind) Y) (VEv.int .i64 4)) (mO (tB (decide (x1.Kind=4))) Y ?_)
 refine gw (x1.Kind=4) (fun fhg37_11=> ?_) fun fhg37_11=> ?_
 ·refine QD 3 3 false 37 (dy fhg37_11) Y Y Y ?_
  refine fO (OF.pickT (VEv.tmpB Y (dy fhg37_11)) (VEv.bool true)) (aO (tB true) Y (nt (sq (sr (lf (tI x1.Kind) Y Zf Y Y QS (fO (Yn (tv (tI x1.Kind) Y) (VEv.int .i64 1)) (nt (ck (dy fhg28_3) Y (sr (lf (tI x1.A) Y ZC Y Y QS (fO (Yn (tv (tI x1.A) Y) (VEv.int .i64 0)) ?_)))))))))))
  refine mO (tB (decide (x1.A=0))) Y ?_
  refine gw (x1.A=0) (fun fhg48_12=> ?_) fun fhg48_12=> ?_
  ·refine Yk (tI x1.B) (dy fhg48_12) Y Y Y Y Z4 Y Y QS ?_
   refine gF (dy fhg48_12) Y Y (Yn (tv (tI x1.B) Y) (VEv.int .i64 0)) (fO (OF.pickT (VEv.tmpB Y (dy fhg48_12)) (tv (tB (decide (x1.B=0))) Y)) (aO (tB (decide (x1.B=0))) Y (nt (rt (tr (vb (b':=(decide (x1.B=0))) Y ?_))))))
   (exfalso;omega)
  refine QD 3 3 true 48 (dz fhg48_12) Y Y Y (fO (OF.pickF (VEv.tmpB Y (dz fhg48_12)) (VEv.bool false)) (aO (tB false) Y (nt (rt (tr (vb (b':=false) Y ?_))))))
  (exfalso;omega)
 refine Yk (tI x1.Kind) (dz fhg37_11) Y Y Y Y Zf Y Y QS (gF (dz fhg37_11) Y Y (Yn (tv (tI x1.Kind) Y) (VEv.int .i64 5)) (fO (OF.pickF (VEv.tmpB Y (dz fhg37_11)) (tv (tB (decide (x1.Kind=5))) Y)) (aO (tB (decide (x1.Kind=5))) Y (nt (sq (sr (lf (tI x1.Kind) Y Zf Y Y QS (fO (Yn (tv (tI x1.Kind) Y) (VEv.int .i64 1)) (nt (ck (dy fhg28_3) Y (sr ?_)))))))))))
 refine lf (tI x1.A) Y ZC Y Y QS (fO (Yn (tv (tI x1.A) Y) (VEv.int .i64 0)) (mO (tB (decide (x1.A=0))) Y ?_))
 refine gw (x1.A=0) (fun fhg48_13=> ?_) fun fhg48_13=> ?_
 ·refine Yk (tI x1.B) (dy fhg48_13) Y Y Y Y Z4 Y Y QS ?_
  refine gF (dy fhg48_13) Y Y (Yn (tv (tI x1.B) Y) (VEv.int .i64 0)) (fO (OF.pickT (VEv.tmpB Y (dy fhg48_13)) (tv (tB (decide (x1.B=0))) Y)) (aO (tB (decide (x1.B=0))) Y (nt (rt (tr (vb (b':=(decide (x1.B=0))) Y ?_))))))
  (refine Qpr hx1 ?_ ?_ ?_ ?_<;>first | assumption | (simp_all;done))
 refine QD 3 3 true 48 (dz fhg48_13) Y Y Y (fO (OF.pickF (VEv.tmpB Y (dz fhg48_13)) (VEv.bool false)) (aO (tB false) Y (nt (rt (tr (vb (b':=false) Y ?_))))))
 (symm;rw [decide_eq_false_iff_not,QN hx1];rintro ⟨h1,h2,h3⟩;by_cases hk:x1.Kind=1<;>simp only [hk,two] at* <;>(simp_all [Zy];done))
theorem QcC (n:Nat) (a:List D.Step) (hz:zL Zc a≤mx):Pure (Qo Tryz.prog (n+4)) 100 [(rd 4 Qd a)] (tB (decide (QJ a))):=by
 refine Pure.intro (rs:= [ResultVar.tmp 2]) Tryz.func100 Y Y Y (E0:= [(0,(rd 4 Qd a))]) Y ?_
 obtain ⟨hlim,hmx,hmax⟩:=Qz
 have ha:=Q1 (z:=Zc) a
 refine sr (fO (OF.assign (VEv.bool false)) (nt (sq (sr (fO (OF.assign (VEv.int .i64 0)) (nt (VRun.block ?_)))))))
 refine VRun.loop (A:=Nat) (fun s_=> [(0,(rd 4 Qd a)),(3,(tN s_))]) (fun s_=>QV []) 0 (fun s_=>s_≤a.length∧∀j,j<s_→JV a j) (fun s_=>a.length - s_) (0:Nat) ?_ (Wk.mk (fun k=>k) ?_ ?_ ?_) ?_
 ·exact ⟨Nat.zero_le _,fun j hj=>by omega⟩
 ·exact (b2 (b2 bn))
 ·exact bn
 ·exact nd Y
 rintro i (hI':i≤a.length∧∀j,j<i→JV a j)
 show VRun _ _ _ [(0,(rd 4 Qd a)),(3,(tN i))] (QV []) 0 _
 have hI0:=hI'
 refine sq (sr (mO (tN i) Y (mO (rd 4 Qd a) Y (lO (B.lenR (m:=a.length) (tv (rd 4 Qd a) Y) U62 (List.length_map ..)) (fO (Q9 (tv (tN i) Y) (tv (tN a.length) Y)) (mO (tB (decide (i<a.length))) Y ?_))))))
 refine gw (i<a.length) (fun fhg8_1=> ?_) fun fhg8_1=> ?_
 ·refine gF (dy fhg8_1) Y Y (OF.move (tv (rd 4 Qd a) Y)) ?_
  refine gL (dy fhg8_1) Y Y (B.lenR (m:=a.length) (tv (rd 4 Qd a) Y) U62 (List.length_map ..)) (gF (dy fhg8_1) Y Y (B.leq (c:=(decide (a.length≤9))) (tv (tN a.length) Y) (VEv.int .i64 9) (Qt (by omega))) (fO (OF.pickT (VEv.tmpB Y (dy fhg8_1)) (tv (tB (decide (a.length≤9))) Y)) (nt ?_)))
  refine cd (a.length≤9) Y (fun fhc0=> ?_) fun fhc0=> ?_
  ·refine sk ?_
   refine tn (sq (VRun.block (sr (mO (rd 4 Qd a) Y (mO (tN i) Y (cO (cS (vc (tv (rd 4 Qd a) Y) (vc (tv (tN i) Y) vn)) (Zg Y) (Qid (n+0) a i (by assumption) (by assumption)) Y Y) (fO (QU (tv (tB (decide (JV a i))) Y)) (nt ?_))))))))
   refine cn (JV a i) Y (fun fhc1=> ?_) fun fhc1=> ?_
   ·refine sr ?_
    refine fO (OF.assign (VEv.bool false)) (nt (rt (vinB.r (tr (tr (vinB.r (tr (vb (b':=false) Y ?_))))))))
    (symm;rw [decide_eq_false_iff_not];rintro ⟨h1,h2⟩;exact absurd (h2 i (by omega)) (by assumption))
   refine sk (vinB.n (tn (VRun.region (mO (tN i) Y (fO (QB (tv (tN i) Y) (VEv.int .i64 1) (by omega)) (aO (tN (i+1)) Y (VRunO.nil (tn ?_))))))))
   refine ⟨(i+1:Nat),?_,?_,Wk.mk (fun k=>k) ?_ ?_ ?_⟩
   ·exact Zb hI0 (by omega) (by assumption)
   ·omega
   ·exact (b2 (b2 bn))
   ·exact bn
   ·exact nd Y
  refine VRun.exit (vthn.e (vthn.e (vinB.e (tn (sr (mO (rd 4 Qd a) Y (lO (B.lenR (m:=a.length) (tv (rd 4 Qd a) Y) U62 (List.length_map ..)) (cO (cS (vc (tv (tN a.length) Y) (vc (VEv.int .i64 1) (vc (VEv.int .i64 9) vn))) (Zg Y) (Q2 (n+2) ((a.length:Nat):Int) 1 9) Y Y) (aO (tB (decide (1≤((a.length:Nat):Int)∧((a.length:Nat):Int)≤9))) Y (nt (rt ?_)))))))))))
  refine vb (b':=(decide (1≤((a.length:Nat):Int)∧((a.length:Nat):Int)≤9))) Y ?_
  (refine Qt ⟨fun h=>⟨by omega,Qa4 hI' (by omega)⟩,fun h=>by have:=h.1;omega⟩)
 refine QD 3 4 true 8 (dz fhg8_1) Y Y Y (fO (OF.pickF (VEv.tmpB Y (dz fhg8_1)) (VEv.bool false)) (nt (cf Y (VRun.exit (vthn.e (vthn.e (vinB.e (tn (sr (mO (rd 4 Qd a) Y (lO (B.lenR (m:=a.length) (tv (rd 4 Qd a) Y) U62 (List.length_map ..)) ?_)))))))))))
 refine cO (cS (vc (tv (tN a.length) Y) (vc (VEv.int .i64 1) (vc (VEv.int .i64 9) vn))) (Zg Y) (Q2 (n+2) ((a.length:Nat):Int) 1 9) Y Y) (aO (tB (decide (1≤((a.length:Nat):Int)∧((a.length:Nat):Int)≤9))) Y (nt (rt (vb (b':=(decide (1≤((a.length:Nat):Int)∧((a.length:Nat):Int)≤9))) Y ?_))))
 (refine Qt ⟨fun h=>⟨by omega,Qa4 hI' (by omega)⟩,fun h=>by have:=h.1;omega⟩)
theorem QcK (n:Nat) (a:List D.Step) (hz:zL Zc a≤mx):Pure (Qo Tryz.prog (n+3)) 116 [(rd 4 Qd a)] (tB (decide (QJ a))):=by
 refine Pure.intro (rs:= [ResultVar.tmp 2]) Tryz.func116 Y Y Y (E0:= [(0,(rd 4 Qd a))]) Y ?_
 obtain ⟨hlim,hmx,hmax⟩:=Qz
 have ha:=Q1 (z:=Zc) a
 have hw:∀x∈a,x.Word.size≤maxLen:=fun x hx=>by have h1:=QlB (z:=Zc) hx;simp only [Zc] at h1;omega
 refine sr (fO (OF.assign (VEv.bool false)) (nt (sq (sr (mO (rd 4 Qd a) Y (lO (B.lenR (m:=a.length) (tv (rd 4 Qd a) Y) U62 (List.length_map ..)) (cO (cS (vc (tv (tN a.length) Y) (vc (VEv.int .i64 1) (vc (VEv.int .i64 9) vn))) (Zg Y) (ZB (n+1) ((a.length:Nat):Int) 1 9) Y Y) (fO (QU (tv (tB (decide (1≤((a.length:Nat):Int)∧((a.length:Nat):Int)≤9))) Y)) (nt ?_)))))))))
 refine cn (1≤((a.length:Nat):Int)∧((a.length:Nat):Int)≤9) Y (fun fhc0=> ?_) fun fhc0=> ?_
 ·refine sr ?_
  refine fO (OF.assign (VEv.bool false)) (nt (rt (tr (vb (b':=false) Y ?_))))
  (symm;rw [decide_eq_false_iff_not];rintro ⟨h1,h2⟩;(exfalso;omega))
 refine sk (tn (sq (sr (mO (rd 4 Qd a) Y (lO (B.lenR (m:=a.length) (tv (rd 4 Qd a) Y) U62 (List.length_map ..)) (fO (OF.move (VEv.int .i64 0)) (nt (VRun.block ?_))))))))
 refine VRun.loop (A:=Nat) (fun s_=> [(0,(rd 4 Qd a)),(9,(rd 4 Qd a)),(10,(tN a.length)),(11,(tN s_))]) (fun s_=>QV []) 0 (fun s_=>s_≤a.length∧∀j,j<s_→JV a j) (fun s_=>a.length - s_) (0:Nat) ?_ (Wk.mk (fun k=>k) ?_ ?_ ?_) ?_
 ·exact ⟨Nat.zero_le _,fun j hj=>by omega⟩
 ·exact (b2 (b2 (b2 (b2 bn))))
 ·exact bn
 ·exact nd Y
 rintro i (hI':i≤a.length∧∀j,j<i→JV a j)
 show VRun _ _ _ [(0,(rd 4 Qd a)),(9,(rd 4 Qd a)),(10,(tN a.length)),(11,(tN i))] (QV []) 0 _
 have hI0:=hI'
 refine sr (fO (Q9 (tv (tN i) Y) (tv (tN a.length) Y)) (nt (sq ?_)))
 refine cd (i<a.length) Y (fun fhc1=> ?_) fun fhc1=> ?_
 ·refine sk ?_
  refine tn (sq (VRun.block (sr (mO (tN i) Y ?_))))
  obtain ⟨x1,hx1⟩:∃x,a[i]? =some x:=⟨_,List.getElem?_eq_getElem (by omega)⟩
  refine fO (OF.indexAddrR (row:=(Qd false x1)) (i:=i) (tv (rd 4 Qd a) Y) (tv (tN i) Y) Y (Qu _ hx1) U62 ZE Yq) (lO (OL.loadRn (us:=(Qd false x1)) (tv (T.rp (Qd false x1)) Y) QbQ ZE (lb Y) Y) (kO (B.alloc (t:=(T.agg [(tN 0),(tS ByteArray.empty),(tN 0),(tN 0)])) (ts:= [(tN 0),(tS ByteArray.empty),(tN 0),(tN 0)]) QeR QeQ nofun (fun _=> .agg _ _ Y (YS (RL.cons (.int _ _) (RL.cons (.str _) (RL.cons (.int _ _) (RL.cons (.int _ _) (RL.nil _))))))) Y) (aO (tN i) Y (cO (B.storeW (us:=(Qd false x1)) (tv (T.op 0 0) Y) (tv (T.agg (Qd false x1)) Y) nofun Y Y Y Yq ZE (bc Y (bc Y (bc Y (bc Y bn))))) (nt (sq (sr (lf (tI x1.Kind) Y Zf Y Y QS (cO (cS (vc (tv (tI x1.Kind) Y) (vc (VEv.int .i64 1) (vc (VEv.int .i64 9) vn))) (Zg Y) (ZB (n+1) x1.Kind 1 9) Y Y) (fO (QU (tv (tB (decide (1≤x1.Kind∧x1.Kind≤9))) Y)) (nt ?_)))))))))))
  refine cn (1≤x1.Kind∧x1.Kind≤9) Y (fun fhc2=> ?_) fun fhc2=> ?_
  ·refine sr ?_
   refine fO (OF.assign (VEv.bool false)) (nt (rt (tr (vinB.r (tr (tr (vinB.r (tr (vb (b':=false) Y ?_)))))))))
   (symm;rw [decide_eq_false_iff_not];rintro ⟨h1,h2⟩;(have h3:=(QN hx1).1 (h2 i fhc1);obtain ⟨h4,h5,h6⟩:=h3;simp only [two] at h6;omega))
  refine sk (tn (sq (sr (lf (tI x1.Kind) Y Zf Y Y QS (fO (Yn (tv (tI x1.Kind) Y) (VEv.int .i64 1)) (nt ?_))))))
  refine cd (x1.Kind=1) Y (fun fhc3=> ?_) fun fhc3=> ?_
  ·refine sq ?_
   refine sr (lf (tS x1.Word) Y Z3 Y Y ZG (cO (cS (vc (tv (tS x1.Word) Y) vn) (Zg Y) (Zn (n+0) x1.Word (by exact hw _ (List.mem_of_getElem? hx1))) Y Y) (fO (QU (tv (tB (decide (Qm x1.Word))) Y)) (mO (tB (!(decide (Qm x1.Word)))) Y ?_))))
   refine gn (Qm x1.Word) (fun fhg27_1=> ?_) fun fhg27_1=> ?_
   ·refine QD 3 4 false 27 (ny fhg27_1) Y Y Y ?_
    refine fO (OF.pickT (VEv.tmpB Y (ny fhg27_1)) (VEv.bool true)) (mO (tB true) Y (QD 3 9 false 32 (b:=true) Y Y Y Y (fO (OF.pickT (tv (tB true) Y) (VEv.bool true)) (nt (ct Y (sr (fO (OF.assign (VEv.bool false)) (nt (rt (tr (tr ?_)))))))))))
    refine vinB.r (tr (tr (vinB.r (tr (vb (b':=false) Y ?_)))))
    (symm;rw [decide_eq_false_iff_not];rintro ⟨h1,h2⟩;(have h3:=(QN hx1).1 (h2 i fhc1);obtain ⟨h4,h5,h6⟩:=h3;simp only [two] at h6;(by_cases hk:x1.Kind=1<;>simp_all<;>omega)))
   refine Yk (tI x1.A) (nz fhg27_1) Y Y Y Y ZC Y Y QS (gF (nz fhg27_1) Y Y (xne (tv (tI x1.A) Y) (VEv.int .i64 0)) (fO (OF.pickF (VEv.tmpB Y (nz fhg27_1)) (tv (tB (!(decide (x1.A=0)))) Y)) (mO (tB (!(decide (x1.A=0)))) Y ?_)))
   refine gn (x1.A=0) (fun fhg32_2=> ?_) fun fhg32_2=> ?_
   ·refine QD 3 9 false 32 (ny fhg32_2) Y Y Y ?_
    refine fO (OF.pickT (VEv.tmpB Y (ny fhg32_2)) (VEv.bool true)) (nt (ct Y (sr (fO (OF.assign (VEv.bool false)) (nt (rt (tr (tr (vinB.r (tr (tr ?_)))))))))))
    refine vinB.r (tr (vb (b':=false) Y ?_))
    (symm;rw [decide_eq_false_iff_not];rintro ⟨h1,h2⟩;(have h3:=(QN hx1).1 (h2 i fhc1);obtain ⟨h4,h5,h6⟩:=h3;simp only [two] at h6;omega))
   refine Yk (tI x1.B) (nz fhg32_2) Y Y Y Y Z4 Y Y QS (gF (nz fhg32_2) Y Y (xne (tv (tI x1.B) Y) (VEv.int .i64 0)) (fO (OF.pickF (VEv.tmpB Y (nz fhg32_2)) (tv (tB (!(decide (x1.B=0)))) Y)) (nt ?_)))
   refine cn (x1.B=0) Y (fun fhc4=> ?_) fun fhc4=> ?_
   ·refine sr ?_
    refine fO (OF.assign (VEv.bool false)) (nt (rt (tr (tr (vinB.r (tr (tr (vinB.r (tr (vb (b':=false) Y ?_))))))))))
    (symm;rw [decide_eq_false_iff_not];rintro ⟨h1,h2⟩;(have h3:=(QN hx1).1 (h2 i fhc1);obtain ⟨h4,h5,h6⟩:=h3;simp only [two] at h6;omega))
   refine sk (tn (VRun.exit (vthn.e (vinB.e (tn (VRun.region (fO (QB (tv (tN i) Y) (VEv.int .i64 1) (by omega)) (mO (tN (i+1)) Y (VRunO.nil (tn ?_))))))))))
   refine ⟨(i+1:Nat),?_,?_,Wk.mk (fun k=>k) ?_ ?_ ?_⟩
   ·refine Zb hI0 fhc1 ((QN hx1).2 ?_)
    simp only [QeO,two]
    refine ⟨by omega,fun hk=> ?_,fun hk=> ?_⟩
    ·(refine ⟨?_,?_,?_⟩<;>assumption)
    ·(exfalso;omega)
   ·omega
   ·exact (b2 (b2 (b2 (b2 bn))))
   ·exact bn
   ·exact nd Y
  refine sk (tn (sq (sr (lf (tS x1.Word) Y Z3 Y Y ZG (fO (B.sneq (c:=(!(decide (x1.Word=(⟨#[]⟩:ByteArray))))) (tv (tS x1.Word) Y) (VEv.str (⟨#[]⟩:ByteArray)) Y) (mO (tB (!(decide (x1.Word=(⟨#[]⟩:ByteArray))))) Y ?_))))))
  refine gn (x1.Word=(⟨#[]⟩:ByteArray)) (fun fhg40_3=> ?_) fun fhg40_3=> ?_
  ·refine QD 5 3 false 40 (ny fhg40_3) Y Y Y ?_
   refine fO (OF.pickT (VEv.tmpB Y (ny fhg40_3)) (VEv.bool true)) (mO (tB true) Y (QD 4 10 false 47 (b:=true) Y Y Y Y (QaX 7 14 true 51 Y Y Y (VRunO.off (VWant.not (b:=true) Y Y Y) (fO (OF.pickT (tv (tB true) Y) (VEv.bool true)) (nt (ct Y (sr (fO (OF.assign (VEv.bool false)) (nt (rt ?_)))))))))))
   refine tr (vinB.r (tr (tr (vinB.r (tr (vb (b':=false) Y ?_))))))
   (symm;rw [decide_eq_false_iff_not];rintro ⟨h1,h2⟩;(have h3:=(QN hx1).1 (h2 i fhc1);obtain ⟨h4,h5,h6⟩:=h3;simp only [two] at h6;(by_cases hk:x1.Kind=1<;>simp_all<;>omega)))
  refine Yk (tI x1.A) (nz fhg40_3) Y Y Y Y ZC Y Y QS (gF (nz fhg40_3) Y Y (OF.move (tv (tN i) Y)) (VRunO.chain (VWant.on Y Y (nz fhg40_3)) (cS (vc (tv (tI x1.A) Y) (vc (tv (tN i) Y) vn)) (Zg Y) (YK (n+1) x1.A ((i:Nat):Int)) Y Y) (gF (nz fhg40_3) Y Y (QU (tv (tB (decide (0≤x1.A∧x1.A<((i:Nat):Int)))) Y)) (fO (OF.pickF (VEv.tmpB Y (nz fhg40_3)) (tv (tB (!(decide (0≤x1.A∧x1.A<((i:Nat):Int))))) Y)) (mO (tB (!(decide (0≤x1.A∧x1.A<((i:Nat):Int))))) Y ?_)))))
  refine gn (0≤x1.A∧x1.A<((i:Nat):Int)) (fun fhg47_4=> ?_) fun fhg47_4=> ?_
  ·refine QD 4 10 false 47 (ny fhg47_4) Y Y Y ?_
   refine QaX 7 14 true 51 Y Y Y (oO Y Y (ny fhg47_4) (fO (OF.pickT (VEv.tmpB Y (ny fhg47_4)) (VEv.bool true)) (nt (ct Y (sr (fO (OF.assign (VEv.bool false)) (nt (rt (tr (vinB.r (tr ?_)))))))))))
   refine tr (vinB.r (tr (vb (b':=false) Y ?_)))
   (symm;rw [decide_eq_false_iff_not];rintro ⟨h1,h2⟩;(have h3:=(QN hx1).1 (h2 i fhc1);obtain ⟨h4,h5,h6⟩:=h3;simp only [two] at h6;omega))
  refine Yk (tI x1.Kind) (nz fhg47_4) Y Y Y Y Zf Y Y QS (VRunO.chain (VWant.on Y Y (nz fhg47_4)) (cS (vc (tv (tI x1.Kind) Y) vn) (Zg Y) (Qea (n+1) x1.Kind) Y Y) (gF (nz fhg47_4) Y Y (OF.move (tv (tB (decide (x1.Kind=3∨6≤x1.Kind))) Y)) ?_))
  refine gw (x1.Kind=3∨6≤x1.Kind) (fun fhg51_5=> ?_) fun fhg51_5=> ?_
  ·refine gF (dy fhg51_5) Y Y (OF.move (tv (rd 4 Qd a) Y)) ?_
   refine Yk (tI x1.A) (dy fhg51_5) Y Y Y Y ZC Y Y QS ?_
   obtain ⟨x2,hx2⟩:∃x,a[(Int.toNat x1.A)]? =some x:=⟨_,List.getElem?_eq_getElem (by omega)⟩
   refine gF (dy fhg51_5) Y Y (OF.indexAddrR (row:=(Qd false x2)) (i:=(Int.toNat x1.A)) (tv (rd 4 Qd a) Y) (tv (tI x1.A) Y) (by omega) (Qu _ hx2) U62 ZE Yq) (glr (tI x2.Kind) (dy fhg51_5) Y Y Y Y (lb Y) Zf Y QS (gF (dy fhg51_5) Y Y (xne (tv (tI x2.Kind) Y) (VEv.int .i64 1)) (gF (nz fhg47_4) Y Y (OF.pickT (VEv.tmpB Y (dy fhg51_5)) (tv (tB (!(decide (x2.Kind=1)))) Y)) (fO (OF.pickF (VEv.tmpB Y (nz fhg47_4)) (tv (tB (!(decide (x2.Kind=1)))) Y)) (nt ?_)))))
   refine cn (x2.Kind=1) Y (fun fhc5=> ?_) fun fhc5=> ?_
   ·refine sr ?_
    refine fO (OF.assign (VEv.bool false)) (nt (rt (tr (vinB.r (tr (tr (vinB.r (tr (vb (b':=false) Y ?_)))))))))
    (symm;rw [decide_eq_false_iff_not];rintro ⟨h1,h2⟩;(have h3:=(QN hx1).1 (h2 i fhc1);obtain ⟨h4,h5,h6⟩:=h3;simp only [two] at h6;(by_cases hk:x1.Kind=1<;>simp_all<;>omega)))
   refine sk (tn (sr (lf (tI x1.Kind) Y Zf Y Y QS (cO (cS (vc (tv (tI x1.Kind) Y) vn) (Zg Y) (Yv (n+1) x1.Kind) Y Y) (mO (tB (decide (x1.Kind=4∨x1.Kind=5))) Y ?_)))))
   refine gw (x1.Kind=4∨x1.Kind=5) (fun fhg64_6=> ?_) fun fhg64_6=> ?_
   ·refine Yk (tI x1.B) (dy fhg64_6) Y Y Y Y Z4 Y Y QS ?_
    refine gF (dy fhg64_6) Y Y (OF.move (tv (tN i) Y)) (VRunO.chain (VWant.on Y Y (dy fhg64_6)) (cS (vc (tv (tI x1.B) Y) (vc (tv (tN i) Y) vn)) (Zg Y) (YK (n+1) x1.B ((i:Nat):Int)) Y Y) (gF (dy fhg64_6) Y Y (QU (tv (tB (decide (0≤x1.B∧x1.B<((i:Nat):Int)))) Y)) (fO (OF.pickT (VEv.tmpB Y (dy fhg64_6)) (tv (tB (!(decide (0≤x1.B∧x1.B<((i:Nat):Int))))) Y)) (mO (tB (!(decide (0≤x1.B∧x1.B<((i:Nat):Int))))) Y ?_))))
    refine gn (0≤x1.B∧x1.B<((i:Nat):Int)) (fun fhg71_7=> ?_) fun fhg71_7=> ?_
    ·refine QD 5 10 false 71 (ny fhg71_7) Y Y Y ?_
     refine QaX 3 15 true 76 Y Y Y (oO Y Y (ny fhg71_7) (fO (OF.pickT (VEv.tmpB Y (ny fhg71_7)) (VEv.bool true)) (nt (ct Y (sr (fO (OF.assign (VEv.bool false)) (nt (rt (vinB.r (tr (tr ?_)))))))))))
     refine vinB.r (tr (vb (b':=false) Y ?_))
     (symm;rw [decide_eq_false_iff_not];rintro ⟨h1,h2⟩;(exfalso;omega))
    refine Yk (tI x1.Kind) (nz fhg71_7) Y Y Y Y Zf Y Y QS (VRunO.chain (VWant.on Y Y (nz fhg71_7)) (cS (vc (tv (tI x1.Kind) Y) vn) (Zg Y) (Yv (n+1) x1.Kind) Y Y) (gF (nz fhg71_7) Y Y (QU (tv (tB (decide (x1.Kind=4∨x1.Kind=5))) Y)) (gF (nz fhg71_7) Y Y (OF.move (tv (tB (!(decide (x1.Kind=4∨x1.Kind=5)))) Y)) (QD 3 15 true 76 (nkT (dy fhg64_6)) Y Y Y (gF (nz fhg71_7) Y Y (OF.pickF (VEv.tmpB Y (nkT (dy fhg64_6))) (VEv.bool false)) (fO (OF.pickF (VEv.tmpB Y (nz fhg71_7)) (tv (tB false) Y)) (nt (cf Y (sk (vinB.n (tn ?_)))))))))))
    refine VRun.region (fO (QB (tv (tN i) Y) (VEv.int .i64 1) (by omega)) (mO (tN (i+1)) Y (VRunO.nil (tn ?_))))
    refine ⟨(i+1:Nat),?_,?_,Wk.mk (fun k=>k) ?_ ?_ ?_⟩
    ·refine Zb hI0 fhc1 ((QN hx1).2 ?_)
     simp only [QeO,two]
     refine ⟨by omega,fun hk=> ?_,fun hk=> ?_⟩
     ·(exfalso;omega)
     ·(exfalso;omega)
    ·omega
    ·exact (b2 (b2 (b2 (b2 bn))))
    ·exact bn
    ·exact nd Y
   refine QD 5 3 true 64 (dz fhg64_6) Y Y Y (fO (OF.pickF (VEv.tmpB Y (dz fhg64_6)) (VEv.bool false)) (mO (tB false) Y (VRunO.free (VWant.on (b:=false) Y Y Y) (OF.fieldAddrO (tv (T.op 0 0) Y) Zf) (VRunO.look (VWant.on (b:=false) Y Y Y) (OL.loadO1 (t:=(tI x1.Kind)) (tv (T.op 0 0) Y) Y Y QS) (VRunO.chain (VWant.on (b:=false) Y Y Y) (cS (vc (tv (tI x1.Kind) Y) vn) (Zg Y) (Yv (n+1) x1.Kind) Y Y) (VRunO.free (VWant.on (b:=false) Y Y Y) (QU (tv (tB (decide (x1.Kind=4∨x1.Kind=5))) Y)) (VRunO.free (VWant.on (b:=false) Y Y Y) (OF.move (tv (tB (!(decide (x1.Kind=4∨x1.Kind=5)))) Y)) (Yk (tI x1.B) (nkF (dz fhg64_6)) Y Y Y Y Z4 Y Y QS (gF (nkF (dz fhg64_6)) Y Y (xne (tv (tI x1.B) Y) (VEv.int .i64 0)) (VRunO.free (VWant.on (b:=false) Y Y Y) (OF.pickT (VEv.tmpB Y (nkF (dz fhg64_6))) (tv (tB (!(decide (x1.B=0)))) Y)) (fO (OF.pickF (tv (tB false) Y) (tv (tB (!(decide (x1.B=0)))) Y)) ?_)))))))))))
   refine nt ?_
   refine cn (x1.B=0) Y (fun fhc6=> ?_) fun fhc6=> ?_
   ·refine sr ?_
    refine fO (OF.assign (VEv.bool false)) (nt (rt (vinB.r (tr (tr (vinB.r (tr (vb (b':=false) Y ?_))))))))
    (symm;rw [decide_eq_false_iff_not];rintro ⟨h1,h2⟩;(have h3:=(QN hx1).1 (h2 i fhc1);obtain ⟨h4,h5,h6⟩:=h3;simp only [two] at h6;omega))
   refine sk (vinB.n (tn (VRun.region (fO (QB (tv (tN i) Y) (VEv.int .i64 1) (by omega)) (mO (tN (i+1)) Y (VRunO.nil (tn ?_)))))))
   refine ⟨(i+1:Nat),?_,?_,Wk.mk (fun k=>k) ?_ ?_ ?_⟩
   ·refine Zb hI0 fhc1 ((QN hx1).2 ?_)
    simp only [QeO,two]
    refine ⟨by omega,fun hk=> ?_,fun hk=> ?_⟩
    ·(exfalso;omega)
    ·(refine ⟨?_,?_,fun h=> ?_,fun h=> ?_,fun h1 h2=> ?_⟩<;>first | assumption | omega | (refine ⟨x2,hx2,?_⟩;omega))
   ·omega
   ·exact (b2 (b2 (b2 (b2 bn))))
   ·exact bn
   ·exact nd Y
  refine QD 7 14 true 51 (dz fhg51_5) Y Y Y (gF (nz fhg47_4) Y Y (OF.pickF (VEv.tmpB Y (dz fhg51_5)) (VEv.bool false)) (fO (OF.pickF (VEv.tmpB Y (nz fhg47_4)) (tv (tB false) Y)) (nt (cf Y (sk (tn (sr (lf (tI x1.Kind) Y Zf Y Y QS (cO (cS (vc (tv (tI x1.Kind) Y) vn) (Zg Y) (Yv (n+1) x1.Kind) Y Y) (mO (tB (decide (x1.Kind=4∨x1.Kind=5))) Y ?_))))))))))
  refine gw (x1.Kind=4∨x1.Kind=5) (fun fhg64_8=> ?_) fun fhg64_8=> ?_
  ·refine Yk (tI x1.B) (dy fhg64_8) Y Y Y Y Z4 Y Y QS ?_
   refine gF (dy fhg64_8) Y Y (OF.move (tv (tN i) Y)) (VRunO.chain (VWant.on Y Y (dy fhg64_8)) (cS (vc (tv (tI x1.B) Y) (vc (tv (tN i) Y) vn)) (Zg Y) (YK (n+1) x1.B ((i:Nat):Int)) Y Y) (gF (dy fhg64_8) Y Y (QU (tv (tB (decide (0≤x1.B∧x1.B<((i:Nat):Int)))) Y)) (fO (OF.pickT (VEv.tmpB Y (dy fhg64_8)) (tv (tB (!(decide (0≤x1.B∧x1.B<((i:Nat):Int))))) Y)) (mO (tB (!(decide (0≤x1.B∧x1.B<((i:Nat):Int))))) Y ?_))))
   refine gn (0≤x1.B∧x1.B<((i:Nat):Int)) (fun fhg71_9=> ?_) fun fhg71_9=> ?_
   ·refine QD 5 10 false 71 (ny fhg71_9) Y Y Y ?_
    refine QaX 3 15 true 76 Y Y Y (oO Y Y (ny fhg71_9) (fO (OF.pickT (VEv.tmpB Y (ny fhg71_9)) (VEv.bool true)) (nt (ct Y (sr (fO (OF.assign (VEv.bool false)) (nt (rt (vinB.r (tr (tr ?_)))))))))))
    refine vinB.r (tr (vb (b':=false) Y ?_))
    (symm;rw [decide_eq_false_iff_not];rintro ⟨h1,h2⟩;(have h3:=(QN hx1).1 (h2 i fhc1);obtain ⟨h4,h5,h6⟩:=h3;simp only [two] at h6;omega))
   refine Yk (tI x1.Kind) (nz fhg71_9) Y Y Y Y Zf Y Y QS (VRunO.chain (VWant.on Y Y (nz fhg71_9)) (cS (vc (tv (tI x1.Kind) Y) vn) (Zg Y) (Yv (n+1) x1.Kind) Y Y) (gF (nz fhg71_9) Y Y (QU (tv (tB (decide (x1.Kind=4∨x1.Kind=5))) Y)) (gF (nz fhg71_9) Y Y (OF.move (tv (tB (!(decide (x1.Kind=4∨x1.Kind=5)))) Y)) (QD 3 15 true 76 (nkT (dy fhg64_8)) Y Y Y (gF (nz fhg71_9) Y Y (OF.pickF (VEv.tmpB Y (nkT (dy fhg64_8))) (VEv.bool false)) (fO (OF.pickF (VEv.tmpB Y (nz fhg71_9)) (tv (tB false) Y)) (nt (cf Y (sk (vinB.n (tn ?_)))))))))))
   refine VRun.region (fO (QB (tv (tN i) Y) (VEv.int .i64 1) (by omega)) (mO (tN (i+1)) Y (VRunO.nil (tn ?_))))
   refine ⟨(i+1:Nat),?_,?_,Wk.mk (fun k=>k) ?_ ?_ ?_⟩
   ·refine Zb hI0 fhc1 ((QN hx1).2 ?_)
    simp only [QeO,two]
    refine ⟨by omega,fun hk=> ?_,fun hk=> ?_⟩
    ·(exfalso;omega)
    ·(refine ⟨?_,?_,fun h=> ?_,fun h=> ?_,fun h1 h2=> ?_⟩<;>first | assumption | omega)
   ·omega
   ·exact (b2 (b2 (b2 (b2 bn))))
   ·exact bn
   ·exact nd Y
  refine QD 5 3 true 64 (dz fhg64_8) Y Y Y (fO (OF.pickF (VEv.tmpB Y (dz fhg64_8)) (VEv.bool false)) (mO (tB false) Y (VRunO.free (VWant.on (b:=false) Y Y Y) (OF.fieldAddrO (tv (T.op 0 0) Y) Zf) (VRunO.look (VWant.on (b:=false) Y Y Y) (OL.loadO1 (t:=(tI x1.Kind)) (tv (T.op 0 0) Y) Y Y QS) (VRunO.chain (VWant.on (b:=false) Y Y Y) (cS (vc (tv (tI x1.Kind) Y) vn) (Zg Y) (Yv (n+1) x1.Kind) Y Y) (VRunO.free (VWant.on (b:=false) Y Y Y) (QU (tv (tB (decide (x1.Kind=4∨x1.Kind=5))) Y)) (VRunO.free (VWant.on (b:=false) Y Y Y) (OF.move (tv (tB (!(decide (x1.Kind=4∨x1.Kind=5)))) Y)) (Yk (tI x1.B) (nkF (dz fhg64_8)) Y Y Y Y Z4 Y Y QS (gF (nkF (dz fhg64_8)) Y Y (xne (tv (tI x1.B) Y) (VEv.int .i64 0)) (VRunO.free (VWant.on (b:=false) Y Y Y) (OF.pickT (VEv.tmpB Y (nkF (dz fhg64_8))) (tv (tB (!(decide (x1.B=0)))) Y)) (fO (OF.pickF (tv (tB false) Y) (tv (tB (!(decide (x1.B=0)))) Y)) ?_)))))))))))
  refine nt ?_
  refine cn (x1.B=0) Y (fun fhc6=> ?_) fun fhc6=> ?_
  ·refine sr ?_
   refine fO (OF.assign (VEv.bool false)) (nt (rt (vinB.r (tr (tr (vinB.r (tr (vb (b':=false) Y ?_))))))))
   (symm;rw [decide_eq_false_iff_not];rintro ⟨h1,h2⟩;(have h3:=(QN hx1).1 (h2 i fhc1);obtain ⟨h4,h5,h6⟩:=h3;simp only [two] at h6;omega))
  refine sk (vinB.n (tn (VRun.region (fO (QB (tv (tN i) Y) (VEv.int .i64 1) (by omega)) (mO (tN (i+1)) Y (VRunO.nil (tn ?_)))))))
  refine ⟨(i+1:Nat),?_,?_,Wk.mk (fun k=>k) ?_ ?_ ?_⟩
  ·refine Zb hI0 fhc1 ((QN hx1).2 ?_)
   simp only [QeO,two]
   refine ⟨by omega,fun hk=> ?_,fun hk=> ?_⟩
   ·(exfalso;omega)
   ·(refine ⟨?_,?_,fun h=> ?_,fun h=> ?_,fun h1 h2=> ?_⟩<;>first | assumption | omega)
  ·omega
  ·exact (b2 (b2 (b2 (b2 bn))))
  ·exact bn
  ·exact nd Y
 refine VRun.exit (vthn.e (vthn.e (vinB.e (tn (sr (fO (OF.assign (VEv.bool true)) (nt (rt (vb (b':=true) Y ?_)))))))))
 (symm;rw [decide_eq_true_eq];exact ⟨by omega,Qa4 hI' fhc1⟩)
theorem QaN (n:Nat) (a:D.Clue) (hz:QO a≤mx):Pure (Qo Tryz.prog (n+5)) 64 [(T.agg (Qi false a))] (tB (decide ((1≤a.Sense∧a.Sense≤99)∧QJ a.Play))):=by
 refine Pure.intro (rs:= [ResultVar.tmp 2]) Tryz.func64 Y Y Y (E0:= [(0,(T.agg (Qi false a)))]) Y ?_
 obtain ⟨hlim,hmx,hmax⟩:=Qz
 simp only [QO] at hz
 refine sr (kO (B.box (ts:=(Qi false a)) (tv (T.agg (Qi false a)) Y) nofun Y) (fO (OF.assign (VEv.bool false)) (nt (sr (lf (tI a.Sense) Y Qbz Y Y QS (cO (cS (vc (tv (tI a.Sense) Y) (vc (VEv.int .i64 1) (vc (VEv.int .i64 99) vn))) (Zg Y) (Q2 (n+3) a.Sense 1 99) Y Y) (mO (tB (decide (1≤a.Sense∧a.Sense≤99))) Y ?_)))))))
 refine gw (1≤a.Sense∧a.Sense≤99) (fun fhg6_1=> ?_) fun fhg6_1=> ?_
 ·refine Yk (rd 4 Qd a.Play) (dy fhg6_1) Y Y Y Y Qac Y Y QgP ?_
  refine VRunO.chain (VWant.on Y Y (dy fhg6_1)) (cS (vc (tv (rd 4 Qd a.Play) Y) vn) (Zg Y) (QcC (n+0) a.Play (by assumption)) Y Y) (fO (OF.pickT (VEv.tmpB Y (dy fhg6_1)) (tv (tB (decide (QJ a.Play))) Y)) (aO (tB (decide (QJ a.Play))) Y (nt (rt (vb (b':=(decide (QJ a.Play))) Y ?_)))))
  (refine Qt ⟨fun h=>⟨?_,h⟩,fun h=>h.2⟩;assumption)
 refine QD 3 3 true 6 (dz fhg6_1) Y Y Y (fO (OF.pickF (VEv.tmpB Y (dz fhg6_1)) (VEv.bool false)) (aO (tB false) Y (nt (rt (vb (b':=false) Y ?_)))))
 (symm;rw [decide_eq_false_iff_not];rintro ⟨h1,h2⟩;contradiction)
theorem QaS (n:Nat) (a:D.Clue) (hz:QO a≤mx):Pure (Qo Tryz.prog (n+4)) 76 [(T.agg (Qi false a))] (tB (decide ((1≤a.Sense∧a.Sense≤99)∧QJ a.Play))):=by
 refine Pure.intro (rs:= [ResultVar.tmp 2]) Tryz.func76 Y Y Y (E0:= [(0,(T.agg (Qi false a)))]) Y ?_
 obtain ⟨hlim,hmx,hmax⟩:=Qz
 simp only [QO] at hz
 refine sr (kO (B.box (ts:=(Qi false a)) (tv (T.agg (Qi false a)) Y) nofun Y) (fO (OF.assign (VEv.bool false)) (nt (sr (lf (tI a.Sense) Y Qbz Y Y QS (cO (cS (vc (tv (tI a.Sense) Y) (vc (VEv.int .i64 1) (vc (VEv.int .i64 99) vn))) (Zg Y) (ZB (n+2) a.Sense 1 99) Y Y) (mO (tB (decide (1≤a.Sense∧a.Sense≤99))) Y ?_)))))))
 refine gw (1≤a.Sense∧a.Sense≤99) (fun fhg6_1=> ?_) fun fhg6_1=> ?_
 ·refine Yk (rd 4 Qd a.Play) (dy fhg6_1) Y Y Y Y Qac Y Y QgP ?_
  refine VRunO.chain (VWant.on Y Y (dy fhg6_1)) (cS (vc (tv (rd 4 Qd a.Play) Y) vn) (Zg Y) (QcK (n+0) a.Play (by assumption)) Y Y) (fO (OF.pickT (VEv.tmpB Y (dy fhg6_1)) (tv (tB (decide (QJ a.Play))) Y)) (aO (tB (decide (QJ a.Play))) Y (nt (rt (vb (b':=(decide (QJ a.Play))) Y ?_)))))
  (refine Qt ⟨fun h=>⟨?_,h⟩,fun h=>h.2⟩;assumption)
 refine QD 3 3 true 6 (dz fhg6_1) Y Y Y (fO (OF.pickF (VEv.tmpB Y (dz fhg6_1)) (VEv.bool false)) (aO (tB false) Y (nt (rt (vb (b':=false) Y ?_)))))
 (symm;rw [decide_eq_false_iff_not];rintro ⟨h1,h2⟩;contradiction)
end Go.Proofs.YtjpenecpopljoaaGreat.AE
