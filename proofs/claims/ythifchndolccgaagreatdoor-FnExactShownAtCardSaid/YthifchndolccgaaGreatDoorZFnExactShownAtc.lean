/- A part of what the row of FnExactShownAt uses. Conditions: as each theorem states. -/
import Derived.Test.YthifchndolccgaaGreatDoorZFnExactShownAtb
import Derived.Test.YthifchndolccgaaGreatDoorProg
import Derived.KernelRfl
namespace Go.Proofs.YthifchndolccgaaGreatDoor.AE
open Go Go.RowKit
set_option linter.unusedVariables false
set_option linter.unusedSimpArgs false
theorem V.vpInv {σ:Nat→Option Nat} {hf:AH} {nx:Nat} {ts:List T} {v:Value} (h:V σ hf nx (.vp ts) v):∃a o es cs,v= .pointer (some ⟨a,o,none⟩)∧hf a=some (.cells es cs)∧o+ts.length≤cs.length∧∀i,i<ts.length→V σ hf nx (ts.getD i .any) (cs.getD (o+i) undef):=by
 cases h with
 | fz hr=>cases hr
 | vp ts o hk hfit h=>exact ⟨_,o,_,_,rfl,hk,hfit,h⟩
section
variable {call : QQ} {P : Program} {E : Q7} {O : QC} {d : Option Tmp} {ty tt : TypeId} {ps : String} {af : Array Edge} {g : Option (Nat × Bool)} {x y z : Operand} {t : T} {nx : Nat}
theorem OL.loadV1 {ts:List T} (hx:VEv E x (.vp ts)) (ht:ts[0]? =some t) (hst:Qx P tt=some false):OL call P E O ⟨d, .load tt x,ty,ps,af,g⟩ t:=fun q p h0 σ hf own nx Ea h hs=>by
 obtain ⟨v,h1,h2⟩:=hx σ hf nx Ea hs.env
 obtain ⟨a,o,es,cs,rfl,h3,h4,h5⟩:=h2.vpInv
 have hlt:0<ts.length:=(List.getElem?_eq_some_iff.1 ht).1
 have h6:=h5 0 hlt
 rw [Nat.add_zero,List.getD_eq_getElem?_getD,ht,List.getD_eq_getElem?_getD,List.getElem?_eq_getElem (show o<cs.length by omega)] at h6
 exact ⟨_,X.load h1 (JF hst (hs.fro _ _ h3).1 (List.getElem?_eq_getElem (show o<cs.length by omega))),h6⟩
end
def Loan (call:QQ) (f:FuncId) (sz:Nat) (rows:List (List T)) (ts:List T) (r:T) (rows':List (List T)):Prop:=∀(h:AH) (p:Nat) (hf:AH) (σ:Nat→Option Nat) (N:List Nat) (vs:List Value),Fr p h→(∀b o,hf b=some o→h b=some o∧b∉N)→N.Nodup→ObjR σ hf 1 h (.rows sz rows) (σ 0) N→VL σ hf 1 ts vs →
 CallS call f vs h p (fun v h'=>(∀b,h b≠none→b∉N→h' b=h b)∧V σ hf 1 r v∧ObjR σ hf 1 h' (.rows sz rows') (σ 0) N)
inductive Pin : T→Prop
 | os (sz n:Nat):Pin (.os sz 0 0 n)
 | vp (sz n:Nat):Pin (.vp [.os sz 0 0 n])
inductive LRes : T→Prop
 | none:LRes (.tup [])
 | int (k:IntKind) (n:Int):LRes (.int k n)
 | bool (b:Bool):LRes (.bool b)
 | os (sz n:Nat):LRes (.os sz 0 0 n)
def vloan (P:Program) (rs:List ResultVar) (j:Nat) (pin:T) (sz:Nat) (rows':List (List T)) (r:T):AX→Q7→QC→Nat→Prop
 | .exit _,_,_,_=>False
 | _,E,O,_=>∃k ts,VRes P E O rs ts∧Qds ts=ren (fun _=>k) r∧gE E j=ren (fun _=>k) pin∧gO O k=some (.rows sz rows')
theorem vloan.r {P:Program} {rs:List ResultVar} {j sz nx:Nat} {pin r:T} {rows rows':List (List T)} {E:Q7} {O:QC} {ts:List T} (k:Nat) (h:VRes P E O rs ts) (h1:Qds ts=ren (fun _=>k) r) (h2:gE E j=ren (fun _=>k) pin) (h3:gO O k=some (.rows sz rows)) (e:rows=rows'):vloan P rs j pin sz rows' r .ret E O nx:=⟨k,ts,h,h1,h2,e▸h3⟩
theorem vloan.n {P:Program} {rs:List ResultVar} {j sz nx:Nat} {pin r:T} {rows rows':List (List T)} {E:Q7} {O:QC} {ts:List T} (k:Nat) (h:VRes P E O rs ts) (h1:Qds ts=ren (fun _=>k) r) (h2:gE E j=ren (fun _=>k) pin) (h3:gO O k=some (.rows sz rows)) (e:rows=rows'):vloan P rs j pin sz rows' r .normal E O nx:=⟨k,ts,h,h1,h2,e▸h3⟩
theorem Qki {σ σ':Nat→Option Nat} {hf hf':AH} {nx nx' sz k n:Nat} {v:Value} (h:V σ hf nx (.os sz 0 0 n) v) (h':V σ' hf' nx' (.os sz k 0 n) v):σ' k=σ 0:=by
 obtain ⟨_,⟨a,m,e1,e2,e3⟩ | ⟨e1,_,e2,e3⟩⟩:=h.osInv
 ·obtain ⟨_,⟨a',m',f1,f2,f3⟩ | ⟨f1,_,f2,f3⟩⟩:=h'.osInv
  ·rw [e1] at f1
   simp only [Value.slice.injEq,Option.some.injEq,Addr.mk.injEq] at f1
   rw [e2,f2,f1.1.1]
  ·subst e1
   rcases f3 with f3 | ⟨b,o,f3⟩
   ·exact absurd f3 (by simp)
   ·simp only [Value.slice.injEq] at f3
    omega
 ·obtain ⟨_,⟨a',m',f1,f2,f3⟩ | ⟨f1,_,f2,f3⟩⟩:=h'.osInv
  ·subst f1
   rcases e3 with e3 | ⟨b,o,e3⟩
   ·exact absurd e3 (by simp)
   ·simp only [Value.slice.injEq] at e3
    omega
  ·rw [e1,f1]
theorem Pin.same {σ σ':Nat→Option Nat} {hf hf':AH} {nx nx' k:Nat} {pin:T} {v:Value} (hp:Pin pin) (hm:∀a o,hf a=some o→hf' a=some o) (h:V σ hf nx pin v) (h':V σ' hf' nx' (ren (fun _=>k) pin) v):σ' k=σ 0:=by
 cases hp with
 | os sz n=>exact Qki h h'
 | vp sz n =>
  obtain ⟨a,o,es,cs,rfl,e1,e2,e3⟩:=h.vpInv
  obtain ⟨a',o',es',cs',f0,f1,f2,f3⟩:=V.vpInv h'
  simp only [Value.pointer.injEq,Option.some.injEq,Addr.mk.injEq] at f0
  obtain ⟨rfl,rfl,_⟩:=f0
  rw [hm _ _ e1] at f1
  cases f1
  have g1:=e3 0 (by simp)
  have g2:=f3 0 (by simp [Qao])
  exact Qki g1 g2
theorem LRes.back {σ σ':Nat→Option Nat} {hf hf':AH} {nx nx' k:Nat} {r:T} {v:Value} (hr:LRes r) (h0:0<nx) (hσ:σ' k=σ 0) (h:V σ' hf' nx' (ren (fun _=>k) r) v):V σ hf nx r v:=by
 cases hr with
 | none =>
  obtain ⟨l,rfl,h1⟩:=V.tupL h
  obtain rfl:=List.eq_nil_of_length_eq_zero h1.1.symm
  exact .fz (.tup [] #[] rfl (fun i hi=>by simp at hi))
 | int k n=>obtain rfl:=V.intInv h;exact .fz (.int _ _)
 | bool b=>obtain rfl:=V.boolInv h;exact .fz (.bool _)
 | os sz n =>
  obtain ⟨_,⟨a,m,rfl,e2,e3⟩ | ⟨e1,e4,e2,e3⟩⟩:=V.osInv h
  ·exact .os sz 0 0 n m h0 (hσ.symm.trans e2) e3
  ·subst e2
   rcases e3 with rfl | ⟨a,o,rfl⟩
   ·exact .os0 sz 0 h0 (hσ.symm.trans e1)
   ·exact .ose sz 0 a o h0 (hσ.symm.trans e1)
theorem ObjR.one {σ:Nat→Option Nat} {hf h:AH} {nx sz:Nat} {rows:List (List T)} {oa:Option Nat} {N:List Nat} (h1:ObjR σ hf nx h (.rows sz rows) oa N) (hsc:scR rows):(oa=Option.none∧N= []∧rows= [])∨∃a,oa=some a∧N= [a]∧h a≠Option.none:=by
 cases h1 with
 | none sz=>exact .inl ⟨rfl,rfl,rfl⟩
 | rows hk hodd hlen hfit hs =>
  obtain rfl:=hs.sc hsc.flat
  exact .inr ⟨_,rfl,rfl,by rw [hk];simp⟩
theorem ObjR.scM {σ σ':Nat→Option Nat} {hf hf' h h':AH} {nx nx' sz:Nat} {rows:List (List T)} {oa:Option Nat} {N:List Nat} (h1:ObjR σ hf nx h (.rows sz rows) oa N) (hsc:scR rows) (hh:∀a∈N,h' a=h a):ObjR σ' hf' nx' h' (.rows sz rows) oa N:=by
 cases h1 with
 | none sz=>exact .none sz
 | rows hk hodd hlen hfit hs =>
  obtain rfl:=hs.sc hsc.flat
  exact .rows ((hh _ (by simp)).trans hk) hodd hlen hfit (SL.mono (fun _ _ e=>e) (SL.clean hs (fun t ht=>QcR (hsc.flat t ht))) (by simp))
theorem Loan.intro {P:Program} {f:FuncId} {fn:Func} {c:Code} {n sz j:Nat} {ts:List T} {r pin:T} {rows rows':List (List T)} {rs:List ResultVar} (hf:P.funcs[f]? =some fn) (hb:fn.body=some c) (hc:ZL fn.ntmps c=true) (hrs:fn.results.toList=rs) (hn:noW j c=true) (hj:ts[j]? =some pin) (hpin:Pin pin) (hr0:LRes r) (hsc:scR rows) (hsc':scR rows') {E0:Q7} (hE:Qec 0 ts=E0)
  (hr:VRun (Qr P n) P c E0 [(0,some (.rows sz rows))] 1 (vloan P rs j pin sz rows' r)) (hpr:QaZ f=true:=by rfl):Loan (Qr P (n+1)) f sz rows ts r rows':=by
 subst hE
 intro h p hfz σ N vs hfp hfN hnd hO hvs
 classical
 let hb0:AH:=fun b=>if b∈N then none else h b
 have hb1:∀b,b∉N→hb0 b=h b:=fun b hb=>if_neg hb
 have hb2:∀b,b∈N→hb0 b=none:=fun b hb=>if_pos hb
 have hb3:∀b o,hb0 b=some o→b∉N∧h b=some o:=fun b o hb=>by
  by_cases hm:b∈N
  ·rw [hb2 b hm] at hb;cases hb
  ·exact ⟨hm,(hb1 b hm).symm.trans hb⟩
 have hsub:∀b o,hfz b=some o→hb0 b=some o:=fun b o hb=>(hb1 b (hfN b o hb).2).trans (hfN b o hb).1
 have hNn:∀a∈N,h a≠none:=fun a ha=>by
  rcases hO.one hsc with ⟨_,rfl,_⟩ | ⟨a',_,rfl,h3⟩
  ·cases ha
  ·obtain rfl:=List.mem_singleton.1 ha
   exact h3
 have hjl:j<ts.length:=(List.getElem?_eq_some_iff.1 hj).1
 have hs0:SR p ⟨hb0,fun b=>b∈N⟩ σ hb0 (fun b=>if b∈N then some 0 else none) (Qec 0 ts) [(0,some (.rows sz rows))] 1 (fun t=>vs.getD t undef) h:=by
  refine ⟨fun t=> ?_,fun k o hk=> ?_,fun a o ha=>⟨(hb3 a o ha).2,if_neg (hb3 a o ha).1⟩,fun a k ha=> ?_,fun _ _=>rfl,fun t ht=> ?_⟩
  ·rw [QcM,if_neg (by omega),Nat.sub_zero]
   rcases Nat.lt_or_ge t ts.length with h1 | h1
   ·exact (hvs.2 t h1).mono hsub (Nat.le_refl _) (fun _ _=>rfl)
   ·rw [List.getD_eq_getElem?_getD,List.getElem?_eq_none h1]
    exact .any _
  ·simp only [gO] at hk
   split at hk
   ·rename_i e
    subst e
    obtain rfl:=Option.some.inj hk
    exact ⟨by omega,N,hnd,fun a ha=>if_pos ha,hO.mono hsub (Nat.le_refl _) (fun _ _=>rfl) (fun _ _=>rfl)⟩
   ·cases hk
  ·split at ha
   ·rename_i hm
    obtain rfl:=Option.some.inj ha
    exact ⟨.inr hm,hb2 a hm,hNn a hm,by omega⟩
   ·cases ha
  ·by_cases hm:t∈N
   ·exact .inr (.inr hm)
   ·exact .inl (by show hb0 t≠none;rw [hb1 t hm];exact ht)
 unfold VRun at hr
 have hrun:=hr p _ σ _ _ _ h 0 hs0
 have hrun2:Run (Qr P n) P p c ⟨fun t=>vs.getD t undef,h,0⟩ (fun e s=>KK p ⟨hb0,fun b=>b∈N⟩ (vloan P rs j pin sz rows' r e) s.E s.h∧s.E j=vs.getD j undef):=by
  unfold Run at hrun ⊢
  intro hfc
  obtain ⟨e,s',h1,h2,h3⟩:=hrun hfc
  exact ⟨e,s',h1,h2,h3,Yj _ _ _ _ hn h1⟩
 refine CallS.intro (hpr:=hpr) (rs:=rs) hf hb hc hfp hrs (Run.mono hrun2 ?_)
 rintro e s' ⟨⟨σ',hf',own',E,O,nx,h1,h2⟩,h0⟩
 have key:(∃k ts,VRes P E O rs ts∧Qds ts=ren (fun _=>k) r∧gE E j=ren (fun _=>k) pin∧gO O k=some (.rows sz rows'))→∃l,JW P s'.h s'.E rs=some l∧(fun v h'=>(∀b,h b≠none→b∉N→h' b=h b)∧V σ hfz 1 r v∧ObjR σ hfz 1 h' (.rows sz rows') (σ 0) N) (YL l) (if Za (YL l) then YB h s'.h else QaW p h s'.h):=by
  rintro ⟨k,us,g1,g2,g3,g4⟩
  obtain ⟨l,l1,l2⟩:=g1.run h1
  have g5:V σ' hf' nx (Qds us) (YL l):=by
   have hlen:=l2.1
   match us,l,l2,hlen with
   | [],[],g4,_=>exact g4.toTup
   | [t],[v],g4,_ =>
    obtain ⟨v',r',e,g6,_⟩:=g4.tail
    cases e
    exact g6
   | t::t'::us,v::v'::l,g4,_=>exact g4.toTup
   | [],_::_,_,hl=>cases hl
   | [_],[],_,hl=>cases hl
   | [_],_::_::_,_,hl=>cases hl
   | _::_::_,[],_,hl=>cases hl
   | _::_::_,[_],_,hl=>cases hl
  have hbase:∀a o,hb0 a=some o→hf' a=some o:=fun a o ha=>by
   have e3:hf' a=hb0 a:=h1.base a (by show hb0 a≠none;rw [ha];simp)
   rw [e3,ha]
  have hσ:σ' k=σ 0:=by
   have p1:=hvs.2 j hjl
   rw [List.getD_eq_getElem?_getD,hj] at p1
   have p2:=h1.env j
   rw [g3,h0] at p2
   exact hpin.same (fun a o ha=>hbase a o (hsub a o ha)) p1 p2
  have hold:∀b,h b≠none→(if Za (YL l) then YB h s'.h else QaW p h s'.h) b=s'.h b:=fun b hb=>by
   split
   ·unfold YB
    cases hh:h b with
    | none=>exact absurd hh hb
    | some o=>rfl
   ·exact Qek (.inl hb)
  refine ⟨l,l1,fun b hb hbN=> ?_,hr0.back (by omega) hσ (by rw [← g2];exact g5),?_⟩
  ·rw [hold b hb]
   obtain ⟨o,ho⟩:=Option.ne_none_iff_exists'.1 hb
   rw [(h1.fro b o (hbase b o ((hb1 b hbN).trans ho))).1,ho]
  ·obtain ⟨M,hM1,hM2,e4⟩:=h1.objAt g4
   rw [hσ] at e4
   have hMN:M=N:=by
    rcases hO.one hsc with ⟨q1,rfl,_⟩ | ⟨a,q1,rfl,_⟩
    ·rcases e4.one hsc' with ⟨_,rfl,_⟩ | ⟨a',q3,_,_⟩
     ·rfl
     ·rw [q1] at q3;cases q3
    ·rcases e4.one hsc' with ⟨q3,_,_⟩ | ⟨a',q3,rfl,_⟩
     ·rw [q1] at q3;cases q3
     ·rw [q1] at q3;rw [Option.some.inj q3]
   subst hMN
   exact e4.scM hsc' (fun a ha=>hold a (hNn a ha))
 cases e with
 | normal=>unfold fin;exact key h2
 | ret=>unfold fin;exact key h2
 | exit id=>exact h2.elim
section
variable {call : QQ} {P : Program} {E : Q7} {O : QC} {d : Option Tmp} {ty : TypeId} {ps : String} {af : Array Edge} {g : Option (Nat × Bool)} {nx : Nat}
theorem LRes.fwd {σ σ':Nat→Option Nat} {hf hf':AH} {nx nx' k:Nat} {r:T} {v:Value} (hr:LRes r) (hk:k<nx') (hσ:σ' k=σ 0) (h:V σ hf nx r v):V σ' hf' nx' (ren (fun _=>k) r) v:=by
 cases hr with
 | none =>
  obtain ⟨l,rfl,h1⟩:=V.tupL h
  obtain rfl:=List.eq_nil_of_length_eq_zero h1.1.symm
  exact .fz (.tup [] #[] rfl (fun i hi=>by simp at hi))
 | int k n=>obtain rfl:=V.intInv h;exact .fz (.int _ _)
 | bool b=>obtain rfl:=V.boolInv h;exact .fz (.bool _)
 | os sz n =>
  obtain ⟨_,⟨a,m,rfl,e2,e3⟩ | ⟨e1,e4,e2,e3⟩⟩:=V.osInv h
  ·exact .os sz k 0 n m hk (hσ.trans e2) e3
  ·subst e2
   rcases e3 with rfl | ⟨a,o,rfl⟩
   ·exact .os0 sz k hk (hσ.trans e1)
   ·exact .ose sz k a o hk (hσ.trans e1)
theorem OC.loanX {f:FuncId} {o:Oper} {ts0 ts:List T} {sz k:Nat} {r:T} {rows rows':List (List T)} (ho:∀(q p:Nat) (h0:LB) (σ:Nat→Option Nat) (hf:AH) (own:Nat→Option Nat) (Ea:Nat→Value) (h:AH),SR p h0 σ hf own E O nx Ea h→∃vs,aop P q Ea h o=some (.enter f vs)∧VL σ hf nx ts0 vs) (hk:gO O k=some (.rows sz rows)) (hts:Qao (fun _=>k) ts=ts0) (htl:Yq 1 ts=true) (hr0:LRes r) (hsc:scR rows) (hsc':scR rows') (hp:Loan call f sz rows ts r rows') :
  OC call P E O nx o (ren (fun _=>k) r) ((k,some (.rows sz rows'))::O) nx [k]:=⟨Nat.le_refl _,fun q p h0 σ hf own Ea h hs hu hF=>by
 subst hts
 obtain ⟨vs,h1,h2⟩:=ho q p h0 σ hf own Ea h hs
 obtain ⟨hkn,N,hN1,hN2,h5⟩:=hs.obj k _ hk
 have hl:VL (fun _=>σ k) hf 1 ts vs:=by
  refine ⟨by have:=h2.1;rw [Zs,List.length_map] at this;exact this,fun i hi=> ?_⟩
  have h6:=h2.2 i (by rw [Zs,List.length_map];exact hi)
  refine V.ren (σ':=fun _=>σ k) (nx':=1) (fun _ _=>rfl) h6 ?_ ?_
  ·rw [Zs]
   simp [List.getD_eq_getElem?_getD,hi]
  ·rw [YE,List.all_eq_true] at htl
   refine htl _ ?_
   rw [List.getD_eq_getElem?_getD,List.getElem?_eq_getElem hi]
   exact List.getElem_mem hi
 have h6:=hp h q hf (fun _=>σ k) N vs hF (fun b o hb=>⟨(hs.fro b o hb).1,fun hm=>by have:=hN2 b hm;rw [(hs.fro b o hb).2] at this;cases this⟩) hN1 (h5.scM hsc (fun _ _=>rfl)) hl
 unfold CallS at h6
 obtain ⟨v,h',k1,k2,k3,k4,k5⟩:=h6
 refine ⟨v,h',σ,own,by simp only [QF,h1,k1],k2,fun _ _=>rfl,⟨hs.env,fun k' o hk'=> ?_,fun b o hb=> ?_,fun b k' hb=> ?_,hs.base,fun t ht=> ?_⟩,hr0.fwd hkn Y k4,fun b hb hnk=>k3 b hb (fun hm=>hnk k (by simp) (hN2 b hm)),fun b k' e=> .inl e⟩
 ·simp only [gO] at hk'
  split at hk'
  ·rename_i e
   subst e
   obtain rfl:=Option.some.inj hk'
   exact ⟨hkn,N,hN1,hN2,k5.scM hsc' (fun _ _=>rfl)⟩
  ·rename_i hne
   obtain ⟨m1,N2,m2,m3,m4⟩:=hs.obj k' o hk'
   refine ⟨m1,N2,m2,m3,m4.mono (fun _ _ e=>e) (Nat.le_refl _) (fun _ _=>rfl) (fun b hb=>k3 b (hs.mine b k' (m3 b hb)).2.2.1 (fun hm=> ?_))⟩
   have:=hN2 b hm
   rw [m3 b hb] at this
   exact hne (Option.some.inj this)
 ·obtain ⟨m1,m2⟩:=hs.fro b o hb
  refine ⟨?_,m2⟩
  rw [k3 b (by rw [m1];simp) (fun hm=>by have:=hN2 b hm;rw [m2] at this;cases this)]
  exact m1
 ·obtain ⟨m1,m2,m3,m4⟩:=hs.mine b k' hb
  refine ⟨m1,m2,?_,m4⟩
  by_cases hm:b∈N
  ·rcases k5.one hsc' with ⟨_,rfl,_⟩ | ⟨a,_,rfl,h3⟩
   ·cases hm
   ·obtain rfl:=List.mem_singleton.1 hm
    exact h3
  ·rw [k3 b m3 hm]
   exact m3
 ·rcases k2 t ht with e | e
  ·exact hs.dom t e
  ·exact .inr (hu t e)⟩
theorem OC.callLoan {f:FuncId} {args:Array Operand} {tys:Array TypeId} {ts0 ts:List T} {sz k:Nat} {r r':T} {rows rows':List (List T)} (hb:Yo P f=true) (ha:VEvs E args.toList ts0) (hk:gO O k=some (.rows sz rows)) (hts:Qao (fun _=>k) ts=ts0) (htl:Yq 1 ts=true) (hr0:LRes r) (hrr:ren (fun _=>k) r=r') (hsc:scR rows) (hsc':scR rows') (hp:Loan call f sz rows ts r rows') :
  OC call P E O nx ⟨d, .call ⟨.value (.func f),args,tys⟩,ty,ps,af,g⟩ r' ((k,some (.rows sz rows'))::O) nx [k]:=hrr▸OC.loanX (fun q p h0 σ hf own Ea h hs=>by
 obtain ⟨vs,h1,h2⟩:=ha σ hf nx Ea hs.env
 exact ⟨vs,X.calls hb h1,h2⟩) hk hts htl hr0 hsc hsc' hp
theorem VL.app {σ:Nat→Option Nat} {hf:AH} {nx:Nat}:∀ {ts us:List T} {vs ws:List Value},VL σ hf nx ts vs→VL σ hf nx us ws→VL σ hf nx (ts++us) (vs++ws)
 | [],us,vs,ws,h,h2=>by
  obtain rfl:=List.eq_nil_of_length_eq_zero h.1.symm
  exact h2
 | t::ts,us,vs,ws,h,h2=>by
  obtain ⟨v,l,rfl,h3,h4⟩:=h.tail
  exact .cons h3 (VL.app h4 h2)
theorem OC.callvLoan {f:FuncId} {a:Tmp} {args:Array Operand} {tys:Array TypeId} {ts0 ts caps:List T} {sz k:Nat} {r r':T} {rows rows':List (List T)} (hf:gE E a= .fn f caps) (hb:Yo P f=true) (ha:VEvs E args.toList ts0) (hk:gO O k=some (.rows sz rows)) (hts:Qao (fun _=>k) ts=ts0++caps) (htl:Yq 1 ts=true) (hr0:LRes r) (hrr:ren (fun _=>k) r=r') (hsc:scR rows) (hsc':scR rows') (hp:Loan call f sz rows ts r rows') :
  OC call P E O nx ⟨d, .call ⟨.value (.tmp a),args,tys⟩,ty,ps,af,g⟩ r' ((k,some (.rows sz rows'))::O) nx [k]:=hrr▸OC.loanX (fun q p h0 σ hf' own Ea h hs=>by
 obtain ⟨vs,h1,h2⟩:=ha σ hf' nx Ea hs.env
 have h3:=hs.env a
 rw [hf] at h3
 obtain ⟨cs,h4,h5⟩:=h3.fnL
 exact ⟨vs++cs,by have:=X.callv (P:=P) (p:=q) (h:=h) (d:=d) (ty:=ty) (ps:=ps) (af:=af) (g:=g) (ts:=tys) h4 hb h1;simpa using this,h2.app h5⟩) hk hts htl hr0 hsc hsc' hp
end
def vtT (f:FuncId) (a b:T):Nat→T
 | 0=> .any
 | d+1=> .vp [.fn f [a,b,vtT f a b d]]
theorem QbB (g:Nat→Nat) (f:FuncId) (a b:T):∀d,ren g (vtT f a b d)=vtT f (ren g a) (ren g b) d
 | 0=>rfl
 | d+1=>by simp only [vtT,ren,Qao,QbB g f a b d]
theorem Qc9 {n:Nat} {f:FuncId} {a b:T} (ha:YS n a=true) (hb:YS n b=true):∀d,YS n (vtT f a b d)=true
 | 0=>rfl
 | d+1=>by simp only [vtT,YS,Yq,ha,hb,Qc9 ha hb d,Bool.and_true]
theorem tl {n:Nat} {t:T} {ts:List T} (h:YS n t=true) (hr:Yq n ts=true):Yq n (t::ts)=true:=by simp only [Yq,h,hr,Bool.and_true]
theorem SR.hold {p nx k:Nat} {h0:LB} {hf h:AH} {σ own:Nat→Option Nat} {E:Q7} {O:QC} {Ea:Nat→Value} {us:List T} (hs:SR p h0 σ hf own E O nx Ea h) (hk:gO O k=some (.cells us)):∃hf' own' a es cs,SR p h0 σ hf' own' E ((k,none)::O) nx Ea h∧(∀a o,hf a=some o→hf' a=some o)∧σ k=some a∧hf' a=some (.cells es cs)∧VL σ hf nx us cs:=by
 classical
 obtain ⟨hkn,N,hN1,hN2,h3⟩:=hs.obj k _ hk
 cases hσ:σ k with
 | none=>rw [hσ] at h3;cases h3
 | some a =>
 rw [hσ] at h3
 cases h3 with
 | cells hh hodd hv =>
  rename_i es cs
  have howna:=hN2 a (by simp)
  have hmono:∀b o,hf b=some o→(fun b=>if own b=some k then h b else hf b) b=some o:=fun b o ho=>by
   have:=(hs.fro b o ho).2
   simp only [this]
   rw [if_neg (by simp)]
   exact ho
  refine ⟨fun b=>if own b=some k then h b else hf b,fun b=>if own b=some k then none else own b,a,es,cs,⟨fun t=>(hs.env t).mono hmono (Nat.le_refl _) (fun _ _=>rfl),fun k' o hk'=> ?_,fun b o ha=> ?_,fun b k' ha=> ?_,fun b ha=> ?_,hs.dom⟩,hmono,rfl,by simp only [howna,if_true];exact hh,hv⟩
  ·simp only [gO] at hk'
   split at hk'
   ·cases hk'
   ·rename_i hne
    obtain ⟨h1,M,h2,h4,h5⟩:=hs.obj k' o hk'
    refine ⟨h1,M,h2,fun b hb=> ?_,h5.mono hmono (Nat.le_refl _) (fun _ _=>rfl) (fun _ _=>rfl)⟩
    have:=h4 b hb
    simp only [this]
    rw [if_neg (fun e=>hne (Option.some.inj e))]
  ·split at ha
   ·rename_i e
    exact ⟨ha,by simp only [e,if_true]⟩
   ·rename_i e
    obtain ⟨h1,h2⟩:=hs.fro b o ha
    exact ⟨h1,by simp [h2]⟩
  ·split at ha
   ·cases ha
   ·exact hs.mine b k' ha
  ·have:own b≠some k:=fun e=>ha (hs.mine b k e).2.1
   simp only [if_neg this]
   exact hs.base b ha
theorem SR.told {p nx:Nat} {h0:LB} {hf h:AH} {σ own:Nat→Option Nat} {E E':Q7} {O:QC} {Ea:Nat→Value} (hs:SR p h0 σ hf own E O nx Ea h) (he:∀t,V σ hf nx (gE E' t) (Ea t)):SR p h0 σ hf own E' O nx Ea h:=⟨he,hs.obj,hs.fro,hs.mine,hs.base,hs.dom⟩
theorem V.opAt {σ:Nat→Option Nat} {hf:AH} {nx k o a:Nat} {v:Value} (h:V σ hf nx (.op k o) v) (hσ:σ k=some a):v= .pointer (some ⟨a,o,none⟩):=by
 obtain ⟨a',e1,e2,_⟩:=h.opInv
 rw [hσ] at e2
 rw [e1,Option.some.inj e2]
theorem Wk.recv {E:Q7} {O:QC} {nx d1 d2 d3 k1 k2 k3 sz k n:Nat} {us:List T} {f:FuncId} (dep:Nat) (e1:gE E d1= .op k1 0) (e2:gE E d2= .op k2 0) (e3:gE E d3= .op k3 0) (o1:gO O k1=some (.cells us)) (o2:gO O k2=some (.cells [.os sz k 0 n])) (o3:gO O k3=some (.cells [.fn f [.op k1 0, .op k2 0, .op k3 0]])) (h12:¬k2=k1) (h13:¬k3=k1) (h23:¬k3=k2) (hpl:∀t∈us,JU t=true) :
  Wk E O nx ((d1, .rp us)::(d2, .vp [.os sz k 0 n])::(d3,vtT f (.rp us) (.vp [.os sz k 0 n]) dep)::E) ((k3,none)::(k2,none)::(k1,none)::O) nx:=fun p h0 σ hf own Ea h hs=>by
 obtain ⟨hf1,own1,a1,es1,cs1,s1,m1,g1,f1,v1⟩:=hs.hold o1
 obtain ⟨hf2,own2,a2,es2,cs2,s2,m2,g2,f2,v2⟩:=s1.hold (k:=k2) (us:= [.os sz k 0 n]) (by simp only [gO,if_neg h12];exact o2)
 obtain ⟨hf3,own3,a3,es3,cs3,s3,m3,g3,f3,v3⟩:=s2.hold (k:=k3) (us:= [.fn f [.op k1 0, .op k2 0, .op k3 0]]) (by simp only [gO,if_neg h13,if_neg h23];exact o3)
 have c1:V σ hf3 nx (.rp us) (.pointer (some ⟨a1,0,none⟩)):=by
  have r1:=(v1.mono (hf':=hf3) (σ':=σ) (nx':=nx) (fun a o e=>m3 _ _ (m2 _ _ (m1 _ _ e))) (Nat.le_refl _) (fun _ _=>rfl)).pl hpl
  exact .fz (.rp us 0 (m3 _ _ (m2 _ _ f1)) (by have:=r1.1;omega) (fun i hi=>by rw [Nat.zero_add];exact r1.2 i hi))
 have c2:V σ hf3 nx (.vp [.os sz k 0 n]) (.pointer (some ⟨a2,0,none⟩)):=by
  have r1:=v2.mono (hf':=hf3) (σ':=σ) (nx':=nx) (fun a o e=>m3 _ _ (m2 _ _ e)) (Nat.le_refl _) (fun _ _=>rfl)
  exact .vp _ 0 (m3 _ _ f2) (by have:=r1.1;omega) (fun i hi=>by rw [Nat.zero_add];exact r1.2 i hi)
 obtain ⟨w,l,hw,w1,w2⟩:=v3.tail
 obtain rfl:=List.eq_nil_of_length_eq_zero w2.1.symm
 subst hw
 obtain ⟨ws,rfl,w3⟩:=w1.fnL
 obtain ⟨x1,l1,rfl,y1,w3⟩:=w3.tail
 obtain ⟨x2,l2,rfl,y2,w3⟩:=w3.tail
 obtain ⟨x3,l3,rfl,y3,w3⟩:=w3.tail
 obtain rfl:=List.eq_nil_of_length_eq_zero w3.1.symm
 obtain rfl:=y1.opAt g1
 obtain rfl:=y2.opAt g2
 obtain rfl:=y3.opAt g3
 have c3:∀dep,V σ hf3 nx (vtT f (.rp us) (.vp [.os sz k 0 n]) dep) (.pointer (some ⟨a3,0,none⟩)):=by
  intro dep
  induction dep with
  | zero=>exact .any _
  | succ dep ih=>exact .vp _ 0 f3 (by simp) (fun i hi=>by
    obtain rfl:i=0:=by simpa using hi
    exact (VL.cons c1 (VL.cons c2 (VL.cons ih (VL.nil _ _ _)))).toFn f)
 refine ⟨σ,hf3,own3,s3.told fun t=> ?_⟩
 simp only [gE]
 split
 ·rename_i e;subst e
  have:=hs.env t
  rw [e1] at this
  rw [this.opAt g1];exact c1
 ·split
  ·rename_i e;subst e
   have:=hs.env t
   rw [e2] at this
   rw [this.opAt g2];exact c2
  ·split
   ·rename_i e;subst e
    have:=hs.env t
    rw [e3] at this
    rw [this.opAt g3];exact c3 dep
   ·exact s3.env t
section
variable {call : QQ} {P : Program} {π c i : Nat} {ops : Array Oper}
theorem QdH : ∀(l1 l2:List Oper) (i:Nat) (s:St),Qbh call P π ops (l1++l2) i s=(Qbh call P π ops l1 i s).bind (Qbh call P π ops l2 (i+l1.length))
 | [],l2,i,s=>by simp [Qbh]
 | o::r,l2,i,s=>by
  rw [List.cons_append,Qbh,Qbh]
  cases hx:Qey call P π ops i o s with
  | none=>rfl
  | some s1 =>
   rw [Option.bind_some,Option.bind_some,QdH r l2,List.length_cons,show i+1+r.length=i+(r.length+1) by omega]
theorem RunO.app {l1 l2:List Oper} {E:Nat→Value} {h:AH} {K:(Nat→Value)→AH→Prop} (h1:RunO call P π ops c l1 i E h (fun E' h'=>RunO call P π ops c l2 (i+l1.length) E' h' K)):RunO call P π ops c (l1++l2) i E h K:=by
 unfold RunO at h1 ⊢
 intro hf
 obtain ⟨s1,e1,e2,e3,e4⟩:=h1 hf
 obtain ⟨s2,f1,f2,f3,f4⟩:=e4 e3
 refine ⟨s2,?_,f2,?_,f4⟩
 ·rw [QdH,e1,Option.bind_some,← f1]
  obtain ⟨E1,h1',c1⟩:=s1
  simp only at e2
  subst e2
  rfl
 ·rw [List.length_append,← Nat.add_assoc i]
  exact f3
end
def QmW (ds:List Nat) (E:Q7):Q7:=(ds.map fun e=>(e,T.any))++E
inductive JE (E:Q7) (ds:List Nat):Q7→Prop
 | nil:JE E ds E
 | cons {E1:Q7} {e:Nat} {t:T} (he:ds.contains e=true) (h:JE E ds E1):JE E ds ((e,t)::E1)
theorem jn {E:Q7} {ds:List Nat}:JE E ds E:= .nil
theorem js {E E1:Q7} {ds:List Nat} {e:Nat} {t:T} (he:ds.contains e=true) (h:JE E ds E1):JE E ds ((e,t)::E1):= .cons he h
theorem QiY (E:Q7) (t:Nat):∀ds:List Nat,gE (QmW ds E) t=if ds.contains t then .any else gE E t
 | []=>rfl
 | e::r=>by
  have ih:=QiY E t r
  unfold QmW at ih ⊢
  simp only [List.map_cons,List.cons_append,gE,ih,List.contains_cons]
  by_cases h:t=e
  ·simp [h]
  ·have:(t == e)=false:=by simp [h]
   simp [h]
theorem JE.off {E E1:Q7} {ds:List Nat} (h:JE E ds E1) {t:Nat} (ht:ds.contains t=false):gE E1 t=gE E t:=by
 induction h with
 | nil=>rfl
 | cons he _ ih =>
  rename_i e _ _
  have:¬t=e:=fun x=>by rw [x,he] at ht;cases ht
  simp only [gE,if_neg this,ih]
def JQ (E:Q7) (O:QC) (nx:Nat) (ds:List Nat) (d:Nat) (b:T) (E1:Q7) (O1:QC) (nx1:Nat):Prop:=O1=O∧nx1=nx∧∃E2,E1=(d,b)::E2∧JE E ds E2
theorem jq {E E2:Q7} {O:QC} {nx d:Nat} {ds:List Nat} {b v:T} (hv:v=b) (h:JE E ds E2):JQ E O nx ds d b ((d,v)::E2) O nx:=⟨rfl,rfl,E2,by rw [hv],h⟩
theorem VRunO.joinB {call:QQ} {P:Program} {ops:Array Oper} {l:List Oper} {E:Q7} {O:QC} {nx:Nat} {K:Q7→QC→Nat→Prop} (m:Nat) (ds:List Nat) (d:Nat) (b:T) (h1:VRunO call P ops (l.take m) E O nx (JQ E O nx ds d b)) (h2:VRunO call P ops (l.drop m) ((d,b)::QmW ds E) O nx K):VRunO call P ops l E O nx K:=by
 unfold VRunO at h1 h2 ⊢
 intro p h0 σ hf own Ea h c i hs
 rw [← List.take_append_drop m l]
 refine RunO.app ?_
 have h3:=h1 p h0 σ hf own Ea h c i hs
 unfold RunO at h3 ⊢
 intro hfc
 obtain ⟨s',e1,e2,e3,σ',hf',own',E1,O1,nx1,e4,rfl,rfl,E2,rfl,e5⟩:=h3 hfc
 have h4:=h2 p h0 σ' hf' own' s'.E s'.h c (i+(l.take m).length) (e4.told fun t=> ?_)
 ·unfold RunO at h4
  exact ⟨s',e1,e2,e3,h4⟩
 have h6:=e4.env t
 simp only [gE] at h6 ⊢
 split
 ·rename_i e
  simpa only [e,if_true] using h6
 ·rename_i e
  rw [if_neg e] at h6
  rw [QiY]
  split
  ·exact .any _
  ·rename_i hc
   rwa [e5.off (by simpa using hc)] at h6
section
variable {c v : Bool} {C Q : Prop} [Decidable C] [Decidable Q]
theorem jOT (hc:c=decide C) (h:c=true):true=decide (C∨Q):=by
 have:C:=of_decide_eq_true (hc▸h)
 simp [this]
theorem jOF (hc:c=decide C) (h:c=false) (hv:v=decide Q):v=decide (C∨Q):=by
 have:¬C:=of_decide_eq_false (hc▸h)
 simp [hv,this]
theorem dN : (!decide C)=decide (¬C):=by by_cases h:C<;>simp [h]
theorem dT (x:Bool):x=decide (x=true):=by cases x<;>rfl
end
section
variable {C Q R : Prop} {v : Bool}
theorem dy [Decidable C] (h:C):decide C=true:=decide_eq_true h
theorem dz [Decidable C] (h:¬C):decide C=false:=decide_eq_false h
theorem ny [Decidable C] (h:¬C):(!decide C)=true:=by simp [h]
theorem nz [Decidable C] (h:C):(!decide C)=false:=by simp [h]
theorem kAT [Decidable C] [Decidable Q] (h:C) (hv:v=decide Q):v=decide (C∧Q):=by simp [hv,h]
theorem kAF [Decidable C] [Decidable Q] (h:¬C):false=decide (C∧Q):=by simp [h]
theorem kOT [Decidable C] [Decidable Q] (h:C):true=decide (C∨Q):=by simp [h]
theorem kOF [Decidable C] [Decidable Q] (h:¬C) (hv:v=decide Q):v=decide (C∨Q):=by simp [hv,h]
theorem gw (C:Prop) (ht:C→R) (hf:¬C→R):R:=(Classical.em C).elim ht hf
theorem gn (C:Prop) (ht:¬C→R) (hf:C→R):R:=(Classical.em C).elim hf ht
theorem cd {call:QQ} {P:Program} {E:Q7} {O:QC} {nx:Nat} {S:AX→Q7→QC→Nat→Prop} {x y:Code} {a:Tmp} (C:Prop) [Decidable C] (h:gE E a= .bool (decide C)) (ht:C→VRun call P x E O nx S) (hf:¬C→VRun call P y E O nx S):VRun call P (.cond (.tmp a) x y) E O nx S:=VRun.cond (VEv.tmp h) (fun e=>ht (of_decide_eq_true e)) (fun e=>hf (of_decide_eq_false e))
theorem cn {call:QQ} {P:Program} {E:Q7} {O:QC} {nx:Nat} {S:AX→Q7→QC→Nat→Prop} {x y:Code} {a:Tmp} (C:Prop) [Decidable C] (h:gE E a= .bool (!decide C)) (ht:¬C→VRun call P x E O nx S) (hf:C→VRun call P y E O nx S):VRun call P (.cond (.tmp a) x y) E O nx S:=VRun.cond (VEv.tmp h) (fun e=>ht (by simpa using e)) (fun e=>hf (by simpa using e))
end
theorem lb {a b:Nat} (h:Nat.ble a b=true):a≤b:=Nat.le_of_ble_eq_true h
theorem bn {α:Type} {p:α→Prop}:∀x∈([]:List α),p x:=Zm
theorem bc {α:Type} {p:α→Prop} {a:α} {l:List α} (h:p a) (hr:∀x∈l,p x):∀x∈a::l,p x:=Qj h hr
theorem b2 {α:Type} {p:α→Prop} {a:α} {l:List α} (hr:∀x∈l,p x) (h:p a:=by exact ⟨rfl,rfl⟩):∀x∈a::l,p x:=Qj h hr
theorem b3 {α:Type} {p:α→Prop} {a:α} {l:List α} (hr:∀x∈l,p x) (h:p a:=by exact ⟨rfl,lb Y,rfl⟩):∀x∈a::l,p x:=Qj h hr
theorem QE : Zr=1099511627776∧mx=1048576∧maxLen=9223372036854775807:=⟨rfl,rfl,rfl⟩
theorem J0 {α:Type} {l:List α} {i:Nat} (z:α) (h:i<l.length):l[i]? =some (l[i]?.getD z):=by rw [List.getElem?_eq_getElem h,Option.getD_some]
theorem SL.cut {hf h:AH}:∀ {ts:List T} {vs:List Value} {N:List Nat} (j:Nat) (hj:j<ts.length),SL hf h ts vs N→∃A B C,N=A++(B++C)∧S hf h (ts.getD j .any) (vs.getD j undef) B∧∀(h':AH) (t':T) (v':Value),(∀a∈A,h' a=h a)→(∀a∈C,h' a=h a)→S hf h' t' v' B→SL hf h' (ts.set j t') (vs.set j v') N
 | _,_,_,j,hj, .nil=>by simp at hj
 | _,_,_,0,hj, .cons (N:=N) (M:=M) hs hr=>⟨[],N,M,rfl,by simpa using hs,fun h' t' v' _ hC hS=> .cons hS (SL.mono (fun _ _ e=>e) hr hC)⟩
 | _,_,_,j+1,hj, .cons (N:=N) (M:=M) hs hr=>by
  obtain ⟨A,B,C,e,h1,h2⟩:=SL.cut j (by simpa using hj) hr
  refine ⟨N++A,B,C,by rw [e,List.append_assoc],by simpa using h1,fun h' t' v' hA hC hS=> ?_⟩
  exact .cons (S.mono (fun _ _ e=>e) hs (fun a ha=>hA a (by simp [ha]))) (h2 h' t' v' (fun a ha=>hA a (by simp [ha])) hC hS)
theorem QiF {cs:List T} {o:Nat} {t:T} (h:o<cs.length):spl cs o [t]=cs.set o t:=by
 rw [spl,List.set_eq_take_append_cons_drop,if_pos h]
 simp
theorem Qh5 {cs:List Value} {o:Nat} {t:Value} (h:o<cs.length):AE.splice cs o [t]=cs.set o t:=by
 rw [AE.splice,List.set_eq_take_append_cons_drop,if_pos h]
 simp
theorem Qmx {u:T} (hu:sc u=true) {σ:Nat→Option Nat} {hf:AH} {nx:Nat} {v:Value} (hv:V σ hf nx u v):v.cells.toList= [v]∧v.oneCell'=true∧∀hf h,S hf h u v []:=by
 cases u<;>first | (simp [sc] at hu;done) | skip
 ·obtain rfl:=hv.boolInv;exact ⟨rfl,rfl,fun _ _=> .fz (.bool _)⟩
 ·obtain rfl:=hv.intInv;exact ⟨rfl,rfl,fun _ _=> .fz (.int _ _)⟩
 ·obtain rfl:=hv.strInv;exact ⟨rfl,rfl,fun _ _=> .fz (.str _)⟩
theorem S.scN {hf h:AH} {t:T} {v:Value} {N:List Nat} (hs:S hf h t v N) (ht:AE.sc t=true):N= []:=by
 cases hs with
 | fz hr=>rfl
 | _=>simp [AE.sc] at ht
section
variable {call : QQ} {P : Program} {E : Q7} {O : QC} {d : Option Tmp} {ty tt : TypeId} {ps : String} {af : Array Edge} {g : Option (Nat × Bool)} {x y : Operand} {nx sz k i o : Nat} {rows rows' : List (List T)} {row : List T} {asg : List Nat}
theorem QiV {σ:Nat→Option Nat} {hf h:AH} {a:Nat} {cs:List Value} {N:List Nat} {t0:T} (hh:h a=some (.cells sz cs)) (hlen:∀r∈rows,r.length=sz) (hfit:rows.length*sz≤cs.length) (hsl:SL hf h rows.flatten (cs.take (rows.length*sz)) N) (hi:rows[i]? =some row) (ho:row[o]? =some t0) :
  i*sz+o<rows.length*sz∧∃v A B C,cs[i*sz+o]? =some v∧N=A++(B++C)∧S hf h t0 v B∧∀(h':AH) (t':T) (v':Value),(∀b∈A,h' b=h b)→(∀b∈C,h' b=h b)→S hf h' t' v' B→SL hf h' (rows.set i (row.set o t')).flatten ((cs.set (i*sz+o) v').take (rows.length*sz)) N:=by
 have hlt:i<rows.length:=(List.getElem?_eq_some_iff.1 hi).1
 have hrow:row.length=sz:=hlen row (List.mem_of_getElem? hi)
 have hol:=(List.getElem?_eq_some_iff.1 ho).1
 have ho':o<sz:=by rw [← hrow];exact hol
 have hf1:=Qbn (sz:=sz) hlt
 have hfl:=ZZ hlen
 obtain ⟨A,B,C,e,h1,h2⟩:=hsl.cut (i*sz+o) (by omega)
 rw [YN hlen hi ho',List.getD_eq_getElem?_getD,ho,Option.getD_some,List.getD_eq_getElem?_getD,List.getElem?_take,if_pos (by omega),List.getElem?_eq_getElem (by omega),Option.getD_some] at h1
 refine ⟨by omega,_,A,B,C,List.getElem?_eq_getElem (by omega),e,h1,fun h' t' v' hA hC hS=> ?_⟩
 have h3:=h2 h' t' v' hA hC hS
 rw [← QiF (by omega),← Qba hlen hi (by simp only [List.length_cons,List.length_nil];omega),QiF hol] at h3
 rw [List.take_set]
 exact h3
theorem B.storeN {t0 u:T} (hx:VEv E x (.orp sz k i o)) (hy:VEv E y u) (hu:sc u=true) (hk:gO O k=some (.rowsN sz rows asg)) (hi:rows[i]? =some row) (ho:row[o]? =some t0) (ht0:sc t0=true) (hif:(P.info? tt).isSome=true) (hn:P.cellsOf tt=1) (hr:rows.set i (row.set o u)=rows') :
  OC call P E O nx ⟨d, .store tt x y,ty,ps,af,g⟩ .any ((k,some (.rowsN sz rows' asg))::O) nx [k]:=⟨Nat.le_refl _,fun q p h0 σ hf own Ea h hs hq hF=>by
 subst hr
 obtain ⟨v,h1,h2⟩:=hx σ hf nx Ea hs.env
 obtain ⟨v',h3,h4⟩:=hy σ hf nx Ea hs.env
 obtain ⟨c1,c2,c3⟩:=Qmx hu h4
 obtain ⟨a,rfl,h5,h6⟩:=h2.orpInv
 obtain ⟨N,hN1,hN2,h7⟩:=hs.objAt hk
 rw [h5] at h7
 cases h7 with
 | rowsN hh hodd hlen hfit hsl =>
  rename_i cs
  obtain ⟨hlt,w,A,B,C,e1,e2,e3,e4⟩:=QiV (σ:=σ) hh hlen hfit hsl hi ho
  obtain rfl:=e3.scN ht0
  have hst:=Qbq (P:=P) (t:=tt) (v:=v') (o:=i*sz+o) hodd hh hif hn c1 Y (by simp only [List.length_cons,List.length_nil];omega) (by simpa using c2)
  rw [Qh5 (by omega)] at hst
  have hown:own a=some k:=hN2 a (by simp)
  have haN:∀b,b∈asg→b≠a:=fun b hb e=>(List.nodup_cons.1 hN1).1 (e▸hb)
  have hupd:∀z:Yh,∀b∈asg,(h.upd a (some z)) b=h b:=fun z b hb=>AH.upd_ne _ (haN b hb) _
  have hobj:ObjR σ hf nx (h.upd a (some (.cells sz (cs.set (i*sz+o) v')))) (.rowsN sz (rows.set i (row.set o u)) asg) (some a) (a::asg):=by
   refine .rowsN (AH.upd_same _ _ _) hodd (fun r hr=> ?_) (by rw [List.length_set,List.length_set];exact hfit) ?_
   ·rcases List.mem_or_eq_of_mem_set hr with hm | rfl
    ·exact hlen r hm
    ·rw [List.length_set];exact hlen row (List.mem_of_getElem? hi)
   ·rw [List.length_set]
    exact e4 _ _ _ (fun b hb=>hupd _ b (by rw [e2];simp [hb])) (fun b hb=>hupd _ b (by rw [e2];simp [hb])) (c3 _ _)
  refine ⟨undef,_,σ,own,X.store h1 h3 hst,Dom.old (by rw [hh];simp) _,fun _ _=>rfl,hs.upd h5 h6 hown hN1 hN2 hobj, .any _,fun b hb hnk=>AH.upd_ne _ (fun e=> ?_) _,fun b k' e=> .inl e⟩
  exact hnk k (by simp) (e▸hown)⟩
theorem VRunO.nest {ops:Array Oper} {l:List Oper} {K:Q7→QC→Nat→Prop} {d1 d2 d3:Nat} {ty1 ty2 ty3:TypeId} {ps1 ps2 ps3:String} {af1 af2 af3:Array Edge} {f:FuncId} {tys:Array TypeId} {sz2:Nat} {rs rs':List (List T)} {n r:Int} (h12:(d1 == d2)=false) (hx:VEv E x (.orp sz k i o)) (hk:gO O k=some (.rowsN sz rows asg)) (hi:rows[i]? =some row) (ho:row[o]? =some (.sl true sz2 rs)) (hst:Qx P tt=some false) (hy:VEv ((d1, .any)::E) y (.int .i64 n)) (hb:Yo P f=true) (hm:Mut call f sz2 rs [.int .i64 n] (some r) rs') (hc:∀r∈rs,∀t∈r,Clean t) (hr:rows.set i (row.set o (.sl true sz2 rs'))=rows')
  (hK:VRunO call P ops l ((d3, .int .i64 r)::(d2, .int .i64 n)::(d1, .any)::E) ((k,some (.rowsN sz rows' asg))::O) nx K) :
  VRunO call P ops (⟨some d1, .load tt x,ty1,ps1,af1,none⟩::⟨some d2, .move y,ty2,ps2,af2,none⟩::⟨some d3, .call ⟨.value (.func f),#[.tmp d1, .tmp d2],tys⟩,ty3,ps3,af3,none⟩::l) E O nx K:=by
 unfold VRunO at hK ⊢
 intro p h0 σ hf own Ea h c j hs
 subst hr
 obtain ⟨v,h1,h2⟩:=hx σ hf nx Ea hs.env
 obtain ⟨a,rfl,h5,h6⟩:=h2.orpInv
 obtain ⟨N,hN1,hN2,h7⟩:=hs.objAt hk
 rw [h5] at h7
 cases h7 with
 | rowsN hh hodd hlen hfit hsl =>
  rename_i cs
  obtain ⟨hlt,v0,A,B,C,e1,e2,e3,e4⟩:=QiV (σ:=σ) hh hlen hfit hsl hi ho
  have hs1:=hs.put (V.any (σ:=σ) (hf:=hf) (nx:=nx) v0) (some d1)
  obtain ⟨w,y1,y2⟩:=hy σ hf nx _ hs1.env
  obtain rfl:=y2.intInv
  have hs2:=hs1.put y2 (some d2)
  have hdd:d1≠d2:=by simpa using h12
  refine RunO.pure Y Y Y (X.load h1 (JF hst hh e1)) (RunO.pure Y Y Y (X.move y1) ?_)
  have hown:own a=some k:=hN2 a (by simp)
  have hsub:∀b∈B,b∈asg:=fun b hb=>by rw [e2];simp [hb]
  have hnd:asg.Nodup:=(List.nodup_cons.1 hN1).2
  have hndB:B.Nodup:=by rw [e2,List.nodup_append,List.nodup_append] at hnd;exact hnd.2.1.1
  have hdisA:∀b∈A,b∉B:=fun b hb hm2=>by rw [e2,List.nodup_append] at hnd;exact hnd.2.2 b hb b (by simp [hm2]) Y
  have hdisC:∀b∈C,b∉B:=fun b hb hm2=>by rw [e2,List.nodup_append,List.nodup_append] at hnd;exact hnd.2.1.2.2 b hm2 b hb Y
  have haB:a∉B:=fun hm2=>(List.nodup_cons.1 hN1).1 (hsub a hm2)
  have hevs:AE.evs (ZR (ZR Ea (some d1) v0) (some d2) (.int .i64 n)) [.tmp d1, .tmp d2]=some [v0, .int .i64 n]:=by
   simp [AE.evs,ZI,ZR,hdd]
  unfold RunO
  intro hfc
  have hF:Fr (child p (c+(j+1+1))) h:=FrC.fr hfc (Nat.le_refl _)
  have hS0:S (fun _=>none) h (.sl true sz2 rs) v0 B:=S.clean e3 (.sl _ _ hc)
  have h8:=hm h (child p (c+(j+1+1))) hf v0 B [.int .i64 n] hF (fun b o hb=>⟨(hs.fro b o hb).1,fun hm2=>by have:=hN2 b (by simp [hsub b hm2]);rw [(hs.fro b o hb).2] at this;cases this⟩) hS0 hndB (RL.cons (.int _ _) (RL.nil _))
  unfold CallS at h8
  obtain ⟨v,h',k1,k2,k3,rfl,k5⟩:=h8
  have hha:h' a=some (.cells sz cs):=(k3 a (by rw [hh];simp) haB).trans hh
  have hobj:ObjR σ hf nx h' (.rowsN sz (rows.set i (row.set o (.sl true sz2 rs'))) asg) (σ k) (a::asg):=by
   rw [h5]
   refine .rowsN hha hodd (fun r hr=> ?_) (by rw [List.length_set];exact hfit) ?_
   ·rcases List.mem_or_eq_of_mem_set hr with hm2 | rfl
    ·exact hlen r hm2
    ·rw [List.length_set];exact hlen row (List.mem_of_getElem? hi)
   ·rw [List.length_set]
    have hnn:∀b∈asg,h b≠none:=fun b hb=>hsl.names b hb
    have:=e4 h' (.sl true sz2 rs') v0 (fun b hb=>k3 b (hnn b (by rw [e2];simp [hb])) (hdisA b hb)) (fun b hb=>k3 b (hnn b (by rw [e2];simp [hb])) (hdisC b hb)) (k5.mono (fun _ _ e=>by cases e) (fun _ _=>rfl))
    have e5:cs.set (i*sz+o) v0=cs:=by
     refine List.ext_getElem? fun q=> ?_
     rw [List.getElem?_set]
     split
     ·rename_i e;subst e;rw [if_pos (by omega),e1]
     ·rfl
    rwa [e5] at this
  have hs3:SR p h0 σ hf own ((d2, .int .i64 n)::(d1, .any)::E) ((k,some (.rowsN sz (rows.set i (row.set o (.sl true sz2 rs'))) asg))::O) nx (ZR (ZR Ea (some d1) v0) (some d2) (.int .i64 n)) h':=by
   refine ⟨hs2.env,fun k' o' hk'=> ?_,fun b o' hb=> ?_,fun b k' hb=> ?_,hs.base,fun t ht=> ?_⟩
   ·simp only [gO] at hk'
    split at hk'
    ·rename_i e
     subst e
     obtain rfl:=Option.some.inj hk'
     exact ⟨h6,a::asg,hN1,hN2,hobj⟩
    ·rename_i hne
     obtain ⟨m1,N2,m2,m3,m4⟩:=hs.obj k' o' hk'
     refine ⟨m1,N2,m2,m3,m4.mono (fun _ _ e=>e) (Nat.le_refl _) (fun _ _=>rfl) (fun b hb=>k3 b (hs.mine b k' (m3 b hb)).2.2.1 (fun hm2=> ?_))⟩
     have:=hN2 b (by simp [hsub b hm2])
     rw [m3 b hb] at this
     exact hne (Option.some.inj this)
   ·obtain ⟨m1,m2⟩:=hs.fro b o' hb
    refine ⟨?_,m2⟩
    rw [k3 b (by rw [m1];simp) (fun hm2=>by have:=hN2 b (by simp [hsub b hm2]);rw [m2] at this;cases this)]
    exact m1
   ·obtain ⟨m1,m2,m3,m4⟩:=hs.mine b k' hb
    refine ⟨m1,m2,?_,m4⟩
    by_cases hm2:b∈B
    ·exact k5.names b hm2
    ·rw [k3 b m3 hm2];exact m3
   ·rcases k2 t ht with e | e
    ·exact hs.dom t e
    ·exact .inr (.inl (J1 e))
  have hs4:=hs3.put (V.fz (σ:=σ) (hf:=hf) (nx:=nx) (R.int (hf:=hf) .i64 r)) (some d3)
  have hk4:=hK p h0 σ hf own _ h' c (j+1+1+1) hs4
  have hex:QF call P (child p (c+(j+1+1))) (ZR (ZR Ea (some d1) v0) (some d2) (.int .i64 n)) h ⟨some d3, .call ⟨.value (.func f),#[.tmp d1, .tmp d2],tys⟩,ty3,ps3,af3,none⟩=some (rvV (some r),h'):=by
   simp only [QF,X.calls (ts:=tys) hb (show AE.evs _ (#[Operand.tmp d1,Operand.tmp d2].toList)=some [v0, .int .i64 n] from hevs),k1]
  have hst2:=RunO.step (call:=call) (P:=P) (π:=p) (c:=c) (i:=j+1+1) (ops:=ops) (r:=l) (K:=KK p h0 K) Y Y Y hex (fun _=>k2) (fun _=>hk4)
  unfold RunO at hst2
  exact hst2 hfc
end
abbrev LO := List (Nat×List (List T))
def loO (asg:Nat→List Nat):Nat→LO→QC
 | _,[]=> []
 | n,x::r=>(n,some (.rowsN x.1 x.2 (asg n)))::loO asg (n+1) r
theorem Qk5 (asg:Nat→List Nat) (k:Nat):∀(L:LO) (n:Nat),gO (loO asg n L) k=if n≤k then (L[k - n]?).map (fun x=>Obj.rowsN x.1 x.2 (asg k)) else none
 | [],n=>by simp [loO,gO]
 | x::r,n=>by
  rw [loO,gO]
  by_cases h:k=n
  ·subst h;simp
  ·rw [if_neg h,Qk5 asg k r (n+1)]
   by_cases h2:n≤k
   ·rw [if_pos h2,if_pos (by omega),show k - n=(k - (n+1))+1 by omega,List.getElem?_cons_succ]
   ·rw [if_neg h2,if_neg (by omega)]
def Qn6 (σ:Nat→Option Nat) (hf:AH) (own:Nat→Option Nat) (asg:Nat→List Nat) (L:LO) (h:AH):Prop:=∀k x,L[k]? =some x→∃N,N.Nodup∧(∀a∈N,own a=some k)∧ObjR σ hf L.length h (.rowsN x.1 x.2 (asg k)) (σ k) N
def LoanM (call:QQ) (f:FuncId) (L:LO) (ts:List T) (r:T) (L':LO):Prop:=∀(asg:Nat→List Nat) (h:AH) (p:Nat) (hf:AH) (σ own:Nat→Option Nat) (vs:List Value),Fr p h→(∀b o,hf b=some o→h b=some o∧own b=none)→(∀b k,own b=some k→h b≠none∧k<L.length)→Qn6 σ hf own asg L h→VL σ hf L.length ts vs →
 CallS call f vs h p (fun v h'=>(∀b,h b≠none→own b=none→h' b=h b)∧(∃hf2,V σ hf2 L.length r v)∧∀k x,L'[k]? =some x→∃N,N.Nodup∧(∀a∈N,own a=some k)∧ObjR σ hf L.length h' (.rowsN x.1 x.2 (asg k)) (σ k) N)
inductive PinK (k:Nat):T→Prop
 | os (sz n:Nat):PinK k (.os sz k 0 n)
 | agg {ts:List T} {t:T} (i:Nat) (h:ts[i]? =some t) (hp:PinK k t):PinK k (.agg ts)
inductive PRes : T→Prop
 | none:PRes (.tup [])
 | int (k:IntKind) (n:Int):PRes (.int k n)
 | bool (b:Bool):PRes (.bool b)
theorem PRes.R {r:T} {v:Value} {σ:Nat→Option Nat} {hf:AH} {nx:Nat} (hr:PRes r) (h:V σ hf nx r v) (hf':AH):AE.R hf' r v:=by
 cases hr with
 | none =>
  obtain ⟨l,rfl,h1⟩:=V.tupL h
  obtain rfl:=List.eq_nil_of_length_eq_zero h1.1.symm
  exact .tup [] #[] rfl (fun i hi=>by simp at hi)
 | int k n=>obtain rfl:=V.intInv h;exact .int _ _
 | bool b=>obtain rfl:=V.boolInv h;exact .bool _
theorem QlT {σ σ':Nat→Option Nat} {hf hf':AH} {nx nx' sz k k' n:Nat} {v:Value} (h:V σ hf nx (.os sz k 0 n) v) (h':V σ' hf' nx' (.os sz k' 0 n) v):σ' k'=σ k:=by
 obtain ⟨_,⟨a,m,e1,e2,e3⟩ | ⟨e1,_,e2,e3⟩⟩:=h.osInv
 ·obtain ⟨_,⟨a',m',f1,f2,f3⟩ | ⟨f1,_,f2,f3⟩⟩:=h'.osInv
  ·rw [e1] at f1
   simp only [Value.slice.injEq,Option.some.injEq,Addr.mk.injEq] at f1
   rw [e2,f2,f1.1.1]
  ·subst e1
   rcases f3 with f3 | ⟨b,o,f3⟩
   ·exact absurd f3 (by simp)
   ·simp only [Value.slice.injEq] at f3
    omega
 ·obtain ⟨_,⟨a',m',f1,f2,f3⟩ | ⟨f1,_,f2,f3⟩⟩:=h'.osInv
  ·subst f1
   rcases e3 with e3 | ⟨b,o,e3⟩
   ·exact absurd e3 (by simp)
   ·simp only [Value.slice.injEq] at e3
    omega
  ·rw [e1,f1]
theorem PinK.same {σ σ':Nat→Option Nat} {hf hf':AH} {nx nx' k:Nat} {f:Nat→Nat} {pin:T} {v:Value} (hp:PinK k pin) (h:V σ hf nx pin v) (h':V σ' hf' nx' (ren f pin) v):σ' (f k)=σ k:=by
 induction hp generalizing v with
 | os sz n=>exact QlT h h'
 | agg i hi hp ih =>
  rename_i ts t
  obtain ⟨l,rfl,h1⟩:=V.aggL h
  have h2:V σ' hf' nx' (.agg (Qao f ts)) (.agg l.toArray):=h'
  obtain ⟨l2,e,h3⟩:=V.aggL h2
  have e2:l2=l:=by
   simp only [Value.agg.injEq] at e
   have:=congrArg Array.toList e
   simpa using this.symm
  subst e2
  have hlt:=(List.getElem?_eq_some_iff.1 hi).1
  have g1:=h1.2 i hlt
  have g2:=h3.2 i (by rw [Zs,List.length_map];exact hlt)
  rw [List.getD_eq_getElem?_getD,hi,Option.getD_some] at g1
  rw [Zs,List.getD_eq_getElem?_getD,List.getElem?_map,hi,Option.map_some,Option.getD_some] at g2
  exact ih g1 g2
def finO (O:QC) (f:Nat→Nat) (asg:Nat→List Nat):Nat→LO→Prop
 | _,[]=>True
 | n,x::r=>gO O (f n)=some (.rowsN x.1 x.2 (asg n))∧finO O f asg (n+1) r
theorem finO.at {O:QC} {f:Nat→Nat} {asg:Nat→List Nat}:∀ {L:LO} {n:Nat} (k:Nat) {x},finO O f asg n L→L[k]? =some x→gO O (f (n+k))=some (.rowsN x.1 x.2 (asg (n+k)))
 | [],n,k,x,_,h=>by simp at h
 | y::r,n,0,x,h,e=>by
  obtain rfl:y=x:=by simpa using e
  exact h.1
 | y::r,n,k+1,x,h,e=>by
  have:=finO.at (L:=r) (n:=n+1) k h.2 (by simpa using e)
  rwa [show n+1+k=n+(k+1) by omega] at this
def vloanM (P:Program) (rs:List ResultVar) (pins:List (Nat×T)) (L':LO) (asg:Nat→List Nat) (r:T):AX→Q7→QC→Nat→Prop
 | .exit _,_,_,_=>False
 | _,E,O,_=>∃(f:Nat→Nat) (us:List T),VRes P E O rs us∧Qds us=r∧(∀x∈pins,gE E x.1=ren f x.2)∧finO O f asg 0 L'
theorem vloanM.r {P:Program} {rs:List ResultVar} {pins:List (Nat×T)} {L1 L':LO} {asg:Nat→List Nat} {r:T} {E:Q7} {O:QC} {nx:Nat} {us:List T} (f:Nat→Nat) (h:VRes P E O rs us) (h1:Qds us=r) (h2:∀x∈pins,gE E x.1=ren f x.2) (h3:finO O f asg 0 L1) (e:L1=L'):vloanM P rs pins L' asg r .ret E O nx:=⟨f,us,h,h1,h2,e▸h3⟩
theorem ObjR.nameN {σ:Nat→Option Nat} {hf h:AH} {nx sz:Nat} {rows:List (List T)} {asg N:List Nat} {oa:Option Nat} (h1:ObjR σ hf nx h (.rowsN sz rows asg) oa N):(oa=Option.none∧N= []∧asg= [])∨∃a,oa=some a∧N=a::asg:=by
 cases h1 with
 | noneN sz=>exact .inl ⟨rfl,rfl,rfl⟩
 | rowsN hk hodd hlen hfit hs=>exact .inr ⟨_,rfl,rfl⟩
theorem ObjR.moveN {σ σ':Nat→Option Nat} {hf hf' h h':AH} {nx nx' sz:Nat} {rows:List (List T)} {asg N:List Nat} {oa:Option Nat} (h1:ObjR σ hf nx h (.rowsN sz rows asg) oa N) (hc:∀r∈rows,∀t∈r,Clean t) (hh:∀a∈N,h' a=h a):ObjR σ' hf' nx' h' (.rowsN sz rows asg) oa N:=by
 cases h1 with
 | noneN sz=>exact .noneN sz
 | rowsN hk hodd hlen hfit hs =>
  refine .rowsN ((hh _ (by simp)).trans hk) hodd hlen hfit ?_
  have h2:=SL.clean (hf':=fun _=>Option.none) hs (fun t ht=>by
   obtain ⟨r,hr,htr⟩:=List.mem_flatten.1 ht
   exact hc r hr t htr)
  exact h2.mono (fun _ _ e=>(by cases e)) (fun a ha=>hh a (by simp [ha]))
theorem ObjR.namesN {σ:Nat→Option Nat} {hf h:AH} {nx sz:Nat} {rows:List (List T)} {asg N:List Nat} {oa:Option Nat} (h1:ObjR σ hf nx h (.rowsN sz rows asg) oa N):∀a∈N,h a≠Option.none:=by
 cases h1 with
 | noneN sz=>intro a ha;cases ha
 | rowsN hk hodd hlen hfit hs =>
  intro a ha
  rcases List.mem_cons.1 ha with rfl | ha
  ·rw [hk];simp
  ·exact hs.names a ha
theorem LoanM.intro {P:Program} {f:FuncId} {fn:Func} {c:Code} {n:Nat} {ts:List T} {r:T} {L L':LO} {rs:List ResultVar} (pins:List (Nat×T)) (hf:P.funcs[f]? =some fn) (hb:fn.body=some c) (hc:ZL fn.ntmps c=true) (hrs:fn.results.toList=rs) (hL:L'.length=L.length) (hp1:∀x∈pins,noW x.1 c=true∧ts[x.1]? =some x.2) (hp2:∀k,k<L.length→∃x∈pins,PinK k x.2) (hr0:PRes r) (hcl:∀x∈L',∀r∈x.2,∀t∈r,Clean t) {E0:Q7} (hE:Qec 0 ts=E0)
  (hr:∀asg,VRun (Qr P n) P c E0 (loO asg 0 L) L.length (vloanM P rs pins L' asg r)) (hpr:QaZ f=true:=by rfl):LoanM (Qr P (n+1)) f L ts r L':=by
 subst hE
 intro asg h p hfz σ own vs hfp hfN hown hO hvs
 classical
 let hb0:AH:=fun b=>if own b≠none then none else h b
 have hb1:∀b,own b=none→hb0 b=h b:=fun b hb=>if_neg (by simp [hb])
 have hb2:∀b,own b≠none→hb0 b=none:=fun b hb=>if_pos hb
 have hb3:∀b o,hb0 b=some o→own b=none∧h b=some o:=fun b o hb=>by
  by_cases hm:own b=none
  ·exact ⟨hm,(hb1 b hm).symm.trans hb⟩
  ·rw [hb2 b hm] at hb;cases hb
 have hsub:∀b o,hfz b=some o→hb0 b=some o:=fun b o hb=>(hb1 b (hfN b o hb).2).trans (hfN b o hb).1
 have hs0:SR p ⟨hb0,fun b=>own b≠none⟩ σ hb0 own (Qec 0 ts) (loO asg 0 L) L.length (fun t=>vs.getD t undef) h:=by
  refine ⟨fun t=> ?_,fun k o hk=> ?_,fun a o ha=>⟨(hb3 a o ha).2,(hb3 a o ha).1⟩,fun a k ha=> ?_,fun _ _=>rfl,fun t ht=> ?_⟩
  ·rw [QcM,if_neg (by omega),Nat.sub_zero]
   rcases Nat.lt_or_ge t ts.length with h1 | h1
   ·exact (hvs.2 t h1).mono hsub (Nat.le_refl _) (fun _ _=>rfl)
   ·rw [List.getD_eq_getElem?_getD,List.getElem?_eq_none h1]
    exact .any _
  ·rw [Qk5,if_pos (Nat.zero_le _),Nat.sub_zero] at hk
   obtain ⟨x,hx,rfl⟩:=Option.map_eq_some_iff.1 hk
   obtain ⟨N,g1,g2,g3⟩:=hO k x hx
   exact ⟨(List.getElem?_eq_some_iff.1 hx).1,N,g1,g2,g3.mono hsub (Nat.le_refl _) (fun _ _=>rfl) (fun _ _=>rfl)⟩
  ·have h1:own a≠none:=by rw [ha];simp
   exact ⟨.inr h1,hb2 a h1,(hown a k ha).1,(hown a k ha).2⟩
  ·by_cases hm:own t=none
   ·exact .inl (by show hb0 t≠none;rw [hb1 t hm];exact ht)
   ·exact .inr (.inr hm)
 have hr1:=hr asg
 unfold VRun at hr1
 have hrun:=hr1 p _ σ _ _ _ h 0 hs0
 have hrun2:Run (Qr P n) P p c ⟨fun t=>vs.getD t undef,h,0⟩ (fun e s=>KK p ⟨hb0,fun b=>own b≠none⟩ (vloanM P rs pins L' asg r e) s.E s.h∧∀x∈pins,s.E x.1=vs.getD x.1 undef):=by
  unfold Run at hrun ⊢
  intro hfc
  obtain ⟨e,s',h1,h2,h3⟩:=hrun hfc
  exact ⟨e,s',h1,h2,h3,fun x hx=>Yj _ _ _ _ (hp1 x hx).1 h1⟩
 refine CallS.intro (hpr:=hpr) (rs:=rs) hf hb hc hfp hrs (Run.mono hrun2 ?_)
 rintro e s' ⟨⟨σ',hf',own',E,O,nx,h1,h2⟩,h0⟩
 have key:(∃(f:Nat→Nat) (us:List T),VRes P E O rs us∧Qds us=r∧(∀x∈pins,gE E x.1=ren f x.2)∧finO O f asg 0 L')→∃l,JW P s'.h s'.E rs=some l∧(fun v h'=>(∀b,h b≠none→own b=none→h' b=h b)∧(∃hf2,V σ hf2 L.length r v)∧∀k x,L'[k]? =some x→∃N,N.Nodup∧(∀a∈N,own a=some k)∧ObjR σ hfz L.length h' (.rowsN x.1 x.2 (asg k)) (σ k) N) (YL l) (if Za (YL l) then YB h s'.h else QaW p h s'.h):=by
  rintro ⟨f,us,g1,g2,g3,g4⟩
  obtain ⟨l,l1,l2⟩:=g1.run h1
  have g5:V σ' hf' nx (Qds us) (YL l):=by
   have hlen:=l2.1
   match us,l,l2,hlen with
   | [],[],g4,_=>exact g4.toTup
   | [t],[v],g4,_ =>
    obtain ⟨v',r',e,g6,_⟩:=g4.tail
    cases e
    exact g6
   | t::t'::us,v::v'::l,g4,_=>exact g4.toTup
   | [],_::_,_,hl=>cases hl
   | [_],[],_,hl=>cases hl
   | [_],_::_::_,_,hl=>cases hl
   | _::_::_,[],_,hl=>cases hl
   | _::_::_,[_],_,hl=>cases hl
  rw [g2] at g5
  have hbase:∀a o,hb0 a=some o→hf' a=some o:=fun a o ha=>by
   have e3:hf' a=hb0 a:=h1.base a (by show hb0 a≠none;rw [ha];simp)
   rw [e3,ha]
  have hσ:∀k,k<L.length→σ' (f k)=σ k:=fun k hk=>by
   obtain ⟨x,hx,hpk⟩:=hp2 k hk
   have e1:=(hp1 x hx).2
   have hjl:=(List.getElem?_eq_some_iff.1 e1).1
   have p1:=hvs.2 x.1 hjl
   rw [List.getD_eq_getElem?_getD,e1] at p1
   have p2:=h1.env x.1
   rw [g3 x hx,h0 x hx] at p2
   exact hpk.same p1 p2
  have hold:∀b,h b≠none→(if Za (YL l) then YB h s'.h else QaW p h s'.h) b=s'.h b:=fun b hb=>by
   split
   ·unfold YB
    cases hh:h b with
    | none=>exact absurd hh hb
    | some o=>rfl
   ·exact Qek (.inl hb)
  refine ⟨l,l1,fun b hb hbN=> ?_,⟨hf', .fz (hr0.R g5 _)⟩,fun k x hx=> ?_⟩
  ·rw [hold b hb]
   obtain ⟨o,ho⟩:=Option.ne_none_iff_exists'.1 hb
   rw [(h1.fro b o (hbase b o ((hb1 b hbN).trans ho))).1,ho]
  ·have hkl:k<L.length:=by rw [← hL];exact (List.getElem?_eq_some_iff.1 hx).1
   obtain ⟨N,n1,n2,n3⟩:=hO k _ (List.getElem?_eq_getElem hkl)
   have g6:=finO.at k g4 hx
   rw [Nat.zero_add] at g6
   obtain ⟨M,m1,m2,m3⟩:=h1.objAt g6
   rw [hσ k hkl] at m3
   have hMN:M=N:=by
    rcases n3.nameN with ⟨q1,rfl,q2⟩ | ⟨a,q1,rfl⟩
    ·rcases m3.nameN with ⟨_,rfl,_⟩ | ⟨a',q3,_⟩
     ·rfl
     ·rw [q1] at q3;cases q3
    ·rcases m3.nameN with ⟨q3,_,_⟩ | ⟨a',q3,rfl⟩
     ·rw [q1] at q3;cases q3
     ·rw [q1] at q3;rw [Option.some.inj q3]
   subst hMN
   exact ⟨M,n1,n2,m3.moveN (hcl x (List.mem_of_getElem? hx)) (fun a ha=>hold a (hown a k (n2 a ha)).1)⟩
 cases e with
 | normal=>unfold fin;exact key h2
 | ret=>unfold fin;exact key h2
 | exit id=>exact h2.elim
def ix : List Nat→Nat→Option Nat
 | [],_=>none
 | a::r,k=>if k=a then some 0 else (ix r k).map (· +1)
theorem QbC : ∀ {ks:List Nat} {k n:Nat},ix ks k=some n→ks[n]? =some k
 | [],k,n,h=>by cases h
 | a::r,k,n,h=>by
  simp only [ix] at h
  split at h
  ·rename_i e
   obtain rfl:=Option.some.inj h
   simp [e]
  ·obtain ⟨m,h1,rfl⟩:=Option.map_eq_some_iff.1 h
   simpa using QbC h1
theorem Ql1 : ∀ {ks:List Nat} {k n:Nat},ks.Nodup→ks[n]? =some k→ix ks k=some n
 | [],k,n,_,h=>by simp at h
 | a::r,k,0,_,h=>by
  obtain rfl:a=k:=by simpa using h
  simp [ix]
 | a::r,k,n+1,hn,h=>by
  have h1:r[n]? =some k:=by simpa using h
  have h2:=List.nodup_cons.1 hn
  have h3:¬k=a:=fun e=>h2.1 (e▸List.mem_of_getElem? h1)
  simp only [ix,if_neg h3,Ql1 h2.2 h1,Option.map_some]
def isR : Obj→Nat×List (List T)→Prop
 | .rows sz rows,x=>x=(sz,rows)
 | .rowsN sz rows _,x=>x=(sz,rows)
 | _,_=>False
def QlO : Obj→Nat×List (List T)→Obj
 | .rows _ _,x=> .rows x.1 x.2
 | .rowsN _ _ asg,x=> .rowsN x.1 x.2 asg
 | o,_=>o
theorem isR.toN {σ:Nat→Option Nat} {hf h:AH} {nx:Nat} {o:Obj} {x:Nat×List (List T)} {oa:Option Nat} {N:List Nat} (ho:isR o x) (h1:ObjR σ hf nx h o oa N):∃asg,ObjR σ hf nx h (.rowsN x.1 x.2 asg) oa N∧∀ {σ':Nat→Option Nat} {hf' h':AH} {nx':Nat} {y:Nat×List (List T)},ObjR σ' hf' nx' h' (.rowsN y.1 y.2 asg) oa N→ObjR σ' hf' nx' h' (QlO o y) oa N:=by
 cases h1 with
 | rows hk hodd hlen hfit hs =>
  obtain rfl:x=_:=ho
  refine ⟨_, .rowsN hk hodd hlen hfit hs,fun {σ' hf' h' nx' y} h2=> ?_⟩
  obtain ⟨sz',rows'⟩:=y
  cases h2 with
  | rowsN hk hodd hlen hfit hs=>exact .rows hk hodd hlen hfit hs
 | none sz =>
  obtain rfl:x=_:=ho
  refine ⟨_, .noneN sz,fun {σ' hf' h' nx' y} h2=> ?_⟩
  obtain ⟨sz',rows'⟩:=y
  cases h2 with
  | noneN sz=>exact ObjR.none _
 | rowsN hk hodd hlen hfit hs =>
  obtain rfl:x=_:=ho
  exact ⟨_, .rowsN hk hodd hlen hfit hs,fun h2=>h2⟩
 | noneN sz =>
  obtain rfl:x=_:=ho
  exact ⟨_, .noneN sz,fun h2=>h2⟩
 | cells hk hodd hv=>exact (show False from ho).elim
 | map hk hodd g1 g2=>exact (show False from ho).elim
def QjD : QC→List Nat→LO→List Obj→QC
 | O,k::ks,x::r,o::os=>QjD ((k,some (QlO o x))::O) ks r os
 | O,_,_,_=>O
theorem Qi9 (q:Nat):∀ {ks:List Nat} {L:LO} {os:List Obj} {O:QC},ks.Nodup→L.length=ks.length→os.length=ks.length→gO (QjD O ks L os) q=match ix ks q with
  | some n=>(match L[n]?,os[n]? with | some x,some o=>some (QlO o x) | _,_=>none)
  | none=>gO O q
 | [],L,os,O,_,hl,ho=>by
  cases L with
  | nil=>simp [QjD,ix]
  | cons x r=>cases hl
 | k::ks,[],os,O,_,hl,ho=>by cases hl
 | k::ks,x::r,[],O,_,hl,ho=>by cases ho
 | k::ks,x::r,o::os,O,hn,hl,ho=>by
  have hn2:=List.nodup_cons.1 hn
  rw [QjD,Qi9 q hn2.2 (by simpa using hl) (by simpa using ho)]
  simp only [ix]
  by_cases hq:q=k
  ·subst hq
   have:ix ks q=none:=by
    cases hx:ix ks q with
    | none=>rfl
    | some n=>exact absurd (List.mem_of_getElem? (QbC hx)) hn2.1
   simp [this,gO]
  ·rw [if_neg hq]
   cases hx:ix ks q with
   | none=>simp [gO,hq]
   | some n=>simp
def hosL (O:QC):List Nat→List Obj→LO→Prop
 | [],[],[]=>True
 | k::ks,o::os,x::L=>(gO O k=some o∧isR o x)∧hosL O ks os L
 | _,_,_=>False
theorem hosL.len {O:QC}:∀ {ks:List Nat} {os:List Obj} {L:LO},hosL O ks os L→L.length=ks.length∧os.length=ks.length
 | [],[],[],_=>⟨rfl,rfl⟩
 | k::ks,o::os,x::L,h=>by
  obtain ⟨h1,h2⟩:=hosL.len h.2
  exact ⟨by simp [h1],by simp [h2]⟩
 | [],_::_,_,h=>h.elim
 | [],[],_::_,h=>h.elim
 | _::_,[],_,h=>h.elim
 | _::_,_::_,[],h=>h.elim
theorem hosL.at {O:QC}:∀ {ks:List Nat} {os:List Obj} {L:LO},hosL O ks os L→∀n k:Nat,ks[n]? =some k→∃(o:Obj) (x:Nat×List (List T)),os[n]? =some o∧L[n]? =some x∧gO O k=some o∧isR o x
 | [],_,_,_,n,k,e=>by simp at e
 | k::ks,o::os,x::L,h,0,k',e=>by
  obtain rfl:k=k':=by simpa using e
  exact ⟨o,x,rfl,rfl,h.1.1,h.1.2⟩
 | k::ks,o::os,x::L,h,n+1,k',e=>by
  obtain ⟨o',x',e1,e2,e3⟩:=hosL.at h.2 n k' (by simpa using e)
  exact ⟨o',x',by simpa using e1,by simpa using e2,e3⟩
 | _::_,[],_,h,_,_,_=>h.elim
 | _::_,_::_,[],h,_,_,_=>h.elim
def PinsTo (pins:List (Nat×T)):Nat→Prop
 | 0=>True
 | n+1=>PinsTo pins n∧∃x∈pins,PinK n x.2
theorem PinsTo.at {pins:List (Nat×T)}:∀ {m:Nat},PinsTo pins m→∀k,k<m→∃x∈pins,PinK k x.2
 | 0,_,k,h=>by omega
 | m+1,h,k,hk=>by
  by_cases e:k=m
  ·subst e;exact h.2
  ·exact PinsTo.at h.1 k (by omega)
theorem OC.viaN {call:QQ} {P:Program} {E:Q7} {O O1:QC} {nx nx' k sz:Nat} {o:Oper} {t:T} {rows rows':List (List T)} {asg ks:List Nat} (hk:gO O k=some (.rowsN sz rows asg)) (hsc:scR rows) (hsc':scR rows')
  (h:OC call P E ((k,some (.rows sz rows))::O) nx o t ((k,some (.rows sz rows'))::O1) nx' ks):OC call P E O nx o t ((k,some (.rowsN sz rows' asg))::O1) nx' ks:=⟨h.1,fun q p h0 σ hf own Ea H hs hu hF=>by
 obtain ⟨N,hN1,hN2,h3⟩:=hs.objAt hk
 have hasg:asg= []:=by
  generalize σ k=oa at h3
  cases h3 with
  | noneN=>rfl
  | rowsN hh hodd hlen hfit hsl=>exact hsl.sc hsc.flat
 subst hasg
 have hs':SR p h0 σ hf own E ((k,some (.rows sz rows))::O) nx Ea H:=⟨hs.env,fun k2 o2 h2=>by
  by_cases e:k2=k
  ·subst e
   rw [Qj7] at h2
   obtain rfl:=Option.some.inj h2
   refine ⟨(hs.obj _ _ hk).1,N,hN1,hN2,?_⟩
   generalize σ k2=oa at h3 ⊢
   cases h3 with
   | noneN=>exact .none _
   | rowsN hh hodd hlen hfit hsl=>exact .rows hh hodd hlen hfit hsl
  ·rw [Qh2 _ (by simpa using e)] at h2
   exact hs.obj k2 o2 h2,hs.fro,hs.mine,hs.base,hs.dom⟩
 obtain ⟨v,h',σ',own',e1,e2,e3,e4,e5⟩:=h.2 q p h0 σ hf own Ea H hs' hu hF
 refine ⟨v,h',σ',own',e1,e2,e3,⟨e4.env,fun k2 o2 h2=> ?_,e4.fro,e4.mine,e4.base,e4.dom⟩,e5⟩
 by_cases e:k2=k
 ·subst e
  rw [Qj7] at h2
  obtain rfl:=Option.some.inj h2
  obtain ⟨f1,N',f2,f3,f4⟩:=e4.obj k2 _ (Qj7 _ _ _)
  refine ⟨f1,N',f2,f3,?_⟩
  generalize hσk:σ' k2=oa at f4 ⊢
  cases f4 with
  | none=>exact .noneN _
  | rows hh hodd hlen hfit hsl =>
   have:=hsl.sc hsc'.flat
   subst this
   exact .rowsN hh hodd hlen hfit hsl
 ·rw [Qh2 _ (by simpa using e)] at h2
  exact e4.obj k2 o2 (by rw [Qh2 _ (by simpa using e)];exact h2)⟩
section
variable {call : QQ} {P : Program} {E : Q7} {O : QC} {d : Option Tmp} {ty : TypeId} {ps : String} {af : Array Edge} {g : Option (Nat × Bool)} {nx : Nat}
theorem OC.callM {f:FuncId} {args:Array Operand} {tys:Array TypeId} {ts0 ts:List T} {ks:List Nat} {r:T} {L L':LO} {os:List Obj} {O':QC} (hb:Yo P f=true) (ha:VEvs E args.toList ts0) (hkn:ks.Nodup) (hkl:L.length=ks.length) (hol:os.length=ks.length) (hL':L'.length=ks.length) (hos:∀n k:Nat,ks[n]? =some k→∃(o:Obj) (x:Nat×List (List T)),os[n]? =some o∧L[n]? =some x∧gO O k=some o∧isR o x) (hcl0:∀x∈L,∀r∈x.2,∀t∈r,Clean t) (hcl:∀x∈L',∀r∈x.2,∀t∈r,Clean t) (hts:Qao (fun n=>ks.getD n 0) ts=ts0) (htl:Yq ks.length ts=true) (hr0:PRes r) (hO':QjD O ks L' os=O') (hp:LoanM call f L ts r L') :
  OC call P E O nx ⟨d, .call ⟨.value (.func f),args,tys⟩,ty,ps,af,g⟩ r O' nx ks:=⟨Nat.le_refl _,fun q p h0 σ hf own Ea h hs hu hF=>by
 subst hts
 subst hO'
 classical
 obtain ⟨vs,h1,h2⟩:=ha σ hf nx Ea hs.env
 have key:∀n:Nat,∃w:List Nat×List Nat,∀k:Nat,ks[n]? =some k→∃(o:Obj) (x:Nat×List (List T)),os[n]? =some o∧L[n]? =some x∧k<nx∧w.2.Nodup∧(∀a∈w.2,own a=some k)∧ObjR σ hf nx h (.rowsN x.1 x.2 w.1) (σ k) w.2∧∀ {σ':Nat→Option Nat} {hf' h':AH} {nx':Nat} {y:Nat×List (List T)},ObjR σ' hf' nx' h' (.rowsN y.1 y.2 w.1) (σ k) w.2→ObjR σ' hf' nx' h' (QlO o y) (σ k) w.2:=fun n=>by
  cases hk:ks[n]? with
  | none=>exact ⟨([],[]),fun k e=>by cases e⟩
  | some k =>
   obtain ⟨o,x,e1,e2,e3,e4⟩:=hos n k hk
   obtain ⟨hkx,N,n1,n2,n3⟩:=hs.obj k o e3
   obtain ⟨asg,g1,g2⟩:=e4.toN n3
   refine ⟨(asg,N),fun k' e=> ?_⟩
   obtain rfl:=Option.some.inj e
   exact ⟨o,x,e1,e2,hkx,n1,n2,g1,g2⟩
 obtain ⟨W,has⟩:=Classical.skolem.1 key
 have hgk:∀n k:Nat,ks[n]? =some k→ks.getD n 0=k:=fun n k e=>by rw [List.getD_eq_getElem?_getD,e];rfl
 have hl:VL (fun n=>σ (ks.getD n 0)) hf L.length ts vs:=by
  refine ⟨by have:=h2.1;rw [Zs,List.length_map] at this;exact this,fun i hi=> ?_⟩
  have h6:=h2.2 i (by rw [Zs,List.length_map];exact hi)
  refine V.ren (σ':=fun n=>σ (ks.getD n 0)) (nx':=L.length) (fun _ _=>rfl) h6 ?_ ?_
  ·rw [Zs]
   simp [List.getD_eq_getElem?_getD,hi]
  ·rw [YE,List.all_eq_true] at htl
   rw [hkl]
   refine htl _ ?_
   rw [List.getD_eq_getElem?_getD,List.getElem?_eq_getElem hi]
   exact List.getElem_mem hi
 have h6:=hp (fun n=>(W n).1) h q hf (fun n=>σ (ks.getD n 0)) (fun b=>(own b).bind fun k=>(ix ks k).bind fun n=>if b∈(W n).2 then some n else none) vs hF (fun b o hb=>⟨(hs.fro b o hb).1,by simp only [(hs.fro b o hb).2,Option.bind_none]⟩) (fun b n hb=>by
  obtain ⟨k,e1,e2⟩:=Option.bind_eq_some_iff.1 hb
  obtain ⟨m,e3,e4⟩:=Option.bind_eq_some_iff.1 e2
  split at e4
  ·obtain rfl:=Option.some.inj e4
   exact ⟨(hs.mine b k e1).2.2.1,by rw [hkl];exact (List.getElem?_eq_some_iff.1 (QbC e3)).1⟩
  ·cases e4) (fun n x hx=>by
  have hnl:n<ks.length:=by rw [← hkl];exact (List.getElem?_eq_some_iff.1 hx).1
  have hk:=List.getElem?_eq_getElem hnl
  obtain ⟨o,x',e1,e2,e3,e4,e5,e6,e7⟩:=has n _ hk
  obtain rfl:x=x':=by rw [hx] at e2;exact Option.some.inj e2
  refine ⟨(W n).2,e4,fun a ha=>by simp only [e5 a ha,Option.bind_some,Ql1 hkn hk,if_pos ha],?_⟩
  show ObjR _ hf _ h _ (σ (ks.getD n 0)) _
  rw [hgk n _ hk]
  exact e6.moveN (hcl0 x (List.mem_of_getElem? hx)) (fun _ _=>rfl)) hl
 unfold CallS at h6
 obtain ⟨v,h',k1,k2,k3,⟨hf2,k4⟩,k5⟩:=h6
 have hfree:∀b,h b≠none→(∀k n,own b=some k→ix ks k=some n→b∉(W n).2)→h' b=h b:=fun b hb hn=>k3 b hb (by
  cases ho:own b with
  | none=>rfl
  | some k =>
   simp only [Option.bind_some]
   cases hx:ix ks k with
   | none=>rfl
   | some n=>simp only [Option.bind_some];rw [if_neg (hn k n ho hx)])
 refine ⟨v,h',σ,own,by simp only [QF,X.calls hb h1,k1],k2,fun _ _=>rfl,⟨hs.env,fun k' o hk'=> ?_,fun b o hb=> ?_,fun b k' hb=> ?_,hs.base,fun t ht=> ?_⟩, .fz (hr0.R k4 _),fun b hb hnk=>hfree b hb (fun k n e e2=>absurd e (hnk k (List.mem_of_getElem? (QbC e2)))),fun b k' e=> .inl e⟩
 ·rw [Qi9 k' hkn hL' hol] at hk'
  cases hx:ix ks k' with
  | none =>
   rw [hx] at hk'
   obtain ⟨m1,N2,m2,m3,m4⟩:=hs.obj k' o hk'
   exact ⟨m1,N2,m2,m3,m4.mono (fun _ _ e=>e) (Nat.le_refl _) (fun _ _=>rfl) (fun b hb=>hfree b (hs.mine b k' (m3 b hb)).2.2.1 (fun k n e e2=>by rw [m3 b hb] at e;obtain rfl:=Option.some.inj e;rw [hx] at e2;cases e2))⟩
  | some n =>
   rw [hx] at hk'
   have hk:=QbC hx
   obtain ⟨o1,x,e1,e2,e3,e4,e5,e6,e7⟩:=has n k' hk
   have hnl:=(List.getElem?_eq_some_iff.1 hk).1
   have e8:=List.getElem?_eq_getElem (show n<L'.length by rw [hL'];exact hnl)
   simp only [e8,e1] at hk'
   obtain rfl:=Option.some.inj hk'
   obtain ⟨N',n1,n2,n3⟩:=k5 n _ e8
   simp only [hgk n _ hk] at n3
   have hNN:N'=(W n).2:=by
    rcases e6.nameN with ⟨q1,q3,q2⟩ | ⟨a,q1,q2⟩
    ·rcases n3.nameN with ⟨_,rfl,_⟩ | ⟨a',q4,_⟩
     ·exact q3.symm
     ·rw [q1] at q4;cases q4
    ·rcases n3.nameN with ⟨q3,_,_⟩ | ⟨a',q3,rfl⟩
     ·rw [q1] at q3;cases q3
     ·rw [q1] at q3;rw [q2,Option.some.inj q3]
   rw [hNN] at n3
   exact ⟨e3,(W n).2,e4,e5,e7 (n3.moveN (hcl _ (List.mem_of_getElem? e8)) (fun _ _=>rfl))⟩
 ·obtain ⟨m1,m2⟩:=hs.fro b o hb
  refine ⟨?_,m2⟩
  rw [hfree b (by rw [m1];simp) (fun k n e _=>by rw [m2] at e;cases e)]
  exact m1
 ·obtain ⟨m1,m2,m3,m4⟩:=hs.mine b k' hb
  refine ⟨m1,m2,?_,m4⟩
  by_cases hbm:∃n,ix ks k'=some n∧b∈(W n).2
  ·obtain ⟨n,hx,hbm⟩:=hbm
   have hk:=QbC hx
   have hnl:=(List.getElem?_eq_some_iff.1 hk).1
   have e8:=List.getElem?_eq_getElem (show n<L'.length by rw [hL'];exact hnl)
   obtain ⟨o1,x,e1,e2,e3,e4,e5,e6,e7⟩:=has n k' hk
   obtain ⟨N',n1,n2,n3⟩:=k5 n _ e8
   simp only [hgk n _ hk] at n3
   have hNN:N'=(W n).2:=by
    rcases e6.nameN with ⟨q1,q3,q2⟩ | ⟨a,q1,q2⟩
    ·rcases n3.nameN with ⟨_,rfl,_⟩ | ⟨a',q4,_⟩
     ·exact q3.symm
     ·rw [q1] at q4;cases q4
    ·rcases n3.nameN with ⟨q3,_,_⟩ | ⟨a',q3,rfl⟩
     ·rw [q1] at q3;cases q3
     ·rw [q1] at q3;rw [q2,Option.some.inj q3]
   exact n3.namesN b (by rw [hNN];exact hbm)
  ·rw [hfree b m3 (fun k n e e2 hm=>hbm ⟨n,by rw [hb] at e;rw [Option.some.inj e];exact e2,hm⟩)]
   exact m3
 ·rcases k2 t ht with e | e
  ·exact hs.dom t e
  ·exact .inr (hu t e)⟩
theorem OC.callL {f:FuncId} {args:Array Operand} {tys:Array TypeId} {ts0 ts:List T} (ks:List Nat) {r:T} {L:LO} (L':LO) (os:List Obj) (hb:Yo P f=true) (ha:VEvs E args.toList ts0) (hkn:ks.Nodup) (hL':L'.length=ks.length) (hos:hosL O ks os L) (hcl0:∀x∈L,∀r∈x.2,∀t∈r,Clean t) (hcl:∀x∈L',∀r∈x.2,∀t∈r,Clean t) (hts:Qao (fun n=>ks.getD n 0) ts=ts0) (htl:Yq ks.length ts=true) (hr0:PRes r) (hp:LoanM call f L ts r L') :
  OC call P E O nx ⟨d, .call ⟨.value (.func f),args,tys⟩,ty,ps,af,g⟩ r (QjD O ks L' os) nx ks:=OC.callM hb ha hkn hos.len.1 hos.len.2 hL' hos.at hcl0 hcl hts htl hr0 Y hp
end
section
variable {α : Type}
def mkL (f:Nat→α→α) (w:α→Nat):Nat→List α→List α
 | _,[]=> []
 | k,x::r=>f k x::mkL f w (k+w x) r
def Jl (w:α→Nat):Nat→List α→Nat
 | k,[]=>k
 | k,x::r=>Jl w (k+w x) r
variable {f : Nat → α → α} {w : α → Nat}
theorem QaJ : ∀(k:Nat) (l:List α),(mkL f w k l).length=l.length
 | k,[]=>rfl
 | k,x::r=>by simp only [mkL,List.length_cons,QaJ (k+w x) r]
theorem QgR : ∀(k:Nat) (l m:List α),Jl w k (l++m)=Jl w (Jl w k l) m
 | k,[],m=>rfl
 | k,x::r,m=>by simp only [List.cons_append,Jl,QgR (k+w x) r m]
theorem Qi3 : ∀(k:Nat) (l m:List α),mkL f w k (l++m)=mkL f w k l++mkL f w (Jl w k l) m
 | k,[],m=>rfl
 | k,x::r,m=>by simp only [List.cons_append,mkL,Jl,Qi3 (k+w x) r m]
theorem Qkp : ∀(k:Nat) (l:List α),k≤Jl w k l
 | k,[]=>Nat.le_refl _
 | k,x::r=>Nat.le_trans (Nat.le_add_right _ _) (Qkp (k+w x) r)
theorem Qk8 {l:List α} {i k:Nat} {x:α} (h:l[i]? =some x):Jl w k (l.take (i+1))=Jl w k (l.take i)+w x:=by
 rw [List.take_add_one,h,Option.toList_some,QgR]
 rfl
theorem QhR (k:Nat) (l:List α) (i:Nat):Jl w k (l.take i)≤Jl w k l:=by
 have h:Jl w k (l.take i++l.drop i)=Jl w (Jl w k (l.take i)) (l.drop i):=QgR _ _ _
 rw [List.take_append_drop] at h
 rw [h]
 exact Qkp _ _
def mkT (f:Nat→α→α) (w:α→Nat) (k:Nat) (l:List α) (i:Nat):List α:=mkL f w k (l.take i)++l.drop i
theorem Qem (k:Nat) (l:List α) (i:Nat):(mkT f w k l i).length=l.length:=by
 unfold mkT
 rw [List.length_append,QaJ,List.length_take,List.length_drop];omega
theorem Qmd {k:Nat} {l:List α} {i:Nat} {x:α} (hi:i<l.length) (h:(mkT f w k l i)[i]? =some x):l[i]? =some x:=by
 unfold mkT at h
 rw [List.getElem?_append_right (by rw [QaJ,List.length_take];omega),QaJ,List.length_take,Nat.min_eq_left (by omega),Nat.sub_self,List.getElem?_drop,Nat.add_zero] at h
 exact h
theorem QlV {k:Nat} {l:List α} {i:Nat} {x y:α} (h:l[i]? =some x) (hy:y=f (Jl w k (l.take i)) x):(mkT f w k l i).set i y=mkT f w k l (i+1):=by
 have hi:=(List.getElem?_eq_some_iff.1 h).1
 subst hy
 unfold mkT
 rw [List.set_append_right _ _ (by rw [QaJ,List.length_take];omega),QaJ,List.length_take,Nat.min_eq_left (by omega),Nat.sub_self,List.drop_eq_getElem_cons hi,List.set_cons_zero,List.take_add_one,h,Option.toList_some,Qi3]
 simp [mkL]
theorem QjS {k:Nat} {l:List α} {i:Nat} (h:¬i<l.length):mkT f w k l i=mkL f w k l:=by
 unfold mkT
 rw [List.take_of_length_le (by omega),List.drop_of_length_le (by omega),List.append_nil]
theorem QhK (hw:∀k x,w (f k x)=w x) (hf:∀k x,f k (f k x)=f k x):∀(k:Nat) (l:List α),mkL f w k l=mkL f w k (mkL f w k l)
 | k,[]=>rfl
 | k,x::r=>by simp only [mkL,hw,hf,← QhK hw hf (k+w x) r]
theorem QhE (hw:∀k x,w (f k x)=w x):∀(k k2:Nat) (l:List α),Jl w k (mkL f w k2 l)=Jl w k l
 | k,k2,[]=>rfl
 | k,k2,x::r=>by simp only [mkL,Jl,hw,QhE hw (k+w x) (k2+w x) r]
theorem Qi1 (hw:∀x,1≤w x):∀(k:Nat) (l:List α),k+l.length≤Jl w k l
 | k,[]=>Nat.le_refl _
 | k,x::r=>by
  have h1:=Qi1 hw (k+w x) r
  have h2:=hw x
  simp only [Jl,List.length_cons]
  omega
theorem Qk4 {z:α→Nat} {c:Nat} (hw:∀x,w x≤c*(1+z x)):∀(k:Nat) (l:List α),Jl w k l≤k+c*zL z l
 | k,[]=>Nat.le_add_right _ _
 | k,x::r=>by
  have h1:=Qk4 hw (k+w x) r
  have h2:=hw x
  have e:zL z (x::r)=(1+z x)+zL z r:=by simp only [zL,Qag,List.length_cons];omega
  rw [e,Nat.mul_add]
  simp only [Jl]
  omega
end
theorem B.storeW {call:QQ} {P:Program} {E:Q7} {O:QC} {nx:Nat} {d:Option Tmp} {ty tt:TypeId} {ps:String} {af:Array Edge} {g:Option (Nat×Bool)} {x y:Operand} {t:T} {k:Nat} {ts us:List T} (hx:VEv E x (.op k 0)) (hy:VEv E y t) (ht:t≠ .any) (hk:gO O k=some (.cells ts)) (hus:Q9 t=us) (hl:us.length=ts.length) (hif:(P.info? tt).isSome=true) (hn:P.cellsOf tt=us.length) (hc:∀a∈us,Jp a=true) :
  OC call P E O nx ⟨d, .store tt x y,ty,ps,af,g⟩ .any ((k,some (.cells us))::O) nx [k]:=B.storeO hx hy ht hk hus (by omega) hif hn hc (by simp [spl,hl])
section
variable {call : QQ} {P : Program} {E : Q7} {O : QC} {nx : Nat} {S : AX → Q7 → QC → Nat → Prop} {u v : Code} {c : Tmp}
theorem ct (h:gE E c= .bool true) (hx:VRun call P u E O nx S):VRun call P (.cond (.tmp c) u v) E O nx S:=VRun.cond (VEv.tmp h) (fun _=>hx) (fun e=>absurd e (by decide))
theorem cf (h:gE E c= .bool false) (hx:VRun call P v E O nx S):VRun call P (.cond (.tmp c) u v) E O nx S:=VRun.cond (VEv.tmp h) (fun e=>absurd e (by decide)) (fun _=>hx)
theorem ck {b:Bool} (hb:b=true) (h:gE E c= .bool b) (hx:VRun call P u E O nx S):VRun call P (.cond (.tmp c) u v) E O nx S:=ct (hb▸h) hx
theorem cg {b:Bool} (hb:b=false) (h:gE E c= .bool b) (hx:VRun call P v E O nx S):VRun call P (.cond (.tmp c) u v) E O nx S:=cf (hb▸h) hx
theorem vn : VEvs E [] []:= .nil
theorem ln : LendL O [] []:=LendL.nil
theorem ZH : ∀ {ts:List T},ts.all JU=true→LendL O ts ts
 | [],_=>LendL.nil
 | t::r,h=>by
  simp only [List.all_cons,Bool.and_eq_true] at h
  exact LendL.cons (Lend.pl h.1) (ZH h.2)
def Qmn : List Nat→Bool
 | []=>true
 | a::r=> !(r.contains a) && Qmn r
theorem nd : ∀ {l:List Nat},Qmn l=true→l.Nodup
 | [],_=>List.nodup_nil
 | a::r,h=>by
  simp only [Qmn,Bool.and_eq_true] at h
  exact List.nodup_cons.2 ⟨by simpa using h.1,nd h.2⟩
end
section
variable {call : QQ} {P : Program} {E : Q7} {O : QC} {d : Option Tmp} {ty tt xt : TypeId} {ps : String} {af : Array Edge} {g : Option (Nat × Bool)} {x y : Operand} {kk : IntKind} {a b : Int} {m n : Nat}
theorem xls (hx:VEv E x (.int kk a)) (hy:VEv E y (.int kk b)):OF call P E ⟨d, .binOp .lss tt x y xt,ty,ps,af,g⟩ (.bool (decide (a<b))):=B.lss hx hy Y
theorem xle (hx:VEv E x (.int kk a)) (hy:VEv E y (.int kk b)):OF call P E ⟨d, .binOp .leq tt x y xt,ty,ps,af,g⟩ (.bool (decide (a≤b))):=B.leq hx hy Y
theorem xgt (hx:VEv E x (.int kk a)) (hy:VEv E y (.int kk b)):OF call P E ⟨d, .binOp .gtr tt x y xt,ty,ps,af,g⟩ (.bool (decide (b<a))):=B.gtr hx hy Y
theorem xge (hx:VEv E x (.int kk a)) (hy:VEv E y (.int kk b)):OF call P E ⟨d, .binOp .geq tt x y xt,ty,ps,af,g⟩ (.bool (decide (b≤a))):=B.geq hx hy Y
theorem YD (hx:VEv E x (.int kk a)) (hy:VEv E y (.int kk b)):OF call P E ⟨d, .binOp .eql tt x y xt,ty,ps,af,g⟩ (.bool (decide (a=b))):=B.eql hx hy Y
theorem xne (hx:VEv E x (.int kk a)) (hy:VEv E y (.int kk b)):OF call P E ⟨d, .binOp .neq tt x y xt,ty,ps,af,g⟩ (.bool (!decide (a=b))):=B.neq hx hy Y
theorem Zg (hx:VEv E x (tN m)) (hy:VEv E y (tN n)):OF call P E ⟨d, .binOp .lss tt x y xt,ty,ps,af,g⟩ (.bool (decide (m<n))):=B.lss hx hy (Zd (by omega))
theorem Qjp (hx:VEv E x (tN m)) (hy:VEv E y (tN n)):OF call P E ⟨d, .binOp .eql tt x y xt,ty,ps,af,g⟩ (.bool (decide (m=n))):=B.eql hx hy (Zd (by omega))
theorem Qhk (hx:VEv E x (tN m)) (hy:VEv E y (tN n)):OF call P E ⟨d, .binOp .neq tt x y xt,ty,ps,af,g⟩ (.bool (!decide (m=n))):=B.neq hx hy (congrArg (!·) (Zd (by omega)))
theorem Q8 {b1:Bool} (hx:VEv E x (.bool b1)):OF call P E ⟨d, .unOp .not tt x,ty,ps,af,g⟩ (.bool (!b1)):=B.not hx Y
theorem QB (hx:VEv E x (tN m)) (hy:VEv E y (.int .i64 1)) (h:m+1<9223372036854775808):OF call P E ⟨d, .binOp .add tt x y xt,ty,ps,af,g⟩ (tN (m+1)):=B.add hx hy (by rw [Qq (by omega)];omega)
theorem xcv {k0 kd:IntKind} {st dt:TypeId} {m:Int} (hx:VEv E x (.int k0 a)) (h1:P.underlying st=some (.int k0)) (h2:P.underlying dt=some (.int kd)) (he:kd.wrap a=m):OF call P E ⟨d, .convert st dt x,ty,ps,af,g⟩ (.int kd m):=he▸OF.convI hx h1 h2
theorem J6 {s:ByteArray} (hx:VEv E x (.str s)) (hy:VEv E y (tN m)) (hi:m<s.size) (hu:P.underlying tt=some .string):OF call P E ⟨d, .index tt x y,ty,ps,af,g⟩ (.int .u8 (Qw s m)):=B.index hx hy Y hi hu (YP hi)
end
section
variable {call : QQ} {P : Program} {ops : Array Oper} {l : List Oper} {E : Q7} {O : QC} {nx : Nat} {K : Q7 → QC → Nat → Prop} {d1 a : Nat} {d2 : Option Tmp} {ty1 ty2 tt tt2 : TypeId} {ps1 ps2 : String} {af1 af2 : Array Edge} {j k o off : Nat} {us : List T}
theorem Qel (E:Q7) (n:Nat) (t:T):gE ((n,t)::E) n=t:=by simp [gE]
theorem lf (t:T) (h:gE E a= .op k o) (fa:∀k o,Qh P tt (.pointer (some ⟨k,o,none⟩)) j=some (.pointer (some ⟨k,o+off,none⟩))) (hk:gO O k=some (.cells us)) (ht:us[o+off]? =some t) (hst:Qx P tt2=some false) (hK:VRunO call P ops l (pE ((d1, .op k (o+off))::E) d2 t) O nx K) :
  VRunO call P ops (⟨some d1, .fieldAddr tt (.tmp a) j,ty1,ps1,af1,none⟩::⟨d2, .load tt2 (.tmp d1),ty2,ps2,af2,none⟩::l) E O nx K:=fO (OF.fieldAddrO (VEv.tmp h) fa) (lO (OL.loadO1 (VEv.tmp (Qel _ _ _)) hk ht hst) hK)
theorem lr (t:T) (h:gE E a= .rp us) (hn:off≤us.length) (fa:∀k o,Qh P tt (.pointer (some ⟨k,o,none⟩)) j=some (.pointer (some ⟨k,o+off,none⟩))) (ht:(us.drop off)[0]? =some t) (hst:Qx P tt2=some false) (hK:VRunO call P ops l (pE ((d1, .rp (us.drop off))::E) d2 t) O nx K) :
  VRunO call P ops (⟨some d1, .fieldAddr tt (.tmp a) j,ty1,ps1,af1,none⟩::⟨d2, .load tt2 (.tmp d1),ty2,ps2,af2,none⟩::l) E O nx K:=fO (B.fieldAddrR (VEv.tmp h) hn fa Y) (lO (OL.loadR1 (VEv.tmp (Qel _ _ _)) ht hst) hK)
variable {i q : Nat} {w b : Bool} {t0 : T}
theorem Yl (t:T) (hb:b=w) (hd:(ops[i]?).bind (·.dst)=some q) (hq:gE E q= .bool b) (hne:(q == d1)=false) (h:gE E a= .op k o) (fa:∀k o,Qh P tt (.pointer (some ⟨k,o,none⟩)) j=some (.pointer (some ⟨k,o+off,none⟩))) (hk:gO O k=some (.cells us)) (ht:us[o+off]? =some t) (hst:Qx P tt2=some false) (hK:VRunO call P ops l (pE ((d1, .op k (o+off))::E) d2 t) O nx K) :
  VRunO call P ops (⟨some d1, .fieldAddr tt (.tmp a) j,ty1,ps1,af1,some (i,w)⟩::⟨d2, .load tt2 (.tmp d1),ty2,ps2,af2,some (i,w)⟩::l) E O nx K:=gF hb hd hq (OF.fieldAddrO (VEv.tmp h) fa) (gL hb hd ((QiE E hne _).trans hq) (OL.loadO1 (VEv.tmp (Qel _ _ _)) hk ht hst) hK)
theorem glr (t:T) (hb:b=w) (hd:(ops[i]?).bind (·.dst)=some q) (hq:gE E q= .bool b) (hne:(q == d1)=false) (h:gE E a= .rp us) (hn:off≤us.length) (fa:∀k o,Qh P tt (.pointer (some ⟨k,o,none⟩)) j=some (.pointer (some ⟨k,o+off,none⟩))) (ht:(us.drop off)[0]? =some t) (hst:Qx P tt2=some false) (hK:VRunO call P ops l (pE ((d1, .rp (us.drop off))::E) d2 t) O nx K) :
  VRunO call P ops (⟨some d1, .fieldAddr tt (.tmp a) j,ty1,ps1,af1,some (i,w)⟩::⟨d2, .load tt2 (.tmp d1),ty2,ps2,af2,some (i,w)⟩::l) E O nx K:=gF hb hd hq (B.fieldAddrR (VEv.tmp h) hn fa Y) (gL hb hd ((QiE E hne _).trans hq) (OL.loadR1 (VEv.tmp (Qel _ _ _)) ht hst) hK)
def Qkk (i:Nat) (w:Bool) (q:Nat):List Oper→Bool
 | []=>true
 | o::r=>(match o.guard with | some (a,b)=>Nat.beq a i && (b == w) | none=>false) && (match o.dst with | some d=> !(Nat.beq d q) | none=>true) && Qkk i w q r
def Qls (E:Q7):List Oper→Q7
 | []=>E
 | o::r=>Qls (pE E o.dst (.tup [])) r
theorem QnO (hd:(ops[i]?).bind (·.dst)=some q) (hv:∀(dd:Option Tmp) (op:Op) (ty:TypeId) (ps:String) (af:Array Edge) (E:Q7),gE E q=t0→VWant ops E ⟨dd,op,ty,ps,af,some (i,w)⟩ false) {l2:List Oper} (l1:List Oper):∀(E:Q7),Qkk i w q l1=true→gE E q=t0→VRunO call P ops l2 (Qls E l1) O nx K→VRunO call P ops (l1++l2) E O nx K:=by
 induction l1 with
 | nil=>exact fun E _ _ hK=>hK
 | cons o r ih =>
  intro E hc hq hK
  obtain ⟨dd,op,ty,ps,af,g⟩:=o
  simp only [Qkk,Bool.and_eq_true] at hc
  obtain ⟨⟨h1,h2⟩,h3⟩:=hc
  cases g with
  | none=>cases h1
  | some g =>
   obtain ⟨a,b⟩:=g
   simp only [Bool.and_eq_true] at h1
   have e1:a=i:=Nat.eq_of_beq_eq_true h1.1
   have e2:b=w:=by simpa using h1.2
   subst e1
   subst e2
   refine VRunO.off (hv _ _ _ _ _ _ hq) (ih _ h3 ?_ hK)
   cases dd with
   | none=>exact hq
   | some d =>
    refine (QiE E (d:=d) (t:=q) ?_ _).trans hq
    rw [beq_eq_false_iff_ne]
    rintro rfl
    simp at h2
theorem QA (m i:Nat) (w:Bool) (q:Nat) (hb:b= !w) (hd:(ops[i]?).bind (·.dst)=some q) (hq:gE E q= .bool b) (hc:Qkk i w q (l.take m)=true) (hK:VRunO call P ops (l.drop m) (Qls E (l.take m)) O nx K):VRunO call P ops l E O nx K:=by
 rw [← List.take_append_drop m l]
 exact QnO hd (fun _ _ _ _ _ _ h=>VWant.not hd h hb) _ _ hc hq hK
theorem Qad (m i:Nat) (w:Bool) (q:Nat) (hd:(ops[i]?).bind (·.dst)=some q) (hq:gE E q= .tup []) (hc:Qkk i w q (l.take m)=true) (hK:VRunO call P ops (l.drop m) (Qls E (l.take m)) O nx K):VRunO call P ops l E O nx K:=by
 rw [← List.take_append_drop m l]
 exact QnO hd (fun _ _ _ _ _ _ h=>VWant.undef hd h) _ _ hc hq hK
end
structure D.Grid where
 Rows:Int
 Cols:Int
 Cells:ByteArray
def QjV : AK D.Grid:=AK.iso (AK.pair (AK.int .i64) (AK.pair (AK.int .i64) AK.string)) (fun x=>(x.Rows,x.Cols,x.Cells))
def QkY (x:D.Grid):Prop:=((Lit.int .i64 x.Rows).wf=true)∧((Lit.int .i64 x.Cols).wf=true)∧(x.Cells.size≤maxLen)
structure D.Step where
 Kind:Int
 Word:ByteArray
 A:Int
 B:Int
def Qj5 : AK D.Step:=AK.iso (AK.pair (AK.int .i64) (AK.pair AK.string (AK.pair (AK.int .i64) (AK.int .i64)))) (fun x=>(x.Kind,x.Word,x.A,x.B))
def QiJ (x:D.Step):Prop:=((Lit.int .i64 x.Kind).wf=true)∧(x.Word.size≤maxLen)∧((Lit.int .i64 x.A).wf=true)∧((Lit.int .i64 x.B).wf=true)
structure D.Clue where
 Sense:Int
 Play:_root_.List D.Step
def Qkm : AK D.Clue:=AK.iso (AK.pair (AK.int .i64) (AK.slice Qj5)) (fun x=>(x.Sense,x.Play))
def Qi6 (x:D.Clue):Prop:=((Lit.int .i64 x.Sense).wf=true)∧((x.Play.length≤maxLen∧∀y∈x.Play,QiJ y))
structure D.Puzzle where
 Grid:D.Grid
 Clues:_root_.List D.Clue
 Seals:_root_.List Int
 Salt:Int
def QgW : AK D.Puzzle:=AK.iso (AK.pair QjV (AK.pair (AK.slice Qkm) (AK.pair (AK.slice (AK.int .i64)) (AK.int .i64)))) (fun x=>(x.Grid,x.Clues,x.Seals,x.Salt))
def Qgr (x:D.Puzzle):Prop:=(QkY x.Grid)∧((x.Clues.length≤maxLen∧∀y∈x.Clues,Qi6 y))∧((x.Seals.length≤maxLen∧∀y∈x.Seals,(Lit.int .i64 y).wf=true))∧((Lit.int .i64 x.Salt).wf=true)
structure D.Issue where
 Number:Int
 Puzzle:D.Puzzle
 Fill:ByteArray
 Open:Int
 Close:Int
def Qkd : AK D.Issue:=AK.iso (AK.pair (AK.int .i64) (AK.pair QgW (AK.pair AK.string (AK.pair (AK.int .i64) (AK.int .i64))))) (fun x=>(x.Number,x.Puzzle,x.Fill,x.Open,x.Close))
def Qiu (x:D.Issue):Prop:=((Lit.int .i64 x.Number).wf=true)∧(Qgr x.Puzzle)∧(x.Fill.size≤maxLen)∧((Lit.int .i64 x.Open).wf=true)∧((Lit.int .i64 x.Close).wf=true)
structure D.Slot where
 Number:Int
 Down:Bool
 Cell:Int
 Length:Int
theorem Qof : YO Tryz.prog 23 QjV QkY:=Ji (YC (P:=Tryz.prog) (t:=23) (fun x:D.Grid=>(x.Rows,x.Cols,x.Cells)) (fun x=>⟨x.1,x.2.1,x.2.2⟩) (fun _=>rfl) Tryz.underlying23 (by kernel_rfl) (Zc Y (by kernel_rfl) (ZF (k:= .i64) Tryz.underlying3) (Zc Y (by kernel_rfl) (ZF (k:= .i64) Tryz.underlying3) (Jk Y (by kernel_rfl) (Qai Tryz.underlying9))))) (fun _ h=>h)
theorem QnR : YO Tryz.prog 110 Qj5 QiJ:=Ji (YC (P:=Tryz.prog) (t:=110) (fun x:D.Step=>(x.Kind,x.Word,x.A,x.B)) (fun x=>⟨x.1,x.2.1,x.2.2.1,x.2.2.2⟩) (fun _=>rfl) Tryz.underlying110 (by kernel_rfl) (Zc Y (by kernel_rfl) (ZF (k:= .i64) Tryz.underlying3) (Zc Y (by kernel_rfl) (Qai Tryz.underlying9) (Zc Y (by kernel_rfl) (ZF (k:= .i64) Tryz.underlying3) (Jk Y (by kernel_rfl) (ZF (k:= .i64) Tryz.underlying3)))))) (fun _ h=>h)
theorem Qoj : YO Tryz.prog 79 Qkm Qi6:=Ji (YC (P:=Tryz.prog) (t:=79) (fun x:D.Clue=>(x.Sense,x.Play)) (fun x=>⟨x.1,x.2⟩) (fun _=>rfl) Tryz.underlying79 (by kernel_rfl) (Zc Y (by kernel_rfl) (ZF (k:= .i64) Tryz.underlying3) (Jk Y (by kernel_rfl) (QaE Tryz.underlying77 (by kernel_rfl) (of_decide_eq_true (by kernel_rfl)) QnR)))) (fun _ h=>h)
theorem Qn9 : YO Tryz.prog 27 QgW Qgr:=Ji (YC (P:=Tryz.prog) (t:=27) (fun x:D.Puzzle=>(x.Grid,x.Clues,x.Seals,x.Salt)) (fun x=>⟨x.1,x.2.1,x.2.2.1,x.2.2.2⟩) (fun _=>rfl) Tryz.underlying27 (by kernel_rfl) (Zc Y (by kernel_rfl) Qof (Zc Y (by kernel_rfl) (QaE Tryz.underlying24 (by kernel_rfl) (of_decide_eq_true (by kernel_rfl)) Qoj) (Zc Y (by kernel_rfl) (QaE Tryz.underlying25 (by kernel_rfl) (of_decide_eq_true (by kernel_rfl)) (ZF (k:= .i64) Tryz.underlying3)) (Jk Y (by kernel_rfl) (ZF (k:= .i64) Tryz.underlying3)))))) (fun _ h=>h)
theorem Qob : YO Tryz.prog 44 Qkd Qiu:=Ji (YC (P:=Tryz.prog) (t:=44) (fun x:D.Issue=>(x.Number,x.Puzzle,x.Fill,x.Open,x.Close)) (fun x=>⟨x.1,x.2.1,x.2.2.1,x.2.2.2.1,x.2.2.2.2⟩) (fun _=>rfl) Tryz.underlying44 (by kernel_rfl) (Zc Y (by kernel_rfl) (ZF (k:= .i64) Tryz.underlying3) (Zc Y (by kernel_rfl) Qn9 (Zc Y (by kernel_rfl) (Qai Tryz.underlying9) (Zc Y (by kernel_rfl) (ZF (k:= .i64) Tryz.underlying3) (Jk Y (by kernel_rfl) (ZF (k:= .i64) Tryz.underlying3))))))) (fun _ h=>h)
theorem sz2 : Tryz.prog.cellsOf 2=1:=by kernel_rfl
theorem QX : Qx Tryz.prog 3=some false:=by kernel_rfl
theorem Zl : Tryz.prog.cellsOf 3=1:=by kernel_rfl
theorem YK : (Tryz.prog.info? 3).isSome=true:=by kernel_rfl
theorem zo3 : Ze Tryz.prog 3=some (.int .i64 0):=by kernel_rfl
theorem zc3 : closedV (.int .i64 0)=true:=by kernel_rfl
theorem st4 : Qx Tryz.prog 4=some false:=by kernel_rfl
theorem sz4 : Tryz.prog.cellsOf 4=1:=by kernel_rfl
theorem if4 : (Tryz.prog.info? 4).isSome=true:=by kernel_rfl
theorem zo4 : Ze Tryz.prog 4=some (.bool false):=by kernel_rfl
theorem zc4 : closedV (.bool false)=true:=by kernel_rfl
theorem st5 : Qx Tryz.prog 5=some false:=by kernel_rfl
theorem sz5 : Tryz.prog.cellsOf 5=1:=by kernel_rfl
theorem if5 : (Tryz.prog.info? 5).isSome=true:=by kernel_rfl
theorem zo5 : Ze Tryz.prog 5=some (.int .u8 0):=by kernel_rfl
theorem Ye : Qx Tryz.prog 9=some false:=by kernel_rfl
theorem sz9 : Tryz.prog.cellsOf 9=1:=by kernel_rfl
theorem if9 : (Tryz.prog.info? 9).isSome=true:=by kernel_rfl
theorem zo9 : Ze Tryz.prog 9=some (.string ByteArray.empty):=by kernel_rfl
theorem Qnh : Qx Tryz.prog 23=some true:=by kernel_rfl
theorem QmZ : Tryz.prog.cellsOf 23=3:=by kernel_rfl
theorem Qn3 : (Tryz.prog.info? 23).isSome=true:=by kernel_rfl
theorem Qnx : Qx Tryz.prog 24=some false:=by kernel_rfl
theorem Qoa : Tryz.prog.cellsOf 24=1:=by kernel_rfl
theorem Qn4 : (Tryz.prog.info? 24).isSome=true:=by kernel_rfl
theorem QcB : Qx Tryz.prog 25=some false:=by kernel_rfl
theorem QfR : Tryz.prog.cellsOf 25=1:=by kernel_rfl
theorem QiD : (Tryz.prog.info? 25).isSome=true:=by kernel_rfl
theorem Qnt : Ze Tryz.prog 25=some (.slice none 0 0):=by kernel_rfl
theorem Qnr : Qx Tryz.prog 27=some true:=by kernel_rfl
theorem Qmz : Tryz.prog.cellsOf 27=6:=by kernel_rfl
theorem Qoi : (Tryz.prog.info? 27).isSome=true:=by kernel_rfl
theorem Q3 : Qx Tryz.prog 33=some true:=by kernel_rfl
theorem QY : Tryz.prog.cellsOf 33=3:=by kernel_rfl
theorem Qid : (Tryz.prog.info? 33).isSome=true:=by kernel_rfl
theorem QjM : Ze Tryz.prog 33=some (.agg #[.int .i64 0, .int .i64 0, .string ByteArray.empty]):=by kernel_rfl
theorem QlH : closedV (.agg #[.int .i64 0, .int .i64 0, .string ByteArray.empty])=true:=by kernel_rfl
theorem Qee : Qx Tryz.prog 34=some false:=by kernel_rfl
theorem QnQ : Tryz.prog.cellsOf 34=1:=by kernel_rfl
theorem QnF : (Tryz.prog.info? 34).isSome=true:=by kernel_rfl
theorem QgP : Qx Tryz.prog 36=some true:=by kernel_rfl
theorem Qd5 : Tryz.prog.cellsOf 36=6:=by kernel_rfl
theorem Qmg : (Tryz.prog.info? 36).isSome=true:=by kernel_rfl
theorem Qnj : Ze Tryz.prog 36=some (.agg #[.int .i64 0, .int .i64 0, .string ByteArray.empty, .slice none 0 0, .slice none 0 0, .int .i64 0]):=by kernel_rfl
theorem QnH : closedV (.agg #[.int .i64 0, .int .i64 0, .string ByteArray.empty, .slice none 0 0, .slice none 0 0, .int .i64 0])=true:=by kernel_rfl
theorem Qlg : Qx Tryz.prog 44=some true:=by kernel_rfl
theorem Qkt : Tryz.prog.cellsOf 44=10:=by kernel_rfl
theorem Qh3 : Qx Tryz.prog 48=some true:=by kernel_rfl
theorem Qgj : Tryz.prog.cellsOf 48=10:=by kernel_rfl
theorem Qnn : (Tryz.prog.info? 48).isSome=true:=by kernel_rfl
theorem Qm3 : Ze Tryz.prog 48=some (.agg #[.int .i64 0, .int .i64 0, .int .i64 0, .string ByteArray.empty, .slice none 0 0, .slice none 0 0, .int .i64 0, .string ByteArray.empty, .int .i64 0, .int .i64 0]):=by kernel_rfl
theorem QmQ : closedV (.agg #[.int .i64 0, .int .i64 0, .int .i64 0, .string ByteArray.empty, .slice none 0 0, .slice none 0 0, .int .i64 0, .string ByteArray.empty, .int .i64 0, .int .i64 0])=true:=by kernel_rfl
theorem Qie : Qx Tryz.prog 72=some false:=by kernel_rfl
theorem QnS : Tryz.prog.cellsOf 72=1:=by kernel_rfl
theorem QnU : (Tryz.prog.info? 72).isSome=true:=by kernel_rfl
theorem QdW : Qx Tryz.prog 74=some true:=by kernel_rfl
theorem Jj : Tryz.prog.cellsOf 74=2:=by kernel_rfl
theorem Qd1 : (Tryz.prog.info? 74).isSome=true:=by kernel_rfl
theorem QlI : Ze Tryz.prog 74=some (.agg #[.int .i64 0, .slice none 0 0]):=by kernel_rfl
theorem QlG : closedV (.agg #[.int .i64 0, .slice none 0 0])=true:=by kernel_rfl
theorem QnX : Qx Tryz.prog 77=some false:=by kernel_rfl
theorem Qok : Tryz.prog.cellsOf 77=1:=by kernel_rfl
theorem Qn7 : (Tryz.prog.info? 77).isSome=true:=by kernel_rfl
theorem QnM : Qx Tryz.prog 79=some true:=by kernel_rfl
theorem Qlr : Tryz.prog.cellsOf 79=2:=by kernel_rfl
theorem QnG : (Tryz.prog.info? 79).isSome=true:=by kernel_rfl
theorem QgC : Qx Tryz.prog 97=some true:=by kernel_rfl
theorem Yb : Tryz.prog.cellsOf 97=4:=by kernel_rfl
theorem Qef : (Tryz.prog.info? 97).isSome=true:=by kernel_rfl
theorem JZ : Ze Tryz.prog 97=some (.agg #[.int .i64 0, .bool false, .int .i64 0, .int .i64 0]):=by kernel_rfl
theorem QmH : closedV (.agg #[.int .i64 0, .bool false, .int .i64 0, .int .i64 0])=true:=by kernel_rfl
theorem QcT : Qx Tryz.prog 105=some true:=by kernel_rfl
theorem ZQ : Tryz.prog.cellsOf 105=4:=by kernel_rfl
theorem YA : (Tryz.prog.info? 105).isSome=true:=by kernel_rfl
theorem QdG : Ze Tryz.prog 105=some (.agg #[.int .i64 0, .string ByteArray.empty, .int .i64 0, .int .i64 0]):=by kernel_rfl
theorem QdC : closedV (.agg #[.int .i64 0, .string ByteArray.empty, .int .i64 0, .int .i64 0])=true:=by kernel_rfl
theorem Ql0 : Qx Tryz.prog 110=some true:=by kernel_rfl
theorem QiP : Tryz.prog.cellsOf 110=4:=by kernel_rfl
theorem Ql5 : (Tryz.prog.info? 110).isSome=true:=by kernel_rfl
theorem QkH : Qx Tryz.prog 142=some false:=by kernel_rfl
theorem QnL : Tryz.prog.cellsOf 142=1:=by kernel_rfl
theorem QnE : (Tryz.prog.info? 142).isSome=true:=by kernel_rfl
theorem Qnp : Ze Tryz.prog 142=some (.slice none 0 0):=by kernel_rfl
theorem Qnl : closedV (.slice none 0 0)=true:=by kernel_rfl
theorem Qhx : Qx Tryz.prog 146=some false:=by kernel_rfl
theorem QnK : Tryz.prog.cellsOf 146=1:=by kernel_rfl
theorem Qne : (Tryz.prog.info? 146).isSome=true:=by kernel_rfl
theorem QmV (k o:Nat):Qh Tryz.prog 23 (.pointer (some ⟨k,o,none⟩)) 0=some (.pointer (some ⟨k,o+0,none⟩)):=by simp [Qh,Tryz.underlying23,YK,Zl]
theorem QmP (k o:Nat):Qh Tryz.prog 23 (.pointer (some ⟨k,o,none⟩)) 1=some (.pointer (some ⟨k,o+1,none⟩)):=by simp [Qh,Tryz.underlying23,YK,Zl]
theorem QjU (k o:Nat):Qh Tryz.prog 23 (.pointer (some ⟨k,o,none⟩)) 2=some (.pointer (some ⟨k,o+2,none⟩)):=by simp [Qh,Tryz.underlying23,if9,sz9]
theorem QjX (k o:Nat):Qh Tryz.prog 27 (.pointer (some ⟨k,o,none⟩)) 0=some (.pointer (some ⟨k,o+0,none⟩)):=by simp [Qh,Tryz.underlying27,Qn3,QmZ]
theorem Qkc (k o:Nat):Qh Tryz.prog 27 (.pointer (some ⟨k,o,none⟩)) 1=some (.pointer (some ⟨k,o+3,none⟩)):=by simp [Qh,Tryz.underlying27,Qn4,Qoa]
theorem QkB (k o:Nat):Qh Tryz.prog 27 (.pointer (some ⟨k,o,none⟩)) 2=some (.pointer (some ⟨k,o+4,none⟩)):=by simp [Qh,Tryz.underlying27,QiD,QfR]
theorem QmY (k o:Nat):Qh Tryz.prog 27 (.pointer (some ⟨k,o,none⟩)) 3=some (.pointer (some ⟨k,o+5,none⟩)):=by simp [Qh,Tryz.underlying27,YK,Zl]
theorem Qak (k o:Nat):Qh Tryz.prog 33 (.pointer (some ⟨k,o,none⟩)) 0=some (.pointer (some ⟨k,o+0,none⟩)):=by simp [Qh,Tryz.underlying33,YK,Zl]
theorem Zo (k o:Nat):Qh Tryz.prog 33 (.pointer (some ⟨k,o,none⟩)) 1=some (.pointer (some ⟨k,o+1,none⟩)):=by simp [Qh,Tryz.underlying33,YK,Zl]
theorem QI (k o:Nat):Qh Tryz.prog 33 (.pointer (some ⟨k,o,none⟩)) 2=some (.pointer (some ⟨k,o+2,none⟩)):=by simp [Qh,Tryz.underlying33,if9,sz9]
theorem JM (k o:Nat):Qh Tryz.prog 36 (.pointer (some ⟨k,o,none⟩)) 0=some (.pointer (some ⟨k,o+0,none⟩)):=by simp [Qh,Tryz.underlying36,Qid,QY]
theorem Y9 (k o:Nat):Qh Tryz.prog 36 (.pointer (some ⟨k,o,none⟩)) 1=some (.pointer (some ⟨k,o+3,none⟩)):=by simp [Qh,Tryz.underlying36,QnF,QnQ]
theorem QaM (k o:Nat):Qh Tryz.prog 36 (.pointer (some ⟨k,o,none⟩)) 2=some (.pointer (some ⟨k,o+4,none⟩)):=by simp [Qh,Tryz.underlying36,QiD,QfR]
theorem Qcc (k o:Nat):Qh Tryz.prog 36 (.pointer (some ⟨k,o,none⟩)) 3=some (.pointer (some ⟨k,o+5,none⟩)):=by simp [Qh,Tryz.underlying36,YK,Zl]
theorem QmS (k o:Nat):Qh Tryz.prog 44 (.pointer (some ⟨k,o,none⟩)) 0=some (.pointer (some ⟨k,o+0,none⟩)):=by simp [Qh,Tryz.underlying44,YK,Zl]
theorem Qld (k o:Nat):Qh Tryz.prog 44 (.pointer (some ⟨k,o,none⟩)) 1=some (.pointer (some ⟨k,o+1,none⟩)):=by simp [Qh,Tryz.underlying44,Qoi,Qmz]
theorem QjZ (k o:Nat):Qh Tryz.prog 44 (.pointer (some ⟨k,o,none⟩)) 2=some (.pointer (some ⟨k,o+7,none⟩)):=by simp [Qh,Tryz.underlying44,if9,sz9]
theorem QmA (k o:Nat):Qh Tryz.prog 44 (.pointer (some ⟨k,o,none⟩)) 3=some (.pointer (some ⟨k,o+8,none⟩)):=by simp [Qh,Tryz.underlying44,YK,Zl]
theorem QmG (k o:Nat):Qh Tryz.prog 44 (.pointer (some ⟨k,o,none⟩)) 4=some (.pointer (some ⟨k,o+9,none⟩)):=by simp [Qh,Tryz.underlying44,YK,Zl]
theorem Qfg (k o:Nat):Qh Tryz.prog 48 (.pointer (some ⟨k,o,none⟩)) 0=some (.pointer (some ⟨k,o+0,none⟩)):=by simp [Qh,Tryz.underlying48,YK,Zl]
theorem QaF (k o:Nat):Qh Tryz.prog 48 (.pointer (some ⟨k,o,none⟩)) 1=some (.pointer (some ⟨k,o+1,none⟩)):=by simp [Qh,Tryz.underlying48,Qmg,Qd5]
theorem QeI (k o:Nat):Qh Tryz.prog 48 (.pointer (some ⟨k,o,none⟩)) 2=some (.pointer (some ⟨k,o+7,none⟩)):=by simp [Qh,Tryz.underlying48,if9,sz9]
theorem QaD (k o:Nat):Qh Tryz.prog 48 (.pointer (some ⟨k,o,none⟩)) 3=some (.pointer (some ⟨k,o+8,none⟩)):=by simp [Qh,Tryz.underlying48,YK,Zl]
theorem QbZ (k o:Nat):Qh Tryz.prog 48 (.pointer (some ⟨k,o,none⟩)) 4=some (.pointer (some ⟨k,o+9,none⟩)):=by simp [Qh,Tryz.underlying48,YK,Zl]
theorem Qa2 (k o:Nat):Qh Tryz.prog 74 (.pointer (some ⟨k,o,none⟩)) 0=some (.pointer (some ⟨k,o+0,none⟩)):=by simp [Qh,Tryz.underlying74,YK,Zl]
theorem Qa5 (k o:Nat):Qh Tryz.prog 74 (.pointer (some ⟨k,o,none⟩)) 1=some (.pointer (some ⟨k,o+1,none⟩)):=by simp [Qh,Tryz.underlying74,QnU,QnS]
theorem Qmh (k o:Nat):Qh Tryz.prog 79 (.pointer (some ⟨k,o,none⟩)) 0=some (.pointer (some ⟨k,o+0,none⟩)):=by simp [Qh,Tryz.underlying79,YK,Zl]
theorem QjT (k o:Nat):Qh Tryz.prog 79 (.pointer (some ⟨k,o,none⟩)) 1=some (.pointer (some ⟨k,o+1,none⟩)):=by simp [Qh,Tryz.underlying79,Qn7,Qok]
theorem Qj0 (k o:Nat):Qh Tryz.prog 97 (.pointer (some ⟨k,o,none⟩)) 1=some (.pointer (some ⟨k,o+1,none⟩)):=by simp [Qh,Tryz.underlying97,if4,sz4]
theorem QgH (k o:Nat):Qh Tryz.prog 97 (.pointer (some ⟨k,o,none⟩)) 2=some (.pointer (some ⟨k,o+2,none⟩)):=by simp [Qh,Tryz.underlying97,YK,Zl]
theorem Qcb (k o:Nat):Qh Tryz.prog 97 (.pointer (some ⟨k,o,none⟩)) 3=some (.pointer (some ⟨k,o+3,none⟩)):=by simp [Qh,Tryz.underlying97,YK,Zl]
theorem QV (k o:Nat):Qh Tryz.prog 105 (.pointer (some ⟨k,o,none⟩)) 0=some (.pointer (some ⟨k,o+0,none⟩)):=by simp [Qh,Tryz.underlying105,YK,Zl]
theorem YU (k o:Nat):Qh Tryz.prog 105 (.pointer (some ⟨k,o,none⟩)) 1=some (.pointer (some ⟨k,o+1,none⟩)):=by simp [Qh,Tryz.underlying105,if9,sz9]
theorem Z4 (k o:Nat):Qh Tryz.prog 105 (.pointer (some ⟨k,o,none⟩)) 2=some (.pointer (some ⟨k,o+2,none⟩)):=by simp [Qh,Tryz.underlying105,YK,Zl]
theorem ZV (k o:Nat):Qh Tryz.prog 105 (.pointer (some ⟨k,o,none⟩)) 3=some (.pointer (some ⟨k,o+3,none⟩)):=by simp [Qh,Tryz.underlying105,YK,Zl]
theorem Qlm (k o:Nat):Qh Tryz.prog 110 (.pointer (some ⟨k,o,none⟩)) 0=some (.pointer (some ⟨k,o+0,none⟩)):=by simp [Qh,Tryz.underlying110,YK,Zl]
theorem QiG (k o:Nat):Qh Tryz.prog 110 (.pointer (some ⟨k,o,none⟩)) 1=some (.pointer (some ⟨k,o+1,none⟩)):=by simp [Qh,Tryz.underlying110,if9,sz9]
theorem QlE (k o:Nat):Qh Tryz.prog 110 (.pointer (some ⟨k,o,none⟩)) 2=some (.pointer (some ⟨k,o+2,none⟩)):=by simp [Qh,Tryz.underlying110,YK,Zl]
theorem QlD (k o:Nat):Qh Tryz.prog 110 (.pointer (some ⟨k,o,none⟩)) 3=some (.pointer (some ⟨k,o+3,none⟩)):=by simp [Qh,Tryz.underlying110,YK,Zl]
theorem Qoc (a b:D.Grid):∃q,eqv Tryz.prog 20 33 (.agg #[Value.int .i64 a.Rows,Value.int .i64 a.Cols,Value.string a.Cells]) (.agg #[Value.int .i64 b.Rows,Value.int .i64 b.Cols,Value.string b.Cells])=some q∧(q=true↔a=b):=by
 refine ⟨_,QeX 19 Tryz.underlying33 Y (by kernel_rfl) (eqf_cons Y (Zz QX Y) (Zz QX Y) (Qcl 18 Tryz.underlying3) (eqf_cons Y (Zz QX Y) (Zz QX Y) (Qcl 18 Tryz.underlying3) (eqf_cons Y (Zz Ye Y) (Zz Ye Y) (QlQ 18 Tryz.underlying9) Qjd))),?_⟩
 obtain ⟨a0,a1,a2⟩:=a
 obtain ⟨b0,b1,b2⟩:=b
 simp
theorem Qny (a b:D.Grid) (xo yo:Operand):∃q,Z9 Tryz.prog .eql 33 xo yo (.agg #[Value.int .i64 a.Rows,Value.int .i64 a.Cols,Value.string a.Cells]) (.agg #[Value.int .i64 b.Rows,Value.int .i64 b.Cols,Value.string b.Cells])=some (.bool q)∧(q=true↔a=b):=by
 obtain ⟨q,h1,h2⟩:=Qoc a b
 exact ⟨q,Qj6 (by simp [closedV,closed1]) (by simp [closedV,closed1]) (by kernel_rfl) h1,h2⟩
theorem Qog (a b:D.Slot):∃q,eqv Tryz.prog 20 97 (.agg #[Value.int .i64 a.Number,Value.bool a.Down,Value.int .i64 a.Cell,Value.int .i64 a.Length]) (.agg #[Value.int .i64 b.Number,Value.bool b.Down,Value.int .i64 b.Cell,Value.int .i64 b.Length])=some q∧(q=true↔a=b):=by
 refine ⟨_,QeX 19 Tryz.underlying97 Y (by kernel_rfl) (eqf_cons Y (Zz QX Y) (Zz QX Y) (Qcl 18 Tryz.underlying3) (eqf_cons Y (Zz st4 Y) (Zz st4 Y) (QkC 18 Tryz.underlying4) (eqf_cons Y (Zz QX Y) (Zz QX Y) (Qcl 18 Tryz.underlying3) (eqf_cons Y (Zz QX Y) (Zz QX Y) (Qcl 18 Tryz.underlying3) Qjd)))),?_⟩
 obtain ⟨a0,a1,a2,a3⟩:=a
 obtain ⟨b0,b1,b2,b3⟩:=b
 simp
theorem QnB (a b:D.Slot) (xo yo:Operand):∃q,Z9 Tryz.prog .neq 97 xo yo (.agg #[Value.int .i64 a.Number,Value.bool a.Down,Value.int .i64 a.Cell,Value.int .i64 a.Length]) (.agg #[Value.int .i64 b.Number,Value.bool b.Down,Value.int .i64 b.Cell,Value.int .i64 b.Length])=some (.bool (!q))∧(q=true↔a=b):=by
 obtain ⟨q,h1,h2⟩:=Qog a b
 exact ⟨q,QkX (by simp [closedV,closed1]) (by simp [closedV,closed1]) (by kernel_rfl) h1,h2⟩
theorem follows : Tryz.prog.follows .mixedOrders=true:=by kernel_rfl
theorem QjL : Plain Tryz.prog:=by
 unfold Plain
 kernel_rfl
noncomputable instance : DecidableEq D.Grid:=Classical.typeDecidableEq _
def Qb (m:Bool) (x:D.Grid):List T:= [.int .i64 x.Rows, .int .i64 x.Cols, .str x.Cells]
theorem Qs : EncOk Qb 3:=⟨fun _ _=>rfl,fun x=>Qj (.int _ _) (Qj (.int _ _) (Qj (.str _) (Zm))),fun m x=>by simp only [Qb,fzL,AE.fz],fun m x=>Qj Y (Qj Y (Qj Y (Zm))),fun x=>Qj Y (Qj Y (Qj Y (Zm)))⟩
def ZN (x:D.Grid):Nat:=ByteArray.size x.Cells
theorem Qmt : RK QjV Qb:=Qhn (Jb QaS (Jb QaS QjW)) (fun _=>rfl)
theorem QkI (m:Bool) (x:D.Grid):SvL (Qb m x) [Value.int .i64 x.Rows,Value.int .i64 x.Cols,Value.string x.Cells]:= .cons (.int _ _) (.cons (.int _ _) (.cons (.str _) (.nil)))
noncomputable instance : DecidableEq D.Step:=Classical.typeDecidableEq _
def Qg (m:Bool) (x:D.Step):List T:= [.int .i64 x.Kind, .str x.Word, .int .i64 x.A, .int .i64 x.B]
theorem okeStep : EncOk Qg 4:=⟨fun _ _=>rfl,fun x=>Qj (.int _ _) (Qj (.str _) (Qj (.int _ _) (Qj (.int _ _) (Zm)))),fun m x=>by simp only [Qg,fzL,AE.fz],fun m x=>Qj Y (Qj Y (Qj Y (Qj Y (Zm)))),fun x=>Qj Y (Qj Y (Qj Y (Qj Y (Zm))))⟩
def Zf (x:D.Step):Nat:=ByteArray.size x.Word
theorem Qe5 : Qhm Qg:=fun _ _=>rfl
theorem QmI : RK Qj5 Qg:=Qhn (Jb QaS (Jb QjW (Jb QaS QaS))) (fun _=>rfl)
noncomputable instance : DecidableEq D.Clue:=Classical.typeDecidableEq _
def Qe (m:Bool) (x:D.Clue):List T:= [.int .i64 x.Sense, .sl m 4 (x.Play.map (Qg m))]
theorem okeClue : EncOk Qe 2:=⟨fun _ _=>rfl,fun x=>Qj (.int _ _) (Qj (.sl _ _ (okeStep.cleanMap _)) (Zm)),fun m x=>by simp only [Qe,fzL,AE.fz,okeStep.fzMap],fun m x=>Qj Y (Qj Y (Zm)),fun x=>Qj Y (Qj Y (Zm))⟩
def QO (x:D.Clue):Nat:=(zL Zf) x.Play
theorem Qmw : RK Qkm Qe:=Qhn (Jb QaS (Qmv QmI okeStep Y)) (fun _=>rfl)
noncomputable instance : DecidableEq D.Puzzle:=Classical.typeDecidableEq _
def QD (m:Bool) (x:D.Puzzle):List T:= [.int .i64 x.Grid.Rows, .int .i64 x.Grid.Cols, .str x.Grid.Cells, .sl m 2 (x.Clues.map (Qe m)), .sl m 1 (x.Seals.map (Qc m)), .int .i64 x.Salt]
theorem YI : EncOk QD 6:=⟨fun _ _=>rfl,fun x=>Qj (.int _ _) (Qj (.int _ _) (Qj (.str _) (Qj (.sl _ _ (okeClue.cleanMap _)) (Qj (.sl _ _ (okInt.cleanMap _)) (Qj (.int _ _) (Zm)))))),fun m x=>by simp only [QD,fzL,AE.fz,okInt.fzMap,okeClue.fzMap],fun m x=>Qj Y (Qj Y (Qj Y (Qj Y (Qj Y (Qj Y (Zm)))))),fun x=>Qj Y (Qj Y (Qj Y (Qj Y (Qj Y (Qj Y (Zm))))))⟩
def QP (x:D.Puzzle):Nat:=ZN x.Grid+(zL QO) x.Clues+(zL zI) x.Seals
theorem Qlh : RK QgW QD:=Qhn (Jb Qmt (Jb (Qmv Qmw okeClue Y) (Jb (Qmv QaS okInt Y) QaS))) (fun _=>rfl)
noncomputable instance : DecidableEq D.Issue:=Classical.typeDecidableEq _
def QG (m:Bool) (x:D.Issue):List T:= [.int .i64 x.Number, .int .i64 x.Puzzle.Grid.Rows, .int .i64 x.Puzzle.Grid.Cols, .str x.Puzzle.Grid.Cells, .sl m 2 (x.Puzzle.Clues.map (Qe m)), .sl m 1 (x.Puzzle.Seals.map (Qc m)), .int .i64 x.Puzzle.Salt, .str x.Fill, .int .i64 x.Open, .int .i64 x.Close]
theorem JL : EncOk QG 10:=⟨fun _ _=>rfl,fun x=>Qj (.int _ _) (Qj (.int _ _) (Qj (.int _ _) (Qj (.str _) (Qj (.sl _ _ (okeClue.cleanMap _)) (Qj (.sl _ _ (okInt.cleanMap _)) (Qj (.int _ _) (Qj (.str _) (Qj (.int _ _) (Qj (.int _ _) (Zm)))))))))),fun m x=>by simp only [QG,fzL,AE.fz,okInt.fzMap,okeClue.fzMap],fun m x=>Qj Y (Qj Y (Qj Y (Qj Y (Qj Y (Qj Y (Qj Y (Qj Y (Qj Y (Qj Y (Zm)))))))))),fun x=>Qj Y (Qj Y (Qj Y (Qj Y (Qj Y (Qj Y (Qj Y (Qj Y (Qj Y (Qj Y (Zm))))))))))⟩
def Zq (x:D.Issue):Nat:=QP x.Puzzle+ByteArray.size x.Fill
theorem QlA : RK Qkd QG:=Qhn (Jb QaS (Jb Qlh (Jb QjW (Jb QaS QaS)))) (fun _=>rfl)
noncomputable instance : DecidableEq D.Slot:=Classical.typeDecidableEq _
def Qi (m:Bool) (x:D.Slot):List T:= [.int .i64 x.Number, .bool x.Down, .int .i64 x.Cell, .int .i64 x.Length]
theorem okeSlot : EncOk Qi 4:=⟨fun _ _=>rfl,fun x=>Qj (.int _ _) (Qj (.bool _) (Qj (.int _ _) (Qj (.int _ _) (Zm)))),fun m x=>by simp only [Qi,fzL,AE.fz],fun m x=>Qj Y (Qj Y (Qj Y (Qj Y (Zm)))),fun x=>Qj Y (Qj Y (Qj Y (Qj Y (Zm))))⟩
theorem Qkv (m:Bool) (x:D.Slot):SvL (Qi m x) [Value.int .i64 x.Number,Value.bool x.Down,Value.int .i64 x.Cell,Value.int .i64 x.Length]:= .cons (.int _ _) (.cons (.bool _) (.cons (.int _ _) (.cons (.int _ _) (.nil))))
theorem B.eql33 {call:QQ} {E:Q7} {d:Option Tmp} {ty xt:TypeId} {ps:String} {af:Array Edge} {g:Option (Nat×Bool)} {x y:Operand} {a b:D.Grid} {m m':Bool} (hx:VEv E x (.agg (Qb m a))) (hy:VEv E y (.agg (Qb m' b))):OF call Tryz.prog E ⟨d, .binOp .eql 33 x y xt,ty,ps,af,g⟩ (.bool (decide (a=b))):=by
 obtain ⟨q,h1,h2⟩:=Qny a b x y
 have h3:q=decide (a=b):=by
  by_cases h:a=b
  ·rw [h2.2 h,decide_eq_true h]
  ·rw [decide_eq_false h]
   cases q
   ·rfl
   ·exact absurd (h2.1 Y) h
 exact h3▸OF.binA hx hy (QkI _ a) (QkI _ b) h1 (.bool _)
theorem B.neq97 {call:QQ} {E:Q7} {d:Option Tmp} {ty xt:TypeId} {ps:String} {af:Array Edge} {g:Option (Nat×Bool)} {x y:Operand} {a b:D.Slot} {m m':Bool} (hx:VEv E x (.agg (Qi m a))) (hy:VEv E y (.agg (Qi m' b))):OF call Tryz.prog E ⟨d, .binOp .neq 97 x y xt,ty,ps,af,g⟩ (.bool (!decide (a=b))):=by
 obtain ⟨q,h1,h2⟩:=QnB a b x y
 have h3:q=decide (a=b):=by
  by_cases h:a=b
  ·rw [h2.2 h,decide_eq_true h]
  ·rw [decide_eq_false h]
   cases q
   ·rfl
   ·exact absurd (h2.1 Y) h
 exact h3▸OF.binA hx hy (Qkv _ a) (Qkv _ b) h1 (.bool _)
theorem U3 : Tryz.prog.underlying 3=some (.int .i64):=Tryz.underlying3
theorem U4 : Tryz.prog.underlying 4=some .bool:=Tryz.underlying4
theorem U5 : Tryz.prog.underlying 5=some (.int .u8):=Tryz.underlying5
theorem U9 : Tryz.prog.underlying 9=some .string:=Tryz.underlying9
theorem U24 : Tryz.prog.underlying 24=some (.slice 79):=Tryz.underlying24
theorem ZA : Tryz.prog.underlying 25=some (.slice 3):=Tryz.underlying25
theorem U34 : Tryz.prog.underlying 34=some (.slice 74):=Tryz.underlying34
theorem U52 : Tryz.prog.underlying 52=some (.slice 9):=Tryz.underlying52
theorem U72 : Tryz.prog.underlying 72=some (.slice 105):=Tryz.underlying72
theorem U77 : Tryz.prog.underlying 77=some (.slice 110):=Tryz.underlying77
theorem U81 : Tryz.prog.underlying 81=some (.slice 97):=Tryz.underlying81
theorem U92 : Tryz.prog.underlying 92=some (.slice 5):=Tryz.underlying92
theorem Qfd : Tryz.prog.underlying 116=some (.slice 25):=Tryz.underlying116
theorem Qnm : Tryz.prog.underlying 119=some (.map 3 3):=Tryz.underlying119
theorem Jc : Tryz.prog.underlying 142=some (.slice 4):=Tryz.underlying142
set_option maxRecDepth 20000
set_option maxHeartbeats 2000000
theorem Qfs (n:Nat) (a:List Int) (left:Int) (h0:0≤left) (h1:left≤(mx:Int)) (hg:a.length≤maxLen):Pure (Qr Tryz.prog (n+1)) 28 [(rd 1 Qc a),(tI left)] (tI (ZJ (zL zI a) left)):=by
 refine Pure.intro (rs:= [ResultVar.tmp 4]) Tryz.func28 Y Y Y (E0:= [(0,(rd 1 Qc a)),(1,(tI left))]) Y ?_
 obtain ⟨hlim,hmx,hmax⟩:=QE
 refine sr (fO (OF.assign (VEv.int .i64 0)) (nt (sr (mO (tI left) Y (mO (rd 1 Qc a) Y (lO (B.lenR (m:=a.length) (tv (rd 1 Qc a) Y) ZA (List.length_map ..)) (fO (B.sub (n:=(left - ((a.length:Nat):Int))) (tv (tI left) Y) (tv (tN a.length) Y) (by first | rfl | (rw [Qq (by omega)];omega) | (rw [Qq (by omega)];done))) (aO (tI (left - ((a.length:Nat):Int))) Y (nt (sq (sr ?_)))))))))))
 refine mO (tI (left - ((a.length:Nat):Int))) Y (fO (xls (tv (tI (left - ((a.length:Nat):Int))) Y) (VEv.int .i64 0)) (nt ?_))
 refine cd ((left - ((a.length:Nat):Int))<0) Y (fun fhc0=> ?_) fun fhc0=> ?_
 ·refine sr ?_
  refine fO (OF.assign (VEv.int .i64 (-1))) (nt (rt (tr (vi (n':=(-1)) Y ?_))))
  exact SzI.early fhc0
 refine sk (tn (sr (mO (tI (left - ((a.length:Nat):Int))) Y (aO (tI (left - ((a.length:Nat):Int))) Y (nt (rt (vi (n':=(left - ((a.length:Nat):Int))) Y ?_)))))))
 rw [QlJ (z:=zI) (fun _=>rfl)];exact Qce fhc0
theorem Qfo (n:Nat) (a:D.Grid) (left:Int) (h0:0≤left) (h1:left≤(mx:Int)) (hg:QkY a):Pure (Qr Tryz.prog (n+1)) 26 [(T.agg (Qb false a)),(tI left)] (tI (ZJ (ZN a) left)):=by
 refine Pure.intro (rs:= [ResultVar.tmp 4]) Tryz.func26 Y Y Y (E0:= [(0,(T.agg (Qb false a))),(1,(tI left))]) Y ?_
 obtain ⟨hlim,hmx,hmax⟩:=QE
 obtain ⟨hg0,hg1,hg2⟩:=hg
 refine sr (kO (B.box (ts:=(Qb false a)) (tv (T.agg (Qb false a)) Y) nofun Y) (fO (OF.assign (VEv.int .i64 0)) (nt (sr (mO (tI left) Y (lf (tS a.Cells) Y QjU Y Y Ye (lO (B.lenS (tv (tS a.Cells) Y) U9) (fO (B.sub (n:=(left - ((a.Cells.size:Nat):Int))) (tv (tI left) Y) (tv (tN a.Cells.size) Y) (by (rw [Qq (by omega)];done))) (aO (tI (left - ((a.Cells.size:Nat):Int))) Y (nt (sq ?_)))))))))))
 refine sr (mO (tI (left - ((a.Cells.size:Nat):Int))) Y (fO (xls (tv (tI (left - ((a.Cells.size:Nat):Int))) Y) (VEv.int .i64 0)) (nt ?_)))
 refine cd ((left - ((a.Cells.size:Nat):Int))<0) Y (fun fhc0=> ?_) fun fhc0=> ?_
 ·refine sr ?_
  refine fO (OF.assign (VEv.int .i64 (-1))) (nt (rt (tr (vi (n':=(-1)) Y ?_))))
  exact Je (by simp only [ZN];omega)
 refine sk (tn (sr (mO (tI (left - ((a.Cells.size:Nat):Int))) Y (aO (tI (left - ((a.Cells.size:Nat):Int))) Y (nt (rt (vi (n':=(left - ((a.Cells.size:Nat):Int))) Y ?_)))))))
 rw [← Qce (z:=ZN a) (l:=left) (by simp only [ZN];omega)]
 all_goals rfl
theorem Qfr (n:Nat) (a:D.Step) (left:Int) (h0:0≤left) (h1:left≤(mx:Int)) (hg:QiJ a):Pure (Qr Tryz.prog (n+1)) 95 [(T.agg (Qg false a)),(tI left)] (tI (ZJ (Zf a) left)):=by
 refine Pure.intro (rs:= [ResultVar.tmp 4]) Tryz.func95 Y Y Y (E0:= [(0,(T.agg (Qg false a))),(1,(tI left))]) Y ?_
 obtain ⟨hlim,hmx,hmax⟩:=QE
 obtain ⟨hg0,hg1,hg2,hg3⟩:=hg
 refine sr (kO (B.box (ts:=(Qg false a)) (tv (T.agg (Qg false a)) Y) nofun Y) (fO (OF.assign (VEv.int .i64 0)) (nt (sr (mO (tI left) Y (lf (tS a.Word) Y QiG Y Y Ye (lO (B.lenS (tv (tS a.Word) Y) U9) (fO (B.sub (n:=(left - ((a.Word.size:Nat):Int))) (tv (tI left) Y) (tv (tN a.Word.size) Y) (by (rw [Qq (by omega)];done))) (aO (tI (left - ((a.Word.size:Nat):Int))) Y (nt (sq ?_)))))))))))
 refine sr (mO (tI (left - ((a.Word.size:Nat):Int))) Y (fO (xls (tv (tI (left - ((a.Word.size:Nat):Int))) Y) (VEv.int .i64 0)) (nt ?_)))
 refine cd ((left - ((a.Word.size:Nat):Int))<0) Y (fun fhc0=> ?_) fun fhc0=> ?_
 ·refine sr ?_
  refine fO (OF.assign (VEv.int .i64 (-1))) (nt (rt (tr (vi (n':=(-1)) Y ?_))))
  exact Je (by simp only [Zf];omega)
 refine sk (tn (sr (mO (tI (left - ((a.Word.size:Nat):Int))) Y (aO (tI (left - ((a.Word.size:Nat):Int))) Y (nt (rt (vi (n':=(left - ((a.Word.size:Nat):Int))) Y ?_)))))))
 rw [← Qce (z:=Zf a) (l:=left) (by simp only [Zf];omega)]
 all_goals rfl
theorem QeJ (n:Nat) (a:List D.Step) (left:Int) (h0:0≤left) (h1:left≤(mx:Int)) (hg:a.length≤maxLen∧∀x∈a,QiJ x):Pure (Qr Tryz.prog (n+2)) 70 [(rd 4 Qg a),(tI left)] (tI (ZJ (zL Zf a) left)):=by
 refine Pure.intro (rs:= [ResultVar.tmp 4]) Tryz.func70 Y Y Y (E0:= [(0,(rd 4 Qg a)),(1,(tI left))]) Y ?_
 obtain ⟨hlim,hmx,hmax⟩:=QE
 obtain ⟨hg1,hg2⟩:=hg
 refine sr (fO (OF.assign (VEv.int .i64 0)) (nt (sr (mO (tI left) Y (mO (rd 4 Qg a) Y (lO (B.lenR (m:=a.length) (tv (rd 4 Qg a) Y) U77 (List.length_map ..)) (fO (B.sub (n:=(left - ((a.length:Nat):Int))) (tv (tI left) Y) (tv (tN a.length) Y) (by (rw [Qq (by omega)];done))) (aO (tI (left - ((a.length:Nat):Int))) Y (nt (sq (sr ?_)))))))))))
 refine mO (tI (left - ((a.length:Nat):Int))) Y (fO (xls (tv (tI (left - ((a.length:Nat):Int))) Y) (VEv.int .i64 0)) (nt ?_))
 refine cd ((left - ((a.length:Nat):Int))<0) Y (fun fhc0=> ?_) fun fhc0=> ?_
 ·refine sr ?_
  refine fO (OF.assign (VEv.int .i64 (-1))) (nt (rt (tr (vi (n':=(-1)) Y ?_))))
  exact SzI.early fhc0
 refine sk (tn (sq (sr (fO (OF.assign (VEv.int .i64 0)) (nt (VRun.block ?_))))))
 refine VRun.loop (A:=Nat×Int) (fun s_=> [(0,(rd 4 Qg a)),(1,(tI s_.2)),(5,(tN s_.1))]) (fun s_=>Q5 []) 0 (fun s_=>SzI Zf a left s_.1 s_.2) (fun s_=>a.length - s_.1) ((0,left - (a.length:Int)):Nat×Int) ?_ (Wk.mk (fun k=>k) ?_ ?_ ?_) ?_
 ·exact SzI.start h1 fhc0
 ·exact (b2 (bc ⟨(congrArg (T.int .i64) (show (left - ((a.length:Nat):Int))=(left - (a.length:Int)) from (by rfl))),rfl⟩ (b2 bn)))
 ·exact bn
 ·exact nd Y
 rintro ⟨i,r⟩ (hI':SzI Zf a left i r)
 show VRun _ _ _ [(0,(rd 4 Qg a)),(1,(tI r)),(5,(tN i))] (Q5 []) 0 _
 have hI2:=hI'.1
 have hI3:=hI'.2.1
 have hI4:=hI'.2.2.1
 refine sq (sr (mO (tN i) Y (mO (rd 4 Qg a) Y (lO (B.lenR (m:=a.length) (tv (rd 4 Qg a) Y) U77 (List.length_map ..)) (fO (Zg (tv (tN i) Y) (tv (tN a.length) Y)) (nt ?_))))))
 refine cd (i<a.length) Y (fun fhc1=> ?_) fun fhc1=> ?_
 ·refine sk ?_
  refine tn (sq (VRun.block (sr (mO (rd 4 Qg a) Y (mO (tN i) Y ?_)))))
  obtain ⟨x1,hx1⟩:∃x,a[i]? =some x:=⟨_,List.getElem?_eq_getElem (by omega)⟩
  refine fO (OF.indexAddrR (row:=(Qg false x1)) (i:=i) (tv (rd 4 Qg a) Y) (tv (tN i) Y) Y (Qt _ hx1) U77 QiP Ql5) (lO (OL.loadRn (us:=(Qg false x1)) (tv (T.rp (Qg false x1)) Y) Ql0 QiP (lb Y) Y) (mO (tI r) Y (cO (cS (vc (tv (T.agg (Qg false x1)) Y) (vc (tv (tI r) Y) vn)) (LendL.cons (lg okeStep) (lp Y ln)) (Qfr (n+0) x1 r (by assumption) (by assumption) (by exact hg2 _ (List.mem_of_getElem? hx1))) Y Y) (aO (tI (ZJ (Zf x1) r)) Y (nt (sr (mO (tI (ZJ (Zf x1) r)) Y (fO (xls (tv (tI (ZJ (Zf x1) r)) Y) (VEv.int .i64 0)) (nt ?_)))))))))
  refine cd (ZJ (Zf x1) r<0) Y (fun fhc2=> ?_) fun fhc2=> ?_
  ·refine sr ?_
   refine fO (OF.assign (VEv.int .i64 (-1))) (nt (rt (vinB.r (tr (tr (vinB.r (tr (vi (n':=(-1)) Y ?_))))))))
   exact hI'.bad hx1 fhc2
  refine sk (vinB.n (tn (VRun.region (mO (tN i) Y (fO (QB (tv (tN i) Y) (VEv.int .i64 1) (by omega)) (aO (tN (i+1)) Y (VRunO.nil (tn ?_))))))))
  refine ⟨((i+1,ZJ (Zf x1) r):Nat×Int),?_,?_,Wk.mk (fun k=>k) ?_ ?_ ?_⟩
  ·exact hI'.next hx1 fhc2
  ·omega
  ·exact (b2 (b2 (b2 bn)))
  ·exact bn
  ·exact nd Y
 refine VRun.exit (vthn.e (vthn.e (vinB.e (tn (sr (mO (tI r) Y (aO (tI r) Y (nt (rt (vi (n':=r) Y ?_))))))))))
 exact hI'.done fhc1
theorem QfE (n:Nat) (a:D.Clue) (left:Int) (h0:0≤left) (h1:left≤(mx:Int)) (hg:Qi6 a):Pure (Qr Tryz.prog (n+3)) 49 [(T.agg (Qe false a)),(tI left)] (tI (ZJ (QO a) left)):=by
 refine Pure.intro (rs:= [ResultVar.tmp 4]) Tryz.func49 Y Y Y (E0:= [(0,(T.agg (Qe false a))),(1,(tI left))]) Y ?_
 obtain ⟨hlim,hmx,hmax⟩:=QE
 obtain ⟨hg0,hg1⟩:=hg
 refine sr (kO (B.box (ts:=(Qe false a)) (tv (T.agg (Qe false a)) Y) nofun Y) (fO (OF.assign (VEv.int .i64 0)) (nt (sr (lf (rd 4 Qg a.Play) Y QjT Y Y QnX (mO (tI left) Y (cO (cS (vc (tv (rd 4 Qg a.Play) Y) (vc (tv (tI left) Y) vn)) (ZH Y) (QeJ (n+0) a.Play left (by assumption) (by assumption) (by assumption)) Y Y) (aO (tI (ZJ (zL Zf a.Play) left)) Y (nt (sq (sr ?_)))))))))))
 refine mO (tI (ZJ (zL Zf a.Play) left)) Y (fO (xls (tv (tI (ZJ (zL Zf a.Play) left)) Y) (VEv.int .i64 0)) (nt ?_))
 refine cd (ZJ (zL Zf a.Play) left<0) Y (fun fhc0=> ?_) fun fhc0=> ?_
 ·refine sr ?_
  refine fO (OF.assign (VEv.int .i64 (-1))) (nt (rt (tr (vi (n':=(-1)) Y ?_))))
  exact Je (by have hlt:=Qdl fhc0;simp only [QO];omega)
 have hq0:=YT fhc0
 refine sk (tn (sr (mO (tI (ZJ (zL Zf a.Play) left)) Y (aO (tI (ZJ (zL Zf a.Play) left)) Y (nt (rt (vi (n':=ZJ (zL Zf a.Play) left) Y ?_)))))))
 rw [← Qce (z:=QO a) (l:=left) (by simp only [QO];omega)]
 all_goals (simp only [QO];omega)
theorem QeU (n:Nat) (a:List D.Clue) (left:Int) (h0:0≤left) (h1:left≤(mx:Int)) (hg:a.length≤maxLen∧∀x∈a,Qi6 x):Pure (Qr Tryz.prog (n+4)) 27 [(rd 2 Qe a),(tI left)] (tI (ZJ (zL QO a) left)):=by
 refine Pure.intro (rs:= [ResultVar.tmp 4]) Tryz.func27 Y Y Y (E0:= [(0,(rd 2 Qe a)),(1,(tI left))]) Y ?_
 obtain ⟨hlim,hmx,hmax⟩:=QE
 obtain ⟨hg1,hg2⟩:=hg
 refine sr (fO (OF.assign (VEv.int .i64 0)) (nt (sr (mO (tI left) Y (mO (rd 2 Qe a) Y (lO (B.lenR (m:=a.length) (tv (rd 2 Qe a) Y) U24 (List.length_map ..)) (fO (B.sub (n:=(left - ((a.length:Nat):Int))) (tv (tI left) Y) (tv (tN a.length) Y) (by (rw [Qq (by omega)];done))) (aO (tI (left - ((a.length:Nat):Int))) Y (nt (sq (sr ?_)))))))))))
 refine mO (tI (left - ((a.length:Nat):Int))) Y (fO (xls (tv (tI (left - ((a.length:Nat):Int))) Y) (VEv.int .i64 0)) (nt ?_))
 refine cd ((left - ((a.length:Nat):Int))<0) Y (fun fhc0=> ?_) fun fhc0=> ?_
 ·refine sr ?_
  refine fO (OF.assign (VEv.int .i64 (-1))) (nt (rt (tr (vi (n':=(-1)) Y ?_))))
  exact SzI.early fhc0
 refine sk (tn (sq (sr (fO (OF.assign (VEv.int .i64 0)) (nt (VRun.block ?_))))))
 refine VRun.loop (A:=Nat×Int) (fun s_=> [(0,(rd 2 Qe a)),(1,(tI s_.2)),(5,(tN s_.1))]) (fun s_=>Q5 []) 0 (fun s_=>SzI QO a left s_.1 s_.2) (fun s_=>a.length - s_.1) ((0,left - (a.length:Int)):Nat×Int) ?_ (Wk.mk (fun k=>k) ?_ ?_ ?_) ?_
 ·exact SzI.start h1 fhc0
 ·exact (b2 (bc ⟨(congrArg (T.int .i64) (show (left - ((a.length:Nat):Int))=(left - (a.length:Int)) from (by rfl))),rfl⟩ (b2 bn)))
 ·exact bn
 ·exact nd Y
 rintro ⟨i,r⟩ (hI':SzI QO a left i r)
 show VRun _ _ _ [(0,(rd 2 Qe a)),(1,(tI r)),(5,(tN i))] (Q5 []) 0 _
 have hI2:=hI'.1
 have hI3:=hI'.2.1
 have hI4:=hI'.2.2.1
 refine sq (sr (mO (tN i) Y (mO (rd 2 Qe a) Y (lO (B.lenR (m:=a.length) (tv (rd 2 Qe a) Y) U24 (List.length_map ..)) (fO (Zg (tv (tN i) Y) (tv (tN a.length) Y)) (nt ?_))))))
 refine cd (i<a.length) Y (fun fhc1=> ?_) fun fhc1=> ?_
 ·refine sk ?_
  refine tn (sq (VRun.block (sr (mO (rd 2 Qe a) Y (mO (tN i) Y ?_)))))
  obtain ⟨x1,hx1⟩:∃x,a[i]? =some x:=⟨_,List.getElem?_eq_getElem (by omega)⟩
  refine fO (OF.indexAddrR (row:=(Qe false x1)) (i:=i) (tv (rd 2 Qe a) Y) (tv (tN i) Y) Y (Qt _ hx1) U24 Qlr QnG) (lO (OL.loadRn (us:=(Qe false x1)) (tv (T.rp (Qe false x1)) Y) QnM Qlr (lb Y) Y) (mO (tI r) Y (cO (cS (vc (tv (T.agg (Qe false x1)) Y) (vc (tv (tI r) Y) vn)) (LendL.cons (lg okeClue) (lp Y ln)) (QfE (n+0) x1 r (by assumption) (by assumption) (by exact hg2 _ (List.mem_of_getElem? hx1))) Y Y) (aO (tI (ZJ (QO x1) r)) Y (nt (sr (mO (tI (ZJ (QO x1) r)) Y (fO (xls (tv (tI (ZJ (QO x1) r)) Y) (VEv.int .i64 0)) (nt ?_)))))))))
  refine cd (ZJ (QO x1) r<0) Y (fun fhc2=> ?_) fun fhc2=> ?_
  ·refine sr ?_
   refine fO (OF.assign (VEv.int .i64 (-1))) (nt (rt (vinB.r (tr (tr (vinB.r (tr (vi (n':=(-1)) Y ?_))))))))
   exact hI'.bad hx1 fhc2
  refine sk (vinB.n (tn (VRun.region (mO (tN i) Y (fO (QB (tv (tN i) Y) (VEv.int .i64 1) (by omega)) (aO (tN (i+1)) Y (VRunO.nil (tn ?_))))))))
  refine ⟨((i+1,ZJ (QO x1) r):Nat×Int),?_,?_,Wk.mk (fun k=>k) ?_ ?_ ?_⟩
  ·exact hI'.next hx1 fhc2
  ·omega
  ·exact (b2 (b2 (b2 bn)))
  ·exact bn
  ·exact nd Y
 refine VRun.exit (vthn.e (vthn.e (vinB.e (tn (sr (mO (tI r) Y (aO (tI r) Y (nt (rt (vi (n':=r) Y ?_))))))))))
 exact hI'.done fhc1
theorem Qed (n:Nat) (a:D.Puzzle) (left:Int) (h0:0≤left) (h1:left≤(mx:Int)) (hg:Qgr a):Pure (Qr Tryz.prog (n+5)) 6 [(T.agg (QD false a)),(tI left)] (tI (ZJ (QP a) left)):=by
 refine Pure.intro (rs:= [ResultVar.tmp 4]) Tryz.func6 Y Y Y (E0:= [(0,(T.agg (QD false a))),(1,(tI left))]) Y ?_
 obtain ⟨hlim,hmx,hmax⟩:=QE
 obtain ⟨hg0,hg1,hg2,hg3⟩:=hg
 refine sr (kO (B.box (ts:=(QD false a)) (tv (T.agg (QD false a)) Y) nofun Y) (fO (OF.assign (VEv.int .i64 0)) (nt (sr (fO (OF.fieldAddrO (tv (T.op 0 0) Y) QjX) (lO (OL.loadOn (us:=(Qb false a.Grid)) (tv (T.op 0 0) Y) Y Qnh QmZ (lb Y) Y) (mO (tI left) Y (cO (cS (vc (tv (T.agg (Qb false a.Grid)) Y) (vc (tv (tI left) Y) vn)) (LendL.cons (lg Qs) (lp Y ln)) (Qfo (n+3) a.Grid left (by first | assumption | omega) (by first | assumption | omega) (by first | assumption | omega)) Y Y) (aO (tI (ZJ (ZN a.Grid) left)) Y (nt (sq ?_)))))))))))
 refine sr (mO (tI (ZJ (ZN a.Grid) left)) Y (fO (xls (tv (tI (ZJ (ZN a.Grid) left)) Y) (VEv.int .i64 0)) (nt ?_)))
 refine cd (ZJ (ZN a.Grid) left<0) Y (fun fhc0=> ?_) fun fhc0=> ?_
 ·refine sr ?_
  refine fO (OF.assign (VEv.int .i64 (-1))) (nt (rt (tr (vi (n':=(-1)) Y ?_))))
  exact Je (by have hlt:=Qdl fhc0;simp only [QP];omega)
 have hq0:=YT fhc0
 refine sk (tn (sr (lf (rd 2 Qe a.Clues) Y Qkc Y Y Qnx (mO (tI (ZJ (ZN a.Grid) left)) Y (cO (cS (vc (tv (rd 2 Qe a.Clues) Y) (vc (tv (tI (ZJ (ZN a.Grid) left)) Y) vn)) (ZH Y) (QeU (n+0) a.Clues (ZJ (ZN a.Grid) left) (by first | assumption | omega) (by first | assumption | omega) (by first | assumption | omega)) Y Y) (aO (tI (ZJ (zL QO a.Clues) (ZJ (ZN a.Grid) left))) Y (nt (sq (sr (mO (tI (ZJ (zL QO a.Clues) (ZJ (ZN a.Grid) left))) Y (fO (xls (tv (tI (ZJ (zL QO a.Clues) (ZJ (ZN a.Grid) left))) Y) (VEv.int .i64 0)) ?_)))))))))))
 refine nt ?_
 refine cd (ZJ (zL QO a.Clues) (ZJ (ZN a.Grid) left)<0) Y (fun fhc1=> ?_) fun fhc1=> ?_
 ·refine sr ?_
  refine fO (OF.assign (VEv.int .i64 (-1))) (nt (rt (tr (vi (n':=(-1)) Y ?_))))
  exact Je (by have hlt:=Qdl fhc1;simp only [QP];omega)
 have hq1:=YT fhc1
 refine sk (tn (sr (lf (rd 1 Qc a.Seals) Y QkB Y Y QcB (mO (tI (ZJ (zL QO a.Clues) (ZJ (ZN a.Grid) left))) Y (cO (cS (vc (tv (rd 1 Qc a.Seals) Y) (vc (tv (tI (ZJ (zL QO a.Clues) (ZJ (ZN a.Grid) left))) Y) vn)) (ZH Y) (Qfs (n+3) a.Seals (ZJ (zL QO a.Clues) (ZJ (ZN a.Grid) left)) (by first | assumption | omega) (by first | assumption | omega) (by first | assumption | omega)) Y Y) (aO (tI (ZJ (zL zI a.Seals) (ZJ (zL QO a.Clues) (ZJ (ZN a.Grid) left)))) Y (nt (sq (sr (mO (tI (ZJ (zL zI a.Seals) (ZJ (zL QO a.Clues) (ZJ (ZN a.Grid) left)))) Y (fO (xls (tv (tI (ZJ (zL zI a.Seals) (ZJ (zL QO a.Clues) (ZJ (ZN a.Grid) left)))) Y) (VEv.int .i64 0)) ?_)))))))))))
 refine nt ?_
 refine cd (ZJ (zL zI a.Seals) (ZJ (zL QO a.Clues) (ZJ (ZN a.Grid) left))<0) Y (fun fhc2=> ?_) fun fhc2=> ?_
 ·refine sr ?_
  refine fO (OF.assign (VEv.int .i64 (-1))) (nt (rt (tr (vi (n':=(-1)) Y ?_))))
  exact Je (by have hlt:=Qdl fhc2;simp only [QP];omega)
 have hq2:=YT fhc2
 refine sk (tn (sr (mO (tI (ZJ (zL zI a.Seals) (ZJ (zL QO a.Clues) (ZJ (ZN a.Grid) left)))) Y (aO (tI (ZJ (zL zI a.Seals) (ZJ (zL QO a.Clues) (ZJ (ZN a.Grid) left)))) Y (nt (rt (vi (n':=ZJ (zL zI a.Seals) (ZJ (zL QO a.Clues) (ZJ (ZN a.Grid) left))) Y ?_)))))))
 rw [← Qce (z:=QP a) (l:=left) (by simp only [QP];omega)]
 all_goals first | rfl | (simp only [QP];done) | (simp only [QP];omega)
theorem QeP (n:Nat) (a:D.Issue) (left:Int) (h0:0≤left) (h1:left≤(mx:Int)) (hg:Qiu a):Pure (Qr Tryz.prog (n+6)) 15 [(T.agg (QG false a)),(tI left)] (tI (ZJ (Zq a) left)):=by
 refine Pure.intro (rs:= [ResultVar.tmp 4]) Tryz.func15 Y Y Y (E0:= [(0,(T.agg (QG false a))),(1,(tI left))]) Y ?_
 obtain ⟨hlim,hmx,hmax⟩:=QE
 obtain ⟨hg0,hg1,hg2,hg3,hg4⟩:=hg
 refine sr (kO (B.box (ts:=(QG false a)) (tv (T.agg (QG false a)) Y) nofun Y) (fO (OF.assign (VEv.int .i64 0)) (nt (sr (fO (OF.fieldAddrO (tv (T.op 0 0) Y) Qld) (lO (OL.loadOn (us:=(QD false a.Puzzle)) (tv (T.op 0 1) Y) Y Qnr Qmz (lb Y) Y) (mO (tI left) Y (cO (cS (vc (tv (T.agg (QD false a.Puzzle)) Y) (vc (tv (tI left) Y) vn)) (LendL.cons (lg YI) (lp Y ln)) (Qed (n+0) a.Puzzle left (by first | assumption | omega) (by first | assumption | omega) (by first | assumption | omega)) Y Y) (aO (tI (ZJ (QP a.Puzzle) left)) Y (nt (sq ?_)))))))))))
 refine sr (mO (tI (ZJ (QP a.Puzzle) left)) Y (fO (xls (tv (tI (ZJ (QP a.Puzzle) left)) Y) (VEv.int .i64 0)) (nt ?_)))
 refine cd (ZJ (QP a.Puzzle) left<0) Y (fun fhc0=> ?_) fun fhc0=> ?_
 ·refine sr ?_
  refine fO (OF.assign (VEv.int .i64 (-1))) (nt (rt (tr (vi (n':=(-1)) Y ?_))))
  exact Je (by have hlt:=Qdl fhc0;simp only [Zq];omega)
 have hq0:=YT fhc0
 refine sk (tn (sr (mO (tI (ZJ (QP a.Puzzle) left)) Y (lf (tS a.Fill) Y QjZ Y Y Ye (lO (B.lenS (tv (tS a.Fill) Y) U9) (fO (B.sub (n:=(ZJ (QP a.Puzzle) left - ((a.Fill.size:Nat):Int))) (tv (tI (ZJ (QP a.Puzzle) left)) Y) (tv (tN a.Fill.size) Y) (by first | rfl | (rw [Qq (by omega)];omega) | (rw [Qq (by omega)];done))) (aO (tI (ZJ (QP a.Puzzle) left - ((a.Fill.size:Nat):Int))) Y (nt (sq (sr (mO (tI (ZJ (QP a.Puzzle) left - ((a.Fill.size:Nat):Int))) Y ?_)))))))))))
 refine fO (xls (tv (tI (ZJ (QP a.Puzzle) left - ((a.Fill.size:Nat):Int))) Y) (VEv.int .i64 0)) (nt ?_)
 refine cd ((ZJ (QP a.Puzzle) left - ((a.Fill.size:Nat):Int))<0) Y (fun fhc1=> ?_) fun fhc1=> ?_
 ·refine sr ?_
  refine fO (OF.assign (VEv.int .i64 (-1))) (nt (rt (tr (vi (n':=(-1)) Y ?_))))
  exact Je (by simp only [Zq];omega)
 refine sk (tn (sr (mO (tI (ZJ (QP a.Puzzle) left - ((a.Fill.size:Nat):Int))) Y (aO (tI (ZJ (QP a.Puzzle) left - ((a.Fill.size:Nat):Int))) Y (nt (rt (vi (n':=(ZJ (QP a.Puzzle) left - ((a.Fill.size:Nat):Int))) Y ?_)))))))
 rw [← Qce (z:=Zq a) (l:=left) (by simp only [Zq];omega)]
 all_goals first | rfl | (simp only [Zq];done) | (simp only [Zq];omega)
theorem QfG (n:Nat) (a:List Int) (ha:a.length≤mx):Pure (Qr Tryz.prog (n+1)) 34 [(rd 1 Qc a)] (T.sl true 1 (a.map (Qc true))):=by
 refine Pure.intro (rs:= [ResultVar.tmp 2]) Tryz.func34 Y Y Y (E0:= [(0,(rd 1 Qc a))]) Y ?_
 obtain ⟨hlim,hmx,hmax⟩:=QE
 refine sr (fO (OF.assign VEv.nils) (nt (sr (mO (rd 1 Qc a) Y (lO (B.lenR (m:=a.length) (tv (rd 1 Qc a) Y) ZA (List.length_map ..)) (kO (B.makeZ (n:=a.length) (m:=((List.replicate a.length 0).map (Qc true)).length) (rows:=((List.replicate a.length 0).map (Qc true))) (zr:=(Qc true 0)) (tv (tN a.length) Y) (tv (tN a.length) Y) Y ZA zo3 zc3 Y (by rw [Zl];decide) (by first | omega | (simp only [List.length_map];omega) | (simp only [List.length_map,List.length_append,List.length_cons,List.length_nil,List.length_replicate,List.length_set,List.length_drop,List.length_take,Zr] at *;omega)) (of_decide_eq_true (by kernel_rfl)) (Z0.int Z0.nil) Zl (List.map_replicate ..).symm (by rw [List.length_map,List.length_replicate])) (aO (T.os 1 0 0 (((List.replicate a.length 0).map (Qc true)).length)) Y (nt (sq (sr (fO (OF.assign (VEv.int .i64 0)) ?_)))))))))))
 refine nt (VRun.block ?_)
 have he1:(List.replicate a.length 0)=(a.take 0++List.replicate (a.length - 0) 0):=by first | rfl | (exact Qbv hx1) | (simp;done) | omega
 refine VRun.loop (A:=Nat) (fun s_=> [(0,(rd 1 Qc a)),(2,T.nils),(3,(T.os 1 0 0 (((a.take s_++List.replicate (a.length - s_) 0).map (Qc true)).length))),(4,(tN s_))]) (fun s_=>Q5 [(0,(Obj.rows 1 ((a.take s_++List.replicate (a.length - s_) 0).map (Qc true))))]) 1 (fun s_=>s_≤a.length) (fun s_=>a.length - s_) (0:Nat) ?_ (Wk.mk (fun k=>k) ?_ ?_ ?_) ?_
 ·first | trivial | (simp;done) | omega | (constructor<;>simp)
 ·exact (b2 (b2 (bc ⟨(congrArg (fun l_=>T.os 1 0 0 (List.map (Qc true) l_).length) he1),rfl⟩ (b2 bn))))
 ·exact (bc ⟨(congrArg (fun l_=>some (Obj.rows 1 (List.map (Qc true) l_))) he1),(lb Y),rfl⟩ bn)
 ·exact nd Y
 rintro i (hI':i≤a.length)
 show VRun _ _ _ [(0,(rd 1 Qc a)),(2,T.nils),(3,(T.os 1 0 0 (((a.take i++List.replicate (a.length - i) 0).map (Qc true)).length))),(4,(tN i))] (Q5 [(0,(Obj.rows 1 ((a.take i++List.replicate (a.length - i) 0).map (Qc true))))]) 1 _
 have hfl:=QgE (w:=0) hI'
 refine sq (sr (mO (tN i) Y (mO (rd 1 Qc a) Y (lO (B.lenR (m:=a.length) (tv (rd 1 Qc a) Y) ZA (List.length_map ..)) (fO (Zg (tv (tN i) Y) (tv (tN a.length) Y)) (nt ?_))))))
 refine cd (i<a.length) Y (fun fhc0=> ?_) fun fhc0=> ?_
 ·refine sk ?_
  refine tn (sq (VRun.block (VRun.region (mO (T.os 1 0 0 (((a.take i++List.replicate (a.length - i) 0).map (Qc true)).length)) Y (mO (tN i) Y (mO (rd 1 Qc a) Y (mO (tN i) Y ?_)))))))
  obtain ⟨x1,hx1⟩:∃x,a[i]? =some x:=⟨_,List.getElem?_eq_getElem (by omega)⟩
  refine fO (OF.indexAddrR (row:=(Qc false x1)) (i:=i) (tv (rd 1 Qc a) Y) (tv (tN i) Y) Y (Qt _ hx1) ZA Zl YK) (lO (OL.loadR1 (t:=(tI x1)) (tv (T.rp [(tI x1)]) Y) Y QX) ?_)
  obtain ⟨x2,hx2⟩:∃x,(a.take i++List.replicate (a.length - i) 0)[i]? =some x:=⟨_,List.getElem?_eq_getElem (by first | omega | (simp only [List.length_map];omega) | (simp only [List.length_map,List.length_append,List.length_cons,List.length_nil,List.length_replicate,List.length_set,List.length_drop,List.length_take,Zr] at *;omega))⟩
  refine fO (B.indexAddrO (i:=i) (tv (T.os 1 0 0 (((a.take i++List.replicate (a.length - i) 0).map (Qc true)).length)) Y) (tv (tN i) Y) Y (by first | omega | (simp only [List.length_map];omega) | (simp only [List.length_map,List.length_append,List.length_cons,List.length_nil,List.length_replicate,List.length_set,List.length_drop,List.length_take,Zr] at *;omega)) ZA Zl YK) (cO (B.storeP (us:= [(tI x1)]) (rows':=(((a.take i++List.replicate (a.length - i) 0).set i x1).map (Qc true))) (row:=(Qc true x2)) (tv (T.orp 1 0 i 0) Y) (tv (tI x1) Y) nofun Y (Qt _ hx2) Y (lb Y) YK Zl (bc Y bn) (by intro r hr t ht;obtain ⟨x,_,rfl⟩:=List.mem_map.1 hr;rw [Ql3] at ht;exact ZD (okInt.pl _ t ht)) (Zy Y)) (VRunO.nil (vinB.n (tn (VRun.region (mO (tN i) Y (fO (QB (tv (tN i) Y) (VEv.int .i64 1) (by omega)) (aO (tN (i+1)) Y (VRunO.nil (tn ?_))))))))))
  have he2:((a.take i++List.replicate (a.length - i) 0).set i x1)=(a.take (i+1)++List.replicate (a.length - (i+1)) 0):=by first | rfl | (exact Qbv hx1) | (simp;done) | omega
  refine ⟨(i+1:Nat),?_,?_,Wk.mk (fun k=>k) ?_ ?_ ?_⟩
  ·first | trivial | omega | (simp;done) | exact ⟨by omega,hI'.2⟩
  ·first | omega | (simp only [];omega) | (show _<_;omega) | (simp;omega)
  ·exact (b2 (b2 (bc ⟨(congrArg (fun n_=>T.os 1 0 0 n_) (show ((a.take i++List.replicate (a.length - i) 0).map (Qc true)).length=((a.take (i+1)++List.replicate (a.length - (i+1)) 0).map (Qc true)).length from (by first | rfl | (simp only [List.length_map];omega) | (simp only [List.length_map,List.length_set,List.length_append,List.length_take,List.length_replicate,List.length_cons,List.length_nil];omega)))),rfl⟩ (b2 bn))))
  ·exact (bc ⟨(congrArg (fun l_=>some (Obj.rows 1 (List.map (Qc true) l_))) he2),(lb Y),rfl⟩ bn)
  ·exact nd Y
 refine VRun.exit (vthn.e (vthn.e (vinB.e (tn (sr (mO (T.os 1 0 0 (((a.take i++List.replicate (a.length - i) 0).map (Qc true)).length)) Y (aO (T.os 1 0 0 (((a.take i++List.replicate (a.length - i) 0).map (Qc true)).length)) Y (nt (rt ?_)))))))))
 refine vfin.eq (r':=(T.sl true 1 ((a.take i++List.replicate (a.length - i) 0).map (Qc true)))) ?_ (vfin.r (VRes.tmp (t:=(T.os 1 0 0 (((a.take i++List.replicate (a.length - i) 0).map (Qc true)).length))) Y VRes.nil) (Give.os Y Y (okInt.cleanMap _)))
 refine congrArg (fun l_=>T.sl true 1 (List.map (Qc true) l_)) ?_
 exact QcV fhc0
theorem QfQ (n:Nat) (a:D.Grid):Pure (Qr Tryz.prog (n+1)) 32 [(T.agg (Qb false a))] (T.agg (Qb true a)):=by
 refine Pure.intro (rs:= [ResultVar.cell 2 33]) Tryz.func32 Y Y Y (E0:= [(0,(T.agg (Qb false a)))]) Y ?_
 obtain ⟨hlim,hmx,hmax⟩:=QE
 refine sr (kO (B.box (ts:=(Qb false a)) (tv (T.agg (Qb false a)) Y) nofun Y) (kO (B.alloc (t:=(T.agg [(tN 0),(tN 0),(tS ByteArray.empty)])) (ts:= [(tN 0),(tN 0),(tS ByteArray.empty)]) QjM QlH nofun (fun _=> .agg _ _ Y (YZ (RL.cons (.int _ _) (RL.cons (.int _ _) (RL.cons (.str _) (RL.nil _)))))) Y) (nt (sr (kO (B.alloc (t:=(T.agg [(tN 0),(tN 0),(tS ByteArray.empty)])) (ts:= [(tN 0),(tN 0),(tS ByteArray.empty)]) QjM QlH nofun (fun _=> .agg _ _ Y (YZ (RL.cons (.int _ _) (RL.cons (.int _ _) (RL.cons (.str _) (RL.nil _)))))) Y) (nt (sr (lf (tI a.Rows) Y QmV Y Y QX (fO (OF.fieldAddrO (tv (T.op 2 0) Y) Qak) (cO (B.storeO (us:= [(tI a.Rows)]) (ws:= [(tI a.Rows),(tN 0),(tS ByteArray.empty)]) (tv (T.op 2 0) Y) (tv (tI a.Rows) Y) nofun Y Y (lb Y) YK Zl (bc Y bn) Y) (nt ?_)))))))))))
 refine sr (lf (tI a.Cols) Y QmP Y Y QX (fO (OF.fieldAddrO (tv (T.op 2 0) Y) Zo) (cO (B.storeO (us:= [(tI a.Cols)]) (ws:= [(tI a.Rows),(tI a.Cols),(tS ByteArray.empty)]) (tv (T.op 2 1) Y) (tv (tI a.Cols) Y) nofun Y Y (lb Y) YK Zl (bc Y bn) Y) (nt (sr (lf (tS a.Cells) Y QjU Y Y Ye (fO (OF.fieldAddrO (tv (T.op 2 0) Y) QI) (cO (B.storeO (us:= [(tS a.Cells)]) (ws:= [(tI a.Rows),(tI a.Cols),(tS a.Cells)]) (tv (T.op 2 2) Y) (tv (tS a.Cells) Y) nofun Y Y (lb Y) if9 sz9 (bc Y bn) Y) (nt (sr (lO (OL.loadOn (us:=(Qb false a)) (tv (T.op 2 0) Y) Y Q3 QY (lb Y) Y) ?_)))))))))))
 refine cO (B.storeW (us:=(Qb false a)) (tv (T.op 1 0) Y) (tv (T.agg (Qb false a)) Y) nofun Y Y Y Qid QY (bc Y (bc Y (bc Y bn)))) (nt (rt ?_))
 refine vfin.eq (r':=(T.agg (Qb false a))) ?_ (vfin.r (VRes.celln (ws:=(Qb false a)) Y Y Q3 QY (lb Y) Y VRes.nil) (Give.agg (GiveL.cons (Give.int _ _) (GiveL.cons (Give.int _ _) (GiveL.cons (Give.str _) GiveL.nil (by decide)) (by decide)) (by decide))))
 rfl
theorem QfC (n:Nat) (a:D.Step):Pure (Qr Tryz.prog (n+1)) 102 [(T.agg (Qg false a))] (T.agg (Qg true a)):=by
 refine Pure.intro (rs:= [ResultVar.cell 2 105]) Tryz.func102 Y Y Y (E0:= [(0,(T.agg (Qg false a)))]) Y ?_
 obtain ⟨hlim,hmx,hmax⟩:=QE
 refine sr (kO (B.box (ts:=(Qg false a)) (tv (T.agg (Qg false a)) Y) nofun Y) (kO (B.alloc (t:=(T.agg [(tN 0),(tS ByteArray.empty),(tN 0),(tN 0)])) (ts:= [(tN 0),(tS ByteArray.empty),(tN 0),(tN 0)]) QdG QdC nofun (fun _=> .agg _ _ Y (YZ (RL.cons (.int _ _) (RL.cons (.str _) (RL.cons (.int _ _) (RL.cons (.int _ _) (RL.nil _))))))) Y) (nt (sr (kO (B.alloc (t:=(T.agg [(tN 0),(tS ByteArray.empty),(tN 0),(tN 0)])) (ts:= [(tN 0),(tS ByteArray.empty),(tN 0),(tN 0)]) QdG QdC nofun (fun _=> .agg _ _ Y (YZ (RL.cons (.int _ _) (RL.cons (.str _) (RL.cons (.int _ _) (RL.cons (.int _ _) (RL.nil _))))))) Y) (nt (sr (lf (tI a.Kind) Y Qlm Y Y QX (fO (OF.fieldAddrO (tv (T.op 2 0) Y) QV) (cO (B.storeO (us:= [(tI a.Kind)]) (ws:= [(tI a.Kind),(tS ByteArray.empty),(tN 0),(tN 0)]) (tv (T.op 2 0) Y) (tv (tI a.Kind) Y) nofun Y Y (lb Y) YK Zl (bc Y bn) Y) (nt ?_)))))))))))
 refine sr (lf (tS a.Word) Y QiG Y Y Ye (fO (OF.fieldAddrO (tv (T.op 2 0) Y) YU) (cO (B.storeO (us:= [(tS a.Word)]) (ws:= [(tI a.Kind),(tS a.Word),(tN 0),(tN 0)]) (tv (T.op 2 1) Y) (tv (tS a.Word) Y) nofun Y Y (lb Y) if9 sz9 (bc Y bn) Y) (nt (sr (lf (tI a.A) Y QlE Y Y QX (fO (OF.fieldAddrO (tv (T.op 2 0) Y) Z4) (cO (B.storeO (us:= [(tI a.A)]) (ws:= [(tI a.Kind),(tS a.Word),(tI a.A),(tN 0)]) (tv (T.op 2 2) Y) (tv (tI a.A) Y) nofun Y Y (lb Y) YK Zl (bc Y bn) Y) (nt (sr (lf (tI a.B) Y QlD Y Y QX ?_)))))))))))
 refine fO (OF.fieldAddrO (tv (T.op 2 0) Y) ZV) (cO (B.storeO (us:= [(tI a.B)]) (ws:= [(tI a.Kind),(tS a.Word),(tI a.A),(tI a.B)]) (tv (T.op 2 3) Y) (tv (tI a.B) Y) nofun Y Y (lb Y) YK Zl (bc Y bn) Y) (nt (sr (lO (OL.loadOn (us:=(Qg false a)) (tv (T.op 2 0) Y) Y QcT ZQ (lb Y) Y) (cO (B.storeW (us:=(Qg false a)) (tv (T.op 1 0) Y) (tv (T.agg (Qg false a)) Y) nofun Y Y Y YA ZQ (bc Y (bc Y (bc Y (bc Y bn))))) (nt (rt ?_)))))))
 refine vfin.eq (r':=(T.agg (Qg false a))) ?_ (vfin.r (VRes.celln (ws:=(Qg false a)) Y Y QcT ZQ (lb Y) Y VRes.nil) (Give.agg (GiveL.cons (Give.int _ _) (GiveL.cons (Give.str _) (GiveL.cons (Give.int _ _) (GiveL.cons (Give.int _ _) GiveL.nil (by decide)) (by decide)) (by decide)) (by decide))))
 rfl
theorem QeA (n:Nat) (a:List D.Step) (ha:a.length≤mx):Pure (Qr Tryz.prog (n+2)) 77 [(rd 4 Qg a)] (T.sl true 4 (a.map (Qg true))):=by
 refine Pure.intro (rs:= [ResultVar.tmp 2]) Tryz.func77 Y Y Y (E0:= [(0,(rd 4 Qg a))]) Y ?_
 obtain ⟨hlim,hmx,hmax⟩:=QE
 refine sr (fO (OF.assign VEv.nils) (nt (sr (mO (rd 4 Qg a) Y (lO (B.lenR (m:=a.length) (tv (rd 4 Qg a) Y) U77 (List.length_map ..)) (kO (B.makeZ (n:=a.length) (m:=((List.replicate a.length (D.Step.mk 0 ByteArray.empty 0 0)).map (Qg true)).length) (rows:=((List.replicate a.length (D.Step.mk 0 ByteArray.empty 0 0)).map (Qg true))) (zr:=(Qg true (D.Step.mk 0 ByteArray.empty 0 0))) (tv (tN a.length) Y) (tv (tN a.length) Y) Y U72 QdG QdC Y (by rw [ZQ];decide) (by omega) (of_decide_eq_true (by kernel_rfl)) (Z0.int (Z0.str (Z0.int (Z0.int Z0.nil)))) ZQ (List.map_replicate ..).symm (by rw [List.length_map,List.length_replicate])) (aO (T.os 4 0 0 (((List.replicate a.length (D.Step.mk 0 ByteArray.empty 0 0)).map (Qg true)).length)) Y (nt (sq (sr (fO (OF.assign (VEv.int .i64 0)) ?_)))))))))))
 refine nt (VRun.block ?_)
 have he1:(List.replicate a.length (D.Step.mk 0 ByteArray.empty 0 0))=(a.take 0++List.replicate (a.length - 0) (D.Step.mk 0 ByteArray.empty 0 0)):=by rfl
 refine VRun.loop (A:=Nat) (fun s_=> [(0,(rd 4 Qg a)),(2,T.nils),(3,(T.os 4 0 0 (((a.take s_++List.replicate (a.length - s_) (D.Step.mk 0 ByteArray.empty 0 0)).map (Qg true)).length))),(4,(tN s_))]) (fun s_=>Q5 [(0,(Obj.rows 4 ((a.take s_++List.replicate (a.length - s_) (D.Step.mk 0 ByteArray.empty 0 0)).map (Qg true))))]) 1 (fun s_=>s_≤a.length) (fun s_=>a.length - s_) (0:Nat) ?_ (Wk.mk (fun k=>k) ?_ ?_ ?_) ?_
 ·(simp;done)
 ·exact (b2 (b2 (bc ⟨(congrArg (fun l_=>T.os 4 0 0 (List.map (Qg true) l_).length) he1),rfl⟩ (b2 bn))))
 ·exact (bc ⟨(congrArg (fun l_=>some (Obj.rows 4 (List.map (Qg true) l_))) he1),(lb Y),rfl⟩ bn)
 ·exact nd Y
 rintro i (hI':i≤a.length)
 show VRun _ _ _ [(0,(rd 4 Qg a)),(2,T.nils),(3,(T.os 4 0 0 (((a.take i++List.replicate (a.length - i) (D.Step.mk 0 ByteArray.empty 0 0)).map (Qg true)).length))),(4,(tN i))] (Q5 [(0,(Obj.rows 4 ((a.take i++List.replicate (a.length - i) (D.Step.mk 0 ByteArray.empty 0 0)).map (Qg true))))]) 1 _
 have hfl:=QgE (w:=(D.Step.mk 0 ByteArray.empty 0 0)) hI'
 refine sq (sr (mO (tN i) Y (mO (rd 4 Qg a) Y (lO (B.lenR (m:=a.length) (tv (rd 4 Qg a) Y) U77 (List.length_map ..)) (fO (Zg (tv (tN i) Y) (tv (tN a.length) Y)) (nt ?_))))))
 refine cd (i<a.length) Y (fun fhc0=> ?_) fun fhc0=> ?_
 ·refine sk ?_
  refine tn (sq (VRun.block (VRun.region (mO (T.os 4 0 0 (((a.take i++List.replicate (a.length - i) (D.Step.mk 0 ByteArray.empty 0 0)).map (Qg true)).length)) Y (mO (tN i) Y (mO (rd 4 Qg a) Y (mO (tN i) Y ?_)))))))
  obtain ⟨x1,hx1⟩:∃x,a[i]? =some x:=⟨_,List.getElem?_eq_getElem (by omega)⟩
  refine fO (OF.indexAddrR (row:=(Qg false x1)) (i:=i) (tv (rd 4 Qg a) Y) (tv (tN i) Y) Y (Qt _ hx1) U77 QiP Ql5) (lO (OL.loadRn (us:=(Qg false x1)) (tv (T.rp (Qg false x1)) Y) Ql0 QiP (lb Y) Y) (cO (cS (vc (tv (T.agg (Qg false x1)) Y) vn) (LendL.cons (lg okeStep) ln) (QfC (n+0) x1) Y Y) ?_))
  obtain ⟨x2,hx2⟩:∃x,(a.take i++List.replicate (a.length - i) (D.Step.mk 0 ByteArray.empty 0 0))[i]? =some x:=⟨_,List.getElem?_eq_getElem (by omega)⟩
  refine fO (B.indexAddrO (i:=i) (tv (T.os 4 0 0 (((a.take i++List.replicate (a.length - i) (D.Step.mk 0 ByteArray.empty 0 0)).map (Qg true)).length)) Y) (tv (tN i) Y) Y (by (simp only [List.length_map];omega)) U72 ZQ YA) (cO (B.storeP (us:=(Qg true x1)) (rows':=(((a.take i++List.replicate (a.length - i) (D.Step.mk 0 ByteArray.empty 0 0)).set i x1).map (Qg true))) (row:=(Qg true x2)) (tv (T.orp 4 0 i 0) Y) (tv (T.agg (Qg true x1)) Y) nofun Y (Qt _ hx2) Y (lb Y) YA ZQ (bc Y (bc Y (bc Y (bc Y bn)))) (by intro r hr t ht;obtain ⟨x,_,rfl⟩:=List.mem_map.1 hr;rw [Qe5] at ht;exact ZD (okeStep.pl _ t ht)) (Zy Y)) (VRunO.nil (vinB.n (tn (VRun.region (mO (tN i) Y (fO (QB (tv (tN i) Y) (VEv.int .i64 1) (by omega)) (aO (tN (i+1)) Y (VRunO.nil (tn ?_))))))))))
  have he2:((a.take i++List.replicate (a.length - i) (D.Step.mk 0 ByteArray.empty 0 0)).set i x1)=(a.take (i+1)++List.replicate (a.length - (i+1)) (D.Step.mk 0 ByteArray.empty 0 0)):=by exact Qbv hx1
  refine ⟨(i+1:Nat),?_,?_,Wk.mk (fun k=>k) ?_ ?_ ?_⟩
  ·trivial
  ·omega
  ·exact (b2 (b2 (bc ⟨(congrArg (fun n_=>T.os 4 0 0 n_) (show ((a.take i++List.replicate (a.length - i) (D.Step.mk 0 ByteArray.empty 0 0)).map (Qg true)).length=((a.take (i+1)++List.replicate (a.length - (i+1)) (D.Step.mk 0 ByteArray.empty 0 0)).map (Qg true)).length from (by (simp only [List.length_map,List.length_set,List.length_append,List.length_take,List.length_replicate,List.length_cons,List.length_nil];omega)))),rfl⟩ (b2 bn))))
  ·exact (bc ⟨(congrArg (fun l_=>some (Obj.rows 4 (List.map (Qg true) l_))) he2),(lb Y),rfl⟩ bn)
  ·exact nd Y
 refine VRun.exit (vthn.e (vthn.e (vinB.e (tn (sr (mO (T.os 4 0 0 (((a.take i++List.replicate (a.length - i) (D.Step.mk 0 ByteArray.empty 0 0)).map (Qg true)).length)) Y (aO (T.os 4 0 0 (((a.take i++List.replicate (a.length - i) (D.Step.mk 0 ByteArray.empty 0 0)).map (Qg true)).length)) Y (nt (rt ?_)))))))))
 refine vfin.eq (r':=(T.sl true 4 ((a.take i++List.replicate (a.length - i) (D.Step.mk 0 ByteArray.empty 0 0)).map (Qg true)))) ?_ (vfin.r (VRes.tmp (t:=(T.os 4 0 0 (((a.take i++List.replicate (a.length - i) (D.Step.mk 0 ByteArray.empty 0 0)).map (Qg true)).length))) Y VRes.nil) (Give.os Y Y (okeStep.cleanMap _)))
 refine congrArg (fun l_=>T.sl true 4 (List.map (Qg true) l_)) ?_
 exact QcV fhc0
theorem Qfu (n:Nat) (a:D.Clue) (ha:QO a≤mx):Pure (Qr Tryz.prog (n+3)) 54 [(T.agg (Qe false a))] (T.agg (Qe true a)):=by
 refine Pure.intro (rs:= [ResultVar.cell 2 74]) Tryz.func54 Y Y Y (E0:= [(0,(T.agg (Qe false a)))]) Y ?_
 obtain ⟨hlim,hmx,hmax⟩:=QE
 simp only [QO] at ha
 have hla_Play:=Zb (z:=Zf) a.Play
 refine sr (kO (B.box (ts:=(Qe false a)) (tv (T.agg (Qe false a)) Y) nofun Y) (kO (B.alloc (t:=(T.agg [(tN 0),T.nils])) (ts:= [(tN 0),T.nils]) QlI QlG nofun (fun _=> .agg _ _ Y (YZ (RL.cons (.int _ _) (RL.cons (.nils) (RL.nil _))))) Y) (nt (sr (kO (B.alloc (t:=(T.agg [(tN 0),T.nils])) (ts:= [(tN 0),T.nils]) QlI QlG nofun (fun _=> .agg _ _ Y (YZ (RL.cons (.int _ _) (RL.cons (.nils) (RL.nil _))))) Y) (nt (sr (lf (tI a.Sense) Y Qmh Y Y QX (fO (OF.fieldAddrO (tv (T.op 2 0) Y) Qa2) (cO (B.storeO (us:= [(tI a.Sense)]) (ws:= [(tI a.Sense),T.nils]) (tv (T.op 2 0) Y) (tv (tI a.Sense) Y) nofun Y Y (lb Y) YK Zl (bc Y bn) Y) (nt ?_)))))))))))
 refine sr (lf (rd 4 Qg a.Play) Y QjT Y Y QnX (cO (OC.callF (r':=(T.os 4 3 0 ((a.Play.map (Qg true)).length))) (objs:= [(Obj.rows 4 (a.Play.map (Qg true)))]) Y (vc (tv (rd 4 Qg a.Play) Y) vn) (ZH Y) (QeA (n+0) a.Play (by omega)) Y) (fO (OF.fieldAddrO (tv (T.op 2 0) Y) Qa5) (cO (B.storeO (us:= [(T.os 4 3 0 ((a.Play.map (Qg true)).length))]) (ws:= [(tI a.Sense),(T.os 4 3 0 ((a.Play.map (Qg true)).length))]) (tv (T.op 2 1) Y) (tv (T.os 4 3 0 ((a.Play.map (Qg true)).length)) Y) nofun Y Y (lb Y) QnU QnS (bc Y bn) Y) (nt (sr (lO (OL.loadOn (us:= [(tI a.Sense),(T.os 4 3 0 ((a.Play.map (Qg true)).length))]) (tv (T.op 2 0) Y) Y QdW Jj (lb Y) Y) (cO (B.storeW (us:= [(tI a.Sense),(T.os 4 3 0 ((a.Play.map (Qg true)).length))]) (tv (T.op 1 0) Y) (tv (T.agg [(tI a.Sense),(T.os 4 3 0 ((a.Play.map (Qg true)).length))]) Y) nofun Y Y Y Qd1 Jj (bc Y (bc Y bn))) (nt (rt ?_))))))))))
 refine vfin.eq (r':=(T.agg [(tI a.Sense),(T.sl true 4 (a.Play.map (Qg true)))])) ?_ (vfin.r (VRes.celln (ws:= [(tI a.Sense),(T.os 4 3 0 ((a.Play.map (Qg true)).length))]) Y Y QdW Jj (lb Y) Y VRes.nil) (Give.agg (GiveL.cons (Give.int _ _) (GiveL.cons (Give.os Y Y (okeStep.cleanMap _)) GiveL.nil (by decide)) (by decide))))
 rfl
theorem QeR (n:Nat) (a:List D.Clue) (ha:zL QO a≤mx):Pure (Qr Tryz.prog (n+4)) 33 [(rd 2 Qe a)] (T.sl true 2 (a.map (Qe true))):=by
 refine Pure.intro (rs:= [ResultVar.tmp 2]) Tryz.func33 Y Y Y (E0:= [(0,(rd 2 Qe a))]) Y ?_
 obtain ⟨hlim,hmx,hmax⟩:=QE
 have hla:=Zb (z:=QO) a
 refine sr (fO (OF.assign VEv.nils) (nt (sr (mO (rd 2 Qe a) Y (lO (B.lenR (m:=a.length) (tv (rd 2 Qe a) Y) U24 (List.length_map ..)) (kO (B.makeZ (n:=a.length) (m:=((List.replicate a.length (D.Clue.mk 0 [])).map (Qe true)).length) (rows:=((List.replicate a.length (D.Clue.mk 0 [])).map (Qe true))) (zr:=(Qe true (D.Clue.mk 0 []))) (tv (tN a.length) Y) (tv (tN a.length) Y) Y U34 QlI QlG Y (by rw [Jj];decide) (by omega) (of_decide_eq_true (by kernel_rfl)) (Z0.int (Z0.sl Z0.nil)) Jj (List.map_replicate ..).symm (by rw [List.length_map,List.length_replicate])) (aO (T.os 2 0 0 (((List.replicate a.length (D.Clue.mk 0 [])).map (Qe true)).length)) Y (nt (sq (sr (fO (OF.assign (VEv.int .i64 0)) ?_)))))))))))
 refine nt (VRun.block ?_)
 have he1:(List.replicate a.length (D.Clue.mk 0 []))=(a.take 0++List.replicate (a.length - 0) (D.Clue.mk 0 [])):=by rfl
 refine VRun.loop (A:=Nat) (fun s_=> [(0,(rd 2 Qe a)),(2,T.nils),(3,(T.os 2 0 0 (((a.take s_++List.replicate (a.length - s_) (D.Clue.mk 0 [])).map (Qe true)).length))),(4,(tN s_))]) (fun s_=>Q5 [(0,(Obj.rows 2 ((a.take s_++List.replicate (a.length - s_) (D.Clue.mk 0 [])).map (Qe true))))]) 1 (fun s_=>s_≤a.length) (fun s_=>a.length - s_) (0:Nat) ?_ (Wk.mk (fun k=>k) ?_ ?_ ?_) ?_
 ·(simp;done)
 ·exact (b2 (b2 (bc ⟨(congrArg (fun l_=>T.os 2 0 0 (List.map (Qe true) l_).length) he1),rfl⟩ (b2 bn))))
 ·exact (bc ⟨(congrArg (fun l_=>some (Obj.rows 2 (List.map (Qe true) l_))) he1),(lb Y),rfl⟩ bn)
 ·exact nd Y
 rintro i (hI':i≤a.length)
 show VRun _ _ _ [(0,(rd 2 Qe a)),(2,T.nils),(3,(T.os 2 0 0 (((a.take i++List.replicate (a.length - i) (D.Clue.mk 0 [])).map (Qe true)).length))),(4,(tN i))] (Q5 [(0,(Obj.rows 2 ((a.take i++List.replicate (a.length - i) (D.Clue.mk 0 [])).map (Qe true))))]) 1 _
 have hfl:=QgE (w:=(D.Clue.mk 0 [])) hI'
 refine sq (sr (mO (tN i) Y (mO (rd 2 Qe a) Y (lO (B.lenR (m:=a.length) (tv (rd 2 Qe a) Y) U24 (List.length_map ..)) (fO (Zg (tv (tN i) Y) (tv (tN a.length) Y)) (nt ?_))))))
 refine cd (i<a.length) Y (fun fhc0=> ?_) fun fhc0=> ?_
 ·refine sk ?_
  refine tn (sq (VRun.block (VRun.region (mO (T.os 2 0 0 (((a.take i++List.replicate (a.length - i) (D.Clue.mk 0 [])).map (Qe true)).length)) Y (mO (tN i) Y (mO (rd 2 Qe a) Y (mO (tN i) Y ?_)))))))
  obtain ⟨x1,hx1⟩:∃x,a[i]? =some x:=⟨_,List.getElem?_eq_getElem (by omega)⟩
  refine fO (OF.indexAddrR (row:=(Qe false x1)) (i:=i) (tv (rd 2 Qe a) Y) (tv (tN i) Y) Y (Qt _ hx1) U24 Qlr QnG) (lO (OL.loadRn (us:=(Qe false x1)) (tv (T.rp (Qe false x1)) Y) QnM Qlr (lb Y) Y) (cO (OC.callF (r':=(T.agg [(tI x1.Sense),(T.os 4 1 0 ((x1.Play.map (Qg true)).length))])) (objs:= [(Obj.rows 4 (x1.Play.map (Qg true)))]) Y (vc (tv (T.agg (Qe false x1)) Y) vn) (LendL.cons (lg okeClue) ln) (Qfu (n+0) x1 (by exact Nat.le_trans (QdD hx1) ha)) Y) ?_))
  obtain ⟨x2,hx2⟩:∃x,(a.take i++List.replicate (a.length - i) (D.Clue.mk 0 []))[i]? =some x:=⟨_,List.getElem?_eq_getElem (by omega)⟩
  refine fO (B.indexAddrO (i:=i) (tv (T.os 2 0 0 (((a.take i++List.replicate (a.length - i) (D.Clue.mk 0 [])).map (Qe true)).length)) Y) (tv (tN i) Y) Y (by (simp only [List.length_map];omega)) U34 Jj Qd1) (cO (B.storeB (us:= [(tI x1.Sense),(T.os 4 1 0 ((x1.Play.map (Qg true)).length))]) (ws:= [(tI x1.Sense),(T.sl true 4 (x1.Play.map (Qg true)))]) (rows':=(((a.take i++List.replicate (a.length - i) (D.Clue.mk 0 [])).set i x1).map (Qe true))) (row:=(Qe true x2)) (tv (T.orp 2 0 i 0) Y) (tv (T.agg [(tI x1.Sense),(T.os 4 1 0 ((x1.Play.map (Qg true)).length))]) Y) nofun Y (Qt _ hx2) Y (lb Y) Qd1 Jj (bc Y (bc Y bn)) (Bury.pl Y (Bury.os Y Y Bury.nil (by decide))) Y (by decide) (Zy Y)) (VRunO.nil (vinB.n (tn (VRun.region (mO (tN i) Y (fO (QB (tv (tN i) Y) (VEv.int .i64 1) (by omega)) (aO (tN (i+1)) Y (VRunO.nil (tn ?_))))))))))
  have he2:((a.take i++List.replicate (a.length - i) (D.Clue.mk 0 [])).set i x1)=(a.take (i+1)++List.replicate (a.length - (i+1)) (D.Clue.mk 0 [])):=by exact Qbv hx1
  refine ⟨(i+1:Nat),?_,?_,Wk.mk (fun k=>k) ?_ ?_ ?_⟩
  ·trivial
  ·omega
  ·exact (b2 (b2 (bc ⟨(congrArg (fun n_=>T.os 2 0 0 n_) (show ((a.take i++List.replicate (a.length - i) (D.Clue.mk 0 [])).map (Qe true)).length=((a.take (i+1)++List.replicate (a.length - (i+1)) (D.Clue.mk 0 [])).map (Qe true)).length from (by (simp only [List.length_map,List.length_set,List.length_append,List.length_take,List.length_replicate,List.length_cons,List.length_nil];omega)))),rfl⟩ (b2 bn))))
  ·exact (bc ⟨(congrArg (fun l_=>some (Obj.rows 2 (List.map (Qe true) l_))) he2),(lb Y),rfl⟩ bn)
  ·exact nd Y
 refine VRun.exit (vthn.e (vthn.e (vinB.e (tn (sr (mO (T.os 2 0 0 (((a.take i++List.replicate (a.length - i) (D.Clue.mk 0 [])).map (Qe true)).length)) Y (aO (T.os 2 0 0 (((a.take i++List.replicate (a.length - i) (D.Clue.mk 0 [])).map (Qe true)).length)) Y (nt (rt ?_)))))))))
 refine vfin.eq (r':=(T.sl true 2 ((a.take i++List.replicate (a.length - i) (D.Clue.mk 0 [])).map (Qe true)))) ?_ (vfin.r (VRes.tmp (t:=(T.os 2 0 0 (((a.take i++List.replicate (a.length - i) (D.Clue.mk 0 [])).map (Qe true)).length))) Y VRes.nil) (Give.os Y Y (okeClue.cleanMap _)))
 refine congrArg (fun l_=>T.sl true 2 (List.map (Qe true) l_)) ?_
 exact QcV fhc0
theorem QdO (n:Nat) (a:D.Puzzle) (ha:QP a≤mx):Pure (Qr Tryz.prog (n+5)) 8 [(T.agg (QD false a))] (T.agg (QD true a)):=by
 refine Pure.intro (rs:= [ResultVar.cell 2 36]) Tryz.func8 Y Y Y (E0:= [(0,(T.agg (QD false a)))]) Y ?_
 obtain ⟨hlim,hmx,hmax⟩:=QE
 simp only [QP] at ha
 have hla_Clues:=Zb (z:=QO) a.Clues
 have hla_Seals:=Zb (z:=zI) a.Seals
 refine sr (kO (B.box (ts:=(QD false a)) (tv (T.agg (QD false a)) Y) nofun Y) (kO (B.alloc (t:=(T.agg [(tN 0),(tN 0),(tS ByteArray.empty),T.nils,T.nils,(tN 0)])) (ts:= [(tN 0),(tN 0),(tS ByteArray.empty),T.nils,T.nils,(tN 0)]) Qnj QnH nofun (fun _=> .agg _ _ Y (YZ (RL.cons (.int _ _) (RL.cons (.int _ _) (RL.cons (.str _) (RL.cons (.nils) (RL.cons (.nils) (RL.cons (.int _ _) (RL.nil _))))))))) Y) (nt (sr (kO (B.alloc (t:=(T.agg [(tN 0),(tN 0),(tS ByteArray.empty),T.nils,T.nils,(tN 0)])) (ts:= [(tN 0),(tN 0),(tS ByteArray.empty),T.nils,T.nils,(tN 0)]) Qnj QnH nofun (fun _=> .agg _ _ Y (YZ (RL.cons (.int _ _) (RL.cons (.int _ _) (RL.cons (.str _) (RL.cons (.nils) (RL.cons (.nils) (RL.cons (.int _ _) (RL.nil _))))))))) Y) (nt (sr (fO (OF.fieldAddrO (tv (T.op 0 0) Y) QjX) (lO (OL.loadOn (us:=(Qb false a.Grid)) (tv (T.op 0 0) Y) Y Qnh QmZ (lb Y) Y) (cO (cS (vc (tv (T.agg (Qb false a.Grid)) Y) vn) (LendL.cons (lg Qs) ln) (QfQ (n+3) a.Grid) Y Y) (fO (OF.fieldAddrO (tv (T.op 2 0) Y) JM) ?_)))))))))))
 refine cO (B.storeO (us:=(Qb true a.Grid)) (ws:= [(tI a.Grid.Rows),(tI a.Grid.Cols),(tS a.Grid.Cells),T.nils,T.nils,(tN 0)]) (tv (T.op 2 0) Y) (tv (T.agg (Qb true a.Grid)) Y) nofun Y Y (lb Y) Qid QY (bc Y (bc Y (bc Y bn))) Y) (nt (sr (lf (rd 2 Qe a.Clues) Y Qkc Y Y Qnx (cO (OC.callF (r':=(T.os 2 3 0 ((a.Clues.map (Qe true)).length))) (objs:= [(Obj.rows 2 (a.Clues.map (Qe true)))]) Y (vc (tv (rd 2 Qe a.Clues) Y) vn) (ZH Y) (QeR (n+0) a.Clues (by first | assumption | omega)) Y) (fO (OF.fieldAddrO (tv (T.op 2 0) Y) Y9) (cO (B.storeO (us:= [(T.os 2 3 0 ((a.Clues.map (Qe true)).length))]) (ws:= [(tI a.Grid.Rows),(tI a.Grid.Cols),(tS a.Grid.Cells),(T.os 2 3 0 ((a.Clues.map (Qe true)).length)),T.nils,(tN 0)]) (tv (T.op 2 3) Y) (tv (T.os 2 3 0 ((a.Clues.map (Qe true)).length)) Y) nofun Y Y (lb Y) QnF QnQ (bc Y bn) Y) (nt (sr (lf (rd 1 Qc a.Seals) Y QkB Y Y QcB (cO (OC.callF (r':=(T.os 1 4 0 ((a.Seals.map (Qc true)).length))) (objs:= [(Obj.rows 1 (a.Seals.map (Qc true)))]) Y (vc (tv (rd 1 Qc a.Seals) Y) vn) (ZH Y) (QfG (n+3) a.Seals (by first | assumption | omega)) Y) (fO (OF.fieldAddrO (tv (T.op 2 0) Y) QaM) ?_)))))))))))
 refine cO (B.storeO (us:= [(T.os 1 4 0 ((a.Seals.map (Qc true)).length))]) (ws:= [(tI a.Grid.Rows),(tI a.Grid.Cols),(tS a.Grid.Cells),(T.os 2 3 0 ((a.Clues.map (Qe true)).length)),(T.os 1 4 0 ((a.Seals.map (Qc true)).length)),(tN 0)]) (tv (T.op 2 4) Y) (tv (T.os 1 4 0 ((a.Seals.map (Qc true)).length)) Y) nofun Y Y (lb Y) QiD QfR (bc Y bn) Y) (nt (sr (lf (tI a.Salt) Y QmY Y Y QX (fO (OF.fieldAddrO (tv (T.op 2 0) Y) Qcc) (cO (B.storeO (us:= [(tI a.Salt)]) (ws:= [(tI a.Grid.Rows),(tI a.Grid.Cols),(tS a.Grid.Cells),(T.os 2 3 0 ((a.Clues.map (Qe true)).length)),(T.os 1 4 0 ((a.Seals.map (Qc true)).length)),(tI a.Salt)]) (tv (T.op 2 5) Y) (tv (tI a.Salt) Y) nofun Y Y (lb Y) YK Zl (bc Y bn) Y) (nt (sr (lO (OL.loadOn (us:= [(tI a.Grid.Rows),(tI a.Grid.Cols),(tS a.Grid.Cells),(T.os 2 3 0 ((a.Clues.map (Qe true)).length)),(T.os 1 4 0 ((a.Seals.map (Qc true)).length)),(tI a.Salt)]) (tv (T.op 2 0) Y) Y QgP Qd5 (lb Y) Y) (cO (B.storeW (us:= [(tI a.Grid.Rows),(tI a.Grid.Cols),(tS a.Grid.Cells),(T.os 2 3 0 ((a.Clues.map (Qe true)).length)),(T.os 1 4 0 ((a.Seals.map (Qc true)).length)),(tI a.Salt)]) (tv (T.op 1 0) Y) (tv (T.agg [(tI a.Grid.Rows),(tI a.Grid.Cols),(tS a.Grid.Cells),(T.os 2 3 0 ((a.Clues.map (Qe true)).length)),(T.os 1 4 0 ((a.Seals.map (Qc true)).length)),(tI a.Salt)]) Y) nofun Y Y Y Qmg Qd5 (bc Y (bc Y (bc Y (bc Y (bc Y (bc Y bn))))))) (nt (rt ?_)))))))))))
 refine vfin.eq (r':=(T.agg [(tI a.Grid.Rows),(tI a.Grid.Cols),(tS a.Grid.Cells),(T.sl true 2 (a.Clues.map (Qe true))),(T.sl true 1 (a.Seals.map (Qc true))),(tI a.Salt)])) ?_ (vfin.r (VRes.celln (ws:= [(tI a.Grid.Rows),(tI a.Grid.Cols),(tS a.Grid.Cells),(T.os 2 3 0 ((a.Clues.map (Qe true)).length)),(T.os 1 4 0 ((a.Seals.map (Qc true)).length)),(tI a.Salt)]) Y Y QgP Qd5 (lb Y) Y VRes.nil) (Give.agg (GiveL.cons (Give.int _ _) (GiveL.cons (Give.int _ _) (GiveL.cons (Give.str _) (GiveL.cons (Give.os Y Y (okeClue.cleanMap _)) (GiveL.cons (Give.os Y Y (okInt.cleanMap _)) (GiveL.cons (Give.int _ _) GiveL.nil (by decide)) (by decide)) (by decide)) (by decide)) (by decide)) (by decide))))
 first | rfl | (exact Zd (by omega)) | (symm;rw [decide_eq_false_iff_not];omega) | (symm;rw [decide_eq_true_eq];omega) | (simp_all;done)
theorem YR (n:Nat) (a:D.Issue) (ha:Zq a≤mx):Pure (Qr Tryz.prog (n+6)) 17 [(T.agg (QG false a))] (T.agg (QG true a)):=by
 refine Pure.intro (rs:= [ResultVar.cell 2 48]) Tryz.func17 Y Y Y (E0:= [(0,(T.agg (QG false a)))]) Y ?_
 obtain ⟨hlim,hmx,hmax⟩:=QE
 simp only [Zq] at ha
 refine sr (kO (B.box (ts:=(QG false a)) (tv (T.agg (QG false a)) Y) nofun Y) (kO (B.alloc (t:=(T.agg [(tN 0),(tN 0),(tN 0),(tS ByteArray.empty),T.nils,T.nils,(tN 0),(tS ByteArray.empty),(tN 0),(tN 0)])) (ts:= [(tN 0),(tN 0),(tN 0),(tS ByteArray.empty),T.nils,T.nils,(tN 0),(tS ByteArray.empty),(tN 0),(tN 0)]) Qm3 QmQ nofun (fun _=> .agg _ _ Y (YZ (RL.cons (.int _ _) (RL.cons (.int _ _) (RL.cons (.int _ _) (RL.cons (.str _) (RL.cons (.nils) (RL.cons (.nils) (RL.cons (.int _ _) (RL.cons (.str _) (RL.cons (.int _ _) (RL.cons (.int _ _) (RL.nil _))))))))))))) Y) (nt (sr (kO (B.alloc (t:=(T.agg [(tN 0),(tN 0),(tN 0),(tS ByteArray.empty),T.nils,T.nils,(tN 0),(tS ByteArray.empty),(tN 0),(tN 0)])) (ts:= [(tN 0),(tN 0),(tN 0),(tS ByteArray.empty),T.nils,T.nils,(tN 0),(tS ByteArray.empty),(tN 0),(tN 0)]) Qm3 QmQ nofun (fun _=> .agg _ _ Y (YZ (RL.cons (.int _ _) (RL.cons (.int _ _) (RL.cons (.int _ _) (RL.cons (.str _) (RL.cons (.nils) (RL.cons (.nils) (RL.cons (.int _ _) (RL.cons (.str _) (RL.cons (.int _ _) (RL.cons (.int _ _) (RL.nil _))))))))))))) Y) (nt (sr (lf (tI a.Number) Y QmS Y Y QX (fO (OF.fieldAddrO (tv (T.op 2 0) Y) Qfg) (cO (B.storeO (us:= [(tI a.Number)]) (ws:= [(tI a.Number),(tN 0),(tN 0),(tS ByteArray.empty),T.nils,T.nils,(tN 0),(tS ByteArray.empty),(tN 0),(tN 0)]) (tv (T.op 2 0) Y) (tv (tI a.Number) Y) nofun Y Y (lb Y) YK Zl (bc Y bn) Y) (nt ?_)))))))))))
 refine sr (fO (OF.fieldAddrO (tv (T.op 0 0) Y) Qld) (lO (OL.loadOn (us:=(QD false a.Puzzle)) (tv (T.op 0 1) Y) Y Qnr Qmz (lb Y) Y) (cO (OC.callF (r':=(T.agg [(tI a.Puzzle.Grid.Rows),(tI a.Puzzle.Grid.Cols),(tS a.Puzzle.Grid.Cells),(T.os 2 3 0 ((a.Puzzle.Clues.map (Qe true)).length)),(T.os 1 4 0 ((a.Puzzle.Seals.map (Qc true)).length)),(tI a.Puzzle.Salt)])) (objs:= [(Obj.rows 2 (a.Puzzle.Clues.map (Qe true))),(Obj.rows 1 (a.Puzzle.Seals.map (Qc true)))]) Y (vc (tv (T.agg (QD false a.Puzzle)) Y) vn) (LendL.cons (lg YI) ln) (QdO (n+0) a.Puzzle (by first | assumption | omega)) Y) (fO (OF.fieldAddrO (tv (T.op 2 0) Y) QaF) (cO (B.storeO (us:= [(tI a.Puzzle.Grid.Rows),(tI a.Puzzle.Grid.Cols),(tS a.Puzzle.Grid.Cells),(T.os 2 3 0 ((a.Puzzle.Clues.map (Qe true)).length)),(T.os 1 4 0 ((a.Puzzle.Seals.map (Qc true)).length)),(tI a.Puzzle.Salt)]) (ws:= [(tI a.Number),(tI a.Puzzle.Grid.Rows),(tI a.Puzzle.Grid.Cols),(tS a.Puzzle.Grid.Cells),(T.os 2 3 0 ((a.Puzzle.Clues.map (Qe true)).length)),(T.os 1 4 0 ((a.Puzzle.Seals.map (Qc true)).length)),(tI a.Puzzle.Salt),(tS ByteArray.empty),(tN 0),(tN 0)]) (tv (T.op 2 1) Y) (tv (T.agg [(tI a.Puzzle.Grid.Rows),(tI a.Puzzle.Grid.Cols),(tS a.Puzzle.Grid.Cells),(T.os 2 3 0 ((a.Puzzle.Clues.map (Qe true)).length)),(T.os 1 4 0 ((a.Puzzle.Seals.map (Qc true)).length)),(tI a.Puzzle.Salt)]) Y) nofun Y Y (lb Y) Qmg Qd5 (bc Y (bc Y (bc Y (bc Y (bc Y (bc Y bn)))))) Y) (nt (sr (lf (tS a.Fill) Y QjZ Y Y Ye (fO (OF.fieldAddrO (tv (T.op 2 0) Y) QeI) (cO (B.storeO (us:= [(tS a.Fill)]) (ws:= [(tI a.Number),(tI a.Puzzle.Grid.Rows),(tI a.Puzzle.Grid.Cols),(tS a.Puzzle.Grid.Cells),(T.os 2 3 0 ((a.Puzzle.Clues.map (Qe true)).length)),(T.os 1 4 0 ((a.Puzzle.Seals.map (Qc true)).length)),(tI a.Puzzle.Salt),(tS a.Fill),(tN 0),(tN 0)]) (tv (T.op 2 7) Y) (tv (tS a.Fill) Y) nofun Y Y (lb Y) if9 sz9 (bc Y bn) Y) (nt ?_)))))))))))
 refine sr (lf (tI a.Open) Y QmA Y Y QX (fO (OF.fieldAddrO (tv (T.op 2 0) Y) QaD) (cO (B.storeO (us:= [(tI a.Open)]) (ws:= [(tI a.Number),(tI a.Puzzle.Grid.Rows),(tI a.Puzzle.Grid.Cols),(tS a.Puzzle.Grid.Cells),(T.os 2 3 0 ((a.Puzzle.Clues.map (Qe true)).length)),(T.os 1 4 0 ((a.Puzzle.Seals.map (Qc true)).length)),(tI a.Puzzle.Salt),(tS a.Fill),(tI a.Open),(tN 0)]) (tv (T.op 2 8) Y) (tv (tI a.Open) Y) nofun Y Y (lb Y) YK Zl (bc Y bn) Y) (nt (sr (lf (tI a.Close) Y QmG Y Y QX (fO (OF.fieldAddrO (tv (T.op 2 0) Y) QbZ) (cO (B.storeO (us:= [(tI a.Close)]) (ws:= [(tI a.Number),(tI a.Puzzle.Grid.Rows),(tI a.Puzzle.Grid.Cols),(tS a.Puzzle.Grid.Cells),(T.os 2 3 0 ((a.Puzzle.Clues.map (Qe true)).length)),(T.os 1 4 0 ((a.Puzzle.Seals.map (Qc true)).length)),(tI a.Puzzle.Salt),(tS a.Fill),(tI a.Open),(tI a.Close)]) (tv (T.op 2 9) Y) (tv (tI a.Close) Y) nofun Y Y (lb Y) YK Zl (bc Y bn) Y) (nt (sr (lO (OL.loadOn (us:= [(tI a.Number),(tI a.Puzzle.Grid.Rows),(tI a.Puzzle.Grid.Cols),(tS a.Puzzle.Grid.Cells),(T.os 2 3 0 ((a.Puzzle.Clues.map (Qe true)).length)),(T.os 1 4 0 ((a.Puzzle.Seals.map (Qc true)).length)),(tI a.Puzzle.Salt),(tS a.Fill),(tI a.Open),(tI a.Close)]) (tv (T.op 2 0) Y) Y Qh3 Qgj (lb Y) Y) ?_)))))))))))
 refine cO (B.storeW (us:= [(tI a.Number),(tI a.Puzzle.Grid.Rows),(tI a.Puzzle.Grid.Cols),(tS a.Puzzle.Grid.Cells),(T.os 2 3 0 ((a.Puzzle.Clues.map (Qe true)).length)),(T.os 1 4 0 ((a.Puzzle.Seals.map (Qc true)).length)),(tI a.Puzzle.Salt),(tS a.Fill),(tI a.Open),(tI a.Close)]) (tv (T.op 1 0) Y) (tv (T.agg [(tI a.Number),(tI a.Puzzle.Grid.Rows),(tI a.Puzzle.Grid.Cols),(tS a.Puzzle.Grid.Cells),(T.os 2 3 0 ((a.Puzzle.Clues.map (Qe true)).length)),(T.os 1 4 0 ((a.Puzzle.Seals.map (Qc true)).length)),(tI a.Puzzle.Salt),(tS a.Fill),(tI a.Open),(tI a.Close)]) Y) nofun Y Y Y Qnn Qgj (bc Y (bc Y (bc Y (bc Y (bc Y (bc Y (bc Y (bc Y (bc Y (bc Y bn))))))))))) (nt (rt ?_))
 refine vfin.eq (r':=(T.agg [(tI a.Number),(tI a.Puzzle.Grid.Rows),(tI a.Puzzle.Grid.Cols),(tS a.Puzzle.Grid.Cells),(T.sl true 2 (a.Puzzle.Clues.map (Qe true))),(T.sl true 1 (a.Puzzle.Seals.map (Qc true))),(tI a.Puzzle.Salt),(tS a.Fill),(tI a.Open),(tI a.Close)])) ?_ (vfin.r (VRes.celln (ws:= [(tI a.Number),(tI a.Puzzle.Grid.Rows),(tI a.Puzzle.Grid.Cols),(tS a.Puzzle.Grid.Cells),(T.os 2 3 0 ((a.Puzzle.Clues.map (Qe true)).length)),(T.os 1 4 0 ((a.Puzzle.Seals.map (Qc true)).length)),(tI a.Puzzle.Salt),(tS a.Fill),(tI a.Open),(tI a.Close)]) Y Y Qh3 Qgj (lb Y) Y VRes.nil) (Give.agg (GiveL.cons (Give.int _ _) (GiveL.cons (Give.int _ _) (GiveL.cons (Give.int _ _) (GiveL.cons (Give.str _) (GiveL.cons (Give.os Y Y (okeClue.cleanMap _)) (GiveL.cons (Give.os Y Y (okInt.cleanMap _)) (GiveL.cons (Give.int _ _) (GiveL.cons (Give.str _) (GiveL.cons (Give.int _ _) (GiveL.cons (Give.int _ _) GiveL.nil (by decide)) (by decide)) (by decide)) (by decide)) (by decide)) (by decide)) (by decide)) (by decide)) (by decide)) (by decide))))
 first | rfl | (exact Zd (by omega)) | (symm;rw [decide_eq_false_iff_not];omega) | (symm;rw [decide_eq_true_eq];omega) | (simp_all;done)
theorem QfF (n:Nat) (a:List Int) (b:List Int) (hla:a.length≤mx) (hlb:b.length≤mx):Pure (Qr Tryz.prog (n+1)) 38 [(rd 1 Qc a),(rd 1 Qc b)] (tB (decide (a=b))):=by
 refine Pure.intro (rs:= [ResultVar.tmp 4]) Tryz.func38 Y Y Y (E0:= [(0,(rd 1 Qc a)),(1,(rd 1 Qc b))]) Y ?_
 obtain ⟨hlim,hmx,hmax⟩:=QE
 refine sr (fO (OF.assign (VEv.bool false)) (nt (sq (sr (mO (rd 1 Qc a) Y (lO (B.lenR (m:=a.length) (tv (rd 1 Qc a) Y) ZA (List.length_map ..)) (mO (rd 1 Qc b) Y (lO (B.lenR (m:=b.length) (tv (rd 1 Qc b) Y) ZA (List.length_map ..)) (fO (Qhk (tv (tN a.length) Y) (tv (tN b.length) Y)) (nt ?_))))))))))
 refine cn (a.length=b.length) Y (fun fhc0=> ?_) fun fhc0=> ?_
 ·refine sr ?_
  refine fO (OF.assign (VEv.bool false)) (nt (rt (tr (vb (b':=false) Y ?_))))
  symm;rw [decide_eq_false_iff_not];rintro rfl;exact fhc0 Y
 refine sk (tn (sq (sr (fO (OF.assign (VEv.int .i64 0)) (nt (VRun.block ?_))))))
 refine VRun.loop (A:=Nat) (fun s_=> [(0,(rd 1 Qc a)),(1,(rd 1 Qc b)),(5,(tN s_))]) (fun s_=>Q5 []) 0 (fun s_=>s_≤a.length∧∀j,j<s_→a[j]? =b[j]?) (fun s_=>a.length - s_) (0:Nat) ?_ (Wk.mk (fun k=>k) ?_ ?_ ?_) ?_
 ·(simp;done)
 ·exact (b2 (b2 (b2 bn)))
 ·exact bn
 ·exact nd Y
 rintro i (hI':i≤a.length∧∀j,j<i→a[j]? =b[j]?)
 show VRun _ _ _ [(0,(rd 1 Qc a)),(1,(rd 1 Qc b)),(5,(tN i))] (Q5 []) 0 _
 refine sq (sr (mO (tN i) Y (mO (rd 1 Qc a) Y (lO (B.lenR (m:=a.length) (tv (rd 1 Qc a) Y) ZA (List.length_map ..)) (fO (Zg (tv (tN i) Y) (tv (tN a.length) Y)) (nt ?_))))))
 refine cd (i<a.length) Y (fun fhc1=> ?_) fun fhc1=> ?_
 ·refine sk ?_
  refine tn (sq (VRun.block (sq (VRun.draw (B:= [[],[],[1,0],[0,1,2],[],[],[5,4],[4,5,6],[6,5,4,7,2,1,0,3]]) (by kernel_rfl) (by kernel_rfl) (mD (rd 1 Qc a) Y Y (mD (tN i) Y Y ?_))))))
  obtain ⟨x1,hx1⟩:∃x,a[i]? =some x:=⟨_,List.getElem?_eq_getElem (by omega)⟩
  refine fD (OF.indexAddrR (row:=(Qc false x1)) (i:=i) (tv (rd 1 Qc a) Y) (tv (tN i) Y) Y (Qt _ hx1) ZA Zl YK) Y Y (lD (OL.loadR1 (t:=(tI x1)) (tv (T.rp [(tI x1)]) Y) Y QX) Y Y (mD (rd 1 Qc b) Y Y (mD (tN i) Y Y ?_)))
  obtain ⟨x2,hx2⟩:∃x,b[i]? =some x:=⟨_,List.getElem?_eq_getElem (by omega)⟩
  refine fD (OF.indexAddrR (row:=(Qc false x2)) (i:=i) (tv (rd 1 Qc b) Y) (tv (tN i) Y) Y (Qt _ hx2) ZA Zl YK) Y Y (lD (OL.loadR1 (t:=(tI x2)) (tv (T.rp [(tI x2)]) Y) Y QX) Y Y (fD (xne (tv (tI x1) Y) (tv (tI x2) Y)) Y Y (VRunD.nil (tn ?_))))
  refine cn (x1=x2) Y (fun fhc2=> ?_) fun fhc2=> ?_
  ·refine sr ?_
   refine fO (OF.assign (VEv.bool false)) (nt (rt (vinB.r (tr (tr (vinB.r (tr (vb (b':=false) Y ?_))))))))
   symm;rw [decide_eq_false_iff_not];exact Qbz hx1 hx2 fhc2
  refine sk (vinB.n (tn (VRun.region (mO (tN i) Y (fO (QB (tv (tN i) Y) (VEv.int .i64 1) (by omega)) (aO (tN (i+1)) Y (VRunO.nil (tn ?_))))))))
  refine ⟨(i+1:Nat),?_,?_,Wk.mk (fun k=>k) ?_ ?_ ?_⟩
  ·exact QaH hI' hx1 hx2 fhc2
  ·omega
  ·exact (b2 (b2 (b2 bn)))
  ·exact bn
  ·exact nd Y
 refine VRun.exit (vthn.e (vthn.e (vinB.e (tn (sr (fO (OF.assign (VEv.bool true)) (nt (rt (vb (b':=true) Y ?_)))))))))
 symm;rw [decide_eq_true_eq];exact QbA hI' fhc0 fhc1
theorem QfI (n:Nat) (a:D.Grid) (b:D.Grid):Pure (Qr Tryz.prog (n+1)) 39 [(T.agg (Qb false a)),(T.agg (Qb false b))] (tB (decide (a=b))):=by
 refine Pure.intro (rs:= [ResultVar.tmp 4]) Tryz.func39 Y Y Y (E0:= [(0,(T.agg (Qb false a))),(1,(T.agg (Qb false b)))]) Y ?_
 obtain ⟨hlim,hmx,hmax⟩:=QE
 refine sr (kO (B.box (ts:=(Qb false a)) (tv (T.agg (Qb false a)) Y) nofun Y) (kO (B.box (ts:=(Qb false b)) (tv (T.agg (Qb false b)) Y) nofun Y) (fO (OF.assign (VEv.bool false)) (nt (sq (sr (lf (tI a.Rows) Y Qak Y Y QX (lf (tI b.Rows) Y Qak Y Y QX (fO (xne (tv (tI a.Rows) Y) (tv (tI b.Rows) Y)) (nt ?_))))))))))
 refine cn (a.Rows=b.Rows) Y (fun fhc0=> ?_) fun fhc0=> ?_
 ·refine sr ?_
  refine fO (OF.assign (VEv.bool false)) (nt (rt (tr (vb (b':=false) Y ?_))))
  obtain ⟨a0,a1,a2⟩:=a
  obtain ⟨b0,b1,b2⟩:=b
  simp_all
 refine sk (tn (sq (sr (lf (tI a.Cols) Y Zo Y Y QX (lf (tI b.Cols) Y Zo Y Y QX (fO (xne (tv (tI a.Cols) Y) (tv (tI b.Cols) Y)) (nt ?_)))))))
 refine cn (a.Cols=b.Cols) Y (fun fhc1=> ?_) fun fhc1=> ?_
 ·refine sr ?_
  refine fO (OF.assign (VEv.bool false)) (nt (rt (tr (vb (b':=false) Y ?_))))
  obtain ⟨a0,a1,a2⟩:=a
  obtain ⟨b0,b1,b2⟩:=b
  simp_all
 refine sk (tn (sq (sr (lf (tS a.Cells) Y QI Y Y Ye (lf (tS b.Cells) Y QI Y Y Ye (fO (B.sneq (c:=(!(decide (a.Cells=b.Cells)))) (tv (tS a.Cells) Y) (tv (tS b.Cells) Y) Y) (nt ?_)))))))
 refine cn (a.Cells=b.Cells) Y (fun fhc2=> ?_) fun fhc2=> ?_
 ·refine sr ?_
  refine fO (OF.assign (VEv.bool false)) (nt (rt (tr (vb (b':=false) Y ?_))))
  obtain ⟨a0,a1,a2⟩:=a
  obtain ⟨b0,b1,b2⟩:=b
  simp_all
 refine sk (tn (sr (fO (OF.assign (VEv.bool true)) (nt (rt (vb (b':=true) Y ?_))))))
 obtain ⟨a0,a1,a2⟩:=a
 obtain ⟨b0,b1,b2⟩:=b
 simp_all
theorem Qfp (n:Nat) (a:D.Step) (b:D.Step):Pure (Qr Tryz.prog (n+1)) 118 [(T.agg (Qg false a)),(T.agg (Qg false b))] (tB (decide (a=b))):=by
 refine Pure.intro (rs:= [ResultVar.tmp 4]) Tryz.func118 Y Y Y (E0:= [(0,(T.agg (Qg false a))),(1,(T.agg (Qg false b)))]) Y ?_
 obtain ⟨hlim,hmx,hmax⟩:=QE
 refine sr (kO (B.box (ts:=(Qg false a)) (tv (T.agg (Qg false a)) Y) nofun Y) (kO (B.box (ts:=(Qg false b)) (tv (T.agg (Qg false b)) Y) nofun Y) (fO (OF.assign (VEv.bool false)) (nt (sq (sr (lf (tI a.Kind) Y QV Y Y QX (lf (tI b.Kind) Y QV Y Y QX (fO (xne (tv (tI a.Kind) Y) (tv (tI b.Kind) Y)) (nt ?_))))))))))
 refine cn (a.Kind=b.Kind) Y (fun fhc0=> ?_) fun fhc0=> ?_
 ·refine sr ?_
  refine fO (OF.assign (VEv.bool false)) (nt (rt (tr (vb (b':=false) Y ?_))))
  obtain ⟨a0,a1,a2,a3⟩:=a
  obtain ⟨b0,b1,b2,b3⟩:=b
  simp_all
 refine sk (tn (sq (sr (lf (tS a.Word) Y YU Y Y Ye (lf (tS b.Word) Y YU Y Y Ye (fO (B.sneq (c:=(!(decide (a.Word=b.Word)))) (tv (tS a.Word) Y) (tv (tS b.Word) Y) Y) (nt ?_)))))))
 refine cn (a.Word=b.Word) Y (fun fhc1=> ?_) fun fhc1=> ?_
 ·refine sr ?_
  refine fO (OF.assign (VEv.bool false)) (nt (rt (tr (vb (b':=false) Y ?_))))
  obtain ⟨a0,a1,a2,a3⟩:=a
  obtain ⟨b0,b1,b2,b3⟩:=b
  simp_all
 refine sk (tn (sq (sr (lf (tI a.A) Y Z4 Y Y QX (lf (tI b.A) Y Z4 Y Y QX (fO (xne (tv (tI a.A) Y) (tv (tI b.A) Y)) (nt ?_)))))))
 refine cn (a.A=b.A) Y (fun fhc2=> ?_) fun fhc2=> ?_
 ·refine sr ?_
  refine fO (OF.assign (VEv.bool false)) (nt (rt (tr (vb (b':=false) Y ?_))))
  obtain ⟨a0,a1,a2,a3⟩:=a
  obtain ⟨b0,b1,b2,b3⟩:=b
  simp_all
 refine sk (tn (sq (sr (lf (tI a.B) Y ZV Y Y QX (lf (tI b.B) Y ZV Y Y QX (fO (xne (tv (tI a.B) Y) (tv (tI b.B) Y)) (nt ?_)))))))
 refine cn (a.B=b.B) Y (fun fhc3=> ?_) fun fhc3=> ?_
 ·refine sr ?_
  refine fO (OF.assign (VEv.bool false)) (nt (rt (tr (vb (b':=false) Y ?_))))
  obtain ⟨a0,a1,a2,a3⟩:=a
  obtain ⟨b0,b1,b2,b3⟩:=b
  simp_all
 refine sk (tn (sr (fO (OF.assign (VEv.bool true)) (nt (rt (vb (b':=true) Y ?_))))))
 obtain ⟨a0,a1,a2,a3⟩:=a
 obtain ⟨b0,b1,b2,b3⟩:=b
 simp_all
theorem QeT (n:Nat) (a:List D.Step) (b:List D.Step) (hla:a.length≤mx) (hlb:b.length≤mx):Pure (Qr Tryz.prog (n+2)) 86 [(rd 4 Qg a),(rd 4 Qg b)] (tB (decide (a=b))):=by
 refine Pure.intro (rs:= [ResultVar.tmp 4]) Tryz.func86 Y Y Y (E0:= [(0,(rd 4 Qg a)),(1,(rd 4 Qg b))]) Y ?_
 obtain ⟨hlim,hmx,hmax⟩:=QE
 refine sr (fO (OF.assign (VEv.bool false)) (nt (sq (sr (mO (rd 4 Qg a) Y (lO (B.lenR (m:=a.length) (tv (rd 4 Qg a) Y) U72 (List.length_map ..)) (mO (rd 4 Qg b) Y (lO (B.lenR (m:=b.length) (tv (rd 4 Qg b) Y) U72 (List.length_map ..)) (fO (Qhk (tv (tN a.length) Y) (tv (tN b.length) Y)) (nt ?_))))))))))
 refine cn (a.length=b.length) Y (fun fhc0=> ?_) fun fhc0=> ?_
 ·refine sr ?_
  refine fO (OF.assign (VEv.bool false)) (nt (rt (tr (vb (b':=false) Y ?_))))
  symm;rw [decide_eq_false_iff_not];rintro rfl;exact fhc0 Y
 refine sk (tn (sq (sr (fO (OF.assign (VEv.int .i64 0)) (nt (VRun.block ?_))))))
 refine VRun.loop (A:=Nat) (fun s_=> [(0,(rd 4 Qg a)),(1,(rd 4 Qg b)),(5,(tN s_))]) (fun s_=>Q5 []) 0 (fun s_=>s_≤a.length∧∀j,j<s_→a[j]? =b[j]?) (fun s_=>a.length - s_) (0:Nat) ?_ (Wk.mk (fun k=>k) ?_ ?_ ?_) ?_
 ·(simp;done)
 ·exact (b2 (b2 (b2 bn)))
 ·exact bn
 ·exact nd Y
 rintro i (hI':i≤a.length∧∀j,j<i→a[j]? =b[j]?)
 show VRun _ _ _ [(0,(rd 4 Qg a)),(1,(rd 4 Qg b)),(5,(tN i))] (Q5 []) 0 _
 refine sq (sr (mO (tN i) Y (mO (rd 4 Qg a) Y (lO (B.lenR (m:=a.length) (tv (rd 4 Qg a) Y) U72 (List.length_map ..)) (fO (Zg (tv (tN i) Y) (tv (tN a.length) Y)) (nt ?_))))))
 refine cd (i<a.length) Y (fun fhc1=> ?_) fun fhc1=> ?_
 ·refine sk ?_
  refine tn (sq (VRun.block (sq (VRun.draw (B:= [[],[],[1,0],[0,1,2],[],[],[5,4],[4,5,6],[6,5,4,7,2,1,0,3],[3,0,1,2,7,4,5,6,8]]) (by kernel_rfl) (by kernel_rfl) (mD (rd 4 Qg a) Y Y (mD (tN i) Y Y ?_))))))
  obtain ⟨x1,hx1⟩:∃x,a[i]? =some x:=⟨_,List.getElem?_eq_getElem (by omega)⟩
  refine fD (OF.indexAddrR (row:=(Qg false x1)) (i:=i) (tv (rd 4 Qg a) Y) (tv (tN i) Y) Y (Qt _ hx1) U72 ZQ YA) Y Y (lD (OL.loadRn (us:=(Qg false x1)) (tv (T.rp (Qg false x1)) Y) QcT ZQ (lb Y) Y) Y Y (mD (rd 4 Qg b) Y Y (mD (tN i) Y Y ?_)))
  obtain ⟨x2,hx2⟩:∃x,b[i]? =some x:=⟨_,List.getElem?_eq_getElem (by omega)⟩
  refine fD (OF.indexAddrR (row:=(Qg false x2)) (i:=i) (tv (rd 4 Qg b) Y) (tv (tN i) Y) Y (Qt _ hx2) U72 ZQ YA) Y Y (lD (OL.loadRn (us:=(Qg false x2)) (tv (T.rp (Qg false x2)) Y) QcT ZQ (lb Y) Y) Y Y (VRunD.quiet (bi:= [6,5,4,7,2,1,0,3]) Y VWant.always Y Y Y bn (cS (vc (tv (T.agg (Qg false x1)) Y) (vc (tv (T.agg (Qg false x2)) Y) vn)) (LendL.cons (lg okeStep) (LendL.cons (lg okeStep) ln)) (Qfp (n+0) x1 x2) Y Y) (fD (Q8 (tv (tB (decide (x1=x2))) Y)) Y Y (VRunD.nil (tn ?_)))))
  refine cn (x1=x2) Y (fun fhc2=> ?_) fun fhc2=> ?_
  ·refine sr ?_
   refine fO (OF.assign (VEv.bool false)) (nt (rt (vinB.r (tr (tr (vinB.r (tr (vb (b':=false) Y ?_))))))))
   symm;rw [decide_eq_false_iff_not];exact Qbz hx1 hx2 fhc2
  refine sk (vinB.n (tn (VRun.region (mO (tN i) Y (fO (QB (tv (tN i) Y) (VEv.int .i64 1) (by omega)) (aO (tN (i+1)) Y (VRunO.nil (tn ?_))))))))
  refine ⟨(i+1:Nat),?_,?_,Wk.mk (fun k=>k) ?_ ?_ ?_⟩
  ·exact QaH hI' hx1 hx2 fhc2
  ·omega
  ·exact (b2 (b2 (b2 bn)))
  ·exact bn
  ·exact nd Y
 refine VRun.exit (vthn.e (vthn.e (vinB.e (tn (sr (fO (OF.assign (VEv.bool true)) (nt (rt (vb (b':=true) Y ?_)))))))))
 symm;rw [decide_eq_true_eq];exact QbA hI' fhc0 fhc1
theorem Qfx (n:Nat) (a:D.Clue) (b:D.Clue) (ha:QO a≤mx) (hb:QO b≤mx):Pure (Qr Tryz.prog (n+3)) 62 [(T.agg (Qe false a)),(T.agg (Qe false b))] (tB (decide (a=b))):=by
 refine Pure.intro (rs:= [ResultVar.tmp 4]) Tryz.func62 Y Y Y (E0:= [(0,(T.agg (Qe false a))),(1,(T.agg (Qe false b)))]) Y ?_
 obtain ⟨hlim,hmx,hmax⟩:=QE
 simp only [QO] at ha hb
 have hla_Play:=Zb (z:=Zf) a.Play
 have hlb_Play:=Zb (z:=Zf) b.Play
 refine sr (kO (B.box (ts:=(Qe false a)) (tv (T.agg (Qe false a)) Y) nofun Y) (kO (B.box (ts:=(Qe false b)) (tv (T.agg (Qe false b)) Y) nofun Y) (fO (OF.assign (VEv.bool false)) (nt (sq (sr (lf (tI a.Sense) Y Qa2 Y Y QX (lf (tI b.Sense) Y Qa2 Y Y QX (fO (xne (tv (tI a.Sense) Y) (tv (tI b.Sense) Y)) (nt ?_))))))))))
 refine cn (a.Sense=b.Sense) Y (fun fhc0=> ?_) fun fhc0=> ?_
 ·refine sr ?_
  refine fO (OF.assign (VEv.bool false)) (nt (rt (tr (vb (b':=false) Y ?_))))
  obtain ⟨a0,a1⟩:=a
  obtain ⟨b0,b1⟩:=b
  simp_all
 refine sk (tn (sq (sr (lf (rd 4 Qg a.Play) Y Qa5 Y Y Qie (lf (rd 4 Qg b.Play) Y Qa5 Y Y Qie (cO (cS (vc (tv (rd 4 Qg a.Play) Y) (vc (tv (rd 4 Qg b.Play) Y) vn)) (ZH Y) (QeT (n+0) a.Play b.Play (by omega) (by omega)) Y Y) (fO (Q8 (tv (tB (decide (a.Play=b.Play))) Y)) (nt ?_))))))))
 refine cn (a.Play=b.Play) Y (fun fhc1=> ?_) fun fhc1=> ?_
 ·refine sr ?_
  refine fO (OF.assign (VEv.bool false)) (nt (rt (tr (vb (b':=false) Y ?_))))
  obtain ⟨a0,a1⟩:=a
  obtain ⟨b0,b1⟩:=b
  simp_all
 refine sk (tn (sr (fO (OF.assign (VEv.bool true)) (nt (rt (vb (b':=true) Y ?_))))))
 obtain ⟨a0,a1⟩:=a
 obtain ⟨b0,b1⟩:=b
 simp_all
theorem Qep (n:Nat) (a:List D.Clue) (b:List D.Clue) (ha:zL QO a≤mx) (hb:zL QO b≤mx):Pure (Qr Tryz.prog (n+4)) 40 [(rd 2 Qe a),(rd 2 Qe b)] (tB (decide (a=b))):=by
 refine Pure.intro (rs:= [ResultVar.tmp 4]) Tryz.func40 Y Y Y (E0:= [(0,(rd 2 Qe a)),(1,(rd 2 Qe b))]) Y ?_
 obtain ⟨hlim,hmx,hmax⟩:=QE
 have hla:=Zb (z:=QO) a
 have hlb:=Zb (z:=QO) b
 refine sr (fO (OF.assign (VEv.bool false)) (nt (sq (sr (mO (rd 2 Qe a) Y (lO (B.lenR (m:=a.length) (tv (rd 2 Qe a) Y) U34 (List.length_map ..)) (mO (rd 2 Qe b) Y (lO (B.lenR (m:=b.length) (tv (rd 2 Qe b) Y) U34 (List.length_map ..)) (fO (Qhk (tv (tN a.length) Y) (tv (tN b.length) Y)) (nt ?_))))))))))
 refine cn (a.length=b.length) Y (fun fhc0=> ?_) fun fhc0=> ?_
 ·refine sr ?_
  refine fO (OF.assign (VEv.bool false)) (nt (rt (tr (vb (b':=false) Y ?_))))
  symm;rw [decide_eq_false_iff_not];rintro rfl;exact fhc0 Y
 refine sk (tn (sq (sr (fO (OF.assign (VEv.int .i64 0)) (nt (VRun.block ?_))))))
 refine VRun.loop (A:=Nat) (fun s_=> [(0,(rd 2 Qe a)),(1,(rd 2 Qe b)),(5,(tN s_))]) (fun s_=>Q5 []) 0 (fun s_=>s_≤a.length∧∀j,j<s_→a[j]? =b[j]?) (fun s_=>a.length - s_) (0:Nat) ?_ (Wk.mk (fun k=>k) ?_ ?_ ?_) ?_
 ·(simp;done)
 ·exact (b2 (b2 (b2 bn)))
 ·exact bn
 ·exact nd Y
 rintro i (hI':i≤a.length∧∀j,j<i→a[j]? =b[j]?)
 show VRun _ _ _ [(0,(rd 2 Qe a)),(1,(rd 2 Qe b)),(5,(tN i))] (Q5 []) 0 _
 refine sq (sr (mO (tN i) Y (mO (rd 2 Qe a) Y (lO (B.lenR (m:=a.length) (tv (rd 2 Qe a) Y) U34 (List.length_map ..)) (fO (Zg (tv (tN i) Y) (tv (tN a.length) Y)) (nt ?_))))))
 refine cd (i<a.length) Y (fun fhc1=> ?_) fun fhc1=> ?_
 ·refine sk ?_
  refine tn (sq (VRun.block (sq (VRun.draw (B:= [[],[],[1,0],[0,1,2],[],[],[5,4],[4,5,6],[6,5,4,7,2,1,0,3],[3,0,1,2,7,4,5,6,8]]) (by kernel_rfl) (by kernel_rfl) (mD (rd 2 Qe a) Y Y (mD (tN i) Y Y ?_))))))
  obtain ⟨x1,hx1⟩:∃x,a[i]? =some x:=⟨_,List.getElem?_eq_getElem (by omega)⟩
  refine fD (OF.indexAddrR (row:=(Qe false x1)) (i:=i) (tv (rd 2 Qe a) Y) (tv (tN i) Y) Y (Qt _ hx1) U34 Jj Qd1) Y Y (lD (OL.loadRn (us:=(Qe false x1)) (tv (T.rp (Qe false x1)) Y) QdW Jj (lb Y) Y) Y Y (mD (rd 2 Qe b) Y Y (mD (tN i) Y Y ?_)))
  obtain ⟨x2,hx2⟩:∃x,b[i]? =some x:=⟨_,List.getElem?_eq_getElem (by omega)⟩
  refine fD (OF.indexAddrR (row:=(Qe false x2)) (i:=i) (tv (rd 2 Qe b) Y) (tv (tN i) Y) Y (Qt _ hx2) U34 Jj Qd1) Y Y (lD (OL.loadRn (us:=(Qe false x2)) (tv (T.rp (Qe false x2)) Y) QdW Jj (lb Y) Y) Y Y (VRunD.quiet (bi:= [6,5,4,7,2,1,0,3]) Y VWant.always Y Y Y bn (cS (vc (tv (T.agg (Qe false x1)) Y) (vc (tv (T.agg (Qe false x2)) Y) vn)) (LendL.cons (lg okeClue) (LendL.cons (lg okeClue) ln)) (Qfx (n+0) x1 x2 (by exact Nat.le_trans (QdD hx1) ha) (by exact Nat.le_trans (QdD hx2) hb)) Y Y) (fD (Q8 (tv (tB (decide (x1=x2))) Y)) Y Y (VRunD.nil (tn ?_)))))
  refine cn (x1=x2) Y (fun fhc2=> ?_) fun fhc2=> ?_
  ·refine sr ?_
   refine fO (OF.assign (VEv.bool false)) (nt (rt (vinB.r (tr (tr (vinB.r (tr (vb (b':=false) Y ?_))))))))
   symm;rw [decide_eq_false_iff_not];exact Qbz hx1 hx2 fhc2
  refine sk (vinB.n (tn (VRun.region (mO (tN i) Y (fO (QB (tv (tN i) Y) (VEv.int .i64 1) (by omega)) (aO (tN (i+1)) Y (VRunO.nil (tn ?_))))))))
  refine ⟨(i+1:Nat),?_,?_,Wk.mk (fun k=>k) ?_ ?_ ?_⟩
  ·exact QaH hI' hx1 hx2 fhc2
  ·omega
  ·exact (b2 (b2 (b2 bn)))
  ·exact bn
  ·exact nd Y
 refine VRun.exit (vthn.e (vthn.e (vinB.e (tn (sr (fO (OF.assign (VEv.bool true)) (nt (rt (vb (b':=true) Y ?_)))))))))
 symm;rw [decide_eq_true_eq];exact QbA hI' fhc0 fhc1
theorem Qd3 (n:Nat) (a:D.Puzzle) (b:D.Puzzle) (ha:QP a≤mx) (hb:QP b≤mx):Pure (Qr Tryz.prog (n+5)) 11 [(T.agg (QD false a)),(T.agg (QD false b))] (tB (decide (a=b))):=by
 refine Pure.intro (rs:= [ResultVar.tmp 4]) Tryz.func11 Y Y Y (E0:= [(0,(T.agg (QD false a))),(1,(T.agg (QD false b)))]) Y ?_
 obtain ⟨hlim,hmx,hmax⟩:=QE
 simp only [QP] at ha hb
 have hla_Clues:=Zb (z:=QO) a.Clues
 have hla_Seals:=Zb (z:=zI) a.Seals
 have hlb_Clues:=Zb (z:=QO) b.Clues
 have hlb_Seals:=Zb (z:=zI) b.Seals
 refine sr (kO (B.box (ts:=(QD false a)) (tv (T.agg (QD false a)) Y) nofun Y) (kO (B.box (ts:=(QD false b)) (tv (T.agg (QD false b)) Y) nofun Y) (fO (OF.assign (VEv.bool false)) (nt (sq (sr (fO (OF.fieldAddrO (tv (T.op 0 0) Y) JM) (lO (OL.loadOn (us:=(Qb false a.Grid)) (tv (T.op 0 0) Y) Y Q3 QY (lb Y) Y) (fO (OF.fieldAddrO (tv (T.op 1 0) Y) JM) (lO (OL.loadOn (us:=(Qb false b.Grid)) (tv (T.op 1 0) Y) Y Q3 QY (lb Y) Y) (cO (cS (vc (tv (T.agg (Qb false a.Grid)) Y) (vc (tv (T.agg (Qb false b.Grid)) Y) vn)) (LendL.cons (lg Qs) (LendL.cons (lg Qs) ln)) (QfI (n+3) a.Grid b.Grid) Y Y) ?_)))))))))))
 refine fO (Q8 (tv (tB (decide (a.Grid=b.Grid))) Y)) (nt ?_)
 refine cn (a.Grid=b.Grid) Y (fun fhc0=> ?_) fun fhc0=> ?_
 ·refine sr ?_
  refine fO (OF.assign (VEv.bool false)) (nt (rt (tr (vb (b':=false) Y ?_))))
  obtain ⟨a0,a1,a2,a3⟩:=a
  obtain ⟨b0,b1,b2,b3⟩:=b
  simp_all
 refine sk (tn (sq (sr (lf (rd 2 Qe a.Clues) Y Y9 Y Y Qee (lf (rd 2 Qe b.Clues) Y Y9 Y Y Qee (cO (cS (vc (tv (rd 2 Qe a.Clues) Y) (vc (tv (rd 2 Qe b.Clues) Y) vn)) (ZH Y) (Qep (n+0) a.Clues b.Clues (by first | assumption | omega) (by first | assumption | omega)) Y Y) (fO (Q8 (tv (tB (decide (a.Clues=b.Clues))) Y)) (nt ?_))))))))
 refine cn (a.Clues=b.Clues) Y (fun fhc1=> ?_) fun fhc1=> ?_
 ·refine sr ?_
  refine fO (OF.assign (VEv.bool false)) (nt (rt (tr (vb (b':=false) Y ?_))))
  obtain ⟨a0,a1,a2,a3⟩:=a
  obtain ⟨b0,b1,b2,b3⟩:=b
  simp_all
 refine sk (tn (sq (sr (lf (rd 1 Qc a.Seals) Y QaM Y Y QcB (lf (rd 1 Qc b.Seals) Y QaM Y Y QcB (cO (cS (vc (tv (rd 1 Qc a.Seals) Y) (vc (tv (rd 1 Qc b.Seals) Y) vn)) (ZH Y) (QfF (n+3) a.Seals b.Seals (by first | assumption | omega) (by first | assumption | omega)) Y Y) (fO (Q8 (tv (tB (decide (a.Seals=b.Seals))) Y)) (nt ?_))))))))
 refine cn (a.Seals=b.Seals) Y (fun fhc2=> ?_) fun fhc2=> ?_
 ·refine sr ?_
  refine fO (OF.assign (VEv.bool false)) (nt (rt (tr (vb (b':=false) Y ?_))))
  obtain ⟨a0,a1,a2,a3⟩:=a
  obtain ⟨b0,b1,b2,b3⟩:=b
  simp_all
 refine sk (tn (sq (sr (lf (tI a.Salt) Y Qcc Y Y QX (lf (tI b.Salt) Y Qcc Y Y QX (fO (xne (tv (tI a.Salt) Y) (tv (tI b.Salt) Y)) (nt ?_)))))))
 refine cn (a.Salt=b.Salt) Y (fun fhc3=> ?_) fun fhc3=> ?_
 ·refine sr ?_
  refine fO (OF.assign (VEv.bool false)) (nt (rt (tr (vb (b':=false) Y ?_))))
  obtain ⟨a0,a1,a2,a3⟩:=a
  obtain ⟨b0,b1,b2,b3⟩:=b
  simp_all
 refine sk (tn (sr (fO (OF.assign (VEv.bool true)) (nt (rt (vb (b':=true) Y ?_))))))
 obtain ⟨a0,a1,a2,a3⟩:=a
 obtain ⟨b0,b1,b2,b3⟩:=b
 simp_all
theorem Qez (n:Nat) (a:D.Issue) (b:D.Issue) (ha:Zq a≤mx) (hb:Zq b≤mx):Pure (Qr Tryz.prog (n+6)) 19 [(T.agg (QG false a)),(T.agg (QG false b))] (tB (decide (a=b))):=by
 refine Pure.intro (rs:= [ResultVar.tmp 4]) Tryz.func19 Y Y Y (E0:= [(0,(T.agg (QG false a))),(1,(T.agg (QG false b)))]) Y ?_
 obtain ⟨hlim,hmx,hmax⟩:=QE
 simp only [Zq] at ha hb
 refine sr (kO (B.box (ts:=(QG false a)) (tv (T.agg (QG false a)) Y) nofun Y) (kO (B.box (ts:=(QG false b)) (tv (T.agg (QG false b)) Y) nofun Y) (fO (OF.assign (VEv.bool false)) (nt (sq (sr (lf (tI a.Number) Y Qfg Y Y QX (lf (tI b.Number) Y Qfg Y Y QX (fO (xne (tv (tI a.Number) Y) (tv (tI b.Number) Y)) (nt ?_))))))))))
 refine cn (a.Number=b.Number) Y (fun fhc0=> ?_) fun fhc0=> ?_
 ·refine sr ?_
  refine fO (OF.assign (VEv.bool false)) (nt (rt (tr (vb (b':=false) Y ?_))))
  obtain ⟨a0,a1,a2,a3,a4⟩:=a
  obtain ⟨b0,b1,b2,b3,b4⟩:=b
  simp_all
 refine sk (tn (sq (sr (fO (OF.fieldAddrO (tv (T.op 0 0) Y) QaF) (lO (OL.loadOn (us:=(QD false a.Puzzle)) (tv (T.op 0 1) Y) Y QgP Qd5 (lb Y) Y) (fO (OF.fieldAddrO (tv (T.op 1 0) Y) QaF) (lO (OL.loadOn (us:=(QD false b.Puzzle)) (tv (T.op 1 1) Y) Y QgP Qd5 (lb Y) Y) (cO (cS (vc (tv (T.agg (QD false a.Puzzle)) Y) (vc (tv (T.agg (QD false b.Puzzle)) Y) vn)) (LendL.cons (lg YI) (LendL.cons (lg YI) ln)) (Qd3 (n+0) a.Puzzle b.Puzzle (by first | assumption | omega) (by first | assumption | omega)) Y Y) (fO (Q8 (tv (tB (decide (a.Puzzle=b.Puzzle))) Y)) (nt ?_))))))))))
 refine cn (a.Puzzle=b.Puzzle) Y (fun fhc1=> ?_) fun fhc1=> ?_
 ·refine sr ?_
  refine fO (OF.assign (VEv.bool false)) (nt (rt (tr (vb (b':=false) Y ?_))))
  obtain ⟨a0,a1,a2,a3,a4⟩:=a
  obtain ⟨b0,b1,b2,b3,b4⟩:=b
  simp_all
 refine sk (tn (sq (sr (lf (tS a.Fill) Y QeI Y Y Ye (lf (tS b.Fill) Y QeI Y Y Ye (fO (B.sneq (c:=(!(decide (a.Fill=b.Fill)))) (tv (tS a.Fill) Y) (tv (tS b.Fill) Y) Y) (nt ?_)))))))
 refine cn (a.Fill=b.Fill) Y (fun fhc2=> ?_) fun fhc2=> ?_
 ·refine sr ?_
  refine fO (OF.assign (VEv.bool false)) (nt (rt (tr (vb (b':=false) Y ?_))))
  obtain ⟨a0,a1,a2,a3,a4⟩:=a
  obtain ⟨b0,b1,b2,b3,b4⟩:=b
  simp_all
 refine sk (tn (sq (sr (lf (tI a.Open) Y QaD Y Y QX (lf (tI b.Open) Y QaD Y Y QX (fO (xne (tv (tI a.Open) Y) (tv (tI b.Open) Y)) (nt ?_)))))))
 refine cn (a.Open=b.Open) Y (fun fhc3=> ?_) fun fhc3=> ?_
 ·refine sr ?_
  refine fO (OF.assign (VEv.bool false)) (nt (rt (tr (vb (b':=false) Y ?_))))
  obtain ⟨a0,a1,a2,a3,a4⟩:=a
  obtain ⟨b0,b1,b2,b3,b4⟩:=b
  simp_all
 refine sk (tn (sq (sr (lf (tI a.Close) Y QbZ Y Y QX (lf (tI b.Close) Y QbZ Y Y QX (fO (xne (tv (tI a.Close) Y) (tv (tI b.Close) Y)) (nt ?_)))))))
 refine cn (a.Close=b.Close) Y (fun fhc4=> ?_) fun fhc4=> ?_
 ·refine sr ?_
  refine fO (OF.assign (VEv.bool false)) (nt (rt (tr (vb (b':=false) Y ?_))))
  obtain ⟨a0,a1,a2,a3,a4⟩:=a
  obtain ⟨b0,b1,b2,b3,b4⟩:=b
  simp_all
 refine sk (tn (sr (fO (OF.assign (VEv.bool true)) (nt (rt (vb (b':=true) Y ?_))))))
 obtain ⟨a0,a1,a2,a3,a4⟩:=a
 obtain ⟨b0,b1,b2,b3,b4⟩:=b
 simp_all
theorem Jd (n:Nat) (a:List ByteArray) (b:List ByteArray) (hla:a.length≤mx) (hlb:b.length≤mx):Pure (Qr Tryz.prog (n+1)) 22 [(rd 1 Qv a),(rd 1 Qv b)] (tB (decide (a=b))):=by
 refine Pure.intro (rs:= [ResultVar.tmp 4]) Tryz.func22 Y Y Y (E0:= [(0,(rd 1 Qv a)),(1,(rd 1 Qv b))]) Y ?_
 obtain ⟨hlim,hmx,hmax⟩:=QE
 refine sr (fO (OF.assign (VEv.bool false)) (nt (sq (sr (mO (rd 1 Qv a) Y (lO (B.lenR (m:=a.length) (tv (rd 1 Qv a) Y) U52 (List.length_map ..)) (mO (rd 1 Qv b) Y (lO (B.lenR (m:=b.length) (tv (rd 1 Qv b) Y) U52 (List.length_map ..)) (fO (Qhk (tv (tN a.length) Y) (tv (tN b.length) Y)) (nt ?_))))))))))
 refine cn (a.length=b.length) Y (fun fhc0=> ?_) fun fhc0=> ?_
 ·refine sr ?_
  refine fO (OF.assign (VEv.bool false)) (nt (rt (tr (vb (b':=false) Y ?_))))
  symm;rw [decide_eq_false_iff_not];rintro rfl;exact fhc0 Y
 refine sk (tn (sq (sr (fO (OF.assign (VEv.int .i64 0)) (nt (VRun.block ?_))))))
 refine VRun.loop (A:=Nat) (fun s_=> [(0,(rd 1 Qv a)),(1,(rd 1 Qv b)),(5,(tN s_))]) (fun s_=>Q5 []) 0 (fun s_=>s_≤a.length∧∀j,j<s_→a[j]? =b[j]?) (fun s_=>a.length - s_) (0:Nat) ?_ (Wk.mk (fun k=>k) ?_ ?_ ?_) ?_
 ·first | trivial | (simp;done) | omega | (constructor<;>simp)
 ·exact (b2 (b2 (b2 bn)))
 ·exact bn
 ·exact nd Y
 rintro i (hI':i≤a.length∧∀j,j<i→a[j]? =b[j]?)
 show VRun _ _ _ [(0,(rd 1 Qv a)),(1,(rd 1 Qv b)),(5,(tN i))] (Q5 []) 0 _
 refine sq (sr (mO (tN i) Y (mO (rd 1 Qv a) Y (lO (B.lenR (m:=a.length) (tv (rd 1 Qv a) Y) U52 (List.length_map ..)) (fO (Zg (tv (tN i) Y) (tv (tN a.length) Y)) (nt ?_))))))
 refine cd (i<a.length) Y (fun fhc1=> ?_) fun fhc1=> ?_
 ·refine sk ?_
  refine tn (sq (VRun.block (sq (VRun.draw (B:= [[],[],[1,0],[0,1,2],[],[],[5,4],[4,5,6],[6,5,4,7,2,1,0,3]]) (by kernel_rfl) (by kernel_rfl) (mD (rd 1 Qv a) Y Y (mD (tN i) Y Y ?_))))))
  obtain ⟨x1,hx1⟩:∃x,a[i]? =some x:=⟨_,List.getElem?_eq_getElem (by omega)⟩
  refine fD (OF.indexAddrR (row:=(Qv false x1)) (i:=i) (tv (rd 1 Qv a) Y) (tv (tN i) Y) Y (Qt _ hx1) U52 sz9 if9) Y Y (lD (OL.loadR1 (t:=(tS x1)) (tv (T.rp [(tS x1)]) Y) Y Ye) Y Y (mD (rd 1 Qv b) Y Y (mD (tN i) Y Y ?_)))
  obtain ⟨x2,hx2⟩:∃x,b[i]? =some x:=⟨_,List.getElem?_eq_getElem (by omega)⟩
  refine fD (OF.indexAddrR (row:=(Qv false x2)) (i:=i) (tv (rd 1 Qv b) Y) (tv (tN i) Y) Y (Qt _ hx2) U52 sz9 if9) Y Y (lD (OL.loadR1 (t:=(tS x2)) (tv (T.rp [(tS x2)]) Y) Y Ye) Y Y (fD (B.sneq (c:=(!(decide (x1=x2)))) (tv (tS x1) Y) (tv (tS x2) Y) Y) Y Y (VRunD.nil (tn ?_))))
  refine cn (x1=x2) Y (fun fhc2=> ?_) fun fhc2=> ?_
  ·refine sr ?_
   refine fO (OF.assign (VEv.bool false)) (nt (rt (vinB.r (tr (tr (vinB.r (tr (vb (b':=false) Y ?_))))))))
   symm;rw [decide_eq_false_iff_not];exact Qbz hx1 hx2 fhc2
  refine sk (vinB.n (tn (VRun.region (mO (tN i) Y (fO (QB (tv (tN i) Y) (VEv.int .i64 1) (by omega)) (aO (tN (i+1)) Y (VRunO.nil (tn ?_))))))))
  refine ⟨(i+1:Nat),?_,?_,Wk.mk (fun k=>k) ?_ ?_ ?_⟩
  ·exact QaH hI' hx1 hx2 fhc2
  ·first | omega | (simp only [];omega) | (show _<_;omega) | (simp;omega)
  ·exact (b2 (b2 (b2 bn)))
  ·exact bn
  ·exact nd Y
 refine VRun.exit (vthn.e (vthn.e (vinB.e (tn (sr (fO (OF.assign (VEv.bool true)) (nt (rt (vb (b':=true) Y ?_)))))))))
 symm;rw [decide_eq_true_eq];exact QbA hI' fhc0 fhc1
noncomputable section
theorem Q4 {ok:Nat→Prop} {i n:Nat} (h:i≤n∧∀j,j<i→ok j) (hi:i<n) (hk:ok i):i+1≤n∧∀j,j<i+1→ok j:=by
 refine ⟨hi,fun j hj=> ?_⟩
 rcases Nat.lt_or_ge j i with h1 | h1
 ·exact h.2 j h1
 ·obtain rfl:j=i:=by omega
  exact hk
theorem Qap {ok:Nat→Prop} {i n:Nat} (h:i≤n∧∀j,j<i→ok j) (hi:¬i<n):∀j,j<n→ok j:=fun j hj=>h.2 j (by omega)
theorem QiS {α:Type} {l:List α} {i:Nat} {x y:α} (hx:l[i]? =some x) (hy:l[i]? =some y):y=x:=by
 rw [hx] at hy
 exact (Option.some.inj hy).symm
def Zj (s:ByteArray):Prop:=(1≤s.size∧s.size≤8)∧∀i,i<s.size→97≤Qw s i∧Qw s i≤122
instance (s:ByteArray):Decidable (Zj s):=Classical.propDecidable _
def ixF {α:Type} (p:α→Prop) [DecidablePred p]:List α→Int
 | []=> -1
 | x::r=>if p x then 0 else if ixF p r<0 then -1 else ixF p r+1
theorem Qdm {α:Type} {p:α→Prop} [DecidablePred p]:∀ {l:List α} {i:Nat} {x:α},l[i]? =some x→p x→(∀j y,j<i→l[j]? =some y→¬p y)→ixF p l=i
 | [],i,x,h,_,_=>by simp at h
 | y::r,0,x,h,hp,_=>by
  obtain rfl:y=x:=by simpa using h
  simp only [ixF,if_pos hp]
  rfl
 | y::r,i+1,x,h,hp,hn=>by
  have h1:=Qdm (l:=r) (i:=i) (by simpa using h) hp (fun j z hj hz=>hn (j+1) z (by omega) (by simpa using hz))
  have h2:¬p y:=hn 0 y (by omega) (by simp)
  simp only [ixF,if_neg h2,h1]
  rw [if_neg (by omega)]
  rfl
theorem Qfi {α:Type} {p:α→Prop} [DecidablePred p]:∀ {l:List α},(∀j y,j<l.length→l[j]? =some y→¬p y)→ixF p l= -1
 | [],_=>rfl
 | y::r,hn=>by
  have h1:=Qfi (l:=r) (fun j z hj hz=>hn (j+1) z (by simp;omega) (by simpa using hz))
  have h2:¬p y:=hn 0 y (by simp) (by simp)
  simp only [ixF,if_neg h2,h1]
  rfl
theorem QiA {α:Type} {p:α→Prop} [DecidablePred p]:∀ {l:List α},0≤ixF p l↔∃x∈l,p x
 | []=>by simp [ixF]
 | y::r=>by
  have h1:=QiA (p:=p) (l:=r)
  simp only [ixF,List.mem_cons,exists_eq_or_imp]
  by_cases hy:p y
  ·simp [hy]
  ·simp only [if_neg hy,hy,false_or]
   rw [← h1]
   by_cases h:ixF p r<0
   ·rw [if_pos h]
    exact ⟨fun h2=>absurd h2 (by decide),fun h2=>by omega⟩
   ·rw [if_neg h]
    exact ⟨fun h2=>by omega,fun h2=>by omega⟩
def NoneTo {α:Type} (p:α→Prop) (l:List α) (i:Nat):Prop:=i≤l.length∧∀j y,j<i→l[j]? =some y→¬p y
theorem NoneTo.start {α:Type} (p:α→Prop) (l:List α):NoneTo p l 0:=⟨Nat.zero_le _,fun j y hj=>by omega⟩
theorem NoneTo.next {α:Type} {p:α→Prop} {l:List α} {i:Nat} {x:α} (h:NoneTo p l i) (hx:l[i]? =some x) (hn:¬p x):NoneTo p l (i+1):=by
 have:=(List.getElem?_eq_some_iff.1 hx).1
 refine ⟨by omega,fun j y hj hy=> ?_⟩
 rcases Nat.lt_or_ge j i with h1 | h1
 ·exact h.2 j y h1 hy
 ·obtain rfl:j=i:=by omega
  rw [hx] at hy
  exact Option.some.inj hy▸hn
theorem NoneTo.all {α:Type} {p:α→Prop} {l:List α} {i:Nat} (h:NoneTo p l i) (hi:¬i<l.length):∀j y,j<l.length→l[j]? =some y→¬p y:=fun j y hj hy=>h.2 j y (by omega) hy
theorem NoneTo.mem {α:Type} {p:α→Prop} {l:List α} {i:Nat} (h:NoneTo p l i) (hi:¬i<l.length):∀y∈l,¬p y:=fun y hy=>by
 obtain ⟨j,hj⟩:=List.getElem?_of_mem hy
 exact h.all hi j y (List.getElem?_eq_some_iff.1 hj).1 hj
end
theorem QZ (n:Nat) (a:Int) (b:Int) (c:Int):Pure (Qr Tryz.prog (n+1)) 30 [(tI a),(tI b),(tI c)] (tB (decide (b≤a∧a≤c))):=by
 refine Pure.intro (rs:= [ResultVar.tmp 6]) Tryz.func30 Y Y Y (E0:= [(0,(tI a)),(1,(tI b)),(2,(tI c))]) Y ?_
 obtain ⟨hlim,hmx,hmax⟩:=QE
 refine sr (fO (OF.assign (VEv.bool false)) (nt (sr (mO (tI a) Y (mO (tI b) Y (fO (xge (tv (tI a) Y) (tv (tI b) Y)) (mO (tB (decide (b≤a))) Y ?_)))))))
 refine gw (b≤a) (fun fhg10_1=> ?_) fun fhg10_1=> ?_
 ·refine gF (dy fhg10_1) Y Y (OF.move (tv (tI a) Y)) ?_
  refine gF (dy fhg10_1) Y Y (OF.move (tv (tI c) Y)) (gF (dy fhg10_1) Y Y (xle (tv (tI a) Y) (tv (tI c) Y)) (fO (OF.pickT (VEv.tmpB Y (dy fhg10_1)) (tv (tB (decide (a≤c))) Y)) (aO (tB (decide (a≤c))) Y (nt (rt (vb (b':=(decide (a≤c))) Y ?_))))))
  exact Zd (by omega)
 refine QA 3 3 true 10 (dz fhg10_1) Y Y Y (fO (OF.pickF (VEv.tmpB Y (dz fhg10_1)) (VEv.bool false)) (aO (tB false) Y (nt (rt (vb (b':=false) Y ?_)))))
 (symm;rw [decide_eq_false_iff_not];omega)
theorem Zn (n:Nat) (a:Int) (b:Int) (c:Int):Pure (Qr Tryz.prog (n+1)) 36 [(tI a),(tI b),(tI c)] (tB (decide (b≤a∧a≤c))):=by
 refine Pure.intro (rs:= [ResultVar.tmp 6]) Tryz.func36 Y Y Y (E0:= [(0,(tI a)),(1,(tI b)),(2,(tI c))]) Y ?_
 obtain ⟨hlim,hmx,hmax⟩:=QE
 refine sr (fO (OF.assign (VEv.bool false)) (nt (sr (mO (tI b) Y (mO (tI a) Y (fO (xle (tv (tI b) Y) (tv (tI a) Y)) (mO (tB (decide (b≤a))) Y ?_)))))))
 refine gw (b≤a) (fun fhg10_1=> ?_) fun fhg10_1=> ?_
 ·refine gF (dy fhg10_1) Y Y (OF.move (tv (tI a) Y)) ?_
  refine gF (dy fhg10_1) Y Y (OF.move (tv (tI c) Y)) (gF (dy fhg10_1) Y Y (xle (tv (tI a) Y) (tv (tI c) Y)) (fO (OF.pickT (VEv.tmpB Y (dy fhg10_1)) (tv (tB (decide (a≤c))) Y)) (aO (tB (decide (a≤c))) Y (nt (rt (vb (b':=(decide (a≤c))) Y ?_))))))
  exact Zd (by omega)
 refine QA 3 3 true 10 (dz fhg10_1) Y Y Y (fO (OF.pickF (VEv.tmpB Y (dz fhg10_1)) (VEv.bool false)) (aO (tB false) Y (nt (rt (vb (b':=false) Y ?_)))))
 (symm;rw [decide_eq_false_iff_not];omega)
theorem Jn (n:Nat) (a:Int):Pure (Qr Tryz.prog (n+1)) 108 [(T.int .u8 a)] (tB (decide (97≤a∧a≤122))):=by
 refine Pure.intro (rs:= [ResultVar.tmp 2]) Tryz.func108 Y Y Y (E0:= [(0,(T.int .u8 a))]) Y ?_
 obtain ⟨hlim,hmx,hmax⟩:=QE
 refine sr (fO (OF.assign (VEv.bool false)) (nt (sr (mO (T.int .u8 a) Y (fO (xge (tv (T.int .u8 a) Y) (VEv.int .u8 97)) (mO (tB (decide (97≤a))) Y ?_))))))
 refine gw (97≤a) (fun fhg5_1=> ?_) fun fhg5_1=> ?_
 ·refine gF (dy fhg5_1) Y Y (OF.move (tv (T.int .u8 a) Y)) ?_
  refine gF (dy fhg5_1) Y Y (xle (tv (T.int .u8 a) Y) (VEv.int .u8 122)) (fO (OF.pickT (VEv.tmpB Y (dy fhg5_1)) (tv (tB (decide (a≤122))) Y)) (aO (tB (decide (a≤122))) Y (nt (rt (vb (b':=(decide (a≤122))) Y ?_)))))
  exact Zd (by omega)
 refine QA 2 2 true 5 (dz fhg5_1) Y Y Y (fO (OF.pickF (VEv.tmpB Y (dz fhg5_1)) (VEv.bool false)) (aO (tB false) Y (nt (rt (vb (b':=false) Y ?_)))))
 (symm;rw [decide_eq_false_iff_not];omega)
theorem Y8 (n:Nat) (a:Int) (b:Int):Pure (Qr Tryz.prog (n+1)) 106 [(tI a),(tI b)] (tB (decide (0≤a∧a<b))):=by
 refine Pure.intro (rs:= [ResultVar.tmp 4]) Tryz.func106 Y Y Y (E0:= [(0,(tI a)),(1,(tI b))]) Y ?_
 obtain ⟨hlim,hmx,hmax⟩:=QE
 refine sr (fO (OF.assign (VEv.bool false)) (nt (sr (mO (tI a) Y (fO (xge (tv (tI a) Y) (VEv.int .i64 0)) (mO (tB (decide (0≤a))) Y ?_))))))
 refine gw (0≤a) (fun fhg7_1=> ?_) fun fhg7_1=> ?_
 ·refine gF (dy fhg7_1) Y Y (OF.move (tv (tI a) Y)) ?_
  refine gF (dy fhg7_1) Y Y (OF.move (tv (tI b) Y)) (gF (dy fhg7_1) Y Y (xls (tv (tI a) Y) (tv (tI b) Y)) (fO (OF.pickT (VEv.tmpB Y (dy fhg7_1)) (tv (tB (decide (a<b))) Y)) (aO (tB (decide (a<b))) Y (nt (rt (vb (b':=(decide (a<b))) Y ?_))))))
  exact Zd (by omega)
 refine QA 3 2 true 7 (dz fhg7_1) Y Y Y (fO (OF.pickF (VEv.tmpB Y (dz fhg7_1)) (VEv.bool false)) (aO (tB false) Y (nt (rt (vb (b':=false) Y ?_)))))
 (symm;rw [decide_eq_false_iff_not];omega)
theorem Qah (n:Nat) (a:ByteArray) (ha:a.size≤maxLen):Pure (Qr Tryz.prog (n+2)) 129 [(tS a)] (tB (decide (Zj a))):=by
 refine Pure.intro (rs:= [ResultVar.tmp 2]) Tryz.func129 Y Y Y (E0:= [(0,(tS a))]) Y ?_
 obtain ⟨hlim,hmx,hmax⟩:=QE
 refine sr (fO (OF.assign (VEv.bool false)) (nt (sq (sr (mO (tS a) Y (lO (B.lenS (tv (tS a) Y) U9) (cO (cS (vc (tv (tN a.size) Y) (vc (VEv.int .i64 1) (vc (VEv.int .i64 8) vn))) (ZH Y) (QZ (n+0) ((a.size:Nat):Int) 1 8) Y Y) (fO (Q8 (tv (tB (decide (1≤((a.size:Nat):Int)∧((a.size:Nat):Int)≤8))) Y)) (nt ?_)))))))))
 refine cn (1≤((a.size:Nat):Int)∧((a.size:Nat):Int)≤8) Y (fun fhc0=> ?_) fun fhc0=> ?_
 ·refine sr ?_
  refine fO (OF.assign (VEv.bool false)) (nt (rt (tr (vb (b':=false) Y ?_))))
  symm;rw [decide_eq_false_iff_not];rintro ⟨h1,_⟩;omega
 refine sk (tn (sq (sr (fO (OF.assign (VEv.int .i64 0)) (nt (VRun.block ?_))))))
 refine VRun.loop (A:=Nat) (fun s_=> [(0,(tS a)),(3,(tN s_))]) (fun s_=>Q5 []) 0 (fun s_=>s_≤a.size∧∀j,j<s_→97≤Qw a j∧Qw a j≤122) (fun s_=>a.size - s_) (0:Nat) ?_ (Wk.mk (fun k=>k) ?_ ?_ ?_) ?_
 ·exact ⟨Nat.zero_le _,fun j hj=>by omega⟩
 ·exact (b2 (b2 bn))
 ·exact bn
 ·exact nd Y
 rintro i (hI':i≤a.size∧∀j,j<i→97≤Qw a j∧Qw a j≤122)
 show VRun _ _ _ [(0,(tS a)),(3,(tN i))] (Q5 []) 0 _
 refine sq (sr (mO (tN i) Y (mO (tS a) Y (lO (B.lenS (tv (tS a) Y) U9) (fO (Zg (tv (tN i) Y) (tv (tN a.size) Y)) (nt ?_))))))
 refine cd (i<a.size) Y (fun fhc1=> ?_) fun fhc1=> ?_
 ·refine sk ?_
  refine tn (sq (VRun.block (sr (mO (tS a) Y (mO (tN i) Y ?_)))))
  have hb1:i<a.size:=(by omega)
  refine fO (J6 (tv (tS a) Y) (tv (tN i) Y) hb1 U9) (fO (xls (tv (T.int .u8 (Qw a i)) Y) (VEv.int .u8 97)) (mO (tB (decide (Qw a i<97))) Y ?_))
  refine gw (Qw a i<97) (fun fhg18_2=> ?_) fun fhg18_2=> ?_
  ·refine QA 4 4 false 18 (dy fhg18_2) Y Y Y ?_
   refine fO (OF.pickT (VEv.tmpB Y (dy fhg18_2)) (VEv.bool true)) (nt (ct Y (sr (fO (OF.assign (VEv.bool false)) (nt (rt (vinB.r (tr (tr (vinB.r (tr ?_)))))))))))
   refine vb (b':=false) Y ?_
   symm;rw [decide_eq_false_iff_not];rintro ⟨_,h2⟩;have:=h2 i fhc1;omega
  refine gF (dz fhg18_2) Y Y (OF.move (tv (tS a) Y)) (gF (dz fhg18_2) Y Y (OF.move (tv (tN i) Y)) ?_)
  have hb3:i<a.size:=(by omega)
  refine gF (dz fhg18_2) Y Y (J6 (tv (tS a) Y) (tv (tN i) Y) hb3 U9) (gF (dz fhg18_2) Y Y (xgt (tv (T.int .u8 (Qw a i)) Y) (VEv.int .u8 122)) (fO (OF.pickF (VEv.tmpB Y (dz fhg18_2)) (tv (tB (decide (122<Qw a i))) Y)) (nt ?_)))
  refine cd (122<Qw a i) Y (fun fhc2=> ?_) fun fhc2=> ?_
  ·refine sr ?_
   refine fO (OF.assign (VEv.bool false)) (nt (rt (vinB.r (tr (tr (vinB.r (tr (vb (b':=false) Y ?_))))))))
   symm;rw [decide_eq_false_iff_not];rintro ⟨_,h2⟩;have:=h2 i fhc1;omega
  refine sk (vinB.n (tn (VRun.region (mO (tN i) Y (fO (QB (tv (tN i) Y) (VEv.int .i64 1) (by omega)) (aO (tN (i+1)) Y (VRunO.nil (tn ?_))))))))
  refine ⟨(i+1:Nat),?_,?_,Wk.mk (fun k=>k) ?_ ?_ ?_⟩
  ·exact Q4 (ok:=fun j=>97≤Qw a j∧Qw a j≤122) hI' fhc1 (by omega)
  ·omega
  ·exact (b2 (b2 bn))
  ·exact bn
  ·exact nd Y
 refine VRun.exit (vthn.e (vthn.e (vinB.e (tn (sr (fO (OF.assign (VEv.bool true)) (nt (rt (vb (b':=true) Y ?_)))))))))
 symm;rw [decide_eq_true_eq];exact ⟨by omega,Qap hI' fhc1⟩
theorem Qac (n:Nat) (a:ByteArray) (ha:a.size≤maxLen):Pure (Qr Tryz.prog (n+2)) 109 [(tS a)] (tB (decide (Zj a))):=by
 refine Pure.intro (rs:= [ResultVar.tmp 2]) Tryz.func109 Y Y Y (E0:= [(0,(tS a))]) Y ?_
 obtain ⟨hlim,hmx,hmax⟩:=QE
 refine sr (fO (OF.assign (VEv.bool false)) (nt (sq (sr (mO (tS a) Y (lO (B.lenS (tv (tS a) Y) U9) (cO (cS (vc (tv (tN a.size) Y) (vc (VEv.int .i64 1) (vc (VEv.int .i64 8) vn))) (ZH Y) (Zn (n+0) ((a.size:Nat):Int) 1 8) Y Y) (fO (Q8 (tv (tB (decide (1≤((a.size:Nat):Int)∧((a.size:Nat):Int)≤8))) Y)) (nt ?_)))))))))
 refine cn (1≤((a.size:Nat):Int)∧((a.size:Nat):Int)≤8) Y (fun fhc0=> ?_) fun fhc0=> ?_
 ·refine sr ?_
  refine fO (OF.assign (VEv.bool false)) (nt (rt (tr (vb (b':=false) Y ?_))))
  symm;rw [decide_eq_false_iff_not];rintro ⟨h1,_⟩;omega
 refine sk (tn (sq (sr (mO (tS a) Y (lO (B.lenS (tv (tS a) Y) U9) (fO (OF.move (VEv.int .i64 0)) (nt (VRun.block ?_))))))))
 refine VRun.loop (A:=Nat) (fun s_=> [(0,(tS a)),(9,(tN a.size)),(10,(tN s_))]) (fun s_=>Q5 []) 0 (fun s_=>s_≤a.size∧∀j,j<s_→97≤Qw a j∧Qw a j≤122) (fun s_=>a.size - s_) (0:Nat) ?_ (Wk.mk (fun k=>k) ?_ ?_ ?_) ?_
 ·exact ⟨Nat.zero_le _,fun j hj=>by omega⟩
 ·exact (b2 (b2 (b2 bn)))
 ·exact bn
 ·exact nd Y
 rintro i (hI':i≤a.size∧∀j,j<i→97≤Qw a j∧Qw a j≤122)
 show VRun _ _ _ [(0,(tS a)),(9,(tN a.size)),(10,(tN i))] (Q5 []) 0 _
 refine sr (fO (Zg (tv (tN i) Y) (tv (tN a.size) Y)) (nt (sq ?_)))
 refine cd (i<a.size) Y (fun fhc1=> ?_) fun fhc1=> ?_
 ·refine sk ?_
  refine tn (sq (VRun.block (sr (mO (tN i) Y (aO (tN i) Y (nt (sr (mO (tS a) Y (mO (tN i) Y ?_)))))))))
  have hb1:i<a.size:=(by omega)
  refine fO (J6 (tv (tS a) Y) (tv (tN i) Y) hb1 U9) (cO (cS (vc (tv (T.int .u8 (Qw a i)) Y) vn) (ZH Y) (Jn (n+0) (Qw a i)) Y Y) (fO (Q8 (tv (tB (decide (97≤(Qw a i)∧(Qw a i)≤122))) Y)) (nt ?_)))
  refine cn (97≤(Qw a i)∧(Qw a i)≤122) Y (fun fhc2=> ?_) fun fhc2=> ?_
  ·refine sr ?_
   refine fO (OF.assign (VEv.bool false)) (nt (rt (vinB.r (tr (tr (vinB.r (tr (vb (b':=false) Y ?_))))))))
   symm;rw [decide_eq_false_iff_not];rintro ⟨_,h2⟩;have:=h2 i fhc1;omega
  refine sk (vinB.n (tn (VRun.region (fO (QB (tv (tN i) Y) (VEv.int .i64 1) (by omega)) (mO (tN (i+1)) Y (VRunO.nil (tn ?_)))))))
  refine ⟨(i+1:Nat),?_,?_,Wk.mk (fun k=>k) ?_ ?_ ?_⟩
  ·exact Q4 (ok:=fun j=>97≤Qw a j∧Qw a j≤122) hI' fhc1 (by omega)
  ·omega
  ·exact (b2 (b2 (b2 bn)))
  ·exact bn
  ·exact nd Y
 refine VRun.exit (vthn.e (vthn.e (vinB.e (tn (sr (fO (OF.assign (VEv.bool true)) (nt (rt (vb (b':=true) Y ?_)))))))))
 symm;rw [decide_eq_true_eq];exact ⟨by omega,Qap hI' fhc1⟩
noncomputable section
def two (k:Int):Prop:=k=4∨k=5
def Jq (l:List D.Step) (j:Nat):Prop:=∃x,l[j]? =some x∧(1≤x.Kind∧x.Kind≤9)∧(x.Kind=1→Zj x.Word∧x.A=0∧x.B=0) ∧
 (¬x.Kind=1→x.Word=(⟨#[]⟩:ByteArray)∧(0≤x.A∧x.A<(j:Int))∧(two x.Kind→0≤x.B∧x.B<(j:Int))∧(¬two x.Kind→x.B=0)∧(¬two x.Kind→¬x.Kind=2→∃y,l[x.A.toNat]? =some y∧y.Kind=1))
instance (l:List D.Step) (j:Nat):Decidable (Jq l j):=Classical.propDecidable _
def QT (l:List D.Step):Prop:=(1≤l.length∧l.length≤9)∧∀j,j<l.length→Jq l j
instance (l:List D.Step):Decidable (QT l):=Classical.propDecidable _
def QdJ (l:List D.Step) (j:Nat) (x:D.Step):Prop:=(1≤x.Kind∧x.Kind≤9)∧(x.Kind=1→Zj x.Word∧x.A=0∧x.B=0) ∧
 (¬x.Kind=1→x.Word=(⟨#[]⟩:ByteArray)∧(0≤x.A∧x.A<(j:Int))∧(two x.Kind→0≤x.B∧x.B<(j:Int))∧(¬two x.Kind→x.B=0)∧(¬two x.Kind→¬x.Kind=2→∃y,l[x.A.toNat]? =some y∧y.Kind=1))
theorem QH {l:List D.Step} {j:Nat} {x:D.Step} (hx:l[j]? =some x):Jq l j↔QdJ l j x:=by
 constructor
 ·rintro ⟨y,hy,h⟩
  obtain rfl:=QiS hx hy
  exact h
 ·intro h
  exact ⟨x,hx,h⟩
theorem Qod {l:List D.Step} {k:Nat} {y:D.Step} (hy:l[k]? =some y):(∃z,l[k]? =some z∧z.Kind=1)↔y.Kind=1:=by
 constructor
 ·rintro ⟨z,hz,h⟩
  obtain rfl:=QiS hy hz
  exact h
 ·intro h
  exact ⟨y,hy,h⟩
theorem Qnv {l:List D.Step} {j:Nat} {x y:D.Step} (hx:l[j]? =some x) (hy:l[x.A.toNat]? =some y) (h1:1≤x.Kind∧x.Kind≤9) (h2:¬x.Kind=1) (h3:x.Word=(⟨#[]⟩:ByteArray)) (h4:0≤x.A∧x.A<(j:Int)) (h5:x.B=0) (h6:¬two x.Kind) (h7:¬x.Kind=2):decide (y.Kind=1)=decide (Jq l j):=by
 refine Zd ?_
 rw [QH hx]
 simp only [QdJ,Qod hy]
 exact ⟨fun h=>⟨h1,fun hk=>absurd hk h2,fun _=>⟨h3,h4,fun h=>absurd h h6,fun _=>h5,fun _ _=>h⟩⟩,fun h=>(h.2.2 h2).2.2.2.2 h6 h7⟩
theorem QnC {l:List D.Step} {j:Nat} {x:D.Step} (hx:l[j]? =some x) (h1:1≤x.Kind∧x.Kind≤9) (h2:x.Kind=1) (h3:Zj x.Word) (h4:x.A=0):decide (x.B=0)=decide (Jq l j):=by
 refine Zd ?_
 rw [QH hx]
 simp only [QdJ]
 exact ⟨fun h=>⟨h1,fun _=>⟨h3,h4,h⟩,fun hk=>absurd h2 hk⟩,fun h=>(h.2.1 h2).2.2⟩
theorem Zp : ¬Zj (⟨#[]⟩:ByteArray):=fun h=>absurd h.1.1 (by decide)
end
theorem Qdv (n:Nat) (a:Int):Pure (Qr Tryz.prog (n+1)) 110 [(tI a)] (tB (decide (a=3∨6≤a))):=by
 refine Pure.intro (rs:= [ResultVar.tmp 2]) Tryz.func110 Y Y Y (E0:= [(0,(tI a))]) Y ?_
 obtain ⟨hlim,hmx,hmax⟩:=QE
 refine sr (fO (OF.assign (VEv.bool false)) (nt (sr (mO (tI a) Y (fO (YD (tv (tI a) Y) (VEv.int .i64 3)) (mO (tB (decide (a=3))) Y ?_))))))
 refine gw (a=3) (fun fhg5_1=> ?_) fun fhg5_1=> ?_
 ·refine QA 2 2 false 5 (dy fhg5_1) Y Y Y ?_
  refine fO (OF.pickT (VEv.tmpB Y (dy fhg5_1)) (VEv.bool true)) (aO (tB true) Y (nt (rt (vb (b':=true) Y ?_))))
  (symm;rw [decide_eq_true_eq];omega)
 refine gF (dz fhg5_1) Y Y (OF.move (tv (tI a) Y)) (gF (dz fhg5_1) Y Y (xge (tv (tI a) Y) (VEv.int .i64 6)) (fO (OF.pickF (VEv.tmpB Y (dz fhg5_1)) (tv (tB (decide (6≤a))) Y)) (aO (tB (decide (6≤a))) Y (nt (rt (vb (b':=(decide (6≤a))) Y ?_))))))
 exact Zd (by omega)
theorem Z7 (n:Nat) (a:Int):Pure (Qr Tryz.prog (n+1)) 111 [(tI a)] (tB (decide (a=4∨a=5))):=by
 refine Pure.intro (rs:= [ResultVar.tmp 2]) Tryz.func111 Y Y Y (E0:= [(0,(tI a))]) Y ?_
 obtain ⟨hlim,hmx,hmax⟩:=QE
 refine sr (fO (OF.assign (VEv.bool false)) (nt (sr (mO (tI a) Y (fO (YD (tv (tI a) Y) (VEv.int .i64 4)) (mO (tB (decide (a=4))) Y ?_))))))
 refine gw (a=4) (fun fhg5_1=> ?_) fun fhg5_1=> ?_
 ·refine QA 2 2 false 5 (dy fhg5_1) Y Y Y ?_
  refine fO (OF.pickT (VEv.tmpB Y (dy fhg5_1)) (VEv.bool true)) (aO (tB true) Y (nt (rt (vb (b':=true) Y ?_))))
  (symm;rw [decide_eq_true_eq];omega)
 refine gF (dz fhg5_1) Y Y (OF.move (tv (tI a) Y)) (gF (dz fhg5_1) Y Y (YD (tv (tI a) Y) (VEv.int .i64 5)) (fO (OF.pickF (VEv.tmpB Y (dz fhg5_1)) (tv (tB (decide (a=5))) Y)) (aO (tB (decide (a=5))) Y (nt (rt (vb (b':=(decide (a=5))) Y ?_))))))
 exact Zd (by omega)
theorem Qgk (n:Nat) (a:List D.Step) (i:Nat) (hz:zL Zf a≤mx) (hi:i<a.length):Pure (Qr Tryz.prog (n+3)) 96 [(rd 4 Qg a),(tN i)] (tB (decide (Jq a i))):=by
 refine Pure.intro (rs:= [ResultVar.tmp 4]) Tryz.func96 Y Y Y (E0:= [(0,(rd 4 Qg a)),(1,(tN i))]) Y ?_
 obtain ⟨hlim,hmx,hmax⟩:=QE
 have ha:=Zb (z:=Zf) a
 have hw:∀x∈a,x.Word.size≤maxLen:=fun x hx=>by have h1:=Qk0 (z:=Zf) hx;simp only [Zf] at h1;omega
 refine sr (fO (OF.assign (VEv.bool false)) (nt (sr (mO (rd 4 Qg a) Y (mO (tN i) Y ?_)))))
 obtain ⟨x1,hx1⟩:∃x,a[i]? =some x:=⟨_,List.getElem?_eq_getElem (by omega)⟩
 refine fO (OF.indexAddrR (row:=(Qg false x1)) (i:=i) (tv (rd 4 Qg a) Y) (tv (tN i) Y) Y (Qt _ hx1) U72 ZQ YA) (lO (OL.loadRn (us:=(Qg false x1)) (tv (T.rp (Qg false x1)) Y) QcT ZQ (lb Y) Y) (kO (B.alloc (t:=(T.agg [(tN 0),(tS ByteArray.empty),(tN 0),(tN 0)])) (ts:= [(tN 0),(tS ByteArray.empty),(tN 0),(tN 0)]) QdG QdC nofun (fun _=> .agg _ _ Y (YZ (RL.cons (.int _ _) (RL.cons (.str _) (RL.cons (.int _ _) (RL.cons (.int _ _) (RL.nil _))))))) Y) (cO (B.storeW (us:=(Qg false x1)) (tv (T.op 0 0) Y) (tv (T.agg (Qg false x1)) Y) nofun Y Y Y YA ZQ (bc Y (bc Y (bc Y (bc Y bn))))) (nt (sq (sq (VRun.draw (B:= [[],[0],[0,1],[1,0,2],[2,0,1,3],[3,1,0,2,4],[4,2,0,1,3,5],[5,3,1,0,2,4,6],[3,1,0,2,4],[4,2,0,1,3,8],[8,3,1,0,2,4,9],[9,8,10,6,4,2,0,1,3,5,7],[7,5,6,10,8,9,11,3,1,0,2,4],[4,2,0,1,3,11,9,8,10,6,5,7,12],[12,7,5,6,10,8,9,11,3,1,0,2,4,13],[13,4,2,0,1,3,11,9,8,10,6,5,7,12,14],[14,12,7,5,6,10,8,9,11,3,1,0,2,4,13,15],[15,13,4,2,0,1,3,11,9,8,10,6,5,7,12,14,16],[16,14,12,7,5,6,10,8,9,11,3,1,0,2,4,13,15,17],[17,15,13,4,2,0,1,3,11,9,8,10,6,5,7,12,14,16,18],[18,16,14,12,7,5,6,10,8,9,11,3,1,0,2,4,13,15,17,19],[19,18,20,16,14,12,7,5,6,10,8,9,11,3,1,0,2,4,13,15,17],[17,15,14,16,20,18,19,21,12,7,5,6,10,8,9,11,3,1,0,2,4,13]]) (by kernel_rfl) (by kernel_rfl) (fD (OF.fieldAddrO (tv (T.op 0 0) Y) QV) Y Y (lD (OL.loadO1 (t:=(tI x1.Kind)) (tv (T.op 0 0) Y) Y Y QX) Y Y (VRunD.quiet (bi:= [0,1]) Y VWant.always Y Y Y bn (cS (vc (tv (tI x1.Kind) Y) (vc (VEv.int .i64 1) (vc (VEv.int .i64 9) vn))) (ZH Y) (QZ (n+1) x1.Kind 1 9) Y Y) (fD (Q8 (tv (tB (decide (1≤x1.Kind∧x1.Kind≤9))) Y)) Y Y ?_)))))))))))
 refine mD (tB (!(decide (1≤x1.Kind∧x1.Kind≤9)))) Y Y ?_
 refine gn (1≤x1.Kind∧x1.Kind≤9) (fun fhg15_1=> ?_) fun fhg15_1=> ?_
 ·refine oD Y Y (ny fhg15_1) Y ?_
  refine oD Y Y (ny fhg15_1) Y (oD Y Y (ny fhg15_1) Y (oD Y Y (ny fhg15_1) Y (oD Y Y (ny fhg15_1) Y (oD Y Y (ny fhg15_1) Y (oD Y Y (ny fhg15_1) Y (fD (OF.pickT (VEv.tmpB Y (ny fhg15_1)) (VEv.bool true)) Y Y (mD (tB true) Y Y (VRunD.off Y (VWant.not (b:=true) Y Y Y) (VRunD.off Y (VWant.not (b:=true) Y Y Y) (VRunD.off Y (VWant.not (b:=true) Y Y Y) (VRunD.off Y (VWant.not (b:=true) Y Y Y) ?_)))))))))))
  refine uD Y Y Y (uD Y Y Y (uD Y Y Y (VRunD.off Y (VWant.not (b:=true) Y Y Y) (fD (OF.pickT (tv (tB true) Y) (VEv.bool true)) Y Y (VRunD.nil (tn (ct Y (sr (fO (OF.assign (VEv.bool false)) (nt (rt ?_)))))))))))
  refine tr (vb (b':=false) Y ?_)
  (symm;rw [decide_eq_false_iff_not,QH hx1];rintro ⟨h1,h2,h3⟩;by_cases hk:x1.Kind=1<;>simp only [hk,two] at* <;>omega)
 refine VRunD.free Y (VWant.on Y Y (nz fhg15_1)) Y (OF.fieldAddrO (tv (T.op 0 0) Y) QV) (VRunD.look Y (VWant.on Y Y (nz fhg15_1)) Y (OL.loadO1 (t:=(tI x1.Kind)) (tv (T.op 0 0) Y) Y Y QX) (VRunD.free Y (VWant.on Y Y (nz fhg15_1)) Y (YD (tv (tI x1.Kind) Y) (VEv.int .i64 1)) (VRunD.free Y (VWant.on Y Y (nz fhg15_1)) Y (OF.fieldAddrO (tv (T.op 0 0) Y) YU) (VRunD.look Y (VWant.on Y Y (nz fhg15_1)) Y (OL.loadO1 (t:=(tS x1.Word)) (tv (T.op 0 1) Y) Y Y Ye) (VRunD.quiet (bi:= [8,3,1,0,2,4,9]) Y (VWant.on Y Y (nz fhg15_1)) Y Y Y bn (cS (vc (tv (tS x1.Word) Y) vn) (ZH Y) (Qah (n+0) x1.Word (by exact hw _ (List.mem_of_getElem? hx1))) Y Y) (VRunD.free Y (VWant.on Y Y (nz fhg15_1)) Y (B.bneq U4 (c:=(!((decide (x1.Kind=1)) == (decide (Zj x1.Word))))) (tv (tB (decide (x1.Kind=1))) Y) (tv (tB (decide (Zj x1.Word))) Y) Y) (fD (OF.pickF (VEv.tmpB Y (nz fhg15_1)) (tv (tB (!((decide (x1.Kind=1)) == (decide (Zj x1.Word))))) Y)) Y Y (mD (tB (!((decide (x1.Kind=1)) == (decide (Zj x1.Word))))) Y Y ?_))))))))
 refine Qcv (!((decide (x1.Kind=1)) == (decide (Zj x1.Word)))) (fun hg24_2=> ?_) (fun hg24_2=> ?_)
 ·have fhg24_2:(!((decide (x1.Kind=1)) == (decide (Zj x1.Word))))=true:=hg24_2
  refine oD Y Y hg24_2 Y (oD Y Y hg24_2 Y (oD Y Y hg24_2 Y (oD Y Y hg24_2 Y (uD Y Y Y (uD Y Y Y (uD Y Y Y (oD Y Y hg24_2 Y (fD (OF.pickT (VEv.tmpB Y hg24_2) (VEv.bool true)) Y Y (VRunD.nil (tn (ct Y ?_)))))))))))
  refine sr (fO (OF.assign (VEv.bool false)) (nt (rt (tr (vb (b':=false) Y ?_)))))
  (symm;rw [decide_eq_false_iff_not,QH hx1];rintro ⟨h1,h2,h3⟩;by_cases hk:x1.Kind=1<;>simp only [hk,two] at* <;>(simp_all [Zp];done))
 have fhg24_2:(!((decide (x1.Kind=1)) == (decide (Zj x1.Word))))=false:=hg24_2
 refine VRunD.free Y (VWant.on Y Y hg24_2) Y (OF.fieldAddrO (tv (T.op 0 0) Y) QV) (VRunD.look Y (VWant.on Y Y hg24_2) Y (OL.loadO1 (t:=(tI x1.Kind)) (tv (T.op 0 0) Y) Y Y QX) (VRunD.free Y (VWant.on Y Y hg24_2) Y (xne (tv (tI x1.Kind) Y) (VEv.int .i64 1)) (VRunD.free Y (VWant.on Y Y hg24_2) Y (OF.move (tv (tB (!(decide (x1.Kind=1)))) Y)) ?_)))
 refine gn (x1.Kind=1) (fun fhg28_3=> ?_) fun fhg28_3=> ?_
 ·refine VRunD.free Y (VWant.on Y Y (ny fhg28_3)) Y (OF.fieldAddrO (tv (T.op 0 0) Y) YU) ?_
  refine VRunD.look Y (VWant.on Y Y (ny fhg28_3)) Y (OL.loadO1 (t:=(tS x1.Word)) (tv (T.op 0 1) Y) Y Y Ye) (VRunD.free Y (VWant.on Y Y (ny fhg28_3)) Y (B.sneq (c:=(!(decide (x1.Word=(⟨#[]⟩:ByteArray))))) (tv (tS x1.Word) Y) (VEv.str (⟨#[]⟩:ByteArray)) Y) (VRunD.free Y (VWant.on Y Y hg24_2) Y (OF.pickT (VEv.tmpB Y (ny fhg28_3)) (tv (tB (!(decide (x1.Word=(⟨#[]⟩:ByteArray))))) Y)) (fD (OF.pickF (VEv.tmpB Y hg24_2) (tv (tB (!(decide (x1.Word=(⟨#[]⟩:ByteArray))))) Y)) Y Y (VRunD.nil (tn ?_)))))
  refine cn (x1.Word=(⟨#[]⟩:ByteArray)) Y (fun fhc0=> ?_) fun fhc0=> ?_
  ·refine sr ?_
   refine fO (OF.assign (VEv.bool false)) (nt (rt (tr (vb (b':=false) Y ?_))))
   (symm;rw [decide_eq_false_iff_not,QH hx1];rintro ⟨h1,h2,h3⟩;by_cases hk:x1.Kind=1<;>simp only [hk,two] at* <;>(simp_all [Zp];done))
  refine sk (tn (sr (lf (tI x1.Kind) Y QV Y Y QX (fO (YD (tv (tI x1.Kind) Y) (VEv.int .i64 4)) (mO (tB (decide (x1.Kind=4))) Y ?_)))))
  refine gw (x1.Kind=4) (fun fhg37_4=> ?_) fun fhg37_4=> ?_
  ·refine QA 3 3 false 37 (dy fhg37_4) Y Y Y ?_
   refine fO (OF.pickT (VEv.tmpB Y (dy fhg37_4)) (VEv.bool true)) (aO (tB true) Y (nt (sq (sr (lf (tI x1.Kind) Y QV Y Y QX (fO (YD (tv (tI x1.Kind) Y) (VEv.int .i64 1)) (nt (cg (dz fhg28_3) Y (sk (tn (sq ?_)))))))))))
   refine sr (lf (tI x1.A) Y Z4 Y Y QX (mO (tN i) Y (fO (B.sub (n:=(((i:Nat):Int) - 1)) (tv (tN i) Y) (VEv.int .i64 1) (by (rw [Qq (by omega)];done))) (cO (cS (vc (tv (tI x1.A) Y) (vc (VEv.int .i64 0) (vc (tv (tI (((i:Nat):Int) - 1)) Y) vn))) (ZH Y) (QZ (n+1) x1.A 0 (((i:Nat):Int) - 1)) Y Y) (fO (Q8 (tv (tB (decide (0≤x1.A∧x1.A≤(((i:Nat):Int) - 1)))) Y)) (mO (tB (!(decide (0≤x1.A∧x1.A≤(((i:Nat):Int) - 1))))) Y ?_))))))
   refine gn (0≤x1.A∧x1.A≤(((i:Nat):Int) - 1)) (fun fhg59_5=> ?_) fun fhg59_5=> ?_
   ·refine QA 2 6 false 59 (ny fhg59_5) Y Y Y ?_
    refine Qad 6 8 true 61 Y Y Y (oO Y Y (ny fhg59_5) (fO (OF.pickT (VEv.tmpB Y (ny fhg59_5)) (VEv.bool true)) (mO (tB true) Y (QA 3 17 false 70 (b:=true) Y Y Y Y (Qad 3 20 true 73 Y Y Y (VRunO.off (VWant.not (b:=true) Y Y Y) (fO (OF.pickT (tv (tB true) Y) (VEv.bool true)) (nt (ct Y (sr (fO (OF.assign (VEv.bool false)) ?_)))))))))))
    refine nt (rt (tr (vb (b':=false) Y ?_)))
    (symm;rw [decide_eq_false_iff_not,QH hx1];rintro ⟨h1,h2,h3⟩;by_cases hk:x1.Kind=1<;>simp only [hk,two] at* <;>first | omega | (simp_all [Zp];omega))
   refine gF (nz fhg59_5) Y Y (OF.move (tv (tB true) Y)) (gF (nz fhg59_5) Y Y (OF.move (tv (tB true) Y)) (VRunO.free (VWant.on (b:=true) Y Y Y) (OF.fieldAddrO (tv (T.op 0 0) Y) ZV) (VRunO.look (VWant.on (b:=true) Y Y Y) (OL.loadO1 (t:=(tI x1.B)) (tv (T.op 0 3) Y) Y Y QX) (VRunO.free (VWant.on (b:=true) Y Y Y) (OF.move (tv (tN i) Y)) (VRunO.free (VWant.on (b:=true) Y Y Y) (B.sub (n:=(((i:Nat):Int) - 1)) (tv (tN i) Y) (VEv.int .i64 1) (by (rw [Qq (by omega)];done))) (VRunO.chain (VWant.on (b:=true) Y Y Y) (cS (vc (tv (tI x1.B) Y) (vc (VEv.int .i64 0) (vc (tv (tI (((i:Nat):Int) - 1)) Y) vn))) (ZH Y) (QZ (n+1) x1.B 0 (((i:Nat):Int) - 1)) Y Y) (VRunO.free (VWant.on (b:=true) Y Y Y) (Q8 (tv (tB (decide (0≤x1.B∧x1.B≤(((i:Nat):Int) - 1)))) Y)) (gF (nz fhg59_5) Y Y (OF.pickT (tv (tB true) Y) (tv (tB (!(decide (0≤x1.B∧x1.B≤(((i:Nat):Int) - 1))))) Y)) (fO (OF.pickF (VEv.tmpB Y (nz fhg59_5)) (tv (tB (!(decide (0≤x1.B∧x1.B≤(((i:Nat):Int) - 1))))) Y)) (mO (tB (!(decide (0≤x1.B∧x1.B≤(((i:Nat):Int) - 1))))) Y ?_))))))))))
   refine gn (0≤x1.B∧x1.B≤(((i:Nat):Int) - 1)) (fun fhg70_6=> ?_) fun fhg70_6=> ?_
   ·refine QA 3 17 false 70 (ny fhg70_6) Y Y Y ?_
    refine Qad 3 20 true 73 Y Y Y (oO Y Y (ny fhg70_6) (fO (OF.pickT (VEv.tmpB Y (ny fhg70_6)) (VEv.bool true)) (nt (ct Y (sr (fO (OF.assign (VEv.bool false)) (nt (rt (tr (vb (b':=false) Y ?_))))))))))
    (symm;rw [decide_eq_false_iff_not,QH hx1];rintro ⟨h1,h2,h3⟩;by_cases hk:x1.Kind=1<;>simp only [hk,two] at* <;>first | omega | (simp_all [Zp];omega))
   refine gF (nz fhg70_6) Y Y (OF.move (tv (tB true) Y)) (gF (nz fhg70_6) Y Y (B.not (c:=false) (tv (tB true) Y) Y) (gF (nz fhg70_6) Y Y (OF.move (tv (tB false) Y)) (QA 3 20 true 73 (b:=false) Y Y Y Y (gF (nz fhg70_6) Y Y (OF.pickF (tv (tB false) Y) (VEv.bool false)) (fO (OF.pickF (VEv.tmpB Y (nz fhg70_6)) (tv (tB false) Y)) (nt (cf Y (sk (tn (sr (mO (tB true) Y ?_)))))))))))
   refine mO (tB true) Y (QA 3 1 false 80 (b:=true) Y Y Y Y (fO (OF.pickT (tv (tB true) Y) (VEv.bool true)) (mO (tB true) Y (QA 7 6 false 85 (b:=true) Y Y Y Y (fO (OF.pickT (tv (tB true) Y) (VEv.bool true)) (aO (tB true) Y (nt (rt (vb (b':=true) Y ?_)))))))))
   (symm;rw [decide_eq_true_eq,QH hx1];refine ⟨by omega,fun hk=> ?_,fun hk=> ?_⟩<;>first | (exfalso;omega) | (simp_all [two,Zp];omega))
  refine Yl (tI x1.Kind) (dz fhg37_4) Y Y Y Y QV Y Y QX (gF (dz fhg37_4) Y Y (YD (tv (tI x1.Kind) Y) (VEv.int .i64 5)) (fO (OF.pickF (VEv.tmpB Y (dz fhg37_4)) (tv (tB (decide (x1.Kind=5))) Y)) (aO (tB (decide (x1.Kind=5))) Y (nt (sq (sr (lf (tI x1.Kind) Y QV Y Y QX (fO (YD (tv (tI x1.Kind) Y) (VEv.int .i64 1)) (nt (cg (dz fhg28_3) Y (sk ?_)))))))))))
  refine tn (sq (sr (lf (tI x1.A) Y Z4 Y Y QX (mO (tN i) Y (fO (B.sub (n:=(((i:Nat):Int) - 1)) (tv (tN i) Y) (VEv.int .i64 1) (by (rw [Qq (by omega)];done))) (cO (cS (vc (tv (tI x1.A) Y) (vc (VEv.int .i64 0) (vc (tv (tI (((i:Nat):Int) - 1)) Y) vn))) (ZH Y) (QZ (n+1) x1.A 0 (((i:Nat):Int) - 1)) Y Y) (fO (Q8 (tv (tB (decide (0≤x1.A∧x1.A≤(((i:Nat):Int) - 1)))) Y)) (mO (tB (!(decide (0≤x1.A∧x1.A≤(((i:Nat):Int) - 1))))) Y ?_))))))))
  refine gn (0≤x1.A∧x1.A≤(((i:Nat):Int) - 1)) (fun fhg59_7=> ?_) fun fhg59_7=> ?_
  ·refine QA 2 6 false 59 (ny fhg59_7) Y Y Y ?_
   refine Qad 6 8 true 61 Y Y Y (oO Y Y (ny fhg59_7) (fO (OF.pickT (VEv.tmpB Y (ny fhg59_7)) (VEv.bool true)) (mO (tB true) Y (QA 3 17 false 70 (b:=true) Y Y Y Y (Qad 3 20 true 73 Y Y Y (VRunO.off (VWant.not (b:=true) Y Y Y) (fO (OF.pickT (tv (tB true) Y) (VEv.bool true)) (nt (ct Y (sr (fO (OF.assign (VEv.bool false)) ?_)))))))))))
   refine nt (rt (tr (vb (b':=false) Y ?_)))
   (symm;rw [decide_eq_false_iff_not,QH hx1];rintro ⟨h1,h2,h3⟩;by_cases hk:x1.Kind=1<;>simp only [hk,two] at* <;>first | (simp_all [Zp];done) | (simp_all [Zp];omega))
  refine gF (nz fhg59_7) Y Y (OF.move (tv (tB (decide (x1.Kind=5))) Y)) (gF (nz fhg59_7) Y Y (OF.move (tv (tB (decide (x1.Kind=5))) Y)) ?_)
  refine gw (x1.Kind=5) (fun fhg61_8=> ?_) fun fhg61_8=> ?_
  ·refine Yl (tI x1.B) (dy fhg61_8) Y Y Y Y ZV Y Y QX ?_
   refine gF (dy fhg61_8) Y Y (OF.move (tv (tN i) Y)) (gF (dy fhg61_8) Y Y (B.sub (n:=(((i:Nat):Int) - 1)) (tv (tN i) Y) (VEv.int .i64 1) (by (rw [Qq (by omega)];done))) (VRunO.chain (VWant.on Y Y (dy fhg61_8)) (cS (vc (tv (tI x1.B) Y) (vc (VEv.int .i64 0) (vc (tv (tI (((i:Nat):Int) - 1)) Y) vn))) (ZH Y) (QZ (n+1) x1.B 0 (((i:Nat):Int) - 1)) Y Y) (gF (dy fhg61_8) Y Y (Q8 (tv (tB (decide (0≤x1.B∧x1.B≤(((i:Nat):Int) - 1)))) Y)) (gF (nz fhg59_7) Y Y (OF.pickT (VEv.tmpB Y (dy fhg61_8)) (tv (tB (!(decide (0≤x1.B∧x1.B≤(((i:Nat):Int) - 1))))) Y)) (fO (OF.pickF (VEv.tmpB Y (nz fhg59_7)) (tv (tB (!(decide (0≤x1.B∧x1.B≤(((i:Nat):Int) - 1))))) Y)) (mO (tB (!(decide (0≤x1.B∧x1.B≤(((i:Nat):Int) - 1))))) Y ?_))))))
   refine gn (0≤x1.B∧x1.B≤(((i:Nat):Int) - 1)) (fun fhg70_9=> ?_) fun fhg70_9=> ?_
   ·refine QA 3 17 false 70 (ny fhg70_9) Y Y Y ?_
    refine Qad 3 20 true 73 Y Y Y (oO Y Y (ny fhg70_9) (fO (OF.pickT (VEv.tmpB Y (ny fhg70_9)) (VEv.bool true)) (nt (ct Y (sr (fO (OF.assign (VEv.bool false)) (nt (rt (tr (vb (b':=false) Y ?_))))))))))
    (symm;rw [decide_eq_false_iff_not,QH hx1];rintro ⟨h1,h2,h3⟩;by_cases hk:x1.Kind=1<;>simp only [hk,two] at* <;>first | omega | (simp_all [Zp];omega))
   refine gF (nz fhg70_9) Y Y (OF.move (tv (tB (decide (x1.Kind=5))) Y)) (gF (nz fhg70_9) Y Y (Q8 (tv (tB (decide (x1.Kind=5))) Y)) (gF (nz fhg70_9) Y Y (OF.move (tv (tB (!(decide (x1.Kind=5)))) Y)) (QA 3 20 true 73 (nkT (dy fhg61_8)) Y Y Y (gF (nz fhg70_9) Y Y (OF.pickF (VEv.tmpB Y (nkT (dy fhg61_8))) (VEv.bool false)) (fO (OF.pickF (VEv.tmpB Y (nz fhg70_9)) (tv (tB false) Y)) (nt (cf Y (sk (tn (sr (mO (tB (decide (x1.Kind=5))) Y ?_)))))))))))
   refine mO (tB (decide (x1.Kind=5))) Y (QA 3 1 false 80 (dy fhg61_8) Y Y Y (fO (OF.pickT (VEv.tmpB Y (dy fhg61_8)) (VEv.bool true)) (mO (tB true) Y (QA 7 6 false 85 (b:=true) Y Y Y Y (fO (OF.pickT (tv (tB true) Y) (VEv.bool true)) (aO (tB true) Y (nt (rt (vb (b':=true) Y ?_)))))))))
   (symm;rw [decide_eq_true_eq,QH hx1];refine ⟨by omega,fun hk=> ?_,fun hk=> ?_⟩<;>first | (exfalso;omega) | (simp_all [two,Zp];omega))
  refine QA 6 8 true 61 (dz fhg61_8) Y Y Y (gF (nz fhg59_7) Y Y (OF.pickF (VEv.tmpB Y (dz fhg61_8)) (VEv.bool false)) (fO (OF.pickF (VEv.tmpB Y (nz fhg59_7)) (tv (tB false) Y)) (mO (tB false) Y (VRunO.free (VWant.on (b:=false) Y Y Y) (OF.move (tv (tB (decide (x1.Kind=5))) Y)) (VRunO.free (VWant.on (b:=false) Y Y Y) (Q8 (tv (tB (decide (x1.Kind=5))) Y)) (VRunO.free (VWant.on (b:=false) Y Y Y) (OF.move (tv (tB (!(decide (x1.Kind=5)))) Y)) (Yl (tI x1.B) (nkF (dz fhg61_8)) Y Y Y Y ZV Y Y QX (gF (nkF (dz fhg61_8)) Y Y (xne (tv (tI x1.B) Y) (VEv.int .i64 0)) (VRunO.free (VWant.on (b:=false) Y Y Y) (OF.pickT (VEv.tmpB Y (nkF (dz fhg61_8))) (tv (tB (!(decide (x1.B=0)))) Y)) (fO (OF.pickF (tv (tB false) Y) (tv (tB (!(decide (x1.B=0)))) Y)) (nt ?_)))))))))))
  refine cn (x1.B=0) Y (fun fhc2=> ?_) fun fhc2=> ?_
  ·refine sr ?_
   refine fO (OF.assign (VEv.bool false)) (nt (rt (tr (vb (b':=false) Y ?_))))
   (symm;rw [decide_eq_false_iff_not,QH hx1];rintro ⟨h1,h2,h3⟩;by_cases hk:x1.Kind=1<;>simp only [hk,two] at* <;>(simp_all [Zp];done))
  refine sk (tn (sr (mO (tB (decide (x1.Kind=5))) Y (mO (tB (decide (x1.Kind=5))) Y (Yl (tI x1.Kind) (dz fhg61_8) Y Y Y Y QV Y Y QX (gF (dz fhg61_8) Y Y (YD (tv (tI x1.Kind) Y) (VEv.int .i64 2)) (fO (OF.pickF (VEv.tmpB Y (dz fhg61_8)) (tv (tB (decide (x1.Kind=2))) Y)) (mO (tB (decide (x1.Kind=2))) Y ?_))))))))
  refine gw (x1.Kind=2) (fun fhg85_10=> ?_) fun fhg85_10=> ?_
  ·refine QA 7 6 false 85 (dy fhg85_10) Y Y Y ?_
   refine fO (OF.pickT (VEv.tmpB Y (dy fhg85_10)) (VEv.bool true)) (aO (tB true) Y (nt (rt (vb (b':=true) Y ?_))))
   (symm;rw [decide_eq_true_eq,QH hx1];refine ⟨by omega,fun hk=> ?_,fun hk=> ?_⟩<;>first | (exfalso;omega) | (simp_all [two,Zp];omega))
  refine gF (dz fhg85_10) Y Y (OF.move (tv (rd 4 Qg a) Y)) (Yl (tI x1.A) (dz fhg85_10) Y Y Y Y Z4 Y Y QX ?_)
  obtain ⟨x2,hx2⟩:∃x,a[(Int.toNat x1.A)]? =some x:=⟨_,List.getElem?_eq_getElem (by omega)⟩
  refine gF (dz fhg85_10) Y Y (OF.indexAddrR (row:=(Qg false x2)) (i:=(Int.toNat x1.A)) (tv (rd 4 Qg a) Y) (tv (tI x1.A) Y) (by omega) (Qt _ hx2) U72 ZQ YA) (glr (tI x2.Kind) (dz fhg85_10) Y Y Y Y (lb Y) QV Y QX (gF (dz fhg85_10) Y Y (YD (tv (tI x2.Kind) Y) (VEv.int .i64 1)) (fO (OF.pickF (VEv.tmpB Y (dz fhg85_10)) (tv (tB (decide (x2.Kind=1))) Y)) (aO (tB (decide (x2.Kind=1))) Y (nt (rt (vb (b':=(decide (x2.Kind=1))) Y ?_)))))))
  (refine Qnv hx1 hx2 ?_ ?_ ?_ ?_ ?_ ?_ ?_<;>first | assumption | omega | (simp only [two];omega))
 refine oD Y Y (nz fhg28_3) Y (oD Y Y (nz fhg28_3) Y (oD Y Y (nz fhg28_3) Y (VRunD.free Y (VWant.on Y Y hg24_2) Y (OF.pickF (VEv.tmpB Y (nz fhg28_3)) (VEv.bool false)) (fD (OF.pickF (VEv.tmpB Y hg24_2) (tv (tB false) Y)) Y Y (VRunD.nil (tn (cf Y (sk (tn (sr (lf (tI x1.Kind) Y QV Y Y QX ?_)))))))))))
 refine fO (YD (tv (tI x1.Kind) Y) (VEv.int .i64 4)) (mO (tB (decide (x1.Kind=4))) Y ?_)
 refine gw (x1.Kind=4) (fun fhg37_11=> ?_) fun fhg37_11=> ?_
 ·refine QA 3 3 false 37 (dy fhg37_11) Y Y Y ?_
  refine fO (OF.pickT (VEv.tmpB Y (dy fhg37_11)) (VEv.bool true)) (aO (tB true) Y (nt (sq (sr (lf (tI x1.Kind) Y QV Y Y QX (fO (YD (tv (tI x1.Kind) Y) (VEv.int .i64 1)) (nt (ck (dy fhg28_3) Y (sr (lf (tI x1.A) Y Z4 Y Y QX (fO (YD (tv (tI x1.A) Y) (VEv.int .i64 0)) ?_)))))))))))
  refine mO (tB (decide (x1.A=0))) Y ?_
  refine gw (x1.A=0) (fun fhg48_12=> ?_) fun fhg48_12=> ?_
  ·refine Yl (tI x1.B) (dy fhg48_12) Y Y Y Y ZV Y Y QX ?_
   refine gF (dy fhg48_12) Y Y (YD (tv (tI x1.B) Y) (VEv.int .i64 0)) (fO (OF.pickT (VEv.tmpB Y (dy fhg48_12)) (tv (tB (decide (x1.B=0))) Y)) (aO (tB (decide (x1.B=0))) Y (nt (rt (tr (vb (b':=(decide (x1.B=0))) Y ?_))))))
   (exfalso;omega)
  refine QA 3 3 true 48 (dz fhg48_12) Y Y Y (fO (OF.pickF (VEv.tmpB Y (dz fhg48_12)) (VEv.bool false)) (aO (tB false) Y (nt (rt (tr (vb (b':=false) Y ?_))))))
  (exfalso;omega)
 refine Yl (tI x1.Kind) (dz fhg37_11) Y Y Y Y QV Y Y QX (gF (dz fhg37_11) Y Y (YD (tv (tI x1.Kind) Y) (VEv.int .i64 5)) (fO (OF.pickF (VEv.tmpB Y (dz fhg37_11)) (tv (tB (decide (x1.Kind=5))) Y)) (aO (tB (decide (x1.Kind=5))) Y (nt (sq (sr (lf (tI x1.Kind) Y QV Y Y QX (fO (YD (tv (tI x1.Kind) Y) (VEv.int .i64 1)) (nt (ck (dy fhg28_3) Y (sr ?_)))))))))))
 refine lf (tI x1.A) Y Z4 Y Y QX (fO (YD (tv (tI x1.A) Y) (VEv.int .i64 0)) (mO (tB (decide (x1.A=0))) Y ?_))
 refine gw (x1.A=0) (fun fhg48_13=> ?_) fun fhg48_13=> ?_
 ·refine Yl (tI x1.B) (dy fhg48_13) Y Y Y Y ZV Y Y QX ?_
  refine gF (dy fhg48_13) Y Y (YD (tv (tI x1.B) Y) (VEv.int .i64 0)) (fO (OF.pickT (VEv.tmpB Y (dy fhg48_13)) (tv (tB (decide (x1.B=0))) Y)) (aO (tB (decide (x1.B=0))) Y (nt (rt (tr (vb (b':=(decide (x1.B=0))) Y ?_))))))
  (refine QnC hx1 ?_ ?_ ?_ ?_<;>first | assumption | (simp_all;done))
 refine QA 3 3 true 48 (dz fhg48_13) Y Y Y (fO (OF.pickF (VEv.tmpB Y (dz fhg48_13)) (VEv.bool false)) (aO (tB false) Y (nt (rt (tr (vb (b':=false) Y ?_))))))
 (symm;rw [decide_eq_false_iff_not,QH hx1];rintro ⟨h1,h2,h3⟩;by_cases hk:x1.Kind=1<;>simp only [hk,two] at* <;>(simp_all [Zp];done))
theorem QbP (n:Nat) (a:List D.Step) (hz:zL Zf a≤mx):Pure (Qr Tryz.prog (n+4)) 71 [(rd 4 Qg a)] (tB (decide (QT a))):=by
 refine Pure.intro (rs:= [ResultVar.tmp 2]) Tryz.func71 Y Y Y (E0:= [(0,(rd 4 Qg a))]) Y ?_
 obtain ⟨hlim,hmx,hmax⟩:=QE
 have ha:=Zb (z:=Zf) a
 refine sr (fO (OF.assign (VEv.bool false)) (nt (sq (sr (fO (OF.assign (VEv.int .i64 0)) (nt (VRun.block ?_)))))))
 refine VRun.loop (A:=Nat) (fun s_=> [(0,(rd 4 Qg a)),(3,(tN s_))]) (fun s_=>Q5 []) 0 (fun s_=>s_≤a.length∧∀j,j<s_→Jq a j) (fun s_=>a.length - s_) (0:Nat) ?_ (Wk.mk (fun k=>k) ?_ ?_ ?_) ?_
 ·exact ⟨Nat.zero_le _,fun j hj=>by omega⟩
 ·exact (b2 (b2 bn))
 ·exact bn
 ·exact nd Y
 rintro i (hI':i≤a.length∧∀j,j<i→Jq a j)
 show VRun _ _ _ [(0,(rd 4 Qg a)),(3,(tN i))] (Q5 []) 0 _
 have hI0:=hI'
 refine sq (sr (mO (tN i) Y (mO (rd 4 Qg a) Y (lO (B.lenR (m:=a.length) (tv (rd 4 Qg a) Y) U72 (List.length_map ..)) (fO (Zg (tv (tN i) Y) (tv (tN a.length) Y)) (mO (tB (decide (i<a.length))) Y ?_))))))
 refine gw (i<a.length) (fun fhg8_1=> ?_) fun fhg8_1=> ?_
 ·refine gF (dy fhg8_1) Y Y (OF.move (tv (rd 4 Qg a) Y)) ?_
  refine gL (dy fhg8_1) Y Y (B.lenR (m:=a.length) (tv (rd 4 Qg a) Y) U72 (List.length_map ..)) (gF (dy fhg8_1) Y Y (B.leq (c:=(decide (a.length≤9))) (tv (tN a.length) Y) (VEv.int .i64 9) (Zd (by omega))) (fO (OF.pickT (VEv.tmpB Y (dy fhg8_1)) (tv (tB (decide (a.length≤9))) Y)) (nt ?_)))
  refine cd (a.length≤9) Y (fun fhc0=> ?_) fun fhc0=> ?_
  ·refine sk ?_
   refine tn (sq (VRun.block (sr (mO (rd 4 Qg a) Y (mO (tN i) Y (cO (cS (vc (tv (rd 4 Qg a) Y) (vc (tv (tN i) Y) vn)) (ZH Y) (Qgk (n+0) a i (by assumption) (by assumption)) Y Y) (fO (Q8 (tv (tB (decide (Jq a i))) Y)) (nt ?_))))))))
   refine cn (Jq a i) Y (fun fhc1=> ?_) fun fhc1=> ?_
   ·refine sr ?_
    refine fO (OF.assign (VEv.bool false)) (nt (rt (vinB.r (tr (tr (vinB.r (tr (vb (b':=false) Y ?_))))))))
    (symm;rw [decide_eq_false_iff_not];rintro ⟨h1,h2⟩;exact absurd (h2 i (by omega)) (by assumption))
   refine sk (vinB.n (tn (VRun.region (mO (tN i) Y (fO (QB (tv (tN i) Y) (VEv.int .i64 1) (by omega)) (aO (tN (i+1)) Y (VRunO.nil (tn ?_))))))))
   refine ⟨(i+1:Nat),?_,?_,Wk.mk (fun k=>k) ?_ ?_ ?_⟩
   ·exact Q4 hI0 (by omega) (by assumption)
   ·omega
   ·exact (b2 (b2 bn))
   ·exact bn
   ·exact nd Y
  refine VRun.exit (vthn.e (vthn.e (vinB.e (tn (sr (mO (rd 4 Qg a) Y (lO (B.lenR (m:=a.length) (tv (rd 4 Qg a) Y) U72 (List.length_map ..)) (cO (cS (vc (tv (tN a.length) Y) (vc (VEv.int .i64 1) (vc (VEv.int .i64 9) vn))) (ZH Y) (QZ (n+2) ((a.length:Nat):Int) 1 9) Y Y) (aO (tB (decide (1≤((a.length:Nat):Int)∧((a.length:Nat):Int)≤9))) Y (nt (rt ?_)))))))))))
  refine vb (b':=(decide (1≤((a.length:Nat):Int)∧((a.length:Nat):Int)≤9))) Y ?_
  (refine Zd ⟨fun h=>⟨by omega,Qap hI' (by omega)⟩,fun h=>by have:=h.1;omega⟩)
 refine QA 3 4 true 8 (dz fhg8_1) Y Y Y (fO (OF.pickF (VEv.tmpB Y (dz fhg8_1)) (VEv.bool false)) (nt (cf Y (VRun.exit (vthn.e (vthn.e (vinB.e (tn (sr (mO (rd 4 Qg a) Y (lO (B.lenR (m:=a.length) (tv (rd 4 Qg a) Y) U72 (List.length_map ..)) ?_)))))))))))
 refine cO (cS (vc (tv (tN a.length) Y) (vc (VEv.int .i64 1) (vc (VEv.int .i64 9) vn))) (ZH Y) (QZ (n+2) ((a.length:Nat):Int) 1 9) Y Y) (aO (tB (decide (1≤((a.length:Nat):Int)∧((a.length:Nat):Int)≤9))) Y (nt (rt (vb (b':=(decide (1≤((a.length:Nat):Int)∧((a.length:Nat):Int)≤9))) Y ?_))))
 (refine Zd ⟨fun h=>⟨by omega,Qap hI' (by omega)⟩,fun h=>by have:=h.1;omega⟩)
theorem QbU (n:Nat) (a:List D.Step) (hz:zL Zf a≤mx):Pure (Qr Tryz.prog (n+3)) 84 [(rd 4 Qg a)] (tB (decide (QT a))):=by
 refine Pure.intro (rs:= [ResultVar.tmp 2]) Tryz.func84 Y Y Y (E0:= [(0,(rd 4 Qg a))]) Y ?_
 obtain ⟨hlim,hmx,hmax⟩:=QE
 have ha:=Zb (z:=Zf) a
 have hw:∀x∈a,x.Word.size≤maxLen:=fun x hx=>by have h1:=Qk0 (z:=Zf) hx;simp only [Zf] at h1;omega
 refine sr (fO (OF.assign (VEv.bool false)) (nt (sq (sr (mO (rd 4 Qg a) Y (lO (B.lenR (m:=a.length) (tv (rd 4 Qg a) Y) U72 (List.length_map ..)) (cO (cS (vc (tv (tN a.length) Y) (vc (VEv.int .i64 1) (vc (VEv.int .i64 9) vn))) (ZH Y) (Zn (n+1) ((a.length:Nat):Int) 1 9) Y Y) (fO (Q8 (tv (tB (decide (1≤((a.length:Nat):Int)∧((a.length:Nat):Int)≤9))) Y)) (nt ?_)))))))))
 refine cn (1≤((a.length:Nat):Int)∧((a.length:Nat):Int)≤9) Y (fun fhc0=> ?_) fun fhc0=> ?_
 ·refine sr ?_
  refine fO (OF.assign (VEv.bool false)) (nt (rt (tr (vb (b':=false) Y ?_))))
  (symm;rw [decide_eq_false_iff_not];rintro ⟨h1,h2⟩;(exfalso;omega))
 refine sk (tn (sq (sr (mO (rd 4 Qg a) Y (lO (B.lenR (m:=a.length) (tv (rd 4 Qg a) Y) U72 (List.length_map ..)) (fO (OF.move (VEv.int .i64 0)) (nt (VRun.block ?_))))))))
 refine VRun.loop (A:=Nat) (fun s_=> [(0,(rd 4 Qg a)),(9,(rd 4 Qg a)),(10,(tN a.length)),(11,(tN s_))]) (fun s_=>Q5 []) 0 (fun s_=>s_≤a.length∧∀j,j<s_→Jq a j) (fun s_=>a.length - s_) (0:Nat) ?_ (Wk.mk (fun k=>k) ?_ ?_ ?_) ?_
 ·exact ⟨Nat.zero_le _,fun j hj=>by omega⟩
 ·exact (b2 (b2 (b2 (b2 bn))))
 ·exact bn
 ·exact nd Y
 rintro i (hI':i≤a.length∧∀j,j<i→Jq a j)
 show VRun _ _ _ [(0,(rd 4 Qg a)),(9,(rd 4 Qg a)),(10,(tN a.length)),(11,(tN i))] (Q5 []) 0 _
 have hI0:=hI'
 refine sr (fO (Zg (tv (tN i) Y) (tv (tN a.length) Y)) (nt (sq ?_)))
 refine cd (i<a.length) Y (fun fhc1=> ?_) fun fhc1=> ?_
 ·refine sk ?_
  refine tn (sq (VRun.block (sr (mO (tN i) Y ?_))))
  obtain ⟨x1,hx1⟩:∃x,a[i]? =some x:=⟨_,List.getElem?_eq_getElem (by omega)⟩
  refine fO (OF.indexAddrR (row:=(Qg false x1)) (i:=i) (tv (rd 4 Qg a) Y) (tv (tN i) Y) Y (Qt _ hx1) U72 ZQ YA) (lO (OL.loadRn (us:=(Qg false x1)) (tv (T.rp (Qg false x1)) Y) QcT ZQ (lb Y) Y) (kO (B.alloc (t:=(T.agg [(tN 0),(tS ByteArray.empty),(tN 0),(tN 0)])) (ts:= [(tN 0),(tS ByteArray.empty),(tN 0),(tN 0)]) QdG QdC nofun (fun _=> .agg _ _ Y (YZ (RL.cons (.int _ _) (RL.cons (.str _) (RL.cons (.int _ _) (RL.cons (.int _ _) (RL.nil _))))))) Y) (aO (tN i) Y (cO (B.storeW (us:=(Qg false x1)) (tv (T.op 0 0) Y) (tv (T.agg (Qg false x1)) Y) nofun Y Y Y YA ZQ (bc Y (bc Y (bc Y (bc Y bn))))) (nt (sq (sr (lf (tI x1.Kind) Y QV Y Y QX (cO (cS (vc (tv (tI x1.Kind) Y) (vc (VEv.int .i64 1) (vc (VEv.int .i64 9) vn))) (ZH Y) (Zn (n+1) x1.Kind 1 9) Y Y) (fO (Q8 (tv (tB (decide (1≤x1.Kind∧x1.Kind≤9))) Y)) (nt ?_)))))))))))
  refine cn (1≤x1.Kind∧x1.Kind≤9) Y (fun fhc2=> ?_) fun fhc2=> ?_
  ·refine sr ?_
   refine fO (OF.assign (VEv.bool false)) (nt (rt (tr (vinB.r (tr (tr (vinB.r (tr (vb (b':=false) Y ?_)))))))))
   (symm;rw [decide_eq_false_iff_not];rintro ⟨h1,h2⟩;(have h3:=(QH hx1).1 (h2 i fhc1);obtain ⟨h4,h5,h6⟩:=h3;simp only [two] at h6;omega))
  refine sk (tn (sq (sr (lf (tI x1.Kind) Y QV Y Y QX (fO (YD (tv (tI x1.Kind) Y) (VEv.int .i64 1)) (nt ?_))))))
  refine cd (x1.Kind=1) Y (fun fhc3=> ?_) fun fhc3=> ?_
  ·refine sq ?_
   refine sr (lf (tS x1.Word) Y YU Y Y Ye (cO (cS (vc (tv (tS x1.Word) Y) vn) (ZH Y) (Qac (n+0) x1.Word (by exact hw _ (List.mem_of_getElem? hx1))) Y Y) (fO (Q8 (tv (tB (decide (Zj x1.Word))) Y)) (mO (tB (!(decide (Zj x1.Word)))) Y ?_))))
   refine gn (Zj x1.Word) (fun fhg27_1=> ?_) fun fhg27_1=> ?_
   ·refine QA 3 4 false 27 (ny fhg27_1) Y Y Y ?_
    refine fO (OF.pickT (VEv.tmpB Y (ny fhg27_1)) (VEv.bool true)) (mO (tB true) Y (QA 3 9 false 32 (b:=true) Y Y Y Y (fO (OF.pickT (tv (tB true) Y) (VEv.bool true)) (nt (ct Y (sr (fO (OF.assign (VEv.bool false)) (nt (rt (tr (tr ?_)))))))))))
    refine vinB.r (tr (tr (vinB.r (tr (vb (b':=false) Y ?_)))))
    (symm;rw [decide_eq_false_iff_not];rintro ⟨h1,h2⟩;(have h3:=(QH hx1).1 (h2 i fhc1);obtain ⟨h4,h5,h6⟩:=h3;simp only [two] at h6;(by_cases hk:x1.Kind=1<;>simp_all<;>omega)))
   refine Yl (tI x1.A) (nz fhg27_1) Y Y Y Y Z4 Y Y QX (gF (nz fhg27_1) Y Y (xne (tv (tI x1.A) Y) (VEv.int .i64 0)) (fO (OF.pickF (VEv.tmpB Y (nz fhg27_1)) (tv (tB (!(decide (x1.A=0)))) Y)) (mO (tB (!(decide (x1.A=0)))) Y ?_)))
   refine gn (x1.A=0) (fun fhg32_2=> ?_) fun fhg32_2=> ?_
   ·refine QA 3 9 false 32 (ny fhg32_2) Y Y Y ?_
    refine fO (OF.pickT (VEv.tmpB Y (ny fhg32_2)) (VEv.bool true)) (nt (ct Y (sr (fO (OF.assign (VEv.bool false)) (nt (rt (tr (tr (vinB.r (tr (tr ?_)))))))))))
    refine vinB.r (tr (vb (b':=false) Y ?_))
    (symm;rw [decide_eq_false_iff_not];rintro ⟨h1,h2⟩;(have h3:=(QH hx1).1 (h2 i fhc1);obtain ⟨h4,h5,h6⟩:=h3;simp only [two] at h6;omega))
   refine Yl (tI x1.B) (nz fhg32_2) Y Y Y Y ZV Y Y QX (gF (nz fhg32_2) Y Y (xne (tv (tI x1.B) Y) (VEv.int .i64 0)) (fO (OF.pickF (VEv.tmpB Y (nz fhg32_2)) (tv (tB (!(decide (x1.B=0)))) Y)) (nt ?_)))
   refine cn (x1.B=0) Y (fun fhc4=> ?_) fun fhc4=> ?_
   ·refine sr ?_
    refine fO (OF.assign (VEv.bool false)) (nt (rt (tr (tr (vinB.r (tr (tr (vinB.r (tr (vb (b':=false) Y ?_))))))))))
    (symm;rw [decide_eq_false_iff_not];rintro ⟨h1,h2⟩;(have h3:=(QH hx1).1 (h2 i fhc1);obtain ⟨h4,h5,h6⟩:=h3;simp only [two] at h6;omega))
   refine sk (tn (VRun.exit (vthn.e (vinB.e (tn (VRun.region (fO (QB (tv (tN i) Y) (VEv.int .i64 1) (by omega)) (mO (tN (i+1)) Y (VRunO.nil (tn ?_))))))))))
   refine ⟨(i+1:Nat),?_,?_,Wk.mk (fun k=>k) ?_ ?_ ?_⟩
   ·refine Q4 hI0 fhc1 ((QH hx1).2 ?_)
    simp only [QdJ,two]
    refine ⟨by omega,fun hk=> ?_,fun hk=> ?_⟩
    ·(refine ⟨?_,?_,?_⟩<;>assumption)
    ·(exfalso;omega)
   ·omega
   ·exact (b2 (b2 (b2 (b2 bn))))
   ·exact bn
   ·exact nd Y
  refine sk (tn (sq (sr (lf (tS x1.Word) Y YU Y Y Ye (fO (B.sneq (c:=(!(decide (x1.Word=(⟨#[]⟩:ByteArray))))) (tv (tS x1.Word) Y) (VEv.str (⟨#[]⟩:ByteArray)) Y) (mO (tB (!(decide (x1.Word=(⟨#[]⟩:ByteArray))))) Y ?_))))))
  refine gn (x1.Word=(⟨#[]⟩:ByteArray)) (fun fhg40_3=> ?_) fun fhg40_3=> ?_
  ·refine QA 5 3 false 40 (ny fhg40_3) Y Y Y ?_
   refine fO (OF.pickT (VEv.tmpB Y (ny fhg40_3)) (VEv.bool true)) (mO (tB true) Y (QA 4 10 false 47 (b:=true) Y Y Y Y (Qad 7 14 true 51 Y Y Y (VRunO.off (VWant.not (b:=true) Y Y Y) (fO (OF.pickT (tv (tB true) Y) (VEv.bool true)) (nt (ct Y (sr (fO (OF.assign (VEv.bool false)) (nt (rt ?_)))))))))))
   refine tr (vinB.r (tr (tr (vinB.r (tr (vb (b':=false) Y ?_))))))
   (symm;rw [decide_eq_false_iff_not];rintro ⟨h1,h2⟩;(have h3:=(QH hx1).1 (h2 i fhc1);obtain ⟨h4,h5,h6⟩:=h3;simp only [two] at h6;(by_cases hk:x1.Kind=1<;>simp_all<;>omega)))
  refine Yl (tI x1.A) (nz fhg40_3) Y Y Y Y Z4 Y Y QX (gF (nz fhg40_3) Y Y (OF.move (tv (tN i) Y)) (VRunO.chain (VWant.on Y Y (nz fhg40_3)) (cS (vc (tv (tI x1.A) Y) (vc (tv (tN i) Y) vn)) (ZH Y) (Y8 (n+1) x1.A ((i:Nat):Int)) Y Y) (gF (nz fhg40_3) Y Y (Q8 (tv (tB (decide (0≤x1.A∧x1.A<((i:Nat):Int)))) Y)) (fO (OF.pickF (VEv.tmpB Y (nz fhg40_3)) (tv (tB (!(decide (0≤x1.A∧x1.A<((i:Nat):Int))))) Y)) (mO (tB (!(decide (0≤x1.A∧x1.A<((i:Nat):Int))))) Y ?_)))))
  refine gn (0≤x1.A∧x1.A<((i:Nat):Int)) (fun fhg47_4=> ?_) fun fhg47_4=> ?_
  ·refine QA 4 10 false 47 (ny fhg47_4) Y Y Y ?_
   refine Qad 7 14 true 51 Y Y Y (oO Y Y (ny fhg47_4) (fO (OF.pickT (VEv.tmpB Y (ny fhg47_4)) (VEv.bool true)) (nt (ct Y (sr (fO (OF.assign (VEv.bool false)) (nt (rt (tr (vinB.r (tr ?_)))))))))))
   refine tr (vinB.r (tr (vb (b':=false) Y ?_)))
   (symm;rw [decide_eq_false_iff_not];rintro ⟨h1,h2⟩;(have h3:=(QH hx1).1 (h2 i fhc1);obtain ⟨h4,h5,h6⟩:=h3;simp only [two] at h6;omega))
  refine Yl (tI x1.Kind) (nz fhg47_4) Y Y Y Y QV Y Y QX (VRunO.chain (VWant.on Y Y (nz fhg47_4)) (cS (vc (tv (tI x1.Kind) Y) vn) (ZH Y) (Qdv (n+1) x1.Kind) Y Y) (gF (nz fhg47_4) Y Y (OF.move (tv (tB (decide (x1.Kind=3∨6≤x1.Kind))) Y)) ?_))
  refine gw (x1.Kind=3∨6≤x1.Kind) (fun fhg51_5=> ?_) fun fhg51_5=> ?_
  ·refine gF (dy fhg51_5) Y Y (OF.move (tv (rd 4 Qg a) Y)) ?_
   refine Yl (tI x1.A) (dy fhg51_5) Y Y Y Y Z4 Y Y QX ?_
   obtain ⟨x2,hx2⟩:∃x,a[(Int.toNat x1.A)]? =some x:=⟨_,List.getElem?_eq_getElem (by omega)⟩
   refine gF (dy fhg51_5) Y Y (OF.indexAddrR (row:=(Qg false x2)) (i:=(Int.toNat x1.A)) (tv (rd 4 Qg a) Y) (tv (tI x1.A) Y) (by omega) (Qt _ hx2) U72 ZQ YA) (glr (tI x2.Kind) (dy fhg51_5) Y Y Y Y (lb Y) QV Y QX (gF (dy fhg51_5) Y Y (xne (tv (tI x2.Kind) Y) (VEv.int .i64 1)) (gF (nz fhg47_4) Y Y (OF.pickT (VEv.tmpB Y (dy fhg51_5)) (tv (tB (!(decide (x2.Kind=1)))) Y)) (fO (OF.pickF (VEv.tmpB Y (nz fhg47_4)) (tv (tB (!(decide (x2.Kind=1)))) Y)) (nt ?_)))))
   refine cn (x2.Kind=1) Y (fun fhc5=> ?_) fun fhc5=> ?_
   ·refine sr ?_
    refine fO (OF.assign (VEv.bool false)) (nt (rt (tr (vinB.r (tr (tr (vinB.r (tr (vb (b':=false) Y ?_)))))))))
    (symm;rw [decide_eq_false_iff_not];rintro ⟨h1,h2⟩;(have h3:=(QH hx1).1 (h2 i fhc1);obtain ⟨h4,h5,h6⟩:=h3;simp only [two] at h6;(by_cases hk:x1.Kind=1<;>simp_all<;>omega)))
   refine sk (tn (sr (lf (tI x1.Kind) Y QV Y Y QX (cO (cS (vc (tv (tI x1.Kind) Y) vn) (ZH Y) (Z7 (n+1) x1.Kind) Y Y) (mO (tB (decide (x1.Kind=4∨x1.Kind=5))) Y ?_)))))
   refine gw (x1.Kind=4∨x1.Kind=5) (fun fhg64_6=> ?_) fun fhg64_6=> ?_
   ·refine Yl (tI x1.B) (dy fhg64_6) Y Y Y Y ZV Y Y QX ?_
    refine gF (dy fhg64_6) Y Y (OF.move (tv (tN i) Y)) (VRunO.chain (VWant.on Y Y (dy fhg64_6)) (cS (vc (tv (tI x1.B) Y) (vc (tv (tN i) Y) vn)) (ZH Y) (Y8 (n+1) x1.B ((i:Nat):Int)) Y Y) (gF (dy fhg64_6) Y Y (Q8 (tv (tB (decide (0≤x1.B∧x1.B<((i:Nat):Int)))) Y)) (fO (OF.pickT (VEv.tmpB Y (dy fhg64_6)) (tv (tB (!(decide (0≤x1.B∧x1.B<((i:Nat):Int))))) Y)) (mO (tB (!(decide (0≤x1.B∧x1.B<((i:Nat):Int))))) Y ?_))))
    refine gn (0≤x1.B∧x1.B<((i:Nat):Int)) (fun fhg71_7=> ?_) fun fhg71_7=> ?_
    ·refine QA 5 10 false 71 (ny fhg71_7) Y Y Y ?_
     refine Qad 3 15 true 76 Y Y Y (oO Y Y (ny fhg71_7) (fO (OF.pickT (VEv.tmpB Y (ny fhg71_7)) (VEv.bool true)) (nt (ct Y (sr (fO (OF.assign (VEv.bool false)) (nt (rt (vinB.r (tr (tr ?_)))))))))))
     refine vinB.r (tr (vb (b':=false) Y ?_))
     (symm;rw [decide_eq_false_iff_not];rintro ⟨h1,h2⟩;(exfalso;omega))
    refine Yl (tI x1.Kind) (nz fhg71_7) Y Y Y Y QV Y Y QX (VRunO.chain (VWant.on Y Y (nz fhg71_7)) (cS (vc (tv (tI x1.Kind) Y) vn) (ZH Y) (Z7 (n+1) x1.Kind) Y Y) (gF (nz fhg71_7) Y Y (Q8 (tv (tB (decide (x1.Kind=4∨x1.Kind=5))) Y)) (gF (nz fhg71_7) Y Y (OF.move (tv (tB (!(decide (x1.Kind=4∨x1.Kind=5)))) Y)) (QA 3 15 true 76 (nkT (dy fhg64_6)) Y Y Y (gF (nz fhg71_7) Y Y (OF.pickF (VEv.tmpB Y (nkT (dy fhg64_6))) (VEv.bool false)) (fO (OF.pickF (VEv.tmpB Y (nz fhg71_7)) (tv (tB false) Y)) (nt (cf Y (sk (vinB.n (tn ?_)))))))))))
    refine VRun.region (fO (QB (tv (tN i) Y) (VEv.int .i64 1) (by omega)) (mO (tN (i+1)) Y (VRunO.nil (tn ?_))))
    refine ⟨(i+1:Nat),?_,?_,Wk.mk (fun k=>k) ?_ ?_ ?_⟩
    ·refine Q4 hI0 fhc1 ((QH hx1).2 ?_)
     simp only [QdJ,two]
     refine ⟨by omega,fun hk=> ?_,fun hk=> ?_⟩
     ·(exfalso;omega)
     ·(exfalso;omega)
    ·omega
    ·exact (b2 (b2 (b2 (b2 bn))))
    ·exact bn
    ·exact nd Y
   refine QA 5 3 true 64 (dz fhg64_6) Y Y Y (fO (OF.pickF (VEv.tmpB Y (dz fhg64_6)) (VEv.bool false)) (mO (tB false) Y (VRunO.free (VWant.on (b:=false) Y Y Y) (OF.fieldAddrO (tv (T.op 0 0) Y) QV) (VRunO.look (VWant.on (b:=false) Y Y Y) (OL.loadO1 (t:=(tI x1.Kind)) (tv (T.op 0 0) Y) Y Y QX) (VRunO.chain (VWant.on (b:=false) Y Y Y) (cS (vc (tv (tI x1.Kind) Y) vn) (ZH Y) (Z7 (n+1) x1.Kind) Y Y) (VRunO.free (VWant.on (b:=false) Y Y Y) (Q8 (tv (tB (decide (x1.Kind=4∨x1.Kind=5))) Y)) (VRunO.free (VWant.on (b:=false) Y Y Y) (OF.move (tv (tB (!(decide (x1.Kind=4∨x1.Kind=5)))) Y)) (Yl (tI x1.B) (nkF (dz fhg64_6)) Y Y Y Y ZV Y Y QX (gF (nkF (dz fhg64_6)) Y Y (xne (tv (tI x1.B) Y) (VEv.int .i64 0)) (VRunO.free (VWant.on (b:=false) Y Y Y) (OF.pickT (VEv.tmpB Y (nkF (dz fhg64_6))) (tv (tB (!(decide (x1.B=0)))) Y)) (fO (OF.pickF (tv (tB false) Y) (tv (tB (!(decide (x1.B=0)))) Y)) ?_)))))))))))
   refine nt ?_
   refine cn (x1.B=0) Y (fun fhc6=> ?_) fun fhc6=> ?_
   ·refine sr ?_
    refine fO (OF.assign (VEv.bool false)) (nt (rt (vinB.r (tr (tr (vinB.r (tr (vb (b':=false) Y ?_))))))))
    (symm;rw [decide_eq_false_iff_not];rintro ⟨h1,h2⟩;(have h3:=(QH hx1).1 (h2 i fhc1);obtain ⟨h4,h5,h6⟩:=h3;simp only [two] at h6;omega))
   refine sk (vinB.n (tn (VRun.region (fO (QB (tv (tN i) Y) (VEv.int .i64 1) (by omega)) (mO (tN (i+1)) Y (VRunO.nil (tn ?_)))))))
   refine ⟨(i+1:Nat),?_,?_,Wk.mk (fun k=>k) ?_ ?_ ?_⟩
   ·refine Q4 hI0 fhc1 ((QH hx1).2 ?_)
    simp only [QdJ,two]
    refine ⟨by omega,fun hk=> ?_,fun hk=> ?_⟩
    ·(exfalso;omega)
    ·(refine ⟨?_,?_,fun h=> ?_,fun h=> ?_,fun h1 h2=> ?_⟩<;>first | assumption | omega | (refine ⟨x2,hx2,?_⟩;omega))
   ·omega
   ·exact (b2 (b2 (b2 (b2 bn))))
   ·exact bn
   ·exact nd Y
  refine QA 7 14 true 51 (dz fhg51_5) Y Y Y (gF (nz fhg47_4) Y Y (OF.pickF (VEv.tmpB Y (dz fhg51_5)) (VEv.bool false)) (fO (OF.pickF (VEv.tmpB Y (nz fhg47_4)) (tv (tB false) Y)) (nt (cf Y (sk (tn (sr (lf (tI x1.Kind) Y QV Y Y QX (cO (cS (vc (tv (tI x1.Kind) Y) vn) (ZH Y) (Z7 (n+1) x1.Kind) Y Y) (mO (tB (decide (x1.Kind=4∨x1.Kind=5))) Y ?_))))))))))
  refine gw (x1.Kind=4∨x1.Kind=5) (fun fhg64_8=> ?_) fun fhg64_8=> ?_
  ·refine Yl (tI x1.B) (dy fhg64_8) Y Y Y Y ZV Y Y QX ?_
   refine gF (dy fhg64_8) Y Y (OF.move (tv (tN i) Y)) (VRunO.chain (VWant.on Y Y (dy fhg64_8)) (cS (vc (tv (tI x1.B) Y) (vc (tv (tN i) Y) vn)) (ZH Y) (Y8 (n+1) x1.B ((i:Nat):Int)) Y Y) (gF (dy fhg64_8) Y Y (Q8 (tv (tB (decide (0≤x1.B∧x1.B<((i:Nat):Int)))) Y)) (fO (OF.pickT (VEv.tmpB Y (dy fhg64_8)) (tv (tB (!(decide (0≤x1.B∧x1.B<((i:Nat):Int))))) Y)) (mO (tB (!(decide (0≤x1.B∧x1.B<((i:Nat):Int))))) Y ?_))))
   refine gn (0≤x1.B∧x1.B<((i:Nat):Int)) (fun fhg71_9=> ?_) fun fhg71_9=> ?_
   ·refine QA 5 10 false 71 (ny fhg71_9) Y Y Y ?_
    refine Qad 3 15 true 76 Y Y Y (oO Y Y (ny fhg71_9) (fO (OF.pickT (VEv.tmpB Y (ny fhg71_9)) (VEv.bool true)) (nt (ct Y (sr (fO (OF.assign (VEv.bool false)) (nt (rt (vinB.r (tr (tr ?_)))))))))))
    refine vinB.r (tr (vb (b':=false) Y ?_))
    (symm;rw [decide_eq_false_iff_not];rintro ⟨h1,h2⟩;(have h3:=(QH hx1).1 (h2 i fhc1);obtain ⟨h4,h5,h6⟩:=h3;simp only [two] at h6;omega))
   refine Yl (tI x1.Kind) (nz fhg71_9) Y Y Y Y QV Y Y QX (VRunO.chain (VWant.on Y Y (nz fhg71_9)) (cS (vc (tv (tI x1.Kind) Y) vn) (ZH Y) (Z7 (n+1) x1.Kind) Y Y) (gF (nz fhg71_9) Y Y (Q8 (tv (tB (decide (x1.Kind=4∨x1.Kind=5))) Y)) (gF (nz fhg71_9) Y Y (OF.move (tv (tB (!(decide (x1.Kind=4∨x1.Kind=5)))) Y)) (QA 3 15 true 76 (nkT (dy fhg64_8)) Y Y Y (gF (nz fhg71_9) Y Y (OF.pickF (VEv.tmpB Y (nkT (dy fhg64_8))) (VEv.bool false)) (fO (OF.pickF (VEv.tmpB Y (nz fhg71_9)) (tv (tB false) Y)) (nt (cf Y (sk (vinB.n (tn ?_)))))))))))
   refine VRun.region (fO (QB (tv (tN i) Y) (VEv.int .i64 1) (by omega)) (mO (tN (i+1)) Y (VRunO.nil (tn ?_))))
   refine ⟨(i+1:Nat),?_,?_,Wk.mk (fun k=>k) ?_ ?_ ?_⟩
   ·refine Q4 hI0 fhc1 ((QH hx1).2 ?_)
    simp only [QdJ,two]
    refine ⟨by omega,fun hk=> ?_,fun hk=> ?_⟩
    ·(exfalso;omega)
    ·(refine ⟨?_,?_,fun h=> ?_,fun h=> ?_,fun h1 h2=> ?_⟩<;>first | assumption | omega)
   ·omega
   ·exact (b2 (b2 (b2 (b2 bn))))
   ·exact bn
   ·exact nd Y
  refine QA 5 3 true 64 (dz fhg64_8) Y Y Y (fO (OF.pickF (VEv.tmpB Y (dz fhg64_8)) (VEv.bool false)) (mO (tB false) Y (VRunO.free (VWant.on (b:=false) Y Y Y) (OF.fieldAddrO (tv (T.op 0 0) Y) QV) (VRunO.look (VWant.on (b:=false) Y Y Y) (OL.loadO1 (t:=(tI x1.Kind)) (tv (T.op 0 0) Y) Y Y QX) (VRunO.chain (VWant.on (b:=false) Y Y Y) (cS (vc (tv (tI x1.Kind) Y) vn) (ZH Y) (Z7 (n+1) x1.Kind) Y Y) (VRunO.free (VWant.on (b:=false) Y Y Y) (Q8 (tv (tB (decide (x1.Kind=4∨x1.Kind=5))) Y)) (VRunO.free (VWant.on (b:=false) Y Y Y) (OF.move (tv (tB (!(decide (x1.Kind=4∨x1.Kind=5)))) Y)) (Yl (tI x1.B) (nkF (dz fhg64_8)) Y Y Y Y ZV Y Y QX (gF (nkF (dz fhg64_8)) Y Y (xne (tv (tI x1.B) Y) (VEv.int .i64 0)) (VRunO.free (VWant.on (b:=false) Y Y Y) (OF.pickT (VEv.tmpB Y (nkF (dz fhg64_8))) (tv (tB (!(decide (x1.B=0)))) Y)) (fO (OF.pickF (tv (tB false) Y) (tv (tB (!(decide (x1.B=0)))) Y)) ?_)))))))))))
  refine nt ?_
  refine cn (x1.B=0) Y (fun fhc6=> ?_) fun fhc6=> ?_
  ·refine sr ?_
   refine fO (OF.assign (VEv.bool false)) (nt (rt (vinB.r (tr (tr (vinB.r (tr (vb (b':=false) Y ?_))))))))
   (symm;rw [decide_eq_false_iff_not];rintro ⟨h1,h2⟩;(have h3:=(QH hx1).1 (h2 i fhc1);obtain ⟨h4,h5,h6⟩:=h3;simp only [two] at h6;omega))
  refine sk (vinB.n (tn (VRun.region (fO (QB (tv (tN i) Y) (VEv.int .i64 1) (by omega)) (mO (tN (i+1)) Y (VRunO.nil (tn ?_)))))))
  refine ⟨(i+1:Nat),?_,?_,Wk.mk (fun k=>k) ?_ ?_ ?_⟩
  ·refine Q4 hI0 fhc1 ((QH hx1).2 ?_)
   simp only [QdJ,two]
   refine ⟨by omega,fun hk=> ?_,fun hk=> ?_⟩
   ·(exfalso;omega)
   ·(refine ⟨?_,?_,fun h=> ?_,fun h=> ?_,fun h1 h2=> ?_⟩<;>first | assumption | omega)
  ·omega
  ·exact (b2 (b2 (b2 (b2 bn))))
  ·exact bn
  ·exact nd Y
 refine VRun.exit (vthn.e (vthn.e (vinB.e (tn (sr (fO (OF.assign (VEv.bool true)) (nt (rt (vb (b':=true) Y ?_)))))))))
 (symm;rw [decide_eq_true_eq];exact ⟨by omega,Qap hI' fhc1⟩)
theorem QbR (n:Nat) (a:D.Clue) (hz:QO a≤mx):Pure (Qr Tryz.prog (n+5)) 50 [(T.agg (Qe false a))] (tB (decide ((1≤a.Sense∧a.Sense≤99)∧QT a.Play))):=by
 refine Pure.intro (rs:= [ResultVar.tmp 2]) Tryz.func50 Y Y Y (E0:= [(0,(T.agg (Qe false a)))]) Y ?_
 obtain ⟨hlim,hmx,hmax⟩:=QE
 simp only [QO] at hz
 refine sr (kO (B.box (ts:=(Qe false a)) (tv (T.agg (Qe false a)) Y) nofun Y) (fO (OF.assign (VEv.bool false)) (nt (sr (lf (tI a.Sense) Y Qa2 Y Y QX (cO (cS (vc (tv (tI a.Sense) Y) (vc (VEv.int .i64 1) (vc (VEv.int .i64 99) vn))) (ZH Y) (QZ (n+3) a.Sense 1 99) Y Y) (mO (tB (decide (1≤a.Sense∧a.Sense≤99))) Y ?_)))))))
 refine gw (1≤a.Sense∧a.Sense≤99) (fun fhg6_1=> ?_) fun fhg6_1=> ?_
 ·refine Yl (rd 4 Qg a.Play) (dy fhg6_1) Y Y Y Y Qa5 Y Y Qie ?_
  refine VRunO.chain (VWant.on Y Y (dy fhg6_1)) (cS (vc (tv (rd 4 Qg a.Play) Y) vn) (ZH Y) (QbP (n+0) a.Play (by assumption)) Y Y) (fO (OF.pickT (VEv.tmpB Y (dy fhg6_1)) (tv (tB (decide (QT a.Play))) Y)) (aO (tB (decide (QT a.Play))) Y (nt (rt (vb (b':=(decide (QT a.Play))) Y ?_)))))
  (refine Zd ⟨fun h=>⟨?_,h⟩,fun h=>h.2⟩;assumption)
 refine QA 3 3 true 6 (dz fhg6_1) Y Y Y (fO (OF.pickF (VEv.tmpB Y (dz fhg6_1)) (VEv.bool false)) (aO (tB false) Y (nt (rt (vb (b':=false) Y ?_)))))
 (symm;rw [decide_eq_false_iff_not];rintro ⟨h1,h2⟩;contradiction)
theorem QbL (n:Nat) (a:D.Clue) (hz:QO a≤mx):Pure (Qr Tryz.prog (n+4)) 59 [(T.agg (Qe false a))] (tB (decide ((1≤a.Sense∧a.Sense≤99)∧QT a.Play))):=by
 refine Pure.intro (rs:= [ResultVar.tmp 2]) Tryz.func59 Y Y Y (E0:= [(0,(T.agg (Qe false a)))]) Y ?_
 obtain ⟨hlim,hmx,hmax⟩:=QE
 simp only [QO] at hz
 refine sr (kO (B.box (ts:=(Qe false a)) (tv (T.agg (Qe false a)) Y) nofun Y) (fO (OF.assign (VEv.bool false)) (nt (sr (lf (tI a.Sense) Y Qa2 Y Y QX (cO (cS (vc (tv (tI a.Sense) Y) (vc (VEv.int .i64 1) (vc (VEv.int .i64 99) vn))) (ZH Y) (Zn (n+2) a.Sense 1 99) Y Y) (mO (tB (decide (1≤a.Sense∧a.Sense≤99))) Y ?_)))))))
 refine gw (1≤a.Sense∧a.Sense≤99) (fun fhg6_1=> ?_) fun fhg6_1=> ?_
 ·refine Yl (rd 4 Qg a.Play) (dy fhg6_1) Y Y Y Y Qa5 Y Y Qie ?_
  refine VRunO.chain (VWant.on Y Y (dy fhg6_1)) (cS (vc (tv (rd 4 Qg a.Play) Y) vn) (ZH Y) (QbU (n+0) a.Play (by assumption)) Y Y) (fO (OF.pickT (VEv.tmpB Y (dy fhg6_1)) (tv (tB (decide (QT a.Play))) Y)) (aO (tB (decide (QT a.Play))) Y (nt (rt (vb (b':=(decide (QT a.Play))) Y ?_)))))
  (refine Zd ⟨fun h=>⟨?_,h⟩,fun h=>h.2⟩;assumption)
 refine QA 3 3 true 6 (dz fhg6_1) Y Y Y (fO (OF.pickF (VEv.tmpB Y (dz fhg6_1)) (VEv.bool false)) (aO (tB false) Y (nt (rt (vb (b':=false) Y ?_)))))
 (symm;rw [decide_eq_false_iff_not];rintro ⟨h1,h2⟩;contradiction)
noncomputable section
def Yw (a:List Int) (i:Nat):List Int:=(List.range a.length).map fun j=>if j<i∨a.length≤j+i then a.getD (a.length - 1 - j) 0 else a.getD j 0
theorem JN (a:List Int) (i:Nat):(Yw a i).length=a.length:=by simp [Yw]
theorem Qcz {a:List Int} {i j:Nat} (h:j<a.length):(Yw a i)[j]? =some (if j<i∨a.length≤j+i then a.getD (a.length - 1 - j) 0 else a.getD j 0):=by
 unfold Yw
 rw [List.getElem?_map,List.getElem?_range h]
 rfl
theorem QjI (a:List Int):Yw a 0=a:=by
 refine List.ext_getElem? fun j=> ?_
 rcases Nat.lt_or_ge j a.length with h | h
 ·rw [Qcz h,if_neg (by omega),List.getD_eq_getElem?_getD,List.getElem?_eq_getElem h]
  rfl
 ·rw [List.getElem?_eq_none (by rw [JN];exact h),List.getElem?_eq_none h]
theorem Qle {a:List Int} {i:Nat} (h:a.length≤2*i+1) (h2:i≤a.length):Yw a i=a.reverse:=by
 refine List.ext_getElem? fun j=> ?_
 rcases Nat.lt_or_ge j a.length with h3 | h3
 ·rw [Qcz h3,List.getElem?_reverse h3,List.getElem?_eq_getElem (by omega)]
  split
  ·rw [List.getD_eq_getElem?_getD,List.getElem?_eq_getElem (by omega)];rfl
  ·have e:a.length - 1 - j=j:=by omega
   rw [List.getD_eq_getElem?_getD,List.getElem?_eq_getElem h3]
   simp only [Option.getD_some,e]
 ·rw [List.getElem?_eq_none (by rw [JN];exact h3),List.getElem?_eq_none (by simpa using h3)]
theorem Qjn {a:List Int} {i k:Nat} {x y:Int} (hk:k=a.length - 1 - i) (hi:i<k) (hx:(Yw a i)[k]? =some x) (hy:(Yw a i)[i]? =some y):((Yw a i).set i x).set k y=Yw a (i+1):=by
 subst hk
 rw [Qcz (by omega),if_neg (by omega)] at hx hy
 obtain rfl:=Option.some.inj hx
 obtain rfl:=Option.some.inj hy
 refine List.ext_getElem? fun j=> ?_
 rcases Nat.lt_or_ge j a.length with h | h
 ·rw [Qcz h,List.getElem?_set,List.getElem?_set,List.length_set,JN,Qcz h]
  by_cases e1:a.length - 1 - i=j
  ·rw [if_pos e1,if_pos (by omega),if_pos (by omega)]
   congr 2
   omega
  ·rw [if_neg e1]
   by_cases e2:i=j
   ·rw [if_pos e2,if_pos (by omega),if_pos (by omega),e2]
   ·rw [if_neg e2]
    by_cases e3:j<i∨a.length≤j+i
    ·rw [if_pos e3,if_pos (by omega)]
    ·rw [if_neg e3,if_neg (by omega)]
 ·rw [List.getElem?_eq_none (by rw [List.length_set,List.length_set,JN];exact h),List.getElem?_eq_none (by rw [JN];exact h)]
end
theorem Jv (n:Nat) (a:List Int) (ha:a.length≤Zr):Mut (Qr Tryz.prog (n+1)) 149 1 (a.map (QW true)) [] none (a.reverse.map (QW true)):=by
 refine Mut.intro (rt:=0) Tryz.func149 Y Y Y (by kernel_rfl) (ZP (fun _=>rfl) _) (ZP (fun _=>rfl) _) (E0:= []) Y ?_
 obtain ⟨hlim,hmx,hmax⟩:=QE
 refine sr (mO (T.os 1 0 0 ((a.map (QW true)).length)) Y (lO (B.lenO (m:=a.length) (tv (T.os 1 0 0 ((a.map (QW true)).length)) Y) U92 (List.length_map ..)) (fO (B.sub (n:=(((a.length:Nat):Int) - 1)) (tv (tN a.length) Y) (VEv.int .i64 1) (by (rw [Qq (by omega)];done))) (fO (OF.assign (VEv.int .i64 0)) (aO (tI (((a.length:Nat):Int) - 1)) Y (nt (VRun.block ?_)))))))
 have he1:a=Yw a 0:=by exact (QjI a).symm
 refine VRun.loop (A:=Nat) (fun s_=> [(0,(T.os 1 0 0 (((Yw a s_).map (QW true)).length))),(2,(tN s_)),(3,(tI ((a.length:Int) - 1 - s_)))]) (fun s_=>Q5 [(0,(Obj.rows 1 ((Yw a s_).map (QW true))))]) 1 (fun s_=>2*s_≤a.length+1∧s_≤a.length) (fun s_=>a.length - s_) (0:Nat) ?_ (Wk.mk (fun k=>k) ?_ ?_ ?_) ?_
 ·(simp;done)
 ·exact (bc ⟨(congrArg (fun l_=>T.os 1 0 0 (List.map (QW true) l_).length) he1),rfl⟩ (b2 (bc ⟨(congrArg (T.int .i64) (show (((a.length:Nat):Int) - 1)=(a.length:Int) - 1 - 0 from (by omega))),rfl⟩ bn)))
 ·exact (bc ⟨(congrArg (fun l_=>some (Obj.rows 1 (List.map (QW true) l_))) he1),(lb Y),rfl⟩ bn)
 ·exact nd Y
 rintro i (hI':2*i≤a.length+1∧i≤a.length)
 show VRun _ _ _ [(0,(T.os 1 0 0 (((Yw a i).map (QW true)).length))),(2,(tN i)),(3,(tI ((a.length:Int) - 1 - i)))] (Q5 [(0,(Obj.rows 1 ((Yw a i).map (QW true))))]) 1 _
 have hml:=JN a i
 have hI1:=hI'.1
 have hI2:=hI'.2
 refine sq (sr (mO (tN i) Y (mO (tI ((a.length:Int) - 1 - i)) Y (fO (xls (tv (tN i) Y) (tv (tI ((a.length:Int) - 1 - i)) Y)) (nt ?_)))))
 refine cd (((i:Nat):Int)<(a.length:Int) - 1 - i) Y (fun fhc0=> ?_) fun fhc0=> ?_
 ·refine sk ?_
  refine tn (sq (VRun.block (VRun.draw (B:= [[],[],[],[],[],[],[5,4],[4,5,6],[],[],[9,8],[8,9,10],[10,9,8,11,7,6,5,4,1,0],[0,1,4,5,6,7,11,8,9,10,12],[13,12,11,10,9,8,7,6,5,4,1,0,3,2],[2,3,0,1,4,5,6,7,8,9,10,11,12,13,14]]) (by kernel_rfl) (by kernel_rfl) (mD (T.os 1 0 0 (((Yw a i).map (QW true)).length)) Y Y (mD (tN i) Y Y (mD (T.os 1 0 0 (((Yw a i).map (QW true)).length)) Y Y (mD (tI ((a.length:Int) - 1 - i)) Y Y (mD (T.os 1 0 0 (((Yw a i).map (QW true)).length)) Y Y (mD (tI ((a.length:Int) - 1 - i)) Y Y ?_)))))))))
  obtain ⟨x1,hx1⟩:∃x,(Yw a i)[(Int.toNat ((a.length:Int) - 1 - i))]? =some x:=⟨_,List.getElem?_eq_getElem (by omega)⟩
  refine fD (B.indexAddrO (i:=(Int.toNat ((a.length:Int) - 1 - i))) (tv (T.os 1 0 0 (((Yw a i).map (QW true)).length)) Y) (tv (tI ((a.length:Int) - 1 - i)) Y) (by omega) (by (simp only [List.length_map];omega)) U92 sz5 if5) Y Y (lD (OL.loadP1 (t:=(T.int .u8 x1)) (row:=(QW true x1)) (tv (T.orp 1 0 (Int.toNat ((a.length:Int) - 1 - i)) 0) Y) Y (Qt _ hx1) Y Y st5) Y Y (mD (T.os 1 0 0 (((Yw a i).map (QW true)).length)) Y Y (mD (tN i) Y Y ?_)))
  obtain ⟨x2,hx2⟩:∃x,(Yw a i)[i]? =some x:=⟨_,List.getElem?_eq_getElem (by omega)⟩
  refine fD (B.indexAddrO (i:=i) (tv (T.os 1 0 0 (((Yw a i).map (QW true)).length)) Y) (tv (tN i) Y) Y (by (simp only [List.length_map];omega)) U92 sz5 if5) Y Y (lD (OL.loadP1 (t:=(T.int .u8 x2)) (row:=(QW true x2)) (tv (T.orp 1 0 i 0) Y) Y (Qt _ hx2) Y Y st5) Y Y (fD (B.indexAddrO (i:=i) (tv (T.os 1 0 0 (((Yw a i).map (QW true)).length)) Y) (tv (tN i) Y) Y (by (simp only [List.length_map];omega)) U92 sz5 if5) Y Y (VRunD.chain (bi:= [0,1,4,5,6,7,11,8,9,10,12]) Y VWant.always Y Y Y (by kernel_rfl) (B.storeP (us:= [(T.int .u8 x1)]) (rows':=(((Yw a i).set i x1).map (QW true))) (row:=(QW true x2)) (tv (T.orp 1 0 i 0) Y) (tv (T.int .u8 x1) Y) nofun Y (Qt _ hx2) Y (lb Y) if5 sz5 (bc Y bn) (by intro r hr t ht;obtain ⟨x,_,rfl⟩:=List.mem_map.1 hr;rw [QkM] at ht;exact ZD (okByte.pl _ t ht)) (Zy Y)) ?_)))
  obtain ⟨x3,hx3⟩:∃x,((Yw a i).set i x1)[(Int.toNat ((a.length:Int) - 1 - i))]? =some x:=⟨_,List.getElem?_eq_getElem (by (simp only [List.length_set];omega))⟩
  refine fD (B.indexAddrO (i:=(Int.toNat ((a.length:Int) - 1 - i))) (tv (T.os 1 0 0 (((Yw a i).map (QW true)).length)) Y) (tv (tI ((a.length:Int) - 1 - i)) Y) (by omega) (by (simp only [List.length_map];omega)) U92 sz5 if5) Y Y (VRunD.chain (bi:= [2,3,0,1,4,5,6,7,8,9,10,11,12,13,14]) Y VWant.always Y Y Y (by kernel_rfl) (B.storeP (us:= [(T.int .u8 x2)]) (rows':=((((Yw a i).set i x1).set (Int.toNat ((a.length:Int) - 1 - i)) x2).map (QW true))) (row:=(QW true x3)) (tv (T.orp 1 0 (Int.toNat ((a.length:Int) - 1 - i)) 0) Y) (tv (T.int .u8 x2) Y) nofun Y (Qt _ hx3) Y (lb Y) if5 sz5 (bc Y bn) (by intro r hr t ht;obtain ⟨x,_,rfl⟩:=List.mem_map.1 hr;rw [QkM] at ht;exact ZD (okByte.pl _ t ht)) (Zy Y)) (VRunD.nil (vinB.n (tn (VRun.region (mO (tN i) Y (fO (QB (tv (tN i) Y) (VEv.int .i64 1) (by omega)) (mO (tI ((a.length:Int) - 1 - i)) Y (fO (B.sub (n:=((a.length:Int) - 1 - i - 1)) (tv (tI ((a.length:Int) - 1 - i)) Y) (VEv.int .i64 1) (by (rw [Qq (by omega)];done))) (aO (tN (i+1)) Y (aO (tI ((a.length:Int) - 1 - i - 1)) Y ?_)))))))))))
  refine VRunO.nil (tn ?_)
  have hml2:=JN a (i+1)
  have he2:(((Yw a i).set i x1).set (Int.toNat ((a.length:Int) - 1 - i)) x2)=Yw a (i+1):=by (refine Qjn ?_ ?_ hx1 hx2<;>omega)
  refine ⟨(i+1:Nat),?_,?_,Wk.mk (fun k=>k) ?_ ?_ ?_⟩
  ·omega
  ·omega
  ·exact (bc ⟨(congrArg (fun n_=>T.os 1 0 0 n_) (show ((Yw a i).map (QW true)).length=((Yw a (i+1)).map (QW true)).length from (by rw [List.length_map,List.length_map,hml,hml2]))),rfl⟩ (b2 (bc ⟨(congrArg (T.int .i64) (show ((a.length:Int) - 1 - i - 1)=(a.length:Int) - 1 - (i+1) from (by omega))),rfl⟩ bn)))
  ·exact (bc ⟨(congrArg (fun l_=>some (Obj.rows 1 (List.map (QW true) l_))) he2),(lb Y),rfl⟩ bn)
  ·exact nd Y
 refine VRun.exit (vthn.e (vthn.e (vinB.e ?_)))
 refine vmut.v (rows:=((Yw a i).map (QW true))) Y Y ?_ Y
 ·show List.map _ (Yw a i)=List.map _ a.reverse
  refine congrArg (List.map _) ?_
  refine Qle ?_ ?_<;>omega
end Go.Proofs.YthifchndolccgaaGreatDoor.AE
