/- A part of what the row of FnExactSolutionAt uses. Conditions: as each theorem states. -/
import Derived.Test.YthifchndolccgaaGreatDoorZFnExactSolutionAtb
import Derived.Test.YthifchndolccgaaGreatDoorProg
import Derived.KernelRfl
namespace Go.Proofs.YthifchndolccgaaGreatDoor.AE
open Go Go.RowKit
set_option linter.unusedVariables false
set_option linter.unusedSimpArgs false
theorem V.vpInv {σ:Nat→Option Nat} {hf:AH} {nx:Nat} {ts:List T} {v:Value} (h:V σ hf nx (.vp ts) v):∃a o es cs,v= .pointer (some ⟨a,o,none⟩)∧hf a=some (.cells es cs)∧o+ts.length≤cs.length∧∀i,i<ts.length→V σ hf nx (ts.getD i .any) (cs.getD (o+i) undef):=by
 cases h with
 | fz hr=>cases hr
 | vp ts o hk hfit h=>exact ⟨_,o,_,_,rfl,hk,hfit,h⟩
section
variable {call : QM} {P : Program} {E : QW} {O : QC} {d : Option Tmp} {ty tt : TypeId} {ps : String} {af : Array Edge} {g : Option (Nat × Bool)} {x y z : Operand} {t : T} {nx : Nat}
theorem OL.loadV1 {ts:List T} (hx:VEv E x (.vp ts)) (ht:ts[0]? =some t) (hst:Qu P tt=some false):OL call P E O ⟨d, .load tt x,ty,ps,af,g⟩ t:=fun q p h0 σ hf own nx Ea h hs=>by
 obtain ⟨v,h1,h2⟩:=hx σ hf nx Ea hs.env
 obtain ⟨a,o,es,cs,rfl,h3,h4,h5⟩:=h2.vpInv
 have hlt:0<ts.length:=(List.getElem?_eq_some_iff.1 ht).1
 have h6:=h5 0 hlt
 rw [Nat.add_zero,List.getD_eq_getElem?_getD,ht,List.getD_eq_getElem?_getD,List.getElem?_eq_getElem (show o<cs.length by omega)] at h6
 exact ⟨_,X.load h1 (JX hst (hs.fro _ _ h3).1 (List.getElem?_eq_getElem (show o<cs.length by omega))),h6⟩
end
def Loan (call:QM) (f:FuncId) (sz:Nat) (rows:List (List T)) (ts:List T) (r:T) (rows':List (List T)):Prop:=∀(h:AH) (p:Nat) (hf:AH) (σ:Nat→Option Nat) (N:List Nat) (vs:List Value),Fr p h→(∀b o,hf b=some o→h b=some o∧b∉N)→N.Nodup→ObjR σ hf 1 h (.rows sz rows) (σ 0) N→VL σ hf 1 ts vs →
 CallS call f vs h p (fun v h'=>(∀b,h b≠none→b∉N→h' b=h b)∧V σ hf 1 r v∧ObjR σ hf 1 h' (.rows sz rows') (σ 0) N)
inductive Pin : T→Prop
 | os (sz n:Nat):Pin (.os sz 0 0 n)
 | vp (sz n:Nat):Pin (.vp [.os sz 0 0 n])
inductive LRes : T→Prop
 | none:LRes (.tup [])
 | int (k:IntKind) (n:Int):LRes (.int k n)
 | bool (b:Bool):LRes (.bool b)
 | os (sz n:Nat):LRes (.os sz 0 0 n)
def vloan (P:Program) (rs:List ResultVar) (j:Nat) (pin:T) (sz:Nat) (rows':List (List T)) (r:T):AX→QW→QC→Nat→Prop
 | .exit _,_,_,_=>False
 | _,E,O,_=>∃k ts,VRes P E O rs ts∧Qfu ts=ren (fun _=>k) r∧gE E j=ren (fun _=>k) pin∧gO O k=some (.rows sz rows')
theorem vloan.r {P:Program} {rs:List ResultVar} {j sz nx:Nat} {pin r:T} {rows rows':List (List T)} {E:QW} {O:QC} {ts:List T} (k:Nat) (h:VRes P E O rs ts) (h1:Qfu ts=ren (fun _=>k) r) (h2:gE E j=ren (fun _=>k) pin) (h3:gO O k=some (.rows sz rows)) (e:rows=rows'):vloan P rs j pin sz rows' r .ret E O nx:=⟨k,ts,h,h1,h2,e▸h3⟩
theorem vloan.n {P:Program} {rs:List ResultVar} {j sz nx:Nat} {pin r:T} {rows rows':List (List T)} {E:QW} {O:QC} {ts:List T} (k:Nat) (h:VRes P E O rs ts) (h1:Qfu ts=ren (fun _=>k) r) (h2:gE E j=ren (fun _=>k) pin) (h3:gO O k=some (.rows sz rows)) (e:rows=rows'):vloan P rs j pin sz rows' r .normal E O nx:=⟨k,ts,h,h1,h2,e▸h3⟩
theorem QjC {σ σ':Nat→Option Nat} {hf hf':AH} {nx nx' sz k n:Nat} {v:Value} (h:V σ hf nx (.os sz 0 0 n) v) (h':V σ' hf' nx' (.os sz k 0 n) v):σ' k=σ 0:=by
 obtain ⟨_,⟨a,m,e1,e2,e3⟩ | ⟨e1,_,e2,e3⟩⟩:=h.osInv
 ·obtain ⟨_,⟨a',m',f1,f2,f3⟩ | ⟨f1,_,f2,f3⟩⟩:=h'.osInv
  ·rw [e1] at f1
   simp only [Value.slice.injEq,Option.some.injEq,Addr.mk.injEq] at f1
   rw [e2,f2,f1.1.1]
  ·subst e1
   rcases f3 with f3 | ⟨b,o,f3⟩
   ·exact absurd f3 (by simp)
   ·simp only [Value.slice.injEq] at f3
    omega
 ·obtain ⟨_,⟨a',m',f1,f2,f3⟩ | ⟨f1,_,f2,f3⟩⟩:=h'.osInv
  ·subst f1
   rcases e3 with e3 | ⟨b,o,e3⟩
   ·exact absurd e3 (by simp)
   ·simp only [Value.slice.injEq] at e3
    omega
  ·rw [e1,f1]
theorem Pin.same {σ σ':Nat→Option Nat} {hf hf':AH} {nx nx' k:Nat} {pin:T} {v:Value} (hp:Pin pin) (hm:∀a o,hf a=some o→hf' a=some o) (h:V σ hf nx pin v) (h':V σ' hf' nx' (ren (fun _=>k) pin) v):σ' k=σ 0:=by
 cases hp with
 | os sz n=>exact QjC h h'
 | vp sz n =>
  obtain ⟨a,o,es,cs,rfl,e1,e2,e3⟩:=h.vpInv
  obtain ⟨a',o',es',cs',f0,f1,f2,f3⟩:=V.vpInv h'
  simp only [Value.pointer.injEq,Option.some.injEq,Addr.mk.injEq] at f0
  obtain ⟨rfl,rfl,_⟩:=f0
  rw [hm _ _ e1] at f1
  cases f1
  have g1:=e3 0 (by simp)
  have g2:=f3 0 (by simp [Qal])
  exact QjC g1 g2
theorem LRes.back {σ σ':Nat→Option Nat} {hf hf':AH} {nx nx' k:Nat} {r:T} {v:Value} (hr:LRes r) (h0:0<nx) (hσ:σ' k=σ 0) (h:V σ' hf' nx' (ren (fun _=>k) r) v):V σ hf nx r v:=by
 cases hr with
 | none =>
  obtain ⟨l,rfl,h1⟩:=V.tupL h
  obtain rfl:=List.eq_nil_of_length_eq_zero h1.1.symm
  exact .fz (.tup [] #[] rfl (fun i hi=>by simp at hi))
 | int k n=>obtain rfl:=V.intInv h;exact .fz (.int _ _)
 | bool b=>obtain rfl:=V.boolInv h;exact .fz (.bool _)
 | os sz n =>
  obtain ⟨_,⟨a,m,rfl,e2,e3⟩ | ⟨e1,e4,e2,e3⟩⟩:=V.osInv h
  ·exact .os sz 0 0 n m h0 (hσ.symm.trans e2) e3
  ·subst e2
   rcases e3 with rfl | ⟨a,o,rfl⟩
   ·exact .os0 sz 0 h0 (hσ.symm.trans e1)
   ·exact .ose sz 0 a o h0 (hσ.symm.trans e1)
theorem ObjR.one {σ:Nat→Option Nat} {hf h:AH} {nx sz:Nat} {rows:List (List T)} {oa:Option Nat} {N:List Nat} (h1:ObjR σ hf nx h (.rows sz rows) oa N) (hsc:scR rows):(oa=Option.none∧N= []∧rows= [])∨∃a,oa=some a∧N= [a]∧h a≠Option.none:=by
 cases h1 with
 | none sz=>exact .inl ⟨rfl,rfl,rfl⟩
 | rows hk hodd hlen hfit hs =>
  obtain rfl:=hs.sc hsc.flat
  exact .inr ⟨_,rfl,rfl,by rw [hk];simp⟩
theorem ObjR.scM {σ σ':Nat→Option Nat} {hf hf' h h':AH} {nx nx' sz:Nat} {rows:List (List T)} {oa:Option Nat} {N:List Nat} (h1:ObjR σ hf nx h (.rows sz rows) oa N) (hsc:scR rows) (hh:∀a∈N,h' a=h a):ObjR σ' hf' nx' h' (.rows sz rows) oa N:=by
 cases h1 with
 | none sz=>exact .none sz
 | rows hk hodd hlen hfit hs =>
  obtain rfl:=hs.sc hsc.flat
  exact .rows ((hh _ (by simp)).trans hk) hodd hlen hfit (SL.mono (fun _ _ e=>e) (SL.clean hs (fun t ht=>Qb6 (hsc.flat t ht))) (by simp))
theorem Loan.intro {P:Program} {f:FuncId} {fn:Func} {c:Code} {n sz j:Nat} {ts:List T} {r pin:T} {rows rows':List (List T)} {rs:List ResultVar} (hf:P.funcs[f]? =some fn) (hb:fn.body=some c) (hc:Zx fn.ntmps c=true) (hrs:fn.results.toList=rs) (hn:noW j c=true) (hj:ts[j]? =some pin) (hpin:Pin pin) (hr0:LRes r) (hsc:scR rows) (hsc':scR rows') {E0:QW} (hE:Qek 0 ts=E0)
  (hr:VRun (Qo P n) P c E0 [(0,some (.rows sz rows))] 1 (vloan P rs j pin sz rows' r)) (hpr:Qar f=true:=by rfl):Loan (Qo P (n+1)) f sz rows ts r rows':=by
 subst hE
 intro h p hfz σ N vs hfp hfN hnd hO hvs
 classical
 let hb0:AH:=fun b=>if b∈N then none else h b
 have hb1:∀b,b∉N→hb0 b=h b:=fun b hb=>if_neg hb
 have hb2:∀b,b∈N→hb0 b=none:=fun b hb=>if_pos hb
 have hb3:∀b o,hb0 b=some o→b∉N∧h b=some o:=fun b o hb=>by
  by_cases hm:b∈N
  ·rw [hb2 b hm] at hb;cases hb
  ·exact ⟨hm,(hb1 b hm).symm.trans hb⟩
 have hsub:∀b o,hfz b=some o→hb0 b=some o:=fun b o hb=>(hb1 b (hfN b o hb).2).trans (hfN b o hb).1
 have hNn:∀a∈N,h a≠none:=fun a ha=>by
  rcases hO.one hsc with ⟨_,rfl,_⟩ | ⟨a',_,rfl,h3⟩
  ·cases ha
  ·obtain rfl:=List.mem_singleton.1 ha
   exact h3
 have hjl:j<ts.length:=(List.getElem?_eq_some_iff.1 hj).1
 have hs0:SR p ⟨hb0,fun b=>b∈N⟩ σ hb0 (fun b=>if b∈N then some 0 else none) (Qek 0 ts) [(0,some (.rows sz rows))] 1 (fun t=>vs.getD t undef) h:=by
  refine ⟨fun t=> ?_,fun k o hk=> ?_,fun a o ha=>⟨(hb3 a o ha).2,if_neg (hb3 a o ha).1⟩,fun a k ha=> ?_,fun _ _=>rfl,fun t ht=> ?_⟩
  ·rw [Qdk,if_neg (by omega),Nat.sub_zero]
   rcases Nat.lt_or_ge t ts.length with h1 | h1
   ·exact (hvs.2 t h1).mono hsub (Nat.le_refl _) (fun _ _=>rfl)
   ·rw [List.getD_eq_getElem?_getD,List.getElem?_eq_none h1]
    exact .any _
  ·simp only [gO] at hk
   split at hk
   ·rename_i e
    subst e
    obtain rfl:=Option.some.inj hk
    exact ⟨by omega,N,hnd,fun a ha=>if_pos ha,hO.mono hsub (Nat.le_refl _) (fun _ _=>rfl) (fun _ _=>rfl)⟩
   ·cases hk
  ·split at ha
   ·rename_i hm
    obtain rfl:=Option.some.inj ha
    exact ⟨.inr hm,hb2 a hm,hNn a hm,by omega⟩
   ·cases ha
  ·by_cases hm:t∈N
   ·exact .inr (.inr hm)
   ·exact .inl (by show hb0 t≠none;rw [hb1 t hm];exact ht)
 unfold VRun at hr
 have hrun:=hr p _ σ _ _ _ h 0 hs0
 have hrun2:Run (Qo P n) P p c ⟨fun t=>vs.getD t undef,h,0⟩ (fun e s=>KK p ⟨hb0,fun b=>b∈N⟩ (vloan P rs j pin sz rows' r e) s.E s.h∧s.E j=vs.getD j undef):=by
  unfold Run at hrun ⊢
  intro hfc
  obtain ⟨e,s',h1,h2,h3⟩:=hrun hfc
  exact ⟨e,s',h1,h2,h3,Z3 _ _ _ _ hn h1⟩
 refine CallS.intro (hpr:=hpr) (rs:=rs) hf hb hc hfp hrs (Run.mono hrun2 ?_)
 rintro e s' ⟨⟨σ',hf',own',E,O,nx,h1,h2⟩,h0⟩
 have key:(∃k ts,VRes P E O rs ts∧Qfu ts=ren (fun _=>k) r∧gE E j=ren (fun _=>k) pin∧gO O k=some (.rows sz rows'))→∃l,Ju P s'.h s'.E rs=some l∧(fun v h'=>(∀b,h b≠none→b∉N→h' b=h b)∧V σ hfz 1 r v∧ObjR σ hfz 1 h' (.rows sz rows') (σ 0) N) (YU l) (if Q3 (YU l) then YE h s'.h else QaY p h s'.h):=by
  rintro ⟨k,us,g1,g2,g3,g4⟩
  obtain ⟨l,l1,l2⟩:=g1.run h1
  have g5:V σ' hf' nx (Qfu us) (YU l):=by
   have hlen:=l2.1
   match us,l,l2,hlen with
   | [],[],g4,_=>exact g4.toTup
   | [t],[v],g4,_ =>
    obtain ⟨v',r',e,g6,_⟩:=g4.tail
    cases e
    exact g6
   | t::t'::us,v::v'::l,g4,_=>exact g4.toTup
   | [],_::_,_,hl=>cases hl
   | [_],[],_,hl=>cases hl
   | [_],_::_::_,_,hl=>cases hl
   | _::_::_,[],_,hl=>cases hl
   | _::_::_,[_],_,hl=>cases hl
  have hbase:∀a o,hb0 a=some o→hf' a=some o:=fun a o ha=>by
   have e3:hf' a=hb0 a:=h1.base a (by show hb0 a≠none;rw [ha];simp)
   rw [e3,ha]
  have hσ:σ' k=σ 0:=by
   have p1:=hvs.2 j hjl
   rw [List.getD_eq_getElem?_getD,hj] at p1
   have p2:=h1.env j
   rw [g3,h0] at p2
   exact hpin.same (fun a o ha=>hbase a o (hsub a o ha)) p1 p2
  have hold:∀b,h b≠none→(if Q3 (YU l) then YE h s'.h else QaY p h s'.h) b=s'.h b:=fun b hb=>by
   split
   ·unfold YE
    cases hh:h b with
    | none=>exact absurd hh hb
    | some o=>rfl
   ·exact QfT (.inl hb)
  refine ⟨l,l1,fun b hb hbN=> ?_,hr0.back (by omega) hσ (by rw [← g2];exact g5),?_⟩
  ·rw [hold b hb]
   obtain ⟨o,ho⟩:=Option.ne_none_iff_exists'.1 hb
   rw [(h1.fro b o (hbase b o ((hb1 b hbN).trans ho))).1,ho]
  ·obtain ⟨M,hM1,hM2,e4⟩:=h1.objAt g4
   rw [hσ] at e4
   have hMN:M=N:=by
    rcases hO.one hsc with ⟨q1,rfl,_⟩ | ⟨a,q1,rfl,_⟩
    ·rcases e4.one hsc' with ⟨_,rfl,_⟩ | ⟨a',q3,_,_⟩
     ·rfl
     ·rw [q1] at q3;cases q3
    ·rcases e4.one hsc' with ⟨q3,_,_⟩ | ⟨a',q3,rfl,_⟩
     ·rw [q1] at q3;cases q3
     ·rw [q1] at q3;rw [Option.some.inj q3]
   subst hMN
   exact e4.scM hsc' (fun a ha=>hold a (hNn a ha))
 cases e with
 | normal=>unfold fin;exact key h2
 | ret=>unfold fin;exact key h2
 | exit id=>exact h2.elim
section
variable {call : QM} {P : Program} {E : QW} {O : QC} {d : Option Tmp} {ty : TypeId} {ps : String} {af : Array Edge} {g : Option (Nat × Bool)} {nx : Nat}
theorem LRes.fwd {σ σ':Nat→Option Nat} {hf hf':AH} {nx nx' k:Nat} {r:T} {v:Value} (hr:LRes r) (hk:k<nx') (hσ:σ' k=σ 0) (h:V σ hf nx r v):V σ' hf' nx' (ren (fun _=>k) r) v:=by
 cases hr with
 | none =>
  obtain ⟨l,rfl,h1⟩:=V.tupL h
  obtain rfl:=List.eq_nil_of_length_eq_zero h1.1.symm
  exact .fz (.tup [] #[] rfl (fun i hi=>by simp at hi))
 | int k n=>obtain rfl:=V.intInv h;exact .fz (.int _ _)
 | bool b=>obtain rfl:=V.boolInv h;exact .fz (.bool _)
 | os sz n =>
  obtain ⟨_,⟨a,m,rfl,e2,e3⟩ | ⟨e1,e4,e2,e3⟩⟩:=V.osInv h
  ·exact .os sz k 0 n m hk (hσ.trans e2) e3
  ·subst e2
   rcases e3 with rfl | ⟨a,o,rfl⟩
   ·exact .os0 sz k hk (hσ.trans e1)
   ·exact .ose sz k a o hk (hσ.trans e1)
theorem OC.loanX {f:FuncId} {o:Oper} {ts0 ts:List T} {sz k:Nat} {r:T} {rows rows':List (List T)} (ho:∀(q p:Nat) (h0:LB) (σ:Nat→Option Nat) (hf:AH) (own:Nat→Option Nat) (Ea:Nat→Value) (h:AH),SR p h0 σ hf own E O nx Ea h→∃vs,JV P q Ea h o=some (.enter f vs)∧VL σ hf nx ts0 vs) (hk:gO O k=some (.rows sz rows)) (hts:Qal (fun _=>k) ts=ts0) (htl:Yc 1 ts=true) (hr0:LRes r) (hsc:scR rows) (hsc':scR rows') (hp:Loan call f sz rows ts r rows') :
  OC call P E O nx o (ren (fun _=>k) r) ((k,some (.rows sz rows'))::O) nx [k]:=⟨Nat.le_refl _,fun q p h0 σ hf own Ea h hs hu hF=>by
 subst hts
 obtain ⟨vs,h1,h2⟩:=ho q p h0 σ hf own Ea h hs
 obtain ⟨hkn,N,hN1,hN2,h5⟩:=hs.obj k _ hk
 have hl:VL (fun _=>σ k) hf 1 ts vs:=by
  refine ⟨by have:=h2.1;rw [ZG,List.length_map] at this;exact this,fun i hi=> ?_⟩
  have h6:=h2.2 i (by rw [ZG,List.length_map];exact hi)
  refine V.ren (σ':=fun _=>σ k) (nx':=1) (fun _ _=>rfl) h6 ?_ ?_
  ·rw [ZG]
   simp [List.getD_eq_getElem?_getD,hi]
  ·rw [YK,List.all_eq_true] at htl
   refine htl _ ?_
   rw [List.getD_eq_getElem?_getD,List.getElem?_eq_getElem hi]
   exact List.getElem_mem hi
 have h6:=hp h q hf (fun _=>σ k) N vs hF (fun b o hb=>⟨(hs.fro b o hb).1,fun hm=>by have:=hN2 b hm;rw [(hs.fro b o hb).2] at this;cases this⟩) hN1 (h5.scM hsc (fun _ _=>rfl)) hl
 unfold CallS at h6
 obtain ⟨v,h',k1,k2,k3,k4,k5⟩:=h6
 refine ⟨v,h',σ,own,by simp only [Qz,h1,k1],k2,fun _ _=>rfl,⟨hs.env,fun k' o hk'=> ?_,fun b o hb=> ?_,fun b k' hb=> ?_,hs.base,fun t ht=> ?_⟩,hr0.fwd hkn rfl k4,fun b hb hnk=>k3 b hb (fun hm=>hnk k (by simp) (hN2 b hm)),fun b k' e=> .inl e⟩
 ·simp only [gO] at hk'
  split at hk'
  ·rename_i e
   subst e
   obtain rfl:=Option.some.inj hk'
   exact ⟨hkn,N,hN1,hN2,k5.scM hsc' (fun _ _=>rfl)⟩
  ·rename_i hne
   obtain ⟨m1,N2,m2,m3,m4⟩:=hs.obj k' o hk'
   refine ⟨m1,N2,m2,m3,m4.mono (fun _ _ e=>e) (Nat.le_refl _) (fun _ _=>rfl) (fun b hb=>k3 b (hs.mine b k' (m3 b hb)).2.2.1 (fun hm=> ?_))⟩
   have:=hN2 b hm
   rw [m3 b hb] at this
   exact hne (Option.some.inj this)
 ·obtain ⟨m1,m2⟩:=hs.fro b o hb
  refine ⟨?_,m2⟩
  rw [k3 b (by rw [m1];simp) (fun hm=>by have:=hN2 b hm;rw [m2] at this;cases this)]
  exact m1
 ·obtain ⟨m1,m2,m3,m4⟩:=hs.mine b k' hb
  refine ⟨m1,m2,?_,m4⟩
  by_cases hm:b∈N
  ·rcases k5.one hsc' with ⟨_,rfl,_⟩ | ⟨a,_,rfl,h3⟩
   ·cases hm
   ·obtain rfl:=List.mem_singleton.1 hm
    exact h3
  ·rw [k3 b m3 hm]
   exact m3
 ·rcases k2 t ht with e | e
  ·exact hs.dom t e
  ·exact .inr (hu t e)⟩
theorem OC.callLoan {f:FuncId} {args:Array Operand} {tys:Array TypeId} {ts0 ts:List T} {sz k:Nat} {r r':T} {rows rows':List (List T)} (hb:Yr P f=true) (ha:VEvs E args.toList ts0) (hk:gO O k=some (.rows sz rows)) (hts:Qal (fun _=>k) ts=ts0) (htl:Yc 1 ts=true) (hr0:LRes r) (hrr:ren (fun _=>k) r=r') (hsc:scR rows) (hsc':scR rows') (hp:Loan call f sz rows ts r rows') :
  OC call P E O nx ⟨d, .call ⟨.value (.func f),args,tys⟩,ty,ps,af,g⟩ r' ((k,some (.rows sz rows'))::O) nx [k]:=hrr▸OC.loanX (fun q p h0 σ hf own Ea h hs=>by
 obtain ⟨vs,h1,h2⟩:=ha σ hf nx Ea hs.env
 exact ⟨vs,X.calls hb h1,h2⟩) hk hts htl hr0 hsc hsc' hp
theorem VL.app {σ:Nat→Option Nat} {hf:AH} {nx:Nat}:∀ {ts us:List T} {vs ws:List Value},VL σ hf nx ts vs→VL σ hf nx us ws→VL σ hf nx (ts++us) (vs++ws)
 | [],us,vs,ws,h,h2=>by
  obtain rfl:=List.eq_nil_of_length_eq_zero h.1.symm
  exact h2
 | t::ts,us,vs,ws,h,h2=>by
  obtain ⟨v,l,rfl,h3,h4⟩:=h.tail
  exact .cons h3 (VL.app h4 h2)
theorem OC.callvLoan {f:FuncId} {a:Tmp} {args:Array Operand} {tys:Array TypeId} {ts0 ts caps:List T} {sz k:Nat} {r r':T} {rows rows':List (List T)} (hf:gE E a= .fn f caps) (hb:Yr P f=true) (ha:VEvs E args.toList ts0) (hk:gO O k=some (.rows sz rows)) (hts:Qal (fun _=>k) ts=ts0++caps) (htl:Yc 1 ts=true) (hr0:LRes r) (hrr:ren (fun _=>k) r=r') (hsc:scR rows) (hsc':scR rows') (hp:Loan call f sz rows ts r rows') :
  OC call P E O nx ⟨d, .call ⟨.value (.tmp a),args,tys⟩,ty,ps,af,g⟩ r' ((k,some (.rows sz rows'))::O) nx [k]:=hrr▸OC.loanX (fun q p h0 σ hf' own Ea h hs=>by
 obtain ⟨vs,h1,h2⟩:=ha σ hf' nx Ea hs.env
 have h3:=hs.env a
 rw [hf] at h3
 obtain ⟨cs,h4,h5⟩:=h3.fnL
 exact ⟨vs++cs,by have:=X.callv (P:=P) (p:=q) (h:=h) (d:=d) (ty:=ty) (ps:=ps) (af:=af) (g:=g) (ts:=tys) h4 hb h1;simpa using this,h2.app h5⟩) hk hts htl hr0 hsc hsc' hp
end
def vtT (f:FuncId) (a b:T):Nat→T
 | 0=> .any
 | d+1=> .vp [.fn f [a,b,vtT f a b d]]
theorem QaL (g:Nat→Nat) (f:FuncId) (a b:T):∀d,ren g (vtT f a b d)=vtT f (ren g a) (ren g b) d
 | 0=>rfl
 | d+1=>by simp only [vtT,ren,Qal,QaL g f a b d]
theorem QcF {n:Nat} {f:FuncId} {a b:T} (ha:Yq n a=true) (hb:Yq n b=true):∀d,Yq n (vtT f a b d)=true
 | 0=>rfl
 | d+1=>by simp only [vtT,Yq,Yc,ha,hb,QcF ha hb d,Bool.and_true]
theorem tl {n:Nat} {t:T} {ts:List T} (h:Yq n t=true) (hr:Yc n ts=true):Yc n (t::ts)=true:=by simp only [Yc,h,hr,Bool.and_true]
theorem SR.hold {p nx k:Nat} {h0:LB} {hf h:AH} {σ own:Nat→Option Nat} {E:QW} {O:QC} {Ea:Nat→Value} {us:List T} (hs:SR p h0 σ hf own E O nx Ea h) (hk:gO O k=some (.cells us)):∃hf' own' a es cs,SR p h0 σ hf' own' E ((k,none)::O) nx Ea h∧(∀a o,hf a=some o→hf' a=some o)∧σ k=some a∧hf' a=some (.cells es cs)∧VL σ hf nx us cs:=by
 classical
 obtain ⟨hkn,N,hN1,hN2,h3⟩:=hs.obj k _ hk
 cases hσ:σ k with
 | none=>rw [hσ] at h3;cases h3
 | some a =>
 rw [hσ] at h3
 cases h3 with
 | cells hh hodd hv =>
  rename_i es cs
  have howna:=hN2 a (by simp)
  have hmono:∀b o,hf b=some o→(fun b=>if own b=some k then h b else hf b) b=some o:=fun b o ho=>by
   have:=(hs.fro b o ho).2
   simp only [this]
   rw [if_neg (by simp)]
   exact ho
  refine ⟨fun b=>if own b=some k then h b else hf b,fun b=>if own b=some k then none else own b,a,es,cs,⟨fun t=>(hs.env t).mono hmono (Nat.le_refl _) (fun _ _=>rfl),fun k' o hk'=> ?_,fun b o ha=> ?_,fun b k' ha=> ?_,fun b ha=> ?_,hs.dom⟩,hmono,rfl,by simp only [howna,if_true];exact hh,hv⟩
  ·simp only [gO] at hk'
   split at hk'
   ·cases hk'
   ·rename_i hne
    obtain ⟨h1,M,h2,h4,h5⟩:=hs.obj k' o hk'
    refine ⟨h1,M,h2,fun b hb=> ?_,h5.mono hmono (Nat.le_refl _) (fun _ _=>rfl) (fun _ _=>rfl)⟩
    have:=h4 b hb
    simp only [this]
    rw [if_neg (fun e=>hne (Option.some.inj e))]
  ·split at ha
   ·rename_i e
    exact ⟨ha,by simp only [e,if_true]⟩
   ·rename_i e
    obtain ⟨h1,h2⟩:=hs.fro b o ha
    exact ⟨h1,by simp [h2]⟩
  ·split at ha
   ·cases ha
   ·exact hs.mine b k' ha
  ·have:own b≠some k:=fun e=>ha (hs.mine b k e).2.1
   simp only [if_neg this]
   exact hs.base b ha
theorem SR.told {p nx:Nat} {h0:LB} {hf h:AH} {σ own:Nat→Option Nat} {E E':QW} {O:QC} {Ea:Nat→Value} (hs:SR p h0 σ hf own E O nx Ea h) (he:∀t,V σ hf nx (gE E' t) (Ea t)):SR p h0 σ hf own E' O nx Ea h:=⟨he,hs.obj,hs.fro,hs.mine,hs.base,hs.dom⟩
theorem V.opAt {σ:Nat→Option Nat} {hf:AH} {nx k o a:Nat} {v:Value} (h:V σ hf nx (.op k o) v) (hσ:σ k=some a):v= .pointer (some ⟨a,o,none⟩):=by
 obtain ⟨a',e1,e2,_⟩:=h.opInv
 rw [hσ] at e2
 rw [e1,Option.some.inj e2]
theorem Wk.recv {E:QW} {O:QC} {nx d1 d2 d3 k1 k2 k3 sz k n:Nat} {us:List T} {f:FuncId} (dep:Nat) (e1:gE E d1= .op k1 0) (e2:gE E d2= .op k2 0) (e3:gE E d3= .op k3 0) (o1:gO O k1=some (.cells us)) (o2:gO O k2=some (.cells [.os sz k 0 n])) (o3:gO O k3=some (.cells [.fn f [.op k1 0, .op k2 0, .op k3 0]])) (h12:¬k2=k1) (h13:¬k3=k1) (h23:¬k3=k2) (hpl:∀t∈us,Jm t=true) :
  Wk E O nx ((d1, .rp us)::(d2, .vp [.os sz k 0 n])::(d3,vtT f (.rp us) (.vp [.os sz k 0 n]) dep)::E) ((k3,none)::(k2,none)::(k1,none)::O) nx:=fun p h0 σ hf own Ea h hs=>by
 obtain ⟨hf1,own1,a1,es1,cs1,s1,m1,g1,f1,v1⟩:=hs.hold o1
 obtain ⟨hf2,own2,a2,es2,cs2,s2,m2,g2,f2,v2⟩:=s1.hold (k:=k2) (us:= [.os sz k 0 n]) (by simp only [gO,if_neg h12];exact o2)
 obtain ⟨hf3,own3,a3,es3,cs3,s3,m3,g3,f3,v3⟩:=s2.hold (k:=k3) (us:= [.fn f [.op k1 0, .op k2 0, .op k3 0]]) (by simp only [gO,if_neg h13,if_neg h23];exact o3)
 have c1:V σ hf3 nx (.rp us) (.pointer (some ⟨a1,0,none⟩)):=by
  have r1:=(v1.mono (hf':=hf3) (σ':=σ) (nx':=nx) (fun a o e=>m3 _ _ (m2 _ _ (m1 _ _ e))) (Nat.le_refl _) (fun _ _=>rfl)).pl hpl
  exact .fz (.rp us 0 (m3 _ _ (m2 _ _ f1)) (by have:=r1.1;omega) (fun i hi=>by rw [Nat.zero_add];exact r1.2 i hi))
 have c2:V σ hf3 nx (.vp [.os sz k 0 n]) (.pointer (some ⟨a2,0,none⟩)):=by
  have r1:=v2.mono (hf':=hf3) (σ':=σ) (nx':=nx) (fun a o e=>m3 _ _ (m2 _ _ e)) (Nat.le_refl _) (fun _ _=>rfl)
  exact .vp _ 0 (m3 _ _ f2) (by have:=r1.1;omega) (fun i hi=>by rw [Nat.zero_add];exact r1.2 i hi)
 obtain ⟨w,l,hw,w1,w2⟩:=v3.tail
 obtain rfl:=List.eq_nil_of_length_eq_zero w2.1.symm
 subst hw
 obtain ⟨ws,rfl,w3⟩:=w1.fnL
 obtain ⟨x1,l1,rfl,y1,w3⟩:=w3.tail
 obtain ⟨x2,l2,rfl,y2,w3⟩:=w3.tail
 obtain ⟨x3,l3,rfl,y3,w3⟩:=w3.tail
 obtain rfl:=List.eq_nil_of_length_eq_zero w3.1.symm
 obtain rfl:=y1.opAt g1
 obtain rfl:=y2.opAt g2
 obtain rfl:=y3.opAt g3
 have c3:∀dep,V σ hf3 nx (vtT f (.rp us) (.vp [.os sz k 0 n]) dep) (.pointer (some ⟨a3,0,none⟩)):=by
  intro dep
  induction dep with
  | zero=>exact .any _
  | succ dep ih=>exact .vp _ 0 f3 (by simp) (fun i hi=>by
    obtain rfl:i=0:=by simpa using hi
    exact (VL.cons c1 (VL.cons c2 (VL.cons ih (VL.nil _ _ _)))).toFn f)
 refine ⟨σ,hf3,own3,s3.told fun t=> ?_⟩
 simp only [gE]
 split
 ·rename_i e;subst e
  have:=hs.env t
  rw [e1] at this
  rw [this.opAt g1];exact c1
 ·split
  ·rename_i e;subst e
   have:=hs.env t
   rw [e2] at this
   rw [this.opAt g2];exact c2
  ·split
   ·rename_i e;subst e
    have:=hs.env t
    rw [e3] at this
    rw [this.opAt g3];exact c3 dep
   ·exact s3.env t
section
variable {call : QM} {P : Program} {π c i : Nat} {ops : Array Oper}
theorem QcU : ∀(l1 l2:List Oper) (i:Nat) (s:St),QaG call P π ops (l1++l2) i s=(QaG call P π ops l1 i s).bind (QaG call P π ops l2 (i+l1.length))
 | [],l2,i,s=>by simp [QaG]
 | o::r,l2,i,s=>by
  rw [List.cons_append,QaG,QaG]
  cases hx:QdG call P π ops i o s with
  | none=>rfl
  | some s1 =>
   rw [Option.bind_some,Option.bind_some,QcU r l2,List.length_cons,show i+1+r.length=i+(r.length+1) by omega]
theorem RunO.app {l1 l2:List Oper} {E:Nat→Value} {h:AH} {K:(Nat→Value)→AH→Prop} (h1:RunO call P π ops c l1 i E h (fun E' h'=>RunO call P π ops c l2 (i+l1.length) E' h' K)):RunO call P π ops c (l1++l2) i E h K:=by
 unfold RunO at h1 ⊢
 intro hf
 obtain ⟨s1,e1,e2,e3,e4⟩:=h1 hf
 obtain ⟨s2,f1,f2,f3,f4⟩:=e4 e3
 refine ⟨s2,?_,f2,?_,f4⟩
 ·rw [QcU,e1,Option.bind_some,← f1]
  obtain ⟨E1,h1',c1⟩:=s1
  simp only at e2
  subst e2
  rfl
 ·rw [List.length_append,← Nat.add_assoc i]
  exact f3
end
def QkU (ds:List Nat) (E:QW):QW:=(ds.map fun e=>(e,T.any))++E
inductive JE (E:QW) (ds:List Nat):QW→Prop
 | nil:JE E ds E
 | cons {E1:QW} {e:Nat} {t:T} (he:ds.contains e=true) (h:JE E ds E1):JE E ds ((e,t)::E1)
theorem jn {E:QW} {ds:List Nat}:JE E ds E:= .nil
theorem js {E E1:QW} {ds:List Nat} {e:Nat} {t:T} (he:ds.contains e=true) (h:JE E ds E1):JE E ds ((e,t)::E1):= .cons he h
theorem QhC (E:QW) (t:Nat):∀ds:List Nat,gE (QkU ds E) t=if ds.contains t then .any else gE E t
 | []=>rfl
 | e::r=>by
  have ih:=QhC E t r
  unfold QkU at ih ⊢
  simp only [List.map_cons,List.cons_append,gE,ih,List.contains_cons]
  by_cases h:t=e
  ·simp [h]
  ·have:(t == e)=false:=by simp [h]
   simp [h]
theorem JE.off {E E1:QW} {ds:List Nat} (h:JE E ds E1) {t:Nat} (ht:ds.contains t=false):gE E1 t=gE E t:=by
 induction h with
 | nil=>rfl
 | cons he _ ih =>
  rename_i e _ _
  have:¬t=e:=fun x=>by rw [x,he] at ht;cases ht
  simp only [gE,if_neg this,ih]
def JQ (E:QW) (O:QC) (nx:Nat) (ds:List Nat) (d:Nat) (b:T) (E1:QW) (O1:QC) (nx1:Nat):Prop:=O1=O∧nx1=nx∧∃E2,E1=(d,b)::E2∧JE E ds E2
theorem jq {E E2:QW} {O:QC} {nx d:Nat} {ds:List Nat} {b v:T} (hv:v=b) (h:JE E ds E2):JQ E O nx ds d b ((d,v)::E2) O nx:=⟨rfl,rfl,E2,by rw [hv],h⟩
theorem VRunO.joinB {call:QM} {P:Program} {ops:Array Oper} {l:List Oper} {E:QW} {O:QC} {nx:Nat} {K:QW→QC→Nat→Prop} (m:Nat) (ds:List Nat) (d:Nat) (b:T) (h1:VRunO call P ops (l.take m) E O nx (JQ E O nx ds d b)) (h2:VRunO call P ops (l.drop m) ((d,b)::QkU ds E) O nx K):VRunO call P ops l E O nx K:=by
 unfold VRunO at h1 h2 ⊢
 intro p h0 σ hf own Ea h c i hs
 rw [← List.take_append_drop m l]
 refine RunO.app ?_
 have h3:=h1 p h0 σ hf own Ea h c i hs
 unfold RunO at h3 ⊢
 intro hfc
 obtain ⟨s',e1,e2,e3,σ',hf',own',E1,O1,nx1,e4,rfl,rfl,E2,rfl,e5⟩:=h3 hfc
 have h4:=h2 p h0 σ' hf' own' s'.E s'.h c (i+(l.take m).length) (e4.told fun t=> ?_)
 ·unfold RunO at h4
  exact ⟨s',e1,e2,e3,h4⟩
 have h6:=e4.env t
 simp only [gE] at h6 ⊢
 split
 ·rename_i e
  simpa only [e,if_true] using h6
 ·rename_i e
  rw [if_neg e] at h6
  rw [QhC]
  split
  ·exact .any _
  ·rename_i hc
   rwa [e5.off (by simpa using hc)] at h6
section
variable {c v : Bool} {C Q : Prop} [Decidable C] [Decidable Q]
theorem jOT (hc:c=decide C) (h:c=true):true=decide (C∨Q):=by
 have:C:=of_decide_eq_true (hc▸h)
 simp [this]
theorem jOF (hc:c=decide C) (h:c=false) (hv:v=decide Q):v=decide (C∨Q):=by
 have:¬C:=of_decide_eq_false (hc▸h)
 simp [hv,this]
theorem dN : (!decide C)=decide (¬C):=by by_cases h:C<;>simp [h]
theorem dT (x:Bool):x=decide (x=true):=by cases x<;>rfl
end
section
variable {C Q R : Prop} {v : Bool}
theorem dy [Decidable C] (h:C):decide C=true:=decide_eq_true h
theorem dz [Decidable C] (h:¬C):decide C=false:=decide_eq_false h
theorem ny [Decidable C] (h:¬C):(!decide C)=true:=by simp [h]
theorem nz [Decidable C] (h:C):(!decide C)=false:=by simp [h]
theorem kAT [Decidable C] [Decidable Q] (h:C) (hv:v=decide Q):v=decide (C∧Q):=by simp [hv,h]
theorem kAF [Decidable C] [Decidable Q] (h:¬C):false=decide (C∧Q):=by simp [h]
theorem kOT [Decidable C] [Decidable Q] (h:C):true=decide (C∨Q):=by simp [h]
theorem kOF [Decidable C] [Decidable Q] (h:¬C) (hv:v=decide Q):v=decide (C∨Q):=by simp [hv,h]
theorem gw (C:Prop) (ht:C→R) (hf:¬C→R):R:=(Classical.em C).elim ht hf
theorem gn (C:Prop) (ht:¬C→R) (hf:C→R):R:=(Classical.em C).elim hf ht
theorem cd {call:QM} {P:Program} {E:QW} {O:QC} {nx:Nat} {S:AX→QW→QC→Nat→Prop} {x y:Code} {a:Tmp} (C:Prop) [Decidable C] (h:gE E a= .bool (decide C)) (ht:C→VRun call P x E O nx S) (hf:¬C→VRun call P y E O nx S):VRun call P (.cond (.tmp a) x y) E O nx S:=VRun.cond (VEv.tmp h) (fun e=>ht (of_decide_eq_true e)) (fun e=>hf (of_decide_eq_false e))
theorem cn {call:QM} {P:Program} {E:QW} {O:QC} {nx:Nat} {S:AX→QW→QC→Nat→Prop} {x y:Code} {a:Tmp} (C:Prop) [Decidable C] (h:gE E a= .bool (!decide C)) (ht:¬C→VRun call P x E O nx S) (hf:C→VRun call P y E O nx S):VRun call P (.cond (.tmp a) x y) E O nx S:=VRun.cond (VEv.tmp h) (fun e=>ht (by simpa using e)) (fun e=>hf (by simpa using e))
end
theorem lb {a b:Nat} (h:Nat.ble a b=true):a≤b:=Nat.le_of_ble_eq_true h
theorem bn {α:Type} {p:α→Prop}:∀x∈([]:List α),p x:=Zb
theorem bc {α:Type} {p:α→Prop} {a:α} {l:List α} (h:p a) (hr:∀x∈l,p x):∀x∈a::l,p x:=Qg h hr
theorem b2 {α:Type} {p:α→Prop} {a:α} {l:List α} (hr:∀x∈l,p x) (h:p a:=by exact ⟨rfl,rfl⟩):∀x∈a::l,p x:=Qg h hr
theorem b3 {α:Type} {p:α→Prop} {a:α} {l:List α} (hr:∀x∈l,p x) (h:p a:=by exact ⟨rfl,lb rfl,rfl⟩):∀x∈a::l,p x:=Qg h hr
theorem QF : YD=1099511627776∧mx=1048576∧maxLen=9223372036854775807:=⟨rfl,rfl,rfl⟩
theorem Jx {α:Type} {l:List α} {i:Nat} (z:α) (h:i<l.length):l[i]? =some (l[i]?.getD z):=by rw [List.getElem?_eq_getElem h,Option.getD_some]
end Go.Proofs.YthifchndolccgaaGreatDoor.AE
namespace Go.Proofs.YthifchndolccgaaGreatDoor.AE
open Go Go.RowKit
set_option linter.unusedVariables false
set_option linter.unusedSimpArgs false
abbrev LO := List (Nat×List (List T))
def ix : List Nat→Nat→Option Nat
 | [],_=>none
 | a::r,k=>if k=a then some 0 else (ix r k).map (· +1)
section
variable {α : Type}
def mkL (f:Nat→α→α) (w:α→Nat):Nat→List α→List α
 | _,[]=> []
 | k,x::r=>f k x::mkL f w (k+w x) r
def mkE (w:α→Nat):Nat→List α→Nat
 | k,[]=>k
 | k,x::r=>mkE w (k+w x) r
variable {f : Nat → α → α} {w : α → Nat}
theorem Qkr : ∀(k:Nat) (l:List α),(mkL f w k l).length=l.length
 | k,[]=>rfl
 | k,x::r=>by simp only [mkL,List.length_cons,Qkr (k+w x) r]
theorem Qf2 (hw:∀k x,w (f k x)=w x) (hf:∀k x,f k (f k x)=f k x):∀(k:Nat) (l:List α),mkL f w k l=mkL f w k (mkL f w k l)
 | k,[]=>rfl
 | k,x::r=>by simp only [mkL,hw,hf,← Qf2 hw hf (k+w x) r]
theorem QgQ (hw:∀k x,w (f k x)=w x):∀(k k2:Nat) (l:List α),mkE w k (mkL f w k2 l)=mkE w k l
 | k,k2,[]=>rfl
 | k,k2,x::r=>by simp only [mkL,mkE,hw,QgQ hw (k+w x) (k2+w x) r]
theorem QiH {z:α→Nat} {c:Nat} (hw:∀x,w x≤c*(1+z x)):∀(k:Nat) (l:List α),mkE w k l≤k+c*zL z l
 | k,[]=>Nat.le_add_right _ _
 | k,x::r=>by
  have h1:=QiH hw (k+w x) r
  have h2:=hw x
  have e:zL z (x::r)=(1+z x)+zL z r:=by simp only [zL,JH,List.length_cons];omega
  rw [e,Nat.mul_add]
  simp only [mkE]
  omega
end
end Go.Proofs.YthifchndolccgaaGreatDoor.AE
namespace Go.Proofs.YthifchndolccgaaGreatDoor.AE
open Go Go.RowKit
set_option linter.unusedVariables false
set_option linter.unusedSimpArgs false
theorem B.storeW {call:QM} {P:Program} {E:QW} {O:QC} {nx:Nat} {d:Option Tmp} {ty tt:TypeId} {ps:String} {af:Array Edge} {g:Option (Nat×Bool)} {x y:Operand} {t:T} {k:Nat} {ts us:List T} (hx:VEv E x (.op k 0)) (hy:VEv E y t) (ht:t≠ .any) (hk:gO O k=some (.cells ts)) (hus:QX t=us) (hl:us.length=ts.length) (hif:(P.info? tt).isSome=true) (hn:P.cellsOf tt=us.length) (hc:∀a∈us,Y0 a=true) :
  OC call P E O nx ⟨d, .store tt x y,ty,ps,af,g⟩ .any ((k,some (.cells us))::O) nx [k]:=B.storeO hx hy ht hk hus (by omega) hif hn hc (by simp [spl,hl])
end Go.Proofs.YthifchndolccgaaGreatDoor.AE
namespace Go.Proofs.YthifchndolccgaaGreatDoor.AE
open Go Go.RowKit
set_option linter.unusedVariables false
set_option linter.unusedSimpArgs false
section
variable {call : QM} {P : Program} {E : QW} {O : QC} {nx : Nat} {S : AX → QW → QC → Nat → Prop} {u v : Code} {c : Tmp}
theorem ct (h:gE E c= .bool true) (hx:VRun call P u E O nx S):VRun call P (.cond (.tmp c) u v) E O nx S:=VRun.cond (VEv.tmp h) (fun _=>hx) (fun e=>absurd e (by decide))
theorem cf (h:gE E c= .bool false) (hx:VRun call P v E O nx S):VRun call P (.cond (.tmp c) u v) E O nx S:=VRun.cond (VEv.tmp h) (fun e=>absurd e (by decide)) (fun _=>hx)
theorem ck {b:Bool} (hb:b=true) (h:gE E c= .bool b) (hx:VRun call P u E O nx S):VRun call P (.cond (.tmp c) u v) E O nx S:=ct (hb▸h) hx
theorem cg {b:Bool} (hb:b=false) (h:gE E c= .bool b) (hx:VRun call P v E O nx S):VRun call P (.cond (.tmp c) u v) E O nx S:=cf (hb▸h) hx
theorem vn : VEvs E [] []:= .nil
theorem ln : LendL O [] []:=LendL.nil
theorem ZQ : ∀ {ts:List T},ts.all Jm=true→LendL O ts ts
 | [],_=>LendL.nil
 | t::r,h=>by
  simp only [List.all_cons,Bool.and_eq_true] at h
  exact LendL.cons (Lend.pl h.1) (ZQ h.2)
def QkJ : List Nat→Bool
 | []=>true
 | a::r=> !(r.contains a) && QkJ r
theorem nd : ∀ {l:List Nat},QkJ l=true→l.Nodup
 | [],_=>List.nodup_nil
 | a::r,h=>by
  simp only [QkJ,Bool.and_eq_true] at h
  exact List.nodup_cons.2 ⟨by simpa using h.1,nd h.2⟩
end
section
variable {call : QM} {P : Program} {E : QW} {O : QC} {d : Option Tmp} {ty tt xt : TypeId} {ps : String} {af : Array Edge} {g : Option (Nat × Bool)} {x y : Operand} {kk : IntKind} {a b : Int} {m n : Nat}
theorem xls (hx:VEv E x (.int kk a)) (hy:VEv E y (.int kk b)):OF call P E ⟨d, .binOp .lss tt x y xt,ty,ps,af,g⟩ (.bool (decide (a<b))):=B.lss hx hy rfl
theorem xle (hx:VEv E x (.int kk a)) (hy:VEv E y (.int kk b)):OF call P E ⟨d, .binOp .leq tt x y xt,ty,ps,af,g⟩ (.bool (decide (a≤b))):=B.leq hx hy rfl
theorem xgt (hx:VEv E x (.int kk a)) (hy:VEv E y (.int kk b)):OF call P E ⟨d, .binOp .gtr tt x y xt,ty,ps,af,g⟩ (.bool (decide (b<a))):=B.gtr hx hy rfl
theorem xge (hx:VEv E x (.int kk a)) (hy:VEv E y (.int kk b)):OF call P E ⟨d, .binOp .geq tt x y xt,ty,ps,af,g⟩ (.bool (decide (b≤a))):=B.geq hx hy rfl
theorem YF (hx:VEv E x (.int kk a)) (hy:VEv E y (.int kk b)):OF call P E ⟨d, .binOp .eql tt x y xt,ty,ps,af,g⟩ (.bool (decide (a=b))):=B.eql hx hy rfl
theorem xne (hx:VEv E x (.int kk a)) (hy:VEv E y (.int kk b)):OF call P E ⟨d, .binOp .neq tt x y xt,ty,ps,af,g⟩ (.bool (!decide (a=b))):=B.neq hx hy rfl
theorem Ze (hx:VEv E x (tN m)) (hy:VEv E y (tN n)):OF call P E ⟨d, .binOp .lss tt x y xt,ty,ps,af,g⟩ (.bool (decide (m<n))):=B.lss hx hy (Q4 (by omega))
theorem Qif (hx:VEv E x (tN m)) (hy:VEv E y (tN n)):OF call P E ⟨d, .binOp .eql tt x y xt,ty,ps,af,g⟩ (.bool (decide (m=n))):=B.eql hx hy (Q4 (by omega))
theorem Qju (hx:VEv E x (tN m)) (hy:VEv E y (tN n)):OF call P E ⟨d, .binOp .neq tt x y xt,ty,ps,af,g⟩ (.bool (!decide (m=n))):=B.neq hx hy (congrArg (!·) (Q4 (by omega)))
theorem QY {b1:Bool} (hx:VEv E x (.bool b1)):OF call P E ⟨d, .unOp .not tt x,ty,ps,af,g⟩ (.bool (!b1)):=B.not hx rfl
theorem QA (hx:VEv E x (tN m)) (hy:VEv E y (.int .i64 1)) (h:m+1<9223372036854775808):OF call P E ⟨d, .binOp .add tt x y xt,ty,ps,af,g⟩ (tN (m+1)):=B.add hx hy (by rw [Qs (by omega)];omega)
theorem xcv {k0 kd:IntKind} {st dt:TypeId} {m:Int} (hx:VEv E x (.int k0 a)) (h1:P.underlying st=some (.int k0)) (h2:P.underlying dt=some (.int kd)) (he:kd.wrap a=m):OF call P E ⟨d, .convert st dt x,ty,ps,af,g⟩ (.int kd m):=he▸OF.convI hx h1 h2
theorem Js {s:ByteArray} (hx:VEv E x (.str s)) (hy:VEv E y (tN m)) (hi:m<s.size) (hu:P.underlying tt=some .string):OF call P E ⟨d, .index tt x y,ty,ps,af,g⟩ (.int .u8 (Qr s m)):=B.index hx hy rfl hi hu (Yd hi)
end
section
variable {call : QM} {P : Program} {ops : Array Oper} {l : List Oper} {E : QW} {O : QC} {nx : Nat} {K : QW → QC → Nat → Prop} {d1 a : Nat} {d2 : Option Tmp} {ty1 ty2 tt tt2 : TypeId} {ps1 ps2 : String} {af1 af2 : Array Edge} {j k o off : Nat} {us : List T}
theorem Qdi (E:QW) (n:Nat) (t:T):gE ((n,t)::E) n=t:=by simp [gE]
theorem lf (t:T) (h:gE E a= .op k o) (fa:∀k o,Qe P tt (.pointer (some ⟨k,o,none⟩)) j=some (.pointer (some ⟨k,o+off,none⟩))) (hk:gO O k=some (.cells us)) (ht:us[o+off]? =some t) (hst:Qu P tt2=some false) (hK:VRunO call P ops l (pE ((d1, .op k (o+off))::E) d2 t) O nx K) :
  VRunO call P ops (⟨some d1, .fieldAddr tt (.tmp a) j,ty1,ps1,af1,none⟩::⟨d2, .load tt2 (.tmp d1),ty2,ps2,af2,none⟩::l) E O nx K:=fO (OF.fieldAddrO (VEv.tmp h) fa) (lO (OL.loadO1 (VEv.tmp (Qdi _ _ _)) hk ht hst) hK)
theorem lr (t:T) (h:gE E a= .rp us) (hn:off≤us.length) (fa:∀k o,Qe P tt (.pointer (some ⟨k,o,none⟩)) j=some (.pointer (some ⟨k,o+off,none⟩))) (ht:(us.drop off)[0]? =some t) (hst:Qu P tt2=some false) (hK:VRunO call P ops l (pE ((d1, .rp (us.drop off))::E) d2 t) O nx K) :
  VRunO call P ops (⟨some d1, .fieldAddr tt (.tmp a) j,ty1,ps1,af1,none⟩::⟨d2, .load tt2 (.tmp d1),ty2,ps2,af2,none⟩::l) E O nx K:=fO (B.fieldAddrR (VEv.tmp h) hn fa rfl) (lO (OL.loadR1 (VEv.tmp (Qdi _ _ _)) ht hst) hK)
variable {i q : Nat} {w b : Bool} {t0 : T}
theorem ZV (t:T) (hb:b=w) (hd:(ops[i]?).bind (·.dst)=some q) (hq:gE E q= .bool b) (hne:(q == d1)=false) (h:gE E a= .op k o) (fa:∀k o,Qe P tt (.pointer (some ⟨k,o,none⟩)) j=some (.pointer (some ⟨k,o+off,none⟩))) (hk:gO O k=some (.cells us)) (ht:us[o+off]? =some t) (hst:Qu P tt2=some false) (hK:VRunO call P ops l (pE ((d1, .op k (o+off))::E) d2 t) O nx K) :
  VRunO call P ops (⟨some d1, .fieldAddr tt (.tmp a) j,ty1,ps1,af1,some (i,w)⟩::⟨d2, .load tt2 (.tmp d1),ty2,ps2,af2,some (i,w)⟩::l) E O nx K:=gF hb hd hq (OF.fieldAddrO (VEv.tmp h) fa) (gL hb hd ((Qho E hne _).trans hq) (OL.loadO1 (VEv.tmp (Qdi _ _ _)) hk ht hst) hK)
theorem glr (t:T) (hb:b=w) (hd:(ops[i]?).bind (·.dst)=some q) (hq:gE E q= .bool b) (hne:(q == d1)=false) (h:gE E a= .rp us) (hn:off≤us.length) (fa:∀k o,Qe P tt (.pointer (some ⟨k,o,none⟩)) j=some (.pointer (some ⟨k,o+off,none⟩))) (ht:(us.drop off)[0]? =some t) (hst:Qu P tt2=some false) (hK:VRunO call P ops l (pE ((d1, .rp (us.drop off))::E) d2 t) O nx K) :
  VRunO call P ops (⟨some d1, .fieldAddr tt (.tmp a) j,ty1,ps1,af1,some (i,w)⟩::⟨d2, .load tt2 (.tmp d1),ty2,ps2,af2,some (i,w)⟩::l) E O nx K:=gF hb hd hq (B.fieldAddrR (VEv.tmp h) hn fa rfl) (gL hb hd ((Qho E hne _).trans hq) (OL.loadR1 (VEv.tmp (Qdi _ _ _)) ht hst) hK)
def QiR (i:Nat) (w:Bool) (q:Nat):List Oper→Bool
 | []=>true
 | o::r=>(match o.guard with | some (a,b)=>Nat.beq a i && (b == w) | none=>false) && (match o.dst with | some d=> !(Nat.beq d q) | none=>true) && QiR i w q r
def Qkl (E:QW):List Oper→QW
 | []=>E
 | o::r=>Qkl (pE E o.dst (.tup [])) r
theorem Qmd (hd:(ops[i]?).bind (·.dst)=some q) (hv:∀(dd:Option Tmp) (op:Op) (ty:TypeId) (ps:String) (af:Array Edge) (E:QW),gE E q=t0→VWant ops E ⟨dd,op,ty,ps,af,some (i,w)⟩ false) {l2:List Oper} (l1:List Oper):∀(E:QW),QiR i w q l1=true→gE E q=t0→VRunO call P ops l2 (Qkl E l1) O nx K→VRunO call P ops (l1++l2) E O nx K:=by
 induction l1 with
 | nil=>exact fun E _ _ hK=>hK
 | cons o r ih =>
  intro E hc hq hK
  obtain ⟨dd,op,ty,ps,af,g⟩:=o
  simp only [QiR,Bool.and_eq_true] at hc
  obtain ⟨⟨h1,h2⟩,h3⟩:=hc
  cases g with
  | none=>cases h1
  | some g =>
   obtain ⟨a,b⟩:=g
   simp only [Bool.and_eq_true] at h1
   have e1:a=i:=Nat.eq_of_beq_eq_true h1.1
   have e2:b=w:=by simpa using h1.2
   subst e1
   subst e2
   refine VRunO.off (hv _ _ _ _ _ _ hq) (ih _ h3 ?_ hK)
   cases dd with
   | none=>exact hq
   | some d =>
    refine (Qho E (d:=d) (t:=q) ?_ _).trans hq
    rw [beq_eq_false_iff_ne]
    rintro rfl
    simp at h2
theorem Qx (m i:Nat) (w:Bool) (q:Nat) (hb:b= !w) (hd:(ops[i]?).bind (·.dst)=some q) (hq:gE E q= .bool b) (hc:QiR i w q (l.take m)=true) (hK:VRunO call P ops (l.drop m) (Qkl E (l.take m)) O nx K):VRunO call P ops l E O nx K:=by
 rw [← List.take_append_drop m l]
 exact Qmd hd (fun _ _ _ _ _ _ h=>VWant.not hd h hb) _ _ hc hq hK
theorem JK (m i:Nat) (w:Bool) (q:Nat) (hd:(ops[i]?).bind (·.dst)=some q) (hq:gE E q= .tup []) (hc:QiR i w q (l.take m)=true) (hK:VRunO call P ops (l.drop m) (Qkl E (l.take m)) O nx K):VRunO call P ops l E O nx K:=by
 rw [← List.take_append_drop m l]
 exact Qmd hd (fun _ _ _ _ _ _ h=>VWant.undef hd h) _ _ hc hq hK
end
end Go.Proofs.YthifchndolccgaaGreatDoor.AE
namespace Go.Proofs.YthifchndolccgaaGreatDoor.AE
open Go Go.RowKit
set_option linter.unusedVariables false
set_option linter.unusedSimpArgs false
structure D.Grid where
 Rows:Int
 Cols:Int
 Cells:ByteArray
def QiI : AK D.Grid:=AK.iso (AK.pair (AK.int .i64) (AK.pair (AK.int .i64) AK.string)) (fun x=>(x.Rows,x.Cols,x.Cells))
def QiX (x:D.Grid):Prop:=((Lit.int .i64 x.Rows).wf=true)∧((Lit.int .i64 x.Cols).wf=true)∧(x.Cells.size≤maxLen)
structure D.Step where
 Kind:Int
 Word:ByteArray
 A:Int
 B:Int
def QjJ : AK D.Step:=AK.iso (AK.pair (AK.int .i64) (AK.pair AK.string (AK.pair (AK.int .i64) (AK.int .i64)))) (fun x=>(x.Kind,x.Word,x.A,x.B))
def Qhv (x:D.Step):Prop:=((Lit.int .i64 x.Kind).wf=true)∧(x.Word.size≤maxLen)∧((Lit.int .i64 x.A).wf=true)∧((Lit.int .i64 x.B).wf=true)
structure D.Clue where
 Sense:Int
 Play:_root_.List D.Step
def QiG : AK D.Clue:=AK.iso (AK.pair (AK.int .i64) (AK.slice QjJ)) (fun x=>(x.Sense,x.Play))
def QhY (x:D.Clue):Prop:=((Lit.int .i64 x.Sense).wf=true)∧((x.Play.length≤maxLen∧∀y∈x.Play,Qhv y))
structure D.Puzzle where
 Grid:D.Grid
 Clues:_root_.List D.Clue
 Seals:_root_.List Int
 Salt:Int
def Qfc : AK D.Puzzle:=AK.iso (AK.pair QiI (AK.pair (AK.slice QiG) (AK.pair (AK.slice (AK.int .i64)) (AK.int .i64)))) (fun x=>(x.Grid,x.Clues,x.Seals,x.Salt))
def QfP (x:D.Puzzle):Prop:=(QiX x.Grid)∧((x.Clues.length≤maxLen∧∀y∈x.Clues,QhY y))∧((x.Seals.length≤maxLen∧∀y∈x.Seals,(Lit.int .i64 y).wf=true))∧((Lit.int .i64 x.Salt).wf=true)
structure D.Issue where
 Number:Int
 Puzzle:D.Puzzle
 Fill:ByteArray
 Open:Int
 Close:Int
def Qi8 : AK D.Issue:=AK.iso (AK.pair (AK.int .i64) (AK.pair Qfc (AK.pair AK.string (AK.pair (AK.int .i64) (AK.int .i64))))) (fun x=>(x.Number,x.Puzzle,x.Fill,x.Open,x.Close))
def Qhr (x:D.Issue):Prop:=((Lit.int .i64 x.Number).wf=true)∧(QfP x.Puzzle)∧(x.Fill.size≤maxLen)∧((Lit.int .i64 x.Open).wf=true)∧((Lit.int .i64 x.Close).wf=true)
structure D.Slot where
 Number:Int
 Down:Bool
 Cell:Int
 Length:Int
theorem Qmn : Yv Tryz.prog 23 QiI QiX:=YV (Yb (P:=Tryz.prog) (t:=23) (fun x:D.Grid=>(x.Rows,x.Cols,x.Cells)) (fun x=>⟨x.1,x.2.1,x.2.2⟩) (fun _=>rfl) Tryz.underlying23 (by kernel_rfl) (QZ rfl (by kernel_rfl) (Zo (k:= .i64) Tryz.underlying3) (QZ rfl (by kernel_rfl) (Zo (k:= .i64) Tryz.underlying3) (YW rfl (by kernel_rfl) (JC Tryz.underlying9))))) (fun _ h=>h)
theorem QlV : Yv Tryz.prog 110 QjJ Qhv:=YV (Yb (P:=Tryz.prog) (t:=110) (fun x:D.Step=>(x.Kind,x.Word,x.A,x.B)) (fun x=>⟨x.1,x.2.1,x.2.2.1,x.2.2.2⟩) (fun _=>rfl) Tryz.underlying110 (by kernel_rfl) (QZ rfl (by kernel_rfl) (Zo (k:= .i64) Tryz.underlying3) (QZ rfl (by kernel_rfl) (JC Tryz.underlying9) (QZ rfl (by kernel_rfl) (Zo (k:= .i64) Tryz.underlying3) (YW rfl (by kernel_rfl) (Zo (k:= .i64) Tryz.underlying3)))))) (fun _ h=>h)
theorem QmC : Yv Tryz.prog 79 QiG QhY:=YV (Yb (P:=Tryz.prog) (t:=79) (fun x:D.Clue=>(x.Sense,x.Play)) (fun x=>⟨x.1,x.2⟩) (fun _=>rfl) Tryz.underlying79 (by kernel_rfl) (QZ rfl (by kernel_rfl) (Zo (k:= .i64) Tryz.underlying3) (YW rfl (by kernel_rfl) (Qaa Tryz.underlying77 (by kernel_rfl) (of_decide_eq_true (by kernel_rfl)) QlV)))) (fun _ h=>h)
theorem Qmt : Yv Tryz.prog 27 Qfc QfP:=YV (Yb (P:=Tryz.prog) (t:=27) (fun x:D.Puzzle=>(x.Grid,x.Clues,x.Seals,x.Salt)) (fun x=>⟨x.1,x.2.1,x.2.2.1,x.2.2.2⟩) (fun _=>rfl) Tryz.underlying27 (by kernel_rfl) (QZ rfl (by kernel_rfl) Qmn (QZ rfl (by kernel_rfl) (Qaa Tryz.underlying24 (by kernel_rfl) (of_decide_eq_true (by kernel_rfl)) QmC) (QZ rfl (by kernel_rfl) (Qaa Tryz.underlying25 (by kernel_rfl) (of_decide_eq_true (by kernel_rfl)) (Zo (k:= .i64) Tryz.underlying3)) (YW rfl (by kernel_rfl) (Zo (k:= .i64) Tryz.underlying3)))))) (fun _ h=>h)
theorem Qmy : Yv Tryz.prog 44 Qi8 Qhr:=YV (Yb (P:=Tryz.prog) (t:=44) (fun x:D.Issue=>(x.Number,x.Puzzle,x.Fill,x.Open,x.Close)) (fun x=>⟨x.1,x.2.1,x.2.2.1,x.2.2.2.1,x.2.2.2.2⟩) (fun _=>rfl) Tryz.underlying44 (by kernel_rfl) (QZ rfl (by kernel_rfl) (Zo (k:= .i64) Tryz.underlying3) (QZ rfl (by kernel_rfl) Qmt (QZ rfl (by kernel_rfl) (JC Tryz.underlying9) (QZ rfl (by kernel_rfl) (Zo (k:= .i64) Tryz.underlying3) (YW rfl (by kernel_rfl) (Zo (k:= .i64) Tryz.underlying3))))))) (fun _ h=>h)
theorem QV : Qu Tryz.prog 3=some false:=by kernel_rfl
theorem Zv : Tryz.prog.cellsOf 3=1:=by kernel_rfl
theorem Y7 : (Tryz.prog.info? 3).isSome=true:=by kernel_rfl
theorem zo3 : Q1 Tryz.prog 3=some (.int .i64 0):=by kernel_rfl
theorem zc3 : closedV (.int .i64 0)=true:=by kernel_rfl
theorem st4 : Qu Tryz.prog 4=some false:=by kernel_rfl
theorem sz4 : Tryz.prog.cellsOf 4=1:=by kernel_rfl
theorem if4 : (Tryz.prog.info? 4).isSome=true:=by kernel_rfl
theorem zo4 : Q1 Tryz.prog 4=some (.bool false):=by kernel_rfl
theorem zc4 : closedV (.bool false)=true:=by kernel_rfl
theorem st5 : Qu Tryz.prog 5=some false:=by kernel_rfl
theorem sz5 : Tryz.prog.cellsOf 5=1:=by kernel_rfl
theorem if5 : (Tryz.prog.info? 5).isSome=true:=by kernel_rfl
theorem zo5 : Q1 Tryz.prog 5=some (.int .u8 0):=by kernel_rfl
theorem ZN : Qu Tryz.prog 9=some false:=by kernel_rfl
theorem sz9 : Tryz.prog.cellsOf 9=1:=by kernel_rfl
theorem if9 : (Tryz.prog.info? 9).isSome=true:=by kernel_rfl
theorem zo9 : Q1 Tryz.prog 9=some (.string ByteArray.empty):=by kernel_rfl
theorem Qmb : Qu Tryz.prog 23=some true:=by kernel_rfl
theorem QkX : Tryz.prog.cellsOf 23=3:=by kernel_rfl
theorem Qmv : (Tryz.prog.info? 23).isSome=true:=by kernel_rfl
theorem Qmf : Qu Tryz.prog 24=some false:=by kernel_rfl
theorem Qms : Tryz.prog.cellsOf 24=1:=by kernel_rfl
theorem Qmp : (Tryz.prog.info? 24).isSome=true:=by kernel_rfl
theorem QcI : Qu Tryz.prog 25=some false:=by kernel_rfl
theorem Qeu : Tryz.prog.cellsOf 25=1:=by kernel_rfl
theorem Qhe : (Tryz.prog.info? 25).isSome=true:=by kernel_rfl
theorem Ql5 : Q1 Tryz.prog 25=some (.slice none 0 0):=by kernel_rfl
theorem Qme : Qu Tryz.prog 27=some true:=by kernel_rfl
theorem Qlk : Tryz.prog.cellsOf 27=6:=by kernel_rfl
theorem QmA : (Tryz.prog.info? 27).isSome=true:=by kernel_rfl
theorem QP : Qu Tryz.prog 33=some true:=by kernel_rfl
theorem QN : Tryz.prog.cellsOf 33=3:=by kernel_rfl
theorem Qhd : (Tryz.prog.info? 33).isSome=true:=by kernel_rfl
theorem Qia : Q1 Tryz.prog 33=some (.agg #[.int .i64 0, .int .i64 0, .string ByteArray.empty]):=by kernel_rfl
theorem Qj8 : closedV (.agg #[.int .i64 0, .int .i64 0, .string ByteArray.empty])=true:=by kernel_rfl
theorem Qgc : Qu Tryz.prog 34=some false:=by kernel_rfl
theorem QlO : Tryz.prog.cellsOf 34=1:=by kernel_rfl
theorem Ql9 : (Tryz.prog.info? 34).isSome=true:=by kernel_rfl
theorem Qge : Qu Tryz.prog 36=some true:=by kernel_rfl
theorem Qdq : Tryz.prog.cellsOf 36=6:=by kernel_rfl
theorem Qla : (Tryz.prog.info? 36).isSome=true:=by kernel_rfl
theorem QlX : Q1 Tryz.prog 36=some (.agg #[.int .i64 0, .int .i64 0, .string ByteArray.empty, .slice none 0 0, .slice none 0 0, .int .i64 0]):=by kernel_rfl
theorem QlT : closedV (.agg #[.int .i64 0, .int .i64 0, .string ByteArray.empty, .slice none 0 0, .slice none 0 0, .int .i64 0])=true:=by kernel_rfl
theorem Qke : Qu Tryz.prog 44=some true:=by kernel_rfl
theorem Qko : Tryz.prog.cellsOf 44=10:=by kernel_rfl
theorem Qiu : Qu Tryz.prog 48=some true:=by kernel_rfl
theorem QgP : Tryz.prog.cellsOf 48=10:=by kernel_rfl
theorem Ql0 : (Tryz.prog.info? 48).isSome=true:=by kernel_rfl
theorem Qlw : Q1 Tryz.prog 48=some (.agg #[.int .i64 0, .int .i64 0, .int .i64 0, .string ByteArray.empty, .slice none 0 0, .slice none 0 0, .int .i64 0, .string ByteArray.empty, .int .i64 0, .int .i64 0]):=by kernel_rfl
theorem QkT : closedV (.agg #[.int .i64 0, .int .i64 0, .int .i64 0, .string ByteArray.empty, .slice none 0 0, .slice none 0 0, .int .i64 0, .string ByteArray.empty, .int .i64 0, .int .i64 0])=true:=by kernel_rfl
theorem Qj9 : Qu Tryz.prog 72=some false:=by kernel_rfl
theorem Ql7 : Tryz.prog.cellsOf 72=1:=by kernel_rfl
theorem Qmg : (Tryz.prog.info? 72).isSome=true:=by kernel_rfl
theorem Qg4 : Qu Tryz.prog 74=some true:=by kernel_rfl
theorem Qa2 : Tryz.prog.cellsOf 74=2:=by kernel_rfl
theorem Qhn : (Tryz.prog.info? 74).isSome=true:=by kernel_rfl
theorem QkQ : Q1 Tryz.prog 74=some (.agg #[.int .i64 0, .slice none 0 0]):=by kernel_rfl
theorem Qlt : closedV (.agg #[.int .i64 0, .slice none 0 0])=true:=by kernel_rfl
theorem Ql2 : Qu Tryz.prog 77=some false:=by kernel_rfl
theorem Qmr : Tryz.prog.cellsOf 77=1:=by kernel_rfl
theorem Qmu : (Tryz.prog.info? 77).isSome=true:=by kernel_rfl
theorem QlU : Qu Tryz.prog 79=some true:=by kernel_rfl
theorem Qkp : Tryz.prog.cellsOf 79=2:=by kernel_rfl
theorem QlS : (Tryz.prog.info? 79).isSome=true:=by kernel_rfl
theorem Qfs : Qu Tryz.prog 97=some true:=by kernel_rfl
theorem ZJ : Tryz.prog.cellsOf 97=4:=by kernel_rfl
theorem Qc5 : (Tryz.prog.info? 97).isSome=true:=by kernel_rfl
theorem Jr : Q1 Tryz.prog 97=some (.agg #[.int .i64 0, .bool false, .int .i64 0, .int .i64 0]):=by kernel_rfl
theorem Qk5 : closedV (.agg #[.int .i64 0, .bool false, .int .i64 0, .int .i64 0])=true:=by kernel_rfl
theorem Qfb : Qu Tryz.prog 105=some true:=by kernel_rfl
theorem Yn : Tryz.prog.cellsOf 105=4:=by kernel_rfl
theorem Qas : (Tryz.prog.info? 105).isSome=true:=by kernel_rfl
theorem QfZ : Q1 Tryz.prog 105=some (.agg #[.int .i64 0, .string ByteArray.empty, .int .i64 0, .int .i64 0]):=by kernel_rfl
theorem QgI : closedV (.agg #[.int .i64 0, .string ByteArray.empty, .int .i64 0, .int .i64 0])=true:=by kernel_rfl
theorem QkD : Qu Tryz.prog 110=some true:=by kernel_rfl
theorem QhM : Tryz.prog.cellsOf 110=4:=by kernel_rfl
theorem QkA : (Tryz.prog.info? 110).isSome=true:=by kernel_rfl
theorem QiS : Qu Tryz.prog 142=some false:=by kernel_rfl
theorem QlN : Tryz.prog.cellsOf 142=1:=by kernel_rfl
theorem QlJ : (Tryz.prog.info? 142).isSome=true:=by kernel_rfl
theorem Qmh : Q1 Tryz.prog 142=some (.slice none 0 0):=by kernel_rfl
theorem Qma : closedV (.slice none 0 0)=true:=by kernel_rfl
theorem Qgn : Qu Tryz.prog 146=some false:=by kernel_rfl
theorem Ql6 : Tryz.prog.cellsOf 146=1:=by kernel_rfl
theorem QlL : (Tryz.prog.info? 146).isSome=true:=by kernel_rfl
theorem Qk3 (k o:Nat):Qe Tryz.prog 23 (.pointer (some ⟨k,o,none⟩)) 0=some (.pointer (some ⟨k,o+0,none⟩)):=by simp [Qe,Tryz.underlying23,Y7,Zv]
theorem Qk6 (k o:Nat):Qe Tryz.prog 23 (.pointer (some ⟨k,o,none⟩)) 1=some (.pointer (some ⟨k,o+1,none⟩)):=by simp [Qe,Tryz.underlying23,Y7,Zv]
theorem Qjn (k o:Nat):Qe Tryz.prog 23 (.pointer (some ⟨k,o,none⟩)) 2=some (.pointer (some ⟨k,o+2,none⟩)):=by simp [Qe,Tryz.underlying23,if9,sz9]
theorem QjK (k o:Nat):Qe Tryz.prog 27 (.pointer (some ⟨k,o,none⟩)) 0=some (.pointer (some ⟨k,o+0,none⟩)):=by simp [Qe,Tryz.underlying27,Qmv,QkX]
theorem Qjg (k o:Nat):Qe Tryz.prog 27 (.pointer (some ⟨k,o,none⟩)) 1=some (.pointer (some ⟨k,o+3,none⟩)):=by simp [Qe,Tryz.underlying27,Qmp,Qms]
theorem QjM (k o:Nat):Qe Tryz.prog 27 (.pointer (some ⟨k,o,none⟩)) 2=some (.pointer (some ⟨k,o+4,none⟩)):=by simp [Qe,Tryz.underlying27,Qhe,Qeu]
theorem Qlp (k o:Nat):Qe Tryz.prog 27 (.pointer (some ⟨k,o,none⟩)) 3=some (.pointer (some ⟨k,o+5,none⟩)):=by simp [Qe,Tryz.underlying27,Y7,Zv]
theorem JG (k o:Nat):Qe Tryz.prog 33 (.pointer (some ⟨k,o,none⟩)) 0=some (.pointer (some ⟨k,o+0,none⟩)):=by simp [Qe,Tryz.underlying33,Y7,Zv]
theorem Za (k o:Nat):Qe Tryz.prog 33 (.pointer (some ⟨k,o,none⟩)) 1=some (.pointer (some ⟨k,o+1,none⟩)):=by simp [Qe,Tryz.underlying33,Y7,Zv]
theorem Qy (k o:Nat):Qe Tryz.prog 33 (.pointer (some ⟨k,o,none⟩)) 2=some (.pointer (some ⟨k,o+2,none⟩)):=by simp [Qe,Tryz.underlying33,if9,sz9]
theorem YM (k o:Nat):Qe Tryz.prog 36 (.pointer (some ⟨k,o,none⟩)) 0=some (.pointer (some ⟨k,o+0,none⟩)):=by simp [Qe,Tryz.underlying36,Qhd,QN]
theorem Qah (k o:Nat):Qe Tryz.prog 36 (.pointer (some ⟨k,o,none⟩)) 1=some (.pointer (some ⟨k,o+3,none⟩)):=by simp [Qe,Tryz.underlying36,Ql9,QlO]
theorem Qav (k o:Nat):Qe Tryz.prog 36 (.pointer (some ⟨k,o,none⟩)) 2=some (.pointer (some ⟨k,o+4,none⟩)):=by simp [Qe,Tryz.underlying36,Qhe,Qeu]
theorem Qba (k o:Nat):Qe Tryz.prog 36 (.pointer (some ⟨k,o,none⟩)) 3=some (.pointer (some ⟨k,o+5,none⟩)):=by simp [Qe,Tryz.underlying36,Y7,Zv]
theorem QkV (k o:Nat):Qe Tryz.prog 44 (.pointer (some ⟨k,o,none⟩)) 0=some (.pointer (some ⟨k,o+0,none⟩)):=by simp [Qe,Tryz.underlying44,Y7,Zv]
theorem QjF (k o:Nat):Qe Tryz.prog 44 (.pointer (some ⟨k,o,none⟩)) 1=some (.pointer (some ⟨k,o+1,none⟩)):=by simp [Qe,Tryz.underlying44,QmA,Qlk]
theorem Qi3 (k o:Nat):Qe Tryz.prog 44 (.pointer (some ⟨k,o,none⟩)) 2=some (.pointer (some ⟨k,o+7,none⟩)):=by simp [Qe,Tryz.underlying44,if9,sz9]
theorem Qk7 (k o:Nat):Qe Tryz.prog 44 (.pointer (some ⟨k,o,none⟩)) 3=some (.pointer (some ⟨k,o+8,none⟩)):=by simp [Qe,Tryz.underlying44,Y7,Zv]
theorem Qlv (k o:Nat):Qe Tryz.prog 44 (.pointer (some ⟨k,o,none⟩)) 4=some (.pointer (some ⟨k,o+9,none⟩)):=by simp [Qe,Tryz.underlying44,Y7,Zv]
theorem QdL (k o:Nat):Qe Tryz.prog 48 (.pointer (some ⟨k,o,none⟩)) 0=some (.pointer (some ⟨k,o+0,none⟩)):=by simp [Qe,Tryz.underlying48,Y7,Zv]
theorem Qa9 (k o:Nat):Qe Tryz.prog 48 (.pointer (some ⟨k,o,none⟩)) 1=some (.pointer (some ⟨k,o+1,none⟩)):=by simp [Qe,Tryz.underlying48,Qla,Qdq]
theorem Qbm (k o:Nat):Qe Tryz.prog 48 (.pointer (some ⟨k,o,none⟩)) 2=some (.pointer (some ⟨k,o+7,none⟩)):=by simp [Qe,Tryz.underlying48,if9,sz9]
theorem Qbw (k o:Nat):Qe Tryz.prog 48 (.pointer (some ⟨k,o,none⟩)) 3=some (.pointer (some ⟨k,o+8,none⟩)):=by simp [Qe,Tryz.underlying48,Y7,Zv]
theorem Qac (k o:Nat):Qe Tryz.prog 48 (.pointer (some ⟨k,o,none⟩)) 4=some (.pointer (some ⟨k,o+9,none⟩)):=by simp [Qe,Tryz.underlying48,Y7,Zv]
theorem QdV (k o:Nat):Qe Tryz.prog 74 (.pointer (some ⟨k,o,none⟩)) 0=some (.pointer (some ⟨k,o+0,none⟩)):=by simp [Qe,Tryz.underlying74,Y7,Zv]
theorem Qd7 (k o:Nat):Qe Tryz.prog 74 (.pointer (some ⟨k,o,none⟩)) 1=some (.pointer (some ⟨k,o+1,none⟩)):=by simp [Qe,Tryz.underlying74,Qmg,Ql7]
theorem Qlj (k o:Nat):Qe Tryz.prog 79 (.pointer (some ⟨k,o,none⟩)) 0=some (.pointer (some ⟨k,o+0,none⟩)):=by simp [Qe,Tryz.underlying79,Y7,Zv]
theorem QiN (k o:Nat):Qe Tryz.prog 79 (.pointer (some ⟨k,o,none⟩)) 1=some (.pointer (some ⟨k,o+1,none⟩)):=by simp [Qe,Tryz.underlying79,Qmu,Qmr]
theorem Qjf (k o:Nat):Qe Tryz.prog 97 (.pointer (some ⟨k,o,none⟩)) 1=some (.pointer (some ⟨k,o+1,none⟩)):=by simp [Qe,Tryz.underlying97,if4,sz4]
theorem QfA (k o:Nat):Qe Tryz.prog 97 (.pointer (some ⟨k,o,none⟩)) 2=some (.pointer (some ⟨k,o+2,none⟩)):=by simp [Qe,Tryz.underlying97,Y7,Zv]
theorem Qbg (k o:Nat):Qe Tryz.prog 97 (.pointer (some ⟨k,o,none⟩)) 3=some (.pointer (some ⟨k,o+3,none⟩)):=by simp [Qe,Tryz.underlying97,Y7,Zv]
theorem Q2 (k o:Nat):Qe Tryz.prog 105 (.pointer (some ⟨k,o,none⟩)) 0=some (.pointer (some ⟨k,o+0,none⟩)):=by simp [Qe,Tryz.underlying105,Y7,Zv]
theorem Qag (k o:Nat):Qe Tryz.prog 105 (.pointer (some ⟨k,o,none⟩)) 1=some (.pointer (some ⟨k,o+1,none⟩)):=by simp [Qe,Tryz.underlying105,if9,sz9]
theorem Ys (k o:Nat):Qe Tryz.prog 105 (.pointer (some ⟨k,o,none⟩)) 2=some (.pointer (some ⟨k,o+2,none⟩)):=by simp [Qe,Tryz.underlying105,Y7,Zv]
theorem Z2 (k o:Nat):Qe Tryz.prog 105 (.pointer (some ⟨k,o,none⟩)) 3=some (.pointer (some ⟨k,o+3,none⟩)):=by simp [Qe,Tryz.underlying105,Y7,Zv]
theorem Qkd (k o:Nat):Qe Tryz.prog 110 (.pointer (some ⟨k,o,none⟩)) 0=some (.pointer (some ⟨k,o+0,none⟩)):=by simp [Qe,Tryz.underlying110,Y7,Zv]
theorem QhB (k o:Nat):Qe Tryz.prog 110 (.pointer (some ⟨k,o,none⟩)) 1=some (.pointer (some ⟨k,o+1,none⟩)):=by simp [Qe,Tryz.underlying110,if9,sz9]
theorem Qkg (k o:Nat):Qe Tryz.prog 110 (.pointer (some ⟨k,o,none⟩)) 2=some (.pointer (some ⟨k,o+2,none⟩)):=by simp [Qe,Tryz.underlying110,Y7,Zv]
theorem Qku (k o:Nat):Qe Tryz.prog 110 (.pointer (some ⟨k,o,none⟩)) 3=some (.pointer (some ⟨k,o+3,none⟩)):=by simp [Qe,Tryz.underlying110,Y7,Zv]
theorem QmE (a b:D.Grid):∃q,eqv Tryz.prog 20 33 (.agg #[Value.int .i64 a.Rows,Value.int .i64 a.Cols,Value.string a.Cells]) (.agg #[Value.int .i64 b.Rows,Value.int .i64 b.Cols,Value.string b.Cells])=some q∧(q=true↔a=b):=by
 refine ⟨_,Qd4 19 Tryz.underlying33 rfl (by kernel_rfl) (eqf_cons rfl (Zl QV rfl) (Zl QV rfl) (Qb7 18 Tryz.underlying3) (eqf_cons rfl (Zl QV rfl) (Zl QV rfl) (Qb7 18 Tryz.underlying3) (eqf_cons rfl (Zl ZN rfl) (Zl ZN rfl) (Qkb 18 Tryz.underlying9) Qhw))),?_⟩
 obtain ⟨a0,a1,a2⟩:=a
 obtain ⟨b0,b1,b2⟩:=b
 simp
theorem Qmc (a b:D.Grid) (xo yo:Operand):∃q,ZM Tryz.prog .eql 33 xo yo (.agg #[Value.int .i64 a.Rows,Value.int .i64 a.Cols,Value.string a.Cells]) (.agg #[Value.int .i64 b.Rows,Value.int .i64 b.Cols,Value.string b.Cells])=some (.bool q)∧(q=true↔a=b):=by
 obtain ⟨q,h1,h2⟩:=QmE a b
 exact ⟨q,QiZ (by simp [closedV,closed1]) (by simp [closedV,closed1]) (by kernel_rfl) h1,h2⟩
theorem Qmo (a b:D.Slot):∃q,eqv Tryz.prog 20 97 (.agg #[Value.int .i64 a.Number,Value.bool a.Down,Value.int .i64 a.Cell,Value.int .i64 a.Length]) (.agg #[Value.int .i64 b.Number,Value.bool b.Down,Value.int .i64 b.Cell,Value.int .i64 b.Length])=some q∧(q=true↔a=b):=by
 refine ⟨_,Qd4 19 Tryz.underlying97 rfl (by kernel_rfl) (eqf_cons rfl (Zl QV rfl) (Zl QV rfl) (Qb7 18 Tryz.underlying3) (eqf_cons rfl (Zl st4 rfl) (Zl st4 rfl) (QjG 18 Tryz.underlying4) (eqf_cons rfl (Zl QV rfl) (Zl QV rfl) (Qb7 18 Tryz.underlying3) (eqf_cons rfl (Zl QV rfl) (Zl QV rfl) (Qb7 18 Tryz.underlying3) Qhw)))),?_⟩
 obtain ⟨a0,a1,a2,a3⟩:=a
 obtain ⟨b0,b1,b2,b3⟩:=b
 simp
theorem QlZ (a b:D.Slot) (xo yo:Operand):∃q,ZM Tryz.prog .neq 97 xo yo (.agg #[Value.int .i64 a.Number,Value.bool a.Down,Value.int .i64 a.Cell,Value.int .i64 a.Length]) (.agg #[Value.int .i64 b.Number,Value.bool b.Down,Value.int .i64 b.Cell,Value.int .i64 b.Length])=some (.bool (!q))∧(q=true↔a=b):=by
 obtain ⟨q,h1,h2⟩:=Qmo a b
 exact ⟨q,Qi4 (by simp [closedV,closed1]) (by simp [closedV,closed1]) (by kernel_rfl) h1,h2⟩
theorem follows : Tryz.prog.follows .mixedOrders=true:=by kernel_rfl
theorem Qin : Plain Tryz.prog:=by
 unfold Plain
 kernel_rfl
end Go.Proofs.YthifchndolccgaaGreatDoor.AE
namespace Go.Proofs.YthifchndolccgaaGreatDoor.AE
open Go Go.RowKit
set_option linter.unusedVariables false
set_option linter.unusedSimpArgs false
noncomputable instance : DecidableEq D.Grid:=Classical.typeDecidableEq _
def Qb (m:Bool) (x:D.Grid):List T:= [.int .i64 x.Rows, .int .i64 x.Cols, .str x.Cells]
theorem Qq : EncOk Qb 3:=⟨fun _ _=>rfl,fun x=>Qg (.int _ _) (Qg (.int _ _) (Qg (.str _) (Zb))),fun m x=>by simp only [Qb,fzL,AE.fz],fun m x=>Qg rfl (Qg rfl (Qg rfl (Zb))),fun x=>Qg rfl (Qg rfl (Qg rfl (Zb)))⟩
def Zp (x:D.Grid):Nat:=ByteArray.size x.Cells
theorem Qlh : RK QiI Qb:=QgR (YJ Qak (YJ Qak Qjr)) (fun _=>rfl)
theorem Qi9 (m:Bool) (x:D.Grid):SvL (Qb m x) [Value.int .i64 x.Rows,Value.int .i64 x.Cols,Value.string x.Cells]:= .cons (.int _ _) (.cons (.int _ _) (.cons (.str _) (.nil)))
noncomputable instance : DecidableEq D.Step:=Classical.typeDecidableEq _
def Qm (m:Bool) (x:D.Step):List T:= [.int .i64 x.Kind, .str x.Word, .int .i64 x.A, .int .i64 x.B]
theorem okeStep : EncOk Qm 4:=⟨fun _ _=>rfl,fun x=>Qg (.int _ _) (Qg (.str _) (Qg (.int _ _) (Qg (.int _ _) (Zb)))),fun m x=>by simp only [Qm,fzL,AE.fz],fun m x=>Qg rfl (Qg rfl (Qg rfl (Qg rfl (Zb)))),fun x=>Qg rfl (Qg rfl (Qg rfl (Qg rfl (Zb))))⟩
def Zk (x:D.Step):Nat:=ByteArray.size x.Word
theorem Qlz : QhL Qm:=fun _ _=>rfl
theorem Qk0 : RK QjJ Qm:=QgR (YJ Qak (YJ Qjr (YJ Qak Qak))) (fun _=>rfl)
noncomputable instance : DecidableEq D.Clue:=Classical.typeDecidableEq _
def Qi (m:Bool) (x:D.Clue):List T:= [.int .i64 x.Sense, .sl m 4 (x.Play.map (Qm m))]
theorem okeClue : EncOk Qi 2:=⟨fun _ _=>rfl,fun x=>Qg (.int _ _) (Qg (.sl _ _ (okeStep.cleanMap _)) (Zb)),fun m x=>by simp only [Qi,fzL,AE.fz,okeStep.fzMap],fun m x=>Qg rfl (Qg rfl (Zb)),fun x=>Qg rfl (Qg rfl (Zb))⟩
def QO (x:D.Clue):Nat:=(zL Zk) x.Play
theorem Qln : RK QiG Qi:=QgR (YJ Qak (Qlr Qk0 okeStep rfl)) (fun _=>rfl)
noncomputable instance : DecidableEq D.Puzzle:=Classical.typeDecidableEq _
def Qv (m:Bool) (x:D.Puzzle):List T:= [.int .i64 x.Grid.Rows, .int .i64 x.Grid.Cols, .str x.Grid.Cells, .sl m 2 (x.Clues.map (Qi m)), .sl m 1 (x.Seals.map (Qc m)), .int .i64 x.Salt]
theorem Yh : EncOk Qv 6:=⟨fun _ _=>rfl,fun x=>Qg (.int _ _) (Qg (.int _ _) (Qg (.str _) (Qg (.sl _ _ (okeClue.cleanMap _)) (Qg (.sl _ _ (okInt.cleanMap _)) (Qg (.int _ _) (Zb)))))),fun m x=>by simp only [Qv,fzL,AE.fz,okInt.fzMap,okeClue.fzMap],fun m x=>Qg rfl (Qg rfl (Qg rfl (Qg rfl (Qg rfl (Qg rfl (Zb)))))),fun x=>Qg rfl (Qg rfl (Qg rfl (Qg rfl (Qg rfl (Qg rfl (Zb))))))⟩
def QI (x:D.Puzzle):Nat:=Zp x.Grid+(zL QO) x.Clues+(zL zI) x.Seals
theorem Qjy : RK Qfc Qv:=QgR (YJ Qlh (YJ (Qlr Qln okeClue rfl) (YJ (Qlr Qak okInt rfl) Qak))) (fun _=>rfl)
noncomputable instance : DecidableEq D.Issue:=Classical.typeDecidableEq _
def QE (m:Bool) (x:D.Issue):List T:= [.int .i64 x.Number, .int .i64 x.Puzzle.Grid.Rows, .int .i64 x.Puzzle.Grid.Cols, .str x.Puzzle.Grid.Cells, .sl m 2 (x.Puzzle.Clues.map (Qi m)), .sl m 1 (x.Puzzle.Seals.map (Qc m)), .int .i64 x.Puzzle.Salt, .str x.Fill, .int .i64 x.Open, .int .i64 x.Close]
theorem J3 : EncOk QE 10:=⟨fun _ _=>rfl,fun x=>Qg (.int _ _) (Qg (.int _ _) (Qg (.int _ _) (Qg (.str _) (Qg (.sl _ _ (okeClue.cleanMap _)) (Qg (.sl _ _ (okInt.cleanMap _)) (Qg (.int _ _) (Qg (.str _) (Qg (.int _ _) (Qg (.int _ _) (Zb)))))))))),fun m x=>by simp only [QE,fzL,AE.fz,okInt.fzMap,okeClue.fzMap],fun m x=>Qg rfl (Qg rfl (Qg rfl (Qg rfl (Qg rfl (Qg rfl (Qg rfl (Qg rfl (Qg rfl (Qg rfl (Zb)))))))))),fun x=>Qg rfl (Qg rfl (Qg rfl (Qg rfl (Qg rfl (Qg rfl (Qg rfl (Qg rfl (Qg rfl (Qg rfl (Zb))))))))))⟩
def Zd (x:D.Issue):Nat:=QI x.Puzzle+ByteArray.size x.Fill
theorem QjZ : RK Qi8 QE:=QgR (YJ Qak (YJ Qjy (YJ Qjr (YJ Qak Qak)))) (fun _=>rfl)
noncomputable instance : DecidableEq D.Slot:=Classical.typeDecidableEq _
def Qf (m:Bool) (x:D.Slot):List T:= [.int .i64 x.Number, .bool x.Down, .int .i64 x.Cell, .int .i64 x.Length]
theorem okeSlot : EncOk Qf 4:=⟨fun _ _=>rfl,fun x=>Qg (.int _ _) (Qg (.bool _) (Qg (.int _ _) (Qg (.int _ _) (Zb)))),fun m x=>by simp only [Qf,fzL,AE.fz],fun m x=>Qg rfl (Qg rfl (Qg rfl (Qg rfl (Zb)))),fun x=>Qg rfl (Qg rfl (Qg rfl (Qg rfl (Zb))))⟩
theorem QiW (m:Bool) (x:D.Slot):SvL (Qf m x) [Value.int .i64 x.Number,Value.bool x.Down,Value.int .i64 x.Cell,Value.int .i64 x.Length]:= .cons (.int _ _) (.cons (.bool _) (.cons (.int _ _) (.cons (.int _ _) (.nil))))
theorem B.eql33 {call:QM} {E:QW} {d:Option Tmp} {ty xt:TypeId} {ps:String} {af:Array Edge} {g:Option (Nat×Bool)} {x y:Operand} {a b:D.Grid} {m m':Bool} (hx:VEv E x (.agg (Qb m a))) (hy:VEv E y (.agg (Qb m' b))):OF call Tryz.prog E ⟨d, .binOp .eql 33 x y xt,ty,ps,af,g⟩ (.bool (decide (a=b))):=by
 obtain ⟨q,h1,h2⟩:=Qmc a b x y
 have h3:q=decide (a=b):=by
  by_cases h:a=b
  ·rw [h2.2 h,decide_eq_true h]
  ·rw [decide_eq_false h]
   cases q
   ·rfl
   ·exact absurd (h2.1 rfl) h
 exact h3▸OF.binA hx hy (Qi9 _ a) (Qi9 _ b) h1 (.bool _)
theorem B.neq97 {call:QM} {E:QW} {d:Option Tmp} {ty xt:TypeId} {ps:String} {af:Array Edge} {g:Option (Nat×Bool)} {x y:Operand} {a b:D.Slot} {m m':Bool} (hx:VEv E x (.agg (Qf m a))) (hy:VEv E y (.agg (Qf m' b))):OF call Tryz.prog E ⟨d, .binOp .neq 97 x y xt,ty,ps,af,g⟩ (.bool (!decide (a=b))):=by
 obtain ⟨q,h1,h2⟩:=QlZ a b x y
 have h3:q=decide (a=b):=by
  by_cases h:a=b
  ·rw [h2.2 h,decide_eq_true h]
  ·rw [decide_eq_false h]
   cases q
   ·rfl
   ·exact absurd (h2.1 rfl) h
 exact h3▸OF.binA hx hy (QiW _ a) (QiW _ b) h1 (.bool _)
theorem U3 : Tryz.prog.underlying 3=some (.int .i64):=Tryz.underlying3
theorem U4 : Tryz.prog.underlying 4=some .bool:=Tryz.underlying4
theorem U5 : Tryz.prog.underlying 5=some (.int .u8):=Tryz.underlying5
theorem U9 : Tryz.prog.underlying 9=some .string:=Tryz.underlying9
theorem U24 : Tryz.prog.underlying 24=some (.slice 79):=Tryz.underlying24
theorem ZL : Tryz.prog.underlying 25=some (.slice 3):=Tryz.underlying25
theorem U34 : Tryz.prog.underlying 34=some (.slice 74):=Tryz.underlying34
theorem U52 : Tryz.prog.underlying 52=some (.slice 9):=Tryz.underlying52
theorem U72 : Tryz.prog.underlying 72=some (.slice 105):=Tryz.underlying72
theorem U77 : Tryz.prog.underlying 77=some (.slice 110):=Tryz.underlying77
theorem J6 : Tryz.prog.underlying 81=some (.slice 97):=Tryz.underlying81
theorem U92 : Tryz.prog.underlying 92=some (.slice 5):=Tryz.underlying92
theorem Qd1 : Tryz.prog.underlying 116=some (.slice 25):=Tryz.underlying116
theorem QlK : Tryz.prog.underlying 119=some (.map 3 3):=Tryz.underlying119
theorem YH : Tryz.prog.underlying 142=some (.slice 4):=Tryz.underlying142
end Go.Proofs.YthifchndolccgaaGreatDoor.AE
namespace Go.Proofs.YthifchndolccgaaGreatDoor.AE
open Go Go.RowKit
set_option linter.unusedVariables false
set_option linter.unusedSimpArgs false
set_option maxRecDepth 20000
set_option maxHeartbeats 2000000
theorem Qev (n:Nat) (a:List Int) (left:Int) (h0:0≤left) (h1:left≤(mx:Int)) (hg:a.length≤maxLen):Pure (Qo Tryz.prog (n+1)) 28 [(rd 1 Qc a),(tI left)] (tI (Zr (zL zI a) left)):=by
 refine Pure.intro (rs:= [ResultVar.tmp 4]) Tryz.func28 rfl rfl rfl (E0:= [(0,(rd 1 Qc a)),(1,(tI left))]) rfl ?_
 obtain ⟨hlim,hmx,hmax⟩:=QF
 refine sr (fO (OF.assign (VEv.int .i64 0)) (nt (sr (mO (tI left) rfl (mO (rd 1 Qc a) rfl (lO (B.lenR (m:=a.length) (tv (rd 1 Qc a) rfl) ZL (List.length_map ..)) (fO (B.sub (n:=(left - ((a.length:Nat):Int))) (tv (tI left) rfl) (tv (tN a.length) rfl) (by first | rfl | (rw [Qs (by omega)];omega) | (rw [Qs (by omega)];done))) (aO (tI (left - ((a.length:Nat):Int))) rfl (nt (sq (sr ?_)))))))))))
 refine mO (tI (left - ((a.length:Nat):Int))) rfl (fO (xls (tv (tI (left - ((a.length:Nat):Int))) rfl) (VEv.int .i64 0)) (nt ?_))
 refine cd ((left - ((a.length:Nat):Int))<0) rfl (fun fhc0=> ?_) fun fhc0=> ?_
 ·refine sr ?_
  refine fO (OF.assign (VEv.int .i64 (-1))) (nt (rt (tr (vi (n':=(-1)) rfl ?_))))
  exact SzI.early fhc0
 refine sk (tn (sr (mO (tI (left - ((a.length:Nat):Int))) rfl (aO (tI (left - ((a.length:Nat):Int))) rfl (nt (rt (vi (n':=(left - ((a.length:Nat):Int))) rfl ?_)))))))
 rw [Qj2 (z:=zI) (fun _=>rfl)];exact Qbt fhc0
theorem QeL (n:Nat) (a:D.Grid) (left:Int) (h0:0≤left) (h1:left≤(mx:Int)) (hg:QiX a):Pure (Qo Tryz.prog (n+1)) 26 [(T.agg (Qb false a)),(tI left)] (tI (Zr (Zp a) left)):=by
 refine Pure.intro (rs:= [ResultVar.tmp 4]) Tryz.func26 rfl rfl rfl (E0:= [(0,(T.agg (Qb false a))),(1,(tI left))]) rfl ?_
 obtain ⟨hlim,hmx,hmax⟩:=QF
 obtain ⟨hg0,hg1,hg2⟩:=hg
 refine sr (kO (B.box (ts:=(Qb false a)) (tv (T.agg (Qb false a)) rfl) nofun rfl) (fO (OF.assign (VEv.int .i64 0)) (nt (sr (mO (tI left) rfl (lf (tS a.Cells) rfl Qjn rfl rfl ZN (lO (B.lenS (tv (tS a.Cells) rfl) U9) (fO (B.sub (n:=(left - ((a.Cells.size:Nat):Int))) (tv (tI left) rfl) (tv (tN a.Cells.size) rfl) (by (rw [Qs (by omega)];done))) (aO (tI (left - ((a.Cells.size:Nat):Int))) rfl (nt (sq ?_)))))))))))
 refine sr (mO (tI (left - ((a.Cells.size:Nat):Int))) rfl (fO (xls (tv (tI (left - ((a.Cells.size:Nat):Int))) rfl) (VEv.int .i64 0)) (nt ?_)))
 refine cd ((left - ((a.Cells.size:Nat):Int))<0) rfl (fun fhc0=> ?_) fun fhc0=> ?_
 ·refine sr ?_
  refine fO (OF.assign (VEv.int .i64 (-1))) (nt (rt (tr (vi (n':=(-1)) rfl ?_))))
  exact YT (by simp only [Zp];omega)
 refine sk (tn (sr (mO (tI (left - ((a.Cells.size:Nat):Int))) rfl (aO (tI (left - ((a.Cells.size:Nat):Int))) rfl (nt (rt (vi (n':=(left - ((a.Cells.size:Nat):Int))) rfl ?_)))))))
 rw [← Qbt (z:=Zp a) (l:=left) (by simp only [Zp];omega)]
 all_goals rfl
theorem Qez (n:Nat) (a:D.Step) (left:Int) (h0:0≤left) (h1:left≤(mx:Int)) (hg:Qhv a):Pure (Qo Tryz.prog (n+1)) 95 [(T.agg (Qm false a)),(tI left)] (tI (Zr (Zk a) left)):=by
 refine Pure.intro (rs:= [ResultVar.tmp 4]) Tryz.func95 rfl rfl rfl (E0:= [(0,(T.agg (Qm false a))),(1,(tI left))]) rfl ?_
 obtain ⟨hlim,hmx,hmax⟩:=QF
 obtain ⟨hg0,hg1,hg2,hg3⟩:=hg
 refine sr (kO (B.box (ts:=(Qm false a)) (tv (T.agg (Qm false a)) rfl) nofun rfl) (fO (OF.assign (VEv.int .i64 0)) (nt (sr (mO (tI left) rfl (lf (tS a.Word) rfl QhB rfl rfl ZN (lO (B.lenS (tv (tS a.Word) rfl) U9) (fO (B.sub (n:=(left - ((a.Word.size:Nat):Int))) (tv (tI left) rfl) (tv (tN a.Word.size) rfl) (by (rw [Qs (by omega)];done))) (aO (tI (left - ((a.Word.size:Nat):Int))) rfl (nt (sq ?_)))))))))))
 refine sr (mO (tI (left - ((a.Word.size:Nat):Int))) rfl (fO (xls (tv (tI (left - ((a.Word.size:Nat):Int))) rfl) (VEv.int .i64 0)) (nt ?_)))
 refine cd ((left - ((a.Word.size:Nat):Int))<0) rfl (fun fhc0=> ?_) fun fhc0=> ?_
 ·refine sr ?_
  refine fO (OF.assign (VEv.int .i64 (-1))) (nt (rt (tr (vi (n':=(-1)) rfl ?_))))
  exact YT (by simp only [Zk];omega)
 refine sk (tn (sr (mO (tI (left - ((a.Word.size:Nat):Int))) rfl (aO (tI (left - ((a.Word.size:Nat):Int))) rfl (nt (rt (vi (n':=(left - ((a.Word.size:Nat):Int))) rfl ?_)))))))
 rw [← Qbt (z:=Zk a) (l:=left) (by simp only [Zk];omega)]
 all_goals rfl
theorem Qd6 (n:Nat) (a:List D.Step) (left:Int) (h0:0≤left) (h1:left≤(mx:Int)) (hg:a.length≤maxLen∧∀x∈a,Qhv x):Pure (Qo Tryz.prog (n+2)) 70 [(rd 4 Qm a),(tI left)] (tI (Zr (zL Zk a) left)):=by
 refine Pure.intro (rs:= [ResultVar.tmp 4]) Tryz.func70 rfl rfl rfl (E0:= [(0,(rd 4 Qm a)),(1,(tI left))]) rfl ?_
 obtain ⟨hlim,hmx,hmax⟩:=QF
 obtain ⟨hg1,hg2⟩:=hg
 refine sr (fO (OF.assign (VEv.int .i64 0)) (nt (sr (mO (tI left) rfl (mO (rd 4 Qm a) rfl (lO (B.lenR (m:=a.length) (tv (rd 4 Qm a) rfl) U77 (List.length_map ..)) (fO (B.sub (n:=(left - ((a.length:Nat):Int))) (tv (tI left) rfl) (tv (tN a.length) rfl) (by (rw [Qs (by omega)];done))) (aO (tI (left - ((a.length:Nat):Int))) rfl (nt (sq (sr ?_)))))))))))
 refine mO (tI (left - ((a.length:Nat):Int))) rfl (fO (xls (tv (tI (left - ((a.length:Nat):Int))) rfl) (VEv.int .i64 0)) (nt ?_))
 refine cd ((left - ((a.length:Nat):Int))<0) rfl (fun fhc0=> ?_) fun fhc0=> ?_
 ·refine sr ?_
  refine fO (OF.assign (VEv.int .i64 (-1))) (nt (rt (tr (vi (n':=(-1)) rfl ?_))))
  exact SzI.early fhc0
 refine sk (tn (sq (sr (fO (OF.assign (VEv.int .i64 0)) (nt (VRun.block ?_))))))
 refine VRun.loop (A:=Nat×Int) (fun s_=> [(0,(rd 4 Qm a)),(1,(tI s_.2)),(5,(tN s_.1))]) (fun s_=>Q0 []) 0 (fun s_=>SzI Zk a left s_.1 s_.2) (fun s_=>a.length - s_.1) ((0,left - (a.length:Int)):Nat×Int) ?_ (Wk.mk (fun k=>k) ?_ ?_ ?_) ?_
 ·exact SzI.start h1 fhc0
 ·exact (b2 (bc ⟨(congrArg (T.int .i64) (show (left - ((a.length:Nat):Int))=(left - (a.length:Int)) from (by rfl))),rfl⟩ (b2 bn)))
 ·exact bn
 ·exact nd rfl
 rintro ⟨i,r⟩ (hI':SzI Zk a left i r)
 show VRun _ _ _ [(0,(rd 4 Qm a)),(1,(tI r)),(5,(tN i))] (Q0 []) 0 _
 have hI2:=hI'.1
 have hI3:=hI'.2.1
 have hI4:=hI'.2.2.1
 refine sq (sr (mO (tN i) rfl (mO (rd 4 Qm a) rfl (lO (B.lenR (m:=a.length) (tv (rd 4 Qm a) rfl) U77 (List.length_map ..)) (fO (Ze (tv (tN i) rfl) (tv (tN a.length) rfl)) (nt ?_))))))
 refine cd (i<a.length) rfl (fun fhc1=> ?_) fun fhc1=> ?_
 ·refine sk ?_
  refine tn (sq (VRun.block (sr (mO (rd 4 Qm a) rfl (mO (tN i) rfl ?_)))))
  obtain ⟨x1,hx1⟩:∃x,a[i]? =some x:=⟨_,List.getElem?_eq_getElem (by omega)⟩
  refine fO (OF.indexAddrR (row:=(Qm false x1)) (i:=i) (tv (rd 4 Qm a) rfl) (tv (tN i) rfl) rfl (Qw _ hx1) U77 QhM QkA) (lO (OL.loadRn (us:=(Qm false x1)) (tv (T.rp (Qm false x1)) rfl) QkD QhM (lb rfl) rfl) (mO (tI r) rfl (cO (cS (vc (tv (T.agg (Qm false x1)) rfl) (vc (tv (tI r) rfl) vn)) (LendL.cons (lg okeStep) (lp rfl ln)) (Qez (n+0) x1 r (by assumption) (by assumption) (by exact hg2 _ (List.mem_of_getElem? hx1))) rfl rfl) (aO (tI (Zr (Zk x1) r)) rfl (nt (sr (mO (tI (Zr (Zk x1) r)) rfl (fO (xls (tv (tI (Zr (Zk x1) r)) rfl) (VEv.int .i64 0)) (nt ?_)))))))))
  refine cd (Zr (Zk x1) r<0) rfl (fun fhc2=> ?_) fun fhc2=> ?_
  ·refine sr ?_
   refine fO (OF.assign (VEv.int .i64 (-1))) (nt (rt (vinB.r (tr (tr (vinB.r (tr (vi (n':=(-1)) rfl ?_))))))))
   exact hI'.bad hx1 fhc2
  refine sk (vinB.n (tn (VRun.region (mO (tN i) rfl (fO (QA (tv (tN i) rfl) (VEv.int .i64 1) (by omega)) (aO (tN (i+1)) rfl (VRunO.nil (tn ?_))))))))
  refine ⟨((i+1,Zr (Zk x1) r):Nat×Int),?_,?_,Wk.mk (fun k=>k) ?_ ?_ ?_⟩
  ·exact hI'.next hx1 fhc2
  ·omega
  ·exact (b2 (b2 (b2 bn)))
  ·exact bn
  ·exact nd rfl
 refine VRun.exit (vthn.e (vthn.e (vinB.e (tn (sr (mO (tI r) rfl (aO (tI r) rfl (nt (rt (vi (n':=r) rfl ?_))))))))))
 exact hI'.done fhc1
theorem QeK (n:Nat) (a:D.Clue) (left:Int) (h0:0≤left) (h1:left≤(mx:Int)) (hg:QhY a):Pure (Qo Tryz.prog (n+3)) 49 [(T.agg (Qi false a)),(tI left)] (tI (Zr (QO a) left)):=by
 refine Pure.intro (rs:= [ResultVar.tmp 4]) Tryz.func49 rfl rfl rfl (E0:= [(0,(T.agg (Qi false a))),(1,(tI left))]) rfl ?_
 obtain ⟨hlim,hmx,hmax⟩:=QF
 obtain ⟨hg0,hg1⟩:=hg
 refine sr (kO (B.box (ts:=(Qi false a)) (tv (T.agg (Qi false a)) rfl) nofun rfl) (fO (OF.assign (VEv.int .i64 0)) (nt (sr (lf (rd 4 Qm a.Play) rfl QiN rfl rfl Ql2 (mO (tI left) rfl (cO (cS (vc (tv (rd 4 Qm a.Play) rfl) (vc (tv (tI left) rfl) vn)) (ZQ rfl) (Qd6 (n+0) a.Play left (by assumption) (by assumption) (by assumption)) rfl rfl) (aO (tI (Zr (zL Zk a.Play) left)) rfl (nt (sq (sr ?_)))))))))))
 refine mO (tI (Zr (zL Zk a.Play) left)) rfl (fO (xls (tv (tI (Zr (zL Zk a.Play) left)) rfl) (VEv.int .i64 0)) (nt ?_))
 refine cd (Zr (zL Zk a.Play) left<0) rfl (fun fhc0=> ?_) fun fhc0=> ?_
 ·refine sr ?_
  refine fO (OF.assign (VEv.int .i64 (-1))) (nt (rt (tr (vi (n':=(-1)) rfl ?_))))
  exact YT (by have hlt:=QcE fhc0;simp only [QO];omega)
 have hq0:=Y4 fhc0
 refine sk (tn (sr (mO (tI (Zr (zL Zk a.Play) left)) rfl (aO (tI (Zr (zL Zk a.Play) left)) rfl (nt (rt (vi (n':=Zr (zL Zk a.Play) left) rfl ?_)))))))
 rw [← Qbt (z:=QO a) (l:=left) (by simp only [QO];omega)]
 all_goals (simp only [QO];omega)
theorem Qea (n:Nat) (a:List D.Clue) (left:Int) (h0:0≤left) (h1:left≤(mx:Int)) (hg:a.length≤maxLen∧∀x∈a,QhY x):Pure (Qo Tryz.prog (n+4)) 27 [(rd 2 Qi a),(tI left)] (tI (Zr (zL QO a) left)):=by
 refine Pure.intro (rs:= [ResultVar.tmp 4]) Tryz.func27 rfl rfl rfl (E0:= [(0,(rd 2 Qi a)),(1,(tI left))]) rfl ?_
 obtain ⟨hlim,hmx,hmax⟩:=QF
 obtain ⟨hg1,hg2⟩:=hg
 refine sr (fO (OF.assign (VEv.int .i64 0)) (nt (sr (mO (tI left) rfl (mO (rd 2 Qi a) rfl (lO (B.lenR (m:=a.length) (tv (rd 2 Qi a) rfl) U24 (List.length_map ..)) (fO (B.sub (n:=(left - ((a.length:Nat):Int))) (tv (tI left) rfl) (tv (tN a.length) rfl) (by (rw [Qs (by omega)];done))) (aO (tI (left - ((a.length:Nat):Int))) rfl (nt (sq (sr ?_)))))))))))
 refine mO (tI (left - ((a.length:Nat):Int))) rfl (fO (xls (tv (tI (left - ((a.length:Nat):Int))) rfl) (VEv.int .i64 0)) (nt ?_))
 refine cd ((left - ((a.length:Nat):Int))<0) rfl (fun fhc0=> ?_) fun fhc0=> ?_
 ·refine sr ?_
  refine fO (OF.assign (VEv.int .i64 (-1))) (nt (rt (tr (vi (n':=(-1)) rfl ?_))))
  exact SzI.early fhc0
 refine sk (tn (sq (sr (fO (OF.assign (VEv.int .i64 0)) (nt (VRun.block ?_))))))
 refine VRun.loop (A:=Nat×Int) (fun s_=> [(0,(rd 2 Qi a)),(1,(tI s_.2)),(5,(tN s_.1))]) (fun s_=>Q0 []) 0 (fun s_=>SzI QO a left s_.1 s_.2) (fun s_=>a.length - s_.1) ((0,left - (a.length:Int)):Nat×Int) ?_ (Wk.mk (fun k=>k) ?_ ?_ ?_) ?_
 ·exact SzI.start h1 fhc0
 ·exact (b2 (bc ⟨(congrArg (T.int .i64) (show (left - ((a.length:Nat):Int))=(left - (a.length:Int)) from (by rfl))),rfl⟩ (b2 bn)))
 ·exact bn
 ·exact nd rfl
 rintro ⟨i,r⟩ (hI':SzI QO a left i r)
 show VRun _ _ _ [(0,(rd 2 Qi a)),(1,(tI r)),(5,(tN i))] (Q0 []) 0 _
 have hI2:=hI'.1
 have hI3:=hI'.2.1
 have hI4:=hI'.2.2.1
 refine sq (sr (mO (tN i) rfl (mO (rd 2 Qi a) rfl (lO (B.lenR (m:=a.length) (tv (rd 2 Qi a) rfl) U24 (List.length_map ..)) (fO (Ze (tv (tN i) rfl) (tv (tN a.length) rfl)) (nt ?_))))))
 refine cd (i<a.length) rfl (fun fhc1=> ?_) fun fhc1=> ?_
 ·refine sk ?_
  refine tn (sq (VRun.block (sr (mO (rd 2 Qi a) rfl (mO (tN i) rfl ?_)))))
  obtain ⟨x1,hx1⟩:∃x,a[i]? =some x:=⟨_,List.getElem?_eq_getElem (by omega)⟩
  refine fO (OF.indexAddrR (row:=(Qi false x1)) (i:=i) (tv (rd 2 Qi a) rfl) (tv (tN i) rfl) rfl (Qw _ hx1) U24 Qkp QlS) (lO (OL.loadRn (us:=(Qi false x1)) (tv (T.rp (Qi false x1)) rfl) QlU Qkp (lb rfl) rfl) (mO (tI r) rfl (cO (cS (vc (tv (T.agg (Qi false x1)) rfl) (vc (tv (tI r) rfl) vn)) (LendL.cons (lg okeClue) (lp rfl ln)) (QeK (n+0) x1 r (by assumption) (by assumption) (by exact hg2 _ (List.mem_of_getElem? hx1))) rfl rfl) (aO (tI (Zr (QO x1) r)) rfl (nt (sr (mO (tI (Zr (QO x1) r)) rfl (fO (xls (tv (tI (Zr (QO x1) r)) rfl) (VEv.int .i64 0)) (nt ?_)))))))))
  refine cd (Zr (QO x1) r<0) rfl (fun fhc2=> ?_) fun fhc2=> ?_
  ·refine sr ?_
   refine fO (OF.assign (VEv.int .i64 (-1))) (nt (rt (vinB.r (tr (tr (vinB.r (tr (vi (n':=(-1)) rfl ?_))))))))
   exact hI'.bad hx1 fhc2
  refine sk (vinB.n (tn (VRun.region (mO (tN i) rfl (fO (QA (tv (tN i) rfl) (VEv.int .i64 1) (by omega)) (aO (tN (i+1)) rfl (VRunO.nil (tn ?_))))))))
  refine ⟨((i+1,Zr (QO x1) r):Nat×Int),?_,?_,Wk.mk (fun k=>k) ?_ ?_ ?_⟩
  ·exact hI'.next hx1 fhc2
  ·omega
  ·exact (b2 (b2 (b2 bn)))
  ·exact bn
  ·exact nd rfl
 refine VRun.exit (vthn.e (vthn.e (vinB.e (tn (sr (mO (tI r) rfl (aO (tI r) rfl (nt (rt (vi (n':=r) rfl ?_))))))))))
 exact hI'.done fhc1
theorem Qc4 (n:Nat) (a:D.Puzzle) (left:Int) (h0:0≤left) (h1:left≤(mx:Int)) (hg:QfP a):Pure (Qo Tryz.prog (n+5)) 6 [(T.agg (Qv false a)),(tI left)] (tI (Zr (QI a) left)):=by
 refine Pure.intro (rs:= [ResultVar.tmp 4]) Tryz.func6 rfl rfl rfl (E0:= [(0,(T.agg (Qv false a))),(1,(tI left))]) rfl ?_
 obtain ⟨hlim,hmx,hmax⟩:=QF
 obtain ⟨hg0,hg1,hg2,hg3⟩:=hg
 refine sr (kO (B.box (ts:=(Qv false a)) (tv (T.agg (Qv false a)) rfl) nofun rfl) (fO (OF.assign (VEv.int .i64 0)) (nt (sr (fO (OF.fieldAddrO (tv (T.op 0 0) rfl) QjK) (lO (OL.loadOn (us:=(Qb false a.Grid)) (tv (T.op 0 0) rfl) rfl Qmb QkX (lb rfl) rfl) (mO (tI left) rfl (cO (cS (vc (tv (T.agg (Qb false a.Grid)) rfl) (vc (tv (tI left) rfl) vn)) (LendL.cons (lg Qq) (lp rfl ln)) (QeL (n+3) a.Grid left (by first | assumption | omega) (by first | assumption | omega) (by first | assumption | omega)) rfl rfl) (aO (tI (Zr (Zp a.Grid) left)) rfl (nt (sq ?_)))))))))))
 refine sr (mO (tI (Zr (Zp a.Grid) left)) rfl (fO (xls (tv (tI (Zr (Zp a.Grid) left)) rfl) (VEv.int .i64 0)) (nt ?_)))
 refine cd (Zr (Zp a.Grid) left<0) rfl (fun fhc0=> ?_) fun fhc0=> ?_
 ·refine sr ?_
  refine fO (OF.assign (VEv.int .i64 (-1))) (nt (rt (tr (vi (n':=(-1)) rfl ?_))))
  exact YT (by have hlt:=QcE fhc0;simp only [QI];omega)
 have hq0:=Y4 fhc0
 refine sk (tn (sr (lf (rd 2 Qi a.Clues) rfl Qjg rfl rfl Qmf (mO (tI (Zr (Zp a.Grid) left)) rfl (cO (cS (vc (tv (rd 2 Qi a.Clues) rfl) (vc (tv (tI (Zr (Zp a.Grid) left)) rfl) vn)) (ZQ rfl) (Qea (n+0) a.Clues (Zr (Zp a.Grid) left) (by first | assumption | omega) (by first | assumption | omega) (by first | assumption | omega)) rfl rfl) (aO (tI (Zr (zL QO a.Clues) (Zr (Zp a.Grid) left))) rfl (nt (sq (sr (mO (tI (Zr (zL QO a.Clues) (Zr (Zp a.Grid) left))) rfl (fO (xls (tv (tI (Zr (zL QO a.Clues) (Zr (Zp a.Grid) left))) rfl) (VEv.int .i64 0)) ?_)))))))))))
 refine nt ?_
 refine cd (Zr (zL QO a.Clues) (Zr (Zp a.Grid) left)<0) rfl (fun fhc1=> ?_) fun fhc1=> ?_
 ·refine sr ?_
  refine fO (OF.assign (VEv.int .i64 (-1))) (nt (rt (tr (vi (n':=(-1)) rfl ?_))))
  exact YT (by have hlt:=QcE fhc1;simp only [QI];omega)
 have hq1:=Y4 fhc1
 refine sk (tn (sr (lf (rd 1 Qc a.Seals) rfl QjM rfl rfl QcI (mO (tI (Zr (zL QO a.Clues) (Zr (Zp a.Grid) left))) rfl (cO (cS (vc (tv (rd 1 Qc a.Seals) rfl) (vc (tv (tI (Zr (zL QO a.Clues) (Zr (Zp a.Grid) left))) rfl) vn)) (ZQ rfl) (Qev (n+3) a.Seals (Zr (zL QO a.Clues) (Zr (Zp a.Grid) left)) (by first | assumption | omega) (by first | assumption | omega) (by first | assumption | omega)) rfl rfl) (aO (tI (Zr (zL zI a.Seals) (Zr (zL QO a.Clues) (Zr (Zp a.Grid) left)))) rfl (nt (sq (sr (mO (tI (Zr (zL zI a.Seals) (Zr (zL QO a.Clues) (Zr (Zp a.Grid) left)))) rfl (fO (xls (tv (tI (Zr (zL zI a.Seals) (Zr (zL QO a.Clues) (Zr (Zp a.Grid) left)))) rfl) (VEv.int .i64 0)) ?_)))))))))))
 refine nt ?_
 refine cd (Zr (zL zI a.Seals) (Zr (zL QO a.Clues) (Zr (Zp a.Grid) left))<0) rfl (fun fhc2=> ?_) fun fhc2=> ?_
 ·refine sr ?_
  refine fO (OF.assign (VEv.int .i64 (-1))) (nt (rt (tr (vi (n':=(-1)) rfl ?_))))
  exact YT (by have hlt:=QcE fhc2;simp only [QI];omega)
 have hq2:=Y4 fhc2
 refine sk (tn (sr (mO (tI (Zr (zL zI a.Seals) (Zr (zL QO a.Clues) (Zr (Zp a.Grid) left)))) rfl (aO (tI (Zr (zL zI a.Seals) (Zr (zL QO a.Clues) (Zr (Zp a.Grid) left)))) rfl (nt (rt (vi (n':=Zr (zL zI a.Seals) (Zr (zL QO a.Clues) (Zr (Zp a.Grid) left))) rfl ?_)))))))
 rw [← Qbt (z:=QI a) (l:=left) (by simp only [QI];omega)]
 all_goals first | rfl | (simp only [QI];done) | (simp only [QI];omega)
theorem QdN (n:Nat) (a:D.Issue) (left:Int) (h0:0≤left) (h1:left≤(mx:Int)) (hg:Qhr a):Pure (Qo Tryz.prog (n+6)) 15 [(T.agg (QE false a)),(tI left)] (tI (Zr (Zd a) left)):=by
 refine Pure.intro (rs:= [ResultVar.tmp 4]) Tryz.func15 rfl rfl rfl (E0:= [(0,(T.agg (QE false a))),(1,(tI left))]) rfl ?_
 obtain ⟨hlim,hmx,hmax⟩:=QF
 obtain ⟨hg0,hg1,hg2,hg3,hg4⟩:=hg
 refine sr (kO (B.box (ts:=(QE false a)) (tv (T.agg (QE false a)) rfl) nofun rfl) (fO (OF.assign (VEv.int .i64 0)) (nt (sr (fO (OF.fieldAddrO (tv (T.op 0 0) rfl) QjF) (lO (OL.loadOn (us:=(Qv false a.Puzzle)) (tv (T.op 0 1) rfl) rfl Qme Qlk (lb rfl) rfl) (mO (tI left) rfl (cO (cS (vc (tv (T.agg (Qv false a.Puzzle)) rfl) (vc (tv (tI left) rfl) vn)) (LendL.cons (lg Yh) (lp rfl ln)) (Qc4 (n+0) a.Puzzle left (by first | assumption | omega) (by first | assumption | omega) (by first | assumption | omega)) rfl rfl) (aO (tI (Zr (QI a.Puzzle) left)) rfl (nt (sq ?_)))))))))))
 refine sr (mO (tI (Zr (QI a.Puzzle) left)) rfl (fO (xls (tv (tI (Zr (QI a.Puzzle) left)) rfl) (VEv.int .i64 0)) (nt ?_)))
 refine cd (Zr (QI a.Puzzle) left<0) rfl (fun fhc0=> ?_) fun fhc0=> ?_
 ·refine sr ?_
  refine fO (OF.assign (VEv.int .i64 (-1))) (nt (rt (tr (vi (n':=(-1)) rfl ?_))))
  exact YT (by have hlt:=QcE fhc0;simp only [Zd];omega)
 have hq0:=Y4 fhc0
 refine sk (tn (sr (mO (tI (Zr (QI a.Puzzle) left)) rfl (lf (tS a.Fill) rfl Qi3 rfl rfl ZN (lO (B.lenS (tv (tS a.Fill) rfl) U9) (fO (B.sub (n:=(Zr (QI a.Puzzle) left - ((a.Fill.size:Nat):Int))) (tv (tI (Zr (QI a.Puzzle) left)) rfl) (tv (tN a.Fill.size) rfl) (by first | rfl | (rw [Qs (by omega)];omega) | (rw [Qs (by omega)];done))) (aO (tI (Zr (QI a.Puzzle) left - ((a.Fill.size:Nat):Int))) rfl (nt (sq (sr (mO (tI (Zr (QI a.Puzzle) left - ((a.Fill.size:Nat):Int))) rfl ?_)))))))))))
 refine fO (xls (tv (tI (Zr (QI a.Puzzle) left - ((a.Fill.size:Nat):Int))) rfl) (VEv.int .i64 0)) (nt ?_)
 refine cd ((Zr (QI a.Puzzle) left - ((a.Fill.size:Nat):Int))<0) rfl (fun fhc1=> ?_) fun fhc1=> ?_
 ·refine sr ?_
  refine fO (OF.assign (VEv.int .i64 (-1))) (nt (rt (tr (vi (n':=(-1)) rfl ?_))))
  exact YT (by simp only [Zd];omega)
 refine sk (tn (sr (mO (tI (Zr (QI a.Puzzle) left - ((a.Fill.size:Nat):Int))) rfl (aO (tI (Zr (QI a.Puzzle) left - ((a.Fill.size:Nat):Int))) rfl (nt (rt (vi (n':=(Zr (QI a.Puzzle) left - ((a.Fill.size:Nat):Int))) rfl ?_)))))))
 rw [← Qbt (z:=Zd a) (l:=left) (by simp only [Zd];omega)]
 all_goals first | rfl | (simp only [Zd];done) | (simp only [Zd];omega)
end Go.Proofs.YthifchndolccgaaGreatDoor.AE
namespace Go.Proofs.YthifchndolccgaaGreatDoor.AE
open Go Go.RowKit
set_option linter.unusedVariables false
set_option linter.unusedSimpArgs false
set_option maxRecDepth 20000
set_option maxHeartbeats 2000000
theorem Qes (n:Nat) (a:List Int) (ha:a.length≤mx):Pure (Qo Tryz.prog (n+1)) 34 [(rd 1 Qc a)] (T.sl true 1 (a.map (Qc true))):=by
 refine Pure.intro (rs:= [ResultVar.tmp 2]) Tryz.func34 rfl rfl rfl (E0:= [(0,(rd 1 Qc a))]) rfl ?_
 obtain ⟨hlim,hmx,hmax⟩:=QF
 refine sr (fO (OF.assign VEv.nils) (nt (sr (mO (rd 1 Qc a) rfl (lO (B.lenR (m:=a.length) (tv (rd 1 Qc a) rfl) ZL (List.length_map ..)) (kO (B.makeZ (n:=a.length) (m:=((List.replicate a.length 0).map (Qc true)).length) (rows:=((List.replicate a.length 0).map (Qc true))) (zr:=(Qc true 0)) (tv (tN a.length) rfl) (tv (tN a.length) rfl) rfl ZL zo3 zc3 rfl (by rw [Zv];decide) (by first | omega | (simp only [List.length_map];omega) | (simp only [List.length_map,List.length_append,List.length_cons,List.length_nil,List.length_replicate,List.length_set,List.length_drop,List.length_take,YD] at *;omega)) (of_decide_eq_true (by kernel_rfl)) (Z0.int Z0.nil) Zv (List.map_replicate ..).symm (by rw [List.length_map,List.length_replicate])) (aO (T.os 1 0 0 (((List.replicate a.length 0).map (Qc true)).length)) rfl (nt (sq (sr (fO (OF.assign (VEv.int .i64 0)) ?_)))))))))))
 refine nt (VRun.block ?_)
 have he1:(List.replicate a.length 0)=(a.take 0++List.replicate (a.length - 0) 0):=by first | rfl | (exact QaM hx1) | (simp;done) | omega
 refine VRun.loop (A:=Nat) (fun s_=> [(0,(rd 1 Qc a)),(2,T.nils),(3,(T.os 1 0 0 (((a.take s_++List.replicate (a.length - s_) 0).map (Qc true)).length))),(4,(tN s_))]) (fun s_=>Q0 [(0,(Obj.rows 1 ((a.take s_++List.replicate (a.length - s_) 0).map (Qc true))))]) 1 (fun s_=>s_≤a.length) (fun s_=>a.length - s_) (0:Nat) ?_ (Wk.mk (fun k=>k) ?_ ?_ ?_) ?_
 ·first | trivial | (simp;done) | omega | (constructor<;>simp)
 ·exact (b2 (b2 (bc ⟨(congrArg (fun l_=>T.os 1 0 0 (List.map (Qc true) l_).length) he1),rfl⟩ (b2 bn))))
 ·exact (bc ⟨(congrArg (fun l_=>some (Obj.rows 1 (List.map (Qc true) l_))) he1),(lb rfl),rfl⟩ bn)
 ·exact nd rfl
 rintro i (hI':i≤a.length)
 show VRun _ _ _ [(0,(rd 1 Qc a)),(2,T.nils),(3,(T.os 1 0 0 (((a.take i++List.replicate (a.length - i) 0).map (Qc true)).length))),(4,(tN i))] (Q0 [(0,(Obj.rows 1 ((a.take i++List.replicate (a.length - i) 0).map (Qc true))))]) 1 _
 have hfl:=QfN (w:=0) hI'
 refine sq (sr (mO (tN i) rfl (mO (rd 1 Qc a) rfl (lO (B.lenR (m:=a.length) (tv (rd 1 Qc a) rfl) ZL (List.length_map ..)) (fO (Ze (tv (tN i) rfl) (tv (tN a.length) rfl)) (nt ?_))))))
 refine cd (i<a.length) rfl (fun fhc0=> ?_) fun fhc0=> ?_
 ·refine sk ?_
  refine tn (sq (VRun.block (VRun.region (mO (T.os 1 0 0 (((a.take i++List.replicate (a.length - i) 0).map (Qc true)).length)) rfl (mO (tN i) rfl (mO (rd 1 Qc a) rfl (mO (tN i) rfl ?_)))))))
  obtain ⟨x1,hx1⟩:∃x,a[i]? =some x:=⟨_,List.getElem?_eq_getElem (by omega)⟩
  refine fO (OF.indexAddrR (row:=(Qc false x1)) (i:=i) (tv (rd 1 Qc a) rfl) (tv (tN i) rfl) rfl (Qw _ hx1) ZL Zv Y7) (lO (OL.loadR1 (t:=(tI x1)) (tv (T.rp [(tI x1)]) rfl) rfl QV) ?_)
  obtain ⟨x2,hx2⟩:∃x,(a.take i++List.replicate (a.length - i) 0)[i]? =some x:=⟨_,List.getElem?_eq_getElem (by first | omega | (simp only [List.length_map];omega) | (simp only [List.length_map,List.length_append,List.length_cons,List.length_nil,List.length_replicate,List.length_set,List.length_drop,List.length_take,YD] at *;omega))⟩
  refine fO (B.indexAddrO (i:=i) (tv (T.os 1 0 0 (((a.take i++List.replicate (a.length - i) 0).map (Qc true)).length)) rfl) (tv (tN i) rfl) rfl (by first | omega | (simp only [List.length_map];omega) | (simp only [List.length_map,List.length_append,List.length_cons,List.length_nil,List.length_replicate,List.length_set,List.length_drop,List.length_take,YD] at *;omega)) ZL Zv Y7) (cO (B.storeP (us:= [(tI x1)]) (rows':=(((a.take i++List.replicate (a.length - i) 0).set i x1).map (Qc true))) (row:=(Qc true x2)) (tv (T.orp 1 0 i 0) rfl) (tv (tI x1) rfl) nofun rfl (Qw _ hx2) rfl (lb rfl) Y7 Zv (bc rfl bn) (by intro r hr t ht;obtain ⟨x,_,rfl⟩:=List.mem_map.1 hr;rw [Qmi] at ht;exact Yg (okInt.pl _ t ht)) (Yu rfl)) (VRunO.nil (vinB.n (tn (VRun.region (mO (tN i) rfl (fO (QA (tv (tN i) rfl) (VEv.int .i64 1) (by omega)) (aO (tN (i+1)) rfl (VRunO.nil (tn ?_))))))))))
  have he2:((a.take i++List.replicate (a.length - i) 0).set i x1)=(a.take (i+1)++List.replicate (a.length - (i+1)) 0):=by first | rfl | (exact QaM hx1) | (simp;done) | omega
  refine ⟨(i+1:Nat),?_,?_,Wk.mk (fun k=>k) ?_ ?_ ?_⟩
  ·first | trivial | omega | (simp;done) | exact ⟨by omega,hI'.2⟩
  ·first | omega | (simp only [];omega) | (show _<_;omega) | (simp;omega)
  ·exact (b2 (b2 (bc ⟨(congrArg (fun n_=>T.os 1 0 0 n_) (show ((a.take i++List.replicate (a.length - i) 0).map (Qc true)).length=((a.take (i+1)++List.replicate (a.length - (i+1)) 0).map (Qc true)).length from (by first | rfl | (simp only [List.length_map];omega) | (simp only [List.length_map,List.length_set,List.length_append,List.length_take,List.length_replicate,List.length_cons,List.length_nil];omega)))),rfl⟩ (b2 bn))))
  ·exact (bc ⟨(congrArg (fun l_=>some (Obj.rows 1 (List.map (Qc true) l_))) he2),(lb rfl),rfl⟩ bn)
  ·exact nd rfl
 refine VRun.exit (vthn.e (vthn.e (vinB.e (tn (sr (mO (T.os 1 0 0 (((a.take i++List.replicate (a.length - i) 0).map (Qc true)).length)) rfl (aO (T.os 1 0 0 (((a.take i++List.replicate (a.length - i) 0).map (Qc true)).length)) rfl (nt (rt ?_)))))))))
 refine vfin.eq (r':=(T.sl true 1 ((a.take i++List.replicate (a.length - i) 0).map (Qc true)))) ?_ (vfin.r (VRes.tmp (t:=(T.os 1 0 0 (((a.take i++List.replicate (a.length - i) 0).map (Qc true)).length))) rfl VRes.nil) (Give.os rfl rfl (okInt.cleanMap _)))
 refine congrArg (fun l_=>T.sl true 1 (List.map (Qc true) l_)) ?_
 exact Qce fhc0
theorem QeD (n:Nat) (a:D.Grid):Pure (Qo Tryz.prog (n+1)) 32 [(T.agg (Qb false a))] (T.agg (Qb true a)):=by
 refine Pure.intro (rs:= [ResultVar.cell 2 33]) Tryz.func32 rfl rfl rfl (E0:= [(0,(T.agg (Qb false a)))]) rfl ?_
 obtain ⟨hlim,hmx,hmax⟩:=QF
 refine sr (kO (B.box (ts:=(Qb false a)) (tv (T.agg (Qb false a)) rfl) nofun rfl) (kO (B.alloc (t:=(T.agg [(tN 0),(tN 0),(tS ByteArray.empty)])) (ts:= [(tN 0),(tN 0),(tS ByteArray.empty)]) Qia Qj8 nofun (fun _=> .agg _ _ rfl (Y8 (RL.cons (.int _ _) (RL.cons (.int _ _) (RL.cons (.str _) (RL.nil _)))))) rfl) (nt (sr (kO (B.alloc (t:=(T.agg [(tN 0),(tN 0),(tS ByteArray.empty)])) (ts:= [(tN 0),(tN 0),(tS ByteArray.empty)]) Qia Qj8 nofun (fun _=> .agg _ _ rfl (Y8 (RL.cons (.int _ _) (RL.cons (.int _ _) (RL.cons (.str _) (RL.nil _)))))) rfl) (nt (sr (lf (tI a.Rows) rfl Qk3 rfl rfl QV (fO (OF.fieldAddrO (tv (T.op 2 0) rfl) JG) (cO (B.storeO (us:= [(tI a.Rows)]) (ws:= [(tI a.Rows),(tN 0),(tS ByteArray.empty)]) (tv (T.op 2 0) rfl) (tv (tI a.Rows) rfl) nofun rfl rfl (lb rfl) Y7 Zv (bc rfl bn) rfl) (nt ?_)))))))))))
 refine sr (lf (tI a.Cols) rfl Qk6 rfl rfl QV (fO (OF.fieldAddrO (tv (T.op 2 0) rfl) Za) (cO (B.storeO (us:= [(tI a.Cols)]) (ws:= [(tI a.Rows),(tI a.Cols),(tS ByteArray.empty)]) (tv (T.op 2 1) rfl) (tv (tI a.Cols) rfl) nofun rfl rfl (lb rfl) Y7 Zv (bc rfl bn) rfl) (nt (sr (lf (tS a.Cells) rfl Qjn rfl rfl ZN (fO (OF.fieldAddrO (tv (T.op 2 0) rfl) Qy) (cO (B.storeO (us:= [(tS a.Cells)]) (ws:= [(tI a.Rows),(tI a.Cols),(tS a.Cells)]) (tv (T.op 2 2) rfl) (tv (tS a.Cells) rfl) nofun rfl rfl (lb rfl) if9 sz9 (bc rfl bn) rfl) (nt (sr (lO (OL.loadOn (us:=(Qb false a)) (tv (T.op 2 0) rfl) rfl QP QN (lb rfl) rfl) ?_)))))))))))
 refine cO (B.storeW (us:=(Qb false a)) (tv (T.op 1 0) rfl) (tv (T.agg (Qb false a)) rfl) nofun rfl rfl rfl Qhd QN (bc rfl (bc rfl (bc rfl bn)))) (nt (rt ?_))
 refine vfin.eq (r':=(T.agg (Qb false a))) ?_ (vfin.r (VRes.celln (ws:=(Qb false a)) rfl rfl QP QN (lb rfl) rfl VRes.nil) (Give.agg (GiveL.cons (Give.int _ _) (GiveL.cons (Give.int _ _) (GiveL.cons (Give.str _) GiveL.nil (by decide)) (by decide)) (by decide))))
 rfl
theorem QeJ (n:Nat) (a:D.Step):Pure (Qo Tryz.prog (n+1)) 102 [(T.agg (Qm false a))] (T.agg (Qm true a)):=by
 refine Pure.intro (rs:= [ResultVar.cell 2 105]) Tryz.func102 rfl rfl rfl (E0:= [(0,(T.agg (Qm false a)))]) rfl ?_
 obtain ⟨hlim,hmx,hmax⟩:=QF
 refine sr (kO (B.box (ts:=(Qm false a)) (tv (T.agg (Qm false a)) rfl) nofun rfl) (kO (B.alloc (t:=(T.agg [(tN 0),(tS ByteArray.empty),(tN 0),(tN 0)])) (ts:= [(tN 0),(tS ByteArray.empty),(tN 0),(tN 0)]) QfZ QgI nofun (fun _=> .agg _ _ rfl (Y8 (RL.cons (.int _ _) (RL.cons (.str _) (RL.cons (.int _ _) (RL.cons (.int _ _) (RL.nil _))))))) rfl) (nt (sr (kO (B.alloc (t:=(T.agg [(tN 0),(tS ByteArray.empty),(tN 0),(tN 0)])) (ts:= [(tN 0),(tS ByteArray.empty),(tN 0),(tN 0)]) QfZ QgI nofun (fun _=> .agg _ _ rfl (Y8 (RL.cons (.int _ _) (RL.cons (.str _) (RL.cons (.int _ _) (RL.cons (.int _ _) (RL.nil _))))))) rfl) (nt (sr (lf (tI a.Kind) rfl Qkd rfl rfl QV (fO (OF.fieldAddrO (tv (T.op 2 0) rfl) Q2) (cO (B.storeO (us:= [(tI a.Kind)]) (ws:= [(tI a.Kind),(tS ByteArray.empty),(tN 0),(tN 0)]) (tv (T.op 2 0) rfl) (tv (tI a.Kind) rfl) nofun rfl rfl (lb rfl) Y7 Zv (bc rfl bn) rfl) (nt ?_)))))))))))
 refine sr (lf (tS a.Word) rfl QhB rfl rfl ZN (fO (OF.fieldAddrO (tv (T.op 2 0) rfl) Qag) (cO (B.storeO (us:= [(tS a.Word)]) (ws:= [(tI a.Kind),(tS a.Word),(tN 0),(tN 0)]) (tv (T.op 2 1) rfl) (tv (tS a.Word) rfl) nofun rfl rfl (lb rfl) if9 sz9 (bc rfl bn) rfl) (nt (sr (lf (tI a.A) rfl Qkg rfl rfl QV (fO (OF.fieldAddrO (tv (T.op 2 0) rfl) Ys) (cO (B.storeO (us:= [(tI a.A)]) (ws:= [(tI a.Kind),(tS a.Word),(tI a.A),(tN 0)]) (tv (T.op 2 2) rfl) (tv (tI a.A) rfl) nofun rfl rfl (lb rfl) Y7 Zv (bc rfl bn) rfl) (nt (sr (lf (tI a.B) rfl Qku rfl rfl QV ?_)))))))))))
 refine fO (OF.fieldAddrO (tv (T.op 2 0) rfl) Z2) (cO (B.storeO (us:= [(tI a.B)]) (ws:= [(tI a.Kind),(tS a.Word),(tI a.A),(tI a.B)]) (tv (T.op 2 3) rfl) (tv (tI a.B) rfl) nofun rfl rfl (lb rfl) Y7 Zv (bc rfl bn) rfl) (nt (sr (lO (OL.loadOn (us:=(Qm false a)) (tv (T.op 2 0) rfl) rfl Qfb Yn (lb rfl) rfl) (cO (B.storeW (us:=(Qm false a)) (tv (T.op 1 0) rfl) (tv (T.agg (Qm false a)) rfl) nofun rfl rfl rfl Qas Yn (bc rfl (bc rfl (bc rfl (bc rfl bn))))) (nt (rt ?_)))))))
 refine vfin.eq (r':=(T.agg (Qm false a))) ?_ (vfin.r (VRes.celln (ws:=(Qm false a)) rfl rfl Qfb Yn (lb rfl) rfl VRes.nil) (Give.agg (GiveL.cons (Give.int _ _) (GiveL.cons (Give.str _) (GiveL.cons (Give.int _ _) (GiveL.cons (Give.int _ _) GiveL.nil (by decide)) (by decide)) (by decide)) (by decide))))
 rfl
theorem Qd0 (n:Nat) (a:List D.Step) (ha:a.length≤mx):Pure (Qo Tryz.prog (n+2)) 77 [(rd 4 Qm a)] (T.sl true 4 (a.map (Qm true))):=by
 refine Pure.intro (rs:= [ResultVar.tmp 2]) Tryz.func77 rfl rfl rfl (E0:= [(0,(rd 4 Qm a))]) rfl ?_
 obtain ⟨hlim,hmx,hmax⟩:=QF
 refine sr (fO (OF.assign VEv.nils) (nt (sr (mO (rd 4 Qm a) rfl (lO (B.lenR (m:=a.length) (tv (rd 4 Qm a) rfl) U77 (List.length_map ..)) (kO (B.makeZ (n:=a.length) (m:=((List.replicate a.length (D.Step.mk 0 ByteArray.empty 0 0)).map (Qm true)).length) (rows:=((List.replicate a.length (D.Step.mk 0 ByteArray.empty 0 0)).map (Qm true))) (zr:=(Qm true (D.Step.mk 0 ByteArray.empty 0 0))) (tv (tN a.length) rfl) (tv (tN a.length) rfl) rfl U72 QfZ QgI rfl (by rw [Yn];decide) (by omega) (of_decide_eq_true (by kernel_rfl)) (Z0.int (Z0.str (Z0.int (Z0.int Z0.nil)))) Yn (List.map_replicate ..).symm (by rw [List.length_map,List.length_replicate])) (aO (T.os 4 0 0 (((List.replicate a.length (D.Step.mk 0 ByteArray.empty 0 0)).map (Qm true)).length)) rfl (nt (sq (sr (fO (OF.assign (VEv.int .i64 0)) ?_)))))))))))
 refine nt (VRun.block ?_)
 have he1:(List.replicate a.length (D.Step.mk 0 ByteArray.empty 0 0))=(a.take 0++List.replicate (a.length - 0) (D.Step.mk 0 ByteArray.empty 0 0)):=by rfl
 refine VRun.loop (A:=Nat) (fun s_=> [(0,(rd 4 Qm a)),(2,T.nils),(3,(T.os 4 0 0 (((a.take s_++List.replicate (a.length - s_) (D.Step.mk 0 ByteArray.empty 0 0)).map (Qm true)).length))),(4,(tN s_))]) (fun s_=>Q0 [(0,(Obj.rows 4 ((a.take s_++List.replicate (a.length - s_) (D.Step.mk 0 ByteArray.empty 0 0)).map (Qm true))))]) 1 (fun s_=>s_≤a.length) (fun s_=>a.length - s_) (0:Nat) ?_ (Wk.mk (fun k=>k) ?_ ?_ ?_) ?_
 ·(simp;done)
 ·exact (b2 (b2 (bc ⟨(congrArg (fun l_=>T.os 4 0 0 (List.map (Qm true) l_).length) he1),rfl⟩ (b2 bn))))
 ·exact (bc ⟨(congrArg (fun l_=>some (Obj.rows 4 (List.map (Qm true) l_))) he1),(lb rfl),rfl⟩ bn)
 ·exact nd rfl
 rintro i (hI':i≤a.length)
 show VRun _ _ _ [(0,(rd 4 Qm a)),(2,T.nils),(3,(T.os 4 0 0 (((a.take i++List.replicate (a.length - i) (D.Step.mk 0 ByteArray.empty 0 0)).map (Qm true)).length))),(4,(tN i))] (Q0 [(0,(Obj.rows 4 ((a.take i++List.replicate (a.length - i) (D.Step.mk 0 ByteArray.empty 0 0)).map (Qm true))))]) 1 _
 have hfl:=QfN (w:=(D.Step.mk 0 ByteArray.empty 0 0)) hI'
 refine sq (sr (mO (tN i) rfl (mO (rd 4 Qm a) rfl (lO (B.lenR (m:=a.length) (tv (rd 4 Qm a) rfl) U77 (List.length_map ..)) (fO (Ze (tv (tN i) rfl) (tv (tN a.length) rfl)) (nt ?_))))))
 refine cd (i<a.length) rfl (fun fhc0=> ?_) fun fhc0=> ?_
 ·refine sk ?_
  refine tn (sq (VRun.block (VRun.region (mO (T.os 4 0 0 (((a.take i++List.replicate (a.length - i) (D.Step.mk 0 ByteArray.empty 0 0)).map (Qm true)).length)) rfl (mO (tN i) rfl (mO (rd 4 Qm a) rfl (mO (tN i) rfl ?_)))))))
  obtain ⟨x1,hx1⟩:∃x,a[i]? =some x:=⟨_,List.getElem?_eq_getElem (by omega)⟩
  refine fO (OF.indexAddrR (row:=(Qm false x1)) (i:=i) (tv (rd 4 Qm a) rfl) (tv (tN i) rfl) rfl (Qw _ hx1) U77 QhM QkA) (lO (OL.loadRn (us:=(Qm false x1)) (tv (T.rp (Qm false x1)) rfl) QkD QhM (lb rfl) rfl) (cO (cS (vc (tv (T.agg (Qm false x1)) rfl) vn) (LendL.cons (lg okeStep) ln) (QeJ (n+0) x1) rfl rfl) ?_))
  obtain ⟨x2,hx2⟩:∃x,(a.take i++List.replicate (a.length - i) (D.Step.mk 0 ByteArray.empty 0 0))[i]? =some x:=⟨_,List.getElem?_eq_getElem (by omega)⟩
  refine fO (B.indexAddrO (i:=i) (tv (T.os 4 0 0 (((a.take i++List.replicate (a.length - i) (D.Step.mk 0 ByteArray.empty 0 0)).map (Qm true)).length)) rfl) (tv (tN i) rfl) rfl (by (simp only [List.length_map];omega)) U72 Yn Qas) (cO (B.storeP (us:=(Qm true x1)) (rows':=(((a.take i++List.replicate (a.length - i) (D.Step.mk 0 ByteArray.empty 0 0)).set i x1).map (Qm true))) (row:=(Qm true x2)) (tv (T.orp 4 0 i 0) rfl) (tv (T.agg (Qm true x1)) rfl) nofun rfl (Qw _ hx2) rfl (lb rfl) Qas Yn (bc rfl (bc rfl (bc rfl (bc rfl bn)))) (by intro r hr t ht;obtain ⟨x,_,rfl⟩:=List.mem_map.1 hr;rw [Qlz] at ht;exact Yg (okeStep.pl _ t ht)) (Yu rfl)) (VRunO.nil (vinB.n (tn (VRun.region (mO (tN i) rfl (fO (QA (tv (tN i) rfl) (VEv.int .i64 1) (by omega)) (aO (tN (i+1)) rfl (VRunO.nil (tn ?_))))))))))
  have he2:((a.take i++List.replicate (a.length - i) (D.Step.mk 0 ByteArray.empty 0 0)).set i x1)=(a.take (i+1)++List.replicate (a.length - (i+1)) (D.Step.mk 0 ByteArray.empty 0 0)):=by exact QaM hx1
  refine ⟨(i+1:Nat),?_,?_,Wk.mk (fun k=>k) ?_ ?_ ?_⟩
  ·trivial
  ·omega
  ·exact (b2 (b2 (bc ⟨(congrArg (fun n_=>T.os 4 0 0 n_) (show ((a.take i++List.replicate (a.length - i) (D.Step.mk 0 ByteArray.empty 0 0)).map (Qm true)).length=((a.take (i+1)++List.replicate (a.length - (i+1)) (D.Step.mk 0 ByteArray.empty 0 0)).map (Qm true)).length from (by (simp only [List.length_map,List.length_set,List.length_append,List.length_take,List.length_replicate,List.length_cons,List.length_nil];omega)))),rfl⟩ (b2 bn))))
  ·exact (bc ⟨(congrArg (fun l_=>some (Obj.rows 4 (List.map (Qm true) l_))) he2),(lb rfl),rfl⟩ bn)
  ·exact nd rfl
 refine VRun.exit (vthn.e (vthn.e (vinB.e (tn (sr (mO (T.os 4 0 0 (((a.take i++List.replicate (a.length - i) (D.Step.mk 0 ByteArray.empty 0 0)).map (Qm true)).length)) rfl (aO (T.os 4 0 0 (((a.take i++List.replicate (a.length - i) (D.Step.mk 0 ByteArray.empty 0 0)).map (Qm true)).length)) rfl (nt (rt ?_)))))))))
 refine vfin.eq (r':=(T.sl true 4 ((a.take i++List.replicate (a.length - i) (D.Step.mk 0 ByteArray.empty 0 0)).map (Qm true)))) ?_ (vfin.r (VRes.tmp (t:=(T.os 4 0 0 (((a.take i++List.replicate (a.length - i) (D.Step.mk 0 ByteArray.empty 0 0)).map (Qm true)).length))) rfl VRes.nil) (Give.os rfl rfl (okeStep.cleanMap _)))
 refine congrArg (fun l_=>T.sl true 4 (List.map (Qm true) l_)) ?_
 exact Qce fhc0
theorem Qer (n:Nat) (a:D.Clue) (ha:QO a≤mx):Pure (Qo Tryz.prog (n+3)) 54 [(T.agg (Qi false a))] (T.agg (Qi true a)):=by
 refine Pure.intro (rs:= [ResultVar.cell 2 74]) Tryz.func54 rfl rfl rfl (E0:= [(0,(T.agg (Qi false a)))]) rfl ?_
 obtain ⟨hlim,hmx,hmax⟩:=QF
 simp only [QO] at ha
 have hla_Play:=Zf (z:=Zk) a.Play
 refine sr (kO (B.box (ts:=(Qi false a)) (tv (T.agg (Qi false a)) rfl) nofun rfl) (kO (B.alloc (t:=(T.agg [(tN 0),T.nils])) (ts:= [(tN 0),T.nils]) QkQ Qlt nofun (fun _=> .agg _ _ rfl (Y8 (RL.cons (.int _ _) (RL.cons (.nils) (RL.nil _))))) rfl) (nt (sr (kO (B.alloc (t:=(T.agg [(tN 0),T.nils])) (ts:= [(tN 0),T.nils]) QkQ Qlt nofun (fun _=> .agg _ _ rfl (Y8 (RL.cons (.int _ _) (RL.cons (.nils) (RL.nil _))))) rfl) (nt (sr (lf (tI a.Sense) rfl Qlj rfl rfl QV (fO (OF.fieldAddrO (tv (T.op 2 0) rfl) QdV) (cO (B.storeO (us:= [(tI a.Sense)]) (ws:= [(tI a.Sense),T.nils]) (tv (T.op 2 0) rfl) (tv (tI a.Sense) rfl) nofun rfl rfl (lb rfl) Y7 Zv (bc rfl bn) rfl) (nt ?_)))))))))))
 refine sr (lf (rd 4 Qm a.Play) rfl QiN rfl rfl Ql2 (cO (OC.callF (r':=(T.os 4 3 0 ((a.Play.map (Qm true)).length))) (objs:= [(Obj.rows 4 (a.Play.map (Qm true)))]) rfl (vc (tv (rd 4 Qm a.Play) rfl) vn) (ZQ rfl) (Qd0 (n+0) a.Play (by omega)) rfl) (fO (OF.fieldAddrO (tv (T.op 2 0) rfl) Qd7) (cO (B.storeO (us:= [(T.os 4 3 0 ((a.Play.map (Qm true)).length))]) (ws:= [(tI a.Sense),(T.os 4 3 0 ((a.Play.map (Qm true)).length))]) (tv (T.op 2 1) rfl) (tv (T.os 4 3 0 ((a.Play.map (Qm true)).length)) rfl) nofun rfl rfl (lb rfl) Qmg Ql7 (bc rfl bn) rfl) (nt (sr (lO (OL.loadOn (us:= [(tI a.Sense),(T.os 4 3 0 ((a.Play.map (Qm true)).length))]) (tv (T.op 2 0) rfl) rfl Qg4 Qa2 (lb rfl) rfl) (cO (B.storeW (us:= [(tI a.Sense),(T.os 4 3 0 ((a.Play.map (Qm true)).length))]) (tv (T.op 1 0) rfl) (tv (T.agg [(tI a.Sense),(T.os 4 3 0 ((a.Play.map (Qm true)).length))]) rfl) nofun rfl rfl rfl Qhn Qa2 (bc rfl (bc rfl bn))) (nt (rt ?_))))))))))
 refine vfin.eq (r':=(T.agg [(tI a.Sense),(T.sl true 4 (a.Play.map (Qm true)))])) ?_ (vfin.r (VRes.celln (ws:= [(tI a.Sense),(T.os 4 3 0 ((a.Play.map (Qm true)).length))]) rfl rfl Qg4 Qa2 (lb rfl) rfl VRes.nil) (Give.agg (GiveL.cons (Give.int _ _) (GiveL.cons (Give.os rfl rfl (okeStep.cleanMap _)) GiveL.nil (by decide)) (by decide))))
 rfl
theorem QdX (n:Nat) (a:List D.Clue) (ha:zL QO a≤mx):Pure (Qo Tryz.prog (n+4)) 33 [(rd 2 Qi a)] (T.sl true 2 (a.map (Qi true))):=by
 refine Pure.intro (rs:= [ResultVar.tmp 2]) Tryz.func33 rfl rfl rfl (E0:= [(0,(rd 2 Qi a))]) rfl ?_
 obtain ⟨hlim,hmx,hmax⟩:=QF
 have hla:=Zf (z:=QO) a
 refine sr (fO (OF.assign VEv.nils) (nt (sr (mO (rd 2 Qi a) rfl (lO (B.lenR (m:=a.length) (tv (rd 2 Qi a) rfl) U24 (List.length_map ..)) (kO (B.makeZ (n:=a.length) (m:=((List.replicate a.length (D.Clue.mk 0 [])).map (Qi true)).length) (rows:=((List.replicate a.length (D.Clue.mk 0 [])).map (Qi true))) (zr:=(Qi true (D.Clue.mk 0 []))) (tv (tN a.length) rfl) (tv (tN a.length) rfl) rfl U34 QkQ Qlt rfl (by rw [Qa2];decide) (by omega) (of_decide_eq_true (by kernel_rfl)) (Z0.int (Z0.sl Z0.nil)) Qa2 (List.map_replicate ..).symm (by rw [List.length_map,List.length_replicate])) (aO (T.os 2 0 0 (((List.replicate a.length (D.Clue.mk 0 [])).map (Qi true)).length)) rfl (nt (sq (sr (fO (OF.assign (VEv.int .i64 0)) ?_)))))))))))
 refine nt (VRun.block ?_)
 have he1:(List.replicate a.length (D.Clue.mk 0 []))=(a.take 0++List.replicate (a.length - 0) (D.Clue.mk 0 [])):=by rfl
 refine VRun.loop (A:=Nat) (fun s_=> [(0,(rd 2 Qi a)),(2,T.nils),(3,(T.os 2 0 0 (((a.take s_++List.replicate (a.length - s_) (D.Clue.mk 0 [])).map (Qi true)).length))),(4,(tN s_))]) (fun s_=>Q0 [(0,(Obj.rows 2 ((a.take s_++List.replicate (a.length - s_) (D.Clue.mk 0 [])).map (Qi true))))]) 1 (fun s_=>s_≤a.length) (fun s_=>a.length - s_) (0:Nat) ?_ (Wk.mk (fun k=>k) ?_ ?_ ?_) ?_
 ·(simp;done)
 ·exact (b2 (b2 (bc ⟨(congrArg (fun l_=>T.os 2 0 0 (List.map (Qi true) l_).length) he1),rfl⟩ (b2 bn))))
 ·exact (bc ⟨(congrArg (fun l_=>some (Obj.rows 2 (List.map (Qi true) l_))) he1),(lb rfl),rfl⟩ bn)
 ·exact nd rfl
 rintro i (hI':i≤a.length)
 show VRun _ _ _ [(0,(rd 2 Qi a)),(2,T.nils),(3,(T.os 2 0 0 (((a.take i++List.replicate (a.length - i) (D.Clue.mk 0 [])).map (Qi true)).length))),(4,(tN i))] (Q0 [(0,(Obj.rows 2 ((a.take i++List.replicate (a.length - i) (D.Clue.mk 0 [])).map (Qi true))))]) 1 _
 have hfl:=QfN (w:=(D.Clue.mk 0 [])) hI'
 refine sq (sr (mO (tN i) rfl (mO (rd 2 Qi a) rfl (lO (B.lenR (m:=a.length) (tv (rd 2 Qi a) rfl) U24 (List.length_map ..)) (fO (Ze (tv (tN i) rfl) (tv (tN a.length) rfl)) (nt ?_))))))
 refine cd (i<a.length) rfl (fun fhc0=> ?_) fun fhc0=> ?_
 ·refine sk ?_
  refine tn (sq (VRun.block (VRun.region (mO (T.os 2 0 0 (((a.take i++List.replicate (a.length - i) (D.Clue.mk 0 [])).map (Qi true)).length)) rfl (mO (tN i) rfl (mO (rd 2 Qi a) rfl (mO (tN i) rfl ?_)))))))
  obtain ⟨x1,hx1⟩:∃x,a[i]? =some x:=⟨_,List.getElem?_eq_getElem (by omega)⟩
  refine fO (OF.indexAddrR (row:=(Qi false x1)) (i:=i) (tv (rd 2 Qi a) rfl) (tv (tN i) rfl) rfl (Qw _ hx1) U24 Qkp QlS) (lO (OL.loadRn (us:=(Qi false x1)) (tv (T.rp (Qi false x1)) rfl) QlU Qkp (lb rfl) rfl) (cO (OC.callF (r':=(T.agg [(tI x1.Sense),(T.os 4 1 0 ((x1.Play.map (Qm true)).length))])) (objs:= [(Obj.rows 4 (x1.Play.map (Qm true)))]) rfl (vc (tv (T.agg (Qi false x1)) rfl) vn) (LendL.cons (lg okeClue) ln) (Qer (n+0) x1 (by exact Nat.le_trans (Qe0 hx1) ha)) rfl) ?_))
  obtain ⟨x2,hx2⟩:∃x,(a.take i++List.replicate (a.length - i) (D.Clue.mk 0 []))[i]? =some x:=⟨_,List.getElem?_eq_getElem (by omega)⟩
  refine fO (B.indexAddrO (i:=i) (tv (T.os 2 0 0 (((a.take i++List.replicate (a.length - i) (D.Clue.mk 0 [])).map (Qi true)).length)) rfl) (tv (tN i) rfl) rfl (by (simp only [List.length_map];omega)) U34 Qa2 Qhn) (cO (B.storeB (us:= [(tI x1.Sense),(T.os 4 1 0 ((x1.Play.map (Qm true)).length))]) (ws:= [(tI x1.Sense),(T.sl true 4 (x1.Play.map (Qm true)))]) (rows':=(((a.take i++List.replicate (a.length - i) (D.Clue.mk 0 [])).set i x1).map (Qi true))) (row:=(Qi true x2)) (tv (T.orp 2 0 i 0) rfl) (tv (T.agg [(tI x1.Sense),(T.os 4 1 0 ((x1.Play.map (Qm true)).length))]) rfl) nofun rfl (Qw _ hx2) rfl (lb rfl) Qhn Qa2 (bc rfl (bc rfl bn)) (Bury.pl rfl (Bury.os rfl rfl Bury.nil (by decide))) rfl (by decide) (Yu rfl)) (VRunO.nil (vinB.n (tn (VRun.region (mO (tN i) rfl (fO (QA (tv (tN i) rfl) (VEv.int .i64 1) (by omega)) (aO (tN (i+1)) rfl (VRunO.nil (tn ?_))))))))))
  have he2:((a.take i++List.replicate (a.length - i) (D.Clue.mk 0 [])).set i x1)=(a.take (i+1)++List.replicate (a.length - (i+1)) (D.Clue.mk 0 [])):=by exact QaM hx1
  refine ⟨(i+1:Nat),?_,?_,Wk.mk (fun k=>k) ?_ ?_ ?_⟩
  ·trivial
  ·omega
  ·exact (b2 (b2 (bc ⟨(congrArg (fun n_=>T.os 2 0 0 n_) (show ((a.take i++List.replicate (a.length - i) (D.Clue.mk 0 [])).map (Qi true)).length=((a.take (i+1)++List.replicate (a.length - (i+1)) (D.Clue.mk 0 [])).map (Qi true)).length from (by (simp only [List.length_map,List.length_set,List.length_append,List.length_take,List.length_replicate,List.length_cons,List.length_nil];omega)))),rfl⟩ (b2 bn))))
  ·exact (bc ⟨(congrArg (fun l_=>some (Obj.rows 2 (List.map (Qi true) l_))) he2),(lb rfl),rfl⟩ bn)
  ·exact nd rfl
 refine VRun.exit (vthn.e (vthn.e (vinB.e (tn (sr (mO (T.os 2 0 0 (((a.take i++List.replicate (a.length - i) (D.Clue.mk 0 [])).map (Qi true)).length)) rfl (aO (T.os 2 0 0 (((a.take i++List.replicate (a.length - i) (D.Clue.mk 0 [])).map (Qi true)).length)) rfl (nt (rt ?_)))))))))
 refine vfin.eq (r':=(T.sl true 2 ((a.take i++List.replicate (a.length - i) (D.Clue.mk 0 [])).map (Qi true)))) ?_ (vfin.r (VRes.tmp (t:=(T.os 2 0 0 (((a.take i++List.replicate (a.length - i) (D.Clue.mk 0 [])).map (Qi true)).length))) rfl VRes.nil) (Give.os rfl rfl (okeClue.cleanMap _)))
 refine congrArg (fun l_=>T.sl true 2 (List.map (Qi true) l_)) ?_
 exact Qce fhc0
theorem QcZ (n:Nat) (a:D.Puzzle) (ha:QI a≤mx):Pure (Qo Tryz.prog (n+5)) 8 [(T.agg (Qv false a))] (T.agg (Qv true a)):=by
 refine Pure.intro (rs:= [ResultVar.cell 2 36]) Tryz.func8 rfl rfl rfl (E0:= [(0,(T.agg (Qv false a)))]) rfl ?_
 obtain ⟨hlim,hmx,hmax⟩:=QF
 simp only [QI] at ha
 have hla_Clues:=Zf (z:=QO) a.Clues
 have hla_Seals:=Zf (z:=zI) a.Seals
 refine sr (kO (B.box (ts:=(Qv false a)) (tv (T.agg (Qv false a)) rfl) nofun rfl) (kO (B.alloc (t:=(T.agg [(tN 0),(tN 0),(tS ByteArray.empty),T.nils,T.nils,(tN 0)])) (ts:= [(tN 0),(tN 0),(tS ByteArray.empty),T.nils,T.nils,(tN 0)]) QlX QlT nofun (fun _=> .agg _ _ rfl (Y8 (RL.cons (.int _ _) (RL.cons (.int _ _) (RL.cons (.str _) (RL.cons (.nils) (RL.cons (.nils) (RL.cons (.int _ _) (RL.nil _))))))))) rfl) (nt (sr (kO (B.alloc (t:=(T.agg [(tN 0),(tN 0),(tS ByteArray.empty),T.nils,T.nils,(tN 0)])) (ts:= [(tN 0),(tN 0),(tS ByteArray.empty),T.nils,T.nils,(tN 0)]) QlX QlT nofun (fun _=> .agg _ _ rfl (Y8 (RL.cons (.int _ _) (RL.cons (.int _ _) (RL.cons (.str _) (RL.cons (.nils) (RL.cons (.nils) (RL.cons (.int _ _) (RL.nil _))))))))) rfl) (nt (sr (fO (OF.fieldAddrO (tv (T.op 0 0) rfl) QjK) (lO (OL.loadOn (us:=(Qb false a.Grid)) (tv (T.op 0 0) rfl) rfl Qmb QkX (lb rfl) rfl) (cO (cS (vc (tv (T.agg (Qb false a.Grid)) rfl) vn) (LendL.cons (lg Qq) ln) (QeD (n+3) a.Grid) rfl rfl) (fO (OF.fieldAddrO (tv (T.op 2 0) rfl) YM) ?_)))))))))))
 refine cO (B.storeO (us:=(Qb true a.Grid)) (ws:= [(tI a.Grid.Rows),(tI a.Grid.Cols),(tS a.Grid.Cells),T.nils,T.nils,(tN 0)]) (tv (T.op 2 0) rfl) (tv (T.agg (Qb true a.Grid)) rfl) nofun rfl rfl (lb rfl) Qhd QN (bc rfl (bc rfl (bc rfl bn))) rfl) (nt (sr (lf (rd 2 Qi a.Clues) rfl Qjg rfl rfl Qmf (cO (OC.callF (r':=(T.os 2 3 0 ((a.Clues.map (Qi true)).length))) (objs:= [(Obj.rows 2 (a.Clues.map (Qi true)))]) rfl (vc (tv (rd 2 Qi a.Clues) rfl) vn) (ZQ rfl) (QdX (n+0) a.Clues (by first | assumption | omega)) rfl) (fO (OF.fieldAddrO (tv (T.op 2 0) rfl) Qah) (cO (B.storeO (us:= [(T.os 2 3 0 ((a.Clues.map (Qi true)).length))]) (ws:= [(tI a.Grid.Rows),(tI a.Grid.Cols),(tS a.Grid.Cells),(T.os 2 3 0 ((a.Clues.map (Qi true)).length)),T.nils,(tN 0)]) (tv (T.op 2 3) rfl) (tv (T.os 2 3 0 ((a.Clues.map (Qi true)).length)) rfl) nofun rfl rfl (lb rfl) Ql9 QlO (bc rfl bn) rfl) (nt (sr (lf (rd 1 Qc a.Seals) rfl QjM rfl rfl QcI (cO (OC.callF (r':=(T.os 1 4 0 ((a.Seals.map (Qc true)).length))) (objs:= [(Obj.rows 1 (a.Seals.map (Qc true)))]) rfl (vc (tv (rd 1 Qc a.Seals) rfl) vn) (ZQ rfl) (Qes (n+3) a.Seals (by first | assumption | omega)) rfl) (fO (OF.fieldAddrO (tv (T.op 2 0) rfl) Qav) ?_)))))))))))
 refine cO (B.storeO (us:= [(T.os 1 4 0 ((a.Seals.map (Qc true)).length))]) (ws:= [(tI a.Grid.Rows),(tI a.Grid.Cols),(tS a.Grid.Cells),(T.os 2 3 0 ((a.Clues.map (Qi true)).length)),(T.os 1 4 0 ((a.Seals.map (Qc true)).length)),(tN 0)]) (tv (T.op 2 4) rfl) (tv (T.os 1 4 0 ((a.Seals.map (Qc true)).length)) rfl) nofun rfl rfl (lb rfl) Qhe Qeu (bc rfl bn) rfl) (nt (sr (lf (tI a.Salt) rfl Qlp rfl rfl QV (fO (OF.fieldAddrO (tv (T.op 2 0) rfl) Qba) (cO (B.storeO (us:= [(tI a.Salt)]) (ws:= [(tI a.Grid.Rows),(tI a.Grid.Cols),(tS a.Grid.Cells),(T.os 2 3 0 ((a.Clues.map (Qi true)).length)),(T.os 1 4 0 ((a.Seals.map (Qc true)).length)),(tI a.Salt)]) (tv (T.op 2 5) rfl) (tv (tI a.Salt) rfl) nofun rfl rfl (lb rfl) Y7 Zv (bc rfl bn) rfl) (nt (sr (lO (OL.loadOn (us:= [(tI a.Grid.Rows),(tI a.Grid.Cols),(tS a.Grid.Cells),(T.os 2 3 0 ((a.Clues.map (Qi true)).length)),(T.os 1 4 0 ((a.Seals.map (Qc true)).length)),(tI a.Salt)]) (tv (T.op 2 0) rfl) rfl Qge Qdq (lb rfl) rfl) (cO (B.storeW (us:= [(tI a.Grid.Rows),(tI a.Grid.Cols),(tS a.Grid.Cells),(T.os 2 3 0 ((a.Clues.map (Qi true)).length)),(T.os 1 4 0 ((a.Seals.map (Qc true)).length)),(tI a.Salt)]) (tv (T.op 1 0) rfl) (tv (T.agg [(tI a.Grid.Rows),(tI a.Grid.Cols),(tS a.Grid.Cells),(T.os 2 3 0 ((a.Clues.map (Qi true)).length)),(T.os 1 4 0 ((a.Seals.map (Qc true)).length)),(tI a.Salt)]) rfl) nofun rfl rfl rfl Qla Qdq (bc rfl (bc rfl (bc rfl (bc rfl (bc rfl (bc rfl bn))))))) (nt (rt ?_)))))))))))
 refine vfin.eq (r':=(T.agg [(tI a.Grid.Rows),(tI a.Grid.Cols),(tS a.Grid.Cells),(T.sl true 2 (a.Clues.map (Qi true))),(T.sl true 1 (a.Seals.map (Qc true))),(tI a.Salt)])) ?_ (vfin.r (VRes.celln (ws:= [(tI a.Grid.Rows),(tI a.Grid.Cols),(tS a.Grid.Cells),(T.os 2 3 0 ((a.Clues.map (Qi true)).length)),(T.os 1 4 0 ((a.Seals.map (Qc true)).length)),(tI a.Salt)]) rfl rfl Qge Qdq (lb rfl) rfl VRes.nil) (Give.agg (GiveL.cons (Give.int _ _) (GiveL.cons (Give.int _ _) (GiveL.cons (Give.str _) (GiveL.cons (Give.os rfl rfl (okeClue.cleanMap _)) (GiveL.cons (Give.os rfl rfl (okInt.cleanMap _)) (GiveL.cons (Give.int _ _) GiveL.nil (by decide)) (by decide)) (by decide)) (by decide)) (by decide)) (by decide))))
 first | rfl | (exact Q4 (by omega)) | (symm;rw [decide_eq_false_iff_not];omega) | (symm;rw [decide_eq_true_eq];omega) | (simp_all;done)
theorem Jp (n:Nat) (a:D.Issue) (ha:Zd a≤mx):Pure (Qo Tryz.prog (n+6)) 17 [(T.agg (QE false a))] (T.agg (QE true a)):=by
 refine Pure.intro (rs:= [ResultVar.cell 2 48]) Tryz.func17 rfl rfl rfl (E0:= [(0,(T.agg (QE false a)))]) rfl ?_
 obtain ⟨hlim,hmx,hmax⟩:=QF
 simp only [Zd] at ha
 refine sr (kO (B.box (ts:=(QE false a)) (tv (T.agg (QE false a)) rfl) nofun rfl) (kO (B.alloc (t:=(T.agg [(tN 0),(tN 0),(tN 0),(tS ByteArray.empty),T.nils,T.nils,(tN 0),(tS ByteArray.empty),(tN 0),(tN 0)])) (ts:= [(tN 0),(tN 0),(tN 0),(tS ByteArray.empty),T.nils,T.nils,(tN 0),(tS ByteArray.empty),(tN 0),(tN 0)]) Qlw QkT nofun (fun _=> .agg _ _ rfl (Y8 (RL.cons (.int _ _) (RL.cons (.int _ _) (RL.cons (.int _ _) (RL.cons (.str _) (RL.cons (.nils) (RL.cons (.nils) (RL.cons (.int _ _) (RL.cons (.str _) (RL.cons (.int _ _) (RL.cons (.int _ _) (RL.nil _))))))))))))) rfl) (nt (sr (kO (B.alloc (t:=(T.agg [(tN 0),(tN 0),(tN 0),(tS ByteArray.empty),T.nils,T.nils,(tN 0),(tS ByteArray.empty),(tN 0),(tN 0)])) (ts:= [(tN 0),(tN 0),(tN 0),(tS ByteArray.empty),T.nils,T.nils,(tN 0),(tS ByteArray.empty),(tN 0),(tN 0)]) Qlw QkT nofun (fun _=> .agg _ _ rfl (Y8 (RL.cons (.int _ _) (RL.cons (.int _ _) (RL.cons (.int _ _) (RL.cons (.str _) (RL.cons (.nils) (RL.cons (.nils) (RL.cons (.int _ _) (RL.cons (.str _) (RL.cons (.int _ _) (RL.cons (.int _ _) (RL.nil _))))))))))))) rfl) (nt (sr (lf (tI a.Number) rfl QkV rfl rfl QV (fO (OF.fieldAddrO (tv (T.op 2 0) rfl) QdL) (cO (B.storeO (us:= [(tI a.Number)]) (ws:= [(tI a.Number),(tN 0),(tN 0),(tS ByteArray.empty),T.nils,T.nils,(tN 0),(tS ByteArray.empty),(tN 0),(tN 0)]) (tv (T.op 2 0) rfl) (tv (tI a.Number) rfl) nofun rfl rfl (lb rfl) Y7 Zv (bc rfl bn) rfl) (nt ?_)))))))))))
 refine sr (fO (OF.fieldAddrO (tv (T.op 0 0) rfl) QjF) (lO (OL.loadOn (us:=(Qv false a.Puzzle)) (tv (T.op 0 1) rfl) rfl Qme Qlk (lb rfl) rfl) (cO (OC.callF (r':=(T.agg [(tI a.Puzzle.Grid.Rows),(tI a.Puzzle.Grid.Cols),(tS a.Puzzle.Grid.Cells),(T.os 2 3 0 ((a.Puzzle.Clues.map (Qi true)).length)),(T.os 1 4 0 ((a.Puzzle.Seals.map (Qc true)).length)),(tI a.Puzzle.Salt)])) (objs:= [(Obj.rows 2 (a.Puzzle.Clues.map (Qi true))),(Obj.rows 1 (a.Puzzle.Seals.map (Qc true)))]) rfl (vc (tv (T.agg (Qv false a.Puzzle)) rfl) vn) (LendL.cons (lg Yh) ln) (QcZ (n+0) a.Puzzle (by first | assumption | omega)) rfl) (fO (OF.fieldAddrO (tv (T.op 2 0) rfl) Qa9) (cO (B.storeO (us:= [(tI a.Puzzle.Grid.Rows),(tI a.Puzzle.Grid.Cols),(tS a.Puzzle.Grid.Cells),(T.os 2 3 0 ((a.Puzzle.Clues.map (Qi true)).length)),(T.os 1 4 0 ((a.Puzzle.Seals.map (Qc true)).length)),(tI a.Puzzle.Salt)]) (ws:= [(tI a.Number),(tI a.Puzzle.Grid.Rows),(tI a.Puzzle.Grid.Cols),(tS a.Puzzle.Grid.Cells),(T.os 2 3 0 ((a.Puzzle.Clues.map (Qi true)).length)),(T.os 1 4 0 ((a.Puzzle.Seals.map (Qc true)).length)),(tI a.Puzzle.Salt),(tS ByteArray.empty),(tN 0),(tN 0)]) (tv (T.op 2 1) rfl) (tv (T.agg [(tI a.Puzzle.Grid.Rows),(tI a.Puzzle.Grid.Cols),(tS a.Puzzle.Grid.Cells),(T.os 2 3 0 ((a.Puzzle.Clues.map (Qi true)).length)),(T.os 1 4 0 ((a.Puzzle.Seals.map (Qc true)).length)),(tI a.Puzzle.Salt)]) rfl) nofun rfl rfl (lb rfl) Qla Qdq (bc rfl (bc rfl (bc rfl (bc rfl (bc rfl (bc rfl bn)))))) rfl) (nt (sr (lf (tS a.Fill) rfl Qi3 rfl rfl ZN (fO (OF.fieldAddrO (tv (T.op 2 0) rfl) Qbm) (cO (B.storeO (us:= [(tS a.Fill)]) (ws:= [(tI a.Number),(tI a.Puzzle.Grid.Rows),(tI a.Puzzle.Grid.Cols),(tS a.Puzzle.Grid.Cells),(T.os 2 3 0 ((a.Puzzle.Clues.map (Qi true)).length)),(T.os 1 4 0 ((a.Puzzle.Seals.map (Qc true)).length)),(tI a.Puzzle.Salt),(tS a.Fill),(tN 0),(tN 0)]) (tv (T.op 2 7) rfl) (tv (tS a.Fill) rfl) nofun rfl rfl (lb rfl) if9 sz9 (bc rfl bn) rfl) (nt ?_)))))))))))
 refine sr (lf (tI a.Open) rfl Qk7 rfl rfl QV (fO (OF.fieldAddrO (tv (T.op 2 0) rfl) Qbw) (cO (B.storeO (us:= [(tI a.Open)]) (ws:= [(tI a.Number),(tI a.Puzzle.Grid.Rows),(tI a.Puzzle.Grid.Cols),(tS a.Puzzle.Grid.Cells),(T.os 2 3 0 ((a.Puzzle.Clues.map (Qi true)).length)),(T.os 1 4 0 ((a.Puzzle.Seals.map (Qc true)).length)),(tI a.Puzzle.Salt),(tS a.Fill),(tI a.Open),(tN 0)]) (tv (T.op 2 8) rfl) (tv (tI a.Open) rfl) nofun rfl rfl (lb rfl) Y7 Zv (bc rfl bn) rfl) (nt (sr (lf (tI a.Close) rfl Qlv rfl rfl QV (fO (OF.fieldAddrO (tv (T.op 2 0) rfl) Qac) (cO (B.storeO (us:= [(tI a.Close)]) (ws:= [(tI a.Number),(tI a.Puzzle.Grid.Rows),(tI a.Puzzle.Grid.Cols),(tS a.Puzzle.Grid.Cells),(T.os 2 3 0 ((a.Puzzle.Clues.map (Qi true)).length)),(T.os 1 4 0 ((a.Puzzle.Seals.map (Qc true)).length)),(tI a.Puzzle.Salt),(tS a.Fill),(tI a.Open),(tI a.Close)]) (tv (T.op 2 9) rfl) (tv (tI a.Close) rfl) nofun rfl rfl (lb rfl) Y7 Zv (bc rfl bn) rfl) (nt (sr (lO (OL.loadOn (us:= [(tI a.Number),(tI a.Puzzle.Grid.Rows),(tI a.Puzzle.Grid.Cols),(tS a.Puzzle.Grid.Cells),(T.os 2 3 0 ((a.Puzzle.Clues.map (Qi true)).length)),(T.os 1 4 0 ((a.Puzzle.Seals.map (Qc true)).length)),(tI a.Puzzle.Salt),(tS a.Fill),(tI a.Open),(tI a.Close)]) (tv (T.op 2 0) rfl) rfl Qiu QgP (lb rfl) rfl) ?_)))))))))))
 refine cO (B.storeW (us:= [(tI a.Number),(tI a.Puzzle.Grid.Rows),(tI a.Puzzle.Grid.Cols),(tS a.Puzzle.Grid.Cells),(T.os 2 3 0 ((a.Puzzle.Clues.map (Qi true)).length)),(T.os 1 4 0 ((a.Puzzle.Seals.map (Qc true)).length)),(tI a.Puzzle.Salt),(tS a.Fill),(tI a.Open),(tI a.Close)]) (tv (T.op 1 0) rfl) (tv (T.agg [(tI a.Number),(tI a.Puzzle.Grid.Rows),(tI a.Puzzle.Grid.Cols),(tS a.Puzzle.Grid.Cells),(T.os 2 3 0 ((a.Puzzle.Clues.map (Qi true)).length)),(T.os 1 4 0 ((a.Puzzle.Seals.map (Qc true)).length)),(tI a.Puzzle.Salt),(tS a.Fill),(tI a.Open),(tI a.Close)]) rfl) nofun rfl rfl rfl Ql0 QgP (bc rfl (bc rfl (bc rfl (bc rfl (bc rfl (bc rfl (bc rfl (bc rfl (bc rfl (bc rfl bn))))))))))) (nt (rt ?_))
 refine vfin.eq (r':=(T.agg [(tI a.Number),(tI a.Puzzle.Grid.Rows),(tI a.Puzzle.Grid.Cols),(tS a.Puzzle.Grid.Cells),(T.sl true 2 (a.Puzzle.Clues.map (Qi true))),(T.sl true 1 (a.Puzzle.Seals.map (Qc true))),(tI a.Puzzle.Salt),(tS a.Fill),(tI a.Open),(tI a.Close)])) ?_ (vfin.r (VRes.celln (ws:= [(tI a.Number),(tI a.Puzzle.Grid.Rows),(tI a.Puzzle.Grid.Cols),(tS a.Puzzle.Grid.Cells),(T.os 2 3 0 ((a.Puzzle.Clues.map (Qi true)).length)),(T.os 1 4 0 ((a.Puzzle.Seals.map (Qc true)).length)),(tI a.Puzzle.Salt),(tS a.Fill),(tI a.Open),(tI a.Close)]) rfl rfl Qiu QgP (lb rfl) rfl VRes.nil) (Give.agg (GiveL.cons (Give.int _ _) (GiveL.cons (Give.int _ _) (GiveL.cons (Give.int _ _) (GiveL.cons (Give.str _) (GiveL.cons (Give.os rfl rfl (okeClue.cleanMap _)) (GiveL.cons (Give.os rfl rfl (okInt.cleanMap _)) (GiveL.cons (Give.int _ _) (GiveL.cons (Give.str _) (GiveL.cons (Give.int _ _) (GiveL.cons (Give.int _ _) GiveL.nil (by decide)) (by decide)) (by decide)) (by decide)) (by decide)) (by decide)) (by decide)) (by decide)) (by decide)) (by decide))))
 first | rfl | (exact Q4 (by omega)) | (symm;rw [decide_eq_false_iff_not];omega) | (symm;rw [decide_eq_true_eq];omega) | (simp_all;done)
end Go.Proofs.YthifchndolccgaaGreatDoor.AE
namespace Go.Proofs.YthifchndolccgaaGreatDoor.AE
open Go Go.RowKit
set_option linter.unusedVariables false
set_option linter.unusedSimpArgs false
set_option maxRecDepth 20000
set_option maxHeartbeats 2000000
theorem QeB (n:Nat) (a:List Int) (b:List Int) (hla:a.length≤mx) (hlb:b.length≤mx):Pure (Qo Tryz.prog (n+1)) 38 [(rd 1 Qc a),(rd 1 Qc b)] (tB (decide (a=b))):=by
 refine Pure.intro (rs:= [ResultVar.tmp 4]) Tryz.func38 rfl rfl rfl (E0:= [(0,(rd 1 Qc a)),(1,(rd 1 Qc b))]) rfl ?_
 obtain ⟨hlim,hmx,hmax⟩:=QF
 refine sr (fO (OF.assign (VEv.bool false)) (nt (sq (sr (mO (rd 1 Qc a) rfl (lO (B.lenR (m:=a.length) (tv (rd 1 Qc a) rfl) ZL (List.length_map ..)) (mO (rd 1 Qc b) rfl (lO (B.lenR (m:=b.length) (tv (rd 1 Qc b) rfl) ZL (List.length_map ..)) (fO (Qju (tv (tN a.length) rfl) (tv (tN b.length) rfl)) (nt ?_))))))))))
 refine cn (a.length=b.length) rfl (fun fhc0=> ?_) fun fhc0=> ?_
 ·refine sr ?_
  refine fO (OF.assign (VEv.bool false)) (nt (rt (tr (vb (b':=false) rfl ?_))))
  symm;rw [decide_eq_false_iff_not];rintro rfl;exact fhc0 rfl
 refine sk (tn (sq (sr (fO (OF.assign (VEv.int .i64 0)) (nt (VRun.block ?_))))))
 refine VRun.loop (A:=Nat) (fun s_=> [(0,(rd 1 Qc a)),(1,(rd 1 Qc b)),(5,(tN s_))]) (fun s_=>Q0 []) 0 (fun s_=>s_≤a.length∧∀j,j<s_→a[j]? =b[j]?) (fun s_=>a.length - s_) (0:Nat) ?_ (Wk.mk (fun k=>k) ?_ ?_ ?_) ?_
 ·(simp;done)
 ·exact (b2 (b2 (b2 bn)))
 ·exact bn
 ·exact nd rfl
 rintro i (hI':i≤a.length∧∀j,j<i→a[j]? =b[j]?)
 show VRun _ _ _ [(0,(rd 1 Qc a)),(1,(rd 1 Qc b)),(5,(tN i))] (Q0 []) 0 _
 refine sq (sr (mO (tN i) rfl (mO (rd 1 Qc a) rfl (lO (B.lenR (m:=a.length) (tv (rd 1 Qc a) rfl) ZL (List.length_map ..)) (fO (Ze (tv (tN i) rfl) (tv (tN a.length) rfl)) (nt ?_))))))
 refine cd (i<a.length) rfl (fun fhc1=> ?_) fun fhc1=> ?_
 ·refine sk ?_
  refine tn (sq (VRun.block (sq (VRun.draw (B:= [[],[],[1,0],[0,1,2],[],[],[5,4],[4,5,6],[6,5,4,7,2,1,0,3]]) (by kernel_rfl) (by kernel_rfl) (mD (rd 1 Qc a) rfl rfl (mD (tN i) rfl rfl ?_))))))
  obtain ⟨x1,hx1⟩:∃x,a[i]? =some x:=⟨_,List.getElem?_eq_getElem (by omega)⟩
  refine fD (OF.indexAddrR (row:=(Qc false x1)) (i:=i) (tv (rd 1 Qc a) rfl) (tv (tN i) rfl) rfl (Qw _ hx1) ZL Zv Y7) rfl rfl (lD (OL.loadR1 (t:=(tI x1)) (tv (T.rp [(tI x1)]) rfl) rfl QV) rfl rfl (mD (rd 1 Qc b) rfl rfl (mD (tN i) rfl rfl ?_)))
  obtain ⟨x2,hx2⟩:∃x,b[i]? =some x:=⟨_,List.getElem?_eq_getElem (by omega)⟩
  refine fD (OF.indexAddrR (row:=(Qc false x2)) (i:=i) (tv (rd 1 Qc b) rfl) (tv (tN i) rfl) rfl (Qw _ hx2) ZL Zv Y7) rfl rfl (lD (OL.loadR1 (t:=(tI x2)) (tv (T.rp [(tI x2)]) rfl) rfl QV) rfl rfl (fD (xne (tv (tI x1) rfl) (tv (tI x2) rfl)) rfl rfl (VRunD.nil (tn ?_))))
  refine cn (x1=x2) rfl (fun fhc2=> ?_) fun fhc2=> ?_
  ·refine sr ?_
   refine fO (OF.assign (VEv.bool false)) (nt (rt (vinB.r (tr (tr (vinB.r (tr (vb (b':=false) rfl ?_))))))))
   symm;rw [decide_eq_false_iff_not];exact Qct hx1 hx2 fhc2
  refine sk (vinB.n (tn (VRun.region (mO (tN i) rfl (fO (QA (tv (tN i) rfl) (VEv.int .i64 1) (by omega)) (aO (tN (i+1)) rfl (VRunO.nil (tn ?_))))))))
  refine ⟨(i+1:Nat),?_,?_,Wk.mk (fun k=>k) ?_ ?_ ?_⟩
  ·exact Qbp hI' hx1 hx2 fhc2
  ·omega
  ·exact (b2 (b2 (b2 bn)))
  ·exact bn
  ·exact nd rfl
 refine VRun.exit (vthn.e (vthn.e (vinB.e (tn (sr (fO (OF.assign (VEv.bool true)) (nt (rt (vb (b':=true) rfl ?_)))))))))
 symm;rw [decide_eq_true_eq];exact Qcx hI' fhc0 fhc1
theorem Qej (n:Nat) (a:D.Grid) (b:D.Grid):Pure (Qo Tryz.prog (n+1)) 39 [(T.agg (Qb false a)),(T.agg (Qb false b))] (tB (decide (a=b))):=by
 refine Pure.intro (rs:= [ResultVar.tmp 4]) Tryz.func39 rfl rfl rfl (E0:= [(0,(T.agg (Qb false a))),(1,(T.agg (Qb false b)))]) rfl ?_
 obtain ⟨hlim,hmx,hmax⟩:=QF
 refine sr (kO (B.box (ts:=(Qb false a)) (tv (T.agg (Qb false a)) rfl) nofun rfl) (kO (B.box (ts:=(Qb false b)) (tv (T.agg (Qb false b)) rfl) nofun rfl) (fO (OF.assign (VEv.bool false)) (nt (sq (sr (lf (tI a.Rows) rfl JG rfl rfl QV (lf (tI b.Rows) rfl JG rfl rfl QV (fO (xne (tv (tI a.Rows) rfl) (tv (tI b.Rows) rfl)) (nt ?_))))))))))
 refine cn (a.Rows=b.Rows) rfl (fun fhc0=> ?_) fun fhc0=> ?_
 ·refine sr ?_
  refine fO (OF.assign (VEv.bool false)) (nt (rt (tr (vb (b':=false) rfl ?_))))
  obtain ⟨a0,a1,a2⟩:=a
  obtain ⟨b0,b1,b2⟩:=b
  simp_all
 refine sk (tn (sq (sr (lf (tI a.Cols) rfl Za rfl rfl QV (lf (tI b.Cols) rfl Za rfl rfl QV (fO (xne (tv (tI a.Cols) rfl) (tv (tI b.Cols) rfl)) (nt ?_)))))))
 refine cn (a.Cols=b.Cols) rfl (fun fhc1=> ?_) fun fhc1=> ?_
 ·refine sr ?_
  refine fO (OF.assign (VEv.bool false)) (nt (rt (tr (vb (b':=false) rfl ?_))))
  obtain ⟨a0,a1,a2⟩:=a
  obtain ⟨b0,b1,b2⟩:=b
  simp_all
 refine sk (tn (sq (sr (lf (tS a.Cells) rfl Qy rfl rfl ZN (lf (tS b.Cells) rfl Qy rfl rfl ZN (fO (B.sneq (c:=(!(decide (a.Cells=b.Cells)))) (tv (tS a.Cells) rfl) (tv (tS b.Cells) rfl) rfl) (nt ?_)))))))
 refine cn (a.Cells=b.Cells) rfl (fun fhc2=> ?_) fun fhc2=> ?_
 ·refine sr ?_
  refine fO (OF.assign (VEv.bool false)) (nt (rt (tr (vb (b':=false) rfl ?_))))
  obtain ⟨a0,a1,a2⟩:=a
  obtain ⟨b0,b1,b2⟩:=b
  simp_all
 refine sk (tn (sr (fO (OF.assign (VEv.bool true)) (nt (rt (vb (b':=true) rfl ?_))))))
 obtain ⟨a0,a1,a2⟩:=a
 obtain ⟨b0,b1,b2⟩:=b
 simp_all
theorem QeF (n:Nat) (a:D.Step) (b:D.Step):Pure (Qo Tryz.prog (n+1)) 118 [(T.agg (Qm false a)),(T.agg (Qm false b))] (tB (decide (a=b))):=by
 refine Pure.intro (rs:= [ResultVar.tmp 4]) Tryz.func118 rfl rfl rfl (E0:= [(0,(T.agg (Qm false a))),(1,(T.agg (Qm false b)))]) rfl ?_
 obtain ⟨hlim,hmx,hmax⟩:=QF
 refine sr (kO (B.box (ts:=(Qm false a)) (tv (T.agg (Qm false a)) rfl) nofun rfl) (kO (B.box (ts:=(Qm false b)) (tv (T.agg (Qm false b)) rfl) nofun rfl) (fO (OF.assign (VEv.bool false)) (nt (sq (sr (lf (tI a.Kind) rfl Q2 rfl rfl QV (lf (tI b.Kind) rfl Q2 rfl rfl QV (fO (xne (tv (tI a.Kind) rfl) (tv (tI b.Kind) rfl)) (nt ?_))))))))))
 refine cn (a.Kind=b.Kind) rfl (fun fhc0=> ?_) fun fhc0=> ?_
 ·refine sr ?_
  refine fO (OF.assign (VEv.bool false)) (nt (rt (tr (vb (b':=false) rfl ?_))))
  obtain ⟨a0,a1,a2,a3⟩:=a
  obtain ⟨b0,b1,b2,b3⟩:=b
  simp_all
 refine sk (tn (sq (sr (lf (tS a.Word) rfl Qag rfl rfl ZN (lf (tS b.Word) rfl Qag rfl rfl ZN (fO (B.sneq (c:=(!(decide (a.Word=b.Word)))) (tv (tS a.Word) rfl) (tv (tS b.Word) rfl) rfl) (nt ?_)))))))
 refine cn (a.Word=b.Word) rfl (fun fhc1=> ?_) fun fhc1=> ?_
 ·refine sr ?_
  refine fO (OF.assign (VEv.bool false)) (nt (rt (tr (vb (b':=false) rfl ?_))))
  obtain ⟨a0,a1,a2,a3⟩:=a
  obtain ⟨b0,b1,b2,b3⟩:=b
  simp_all
 refine sk (tn (sq (sr (lf (tI a.A) rfl Ys rfl rfl QV (lf (tI b.A) rfl Ys rfl rfl QV (fO (xne (tv (tI a.A) rfl) (tv (tI b.A) rfl)) (nt ?_)))))))
 refine cn (a.A=b.A) rfl (fun fhc2=> ?_) fun fhc2=> ?_
 ·refine sr ?_
  refine fO (OF.assign (VEv.bool false)) (nt (rt (tr (vb (b':=false) rfl ?_))))
  obtain ⟨a0,a1,a2,a3⟩:=a
  obtain ⟨b0,b1,b2,b3⟩:=b
  simp_all
 refine sk (tn (sq (sr (lf (tI a.B) rfl Z2 rfl rfl QV (lf (tI b.B) rfl Z2 rfl rfl QV (fO (xne (tv (tI a.B) rfl) (tv (tI b.B) rfl)) (nt ?_)))))))
 refine cn (a.B=b.B) rfl (fun fhc3=> ?_) fun fhc3=> ?_
 ·refine sr ?_
  refine fO (OF.assign (VEv.bool false)) (nt (rt (tr (vb (b':=false) rfl ?_))))
  obtain ⟨a0,a1,a2,a3⟩:=a
  obtain ⟨b0,b1,b2,b3⟩:=b
  simp_all
 refine sk (tn (sr (fO (OF.assign (VEv.bool true)) (nt (rt (vb (b':=true) rfl ?_))))))
 obtain ⟨a0,a1,a2,a3⟩:=a
 obtain ⟨b0,b1,b2,b3⟩:=b
 simp_all
theorem QdF (n:Nat) (a:List D.Step) (b:List D.Step) (hla:a.length≤mx) (hlb:b.length≤mx):Pure (Qo Tryz.prog (n+2)) 86 [(rd 4 Qm a),(rd 4 Qm b)] (tB (decide (a=b))):=by
 refine Pure.intro (rs:= [ResultVar.tmp 4]) Tryz.func86 rfl rfl rfl (E0:= [(0,(rd 4 Qm a)),(1,(rd 4 Qm b))]) rfl ?_
 obtain ⟨hlim,hmx,hmax⟩:=QF
 refine sr (fO (OF.assign (VEv.bool false)) (nt (sq (sr (mO (rd 4 Qm a) rfl (lO (B.lenR (m:=a.length) (tv (rd 4 Qm a) rfl) U72 (List.length_map ..)) (mO (rd 4 Qm b) rfl (lO (B.lenR (m:=b.length) (tv (rd 4 Qm b) rfl) U72 (List.length_map ..)) (fO (Qju (tv (tN a.length) rfl) (tv (tN b.length) rfl)) (nt ?_))))))))))
 refine cn (a.length=b.length) rfl (fun fhc0=> ?_) fun fhc0=> ?_
 ·refine sr ?_
  refine fO (OF.assign (VEv.bool false)) (nt (rt (tr (vb (b':=false) rfl ?_))))
  symm;rw [decide_eq_false_iff_not];rintro rfl;exact fhc0 rfl
 refine sk (tn (sq (sr (fO (OF.assign (VEv.int .i64 0)) (nt (VRun.block ?_))))))
 refine VRun.loop (A:=Nat) (fun s_=> [(0,(rd 4 Qm a)),(1,(rd 4 Qm b)),(5,(tN s_))]) (fun s_=>Q0 []) 0 (fun s_=>s_≤a.length∧∀j,j<s_→a[j]? =b[j]?) (fun s_=>a.length - s_) (0:Nat) ?_ (Wk.mk (fun k=>k) ?_ ?_ ?_) ?_
 ·(simp;done)
 ·exact (b2 (b2 (b2 bn)))
 ·exact bn
 ·exact nd rfl
 rintro i (hI':i≤a.length∧∀j,j<i→a[j]? =b[j]?)
 show VRun _ _ _ [(0,(rd 4 Qm a)),(1,(rd 4 Qm b)),(5,(tN i))] (Q0 []) 0 _
 refine sq (sr (mO (tN i) rfl (mO (rd 4 Qm a) rfl (lO (B.lenR (m:=a.length) (tv (rd 4 Qm a) rfl) U72 (List.length_map ..)) (fO (Ze (tv (tN i) rfl) (tv (tN a.length) rfl)) (nt ?_))))))
 refine cd (i<a.length) rfl (fun fhc1=> ?_) fun fhc1=> ?_
 ·refine sk ?_
  refine tn (sq (VRun.block (sq (VRun.draw (B:= [[],[],[1,0],[0,1,2],[],[],[5,4],[4,5,6],[6,5,4,7,2,1,0,3],[3,0,1,2,7,4,5,6,8]]) (by kernel_rfl) (by kernel_rfl) (mD (rd 4 Qm a) rfl rfl (mD (tN i) rfl rfl ?_))))))
  obtain ⟨x1,hx1⟩:∃x,a[i]? =some x:=⟨_,List.getElem?_eq_getElem (by omega)⟩
  refine fD (OF.indexAddrR (row:=(Qm false x1)) (i:=i) (tv (rd 4 Qm a) rfl) (tv (tN i) rfl) rfl (Qw _ hx1) U72 Yn Qas) rfl rfl (lD (OL.loadRn (us:=(Qm false x1)) (tv (T.rp (Qm false x1)) rfl) Qfb Yn (lb rfl) rfl) rfl rfl (mD (rd 4 Qm b) rfl rfl (mD (tN i) rfl rfl ?_)))
  obtain ⟨x2,hx2⟩:∃x,b[i]? =some x:=⟨_,List.getElem?_eq_getElem (by omega)⟩
  refine fD (OF.indexAddrR (row:=(Qm false x2)) (i:=i) (tv (rd 4 Qm b) rfl) (tv (tN i) rfl) rfl (Qw _ hx2) U72 Yn Qas) rfl rfl (lD (OL.loadRn (us:=(Qm false x2)) (tv (T.rp (Qm false x2)) rfl) Qfb Yn (lb rfl) rfl) rfl rfl (VRunD.quiet (bi:= [6,5,4,7,2,1,0,3]) rfl VWant.always rfl rfl rfl bn (cS (vc (tv (T.agg (Qm false x1)) rfl) (vc (tv (T.agg (Qm false x2)) rfl) vn)) (LendL.cons (lg okeStep) (LendL.cons (lg okeStep) ln)) (QeF (n+0) x1 x2) rfl rfl) (fD (QY (tv (tB (decide (x1=x2))) rfl)) rfl rfl (VRunD.nil (tn ?_)))))
  refine cn (x1=x2) rfl (fun fhc2=> ?_) fun fhc2=> ?_
  ·refine sr ?_
   refine fO (OF.assign (VEv.bool false)) (nt (rt (vinB.r (tr (tr (vinB.r (tr (vb (b':=false) rfl ?_))))))))
   symm;rw [decide_eq_false_iff_not];exact Qct hx1 hx2 fhc2
  refine sk (vinB.n (tn (VRun.region (mO (tN i) rfl (fO (QA (tv (tN i) rfl) (VEv.int .i64 1) (by omega)) (aO (tN (i+1)) rfl (VRunO.nil (tn ?_))))))))
  refine ⟨(i+1:Nat),?_,?_,Wk.mk (fun k=>k) ?_ ?_ ?_⟩
  ·exact Qbp hI' hx1 hx2 fhc2
  ·omega
  ·exact (b2 (b2 (b2 bn)))
  ·exact bn
  ·exact nd rfl
 refine VRun.exit (vthn.e (vthn.e (vinB.e (tn (sr (fO (OF.assign (VEv.bool true)) (nt (rt (vb (b':=true) rfl ?_)))))))))
 symm;rw [decide_eq_true_eq];exact Qcx hI' fhc0 fhc1
theorem Qel (n:Nat) (a:D.Clue) (b:D.Clue) (ha:QO a≤mx) (hb:QO b≤mx):Pure (Qo Tryz.prog (n+3)) 62 [(T.agg (Qi false a)),(T.agg (Qi false b))] (tB (decide (a=b))):=by
 refine Pure.intro (rs:= [ResultVar.tmp 4]) Tryz.func62 rfl rfl rfl (E0:= [(0,(T.agg (Qi false a))),(1,(T.agg (Qi false b)))]) rfl ?_
 obtain ⟨hlim,hmx,hmax⟩:=QF
 simp only [QO] at ha hb
 have hla_Play:=Zf (z:=Zk) a.Play
 have hlb_Play:=Zf (z:=Zk) b.Play
 refine sr (kO (B.box (ts:=(Qi false a)) (tv (T.agg (Qi false a)) rfl) nofun rfl) (kO (B.box (ts:=(Qi false b)) (tv (T.agg (Qi false b)) rfl) nofun rfl) (fO (OF.assign (VEv.bool false)) (nt (sq (sr (lf (tI a.Sense) rfl QdV rfl rfl QV (lf (tI b.Sense) rfl QdV rfl rfl QV (fO (xne (tv (tI a.Sense) rfl) (tv (tI b.Sense) rfl)) (nt ?_))))))))))
 refine cn (a.Sense=b.Sense) rfl (fun fhc0=> ?_) fun fhc0=> ?_
 ·refine sr ?_
  refine fO (OF.assign (VEv.bool false)) (nt (rt (tr (vb (b':=false) rfl ?_))))
  obtain ⟨a0,a1⟩:=a
  obtain ⟨b0,b1⟩:=b
  simp_all
 refine sk (tn (sq (sr (lf (rd 4 Qm a.Play) rfl Qd7 rfl rfl Qj9 (lf (rd 4 Qm b.Play) rfl Qd7 rfl rfl Qj9 (cO (cS (vc (tv (rd 4 Qm a.Play) rfl) (vc (tv (rd 4 Qm b.Play) rfl) vn)) (ZQ rfl) (QdF (n+0) a.Play b.Play (by omega) (by omega)) rfl rfl) (fO (QY (tv (tB (decide (a.Play=b.Play))) rfl)) (nt ?_))))))))
 refine cn (a.Play=b.Play) rfl (fun fhc1=> ?_) fun fhc1=> ?_
 ·refine sr ?_
  refine fO (OF.assign (VEv.bool false)) (nt (rt (tr (vb (b':=false) rfl ?_))))
  obtain ⟨a0,a1⟩:=a
  obtain ⟨b0,b1⟩:=b
  simp_all
 refine sk (tn (sr (fO (OF.assign (VEv.bool true)) (nt (rt (vb (b':=true) rfl ?_))))))
 obtain ⟨a0,a1⟩:=a
 obtain ⟨b0,b1⟩:=b
 simp_all
theorem QdY (n:Nat) (a:List D.Clue) (b:List D.Clue) (ha:zL QO a≤mx) (hb:zL QO b≤mx):Pure (Qo Tryz.prog (n+4)) 40 [(rd 2 Qi a),(rd 2 Qi b)] (tB (decide (a=b))):=by
 refine Pure.intro (rs:= [ResultVar.tmp 4]) Tryz.func40 rfl rfl rfl (E0:= [(0,(rd 2 Qi a)),(1,(rd 2 Qi b))]) rfl ?_
 obtain ⟨hlim,hmx,hmax⟩:=QF
 have hla:=Zf (z:=QO) a
 have hlb:=Zf (z:=QO) b
 refine sr (fO (OF.assign (VEv.bool false)) (nt (sq (sr (mO (rd 2 Qi a) rfl (lO (B.lenR (m:=a.length) (tv (rd 2 Qi a) rfl) U34 (List.length_map ..)) (mO (rd 2 Qi b) rfl (lO (B.lenR (m:=b.length) (tv (rd 2 Qi b) rfl) U34 (List.length_map ..)) (fO (Qju (tv (tN a.length) rfl) (tv (tN b.length) rfl)) (nt ?_))))))))))
 refine cn (a.length=b.length) rfl (fun fhc0=> ?_) fun fhc0=> ?_
 ·refine sr ?_
  refine fO (OF.assign (VEv.bool false)) (nt (rt (tr (vb (b':=false) rfl ?_))))
  symm;rw [decide_eq_false_iff_not];rintro rfl;exact fhc0 rfl
 refine sk (tn (sq (sr (fO (OF.assign (VEv.int .i64 0)) (nt (VRun.block ?_))))))
 refine VRun.loop (A:=Nat) (fun s_=> [(0,(rd 2 Qi a)),(1,(rd 2 Qi b)),(5,(tN s_))]) (fun s_=>Q0 []) 0 (fun s_=>s_≤a.length∧∀j,j<s_→a[j]? =b[j]?) (fun s_=>a.length - s_) (0:Nat) ?_ (Wk.mk (fun k=>k) ?_ ?_ ?_) ?_
 ·(simp;done)
 ·exact (b2 (b2 (b2 bn)))
 ·exact bn
 ·exact nd rfl
 rintro i (hI':i≤a.length∧∀j,j<i→a[j]? =b[j]?)
 show VRun _ _ _ [(0,(rd 2 Qi a)),(1,(rd 2 Qi b)),(5,(tN i))] (Q0 []) 0 _
 refine sq (sr (mO (tN i) rfl (mO (rd 2 Qi a) rfl (lO (B.lenR (m:=a.length) (tv (rd 2 Qi a) rfl) U34 (List.length_map ..)) (fO (Ze (tv (tN i) rfl) (tv (tN a.length) rfl)) (nt ?_))))))
 refine cd (i<a.length) rfl (fun fhc1=> ?_) fun fhc1=> ?_
 ·refine sk ?_
  refine tn (sq (VRun.block (sq (VRun.draw (B:= [[],[],[1,0],[0,1,2],[],[],[5,4],[4,5,6],[6,5,4,7,2,1,0,3],[3,0,1,2,7,4,5,6,8]]) (by kernel_rfl) (by kernel_rfl) (mD (rd 2 Qi a) rfl rfl (mD (tN i) rfl rfl ?_))))))
  obtain ⟨x1,hx1⟩:∃x,a[i]? =some x:=⟨_,List.getElem?_eq_getElem (by omega)⟩
  refine fD (OF.indexAddrR (row:=(Qi false x1)) (i:=i) (tv (rd 2 Qi a) rfl) (tv (tN i) rfl) rfl (Qw _ hx1) U34 Qa2 Qhn) rfl rfl (lD (OL.loadRn (us:=(Qi false x1)) (tv (T.rp (Qi false x1)) rfl) Qg4 Qa2 (lb rfl) rfl) rfl rfl (mD (rd 2 Qi b) rfl rfl (mD (tN i) rfl rfl ?_)))
  obtain ⟨x2,hx2⟩:∃x,b[i]? =some x:=⟨_,List.getElem?_eq_getElem (by omega)⟩
  refine fD (OF.indexAddrR (row:=(Qi false x2)) (i:=i) (tv (rd 2 Qi b) rfl) (tv (tN i) rfl) rfl (Qw _ hx2) U34 Qa2 Qhn) rfl rfl (lD (OL.loadRn (us:=(Qi false x2)) (tv (T.rp (Qi false x2)) rfl) Qg4 Qa2 (lb rfl) rfl) rfl rfl (VRunD.quiet (bi:= [6,5,4,7,2,1,0,3]) rfl VWant.always rfl rfl rfl bn (cS (vc (tv (T.agg (Qi false x1)) rfl) (vc (tv (T.agg (Qi false x2)) rfl) vn)) (LendL.cons (lg okeClue) (LendL.cons (lg okeClue) ln)) (Qel (n+0) x1 x2 (by exact Nat.le_trans (Qe0 hx1) ha) (by exact Nat.le_trans (Qe0 hx2) hb)) rfl rfl) (fD (QY (tv (tB (decide (x1=x2))) rfl)) rfl rfl (VRunD.nil (tn ?_)))))
  refine cn (x1=x2) rfl (fun fhc2=> ?_) fun fhc2=> ?_
  ·refine sr ?_
   refine fO (OF.assign (VEv.bool false)) (nt (rt (vinB.r (tr (tr (vinB.r (tr (vb (b':=false) rfl ?_))))))))
   symm;rw [decide_eq_false_iff_not];exact Qct hx1 hx2 fhc2
  refine sk (vinB.n (tn (VRun.region (mO (tN i) rfl (fO (QA (tv (tN i) rfl) (VEv.int .i64 1) (by omega)) (aO (tN (i+1)) rfl (VRunO.nil (tn ?_))))))))
  refine ⟨(i+1:Nat),?_,?_,Wk.mk (fun k=>k) ?_ ?_ ?_⟩
  ·exact Qbp hI' hx1 hx2 fhc2
  ·omega
  ·exact (b2 (b2 (b2 bn)))
  ·exact bn
  ·exact nd rfl
 refine VRun.exit (vthn.e (vthn.e (vinB.e (tn (sr (fO (OF.assign (VEv.bool true)) (nt (rt (vb (b':=true) rfl ?_)))))))))
 symm;rw [decide_eq_true_eq];exact Qcx hI' fhc0 fhc1
theorem Qdf (n:Nat) (a:D.Puzzle) (b:D.Puzzle) (ha:QI a≤mx) (hb:QI b≤mx):Pure (Qo Tryz.prog (n+5)) 11 [(T.agg (Qv false a)),(T.agg (Qv false b))] (tB (decide (a=b))):=by
 refine Pure.intro (rs:= [ResultVar.tmp 4]) Tryz.func11 rfl rfl rfl (E0:= [(0,(T.agg (Qv false a))),(1,(T.agg (Qv false b)))]) rfl ?_
 obtain ⟨hlim,hmx,hmax⟩:=QF
 simp only [QI] at ha hb
 have hla_Clues:=Zf (z:=QO) a.Clues
 have hla_Seals:=Zf (z:=zI) a.Seals
 have hlb_Clues:=Zf (z:=QO) b.Clues
 have hlb_Seals:=Zf (z:=zI) b.Seals
 refine sr (kO (B.box (ts:=(Qv false a)) (tv (T.agg (Qv false a)) rfl) nofun rfl) (kO (B.box (ts:=(Qv false b)) (tv (T.agg (Qv false b)) rfl) nofun rfl) (fO (OF.assign (VEv.bool false)) (nt (sq (sr (fO (OF.fieldAddrO (tv (T.op 0 0) rfl) YM) (lO (OL.loadOn (us:=(Qb false a.Grid)) (tv (T.op 0 0) rfl) rfl QP QN (lb rfl) rfl) (fO (OF.fieldAddrO (tv (T.op 1 0) rfl) YM) (lO (OL.loadOn (us:=(Qb false b.Grid)) (tv (T.op 1 0) rfl) rfl QP QN (lb rfl) rfl) (cO (cS (vc (tv (T.agg (Qb false a.Grid)) rfl) (vc (tv (T.agg (Qb false b.Grid)) rfl) vn)) (LendL.cons (lg Qq) (LendL.cons (lg Qq) ln)) (Qej (n+3) a.Grid b.Grid) rfl rfl) ?_)))))))))))
 refine fO (QY (tv (tB (decide (a.Grid=b.Grid))) rfl)) (nt ?_)
 refine cn (a.Grid=b.Grid) rfl (fun fhc0=> ?_) fun fhc0=> ?_
 ·refine sr ?_
  refine fO (OF.assign (VEv.bool false)) (nt (rt (tr (vb (b':=false) rfl ?_))))
  obtain ⟨a0,a1,a2,a3⟩:=a
  obtain ⟨b0,b1,b2,b3⟩:=b
  simp_all
 refine sk (tn (sq (sr (lf (rd 2 Qi a.Clues) rfl Qah rfl rfl Qgc (lf (rd 2 Qi b.Clues) rfl Qah rfl rfl Qgc (cO (cS (vc (tv (rd 2 Qi a.Clues) rfl) (vc (tv (rd 2 Qi b.Clues) rfl) vn)) (ZQ rfl) (QdY (n+0) a.Clues b.Clues (by first | assumption | omega) (by first | assumption | omega)) rfl rfl) (fO (QY (tv (tB (decide (a.Clues=b.Clues))) rfl)) (nt ?_))))))))
 refine cn (a.Clues=b.Clues) rfl (fun fhc1=> ?_) fun fhc1=> ?_
 ·refine sr ?_
  refine fO (OF.assign (VEv.bool false)) (nt (rt (tr (vb (b':=false) rfl ?_))))
  obtain ⟨a0,a1,a2,a3⟩:=a
  obtain ⟨b0,b1,b2,b3⟩:=b
  simp_all
 refine sk (tn (sq (sr (lf (rd 1 Qc a.Seals) rfl Qav rfl rfl QcI (lf (rd 1 Qc b.Seals) rfl Qav rfl rfl QcI (cO (cS (vc (tv (rd 1 Qc a.Seals) rfl) (vc (tv (rd 1 Qc b.Seals) rfl) vn)) (ZQ rfl) (QeB (n+3) a.Seals b.Seals (by first | assumption | omega) (by first | assumption | omega)) rfl rfl) (fO (QY (tv (tB (decide (a.Seals=b.Seals))) rfl)) (nt ?_))))))))
 refine cn (a.Seals=b.Seals) rfl (fun fhc2=> ?_) fun fhc2=> ?_
 ·refine sr ?_
  refine fO (OF.assign (VEv.bool false)) (nt (rt (tr (vb (b':=false) rfl ?_))))
  obtain ⟨a0,a1,a2,a3⟩:=a
  obtain ⟨b0,b1,b2,b3⟩:=b
  simp_all
 refine sk (tn (sq (sr (lf (tI a.Salt) rfl Qba rfl rfl QV (lf (tI b.Salt) rfl Qba rfl rfl QV (fO (xne (tv (tI a.Salt) rfl) (tv (tI b.Salt) rfl)) (nt ?_)))))))
 refine cn (a.Salt=b.Salt) rfl (fun fhc3=> ?_) fun fhc3=> ?_
 ·refine sr ?_
  refine fO (OF.assign (VEv.bool false)) (nt (rt (tr (vb (b':=false) rfl ?_))))
  obtain ⟨a0,a1,a2,a3⟩:=a
  obtain ⟨b0,b1,b2,b3⟩:=b
  simp_all
 refine sk (tn (sr (fO (OF.assign (VEv.bool true)) (nt (rt (vb (b':=true) rfl ?_))))))
 obtain ⟨a0,a1,a2,a3⟩:=a
 obtain ⟨b0,b1,b2,b3⟩:=b
 simp_all
theorem QdC (n:Nat) (a:D.Issue) (b:D.Issue) (ha:Zd a≤mx) (hb:Zd b≤mx):Pure (Qo Tryz.prog (n+6)) 19 [(T.agg (QE false a)),(T.agg (QE false b))] (tB (decide (a=b))):=by
 refine Pure.intro (rs:= [ResultVar.tmp 4]) Tryz.func19 rfl rfl rfl (E0:= [(0,(T.agg (QE false a))),(1,(T.agg (QE false b)))]) rfl ?_
 obtain ⟨hlim,hmx,hmax⟩:=QF
 simp only [Zd] at ha hb
 refine sr (kO (B.box (ts:=(QE false a)) (tv (T.agg (QE false a)) rfl) nofun rfl) (kO (B.box (ts:=(QE false b)) (tv (T.agg (QE false b)) rfl) nofun rfl) (fO (OF.assign (VEv.bool false)) (nt (sq (sr (lf (tI a.Number) rfl QdL rfl rfl QV (lf (tI b.Number) rfl QdL rfl rfl QV (fO (xne (tv (tI a.Number) rfl) (tv (tI b.Number) rfl)) (nt ?_))))))))))
 refine cn (a.Number=b.Number) rfl (fun fhc0=> ?_) fun fhc0=> ?_
 ·refine sr ?_
  refine fO (OF.assign (VEv.bool false)) (nt (rt (tr (vb (b':=false) rfl ?_))))
  obtain ⟨a0,a1,a2,a3,a4⟩:=a
  obtain ⟨b0,b1,b2,b3,b4⟩:=b
  simp_all
 refine sk (tn (sq (sr (fO (OF.fieldAddrO (tv (T.op 0 0) rfl) Qa9) (lO (OL.loadOn (us:=(Qv false a.Puzzle)) (tv (T.op 0 1) rfl) rfl Qge Qdq (lb rfl) rfl) (fO (OF.fieldAddrO (tv (T.op 1 0) rfl) Qa9) (lO (OL.loadOn (us:=(Qv false b.Puzzle)) (tv (T.op 1 1) rfl) rfl Qge Qdq (lb rfl) rfl) (cO (cS (vc (tv (T.agg (Qv false a.Puzzle)) rfl) (vc (tv (T.agg (Qv false b.Puzzle)) rfl) vn)) (LendL.cons (lg Yh) (LendL.cons (lg Yh) ln)) (Qdf (n+0) a.Puzzle b.Puzzle (by first | assumption | omega) (by first | assumption | omega)) rfl rfl) (fO (QY (tv (tB (decide (a.Puzzle=b.Puzzle))) rfl)) (nt ?_))))))))))
 refine cn (a.Puzzle=b.Puzzle) rfl (fun fhc1=> ?_) fun fhc1=> ?_
 ·refine sr ?_
  refine fO (OF.assign (VEv.bool false)) (nt (rt (tr (vb (b':=false) rfl ?_))))
  obtain ⟨a0,a1,a2,a3,a4⟩:=a
  obtain ⟨b0,b1,b2,b3,b4⟩:=b
  simp_all
 refine sk (tn (sq (sr (lf (tS a.Fill) rfl Qbm rfl rfl ZN (lf (tS b.Fill) rfl Qbm rfl rfl ZN (fO (B.sneq (c:=(!(decide (a.Fill=b.Fill)))) (tv (tS a.Fill) rfl) (tv (tS b.Fill) rfl) rfl) (nt ?_)))))))
 refine cn (a.Fill=b.Fill) rfl (fun fhc2=> ?_) fun fhc2=> ?_
 ·refine sr ?_
  refine fO (OF.assign (VEv.bool false)) (nt (rt (tr (vb (b':=false) rfl ?_))))
  obtain ⟨a0,a1,a2,a3,a4⟩:=a
  obtain ⟨b0,b1,b2,b3,b4⟩:=b
  simp_all
 refine sk (tn (sq (sr (lf (tI a.Open) rfl Qbw rfl rfl QV (lf (tI b.Open) rfl Qbw rfl rfl QV (fO (xne (tv (tI a.Open) rfl) (tv (tI b.Open) rfl)) (nt ?_)))))))
 refine cn (a.Open=b.Open) rfl (fun fhc3=> ?_) fun fhc3=> ?_
 ·refine sr ?_
  refine fO (OF.assign (VEv.bool false)) (nt (rt (tr (vb (b':=false) rfl ?_))))
  obtain ⟨a0,a1,a2,a3,a4⟩:=a
  obtain ⟨b0,b1,b2,b3,b4⟩:=b
  simp_all
 refine sk (tn (sq (sr (lf (tI a.Close) rfl Qac rfl rfl QV (lf (tI b.Close) rfl Qac rfl rfl QV (fO (xne (tv (tI a.Close) rfl) (tv (tI b.Close) rfl)) (nt ?_)))))))
 refine cn (a.Close=b.Close) rfl (fun fhc4=> ?_) fun fhc4=> ?_
 ·refine sr ?_
  refine fO (OF.assign (VEv.bool false)) (nt (rt (tr (vb (b':=false) rfl ?_))))
  obtain ⟨a0,a1,a2,a3,a4⟩:=a
  obtain ⟨b0,b1,b2,b3,b4⟩:=b
  simp_all
 refine sk (tn (sr (fO (OF.assign (VEv.bool true)) (nt (rt (vb (b':=true) rfl ?_))))))
 obtain ⟨a0,a1,a2,a3,a4⟩:=a
 obtain ⟨b0,b1,b2,b3,b4⟩:=b
 simp_all
end Go.Proofs.YthifchndolccgaaGreatDoor.AE
namespace Go.Proofs.YthifchndolccgaaGreatDoor.AE
open Go Go.RowKit
set_option linter.unusedVariables false
set_option linter.unusedSimpArgs false
set_option maxRecDepth 20000
set_option maxHeartbeats 2000000
noncomputable section
theorem QT {ok:Nat→Prop} {i n:Nat} (h:i≤n∧∀j,j<i→ok j) (hi:i<n) (hk:ok i):i+1≤n∧∀j,j<i+1→ok j:=by
 refine ⟨hi,fun j hj=> ?_⟩
 rcases Nat.lt_or_ge j i with h1 | h1
 ·exact h.2 j h1
 ·obtain rfl:j=i:=by omega
  exact hk
theorem JU {ok:Nat→Prop} {i n:Nat} (h:i≤n∧∀j,j<i→ok j) (hi:¬i<n):∀j,j<n→ok j:=fun j hj=>h.2 j (by omega)
theorem QhK {α:Type} {l:List α} {i:Nat} {x y:α} (hx:l[i]? =some x) (hy:l[i]? =some y):y=x:=by
 rw [hx] at hy
 exact (Option.some.inj hy).symm
def Q7 (s:ByteArray):Prop:=(1≤s.size∧s.size≤8)∧∀i,i<s.size→97≤Qr s i∧Qr s i≤122
instance (s:ByteArray):Decidable (Q7 s):=Classical.propDecidable _
def ixF {α:Type} (p:α→Prop) [DecidablePred p]:List α→Int
 | []=> -1
 | x::r=>if p x then 0 else if ixF p r<0 then -1 else ixF p r+1
theorem Qcn {α:Type} {p:α→Prop} [DecidablePred p]:∀ {l:List α} {i:Nat} {x:α},l[i]? =some x→p x→(∀j y,j<i→l[j]? =some y→¬p y)→ixF p l=i
 | [],i,x,h,_,_=>by simp at h
 | y::r,0,x,h,hp,_=>by
  obtain rfl:y=x:=by simpa using h
  simp only [ixF,if_pos hp]
  rfl
 | y::r,i+1,x,h,hp,hn=>by
  have h1:=Qcn (l:=r) (i:=i) (by simpa using h) hp (fun j z hj hz=>hn (j+1) z (by omega) (by simpa using hz))
  have h2:¬p y:=hn 0 y (by omega) (by simp)
  simp only [ixF,if_neg h2,h1]
  rw [if_neg (by omega)]
  rfl
theorem QdJ {α:Type} {p:α→Prop} [DecidablePred p]:∀ {l:List α},(∀j y,j<l.length→l[j]? =some y→¬p y)→ixF p l= -1
 | [],_=>rfl
 | y::r,hn=>by
  have h1:=QdJ (l:=r) (fun j z hj hz=>hn (j+1) z (by simp;omega) (by simpa using hz))
  have h2:¬p y:=hn 0 y (by simp) (by simp)
  simp only [ixF,if_neg h2,h1]
  rfl
theorem Qg0 {α:Type} {p:α→Prop} [DecidablePred p]:∀ {l:List α},0≤ixF p l↔∃x∈l,p x
 | []=>by simp [ixF]
 | y::r=>by
  have h1:=Qg0 (p:=p) (l:=r)
  simp only [ixF,List.mem_cons,exists_eq_or_imp]
  by_cases hy:p y
  ·simp [hy]
  ·simp only [if_neg hy,hy,false_or]
   rw [← h1]
   by_cases h:ixF p r<0
   ·rw [if_pos h]
    exact ⟨fun h2=>absurd h2 (by decide),fun h2=>by omega⟩
   ·rw [if_neg h]
    exact ⟨fun h2=>by omega,fun h2=>by omega⟩
def NoneTo {α:Type} (p:α→Prop) (l:List α) (i:Nat):Prop:=i≤l.length∧∀j y,j<i→l[j]? =some y→¬p y
theorem NoneTo.start {α:Type} (p:α→Prop) (l:List α):NoneTo p l 0:=⟨Nat.zero_le _,fun j y hj=>by omega⟩
theorem NoneTo.next {α:Type} {p:α→Prop} {l:List α} {i:Nat} {x:α} (h:NoneTo p l i) (hx:l[i]? =some x) (hn:¬p x):NoneTo p l (i+1):=by
 have:=(List.getElem?_eq_some_iff.1 hx).1
 refine ⟨by omega,fun j y hj hy=> ?_⟩
 rcases Nat.lt_or_ge j i with h1 | h1
 ·exact h.2 j y h1 hy
 ·obtain rfl:j=i:=by omega
  rw [hx] at hy
  exact Option.some.inj hy▸hn
theorem NoneTo.all {α:Type} {p:α→Prop} {l:List α} {i:Nat} (h:NoneTo p l i) (hi:¬i<l.length):∀j y,j<l.length→l[j]? =some y→¬p y:=fun j y hj hy=>h.2 j y (by omega) hy
theorem NoneTo.mem {α:Type} {p:α→Prop} {l:List α} {i:Nat} (h:NoneTo p l i) (hi:¬i<l.length):∀y∈l,¬p y:=fun y hy=>by
 obtain ⟨j,hj⟩:=List.getElem?_of_mem hy
 exact h.all hi j y (List.getElem?_eq_some_iff.1 hj).1 hj
end
theorem QQ (n:Nat) (a:Int) (b:Int) (c:Int):Pure (Qo Tryz.prog (n+1)) 30 [(tI a),(tI b),(tI c)] (tB (decide (b≤a∧a≤c))):=by
 refine Pure.intro (rs:= [ResultVar.tmp 6]) Tryz.func30 rfl rfl rfl (E0:= [(0,(tI a)),(1,(tI b)),(2,(tI c))]) rfl ?_
 obtain ⟨hlim,hmx,hmax⟩:=QF
 refine sr (fO (OF.assign (VEv.bool false)) (nt (sr (mO (tI a) rfl (mO (tI b) rfl (fO (xge (tv (tI a) rfl) (tv (tI b) rfl)) (mO (tB (decide (b≤a))) rfl ?_)))))))
 refine gw (b≤a) (fun fhg10_1=> ?_) fun fhg10_1=> ?_
 ·refine gF (dy fhg10_1) rfl rfl (OF.move (tv (tI a) rfl)) ?_
  refine gF (dy fhg10_1) rfl rfl (OF.move (tv (tI c) rfl)) (gF (dy fhg10_1) rfl rfl (xle (tv (tI a) rfl) (tv (tI c) rfl)) (fO (OF.pickT (VEv.tmpB rfl (dy fhg10_1)) (tv (tB (decide (a≤c))) rfl)) (aO (tB (decide (a≤c))) rfl (nt (rt (vb (b':=(decide (a≤c))) rfl ?_))))))
  exact Q4 (by omega)
 refine Qx 3 3 true 10 (dz fhg10_1) rfl rfl rfl (fO (OF.pickF (VEv.tmpB rfl (dz fhg10_1)) (VEv.bool false)) (aO (tB false) rfl (nt (rt (vb (b':=false) rfl ?_)))))
 (symm;rw [decide_eq_false_iff_not];omega)
theorem Q9 (n:Nat) (a:Int) (b:Int) (c:Int):Pure (Qo Tryz.prog (n+1)) 36 [(tI a),(tI b),(tI c)] (tB (decide (b≤a∧a≤c))):=by
 refine Pure.intro (rs:= [ResultVar.tmp 6]) Tryz.func36 rfl rfl rfl (E0:= [(0,(tI a)),(1,(tI b)),(2,(tI c))]) rfl ?_
 obtain ⟨hlim,hmx,hmax⟩:=QF
 refine sr (fO (OF.assign (VEv.bool false)) (nt (sr (mO (tI b) rfl (mO (tI a) rfl (fO (xle (tv (tI b) rfl) (tv (tI a) rfl)) (mO (tB (decide (b≤a))) rfl ?_)))))))
 refine gw (b≤a) (fun fhg10_1=> ?_) fun fhg10_1=> ?_
 ·refine gF (dy fhg10_1) rfl rfl (OF.move (tv (tI a) rfl)) ?_
  refine gF (dy fhg10_1) rfl rfl (OF.move (tv (tI c) rfl)) (gF (dy fhg10_1) rfl rfl (xle (tv (tI a) rfl) (tv (tI c) rfl)) (fO (OF.pickT (VEv.tmpB rfl (dy fhg10_1)) (tv (tB (decide (a≤c))) rfl)) (aO (tB (decide (a≤c))) rfl (nt (rt (vb (b':=(decide (a≤c))) rfl ?_))))))
  exact Q4 (by omega)
 refine Qx 3 3 true 10 (dz fhg10_1) rfl rfl rfl (fO (OF.pickF (VEv.tmpB rfl (dz fhg10_1)) (VEv.bool false)) (aO (tB false) rfl (nt (rt (vb (b':=false) rfl ?_)))))
 (symm;rw [decide_eq_false_iff_not];omega)
theorem YZ (n:Nat) (a:Int):Pure (Qo Tryz.prog (n+1)) 108 [(T.int .u8 a)] (tB (decide (97≤a∧a≤122))):=by
 refine Pure.intro (rs:= [ResultVar.tmp 2]) Tryz.func108 rfl rfl rfl (E0:= [(0,(T.int .u8 a))]) rfl ?_
 obtain ⟨hlim,hmx,hmax⟩:=QF
 refine sr (fO (OF.assign (VEv.bool false)) (nt (sr (mO (T.int .u8 a) rfl (fO (xge (tv (T.int .u8 a) rfl) (VEv.int .u8 97)) (mO (tB (decide (97≤a))) rfl ?_))))))
 refine gw (97≤a) (fun fhg5_1=> ?_) fun fhg5_1=> ?_
 ·refine gF (dy fhg5_1) rfl rfl (OF.move (tv (T.int .u8 a) rfl)) ?_
  refine gF (dy fhg5_1) rfl rfl (xle (tv (T.int .u8 a) rfl) (VEv.int .u8 122)) (fO (OF.pickT (VEv.tmpB rfl (dy fhg5_1)) (tv (tB (decide (a≤122))) rfl)) (aO (tB (decide (a≤122))) rfl (nt (rt (vb (b':=(decide (a≤122))) rfl ?_)))))
  exact Q4 (by omega)
 refine Qx 2 2 true 5 (dz fhg5_1) rfl rfl rfl (fO (OF.pickF (VEv.tmpB rfl (dz fhg5_1)) (VEv.bool false)) (aO (tB false) rfl (nt (rt (vb (b':=false) rfl ?_)))))
 (symm;rw [decide_eq_false_iff_not];omega)
theorem YI (n:Nat) (a:Int) (b:Int):Pure (Qo Tryz.prog (n+1)) 106 [(tI a),(tI b)] (tB (decide (0≤a∧a<b))):=by
 refine Pure.intro (rs:= [ResultVar.tmp 4]) Tryz.func106 rfl rfl rfl (E0:= [(0,(tI a)),(1,(tI b))]) rfl ?_
 obtain ⟨hlim,hmx,hmax⟩:=QF
 refine sr (fO (OF.assign (VEv.bool false)) (nt (sr (mO (tI a) rfl (fO (xge (tv (tI a) rfl) (VEv.int .i64 0)) (mO (tB (decide (0≤a))) rfl ?_))))))
 refine gw (0≤a) (fun fhg7_1=> ?_) fun fhg7_1=> ?_
 ·refine gF (dy fhg7_1) rfl rfl (OF.move (tv (tI a) rfl)) ?_
  refine gF (dy fhg7_1) rfl rfl (OF.move (tv (tI b) rfl)) (gF (dy fhg7_1) rfl rfl (xls (tv (tI a) rfl) (tv (tI b) rfl)) (fO (OF.pickT (VEv.tmpB rfl (dy fhg7_1)) (tv (tB (decide (a<b))) rfl)) (aO (tB (decide (a<b))) rfl (nt (rt (vb (b':=(decide (a<b))) rfl ?_))))))
  exact Q4 (by omega)
 refine Qx 3 2 true 7 (dz fhg7_1) rfl rfl rfl (fO (OF.pickF (VEv.tmpB rfl (dz fhg7_1)) (VEv.bool false)) (aO (tB false) rfl (nt (rt (vb (b':=false) rfl ?_)))))
 (symm;rw [decide_eq_false_iff_not];omega)
theorem JN (n:Nat) (a:ByteArray) (ha:a.size≤maxLen):Pure (Qo Tryz.prog (n+2)) 129 [(tS a)] (tB (decide (Q7 a))):=by
 refine Pure.intro (rs:= [ResultVar.tmp 2]) Tryz.func129 rfl rfl rfl (E0:= [(0,(tS a))]) rfl ?_
 obtain ⟨hlim,hmx,hmax⟩:=QF
 refine sr (fO (OF.assign (VEv.bool false)) (nt (sq (sr (mO (tS a) rfl (lO (B.lenS (tv (tS a) rfl) U9) (cO (cS (vc (tv (tN a.size) rfl) (vc (VEv.int .i64 1) (vc (VEv.int .i64 8) vn))) (ZQ rfl) (QQ (n+0) ((a.size:Nat):Int) 1 8) rfl rfl) (fO (QY (tv (tB (decide (1≤((a.size:Nat):Int)∧((a.size:Nat):Int)≤8))) rfl)) (nt ?_)))))))))
 refine cn (1≤((a.size:Nat):Int)∧((a.size:Nat):Int)≤8) rfl (fun fhc0=> ?_) fun fhc0=> ?_
 ·refine sr ?_
  refine fO (OF.assign (VEv.bool false)) (nt (rt (tr (vb (b':=false) rfl ?_))))
  symm;rw [decide_eq_false_iff_not];rintro ⟨h1,_⟩;omega
 refine sk (tn (sq (sr (fO (OF.assign (VEv.int .i64 0)) (nt (VRun.block ?_))))))
 refine VRun.loop (A:=Nat) (fun s_=> [(0,(tS a)),(3,(tN s_))]) (fun s_=>Q0 []) 0 (fun s_=>s_≤a.size∧∀j,j<s_→97≤Qr a j∧Qr a j≤122) (fun s_=>a.size - s_) (0:Nat) ?_ (Wk.mk (fun k=>k) ?_ ?_ ?_) ?_
 ·exact ⟨Nat.zero_le _,fun j hj=>by omega⟩
 ·exact (b2 (b2 bn))
 ·exact bn
 ·exact nd rfl
 rintro i (hI':i≤a.size∧∀j,j<i→97≤Qr a j∧Qr a j≤122)
 show VRun _ _ _ [(0,(tS a)),(3,(tN i))] (Q0 []) 0 _
 refine sq (sr (mO (tN i) rfl (mO (tS a) rfl (lO (B.lenS (tv (tS a) rfl) U9) (fO (Ze (tv (tN i) rfl) (tv (tN a.size) rfl)) (nt ?_))))))
 refine cd (i<a.size) rfl (fun fhc1=> ?_) fun fhc1=> ?_
 ·refine sk ?_
  refine tn (sq (VRun.block (sr (mO (tS a) rfl (mO (tN i) rfl ?_)))))
  have hb1:i<a.size:=(by omega)
  refine fO (Js (tv (tS a) rfl) (tv (tN i) rfl) hb1 U9) (fO (xls (tv (T.int .u8 (Qr a i)) rfl) (VEv.int .u8 97)) (mO (tB (decide (Qr a i<97))) rfl ?_))
  refine gw (Qr a i<97) (fun fhg18_2=> ?_) fun fhg18_2=> ?_
  ·refine Qx 4 4 false 18 (dy fhg18_2) rfl rfl rfl ?_
   refine fO (OF.pickT (VEv.tmpB rfl (dy fhg18_2)) (VEv.bool true)) (nt (ct rfl (sr (fO (OF.assign (VEv.bool false)) (nt (rt (vinB.r (tr (tr (vinB.r (tr ?_)))))))))))
   refine vb (b':=false) rfl ?_
   symm;rw [decide_eq_false_iff_not];rintro ⟨_,h2⟩;have:=h2 i fhc1;omega
  refine gF (dz fhg18_2) rfl rfl (OF.move (tv (tS a) rfl)) (gF (dz fhg18_2) rfl rfl (OF.move (tv (tN i) rfl)) ?_)
  have hb3:i<a.size:=(by omega)
  refine gF (dz fhg18_2) rfl rfl (Js (tv (tS a) rfl) (tv (tN i) rfl) hb3 U9) (gF (dz fhg18_2) rfl rfl (xgt (tv (T.int .u8 (Qr a i)) rfl) (VEv.int .u8 122)) (fO (OF.pickF (VEv.tmpB rfl (dz fhg18_2)) (tv (tB (decide (122<Qr a i))) rfl)) (nt ?_)))
  refine cd (122<Qr a i) rfl (fun fhc2=> ?_) fun fhc2=> ?_
  ·refine sr ?_
   refine fO (OF.assign (VEv.bool false)) (nt (rt (vinB.r (tr (tr (vinB.r (tr (vb (b':=false) rfl ?_))))))))
   symm;rw [decide_eq_false_iff_not];rintro ⟨_,h2⟩;have:=h2 i fhc1;omega
  refine sk (vinB.n (tn (VRun.region (mO (tN i) rfl (fO (QA (tv (tN i) rfl) (VEv.int .i64 1) (by omega)) (aO (tN (i+1)) rfl (VRunO.nil (tn ?_))))))))
  refine ⟨(i+1:Nat),?_,?_,Wk.mk (fun k=>k) ?_ ?_ ?_⟩
  ·exact QT (ok:=fun j=>97≤Qr a j∧Qr a j≤122) hI' fhc1 (by omega)
  ·omega
  ·exact (b2 (b2 bn))
  ·exact bn
  ·exact nd rfl
 refine VRun.exit (vthn.e (vthn.e (vinB.e (tn (sr (fO (OF.assign (VEv.bool true)) (nt (rt (vb (b':=true) rfl ?_)))))))))
 symm;rw [decide_eq_true_eq];exact ⟨by omega,JU hI' fhc1⟩
theorem JM (n:Nat) (a:ByteArray) (ha:a.size≤maxLen):Pure (Qo Tryz.prog (n+2)) 109 [(tS a)] (tB (decide (Q7 a))):=by
 refine Pure.intro (rs:= [ResultVar.tmp 2]) Tryz.func109 rfl rfl rfl (E0:= [(0,(tS a))]) rfl ?_
 obtain ⟨hlim,hmx,hmax⟩:=QF
 refine sr (fO (OF.assign (VEv.bool false)) (nt (sq (sr (mO (tS a) rfl (lO (B.lenS (tv (tS a) rfl) U9) (cO (cS (vc (tv (tN a.size) rfl) (vc (VEv.int .i64 1) (vc (VEv.int .i64 8) vn))) (ZQ rfl) (Q9 (n+0) ((a.size:Nat):Int) 1 8) rfl rfl) (fO (QY (tv (tB (decide (1≤((a.size:Nat):Int)∧((a.size:Nat):Int)≤8))) rfl)) (nt ?_)))))))))
 refine cn (1≤((a.size:Nat):Int)∧((a.size:Nat):Int)≤8) rfl (fun fhc0=> ?_) fun fhc0=> ?_
 ·refine sr ?_
  refine fO (OF.assign (VEv.bool false)) (nt (rt (tr (vb (b':=false) rfl ?_))))
  symm;rw [decide_eq_false_iff_not];rintro ⟨h1,_⟩;omega
 refine sk (tn (sq (sr (mO (tS a) rfl (lO (B.lenS (tv (tS a) rfl) U9) (fO (OF.move (VEv.int .i64 0)) (nt (VRun.block ?_))))))))
 refine VRun.loop (A:=Nat) (fun s_=> [(0,(tS a)),(9,(tN a.size)),(10,(tN s_))]) (fun s_=>Q0 []) 0 (fun s_=>s_≤a.size∧∀j,j<s_→97≤Qr a j∧Qr a j≤122) (fun s_=>a.size - s_) (0:Nat) ?_ (Wk.mk (fun k=>k) ?_ ?_ ?_) ?_
 ·exact ⟨Nat.zero_le _,fun j hj=>by omega⟩
 ·exact (b2 (b2 (b2 bn)))
 ·exact bn
 ·exact nd rfl
 rintro i (hI':i≤a.size∧∀j,j<i→97≤Qr a j∧Qr a j≤122)
 show VRun _ _ _ [(0,(tS a)),(9,(tN a.size)),(10,(tN i))] (Q0 []) 0 _
 refine sr (fO (Ze (tv (tN i) rfl) (tv (tN a.size) rfl)) (nt (sq ?_)))
 refine cd (i<a.size) rfl (fun fhc1=> ?_) fun fhc1=> ?_
 ·refine sk ?_
  refine tn (sq (VRun.block (sr (mO (tN i) rfl (aO (tN i) rfl (nt (sr (mO (tS a) rfl (mO (tN i) rfl ?_)))))))))
  have hb1:i<a.size:=(by omega)
  refine fO (Js (tv (tS a) rfl) (tv (tN i) rfl) hb1 U9) (cO (cS (vc (tv (T.int .u8 (Qr a i)) rfl) vn) (ZQ rfl) (YZ (n+0) (Qr a i)) rfl rfl) (fO (QY (tv (tB (decide (97≤(Qr a i)∧(Qr a i)≤122))) rfl)) (nt ?_)))
  refine cn (97≤(Qr a i)∧(Qr a i)≤122) rfl (fun fhc2=> ?_) fun fhc2=> ?_
  ·refine sr ?_
   refine fO (OF.assign (VEv.bool false)) (nt (rt (vinB.r (tr (tr (vinB.r (tr (vb (b':=false) rfl ?_))))))))
   symm;rw [decide_eq_false_iff_not];rintro ⟨_,h2⟩;have:=h2 i fhc1;omega
  refine sk (vinB.n (tn (VRun.region (fO (QA (tv (tN i) rfl) (VEv.int .i64 1) (by omega)) (mO (tN (i+1)) rfl (VRunO.nil (tn ?_)))))))
  refine ⟨(i+1:Nat),?_,?_,Wk.mk (fun k=>k) ?_ ?_ ?_⟩
  ·exact QT (ok:=fun j=>97≤Qr a j∧Qr a j≤122) hI' fhc1 (by omega)
  ·omega
  ·exact (b2 (b2 (b2 bn)))
  ·exact bn
  ·exact nd rfl
 refine VRun.exit (vthn.e (vthn.e (vinB.e (tn (sr (fO (OF.assign (VEv.bool true)) (nt (rt (vb (b':=true) rfl ?_)))))))))
 symm;rw [decide_eq_true_eq];exact ⟨by omega,JU hI' fhc1⟩
end Go.Proofs.YthifchndolccgaaGreatDoor.AE
namespace Go.Proofs.YthifchndolccgaaGreatDoor.AE
open Go Go.RowKit
set_option linter.unusedVariables false
set_option linter.unusedSimpArgs false
set_option maxRecDepth 20000
set_option maxHeartbeats 2000000
noncomputable section
def two (k:Int):Prop:=k=4∨k=5
def YY (l:List D.Step) (j:Nat):Prop:=∃x,l[j]? =some x∧(1≤x.Kind∧x.Kind≤9)∧(x.Kind=1→Q7 x.Word∧x.A=0∧x.B=0) ∧
 (¬x.Kind=1→x.Word=(⟨#[]⟩:ByteArray)∧(0≤x.A∧x.A<(j:Int))∧(two x.Kind→0≤x.B∧x.B<(j:Int))∧(¬two x.Kind→x.B=0)∧(¬two x.Kind→¬x.Kind=2→∃y,l[x.A.toNat]? =some y∧y.Kind=1))
instance (l:List D.Step) (j:Nat):Decidable (YY l j):=Classical.propDecidable _
def ZX (l:List D.Step):Prop:=(1≤l.length∧l.length≤9)∧∀j,j<l.length→YY l j
instance (l:List D.Step):Decidable (ZX l):=Classical.propDecidable _
def QcQ (l:List D.Step) (j:Nat) (x:D.Step):Prop:=(1≤x.Kind∧x.Kind≤9)∧(x.Kind=1→Q7 x.Word∧x.A=0∧x.B=0) ∧
 (¬x.Kind=1→x.Word=(⟨#[]⟩:ByteArray)∧(0≤x.A∧x.A<(j:Int))∧(two x.Kind→0≤x.B∧x.B<(j:Int))∧(¬two x.Kind→x.B=0)∧(¬two x.Kind→¬x.Kind=2→∃y,l[x.A.toNat]? =some y∧y.Kind=1))
theorem QB {l:List D.Step} {j:Nat} {x:D.Step} (hx:l[j]? =some x):YY l j↔QcQ l j x:=by
 constructor
 ·rintro ⟨y,hy,h⟩
  obtain rfl:=QhK hx hy
  exact h
 ·intro h
  exact ⟨x,hx,h⟩
theorem Qmq {l:List D.Step} {k:Nat} {y:D.Step} (hy:l[k]? =some y):(∃z,l[k]? =some z∧z.Kind=1)↔y.Kind=1:=by
 constructor
 ·rintro ⟨z,hz,h⟩
  obtain rfl:=QhK hy hz
  exact h
 ·intro h
  exact ⟨y,hy,h⟩
theorem Ql4 {l:List D.Step} {j:Nat} {x y:D.Step} (hx:l[j]? =some x) (hy:l[x.A.toNat]? =some y) (h1:1≤x.Kind∧x.Kind≤9) (h2:¬x.Kind=1) (h3:x.Word=(⟨#[]⟩:ByteArray)) (h4:0≤x.A∧x.A<(j:Int)) (h5:x.B=0) (h6:¬two x.Kind) (h7:¬x.Kind=2):decide (y.Kind=1)=decide (YY l j):=by
 refine Q4 ?_
 rw [QB hx]
 simp only [QcQ,Qmq hy]
 exact ⟨fun h=>⟨h1,fun hk=>absurd hk h2,fun _=>⟨h3,h4,fun h=>absurd h h6,fun _=>h5,fun _ _=>h⟩⟩,fun h=>(h.2.2 h2).2.2.2.2 h6 h7⟩
theorem QlQ {l:List D.Step} {j:Nat} {x:D.Step} (hx:l[j]? =some x) (h1:1≤x.Kind∧x.Kind≤9) (h2:x.Kind=1) (h3:Q7 x.Word) (h4:x.A=0):decide (x.B=0)=decide (YY l j):=by
 refine Q4 ?_
 rw [QB hx]
 simp only [QcQ]
 exact ⟨fun h=>⟨h1,fun _=>⟨h3,h4,h⟩,fun hk=>absurd h2 hk⟩,fun h=>(h.2.1 h2).2.2⟩
theorem Zc : ¬Q7 (⟨#[]⟩:ByteArray):=fun h=>absurd h.1.1 (by decide)
end
theorem Qcy (n:Nat) (a:Int):Pure (Qo Tryz.prog (n+1)) 110 [(tI a)] (tB (decide (a=3∨6≤a))):=by
 refine Pure.intro (rs:= [ResultVar.tmp 2]) Tryz.func110 rfl rfl rfl (E0:= [(0,(tI a))]) rfl ?_
 obtain ⟨hlim,hmx,hmax⟩:=QF
 refine sr (fO (OF.assign (VEv.bool false)) (nt (sr (mO (tI a) rfl (fO (YF (tv (tI a) rfl) (VEv.int .i64 3)) (mO (tB (decide (a=3))) rfl ?_))))))
 refine gw (a=3) (fun fhg5_1=> ?_) fun fhg5_1=> ?_
 ·refine Qx 2 2 false 5 (dy fhg5_1) rfl rfl rfl ?_
  refine fO (OF.pickT (VEv.tmpB rfl (dy fhg5_1)) (VEv.bool true)) (aO (tB true) rfl (nt (rt (vb (b':=true) rfl ?_))))
  (symm;rw [decide_eq_true_eq];omega)
 refine gF (dz fhg5_1) rfl rfl (OF.move (tv (tI a) rfl)) (gF (dz fhg5_1) rfl rfl (xge (tv (tI a) rfl) (VEv.int .i64 6)) (fO (OF.pickF (VEv.tmpB rfl (dz fhg5_1)) (tv (tB (decide (6≤a))) rfl)) (aO (tB (decide (6≤a))) rfl (nt (rt (vb (b':=(decide (6≤a))) rfl ?_))))))
 exact Q4 (by omega)
theorem ZS (n:Nat) (a:Int):Pure (Qo Tryz.prog (n+1)) 111 [(tI a)] (tB (decide (a=4∨a=5))):=by
 refine Pure.intro (rs:= [ResultVar.tmp 2]) Tryz.func111 rfl rfl rfl (E0:= [(0,(tI a))]) rfl ?_
 obtain ⟨hlim,hmx,hmax⟩:=QF
 refine sr (fO (OF.assign (VEv.bool false)) (nt (sr (mO (tI a) rfl (fO (YF (tv (tI a) rfl) (VEv.int .i64 4)) (mO (tB (decide (a=4))) rfl ?_))))))
 refine gw (a=4) (fun fhg5_1=> ?_) fun fhg5_1=> ?_
 ·refine Qx 2 2 false 5 (dy fhg5_1) rfl rfl rfl ?_
  refine fO (OF.pickT (VEv.tmpB rfl (dy fhg5_1)) (VEv.bool true)) (aO (tB true) rfl (nt (rt (vb (b':=true) rfl ?_))))
  (symm;rw [decide_eq_true_eq];omega)
 refine gF (dz fhg5_1) rfl rfl (OF.move (tv (tI a) rfl)) (gF (dz fhg5_1) rfl rfl (YF (tv (tI a) rfl) (VEv.int .i64 5)) (fO (OF.pickF (VEv.tmpB rfl (dz fhg5_1)) (tv (tB (decide (a=5))) rfl)) (aO (tB (decide (a=5))) rfl (nt (rt (vb (b':=(decide (a=5))) rfl ?_))))))
 exact Q4 (by omega)
theorem Qfi (n:Nat) (a:List D.Step) (i:Nat) (hz:zL Zk a≤mx) (hi:i<a.length):Pure (Qo Tryz.prog (n+3)) 96 [(rd 4 Qm a),(tN i)] (tB (decide (YY a i))):=by
 refine Pure.intro (rs:= [ResultVar.tmp 4]) Tryz.func96 rfl rfl rfl (E0:= [(0,(rd 4 Qm a)),(1,(tN i))]) rfl ?_
 obtain ⟨hlim,hmx,hmax⟩:=QF
 have ha:=Zf (z:=Zk) a
 have hw:∀x∈a,x.Word.size≤maxLen:=fun x hx=>by have h1:=QjA (z:=Zk) hx;simp only [Zk] at h1;omega
 refine sr (fO (OF.assign (VEv.bool false)) (nt (sr (mO (rd 4 Qm a) rfl (mO (tN i) rfl ?_)))))
 obtain ⟨x1,hx1⟩:∃x,a[i]? =some x:=⟨_,List.getElem?_eq_getElem (by omega)⟩
 refine fO (OF.indexAddrR (row:=(Qm false x1)) (i:=i) (tv (rd 4 Qm a) rfl) (tv (tN i) rfl) rfl (Qw _ hx1) U72 Yn Qas) (lO (OL.loadRn (us:=(Qm false x1)) (tv (T.rp (Qm false x1)) rfl) Qfb Yn (lb rfl) rfl) (kO (B.alloc (t:=(T.agg [(tN 0),(tS ByteArray.empty),(tN 0),(tN 0)])) (ts:= [(tN 0),(tS ByteArray.empty),(tN 0),(tN 0)]) QfZ QgI nofun (fun _=> .agg _ _ rfl (Y8 (RL.cons (.int _ _) (RL.cons (.str _) (RL.cons (.int _ _) (RL.cons (.int _ _) (RL.nil _))))))) rfl) (cO (B.storeW (us:=(Qm false x1)) (tv (T.op 0 0) rfl) (tv (T.agg (Qm false x1)) rfl) nofun rfl rfl rfl Qas Yn (bc rfl (bc rfl (bc rfl (bc rfl bn))))) (nt (sq (sq (VRun.draw (B:= [[],[0],[0,1],[1,0,2],[2,0,1,3],[3,1,0,2,4],[4,2,0,1,3,5],[5,3,1,0,2,4,6],[3,1,0,2,4],[4,2,0,1,3,8],[8,3,1,0,2,4,9],[9,8,10,6,4,2,0,1,3,5,7],[7,5,6,10,8,9,11,3,1,0,2,4],[4,2,0,1,3,11,9,8,10,6,5,7,12],[12,7,5,6,10,8,9,11,3,1,0,2,4,13],[13,4,2,0,1,3,11,9,8,10,6,5,7,12,14],[14,12,7,5,6,10,8,9,11,3,1,0,2,4,13,15],[15,13,4,2,0,1,3,11,9,8,10,6,5,7,12,14,16],[16,14,12,7,5,6,10,8,9,11,3,1,0,2,4,13,15,17],[17,15,13,4,2,0,1,3,11,9,8,10,6,5,7,12,14,16,18],[18,16,14,12,7,5,6,10,8,9,11,3,1,0,2,4,13,15,17,19],[19,18,20,16,14,12,7,5,6,10,8,9,11,3,1,0,2,4,13,15,17],[17,15,14,16,20,18,19,21,12,7,5,6,10,8,9,11,3,1,0,2,4,13]]) (by kernel_rfl) (by kernel_rfl) (fD (OF.fieldAddrO (tv (T.op 0 0) rfl) Q2) rfl rfl (lD (OL.loadO1 (t:=(tI x1.Kind)) (tv (T.op 0 0) rfl) rfl rfl QV) rfl rfl (VRunD.quiet (bi:= [0,1]) rfl VWant.always rfl rfl rfl bn (cS (vc (tv (tI x1.Kind) rfl) (vc (VEv.int .i64 1) (vc (VEv.int .i64 9) vn))) (ZQ rfl) (QQ (n+1) x1.Kind 1 9) rfl rfl) (fD (QY (tv (tB (decide (1≤x1.Kind∧x1.Kind≤9))) rfl)) rfl rfl ?_)))))))))))
 refine mD (tB (!(decide (1≤x1.Kind∧x1.Kind≤9)))) rfl rfl ?_
 refine gn (1≤x1.Kind∧x1.Kind≤9) (fun fhg15_1=> ?_) fun fhg15_1=> ?_
 ·refine oD rfl rfl (ny fhg15_1) rfl ?_
  refine oD rfl rfl (ny fhg15_1) rfl (oD rfl rfl (ny fhg15_1) rfl (oD rfl rfl (ny fhg15_1) rfl (oD rfl rfl (ny fhg15_1) rfl (oD rfl rfl (ny fhg15_1) rfl (oD rfl rfl (ny fhg15_1) rfl (fD (OF.pickT (VEv.tmpB rfl (ny fhg15_1)) (VEv.bool true)) rfl rfl (mD (tB true) rfl rfl (VRunD.off rfl (VWant.not (b:=true) rfl rfl rfl) (VRunD.off rfl (VWant.not (b:=true) rfl rfl rfl) (VRunD.off rfl (VWant.not (b:=true) rfl rfl rfl) (VRunD.off rfl (VWant.not (b:=true) rfl rfl rfl) ?_)))))))))))
  refine uD rfl rfl rfl (uD rfl rfl rfl (uD rfl rfl rfl (VRunD.off rfl (VWant.not (b:=true) rfl rfl rfl) (fD (OF.pickT (tv (tB true) rfl) (VEv.bool true)) rfl rfl (VRunD.nil (tn (ct rfl (sr (fO (OF.assign (VEv.bool false)) (nt (rt ?_)))))))))))
  refine tr (vb (b':=false) rfl ?_)
  (symm;rw [decide_eq_false_iff_not,QB hx1];rintro ⟨h1,h2,h3⟩;by_cases hk:x1.Kind=1<;>simp only [hk,two] at* <;>omega)
 refine VRunD.free rfl (VWant.on rfl rfl (nz fhg15_1)) rfl (OF.fieldAddrO (tv (T.op 0 0) rfl) Q2) (VRunD.look rfl (VWant.on rfl rfl (nz fhg15_1)) rfl (OL.loadO1 (t:=(tI x1.Kind)) (tv (T.op 0 0) rfl) rfl rfl QV) (VRunD.free rfl (VWant.on rfl rfl (nz fhg15_1)) rfl (YF (tv (tI x1.Kind) rfl) (VEv.int .i64 1)) (VRunD.free rfl (VWant.on rfl rfl (nz fhg15_1)) rfl (OF.fieldAddrO (tv (T.op 0 0) rfl) Qag) (VRunD.look rfl (VWant.on rfl rfl (nz fhg15_1)) rfl (OL.loadO1 (t:=(tS x1.Word)) (tv (T.op 0 1) rfl) rfl rfl ZN) (VRunD.quiet (bi:= [8,3,1,0,2,4,9]) rfl (VWant.on rfl rfl (nz fhg15_1)) rfl rfl rfl bn (cS (vc (tv (tS x1.Word) rfl) vn) (ZQ rfl) (JN (n+0) x1.Word (by exact hw _ (List.mem_of_getElem? hx1))) rfl rfl) (VRunD.free rfl (VWant.on rfl rfl (nz fhg15_1)) rfl (B.bneq U4 (c:=(!((decide (x1.Kind=1)) == (decide (Q7 x1.Word))))) (tv (tB (decide (x1.Kind=1))) rfl) (tv (tB (decide (Q7 x1.Word))) rfl) rfl) (fD (OF.pickF (VEv.tmpB rfl (nz fhg15_1)) (tv (tB (!((decide (x1.Kind=1)) == (decide (Q7 x1.Word))))) rfl)) rfl rfl (mD (tB (!((decide (x1.Kind=1)) == (decide (Q7 x1.Word))))) rfl rfl ?_))))))))
 refine Qb1 (!((decide (x1.Kind=1)) == (decide (Q7 x1.Word)))) (fun hg24_2=> ?_) (fun hg24_2=> ?_)
 ·have fhg24_2:(!((decide (x1.Kind=1)) == (decide (Q7 x1.Word))))=true:=hg24_2
  refine oD rfl rfl hg24_2 rfl (oD rfl rfl hg24_2 rfl (oD rfl rfl hg24_2 rfl (oD rfl rfl hg24_2 rfl (uD rfl rfl rfl (uD rfl rfl rfl (uD rfl rfl rfl (oD rfl rfl hg24_2 rfl (fD (OF.pickT (VEv.tmpB rfl hg24_2) (VEv.bool true)) rfl rfl (VRunD.nil (tn (ct rfl ?_)))))))))))
  refine sr (fO (OF.assign (VEv.bool false)) (nt (rt (tr (vb (b':=false) rfl ?_)))))
  (symm;rw [decide_eq_false_iff_not,QB hx1];rintro ⟨h1,h2,h3⟩;by_cases hk:x1.Kind=1<;>simp only [hk,two] at* <;>(simp_all [Zc];done))
 have fhg24_2:(!((decide (x1.Kind=1)) == (decide (Q7 x1.Word))))=false:=hg24_2
 refine VRunD.free rfl (VWant.on rfl rfl hg24_2) rfl (OF.fieldAddrO (tv (T.op 0 0) rfl) Q2) (VRunD.look rfl (VWant.on rfl rfl hg24_2) rfl (OL.loadO1 (t:=(tI x1.Kind)) (tv (T.op 0 0) rfl) rfl rfl QV) (VRunD.free rfl (VWant.on rfl rfl hg24_2) rfl (xne (tv (tI x1.Kind) rfl) (VEv.int .i64 1)) (VRunD.free rfl (VWant.on rfl rfl hg24_2) rfl (OF.move (tv (tB (!(decide (x1.Kind=1)))) rfl)) ?_)))
 refine gn (x1.Kind=1) (fun fhg28_3=> ?_) fun fhg28_3=> ?_
 ·refine VRunD.free rfl (VWant.on rfl rfl (ny fhg28_3)) rfl (OF.fieldAddrO (tv (T.op 0 0) rfl) Qag) ?_
  refine VRunD.look rfl (VWant.on rfl rfl (ny fhg28_3)) rfl (OL.loadO1 (t:=(tS x1.Word)) (tv (T.op 0 1) rfl) rfl rfl ZN) (VRunD.free rfl (VWant.on rfl rfl (ny fhg28_3)) rfl (B.sneq (c:=(!(decide (x1.Word=(⟨#[]⟩:ByteArray))))) (tv (tS x1.Word) rfl) (VEv.str (⟨#[]⟩:ByteArray)) rfl) (VRunD.free rfl (VWant.on rfl rfl hg24_2) rfl (OF.pickT (VEv.tmpB rfl (ny fhg28_3)) (tv (tB (!(decide (x1.Word=(⟨#[]⟩:ByteArray))))) rfl)) (fD (OF.pickF (VEv.tmpB rfl hg24_2) (tv (tB (!(decide (x1.Word=(⟨#[]⟩:ByteArray))))) rfl)) rfl rfl (VRunD.nil (tn ?_)))))
  refine cn (x1.Word=(⟨#[]⟩:ByteArray)) rfl (fun fhc0=> ?_) fun fhc0=> ?_
  ·refine sr ?_
   refine fO (OF.assign (VEv.bool false)) (nt (rt (tr (vb (b':=false) rfl ?_))))
   (symm;rw [decide_eq_false_iff_not,QB hx1];rintro ⟨h1,h2,h3⟩;by_cases hk:x1.Kind=1<;>simp only [hk,two] at* <;>(simp_all [Zc];done))
  refine sk (tn (sr (lf (tI x1.Kind) rfl Q2 rfl rfl QV (fO (YF (tv (tI x1.Kind) rfl) (VEv.int .i64 4)) (mO (tB (decide (x1.Kind=4))) rfl ?_)))))
  refine gw (x1.Kind=4) (fun fhg37_4=> ?_) fun fhg37_4=> ?_
  ·refine Qx 3 3 false 37 (dy fhg37_4) rfl rfl rfl ?_
   refine fO (OF.pickT (VEv.tmpB rfl (dy fhg37_4)) (VEv.bool true)) (aO (tB true) rfl (nt (sq (sr (lf (tI x1.Kind) rfl Q2 rfl rfl QV (fO (YF (tv (tI x1.Kind) rfl) (VEv.int .i64 1)) (nt (cg (dz fhg28_3) rfl (sk (tn (sq ?_)))))))))))
   refine sr (lf (tI x1.A) rfl Ys rfl rfl QV (mO (tN i) rfl (fO (B.sub (n:=(((i:Nat):Int) - 1)) (tv (tN i) rfl) (VEv.int .i64 1) (by (rw [Qs (by omega)];done))) (cO (cS (vc (tv (tI x1.A) rfl) (vc (VEv.int .i64 0) (vc (tv (tI (((i:Nat):Int) - 1)) rfl) vn))) (ZQ rfl) (QQ (n+1) x1.A 0 (((i:Nat):Int) - 1)) rfl rfl) (fO (QY (tv (tB (decide (0≤x1.A∧x1.A≤(((i:Nat):Int) - 1)))) rfl)) (mO (tB (!(decide (0≤x1.A∧x1.A≤(((i:Nat):Int) - 1))))) rfl ?_))))))
   refine gn (0≤x1.A∧x1.A≤(((i:Nat):Int) - 1)) (fun fhg59_5=> ?_) fun fhg59_5=> ?_
   ·refine Qx 2 6 false 59 (ny fhg59_5) rfl rfl rfl ?_
    refine JK 6 8 true 61 rfl rfl rfl (oO rfl rfl (ny fhg59_5) (fO (OF.pickT (VEv.tmpB rfl (ny fhg59_5)) (VEv.bool true)) (mO (tB true) rfl (Qx 3 17 false 70 (b:=true) rfl rfl rfl rfl (JK 3 20 true 73 rfl rfl rfl (VRunO.off (VWant.not (b:=true) rfl rfl rfl) (fO (OF.pickT (tv (tB true) rfl) (VEv.bool true)) (nt (ct rfl (sr (fO (OF.assign (VEv.bool false)) ?_)))))))))))
    refine nt (rt (tr (vb (b':=false) rfl ?_)))
    (symm;rw [decide_eq_false_iff_not,QB hx1];rintro ⟨h1,h2,h3⟩;by_cases hk:x1.Kind=1<;>simp only [hk,two] at* <;>first | omega | (simp_all [Zc];omega))
   refine gF (nz fhg59_5) rfl rfl (OF.move (tv (tB true) rfl)) (gF (nz fhg59_5) rfl rfl (OF.move (tv (tB true) rfl)) (VRunO.free (VWant.on (b:=true) rfl rfl rfl) (OF.fieldAddrO (tv (T.op 0 0) rfl) Z2) (VRunO.look (VWant.on (b:=true) rfl rfl rfl) (OL.loadO1 (t:=(tI x1.B)) (tv (T.op 0 3) rfl) rfl rfl QV) (VRunO.free (VWant.on (b:=true) rfl rfl rfl) (OF.move (tv (tN i) rfl)) (VRunO.free (VWant.on (b:=true) rfl rfl rfl) (B.sub (n:=(((i:Nat):Int) - 1)) (tv (tN i) rfl) (VEv.int .i64 1) (by (rw [Qs (by omega)];done))) (VRunO.chain (VWant.on (b:=true) rfl rfl rfl) (cS (vc (tv (tI x1.B) rfl) (vc (VEv.int .i64 0) (vc (tv (tI (((i:Nat):Int) - 1)) rfl) vn))) (ZQ rfl) (QQ (n+1) x1.B 0 (((i:Nat):Int) - 1)) rfl rfl) (VRunO.free (VWant.on (b:=true) rfl rfl rfl) (QY (tv (tB (decide (0≤x1.B∧x1.B≤(((i:Nat):Int) - 1)))) rfl)) (gF (nz fhg59_5) rfl rfl (OF.pickT (tv (tB true) rfl) (tv (tB (!(decide (0≤x1.B∧x1.B≤(((i:Nat):Int) - 1))))) rfl)) (fO (OF.pickF (VEv.tmpB rfl (nz fhg59_5)) (tv (tB (!(decide (0≤x1.B∧x1.B≤(((i:Nat):Int) - 1))))) rfl)) (mO (tB (!(decide (0≤x1.B∧x1.B≤(((i:Nat):Int) - 1))))) rfl ?_))))))))))
   refine gn (0≤x1.B∧x1.B≤(((i:Nat):Int) - 1)) (fun fhg70_6=> ?_) fun fhg70_6=> ?_
   ·refine Qx 3 17 false 70 (ny fhg70_6) rfl rfl rfl ?_
    refine JK 3 20 true 73 rfl rfl rfl (oO rfl rfl (ny fhg70_6) (fO (OF.pickT (VEv.tmpB rfl (ny fhg70_6)) (VEv.bool true)) (nt (ct rfl (sr (fO (OF.assign (VEv.bool false)) (nt (rt (tr (vb (b':=false) rfl ?_))))))))))
    (symm;rw [decide_eq_false_iff_not,QB hx1];rintro ⟨h1,h2,h3⟩;by_cases hk:x1.Kind=1<;>simp only [hk,two] at* <;>first | omega | (simp_all [Zc];omega))
   refine gF (nz fhg70_6) rfl rfl (OF.move (tv (tB true) rfl)) (gF (nz fhg70_6) rfl rfl (B.not (c:=false) (tv (tB true) rfl) rfl) (gF (nz fhg70_6) rfl rfl (OF.move (tv (tB false) rfl)) (Qx 3 20 true 73 (b:=false) rfl rfl rfl rfl (gF (nz fhg70_6) rfl rfl (OF.pickF (tv (tB false) rfl) (VEv.bool false)) (fO (OF.pickF (VEv.tmpB rfl (nz fhg70_6)) (tv (tB false) rfl)) (nt (cf rfl (sk (tn (sr (mO (tB true) rfl ?_)))))))))))
   refine mO (tB true) rfl (Qx 3 1 false 80 (b:=true) rfl rfl rfl rfl (fO (OF.pickT (tv (tB true) rfl) (VEv.bool true)) (mO (tB true) rfl (Qx 7 6 false 85 (b:=true) rfl rfl rfl rfl (fO (OF.pickT (tv (tB true) rfl) (VEv.bool true)) (aO (tB true) rfl (nt (rt (vb (b':=true) rfl ?_)))))))))
   (symm;rw [decide_eq_true_eq,QB hx1];refine ⟨by omega,fun hk=> ?_,fun hk=> ?_⟩<;>first | (exfalso;omega) | (simp_all [two,Zc];omega))
  refine ZV (tI x1.Kind) (dz fhg37_4) rfl rfl rfl rfl Q2 rfl rfl QV (gF (dz fhg37_4) rfl rfl (YF (tv (tI x1.Kind) rfl) (VEv.int .i64 5)) (fO (OF.pickF (VEv.tmpB rfl (dz fhg37_4)) (tv (tB (decide (x1.Kind=5))) rfl)) (aO (tB (decide (x1.Kind=5))) rfl (nt (sq (sr (lf (tI x1.Kind) rfl Q2 rfl rfl QV (fO (YF (tv (tI x1.Kind) rfl) (VEv.int .i64 1)) (nt (cg (dz fhg28_3) rfl (sk ?_)))))))))))
  refine tn (sq (sr (lf (tI x1.A) rfl Ys rfl rfl QV (mO (tN i) rfl (fO (B.sub (n:=(((i:Nat):Int) - 1)) (tv (tN i) rfl) (VEv.int .i64 1) (by (rw [Qs (by omega)];done))) (cO (cS (vc (tv (tI x1.A) rfl) (vc (VEv.int .i64 0) (vc (tv (tI (((i:Nat):Int) - 1)) rfl) vn))) (ZQ rfl) (QQ (n+1) x1.A 0 (((i:Nat):Int) - 1)) rfl rfl) (fO (QY (tv (tB (decide (0≤x1.A∧x1.A≤(((i:Nat):Int) - 1)))) rfl)) (mO (tB (!(decide (0≤x1.A∧x1.A≤(((i:Nat):Int) - 1))))) rfl ?_))))))))
  refine gn (0≤x1.A∧x1.A≤(((i:Nat):Int) - 1)) (fun fhg59_7=> ?_) fun fhg59_7=> ?_
  ·refine Qx 2 6 false 59 (ny fhg59_7) rfl rfl rfl ?_
   refine JK 6 8 true 61 rfl rfl rfl (oO rfl rfl (ny fhg59_7) (fO (OF.pickT (VEv.tmpB rfl (ny fhg59_7)) (VEv.bool true)) (mO (tB true) rfl (Qx 3 17 false 70 (b:=true) rfl rfl rfl rfl (JK 3 20 true 73 rfl rfl rfl (VRunO.off (VWant.not (b:=true) rfl rfl rfl) (fO (OF.pickT (tv (tB true) rfl) (VEv.bool true)) (nt (ct rfl (sr (fO (OF.assign (VEv.bool false)) ?_)))))))))))
   refine nt (rt (tr (vb (b':=false) rfl ?_)))
   (symm;rw [decide_eq_false_iff_not,QB hx1];rintro ⟨h1,h2,h3⟩;by_cases hk:x1.Kind=1<;>simp only [hk,two] at* <;>first | (simp_all [Zc];done) | (simp_all [Zc];omega))
  refine gF (nz fhg59_7) rfl rfl (OF.move (tv (tB (decide (x1.Kind=5))) rfl)) (gF (nz fhg59_7) rfl rfl (OF.move (tv (tB (decide (x1.Kind=5))) rfl)) ?_)
  refine gw (x1.Kind=5) (fun fhg61_8=> ?_) fun fhg61_8=> ?_
  ·refine ZV (tI x1.B) (dy fhg61_8) rfl rfl rfl rfl Z2 rfl rfl QV ?_
   refine gF (dy fhg61_8) rfl rfl (OF.move (tv (tN i) rfl)) (gF (dy fhg61_8) rfl rfl (B.sub (n:=(((i:Nat):Int) - 1)) (tv (tN i) rfl) (VEv.int .i64 1) (by (rw [Qs (by omega)];done))) (VRunO.chain (VWant.on rfl rfl (dy fhg61_8)) (cS (vc (tv (tI x1.B) rfl) (vc (VEv.int .i64 0) (vc (tv (tI (((i:Nat):Int) - 1)) rfl) vn))) (ZQ rfl) (QQ (n+1) x1.B 0 (((i:Nat):Int) - 1)) rfl rfl) (gF (dy fhg61_8) rfl rfl (QY (tv (tB (decide (0≤x1.B∧x1.B≤(((i:Nat):Int) - 1)))) rfl)) (gF (nz fhg59_7) rfl rfl (OF.pickT (VEv.tmpB rfl (dy fhg61_8)) (tv (tB (!(decide (0≤x1.B∧x1.B≤(((i:Nat):Int) - 1))))) rfl)) (fO (OF.pickF (VEv.tmpB rfl (nz fhg59_7)) (tv (tB (!(decide (0≤x1.B∧x1.B≤(((i:Nat):Int) - 1))))) rfl)) (mO (tB (!(decide (0≤x1.B∧x1.B≤(((i:Nat):Int) - 1))))) rfl ?_))))))
   refine gn (0≤x1.B∧x1.B≤(((i:Nat):Int) - 1)) (fun fhg70_9=> ?_) fun fhg70_9=> ?_
   ·refine Qx 3 17 false 70 (ny fhg70_9) rfl rfl rfl ?_
    refine JK 3 20 true 73 rfl rfl rfl (oO rfl rfl (ny fhg70_9) (fO (OF.pickT (VEv.tmpB rfl (ny fhg70_9)) (VEv.bool true)) (nt (ct rfl (sr (fO (OF.assign (VEv.bool false)) (nt (rt (tr (vb (b':=false) rfl ?_))))))))))
    (symm;rw [decide_eq_false_iff_not,QB hx1];rintro ⟨h1,h2,h3⟩;by_cases hk:x1.Kind=1<;>simp only [hk,two] at* <;>first | omega | (simp_all [Zc];omega))
   refine gF (nz fhg70_9) rfl rfl (OF.move (tv (tB (decide (x1.Kind=5))) rfl)) (gF (nz fhg70_9) rfl rfl (QY (tv (tB (decide (x1.Kind=5))) rfl)) (gF (nz fhg70_9) rfl rfl (OF.move (tv (tB (!(decide (x1.Kind=5)))) rfl)) (Qx 3 20 true 73 (nkT (dy fhg61_8)) rfl rfl rfl (gF (nz fhg70_9) rfl rfl (OF.pickF (VEv.tmpB rfl (nkT (dy fhg61_8))) (VEv.bool false)) (fO (OF.pickF (VEv.tmpB rfl (nz fhg70_9)) (tv (tB false) rfl)) (nt (cf rfl (sk (tn (sr (mO (tB (decide (x1.Kind=5))) rfl ?_)))))))))))
   refine mO (tB (decide (x1.Kind=5))) rfl (Qx 3 1 false 80 (dy fhg61_8) rfl rfl rfl (fO (OF.pickT (VEv.tmpB rfl (dy fhg61_8)) (VEv.bool true)) (mO (tB true) rfl (Qx 7 6 false 85 (b:=true) rfl rfl rfl rfl (fO (OF.pickT (tv (tB true) rfl) (VEv.bool true)) (aO (tB true) rfl (nt (rt (vb (b':=true) rfl ?_)))))))))
   (symm;rw [decide_eq_true_eq,QB hx1];refine ⟨by omega,fun hk=> ?_,fun hk=> ?_⟩<;>first | (exfalso;omega) | (simp_all [two,Zc];omega))
  refine Qx 6 8 true 61 (dz fhg61_8) rfl rfl rfl (gF (nz fhg59_7) rfl rfl (OF.pickF (VEv.tmpB rfl (dz fhg61_8)) (VEv.bool false)) (fO (OF.pickF (VEv.tmpB rfl (nz fhg59_7)) (tv (tB false) rfl)) (mO (tB false) rfl (VRunO.free (VWant.on (b:=false) rfl rfl rfl) (OF.move (tv (tB (decide (x1.Kind=5))) rfl)) (VRunO.free (VWant.on (b:=false) rfl rfl rfl) (QY (tv (tB (decide (x1.Kind=5))) rfl)) (VRunO.free (VWant.on (b:=false) rfl rfl rfl) (OF.move (tv (tB (!(decide (x1.Kind=5)))) rfl)) (ZV (tI x1.B) (nkF (dz fhg61_8)) rfl rfl rfl rfl Z2 rfl rfl QV (gF (nkF (dz fhg61_8)) rfl rfl (xne (tv (tI x1.B) rfl) (VEv.int .i64 0)) (VRunO.free (VWant.on (b:=false) rfl rfl rfl) (OF.pickT (VEv.tmpB rfl (nkF (dz fhg61_8))) (tv (tB (!(decide (x1.B=0)))) rfl)) (fO (OF.pickF (tv (tB false) rfl) (tv (tB (!(decide (x1.B=0)))) rfl)) (nt ?_)))))))))))
  refine cn (x1.B=0) rfl (fun fhc2=> ?_) fun fhc2=> ?_
  ·refine sr ?_
   refine fO (OF.assign (VEv.bool false)) (nt (rt (tr (vb (b':=false) rfl ?_))))
   (symm;rw [decide_eq_false_iff_not,QB hx1];rintro ⟨h1,h2,h3⟩;by_cases hk:x1.Kind=1<;>simp only [hk,two] at* <;>(simp_all [Zc];done))
  refine sk (tn (sr (mO (tB (decide (x1.Kind=5))) rfl (mO (tB (decide (x1.Kind=5))) rfl (ZV (tI x1.Kind) (dz fhg61_8) rfl rfl rfl rfl Q2 rfl rfl QV (gF (dz fhg61_8) rfl rfl (YF (tv (tI x1.Kind) rfl) (VEv.int .i64 2)) (fO (OF.pickF (VEv.tmpB rfl (dz fhg61_8)) (tv (tB (decide (x1.Kind=2))) rfl)) (mO (tB (decide (x1.Kind=2))) rfl ?_))))))))
  refine gw (x1.Kind=2) (fun fhg85_10=> ?_) fun fhg85_10=> ?_
  ·refine Qx 7 6 false 85 (dy fhg85_10) rfl rfl rfl ?_
   refine fO (OF.pickT (VEv.tmpB rfl (dy fhg85_10)) (VEv.bool true)) (aO (tB true) rfl (nt (rt (vb (b':=true) rfl ?_))))
   (symm;rw [decide_eq_true_eq,QB hx1];refine ⟨by omega,fun hk=> ?_,fun hk=> ?_⟩<;>first | (exfalso;omega) | (simp_all [two,Zc];omega))
  refine gF (dz fhg85_10) rfl rfl (OF.move (tv (rd 4 Qm a) rfl)) (ZV (tI x1.A) (dz fhg85_10) rfl rfl rfl rfl Ys rfl rfl QV ?_)
  obtain ⟨x2,hx2⟩:∃x,a[(Int.toNat x1.A)]? =some x:=⟨_,List.getElem?_eq_getElem (by omega)⟩
  refine gF (dz fhg85_10) rfl rfl (OF.indexAddrR (row:=(Qm false x2)) (i:=(Int.toNat x1.A)) (tv (rd 4 Qm a) rfl) (tv (tI x1.A) rfl) (by omega) (Qw _ hx2) U72 Yn Qas) (glr (tI x2.Kind) (dz fhg85_10) rfl rfl rfl rfl (lb rfl) Q2 rfl QV (gF (dz fhg85_10) rfl rfl (YF (tv (tI x2.Kind) rfl) (VEv.int .i64 1)) (fO (OF.pickF (VEv.tmpB rfl (dz fhg85_10)) (tv (tB (decide (x2.Kind=1))) rfl)) (aO (tB (decide (x2.Kind=1))) rfl (nt (rt (vb (b':=(decide (x2.Kind=1))) rfl ?_)))))))
  (refine Ql4 hx1 hx2 ?_ ?_ ?_ ?_ ?_ ?_ ?_<;>first | assumption | omega | (simp only [two];omega))
 refine oD rfl rfl (nz fhg28_3) rfl (oD rfl rfl (nz fhg28_3) rfl (oD rfl rfl (nz fhg28_3) rfl (VRunD.free rfl (VWant.on rfl rfl hg24_2) rfl (OF.pickF (VEv.tmpB rfl (nz fhg28_3)) (VEv.bool false)) (fD (OF.pickF (VEv.tmpB rfl hg24_2) (tv (tB false) rfl)) rfl rfl (VRunD.nil (tn (cf rfl (sk (tn (sr (lf (tI x1.Kind) rfl Q2 rfl rfl QV ?_)))))))))))
 refine fO (YF (tv (tI x1.Kind) rfl) (VEv.int .i64 4)) (mO (tB (decide (x1.Kind=4))) rfl ?_)
 refine gw (x1.Kind=4) (fun fhg37_11=> ?_) fun fhg37_11=> ?_
 ·refine Qx 3 3 false 37 (dy fhg37_11) rfl rfl rfl ?_
  refine fO (OF.pickT (VEv.tmpB rfl (dy fhg37_11)) (VEv.bool true)) (aO (tB true) rfl (nt (sq (sr (lf (tI x1.Kind) rfl Q2 rfl rfl QV (fO (YF (tv (tI x1.Kind) rfl) (VEv.int .i64 1)) (nt (ck (dy fhg28_3) rfl (sr (lf (tI x1.A) rfl Ys rfl rfl QV (fO (YF (tv (tI x1.A) rfl) (VEv.int .i64 0)) ?_)))))))))))
  refine mO (tB (decide (x1.A=0))) rfl ?_
  refine gw (x1.A=0) (fun fhg48_12=> ?_) fun fhg48_12=> ?_
  ·refine ZV (tI x1.B) (dy fhg48_12) rfl rfl rfl rfl Z2 rfl rfl QV ?_
   refine gF (dy fhg48_12) rfl rfl (YF (tv (tI x1.B) rfl) (VEv.int .i64 0)) (fO (OF.pickT (VEv.tmpB rfl (dy fhg48_12)) (tv (tB (decide (x1.B=0))) rfl)) (aO (tB (decide (x1.B=0))) rfl (nt (rt (tr (vb (b':=(decide (x1.B=0))) rfl ?_))))))
   (exfalso;omega)
  refine Qx 3 3 true 48 (dz fhg48_12) rfl rfl rfl (fO (OF.pickF (VEv.tmpB rfl (dz fhg48_12)) (VEv.bool false)) (aO (tB false) rfl (nt (rt (tr (vb (b':=false) rfl ?_))))))
  (exfalso;omega)
 refine ZV (tI x1.Kind) (dz fhg37_11) rfl rfl rfl rfl Q2 rfl rfl QV (gF (dz fhg37_11) rfl rfl (YF (tv (tI x1.Kind) rfl) (VEv.int .i64 5)) (fO (OF.pickF (VEv.tmpB rfl (dz fhg37_11)) (tv (tB (decide (x1.Kind=5))) rfl)) (aO (tB (decide (x1.Kind=5))) rfl (nt (sq (sr (lf (tI x1.Kind) rfl Q2 rfl rfl QV (fO (YF (tv (tI x1.Kind) rfl) (VEv.int .i64 1)) (nt (ck (dy fhg28_3) rfl (sr ?_)))))))))))
 refine lf (tI x1.A) rfl Ys rfl rfl QV (fO (YF (tv (tI x1.A) rfl) (VEv.int .i64 0)) (mO (tB (decide (x1.A=0))) rfl ?_))
 refine gw (x1.A=0) (fun fhg48_13=> ?_) fun fhg48_13=> ?_
 ·refine ZV (tI x1.B) (dy fhg48_13) rfl rfl rfl rfl Z2 rfl rfl QV ?_
  refine gF (dy fhg48_13) rfl rfl (YF (tv (tI x1.B) rfl) (VEv.int .i64 0)) (fO (OF.pickT (VEv.tmpB rfl (dy fhg48_13)) (tv (tB (decide (x1.B=0))) rfl)) (aO (tB (decide (x1.B=0))) rfl (nt (rt (tr (vb (b':=(decide (x1.B=0))) rfl ?_))))))
  (refine QlQ hx1 ?_ ?_ ?_ ?_<;>first | assumption | (simp_all;done))
 refine Qx 3 3 true 48 (dz fhg48_13) rfl rfl rfl (fO (OF.pickF (VEv.tmpB rfl (dz fhg48_13)) (VEv.bool false)) (aO (tB false) rfl (nt (rt (tr (vb (b':=false) rfl ?_))))))
 (symm;rw [decide_eq_false_iff_not,QB hx1];rintro ⟨h1,h2,h3⟩;by_cases hk:x1.Kind=1<;>simp only [hk,two] at* <;>(simp_all [Zc];done))
theorem QeG (n:Nat) (a:List D.Step) (hz:zL Zk a≤mx):Pure (Qo Tryz.prog (n+4)) 71 [(rd 4 Qm a)] (tB (decide (ZX a))):=by
 refine Pure.intro (rs:= [ResultVar.tmp 2]) Tryz.func71 rfl rfl rfl (E0:= [(0,(rd 4 Qm a))]) rfl ?_
 obtain ⟨hlim,hmx,hmax⟩:=QF
 have ha:=Zf (z:=Zk) a
 refine sr (fO (OF.assign (VEv.bool false)) (nt (sq (sr (fO (OF.assign (VEv.int .i64 0)) (nt (VRun.block ?_)))))))
 refine VRun.loop (A:=Nat) (fun s_=> [(0,(rd 4 Qm a)),(3,(tN s_))]) (fun s_=>Q0 []) 0 (fun s_=>s_≤a.length∧∀j,j<s_→YY a j) (fun s_=>a.length - s_) (0:Nat) ?_ (Wk.mk (fun k=>k) ?_ ?_ ?_) ?_
 ·exact ⟨Nat.zero_le _,fun j hj=>by omega⟩
 ·exact (b2 (b2 bn))
 ·exact bn
 ·exact nd rfl
 rintro i (hI':i≤a.length∧∀j,j<i→YY a j)
 show VRun _ _ _ [(0,(rd 4 Qm a)),(3,(tN i))] (Q0 []) 0 _
 have hI0:=hI'
 refine sq (sr (mO (tN i) rfl (mO (rd 4 Qm a) rfl (lO (B.lenR (m:=a.length) (tv (rd 4 Qm a) rfl) U72 (List.length_map ..)) (fO (Ze (tv (tN i) rfl) (tv (tN a.length) rfl)) (mO (tB (decide (i<a.length))) rfl ?_))))))
 refine gw (i<a.length) (fun fhg8_1=> ?_) fun fhg8_1=> ?_
 ·refine gF (dy fhg8_1) rfl rfl (OF.move (tv (rd 4 Qm a) rfl)) ?_
  refine gL (dy fhg8_1) rfl rfl (B.lenR (m:=a.length) (tv (rd 4 Qm a) rfl) U72 (List.length_map ..)) (gF (dy fhg8_1) rfl rfl (B.leq (c:=(decide (a.length≤9))) (tv (tN a.length) rfl) (VEv.int .i64 9) (Q4 (by omega))) (fO (OF.pickT (VEv.tmpB rfl (dy fhg8_1)) (tv (tB (decide (a.length≤9))) rfl)) (nt ?_)))
  refine cd (a.length≤9) rfl (fun fhc0=> ?_) fun fhc0=> ?_
  ·refine sk ?_
   refine tn (sq (VRun.block (sr (mO (rd 4 Qm a) rfl (mO (tN i) rfl (cO (cS (vc (tv (rd 4 Qm a) rfl) (vc (tv (tN i) rfl) vn)) (ZQ rfl) (Qfi (n+0) a i (by assumption) (by assumption)) rfl rfl) (fO (QY (tv (tB (decide (YY a i))) rfl)) (nt ?_))))))))
   refine cn (YY a i) rfl (fun fhc1=> ?_) fun fhc1=> ?_
   ·refine sr ?_
    refine fO (OF.assign (VEv.bool false)) (nt (rt (vinB.r (tr (tr (vinB.r (tr (vb (b':=false) rfl ?_))))))))
    (symm;rw [decide_eq_false_iff_not];rintro ⟨h1,h2⟩;exact absurd (h2 i (by omega)) (by assumption))
   refine sk (vinB.n (tn (VRun.region (mO (tN i) rfl (fO (QA (tv (tN i) rfl) (VEv.int .i64 1) (by omega)) (aO (tN (i+1)) rfl (VRunO.nil (tn ?_))))))))
   refine ⟨(i+1:Nat),?_,?_,Wk.mk (fun k=>k) ?_ ?_ ?_⟩
   ·exact QT hI0 (by omega) (by assumption)
   ·omega
   ·exact (b2 (b2 bn))
   ·exact bn
   ·exact nd rfl
  refine VRun.exit (vthn.e (vthn.e (vinB.e (tn (sr (mO (rd 4 Qm a) rfl (lO (B.lenR (m:=a.length) (tv (rd 4 Qm a) rfl) U72 (List.length_map ..)) (cO (cS (vc (tv (tN a.length) rfl) (vc (VEv.int .i64 1) (vc (VEv.int .i64 9) vn))) (ZQ rfl) (QQ (n+2) ((a.length:Nat):Int) 1 9) rfl rfl) (aO (tB (decide (1≤((a.length:Nat):Int)∧((a.length:Nat):Int)≤9))) rfl (nt (rt ?_)))))))))))
  refine vb (b':=(decide (1≤((a.length:Nat):Int)∧((a.length:Nat):Int)≤9))) rfl ?_
  (refine Q4 ⟨fun h=>⟨by omega,JU hI' (by omega)⟩,fun h=>by have:=h.1;omega⟩)
 refine Qx 3 4 true 8 (dz fhg8_1) rfl rfl rfl (fO (OF.pickF (VEv.tmpB rfl (dz fhg8_1)) (VEv.bool false)) (nt (cf rfl (VRun.exit (vthn.e (vthn.e (vinB.e (tn (sr (mO (rd 4 Qm a) rfl (lO (B.lenR (m:=a.length) (tv (rd 4 Qm a) rfl) U72 (List.length_map ..)) ?_)))))))))))
 refine cO (cS (vc (tv (tN a.length) rfl) (vc (VEv.int .i64 1) (vc (VEv.int .i64 9) vn))) (ZQ rfl) (QQ (n+2) ((a.length:Nat):Int) 1 9) rfl rfl) (aO (tB (decide (1≤((a.length:Nat):Int)∧((a.length:Nat):Int)≤9))) rfl (nt (rt (vb (b':=(decide (1≤((a.length:Nat):Int)∧((a.length:Nat):Int)≤9))) rfl ?_))))
 (refine Q4 ⟨fun h=>⟨by omega,JU hI' (by omega)⟩,fun h=>by have:=h.1;omega⟩)
theorem Qeo (n:Nat) (a:List D.Step) (hz:zL Zk a≤mx):Pure (Qo Tryz.prog (n+3)) 84 [(rd 4 Qm a)] (tB (decide (ZX a))):=by
 refine Pure.intro (rs:= [ResultVar.tmp 2]) Tryz.func84 rfl rfl rfl (E0:= [(0,(rd 4 Qm a))]) rfl ?_
 obtain ⟨hlim,hmx,hmax⟩:=QF
 have ha:=Zf (z:=Zk) a
 have hw:∀x∈a,x.Word.size≤maxLen:=fun x hx=>by have h1:=QjA (z:=Zk) hx;simp only [Zk] at h1;omega
 refine sr (fO (OF.assign (VEv.bool false)) (nt (sq (sr (mO (rd 4 Qm a) rfl (lO (B.lenR (m:=a.length) (tv (rd 4 Qm a) rfl) U72 (List.length_map ..)) (cO (cS (vc (tv (tN a.length) rfl) (vc (VEv.int .i64 1) (vc (VEv.int .i64 9) vn))) (ZQ rfl) (Q9 (n+1) ((a.length:Nat):Int) 1 9) rfl rfl) (fO (QY (tv (tB (decide (1≤((a.length:Nat):Int)∧((a.length:Nat):Int)≤9))) rfl)) (nt ?_)))))))))
 refine cn (1≤((a.length:Nat):Int)∧((a.length:Nat):Int)≤9) rfl (fun fhc0=> ?_) fun fhc0=> ?_
 ·refine sr ?_
  refine fO (OF.assign (VEv.bool false)) (nt (rt (tr (vb (b':=false) rfl ?_))))
  (symm;rw [decide_eq_false_iff_not];rintro ⟨h1,h2⟩;(exfalso;omega))
 refine sk (tn (sq (sr (mO (rd 4 Qm a) rfl (lO (B.lenR (m:=a.length) (tv (rd 4 Qm a) rfl) U72 (List.length_map ..)) (fO (OF.move (VEv.int .i64 0)) (nt (VRun.block ?_))))))))
 refine VRun.loop (A:=Nat) (fun s_=> [(0,(rd 4 Qm a)),(9,(rd 4 Qm a)),(10,(tN a.length)),(11,(tN s_))]) (fun s_=>Q0 []) 0 (fun s_=>s_≤a.length∧∀j,j<s_→YY a j) (fun s_=>a.length - s_) (0:Nat) ?_ (Wk.mk (fun k=>k) ?_ ?_ ?_) ?_
 ·exact ⟨Nat.zero_le _,fun j hj=>by omega⟩
 ·exact (b2 (b2 (b2 (b2 bn))))
 ·exact bn
 ·exact nd rfl
 rintro i (hI':i≤a.length∧∀j,j<i→YY a j)
 show VRun _ _ _ [(0,(rd 4 Qm a)),(9,(rd 4 Qm a)),(10,(tN a.length)),(11,(tN i))] (Q0 []) 0 _
 have hI0:=hI'
 refine sr (fO (Ze (tv (tN i) rfl) (tv (tN a.length) rfl)) (nt (sq ?_)))
 refine cd (i<a.length) rfl (fun fhc1=> ?_) fun fhc1=> ?_
 ·refine sk ?_
  refine tn (sq (VRun.block (sr (mO (tN i) rfl ?_))))
  obtain ⟨x1,hx1⟩:∃x,a[i]? =some x:=⟨_,List.getElem?_eq_getElem (by omega)⟩
  refine fO (OF.indexAddrR (row:=(Qm false x1)) (i:=i) (tv (rd 4 Qm a) rfl) (tv (tN i) rfl) rfl (Qw _ hx1) U72 Yn Qas) (lO (OL.loadRn (us:=(Qm false x1)) (tv (T.rp (Qm false x1)) rfl) Qfb Yn (lb rfl) rfl) (kO (B.alloc (t:=(T.agg [(tN 0),(tS ByteArray.empty),(tN 0),(tN 0)])) (ts:= [(tN 0),(tS ByteArray.empty),(tN 0),(tN 0)]) QfZ QgI nofun (fun _=> .agg _ _ rfl (Y8 (RL.cons (.int _ _) (RL.cons (.str _) (RL.cons (.int _ _) (RL.cons (.int _ _) (RL.nil _))))))) rfl) (aO (tN i) rfl (cO (B.storeW (us:=(Qm false x1)) (tv (T.op 0 0) rfl) (tv (T.agg (Qm false x1)) rfl) nofun rfl rfl rfl Qas Yn (bc rfl (bc rfl (bc rfl (bc rfl bn))))) (nt (sq (sr (lf (tI x1.Kind) rfl Q2 rfl rfl QV (cO (cS (vc (tv (tI x1.Kind) rfl) (vc (VEv.int .i64 1) (vc (VEv.int .i64 9) vn))) (ZQ rfl) (Q9 (n+1) x1.Kind 1 9) rfl rfl) (fO (QY (tv (tB (decide (1≤x1.Kind∧x1.Kind≤9))) rfl)) (nt ?_)))))))))))
  refine cn (1≤x1.Kind∧x1.Kind≤9) rfl (fun fhc2=> ?_) fun fhc2=> ?_
  ·refine sr ?_
   refine fO (OF.assign (VEv.bool false)) (nt (rt (tr (vinB.r (tr (tr (vinB.r (tr (vb (b':=false) rfl ?_)))))))))
   (symm;rw [decide_eq_false_iff_not];rintro ⟨h1,h2⟩;(have h3:=(QB hx1).1 (h2 i fhc1);obtain ⟨h4,h5,h6⟩:=h3;simp only [two] at h6;omega))
  refine sk (tn (sq (sr (lf (tI x1.Kind) rfl Q2 rfl rfl QV (fO (YF (tv (tI x1.Kind) rfl) (VEv.int .i64 1)) (nt ?_))))))
  refine cd (x1.Kind=1) rfl (fun fhc3=> ?_) fun fhc3=> ?_
  ·refine sq ?_
   refine sr (lf (tS x1.Word) rfl Qag rfl rfl ZN (cO (cS (vc (tv (tS x1.Word) rfl) vn) (ZQ rfl) (JM (n+0) x1.Word (by exact hw _ (List.mem_of_getElem? hx1))) rfl rfl) (fO (QY (tv (tB (decide (Q7 x1.Word))) rfl)) (mO (tB (!(decide (Q7 x1.Word)))) rfl ?_))))
   refine gn (Q7 x1.Word) (fun fhg27_1=> ?_) fun fhg27_1=> ?_
   ·refine Qx 3 4 false 27 (ny fhg27_1) rfl rfl rfl ?_
    refine fO (OF.pickT (VEv.tmpB rfl (ny fhg27_1)) (VEv.bool true)) (mO (tB true) rfl (Qx 3 9 false 32 (b:=true) rfl rfl rfl rfl (fO (OF.pickT (tv (tB true) rfl) (VEv.bool true)) (nt (ct rfl (sr (fO (OF.assign (VEv.bool false)) (nt (rt (tr (tr ?_)))))))))))
    refine vinB.r (tr (tr (vinB.r (tr (vb (b':=false) rfl ?_)))))
    (symm;rw [decide_eq_false_iff_not];rintro ⟨h1,h2⟩;(have h3:=(QB hx1).1 (h2 i fhc1);obtain ⟨h4,h5,h6⟩:=h3;simp only [two] at h6;(by_cases hk:x1.Kind=1<;>simp_all<;>omega)))
   refine ZV (tI x1.A) (nz fhg27_1) rfl rfl rfl rfl Ys rfl rfl QV (gF (nz fhg27_1) rfl rfl (xne (tv (tI x1.A) rfl) (VEv.int .i64 0)) (fO (OF.pickF (VEv.tmpB rfl (nz fhg27_1)) (tv (tB (!(decide (x1.A=0)))) rfl)) (mO (tB (!(decide (x1.A=0)))) rfl ?_)))
   refine gn (x1.A=0) (fun fhg32_2=> ?_) fun fhg32_2=> ?_
   ·refine Qx 3 9 false 32 (ny fhg32_2) rfl rfl rfl ?_
    refine fO (OF.pickT (VEv.tmpB rfl (ny fhg32_2)) (VEv.bool true)) (nt (ct rfl (sr (fO (OF.assign (VEv.bool false)) (nt (rt (tr (tr (vinB.r (tr (tr ?_)))))))))))
    refine vinB.r (tr (vb (b':=false) rfl ?_))
    (symm;rw [decide_eq_false_iff_not];rintro ⟨h1,h2⟩;(have h3:=(QB hx1).1 (h2 i fhc1);obtain ⟨h4,h5,h6⟩:=h3;simp only [two] at h6;omega))
   refine ZV (tI x1.B) (nz fhg32_2) rfl rfl rfl rfl Z2 rfl rfl QV (gF (nz fhg32_2) rfl rfl (xne (tv (tI x1.B) rfl) (VEv.int .i64 0)) (fO (OF.pickF (VEv.tmpB rfl (nz fhg32_2)) (tv (tB (!(decide (x1.B=0)))) rfl)) (nt ?_)))
   refine cn (x1.B=0) rfl (fun fhc4=> ?_) fun fhc4=> ?_
   ·refine sr ?_
    refine fO (OF.assign (VEv.bool false)) (nt (rt (tr (tr (vinB.r (tr (tr (vinB.r (tr (vb (b':=false) rfl ?_))))))))))
    (symm;rw [decide_eq_false_iff_not];rintro ⟨h1,h2⟩;(have h3:=(QB hx1).1 (h2 i fhc1);obtain ⟨h4,h5,h6⟩:=h3;simp only [two] at h6;omega))
   refine sk (tn (VRun.exit (vthn.e (vinB.e (tn (VRun.region (fO (QA (tv (tN i) rfl) (VEv.int .i64 1) (by omega)) (mO (tN (i+1)) rfl (VRunO.nil (tn ?_))))))))))
   refine ⟨(i+1:Nat),?_,?_,Wk.mk (fun k=>k) ?_ ?_ ?_⟩
   ·refine QT hI0 fhc1 ((QB hx1).2 ?_)
    simp only [QcQ,two]
    refine ⟨by omega,fun hk=> ?_,fun hk=> ?_⟩
    ·(refine ⟨?_,?_,?_⟩<;>assumption)
    ·(exfalso;omega)
   ·omega
   ·exact (b2 (b2 (b2 (b2 bn))))
   ·exact bn
   ·exact nd rfl
  refine sk (tn (sq (sr (lf (tS x1.Word) rfl Qag rfl rfl ZN (fO (B.sneq (c:=(!(decide (x1.Word=(⟨#[]⟩:ByteArray))))) (tv (tS x1.Word) rfl) (VEv.str (⟨#[]⟩:ByteArray)) rfl) (mO (tB (!(decide (x1.Word=(⟨#[]⟩:ByteArray))))) rfl ?_))))))
  refine gn (x1.Word=(⟨#[]⟩:ByteArray)) (fun fhg40_3=> ?_) fun fhg40_3=> ?_
  ·refine Qx 5 3 false 40 (ny fhg40_3) rfl rfl rfl ?_
   refine fO (OF.pickT (VEv.tmpB rfl (ny fhg40_3)) (VEv.bool true)) (mO (tB true) rfl (Qx 4 10 false 47 (b:=true) rfl rfl rfl rfl (JK 7 14 true 51 rfl rfl rfl (VRunO.off (VWant.not (b:=true) rfl rfl rfl) (fO (OF.pickT (tv (tB true) rfl) (VEv.bool true)) (nt (ct rfl (sr (fO (OF.assign (VEv.bool false)) (nt (rt ?_)))))))))))
   refine tr (vinB.r (tr (tr (vinB.r (tr (vb (b':=false) rfl ?_))))))
   (symm;rw [decide_eq_false_iff_not];rintro ⟨h1,h2⟩;(have h3:=(QB hx1).1 (h2 i fhc1);obtain ⟨h4,h5,h6⟩:=h3;simp only [two] at h6;(by_cases hk:x1.Kind=1<;>simp_all<;>omega)))
  refine ZV (tI x1.A) (nz fhg40_3) rfl rfl rfl rfl Ys rfl rfl QV (gF (nz fhg40_3) rfl rfl (OF.move (tv (tN i) rfl)) (VRunO.chain (VWant.on rfl rfl (nz fhg40_3)) (cS (vc (tv (tI x1.A) rfl) (vc (tv (tN i) rfl) vn)) (ZQ rfl) (YI (n+1) x1.A ((i:Nat):Int)) rfl rfl) (gF (nz fhg40_3) rfl rfl (QY (tv (tB (decide (0≤x1.A∧x1.A<((i:Nat):Int)))) rfl)) (fO (OF.pickF (VEv.tmpB rfl (nz fhg40_3)) (tv (tB (!(decide (0≤x1.A∧x1.A<((i:Nat):Int))))) rfl)) (mO (tB (!(decide (0≤x1.A∧x1.A<((i:Nat):Int))))) rfl ?_)))))
  refine gn (0≤x1.A∧x1.A<((i:Nat):Int)) (fun fhg47_4=> ?_) fun fhg47_4=> ?_
  ·refine Qx 4 10 false 47 (ny fhg47_4) rfl rfl rfl ?_
   refine JK 7 14 true 51 rfl rfl rfl (oO rfl rfl (ny fhg47_4) (fO (OF.pickT (VEv.tmpB rfl (ny fhg47_4)) (VEv.bool true)) (nt (ct rfl (sr (fO (OF.assign (VEv.bool false)) (nt (rt (tr (vinB.r (tr ?_)))))))))))
   refine tr (vinB.r (tr (vb (b':=false) rfl ?_)))
   (symm;rw [decide_eq_false_iff_not];rintro ⟨h1,h2⟩;(have h3:=(QB hx1).1 (h2 i fhc1);obtain ⟨h4,h5,h6⟩:=h3;simp only [two] at h6;omega))
  refine ZV (tI x1.Kind) (nz fhg47_4) rfl rfl rfl rfl Q2 rfl rfl QV (VRunO.chain (VWant.on rfl rfl (nz fhg47_4)) (cS (vc (tv (tI x1.Kind) rfl) vn) (ZQ rfl) (Qcy (n+1) x1.Kind) rfl rfl) (gF (nz fhg47_4) rfl rfl (OF.move (tv (tB (decide (x1.Kind=3∨6≤x1.Kind))) rfl)) ?_))
  refine gw (x1.Kind=3∨6≤x1.Kind) (fun fhg51_5=> ?_) fun fhg51_5=> ?_
  ·refine gF (dy fhg51_5) rfl rfl (OF.move (tv (rd 4 Qm a) rfl)) ?_
   refine ZV (tI x1.A) (dy fhg51_5) rfl rfl rfl rfl Ys rfl rfl QV ?_
   obtain ⟨x2,hx2⟩:∃x,a[(Int.toNat x1.A)]? =some x:=⟨_,List.getElem?_eq_getElem (by omega)⟩
   refine gF (dy fhg51_5) rfl rfl (OF.indexAddrR (row:=(Qm false x2)) (i:=(Int.toNat x1.A)) (tv (rd 4 Qm a) rfl) (tv (tI x1.A) rfl) (by omega) (Qw _ hx2) U72 Yn Qas) (glr (tI x2.Kind) (dy fhg51_5) rfl rfl rfl rfl (lb rfl) Q2 rfl QV (gF (dy fhg51_5) rfl rfl (xne (tv (tI x2.Kind) rfl) (VEv.int .i64 1)) (gF (nz fhg47_4) rfl rfl (OF.pickT (VEv.tmpB rfl (dy fhg51_5)) (tv (tB (!(decide (x2.Kind=1)))) rfl)) (fO (OF.pickF (VEv.tmpB rfl (nz fhg47_4)) (tv (tB (!(decide (x2.Kind=1)))) rfl)) (nt ?_)))))
   refine cn (x2.Kind=1) rfl (fun fhc5=> ?_) fun fhc5=> ?_
   ·refine sr ?_
    refine fO (OF.assign (VEv.bool false)) (nt (rt (tr (vinB.r (tr (tr (vinB.r (tr (vb (b':=false) rfl ?_)))))))))
    (symm;rw [decide_eq_false_iff_not];rintro ⟨h1,h2⟩;(have h3:=(QB hx1).1 (h2 i fhc1);obtain ⟨h4,h5,h6⟩:=h3;simp only [two] at h6;(by_cases hk:x1.Kind=1<;>simp_all<;>omega)))
   refine sk (tn (sr (lf (tI x1.Kind) rfl Q2 rfl rfl QV (cO (cS (vc (tv (tI x1.Kind) rfl) vn) (ZQ rfl) (ZS (n+1) x1.Kind) rfl rfl) (mO (tB (decide (x1.Kind=4∨x1.Kind=5))) rfl ?_)))))
   refine gw (x1.Kind=4∨x1.Kind=5) (fun fhg64_6=> ?_) fun fhg64_6=> ?_
   ·refine ZV (tI x1.B) (dy fhg64_6) rfl rfl rfl rfl Z2 rfl rfl QV ?_
    refine gF (dy fhg64_6) rfl rfl (OF.move (tv (tN i) rfl)) (VRunO.chain (VWant.on rfl rfl (dy fhg64_6)) (cS (vc (tv (tI x1.B) rfl) (vc (tv (tN i) rfl) vn)) (ZQ rfl) (YI (n+1) x1.B ((i:Nat):Int)) rfl rfl) (gF (dy fhg64_6) rfl rfl (QY (tv (tB (decide (0≤x1.B∧x1.B<((i:Nat):Int)))) rfl)) (fO (OF.pickT (VEv.tmpB rfl (dy fhg64_6)) (tv (tB (!(decide (0≤x1.B∧x1.B<((i:Nat):Int))))) rfl)) (mO (tB (!(decide (0≤x1.B∧x1.B<((i:Nat):Int))))) rfl ?_))))
    refine gn (0≤x1.B∧x1.B<((i:Nat):Int)) (fun fhg71_7=> ?_) fun fhg71_7=> ?_
    ·refine Qx 5 10 false 71 (ny fhg71_7) rfl rfl rfl ?_
     refine JK 3 15 true 76 rfl rfl rfl (oO rfl rfl (ny fhg71_7) (fO (OF.pickT (VEv.tmpB rfl (ny fhg71_7)) (VEv.bool true)) (nt (ct rfl (sr (fO (OF.assign (VEv.bool false)) (nt (rt (vinB.r (tr (tr ?_)))))))))))
     refine vinB.r (tr (vb (b':=false) rfl ?_))
     (symm;rw [decide_eq_false_iff_not];rintro ⟨h1,h2⟩;(exfalso;omega))
    refine ZV (tI x1.Kind) (nz fhg71_7) rfl rfl rfl rfl Q2 rfl rfl QV (VRunO.chain (VWant.on rfl rfl (nz fhg71_7)) (cS (vc (tv (tI x1.Kind) rfl) vn) (ZQ rfl) (ZS (n+1) x1.Kind) rfl rfl) (gF (nz fhg71_7) rfl rfl (QY (tv (tB (decide (x1.Kind=4∨x1.Kind=5))) rfl)) (gF (nz fhg71_7) rfl rfl (OF.move (tv (tB (!(decide (x1.Kind=4∨x1.Kind=5)))) rfl)) (Qx 3 15 true 76 (nkT (dy fhg64_6)) rfl rfl rfl (gF (nz fhg71_7) rfl rfl (OF.pickF (VEv.tmpB rfl (nkT (dy fhg64_6))) (VEv.bool false)) (fO (OF.pickF (VEv.tmpB rfl (nz fhg71_7)) (tv (tB false) rfl)) (nt (cf rfl (sk (vinB.n (tn ?_)))))))))))
    refine VRun.region (fO (QA (tv (tN i) rfl) (VEv.int .i64 1) (by omega)) (mO (tN (i+1)) rfl (VRunO.nil (tn ?_))))
    refine ⟨(i+1:Nat),?_,?_,Wk.mk (fun k=>k) ?_ ?_ ?_⟩
    ·refine QT hI0 fhc1 ((QB hx1).2 ?_)
     simp only [QcQ,two]
     refine ⟨by omega,fun hk=> ?_,fun hk=> ?_⟩
     ·(exfalso;omega)
     ·(exfalso;omega)
    ·omega
    ·exact (b2 (b2 (b2 (b2 bn))))
    ·exact bn
    ·exact nd rfl
   refine Qx 5 3 true 64 (dz fhg64_6) rfl rfl rfl (fO (OF.pickF (VEv.tmpB rfl (dz fhg64_6)) (VEv.bool false)) (mO (tB false) rfl (VRunO.free (VWant.on (b:=false) rfl rfl rfl) (OF.fieldAddrO (tv (T.op 0 0) rfl) Q2) (VRunO.look (VWant.on (b:=false) rfl rfl rfl) (OL.loadO1 (t:=(tI x1.Kind)) (tv (T.op 0 0) rfl) rfl rfl QV) (VRunO.chain (VWant.on (b:=false) rfl rfl rfl) (cS (vc (tv (tI x1.Kind) rfl) vn) (ZQ rfl) (ZS (n+1) x1.Kind) rfl rfl) (VRunO.free (VWant.on (b:=false) rfl rfl rfl) (QY (tv (tB (decide (x1.Kind=4∨x1.Kind=5))) rfl)) (VRunO.free (VWant.on (b:=false) rfl rfl rfl) (OF.move (tv (tB (!(decide (x1.Kind=4∨x1.Kind=5)))) rfl)) (ZV (tI x1.B) (nkF (dz fhg64_6)) rfl rfl rfl rfl Z2 rfl rfl QV (gF (nkF (dz fhg64_6)) rfl rfl (xne (tv (tI x1.B) rfl) (VEv.int .i64 0)) (VRunO.free (VWant.on (b:=false) rfl rfl rfl) (OF.pickT (VEv.tmpB rfl (nkF (dz fhg64_6))) (tv (tB (!(decide (x1.B=0)))) rfl)) (fO (OF.pickF (tv (tB false) rfl) (tv (tB (!(decide (x1.B=0)))) rfl)) ?_)))))))))))
   refine nt ?_
   refine cn (x1.B=0) rfl (fun fhc6=> ?_) fun fhc6=> ?_
   ·refine sr ?_
    refine fO (OF.assign (VEv.bool false)) (nt (rt (vinB.r (tr (tr (vinB.r (tr (vb (b':=false) rfl ?_))))))))
    (symm;rw [decide_eq_false_iff_not];rintro ⟨h1,h2⟩;(have h3:=(QB hx1).1 (h2 i fhc1);obtain ⟨h4,h5,h6⟩:=h3;simp only [two] at h6;omega))
   refine sk (vinB.n (tn (VRun.region (fO (QA (tv (tN i) rfl) (VEv.int .i64 1) (by omega)) (mO (tN (i+1)) rfl (VRunO.nil (tn ?_)))))))
   refine ⟨(i+1:Nat),?_,?_,Wk.mk (fun k=>k) ?_ ?_ ?_⟩
   ·refine QT hI0 fhc1 ((QB hx1).2 ?_)
    simp only [QcQ,two]
    refine ⟨by omega,fun hk=> ?_,fun hk=> ?_⟩
    ·(exfalso;omega)
    ·(refine ⟨?_,?_,fun h=> ?_,fun h=> ?_,fun h1 h2=> ?_⟩<;>first | assumption | omega | (refine ⟨x2,hx2,?_⟩;omega))
   ·omega
   ·exact (b2 (b2 (b2 (b2 bn))))
   ·exact bn
   ·exact nd rfl
  refine Qx 7 14 true 51 (dz fhg51_5) rfl rfl rfl (gF (nz fhg47_4) rfl rfl (OF.pickF (VEv.tmpB rfl (dz fhg51_5)) (VEv.bool false)) (fO (OF.pickF (VEv.tmpB rfl (nz fhg47_4)) (tv (tB false) rfl)) (nt (cf rfl (sk (tn (sr (lf (tI x1.Kind) rfl Q2 rfl rfl QV (cO (cS (vc (tv (tI x1.Kind) rfl) vn) (ZQ rfl) (ZS (n+1) x1.Kind) rfl rfl) (mO (tB (decide (x1.Kind=4∨x1.Kind=5))) rfl ?_))))))))))
  refine gw (x1.Kind=4∨x1.Kind=5) (fun fhg64_8=> ?_) fun fhg64_8=> ?_
  ·refine ZV (tI x1.B) (dy fhg64_8) rfl rfl rfl rfl Z2 rfl rfl QV ?_
   refine gF (dy fhg64_8) rfl rfl (OF.move (tv (tN i) rfl)) (VRunO.chain (VWant.on rfl rfl (dy fhg64_8)) (cS (vc (tv (tI x1.B) rfl) (vc (tv (tN i) rfl) vn)) (ZQ rfl) (YI (n+1) x1.B ((i:Nat):Int)) rfl rfl) (gF (dy fhg64_8) rfl rfl (QY (tv (tB (decide (0≤x1.B∧x1.B<((i:Nat):Int)))) rfl)) (fO (OF.pickT (VEv.tmpB rfl (dy fhg64_8)) (tv (tB (!(decide (0≤x1.B∧x1.B<((i:Nat):Int))))) rfl)) (mO (tB (!(decide (0≤x1.B∧x1.B<((i:Nat):Int))))) rfl ?_))))
   refine gn (0≤x1.B∧x1.B<((i:Nat):Int)) (fun fhg71_9=> ?_) fun fhg71_9=> ?_
   ·refine Qx 5 10 false 71 (ny fhg71_9) rfl rfl rfl ?_
    refine JK 3 15 true 76 rfl rfl rfl (oO rfl rfl (ny fhg71_9) (fO (OF.pickT (VEv.tmpB rfl (ny fhg71_9)) (VEv.bool true)) (nt (ct rfl (sr (fO (OF.assign (VEv.bool false)) (nt (rt (vinB.r (tr (tr ?_)))))))))))
    refine vinB.r (tr (vb (b':=false) rfl ?_))
    (symm;rw [decide_eq_false_iff_not];rintro ⟨h1,h2⟩;(have h3:=(QB hx1).1 (h2 i fhc1);obtain ⟨h4,h5,h6⟩:=h3;simp only [two] at h6;omega))
   refine ZV (tI x1.Kind) (nz fhg71_9) rfl rfl rfl rfl Q2 rfl rfl QV (VRunO.chain (VWant.on rfl rfl (nz fhg71_9)) (cS (vc (tv (tI x1.Kind) rfl) vn) (ZQ rfl) (ZS (n+1) x1.Kind) rfl rfl) (gF (nz fhg71_9) rfl rfl (QY (tv (tB (decide (x1.Kind=4∨x1.Kind=5))) rfl)) (gF (nz fhg71_9) rfl rfl (OF.move (tv (tB (!(decide (x1.Kind=4∨x1.Kind=5)))) rfl)) (Qx 3 15 true 76 (nkT (dy fhg64_8)) rfl rfl rfl (gF (nz fhg71_9) rfl rfl (OF.pickF (VEv.tmpB rfl (nkT (dy fhg64_8))) (VEv.bool false)) (fO (OF.pickF (VEv.tmpB rfl (nz fhg71_9)) (tv (tB false) rfl)) (nt (cf rfl (sk (vinB.n (tn ?_)))))))))))
   refine VRun.region (fO (QA (tv (tN i) rfl) (VEv.int .i64 1) (by omega)) (mO (tN (i+1)) rfl (VRunO.nil (tn ?_))))
   refine ⟨(i+1:Nat),?_,?_,Wk.mk (fun k=>k) ?_ ?_ ?_⟩
   ·refine QT hI0 fhc1 ((QB hx1).2 ?_)
    simp only [QcQ,two]
    refine ⟨by omega,fun hk=> ?_,fun hk=> ?_⟩
    ·(exfalso;omega)
    ·(refine ⟨?_,?_,fun h=> ?_,fun h=> ?_,fun h1 h2=> ?_⟩<;>first | assumption | omega)
   ·omega
   ·exact (b2 (b2 (b2 (b2 bn))))
   ·exact bn
   ·exact nd rfl
  refine Qx 5 3 true 64 (dz fhg64_8) rfl rfl rfl (fO (OF.pickF (VEv.tmpB rfl (dz fhg64_8)) (VEv.bool false)) (mO (tB false) rfl (VRunO.free (VWant.on (b:=false) rfl rfl rfl) (OF.fieldAddrO (tv (T.op 0 0) rfl) Q2) (VRunO.look (VWant.on (b:=false) rfl rfl rfl) (OL.loadO1 (t:=(tI x1.Kind)) (tv (T.op 0 0) rfl) rfl rfl QV) (VRunO.chain (VWant.on (b:=false) rfl rfl rfl) (cS (vc (tv (tI x1.Kind) rfl) vn) (ZQ rfl) (ZS (n+1) x1.Kind) rfl rfl) (VRunO.free (VWant.on (b:=false) rfl rfl rfl) (QY (tv (tB (decide (x1.Kind=4∨x1.Kind=5))) rfl)) (VRunO.free (VWant.on (b:=false) rfl rfl rfl) (OF.move (tv (tB (!(decide (x1.Kind=4∨x1.Kind=5)))) rfl)) (ZV (tI x1.B) (nkF (dz fhg64_8)) rfl rfl rfl rfl Z2 rfl rfl QV (gF (nkF (dz fhg64_8)) rfl rfl (xne (tv (tI x1.B) rfl) (VEv.int .i64 0)) (VRunO.free (VWant.on (b:=false) rfl rfl rfl) (OF.pickT (VEv.tmpB rfl (nkF (dz fhg64_8))) (tv (tB (!(decide (x1.B=0)))) rfl)) (fO (OF.pickF (tv (tB false) rfl) (tv (tB (!(decide (x1.B=0)))) rfl)) ?_)))))))))))
  refine nt ?_
  refine cn (x1.B=0) rfl (fun fhc6=> ?_) fun fhc6=> ?_
  ·refine sr ?_
   refine fO (OF.assign (VEv.bool false)) (nt (rt (vinB.r (tr (tr (vinB.r (tr (vb (b':=false) rfl ?_))))))))
   (symm;rw [decide_eq_false_iff_not];rintro ⟨h1,h2⟩;(have h3:=(QB hx1).1 (h2 i fhc1);obtain ⟨h4,h5,h6⟩:=h3;simp only [two] at h6;omega))
  refine sk (vinB.n (tn (VRun.region (fO (QA (tv (tN i) rfl) (VEv.int .i64 1) (by omega)) (mO (tN (i+1)) rfl (VRunO.nil (tn ?_)))))))
  refine ⟨(i+1:Nat),?_,?_,Wk.mk (fun k=>k) ?_ ?_ ?_⟩
  ·refine QT hI0 fhc1 ((QB hx1).2 ?_)
   simp only [QcQ,two]
   refine ⟨by omega,fun hk=> ?_,fun hk=> ?_⟩
   ·(exfalso;omega)
   ·(refine ⟨?_,?_,fun h=> ?_,fun h=> ?_,fun h1 h2=> ?_⟩<;>first | assumption | omega)
  ·omega
  ·exact (b2 (b2 (b2 (b2 bn))))
  ·exact bn
  ·exact nd rfl
 refine VRun.exit (vthn.e (vthn.e (vinB.e (tn (sr (fO (OF.assign (VEv.bool true)) (nt (rt (vb (b':=true) rfl ?_)))))))))
 (symm;rw [decide_eq_true_eq];exact ⟨by omega,JU hI' fhc1⟩)
end Go.Proofs.YthifchndolccgaaGreatDoor.AE
namespace Go.Proofs.YthifchndolccgaaGreatDoor.AE
open Go Go.RowKit
set_option linter.unusedVariables false
set_option linter.unusedSimpArgs false
set_option maxRecDepth 20000
set_option maxHeartbeats 2000000
theorem Qey (n:Nat) (a:D.Clue) (hz:QO a≤mx):Pure (Qo Tryz.prog (n+5)) 50 [(T.agg (Qi false a))] (tB (decide ((1≤a.Sense∧a.Sense≤99)∧ZX a.Play))):=by
 refine Pure.intro (rs:= [ResultVar.tmp 2]) Tryz.func50 rfl rfl rfl (E0:= [(0,(T.agg (Qi false a)))]) rfl ?_
 obtain ⟨hlim,hmx,hmax⟩:=QF
 simp only [QO] at hz
 refine sr (kO (B.box (ts:=(Qi false a)) (tv (T.agg (Qi false a)) rfl) nofun rfl) (fO (OF.assign (VEv.bool false)) (nt (sr (lf (tI a.Sense) rfl QdV rfl rfl QV (cO (cS (vc (tv (tI a.Sense) rfl) (vc (VEv.int .i64 1) (vc (VEv.int .i64 99) vn))) (ZQ rfl) (QQ (n+3) a.Sense 1 99) rfl rfl) (mO (tB (decide (1≤a.Sense∧a.Sense≤99))) rfl ?_)))))))
 refine gw (1≤a.Sense∧a.Sense≤99) (fun fhg6_1=> ?_) fun fhg6_1=> ?_
 ·refine ZV (rd 4 Qm a.Play) (dy fhg6_1) rfl rfl rfl rfl Qd7 rfl rfl Qj9 ?_
  refine VRunO.chain (VWant.on rfl rfl (dy fhg6_1)) (cS (vc (tv (rd 4 Qm a.Play) rfl) vn) (ZQ rfl) (QeG (n+0) a.Play (by assumption)) rfl rfl) (fO (OF.pickT (VEv.tmpB rfl (dy fhg6_1)) (tv (tB (decide (ZX a.Play))) rfl)) (aO (tB (decide (ZX a.Play))) rfl (nt (rt (vb (b':=(decide (ZX a.Play))) rfl ?_)))))
  (refine Q4 ⟨fun h=>⟨?_,h⟩,fun h=>h.2⟩;assumption)
 refine Qx 3 3 true 6 (dz fhg6_1) rfl rfl rfl (fO (OF.pickF (VEv.tmpB rfl (dz fhg6_1)) (VEv.bool false)) (aO (tB false) rfl (nt (rt (vb (b':=false) rfl ?_)))))
 (symm;rw [decide_eq_false_iff_not];rintro ⟨h1,h2⟩;contradiction)
theorem Qet (n:Nat) (a:D.Clue) (hz:QO a≤mx):Pure (Qo Tryz.prog (n+4)) 59 [(T.agg (Qi false a))] (tB (decide ((1≤a.Sense∧a.Sense≤99)∧ZX a.Play))):=by
 refine Pure.intro (rs:= [ResultVar.tmp 2]) Tryz.func59 rfl rfl rfl (E0:= [(0,(T.agg (Qi false a)))]) rfl ?_
 obtain ⟨hlim,hmx,hmax⟩:=QF
 simp only [QO] at hz
 refine sr (kO (B.box (ts:=(Qi false a)) (tv (T.agg (Qi false a)) rfl) nofun rfl) (fO (OF.assign (VEv.bool false)) (nt (sr (lf (tI a.Sense) rfl QdV rfl rfl QV (cO (cS (vc (tv (tI a.Sense) rfl) (vc (VEv.int .i64 1) (vc (VEv.int .i64 99) vn))) (ZQ rfl) (Q9 (n+2) a.Sense 1 99) rfl rfl) (mO (tB (decide (1≤a.Sense∧a.Sense≤99))) rfl ?_)))))))
 refine gw (1≤a.Sense∧a.Sense≤99) (fun fhg6_1=> ?_) fun fhg6_1=> ?_
 ·refine ZV (rd 4 Qm a.Play) (dy fhg6_1) rfl rfl rfl rfl Qd7 rfl rfl Qj9 ?_
  refine VRunO.chain (VWant.on rfl rfl (dy fhg6_1)) (cS (vc (tv (rd 4 Qm a.Play) rfl) vn) (ZQ rfl) (Qeo (n+0) a.Play (by assumption)) rfl rfl) (fO (OF.pickT (VEv.tmpB rfl (dy fhg6_1)) (tv (tB (decide (ZX a.Play))) rfl)) (aO (tB (decide (ZX a.Play))) rfl (nt (rt (vb (b':=(decide (ZX a.Play))) rfl ?_)))))
  (refine Q4 ⟨fun h=>⟨?_,h⟩,fun h=>h.2⟩;assumption)
 refine Qx 3 3 true 6 (dz fhg6_1) rfl rfl rfl (fO (OF.pickF (VEv.tmpB rfl (dz fhg6_1)) (VEv.bool false)) (aO (tB false) rfl (nt (rt (vb (b':=false) rfl ?_)))))
 (symm;rw [decide_eq_false_iff_not];rintro ⟨h1,h2⟩;contradiction)
end Go.Proofs.YthifchndolccgaaGreatDoor.AE
namespace Go.Proofs.YthifchndolccgaaGreatDoor.AE
open Go Go.RowKit
set_option linter.unusedVariables false
set_option linter.unusedSimpArgs false
set_option maxRecDepth 20000
set_option maxHeartbeats 2000000
noncomputable section
def Z5 (a:List Int) (i:Nat):List Int:=(List.range a.length).map fun j=>if j<i∨a.length≤j+i then a.getD (a.length - 1 - j) 0 else a.getD j 0
theorem Jg (a:List Int) (i:Nat):(Z5 a i).length=a.length:=by simp [Z5]
theorem QbA {a:List Int} {i j:Nat} (h:j<a.length):(Z5 a i)[j]? =some (if j<i∨a.length≤j+i then a.getD (a.length - 1 - j) 0 else a.getD j 0):=by
 unfold Z5
 rw [List.getElem?_map,List.getElem?_range h]
 rfl
theorem Qig (a:List Int):Z5 a 0=a:=by
 refine List.ext_getElem? fun j=> ?_
 rcases Nat.lt_or_ge j a.length with h | h
 ·rw [QbA h,if_neg (by omega),List.getD_eq_getElem?_getD,List.getElem?_eq_getElem h]
  rfl
 ·rw [List.getElem?_eq_none (by rw [Jg];exact h),List.getElem?_eq_none h]
theorem QiJ {a:List Int} {i:Nat} (h:a.length≤2*i+1) (h2:i≤a.length):Z5 a i=a.reverse:=by
 refine List.ext_getElem? fun j=> ?_
 rcases Nat.lt_or_ge j a.length with h3 | h3
 ·rw [QbA h3,List.getElem?_reverse h3,List.getElem?_eq_getElem (by omega)]
  split
  ·rw [List.getD_eq_getElem?_getD,List.getElem?_eq_getElem (by omega)];rfl
  ·have e:a.length - 1 - j=j:=by omega
   rw [List.getD_eq_getElem?_getD,List.getElem?_eq_getElem h3]
   simp only [Option.getD_some,e]
 ·rw [List.getElem?_eq_none (by rw [Jg];exact h3),List.getElem?_eq_none (by simpa using h3)]
theorem Qh3 {a:List Int} {i k:Nat} {x y:Int} (hk:k=a.length - 1 - i) (hi:i<k) (hx:(Z5 a i)[k]? =some x) (hy:(Z5 a i)[i]? =some y):((Z5 a i).set i x).set k y=Z5 a (i+1):=by
 subst hk
 rw [QbA (by omega),if_neg (by omega)] at hx hy
 obtain rfl:=Option.some.inj hx
 obtain rfl:=Option.some.inj hy
 refine List.ext_getElem? fun j=> ?_
 rcases Nat.lt_or_ge j a.length with h | h
 ·rw [QbA h,List.getElem?_set,List.getElem?_set,List.length_set,Jg,QbA h]
  by_cases e1:a.length - 1 - i=j
  ·rw [if_pos e1,if_pos (by omega),if_pos (by omega)]
   congr 2
   omega
  ·rw [if_neg e1]
   by_cases e2:i=j
   ·rw [if_pos e2,if_pos (by omega),if_pos (by omega),e2]
   ·rw [if_neg e2]
    by_cases e3:j<i∨a.length≤j+i
    ·rw [if_pos e3,if_pos (by omega)]
    ·rw [if_neg e3,if_neg (by omega)]
 ·rw [List.getElem?_eq_none (by rw [List.length_set,List.length_set,Jg];exact h),List.getElem?_eq_none (by rw [Jg];exact h)]
end
theorem Ja (n:Nat) (a:List Int) (ha:a.length≤YD):Mut (Qo Tryz.prog (n+1)) 149 1 (a.map (QK true)) [] none (a.reverse.map (QK true)):=by
 refine Mut.intro (rt:=0) Tryz.func149 rfl rfl rfl (by kernel_rfl) (Yl (fun _=>rfl) _) (Yl (fun _=>rfl) _) (E0:= []) rfl ?_
 obtain ⟨hlim,hmx,hmax⟩:=QF
 refine sr (mO (T.os 1 0 0 ((a.map (QK true)).length)) rfl (lO (B.lenO (m:=a.length) (tv (T.os 1 0 0 ((a.map (QK true)).length)) rfl) U92 (List.length_map ..)) (fO (B.sub (n:=(((a.length:Nat):Int) - 1)) (tv (tN a.length) rfl) (VEv.int .i64 1) (by (rw [Qs (by omega)];done))) (fO (OF.assign (VEv.int .i64 0)) (aO (tI (((a.length:Nat):Int) - 1)) rfl (nt (VRun.block ?_)))))))
 have he1:a=Z5 a 0:=by exact (Qig a).symm
 refine VRun.loop (A:=Nat) (fun s_=> [(0,(T.os 1 0 0 (((Z5 a s_).map (QK true)).length))),(2,(tN s_)),(3,(tI ((a.length:Int) - 1 - s_)))]) (fun s_=>Q0 [(0,(Obj.rows 1 ((Z5 a s_).map (QK true))))]) 1 (fun s_=>2*s_≤a.length+1∧s_≤a.length) (fun s_=>a.length - s_) (0:Nat) ?_ (Wk.mk (fun k=>k) ?_ ?_ ?_) ?_
 ·(simp;done)
 ·exact (bc ⟨(congrArg (fun l_=>T.os 1 0 0 (List.map (QK true) l_).length) he1),rfl⟩ (b2 (bc ⟨(congrArg (T.int .i64) (show (((a.length:Nat):Int) - 1)=(a.length:Int) - 1 - 0 from (by omega))),rfl⟩ bn)))
 ·exact (bc ⟨(congrArg (fun l_=>some (Obj.rows 1 (List.map (QK true) l_))) he1),(lb rfl),rfl⟩ bn)
 ·exact nd rfl
 rintro i (hI':2*i≤a.length+1∧i≤a.length)
 show VRun _ _ _ [(0,(T.os 1 0 0 (((Z5 a i).map (QK true)).length))),(2,(tN i)),(3,(tI ((a.length:Int) - 1 - i)))] (Q0 [(0,(Obj.rows 1 ((Z5 a i).map (QK true))))]) 1 _
 have hml:=Jg a i
 have hI1:=hI'.1
 have hI2:=hI'.2
 refine sq (sr (mO (tN i) rfl (mO (tI ((a.length:Int) - 1 - i)) rfl (fO (xls (tv (tN i) rfl) (tv (tI ((a.length:Int) - 1 - i)) rfl)) (nt ?_)))))
 refine cd (((i:Nat):Int)<(a.length:Int) - 1 - i) rfl (fun fhc0=> ?_) fun fhc0=> ?_
 ·refine sk ?_
  refine tn (sq (VRun.block (VRun.draw (B:= [[],[],[],[],[],[],[5,4],[4,5,6],[],[],[9,8],[8,9,10],[10,9,8,11,7,6,5,4,1,0],[0,1,4,5,6,7,11,8,9,10,12],[13,12,11,10,9,8,7,6,5,4,1,0,3,2],[2,3,0,1,4,5,6,7,8,9,10,11,12,13,14]]) (by kernel_rfl) (by kernel_rfl) (mD (T.os 1 0 0 (((Z5 a i).map (QK true)).length)) rfl rfl (mD (tN i) rfl rfl (mD (T.os 1 0 0 (((Z5 a i).map (QK true)).length)) rfl rfl (mD (tI ((a.length:Int) - 1 - i)) rfl rfl (mD (T.os 1 0 0 (((Z5 a i).map (QK true)).length)) rfl rfl (mD (tI ((a.length:Int) - 1 - i)) rfl rfl ?_)))))))))
  obtain ⟨x1,hx1⟩:∃x,(Z5 a i)[(Int.toNat ((a.length:Int) - 1 - i))]? =some x:=⟨_,List.getElem?_eq_getElem (by omega)⟩
  refine fD (B.indexAddrO (i:=(Int.toNat ((a.length:Int) - 1 - i))) (tv (T.os 1 0 0 (((Z5 a i).map (QK true)).length)) rfl) (tv (tI ((a.length:Int) - 1 - i)) rfl) (by omega) (by (simp only [List.length_map];omega)) U92 sz5 if5) rfl rfl (lD (OL.loadP1 (t:=(T.int .u8 x1)) (row:=(QK true x1)) (tv (T.orp 1 0 (Int.toNat ((a.length:Int) - 1 - i)) 0) rfl) rfl (Qw _ hx1) rfl rfl st5) rfl rfl (mD (T.os 1 0 0 (((Z5 a i).map (QK true)).length)) rfl rfl (mD (tN i) rfl rfl ?_)))
  obtain ⟨x2,hx2⟩:∃x,(Z5 a i)[i]? =some x:=⟨_,List.getElem?_eq_getElem (by omega)⟩
  refine fD (B.indexAddrO (i:=i) (tv (T.os 1 0 0 (((Z5 a i).map (QK true)).length)) rfl) (tv (tN i) rfl) rfl (by (simp only [List.length_map];omega)) U92 sz5 if5) rfl rfl (lD (OL.loadP1 (t:=(T.int .u8 x2)) (row:=(QK true x2)) (tv (T.orp 1 0 i 0) rfl) rfl (Qw _ hx2) rfl rfl st5) rfl rfl (fD (B.indexAddrO (i:=i) (tv (T.os 1 0 0 (((Z5 a i).map (QK true)).length)) rfl) (tv (tN i) rfl) rfl (by (simp only [List.length_map];omega)) U92 sz5 if5) rfl rfl (VRunD.chain (bi:= [0,1,4,5,6,7,11,8,9,10,12]) rfl VWant.always rfl rfl rfl (by kernel_rfl) (B.storeP (us:= [(T.int .u8 x1)]) (rows':=(((Z5 a i).set i x1).map (QK true))) (row:=(QK true x2)) (tv (T.orp 1 0 i 0) rfl) (tv (T.int .u8 x1) rfl) nofun rfl (Qw _ hx2) rfl (lb rfl) if5 sz5 (bc rfl bn) (by intro r hr t ht;obtain ⟨x,_,rfl⟩:=List.mem_map.1 hr;rw [Qji] at ht;exact Yg (okByte.pl _ t ht)) (Yu rfl)) ?_)))
  obtain ⟨x3,hx3⟩:∃x,((Z5 a i).set i x1)[(Int.toNat ((a.length:Int) - 1 - i))]? =some x:=⟨_,List.getElem?_eq_getElem (by (simp only [List.length_set];omega))⟩
  refine fD (B.indexAddrO (i:=(Int.toNat ((a.length:Int) - 1 - i))) (tv (T.os 1 0 0 (((Z5 a i).map (QK true)).length)) rfl) (tv (tI ((a.length:Int) - 1 - i)) rfl) (by omega) (by (simp only [List.length_map];omega)) U92 sz5 if5) rfl rfl (VRunD.chain (bi:= [2,3,0,1,4,5,6,7,8,9,10,11,12,13,14]) rfl VWant.always rfl rfl rfl (by kernel_rfl) (B.storeP (us:= [(T.int .u8 x2)]) (rows':=((((Z5 a i).set i x1).set (Int.toNat ((a.length:Int) - 1 - i)) x2).map (QK true))) (row:=(QK true x3)) (tv (T.orp 1 0 (Int.toNat ((a.length:Int) - 1 - i)) 0) rfl) (tv (T.int .u8 x2) rfl) nofun rfl (Qw _ hx3) rfl (lb rfl) if5 sz5 (bc rfl bn) (by intro r hr t ht;obtain ⟨x,_,rfl⟩:=List.mem_map.1 hr;rw [Qji] at ht;exact Yg (okByte.pl _ t ht)) (Yu rfl)) (VRunD.nil (vinB.n (tn (VRun.region (mO (tN i) rfl (fO (QA (tv (tN i) rfl) (VEv.int .i64 1) (by omega)) (mO (tI ((a.length:Int) - 1 - i)) rfl (fO (B.sub (n:=((a.length:Int) - 1 - i - 1)) (tv (tI ((a.length:Int) - 1 - i)) rfl) (VEv.int .i64 1) (by (rw [Qs (by omega)];done))) (aO (tN (i+1)) rfl (aO (tI ((a.length:Int) - 1 - i - 1)) rfl ?_)))))))))))
  refine VRunO.nil (tn ?_)
  have hml2:=Jg a (i+1)
  have he2:(((Z5 a i).set i x1).set (Int.toNat ((a.length:Int) - 1 - i)) x2)=Z5 a (i+1):=by (refine Qh3 ?_ ?_ hx1 hx2<;>omega)
  refine ⟨(i+1:Nat),?_,?_,Wk.mk (fun k=>k) ?_ ?_ ?_⟩
  ·omega
  ·omega
  ·exact (bc ⟨(congrArg (fun n_=>T.os 1 0 0 n_) (show ((Z5 a i).map (QK true)).length=((Z5 a (i+1)).map (QK true)).length from (by rw [List.length_map,List.length_map,hml,hml2]))),rfl⟩ (b2 (bc ⟨(congrArg (T.int .i64) (show ((a.length:Int) - 1 - i - 1)=(a.length:Int) - 1 - (i+1) from (by omega))),rfl⟩ bn)))
  ·exact (bc ⟨(congrArg (fun l_=>some (Obj.rows 1 (List.map (QK true) l_))) he2),(lb rfl),rfl⟩ bn)
  ·exact nd rfl
 refine VRun.exit (vthn.e (vthn.e (vinB.e ?_)))
 refine vmut.v (rows:=((Z5 a i).map (QK true))) rfl rfl ?_ rfl
 ·show List.map _ (Z5 a i)=List.map _ a.reverse
  refine congrArg (List.map _) ?_
  refine QiJ ?_ ?_<;>omega
end Go.Proofs.YthifchndolccgaaGreatDoor.AE
namespace Go.Proofs.YthifchndolccgaaGreatDoor.AE
open Go Go.RowKit
set_option linter.unusedVariables false
set_option linter.unusedSimpArgs false
set_option maxRecDepth 20000
set_option maxHeartbeats 2000000
noncomputable section
def gOk (s:ByteArray) (j:Nat):Prop:=Qr s j=35∨Qr s j=46
def gridOk (g:D.Grid):Prop:=(2≤g.Rows∧g.Rows≤6)∧(2≤g.Cols∧g.Cols≤6)∧((g.Cells.size:Nat):Int)=g.Rows*g.Cols∧∀j,j<g.Cells.size→gOk g.Cells j
instance (g:D.Grid):Decidable (gridOk g):=Classical.propDecidable _
theorem QlM {a b:Int} (h1:2≤a) (h2:a≤6) (h3:2≤b) (h4:b≤6):4≤a*b∧a*b≤36:=by
 have e1:2*2≤a*b:=Int.mul_le_mul h1 h3 (by decide) (by omega)
 have e2:a*b≤6*6:=Int.mul_le_mul h2 h4 (by omega) (by decide)
 omega
theorem QlI {a b:Int} (h1:2≤a) (h2:a≤6) (h3:2≤b) (h4:b≤6):IntKind.i64.wrap (a*b)=a*b:=by
 have:=QlM h1 h2 h3 h4
 rw [Qs (by omega)]
theorem gridOk.size {g:D.Grid} (h:gridOk g):4≤g.Cells.size∧g.Cells.size≤36:=by
 have:=QlM h.1.1 h.1.2 h.2.1.1 h.2.1.2
 have:=h.2.2.1
 omega
end
theorem Zt (n:Nat) (g:D.Grid) (hc:g.Cells.size≤maxLen):Pure (Qo Tryz.prog (n+2)) 53 [(T.agg (Qb false g))] (tB (decide (gridOk g))):=by
 refine Pure.intro (rs:= [ResultVar.tmp 2]) Tryz.func53 rfl rfl rfl (E0:= [(0,(T.agg (Qb false g)))]) rfl ?_
 obtain ⟨hlim,hmx,hmax⟩:=QF
 refine sr (kO (B.box (ts:=(Qb false g)) (tv (T.agg (Qb false g)) rfl) nofun rfl) (fO (OF.assign (VEv.bool false)) (nt (sq (sr (lf (tI g.Rows) rfl JG rfl rfl QV (cO (cS (vc (tv (tI g.Rows) rfl) (vc (VEv.int .i64 2) (vc (VEv.int .i64 6) vn))) (ZQ rfl) (QQ (n+0) g.Rows 2 6) rfl rfl) (fO (QY (tv (tB (decide (2≤g.Rows∧g.Rows≤6))) rfl)) (mO (tB (!(decide (2≤g.Rows∧g.Rows≤6)))) rfl ?_)))))))))
 refine gn (2≤g.Rows∧g.Rows≤6) (fun fhg8_1=> ?_) fun fhg8_1=> ?_
 ·refine Qx 4 4 false 8 (ny fhg8_1) rfl rfl rfl ?_
  refine fO (OF.pickT (VEv.tmpB rfl (ny fhg8_1)) (VEv.bool true)) (mO (tB true) rfl (Qx 9 10 false 14 (b:=true) rfl rfl rfl rfl (fO (OF.pickT (tv (tB true) rfl) (VEv.bool true)) (nt (ct rfl (sr (fO (OF.assign (VEv.bool false)) (nt (rt (tr (vb (b':=false) rfl ?_)))))))))))
  (symm;rw [decide_eq_false_iff_not];rintro ⟨g1,g2,g3,g4⟩;omega)
 refine ZV (tI g.Cols) (nz fhg8_1) rfl rfl rfl rfl Za rfl rfl QV (VRunO.chain (VWant.on rfl rfl (nz fhg8_1)) (cS (vc (tv (tI g.Cols) rfl) (vc (VEv.int .i64 2) (vc (VEv.int .i64 6) vn))) (ZQ rfl) (QQ (n+0) g.Cols 2 6) rfl rfl) (gF (nz fhg8_1) rfl rfl (QY (tv (tB (decide (2≤g.Cols∧g.Cols≤6))) rfl)) (fO (OF.pickF (VEv.tmpB rfl (nz fhg8_1)) (tv (tB (!(decide (2≤g.Cols∧g.Cols≤6)))) rfl)) (mO (tB (!(decide (2≤g.Cols∧g.Cols≤6)))) rfl ?_))))
 refine gn (2≤g.Cols∧g.Cols≤6) (fun fhg14_2=> ?_) fun fhg14_2=> ?_
 ·refine Qx 9 10 false 14 (ny fhg14_2) rfl rfl rfl ?_
  refine fO (OF.pickT (VEv.tmpB rfl (ny fhg14_2)) (VEv.bool true)) (nt (ct rfl (sr (fO (OF.assign (VEv.bool false)) (nt (rt (tr (vb (b':=false) rfl ?_))))))))
  (symm;rw [decide_eq_false_iff_not];rintro ⟨g1,g2,g3,g4⟩;omega)
 refine ZV (tS g.Cells) (nz fhg14_2) rfl rfl rfl rfl Qy rfl rfl ZN (gL (nz fhg14_2) rfl rfl (B.lenS (tv (tS g.Cells) rfl) U9) (ZV (tI g.Rows) (nz fhg14_2) rfl rfl rfl rfl JG rfl rfl QV (ZV (tI g.Cols) (nz fhg14_2) rfl rfl rfl rfl Za rfl rfl QV (gF (nz fhg14_2) rfl rfl (B.mul (n:=(g.Rows*g.Cols)) (tv (tI g.Rows) rfl) (tv (tI g.Cols) rfl) (by (refine QlI ?_ ?_ ?_ ?_<;>omega))) (gF (nz fhg14_2) rfl rfl (xne (tv (tN g.Cells.size) rfl) (tv (tI (g.Rows*g.Cols)) rfl)) (fO (OF.pickF (VEv.tmpB rfl (nz fhg14_2)) (tv (tB (!(decide (((g.Cells.size:Nat):Int)=(g.Rows*g.Cols))))) rfl)) (nt ?_)))))))
 refine cn (((g.Cells.size:Nat):Int)=(g.Rows*g.Cols)) rfl (fun fhc0=> ?_) fun fhc0=> ?_
 ·refine sr ?_
  refine fO (OF.assign (VEv.bool false)) (nt (rt (tr (vb (b':=false) rfl ?_))))
  (symm;rw [decide_eq_false_iff_not];rintro ⟨g1,g2,g3,g4⟩;omega)
 refine sk (tn (sq (sr (fO (OF.assign (VEv.int .i64 0)) (nt (VRun.block ?_))))))
 refine VRun.loop (A:=Nat) (fun s_=> [(1,(T.op 0 0)),(3,(tN s_))]) (fun s_=>Q0 [(0,(Obj.cells (Qb false g)))]) 1 (fun s_=>s_≤g.Cells.size∧∀j,j<s_→gOk g.Cells j) (fun s_=>g.Cells.size - s_) (0:Nat) ?_ (Wk.mk (fun k=>k) ?_ ?_ ?_) ?_
 ·exact ⟨Nat.zero_le _,fun j hj=>by omega⟩
 ·exact (b2 (b2 bn))
 ·exact (b3 bn)
 ·exact nd rfl
 rintro i (hI':i≤g.Cells.size∧∀j,j<i→gOk g.Cells j)
 show VRun _ _ _ [(1,(T.op 0 0)),(3,(tN i))] (Q0 [(0,(Obj.cells (Qb false g)))]) 1 _
 have hI1:=hI'.1
 refine sq (sr (mO (tN i) rfl (lf (tS g.Cells) rfl Qy rfl rfl ZN (lO (B.lenS (tv (tS g.Cells) rfl) U9) (fO (Ze (tv (tN i) rfl) (tv (tN g.Cells.size) rfl)) (nt ?_))))))
 refine cd (i<g.Cells.size) rfl (fun fhc1=> ?_) fun fhc1=> ?_
 ·refine sk ?_
  refine tn (sq (VRun.block (sr (lf (tS g.Cells) rfl Qy rfl rfl ZN (mO (tN i) rfl ?_)))))
  have hb3:i<g.Cells.size:=(by omega)
  refine fO (Js (tv (tS g.Cells) rfl) (tv (tN i) rfl) hb3 U9) (fO (xne (tv (T.int .u8 (Qr g.Cells i)) rfl) (VEv.int .u8 35)) (mO (tB (!(decide (Qr g.Cells i=35)))) rfl ?_))
  refine gn (Qr g.Cells i=35) (fun fhg37_4=> ?_) fun fhg37_4=> ?_
  ·refine ZV (tS g.Cells) (ny fhg37_4) rfl rfl rfl rfl Qy rfl rfl ZN ?_
   refine gF (ny fhg37_4) rfl rfl (OF.move (tv (tN i) rfl)) ?_
   have hb5:i<g.Cells.size:=(by omega)
   refine gF (ny fhg37_4) rfl rfl (Js (tv (tS g.Cells) rfl) (tv (tN i) rfl) hb5 U9) (gF (ny fhg37_4) rfl rfl (xne (tv (T.int .u8 (Qr g.Cells i)) rfl) (VEv.int .u8 46)) (fO (OF.pickT (VEv.tmpB rfl (ny fhg37_4)) (tv (tB (!(decide (Qr g.Cells i=46)))) rfl)) (nt ?_)))
   refine cn (Qr g.Cells i=46) rfl (fun fhc2=> ?_) fun fhc2=> ?_
   ·refine sr ?_
    refine fO (OF.assign (VEv.bool false)) (nt (rt (vinB.r (tr (tr (vinB.r (tr (vb (b':=false) rfl ?_))))))))
    (symm;rw [decide_eq_false_iff_not];rintro ⟨g1,g2,g3,g4⟩;(have:=g4 i fhc1;unfold gOk at this;omega))
   refine sk (vinB.n (tn (VRun.region (mO (tN i) rfl (fO (QA (tv (tN i) rfl) (VEv.int .i64 1) (by omega)) (aO (tN (i+1)) rfl (VRunO.nil (tn ?_))))))))
   refine ⟨(i+1:Nat),?_,?_,Wk.mk (fun k=>k) ?_ ?_ ?_⟩
   ·refine QT hI' fhc1 ?_;unfold gOk;omega
   ·omega
   ·exact (b2 (b2 bn))
   ·exact (b3 bn)
   ·exact nd rfl
  refine Qx 5 5 true 37 (nz fhg37_4) rfl rfl rfl (fO (OF.pickF (VEv.tmpB rfl (nz fhg37_4)) (VEv.bool false)) (nt (cf rfl (sk (vinB.n (tn (VRun.region (mO (tN i) rfl (fO (QA (tv (tN i) rfl) (VEv.int .i64 1) (by omega)) (aO (tN (i+1)) rfl (VRunO.nil ?_)))))))))))
  refine tn ?_
  refine ⟨(i+1:Nat),?_,?_,Wk.mk (fun k=>k) ?_ ?_ ?_⟩
  ·refine QT hI' fhc1 ?_;unfold gOk;omega
  ·omega
  ·exact (b2 (b2 bn))
  ·exact (b3 bn)
  ·exact nd rfl
 refine VRun.exit (vthn.e (vthn.e (vinB.e (tn (sr (fO (OF.assign (VEv.bool true)) (nt (rt (vb (b':=true) rfl ?_)))))))))
 (symm;rw [decide_eq_true_eq];refine ⟨?_,?_,?_,JU hI' fhc1⟩<;>assumption)
theorem ZD (n:Nat) (g:D.Grid) (hc:g.Cells.size≤maxLen):Pure (Qo Tryz.prog (n+2)) 60 [(T.agg (Qb false g))] (tB (decide (gridOk g))):=by
 refine Pure.intro (rs:= [ResultVar.tmp 2]) Tryz.func60 rfl rfl rfl (E0:= [(0,(T.agg (Qb false g)))]) rfl ?_
 obtain ⟨hlim,hmx,hmax⟩:=QF
 refine sr (kO (B.box (ts:=(Qb false g)) (tv (T.agg (Qb false g)) rfl) nofun rfl) (fO (OF.assign (VEv.bool false)) (nt (sq (sr (lf (tI g.Rows) rfl JG rfl rfl QV (cO (cS (vc (tv (tI g.Rows) rfl) (vc (VEv.int .i64 2) (vc (VEv.int .i64 6) vn))) (ZQ rfl) (Q9 (n+0) g.Rows 2 6) rfl rfl) (fO (QY (tv (tB (decide (2≤g.Rows∧g.Rows≤6))) rfl)) (mO (tB (!(decide (2≤g.Rows∧g.Rows≤6)))) rfl ?_)))))))))
 refine gn (2≤g.Rows∧g.Rows≤6) (fun fhg8_1=> ?_) fun fhg8_1=> ?_
 ·refine Qx 4 4 false 8 (ny fhg8_1) rfl rfl rfl ?_
  refine fO (OF.pickT (VEv.tmpB rfl (ny fhg8_1)) (VEv.bool true)) (mO (tB true) rfl (Qx 9 10 false 14 (b:=true) rfl rfl rfl rfl (fO (OF.pickT (tv (tB true) rfl) (VEv.bool true)) (nt (ct rfl (sr (fO (OF.assign (VEv.bool false)) (nt (rt (tr (vb (b':=false) rfl ?_)))))))))))
  (symm;rw [decide_eq_false_iff_not];rintro ⟨g1,g2,g3,g4⟩;omega)
 refine ZV (tI g.Cols) (nz fhg8_1) rfl rfl rfl rfl Za rfl rfl QV (VRunO.chain (VWant.on rfl rfl (nz fhg8_1)) (cS (vc (tv (tI g.Cols) rfl) (vc (VEv.int .i64 2) (vc (VEv.int .i64 6) vn))) (ZQ rfl) (Q9 (n+0) g.Cols 2 6) rfl rfl) (gF (nz fhg8_1) rfl rfl (QY (tv (tB (decide (2≤g.Cols∧g.Cols≤6))) rfl)) (fO (OF.pickF (VEv.tmpB rfl (nz fhg8_1)) (tv (tB (!(decide (2≤g.Cols∧g.Cols≤6)))) rfl)) (mO (tB (!(decide (2≤g.Cols∧g.Cols≤6)))) rfl ?_))))
 refine gn (2≤g.Cols∧g.Cols≤6) (fun fhg14_2=> ?_) fun fhg14_2=> ?_
 ·refine Qx 9 10 false 14 (ny fhg14_2) rfl rfl rfl ?_
  refine fO (OF.pickT (VEv.tmpB rfl (ny fhg14_2)) (VEv.bool true)) (nt (ct rfl (sr (fO (OF.assign (VEv.bool false)) (nt (rt (tr (vb (b':=false) rfl ?_))))))))
  (symm;rw [decide_eq_false_iff_not];rintro ⟨g1,g2,g3,g4⟩;omega)
 refine ZV (tS g.Cells) (nz fhg14_2) rfl rfl rfl rfl Qy rfl rfl ZN (gL (nz fhg14_2) rfl rfl (B.lenS (tv (tS g.Cells) rfl) U9) (ZV (tI g.Rows) (nz fhg14_2) rfl rfl rfl rfl JG rfl rfl QV (ZV (tI g.Cols) (nz fhg14_2) rfl rfl rfl rfl Za rfl rfl QV (gF (nz fhg14_2) rfl rfl (B.mul (n:=(g.Rows*g.Cols)) (tv (tI g.Rows) rfl) (tv (tI g.Cols) rfl) (by (refine QlI ?_ ?_ ?_ ?_<;>omega))) (gF (nz fhg14_2) rfl rfl (xne (tv (tN g.Cells.size) rfl) (tv (tI (g.Rows*g.Cols)) rfl)) (fO (OF.pickF (VEv.tmpB rfl (nz fhg14_2)) (tv (tB (!(decide (((g.Cells.size:Nat):Int)=(g.Rows*g.Cols))))) rfl)) (nt ?_)))))))
 refine cn (((g.Cells.size:Nat):Int)=(g.Rows*g.Cols)) rfl (fun fhc0=> ?_) fun fhc0=> ?_
 ·refine sr ?_
  refine fO (OF.assign (VEv.bool false)) (nt (rt (tr (vb (b':=false) rfl ?_))))
  (symm;rw [decide_eq_false_iff_not];rintro ⟨g1,g2,g3,g4⟩;omega)
 refine sk (tn (sq (sr (lf (tS g.Cells) rfl Qy rfl rfl ZN (lO (B.lenS (tv (tS g.Cells) rfl) U9) (fO (OF.move (VEv.int .i64 0)) (nt (VRun.block ?_))))))))
 refine VRun.loop (A:=Nat) (fun s_=> [(1,(T.op 0 0)),(27,(tN g.Cells.size)),(28,(tN s_))]) (fun s_=>Q0 [(0,(Obj.cells (Qb false g)))]) 1 (fun s_=>s_≤g.Cells.size∧∀j,j<s_→gOk g.Cells j) (fun s_=>g.Cells.size - s_) (0:Nat) ?_ (Wk.mk (fun k=>k) ?_ ?_ ?_) ?_
 ·exact ⟨Nat.zero_le _,fun j hj=>by omega⟩
 ·exact (b2 (b2 (b2 bn)))
 ·exact (b3 bn)
 ·exact nd rfl
 rintro i (hI':i≤g.Cells.size∧∀j,j<i→gOk g.Cells j)
 show VRun _ _ _ [(1,(T.op 0 0)),(27,(tN g.Cells.size)),(28,(tN i))] (Q0 [(0,(Obj.cells (Qb false g)))]) 1 _
 have hI1:=hI'.1
 refine sr (fO (Ze (tv (tN i) rfl) (tv (tN g.Cells.size) rfl)) (nt (sq ?_)))
 refine cd (i<g.Cells.size) rfl (fun fhc1=> ?_) fun fhc1=> ?_
 ·refine sk ?_
  refine tn (sq (VRun.block (sr (mO (tN i) rfl (aO (tN i) rfl (nt (sr (lf (tS g.Cells) rfl Qy rfl rfl ZN (mO (tN i) rfl ?_)))))))))
  have hb3:i<g.Cells.size:=(by omega)
  refine fO (Js (tv (tS g.Cells) rfl) (tv (tN i) rfl) hb3 U9) (fO (xne (tv (T.int .u8 (Qr g.Cells i)) rfl) (VEv.int .u8 35)) (mO (tB (!(decide (Qr g.Cells i=35)))) rfl ?_))
  refine gn (Qr g.Cells i=35) (fun fhg36_4=> ?_) fun fhg36_4=> ?_
  ·refine ZV (tS g.Cells) (ny fhg36_4) rfl rfl rfl rfl Qy rfl rfl ZN ?_
   refine gF (ny fhg36_4) rfl rfl (OF.move (tv (tN i) rfl)) ?_
   have hb5:i<g.Cells.size:=(by omega)
   refine gF (ny fhg36_4) rfl rfl (Js (tv (tS g.Cells) rfl) (tv (tN i) rfl) hb5 U9) (gF (ny fhg36_4) rfl rfl (xne (tv (T.int .u8 (Qr g.Cells i)) rfl) (VEv.int .u8 46)) (fO (OF.pickT (VEv.tmpB rfl (ny fhg36_4)) (tv (tB (!(decide (Qr g.Cells i=46)))) rfl)) (nt ?_)))
   refine cn (Qr g.Cells i=46) rfl (fun fhc2=> ?_) fun fhc2=> ?_
   ·refine sr ?_
    refine fO (OF.assign (VEv.bool false)) (nt (rt (vinB.r (tr (tr (vinB.r (tr (vb (b':=false) rfl ?_))))))))
    (symm;rw [decide_eq_false_iff_not];rintro ⟨g1,g2,g3,g4⟩;(have:=g4 i fhc1;unfold gOk at this;omega))
   refine sk (vinB.n (tn (VRun.region (fO (QA (tv (tN i) rfl) (VEv.int .i64 1) (by omega)) (mO (tN (i+1)) rfl (VRunO.nil (tn ?_)))))))
   refine ⟨(i+1:Nat),?_,?_,Wk.mk (fun k=>k) ?_ ?_ ?_⟩
   ·refine QT hI' fhc1 ?_;unfold gOk;omega
   ·omega
   ·exact (b2 (b2 (b2 bn)))
   ·exact (b3 bn)
   ·exact nd rfl
  refine Qx 5 5 true 36 (nz fhg36_4) rfl rfl rfl (fO (OF.pickF (VEv.tmpB rfl (nz fhg36_4)) (VEv.bool false)) (nt (cf rfl (sk (vinB.n (tn (VRun.region (fO (QA (tv (tN i) rfl) (VEv.int .i64 1) (by omega)) (mO (tN (i+1)) rfl (VRunO.nil (tn ?_)))))))))))
  refine ⟨(i+1:Nat),?_,?_,Wk.mk (fun k=>k) ?_ ?_ ?_⟩
  ·refine QT hI' fhc1 ?_;unfold gOk;omega
  ·omega
  ·exact (b2 (b2 (b2 bn)))
  ·exact (b3 bn)
  ·exact nd rfl
 refine VRun.exit (vthn.e (vthn.e (vinB.e (tn (sr (fO (OF.assign (VEv.bool true)) (nt (rt (vb (b':=true) rfl ?_)))))))))
 (symm;rw [decide_eq_true_eq];refine ⟨?_,?_,?_,JU hI' fhc1⟩<;>assumption)
noncomputable section
def Zu (s:ByteArray):Nat→ByteArray
 | 0=>⟨#[]⟩
 | i+1=>s.extract i (i+1)++Zu s i
def back (s:ByteArray):ByteArray:=if s.size≤100 then Zu s s.size else ⟨#[]⟩
theorem QcP {s:ByteArray}:∀ {i:Nat},i≤s.size→(Zu s i).size=i
 | 0,_=>rfl
 | i+1,h=>by
  simp only [Zu,ByteArray.size_append,ByteArray.size_extract,QcP (show i≤s.size by omega)]
  omega
theorem Qf5 {s:ByteArray} {i:Nat} (h1:i≤s.size) (h2:s.size≤100∨i=0) (h3:¬i<s.size∨¬s.size≤100):Zu s i=back s:=by
 unfold back
 split
 ·rw [show i=s.size by omega]
 ·rw [show i=0 by omega];rfl
def YC (g:D.Grid):D.Grid:=if gridOk g then D.Grid.mk g.Rows g.Cols (back g.Cells) else D.Grid.mk 0 0 ByteArray.empty
def Qc0 (g:D.Grid):Prop:=gridOk g∧D.Grid.mk g.Rows g.Cols (back g.Cells)=g
instance (g:D.Grid):Decidable (Qc0 g):=Classical.propDecidable _
theorem Qcj {g:D.Grid} (h:gridOk g):YC g=g↔Qc0 g:=by
 unfold YC Qc0
 rw [if_pos h]
 exact ⟨fun e=>⟨h,e⟩,fun e=>e.2⟩
end
theorem Qcq (n:Nat) (s:ByteArray) (hc:s.size≤maxLen):Pure (Qo Tryz.prog (n+1)) 130 [(tS s)] (tS (back s)):=by
 refine Pure.intro (rs:= [ResultVar.tmp 2]) Tryz.func130 rfl rfl rfl (E0:= [(0,(tS s))]) rfl ?_
 obtain ⟨hlim,hmx,hmax⟩:=QF
 refine sr (fO (OF.assign (VEv.str (⟨#[]⟩:ByteArray))) (nt (sr (fO (OF.assign (VEv.str (⟨#[]⟩:ByteArray))) (nt (sq (sr (fO (OF.assign (VEv.int .i64 0)) (nt (VRun.block ?_))))))))))
 refine VRun.loop (A:=Nat) (fun s_=> [(0,(tS s)),(2,(tS (⟨#[]⟩:ByteArray))),(3,(tS (Zu s s_))),(4,(tN s_))]) (fun s_=>Q0 []) 0 (fun s_=>s_≤s.size∧(s.size≤100∨s_=0)) (fun s_=>s.size - s_) (0:Nat) ?_ (Wk.mk (fun k=>k) ?_ ?_ ?_) ?_
 ·exact ⟨Nat.zero_le _, .inr rfl⟩
 ·exact (b2 (b2 (bc ⟨(congrArg T.str (show (⟨#[]⟩:ByteArray)=Zu s 0 from (by rfl))),rfl⟩ (b2 bn))))
 ·exact bn
 ·exact nd rfl
 rintro i (hI':i≤s.size∧(s.size≤100∨i=0))
 show VRun _ _ _ [(0,(tS s)),(2,(tS (⟨#[]⟩:ByteArray))),(3,(tS (Zu s i))),(4,(tN i))] (Q0 []) 0 _
 have hI1:=hI'.1
 have hbs:=QcP hI1
 refine sq (sr (mO (tN i) rfl (mO (tS s) rfl (lO (B.lenS (tv (tS s) rfl) U9) (fO (Ze (tv (tN i) rfl) (tv (tN s.size) rfl)) (mO (tB (decide (i<s.size))) rfl ?_))))))
 refine gw (i<s.size) (fun fhg9_1=> ?_) fun fhg9_1=> ?_
 ·refine gF (dy fhg9_1) rfl rfl (OF.move (tv (tS s) rfl)) ?_
  refine gL (dy fhg9_1) rfl rfl (B.lenS (tv (tS s) rfl) U9) (gF (dy fhg9_1) rfl rfl (B.leq (c:=(decide (s.size≤100))) (tv (tN s.size) rfl) (VEv.int .i64 100) (by exact Q4 (by omega))) (fO (OF.pickT (VEv.tmpB rfl (dy fhg9_1)) (tv (tB (decide (s.size≤100))) rfl)) (nt ?_)))
  refine cd (s.size≤100) rfl (fun fhc0=> ?_) fun fhc0=> ?_
  ·refine sk ?_
   refine tn (sq (VRun.block (VRun.region (mO (tS s) rfl (mO (tN i) rfl (mO (tN i) rfl (fO (QA (tv (tN i) rfl) (VEv.int .i64 1) (by omega)) (lO (OL.sliceS (i:=i) (j:=(i+1)) (tv (tS s) rfl) (tv (tN i) rfl) (tv (tN (i+1)) rfl) rfl rfl (by omega) (by omega) U9) (mO (tS (Zu s i)) rfl (fO (B.sadd (tv (tS (s.extract i (i+1))) rfl) (tv (tS (Zu s i)) rfl) (by (simp only [ByteArray.size_extract];omega))) (aO (tS ((s.extract i (i+1))++Zu s i)) rfl ?_)))))))))))
   refine VRunO.nil (vinB.n (tn (VRun.region (mO (tN i) rfl (fO (QA (tv (tN i) rfl) (VEv.int .i64 1) (by omega)) (aO (tN (i+1)) rfl (VRunO.nil (tn ?_))))))))
   refine ⟨(i+1:Nat),?_,?_,Wk.mk (fun k=>k) ?_ ?_ ?_⟩
   ·exact ⟨by omega, .inl (by omega)⟩
   ·omega
   ·exact (b2 (b2 (bc ⟨(congrArg T.str (show ((s.extract i (i+1))++Zu s i)=Zu s (i+1) from (by rfl))),rfl⟩ (b2 bn))))
   ·exact bn
   ·exact nd rfl
  refine VRun.exit (vthn.e (vthn.e (vinB.e (tn (sr (mO (tS (Zu s i)) rfl (aO (tS (Zu s i)) rfl (nt (rt ?_)))))))))
  refine vfin.eq (r':=(tS (Zu s i))) ?_ (vfin.r (VRes.tmp (t:=(tS (Zu s i))) rfl VRes.nil) (Give.str _))
  refine congrArg T.str ?_
  refine Qf5 hI1 hI'.2 ?_;omega
 refine Qx 3 4 true 9 (dz fhg9_1) rfl rfl rfl (fO (OF.pickF (VEv.tmpB rfl (dz fhg9_1)) (VEv.bool false)) (nt (cf rfl (VRun.exit (vthn.e (vthn.e (vinB.e (tn (sr (mO (tS (Zu s i)) rfl (aO (tS (Zu s i)) rfl ?_)))))))))))
 refine nt (rt ?_)
 refine vfin.eq (r':=(tS (Zu s i))) ?_ (vfin.r (VRes.tmp (t:=(tS (Zu s i))) rfl VRes.nil) (Give.str _))
 refine congrArg T.str ?_
 refine Qf5 hI1 hI'.2 ?_;omega
theorem QcY (n:Nat) (g:D.Grid) (hc:g.Cells.size≤maxLen):Pure (Qo Tryz.prog (n+3)) 97 [(T.agg (Qb false g))] (T.agg (Qb true (YC g))):=by
 refine Pure.intro (rs:= [ResultVar.cell 2 33]) Tryz.func97 rfl rfl rfl (E0:= [(0,(T.agg (Qb false g)))]) rfl ?_
 obtain ⟨hlim,hmx,hmax⟩:=QF
 refine sr (kO (B.box (ts:=(Qb false g)) (tv (T.agg (Qb false g)) rfl) nofun rfl) (kO (B.alloc (t:=(T.agg [(tN 0),(tN 0),(tS ByteArray.empty)])) (ts:= [(tN 0),(tN 0),(tS ByteArray.empty)]) Qia Qj8 nofun (fun _=> .agg _ _ rfl (Y8 (RL.cons (.int _ _) (RL.cons (.int _ _) (RL.cons (.str _) (RL.nil _)))))) rfl) (nt (sq (sr (lO (OL.loadOn (us:=(Qb false g)) (tv (T.op 0 0) rfl) rfl QP QN (lb rfl) rfl) (cO (cS (vc (tv (T.agg (Qb false g)) rfl) vn) (LendL.cons (lg Qq) ln) (Zt (n+0) g (by assumption)) rfl rfl) (fO (QY (tv (tB (decide (gridOk g))) rfl)) (nt ?_)))))))))
 refine cn (gridOk g) rfl (fun fhc0=> ?_) fun fhc0=> ?_
 ·refine sr ?_
  refine fO (OF.build (l:= []) (zs:= [(tN 0),(tN 0),(tS ByteArray.empty)]) (out:= [(tN 0),(tN 0),(tS ByteArray.empty)]) VEvp.nil bn Tryz.underlying33 Qia (fun _=>RL.cons (.int _ _) (RL.cons (.int _ _) (RL.cons (.str _) (RL.nil _)))) (by kernel_rfl) (by kernel_rfl)) (cO (B.storeW (us:= [(tN 0),(tN 0),(tS ByteArray.empty)]) (tv (T.op 1 0) rfl) (tv (T.agg [(tN 0),(tN 0),(tS ByteArray.empty)]) rfl) nofun rfl rfl rfl Qhd QN (bc rfl (bc rfl (bc rfl bn)))) (nt (rt (tr ?_))))
  refine vfin.eq (r':=(T.agg [(tN 0),(tN 0),(tS ByteArray.empty)])) ?_ (vfin.r (VRes.celln (ws:= [(tN 0),(tN 0),(tS ByteArray.empty)]) rfl rfl QP QN (lb rfl) rfl VRes.nil) (Give.agg (GiveL.cons (Give.int _ _) (GiveL.cons (Give.int _ _) (GiveL.cons (Give.str _) GiveL.nil (by decide)) (by decide)) (by decide))))
  (rw [YC,if_neg fhc0];rfl)
 refine sk (tn (sr (lf (tS g.Cells) rfl Qy rfl rfl ZN (cO (cS (vc (tv (tS g.Cells) rfl) vn) (ZQ rfl) (Qcq (n+1) g.Cells (by assumption)) rfl rfl) (fO (OF.fieldAddrO (tv (T.op 0 0) rfl) Qy) (cO (B.storeO (us:= [(tS (back g.Cells))]) (ws:= [(tI g.Rows),(tI g.Cols),(tS (back g.Cells))]) (tv (T.op 0 2) rfl) (tv (tS (back g.Cells)) rfl) nofun rfl rfl (lb rfl) if9 sz9 (bc rfl bn) rfl) (nt (sr (lO (OL.loadOn (us:= [(tI g.Rows),(tI g.Cols),(tS (back g.Cells))]) (tv (T.op 0 0) rfl) rfl QP QN (lb rfl) rfl) (cO (B.storeW (us:= [(tI g.Rows),(tI g.Cols),(tS (back g.Cells))]) (tv (T.op 1 0) rfl) (tv (T.agg [(tI g.Rows),(tI g.Cols),(tS (back g.Cells))]) rfl) nofun rfl rfl rfl Qhd QN (bc rfl (bc rfl (bc rfl bn)))) (nt ?_)))))))))))
 refine rt ?_
 refine vfin.eq (r':=(T.agg [(tI g.Rows),(tI g.Cols),(tS (back g.Cells))])) ?_ (vfin.r (VRes.celln (ws:= [(tI g.Rows),(tI g.Cols),(tS (back g.Cells))]) rfl rfl QP QN (lb rfl) rfl VRes.nil) (Give.agg (GiveL.cons (Give.int _ _) (GiveL.cons (Give.int _ _) (GiveL.cons (Give.str _) GiveL.nil (by decide)) (by decide)) (by decide))))
 (rw [YC,if_pos fhc0];rfl)
theorem Qbo (n:Nat) (g:D.Grid) (hc:g.Cells.size≤maxLen):Pure (Qo Tryz.prog (n+4)) 73 [(T.agg (Qb false g))] (tB (decide (Qc0 g))):=by
 refine Pure.intro (rs:= [ResultVar.tmp 2]) Tryz.func73 rfl rfl rfl (E0:= [(0,(T.agg (Qb false g)))]) rfl ?_
 obtain ⟨hlim,hmx,hmax⟩:=QF
 refine sr (kO (B.box (ts:=(Qb false g)) (tv (T.agg (Qb false g)) rfl) nofun rfl) (fO (OF.assign (VEv.bool false)) (nt (sq (VRun.draw (B:= [[],[0],[0,1],[1,0,2],[2,0,1,3],[1,0,2],[5,3,1,0,2,4],[4,3,5,6,1,0,2],[2,0,1,6,5,3,4,7]]) (by kernel_rfl) (by kernel_rfl) (lD (OL.loadOn (us:=(Qb false g)) (tv (T.op 0 0) rfl) rfl QP QN (lb rfl) rfl) rfl rfl (VRunD.quiet (bi:= [0]) rfl VWant.always rfl rfl rfl bn (cS (vc (tv (T.agg (Qb false g)) rfl) vn) (LendL.cons (lg Qq) ln) (Zt (n+1) g (by assumption)) rfl rfl) (mD (tB (decide (gridOk g))) rfl rfl ?_))))))))
 refine gw (gridOk g) (fun fhg5_1=> ?_) fun fhg5_1=> ?_
 ·refine VRunD.look rfl (VWant.on rfl rfl (dy fhg5_1)) rfl (OL.loadOn (us:=(Qb false g)) (tv (T.op 0 0) rfl) rfl QP QN (lb rfl) rfl) ?_
  refine VRunD.quiet (bi:= [2,0,1,3]) rfl (VWant.on rfl rfl (dy fhg5_1)) rfl rfl rfl bn (cS (vc (tv (T.agg (Qb false g)) rfl) vn) (LendL.cons (lg Qq) ln) (QcY (n+0) g (by assumption)) rfl rfl) (VRunD.look rfl (VWant.on rfl rfl (dy fhg5_1)) rfl (OL.loadOn (us:=(Qb false g)) (tv (T.op 0 0) rfl) rfl QP QN (lb rfl) rfl) (VRunD.free rfl (VWant.on rfl rfl (dy fhg5_1)) rfl (B.eql33 (a:=YC g) (b:=g) (m:=true) (m':=false) (tv (T.agg (Qb true (YC g))) rfl) (tv (T.agg (Qb false g)) rfl)) (fD (OF.pickT (VEv.tmpB rfl (dy fhg5_1)) (tv (tB (decide (YC g=g))) rfl)) rfl rfl (fD (OF.assign (tv (tB (decide (YC g=g))) rfl)) rfl rfl (VRunD.nil (tn (rt (vb (b':=(decide (YC g=g))) rfl ?_))))))))
  (refine Q4 ?_;refine Qcj ?_;assumption)
 refine oD rfl rfl (dz fhg5_1) rfl (oD rfl rfl (dz fhg5_1) rfl (oD rfl rfl (dz fhg5_1) rfl (oD rfl rfl (dz fhg5_1) rfl (fD (OF.pickF (VEv.tmpB rfl (dz fhg5_1)) (VEv.bool false)) rfl rfl (fD (OF.assign (tv (tB false) rfl)) rfl rfl (VRunD.nil (tn (rt (vb (b':=false) rfl ?_)))))))))
 (symm;rw [decide_eq_false_iff_not];intro h;have:=h.1;contradiction)
noncomputable section
theorem Y2 (l:List Int):(Jw l).data.toList=l.map fun n=>UInt8.ofNat n.toNat:=by
 have h:∀(l:List Int) (r:ByteArray),(l.foldl (fun r n=>r.push (UInt8.ofNat n.toNat)) r).data.toList=r.data.toList++l.map fun n=>UInt8.ofNat n.toNat:=by
  intro l
  induction l with
  | nil=>intro r;simp
  | cons n l ih=>intro r;rw [List.foldl_cons,ih];simp [ByteArray.push]
 simpa [Jw] using h l ByteArray.empty
theorem Qcz {a b:ByteArray} (h:a.data.toList=b.data.toList):a=b:=by
 cases a;cases b
 simp only at h
 congr 1
 exact Array.toList_inj.1 h
theorem Qjw (s:ByteArray):(ZB s).map (fun n=>UInt8.ofNat n.toNat)=s.data.toList:=by
 simp [ZB,Function.comp_def]
theorem QcO {s:ByteArray}:∀ {i:Nat},i≤s.size→(Zu s i).data.toList=(s.data.toList.take i).reverse
 | 0,_=>rfl
 | i+1,h=>by
  have hi:i<s.data.toList.length:=by rw [Array.length_toList];exact h
  rw [Zu,ByteArray.data_append,Array.toList_append,QcO (show i≤s.size by omega),List.take_add_one,List.getElem?_eq_getElem hi,List.reverse_append]
  congr 1
  rw [ByteArray.data_extract,Array.toList_extract,List.extract_eq_take_drop]
  simp [List.drop_eq_getElem_cons hi]
theorem QiK {s:ByteArray} (h:s.size≤100):Jw (ZB s).reverse=back s:=by
 unfold back
 rw [if_pos h]
 refine Qcz ?_
 rw [Y2,List.map_reverse,Qjw,QcO (Nat.le_refl _),List.take_of_length_le (by rw [Array.length_toList];exact Nat.le_refl _)]
theorem Qjo {s:ByteArray} (h:100<s.size):back s=⟨#[]⟩:=by
 unfold back
 rw [if_neg (by omega)]
end
theorem Qcd (n:Nat) (s:ByteArray) (hc:s.size≤maxLen):Pure (Qo Tryz.prog (n+2)) 135 [(tS s)] (tS (back s)):=by
 refine Pure.intro (rs:= [ResultVar.tmp 2]) Tryz.func135 rfl rfl rfl (E0:= [(0,(tS s))]) rfl ?_
 obtain ⟨hlim,hmx,hmax⟩:=QF
 refine sr (fO (OF.assign (VEv.str (⟨#[]⟩:ByteArray))) (nt (sq (sr (mO (tS s) rfl (lO (B.lenS (tv (tS s) rfl) U9) (fO (B.gtr (c:=(decide (100<s.size))) (tv (tN s.size) rfl) (VEv.int .i64 100) (by exact Q4 (by omega))) (nt ?_))))))))
 refine cd (100<s.size) rfl (fun fhc0=> ?_) fun fhc0=> ?_
 ·refine sr ?_
  refine fO (OF.assign (VEv.str (⟨#[]⟩:ByteArray))) (nt (rt (tr ?_)))
  refine vfin.eq (r':=(tS (⟨#[]⟩:ByteArray))) ?_ (vfin.r (VRes.tmp (t:=(tS (⟨#[]⟩:ByteArray))) rfl VRes.nil) (Give.str _))
  refine congrArg T.str ?_
  exact (Qjo fhc0).symm
 refine sk (tn (sr (mO (tS s) rfl (kO (B.convSB (tv (tS s) rfl) U9 U92 U5) (aO (T.os 1 0 0 (((ZB s).map (QK true)).length)) rfl (nt (sr (mO (T.os 1 0 0 (((ZB s).map (QK true)).length)) rfl (cO (OC.callMut (rows:=((ZB s).map (QK true))) (rows':=(((ZB s).reverse).map (QK true))) rfl (vc (tv (T.os 1 0 0 (((ZB s).map (QK true)).length)) rfl) vn) rfl rfl bn (Yl (fun _=>rfl) _) (Yl (fun _=>rfl) _) (Ja (n+0) (ZB s) (by (rw [QaK];omega)))) (nt (sr ?_)))))))))))
 refine mO (T.os 1 0 0 (((ZB s).map (QK true)).length)) rfl (lO (B.convBS (l:=(ZB s).reverse) (tv (T.os 1 0 0 (((ZB s).map (QK true)).length)) rfl) rfl (by simp only [List.length_map,List.length_reverse,List.length_set]) U92 U5 U9) (aO (tS (Jw ((ZB s).reverse))) rfl (nt (rt ?_))))
 refine vfin.eq (r':=(tS (Jw ((ZB s).reverse)))) ?_ (vfin.r (VRes.tmp (t:=(tS (Jw ((ZB s).reverse)))) rfl VRes.nil) (Give.str _))
 refine congrArg T.str ?_
 refine QiK ?_;omega
theorem Qc6 (n:Nat) (g:D.Grid) (hc:g.Cells.size≤maxLen):Pure (Qo Tryz.prog (n+3)) 103 [(T.agg (Qb false g))] (T.agg (Qb true (YC g))):=by
 refine Pure.intro (rs:= [ResultVar.cell 2 33]) Tryz.func103 rfl rfl rfl (E0:= [(0,(T.agg (Qb false g)))]) rfl ?_
 obtain ⟨hlim,hmx,hmax⟩:=QF
 refine sr (kO (B.box (ts:=(Qb false g)) (tv (T.agg (Qb false g)) rfl) nofun rfl) (kO (B.alloc (t:=(T.agg [(tN 0),(tN 0),(tS ByteArray.empty)])) (ts:= [(tN 0),(tN 0),(tS ByteArray.empty)]) Qia Qj8 nofun (fun _=> .agg _ _ rfl (Y8 (RL.cons (.int _ _) (RL.cons (.int _ _) (RL.cons (.str _) (RL.nil _)))))) rfl) (nt (sq (sr (lO (OL.loadOn (us:=(Qb false g)) (tv (T.op 0 0) rfl) rfl QP QN (lb rfl) rfl) (cO (cS (vc (tv (T.agg (Qb false g)) rfl) vn) (LendL.cons (lg Qq) ln) (ZD (n+0) g (by assumption)) rfl rfl) (fO (QY (tv (tB (decide (gridOk g))) rfl)) (nt ?_)))))))))
 refine cn (gridOk g) rfl (fun fhc0=> ?_) fun fhc0=> ?_
 ·refine sr ?_
  refine fO (OF.build (l:= []) (zs:= [(tN 0),(tN 0),(tS ByteArray.empty)]) (out:= [(tN 0),(tN 0),(tS ByteArray.empty)]) VEvp.nil bn Tryz.underlying33 Qia (fun _=>RL.cons (.int _ _) (RL.cons (.int _ _) (RL.cons (.str _) (RL.nil _)))) (by kernel_rfl) (by kernel_rfl)) (cO (B.storeW (us:= [(tN 0),(tN 0),(tS ByteArray.empty)]) (tv (T.op 1 0) rfl) (tv (T.agg [(tN 0),(tN 0),(tS ByteArray.empty)]) rfl) nofun rfl rfl rfl Qhd QN (bc rfl (bc rfl (bc rfl bn)))) (nt (rt (tr ?_))))
  refine vfin.eq (r':=(T.agg [(tN 0),(tN 0),(tS ByteArray.empty)])) ?_ (vfin.r (VRes.celln (ws:= [(tN 0),(tN 0),(tS ByteArray.empty)]) rfl rfl QP QN (lb rfl) rfl VRes.nil) (Give.agg (GiveL.cons (Give.int _ _) (GiveL.cons (Give.int _ _) (GiveL.cons (Give.str _) GiveL.nil (by decide)) (by decide)) (by decide))))
  (rw [YC,if_neg fhc0];rfl)
 refine sk (tn (sr (lf (tS g.Cells) rfl Qy rfl rfl ZN (cO (cS (vc (tv (tS g.Cells) rfl) vn) (ZQ rfl) (Qcd (n+0) g.Cells (by assumption)) rfl rfl) (fO (OF.fieldAddrO (tv (T.op 0 0) rfl) Qy) (cO (B.storeO (us:= [(tS (back g.Cells))]) (ws:= [(tI g.Rows),(tI g.Cols),(tS (back g.Cells))]) (tv (T.op 0 2) rfl) (tv (tS (back g.Cells)) rfl) nofun rfl rfl (lb rfl) if9 sz9 (bc rfl bn) rfl) (nt (sr (lO (OL.loadOn (us:= [(tI g.Rows),(tI g.Cols),(tS (back g.Cells))]) (tv (T.op 0 0) rfl) rfl QP QN (lb rfl) rfl) (cO (B.storeW (us:= [(tI g.Rows),(tI g.Cols),(tS (back g.Cells))]) (tv (T.op 1 0) rfl) (tv (T.agg [(tI g.Rows),(tI g.Cols),(tS (back g.Cells))]) rfl) nofun rfl rfl rfl Qhd QN (bc rfl (bc rfl (bc rfl bn)))) (nt ?_)))))))))))
 refine rt ?_
 refine vfin.eq (r':=(T.agg [(tI g.Rows),(tI g.Cols),(tS (back g.Cells))])) ?_ (vfin.r (VRes.celln (ws:= [(tI g.Rows),(tI g.Cols),(tS (back g.Cells))]) rfl rfl QP QN (lb rfl) rfl VRes.nil) (Give.agg (GiveL.cons (Give.int _ _) (GiveL.cons (Give.int _ _) (GiveL.cons (Give.str _) GiveL.nil (by decide)) (by decide)) (by decide))))
 (rw [YC,if_pos fhc0];rfl)
theorem Qbd (n:Nat) (g:D.Grid) (hc:g.Cells.size≤maxLen):Pure (Qo Tryz.prog (n+4)) 78 [(T.agg (Qb false g))] (tB (decide (Qc0 g))):=by
 refine Pure.intro (rs:= [ResultVar.tmp 2]) Tryz.func78 rfl rfl rfl (E0:= [(0,(T.agg (Qb false g)))]) rfl ?_
 obtain ⟨hlim,hmx,hmax⟩:=QF
 refine sr (kO (B.box (ts:=(Qb false g)) (tv (T.agg (Qb false g)) rfl) nofun rfl) (fO (OF.assign (VEv.bool false)) (nt (sq (VRun.draw (B:= [[],[0],[0,1],[1,0,2],[1,0,2],[2,0,1,4],[4,5,2,0,1,3],[3,5,4,6,1,0,2],[2,0,1,6,4,5,3,7]]) (by kernel_rfl) (by kernel_rfl) (lD (OL.loadOn (us:=(Qb false g)) (tv (T.op 0 0) rfl) rfl QP QN (lb rfl) rfl) rfl rfl (VRunD.quiet (bi:= [0]) rfl VWant.always rfl rfl rfl bn (cS (vc (tv (T.agg (Qb false g)) rfl) vn) (LendL.cons (lg Qq) ln) (ZD (n+1) g (by assumption)) rfl rfl) (mD (tB (decide (gridOk g))) rfl rfl ?_))))))))
 refine gw (gridOk g) (fun fhg5_1=> ?_) fun fhg5_1=> ?_
 ·refine VRunD.look rfl (VWant.on rfl rfl (dy fhg5_1)) rfl (OL.loadOn (us:=(Qb false g)) (tv (T.op 0 0) rfl) rfl QP QN (lb rfl) rfl) ?_
  refine VRunD.look rfl (VWant.on rfl rfl (dy fhg5_1)) rfl (OL.loadOn (us:=(Qb false g)) (tv (T.op 0 0) rfl) rfl QP QN (lb rfl) rfl) (VRunD.quiet (bi:= [2,0,1,4]) rfl (VWant.on rfl rfl (dy fhg5_1)) rfl rfl rfl bn (cS (vc (tv (T.agg (Qb false g)) rfl) vn) (LendL.cons (lg Qq) ln) (Qc6 (n+0) g (by assumption)) rfl rfl) (VRunD.free rfl (VWant.on rfl rfl (dy fhg5_1)) rfl (B.eql33 (a:=g) (b:=YC g) (m:=false) (m':=true) (tv (T.agg (Qb false g)) rfl) (tv (T.agg (Qb true (YC g))) rfl)) (fD (OF.pickT (VEv.tmpB rfl (dy fhg5_1)) (tv (tB (decide (g=YC g))) rfl)) rfl rfl (fD (OF.assign (tv (tB (decide (g=YC g))) rfl)) rfl rfl (VRunD.nil (tn (rt (vb (b':=(decide (g=YC g))) rfl ?_))))))))
  (refine Q4 ⟨fun e=> ?_,fun e=> ?_⟩<;>first | exact (Qcj ‹_›).1 e.symm | exact ((Qcj ‹_›).2 e).symm)
 refine oD rfl rfl (dz fhg5_1) rfl (oD rfl rfl (dz fhg5_1) rfl (oD rfl rfl (dz fhg5_1) rfl (oD rfl rfl (dz fhg5_1) rfl (fD (OF.pickF (VEv.tmpB rfl (dz fhg5_1)) (VEv.bool false)) rfl rfl (fD (OF.assign (tv (tB false) rfl)) rfl rfl (VRunD.nil (tn (rt (vb (b':=false) rfl ?_)))))))))
 (symm;rw [decide_eq_false_iff_not];intro h;have:=h.1;contradiction)
end Go.Proofs.YthifchndolccgaaGreatDoor.AE
