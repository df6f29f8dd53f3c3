/- A part of what the row of FnExactNewSession uses. Conditions: as each theorem states. -/
import Derived.Test.YthifchndolccgaaGreatDoorZFnExactNewSessionb
import Derived.Test.YthifchndolccgaaGreatDoorProg
import Derived.KernelRfl
namespace Go.Proofs.YthifchndolccgaaGreatDoor.AE
open Go Go.RowKit
set_option linter.unusedVariables false
set_option linter.unusedSimpArgs false
theorem V.vpInv {σ:Nat→Option Nat} {hf:AH} {nx:Nat} {ts:List T} {v:Value} (h:V σ hf nx (.vp ts) v):∃a o es cs,v= .pointer (some ⟨a,o,none⟩)∧hf a=some (.cells es cs)∧o+ts.length≤cs.length∧∀i,i<ts.length→V σ hf nx (ts.getD i .any) (cs.getD (o+i) undef):=by
 cases h with
 | fz hr=>cases hr
 | vp ts o hk hfit h=>exact ⟨_,o,_,_,rfl,hk,hfit,h⟩
section
variable {call : QH} {P : Program} {E : QQ} {O : Qx} {d : Option Tmp} {ty tt : TypeId} {ps : String} {af : Array Edge} {g : Option (Nat × Bool)} {x y z : Operand} {t : T} {nx : Nat}
theorem OL.loadV1 {ts:List T} (hx:VEv E x (.vp ts)) (ht:ts[0]? =some t) (hst:Qv P tt=some false):OL call P E O ⟨d, .load tt x,ty,ps,af,g⟩ t:=fun q p h0 σ hf own nx Ea h hs=>by
 obtain ⟨v,h1,h2⟩:=hx σ hf nx Ea hs.env
 obtain ⟨a,o,es,cs,rfl,h3,h4,h5⟩:=h2.vpInv
 have hlt:0<ts.length:=(List.getElem?_eq_some_iff.1 ht).1
 have h6:=h5 0 hlt
 rw [Nat.add_zero,List.getD_eq_getElem?_getD,ht,List.getD_eq_getElem?_getD,List.getElem?_eq_getElem (show o<cs.length by omega)] at h6
 exact ⟨_,X.load h1 (YX hst (hs.fro _ _ h3).1 (List.getElem?_eq_getElem (show o<cs.length by omega))),h6⟩
end
def Loan (call:QH) (f:FuncId) (sz:Nat) (rows:List (List T)) (ts:List T) (r:T) (rows':List (List T)):Prop:=∀(h:AH) (p:Nat) (hf:AH) (σ:Nat→Option Nat) (N:List Nat) (vs:List Value),Fr p h→(∀b o,hf b=some o→h b=some o∧b∉N)→N.Nodup→ObjR σ hf 1 h (.rows sz rows) (σ 0) N→VL σ hf 1 ts vs →
 CallS call f vs h p (fun v h'=>(∀b,h b≠none→b∉N→h' b=h b)∧V σ hf 1 r v∧ObjR σ hf 1 h' (.rows sz rows') (σ 0) N)
inductive Pin : T→Prop
 | os (sz n:Nat):Pin (.os sz 0 0 n)
 | vp (sz n:Nat):Pin (.vp [.os sz 0 0 n])
inductive LRes : T→Prop
 | none:LRes (.tup [])
 | int (k:IntKind) (n:Int):LRes (.int k n)
 | bool (b:Bool):LRes (.bool b)
 | os (sz n:Nat):LRes (.os sz 0 0 n)
def vloan (P:Program) (rs:List ResultVar) (j:Nat) (pin:T) (sz:Nat) (rows':List (List T)) (r:T):AX→QQ→Qx→Nat→Prop
 | .exit _,_,_,_=>False
 | _,E,O,_=>∃k ts,VRes P E O rs ts∧QbO ts=ren (fun _=>k) r∧gE E j=ren (fun _=>k) pin∧gO O k=some (.rows sz rows')
theorem vloan.r {P:Program} {rs:List ResultVar} {j sz nx:Nat} {pin r:T} {rows rows':List (List T)} {E:QQ} {O:Qx} {ts:List T} (k:Nat) (h:VRes P E O rs ts) (h1:QbO ts=ren (fun _=>k) r) (h2:gE E j=ren (fun _=>k) pin) (h3:gO O k=some (.rows sz rows)) (e:rows=rows'):vloan P rs j pin sz rows' r .ret E O nx:=⟨k,ts,h,h1,h2,e▸h3⟩
theorem vloan.n {P:Program} {rs:List ResultVar} {j sz nx:Nat} {pin r:T} {rows rows':List (List T)} {E:QQ} {O:Qx} {ts:List T} (k:Nat) (h:VRes P E O rs ts) (h1:QbO ts=ren (fun _=>k) r) (h2:gE E j=ren (fun _=>k) pin) (h3:gO O k=some (.rows sz rows)) (e:rows=rows'):vloan P rs j pin sz rows' r .normal E O nx:=⟨k,ts,h,h1,h2,e▸h3⟩
theorem Qiq {σ σ':Nat→Option Nat} {hf hf':AH} {nx nx' sz k n:Nat} {v:Value} (h:V σ hf nx (.os sz 0 0 n) v) (h':V σ' hf' nx' (.os sz k 0 n) v):σ' k=σ 0:=by
 obtain ⟨_,⟨a,m,e1,e2,e3⟩ | ⟨e1,_,e2,e3⟩⟩:=h.osInv
 ·obtain ⟨_,⟨a',m',f1,f2,f3⟩ | ⟨f1,_,f2,f3⟩⟩:=h'.osInv
  ·rw [e1] at f1
   simp only [Value.slice.injEq,Option.some.injEq,Addr.mk.injEq] at f1
   rw [e2,f2,f1.1.1]
  ·subst e1
   rcases f3 with f3 | ⟨b,o,f3⟩
   ·exact absurd f3 (by simp)
   ·simp only [Value.slice.injEq] at f3
    omega
 ·obtain ⟨_,⟨a',m',f1,f2,f3⟩ | ⟨f1,_,f2,f3⟩⟩:=h'.osInv
  ·subst f1
   rcases e3 with e3 | ⟨b,o,e3⟩
   ·exact absurd e3 (by simp)
   ·simp only [Value.slice.injEq] at e3
    omega
  ·rw [e1,f1]
theorem Pin.same {σ σ':Nat→Option Nat} {hf hf':AH} {nx nx' k:Nat} {pin:T} {v:Value} (hp:Pin pin) (hm:∀a o,hf a=some o→hf' a=some o) (h:V σ hf nx pin v) (h':V σ' hf' nx' (ren (fun _=>k) pin) v):σ' k=σ 0:=by
 cases hp with
 | os sz n=>exact Qiq h h'
 | vp sz n =>
  obtain ⟨a,o,es,cs,rfl,e1,e2,e3⟩:=h.vpInv
  obtain ⟨a',o',es',cs',f0,f1,f2,f3⟩:=V.vpInv h'
  simp only [Value.pointer.injEq,Option.some.injEq,Addr.mk.injEq] at f0
  obtain ⟨rfl,rfl,_⟩:=f0
  rw [hm _ _ e1] at f1
  cases f1
  have g1:=e3 0 (by simp)
  have g2:=f3 0 (by simp [JC])
  exact Qiq g1 g2
theorem LRes.back {σ σ':Nat→Option Nat} {hf hf':AH} {nx nx' k:Nat} {r:T} {v:Value} (hr:LRes r) (h0:0<nx) (hσ:σ' k=σ 0) (h:V σ' hf' nx' (ren (fun _=>k) r) v):V σ hf nx r v:=by
 cases hr with
 | none =>
  obtain ⟨l,rfl,h1⟩:=V.tupL h
  obtain rfl:=List.eq_nil_of_length_eq_zero h1.1.symm
  exact .fz (.tup [] #[] rfl (fun i hi=>by simp at hi))
 | int k n=>obtain rfl:=V.intInv h;exact .fz (.int _ _)
 | bool b=>obtain rfl:=V.boolInv h;exact .fz (.bool _)
 | os sz n =>
  obtain ⟨_,⟨a,m,rfl,e2,e3⟩ | ⟨e1,e4,e2,e3⟩⟩:=V.osInv h
  ·exact .os sz 0 0 n m h0 (hσ.symm.trans e2) e3
  ·subst e2
   rcases e3 with rfl | ⟨a,o,rfl⟩
   ·exact .os0 sz 0 h0 (hσ.symm.trans e1)
   ·exact .ose sz 0 a o h0 (hσ.symm.trans e1)
theorem ObjR.one {σ:Nat→Option Nat} {hf h:AH} {nx sz:Nat} {rows:List (List T)} {oa:Option Nat} {N:List Nat} (h1:ObjR σ hf nx h (.rows sz rows) oa N) (hsc:scR rows):(oa=Option.none∧N= []∧rows= [])∨∃a,oa=some a∧N= [a]∧h a≠Option.none:=by
 cases h1 with
 | none sz=>exact .inl ⟨rfl,rfl,rfl⟩
 | rows hk hodd hlen hfit hs =>
  obtain rfl:=hs.sc hsc.flat
  exact .inr ⟨_,rfl,rfl,by rw [hk];simp⟩
theorem ObjR.scM {σ σ':Nat→Option Nat} {hf hf' h h':AH} {nx nx' sz:Nat} {rows:List (List T)} {oa:Option Nat} {N:List Nat} (h1:ObjR σ hf nx h (.rows sz rows) oa N) (hsc:scR rows) (hh:∀a∈N,h' a=h a):ObjR σ' hf' nx' h' (.rows sz rows) oa N:=by
 cases h1 with
 | none sz=>exact .none sz
 | rows hk hodd hlen hfit hs =>
  obtain rfl:=hs.sc hsc.flat
  exact .rows ((hh _ (by simp)).trans hk) hodd hlen hfit (SL.mono (fun _ _ e=>e) (SL.clean hs (fun t ht=>Qbt (hsc.flat t ht))) (by simp))
theorem Loan.intro {P:Program} {f:FuncId} {fn:Func} {c:Code} {n sz j:Nat} {ts:List T} {r pin:T} {rows rows':List (List T)} {rs:List ResultVar} (hf:P.funcs[f]? =some fn) (hb:fn.body=some c) (hc:Zo fn.ntmps c=true) (hrs:fn.results.toList=rs) (hn:noW j c=true) (hj:ts[j]? =some pin) (hpin:Pin pin) (hr0:LRes r) (hsc:scR rows) (hsc':scR rows') {E0:QQ} (hE:QcS 0 ts=E0)
  (hr:VRun (Qr P n) P c E0 [(0,some (.rows sz rows))] 1 (vloan P rs j pin sz rows' r)) (hpr:JT f=true:=by rfl):Loan (Qr P (n+1)) f sz rows ts r rows':=by
 subst hE
 intro h p hfz σ N vs hfp hfN hnd hO hvs
 classical
 let hb0:AH:=fun b=>if b∈N then none else h b
 have hb1:∀b,b∉N→hb0 b=h b:=fun b hb=>if_neg hb
 have hb2:∀b,b∈N→hb0 b=none:=fun b hb=>if_pos hb
 have hb3:∀b o,hb0 b=some o→b∉N∧h b=some o:=fun b o hb=>by
  by_cases hm:b∈N
  ·rw [hb2 b hm] at hb;cases hb
  ·exact ⟨hm,(hb1 b hm).symm.trans hb⟩
 have hsub:∀b o,hfz b=some o→hb0 b=some o:=fun b o hb=>(hb1 b (hfN b o hb).2).trans (hfN b o hb).1
 have hNn:∀a∈N,h a≠none:=fun a ha=>by
  rcases hO.one hsc with ⟨_,rfl,_⟩ | ⟨a',_,rfl,h3⟩
  ·cases ha
  ·obtain rfl:=List.mem_singleton.1 ha
   exact h3
 have hjl:j<ts.length:=(List.getElem?_eq_some_iff.1 hj).1
 have hs0:SR p ⟨hb0,fun b=>b∈N⟩ σ hb0 (fun b=>if b∈N then some 0 else none) (QcS 0 ts) [(0,some (.rows sz rows))] 1 (fun t=>vs.getD t undef) h:=by
  refine ⟨fun t=> ?_,fun k o hk=> ?_,fun a o ha=>⟨(hb3 a o ha).2,if_neg (hb3 a o ha).1⟩,fun a k ha=> ?_,fun _ _=>rfl,fun t ht=> ?_⟩
  ·rw [Qbk,if_neg (by omega),Nat.sub_zero]
   rcases Nat.lt_or_ge t ts.length with h1 | h1
   ·exact (hvs.2 t h1).mono hsub (Nat.le_refl _) (fun _ _=>rfl)
   ·rw [List.getD_eq_getElem?_getD,List.getElem?_eq_none h1]
    exact .any _
  ·simp only [gO] at hk
   split at hk
   ·rename_i e
    subst e
    obtain rfl:=Option.some.inj hk
    exact ⟨by omega,N,hnd,fun a ha=>if_pos ha,hO.mono hsub (Nat.le_refl _) (fun _ _=>rfl) (fun _ _=>rfl)⟩
   ·cases hk
  ·split at ha
   ·rename_i hm
    obtain rfl:=Option.some.inj ha
    exact ⟨.inr hm,hb2 a hm,hNn a hm,by omega⟩
   ·cases ha
  ·by_cases hm:t∈N
   ·exact .inr (.inr hm)
   ·exact .inl (by show hb0 t≠none;rw [hb1 t hm];exact ht)
 unfold VRun at hr
 have hrun:=hr p _ σ _ _ _ h 0 hs0
 have hrun2:Run (Qr P n) P p c ⟨fun t=>vs.getD t undef,h,0⟩ (fun e s=>KK p ⟨hb0,fun b=>b∈N⟩ (vloan P rs j pin sz rows' r e) s.E s.h∧s.E j=vs.getD j undef):=by
  unfold Run at hrun ⊢
  intro hfc
  obtain ⟨e,s',h1,h2,h3⟩:=hrun hfc
  exact ⟨e,s',h1,h2,h3,ZO _ _ _ _ hn h1⟩
 refine CallS.intro (hpr:=hpr) (rs:=rs) hf hb hc hfp hrs (Run.mono hrun2 ?_)
 rintro e s' ⟨⟨σ',hf',own',E,O,nx,h1,h2⟩,h0⟩
 have key:(∃k ts,VRes P E O rs ts∧QbO ts=ren (fun _=>k) r∧gE E j=ren (fun _=>k) pin∧gO O k=some (.rows sz rows'))→∃l,Y3 P s'.h s'.E rs=some l∧(fun v h'=>(∀b,h b≠none→b∉N→h' b=h b)∧V σ hfz 1 r v∧ObjR σ hfz 1 h' (.rows sz rows') (σ 0) N) (Ym l) (if QU (Ym l) then Ya h s'.h else Qaa p h s'.h):=by
  rintro ⟨k,us,g1,g2,g3,g4⟩
  obtain ⟨l,l1,l2⟩:=g1.run h1
  have g5:V σ' hf' nx (QbO us) (Ym l):=by
   have hlen:=l2.1
   match us,l,l2,hlen with
   | [],[],g4,_=>exact g4.toTup
   | [t],[v],g4,_ =>
    obtain ⟨v',r',e,g6,_⟩:=g4.tail
    cases e
    exact g6
   | t::t'::us,v::v'::l,g4,_=>exact g4.toTup
   | [],_::_,_,hl=>cases hl
   | [_],[],_,hl=>cases hl
   | [_],_::_::_,_,hl=>cases hl
   | _::_::_,[],_,hl=>cases hl
   | _::_::_,[_],_,hl=>cases hl
  have hbase:∀a o,hb0 a=some o→hf' a=some o:=fun a o ha=>by
   have e3:hf' a=hb0 a:=h1.base a (by show hb0 a≠none;rw [ha];simp)
   rw [e3,ha]
  have hσ:σ' k=σ 0:=by
   have p1:=hvs.2 j hjl
   rw [List.getD_eq_getElem?_getD,hj] at p1
   have p2:=h1.env j
   rw [g3,h0] at p2
   exact hpin.same (fun a o ha=>hbase a o (hsub a o ha)) p1 p2
  have hold:∀b,h b≠none→(if QU (Ym l) then Ya h s'.h else Qaa p h s'.h) b=s'.h b:=fun b hb=>by
   split
   ·unfold Ya
    cases hh:h b with
    | none=>exact absurd hh hb
    | some o=>rfl
   ·exact QcX (.inl hb)
  refine ⟨l,l1,fun b hb hbN=> ?_,hr0.back (by omega) hσ (by rw [← g2];exact g5),?_⟩
  ·rw [hold b hb]
   obtain ⟨o,ho⟩:=Option.ne_none_iff_exists'.1 hb
   rw [(h1.fro b o (hbase b o ((hb1 b hbN).trans ho))).1,ho]
  ·obtain ⟨M,hM1,hM2,e4⟩:=h1.objAt g4
   rw [hσ] at e4
   have hMN:M=N:=by
    rcases hO.one hsc with ⟨q1,rfl,_⟩ | ⟨a,q1,rfl,_⟩
    ·rcases e4.one hsc' with ⟨_,rfl,_⟩ | ⟨a',q3,_,_⟩
     ·rfl
     ·rw [q1] at q3;cases q3
    ·rcases e4.one hsc' with ⟨q3,_,_⟩ | ⟨a',q3,rfl,_⟩
     ·rw [q1] at q3;cases q3
     ·rw [q1] at q3;rw [Option.some.inj q3]
   subst hMN
   exact e4.scM hsc' (fun a ha=>hold a (hNn a ha))
 cases e with
 | normal=>unfold fin;exact key h2
 | ret=>unfold fin;exact key h2
 | exit id=>exact h2.elim
section
variable {call : QH} {P : Program} {E : QQ} {O : Qx} {d : Option Tmp} {ty : TypeId} {ps : String} {af : Array Edge} {g : Option (Nat × Bool)} {nx : Nat}
theorem LRes.fwd {σ σ':Nat→Option Nat} {hf hf':AH} {nx nx' k:Nat} {r:T} {v:Value} (hr:LRes r) (hk:k<nx') (hσ:σ' k=σ 0) (h:V σ hf nx r v):V σ' hf' nx' (ren (fun _=>k) r) v:=by
 cases hr with
 | none =>
  obtain ⟨l,rfl,h1⟩:=V.tupL h
  obtain rfl:=List.eq_nil_of_length_eq_zero h1.1.symm
  exact .fz (.tup [] #[] rfl (fun i hi=>by simp at hi))
 | int k n=>obtain rfl:=V.intInv h;exact .fz (.int _ _)
 | bool b=>obtain rfl:=V.boolInv h;exact .fz (.bool _)
 | os sz n =>
  obtain ⟨_,⟨a,m,rfl,e2,e3⟩ | ⟨e1,e4,e2,e3⟩⟩:=V.osInv h
  ·exact .os sz k 0 n m hk (hσ.trans e2) e3
  ·subst e2
   rcases e3 with rfl | ⟨a,o,rfl⟩
   ·exact .os0 sz k hk (hσ.trans e1)
   ·exact .ose sz k a o hk (hσ.trans e1)
theorem OC.loanX {f:FuncId} {o:Oper} {ts0 ts:List T} {sz k:Nat} {r:T} {rows rows':List (List T)} (ho:∀(q p:Nat) (h0:LB) (σ:Nat→Option Nat) (hf:AH) (own:Nat→Option Nat) (Ea:Nat→Value) (h:AH),SR p h0 σ hf own E O nx Ea h→∃vs,Jx P q Ea h o=some (.enter f vs)∧VL σ hf nx ts0 vs) (hk:gO O k=some (.rows sz rows)) (hts:JC (fun _=>k) ts=ts0) (htl:ZW 1 ts=true) (hr0:LRes r) (hsc:scR rows) (hsc':scR rows') (hp:Loan call f sz rows ts r rows') :
  OC call P E O nx o (ren (fun _=>k) r) ((k,some (.rows sz rows'))::O) nx [k]:=⟨Nat.le_refl _,fun q p h0 σ hf own Ea h hs hu hF=>by
 subst hts
 obtain ⟨vs,h1,h2⟩:=ho q p h0 σ hf own Ea h hs
 obtain ⟨hkn,N,hN1,hN2,h5⟩:=hs.obj k _ hk
 have hl:VL (fun _=>σ k) hf 1 ts vs:=by
  refine ⟨by have:=h2.1;rw [Za,List.length_map] at this;exact this,fun i hi=> ?_⟩
  have h6:=h2.2 i (by rw [Za,List.length_map];exact hi)
  refine V.ren (σ':=fun _=>σ k) (nx':=1) (fun _ _=>rfl) h6 ?_ ?_
  ·rw [Za]
   simp [List.getD_eq_getElem?_getD,hi]
  ·rw [Yf,List.all_eq_true] at htl
   refine htl _ ?_
   rw [List.getD_eq_getElem?_getD,List.getElem?_eq_getElem hi]
   exact List.getElem_mem hi
 have h6:=hp h q hf (fun _=>σ k) N vs hF (fun b o hb=>⟨(hs.fro b o hb).1,fun hm=>by have:=hN2 b hm;rw [(hs.fro b o hb).2] at this;cases this⟩) hN1 (h5.scM hsc (fun _ _=>rfl)) hl
 unfold CallS at h6
 obtain ⟨v,h',k1,k2,k3,k4,k5⟩:=h6
 refine ⟨v,h',σ,own,by simp only [Qz,h1,k1],k2,fun _ _=>rfl,⟨hs.env,fun k' o hk'=> ?_,fun b o hb=> ?_,fun b k' hb=> ?_,hs.base,fun t ht=> ?_⟩,hr0.fwd hkn rfl k4,fun b hb hnk=>k3 b hb (fun hm=>hnk k (by simp) (hN2 b hm)),fun b k' e=> .inl e⟩
 ·simp only [gO] at hk'
  split at hk'
  ·rename_i e
   subst e
   obtain rfl:=Option.some.inj hk'
   exact ⟨hkn,N,hN1,hN2,k5.scM hsc' (fun _ _=>rfl)⟩
  ·rename_i hne
   obtain ⟨m1,N2,m2,m3,m4⟩:=hs.obj k' o hk'
   refine ⟨m1,N2,m2,m3,m4.mono (fun _ _ e=>e) (Nat.le_refl _) (fun _ _=>rfl) (fun b hb=>k3 b (hs.mine b k' (m3 b hb)).2.2.1 (fun hm=> ?_))⟩
   have:=hN2 b hm
   rw [m3 b hb] at this
   exact hne (Option.some.inj this)
 ·obtain ⟨m1,m2⟩:=hs.fro b o hb
  refine ⟨?_,m2⟩
  rw [k3 b (by rw [m1];simp) (fun hm=>by have:=hN2 b hm;rw [m2] at this;cases this)]
  exact m1
 ·obtain ⟨m1,m2,m3,m4⟩:=hs.mine b k' hb
  refine ⟨m1,m2,?_,m4⟩
  by_cases hm:b∈N
  ·rcases k5.one hsc' with ⟨_,rfl,_⟩ | ⟨a,_,rfl,h3⟩
   ·cases hm
   ·obtain rfl:=List.mem_singleton.1 hm
    exact h3
  ·rw [k3 b m3 hm]
   exact m3
 ·rcases k2 t ht with e | e
  ·exact hs.dom t e
  ·exact .inr (hu t e)⟩
theorem OC.callLoan {f:FuncId} {args:Array Operand} {tys:Array TypeId} {ts0 ts:List T} {sz k:Nat} {r r':T} {rows rows':List (List T)} (hb:ZT P f=true) (ha:VEvs E args.toList ts0) (hk:gO O k=some (.rows sz rows)) (hts:JC (fun _=>k) ts=ts0) (htl:ZW 1 ts=true) (hr0:LRes r) (hrr:ren (fun _=>k) r=r') (hsc:scR rows) (hsc':scR rows') (hp:Loan call f sz rows ts r rows') :
  OC call P E O nx ⟨d, .call ⟨.value (.func f),args,tys⟩,ty,ps,af,g⟩ r' ((k,some (.rows sz rows'))::O) nx [k]:=hrr▸OC.loanX (fun q p h0 σ hf own Ea h hs=>by
 obtain ⟨vs,h1,h2⟩:=ha σ hf nx Ea hs.env
 exact ⟨vs,X.calls hb h1,h2⟩) hk hts htl hr0 hsc hsc' hp
theorem VL.app {σ:Nat→Option Nat} {hf:AH} {nx:Nat}:∀ {ts us:List T} {vs ws:List Value},VL σ hf nx ts vs→VL σ hf nx us ws→VL σ hf nx (ts++us) (vs++ws)
 | [],us,vs,ws,h,h2=>by
  obtain rfl:=List.eq_nil_of_length_eq_zero h.1.symm
  exact h2
 | t::ts,us,vs,ws,h,h2=>by
  obtain ⟨v,l,rfl,h3,h4⟩:=h.tail
  exact .cons h3 (VL.app h4 h2)
theorem OC.callvLoan {f:FuncId} {a:Tmp} {args:Array Operand} {tys:Array TypeId} {ts0 ts caps:List T} {sz k:Nat} {r r':T} {rows rows':List (List T)} (hf:gE E a= .fn f caps) (hb:ZT P f=true) (ha:VEvs E args.toList ts0) (hk:gO O k=some (.rows sz rows)) (hts:JC (fun _=>k) ts=ts0++caps) (htl:ZW 1 ts=true) (hr0:LRes r) (hrr:ren (fun _=>k) r=r') (hsc:scR rows) (hsc':scR rows') (hp:Loan call f sz rows ts r rows') :
  OC call P E O nx ⟨d, .call ⟨.value (.tmp a),args,tys⟩,ty,ps,af,g⟩ r' ((k,some (.rows sz rows'))::O) nx [k]:=hrr▸OC.loanX (fun q p h0 σ hf' own Ea h hs=>by
 obtain ⟨vs,h1,h2⟩:=ha σ hf' nx Ea hs.env
 have h3:=hs.env a
 rw [hf] at h3
 obtain ⟨cs,h4,h5⟩:=h3.fnL
 exact ⟨vs++cs,by have:=X.callv (P:=P) (p:=q) (h:=h) (d:=d) (ty:=ty) (ps:=ps) (af:=af) (g:=g) (ts:=tys) h4 hb h1;simpa using this,h2.app h5⟩) hk hts htl hr0 hsc hsc' hp
end
def vtT (f:FuncId) (a b:T):Nat→T
 | 0=> .any
 | d+1=> .vp [.fn f [a,b,vtT f a b d]]
theorem QaG (g:Nat→Nat) (f:FuncId) (a b:T):∀d,ren g (vtT f a b d)=vtT f (ren g a) (ren g b) d
 | 0=>rfl
 | d+1=>by simp only [vtT,ren,JC,QaG g f a b d]
theorem Qck {n:Nat} {f:FuncId} {a b:T} (ha:Yp n a=true) (hb:Yp n b=true):∀d,Yp n (vtT f a b d)=true
 | 0=>rfl
 | d+1=>by simp only [vtT,Yp,ZW,ha,hb,Qck ha hb d,Bool.and_true]
theorem tl {n:Nat} {t:T} {ts:List T} (h:Yp n t=true) (hr:ZW n ts=true):ZW n (t::ts)=true:=by simp only [ZW,h,hr,Bool.and_true]
theorem SR.hold {p nx k:Nat} {h0:LB} {hf h:AH} {σ own:Nat→Option Nat} {E:QQ} {O:Qx} {Ea:Nat→Value} {us:List T} (hs:SR p h0 σ hf own E O nx Ea h) (hk:gO O k=some (.cells us)):∃hf' own' a es cs,SR p h0 σ hf' own' E ((k,none)::O) nx Ea h∧(∀a o,hf a=some o→hf' a=some o)∧σ k=some a∧hf' a=some (.cells es cs)∧VL σ hf nx us cs:=by
 classical
 obtain ⟨hkn,N,hN1,hN2,h3⟩:=hs.obj k _ hk
 cases hσ:σ k with
 | none=>rw [hσ] at h3;cases h3
 | some a =>
 rw [hσ] at h3
 cases h3 with
 | cells hh hodd hv =>
  rename_i es cs
  have howna:=hN2 a (by simp)
  have hmono:∀b o,hf b=some o→(fun b=>if own b=some k then h b else hf b) b=some o:=fun b o ho=>by
   have:=(hs.fro b o ho).2
   simp only [this]
   rw [if_neg (by simp)]
   exact ho
  refine ⟨fun b=>if own b=some k then h b else hf b,fun b=>if own b=some k then none else own b,a,es,cs,⟨fun t=>(hs.env t).mono hmono (Nat.le_refl _) (fun _ _=>rfl),fun k' o hk'=> ?_,fun b o ha=> ?_,fun b k' ha=> ?_,fun b ha=> ?_,hs.dom⟩,hmono,rfl,by simp only [howna,if_true];exact hh,hv⟩
  ·simp only [gO] at hk'
   split at hk'
   ·cases hk'
   ·rename_i hne
    obtain ⟨h1,M,h2,h4,h5⟩:=hs.obj k' o hk'
    refine ⟨h1,M,h2,fun b hb=> ?_,h5.mono hmono (Nat.le_refl _) (fun _ _=>rfl) (fun _ _=>rfl)⟩
    have:=h4 b hb
    simp only [this]
    rw [if_neg (fun e=>hne (Option.some.inj e))]
  ·split at ha
   ·rename_i e
    exact ⟨ha,by simp only [e,if_true]⟩
   ·rename_i e
    obtain ⟨h1,h2⟩:=hs.fro b o ha
    exact ⟨h1,by simp [h2]⟩
  ·split at ha
   ·cases ha
   ·exact hs.mine b k' ha
  ·have:own b≠some k:=fun e=>ha (hs.mine b k e).2.1
   simp only [if_neg this]
   exact hs.base b ha
theorem SR.told {p nx:Nat} {h0:LB} {hf h:AH} {σ own:Nat→Option Nat} {E E':QQ} {O:Qx} {Ea:Nat→Value} (hs:SR p h0 σ hf own E O nx Ea h) (he:∀t,V σ hf nx (gE E' t) (Ea t)):SR p h0 σ hf own E' O nx Ea h:=⟨he,hs.obj,hs.fro,hs.mine,hs.base,hs.dom⟩
theorem V.opAt {σ:Nat→Option Nat} {hf:AH} {nx k o a:Nat} {v:Value} (h:V σ hf nx (.op k o) v) (hσ:σ k=some a):v= .pointer (some ⟨a,o,none⟩):=by
 obtain ⟨a',e1,e2,_⟩:=h.opInv
 rw [hσ] at e2
 rw [e1,Option.some.inj e2]
theorem Wk.recv {E:QQ} {O:Qx} {nx d1 d2 d3 k1 k2 k3 sz k n:Nat} {us:List T} {f:FuncId} (dep:Nat) (e1:gE E d1= .op k1 0) (e2:gE E d2= .op k2 0) (e3:gE E d3= .op k3 0) (o1:gO O k1=some (.cells us)) (o2:gO O k2=some (.cells [.os sz k 0 n])) (o3:gO O k3=some (.cells [.fn f [.op k1 0, .op k2 0, .op k3 0]])) (h12:¬k2=k1) (h13:¬k3=k1) (h23:¬k3=k2) (hpl:∀t∈us,Jf t=true) :
  Wk E O nx ((d1, .rp us)::(d2, .vp [.os sz k 0 n])::(d3,vtT f (.rp us) (.vp [.os sz k 0 n]) dep)::E) ((k3,none)::(k2,none)::(k1,none)::O) nx:=fun p h0 σ hf own Ea h hs=>by
 obtain ⟨hf1,own1,a1,es1,cs1,s1,m1,g1,f1,v1⟩:=hs.hold o1
 obtain ⟨hf2,own2,a2,es2,cs2,s2,m2,g2,f2,v2⟩:=s1.hold (k:=k2) (us:= [.os sz k 0 n]) (by simp only [gO,if_neg h12];exact o2)
 obtain ⟨hf3,own3,a3,es3,cs3,s3,m3,g3,f3,v3⟩:=s2.hold (k:=k3) (us:= [.fn f [.op k1 0, .op k2 0, .op k3 0]]) (by simp only [gO,if_neg h13,if_neg h23];exact o3)
 have c1:V σ hf3 nx (.rp us) (.pointer (some ⟨a1,0,none⟩)):=by
  have r1:=(v1.mono (hf':=hf3) (σ':=σ) (nx':=nx) (fun a o e=>m3 _ _ (m2 _ _ (m1 _ _ e))) (Nat.le_refl _) (fun _ _=>rfl)).pl hpl
  exact .fz (.rp us 0 (m3 _ _ (m2 _ _ f1)) (by have:=r1.1;omega) (fun i hi=>by rw [Nat.zero_add];exact r1.2 i hi))
 have c2:V σ hf3 nx (.vp [.os sz k 0 n]) (.pointer (some ⟨a2,0,none⟩)):=by
  have r1:=v2.mono (hf':=hf3) (σ':=σ) (nx':=nx) (fun a o e=>m3 _ _ (m2 _ _ e)) (Nat.le_refl _) (fun _ _=>rfl)
  exact .vp _ 0 (m3 _ _ f2) (by have:=r1.1;omega) (fun i hi=>by rw [Nat.zero_add];exact r1.2 i hi)
 obtain ⟨w,l,hw,w1,w2⟩:=v3.tail
 obtain rfl:=List.eq_nil_of_length_eq_zero w2.1.symm
 subst hw
 obtain ⟨ws,rfl,w3⟩:=w1.fnL
 obtain ⟨x1,l1,rfl,y1,w3⟩:=w3.tail
 obtain ⟨x2,l2,rfl,y2,w3⟩:=w3.tail
 obtain ⟨x3,l3,rfl,y3,w3⟩:=w3.tail
 obtain rfl:=List.eq_nil_of_length_eq_zero w3.1.symm
 obtain rfl:=y1.opAt g1
 obtain rfl:=y2.opAt g2
 obtain rfl:=y3.opAt g3
 have c3:∀dep,V σ hf3 nx (vtT f (.rp us) (.vp [.os sz k 0 n]) dep) (.pointer (some ⟨a3,0,none⟩)):=by
  intro dep
  induction dep with
  | zero=>exact .any _
  | succ dep ih=>exact .vp _ 0 f3 (by simp) (fun i hi=>by
    obtain rfl:i=0:=by simpa using hi
    exact (VL.cons c1 (VL.cons c2 (VL.cons ih (VL.nil _ _ _)))).toFn f)
 refine ⟨σ,hf3,own3,s3.told fun t=> ?_⟩
 simp only [gE]
 split
 ·rename_i e;subst e
  have:=hs.env t
  rw [e1] at this
  rw [this.opAt g1];exact c1
 ·split
  ·rename_i e;subst e
   have:=hs.env t
   rw [e2] at this
   rw [this.opAt g2];exact c2
  ·split
   ·rename_i e;subst e
    have:=hs.env t
    rw [e3] at this
    rw [this.opAt g3];exact c3 dep
   ·exact s3.env t
section
variable {call : QH} {P : Program} {π c i : Nat} {ops : Array Oper}
theorem QcB : ∀(l1 l2:List Oper) (i:Nat) (s:St),Qay call P π ops (l1++l2) i s=(Qay call P π ops l1 i s).bind (Qay call P π ops l2 (i+l1.length))
 | [],l2,i,s=>by simp [Qay]
 | o::r,l2,i,s=>by
  rw [List.cons_append,Qay,Qay]
  cases hx:Qdz call P π ops i o s with
  | none=>rfl
  | some s1 =>
   rw [Option.bind_some,Option.bind_some,QcB r l2,List.length_cons,show i+1+r.length=i+(r.length+1) by omega]
theorem RunO.app {l1 l2:List Oper} {E:Nat→Value} {h:AH} {K:(Nat→Value)→AH→Prop} (h1:RunO call P π ops c l1 i E h (fun E' h'=>RunO call P π ops c l2 (i+l1.length) E' h' K)):RunO call P π ops c (l1++l2) i E h K:=by
 unfold RunO at h1 ⊢
 intro hf
 obtain ⟨s1,e1,e2,e3,e4⟩:=h1 hf
 obtain ⟨s2,f1,f2,f3,f4⟩:=e4 e3
 refine ⟨s2,?_,f2,?_,f4⟩
 ·rw [QcB,e1,Option.bind_some,← f1]
  obtain ⟨E1,h1',c1⟩:=s1
  simp only at e2
  subst e2
  rfl
 ·rw [List.length_append,← Nat.add_assoc i]
  exact f3
end
def Qkd (ds:List Nat) (E:QQ):QQ:=(ds.map fun e=>(e,T.any))++E
inductive JE (E:QQ) (ds:List Nat):QQ→Prop
 | nil:JE E ds E
 | cons {E1:QQ} {e:Nat} {t:T} (he:ds.contains e=true) (h:JE E ds E1):JE E ds ((e,t)::E1)
theorem jn {E:QQ} {ds:List Nat}:JE E ds E:= .nil
theorem js {E E1:QQ} {ds:List Nat} {e:Nat} {t:T} (he:ds.contains e=true) (h:JE E ds E1):JE E ds ((e,t)::E1):= .cons he h
theorem QgV (E:QQ) (t:Nat):∀ds:List Nat,gE (Qkd ds E) t=if ds.contains t then .any else gE E t
 | []=>rfl
 | e::r=>by
  have ih:=QgV E t r
  unfold Qkd at ih ⊢
  simp only [List.map_cons,List.cons_append,gE,ih,List.contains_cons]
  by_cases h:t=e
  ·simp [h]
  ·have:(t == e)=false:=by simp [h]
   simp [h]
theorem JE.off {E E1:QQ} {ds:List Nat} (h:JE E ds E1) {t:Nat} (ht:ds.contains t=false):gE E1 t=gE E t:=by
 induction h with
 | nil=>rfl
 | cons he _ ih =>
  rename_i e _ _
  have:¬t=e:=fun x=>by rw [x,he] at ht;cases ht
  simp only [gE,if_neg this,ih]
def JQ (E:QQ) (O:Qx) (nx:Nat) (ds:List Nat) (d:Nat) (b:T) (E1:QQ) (O1:Qx) (nx1:Nat):Prop:=O1=O∧nx1=nx∧∃E2,E1=(d,b)::E2∧JE E ds E2
theorem jq {E E2:QQ} {O:Qx} {nx d:Nat} {ds:List Nat} {b v:T} (hv:v=b) (h:JE E ds E2):JQ E O nx ds d b ((d,v)::E2) O nx:=⟨rfl,rfl,E2,by rw [hv],h⟩
theorem VRunO.joinB {call:QH} {P:Program} {ops:Array Oper} {l:List Oper} {E:QQ} {O:Qx} {nx:Nat} {K:QQ→Qx→Nat→Prop} (m:Nat) (ds:List Nat) (d:Nat) (b:T) (h1:VRunO call P ops (l.take m) E O nx (JQ E O nx ds d b)) (h2:VRunO call P ops (l.drop m) ((d,b)::Qkd ds E) O nx K):VRunO call P ops l E O nx K:=by
 unfold VRunO at h1 h2 ⊢
 intro p h0 σ hf own Ea h c i hs
 rw [← List.take_append_drop m l]
 refine RunO.app ?_
 have h3:=h1 p h0 σ hf own Ea h c i hs
 unfold RunO at h3 ⊢
 intro hfc
 obtain ⟨s',e1,e2,e3,σ',hf',own',E1,O1,nx1,e4,rfl,rfl,E2,rfl,e5⟩:=h3 hfc
 have h4:=h2 p h0 σ' hf' own' s'.E s'.h c (i+(l.take m).length) (e4.told fun t=> ?_)
 ·unfold RunO at h4
  exact ⟨s',e1,e2,e3,h4⟩
 have h6:=e4.env t
 simp only [gE] at h6 ⊢
 split
 ·rename_i e
  simpa only [e,if_true] using h6
 ·rename_i e
  rw [if_neg e] at h6
  rw [QgV]
  split
  ·exact .any _
  ·rename_i hc
   rwa [e5.off (by simpa using hc)] at h6
section
variable {c v : Bool} {C Q : Prop} [Decidable C] [Decidable Q]
theorem jOT (hc:c=decide C) (h:c=true):true=decide (C∨Q):=by
 have:C:=of_decide_eq_true (hc▸h)
 simp [this]
theorem jOF (hc:c=decide C) (h:c=false) (hv:v=decide Q):v=decide (C∨Q):=by
 have:¬C:=of_decide_eq_false (hc▸h)
 simp [hv,this]
theorem dN : (!decide C)=decide (¬C):=by by_cases h:C<;>simp [h]
theorem dT (x:Bool):x=decide (x=true):=by cases x<;>rfl
end
section
variable {C Q R : Prop} {v : Bool}
theorem dy [Decidable C] (h:C):decide C=true:=decide_eq_true h
theorem dz [Decidable C] (h:¬C):decide C=false:=decide_eq_false h
theorem ny [Decidable C] (h:¬C):(!decide C)=true:=by simp [h]
theorem nz [Decidable C] (h:C):(!decide C)=false:=by simp [h]
theorem kAT [Decidable C] [Decidable Q] (h:C) (hv:v=decide Q):v=decide (C∧Q):=by simp [hv,h]
theorem kAF [Decidable C] [Decidable Q] (h:¬C):false=decide (C∧Q):=by simp [h]
theorem kOT [Decidable C] [Decidable Q] (h:C):true=decide (C∨Q):=by simp [h]
theorem kOF [Decidable C] [Decidable Q] (h:¬C) (hv:v=decide Q):v=decide (C∨Q):=by simp [hv,h]
theorem gw (C:Prop) (ht:C→R) (hf:¬C→R):R:=(Classical.em C).elim ht hf
theorem gn (C:Prop) (ht:¬C→R) (hf:C→R):R:=(Classical.em C).elim hf ht
theorem cd {call:QH} {P:Program} {E:QQ} {O:Qx} {nx:Nat} {S:AX→QQ→Qx→Nat→Prop} {x y:Code} {a:Tmp} (C:Prop) [Decidable C] (h:gE E a= .bool (decide C)) (ht:C→VRun call P x E O nx S) (hf:¬C→VRun call P y E O nx S):VRun call P (.cond (.tmp a) x y) E O nx S:=VRun.cond (VEv.tmp h) (fun e=>ht (of_decide_eq_true e)) (fun e=>hf (of_decide_eq_false e))
theorem cn {call:QH} {P:Program} {E:QQ} {O:Qx} {nx:Nat} {S:AX→QQ→Qx→Nat→Prop} {x y:Code} {a:Tmp} (C:Prop) [Decidable C] (h:gE E a= .bool (!decide C)) (ht:¬C→VRun call P x E O nx S) (hf:C→VRun call P y E O nx S):VRun call P (.cond (.tmp a) x y) E O nx S:=VRun.cond (VEv.tmp h) (fun e=>ht (by simpa using e)) (fun e=>hf (by simpa using e))
end
theorem lb {a b:Nat} (h:Nat.ble a b=true):a≤b:=Nat.le_of_ble_eq_true h
theorem bn {α:Type} {p:α→Prop}:∀x∈([]:List α),p x:=Zl
theorem bc {α:Type} {p:α→Prop} {a:α} {l:List α} (h:p a) (hr:∀x∈l,p x):∀x∈a::l,p x:=Qq h hr
theorem b2 {α:Type} {p:α→Prop} {a:α} {l:List α} (hr:∀x∈l,p x) (h:p a:=by exact ⟨rfl,rfl⟩):∀x∈a::l,p x:=Qq h hr
theorem b3 {α:Type} {p:α→Prop} {a:α} {l:List α} (hr:∀x∈l,p x) (h:p a:=by exact ⟨rfl,lb rfl,rfl⟩):∀x∈a::l,p x:=Qq h hr
theorem QJ : Yd=1099511627776∧mx=1048576∧maxLen=9223372036854775807:=⟨rfl,rfl,rfl⟩
theorem Jj {α:Type} {l:List α} {i:Nat} (z:α) (h:i<l.length):l[i]? =some (l[i]?.getD z):=by rw [List.getElem?_eq_getElem h,Option.getD_some]
end Go.Proofs.YthifchndolccgaaGreatDoor.AE
namespace Go.Proofs.YthifchndolccgaaGreatDoor.AE
open Go Go.RowKit
set_option linter.unusedVariables false
set_option linter.unusedSimpArgs false
theorem SL.cut {hf h:AH}:∀ {ts:List T} {vs:List Value} {N:List Nat} (j:Nat) (hj:j<ts.length),SL hf h ts vs N→∃A B C,N=A++(B++C)∧S hf h (ts.getD j .any) (vs.getD j undef) B∧∀(h':AH) (t':T) (v':Value),(∀a∈A,h' a=h a)→(∀a∈C,h' a=h a)→S hf h' t' v' B→SL hf h' (ts.set j t') (vs.set j v') N
 | _,_,_,j,hj, .nil=>by simp at hj
 | _,_,_,0,hj, .cons (N:=N) (M:=M) hs hr=>⟨[],N,M,rfl,by simpa using hs,fun h' t' v' _ hC hS=> .cons hS (SL.mono (fun _ _ e=>e) hr hC)⟩
 | _,_,_,j+1,hj, .cons (N:=N) (M:=M) hs hr=>by
  obtain ⟨A,B,C,e,h1,h2⟩:=SL.cut j (by simpa using hj) hr
  refine ⟨N++A,B,C,by rw [e,List.append_assoc],by simpa using h1,fun h' t' v' hA hC hS=> ?_⟩
  exact .cons (S.mono (fun _ _ e=>e) hs (fun a ha=>hA a (by simp [ha]))) (h2 h' t' v' (fun a ha=>hA a (by simp [ha])) hC hS)
theorem Qhg {cs:List T} {o:Nat} {t:T} (h:o<cs.length):spl cs o [t]=cs.set o t:=by
 rw [spl,List.set_eq_take_append_cons_drop,if_pos h]
 simp
theorem Qgr {cs:List Value} {o:Nat} {t:Value} (h:o<cs.length):AE.splice cs o [t]=cs.set o t:=by
 rw [AE.splice,List.set_eq_take_append_cons_drop,if_pos h]
 simp
theorem Qkh {u:T} (hu:sc u=true) {σ:Nat→Option Nat} {hf:AH} {nx:Nat} {v:Value} (hv:V σ hf nx u v):v.cells.toList= [v]∧v.oneCell'=true∧∀hf h,S hf h u v []:=by
 cases u<;>first | (simp [sc] at hu;done) | skip
 ·obtain rfl:=hv.boolInv;exact ⟨rfl,rfl,fun _ _=> .fz (.bool _)⟩
 ·obtain rfl:=hv.intInv;exact ⟨rfl,rfl,fun _ _=> .fz (.int _ _)⟩
 ·obtain rfl:=hv.strInv;exact ⟨rfl,rfl,fun _ _=> .fz (.str _)⟩
theorem S.scN {hf h:AH} {t:T} {v:Value} {N:List Nat} (hs:S hf h t v N) (ht:AE.sc t=true):N= []:=by
 cases hs with
 | fz hr=>rfl
 | _=>simp [AE.sc] at ht
section
variable {call : QH} {P : Program} {E : QQ} {O : Qx} {d : Option Tmp} {ty tt : TypeId} {ps : String} {af : Array Edge} {g : Option (Nat × Bool)} {x y : Operand} {nx sz k i o : Nat} {rows rows' : List (List T)} {row : List T} {asg : List Nat}
theorem QgR {σ:Nat→Option Nat} {hf h:AH} {a:Nat} {cs:List Value} {N:List Nat} {t0:T} (hh:h a=some (.cells sz cs)) (hlen:∀r∈rows,r.length=sz) (hfit:rows.length*sz≤cs.length) (hsl:SL hf h rows.flatten (cs.take (rows.length*sz)) N) (hi:rows[i]? =some row) (ho:row[o]? =some t0) :
  i*sz+o<rows.length*sz∧∃v A B C,cs[i*sz+o]? =some v∧N=A++(B++C)∧S hf h t0 v B∧∀(h':AH) (t':T) (v':Value),(∀b∈A,h' b=h b)→(∀b∈C,h' b=h b)→S hf h' t' v' B→SL hf h' (rows.set i (row.set o t')).flatten ((cs.set (i*sz+o) v').take (rows.length*sz)) N:=by
 have hlt:i<rows.length:=(List.getElem?_eq_some_iff.1 hi).1
 have hrow:row.length=sz:=hlen row (List.mem_of_getElem? hi)
 have hol:=(List.getElem?_eq_some_iff.1 ho).1
 have ho':o<sz:=by rw [← hrow];exact hol
 have hf1:=Qaz (sz:=sz) hlt
 have hfl:=ZC hlen
 obtain ⟨A,B,C,e,h1,h2⟩:=hsl.cut (i*sz+o) (by omega)
 rw [Yo hlen hi ho',List.getD_eq_getElem?_getD,ho,Option.getD_some,List.getD_eq_getElem?_getD,List.getElem?_take,if_pos (by omega),List.getElem?_eq_getElem (by omega),Option.getD_some] at h1
 refine ⟨by omega,_,A,B,C,List.getElem?_eq_getElem (by omega),e,h1,fun h' t' v' hA hC hS=> ?_⟩
 have h3:=h2 h' t' v' hA hC hS
 rw [← Qhg (by omega),← Qah hlen hi (by simp only [List.length_cons,List.length_nil];omega),Qhg hol] at h3
 rw [List.take_set]
 exact h3
theorem B.storeN {t0 u:T} (hx:VEv E x (.orp sz k i o)) (hy:VEv E y u) (hu:sc u=true) (hk:gO O k=some (.rowsN sz rows asg)) (hi:rows[i]? =some row) (ho:row[o]? =some t0) (ht0:sc t0=true) (hif:(P.info? tt).isSome=true) (hn:P.cellsOf tt=1) (hr:rows.set i (row.set o u)=rows') :
  OC call P E O nx ⟨d, .store tt x y,ty,ps,af,g⟩ .any ((k,some (.rowsN sz rows' asg))::O) nx [k]:=⟨Nat.le_refl _,fun q p h0 σ hf own Ea h hs hq hF=>by
 subst hr
 obtain ⟨v,h1,h2⟩:=hx σ hf nx Ea hs.env
 obtain ⟨v',h3,h4⟩:=hy σ hf nx Ea hs.env
 obtain ⟨c1,c2,c3⟩:=Qkh hu h4
 obtain ⟨a,rfl,h5,h6⟩:=h2.orpInv
 obtain ⟨N,hN1,hN2,h7⟩:=hs.objAt hk
 rw [h5] at h7
 cases h7 with
 | rowsN hh hodd hlen hfit hsl =>
  rename_i cs
  obtain ⟨hlt,w,A,B,C,e1,e2,e3,e4⟩:=QgR (σ:=σ) hh hlen hfit hsl hi ho
  obtain rfl:=e3.scN ht0
  have hst:=QaD (P:=P) (t:=tt) (v:=v') (o:=i*sz+o) hodd hh hif hn c1 rfl (by simp only [List.length_cons,List.length_nil];omega) (by simpa using c2)
  rw [Qgr (by omega)] at hst
  have hown:own a=some k:=hN2 a (by simp)
  have haN:∀b,b∈asg→b≠a:=fun b hb e=>(List.nodup_cons.1 hN1).1 (e▸hb)
  have hupd:∀z:ZV,∀b∈asg,(h.upd a (some z)) b=h b:=fun z b hb=>AH.upd_ne _ (haN b hb) _
  have hobj:ObjR σ hf nx (h.upd a (some (.cells sz (cs.set (i*sz+o) v')))) (.rowsN sz (rows.set i (row.set o u)) asg) (some a) (a::asg):=by
   refine .rowsN (AH.upd_same _ _ _) hodd (fun r hr=> ?_) (by rw [List.length_set,List.length_set];exact hfit) ?_
   ·rcases List.mem_or_eq_of_mem_set hr with hm | rfl
    ·exact hlen r hm
    ·rw [List.length_set];exact hlen row (List.mem_of_getElem? hi)
   ·rw [List.length_set]
    exact e4 _ _ _ (fun b hb=>hupd _ b (by rw [e2];simp [hb])) (fun b hb=>hupd _ b (by rw [e2];simp [hb])) (c3 _ _)
  refine ⟨undef,_,σ,own,X.store h1 h3 hst,Dom.old (by rw [hh];simp) _,fun _ _=>rfl,hs.upd h5 h6 hown hN1 hN2 hobj, .any _,fun b hb hnk=>AH.upd_ne _ (fun e=> ?_) _,fun b k' e=> .inl e⟩
  exact hnk k (by simp) (e▸hown)⟩
theorem VRunO.nest {ops:Array Oper} {l:List Oper} {K:QQ→Qx→Nat→Prop} {d1 d2 d3:Nat} {ty1 ty2 ty3:TypeId} {ps1 ps2 ps3:String} {af1 af2 af3:Array Edge} {f:FuncId} {tys:Array TypeId} {sz2:Nat} {rs rs':List (List T)} {n r:Int} (h12:(d1 == d2)=false) (hx:VEv E x (.orp sz k i o)) (hk:gO O k=some (.rowsN sz rows asg)) (hi:rows[i]? =some row) (ho:row[o]? =some (.sl true sz2 rs)) (hst:Qv P tt=some false) (hy:VEv ((d1, .any)::E) y (.int .i64 n)) (hb:ZT P f=true) (hm:Mut call f sz2 rs [.int .i64 n] (some r) rs') (hc:∀r∈rs,∀t∈r,Clean t) (hr:rows.set i (row.set o (.sl true sz2 rs'))=rows')
  (hK:VRunO call P ops l ((d3, .int .i64 r)::(d2, .int .i64 n)::(d1, .any)::E) ((k,some (.rowsN sz rows' asg))::O) nx K) :
  VRunO call P ops (⟨some d1, .load tt x,ty1,ps1,af1,none⟩::⟨some d2, .move y,ty2,ps2,af2,none⟩::⟨some d3, .call ⟨.value (.func f),#[.tmp d1, .tmp d2],tys⟩,ty3,ps3,af3,none⟩::l) E O nx K:=by
 unfold VRunO at hK ⊢
 intro p h0 σ hf own Ea h c j hs
 subst hr
 obtain ⟨v,h1,h2⟩:=hx σ hf nx Ea hs.env
 obtain ⟨a,rfl,h5,h6⟩:=h2.orpInv
 obtain ⟨N,hN1,hN2,h7⟩:=hs.objAt hk
 rw [h5] at h7
 cases h7 with
 | rowsN hh hodd hlen hfit hsl =>
  rename_i cs
  obtain ⟨hlt,v0,A,B,C,e1,e2,e3,e4⟩:=QgR (σ:=σ) hh hlen hfit hsl hi ho
  have hs1:=hs.put (V.any (σ:=σ) (hf:=hf) (nx:=nx) v0) (some d1)
  obtain ⟨w,y1,y2⟩:=hy σ hf nx _ hs1.env
  obtain rfl:=y2.intInv
  have hs2:=hs1.put y2 (some d2)
  have hdd:d1≠d2:=by simpa using h12
  refine RunO.pure rfl rfl rfl (X.load h1 (YX hst hh e1)) (RunO.pure rfl rfl rfl (X.move y1) ?_)
  have hown:own a=some k:=hN2 a (by simp)
  have hsub:∀b∈B,b∈asg:=fun b hb=>by rw [e2];simp [hb]
  have hnd:asg.Nodup:=(List.nodup_cons.1 hN1).2
  have hndB:B.Nodup:=by rw [e2,List.nodup_append,List.nodup_append] at hnd;exact hnd.2.1.1
  have hdisA:∀b∈A,b∉B:=fun b hb hm2=>by rw [e2,List.nodup_append] at hnd;exact hnd.2.2 b hb b (by simp [hm2]) rfl
  have hdisC:∀b∈C,b∉B:=fun b hb hm2=>by rw [e2,List.nodup_append,List.nodup_append] at hnd;exact hnd.2.1.2.2 b hm2 b hb rfl
  have haB:a∉B:=fun hm2=>(List.nodup_cons.1 hN1).1 (hsub a hm2)
  have hevs:AE.evs (Zx (Zx Ea (some d1) v0) (some d2) (.int .i64 n)) [.tmp d1, .tmp d2]=some [v0, .int .i64 n]:=by
   simp [AE.evs,Zj,Zx,hdd]
  unfold RunO
  intro hfc
  have hF:Fr (child p (c+(j+1+1))) h:=FrC.fr hfc (Nat.le_refl _)
  have hS0:S (fun _=>none) h (.sl true sz2 rs) v0 B:=S.clean e3 (.sl _ _ hc)
  have h8:=hm h (child p (c+(j+1+1))) hf v0 B [.int .i64 n] hF (fun b o hb=>⟨(hs.fro b o hb).1,fun hm2=>by have:=hN2 b (by simp [hsub b hm2]);rw [(hs.fro b o hb).2] at this;cases this⟩) hS0 hndB (RL.cons (.int _ _) (RL.nil _))
  unfold CallS at h8
  obtain ⟨v,h',k1,k2,k3,rfl,k5⟩:=h8
  have hha:h' a=some (.cells sz cs):=(k3 a (by rw [hh];simp) haB).trans hh
  have hobj:ObjR σ hf nx h' (.rowsN sz (rows.set i (row.set o (.sl true sz2 rs'))) asg) (σ k) (a::asg):=by
   rw [h5]
   refine .rowsN hha hodd (fun r hr=> ?_) (by rw [List.length_set];exact hfit) ?_
   ·rcases List.mem_or_eq_of_mem_set hr with hm2 | rfl
    ·exact hlen r hm2
    ·rw [List.length_set];exact hlen row (List.mem_of_getElem? hi)
   ·rw [List.length_set]
    have hnn:∀b∈asg,h b≠none:=fun b hb=>hsl.names b hb
    have:=e4 h' (.sl true sz2 rs') v0 (fun b hb=>k3 b (hnn b (by rw [e2];simp [hb])) (hdisA b hb)) (fun b hb=>k3 b (hnn b (by rw [e2];simp [hb])) (hdisC b hb)) (k5.mono (fun _ _ e=>by cases e) (fun _ _=>rfl))
    have e5:cs.set (i*sz+o) v0=cs:=by
     refine List.ext_getElem? fun q=> ?_
     rw [List.getElem?_set]
     split
     ·rename_i e;subst e;rw [if_pos (by omega),e1]
     ·rfl
    rwa [e5] at this
  have hs3:SR p h0 σ hf own ((d2, .int .i64 n)::(d1, .any)::E) ((k,some (.rowsN sz (rows.set i (row.set o (.sl true sz2 rs'))) asg))::O) nx (Zx (Zx Ea (some d1) v0) (some d2) (.int .i64 n)) h':=by
   refine ⟨hs2.env,fun k' o' hk'=> ?_,fun b o' hb=> ?_,fun b k' hb=> ?_,hs.base,fun t ht=> ?_⟩
   ·simp only [gO] at hk'
    split at hk'
    ·rename_i e
     subst e
     obtain rfl:=Option.some.inj hk'
     exact ⟨h6,a::asg,hN1,hN2,hobj⟩
    ·rename_i hne
     obtain ⟨m1,N2,m2,m3,m4⟩:=hs.obj k' o' hk'
     refine ⟨m1,N2,m2,m3,m4.mono (fun _ _ e=>e) (Nat.le_refl _) (fun _ _=>rfl) (fun b hb=>k3 b (hs.mine b k' (m3 b hb)).2.2.1 (fun hm2=> ?_))⟩
     have:=hN2 b (by simp [hsub b hm2])
     rw [m3 b hb] at this
     exact hne (Option.some.inj this)
   ·obtain ⟨m1,m2⟩:=hs.fro b o' hb
    refine ⟨?_,m2⟩
    rw [k3 b (by rw [m1];simp) (fun hm2=>by have:=hN2 b (by simp [hsub b hm2]);rw [m2] at this;cases this)]
    exact m1
   ·obtain ⟨m1,m2,m3,m4⟩:=hs.mine b k' hb
    refine ⟨m1,m2,?_,m4⟩
    by_cases hm2:b∈B
    ·exact k5.names b hm2
    ·rw [k3 b m3 hm2];exact m3
   ·rcases k2 t ht with e | e
    ·exact hs.dom t e
    ·exact .inr (.inl (Js e))
  have hs4:=hs3.put (V.fz (σ:=σ) (hf:=hf) (nx:=nx) (R.int (hf:=hf) .i64 r)) (some d3)
  have hk4:=hK p h0 σ hf own _ h' c (j+1+1+1) hs4
  have hex:Qz call P (child p (c+(j+1+1))) (Zx (Zx Ea (some d1) v0) (some d2) (.int .i64 n)) h ⟨some d3, .call ⟨.value (.func f),#[.tmp d1, .tmp d2],tys⟩,ty3,ps3,af3,none⟩=some (rvV (some r),h'):=by
   simp only [Qz,X.calls (ts:=tys) hb (show AE.evs _ (#[Operand.tmp d1,Operand.tmp d2].toList)=some [v0, .int .i64 n] from hevs),k1]
  have hst2:=RunO.step (call:=call) (P:=P) (π:=p) (c:=c) (i:=j+1+1) (ops:=ops) (r:=l) (K:=KK p h0 K) rfl rfl rfl hex (fun _=>k2) (fun _=>hk4)
  unfold RunO at hst2
  exact hst2 hfc
end
abbrev LO := List (Nat×List (List T))
def loO (asg:Nat→List Nat):Nat→LO→Qx
 | _,[]=> []
 | n,x::r=>(n,some (.rowsN x.1 x.2 (asg n)))::loO asg (n+1) r
theorem Qi8 (asg:Nat→List Nat) (k:Nat):∀(L:LO) (n:Nat),gO (loO asg n L) k=if n≤k then (L[k - n]?).map (fun x=>Obj.rowsN x.1 x.2 (asg k)) else none
 | [],n=>by simp [loO,gO]
 | x::r,n=>by
  rw [loO,gO]
  by_cases h:k=n
  ·subst h;simp
  ·rw [if_neg h,Qi8 asg k r (n+1)]
   by_cases h2:n≤k
   ·rw [if_pos h2,if_pos (by omega),show k - n=(k - (n+1))+1 by omega,List.getElem?_cons_succ]
   ·rw [if_neg h2,if_neg (by omega)]
def QlL (σ:Nat→Option Nat) (hf:AH) (own:Nat→Option Nat) (asg:Nat→List Nat) (L:LO) (h:AH):Prop:=∀k x,L[k]? =some x→∃N,N.Nodup∧(∀a∈N,own a=some k)∧ObjR σ hf L.length h (.rowsN x.1 x.2 (asg k)) (σ k) N
def LoanM (call:QH) (f:FuncId) (L:LO) (ts:List T) (r:T) (L':LO):Prop:=∀(asg:Nat→List Nat) (h:AH) (p:Nat) (hf:AH) (σ own:Nat→Option Nat) (vs:List Value),Fr p h→(∀b o,hf b=some o→h b=some o∧own b=none)→(∀b k,own b=some k→h b≠none∧k<L.length)→QlL σ hf own asg L h→VL σ hf L.length ts vs →
 CallS call f vs h p (fun v h'=>(∀b,h b≠none→own b=none→h' b=h b)∧(∃hf2,V σ hf2 L.length r v)∧∀k x,L'[k]? =some x→∃N,N.Nodup∧(∀a∈N,own a=some k)∧ObjR σ hf L.length h' (.rowsN x.1 x.2 (asg k)) (σ k) N)
inductive PinK (k:Nat):T→Prop
 | os (sz n:Nat):PinK k (.os sz k 0 n)
 | agg {ts:List T} {t:T} (i:Nat) (h:ts[i]? =some t) (hp:PinK k t):PinK k (.agg ts)
inductive PRes : T→Prop
 | none:PRes (.tup [])
 | int (k:IntKind) (n:Int):PRes (.int k n)
 | bool (b:Bool):PRes (.bool b)
theorem PRes.R {r:T} {v:Value} {σ:Nat→Option Nat} {hf:AH} {nx:Nat} (hr:PRes r) (h:V σ hf nx r v) (hf':AH):AE.R hf' r v:=by
 cases hr with
 | none =>
  obtain ⟨l,rfl,h1⟩:=V.tupL h
  obtain rfl:=List.eq_nil_of_length_eq_zero h1.1.symm
  exact .tup [] #[] rfl (fun i hi=>by simp at hi)
 | int k n=>obtain rfl:=V.intInv h;exact .int _ _
 | bool b=>obtain rfl:=V.boolInv h;exact .bool _
theorem QjQ {σ σ':Nat→Option Nat} {hf hf':AH} {nx nx' sz k k' n:Nat} {v:Value} (h:V σ hf nx (.os sz k 0 n) v) (h':V σ' hf' nx' (.os sz k' 0 n) v):σ' k'=σ k:=by
 obtain ⟨_,⟨a,m,e1,e2,e3⟩ | ⟨e1,_,e2,e3⟩⟩:=h.osInv
 ·obtain ⟨_,⟨a',m',f1,f2,f3⟩ | ⟨f1,_,f2,f3⟩⟩:=h'.osInv
  ·rw [e1] at f1
   simp only [Value.slice.injEq,Option.some.injEq,Addr.mk.injEq] at f1
   rw [e2,f2,f1.1.1]
  ·subst e1
   rcases f3 with f3 | ⟨b,o,f3⟩
   ·exact absurd f3 (by simp)
   ·simp only [Value.slice.injEq] at f3
    omega
 ·obtain ⟨_,⟨a',m',f1,f2,f3⟩ | ⟨f1,_,f2,f3⟩⟩:=h'.osInv
  ·subst f1
   rcases e3 with e3 | ⟨b,o,e3⟩
   ·exact absurd e3 (by simp)
   ·simp only [Value.slice.injEq] at e3
    omega
  ·rw [e1,f1]
theorem PinK.same {σ σ':Nat→Option Nat} {hf hf':AH} {nx nx' k:Nat} {f:Nat→Nat} {pin:T} {v:Value} (hp:PinK k pin) (h:V σ hf nx pin v) (h':V σ' hf' nx' (ren f pin) v):σ' (f k)=σ k:=by
 induction hp generalizing v with
 | os sz n=>exact QjQ h h'
 | agg i hi hp ih =>
  rename_i ts t
  obtain ⟨l,rfl,h1⟩:=V.aggL h
  have h2:V σ' hf' nx' (.agg (JC f ts)) (.agg l.toArray):=h'
  obtain ⟨l2,e,h3⟩:=V.aggL h2
  have e2:l2=l:=by
   simp only [Value.agg.injEq] at e
   have:=congrArg Array.toList e
   simpa using this.symm
  subst e2
  have hlt:=(List.getElem?_eq_some_iff.1 hi).1
  have g1:=h1.2 i hlt
  have g2:=h3.2 i (by rw [Za,List.length_map];exact hlt)
  rw [List.getD_eq_getElem?_getD,hi,Option.getD_some] at g1
  rw [Za,List.getD_eq_getElem?_getD,List.getElem?_map,hi,Option.map_some,Option.getD_some] at g2
  exact ih g1 g2
def finO (O:Qx) (f:Nat→Nat) (asg:Nat→List Nat):Nat→LO→Prop
 | _,[]=>True
 | n,x::r=>gO O (f n)=some (.rowsN x.1 x.2 (asg n))∧finO O f asg (n+1) r
theorem finO.at {O:Qx} {f:Nat→Nat} {asg:Nat→List Nat}:∀ {L:LO} {n:Nat} (k:Nat) {x},finO O f asg n L→L[k]? =some x→gO O (f (n+k))=some (.rowsN x.1 x.2 (asg (n+k)))
 | [],n,k,x,_,h=>by simp at h
 | y::r,n,0,x,h,e=>by
  obtain rfl:y=x:=by simpa using e
  exact h.1
 | y::r,n,k+1,x,h,e=>by
  have:=finO.at (L:=r) (n:=n+1) k h.2 (by simpa using e)
  rwa [show n+1+k=n+(k+1) by omega] at this
def vloanM (P:Program) (rs:List ResultVar) (pins:List (Nat×T)) (L':LO) (asg:Nat→List Nat) (r:T):AX→QQ→Qx→Nat→Prop
 | .exit _,_,_,_=>False
 | _,E,O,_=>∃(f:Nat→Nat) (us:List T),VRes P E O rs us∧QbO us=r∧(∀x∈pins,gE E x.1=ren f x.2)∧finO O f asg 0 L'
theorem vloanM.r {P:Program} {rs:List ResultVar} {pins:List (Nat×T)} {L1 L':LO} {asg:Nat→List Nat} {r:T} {E:QQ} {O:Qx} {nx:Nat} {us:List T} (f:Nat→Nat) (h:VRes P E O rs us) (h1:QbO us=r) (h2:∀x∈pins,gE E x.1=ren f x.2) (h3:finO O f asg 0 L1) (e:L1=L'):vloanM P rs pins L' asg r .ret E O nx:=⟨f,us,h,h1,h2,e▸h3⟩
theorem ObjR.nameN {σ:Nat→Option Nat} {hf h:AH} {nx sz:Nat} {rows:List (List T)} {asg N:List Nat} {oa:Option Nat} (h1:ObjR σ hf nx h (.rowsN sz rows asg) oa N):(oa=Option.none∧N= []∧asg= [])∨∃a,oa=some a∧N=a::asg:=by
 cases h1 with
 | noneN sz=>exact .inl ⟨rfl,rfl,rfl⟩
 | rowsN hk hodd hlen hfit hs=>exact .inr ⟨_,rfl,rfl⟩
theorem ObjR.moveN {σ σ':Nat→Option Nat} {hf hf' h h':AH} {nx nx' sz:Nat} {rows:List (List T)} {asg N:List Nat} {oa:Option Nat} (h1:ObjR σ hf nx h (.rowsN sz rows asg) oa N) (hc:∀r∈rows,∀t∈r,Clean t) (hh:∀a∈N,h' a=h a):ObjR σ' hf' nx' h' (.rowsN sz rows asg) oa N:=by
 cases h1 with
 | noneN sz=>exact .noneN sz
 | rowsN hk hodd hlen hfit hs =>
  refine .rowsN ((hh _ (by simp)).trans hk) hodd hlen hfit ?_
  have h2:=SL.clean (hf':=fun _=>Option.none) hs (fun t ht=>by
   obtain ⟨r,hr,htr⟩:=List.mem_flatten.1 ht
   exact hc r hr t htr)
  exact h2.mono (fun _ _ e=>(by cases e)) (fun a ha=>hh a (by simp [ha]))
theorem ObjR.namesN {σ:Nat→Option Nat} {hf h:AH} {nx sz:Nat} {rows:List (List T)} {asg N:List Nat} {oa:Option Nat} (h1:ObjR σ hf nx h (.rowsN sz rows asg) oa N):∀a∈N,h a≠Option.none:=by
 cases h1 with
 | noneN sz=>intro a ha;cases ha
 | rowsN hk hodd hlen hfit hs =>
  intro a ha
  rcases List.mem_cons.1 ha with rfl | ha
  ·rw [hk];simp
  ·exact hs.names a ha
theorem LoanM.intro {P:Program} {f:FuncId} {fn:Func} {c:Code} {n:Nat} {ts:List T} {r:T} {L L':LO} {rs:List ResultVar} (pins:List (Nat×T)) (hf:P.funcs[f]? =some fn) (hb:fn.body=some c) (hc:Zo fn.ntmps c=true) (hrs:fn.results.toList=rs) (hL:L'.length=L.length) (hp1:∀x∈pins,noW x.1 c=true∧ts[x.1]? =some x.2) (hp2:∀k,k<L.length→∃x∈pins,PinK k x.2) (hr0:PRes r) (hcl:∀x∈L',∀r∈x.2,∀t∈r,Clean t) {E0:QQ} (hE:QcS 0 ts=E0)
  (hr:∀asg,VRun (Qr P n) P c E0 (loO asg 0 L) L.length (vloanM P rs pins L' asg r)) (hpr:JT f=true:=by rfl):LoanM (Qr P (n+1)) f L ts r L':=by
 subst hE
 intro asg h p hfz σ own vs hfp hfN hown hO hvs
 classical
 let hb0:AH:=fun b=>if own b≠none then none else h b
 have hb1:∀b,own b=none→hb0 b=h b:=fun b hb=>if_neg (by simp [hb])
 have hb2:∀b,own b≠none→hb0 b=none:=fun b hb=>if_pos hb
 have hb3:∀b o,hb0 b=some o→own b=none∧h b=some o:=fun b o hb=>by
  by_cases hm:own b=none
  ·exact ⟨hm,(hb1 b hm).symm.trans hb⟩
  ·rw [hb2 b hm] at hb;cases hb
 have hsub:∀b o,hfz b=some o→hb0 b=some o:=fun b o hb=>(hb1 b (hfN b o hb).2).trans (hfN b o hb).1
 have hs0:SR p ⟨hb0,fun b=>own b≠none⟩ σ hb0 own (QcS 0 ts) (loO asg 0 L) L.length (fun t=>vs.getD t undef) h:=by
  refine ⟨fun t=> ?_,fun k o hk=> ?_,fun a o ha=>⟨(hb3 a o ha).2,(hb3 a o ha).1⟩,fun a k ha=> ?_,fun _ _=>rfl,fun t ht=> ?_⟩
  ·rw [Qbk,if_neg (by omega),Nat.sub_zero]
   rcases Nat.lt_or_ge t ts.length with h1 | h1
   ·exact (hvs.2 t h1).mono hsub (Nat.le_refl _) (fun _ _=>rfl)
   ·rw [List.getD_eq_getElem?_getD,List.getElem?_eq_none h1]
    exact .any _
  ·rw [Qi8,if_pos (Nat.zero_le _),Nat.sub_zero] at hk
   obtain ⟨x,hx,rfl⟩:=Option.map_eq_some_iff.1 hk
   obtain ⟨N,g1,g2,g3⟩:=hO k x hx
   exact ⟨(List.getElem?_eq_some_iff.1 hx).1,N,g1,g2,g3.mono hsub (Nat.le_refl _) (fun _ _=>rfl) (fun _ _=>rfl)⟩
  ·have h1:own a≠none:=by rw [ha];simp
   exact ⟨.inr h1,hb2 a h1,(hown a k ha).1,(hown a k ha).2⟩
  ·by_cases hm:own t=none
   ·exact .inl (by show hb0 t≠none;rw [hb1 t hm];exact ht)
   ·exact .inr (.inr hm)
 have hr1:=hr asg
 unfold VRun at hr1
 have hrun:=hr1 p _ σ _ _ _ h 0 hs0
 have hrun2:Run (Qr P n) P p c ⟨fun t=>vs.getD t undef,h,0⟩ (fun e s=>KK p ⟨hb0,fun b=>own b≠none⟩ (vloanM P rs pins L' asg r e) s.E s.h∧∀x∈pins,s.E x.1=vs.getD x.1 undef):=by
  unfold Run at hrun ⊢
  intro hfc
  obtain ⟨e,s',h1,h2,h3⟩:=hrun hfc
  exact ⟨e,s',h1,h2,h3,fun x hx=>ZO _ _ _ _ (hp1 x hx).1 h1⟩
 refine CallS.intro (hpr:=hpr) (rs:=rs) hf hb hc hfp hrs (Run.mono hrun2 ?_)
 rintro e s' ⟨⟨σ',hf',own',E,O,nx,h1,h2⟩,h0⟩
 have key:(∃(f:Nat→Nat) (us:List T),VRes P E O rs us∧QbO us=r∧(∀x∈pins,gE E x.1=ren f x.2)∧finO O f asg 0 L')→∃l,Y3 P s'.h s'.E rs=some l∧(fun v h'=>(∀b,h b≠none→own b=none→h' b=h b)∧(∃hf2,V σ hf2 L.length r v)∧∀k x,L'[k]? =some x→∃N,N.Nodup∧(∀a∈N,own a=some k)∧ObjR σ hfz L.length h' (.rowsN x.1 x.2 (asg k)) (σ k) N) (Ym l) (if QU (Ym l) then Ya h s'.h else Qaa p h s'.h):=by
  rintro ⟨f,us,g1,g2,g3,g4⟩
  obtain ⟨l,l1,l2⟩:=g1.run h1
  have g5:V σ' hf' nx (QbO us) (Ym l):=by
   have hlen:=l2.1
   match us,l,l2,hlen with
   | [],[],g4,_=>exact g4.toTup
   | [t],[v],g4,_ =>
    obtain ⟨v',r',e,g6,_⟩:=g4.tail
    cases e
    exact g6
   | t::t'::us,v::v'::l,g4,_=>exact g4.toTup
   | [],_::_,_,hl=>cases hl
   | [_],[],_,hl=>cases hl
   | [_],_::_::_,_,hl=>cases hl
   | _::_::_,[],_,hl=>cases hl
   | _::_::_,[_],_,hl=>cases hl
  rw [g2] at g5
  have hbase:∀a o,hb0 a=some o→hf' a=some o:=fun a o ha=>by
   have e3:hf' a=hb0 a:=h1.base a (by show hb0 a≠none;rw [ha];simp)
   rw [e3,ha]
  have hσ:∀k,k<L.length→σ' (f k)=σ k:=fun k hk=>by
   obtain ⟨x,hx,hpk⟩:=hp2 k hk
   have e1:=(hp1 x hx).2
   have hjl:=(List.getElem?_eq_some_iff.1 e1).1
   have p1:=hvs.2 x.1 hjl
   rw [List.getD_eq_getElem?_getD,e1] at p1
   have p2:=h1.env x.1
   rw [g3 x hx,h0 x hx] at p2
   exact hpk.same p1 p2
  have hold:∀b,h b≠none→(if QU (Ym l) then Ya h s'.h else Qaa p h s'.h) b=s'.h b:=fun b hb=>by
   split
   ·unfold Ya
    cases hh:h b with
    | none=>exact absurd hh hb
    | some o=>rfl
   ·exact QcX (.inl hb)
  refine ⟨l,l1,fun b hb hbN=> ?_,⟨hf', .fz (hr0.R g5 _)⟩,fun k x hx=> ?_⟩
  ·rw [hold b hb]
   obtain ⟨o,ho⟩:=Option.ne_none_iff_exists'.1 hb
   rw [(h1.fro b o (hbase b o ((hb1 b hbN).trans ho))).1,ho]
  ·have hkl:k<L.length:=by rw [← hL];exact (List.getElem?_eq_some_iff.1 hx).1
   obtain ⟨N,n1,n2,n3⟩:=hO k _ (List.getElem?_eq_getElem hkl)
   have g6:=finO.at k g4 hx
   rw [Nat.zero_add] at g6
   obtain ⟨M,m1,m2,m3⟩:=h1.objAt g6
   rw [hσ k hkl] at m3
   have hMN:M=N:=by
    rcases n3.nameN with ⟨q1,rfl,q2⟩ | ⟨a,q1,rfl⟩
    ·rcases m3.nameN with ⟨_,rfl,_⟩ | ⟨a',q3,_⟩
     ·rfl
     ·rw [q1] at q3;cases q3
    ·rcases m3.nameN with ⟨q3,_,_⟩ | ⟨a',q3,rfl⟩
     ·rw [q1] at q3;cases q3
     ·rw [q1] at q3;rw [Option.some.inj q3]
   subst hMN
   exact ⟨M,n1,n2,m3.moveN (hcl x (List.mem_of_getElem? hx)) (fun a ha=>hold a (hown a k (n2 a ha)).1)⟩
 cases e with
 | normal=>unfold fin;exact key h2
 | ret=>unfold fin;exact key h2
 | exit id=>exact h2.elim
def ix : List Nat→Nat→Option Nat
 | [],_=>none
 | a::r,k=>if k=a then some 0 else (ix r k).map (· +1)
theorem QaH : ∀ {ks:List Nat} {k n:Nat},ix ks k=some n→ks[n]? =some k
 | [],k,n,h=>by cases h
 | a::r,k,n,h=>by
  simp only [ix] at h
  split at h
  ·rename_i e
   obtain rfl:=Option.some.inj h
   simp [e]
  ·obtain ⟨m,h1,rfl⟩:=Option.map_eq_some_iff.1 h
   simpa using QaH h1
theorem Qj3 : ∀ {ks:List Nat} {k n:Nat},ks.Nodup→ks[n]? =some k→ix ks k=some n
 | [],k,n,_,h=>by simp at h
 | a::r,k,0,_,h=>by
  obtain rfl:a=k:=by simpa using h
  simp [ix]
 | a::r,k,n+1,hn,h=>by
  have h1:r[n]? =some k:=by simpa using h
  have h2:=List.nodup_cons.1 hn
  have h3:¬k=a:=fun e=>h2.1 (e▸List.mem_of_getElem? h1)
  simp only [ix,if_neg h3,Qj3 h2.2 h1,Option.map_some]
def isR : Obj→Nat×List (List T)→Prop
 | .rows sz rows,x=>x=(sz,rows)
 | .rowsN sz rows _,x=>x=(sz,rows)
 | _,_=>False
def Qjz : Obj→Nat×List (List T)→Obj
 | .rows _ _,x=> .rows x.1 x.2
 | .rowsN _ _ asg,x=> .rowsN x.1 x.2 asg
 | o,_=>o
theorem isR.toN {σ:Nat→Option Nat} {hf h:AH} {nx:Nat} {o:Obj} {x:Nat×List (List T)} {oa:Option Nat} {N:List Nat} (ho:isR o x) (h1:ObjR σ hf nx h o oa N):∃asg,ObjR σ hf nx h (.rowsN x.1 x.2 asg) oa N∧∀ {σ':Nat→Option Nat} {hf' h':AH} {nx':Nat} {y:Nat×List (List T)},ObjR σ' hf' nx' h' (.rowsN y.1 y.2 asg) oa N→ObjR σ' hf' nx' h' (Qjz o y) oa N:=by
 cases h1 with
 | rows hk hodd hlen hfit hs =>
  obtain rfl:x=_:=ho
  refine ⟨_, .rowsN hk hodd hlen hfit hs,fun {σ' hf' h' nx' y} h2=> ?_⟩
  obtain ⟨sz',rows'⟩:=y
  cases h2 with
  | rowsN hk hodd hlen hfit hs=>exact .rows hk hodd hlen hfit hs
 | none sz =>
  obtain rfl:x=_:=ho
  refine ⟨_, .noneN sz,fun {σ' hf' h' nx' y} h2=> ?_⟩
  obtain ⟨sz',rows'⟩:=y
  cases h2 with
  | noneN sz=>exact ObjR.none _
 | rowsN hk hodd hlen hfit hs =>
  obtain rfl:x=_:=ho
  exact ⟨_, .rowsN hk hodd hlen hfit hs,fun h2=>h2⟩
 | noneN sz =>
  obtain rfl:x=_:=ho
  exact ⟨_, .noneN sz,fun h2=>h2⟩
 | cells hk hodd hv=>exact (show False from ho).elim
 | map hk hodd g1 g2=>exact (show False from ho).elim
def QhR : Qx→List Nat→LO→List Obj→Qx
 | O,k::ks,x::r,o::os=>QhR ((k,some (Qjz o x))::O) ks r os
 | O,_,_,_=>O
theorem QgO (q:Nat):∀ {ks:List Nat} {L:LO} {os:List Obj} {O:Qx},ks.Nodup→L.length=ks.length→os.length=ks.length→gO (QhR O ks L os) q=match ix ks q with
  | some n=>(match L[n]?,os[n]? with | some x,some o=>some (Qjz o x) | _,_=>none)
  | none=>gO O q
 | [],L,os,O,_,hl,ho=>by
  cases L with
  | nil=>simp [QhR,ix]
  | cons x r=>cases hl
 | k::ks,[],os,O,_,hl,ho=>by cases hl
 | k::ks,x::r,[],O,_,hl,ho=>by cases ho
 | k::ks,x::r,o::os,O,hn,hl,ho=>by
  have hn2:=List.nodup_cons.1 hn
  rw [QhR,QgO q hn2.2 (by simpa using hl) (by simpa using ho)]
  simp only [ix]
  by_cases hq:q=k
  ·subst hq
   have:ix ks q=none:=by
    cases hx:ix ks q with
    | none=>rfl
    | some n=>exact absurd (List.mem_of_getElem? (QaH hx)) hn2.1
   simp [this,gO]
  ·rw [if_neg hq]
   cases hx:ix ks q with
   | none=>simp [gO,hq]
   | some n=>simp
def hosL (O:Qx):List Nat→List Obj→LO→Prop
 | [],[],[]=>True
 | k::ks,o::os,x::L=>(gO O k=some o∧isR o x)∧hosL O ks os L
 | _,_,_=>False
theorem hosL.len {O:Qx}:∀ {ks:List Nat} {os:List Obj} {L:LO},hosL O ks os L→L.length=ks.length∧os.length=ks.length
 | [],[],[],_=>⟨rfl,rfl⟩
 | k::ks,o::os,x::L,h=>by
  obtain ⟨h1,h2⟩:=hosL.len h.2
  exact ⟨by simp [h1],by simp [h2]⟩
 | [],_::_,_,h=>h.elim
 | [],[],_::_,h=>h.elim
 | _::_,[],_,h=>h.elim
 | _::_,_::_,[],h=>h.elim
theorem hosL.at {O:Qx}:∀ {ks:List Nat} {os:List Obj} {L:LO},hosL O ks os L→∀n k:Nat,ks[n]? =some k→∃(o:Obj) (x:Nat×List (List T)),os[n]? =some o∧L[n]? =some x∧gO O k=some o∧isR o x
 | [],_,_,_,n,k,e=>by simp at e
 | k::ks,o::os,x::L,h,0,k',e=>by
  obtain rfl:k=k':=by simpa using e
  exact ⟨o,x,rfl,rfl,h.1.1,h.1.2⟩
 | k::ks,o::os,x::L,h,n+1,k',e=>by
  obtain ⟨o',x',e1,e2,e3⟩:=hosL.at h.2 n k' (by simpa using e)
  exact ⟨o',x',by simpa using e1,by simpa using e2,e3⟩
 | _::_,[],_,h,_,_,_=>h.elim
 | _::_,_::_,[],h,_,_,_=>h.elim
def PinsTo (pins:List (Nat×T)):Nat→Prop
 | 0=>True
 | n+1=>PinsTo pins n∧∃x∈pins,PinK n x.2
theorem PinsTo.at {pins:List (Nat×T)}:∀ {m:Nat},PinsTo pins m→∀k,k<m→∃x∈pins,PinK k x.2
 | 0,_,k,h=>by omega
 | m+1,h,k,hk=>by
  by_cases e:k=m
  ·subst e;exact h.2
  ·exact PinsTo.at h.1 k (by omega)
theorem OC.viaN {call:QH} {P:Program} {E:QQ} {O O1:Qx} {nx nx' k sz:Nat} {o:Oper} {t:T} {rows rows':List (List T)} {asg ks:List Nat} (hk:gO O k=some (.rowsN sz rows asg)) (hsc:scR rows) (hsc':scR rows')
  (h:OC call P E ((k,some (.rows sz rows))::O) nx o t ((k,some (.rows sz rows'))::O1) nx' ks):OC call P E O nx o t ((k,some (.rowsN sz rows' asg))::O1) nx' ks:=⟨h.1,fun q p h0 σ hf own Ea H hs hu hF=>by
 obtain ⟨N,hN1,hN2,h3⟩:=hs.objAt hk
 have hasg:asg= []:=by
  generalize σ k=oa at h3
  cases h3 with
  | noneN=>rfl
  | rowsN hh hodd hlen hfit hsl=>exact hsl.sc hsc.flat
 subst hasg
 have hs':SR p h0 σ hf own E ((k,some (.rows sz rows))::O) nx Ea H:=⟨hs.env,fun k2 o2 h2=>by
  by_cases e:k2=k
  ·subst e
   rw [QiO] at h2
   obtain rfl:=Option.some.inj h2
   refine ⟨(hs.obj _ _ hk).1,N,hN1,hN2,?_⟩
   generalize σ k2=oa at h3 ⊢
   cases h3 with
   | noneN=>exact .none _
   | rowsN hh hodd hlen hfit hsl=>exact .rows hh hodd hlen hfit hsl
  ·rw [Qgv _ (by simpa using e)] at h2
   exact hs.obj k2 o2 h2,hs.fro,hs.mine,hs.base,hs.dom⟩
 obtain ⟨v,h',σ',own',e1,e2,e3,e4,e5⟩:=h.2 q p h0 σ hf own Ea H hs' hu hF
 refine ⟨v,h',σ',own',e1,e2,e3,⟨e4.env,fun k2 o2 h2=> ?_,e4.fro,e4.mine,e4.base,e4.dom⟩,e5⟩
 by_cases e:k2=k
 ·subst e
  rw [QiO] at h2
  obtain rfl:=Option.some.inj h2
  obtain ⟨f1,N',f2,f3,f4⟩:=e4.obj k2 _ (QiO _ _ _)
  refine ⟨f1,N',f2,f3,?_⟩
  generalize hσk:σ' k2=oa at f4 ⊢
  cases f4 with
  | none=>exact .noneN _
  | rows hh hodd hlen hfit hsl =>
   have:=hsl.sc hsc'.flat
   subst this
   exact .rowsN hh hodd hlen hfit hsl
 ·rw [Qgv _ (by simpa using e)] at h2
  exact e4.obj k2 o2 (by rw [Qgv _ (by simpa using e)];exact h2)⟩
section
variable {call : QH} {P : Program} {E : QQ} {O : Qx} {d : Option Tmp} {ty : TypeId} {ps : String} {af : Array Edge} {g : Option (Nat × Bool)} {nx : Nat}
theorem OC.callM {f:FuncId} {args:Array Operand} {tys:Array TypeId} {ts0 ts:List T} {ks:List Nat} {r:T} {L L':LO} {os:List Obj} {O':Qx} (hb:ZT P f=true) (ha:VEvs E args.toList ts0) (hkn:ks.Nodup) (hkl:L.length=ks.length) (hol:os.length=ks.length) (hL':L'.length=ks.length) (hos:∀n k:Nat,ks[n]? =some k→∃(o:Obj) (x:Nat×List (List T)),os[n]? =some o∧L[n]? =some x∧gO O k=some o∧isR o x) (hcl0:∀x∈L,∀r∈x.2,∀t∈r,Clean t) (hcl:∀x∈L',∀r∈x.2,∀t∈r,Clean t) (hts:JC (fun n=>ks.getD n 0) ts=ts0) (htl:ZW ks.length ts=true) (hr0:PRes r) (hO':QhR O ks L' os=O') (hp:LoanM call f L ts r L') :
  OC call P E O nx ⟨d, .call ⟨.value (.func f),args,tys⟩,ty,ps,af,g⟩ r O' nx ks:=⟨Nat.le_refl _,fun q p h0 σ hf own Ea h hs hu hF=>by
 subst hts
 subst hO'
 classical
 obtain ⟨vs,h1,h2⟩:=ha σ hf nx Ea hs.env
 have key:∀n:Nat,∃w:List Nat×List Nat,∀k:Nat,ks[n]? =some k→∃(o:Obj) (x:Nat×List (List T)),os[n]? =some o∧L[n]? =some x∧k<nx∧w.2.Nodup∧(∀a∈w.2,own a=some k)∧ObjR σ hf nx h (.rowsN x.1 x.2 w.1) (σ k) w.2∧∀ {σ':Nat→Option Nat} {hf' h':AH} {nx':Nat} {y:Nat×List (List T)},ObjR σ' hf' nx' h' (.rowsN y.1 y.2 w.1) (σ k) w.2→ObjR σ' hf' nx' h' (Qjz o y) (σ k) w.2:=fun n=>by
  cases hk:ks[n]? with
  | none=>exact ⟨([],[]),fun k e=>by cases e⟩
  | some k =>
   obtain ⟨o,x,e1,e2,e3,e4⟩:=hos n k hk
   obtain ⟨hkx,N,n1,n2,n3⟩:=hs.obj k o e3
   obtain ⟨asg,g1,g2⟩:=e4.toN n3
   refine ⟨(asg,N),fun k' e=> ?_⟩
   obtain rfl:=Option.some.inj e
   exact ⟨o,x,e1,e2,hkx,n1,n2,g1,g2⟩
 obtain ⟨W,has⟩:=Classical.skolem.1 key
 have hgk:∀n k:Nat,ks[n]? =some k→ks.getD n 0=k:=fun n k e=>by rw [List.getD_eq_getElem?_getD,e];rfl
 have hl:VL (fun n=>σ (ks.getD n 0)) hf L.length ts vs:=by
  refine ⟨by have:=h2.1;rw [Za,List.length_map] at this;exact this,fun i hi=> ?_⟩
  have h6:=h2.2 i (by rw [Za,List.length_map];exact hi)
  refine V.ren (σ':=fun n=>σ (ks.getD n 0)) (nx':=L.length) (fun _ _=>rfl) h6 ?_ ?_
  ·rw [Za]
   simp [List.getD_eq_getElem?_getD,hi]
  ·rw [Yf,List.all_eq_true] at htl
   rw [hkl]
   refine htl _ ?_
   rw [List.getD_eq_getElem?_getD,List.getElem?_eq_getElem hi]
   exact List.getElem_mem hi
 have h6:=hp (fun n=>(W n).1) h q hf (fun n=>σ (ks.getD n 0)) (fun b=>(own b).bind fun k=>(ix ks k).bind fun n=>if b∈(W n).2 then some n else none) vs hF (fun b o hb=>⟨(hs.fro b o hb).1,by simp only [(hs.fro b o hb).2,Option.bind_none]⟩) (fun b n hb=>by
  obtain ⟨k,e1,e2⟩:=Option.bind_eq_some_iff.1 hb
  obtain ⟨m,e3,e4⟩:=Option.bind_eq_some_iff.1 e2
  split at e4
  ·obtain rfl:=Option.some.inj e4
   exact ⟨(hs.mine b k e1).2.2.1,by rw [hkl];exact (List.getElem?_eq_some_iff.1 (QaH e3)).1⟩
  ·cases e4) (fun n x hx=>by
  have hnl:n<ks.length:=by rw [← hkl];exact (List.getElem?_eq_some_iff.1 hx).1
  have hk:=List.getElem?_eq_getElem hnl
  obtain ⟨o,x',e1,e2,e3,e4,e5,e6,e7⟩:=has n _ hk
  obtain rfl:x=x':=by rw [hx] at e2;exact Option.some.inj e2
  refine ⟨(W n).2,e4,fun a ha=>by simp only [e5 a ha,Option.bind_some,Qj3 hkn hk,if_pos ha],?_⟩
  show ObjR _ hf _ h _ (σ (ks.getD n 0)) _
  rw [hgk n _ hk]
  exact e6.moveN (hcl0 x (List.mem_of_getElem? hx)) (fun _ _=>rfl)) hl
 unfold CallS at h6
 obtain ⟨v,h',k1,k2,k3,⟨hf2,k4⟩,k5⟩:=h6
 have hfree:∀b,h b≠none→(∀k n,own b=some k→ix ks k=some n→b∉(W n).2)→h' b=h b:=fun b hb hn=>k3 b hb (by
  cases ho:own b with
  | none=>rfl
  | some k =>
   simp only [Option.bind_some]
   cases hx:ix ks k with
   | none=>rfl
   | some n=>simp only [Option.bind_some];rw [if_neg (hn k n ho hx)])
 refine ⟨v,h',σ,own,by simp only [Qz,X.calls hb h1,k1],k2,fun _ _=>rfl,⟨hs.env,fun k' o hk'=> ?_,fun b o hb=> ?_,fun b k' hb=> ?_,hs.base,fun t ht=> ?_⟩, .fz (hr0.R k4 _),fun b hb hnk=>hfree b hb (fun k n e e2=>absurd e (hnk k (List.mem_of_getElem? (QaH e2)))),fun b k' e=> .inl e⟩
 ·rw [QgO k' hkn hL' hol] at hk'
  cases hx:ix ks k' with
  | none =>
   rw [hx] at hk'
   obtain ⟨m1,N2,m2,m3,m4⟩:=hs.obj k' o hk'
   exact ⟨m1,N2,m2,m3,m4.mono (fun _ _ e=>e) (Nat.le_refl _) (fun _ _=>rfl) (fun b hb=>hfree b (hs.mine b k' (m3 b hb)).2.2.1 (fun k n e e2=>by rw [m3 b hb] at e;obtain rfl:=Option.some.inj e;rw [hx] at e2;cases e2))⟩
  | some n =>
   rw [hx] at hk'
   have hk:=QaH hx
   obtain ⟨o1,x,e1,e2,e3,e4,e5,e6,e7⟩:=has n k' hk
   have hnl:=(List.getElem?_eq_some_iff.1 hk).1
   have e8:=List.getElem?_eq_getElem (show n<L'.length by rw [hL'];exact hnl)
   simp only [e8,e1] at hk'
   obtain rfl:=Option.some.inj hk'
   obtain ⟨N',n1,n2,n3⟩:=k5 n _ e8
   simp only [hgk n _ hk] at n3
   have hNN:N'=(W n).2:=by
    rcases e6.nameN with ⟨q1,q3,q2⟩ | ⟨a,q1,q2⟩
    ·rcases n3.nameN with ⟨_,rfl,_⟩ | ⟨a',q4,_⟩
     ·exact q3.symm
     ·rw [q1] at q4;cases q4
    ·rcases n3.nameN with ⟨q3,_,_⟩ | ⟨a',q3,rfl⟩
     ·rw [q1] at q3;cases q3
     ·rw [q1] at q3;rw [q2,Option.some.inj q3]
   rw [hNN] at n3
   exact ⟨e3,(W n).2,e4,e5,e7 (n3.moveN (hcl _ (List.mem_of_getElem? e8)) (fun _ _=>rfl))⟩
 ·obtain ⟨m1,m2⟩:=hs.fro b o hb
  refine ⟨?_,m2⟩
  rw [hfree b (by rw [m1];simp) (fun k n e _=>by rw [m2] at e;cases e)]
  exact m1
 ·obtain ⟨m1,m2,m3,m4⟩:=hs.mine b k' hb
  refine ⟨m1,m2,?_,m4⟩
  by_cases hbm:∃n,ix ks k'=some n∧b∈(W n).2
  ·obtain ⟨n,hx,hbm⟩:=hbm
   have hk:=QaH hx
   have hnl:=(List.getElem?_eq_some_iff.1 hk).1
   have e8:=List.getElem?_eq_getElem (show n<L'.length by rw [hL'];exact hnl)
   obtain ⟨o1,x,e1,e2,e3,e4,e5,e6,e7⟩:=has n k' hk
   obtain ⟨N',n1,n2,n3⟩:=k5 n _ e8
   simp only [hgk n _ hk] at n3
   have hNN:N'=(W n).2:=by
    rcases e6.nameN with ⟨q1,q3,q2⟩ | ⟨a,q1,q2⟩
    ·rcases n3.nameN with ⟨_,rfl,_⟩ | ⟨a',q4,_⟩
     ·exact q3.symm
     ·rw [q1] at q4;cases q4
    ·rcases n3.nameN with ⟨q3,_,_⟩ | ⟨a',q3,rfl⟩
     ·rw [q1] at q3;cases q3
     ·rw [q1] at q3;rw [q2,Option.some.inj q3]
   exact n3.namesN b (by rw [hNN];exact hbm)
  ·rw [hfree b m3 (fun k n e e2 hm=>hbm ⟨n,by rw [hb] at e;rw [Option.some.inj e];exact e2,hm⟩)]
   exact m3
 ·rcases k2 t ht with e | e
  ·exact hs.dom t e
  ·exact .inr (hu t e)⟩
theorem OC.callL {f:FuncId} {args:Array Operand} {tys:Array TypeId} {ts0 ts:List T} (ks:List Nat) {r:T} {L:LO} (L':LO) (os:List Obj) (hb:ZT P f=true) (ha:VEvs E args.toList ts0) (hkn:ks.Nodup) (hL':L'.length=ks.length) (hos:hosL O ks os L) (hcl0:∀x∈L,∀r∈x.2,∀t∈r,Clean t) (hcl:∀x∈L',∀r∈x.2,∀t∈r,Clean t) (hts:JC (fun n=>ks.getD n 0) ts=ts0) (htl:ZW ks.length ts=true) (hr0:PRes r) (hp:LoanM call f L ts r L') :
  OC call P E O nx ⟨d, .call ⟨.value (.func f),args,tys⟩,ty,ps,af,g⟩ r (QhR O ks L' os) nx ks:=OC.callM hb ha hkn hos.len.1 hos.len.2 hL' hos.at hcl0 hcl hts htl hr0 rfl hp
end
section
variable {α : Type}
def mkL (f:Nat→α→α) (w:α→Nat):Nat→List α→List α
 | _,[]=> []
 | k,x::r=>f k x::mkL f w (k+w x) r
def YK (w:α→Nat):Nat→List α→Nat
 | k,[]=>k
 | k,x::r=>YK w (k+w x) r
variable {f : Nat → α → α} {w : α → Nat}
theorem JV : ∀(k:Nat) (l:List α),(mkL f w k l).length=l.length
 | k,[]=>rfl
 | k,x::r=>by simp only [mkL,List.length_cons,JV (k+w x) r]
theorem QeR : ∀(k:Nat) (l m:List α),YK w k (l++m)=YK w (YK w k l) m
 | k,[],m=>rfl
 | k,x::r,m=>by simp only [List.cons_append,YK,QeR (k+w x) r m]
theorem QgU : ∀(k:Nat) (l m:List α),mkL f w k (l++m)=mkL f w k l++mkL f w (YK w k l) m
 | k,[],m=>rfl
 | k,x::r,m=>by simp only [List.cons_append,mkL,YK,QgU (k+w x) r m]
theorem Qi0 : ∀(k:Nat) (l:List α),k≤YK w k l
 | k,[]=>Nat.le_refl _
 | k,x::r=>Nat.le_trans (Nat.le_add_right _ _) (Qi0 (k+w x) r)
theorem QiY {l:List α} {i k:Nat} {x:α} (h:l[i]? =some x):YK w k (l.take (i+1))=YK w k (l.take i)+w x:=by
 rw [List.take_add_one,h,Option.toList_some,QeR]
 rfl
theorem QfP (k:Nat) (l:List α) (i:Nat):YK w k (l.take i)≤YK w k l:=by
 have h:YK w k (l.take i++l.drop i)=YK w (YK w k (l.take i)) (l.drop i):=QeR _ _ _
 rw [List.take_append_drop] at h
 rw [h]
 exact Qi0 _ _
def mkT (f:Nat→α→α) (w:α→Nat) (k:Nat) (l:List α) (i:Nat):List α:=mkL f w k (l.take i)++l.drop i
theorem Qc2 (k:Nat) (l:List α) (i:Nat):(mkT f w k l i).length=l.length:=by
 unfold mkT
 rw [List.length_append,JV,List.length_take,List.length_drop];omega
theorem QkH {k:Nat} {l:List α} {i:Nat} {x:α} (hi:i<l.length) (h:(mkT f w k l i)[i]? =some x):l[i]? =some x:=by
 unfold mkT at h
 rw [List.getElem?_append_right (by rw [JV,List.length_take];omega),JV,List.length_take,Nat.min_eq_left (by omega),Nat.sub_self,List.getElem?_drop,Nat.add_zero] at h
 exact h
theorem Qjt {k:Nat} {l:List α} {i:Nat} {x y:α} (h:l[i]? =some x) (hy:y=f (YK w k (l.take i)) x):(mkT f w k l i).set i y=mkT f w k l (i+1):=by
 have hi:=(List.getElem?_eq_some_iff.1 h).1
 subst hy
 unfold mkT
 rw [List.set_append_right _ _ (by rw [JV,List.length_take];omega),JV,List.length_take,Nat.min_eq_left (by omega),Nat.sub_self,List.drop_eq_getElem_cons hi,List.set_cons_zero,List.take_add_one,h,Option.toList_some,QgU]
 simp [mkL]
theorem Qiv {k:Nat} {l:List α} {i:Nat} (h:¬i<l.length):mkT f w k l i=mkL f w k l:=by
 unfold mkT
 rw [List.take_of_length_le (by omega),List.drop_of_length_le (by omega),List.append_nil]
theorem Qfw (hw:∀k x,w (f k x)=w x) (hf:∀k x,f k (f k x)=f k x):∀(k:Nat) (l:List α),mkL f w k l=mkL f w k (mkL f w k l)
 | k,[]=>rfl
 | k,x::r=>by simp only [mkL,hw,hf,← Qfw hw hf (k+w x) r]
theorem QfX (hw:∀k x,w (f k x)=w x):∀(k k2:Nat) (l:List α),YK w k (mkL f w k2 l)=YK w k l
 | k,k2,[]=>rfl
 | k,k2,x::r=>by simp only [mkL,YK,hw,QfX hw (k+w x) (k2+w x) r]
theorem Qhj (hw:∀x,1≤w x):∀(k:Nat) (l:List α),k+l.length≤YK w k l
 | k,[]=>Nat.le_refl _
 | k,x::r=>by
  have h1:=Qhj hw (k+w x) r
  have h2:=hw x
  simp only [YK,List.length_cons]
  omega
theorem Qic {z:α→Nat} {c:Nat} (hw:∀x,w x≤c*(1+z x)):∀(k:Nat) (l:List α),YK w k l≤k+c*zL z l
 | k,[]=>Nat.le_add_right _ _
 | k,x::r=>by
  have h1:=Qic hw (k+w x) r
  have h2:=hw x
  have e:zL z (x::r)=(1+z x)+zL z r:=by simp only [zL,JF,List.length_cons];omega
  rw [e,Nat.mul_add]
  simp only [YK]
  omega
end
end Go.Proofs.YthifchndolccgaaGreatDoor.AE
namespace Go.Proofs.YthifchndolccgaaGreatDoor.AE
open Go Go.RowKit
set_option linter.unusedVariables false
set_option linter.unusedSimpArgs false
theorem B.storeW {call:QH} {P:Program} {E:QQ} {O:Qx} {nx:Nat} {d:Option Tmp} {ty tt:TypeId} {ps:String} {af:Array Edge} {g:Option (Nat×Bool)} {x y:Operand} {t:T} {k:Nat} {ts us:List T} (hx:VEv E x (.op k 0)) (hy:VEv E y t) (ht:t≠ .any) (hk:gO O k=some (.cells ts)) (hus:QT t=us) (hl:us.length=ts.length) (hif:(P.info? tt).isSome=true) (hn:P.cellsOf tt=us.length) (hc:∀a∈us,YM a=true) :
  OC call P E O nx ⟨d, .store tt x y,ty,ps,af,g⟩ .any ((k,some (.cells us))::O) nx [k]:=B.storeO hx hy ht hk hus (by omega) hif hn hc (by simp [spl,hl])
end Go.Proofs.YthifchndolccgaaGreatDoor.AE
namespace Go.Proofs.YthifchndolccgaaGreatDoor.AE
open Go Go.RowKit
set_option linter.unusedVariables false
set_option linter.unusedSimpArgs false
section
variable {call : QH} {P : Program} {E : QQ} {O : Qx} {nx : Nat} {S : AX → QQ → Qx → Nat → Prop} {u v : Code} {c : Tmp}
theorem ct (h:gE E c= .bool true) (hx:VRun call P u E O nx S):VRun call P (.cond (.tmp c) u v) E O nx S:=VRun.cond (VEv.tmp h) (fun _=>hx) (fun e=>absurd e (by decide))
theorem cf (h:gE E c= .bool false) (hx:VRun call P v E O nx S):VRun call P (.cond (.tmp c) u v) E O nx S:=VRun.cond (VEv.tmp h) (fun e=>absurd e (by decide)) (fun _=>hx)
theorem ck {b:Bool} (hb:b=true) (h:gE E c= .bool b) (hx:VRun call P u E O nx S):VRun call P (.cond (.tmp c) u v) E O nx S:=ct (hb▸h) hx
theorem cg {b:Bool} (hb:b=false) (h:gE E c= .bool b) (hx:VRun call P v E O nx S):VRun call P (.cond (.tmp c) u v) E O nx S:=cf (hb▸h) hx
theorem vn : VEvs E [] []:= .nil
theorem ln : LendL O [] []:=LendL.nil
theorem Yl : ∀ {ts:List T},ts.all Jf=true→LendL O ts ts
 | [],_=>LendL.nil
 | t::r,h=>by
  simp only [List.all_cons,Bool.and_eq_true] at h
  exact LendL.cons (Lend.pl h.1) (Yl h.2)
def QkJ : List Nat→Bool
 | []=>true
 | a::r=> !(r.contains a) && QkJ r
theorem nd : ∀ {l:List Nat},QkJ l=true→l.Nodup
 | [],_=>List.nodup_nil
 | a::r,h=>by
  simp only [QkJ,Bool.and_eq_true] at h
  exact List.nodup_cons.2 ⟨by simpa using h.1,nd h.2⟩
end
section
variable {call : QH} {P : Program} {E : QQ} {O : Qx} {d : Option Tmp} {ty tt xt : TypeId} {ps : String} {af : Array Edge} {g : Option (Nat × Bool)} {x y : Operand} {kk : IntKind} {a b : Int} {m n : Nat}
theorem xls (hx:VEv E x (.int kk a)) (hy:VEv E y (.int kk b)):OF call P E ⟨d, .binOp .lss tt x y xt,ty,ps,af,g⟩ (.bool (decide (a<b))):=B.lss hx hy rfl
theorem xle (hx:VEv E x (.int kk a)) (hy:VEv E y (.int kk b)):OF call P E ⟨d, .binOp .leq tt x y xt,ty,ps,af,g⟩ (.bool (decide (a≤b))):=B.leq hx hy rfl
theorem xgt (hx:VEv E x (.int kk a)) (hy:VEv E y (.int kk b)):OF call P E ⟨d, .binOp .gtr tt x y xt,ty,ps,af,g⟩ (.bool (decide (b<a))):=B.gtr hx hy rfl
theorem xge (hx:VEv E x (.int kk a)) (hy:VEv E y (.int kk b)):OF call P E ⟨d, .binOp .geq tt x y xt,ty,ps,af,g⟩ (.bool (decide (b≤a))):=B.geq hx hy rfl
theorem YR (hx:VEv E x (.int kk a)) (hy:VEv E y (.int kk b)):OF call P E ⟨d, .binOp .eql tt x y xt,ty,ps,af,g⟩ (.bool (decide (a=b))):=B.eql hx hy rfl
theorem xne (hx:VEv E x (.int kk a)) (hy:VEv E y (.int kk b)):OF call P E ⟨d, .binOp .neq tt x y xt,ty,ps,af,g⟩ (.bool (!decide (a=b))):=B.neq hx hy rfl
theorem Zt (hx:VEv E x (tN m)) (hy:VEv E y (tN n)):OF call P E ⟨d, .binOp .lss tt x y xt,ty,ps,af,g⟩ (.bool (decide (m<n))):=B.lss hx hy (Q8 (by omega))
theorem QjA (hx:VEv E x (tN m)) (hy:VEv E y (tN n)):OF call P E ⟨d, .binOp .eql tt x y xt,ty,ps,af,g⟩ (.bool (decide (m=n))):=B.eql hx hy (Q8 (by omega))
theorem QhC (hx:VEv E x (tN m)) (hy:VEv E y (tN n)):OF call P E ⟨d, .binOp .neq tt x y xt,ty,ps,af,g⟩ (.bool (!decide (m=n))):=B.neq hx hy (congrArg (!·) (Q8 (by omega)))
theorem Q1 {b1:Bool} (hx:VEv E x (.bool b1)):OF call P E ⟨d, .unOp .not tt x,ty,ps,af,g⟩ (.bool (!b1)):=B.not hx rfl
theorem QF (hx:VEv E x (tN m)) (hy:VEv E y (.int .i64 1)) (h:m+1<9223372036854775808):OF call P E ⟨d, .binOp .add tt x y xt,ty,ps,af,g⟩ (tN (m+1)):=B.add hx hy (by rw [Qy (by omega)];omega)
theorem xix {s:ByteArray} (hx:VEv E x (.str s)) (hy:VEv E y (tN m)) (hi:m<s.size) (hu:P.underlying tt=some .string):OF call P E ⟨d, .index tt x y,ty,ps,af,g⟩ (.int .u8 (QB s m)):=B.index hx hy rfl hi hu (YP hi)
end
section
variable {call : QH} {P : Program} {ops : Array Oper} {l : List Oper} {E : QQ} {O : Qx} {nx : Nat} {K : QQ → Qx → Nat → Prop} {d1 a : Nat} {d2 : Option Tmp} {ty1 ty2 tt tt2 : TypeId} {ps1 ps2 : String} {af1 af2 : Array Edge} {j k o off : Nat} {us : List T}
theorem QcY (E:QQ) (n:Nat) (t:T):gE ((n,t)::E) n=t:=by simp [gE]
theorem lf (t:T) (h:gE E a= .op k o) (fa:∀k o,Qh P tt (.pointer (some ⟨k,o,none⟩)) j=some (.pointer (some ⟨k,o+off,none⟩))) (hk:gO O k=some (.cells us)) (ht:us[o+off]? =some t) (hst:Qv P tt2=some false) (hK:VRunO call P ops l (pE ((d1, .op k (o+off))::E) d2 t) O nx K) :
  VRunO call P ops (⟨some d1, .fieldAddr tt (.tmp a) j,ty1,ps1,af1,none⟩::⟨d2, .load tt2 (.tmp d1),ty2,ps2,af2,none⟩::l) E O nx K:=fO (OF.fieldAddrO (VEv.tmp h) fa) (lO (OL.loadO1 (VEv.tmp (QcY _ _ _)) hk ht hst) hK)
theorem lr (t:T) (h:gE E a= .rp us) (hn:off≤us.length) (fa:∀k o,Qh P tt (.pointer (some ⟨k,o,none⟩)) j=some (.pointer (some ⟨k,o+off,none⟩))) (ht:(us.drop off)[0]? =some t) (hst:Qv P tt2=some false) (hK:VRunO call P ops l (pE ((d1, .rp (us.drop off))::E) d2 t) O nx K) :
  VRunO call P ops (⟨some d1, .fieldAddr tt (.tmp a) j,ty1,ps1,af1,none⟩::⟨d2, .load tt2 (.tmp d1),ty2,ps2,af2,none⟩::l) E O nx K:=fO (B.fieldAddrR (VEv.tmp h) hn fa rfl) (lO (OL.loadR1 (VEv.tmp (QcY _ _ _)) ht hst) hK)
variable {i q : Nat} {w b : Bool} {t0 : T}
theorem Yn (t:T) (hb:b=w) (hd:(ops[i]?).bind (·.dst)=some q) (hq:gE E q= .bool b) (hne:(q == d1)=false) (h:gE E a= .op k o) (fa:∀k o,Qh P tt (.pointer (some ⟨k,o,none⟩)) j=some (.pointer (some ⟨k,o+off,none⟩))) (hk:gO O k=some (.cells us)) (ht:us[o+off]? =some t) (hst:Qv P tt2=some false) (hK:VRunO call P ops l (pE ((d1, .op k (o+off))::E) d2 t) O nx K) :
  VRunO call P ops (⟨some d1, .fieldAddr tt (.tmp a) j,ty1,ps1,af1,some (i,w)⟩::⟨d2, .load tt2 (.tmp d1),ty2,ps2,af2,some (i,w)⟩::l) E O nx K:=gF hb hd hq (OF.fieldAddrO (VEv.tmp h) fa) (gL hb hd ((Qgw E hne _).trans hq) (OL.loadO1 (VEv.tmp (QcY _ _ _)) hk ht hst) hK)
theorem glr (t:T) (hb:b=w) (hd:(ops[i]?).bind (·.dst)=some q) (hq:gE E q= .bool b) (hne:(q == d1)=false) (h:gE E a= .rp us) (hn:off≤us.length) (fa:∀k o,Qh P tt (.pointer (some ⟨k,o,none⟩)) j=some (.pointer (some ⟨k,o+off,none⟩))) (ht:(us.drop off)[0]? =some t) (hst:Qv P tt2=some false) (hK:VRunO call P ops l (pE ((d1, .rp (us.drop off))::E) d2 t) O nx K) :
  VRunO call P ops (⟨some d1, .fieldAddr tt (.tmp a) j,ty1,ps1,af1,some (i,w)⟩::⟨d2, .load tt2 (.tmp d1),ty2,ps2,af2,some (i,w)⟩::l) E O nx K:=gF hb hd hq (B.fieldAddrR (VEv.tmp h) hn fa rfl) (gL hb hd ((Qgw E hne _).trans hq) (OL.loadR1 (VEv.tmp (QcY _ _ _)) ht hst) hK)
def QiF (i:Nat) (w:Bool) (q:Nat):List Oper→Bool
 | []=>true
 | o::r=>(match o.guard with | some (a,b)=>Nat.beq a i && (b == w) | none=>false) && (match o.dst with | some d=> !(Nat.beq d q) | none=>true) && QiF i w q r
def Qjr (E:QQ):List Oper→QQ
 | []=>E
 | o::r=>Qjr (pE E o.dst (.tup [])) r
theorem Qlk (hd:(ops[i]?).bind (·.dst)=some q) (hv:∀(dd:Option Tmp) (op:Op) (ty:TypeId) (ps:String) (af:Array Edge) (E:QQ),gE E q=t0→VWant ops E ⟨dd,op,ty,ps,af,some (i,w)⟩ false) {l2:List Oper} (l1:List Oper):∀(E:QQ),QiF i w q l1=true→gE E q=t0→VRunO call P ops l2 (Qjr E l1) O nx K→VRunO call P ops (l1++l2) E O nx K:=by
 induction l1 with
 | nil=>exact fun E _ _ hK=>hK
 | cons o r ih =>
  intro E hc hq hK
  obtain ⟨dd,op,ty,ps,af,g⟩:=o
  simp only [QiF,Bool.and_eq_true] at hc
  obtain ⟨⟨h1,h2⟩,h3⟩:=hc
  cases g with
  | none=>cases h1
  | some g =>
   obtain ⟨a,b⟩:=g
   simp only [Bool.and_eq_true] at h1
   have e1:a=i:=Nat.eq_of_beq_eq_true h1.1
   have e2:b=w:=by simpa using h1.2
   subst e1
   subst e2
   refine VRunO.off (hv _ _ _ _ _ _ hq) (ih _ h3 ?_ hK)
   cases dd with
   | none=>exact hq
   | some d =>
    refine (Qgw E (d:=d) (t:=q) ?_ _).trans hq
    rw [beq_eq_false_iff_ne]
    rintro rfl
    simp at h2
theorem QC (m i:Nat) (w:Bool) (q:Nat) (hb:b= !w) (hd:(ops[i]?).bind (·.dst)=some q) (hq:gE E q= .bool b) (hc:QiF i w q (l.take m)=true) (hK:VRunO call P ops (l.drop m) (Qjr E (l.take m)) O nx K):VRunO call P ops l E O nx K:=by
 rw [← List.take_append_drop m l]
 exact Qlk hd (fun _ _ _ _ _ _ h=>VWant.not hd h hb) _ _ hc hq hK
theorem JA (m i:Nat) (w:Bool) (q:Nat) (hd:(ops[i]?).bind (·.dst)=some q) (hq:gE E q= .tup []) (hc:QiF i w q (l.take m)=true) (hK:VRunO call P ops (l.drop m) (Qjr E (l.take m)) O nx K):VRunO call P ops l E O nx K:=by
 rw [← List.take_append_drop m l]
 exact Qlk hd (fun _ _ _ _ _ _ h=>VWant.undef hd h) _ _ hc hq hK
end
end Go.Proofs.YthifchndolccgaaGreatDoor.AE
namespace Go.Proofs.YthifchndolccgaaGreatDoor.AE
open Go Go.RowKit
set_option linter.unusedVariables false
set_option linter.unusedSimpArgs false
structure D.Grid where
 Rows:Int
 Cols:Int
 Cells:ByteArray
def Qh4 : AK D.Grid:=AK.iso (AK.pair (AK.int .i64) (AK.pair (AK.int .i64) AK.string)) (fun x=>(x.Rows,x.Cols,x.Cells))
def Qio (x:D.Grid):Prop:=((Lit.int .i64 x.Rows).wf=true)∧((Lit.int .i64 x.Cols).wf=true)∧(x.Cells.size≤maxLen)
structure D.Step where
 Kind:Int
 Word:ByteArray
 A:Int
 B:Int
def Qh5 : AK D.Step:=AK.iso (AK.pair (AK.int .i64) (AK.pair AK.string (AK.pair (AK.int .i64) (AK.int .i64)))) (fun x=>(x.Kind,x.Word,x.A,x.B))
def Qhf (x:D.Step):Prop:=((Lit.int .i64 x.Kind).wf=true)∧(x.Word.size≤maxLen)∧((Lit.int .i64 x.A).wf=true)∧((Lit.int .i64 x.B).wf=true)
structure D.Clue where
 Sense:Int
 Play:_root_.List D.Step
def Qjc : AK D.Clue:=AK.iso (AK.pair (AK.int .i64) (AK.slice Qh5)) (fun x=>(x.Sense,x.Play))
def Qg5 (x:D.Clue):Prop:=((Lit.int .i64 x.Sense).wf=true)∧((x.Play.length≤maxLen∧∀y∈x.Play,Qhf y))
structure D.Puzzle where
 Grid:D.Grid
 Clues:_root_.List D.Clue
 Seals:_root_.List Int
 Salt:Int
def QgQ : AK D.Puzzle:=AK.iso (AK.pair Qh4 (AK.pair (AK.slice Qjc) (AK.pair (AK.slice (AK.int .i64)) (AK.int .i64)))) (fun x=>(x.Grid,x.Clues,x.Seals,x.Salt))
def QeH (x:D.Puzzle):Prop:=(Qio x.Grid)∧((x.Clues.length≤maxLen∧∀y∈x.Clues,Qg5 y))∧((x.Seals.length≤maxLen∧∀y∈x.Seals,(Lit.int .i64 y).wf=true))∧((Lit.int .i64 x.Salt).wf=true)
structure D.Session where
 Fill:ByteArray
 Checks:Int
 Spent:Int
 Asked:_root_.List Int
 Start:Int
 Now:Int
structure D.Slot where
 Number:Int
 Down:Bool
 Cell:Int
 Length:Int
theorem QlV : Yw Tryz.prog 23 Qh4 Qio:=Ji (YJ (P:=Tryz.prog) (t:=23) (fun x:D.Grid=>(x.Rows,x.Cols,x.Cells)) (fun x=>⟨x.1,x.2.1,x.2.2⟩) (fun _=>rfl) Tryz.underlying23 (by kernel_rfl) (Zn rfl (by kernel_rfl) (ZL (k:= .i64) Tryz.underlying3) (Zn rfl (by kernel_rfl) (ZL (k:= .i64) Tryz.underlying3) (Jh rfl (by kernel_rfl) (QaX Tryz.underlying9))))) (fun _ h=>h)
theorem Qll : Yw Tryz.prog 110 Qh5 Qhf:=Ji (YJ (P:=Tryz.prog) (t:=110) (fun x:D.Step=>(x.Kind,x.Word,x.A,x.B)) (fun x=>⟨x.1,x.2.1,x.2.2.1,x.2.2.2⟩) (fun _=>rfl) Tryz.underlying110 (by kernel_rfl) (Zn rfl (by kernel_rfl) (ZL (k:= .i64) Tryz.underlying3) (Zn rfl (by kernel_rfl) (QaX Tryz.underlying9) (Zn rfl (by kernel_rfl) (ZL (k:= .i64) Tryz.underlying3) (Jh rfl (by kernel_rfl) (ZL (k:= .i64) Tryz.underlying3)))))) (fun _ h=>h)
theorem QlR : Yw Tryz.prog 79 Qjc Qg5:=Ji (YJ (P:=Tryz.prog) (t:=79) (fun x:D.Clue=>(x.Sense,x.Play)) (fun x=>⟨x.1,x.2⟩) (fun _=>rfl) Tryz.underlying79 (by kernel_rfl) (Zn rfl (by kernel_rfl) (ZL (k:= .i64) Tryz.underlying3) (Jh rfl (by kernel_rfl) (JU Tryz.underlying77 (by kernel_rfl) (of_decide_eq_true (by kernel_rfl)) Qll)))) (fun _ h=>h)
theorem QlS : Yw Tryz.prog 27 QgQ QeH:=Ji (YJ (P:=Tryz.prog) (t:=27) (fun x:D.Puzzle=>(x.Grid,x.Clues,x.Seals,x.Salt)) (fun x=>⟨x.1,x.2.1,x.2.2.1,x.2.2.2⟩) (fun _=>rfl) Tryz.underlying27 (by kernel_rfl) (Zn rfl (by kernel_rfl) QlV (Zn rfl (by kernel_rfl) (JU Tryz.underlying24 (by kernel_rfl) (of_decide_eq_true (by kernel_rfl)) QlR) (Zn rfl (by kernel_rfl) (JU Tryz.underlying25 (by kernel_rfl) (of_decide_eq_true (by kernel_rfl)) (ZL (k:= .i64) Tryz.underlying3)) (Jh rfl (by kernel_rfl) (ZL (k:= .i64) Tryz.underlying3)))))) (fun _ h=>h)
theorem sz2 : Tryz.prog.cellsOf 2=1:=by kernel_rfl
theorem Q0 : Qv Tryz.prog 3=some false:=by kernel_rfl
theorem Z8 : Tryz.prog.cellsOf 3=1:=by kernel_rfl
theorem Jp : (Tryz.prog.info? 3).isSome=true:=by kernel_rfl
theorem zo3 : Q2 Tryz.prog 3=some (.int .i64 0):=by kernel_rfl
theorem zc3 : closedV (.int .i64 0)=true:=by kernel_rfl
theorem st4 : Qv Tryz.prog 4=some false:=by kernel_rfl
theorem sz4 : Tryz.prog.cellsOf 4=1:=by kernel_rfl
theorem if4 : (Tryz.prog.info? 4).isSome=true:=by kernel_rfl
theorem zo4 : Q2 Tryz.prog 4=some (.bool false):=by kernel_rfl
theorem zc4 : closedV (.bool false)=true:=by kernel_rfl
theorem st5 : Qv Tryz.prog 5=some false:=by kernel_rfl
theorem sz5 : Tryz.prog.cellsOf 5=1:=by kernel_rfl
theorem if5 : (Tryz.prog.info? 5).isSome=true:=by kernel_rfl
theorem zo5 : Q2 Tryz.prog 5=some (.int .u8 0):=by kernel_rfl
theorem Z3 : Qv Tryz.prog 9=some false:=by kernel_rfl
theorem sz9 : Tryz.prog.cellsOf 9=1:=by kernel_rfl
theorem if9 : (Tryz.prog.info? 9).isSome=true:=by kernel_rfl
theorem Qlh : Qv Tryz.prog 23=some true:=by kernel_rfl
theorem QkC : Tryz.prog.cellsOf 23=3:=by kernel_rfl
theorem QlX : (Tryz.prog.info? 23).isSome=true:=by kernel_rfl
theorem Qlt : Qv Tryz.prog 24=some false:=by kernel_rfl
theorem QlT : Tryz.prog.cellsOf 24=1:=by kernel_rfl
theorem QlQ : (Tryz.prog.info? 24).isSome=true:=by kernel_rfl
theorem QbM : Qv Tryz.prog 25=some false:=by kernel_rfl
theorem Qd8 : Tryz.prog.cellsOf 25=1:=by kernel_rfl
theorem Qge : (Tryz.prog.info? 25).isSome=true:=by kernel_rfl
theorem Qls : Q2 Tryz.prog 25=some (.slice none 0 0):=by kernel_rfl
theorem Qii : Qv Tryz.prog 27=some true:=by kernel_rfl
theorem Qif : Tryz.prog.cellsOf 27=6:=by kernel_rfl
theorem Qb6 : Qv Tryz.prog 30=some true:=by kernel_rfl
theorem JL : Tryz.prog.cellsOf 30=6:=by kernel_rfl
theorem Qgn : (Tryz.prog.info? 30).isSome=true:=by kernel_rfl
theorem QeG : Q2 Tryz.prog 30=some (.agg #[.string ByteArray.empty, .int .i64 0, .int .i64 0, .slice none 0 0, .int .i64 0, .int .i64 0]):=by kernel_rfl
theorem QiC : closedV (.agg #[.string ByteArray.empty, .int .i64 0, .int .i64 0, .slice none 0 0, .int .i64 0, .int .i64 0])=true:=by kernel_rfl
theorem QY : Qv Tryz.prog 33=some true:=by kernel_rfl
theorem QR : Tryz.prog.cellsOf 33=3:=by kernel_rfl
theorem Qgm : (Tryz.prog.info? 33).isSome=true:=by kernel_rfl
theorem Qhx : Q2 Tryz.prog 33=some (.agg #[.int .i64 0, .int .i64 0, .string ByteArray.empty]):=by kernel_rfl
theorem Qjq : closedV (.agg #[.int .i64 0, .int .i64 0, .string ByteArray.empty])=true:=by kernel_rfl
theorem QfF : Qv Tryz.prog 34=some false:=by kernel_rfl
theorem Qln : Tryz.prog.cellsOf 34=1:=by kernel_rfl
theorem QlC : (Tryz.prog.info? 34).isSome=true:=by kernel_rfl
theorem Qga : Qv Tryz.prog 36=some true:=by kernel_rfl
theorem QeL : Tryz.prog.cellsOf 36=6:=by kernel_rfl
theorem Qlw : (Tryz.prog.info? 36).isSome=true:=by kernel_rfl
theorem Qkn : Q2 Tryz.prog 36=some (.agg #[.int .i64 0, .int .i64 0, .string ByteArray.empty, .slice none 0 0, .slice none 0 0, .int .i64 0]):=by kernel_rfl
theorem QkE : closedV (.agg #[.int .i64 0, .int .i64 0, .string ByteArray.empty, .slice none 0 0, .slice none 0 0, .int .i64 0])=true:=by kernel_rfl
theorem Qih : Qv Tryz.prog 72=some false:=by kernel_rfl
theorem Qld : Tryz.prog.cellsOf 72=1:=by kernel_rfl
theorem Qlp : (Tryz.prog.info? 72).isSome=true:=by kernel_rfl
theorem Qgz : Qv Tryz.prog 74=some true:=by kernel_rfl
theorem J7 : Tryz.prog.cellsOf 74=2:=by kernel_rfl
theorem Qfa : (Tryz.prog.info? 74).isSome=true:=by kernel_rfl
theorem Qkj : Q2 Tryz.prog 74=some (.agg #[.int .i64 0, .slice none 0 0]):=by kernel_rfl
theorem Qkq : closedV (.agg #[.int .i64 0, .slice none 0 0])=true:=by kernel_rfl
theorem QlA : Qv Tryz.prog 77=some false:=by kernel_rfl
theorem QlP : Tryz.prog.cellsOf 77=1:=by kernel_rfl
theorem QlO : (Tryz.prog.info? 77).isSome=true:=by kernel_rfl
theorem QlB : Qv Tryz.prog 79=some true:=by kernel_rfl
theorem QjF : Tryz.prog.cellsOf 79=2:=by kernel_rfl
theorem Qlm : (Tryz.prog.info? 79).isSome=true:=by kernel_rfl
theorem QfT : Qv Tryz.prog 97=some true:=by kernel_rfl
theorem ZM : Tryz.prog.cellsOf 97=4:=by kernel_rfl
theorem Qc8 : (Tryz.prog.info? 97).isSome=true:=by kernel_rfl
theorem Jg : Q2 Tryz.prog 97=some (.agg #[.int .i64 0, .bool false, .int .i64 0, .int .i64 0]):=by kernel_rfl
theorem Qky : closedV (.agg #[.int .i64 0, .bool false, .int .i64 0, .int .i64 0])=true:=by kernel_rfl
theorem Qee : Qv Tryz.prog 105=some true:=by kernel_rfl
theorem ZZ : Tryz.prog.cellsOf 105=4:=by kernel_rfl
theorem Y8 : (Tryz.prog.info? 105).isSome=true:=by kernel_rfl
theorem QfO : Q2 Tryz.prog 105=some (.agg #[.int .i64 0, .string ByteArray.empty, .int .i64 0, .int .i64 0]):=by kernel_rfl
theorem Qfp : closedV (.agg #[.int .i64 0, .string ByteArray.empty, .int .i64 0, .int .i64 0])=true:=by kernel_rfl
theorem QjW : Qv Tryz.prog 110=some true:=by kernel_rfl
theorem QgI : Tryz.prog.cellsOf 110=4:=by kernel_rfl
theorem QjX : (Tryz.prog.info? 110).isSome=true:=by kernel_rfl
theorem Qi7 : Qv Tryz.prog 142=some false:=by kernel_rfl
theorem Qlz : Tryz.prog.cellsOf 142=1:=by kernel_rfl
theorem Qlg : (Tryz.prog.info? 142).isSome=true:=by kernel_rfl
theorem Qly : Q2 Tryz.prog 142=some (.slice none 0 0):=by kernel_rfl
theorem Qle : closedV (.slice none 0 0)=true:=by kernel_rfl
theorem QfA : Qv Tryz.prog 146=some false:=by kernel_rfl
theorem Qlc : Tryz.prog.cellsOf 146=1:=by kernel_rfl
theorem Qlq : (Tryz.prog.info? 146).isSome=true:=by kernel_rfl
theorem Qke (k o:Nat):Qh Tryz.prog 23 (.pointer (some ⟨k,o,none⟩)) 0=some (.pointer (some ⟨k,o+0,none⟩)):=by simp [Qh,Tryz.underlying23,Jp,Z8]
theorem Qkf (k o:Nat):Qh Tryz.prog 23 (.pointer (some ⟨k,o,none⟩)) 1=some (.pointer (some ⟨k,o+1,none⟩)):=by simp [Qh,Tryz.underlying23,Jp,Z8]
theorem Qij (k o:Nat):Qh Tryz.prog 23 (.pointer (some ⟨k,o,none⟩)) 2=some (.pointer (some ⟨k,o+2,none⟩)):=by simp [Qh,Tryz.underlying23,if9,sz9]
theorem Qiz (k o:Nat):Qh Tryz.prog 27 (.pointer (some ⟨k,o,none⟩)) 0=some (.pointer (some ⟨k,o+0,none⟩)):=by simp [Qh,Tryz.underlying27,QlX,QkC]
theorem Qh6 (k o:Nat):Qh Tryz.prog 27 (.pointer (some ⟨k,o,none⟩)) 1=some (.pointer (some ⟨k,o+3,none⟩)):=by simp [Qh,Tryz.underlying27,QlQ,QlT]
theorem QiJ (k o:Nat):Qh Tryz.prog 27 (.pointer (some ⟨k,o,none⟩)) 2=some (.pointer (some ⟨k,o+4,none⟩)):=by simp [Qh,Tryz.underlying27,Qge,Qd8]
theorem QkA (k o:Nat):Qh Tryz.prog 27 (.pointer (some ⟨k,o,none⟩)) 3=some (.pointer (some ⟨k,o+5,none⟩)):=by simp [Qh,Tryz.underlying27,Jp,Z8]
theorem Qjh (k o:Nat):Qh Tryz.prog 30 (.pointer (some ⟨k,o,none⟩)) 0=some (.pointer (some ⟨k,o+0,none⟩)):=by simp [Qh,Tryz.underlying30,if9,sz9]
theorem QiW (k o:Nat):Qh Tryz.prog 30 (.pointer (some ⟨k,o,none⟩)) 1=some (.pointer (some ⟨k,o+1,none⟩)):=by simp [Qh,Tryz.underlying30,Jp,Z8]
theorem Qi1 (k o:Nat):Qh Tryz.prog 30 (.pointer (some ⟨k,o,none⟩)) 2=some (.pointer (some ⟨k,o+2,none⟩)):=by simp [Qh,Tryz.underlying30,Jp,Z8]
theorem Qex (k o:Nat):Qh Tryz.prog 30 (.pointer (some ⟨k,o,none⟩)) 3=some (.pointer (some ⟨k,o+3,none⟩)):=by simp [Qh,Tryz.underlying30,Qge,Qd8]
theorem Qjf (k o:Nat):Qh Tryz.prog 30 (.pointer (some ⟨k,o,none⟩)) 4=some (.pointer (some ⟨k,o+4,none⟩)):=by simp [Qh,Tryz.underlying30,Jp,Z8]
theorem QiG (k o:Nat):Qh Tryz.prog 30 (.pointer (some ⟨k,o,none⟩)) 5=some (.pointer (some ⟨k,o+5,none⟩)):=by simp [Qh,Tryz.underlying30,Jp,Z8]
theorem JD (k o:Nat):Qh Tryz.prog 33 (.pointer (some ⟨k,o,none⟩)) 0=some (.pointer (some ⟨k,o+0,none⟩)):=by simp [Qh,Tryz.underlying33,Jp,Z8]
theorem Q7 (k o:Nat):Qh Tryz.prog 33 (.pointer (some ⟨k,o,none⟩)) 1=some (.pointer (some ⟨k,o+1,none⟩)):=by simp [Qh,Tryz.underlying33,Jp,Z8]
theorem QD (k o:Nat):Qh Tryz.prog 33 (.pointer (some ⟨k,o,none⟩)) 2=some (.pointer (some ⟨k,o+2,none⟩)):=by simp [Qh,Tryz.underlying33,if9,sz9]
theorem JP (k o:Nat):Qh Tryz.prog 36 (.pointer (some ⟨k,o,none⟩)) 0=some (.pointer (some ⟨k,o+0,none⟩)):=by simp [Qh,Tryz.underlying36,Qgm,QR]
theorem JX (k o:Nat):Qh Tryz.prog 36 (.pointer (some ⟨k,o,none⟩)) 1=some (.pointer (some ⟨k,o+3,none⟩)):=by simp [Qh,Tryz.underlying36,QlC,Qln]
theorem Qb3 (k o:Nat):Qh Tryz.prog 36 (.pointer (some ⟨k,o,none⟩)) 2=some (.pointer (some ⟨k,o+4,none⟩)):=by simp [Qh,Tryz.underlying36,Qge,Qd8]
theorem Qde (k o:Nat):Qh Tryz.prog 36 (.pointer (some ⟨k,o,none⟩)) 3=some (.pointer (some ⟨k,o+5,none⟩)):=by simp [Qh,Tryz.underlying36,Jp,Z8]
theorem QbR (k o:Nat):Qh Tryz.prog 74 (.pointer (some ⟨k,o,none⟩)) 0=some (.pointer (some ⟨k,o+0,none⟩)):=by simp [Qh,Tryz.underlying74,Jp,Z8]
theorem Qb7 (k o:Nat):Qh Tryz.prog 74 (.pointer (some ⟨k,o,none⟩)) 1=some (.pointer (some ⟨k,o+1,none⟩)):=by simp [Qh,Tryz.underlying74,Qlp,Qld]
theorem QkX (k o:Nat):Qh Tryz.prog 79 (.pointer (some ⟨k,o,none⟩)) 0=some (.pointer (some ⟨k,o+0,none⟩)):=by simp [Qh,Tryz.underlying79,Jp,Z8]
theorem Qh0 (k o:Nat):Qh Tryz.prog 79 (.pointer (some ⟨k,o,none⟩)) 1=some (.pointer (some ⟨k,o+1,none⟩)):=by simp [Qh,Tryz.underlying79,QlO,QlP]
theorem QiN (k o:Nat):Qh Tryz.prog 97 (.pointer (some ⟨k,o,none⟩)) 1=some (.pointer (some ⟨k,o+1,none⟩)):=by simp [Qh,Tryz.underlying97,if4,sz4]
theorem QeN (k o:Nat):Qh Tryz.prog 97 (.pointer (some ⟨k,o,none⟩)) 2=some (.pointer (some ⟨k,o+2,none⟩)):=by simp [Qh,Tryz.underlying97,Jp,Z8]
theorem Qba (k o:Nat):Qh Tryz.prog 97 (.pointer (some ⟨k,o,none⟩)) 3=some (.pointer (some ⟨k,o+3,none⟩)):=by simp [Qh,Tryz.underlying97,Jp,Z8]
theorem QZ (k o:Nat):Qh Tryz.prog 105 (.pointer (some ⟨k,o,none⟩)) 0=some (.pointer (some ⟨k,o+0,none⟩)):=by simp [Qh,Tryz.underlying105,Jp,Z8]
theorem Jr (k o:Nat):Qh Tryz.prog 105 (.pointer (some ⟨k,o,none⟩)) 1=some (.pointer (some ⟨k,o+1,none⟩)):=by simp [Qh,Tryz.underlying105,if9,sz9]
theorem Ye (k o:Nat):Qh Tryz.prog 105 (.pointer (some ⟨k,o,none⟩)) 2=some (.pointer (some ⟨k,o+2,none⟩)):=by simp [Qh,Tryz.underlying105,Jp,Z8]
theorem ZS (k o:Nat):Qh Tryz.prog 105 (.pointer (some ⟨k,o,none⟩)) 3=some (.pointer (some ⟨k,o+3,none⟩)):=by simp [Qh,Tryz.underlying105,Jp,Z8]
theorem QjO (k o:Nat):Qh Tryz.prog 110 (.pointer (some ⟨k,o,none⟩)) 0=some (.pointer (some ⟨k,o+0,none⟩)):=by simp [Qh,Tryz.underlying110,Jp,Z8]
theorem Qhe (k o:Nat):Qh Tryz.prog 110 (.pointer (some ⟨k,o,none⟩)) 1=some (.pointer (some ⟨k,o+1,none⟩)):=by simp [Qh,Tryz.underlying110,if9,sz9]
theorem QjL (k o:Nat):Qh Tryz.prog 110 (.pointer (some ⟨k,o,none⟩)) 2=some (.pointer (some ⟨k,o+2,none⟩)):=by simp [Qh,Tryz.underlying110,Jp,Z8]
theorem Qjy (k o:Nat):Qh Tryz.prog 110 (.pointer (some ⟨k,o,none⟩)) 3=some (.pointer (some ⟨k,o+3,none⟩)):=by simp [Qh,Tryz.underlying110,Jp,Z8]
theorem QlY (a b:D.Grid):∃q,eqv Tryz.prog 20 33 (.agg #[Value.int .i64 a.Rows,Value.int .i64 a.Cols,Value.string a.Cells]) (.agg #[Value.int .i64 b.Rows,Value.int .i64 b.Cols,Value.string b.Cells])=some q∧(q=true↔a=b):=by
 refine ⟨_,QdA 19 Tryz.underlying33 rfl (by kernel_rfl) (eqf_cons rfl (Zh Q0 rfl) (Zh Q0 rfl) (Qbv 18 Tryz.underlying3) (eqf_cons rfl (Zh Q0 rfl) (Zh Q0 rfl) (Qbv 18 Tryz.underlying3) (eqf_cons rfl (Zh Z3 rfl) (Zh Z3 rfl) (QjN 18 Tryz.underlying9) Qhn))),?_⟩
 obtain ⟨a0,a1,a2⟩:=a
 obtain ⟨b0,b1,b2⟩:=b
 simp
theorem Qli (a b:D.Grid) (xo yo:Operand):∃q,ZK Tryz.prog .eql 33 xo yo (.agg #[Value.int .i64 a.Rows,Value.int .i64 a.Cols,Value.string a.Cells]) (.agg #[Value.int .i64 b.Rows,Value.int .i64 b.Cols,Value.string b.Cells])=some (.bool q)∧(q=true↔a=b):=by
 obtain ⟨q,h1,h2⟩:=QlY a b
 exact ⟨q,QiX (by simp [closedV,closed1]) (by simp [closedV,closed1]) (by kernel_rfl) h1,h2⟩
theorem QlJ (a b:D.Slot):∃q,eqv Tryz.prog 20 97 (.agg #[Value.int .i64 a.Number,Value.bool a.Down,Value.int .i64 a.Cell,Value.int .i64 a.Length]) (.agg #[Value.int .i64 b.Number,Value.bool b.Down,Value.int .i64 b.Cell,Value.int .i64 b.Length])=some q∧(q=true↔a=b):=by
 refine ⟨_,QdA 19 Tryz.underlying97 rfl (by kernel_rfl) (eqf_cons rfl (Zh Q0 rfl) (Zh Q0 rfl) (Qbv 18 Tryz.underlying3) (eqf_cons rfl (Zh st4 rfl) (Zh st4 rfl) (Qjd 18 Tryz.underlying4) (eqf_cons rfl (Zh Q0 rfl) (Zh Q0 rfl) (Qbv 18 Tryz.underlying3) (eqf_cons rfl (Zh Q0 rfl) (Zh Q0 rfl) (Qbv 18 Tryz.underlying3) Qhn)))),?_⟩
 obtain ⟨a0,a1,a2,a3⟩:=a
 obtain ⟨b0,b1,b2,b3⟩:=b
 simp
theorem Qlb (a b:D.Slot) (xo yo:Operand):∃q,ZK Tryz.prog .neq 97 xo yo (.agg #[Value.int .i64 a.Number,Value.bool a.Down,Value.int .i64 a.Cell,Value.int .i64 a.Length]) (.agg #[Value.int .i64 b.Number,Value.bool b.Down,Value.int .i64 b.Cell,Value.int .i64 b.Length])=some (.bool (!q))∧(q=true↔a=b):=by
 obtain ⟨q,h1,h2⟩:=QlJ a b
 exact ⟨q,QiA (by simp [closedV,closed1]) (by simp [closedV,closed1]) (by kernel_rfl) h1,h2⟩
theorem follows : Tryz.prog.follows .mixedOrders=true:=by kernel_rfl
theorem Qhq : Plain Tryz.prog:=by
 unfold Plain
 kernel_rfl
end Go.Proofs.YthifchndolccgaaGreatDoor.AE
namespace Go.Proofs.YthifchndolccgaaGreatDoor.AE
open Go Go.RowKit
set_option linter.unusedVariables false
set_option linter.unusedSimpArgs false
noncomputable instance : DecidableEq D.Grid:=Classical.typeDecidableEq _
def Qa (m:Bool) (x:D.Grid):List T:= [.int .i64 x.Rows, .int .i64 x.Cols, .str x.Cells]
theorem Qt : EncOk Qa 3:=⟨fun _ _=>rfl,fun x=>Qq (.int _ _) (Qq (.int _ _) (Qq (.str _) (Zl))),fun m x=>by simp only [Qa,fzL,AE.fz],fun m x=>Qq rfl (Qq rfl (Qq rfl (Zl))),fun x=>Qq rfl (Qq rfl (Qq rfl (Zl)))⟩
def Zv (x:D.Grid):Nat:=ByteArray.size x.Cells
theorem Qkz : RK Qh4 Qa:=Qg9 (JR Qbw (JR Qbw Qj6)) (fun _=>rfl)
theorem QiT (m:Bool) (x:D.Grid):SvL (Qa m x) [Value.int .i64 x.Rows,Value.int .i64 x.Cols,Value.string x.Cells]:= .cons (.int _ _) (.cons (.int _ _) (.cons (.str _) (.nil)))
noncomputable instance : DecidableEq D.Step:=Classical.typeDecidableEq _
def Qj (m:Bool) (x:D.Step):List T:= [.int .i64 x.Kind, .str x.Word, .int .i64 x.A, .int .i64 x.B]
theorem okeStep : EncOk Qj 4:=⟨fun _ _=>rfl,fun x=>Qq (.int _ _) (Qq (.str _) (Qq (.int _ _) (Qq (.int _ _) (Zl)))),fun m x=>by simp only [Qj,fzL,AE.fz],fun m x=>Qq rfl (Qq rfl (Qq rfl (Qq rfl (Zl)))),fun x=>Qq rfl (Qq rfl (Qq rfl (Qq rfl (Zl))))⟩
def Zg (x:D.Step):Nat:=ByteArray.size x.Word
theorem Qds : Qhk Qj:=fun _ _=>rfl
theorem QkS : RK Qh5 Qj:=Qg9 (JR Qbw (JR Qj6 (JR Qbw Qbw))) (fun _=>rfl)
noncomputable instance : DecidableEq D.Clue:=Classical.typeDecidableEq _
def Qg (m:Bool) (x:D.Clue):List T:= [.int .i64 x.Sense, .sl m 4 (x.Play.map (Qj m))]
theorem okeClue : EncOk Qg 2:=⟨fun _ _=>rfl,fun x=>Qq (.int _ _) (Qq (.sl _ _ (okeStep.cleanMap _)) (Zl)),fun m x=>by simp only [Qg,fzL,AE.fz,okeStep.fzMap],fun m x=>Qq rfl (Qq rfl (Zl)),fun x=>Qq rfl (Qq rfl (Zl))⟩
def QL (x:D.Clue):Nat:=(zL Zg) x.Play
theorem QkP : RK Qjc Qg:=Qg9 (JR Qbw (Qkp QkS okeStep rfl)) (fun _=>rfl)
noncomputable instance : DecidableEq D.Puzzle:=Classical.typeDecidableEq _
def Qs (m:Bool) (x:D.Puzzle):List T:= [.int .i64 x.Grid.Rows, .int .i64 x.Grid.Cols, .str x.Grid.Cells, .sl m 2 (x.Clues.map (Qg m)), .sl m 1 (x.Seals.map (Qd m)), .int .i64 x.Salt]
theorem Yx : EncOk Qs 6:=⟨fun _ _=>rfl,fun x=>Qq (.int _ _) (Qq (.int _ _) (Qq (.str _) (Qq (.sl _ _ (okeClue.cleanMap _)) (Qq (.sl _ _ (okInt.cleanMap _)) (Qq (.int _ _) (Zl)))))),fun m x=>by simp only [Qs,fzL,AE.fz,okInt.fzMap,okeClue.fzMap],fun m x=>Qq rfl (Qq rfl (Qq rfl (Qq rfl (Qq rfl (Qq rfl (Zl)))))),fun x=>Qq rfl (Qq rfl (Qq rfl (Qq rfl (Qq rfl (Qq rfl (Zl))))))⟩
def QS (x:D.Puzzle):Nat:=Zv x.Grid+(zL QL) x.Clues+(zL zI) x.Seals
theorem Qit : RK QgQ Qs:=Qg9 (JR Qkz (JR (Qkp QkP okeClue rfl) (JR (Qkp Qbw okInt rfl) Qbw))) (fun _=>rfl)
noncomputable instance : DecidableEq D.Session:=Classical.typeDecidableEq _
def Q4 (m:Bool) (x:D.Session):List T:= [.str x.Fill, .int .i64 x.Checks, .int .i64 x.Spent, .sl m 1 (x.Asked.map (Qd m)), .int .i64 x.Start, .int .i64 x.Now]
def Qad (x:D.Session):Nat:=ByteArray.size x.Fill+(zL zI) x.Asked
noncomputable instance : DecidableEq D.Slot:=Classical.typeDecidableEq _
def Qi (m:Bool) (x:D.Slot):List T:= [.int .i64 x.Number, .bool x.Down, .int .i64 x.Cell, .int .i64 x.Length]
theorem okeSlot : EncOk Qi 4:=⟨fun _ _=>rfl,fun x=>Qq (.int _ _) (Qq (.bool _) (Qq (.int _ _) (Qq (.int _ _) (Zl)))),fun m x=>by simp only [Qi,fzL,AE.fz],fun m x=>Qq rfl (Qq rfl (Qq rfl (Qq rfl (Zl)))),fun x=>Qq rfl (Qq rfl (Qq rfl (Qq rfl (Zl))))⟩
theorem Qix (m:Bool) (x:D.Slot):SvL (Qi m x) [Value.int .i64 x.Number,Value.bool x.Down,Value.int .i64 x.Cell,Value.int .i64 x.Length]:= .cons (.int _ _) (.cons (.bool _) (.cons (.int _ _) (.cons (.int _ _) (.nil))))
theorem B.eql33 {call:QH} {E:QQ} {d:Option Tmp} {ty xt:TypeId} {ps:String} {af:Array Edge} {g:Option (Nat×Bool)} {x y:Operand} {a b:D.Grid} {m m':Bool} (hx:VEv E x (.agg (Qa m a))) (hy:VEv E y (.agg (Qa m' b))):OF call Tryz.prog E ⟨d, .binOp .eql 33 x y xt,ty,ps,af,g⟩ (.bool (decide (a=b))):=by
 obtain ⟨q,h1,h2⟩:=Qli a b x y
 have h3:q=decide (a=b):=by
  by_cases h:a=b
  ·rw [h2.2 h,decide_eq_true h]
  ·rw [decide_eq_false h]
   cases q
   ·rfl
   ·exact absurd (h2.1 rfl) h
 exact h3▸OF.binA hx hy (QiT _ a) (QiT _ b) h1 (.bool _)
theorem B.neq97 {call:QH} {E:QQ} {d:Option Tmp} {ty xt:TypeId} {ps:String} {af:Array Edge} {g:Option (Nat×Bool)} {x y:Operand} {a b:D.Slot} {m m':Bool} (hx:VEv E x (.agg (Qi m a))) (hy:VEv E y (.agg (Qi m' b))):OF call Tryz.prog E ⟨d, .binOp .neq 97 x y xt,ty,ps,af,g⟩ (.bool (!decide (a=b))):=by
 obtain ⟨q,h1,h2⟩:=Qlb a b x y
 have h3:q=decide (a=b):=by
  by_cases h:a=b
  ·rw [h2.2 h,decide_eq_true h]
  ·rw [decide_eq_false h]
   cases q
   ·rfl
   ·exact absurd (h2.1 rfl) h
 exact h3▸OF.binA hx hy (Qix _ a) (Qix _ b) h1 (.bool _)
theorem U3 : Tryz.prog.underlying 3=some (.int .i64):=Tryz.underlying3
theorem U4 : Tryz.prog.underlying 4=some .bool:=Tryz.underlying4
theorem U5 : Tryz.prog.underlying 5=some (.int .u8):=Tryz.underlying5
theorem U9 : Tryz.prog.underlying 9=some .string:=Tryz.underlying9
theorem U24 : Tryz.prog.underlying 24=some (.slice 79):=Tryz.underlying24
theorem YQ : Tryz.prog.underlying 25=some (.slice 3):=Tryz.underlying25
theorem U34 : Tryz.prog.underlying 34=some (.slice 74):=Tryz.underlying34
theorem U72 : Tryz.prog.underlying 72=some (.slice 105):=Tryz.underlying72
theorem U77 : Tryz.prog.underlying 77=some (.slice 110):=Tryz.underlying77
theorem J8 : Tryz.prog.underlying 81=some (.slice 97):=Tryz.underlying81
theorem U92 : Tryz.prog.underlying 92=some (.slice 5):=Tryz.underlying92
theorem Qe2 : Tryz.prog.underlying 116=some (.slice 25):=Tryz.underlying116
theorem Qlr : Tryz.prog.underlying 119=some (.map 3 3):=Tryz.underlying119
theorem YA : Tryz.prog.underlying 142=some (.slice 4):=Tryz.underlying142
end Go.Proofs.YthifchndolccgaaGreatDoor.AE
namespace Go.Proofs.YthifchndolccgaaGreatDoor.AE
open Go Go.RowKit
set_option linter.unusedVariables false
set_option linter.unusedSimpArgs false
set_option maxRecDepth 20000
set_option maxHeartbeats 2000000
theorem Qd9 (n:Nat) (a:List Int) (left:Int) (h0:0≤left) (h1:left≤(mx:Int)) (hg:a.length≤maxLen):Pure (Qr Tryz.prog (n+1)) 28 [(rd 1 Qd a),(tI left)] (tI (ZF (zL zI a) left)):=by
 refine Pure.intro (rs:= [ResultVar.tmp 4]) Tryz.func28 rfl rfl rfl (E0:= [(0,(rd 1 Qd a)),(1,(tI left))]) rfl ?_
 obtain ⟨hlim,hmx,hmax⟩:=QJ
 refine sr (fO (OF.assign (VEv.int .i64 0)) (nt (sr (mO (tI left) rfl (mO (rd 1 Qd a) rfl (lO (B.lenR (m:=a.length) (tv (rd 1 Qd a) rfl) YQ (List.length_map ..)) (fO (B.sub (n:=(left - ((a.length:Nat):Int))) (tv (tI left) rfl) (tv (tN a.length) rfl) (by first | rfl | (rw [Qy (by omega)];omega) | (rw [Qy (by omega)];done))) (aO (tI (left - ((a.length:Nat):Int))) rfl (nt (sq (sr ?_)))))))))))
 refine mO (tI (left - ((a.length:Nat):Int))) rfl (fO (xls (tv (tI (left - ((a.length:Nat):Int))) rfl) (VEv.int .i64 0)) (nt ?_))
 refine cd ((left - ((a.length:Nat):Int))<0) rfl (fun fhc0=> ?_) fun fhc0=> ?_
 ·refine sr ?_
  refine fO (OF.assign (VEv.int .i64 (-1))) (nt (rt (tr (vi (n':=(-1)) rfl ?_))))
  exact SzI.early fhc0
 refine sk (tn (sr (mO (tI (left - ((a.length:Nat):Int))) rfl (aO (tI (left - ((a.length:Nat):Int))) rfl (nt (rt (vi (n':=(left - ((a.length:Nat):Int))) rfl ?_)))))))
 rw [QjV (z:=zI) (fun _=>rfl)];exact Qb5 fhc0
theorem QdT (n:Nat) (a:D.Grid) (left:Int) (h0:0≤left) (h1:left≤(mx:Int)) (hg:Qio a):Pure (Qr Tryz.prog (n+1)) 26 [(T.agg (Qa false a)),(tI left)] (tI (ZF (Zv a) left)):=by
 refine Pure.intro (rs:= [ResultVar.tmp 4]) Tryz.func26 rfl rfl rfl (E0:= [(0,(T.agg (Qa false a))),(1,(tI left))]) rfl ?_
 obtain ⟨hlim,hmx,hmax⟩:=QJ
 obtain ⟨hg0,hg1,hg2⟩:=hg
 refine sr (kO (B.box (ts:=(Qa false a)) (tv (T.agg (Qa false a)) rfl) nofun rfl) (fO (OF.assign (VEv.int .i64 0)) (nt (sr (mO (tI left) rfl (lf (tS a.Cells) rfl Qij rfl rfl Z3 (lO (B.lenS (tv (tS a.Cells) rfl) U9) (fO (B.sub (n:=(left - ((a.Cells.size:Nat):Int))) (tv (tI left) rfl) (tv (tN a.Cells.size) rfl) (by (rw [Qy (by omega)];done))) (aO (tI (left - ((a.Cells.size:Nat):Int))) rfl (nt (sq ?_)))))))))))
 refine sr (mO (tI (left - ((a.Cells.size:Nat):Int))) rfl (fO (xls (tv (tI (left - ((a.Cells.size:Nat):Int))) rfl) (VEv.int .i64 0)) (nt ?_)))
 refine cd ((left - ((a.Cells.size:Nat):Int))<0) rfl (fun fhc0=> ?_) fun fhc0=> ?_
 ·refine sr ?_
  refine fO (OF.assign (VEv.int .i64 (-1))) (nt (rt (tr (vi (n':=(-1)) rfl ?_))))
  exact Ju (by simp only [Zv];omega)
 refine sk (tn (sr (mO (tI (left - ((a.Cells.size:Nat):Int))) rfl (aO (tI (left - ((a.Cells.size:Nat):Int))) rfl (nt (rt (vi (n':=(left - ((a.Cells.size:Nat):Int))) rfl ?_)))))))
 rw [← Qb5 (z:=Zv a) (l:=left) (by simp only [Zv];omega)]
 all_goals rfl
theorem Qeb (n:Nat) (a:D.Step) (left:Int) (h0:0≤left) (h1:left≤(mx:Int)) (hg:Qhf a):Pure (Qr Tryz.prog (n+1)) 95 [(T.agg (Qj false a)),(tI left)] (tI (ZF (Zg a) left)):=by
 refine Pure.intro (rs:= [ResultVar.tmp 4]) Tryz.func95 rfl rfl rfl (E0:= [(0,(T.agg (Qj false a))),(1,(tI left))]) rfl ?_
 obtain ⟨hlim,hmx,hmax⟩:=QJ
 obtain ⟨hg0,hg1,hg2,hg3⟩:=hg
 refine sr (kO (B.box (ts:=(Qj false a)) (tv (T.agg (Qj false a)) rfl) nofun rfl) (fO (OF.assign (VEv.int .i64 0)) (nt (sr (mO (tI left) rfl (lf (tS a.Word) rfl Qhe rfl rfl Z3 (lO (B.lenS (tv (tS a.Word) rfl) U9) (fO (B.sub (n:=(left - ((a.Word.size:Nat):Int))) (tv (tI left) rfl) (tv (tN a.Word.size) rfl) (by (rw [Qy (by omega)];done))) (aO (tI (left - ((a.Word.size:Nat):Int))) rfl (nt (sq ?_)))))))))))
 refine sr (mO (tI (left - ((a.Word.size:Nat):Int))) rfl (fO (xls (tv (tI (left - ((a.Word.size:Nat):Int))) rfl) (VEv.int .i64 0)) (nt ?_)))
 refine cd ((left - ((a.Word.size:Nat):Int))<0) rfl (fun fhc0=> ?_) fun fhc0=> ?_
 ·refine sr ?_
  refine fO (OF.assign (VEv.int .i64 (-1))) (nt (rt (tr (vi (n':=(-1)) rfl ?_))))
  exact Ju (by simp only [Zg];omega)
 refine sk (tn (sr (mO (tI (left - ((a.Word.size:Nat):Int))) rfl (aO (tI (left - ((a.Word.size:Nat):Int))) rfl (nt (rt (vi (n':=(left - ((a.Word.size:Nat):Int))) rfl ?_)))))))
 rw [← Qb5 (z:=Zg a) (l:=left) (by simp only [Zg];omega)]
 all_goals rfl
theorem Qdy (n:Nat) (a:List D.Step) (left:Int) (h0:0≤left) (h1:left≤(mx:Int)) (hg:a.length≤maxLen∧∀x∈a,Qhf x):Pure (Qr Tryz.prog (n+2)) 70 [(rd 4 Qj a),(tI left)] (tI (ZF (zL Zg a) left)):=by
 refine Pure.intro (rs:= [ResultVar.tmp 4]) Tryz.func70 rfl rfl rfl (E0:= [(0,(rd 4 Qj a)),(1,(tI left))]) rfl ?_
 obtain ⟨hlim,hmx,hmax⟩:=QJ
 obtain ⟨hg1,hg2⟩:=hg
 refine sr (fO (OF.assign (VEv.int .i64 0)) (nt (sr (mO (tI left) rfl (mO (rd 4 Qj a) rfl (lO (B.lenR (m:=a.length) (tv (rd 4 Qj a) rfl) U77 (List.length_map ..)) (fO (B.sub (n:=(left - ((a.length:Nat):Int))) (tv (tI left) rfl) (tv (tN a.length) rfl) (by (rw [Qy (by omega)];done))) (aO (tI (left - ((a.length:Nat):Int))) rfl (nt (sq (sr ?_)))))))))))
 refine mO (tI (left - ((a.length:Nat):Int))) rfl (fO (xls (tv (tI (left - ((a.length:Nat):Int))) rfl) (VEv.int .i64 0)) (nt ?_))
 refine cd ((left - ((a.length:Nat):Int))<0) rfl (fun fhc0=> ?_) fun fhc0=> ?_
 ·refine sr ?_
  refine fO (OF.assign (VEv.int .i64 (-1))) (nt (rt (tr (vi (n':=(-1)) rfl ?_))))
  exact SzI.early fhc0
 refine sk (tn (sq (sr (fO (OF.assign (VEv.int .i64 0)) (nt (VRun.block ?_))))))
 refine VRun.loop (A:=Nat×Int) (fun s_=> [(0,(rd 4 Qj a)),(1,(tI s_.2)),(5,(tN s_.1))]) (fun s_=>Q3 []) 0 (fun s_=>SzI Zg a left s_.1 s_.2) (fun s_=>a.length - s_.1) ((0,left - (a.length:Int)):Nat×Int) ?_ (Wk.mk (fun k=>k) ?_ ?_ ?_) ?_
 ·exact SzI.start h1 fhc0
 ·exact (b2 (bc ⟨(congrArg (T.int .i64) (show (left - ((a.length:Nat):Int))=(left - (a.length:Int)) from (by rfl))),rfl⟩ (b2 bn)))
 ·exact bn
 ·exact nd rfl
 rintro ⟨i,r⟩ (hI':SzI Zg a left i r)
 show VRun _ _ _ [(0,(rd 4 Qj a)),(1,(tI r)),(5,(tN i))] (Q3 []) 0 _
 have hI2:=hI'.1
 have hI3:=hI'.2.1
 have hI4:=hI'.2.2.1
 refine sq (sr (mO (tN i) rfl (mO (rd 4 Qj a) rfl (lO (B.lenR (m:=a.length) (tv (rd 4 Qj a) rfl) U77 (List.length_map ..)) (fO (Zt (tv (tN i) rfl) (tv (tN a.length) rfl)) (nt ?_))))))
 refine cd (i<a.length) rfl (fun fhc1=> ?_) fun fhc1=> ?_
 ·refine sk ?_
  refine tn (sq (VRun.block (sr (mO (rd 4 Qj a) rfl (mO (tN i) rfl ?_)))))
  obtain ⟨x1,hx1⟩:∃x,a[i]? =some x:=⟨_,List.getElem?_eq_getElem (by omega)⟩
  refine fO (OF.indexAddrR (row:=(Qj false x1)) (i:=i) (tv (rd 4 Qj a) rfl) (tv (tN i) rfl) rfl (QA _ hx1) U77 QgI QjX) (lO (OL.loadRn (us:=(Qj false x1)) (tv (T.rp (Qj false x1)) rfl) QjW QgI (lb rfl) rfl) (mO (tI r) rfl (cO (cS (vc (tv (T.agg (Qj false x1)) rfl) (vc (tv (tI r) rfl) vn)) (LendL.cons (lg okeStep) (lp rfl ln)) (Qeb (n+0) x1 r (by assumption) (by assumption) (by exact hg2 _ (List.mem_of_getElem? hx1))) rfl rfl) (aO (tI (ZF (Zg x1) r)) rfl (nt (sr (mO (tI (ZF (Zg x1) r)) rfl (fO (xls (tv (tI (ZF (Zg x1) r)) rfl) (VEv.int .i64 0)) (nt ?_)))))))))
  refine cd (ZF (Zg x1) r<0) rfl (fun fhc2=> ?_) fun fhc2=> ?_
  ·refine sr ?_
   refine fO (OF.assign (VEv.int .i64 (-1))) (nt (rt (vinB.r (tr (tr (vinB.r (tr (vi (n':=(-1)) rfl ?_))))))))
   exact hI'.bad hx1 fhc2
  refine sk (vinB.n (tn (VRun.region (mO (tN i) rfl (fO (QF (tv (tN i) rfl) (VEv.int .i64 1) (by omega)) (aO (tN (i+1)) rfl (VRunO.nil (tn ?_))))))))
  refine ⟨((i+1,ZF (Zg x1) r):Nat×Int),?_,?_,Wk.mk (fun k=>k) ?_ ?_ ?_⟩
  ·exact hI'.next hx1 fhc2
  ·omega
  ·exact (b2 (b2 (b2 bn)))
  ·exact bn
  ·exact nd rfl
 refine VRun.exit (vthn.e (vthn.e (vinB.e (tn (sr (mO (tI r) rfl (aO (tI r) rfl (nt (rt (vi (n':=r) rfl ?_))))))))))
 exact hI'.done fhc1
theorem Qd7 (n:Nat) (a:D.Clue) (left:Int) (h0:0≤left) (h1:left≤(mx:Int)) (hg:Qg5 a):Pure (Qr Tryz.prog (n+3)) 49 [(T.agg (Qg false a)),(tI left)] (tI (ZF (QL a) left)):=by
 refine Pure.intro (rs:= [ResultVar.tmp 4]) Tryz.func49 rfl rfl rfl (E0:= [(0,(T.agg (Qg false a))),(1,(tI left))]) rfl ?_
 obtain ⟨hlim,hmx,hmax⟩:=QJ
 obtain ⟨hg0,hg1⟩:=hg
 refine sr (kO (B.box (ts:=(Qg false a)) (tv (T.agg (Qg false a)) rfl) nofun rfl) (fO (OF.assign (VEv.int .i64 0)) (nt (sr (lf (rd 4 Qj a.Play) rfl Qh0 rfl rfl QlA (mO (tI left) rfl (cO (cS (vc (tv (rd 4 Qj a.Play) rfl) (vc (tv (tI left) rfl) vn)) (Yl rfl) (Qdy (n+0) a.Play left (by assumption) (by assumption) (by assumption)) rfl rfl) (aO (tI (ZF (zL Zg a.Play) left)) rfl (nt (sq (sr ?_)))))))))))
 refine mO (tI (ZF (zL Zg a.Play) left)) rfl (fO (xls (tv (tI (ZF (zL Zg a.Play) left)) rfl) (VEv.int .i64 0)) (nt ?_))
 refine cd (ZF (zL Zg a.Play) left<0) rfl (fun fhc0=> ?_) fun fhc0=> ?_
 ·refine sr ?_
  refine fO (OF.assign (VEv.int .i64 (-1))) (nt (rt (tr (vi (n':=(-1)) rfl ?_))))
  exact Ju (by have hlt:=Qdu fhc0;simp only [QL];omega)
 have hq0:=YG fhc0
 refine sk (tn (sr (mO (tI (ZF (zL Zg a.Play) left)) rfl (aO (tI (ZF (zL Zg a.Play) left)) rfl (nt (rt (vi (n':=ZF (zL Zg a.Play) left) rfl ?_)))))))
 rw [← Qb5 (z:=QL a) (l:=left) (by simp only [QL];omega)]
 all_goals (simp only [QL];omega)
theorem QdB (n:Nat) (a:List D.Clue) (left:Int) (h0:0≤left) (h1:left≤(mx:Int)) (hg:a.length≤maxLen∧∀x∈a,Qg5 x):Pure (Qr Tryz.prog (n+4)) 27 [(rd 2 Qg a),(tI left)] (tI (ZF (zL QL a) left)):=by
 refine Pure.intro (rs:= [ResultVar.tmp 4]) Tryz.func27 rfl rfl rfl (E0:= [(0,(rd 2 Qg a)),(1,(tI left))]) rfl ?_
 obtain ⟨hlim,hmx,hmax⟩:=QJ
 obtain ⟨hg1,hg2⟩:=hg
 refine sr (fO (OF.assign (VEv.int .i64 0)) (nt (sr (mO (tI left) rfl (mO (rd 2 Qg a) rfl (lO (B.lenR (m:=a.length) (tv (rd 2 Qg a) rfl) U24 (List.length_map ..)) (fO (B.sub (n:=(left - ((a.length:Nat):Int))) (tv (tI left) rfl) (tv (tN a.length) rfl) (by (rw [Qy (by omega)];done))) (aO (tI (left - ((a.length:Nat):Int))) rfl (nt (sq (sr ?_)))))))))))
 refine mO (tI (left - ((a.length:Nat):Int))) rfl (fO (xls (tv (tI (left - ((a.length:Nat):Int))) rfl) (VEv.int .i64 0)) (nt ?_))
 refine cd ((left - ((a.length:Nat):Int))<0) rfl (fun fhc0=> ?_) fun fhc0=> ?_
 ·refine sr ?_
  refine fO (OF.assign (VEv.int .i64 (-1))) (nt (rt (tr (vi (n':=(-1)) rfl ?_))))
  exact SzI.early fhc0
 refine sk (tn (sq (sr (fO (OF.assign (VEv.int .i64 0)) (nt (VRun.block ?_))))))
 refine VRun.loop (A:=Nat×Int) (fun s_=> [(0,(rd 2 Qg a)),(1,(tI s_.2)),(5,(tN s_.1))]) (fun s_=>Q3 []) 0 (fun s_=>SzI QL a left s_.1 s_.2) (fun s_=>a.length - s_.1) ((0,left - (a.length:Int)):Nat×Int) ?_ (Wk.mk (fun k=>k) ?_ ?_ ?_) ?_
 ·exact SzI.start h1 fhc0
 ·exact (b2 (bc ⟨(congrArg (T.int .i64) (show (left - ((a.length:Nat):Int))=(left - (a.length:Int)) from (by rfl))),rfl⟩ (b2 bn)))
 ·exact bn
 ·exact nd rfl
 rintro ⟨i,r⟩ (hI':SzI QL a left i r)
 show VRun _ _ _ [(0,(rd 2 Qg a)),(1,(tI r)),(5,(tN i))] (Q3 []) 0 _
 have hI2:=hI'.1
 have hI3:=hI'.2.1
 have hI4:=hI'.2.2.1
 refine sq (sr (mO (tN i) rfl (mO (rd 2 Qg a) rfl (lO (B.lenR (m:=a.length) (tv (rd 2 Qg a) rfl) U24 (List.length_map ..)) (fO (Zt (tv (tN i) rfl) (tv (tN a.length) rfl)) (nt ?_))))))
 refine cd (i<a.length) rfl (fun fhc1=> ?_) fun fhc1=> ?_
 ·refine sk ?_
  refine tn (sq (VRun.block (sr (mO (rd 2 Qg a) rfl (mO (tN i) rfl ?_)))))
  obtain ⟨x1,hx1⟩:∃x,a[i]? =some x:=⟨_,List.getElem?_eq_getElem (by omega)⟩
  refine fO (OF.indexAddrR (row:=(Qg false x1)) (i:=i) (tv (rd 2 Qg a) rfl) (tv (tN i) rfl) rfl (QA _ hx1) U24 QjF Qlm) (lO (OL.loadRn (us:=(Qg false x1)) (tv (T.rp (Qg false x1)) rfl) QlB QjF (lb rfl) rfl) (mO (tI r) rfl (cO (cS (vc (tv (T.agg (Qg false x1)) rfl) (vc (tv (tI r) rfl) vn)) (LendL.cons (lg okeClue) (lp rfl ln)) (Qd7 (n+0) x1 r (by assumption) (by assumption) (by exact hg2 _ (List.mem_of_getElem? hx1))) rfl rfl) (aO (tI (ZF (QL x1) r)) rfl (nt (sr (mO (tI (ZF (QL x1) r)) rfl (fO (xls (tv (tI (ZF (QL x1) r)) rfl) (VEv.int .i64 0)) (nt ?_)))))))))
  refine cd (ZF (QL x1) r<0) rfl (fun fhc2=> ?_) fun fhc2=> ?_
  ·refine sr ?_
   refine fO (OF.assign (VEv.int .i64 (-1))) (nt (rt (vinB.r (tr (tr (vinB.r (tr (vi (n':=(-1)) rfl ?_))))))))
   exact hI'.bad hx1 fhc2
  refine sk (vinB.n (tn (VRun.region (mO (tN i) rfl (fO (QF (tv (tN i) rfl) (VEv.int .i64 1) (by omega)) (aO (tN (i+1)) rfl (VRunO.nil (tn ?_))))))))
  refine ⟨((i+1,ZF (QL x1) r):Nat×Int),?_,?_,Wk.mk (fun k=>k) ?_ ?_ ?_⟩
  ·exact hI'.next hx1 fhc2
  ·omega
  ·exact (b2 (b2 (b2 bn)))
  ·exact bn
  ·exact nd rfl
 refine VRun.exit (vthn.e (vthn.e (vinB.e (tn (sr (mO (tI r) rfl (aO (tI r) rfl (nt (rt (vi (n':=r) rfl ?_))))))))))
 exact hI'.done fhc1
theorem QcH (n:Nat) (a:D.Puzzle) (left:Int) (h0:0≤left) (h1:left≤(mx:Int)) (hg:QeH a):Pure (Qr Tryz.prog (n+5)) 6 [(T.agg (Qs false a)),(tI left)] (tI (ZF (QS a) left)):=by
 refine Pure.intro (rs:= [ResultVar.tmp 4]) Tryz.func6 rfl rfl rfl (E0:= [(0,(T.agg (Qs false a))),(1,(tI left))]) rfl ?_
 obtain ⟨hlim,hmx,hmax⟩:=QJ
 obtain ⟨hg0,hg1,hg2,hg3⟩:=hg
 refine sr (kO (B.box (ts:=(Qs false a)) (tv (T.agg (Qs false a)) rfl) nofun rfl) (fO (OF.assign (VEv.int .i64 0)) (nt (sr (fO (OF.fieldAddrO (tv (T.op 0 0) rfl) Qiz) (lO (OL.loadOn (us:=(Qa false a.Grid)) (tv (T.op 0 0) rfl) rfl Qlh QkC (lb rfl) rfl) (mO (tI left) rfl (cO (cS (vc (tv (T.agg (Qa false a.Grid)) rfl) (vc (tv (tI left) rfl) vn)) (LendL.cons (lg Qt) (lp rfl ln)) (QdT (n+3) a.Grid left (by first | assumption | omega) (by first | assumption | omega) (by first | assumption | omega)) rfl rfl) (aO (tI (ZF (Zv a.Grid) left)) rfl (nt (sq ?_)))))))))))
 refine sr (mO (tI (ZF (Zv a.Grid) left)) rfl (fO (xls (tv (tI (ZF (Zv a.Grid) left)) rfl) (VEv.int .i64 0)) (nt ?_)))
 refine cd (ZF (Zv a.Grid) left<0) rfl (fun fhc0=> ?_) fun fhc0=> ?_
 ·refine sr ?_
  refine fO (OF.assign (VEv.int .i64 (-1))) (nt (rt (tr (vi (n':=(-1)) rfl ?_))))
  exact Ju (by have hlt:=Qdu fhc0;simp only [QS];omega)
 have hq0:=YG fhc0
 refine sk (tn (sr (lf (rd 2 Qg a.Clues) rfl Qh6 rfl rfl Qlt (mO (tI (ZF (Zv a.Grid) left)) rfl (cO (cS (vc (tv (rd 2 Qg a.Clues) rfl) (vc (tv (tI (ZF (Zv a.Grid) left)) rfl) vn)) (Yl rfl) (QdB (n+0) a.Clues (ZF (Zv a.Grid) left) (by first | assumption | omega) (by first | assumption | omega) (by first | assumption | omega)) rfl rfl) (aO (tI (ZF (zL QL a.Clues) (ZF (Zv a.Grid) left))) rfl (nt (sq (sr (mO (tI (ZF (zL QL a.Clues) (ZF (Zv a.Grid) left))) rfl (fO (xls (tv (tI (ZF (zL QL a.Clues) (ZF (Zv a.Grid) left))) rfl) (VEv.int .i64 0)) ?_)))))))))))
 refine nt ?_
 refine cd (ZF (zL QL a.Clues) (ZF (Zv a.Grid) left)<0) rfl (fun fhc1=> ?_) fun fhc1=> ?_
 ·refine sr ?_
  refine fO (OF.assign (VEv.int .i64 (-1))) (nt (rt (tr (vi (n':=(-1)) rfl ?_))))
  exact Ju (by have hlt:=Qdu fhc1;simp only [QS];omega)
 have hq1:=YG fhc1
 refine sk (tn (sr (lf (rd 1 Qd a.Seals) rfl QiJ rfl rfl QbM (mO (tI (ZF (zL QL a.Clues) (ZF (Zv a.Grid) left))) rfl (cO (cS (vc (tv (rd 1 Qd a.Seals) rfl) (vc (tv (tI (ZF (zL QL a.Clues) (ZF (Zv a.Grid) left))) rfl) vn)) (Yl rfl) (Qd9 (n+3) a.Seals (ZF (zL QL a.Clues) (ZF (Zv a.Grid) left)) (by first | assumption | omega) (by first | assumption | omega) (by first | assumption | omega)) rfl rfl) (aO (tI (ZF (zL zI a.Seals) (ZF (zL QL a.Clues) (ZF (Zv a.Grid) left)))) rfl (nt (sq (sr (mO (tI (ZF (zL zI a.Seals) (ZF (zL QL a.Clues) (ZF (Zv a.Grid) left)))) rfl (fO (xls (tv (tI (ZF (zL zI a.Seals) (ZF (zL QL a.Clues) (ZF (Zv a.Grid) left)))) rfl) (VEv.int .i64 0)) ?_)))))))))))
 refine nt ?_
 refine cd (ZF (zL zI a.Seals) (ZF (zL QL a.Clues) (ZF (Zv a.Grid) left))<0) rfl (fun fhc2=> ?_) fun fhc2=> ?_
 ·refine sr ?_
  refine fO (OF.assign (VEv.int .i64 (-1))) (nt (rt (tr (vi (n':=(-1)) rfl ?_))))
  exact Ju (by have hlt:=Qdu fhc2;simp only [QS];omega)
 have hq2:=YG fhc2
 refine sk (tn (sr (mO (tI (ZF (zL zI a.Seals) (ZF (zL QL a.Clues) (ZF (Zv a.Grid) left)))) rfl (aO (tI (ZF (zL zI a.Seals) (ZF (zL QL a.Clues) (ZF (Zv a.Grid) left)))) rfl (nt (rt (vi (n':=ZF (zL zI a.Seals) (ZF (zL QL a.Clues) (ZF (Zv a.Grid) left))) rfl ?_)))))))
 rw [← Qb5 (z:=QS a) (l:=left) (by simp only [QS];omega)]
 all_goals first | rfl | (simp only [QS];done) | (simp only [QS];omega)
end Go.Proofs.YthifchndolccgaaGreatDoor.AE
namespace Go.Proofs.YthifchndolccgaaGreatDoor.AE
open Go Go.RowKit
set_option linter.unusedVariables false
set_option linter.unusedSimpArgs false
set_option maxRecDepth 20000
set_option maxHeartbeats 2000000
theorem QdN (n:Nat) (a:List Int) (ha:a.length≤mx):Pure (Qr Tryz.prog (n+1)) 34 [(rd 1 Qd a)] (T.sl true 1 (a.map (Qd true))):=by
 refine Pure.intro (rs:= [ResultVar.tmp 2]) Tryz.func34 rfl rfl rfl (E0:= [(0,(rd 1 Qd a))]) rfl ?_
 obtain ⟨hlim,hmx,hmax⟩:=QJ
 refine sr (fO (OF.assign VEv.nils) (nt (sr (mO (rd 1 Qd a) rfl (lO (B.lenR (m:=a.length) (tv (rd 1 Qd a) rfl) YQ (List.length_map ..)) (kO (B.makeZ (n:=a.length) (m:=((List.replicate a.length 0).map (Qd true)).length) (rows:=((List.replicate a.length 0).map (Qd true))) (zr:=(Qd true 0)) (tv (tN a.length) rfl) (tv (tN a.length) rfl) rfl YQ zo3 zc3 rfl (by rw [Z8];decide) (by first | omega | (simp only [List.length_map];omega) | (simp only [List.length_map,List.length_append,List.length_cons,List.length_nil,List.length_replicate,List.length_set,List.length_drop,List.length_take,Yd] at *;omega)) (of_decide_eq_true (by kernel_rfl)) (Z0.int Z0.nil) Z8 (List.map_replicate ..).symm (by rw [List.length_map,List.length_replicate])) (aO (T.os 1 0 0 (((List.replicate a.length 0).map (Qd true)).length)) rfl (nt (sq (sr (fO (OF.assign (VEv.int .i64 0)) ?_)))))))))))
 refine nt (VRun.block ?_)
 have he1:(List.replicate a.length 0)=(a.take 0++List.replicate (a.length - 0) 0):=by first | rfl | (exact QaA hx1) | (simp;done) | omega
 refine VRun.loop (A:=Nat) (fun s_=> [(0,(rd 1 Qd a)),(2,T.nils),(3,(T.os 1 0 0 (((a.take s_++List.replicate (a.length - s_) 0).map (Qd true)).length))),(4,(tN s_))]) (fun s_=>Q3 [(0,(Obj.rows 1 ((a.take s_++List.replicate (a.length - s_) 0).map (Qd true))))]) 1 (fun s_=>s_≤a.length) (fun s_=>a.length - s_) (0:Nat) ?_ (Wk.mk (fun k=>k) ?_ ?_ ?_) ?_
 ·first | trivial | (simp;done) | omega | (constructor<;>simp)
 ·exact (b2 (b2 (bc ⟨(congrArg (fun l_=>T.os 1 0 0 (List.map (Qd true) l_).length) he1),rfl⟩ (b2 bn))))
 ·exact (bc ⟨(congrArg (fun l_=>some (Obj.rows 1 (List.map (Qd true) l_))) he1),(lb rfl),rfl⟩ bn)
 ·exact nd rfl
 rintro i (hI':i≤a.length)
 show VRun _ _ _ [(0,(rd 1 Qd a)),(2,T.nils),(3,(T.os 1 0 0 (((a.take i++List.replicate (a.length - i) 0).map (Qd true)).length))),(4,(tN i))] (Q3 [(0,(Obj.rows 1 ((a.take i++List.replicate (a.length - i) 0).map (Qd true))))]) 1 _
 have hfl:=QeA (w:=0) hI'
 refine sq (sr (mO (tN i) rfl (mO (rd 1 Qd a) rfl (lO (B.lenR (m:=a.length) (tv (rd 1 Qd a) rfl) YQ (List.length_map ..)) (fO (Zt (tv (tN i) rfl) (tv (tN a.length) rfl)) (nt ?_))))))
 refine cd (i<a.length) rfl (fun fhc0=> ?_) fun fhc0=> ?_
 ·refine sk ?_
  refine tn (sq (VRun.block (VRun.region (mO (T.os 1 0 0 (((a.take i++List.replicate (a.length - i) 0).map (Qd true)).length)) rfl (mO (tN i) rfl (mO (rd 1 Qd a) rfl (mO (tN i) rfl ?_)))))))
  obtain ⟨x1,hx1⟩:∃x,a[i]? =some x:=⟨_,List.getElem?_eq_getElem (by omega)⟩
  refine fO (OF.indexAddrR (row:=(Qd false x1)) (i:=i) (tv (rd 1 Qd a) rfl) (tv (tN i) rfl) rfl (QA _ hx1) YQ Z8 Jp) (lO (OL.loadR1 (t:=(tI x1)) (tv (T.rp [(tI x1)]) rfl) rfl Q0) ?_)
  obtain ⟨x2,hx2⟩:∃x,(a.take i++List.replicate (a.length - i) 0)[i]? =some x:=⟨_,List.getElem?_eq_getElem (by first | omega | (simp only [List.length_map];omega) | (simp only [List.length_map,List.length_append,List.length_cons,List.length_nil,List.length_replicate,List.length_set,List.length_drop,List.length_take,Yd] at *;omega))⟩
  refine fO (B.indexAddrO (i:=i) (tv (T.os 1 0 0 (((a.take i++List.replicate (a.length - i) 0).map (Qd true)).length)) rfl) (tv (tN i) rfl) rfl (by first | omega | (simp only [List.length_map];omega) | (simp only [List.length_map,List.length_append,List.length_cons,List.length_nil,List.length_replicate,List.length_set,List.length_drop,List.length_take,Yd] at *;omega)) YQ Z8 Jp) (cO (B.storeP (us:= [(tI x1)]) (rows':=(((a.take i++List.replicate (a.length - i) 0).set i x1).map (Qd true))) (row:=(Qd true x2)) (tv (T.orp 1 0 i 0) rfl) (tv (tI x1) rfl) nofun rfl (QA _ hx2) rfl (lb rfl) Jp Z8 (bc rfl bn) (by intro r hr t ht;obtain ⟨x,_,rfl⟩:=List.mem_map.1 hr;rw [Qj5] at ht;exact Zs (okInt.pl _ t ht)) (Zm rfl)) (VRunO.nil (vinB.n (tn (VRun.region (mO (tN i) rfl (fO (QF (tv (tN i) rfl) (VEv.int .i64 1) (by omega)) (aO (tN (i+1)) rfl (VRunO.nil (tn ?_))))))))))
  have he2:((a.take i++List.replicate (a.length - i) 0).set i x1)=(a.take (i+1)++List.replicate (a.length - (i+1)) 0):=by first | rfl | (exact QaA hx1) | (simp;done) | omega
  refine ⟨(i+1:Nat),?_,?_,Wk.mk (fun k=>k) ?_ ?_ ?_⟩
  ·first | trivial | omega | (simp;done) | exact ⟨by omega,hI'.2⟩
  ·first | omega | (simp only [];omega) | (show _<_;omega) | (simp;omega)
  ·exact (b2 (b2 (bc ⟨(congrArg (fun n_=>T.os 1 0 0 n_) (show ((a.take i++List.replicate (a.length - i) 0).map (Qd true)).length=((a.take (i+1)++List.replicate (a.length - (i+1)) 0).map (Qd true)).length from (by first | rfl | (simp only [List.length_map];omega) | (simp only [List.length_map,List.length_set,List.length_append,List.length_take,List.length_replicate,List.length_cons,List.length_nil];omega)))),rfl⟩ (b2 bn))))
  ·exact (bc ⟨(congrArg (fun l_=>some (Obj.rows 1 (List.map (Qd true) l_))) he2),(lb rfl),rfl⟩ bn)
  ·exact nd rfl
 refine VRun.exit (vthn.e (vthn.e (vinB.e (tn (sr (mO (T.os 1 0 0 (((a.take i++List.replicate (a.length - i) 0).map (Qd true)).length)) rfl (aO (T.os 1 0 0 (((a.take i++List.replicate (a.length - i) 0).map (Qd true)).length)) rfl (nt (rt ?_)))))))))
 refine vfin.eq (r':=(T.sl true 1 ((a.take i++List.replicate (a.length - i) 0).map (Qd true)))) ?_ (vfin.r (VRes.tmp (t:=(T.os 1 0 0 (((a.take i++List.replicate (a.length - i) 0).map (Qd true)).length))) rfl VRes.nil) (Give.os rfl rfl (okInt.cleanMap _)))
 refine congrArg (fun l_=>T.sl true 1 (List.map (Qd true) l_)) ?_
 exact QbP fhc0
theorem QdM (n:Nat) (a:D.Grid):Pure (Qr Tryz.prog (n+1)) 32 [(T.agg (Qa false a))] (T.agg (Qa true a)):=by
 refine Pure.intro (rs:= [ResultVar.cell 2 33]) Tryz.func32 rfl rfl rfl (E0:= [(0,(T.agg (Qa false a)))]) rfl ?_
 obtain ⟨hlim,hmx,hmax⟩:=QJ
 refine sr (kO (B.box (ts:=(Qa false a)) (tv (T.agg (Qa false a)) rfl) nofun rfl) (kO (B.alloc (t:=(T.agg [(tN 0),(tN 0),(tS ByteArray.empty)])) (ts:= [(tN 0),(tN 0),(tS ByteArray.empty)]) Qhx Qjq nofun (fun _=> .agg _ _ rfl (YD (RL.cons (.int _ _) (RL.cons (.int _ _) (RL.cons (.str _) (RL.nil _)))))) rfl) (nt (sr (kO (B.alloc (t:=(T.agg [(tN 0),(tN 0),(tS ByteArray.empty)])) (ts:= [(tN 0),(tN 0),(tS ByteArray.empty)]) Qhx Qjq nofun (fun _=> .agg _ _ rfl (YD (RL.cons (.int _ _) (RL.cons (.int _ _) (RL.cons (.str _) (RL.nil _)))))) rfl) (nt (sr (lf (tI a.Rows) rfl Qke rfl rfl Q0 (fO (OF.fieldAddrO (tv (T.op 2 0) rfl) JD) (cO (B.storeO (us:= [(tI a.Rows)]) (ws:= [(tI a.Rows),(tN 0),(tS ByteArray.empty)]) (tv (T.op 2 0) rfl) (tv (tI a.Rows) rfl) nofun rfl rfl (lb rfl) Jp Z8 (bc rfl bn) rfl) (nt ?_)))))))))))
 refine sr (lf (tI a.Cols) rfl Qkf rfl rfl Q0 (fO (OF.fieldAddrO (tv (T.op 2 0) rfl) Q7) (cO (B.storeO (us:= [(tI a.Cols)]) (ws:= [(tI a.Rows),(tI a.Cols),(tS ByteArray.empty)]) (tv (T.op 2 1) rfl) (tv (tI a.Cols) rfl) nofun rfl rfl (lb rfl) Jp Z8 (bc rfl bn) rfl) (nt (sr (lf (tS a.Cells) rfl Qij rfl rfl Z3 (fO (OF.fieldAddrO (tv (T.op 2 0) rfl) QD) (cO (B.storeO (us:= [(tS a.Cells)]) (ws:= [(tI a.Rows),(tI a.Cols),(tS a.Cells)]) (tv (T.op 2 2) rfl) (tv (tS a.Cells) rfl) nofun rfl rfl (lb rfl) if9 sz9 (bc rfl bn) rfl) (nt (sr (lO (OL.loadOn (us:=(Qa false a)) (tv (T.op 2 0) rfl) rfl QY QR (lb rfl) rfl) ?_)))))))))))
 refine cO (B.storeW (us:=(Qa false a)) (tv (T.op 1 0) rfl) (tv (T.agg (Qa false a)) rfl) nofun rfl rfl rfl Qgm QR (bc rfl (bc rfl (bc rfl bn)))) (nt (rt ?_))
 refine vfin.eq (r':=(T.agg (Qa false a))) ?_ (vfin.r (VRes.celln (ws:=(Qa false a)) rfl rfl QY QR (lb rfl) rfl VRes.nil) (Give.agg (GiveL.cons (Give.int _ _) (GiveL.cons (Give.int _ _) (GiveL.cons (Give.str _) GiveL.nil (by decide)) (by decide)) (by decide))))
 rfl
theorem QdW (n:Nat) (a:D.Step):Pure (Qr Tryz.prog (n+1)) 102 [(T.agg (Qj false a))] (T.agg (Qj true a)):=by
 refine Pure.intro (rs:= [ResultVar.cell 2 105]) Tryz.func102 rfl rfl rfl (E0:= [(0,(T.agg (Qj false a)))]) rfl ?_
 obtain ⟨hlim,hmx,hmax⟩:=QJ
 refine sr (kO (B.box (ts:=(Qj false a)) (tv (T.agg (Qj false a)) rfl) nofun rfl) (kO (B.alloc (t:=(T.agg [(tN 0),(tS ByteArray.empty),(tN 0),(tN 0)])) (ts:= [(tN 0),(tS ByteArray.empty),(tN 0),(tN 0)]) QfO Qfp nofun (fun _=> .agg _ _ rfl (YD (RL.cons (.int _ _) (RL.cons (.str _) (RL.cons (.int _ _) (RL.cons (.int _ _) (RL.nil _))))))) rfl) (nt (sr (kO (B.alloc (t:=(T.agg [(tN 0),(tS ByteArray.empty),(tN 0),(tN 0)])) (ts:= [(tN 0),(tS ByteArray.empty),(tN 0),(tN 0)]) QfO Qfp nofun (fun _=> .agg _ _ rfl (YD (RL.cons (.int _ _) (RL.cons (.str _) (RL.cons (.int _ _) (RL.cons (.int _ _) (RL.nil _))))))) rfl) (nt (sr (lf (tI a.Kind) rfl QjO rfl rfl Q0 (fO (OF.fieldAddrO (tv (T.op 2 0) rfl) QZ) (cO (B.storeO (us:= [(tI a.Kind)]) (ws:= [(tI a.Kind),(tS ByteArray.empty),(tN 0),(tN 0)]) (tv (T.op 2 0) rfl) (tv (tI a.Kind) rfl) nofun rfl rfl (lb rfl) Jp Z8 (bc rfl bn) rfl) (nt ?_)))))))))))
 refine sr (lf (tS a.Word) rfl Qhe rfl rfl Z3 (fO (OF.fieldAddrO (tv (T.op 2 0) rfl) Jr) (cO (B.storeO (us:= [(tS a.Word)]) (ws:= [(tI a.Kind),(tS a.Word),(tN 0),(tN 0)]) (tv (T.op 2 1) rfl) (tv (tS a.Word) rfl) nofun rfl rfl (lb rfl) if9 sz9 (bc rfl bn) rfl) (nt (sr (lf (tI a.A) rfl QjL rfl rfl Q0 (fO (OF.fieldAddrO (tv (T.op 2 0) rfl) Ye) (cO (B.storeO (us:= [(tI a.A)]) (ws:= [(tI a.Kind),(tS a.Word),(tI a.A),(tN 0)]) (tv (T.op 2 2) rfl) (tv (tI a.A) rfl) nofun rfl rfl (lb rfl) Jp Z8 (bc rfl bn) rfl) (nt (sr (lf (tI a.B) rfl Qjy rfl rfl Q0 ?_)))))))))))
 refine fO (OF.fieldAddrO (tv (T.op 2 0) rfl) ZS) (cO (B.storeO (us:= [(tI a.B)]) (ws:= [(tI a.Kind),(tS a.Word),(tI a.A),(tI a.B)]) (tv (T.op 2 3) rfl) (tv (tI a.B) rfl) nofun rfl rfl (lb rfl) Jp Z8 (bc rfl bn) rfl) (nt (sr (lO (OL.loadOn (us:=(Qj false a)) (tv (T.op 2 0) rfl) rfl Qee ZZ (lb rfl) rfl) (cO (B.storeW (us:=(Qj false a)) (tv (T.op 1 0) rfl) (tv (T.agg (Qj false a)) rfl) nofun rfl rfl rfl Y8 ZZ (bc rfl (bc rfl (bc rfl (bc rfl bn))))) (nt (rt ?_)))))))
 refine vfin.eq (r':=(T.agg (Qj false a))) ?_ (vfin.r (VRes.celln (ws:=(Qj false a)) rfl rfl Qee ZZ (lb rfl) rfl VRes.nil) (Give.agg (GiveL.cons (Give.int _ _) (GiveL.cons (Give.str _) (GiveL.cons (Give.int _ _) (GiveL.cons (Give.int _ _) GiveL.nil (by decide)) (by decide)) (by decide)) (by decide))))
 rfl
theorem QdC (n:Nat) (a:List D.Step) (ha:a.length≤mx):Pure (Qr Tryz.prog (n+2)) 77 [(rd 4 Qj a)] (T.sl true 4 (a.map (Qj true))):=by
 refine Pure.intro (rs:= [ResultVar.tmp 2]) Tryz.func77 rfl rfl rfl (E0:= [(0,(rd 4 Qj a))]) rfl ?_
 obtain ⟨hlim,hmx,hmax⟩:=QJ
 refine sr (fO (OF.assign VEv.nils) (nt (sr (mO (rd 4 Qj a) rfl (lO (B.lenR (m:=a.length) (tv (rd 4 Qj a) rfl) U77 (List.length_map ..)) (kO (B.makeZ (n:=a.length) (m:=((List.replicate a.length (D.Step.mk 0 ByteArray.empty 0 0)).map (Qj true)).length) (rows:=((List.replicate a.length (D.Step.mk 0 ByteArray.empty 0 0)).map (Qj true))) (zr:=(Qj true (D.Step.mk 0 ByteArray.empty 0 0))) (tv (tN a.length) rfl) (tv (tN a.length) rfl) rfl U72 QfO Qfp rfl (by rw [ZZ];decide) (by omega) (of_decide_eq_true (by kernel_rfl)) (Z0.int (Z0.str (Z0.int (Z0.int Z0.nil)))) ZZ (List.map_replicate ..).symm (by rw [List.length_map,List.length_replicate])) (aO (T.os 4 0 0 (((List.replicate a.length (D.Step.mk 0 ByteArray.empty 0 0)).map (Qj true)).length)) rfl (nt (sq (sr (fO (OF.assign (VEv.int .i64 0)) ?_)))))))))))
 refine nt (VRun.block ?_)
 have he1:(List.replicate a.length (D.Step.mk 0 ByteArray.empty 0 0))=(a.take 0++List.replicate (a.length - 0) (D.Step.mk 0 ByteArray.empty 0 0)):=by rfl
 refine VRun.loop (A:=Nat) (fun s_=> [(0,(rd 4 Qj a)),(2,T.nils),(3,(T.os 4 0 0 (((a.take s_++List.replicate (a.length - s_) (D.Step.mk 0 ByteArray.empty 0 0)).map (Qj true)).length))),(4,(tN s_))]) (fun s_=>Q3 [(0,(Obj.rows 4 ((a.take s_++List.replicate (a.length - s_) (D.Step.mk 0 ByteArray.empty 0 0)).map (Qj true))))]) 1 (fun s_=>s_≤a.length) (fun s_=>a.length - s_) (0:Nat) ?_ (Wk.mk (fun k=>k) ?_ ?_ ?_) ?_
 ·(simp;done)
 ·exact (b2 (b2 (bc ⟨(congrArg (fun l_=>T.os 4 0 0 (List.map (Qj true) l_).length) he1),rfl⟩ (b2 bn))))
 ·exact (bc ⟨(congrArg (fun l_=>some (Obj.rows 4 (List.map (Qj true) l_))) he1),(lb rfl),rfl⟩ bn)
 ·exact nd rfl
 rintro i (hI':i≤a.length)
 show VRun _ _ _ [(0,(rd 4 Qj a)),(2,T.nils),(3,(T.os 4 0 0 (((a.take i++List.replicate (a.length - i) (D.Step.mk 0 ByteArray.empty 0 0)).map (Qj true)).length))),(4,(tN i))] (Q3 [(0,(Obj.rows 4 ((a.take i++List.replicate (a.length - i) (D.Step.mk 0 ByteArray.empty 0 0)).map (Qj true))))]) 1 _
 have hfl:=QeA (w:=(D.Step.mk 0 ByteArray.empty 0 0)) hI'
 refine sq (sr (mO (tN i) rfl (mO (rd 4 Qj a) rfl (lO (B.lenR (m:=a.length) (tv (rd 4 Qj a) rfl) U77 (List.length_map ..)) (fO (Zt (tv (tN i) rfl) (tv (tN a.length) rfl)) (nt ?_))))))
 refine cd (i<a.length) rfl (fun fhc0=> ?_) fun fhc0=> ?_
 ·refine sk ?_
  refine tn (sq (VRun.block (VRun.region (mO (T.os 4 0 0 (((a.take i++List.replicate (a.length - i) (D.Step.mk 0 ByteArray.empty 0 0)).map (Qj true)).length)) rfl (mO (tN i) rfl (mO (rd 4 Qj a) rfl (mO (tN i) rfl ?_)))))))
  obtain ⟨x1,hx1⟩:∃x,a[i]? =some x:=⟨_,List.getElem?_eq_getElem (by omega)⟩
  refine fO (OF.indexAddrR (row:=(Qj false x1)) (i:=i) (tv (rd 4 Qj a) rfl) (tv (tN i) rfl) rfl (QA _ hx1) U77 QgI QjX) (lO (OL.loadRn (us:=(Qj false x1)) (tv (T.rp (Qj false x1)) rfl) QjW QgI (lb rfl) rfl) (cO (cS (vc (tv (T.agg (Qj false x1)) rfl) vn) (LendL.cons (lg okeStep) ln) (QdW (n+0) x1) rfl rfl) ?_))
  obtain ⟨x2,hx2⟩:∃x,(a.take i++List.replicate (a.length - i) (D.Step.mk 0 ByteArray.empty 0 0))[i]? =some x:=⟨_,List.getElem?_eq_getElem (by omega)⟩
  refine fO (B.indexAddrO (i:=i) (tv (T.os 4 0 0 (((a.take i++List.replicate (a.length - i) (D.Step.mk 0 ByteArray.empty 0 0)).map (Qj true)).length)) rfl) (tv (tN i) rfl) rfl (by (simp only [List.length_map];omega)) U72 ZZ Y8) (cO (B.storeP (us:=(Qj true x1)) (rows':=(((a.take i++List.replicate (a.length - i) (D.Step.mk 0 ByteArray.empty 0 0)).set i x1).map (Qj true))) (row:=(Qj true x2)) (tv (T.orp 4 0 i 0) rfl) (tv (T.agg (Qj true x1)) rfl) nofun rfl (QA _ hx2) rfl (lb rfl) Y8 ZZ (bc rfl (bc rfl (bc rfl (bc rfl bn)))) (by intro r hr t ht;obtain ⟨x,_,rfl⟩:=List.mem_map.1 hr;rw [Qds] at ht;exact Zs (okeStep.pl _ t ht)) (Zm rfl)) (VRunO.nil (vinB.n (tn (VRun.region (mO (tN i) rfl (fO (QF (tv (tN i) rfl) (VEv.int .i64 1) (by omega)) (aO (tN (i+1)) rfl (VRunO.nil (tn ?_))))))))))
  have he2:((a.take i++List.replicate (a.length - i) (D.Step.mk 0 ByteArray.empty 0 0)).set i x1)=(a.take (i+1)++List.replicate (a.length - (i+1)) (D.Step.mk 0 ByteArray.empty 0 0)):=by exact QaA hx1
  refine ⟨(i+1:Nat),?_,?_,Wk.mk (fun k=>k) ?_ ?_ ?_⟩
  ·trivial
  ·omega
  ·exact (b2 (b2 (bc ⟨(congrArg (fun n_=>T.os 4 0 0 n_) (show ((a.take i++List.replicate (a.length - i) (D.Step.mk 0 ByteArray.empty 0 0)).map (Qj true)).length=((a.take (i+1)++List.replicate (a.length - (i+1)) (D.Step.mk 0 ByteArray.empty 0 0)).map (Qj true)).length from (by (simp only [List.length_map,List.length_set,List.length_append,List.length_take,List.length_replicate,List.length_cons,List.length_nil];omega)))),rfl⟩ (b2 bn))))
  ·exact (bc ⟨(congrArg (fun l_=>some (Obj.rows 4 (List.map (Qj true) l_))) he2),(lb rfl),rfl⟩ bn)
  ·exact nd rfl
 refine VRun.exit (vthn.e (vthn.e (vinB.e (tn (sr (mO (T.os 4 0 0 (((a.take i++List.replicate (a.length - i) (D.Step.mk 0 ByteArray.empty 0 0)).map (Qj true)).length)) rfl (aO (T.os 4 0 0 (((a.take i++List.replicate (a.length - i) (D.Step.mk 0 ByteArray.empty 0 0)).map (Qj true)).length)) rfl (nt (rt ?_)))))))))
 refine vfin.eq (r':=(T.sl true 4 ((a.take i++List.replicate (a.length - i) (D.Step.mk 0 ByteArray.empty 0 0)).map (Qj true)))) ?_ (vfin.r (VRes.tmp (t:=(T.os 4 0 0 (((a.take i++List.replicate (a.length - i) (D.Step.mk 0 ByteArray.empty 0 0)).map (Qj true)).length))) rfl VRes.nil) (Give.os rfl rfl (okeStep.cleanMap _)))
 refine congrArg (fun l_=>T.sl true 4 (List.map (Qj true) l_)) ?_
 exact QbP fhc0
theorem QdX (n:Nat) (a:D.Clue) (ha:QL a≤mx):Pure (Qr Tryz.prog (n+3)) 54 [(T.agg (Qg false a))] (T.agg (Qg true a)):=by
 refine Pure.intro (rs:= [ResultVar.cell 2 74]) Tryz.func54 rfl rfl rfl (E0:= [(0,(T.agg (Qg false a)))]) rfl ?_
 obtain ⟨hlim,hmx,hmax⟩:=QJ
 simp only [QL] at ha
 have hla_Play:=Zi (z:=Zg) a.Play
 refine sr (kO (B.box (ts:=(Qg false a)) (tv (T.agg (Qg false a)) rfl) nofun rfl) (kO (B.alloc (t:=(T.agg [(tN 0),T.nils])) (ts:= [(tN 0),T.nils]) Qkj Qkq nofun (fun _=> .agg _ _ rfl (YD (RL.cons (.int _ _) (RL.cons (.nils) (RL.nil _))))) rfl) (nt (sr (kO (B.alloc (t:=(T.agg [(tN 0),T.nils])) (ts:= [(tN 0),T.nils]) Qkj Qkq nofun (fun _=> .agg _ _ rfl (YD (RL.cons (.int _ _) (RL.cons (.nils) (RL.nil _))))) rfl) (nt (sr (lf (tI a.Sense) rfl QkX rfl rfl Q0 (fO (OF.fieldAddrO (tv (T.op 2 0) rfl) QbR) (cO (B.storeO (us:= [(tI a.Sense)]) (ws:= [(tI a.Sense),T.nils]) (tv (T.op 2 0) rfl) (tv (tI a.Sense) rfl) nofun rfl rfl (lb rfl) Jp Z8 (bc rfl bn) rfl) (nt ?_)))))))))))
 refine sr (lf (rd 4 Qj a.Play) rfl Qh0 rfl rfl QlA (cO (OC.callF (r':=(T.os 4 3 0 ((a.Play.map (Qj true)).length))) (objs:= [(Obj.rows 4 (a.Play.map (Qj true)))]) rfl (vc (tv (rd 4 Qj a.Play) rfl) vn) (Yl rfl) (QdC (n+0) a.Play (by omega)) rfl) (fO (OF.fieldAddrO (tv (T.op 2 0) rfl) Qb7) (cO (B.storeO (us:= [(T.os 4 3 0 ((a.Play.map (Qj true)).length))]) (ws:= [(tI a.Sense),(T.os 4 3 0 ((a.Play.map (Qj true)).length))]) (tv (T.op 2 1) rfl) (tv (T.os 4 3 0 ((a.Play.map (Qj true)).length)) rfl) nofun rfl rfl (lb rfl) Qlp Qld (bc rfl bn) rfl) (nt (sr (lO (OL.loadOn (us:= [(tI a.Sense),(T.os 4 3 0 ((a.Play.map (Qj true)).length))]) (tv (T.op 2 0) rfl) rfl Qgz J7 (lb rfl) rfl) (cO (B.storeW (us:= [(tI a.Sense),(T.os 4 3 0 ((a.Play.map (Qj true)).length))]) (tv (T.op 1 0) rfl) (tv (T.agg [(tI a.Sense),(T.os 4 3 0 ((a.Play.map (Qj true)).length))]) rfl) nofun rfl rfl rfl Qfa J7 (bc rfl (bc rfl bn))) (nt (rt ?_))))))))))
 refine vfin.eq (r':=(T.agg [(tI a.Sense),(T.sl true 4 (a.Play.map (Qj true)))])) ?_ (vfin.r (VRes.celln (ws:= [(tI a.Sense),(T.os 4 3 0 ((a.Play.map (Qj true)).length))]) rfl rfl Qgz J7 (lb rfl) rfl VRes.nil) (Give.agg (GiveL.cons (Give.int _ _) (GiveL.cons (Give.os rfl rfl (okeStep.cleanMap _)) GiveL.nil (by decide)) (by decide))))
 rfl
theorem Qdm (n:Nat) (a:List D.Clue) (ha:zL QL a≤mx):Pure (Qr Tryz.prog (n+4)) 33 [(rd 2 Qg a)] (T.sl true 2 (a.map (Qg true))):=by
 refine Pure.intro (rs:= [ResultVar.tmp 2]) Tryz.func33 rfl rfl rfl (E0:= [(0,(rd 2 Qg a))]) rfl ?_
 obtain ⟨hlim,hmx,hmax⟩:=QJ
 have hla:=Zi (z:=QL) a
 refine sr (fO (OF.assign VEv.nils) (nt (sr (mO (rd 2 Qg a) rfl (lO (B.lenR (m:=a.length) (tv (rd 2 Qg a) rfl) U24 (List.length_map ..)) (kO (B.makeZ (n:=a.length) (m:=((List.replicate a.length (D.Clue.mk 0 [])).map (Qg true)).length) (rows:=((List.replicate a.length (D.Clue.mk 0 [])).map (Qg true))) (zr:=(Qg true (D.Clue.mk 0 []))) (tv (tN a.length) rfl) (tv (tN a.length) rfl) rfl U34 Qkj Qkq rfl (by rw [J7];decide) (by omega) (of_decide_eq_true (by kernel_rfl)) (Z0.int (Z0.sl Z0.nil)) J7 (List.map_replicate ..).symm (by rw [List.length_map,List.length_replicate])) (aO (T.os 2 0 0 (((List.replicate a.length (D.Clue.mk 0 [])).map (Qg true)).length)) rfl (nt (sq (sr (fO (OF.assign (VEv.int .i64 0)) ?_)))))))))))
 refine nt (VRun.block ?_)
 have he1:(List.replicate a.length (D.Clue.mk 0 []))=(a.take 0++List.replicate (a.length - 0) (D.Clue.mk 0 [])):=by rfl
 refine VRun.loop (A:=Nat) (fun s_=> [(0,(rd 2 Qg a)),(2,T.nils),(3,(T.os 2 0 0 (((a.take s_++List.replicate (a.length - s_) (D.Clue.mk 0 [])).map (Qg true)).length))),(4,(tN s_))]) (fun s_=>Q3 [(0,(Obj.rows 2 ((a.take s_++List.replicate (a.length - s_) (D.Clue.mk 0 [])).map (Qg true))))]) 1 (fun s_=>s_≤a.length) (fun s_=>a.length - s_) (0:Nat) ?_ (Wk.mk (fun k=>k) ?_ ?_ ?_) ?_
 ·(simp;done)
 ·exact (b2 (b2 (bc ⟨(congrArg (fun l_=>T.os 2 0 0 (List.map (Qg true) l_).length) he1),rfl⟩ (b2 bn))))
 ·exact (bc ⟨(congrArg (fun l_=>some (Obj.rows 2 (List.map (Qg true) l_))) he1),(lb rfl),rfl⟩ bn)
 ·exact nd rfl
 rintro i (hI':i≤a.length)
 show VRun _ _ _ [(0,(rd 2 Qg a)),(2,T.nils),(3,(T.os 2 0 0 (((a.take i++List.replicate (a.length - i) (D.Clue.mk 0 [])).map (Qg true)).length))),(4,(tN i))] (Q3 [(0,(Obj.rows 2 ((a.take i++List.replicate (a.length - i) (D.Clue.mk 0 [])).map (Qg true))))]) 1 _
 have hfl:=QeA (w:=(D.Clue.mk 0 [])) hI'
 refine sq (sr (mO (tN i) rfl (mO (rd 2 Qg a) rfl (lO (B.lenR (m:=a.length) (tv (rd 2 Qg a) rfl) U24 (List.length_map ..)) (fO (Zt (tv (tN i) rfl) (tv (tN a.length) rfl)) (nt ?_))))))
 refine cd (i<a.length) rfl (fun fhc0=> ?_) fun fhc0=> ?_
 ·refine sk ?_
  refine tn (sq (VRun.block (VRun.region (mO (T.os 2 0 0 (((a.take i++List.replicate (a.length - i) (D.Clue.mk 0 [])).map (Qg true)).length)) rfl (mO (tN i) rfl (mO (rd 2 Qg a) rfl (mO (tN i) rfl ?_)))))))
  obtain ⟨x1,hx1⟩:∃x,a[i]? =some x:=⟨_,List.getElem?_eq_getElem (by omega)⟩
  refine fO (OF.indexAddrR (row:=(Qg false x1)) (i:=i) (tv (rd 2 Qg a) rfl) (tv (tN i) rfl) rfl (QA _ hx1) U24 QjF Qlm) (lO (OL.loadRn (us:=(Qg false x1)) (tv (T.rp (Qg false x1)) rfl) QlB QjF (lb rfl) rfl) (cO (OC.callF (r':=(T.agg [(tI x1.Sense),(T.os 4 1 0 ((x1.Play.map (Qj true)).length))])) (objs:= [(Obj.rows 4 (x1.Play.map (Qj true)))]) rfl (vc (tv (T.agg (Qg false x1)) rfl) vn) (LendL.cons (lg okeClue) ln) (QdX (n+0) x1 (by exact Nat.le_trans (Qej hx1) ha)) rfl) ?_))
  obtain ⟨x2,hx2⟩:∃x,(a.take i++List.replicate (a.length - i) (D.Clue.mk 0 []))[i]? =some x:=⟨_,List.getElem?_eq_getElem (by omega)⟩
  refine fO (B.indexAddrO (i:=i) (tv (T.os 2 0 0 (((a.take i++List.replicate (a.length - i) (D.Clue.mk 0 [])).map (Qg true)).length)) rfl) (tv (tN i) rfl) rfl (by (simp only [List.length_map];omega)) U34 J7 Qfa) (cO (B.storeB (us:= [(tI x1.Sense),(T.os 4 1 0 ((x1.Play.map (Qj true)).length))]) (ws:= [(tI x1.Sense),(T.sl true 4 (x1.Play.map (Qj true)))]) (rows':=(((a.take i++List.replicate (a.length - i) (D.Clue.mk 0 [])).set i x1).map (Qg true))) (row:=(Qg true x2)) (tv (T.orp 2 0 i 0) rfl) (tv (T.agg [(tI x1.Sense),(T.os 4 1 0 ((x1.Play.map (Qj true)).length))]) rfl) nofun rfl (QA _ hx2) rfl (lb rfl) Qfa J7 (bc rfl (bc rfl bn)) (Bury.pl rfl (Bury.os rfl rfl Bury.nil (by decide))) rfl (by decide) (Zm rfl)) (VRunO.nil (vinB.n (tn (VRun.region (mO (tN i) rfl (fO (QF (tv (tN i) rfl) (VEv.int .i64 1) (by omega)) (aO (tN (i+1)) rfl (VRunO.nil (tn ?_))))))))))
  have he2:((a.take i++List.replicate (a.length - i) (D.Clue.mk 0 [])).set i x1)=(a.take (i+1)++List.replicate (a.length - (i+1)) (D.Clue.mk 0 [])):=by exact QaA hx1
  refine ⟨(i+1:Nat),?_,?_,Wk.mk (fun k=>k) ?_ ?_ ?_⟩
  ·trivial
  ·omega
  ·exact (b2 (b2 (bc ⟨(congrArg (fun n_=>T.os 2 0 0 n_) (show ((a.take i++List.replicate (a.length - i) (D.Clue.mk 0 [])).map (Qg true)).length=((a.take (i+1)++List.replicate (a.length - (i+1)) (D.Clue.mk 0 [])).map (Qg true)).length from (by (simp only [List.length_map,List.length_set,List.length_append,List.length_take,List.length_replicate,List.length_cons,List.length_nil];omega)))),rfl⟩ (b2 bn))))
  ·exact (bc ⟨(congrArg (fun l_=>some (Obj.rows 2 (List.map (Qg true) l_))) he2),(lb rfl),rfl⟩ bn)
  ·exact nd rfl
 refine VRun.exit (vthn.e (vthn.e (vinB.e (tn (sr (mO (T.os 2 0 0 (((a.take i++List.replicate (a.length - i) (D.Clue.mk 0 [])).map (Qg true)).length)) rfl (aO (T.os 2 0 0 (((a.take i++List.replicate (a.length - i) (D.Clue.mk 0 [])).map (Qg true)).length)) rfl (nt (rt ?_)))))))))
 refine vfin.eq (r':=(T.sl true 2 ((a.take i++List.replicate (a.length - i) (D.Clue.mk 0 [])).map (Qg true)))) ?_ (vfin.r (VRes.tmp (t:=(T.os 2 0 0 (((a.take i++List.replicate (a.length - i) (D.Clue.mk 0 [])).map (Qg true)).length))) rfl VRes.nil) (Give.os rfl rfl (okeClue.cleanMap _)))
 refine congrArg (fun l_=>T.sl true 2 (List.map (Qg true) l_)) ?_
 exact QbP fhc0
theorem Yb (n:Nat) (a:D.Puzzle) (ha:QS a≤mx):Pure (Qr Tryz.prog (n+5)) 8 [(T.agg (Qs false a))] (T.agg (Qs true a)):=by
 refine Pure.intro (rs:= [ResultVar.cell 2 36]) Tryz.func8 rfl rfl rfl (E0:= [(0,(T.agg (Qs false a)))]) rfl ?_
 obtain ⟨hlim,hmx,hmax⟩:=QJ
 simp only [QS] at ha
 have hla_Clues:=Zi (z:=QL) a.Clues
 have hla_Seals:=Zi (z:=zI) a.Seals
 refine sr (kO (B.box (ts:=(Qs false a)) (tv (T.agg (Qs false a)) rfl) nofun rfl) (kO (B.alloc (t:=(T.agg [(tN 0),(tN 0),(tS ByteArray.empty),T.nils,T.nils,(tN 0)])) (ts:= [(tN 0),(tN 0),(tS ByteArray.empty),T.nils,T.nils,(tN 0)]) Qkn QkE nofun (fun _=> .agg _ _ rfl (YD (RL.cons (.int _ _) (RL.cons (.int _ _) (RL.cons (.str _) (RL.cons (.nils) (RL.cons (.nils) (RL.cons (.int _ _) (RL.nil _))))))))) rfl) (nt (sr (kO (B.alloc (t:=(T.agg [(tN 0),(tN 0),(tS ByteArray.empty),T.nils,T.nils,(tN 0)])) (ts:= [(tN 0),(tN 0),(tS ByteArray.empty),T.nils,T.nils,(tN 0)]) Qkn QkE nofun (fun _=> .agg _ _ rfl (YD (RL.cons (.int _ _) (RL.cons (.int _ _) (RL.cons (.str _) (RL.cons (.nils) (RL.cons (.nils) (RL.cons (.int _ _) (RL.nil _))))))))) rfl) (nt (sr (fO (OF.fieldAddrO (tv (T.op 0 0) rfl) Qiz) (lO (OL.loadOn (us:=(Qa false a.Grid)) (tv (T.op 0 0) rfl) rfl Qlh QkC (lb rfl) rfl) (cO (cS (vc (tv (T.agg (Qa false a.Grid)) rfl) vn) (LendL.cons (lg Qt) ln) (QdM (n+3) a.Grid) rfl rfl) (fO (OF.fieldAddrO (tv (T.op 2 0) rfl) JP) ?_)))))))))))
 refine cO (B.storeO (us:=(Qa true a.Grid)) (ws:= [(tI a.Grid.Rows),(tI a.Grid.Cols),(tS a.Grid.Cells),T.nils,T.nils,(tN 0)]) (tv (T.op 2 0) rfl) (tv (T.agg (Qa true a.Grid)) rfl) nofun rfl rfl (lb rfl) Qgm QR (bc rfl (bc rfl (bc rfl bn))) rfl) (nt (sr (lf (rd 2 Qg a.Clues) rfl Qh6 rfl rfl Qlt (cO (OC.callF (r':=(T.os 2 3 0 ((a.Clues.map (Qg true)).length))) (objs:= [(Obj.rows 2 (a.Clues.map (Qg true)))]) rfl (vc (tv (rd 2 Qg a.Clues) rfl) vn) (Yl rfl) (Qdm (n+0) a.Clues (by first | assumption | omega)) rfl) (fO (OF.fieldAddrO (tv (T.op 2 0) rfl) JX) (cO (B.storeO (us:= [(T.os 2 3 0 ((a.Clues.map (Qg true)).length))]) (ws:= [(tI a.Grid.Rows),(tI a.Grid.Cols),(tS a.Grid.Cells),(T.os 2 3 0 ((a.Clues.map (Qg true)).length)),T.nils,(tN 0)]) (tv (T.op 2 3) rfl) (tv (T.os 2 3 0 ((a.Clues.map (Qg true)).length)) rfl) nofun rfl rfl (lb rfl) QlC Qln (bc rfl bn) rfl) (nt (sr (lf (rd 1 Qd a.Seals) rfl QiJ rfl rfl QbM (cO (OC.callF (r':=(T.os 1 4 0 ((a.Seals.map (Qd true)).length))) (objs:= [(Obj.rows 1 (a.Seals.map (Qd true)))]) rfl (vc (tv (rd 1 Qd a.Seals) rfl) vn) (Yl rfl) (QdN (n+3) a.Seals (by first | assumption | omega)) rfl) (fO (OF.fieldAddrO (tv (T.op 2 0) rfl) Qb3) ?_)))))))))))
 refine cO (B.storeO (us:= [(T.os 1 4 0 ((a.Seals.map (Qd true)).length))]) (ws:= [(tI a.Grid.Rows),(tI a.Grid.Cols),(tS a.Grid.Cells),(T.os 2 3 0 ((a.Clues.map (Qg true)).length)),(T.os 1 4 0 ((a.Seals.map (Qd true)).length)),(tN 0)]) (tv (T.op 2 4) rfl) (tv (T.os 1 4 0 ((a.Seals.map (Qd true)).length)) rfl) nofun rfl rfl (lb rfl) Qge Qd8 (bc rfl bn) rfl) (nt (sr (lf (tI a.Salt) rfl QkA rfl rfl Q0 (fO (OF.fieldAddrO (tv (T.op 2 0) rfl) Qde) (cO (B.storeO (us:= [(tI a.Salt)]) (ws:= [(tI a.Grid.Rows),(tI a.Grid.Cols),(tS a.Grid.Cells),(T.os 2 3 0 ((a.Clues.map (Qg true)).length)),(T.os 1 4 0 ((a.Seals.map (Qd true)).length)),(tI a.Salt)]) (tv (T.op 2 5) rfl) (tv (tI a.Salt) rfl) nofun rfl rfl (lb rfl) Jp Z8 (bc rfl bn) rfl) (nt (sr (lO (OL.loadOn (us:= [(tI a.Grid.Rows),(tI a.Grid.Cols),(tS a.Grid.Cells),(T.os 2 3 0 ((a.Clues.map (Qg true)).length)),(T.os 1 4 0 ((a.Seals.map (Qd true)).length)),(tI a.Salt)]) (tv (T.op 2 0) rfl) rfl Qga QeL (lb rfl) rfl) (cO (B.storeW (us:= [(tI a.Grid.Rows),(tI a.Grid.Cols),(tS a.Grid.Cells),(T.os 2 3 0 ((a.Clues.map (Qg true)).length)),(T.os 1 4 0 ((a.Seals.map (Qd true)).length)),(tI a.Salt)]) (tv (T.op 1 0) rfl) (tv (T.agg [(tI a.Grid.Rows),(tI a.Grid.Cols),(tS a.Grid.Cells),(T.os 2 3 0 ((a.Clues.map (Qg true)).length)),(T.os 1 4 0 ((a.Seals.map (Qd true)).length)),(tI a.Salt)]) rfl) nofun rfl rfl rfl Qlw QeL (bc rfl (bc rfl (bc rfl (bc rfl (bc rfl (bc rfl bn))))))) (nt (rt ?_)))))))))))
 refine vfin.eq (r':=(T.agg [(tI a.Grid.Rows),(tI a.Grid.Cols),(tS a.Grid.Cells),(T.sl true 2 (a.Clues.map (Qg true))),(T.sl true 1 (a.Seals.map (Qd true))),(tI a.Salt)])) ?_ (vfin.r (VRes.celln (ws:= [(tI a.Grid.Rows),(tI a.Grid.Cols),(tS a.Grid.Cells),(T.os 2 3 0 ((a.Clues.map (Qg true)).length)),(T.os 1 4 0 ((a.Seals.map (Qd true)).length)),(tI a.Salt)]) rfl rfl Qga QeL (lb rfl) rfl VRes.nil) (Give.agg (GiveL.cons (Give.int _ _) (GiveL.cons (Give.int _ _) (GiveL.cons (Give.str _) (GiveL.cons (Give.os rfl rfl (okeClue.cleanMap _)) (GiveL.cons (Give.os rfl rfl (okInt.cleanMap _)) (GiveL.cons (Give.int _ _) GiveL.nil (by decide)) (by decide)) (by decide)) (by decide)) (by decide)) (by decide))))
 first | rfl | (exact Q8 (by omega)) | (symm;rw [decide_eq_false_iff_not];omega) | (symm;rw [decide_eq_true_eq];omega) | (simp_all;done)
end Go.Proofs.YthifchndolccgaaGreatDoor.AE
namespace Go.Proofs.YthifchndolccgaaGreatDoor.AE
open Go Go.RowKit
set_option linter.unusedVariables false
set_option linter.unusedSimpArgs false
set_option maxRecDepth 20000
set_option maxHeartbeats 2000000
theorem QaS (n:Nat) (a:List Int) (b:List Int) (hla:a.length≤mx) (hlb:b.length≤mx):Pure (Qr Tryz.prog (n+1)) 38 [(rd 1 Qd a),(rd 1 Qd b)] (tB (decide (a=b))):=by
 refine Pure.intro (rs:= [ResultVar.tmp 4]) Tryz.func38 rfl rfl rfl (E0:= [(0,(rd 1 Qd a)),(1,(rd 1 Qd b))]) rfl ?_
 obtain ⟨hlim,hmx,hmax⟩:=QJ
 refine sr (fO (OF.assign (VEv.bool false)) (nt (sq (sr (mO (rd 1 Qd a) rfl (lO (B.lenR (m:=a.length) (tv (rd 1 Qd a) rfl) YQ (List.length_map ..)) (mO (rd 1 Qd b) rfl (lO (B.lenR (m:=b.length) (tv (rd 1 Qd b) rfl) YQ (List.length_map ..)) (fO (QhC (tv (tN a.length) rfl) (tv (tN b.length) rfl)) (nt ?_))))))))))
 refine cn (a.length=b.length) rfl (fun fhc0=> ?_) fun fhc0=> ?_
 ·refine sr ?_
  refine fO (OF.assign (VEv.bool false)) (nt (rt (tr (vb (b':=false) rfl ?_))))
  symm;rw [decide_eq_false_iff_not];rintro rfl;exact fhc0 rfl
 refine sk (tn (sq (sr (fO (OF.assign (VEv.int .i64 0)) (nt (VRun.block ?_))))))
 refine VRun.loop (A:=Nat) (fun s_=> [(0,(rd 1 Qd a)),(1,(rd 1 Qd b)),(5,(tN s_))]) (fun s_=>Q3 []) 0 (fun s_=>s_≤a.length∧∀j,j<s_→a[j]? =b[j]?) (fun s_=>a.length - s_) (0:Nat) ?_ (Wk.mk (fun k=>k) ?_ ?_ ?_) ?_
 ·(simp;done)
 ·exact (b2 (b2 (b2 bn)))
 ·exact bn
 ·exact nd rfl
 rintro i (hI':i≤a.length∧∀j,j<i→a[j]? =b[j]?)
 show VRun _ _ _ [(0,(rd 1 Qd a)),(1,(rd 1 Qd b)),(5,(tN i))] (Q3 []) 0 _
 refine sq (sr (mO (tN i) rfl (mO (rd 1 Qd a) rfl (lO (B.lenR (m:=a.length) (tv (rd 1 Qd a) rfl) YQ (List.length_map ..)) (fO (Zt (tv (tN i) rfl) (tv (tN a.length) rfl)) (nt ?_))))))
 refine cd (i<a.length) rfl (fun fhc1=> ?_) fun fhc1=> ?_
 ·refine sk ?_
  refine tn (sq (VRun.block (sq (VRun.draw (B:= [[],[],[1,0],[0,1,2],[],[],[5,4],[4,5,6],[6,5,4,7,2,1,0,3]]) (by kernel_rfl) (by kernel_rfl) (mD (rd 1 Qd a) rfl rfl (mD (tN i) rfl rfl ?_))))))
  obtain ⟨x1,hx1⟩:∃x,a[i]? =some x:=⟨_,List.getElem?_eq_getElem (by omega)⟩
  refine fD (OF.indexAddrR (row:=(Qd false x1)) (i:=i) (tv (rd 1 Qd a) rfl) (tv (tN i) rfl) rfl (QA _ hx1) YQ Z8 Jp) rfl rfl (lD (OL.loadR1 (t:=(tI x1)) (tv (T.rp [(tI x1)]) rfl) rfl Q0) rfl rfl (mD (rd 1 Qd b) rfl rfl (mD (tN i) rfl rfl ?_)))
  obtain ⟨x2,hx2⟩:∃x,b[i]? =some x:=⟨_,List.getElem?_eq_getElem (by omega)⟩
  refine fD (OF.indexAddrR (row:=(Qd false x2)) (i:=i) (tv (rd 1 Qd b) rfl) (tv (tN i) rfl) rfl (QA _ hx2) YQ Z8 Jp) rfl rfl (lD (OL.loadR1 (t:=(tI x2)) (tv (T.rp [(tI x2)]) rfl) rfl Q0) rfl rfl (fD (xne (tv (tI x1) rfl) (tv (tI x2) rfl)) rfl rfl (VRunD.nil (tn ?_))))
  refine cn (x1=x2) rfl (fun fhc2=> ?_) fun fhc2=> ?_
  ·refine sr ?_
   refine fO (OF.assign (VEv.bool false)) (nt (rt (vinB.r (tr (tr (vinB.r (tr (vb (b':=false) rfl ?_))))))))
   symm;rw [decide_eq_false_iff_not];exact QbQ hx1 hx2 fhc2
  refine sk (vinB.n (tn (VRun.region (mO (tN i) rfl (fO (QF (tv (tN i) rfl) (VEv.int .i64 1) (by omega)) (aO (tN (i+1)) rfl (VRunO.nil (tn ?_))))))))
  refine ⟨(i+1:Nat),?_,?_,Wk.mk (fun k=>k) ?_ ?_ ?_⟩
  ·exact Qbh hI' hx1 hx2 fhc2
  ·omega
  ·exact (b2 (b2 (b2 bn)))
  ·exact bn
  ·exact nd rfl
 refine VRun.exit (vthn.e (vthn.e (vinB.e (tn (sr (fO (OF.assign (VEv.bool true)) (nt (rt (vb (b':=true) rfl ?_)))))))))
 symm;rw [decide_eq_true_eq];exact Qcr hI' fhc0 fhc1
theorem Qea (n:Nat) (a:D.Grid) (b:D.Grid):Pure (Qr Tryz.prog (n+1)) 39 [(T.agg (Qa false a)),(T.agg (Qa false b))] (tB (decide (a=b))):=by
 refine Pure.intro (rs:= [ResultVar.tmp 4]) Tryz.func39 rfl rfl rfl (E0:= [(0,(T.agg (Qa false a))),(1,(T.agg (Qa false b)))]) rfl ?_
 obtain ⟨hlim,hmx,hmax⟩:=QJ
 refine sr (kO (B.box (ts:=(Qa false a)) (tv (T.agg (Qa false a)) rfl) nofun rfl) (kO (B.box (ts:=(Qa false b)) (tv (T.agg (Qa false b)) rfl) nofun rfl) (fO (OF.assign (VEv.bool false)) (nt (sq (sr (lf (tI a.Rows) rfl JD rfl rfl Q0 (lf (tI b.Rows) rfl JD rfl rfl Q0 (fO (xne (tv (tI a.Rows) rfl) (tv (tI b.Rows) rfl)) (nt ?_))))))))))
 refine cn (a.Rows=b.Rows) rfl (fun fhc0=> ?_) fun fhc0=> ?_
 ·refine sr ?_
  refine fO (OF.assign (VEv.bool false)) (nt (rt (tr (vb (b':=false) rfl ?_))))
  obtain ⟨a0,a1,a2⟩:=a
  obtain ⟨b0,b1,b2⟩:=b
  simp_all
 refine sk (tn (sq (sr (lf (tI a.Cols) rfl Q7 rfl rfl Q0 (lf (tI b.Cols) rfl Q7 rfl rfl Q0 (fO (xne (tv (tI a.Cols) rfl) (tv (tI b.Cols) rfl)) (nt ?_)))))))
 refine cn (a.Cols=b.Cols) rfl (fun fhc1=> ?_) fun fhc1=> ?_
 ·refine sr ?_
  refine fO (OF.assign (VEv.bool false)) (nt (rt (tr (vb (b':=false) rfl ?_))))
  obtain ⟨a0,a1,a2⟩:=a
  obtain ⟨b0,b1,b2⟩:=b
  simp_all
 refine sk (tn (sq (sr (lf (tS a.Cells) rfl QD rfl rfl Z3 (lf (tS b.Cells) rfl QD rfl rfl Z3 (fO (B.sneq (c:=(!(decide (a.Cells=b.Cells)))) (tv (tS a.Cells) rfl) (tv (tS b.Cells) rfl) rfl) (nt ?_)))))))
 refine cn (a.Cells=b.Cells) rfl (fun fhc2=> ?_) fun fhc2=> ?_
 ·refine sr ?_
  refine fO (OF.assign (VEv.bool false)) (nt (rt (tr (vb (b':=false) rfl ?_))))
  obtain ⟨a0,a1,a2⟩:=a
  obtain ⟨b0,b1,b2⟩:=b
  simp_all
 refine sk (tn (sr (fO (OF.assign (VEv.bool true)) (nt (rt (vb (b':=true) rfl ?_))))))
 obtain ⟨a0,a1,a2⟩:=a
 obtain ⟨b0,b1,b2⟩:=b
 simp_all
theorem QdP (n:Nat) (a:D.Step) (b:D.Step):Pure (Qr Tryz.prog (n+1)) 118 [(T.agg (Qj false a)),(T.agg (Qj false b))] (tB (decide (a=b))):=by
 refine Pure.intro (rs:= [ResultVar.tmp 4]) Tryz.func118 rfl rfl rfl (E0:= [(0,(T.agg (Qj false a))),(1,(T.agg (Qj false b)))]) rfl ?_
 obtain ⟨hlim,hmx,hmax⟩:=QJ
 refine sr (kO (B.box (ts:=(Qj false a)) (tv (T.agg (Qj false a)) rfl) nofun rfl) (kO (B.box (ts:=(Qj false b)) (tv (T.agg (Qj false b)) rfl) nofun rfl) (fO (OF.assign (VEv.bool false)) (nt (sq (sr (lf (tI a.Kind) rfl QZ rfl rfl Q0 (lf (tI b.Kind) rfl QZ rfl rfl Q0 (fO (xne (tv (tI a.Kind) rfl) (tv (tI b.Kind) rfl)) (nt ?_))))))))))
 refine cn (a.Kind=b.Kind) rfl (fun fhc0=> ?_) fun fhc0=> ?_
 ·refine sr ?_
  refine fO (OF.assign (VEv.bool false)) (nt (rt (tr (vb (b':=false) rfl ?_))))
  obtain ⟨a0,a1,a2,a3⟩:=a
  obtain ⟨b0,b1,b2,b3⟩:=b
  simp_all
 refine sk (tn (sq (sr (lf (tS a.Word) rfl Jr rfl rfl Z3 (lf (tS b.Word) rfl Jr rfl rfl Z3 (fO (B.sneq (c:=(!(decide (a.Word=b.Word)))) (tv (tS a.Word) rfl) (tv (tS b.Word) rfl) rfl) (nt ?_)))))))
 refine cn (a.Word=b.Word) rfl (fun fhc1=> ?_) fun fhc1=> ?_
 ·refine sr ?_
  refine fO (OF.assign (VEv.bool false)) (nt (rt (tr (vb (b':=false) rfl ?_))))
  obtain ⟨a0,a1,a2,a3⟩:=a
  obtain ⟨b0,b1,b2,b3⟩:=b
  simp_all
 refine sk (tn (sq (sr (lf (tI a.A) rfl Ye rfl rfl Q0 (lf (tI b.A) rfl Ye rfl rfl Q0 (fO (xne (tv (tI a.A) rfl) (tv (tI b.A) rfl)) (nt ?_)))))))
 refine cn (a.A=b.A) rfl (fun fhc2=> ?_) fun fhc2=> ?_
 ·refine sr ?_
  refine fO (OF.assign (VEv.bool false)) (nt (rt (tr (vb (b':=false) rfl ?_))))
  obtain ⟨a0,a1,a2,a3⟩:=a
  obtain ⟨b0,b1,b2,b3⟩:=b
  simp_all
 refine sk (tn (sq (sr (lf (tI a.B) rfl ZS rfl rfl Q0 (lf (tI b.B) rfl ZS rfl rfl Q0 (fO (xne (tv (tI a.B) rfl) (tv (tI b.B) rfl)) (nt ?_)))))))
 refine cn (a.B=b.B) rfl (fun fhc3=> ?_) fun fhc3=> ?_
 ·refine sr ?_
  refine fO (OF.assign (VEv.bool false)) (nt (rt (tr (vb (b':=false) rfl ?_))))
  obtain ⟨a0,a1,a2,a3⟩:=a
  obtain ⟨b0,b1,b2,b3⟩:=b
  simp_all
 refine sk (tn (sr (fO (OF.assign (VEv.bool true)) (nt (rt (vb (b':=true) rfl ?_))))))
 obtain ⟨a0,a1,a2,a3⟩:=a
 obtain ⟨b0,b1,b2,b3⟩:=b
 simp_all
theorem Qdo (n:Nat) (a:List D.Step) (b:List D.Step) (hla:a.length≤mx) (hlb:b.length≤mx):Pure (Qr Tryz.prog (n+2)) 86 [(rd 4 Qj a),(rd 4 Qj b)] (tB (decide (a=b))):=by
 refine Pure.intro (rs:= [ResultVar.tmp 4]) Tryz.func86 rfl rfl rfl (E0:= [(0,(rd 4 Qj a)),(1,(rd 4 Qj b))]) rfl ?_
 obtain ⟨hlim,hmx,hmax⟩:=QJ
 refine sr (fO (OF.assign (VEv.bool false)) (nt (sq (sr (mO (rd 4 Qj a) rfl (lO (B.lenR (m:=a.length) (tv (rd 4 Qj a) rfl) U72 (List.length_map ..)) (mO (rd 4 Qj b) rfl (lO (B.lenR (m:=b.length) (tv (rd 4 Qj b) rfl) U72 (List.length_map ..)) (fO (QhC (tv (tN a.length) rfl) (tv (tN b.length) rfl)) (nt ?_))))))))))
 refine cn (a.length=b.length) rfl (fun fhc0=> ?_) fun fhc0=> ?_
 ·refine sr ?_
  refine fO (OF.assign (VEv.bool false)) (nt (rt (tr (vb (b':=false) rfl ?_))))
  symm;rw [decide_eq_false_iff_not];rintro rfl;exact fhc0 rfl
 refine sk (tn (sq (sr (fO (OF.assign (VEv.int .i64 0)) (nt (VRun.block ?_))))))
 refine VRun.loop (A:=Nat) (fun s_=> [(0,(rd 4 Qj a)),(1,(rd 4 Qj b)),(5,(tN s_))]) (fun s_=>Q3 []) 0 (fun s_=>s_≤a.length∧∀j,j<s_→a[j]? =b[j]?) (fun s_=>a.length - s_) (0:Nat) ?_ (Wk.mk (fun k=>k) ?_ ?_ ?_) ?_
 ·(simp;done)
 ·exact (b2 (b2 (b2 bn)))
 ·exact bn
 ·exact nd rfl
 rintro i (hI':i≤a.length∧∀j,j<i→a[j]? =b[j]?)
 show VRun _ _ _ [(0,(rd 4 Qj a)),(1,(rd 4 Qj b)),(5,(tN i))] (Q3 []) 0 _
 refine sq (sr (mO (tN i) rfl (mO (rd 4 Qj a) rfl (lO (B.lenR (m:=a.length) (tv (rd 4 Qj a) rfl) U72 (List.length_map ..)) (fO (Zt (tv (tN i) rfl) (tv (tN a.length) rfl)) (nt ?_))))))
 refine cd (i<a.length) rfl (fun fhc1=> ?_) fun fhc1=> ?_
 ·refine sk ?_
  refine tn (sq (VRun.block (sq (VRun.draw (B:= [[],[],[1,0],[0,1,2],[],[],[5,4],[4,5,6],[6,5,4,7,2,1,0,3],[3,0,1,2,7,4,5,6,8]]) (by kernel_rfl) (by kernel_rfl) (mD (rd 4 Qj a) rfl rfl (mD (tN i) rfl rfl ?_))))))
  obtain ⟨x1,hx1⟩:∃x,a[i]? =some x:=⟨_,List.getElem?_eq_getElem (by omega)⟩
  refine fD (OF.indexAddrR (row:=(Qj false x1)) (i:=i) (tv (rd 4 Qj a) rfl) (tv (tN i) rfl) rfl (QA _ hx1) U72 ZZ Y8) rfl rfl (lD (OL.loadRn (us:=(Qj false x1)) (tv (T.rp (Qj false x1)) rfl) Qee ZZ (lb rfl) rfl) rfl rfl (mD (rd 4 Qj b) rfl rfl (mD (tN i) rfl rfl ?_)))
  obtain ⟨x2,hx2⟩:∃x,b[i]? =some x:=⟨_,List.getElem?_eq_getElem (by omega)⟩
  refine fD (OF.indexAddrR (row:=(Qj false x2)) (i:=i) (tv (rd 4 Qj b) rfl) (tv (tN i) rfl) rfl (QA _ hx2) U72 ZZ Y8) rfl rfl (lD (OL.loadRn (us:=(Qj false x2)) (tv (T.rp (Qj false x2)) rfl) Qee ZZ (lb rfl) rfl) rfl rfl (VRunD.quiet (bi:= [6,5,4,7,2,1,0,3]) rfl VWant.always rfl rfl rfl bn (cS (vc (tv (T.agg (Qj false x1)) rfl) (vc (tv (T.agg (Qj false x2)) rfl) vn)) (LendL.cons (lg okeStep) (LendL.cons (lg okeStep) ln)) (QdP (n+0) x1 x2) rfl rfl) (fD (Q1 (tv (tB (decide (x1=x2))) rfl)) rfl rfl (VRunD.nil (tn ?_)))))
  refine cn (x1=x2) rfl (fun fhc2=> ?_) fun fhc2=> ?_
  ·refine sr ?_
   refine fO (OF.assign (VEv.bool false)) (nt (rt (vinB.r (tr (tr (vinB.r (tr (vb (b':=false) rfl ?_))))))))
   symm;rw [decide_eq_false_iff_not];exact QbQ hx1 hx2 fhc2
  refine sk (vinB.n (tn (VRun.region (mO (tN i) rfl (fO (QF (tv (tN i) rfl) (VEv.int .i64 1) (by omega)) (aO (tN (i+1)) rfl (VRunO.nil (tn ?_))))))))
  refine ⟨(i+1:Nat),?_,?_,Wk.mk (fun k=>k) ?_ ?_ ?_⟩
  ·exact Qbh hI' hx1 hx2 fhc2
  ·omega
  ·exact (b2 (b2 (b2 bn)))
  ·exact bn
  ·exact nd rfl
 refine VRun.exit (vthn.e (vthn.e (vinB.e (tn (sr (fO (OF.assign (VEv.bool true)) (nt (rt (vb (b':=true) rfl ?_)))))))))
 symm;rw [decide_eq_true_eq];exact Qcr hI' fhc0 fhc1
theorem Qd0 (n:Nat) (a:D.Clue) (b:D.Clue) (ha:QL a≤mx) (hb:QL b≤mx):Pure (Qr Tryz.prog (n+3)) 62 [(T.agg (Qg false a)),(T.agg (Qg false b))] (tB (decide (a=b))):=by
 refine Pure.intro (rs:= [ResultVar.tmp 4]) Tryz.func62 rfl rfl rfl (E0:= [(0,(T.agg (Qg false a))),(1,(T.agg (Qg false b)))]) rfl ?_
 obtain ⟨hlim,hmx,hmax⟩:=QJ
 simp only [QL] at ha hb
 have hla_Play:=Zi (z:=Zg) a.Play
 have hlb_Play:=Zi (z:=Zg) b.Play
 refine sr (kO (B.box (ts:=(Qg false a)) (tv (T.agg (Qg false a)) rfl) nofun rfl) (kO (B.box (ts:=(Qg false b)) (tv (T.agg (Qg false b)) rfl) nofun rfl) (fO (OF.assign (VEv.bool false)) (nt (sq (sr (lf (tI a.Sense) rfl QbR rfl rfl Q0 (lf (tI b.Sense) rfl QbR rfl rfl Q0 (fO (xne (tv (tI a.Sense) rfl) (tv (tI b.Sense) rfl)) (nt ?_))))))))))
 refine cn (a.Sense=b.Sense) rfl (fun fhc0=> ?_) fun fhc0=> ?_
 ·refine sr ?_
  refine fO (OF.assign (VEv.bool false)) (nt (rt (tr (vb (b':=false) rfl ?_))))
  obtain ⟨a0,a1⟩:=a
  obtain ⟨b0,b1⟩:=b
  simp_all
 refine sk (tn (sq (sr (lf (rd 4 Qj a.Play) rfl Qb7 rfl rfl Qih (lf (rd 4 Qj b.Play) rfl Qb7 rfl rfl Qih (cO (cS (vc (tv (rd 4 Qj a.Play) rfl) (vc (tv (rd 4 Qj b.Play) rfl) vn)) (Yl rfl) (Qdo (n+0) a.Play b.Play (by omega) (by omega)) rfl rfl) (fO (Q1 (tv (tB (decide (a.Play=b.Play))) rfl)) (nt ?_))))))))
 refine cn (a.Play=b.Play) rfl (fun fhc1=> ?_) fun fhc1=> ?_
 ·refine sr ?_
  refine fO (OF.assign (VEv.bool false)) (nt (rt (tr (vb (b':=false) rfl ?_))))
  obtain ⟨a0,a1⟩:=a
  obtain ⟨b0,b1⟩:=b
  simp_all
 refine sk (tn (sr (fO (OF.assign (VEv.bool true)) (nt (rt (vb (b':=true) rfl ?_))))))
 obtain ⟨a0,a1⟩:=a
 obtain ⟨b0,b1⟩:=b
 simp_all
theorem Qdi (n:Nat) (a:List D.Clue) (b:List D.Clue) (ha:zL QL a≤mx) (hb:zL QL b≤mx):Pure (Qr Tryz.prog (n+4)) 40 [(rd 2 Qg a),(rd 2 Qg b)] (tB (decide (a=b))):=by
 refine Pure.intro (rs:= [ResultVar.tmp 4]) Tryz.func40 rfl rfl rfl (E0:= [(0,(rd 2 Qg a)),(1,(rd 2 Qg b))]) rfl ?_
 obtain ⟨hlim,hmx,hmax⟩:=QJ
 have hla:=Zi (z:=QL) a
 have hlb:=Zi (z:=QL) b
 refine sr (fO (OF.assign (VEv.bool false)) (nt (sq (sr (mO (rd 2 Qg a) rfl (lO (B.lenR (m:=a.length) (tv (rd 2 Qg a) rfl) U34 (List.length_map ..)) (mO (rd 2 Qg b) rfl (lO (B.lenR (m:=b.length) (tv (rd 2 Qg b) rfl) U34 (List.length_map ..)) (fO (QhC (tv (tN a.length) rfl) (tv (tN b.length) rfl)) (nt ?_))))))))))
 refine cn (a.length=b.length) rfl (fun fhc0=> ?_) fun fhc0=> ?_
 ·refine sr ?_
  refine fO (OF.assign (VEv.bool false)) (nt (rt (tr (vb (b':=false) rfl ?_))))
  symm;rw [decide_eq_false_iff_not];rintro rfl;exact fhc0 rfl
 refine sk (tn (sq (sr (fO (OF.assign (VEv.int .i64 0)) (nt (VRun.block ?_))))))
 refine VRun.loop (A:=Nat) (fun s_=> [(0,(rd 2 Qg a)),(1,(rd 2 Qg b)),(5,(tN s_))]) (fun s_=>Q3 []) 0 (fun s_=>s_≤a.length∧∀j,j<s_→a[j]? =b[j]?) (fun s_=>a.length - s_) (0:Nat) ?_ (Wk.mk (fun k=>k) ?_ ?_ ?_) ?_
 ·(simp;done)
 ·exact (b2 (b2 (b2 bn)))
 ·exact bn
 ·exact nd rfl
 rintro i (hI':i≤a.length∧∀j,j<i→a[j]? =b[j]?)
 show VRun _ _ _ [(0,(rd 2 Qg a)),(1,(rd 2 Qg b)),(5,(tN i))] (Q3 []) 0 _
 refine sq (sr (mO (tN i) rfl (mO (rd 2 Qg a) rfl (lO (B.lenR (m:=a.length) (tv (rd 2 Qg a) rfl) U34 (List.length_map ..)) (fO (Zt (tv (tN i) rfl) (tv (tN a.length) rfl)) (nt ?_))))))
 refine cd (i<a.length) rfl (fun fhc1=> ?_) fun fhc1=> ?_
 ·refine sk ?_
  refine tn (sq (VRun.block (sq (VRun.draw (B:= [[],[],[1,0],[0,1,2],[],[],[5,4],[4,5,6],[6,5,4,7,2,1,0,3],[3,0,1,2,7,4,5,6,8]]) (by kernel_rfl) (by kernel_rfl) (mD (rd 2 Qg a) rfl rfl (mD (tN i) rfl rfl ?_))))))
  obtain ⟨x1,hx1⟩:∃x,a[i]? =some x:=⟨_,List.getElem?_eq_getElem (by omega)⟩
  refine fD (OF.indexAddrR (row:=(Qg false x1)) (i:=i) (tv (rd 2 Qg a) rfl) (tv (tN i) rfl) rfl (QA _ hx1) U34 J7 Qfa) rfl rfl (lD (OL.loadRn (us:=(Qg false x1)) (tv (T.rp (Qg false x1)) rfl) Qgz J7 (lb rfl) rfl) rfl rfl (mD (rd 2 Qg b) rfl rfl (mD (tN i) rfl rfl ?_)))
  obtain ⟨x2,hx2⟩:∃x,b[i]? =some x:=⟨_,List.getElem?_eq_getElem (by omega)⟩
  refine fD (OF.indexAddrR (row:=(Qg false x2)) (i:=i) (tv (rd 2 Qg b) rfl) (tv (tN i) rfl) rfl (QA _ hx2) U34 J7 Qfa) rfl rfl (lD (OL.loadRn (us:=(Qg false x2)) (tv (T.rp (Qg false x2)) rfl) Qgz J7 (lb rfl) rfl) rfl rfl (VRunD.quiet (bi:= [6,5,4,7,2,1,0,3]) rfl VWant.always rfl rfl rfl bn (cS (vc (tv (T.agg (Qg false x1)) rfl) (vc (tv (T.agg (Qg false x2)) rfl) vn)) (LendL.cons (lg okeClue) (LendL.cons (lg okeClue) ln)) (Qd0 (n+0) x1 x2 (by exact Nat.le_trans (Qej hx1) ha) (by exact Nat.le_trans (Qej hx2) hb)) rfl rfl) (fD (Q1 (tv (tB (decide (x1=x2))) rfl)) rfl rfl (VRunD.nil (tn ?_)))))
  refine cn (x1=x2) rfl (fun fhc2=> ?_) fun fhc2=> ?_
  ·refine sr ?_
   refine fO (OF.assign (VEv.bool false)) (nt (rt (vinB.r (tr (tr (vinB.r (tr (vb (b':=false) rfl ?_))))))))
   symm;rw [decide_eq_false_iff_not];exact QbQ hx1 hx2 fhc2
  refine sk (vinB.n (tn (VRun.region (mO (tN i) rfl (fO (QF (tv (tN i) rfl) (VEv.int .i64 1) (by omega)) (aO (tN (i+1)) rfl (VRunO.nil (tn ?_))))))))
  refine ⟨(i+1:Nat),?_,?_,Wk.mk (fun k=>k) ?_ ?_ ?_⟩
  ·exact Qbh hI' hx1 hx2 fhc2
  ·omega
  ·exact (b2 (b2 (b2 bn)))
  ·exact bn
  ·exact nd rfl
 refine VRun.exit (vthn.e (vthn.e (vinB.e (tn (sr (fO (OF.assign (VEv.bool true)) (nt (rt (vb (b':=true) rfl ?_)))))))))
 symm;rw [decide_eq_true_eq];exact Qcr hI' fhc0 fhc1
theorem QcR (n:Nat) (a:D.Puzzle) (b:D.Puzzle) (ha:QS a≤mx) (hb:QS b≤mx):Pure (Qr Tryz.prog (n+5)) 11 [(T.agg (Qs false a)),(T.agg (Qs false b))] (tB (decide (a=b))):=by
 refine Pure.intro (rs:= [ResultVar.tmp 4]) Tryz.func11 rfl rfl rfl (E0:= [(0,(T.agg (Qs false a))),(1,(T.agg (Qs false b)))]) rfl ?_
 obtain ⟨hlim,hmx,hmax⟩:=QJ
 simp only [QS] at ha hb
 have hla_Clues:=Zi (z:=QL) a.Clues
 have hla_Seals:=Zi (z:=zI) a.Seals
 have hlb_Clues:=Zi (z:=QL) b.Clues
 have hlb_Seals:=Zi (z:=zI) b.Seals
 refine sr (kO (B.box (ts:=(Qs false a)) (tv (T.agg (Qs false a)) rfl) nofun rfl) (kO (B.box (ts:=(Qs false b)) (tv (T.agg (Qs false b)) rfl) nofun rfl) (fO (OF.assign (VEv.bool false)) (nt (sq (sr (fO (OF.fieldAddrO (tv (T.op 0 0) rfl) JP) (lO (OL.loadOn (us:=(Qa false a.Grid)) (tv (T.op 0 0) rfl) rfl QY QR (lb rfl) rfl) (fO (OF.fieldAddrO (tv (T.op 1 0) rfl) JP) (lO (OL.loadOn (us:=(Qa false b.Grid)) (tv (T.op 1 0) rfl) rfl QY QR (lb rfl) rfl) (cO (cS (vc (tv (T.agg (Qa false a.Grid)) rfl) (vc (tv (T.agg (Qa false b.Grid)) rfl) vn)) (LendL.cons (lg Qt) (LendL.cons (lg Qt) ln)) (Qea (n+3) a.Grid b.Grid) rfl rfl) ?_)))))))))))
 refine fO (Q1 (tv (tB (decide (a.Grid=b.Grid))) rfl)) (nt ?_)
 refine cn (a.Grid=b.Grid) rfl (fun fhc0=> ?_) fun fhc0=> ?_
 ·refine sr ?_
  refine fO (OF.assign (VEv.bool false)) (nt (rt (tr (vb (b':=false) rfl ?_))))
  obtain ⟨a0,a1,a2,a3⟩:=a
  obtain ⟨b0,b1,b2,b3⟩:=b
  simp_all
 refine sk (tn (sq (sr (lf (rd 2 Qg a.Clues) rfl JX rfl rfl QfF (lf (rd 2 Qg b.Clues) rfl JX rfl rfl QfF (cO (cS (vc (tv (rd 2 Qg a.Clues) rfl) (vc (tv (rd 2 Qg b.Clues) rfl) vn)) (Yl rfl) (Qdi (n+0) a.Clues b.Clues (by first | assumption | omega) (by first | assumption | omega)) rfl rfl) (fO (Q1 (tv (tB (decide (a.Clues=b.Clues))) rfl)) (nt ?_))))))))
 refine cn (a.Clues=b.Clues) rfl (fun fhc1=> ?_) fun fhc1=> ?_
 ·refine sr ?_
  refine fO (OF.assign (VEv.bool false)) (nt (rt (tr (vb (b':=false) rfl ?_))))
  obtain ⟨a0,a1,a2,a3⟩:=a
  obtain ⟨b0,b1,b2,b3⟩:=b
  simp_all
 refine sk (tn (sq (sr (lf (rd 1 Qd a.Seals) rfl Qb3 rfl rfl QbM (lf (rd 1 Qd b.Seals) rfl Qb3 rfl rfl QbM (cO (cS (vc (tv (rd 1 Qd a.Seals) rfl) (vc (tv (rd 1 Qd b.Seals) rfl) vn)) (Yl rfl) (QaS (n+3) a.Seals b.Seals (by first | assumption | omega) (by first | assumption | omega)) rfl rfl) (fO (Q1 (tv (tB (decide (a.Seals=b.Seals))) rfl)) (nt ?_))))))))
 refine cn (a.Seals=b.Seals) rfl (fun fhc2=> ?_) fun fhc2=> ?_
 ·refine sr ?_
  refine fO (OF.assign (VEv.bool false)) (nt (rt (tr (vb (b':=false) rfl ?_))))
  obtain ⟨a0,a1,a2,a3⟩:=a
  obtain ⟨b0,b1,b2,b3⟩:=b
  simp_all
 refine sk (tn (sq (sr (lf (tI a.Salt) rfl Qde rfl rfl Q0 (lf (tI b.Salt) rfl Qde rfl rfl Q0 (fO (xne (tv (tI a.Salt) rfl) (tv (tI b.Salt) rfl)) (nt ?_)))))))
 refine cn (a.Salt=b.Salt) rfl (fun fhc3=> ?_) fun fhc3=> ?_
 ·refine sr ?_
  refine fO (OF.assign (VEv.bool false)) (nt (rt (tr (vb (b':=false) rfl ?_))))
  obtain ⟨a0,a1,a2,a3⟩:=a
  obtain ⟨b0,b1,b2,b3⟩:=b
  simp_all
 refine sk (tn (sr (fO (OF.assign (VEv.bool true)) (nt (rt (vb (b':=true) rfl ?_))))))
 obtain ⟨a0,a1,a2,a3⟩:=a
 obtain ⟨b0,b1,b2,b3⟩:=b
 simp_all
theorem YF (n:Nat) (a:D.Session) (b:D.Session) (ha:Qad a≤mx) (hb:Qad b≤mx):Pure (Qr Tryz.prog (n+2)) 10 [(T.agg (Q4 false a)),(T.agg (Q4 false b))] (tB (decide (a=b))):=by
 refine Pure.intro (rs:= [ResultVar.tmp 4]) Tryz.func10 rfl rfl rfl (E0:= [(0,(T.agg (Q4 false a))),(1,(T.agg (Q4 false b)))]) rfl ?_
 obtain ⟨hlim,hmx,hmax⟩:=QJ
 simp only [Qad] at ha hb
 have hla_Asked:=Zi (z:=zI) a.Asked
 have hlb_Asked:=Zi (z:=zI) b.Asked
 refine sr (kO (B.box (ts:=(Q4 false a)) (tv (T.agg (Q4 false a)) rfl) nofun rfl) (kO (B.box (ts:=(Q4 false b)) (tv (T.agg (Q4 false b)) rfl) nofun rfl) (fO (OF.assign (VEv.bool false)) (nt (sq (sr (lf (tS a.Fill) rfl Qjh rfl rfl Z3 (lf (tS b.Fill) rfl Qjh rfl rfl Z3 (fO (B.sneq (c:=(!(decide (a.Fill=b.Fill)))) (tv (tS a.Fill) rfl) (tv (tS b.Fill) rfl) rfl) (nt ?_))))))))))
 refine cn (a.Fill=b.Fill) rfl (fun fhc0=> ?_) fun fhc0=> ?_
 ·refine sr ?_
  refine fO (OF.assign (VEv.bool false)) (nt (rt (tr (vb (b':=false) rfl ?_))))
  obtain ⟨a0,a1,a2,a3,a4,a5⟩:=a
  obtain ⟨b0,b1,b2,b3,b4,b5⟩:=b
  simp_all
 refine sk (tn (sq (sr (lf (tI a.Checks) rfl QiW rfl rfl Q0 (lf (tI b.Checks) rfl QiW rfl rfl Q0 (fO (xne (tv (tI a.Checks) rfl) (tv (tI b.Checks) rfl)) (nt ?_)))))))
 refine cn (a.Checks=b.Checks) rfl (fun fhc1=> ?_) fun fhc1=> ?_
 ·refine sr ?_
  refine fO (OF.assign (VEv.bool false)) (nt (rt (tr (vb (b':=false) rfl ?_))))
  obtain ⟨a0,a1,a2,a3,a4,a5⟩:=a
  obtain ⟨b0,b1,b2,b3,b4,b5⟩:=b
  simp_all
 refine sk (tn (sq (sr (lf (tI a.Spent) rfl Qi1 rfl rfl Q0 (lf (tI b.Spent) rfl Qi1 rfl rfl Q0 (fO (xne (tv (tI a.Spent) rfl) (tv (tI b.Spent) rfl)) (nt ?_)))))))
 refine cn (a.Spent=b.Spent) rfl (fun fhc2=> ?_) fun fhc2=> ?_
 ·refine sr ?_
  refine fO (OF.assign (VEv.bool false)) (nt (rt (tr (vb (b':=false) rfl ?_))))
  obtain ⟨a0,a1,a2,a3,a4,a5⟩:=a
  obtain ⟨b0,b1,b2,b3,b4,b5⟩:=b
  simp_all
 refine sk (tn (sq (sr (lf (rd 1 Qd a.Asked) rfl Qex rfl rfl QbM (lf (rd 1 Qd b.Asked) rfl Qex rfl rfl QbM (cO (cS (vc (tv (rd 1 Qd a.Asked) rfl) (vc (tv (rd 1 Qd b.Asked) rfl) vn)) (Yl rfl) (QaS (n+0) a.Asked b.Asked (by first | assumption | omega) (by first | assumption | omega)) rfl rfl) (fO (Q1 (tv (tB (decide (a.Asked=b.Asked))) rfl)) (nt ?_))))))))
 refine cn (a.Asked=b.Asked) rfl (fun fhc3=> ?_) fun fhc3=> ?_
 ·refine sr ?_
  refine fO (OF.assign (VEv.bool false)) (nt (rt (tr (vb (b':=false) rfl ?_))))
  obtain ⟨a0,a1,a2,a3,a4,a5⟩:=a
  obtain ⟨b0,b1,b2,b3,b4,b5⟩:=b
  simp_all
 refine sk (tn (sq (sr (lf (tI a.Start) rfl Qjf rfl rfl Q0 (lf (tI b.Start) rfl Qjf rfl rfl Q0 (fO (xne (tv (tI a.Start) rfl) (tv (tI b.Start) rfl)) (nt ?_)))))))
 refine cn (a.Start=b.Start) rfl (fun fhc4=> ?_) fun fhc4=> ?_
 ·refine sr ?_
  refine fO (OF.assign (VEv.bool false)) (nt (rt (tr (vb (b':=false) rfl ?_))))
  obtain ⟨a0,a1,a2,a3,a4,a5⟩:=a
  obtain ⟨b0,b1,b2,b3,b4,b5⟩:=b
  simp_all
 refine sk (tn (sq (sr (lf (tI a.Now) rfl QiG rfl rfl Q0 (lf (tI b.Now) rfl QiG rfl rfl Q0 (fO (xne (tv (tI a.Now) rfl) (tv (tI b.Now) rfl)) (nt ?_)))))))
 refine cn (a.Now=b.Now) rfl (fun fhc5=> ?_) fun fhc5=> ?_
 ·refine sr ?_
  refine fO (OF.assign (VEv.bool false)) (nt (rt (tr (vb (b':=false) rfl ?_))))
  obtain ⟨a0,a1,a2,a3,a4,a5⟩:=a
  obtain ⟨b0,b1,b2,b3,b4,b5⟩:=b
  simp_all
 refine sk (tn (sr (fO (OF.assign (VEv.bool true)) (nt (rt (vb (b':=true) rfl ?_))))))
 obtain ⟨a0,a1,a2,a3,a4,a5⟩:=a
 obtain ⟨b0,b1,b2,b3,b4,b5⟩:=b
 simp_all
end Go.Proofs.YthifchndolccgaaGreatDoor.AE
namespace Go.Proofs.YthifchndolccgaaGreatDoor.AE
open Go Go.RowKit
set_option linter.unusedVariables false
set_option linter.unusedSimpArgs false
set_option maxRecDepth 20000
set_option maxHeartbeats 2000000
noncomputable section
theorem QX {ok:Nat→Prop} {i n:Nat} (h:i≤n∧∀j,j<i→ok j) (hi:i<n) (hk:ok i):i+1≤n∧∀j,j<i+1→ok j:=by
 refine ⟨hi,fun j hj=> ?_⟩
 rcases Nat.lt_or_ge j i with h1 | h1
 ·exact h.2 j h1
 ·obtain rfl:j=i:=by omega
  exact hk
theorem JS {ok:Nat→Prop} {i n:Nat} (h:i≤n∧∀j,j<i→ok j) (hi:¬i<n):∀j,j<n→ok j:=fun j hj=>h.2 j (by omega)
theorem QgX {α:Type} {l:List α} {i:Nat} {x y:α} (hx:l[i]? =some x) (hy:l[i]? =some y):y=x:=by
 rw [hx] at hy
 exact (Option.some.inj hy).symm
def Z1 (s:ByteArray):Prop:=(1≤s.size∧s.size≤8)∧∀i,i<s.size→97≤QB s i∧QB s i≤122
instance (s:ByteArray):Decidable (Z1 s):=Classical.propDecidable _
def ixF {α:Type} (p:α→Prop) [DecidablePred p]:List α→Int
 | []=> -1
 | x::r=>if p x then 0 else if ixF p r<0 then -1 else ixF p r+1
theorem Qcc {α:Type} {p:α→Prop} [DecidablePred p]:∀ {l:List α} {i:Nat} {x:α},l[i]? =some x→p x→(∀j y,j<i→l[j]? =some y→¬p y)→ixF p l=i
 | [],i,x,h,_,_=>by simp at h
 | y::r,0,x,h,hp,_=>by
  obtain rfl:y=x:=by simpa using h
  simp only [ixF,if_pos hp]
  rfl
 | y::r,i+1,x,h,hp,hn=>by
  have h1:=Qcc (l:=r) (i:=i) (by simpa using h) hp (fun j z hj hz=>hn (j+1) z (by omega) (by simpa using hz))
  have h2:¬p y:=hn 0 y (by omega) (by simp)
  simp only [ixF,if_neg h2,h1]
  rw [if_neg (by omega)]
  rfl
theorem Qdj {α:Type} {p:α→Prop} [DecidablePred p]:∀ {l:List α},(∀j y,j<l.length→l[j]? =some y→¬p y)→ixF p l= -1
 | [],_=>rfl
 | y::r,hn=>by
  have h1:=Qdj (l:=r) (fun j z hj hz=>hn (j+1) z (by simp;omega) (by simpa using hz))
  have h2:¬p y:=hn 0 y (by simp) (by simp)
  simp only [ixF,if_neg h2,h1]
  rfl
theorem QgC {α:Type} {p:α→Prop} [DecidablePred p]:∀ {l:List α},0≤ixF p l↔∃x∈l,p x
 | []=>by simp [ixF]
 | y::r=>by
  have h1:=QgC (p:=p) (l:=r)
  simp only [ixF,List.mem_cons,exists_eq_or_imp]
  by_cases hy:p y
  ·simp [hy]
  ·simp only [if_neg hy,hy,false_or]
   rw [← h1]
   by_cases h:ixF p r<0
   ·rw [if_pos h]
    exact ⟨fun h2=>absurd h2 (by decide),fun h2=>by omega⟩
   ·rw [if_neg h]
    exact ⟨fun h2=>by omega,fun h2=>by omega⟩
def NoneTo {α:Type} (p:α→Prop) (l:List α) (i:Nat):Prop:=i≤l.length∧∀j y,j<i→l[j]? =some y→¬p y
theorem NoneTo.start {α:Type} (p:α→Prop) (l:List α):NoneTo p l 0:=⟨Nat.zero_le _,fun j y hj=>by omega⟩
theorem NoneTo.next {α:Type} {p:α→Prop} {l:List α} {i:Nat} {x:α} (h:NoneTo p l i) (hx:l[i]? =some x) (hn:¬p x):NoneTo p l (i+1):=by
 have:=(List.getElem?_eq_some_iff.1 hx).1
 refine ⟨by omega,fun j y hj hy=> ?_⟩
 rcases Nat.lt_or_ge j i with h1 | h1
 ·exact h.2 j y h1 hy
 ·obtain rfl:j=i:=by omega
  rw [hx] at hy
  exact Option.some.inj hy▸hn
theorem NoneTo.all {α:Type} {p:α→Prop} {l:List α} {i:Nat} (h:NoneTo p l i) (hi:¬i<l.length):∀j y,j<l.length→l[j]? =some y→¬p y:=fun j y hj hy=>h.2 j y (by omega) hy
theorem NoneTo.mem {α:Type} {p:α→Prop} {l:List α} {i:Nat} (h:NoneTo p l i) (hi:¬i<l.length):∀y∈l,¬p y:=fun y hy=>by
 obtain ⟨j,hj⟩:=List.getElem?_of_mem hy
 exact h.all hi j y (List.getElem?_eq_some_iff.1 hj).1 hj
end
theorem QV (n:Nat) (a:Int) (b:Int) (c:Int):Pure (Qr Tryz.prog (n+1)) 30 [(tI a),(tI b),(tI c)] (tB (decide (b≤a∧a≤c))):=by
 refine Pure.intro (rs:= [ResultVar.tmp 6]) Tryz.func30 rfl rfl rfl (E0:= [(0,(tI a)),(1,(tI b)),(2,(tI c))]) rfl ?_
 obtain ⟨hlim,hmx,hmax⟩:=QJ
 refine sr (fO (OF.assign (VEv.bool false)) (nt (sr (mO (tI a) rfl (mO (tI b) rfl (fO (xge (tv (tI a) rfl) (tv (tI b) rfl)) (mO (tB (decide (b≤a))) rfl ?_)))))))
 refine gw (b≤a) (fun fhg10_1=> ?_) fun fhg10_1=> ?_
 ·refine gF (dy fhg10_1) rfl rfl (OF.move (tv (tI a) rfl)) ?_
  refine gF (dy fhg10_1) rfl rfl (OF.move (tv (tI c) rfl)) (gF (dy fhg10_1) rfl rfl (xle (tv (tI a) rfl) (tv (tI c) rfl)) (fO (OF.pickT (VEv.tmpB rfl (dy fhg10_1)) (tv (tB (decide (a≤c))) rfl)) (aO (tB (decide (a≤c))) rfl (nt (rt (vb (b':=(decide (a≤c))) rfl ?_))))))
  exact Q8 (by omega)
 refine QC 3 3 true 10 (dz fhg10_1) rfl rfl rfl (fO (OF.pickF (VEv.tmpB rfl (dz fhg10_1)) (VEv.bool false)) (aO (tB false) rfl (nt (rt (vb (b':=false) rfl ?_)))))
 (symm;rw [decide_eq_false_iff_not];omega)
theorem Zf (n:Nat) (a:Int) (b:Int) (c:Int):Pure (Qr Tryz.prog (n+1)) 36 [(tI a),(tI b),(tI c)] (tB (decide (b≤a∧a≤c))):=by
 refine Pure.intro (rs:= [ResultVar.tmp 6]) Tryz.func36 rfl rfl rfl (E0:= [(0,(tI a)),(1,(tI b)),(2,(tI c))]) rfl ?_
 obtain ⟨hlim,hmx,hmax⟩:=QJ
 refine sr (fO (OF.assign (VEv.bool false)) (nt (sr (mO (tI b) rfl (mO (tI a) rfl (fO (xle (tv (tI b) rfl) (tv (tI a) rfl)) (mO (tB (decide (b≤a))) rfl ?_)))))))
 refine gw (b≤a) (fun fhg10_1=> ?_) fun fhg10_1=> ?_
 ·refine gF (dy fhg10_1) rfl rfl (OF.move (tv (tI a) rfl)) ?_
  refine gF (dy fhg10_1) rfl rfl (OF.move (tv (tI c) rfl)) (gF (dy fhg10_1) rfl rfl (xle (tv (tI a) rfl) (tv (tI c) rfl)) (fO (OF.pickT (VEv.tmpB rfl (dy fhg10_1)) (tv (tB (decide (a≤c))) rfl)) (aO (tB (decide (a≤c))) rfl (nt (rt (vb (b':=(decide (a≤c))) rfl ?_))))))
  exact Q8 (by omega)
 refine QC 3 3 true 10 (dz fhg10_1) rfl rfl rfl (fO (OF.pickF (VEv.tmpB rfl (dz fhg10_1)) (VEv.bool false)) (aO (tB false) rfl (nt (rt (vb (b':=false) rfl ?_)))))
 (symm;rw [decide_eq_false_iff_not];omega)
theorem J5 (n:Nat) (a:Int):Pure (Qr Tryz.prog (n+1)) 108 [(T.int .u8 a)] (tB (decide (97≤a∧a≤122))):=by
 refine Pure.intro (rs:= [ResultVar.tmp 2]) Tryz.func108 rfl rfl rfl (E0:= [(0,(T.int .u8 a))]) rfl ?_
 obtain ⟨hlim,hmx,hmax⟩:=QJ
 refine sr (fO (OF.assign (VEv.bool false)) (nt (sr (mO (T.int .u8 a) rfl (fO (xge (tv (T.int .u8 a) rfl) (VEv.int .u8 97)) (mO (tB (decide (97≤a))) rfl ?_))))))
 refine gw (97≤a) (fun fhg5_1=> ?_) fun fhg5_1=> ?_
 ·refine gF (dy fhg5_1) rfl rfl (OF.move (tv (T.int .u8 a) rfl)) ?_
  refine gF (dy fhg5_1) rfl rfl (xle (tv (T.int .u8 a) rfl) (VEv.int .u8 122)) (fO (OF.pickT (VEv.tmpB rfl (dy fhg5_1)) (tv (tB (decide (a≤122))) rfl)) (aO (tB (decide (a≤122))) rfl (nt (rt (vb (b':=(decide (a≤122))) rfl ?_)))))
  exact Q8 (by omega)
 refine QC 2 2 true 5 (dz fhg5_1) rfl rfl rfl (fO (OF.pickF (VEv.tmpB rfl (dz fhg5_1)) (VEv.bool false)) (aO (tB false) rfl (nt (rt (vb (b':=false) rfl ?_)))))
 (symm;rw [decide_eq_false_iff_not];omega)
theorem YZ (n:Nat) (a:Int) (b:Int):Pure (Qr Tryz.prog (n+1)) 106 [(tI a),(tI b)] (tB (decide (0≤a∧a<b))):=by
 refine Pure.intro (rs:= [ResultVar.tmp 4]) Tryz.func106 rfl rfl rfl (E0:= [(0,(tI a)),(1,(tI b))]) rfl ?_
 obtain ⟨hlim,hmx,hmax⟩:=QJ
 refine sr (fO (OF.assign (VEv.bool false)) (nt (sr (mO (tI a) rfl (fO (xge (tv (tI a) rfl) (VEv.int .i64 0)) (mO (tB (decide (0≤a))) rfl ?_))))))
 refine gw (0≤a) (fun fhg7_1=> ?_) fun fhg7_1=> ?_
 ·refine gF (dy fhg7_1) rfl rfl (OF.move (tv (tI a) rfl)) ?_
  refine gF (dy fhg7_1) rfl rfl (OF.move (tv (tI b) rfl)) (gF (dy fhg7_1) rfl rfl (xls (tv (tI a) rfl) (tv (tI b) rfl)) (fO (OF.pickT (VEv.tmpB rfl (dy fhg7_1)) (tv (tB (decide (a<b))) rfl)) (aO (tB (decide (a<b))) rfl (nt (rt (vb (b':=(decide (a<b))) rfl ?_))))))
  exact Q8 (by omega)
 refine QC 3 2 true 7 (dz fhg7_1) rfl rfl rfl (fO (OF.pickF (VEv.tmpB rfl (dz fhg7_1)) (VEv.bool false)) (aO (tB false) rfl (nt (rt (vb (b':=false) rfl ?_)))))
 (symm;rw [decide_eq_false_iff_not];omega)
theorem QdK (n:Nat) (a:ByteArray) (ha:a.size≤maxLen):Pure (Qr Tryz.prog (n+2)) 129 [(tS a)] (tB (decide (Z1 a))):=by
 refine Pure.intro (rs:= [ResultVar.tmp 2]) Tryz.func129 rfl rfl rfl (E0:= [(0,(tS a))]) rfl ?_
 obtain ⟨hlim,hmx,hmax⟩:=QJ
 refine sr (fO (OF.assign (VEv.bool false)) (nt (sq (sr (mO (tS a) rfl (lO (B.lenS (tv (tS a) rfl) U9) (cO (cS (vc (tv (tN a.size) rfl) (vc (VEv.int .i64 1) (vc (VEv.int .i64 8) vn))) (Yl rfl) (QV (n+0) ((a.size:Nat):Int) 1 8) rfl rfl) (fO (Q1 (tv (tB (decide (1≤((a.size:Nat):Int)∧((a.size:Nat):Int)≤8))) rfl)) (nt ?_)))))))))
 refine cn (1≤((a.size:Nat):Int)∧((a.size:Nat):Int)≤8) rfl (fun fhc0=> ?_) fun fhc0=> ?_
 ·refine sr ?_
  refine fO (OF.assign (VEv.bool false)) (nt (rt (tr (vb (b':=false) rfl ?_))))
  symm;rw [decide_eq_false_iff_not];rintro ⟨h1,_⟩;omega
 refine sk (tn (sq (sr (fO (OF.assign (VEv.int .i64 0)) (nt (VRun.block ?_))))))
 refine VRun.loop (A:=Nat) (fun s_=> [(0,(tS a)),(3,(tN s_))]) (fun s_=>Q3 []) 0 (fun s_=>s_≤a.size∧∀j,j<s_→97≤QB a j∧QB a j≤122) (fun s_=>a.size - s_) (0:Nat) ?_ (Wk.mk (fun k=>k) ?_ ?_ ?_) ?_
 ·exact ⟨Nat.zero_le _,fun j hj=>by omega⟩
 ·exact (b2 (b2 bn))
 ·exact bn
 ·exact nd rfl
 rintro i (hI':i≤a.size∧∀j,j<i→97≤QB a j∧QB a j≤122)
 show VRun _ _ _ [(0,(tS a)),(3,(tN i))] (Q3 []) 0 _
 refine sq (sr (mO (tN i) rfl (mO (tS a) rfl (lO (B.lenS (tv (tS a) rfl) U9) (fO (Zt (tv (tN i) rfl) (tv (tN a.size) rfl)) (nt ?_))))))
 refine cd (i<a.size) rfl (fun fhc1=> ?_) fun fhc1=> ?_
 ·refine sk ?_
  refine tn (sq (VRun.block (sr (mO (tS a) rfl (mO (tN i) rfl ?_)))))
  have hb1:i<a.size:=(by omega)
  refine fO (xix (tv (tS a) rfl) (tv (tN i) rfl) hb1 U9) (fO (xls (tv (T.int .u8 (QB a i)) rfl) (VEv.int .u8 97)) (mO (tB (decide (QB a i<97))) rfl ?_))
  refine gw (QB a i<97) (fun fhg18_2=> ?_) fun fhg18_2=> ?_
  ·refine QC 4 4 false 18 (dy fhg18_2) rfl rfl rfl ?_
   refine fO (OF.pickT (VEv.tmpB rfl (dy fhg18_2)) (VEv.bool true)) (nt (ct rfl (sr (fO (OF.assign (VEv.bool false)) (nt (rt (vinB.r (tr (tr (vinB.r (tr ?_)))))))))))
   refine vb (b':=false) rfl ?_
   symm;rw [decide_eq_false_iff_not];rintro ⟨_,h2⟩;have:=h2 i fhc1;omega
  refine gF (dz fhg18_2) rfl rfl (OF.move (tv (tS a) rfl)) (gF (dz fhg18_2) rfl rfl (OF.move (tv (tN i) rfl)) ?_)
  have hb3:i<a.size:=(by omega)
  refine gF (dz fhg18_2) rfl rfl (xix (tv (tS a) rfl) (tv (tN i) rfl) hb3 U9) (gF (dz fhg18_2) rfl rfl (xgt (tv (T.int .u8 (QB a i)) rfl) (VEv.int .u8 122)) (fO (OF.pickF (VEv.tmpB rfl (dz fhg18_2)) (tv (tB (decide (122<QB a i))) rfl)) (nt ?_)))
  refine cd (122<QB a i) rfl (fun fhc2=> ?_) fun fhc2=> ?_
  ·refine sr ?_
   refine fO (OF.assign (VEv.bool false)) (nt (rt (vinB.r (tr (tr (vinB.r (tr (vb (b':=false) rfl ?_))))))))
   symm;rw [decide_eq_false_iff_not];rintro ⟨_,h2⟩;have:=h2 i fhc1;omega
  refine sk (vinB.n (tn (VRun.region (mO (tN i) rfl (fO (QF (tv (tN i) rfl) (VEv.int .i64 1) (by omega)) (aO (tN (i+1)) rfl (VRunO.nil (tn ?_))))))))
  refine ⟨(i+1:Nat),?_,?_,Wk.mk (fun k=>k) ?_ ?_ ?_⟩
  ·exact QX (ok:=fun j=>97≤QB a j∧QB a j≤122) hI' fhc1 (by omega)
  ·omega
  ·exact (b2 (b2 bn))
  ·exact bn
  ·exact nd rfl
 refine VRun.exit (vthn.e (vthn.e (vinB.e (tn (sr (fO (OF.assign (VEv.bool true)) (nt (rt (vb (b':=true) rfl ?_)))))))))
 symm;rw [decide_eq_true_eq];exact ⟨by omega,JS hI' fhc1⟩
theorem QdO (n:Nat) (a:ByteArray) (ha:a.size≤maxLen):Pure (Qr Tryz.prog (n+2)) 109 [(tS a)] (tB (decide (Z1 a))):=by
 refine Pure.intro (rs:= [ResultVar.tmp 2]) Tryz.func109 rfl rfl rfl (E0:= [(0,(tS a))]) rfl ?_
 obtain ⟨hlim,hmx,hmax⟩:=QJ
 refine sr (fO (OF.assign (VEv.bool false)) (nt (sq (sr (mO (tS a) rfl (lO (B.lenS (tv (tS a) rfl) U9) (cO (cS (vc (tv (tN a.size) rfl) (vc (VEv.int .i64 1) (vc (VEv.int .i64 8) vn))) (Yl rfl) (Zf (n+0) ((a.size:Nat):Int) 1 8) rfl rfl) (fO (Q1 (tv (tB (decide (1≤((a.size:Nat):Int)∧((a.size:Nat):Int)≤8))) rfl)) (nt ?_)))))))))
 refine cn (1≤((a.size:Nat):Int)∧((a.size:Nat):Int)≤8) rfl (fun fhc0=> ?_) fun fhc0=> ?_
 ·refine sr ?_
  refine fO (OF.assign (VEv.bool false)) (nt (rt (tr (vb (b':=false) rfl ?_))))
  symm;rw [decide_eq_false_iff_not];rintro ⟨h1,_⟩;omega
 refine sk (tn (sq (sr (mO (tS a) rfl (lO (B.lenS (tv (tS a) rfl) U9) (fO (OF.move (VEv.int .i64 0)) (nt (VRun.block ?_))))))))
 refine VRun.loop (A:=Nat) (fun s_=> [(0,(tS a)),(9,(tN a.size)),(10,(tN s_))]) (fun s_=>Q3 []) 0 (fun s_=>s_≤a.size∧∀j,j<s_→97≤QB a j∧QB a j≤122) (fun s_=>a.size - s_) (0:Nat) ?_ (Wk.mk (fun k=>k) ?_ ?_ ?_) ?_
 ·exact ⟨Nat.zero_le _,fun j hj=>by omega⟩
 ·exact (b2 (b2 (b2 bn)))
 ·exact bn
 ·exact nd rfl
 rintro i (hI':i≤a.size∧∀j,j<i→97≤QB a j∧QB a j≤122)
 show VRun _ _ _ [(0,(tS a)),(9,(tN a.size)),(10,(tN i))] (Q3 []) 0 _
 refine sr (fO (Zt (tv (tN i) rfl) (tv (tN a.size) rfl)) (nt (sq ?_)))
 refine cd (i<a.size) rfl (fun fhc1=> ?_) fun fhc1=> ?_
 ·refine sk ?_
  refine tn (sq (VRun.block (sr (mO (tN i) rfl (aO (tN i) rfl (nt (sr (mO (tS a) rfl (mO (tN i) rfl ?_)))))))))
  have hb1:i<a.size:=(by omega)
  refine fO (xix (tv (tS a) rfl) (tv (tN i) rfl) hb1 U9) (cO (cS (vc (tv (T.int .u8 (QB a i)) rfl) vn) (Yl rfl) (J5 (n+0) (QB a i)) rfl rfl) (fO (Q1 (tv (tB (decide (97≤(QB a i)∧(QB a i)≤122))) rfl)) (nt ?_)))
  refine cn (97≤(QB a i)∧(QB a i)≤122) rfl (fun fhc2=> ?_) fun fhc2=> ?_
  ·refine sr ?_
   refine fO (OF.assign (VEv.bool false)) (nt (rt (vinB.r (tr (tr (vinB.r (tr (vb (b':=false) rfl ?_))))))))
   symm;rw [decide_eq_false_iff_not];rintro ⟨_,h2⟩;have:=h2 i fhc1;omega
  refine sk (vinB.n (tn (VRun.region (fO (QF (tv (tN i) rfl) (VEv.int .i64 1) (by omega)) (mO (tN (i+1)) rfl (VRunO.nil (tn ?_)))))))
  refine ⟨(i+1:Nat),?_,?_,Wk.mk (fun k=>k) ?_ ?_ ?_⟩
  ·exact QX (ok:=fun j=>97≤QB a j∧QB a j≤122) hI' fhc1 (by omega)
  ·omega
  ·exact (b2 (b2 (b2 bn)))
  ·exact bn
  ·exact nd rfl
 refine VRun.exit (vthn.e (vthn.e (vinB.e (tn (sr (fO (OF.assign (VEv.bool true)) (nt (rt (vb (b':=true) rfl ?_)))))))))
 symm;rw [decide_eq_true_eq];exact ⟨by omega,JS hI' fhc1⟩
end Go.Proofs.YthifchndolccgaaGreatDoor.AE
namespace Go.Proofs.YthifchndolccgaaGreatDoor.AE
open Go Go.RowKit
set_option linter.unusedVariables false
set_option linter.unusedSimpArgs false
set_option maxRecDepth 20000
set_option maxHeartbeats 2000000
noncomputable section
def two (k:Int):Prop:=k=4∨k=5
def YO (l:List D.Step) (j:Nat):Prop:=∃x,l[j]? =some x∧(1≤x.Kind∧x.Kind≤9)∧(x.Kind=1→Z1 x.Word∧x.A=0∧x.B=0) ∧
 (¬x.Kind=1→x.Word=(⟨#[]⟩:ByteArray)∧(0≤x.A∧x.A<(j:Int))∧(two x.Kind→0≤x.B∧x.B<(j:Int))∧(¬two x.Kind→x.B=0)∧(¬two x.Kind→¬x.Kind=2→∃y,l[x.A.toNat]? =some y∧y.Kind=1))
instance (l:List D.Step) (j:Nat):Decidable (YO l j):=Classical.propDecidable _
def ZX (l:List D.Step):Prop:=(1≤l.length∧l.length≤9)∧∀j,j<l.length→YO l j
instance (l:List D.Step):Decidable (ZX l):=Classical.propDecidable _
def Qcu (l:List D.Step) (j:Nat) (x:D.Step):Prop:=(1≤x.Kind∧x.Kind≤9)∧(x.Kind=1→Z1 x.Word∧x.A=0∧x.B=0) ∧
 (¬x.Kind=1→x.Word=(⟨#[]⟩:ByteArray)∧(0≤x.A∧x.A<(j:Int))∧(two x.Kind→0≤x.B∧x.B<(j:Int))∧(¬two x.Kind→x.B=0)∧(¬two x.Kind→¬x.Kind=2→∃y,l[x.A.toNat]? =some y∧y.Kind=1))
theorem QE {l:List D.Step} {j:Nat} {x:D.Step} (hx:l[j]? =some x):YO l j↔Qcu l j x:=by
 constructor
 ·rintro ⟨y,hy,h⟩
  obtain rfl:=QgX hx hy
  exact h
 ·intro h
  exact ⟨x,hx,h⟩
theorem QlU {l:List D.Step} {k:Nat} {y:D.Step} (hy:l[k]? =some y):(∃z,l[k]? =some z∧z.Kind=1)↔y.Kind=1:=by
 constructor
 ·rintro ⟨z,hz,h⟩
  obtain rfl:=QgX hy hz
  exact h
 ·intro h
  exact ⟨y,hy,h⟩
theorem Qlj {l:List D.Step} {j:Nat} {x y:D.Step} (hx:l[j]? =some x) (hy:l[x.A.toNat]? =some y) (h1:1≤x.Kind∧x.Kind≤9) (h2:¬x.Kind=1) (h3:x.Word=(⟨#[]⟩:ByteArray)) (h4:0≤x.A∧x.A<(j:Int)) (h5:x.B=0) (h6:¬two x.Kind) (h7:¬x.Kind=2):decide (y.Kind=1)=decide (YO l j):=by
 refine Q8 ?_
 rw [QE hx]
 simp only [Qcu,QlU hy]
 exact ⟨fun h=>⟨h1,fun hk=>absurd hk h2,fun _=>⟨h3,h4,fun h=>absurd h h6,fun _=>h5,fun _ _=>h⟩⟩,fun h=>(h.2.2 h2).2.2.2.2 h6 h7⟩
theorem Qlx {l:List D.Step} {j:Nat} {x:D.Step} (hx:l[j]? =some x) (h1:1≤x.Kind∧x.Kind≤9) (h2:x.Kind=1) (h3:Z1 x.Word) (h4:x.A=0):decide (x.B=0)=decide (YO l j):=by
 refine Q8 ?_
 rw [QE hx]
 simp only [Qcu]
 exact ⟨fun h=>⟨h1,fun _=>⟨h3,h4,h⟩,fun hk=>absurd h2 hk⟩,fun h=>(h.2.1 h2).2.2⟩
theorem Q9 : ¬Z1 (⟨#[]⟩:ByteArray):=fun h=>absurd h.1.1 (by decide)
end
theorem Qcq (n:Nat) (a:Int):Pure (Qr Tryz.prog (n+1)) 110 [(tI a)] (tB (decide (a=3∨6≤a))):=by
 refine Pure.intro (rs:= [ResultVar.tmp 2]) Tryz.func110 rfl rfl rfl (E0:= [(0,(tI a))]) rfl ?_
 obtain ⟨hlim,hmx,hmax⟩:=QJ
 refine sr (fO (OF.assign (VEv.bool false)) (nt (sr (mO (tI a) rfl (fO (YR (tv (tI a) rfl) (VEv.int .i64 3)) (mO (tB (decide (a=3))) rfl ?_))))))
 refine gw (a=3) (fun fhg5_1=> ?_) fun fhg5_1=> ?_
 ·refine QC 2 2 false 5 (dy fhg5_1) rfl rfl rfl ?_
  refine fO (OF.pickT (VEv.tmpB rfl (dy fhg5_1)) (VEv.bool true)) (aO (tB true) rfl (nt (rt (vb (b':=true) rfl ?_))))
  (symm;rw [decide_eq_true_eq];omega)
 refine gF (dz fhg5_1) rfl rfl (OF.move (tv (tI a) rfl)) (gF (dz fhg5_1) rfl rfl (xge (tv (tI a) rfl) (VEv.int .i64 6)) (fO (OF.pickF (VEv.tmpB rfl (dz fhg5_1)) (tv (tB (decide (6≤a))) rfl)) (aO (tB (decide (6≤a))) rfl (nt (rt (vb (b':=(decide (6≤a))) rfl ?_))))))
 exact Q8 (by omega)
theorem ZP (n:Nat) (a:Int):Pure (Qr Tryz.prog (n+1)) 111 [(tI a)] (tB (decide (a=4∨a=5))):=by
 refine Pure.intro (rs:= [ResultVar.tmp 2]) Tryz.func111 rfl rfl rfl (E0:= [(0,(tI a))]) rfl ?_
 obtain ⟨hlim,hmx,hmax⟩:=QJ
 refine sr (fO (OF.assign (VEv.bool false)) (nt (sr (mO (tI a) rfl (fO (YR (tv (tI a) rfl) (VEv.int .i64 4)) (mO (tB (decide (a=4))) rfl ?_))))))
 refine gw (a=4) (fun fhg5_1=> ?_) fun fhg5_1=> ?_
 ·refine QC 2 2 false 5 (dy fhg5_1) rfl rfl rfl ?_
  refine fO (OF.pickT (VEv.tmpB rfl (dy fhg5_1)) (VEv.bool true)) (aO (tB true) rfl (nt (rt (vb (b':=true) rfl ?_))))
  (symm;rw [decide_eq_true_eq];omega)
 refine gF (dz fhg5_1) rfl rfl (OF.move (tv (tI a) rfl)) (gF (dz fhg5_1) rfl rfl (YR (tv (tI a) rfl) (VEv.int .i64 5)) (fO (OF.pickF (VEv.tmpB rfl (dz fhg5_1)) (tv (tB (decide (a=5))) rfl)) (aO (tB (decide (a=5))) rfl (nt (rt (vb (b':=(decide (a=5))) rfl ?_))))))
 exact Q8 (by omega)
theorem Qe3 (n:Nat) (a:List D.Step) (i:Nat) (hz:zL Zg a≤mx) (hi:i<a.length):Pure (Qr Tryz.prog (n+3)) 96 [(rd 4 Qj a),(tN i)] (tB (decide (YO a i))):=by
 refine Pure.intro (rs:= [ResultVar.tmp 4]) Tryz.func96 rfl rfl rfl (E0:= [(0,(rd 4 Qj a)),(1,(tN i))]) rfl ?_
 obtain ⟨hlim,hmx,hmax⟩:=QJ
 have ha:=Zi (z:=Zg) a
 have hw:∀x∈a,x.Word.size≤maxLen:=fun x hx=>by have h1:=Qjb (z:=Zg) hx;simp only [Zg] at h1;omega
 refine sr (fO (OF.assign (VEv.bool false)) (nt (sr (mO (rd 4 Qj a) rfl (mO (tN i) rfl ?_)))))
 obtain ⟨x1,hx1⟩:∃x,a[i]? =some x:=⟨_,List.getElem?_eq_getElem (by omega)⟩
 refine fO (OF.indexAddrR (row:=(Qj false x1)) (i:=i) (tv (rd 4 Qj a) rfl) (tv (tN i) rfl) rfl (QA _ hx1) U72 ZZ Y8) (lO (OL.loadRn (us:=(Qj false x1)) (tv (T.rp (Qj false x1)) rfl) Qee ZZ (lb rfl) rfl) (kO (B.alloc (t:=(T.agg [(tN 0),(tS ByteArray.empty),(tN 0),(tN 0)])) (ts:= [(tN 0),(tS ByteArray.empty),(tN 0),(tN 0)]) QfO Qfp nofun (fun _=> .agg _ _ rfl (YD (RL.cons (.int _ _) (RL.cons (.str _) (RL.cons (.int _ _) (RL.cons (.int _ _) (RL.nil _))))))) rfl) (cO (B.storeW (us:=(Qj false x1)) (tv (T.op 0 0) rfl) (tv (T.agg (Qj false x1)) rfl) nofun rfl rfl rfl Y8 ZZ (bc rfl (bc rfl (bc rfl (bc rfl bn))))) (nt (sq (sq (VRun.draw (B:= [[],[0],[0,1],[1,0,2],[2,0,1,3],[3,1,0,2,4],[4,2,0,1,3,5],[5,3,1,0,2,4,6],[3,1,0,2,4],[4,2,0,1,3,8],[8,3,1,0,2,4,9],[9,8,10,6,4,2,0,1,3,5,7],[7,5,6,10,8,9,11,3,1,0,2,4],[4,2,0,1,3,11,9,8,10,6,5,7,12],[12,7,5,6,10,8,9,11,3,1,0,2,4,13],[13,4,2,0,1,3,11,9,8,10,6,5,7,12,14],[14,12,7,5,6,10,8,9,11,3,1,0,2,4,13,15],[15,13,4,2,0,1,3,11,9,8,10,6,5,7,12,14,16],[16,14,12,7,5,6,10,8,9,11,3,1,0,2,4,13,15,17],[17,15,13,4,2,0,1,3,11,9,8,10,6,5,7,12,14,16,18],[18,16,14,12,7,5,6,10,8,9,11,3,1,0,2,4,13,15,17,19],[19,18,20,16,14,12,7,5,6,10,8,9,11,3,1,0,2,4,13,15,17],[17,15,14,16,20,18,19,21,12,7,5,6,10,8,9,11,3,1,0,2,4,13]]) (by kernel_rfl) (by kernel_rfl) (fD (OF.fieldAddrO (tv (T.op 0 0) rfl) QZ) rfl rfl (lD (OL.loadO1 (t:=(tI x1.Kind)) (tv (T.op 0 0) rfl) rfl rfl Q0) rfl rfl (VRunD.quiet (bi:= [0,1]) rfl VWant.always rfl rfl rfl bn (cS (vc (tv (tI x1.Kind) rfl) (vc (VEv.int .i64 1) (vc (VEv.int .i64 9) vn))) (Yl rfl) (QV (n+1) x1.Kind 1 9) rfl rfl) (fD (Q1 (tv (tB (decide (1≤x1.Kind∧x1.Kind≤9))) rfl)) rfl rfl ?_)))))))))))
 refine mD (tB (!(decide (1≤x1.Kind∧x1.Kind≤9)))) rfl rfl ?_
 refine gn (1≤x1.Kind∧x1.Kind≤9) (fun fhg15_1=> ?_) fun fhg15_1=> ?_
 ·refine oD rfl rfl (ny fhg15_1) rfl ?_
  refine oD rfl rfl (ny fhg15_1) rfl (oD rfl rfl (ny fhg15_1) rfl (oD rfl rfl (ny fhg15_1) rfl (oD rfl rfl (ny fhg15_1) rfl (oD rfl rfl (ny fhg15_1) rfl (oD rfl rfl (ny fhg15_1) rfl (fD (OF.pickT (VEv.tmpB rfl (ny fhg15_1)) (VEv.bool true)) rfl rfl (mD (tB true) rfl rfl (VRunD.off rfl (VWant.not (b:=true) rfl rfl rfl) (VRunD.off rfl (VWant.not (b:=true) rfl rfl rfl) (VRunD.off rfl (VWant.not (b:=true) rfl rfl rfl) (VRunD.off rfl (VWant.not (b:=true) rfl rfl rfl) ?_)))))))))))
  refine uD rfl rfl rfl (uD rfl rfl rfl (uD rfl rfl rfl (VRunD.off rfl (VWant.not (b:=true) rfl rfl rfl) (fD (OF.pickT (tv (tB true) rfl) (VEv.bool true)) rfl rfl (VRunD.nil (tn (ct rfl (sr (fO (OF.assign (VEv.bool false)) (nt (rt ?_)))))))))))
  refine tr (vb (b':=false) rfl ?_)
  (symm;rw [decide_eq_false_iff_not,QE hx1];rintro ⟨h1,h2,h3⟩;by_cases hk:x1.Kind=1<;>simp only [hk,two] at* <;>omega)
 refine VRunD.free rfl (VWant.on rfl rfl (nz fhg15_1)) rfl (OF.fieldAddrO (tv (T.op 0 0) rfl) QZ) (VRunD.look rfl (VWant.on rfl rfl (nz fhg15_1)) rfl (OL.loadO1 (t:=(tI x1.Kind)) (tv (T.op 0 0) rfl) rfl rfl Q0) (VRunD.free rfl (VWant.on rfl rfl (nz fhg15_1)) rfl (YR (tv (tI x1.Kind) rfl) (VEv.int .i64 1)) (VRunD.free rfl (VWant.on rfl rfl (nz fhg15_1)) rfl (OF.fieldAddrO (tv (T.op 0 0) rfl) Jr) (VRunD.look rfl (VWant.on rfl rfl (nz fhg15_1)) rfl (OL.loadO1 (t:=(tS x1.Word)) (tv (T.op 0 1) rfl) rfl rfl Z3) (VRunD.quiet (bi:= [8,3,1,0,2,4,9]) rfl (VWant.on rfl rfl (nz fhg15_1)) rfl rfl rfl bn (cS (vc (tv (tS x1.Word) rfl) vn) (Yl rfl) (QdK (n+0) x1.Word (by exact hw _ (List.mem_of_getElem? hx1))) rfl rfl) (VRunD.free rfl (VWant.on rfl rfl (nz fhg15_1)) rfl (B.bneq U4 (c:=(!((decide (x1.Kind=1)) == (decide (Z1 x1.Word))))) (tv (tB (decide (x1.Kind=1))) rfl) (tv (tB (decide (Z1 x1.Word))) rfl) rfl) (fD (OF.pickF (VEv.tmpB rfl (nz fhg15_1)) (tv (tB (!((decide (x1.Kind=1)) == (decide (Z1 x1.Word))))) rfl)) rfl rfl (mD (tB (!((decide (x1.Kind=1)) == (decide (Z1 x1.Word))))) rfl rfl ?_))))))))
 refine Qdx (!((decide (x1.Kind=1)) == (decide (Z1 x1.Word)))) (fun hg24_2=> ?_) (fun hg24_2=> ?_)
 ·have fhg24_2:(!((decide (x1.Kind=1)) == (decide (Z1 x1.Word))))=true:=hg24_2
  refine oD rfl rfl hg24_2 rfl (oD rfl rfl hg24_2 rfl (oD rfl rfl hg24_2 rfl (oD rfl rfl hg24_2 rfl (uD rfl rfl rfl (uD rfl rfl rfl (uD rfl rfl rfl (oD rfl rfl hg24_2 rfl (fD (OF.pickT (VEv.tmpB rfl hg24_2) (VEv.bool true)) rfl rfl (VRunD.nil (tn (ct rfl ?_)))))))))))
  refine sr (fO (OF.assign (VEv.bool false)) (nt (rt (tr (vb (b':=false) rfl ?_)))))
  (symm;rw [decide_eq_false_iff_not,QE hx1];rintro ⟨h1,h2,h3⟩;by_cases hk:x1.Kind=1<;>simp only [hk,two] at* <;>(simp_all [Q9];done))
 have fhg24_2:(!((decide (x1.Kind=1)) == (decide (Z1 x1.Word))))=false:=hg24_2
 refine VRunD.free rfl (VWant.on rfl rfl hg24_2) rfl (OF.fieldAddrO (tv (T.op 0 0) rfl) QZ) (VRunD.look rfl (VWant.on rfl rfl hg24_2) rfl (OL.loadO1 (t:=(tI x1.Kind)) (tv (T.op 0 0) rfl) rfl rfl Q0) (VRunD.free rfl (VWant.on rfl rfl hg24_2) rfl (xne (tv (tI x1.Kind) rfl) (VEv.int .i64 1)) (VRunD.free rfl (VWant.on rfl rfl hg24_2) rfl (OF.move (tv (tB (!(decide (x1.Kind=1)))) rfl)) ?_)))
 refine gn (x1.Kind=1) (fun fhg28_3=> ?_) fun fhg28_3=> ?_
 ·refine VRunD.free rfl (VWant.on rfl rfl (ny fhg28_3)) rfl (OF.fieldAddrO (tv (T.op 0 0) rfl) Jr) ?_
  refine VRunD.look rfl (VWant.on rfl rfl (ny fhg28_3)) rfl (OL.loadO1 (t:=(tS x1.Word)) (tv (T.op 0 1) rfl) rfl rfl Z3) (VRunD.free rfl (VWant.on rfl rfl (ny fhg28_3)) rfl (B.sneq (c:=(!(decide (x1.Word=(⟨#[]⟩:ByteArray))))) (tv (tS x1.Word) rfl) (VEv.str (⟨#[]⟩:ByteArray)) rfl) (VRunD.free rfl (VWant.on rfl rfl hg24_2) rfl (OF.pickT (VEv.tmpB rfl (ny fhg28_3)) (tv (tB (!(decide (x1.Word=(⟨#[]⟩:ByteArray))))) rfl)) (fD (OF.pickF (VEv.tmpB rfl hg24_2) (tv (tB (!(decide (x1.Word=(⟨#[]⟩:ByteArray))))) rfl)) rfl rfl (VRunD.nil (tn ?_)))))
  refine cn (x1.Word=(⟨#[]⟩:ByteArray)) rfl (fun fhc0=> ?_) fun fhc0=> ?_
  ·refine sr ?_
   refine fO (OF.assign (VEv.bool false)) (nt (rt (tr (vb (b':=false) rfl ?_))))
   (symm;rw [decide_eq_false_iff_not,QE hx1];rintro ⟨h1,h2,h3⟩;by_cases hk:x1.Kind=1<;>simp only [hk,two] at* <;>(simp_all [Q9];done))
  refine sk (tn (sr (lf (tI x1.Kind) rfl QZ rfl rfl Q0 (fO (YR (tv (tI x1.Kind) rfl) (VEv.int .i64 4)) (mO (tB (decide (x1.Kind=4))) rfl ?_)))))
  refine gw (x1.Kind=4) (fun fhg37_4=> ?_) fun fhg37_4=> ?_
  ·refine QC 3 3 false 37 (dy fhg37_4) rfl rfl rfl ?_
   refine fO (OF.pickT (VEv.tmpB rfl (dy fhg37_4)) (VEv.bool true)) (aO (tB true) rfl (nt (sq (sr (lf (tI x1.Kind) rfl QZ rfl rfl Q0 (fO (YR (tv (tI x1.Kind) rfl) (VEv.int .i64 1)) (nt (cg (dz fhg28_3) rfl (sk (tn (sq ?_)))))))))))
   refine sr (lf (tI x1.A) rfl Ye rfl rfl Q0 (mO (tN i) rfl (fO (B.sub (n:=(((i:Nat):Int) - 1)) (tv (tN i) rfl) (VEv.int .i64 1) (by (rw [Qy (by omega)];done))) (cO (cS (vc (tv (tI x1.A) rfl) (vc (VEv.int .i64 0) (vc (tv (tI (((i:Nat):Int) - 1)) rfl) vn))) (Yl rfl) (QV (n+1) x1.A 0 (((i:Nat):Int) - 1)) rfl rfl) (fO (Q1 (tv (tB (decide (0≤x1.A∧x1.A≤(((i:Nat):Int) - 1)))) rfl)) (mO (tB (!(decide (0≤x1.A∧x1.A≤(((i:Nat):Int) - 1))))) rfl ?_))))))
   refine gn (0≤x1.A∧x1.A≤(((i:Nat):Int) - 1)) (fun fhg59_5=> ?_) fun fhg59_5=> ?_
   ·refine QC 2 6 false 59 (ny fhg59_5) rfl rfl rfl ?_
    refine JA 6 8 true 61 rfl rfl rfl (oO rfl rfl (ny fhg59_5) (fO (OF.pickT (VEv.tmpB rfl (ny fhg59_5)) (VEv.bool true)) (mO (tB true) rfl (QC 3 17 false 70 (b:=true) rfl rfl rfl rfl (JA 3 20 true 73 rfl rfl rfl (VRunO.off (VWant.not (b:=true) rfl rfl rfl) (fO (OF.pickT (tv (tB true) rfl) (VEv.bool true)) (nt (ct rfl (sr (fO (OF.assign (VEv.bool false)) ?_)))))))))))
    refine nt (rt (tr (vb (b':=false) rfl ?_)))
    (symm;rw [decide_eq_false_iff_not,QE hx1];rintro ⟨h1,h2,h3⟩;by_cases hk:x1.Kind=1<;>simp only [hk,two] at* <;>first | omega | (simp_all [Q9];omega))
   refine gF (nz fhg59_5) rfl rfl (OF.move (tv (tB true) rfl)) (gF (nz fhg59_5) rfl rfl (OF.move (tv (tB true) rfl)) (VRunO.free (VWant.on (b:=true) rfl rfl rfl) (OF.fieldAddrO (tv (T.op 0 0) rfl) ZS) (VRunO.look (VWant.on (b:=true) rfl rfl rfl) (OL.loadO1 (t:=(tI x1.B)) (tv (T.op 0 3) rfl) rfl rfl Q0) (VRunO.free (VWant.on (b:=true) rfl rfl rfl) (OF.move (tv (tN i) rfl)) (VRunO.free (VWant.on (b:=true) rfl rfl rfl) (B.sub (n:=(((i:Nat):Int) - 1)) (tv (tN i) rfl) (VEv.int .i64 1) (by (rw [Qy (by omega)];done))) (VRunO.chain (VWant.on (b:=true) rfl rfl rfl) (cS (vc (tv (tI x1.B) rfl) (vc (VEv.int .i64 0) (vc (tv (tI (((i:Nat):Int) - 1)) rfl) vn))) (Yl rfl) (QV (n+1) x1.B 0 (((i:Nat):Int) - 1)) rfl rfl) (VRunO.free (VWant.on (b:=true) rfl rfl rfl) (Q1 (tv (tB (decide (0≤x1.B∧x1.B≤(((i:Nat):Int) - 1)))) rfl)) (gF (nz fhg59_5) rfl rfl (OF.pickT (tv (tB true) rfl) (tv (tB (!(decide (0≤x1.B∧x1.B≤(((i:Nat):Int) - 1))))) rfl)) (fO (OF.pickF (VEv.tmpB rfl (nz fhg59_5)) (tv (tB (!(decide (0≤x1.B∧x1.B≤(((i:Nat):Int) - 1))))) rfl)) (mO (tB (!(decide (0≤x1.B∧x1.B≤(((i:Nat):Int) - 1))))) rfl ?_))))))))))
   refine gn (0≤x1.B∧x1.B≤(((i:Nat):Int) - 1)) (fun fhg70_6=> ?_) fun fhg70_6=> ?_
   ·refine QC 3 17 false 70 (ny fhg70_6) rfl rfl rfl ?_
    refine JA 3 20 true 73 rfl rfl rfl (oO rfl rfl (ny fhg70_6) (fO (OF.pickT (VEv.tmpB rfl (ny fhg70_6)) (VEv.bool true)) (nt (ct rfl (sr (fO (OF.assign (VEv.bool false)) (nt (rt (tr (vb (b':=false) rfl ?_))))))))))
    (symm;rw [decide_eq_false_iff_not,QE hx1];rintro ⟨h1,h2,h3⟩;by_cases hk:x1.Kind=1<;>simp only [hk,two] at* <;>first | omega | (simp_all [Q9];omega))
   refine gF (nz fhg70_6) rfl rfl (OF.move (tv (tB true) rfl)) (gF (nz fhg70_6) rfl rfl (B.not (c:=false) (tv (tB true) rfl) rfl) (gF (nz fhg70_6) rfl rfl (OF.move (tv (tB false) rfl)) (QC 3 20 true 73 (b:=false) rfl rfl rfl rfl (gF (nz fhg70_6) rfl rfl (OF.pickF (tv (tB false) rfl) (VEv.bool false)) (fO (OF.pickF (VEv.tmpB rfl (nz fhg70_6)) (tv (tB false) rfl)) (nt (cf rfl (sk (tn (sr (mO (tB true) rfl ?_)))))))))))
   refine mO (tB true) rfl (QC 3 1 false 80 (b:=true) rfl rfl rfl rfl (fO (OF.pickT (tv (tB true) rfl) (VEv.bool true)) (mO (tB true) rfl (QC 7 6 false 85 (b:=true) rfl rfl rfl rfl (fO (OF.pickT (tv (tB true) rfl) (VEv.bool true)) (aO (tB true) rfl (nt (rt (vb (b':=true) rfl ?_)))))))))
   (symm;rw [decide_eq_true_eq,QE hx1];refine ⟨by omega,fun hk=> ?_,fun hk=> ?_⟩<;>first | (exfalso;omega) | (simp_all [two,Q9];omega))
  refine Yn (tI x1.Kind) (dz fhg37_4) rfl rfl rfl rfl QZ rfl rfl Q0 (gF (dz fhg37_4) rfl rfl (YR (tv (tI x1.Kind) rfl) (VEv.int .i64 5)) (fO (OF.pickF (VEv.tmpB rfl (dz fhg37_4)) (tv (tB (decide (x1.Kind=5))) rfl)) (aO (tB (decide (x1.Kind=5))) rfl (nt (sq (sr (lf (tI x1.Kind) rfl QZ rfl rfl Q0 (fO (YR (tv (tI x1.Kind) rfl) (VEv.int .i64 1)) (nt (cg (dz fhg28_3) rfl (sk ?_)))))))))))
  refine tn (sq (sr (lf (tI x1.A) rfl Ye rfl rfl Q0 (mO (tN i) rfl (fO (B.sub (n:=(((i:Nat):Int) - 1)) (tv (tN i) rfl) (VEv.int .i64 1) (by (rw [Qy (by omega)];done))) (cO (cS (vc (tv (tI x1.A) rfl) (vc (VEv.int .i64 0) (vc (tv (tI (((i:Nat):Int) - 1)) rfl) vn))) (Yl rfl) (QV (n+1) x1.A 0 (((i:Nat):Int) - 1)) rfl rfl) (fO (Q1 (tv (tB (decide (0≤x1.A∧x1.A≤(((i:Nat):Int) - 1)))) rfl)) (mO (tB (!(decide (0≤x1.A∧x1.A≤(((i:Nat):Int) - 1))))) rfl ?_))))))))
  refine gn (0≤x1.A∧x1.A≤(((i:Nat):Int) - 1)) (fun fhg59_7=> ?_) fun fhg59_7=> ?_
  ·refine QC 2 6 false 59 (ny fhg59_7) rfl rfl rfl ?_
   refine JA 6 8 true 61 rfl rfl rfl (oO rfl rfl (ny fhg59_7) (fO (OF.pickT (VEv.tmpB rfl (ny fhg59_7)) (VEv.bool true)) (mO (tB true) rfl (QC 3 17 false 70 (b:=true) rfl rfl rfl rfl (JA 3 20 true 73 rfl rfl rfl (VRunO.off (VWant.not (b:=true) rfl rfl rfl) (fO (OF.pickT (tv (tB true) rfl) (VEv.bool true)) (nt (ct rfl (sr (fO (OF.assign (VEv.bool false)) ?_)))))))))))
   refine nt (rt (tr (vb (b':=false) rfl ?_)))
   (symm;rw [decide_eq_false_iff_not,QE hx1];rintro ⟨h1,h2,h3⟩;by_cases hk:x1.Kind=1<;>simp only [hk,two] at* <;>first | (simp_all [Q9];done) | (simp_all [Q9];omega))
  refine gF (nz fhg59_7) rfl rfl (OF.move (tv (tB (decide (x1.Kind=5))) rfl)) (gF (nz fhg59_7) rfl rfl (OF.move (tv (tB (decide (x1.Kind=5))) rfl)) ?_)
  refine gw (x1.Kind=5) (fun fhg61_8=> ?_) fun fhg61_8=> ?_
  ·refine Yn (tI x1.B) (dy fhg61_8) rfl rfl rfl rfl ZS rfl rfl Q0 ?_
   refine gF (dy fhg61_8) rfl rfl (OF.move (tv (tN i) rfl)) (gF (dy fhg61_8) rfl rfl (B.sub (n:=(((i:Nat):Int) - 1)) (tv (tN i) rfl) (VEv.int .i64 1) (by (rw [Qy (by omega)];done))) (VRunO.chain (VWant.on rfl rfl (dy fhg61_8)) (cS (vc (tv (tI x1.B) rfl) (vc (VEv.int .i64 0) (vc (tv (tI (((i:Nat):Int) - 1)) rfl) vn))) (Yl rfl) (QV (n+1) x1.B 0 (((i:Nat):Int) - 1)) rfl rfl) (gF (dy fhg61_8) rfl rfl (Q1 (tv (tB (decide (0≤x1.B∧x1.B≤(((i:Nat):Int) - 1)))) rfl)) (gF (nz fhg59_7) rfl rfl (OF.pickT (VEv.tmpB rfl (dy fhg61_8)) (tv (tB (!(decide (0≤x1.B∧x1.B≤(((i:Nat):Int) - 1))))) rfl)) (fO (OF.pickF (VEv.tmpB rfl (nz fhg59_7)) (tv (tB (!(decide (0≤x1.B∧x1.B≤(((i:Nat):Int) - 1))))) rfl)) (mO (tB (!(decide (0≤x1.B∧x1.B≤(((i:Nat):Int) - 1))))) rfl ?_))))))
   refine gn (0≤x1.B∧x1.B≤(((i:Nat):Int) - 1)) (fun fhg70_9=> ?_) fun fhg70_9=> ?_
   ·refine QC 3 17 false 70 (ny fhg70_9) rfl rfl rfl ?_
    refine JA 3 20 true 73 rfl rfl rfl (oO rfl rfl (ny fhg70_9) (fO (OF.pickT (VEv.tmpB rfl (ny fhg70_9)) (VEv.bool true)) (nt (ct rfl (sr (fO (OF.assign (VEv.bool false)) (nt (rt (tr (vb (b':=false) rfl ?_))))))))))
    (symm;rw [decide_eq_false_iff_not,QE hx1];rintro ⟨h1,h2,h3⟩;by_cases hk:x1.Kind=1<;>simp only [hk,two] at* <;>first | omega | (simp_all [Q9];omega))
   refine gF (nz fhg70_9) rfl rfl (OF.move (tv (tB (decide (x1.Kind=5))) rfl)) (gF (nz fhg70_9) rfl rfl (Q1 (tv (tB (decide (x1.Kind=5))) rfl)) (gF (nz fhg70_9) rfl rfl (OF.move (tv (tB (!(decide (x1.Kind=5)))) rfl)) (QC 3 20 true 73 (nkT (dy fhg61_8)) rfl rfl rfl (gF (nz fhg70_9) rfl rfl (OF.pickF (VEv.tmpB rfl (nkT (dy fhg61_8))) (VEv.bool false)) (fO (OF.pickF (VEv.tmpB rfl (nz fhg70_9)) (tv (tB false) rfl)) (nt (cf rfl (sk (tn (sr (mO (tB (decide (x1.Kind=5))) rfl ?_)))))))))))
   refine mO (tB (decide (x1.Kind=5))) rfl (QC 3 1 false 80 (dy fhg61_8) rfl rfl rfl (fO (OF.pickT (VEv.tmpB rfl (dy fhg61_8)) (VEv.bool true)) (mO (tB true) rfl (QC 7 6 false 85 (b:=true) rfl rfl rfl rfl (fO (OF.pickT (tv (tB true) rfl) (VEv.bool true)) (aO (tB true) rfl (nt (rt (vb (b':=true) rfl ?_)))))))))
   (symm;rw [decide_eq_true_eq,QE hx1];refine ⟨by omega,fun hk=> ?_,fun hk=> ?_⟩<;>first | (exfalso;omega) | (simp_all [two,Q9];omega))
  refine QC 6 8 true 61 (dz fhg61_8) rfl rfl rfl (gF (nz fhg59_7) rfl rfl (OF.pickF (VEv.tmpB rfl (dz fhg61_8)) (VEv.bool false)) (fO (OF.pickF (VEv.tmpB rfl (nz fhg59_7)) (tv (tB false) rfl)) (mO (tB false) rfl (VRunO.free (VWant.on (b:=false) rfl rfl rfl) (OF.move (tv (tB (decide (x1.Kind=5))) rfl)) (VRunO.free (VWant.on (b:=false) rfl rfl rfl) (Q1 (tv (tB (decide (x1.Kind=5))) rfl)) (VRunO.free (VWant.on (b:=false) rfl rfl rfl) (OF.move (tv (tB (!(decide (x1.Kind=5)))) rfl)) (Yn (tI x1.B) (nkF (dz fhg61_8)) rfl rfl rfl rfl ZS rfl rfl Q0 (gF (nkF (dz fhg61_8)) rfl rfl (xne (tv (tI x1.B) rfl) (VEv.int .i64 0)) (VRunO.free (VWant.on (b:=false) rfl rfl rfl) (OF.pickT (VEv.tmpB rfl (nkF (dz fhg61_8))) (tv (tB (!(decide (x1.B=0)))) rfl)) (fO (OF.pickF (tv (tB false) rfl) (tv (tB (!(decide (x1.B=0)))) rfl)) (nt ?_)))))))))))
  refine cn (x1.B=0) rfl (fun fhc2=> ?_) fun fhc2=> ?_
  ·refine sr ?_
   refine fO (OF.assign (VEv.bool false)) (nt (rt (tr (vb (b':=false) rfl ?_))))
   (symm;rw [decide_eq_false_iff_not,QE hx1];rintro ⟨h1,h2,h3⟩;by_cases hk:x1.Kind=1<;>simp only [hk,two] at* <;>(simp_all [Q9];done))
  refine sk (tn (sr (mO (tB (decide (x1.Kind=5))) rfl (mO (tB (decide (x1.Kind=5))) rfl (Yn (tI x1.Kind) (dz fhg61_8) rfl rfl rfl rfl QZ rfl rfl Q0 (gF (dz fhg61_8) rfl rfl (YR (tv (tI x1.Kind) rfl) (VEv.int .i64 2)) (fO (OF.pickF (VEv.tmpB rfl (dz fhg61_8)) (tv (tB (decide (x1.Kind=2))) rfl)) (mO (tB (decide (x1.Kind=2))) rfl ?_))))))))
  refine gw (x1.Kind=2) (fun fhg85_10=> ?_) fun fhg85_10=> ?_
  ·refine QC 7 6 false 85 (dy fhg85_10) rfl rfl rfl ?_
   refine fO (OF.pickT (VEv.tmpB rfl (dy fhg85_10)) (VEv.bool true)) (aO (tB true) rfl (nt (rt (vb (b':=true) rfl ?_))))
   (symm;rw [decide_eq_true_eq,QE hx1];refine ⟨by omega,fun hk=> ?_,fun hk=> ?_⟩<;>first | (exfalso;omega) | (simp_all [two,Q9];omega))
  refine gF (dz fhg85_10) rfl rfl (OF.move (tv (rd 4 Qj a) rfl)) (Yn (tI x1.A) (dz fhg85_10) rfl rfl rfl rfl Ye rfl rfl Q0 ?_)
  obtain ⟨x2,hx2⟩:∃x,a[(Int.toNat x1.A)]? =some x:=⟨_,List.getElem?_eq_getElem (by omega)⟩
  refine gF (dz fhg85_10) rfl rfl (OF.indexAddrR (row:=(Qj false x2)) (i:=(Int.toNat x1.A)) (tv (rd 4 Qj a) rfl) (tv (tI x1.A) rfl) (by omega) (QA _ hx2) U72 ZZ Y8) (glr (tI x2.Kind) (dz fhg85_10) rfl rfl rfl rfl (lb rfl) QZ rfl Q0 (gF (dz fhg85_10) rfl rfl (YR (tv (tI x2.Kind) rfl) (VEv.int .i64 1)) (fO (OF.pickF (VEv.tmpB rfl (dz fhg85_10)) (tv (tB (decide (x2.Kind=1))) rfl)) (aO (tB (decide (x2.Kind=1))) rfl (nt (rt (vb (b':=(decide (x2.Kind=1))) rfl ?_)))))))
  (refine Qlj hx1 hx2 ?_ ?_ ?_ ?_ ?_ ?_ ?_<;>first | assumption | omega | (simp only [two];omega))
 refine oD rfl rfl (nz fhg28_3) rfl (oD rfl rfl (nz fhg28_3) rfl (oD rfl rfl (nz fhg28_3) rfl (VRunD.free rfl (VWant.on rfl rfl hg24_2) rfl (OF.pickF (VEv.tmpB rfl (nz fhg28_3)) (VEv.bool false)) (fD (OF.pickF (VEv.tmpB rfl hg24_2) (tv (tB false) rfl)) rfl rfl (VRunD.nil (tn (cf rfl (sk (tn (sr (lf (tI x1.Kind) rfl QZ rfl rfl Q0 ?_)))))))))))
 refine fO (YR (tv (tI x1.Kind) rfl) (VEv.int .i64 4)) (mO (tB (decide (x1.Kind=4))) rfl ?_)
 refine gw (x1.Kind=4) (fun fhg37_11=> ?_) fun fhg37_11=> ?_
 ·refine QC 3 3 false 37 (dy fhg37_11) rfl rfl rfl ?_
  refine fO (OF.pickT (VEv.tmpB rfl (dy fhg37_11)) (VEv.bool true)) (aO (tB true) rfl (nt (sq (sr (lf (tI x1.Kind) rfl QZ rfl rfl Q0 (fO (YR (tv (tI x1.Kind) rfl) (VEv.int .i64 1)) (nt (ck (dy fhg28_3) rfl (sr (lf (tI x1.A) rfl Ye rfl rfl Q0 (fO (YR (tv (tI x1.A) rfl) (VEv.int .i64 0)) ?_)))))))))))
  refine mO (tB (decide (x1.A=0))) rfl ?_
  refine gw (x1.A=0) (fun fhg48_12=> ?_) fun fhg48_12=> ?_
  ·refine Yn (tI x1.B) (dy fhg48_12) rfl rfl rfl rfl ZS rfl rfl Q0 ?_
   refine gF (dy fhg48_12) rfl rfl (YR (tv (tI x1.B) rfl) (VEv.int .i64 0)) (fO (OF.pickT (VEv.tmpB rfl (dy fhg48_12)) (tv (tB (decide (x1.B=0))) rfl)) (aO (tB (decide (x1.B=0))) rfl (nt (rt (tr (vb (b':=(decide (x1.B=0))) rfl ?_))))))
   (exfalso;omega)
  refine QC 3 3 true 48 (dz fhg48_12) rfl rfl rfl (fO (OF.pickF (VEv.tmpB rfl (dz fhg48_12)) (VEv.bool false)) (aO (tB false) rfl (nt (rt (tr (vb (b':=false) rfl ?_))))))
  (exfalso;omega)
 refine Yn (tI x1.Kind) (dz fhg37_11) rfl rfl rfl rfl QZ rfl rfl Q0 (gF (dz fhg37_11) rfl rfl (YR (tv (tI x1.Kind) rfl) (VEv.int .i64 5)) (fO (OF.pickF (VEv.tmpB rfl (dz fhg37_11)) (tv (tB (decide (x1.Kind=5))) rfl)) (aO (tB (decide (x1.Kind=5))) rfl (nt (sq (sr (lf (tI x1.Kind) rfl QZ rfl rfl Q0 (fO (YR (tv (tI x1.Kind) rfl) (VEv.int .i64 1)) (nt (ck (dy fhg28_3) rfl (sr ?_)))))))))))
 refine lf (tI x1.A) rfl Ye rfl rfl Q0 (fO (YR (tv (tI x1.A) rfl) (VEv.int .i64 0)) (mO (tB (decide (x1.A=0))) rfl ?_))
 refine gw (x1.A=0) (fun fhg48_13=> ?_) fun fhg48_13=> ?_
 ·refine Yn (tI x1.B) (dy fhg48_13) rfl rfl rfl rfl ZS rfl rfl Q0 ?_
  refine gF (dy fhg48_13) rfl rfl (YR (tv (tI x1.B) rfl) (VEv.int .i64 0)) (fO (OF.pickT (VEv.tmpB rfl (dy fhg48_13)) (tv (tB (decide (x1.B=0))) rfl)) (aO (tB (decide (x1.B=0))) rfl (nt (rt (tr (vb (b':=(decide (x1.B=0))) rfl ?_))))))
  (refine Qlx hx1 ?_ ?_ ?_ ?_<;>first | assumption | (simp_all;done))
 refine QC 3 3 true 48 (dz fhg48_13) rfl rfl rfl (fO (OF.pickF (VEv.tmpB rfl (dz fhg48_13)) (VEv.bool false)) (aO (tB false) rfl (nt (rt (tr (vb (b':=false) rfl ?_))))))
 (symm;rw [decide_eq_false_iff_not,QE hx1];rintro ⟨h1,h2,h3⟩;by_cases hk:x1.Kind=1<;>simp only [hk,two] at* <;>(simp_all [Q9];done))
theorem Qd1 (n:Nat) (a:List D.Step) (hz:zL Zg a≤mx):Pure (Qr Tryz.prog (n+4)) 71 [(rd 4 Qj a)] (tB (decide (ZX a))):=by
 refine Pure.intro (rs:= [ResultVar.tmp 2]) Tryz.func71 rfl rfl rfl (E0:= [(0,(rd 4 Qj a))]) rfl ?_
 obtain ⟨hlim,hmx,hmax⟩:=QJ
 have ha:=Zi (z:=Zg) a
 refine sr (fO (OF.assign (VEv.bool false)) (nt (sq (sr (fO (OF.assign (VEv.int .i64 0)) (nt (VRun.block ?_)))))))
 refine VRun.loop (A:=Nat) (fun s_=> [(0,(rd 4 Qj a)),(3,(tN s_))]) (fun s_=>Q3 []) 0 (fun s_=>s_≤a.length∧∀j,j<s_→YO a j) (fun s_=>a.length - s_) (0:Nat) ?_ (Wk.mk (fun k=>k) ?_ ?_ ?_) ?_
 ·exact ⟨Nat.zero_le _,fun j hj=>by omega⟩
 ·exact (b2 (b2 bn))
 ·exact bn
 ·exact nd rfl
 rintro i (hI':i≤a.length∧∀j,j<i→YO a j)
 show VRun _ _ _ [(0,(rd 4 Qj a)),(3,(tN i))] (Q3 []) 0 _
 have hI0:=hI'
 refine sq (sr (mO (tN i) rfl (mO (rd 4 Qj a) rfl (lO (B.lenR (m:=a.length) (tv (rd 4 Qj a) rfl) U72 (List.length_map ..)) (fO (Zt (tv (tN i) rfl) (tv (tN a.length) rfl)) (mO (tB (decide (i<a.length))) rfl ?_))))))
 refine gw (i<a.length) (fun fhg8_1=> ?_) fun fhg8_1=> ?_
 ·refine gF (dy fhg8_1) rfl rfl (OF.move (tv (rd 4 Qj a) rfl)) ?_
  refine gL (dy fhg8_1) rfl rfl (B.lenR (m:=a.length) (tv (rd 4 Qj a) rfl) U72 (List.length_map ..)) (gF (dy fhg8_1) rfl rfl (B.leq (c:=(decide (a.length≤9))) (tv (tN a.length) rfl) (VEv.int .i64 9) (Q8 (by omega))) (fO (OF.pickT (VEv.tmpB rfl (dy fhg8_1)) (tv (tB (decide (a.length≤9))) rfl)) (nt ?_)))
  refine cd (a.length≤9) rfl (fun fhc0=> ?_) fun fhc0=> ?_
  ·refine sk ?_
   refine tn (sq (VRun.block (sr (mO (rd 4 Qj a) rfl (mO (tN i) rfl (cO (cS (vc (tv (rd 4 Qj a) rfl) (vc (tv (tN i) rfl) vn)) (Yl rfl) (Qe3 (n+0) a i (by assumption) (by assumption)) rfl rfl) (fO (Q1 (tv (tB (decide (YO a i))) rfl)) (nt ?_))))))))
   refine cn (YO a i) rfl (fun fhc1=> ?_) fun fhc1=> ?_
   ·refine sr ?_
    refine fO (OF.assign (VEv.bool false)) (nt (rt (vinB.r (tr (tr (vinB.r (tr (vb (b':=false) rfl ?_))))))))
    (symm;rw [decide_eq_false_iff_not];rintro ⟨h1,h2⟩;exact absurd (h2 i (by omega)) (by assumption))
   refine sk (vinB.n (tn (VRun.region (mO (tN i) rfl (fO (QF (tv (tN i) rfl) (VEv.int .i64 1) (by omega)) (aO (tN (i+1)) rfl (VRunO.nil (tn ?_))))))))
   refine ⟨(i+1:Nat),?_,?_,Wk.mk (fun k=>k) ?_ ?_ ?_⟩
   ·exact QX hI0 (by omega) (by assumption)
   ·omega
   ·exact (b2 (b2 bn))
   ·exact bn
   ·exact nd rfl
  refine VRun.exit (vthn.e (vthn.e (vinB.e (tn (sr (mO (rd 4 Qj a) rfl (lO (B.lenR (m:=a.length) (tv (rd 4 Qj a) rfl) U72 (List.length_map ..)) (cO (cS (vc (tv (tN a.length) rfl) (vc (VEv.int .i64 1) (vc (VEv.int .i64 9) vn))) (Yl rfl) (QV (n+2) ((a.length:Nat):Int) 1 9) rfl rfl) (aO (tB (decide (1≤((a.length:Nat):Int)∧((a.length:Nat):Int)≤9))) rfl (nt (rt ?_)))))))))))
  refine vb (b':=(decide (1≤((a.length:Nat):Int)∧((a.length:Nat):Int)≤9))) rfl ?_
  (refine Q8 ⟨fun h=>⟨by omega,JS hI' (by omega)⟩,fun h=>by have:=h.1;omega⟩)
 refine QC 3 4 true 8 (dz fhg8_1) rfl rfl rfl (fO (OF.pickF (VEv.tmpB rfl (dz fhg8_1)) (VEv.bool false)) (nt (cf rfl (VRun.exit (vthn.e (vthn.e (vinB.e (tn (sr (mO (rd 4 Qj a) rfl (lO (B.lenR (m:=a.length) (tv (rd 4 Qj a) rfl) U72 (List.length_map ..)) ?_)))))))))))
 refine cO (cS (vc (tv (tN a.length) rfl) (vc (VEv.int .i64 1) (vc (VEv.int .i64 9) vn))) (Yl rfl) (QV (n+2) ((a.length:Nat):Int) 1 9) rfl rfl) (aO (tB (decide (1≤((a.length:Nat):Int)∧((a.length:Nat):Int)≤9))) rfl (nt (rt (vb (b':=(decide (1≤((a.length:Nat):Int)∧((a.length:Nat):Int)≤9))) rfl ?_))))
 (refine Q8 ⟨fun h=>⟨by omega,JS hI' (by omega)⟩,fun h=>by have:=h.1;omega⟩)
theorem Qd2 (n:Nat) (a:List D.Step) (hz:zL Zg a≤mx):Pure (Qr Tryz.prog (n+3)) 84 [(rd 4 Qj a)] (tB (decide (ZX a))):=by
 refine Pure.intro (rs:= [ResultVar.tmp 2]) Tryz.func84 rfl rfl rfl (E0:= [(0,(rd 4 Qj a))]) rfl ?_
 obtain ⟨hlim,hmx,hmax⟩:=QJ
 have ha:=Zi (z:=Zg) a
 have hw:∀x∈a,x.Word.size≤maxLen:=fun x hx=>by have h1:=Qjb (z:=Zg) hx;simp only [Zg] at h1;omega
 refine sr (fO (OF.assign (VEv.bool false)) (nt (sq (sr (mO (rd 4 Qj a) rfl (lO (B.lenR (m:=a.length) (tv (rd 4 Qj a) rfl) U72 (List.length_map ..)) (cO (cS (vc (tv (tN a.length) rfl) (vc (VEv.int .i64 1) (vc (VEv.int .i64 9) vn))) (Yl rfl) (Zf (n+1) ((a.length:Nat):Int) 1 9) rfl rfl) (fO (Q1 (tv (tB (decide (1≤((a.length:Nat):Int)∧((a.length:Nat):Int)≤9))) rfl)) (nt ?_)))))))))
 refine cn (1≤((a.length:Nat):Int)∧((a.length:Nat):Int)≤9) rfl (fun fhc0=> ?_) fun fhc0=> ?_
 ·refine sr ?_
  refine fO (OF.assign (VEv.bool false)) (nt (rt (tr (vb (b':=false) rfl ?_))))
  (symm;rw [decide_eq_false_iff_not];rintro ⟨h1,h2⟩;(exfalso;omega))
 refine sk (tn (sq (sr (mO (rd 4 Qj a) rfl (lO (B.lenR (m:=a.length) (tv (rd 4 Qj a) rfl) U72 (List.length_map ..)) (fO (OF.move (VEv.int .i64 0)) (nt (VRun.block ?_))))))))
 refine VRun.loop (A:=Nat) (fun s_=> [(0,(rd 4 Qj a)),(9,(rd 4 Qj a)),(10,(tN a.length)),(11,(tN s_))]) (fun s_=>Q3 []) 0 (fun s_=>s_≤a.length∧∀j,j<s_→YO a j) (fun s_=>a.length - s_) (0:Nat) ?_ (Wk.mk (fun k=>k) ?_ ?_ ?_) ?_
 ·exact ⟨Nat.zero_le _,fun j hj=>by omega⟩
 ·exact (b2 (b2 (b2 (b2 bn))))
 ·exact bn
 ·exact nd rfl
 rintro i (hI':i≤a.length∧∀j,j<i→YO a j)
 show VRun _ _ _ [(0,(rd 4 Qj a)),(9,(rd 4 Qj a)),(10,(tN a.length)),(11,(tN i))] (Q3 []) 0 _
 have hI0:=hI'
 refine sr (fO (Zt (tv (tN i) rfl) (tv (tN a.length) rfl)) (nt (sq ?_)))
 refine cd (i<a.length) rfl (fun fhc1=> ?_) fun fhc1=> ?_
 ·refine sk ?_
  refine tn (sq (VRun.block (sr (mO (tN i) rfl ?_))))
  obtain ⟨x1,hx1⟩:∃x,a[i]? =some x:=⟨_,List.getElem?_eq_getElem (by omega)⟩
  refine fO (OF.indexAddrR (row:=(Qj false x1)) (i:=i) (tv (rd 4 Qj a) rfl) (tv (tN i) rfl) rfl (QA _ hx1) U72 ZZ Y8) (lO (OL.loadRn (us:=(Qj false x1)) (tv (T.rp (Qj false x1)) rfl) Qee ZZ (lb rfl) rfl) (kO (B.alloc (t:=(T.agg [(tN 0),(tS ByteArray.empty),(tN 0),(tN 0)])) (ts:= [(tN 0),(tS ByteArray.empty),(tN 0),(tN 0)]) QfO Qfp nofun (fun _=> .agg _ _ rfl (YD (RL.cons (.int _ _) (RL.cons (.str _) (RL.cons (.int _ _) (RL.cons (.int _ _) (RL.nil _))))))) rfl) (aO (tN i) rfl (cO (B.storeW (us:=(Qj false x1)) (tv (T.op 0 0) rfl) (tv (T.agg (Qj false x1)) rfl) nofun rfl rfl rfl Y8 ZZ (bc rfl (bc rfl (bc rfl (bc rfl bn))))) (nt (sq (sr (lf (tI x1.Kind) rfl QZ rfl rfl Q0 (cO (cS (vc (tv (tI x1.Kind) rfl) (vc (VEv.int .i64 1) (vc (VEv.int .i64 9) vn))) (Yl rfl) (Zf (n+1) x1.Kind 1 9) rfl rfl) (fO (Q1 (tv (tB (decide (1≤x1.Kind∧x1.Kind≤9))) rfl)) (nt ?_)))))))))))
  refine cn (1≤x1.Kind∧x1.Kind≤9) rfl (fun fhc2=> ?_) fun fhc2=> ?_
  ·refine sr ?_
   refine fO (OF.assign (VEv.bool false)) (nt (rt (tr (vinB.r (tr (tr (vinB.r (tr (vb (b':=false) rfl ?_)))))))))
   (symm;rw [decide_eq_false_iff_not];rintro ⟨h1,h2⟩;(have h3:=(QE hx1).1 (h2 i fhc1);obtain ⟨h4,h5,h6⟩:=h3;simp only [two] at h6;omega))
  refine sk (tn (sq (sr (lf (tI x1.Kind) rfl QZ rfl rfl Q0 (fO (YR (tv (tI x1.Kind) rfl) (VEv.int .i64 1)) (nt ?_))))))
  refine cd (x1.Kind=1) rfl (fun fhc3=> ?_) fun fhc3=> ?_
  ·refine sq ?_
   refine sr (lf (tS x1.Word) rfl Jr rfl rfl Z3 (cO (cS (vc (tv (tS x1.Word) rfl) vn) (Yl rfl) (QdO (n+0) x1.Word (by exact hw _ (List.mem_of_getElem? hx1))) rfl rfl) (fO (Q1 (tv (tB (decide (Z1 x1.Word))) rfl)) (mO (tB (!(decide (Z1 x1.Word)))) rfl ?_))))
   refine gn (Z1 x1.Word) (fun fhg27_1=> ?_) fun fhg27_1=> ?_
   ·refine QC 3 4 false 27 (ny fhg27_1) rfl rfl rfl ?_
    refine fO (OF.pickT (VEv.tmpB rfl (ny fhg27_1)) (VEv.bool true)) (mO (tB true) rfl (QC 3 9 false 32 (b:=true) rfl rfl rfl rfl (fO (OF.pickT (tv (tB true) rfl) (VEv.bool true)) (nt (ct rfl (sr (fO (OF.assign (VEv.bool false)) (nt (rt (tr (tr ?_)))))))))))
    refine vinB.r (tr (tr (vinB.r (tr (vb (b':=false) rfl ?_)))))
    (symm;rw [decide_eq_false_iff_not];rintro ⟨h1,h2⟩;(have h3:=(QE hx1).1 (h2 i fhc1);obtain ⟨h4,h5,h6⟩:=h3;simp only [two] at h6;(by_cases hk:x1.Kind=1<;>simp_all<;>omega)))
   refine Yn (tI x1.A) (nz fhg27_1) rfl rfl rfl rfl Ye rfl rfl Q0 (gF (nz fhg27_1) rfl rfl (xne (tv (tI x1.A) rfl) (VEv.int .i64 0)) (fO (OF.pickF (VEv.tmpB rfl (nz fhg27_1)) (tv (tB (!(decide (x1.A=0)))) rfl)) (mO (tB (!(decide (x1.A=0)))) rfl ?_)))
   refine gn (x1.A=0) (fun fhg32_2=> ?_) fun fhg32_2=> ?_
   ·refine QC 3 9 false 32 (ny fhg32_2) rfl rfl rfl ?_
    refine fO (OF.pickT (VEv.tmpB rfl (ny fhg32_2)) (VEv.bool true)) (nt (ct rfl (sr (fO (OF.assign (VEv.bool false)) (nt (rt (tr (tr (vinB.r (tr (tr ?_)))))))))))
    refine vinB.r (tr (vb (b':=false) rfl ?_))
    (symm;rw [decide_eq_false_iff_not];rintro ⟨h1,h2⟩;(have h3:=(QE hx1).1 (h2 i fhc1);obtain ⟨h4,h5,h6⟩:=h3;simp only [two] at h6;omega))
   refine Yn (tI x1.B) (nz fhg32_2) rfl rfl rfl rfl ZS rfl rfl Q0 (gF (nz fhg32_2) rfl rfl (xne (tv (tI x1.B) rfl) (VEv.int .i64 0)) (fO (OF.pickF (VEv.tmpB rfl (nz fhg32_2)) (tv (tB (!(decide (x1.B=0)))) rfl)) (nt ?_)))
   refine cn (x1.B=0) rfl (fun fhc4=> ?_) fun fhc4=> ?_
   ·refine sr ?_
    refine fO (OF.assign (VEv.bool false)) (nt (rt (tr (tr (vinB.r (tr (tr (vinB.r (tr (vb (b':=false) rfl ?_))))))))))
    (symm;rw [decide_eq_false_iff_not];rintro ⟨h1,h2⟩;(have h3:=(QE hx1).1 (h2 i fhc1);obtain ⟨h4,h5,h6⟩:=h3;simp only [two] at h6;omega))
   refine sk (tn (VRun.exit (vthn.e (vinB.e (tn (VRun.region (fO (QF (tv (tN i) rfl) (VEv.int .i64 1) (by omega)) (mO (tN (i+1)) rfl (VRunO.nil (tn ?_))))))))))
   refine ⟨(i+1:Nat),?_,?_,Wk.mk (fun k=>k) ?_ ?_ ?_⟩
   ·refine QX hI0 fhc1 ((QE hx1).2 ?_)
    simp only [Qcu,two]
    refine ⟨by omega,fun hk=> ?_,fun hk=> ?_⟩
    ·(refine ⟨?_,?_,?_⟩<;>assumption)
    ·(exfalso;omega)
   ·omega
   ·exact (b2 (b2 (b2 (b2 bn))))
   ·exact bn
   ·exact nd rfl
  refine sk (tn (sq (sr (lf (tS x1.Word) rfl Jr rfl rfl Z3 (fO (B.sneq (c:=(!(decide (x1.Word=(⟨#[]⟩:ByteArray))))) (tv (tS x1.Word) rfl) (VEv.str (⟨#[]⟩:ByteArray)) rfl) (mO (tB (!(decide (x1.Word=(⟨#[]⟩:ByteArray))))) rfl ?_))))))
  refine gn (x1.Word=(⟨#[]⟩:ByteArray)) (fun fhg40_3=> ?_) fun fhg40_3=> ?_
  ·refine QC 5 3 false 40 (ny fhg40_3) rfl rfl rfl ?_
   refine fO (OF.pickT (VEv.tmpB rfl (ny fhg40_3)) (VEv.bool true)) (mO (tB true) rfl (QC 4 10 false 47 (b:=true) rfl rfl rfl rfl (JA 7 14 true 51 rfl rfl rfl (VRunO.off (VWant.not (b:=true) rfl rfl rfl) (fO (OF.pickT (tv (tB true) rfl) (VEv.bool true)) (nt (ct rfl (sr (fO (OF.assign (VEv.bool false)) (nt (rt ?_)))))))))))
   refine tr (vinB.r (tr (tr (vinB.r (tr (vb (b':=false) rfl ?_))))))
   (symm;rw [decide_eq_false_iff_not];rintro ⟨h1,h2⟩;(have h3:=(QE hx1).1 (h2 i fhc1);obtain ⟨h4,h5,h6⟩:=h3;simp only [two] at h6;(by_cases hk:x1.Kind=1<;>simp_all<;>omega)))
  refine Yn (tI x1.A) (nz fhg40_3) rfl rfl rfl rfl Ye rfl rfl Q0 (gF (nz fhg40_3) rfl rfl (OF.move (tv (tN i) rfl)) (VRunO.chain (VWant.on rfl rfl (nz fhg40_3)) (cS (vc (tv (tI x1.A) rfl) (vc (tv (tN i) rfl) vn)) (Yl rfl) (YZ (n+1) x1.A ((i:Nat):Int)) rfl rfl) (gF (nz fhg40_3) rfl rfl (Q1 (tv (tB (decide (0≤x1.A∧x1.A<((i:Nat):Int)))) rfl)) (fO (OF.pickF (VEv.tmpB rfl (nz fhg40_3)) (tv (tB (!(decide (0≤x1.A∧x1.A<((i:Nat):Int))))) rfl)) (mO (tB (!(decide (0≤x1.A∧x1.A<((i:Nat):Int))))) rfl ?_)))))
  refine gn (0≤x1.A∧x1.A<((i:Nat):Int)) (fun fhg47_4=> ?_) fun fhg47_4=> ?_
  ·refine QC 4 10 false 47 (ny fhg47_4) rfl rfl rfl ?_
   refine JA 7 14 true 51 rfl rfl rfl (oO rfl rfl (ny fhg47_4) (fO (OF.pickT (VEv.tmpB rfl (ny fhg47_4)) (VEv.bool true)) (nt (ct rfl (sr (fO (OF.assign (VEv.bool false)) (nt (rt (tr (vinB.r (tr ?_)))))))))))
   refine tr (vinB.r (tr (vb (b':=false) rfl ?_)))
   (symm;rw [decide_eq_false_iff_not];rintro ⟨h1,h2⟩;(have h3:=(QE hx1).1 (h2 i fhc1);obtain ⟨h4,h5,h6⟩:=h3;simp only [two] at h6;omega))
  refine Yn (tI x1.Kind) (nz fhg47_4) rfl rfl rfl rfl QZ rfl rfl Q0 (VRunO.chain (VWant.on rfl rfl (nz fhg47_4)) (cS (vc (tv (tI x1.Kind) rfl) vn) (Yl rfl) (Qcq (n+1) x1.Kind) rfl rfl) (gF (nz fhg47_4) rfl rfl (OF.move (tv (tB (decide (x1.Kind=3∨6≤x1.Kind))) rfl)) ?_))
  refine gw (x1.Kind=3∨6≤x1.Kind) (fun fhg51_5=> ?_) fun fhg51_5=> ?_
  ·refine gF (dy fhg51_5) rfl rfl (OF.move (tv (rd 4 Qj a) rfl)) ?_
   refine Yn (tI x1.A) (dy fhg51_5) rfl rfl rfl rfl Ye rfl rfl Q0 ?_
   obtain ⟨x2,hx2⟩:∃x,a[(Int.toNat x1.A)]? =some x:=⟨_,List.getElem?_eq_getElem (by omega)⟩
   refine gF (dy fhg51_5) rfl rfl (OF.indexAddrR (row:=(Qj false x2)) (i:=(Int.toNat x1.A)) (tv (rd 4 Qj a) rfl) (tv (tI x1.A) rfl) (by omega) (QA _ hx2) U72 ZZ Y8) (glr (tI x2.Kind) (dy fhg51_5) rfl rfl rfl rfl (lb rfl) QZ rfl Q0 (gF (dy fhg51_5) rfl rfl (xne (tv (tI x2.Kind) rfl) (VEv.int .i64 1)) (gF (nz fhg47_4) rfl rfl (OF.pickT (VEv.tmpB rfl (dy fhg51_5)) (tv (tB (!(decide (x2.Kind=1)))) rfl)) (fO (OF.pickF (VEv.tmpB rfl (nz fhg47_4)) (tv (tB (!(decide (x2.Kind=1)))) rfl)) (nt ?_)))))
   refine cn (x2.Kind=1) rfl (fun fhc5=> ?_) fun fhc5=> ?_
   ·refine sr ?_
    refine fO (OF.assign (VEv.bool false)) (nt (rt (tr (vinB.r (tr (tr (vinB.r (tr (vb (b':=false) rfl ?_)))))))))
    (symm;rw [decide_eq_false_iff_not];rintro ⟨h1,h2⟩;(have h3:=(QE hx1).1 (h2 i fhc1);obtain ⟨h4,h5,h6⟩:=h3;simp only [two] at h6;(by_cases hk:x1.Kind=1<;>simp_all<;>omega)))
   refine sk (tn (sr (lf (tI x1.Kind) rfl QZ rfl rfl Q0 (cO (cS (vc (tv (tI x1.Kind) rfl) vn) (Yl rfl) (ZP (n+1) x1.Kind) rfl rfl) (mO (tB (decide (x1.Kind=4∨x1.Kind=5))) rfl ?_)))))
   refine gw (x1.Kind=4∨x1.Kind=5) (fun fhg64_6=> ?_) fun fhg64_6=> ?_
   ·refine Yn (tI x1.B) (dy fhg64_6) rfl rfl rfl rfl ZS rfl rfl Q0 ?_
    refine gF (dy fhg64_6) rfl rfl (OF.move (tv (tN i) rfl)) (VRunO.chain (VWant.on rfl rfl (dy fhg64_6)) (cS (vc (tv (tI x1.B) rfl) (vc (tv (tN i) rfl) vn)) (Yl rfl) (YZ (n+1) x1.B ((i:Nat):Int)) rfl rfl) (gF (dy fhg64_6) rfl rfl (Q1 (tv (tB (decide (0≤x1.B∧x1.B<((i:Nat):Int)))) rfl)) (fO (OF.pickT (VEv.tmpB rfl (dy fhg64_6)) (tv (tB (!(decide (0≤x1.B∧x1.B<((i:Nat):Int))))) rfl)) (mO (tB (!(decide (0≤x1.B∧x1.B<((i:Nat):Int))))) rfl ?_))))
    refine gn (0≤x1.B∧x1.B<((i:Nat):Int)) (fun fhg71_7=> ?_) fun fhg71_7=> ?_
    ·refine QC 5 10 false 71 (ny fhg71_7) rfl rfl rfl ?_
     refine JA 3 15 true 76 rfl rfl rfl (oO rfl rfl (ny fhg71_7) (fO (OF.pickT (VEv.tmpB rfl (ny fhg71_7)) (VEv.bool true)) (nt (ct rfl (sr (fO (OF.assign (VEv.bool false)) (nt (rt (vinB.r (tr (tr ?_)))))))))))
     refine vinB.r (tr (vb (b':=false) rfl ?_))
     (symm;rw [decide_eq_false_iff_not];rintro ⟨h1,h2⟩;(exfalso;omega))
    refine Yn (tI x1.Kind) (nz fhg71_7) rfl rfl rfl rfl QZ rfl rfl Q0 (VRunO.chain (VWant.on rfl rfl (nz fhg71_7)) (cS (vc (tv (tI x1.Kind) rfl) vn) (Yl rfl) (ZP (n+1) x1.Kind) rfl rfl) (gF (nz fhg71_7) rfl rfl (Q1 (tv (tB (decide (x1.Kind=4∨x1.Kind=5))) rfl)) (gF (nz fhg71_7) rfl rfl (OF.move (tv (tB (!(decide (x1.Kind=4∨x1.Kind=5)))) rfl)) (QC 3 15 true 76 (nkT (dy fhg64_6)) rfl rfl rfl (gF (nz fhg71_7) rfl rfl (OF.pickF (VEv.tmpB rfl (nkT (dy fhg64_6))) (VEv.bool false)) (fO (OF.pickF (VEv.tmpB rfl (nz fhg71_7)) (tv (tB false) rfl)) (nt (cf rfl (sk (vinB.n (tn ?_)))))))))))
    refine VRun.region (fO (QF (tv (tN i) rfl) (VEv.int .i64 1) (by omega)) (mO (tN (i+1)) rfl (VRunO.nil (tn ?_))))
    refine ⟨(i+1:Nat),?_,?_,Wk.mk (fun k=>k) ?_ ?_ ?_⟩
    ·refine QX hI0 fhc1 ((QE hx1).2 ?_)
     simp only [Qcu,two]
     refine ⟨by omega,fun hk=> ?_,fun hk=> ?_⟩
     ·(exfalso;omega)
     ·(exfalso;omega)
    ·omega
    ·exact (b2 (b2 (b2 (b2 bn))))
    ·exact bn
    ·exact nd rfl
   refine QC 5 3 true 64 (dz fhg64_6) rfl rfl rfl (fO (OF.pickF (VEv.tmpB rfl (dz fhg64_6)) (VEv.bool false)) (mO (tB false) rfl (VRunO.free (VWant.on (b:=false) rfl rfl rfl) (OF.fieldAddrO (tv (T.op 0 0) rfl) QZ) (VRunO.look (VWant.on (b:=false) rfl rfl rfl) (OL.loadO1 (t:=(tI x1.Kind)) (tv (T.op 0 0) rfl) rfl rfl Q0) (VRunO.chain (VWant.on (b:=false) rfl rfl rfl) (cS (vc (tv (tI x1.Kind) rfl) vn) (Yl rfl) (ZP (n+1) x1.Kind) rfl rfl) (VRunO.free (VWant.on (b:=false) rfl rfl rfl) (Q1 (tv (tB (decide (x1.Kind=4∨x1.Kind=5))) rfl)) (VRunO.free (VWant.on (b:=false) rfl rfl rfl) (OF.move (tv (tB (!(decide (x1.Kind=4∨x1.Kind=5)))) rfl)) (Yn (tI x1.B) (nkF (dz fhg64_6)) rfl rfl rfl rfl ZS rfl rfl Q0 (gF (nkF (dz fhg64_6)) rfl rfl (xne (tv (tI x1.B) rfl) (VEv.int .i64 0)) (VRunO.free (VWant.on (b:=false) rfl rfl rfl) (OF.pickT (VEv.tmpB rfl (nkF (dz fhg64_6))) (tv (tB (!(decide (x1.B=0)))) rfl)) (fO (OF.pickF (tv (tB false) rfl) (tv (tB (!(decide (x1.B=0)))) rfl)) ?_)))))))))))
   refine nt ?_
   refine cn (x1.B=0) rfl (fun fhc6=> ?_) fun fhc6=> ?_
   ·refine sr ?_
    refine fO (OF.assign (VEv.bool false)) (nt (rt (vinB.r (tr (tr (vinB.r (tr (vb (b':=false) rfl ?_))))))))
    (symm;rw [decide_eq_false_iff_not];rintro ⟨h1,h2⟩;(have h3:=(QE hx1).1 (h2 i fhc1);obtain ⟨h4,h5,h6⟩:=h3;simp only [two] at h6;omega))
   refine sk (vinB.n (tn (VRun.region (fO (QF (tv (tN i) rfl) (VEv.int .i64 1) (by omega)) (mO (tN (i+1)) rfl (VRunO.nil (tn ?_)))))))
   refine ⟨(i+1:Nat),?_,?_,Wk.mk (fun k=>k) ?_ ?_ ?_⟩
   ·refine QX hI0 fhc1 ((QE hx1).2 ?_)
    simp only [Qcu,two]
    refine ⟨by omega,fun hk=> ?_,fun hk=> ?_⟩
    ·(exfalso;omega)
    ·(refine ⟨?_,?_,fun h=> ?_,fun h=> ?_,fun h1 h2=> ?_⟩<;>first | assumption | omega | (refine ⟨x2,hx2,?_⟩;omega))
   ·omega
   ·exact (b2 (b2 (b2 (b2 bn))))
   ·exact bn
   ·exact nd rfl
  refine QC 7 14 true 51 (dz fhg51_5) rfl rfl rfl (gF (nz fhg47_4) rfl rfl (OF.pickF (VEv.tmpB rfl (dz fhg51_5)) (VEv.bool false)) (fO (OF.pickF (VEv.tmpB rfl (nz fhg47_4)) (tv (tB false) rfl)) (nt (cf rfl (sk (tn (sr (lf (tI x1.Kind) rfl QZ rfl rfl Q0 (cO (cS (vc (tv (tI x1.Kind) rfl) vn) (Yl rfl) (ZP (n+1) x1.Kind) rfl rfl) (mO (tB (decide (x1.Kind=4∨x1.Kind=5))) rfl ?_))))))))))
  refine gw (x1.Kind=4∨x1.Kind=5) (fun fhg64_8=> ?_) fun fhg64_8=> ?_
  ·refine Yn (tI x1.B) (dy fhg64_8) rfl rfl rfl rfl ZS rfl rfl Q0 ?_
   refine gF (dy fhg64_8) rfl rfl (OF.move (tv (tN i) rfl)) (VRunO.chain (VWant.on rfl rfl (dy fhg64_8)) (cS (vc (tv (tI x1.B) rfl) (vc (tv (tN i) rfl) vn)) (Yl rfl) (YZ (n+1) x1.B ((i:Nat):Int)) rfl rfl) (gF (dy fhg64_8) rfl rfl (Q1 (tv (tB (decide (0≤x1.B∧x1.B<((i:Nat):Int)))) rfl)) (fO (OF.pickT (VEv.tmpB rfl (dy fhg64_8)) (tv (tB (!(decide (0≤x1.B∧x1.B<((i:Nat):Int))))) rfl)) (mO (tB (!(decide (0≤x1.B∧x1.B<((i:Nat):Int))))) rfl ?_))))
   refine gn (0≤x1.B∧x1.B<((i:Nat):Int)) (fun fhg71_9=> ?_) fun fhg71_9=> ?_
   ·refine QC 5 10 false 71 (ny fhg71_9) rfl rfl rfl ?_
    refine JA 3 15 true 76 rfl rfl rfl (oO rfl rfl (ny fhg71_9) (fO (OF.pickT (VEv.tmpB rfl (ny fhg71_9)) (VEv.bool true)) (nt (ct rfl (sr (fO (OF.assign (VEv.bool false)) (nt (rt (vinB.r (tr (tr ?_)))))))))))
    refine vinB.r (tr (vb (b':=false) rfl ?_))
    (symm;rw [decide_eq_false_iff_not];rintro ⟨h1,h2⟩;(have h3:=(QE hx1).1 (h2 i fhc1);obtain ⟨h4,h5,h6⟩:=h3;simp only [two] at h6;omega))
   refine Yn (tI x1.Kind) (nz fhg71_9) rfl rfl rfl rfl QZ rfl rfl Q0 (VRunO.chain (VWant.on rfl rfl (nz fhg71_9)) (cS (vc (tv (tI x1.Kind) rfl) vn) (Yl rfl) (ZP (n+1) x1.Kind) rfl rfl) (gF (nz fhg71_9) rfl rfl (Q1 (tv (tB (decide (x1.Kind=4∨x1.Kind=5))) rfl)) (gF (nz fhg71_9) rfl rfl (OF.move (tv (tB (!(decide (x1.Kind=4∨x1.Kind=5)))) rfl)) (QC 3 15 true 76 (nkT (dy fhg64_8)) rfl rfl rfl (gF (nz fhg71_9) rfl rfl (OF.pickF (VEv.tmpB rfl (nkT (dy fhg64_8))) (VEv.bool false)) (fO (OF.pickF (VEv.tmpB rfl (nz fhg71_9)) (tv (tB false) rfl)) (nt (cf rfl (sk (vinB.n (tn ?_)))))))))))
   refine VRun.region (fO (QF (tv (tN i) rfl) (VEv.int .i64 1) (by omega)) (mO (tN (i+1)) rfl (VRunO.nil (tn ?_))))
   refine ⟨(i+1:Nat),?_,?_,Wk.mk (fun k=>k) ?_ ?_ ?_⟩
   ·refine QX hI0 fhc1 ((QE hx1).2 ?_)
    simp only [Qcu,two]
    refine ⟨by omega,fun hk=> ?_,fun hk=> ?_⟩
    ·(exfalso;omega)
    ·(refine ⟨?_,?_,fun h=> ?_,fun h=> ?_,fun h1 h2=> ?_⟩<;>first | assumption | omega)
   ·omega
   ·exact (b2 (b2 (b2 (b2 bn))))
   ·exact bn
   ·exact nd rfl
  refine QC 5 3 true 64 (dz fhg64_8) rfl rfl rfl (fO (OF.pickF (VEv.tmpB rfl (dz fhg64_8)) (VEv.bool false)) (mO (tB false) rfl (VRunO.free (VWant.on (b:=false) rfl rfl rfl) (OF.fieldAddrO (tv (T.op 0 0) rfl) QZ) (VRunO.look (VWant.on (b:=false) rfl rfl rfl) (OL.loadO1 (t:=(tI x1.Kind)) (tv (T.op 0 0) rfl) rfl rfl Q0) (VRunO.chain (VWant.on (b:=false) rfl rfl rfl) (cS (vc (tv (tI x1.Kind) rfl) vn) (Yl rfl) (ZP (n+1) x1.Kind) rfl rfl) (VRunO.free (VWant.on (b:=false) rfl rfl rfl) (Q1 (tv (tB (decide (x1.Kind=4∨x1.Kind=5))) rfl)) (VRunO.free (VWant.on (b:=false) rfl rfl rfl) (OF.move (tv (tB (!(decide (x1.Kind=4∨x1.Kind=5)))) rfl)) (Yn (tI x1.B) (nkF (dz fhg64_8)) rfl rfl rfl rfl ZS rfl rfl Q0 (gF (nkF (dz fhg64_8)) rfl rfl (xne (tv (tI x1.B) rfl) (VEv.int .i64 0)) (VRunO.free (VWant.on (b:=false) rfl rfl rfl) (OF.pickT (VEv.tmpB rfl (nkF (dz fhg64_8))) (tv (tB (!(decide (x1.B=0)))) rfl)) (fO (OF.pickF (tv (tB false) rfl) (tv (tB (!(decide (x1.B=0)))) rfl)) ?_)))))))))))
  refine nt ?_
  refine cn (x1.B=0) rfl (fun fhc6=> ?_) fun fhc6=> ?_
  ·refine sr ?_
   refine fO (OF.assign (VEv.bool false)) (nt (rt (vinB.r (tr (tr (vinB.r (tr (vb (b':=false) rfl ?_))))))))
   (symm;rw [decide_eq_false_iff_not];rintro ⟨h1,h2⟩;(have h3:=(QE hx1).1 (h2 i fhc1);obtain ⟨h4,h5,h6⟩:=h3;simp only [two] at h6;omega))
  refine sk (vinB.n (tn (VRun.region (fO (QF (tv (tN i) rfl) (VEv.int .i64 1) (by omega)) (mO (tN (i+1)) rfl (VRunO.nil (tn ?_)))))))
  refine ⟨(i+1:Nat),?_,?_,Wk.mk (fun k=>k) ?_ ?_ ?_⟩
  ·refine QX hI0 fhc1 ((QE hx1).2 ?_)
   simp only [Qcu,two]
   refine ⟨by omega,fun hk=> ?_,fun hk=> ?_⟩
   ·(exfalso;omega)
   ·(refine ⟨?_,?_,fun h=> ?_,fun h=> ?_,fun h1 h2=> ?_⟩<;>first | assumption | omega)
  ·omega
  ·exact (b2 (b2 (b2 (b2 bn))))
  ·exact bn
  ·exact nd rfl
 refine VRun.exit (vthn.e (vthn.e (vinB.e (tn (sr (fO (OF.assign (VEv.bool true)) (nt (rt (vb (b':=true) rfl ?_)))))))))
 (symm;rw [decide_eq_true_eq];exact ⟨by omega,JS hI' fhc1⟩)
end Go.Proofs.YthifchndolccgaaGreatDoor.AE
namespace Go.Proofs.YthifchndolccgaaGreatDoor.AE
open Go Go.RowKit
set_option linter.unusedVariables false
set_option linter.unusedSimpArgs false
set_option maxRecDepth 20000
set_option maxHeartbeats 2000000
theorem QdJ (n:Nat) (a:D.Clue) (hz:QL a≤mx):Pure (Qr Tryz.prog (n+5)) 50 [(T.agg (Qg false a))] (tB (decide ((1≤a.Sense∧a.Sense≤99)∧ZX a.Play))):=by
 refine Pure.intro (rs:= [ResultVar.tmp 2]) Tryz.func50 rfl rfl rfl (E0:= [(0,(T.agg (Qg false a)))]) rfl ?_
 obtain ⟨hlim,hmx,hmax⟩:=QJ
 simp only [QL] at hz
 refine sr (kO (B.box (ts:=(Qg false a)) (tv (T.agg (Qg false a)) rfl) nofun rfl) (fO (OF.assign (VEv.bool false)) (nt (sr (lf (tI a.Sense) rfl QbR rfl rfl Q0 (cO (cS (vc (tv (tI a.Sense) rfl) (vc (VEv.int .i64 1) (vc (VEv.int .i64 99) vn))) (Yl rfl) (QV (n+3) a.Sense 1 99) rfl rfl) (mO (tB (decide (1≤a.Sense∧a.Sense≤99))) rfl ?_)))))))
 refine gw (1≤a.Sense∧a.Sense≤99) (fun fhg6_1=> ?_) fun fhg6_1=> ?_
 ·refine Yn (rd 4 Qj a.Play) (dy fhg6_1) rfl rfl rfl rfl Qb7 rfl rfl Qih ?_
  refine VRunO.chain (VWant.on rfl rfl (dy fhg6_1)) (cS (vc (tv (rd 4 Qj a.Play) rfl) vn) (Yl rfl) (Qd1 (n+0) a.Play (by assumption)) rfl rfl) (fO (OF.pickT (VEv.tmpB rfl (dy fhg6_1)) (tv (tB (decide (ZX a.Play))) rfl)) (aO (tB (decide (ZX a.Play))) rfl (nt (rt (vb (b':=(decide (ZX a.Play))) rfl ?_)))))
  (refine Q8 ⟨fun h=>⟨?_,h⟩,fun h=>h.2⟩;assumption)
 refine QC 3 3 true 6 (dz fhg6_1) rfl rfl rfl (fO (OF.pickF (VEv.tmpB rfl (dz fhg6_1)) (VEv.bool false)) (aO (tB false) rfl (nt (rt (vb (b':=false) rfl ?_)))))
 (symm;rw [decide_eq_false_iff_not];rintro ⟨h1,h2⟩;contradiction)
theorem Qd5 (n:Nat) (a:D.Clue) (hz:QL a≤mx):Pure (Qr Tryz.prog (n+4)) 59 [(T.agg (Qg false a))] (tB (decide ((1≤a.Sense∧a.Sense≤99)∧ZX a.Play))):=by
 refine Pure.intro (rs:= [ResultVar.tmp 2]) Tryz.func59 rfl rfl rfl (E0:= [(0,(T.agg (Qg false a)))]) rfl ?_
 obtain ⟨hlim,hmx,hmax⟩:=QJ
 simp only [QL] at hz
 refine sr (kO (B.box (ts:=(Qg false a)) (tv (T.agg (Qg false a)) rfl) nofun rfl) (fO (OF.assign (VEv.bool false)) (nt (sr (lf (tI a.Sense) rfl QbR rfl rfl Q0 (cO (cS (vc (tv (tI a.Sense) rfl) (vc (VEv.int .i64 1) (vc (VEv.int .i64 99) vn))) (Yl rfl) (Zf (n+2) a.Sense 1 99) rfl rfl) (mO (tB (decide (1≤a.Sense∧a.Sense≤99))) rfl ?_)))))))
 refine gw (1≤a.Sense∧a.Sense≤99) (fun fhg6_1=> ?_) fun fhg6_1=> ?_
 ·refine Yn (rd 4 Qj a.Play) (dy fhg6_1) rfl rfl rfl rfl Qb7 rfl rfl Qih ?_
  refine VRunO.chain (VWant.on rfl rfl (dy fhg6_1)) (cS (vc (tv (rd 4 Qj a.Play) rfl) vn) (Yl rfl) (Qd2 (n+0) a.Play (by assumption)) rfl rfl) (fO (OF.pickT (VEv.tmpB rfl (dy fhg6_1)) (tv (tB (decide (ZX a.Play))) rfl)) (aO (tB (decide (ZX a.Play))) rfl (nt (rt (vb (b':=(decide (ZX a.Play))) rfl ?_)))))
  (refine Q8 ⟨fun h=>⟨?_,h⟩,fun h=>h.2⟩;assumption)
 refine QC 3 3 true 6 (dz fhg6_1) rfl rfl rfl (fO (OF.pickF (VEv.tmpB rfl (dz fhg6_1)) (VEv.bool false)) (aO (tB false) rfl (nt (rt (vb (b':=false) rfl ?_)))))
 (symm;rw [decide_eq_false_iff_not];rintro ⟨h1,h2⟩;contradiction)
end Go.Proofs.YthifchndolccgaaGreatDoor.AE
namespace Go.Proofs.YthifchndolccgaaGreatDoor.AE
open Go Go.RowKit
set_option linter.unusedVariables false
set_option linter.unusedSimpArgs false
set_option maxRecDepth 20000
set_option maxHeartbeats 2000000
noncomputable section
def Z6 (a:List Int) (i:Nat):List Int:=(List.range a.length).map fun j=>if j<i∨a.length≤j+i then a.getD (a.length - 1 - j) 0 else a.getD j 0
theorem Y6 (a:List Int) (i:Nat):(Z6 a i).length=a.length:=by simp [Z6]
theorem QbK {a:List Int} {i j:Nat} (h:j<a.length):(Z6 a i)[j]? =some (if j<i∨a.length≤j+i then a.getD (a.length - 1 - j) 0 else a.getD j 0):=by
 unfold Z6
 rw [List.getElem?_map,List.getElem?_range h]
 rfl
theorem QhJ (a:List Int):Z6 a 0=a:=by
 refine List.ext_getElem? fun j=> ?_
 rcases Nat.lt_or_ge j a.length with h | h
 ·rw [QbK h,if_neg (by omega),List.getD_eq_getElem?_getD,List.getElem?_eq_getElem h]
  rfl
 ·rw [List.getElem?_eq_none (by rw [Y6];exact h),List.getElem?_eq_none h]
theorem Qh8 {a:List Int} {i:Nat} (h:a.length≤2*i+1) (h2:i≤a.length):Z6 a i=a.reverse:=by
 refine List.ext_getElem? fun j=> ?_
 rcases Nat.lt_or_ge j a.length with h3 | h3
 ·rw [QbK h3,List.getElem?_reverse h3,List.getElem?_eq_getElem (by omega)]
  split
  ·rw [List.getD_eq_getElem?_getD,List.getElem?_eq_getElem (by omega)];rfl
  ·have e:a.length - 1 - j=j:=by omega
   rw [List.getD_eq_getElem?_getD,List.getElem?_eq_getElem h3]
   simp only [Option.getD_some,e]
 ·rw [List.getElem?_eq_none (by rw [Y6];exact h3),List.getElem?_eq_none (by simpa using h3)]
theorem QhG {a:List Int} {i k:Nat} {x y:Int} (hk:k=a.length - 1 - i) (hi:i<k) (hx:(Z6 a i)[k]? =some x) (hy:(Z6 a i)[i]? =some y):((Z6 a i).set i x).set k y=Z6 a (i+1):=by
 subst hk
 rw [QbK (by omega),if_neg (by omega)] at hx hy
 obtain rfl:=Option.some.inj hx
 obtain rfl:=Option.some.inj hy
 refine List.ext_getElem? fun j=> ?_
 rcases Nat.lt_or_ge j a.length with h | h
 ·rw [QbK h,List.getElem?_set,List.getElem?_set,List.length_set,Y6,QbK h]
  by_cases e1:a.length - 1 - i=j
  ·rw [if_pos e1,if_pos (by omega),if_pos (by omega)]
   congr 2
   omega
  ·rw [if_neg e1]
   by_cases e2:i=j
   ·rw [if_pos e2,if_pos (by omega),if_pos (by omega),e2]
   ·rw [if_neg e2]
    by_cases e3:j<i∨a.length≤j+i
    ·rw [if_pos e3,if_pos (by omega)]
    ·rw [if_neg e3,if_neg (by omega)]
 ·rw [List.getElem?_eq_none (by rw [List.length_set,List.length_set,Y6];exact h),List.getElem?_eq_none (by rw [Y6];exact h)]
end
theorem YW (n:Nat) (a:List Int) (ha:a.length≤Yd):Mut (Qr Tryz.prog (n+1)) 149 1 (a.map (QW true)) [] none (a.reverse.map (QW true)):=by
 refine Mut.intro (rt:=0) Tryz.func149 rfl rfl rfl (by kernel_rfl) (Zq (fun _=>rfl) _) (Zq (fun _=>rfl) _) (E0:= []) rfl ?_
 obtain ⟨hlim,hmx,hmax⟩:=QJ
 refine sr (mO (T.os 1 0 0 ((a.map (QW true)).length)) rfl (lO (B.lenO (m:=a.length) (tv (T.os 1 0 0 ((a.map (QW true)).length)) rfl) U92 (List.length_map ..)) (fO (B.sub (n:=(((a.length:Nat):Int) - 1)) (tv (tN a.length) rfl) (VEv.int .i64 1) (by (rw [Qy (by omega)];done))) (fO (OF.assign (VEv.int .i64 0)) (aO (tI (((a.length:Nat):Int) - 1)) rfl (nt (VRun.block ?_)))))))
 have he1:a=Z6 a 0:=by exact (QhJ a).symm
 refine VRun.loop (A:=Nat) (fun s_=> [(0,(T.os 1 0 0 (((Z6 a s_).map (QW true)).length))),(2,(tN s_)),(3,(tI ((a.length:Int) - 1 - s_)))]) (fun s_=>Q3 [(0,(Obj.rows 1 ((Z6 a s_).map (QW true))))]) 1 (fun s_=>2*s_≤a.length+1∧s_≤a.length) (fun s_=>a.length - s_) (0:Nat) ?_ (Wk.mk (fun k=>k) ?_ ?_ ?_) ?_
 ·(simp;done)
 ·exact (bc ⟨(congrArg (fun l_=>T.os 1 0 0 (List.map (QW true) l_).length) he1),rfl⟩ (b2 (bc ⟨(congrArg (T.int .i64) (show (((a.length:Nat):Int) - 1)=(a.length:Int) - 1 - 0 from (by omega))),rfl⟩ bn)))
 ·exact (bc ⟨(congrArg (fun l_=>some (Obj.rows 1 (List.map (QW true) l_))) he1),(lb rfl),rfl⟩ bn)
 ·exact nd rfl
 rintro i (hI':2*i≤a.length+1∧i≤a.length)
 show VRun _ _ _ [(0,(T.os 1 0 0 (((Z6 a i).map (QW true)).length))),(2,(tN i)),(3,(tI ((a.length:Int) - 1 - i)))] (Q3 [(0,(Obj.rows 1 ((Z6 a i).map (QW true))))]) 1 _
 have hml:=Y6 a i
 have hI1:=hI'.1
 have hI2:=hI'.2
 refine sq (sr (mO (tN i) rfl (mO (tI ((a.length:Int) - 1 - i)) rfl (fO (xls (tv (tN i) rfl) (tv (tI ((a.length:Int) - 1 - i)) rfl)) (nt ?_)))))
 refine cd (((i:Nat):Int)<(a.length:Int) - 1 - i) rfl (fun fhc0=> ?_) fun fhc0=> ?_
 ·refine sk ?_
  refine tn (sq (VRun.block (VRun.draw (B:= [[],[],[],[],[],[],[5,4],[4,5,6],[],[],[9,8],[8,9,10],[10,9,8,11,7,6,5,4,1,0],[0,1,4,5,6,7,11,8,9,10,12],[13,12,11,10,9,8,7,6,5,4,1,0,3,2],[2,3,0,1,4,5,6,7,8,9,10,11,12,13,14]]) (by kernel_rfl) (by kernel_rfl) (mD (T.os 1 0 0 (((Z6 a i).map (QW true)).length)) rfl rfl (mD (tN i) rfl rfl (mD (T.os 1 0 0 (((Z6 a i).map (QW true)).length)) rfl rfl (mD (tI ((a.length:Int) - 1 - i)) rfl rfl (mD (T.os 1 0 0 (((Z6 a i).map (QW true)).length)) rfl rfl (mD (tI ((a.length:Int) - 1 - i)) rfl rfl ?_)))))))))
  obtain ⟨x1,hx1⟩:∃x,(Z6 a i)[(Int.toNat ((a.length:Int) - 1 - i))]? =some x:=⟨_,List.getElem?_eq_getElem (by omega)⟩
  refine fD (B.indexAddrO (i:=(Int.toNat ((a.length:Int) - 1 - i))) (tv (T.os 1 0 0 (((Z6 a i).map (QW true)).length)) rfl) (tv (tI ((a.length:Int) - 1 - i)) rfl) (by omega) (by (simp only [List.length_map];omega)) U92 sz5 if5) rfl rfl (lD (OL.loadP1 (t:=(T.int .u8 x1)) (row:=(QW true x1)) (tv (T.orp 1 0 (Int.toNat ((a.length:Int) - 1 - i)) 0) rfl) rfl (QA _ hx1) rfl rfl st5) rfl rfl (mD (T.os 1 0 0 (((Z6 a i).map (QW true)).length)) rfl rfl (mD (tN i) rfl rfl ?_)))
  obtain ⟨x2,hx2⟩:∃x,(Z6 a i)[i]? =some x:=⟨_,List.getElem?_eq_getElem (by omega)⟩
  refine fD (B.indexAddrO (i:=i) (tv (T.os 1 0 0 (((Z6 a i).map (QW true)).length)) rfl) (tv (tN i) rfl) rfl (by (simp only [List.length_map];omega)) U92 sz5 if5) rfl rfl (lD (OL.loadP1 (t:=(T.int .u8 x2)) (row:=(QW true x2)) (tv (T.orp 1 0 i 0) rfl) rfl (QA _ hx2) rfl rfl st5) rfl rfl (fD (B.indexAddrO (i:=i) (tv (T.os 1 0 0 (((Z6 a i).map (QW true)).length)) rfl) (tv (tN i) rfl) rfl (by (simp only [List.length_map];omega)) U92 sz5 if5) rfl rfl (VRunD.chain (bi:= [0,1,4,5,6,7,11,8,9,10,12]) rfl VWant.always rfl rfl rfl (by kernel_rfl) (B.storeP (us:= [(T.int .u8 x1)]) (rows':=(((Z6 a i).set i x1).map (QW true))) (row:=(QW true x2)) (tv (T.orp 1 0 i 0) rfl) (tv (T.int .u8 x1) rfl) nofun rfl (QA _ hx2) rfl (lb rfl) if5 sz5 (bc rfl bn) (by intro r hr t ht;obtain ⟨x,_,rfl⟩:=List.mem_map.1 hr;rw [Qjg] at ht;exact Zs (okByte.pl _ t ht)) (Zm rfl)) ?_)))
  obtain ⟨x3,hx3⟩:∃x,((Z6 a i).set i x1)[(Int.toNat ((a.length:Int) - 1 - i))]? =some x:=⟨_,List.getElem?_eq_getElem (by (simp only [List.length_set];omega))⟩
  refine fD (B.indexAddrO (i:=(Int.toNat ((a.length:Int) - 1 - i))) (tv (T.os 1 0 0 (((Z6 a i).map (QW true)).length)) rfl) (tv (tI ((a.length:Int) - 1 - i)) rfl) (by omega) (by (simp only [List.length_map];omega)) U92 sz5 if5) rfl rfl (VRunD.chain (bi:= [2,3,0,1,4,5,6,7,8,9,10,11,12,13,14]) rfl VWant.always rfl rfl rfl (by kernel_rfl) (B.storeP (us:= [(T.int .u8 x2)]) (rows':=((((Z6 a i).set i x1).set (Int.toNat ((a.length:Int) - 1 - i)) x2).map (QW true))) (row:=(QW true x3)) (tv (T.orp 1 0 (Int.toNat ((a.length:Int) - 1 - i)) 0) rfl) (tv (T.int .u8 x2) rfl) nofun rfl (QA _ hx3) rfl (lb rfl) if5 sz5 (bc rfl bn) (by intro r hr t ht;obtain ⟨x,_,rfl⟩:=List.mem_map.1 hr;rw [Qjg] at ht;exact Zs (okByte.pl _ t ht)) (Zm rfl)) (VRunD.nil (vinB.n (tn (VRun.region (mO (tN i) rfl (fO (QF (tv (tN i) rfl) (VEv.int .i64 1) (by omega)) (mO (tI ((a.length:Int) - 1 - i)) rfl (fO (B.sub (n:=((a.length:Int) - 1 - i - 1)) (tv (tI ((a.length:Int) - 1 - i)) rfl) (VEv.int .i64 1) (by (rw [Qy (by omega)];done))) (aO (tN (i+1)) rfl (aO (tI ((a.length:Int) - 1 - i - 1)) rfl ?_)))))))))))
  refine VRunO.nil (tn ?_)
  have hml2:=Y6 a (i+1)
  have he2:(((Z6 a i).set i x1).set (Int.toNat ((a.length:Int) - 1 - i)) x2)=Z6 a (i+1):=by (refine QhG ?_ ?_ hx1 hx2<;>omega)
  refine ⟨(i+1:Nat),?_,?_,Wk.mk (fun k=>k) ?_ ?_ ?_⟩
  ·omega
  ·omega
  ·exact (bc ⟨(congrArg (fun n_=>T.os 1 0 0 n_) (show ((Z6 a i).map (QW true)).length=((Z6 a (i+1)).map (QW true)).length from (by rw [List.length_map,List.length_map,hml,hml2]))),rfl⟩ (b2 (bc ⟨(congrArg (T.int .i64) (show ((a.length:Int) - 1 - i - 1)=(a.length:Int) - 1 - (i+1) from (by omega))),rfl⟩ bn)))
  ·exact (bc ⟨(congrArg (fun l_=>some (Obj.rows 1 (List.map (QW true) l_))) he2),(lb rfl),rfl⟩ bn)
  ·exact nd rfl
 refine VRun.exit (vthn.e (vthn.e (vinB.e ?_)))
 refine vmut.v (rows:=((Z6 a i).map (QW true))) rfl rfl ?_ rfl
 ·show List.map _ (Z6 a i)=List.map _ a.reverse
  refine congrArg (List.map _) ?_
  refine Qh8 ?_ ?_<;>omega
end Go.Proofs.YthifchndolccgaaGreatDoor.AE
