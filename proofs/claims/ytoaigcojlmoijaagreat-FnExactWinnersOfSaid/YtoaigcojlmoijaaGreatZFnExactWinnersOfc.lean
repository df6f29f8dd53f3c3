/- A part of what the row of FnExactWinnersOf uses. Conditions: as each theorem states. -/
import Derived.Test.YtoaigcojlmoijaaGreatZFnExactWinnersOfb
import Derived.Test.YtoaigcojlmoijaaGreatProg
import Derived.KernelRfl
namespace Go.Proofs.YtoaigcojlmoijaaGreat.AE
open Go Go.RowKit
set_option linter.unusedVariables false
set_option linter.unusedSimpArgs false
def eM (l:List (Int×Int)):List (T×T):=l.map fun p=>(.int .i64 p.1, .int .i64 p.2)
def vM (l:List (Int×Int)):List (Value×Value):=l.map fun p=>(.int .i64 p.1, .int .i64 p.2)
def Qcn : List (Int×Int)→Int→Int→List (Int×Int)
 | [],n,v=> [(n,v)]
 | p::r,n,v=>if n=p.1 then (n,v)::r else p::Qcn r n v
theorem RL.ints {hf:AH}:∀ {l:List Int} {vs:List Value},RL hf (l.map (fun n=>T.int .i64 n)) vs→vs=l.map (fun n=>Value.int .i64 n)
 | [],vs,h=>List.eq_nil_of_length_eq_zero h.1.symm
 | n::l,[],h=>by cases h.1
 | n::l,v::vs,h=>by
  obtain ⟨h1,h2⟩:=RL.tail h
  cases h1
  rw [RL.ints h2]
  rfl
theorem QmZ {ev:List (Value×Value)} {l:List (Int×Int)} (h1:RL (fun _=>none) ((eM l).map (·.1)) (ev.map (·.1))) (h2:RL (fun _=>none) ((eM l).map (·.2)) (ev.map (·.2))):ev=vM l:=by
 have e1:(eM l).map (·.1)=(l.map (·.1)).map (fun n=>T.int .i64 n):=by simp [eM,Function.comp_def]
 have e2:(eM l).map (·.2)=(l.map (·.2)).map (fun n=>T.int .i64 n):=by simp [eM,Function.comp_def]
 rw [e1] at h1
 rw [e2] at h2
 have g1:=RL.ints h1
 have g2:=RL.ints h2
 clear h1 h2 e1 e2
 induction l generalizing ev with
 | nil=>simpa [vM] using g1
 | cons p l ih =>
  cases ev with
  | nil=>simp at g1
  | cons q ev =>
   simp only [List.map_cons,List.cons.injEq] at g1 g2
   rw [ih g1.2 g2.2]
   show q::vM l=(_,_)::vM l
   rw [← g1.1,← g2.1]
theorem Qha (hf:AH):∀l:List Int,RL hf (l.map (fun n=>T.int .i64 n)) (l.map (fun n=>Value.int .i64 n))
 | []=>RL.nil hf
 | n::l=>RL.cons (.int _ _) (Qha hf l)
theorem QmT (l:List (Int×Int)):RL (fun _=>none) ((eM l).map (·.1)) ((vM l).map (·.1))∧RL (fun _=>none) ((eM l).map (·.2)) ((vM l).map (·.2)):=by
 constructor
 ·have:=Qha (fun _=>none) (l.map (·.1))
  simpa [eM,vM,Function.comp_def] using this
 ·have:=Qha (fun _=>none) (l.map (·.2))
  simpa [eM,vM,Function.comp_def] using this
theorem Qif (n v:Int):∀l:List (Int×Int),(∃j w,QbI .i64 n (vM l)=some (some (j,w))∧(vM l).set j (.int .i64 n, .int .i64 v)=vM (Qcn l n v))∨(QbI .i64 n (vM l)=some none∧vM l++ [(.int .i64 n, .int .i64 v)]=vM (Qcn l n v))
 | []=> .inr ⟨rfl,rfl⟩
 | p::r=>by
  by_cases h:n=p.1
  ·refine .inl ⟨0, .int .i64 p.2,?_,?_⟩
   ·simp [vM,QbI,h]
   ·simp [vM,Qcn,h]
  ·have hb:(n == p.1)=false:=by simp [h]
   rcases Qif n v r with ⟨j,w,h1,h2⟩ | ⟨h1,h2⟩
   ·refine .inl ⟨j+1,w,?_,?_⟩
    ·show QbI .i64 n ((.int .i64 p.1, .int .i64 p.2)::vM r)=_
     simp only [QbI,if_true,hb,Bool.false_eq_true,if_false,h1]
     rfl
    ·simp only [Qcn,if_neg h]
     show (_::(vM r)).set (j+1) _=_::vM (Qcn r n v)
     rw [List.set_cons_succ,h2]
   ·refine .inr ⟨?_,?_⟩
    ·show QbI .i64 n ((.int .i64 p.1, .int .i64 p.2)::vM r)=_
     simp only [QbI,if_true,hb,Bool.false_eq_true,if_false,h1]
     rfl
    ·simp only [Qcn,if_neg h]
     show _::(vM r++_)=_::vM (Qcn r n v)
     rw [h2]
def QbO : List (Int×Int)→Int→Int
 | [],_=>0
 | p::r,n=>if n=p.1 then p.2 else QbO r n
theorem Qh9 (n v c:Int):∀l:List (Int×Int),QbO (Qcn l n v) c=if c=n then v else QbO l c
 | []=>by simp [Qcn,QbO]
 | p::r=>by
  simp only [Qcn]
  by_cases h:n=p.1
  ·rw [if_pos h]
   simp only [QbO]
   by_cases h2:c=n
   ·rw [if_pos h2,if_pos h2]
   ·rw [if_neg h2,if_neg h2,if_neg (fun e=>h2 (e.trans h.symm))]
  ·rw [if_neg h]
   simp only [QbO,Qh9 n v c r]
   by_cases h2:c=n
   ·subst h2;simp [h]
   ·simp [h2]
theorem QhN (n:Int):∀l:List (Int×Int),∃o,QbI .i64 n (vM l)=some o∧(o.map (·.2)).getD (.int .i64 0)= .int .i64 (QbO l n)
 | []=>⟨none,rfl,rfl⟩
 | p::r=>by
  by_cases h:n=p.1
  ·exact ⟨some (0, .int .i64 p.2),by simp [vM,QbI,h],by simp [QbO,h]⟩
  ·have hb:(n == p.1)=false:=by simp [h]
   obtain ⟨o,h1,h2⟩:=QhN n r
   refine ⟨o.map fun x=>(x.1+1,x.2),?_,?_⟩
   ·show QbI .i64 n ((.int .i64 p.1, .int .i64 p.2)::vM r)=_
    simp only [QbI,if_true,hb,Bool.false_eq_true,if_false,h1]
    rfl
   ·simp only [QbO,if_neg h,← h2]
    cases o<;>rfl
theorem V.omInv {σ:Nat→Option Nat} {hf:AH} {nx k:Nat} {v:Value} (h:V σ hf nx (.om k) v):∃a,v= .map (some a)∧σ k=some a∧k<nx:=by
 cases h with
 | fz hr=>cases hr
 | om k hk hs=>exact ⟨_,rfl,hs,hk⟩
section
variable {call : QO} {P : Program} {E : Zc} {O : QB} {d : Option Tmp} {ty tt kt et : TypeId} {ps : String} {af : Array Edge} {g : Option (Nat × Bool)} {x y z : Operand} {nx k : Nat} {l l' : List (Int × Int)}
theorem B.makeMap : OM call P E nx ⟨d, .makeMap tt none,ty,ps,af,g⟩ (.om nx) (.map (eM [])):=fun q σ hf Ea he =>
 ⟨.map (some (Qn q)), .map [],some (Qn q),[Qn q],fun h=>X.makeMap, .inl ⟨rfl,rfl⟩, .om nx (by omega) (by simp),fun h=> .map (AH.upd_same _ _ _) (J3 _) (RL.nil _) (RL.nil _)⟩
theorem B.mapSet {n v:Int} {k0:IntKind} (hx:VEv E x (.om k)) (hy:VEv E y (.int .i64 n)) (hz:VEv E z (.int .i64 v)) (hk:gO O k=some (.map (eM l))) (hu:P.underlying tt=some (.map kt et)) (hkt:P.underlying kt=some (.int k0)) (hl:Qcn l n v=l'):OC call P E O nx ⟨d, .mapUpdate tt x y z,ty,ps,af,g⟩ .any ((k,some (.map (eM l')))::O) nx [k]:=⟨Nat.le_refl _,fun q p h0 σ hf own Ea h hs hu' hF=>by
 subst hl
 obtain ⟨v1,a1,a2⟩:=hx σ hf nx Ea hs.env
 obtain ⟨v2,a3,a4⟩:=hy σ hf nx Ea hs.env
 obtain ⟨v3,a5,a6⟩:=hz σ hf nx Ea hs.env
 obtain ⟨a,rfl,h3,h4⟩:=a2.omInv
 obtain rfl:=a4.intInv
 obtain rfl:=a6.intInv
 obtain ⟨N,hN1,hN2,h5⟩:=hs.objAt hk
 rw [h3] at h5
 cases h5 with
 | map hh hodd g1 g2 =>
  rename_i ev
  obtain rfl:=QmZ g1 g2
  have hown:own a=some k:=hN2 a (by simp)
  have hset:Qcg P tt h (.map (some a)) (.int .i64 n) (.int .i64 v)=some (h.upd a (some (.map (vM (Qcn l n v))))):=by
   simp only [Qcg,hu,hkt,hh]
   rcases Qif n v l with ⟨j,w,e1,e2⟩ | ⟨e1,e2⟩
   ·simp only [e1,e2]
   ·simp only [e1,e2]
  refine ⟨undef,_,σ,own,X.mapUpdate a1 a3 a5 hset,Dom.old (by rw [hh];simp) _,fun _ _=>rfl,hs.upd h3 h4 hown (N:= [a]) (by simp) (by simpa using hown) (.map (AH.upd_same _ _ _) hodd (QmT _).1 (QmT _).2), .any _,fun b hb hnk=>AH.upd_ne _ (fun e=> ?_) _,fun b k' e=> .inl e⟩
  exact hnk k (by simp) (e▸hown)⟩
theorem B.mapGet {n:Int} {k0:IntKind} (hx:VEv E x (.om k)) (hy:VEv E y (.int .i64 n)) (hk:gO O k=some (.map (eM l))) (hu:P.underlying tt=some (.map kt et)) (hkt:P.underlying kt=some (.int k0)) (hz:Zq P et=some (.int .i64 0)):OL call P E O ⟨d, .lookup tt x y false,ty,ps,af,g⟩ (.int .i64 (QbO l n)):=fun q p h0 σ hf own nx Ea h hs=>by
 obtain ⟨v1,a1,a2⟩:=hx σ hf nx Ea hs.env
 obtain ⟨v2,a3,a4⟩:=hy σ hf nx Ea hs.env
 obtain ⟨a,rfl,h3,h4⟩:=a2.omInv
 obtain rfl:=a4.intInv
 obtain ⟨N,hN1,hN2,h5⟩:=hs.objAt hk
 rw [h3] at h5
 cases h5 with
 | map hh hodd g1 g2 =>
  rename_i ev
  obtain rfl:=QmZ g1 g2
  obtain ⟨o,e1,e2⟩:=QhN n l
  refine ⟨_,X.lookup a1 a3 (w:= .int .i64 (QbO l n)) ?_, .fz (.int _ _)⟩
  have hc:closedV (.int .i64 0)=true:=rfl
  simp only [Qdd,hu,hkt,hh,hz,hc,e1,Option.map_some,e2,and_self,if_true]
end
theorem V.vpInv {σ:Nat→Option Nat} {hf:AH} {nx:Nat} {ts:List T} {v:Value} (h:V σ hf nx (.vp ts) v):∃a o es cs,v= .pointer (some ⟨a,o,none⟩)∧hf a=some (.cells es cs)∧o+ts.length≤cs.length∧∀i,i<ts.length→V σ hf nx (ts.getD i .any) (cs.getD (o+i) undef):=by
 cases h with
 | fz hr=>cases hr
 | vp ts o hk hfit h=>exact ⟨_,o,_,_,rfl,hk,hfit,h⟩
section
variable {call : QO} {P : Program} {E : Zc} {O : QB} {d : Option Tmp} {ty tt : TypeId} {ps : String} {af : Array Edge} {g : Option (Nat × Bool)} {x y z : Operand} {t : T} {nx : Nat}
theorem OL.loadV1 {ts:List T} (hx:VEv E x (.vp ts)) (ht:ts[0]? =some t) (hst:Qw P tt=some false):OL call P E O ⟨d, .load tt x,ty,ps,af,g⟩ t:=fun q p h0 σ hf own nx Ea h hs=>by
 obtain ⟨v,h1,h2⟩:=hx σ hf nx Ea hs.env
 obtain ⟨a,o,es,cs,rfl,h3,h4,h5⟩:=h2.vpInv
 have hlt:0<ts.length:=(List.getElem?_eq_some_iff.1 ht).1
 have h6:=h5 0 hlt
 rw [Nat.add_zero,List.getD_eq_getElem?_getD,ht,List.getD_eq_getElem?_getD,List.getElem?_eq_getElem (show o<cs.length by omega)] at h6
 exact ⟨_,X.load h1 (J9 hst (hs.fro _ _ h3).1 (List.getElem?_eq_getElem (show o<cs.length by omega))),h6⟩
end
def Loan (call:QO) (f:FuncId) (sz:Nat) (rows:List (List T)) (ts:List T) (r:T) (rows':List (List T)):Prop:=∀(h:AH) (p:Nat) (hf:AH) (σ:Nat→Option Nat) (N:List Nat) (vs:List Value),Fr p h→(∀b o,hf b=some o→h b=some o∧b∉N)→N.Nodup→ObjR σ hf 1 h (.rows sz rows) (σ 0) N→VL σ hf 1 ts vs →
 CallS call f vs h p (fun v h'=>(∀b,h b≠none→b∉N→h' b=h b)∧V σ hf 1 r v∧ObjR σ hf 1 h' (.rows sz rows') (σ 0) N)
inductive Pin : T→Prop
 | os (sz n:Nat):Pin (.os sz 0 0 n)
 | vp (sz n:Nat):Pin (.vp [.os sz 0 0 n])
inductive LRes : T→Prop
 | none:LRes (.tup [])
 | int (k:IntKind) (n:Int):LRes (.int k n)
 | bool (b:Bool):LRes (.bool b)
 | os (sz n:Nat):LRes (.os sz 0 0 n)
def vloan (P:Program) (rs:List ResultVar) (j:Nat) (pin:T) (sz:Nat) (rows':List (List T)) (r:T):AX→Zc→QB→Nat→Prop
 | .exit _,_,_,_=>False
 | _,E,O,_=>∃k ts,VRes P E O rs ts∧QdR ts=ren (fun _=>k) r∧gE E j=ren (fun _=>k) pin∧gO O k=some (.rows sz rows')
theorem vloan.r {P:Program} {rs:List ResultVar} {j sz nx:Nat} {pin r:T} {rows rows':List (List T)} {E:Zc} {O:QB} {ts:List T} (k:Nat) (h:VRes P E O rs ts) (h1:QdR ts=ren (fun _=>k) r) (h2:gE E j=ren (fun _=>k) pin) (h3:gO O k=some (.rows sz rows)) (e:rows=rows'):vloan P rs j pin sz rows' r .ret E O nx:=⟨k,ts,h,h1,h2,e▸h3⟩
theorem vloan.n {P:Program} {rs:List ResultVar} {j sz nx:Nat} {pin r:T} {rows rows':List (List T)} {E:Zc} {O:QB} {ts:List T} (k:Nat) (h:VRes P E O rs ts) (h1:QdR ts=ren (fun _=>k) r) (h2:gE E j=ren (fun _=>k) pin) (h3:gO O k=some (.rows sz rows)) (e:rows=rows'):vloan P rs j pin sz rows' r .normal E O nx:=⟨k,ts,h,h1,h2,e▸h3⟩
theorem Ql0 {σ σ':Nat→Option Nat} {hf hf':AH} {nx nx' sz k n:Nat} {v:Value} (h:V σ hf nx (.os sz 0 0 n) v) (h':V σ' hf' nx' (.os sz k 0 n) v):σ' k=σ 0:=by
 obtain ⟨_,⟨a,m,e1,e2,e3⟩ | ⟨e1,_,e2,e3⟩⟩:=h.osInv
 ·obtain ⟨_,⟨a',m',f1,f2,f3⟩ | ⟨f1,_,f2,f3⟩⟩:=h'.osInv
  ·rw [e1] at f1
   simp only [Value.slice.injEq,Option.some.injEq,Addr.mk.injEq] at f1
   rw [e2,f2,f1.1.1]
  ·subst e1
   rcases f3 with f3 | ⟨b,o,f3⟩
   ·exact absurd f3 (by simp)
   ·simp only [Value.slice.injEq] at f3
    omega
 ·obtain ⟨_,⟨a',m',f1,f2,f3⟩ | ⟨f1,_,f2,f3⟩⟩:=h'.osInv
  ·subst f1
   rcases e3 with e3 | ⟨b,o,e3⟩
   ·exact absurd e3 (by simp)
   ·simp only [Value.slice.injEq] at e3
    omega
  ·rw [e1,f1]
theorem Pin.same {σ σ':Nat→Option Nat} {hf hf':AH} {nx nx' k:Nat} {pin:T} {v:Value} (hp:Pin pin) (hm:∀a o,hf a=some o→hf' a=some o) (h:V σ hf nx pin v) (h':V σ' hf' nx' (ren (fun _=>k) pin) v):σ' k=σ 0:=by
 cases hp with
 | os sz n=>exact Ql0 h h'
 | vp sz n =>
  obtain ⟨a,o,es,cs,rfl,e1,e2,e3⟩:=h.vpInv
  obtain ⟨a',o',es',cs',f0,f1,f2,f3⟩:=V.vpInv h'
  simp only [Value.pointer.injEq,Option.some.injEq,Addr.mk.injEq] at f0
  obtain ⟨rfl,rfl,_⟩:=f0
  rw [hm _ _ e1] at f1
  cases f1
  have g1:=e3 0 (by simp)
  have g2:=f3 0 (by simp [QaO])
  exact Ql0 g1 g2
theorem LRes.back {σ σ':Nat→Option Nat} {hf hf':AH} {nx nx' k:Nat} {r:T} {v:Value} (hr:LRes r) (h0:0<nx) (hσ:σ' k=σ 0) (h:V σ' hf' nx' (ren (fun _=>k) r) v):V σ hf nx r v:=by
 cases hr with
 | none =>
  obtain ⟨l,rfl,h1⟩:=V.tupL h
  obtain rfl:=List.eq_nil_of_length_eq_zero h1.1.symm
  exact .fz (.tup [] #[] rfl (fun i hi=>by simp at hi))
 | int k n=>obtain rfl:=V.intInv h;exact .fz (.int _ _)
 | bool b=>obtain rfl:=V.boolInv h;exact .fz (.bool _)
 | os sz n =>
  obtain ⟨_,⟨a,m,rfl,e2,e3⟩ | ⟨e1,e4,e2,e3⟩⟩:=V.osInv h
  ·exact .os sz 0 0 n m h0 (hσ.symm.trans e2) e3
  ·subst e2
   rcases e3 with rfl | ⟨a,o,rfl⟩
   ·exact .os0 sz 0 h0 (hσ.symm.trans e1)
   ·exact .ose sz 0 a o h0 (hσ.symm.trans e1)
theorem ObjR.one {σ:Nat→Option Nat} {hf h:AH} {nx sz:Nat} {rows:List (List T)} {oa:Option Nat} {N:List Nat} (h1:ObjR σ hf nx h (.rows sz rows) oa N) (hsc:scR rows):(oa=Option.none∧N= []∧rows= [])∨∃a,oa=some a∧N= [a]∧h a≠Option.none:=by
 cases h1 with
 | none sz=>exact .inl ⟨rfl,rfl,rfl⟩
 | rows hk hodd hlen hfit hs =>
  obtain rfl:=hs.sc hsc.flat
  exact .inr ⟨_,rfl,rfl,by rw [hk];simp⟩
theorem ObjR.scM {σ σ':Nat→Option Nat} {hf hf' h h':AH} {nx nx' sz:Nat} {rows:List (List T)} {oa:Option Nat} {N:List Nat} (h1:ObjR σ hf nx h (.rows sz rows) oa N) (hsc:scR rows) (hh:∀a∈N,h' a=h a):ObjR σ' hf' nx' h' (.rows sz rows) oa N:=by
 cases h1 with
 | none sz=>exact .none sz
 | rows hk hodd hlen hfit hs =>
  obtain rfl:=hs.sc hsc.flat
  exact .rows ((hh _ (by simp)).trans hk) hodd hlen hfit (SL.mono (fun _ _ e=>e) (SL.clean hs (fun t ht=>Qdp (hsc.flat t ht))) (by simp))
theorem Loan.intro {P:Program} {f:FuncId} {fn:Func} {c:Code} {n sz j:Nat} {ts:List T} {r pin:T} {rows rows':List (List T)} {rs:List ResultVar} (hf:P.funcs[f]? =some fn) (hb:fn.body=some c) (hc:ZZ fn.ntmps c=true) (hrs:fn.results.toList=rs) (hn:noW j c=true) (hj:ts[j]? =some pin) (hpin:Pin pin) (hr0:LRes r) (hsc:scR rows) (hsc':scR rows') {E0:Zc} (hE:Qep 0 ts=E0)
  (hr:VRun (Qs P n) P c E0 [(0,some (.rows sz rows))] 1 (vloan P rs j pin sz rows' r)) (hpr:QcF f=true:=by rfl):Loan (Qs P (n+1)) f sz rows ts r rows':=by
 subst hE
 intro h p hfz σ N vs hfp hfN hnd hO hvs
 classical
 let hb0:AH:=fun b=>if b∈N then none else h b
 have hb1:∀b,b∉N→hb0 b=h b:=fun b hb=>if_neg hb
 have hb2:∀b,b∈N→hb0 b=none:=fun b hb=>if_pos hb
 have hb3:∀b o,hb0 b=some o→b∉N∧h b=some o:=fun b o hb=>by
  by_cases hm:b∈N
  ·rw [hb2 b hm] at hb;cases hb
  ·exact ⟨hm,(hb1 b hm).symm.trans hb⟩
 have hsub:∀b o,hfz b=some o→hb0 b=some o:=fun b o hb=>(hb1 b (hfN b o hb).2).trans (hfN b o hb).1
 have hNn:∀a∈N,h a≠none:=fun a ha=>by
  rcases hO.one hsc with ⟨_,rfl,_⟩ | ⟨a',_,rfl,h3⟩
  ·cases ha
  ·obtain rfl:=List.mem_singleton.1 ha
   exact h3
 have hjl:j<ts.length:=(List.getElem?_eq_some_iff.1 hj).1
 have hs0:SR p ⟨hb0,fun b=>b∈N⟩ σ hb0 (fun b=>if b∈N then some 0 else none) (Qep 0 ts) [(0,some (.rows sz rows))] 1 (fun t=>vs.getD t undef) h:=by
  refine ⟨fun t=> ?_,fun k o hk=> ?_,fun a o ha=>⟨(hb3 a o ha).2,if_neg (hb3 a o ha).1⟩,fun a k ha=> ?_,fun _ _=>rfl,fun t ht=> ?_⟩
  ·rw [Qdh,if_neg (by omega),Nat.sub_zero]
   rcases Nat.lt_or_ge t ts.length with h1 | h1
   ·exact (hvs.2 t h1).mono hsub (Nat.le_refl _) (fun _ _=>rfl)
   ·rw [List.getD_eq_getElem?_getD,List.getElem?_eq_none h1]
    exact .any _
  ·simp only [gO] at hk
   split at hk
   ·rename_i e
    subst e
    obtain rfl:=Option.some.inj hk
    exact ⟨by omega,N,hnd,fun a ha=>if_pos ha,hO.mono hsub (Nat.le_refl _) (fun _ _=>rfl) (fun _ _=>rfl)⟩
   ·cases hk
  ·split at ha
   ·rename_i hm
    obtain rfl:=Option.some.inj ha
    exact ⟨.inr hm,hb2 a hm,hNn a hm,by omega⟩
   ·cases ha
  ·by_cases hm:t∈N
   ·exact .inr (.inr hm)
   ·exact .inl (by show hb0 t≠none;rw [hb1 t hm];exact ht)
 unfold VRun at hr
 have hrun:=hr p _ σ _ _ _ h 0 hs0
 have hrun2:Run (Qs P n) P p c ⟨fun t=>vs.getD t undef,h,0⟩ (fun e s=>KK p ⟨hb0,fun b=>b∈N⟩ (vloan P rs j pin sz rows' r e) s.E s.h∧s.E j=vs.getD j undef):=by
  unfold Run at hrun ⊢
  intro hfc
  obtain ⟨e,s',h1,h2,h3⟩:=hrun hfc
  exact ⟨e,s',h1,h2,h3,Ys _ _ _ _ hn h1⟩
 refine CallS.intro (hpr:=hpr) (rs:=rs) hf hb hc hfp hrs (Run.mono hrun2 ?_)
 rintro e s' ⟨⟨σ',hf',own',E,O,nx,h1,h2⟩,h0⟩
 have key:(∃k ts,VRes P E O rs ts∧QdR ts=ren (fun _=>k) r∧gE E j=ren (fun _=>k) pin∧gO O k=some (.rows sz rows'))→∃l,Qat P s'.h s'.E rs=some l∧(fun v h'=>(∀b,h b≠none→b∉N→h' b=h b)∧V σ hfz 1 r v∧ObjR σ hfz 1 h' (.rows sz rows') (σ 0) N) (Jc l) (if Zk (Jc l) then YW h s'.h else QbH p h s'.h):=by
  rintro ⟨k,us,g1,g2,g3,g4⟩
  obtain ⟨l,l1,l2⟩:=g1.run h1
  have g5:V σ' hf' nx (QdR us) (Jc l):=by
   have hlen:=l2.1
   match us,l,l2,hlen with
   | [],[],g4,_=>exact g4.toTup
   | [t],[v],g4,_ =>
    obtain ⟨v',r',e,g6,_⟩:=g4.tail
    cases e
    exact g6
   | t::t'::us,v::v'::l,g4,_=>exact g4.toTup
   | [],_::_,_,hl=>cases hl
   | [_],[],_,hl=>cases hl
   | [_],_::_::_,_,hl=>cases hl
   | _::_::_,[],_,hl=>cases hl
   | _::_::_,[_],_,hl=>cases hl
  have hbase:∀a o,hb0 a=some o→hf' a=some o:=fun a o ha=>by
   have e3:hf' a=hb0 a:=h1.base a (by show hb0 a≠none;rw [ha];simp)
   rw [e3,ha]
  have hσ:σ' k=σ 0:=by
   have p1:=hvs.2 j hjl
   rw [List.getD_eq_getElem?_getD,hj] at p1
   have p2:=h1.env j
   rw [g3,h0] at p2
   exact hpin.same (fun a o ha=>hbase a o (hsub a o ha)) p1 p2
  have hold:∀b,h b≠none→(if Zk (Jc l) then YW h s'.h else QbH p h s'.h) b=s'.h b:=fun b hb=>by
   split
   ·unfold YW
    cases hh:h b with
    | none=>exact absurd hh hb
    | some o=>rfl
   ·exact QeJ (.inl hb)
  refine ⟨l,l1,fun b hb hbN=> ?_,hr0.back (by omega) hσ (by rw [← g2];exact g5),?_⟩
  ·rw [hold b hb]
   obtain ⟨o,ho⟩:=Option.ne_none_iff_exists'.1 hb
   rw [(h1.fro b o (hbase b o ((hb1 b hbN).trans ho))).1,ho]
  ·obtain ⟨M,hM1,hM2,e4⟩:=h1.objAt g4
   rw [hσ] at e4
   have hMN:M=N:=by
    rcases hO.one hsc with ⟨q1,rfl,_⟩ | ⟨a,q1,rfl,_⟩
    ·rcases e4.one hsc' with ⟨_,rfl,_⟩ | ⟨a',q3,_,_⟩
     ·rfl
     ·rw [q1] at q3;cases q3
    ·rcases e4.one hsc' with ⟨q3,_,_⟩ | ⟨a',q3,rfl,_⟩
     ·rw [q1] at q3;cases q3
     ·rw [q1] at q3;rw [Option.some.inj q3]
   subst hMN
   exact e4.scM hsc' (fun a ha=>hold a (hNn a ha))
 cases e with
 | normal=>unfold fin;exact key h2
 | ret=>unfold fin;exact key h2
 | exit id=>exact h2.elim
section
variable {call : QO} {P : Program} {E : Zc} {O : QB} {d : Option Tmp} {ty : TypeId} {ps : String} {af : Array Edge} {g : Option (Nat × Bool)} {nx : Nat}
theorem LRes.fwd {σ σ':Nat→Option Nat} {hf hf':AH} {nx nx' k:Nat} {r:T} {v:Value} (hr:LRes r) (hk:k<nx') (hσ:σ' k=σ 0) (h:V σ hf nx r v):V σ' hf' nx' (ren (fun _=>k) r) v:=by
 cases hr with
 | none =>
  obtain ⟨l,rfl,h1⟩:=V.tupL h
  obtain rfl:=List.eq_nil_of_length_eq_zero h1.1.symm
  exact .fz (.tup [] #[] rfl (fun i hi=>by simp at hi))
 | int k n=>obtain rfl:=V.intInv h;exact .fz (.int _ _)
 | bool b=>obtain rfl:=V.boolInv h;exact .fz (.bool _)
 | os sz n =>
  obtain ⟨_,⟨a,m,rfl,e2,e3⟩ | ⟨e1,e4,e2,e3⟩⟩:=V.osInv h
  ·exact .os sz k 0 n m hk (hσ.trans e2) e3
  ·subst e2
   rcases e3 with rfl | ⟨a,o,rfl⟩
   ·exact .os0 sz k hk (hσ.trans e1)
   ·exact .ose sz k a o hk (hσ.trans e1)
theorem OC.loanX {f:FuncId} {o:Oper} {ts0 ts:List T} {sz k:Nat} {r:T} {rows rows':List (List T)} (ho:∀(q p:Nat) (h0:LB) (σ:Nat→Option Nat) (hf:AH) (own:Nat→Option Nat) (Ea:Nat→Value) (h:AH),SR p h0 σ hf own E O nx Ea h→∃vs,aop P q Ea h o=some (.enter f vs)∧VL σ hf nx ts0 vs) (hk:gO O k=some (.rows sz rows)) (hts:QaO (fun _=>k) ts=ts0) (htl:YJ 1 ts=true) (hr0:LRes r) (hsc:scR rows) (hsc':scR rows') (hp:Loan call f sz rows ts r rows') :
  OC call P E O nx o (ren (fun _=>k) r) ((k,some (.rows sz rows'))::O) nx [k]:=⟨Nat.le_refl _,fun q p h0 σ hf own Ea h hs hu hF=>by
 subst hts
 obtain ⟨vs,h1,h2⟩:=ho q p h0 σ hf own Ea h hs
 obtain ⟨hkn,N,hN1,hN2,h5⟩:=hs.obj k _ hk
 have hl:VL (fun _=>σ k) hf 1 ts vs:=by
  refine ⟨by have:=h2.1;rw [ZK,List.length_map] at this;exact this,fun i hi=> ?_⟩
  have h6:=h2.2 i (by rw [ZK,List.length_map];exact hi)
  refine V.ren (σ':=fun _=>σ k) (nx':=1) (fun _ _=>rfl) h6 ?_ ?_
  ·rw [ZK]
   simp [List.getD_eq_getElem?_getD,hi]
  ·rw [Y3,List.all_eq_true] at htl
   refine htl _ ?_
   rw [List.getD_eq_getElem?_getD,List.getElem?_eq_getElem hi]
   exact List.getElem_mem hi
 have h6:=hp h q hf (fun _=>σ k) N vs hF (fun b o hb=>⟨(hs.fro b o hb).1,fun hm=>by have:=hN2 b hm;rw [(hs.fro b o hb).2] at this;cases this⟩) hN1 (h5.scM hsc (fun _ _=>rfl)) hl
 unfold CallS at h6
 obtain ⟨v,h',k1,k2,k3,k4,k5⟩:=h6
 refine ⟨v,h',σ,own,by simp only [QD,h1,k1],k2,fun _ _=>rfl,⟨hs.env,fun k' o hk'=> ?_,fun b o hb=> ?_,fun b k' hb=> ?_,hs.base,fun t ht=> ?_⟩,hr0.fwd hkn Y k4,fun b hb hnk=>k3 b hb (fun hm=>hnk k (by simp) (hN2 b hm)),fun b k' e=> .inl e⟩
 ·simp only [gO] at hk'
  split at hk'
  ·rename_i e
   subst e
   obtain rfl:=Option.some.inj hk'
   exact ⟨hkn,N,hN1,hN2,k5.scM hsc' (fun _ _=>rfl)⟩
  ·rename_i hne
   obtain ⟨m1,N2,m2,m3,m4⟩:=hs.obj k' o hk'
   refine ⟨m1,N2,m2,m3,m4.mono (fun _ _ e=>e) (Nat.le_refl _) (fun _ _=>rfl) (fun b hb=>k3 b (hs.mine b k' (m3 b hb)).2.2.1 (fun hm=> ?_))⟩
   have:=hN2 b hm
   rw [m3 b hb] at this
   exact hne (Option.some.inj this)
 ·obtain ⟨m1,m2⟩:=hs.fro b o hb
  refine ⟨?_,m2⟩
  rw [k3 b (by rw [m1];simp) (fun hm=>by have:=hN2 b hm;rw [m2] at this;cases this)]
  exact m1
 ·obtain ⟨m1,m2,m3,m4⟩:=hs.mine b k' hb
  refine ⟨m1,m2,?_,m4⟩
  by_cases hm:b∈N
  ·rcases k5.one hsc' with ⟨_,rfl,_⟩ | ⟨a,_,rfl,h3⟩
   ·cases hm
   ·obtain rfl:=List.mem_singleton.1 hm
    exact h3
  ·rw [k3 b m3 hm]
   exact m3
 ·rcases k2 t ht with e | e
  ·exact hs.dom t e
  ·exact .inr (hu t e)⟩
theorem OC.callLoan {f:FuncId} {args:Array Operand} {tys:Array TypeId} {ts0 ts:List T} {sz k:Nat} {r r':T} {rows rows':List (List T)} (hb:YA P f=true) (ha:VEvs E args.toList ts0) (hk:gO O k=some (.rows sz rows)) (hts:QaO (fun _=>k) ts=ts0) (htl:YJ 1 ts=true) (hr0:LRes r) (hrr:ren (fun _=>k) r=r') (hsc:scR rows) (hsc':scR rows') (hp:Loan call f sz rows ts r rows') :
  OC call P E O nx ⟨d, .call ⟨.value (.func f),args,tys⟩,ty,ps,af,g⟩ r' ((k,some (.rows sz rows'))::O) nx [k]:=hrr▸OC.loanX (fun q p h0 σ hf own Ea h hs=>by
 obtain ⟨vs,h1,h2⟩:=ha σ hf nx Ea hs.env
 exact ⟨vs,X.calls hb h1,h2⟩) hk hts htl hr0 hsc hsc' hp
theorem VL.app {σ:Nat→Option Nat} {hf:AH} {nx:Nat}:∀ {ts us:List T} {vs ws:List Value},VL σ hf nx ts vs→VL σ hf nx us ws→VL σ hf nx (ts++us) (vs++ws)
 | [],us,vs,ws,h,h2=>by
  obtain rfl:=List.eq_nil_of_length_eq_zero h.1.symm
  exact h2
 | t::ts,us,vs,ws,h,h2=>by
  obtain ⟨v,l,rfl,h3,h4⟩:=h.tail
  exact .cons h3 (VL.app h4 h2)
theorem OC.callvLoan {f:FuncId} {a:Tmp} {args:Array Operand} {tys:Array TypeId} {ts0 ts caps:List T} {sz k:Nat} {r r':T} {rows rows':List (List T)} (hf:gE E a= .fn f caps) (hb:YA P f=true) (ha:VEvs E args.toList ts0) (hk:gO O k=some (.rows sz rows)) (hts:QaO (fun _=>k) ts=ts0++caps) (htl:YJ 1 ts=true) (hr0:LRes r) (hrr:ren (fun _=>k) r=r') (hsc:scR rows) (hsc':scR rows') (hp:Loan call f sz rows ts r rows') :
  OC call P E O nx ⟨d, .call ⟨.value (.tmp a),args,tys⟩,ty,ps,af,g⟩ r' ((k,some (.rows sz rows'))::O) nx [k]:=hrr▸OC.loanX (fun q p h0 σ hf' own Ea h hs=>by
 obtain ⟨vs,h1,h2⟩:=ha σ hf' nx Ea hs.env
 have h3:=hs.env a
 rw [hf] at h3
 obtain ⟨cs,h4,h5⟩:=h3.fnL
 exact ⟨vs++cs,by have:=X.callv (P:=P) (p:=q) (h:=h) (d:=d) (ty:=ty) (ps:=ps) (af:=af) (g:=g) (ts:=tys) h4 hb h1;simpa using this,h2.app h5⟩) hk hts htl hr0 hsc hsc' hp
end
def vtT (f:FuncId) (a b:T):Nat→T
 | 0=> .any
 | d+1=> .vp [.fn f [a,b,vtT f a b d]]
theorem Qb5 (g:Nat→Nat) (f:FuncId) (a b:T):∀d,ren g (vtT f a b d)=vtT f (ren g a) (ren g b) d
 | 0=>rfl
 | d+1=>by simp only [vtT,ren,QaO,Qb5 g f a b d]
theorem QdF {n:Nat} {f:FuncId} {a b:T} (ha:Jk n a=true) (hb:Jk n b=true):∀d,Jk n (vtT f a b d)=true
 | 0=>rfl
 | d+1=>by simp only [vtT,Jk,YJ,ha,hb,QdF ha hb d,Bool.and_true]
theorem tl {n:Nat} {t:T} {ts:List T} (h:Jk n t=true) (hr:YJ n ts=true):YJ n (t::ts)=true:=by simp only [YJ,h,hr,Bool.and_true]
theorem SR.hold {p nx k:Nat} {h0:LB} {hf h:AH} {σ own:Nat→Option Nat} {E:Zc} {O:QB} {Ea:Nat→Value} {us:List T} (hs:SR p h0 σ hf own E O nx Ea h) (hk:gO O k=some (.cells us)):∃hf' own' a es cs,SR p h0 σ hf' own' E ((k,none)::O) nx Ea h∧(∀a o,hf a=some o→hf' a=some o)∧σ k=some a∧hf' a=some (.cells es cs)∧VL σ hf nx us cs:=by
 classical
 obtain ⟨hkn,N,hN1,hN2,h3⟩:=hs.obj k _ hk
 cases hσ:σ k with
 | none=>rw [hσ] at h3;cases h3
 | some a =>
 rw [hσ] at h3
 cases h3 with
 | cells hh hodd hv =>
  rename_i es cs
  have howna:=hN2 a (by simp)
  have hmono:∀b o,hf b=some o→(fun b=>if own b=some k then h b else hf b) b=some o:=fun b o ho=>by
   have:=(hs.fro b o ho).2
   simp only [this]
   rw [if_neg (by simp)]
   exact ho
  refine ⟨fun b=>if own b=some k then h b else hf b,fun b=>if own b=some k then none else own b,a,es,cs,⟨fun t=>(hs.env t).mono hmono (Nat.le_refl _) (fun _ _=>rfl),fun k' o hk'=> ?_,fun b o ha=> ?_,fun b k' ha=> ?_,fun b ha=> ?_,hs.dom⟩,hmono,rfl,by simp only [howna,if_true];exact hh,hv⟩
  ·simp only [gO] at hk'
   split at hk'
   ·cases hk'
   ·rename_i hne
    obtain ⟨h1,M,h2,h4,h5⟩:=hs.obj k' o hk'
    refine ⟨h1,M,h2,fun b hb=> ?_,h5.mono hmono (Nat.le_refl _) (fun _ _=>rfl) (fun _ _=>rfl)⟩
    have:=h4 b hb
    simp only [this]
    rw [if_neg (fun e=>hne (Option.some.inj e))]
  ·split at ha
   ·rename_i e
    exact ⟨ha,by simp only [e,if_true]⟩
   ·rename_i e
    obtain ⟨h1,h2⟩:=hs.fro b o ha
    exact ⟨h1,by simp [h2]⟩
  ·split at ha
   ·cases ha
   ·exact hs.mine b k' ha
  ·have:own b≠some k:=fun e=>ha (hs.mine b k e).2.1
   simp only [if_neg this]
   exact hs.base b ha
theorem SR.told {p nx:Nat} {h0:LB} {hf h:AH} {σ own:Nat→Option Nat} {E E':Zc} {O:QB} {Ea:Nat→Value} (hs:SR p h0 σ hf own E O nx Ea h) (he:∀t,V σ hf nx (gE E' t) (Ea t)):SR p h0 σ hf own E' O nx Ea h:=⟨he,hs.obj,hs.fro,hs.mine,hs.base,hs.dom⟩
theorem V.opAt {σ:Nat→Option Nat} {hf:AH} {nx k o a:Nat} {v:Value} (h:V σ hf nx (.op k o) v) (hσ:σ k=some a):v= .pointer (some ⟨a,o,none⟩):=by
 obtain ⟨a',e1,e2,_⟩:=h.opInv
 rw [hσ] at e2
 rw [e1,Option.some.inj e2]
theorem Wk.recv {E:Zc} {O:QB} {nx d1 d2 d3 k1 k2 k3 sz k n:Nat} {us:List T} {f:FuncId} (dep:Nat) (e1:gE E d1= .op k1 0) (e2:gE E d2= .op k2 0) (e3:gE E d3= .op k3 0) (o1:gO O k1=some (.cells us)) (o2:gO O k2=some (.cells [.os sz k 0 n])) (o3:gO O k3=some (.cells [.fn f [.op k1 0, .op k2 0, .op k3 0]])) (h12:¬k2=k1) (h13:¬k3=k1) (h23:¬k3=k2) (hpl:∀t∈us,J4 t=true) :
  Wk E O nx ((d1, .rp us)::(d2, .vp [.os sz k 0 n])::(d3,vtT f (.rp us) (.vp [.os sz k 0 n]) dep)::E) ((k3,none)::(k2,none)::(k1,none)::O) nx:=fun p h0 σ hf own Ea h hs=>by
 obtain ⟨hf1,own1,a1,es1,cs1,s1,m1,g1,f1,v1⟩:=hs.hold o1
 obtain ⟨hf2,own2,a2,es2,cs2,s2,m2,g2,f2,v2⟩:=s1.hold (k:=k2) (us:= [.os sz k 0 n]) (by simp only [gO,if_neg h12];exact o2)
 obtain ⟨hf3,own3,a3,es3,cs3,s3,m3,g3,f3,v3⟩:=s2.hold (k:=k3) (us:= [.fn f [.op k1 0, .op k2 0, .op k3 0]]) (by simp only [gO,if_neg h13,if_neg h23];exact o3)
 have c1:V σ hf3 nx (.rp us) (.pointer (some ⟨a1,0,none⟩)):=by
  have r1:=(v1.mono (hf':=hf3) (σ':=σ) (nx':=nx) (fun a o e=>m3 _ _ (m2 _ _ (m1 _ _ e))) (Nat.le_refl _) (fun _ _=>rfl)).pl hpl
  exact .fz (.rp us 0 (m3 _ _ (m2 _ _ f1)) (by have:=r1.1;omega) (fun i hi=>by rw [Nat.zero_add];exact r1.2 i hi))
 have c2:V σ hf3 nx (.vp [.os sz k 0 n]) (.pointer (some ⟨a2,0,none⟩)):=by
  have r1:=v2.mono (hf':=hf3) (σ':=σ) (nx':=nx) (fun a o e=>m3 _ _ (m2 _ _ e)) (Nat.le_refl _) (fun _ _=>rfl)
  exact .vp _ 0 (m3 _ _ f2) (by have:=r1.1;omega) (fun i hi=>by rw [Nat.zero_add];exact r1.2 i hi)
 obtain ⟨w,l,hw,w1,w2⟩:=v3.tail
 obtain rfl:=List.eq_nil_of_length_eq_zero w2.1.symm
 subst hw
 obtain ⟨ws,rfl,w3⟩:=w1.fnL
 obtain ⟨x1,l1,rfl,y1,w3⟩:=w3.tail
 obtain ⟨x2,l2,rfl,y2,w3⟩:=w3.tail
 obtain ⟨x3,l3,rfl,y3,w3⟩:=w3.tail
 obtain rfl:=List.eq_nil_of_length_eq_zero w3.1.symm
 obtain rfl:=y1.opAt g1
 obtain rfl:=y2.opAt g2
 obtain rfl:=y3.opAt g3
 have c3:∀dep,V σ hf3 nx (vtT f (.rp us) (.vp [.os sz k 0 n]) dep) (.pointer (some ⟨a3,0,none⟩)):=by
  intro dep
  induction dep with
  | zero=>exact .any _
  | succ dep ih=>exact .vp _ 0 f3 (by simp) (fun i hi=>by
    obtain rfl:i=0:=by simpa using hi
    exact (VL.cons c1 (VL.cons c2 (VL.cons ih (VL.nil _ _ _)))).toFn f)
 refine ⟨σ,hf3,own3,s3.told fun t=> ?_⟩
 simp only [gE]
 split
 ·rename_i e;subst e
  have:=hs.env t
  rw [e1] at this
  rw [this.opAt g1];exact c1
 ·split
  ·rename_i e;subst e
   have:=hs.env t
   rw [e2] at this
   rw [this.opAt g2];exact c2
  ·split
   ·rename_i e;subst e
    have:=hs.env t
    rw [e3] at this
    rw [this.opAt g3];exact c3 dep
   ·exact s3.env t
theorem Wk.cell {E:Zc} {O:QB} {nx d1 k1:Nat} {us:List T} (e1:gE E d1= .op k1 0) (o1:gO O k1=some (.cells us)) (hpl:∀t∈us,J4 t=true):Wk E O nx ((d1, .rp us)::E) ((k1,none)::O) nx:=fun p h0 σ hf own Ea h hs=>by
 obtain ⟨hf1,own1,a1,es1,cs1,s1,m1,g1,f1,v1⟩:=hs.hold o1
 refine ⟨σ,hf1,own1,s1.told fun t=> ?_⟩
 simp only [gE]
 split
 ·rename_i e;subst e
  have:=hs.env t
  rw [e1] at this
  rw [this.opAt g1]
  have r1:=(v1.mono (hf':=hf1) (σ':=σ) (nx':=nx) m1 (Nat.le_refl _) (fun _ _=>rfl)).pl hpl
  exact .fz (.rp us 0 f1 (by have:=r1.1;omega) (fun i hi=>by rw [Nat.zero_add];exact r1.2 i hi))
 ·exact s1.env t
section
variable {call : QO} {P : Program} {π c i : Nat} {ops : Array Oper}
theorem Qeh : ∀(l1 l2:List Oper) (i:Nat) (s:St),QbY call P π ops (l1++l2) i s=(QbY call P π ops l1 i s).bind (QbY call P π ops l2 (i+l1.length))
 | [],l2,i,s=>by simp [QbY]
 | o::r,l2,i,s=>by
  rw [List.cons_append,QbY,QbY]
  cases hx:QfK call P π ops i o s with
  | none=>rfl
  | some s1 =>
   rw [Option.bind_some,Option.bind_some,Qeh r l2,List.length_cons,show i+1+r.length=i+(r.length+1) by omega]
theorem RunO.app {l1 l2:List Oper} {E:Nat→Value} {h:AH} {K:(Nat→Value)→AH→Prop} (h1:RunO call P π ops c l1 i E h (fun E' h'=>RunO call P π ops c l2 (i+l1.length) E' h' K)):RunO call P π ops c (l1++l2) i E h K:=by
 unfold RunO at h1 ⊢
 intro hf
 obtain ⟨s1,e1,e2,e3,e4⟩:=h1 hf
 obtain ⟨s2,f1,f2,f3,f4⟩:=e4 e3
 refine ⟨s2,?_,f2,?_,f4⟩
 ·rw [Qeh,e1,Option.bind_some,← f1]
  obtain ⟨E1,h1',c1⟩:=s1
  simp only at e2
  subst e2
  rfl
 ·rw [List.length_append,← Nat.add_assoc i]
  exact f3
end
def QnD (ds:List Nat) (E:Zc):Zc:=(ds.map fun e=>(e,T.any))++E
inductive JE (E:Zc) (ds:List Nat):Zc→Prop
 | nil:JE E ds E
 | cons {E1:Zc} {e:Nat} {t:T} (he:ds.contains e=true) (h:JE E ds E1):JE E ds ((e,t)::E1)
theorem jn {E:Zc} {ds:List Nat}:JE E ds E:= .nil
theorem js {E E1:Zc} {ds:List Nat} {e:Nat} {t:T} (he:ds.contains e=true) (h:JE E ds E1):JE E ds ((e,t)::E1):= .cons he h
theorem QjB (E:Zc) (t:Nat):∀ds:List Nat,gE (QnD ds E) t=if ds.contains t then .any else gE E t
 | []=>rfl
 | e::r=>by
  have ih:=QjB E t r
  unfold QnD at ih ⊢
  simp only [List.map_cons,List.cons_append,gE,ih,List.contains_cons]
  by_cases h:t=e
  ·simp [h]
  ·have:(t == e)=false:=by simp [h]
   simp [h]
theorem JE.off {E E1:Zc} {ds:List Nat} (h:JE E ds E1) {t:Nat} (ht:ds.contains t=false):gE E1 t=gE E t:=by
 induction h with
 | nil=>rfl
 | cons he _ ih =>
  rename_i e _ _
  have:¬t=e:=fun x=>by rw [x,he] at ht;cases ht
  simp only [gE,if_neg this,ih]
def JQ (E:Zc) (O:QB) (nx:Nat) (ds:List Nat) (d:Nat) (b:T) (E1:Zc) (O1:QB) (nx1:Nat):Prop:=O1=O∧nx1=nx∧∃E2,E1=(d,b)::E2∧JE E ds E2
theorem jq {E E2:Zc} {O:QB} {nx d:Nat} {ds:List Nat} {b v:T} (hv:v=b) (h:JE E ds E2):JQ E O nx ds d b ((d,v)::E2) O nx:=⟨rfl,rfl,E2,by rw [hv],h⟩
theorem VRunO.joinB {call:QO} {P:Program} {ops:Array Oper} {l:List Oper} {E:Zc} {O:QB} {nx:Nat} {K:Zc→QB→Nat→Prop} (m:Nat) (ds:List Nat) (d:Nat) (b:T) (h1:VRunO call P ops (l.take m) E O nx (JQ E O nx ds d b)) (h2:VRunO call P ops (l.drop m) ((d,b)::QnD ds E) O nx K):VRunO call P ops l E O nx K:=by
 unfold VRunO at h1 h2 ⊢
 intro p h0 σ hf own Ea h c i hs
 rw [← List.take_append_drop m l]
 refine RunO.app ?_
 have h3:=h1 p h0 σ hf own Ea h c i hs
 unfold RunO at h3 ⊢
 intro hfc
 obtain ⟨s',e1,e2,e3,σ',hf',own',E1,O1,nx1,e4,rfl,rfl,E2,rfl,e5⟩:=h3 hfc
 have h4:=h2 p h0 σ' hf' own' s'.E s'.h c (i+(l.take m).length) (e4.told fun t=> ?_)
 ·unfold RunO at h4
  exact ⟨s',e1,e2,e3,h4⟩
 have h6:=e4.env t
 simp only [gE] at h6 ⊢
 split
 ·rename_i e
  simpa only [e,if_true] using h6
 ·rename_i e
  rw [if_neg e] at h6
  rw [QjB]
  split
  ·exact .any _
  ·rename_i hc
   rwa [e5.off (by simpa using hc)] at h6
section
variable {c v : Bool} {C Q : Prop} [Decidable C] [Decidable Q]
theorem jOT (hc:c=decide C) (h:c=true):true=decide (C∨Q):=by
 have:C:=of_decide_eq_true (hc▸h)
 simp [this]
theorem jOF (hc:c=decide C) (h:c=false) (hv:v=decide Q):v=decide (C∨Q):=by
 have:¬C:=of_decide_eq_false (hc▸h)
 simp [hv,this]
theorem dN : (!decide C)=decide (¬C):=by by_cases h:C<;>simp [h]
theorem dT (x:Bool):x=decide (x=true):=by cases x<;>rfl
end
section
variable {C Q R : Prop} {v : Bool}
theorem dy [Decidable C] (h:C):decide C=true:=decide_eq_true h
theorem dz [Decidable C] (h:¬C):decide C=false:=decide_eq_false h
theorem ny [Decidable C] (h:¬C):(!decide C)=true:=by simp [h]
theorem nz [Decidable C] (h:C):(!decide C)=false:=by simp [h]
theorem kAT [Decidable C] [Decidable Q] (h:C) (hv:v=decide Q):v=decide (C∧Q):=by simp [hv,h]
theorem kAF [Decidable C] [Decidable Q] (h:¬C):false=decide (C∧Q):=by simp [h]
theorem kOT [Decidable C] [Decidable Q] (h:C):true=decide (C∨Q):=by simp [h]
theorem kOF [Decidable C] [Decidable Q] (h:¬C) (hv:v=decide Q):v=decide (C∨Q):=by simp [hv,h]
theorem gw (C:Prop) (ht:C→R) (hf:¬C→R):R:=(Classical.em C).elim ht hf
theorem gn (C:Prop) (ht:¬C→R) (hf:C→R):R:=(Classical.em C).elim hf ht
theorem cd {call:QO} {P:Program} {E:Zc} {O:QB} {nx:Nat} {S:AX→Zc→QB→Nat→Prop} {x y:Code} {a:Tmp} (C:Prop) [Decidable C] (h:gE E a= .bool (decide C)) (ht:C→VRun call P x E O nx S) (hf:¬C→VRun call P y E O nx S):VRun call P (.cond (.tmp a) x y) E O nx S:=VRun.cond (VEv.tmp h) (fun e=>ht (of_decide_eq_true e)) (fun e=>hf (of_decide_eq_false e))
theorem cn {call:QO} {P:Program} {E:Zc} {O:QB} {nx:Nat} {S:AX→Zc→QB→Nat→Prop} {x y:Code} {a:Tmp} (C:Prop) [Decidable C] (h:gE E a= .bool (!decide C)) (ht:¬C→VRun call P x E O nx S) (hf:C→VRun call P y E O nx S):VRun call P (.cond (.tmp a) x y) E O nx S:=VRun.cond (VEv.tmp h) (fun e=>ht (by simpa using e)) (fun e=>hf (by simpa using e))
end
theorem lb {a b:Nat} (h:Nat.ble a b=true):a≤b:=Nat.le_of_ble_eq_true h
theorem bn {α:Type} {p:α→Prop}:∀x∈([]:List α),p x:=Zr
theorem bc {α:Type} {p:α→Prop} {a:α} {l:List α} (h:p a) (hr:∀x∈l,p x):∀x∈a::l,p x:=Qi h hr
theorem b2 {α:Type} {p:α→Prop} {a:α} {l:List α} (hr:∀x∈l,p x) (h:p a:=by exact ⟨rfl,rfl⟩):∀x∈a::l,p x:=Qi h hr
theorem b3 {α:Type} {p:α→Prop} {a:α} {l:List α} (hr:∀x∈l,p x) (h:p a:=by exact ⟨rfl,lb Y,rfl⟩):∀x∈a::l,p x:=Qi h hr
theorem QA : Y2=1099511627776∧mx=1048576∧maxLen=9223372036854775807:=⟨rfl,rfl,rfl⟩
theorem Qaz {α:Type} {l:List α} {i:Nat} (z:α) (h:i<l.length):l[i]? =some (l[i]?.getD z):=by rw [List.getElem?_eq_getElem h,Option.getD_some]
theorem SL.cut {hf h:AH}:∀ {ts:List T} {vs:List Value} {N:List Nat} (j:Nat) (hj:j<ts.length),SL hf h ts vs N→∃A B C,N=A++(B++C)∧S hf h (ts.getD j .any) (vs.getD j undef) B∧∀(h':AH) (t':T) (v':Value),(∀a∈A,h' a=h a)→(∀a∈C,h' a=h a)→S hf h' t' v' B→SL hf h' (ts.set j t') (vs.set j v') N
 | _,_,_,j,hj, .nil=>by simp at hj
 | _,_,_,0,hj, .cons (N:=N) (M:=M) hs hr=>⟨[],N,M,rfl,by simpa using hs,fun h' t' v' _ hC hS=> .cons hS (SL.mono (fun _ _ e=>e) hr hC)⟩
 | _,_,_,j+1,hj, .cons (N:=N) (M:=M) hs hr=>by
  obtain ⟨A,B,C,e,h1,h2⟩:=SL.cut j (by simpa using hj) hr
  refine ⟨N++A,B,C,by rw [e,List.append_assoc],by simpa using h1,fun h' t' v' hA hC hS=> ?_⟩
  exact .cons (S.mono (fun _ _ e=>e) hs (fun a ha=>hA a (by simp [ha]))) (h2 h' t' v' (fun a ha=>hA a (by simp [ha])) hC hS)
theorem Qjz {cs:List T} {o:Nat} {t:T} (h:o<cs.length):spl cs o [t]=cs.set o t:=by
 rw [spl,List.set_eq_take_append_cons_drop,if_pos h]
 simp
theorem Qjf {cs:List Value} {o:Nat} {t:Value} (h:o<cs.length):AE.splice cs o [t]=cs.set o t:=by
 rw [AE.splice,List.set_eq_take_append_cons_drop,if_pos h]
 simp
theorem QnX {u:T} (hu:sc u=true) {σ:Nat→Option Nat} {hf:AH} {nx:Nat} {v:Value} (hv:V σ hf nx u v):v.cells.toList= [v]∧v.oneCell'=true∧∀hf h,S hf h u v []:=by
 cases u<;>first | (simp [sc] at hu;done) | skip
 ·obtain rfl:=hv.boolInv;exact ⟨rfl,rfl,fun _ _=> .fz (.bool _)⟩
 ·obtain rfl:=hv.intInv;exact ⟨rfl,rfl,fun _ _=> .fz (.int _ _)⟩
 ·obtain rfl:=hv.strInv;exact ⟨rfl,rfl,fun _ _=> .fz (.str _)⟩
theorem S.scN {hf h:AH} {t:T} {v:Value} {N:List Nat} (hs:S hf h t v N) (ht:AE.sc t=true):N= []:=by
 cases hs with
 | fz hr=>rfl
 | _=>simp [AE.sc] at ht
section
variable {call : QO} {P : Program} {E : Zc} {O : QB} {d : Option Tmp} {ty tt : TypeId} {ps : String} {af : Array Edge} {g : Option (Nat × Bool)} {x y : Operand} {nx sz k i o : Nat} {rows rows' : List (List T)} {row : List T} {asg : List Nat}
theorem Qjt {σ:Nat→Option Nat} {hf h:AH} {a:Nat} {cs:List Value} {N:List Nat} {t0:T} (hh:h a=some (.cells sz cs)) (hlen:∀r∈rows,r.length=sz) (hfit:rows.length*sz≤cs.length) (hsl:SL hf h rows.flatten (cs.take (rows.length*sz)) N) (hi:rows[i]? =some row) (ho:row[o]? =some t0) :
  i*sz+o<rows.length*sz∧∃v A B C,cs[i*sz+o]? =some v∧N=A++(B++C)∧S hf h t0 v B∧∀(h':AH) (t':T) (v':Value),(∀b∈A,h' b=h b)→(∀b∈C,h' b=h b)→S hf h' t' v' B→SL hf h' (rows.set i (row.set o t')).flatten ((cs.set (i*sz+o) v').take (rows.length*sz)) N:=by
 have hlt:i<rows.length:=(List.getElem?_eq_some_iff.1 hi).1
 have hrow:row.length=sz:=hlen row (List.mem_of_getElem? hi)
 have hol:=(List.getElem?_eq_some_iff.1 ho).1
 have ho':o<sz:=by rw [← hrow];exact hol
 have hf1:=Qb8 (sz:=sz) hlt
 have hfl:=Z2 hlen
 obtain ⟨A,B,C,e,h1,h2⟩:=hsl.cut (i*sz+o) (by omega)
 rw [Yp hlen hi ho',List.getD_eq_getElem?_getD,ho,Option.getD_some,List.getD_eq_getElem?_getD,List.getElem?_take,if_pos (by omega),List.getElem?_eq_getElem (by omega),Option.getD_some] at h1
 refine ⟨by omega,_,A,B,C,List.getElem?_eq_getElem (by omega),e,h1,fun h' t' v' hA hC hS=> ?_⟩
 have h3:=h2 h' t' v' hA hC hS
 rw [← Qjz (by omega),← QbM hlen hi (by simp only [List.length_cons,List.length_nil];omega),Qjz hol] at h3
 rw [List.take_set]
 exact h3
theorem B.storeN {t0 u:T} (hx:VEv E x (.orp sz k i o)) (hy:VEv E y u) (hu:sc u=true) (hk:gO O k=some (.rowsN sz rows asg)) (hi:rows[i]? =some row) (ho:row[o]? =some t0) (ht0:sc t0=true) (hif:(P.info? tt).isSome=true) (hn:P.cellsOf tt=1) (hr:rows.set i (row.set o u)=rows') :
  OC call P E O nx ⟨d, .store tt x y,ty,ps,af,g⟩ .any ((k,some (.rowsN sz rows' asg))::O) nx [k]:=⟨Nat.le_refl _,fun q p h0 σ hf own Ea h hs hq hF=>by
 subst hr
 obtain ⟨v,h1,h2⟩:=hx σ hf nx Ea hs.env
 obtain ⟨v',h3,h4⟩:=hy σ hf nx Ea hs.env
 obtain ⟨c1,c2,c3⟩:=QnX hu h4
 obtain ⟨a,rfl,h5,h6⟩:=h2.orpInv
 obtain ⟨N,hN1,hN2,h7⟩:=hs.objAt hk
 rw [h5] at h7
 cases h7 with
 | rowsN hh hodd hlen hfit hsl =>
  rename_i cs
  obtain ⟨hlt,w,A,B,C,e1,e2,e3,e4⟩:=Qjt (σ:=σ) hh hlen hfit hsl hi ho
  obtain rfl:=e3.scN ht0
  have hst:=Qcf (P:=P) (t:=tt) (v:=v') (o:=i*sz+o) hodd hh hif hn c1 Y (by simp only [List.length_cons,List.length_nil];omega) (by simpa using c2)
  rw [Qjf (by omega)] at hst
  have hown:own a=some k:=hN2 a (by simp)
  have haN:∀b,b∈asg→b≠a:=fun b hb e=>(List.nodup_cons.1 hN1).1 (e▸hb)
  have hupd:∀z:Yn,∀b∈asg,(h.upd a (some z)) b=h b:=fun z b hb=>AH.upd_ne _ (haN b hb) _
  have hobj:ObjR σ hf nx (h.upd a (some (.cells sz (cs.set (i*sz+o) v')))) (.rowsN sz (rows.set i (row.set o u)) asg) (some a) (a::asg):=by
   refine .rowsN (AH.upd_same _ _ _) hodd (fun r hr=> ?_) (by rw [List.length_set,List.length_set];exact hfit) ?_
   ·rcases List.mem_or_eq_of_mem_set hr with hm | rfl
    ·exact hlen r hm
    ·rw [List.length_set];exact hlen row (List.mem_of_getElem? hi)
   ·rw [List.length_set]
    exact e4 _ _ _ (fun b hb=>hupd _ b (by rw [e2];simp [hb])) (fun b hb=>hupd _ b (by rw [e2];simp [hb])) (c3 _ _)
  refine ⟨undef,_,σ,own,X.store h1 h3 hst,Dom.old (by rw [hh];simp) _,fun _ _=>rfl,hs.upd h5 h6 hown hN1 hN2 hobj, .any _,fun b hb hnk=>AH.upd_ne _ (fun e=> ?_) _,fun b k' e=> .inl e⟩
  exact hnk k (by simp) (e▸hown)⟩
theorem VRunO.nest {ops:Array Oper} {l:List Oper} {K:Zc→QB→Nat→Prop} {d1 d2 d3:Nat} {ty1 ty2 ty3:TypeId} {ps1 ps2 ps3:String} {af1 af2 af3:Array Edge} {f:FuncId} {tys:Array TypeId} {sz2:Nat} {rs rs':List (List T)} {n r:Int} (h12:(d1 == d2)=false) (hx:VEv E x (.orp sz k i o)) (hk:gO O k=some (.rowsN sz rows asg)) (hi:rows[i]? =some row) (ho:row[o]? =some (.sl true sz2 rs)) (hst:Qw P tt=some false) (hy:VEv ((d1, .any)::E) y (.int .i64 n)) (hb:YA P f=true) (hm:Mut call f sz2 rs [.int .i64 n] (some r) rs') (hc:∀r∈rs,∀t∈r,Clean t) (hr:rows.set i (row.set o (.sl true sz2 rs'))=rows')
  (hK:VRunO call P ops l ((d3, .int .i64 r)::(d2, .int .i64 n)::(d1, .any)::E) ((k,some (.rowsN sz rows' asg))::O) nx K) :
  VRunO call P ops (⟨some d1, .load tt x,ty1,ps1,af1,none⟩::⟨some d2, .move y,ty2,ps2,af2,none⟩::⟨some d3, .call ⟨.value (.func f),#[.tmp d1, .tmp d2],tys⟩,ty3,ps3,af3,none⟩::l) E O nx K:=by
 unfold VRunO at hK ⊢
 intro p h0 σ hf own Ea h c j hs
 subst hr
 obtain ⟨v,h1,h2⟩:=hx σ hf nx Ea hs.env
 obtain ⟨a,rfl,h5,h6⟩:=h2.orpInv
 obtain ⟨N,hN1,hN2,h7⟩:=hs.objAt hk
 rw [h5] at h7
 cases h7 with
 | rowsN hh hodd hlen hfit hsl =>
  rename_i cs
  obtain ⟨hlt,v0,A,B,C,e1,e2,e3,e4⟩:=Qjt (σ:=σ) hh hlen hfit hsl hi ho
  have hs1:=hs.put (V.any (σ:=σ) (hf:=hf) (nx:=nx) v0) (some d1)
  obtain ⟨w,y1,y2⟩:=hy σ hf nx _ hs1.env
  obtain rfl:=y2.intInv
  have hs2:=hs1.put y2 (some d2)
  have hdd:d1≠d2:=by simpa using h12
  refine RunO.pure Y Y Y (X.load h1 (J9 hst hh e1)) (RunO.pure Y Y Y (X.move y1) ?_)
  have hown:own a=some k:=hN2 a (by simp)
  have hsub:∀b∈B,b∈asg:=fun b hb=>by rw [e2];simp [hb]
  have hnd:asg.Nodup:=(List.nodup_cons.1 hN1).2
  have hndB:B.Nodup:=by rw [e2,List.nodup_append,List.nodup_append] at hnd;exact hnd.2.1.1
  have hdisA:∀b∈A,b∉B:=fun b hb hm2=>by rw [e2,List.nodup_append] at hnd;exact hnd.2.2 b hb b (by simp [hm2]) Y
  have hdisC:∀b∈C,b∉B:=fun b hb hm2=>by rw [e2,List.nodup_append,List.nodup_append] at hnd;exact hnd.2.1.2.2 b hm2 b hb Y
  have haB:a∉B:=fun hm2=>(List.nodup_cons.1 hN1).1 (hsub a hm2)
  have hevs:AE.evs (Z3 (Z3 Ea (some d1) v0) (some d2) (.int .i64 n)) [.tmp d1, .tmp d2]=some [v0, .int .i64 n]:=by
   simp [AE.evs,ZS,Z3,hdd]
  unfold RunO
  intro hfc
  have hF:Fr (child p (c+(j+1+1))) h:=FrC.fr hfc (Nat.le_refl _)
  have hS0:S (fun _=>none) h (.sl true sz2 rs) v0 B:=S.clean e3 (.sl _ _ hc)
  have h8:=hm h (child p (c+(j+1+1))) hf v0 B [.int .i64 n] hF (fun b o hb=>⟨(hs.fro b o hb).1,fun hm2=>by have:=hN2 b (by simp [hsub b hm2]);rw [(hs.fro b o hb).2] at this;cases this⟩) hS0 hndB (RL.cons (.int _ _) (RL.nil _))
  unfold CallS at h8
  obtain ⟨v,h',k1,k2,k3,rfl,k5⟩:=h8
  have hha:h' a=some (.cells sz cs):=(k3 a (by rw [hh];simp) haB).trans hh
  have hobj:ObjR σ hf nx h' (.rowsN sz (rows.set i (row.set o (.sl true sz2 rs'))) asg) (σ k) (a::asg):=by
   rw [h5]
   refine .rowsN hha hodd (fun r hr=> ?_) (by rw [List.length_set];exact hfit) ?_
   ·rcases List.mem_or_eq_of_mem_set hr with hm2 | rfl
    ·exact hlen r hm2
    ·rw [List.length_set];exact hlen row (List.mem_of_getElem? hi)
   ·rw [List.length_set]
    have hnn:∀b∈asg,h b≠none:=fun b hb=>hsl.names b hb
    have:=e4 h' (.sl true sz2 rs') v0 (fun b hb=>k3 b (hnn b (by rw [e2];simp [hb])) (hdisA b hb)) (fun b hb=>k3 b (hnn b (by rw [e2];simp [hb])) (hdisC b hb)) (k5.mono (fun _ _ e=>by cases e) (fun _ _=>rfl))
    have e5:cs.set (i*sz+o) v0=cs:=by
     refine List.ext_getElem? fun q=> ?_
     rw [List.getElem?_set]
     split
     ·rename_i e;subst e;rw [if_pos (by omega),e1]
     ·rfl
    rwa [e5] at this
  have hs3:SR p h0 σ hf own ((d2, .int .i64 n)::(d1, .any)::E) ((k,some (.rowsN sz (rows.set i (row.set o (.sl true sz2 rs'))) asg))::O) nx (Z3 (Z3 Ea (some d1) v0) (some d2) (.int .i64 n)) h':=by
   refine ⟨hs2.env,fun k' o' hk'=> ?_,fun b o' hb=> ?_,fun b k' hb=> ?_,hs.base,fun t ht=> ?_⟩
   ·simp only [gO] at hk'
    split at hk'
    ·rename_i e
     subst e
     obtain rfl:=Option.some.inj hk'
     exact ⟨h6,a::asg,hN1,hN2,hobj⟩
    ·rename_i hne
     obtain ⟨m1,N2,m2,m3,m4⟩:=hs.obj k' o' hk'
     refine ⟨m1,N2,m2,m3,m4.mono (fun _ _ e=>e) (Nat.le_refl _) (fun _ _=>rfl) (fun b hb=>k3 b (hs.mine b k' (m3 b hb)).2.2.1 (fun hm2=> ?_))⟩
     have:=hN2 b (by simp [hsub b hm2])
     rw [m3 b hb] at this
     exact hne (Option.some.inj this)
   ·obtain ⟨m1,m2⟩:=hs.fro b o' hb
    refine ⟨?_,m2⟩
    rw [k3 b (by rw [m1];simp) (fun hm2=>by have:=hN2 b (by simp [hsub b hm2]);rw [m2] at this;cases this)]
    exact m1
   ·obtain ⟨m1,m2,m3,m4⟩:=hs.mine b k' hb
    refine ⟨m1,m2,?_,m4⟩
    by_cases hm2:b∈B
    ·exact k5.names b hm2
    ·rw [k3 b m3 hm2];exact m3
   ·rcases k2 t ht with e | e
    ·exact hs.dom t e
    ·exact .inr (.inl (QaD e))
  have hs4:=hs3.put (V.fz (σ:=σ) (hf:=hf) (nx:=nx) (R.int (hf:=hf) .i64 r)) (some d3)
  have hk4:=hK p h0 σ hf own _ h' c (j+1+1+1) hs4
  have hex:QD call P (child p (c+(j+1+1))) (Z3 (Z3 Ea (some d1) v0) (some d2) (.int .i64 n)) h ⟨some d3, .call ⟨.value (.func f),#[.tmp d1, .tmp d2],tys⟩,ty3,ps3,af3,none⟩=some (rvV (some r),h'):=by
   simp only [QD,X.calls (ts:=tys) hb (show AE.evs _ (#[Operand.tmp d1,Operand.tmp d2].toList)=some [v0, .int .i64 n] from hevs),k1]
  have hst2:=RunO.step (call:=call) (P:=P) (π:=p) (c:=c) (i:=j+1+1) (ops:=ops) (r:=l) (K:=KK p h0 K) Y Y Y hex (fun _=>k2) (fun _=>hk4)
  unfold RunO at hst2
  exact hst2 hfc
end
abbrev LO := List (Nat×List (List T))
def loO (asg:Nat→List Nat):Nat→LO→QB
 | _,[]=> []
 | n,x::r=>(n,some (.rowsN x.1 x.2 (asg n)))::loO asg (n+1) r
theorem QkW (asg:Nat→List Nat) (k:Nat):∀(L:LO) (n:Nat),gO (loO asg n L) k=if n≤k then (L[k - n]?).map (fun x=>Obj.rowsN x.1 x.2 (asg k)) else none
 | [],n=>by simp [loO,gO]
 | x::r,n=>by
  rw [loO,gO]
  by_cases h:k=n
  ·subst h;simp
  ·rw [if_neg h,QkW asg k r (n+1)]
   by_cases h2:n≤k
   ·rw [if_pos h2,if_pos (by omega),show k - n=(k - (n+1))+1 by omega,List.getElem?_cons_succ]
   ·rw [if_neg h2,if_neg (by omega)]
def QoU (σ:Nat→Option Nat) (hf:AH) (own:Nat→Option Nat) (asg:Nat→List Nat) (L:LO) (h:AH):Prop:=∀k x,L[k]? =some x→∃N,N.Nodup∧(∀a∈N,own a=some k)∧ObjR σ hf L.length h (.rowsN x.1 x.2 (asg k)) (σ k) N
def LoanM (call:QO) (f:FuncId) (L:LO) (ts:List T) (r:T) (L':LO):Prop:=∀(asg:Nat→List Nat) (h:AH) (p:Nat) (hf:AH) (σ own:Nat→Option Nat) (vs:List Value),Fr p h→(∀b o,hf b=some o→h b=some o∧own b=none)→(∀b k,own b=some k→h b≠none∧k<L.length)→QoU σ hf own asg L h→VL σ hf L.length ts vs →
 CallS call f vs h p (fun v h'=>(∀b,h b≠none→own b=none→h' b=h b)∧(∃hf2,V σ hf2 L.length r v)∧∀k x,L'[k]? =some x→∃N,N.Nodup∧(∀a∈N,own a=some k)∧ObjR σ hf L.length h' (.rowsN x.1 x.2 (asg k)) (σ k) N)
inductive PinK (k:Nat):T→Prop
 | os (sz n:Nat):PinK k (.os sz k 0 n)
 | agg {ts:List T} {t:T} (i:Nat) (h:ts[i]? =some t) (hp:PinK k t):PinK k (.agg ts)
inductive PRes : T→Prop
 | none:PRes (.tup [])
 | int (k:IntKind) (n:Int):PRes (.int k n)
 | bool (b:Bool):PRes (.bool b)
theorem PRes.R {r:T} {v:Value} {σ:Nat→Option Nat} {hf:AH} {nx:Nat} (hr:PRes r) (h:V σ hf nx r v) (hf':AH):AE.R hf' r v:=by
 cases hr with
 | none =>
  obtain ⟨l,rfl,h1⟩:=V.tupL h
  obtain rfl:=List.eq_nil_of_length_eq_zero h1.1.symm
  exact .tup [] #[] rfl (fun i hi=>by simp at hi)
 | int k n=>obtain rfl:=V.intInv h;exact .int _ _
 | bool b=>obtain rfl:=V.boolInv h;exact .bool _
theorem Qmc {σ σ':Nat→Option Nat} {hf hf':AH} {nx nx' sz k k' n:Nat} {v:Value} (h:V σ hf nx (.os sz k 0 n) v) (h':V σ' hf' nx' (.os sz k' 0 n) v):σ' k'=σ k:=by
 obtain ⟨_,⟨a,m,e1,e2,e3⟩ | ⟨e1,_,e2,e3⟩⟩:=h.osInv
 ·obtain ⟨_,⟨a',m',f1,f2,f3⟩ | ⟨f1,_,f2,f3⟩⟩:=h'.osInv
  ·rw [e1] at f1
   simp only [Value.slice.injEq,Option.some.injEq,Addr.mk.injEq] at f1
   rw [e2,f2,f1.1.1]
  ·subst e1
   rcases f3 with f3 | ⟨b,o,f3⟩
   ·exact absurd f3 (by simp)
   ·simp only [Value.slice.injEq] at f3
    omega
 ·obtain ⟨_,⟨a',m',f1,f2,f3⟩ | ⟨f1,_,f2,f3⟩⟩:=h'.osInv
  ·subst f1
   rcases e3 with e3 | ⟨b,o,e3⟩
   ·exact absurd e3 (by simp)
   ·simp only [Value.slice.injEq] at e3
    omega
  ·rw [e1,f1]
theorem PinK.same {σ σ':Nat→Option Nat} {hf hf':AH} {nx nx' k:Nat} {f:Nat→Nat} {pin:T} {v:Value} (hp:PinK k pin) (h:V σ hf nx pin v) (h':V σ' hf' nx' (ren f pin) v):σ' (f k)=σ k:=by
 induction hp generalizing v with
 | os sz n=>exact Qmc h h'
 | agg i hi hp ih =>
  rename_i ts t
  obtain ⟨l,rfl,h1⟩:=V.aggL h
  have h2:V σ' hf' nx' (.agg (QaO f ts)) (.agg l.toArray):=h'
  obtain ⟨l2,e,h3⟩:=V.aggL h2
  have e2:l2=l:=by
   simp only [Value.agg.injEq] at e
   have:=congrArg Array.toList e
   simpa using this.symm
  subst e2
  have hlt:=(List.getElem?_eq_some_iff.1 hi).1
  have g1:=h1.2 i hlt
  have g2:=h3.2 i (by rw [ZK,List.length_map];exact hlt)
  rw [List.getD_eq_getElem?_getD,hi,Option.getD_some] at g1
  rw [ZK,List.getD_eq_getElem?_getD,List.getElem?_map,hi,Option.map_some,Option.getD_some] at g2
  exact ih g1 g2
def finO (O:QB) (f:Nat→Nat) (asg:Nat→List Nat):Nat→LO→Prop
 | _,[]=>True
 | n,x::r=>gO O (f n)=some (.rowsN x.1 x.2 (asg n))∧finO O f asg (n+1) r
theorem finO.at {O:QB} {f:Nat→Nat} {asg:Nat→List Nat}:∀ {L:LO} {n:Nat} (k:Nat) {x},finO O f asg n L→L[k]? =some x→gO O (f (n+k))=some (.rowsN x.1 x.2 (asg (n+k)))
 | [],n,k,x,_,h=>by simp at h
 | y::r,n,0,x,h,e=>by
  obtain rfl:y=x:=by simpa using e
  exact h.1
 | y::r,n,k+1,x,h,e=>by
  have:=finO.at (L:=r) (n:=n+1) k h.2 (by simpa using e)
  rwa [show n+1+k=n+(k+1) by omega] at this
def vloanM (P:Program) (rs:List ResultVar) (pins:List (Nat×T)) (L':LO) (asg:Nat→List Nat) (r:T):AX→Zc→QB→Nat→Prop
 | .exit _,_,_,_=>False
 | _,E,O,_=>∃(f:Nat→Nat) (us:List T),VRes P E O rs us∧QdR us=r∧(∀x∈pins,gE E x.1=ren f x.2)∧finO O f asg 0 L'
theorem vloanM.r {P:Program} {rs:List ResultVar} {pins:List (Nat×T)} {L1 L':LO} {asg:Nat→List Nat} {r:T} {E:Zc} {O:QB} {nx:Nat} {us:List T} (f:Nat→Nat) (h:VRes P E O rs us) (h1:QdR us=r) (h2:∀x∈pins,gE E x.1=ren f x.2) (h3:finO O f asg 0 L1) (e:L1=L'):vloanM P rs pins L' asg r .ret E O nx:=⟨f,us,h,h1,h2,e▸h3⟩
theorem ObjR.nameN {σ:Nat→Option Nat} {hf h:AH} {nx sz:Nat} {rows:List (List T)} {asg N:List Nat} {oa:Option Nat} (h1:ObjR σ hf nx h (.rowsN sz rows asg) oa N):(oa=Option.none∧N= []∧asg= [])∨∃a,oa=some a∧N=a::asg:=by
 cases h1 with
 | noneN sz=>exact .inl ⟨rfl,rfl,rfl⟩
 | rowsN hk hodd hlen hfit hs=>exact .inr ⟨_,rfl,rfl⟩
theorem ObjR.moveN {σ σ':Nat→Option Nat} {hf hf' h h':AH} {nx nx' sz:Nat} {rows:List (List T)} {asg N:List Nat} {oa:Option Nat} (h1:ObjR σ hf nx h (.rowsN sz rows asg) oa N) (hc:∀r∈rows,∀t∈r,Clean t) (hh:∀a∈N,h' a=h a):ObjR σ' hf' nx' h' (.rowsN sz rows asg) oa N:=by
 cases h1 with
 | noneN sz=>exact .noneN sz
 | rowsN hk hodd hlen hfit hs =>
  refine .rowsN ((hh _ (by simp)).trans hk) hodd hlen hfit ?_
  have h2:=SL.clean (hf':=fun _=>Option.none) hs (fun t ht=>by
   obtain ⟨r,hr,htr⟩:=List.mem_flatten.1 ht
   exact hc r hr t htr)
  exact h2.mono (fun _ _ e=>(by cases e)) (fun a ha=>hh a (by simp [ha]))
theorem ObjR.namesN {σ:Nat→Option Nat} {hf h:AH} {nx sz:Nat} {rows:List (List T)} {asg N:List Nat} {oa:Option Nat} (h1:ObjR σ hf nx h (.rowsN sz rows asg) oa N):∀a∈N,h a≠Option.none:=by
 cases h1 with
 | noneN sz=>intro a ha;cases ha
 | rowsN hk hodd hlen hfit hs =>
  intro a ha
  rcases List.mem_cons.1 ha with rfl | ha
  ·rw [hk];simp
  ·exact hs.names a ha
theorem LoanM.intro {P:Program} {f:FuncId} {fn:Func} {c:Code} {n:Nat} {ts:List T} {r:T} {L L':LO} {rs:List ResultVar} (pins:List (Nat×T)) (hf:P.funcs[f]? =some fn) (hb:fn.body=some c) (hc:ZZ fn.ntmps c=true) (hrs:fn.results.toList=rs) (hL:L'.length=L.length) (hp1:∀x∈pins,noW x.1 c=true∧ts[x.1]? =some x.2) (hp2:∀k,k<L.length→∃x∈pins,PinK k x.2) (hr0:PRes r) (hcl:∀x∈L',∀r∈x.2,∀t∈r,Clean t) {E0:Zc} (hE:Qep 0 ts=E0)
  (hr:∀asg,VRun (Qs P n) P c E0 (loO asg 0 L) L.length (vloanM P rs pins L' asg r)) (hpr:QcF f=true:=by rfl):LoanM (Qs P (n+1)) f L ts r L':=by
 subst hE
 intro asg h p hfz σ own vs hfp hfN hown hO hvs
 classical
 let hb0:AH:=fun b=>if own b≠none then none else h b
 have hb1:∀b,own b=none→hb0 b=h b:=fun b hb=>if_neg (by simp [hb])
 have hb2:∀b,own b≠none→hb0 b=none:=fun b hb=>if_pos hb
 have hb3:∀b o,hb0 b=some o→own b=none∧h b=some o:=fun b o hb=>by
  by_cases hm:own b=none
  ·exact ⟨hm,(hb1 b hm).symm.trans hb⟩
  ·rw [hb2 b hm] at hb;cases hb
 have hsub:∀b o,hfz b=some o→hb0 b=some o:=fun b o hb=>(hb1 b (hfN b o hb).2).trans (hfN b o hb).1
 have hs0:SR p ⟨hb0,fun b=>own b≠none⟩ σ hb0 own (Qep 0 ts) (loO asg 0 L) L.length (fun t=>vs.getD t undef) h:=by
  refine ⟨fun t=> ?_,fun k o hk=> ?_,fun a o ha=>⟨(hb3 a o ha).2,(hb3 a o ha).1⟩,fun a k ha=> ?_,fun _ _=>rfl,fun t ht=> ?_⟩
  ·rw [Qdh,if_neg (by omega),Nat.sub_zero]
   rcases Nat.lt_or_ge t ts.length with h1 | h1
   ·exact (hvs.2 t h1).mono hsub (Nat.le_refl _) (fun _ _=>rfl)
   ·rw [List.getD_eq_getElem?_getD,List.getElem?_eq_none h1]
    exact .any _
  ·rw [QkW,if_pos (Nat.zero_le _),Nat.sub_zero] at hk
   obtain ⟨x,hx,rfl⟩:=Option.map_eq_some_iff.1 hk
   obtain ⟨N,g1,g2,g3⟩:=hO k x hx
   exact ⟨(List.getElem?_eq_some_iff.1 hx).1,N,g1,g2,g3.mono hsub (Nat.le_refl _) (fun _ _=>rfl) (fun _ _=>rfl)⟩
  ·have h1:own a≠none:=by rw [ha];simp
   exact ⟨.inr h1,hb2 a h1,(hown a k ha).1,(hown a k ha).2⟩
  ·by_cases hm:own t=none
   ·exact .inl (by show hb0 t≠none;rw [hb1 t hm];exact ht)
   ·exact .inr (.inr hm)
 have hr1:=hr asg
 unfold VRun at hr1
 have hrun:=hr1 p _ σ _ _ _ h 0 hs0
 have hrun2:Run (Qs P n) P p c ⟨fun t=>vs.getD t undef,h,0⟩ (fun e s=>KK p ⟨hb0,fun b=>own b≠none⟩ (vloanM P rs pins L' asg r e) s.E s.h∧∀x∈pins,s.E x.1=vs.getD x.1 undef):=by
  unfold Run at hrun ⊢
  intro hfc
  obtain ⟨e,s',h1,h2,h3⟩:=hrun hfc
  exact ⟨e,s',h1,h2,h3,fun x hx=>Ys _ _ _ _ (hp1 x hx).1 h1⟩
 refine CallS.intro (hpr:=hpr) (rs:=rs) hf hb hc hfp hrs (Run.mono hrun2 ?_)
 rintro e s' ⟨⟨σ',hf',own',E,O,nx,h1,h2⟩,h0⟩
 have key:(∃(f:Nat→Nat) (us:List T),VRes P E O rs us∧QdR us=r∧(∀x∈pins,gE E x.1=ren f x.2)∧finO O f asg 0 L')→∃l,Qat P s'.h s'.E rs=some l∧(fun v h'=>(∀b,h b≠none→own b=none→h' b=h b)∧(∃hf2,V σ hf2 L.length r v)∧∀k x,L'[k]? =some x→∃N,N.Nodup∧(∀a∈N,own a=some k)∧ObjR σ hfz L.length h' (.rowsN x.1 x.2 (asg k)) (σ k) N) (Jc l) (if Zk (Jc l) then YW h s'.h else QbH p h s'.h):=by
  rintro ⟨f,us,g1,g2,g3,g4⟩
  obtain ⟨l,l1,l2⟩:=g1.run h1
  have g5:V σ' hf' nx (QdR us) (Jc l):=by
   have hlen:=l2.1
   match us,l,l2,hlen with
   | [],[],g4,_=>exact g4.toTup
   | [t],[v],g4,_ =>
    obtain ⟨v',r',e,g6,_⟩:=g4.tail
    cases e
    exact g6
   | t::t'::us,v::v'::l,g4,_=>exact g4.toTup
   | [],_::_,_,hl=>cases hl
   | [_],[],_,hl=>cases hl
   | [_],_::_::_,_,hl=>cases hl
   | _::_::_,[],_,hl=>cases hl
   | _::_::_,[_],_,hl=>cases hl
  rw [g2] at g5
  have hbase:∀a o,hb0 a=some o→hf' a=some o:=fun a o ha=>by
   have e3:hf' a=hb0 a:=h1.base a (by show hb0 a≠none;rw [ha];simp)
   rw [e3,ha]
  have hσ:∀k,k<L.length→σ' (f k)=σ k:=fun k hk=>by
   obtain ⟨x,hx,hpk⟩:=hp2 k hk
   have e1:=(hp1 x hx).2
   have hjl:=(List.getElem?_eq_some_iff.1 e1).1
   have p1:=hvs.2 x.1 hjl
   rw [List.getD_eq_getElem?_getD,e1] at p1
   have p2:=h1.env x.1
   rw [g3 x hx,h0 x hx] at p2
   exact hpk.same p1 p2
  have hold:∀b,h b≠none→(if Zk (Jc l) then YW h s'.h else QbH p h s'.h) b=s'.h b:=fun b hb=>by
   split
   ·unfold YW
    cases hh:h b with
    | none=>exact absurd hh hb
    | some o=>rfl
   ·exact QeJ (.inl hb)
  refine ⟨l,l1,fun b hb hbN=> ?_,⟨hf', .fz (hr0.R g5 _)⟩,fun k x hx=> ?_⟩
  ·rw [hold b hb]
   obtain ⟨o,ho⟩:=Option.ne_none_iff_exists'.1 hb
   rw [(h1.fro b o (hbase b o ((hb1 b hbN).trans ho))).1,ho]
  ·have hkl:k<L.length:=by rw [← hL];exact (List.getElem?_eq_some_iff.1 hx).1
   obtain ⟨N,n1,n2,n3⟩:=hO k _ (List.getElem?_eq_getElem hkl)
   have g6:=finO.at k g4 hx
   rw [Nat.zero_add] at g6
   obtain ⟨M,m1,m2,m3⟩:=h1.objAt g6
   rw [hσ k hkl] at m3
   have hMN:M=N:=by
    rcases n3.nameN with ⟨q1,rfl,q2⟩ | ⟨a,q1,rfl⟩
    ·rcases m3.nameN with ⟨_,rfl,_⟩ | ⟨a',q3,_⟩
     ·rfl
     ·rw [q1] at q3;cases q3
    ·rcases m3.nameN with ⟨q3,_,_⟩ | ⟨a',q3,rfl⟩
     ·rw [q1] at q3;cases q3
     ·rw [q1] at q3;rw [Option.some.inj q3]
   subst hMN
   exact ⟨M,n1,n2,m3.moveN (hcl x (List.mem_of_getElem? hx)) (fun a ha=>hold a (hown a k (n2 a ha)).1)⟩
 cases e with
 | normal=>unfold fin;exact key h2
 | ret=>unfold fin;exact key h2
 | exit id=>exact h2.elim
def ix : List Nat→Nat→Option Nat
 | [],_=>none
 | a::r,k=>if k=a then some 0 else (ix r k).map (· +1)
theorem Qcj : ∀ {ks:List Nat} {k n:Nat},ix ks k=some n→ks[n]? =some k
 | [],k,n,h=>by cases h
 | a::r,k,n,h=>by
  simp only [ix] at h
  split at h
  ·rename_i e
   obtain rfl:=Option.some.inj h
   simp [e]
  ·obtain ⟨m,h1,rfl⟩:=Option.map_eq_some_iff.1 h
   simpa using Qcj h1
theorem QmU : ∀ {ks:List Nat} {k n:Nat},ks.Nodup→ks[n]? =some k→ix ks k=some n
 | [],k,n,_,h=>by simp at h
 | a::r,k,0,_,h=>by
  obtain rfl:a=k:=by simpa using h
  simp [ix]
 | a::r,k,n+1,hn,h=>by
  have h1:r[n]? =some k:=by simpa using h
  have h2:=List.nodup_cons.1 hn
  have h3:¬k=a:=fun e=>h2.1 (e▸List.mem_of_getElem? h1)
  simp only [ix,if_neg h3,QmU h2.2 h1,Option.map_some]
def isR : Obj→Nat×List (List T)→Prop
 | .rows sz rows,x=>x=(sz,rows)
 | .rowsN sz rows _,x=>x=(sz,rows)
 | _,_=>False
def Qmm : Obj→Nat×List (List T)→Obj
 | .rows _ _,x=> .rows x.1 x.2
 | .rowsN _ _ asg,x=> .rowsN x.1 x.2 asg
 | o,_=>o
theorem isR.toN {σ:Nat→Option Nat} {hf h:AH} {nx:Nat} {o:Obj} {x:Nat×List (List T)} {oa:Option Nat} {N:List Nat} (ho:isR o x) (h1:ObjR σ hf nx h o oa N):∃asg,ObjR σ hf nx h (.rowsN x.1 x.2 asg) oa N∧∀ {σ':Nat→Option Nat} {hf' h':AH} {nx':Nat} {y:Nat×List (List T)},ObjR σ' hf' nx' h' (.rowsN y.1 y.2 asg) oa N→ObjR σ' hf' nx' h' (Qmm o y) oa N:=by
 cases h1 with
 | rows hk hodd hlen hfit hs =>
  obtain rfl:x=_:=ho
  refine ⟨_, .rowsN hk hodd hlen hfit hs,fun {σ' hf' h' nx' y} h2=> ?_⟩
  obtain ⟨sz',rows'⟩:=y
  cases h2 with
  | rowsN hk hodd hlen hfit hs=>exact .rows hk hodd hlen hfit hs
 | none sz =>
  obtain rfl:x=_:=ho
  refine ⟨_, .noneN sz,fun {σ' hf' h' nx' y} h2=> ?_⟩
  obtain ⟨sz',rows'⟩:=y
  cases h2 with
  | noneN sz=>exact ObjR.none _
 | rowsN hk hodd hlen hfit hs =>
  obtain rfl:x=_:=ho
  exact ⟨_, .rowsN hk hodd hlen hfit hs,fun h2=>h2⟩
 | noneN sz =>
  obtain rfl:x=_:=ho
  exact ⟨_, .noneN sz,fun h2=>h2⟩
 | cells hk hodd hv=>exact (show False from ho).elim
 | map hk hodd g1 g2=>exact (show False from ho).elim
def Qka : QB→List Nat→LO→List Obj→QB
 | O,k::ks,x::r,o::os=>Qka ((k,some (Qmm o x))::O) ks r os
 | O,_,_,_=>O
theorem QjT (q:Nat):∀ {ks:List Nat} {L:LO} {os:List Obj} {O:QB},ks.Nodup→L.length=ks.length→os.length=ks.length→gO (Qka O ks L os) q=match ix ks q with
  | some n=>(match L[n]?,os[n]? with | some x,some o=>some (Qmm o x) | _,_=>none)
  | none=>gO O q
 | [],L,os,O,_,hl,ho=>by
  cases L with
  | nil=>simp [Qka,ix]
  | cons x r=>cases hl
 | k::ks,[],os,O,_,hl,ho=>by cases hl
 | k::ks,x::r,[],O,_,hl,ho=>by cases ho
 | k::ks,x::r,o::os,O,hn,hl,ho=>by
  have hn2:=List.nodup_cons.1 hn
  rw [Qka,QjT q hn2.2 (by simpa using hl) (by simpa using ho)]
  simp only [ix]
  by_cases hq:q=k
  ·subst hq
   have:ix ks q=none:=by
    cases hx:ix ks q with
    | none=>rfl
    | some n=>exact absurd (List.mem_of_getElem? (Qcj hx)) hn2.1
   simp [this,gO]
  ·rw [if_neg hq]
   cases hx:ix ks q with
   | none=>simp [gO,hq]
   | some n=>simp
def hosL (O:QB):List Nat→List Obj→LO→Prop
 | [],[],[]=>True
 | k::ks,o::os,x::L=>(gO O k=some o∧isR o x)∧hosL O ks os L
 | _,_,_=>False
theorem hosL.len {O:QB}:∀ {ks:List Nat} {os:List Obj} {L:LO},hosL O ks os L→L.length=ks.length∧os.length=ks.length
 | [],[],[],_=>⟨rfl,rfl⟩
 | k::ks,o::os,x::L,h=>by
  obtain ⟨h1,h2⟩:=hosL.len h.2
  exact ⟨by simp [h1],by simp [h2]⟩
 | [],_::_,_,h=>h.elim
 | [],[],_::_,h=>h.elim
 | _::_,[],_,h=>h.elim
 | _::_,_::_,[],h=>h.elim
theorem hosL.at {O:QB}:∀ {ks:List Nat} {os:List Obj} {L:LO},hosL O ks os L→∀n k:Nat,ks[n]? =some k→∃(o:Obj) (x:Nat×List (List T)),os[n]? =some o∧L[n]? =some x∧gO O k=some o∧isR o x
 | [],_,_,_,n,k,e=>by simp at e
 | k::ks,o::os,x::L,h,0,k',e=>by
  obtain rfl:k=k':=by simpa using e
  exact ⟨o,x,rfl,rfl,h.1.1,h.1.2⟩
 | k::ks,o::os,x::L,h,n+1,k',e=>by
  obtain ⟨o',x',e1,e2,e3⟩:=hosL.at h.2 n k' (by simpa using e)
  exact ⟨o',x',by simpa using e1,by simpa using e2,e3⟩
 | _::_,[],_,h,_,_,_=>h.elim
 | _::_,_::_,[],h,_,_,_=>h.elim
def PinsTo (pins:List (Nat×T)):Nat→Prop
 | 0=>True
 | n+1=>PinsTo pins n∧∃x∈pins,PinK n x.2
theorem PinsTo.at {pins:List (Nat×T)}:∀ {m:Nat},PinsTo pins m→∀k,k<m→∃x∈pins,PinK k x.2
 | 0,_,k,h=>by omega
 | m+1,h,k,hk=>by
  by_cases e:k=m
  ·subst e;exact h.2
  ·exact PinsTo.at h.1 k (by omega)
theorem OC.viaN {call:QO} {P:Program} {E:Zc} {O O1:QB} {nx nx' k sz:Nat} {o:Oper} {t:T} {rows rows':List (List T)} {asg ks:List Nat} (hk:gO O k=some (.rowsN sz rows asg)) (hsc:scR rows) (hsc':scR rows')
  (h:OC call P E ((k,some (.rows sz rows))::O) nx o t ((k,some (.rows sz rows'))::O1) nx' ks):OC call P E O nx o t ((k,some (.rowsN sz rows' asg))::O1) nx' ks:=⟨h.1,fun q p h0 σ hf own Ea H hs hu hF=>by
 obtain ⟨N,hN1,hN2,h3⟩:=hs.objAt hk
 have hasg:asg= []:=by
  generalize σ k=oa at h3
  cases h3 with
  | noneN=>rfl
  | rowsN hh hodd hlen hfit hsl=>exact hsl.sc hsc.flat
 subst hasg
 have hs':SR p h0 σ hf own E ((k,some (.rows sz rows))::O) nx Ea H:=⟨hs.env,fun k2 o2 h2=>by
  by_cases e:k2=k
  ·subst e
   rw [Qly] at h2
   obtain rfl:=Option.some.inj h2
   refine ⟨(hs.obj _ _ hk).1,N,hN1,hN2,?_⟩
   generalize σ k2=oa at h3 ⊢
   cases h3 with
   | noneN=>exact .none _
   | rowsN hh hodd hlen hfit hsl=>exact .rows hh hodd hlen hfit hsl
  ·rw [QiT _ (by simpa using e)] at h2
   exact hs.obj k2 o2 h2,hs.fro,hs.mine,hs.base,hs.dom⟩
 obtain ⟨v,h',σ',own',e1,e2,e3,e4,e5⟩:=h.2 q p h0 σ hf own Ea H hs' hu hF
 refine ⟨v,h',σ',own',e1,e2,e3,⟨e4.env,fun k2 o2 h2=> ?_,e4.fro,e4.mine,e4.base,e4.dom⟩,e5⟩
 by_cases e:k2=k
 ·subst e
  rw [Qly] at h2
  obtain rfl:=Option.some.inj h2
  obtain ⟨f1,N',f2,f3,f4⟩:=e4.obj k2 _ (Qly _ _ _)
  refine ⟨f1,N',f2,f3,?_⟩
  generalize hσk:σ' k2=oa at f4 ⊢
  cases f4 with
  | none=>exact .noneN _
  | rows hh hodd hlen hfit hsl =>
   have:=hsl.sc hsc'.flat
   subst this
   exact .rowsN hh hodd hlen hfit hsl
 ·rw [QiT _ (by simpa using e)] at h2
  exact e4.obj k2 o2 (by rw [QiT _ (by simpa using e)];exact h2)⟩
section
variable {call : QO} {P : Program} {E : Zc} {O : QB} {d : Option Tmp} {ty : TypeId} {ps : String} {af : Array Edge} {g : Option (Nat × Bool)} {nx : Nat}
theorem OC.callM {f:FuncId} {args:Array Operand} {tys:Array TypeId} {ts0 ts:List T} {ks:List Nat} {r:T} {L L':LO} {os:List Obj} {O':QB} (hb:YA P f=true) (ha:VEvs E args.toList ts0) (hkn:ks.Nodup) (hkl:L.length=ks.length) (hol:os.length=ks.length) (hL':L'.length=ks.length) (hos:∀n k:Nat,ks[n]? =some k→∃(o:Obj) (x:Nat×List (List T)),os[n]? =some o∧L[n]? =some x∧gO O k=some o∧isR o x) (hcl0:∀x∈L,∀r∈x.2,∀t∈r,Clean t) (hcl:∀x∈L',∀r∈x.2,∀t∈r,Clean t) (hts:QaO (fun n=>ks.getD n 0) ts=ts0) (htl:YJ ks.length ts=true) (hr0:PRes r) (hO':Qka O ks L' os=O') (hp:LoanM call f L ts r L') :
  OC call P E O nx ⟨d, .call ⟨.value (.func f),args,tys⟩,ty,ps,af,g⟩ r O' nx ks:=⟨Nat.le_refl _,fun q p h0 σ hf own Ea h hs hu hF=>by
 subst hts
 subst hO'
 classical
 obtain ⟨vs,h1,h2⟩:=ha σ hf nx Ea hs.env
 have key:∀n:Nat,∃w:List Nat×List Nat,∀k:Nat,ks[n]? =some k→∃(o:Obj) (x:Nat×List (List T)),os[n]? =some o∧L[n]? =some x∧k<nx∧w.2.Nodup∧(∀a∈w.2,own a=some k)∧ObjR σ hf nx h (.rowsN x.1 x.2 w.1) (σ k) w.2∧∀ {σ':Nat→Option Nat} {hf' h':AH} {nx':Nat} {y:Nat×List (List T)},ObjR σ' hf' nx' h' (.rowsN y.1 y.2 w.1) (σ k) w.2→ObjR σ' hf' nx' h' (Qmm o y) (σ k) w.2:=fun n=>by
  cases hk:ks[n]? with
  | none=>exact ⟨([],[]),fun k e=>by cases e⟩
  | some k =>
   obtain ⟨o,x,e1,e2,e3,e4⟩:=hos n k hk
   obtain ⟨hkx,N,n1,n2,n3⟩:=hs.obj k o e3
   obtain ⟨asg,g1,g2⟩:=e4.toN n3
   refine ⟨(asg,N),fun k' e=> ?_⟩
   obtain rfl:=Option.some.inj e
   exact ⟨o,x,e1,e2,hkx,n1,n2,g1,g2⟩
 obtain ⟨W,has⟩:=Classical.skolem.1 key
 have hgk:∀n k:Nat,ks[n]? =some k→ks.getD n 0=k:=fun n k e=>by rw [List.getD_eq_getElem?_getD,e];rfl
 have hl:VL (fun n=>σ (ks.getD n 0)) hf L.length ts vs:=by
  refine ⟨by have:=h2.1;rw [ZK,List.length_map] at this;exact this,fun i hi=> ?_⟩
  have h6:=h2.2 i (by rw [ZK,List.length_map];exact hi)
  refine V.ren (σ':=fun n=>σ (ks.getD n 0)) (nx':=L.length) (fun _ _=>rfl) h6 ?_ ?_
  ·rw [ZK]
   simp [List.getD_eq_getElem?_getD,hi]
  ·rw [Y3,List.all_eq_true] at htl
   rw [hkl]
   refine htl _ ?_
   rw [List.getD_eq_getElem?_getD,List.getElem?_eq_getElem hi]
   exact List.getElem_mem hi
 have h6:=hp (fun n=>(W n).1) h q hf (fun n=>σ (ks.getD n 0)) (fun b=>(own b).bind fun k=>(ix ks k).bind fun n=>if b∈(W n).2 then some n else none) vs hF (fun b o hb=>⟨(hs.fro b o hb).1,by simp only [(hs.fro b o hb).2,Option.bind_none]⟩) (fun b n hb=>by
  obtain ⟨k,e1,e2⟩:=Option.bind_eq_some_iff.1 hb
  obtain ⟨m,e3,e4⟩:=Option.bind_eq_some_iff.1 e2
  split at e4
  ·obtain rfl:=Option.some.inj e4
   exact ⟨(hs.mine b k e1).2.2.1,by rw [hkl];exact (List.getElem?_eq_some_iff.1 (Qcj e3)).1⟩
  ·cases e4) (fun n x hx=>by
  have hnl:n<ks.length:=by rw [← hkl];exact (List.getElem?_eq_some_iff.1 hx).1
  have hk:=List.getElem?_eq_getElem hnl
  obtain ⟨o,x',e1,e2,e3,e4,e5,e6,e7⟩:=has n _ hk
  obtain rfl:x=x':=by rw [hx] at e2;exact Option.some.inj e2
  refine ⟨(W n).2,e4,fun a ha=>by simp only [e5 a ha,Option.bind_some,QmU hkn hk,if_pos ha],?_⟩
  show ObjR _ hf _ h _ (σ (ks.getD n 0)) _
  rw [hgk n _ hk]
  exact e6.moveN (hcl0 x (List.mem_of_getElem? hx)) (fun _ _=>rfl)) hl
 unfold CallS at h6
 obtain ⟨v,h',k1,k2,k3,⟨hf2,k4⟩,k5⟩:=h6
 have hfree:∀b,h b≠none→(∀k n,own b=some k→ix ks k=some n→b∉(W n).2)→h' b=h b:=fun b hb hn=>k3 b hb (by
  cases ho:own b with
  | none=>rfl
  | some k =>
   simp only [Option.bind_some]
   cases hx:ix ks k with
   | none=>rfl
   | some n=>simp only [Option.bind_some];rw [if_neg (hn k n ho hx)])
 refine ⟨v,h',σ,own,by simp only [QD,X.calls hb h1,k1],k2,fun _ _=>rfl,⟨hs.env,fun k' o hk'=> ?_,fun b o hb=> ?_,fun b k' hb=> ?_,hs.base,fun t ht=> ?_⟩, .fz (hr0.R k4 _),fun b hb hnk=>hfree b hb (fun k n e e2=>absurd e (hnk k (List.mem_of_getElem? (Qcj e2)))),fun b k' e=> .inl e⟩
 ·rw [QjT k' hkn hL' hol] at hk'
  cases hx:ix ks k' with
  | none =>
   rw [hx] at hk'
   obtain ⟨m1,N2,m2,m3,m4⟩:=hs.obj k' o hk'
   exact ⟨m1,N2,m2,m3,m4.mono (fun _ _ e=>e) (Nat.le_refl _) (fun _ _=>rfl) (fun b hb=>hfree b (hs.mine b k' (m3 b hb)).2.2.1 (fun k n e e2=>by rw [m3 b hb] at e;obtain rfl:=Option.some.inj e;rw [hx] at e2;cases e2))⟩
  | some n =>
   rw [hx] at hk'
   have hk:=Qcj hx
   obtain ⟨o1,x,e1,e2,e3,e4,e5,e6,e7⟩:=has n k' hk
   have hnl:=(List.getElem?_eq_some_iff.1 hk).1
   have e8:=List.getElem?_eq_getElem (show n<L'.length by rw [hL'];exact hnl)
   simp only [e8,e1] at hk'
   obtain rfl:=Option.some.inj hk'
   obtain ⟨N',n1,n2,n3⟩:=k5 n _ e8
   simp only [hgk n _ hk] at n3
   have hNN:N'=(W n).2:=by
    rcases e6.nameN with ⟨q1,q3,q2⟩ | ⟨a,q1,q2⟩
    ·rcases n3.nameN with ⟨_,rfl,_⟩ | ⟨a',q4,_⟩
     ·exact q3.symm
     ·rw [q1] at q4;cases q4
    ·rcases n3.nameN with ⟨q3,_,_⟩ | ⟨a',q3,rfl⟩
     ·rw [q1] at q3;cases q3
     ·rw [q1] at q3;rw [q2,Option.some.inj q3]
   rw [hNN] at n3
   exact ⟨e3,(W n).2,e4,e5,e7 (n3.moveN (hcl _ (List.mem_of_getElem? e8)) (fun _ _=>rfl))⟩
 ·obtain ⟨m1,m2⟩:=hs.fro b o hb
  refine ⟨?_,m2⟩
  rw [hfree b (by rw [m1];simp) (fun k n e _=>by rw [m2] at e;cases e)]
  exact m1
 ·obtain ⟨m1,m2,m3,m4⟩:=hs.mine b k' hb
  refine ⟨m1,m2,?_,m4⟩
  by_cases hbm:∃n,ix ks k'=some n∧b∈(W n).2
  ·obtain ⟨n,hx,hbm⟩:=hbm
   have hk:=Qcj hx
   have hnl:=(List.getElem?_eq_some_iff.1 hk).1
   have e8:=List.getElem?_eq_getElem (show n<L'.length by rw [hL'];exact hnl)
   obtain ⟨o1,x,e1,e2,e3,e4,e5,e6,e7⟩:=has n k' hk
   obtain ⟨N',n1,n2,n3⟩:=k5 n _ e8
   simp only [hgk n _ hk] at n3
   have hNN:N'=(W n).2:=by
    rcases e6.nameN with ⟨q1,q3,q2⟩ | ⟨a,q1,q2⟩
    ·rcases n3.nameN with ⟨_,rfl,_⟩ | ⟨a',q4,_⟩
     ·exact q3.symm
     ·rw [q1] at q4;cases q4
    ·rcases n3.nameN with ⟨q3,_,_⟩ | ⟨a',q3,rfl⟩
     ·rw [q1] at q3;cases q3
     ·rw [q1] at q3;rw [q2,Option.some.inj q3]
   exact n3.namesN b (by rw [hNN];exact hbm)
  ·rw [hfree b m3 (fun k n e e2 hm=>hbm ⟨n,by rw [hb] at e;rw [Option.some.inj e];exact e2,hm⟩)]
   exact m3
 ·rcases k2 t ht with e | e
  ·exact hs.dom t e
  ·exact .inr (hu t e)⟩
theorem OC.callL {f:FuncId} {args:Array Operand} {tys:Array TypeId} {ts0 ts:List T} (ks:List Nat) {r:T} {L:LO} (L':LO) (os:List Obj) (hb:YA P f=true) (ha:VEvs E args.toList ts0) (hkn:ks.Nodup) (hL':L'.length=ks.length) (hos:hosL O ks os L) (hcl0:∀x∈L,∀r∈x.2,∀t∈r,Clean t) (hcl:∀x∈L',∀r∈x.2,∀t∈r,Clean t) (hts:QaO (fun n=>ks.getD n 0) ts=ts0) (htl:YJ ks.length ts=true) (hr0:PRes r) (hp:LoanM call f L ts r L') :
  OC call P E O nx ⟨d, .call ⟨.value (.func f),args,tys⟩,ty,ps,af,g⟩ r (Qka O ks L' os) nx ks:=OC.callM hb ha hkn hos.len.1 hos.len.2 hL' hos.at hcl0 hcl hts htl hr0 Y hp
end
section
variable {α : Type}
def mkL (f:Nat→α→α) (w:α→Nat):Nat→List α→List α
 | _,[]=> []
 | k,x::r=>f k x::mkL f w (k+w x) r
def JL (w:α→Nat):Nat→List α→Nat
 | k,[]=>k
 | k,x::r=>JL w (k+w x) r
variable {f : Nat → α → α} {w : α → Nat}
theorem Qbw : ∀(k:Nat) (l:List α),(mkL f w k l).length=l.length
 | k,[]=>rfl
 | k,x::r=>by simp only [mkL,List.length_cons,Qbw (k+w x) r]
theorem Qhc : ∀(k:Nat) (l m:List α),JL w k (l++m)=JL w (JL w k l) m
 | k,[],m=>rfl
 | k,x::r,m=>by simp only [List.cons_append,JL,Qhc (k+w x) r m]
theorem QjK : ∀(k:Nat) (l m:List α),mkL f w k (l++m)=mkL f w k l++mkL f w (JL w k l) m
 | k,[],m=>rfl
 | k,x::r,m=>by simp only [List.cons_append,mkL,JL,QjK (k+w x) r m]
theorem Qlq : ∀(k:Nat) (l:List α),k≤JL w k l
 | k,[]=>Nat.le_refl _
 | k,x::r=>Nat.le_trans (Nat.le_add_right _ _) (Qlq (k+w x) r)
theorem Qlw {l:List α} {i k:Nat} {x:α} (h:l[i]? =some x):JL w k (l.take (i+1))=JL w k (l.take i)+w x:=by
 rw [List.take_add_one,h,Option.toList_some,Qhc]
 rfl
theorem Qiu (k:Nat) (l:List α) (i:Nat):JL w k (l.take i)≤JL w k l:=by
 have h:JL w k (l.take i++l.drop i)=JL w (JL w k (l.take i)) (l.drop i):=Qhc _ _ _
 rw [List.take_append_drop] at h
 rw [h]
 exact Qlq _ _
def mkT (f:Nat→α→α) (w:α→Nat) (k:Nat) (l:List α) (i:Nat):List α:=mkL f w k (l.take i)++l.drop i
theorem QeN (k:Nat) (l:List α) (i:Nat):(mkT f w k l i).length=l.length:=by
 unfold mkT
 rw [List.length_append,Qbw,List.length_take,List.length_drop];omega
theorem Qnd {k:Nat} {l:List α} {i:Nat} {x:α} (hi:i<l.length) (h:(mkT f w k l i)[i]? =some x):l[i]? =some x:=by
 unfold mkT at h
 rw [List.getElem?_append_right (by rw [Qbw,List.length_take];omega),Qbw,List.length_take,Nat.min_eq_left (by omega),Nat.sub_self,List.getElem?_drop,Nat.add_zero] at h
 exact h
theorem QmJ {k:Nat} {l:List α} {i:Nat} {x y:α} (h:l[i]? =some x) (hy:y=f (JL w k (l.take i)) x):(mkT f w k l i).set i y=mkT f w k l (i+1):=by
 have hi:=(List.getElem?_eq_some_iff.1 h).1
 subst hy
 unfold mkT
 rw [List.set_append_right _ _ (by rw [Qbw,List.length_take];omega),Qbw,List.length_take,Nat.min_eq_left (by omega),Nat.sub_self,List.drop_eq_getElem_cons hi,List.set_cons_zero,List.take_add_one,h,Option.toList_some,QjK]
 simp [mkL]
theorem Qll {k:Nat} {l:List α} {i:Nat} (h:¬i<l.length):mkT f w k l i=mkL f w k l:=by
 unfold mkT
 rw [List.take_of_length_le (by omega),List.drop_of_length_le (by omega),List.append_nil]
theorem Qie (hw:∀k x,w (f k x)=w x):∀(k k2:Nat) (l:List α),JL w k (mkL f w k2 l)=JL w k l
 | k,k2,[]=>rfl
 | k,k2,x::r=>by simp only [mkL,JL,hw,Qie hw (k+w x) (k2+w x) r]
theorem Qjp (hw:∀x,1≤w x):∀(k:Nat) (l:List α),k+l.length≤JL w k l
 | k,[]=>Nat.le_refl _
 | k,x::r=>by
  have h1:=Qjp hw (k+w x) r
  have h2:=hw x
  simp only [JL,List.length_cons]
  omega
theorem Qli {z:α→Nat} {c:Nat} (hw:∀x,w x≤c*(1+z x)):∀(k:Nat) (l:List α),JL w k l≤k+c*zL z l
 | k,[]=>Nat.le_add_right _ _
 | k,x::r=>by
  have h1:=Qli hw (k+w x) r
  have h2:=hw x
  have e:zL z (x::r)=(1+z x)+zL z r:=by simp only [zL,QaV,List.length_cons];omega
  rw [e,Nat.mul_add]
  simp only [JL]
  omega
end
theorem Qo7 {P:Program} {t:TypeId} {xo yo:Operand} {k k2:IntKind} {a b:Int} (h:0≤b):Ye P .shl t xo yo (.int k a) (.int k2 b)=some (.int k (k.wrap (a*2 ^ (min b.toNat k.bits)))):=by
 have:¬b<0:=by omega
 simp [Ye,aeq,QbF,closedV,closed1,eqGuard,binOp,ZW,Op.shift,Qbk,this]
theorem B.storeW {call:QO} {P:Program} {E:Zc} {O:QB} {nx:Nat} {d:Option Tmp} {ty tt:TypeId} {ps:String} {af:Array Edge} {g:Option (Nat×Bool)} {x y:Operand} {t:T} {k:Nat} {ts us:List T} (hx:VEv E x (.op k 0)) (hy:VEv E y t) (ht:t≠ .any) (hk:gO O k=some (.cells ts)) (hus:Zi t=us) (hl:us.length=ts.length) (hif:(P.info? tt).isSome=true) (hn:P.cellsOf tt=us.length) (hc:∀a∈us,JR a=true) :
  OC call P E O nx ⟨d, .store tt x y,ty,ps,af,g⟩ .any ((k,some (.cells us))::O) nx [k]:=B.storeO hx hy ht hk hus (by omega) hif hn hc (by simp [spl,hl])
def QmE (k:IntKind) (a b:Int):Int:=a.fdiv (2 ^ (min b.toNat k.bits))
theorem QnW {P:Program} {t:TypeId} {xo yo:Operand} {k k2:IntKind} {a b:Int} (h:0≤b):Ye P .shr t xo yo (.int k a) (.int k2 b)=some (.int k (QmE k a b)):=by
 have:¬b<0:=by omega
 simp [Ye,aeq,QbF,closedV,closed1,eqGuard,binOp,ZW,Op.shift,Qbk,this,QmE]
section
variable {call : QO} {P : Program} {E : Zc} {d : Option Tmp} {ty xt tt : TypeId} {ps : String} {af : Array Edge} {g : Option (Nat × Bool)} {x y : Operand} {k k2 : IntKind} {a b n : Int}
theorem B.shr (hx:VEv E x (.int k a)) (hy:VEv E y (.int k2 b)) (hb:0≤b) (he:QmE k a b=n):OF call P E ⟨d, .binOp .shr tt x y xt,ty,ps,af,g⟩ (.int k n):=he▸OF.bin hx hy (.int _ _) (.int _ _) (QnW hb) (.int _ _)
end
theorem Qdl {n:Nat}:QmE .u64 ((n:Nat):Int) 1=(((n / 2:Nat)):Int):=by
 show ((n:Nat):Int).fdiv (2 ^ (min (1:Int).toNat 64))=_
 rw [show (2:Int) ^ (min (1:Int).toNat 64)=2 from rfl,Int.fdiv_eq_ediv_of_nonneg _ (by decide)]
 omega
theorem QjL {n:Nat} (h:n<9223372036854775808):IntKind.u64.wrap ((n:Nat):Int)=((n:Nat):Int):=by
 rw [show IntKind.u64.wrap ((n:Nat):Int)=((n:Nat):Int) % 18446744073709551616 by simp [IntKind.wrap,IntKind.bits,IntKind.signed]]
 omega
section
variable {call : QO} {P : Program} {E : Zc} {O : QB} {nx : Nat} {S : AX → Zc → QB → Nat → Prop} {u v : Code} {c : Tmp}
theorem ct (h:gE E c= .bool true) (hx:VRun call P u E O nx S):VRun call P (.cond (.tmp c) u v) E O nx S:=VRun.cond (VEv.tmp h) (fun _=>hx) (fun e=>absurd e (by decide))
theorem cf (h:gE E c= .bool false) (hx:VRun call P v E O nx S):VRun call P (.cond (.tmp c) u v) E O nx S:=VRun.cond (VEv.tmp h) (fun e=>absurd e (by decide)) (fun _=>hx)
theorem ck {b:Bool} (hb:b=true) (h:gE E c= .bool b) (hx:VRun call P u E O nx S):VRun call P (.cond (.tmp c) u v) E O nx S:=ct (hb▸h) hx
theorem cg {b:Bool} (hb:b=false) (h:gE E c= .bool b) (hx:VRun call P v E O nx S):VRun call P (.cond (.tmp c) u v) E O nx S:=cf (hb▸h) hx
theorem vn : VEvs E [] []:= .nil
theorem ln : LendL O [] []:=LendL.nil
theorem Z8 : ∀ {ts:List T},ts.all J4=true→LendL O ts ts
 | [],_=>LendL.nil
 | t::r,h=>by
  simp only [List.all_cons,Bool.and_eq_true] at h
  exact LendL.cons (Lend.pl h.1) (Z8 h.2)
def Qm7 : List Nat→Bool
 | []=>true
 | a::r=> !(r.contains a) && Qm7 r
theorem nd : ∀ {l:List Nat},Qm7 l=true→l.Nodup
 | [],_=>List.nodup_nil
 | a::r,h=>by
  simp only [Qm7,Bool.and_eq_true] at h
  exact List.nodup_cons.2 ⟨by simpa using h.1,nd h.2⟩
end
section
variable {call : QO} {P : Program} {E : Zc} {O : QB} {d : Option Tmp} {ty tt xt : TypeId} {ps : String} {af : Array Edge} {g : Option (Nat × Bool)} {x y : Operand} {kk : IntKind} {a b : Int} {m n : Nat}
theorem xls (hx:VEv E x (.int kk a)) (hy:VEv E y (.int kk b)):OF call P E ⟨d, .binOp .lss tt x y xt,ty,ps,af,g⟩ (.bool (decide (a<b))):=B.lss hx hy Y
theorem xle (hx:VEv E x (.int kk a)) (hy:VEv E y (.int kk b)):OF call P E ⟨d, .binOp .leq tt x y xt,ty,ps,af,g⟩ (.bool (decide (a≤b))):=B.leq hx hy Y
theorem xgt (hx:VEv E x (.int kk a)) (hy:VEv E y (.int kk b)):OF call P E ⟨d, .binOp .gtr tt x y xt,ty,ps,af,g⟩ (.bool (decide (b<a))):=B.gtr hx hy Y
theorem xge (hx:VEv E x (.int kk a)) (hy:VEv E y (.int kk b)):OF call P E ⟨d, .binOp .geq tt x y xt,ty,ps,af,g⟩ (.bool (decide (b≤a))):=B.geq hx hy Y
theorem J6 (hx:VEv E x (.int kk a)) (hy:VEv E y (.int kk b)):OF call P E ⟨d, .binOp .eql tt x y xt,ty,ps,af,g⟩ (.bool (decide (a=b))):=B.eql hx hy Y
theorem xne (hx:VEv E x (.int kk a)) (hy:VEv E y (.int kk b)):OF call P E ⟨d, .binOp .neq tt x y xt,ty,ps,af,g⟩ (.bool (!decide (a=b))):=B.neq hx hy Y
theorem Q5 (hx:VEv E x (tN m)) (hy:VEv E y (tN n)):OF call P E ⟨d, .binOp .lss tt x y xt,ty,ps,af,g⟩ (.bool (decide (m<n))):=B.lss hx hy (Q8 (by omega))
theorem Qox (hx:VEv E x (tN m)) (hy:VEv E y (tN n)):OF call P E ⟨d, .binOp .leq tt x y xt,ty,ps,af,g⟩ (.bool (decide (m≤n))):=B.leq hx hy (Q8 (by omega))
theorem Qkc (hx:VEv E x (tN m)) (hy:VEv E y (tN n)):OF call P E ⟨d, .binOp .gtr tt x y xt,ty,ps,af,g⟩ (.bool (decide (n<m))):=B.gtr hx hy (Q8 (by omega))
theorem QoT (hx:VEv E x (tN m)) (hy:VEv E y (tN n)):OF call P E ⟨d, .binOp .geq tt x y xt,ty,ps,af,g⟩ (.bool (decide (n≤m))):=B.geq hx hy (Q8 (by omega))
theorem Qix (hx:VEv E x (tN m)) (hy:VEv E y (tN n)):OF call P E ⟨d, .binOp .eql tt x y xt,ty,ps,af,g⟩ (.bool (decide (m=n))):=B.eql hx hy (Q8 (by omega))
theorem QeX (hx:VEv E x (tN m)) (hy:VEv E y (tN n)):OF call P E ⟨d, .binOp .neq tt x y xt,ty,ps,af,g⟩ (.bool (!decide (m=n))):=B.neq hx hy (congrArg (!·) (Q8 (by omega)))
theorem Zd {b1:Bool} (hx:VEv E x (.bool b1)):OF call P E ⟨d, .unOp .not tt x,ty,ps,af,g⟩ (.bool (!b1)):=B.not hx Y
theorem Qx (hx:VEv E x (tN m)) (hy:VEv E y (.int .i64 1)) (h:m+1<9223372036854775808):OF call P E ⟨d, .binOp .add tt x y xt,ty,ps,af,g⟩ (tN (m+1)):=B.add hx hy (by rw [Qt (by omega)];omega)
theorem xcv {k0 kd:IntKind} {st dt:TypeId} {m:Int} (hx:VEv E x (.int k0 a)) (h1:P.underlying st=some (.int k0)) (h2:P.underlying dt=some (.int kd)) (he:kd.wrap a=m):OF call P E ⟨d, .convert st dt x,ty,ps,af,g⟩ (.int kd m):=he▸OF.convI hx h1 h2
theorem xix {s:ByteArray} (hx:VEv E x (.str s)) (hy:VEv E y (tN m)) (hi:m<s.size) (hu:P.underlying tt=some .string):OF call P E ⟨d, .index tt x y,ty,ps,af,g⟩ (.int .u8 (Qv s m)):=B.index hx hy Y hi hu (JP hi)
end
section
variable {call : QO} {P : Program} {ops : Array Oper} {l : List Oper} {E : Zc} {O : QB} {nx : Nat} {K : Zc → QB → Nat → Prop} {d1 a : Nat} {d2 : Option Tmp} {ty1 ty2 tt tt2 : TypeId} {ps1 ps2 : String} {af1 af2 : Array Edge} {j k o off : Nat} {us : List T}
theorem QeQ (E:Zc) (n:Nat) (t:T):gE ((n,t)::E) n=t:=by simp [gE]
theorem lf (t:T) (h:gE E a= .op k o) (fa:∀k o,Qf P tt (.pointer (some ⟨k,o,none⟩)) j=some (.pointer (some ⟨k,o+off,none⟩))) (hk:gO O k=some (.cells us)) (ht:us[o+off]? =some t) (hst:Qw P tt2=some false) (hK:VRunO call P ops l (pE ((d1, .op k (o+off))::E) d2 t) O nx K) :
  VRunO call P ops (⟨some d1, .fieldAddr tt (.tmp a) j,ty1,ps1,af1,none⟩::⟨d2, .load tt2 (.tmp d1),ty2,ps2,af2,none⟩::l) E O nx K:=fO (OF.fieldAddrO (VEv.tmp h) fa) (lO (OL.loadO1 (VEv.tmp (QeQ _ _ _)) hk ht hst) hK)
theorem lr (t:T) (h:gE E a= .rp us) (hn:off≤us.length) (fa:∀k o,Qf P tt (.pointer (some ⟨k,o,none⟩)) j=some (.pointer (some ⟨k,o+off,none⟩))) (ht:(us.drop off)[0]? =some t) (hst:Qw P tt2=some false) (hK:VRunO call P ops l (pE ((d1, .rp (us.drop off))::E) d2 t) O nx K) :
  VRunO call P ops (⟨some d1, .fieldAddr tt (.tmp a) j,ty1,ps1,af1,none⟩::⟨d2, .load tt2 (.tmp d1),ty2,ps2,af2,none⟩::l) E O nx K:=fO (B.fieldAddrR (VEv.tmp h) hn fa Y) (lO (OL.loadR1 (VEv.tmp (QeQ _ _ _)) ht hst) hK)
variable {i q : Nat} {w b : Bool} {t0 : T}
theorem Yu (t:T) (hb:b=w) (hd:(ops[i]?).bind (·.dst)=some q) (hq:gE E q= .bool b) (hne:(q == d1)=false) (h:gE E a= .op k o) (fa:∀k o,Qf P tt (.pointer (some ⟨k,o,none⟩)) j=some (.pointer (some ⟨k,o+off,none⟩))) (hk:gO O k=some (.cells us)) (ht:us[o+off]? =some t) (hst:Qw P tt2=some false) (hK:VRunO call P ops l (pE ((d1, .op k (o+off))::E) d2 t) O nx K) :
  VRunO call P ops (⟨some d1, .fieldAddr tt (.tmp a) j,ty1,ps1,af1,some (i,w)⟩::⟨d2, .load tt2 (.tmp d1),ty2,ps2,af2,some (i,w)⟩::l) E O nx K:=gF hb hd hq (OF.fieldAddrO (VEv.tmp h) fa) (gL hb hd ((Qi1 E hne _).trans hq) (OL.loadO1 (VEv.tmp (QeQ _ _ _)) hk ht hst) hK)
theorem glr (t:T) (hb:b=w) (hd:(ops[i]?).bind (·.dst)=some q) (hq:gE E q= .bool b) (hne:(q == d1)=false) (h:gE E a= .rp us) (hn:off≤us.length) (fa:∀k o,Qf P tt (.pointer (some ⟨k,o,none⟩)) j=some (.pointer (some ⟨k,o+off,none⟩))) (ht:(us.drop off)[0]? =some t) (hst:Qw P tt2=some false) (hK:VRunO call P ops l (pE ((d1, .rp (us.drop off))::E) d2 t) O nx K) :
  VRunO call P ops (⟨some d1, .fieldAddr tt (.tmp a) j,ty1,ps1,af1,some (i,w)⟩::⟨d2, .load tt2 (.tmp d1),ty2,ps2,af2,some (i,w)⟩::l) E O nx K:=gF hb hd hq (B.fieldAddrR (VEv.tmp h) hn fa Y) (gL hb hd ((Qi1 E hne _).trans hq) (OL.loadR1 (VEv.tmp (QeQ _ _ _)) ht hst) hK)
def QlP (i:Nat) (w:Bool) (q:Nat):List Oper→Bool
 | []=>true
 | o::r=>(match o.guard with | some (a,b)=>Nat.beq a i && (b == w) | none=>false) && (match o.dst with | some d=> !(Nat.beq d q) | none=>true) && QlP i w q r
def QmC (E:Zc):List Oper→Zc
 | []=>E
 | o::r=>QmC (pE E o.dst (.tup [])) r
theorem Qoo (hd:(ops[i]?).bind (·.dst)=some q) (hv:∀(dd:Option Tmp) (op:Op) (ty:TypeId) (ps:String) (af:Array Edge) (E:Zc),gE E q=t0→VWant ops E ⟨dd,op,ty,ps,af,some (i,w)⟩ false) {l2:List Oper} (l1:List Oper):∀(E:Zc),QlP i w q l1=true→gE E q=t0→VRunO call P ops l2 (QmC E l1) O nx K→VRunO call P ops (l1++l2) E O nx K:=by
 induction l1 with
 | nil=>exact fun E _ _ hK=>hK
 | cons o r ih =>
  intro E hc hq hK
  obtain ⟨dd,op,ty,ps,af,g⟩:=o
  simp only [QlP,Bool.and_eq_true] at hc
  obtain ⟨⟨h1,h2⟩,h3⟩:=hc
  cases g with
  | none=>cases h1
  | some g =>
   obtain ⟨a,b⟩:=g
   simp only [Bool.and_eq_true] at h1
   have e1:a=i:=Nat.eq_of_beq_eq_true h1.1
   have e2:b=w:=by simpa using h1.2
   subst e1
   subst e2
   refine VRunO.off (hv _ _ _ _ _ _ hq) (ih _ h3 ?_ hK)
   cases dd with
   | none=>exact hq
   | some d =>
    refine (Qi1 E (d:=d) (t:=q) ?_ _).trans hq
    rw [beq_eq_false_iff_ne]
    rintro rfl
    simp at h2
theorem QE (m i:Nat) (w:Bool) (q:Nat) (hb:b= !w) (hd:(ops[i]?).bind (·.dst)=some q) (hq:gE E q= .bool b) (hc:QlP i w q (l.take m)=true) (hK:VRunO call P ops (l.drop m) (QmC E (l.take m)) O nx K):VRunO call P ops l E O nx K:=by
 rw [← List.take_append_drop m l]
 exact Qoo hd (fun _ _ _ _ _ _ h=>VWant.not hd h hb) _ _ hc hq hK
theorem Qbv (m i:Nat) (w:Bool) (q:Nat) (hd:(ops[i]?).bind (·.dst)=some q) (hq:gE E q= .tup []) (hc:QlP i w q (l.take m)=true) (hK:VRunO call P ops (l.drop m) (QmC E (l.take m)) O nx K):VRunO call P ops l E O nx K:=by
 rw [← List.take_append_drop m l]
 exact Qoo hd (fun _ _ _ _ _ _ h=>VWant.undef hd h) _ _ hc hq hK
end
structure D.Grid where
 Rows:Int
 Cols:Int
 Cells:ByteArray
def Ql4 : AK D.Grid:=AK.iso (AK.pair (AK.int .i64) (AK.pair (AK.int .i64) AK.string)) (fun x=>(x.Rows,x.Cols,x.Cells))
def Qlo (x:D.Grid):Prop:=((Lit.int .i64 x.Rows).wf=true)∧((Lit.int .i64 x.Cols).wf=true)∧(x.Cells.size≤maxLen)
structure D.Step where
 Kind:Int
 Word:ByteArray
 A:Int
 B:Int
def QkE : AK D.Step:=AK.iso (AK.pair (AK.int .i64) (AK.pair AK.string (AK.pair (AK.int .i64) (AK.int .i64)))) (fun x=>(x.Kind,x.Word,x.A,x.B))
def Qjs (x:D.Step):Prop:=((Lit.int .i64 x.Kind).wf=true)∧(x.Word.size≤maxLen)∧((Lit.int .i64 x.A).wf=true)∧((Lit.int .i64 x.B).wf=true)
structure D.Clue where
 Sense:Int
 Play:_root_.List D.Step
def QlR : AK D.Clue:=AK.iso (AK.pair (AK.int .i64) (AK.slice QkE)) (fun x=>(x.Sense,x.Play))
def QjV (x:D.Clue):Prop:=((Lit.int .i64 x.Sense).wf=true)∧((x.Play.length≤maxLen∧∀y∈x.Play,Qjs y))
structure D.Puzzle where
 Grid:D.Grid
 Clues:_root_.List D.Clue
 Seals:_root_.List Int
 Salt:Int
def QhA : AK D.Puzzle:=AK.iso (AK.pair Ql4 (AK.pair (AK.slice QlR) (AK.pair (AK.slice (AK.int .i64)) (AK.int .i64)))) (fun x=>(x.Grid,x.Clues,x.Seals,x.Salt))
def Qhj (x:D.Puzzle):Prop:=(Qlo x.Grid)∧((x.Clues.length≤maxLen∧∀y∈x.Clues,QjV y))∧((x.Seals.length≤maxLen∧∀y∈x.Seals,(Lit.int .i64 y).wf=true))∧((Lit.int .i64 x.Salt).wf=true)
structure D.Issue where
 Number:Int
 Puzzle:D.Puzzle
 Fill:ByteArray
 Open:Int
 Close:Int
def QkT : AK D.Issue:=AK.iso (AK.pair (AK.int .i64) (AK.pair QhA (AK.pair AK.string (AK.pair (AK.int .i64) (AK.int .i64))))) (fun x=>(x.Number,x.Puzzle,x.Fill,x.Open,x.Close))
def Qi3 (x:D.Issue):Prop:=((Lit.int .i64 x.Number).wf=true)∧(Qhj x.Puzzle)∧(x.Fill.size≤maxLen)∧((Lit.int .i64 x.Open).wf=true)∧((Lit.int .i64 x.Close).wf=true)
structure D.Entry where
 Player:Int
 Issue:Int
 Tick:Int
 Fill:ByteArray
def Qlz : AK D.Entry:=AK.iso (AK.pair (AK.int .i64) (AK.pair (AK.int .i64) (AK.pair (AK.int .i64) AK.string))) (fun x=>(x.Player,x.Issue,x.Tick,x.Fill))
def Qhd (x:D.Entry):Prop:=((Lit.int .i64 x.Player).wf=true)∧((Lit.int .i64 x.Issue).wf=true)∧((Lit.int .i64 x.Tick).wf=true)∧(x.Fill.size≤maxLen)
structure D.Slot where
 Number:Int
 Down:Bool
 Cell:Int
 Length:Int
theorem Qo2 : Y4 Tryz.prog 24 Ql4 Qlo:=Ja (Yv (P:=Tryz.prog) (t:=24) (fun x:D.Grid=>(x.Rows,x.Cols,x.Cells)) (fun x=>⟨x.1,x.2.1,x.2.2⟩) (fun _=>rfl) Tryz.underlying24 (by kernel_rfl) (Q6 Y (by kernel_rfl) (ZG (k:= .i64) Tryz.underlying3) (Q6 Y (by kernel_rfl) (ZG (k:= .i64) Tryz.underlying3) (Y8 Y (by kernel_rfl) (JD Tryz.underlying9))))) (fun _ h=>h)
theorem Qoc : Y4 Tryz.prog 121 QkE Qjs:=Ja (Yv (P:=Tryz.prog) (t:=121) (fun x:D.Step=>(x.Kind,x.Word,x.A,x.B)) (fun x=>⟨x.1,x.2.1,x.2.2.1,x.2.2.2⟩) (fun _=>rfl) Tryz.underlying121 (by kernel_rfl) (Q6 Y (by kernel_rfl) (ZG (k:= .i64) Tryz.underlying3) (Q6 Y (by kernel_rfl) (JD Tryz.underlying9) (Q6 Y (by kernel_rfl) (ZG (k:= .i64) Tryz.underlying3) (Y8 Y (by kernel_rfl) (ZG (k:= .i64) Tryz.underlying3)))))) (fun _ h=>h)
theorem Qo8 : Y4 Tryz.prog 82 QlR QjV:=Ja (Yv (P:=Tryz.prog) (t:=82) (fun x:D.Clue=>(x.Sense,x.Play)) (fun x=>⟨x.1,x.2⟩) (fun _=>rfl) Tryz.underlying82 (by kernel_rfl) (Q6 Y (by kernel_rfl) (ZG (k:= .i64) Tryz.underlying3) (Y8 Y (by kernel_rfl) (J0 Tryz.underlying80 (by kernel_rfl) (of_decide_eq_true (by kernel_rfl)) Qoc)))) (fun _ h=>h)
theorem QoX : Y4 Tryz.prog 28 QhA Qhj:=Ja (Yv (P:=Tryz.prog) (t:=28) (fun x:D.Puzzle=>(x.Grid,x.Clues,x.Seals,x.Salt)) (fun x=>⟨x.1,x.2.1,x.2.2.1,x.2.2.2⟩) (fun _=>rfl) Tryz.underlying28 (by kernel_rfl) (Q6 Y (by kernel_rfl) Qo2 (Q6 Y (by kernel_rfl) (J0 Tryz.underlying25 (by kernel_rfl) (of_decide_eq_true (by kernel_rfl)) Qo8) (Q6 Y (by kernel_rfl) (J0 Tryz.underlying26 (by kernel_rfl) (of_decide_eq_true (by kernel_rfl)) (ZG (k:= .i64) Tryz.underlying3)) (Y8 Y (by kernel_rfl) (ZG (k:= .i64) Tryz.underlying3)))))) (fun _ h=>h)
theorem QoV : Y4 Tryz.prog 30 QkT Qi3:=Ja (Yv (P:=Tryz.prog) (t:=30) (fun x:D.Issue=>(x.Number,x.Puzzle,x.Fill,x.Open,x.Close)) (fun x=>⟨x.1,x.2.1,x.2.2.1,x.2.2.2.1,x.2.2.2.2⟩) (fun _=>rfl) Tryz.underlying30 (by kernel_rfl) (Q6 Y (by kernel_rfl) (ZG (k:= .i64) Tryz.underlying3) (Q6 Y (by kernel_rfl) QoX (Q6 Y (by kernel_rfl) (JD Tryz.underlying9) (Q6 Y (by kernel_rfl) (ZG (k:= .i64) Tryz.underlying3) (Y8 Y (by kernel_rfl) (ZG (k:= .i64) Tryz.underlying3))))))) (fun _ h=>h)
theorem Qo1 : Y4 Tryz.prog 52 Qlz Qhd:=Ja (Yv (P:=Tryz.prog) (t:=52) (fun x:D.Entry=>(x.Player,x.Issue,x.Tick,x.Fill)) (fun x=>⟨x.1,x.2.1,x.2.2.1,x.2.2.2⟩) (fun _=>rfl) Tryz.underlying52 (by kernel_rfl) (Q6 Y (by kernel_rfl) (ZG (k:= .i64) Tryz.underlying3) (Q6 Y (by kernel_rfl) (ZG (k:= .i64) Tryz.underlying3) (Q6 Y (by kernel_rfl) (ZG (k:= .i64) Tryz.underlying3) (Y8 Y (by kernel_rfl) (JD Tryz.underlying9)))))) (fun _ h=>h)
theorem sz2 : Tryz.prog.cellsOf 2=1:=by kernel_rfl
theorem QQ : Qw Tryz.prog 3=some false:=by kernel_rfl
theorem ZA : Tryz.prog.cellsOf 3=1:=by kernel_rfl
theorem YR : (Tryz.prog.info? 3).isSome=true:=by kernel_rfl
theorem zo3 : Zq Tryz.prog 3=some (.int .i64 0):=by kernel_rfl
theorem zc3 : closedV (.int .i64 0)=true:=by kernel_rfl
theorem st4 : Qw Tryz.prog 4=some false:=by kernel_rfl
theorem sz4 : Tryz.prog.cellsOf 4=1:=by kernel_rfl
theorem if4 : (Tryz.prog.info? 4).isSome=true:=by kernel_rfl
theorem zo4 : Zq Tryz.prog 4=some (.bool false):=by kernel_rfl
theorem zc4 : closedV (.bool false)=true:=by kernel_rfl
theorem st5 : Qw Tryz.prog 5=some false:=by kernel_rfl
theorem sz5 : Tryz.prog.cellsOf 5=1:=by kernel_rfl
theorem if5 : (Tryz.prog.info? 5).isSome=true:=by kernel_rfl
theorem zo5 : Zq Tryz.prog 5=some (.int .u8 0):=by kernel_rfl
theorem YD : Qw Tryz.prog 9=some false:=by kernel_rfl
theorem sz9 : Tryz.prog.cellsOf 9=1:=by kernel_rfl
theorem if9 : (Tryz.prog.info? 9).isSome=true:=by kernel_rfl
theorem zo9 : Zq Tryz.prog 9=some (.string ByteArray.empty):=by kernel_rfl
theorem Qou : Qw Tryz.prog 24=some true:=by kernel_rfl
theorem Qnm : Tryz.prog.cellsOf 24=3:=by kernel_rfl
theorem QoR : (Tryz.prog.info? 24).isSome=true:=by kernel_rfl
theorem Qoz : Qw Tryz.prog 25=some false:=by kernel_rfl
theorem Qo9 : Tryz.prog.cellsOf 25=1:=by kernel_rfl
theorem QoW : (Tryz.prog.info? 25).isSome=true:=by kernel_rfl
theorem Qcm : Qw Tryz.prog 26=some false:=by kernel_rfl
theorem QfV : Tryz.prog.cellsOf 26=1:=by kernel_rfl
theorem Qjj : (Tryz.prog.info? 26).isSome=true:=by kernel_rfl
theorem QoH : Zq Tryz.prog 26=some (.slice none 0 0):=by kernel_rfl
theorem Qoy : Qw Tryz.prog 28=some true:=by kernel_rfl
theorem Qno : Tryz.prog.cellsOf 28=6:=by kernel_rfl
theorem Qo0 : (Tryz.prog.info? 28).isSome=true:=by kernel_rfl
theorem Qle : Qw Tryz.prog 30=some true:=by kernel_rfl
theorem QlN : Tryz.prog.cellsOf 30=10:=by kernel_rfl
theorem Q4 : Qw Tryz.prog 36=some true:=by kernel_rfl
theorem Q0 : Tryz.prog.cellsOf 36=3:=by kernel_rfl
theorem QiN : (Tryz.prog.info? 36).isSome=true:=by kernel_rfl
theorem Qkq : Zq Tryz.prog 36=some (.agg #[.int .i64 0, .int .i64 0, .string ByteArray.empty]):=by kernel_rfl
theorem Ql8 : closedV (.agg #[.int .i64 0, .int .i64 0, .string ByteArray.empty])=true:=by kernel_rfl
theorem Qe0 : Qw Tryz.prog 37=some false:=by kernel_rfl
theorem Qoh : Tryz.prog.cellsOf 37=1:=by kernel_rfl
theorem Qoa : (Tryz.prog.info? 37).isSome=true:=by kernel_rfl
theorem Qhq : Qw Tryz.prog 39=some true:=by kernel_rfl
theorem Qer : Tryz.prog.cellsOf 39=6:=by kernel_rfl
theorem Qnv : (Tryz.prog.info? 39).isSome=true:=by kernel_rfl
theorem QoJ : Zq Tryz.prog 39=some (.agg #[.int .i64 0, .int .i64 0, .string ByteArray.empty, .slice none 0 0, .slice none 0 0, .int .i64 0]):=by kernel_rfl
theorem Qn8 : closedV (.agg #[.int .i64 0, .int .i64 0, .string ByteArray.empty, .slice none 0 0, .slice none 0 0, .int .i64 0])=true:=by kernel_rfl
theorem Jj : Qw Tryz.prog 41=some true:=by kernel_rfl
theorem YZ : Tryz.prog.cellsOf 41=10:=by kernel_rfl
theorem Qov : (Tryz.prog.info? 41).isSome=true:=by kernel_rfl
theorem Qnp : Zq Tryz.prog 41=some (.agg #[.int .i64 0, .int .i64 0, .int .i64 0, .string ByteArray.empty, .slice none 0 0, .slice none 0 0, .int .i64 0, .string ByteArray.empty, .int .i64 0, .int .i64 0]):=by kernel_rfl
theorem Qnj : closedV (.agg #[.int .i64 0, .int .i64 0, .int .i64 0, .string ByteArray.empty, .slice none 0 0, .slice none 0 0, .int .i64 0, .string ByteArray.empty, .int .i64 0, .int .i64 0])=true:=by kernel_rfl
theorem Qop : Qw Tryz.prog 52=some true:=by kernel_rfl
theorem QmK : Tryz.prog.cellsOf 52=4:=by kernel_rfl
theorem Qom : (Tryz.prog.info? 52).isSome=true:=by kernel_rfl
theorem ZX : Qw Tryz.prog 55=some true:=by kernel_rfl
theorem Qz : Tryz.prog.cellsOf 55=4:=by kernel_rfl
theorem Zo : (Tryz.prog.info? 55).isSome=true:=by kernel_rfl
theorem Qbm : Zq Tryz.prog 55=some (.agg #[.int .i64 0, .int .i64 0, .int .i64 0, .string ByteArray.empty]):=by kernel_rfl
theorem Qkn : closedV (.agg #[.int .i64 0, .int .i64 0, .int .i64 0, .string ByteArray.empty])=true:=by kernel_rfl
theorem QoD : Qw Tryz.prog 80=some false:=by kernel_rfl
theorem QoY : Tryz.prog.cellsOf 80=1:=by kernel_rfl
theorem Qo4 : (Tryz.prog.info? 80).isSome=true:=by kernel_rfl
theorem QoE : Qw Tryz.prog 82=some true:=by kernel_rfl
theorem Qms : Tryz.prog.cellsOf 82=2:=by kernel_rfl
theorem Qoe : (Tryz.prog.info? 82).isSome=true:=by kernel_rfl
theorem Qln : Qw Tryz.prog 87=some false:=by kernel_rfl
theorem Qol : Tryz.prog.cellsOf 87=1:=by kernel_rfl
theorem Qos : (Tryz.prog.info? 87).isSome=true:=by kernel_rfl
theorem QiK : Qw Tryz.prog 89=some true:=by kernel_rfl
theorem QbG : Tryz.prog.cellsOf 89=2:=by kernel_rfl
theorem Qhs : (Tryz.prog.info? 89).isSome=true:=by kernel_rfl
theorem Qna : Zq Tryz.prog 89=some (.agg #[.int .i64 0, .slice none 0 0]):=by kernel_rfl
theorem QnH : closedV (.agg #[.int .i64 0, .slice none 0 0])=true:=by kernel_rfl
theorem Qgw : Qw Tryz.prog 109=some true:=by kernel_rfl
theorem YG : Tryz.prog.cellsOf 109=4:=by kernel_rfl
theorem Qal : (Tryz.prog.info? 109).isSome=true:=by kernel_rfl
theorem QhK : Zq Tryz.prog 109=some (.agg #[.int .i64 0, .string ByteArray.empty, .int .i64 0, .int .i64 0]):=by kernel_rfl
theorem Qiw : closedV (.agg #[.int .i64 0, .string ByteArray.empty, .int .i64 0, .int .i64 0])=true:=by kernel_rfl
theorem Qdj : Qw Tryz.prog 112=some true:=by kernel_rfl
theorem Zz : Tryz.prog.cellsOf 112=4:=by kernel_rfl
theorem QbC : (Tryz.prog.info? 112).isSome=true:=by kernel_rfl
theorem YS : Zq Tryz.prog 112=some (.agg #[.int .i64 0, .bool false, .int .i64 0, .int .i64 0]):=by kernel_rfl
theorem QkK : closedV (.agg #[.int .i64 0, .bool false, .int .i64 0, .int .i64 0])=true:=by kernel_rfl
theorem QmO : Qw Tryz.prog 121=some true:=by kernel_rfl
theorem Qjr : Tryz.prog.cellsOf 121=4:=by kernel_rfl
theorem QmS : (Tryz.prog.info? 121).isSome=true:=by kernel_rfl
theorem QlD : Qw Tryz.prog 143=some false:=by kernel_rfl
theorem QoA : Tryz.prog.cellsOf 143=1:=by kernel_rfl
theorem Qor : (Tryz.prog.info? 143).isSome=true:=by kernel_rfl
theorem Qof : Zq Tryz.prog 143=some (.slice none 0 0):=by kernel_rfl
theorem QoC : closedV (.slice none 0 0)=true:=by kernel_rfl
theorem Qih : Qw Tryz.prog 146=some false:=by kernel_rfl
theorem Qob : Tryz.prog.cellsOf 146=1:=by kernel_rfl
theorem QoI : (Tryz.prog.info? 146).isSome=true:=by kernel_rfl
theorem Qny (k o:Nat):Qf Tryz.prog 24 (.pointer (some ⟨k,o,none⟩)) 0=some (.pointer (some ⟨k,o+0,none⟩)):=by simp [Qf,Tryz.underlying24,YR,ZA]
theorem QnG (k o:Nat):Qf Tryz.prog 24 (.pointer (some ⟨k,o,none⟩)) 1=some (.pointer (some ⟨k,o+1,none⟩)):=by simp [Qf,Tryz.underlying24,YR,ZA]
theorem Qlj (k o:Nat):Qf Tryz.prog 24 (.pointer (some ⟨k,o,none⟩)) 2=some (.pointer (some ⟨k,o+2,none⟩)):=by simp [Qf,Tryz.underlying24,if9,sz9]
theorem QlL (k o:Nat):Qf Tryz.prog 28 (.pointer (some ⟨k,o,none⟩)) 0=some (.pointer (some ⟨k,o+0,none⟩)):=by simp [Qf,Tryz.underlying28,QoR,Qnm]
theorem QlU (k o:Nat):Qf Tryz.prog 28 (.pointer (some ⟨k,o,none⟩)) 1=some (.pointer (some ⟨k,o+3,none⟩)):=by simp [Qf,Tryz.underlying28,QoW,Qo9]
theorem QlZ (k o:Nat):Qf Tryz.prog 28 (.pointer (some ⟨k,o,none⟩)) 2=some (.pointer (some ⟨k,o+4,none⟩)):=by simp [Qf,Tryz.underlying28,Qjj,QfV]
theorem QnU (k o:Nat):Qf Tryz.prog 28 (.pointer (some ⟨k,o,none⟩)) 3=some (.pointer (some ⟨k,o+5,none⟩)):=by simp [Qf,Tryz.underlying28,YR,ZA]
theorem Qm3 (k o:Nat):Qf Tryz.prog 30 (.pointer (some ⟨k,o,none⟩)) 0=some (.pointer (some ⟨k,o+0,none⟩)):=by simp [Qf,Tryz.underlying30,YR,ZA]
theorem QkG (k o:Nat):Qf Tryz.prog 30 (.pointer (some ⟨k,o,none⟩)) 1=some (.pointer (some ⟨k,o+1,none⟩)):=by simp [Qf,Tryz.underlying30,Qo0,Qno]
theorem QkM (k o:Nat):Qf Tryz.prog 30 (.pointer (some ⟨k,o,none⟩)) 2=some (.pointer (some ⟨k,o+7,none⟩)):=by simp [Qf,Tryz.underlying30,if9,sz9]
theorem QnO (k o:Nat):Qf Tryz.prog 30 (.pointer (some ⟨k,o,none⟩)) 3=some (.pointer (some ⟨k,o+8,none⟩)):=by simp [Qf,Tryz.underlying30,YR,ZA]
theorem Qnh (k o:Nat):Qf Tryz.prog 30 (.pointer (some ⟨k,o,none⟩)) 4=some (.pointer (some ⟨k,o+9,none⟩)):=by simp [Qf,Tryz.underlying30,YR,ZA]
theorem QaR (k o:Nat):Qf Tryz.prog 36 (.pointer (some ⟨k,o,none⟩)) 0=some (.pointer (some ⟨k,o+0,none⟩)):=by simp [Qf,Tryz.underlying36,YR,ZA]
theorem ZE (k o:Nat):Qf Tryz.prog 36 (.pointer (some ⟨k,o,none⟩)) 1=some (.pointer (some ⟨k,o+1,none⟩)):=by simp [Qf,Tryz.underlying36,YR,ZA]
theorem QU (k o:Nat):Qf Tryz.prog 36 (.pointer (some ⟨k,o,none⟩)) 2=some (.pointer (some ⟨k,o+2,none⟩)):=by simp [Qf,Tryz.underlying36,if9,sz9]
theorem Y1 (k o:Nat):Qf Tryz.prog 39 (.pointer (some ⟨k,o,none⟩)) 0=some (.pointer (some ⟨k,o+0,none⟩)):=by simp [Qf,Tryz.underlying39,QiN,Q0]
theorem JT (k o:Nat):Qf Tryz.prog 39 (.pointer (some ⟨k,o,none⟩)) 1=some (.pointer (some ⟨k,o+3,none⟩)):=by simp [Qf,Tryz.underlying39,Qoa,Qoh]
theorem Qaj (k o:Nat):Qf Tryz.prog 39 (.pointer (some ⟨k,o,none⟩)) 2=some (.pointer (some ⟨k,o+4,none⟩)):=by simp [Qf,Tryz.underlying39,Qjj,QfV]
theorem Qby (k o:Nat):Qf Tryz.prog 39 (.pointer (some ⟨k,o,none⟩)) 3=some (.pointer (some ⟨k,o+5,none⟩)):=by simp [Qf,Tryz.underlying39,YR,ZA]
theorem QcB (k o:Nat):Qf Tryz.prog 41 (.pointer (some ⟨k,o,none⟩)) 0=some (.pointer (some ⟨k,o+0,none⟩)):=by simp [Qf,Tryz.underlying41,YR,ZA]
theorem YU (k o:Nat):Qf Tryz.prog 41 (.pointer (some ⟨k,o,none⟩)) 1=some (.pointer (some ⟨k,o+1,none⟩)):=by simp [Qf,Tryz.underlying41,Qnv,Qer]
theorem QeU (k o:Nat):Qf Tryz.prog 41 (.pointer (some ⟨k,o,none⟩)) 2=some (.pointer (some ⟨k,o+7,none⟩)):=by simp [Qf,Tryz.underlying41,if9,sz9]
theorem Qbl (k o:Nat):Qf Tryz.prog 41 (.pointer (some ⟨k,o,none⟩)) 3=some (.pointer (some ⟨k,o+8,none⟩)):=by simp [Qf,Tryz.underlying41,YR,ZA]
theorem Qbq (k o:Nat):Qf Tryz.prog 41 (.pointer (some ⟨k,o,none⟩)) 4=some (.pointer (some ⟨k,o+9,none⟩)):=by simp [Qf,Tryz.underlying41,YR,ZA]
theorem QnF (k o:Nat):Qf Tryz.prog 52 (.pointer (some ⟨k,o,none⟩)) 0=some (.pointer (some ⟨k,o+0,none⟩)):=by simp [Qf,Tryz.underlying52,YR,ZA]
theorem Qng (k o:Nat):Qf Tryz.prog 52 (.pointer (some ⟨k,o,none⟩)) 1=some (.pointer (some ⟨k,o+1,none⟩)):=by simp [Qf,Tryz.underlying52,YR,ZA]
theorem Qne (k o:Nat):Qf Tryz.prog 52 (.pointer (some ⟨k,o,none⟩)) 2=some (.pointer (some ⟨k,o+2,none⟩)):=by simp [Qf,Tryz.underlying52,YR,ZA]
theorem QkI (k o:Nat):Qf Tryz.prog 52 (.pointer (some ⟨k,o,none⟩)) 3=some (.pointer (some ⟨k,o+3,none⟩)):=by simp [Qf,Tryz.underlying52,if9,sz9]
theorem YH (k o:Nat):Qf Tryz.prog 55 (.pointer (some ⟨k,o,none⟩)) 0=some (.pointer (some ⟨k,o+0,none⟩)):=by simp [Qf,Tryz.underlying55,YR,ZA]
theorem QdO (k o:Nat):Qf Tryz.prog 55 (.pointer (some ⟨k,o,none⟩)) 1=some (.pointer (some ⟨k,o+1,none⟩)):=by simp [Qf,Tryz.underlying55,YR,ZA]
theorem Jg (k o:Nat):Qf Tryz.prog 55 (.pointer (some ⟨k,o,none⟩)) 2=some (.pointer (some ⟨k,o+2,none⟩)):=by simp [Qf,Tryz.underlying55,YR,ZA]
theorem Qb0 (k o:Nat):Qf Tryz.prog 55 (.pointer (some ⟨k,o,none⟩)) 3=some (.pointer (some ⟨k,o+3,none⟩)):=by simp [Qf,Tryz.underlying55,if9,sz9]
theorem QnE (k o:Nat):Qf Tryz.prog 82 (.pointer (some ⟨k,o,none⟩)) 0=some (.pointer (some ⟨k,o+0,none⟩)):=by simp [Qf,Tryz.underlying82,YR,ZA]
theorem Qk5 (k o:Nat):Qf Tryz.prog 82 (.pointer (some ⟨k,o,none⟩)) 1=some (.pointer (some ⟨k,o+1,none⟩)):=by simp [Qf,Tryz.underlying82,Qo4,QoY]
theorem QdM (k o:Nat):Qf Tryz.prog 89 (.pointer (some ⟨k,o,none⟩)) 0=some (.pointer (some ⟨k,o+0,none⟩)):=by simp [Qf,Tryz.underlying89,YR,ZA]
theorem Qd0 (k o:Nat):Qf Tryz.prog 89 (.pointer (some ⟨k,o,none⟩)) 1=some (.pointer (some ⟨k,o+1,none⟩)):=by simp [Qf,Tryz.underlying89,Qos,Qol]
theorem Zp (k o:Nat):Qf Tryz.prog 109 (.pointer (some ⟨k,o,none⟩)) 0=some (.pointer (some ⟨k,o+0,none⟩)):=by simp [Qf,Tryz.underlying109,YR,ZA]
theorem QaC (k o:Nat):Qf Tryz.prog 109 (.pointer (some ⟨k,o,none⟩)) 1=some (.pointer (some ⟨k,o+1,none⟩)):=by simp [Qf,Tryz.underlying109,if9,sz9]
theorem YX (k o:Nat):Qf Tryz.prog 109 (.pointer (some ⟨k,o,none⟩)) 2=some (.pointer (some ⟨k,o+2,none⟩)):=by simp [Qf,Tryz.underlying109,YR,ZA]
theorem Yz (k o:Nat):Qf Tryz.prog 109 (.pointer (some ⟨k,o,none⟩)) 3=some (.pointer (some ⟨k,o+3,none⟩)):=by simp [Qf,Tryz.underlying109,YR,ZA]
theorem Qjn (k o:Nat):Qf Tryz.prog 112 (.pointer (some ⟨k,o,none⟩)) 1=some (.pointer (some ⟨k,o+1,none⟩)):=by simp [Qf,Tryz.underlying112,if4,sz4]
theorem QeL (k o:Nat):Qf Tryz.prog 112 (.pointer (some ⟨k,o,none⟩)) 2=some (.pointer (some ⟨k,o+2,none⟩)):=by simp [Qf,Tryz.underlying112,YR,ZA]
theorem Qbx (k o:Nat):Qf Tryz.prog 112 (.pointer (some ⟨k,o,none⟩)) 3=some (.pointer (some ⟨k,o+3,none⟩)):=by simp [Qf,Tryz.underlying112,YR,ZA]
theorem Qmk (k o:Nat):Qf Tryz.prog 121 (.pointer (some ⟨k,o,none⟩)) 0=some (.pointer (some ⟨k,o+0,none⟩)):=by simp [Qf,Tryz.underlying121,YR,ZA]
theorem Qjm (k o:Nat):Qf Tryz.prog 121 (.pointer (some ⟨k,o,none⟩)) 1=some (.pointer (some ⟨k,o+1,none⟩)):=by simp [Qf,Tryz.underlying121,if9,sz9]
theorem Qmy (k o:Nat):Qf Tryz.prog 121 (.pointer (some ⟨k,o,none⟩)) 2=some (.pointer (some ⟨k,o+2,none⟩)):=by simp [Qf,Tryz.underlying121,YR,ZA]
theorem Ql9 (k o:Nat):Qf Tryz.prog 121 (.pointer (some ⟨k,o,none⟩)) 3=some (.pointer (some ⟨k,o+3,none⟩)):=by simp [Qf,Tryz.underlying121,YR,ZA]
theorem Qpb (a b:D.Grid):∃q,eqv Tryz.prog 20 36 (.agg #[Value.int .i64 a.Rows,Value.int .i64 a.Cols,Value.string a.Cells]) (.agg #[Value.int .i64 b.Rows,Value.int .i64 b.Cols,Value.string b.Cells])=some q∧(q=true↔a=b):=by
 refine ⟨_,Qfp 19 Tryz.underlying36 Y (by kernel_rfl) (eqf_cons Y (ZU QQ Y) (ZU QQ Y) (Qdo 18 Tryz.underlying3) (eqf_cons Y (ZU QQ Y) (ZU QQ Y) (Qdo 18 Tryz.underlying3) (eqf_cons Y (ZU YD Y) (ZU YD Y) (Qmp 18 Tryz.underlying9) QjE))),?_⟩
 obtain ⟨a0,a1,a2⟩:=a
 obtain ⟨b0,b1,b2⟩:=b
 simp
theorem Qok (a b:D.Grid) (xo yo:Operand):∃q,Ye Tryz.prog .eql 36 xo yo (.agg #[Value.int .i64 a.Rows,Value.int .i64 a.Cols,Value.string a.Cells]) (.agg #[Value.int .i64 b.Rows,Value.int .i64 b.Cols,Value.string b.Cells])=some (.bool q)∧(q=true↔a=b):=by
 obtain ⟨q,h1,h2⟩:=Qpb a b
 exact ⟨q,QkQ (by simp [closedV,closed1]) (by simp [closedV,closed1]) (by kernel_rfl) h1,h2⟩
theorem Qod (a b:D.Slot):∃q,eqv Tryz.prog 20 112 (.agg #[Value.int .i64 a.Number,Value.bool a.Down,Value.int .i64 a.Cell,Value.int .i64 a.Length]) (.agg #[Value.int .i64 b.Number,Value.bool b.Down,Value.int .i64 b.Cell,Value.int .i64 b.Length])=some q∧(q=true↔a=b):=by
 refine ⟨_,Qfp 19 Tryz.underlying112 Y (by kernel_rfl) (eqf_cons Y (ZU QQ Y) (ZU QQ Y) (Qdo 18 Tryz.underlying3) (eqf_cons Y (ZU st4 Y) (ZU st4 Y) (QlC 18 Tryz.underlying4) (eqf_cons Y (ZU QQ Y) (ZU QQ Y) (Qdo 18 Tryz.underlying3) (eqf_cons Y (ZU QQ Y) (ZU QQ Y) (Qdo 18 Tryz.underlying3) QjE)))),?_⟩
 obtain ⟨a0,a1,a2,a3⟩:=a
 obtain ⟨b0,b1,b2,b3⟩:=b
 simp
theorem Qnc (a b:D.Slot) (xo yo:Operand):∃q,Ye Tryz.prog .neq 112 xo yo (.agg #[Value.int .i64 a.Number,Value.bool a.Down,Value.int .i64 a.Cell,Value.int .i64 a.Length]) (.agg #[Value.int .i64 b.Number,Value.bool b.Down,Value.int .i64 b.Cell,Value.int .i64 b.Length])=some (.bool (!q))∧(q=true↔a=b):=by
 obtain ⟨q,h1,h2⟩:=Qod a b
 exact ⟨q,Qlh (by simp [closedV,closed1]) (by simp [closedV,closed1]) (by kernel_rfl) h1,h2⟩
theorem follows : Tryz.prog.follows .mixedOrders=true:=by kernel_rfl
theorem Qks : Plain Tryz.prog:=by
 unfold Plain
 kernel_rfl
noncomputable instance : DecidableEq D.Grid:=Classical.typeDecidableEq _
def Qd (m:Bool) (x:D.Grid):List T:= [.int .i64 x.Rows, .int .i64 x.Cols, .str x.Cells]
theorem Qu : EncOk Qd 3:=⟨fun _ _=>rfl,fun x=>Qi (.int _ _) (Qi (.int _ _) (Qi (.str _) (Zr))),fun m x=>by simp only [Qd,fzL,AE.fz],fun m x=>Qi Y (Qi Y (Qi Y (Zr))),fun x=>Qi Y (Qi Y (Qi Y (Zr)))⟩
def ZT (x:D.Grid):Nat:=ByteArray.size x.Cells
theorem Qm5 : RK Ql4 Qd:=Qgq (YT QaI (YT QaI QjG)) (fun _=>rfl)
theorem Qlb (m:Bool) (x:D.Grid):SvL (Qd m x) [Value.int .i64 x.Rows,Value.int .i64 x.Cols,Value.string x.Cells]:= .cons (.int _ _) (.cons (.int _ _) (.cons (.str _) (.nil)))
noncomputable instance : DecidableEq D.Step:=Classical.typeDecidableEq _
def Ql (m:Bool) (x:D.Step):List T:= [.int .i64 x.Kind, .str x.Word, .int .i64 x.A, .int .i64 x.B]
theorem okeStep : EncOk Ql 4:=⟨fun _ _=>rfl,fun x=>Qi (.int _ _) (Qi (.str _) (Qi (.int _ _) (Qi (.int _ _) (Zr)))),fun m x=>by simp only [Ql,fzL,AE.fz],fun m x=>Qi Y (Qi Y (Qi Y (Qi Y (Zr)))),fun x=>Qi Y (Qi Y (Qi Y (Qi Y (Zr))))⟩
def ZV (x:D.Step):Nat:=ByteArray.size x.Word
theorem Qfn : QhW Ql:=fun _ _=>rfl
theorem QnB : RK QkE Ql:=Qgq (YT QaI (YT QjG (YT QaI QaI))) (fun _=>rfl)
noncomputable instance : DecidableEq D.Clue:=Classical.typeDecidableEq _
def Qh (m:Bool) (x:D.Clue):List T:= [.int .i64 x.Sense, .sl m 4 (x.Play.map (Ql m))]
theorem okeClue : EncOk Qh 2:=⟨fun _ _=>rfl,fun x=>Qi (.int _ _) (Qi (.sl _ _ (okeStep.cleanMap _)) (Zr)),fun m x=>by simp only [Qh,fzL,AE.fz,okeStep.fzMap],fun m x=>Qi Y (Qi Y (Zr)),fun x=>Qi Y (Qi Y (Zr))⟩
def QY (x:D.Clue):Nat:=(zL ZV) x.Play
theorem Qnq : RK QlR Qh:=Qgq (YT QaI (Qmw QnB okeStep Y)) (fun _=>rfl)
noncomputable instance : DecidableEq D.Puzzle:=Classical.typeDecidableEq _
def QC (m:Bool) (x:D.Puzzle):List T:= [.int .i64 x.Grid.Rows, .int .i64 x.Grid.Cols, .str x.Grid.Cells, .sl m 2 (x.Clues.map (Qh m)), .sl m 1 (x.Seals.map (Qc m)), .int .i64 x.Salt]
theorem Y7 : EncOk QC 6:=⟨fun _ _=>rfl,fun x=>Qi (.int _ _) (Qi (.int _ _) (Qi (.str _) (Qi (.sl _ _ (okeClue.cleanMap _)) (Qi (.sl _ _ (okInt.cleanMap _)) (Qi (.int _ _) (Zr)))))),fun m x=>by simp only [QC,fzL,AE.fz,okInt.fzMap,okeClue.fzMap],fun m x=>Qi Y (Qi Y (Qi Y (Qi Y (Qi Y (Qi Y (Zr)))))),fun x=>Qi Y (Qi Y (Qi Y (Qi Y (Qi Y (Qi Y (Zr))))))⟩
def QK (x:D.Puzzle):Nat:=ZT x.Grid+(zL QY) x.Clues+(zL zI) x.Seals
theorem QkO : RK QhA QC:=Qgq (YT Qm5 (YT (Qmw Qnq okeClue Y) (YT (Qmw QaI okInt Y) QaI))) (fun _=>rfl)
noncomputable instance : DecidableEq D.Issue:=Classical.typeDecidableEq _
def Qe (m:Bool) (x:D.Issue):List T:= [.int .i64 x.Number, .int .i64 x.Puzzle.Grid.Rows, .int .i64 x.Puzzle.Grid.Cols, .str x.Puzzle.Grid.Cells, .sl m 2 (x.Puzzle.Clues.map (Qh m)), .sl m 1 (x.Puzzle.Seals.map (Qc m)), .int .i64 x.Puzzle.Salt, .str x.Fill, .int .i64 x.Open, .int .i64 x.Close]
theorem Q1 : EncOk Qe 10:=⟨fun _ _=>rfl,fun x=>Qi (.int _ _) (Qi (.int _ _) (Qi (.int _ _) (Qi (.str _) (Qi (.sl _ _ (okeClue.cleanMap _)) (Qi (.sl _ _ (okInt.cleanMap _)) (Qi (.int _ _) (Qi (.str _) (Qi (.int _ _) (Qi (.int _ _) (Zr)))))))))),fun m x=>by simp only [Qe,fzL,AE.fz,okInt.fzMap,okeClue.fzMap],fun m x=>Qi Y (Qi Y (Qi Y (Qi Y (Qi Y (Qi Y (Qi Y (Qi Y (Qi Y (Qi Y (Zr)))))))))),fun x=>Qi Y (Qi Y (Qi Y (Qi Y (Qi Y (Qi Y (Qi Y (Qi Y (Qi Y (Qi Y (Zr))))))))))⟩
def Q3 (x:D.Issue):Nat:=QK x.Puzzle+ByteArray.size x.Fill
theorem Qmh : RK QkT Qe:=Qgq (YT QaI (YT QkO (YT QjG (YT QaI QaI)))) (fun _=>rfl)
noncomputable instance : DecidableEq D.Entry:=Classical.typeDecidableEq _
def Qa (m:Bool) (x:D.Entry):List T:= [.int .i64 x.Player, .int .i64 x.Issue, .int .i64 x.Tick, .str x.Fill]
theorem okeEntry : EncOk Qa 4:=⟨fun _ _=>rfl,fun x=>Qi (.int _ _) (Qi (.int _ _) (Qi (.int _ _) (Qi (.str _) (Zr)))),fun m x=>by simp only [Qa,fzL,AE.fz],fun m x=>Qi Y (Qi Y (Qi Y (Qi Y (Zr)))),fun x=>Qi Y (Qi Y (Qi Y (Qi Y (Zr))))⟩
def Q7 (x:D.Entry):Nat:=ByteArray.size x.Fill
theorem Yy : QhW Qa:=fun _ _=>rfl
theorem Qmo : RK Qlz Qa:=Qgq (YT QaI (YT QaI (YT QaI QjG))) (fun _=>rfl)
noncomputable instance : DecidableEq D.Slot:=Classical.typeDecidableEq _
def Qj (m:Bool) (x:D.Slot):List T:= [.int .i64 x.Number, .bool x.Down, .int .i64 x.Cell, .int .i64 x.Length]
theorem okeSlot : EncOk Qj 4:=⟨fun _ _=>rfl,fun x=>Qi (.int _ _) (Qi (.bool _) (Qi (.int _ _) (Qi (.int _ _) (Zr)))),fun m x=>by simp only [Qj,fzL,AE.fz],fun m x=>Qi Y (Qi Y (Qi Y (Qi Y (Zr)))),fun x=>Qi Y (Qi Y (Qi Y (Qi Y (Zr))))⟩
theorem Ql2 (m:Bool) (x:D.Slot):SvL (Qj m x) [Value.int .i64 x.Number,Value.bool x.Down,Value.int .i64 x.Cell,Value.int .i64 x.Length]:= .cons (.int _ _) (.cons (.bool _) (.cons (.int _ _) (.cons (.int _ _) (.nil))))
theorem B.eql36 {call:QO} {E:Zc} {d:Option Tmp} {ty xt:TypeId} {ps:String} {af:Array Edge} {g:Option (Nat×Bool)} {x y:Operand} {a b:D.Grid} {m m':Bool} (hx:VEv E x (.agg (Qd m a))) (hy:VEv E y (.agg (Qd m' b))):OF call Tryz.prog E ⟨d, .binOp .eql 36 x y xt,ty,ps,af,g⟩ (.bool (decide (a=b))):=by
 obtain ⟨q,h1,h2⟩:=Qok a b x y
 have h3:q=decide (a=b):=by
  by_cases h:a=b
  ·rw [h2.2 h,decide_eq_true h]
  ·rw [decide_eq_false h]
   cases q
   ·rfl
   ·exact absurd (h2.1 Y) h
 exact h3▸OF.binA hx hy (Qlb _ a) (Qlb _ b) h1 (.bool _)
theorem B.neq112 {call:QO} {E:Zc} {d:Option Tmp} {ty xt:TypeId} {ps:String} {af:Array Edge} {g:Option (Nat×Bool)} {x y:Operand} {a b:D.Slot} {m m':Bool} (hx:VEv E x (.agg (Qj m a))) (hy:VEv E y (.agg (Qj m' b))):OF call Tryz.prog E ⟨d, .binOp .neq 112 x y xt,ty,ps,af,g⟩ (.bool (!decide (a=b))):=by
 obtain ⟨q,h1,h2⟩:=Qnc a b x y
 have h3:q=decide (a=b):=by
  by_cases h:a=b
  ·rw [h2.2 h,decide_eq_true h]
  ·rw [decide_eq_false h]
   cases q
   ·rfl
   ·exact absurd (h2.1 Y) h
 exact h3▸OF.binA hx hy (Ql2 _ a) (Ql2 _ b) h1 (.bool _)
theorem U3 : Tryz.prog.underlying 3=some (.int .i64):=Tryz.underlying3
theorem U4 : Tryz.prog.underlying 4=some .bool:=Tryz.underlying4
theorem U5 : Tryz.prog.underlying 5=some (.int .u8):=Tryz.underlying5
theorem U9 : Tryz.prog.underlying 9=some .string:=Tryz.underlying9
theorem U22 : Tryz.prog.underlying 22=some (.slice 52):=Tryz.underlying22
theorem U25 : Tryz.prog.underlying 25=some (.slice 82):=Tryz.underlying25
theorem Z1 : Tryz.prog.underlying 26=some (.slice 3):=Tryz.underlying26
theorem Yb : Tryz.prog.underlying 34=some (.slice 55):=Tryz.underlying34
theorem U37 : Tryz.prog.underlying 37=some (.slice 89):=Tryz.underlying37
theorem U76 : Tryz.prog.underlying 76=some (.slice 5):=Tryz.underlying76
theorem U80 : Tryz.prog.underlying 80=some (.slice 121):=Tryz.underlying80
theorem U87 : Tryz.prog.underlying 87=some (.slice 109):=Tryz.underlying87
theorem U94 : Tryz.prog.underlying 94=some (.slice 112):=Tryz.underlying94
theorem U98 : Tryz.prog.underlying 98=some (.slice 9):=Tryz.underlying98
theorem Qfd : Tryz.prog.underlying 116=some (.slice 26):=Tryz.underlying116
theorem Qiv : Tryz.prog.underlying 124=some (.int .u64):=Tryz.underlying124
theorem QoF : Tryz.prog.underlying 140=some (.map 3 3):=Tryz.underlying140
theorem Jz : Tryz.prog.underlying 143=some (.slice 4):=Tryz.underlying143
set_option maxRecDepth 20000
set_option maxHeartbeats 2000000
theorem Qf5 (n:Nat) (a:List Int) (left:Int) (h0:0≤left) (h1:left≤(mx:Int)) (hg:a.length≤maxLen):Pure (Qs Tryz.prog (n+1)) 34 [(rd 1 Qc a),(tI left)] (tI (ZF (zL zI a) left)):=by
 refine Pure.intro (rs:= [ResultVar.tmp 4]) Tryz.func34 Y Y Y (E0:= [(0,(rd 1 Qc a)),(1,(tI left))]) Y ?_
 obtain ⟨hlim,hmx,hmax⟩:=QA
 refine sr (fO (OF.assign (VEv.int .i64 0)) (nt (sr (mO (tI left) Y (mO (rd 1 Qc a) Y (lO (B.lenR (m:=a.length) (tv (rd 1 Qc a) Y) Z1 (List.length_map ..)) (fO (B.sub (n:=(left - ((a.length:Nat):Int))) (tv (tI left) Y) (tv (tN a.length) Y) (by (rw [Qt (by omega)];done))) (aO (tI (left - ((a.length:Nat):Int))) Y (nt (sq (sr ?_)))))))))))
 refine mO (tI (left - ((a.length:Nat):Int))) Y (fO (xls (tv (tI (left - ((a.length:Nat):Int))) Y) (VEv.int .i64 0)) (nt ?_))
 refine cd ((left - ((a.length:Nat):Int))<0) Y (fun fhc0=> ?_) fun fhc0=> ?_
 ·refine sr ?_
  refine fO (OF.assign (VEv.int .i64 (-1))) (nt (rt (tr (vi (n':=(-1)) Y ?_))))
  exact SzI.early fhc0
 refine sk (tn (sr (mO (tI (left - ((a.length:Nat):Int))) Y (aO (tI (left - ((a.length:Nat):Int))) Y (nt (rt (vi (n':=(left - ((a.length:Nat):Int))) Y ?_)))))))
 rw [Qmr (z:=zI) (fun _=>rfl)];exact QbK fhc0
theorem QfT (n:Nat) (a:D.Grid) (left:Int) (h0:0≤left) (h1:left≤(mx:Int)) (hg:Qlo a):Pure (Qs Tryz.prog (n+1)) 32 [(T.agg (Qd false a)),(tI left)] (tI (ZF (ZT a) left)):=by
 refine Pure.intro (rs:= [ResultVar.tmp 4]) Tryz.func32 Y Y Y (E0:= [(0,(T.agg (Qd false a))),(1,(tI left))]) Y ?_
 obtain ⟨hlim,hmx,hmax⟩:=QA
 obtain ⟨hg0,hg1,hg2⟩:=hg
 refine sr (kO (B.box (ts:=(Qd false a)) (tv (T.agg (Qd false a)) Y) nofun Y) (fO (OF.assign (VEv.int .i64 0)) (nt (sr (mO (tI left) Y (lf (tS a.Cells) Y Qlj Y Y YD (lO (B.lenS (tv (tS a.Cells) Y) U9) (fO (B.sub (n:=(left - ((a.Cells.size:Nat):Int))) (tv (tI left) Y) (tv (tN a.Cells.size) Y) (by (rw [Qt (by omega)];done))) (aO (tI (left - ((a.Cells.size:Nat):Int))) Y (nt (sq ?_)))))))))))
 refine sr (mO (tI (left - ((a.Cells.size:Nat):Int))) Y (fO (xls (tv (tI (left - ((a.Cells.size:Nat):Int))) Y) (VEv.int .i64 0)) (nt ?_)))
 refine cd ((left - ((a.Cells.size:Nat):Int))<0) Y (fun fhc0=> ?_) fun fhc0=> ?_
 ·refine sr ?_
  refine fO (OF.assign (VEv.int .i64 (-1))) (nt (rt (tr (vi (n':=(-1)) Y ?_))))
  exact Jh (by simp only [ZT];omega)
 refine sk (tn (sr (mO (tI (left - ((a.Cells.size:Nat):Int))) Y (aO (tI (left - ((a.Cells.size:Nat):Int))) Y (nt (rt (vi (n':=(left - ((a.Cells.size:Nat):Int))) Y ?_)))))))
 rw [← QbK (z:=ZT a) (l:=left) (by simp only [ZT];omega)]
 all_goals rfl
theorem Qgj (n:Nat) (a:D.Step) (left:Int) (h0:0≤left) (h1:left≤(mx:Int)) (hg:Qjs a):Pure (Qs Tryz.prog (n+1)) 88 [(T.agg (Ql false a)),(tI left)] (tI (ZF (ZV a) left)):=by
 refine Pure.intro (rs:= [ResultVar.tmp 4]) Tryz.func88 Y Y Y (E0:= [(0,(T.agg (Ql false a))),(1,(tI left))]) Y ?_
 obtain ⟨hlim,hmx,hmax⟩:=QA
 obtain ⟨hg0,hg1,hg2,hg3⟩:=hg
 refine sr (kO (B.box (ts:=(Ql false a)) (tv (T.agg (Ql false a)) Y) nofun Y) (fO (OF.assign (VEv.int .i64 0)) (nt (sr (mO (tI left) Y (lf (tS a.Word) Y Qjm Y Y YD (lO (B.lenS (tv (tS a.Word) Y) U9) (fO (B.sub (n:=(left - ((a.Word.size:Nat):Int))) (tv (tI left) Y) (tv (tN a.Word.size) Y) (by (rw [Qt (by omega)];done))) (aO (tI (left - ((a.Word.size:Nat):Int))) Y (nt (sq ?_)))))))))))
 refine sr (mO (tI (left - ((a.Word.size:Nat):Int))) Y (fO (xls (tv (tI (left - ((a.Word.size:Nat):Int))) Y) (VEv.int .i64 0)) (nt ?_)))
 refine cd ((left - ((a.Word.size:Nat):Int))<0) Y (fun fhc0=> ?_) fun fhc0=> ?_
 ·refine sr ?_
  refine fO (OF.assign (VEv.int .i64 (-1))) (nt (rt (tr (vi (n':=(-1)) Y ?_))))
  exact Jh (by simp only [ZV];omega)
 refine sk (tn (sr (mO (tI (left - ((a.Word.size:Nat):Int))) Y (aO (tI (left - ((a.Word.size:Nat):Int))) Y (nt (rt (vi (n':=(left - ((a.Word.size:Nat):Int))) Y ?_)))))))
 rw [← QbK (z:=ZV a) (l:=left) (by simp only [ZV];omega)]
 all_goals rfl
theorem Qfr (n:Nat) (a:List D.Step) (left:Int) (h0:0≤left) (h1:left≤(mx:Int)) (hg:a.length≤maxLen∧∀x∈a,Qjs x):Pure (Qs Tryz.prog (n+2)) 69 [(rd 4 Ql a),(tI left)] (tI (ZF (zL ZV a) left)):=by
 refine Pure.intro (rs:= [ResultVar.tmp 4]) Tryz.func69 Y Y Y (E0:= [(0,(rd 4 Ql a)),(1,(tI left))]) Y ?_
 obtain ⟨hlim,hmx,hmax⟩:=QA
 obtain ⟨hg1,hg2⟩:=hg
 refine sr (fO (OF.assign (VEv.int .i64 0)) (nt (sr (mO (tI left) Y (mO (rd 4 Ql a) Y (lO (B.lenR (m:=a.length) (tv (rd 4 Ql a) Y) U80 (List.length_map ..)) (fO (B.sub (n:=(left - ((a.length:Nat):Int))) (tv (tI left) Y) (tv (tN a.length) Y) (by (rw [Qt (by omega)];done))) (aO (tI (left - ((a.length:Nat):Int))) Y (nt (sq (sr ?_)))))))))))
 refine mO (tI (left - ((a.length:Nat):Int))) Y (fO (xls (tv (tI (left - ((a.length:Nat):Int))) Y) (VEv.int .i64 0)) (nt ?_))
 refine cd ((left - ((a.length:Nat):Int))<0) Y (fun fhc0=> ?_) fun fhc0=> ?_
 ·refine sr ?_
  refine fO (OF.assign (VEv.int .i64 (-1))) (nt (rt (tr (vi (n':=(-1)) Y ?_))))
  exact SzI.early fhc0
 refine sk (tn (sq (sr (fO (OF.assign (VEv.int .i64 0)) (nt (VRun.block ?_))))))
 refine VRun.loop (A:=Nat×Int) (fun s_=> [(0,(rd 4 Ql a)),(1,(tI s_.2)),(5,(tN s_.1))]) (fun s_=>QV []) 0 (fun s_=>SzI ZV a left s_.1 s_.2) (fun s_=>a.length - s_.1) ((0,left - (a.length:Int)):Nat×Int) ?_ (Wk.mk (fun k=>k) ?_ ?_ ?_) ?_
 ·exact SzI.start h1 fhc0
 ·exact (b2 (bc ⟨(congrArg (T.int .i64) (show (left - ((a.length:Nat):Int))=(left - (a.length:Int)) from (by rfl))),rfl⟩ (b2 bn)))
 ·exact bn
 ·exact nd Y
 rintro ⟨i,r⟩ (hI':SzI ZV a left i r)
 show VRun _ _ _ [(0,(rd 4 Ql a)),(1,(tI r)),(5,(tN i))] (QV []) 0 _
 have hI2:=hI'.1
 have hI3:=hI'.2.1
 have hI4:=hI'.2.2.1
 refine sq (sr (mO (tN i) Y (mO (rd 4 Ql a) Y (lO (B.lenR (m:=a.length) (tv (rd 4 Ql a) Y) U80 (List.length_map ..)) (fO (Q5 (tv (tN i) Y) (tv (tN a.length) Y)) (nt ?_))))))
 refine cd (i<a.length) Y (fun fhc1=> ?_) fun fhc1=> ?_
 ·refine sk ?_
  refine tn (sq (VRun.block (sr (mO (rd 4 Ql a) Y (mO (tN i) Y ?_)))))
  obtain ⟨x1,hx1⟩:∃x,a[i]? =some x:=⟨_,List.getElem?_eq_getElem (by omega)⟩
  refine fO (OF.indexAddrR (row:=(Ql false x1)) (i:=i) (tv (rd 4 Ql a) Y) (tv (tN i) Y) Y (Qr _ hx1) U80 Qjr QmS) (lO (OL.loadRn (us:=(Ql false x1)) (tv (T.rp (Ql false x1)) Y) QmO Qjr (lb Y) Y) (mO (tI r) Y (cO (cS (vc (tv (T.agg (Ql false x1)) Y) (vc (tv (tI r) Y) vn)) (LendL.cons (lg okeStep) (lp Y ln)) (Qgj (n+0) x1 r (by assumption) (by assumption) (by exact hg2 _ (List.mem_of_getElem? hx1))) Y Y) (aO (tI (ZF (ZV x1) r)) Y (nt (sr (mO (tI (ZF (ZV x1) r)) Y (fO (xls (tv (tI (ZF (ZV x1) r)) Y) (VEv.int .i64 0)) (nt ?_)))))))))
  refine cd (ZF (ZV x1) r<0) Y (fun fhc2=> ?_) fun fhc2=> ?_
  ·refine sr ?_
   refine fO (OF.assign (VEv.int .i64 (-1))) (nt (rt (vinB.r (tr (tr (vinB.r (tr (vi (n':=(-1)) Y ?_))))))))
   exact hI'.bad hx1 fhc2
  refine sk (vinB.n (tn (VRun.region (mO (tN i) Y (fO (Qx (tv (tN i) Y) (VEv.int .i64 1) (by omega)) (aO (tN (i+1)) Y (VRunO.nil (tn ?_))))))))
  refine ⟨((i+1,ZF (ZV x1) r):Nat×Int),?_,?_,Wk.mk (fun k=>k) ?_ ?_ ?_⟩
  ·exact hI'.next hx1 fhc2
  ·omega
  ·exact (b2 (b2 (b2 bn)))
  ·exact bn
  ·exact nd Y
 refine VRun.exit (vthn.e (vthn.e (vinB.e (tn (sr (mO (tI r) Y (aO (tI r) Y (nt (rt (vi (n':=r) Y ?_))))))))))
 exact hI'.done fhc1
theorem Qf2 (n:Nat) (a:D.Clue) (left:Int) (h0:0≤left) (h1:left≤(mx:Int)) (hg:QjV a):Pure (Qs Tryz.prog (n+3)) 51 [(T.agg (Qh false a)),(tI left)] (tI (ZF (QY a) left)):=by
 refine Pure.intro (rs:= [ResultVar.tmp 4]) Tryz.func51 Y Y Y (E0:= [(0,(T.agg (Qh false a))),(1,(tI left))]) Y ?_
 obtain ⟨hlim,hmx,hmax⟩:=QA
 obtain ⟨hg0,hg1⟩:=hg
 refine sr (kO (B.box (ts:=(Qh false a)) (tv (T.agg (Qh false a)) Y) nofun Y) (fO (OF.assign (VEv.int .i64 0)) (nt (sr (lf (rd 4 Ql a.Play) Y Qk5 Y Y QoD (mO (tI left) Y (cO (cS (vc (tv (rd 4 Ql a.Play) Y) (vc (tv (tI left) Y) vn)) (Z8 Y) (Qfr (n+0) a.Play left (by assumption) (by assumption) (by assumption)) Y Y) (aO (tI (ZF (zL ZV a.Play) left)) Y (nt (sq (sr ?_)))))))))))
 refine mO (tI (ZF (zL ZV a.Play) left)) Y (fO (xls (tv (tI (ZF (zL ZV a.Play) left)) Y) (VEv.int .i64 0)) (nt ?_))
 refine cd (ZF (zL ZV a.Play) left<0) Y (fun fhc0=> ?_) fun fhc0=> ?_
 ·refine sr ?_
  refine fO (OF.assign (VEv.int .i64 (-1))) (nt (rt (tr (vi (n':=(-1)) Y ?_))))
  exact Jh (by have hlt:=Qdw fhc0;simp only [QY];omega)
 have hq0:=Qay fhc0
 refine sk (tn (sr (mO (tI (ZF (zL ZV a.Play) left)) Y (aO (tI (ZF (zL ZV a.Play) left)) Y (nt (rt (vi (n':=ZF (zL ZV a.Play) left) Y ?_)))))))
 rw [← QbK (z:=QY a) (l:=left) (by simp only [QY];omega)]
 all_goals (simp only [QY];omega)
theorem QeV (n:Nat) (a:List D.Clue) (left:Int) (h0:0≤left) (h1:left≤(mx:Int)) (hg:a.length≤maxLen∧∀x∈a,QjV x):Pure (Qs Tryz.prog (n+4)) 33 [(rd 2 Qh a),(tI left)] (tI (ZF (zL QY a) left)):=by
 refine Pure.intro (rs:= [ResultVar.tmp 4]) Tryz.func33 Y Y Y (E0:= [(0,(rd 2 Qh a)),(1,(tI left))]) Y ?_
 obtain ⟨hlim,hmx,hmax⟩:=QA
 obtain ⟨hg1,hg2⟩:=hg
 refine sr (fO (OF.assign (VEv.int .i64 0)) (nt (sr (mO (tI left) Y (mO (rd 2 Qh a) Y (lO (B.lenR (m:=a.length) (tv (rd 2 Qh a) Y) U25 (List.length_map ..)) (fO (B.sub (n:=(left - ((a.length:Nat):Int))) (tv (tI left) Y) (tv (tN a.length) Y) (by (rw [Qt (by omega)];done))) (aO (tI (left - ((a.length:Nat):Int))) Y (nt (sq (sr ?_)))))))))))
 refine mO (tI (left - ((a.length:Nat):Int))) Y (fO (xls (tv (tI (left - ((a.length:Nat):Int))) Y) (VEv.int .i64 0)) (nt ?_))
 refine cd ((left - ((a.length:Nat):Int))<0) Y (fun fhc0=> ?_) fun fhc0=> ?_
 ·refine sr ?_
  refine fO (OF.assign (VEv.int .i64 (-1))) (nt (rt (tr (vi (n':=(-1)) Y ?_))))
  exact SzI.early fhc0
 refine sk (tn (sq (sr (fO (OF.assign (VEv.int .i64 0)) (nt (VRun.block ?_))))))
 refine VRun.loop (A:=Nat×Int) (fun s_=> [(0,(rd 2 Qh a)),(1,(tI s_.2)),(5,(tN s_.1))]) (fun s_=>QV []) 0 (fun s_=>SzI QY a left s_.1 s_.2) (fun s_=>a.length - s_.1) ((0,left - (a.length:Int)):Nat×Int) ?_ (Wk.mk (fun k=>k) ?_ ?_ ?_) ?_
 ·exact SzI.start h1 fhc0
 ·exact (b2 (bc ⟨(congrArg (T.int .i64) (show (left - ((a.length:Nat):Int))=(left - (a.length:Int)) from (by rfl))),rfl⟩ (b2 bn)))
 ·exact bn
 ·exact nd Y
 rintro ⟨i,r⟩ (hI':SzI QY a left i r)
 show VRun _ _ _ [(0,(rd 2 Qh a)),(1,(tI r)),(5,(tN i))] (QV []) 0 _
 have hI2:=hI'.1
 have hI3:=hI'.2.1
 have hI4:=hI'.2.2.1
 refine sq (sr (mO (tN i) Y (mO (rd 2 Qh a) Y (lO (B.lenR (m:=a.length) (tv (rd 2 Qh a) Y) U25 (List.length_map ..)) (fO (Q5 (tv (tN i) Y) (tv (tN a.length) Y)) (nt ?_))))))
 refine cd (i<a.length) Y (fun fhc1=> ?_) fun fhc1=> ?_
 ·refine sk ?_
  refine tn (sq (VRun.block (sr (mO (rd 2 Qh a) Y (mO (tN i) Y ?_)))))
  obtain ⟨x1,hx1⟩:∃x,a[i]? =some x:=⟨_,List.getElem?_eq_getElem (by omega)⟩
  refine fO (OF.indexAddrR (row:=(Qh false x1)) (i:=i) (tv (rd 2 Qh a) Y) (tv (tN i) Y) Y (Qr _ hx1) U25 Qms Qoe) (lO (OL.loadRn (us:=(Qh false x1)) (tv (T.rp (Qh false x1)) Y) QoE Qms (lb Y) Y) (mO (tI r) Y (cO (cS (vc (tv (T.agg (Qh false x1)) Y) (vc (tv (tI r) Y) vn)) (LendL.cons (lg okeClue) (lp Y ln)) (Qf2 (n+0) x1 r (by assumption) (by assumption) (by exact hg2 _ (List.mem_of_getElem? hx1))) Y Y) (aO (tI (ZF (QY x1) r)) Y (nt (sr (mO (tI (ZF (QY x1) r)) Y (fO (xls (tv (tI (ZF (QY x1) r)) Y) (VEv.int .i64 0)) (nt ?_)))))))))
  refine cd (ZF (QY x1) r<0) Y (fun fhc2=> ?_) fun fhc2=> ?_
  ·refine sr ?_
   refine fO (OF.assign (VEv.int .i64 (-1))) (nt (rt (vinB.r (tr (tr (vinB.r (tr (vi (n':=(-1)) Y ?_))))))))
   exact hI'.bad hx1 fhc2
  refine sk (vinB.n (tn (VRun.region (mO (tN i) Y (fO (Qx (tv (tN i) Y) (VEv.int .i64 1) (by omega)) (aO (tN (i+1)) Y (VRunO.nil (tn ?_))))))))
  refine ⟨((i+1,ZF (QY x1) r):Nat×Int),?_,?_,Wk.mk (fun k=>k) ?_ ?_ ?_⟩
  ·exact hI'.next hx1 fhc2
  ·omega
  ·exact (b2 (b2 (b2 bn)))
  ·exact bn
  ·exact nd Y
 refine VRun.exit (vthn.e (vthn.e (vinB.e (tn (sr (mO (tI r) Y (aO (tI r) Y (nt (rt (vi (n':=r) Y ?_))))))))))
 exact hI'.done fhc1
theorem QeD (n:Nat) (a:D.Puzzle) (left:Int) (h0:0≤left) (h1:left≤(mx:Int)) (hg:Qhj a):Pure (Qs Tryz.prog (n+5)) 21 [(T.agg (QC false a)),(tI left)] (tI (ZF (QK a) left)):=by
 refine Pure.intro (rs:= [ResultVar.tmp 4]) Tryz.func21 Y Y Y (E0:= [(0,(T.agg (QC false a))),(1,(tI left))]) Y ?_
 obtain ⟨hlim,hmx,hmax⟩:=QA
 obtain ⟨hg0,hg1,hg2,hg3⟩:=hg
 refine sr (kO (B.box (ts:=(QC false a)) (tv (T.agg (QC false a)) Y) nofun Y) (fO (OF.assign (VEv.int .i64 0)) (nt (sr (fO (OF.fieldAddrO (tv (T.op 0 0) Y) QlL) (lO (OL.loadOn (us:=(Qd false a.Grid)) (tv (T.op 0 0) Y) Y Qou Qnm (lb Y) Y) (mO (tI left) Y (cO (cS (vc (tv (T.agg (Qd false a.Grid)) Y) (vc (tv (tI left) Y) vn)) (LendL.cons (lg Qu) (lp Y ln)) (QfT (n+3) a.Grid left (by assumption) (by assumption) (by assumption)) Y Y) (aO (tI (ZF (ZT a.Grid) left)) Y (nt (sq ?_)))))))))))
 refine sr (mO (tI (ZF (ZT a.Grid) left)) Y (fO (xls (tv (tI (ZF (ZT a.Grid) left)) Y) (VEv.int .i64 0)) (nt ?_)))
 refine cd (ZF (ZT a.Grid) left<0) Y (fun fhc0=> ?_) fun fhc0=> ?_
 ·refine sr ?_
  refine fO (OF.assign (VEv.int .i64 (-1))) (nt (rt (tr (vi (n':=(-1)) Y ?_))))
  exact Jh (by have hlt:=Qdw fhc0;simp only [QK];omega)
 have hq0:=Qay fhc0
 refine sk (tn (sr (lf (rd 2 Qh a.Clues) Y QlU Y Y Qoz (mO (tI (ZF (ZT a.Grid) left)) Y (cO (cS (vc (tv (rd 2 Qh a.Clues) Y) (vc (tv (tI (ZF (ZT a.Grid) left)) Y) vn)) (Z8 Y) (QeV (n+0) a.Clues (ZF (ZT a.Grid) left) (by omega) (by omega) (by assumption)) Y Y) (aO (tI (ZF (zL QY a.Clues) (ZF (ZT a.Grid) left))) Y (nt (sq (sr (mO (tI (ZF (zL QY a.Clues) (ZF (ZT a.Grid) left))) Y (fO (xls (tv (tI (ZF (zL QY a.Clues) (ZF (ZT a.Grid) left))) Y) (VEv.int .i64 0)) ?_)))))))))))
 refine nt ?_
 refine cd (ZF (zL QY a.Clues) (ZF (ZT a.Grid) left)<0) Y (fun fhc1=> ?_) fun fhc1=> ?_
 ·refine sr ?_
  refine fO (OF.assign (VEv.int .i64 (-1))) (nt (rt (tr (vi (n':=(-1)) Y ?_))))
  exact Jh (by have hlt:=Qdw fhc1;simp only [QK];omega)
 have hq1:=Qay fhc1
 refine sk (tn (sr (lf (rd 1 Qc a.Seals) Y QlZ Y Y Qcm (mO (tI (ZF (zL QY a.Clues) (ZF (ZT a.Grid) left))) Y (cO (cS (vc (tv (rd 1 Qc a.Seals) Y) (vc (tv (tI (ZF (zL QY a.Clues) (ZF (ZT a.Grid) left))) Y) vn)) (Z8 Y) (Qf5 (n+3) a.Seals (ZF (zL QY a.Clues) (ZF (ZT a.Grid) left)) (by omega) (by omega) (by omega)) Y Y) (aO (tI (ZF (zL zI a.Seals) (ZF (zL QY a.Clues) (ZF (ZT a.Grid) left)))) Y (nt (sq (sr (mO (tI (ZF (zL zI a.Seals) (ZF (zL QY a.Clues) (ZF (ZT a.Grid) left)))) Y (fO (xls (tv (tI (ZF (zL zI a.Seals) (ZF (zL QY a.Clues) (ZF (ZT a.Grid) left)))) Y) (VEv.int .i64 0)) ?_)))))))))))
 refine nt ?_
 refine cd (ZF (zL zI a.Seals) (ZF (zL QY a.Clues) (ZF (ZT a.Grid) left))<0) Y (fun fhc2=> ?_) fun fhc2=> ?_
 ·refine sr ?_
  refine fO (OF.assign (VEv.int .i64 (-1))) (nt (rt (tr (vi (n':=(-1)) Y ?_))))
  exact Jh (by have hlt:=Qdw fhc2;simp only [QK];omega)
 have hq2:=Qay fhc2
 refine sk (tn (sr (mO (tI (ZF (zL zI a.Seals) (ZF (zL QY a.Clues) (ZF (ZT a.Grid) left)))) Y (aO (tI (ZF (zL zI a.Seals) (ZF (zL QY a.Clues) (ZF (ZT a.Grid) left)))) Y (nt (rt (vi (n':=ZF (zL zI a.Seals) (ZF (zL QY a.Clues) (ZF (ZT a.Grid) left))) Y ?_)))))))
 rw [← QbK (z:=QK a) (l:=left) (by simp only [QK];omega)]
 all_goals (simp only [QK];omega)
theorem Qfe (n:Nat) (a:D.Issue) (left:Int) (h0:0≤left) (h1:left≤(mx:Int)) (hg:Qi3 a):Pure (Qs Tryz.prog (n+6)) 6 [(T.agg (Qe false a)),(tI left)] (tI (ZF (Q3 a) left)):=by
 refine Pure.intro (rs:= [ResultVar.tmp 4]) Tryz.func6 Y Y Y (E0:= [(0,(T.agg (Qe false a))),(1,(tI left))]) Y ?_
 obtain ⟨hlim,hmx,hmax⟩:=QA
 obtain ⟨hg0,hg1,hg2,hg3,hg4⟩:=hg
 refine sr (kO (B.box (ts:=(Qe false a)) (tv (T.agg (Qe false a)) Y) nofun Y) (fO (OF.assign (VEv.int .i64 0)) (nt (sr (fO (OF.fieldAddrO (tv (T.op 0 0) Y) QkG) (lO (OL.loadOn (us:=(QC false a.Puzzle)) (tv (T.op 0 1) Y) Y Qoy Qno (lb Y) Y) (mO (tI left) Y (cO (cS (vc (tv (T.agg (QC false a.Puzzle)) Y) (vc (tv (tI left) Y) vn)) (LendL.cons (lg Y7) (lp Y ln)) (QeD (n+0) a.Puzzle left (by assumption) (by assumption) (by assumption)) Y Y) (aO (tI (ZF (QK a.Puzzle) left)) Y (nt (sq ?_)))))))))))
 refine sr (mO (tI (ZF (QK a.Puzzle) left)) Y (fO (xls (tv (tI (ZF (QK a.Puzzle) left)) Y) (VEv.int .i64 0)) (nt ?_)))
 refine cd (ZF (QK a.Puzzle) left<0) Y (fun fhc0=> ?_) fun fhc0=> ?_
 ·refine sr ?_
  refine fO (OF.assign (VEv.int .i64 (-1))) (nt (rt (tr (vi (n':=(-1)) Y ?_))))
  exact Jh (by have hlt:=Qdw fhc0;simp only [Q3];omega)
 have hq0:=Qay fhc0
 refine sk (tn (sr (mO (tI (ZF (QK a.Puzzle) left)) Y (lf (tS a.Fill) Y QkM Y Y YD (lO (B.lenS (tv (tS a.Fill) Y) U9) (fO (B.sub (n:=(ZF (QK a.Puzzle) left - ((a.Fill.size:Nat):Int))) (tv (tI (ZF (QK a.Puzzle) left)) Y) (tv (tN a.Fill.size) Y) (by (rw [Qt (by omega)];done))) (aO (tI (ZF (QK a.Puzzle) left - ((a.Fill.size:Nat):Int))) Y (nt (sq (sr (mO (tI (ZF (QK a.Puzzle) left - ((a.Fill.size:Nat):Int))) Y ?_)))))))))))
 refine fO (xls (tv (tI (ZF (QK a.Puzzle) left - ((a.Fill.size:Nat):Int))) Y) (VEv.int .i64 0)) (nt ?_)
 refine cd ((ZF (QK a.Puzzle) left - ((a.Fill.size:Nat):Int))<0) Y (fun fhc1=> ?_) fun fhc1=> ?_
 ·refine sr ?_
  refine fO (OF.assign (VEv.int .i64 (-1))) (nt (rt (tr (vi (n':=(-1)) Y ?_))))
  exact Jh (by simp only [Q3];omega)
 refine sk (tn (sr (mO (tI (ZF (QK a.Puzzle) left - ((a.Fill.size:Nat):Int))) Y (aO (tI (ZF (QK a.Puzzle) left - ((a.Fill.size:Nat):Int))) Y (nt (rt (vi (n':=(ZF (QK a.Puzzle) left - ((a.Fill.size:Nat):Int))) Y ?_)))))))
 rw [← QbK (z:=Q3 a) (l:=left) (by simp only [Q3];omega)]
 all_goals (simp only [Q3];omega)
theorem QeT (n:Nat) (a:D.Entry) (left:Int) (h0:0≤left) (h1:left≤(mx:Int)) (hg:Qhd a):Pure (Qs Tryz.prog (n+1)) 20 [(T.agg (Qa false a)),(tI left)] (tI (ZF (Q7 a) left)):=by
 refine Pure.intro (rs:= [ResultVar.tmp 4]) Tryz.func20 Y Y Y (E0:= [(0,(T.agg (Qa false a))),(1,(tI left))]) Y ?_
 obtain ⟨hlim,hmx,hmax⟩:=QA
 obtain ⟨hg0,hg1,hg2,hg3⟩:=hg
 refine sr (kO (B.box (ts:=(Qa false a)) (tv (T.agg (Qa false a)) Y) nofun Y) (fO (OF.assign (VEv.int .i64 0)) (nt (sr (mO (tI left) Y (lf (tS a.Fill) Y QkI Y Y YD (lO (B.lenS (tv (tS a.Fill) Y) U9) (fO (B.sub (n:=(left - ((a.Fill.size:Nat):Int))) (tv (tI left) Y) (tv (tN a.Fill.size) Y) (by (rw [Qt (by omega)];done))) (aO (tI (left - ((a.Fill.size:Nat):Int))) Y (nt (sq ?_)))))))))))
 refine sr (mO (tI (left - ((a.Fill.size:Nat):Int))) Y (fO (xls (tv (tI (left - ((a.Fill.size:Nat):Int))) Y) (VEv.int .i64 0)) (nt ?_)))
 refine cd ((left - ((a.Fill.size:Nat):Int))<0) Y (fun fhc0=> ?_) fun fhc0=> ?_
 ·refine sr ?_
  refine fO (OF.assign (VEv.int .i64 (-1))) (nt (rt (tr (vi (n':=(-1)) Y ?_))))
  exact Jh (by simp only [Q7];omega)
 refine sk (tn (sr (mO (tI (left - ((a.Fill.size:Nat):Int))) Y (aO (tI (left - ((a.Fill.size:Nat):Int))) Y (nt (rt (vi (n':=(left - ((a.Fill.size:Nat):Int))) Y ?_)))))))
 rw [← QbK (z:=Q7 a) (l:=left) (by simp only [Q7];omega)]
 all_goals rfl
theorem QeF (n:Nat) (a:List D.Entry) (left:Int) (h0:0≤left) (h1:left≤(mx:Int)) (hg:a.length≤maxLen∧∀x∈a,Qhd x):Pure (Qs Tryz.prog (n+2)) 5 [(rd 4 Qa a),(tI left)] (tI (ZF (zL Q7 a) left)):=by
 refine Pure.intro (rs:= [ResultVar.tmp 4]) Tryz.func5 Y Y Y (E0:= [(0,(rd 4 Qa a)),(1,(tI left))]) Y ?_
 obtain ⟨hlim,hmx,hmax⟩:=QA
 obtain ⟨hg1,hg2⟩:=hg
 refine sr (fO (OF.assign (VEv.int .i64 0)) (nt (sr (mO (tI left) Y (mO (rd 4 Qa a) Y (lO (B.lenR (m:=a.length) (tv (rd 4 Qa a) Y) U22 (List.length_map ..)) (fO (B.sub (n:=(left - ((a.length:Nat):Int))) (tv (tI left) Y) (tv (tN a.length) Y) (by (rw [Qt (by omega)];done))) (aO (tI (left - ((a.length:Nat):Int))) Y (nt (sq (sr ?_)))))))))))
 refine mO (tI (left - ((a.length:Nat):Int))) Y (fO (xls (tv (tI (left - ((a.length:Nat):Int))) Y) (VEv.int .i64 0)) (nt ?_))
 refine cd ((left - ((a.length:Nat):Int))<0) Y (fun fhc0=> ?_) fun fhc0=> ?_
 ·refine sr ?_
  refine fO (OF.assign (VEv.int .i64 (-1))) (nt (rt (tr (vi (n':=(-1)) Y ?_))))
  exact SzI.early fhc0
 refine sk (tn (sq (sr (fO (OF.assign (VEv.int .i64 0)) (nt (VRun.block ?_))))))
 refine VRun.loop (A:=Nat×Int) (fun s_=> [(0,(rd 4 Qa a)),(1,(tI s_.2)),(5,(tN s_.1))]) (fun s_=>QV []) 0 (fun s_=>SzI Q7 a left s_.1 s_.2) (fun s_=>a.length - s_.1) ((0,left - (a.length:Int)):Nat×Int) ?_ (Wk.mk (fun k=>k) ?_ ?_ ?_) ?_
 ·exact SzI.start h1 fhc0
 ·exact (b2 (bc ⟨(congrArg (T.int .i64) (show (left - ((a.length:Nat):Int))=(left - (a.length:Int)) from (by rfl))),rfl⟩ (b2 bn)))
 ·exact bn
 ·exact nd Y
 rintro ⟨i,r⟩ (hI':SzI Q7 a left i r)
 show VRun _ _ _ [(0,(rd 4 Qa a)),(1,(tI r)),(5,(tN i))] (QV []) 0 _
 have hI2:=hI'.1
 have hI3:=hI'.2.1
 have hI4:=hI'.2.2.1
 refine sq (sr (mO (tN i) Y (mO (rd 4 Qa a) Y (lO (B.lenR (m:=a.length) (tv (rd 4 Qa a) Y) U22 (List.length_map ..)) (fO (Q5 (tv (tN i) Y) (tv (tN a.length) Y)) (nt ?_))))))
 refine cd (i<a.length) Y (fun fhc1=> ?_) fun fhc1=> ?_
 ·refine sk ?_
  refine tn (sq (VRun.block (sr (mO (rd 4 Qa a) Y (mO (tN i) Y ?_)))))
  obtain ⟨x1,hx1⟩:∃x,a[i]? =some x:=⟨_,List.getElem?_eq_getElem (by omega)⟩
  refine fO (OF.indexAddrR (row:=(Qa false x1)) (i:=i) (tv (rd 4 Qa a) Y) (tv (tN i) Y) Y (Qr _ hx1) U22 QmK Qom) (lO (OL.loadRn (us:=(Qa false x1)) (tv (T.rp (Qa false x1)) Y) Qop QmK (lb Y) Y) (mO (tI r) Y (cO (cS (vc (tv (T.agg (Qa false x1)) Y) (vc (tv (tI r) Y) vn)) (LendL.cons (lg okeEntry) (lp Y ln)) (QeT (n+0) x1 r (by assumption) (by assumption) (by exact hg2 _ (List.mem_of_getElem? hx1))) Y Y) (aO (tI (ZF (Q7 x1) r)) Y (nt (sr (mO (tI (ZF (Q7 x1) r)) Y (fO (xls (tv (tI (ZF (Q7 x1) r)) Y) (VEv.int .i64 0)) (nt ?_)))))))))
  refine cd (ZF (Q7 x1) r<0) Y (fun fhc2=> ?_) fun fhc2=> ?_
  ·refine sr ?_
   refine fO (OF.assign (VEv.int .i64 (-1))) (nt (rt (vinB.r (tr (tr (vinB.r (tr (vi (n':=(-1)) Y ?_))))))))
   exact hI'.bad hx1 fhc2
  refine sk (vinB.n (tn (VRun.region (mO (tN i) Y (fO (Qx (tv (tN i) Y) (VEv.int .i64 1) (by omega)) (aO (tN (i+1)) Y (VRunO.nil (tn ?_))))))))
  refine ⟨((i+1,ZF (Q7 x1) r):Nat×Int),?_,?_,Wk.mk (fun k=>k) ?_ ?_ ?_⟩
  ·exact hI'.next hx1 fhc2
  ·omega
  ·exact (b2 (b2 (b2 bn)))
  ·exact bn
  ·exact nd Y
 refine VRun.exit (vthn.e (vthn.e (vinB.e (tn (sr (mO (tI r) Y (aO (tI r) Y (nt (rt (vi (n':=r) Y ?_))))))))))
 exact hI'.done fhc1
theorem Qgo (n:Nat) (a:List Int) (ha:a.length≤mx):Pure (Qs Tryz.prog (n+1)) 39 [(rd 1 Qc a)] (T.sl true 1 (a.map (Qc true))):=by
 refine Pure.intro (rs:= [ResultVar.tmp 2]) Tryz.func39 Y Y Y (E0:= [(0,(rd 1 Qc a))]) Y ?_
 obtain ⟨hlim,hmx,hmax⟩:=QA
 refine sr (fO (OF.assign VEv.nils) (nt (sr (mO (rd 1 Qc a) Y (lO (B.lenR (m:=a.length) (tv (rd 1 Qc a) Y) Z1 (List.length_map ..)) (kO (B.makeZ (n:=a.length) (m:=((List.replicate a.length 0).map (Qc true)).length) (rows:=((List.replicate a.length 0).map (Qc true))) (zr:=(Qc true 0)) (tv (tN a.length) Y) (tv (tN a.length) Y) Y Z1 zo3 zc3 Y (by rw [ZA];decide) (by omega) (of_decide_eq_true (by kernel_rfl)) (Z0.int Z0.nil) ZA (List.map_replicate ..).symm (by rw [List.length_map,List.length_replicate])) (aO (T.os 1 0 0 (((List.replicate a.length 0).map (Qc true)).length)) Y (nt (sq (sr (fO (OF.assign (VEv.int .i64 0)) ?_)))))))))))
 refine nt (VRun.block ?_)
 have he1:(List.replicate a.length 0)=(a.take 0++List.replicate (a.length - 0) 0):=by rfl
 refine VRun.loop (A:=Nat) (fun s_=> [(0,(rd 1 Qc a)),(2,T.nils),(3,(T.os 1 0 0 (((a.take s_++List.replicate (a.length - s_) 0).map (Qc true)).length))),(4,(tN s_))]) (fun s_=>QV [(0,(Obj.rows 1 ((a.take s_++List.replicate (a.length - s_) 0).map (Qc true))))]) 1 (fun s_=>s_≤a.length) (fun s_=>a.length - s_) (0:Nat) ?_ (Wk.mk (fun k=>k) ?_ ?_ ?_) ?_
 ·(simp;done)
 ·exact (b2 (b2 (bc ⟨(congrArg (fun l_=>T.os 1 0 0 (List.map (Qc true) l_).length) he1),rfl⟩ (b2 bn))))
 ·exact (bc ⟨(congrArg (fun l_=>some (Obj.rows 1 (List.map (Qc true) l_))) he1),(lb Y),rfl⟩ bn)
 ·exact nd Y
 rintro i (hI':i≤a.length)
 show VRun _ _ _ [(0,(rd 1 Qc a)),(2,T.nils),(3,(T.os 1 0 0 (((a.take i++List.replicate (a.length - i) 0).map (Qc true)).length))),(4,(tN i))] (QV [(0,(Obj.rows 1 ((a.take i++List.replicate (a.length - i) 0).map (Qc true))))]) 1 _
 have hfl:=QeR (w:=0) hI'
 refine sq (sr (mO (tN i) Y (mO (rd 1 Qc a) Y (lO (B.lenR (m:=a.length) (tv (rd 1 Qc a) Y) Z1 (List.length_map ..)) (fO (Q5 (tv (tN i) Y) (tv (tN a.length) Y)) (nt ?_))))))
 refine cd (i<a.length) Y (fun fhc0=> ?_) fun fhc0=> ?_
 ·refine sk ?_
  refine tn (sq (VRun.block (VRun.region (mO (T.os 1 0 0 (((a.take i++List.replicate (a.length - i) 0).map (Qc true)).length)) Y (mO (tN i) Y (mO (rd 1 Qc a) Y (mO (tN i) Y ?_)))))))
  obtain ⟨x1,hx1⟩:∃x,a[i]? =some x:=⟨_,List.getElem?_eq_getElem (by omega)⟩
  refine fO (OF.indexAddrR (row:=(Qc false x1)) (i:=i) (tv (rd 1 Qc a) Y) (tv (tN i) Y) Y (Qr _ hx1) Z1 ZA YR) (lO (OL.loadR1 (t:=(tI x1)) (tv (T.rp [(tI x1)]) Y) Y QQ) ?_)
  obtain ⟨x2,hx2⟩:∃x,(a.take i++List.replicate (a.length - i) 0)[i]? =some x:=⟨_,List.getElem?_eq_getElem (by omega)⟩
  refine fO (B.indexAddrO (i:=i) (tv (T.os 1 0 0 (((a.take i++List.replicate (a.length - i) 0).map (Qc true)).length)) Y) (tv (tN i) Y) Y (by (simp only [List.length_map];omega)) Z1 ZA YR) (cO (B.storeP (us:= [(tI x1)]) (rows':=(((a.take i++List.replicate (a.length - i) 0).set i x1).map (Qc true))) (row:=(Qc true x2)) (tv (T.orp 1 0 i 0) Y) (tv (tI x1) Y) nofun Y (Qr _ hx2) Y (lb Y) YR ZA (bc Y bn) (by intro r hr t ht;obtain ⟨x,_,rfl⟩:=List.mem_map.1 hr;rw [QmM] at ht;exact QT (okInt.pl _ t ht)) (QZ Y)) (VRunO.nil (vinB.n (tn (VRun.region (mO (tN i) Y (fO (Qx (tv (tN i) Y) (VEv.int .i64 1) (by omega)) (aO (tN (i+1)) Y (VRunO.nil (tn ?_))))))))))
  have he2:((a.take i++List.replicate (a.length - i) 0).set i x1)=(a.take (i+1)++List.replicate (a.length - (i+1)) 0):=by exact Qb3 hx1
  refine ⟨(i+1:Nat),?_,?_,Wk.mk (fun k=>k) ?_ ?_ ?_⟩
  ·trivial
  ·omega
  ·exact (b2 (b2 (bc ⟨(congrArg (fun n_=>T.os 1 0 0 n_) (show ((a.take i++List.replicate (a.length - i) 0).map (Qc true)).length=((a.take (i+1)++List.replicate (a.length - (i+1)) 0).map (Qc true)).length from (by (simp only [List.length_map,List.length_set,List.length_append,List.length_take,List.length_replicate,List.length_cons,List.length_nil];omega)))),rfl⟩ (b2 bn))))
  ·exact (bc ⟨(congrArg (fun l_=>some (Obj.rows 1 (List.map (Qc true) l_))) he2),(lb Y),rfl⟩ bn)
  ·exact nd Y
 refine VRun.exit (vthn.e (vthn.e (vinB.e (tn (sr (mO (T.os 1 0 0 (((a.take i++List.replicate (a.length - i) 0).map (Qc true)).length)) Y (aO (T.os 1 0 0 (((a.take i++List.replicate (a.length - i) 0).map (Qc true)).length)) Y (nt (rt ?_)))))))))
 refine vfin.eq (r':=(T.sl true 1 ((a.take i++List.replicate (a.length - i) 0).map (Qc true)))) ?_ (vfin.r (VRes.tmp (t:=(T.os 1 0 0 (((a.take i++List.replicate (a.length - i) 0).map (Qc true)).length))) Y VRes.nil) (Give.os Y Y (okInt.cleanMap _)))
 refine congrArg (fun l_=>T.sl true 1 (List.map (Qc true) l_)) ?_
 exact Qck fhc0
theorem Qgh (n:Nat) (a:D.Grid):Pure (Qs Tryz.prog (n+1)) 37 [(T.agg (Qd false a))] (T.agg (Qd true a)):=by
 refine Pure.intro (rs:= [ResultVar.cell 2 36]) Tryz.func37 Y Y Y (E0:= [(0,(T.agg (Qd false a)))]) Y ?_
 obtain ⟨hlim,hmx,hmax⟩:=QA
 refine sr (kO (B.box (ts:=(Qd false a)) (tv (T.agg (Qd false a)) Y) nofun Y) (kO (B.alloc (t:=(T.agg [(tN 0),(tN 0),(tS ByteArray.empty)])) (ts:= [(tN 0),(tN 0),(tS ByteArray.empty)]) Qkq Ql8 nofun (fun _=> .agg _ _ Y (Jm (RL.cons (.int _ _) (RL.cons (.int _ _) (RL.cons (.str _) (RL.nil _)))))) Y) (nt (sr (kO (B.alloc (t:=(T.agg [(tN 0),(tN 0),(tS ByteArray.empty)])) (ts:= [(tN 0),(tN 0),(tS ByteArray.empty)]) Qkq Ql8 nofun (fun _=> .agg _ _ Y (Jm (RL.cons (.int _ _) (RL.cons (.int _ _) (RL.cons (.str _) (RL.nil _)))))) Y) (nt (sr (lf (tI a.Rows) Y Qny Y Y QQ (fO (OF.fieldAddrO (tv (T.op 2 0) Y) QaR) (cO (B.storeO (us:= [(tI a.Rows)]) (ws:= [(tI a.Rows),(tN 0),(tS ByteArray.empty)]) (tv (T.op 2 0) Y) (tv (tI a.Rows) Y) nofun Y Y (lb Y) YR ZA (bc Y bn) Y) (nt ?_)))))))))))
 refine sr (lf (tI a.Cols) Y QnG Y Y QQ (fO (OF.fieldAddrO (tv (T.op 2 0) Y) ZE) (cO (B.storeO (us:= [(tI a.Cols)]) (ws:= [(tI a.Rows),(tI a.Cols),(tS ByteArray.empty)]) (tv (T.op 2 1) Y) (tv (tI a.Cols) Y) nofun Y Y (lb Y) YR ZA (bc Y bn) Y) (nt (sr (lf (tS a.Cells) Y Qlj Y Y YD (fO (OF.fieldAddrO (tv (T.op 2 0) Y) QU) (cO (B.storeO (us:= [(tS a.Cells)]) (ws:= [(tI a.Rows),(tI a.Cols),(tS a.Cells)]) (tv (T.op 2 2) Y) (tv (tS a.Cells) Y) nofun Y Y (lb Y) if9 sz9 (bc Y bn) Y) (nt (sr (lO (OL.loadOn (us:=(Qd false a)) (tv (T.op 2 0) Y) Y Q4 Q0 (lb Y) Y) ?_)))))))))))
 refine cO (B.storeW (us:=(Qd false a)) (tv (T.op 1 0) Y) (tv (T.agg (Qd false a)) Y) nofun Y Y Y QiN Q0 (bc Y (bc Y (bc Y bn)))) (nt (rt ?_))
 refine vfin.eq (r':=(T.agg (Qd false a))) ?_ (vfin.r (VRes.celln (ws:=(Qd false a)) Y Y Q4 Q0 (lb Y) Y VRes.nil) (Give.agg (GiveL.cons (Give.int _ _) (GiveL.cons (Give.int _ _) (GiveL.cons (Give.str _) GiveL.nil (by decide)) (by decide)) (by decide))))
 rfl
theorem QfY (n:Nat) (a:D.Step):Pure (Qs Tryz.prog (n+1)) 91 [(T.agg (Ql false a))] (T.agg (Ql true a)):=by
 refine Pure.intro (rs:= [ResultVar.cell 2 109]) Tryz.func91 Y Y Y (E0:= [(0,(T.agg (Ql false a)))]) Y ?_
 obtain ⟨hlim,hmx,hmax⟩:=QA
 refine sr (kO (B.box (ts:=(Ql false a)) (tv (T.agg (Ql false a)) Y) nofun Y) (kO (B.alloc (t:=(T.agg [(tN 0),(tS ByteArray.empty),(tN 0),(tN 0)])) (ts:= [(tN 0),(tS ByteArray.empty),(tN 0),(tN 0)]) QhK Qiw nofun (fun _=> .agg _ _ Y (Jm (RL.cons (.int _ _) (RL.cons (.str _) (RL.cons (.int _ _) (RL.cons (.int _ _) (RL.nil _))))))) Y) (nt (sr (kO (B.alloc (t:=(T.agg [(tN 0),(tS ByteArray.empty),(tN 0),(tN 0)])) (ts:= [(tN 0),(tS ByteArray.empty),(tN 0),(tN 0)]) QhK Qiw nofun (fun _=> .agg _ _ Y (Jm (RL.cons (.int _ _) (RL.cons (.str _) (RL.cons (.int _ _) (RL.cons (.int _ _) (RL.nil _))))))) Y) (nt (sr (lf (tI a.Kind) Y Qmk Y Y QQ (fO (OF.fieldAddrO (tv (T.op 2 0) Y) Zp) (cO (B.storeO (us:= [(tI a.Kind)]) (ws:= [(tI a.Kind),(tS ByteArray.empty),(tN 0),(tN 0)]) (tv (T.op 2 0) Y) (tv (tI a.Kind) Y) nofun Y Y (lb Y) YR ZA (bc Y bn) Y) (nt ?_)))))))))))
 refine sr (lf (tS a.Word) Y Qjm Y Y YD (fO (OF.fieldAddrO (tv (T.op 2 0) Y) QaC) (cO (B.storeO (us:= [(tS a.Word)]) (ws:= [(tI a.Kind),(tS a.Word),(tN 0),(tN 0)]) (tv (T.op 2 1) Y) (tv (tS a.Word) Y) nofun Y Y (lb Y) if9 sz9 (bc Y bn) Y) (nt (sr (lf (tI a.A) Y Qmy Y Y QQ (fO (OF.fieldAddrO (tv (T.op 2 0) Y) YX) (cO (B.storeO (us:= [(tI a.A)]) (ws:= [(tI a.Kind),(tS a.Word),(tI a.A),(tN 0)]) (tv (T.op 2 2) Y) (tv (tI a.A) Y) nofun Y Y (lb Y) YR ZA (bc Y bn) Y) (nt (sr (lf (tI a.B) Y Ql9 Y Y QQ ?_)))))))))))
 refine fO (OF.fieldAddrO (tv (T.op 2 0) Y) Yz) (cO (B.storeO (us:= [(tI a.B)]) (ws:= [(tI a.Kind),(tS a.Word),(tI a.A),(tI a.B)]) (tv (T.op 2 3) Y) (tv (tI a.B) Y) nofun Y Y (lb Y) YR ZA (bc Y bn) Y) (nt (sr (lO (OL.loadOn (us:=(Ql false a)) (tv (T.op 2 0) Y) Y Qgw YG (lb Y) Y) (cO (B.storeW (us:=(Ql false a)) (tv (T.op 1 0) Y) (tv (T.agg (Ql false a)) Y) nofun Y Y Y Qal YG (bc Y (bc Y (bc Y (bc Y bn))))) (nt (rt ?_)))))))
 refine vfin.eq (r':=(T.agg (Ql false a))) ?_ (vfin.r (VRes.celln (ws:=(Ql false a)) Y Y Qgw YG (lb Y) Y VRes.nil) (Give.agg (GiveL.cons (Give.int _ _) (GiveL.cons (Give.str _) (GiveL.cons (Give.int _ _) (GiveL.cons (Give.int _ _) GiveL.nil (by decide)) (by decide)) (by decide)) (by decide))))
 rfl
theorem Qfu (n:Nat) (a:List D.Step) (ha:a.length≤mx):Pure (Qs Tryz.prog (n+2)) 72 [(rd 4 Ql a)] (T.sl true 4 (a.map (Ql true))):=by
 refine Pure.intro (rs:= [ResultVar.tmp 2]) Tryz.func72 Y Y Y (E0:= [(0,(rd 4 Ql a))]) Y ?_
 obtain ⟨hlim,hmx,hmax⟩:=QA
 refine sr (fO (OF.assign VEv.nils) (nt (sr (mO (rd 4 Ql a) Y (lO (B.lenR (m:=a.length) (tv (rd 4 Ql a) Y) U80 (List.length_map ..)) (kO (B.makeZ (n:=a.length) (m:=((List.replicate a.length (D.Step.mk 0 ByteArray.empty 0 0)).map (Ql true)).length) (rows:=((List.replicate a.length (D.Step.mk 0 ByteArray.empty 0 0)).map (Ql true))) (zr:=(Ql true (D.Step.mk 0 ByteArray.empty 0 0))) (tv (tN a.length) Y) (tv (tN a.length) Y) Y U87 QhK Qiw Y (by rw [YG];decide) (by omega) (of_decide_eq_true (by kernel_rfl)) (Z0.int (Z0.str (Z0.int (Z0.int Z0.nil)))) YG (List.map_replicate ..).symm (by rw [List.length_map,List.length_replicate])) (aO (T.os 4 0 0 (((List.replicate a.length (D.Step.mk 0 ByteArray.empty 0 0)).map (Ql true)).length)) Y (nt (sq (sr (fO (OF.assign (VEv.int .i64 0)) ?_)))))))))))
 refine nt (VRun.block ?_)
 have he1:(List.replicate a.length (D.Step.mk 0 ByteArray.empty 0 0))=(a.take 0++List.replicate (a.length - 0) (D.Step.mk 0 ByteArray.empty 0 0)):=by rfl
 refine VRun.loop (A:=Nat) (fun s_=> [(0,(rd 4 Ql a)),(2,T.nils),(3,(T.os 4 0 0 (((a.take s_++List.replicate (a.length - s_) (D.Step.mk 0 ByteArray.empty 0 0)).map (Ql true)).length))),(4,(tN s_))]) (fun s_=>QV [(0,(Obj.rows 4 ((a.take s_++List.replicate (a.length - s_) (D.Step.mk 0 ByteArray.empty 0 0)).map (Ql true))))]) 1 (fun s_=>s_≤a.length) (fun s_=>a.length - s_) (0:Nat) ?_ (Wk.mk (fun k=>k) ?_ ?_ ?_) ?_
 ·(simp;done)
 ·exact (b2 (b2 (bc ⟨(congrArg (fun l_=>T.os 4 0 0 (List.map (Ql true) l_).length) he1),rfl⟩ (b2 bn))))
 ·exact (bc ⟨(congrArg (fun l_=>some (Obj.rows 4 (List.map (Ql true) l_))) he1),(lb Y),rfl⟩ bn)
 ·exact nd Y
 rintro i (hI':i≤a.length)
 show VRun _ _ _ [(0,(rd 4 Ql a)),(2,T.nils),(3,(T.os 4 0 0 (((a.take i++List.replicate (a.length - i) (D.Step.mk 0 ByteArray.empty 0 0)).map (Ql true)).length))),(4,(tN i))] (QV [(0,(Obj.rows 4 ((a.take i++List.replicate (a.length - i) (D.Step.mk 0 ByteArray.empty 0 0)).map (Ql true))))]) 1 _
 have hfl:=QeR (w:=(D.Step.mk 0 ByteArray.empty 0 0)) hI'
 refine sq (sr (mO (tN i) Y (mO (rd 4 Ql a) Y (lO (B.lenR (m:=a.length) (tv (rd 4 Ql a) Y) U80 (List.length_map ..)) (fO (Q5 (tv (tN i) Y) (tv (tN a.length) Y)) (nt ?_))))))
 refine cd (i<a.length) Y (fun fhc0=> ?_) fun fhc0=> ?_
 ·refine sk ?_
  refine tn (sq (VRun.block (VRun.region (mO (T.os 4 0 0 (((a.take i++List.replicate (a.length - i) (D.Step.mk 0 ByteArray.empty 0 0)).map (Ql true)).length)) Y (mO (tN i) Y (mO (rd 4 Ql a) Y (mO (tN i) Y ?_)))))))
  obtain ⟨x1,hx1⟩:∃x,a[i]? =some x:=⟨_,List.getElem?_eq_getElem (by omega)⟩
  refine fO (OF.indexAddrR (row:=(Ql false x1)) (i:=i) (tv (rd 4 Ql a) Y) (tv (tN i) Y) Y (Qr _ hx1) U80 Qjr QmS) (lO (OL.loadRn (us:=(Ql false x1)) (tv (T.rp (Ql false x1)) Y) QmO Qjr (lb Y) Y) (cO (cS (vc (tv (T.agg (Ql false x1)) Y) vn) (LendL.cons (lg okeStep) ln) (QfY (n+0) x1) Y Y) ?_))
  obtain ⟨x2,hx2⟩:∃x,(a.take i++List.replicate (a.length - i) (D.Step.mk 0 ByteArray.empty 0 0))[i]? =some x:=⟨_,List.getElem?_eq_getElem (by omega)⟩
  refine fO (B.indexAddrO (i:=i) (tv (T.os 4 0 0 (((a.take i++List.replicate (a.length - i) (D.Step.mk 0 ByteArray.empty 0 0)).map (Ql true)).length)) Y) (tv (tN i) Y) Y (by (simp only [List.length_map];omega)) U87 YG Qal) (cO (B.storeP (us:=(Ql true x1)) (rows':=(((a.take i++List.replicate (a.length - i) (D.Step.mk 0 ByteArray.empty 0 0)).set i x1).map (Ql true))) (row:=(Ql true x2)) (tv (T.orp 4 0 i 0) Y) (tv (T.agg (Ql true x1)) Y) nofun Y (Qr _ hx2) Y (lb Y) Qal YG (bc Y (bc Y (bc Y (bc Y bn)))) (by intro r hr t ht;obtain ⟨x,_,rfl⟩:=List.mem_map.1 hr;rw [Qfn] at ht;exact QT (okeStep.pl _ t ht)) (QZ Y)) (VRunO.nil (vinB.n (tn (VRun.region (mO (tN i) Y (fO (Qx (tv (tN i) Y) (VEv.int .i64 1) (by omega)) (aO (tN (i+1)) Y (VRunO.nil (tn ?_))))))))))
  have he2:((a.take i++List.replicate (a.length - i) (D.Step.mk 0 ByteArray.empty 0 0)).set i x1)=(a.take (i+1)++List.replicate (a.length - (i+1)) (D.Step.mk 0 ByteArray.empty 0 0)):=by exact Qb3 hx1
  refine ⟨(i+1:Nat),?_,?_,Wk.mk (fun k=>k) ?_ ?_ ?_⟩
  ·trivial
  ·omega
  ·exact (b2 (b2 (bc ⟨(congrArg (fun n_=>T.os 4 0 0 n_) (show ((a.take i++List.replicate (a.length - i) (D.Step.mk 0 ByteArray.empty 0 0)).map (Ql true)).length=((a.take (i+1)++List.replicate (a.length - (i+1)) (D.Step.mk 0 ByteArray.empty 0 0)).map (Ql true)).length from (by (simp only [List.length_map,List.length_set,List.length_append,List.length_take,List.length_replicate,List.length_cons,List.length_nil];omega)))),rfl⟩ (b2 bn))))
  ·exact (bc ⟨(congrArg (fun l_=>some (Obj.rows 4 (List.map (Ql true) l_))) he2),(lb Y),rfl⟩ bn)
  ·exact nd Y
 refine VRun.exit (vthn.e (vthn.e (vinB.e (tn (sr (mO (T.os 4 0 0 (((a.take i++List.replicate (a.length - i) (D.Step.mk 0 ByteArray.empty 0 0)).map (Ql true)).length)) Y (aO (T.os 4 0 0 (((a.take i++List.replicate (a.length - i) (D.Step.mk 0 ByteArray.empty 0 0)).map (Ql true)).length)) Y (nt (rt ?_)))))))))
 refine vfin.eq (r':=(T.sl true 4 ((a.take i++List.replicate (a.length - i) (D.Step.mk 0 ByteArray.empty 0 0)).map (Ql true)))) ?_ (vfin.r (VRes.tmp (t:=(T.os 4 0 0 (((a.take i++List.replicate (a.length - i) (D.Step.mk 0 ByteArray.empty 0 0)).map (Ql true)).length))) Y VRes.nil) (Give.os Y Y (okeStep.cleanMap _)))
 refine congrArg (fun l_=>T.sl true 4 (List.map (Ql true) l_)) ?_
 exact Qck fhc0
theorem QfW (n:Nat) (a:D.Clue) (ha:QY a≤mx):Pure (Qs Tryz.prog (n+3)) 56 [(T.agg (Qh false a))] (T.agg (Qh true a)):=by
 refine Pure.intro (rs:= [ResultVar.cell 2 89]) Tryz.func56 Y Y Y (E0:= [(0,(T.agg (Qh false a)))]) Y ?_
 obtain ⟨hlim,hmx,hmax⟩:=QA
 simp only [QY] at ha
 have hla_Play:=Zs (z:=ZV) a.Play
 refine sr (kO (B.box (ts:=(Qh false a)) (tv (T.agg (Qh false a)) Y) nofun Y) (kO (B.alloc (t:=(T.agg [(tN 0),T.nils])) (ts:= [(tN 0),T.nils]) Qna QnH nofun (fun _=> .agg _ _ Y (Jm (RL.cons (.int _ _) (RL.cons (.nils) (RL.nil _))))) Y) (nt (sr (kO (B.alloc (t:=(T.agg [(tN 0),T.nils])) (ts:= [(tN 0),T.nils]) Qna QnH nofun (fun _=> .agg _ _ Y (Jm (RL.cons (.int _ _) (RL.cons (.nils) (RL.nil _))))) Y) (nt (sr (lf (tI a.Sense) Y QnE Y Y QQ (fO (OF.fieldAddrO (tv (T.op 2 0) Y) QdM) (cO (B.storeO (us:= [(tI a.Sense)]) (ws:= [(tI a.Sense),T.nils]) (tv (T.op 2 0) Y) (tv (tI a.Sense) Y) nofun Y Y (lb Y) YR ZA (bc Y bn) Y) (nt ?_)))))))))))
 refine sr (lf (rd 4 Ql a.Play) Y Qk5 Y Y QoD (cO (OC.callF (r':=(T.os 4 3 0 ((a.Play.map (Ql true)).length))) (objs:= [(Obj.rows 4 (a.Play.map (Ql true)))]) Y (vc (tv (rd 4 Ql a.Play) Y) vn) (Z8 Y) (Qfu (n+0) a.Play (by omega)) Y) (fO (OF.fieldAddrO (tv (T.op 2 0) Y) Qd0) (cO (B.storeO (us:= [(T.os 4 3 0 ((a.Play.map (Ql true)).length))]) (ws:= [(tI a.Sense),(T.os 4 3 0 ((a.Play.map (Ql true)).length))]) (tv (T.op 2 1) Y) (tv (T.os 4 3 0 ((a.Play.map (Ql true)).length)) Y) nofun Y Y (lb Y) Qos Qol (bc Y bn) Y) (nt (sr (lO (OL.loadOn (us:= [(tI a.Sense),(T.os 4 3 0 ((a.Play.map (Ql true)).length))]) (tv (T.op 2 0) Y) Y QiK QbG (lb Y) Y) (cO (B.storeW (us:= [(tI a.Sense),(T.os 4 3 0 ((a.Play.map (Ql true)).length))]) (tv (T.op 1 0) Y) (tv (T.agg [(tI a.Sense),(T.os 4 3 0 ((a.Play.map (Ql true)).length))]) Y) nofun Y Y Y Qhs QbG (bc Y (bc Y bn))) (nt (rt ?_))))))))))
 refine vfin.eq (r':=(T.agg [(tI a.Sense),(T.sl true 4 (a.Play.map (Ql true)))])) ?_ (vfin.r (VRes.celln (ws:= [(tI a.Sense),(T.os 4 3 0 ((a.Play.map (Ql true)).length))]) Y Y QiK QbG (lb Y) Y VRes.nil) (Give.agg (GiveL.cons (Give.int _ _) (GiveL.cons (Give.os Y Y (okeStep.cleanMap _)) GiveL.nil (by decide)) (by decide))))
 rfl
theorem Qfh (n:Nat) (a:List D.Clue) (ha:zL QY a≤mx):Pure (Qs Tryz.prog (n+4)) 38 [(rd 2 Qh a)] (T.sl true 2 (a.map (Qh true))):=by
 refine Pure.intro (rs:= [ResultVar.tmp 2]) Tryz.func38 Y Y Y (E0:= [(0,(rd 2 Qh a))]) Y ?_
 obtain ⟨hlim,hmx,hmax⟩:=QA
 have hla:=Zs (z:=QY) a
 refine sr (fO (OF.assign VEv.nils) (nt (sr (mO (rd 2 Qh a) Y (lO (B.lenR (m:=a.length) (tv (rd 2 Qh a) Y) U25 (List.length_map ..)) (kO (B.makeZ (n:=a.length) (m:=((List.replicate a.length (D.Clue.mk 0 [])).map (Qh true)).length) (rows:=((List.replicate a.length (D.Clue.mk 0 [])).map (Qh true))) (zr:=(Qh true (D.Clue.mk 0 []))) (tv (tN a.length) Y) (tv (tN a.length) Y) Y U37 Qna QnH Y (by rw [QbG];decide) (by omega) (of_decide_eq_true (by kernel_rfl)) (Z0.int (Z0.sl Z0.nil)) QbG (List.map_replicate ..).symm (by rw [List.length_map,List.length_replicate])) (aO (T.os 2 0 0 (((List.replicate a.length (D.Clue.mk 0 [])).map (Qh true)).length)) Y (nt (sq (sr (fO (OF.assign (VEv.int .i64 0)) ?_)))))))))))
 refine nt (VRun.block ?_)
 have he1:(List.replicate a.length (D.Clue.mk 0 []))=(a.take 0++List.replicate (a.length - 0) (D.Clue.mk 0 [])):=by rfl
 refine VRun.loop (A:=Nat) (fun s_=> [(0,(rd 2 Qh a)),(2,T.nils),(3,(T.os 2 0 0 (((a.take s_++List.replicate (a.length - s_) (D.Clue.mk 0 [])).map (Qh true)).length))),(4,(tN s_))]) (fun s_=>QV [(0,(Obj.rows 2 ((a.take s_++List.replicate (a.length - s_) (D.Clue.mk 0 [])).map (Qh true))))]) 1 (fun s_=>s_≤a.length) (fun s_=>a.length - s_) (0:Nat) ?_ (Wk.mk (fun k=>k) ?_ ?_ ?_) ?_
 ·(simp;done)
 ·exact (b2 (b2 (bc ⟨(congrArg (fun l_=>T.os 2 0 0 (List.map (Qh true) l_).length) he1),rfl⟩ (b2 bn))))
 ·exact (bc ⟨(congrArg (fun l_=>some (Obj.rows 2 (List.map (Qh true) l_))) he1),(lb Y),rfl⟩ bn)
 ·exact nd Y
 rintro i (hI':i≤a.length)
 show VRun _ _ _ [(0,(rd 2 Qh a)),(2,T.nils),(3,(T.os 2 0 0 (((a.take i++List.replicate (a.length - i) (D.Clue.mk 0 [])).map (Qh true)).length))),(4,(tN i))] (QV [(0,(Obj.rows 2 ((a.take i++List.replicate (a.length - i) (D.Clue.mk 0 [])).map (Qh true))))]) 1 _
 have hfl:=QeR (w:=(D.Clue.mk 0 [])) hI'
 refine sq (sr (mO (tN i) Y (mO (rd 2 Qh a) Y (lO (B.lenR (m:=a.length) (tv (rd 2 Qh a) Y) U25 (List.length_map ..)) (fO (Q5 (tv (tN i) Y) (tv (tN a.length) Y)) (nt ?_))))))
 refine cd (i<a.length) Y (fun fhc0=> ?_) fun fhc0=> ?_
 ·refine sk ?_
  refine tn (sq (VRun.block (VRun.region (mO (T.os 2 0 0 (((a.take i++List.replicate (a.length - i) (D.Clue.mk 0 [])).map (Qh true)).length)) Y (mO (tN i) Y (mO (rd 2 Qh a) Y (mO (tN i) Y ?_)))))))
  obtain ⟨x1,hx1⟩:∃x,a[i]? =some x:=⟨_,List.getElem?_eq_getElem (by omega)⟩
  refine fO (OF.indexAddrR (row:=(Qh false x1)) (i:=i) (tv (rd 2 Qh a) Y) (tv (tN i) Y) Y (Qr _ hx1) U25 Qms Qoe) (lO (OL.loadRn (us:=(Qh false x1)) (tv (T.rp (Qh false x1)) Y) QoE Qms (lb Y) Y) (cO (OC.callF (r':=(T.agg [(tI x1.Sense),(T.os 4 1 0 ((x1.Play.map (Ql true)).length))])) (objs:= [(Obj.rows 4 (x1.Play.map (Ql true)))]) Y (vc (tv (T.agg (Qh false x1)) Y) vn) (LendL.cons (lg okeClue) ln) (QfW (n+0) x1 (by exact Nat.le_trans (QgF hx1) ha)) Y) ?_))
  obtain ⟨x2,hx2⟩:∃x,(a.take i++List.replicate (a.length - i) (D.Clue.mk 0 []))[i]? =some x:=⟨_,List.getElem?_eq_getElem (by omega)⟩
  refine fO (B.indexAddrO (i:=i) (tv (T.os 2 0 0 (((a.take i++List.replicate (a.length - i) (D.Clue.mk 0 [])).map (Qh true)).length)) Y) (tv (tN i) Y) Y (by (simp only [List.length_map];omega)) U37 QbG Qhs) (cO (B.storeB (us:= [(tI x1.Sense),(T.os 4 1 0 ((x1.Play.map (Ql true)).length))]) (ws:= [(tI x1.Sense),(T.sl true 4 (x1.Play.map (Ql true)))]) (rows':=(((a.take i++List.replicate (a.length - i) (D.Clue.mk 0 [])).set i x1).map (Qh true))) (row:=(Qh true x2)) (tv (T.orp 2 0 i 0) Y) (tv (T.agg [(tI x1.Sense),(T.os 4 1 0 ((x1.Play.map (Ql true)).length))]) Y) nofun Y (Qr _ hx2) Y (lb Y) Qhs QbG (bc Y (bc Y bn)) (Bury.pl Y (Bury.os Y Y Bury.nil (by decide))) Y (by decide) (QZ Y)) (VRunO.nil (vinB.n (tn (VRun.region (mO (tN i) Y (fO (Qx (tv (tN i) Y) (VEv.int .i64 1) (by omega)) (aO (tN (i+1)) Y (VRunO.nil (tn ?_))))))))))
  have he2:((a.take i++List.replicate (a.length - i) (D.Clue.mk 0 [])).set i x1)=(a.take (i+1)++List.replicate (a.length - (i+1)) (D.Clue.mk 0 [])):=by exact Qb3 hx1
  refine ⟨(i+1:Nat),?_,?_,Wk.mk (fun k=>k) ?_ ?_ ?_⟩
  ·trivial
  ·omega
  ·exact (b2 (b2 (bc ⟨(congrArg (fun n_=>T.os 2 0 0 n_) (show ((a.take i++List.replicate (a.length - i) (D.Clue.mk 0 [])).map (Qh true)).length=((a.take (i+1)++List.replicate (a.length - (i+1)) (D.Clue.mk 0 [])).map (Qh true)).length from (by (simp only [List.length_map,List.length_set,List.length_append,List.length_take,List.length_replicate,List.length_cons,List.length_nil];omega)))),rfl⟩ (b2 bn))))
  ·exact (bc ⟨(congrArg (fun l_=>some (Obj.rows 2 (List.map (Qh true) l_))) he2),(lb Y),rfl⟩ bn)
  ·exact nd Y
 refine VRun.exit (vthn.e (vthn.e (vinB.e (tn (sr (mO (T.os 2 0 0 (((a.take i++List.replicate (a.length - i) (D.Clue.mk 0 [])).map (Qh true)).length)) Y (aO (T.os 2 0 0 (((a.take i++List.replicate (a.length - i) (D.Clue.mk 0 [])).map (Qh true)).length)) Y (nt (rt ?_)))))))))
 refine vfin.eq (r':=(T.sl true 2 ((a.take i++List.replicate (a.length - i) (D.Clue.mk 0 [])).map (Qh true)))) ?_ (vfin.r (VRes.tmp (t:=(T.os 2 0 0 (((a.take i++List.replicate (a.length - i) (D.Clue.mk 0 [])).map (Qh true)).length))) Y VRes.nil) (Give.os Y Y (okeClue.cleanMap _)))
 refine congrArg (fun l_=>T.sl true 2 (List.map (Qh true) l_)) ?_
 exact Qck fhc0
theorem Qeu (n:Nat) (a:D.Puzzle) (ha:QK a≤mx):Pure (Qs Tryz.prog (n+5)) 24 [(T.agg (QC false a))] (T.agg (QC true a)):=by
 refine Pure.intro (rs:= [ResultVar.cell 2 39]) Tryz.func24 Y Y Y (E0:= [(0,(T.agg (QC false a)))]) Y ?_
 obtain ⟨hlim,hmx,hmax⟩:=QA
 simp only [QK] at ha
 have hla_Clues:=Zs (z:=QY) a.Clues
 have hla_Seals:=Zs (z:=zI) a.Seals
 refine sr (kO (B.box (ts:=(QC false a)) (tv (T.agg (QC false a)) Y) nofun Y) (kO (B.alloc (t:=(T.agg [(tN 0),(tN 0),(tS ByteArray.empty),T.nils,T.nils,(tN 0)])) (ts:= [(tN 0),(tN 0),(tS ByteArray.empty),T.nils,T.nils,(tN 0)]) QoJ Qn8 nofun (fun _=> .agg _ _ Y (Jm (RL.cons (.int _ _) (RL.cons (.int _ _) (RL.cons (.str _) (RL.cons (.nils) (RL.cons (.nils) (RL.cons (.int _ _) (RL.nil _))))))))) Y) (nt (sr (kO (B.alloc (t:=(T.agg [(tN 0),(tN 0),(tS ByteArray.empty),T.nils,T.nils,(tN 0)])) (ts:= [(tN 0),(tN 0),(tS ByteArray.empty),T.nils,T.nils,(tN 0)]) QoJ Qn8 nofun (fun _=> .agg _ _ Y (Jm (RL.cons (.int _ _) (RL.cons (.int _ _) (RL.cons (.str _) (RL.cons (.nils) (RL.cons (.nils) (RL.cons (.int _ _) (RL.nil _))))))))) Y) (nt (sr (fO (OF.fieldAddrO (tv (T.op 0 0) Y) QlL) (lO (OL.loadOn (us:=(Qd false a.Grid)) (tv (T.op 0 0) Y) Y Qou Qnm (lb Y) Y) (cO (cS (vc (tv (T.agg (Qd false a.Grid)) Y) vn) (LendL.cons (lg Qu) ln) (Qgh (n+3) a.Grid) Y Y) (fO (OF.fieldAddrO (tv (T.op 2 0) Y) Y1) ?_)))))))))))
 refine cO (B.storeO (us:=(Qd true a.Grid)) (ws:= [(tI a.Grid.Rows),(tI a.Grid.Cols),(tS a.Grid.Cells),T.nils,T.nils,(tN 0)]) (tv (T.op 2 0) Y) (tv (T.agg (Qd true a.Grid)) Y) nofun Y Y (lb Y) QiN Q0 (bc Y (bc Y (bc Y bn))) Y) (nt (sr (lf (rd 2 Qh a.Clues) Y QlU Y Y Qoz (cO (OC.callF (r':=(T.os 2 3 0 ((a.Clues.map (Qh true)).length))) (objs:= [(Obj.rows 2 (a.Clues.map (Qh true)))]) Y (vc (tv (rd 2 Qh a.Clues) Y) vn) (Z8 Y) (Qfh (n+0) a.Clues (by omega)) Y) (fO (OF.fieldAddrO (tv (T.op 2 0) Y) JT) (cO (B.storeO (us:= [(T.os 2 3 0 ((a.Clues.map (Qh true)).length))]) (ws:= [(tI a.Grid.Rows),(tI a.Grid.Cols),(tS a.Grid.Cells),(T.os 2 3 0 ((a.Clues.map (Qh true)).length)),T.nils,(tN 0)]) (tv (T.op 2 3) Y) (tv (T.os 2 3 0 ((a.Clues.map (Qh true)).length)) Y) nofun Y Y (lb Y) Qoa Qoh (bc Y bn) Y) (nt (sr (lf (rd 1 Qc a.Seals) Y QlZ Y Y Qcm (cO (OC.callF (r':=(T.os 1 4 0 ((a.Seals.map (Qc true)).length))) (objs:= [(Obj.rows 1 (a.Seals.map (Qc true)))]) Y (vc (tv (rd 1 Qc a.Seals) Y) vn) (Z8 Y) (Qgo (n+3) a.Seals (by omega)) Y) (fO (OF.fieldAddrO (tv (T.op 2 0) Y) Qaj) ?_)))))))))))
 refine cO (B.storeO (us:= [(T.os 1 4 0 ((a.Seals.map (Qc true)).length))]) (ws:= [(tI a.Grid.Rows),(tI a.Grid.Cols),(tS a.Grid.Cells),(T.os 2 3 0 ((a.Clues.map (Qh true)).length)),(T.os 1 4 0 ((a.Seals.map (Qc true)).length)),(tN 0)]) (tv (T.op 2 4) Y) (tv (T.os 1 4 0 ((a.Seals.map (Qc true)).length)) Y) nofun Y Y (lb Y) Qjj QfV (bc Y bn) Y) (nt (sr (lf (tI a.Salt) Y QnU Y Y QQ (fO (OF.fieldAddrO (tv (T.op 2 0) Y) Qby) (cO (B.storeO (us:= [(tI a.Salt)]) (ws:= [(tI a.Grid.Rows),(tI a.Grid.Cols),(tS a.Grid.Cells),(T.os 2 3 0 ((a.Clues.map (Qh true)).length)),(T.os 1 4 0 ((a.Seals.map (Qc true)).length)),(tI a.Salt)]) (tv (T.op 2 5) Y) (tv (tI a.Salt) Y) nofun Y Y (lb Y) YR ZA (bc Y bn) Y) (nt (sr (lO (OL.loadOn (us:= [(tI a.Grid.Rows),(tI a.Grid.Cols),(tS a.Grid.Cells),(T.os 2 3 0 ((a.Clues.map (Qh true)).length)),(T.os 1 4 0 ((a.Seals.map (Qc true)).length)),(tI a.Salt)]) (tv (T.op 2 0) Y) Y Qhq Qer (lb Y) Y) (cO (B.storeW (us:= [(tI a.Grid.Rows),(tI a.Grid.Cols),(tS a.Grid.Cells),(T.os 2 3 0 ((a.Clues.map (Qh true)).length)),(T.os 1 4 0 ((a.Seals.map (Qc true)).length)),(tI a.Salt)]) (tv (T.op 1 0) Y) (tv (T.agg [(tI a.Grid.Rows),(tI a.Grid.Cols),(tS a.Grid.Cells),(T.os 2 3 0 ((a.Clues.map (Qh true)).length)),(T.os 1 4 0 ((a.Seals.map (Qc true)).length)),(tI a.Salt)]) Y) nofun Y Y Y Qnv Qer (bc Y (bc Y (bc Y (bc Y (bc Y (bc Y bn))))))) (nt (rt ?_)))))))))))
 refine vfin.eq (r':=(T.agg [(tI a.Grid.Rows),(tI a.Grid.Cols),(tS a.Grid.Cells),(T.sl true 2 (a.Clues.map (Qh true))),(T.sl true 1 (a.Seals.map (Qc true))),(tI a.Salt)])) ?_ (vfin.r (VRes.celln (ws:= [(tI a.Grid.Rows),(tI a.Grid.Cols),(tS a.Grid.Cells),(T.os 2 3 0 ((a.Clues.map (Qh true)).length)),(T.os 1 4 0 ((a.Seals.map (Qc true)).length)),(tI a.Salt)]) Y Y Qhq Qer (lb Y) Y VRes.nil) (Give.agg (GiveL.cons (Give.int _ _) (GiveL.cons (Give.int _ _) (GiveL.cons (Give.str _) (GiveL.cons (Give.os Y Y (okeClue.cleanMap _)) (GiveL.cons (Give.os Y Y (okInt.cleanMap _)) (GiveL.cons (Give.int _ _) GiveL.nil (by decide)) (by decide)) (by decide)) (by decide)) (by decide)) (by decide))))
 rfl
theorem Je (n:Nat) (a:D.Issue) (ha:Q3 a≤mx):Pure (Qs Tryz.prog (n+6)) 9 [(T.agg (Qe false a))] (T.agg (Qe true a)):=by
 refine Pure.intro (rs:= [ResultVar.cell 2 41]) Tryz.func9 Y Y Y (E0:= [(0,(T.agg (Qe false a)))]) Y ?_
 obtain ⟨hlim,hmx,hmax⟩:=QA
 simp only [Q3] at ha
 refine sr (kO (B.box (ts:=(Qe false a)) (tv (T.agg (Qe false a)) Y) nofun Y) (kO (B.alloc (t:=(T.agg [(tN 0),(tN 0),(tN 0),(tS ByteArray.empty),T.nils,T.nils,(tN 0),(tS ByteArray.empty),(tN 0),(tN 0)])) (ts:= [(tN 0),(tN 0),(tN 0),(tS ByteArray.empty),T.nils,T.nils,(tN 0),(tS ByteArray.empty),(tN 0),(tN 0)]) Qnp Qnj nofun (fun _=> .agg _ _ Y (Jm (RL.cons (.int _ _) (RL.cons (.int _ _) (RL.cons (.int _ _) (RL.cons (.str _) (RL.cons (.nils) (RL.cons (.nils) (RL.cons (.int _ _) (RL.cons (.str _) (RL.cons (.int _ _) (RL.cons (.int _ _) (RL.nil _))))))))))))) Y) (nt (sr (kO (B.alloc (t:=(T.agg [(tN 0),(tN 0),(tN 0),(tS ByteArray.empty),T.nils,T.nils,(tN 0),(tS ByteArray.empty),(tN 0),(tN 0)])) (ts:= [(tN 0),(tN 0),(tN 0),(tS ByteArray.empty),T.nils,T.nils,(tN 0),(tS ByteArray.empty),(tN 0),(tN 0)]) Qnp Qnj nofun (fun _=> .agg _ _ Y (Jm (RL.cons (.int _ _) (RL.cons (.int _ _) (RL.cons (.int _ _) (RL.cons (.str _) (RL.cons (.nils) (RL.cons (.nils) (RL.cons (.int _ _) (RL.cons (.str _) (RL.cons (.int _ _) (RL.cons (.int _ _) (RL.nil _))))))))))))) Y) (nt (sr (lf (tI a.Number) Y Qm3 Y Y QQ (fO (OF.fieldAddrO (tv (T.op 2 0) Y) QcB) (cO (B.storeO (us:= [(tI a.Number)]) (ws:= [(tI a.Number),(tN 0),(tN 0),(tS ByteArray.empty),T.nils,T.nils,(tN 0),(tS ByteArray.empty),(tN 0),(tN 0)]) (tv (T.op 2 0) Y) (tv (tI a.Number) Y) nofun Y Y (lb Y) YR ZA (bc Y bn) Y) (nt ?_)))))))))))
 refine sr (fO (OF.fieldAddrO (tv (T.op 0 0) Y) QkG) (lO (OL.loadOn (us:=(QC false a.Puzzle)) (tv (T.op 0 1) Y) Y Qoy Qno (lb Y) Y) (cO (OC.callF (r':=(T.agg [(tI a.Puzzle.Grid.Rows),(tI a.Puzzle.Grid.Cols),(tS a.Puzzle.Grid.Cells),(T.os 2 3 0 ((a.Puzzle.Clues.map (Qh true)).length)),(T.os 1 4 0 ((a.Puzzle.Seals.map (Qc true)).length)),(tI a.Puzzle.Salt)])) (objs:= [(Obj.rows 2 (a.Puzzle.Clues.map (Qh true))),(Obj.rows 1 (a.Puzzle.Seals.map (Qc true)))]) Y (vc (tv (T.agg (QC false a.Puzzle)) Y) vn) (LendL.cons (lg Y7) ln) (Qeu (n+0) a.Puzzle (by omega)) Y) (fO (OF.fieldAddrO (tv (T.op 2 0) Y) YU) (cO (B.storeO (us:= [(tI a.Puzzle.Grid.Rows),(tI a.Puzzle.Grid.Cols),(tS a.Puzzle.Grid.Cells),(T.os 2 3 0 ((a.Puzzle.Clues.map (Qh true)).length)),(T.os 1 4 0 ((a.Puzzle.Seals.map (Qc true)).length)),(tI a.Puzzle.Salt)]) (ws:= [(tI a.Number),(tI a.Puzzle.Grid.Rows),(tI a.Puzzle.Grid.Cols),(tS a.Puzzle.Grid.Cells),(T.os 2 3 0 ((a.Puzzle.Clues.map (Qh true)).length)),(T.os 1 4 0 ((a.Puzzle.Seals.map (Qc true)).length)),(tI a.Puzzle.Salt),(tS ByteArray.empty),(tN 0),(tN 0)]) (tv (T.op 2 1) Y) (tv (T.agg [(tI a.Puzzle.Grid.Rows),(tI a.Puzzle.Grid.Cols),(tS a.Puzzle.Grid.Cells),(T.os 2 3 0 ((a.Puzzle.Clues.map (Qh true)).length)),(T.os 1 4 0 ((a.Puzzle.Seals.map (Qc true)).length)),(tI a.Puzzle.Salt)]) Y) nofun Y Y (lb Y) Qnv Qer (bc Y (bc Y (bc Y (bc Y (bc Y (bc Y bn)))))) Y) (nt (sr (lf (tS a.Fill) Y QkM Y Y YD (fO (OF.fieldAddrO (tv (T.op 2 0) Y) QeU) (cO (B.storeO (us:= [(tS a.Fill)]) (ws:= [(tI a.Number),(tI a.Puzzle.Grid.Rows),(tI a.Puzzle.Grid.Cols),(tS a.Puzzle.Grid.Cells),(T.os 2 3 0 ((a.Puzzle.Clues.map (Qh true)).length)),(T.os 1 4 0 ((a.Puzzle.Seals.map (Qc true)).length)),(tI a.Puzzle.Salt),(tS a.Fill),(tN 0),(tN 0)]) (tv (T.op 2 7) Y) (tv (tS a.Fill) Y) nofun Y Y (lb Y) if9 sz9 (bc Y bn) Y) (nt ?_)))))))))))
 refine sr (lf (tI a.Open) Y QnO Y Y QQ (fO (OF.fieldAddrO (tv (T.op 2 0) Y) Qbl) (cO (B.storeO (us:= [(tI a.Open)]) (ws:= [(tI a.Number),(tI a.Puzzle.Grid.Rows),(tI a.Puzzle.Grid.Cols),(tS a.Puzzle.Grid.Cells),(T.os 2 3 0 ((a.Puzzle.Clues.map (Qh true)).length)),(T.os 1 4 0 ((a.Puzzle.Seals.map (Qc true)).length)),(tI a.Puzzle.Salt),(tS a.Fill),(tI a.Open),(tN 0)]) (tv (T.op 2 8) Y) (tv (tI a.Open) Y) nofun Y Y (lb Y) YR ZA (bc Y bn) Y) (nt (sr (lf (tI a.Close) Y Qnh Y Y QQ (fO (OF.fieldAddrO (tv (T.op 2 0) Y) Qbq) (cO (B.storeO (us:= [(tI a.Close)]) (ws:= [(tI a.Number),(tI a.Puzzle.Grid.Rows),(tI a.Puzzle.Grid.Cols),(tS a.Puzzle.Grid.Cells),(T.os 2 3 0 ((a.Puzzle.Clues.map (Qh true)).length)),(T.os 1 4 0 ((a.Puzzle.Seals.map (Qc true)).length)),(tI a.Puzzle.Salt),(tS a.Fill),(tI a.Open),(tI a.Close)]) (tv (T.op 2 9) Y) (tv (tI a.Close) Y) nofun Y Y (lb Y) YR ZA (bc Y bn) Y) (nt (sr (lO (OL.loadOn (us:= [(tI a.Number),(tI a.Puzzle.Grid.Rows),(tI a.Puzzle.Grid.Cols),(tS a.Puzzle.Grid.Cells),(T.os 2 3 0 ((a.Puzzle.Clues.map (Qh true)).length)),(T.os 1 4 0 ((a.Puzzle.Seals.map (Qc true)).length)),(tI a.Puzzle.Salt),(tS a.Fill),(tI a.Open),(tI a.Close)]) (tv (T.op 2 0) Y) Y Jj YZ (lb Y) Y) ?_)))))))))))
 refine cO (B.storeW (us:= [(tI a.Number),(tI a.Puzzle.Grid.Rows),(tI a.Puzzle.Grid.Cols),(tS a.Puzzle.Grid.Cells),(T.os 2 3 0 ((a.Puzzle.Clues.map (Qh true)).length)),(T.os 1 4 0 ((a.Puzzle.Seals.map (Qc true)).length)),(tI a.Puzzle.Salt),(tS a.Fill),(tI a.Open),(tI a.Close)]) (tv (T.op 1 0) Y) (tv (T.agg [(tI a.Number),(tI a.Puzzle.Grid.Rows),(tI a.Puzzle.Grid.Cols),(tS a.Puzzle.Grid.Cells),(T.os 2 3 0 ((a.Puzzle.Clues.map (Qh true)).length)),(T.os 1 4 0 ((a.Puzzle.Seals.map (Qc true)).length)),(tI a.Puzzle.Salt),(tS a.Fill),(tI a.Open),(tI a.Close)]) Y) nofun Y Y Y Qov YZ (bc Y (bc Y (bc Y (bc Y (bc Y (bc Y (bc Y (bc Y (bc Y (bc Y bn))))))))))) (nt (rt ?_))
 refine vfin.eq (r':=(T.agg [(tI a.Number),(tI a.Puzzle.Grid.Rows),(tI a.Puzzle.Grid.Cols),(tS a.Puzzle.Grid.Cells),(T.sl true 2 (a.Puzzle.Clues.map (Qh true))),(T.sl true 1 (a.Puzzle.Seals.map (Qc true))),(tI a.Puzzle.Salt),(tS a.Fill),(tI a.Open),(tI a.Close)])) ?_ (vfin.r (VRes.celln (ws:= [(tI a.Number),(tI a.Puzzle.Grid.Rows),(tI a.Puzzle.Grid.Cols),(tS a.Puzzle.Grid.Cells),(T.os 2 3 0 ((a.Puzzle.Clues.map (Qh true)).length)),(T.os 1 4 0 ((a.Puzzle.Seals.map (Qc true)).length)),(tI a.Puzzle.Salt),(tS a.Fill),(tI a.Open),(tI a.Close)]) Y Y Jj YZ (lb Y) Y VRes.nil) (Give.agg (GiveL.cons (Give.int _ _) (GiveL.cons (Give.int _ _) (GiveL.cons (Give.int _ _) (GiveL.cons (Give.str _) (GiveL.cons (Give.os Y Y (okeClue.cleanMap _)) (GiveL.cons (Give.os Y Y (okInt.cleanMap _)) (GiveL.cons (Give.int _ _) (GiveL.cons (Give.str _) (GiveL.cons (Give.int _ _) (GiveL.cons (Give.int _ _) GiveL.nil (by decide)) (by decide)) (by decide)) (by decide)) (by decide)) (by decide)) (by decide)) (by decide)) (by decide)) (by decide))))
 rfl
theorem QfB (n:Nat) (a:D.Entry):Pure (Qs Tryz.prog (n+1)) 23 [(T.agg (Qa false a))] (T.agg (Qa true a)):=by
 refine Pure.intro (rs:= [ResultVar.cell 2 55]) Tryz.func23 Y Y Y (E0:= [(0,(T.agg (Qa false a)))]) Y ?_
 obtain ⟨hlim,hmx,hmax⟩:=QA
 refine sr (kO (B.box (ts:=(Qa false a)) (tv (T.agg (Qa false a)) Y) nofun Y) (kO (B.alloc (t:=(T.agg [(tN 0),(tN 0),(tN 0),(tS ByteArray.empty)])) (ts:= [(tN 0),(tN 0),(tN 0),(tS ByteArray.empty)]) Qbm Qkn nofun (fun _=> .agg _ _ Y (Jm (RL.cons (.int _ _) (RL.cons (.int _ _) (RL.cons (.int _ _) (RL.cons (.str _) (RL.nil _))))))) Y) (nt (sr (kO (B.alloc (t:=(T.agg [(tN 0),(tN 0),(tN 0),(tS ByteArray.empty)])) (ts:= [(tN 0),(tN 0),(tN 0),(tS ByteArray.empty)]) Qbm Qkn nofun (fun _=> .agg _ _ Y (Jm (RL.cons (.int _ _) (RL.cons (.int _ _) (RL.cons (.int _ _) (RL.cons (.str _) (RL.nil _))))))) Y) (nt (sr (lf (tI a.Player) Y QnF Y Y QQ (fO (OF.fieldAddrO (tv (T.op 2 0) Y) YH) (cO (B.storeO (us:= [(tI a.Player)]) (ws:= [(tI a.Player),(tN 0),(tN 0),(tS ByteArray.empty)]) (tv (T.op 2 0) Y) (tv (tI a.Player) Y) nofun Y Y (lb Y) YR ZA (bc Y bn) Y) (nt ?_)))))))))))
 refine sr (lf (tI a.Issue) Y Qng Y Y QQ (fO (OF.fieldAddrO (tv (T.op 2 0) Y) QdO) (cO (B.storeO (us:= [(tI a.Issue)]) (ws:= [(tI a.Player),(tI a.Issue),(tN 0),(tS ByteArray.empty)]) (tv (T.op 2 1) Y) (tv (tI a.Issue) Y) nofun Y Y (lb Y) YR ZA (bc Y bn) Y) (nt (sr (lf (tI a.Tick) Y Qne Y Y QQ (fO (OF.fieldAddrO (tv (T.op 2 0) Y) Jg) (cO (B.storeO (us:= [(tI a.Tick)]) (ws:= [(tI a.Player),(tI a.Issue),(tI a.Tick),(tS ByteArray.empty)]) (tv (T.op 2 2) Y) (tv (tI a.Tick) Y) nofun Y Y (lb Y) YR ZA (bc Y bn) Y) (nt (sr (lf (tS a.Fill) Y QkI Y Y YD ?_)))))))))))
 refine fO (OF.fieldAddrO (tv (T.op 2 0) Y) Qb0) (cO (B.storeO (us:= [(tS a.Fill)]) (ws:= [(tI a.Player),(tI a.Issue),(tI a.Tick),(tS a.Fill)]) (tv (T.op 2 3) Y) (tv (tS a.Fill) Y) nofun Y Y (lb Y) if9 sz9 (bc Y bn) Y) (nt (sr (lO (OL.loadOn (us:=(Qa false a)) (tv (T.op 2 0) Y) Y ZX Qz (lb Y) Y) (cO (B.storeW (us:=(Qa false a)) (tv (T.op 1 0) Y) (tv (T.agg (Qa false a)) Y) nofun Y Y Y Zo Qz (bc Y (bc Y (bc Y (bc Y bn))))) (nt (rt ?_)))))))
 refine vfin.eq (r':=(T.agg (Qa false a))) ?_ (vfin.r (VRes.celln (ws:=(Qa false a)) Y Y ZX Qz (lb Y) Y VRes.nil) (Give.agg (GiveL.cons (Give.int _ _) (GiveL.cons (Give.int _ _) (GiveL.cons (Give.int _ _) (GiveL.cons (Give.str _) GiveL.nil (by decide)) (by decide)) (by decide)) (by decide))))
 rfl
theorem YY (n:Nat) (a:List D.Entry) (ha:a.length≤mx):Pure (Qs Tryz.prog (n+2)) 8 [(rd 4 Qa a)] (T.sl true 4 (a.map (Qa true))):=by
 refine Pure.intro (rs:= [ResultVar.tmp 2]) Tryz.func8 Y Y Y (E0:= [(0,(rd 4 Qa a))]) Y ?_
 obtain ⟨hlim,hmx,hmax⟩:=QA
 refine sr (fO (OF.assign VEv.nils) (nt (sr (mO (rd 4 Qa a) Y (lO (B.lenR (m:=a.length) (tv (rd 4 Qa a) Y) U22 (List.length_map ..)) (kO (B.makeZ (n:=a.length) (m:=((List.replicate a.length (D.Entry.mk 0 0 0 ByteArray.empty)).map (Qa true)).length) (rows:=((List.replicate a.length (D.Entry.mk 0 0 0 ByteArray.empty)).map (Qa true))) (zr:=(Qa true (D.Entry.mk 0 0 0 ByteArray.empty))) (tv (tN a.length) Y) (tv (tN a.length) Y) Y Yb Qbm Qkn Y (by rw [Qz];decide) (by omega) (of_decide_eq_true (by kernel_rfl)) (Z0.int (Z0.int (Z0.int (Z0.str Z0.nil)))) Qz (List.map_replicate ..).symm (by rw [List.length_map,List.length_replicate])) (aO (T.os 4 0 0 (((List.replicate a.length (D.Entry.mk 0 0 0 ByteArray.empty)).map (Qa true)).length)) Y (nt (sq (sr (fO (OF.assign (VEv.int .i64 0)) ?_)))))))))))
 refine nt (VRun.block ?_)
 have he1:(List.replicate a.length (D.Entry.mk 0 0 0 ByteArray.empty))=(a.take 0++List.replicate (a.length - 0) (D.Entry.mk 0 0 0 ByteArray.empty)):=by rfl
 refine VRun.loop (A:=Nat) (fun s_=> [(0,(rd 4 Qa a)),(2,T.nils),(3,(T.os 4 0 0 (((a.take s_++List.replicate (a.length - s_) (D.Entry.mk 0 0 0 ByteArray.empty)).map (Qa true)).length))),(4,(tN s_))]) (fun s_=>QV [(0,(Obj.rows 4 ((a.take s_++List.replicate (a.length - s_) (D.Entry.mk 0 0 0 ByteArray.empty)).map (Qa true))))]) 1 (fun s_=>s_≤a.length) (fun s_=>a.length - s_) (0:Nat) ?_ (Wk.mk (fun k=>k) ?_ ?_ ?_) ?_
 ·(simp;done)
 ·exact (b2 (b2 (bc ⟨(congrArg (fun l_=>T.os 4 0 0 (List.map (Qa true) l_).length) he1),rfl⟩ (b2 bn))))
 ·exact (bc ⟨(congrArg (fun l_=>some (Obj.rows 4 (List.map (Qa true) l_))) he1),(lb Y),rfl⟩ bn)
 ·exact nd Y
 rintro i (hI':i≤a.length)
 show VRun _ _ _ [(0,(rd 4 Qa a)),(2,T.nils),(3,(T.os 4 0 0 (((a.take i++List.replicate (a.length - i) (D.Entry.mk 0 0 0 ByteArray.empty)).map (Qa true)).length))),(4,(tN i))] (QV [(0,(Obj.rows 4 ((a.take i++List.replicate (a.length - i) (D.Entry.mk 0 0 0 ByteArray.empty)).map (Qa true))))]) 1 _
 have hfl:=QeR (w:=(D.Entry.mk 0 0 0 ByteArray.empty)) hI'
 refine sq (sr (mO (tN i) Y (mO (rd 4 Qa a) Y (lO (B.lenR (m:=a.length) (tv (rd 4 Qa a) Y) U22 (List.length_map ..)) (fO (Q5 (tv (tN i) Y) (tv (tN a.length) Y)) (nt ?_))))))
 refine cd (i<a.length) Y (fun fhc0=> ?_) fun fhc0=> ?_
 ·refine sk ?_
  refine tn (sq (VRun.block (VRun.region (mO (T.os 4 0 0 (((a.take i++List.replicate (a.length - i) (D.Entry.mk 0 0 0 ByteArray.empty)).map (Qa true)).length)) Y (mO (tN i) Y (mO (rd 4 Qa a) Y (mO (tN i) Y ?_)))))))
  obtain ⟨x1,hx1⟩:∃x,a[i]? =some x:=⟨_,List.getElem?_eq_getElem (by omega)⟩
  refine fO (OF.indexAddrR (row:=(Qa false x1)) (i:=i) (tv (rd 4 Qa a) Y) (tv (tN i) Y) Y (Qr _ hx1) U22 QmK Qom) (lO (OL.loadRn (us:=(Qa false x1)) (tv (T.rp (Qa false x1)) Y) Qop QmK (lb Y) Y) (cO (cS (vc (tv (T.agg (Qa false x1)) Y) vn) (LendL.cons (lg okeEntry) ln) (QfB (n+0) x1) Y Y) ?_))
  obtain ⟨x2,hx2⟩:∃x,(a.take i++List.replicate (a.length - i) (D.Entry.mk 0 0 0 ByteArray.empty))[i]? =some x:=⟨_,List.getElem?_eq_getElem (by omega)⟩
  refine fO (B.indexAddrO (i:=i) (tv (T.os 4 0 0 (((a.take i++List.replicate (a.length - i) (D.Entry.mk 0 0 0 ByteArray.empty)).map (Qa true)).length)) Y) (tv (tN i) Y) Y (by (simp only [List.length_map];omega)) Yb Qz Zo) (cO (B.storeP (us:=(Qa true x1)) (rows':=(((a.take i++List.replicate (a.length - i) (D.Entry.mk 0 0 0 ByteArray.empty)).set i x1).map (Qa true))) (row:=(Qa true x2)) (tv (T.orp 4 0 i 0) Y) (tv (T.agg (Qa true x1)) Y) nofun Y (Qr _ hx2) Y (lb Y) Zo Qz (bc Y (bc Y (bc Y (bc Y bn)))) (by intro r hr t ht;obtain ⟨x,_,rfl⟩:=List.mem_map.1 hr;rw [Yy] at ht;exact QT (okeEntry.pl _ t ht)) (QZ Y)) (VRunO.nil (vinB.n (tn (VRun.region (mO (tN i) Y (fO (Qx (tv (tN i) Y) (VEv.int .i64 1) (by omega)) (aO (tN (i+1)) Y (VRunO.nil (tn ?_))))))))))
  have he2:((a.take i++List.replicate (a.length - i) (D.Entry.mk 0 0 0 ByteArray.empty)).set i x1)=(a.take (i+1)++List.replicate (a.length - (i+1)) (D.Entry.mk 0 0 0 ByteArray.empty)):=by exact Qb3 hx1
  refine ⟨(i+1:Nat),?_,?_,Wk.mk (fun k=>k) ?_ ?_ ?_⟩
  ·trivial
  ·omega
  ·exact (b2 (b2 (bc ⟨(congrArg (fun n_=>T.os 4 0 0 n_) (show ((a.take i++List.replicate (a.length - i) (D.Entry.mk 0 0 0 ByteArray.empty)).map (Qa true)).length=((a.take (i+1)++List.replicate (a.length - (i+1)) (D.Entry.mk 0 0 0 ByteArray.empty)).map (Qa true)).length from (by (simp only [List.length_map,List.length_set,List.length_append,List.length_take,List.length_replicate,List.length_cons,List.length_nil];omega)))),rfl⟩ (b2 bn))))
  ·exact (bc ⟨(congrArg (fun l_=>some (Obj.rows 4 (List.map (Qa true) l_))) he2),(lb Y),rfl⟩ bn)
  ·exact nd Y
 refine VRun.exit (vthn.e (vthn.e (vinB.e (tn (sr (mO (T.os 4 0 0 (((a.take i++List.replicate (a.length - i) (D.Entry.mk 0 0 0 ByteArray.empty)).map (Qa true)).length)) Y (aO (T.os 4 0 0 (((a.take i++List.replicate (a.length - i) (D.Entry.mk 0 0 0 ByteArray.empty)).map (Qa true)).length)) Y (nt (rt ?_)))))))))
 refine vfin.eq (r':=(T.sl true 4 ((a.take i++List.replicate (a.length - i) (D.Entry.mk 0 0 0 ByteArray.empty)).map (Qa true)))) ?_ (vfin.r (VRes.tmp (t:=(T.os 4 0 0 (((a.take i++List.replicate (a.length - i) (D.Entry.mk 0 0 0 ByteArray.empty)).map (Qa true)).length))) Y VRes.nil) (Give.os Y Y (okeEntry.cleanMap _)))
 refine congrArg (fun l_=>T.sl true 4 (List.map (Qa true) l_)) ?_
 exact Qck fhc0
theorem JB (n:Nat) (a:List Int) (b:List Int) (hla:a.length≤mx) (hlb:b.length≤mx):Pure (Qs Tryz.prog (n+1)) 11 [(rd 1 Qc a),(rd 1 Qc b)] (tB (decide (a=b))):=by
 refine Pure.intro (rs:= [ResultVar.tmp 4]) Tryz.func11 Y Y Y (E0:= [(0,(rd 1 Qc a)),(1,(rd 1 Qc b))]) Y ?_
 obtain ⟨hlim,hmx,hmax⟩:=QA
 refine sr (fO (OF.assign (VEv.bool false)) (nt (sq (sr (mO (rd 1 Qc a) Y (lO (B.lenR (m:=a.length) (tv (rd 1 Qc a) Y) Z1 (List.length_map ..)) (mO (rd 1 Qc b) Y (lO (B.lenR (m:=b.length) (tv (rd 1 Qc b) Y) Z1 (List.length_map ..)) (fO (QeX (tv (tN a.length) Y) (tv (tN b.length) Y)) (nt ?_))))))))))
 refine cn (a.length=b.length) Y (fun fhc0=> ?_) fun fhc0=> ?_
 ·refine sr ?_
  refine fO (OF.assign (VEv.bool false)) (nt (rt (tr (vb (b':=false) Y ?_))))
  symm;rw [decide_eq_false_iff_not];rintro rfl;exact fhc0 Y
 refine sk (tn (sq (sr (fO (OF.assign (VEv.int .i64 0)) (nt (VRun.block ?_))))))
 refine VRun.loop (A:=Nat) (fun s_=> [(0,(rd 1 Qc a)),(1,(rd 1 Qc b)),(5,(tN s_))]) (fun s_=>QV []) 0 (fun s_=>s_≤a.length∧∀j,j<s_→a[j]? =b[j]?) (fun s_=>a.length - s_) (0:Nat) ?_ (Wk.mk (fun k=>k) ?_ ?_ ?_) ?_
 ·(simp;done)
 ·exact (b2 (b2 (b2 bn)))
 ·exact bn
 ·exact nd Y
 rintro i (hI':i≤a.length∧∀j,j<i→a[j]? =b[j]?)
 show VRun _ _ _ [(0,(rd 1 Qc a)),(1,(rd 1 Qc b)),(5,(tN i))] (QV []) 0 _
 refine sq (sr (mO (tN i) Y (mO (rd 1 Qc a) Y (lO (B.lenR (m:=a.length) (tv (rd 1 Qc a) Y) Z1 (List.length_map ..)) (fO (Q5 (tv (tN i) Y) (tv (tN a.length) Y)) (nt ?_))))))
 refine cd (i<a.length) Y (fun fhc1=> ?_) fun fhc1=> ?_
 ·refine sk ?_
  refine tn (sq (VRun.block (sq (VRun.draw (B:= [[],[],[1,0],[0,1,2],[],[],[5,4],[4,5,6],[6,5,4,7,2,1,0,3]]) (by kernel_rfl) (by kernel_rfl) Y (mD (rd 1 Qc a) Y Y (mD (tN i) Y Y ?_))))))
  obtain ⟨x1,hx1⟩:∃x,a[i]? =some x:=⟨_,List.getElem?_eq_getElem (by omega)⟩
  refine fD (OF.indexAddrR (row:=(Qc false x1)) (i:=i) (tv (rd 1 Qc a) Y) (tv (tN i) Y) Y (Qr _ hx1) Z1 ZA YR) Y Y (lD (OL.loadR1 (t:=(tI x1)) (tv (T.rp [(tI x1)]) Y) Y QQ) Y Y (mD (rd 1 Qc b) Y Y (mD (tN i) Y Y ?_)))
  obtain ⟨x2,hx2⟩:∃x,b[i]? =some x:=⟨_,List.getElem?_eq_getElem (by omega)⟩
  refine fD (OF.indexAddrR (row:=(Qc false x2)) (i:=i) (tv (rd 1 Qc b) Y) (tv (tN i) Y) Y (Qr _ hx2) Z1 ZA YR) Y Y (lD (OL.loadR1 (t:=(tI x2)) (tv (T.rp [(tI x2)]) Y) Y QQ) Y Y (fD (xne (tv (tI x1) Y) (tv (tI x2) Y)) Y Y (VRunD.nil (tn ?_))))
  refine cn (x1=x2) Y (fun fhc2=> ?_) fun fhc2=> ?_
  ·refine sr ?_
   refine fO (OF.assign (VEv.bool false)) (nt (rt (vinB.r (tr (tr (vinB.r (tr (vb (b':=false) Y ?_))))))))
   symm;rw [decide_eq_false_iff_not];exact Qca hx1 hx2 fhc2
  refine sk (vinB.n (tn (VRun.region (mO (tN i) Y (fO (Qx (tv (tN i) Y) (VEv.int .i64 1) (by omega)) (aO (tN (i+1)) Y (VRunO.nil (tn ?_))))))))
  refine ⟨(i+1:Nat),?_,?_,Wk.mk (fun k=>k) ?_ ?_ ?_⟩
  ·exact Qbi hI' hx1 hx2 fhc2
  ·omega
  ·exact (b2 (b2 (b2 bn)))
  ·exact bn
  ·exact nd Y
 refine VRun.exit (vthn.e (vthn.e (vinB.e (tn (sr (fO (OF.assign (VEv.bool true)) (nt (rt (vb (b':=true) Y ?_)))))))))
 symm;rw [decide_eq_true_eq];exact Qb4 hI' fhc0 fhc1
theorem Qf7 (n:Nat) (a:D.Grid) (b:D.Grid):Pure (Qs Tryz.prog (n+1)) 46 [(T.agg (Qd false a)),(T.agg (Qd false b))] (tB (decide (a=b))):=by
 refine Pure.intro (rs:= [ResultVar.tmp 4]) Tryz.func46 Y Y Y (E0:= [(0,(T.agg (Qd false a))),(1,(T.agg (Qd false b)))]) Y ?_
 obtain ⟨hlim,hmx,hmax⟩:=QA
 refine sr (kO (B.box (ts:=(Qd false a)) (tv (T.agg (Qd false a)) Y) nofun Y) (kO (B.box (ts:=(Qd false b)) (tv (T.agg (Qd false b)) Y) nofun Y) (fO (OF.assign (VEv.bool false)) (nt (sq (sr (lf (tI a.Rows) Y QaR Y Y QQ (lf (tI b.Rows) Y QaR Y Y QQ (fO (xne (tv (tI a.Rows) Y) (tv (tI b.Rows) Y)) (nt ?_))))))))))
 refine cn (a.Rows=b.Rows) Y (fun fhc0=> ?_) fun fhc0=> ?_
 ·refine sr ?_
  refine fO (OF.assign (VEv.bool false)) (nt (rt (tr (vb (b':=false) Y ?_))))
  obtain ⟨a0,a1,a2⟩:=a
  obtain ⟨b0,b1,b2⟩:=b
  simp_all
 refine sk (tn (sq (sr (lf (tI a.Cols) Y ZE Y Y QQ (lf (tI b.Cols) Y ZE Y Y QQ (fO (xne (tv (tI a.Cols) Y) (tv (tI b.Cols) Y)) (nt ?_)))))))
 refine cn (a.Cols=b.Cols) Y (fun fhc1=> ?_) fun fhc1=> ?_
 ·refine sr ?_
  refine fO (OF.assign (VEv.bool false)) (nt (rt (tr (vb (b':=false) Y ?_))))
  obtain ⟨a0,a1,a2⟩:=a
  obtain ⟨b0,b1,b2⟩:=b
  simp_all
 refine sk (tn (sq (sr (lf (tS a.Cells) Y QU Y Y YD (lf (tS b.Cells) Y QU Y Y YD (fO (B.sneq (c:=(!(decide (a.Cells=b.Cells)))) (tv (tS a.Cells) Y) (tv (tS b.Cells) Y) Y) (nt ?_)))))))
 refine cn (a.Cells=b.Cells) Y (fun fhc2=> ?_) fun fhc2=> ?_
 ·refine sr ?_
  refine fO (OF.assign (VEv.bool false)) (nt (rt (tr (vb (b':=false) Y ?_))))
  obtain ⟨a0,a1,a2⟩:=a
  obtain ⟨b0,b1,b2⟩:=b
  simp_all
 refine sk (tn (sr (fO (OF.assign (VEv.bool true)) (nt (rt (vb (b':=true) Y ?_))))))
 obtain ⟨a0,a1,a2⟩:=a
 obtain ⟨b0,b1,b2⟩:=b
 simp_all
theorem Qf4 (n:Nat) (a:D.Step) (b:D.Step):Pure (Qs Tryz.prog (n+1)) 95 [(T.agg (Ql false a)),(T.agg (Ql false b))] (tB (decide (a=b))):=by
 refine Pure.intro (rs:= [ResultVar.tmp 4]) Tryz.func95 Y Y Y (E0:= [(0,(T.agg (Ql false a))),(1,(T.agg (Ql false b)))]) Y ?_
 obtain ⟨hlim,hmx,hmax⟩:=QA
 refine sr (kO (B.box (ts:=(Ql false a)) (tv (T.agg (Ql false a)) Y) nofun Y) (kO (B.box (ts:=(Ql false b)) (tv (T.agg (Ql false b)) Y) nofun Y) (fO (OF.assign (VEv.bool false)) (nt (sq (sr (lf (tI a.Kind) Y Zp Y Y QQ (lf (tI b.Kind) Y Zp Y Y QQ (fO (xne (tv (tI a.Kind) Y) (tv (tI b.Kind) Y)) (nt ?_))))))))))
 refine cn (a.Kind=b.Kind) Y (fun fhc0=> ?_) fun fhc0=> ?_
 ·refine sr ?_
  refine fO (OF.assign (VEv.bool false)) (nt (rt (tr (vb (b':=false) Y ?_))))
  obtain ⟨a0,a1,a2,a3⟩:=a
  obtain ⟨b0,b1,b2,b3⟩:=b
  simp_all
 refine sk (tn (sq (sr (lf (tS a.Word) Y QaC Y Y YD (lf (tS b.Word) Y QaC Y Y YD (fO (B.sneq (c:=(!(decide (a.Word=b.Word)))) (tv (tS a.Word) Y) (tv (tS b.Word) Y) Y) (nt ?_)))))))
 refine cn (a.Word=b.Word) Y (fun fhc1=> ?_) fun fhc1=> ?_
 ·refine sr ?_
  refine fO (OF.assign (VEv.bool false)) (nt (rt (tr (vb (b':=false) Y ?_))))
  obtain ⟨a0,a1,a2,a3⟩:=a
  obtain ⟨b0,b1,b2,b3⟩:=b
  simp_all
 refine sk (tn (sq (sr (lf (tI a.A) Y YX Y Y QQ (lf (tI b.A) Y YX Y Y QQ (fO (xne (tv (tI a.A) Y) (tv (tI b.A) Y)) (nt ?_)))))))
 refine cn (a.A=b.A) Y (fun fhc2=> ?_) fun fhc2=> ?_
 ·refine sr ?_
  refine fO (OF.assign (VEv.bool false)) (nt (rt (tr (vb (b':=false) Y ?_))))
  obtain ⟨a0,a1,a2,a3⟩:=a
  obtain ⟨b0,b1,b2,b3⟩:=b
  simp_all
 refine sk (tn (sq (sr (lf (tI a.B) Y Yz Y Y QQ (lf (tI b.B) Y Yz Y Y QQ (fO (xne (tv (tI a.B) Y) (tv (tI b.B) Y)) (nt ?_)))))))
 refine cn (a.B=b.B) Y (fun fhc3=> ?_) fun fhc3=> ?_
 ·refine sr ?_
  refine fO (OF.assign (VEv.bool false)) (nt (rt (tr (vb (b':=false) Y ?_))))
  obtain ⟨a0,a1,a2,a3⟩:=a
  obtain ⟨b0,b1,b2,b3⟩:=b
  simp_all
 refine sk (tn (sr (fO (OF.assign (VEv.bool true)) (nt (rt (vb (b':=true) Y ?_))))))
 obtain ⟨a0,a1,a2,a3⟩:=a
 obtain ⟨b0,b1,b2,b3⟩:=b
 simp_all
theorem Qfz (n:Nat) (a:List D.Step) (b:List D.Step) (hla:a.length≤mx) (hlb:b.length≤mx):Pure (Qs Tryz.prog (n+2)) 78 [(rd 4 Ql a),(rd 4 Ql b)] (tB (decide (a=b))):=by
 refine Pure.intro (rs:= [ResultVar.tmp 4]) Tryz.func78 Y Y Y (E0:= [(0,(rd 4 Ql a)),(1,(rd 4 Ql b))]) Y ?_
 obtain ⟨hlim,hmx,hmax⟩:=QA
 refine sr (fO (OF.assign (VEv.bool false)) (nt (sq (sr (mO (rd 4 Ql a) Y (lO (B.lenR (m:=a.length) (tv (rd 4 Ql a) Y) U87 (List.length_map ..)) (mO (rd 4 Ql b) Y (lO (B.lenR (m:=b.length) (tv (rd 4 Ql b) Y) U87 (List.length_map ..)) (fO (QeX (tv (tN a.length) Y) (tv (tN b.length) Y)) (nt ?_))))))))))
 refine cn (a.length=b.length) Y (fun fhc0=> ?_) fun fhc0=> ?_
 ·refine sr ?_
  refine fO (OF.assign (VEv.bool false)) (nt (rt (tr (vb (b':=false) Y ?_))))
  symm;rw [decide_eq_false_iff_not];rintro rfl;exact fhc0 Y
 refine sk (tn (sq (sr (fO (OF.assign (VEv.int .i64 0)) (nt (VRun.block ?_))))))
 refine VRun.loop (A:=Nat) (fun s_=> [(0,(rd 4 Ql a)),(1,(rd 4 Ql b)),(5,(tN s_))]) (fun s_=>QV []) 0 (fun s_=>s_≤a.length∧∀j,j<s_→a[j]? =b[j]?) (fun s_=>a.length - s_) (0:Nat) ?_ (Wk.mk (fun k=>k) ?_ ?_ ?_) ?_
 ·(simp;done)
 ·exact (b2 (b2 (b2 bn)))
 ·exact bn
 ·exact nd Y
 rintro i (hI':i≤a.length∧∀j,j<i→a[j]? =b[j]?)
 show VRun _ _ _ [(0,(rd 4 Ql a)),(1,(rd 4 Ql b)),(5,(tN i))] (QV []) 0 _
 refine sq (sr (mO (tN i) Y (mO (rd 4 Ql a) Y (lO (B.lenR (m:=a.length) (tv (rd 4 Ql a) Y) U87 (List.length_map ..)) (fO (Q5 (tv (tN i) Y) (tv (tN a.length) Y)) (nt ?_))))))
 refine cd (i<a.length) Y (fun fhc1=> ?_) fun fhc1=> ?_
 ·refine sk ?_
  refine tn (sq (VRun.block (sq (VRun.draw (B:= [[],[],[1,0],[0,1,2],[],[],[5,4],[4,5,6],[6,5,4,7,2,1,0,3],[3,0,1,2,7,4,5,6,8]]) (by kernel_rfl) (by kernel_rfl) Y (mD (rd 4 Ql a) Y Y (mD (tN i) Y Y ?_))))))
  obtain ⟨x1,hx1⟩:∃x,a[i]? =some x:=⟨_,List.getElem?_eq_getElem (by omega)⟩
  refine fD (OF.indexAddrR (row:=(Ql false x1)) (i:=i) (tv (rd 4 Ql a) Y) (tv (tN i) Y) Y (Qr _ hx1) U87 YG Qal) Y Y (lD (OL.loadRn (us:=(Ql false x1)) (tv (T.rp (Ql false x1)) Y) Qgw YG (lb Y) Y) Y Y (mD (rd 4 Ql b) Y Y (mD (tN i) Y Y ?_)))
  obtain ⟨x2,hx2⟩:∃x,b[i]? =some x:=⟨_,List.getElem?_eq_getElem (by omega)⟩
  refine fD (OF.indexAddrR (row:=(Ql false x2)) (i:=i) (tv (rd 4 Ql b) Y) (tv (tN i) Y) Y (Qr _ hx2) U87 YG Qal) Y Y (lD (OL.loadRn (us:=(Ql false x2)) (tv (T.rp (Ql false x2)) Y) Qgw YG (lb Y) Y) Y Y (VRunD.quiet (bi:= [6,5,4,7,2,1,0,3]) Y VWant.always Y Y Y bn (cS (vc (tv (T.agg (Ql false x1)) Y) (vc (tv (T.agg (Ql false x2)) Y) vn)) (LendL.cons (lg okeStep) (LendL.cons (lg okeStep) ln)) (Qf4 (n+0) x1 x2) Y Y) (fD (Zd (tv (tB (decide (x1=x2))) Y)) Y Y (VRunD.nil (tn ?_)))))
  refine cn (x1=x2) Y (fun fhc2=> ?_) fun fhc2=> ?_
  ·refine sr ?_
   refine fO (OF.assign (VEv.bool false)) (nt (rt (vinB.r (tr (tr (vinB.r (tr (vb (b':=false) Y ?_))))))))
   symm;rw [decide_eq_false_iff_not];exact Qca hx1 hx2 fhc2
  refine sk (vinB.n (tn (VRun.region (mO (tN i) Y (fO (Qx (tv (tN i) Y) (VEv.int .i64 1) (by omega)) (aO (tN (i+1)) Y (VRunO.nil (tn ?_))))))))
  refine ⟨(i+1:Nat),?_,?_,Wk.mk (fun k=>k) ?_ ?_ ?_⟩
  ·exact Qbi hI' hx1 hx2 fhc2
  ·omega
  ·exact (b2 (b2 (b2 bn)))
  ·exact bn
  ·exact nd Y
 refine VRun.exit (vthn.e (vthn.e (vinB.e (tn (sr (fO (OF.assign (VEv.bool true)) (nt (rt (vb (b':=true) Y ?_)))))))))
 symm;rw [decide_eq_true_eq];exact Qb4 hI' fhc0 fhc1
theorem Qgi (n:Nat) (a:D.Clue) (b:D.Clue) (ha:QY a≤mx) (hb:QY b≤mx):Pure (Qs Tryz.prog (n+3)) 62 [(T.agg (Qh false a)),(T.agg (Qh false b))] (tB (decide (a=b))):=by
 refine Pure.intro (rs:= [ResultVar.tmp 4]) Tryz.func62 Y Y Y (E0:= [(0,(T.agg (Qh false a))),(1,(T.agg (Qh false b)))]) Y ?_
 obtain ⟨hlim,hmx,hmax⟩:=QA
 simp only [QY] at ha hb
 have hla_Play:=Zs (z:=ZV) a.Play
 have hlb_Play:=Zs (z:=ZV) b.Play
 refine sr (kO (B.box (ts:=(Qh false a)) (tv (T.agg (Qh false a)) Y) nofun Y) (kO (B.box (ts:=(Qh false b)) (tv (T.agg (Qh false b)) Y) nofun Y) (fO (OF.assign (VEv.bool false)) (nt (sq (sr (lf (tI a.Sense) Y QdM Y Y QQ (lf (tI b.Sense) Y QdM Y Y QQ (fO (xne (tv (tI a.Sense) Y) (tv (tI b.Sense) Y)) (nt ?_))))))))))
 refine cn (a.Sense=b.Sense) Y (fun fhc0=> ?_) fun fhc0=> ?_
 ·refine sr ?_
  refine fO (OF.assign (VEv.bool false)) (nt (rt (tr (vb (b':=false) Y ?_))))
  obtain ⟨a0,a1⟩:=a
  obtain ⟨b0,b1⟩:=b
  simp_all
 refine sk (tn (sq (sr (lf (rd 4 Ql a.Play) Y Qd0 Y Y Qln (lf (rd 4 Ql b.Play) Y Qd0 Y Y Qln (cO (cS (vc (tv (rd 4 Ql a.Play) Y) (vc (tv (rd 4 Ql b.Play) Y) vn)) (Z8 Y) (Qfz (n+0) a.Play b.Play (by omega) (by omega)) Y Y) (fO (Zd (tv (tB (decide (a.Play=b.Play))) Y)) (nt ?_))))))))
 refine cn (a.Play=b.Play) Y (fun fhc1=> ?_) fun fhc1=> ?_
 ·refine sr ?_
  refine fO (OF.assign (VEv.bool false)) (nt (rt (tr (vb (b':=false) Y ?_))))
  obtain ⟨a0,a1⟩:=a
  obtain ⟨b0,b1⟩:=b
  simp_all
 refine sk (tn (sr (fO (OF.assign (VEv.bool true)) (nt (rt (vb (b':=true) Y ?_))))))
 obtain ⟨a0,a1⟩:=a
 obtain ⟨b0,b1⟩:=b
 simp_all
theorem Qfa (n:Nat) (a:List D.Clue) (b:List D.Clue) (ha:zL QY a≤mx) (hb:zL QY b≤mx):Pure (Qs Tryz.prog (n+4)) 47 [(rd 2 Qh a),(rd 2 Qh b)] (tB (decide (a=b))):=by
 refine Pure.intro (rs:= [ResultVar.tmp 4]) Tryz.func47 Y Y Y (E0:= [(0,(rd 2 Qh a)),(1,(rd 2 Qh b))]) Y ?_
 obtain ⟨hlim,hmx,hmax⟩:=QA
 have hla:=Zs (z:=QY) a
 have hlb:=Zs (z:=QY) b
 refine sr (fO (OF.assign (VEv.bool false)) (nt (sq (sr (mO (rd 2 Qh a) Y (lO (B.lenR (m:=a.length) (tv (rd 2 Qh a) Y) U37 (List.length_map ..)) (mO (rd 2 Qh b) Y (lO (B.lenR (m:=b.length) (tv (rd 2 Qh b) Y) U37 (List.length_map ..)) (fO (QeX (tv (tN a.length) Y) (tv (tN b.length) Y)) (nt ?_))))))))))
 refine cn (a.length=b.length) Y (fun fhc0=> ?_) fun fhc0=> ?_
 ·refine sr ?_
  refine fO (OF.assign (VEv.bool false)) (nt (rt (tr (vb (b':=false) Y ?_))))
  symm;rw [decide_eq_false_iff_not];rintro rfl;exact fhc0 Y
 refine sk (tn (sq (sr (fO (OF.assign (VEv.int .i64 0)) (nt (VRun.block ?_))))))
 refine VRun.loop (A:=Nat) (fun s_=> [(0,(rd 2 Qh a)),(1,(rd 2 Qh b)),(5,(tN s_))]) (fun s_=>QV []) 0 (fun s_=>s_≤a.length∧∀j,j<s_→a[j]? =b[j]?) (fun s_=>a.length - s_) (0:Nat) ?_ (Wk.mk (fun k=>k) ?_ ?_ ?_) ?_
 ·(simp;done)
 ·exact (b2 (b2 (b2 bn)))
 ·exact bn
 ·exact nd Y
 rintro i (hI':i≤a.length∧∀j,j<i→a[j]? =b[j]?)
 show VRun _ _ _ [(0,(rd 2 Qh a)),(1,(rd 2 Qh b)),(5,(tN i))] (QV []) 0 _
 refine sq (sr (mO (tN i) Y (mO (rd 2 Qh a) Y (lO (B.lenR (m:=a.length) (tv (rd 2 Qh a) Y) U37 (List.length_map ..)) (fO (Q5 (tv (tN i) Y) (tv (tN a.length) Y)) (nt ?_))))))
 refine cd (i<a.length) Y (fun fhc1=> ?_) fun fhc1=> ?_
 ·refine sk ?_
  refine tn (sq (VRun.block (sq (VRun.draw (B:= [[],[],[1,0],[0,1,2],[],[],[5,4],[4,5,6],[6,5,4,7,2,1,0,3],[3,0,1,2,7,4,5,6,8]]) (by kernel_rfl) (by kernel_rfl) Y (mD (rd 2 Qh a) Y Y (mD (tN i) Y Y ?_))))))
  obtain ⟨x1,hx1⟩:∃x,a[i]? =some x:=⟨_,List.getElem?_eq_getElem (by omega)⟩
  refine fD (OF.indexAddrR (row:=(Qh false x1)) (i:=i) (tv (rd 2 Qh a) Y) (tv (tN i) Y) Y (Qr _ hx1) U37 QbG Qhs) Y Y (lD (OL.loadRn (us:=(Qh false x1)) (tv (T.rp (Qh false x1)) Y) QiK QbG (lb Y) Y) Y Y (mD (rd 2 Qh b) Y Y (mD (tN i) Y Y ?_)))
  obtain ⟨x2,hx2⟩:∃x,b[i]? =some x:=⟨_,List.getElem?_eq_getElem (by omega)⟩
  refine fD (OF.indexAddrR (row:=(Qh false x2)) (i:=i) (tv (rd 2 Qh b) Y) (tv (tN i) Y) Y (Qr _ hx2) U37 QbG Qhs) Y Y (lD (OL.loadRn (us:=(Qh false x2)) (tv (T.rp (Qh false x2)) Y) QiK QbG (lb Y) Y) Y Y (VRunD.quiet (bi:= [6,5,4,7,2,1,0,3]) Y VWant.always Y Y Y bn (cS (vc (tv (T.agg (Qh false x1)) Y) (vc (tv (T.agg (Qh false x2)) Y) vn)) (LendL.cons (lg okeClue) (LendL.cons (lg okeClue) ln)) (Qgi (n+0) x1 x2 (by exact Nat.le_trans (QgF hx1) ha) (by exact Nat.le_trans (QgF hx2) hb)) Y Y) (fD (Zd (tv (tB (decide (x1=x2))) Y)) Y Y (VRunD.nil (tn ?_)))))
  refine cn (x1=x2) Y (fun fhc2=> ?_) fun fhc2=> ?_
  ·refine sr ?_
   refine fO (OF.assign (VEv.bool false)) (nt (rt (vinB.r (tr (tr (vinB.r (tr (vb (b':=false) Y ?_))))))))
   symm;rw [decide_eq_false_iff_not];exact Qca hx1 hx2 fhc2
  refine sk (vinB.n (tn (VRun.region (mO (tN i) Y (fO (Qx (tv (tN i) Y) (VEv.int .i64 1) (by omega)) (aO (tN (i+1)) Y (VRunO.nil (tn ?_))))))))
  refine ⟨(i+1:Nat),?_,?_,Wk.mk (fun k=>k) ?_ ?_ ?_⟩
  ·exact Qbi hI' hx1 hx2 fhc2
  ·omega
  ·exact (b2 (b2 (b2 bn)))
  ·exact bn
  ·exact nd Y
 refine VRun.exit (vthn.e (vthn.e (vinB.e (tn (sr (fO (OF.assign (VEv.bool true)) (nt (rt (vb (b':=true) Y ?_)))))))))
 symm;rw [decide_eq_true_eq];exact Qb4 hI' fhc0 fhc1
theorem Qeo (n:Nat) (a:D.Puzzle) (b:D.Puzzle) (ha:QK a≤mx) (hb:QK b≤mx):Pure (Qs Tryz.prog (n+5)) 27 [(T.agg (QC false a)),(T.agg (QC false b))] (tB (decide (a=b))):=by
 refine Pure.intro (rs:= [ResultVar.tmp 4]) Tryz.func27 Y Y Y (E0:= [(0,(T.agg (QC false a))),(1,(T.agg (QC false b)))]) Y ?_
 obtain ⟨hlim,hmx,hmax⟩:=QA
 simp only [QK] at ha hb
 have hla_Clues:=Zs (z:=QY) a.Clues
 have hla_Seals:=Zs (z:=zI) a.Seals
 have hlb_Clues:=Zs (z:=QY) b.Clues
 have hlb_Seals:=Zs (z:=zI) b.Seals
 refine sr (kO (B.box (ts:=(QC false a)) (tv (T.agg (QC false a)) Y) nofun Y) (kO (B.box (ts:=(QC false b)) (tv (T.agg (QC false b)) Y) nofun Y) (fO (OF.assign (VEv.bool false)) (nt (sq (sr (fO (OF.fieldAddrO (tv (T.op 0 0) Y) Y1) (lO (OL.loadOn (us:=(Qd false a.Grid)) (tv (T.op 0 0) Y) Y Q4 Q0 (lb Y) Y) (fO (OF.fieldAddrO (tv (T.op 1 0) Y) Y1) (lO (OL.loadOn (us:=(Qd false b.Grid)) (tv (T.op 1 0) Y) Y Q4 Q0 (lb Y) Y) (cO (cS (vc (tv (T.agg (Qd false a.Grid)) Y) (vc (tv (T.agg (Qd false b.Grid)) Y) vn)) (LendL.cons (lg Qu) (LendL.cons (lg Qu) ln)) (Qf7 (n+3) a.Grid b.Grid) Y Y) ?_)))))))))))
 refine fO (Zd (tv (tB (decide (a.Grid=b.Grid))) Y)) (nt ?_)
 refine cn (a.Grid=b.Grid) Y (fun fhc0=> ?_) fun fhc0=> ?_
 ·refine sr ?_
  refine fO (OF.assign (VEv.bool false)) (nt (rt (tr (vb (b':=false) Y ?_))))
  obtain ⟨a0,a1,a2,a3⟩:=a
  obtain ⟨b0,b1,b2,b3⟩:=b
  simp_all
 refine sk (tn (sq (sr (lf (rd 2 Qh a.Clues) Y JT Y Y Qe0 (lf (rd 2 Qh b.Clues) Y JT Y Y Qe0 (cO (cS (vc (tv (rd 2 Qh a.Clues) Y) (vc (tv (rd 2 Qh b.Clues) Y) vn)) (Z8 Y) (Qfa (n+0) a.Clues b.Clues (by omega) (by omega)) Y Y) (fO (Zd (tv (tB (decide (a.Clues=b.Clues))) Y)) (nt ?_))))))))
 refine cn (a.Clues=b.Clues) Y (fun fhc1=> ?_) fun fhc1=> ?_
 ·refine sr ?_
  refine fO (OF.assign (VEv.bool false)) (nt (rt (tr (vb (b':=false) Y ?_))))
  obtain ⟨a0,a1,a2,a3⟩:=a
  obtain ⟨b0,b1,b2,b3⟩:=b
  simp_all
 refine sk (tn (sq (sr (lf (rd 1 Qc a.Seals) Y Qaj Y Y Qcm (lf (rd 1 Qc b.Seals) Y Qaj Y Y Qcm (cO (cS (vc (tv (rd 1 Qc a.Seals) Y) (vc (tv (rd 1 Qc b.Seals) Y) vn)) (Z8 Y) (JB (n+3) a.Seals b.Seals (by omega) (by omega)) Y Y) (fO (Zd (tv (tB (decide (a.Seals=b.Seals))) Y)) (nt ?_))))))))
 refine cn (a.Seals=b.Seals) Y (fun fhc2=> ?_) fun fhc2=> ?_
 ·refine sr ?_
  refine fO (OF.assign (VEv.bool false)) (nt (rt (tr (vb (b':=false) Y ?_))))
  obtain ⟨a0,a1,a2,a3⟩:=a
  obtain ⟨b0,b1,b2,b3⟩:=b
  simp_all
 refine sk (tn (sq (sr (lf (tI a.Salt) Y Qby Y Y QQ (lf (tI b.Salt) Y Qby Y Y QQ (fO (xne (tv (tI a.Salt) Y) (tv (tI b.Salt) Y)) (nt ?_)))))))
 refine cn (a.Salt=b.Salt) Y (fun fhc3=> ?_) fun fhc3=> ?_
 ·refine sr ?_
  refine fO (OF.assign (VEv.bool false)) (nt (rt (tr (vb (b':=false) Y ?_))))
  obtain ⟨a0,a1,a2,a3⟩:=a
  obtain ⟨b0,b1,b2,b3⟩:=b
  simp_all
 refine sk (tn (sr (fO (OF.assign (VEv.bool true)) (nt (rt (vb (b':=true) Y ?_))))))
 obtain ⟨a0,a1,a2,a3⟩:=a
 obtain ⟨b0,b1,b2,b3⟩:=b
 simp_all
theorem QfG (n:Nat) (a:D.Issue) (b:D.Issue) (ha:Q3 a≤mx) (hb:Q3 b≤mx):Pure (Qs Tryz.prog (n+6)) 13 [(T.agg (Qe false a)),(T.agg (Qe false b))] (tB (decide (a=b))):=by
 refine Pure.intro (rs:= [ResultVar.tmp 4]) Tryz.func13 Y Y Y (E0:= [(0,(T.agg (Qe false a))),(1,(T.agg (Qe false b)))]) Y ?_
 obtain ⟨hlim,hmx,hmax⟩:=QA
 simp only [Q3] at ha hb
 refine sr (kO (B.box (ts:=(Qe false a)) (tv (T.agg (Qe false a)) Y) nofun Y) (kO (B.box (ts:=(Qe false b)) (tv (T.agg (Qe false b)) Y) nofun Y) (fO (OF.assign (VEv.bool false)) (nt (sq (sr (lf (tI a.Number) Y QcB Y Y QQ (lf (tI b.Number) Y QcB Y Y QQ (fO (xne (tv (tI a.Number) Y) (tv (tI b.Number) Y)) (nt ?_))))))))))
 refine cn (a.Number=b.Number) Y (fun fhc0=> ?_) fun fhc0=> ?_
 ·refine sr ?_
  refine fO (OF.assign (VEv.bool false)) (nt (rt (tr (vb (b':=false) Y ?_))))
  obtain ⟨a0,a1,a2,a3,a4⟩:=a
  obtain ⟨b0,b1,b2,b3,b4⟩:=b
  simp_all
 refine sk (tn (sq (sr (fO (OF.fieldAddrO (tv (T.op 0 0) Y) YU) (lO (OL.loadOn (us:=(QC false a.Puzzle)) (tv (T.op 0 1) Y) Y Qhq Qer (lb Y) Y) (fO (OF.fieldAddrO (tv (T.op 1 0) Y) YU) (lO (OL.loadOn (us:=(QC false b.Puzzle)) (tv (T.op 1 1) Y) Y Qhq Qer (lb Y) Y) (cO (cS (vc (tv (T.agg (QC false a.Puzzle)) Y) (vc (tv (T.agg (QC false b.Puzzle)) Y) vn)) (LendL.cons (lg Y7) (LendL.cons (lg Y7) ln)) (Qeo (n+0) a.Puzzle b.Puzzle (by omega) (by omega)) Y Y) (fO (Zd (tv (tB (decide (a.Puzzle=b.Puzzle))) Y)) (nt ?_))))))))))
 refine cn (a.Puzzle=b.Puzzle) Y (fun fhc1=> ?_) fun fhc1=> ?_
 ·refine sr ?_
  refine fO (OF.assign (VEv.bool false)) (nt (rt (tr (vb (b':=false) Y ?_))))
  obtain ⟨a0,a1,a2,a3,a4⟩:=a
  obtain ⟨b0,b1,b2,b3,b4⟩:=b
  simp_all
 refine sk (tn (sq (sr (lf (tS a.Fill) Y QeU Y Y YD (lf (tS b.Fill) Y QeU Y Y YD (fO (B.sneq (c:=(!(decide (a.Fill=b.Fill)))) (tv (tS a.Fill) Y) (tv (tS b.Fill) Y) Y) (nt ?_)))))))
 refine cn (a.Fill=b.Fill) Y (fun fhc2=> ?_) fun fhc2=> ?_
 ·refine sr ?_
  refine fO (OF.assign (VEv.bool false)) (nt (rt (tr (vb (b':=false) Y ?_))))
  obtain ⟨a0,a1,a2,a3,a4⟩:=a
  obtain ⟨b0,b1,b2,b3,b4⟩:=b
  simp_all
 refine sk (tn (sq (sr (lf (tI a.Open) Y Qbl Y Y QQ (lf (tI b.Open) Y Qbl Y Y QQ (fO (xne (tv (tI a.Open) Y) (tv (tI b.Open) Y)) (nt ?_)))))))
 refine cn (a.Open=b.Open) Y (fun fhc3=> ?_) fun fhc3=> ?_
 ·refine sr ?_
  refine fO (OF.assign (VEv.bool false)) (nt (rt (tr (vb (b':=false) Y ?_))))
  obtain ⟨a0,a1,a2,a3,a4⟩:=a
  obtain ⟨b0,b1,b2,b3,b4⟩:=b
  simp_all
 refine sk (tn (sq (sr (lf (tI a.Close) Y Qbq Y Y QQ (lf (tI b.Close) Y Qbq Y Y QQ (fO (xne (tv (tI a.Close) Y) (tv (tI b.Close) Y)) (nt ?_)))))))
 refine cn (a.Close=b.Close) Y (fun fhc4=> ?_) fun fhc4=> ?_
 ·refine sr ?_
  refine fO (OF.assign (VEv.bool false)) (nt (rt (tr (vb (b':=false) Y ?_))))
  obtain ⟨a0,a1,a2,a3,a4⟩:=a
  obtain ⟨b0,b1,b2,b3,b4⟩:=b
  simp_all
 refine sk (tn (sr (fO (OF.assign (VEv.bool true)) (nt (rt (vb (b':=true) Y ?_))))))
 obtain ⟨a0,a1,a2,a3,a4⟩:=a
 obtain ⟨b0,b1,b2,b3,b4⟩:=b
 simp_all
theorem QfO (n:Nat) (a:D.Entry) (b:D.Entry):Pure (Qs Tryz.prog (n+1)) 26 [(T.agg (Qa false a)),(T.agg (Qa false b))] (tB (decide (a=b))):=by
 refine Pure.intro (rs:= [ResultVar.tmp 4]) Tryz.func26 Y Y Y (E0:= [(0,(T.agg (Qa false a))),(1,(T.agg (Qa false b)))]) Y ?_
 obtain ⟨hlim,hmx,hmax⟩:=QA
 refine sr (kO (B.box (ts:=(Qa false a)) (tv (T.agg (Qa false a)) Y) nofun Y) (kO (B.box (ts:=(Qa false b)) (tv (T.agg (Qa false b)) Y) nofun Y) (fO (OF.assign (VEv.bool false)) (nt (sq (sr (lf (tI a.Player) Y YH Y Y QQ (lf (tI b.Player) Y YH Y Y QQ (fO (xne (tv (tI a.Player) Y) (tv (tI b.Player) Y)) (nt ?_))))))))))
 refine cn (a.Player=b.Player) Y (fun fhc0=> ?_) fun fhc0=> ?_
 ·refine sr ?_
  refine fO (OF.assign (VEv.bool false)) (nt (rt (tr (vb (b':=false) Y ?_))))
  obtain ⟨a0,a1,a2,a3⟩:=a
  obtain ⟨b0,b1,b2,b3⟩:=b
  simp_all
 refine sk (tn (sq (sr (lf (tI a.Issue) Y QdO Y Y QQ (lf (tI b.Issue) Y QdO Y Y QQ (fO (xne (tv (tI a.Issue) Y) (tv (tI b.Issue) Y)) (nt ?_)))))))
 refine cn (a.Issue=b.Issue) Y (fun fhc1=> ?_) fun fhc1=> ?_
 ·refine sr ?_
  refine fO (OF.assign (VEv.bool false)) (nt (rt (tr (vb (b':=false) Y ?_))))
  obtain ⟨a0,a1,a2,a3⟩:=a
  obtain ⟨b0,b1,b2,b3⟩:=b
  simp_all
 refine sk (tn (sq (sr (lf (tI a.Tick) Y Jg Y Y QQ (lf (tI b.Tick) Y Jg Y Y QQ (fO (xne (tv (tI a.Tick) Y) (tv (tI b.Tick) Y)) (nt ?_)))))))
 refine cn (a.Tick=b.Tick) Y (fun fhc2=> ?_) fun fhc2=> ?_
 ·refine sr ?_
  refine fO (OF.assign (VEv.bool false)) (nt (rt (tr (vb (b':=false) Y ?_))))
  obtain ⟨a0,a1,a2,a3⟩:=a
  obtain ⟨b0,b1,b2,b3⟩:=b
  simp_all
 refine sk (tn (sq (sr (lf (tS a.Fill) Y Qb0 Y Y YD (lf (tS b.Fill) Y Qb0 Y Y YD (fO (B.sneq (c:=(!(decide (a.Fill=b.Fill)))) (tv (tS a.Fill) Y) (tv (tS b.Fill) Y) Y) (nt ?_)))))))
 refine cn (a.Fill=b.Fill) Y (fun fhc3=> ?_) fun fhc3=> ?_
 ·refine sr ?_
  refine fO (OF.assign (VEv.bool false)) (nt (rt (tr (vb (b':=false) Y ?_))))
  obtain ⟨a0,a1,a2,a3⟩:=a
  obtain ⟨b0,b1,b2,b3⟩:=b
  simp_all
 refine sk (tn (sr (fO (OF.assign (VEv.bool true)) (nt (rt (vb (b':=true) Y ?_))))))
 obtain ⟨a0,a1,a2,a3⟩:=a
 obtain ⟨b0,b1,b2,b3⟩:=b
 simp_all
theorem QeI (n:Nat) (a:List D.Entry) (b:List D.Entry) (hla:a.length≤mx) (hlb:b.length≤mx):Pure (Qs Tryz.prog (n+2)) 12 [(rd 4 Qa a),(rd 4 Qa b)] (tB (decide (a=b))):=by
 refine Pure.intro (rs:= [ResultVar.tmp 4]) Tryz.func12 Y Y Y (E0:= [(0,(rd 4 Qa a)),(1,(rd 4 Qa b))]) Y ?_
 obtain ⟨hlim,hmx,hmax⟩:=QA
 refine sr (fO (OF.assign (VEv.bool false)) (nt (sq (sr (mO (rd 4 Qa a) Y (lO (B.lenR (m:=a.length) (tv (rd 4 Qa a) Y) Yb (List.length_map ..)) (mO (rd 4 Qa b) Y (lO (B.lenR (m:=b.length) (tv (rd 4 Qa b) Y) Yb (List.length_map ..)) (fO (QeX (tv (tN a.length) Y) (tv (tN b.length) Y)) (nt ?_))))))))))
 refine cn (a.length=b.length) Y (fun fhc0=> ?_) fun fhc0=> ?_
 ·refine sr ?_
  refine fO (OF.assign (VEv.bool false)) (nt (rt (tr (vb (b':=false) Y ?_))))
  symm;rw [decide_eq_false_iff_not];rintro rfl;exact fhc0 Y
 refine sk (tn (sq (sr (fO (OF.assign (VEv.int .i64 0)) (nt (VRun.block ?_))))))
 refine VRun.loop (A:=Nat) (fun s_=> [(0,(rd 4 Qa a)),(1,(rd 4 Qa b)),(5,(tN s_))]) (fun s_=>QV []) 0 (fun s_=>s_≤a.length∧∀j,j<s_→a[j]? =b[j]?) (fun s_=>a.length - s_) (0:Nat) ?_ (Wk.mk (fun k=>k) ?_ ?_ ?_) ?_
 ·(simp;done)
 ·exact (b2 (b2 (b2 bn)))
 ·exact bn
 ·exact nd Y
 rintro i (hI':i≤a.length∧∀j,j<i→a[j]? =b[j]?)
 show VRun _ _ _ [(0,(rd 4 Qa a)),(1,(rd 4 Qa b)),(5,(tN i))] (QV []) 0 _
 refine sq (sr (mO (tN i) Y (mO (rd 4 Qa a) Y (lO (B.lenR (m:=a.length) (tv (rd 4 Qa a) Y) Yb (List.length_map ..)) (fO (Q5 (tv (tN i) Y) (tv (tN a.length) Y)) (nt ?_))))))
 refine cd (i<a.length) Y (fun fhc1=> ?_) fun fhc1=> ?_
 ·refine sk ?_
  refine tn (sq (VRun.block (sq (VRun.draw (B:= [[],[],[1,0],[0,1,2],[],[],[5,4],[4,5,6],[6,5,4,7,2,1,0,3],[3,0,1,2,7,4,5,6,8]]) (by kernel_rfl) (by kernel_rfl) Y (mD (rd 4 Qa a) Y Y (mD (tN i) Y Y ?_))))))
  obtain ⟨x1,hx1⟩:∃x,a[i]? =some x:=⟨_,List.getElem?_eq_getElem (by omega)⟩
  refine fD (OF.indexAddrR (row:=(Qa false x1)) (i:=i) (tv (rd 4 Qa a) Y) (tv (tN i) Y) Y (Qr _ hx1) Yb Qz Zo) Y Y (lD (OL.loadRn (us:=(Qa false x1)) (tv (T.rp (Qa false x1)) Y) ZX Qz (lb Y) Y) Y Y (mD (rd 4 Qa b) Y Y (mD (tN i) Y Y ?_)))
  obtain ⟨x2,hx2⟩:∃x,b[i]? =some x:=⟨_,List.getElem?_eq_getElem (by omega)⟩
  refine fD (OF.indexAddrR (row:=(Qa false x2)) (i:=i) (tv (rd 4 Qa b) Y) (tv (tN i) Y) Y (Qr _ hx2) Yb Qz Zo) Y Y (lD (OL.loadRn (us:=(Qa false x2)) (tv (T.rp (Qa false x2)) Y) ZX Qz (lb Y) Y) Y Y (VRunD.quiet (bi:= [6,5,4,7,2,1,0,3]) Y VWant.always Y Y Y bn (cS (vc (tv (T.agg (Qa false x1)) Y) (vc (tv (T.agg (Qa false x2)) Y) vn)) (LendL.cons (lg okeEntry) (LendL.cons (lg okeEntry) ln)) (QfO (n+0) x1 x2) Y Y) (fD (Zd (tv (tB (decide (x1=x2))) Y)) Y Y (VRunD.nil (tn ?_)))))
  refine cn (x1=x2) Y (fun fhc2=> ?_) fun fhc2=> ?_
  ·refine sr ?_
   refine fO (OF.assign (VEv.bool false)) (nt (rt (vinB.r (tr (tr (vinB.r (tr (vb (b':=false) Y ?_))))))))
   symm;rw [decide_eq_false_iff_not];exact Qca hx1 hx2 fhc2
  refine sk (vinB.n (tn (VRun.region (mO (tN i) Y (fO (Qx (tv (tN i) Y) (VEv.int .i64 1) (by omega)) (aO (tN (i+1)) Y (VRunO.nil (tn ?_))))))))
  refine ⟨(i+1:Nat),?_,?_,Wk.mk (fun k=>k) ?_ ?_ ?_⟩
  ·exact Qbi hI' hx1 hx2 fhc2
  ·omega
  ·exact (b2 (b2 (b2 bn)))
  ·exact bn
  ·exact nd Y
 refine VRun.exit (vthn.e (vthn.e (vinB.e (tn (sr (fO (OF.assign (VEv.bool true)) (nt (rt (vb (b':=true) Y ?_)))))))))
 symm;rw [decide_eq_true_eq];exact Qb4 hI' fhc0 fhc1
noncomputable section
theorem ZJ {ok:Nat→Prop} {i n:Nat} (h:i≤n∧∀j,j<i→ok j) (hi:i<n) (hk:ok i):i+1≤n∧∀j,j<i+1→ok j:=by
 refine ⟨hi,fun j hj=> ?_⟩
 rcases Nat.lt_or_ge j i with h1 | h1
 ·exact h.2 j h1
 ·obtain rfl:j=i:=by omega
  exact hk
theorem QaQ {ok:Nat→Prop} {i n:Nat} (h:i≤n∧∀j,j<i→ok j) (hi:¬i<n):∀j,j<n→ok j:=fun j hj=>h.2 j (by omega)
theorem QjH {α:Type} {l:List α} {i:Nat} {x y:α} (hx:l[i]? =some x) (hy:l[i]? =some y):y=x:=by
 rw [hx] at hy
 exact (Option.some.inj hy).symm
def ZB (s:ByteArray):Prop:=(1≤s.size∧s.size≤8)∧∀i,i<s.size→97≤Qv s i∧Qv s i≤122
instance (s:ByteArray):Decidable (ZB s):=Classical.propDecidable _
def Jb {α:Type} (p:α→Prop) [DecidablePred p]:List α→Int
 | []=> -1
 | x::r=>if p x then 0 else if Jb p r<0 then -1 else Jb p r+1
theorem Qce {α:Type} {p:α→Prop} [DecidablePred p]:∀ {l:List α} {i:Nat} {x:α},l[i]? =some x→p x→(∀j y,j<i→l[j]? =some y→¬p y)→Jb p l=i
 | [],i,x,h,_,_=>by simp at h
 | y::r,0,x,h,hp,_=>by
  obtain rfl:y=x:=by simpa using h
  simp only [Jb,if_pos hp]
  rfl
 | y::r,i+1,x,h,hp,hn=>by
  have h1:=Qce (l:=r) (i:=i) (by simpa using h) hp (fun j z hj hz=>hn (j+1) z (by omega) (by simpa using hz))
  have h2:¬p y:=hn 0 y (by omega) (by simp)
  simp only [Jb,if_neg h2,h1]
  rw [if_neg (by omega)]
  rfl
theorem Qc7 {α:Type} {p:α→Prop} [DecidablePred p]:∀ {l:List α},(∀j y,j<l.length→l[j]? =some y→¬p y)→Jb p l= -1
 | [],_=>rfl
 | y::r,hn=>by
  have h1:=Qc7 (l:=r) (fun j z hj hz=>hn (j+1) z (by simp;omega) (by simpa using hz))
  have h2:¬p y:=hn 0 y (by simp) (by simp)
  simp only [Jb,if_neg h2,h1]
  rfl
theorem QfP {α:Type} {p:α→Prop} [DecidablePred p]:∀ {l:List α},0≤Jb p l↔∃x∈l,p x
 | []=>by simp [Jb]
 | y::r=>by
  have h1:=QfP (p:=p) (l:=r)
  simp only [Jb,List.mem_cons,exists_eq_or_imp]
  by_cases hy:p y
  ·simp [hy]
  ·simp only [if_neg hy,hy,false_or]
   rw [← h1]
   by_cases h:Jb p r<0
   ·rw [if_pos h]
    exact ⟨fun h2=>absurd h2 (by decide),fun h2=>by omega⟩
   ·rw [if_neg h]
    exact ⟨fun h2=>by omega,fun h2=>by omega⟩
theorem QiU {α:Type} {p:α→Prop} [DecidablePred p]:∀ {l:List α},Jb p l<l.length
 | []=>by simp [Jb]
 | y::r=>by
  have h1:=QiU (p:=p) (l:=r)
  simp only [Jb,List.length_cons]
  split
  ·omega
  ·split<;>omega
def NoneTo {α:Type} (p:α→Prop) (l:List α) (i:Nat):Prop:=i≤l.length∧∀j y,j<i→l[j]? =some y→¬p y
theorem NoneTo.start {α:Type} (p:α→Prop) (l:List α):NoneTo p l 0:=⟨Nat.zero_le _,fun j y hj=>by omega⟩
theorem NoneTo.next {α:Type} {p:α→Prop} {l:List α} {i:Nat} {x:α} (h:NoneTo p l i) (hx:l[i]? =some x) (hn:¬p x):NoneTo p l (i+1):=by
 have:=(List.getElem?_eq_some_iff.1 hx).1
 refine ⟨by omega,fun j y hj hy=> ?_⟩
 rcases Nat.lt_or_ge j i with h1 | h1
 ·exact h.2 j y h1 hy
 ·obtain rfl:j=i:=by omega
  rw [hx] at hy
  exact Option.some.inj hy▸hn
theorem NoneTo.all {α:Type} {p:α→Prop} {l:List α} {i:Nat} (h:NoneTo p l i) (hi:¬i<l.length):∀j y,j<l.length→l[j]? =some y→¬p y:=fun j y hj hy=>h.2 j y (by omega) hy
theorem NoneTo.mem {α:Type} {p:α→Prop} {l:List α} {i:Nat} (h:NoneTo p l i) (hi:¬i<l.length):∀y∈l,¬p y:=fun y hy=>by
 obtain ⟨j,hj⟩:=List.getElem?_of_mem hy
 exact h.all hi j y (List.getElem?_eq_some_iff.1 hj).1 hj
end
theorem Q2 (n:Nat) (a:Int) (b:Int) (c:Int):Pure (Qs Tryz.prog (n+1)) 52 [(tI a),(tI b),(tI c)] (tB (decide (b≤a∧a≤c))):=by
 refine Pure.intro (rs:= [ResultVar.tmp 6]) Tryz.func52 Y Y Y (E0:= [(0,(tI a)),(1,(tI b)),(2,(tI c))]) Y ?_
 obtain ⟨hlim,hmx,hmax⟩:=QA
 refine sr (fO (OF.assign (VEv.bool false)) (nt (sr (mO (tI a) Y (mO (tI b) Y (fO (xge (tv (tI a) Y) (tv (tI b) Y)) (mO (tB (decide (b≤a))) Y ?_)))))))
 refine gw (b≤a) (fun fhg10_1=> ?_) fun fhg10_1=> ?_
 ·refine gF (dy fhg10_1) Y Y (OF.move (tv (tI a) Y)) ?_
  refine gF (dy fhg10_1) Y Y (OF.move (tv (tI c) Y)) (gF (dy fhg10_1) Y Y (xle (tv (tI a) Y) (tv (tI c) Y)) (fO (OF.pickT (VEv.tmpB Y (dy fhg10_1)) (tv (tB (decide (a≤c))) Y)) (aO (tB (decide (a≤c))) Y (nt (rt (vb (b':=(decide (a≤c))) Y ?_))))))
  exact Q8 (by omega)
 refine QE 3 3 true 10 (dz fhg10_1) Y Y Y (fO (OF.pickF (VEv.tmpB Y (dz fhg10_1)) (VEv.bool false)) (aO (tB false) Y (nt (rt (vb (b':=false) Y ?_)))))
 (symm;rw [decide_eq_false_iff_not];omega)
theorem Zu (n:Nat) (a:Int) (b:Int) (c:Int):Pure (Qs Tryz.prog (n+1)) 57 [(tI a),(tI b),(tI c)] (tB (decide (b≤a∧a≤c))):=by
 refine Pure.intro (rs:= [ResultVar.tmp 6]) Tryz.func57 Y Y Y (E0:= [(0,(tI a)),(1,(tI b)),(2,(tI c))]) Y ?_
 obtain ⟨hlim,hmx,hmax⟩:=QA
 refine sr (fO (OF.assign (VEv.bool false)) (nt (sr (mO (tI b) Y (mO (tI a) Y (fO (xle (tv (tI b) Y) (tv (tI a) Y)) (mO (tB (decide (b≤a))) Y ?_)))))))
 refine gw (b≤a) (fun fhg10_1=> ?_) fun fhg10_1=> ?_
 ·refine gF (dy fhg10_1) Y Y (OF.move (tv (tI a) Y)) ?_
  refine gF (dy fhg10_1) Y Y (OF.move (tv (tI c) Y)) (gF (dy fhg10_1) Y Y (xle (tv (tI a) Y) (tv (tI c) Y)) (fO (OF.pickT (VEv.tmpB Y (dy fhg10_1)) (tv (tB (decide (a≤c))) Y)) (aO (tB (decide (a≤c))) Y (nt (rt (vb (b':=(decide (a≤c))) Y ?_))))))
  exact Q8 (by omega)
 refine QE 3 3 true 10 (dz fhg10_1) Y Y Y (fO (OF.pickF (VEv.tmpB Y (dz fhg10_1)) (VEv.bool false)) (aO (tB false) Y (nt (rt (vb (b':=false) Y ?_)))))
 (symm;rw [decide_eq_false_iff_not];omega)
theorem JV (n:Nat) (a:Int):Pure (Qs Tryz.prog (n+1)) 75 [(T.int .u8 a)] (tB (decide (97≤a∧a≤122))):=by
 refine Pure.intro (rs:= [ResultVar.tmp 2]) Tryz.func75 Y Y Y (E0:= [(0,(T.int .u8 a))]) Y ?_
 obtain ⟨hlim,hmx,hmax⟩:=QA
 refine sr (fO (OF.assign (VEv.bool false)) (nt (sr (mO (T.int .u8 a) Y (fO (xge (tv (T.int .u8 a) Y) (VEv.int .u8 97)) (mO (tB (decide (97≤a))) Y ?_))))))
 refine gw (97≤a) (fun fhg5_1=> ?_) fun fhg5_1=> ?_
 ·refine gF (dy fhg5_1) Y Y (OF.move (tv (T.int .u8 a) Y)) ?_
  refine gF (dy fhg5_1) Y Y (xle (tv (T.int .u8 a) Y) (VEv.int .u8 122)) (fO (OF.pickT (VEv.tmpB Y (dy fhg5_1)) (tv (tB (decide (a≤122))) Y)) (aO (tB (decide (a≤122))) Y (nt (rt (vb (b':=(decide (a≤122))) Y ?_)))))
  exact Q8 (by omega)
 refine QE 2 2 true 5 (dz fhg5_1) Y Y Y (fO (OF.pickF (VEv.tmpB Y (dz fhg5_1)) (VEv.bool false)) (aO (tB false) Y (nt (rt (vb (b':=false) Y ?_)))))
 (symm;rw [decide_eq_false_iff_not];omega)
theorem Jy (n:Nat) (a:Int) (b:Int):Pure (Qs Tryz.prog (n+1)) 85 [(tI a),(tI b)] (tB (decide (0≤a∧a<b))):=by
 refine Pure.intro (rs:= [ResultVar.tmp 4]) Tryz.func85 Y Y Y (E0:= [(0,(tI a)),(1,(tI b))]) Y ?_
 obtain ⟨hlim,hmx,hmax⟩:=QA
 refine sr (fO (OF.assign (VEv.bool false)) (nt (sr (mO (tI a) Y (fO (xge (tv (tI a) Y) (VEv.int .i64 0)) (mO (tB (decide (0≤a))) Y ?_))))))
 refine gw (0≤a) (fun fhg7_1=> ?_) fun fhg7_1=> ?_
 ·refine gF (dy fhg7_1) Y Y (OF.move (tv (tI a) Y)) ?_
  refine gF (dy fhg7_1) Y Y (OF.move (tv (tI b) Y)) (gF (dy fhg7_1) Y Y (xls (tv (tI a) Y) (tv (tI b) Y)) (fO (OF.pickT (VEv.tmpB Y (dy fhg7_1)) (tv (tB (decide (a<b))) Y)) (aO (tB (decide (a<b))) Y (nt (rt (vb (b':=(decide (a<b))) Y ?_))))))
  exact Q8 (by omega)
 refine QE 3 2 true 7 (dz fhg7_1) Y Y Y (fO (OF.pickF (VEv.tmpB Y (dz fhg7_1)) (VEv.bool false)) (aO (tB false) Y (nt (rt (vb (b':=false) Y ?_)))))
 (symm;rw [decide_eq_false_iff_not];omega)
theorem QaN (n:Nat) (a:ByteArray) (ha:a.size≤maxLen):Pure (Qs Tryz.prog (n+2)) 80 [(tS a)] (tB (decide (ZB a))):=by
 refine Pure.intro (rs:= [ResultVar.tmp 2]) Tryz.func80 Y Y Y (E0:= [(0,(tS a))]) Y ?_
 obtain ⟨hlim,hmx,hmax⟩:=QA
 refine sr (fO (OF.assign (VEv.bool false)) (nt (sq (sr (mO (tS a) Y (lO (B.lenS (tv (tS a) Y) U9) (cO (cS (vc (tv (tN a.size) Y) (vc (VEv.int .i64 1) (vc (VEv.int .i64 8) vn))) (Z8 Y) (Q2 (n+0) ((a.size:Nat):Int) 1 8) Y Y) (fO (Zd (tv (tB (decide (1≤((a.size:Nat):Int)∧((a.size:Nat):Int)≤8))) Y)) (nt ?_)))))))))
 refine cn (1≤((a.size:Nat):Int)∧((a.size:Nat):Int)≤8) Y (fun fhc0=> ?_) fun fhc0=> ?_
 ·refine sr ?_
  refine fO (OF.assign (VEv.bool false)) (nt (rt (tr (vb (b':=false) Y ?_))))
  symm;rw [decide_eq_false_iff_not];rintro ⟨h1,_⟩;omega
 refine sk (tn (sq (sr (fO (OF.assign (VEv.int .i64 0)) (nt (VRun.block ?_))))))
 refine VRun.loop (A:=Nat) (fun s_=> [(0,(tS a)),(3,(tN s_))]) (fun s_=>QV []) 0 (fun s_=>s_≤a.size∧∀j,j<s_→97≤Qv a j∧Qv a j≤122) (fun s_=>a.size - s_) (0:Nat) ?_ (Wk.mk (fun k=>k) ?_ ?_ ?_) ?_
 ·exact ⟨Nat.zero_le _,fun j hj=>by omega⟩
 ·exact (b2 (b2 bn))
 ·exact bn
 ·exact nd Y
 rintro i (hI':i≤a.size∧∀j,j<i→97≤Qv a j∧Qv a j≤122)
 show VRun _ _ _ [(0,(tS a)),(3,(tN i))] (QV []) 0 _
 refine sq (sr (mO (tN i) Y (mO (tS a) Y (lO (B.lenS (tv (tS a) Y) U9) (fO (Q5 (tv (tN i) Y) (tv (tN a.size) Y)) (nt ?_))))))
 refine cd (i<a.size) Y (fun fhc1=> ?_) fun fhc1=> ?_
 ·refine sk ?_
  refine tn (sq (VRun.block (sr (mO (tS a) Y (mO (tN i) Y ?_)))))
  have hb1:i<a.size:=(by omega)
  refine fO (xix (tv (tS a) Y) (tv (tN i) Y) hb1 U9) (fO (xls (tv (T.int .u8 (Qv a i)) Y) (VEv.int .u8 97)) (mO (tB (decide (Qv a i<97))) Y ?_))
  refine gw (Qv a i<97) (fun fhg18_2=> ?_) fun fhg18_2=> ?_
  ·refine QE 4 4 false 18 (dy fhg18_2) Y Y Y ?_
   refine fO (OF.pickT (VEv.tmpB Y (dy fhg18_2)) (VEv.bool true)) (nt (ct Y (sr (fO (OF.assign (VEv.bool false)) (nt (rt (vinB.r (tr (tr (vinB.r (tr ?_)))))))))))
   refine vb (b':=false) Y ?_
   symm;rw [decide_eq_false_iff_not];rintro ⟨_,h2⟩;have:=h2 i fhc1;omega
  refine gF (dz fhg18_2) Y Y (OF.move (tv (tS a) Y)) (gF (dz fhg18_2) Y Y (OF.move (tv (tN i) Y)) ?_)
  have hb3:i<a.size:=(by omega)
  refine gF (dz fhg18_2) Y Y (xix (tv (tS a) Y) (tv (tN i) Y) hb3 U9) (gF (dz fhg18_2) Y Y (xgt (tv (T.int .u8 (Qv a i)) Y) (VEv.int .u8 122)) (fO (OF.pickF (VEv.tmpB Y (dz fhg18_2)) (tv (tB (decide (122<Qv a i))) Y)) (nt ?_)))
  refine cd (122<Qv a i) Y (fun fhc2=> ?_) fun fhc2=> ?_
  ·refine sr ?_
   refine fO (OF.assign (VEv.bool false)) (nt (rt (vinB.r (tr (tr (vinB.r (tr (vb (b':=false) Y ?_))))))))
   symm;rw [decide_eq_false_iff_not];rintro ⟨_,h2⟩;have:=h2 i fhc1;omega
  refine sk (vinB.n (tn (VRun.region (mO (tN i) Y (fO (Qx (tv (tN i) Y) (VEv.int .i64 1) (by omega)) (aO (tN (i+1)) Y (VRunO.nil (tn ?_))))))))
  refine ⟨(i+1:Nat),?_,?_,Wk.mk (fun k=>k) ?_ ?_ ?_⟩
  ·exact ZJ (ok:=fun j=>97≤Qv a j∧Qv a j≤122) hI' fhc1 (by omega)
  ·omega
  ·exact (b2 (b2 bn))
  ·exact bn
  ·exact nd Y
 refine VRun.exit (vthn.e (vthn.e (vinB.e (tn (sr (fO (OF.assign (VEv.bool true)) (nt (rt (vb (b':=true) Y ?_)))))))))
 symm;rw [decide_eq_true_eq];exact ⟨by omega,QaQ hI' fhc1⟩
theorem QaW (n:Nat) (a:ByteArray) (ha:a.size≤maxLen):Pure (Qs Tryz.prog (n+2)) 86 [(tS a)] (tB (decide (ZB a))):=by
 refine Pure.intro (rs:= [ResultVar.tmp 2]) Tryz.func86 Y Y Y (E0:= [(0,(tS a))]) Y ?_
 obtain ⟨hlim,hmx,hmax⟩:=QA
 refine sr (fO (OF.assign (VEv.bool false)) (nt (sq (sr (mO (tS a) Y (lO (B.lenS (tv (tS a) Y) U9) (cO (cS (vc (tv (tN a.size) Y) (vc (VEv.int .i64 1) (vc (VEv.int .i64 8) vn))) (Z8 Y) (Zu (n+0) ((a.size:Nat):Int) 1 8) Y Y) (fO (Zd (tv (tB (decide (1≤((a.size:Nat):Int)∧((a.size:Nat):Int)≤8))) Y)) (nt ?_)))))))))
 refine cn (1≤((a.size:Nat):Int)∧((a.size:Nat):Int)≤8) Y (fun fhc0=> ?_) fun fhc0=> ?_
 ·refine sr ?_
  refine fO (OF.assign (VEv.bool false)) (nt (rt (tr (vb (b':=false) Y ?_))))
  symm;rw [decide_eq_false_iff_not];rintro ⟨h1,_⟩;omega
 refine sk (tn (sq (sr (mO (tS a) Y (lO (B.lenS (tv (tS a) Y) U9) (fO (OF.move (VEv.int .i64 0)) (nt (VRun.block ?_))))))))
 refine VRun.loop (A:=Nat) (fun s_=> [(0,(tS a)),(9,(tN a.size)),(10,(tN s_))]) (fun s_=>QV []) 0 (fun s_=>s_≤a.size∧∀j,j<s_→97≤Qv a j∧Qv a j≤122) (fun s_=>a.size - s_) (0:Nat) ?_ (Wk.mk (fun k=>k) ?_ ?_ ?_) ?_
 ·exact ⟨Nat.zero_le _,fun j hj=>by omega⟩
 ·exact (b2 (b2 (b2 bn)))
 ·exact bn
 ·exact nd Y
 rintro i (hI':i≤a.size∧∀j,j<i→97≤Qv a j∧Qv a j≤122)
 show VRun _ _ _ [(0,(tS a)),(9,(tN a.size)),(10,(tN i))] (QV []) 0 _
 refine sr (fO (Q5 (tv (tN i) Y) (tv (tN a.size) Y)) (nt (sq ?_)))
 refine cd (i<a.size) Y (fun fhc1=> ?_) fun fhc1=> ?_
 ·refine sk ?_
  refine tn (sq (VRun.block (sr (mO (tN i) Y (aO (tN i) Y (nt (sr (mO (tS a) Y (mO (tN i) Y ?_)))))))))
  have hb1:i<a.size:=(by omega)
  refine fO (xix (tv (tS a) Y) (tv (tN i) Y) hb1 U9) (cO (cS (vc (tv (T.int .u8 (Qv a i)) Y) vn) (Z8 Y) (JV (n+0) (Qv a i)) Y Y) (fO (Zd (tv (tB (decide (97≤(Qv a i)∧(Qv a i)≤122))) Y)) (nt ?_)))
  refine cn (97≤(Qv a i)∧(Qv a i)≤122) Y (fun fhc2=> ?_) fun fhc2=> ?_
  ·refine sr ?_
   refine fO (OF.assign (VEv.bool false)) (nt (rt (vinB.r (tr (tr (vinB.r (tr (vb (b':=false) Y ?_))))))))
   symm;rw [decide_eq_false_iff_not];rintro ⟨_,h2⟩;have:=h2 i fhc1;omega
  refine sk (vinB.n (tn (VRun.region (fO (Qx (tv (tN i) Y) (VEv.int .i64 1) (by omega)) (mO (tN (i+1)) Y (VRunO.nil (tn ?_)))))))
  refine ⟨(i+1:Nat),?_,?_,Wk.mk (fun k=>k) ?_ ?_ ?_⟩
  ·exact ZJ (ok:=fun j=>97≤Qv a j∧Qv a j≤122) hI' fhc1 (by omega)
  ·omega
  ·exact (b2 (b2 (b2 bn)))
  ·exact bn
  ·exact nd Y
 refine VRun.exit (vthn.e (vthn.e (vinB.e (tn (sr (fO (OF.assign (VEv.bool true)) (nt (rt (vb (b':=true) Y ?_)))))))))
 symm;rw [decide_eq_true_eq];exact ⟨by omega,QaQ hI' fhc1⟩
end Go.Proofs.YtoaigcojlmoijaaGreat.AE
