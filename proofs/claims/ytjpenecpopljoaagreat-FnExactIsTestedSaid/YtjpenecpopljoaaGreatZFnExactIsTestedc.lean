/- A part of what the row of FnExactIsTested uses. Conditions: as each theorem states. -/
import Derived.Test.YtjpenecpopljoaaGreatZFnExactIsTestedb
import Derived.Test.YtjpenecpopljoaaGreatProg
import Derived.KernelRfl
namespace Go.Proofs.YtjpenecpopljoaaGreat.AE
open Go Go.RowKit
set_option linter.unusedVariables false
set_option linter.unusedSimpArgs false
def eM (l:List (Int×Int)):List (T×T):=l.map fun p=>(.int .i64 p.1, .int .i64 p.2)
def vM (l:List (Int×Int)):List (Value×Value):=l.map fun p=>(.int .i64 p.1, .int .i64 p.2)
def Yf : List (Int×Int)→Int→Int→List (Int×Int)
 | [],n,v=> [(n,v)]
 | p::r,n,v=>if n=p.1 then (n,v)::r else p::Yf r n v
theorem RL.ints {hf:AH}:∀ {l:List Int} {vs:List Value},RL hf (l.map (fun n=>T.int .i64 n)) vs→vs=l.map (fun n=>Value.int .i64 n)
 | [],vs,h=>List.eq_nil_of_length_eq_zero h.1.symm
 | n::l,[],h=>by cases h.1
 | n::l,v::vs,h=>by
  obtain ⟨h1,h2⟩:=RL.tail h
  cases h1
  rw [RL.ints h2]
  rfl
theorem Qlg {ev:List (Value×Value)} {l:List (Int×Int)} (h1:RL (fun _=>none) ((eM l).map (·.1)) (ev.map (·.1))) (h2:RL (fun _=>none) ((eM l).map (·.2)) (ev.map (·.2))):ev=vM l:=by
 have e1:(eM l).map (·.1)=(l.map (·.1)).map (fun n=>T.int .i64 n):=by simp [eM,Function.comp_def]
 have e2:(eM l).map (·.2)=(l.map (·.2)).map (fun n=>T.int .i64 n):=by simp [eM,Function.comp_def]
 rw [e1] at h1
 rw [e2] at h2
 have g1:=RL.ints h1
 have g2:=RL.ints h2
 clear h1 h2 e1 e2
 induction l generalizing ev with
 | nil=>simpa [vM] using g1
 | cons p l ih =>
  cases ev with
  | nil=>simp at g1
  | cons q ev =>
   simp only [List.map_cons,List.cons.injEq] at g1 g2
   rw [ih g1.2 g2.2]
   show q::vM l=(_,_)::vM l
   rw [← g1.1,← g2.1]
theorem Qhk (hf:AH):∀l:List Int,RL hf (l.map (fun n=>T.int .i64 n)) (l.map (fun n=>Value.int .i64 n))
 | []=>RL.nil hf
 | n::l=>RL.cons (.int _ _) (Qhk hf l)
theorem QmK (l:List (Int×Int)):RL (fun _=>none) ((eM l).map (·.1)) ((vM l).map (·.1))∧RL (fun _=>none) ((eM l).map (·.2)) ((vM l).map (·.2)):=by
 constructor
 ·have:=Qhk (fun _=>none) (l.map (·.1))
  simpa [eM,vM,Function.comp_def] using this
 ·have:=Qhk (fun _=>none) (l.map (·.2))
  simpa [eM,vM,Function.comp_def] using this
theorem Qiw (n v:Int):∀l:List (Int×Int),(∃j w,Qbi .i64 n (vM l)=some (some (j,w))∧(vM l).set j (.int .i64 n, .int .i64 v)=vM (Yf l n v))∨(Qbi .i64 n (vM l)=some none∧vM l++ [(.int .i64 n, .int .i64 v)]=vM (Yf l n v))
 | []=> .inr ⟨rfl,rfl⟩
 | p::r=>by
  by_cases h:n=p.1
  ·refine .inl ⟨0, .int .i64 p.2,?_,?_⟩
   ·simp [vM,Qbi,h]
   ·simp [vM,Yf,h]
  ·have hb:(n == p.1)=false:=by simp [h]
   rcases Qiw n v r with ⟨j,w,h1,h2⟩ | ⟨h1,h2⟩
   ·refine .inl ⟨j+1,w,?_,?_⟩
    ·show Qbi .i64 n ((.int .i64 p.1, .int .i64 p.2)::vM r)=_
     simp only [Qbi,if_true,hb,Bool.false_eq_true,if_false,h1]
     rfl
    ·simp only [Yf,if_neg h]
     show (_::(vM r)).set (j+1) _=_::vM (Yf r n v)
     rw [List.set_cons_succ,h2]
   ·refine .inr ⟨?_,?_⟩
    ·show Qbi .i64 n ((.int .i64 p.1, .int .i64 p.2)::vM r)=_
     simp only [Qbi,if_true,hb,Bool.false_eq_true,if_false,h1]
     rfl
    ·simp only [Yf,if_neg h]
     show _::(vM r++_)=_::vM (Yf r n v)
     rw [h2]
def QbF : List (Int×Int)→Int→Int
 | [],_=>0
 | p::r,n=>if n=p.1 then p.2 else QbF r n
theorem QhX (n v c:Int):∀l:List (Int×Int),QbF (Yf l n v) c=if c=n then v else QbF l c
 | []=>by simp [Yf,QbF]
 | p::r=>by
  simp only [Yf]
  by_cases h:n=p.1
  ·rw [if_pos h]
   simp only [QbF]
   by_cases h2:c=n
   ·rw [if_pos h2,if_pos h2]
   ·rw [if_neg h2,if_neg h2,if_neg (fun e=>h2 (e.trans h.symm))]
  ·rw [if_neg h]
   simp only [QbF,QhX n v c r]
   by_cases h2:c=n
   ·subst h2;simp [h]
   ·simp [h2]
theorem QhY (n:Int):∀l:List (Int×Int),∃o,Qbi .i64 n (vM l)=some o∧(o.map (·.2)).getD (.int .i64 0)= .int .i64 (QbF l n)
 | []=>⟨none,rfl,rfl⟩
 | p::r=>by
  by_cases h:n=p.1
  ·exact ⟨some (0, .int .i64 p.2),by simp [vM,Qbi,h],by simp [QbF,h]⟩
  ·have hb:(n == p.1)=false:=by simp [h]
   obtain ⟨o,h1,h2⟩:=QhY n r
   refine ⟨o.map fun x=>(x.1+1,x.2),?_,?_⟩
   ·show Qbi .i64 n ((.int .i64 p.1, .int .i64 p.2)::vM r)=_
    simp only [Qbi,if_true,hb,Bool.false_eq_true,if_false,h1]
    rfl
   ·simp only [QbF,if_neg h,← h2]
    cases o<;>rfl
theorem V.omInv {σ:Nat→Option Nat} {hf:AH} {nx k:Nat} {v:Value} (h:V σ hf nx (.om k) v):∃a,v= .map (some a)∧σ k=some a∧k<nx:=by
 cases h with
 | fz hr=>cases hr
 | om k hk hs=>exact ⟨_,rfl,hs,hk⟩
section
variable {call : QS} {P : Program} {E : Q4} {O : QJ} {d : Option Tmp} {ty tt kt et : TypeId} {ps : String} {af : Array Edge} {g : Option (Nat × Bool)} {x y z : Operand} {nx k : Nat} {l l' : List (Int × Int)}
theorem B.makeMap : OM call P E nx ⟨d, .makeMap tt none,ty,ps,af,g⟩ (.om nx) (.map (eM [])):=fun q σ hf Ea he =>
 ⟨.map (some (Qk q)), .map [],some (Qk q),[Qk q],fun h=>X.makeMap, .inl ⟨rfl,rfl⟩, .om nx (by omega) (by simp),fun h=> .map (AH.upd_same _ _ _) (JL _) (RL.nil _) (RL.nil _)⟩
theorem B.lenM {m:Nat} (hx:VEv E x (.om k)) (hk:gO O k=some (.map (eM l))) (hu:P.underlying tt=some (.map kt et)) (he:l.length=m):OL call P E O ⟨d, .call ⟨.builtin .len,#[x],#[tt]⟩,ty,ps,af,g⟩ (.int .i64 (m:Nat)):=fun q p h0 σ hf own nx Ea h hs=>by
 obtain ⟨v,h1,h2⟩:=hx σ hf nx Ea hs.env
 obtain ⟨a,rfl,h3,h4⟩:=h2.omInv
 obtain ⟨N,hN1,hN2,h5⟩:=hs.objAt hk
 rw [h3] at h5
 subst he
 cases h5 with
 | map hh hodd g1 g2 =>
  rename_i ev
  obtain rfl:=Qlg g1 g2
  refine ⟨_,X.len h1 (w:= .int .i64 (vM l).length) ?_,?_⟩
  ·simp only [Qhu,hu,hh]
  ·rw [show (vM l).length=l.length by simp [vM]]
   exact .fz (.int _ _)
theorem B.mapSet {n v:Int} {k0:IntKind} (hx:VEv E x (.om k)) (hy:VEv E y (.int .i64 n)) (hz:VEv E z (.int .i64 v)) (hk:gO O k=some (.map (eM l))) (hu:P.underlying tt=some (.map kt et)) (hkt:P.underlying kt=some (.int k0)) (hl:Yf l n v=l'):OC call P E O nx ⟨d, .mapUpdate tt x y z,ty,ps,af,g⟩ .any ((k,some (.map (eM l')))::O) nx [k]:=⟨Nat.le_refl _,fun q p h0 σ hf own Ea h hs hu' hF=>by
 subst hl
 obtain ⟨v1,a1,a2⟩:=hx σ hf nx Ea hs.env
 obtain ⟨v2,a3,a4⟩:=hy σ hf nx Ea hs.env
 obtain ⟨v3,a5,a6⟩:=hz σ hf nx Ea hs.env
 obtain ⟨a,rfl,h3,h4⟩:=a2.omInv
 obtain rfl:=a4.intInv
 obtain rfl:=a6.intInv
 obtain ⟨N,hN1,hN2,h5⟩:=hs.objAt hk
 rw [h3] at h5
 cases h5 with
 | map hh hodd g1 g2 =>
  rename_i ev
  obtain rfl:=Qlg g1 g2
  have hown:own a=some k:=hN2 a (by simp)
  have hset:QbO P tt h (.map (some a)) (.int .i64 n) (.int .i64 v)=some (h.upd a (some (.map (vM (Yf l n v))))):=by
   simp only [QbO,hu,hkt,hh]
   rcases Qiw n v l with ⟨j,w,e1,e2⟩ | ⟨e1,e2⟩
   ·simp only [e1,e2]
   ·simp only [e1,e2]
  refine ⟨undef,_,σ,own,X.mapUpdate a1 a3 a5 hset,Dom.old (by rw [hh];simp) _,fun _ _=>rfl,hs.upd h3 h4 hown (N:= [a]) (by simp) (by simpa using hown) (.map (AH.upd_same _ _ _) hodd (QmK _).1 (QmK _).2), .any _,fun b hb hnk=>AH.upd_ne _ (fun e=> ?_) _,fun b k' e=> .inl e⟩
  exact hnk k (by simp) (e▸hown)⟩
theorem B.mapGet {n:Int} {k0:IntKind} (hx:VEv E x (.om k)) (hy:VEv E y (.int .i64 n)) (hk:gO O k=some (.map (eM l))) (hu:P.underlying tt=some (.map kt et)) (hkt:P.underlying kt=some (.int k0)) (hz:Zg P et=some (.int .i64 0)):OL call P E O ⟨d, .lookup tt x y false,ty,ps,af,g⟩ (.int .i64 (QbF l n)):=fun q p h0 σ hf own nx Ea h hs=>by
 obtain ⟨v1,a1,a2⟩:=hx σ hf nx Ea hs.env
 obtain ⟨v2,a3,a4⟩:=hy σ hf nx Ea hs.env
 obtain ⟨a,rfl,h3,h4⟩:=a2.omInv
 obtain rfl:=a4.intInv
 obtain ⟨N,hN1,hN2,h5⟩:=hs.objAt hk
 rw [h3] at h5
 cases h5 with
 | map hh hodd g1 g2 =>
  rename_i ev
  obtain rfl:=Qlg g1 g2
  obtain ⟨o,e1,e2⟩:=QhY n l
  refine ⟨_,X.lookup a1 a3 (w:= .int .i64 (QbF l n)) ?_, .fz (.int _ _)⟩
  have hc:closedV (.int .i64 0)=true:=rfl
  simp only [QcV,hu,hkt,hh,hz,hc,e1,Option.map_some,e2,and_self,if_true]
end
def Y2 (l:List Int) (x:Int):List Int:=if x∈l then l else l++ [x]
theorem QgJ (l:List (Int×Int)) (n v:Int):(Yf l n v).map (·.1)=Y2 (l.map (·.1)) n:=by
 induction l with
 | nil=>rfl
 | cons p r ih =>
  simp only [Yf]
  by_cases h:n=p.1
  ·rw [if_pos h]
   simp [Y2,h]
  ·rw [if_neg h]
   simp only [List.map_cons,ih,Y2,List.mem_cons,h,false_or]
   split<;>simp
theorem Qg8 {l:List Int} {x:Int} (h:l.Nodup):(Y2 l x).Nodup:=by
 unfold Y2
 split
 ·exact h
 ·rename_i hx
  rw [List.nodup_append]
  exact ⟨h,by simp,fun a ha b hb e=>hx (by obtain rfl:=List.mem_singleton.1 hb;exact e▸ha)⟩
theorem Qje {l:List Int} {x y:Int}:y∈Y2 l x↔y∈l∨y=x:=by
 unfold Y2
 split
 ·rename_i hx
  exact ⟨.inl,fun h=>h.elim id (fun e=>e▸hx)⟩
 ·simp
theorem QlT {a b:List Int} (ha:a.Nodup) (hb:b.Nodup) (h:∀x,x∈a↔x∈b):a.length=b.length :=
 ((List.perm_ext_iff_of_nodup ha hb).2 h).length_eq
theorem V.vpInv {σ:Nat→Option Nat} {hf:AH} {nx:Nat} {ts:List T} {v:Value} (h:V σ hf nx (.vp ts) v):∃a o es cs,v= .pointer (some ⟨a,o,none⟩)∧hf a=some (.cells es cs)∧o+ts.length≤cs.length∧∀i,i<ts.length→V σ hf nx (ts.getD i .any) (cs.getD (o+i) undef):=by
 cases h with
 | fz hr=>cases hr
 | vp ts o hk hfit h=>exact ⟨_,o,_,_,rfl,hk,hfit,h⟩
section
variable {call : QS} {P : Program} {E : Q4} {O : QJ} {d : Option Tmp} {ty tt : TypeId} {ps : String} {af : Array Edge} {g : Option (Nat × Bool)} {x y z : Operand} {t : T} {nx : Nat}
theorem OL.loadV1 {ts:List T} (hx:VEv E x (.vp ts)) (ht:ts[0]? =some t) (hst:Qy P tt=some false):OL call P E O ⟨d, .load tt x,ty,ps,af,g⟩ t:=fun q p h0 σ hf own nx Ea h hs=>by
 obtain ⟨v,h1,h2⟩:=hx σ hf nx Ea hs.env
 obtain ⟨a,o,es,cs,rfl,h3,h4,h5⟩:=h2.vpInv
 have hlt:0<ts.length:=(List.getElem?_eq_some_iff.1 ht).1
 have h6:=h5 0 hlt
 rw [Nat.add_zero,List.getD_eq_getElem?_getD,ht,List.getD_eq_getElem?_getD,List.getElem?_eq_getElem (show o<cs.length by omega)] at h6
 exact ⟨_,X.load h1 (QaF hst (hs.fro _ _ h3).1 (List.getElem?_eq_getElem (show o<cs.length by omega))),h6⟩
end
def Loan (call:QS) (f:FuncId) (sz:Nat) (rows:List (List T)) (ts:List T) (r:T) (rows':List (List T)):Prop:=∀(h:AH) (p:Nat) (hf:AH) (σ:Nat→Option Nat) (N:List Nat) (vs:List Value),Fr p h→(∀b o,hf b=some o→h b=some o∧b∉N)→N.Nodup→ObjR σ hf 1 h (.rows sz rows) (σ 0) N→VL σ hf 1 ts vs →
 CallS call f vs h p (fun v h'=>(∀b,h b≠none→b∉N→h' b=h b)∧V σ hf 1 r v∧ObjR σ hf 1 h' (.rows sz rows') (σ 0) N)
inductive Pin : T→Prop
 | os (sz n:Nat):Pin (.os sz 0 0 n)
 | vp (sz n:Nat):Pin (.vp [.os sz 0 0 n])
inductive LRes : T→Prop
 | none:LRes (.tup [])
 | int (k:IntKind) (n:Int):LRes (.int k n)
 | bool (b:Bool):LRes (.bool b)
 | os (sz n:Nat):LRes (.os sz 0 0 n)
def vloan (P:Program) (rs:List ResultVar) (j:Nat) (pin:T) (sz:Nat) (rows':List (List T)) (r:T):AX→Q4→QJ→Nat→Prop
 | .exit _,_,_,_=>False
 | _,E,O,_=>∃k ts,VRes P E O rs ts∧Qhb ts=ren (fun _=>k) r∧gE E j=ren (fun _=>k) pin∧gO O k=some (.rows sz rows')
theorem vloan.r {P:Program} {rs:List ResultVar} {j sz nx:Nat} {pin r:T} {rows rows':List (List T)} {E:Q4} {O:QJ} {ts:List T} (k:Nat) (h:VRes P E O rs ts) (h1:Qhb ts=ren (fun _=>k) r) (h2:gE E j=ren (fun _=>k) pin) (h3:gO O k=some (.rows sz rows)) (e:rows=rows'):vloan P rs j pin sz rows' r .ret E O nx:=⟨k,ts,h,h1,h2,e▸h3⟩
theorem vloan.n {P:Program} {rs:List ResultVar} {j sz nx:Nat} {pin r:T} {rows rows':List (List T)} {E:Q4} {O:QJ} {ts:List T} (k:Nat) (h:VRes P E O rs ts) (h1:Qhb ts=ren (fun _=>k) r) (h2:gE E j=ren (fun _=>k) pin) (h3:gO O k=some (.rows sz rows)) (e:rows=rows'):vloan P rs j pin sz rows' r .normal E O nx:=⟨k,ts,h,h1,h2,e▸h3⟩
theorem QlA {σ σ':Nat→Option Nat} {hf hf':AH} {nx nx' sz k n:Nat} {v:Value} (h:V σ hf nx (.os sz 0 0 n) v) (h':V σ' hf' nx' (.os sz k 0 n) v):σ' k=σ 0:=by
 obtain ⟨_,⟨a,m,e1,e2,e3⟩ | ⟨e1,_,e2,e3⟩⟩:=h.osInv
 ·obtain ⟨_,⟨a',m',f1,f2,f3⟩ | ⟨f1,_,f2,f3⟩⟩:=h'.osInv
  ·rw [e1] at f1
   simp only [Value.slice.injEq,Option.some.injEq,Addr.mk.injEq] at f1
   rw [e2,f2,f1.1.1]
  ·subst e1
   rcases f3 with f3 | ⟨b,o,f3⟩
   ·exact absurd f3 (by simp)
   ·simp only [Value.slice.injEq] at f3
    omega
 ·obtain ⟨_,⟨a',m',f1,f2,f3⟩ | ⟨f1,_,f2,f3⟩⟩:=h'.osInv
  ·subst f1
   rcases e3 with e3 | ⟨b,o,e3⟩
   ·exact absurd e3 (by simp)
   ·simp only [Value.slice.injEq] at e3
    omega
  ·rw [e1,f1]
theorem Pin.same {σ σ':Nat→Option Nat} {hf hf':AH} {nx nx' k:Nat} {pin:T} {v:Value} (hp:Pin pin) (hm:∀a o,hf a=some o→hf' a=some o) (h:V σ hf nx pin v) (h':V σ' hf' nx' (ren (fun _=>k) pin) v):σ' k=σ 0:=by
 cases hp with
 | os sz n=>exact QlA h h'
 | vp sz n =>
  obtain ⟨a,o,es,cs,rfl,e1,e2,e3⟩:=h.vpInv
  obtain ⟨a',o',es',cs',f0,f1,f2,f3⟩:=V.vpInv h'
  simp only [Value.pointer.injEq,Option.some.injEq,Addr.mk.injEq] at f0
  obtain ⟨rfl,rfl,_⟩:=f0
  rw [hm _ _ e1] at f1
  cases f1
  have g1:=e3 0 (by simp)
  have g2:=f3 0 (by simp [Qbh])
  exact QlA g1 g2
theorem LRes.back {σ σ':Nat→Option Nat} {hf hf':AH} {nx nx' k:Nat} {r:T} {v:Value} (hr:LRes r) (h0:0<nx) (hσ:σ' k=σ 0) (h:V σ' hf' nx' (ren (fun _=>k) r) v):V σ hf nx r v:=by
 cases hr with
 | none =>
  obtain ⟨l,rfl,h1⟩:=V.tupL h
  obtain rfl:=List.eq_nil_of_length_eq_zero h1.1.symm
  exact .fz (.tup [] #[] rfl (fun i hi=>by simp at hi))
 | int k n=>obtain rfl:=V.intInv h;exact .fz (.int _ _)
 | bool b=>obtain rfl:=V.boolInv h;exact .fz (.bool _)
 | os sz n =>
  obtain ⟨_,⟨a,m,rfl,e2,e3⟩ | ⟨e1,e4,e2,e3⟩⟩:=V.osInv h
  ·exact .os sz 0 0 n m h0 (hσ.symm.trans e2) e3
  ·subst e2
   rcases e3 with rfl | ⟨a,o,rfl⟩
   ·exact .os0 sz 0 h0 (hσ.symm.trans e1)
   ·exact .ose sz 0 a o h0 (hσ.symm.trans e1)
theorem ObjR.one {σ:Nat→Option Nat} {hf h:AH} {nx sz:Nat} {rows:List (List T)} {oa:Option Nat} {N:List Nat} (h1:ObjR σ hf nx h (.rows sz rows) oa N) (hsc:scR rows):(oa=Option.none∧N= []∧rows= [])∨∃a,oa=some a∧N= [a]∧h a≠Option.none:=by
 cases h1 with
 | none sz=>exact .inl ⟨rfl,rfl,rfl⟩
 | rows hk hodd hlen hfit hs =>
  obtain rfl:=hs.sc hsc.flat
  exact .inr ⟨_,rfl,rfl,by rw [hk];simp⟩
theorem ObjR.scM {σ σ':Nat→Option Nat} {hf hf' h h':AH} {nx nx' sz:Nat} {rows:List (List T)} {oa:Option Nat} {N:List Nat} (h1:ObjR σ hf nx h (.rows sz rows) oa N) (hsc:scR rows) (hh:∀a∈N,h' a=h a):ObjR σ' hf' nx' h' (.rows sz rows) oa N:=by
 cases h1 with
 | none sz=>exact .none sz
 | rows hk hodd hlen hfit hs =>
  obtain rfl:=hs.sc hsc.flat
  exact .rows ((hh _ (by simp)).trans hk) hodd hlen hfit (SL.mono (fun _ _ e=>e) (SL.clean hs (fun t ht=>Qdm (hsc.flat t ht))) (by simp))
theorem Loan.intro {P:Program} {f:FuncId} {fn:Func} {c:Code} {n sz j:Nat} {ts:List T} {r pin:T} {rows rows':List (List T)} {rs:List ResultVar} (hf:P.funcs[f]? =some fn) (hb:fn.body=some c) (hc:ZJ fn.ntmps c=true) (hrs:fn.results.toList=rs) (hn:noW j c=true) (hj:ts[j]? =some pin) (hpin:Pin pin) (hr0:LRes r) (hsc:scR rows) (hsc':scR rows') {E0:Q4} (hE:Qf0 0 ts=E0)
  (hr:VRun (Qq P n) P c E0 [(0,some (.rows sz rows))] 1 (vloan P rs j pin sz rows' r)) (hpr:Qdp f=true:=by rfl):Loan (Qq P (n+1)) f sz rows ts r rows':=by
 subst hE
 intro h p hfz σ N vs hfp hfN hnd hO hvs
 classical
 let hb0:AH:=fun b=>if b∈N then none else h b
 have hb1:∀b,b∉N→hb0 b=h b:=fun b hb=>if_neg hb
 have hb2:∀b,b∈N→hb0 b=none:=fun b hb=>if_pos hb
 have hb3:∀b o,hb0 b=some o→b∉N∧h b=some o:=fun b o hb=>by
  by_cases hm:b∈N
  ·rw [hb2 b hm] at hb;cases hb
  ·exact ⟨hm,(hb1 b hm).symm.trans hb⟩
 have hsub:∀b o,hfz b=some o→hb0 b=some o:=fun b o hb=>(hb1 b (hfN b o hb).2).trans (hfN b o hb).1
 have hNn:∀a∈N,h a≠none:=fun a ha=>by
  rcases hO.one hsc with ⟨_,rfl,_⟩ | ⟨a',_,rfl,h3⟩
  ·cases ha
  ·obtain rfl:=List.mem_singleton.1 ha
   exact h3
 have hjl:j<ts.length:=(List.getElem?_eq_some_iff.1 hj).1
 have hs0:SR p ⟨hb0,fun b=>b∈N⟩ σ hb0 (fun b=>if b∈N then some 0 else none) (Qf0 0 ts) [(0,some (.rows sz rows))] 1 (fun t=>vs.getD t undef) h:=by
  refine ⟨fun t=> ?_,fun k o hk=> ?_,fun a o ha=>⟨(hb3 a o ha).2,if_neg (hb3 a o ha).1⟩,fun a k ha=> ?_,fun _ _=>rfl,fun t ht=> ?_⟩
  ·rw [QeL,if_neg (by omega),Nat.sub_zero]
   rcases Nat.lt_or_ge t ts.length with h1 | h1
   ·exact (hvs.2 t h1).mono hsub (Nat.le_refl _) (fun _ _=>rfl)
   ·rw [List.getD_eq_getElem?_getD,List.getElem?_eq_none h1]
    exact .any _
  ·simp only [gO] at hk
   split at hk
   ·rename_i e
    subst e
    obtain rfl:=Option.some.inj hk
    exact ⟨by omega,N,hnd,fun a ha=>if_pos ha,hO.mono hsub (Nat.le_refl _) (fun _ _=>rfl) (fun _ _=>rfl)⟩
   ·cases hk
  ·split at ha
   ·rename_i hm
    obtain rfl:=Option.some.inj ha
    exact ⟨.inr hm,hb2 a hm,hNn a hm,by omega⟩
   ·cases ha
  ·by_cases hm:t∈N
   ·exact .inr (.inr hm)
   ·exact .inl (by show hb0 t≠none;rw [hb1 t hm];exact ht)
 unfold VRun at hr
 have hrun:=hr p _ σ _ _ _ h 0 hs0
 have hrun2:Run (Qq P n) P p c ⟨fun t=>vs.getD t undef,h,0⟩ (fun e s=>KK p ⟨hb0,fun b=>b∈N⟩ (vloan P rs j pin sz rows' r e) s.E s.h∧s.E j=vs.getD j undef):=by
  unfold Run at hrun ⊢
  intro hfc
  obtain ⟨e,s',h1,h2,h3⟩:=hrun hfc
  exact ⟨e,s',h1,h2,h3,Yx _ _ _ _ hn h1⟩
 refine CallS.intro (hpr:=hpr) (rs:=rs) hf hb hc hfp hrs (Run.mono hrun2 ?_)
 rintro e s' ⟨⟨σ',hf',own',E,O,nx,h1,h2⟩,h0⟩
 have key:(∃k ts,VRes P E O rs ts∧Qhb ts=ren (fun _=>k) r∧gE E j=ren (fun _=>k) pin∧gO O k=some (.rows sz rows'))→∃l,J6 P s'.h s'.E rs=some l∧(fun v h'=>(∀b,h b≠none→b∉N→h' b=h b)∧V σ hfz 1 r v∧ObjR σ hfz 1 h' (.rows sz rows') (σ 0) N) (Jv l) (if Zh (Jv l) then Ja h s'.h else Qb2 p h s'.h):=by
  rintro ⟨k,us,g1,g2,g3,g4⟩
  obtain ⟨l,l1,l2⟩:=g1.run h1
  have g5:V σ' hf' nx (Qhb us) (Jv l):=by
   have hlen:=l2.1
   match us,l,l2,hlen with
   | [],[],g4,_=>exact g4.toTup
   | [t],[v],g4,_ =>
    obtain ⟨v',r',e,g6,_⟩:=g4.tail
    cases e
    exact g6
   | t::t'::us,v::v'::l,g4,_=>exact g4.toTup
   | [],_::_,_,hl=>cases hl
   | [_],[],_,hl=>cases hl
   | [_],_::_::_,_,hl=>cases hl
   | _::_::_,[],_,hl=>cases hl
   | _::_::_,[_],_,hl=>cases hl
  have hbase:∀a o,hb0 a=some o→hf' a=some o:=fun a o ha=>by
   have e3:hf' a=hb0 a:=h1.base a (by show hb0 a≠none;rw [ha];simp)
   rw [e3,ha]
  have hσ:σ' k=σ 0:=by
   have p1:=hvs.2 j hjl
   rw [List.getD_eq_getElem?_getD,hj] at p1
   have p2:=h1.env j
   rw [g3,h0] at p2
   exact hpin.same (fun a o ha=>hbase a o (hsub a o ha)) p1 p2
  have hold:∀b,h b≠none→(if Zh (Jv l) then Ja h s'.h else Qb2 p h s'.h) b=s'.h b:=fun b hb=>by
   split
   ·unfold Ja
    cases hh:h b with
    | none=>exact absurd hh hb
    | some o=>rfl
   ·exact QgN (.inl hb)
  refine ⟨l,l1,fun b hb hbN=> ?_,hr0.back (by omega) hσ (by rw [← g2];exact g5),?_⟩
  ·rw [hold b hb]
   obtain ⟨o,ho⟩:=Option.ne_none_iff_exists'.1 hb
   rw [(h1.fro b o (hbase b o ((hb1 b hbN).trans ho))).1,ho]
  ·obtain ⟨M,hM1,hM2,e4⟩:=h1.objAt g4
   rw [hσ] at e4
   have hMN:M=N:=by
    rcases hO.one hsc with ⟨q1,rfl,_⟩ | ⟨a,q1,rfl,_⟩
    ·rcases e4.one hsc' with ⟨_,rfl,_⟩ | ⟨a',q3,_,_⟩
     ·rfl
     ·rw [q1] at q3;cases q3
    ·rcases e4.one hsc' with ⟨q3,_,_⟩ | ⟨a',q3,rfl,_⟩
     ·rw [q1] at q3;cases q3
     ·rw [q1] at q3;rw [Option.some.inj q3]
   subst hMN
   exact e4.scM hsc' (fun a ha=>hold a (hNn a ha))
 cases e with
 | normal=>unfold fin;exact key h2
 | ret=>unfold fin;exact key h2
 | exit id=>exact h2.elim
section
variable {call : QS} {P : Program} {E : Q4} {O : QJ} {d : Option Tmp} {ty : TypeId} {ps : String} {af : Array Edge} {g : Option (Nat × Bool)} {nx : Nat}
theorem LRes.fwd {σ σ':Nat→Option Nat} {hf hf':AH} {nx nx' k:Nat} {r:T} {v:Value} (hr:LRes r) (hk:k<nx') (hσ:σ' k=σ 0) (h:V σ hf nx r v):V σ' hf' nx' (ren (fun _=>k) r) v:=by
 cases hr with
 | none =>
  obtain ⟨l,rfl,h1⟩:=V.tupL h
  obtain rfl:=List.eq_nil_of_length_eq_zero h1.1.symm
  exact .fz (.tup [] #[] rfl (fun i hi=>by simp at hi))
 | int k n=>obtain rfl:=V.intInv h;exact .fz (.int _ _)
 | bool b=>obtain rfl:=V.boolInv h;exact .fz (.bool _)
 | os sz n =>
  obtain ⟨_,⟨a,m,rfl,e2,e3⟩ | ⟨e1,e4,e2,e3⟩⟩:=V.osInv h
  ·exact .os sz k 0 n m hk (hσ.trans e2) e3
  ·subst e2
   rcases e3 with rfl | ⟨a,o,rfl⟩
   ·exact .os0 sz k hk (hσ.trans e1)
   ·exact .ose sz k a o hk (hσ.trans e1)
theorem OC.loanX {f:FuncId} {o:Oper} {ts0 ts:List T} {sz k:Nat} {r:T} {rows rows':List (List T)} (ho:∀(q p:Nat) (h0:LB) (σ:Nat→Option Nat) (hf:AH) (own:Nat→Option Nat) (Ea:Nat→Value) (h:AH),SR p h0 σ hf own E O nx Ea h→∃vs,aop P q Ea h o=some (.enter f vs)∧VL σ hf nx ts0 vs) (hk:gO O k=some (.rows sz rows)) (hts:Qbh (fun _=>k) ts=ts0) (htl:YP 1 ts=true) (hr0:LRes r) (hsc:scR rows) (hsc':scR rows') (hp:Loan call f sz rows ts r rows') :
  OC call P E O nx o (ren (fun _=>k) r) ((k,some (.rows sz rows'))::O) nx [k]:=⟨Nat.le_refl _,fun q p h0 σ hf own Ea h hs hu hF=>by
 subst hts
 obtain ⟨vs,h1,h2⟩:=ho q p h0 σ hf own Ea h hs
 obtain ⟨hkn,N,hN1,hN2,h5⟩:=hs.obj k _ hk
 have hl:VL (fun _=>σ k) hf 1 ts vs:=by
  refine ⟨by have:=h2.1;rw [Z2,List.length_map] at this;exact this,fun i hi=> ?_⟩
  have h6:=h2.2 i (by rw [Z2,List.length_map];exact hi)
  refine V.ren (σ':=fun _=>σ k) (nx':=1) (fun _ _=>rfl) h6 ?_ ?_
  ·rw [Z2]
   simp [List.getD_eq_getElem?_getD,hi]
  ·rw [Jn,List.all_eq_true] at htl
   refine htl _ ?_
   rw [List.getD_eq_getElem?_getD,List.getElem?_eq_getElem hi]
   exact List.getElem_mem hi
 have h6:=hp h q hf (fun _=>σ k) N vs hF (fun b o hb=>⟨(hs.fro b o hb).1,fun hm=>by have:=hN2 b hm;rw [(hs.fro b o hb).2] at this;cases this⟩) hN1 (h5.scM hsc (fun _ _=>rfl)) hl
 unfold CallS at h6
 obtain ⟨v,h',k1,k2,k3,k4,k5⟩:=h6
 refine ⟨v,h',σ,own,by simp only [QH,h1,k1],k2,fun _ _=>rfl,⟨hs.env,fun k' o hk'=> ?_,fun b o hb=> ?_,fun b k' hb=> ?_,hs.base,fun t ht=> ?_⟩,hr0.fwd hkn Y k4,fun b hb hnk=>k3 b hb (fun hm=>hnk k (by simp) (hN2 b hm)),fun b k' e=> .inl e⟩
 ·simp only [gO] at hk'
  split at hk'
  ·rename_i e
   subst e
   obtain rfl:=Option.some.inj hk'
   exact ⟨hkn,N,hN1,hN2,k5.scM hsc' (fun _ _=>rfl)⟩
  ·rename_i hne
   obtain ⟨m1,N2,m2,m3,m4⟩:=hs.obj k' o hk'
   refine ⟨m1,N2,m2,m3,m4.mono (fun _ _ e=>e) (Nat.le_refl _) (fun _ _=>rfl) (fun b hb=>k3 b (hs.mine b k' (m3 b hb)).2.2.1 (fun hm=> ?_))⟩
   have:=hN2 b hm
   rw [m3 b hb] at this
   exact hne (Option.some.inj this)
 ·obtain ⟨m1,m2⟩:=hs.fro b o hb
  refine ⟨?_,m2⟩
  rw [k3 b (by rw [m1];simp) (fun hm=>by have:=hN2 b hm;rw [m2] at this;cases this)]
  exact m1
 ·obtain ⟨m1,m2,m3,m4⟩:=hs.mine b k' hb
  refine ⟨m1,m2,?_,m4⟩
  by_cases hm:b∈N
  ·rcases k5.one hsc' with ⟨_,rfl,_⟩ | ⟨a,_,rfl,h3⟩
   ·cases hm
   ·obtain rfl:=List.mem_singleton.1 hm
    exact h3
  ·rw [k3 b m3 hm]
   exact m3
 ·rcases k2 t ht with e | e
  ·exact hs.dom t e
  ·exact .inr (hu t e)⟩
theorem OC.callLoan {f:FuncId} {args:Array Operand} {tys:Array TypeId} {ts0 ts:List T} {sz k:Nat} {r r':T} {rows rows':List (List T)} (hb:Y3 P f=true) (ha:VEvs E args.toList ts0) (hk:gO O k=some (.rows sz rows)) (hts:Qbh (fun _=>k) ts=ts0) (htl:YP 1 ts=true) (hr0:LRes r) (hrr:ren (fun _=>k) r=r') (hsc:scR rows) (hsc':scR rows') (hp:Loan call f sz rows ts r rows') :
  OC call P E O nx ⟨d, .call ⟨.value (.func f),args,tys⟩,ty,ps,af,g⟩ r' ((k,some (.rows sz rows'))::O) nx [k]:=hrr▸OC.loanX (fun q p h0 σ hf own Ea h hs=>by
 obtain ⟨vs,h1,h2⟩:=ha σ hf nx Ea hs.env
 exact ⟨vs,X.calls hb h1,h2⟩) hk hts htl hr0 hsc hsc' hp
theorem VL.app {σ:Nat→Option Nat} {hf:AH} {nx:Nat}:∀ {ts us:List T} {vs ws:List Value},VL σ hf nx ts vs→VL σ hf nx us ws→VL σ hf nx (ts++us) (vs++ws)
 | [],us,vs,ws,h,h2=>by
  obtain rfl:=List.eq_nil_of_length_eq_zero h.1.symm
  exact h2
 | t::ts,us,vs,ws,h,h2=>by
  obtain ⟨v,l,rfl,h3,h4⟩:=h.tail
  exact .cons h3 (VL.app h4 h2)
theorem OC.callvLoan {f:FuncId} {a:Tmp} {args:Array Operand} {tys:Array TypeId} {ts0 ts caps:List T} {sz k:Nat} {r r':T} {rows rows':List (List T)} (hf:gE E a= .fn f caps) (hb:Y3 P f=true) (ha:VEvs E args.toList ts0) (hk:gO O k=some (.rows sz rows)) (hts:Qbh (fun _=>k) ts=ts0++caps) (htl:YP 1 ts=true) (hr0:LRes r) (hrr:ren (fun _=>k) r=r') (hsc:scR rows) (hsc':scR rows') (hp:Loan call f sz rows ts r rows') :
  OC call P E O nx ⟨d, .call ⟨.value (.tmp a),args,tys⟩,ty,ps,af,g⟩ r' ((k,some (.rows sz rows'))::O) nx [k]:=hrr▸OC.loanX (fun q p h0 σ hf' own Ea h hs=>by
 obtain ⟨vs,h1,h2⟩:=ha σ hf' nx Ea hs.env
 have h3:=hs.env a
 rw [hf] at h3
 obtain ⟨cs,h4,h5⟩:=h3.fnL
 exact ⟨vs++cs,by have:=X.callv (P:=P) (p:=q) (h:=h) (d:=d) (ty:=ty) (ps:=ps) (af:=af) (g:=g) (ts:=tys) h4 hb h1;simpa using this,h2.app h5⟩) hk hts htl hr0 hsc hsc' hp
end
def vtT (f:FuncId) (a b:T):Nat→T
 | 0=> .any
 | d+1=> .vp [.fn f [a,b,vtT f a b d]]
theorem QbN (g:Nat→Nat) (f:FuncId) (a b:T):∀d,ren g (vtT f a b d)=vtT f (ren g a) (ren g b) d
 | 0=>rfl
 | d+1=>by simp only [vtT,ren,Qbh,QbN g f a b d]
theorem QdL {n:Nat} {f:FuncId} {a b:T} (ha:Y4 n a=true) (hb:Y4 n b=true):∀d,Y4 n (vtT f a b d)=true
 | 0=>rfl
 | d+1=>by simp only [vtT,Y4,YP,ha,hb,QdL ha hb d,Bool.and_true]
theorem tl {n:Nat} {t:T} {ts:List T} (h:Y4 n t=true) (hr:YP n ts=true):YP n (t::ts)=true:=by simp only [YP,h,hr,Bool.and_true]
theorem SR.hold {p nx k:Nat} {h0:LB} {hf h:AH} {σ own:Nat→Option Nat} {E:Q4} {O:QJ} {Ea:Nat→Value} {us:List T} (hs:SR p h0 σ hf own E O nx Ea h) (hk:gO O k=some (.cells us)):∃hf' own' a es cs,SR p h0 σ hf' own' E ((k,none)::O) nx Ea h∧(∀a o,hf a=some o→hf' a=some o)∧σ k=some a∧hf' a=some (.cells es cs)∧VL σ hf nx us cs:=by
 classical
 obtain ⟨hkn,N,hN1,hN2,h3⟩:=hs.obj k _ hk
 cases hσ:σ k with
 | none=>rw [hσ] at h3;cases h3
 | some a =>
 rw [hσ] at h3
 cases h3 with
 | cells hh hodd hv =>
  rename_i es cs
  have howna:=hN2 a (by simp)
  have hmono:∀b o,hf b=some o→(fun b=>if own b=some k then h b else hf b) b=some o:=fun b o ho=>by
   have:=(hs.fro b o ho).2
   simp only [this]
   rw [if_neg (by simp)]
   exact ho
  refine ⟨fun b=>if own b=some k then h b else hf b,fun b=>if own b=some k then none else own b,a,es,cs,⟨fun t=>(hs.env t).mono hmono (Nat.le_refl _) (fun _ _=>rfl),fun k' o hk'=> ?_,fun b o ha=> ?_,fun b k' ha=> ?_,fun b ha=> ?_,hs.dom⟩,hmono,rfl,by simp only [howna,if_true];exact hh,hv⟩
  ·simp only [gO] at hk'
   split at hk'
   ·cases hk'
   ·rename_i hne
    obtain ⟨h1,M,h2,h4,h5⟩:=hs.obj k' o hk'
    refine ⟨h1,M,h2,fun b hb=> ?_,h5.mono hmono (Nat.le_refl _) (fun _ _=>rfl) (fun _ _=>rfl)⟩
    have:=h4 b hb
    simp only [this]
    rw [if_neg (fun e=>hne (Option.some.inj e))]
  ·split at ha
   ·rename_i e
    exact ⟨ha,by simp only [e,if_true]⟩
   ·rename_i e
    obtain ⟨h1,h2⟩:=hs.fro b o ha
    exact ⟨h1,by simp [h2]⟩
  ·split at ha
   ·cases ha
   ·exact hs.mine b k' ha
  ·have:own b≠some k:=fun e=>ha (hs.mine b k e).2.1
   simp only [if_neg this]
   exact hs.base b ha
theorem SR.told {p nx:Nat} {h0:LB} {hf h:AH} {σ own:Nat→Option Nat} {E E':Q4} {O:QJ} {Ea:Nat→Value} (hs:SR p h0 σ hf own E O nx Ea h) (he:∀t,V σ hf nx (gE E' t) (Ea t)):SR p h0 σ hf own E' O nx Ea h:=⟨he,hs.obj,hs.fro,hs.mine,hs.base,hs.dom⟩
theorem V.opAt {σ:Nat→Option Nat} {hf:AH} {nx k o a:Nat} {v:Value} (h:V σ hf nx (.op k o) v) (hσ:σ k=some a):v= .pointer (some ⟨a,o,none⟩):=by
 obtain ⟨a',e1,e2,_⟩:=h.opInv
 rw [hσ] at e2
 rw [e1,Option.some.inj e2]
theorem Wk.recv {E:Q4} {O:QJ} {nx d1 d2 d3 k1 k2 k3 sz k n:Nat} {us:List T} {f:FuncId} (dep:Nat) (e1:gE E d1= .op k1 0) (e2:gE E d2= .op k2 0) (e3:gE E d3= .op k3 0) (o1:gO O k1=some (.cells us)) (o2:gO O k2=some (.cells [.os sz k 0 n])) (o3:gO O k3=some (.cells [.fn f [.op k1 0, .op k2 0, .op k3 0]])) (h12:¬k2=k1) (h13:¬k3=k1) (h23:¬k3=k2) (hpl:∀t∈us,J1 t=true) :
  Wk E O nx ((d1, .rp us)::(d2, .vp [.os sz k 0 n])::(d3,vtT f (.rp us) (.vp [.os sz k 0 n]) dep)::E) ((k3,none)::(k2,none)::(k1,none)::O) nx:=fun p h0 σ hf own Ea h hs=>by
 obtain ⟨hf1,own1,a1,es1,cs1,s1,m1,g1,f1,v1⟩:=hs.hold o1
 obtain ⟨hf2,own2,a2,es2,cs2,s2,m2,g2,f2,v2⟩:=s1.hold (k:=k2) (us:= [.os sz k 0 n]) (by simp only [gO,if_neg h12];exact o2)
 obtain ⟨hf3,own3,a3,es3,cs3,s3,m3,g3,f3,v3⟩:=s2.hold (k:=k3) (us:= [.fn f [.op k1 0, .op k2 0, .op k3 0]]) (by simp only [gO,if_neg h13,if_neg h23];exact o3)
 have c1:V σ hf3 nx (.rp us) (.pointer (some ⟨a1,0,none⟩)):=by
  have r1:=(v1.mono (hf':=hf3) (σ':=σ) (nx':=nx) (fun a o e=>m3 _ _ (m2 _ _ (m1 _ _ e))) (Nat.le_refl _) (fun _ _=>rfl)).pl hpl
  exact .fz (.rp us 0 (m3 _ _ (m2 _ _ f1)) (by have:=r1.1;omega) (fun i hi=>by rw [Nat.zero_add];exact r1.2 i hi))
 have c2:V σ hf3 nx (.vp [.os sz k 0 n]) (.pointer (some ⟨a2,0,none⟩)):=by
  have r1:=v2.mono (hf':=hf3) (σ':=σ) (nx':=nx) (fun a o e=>m3 _ _ (m2 _ _ e)) (Nat.le_refl _) (fun _ _=>rfl)
  exact .vp _ 0 (m3 _ _ f2) (by have:=r1.1;omega) (fun i hi=>by rw [Nat.zero_add];exact r1.2 i hi)
 obtain ⟨w,l,hw,w1,w2⟩:=v3.tail
 obtain rfl:=List.eq_nil_of_length_eq_zero w2.1.symm
 subst hw
 obtain ⟨ws,rfl,w3⟩:=w1.fnL
 obtain ⟨x1,l1,rfl,y1,w3⟩:=w3.tail
 obtain ⟨x2,l2,rfl,y2,w3⟩:=w3.tail
 obtain ⟨x3,l3,rfl,y3,w3⟩:=w3.tail
 obtain rfl:=List.eq_nil_of_length_eq_zero w3.1.symm
 obtain rfl:=y1.opAt g1
 obtain rfl:=y2.opAt g2
 obtain rfl:=y3.opAt g3
 have c3:∀dep,V σ hf3 nx (vtT f (.rp us) (.vp [.os sz k 0 n]) dep) (.pointer (some ⟨a3,0,none⟩)):=by
  intro dep
  induction dep with
  | zero=>exact .any _
  | succ dep ih=>exact .vp _ 0 f3 (by simp) (fun i hi=>by
    obtain rfl:i=0:=by simpa using hi
    exact (VL.cons c1 (VL.cons c2 (VL.cons ih (VL.nil _ _ _)))).toFn f)
 refine ⟨σ,hf3,own3,s3.told fun t=> ?_⟩
 simp only [gE]
 split
 ·rename_i e;subst e
  have:=hs.env t
  rw [e1] at this
  rw [this.opAt g1];exact c1
 ·split
  ·rename_i e;subst e
   have:=hs.env t
   rw [e2] at this
   rw [this.opAt g2];exact c2
  ·split
   ·rename_i e;subst e
    have:=hs.env t
    rw [e3] at this
    rw [this.opAt g3];exact c3 dep
   ·exact s3.env t
section
variable {call : QS} {P : Program} {π c i : Nat} {ops : Array Oper}
theorem Qd9 : ∀(l1 l2:List Oper) (i:Nat) (s:St),QbK call P π ops (l1++l2) i s=(QbK call P π ops l1 i s).bind (QbK call P π ops l2 (i+l1.length))
 | [],l2,i,s=>by simp [QbK]
 | o::r,l2,i,s=>by
  rw [List.cons_append,QbK,QbK]
  cases hx:Qfu call P π ops i o s with
  | none=>rfl
  | some s1 =>
   rw [Option.bind_some,Option.bind_some,Qd9 r l2,List.length_cons,show i+1+r.length=i+(r.length+1) by omega]
theorem RunO.app {l1 l2:List Oper} {E:Nat→Value} {h:AH} {K:(Nat→Value)→AH→Prop} (h1:RunO call P π ops c l1 i E h (fun E' h'=>RunO call P π ops c l2 (i+l1.length) E' h' K)):RunO call P π ops c (l1++l2) i E h K:=by
 unfold RunO at h1 ⊢
 intro hf
 obtain ⟨s1,e1,e2,e3,e4⟩:=h1 hf
 obtain ⟨s2,f1,f2,f3,f4⟩:=e4 e3
 refine ⟨s2,?_,f2,?_,f4⟩
 ·rw [Qd9,e1,Option.bind_some,← f1]
  obtain ⟨E1,h1',c1⟩:=s1
  simp only at e2
  subst e2
  rfl
 ·rw [List.length_append,← Nat.add_assoc i]
  exact f3
end
def Qnf (ds:List Nat) (E:Q4):Q4:=(ds.map fun e=>(e,T.any))++E
inductive JE (E:Q4) (ds:List Nat):Q4→Prop
 | nil:JE E ds E
 | cons {E1:Q4} {e:Nat} {t:T} (he:ds.contains e=true) (h:JE E ds E1):JE E ds ((e,t)::E1)
theorem jn {E:Q4} {ds:List Nat}:JE E ds E:= .nil
theorem js {E E1:Q4} {ds:List Nat} {e:Nat} {t:T} (he:ds.contains e=true) (h:JE E ds E1):JE E ds ((e,t)::E1):= .cons he h
theorem QjF (E:Q4) (t:Nat):∀ds:List Nat,gE (Qnf ds E) t=if ds.contains t then .any else gE E t
 | []=>rfl
 | e::r=>by
  have ih:=QjF E t r
  unfold Qnf at ih ⊢
  simp only [List.map_cons,List.cons_append,gE,ih,List.contains_cons]
  by_cases h:t=e
  ·simp [h]
  ·have:(t == e)=false:=by simp [h]
   simp [h]
theorem JE.off {E E1:Q4} {ds:List Nat} (h:JE E ds E1) {t:Nat} (ht:ds.contains t=false):gE E1 t=gE E t:=by
 induction h with
 | nil=>rfl
 | cons he _ ih =>
  rename_i e _ _
  have:¬t=e:=fun x=>by rw [x,he] at ht;cases ht
  simp only [gE,if_neg this,ih]
def JQ (E:Q4) (O:QJ) (nx:Nat) (ds:List Nat) (d:Nat) (b:T) (E1:Q4) (O1:QJ) (nx1:Nat):Prop:=O1=O∧nx1=nx∧∃E2,E1=(d,b)::E2∧JE E ds E2
theorem jq {E E2:Q4} {O:QJ} {nx d:Nat} {ds:List Nat} {b v:T} (hv:v=b) (h:JE E ds E2):JQ E O nx ds d b ((d,v)::E2) O nx:=⟨rfl,rfl,E2,by rw [hv],h⟩
theorem VRunO.joinB {call:QS} {P:Program} {ops:Array Oper} {l:List Oper} {E:Q4} {O:QJ} {nx:Nat} {K:Q4→QJ→Nat→Prop} (m:Nat) (ds:List Nat) (d:Nat) (b:T) (h1:VRunO call P ops (l.take m) E O nx (JQ E O nx ds d b)) (h2:VRunO call P ops (l.drop m) ((d,b)::Qnf ds E) O nx K):VRunO call P ops l E O nx K:=by
 unfold VRunO at h1 h2 ⊢
 intro p h0 σ hf own Ea h c i hs
 rw [← List.take_append_drop m l]
 refine RunO.app ?_
 have h3:=h1 p h0 σ hf own Ea h c i hs
 unfold RunO at h3 ⊢
 intro hfc
 obtain ⟨s',e1,e2,e3,σ',hf',own',E1,O1,nx1,e4,rfl,rfl,E2,rfl,e5⟩:=h3 hfc
 have h4:=h2 p h0 σ' hf' own' s'.E s'.h c (i+(l.take m).length) (e4.told fun t=> ?_)
 ·unfold RunO at h4
  exact ⟨s',e1,e2,e3,h4⟩
 have h6:=e4.env t
 simp only [gE] at h6 ⊢
 split
 ·rename_i e
  simpa only [e,if_true] using h6
 ·rename_i e
  rw [if_neg e] at h6
  rw [QjF]
  split
  ·exact .any _
  ·rename_i hc
   rwa [e5.off (by simpa using hc)] at h6
section
variable {c v : Bool} {C Q : Prop} [Decidable C] [Decidable Q]
theorem jOT (hc:c=decide C) (h:c=true):true=decide (C∨Q):=by
 have:C:=of_decide_eq_true (hc▸h)
 simp [this]
theorem jOF (hc:c=decide C) (h:c=false) (hv:v=decide Q):v=decide (C∨Q):=by
 have:¬C:=of_decide_eq_false (hc▸h)
 simp [hv,this]
theorem dN : (!decide C)=decide (¬C):=by by_cases h:C<;>simp [h]
theorem dT (x:Bool):x=decide (x=true):=by cases x<;>rfl
end
section
variable {C Q R : Prop} {v : Bool}
theorem dy [Decidable C] (h:C):decide C=true:=decide_eq_true h
theorem dz [Decidable C] (h:¬C):decide C=false:=decide_eq_false h
theorem ny [Decidable C] (h:¬C):(!decide C)=true:=by simp [h]
theorem nz [Decidable C] (h:C):(!decide C)=false:=by simp [h]
theorem kAT [Decidable C] [Decidable Q] (h:C) (hv:v=decide Q):v=decide (C∧Q):=by simp [hv,h]
theorem kAF [Decidable C] [Decidable Q] (h:¬C):false=decide (C∧Q):=by simp [h]
theorem kOT [Decidable C] [Decidable Q] (h:C):true=decide (C∨Q):=by simp [h]
theorem kOF [Decidable C] [Decidable Q] (h:¬C) (hv:v=decide Q):v=decide (C∨Q):=by simp [hv,h]
theorem gw (C:Prop) (ht:C→R) (hf:¬C→R):R:=(Classical.em C).elim ht hf
theorem gn (C:Prop) (ht:¬C→R) (hf:C→R):R:=(Classical.em C).elim hf ht
theorem cd {call:QS} {P:Program} {E:Q4} {O:QJ} {nx:Nat} {S:AX→Q4→QJ→Nat→Prop} {x y:Code} {a:Tmp} (C:Prop) [Decidable C] (h:gE E a= .bool (decide C)) (ht:C→VRun call P x E O nx S) (hf:¬C→VRun call P y E O nx S):VRun call P (.cond (.tmp a) x y) E O nx S:=VRun.cond (VEv.tmp h) (fun e=>ht (of_decide_eq_true e)) (fun e=>hf (of_decide_eq_false e))
theorem cn {call:QS} {P:Program} {E:Q4} {O:QJ} {nx:Nat} {S:AX→Q4→QJ→Nat→Prop} {x y:Code} {a:Tmp} (C:Prop) [Decidable C] (h:gE E a= .bool (!decide C)) (ht:¬C→VRun call P x E O nx S) (hf:C→VRun call P y E O nx S):VRun call P (.cond (.tmp a) x y) E O nx S:=VRun.cond (VEv.tmp h) (fun e=>ht (by simpa using e)) (fun e=>hf (by simpa using e))
end
theorem lb {a b:Nat} (h:Nat.ble a b=true):a≤b:=Nat.le_of_ble_eq_true h
theorem bn {α:Type} {p:α→Prop}:∀x∈([]:List α),p x:=Zf
theorem bc {α:Type} {p:α→Prop} {a:α} {l:List α} (h:p a) (hr:∀x∈l,p x):∀x∈a::l,p x:=Qm h hr
theorem b2 {α:Type} {p:α→Prop} {a:α} {l:List α} (hr:∀x∈l,p x) (h:p a:=by exact ⟨rfl,rfl⟩):∀x∈a::l,p x:=Qm h hr
theorem b3 {α:Type} {p:α→Prop} {a:α} {l:List α} (hr:∀x∈l,p x) (h:p a:=by exact ⟨rfl,lb Y,rfl⟩):∀x∈a::l,p x:=Qm h hr
theorem QC : Zk=1099511627776∧mx=1048576∧maxLen=9223372036854775807:=⟨rfl,rfl,rfl⟩
theorem Qaf {α:Type} {l:List α} {i:Nat} (z:α) (h:i<l.length):l[i]? =some (l[i]?.getD z):=by rw [List.getElem?_eq_getElem h,Option.getD_some]
abbrev LO := List (Nat×List (List T))
def ix : List Nat→Nat→Option Nat
 | [],_=>none
 | a::r,k=>if k=a then some 0 else (ix r k).map (· +1)
theorem B.storeW {call:QS} {P:Program} {E:Q4} {O:QJ} {nx:Nat} {d:Option Tmp} {ty tt:TypeId} {ps:String} {af:Array Edge} {g:Option (Nat×Bool)} {x y:Operand} {t:T} {k:Nat} {ts us:List T} (hx:VEv E x (.op k 0)) (hy:VEv E y t) (ht:t≠ .any) (hk:gO O k=some (.cells ts)) (hus:Q5 t=us) (hl:us.length=ts.length) (hif:(P.info? tt).isSome=true) (hn:P.cellsOf tt=us.length) (hc:∀a∈us,Jy a=true) :
  OC call P E O nx ⟨d, .store tt x y,ty,ps,af,g⟩ .any ((k,some (.cells us))::O) nx [k]:=B.storeO hx hy ht hk hus (by omega) hif hn hc (by simp [spl,hl])
section
variable {call : QS} {P : Program} {E : Q4} {O : QJ} {nx : Nat} {S : AX → Q4 → QJ → Nat → Prop} {u v : Code} {c : Tmp}
theorem ct (h:gE E c= .bool true) (hx:VRun call P u E O nx S):VRun call P (.cond (.tmp c) u v) E O nx S:=VRun.cond (VEv.tmp h) (fun _=>hx) (fun e=>absurd e (by decide))
theorem cf (h:gE E c= .bool false) (hx:VRun call P v E O nx S):VRun call P (.cond (.tmp c) u v) E O nx S:=VRun.cond (VEv.tmp h) (fun e=>absurd e (by decide)) (fun _=>hx)
theorem ck {b:Bool} (hb:b=true) (h:gE E c= .bool b) (hx:VRun call P u E O nx S):VRun call P (.cond (.tmp c) u v) E O nx S:=ct (hb▸h) hx
theorem cg {b:Bool} (hb:b=false) (h:gE E c= .bool b) (hx:VRun call P v E O nx S):VRun call P (.cond (.tmp c) u v) E O nx S:=cf (hb▸h) hx
theorem vn : VEvs E [] []:= .nil
theorem ln : LendL O [] []:=LendL.nil
theorem Q8 : ∀ {ts:List T},ts.all J1=true→LendL O ts ts
 | [],_=>LendL.nil
 | t::r,h=>by
  simp only [List.all_cons,Bool.and_eq_true] at h
  exact LendL.cons (Lend.pl h.1) (Q8 h.2)
def Qnz : List Nat→Bool
 | []=>true
 | a::r=> !(r.contains a) && Qnz r
theorem nd : ∀ {l:List Nat},Qnz l=true→l.Nodup
 | [],_=>List.nodup_nil
 | a::r,h=>by
  simp only [Qnz,Bool.and_eq_true] at h
  exact List.nodup_cons.2 ⟨by simpa using h.1,nd h.2⟩
end
section
variable {call : QS} {P : Program} {E : Q4} {O : QJ} {d : Option Tmp} {ty tt xt : TypeId} {ps : String} {af : Array Edge} {g : Option (Nat × Bool)} {x y : Operand} {kk : IntKind} {a b : Int} {m n : Nat}
theorem xls (hx:VEv E x (.int kk a)) (hy:VEv E y (.int kk b)):OF call P E ⟨d, .binOp .lss tt x y xt,ty,ps,af,g⟩ (.bool (decide (a<b))):=B.lss hx hy Y
theorem xle (hx:VEv E x (.int kk a)) (hy:VEv E y (.int kk b)):OF call P E ⟨d, .binOp .leq tt x y xt,ty,ps,af,g⟩ (.bool (decide (a≤b))):=B.leq hx hy Y
theorem xgt (hx:VEv E x (.int kk a)) (hy:VEv E y (.int kk b)):OF call P E ⟨d, .binOp .gtr tt x y xt,ty,ps,af,g⟩ (.bool (decide (b<a))):=B.gtr hx hy Y
theorem xge (hx:VEv E x (.int kk a)) (hy:VEv E y (.int kk b)):OF call P E ⟨d, .binOp .geq tt x y xt,ty,ps,af,g⟩ (.bool (decide (b≤a))):=B.geq hx hy Y
theorem Z7 (hx:VEv E x (.int kk a)) (hy:VEv E y (.int kk b)):OF call P E ⟨d, .binOp .eql tt x y xt,ty,ps,af,g⟩ (.bool (decide (a=b))):=B.eql hx hy Y
theorem xne (hx:VEv E x (.int kk a)) (hy:VEv E y (.int kk b)):OF call P E ⟨d, .binOp .neq tt x y xt,ty,ps,af,g⟩ (.bool (!decide (a=b))):=B.neq hx hy Y
theorem Q2 (hx:VEv E x (tN m)) (hy:VEv E y (tN n)):OF call P E ⟨d, .binOp .lss tt x y xt,ty,ps,af,g⟩ (.bool (decide (m<n))):=B.lss hx hy (Qv (by omega))
theorem QoE (hx:VEv E x (tN m)) (hy:VEv E y (tN n)):OF call P E ⟨d, .binOp .geq tt x y xt,ty,ps,af,g⟩ (.bool (decide (n≤m))):=B.geq hx hy (Qv (by omega))
theorem Qml (hx:VEv E x (tN m)) (hy:VEv E y (tN n)):OF call P E ⟨d, .binOp .eql tt x y xt,ty,ps,af,g⟩ (.bool (decide (m=n))):=B.eql hx hy (Qv (by omega))
theorem Qj8 (hx:VEv E x (tN m)) (hy:VEv E y (tN n)):OF call P E ⟨d, .binOp .neq tt x y xt,ty,ps,af,g⟩ (.bool (!decide (m=n))):=B.neq hx hy (congrArg (!·) (Qv (by omega)))
theorem QW {b1:Bool} (hx:VEv E x (.bool b1)):OF call P E ⟨d, .unOp .not tt x,ty,ps,af,g⟩ (.bool (!b1)):=B.not hx Y
theorem Qx (hx:VEv E x (tN m)) (hy:VEv E y (.int .i64 1)) (h:m+1<9223372036854775808):OF call P E ⟨d, .binOp .add tt x y xt,ty,ps,af,g⟩ (tN (m+1)):=B.add hx hy (by rw [Qs (by omega)];omega)
theorem xcv {k0 kd:IntKind} {st dt:TypeId} {m:Int} (hx:VEv E x (.int k0 a)) (h1:P.underlying st=some (.int k0)) (h2:P.underlying dt=some (.int kd)) (he:kd.wrap a=m):OF call P E ⟨d, .convert st dt x,ty,ps,af,g⟩ (.int kd m):=he▸OF.convI hx h1 h2
theorem xix {s:ByteArray} (hx:VEv E x (.str s)) (hy:VEv E y (tN m)) (hi:m<s.size) (hu:P.underlying tt=some .string):OF call P E ⟨d, .index tt x y,ty,ps,af,g⟩ (.int .u8 (QD s m)):=B.index hx hy Y hi hu (Jm hi)
end
section
variable {call : QS} {P : Program} {ops : Array Oper} {l : List Oper} {E : Q4} {O : QJ} {nx : Nat} {K : Q4 → QJ → Nat → Prop} {d1 a : Nat} {d2 : Option Tmp} {ty1 ty2 tt tt2 : TypeId} {ps1 ps2 : String} {af1 af2 : Array Edge} {j k o off : Nat} {us : List T}
theorem QeM (E:Q4) (n:Nat) (t:T):gE ((n,t)::E) n=t:=by simp [gE]
theorem lf (t:T) (h:gE E a= .op k o) (fa:∀k o,Qh P tt (.pointer (some ⟨k,o,none⟩)) j=some (.pointer (some ⟨k,o+off,none⟩))) (hk:gO O k=some (.cells us)) (ht:us[o+off]? =some t) (hst:Qy P tt2=some false) (hK:VRunO call P ops l (pE ((d1, .op k (o+off))::E) d2 t) O nx K) :
  VRunO call P ops (⟨some d1, .fieldAddr tt (.tmp a) j,ty1,ps1,af1,none⟩::⟨d2, .load tt2 (.tmp d1),ty2,ps2,af2,none⟩::l) E O nx K:=fO (OF.fieldAddrO (VEv.tmp h) fa) (lO (OL.loadO1 (VEv.tmp (QeM _ _ _)) hk ht hst) hK)
theorem lr (t:T) (h:gE E a= .rp us) (hn:off≤us.length) (fa:∀k o,Qh P tt (.pointer (some ⟨k,o,none⟩)) j=some (.pointer (some ⟨k,o+off,none⟩))) (ht:(us.drop off)[0]? =some t) (hst:Qy P tt2=some false) (hK:VRunO call P ops l (pE ((d1, .rp (us.drop off))::E) d2 t) O nx K) :
  VRunO call P ops (⟨some d1, .fieldAddr tt (.tmp a) j,ty1,ps1,af1,none⟩::⟨d2, .load tt2 (.tmp d1),ty2,ps2,af2,none⟩::l) E O nx K:=fO (B.fieldAddrR (VEv.tmp h) hn fa Y) (lO (OL.loadR1 (VEv.tmp (QeM _ _ _)) ht hst) hK)
variable {i q : Nat} {w b : Bool} {t0 : T}
theorem Yt (t:T) (hb:b=w) (hd:(ops[i]?).bind (·.dst)=some q) (hq:gE E q= .bool b) (hne:(q == d1)=false) (h:gE E a= .op k o) (fa:∀k o,Qh P tt (.pointer (some ⟨k,o,none⟩)) j=some (.pointer (some ⟨k,o+off,none⟩))) (hk:gO O k=some (.cells us)) (ht:us[o+off]? =some t) (hst:Qy P tt2=some false) (hK:VRunO call P ops l (pE ((d1, .op k (o+off))::E) d2 t) O nx K) :
  VRunO call P ops (⟨some d1, .fieldAddr tt (.tmp a) j,ty1,ps1,af1,some (i,w)⟩::⟨d2, .load tt2 (.tmp d1),ty2,ps2,af2,some (i,w)⟩::l) E O nx K:=gF hb hd hq (OF.fieldAddrO (VEv.tmp h) fa) (gL hb hd ((QiR E hne _).trans hq) (OL.loadO1 (VEv.tmp (QeM _ _ _)) hk ht hst) hK)
theorem glr (t:T) (hb:b=w) (hd:(ops[i]?).bind (·.dst)=some q) (hq:gE E q= .bool b) (hne:(q == d1)=false) (h:gE E a= .rp us) (hn:off≤us.length) (fa:∀k o,Qh P tt (.pointer (some ⟨k,o,none⟩)) j=some (.pointer (some ⟨k,o+off,none⟩))) (ht:(us.drop off)[0]? =some t) (hst:Qy P tt2=some false) (hK:VRunO call P ops l (pE ((d1, .rp (us.drop off))::E) d2 t) O nx K) :
  VRunO call P ops (⟨some d1, .fieldAddr tt (.tmp a) j,ty1,ps1,af1,some (i,w)⟩::⟨d2, .load tt2 (.tmp d1),ty2,ps2,af2,some (i,w)⟩::l) E O nx K:=gF hb hd hq (B.fieldAddrR (VEv.tmp h) hn fa Y) (gL hb hd ((QiR E hne _).trans hq) (OL.loadR1 (VEv.tmp (QeM _ _ _)) ht hst) hK)
def QlE (i:Nat) (w:Bool) (q:Nat):List Oper→Bool
 | []=>true
 | o::r=>(match o.guard with | some (a,b)=>Nat.beq a i && (b == w) | none=>false) && (match o.dst with | some d=> !(Nat.beq d q) | none=>true) && QlE i w q r
def Qmp (E:Q4):List Oper→Q4
 | []=>E
 | o::r=>Qmp (pE E o.dst (.tup [])) r
theorem Qn8 (hd:(ops[i]?).bind (·.dst)=some q) (hv:∀(dd:Option Tmp) (op:Op) (ty:TypeId) (ps:String) (af:Array Edge) (E:Q4),gE E q=t0→VWant ops E ⟨dd,op,ty,ps,af,some (i,w)⟩ false) {l2:List Oper} (l1:List Oper):∀(E:Q4),QlE i w q l1=true→gE E q=t0→VRunO call P ops l2 (Qmp E l1) O nx K→VRunO call P ops (l1++l2) E O nx K:=by
 induction l1 with
 | nil=>exact fun E _ _ hK=>hK
 | cons o r ih =>
  intro E hc hq hK
  obtain ⟨dd,op,ty,ps,af,g⟩:=o
  simp only [QlE,Bool.and_eq_true] at hc
  obtain ⟨⟨h1,h2⟩,h3⟩:=hc
  cases g with
  | none=>cases h1
  | some g =>
   obtain ⟨a,b⟩:=g
   simp only [Bool.and_eq_true] at h1
   have e1:a=i:=Nat.eq_of_beq_eq_true h1.1
   have e2:b=w:=by simpa using h1.2
   subst e1
   subst e2
   refine VRunO.off (hv _ _ _ _ _ _ hq) (ih _ h3 ?_ hK)
   cases dd with
   | none=>exact hq
   | some d =>
    refine (QiR E (d:=d) (t:=q) ?_ _).trans hq
    rw [beq_eq_false_iff_ne]
    rintro rfl
    simp at h2
theorem Qz (m i:Nat) (w:Bool) (q:Nat) (hb:b= !w) (hd:(ops[i]?).bind (·.dst)=some q) (hq:gE E q= .bool b) (hc:QlE i w q (l.take m)=true) (hK:VRunO call P ops (l.drop m) (Qmp E (l.take m)) O nx K):VRunO call P ops l E O nx K:=by
 rw [← List.take_append_drop m l]
 exact Qn8 hd (fun _ _ _ _ _ _ h=>VWant.not hd h hb) _ _ hc hq hK
theorem Qai (m i:Nat) (w:Bool) (q:Nat) (hd:(ops[i]?).bind (·.dst)=some q) (hq:gE E q= .tup []) (hc:QlE i w q (l.take m)=true) (hK:VRunO call P ops (l.drop m) (Qmp E (l.take m)) O nx K):VRunO call P ops l E O nx K:=by
 rw [← List.take_append_drop m l]
 exact Qn8 hd (fun _ _ _ _ _ _ h=>VWant.undef hd h) _ _ hc hq hK
end
structure D.Grid where
 Rows:Int
 Cols:Int
 Cells:ByteArray
def QlP : AK D.Grid:=AK.iso (AK.pair (AK.int .i64) (AK.pair (AK.int .i64) AK.string)) (fun x=>(x.Rows,x.Cols,x.Cells))
def Qln (x:D.Grid):Prop:=((Lit.int .i64 x.Rows).wf=true)∧((Lit.int .i64 x.Cols).wf=true)∧(x.Cells.size≤maxLen)
structure D.Step where
 Kind:Int
 Word:ByteArray
 A:Int
 B:Int
def Qlf : AK D.Step:=AK.iso (AK.pair (AK.int .i64) (AK.pair AK.string (AK.pair (AK.int .i64) (AK.int .i64)))) (fun x=>(x.Kind,x.Word,x.A,x.B))
def Qjp (x:D.Step):Prop:=((Lit.int .i64 x.Kind).wf=true)∧(x.Word.size≤maxLen)∧((Lit.int .i64 x.A).wf=true)∧((Lit.int .i64 x.B).wf=true)
structure D.Clue where
 Sense:Int
 Play:_root_.List D.Step
def QlJ : AK D.Clue:=AK.iso (AK.pair (AK.int .i64) (AK.slice Qlf)) (fun x=>(x.Sense,x.Play))
def QjQ (x:D.Clue):Prop:=((Lit.int .i64 x.Sense).wf=true)∧((x.Play.length≤maxLen∧∀y∈x.Play,Qjp y))
structure D.Puzzle where
 Grid:D.Grid
 Clues:_root_.List D.Clue
 Seals:_root_.List Int
 Salt:Int
def QjB : AK D.Puzzle:=AK.iso (AK.pair QlP (AK.pair (AK.slice QlJ) (AK.pair (AK.slice (AK.int .i64)) (AK.int .i64)))) (fun x=>(x.Grid,x.Clues,x.Seals,x.Salt))
def Qg6 (x:D.Puzzle):Prop:=(Qln x.Grid)∧((x.Clues.length≤maxLen∧∀y∈x.Clues,QjQ y))∧((x.Seals.length≤maxLen∧∀y∈x.Seals,(Lit.int .i64 y).wf=true))∧((Lit.int .i64 x.Salt).wf=true)
structure D.Report where
 Tester:Int
 Slot:Int
 Kind:Int
 Word:ByteArray
def QjI : AK D.Report:=AK.iso (AK.pair (AK.int .i64) (AK.pair (AK.int .i64) (AK.pair (AK.int .i64) AK.string))) (fun x=>(x.Tester,x.Slot,x.Kind,x.Word))
def QeN (x:D.Report):Prop:=((Lit.int .i64 x.Tester).wf=true)∧((Lit.int .i64 x.Slot).wf=true)∧((Lit.int .i64 x.Kind).wf=true)∧(x.Word.size≤maxLen)
structure D.Meaning where
 Word:ByteArray
 Sense:Int
def Qiy : AK D.Meaning:=AK.iso (AK.pair AK.string (AK.int .i64)) (fun x=>(x.Word,x.Sense))
def QcX (x:D.Meaning):Prop:=(x.Word.size≤maxLen)∧((Lit.int .i64 x.Sense).wf=true)
structure D.Slot where
 Number:Int
 Down:Bool
 Cell:Int
 Length:Int
theorem QoU : YO Tryz.prog 24 QlP Qln:=YQ (Yh (P:=Tryz.prog) (t:=24) (fun x:D.Grid=>(x.Rows,x.Cols,x.Cells)) (fun x=>⟨x.1,x.2.1,x.2.2⟩) (fun _=>rfl) Tryz.underlying24 (by kernel_rfl) (Zb Y (by kernel_rfl) (Zv (k:= .i64) Tryz.underlying3) (Zb Y (by kernel_rfl) (Zv (k:= .i64) Tryz.underlying3) (YU Y (by kernel_rfl) (Jq Tryz.underlying9))))) (fun _ h=>h)
theorem Qod : YO Tryz.prog 142 Qlf Qjp:=YQ (Yh (P:=Tryz.prog) (t:=142) (fun x:D.Step=>(x.Kind,x.Word,x.A,x.B)) (fun x=>⟨x.1,x.2.1,x.2.2.1,x.2.2.2⟩) (fun _=>rfl) Tryz.underlying142 (by kernel_rfl) (Zb Y (by kernel_rfl) (Zv (k:= .i64) Tryz.underlying3) (Zb Y (by kernel_rfl) (Jq Tryz.underlying9) (Zb Y (by kernel_rfl) (Zv (k:= .i64) Tryz.underlying3) (YU Y (by kernel_rfl) (Zv (k:= .i64) Tryz.underlying3)))))) (fun _ h=>h)
theorem QoO : YO Tryz.prog 51 QlJ QjQ:=YQ (Yh (P:=Tryz.prog) (t:=51) (fun x:D.Clue=>(x.Sense,x.Play)) (fun x=>⟨x.1,x.2⟩) (fun _=>rfl) Tryz.underlying51 (by kernel_rfl) (Zb Y (by kernel_rfl) (Zv (k:= .i64) Tryz.underlying3) (YU Y (by kernel_rfl) (Y0 Tryz.underlying49 (by kernel_rfl) (of_decide_eq_true (by kernel_rfl)) Qod)))) (fun _ h=>h)
theorem Qo3 : YO Tryz.prog 28 QjB Qg6:=YQ (Yh (P:=Tryz.prog) (t:=28) (fun x:D.Puzzle=>(x.Grid,x.Clues,x.Seals,x.Salt)) (fun x=>⟨x.1,x.2.1,x.2.2.1,x.2.2.2⟩) (fun _=>rfl) Tryz.underlying28 (by kernel_rfl) (Zb Y (by kernel_rfl) QoU (Zb Y (by kernel_rfl) (Y0 Tryz.underlying25 (by kernel_rfl) (of_decide_eq_true (by kernel_rfl)) QoO) (Zb Y (by kernel_rfl) (Y0 Tryz.underlying26 (by kernel_rfl) (of_decide_eq_true (by kernel_rfl)) (Zv (k:= .i64) Tryz.underlying3)) (YU Y (by kernel_rfl) (Zv (k:= .i64) Tryz.underlying3)))))) (fun _ h=>h)
theorem QoT : YO Tryz.prog 75 QjI QeN:=YQ (Yh (P:=Tryz.prog) (t:=75) (fun x:D.Report=>(x.Tester,x.Slot,x.Kind,x.Word)) (fun x=>⟨x.1,x.2.1,x.2.2.1,x.2.2.2⟩) (fun _=>rfl) Tryz.underlying75 (by kernel_rfl) (Zb Y (by kernel_rfl) (Zv (k:= .i64) Tryz.underlying3) (Zb Y (by kernel_rfl) (Zv (k:= .i64) Tryz.underlying3) (Zb Y (by kernel_rfl) (Zv (k:= .i64) Tryz.underlying3) (YU Y (by kernel_rfl) (Jq Tryz.underlying9)))))) (fun _ h=>h)
theorem Qo1 : YO Tryz.prog 81 Qiy QcX:=YQ (Yh (P:=Tryz.prog) (t:=81) (fun x:D.Meaning=>(x.Word,x.Sense)) (fun x=>⟨x.1,x.2⟩) (fun _=>rfl) Tryz.underlying81 (by kernel_rfl) (Zb Y (by kernel_rfl) (Jq Tryz.underlying9) (YU Y (by kernel_rfl) (Zv (k:= .i64) Tryz.underlying3)))) (fun _ h=>h)
theorem QQ : Qy Tryz.prog 3=some false:=by kernel_rfl
theorem Zu : Tryz.prog.cellsOf 3=1:=by kernel_rfl
theorem Jc : (Tryz.prog.info? 3).isSome=true:=by kernel_rfl
theorem zo3 : Zg Tryz.prog 3=some (.int .i64 0):=by kernel_rfl
theorem zc3 : closedV (.int .i64 0)=true:=by kernel_rfl
theorem st4 : Qy Tryz.prog 4=some false:=by kernel_rfl
theorem sz4 : Tryz.prog.cellsOf 4=1:=by kernel_rfl
theorem if4 : (Tryz.prog.info? 4).isSome=true:=by kernel_rfl
theorem zo4 : Zg Tryz.prog 4=some (.bool false):=by kernel_rfl
theorem zc4 : closedV (.bool false)=true:=by kernel_rfl
theorem st5 : Qy Tryz.prog 5=some false:=by kernel_rfl
theorem sz5 : Tryz.prog.cellsOf 5=1:=by kernel_rfl
theorem if5 : (Tryz.prog.info? 5).isSome=true:=by kernel_rfl
theorem ZH : Qy Tryz.prog 9=some false:=by kernel_rfl
theorem sz9 : Tryz.prog.cellsOf 9=1:=by kernel_rfl
theorem if9 : (Tryz.prog.info? 9).isSome=true:=by kernel_rfl
theorem zo9 : Zg Tryz.prog 9=some (.string ByteArray.empty):=by kernel_rfl
theorem Qoo : Qy Tryz.prog 24=some true:=by kernel_rfl
theorem Qm9 : Tryz.prog.cellsOf 24=3:=by kernel_rfl
theorem QoP : (Tryz.prog.info? 24).isSome=true:=by kernel_rfl
theorem Qot : Qy Tryz.prog 25=some false:=by kernel_rfl
theorem QoR : Tryz.prog.cellsOf 25=1:=by kernel_rfl
theorem QoS : (Tryz.prog.info? 25).isSome=true:=by kernel_rfl
theorem QdG : Qy Tryz.prog 26=some false:=by kernel_rfl
theorem Qhj : Tryz.prog.cellsOf 26=1:=by kernel_rfl
theorem Qkd : (Tryz.prog.info? 26).isSome=true:=by kernel_rfl
theorem Qog : Zg Tryz.prog 26=some (.slice none 0 0):=by kernel_rfl
theorem Qmx : Qy Tryz.prog 28=some true:=by kernel_rfl
theorem Ql8 : Tryz.prog.cellsOf 28=6:=by kernel_rfl
theorem Zj : Qy Tryz.prog 36=some true:=by kernel_rfl
theorem Q6 : Tryz.prog.cellsOf 36=3:=by kernel_rfl
theorem Qjc : (Tryz.prog.info? 36).isSome=true:=by kernel_rfl
theorem QkF : Zg Tryz.prog 36=some (.agg #[.int .i64 0, .int .i64 0, .string ByteArray.empty]):=by kernel_rfl
theorem Ql9 : closedV (.agg #[.int .i64 0, .int .i64 0, .string ByteArray.empty])=true:=by kernel_rfl
theorem QdI : Qy Tryz.prog 37=some false:=by kernel_rfl
theorem Qoa : Tryz.prog.cellsOf 37=1:=by kernel_rfl
theorem Qoi : (Tryz.prog.info? 37).isSome=true:=by kernel_rfl
theorem Qgg : Qy Tryz.prog 39=some true:=by kernel_rfl
theorem QeI : Tryz.prog.cellsOf 39=6:=by kernel_rfl
theorem Qon : (Tryz.prog.info? 39).isSome=true:=by kernel_rfl
theorem QnE : Zg Tryz.prog 39=some (.agg #[.int .i64 0, .int .i64 0, .string ByteArray.empty, .slice none 0 0, .slice none 0 0, .int .i64 0]):=by kernel_rfl
theorem Qni : closedV (.agg #[.int .i64 0, .int .i64 0, .string ByteArray.empty, .slice none 0 0, .slice none 0 0, .int .i64 0])=true:=by kernel_rfl
theorem Qof : Qy Tryz.prog 49=some false:=by kernel_rfl
theorem Qo5 : Tryz.prog.cellsOf 49=1:=by kernel_rfl
theorem Qo4 : (Tryz.prog.info? 49).isSome=true:=by kernel_rfl
theorem Qoh : Qy Tryz.prog 51=some true:=by kernel_rfl
theorem Qmv : Tryz.prog.cellsOf 51=2:=by kernel_rfl
theorem Qol : (Tryz.prog.info? 51).isSome=true:=by kernel_rfl
theorem Qks : Qy Tryz.prog 62=some false:=by kernel_rfl
theorem Qn7 : Tryz.prog.cellsOf 62=1:=by kernel_rfl
theorem Qoy : (Tryz.prog.info? 62).isSome=true:=by kernel_rfl
theorem Qft : Qy Tryz.prog 64=some true:=by kernel_rfl
theorem J5 : Tryz.prog.cellsOf 64=2:=by kernel_rfl
theorem Qhi : (Tryz.prog.info? 64).isSome=true:=by kernel_rfl
theorem QmV : Zg Tryz.prog 64=some (.agg #[.int .i64 0, .slice none 0 0]):=by kernel_rfl
theorem Qm1 : closedV (.agg #[.int .i64 0, .slice none 0 0])=true:=by kernel_rfl
theorem Qoq : Qy Tryz.prog 75=some true:=by kernel_rfl
theorem Ql3 : Tryz.prog.cellsOf 75=4:=by kernel_rfl
theorem QoB : (Tryz.prog.info? 75).isSome=true:=by kernel_rfl
theorem Qoc : Qy Tryz.prog 81=some true:=by kernel_rfl
theorem Ql6 : Tryz.prog.cellsOf 81=2:=by kernel_rfl
theorem QoD : (Tryz.prog.info? 81).isSome=true:=by kernel_rfl
theorem QfZ : Qy Tryz.prog 84=some true:=by kernel_rfl
theorem YE : Tryz.prog.cellsOf 84=4:=by kernel_rfl
theorem QaT : (Tryz.prog.info? 84).isSome=true:=by kernel_rfl
theorem QiU : Zg Tryz.prog 84=some (.agg #[.int .i64 0, .int .i64 0, .int .i64 0, .string ByteArray.empty]):=by kernel_rfl
theorem QiY : closedV (.agg #[.int .i64 0, .int .i64 0, .int .i64 0, .string ByteArray.empty])=true:=by kernel_rfl
theorem QiX : Qy Tryz.prog 92=some true:=by kernel_rfl
theorem QbD : Tryz.prog.cellsOf 92=2:=by kernel_rfl
theorem Qik : (Tryz.prog.info? 92).isSome=true:=by kernel_rfl
theorem Qmz : Zg Tryz.prog 92=some (.agg #[.string ByteArray.empty, .int .i64 0]):=by kernel_rfl
theorem Qnw : closedV (.agg #[.string ByteArray.empty, .int .i64 0])=true:=by kernel_rfl
theorem Qeb : Qy Tryz.prog 128=some true:=by kernel_rfl
theorem Zq : Tryz.prog.cellsOf 128=4:=by kernel_rfl
theorem Qbw : (Tryz.prog.info? 128).isSome=true:=by kernel_rfl
theorem YA : Zg Tryz.prog 128=some (.agg #[.int .i64 0, .bool false, .int .i64 0, .int .i64 0]):=by kernel_rfl
theorem Qk3 : closedV (.agg #[.int .i64 0, .bool false, .int .i64 0, .int .i64 0])=true:=by kernel_rfl
theorem QmQ : Qy Tryz.prog 142=some true:=by kernel_rfl
theorem QjL : Tryz.prog.cellsOf 142=4:=by kernel_rfl
theorem QmF : (Tryz.prog.info? 142).isSome=true:=by kernel_rfl
theorem Qb9 : Qy Tryz.prog 145=some true:=by kernel_rfl
theorem ZD : Tryz.prog.cellsOf 145=4:=by kernel_rfl
theorem YH : (Tryz.prog.info? 145).isSome=true:=by kernel_rfl
theorem Qfk : Zg Tryz.prog 145=some (.agg #[.int .i64 0, .string ByteArray.empty, .int .i64 0, .int .i64 0]):=by kernel_rfl
theorem QfK : closedV (.agg #[.int .i64 0, .string ByteArray.empty, .int .i64 0, .int .i64 0])=true:=by kernel_rfl
theorem Qlx : Qy Tryz.prog 166=some false:=by kernel_rfl
theorem Qop : Tryz.prog.cellsOf 166=1:=by kernel_rfl
theorem Qn4 : (Tryz.prog.info? 166).isSome=true:=by kernel_rfl
theorem Qok : Zg Tryz.prog 166=some (.slice none 0 0):=by kernel_rfl
theorem Qoj : closedV (.slice none 0 0)=true:=by kernel_rfl
theorem Qh5 : Qy Tryz.prog 169=some false:=by kernel_rfl
theorem Qoz : Tryz.prog.cellsOf 169=1:=by kernel_rfl
theorem Qn1 : (Tryz.prog.info? 169).isSome=true:=by kernel_rfl
theorem QnI (k o:Nat):Qh Tryz.prog 24 (.pointer (some ⟨k,o,none⟩)) 0=some (.pointer (some ⟨k,o+0,none⟩)):=by simp [Qh,Tryz.underlying24,Jc,Zu]
theorem Qnk (k o:Nat):Qh Tryz.prog 24 (.pointer (some ⟨k,o,none⟩)) 1=some (.pointer (some ⟨k,o+1,none⟩)):=by simp [Qh,Tryz.underlying24,Jc,Zu]
theorem QlO (k o:Nat):Qh Tryz.prog 24 (.pointer (some ⟨k,o,none⟩)) 2=some (.pointer (some ⟨k,o+2,none⟩)):=by simp [Qh,Tryz.underlying24,if9,sz9]
theorem QlB (k o:Nat):Qh Tryz.prog 28 (.pointer (some ⟨k,o,none⟩)) 0=some (.pointer (some ⟨k,o+0,none⟩)):=by simp [Qh,Tryz.underlying28,QoP,Qm9]
theorem QlU (k o:Nat):Qh Tryz.prog 28 (.pointer (some ⟨k,o,none⟩)) 1=some (.pointer (some ⟨k,o+3,none⟩)):=by simp [Qh,Tryz.underlying28,QoS,QoR]
theorem QlF (k o:Nat):Qh Tryz.prog 28 (.pointer (some ⟨k,o,none⟩)) 2=some (.pointer (some ⟨k,o+4,none⟩)):=by simp [Qh,Tryz.underlying28,Qkd,Qhj]
theorem QnJ (k o:Nat):Qh Tryz.prog 28 (.pointer (some ⟨k,o,none⟩)) 3=some (.pointer (some ⟨k,o+5,none⟩)):=by simp [Qh,Tryz.underlying28,Jc,Zu]
theorem Qan (k o:Nat):Qh Tryz.prog 36 (.pointer (some ⟨k,o,none⟩)) 0=some (.pointer (some ⟨k,o+0,none⟩)):=by simp [Qh,Tryz.underlying36,Jc,Zu]
theorem Zr (k o:Nat):Qh Tryz.prog 36 (.pointer (some ⟨k,o,none⟩)) 1=some (.pointer (some ⟨k,o+1,none⟩)):=by simp [Qh,Tryz.underlying36,Jc,Zu]
theorem QL (k o:Nat):Qh Tryz.prog 36 (.pointer (some ⟨k,o,none⟩)) 2=some (.pointer (some ⟨k,o+2,none⟩)):=by simp [Qh,Tryz.underlying36,if9,sz9]
theorem Qcq (k o:Nat):Qh Tryz.prog 39 (.pointer (some ⟨k,o,none⟩)) 0=some (.pointer (some ⟨k,o+0,none⟩)):=by simp [Qh,Tryz.underlying39,Qjc,Q6]
theorem Y5 (k o:Nat):Qh Tryz.prog 39 (.pointer (some ⟨k,o,none⟩)) 1=some (.pointer (some ⟨k,o+3,none⟩)):=by simp [Qh,Tryz.underlying39,Qoi,Qoa]
theorem Qa9 (k o:Nat):Qh Tryz.prog 39 (.pointer (some ⟨k,o,none⟩)) 2=some (.pointer (some ⟨k,o+4,none⟩)):=by simp [Qh,Tryz.underlying39,Qkd,Qhj]
theorem Qa3 (k o:Nat):Qh Tryz.prog 39 (.pointer (some ⟨k,o,none⟩)) 3=some (.pointer (some ⟨k,o+5,none⟩)):=by simp [Qh,Tryz.underlying39,Jc,Zu]
theorem QnF (k o:Nat):Qh Tryz.prog 51 (.pointer (some ⟨k,o,none⟩)) 0=some (.pointer (some ⟨k,o+0,none⟩)):=by simp [Qh,Tryz.underlying51,Jc,Zu]
theorem Qlz (k o:Nat):Qh Tryz.prog 51 (.pointer (some ⟨k,o,none⟩)) 1=some (.pointer (some ⟨k,o+1,none⟩)):=by simp [Qh,Tryz.underlying51,Qo4,Qo5]
theorem Qci (k o:Nat):Qh Tryz.prog 64 (.pointer (some ⟨k,o,none⟩)) 0=some (.pointer (some ⟨k,o+0,none⟩)):=by simp [Qh,Tryz.underlying64,Jc,Zu]
theorem Qcz (k o:Nat):Qh Tryz.prog 64 (.pointer (some ⟨k,o,none⟩)) 1=some (.pointer (some ⟨k,o+1,none⟩)):=by simp [Qh,Tryz.underlying64,Qoy,Qn7]
theorem QmS (k o:Nat):Qh Tryz.prog 75 (.pointer (some ⟨k,o,none⟩)) 0=some (.pointer (some ⟨k,o+0,none⟩)):=by simp [Qh,Tryz.underlying75,Jc,Zu]
theorem Qm2 (k o:Nat):Qh Tryz.prog 75 (.pointer (some ⟨k,o,none⟩)) 1=some (.pointer (some ⟨k,o+1,none⟩)):=by simp [Qh,Tryz.underlying75,Jc,Zu]
theorem Qnb (k o:Nat):Qh Tryz.prog 75 (.pointer (some ⟨k,o,none⟩)) 2=some (.pointer (some ⟨k,o+2,none⟩)):=by simp [Qh,Tryz.underlying75,Jc,Zu]
theorem Qlb (k o:Nat):Qh Tryz.prog 75 (.pointer (some ⟨k,o,none⟩)) 3=some (.pointer (some ⟨k,o+3,none⟩)):=by simp [Qh,Tryz.underlying75,if9,sz9]
theorem Qk1 (k o:Nat):Qh Tryz.prog 81 (.pointer (some ⟨k,o,none⟩)) 0=some (.pointer (some ⟨k,o+0,none⟩)):=by simp [Qh,Tryz.underlying81,if9,sz9]
theorem Qny (k o:Nat):Qh Tryz.prog 81 (.pointer (some ⟨k,o,none⟩)) 1=some (.pointer (some ⟨k,o+1,none⟩)):=by simp [Qh,Tryz.underlying81,Jc,Zu]
theorem QcB (k o:Nat):Qh Tryz.prog 84 (.pointer (some ⟨k,o,none⟩)) 0=some (.pointer (some ⟨k,o+0,none⟩)):=by simp [Qh,Tryz.underlying84,Jc,Zu]
theorem Jg (k o:Nat):Qh Tryz.prog 84 (.pointer (some ⟨k,o,none⟩)) 1=some (.pointer (some ⟨k,o+1,none⟩)):=by simp [Qh,Tryz.underlying84,Jc,Zu]
theorem Qa1 (k o:Nat):Qh Tryz.prog 84 (.pointer (some ⟨k,o,none⟩)) 2=some (.pointer (some ⟨k,o+2,none⟩)):=by simp [Qh,Tryz.underlying84,Jc,Zu]
theorem JD (k o:Nat):Qh Tryz.prog 84 (.pointer (some ⟨k,o,none⟩)) 3=some (.pointer (some ⟨k,o+3,none⟩)):=by simp [Qh,Tryz.underlying84,if9,sz9]
theorem QgT (k o:Nat):Qh Tryz.prog 92 (.pointer (some ⟨k,o,none⟩)) 0=some (.pointer (some ⟨k,o+0,none⟩)):=by simp [Qh,Tryz.underlying92,if9,sz9]
theorem Qg4 (k o:Nat):Qh Tryz.prog 92 (.pointer (some ⟨k,o,none⟩)) 1=some (.pointer (some ⟨k,o+1,none⟩)):=by simp [Qh,Tryz.underlying92,Jc,Zu]
theorem Qjx (k o:Nat):Qh Tryz.prog 128 (.pointer (some ⟨k,o,none⟩)) 1=some (.pointer (some ⟨k,o+1,none⟩)):=by simp [Qh,Tryz.underlying128,if4,sz4]
theorem QeT (k o:Nat):Qh Tryz.prog 128 (.pointer (some ⟨k,o,none⟩)) 2=some (.pointer (some ⟨k,o+2,none⟩)):=by simp [Qh,Tryz.underlying128,Jc,Zu]
theorem QaZ (k o:Nat):Qh Tryz.prog 128 (.pointer (some ⟨k,o,none⟩)) 3=some (.pointer (some ⟨k,o+3,none⟩)):=by simp [Qh,Tryz.underlying128,Jc,Zu]
theorem Qmi (k o:Nat):Qh Tryz.prog 142 (.pointer (some ⟨k,o,none⟩)) 0=some (.pointer (some ⟨k,o+0,none⟩)):=by simp [Qh,Tryz.underlying142,Jc,Zu]
theorem QjH (k o:Nat):Qh Tryz.prog 142 (.pointer (some ⟨k,o,none⟩)) 1=some (.pointer (some ⟨k,o+1,none⟩)):=by simp [Qh,Tryz.underlying142,if9,sz9]
theorem Ql0 (k o:Nat):Qh Tryz.prog 142 (.pointer (some ⟨k,o,none⟩)) 2=some (.pointer (some ⟨k,o+2,none⟩)):=by simp [Qh,Tryz.underlying142,Jc,Zu]
theorem Qms (k o:Nat):Qh Tryz.prog 142 (.pointer (some ⟨k,o,none⟩)) 3=some (.pointer (some ⟨k,o+3,none⟩)):=by simp [Qh,Tryz.underlying142,Jc,Zu]
theorem Q7 (k o:Nat):Qh Tryz.prog 145 (.pointer (some ⟨k,o,none⟩)) 0=some (.pointer (some ⟨k,o+0,none⟩)):=by simp [Qh,Tryz.underlying145,Jc,Zu]
theorem Yb (k o:Nat):Qh Tryz.prog 145 (.pointer (some ⟨k,o,none⟩)) 1=some (.pointer (some ⟨k,o+1,none⟩)):=by simp [Qh,Tryz.underlying145,if9,sz9]
theorem Zs (k o:Nat):Qh Tryz.prog 145 (.pointer (some ⟨k,o,none⟩)) 2=some (.pointer (some ⟨k,o+2,none⟩)):=by simp [Qh,Tryz.underlying145,Jc,Zu]
theorem ZQ (k o:Nat):Qh Tryz.prog 145 (.pointer (some ⟨k,o,none⟩)) 3=some (.pointer (some ⟨k,o+3,none⟩)):=by simp [Qh,Tryz.underlying145,Jc,Zu]
theorem QoQ (a b:D.Grid):∃q,eqv Tryz.prog 20 36 (.agg #[Value.int .i64 a.Rows,Value.int .i64 a.Cols,Value.string a.Cells]) (.agg #[Value.int .i64 b.Rows,Value.int .i64 b.Cols,Value.string b.Cells])=some q∧(q=true↔a=b):=by
 refine ⟨_,Qcw 19 Tryz.underlying36 Y (by kernel_rfl) (eqf_cons Y (Zi QQ Y) (Zi QQ Y) (QbU 18 Tryz.underlying3) (eqf_cons Y (Zi QQ Y) (Zi QQ Y) (QbU 18 Tryz.underlying3) (eqf_cons Y (Zi ZH Y) (Zi ZH Y) (Qju 18 Tryz.underlying9) Qg0))),?_⟩
 obtain ⟨a0,a1,a2⟩:=a
 obtain ⟨b0,b1,b2⟩:=b
 simp
theorem Qor (a b:D.Grid) (xo yo:Operand):∃q,ZT Tryz.prog .eql 36 xo yo (.agg #[Value.int .i64 a.Rows,Value.int .i64 a.Cols,Value.string a.Cells]) (.agg #[Value.int .i64 b.Rows,Value.int .i64 b.Cols,Value.string b.Cells])=some (.bool q)∧(q=true↔a=b):=by
 obtain ⟨q,h1,h2⟩:=QoQ a b
 exact ⟨q,Qib (by simp [closedV,closed1]) (by simp [closedV,closed1]) (by kernel_rfl) h1,h2⟩
theorem Qo2 (a b:D.Meaning):∃q,eqv Tryz.prog 20 92 (.agg #[Value.string a.Word,Value.int .i64 a.Sense]) (.agg #[Value.string b.Word,Value.int .i64 b.Sense])=some q∧(q=true↔a=b):=by
 refine ⟨_,Qcw 19 Tryz.underlying92 Y (by kernel_rfl) (eqf_cons Y (Zi ZH Y) (Zi ZH Y) (Qju 18 Tryz.underlying9) (eqf_cons Y (Zi QQ Y) (Zi QQ Y) (QbU 18 Tryz.underlying3) Qg0)),?_⟩
 obtain ⟨a0,a1⟩:=a
 obtain ⟨b0,b1⟩:=b
 simp
theorem Qov (a b:D.Meaning) (xo yo:Operand):∃q,ZT Tryz.prog .eql 92 xo yo (.agg #[Value.string a.Word,Value.int .i64 a.Sense]) (.agg #[Value.string b.Word,Value.int .i64 b.Sense])=some (.bool q)∧(q=true↔a=b):=by
 obtain ⟨q,h1,h2⟩:=Qo2 a b
 exact ⟨q,Qib (by simp [closedV,closed1]) (by simp [closedV,closed1]) (by kernel_rfl) h1,h2⟩
theorem QnZ (a b:D.Slot):∃q,eqv Tryz.prog 20 128 (.agg #[Value.int .i64 a.Number,Value.bool a.Down,Value.int .i64 a.Cell,Value.int .i64 a.Length]) (.agg #[Value.int .i64 b.Number,Value.bool b.Down,Value.int .i64 b.Cell,Value.int .i64 b.Length])=some q∧(q=true↔a=b):=by
 refine ⟨_,Qcw 19 Tryz.underlying128 Y (by kernel_rfl) (eqf_cons Y (Zi QQ Y) (Zi QQ Y) (QbU 18 Tryz.underlying3) (eqf_cons Y (Zi st4 Y) (Zi st4 Y) (QkR 18 Tryz.underlying4) (eqf_cons Y (Zi QQ Y) (Zi QQ Y) (QbU 18 Tryz.underlying3) (eqf_cons Y (Zi QQ Y) (Zi QQ Y) (QbU 18 Tryz.underlying3) Qg0)))),?_⟩
 obtain ⟨a0,a1,a2,a3⟩:=a
 obtain ⟨b0,b1,b2,b3⟩:=b
 simp
theorem Qnm (a b:D.Slot) (xo yo:Operand):∃q,ZT Tryz.prog .neq 128 xo yo (.agg #[Value.int .i64 a.Number,Value.bool a.Down,Value.int .i64 a.Cell,Value.int .i64 a.Length]) (.agg #[Value.int .i64 b.Number,Value.bool b.Down,Value.int .i64 b.Cell,Value.int .i64 b.Length])=some (.bool (!q))∧(q=true↔a=b):=by
 obtain ⟨q,h1,h2⟩:=QnZ a b
 exact ⟨q,QkX (by simp [closedV,closed1]) (by simp [closedV,closed1]) (by kernel_rfl) h1,h2⟩
theorem follows : Tryz.prog.follows .mixedOrders=true:=by kernel_rfl
theorem Qkv : Plain Tryz.prog:=by
 unfold Plain
 kernel_rfl
noncomputable instance : DecidableEq D.Grid:=Classical.typeDecidableEq _
def Qc (m:Bool) (x:D.Grid):List T:= [.int .i64 x.Rows, .int .i64 x.Cols, .str x.Cells]
theorem QE : EncOk Qc 3:=⟨fun _ _=>rfl,fun x=>Qm (.int _ _) (Qm (.int _ _) (Qm (.str _) (Zf))),fun m x=>by simp only [Qc,fzL,AE.fz],fun m x=>Qm Y (Qm Y (Qm Y (Zf))),fun x=>Qm Y (Qm Y (Qm Y (Zf)))⟩
def ZC (x:D.Grid):Nat:=ByteArray.size x.Cells
theorem Qnj : RK QlP Qc:=QgA (Jh QaO (Jh QaO QjA)) (fun _=>rfl)
theorem Qlc (m:Bool) (x:D.Grid):SvL (Qc m x) [Value.int .i64 x.Rows,Value.int .i64 x.Cols,Value.string x.Cells]:= .cons (.int _ _) (.cons (.int _ _) (.cons (.str _) (.nil)))
noncomputable instance : DecidableEq D.Step:=Classical.typeDecidableEq _
def Qf (m:Bool) (x:D.Step):List T:= [.int .i64 x.Kind, .str x.Word, .int .i64 x.A, .int .i64 x.B]
theorem okeStep : EncOk Qf 4:=⟨fun _ _=>rfl,fun x=>Qm (.int _ _) (Qm (.str _) (Qm (.int _ _) (Qm (.int _ _) (Zf)))),fun m x=>by simp only [Qf,fzL,AE.fz],fun m x=>Qm Y (Qm Y (Qm Y (Qm Y (Zf)))),fun x=>Qm Y (Qm Y (Qm Y (Qm Y (Zf))))⟩
def Ze (x:D.Step):Nat:=ByteArray.size x.Word
theorem Qm0 : Qgk Qf:=fun _ _=>rfl
theorem QmZ : RK Qlf Qf:=QgA (Jh QaO (Jh QjA (Jh QaO QaO))) (fun _=>rfl)
noncomputable instance : DecidableEq D.Clue:=Classical.typeDecidableEq _
def Qi (m:Bool) (x:D.Clue):List T:= [.int .i64 x.Sense, .sl m 4 (x.Play.map (Qf m))]
theorem okeClue : EncOk Qi 2:=⟨fun _ _=>rfl,fun x=>Qm (.int _ _) (Qm (.sl _ _ (okeStep.cleanMap _)) (Zf)),fun m x=>by simp only [Qi,fzL,AE.fz,okeStep.fzMap],fun m x=>Qm Y (Qm Y (Zf)),fun x=>Qm Y (Qm Y (Zf))⟩
def QP (x:D.Clue):Nat:=(zL Ze) x.Play
theorem QmT : RK QlJ Qi:=QgA (Jh QaO (Qk9 QmZ okeStep Y)) (fun _=>rfl)
noncomputable instance : DecidableEq D.Puzzle:=Classical.typeDecidableEq _
def Qt (m:Bool) (x:D.Puzzle):List T:= [.int .i64 x.Grid.Rows, .int .i64 x.Grid.Cols, .str x.Grid.Cells, .sl m 2 (x.Clues.map (Qi m)), .sl m 1 (x.Seals.map (Qe m)), .int .i64 x.Salt]
theorem Yj : EncOk Qt 6:=⟨fun _ _=>rfl,fun x=>Qm (.int _ _) (Qm (.int _ _) (Qm (.str _) (Qm (.sl _ _ (okeClue.cleanMap _)) (Qm (.sl _ _ (okInt.cleanMap _)) (Qm (.int _ _) (Zf)))))),fun m x=>by simp only [Qt,fzL,AE.fz,okInt.fzMap,okeClue.fzMap],fun m x=>Qm Y (Qm Y (Qm Y (Qm Y (Qm Y (Qm Y (Zf)))))),fun x=>Qm Y (Qm Y (Qm Y (Qm Y (Qm Y (Qm Y (Zf))))))⟩
def QN (x:D.Puzzle):Nat:=ZC x.Grid+(zL QP) x.Clues+(zL zI) x.Seals
theorem QlQ : RK QjB Qt:=QgA (Jh Qnj (Jh (Qk9 QmT okeClue Y) (Jh (Qk9 QaO okInt Y) QaO))) (fun _=>rfl)
noncomputable instance : DecidableEq D.Report:=Classical.typeDecidableEq _
def Qa (m:Bool) (x:D.Report):List T:= [.int .i64 x.Tester, .int .i64 x.Slot, .int .i64 x.Kind, .str x.Word]
theorem okeReport : EncOk Qa 4:=⟨fun _ _=>rfl,fun x=>Qm (.int _ _) (Qm (.int _ _) (Qm (.int _ _) (Qm (.str _) (Zf)))),fun m x=>by simp only [Qa,fzL,AE.fz],fun m x=>Qm Y (Qm Y (Qm Y (Qm Y (Zf)))),fun x=>Qm Y (Qm Y (Qm Y (Qm Y (Zf))))⟩
def QA (x:D.Report):Nat:=ByteArray.size x.Word
theorem Qlu : Qgk Qa:=fun _ _=>rfl
theorem QlG : RK QjI Qa:=QgA (Jh QaO (Jh QaO (Jh QaO QjA))) (fun _=>rfl)
noncomputable instance : DecidableEq D.Meaning:=Classical.typeDecidableEq _
def Qb (m:Bool) (x:D.Meaning):List T:= [.str x.Word, .int .i64 x.Sense]
theorem okeMeaning : EncOk Qb 2:=⟨fun _ _=>rfl,fun x=>Qm (.str _) (Qm (.int _ _) (Zf)),fun m x=>by simp only [Qb,fzL,AE.fz],fun m x=>Qm Y (Qm Y (Zf)),fun x=>Qm Y (Qm Y (Zf))⟩
def Zt (x:D.Meaning):Nat:=ByteArray.size x.Word
theorem Qkk : Qgk Qb:=fun _ _=>rfl
theorem Qj2 : RK Qiy Qb:=QgA (Jh QjA QaO) (fun _=>rfl)
theorem QgG (m:Bool) (x:D.Meaning):SvL (Qb m x) [Value.string x.Word,Value.int .i64 x.Sense]:= .cons (.str _) (.cons (.int _ _) (.nil))
noncomputable instance : DecidableEq D.Slot:=Classical.typeDecidableEq _
def Qj (m:Bool) (x:D.Slot):List T:= [.int .i64 x.Number, .bool x.Down, .int .i64 x.Cell, .int .i64 x.Length]
theorem okeSlot : EncOk Qj 4:=⟨fun _ _=>rfl,fun x=>Qm (.int _ _) (Qm (.bool _) (Qm (.int _ _) (Qm (.int _ _) (Zf)))),fun m x=>by simp only [Qj,fzL,AE.fz],fun m x=>Qm Y (Qm Y (Qm Y (Qm Y (Zf)))),fun x=>Qm Y (Qm Y (Qm Y (Qm Y (Zf))))⟩
theorem Qk0 (m:Bool) (x:D.Slot):SvL (Qj m x) [Value.int .i64 x.Number,Value.bool x.Down,Value.int .i64 x.Cell,Value.int .i64 x.Length]:= .cons (.int _ _) (.cons (.bool _) (.cons (.int _ _) (.cons (.int _ _) (.nil))))
theorem B.eql36 {call:QS} {E:Q4} {d:Option Tmp} {ty xt:TypeId} {ps:String} {af:Array Edge} {g:Option (Nat×Bool)} {x y:Operand} {a b:D.Grid} {m m':Bool} (hx:VEv E x (.agg (Qc m a))) (hy:VEv E y (.agg (Qc m' b))):OF call Tryz.prog E ⟨d, .binOp .eql 36 x y xt,ty,ps,af,g⟩ (.bool (decide (a=b))):=by
 obtain ⟨q,h1,h2⟩:=Qor a b x y
 have h3:q=decide (a=b):=by
  by_cases h:a=b
  ·rw [h2.2 h,decide_eq_true h]
  ·rw [decide_eq_false h]
   cases q
   ·rfl
   ·exact absurd (h2.1 Y) h
 exact h3▸OF.binA hx hy (Qlc _ a) (Qlc _ b) h1 (.bool _)
theorem B.eql92 {call:QS} {E:Q4} {d:Option Tmp} {ty xt:TypeId} {ps:String} {af:Array Edge} {g:Option (Nat×Bool)} {x y:Operand} {a b:D.Meaning} {m m':Bool} (hx:VEv E x (.agg (Qb m a))) (hy:VEv E y (.agg (Qb m' b))):OF call Tryz.prog E ⟨d, .binOp .eql 92 x y xt,ty,ps,af,g⟩ (.bool (decide (a=b))):=by
 obtain ⟨q,h1,h2⟩:=Qov a b x y
 have h3:q=decide (a=b):=by
  by_cases h:a=b
  ·rw [h2.2 h,decide_eq_true h]
  ·rw [decide_eq_false h]
   cases q
   ·rfl
   ·exact absurd (h2.1 Y) h
 exact h3▸OF.binA hx hy (QgG _ a) (QgG _ b) h1 (.bool _)
theorem B.neq128 {call:QS} {E:Q4} {d:Option Tmp} {ty xt:TypeId} {ps:String} {af:Array Edge} {g:Option (Nat×Bool)} {x y:Operand} {a b:D.Slot} {m m':Bool} (hx:VEv E x (.agg (Qj m a))) (hy:VEv E y (.agg (Qj m' b))):OF call Tryz.prog E ⟨d, .binOp .neq 128 x y xt,ty,ps,af,g⟩ (.bool (!decide (a=b))):=by
 obtain ⟨q,h1,h2⟩:=Qnm a b x y
 have h3:q=decide (a=b):=by
  by_cases h:a=b
  ·rw [h2.2 h,decide_eq_true h]
  ·rw [decide_eq_false h]
   cases q
   ·rfl
   ·exact absurd (h2.1 Y) h
 exact h3▸OF.binA hx hy (Qk0 _ a) (Qk0 _ b) h1 (.bool _)
theorem U3 : Tryz.prog.underlying 3=some (.int .i64):=Tryz.underlying3
theorem U4 : Tryz.prog.underlying 4=some .bool:=Tryz.underlying4
theorem U5 : Tryz.prog.underlying 5=some (.int .u8):=Tryz.underlying5
theorem U9 : Tryz.prog.underlying 9=some .string:=Tryz.underlying9
theorem U21 : Tryz.prog.underlying 21=some (.int .i32):=Tryz.underlying21
theorem U22 : Tryz.prog.underlying 22=some (.slice 75):=Tryz.underlying22
theorem U25 : Tryz.prog.underlying 25=some (.slice 51):=Tryz.underlying25
theorem ZE : Tryz.prog.underlying 26=some (.slice 3):=Tryz.underlying26
theorem U29 : Tryz.prog.underlying 29=some (.slice 81):=Tryz.underlying29
theorem U34 : Tryz.prog.underlying 34=some (.slice 84):=Tryz.underlying34
theorem U37 : Tryz.prog.underlying 37=some (.slice 64):=Tryz.underlying37
theorem U41 : Tryz.prog.underlying 41=some (.slice 92):=Tryz.underlying41
theorem U49 : Tryz.prog.underlying 49=some (.slice 142):=Tryz.underlying49
theorem U54 : Tryz.prog.underlying 54=some (.slice 9):=Tryz.underlying54
theorem U62 : Tryz.prog.underlying 62=some (.slice 145):=Tryz.underlying62
theorem Yl : Tryz.prog.underlying 110=some (.slice 128):=Tryz.underlying110
theorem Qko : Tryz.prog.underlying 118=some (.map 3 3):=Tryz.underlying118
theorem Qg7 : Tryz.prog.underlying 150=some (.slice 26):=Tryz.underlying150
theorem Qb4 : Tryz.prog.underlying 165=some (.slice 5):=Tryz.underlying165
theorem Jo : Tryz.prog.underlying 166=some (.slice 4):=Tryz.underlying166
theorem Qo0 : Tryz.prog.underlying 173=some (.int .u64):=Tryz.underlying173
theorem QoY : Tryz.prog.underlying 186=some (.int .u64):=Tryz.underlying186
set_option maxRecDepth 20000
set_option maxHeartbeats 2000000
theorem Qf2 (n:Nat) (a:List Int) (left:Int) (h0:0≤left) (h1:left≤(mx:Int)) (hg:a.length≤maxLen):Pure (Qq Tryz.prog (n+1)) 30 [(rd 1 Qe a),(tI left)] (tI (Zl (zL zI a) left)):=by
 refine Pure.intro (rs:= [ResultVar.tmp 4]) Tryz.func30 Y Y Y (E0:= [(0,(rd 1 Qe a)),(1,(tI left))]) Y ?_
 obtain ⟨hlim,hmx,hmax⟩:=QC
 refine sr (fO (OF.assign (VEv.int .i64 0)) (nt (sr (mO (tI left) Y (mO (rd 1 Qe a) Y (lO (B.lenR (m:=a.length) (tv (rd 1 Qe a) Y) ZE (List.length_map ..)) (fO (B.sub (n:=(left - ((a.length:Nat):Int))) (tv (tI left) Y) (tv (tN a.length) Y) (by first | rfl | (rw [Qs (by omega)];omega) | (rw [Qs (by omega)];done))) (aO (tI (left - ((a.length:Nat):Int))) Y (nt (sq (sr ?_)))))))))))
 refine mO (tI (left - ((a.length:Nat):Int))) Y (fO (xls (tv (tI (left - ((a.length:Nat):Int))) Y) (VEv.int .i64 0)) (nt ?_))
 refine cd ((left - ((a.length:Nat):Int))<0) Y (fun fhc0=> ?_) fun fhc0=> ?_
 ·refine sr ?_
  refine fO (OF.assign (VEv.int .i64 (-1))) (nt (rt (tr (vi (n':=(-1)) Y ?_))))
  exact SzI.early fhc0
 refine sk (tn (sr (mO (tI (left - ((a.length:Nat):Int))) Y (aO (tI (left - ((a.length:Nat):Int))) Y (nt (rt (vi (n':=(left - ((a.length:Nat):Int))) Y ?_)))))))
 rw [Qme (z:=zI) (fun _=>rfl)];exact Qbu fhc0
theorem Qge (n:Nat) (a:D.Grid) (left:Int) (h0:0≤left) (h1:left≤(mx:Int)) (hg:Qln a):Pure (Qq Tryz.prog (n+1)) 28 [(T.agg (Qc false a)),(tI left)] (tI (Zl (ZC a) left)):=by
 refine Pure.intro (rs:= [ResultVar.tmp 4]) Tryz.func28 Y Y Y (E0:= [(0,(T.agg (Qc false a))),(1,(tI left))]) Y ?_
 obtain ⟨hlim,hmx,hmax⟩:=QC
 obtain ⟨hg0,hg1,hg2⟩:=hg
 refine sr (kO (B.box (ts:=(Qc false a)) (tv (T.agg (Qc false a)) Y) nofun Y) (fO (OF.assign (VEv.int .i64 0)) (nt (sr (mO (tI left) Y (lf (tS a.Cells) Y QlO Y Y ZH (lO (B.lenS (tv (tS a.Cells) Y) U9) (fO (B.sub (n:=(left - ((a.Cells.size:Nat):Int))) (tv (tI left) Y) (tv (tN a.Cells.size) Y) (by (rw [Qs (by omega)];done))) (aO (tI (left - ((a.Cells.size:Nat):Int))) Y (nt (sq ?_)))))))))))
 refine sr (mO (tI (left - ((a.Cells.size:Nat):Int))) Y (fO (xls (tv (tI (left - ((a.Cells.size:Nat):Int))) Y) (VEv.int .i64 0)) (nt ?_)))
 refine cd ((left - ((a.Cells.size:Nat):Int))<0) Y (fun fhc0=> ?_) fun fhc0=> ?_
 ·refine sr ?_
  refine fO (OF.assign (VEv.int .i64 (-1))) (nt (rt (tr (vi (n':=(-1)) Y ?_))))
  exact Js (by simp only [ZC];omega)
 refine sk (tn (sr (mO (tI (left - ((a.Cells.size:Nat):Int))) Y (aO (tI (left - ((a.Cells.size:Nat):Int))) Y (nt (rt (vi (n':=(left - ((a.Cells.size:Nat):Int))) Y ?_)))))))
 rw [← Qbu (z:=ZC a) (l:=left) (by simp only [ZC];omega)]
 all_goals rfl
theorem QfT (n:Nat) (a:D.Step) (left:Int) (h0:0≤left) (h1:left≤(mx:Int)) (hg:Qjp a):Pure (Qq Tryz.prog (n+1)) 120 [(T.agg (Qf false a)),(tI left)] (tI (Zl (Ze a) left)):=by
 refine Pure.intro (rs:= [ResultVar.tmp 4]) Tryz.func120 Y Y Y (E0:= [(0,(T.agg (Qf false a))),(1,(tI left))]) Y ?_
 obtain ⟨hlim,hmx,hmax⟩:=QC
 obtain ⟨hg0,hg1,hg2,hg3⟩:=hg
 refine sr (kO (B.box (ts:=(Qf false a)) (tv (T.agg (Qf false a)) Y) nofun Y) (fO (OF.assign (VEv.int .i64 0)) (nt (sr (mO (tI left) Y (lf (tS a.Word) Y QjH Y Y ZH (lO (B.lenS (tv (tS a.Word) Y) U9) (fO (B.sub (n:=(left - ((a.Word.size:Nat):Int))) (tv (tI left) Y) (tv (tN a.Word.size) Y) (by (rw [Qs (by omega)];done))) (aO (tI (left - ((a.Word.size:Nat):Int))) Y (nt (sq ?_)))))))))))
 refine sr (mO (tI (left - ((a.Word.size:Nat):Int))) Y (fO (xls (tv (tI (left - ((a.Word.size:Nat):Int))) Y) (VEv.int .i64 0)) (nt ?_)))
 refine cd ((left - ((a.Word.size:Nat):Int))<0) Y (fun fhc0=> ?_) fun fhc0=> ?_
 ·refine sr ?_
  refine fO (OF.assign (VEv.int .i64 (-1))) (nt (rt (tr (vi (n':=(-1)) Y ?_))))
  exact Js (by simp only [Ze];omega)
 refine sk (tn (sr (mO (tI (left - ((a.Word.size:Nat):Int))) Y (aO (tI (left - ((a.Word.size:Nat):Int))) Y (nt (rt (vi (n':=(left - ((a.Word.size:Nat):Int))) Y ?_)))))))
 rw [← Qbu (z:=Ze a) (l:=left) (by simp only [Ze];omega)]
 all_goals rfl
theorem Qfd (n:Nat) (a:List D.Step) (left:Int) (h0:0≤left) (h1:left≤(mx:Int)) (hg:a.length≤maxLen∧∀x∈a,Qjp x):Pure (Qq Tryz.prog (n+2)) 82 [(rd 4 Qf a),(tI left)] (tI (Zl (zL Ze a) left)):=by
 refine Pure.intro (rs:= [ResultVar.tmp 4]) Tryz.func82 Y Y Y (E0:= [(0,(rd 4 Qf a)),(1,(tI left))]) Y ?_
 obtain ⟨hlim,hmx,hmax⟩:=QC
 obtain ⟨hg1,hg2⟩:=hg
 refine sr (fO (OF.assign (VEv.int .i64 0)) (nt (sr (mO (tI left) Y (mO (rd 4 Qf a) Y (lO (B.lenR (m:=a.length) (tv (rd 4 Qf a) Y) U49 (List.length_map ..)) (fO (B.sub (n:=(left - ((a.length:Nat):Int))) (tv (tI left) Y) (tv (tN a.length) Y) (by (rw [Qs (by omega)];done))) (aO (tI (left - ((a.length:Nat):Int))) Y (nt (sq (sr ?_)))))))))))
 refine mO (tI (left - ((a.length:Nat):Int))) Y (fO (xls (tv (tI (left - ((a.length:Nat):Int))) Y) (VEv.int .i64 0)) (nt ?_))
 refine cd ((left - ((a.length:Nat):Int))<0) Y (fun fhc0=> ?_) fun fhc0=> ?_
 ·refine sr ?_
  refine fO (OF.assign (VEv.int .i64 (-1))) (nt (rt (tr (vi (n':=(-1)) Y ?_))))
  exact SzI.early fhc0
 refine sk (tn (sq (sr (fO (OF.assign (VEv.int .i64 0)) (nt (VRun.block ?_))))))
 refine VRun.loop (A:=Nat×Int) (fun s_=> [(0,(rd 4 Qf a)),(1,(tI s_.2)),(5,(tN s_.1))]) (fun s_=>QU []) 0 (fun s_=>SzI Ze a left s_.1 s_.2) (fun s_=>a.length - s_.1) ((0,left - (a.length:Int)):Nat×Int) ?_ (Wk.mk (fun k=>k) ?_ ?_ ?_) ?_
 ·exact SzI.start h1 fhc0
 ·exact (b2 (bc ⟨(congrArg (T.int .i64) (show (left - ((a.length:Nat):Int))=(left - (a.length:Int)) from (by rfl))),rfl⟩ (b2 bn)))
 ·exact bn
 ·exact nd Y
 rintro ⟨i,r⟩ (hI':SzI Ze a left i r)
 show VRun _ _ _ [(0,(rd 4 Qf a)),(1,(tI r)),(5,(tN i))] (QU []) 0 _
 have hI2:=hI'.1
 have hI3:=hI'.2.1
 have hI4:=hI'.2.2.1
 refine sq (sr (mO (tN i) Y (mO (rd 4 Qf a) Y (lO (B.lenR (m:=a.length) (tv (rd 4 Qf a) Y) U49 (List.length_map ..)) (fO (Q2 (tv (tN i) Y) (tv (tN a.length) Y)) (nt ?_))))))
 refine cd (i<a.length) Y (fun fhc1=> ?_) fun fhc1=> ?_
 ·refine sk ?_
  refine tn (sq (VRun.block (sr (mO (rd 4 Qf a) Y (mO (tN i) Y ?_)))))
  obtain ⟨x1,hx1⟩:∃x,a[i]? =some x:=⟨_,List.getElem?_eq_getElem (by omega)⟩
  refine fO (OF.indexAddrR (row:=(Qf false x1)) (i:=i) (tv (rd 4 Qf a) Y) (tv (tN i) Y) Y (Qu _ hx1) U49 QjL QmF) (lO (OL.loadRn (us:=(Qf false x1)) (tv (T.rp (Qf false x1)) Y) QmQ QjL (lb Y) Y) (mO (tI r) Y (cO (cS (vc (tv (T.agg (Qf false x1)) Y) (vc (tv (tI r) Y) vn)) (LendL.cons (lg okeStep) (lp Y ln)) (QfT (n+0) x1 r (by assumption) (by assumption) (by exact hg2 _ (List.mem_of_getElem? hx1))) Y Y) (aO (tI (Zl (Ze x1) r)) Y (nt (sr (mO (tI (Zl (Ze x1) r)) Y (fO (xls (tv (tI (Zl (Ze x1) r)) Y) (VEv.int .i64 0)) (nt ?_)))))))))
  refine cd (Zl (Ze x1) r<0) Y (fun fhc2=> ?_) fun fhc2=> ?_
  ·refine sr ?_
   refine fO (OF.assign (VEv.int .i64 (-1))) (nt (rt (vinB.r (tr (tr (vinB.r (tr (vi (n':=(-1)) Y ?_))))))))
   exact hI'.bad hx1 fhc2
  refine sk (vinB.n (tn (VRun.region (mO (tN i) Y (fO (Qx (tv (tN i) Y) (VEv.int .i64 1) (by omega)) (aO (tN (i+1)) Y (VRunO.nil (tn ?_))))))))
  refine ⟨((i+1,Zl (Ze x1) r):Nat×Int),?_,?_,Wk.mk (fun k=>k) ?_ ?_ ?_⟩
  ·exact hI'.next hx1 fhc2
  ·omega
  ·exact (b2 (b2 (b2 bn)))
  ·exact bn
  ·exact nd Y
 refine VRun.exit (vthn.e (vthn.e (vinB.e (tn (sr (mO (tI r) Y (aO (tI r) Y (nt (rt (vi (n':=r) Y ?_))))))))))
 exact hI'.done fhc1
theorem Qf9 (n:Nat) (a:D.Clue) (left:Int) (h0:0≤left) (h1:left≤(mx:Int)) (hg:QjQ a):Pure (Qq Tryz.prog (n+3)) 53 [(T.agg (Qi false a)),(tI left)] (tI (Zl (QP a) left)):=by
 refine Pure.intro (rs:= [ResultVar.tmp 4]) Tryz.func53 Y Y Y (E0:= [(0,(T.agg (Qi false a))),(1,(tI left))]) Y ?_
 obtain ⟨hlim,hmx,hmax⟩:=QC
 obtain ⟨hg0,hg1⟩:=hg
 refine sr (kO (B.box (ts:=(Qi false a)) (tv (T.agg (Qi false a)) Y) nofun Y) (fO (OF.assign (VEv.int .i64 0)) (nt (sr (lf (rd 4 Qf a.Play) Y Qlz Y Y Qof (mO (tI left) Y (cO (cS (vc (tv (rd 4 Qf a.Play) Y) (vc (tv (tI left) Y) vn)) (Q8 Y) (Qfd (n+0) a.Play left (by assumption) (by assumption) (by assumption)) Y Y) (aO (tI (Zl (zL Ze a.Play) left)) Y (nt (sq (sr ?_)))))))))))
 refine mO (tI (Zl (zL Ze a.Play) left)) Y (fO (xls (tv (tI (Zl (zL Ze a.Play) left)) Y) (VEv.int .i64 0)) (nt ?_))
 refine cd (Zl (zL Ze a.Play) left<0) Y (fun fhc0=> ?_) fun fhc0=> ?_
 ·refine sr ?_
  refine fO (OF.assign (VEv.int .i64 (-1))) (nt (rt (tr (vi (n':=(-1)) Y ?_))))
  exact Js (by have hlt:=Qfi fhc0;simp only [QP];omega)
 have hq0:=YL fhc0
 refine sk (tn (sr (mO (tI (Zl (zL Ze a.Play) left)) Y (aO (tI (Zl (zL Ze a.Play) left)) Y (nt (rt (vi (n':=Zl (zL Ze a.Play) left) Y ?_)))))))
 rw [← Qbu (z:=QP a) (l:=left) (by simp only [QP];omega)]
 all_goals (simp only [QP];omega)
theorem QfG (n:Nat) (a:List D.Clue) (left:Int) (h0:0≤left) (h1:left≤(mx:Int)) (hg:a.length≤maxLen∧∀x∈a,QjQ x):Pure (Qq Tryz.prog (n+4)) 29 [(rd 2 Qi a),(tI left)] (tI (Zl (zL QP a) left)):=by
 refine Pure.intro (rs:= [ResultVar.tmp 4]) Tryz.func29 Y Y Y (E0:= [(0,(rd 2 Qi a)),(1,(tI left))]) Y ?_
 obtain ⟨hlim,hmx,hmax⟩:=QC
 obtain ⟨hg1,hg2⟩:=hg
 refine sr (fO (OF.assign (VEv.int .i64 0)) (nt (sr (mO (tI left) Y (mO (rd 2 Qi a) Y (lO (B.lenR (m:=a.length) (tv (rd 2 Qi a) Y) U25 (List.length_map ..)) (fO (B.sub (n:=(left - ((a.length:Nat):Int))) (tv (tI left) Y) (tv (tN a.length) Y) (by (rw [Qs (by omega)];done))) (aO (tI (left - ((a.length:Nat):Int))) Y (nt (sq (sr ?_)))))))))))
 refine mO (tI (left - ((a.length:Nat):Int))) Y (fO (xls (tv (tI (left - ((a.length:Nat):Int))) Y) (VEv.int .i64 0)) (nt ?_))
 refine cd ((left - ((a.length:Nat):Int))<0) Y (fun fhc0=> ?_) fun fhc0=> ?_
 ·refine sr ?_
  refine fO (OF.assign (VEv.int .i64 (-1))) (nt (rt (tr (vi (n':=(-1)) Y ?_))))
  exact SzI.early fhc0
 refine sk (tn (sq (sr (fO (OF.assign (VEv.int .i64 0)) (nt (VRun.block ?_))))))
 refine VRun.loop (A:=Nat×Int) (fun s_=> [(0,(rd 2 Qi a)),(1,(tI s_.2)),(5,(tN s_.1))]) (fun s_=>QU []) 0 (fun s_=>SzI QP a left s_.1 s_.2) (fun s_=>a.length - s_.1) ((0,left - (a.length:Int)):Nat×Int) ?_ (Wk.mk (fun k=>k) ?_ ?_ ?_) ?_
 ·exact SzI.start h1 fhc0
 ·exact (b2 (bc ⟨(congrArg (T.int .i64) (show (left - ((a.length:Nat):Int))=(left - (a.length:Int)) from (by rfl))),rfl⟩ (b2 bn)))
 ·exact bn
 ·exact nd Y
 rintro ⟨i,r⟩ (hI':SzI QP a left i r)
 show VRun _ _ _ [(0,(rd 2 Qi a)),(1,(tI r)),(5,(tN i))] (QU []) 0 _
 have hI2:=hI'.1
 have hI3:=hI'.2.1
 have hI4:=hI'.2.2.1
 refine sq (sr (mO (tN i) Y (mO (rd 2 Qi a) Y (lO (B.lenR (m:=a.length) (tv (rd 2 Qi a) Y) U25 (List.length_map ..)) (fO (Q2 (tv (tN i) Y) (tv (tN a.length) Y)) (nt ?_))))))
 refine cd (i<a.length) Y (fun fhc1=> ?_) fun fhc1=> ?_
 ·refine sk ?_
  refine tn (sq (VRun.block (sr (mO (rd 2 Qi a) Y (mO (tN i) Y ?_)))))
  obtain ⟨x1,hx1⟩:∃x,a[i]? =some x:=⟨_,List.getElem?_eq_getElem (by omega)⟩
  refine fO (OF.indexAddrR (row:=(Qi false x1)) (i:=i) (tv (rd 2 Qi a) Y) (tv (tN i) Y) Y (Qu _ hx1) U25 Qmv Qol) (lO (OL.loadRn (us:=(Qi false x1)) (tv (T.rp (Qi false x1)) Y) Qoh Qmv (lb Y) Y) (mO (tI r) Y (cO (cS (vc (tv (T.agg (Qi false x1)) Y) (vc (tv (tI r) Y) vn)) (LendL.cons (lg okeClue) (lp Y ln)) (Qf9 (n+0) x1 r (by assumption) (by assumption) (by exact hg2 _ (List.mem_of_getElem? hx1))) Y Y) (aO (tI (Zl (QP x1) r)) Y (nt (sr (mO (tI (Zl (QP x1) r)) Y (fO (xls (tv (tI (Zl (QP x1) r)) Y) (VEv.int .i64 0)) (nt ?_)))))))))
  refine cd (Zl (QP x1) r<0) Y (fun fhc2=> ?_) fun fhc2=> ?_
  ·refine sr ?_
   refine fO (OF.assign (VEv.int .i64 (-1))) (nt (rt (vinB.r (tr (tr (vinB.r (tr (vi (n':=(-1)) Y ?_))))))))
   exact hI'.bad hx1 fhc2
  refine sk (vinB.n (tn (VRun.region (mO (tN i) Y (fO (Qx (tv (tN i) Y) (VEv.int .i64 1) (by omega)) (aO (tN (i+1)) Y (VRunO.nil (tn ?_))))))))
  refine ⟨((i+1,Zl (QP x1) r):Nat×Int),?_,?_,Wk.mk (fun k=>k) ?_ ?_ ?_⟩
  ·exact hI'.next hx1 fhc2
  ·omega
  ·exact (b2 (b2 (b2 bn)))
  ·exact bn
  ·exact nd Y
 refine VRun.exit (vthn.e (vthn.e (vinB.e (tn (sr (mO (tI r) Y (aO (tI r) Y (nt (rt (vi (n':=r) Y ?_))))))))))
 exact hI'.done fhc1
theorem QdP (n:Nat) (a:D.Meaning) (left:Int) (h0:0≤left) (h1:left≤(mx:Int)) (hg:QcX a):Pure (Qq Tryz.prog (n+1)) 31 [(T.agg (Qb false a)),(tI left)] (tI (Zl (Zt a) left)):=by
 refine Pure.intro (rs:= [ResultVar.tmp 4]) Tryz.func31 Y Y Y (E0:= [(0,(T.agg (Qb false a))),(1,(tI left))]) Y ?_
 obtain ⟨hlim,hmx,hmax⟩:=QC
 obtain ⟨hg0,hg1⟩:=hg
 refine sr (kO (B.box (ts:=(Qb false a)) (tv (T.agg (Qb false a)) Y) nofun Y) (fO (OF.assign (VEv.int .i64 0)) (nt (sr (mO (tI left) Y (lf (tS a.Word) Y Qk1 Y Y ZH (lO (B.lenS (tv (tS a.Word) Y) U9) (fO (B.sub (n:=(left - ((a.Word.size:Nat):Int))) (tv (tI left) Y) (tv (tN a.Word.size) Y) (by first | rfl | (rw [Qs (by omega)];omega) | (rw [Qs (by omega)];done))) (aO (tI (left - ((a.Word.size:Nat):Int))) Y (nt (sq ?_)))))))))))
 refine sr (mO (tI (left - ((a.Word.size:Nat):Int))) Y (fO (xls (tv (tI (left - ((a.Word.size:Nat):Int))) Y) (VEv.int .i64 0)) (nt ?_)))
 refine cd ((left - ((a.Word.size:Nat):Int))<0) Y (fun fhc0=> ?_) fun fhc0=> ?_
 ·refine sr ?_
  refine fO (OF.assign (VEv.int .i64 (-1))) (nt (rt (tr (vi (n':=(-1)) Y ?_))))
  exact Js (by simp only [Zt];omega)
 refine sk (tn (sr (mO (tI (left - ((a.Word.size:Nat):Int))) Y (aO (tI (left - ((a.Word.size:Nat):Int))) Y (nt (rt (vi (n':=(left - ((a.Word.size:Nat):Int))) Y ?_)))))))
 rw [← Qbu (z:=Zt a) (l:=left) (by simp only [Zt];omega)]
 all_goals first | rfl | (simp only [Zt];done) | (simp only [Zt];omega)
theorem QcK (n:Nat) (a:List D.Meaning) (left:Int) (h0:0≤left) (h1:left≤(mx:Int)) (hg:a.length≤maxLen∧∀x∈a,QcX x):Pure (Qq Tryz.prog (n+2)) 7 [(rd 2 Qb a),(tI left)] (tI (Zl (zL Zt a) left)):=by
 refine Pure.intro (rs:= [ResultVar.tmp 4]) Tryz.func7 Y Y Y (E0:= [(0,(rd 2 Qb a)),(1,(tI left))]) Y ?_
 obtain ⟨hlim,hmx,hmax⟩:=QC
 obtain ⟨hg1,hg2⟩:=hg
 refine sr (fO (OF.assign (VEv.int .i64 0)) (nt (sr (mO (tI left) Y (mO (rd 2 Qb a) Y (lO (B.lenR (m:=a.length) (tv (rd 2 Qb a) Y) U29 (List.length_map ..)) (fO (B.sub (n:=(left - ((a.length:Nat):Int))) (tv (tI left) Y) (tv (tN a.length) Y) (by first | exact hg2 _ (List.mem_of_getElem? hx1) | rfl | (rw [Qs (by omega)];omega) | (rw [Qs (by omega)];done))) (aO (tI (left - ((a.length:Nat):Int))) Y (nt (sq (sr ?_)))))))))))
 refine mO (tI (left - ((a.length:Nat):Int))) Y (fO (xls (tv (tI (left - ((a.length:Nat):Int))) Y) (VEv.int .i64 0)) (nt ?_))
 refine cd ((left - ((a.length:Nat):Int))<0) Y (fun fhc0=> ?_) fun fhc0=> ?_
 ·refine sr ?_
  refine fO (OF.assign (VEv.int .i64 (-1))) (nt (rt (tr (vi (n':=(-1)) Y ?_))))
  exact SzI.early fhc0
 refine sk (tn (sq (sr (fO (OF.assign (VEv.int .i64 0)) (nt (VRun.block ?_))))))
 refine VRun.loop (A:=Nat×Int) (fun s_=> [(0,(rd 2 Qb a)),(1,(tI s_.2)),(5,(tN s_.1))]) (fun s_=>QU []) 0 (fun s_=>SzI Zt a left s_.1 s_.2) (fun s_=>a.length - s_.1) ((0,left - (a.length:Int)):Nat×Int) ?_ (Wk.mk (fun k=>k) ?_ ?_ ?_) ?_
 ·exact SzI.start h1 fhc0
 ·exact (b2 (bc ⟨(congrArg (T.int .i64) (show (left - ((a.length:Nat):Int))=(left - (a.length:Int)) from (by first | rfl | omega | (simp;done) | (push_cast;omega)))),rfl⟩ (b2 bn)))
 ·exact bn
 ·exact nd Y
 rintro ⟨i,r⟩ (hI':SzI Zt a left i r)
 show VRun _ _ _ [(0,(rd 2 Qb a)),(1,(tI r)),(5,(tN i))] (QU []) 0 _
 have hI2:=hI'.1
 have hI3:=hI'.2.1
 have hI4:=hI'.2.2.1
 refine sq (sr (mO (tN i) Y (mO (rd 2 Qb a) Y (lO (B.lenR (m:=a.length) (tv (rd 2 Qb a) Y) U29 (List.length_map ..)) (fO (Q2 (tv (tN i) Y) (tv (tN a.length) Y)) (nt ?_))))))
 refine cd (i<a.length) Y (fun fhc1=> ?_) fun fhc1=> ?_
 ·refine sk ?_
  refine tn (sq (VRun.block (sr (mO (rd 2 Qb a) Y (mO (tN i) Y ?_)))))
  obtain ⟨x1,hx1⟩:∃x,a[i]? =some x:=⟨_,List.getElem?_eq_getElem (by first | exact hg2 _ (List.mem_of_getElem? hx1) | omega)⟩
  refine fO (OF.indexAddrR (row:=(Qb false x1)) (i:=i) (tv (rd 2 Qb a) Y) (tv (tN i) Y) Y (Qu _ hx1) U29 Ql6 QoD) (lO (OL.loadRn (us:=(Qb false x1)) (tv (T.rp (Qb false x1)) Y) Qoc Ql6 (lb Y) Y) (mO (tI r) Y (cO (cS (vc (tv (T.agg (Qb false x1)) Y) (vc (tv (tI r) Y) vn)) (LendL.cons (lg okeMeaning) (lp Y ln)) (QdP (n+0) x1 r (by first | exact hg2 _ (List.mem_of_getElem? hx1) | assumption | omega) (by first | exact hg2 _ (List.mem_of_getElem? hx1) | assumption | omega) (by first | exact hg2 _ (List.mem_of_getElem? hx1) | assumption | omega)) Y Y) (aO (tI (Zl (Zt x1) r)) Y (nt (sr (mO (tI (Zl (Zt x1) r)) Y (fO (xls (tv (tI (Zl (Zt x1) r)) Y) (VEv.int .i64 0)) (nt ?_)))))))))
  refine cd (Zl (Zt x1) r<0) Y (fun fhc2=> ?_) fun fhc2=> ?_
  ·refine sr ?_
   refine fO (OF.assign (VEv.int .i64 (-1))) (nt (rt (vinB.r (tr (tr (vinB.r (tr (vi (n':=(-1)) Y ?_))))))))
   exact hI'.bad hx1 fhc2
  refine sk (vinB.n (tn (VRun.region (mO (tN i) Y (fO (Qx (tv (tN i) Y) (VEv.int .i64 1) (by first | exact hg2 _ (List.mem_of_getElem? hx1) | omega)) (aO (tN (i+1)) Y (VRunO.nil (tn ?_))))))))
  refine ⟨((i+1,Zl (Zt x1) r):Nat×Int),?_,?_,Wk.mk (fun k=>k) ?_ ?_ ?_⟩
  ·exact hI'.next hx1 fhc2
  ·first | omega | (simp only [];omega) | (show _<_;omega) | (simp;omega)
  ·exact (b2 (b2 (b2 bn)))
  ·exact bn
  ·exact nd Y
 refine VRun.exit (vthn.e (vthn.e (vinB.e (tn (sr (mO (tI r) Y (aO (tI r) Y (nt (rt (vi (n':=r) Y ?_))))))))))
 exact hI'.done fhc1
theorem Qep (n:Nat) (a:D.Puzzle) (left:Int) (h0:0≤left) (h1:left≤(mx:Int)) (hg:Qg6 a):Pure (Qq Tryz.prog (n+5)) 6 [(T.agg (Qt false a)),(tI left)] (tI (Zl (QN a) left)):=by
 refine Pure.intro (rs:= [ResultVar.tmp 4]) Tryz.func6 Y Y Y (E0:= [(0,(T.agg (Qt false a))),(1,(tI left))]) Y ?_
 obtain ⟨hlim,hmx,hmax⟩:=QC
 obtain ⟨hg0,hg1,hg2,hg3⟩:=hg
 refine sr (kO (B.box (ts:=(Qt false a)) (tv (T.agg (Qt false a)) Y) nofun Y) (fO (OF.assign (VEv.int .i64 0)) (nt (sr (fO (OF.fieldAddrO (tv (T.op 0 0) Y) QlB) (lO (OL.loadOn (us:=(Qc false a.Grid)) (tv (T.op 0 0) Y) Y Qoo Qm9 (lb Y) Y) (mO (tI left) Y (cO (cS (vc (tv (T.agg (Qc false a.Grid)) Y) (vc (tv (tI left) Y) vn)) (LendL.cons (lg QE) (lp Y ln)) (Qge (n+3) a.Grid left (by first | assumption | omega) (by first | assumption | omega) (by first | assumption | omega)) Y Y) (aO (tI (Zl (ZC a.Grid) left)) Y (nt (sq ?_)))))))))))
 refine sr (mO (tI (Zl (ZC a.Grid) left)) Y (fO (xls (tv (tI (Zl (ZC a.Grid) left)) Y) (VEv.int .i64 0)) (nt ?_)))
 refine cd (Zl (ZC a.Grid) left<0) Y (fun fhc0=> ?_) fun fhc0=> ?_
 ·refine sr ?_
  refine fO (OF.assign (VEv.int .i64 (-1))) (nt (rt (tr (vi (n':=(-1)) Y ?_))))
  exact Js (by have hlt:=Qfi fhc0;simp only [QN];omega)
 have hq0:=YL fhc0
 refine sk (tn (sr (lf (rd 2 Qi a.Clues) Y QlU Y Y Qot (mO (tI (Zl (ZC a.Grid) left)) Y (cO (cS (vc (tv (rd 2 Qi a.Clues) Y) (vc (tv (tI (Zl (ZC a.Grid) left)) Y) vn)) (Q8 Y) (QfG (n+0) a.Clues (Zl (ZC a.Grid) left) (by first | assumption | omega) (by first | assumption | omega) (by first | assumption | omega)) Y Y) (aO (tI (Zl (zL QP a.Clues) (Zl (ZC a.Grid) left))) Y (nt (sq (sr (mO (tI (Zl (zL QP a.Clues) (Zl (ZC a.Grid) left))) Y (fO (xls (tv (tI (Zl (zL QP a.Clues) (Zl (ZC a.Grid) left))) Y) (VEv.int .i64 0)) ?_)))))))))))
 refine nt ?_
 refine cd (Zl (zL QP a.Clues) (Zl (ZC a.Grid) left)<0) Y (fun fhc1=> ?_) fun fhc1=> ?_
 ·refine sr ?_
  refine fO (OF.assign (VEv.int .i64 (-1))) (nt (rt (tr (vi (n':=(-1)) Y ?_))))
  exact Js (by have hlt:=Qfi fhc1;simp only [QN];omega)
 have hq1:=YL fhc1
 refine sk (tn (sr (lf (rd 1 Qe a.Seals) Y QlF Y Y QdG (mO (tI (Zl (zL QP a.Clues) (Zl (ZC a.Grid) left))) Y (cO (cS (vc (tv (rd 1 Qe a.Seals) Y) (vc (tv (tI (Zl (zL QP a.Clues) (Zl (ZC a.Grid) left))) Y) vn)) (Q8 Y) (Qf2 (n+3) a.Seals (Zl (zL QP a.Clues) (Zl (ZC a.Grid) left)) (by first | assumption | omega) (by first | assumption | omega) (by first | assumption | omega)) Y Y) (aO (tI (Zl (zL zI a.Seals) (Zl (zL QP a.Clues) (Zl (ZC a.Grid) left)))) Y (nt (sq (sr (mO (tI (Zl (zL zI a.Seals) (Zl (zL QP a.Clues) (Zl (ZC a.Grid) left)))) Y (fO (xls (tv (tI (Zl (zL zI a.Seals) (Zl (zL QP a.Clues) (Zl (ZC a.Grid) left)))) Y) (VEv.int .i64 0)) ?_)))))))))))
 refine nt ?_
 refine cd (Zl (zL zI a.Seals) (Zl (zL QP a.Clues) (Zl (ZC a.Grid) left))<0) Y (fun fhc2=> ?_) fun fhc2=> ?_
 ·refine sr ?_
  refine fO (OF.assign (VEv.int .i64 (-1))) (nt (rt (tr (vi (n':=(-1)) Y ?_))))
  exact Js (by have hlt:=Qfi fhc2;simp only [QN];omega)
 have hq2:=YL fhc2
 refine sk (tn (sr (mO (tI (Zl (zL zI a.Seals) (Zl (zL QP a.Clues) (Zl (ZC a.Grid) left)))) Y (aO (tI (Zl (zL zI a.Seals) (Zl (zL QP a.Clues) (Zl (ZC a.Grid) left)))) Y (nt (rt (vi (n':=Zl (zL zI a.Seals) (Zl (zL QP a.Clues) (Zl (ZC a.Grid) left))) Y ?_)))))))
 rw [← Qbu (z:=QN a) (l:=left) (by simp only [QN];omega)]
 all_goals first | rfl | (simp only [QN];done) | (simp only [QN];omega)
theorem Qeq (n:Nat) (a:D.Report) (left:Int) (h0:0≤left) (h1:left≤(mx:Int)) (hg:QeN a):Pure (Qq Tryz.prog (n+1)) 27 [(T.agg (Qa false a)),(tI left)] (tI (Zl (QA a) left)):=by
 refine Pure.intro (rs:= [ResultVar.tmp 4]) Tryz.func27 Y Y Y (E0:= [(0,(T.agg (Qa false a))),(1,(tI left))]) Y ?_
 obtain ⟨hlim,hmx,hmax⟩:=QC
 obtain ⟨hg0,hg1,hg2,hg3⟩:=hg
 refine sr (kO (B.box (ts:=(Qa false a)) (tv (T.agg (Qa false a)) Y) nofun Y) (fO (OF.assign (VEv.int .i64 0)) (nt (sr (mO (tI left) Y (lf (tS a.Word) Y Qlb Y Y ZH (lO (B.lenS (tv (tS a.Word) Y) U9) (fO (B.sub (n:=(left - ((a.Word.size:Nat):Int))) (tv (tI left) Y) (tv (tN a.Word.size) Y) (by first | rfl | (rw [Qs (by omega)];omega) | (rw [Qs (by omega)];done))) (aO (tI (left - ((a.Word.size:Nat):Int))) Y (nt (sq ?_)))))))))))
 refine sr (mO (tI (left - ((a.Word.size:Nat):Int))) Y (fO (xls (tv (tI (left - ((a.Word.size:Nat):Int))) Y) (VEv.int .i64 0)) (nt ?_)))
 refine cd ((left - ((a.Word.size:Nat):Int))<0) Y (fun fhc0=> ?_) fun fhc0=> ?_
 ·refine sr ?_
  refine fO (OF.assign (VEv.int .i64 (-1))) (nt (rt (tr (vi (n':=(-1)) Y ?_))))
  exact Js (by simp only [QA];omega)
 refine sk (tn (sr (mO (tI (left - ((a.Word.size:Nat):Int))) Y (aO (tI (left - ((a.Word.size:Nat):Int))) Y (nt (rt (vi (n':=(left - ((a.Word.size:Nat):Int))) Y ?_)))))))
 rw [← Qbu (z:=QA a) (l:=left) (by simp only [QA];omega)]
 all_goals first | rfl | (simp only [QA];done) | (simp only [QA];omega)
theorem QdM (n:Nat) (a:List D.Report) (left:Int) (h0:0≤left) (h1:left≤(mx:Int)) (hg:a.length≤maxLen∧∀x∈a,QeN x):Pure (Qq Tryz.prog (n+2)) 5 [(rd 4 Qa a),(tI left)] (tI (Zl (zL QA a) left)):=by
 refine Pure.intro (rs:= [ResultVar.tmp 4]) Tryz.func5 Y Y Y (E0:= [(0,(rd 4 Qa a)),(1,(tI left))]) Y ?_
 obtain ⟨hlim,hmx,hmax⟩:=QC
 obtain ⟨hg1,hg2⟩:=hg
 refine sr (fO (OF.assign (VEv.int .i64 0)) (nt (sr (mO (tI left) Y (mO (rd 4 Qa a) Y (lO (B.lenR (m:=a.length) (tv (rd 4 Qa a) Y) U22 (List.length_map ..)) (fO (B.sub (n:=(left - ((a.length:Nat):Int))) (tv (tI left) Y) (tv (tN a.length) Y) (by first | exact hg2 _ (List.mem_of_getElem? hx1) | rfl | (rw [Qs (by omega)];omega) | (rw [Qs (by omega)];done))) (aO (tI (left - ((a.length:Nat):Int))) Y (nt (sq (sr ?_)))))))))))
 refine mO (tI (left - ((a.length:Nat):Int))) Y (fO (xls (tv (tI (left - ((a.length:Nat):Int))) Y) (VEv.int .i64 0)) (nt ?_))
 refine cd ((left - ((a.length:Nat):Int))<0) Y (fun fhc0=> ?_) fun fhc0=> ?_
 ·refine sr ?_
  refine fO (OF.assign (VEv.int .i64 (-1))) (nt (rt (tr (vi (n':=(-1)) Y ?_))))
  exact SzI.early fhc0
 refine sk (tn (sq (sr (fO (OF.assign (VEv.int .i64 0)) (nt (VRun.block ?_))))))
 refine VRun.loop (A:=Nat×Int) (fun s_=> [(0,(rd 4 Qa a)),(1,(tI s_.2)),(5,(tN s_.1))]) (fun s_=>QU []) 0 (fun s_=>SzI QA a left s_.1 s_.2) (fun s_=>a.length - s_.1) ((0,left - (a.length:Int)):Nat×Int) ?_ (Wk.mk (fun k=>k) ?_ ?_ ?_) ?_
 ·exact SzI.start h1 fhc0
 ·exact (b2 (bc ⟨(congrArg (T.int .i64) (show (left - ((a.length:Nat):Int))=(left - (a.length:Int)) from (by first | rfl | omega | (simp;done) | (push_cast;omega)))),rfl⟩ (b2 bn)))
 ·exact bn
 ·exact nd Y
 rintro ⟨i,r⟩ (hI':SzI QA a left i r)
 show VRun _ _ _ [(0,(rd 4 Qa a)),(1,(tI r)),(5,(tN i))] (QU []) 0 _
 have hI2:=hI'.1
 have hI3:=hI'.2.1
 have hI4:=hI'.2.2.1
 refine sq (sr (mO (tN i) Y (mO (rd 4 Qa a) Y (lO (B.lenR (m:=a.length) (tv (rd 4 Qa a) Y) U22 (List.length_map ..)) (fO (Q2 (tv (tN i) Y) (tv (tN a.length) Y)) (nt ?_))))))
 refine cd (i<a.length) Y (fun fhc1=> ?_) fun fhc1=> ?_
 ·refine sk ?_
  refine tn (sq (VRun.block (sr (mO (rd 4 Qa a) Y (mO (tN i) Y ?_)))))
  obtain ⟨x1,hx1⟩:∃x,a[i]? =some x:=⟨_,List.getElem?_eq_getElem (by first | exact hg2 _ (List.mem_of_getElem? hx1) | omega)⟩
  refine fO (OF.indexAddrR (row:=(Qa false x1)) (i:=i) (tv (rd 4 Qa a) Y) (tv (tN i) Y) Y (Qu _ hx1) U22 Ql3 QoB) (lO (OL.loadRn (us:=(Qa false x1)) (tv (T.rp (Qa false x1)) Y) Qoq Ql3 (lb Y) Y) (mO (tI r) Y (cO (cS (vc (tv (T.agg (Qa false x1)) Y) (vc (tv (tI r) Y) vn)) (LendL.cons (lg okeReport) (lp Y ln)) (Qeq (n+0) x1 r (by first | exact hg2 _ (List.mem_of_getElem? hx1) | assumption | omega) (by first | exact hg2 _ (List.mem_of_getElem? hx1) | assumption | omega) (by first | exact hg2 _ (List.mem_of_getElem? hx1) | assumption | omega)) Y Y) (aO (tI (Zl (QA x1) r)) Y (nt (sr (mO (tI (Zl (QA x1) r)) Y (fO (xls (tv (tI (Zl (QA x1) r)) Y) (VEv.int .i64 0)) (nt ?_)))))))))
  refine cd (Zl (QA x1) r<0) Y (fun fhc2=> ?_) fun fhc2=> ?_
  ·refine sr ?_
   refine fO (OF.assign (VEv.int .i64 (-1))) (nt (rt (vinB.r (tr (tr (vinB.r (tr (vi (n':=(-1)) Y ?_))))))))
   exact hI'.bad hx1 fhc2
  refine sk (vinB.n (tn (VRun.region (mO (tN i) Y (fO (Qx (tv (tN i) Y) (VEv.int .i64 1) (by first | exact hg2 _ (List.mem_of_getElem? hx1) | omega)) (aO (tN (i+1)) Y (VRunO.nil (tn ?_))))))))
  refine ⟨((i+1,Zl (QA x1) r):Nat×Int),?_,?_,Wk.mk (fun k=>k) ?_ ?_ ?_⟩
  ·exact hI'.next hx1 fhc2
  ·first | omega | (simp only [];omega) | (show _<_;omega) | (simp;omega)
  ·exact (b2 (b2 (b2 bn)))
  ·exact bn
  ·exact nd Y
 refine VRun.exit (vthn.e (vthn.e (vinB.e (tn (sr (mO (tI r) Y (aO (tI r) Y (nt (rt (vi (n':=r) Y ?_))))))))))
 exact hI'.done fhc1
theorem Qf4 (n:Nat) (a:List Int) (ha:a.length≤mx):Pure (Qq Tryz.prog (n+1)) 40 [(rd 1 Qe a)] (T.sl true 1 (a.map (Qe true))):=by
 refine Pure.intro (rs:= [ResultVar.tmp 2]) Tryz.func40 Y Y Y (E0:= [(0,(rd 1 Qe a))]) Y ?_
 obtain ⟨hlim,hmx,hmax⟩:=QC
 refine sr (fO (OF.assign VEv.nils) (nt (sr (mO (rd 1 Qe a) Y (lO (B.lenR (m:=a.length) (tv (rd 1 Qe a) Y) ZE (List.length_map ..)) (kO (B.makeZ (n:=a.length) (m:=((List.replicate a.length 0).map (Qe true)).length) (rows:=((List.replicate a.length 0).map (Qe true))) (zr:=(Qe true 0)) (tv (tN a.length) Y) (tv (tN a.length) Y) Y ZE zo3 zc3 Y (by rw [Zu];decide) (by first | omega | (simp only [List.length_map];omega) | (simp only [List.length_map,List.length_append,List.length_cons,List.length_nil,List.length_replicate,List.length_set,List.length_drop,List.length_take,Zk] at *;omega)) (of_decide_eq_true (by kernel_rfl)) (Z0.int Z0.nil) Zu (List.map_replicate ..).symm (by rw [List.length_map,List.length_replicate])) (aO (T.os 1 0 0 (((List.replicate a.length 0).map (Qe true)).length)) Y (nt (sq (sr (fO (OF.assign (VEv.int .i64 0)) ?_)))))))))))
 refine nt (VRun.block ?_)
 have he1:(List.replicate a.length 0)=(a.take 0++List.replicate (a.length - 0) 0):=by first | rfl | (exact YW hx1) | (simp;done) | omega
 refine VRun.loop (A:=Nat) (fun s_=> [(0,(rd 1 Qe a)),(2,T.nils),(3,(T.os 1 0 0 (((a.take s_++List.replicate (a.length - s_) 0).map (Qe true)).length))),(4,(tN s_))]) (fun s_=>QU [(0,(Obj.rows 1 ((a.take s_++List.replicate (a.length - s_) 0).map (Qe true))))]) 1 (fun s_=>s_≤a.length) (fun s_=>a.length - s_) (0:Nat) ?_ (Wk.mk (fun k=>k) ?_ ?_ ?_) ?_
 ·first | trivial | (simp;done) | omega | (constructor<;>simp)
 ·exact (b2 (b2 (bc ⟨(congrArg (fun l_=>T.os 1 0 0 (List.map (Qe true) l_).length) he1),rfl⟩ (b2 bn))))
 ·exact (bc ⟨(congrArg (fun l_=>some (Obj.rows 1 (List.map (Qe true) l_))) he1),(lb Y),rfl⟩ bn)
 ·exact nd Y
 rintro i (hI':i≤a.length)
 show VRun _ _ _ [(0,(rd 1 Qe a)),(2,T.nils),(3,(T.os 1 0 0 (((a.take i++List.replicate (a.length - i) 0).map (Qe true)).length))),(4,(tN i))] (QU [(0,(Obj.rows 1 ((a.take i++List.replicate (a.length - i) 0).map (Qe true))))]) 1 _
 have hfl:=QcU (w:=0) hI'
 refine sq (sr (mO (tN i) Y (mO (rd 1 Qe a) Y (lO (B.lenR (m:=a.length) (tv (rd 1 Qe a) Y) ZE (List.length_map ..)) (fO (Q2 (tv (tN i) Y) (tv (tN a.length) Y)) (nt ?_))))))
 refine cd (i<a.length) Y (fun fhc0=> ?_) fun fhc0=> ?_
 ·refine sk ?_
  refine tn (sq (VRun.block (VRun.region (mO (T.os 1 0 0 (((a.take i++List.replicate (a.length - i) 0).map (Qe true)).length)) Y (mO (tN i) Y (mO (rd 1 Qe a) Y (mO (tN i) Y ?_)))))))
  obtain ⟨x1,hx1⟩:∃x,a[i]? =some x:=⟨_,List.getElem?_eq_getElem (by omega)⟩
  refine fO (OF.indexAddrR (row:=(Qe false x1)) (i:=i) (tv (rd 1 Qe a) Y) (tv (tN i) Y) Y (Qu _ hx1) ZE Zu Jc) (lO (OL.loadR1 (t:=(tI x1)) (tv (T.rp [(tI x1)]) Y) Y QQ) ?_)
  obtain ⟨x2,hx2⟩:∃x,(a.take i++List.replicate (a.length - i) 0)[i]? =some x:=⟨_,List.getElem?_eq_getElem (by first | omega | (simp only [List.length_map];omega) | (simp only [List.length_map,List.length_append,List.length_cons,List.length_nil,List.length_replicate,List.length_set,List.length_drop,List.length_take,Zk] at *;omega))⟩
  refine fO (B.indexAddrO (i:=i) (tv (T.os 1 0 0 (((a.take i++List.replicate (a.length - i) 0).map (Qe true)).length)) Y) (tv (tN i) Y) Y (by first | omega | (simp only [List.length_map];omega) | (simp only [List.length_map,List.length_append,List.length_cons,List.length_nil,List.length_replicate,List.length_set,List.length_drop,List.length_take,Zk] at *;omega)) ZE Zu Jc) (cO (B.storeP (us:= [(tI x1)]) (rows':=(((a.take i++List.replicate (a.length - i) 0).set i x1).map (Qe true))) (row:=(Qe true x2)) (tv (T.orp 1 0 i 0) Y) (tv (tI x1) Y) nofun Y (Qu _ hx2) Y (lb Y) Jc Zu (bc Y bn) (by intro r hr t ht;obtain ⟨x,_,rfl⟩:=List.mem_map.1 hr;rw [Qn5] at ht;exact ZN (okInt.pl _ t ht)) (Z6 Y)) (VRunO.nil (vinB.n (tn (VRun.region (mO (tN i) Y (fO (Qx (tv (tN i) Y) (VEv.int .i64 1) (by omega)) (aO (tN (i+1)) Y (VRunO.nil (tn ?_))))))))))
  have he2:((a.take i++List.replicate (a.length - i) 0).set i x1)=(a.take (i+1)++List.replicate (a.length - (i+1)) 0):=by first | rfl | (exact YW hx1) | (simp;done) | omega
  refine ⟨(i+1:Nat),?_,?_,Wk.mk (fun k=>k) ?_ ?_ ?_⟩
  ·first | trivial | omega | (simp;done) | exact ⟨by omega,hI'.2⟩
  ·first | omega | (simp only [];omega) | (show _<_;omega) | (simp;omega)
  ·exact (b2 (b2 (bc ⟨(congrArg (fun n_=>T.os 1 0 0 n_) (show ((a.take i++List.replicate (a.length - i) 0).map (Qe true)).length=((a.take (i+1)++List.replicate (a.length - (i+1)) 0).map (Qe true)).length from (by first | rfl | (simp only [List.length_map];omega) | (simp only [List.length_map,List.length_set,List.length_append,List.length_take,List.length_replicate,List.length_cons,List.length_nil];omega)))),rfl⟩ (b2 bn))))
  ·exact (bc ⟨(congrArg (fun l_=>some (Obj.rows 1 (List.map (Qe true) l_))) he2),(lb Y),rfl⟩ bn)
  ·exact nd Y
 refine VRun.exit (vthn.e (vthn.e (vinB.e (tn (sr (mO (T.os 1 0 0 (((a.take i++List.replicate (a.length - i) 0).map (Qe true)).length)) Y (aO (T.os 1 0 0 (((a.take i++List.replicate (a.length - i) 0).map (Qe true)).length)) Y (nt (rt ?_)))))))))
 refine vfin.eq (r':=(T.sl true 1 ((a.take i++List.replicate (a.length - i) 0).map (Qe true)))) ?_ (vfin.r (VRes.tmp (t:=(T.os 1 0 0 (((a.take i++List.replicate (a.length - i) 0).map (Qe true)).length))) Y VRes.nil) (Give.os Y Y (okInt.cleanMap _)))
 refine congrArg (fun l_=>T.sl true 1 (List.map (Qe true) l_)) ?_
 exact QaC fhc0
theorem Qgh (n:Nat) (a:D.Grid):Pure (Qq Tryz.prog (n+1)) 38 [(T.agg (Qc false a))] (T.agg (Qc true a)):=by
 refine Pure.intro (rs:= [ResultVar.cell 2 36]) Tryz.func38 Y Y Y (E0:= [(0,(T.agg (Qc false a)))]) Y ?_
 obtain ⟨hlim,hmx,hmax⟩:=QC
 refine sr (kO (B.box (ts:=(Qc false a)) (tv (T.agg (Qc false a)) Y) nofun Y) (kO (B.alloc (t:=(T.agg [(tN 0),(tN 0),(tS ByteArray.empty)])) (ts:= [(tN 0),(tN 0),(tS ByteArray.empty)]) QkF Ql9 nofun (fun _=> .agg _ _ Y (YK (RL.cons (.int _ _) (RL.cons (.int _ _) (RL.cons (.str _) (RL.nil _)))))) Y) (nt (sr (kO (B.alloc (t:=(T.agg [(tN 0),(tN 0),(tS ByteArray.empty)])) (ts:= [(tN 0),(tN 0),(tS ByteArray.empty)]) QkF Ql9 nofun (fun _=> .agg _ _ Y (YK (RL.cons (.int _ _) (RL.cons (.int _ _) (RL.cons (.str _) (RL.nil _)))))) Y) (nt (sr (lf (tI a.Rows) Y QnI Y Y QQ (fO (OF.fieldAddrO (tv (T.op 2 0) Y) Qan) (cO (B.storeO (us:= [(tI a.Rows)]) (ws:= [(tI a.Rows),(tN 0),(tS ByteArray.empty)]) (tv (T.op 2 0) Y) (tv (tI a.Rows) Y) nofun Y Y (lb Y) Jc Zu (bc Y bn) Y) (nt ?_)))))))))))
 refine sr (lf (tI a.Cols) Y Qnk Y Y QQ (fO (OF.fieldAddrO (tv (T.op 2 0) Y) Zr) (cO (B.storeO (us:= [(tI a.Cols)]) (ws:= [(tI a.Rows),(tI a.Cols),(tS ByteArray.empty)]) (tv (T.op 2 1) Y) (tv (tI a.Cols) Y) nofun Y Y (lb Y) Jc Zu (bc Y bn) Y) (nt (sr (lf (tS a.Cells) Y QlO Y Y ZH (fO (OF.fieldAddrO (tv (T.op 2 0) Y) QL) (cO (B.storeO (us:= [(tS a.Cells)]) (ws:= [(tI a.Rows),(tI a.Cols),(tS a.Cells)]) (tv (T.op 2 2) Y) (tv (tS a.Cells) Y) nofun Y Y (lb Y) if9 sz9 (bc Y bn) Y) (nt (sr (lO (OL.loadOn (us:=(Qc false a)) (tv (T.op 2 0) Y) Y Zj Q6 (lb Y) Y) ?_)))))))))))
 refine cO (B.storeW (us:=(Qc false a)) (tv (T.op 1 0) Y) (tv (T.agg (Qc false a)) Y) nofun Y Y Y Qjc Q6 (bc Y (bc Y (bc Y bn)))) (nt (rt ?_))
 refine vfin.eq (r':=(T.agg (Qc false a))) ?_ (vfin.r (VRes.celln (ws:=(Qc false a)) Y Y Zj Q6 (lb Y) Y VRes.nil) (Give.agg (GiveL.cons (Give.int _ _) (GiveL.cons (Give.int _ _) (GiveL.cons (Give.str _) GiveL.nil (by decide)) (by decide)) (by decide))))
 rfl
theorem QfW (n:Nat) (a:D.Step):Pure (Qq Tryz.prog (n+1)) 124 [(T.agg (Qf false a))] (T.agg (Qf true a)):=by
 refine Pure.intro (rs:= [ResultVar.cell 2 145]) Tryz.func124 Y Y Y (E0:= [(0,(T.agg (Qf false a)))]) Y ?_
 obtain ⟨hlim,hmx,hmax⟩:=QC
 refine sr (kO (B.box (ts:=(Qf false a)) (tv (T.agg (Qf false a)) Y) nofun Y) (kO (B.alloc (t:=(T.agg [(tN 0),(tS ByteArray.empty),(tN 0),(tN 0)])) (ts:= [(tN 0),(tS ByteArray.empty),(tN 0),(tN 0)]) Qfk QfK nofun (fun _=> .agg _ _ Y (YK (RL.cons (.int _ _) (RL.cons (.str _) (RL.cons (.int _ _) (RL.cons (.int _ _) (RL.nil _))))))) Y) (nt (sr (kO (B.alloc (t:=(T.agg [(tN 0),(tS ByteArray.empty),(tN 0),(tN 0)])) (ts:= [(tN 0),(tS ByteArray.empty),(tN 0),(tN 0)]) Qfk QfK nofun (fun _=> .agg _ _ Y (YK (RL.cons (.int _ _) (RL.cons (.str _) (RL.cons (.int _ _) (RL.cons (.int _ _) (RL.nil _))))))) Y) (nt (sr (lf (tI a.Kind) Y Qmi Y Y QQ (fO (OF.fieldAddrO (tv (T.op 2 0) Y) Q7) (cO (B.storeO (us:= [(tI a.Kind)]) (ws:= [(tI a.Kind),(tS ByteArray.empty),(tN 0),(tN 0)]) (tv (T.op 2 0) Y) (tv (tI a.Kind) Y) nofun Y Y (lb Y) Jc Zu (bc Y bn) Y) (nt ?_)))))))))))
 refine sr (lf (tS a.Word) Y QjH Y Y ZH (fO (OF.fieldAddrO (tv (T.op 2 0) Y) Yb) (cO (B.storeO (us:= [(tS a.Word)]) (ws:= [(tI a.Kind),(tS a.Word),(tN 0),(tN 0)]) (tv (T.op 2 1) Y) (tv (tS a.Word) Y) nofun Y Y (lb Y) if9 sz9 (bc Y bn) Y) (nt (sr (lf (tI a.A) Y Ql0 Y Y QQ (fO (OF.fieldAddrO (tv (T.op 2 0) Y) Zs) (cO (B.storeO (us:= [(tI a.A)]) (ws:= [(tI a.Kind),(tS a.Word),(tI a.A),(tN 0)]) (tv (T.op 2 2) Y) (tv (tI a.A) Y) nofun Y Y (lb Y) Jc Zu (bc Y bn) Y) (nt (sr (lf (tI a.B) Y Qms Y Y QQ ?_)))))))))))
 refine fO (OF.fieldAddrO (tv (T.op 2 0) Y) ZQ) (cO (B.storeO (us:= [(tI a.B)]) (ws:= [(tI a.Kind),(tS a.Word),(tI a.A),(tI a.B)]) (tv (T.op 2 3) Y) (tv (tI a.B) Y) nofun Y Y (lb Y) Jc Zu (bc Y bn) Y) (nt (sr (lO (OL.loadOn (us:=(Qf false a)) (tv (T.op 2 0) Y) Y Qb9 ZD (lb Y) Y) (cO (B.storeW (us:=(Qf false a)) (tv (T.op 1 0) Y) (tv (T.agg (Qf false a)) Y) nofun Y Y Y YH ZD (bc Y (bc Y (bc Y (bc Y bn))))) (nt (rt ?_)))))))
 refine vfin.eq (r':=(T.agg (Qf false a))) ?_ (vfin.r (VRes.celln (ws:=(Qf false a)) Y Y Qb9 ZD (lb Y) Y VRes.nil) (Give.agg (GiveL.cons (Give.int _ _) (GiveL.cons (Give.str _) (GiveL.cons (Give.int _ _) (GiveL.cons (Give.int _ _) GiveL.nil (by decide)) (by decide)) (by decide)) (by decide))))
 rfl
theorem QfA (n:Nat) (a:List D.Step) (ha:a.length≤mx):Pure (Qq Tryz.prog (n+2)) 90 [(rd 4 Qf a)] (T.sl true 4 (a.map (Qf true))):=by
 refine Pure.intro (rs:= [ResultVar.tmp 2]) Tryz.func90 Y Y Y (E0:= [(0,(rd 4 Qf a))]) Y ?_
 obtain ⟨hlim,hmx,hmax⟩:=QC
 refine sr (fO (OF.assign VEv.nils) (nt (sr (mO (rd 4 Qf a) Y (lO (B.lenR (m:=a.length) (tv (rd 4 Qf a) Y) U49 (List.length_map ..)) (kO (B.makeZ (n:=a.length) (m:=((List.replicate a.length (D.Step.mk 0 ByteArray.empty 0 0)).map (Qf true)).length) (rows:=((List.replicate a.length (D.Step.mk 0 ByteArray.empty 0 0)).map (Qf true))) (zr:=(Qf true (D.Step.mk 0 ByteArray.empty 0 0))) (tv (tN a.length) Y) (tv (tN a.length) Y) Y U62 Qfk QfK Y (by rw [ZD];decide) (by omega) (of_decide_eq_true (by kernel_rfl)) (Z0.int (Z0.str (Z0.int (Z0.int Z0.nil)))) ZD (List.map_replicate ..).symm (by rw [List.length_map,List.length_replicate])) (aO (T.os 4 0 0 (((List.replicate a.length (D.Step.mk 0 ByteArray.empty 0 0)).map (Qf true)).length)) Y (nt (sq (sr (fO (OF.assign (VEv.int .i64 0)) ?_)))))))))))
 refine nt (VRun.block ?_)
 have he1:(List.replicate a.length (D.Step.mk 0 ByteArray.empty 0 0))=(a.take 0++List.replicate (a.length - 0) (D.Step.mk 0 ByteArray.empty 0 0)):=by rfl
 refine VRun.loop (A:=Nat) (fun s_=> [(0,(rd 4 Qf a)),(2,T.nils),(3,(T.os 4 0 0 (((a.take s_++List.replicate (a.length - s_) (D.Step.mk 0 ByteArray.empty 0 0)).map (Qf true)).length))),(4,(tN s_))]) (fun s_=>QU [(0,(Obj.rows 4 ((a.take s_++List.replicate (a.length - s_) (D.Step.mk 0 ByteArray.empty 0 0)).map (Qf true))))]) 1 (fun s_=>s_≤a.length) (fun s_=>a.length - s_) (0:Nat) ?_ (Wk.mk (fun k=>k) ?_ ?_ ?_) ?_
 ·(simp;done)
 ·exact (b2 (b2 (bc ⟨(congrArg (fun l_=>T.os 4 0 0 (List.map (Qf true) l_).length) he1),rfl⟩ (b2 bn))))
 ·exact (bc ⟨(congrArg (fun l_=>some (Obj.rows 4 (List.map (Qf true) l_))) he1),(lb Y),rfl⟩ bn)
 ·exact nd Y
 rintro i (hI':i≤a.length)
 show VRun _ _ _ [(0,(rd 4 Qf a)),(2,T.nils),(3,(T.os 4 0 0 (((a.take i++List.replicate (a.length - i) (D.Step.mk 0 ByteArray.empty 0 0)).map (Qf true)).length))),(4,(tN i))] (QU [(0,(Obj.rows 4 ((a.take i++List.replicate (a.length - i) (D.Step.mk 0 ByteArray.empty 0 0)).map (Qf true))))]) 1 _
 have hfl:=QcU (w:=(D.Step.mk 0 ByteArray.empty 0 0)) hI'
 refine sq (sr (mO (tN i) Y (mO (rd 4 Qf a) Y (lO (B.lenR (m:=a.length) (tv (rd 4 Qf a) Y) U49 (List.length_map ..)) (fO (Q2 (tv (tN i) Y) (tv (tN a.length) Y)) (nt ?_))))))
 refine cd (i<a.length) Y (fun fhc0=> ?_) fun fhc0=> ?_
 ·refine sk ?_
  refine tn (sq (VRun.block (VRun.region (mO (T.os 4 0 0 (((a.take i++List.replicate (a.length - i) (D.Step.mk 0 ByteArray.empty 0 0)).map (Qf true)).length)) Y (mO (tN i) Y (mO (rd 4 Qf a) Y (mO (tN i) Y ?_)))))))
  obtain ⟨x1,hx1⟩:∃x,a[i]? =some x:=⟨_,List.getElem?_eq_getElem (by omega)⟩
  refine fO (OF.indexAddrR (row:=(Qf false x1)) (i:=i) (tv (rd 4 Qf a) Y) (tv (tN i) Y) Y (Qu _ hx1) U49 QjL QmF) (lO (OL.loadRn (us:=(Qf false x1)) (tv (T.rp (Qf false x1)) Y) QmQ QjL (lb Y) Y) (cO (cS (vc (tv (T.agg (Qf false x1)) Y) vn) (LendL.cons (lg okeStep) ln) (QfW (n+0) x1) Y Y) ?_))
  obtain ⟨x2,hx2⟩:∃x,(a.take i++List.replicate (a.length - i) (D.Step.mk 0 ByteArray.empty 0 0))[i]? =some x:=⟨_,List.getElem?_eq_getElem (by omega)⟩
  refine fO (B.indexAddrO (i:=i) (tv (T.os 4 0 0 (((a.take i++List.replicate (a.length - i) (D.Step.mk 0 ByteArray.empty 0 0)).map (Qf true)).length)) Y) (tv (tN i) Y) Y (by (simp only [List.length_map];omega)) U62 ZD YH) (cO (B.storeP (us:=(Qf true x1)) (rows':=(((a.take i++List.replicate (a.length - i) (D.Step.mk 0 ByteArray.empty 0 0)).set i x1).map (Qf true))) (row:=(Qf true x2)) (tv (T.orp 4 0 i 0) Y) (tv (T.agg (Qf true x1)) Y) nofun Y (Qu _ hx2) Y (lb Y) YH ZD (bc Y (bc Y (bc Y (bc Y bn)))) (by intro r hr t ht;obtain ⟨x,_,rfl⟩:=List.mem_map.1 hr;rw [Qm0] at ht;exact ZN (okeStep.pl _ t ht)) (Z6 Y)) (VRunO.nil (vinB.n (tn (VRun.region (mO (tN i) Y (fO (Qx (tv (tN i) Y) (VEv.int .i64 1) (by omega)) (aO (tN (i+1)) Y (VRunO.nil (tn ?_))))))))))
  have he2:((a.take i++List.replicate (a.length - i) (D.Step.mk 0 ByteArray.empty 0 0)).set i x1)=(a.take (i+1)++List.replicate (a.length - (i+1)) (D.Step.mk 0 ByteArray.empty 0 0)):=by exact YW hx1
  refine ⟨(i+1:Nat),?_,?_,Wk.mk (fun k=>k) ?_ ?_ ?_⟩
  ·trivial
  ·omega
  ·exact (b2 (b2 (bc ⟨(congrArg (fun n_=>T.os 4 0 0 n_) (show ((a.take i++List.replicate (a.length - i) (D.Step.mk 0 ByteArray.empty 0 0)).map (Qf true)).length=((a.take (i+1)++List.replicate (a.length - (i+1)) (D.Step.mk 0 ByteArray.empty 0 0)).map (Qf true)).length from (by (simp only [List.length_map,List.length_set,List.length_append,List.length_take,List.length_replicate,List.length_cons,List.length_nil];omega)))),rfl⟩ (b2 bn))))
  ·exact (bc ⟨(congrArg (fun l_=>some (Obj.rows 4 (List.map (Qf true) l_))) he2),(lb Y),rfl⟩ bn)
  ·exact nd Y
 refine VRun.exit (vthn.e (vthn.e (vinB.e (tn (sr (mO (T.os 4 0 0 (((a.take i++List.replicate (a.length - i) (D.Step.mk 0 ByteArray.empty 0 0)).map (Qf true)).length)) Y (aO (T.os 4 0 0 (((a.take i++List.replicate (a.length - i) (D.Step.mk 0 ByteArray.empty 0 0)).map (Qf true)).length)) Y (nt (rt ?_)))))))))
 refine vfin.eq (r':=(T.sl true 4 ((a.take i++List.replicate (a.length - i) (D.Step.mk 0 ByteArray.empty 0 0)).map (Qf true)))) ?_ (vfin.r (VRes.tmp (t:=(T.os 4 0 0 (((a.take i++List.replicate (a.length - i) (D.Step.mk 0 ByteArray.empty 0 0)).map (Qf true)).length))) Y VRes.nil) (Give.os Y Y (okeStep.cleanMap _)))
 refine congrArg (fun l_=>T.sl true 4 (List.map (Qf true) l_)) ?_
 exact QaC fhc0
theorem Qf6 (n:Nat) (a:D.Clue) (ha:QP a≤mx):Pure (Qq Tryz.prog (n+3)) 58 [(T.agg (Qi false a))] (T.agg (Qi true a)):=by
 refine Pure.intro (rs:= [ResultVar.cell 2 64]) Tryz.func58 Y Y Y (E0:= [(0,(T.agg (Qi false a)))]) Y ?_
 obtain ⟨hlim,hmx,hmax⟩:=QC
 simp only [QP] at ha
 have hla_Play:=QV (z:=Ze) a.Play
 refine sr (kO (B.box (ts:=(Qi false a)) (tv (T.agg (Qi false a)) Y) nofun Y) (kO (B.alloc (t:=(T.agg [(tN 0),T.nils])) (ts:= [(tN 0),T.nils]) QmV Qm1 nofun (fun _=> .agg _ _ Y (YK (RL.cons (.int _ _) (RL.cons (.nils) (RL.nil _))))) Y) (nt (sr (kO (B.alloc (t:=(T.agg [(tN 0),T.nils])) (ts:= [(tN 0),T.nils]) QmV Qm1 nofun (fun _=> .agg _ _ Y (YK (RL.cons (.int _ _) (RL.cons (.nils) (RL.nil _))))) Y) (nt (sr (lf (tI a.Sense) Y QnF Y Y QQ (fO (OF.fieldAddrO (tv (T.op 2 0) Y) Qci) (cO (B.storeO (us:= [(tI a.Sense)]) (ws:= [(tI a.Sense),T.nils]) (tv (T.op 2 0) Y) (tv (tI a.Sense) Y) nofun Y Y (lb Y) Jc Zu (bc Y bn) Y) (nt ?_)))))))))))
 refine sr (lf (rd 4 Qf a.Play) Y Qlz Y Y Qof (cO (OC.callF (r':=(T.os 4 3 0 ((a.Play.map (Qf true)).length))) (objs:= [(Obj.rows 4 (a.Play.map (Qf true)))]) Y (vc (tv (rd 4 Qf a.Play) Y) vn) (Q8 Y) (QfA (n+0) a.Play (by omega)) Y) (fO (OF.fieldAddrO (tv (T.op 2 0) Y) Qcz) (cO (B.storeO (us:= [(T.os 4 3 0 ((a.Play.map (Qf true)).length))]) (ws:= [(tI a.Sense),(T.os 4 3 0 ((a.Play.map (Qf true)).length))]) (tv (T.op 2 1) Y) (tv (T.os 4 3 0 ((a.Play.map (Qf true)).length)) Y) nofun Y Y (lb Y) Qoy Qn7 (bc Y bn) Y) (nt (sr (lO (OL.loadOn (us:= [(tI a.Sense),(T.os 4 3 0 ((a.Play.map (Qf true)).length))]) (tv (T.op 2 0) Y) Y Qft J5 (lb Y) Y) (cO (B.storeW (us:= [(tI a.Sense),(T.os 4 3 0 ((a.Play.map (Qf true)).length))]) (tv (T.op 1 0) Y) (tv (T.agg [(tI a.Sense),(T.os 4 3 0 ((a.Play.map (Qf true)).length))]) Y) nofun Y Y Y Qhi J5 (bc Y (bc Y bn))) (nt (rt ?_))))))))))
 refine vfin.eq (r':=(T.agg [(tI a.Sense),(T.sl true 4 (a.Play.map (Qf true)))])) ?_ (vfin.r (VRes.celln (ws:= [(tI a.Sense),(T.os 4 3 0 ((a.Play.map (Qf true)).length))]) Y Y Qft J5 (lb Y) Y VRes.nil) (Give.agg (GiveL.cons (Give.int _ _) (GiveL.cons (Give.os Y Y (okeStep.cleanMap _)) GiveL.nil (by decide)) (by decide))))
 rfl
theorem Qfx (n:Nat) (a:List D.Clue) (ha:zL QP a≤mx):Pure (Qq Tryz.prog (n+4)) 39 [(rd 2 Qi a)] (T.sl true 2 (a.map (Qi true))):=by
 refine Pure.intro (rs:= [ResultVar.tmp 2]) Tryz.func39 Y Y Y (E0:= [(0,(rd 2 Qi a))]) Y ?_
 obtain ⟨hlim,hmx,hmax⟩:=QC
 have hla:=QV (z:=QP) a
 refine sr (fO (OF.assign VEv.nils) (nt (sr (mO (rd 2 Qi a) Y (lO (B.lenR (m:=a.length) (tv (rd 2 Qi a) Y) U25 (List.length_map ..)) (kO (B.makeZ (n:=a.length) (m:=((List.replicate a.length (D.Clue.mk 0 [])).map (Qi true)).length) (rows:=((List.replicate a.length (D.Clue.mk 0 [])).map (Qi true))) (zr:=(Qi true (D.Clue.mk 0 []))) (tv (tN a.length) Y) (tv (tN a.length) Y) Y U37 QmV Qm1 Y (by rw [J5];decide) (by omega) (of_decide_eq_true (by kernel_rfl)) (Z0.int (Z0.sl Z0.nil)) J5 (List.map_replicate ..).symm (by rw [List.length_map,List.length_replicate])) (aO (T.os 2 0 0 (((List.replicate a.length (D.Clue.mk 0 [])).map (Qi true)).length)) Y (nt (sq (sr (fO (OF.assign (VEv.int .i64 0)) ?_)))))))))))
 refine nt (VRun.block ?_)
 have he1:(List.replicate a.length (D.Clue.mk 0 []))=(a.take 0++List.replicate (a.length - 0) (D.Clue.mk 0 [])):=by rfl
 refine VRun.loop (A:=Nat) (fun s_=> [(0,(rd 2 Qi a)),(2,T.nils),(3,(T.os 2 0 0 (((a.take s_++List.replicate (a.length - s_) (D.Clue.mk 0 [])).map (Qi true)).length))),(4,(tN s_))]) (fun s_=>QU [(0,(Obj.rows 2 ((a.take s_++List.replicate (a.length - s_) (D.Clue.mk 0 [])).map (Qi true))))]) 1 (fun s_=>s_≤a.length) (fun s_=>a.length - s_) (0:Nat) ?_ (Wk.mk (fun k=>k) ?_ ?_ ?_) ?_
 ·(simp;done)
 ·exact (b2 (b2 (bc ⟨(congrArg (fun l_=>T.os 2 0 0 (List.map (Qi true) l_).length) he1),rfl⟩ (b2 bn))))
 ·exact (bc ⟨(congrArg (fun l_=>some (Obj.rows 2 (List.map (Qi true) l_))) he1),(lb Y),rfl⟩ bn)
 ·exact nd Y
 rintro i (hI':i≤a.length)
 show VRun _ _ _ [(0,(rd 2 Qi a)),(2,T.nils),(3,(T.os 2 0 0 (((a.take i++List.replicate (a.length - i) (D.Clue.mk 0 [])).map (Qi true)).length))),(4,(tN i))] (QU [(0,(Obj.rows 2 ((a.take i++List.replicate (a.length - i) (D.Clue.mk 0 [])).map (Qi true))))]) 1 _
 have hfl:=QcU (w:=(D.Clue.mk 0 [])) hI'
 refine sq (sr (mO (tN i) Y (mO (rd 2 Qi a) Y (lO (B.lenR (m:=a.length) (tv (rd 2 Qi a) Y) U25 (List.length_map ..)) (fO (Q2 (tv (tN i) Y) (tv (tN a.length) Y)) (nt ?_))))))
 refine cd (i<a.length) Y (fun fhc0=> ?_) fun fhc0=> ?_
 ·refine sk ?_
  refine tn (sq (VRun.block (VRun.region (mO (T.os 2 0 0 (((a.take i++List.replicate (a.length - i) (D.Clue.mk 0 [])).map (Qi true)).length)) Y (mO (tN i) Y (mO (rd 2 Qi a) Y (mO (tN i) Y ?_)))))))
  obtain ⟨x1,hx1⟩:∃x,a[i]? =some x:=⟨_,List.getElem?_eq_getElem (by omega)⟩
  refine fO (OF.indexAddrR (row:=(Qi false x1)) (i:=i) (tv (rd 2 Qi a) Y) (tv (tN i) Y) Y (Qu _ hx1) U25 Qmv Qol) (lO (OL.loadRn (us:=(Qi false x1)) (tv (T.rp (Qi false x1)) Y) Qoh Qmv (lb Y) Y) (cO (OC.callF (r':=(T.agg [(tI x1.Sense),(T.os 4 1 0 ((x1.Play.map (Qf true)).length))])) (objs:= [(Obj.rows 4 (x1.Play.map (Qf true)))]) Y (vc (tv (T.agg (Qi false x1)) Y) vn) (LendL.cons (lg okeClue) ln) (Qf6 (n+0) x1 (by exact Nat.le_trans (JH hx1) ha)) Y) ?_))
  obtain ⟨x2,hx2⟩:∃x,(a.take i++List.replicate (a.length - i) (D.Clue.mk 0 []))[i]? =some x:=⟨_,List.getElem?_eq_getElem (by omega)⟩
  refine fO (B.indexAddrO (i:=i) (tv (T.os 2 0 0 (((a.take i++List.replicate (a.length - i) (D.Clue.mk 0 [])).map (Qi true)).length)) Y) (tv (tN i) Y) Y (by (simp only [List.length_map];omega)) U37 J5 Qhi) (cO (B.storeB (us:= [(tI x1.Sense),(T.os 4 1 0 ((x1.Play.map (Qf true)).length))]) (ws:= [(tI x1.Sense),(T.sl true 4 (x1.Play.map (Qf true)))]) (rows':=(((a.take i++List.replicate (a.length - i) (D.Clue.mk 0 [])).set i x1).map (Qi true))) (row:=(Qi true x2)) (tv (T.orp 2 0 i 0) Y) (tv (T.agg [(tI x1.Sense),(T.os 4 1 0 ((x1.Play.map (Qf true)).length))]) Y) nofun Y (Qu _ hx2) Y (lb Y) Qhi J5 (bc Y (bc Y bn)) (Bury.pl Y (Bury.os Y Y Bury.nil (by decide))) Y (by decide) (Z6 Y)) (VRunO.nil (vinB.n (tn (VRun.region (mO (tN i) Y (fO (Qx (tv (tN i) Y) (VEv.int .i64 1) (by omega)) (aO (tN (i+1)) Y (VRunO.nil (tn ?_))))))))))
  have he2:((a.take i++List.replicate (a.length - i) (D.Clue.mk 0 [])).set i x1)=(a.take (i+1)++List.replicate (a.length - (i+1)) (D.Clue.mk 0 [])):=by exact YW hx1
  refine ⟨(i+1:Nat),?_,?_,Wk.mk (fun k=>k) ?_ ?_ ?_⟩
  ·trivial
  ·omega
  ·exact (b2 (b2 (bc ⟨(congrArg (fun n_=>T.os 2 0 0 n_) (show ((a.take i++List.replicate (a.length - i) (D.Clue.mk 0 [])).map (Qi true)).length=((a.take (i+1)++List.replicate (a.length - (i+1)) (D.Clue.mk 0 [])).map (Qi true)).length from (by (simp only [List.length_map,List.length_set,List.length_append,List.length_take,List.length_replicate,List.length_cons,List.length_nil];omega)))),rfl⟩ (b2 bn))))
  ·exact (bc ⟨(congrArg (fun l_=>some (Obj.rows 2 (List.map (Qi true) l_))) he2),(lb Y),rfl⟩ bn)
  ·exact nd Y
 refine VRun.exit (vthn.e (vthn.e (vinB.e (tn (sr (mO (T.os 2 0 0 (((a.take i++List.replicate (a.length - i) (D.Clue.mk 0 [])).map (Qi true)).length)) Y (aO (T.os 2 0 0 (((a.take i++List.replicate (a.length - i) (D.Clue.mk 0 [])).map (Qi true)).length)) Y (nt (rt ?_)))))))))
 refine vfin.eq (r':=(T.sl true 2 ((a.take i++List.replicate (a.length - i) (D.Clue.mk 0 [])).map (Qi true)))) ?_ (vfin.r (VRes.tmp (t:=(T.os 2 0 0 (((a.take i++List.replicate (a.length - i) (D.Clue.mk 0 [])).map (Qi true)).length))) Y VRes.nil) (Give.os Y Y (okeClue.cleanMap _)))
 refine congrArg (fun l_=>T.sl true 2 (List.map (Qi true) l_)) ?_
 exact QaC fhc0
theorem QdJ (n:Nat) (a:D.Meaning):Pure (Qq Tryz.prog (n+1)) 41 [(T.agg (Qb false a))] (T.agg (Qb true a)):=by
 refine Pure.intro (rs:= [ResultVar.cell 2 92]) Tryz.func41 Y Y Y (E0:= [(0,(T.agg (Qb false a)))]) Y ?_
 obtain ⟨hlim,hmx,hmax⟩:=QC
 refine sr (kO (B.box (ts:=(Qb false a)) (tv (T.agg (Qb false a)) Y) nofun Y) (kO (B.alloc (t:=(T.agg [(tS ByteArray.empty),(tN 0)])) (ts:= [(tS ByteArray.empty),(tN 0)]) Qmz Qnw nofun (fun _=> .agg _ _ Y (YK (RL.cons (.str _) (RL.cons (.int _ _) (RL.nil _))))) Y) (nt (sr (kO (B.alloc (t:=(T.agg [(tS ByteArray.empty),(tN 0)])) (ts:= [(tS ByteArray.empty),(tN 0)]) Qmz Qnw nofun (fun _=> .agg _ _ Y (YK (RL.cons (.str _) (RL.cons (.int _ _) (RL.nil _))))) Y) (nt (sr (lf (tS a.Word) Y Qk1 Y Y ZH (fO (OF.fieldAddrO (tv (T.op 2 0) Y) QgT) (cO (B.storeO (us:= [(tS a.Word)]) (ws:= [(tS a.Word),(tN 0)]) (tv (T.op 2 0) Y) (tv (tS a.Word) Y) nofun Y Y (lb Y) if9 sz9 (bc Y bn) Y) (nt ?_)))))))))))
 refine sr (lf (tI a.Sense) Y Qny Y Y QQ (fO (OF.fieldAddrO (tv (T.op 2 0) Y) Qg4) (cO (B.storeO (us:= [(tI a.Sense)]) (ws:= [(tS a.Word),(tI a.Sense)]) (tv (T.op 2 1) Y) (tv (tI a.Sense) Y) nofun Y Y (lb Y) Jc Zu (bc Y bn) Y) (nt (sr (lO (OL.loadOn (us:=(Qb false a)) (tv (T.op 2 0) Y) Y QiX QbD (lb Y) Y) (cO (B.storeW (us:=(Qb false a)) (tv (T.op 1 0) Y) (tv (T.agg (Qb false a)) Y) nofun Y Y Y Qik QbD (bc Y (bc Y bn))) (nt (rt ?_)))))))))
 refine vfin.eq (r':=(T.agg (Qb false a))) ?_ (vfin.r (VRes.celln (ws:=(Qb false a)) Y Y QiX QbD (lb Y) Y VRes.nil) (Give.agg (GiveL.cons (Give.str _) (GiveL.cons (Give.int _ _) GiveL.nil (by decide)) (by decide))))
 first | rfl | (exact Qv (by omega)) | (symm;rw [decide_eq_false_iff_not];omega) | (symm;rw [decide_eq_true_eq];omega) | (simp_all;done)
theorem YZ (n:Nat) (a:List D.Meaning) (ha:a.length≤mx):Pure (Qq Tryz.prog (n+2)) 11 [(rd 2 Qb a)] (T.sl true 2 (a.map (Qb true))):=by
 refine Pure.intro (rs:= [ResultVar.tmp 2]) Tryz.func11 Y Y Y (E0:= [(0,(rd 2 Qb a))]) Y ?_
 obtain ⟨hlim,hmx,hmax⟩:=QC
 refine sr (fO (OF.assign VEv.nils) (nt (sr (mO (rd 2 Qb a) Y (lO (B.lenR (m:=a.length) (tv (rd 2 Qb a) Y) U29 (List.length_map ..)) (kO (B.makeZ (n:=a.length) (m:=((List.replicate a.length (D.Meaning.mk ByteArray.empty 0)).map (Qb true)).length) (rows:=((List.replicate a.length (D.Meaning.mk ByteArray.empty 0)).map (Qb true))) (zr:=(Qb true (D.Meaning.mk ByteArray.empty 0))) (tv (tN a.length) Y) (tv (tN a.length) Y) Y U41 Qmz Qnw Y (by rw [QbD];decide) (by first | omega | (simp only [List.length_map];omega) | (simp only [List.length_map,List.length_append,List.length_cons,List.length_nil,List.length_replicate,List.length_set,List.length_drop,List.length_take,Zk] at *;omega)) (of_decide_eq_true (by kernel_rfl)) (Z0.str (Z0.int Z0.nil)) QbD (List.map_replicate ..).symm (by rw [List.length_map,List.length_replicate])) (aO (T.os 2 0 0 (((List.replicate a.length (D.Meaning.mk ByteArray.empty 0)).map (Qb true)).length)) Y (nt (sq (sr (fO (OF.assign (VEv.int .i64 0)) ?_)))))))))))
 refine nt (VRun.block ?_)
 have he1:(List.replicate a.length (D.Meaning.mk ByteArray.empty 0))=(a.take 0++List.replicate (a.length - 0) (D.Meaning.mk ByteArray.empty 0)):=by first | rfl | (exact YW hx1) | (simp;done) | omega
 refine VRun.loop (A:=Nat) (fun s_=> [(0,(rd 2 Qb a)),(2,T.nils),(3,(T.os 2 0 0 (((a.take s_++List.replicate (a.length - s_) (D.Meaning.mk ByteArray.empty 0)).map (Qb true)).length))),(4,(tN s_))]) (fun s_=>QU [(0,(Obj.rows 2 ((a.take s_++List.replicate (a.length - s_) (D.Meaning.mk ByteArray.empty 0)).map (Qb true))))]) 1 (fun s_=>s_≤a.length) (fun s_=>a.length - s_) (0:Nat) ?_ (Wk.mk (fun k=>k) ?_ ?_ ?_) ?_
 ·first | trivial | (simp;done) | omega | (constructor<;>simp)
 ·exact (b2 (b2 (bc ⟨(congrArg (fun l_=>T.os 2 0 0 (List.map (Qb true) l_).length) he1),rfl⟩ (b2 bn))))
 ·exact (bc ⟨(congrArg (fun l_=>some (Obj.rows 2 (List.map (Qb true) l_))) he1),(lb Y),rfl⟩ bn)
 ·exact nd Y
 rintro i (hI':i≤a.length)
 show VRun _ _ _ [(0,(rd 2 Qb a)),(2,T.nils),(3,(T.os 2 0 0 (((a.take i++List.replicate (a.length - i) (D.Meaning.mk ByteArray.empty 0)).map (Qb true)).length))),(4,(tN i))] (QU [(0,(Obj.rows 2 ((a.take i++List.replicate (a.length - i) (D.Meaning.mk ByteArray.empty 0)).map (Qb true))))]) 1 _
 have hfl:=QcU (w:=(D.Meaning.mk ByteArray.empty 0)) hI'
 refine sq (sr (mO (tN i) Y (mO (rd 2 Qb a) Y (lO (B.lenR (m:=a.length) (tv (rd 2 Qb a) Y) U29 (List.length_map ..)) (fO (Q2 (tv (tN i) Y) (tv (tN a.length) Y)) (nt ?_))))))
 refine cd (i<a.length) Y (fun fhc0=> ?_) fun fhc0=> ?_
 ·refine sk ?_
  refine tn (sq (VRun.block (VRun.region (mO (T.os 2 0 0 (((a.take i++List.replicate (a.length - i) (D.Meaning.mk ByteArray.empty 0)).map (Qb true)).length)) Y (mO (tN i) Y (mO (rd 2 Qb a) Y (mO (tN i) Y ?_)))))))
  obtain ⟨x1,hx1⟩:∃x,a[i]? =some x:=⟨_,List.getElem?_eq_getElem (by omega)⟩
  refine fO (OF.indexAddrR (row:=(Qb false x1)) (i:=i) (tv (rd 2 Qb a) Y) (tv (tN i) Y) Y (Qu _ hx1) U29 Ql6 QoD) (lO (OL.loadRn (us:=(Qb false x1)) (tv (T.rp (Qb false x1)) Y) Qoc Ql6 (lb Y) Y) (cO (cS (vc (tv (T.agg (Qb false x1)) Y) vn) (LendL.cons (lg okeMeaning) ln) (QdJ (n+0) x1) Y Y) ?_))
  obtain ⟨x2,hx2⟩:∃x,(a.take i++List.replicate (a.length - i) (D.Meaning.mk ByteArray.empty 0))[i]? =some x:=⟨_,List.getElem?_eq_getElem (by first | omega | (simp only [List.length_map];omega) | (simp only [List.length_map,List.length_append,List.length_cons,List.length_nil,List.length_replicate,List.length_set,List.length_drop,List.length_take,Zk] at *;omega))⟩
  refine fO (B.indexAddrO (i:=i) (tv (T.os 2 0 0 (((a.take i++List.replicate (a.length - i) (D.Meaning.mk ByteArray.empty 0)).map (Qb true)).length)) Y) (tv (tN i) Y) Y (by first | omega | (simp only [List.length_map];omega) | (simp only [List.length_map,List.length_append,List.length_cons,List.length_nil,List.length_replicate,List.length_set,List.length_drop,List.length_take,Zk] at *;omega)) U41 QbD Qik) (cO (B.storeP (us:=(Qb true x1)) (rows':=(((a.take i++List.replicate (a.length - i) (D.Meaning.mk ByteArray.empty 0)).set i x1).map (Qb true))) (row:=(Qb true x2)) (tv (T.orp 2 0 i 0) Y) (tv (T.agg (Qb true x1)) Y) nofun Y (Qu _ hx2) Y (lb Y) Qik QbD (bc Y (bc Y bn)) (by intro r hr t ht;obtain ⟨x,_,rfl⟩:=List.mem_map.1 hr;rw [Qkk] at ht;exact ZN (okeMeaning.pl _ t ht)) (Z6 Y)) (VRunO.nil (vinB.n (tn (VRun.region (mO (tN i) Y (fO (Qx (tv (tN i) Y) (VEv.int .i64 1) (by omega)) (aO (tN (i+1)) Y (VRunO.nil (tn ?_))))))))))
  have he2:((a.take i++List.replicate (a.length - i) (D.Meaning.mk ByteArray.empty 0)).set i x1)=(a.take (i+1)++List.replicate (a.length - (i+1)) (D.Meaning.mk ByteArray.empty 0)):=by first | rfl | (exact YW hx1) | (simp;done) | omega
  refine ⟨(i+1:Nat),?_,?_,Wk.mk (fun k=>k) ?_ ?_ ?_⟩
  ·first | trivial | omega | (simp;done) | exact ⟨by omega,hI'.2⟩
  ·first | omega | (simp only [];omega) | (show _<_;omega) | (simp;omega)
  ·exact (b2 (b2 (bc ⟨(congrArg (fun n_=>T.os 2 0 0 n_) (show ((a.take i++List.replicate (a.length - i) (D.Meaning.mk ByteArray.empty 0)).map (Qb true)).length=((a.take (i+1)++List.replicate (a.length - (i+1)) (D.Meaning.mk ByteArray.empty 0)).map (Qb true)).length from (by first | rfl | (simp only [List.length_map];omega) | (simp only [List.length_map,List.length_set,List.length_append,List.length_take,List.length_replicate,List.length_cons,List.length_nil];omega)))),rfl⟩ (b2 bn))))
  ·exact (bc ⟨(congrArg (fun l_=>some (Obj.rows 2 (List.map (Qb true) l_))) he2),(lb Y),rfl⟩ bn)
  ·exact nd Y
 refine VRun.exit (vthn.e (vthn.e (vinB.e (tn (sr (mO (T.os 2 0 0 (((a.take i++List.replicate (a.length - i) (D.Meaning.mk ByteArray.empty 0)).map (Qb true)).length)) Y (aO (T.os 2 0 0 (((a.take i++List.replicate (a.length - i) (D.Meaning.mk ByteArray.empty 0)).map (Qb true)).length)) Y (nt (rt ?_)))))))))
 refine vfin.eq (r':=(T.sl true 2 ((a.take i++List.replicate (a.length - i) (D.Meaning.mk ByteArray.empty 0)).map (Qb true)))) ?_ (vfin.r (VRes.tmp (t:=(T.os 2 0 0 (((a.take i++List.replicate (a.length - i) (D.Meaning.mk ByteArray.empty 0)).map (Qb true)).length))) Y VRes.nil) (Give.os Y Y (okeMeaning.cleanMap _)))
 refine congrArg (fun l_=>T.sl true 2 (List.map (Qb true) l_)) ?_
 exact QaC fhc0
theorem JB (n:Nat) (a:D.Puzzle) (ha:QN a≤mx):Pure (Qq Tryz.prog (n+5)) 10 [(T.agg (Qt false a))] (T.agg (Qt true a)):=by
 refine Pure.intro (rs:= [ResultVar.cell 2 39]) Tryz.func10 Y Y Y (E0:= [(0,(T.agg (Qt false a)))]) Y ?_
 obtain ⟨hlim,hmx,hmax⟩:=QC
 simp only [QN] at ha
 have hla_Clues:=QV (z:=QP) a.Clues
 have hla_Seals:=QV (z:=zI) a.Seals
 refine sr (kO (B.box (ts:=(Qt false a)) (tv (T.agg (Qt false a)) Y) nofun Y) (kO (B.alloc (t:=(T.agg [(tN 0),(tN 0),(tS ByteArray.empty),T.nils,T.nils,(tN 0)])) (ts:= [(tN 0),(tN 0),(tS ByteArray.empty),T.nils,T.nils,(tN 0)]) QnE Qni nofun (fun _=> .agg _ _ Y (YK (RL.cons (.int _ _) (RL.cons (.int _ _) (RL.cons (.str _) (RL.cons (.nils) (RL.cons (.nils) (RL.cons (.int _ _) (RL.nil _))))))))) Y) (nt (sr (kO (B.alloc (t:=(T.agg [(tN 0),(tN 0),(tS ByteArray.empty),T.nils,T.nils,(tN 0)])) (ts:= [(tN 0),(tN 0),(tS ByteArray.empty),T.nils,T.nils,(tN 0)]) QnE Qni nofun (fun _=> .agg _ _ Y (YK (RL.cons (.int _ _) (RL.cons (.int _ _) (RL.cons (.str _) (RL.cons (.nils) (RL.cons (.nils) (RL.cons (.int _ _) (RL.nil _))))))))) Y) (nt (sr (fO (OF.fieldAddrO (tv (T.op 0 0) Y) QlB) (lO (OL.loadOn (us:=(Qc false a.Grid)) (tv (T.op 0 0) Y) Y Qoo Qm9 (lb Y) Y) (cO (cS (vc (tv (T.agg (Qc false a.Grid)) Y) vn) (LendL.cons (lg QE) ln) (Qgh (n+3) a.Grid) Y Y) (fO (OF.fieldAddrO (tv (T.op 2 0) Y) Qcq) ?_)))))))))))
 refine cO (B.storeO (us:=(Qc true a.Grid)) (ws:= [(tI a.Grid.Rows),(tI a.Grid.Cols),(tS a.Grid.Cells),T.nils,T.nils,(tN 0)]) (tv (T.op 2 0) Y) (tv (T.agg (Qc true a.Grid)) Y) nofun Y Y (lb Y) Qjc Q6 (bc Y (bc Y (bc Y bn))) Y) (nt (sr (lf (rd 2 Qi a.Clues) Y QlU Y Y Qot (cO (OC.callF (r':=(T.os 2 3 0 ((a.Clues.map (Qi true)).length))) (objs:= [(Obj.rows 2 (a.Clues.map (Qi true)))]) Y (vc (tv (rd 2 Qi a.Clues) Y) vn) (Q8 Y) (Qfx (n+0) a.Clues (by first | assumption | omega)) Y) (fO (OF.fieldAddrO (tv (T.op 2 0) Y) Y5) (cO (B.storeO (us:= [(T.os 2 3 0 ((a.Clues.map (Qi true)).length))]) (ws:= [(tI a.Grid.Rows),(tI a.Grid.Cols),(tS a.Grid.Cells),(T.os 2 3 0 ((a.Clues.map (Qi true)).length)),T.nils,(tN 0)]) (tv (T.op 2 3) Y) (tv (T.os 2 3 0 ((a.Clues.map (Qi true)).length)) Y) nofun Y Y (lb Y) Qoi Qoa (bc Y bn) Y) (nt (sr (lf (rd 1 Qe a.Seals) Y QlF Y Y QdG (cO (OC.callF (r':=(T.os 1 4 0 ((a.Seals.map (Qe true)).length))) (objs:= [(Obj.rows 1 (a.Seals.map (Qe true)))]) Y (vc (tv (rd 1 Qe a.Seals) Y) vn) (Q8 Y) (Qf4 (n+3) a.Seals (by first | assumption | omega)) Y) (fO (OF.fieldAddrO (tv (T.op 2 0) Y) Qa9) ?_)))))))))))
 refine cO (B.storeO (us:= [(T.os 1 4 0 ((a.Seals.map (Qe true)).length))]) (ws:= [(tI a.Grid.Rows),(tI a.Grid.Cols),(tS a.Grid.Cells),(T.os 2 3 0 ((a.Clues.map (Qi true)).length)),(T.os 1 4 0 ((a.Seals.map (Qe true)).length)),(tN 0)]) (tv (T.op 2 4) Y) (tv (T.os 1 4 0 ((a.Seals.map (Qe true)).length)) Y) nofun Y Y (lb Y) Qkd Qhj (bc Y bn) Y) (nt (sr (lf (tI a.Salt) Y QnJ Y Y QQ (fO (OF.fieldAddrO (tv (T.op 2 0) Y) Qa3) (cO (B.storeO (us:= [(tI a.Salt)]) (ws:= [(tI a.Grid.Rows),(tI a.Grid.Cols),(tS a.Grid.Cells),(T.os 2 3 0 ((a.Clues.map (Qi true)).length)),(T.os 1 4 0 ((a.Seals.map (Qe true)).length)),(tI a.Salt)]) (tv (T.op 2 5) Y) (tv (tI a.Salt) Y) nofun Y Y (lb Y) Jc Zu (bc Y bn) Y) (nt (sr (lO (OL.loadOn (us:= [(tI a.Grid.Rows),(tI a.Grid.Cols),(tS a.Grid.Cells),(T.os 2 3 0 ((a.Clues.map (Qi true)).length)),(T.os 1 4 0 ((a.Seals.map (Qe true)).length)),(tI a.Salt)]) (tv (T.op 2 0) Y) Y Qgg QeI (lb Y) Y) (cO (B.storeW (us:= [(tI a.Grid.Rows),(tI a.Grid.Cols),(tS a.Grid.Cells),(T.os 2 3 0 ((a.Clues.map (Qi true)).length)),(T.os 1 4 0 ((a.Seals.map (Qe true)).length)),(tI a.Salt)]) (tv (T.op 1 0) Y) (tv (T.agg [(tI a.Grid.Rows),(tI a.Grid.Cols),(tS a.Grid.Cells),(T.os 2 3 0 ((a.Clues.map (Qi true)).length)),(T.os 1 4 0 ((a.Seals.map (Qe true)).length)),(tI a.Salt)]) Y) nofun Y Y Y Qon QeI (bc Y (bc Y (bc Y (bc Y (bc Y (bc Y bn))))))) (nt (rt ?_)))))))))))
 refine vfin.eq (r':=(T.agg [(tI a.Grid.Rows),(tI a.Grid.Cols),(tS a.Grid.Cells),(T.sl true 2 (a.Clues.map (Qi true))),(T.sl true 1 (a.Seals.map (Qe true))),(tI a.Salt)])) ?_ (vfin.r (VRes.celln (ws:= [(tI a.Grid.Rows),(tI a.Grid.Cols),(tS a.Grid.Cells),(T.os 2 3 0 ((a.Clues.map (Qi true)).length)),(T.os 1 4 0 ((a.Seals.map (Qe true)).length)),(tI a.Salt)]) Y Y Qgg QeI (lb Y) Y VRes.nil) (Give.agg (GiveL.cons (Give.int _ _) (GiveL.cons (Give.int _ _) (GiveL.cons (Give.str _) (GiveL.cons (Give.os Y Y (okeClue.cleanMap _)) (GiveL.cons (Give.os Y Y (okInt.cleanMap _)) (GiveL.cons (Give.int _ _) GiveL.nil (by decide)) (by decide)) (by decide)) (by decide)) (by decide)) (by decide))))
 first | rfl | (exact Qv (by omega)) | (symm;rw [decide_eq_false_iff_not];omega) | (symm;rw [decide_eq_true_eq];omega) | (simp_all;done)
theorem Qel (n:Nat) (a:D.Report):Pure (Qq Tryz.prog (n+1)) 37 [(T.agg (Qa false a))] (T.agg (Qa true a)):=by
 refine Pure.intro (rs:= [ResultVar.cell 2 84]) Tryz.func37 Y Y Y (E0:= [(0,(T.agg (Qa false a)))]) Y ?_
 obtain ⟨hlim,hmx,hmax⟩:=QC
 refine sr (kO (B.box (ts:=(Qa false a)) (tv (T.agg (Qa false a)) Y) nofun Y) (kO (B.alloc (t:=(T.agg [(tN 0),(tN 0),(tN 0),(tS ByteArray.empty)])) (ts:= [(tN 0),(tN 0),(tN 0),(tS ByteArray.empty)]) QiU QiY nofun (fun _=> .agg _ _ Y (YK (RL.cons (.int _ _) (RL.cons (.int _ _) (RL.cons (.int _ _) (RL.cons (.str _) (RL.nil _))))))) Y) (nt (sr (kO (B.alloc (t:=(T.agg [(tN 0),(tN 0),(tN 0),(tS ByteArray.empty)])) (ts:= [(tN 0),(tN 0),(tN 0),(tS ByteArray.empty)]) QiU QiY nofun (fun _=> .agg _ _ Y (YK (RL.cons (.int _ _) (RL.cons (.int _ _) (RL.cons (.int _ _) (RL.cons (.str _) (RL.nil _))))))) Y) (nt (sr (lf (tI a.Tester) Y QmS Y Y QQ (fO (OF.fieldAddrO (tv (T.op 2 0) Y) QcB) (cO (B.storeO (us:= [(tI a.Tester)]) (ws:= [(tI a.Tester),(tN 0),(tN 0),(tS ByteArray.empty)]) (tv (T.op 2 0) Y) (tv (tI a.Tester) Y) nofun Y Y (lb Y) Jc Zu (bc Y bn) Y) (nt ?_)))))))))))
 refine sr (lf (tI a.Slot) Y Qm2 Y Y QQ (fO (OF.fieldAddrO (tv (T.op 2 0) Y) Jg) (cO (B.storeO (us:= [(tI a.Slot)]) (ws:= [(tI a.Tester),(tI a.Slot),(tN 0),(tS ByteArray.empty)]) (tv (T.op 2 1) Y) (tv (tI a.Slot) Y) nofun Y Y (lb Y) Jc Zu (bc Y bn) Y) (nt (sr (lf (tI a.Kind) Y Qnb Y Y QQ (fO (OF.fieldAddrO (tv (T.op 2 0) Y) Qa1) (cO (B.storeO (us:= [(tI a.Kind)]) (ws:= [(tI a.Tester),(tI a.Slot),(tI a.Kind),(tS ByteArray.empty)]) (tv (T.op 2 2) Y) (tv (tI a.Kind) Y) nofun Y Y (lb Y) Jc Zu (bc Y bn) Y) (nt (sr (lf (tS a.Word) Y Qlb Y Y ZH ?_)))))))))))
 refine fO (OF.fieldAddrO (tv (T.op 2 0) Y) JD) (cO (B.storeO (us:= [(tS a.Word)]) (ws:= [(tI a.Tester),(tI a.Slot),(tI a.Kind),(tS a.Word)]) (tv (T.op 2 3) Y) (tv (tS a.Word) Y) nofun Y Y (lb Y) if9 sz9 (bc Y bn) Y) (nt (sr (lO (OL.loadOn (us:=(Qa false a)) (tv (T.op 2 0) Y) Y QfZ YE (lb Y) Y) (cO (B.storeW (us:=(Qa false a)) (tv (T.op 1 0) Y) (tv (T.agg (Qa false a)) Y) nofun Y Y Y QaT YE (bc Y (bc Y (bc Y (bc Y bn))))) (nt (rt ?_)))))))
 refine vfin.eq (r':=(T.agg (Qa false a))) ?_ (vfin.r (VRes.celln (ws:=(Qa false a)) Y Y QfZ YE (lb Y) Y VRes.nil) (Give.agg (GiveL.cons (Give.int _ _) (GiveL.cons (Give.int _ _) (GiveL.cons (Give.int _ _) (GiveL.cons (Give.str _) GiveL.nil (by decide)) (by decide)) (by decide)) (by decide))))
 first | rfl | (exact Qv (by omega)) | (symm;rw [decide_eq_false_iff_not];omega) | (symm;rw [decide_eq_true_eq];omega) | (simp_all;done)
theorem Je (n:Nat) (a:List D.Report) (ha:a.length≤mx):Pure (Qq Tryz.prog (n+2)) 9 [(rd 4 Qa a)] (T.sl true 4 (a.map (Qa true))):=by
 refine Pure.intro (rs:= [ResultVar.tmp 2]) Tryz.func9 Y Y Y (E0:= [(0,(rd 4 Qa a))]) Y ?_
 obtain ⟨hlim,hmx,hmax⟩:=QC
 refine sr (fO (OF.assign VEv.nils) (nt (sr (mO (rd 4 Qa a) Y (lO (B.lenR (m:=a.length) (tv (rd 4 Qa a) Y) U22 (List.length_map ..)) (kO (B.makeZ (n:=a.length) (m:=((List.replicate a.length (D.Report.mk 0 0 0 ByteArray.empty)).map (Qa true)).length) (rows:=((List.replicate a.length (D.Report.mk 0 0 0 ByteArray.empty)).map (Qa true))) (zr:=(Qa true (D.Report.mk 0 0 0 ByteArray.empty))) (tv (tN a.length) Y) (tv (tN a.length) Y) Y U34 QiU QiY Y (by rw [YE];decide) (by first | omega | (simp only [List.length_map];omega) | (simp only [List.length_map,List.length_append,List.length_cons,List.length_nil,List.length_replicate,List.length_set,List.length_drop,List.length_take,Zk] at *;omega)) (of_decide_eq_true (by kernel_rfl)) (Z0.int (Z0.int (Z0.int (Z0.str Z0.nil)))) YE (List.map_replicate ..).symm (by rw [List.length_map,List.length_replicate])) (aO (T.os 4 0 0 (((List.replicate a.length (D.Report.mk 0 0 0 ByteArray.empty)).map (Qa true)).length)) Y (nt (sq (sr (fO (OF.assign (VEv.int .i64 0)) ?_)))))))))))
 refine nt (VRun.block ?_)
 have he1:(List.replicate a.length (D.Report.mk 0 0 0 ByteArray.empty))=(a.take 0++List.replicate (a.length - 0) (D.Report.mk 0 0 0 ByteArray.empty)):=by first | rfl | (exact YW hx1) | (simp;done) | omega
 refine VRun.loop (A:=Nat) (fun s_=> [(0,(rd 4 Qa a)),(2,T.nils),(3,(T.os 4 0 0 (((a.take s_++List.replicate (a.length - s_) (D.Report.mk 0 0 0 ByteArray.empty)).map (Qa true)).length))),(4,(tN s_))]) (fun s_=>QU [(0,(Obj.rows 4 ((a.take s_++List.replicate (a.length - s_) (D.Report.mk 0 0 0 ByteArray.empty)).map (Qa true))))]) 1 (fun s_=>s_≤a.length) (fun s_=>a.length - s_) (0:Nat) ?_ (Wk.mk (fun k=>k) ?_ ?_ ?_) ?_
 ·first | trivial | (simp;done) | omega | (constructor<;>simp)
 ·exact (b2 (b2 (bc ⟨(congrArg (fun l_=>T.os 4 0 0 (List.map (Qa true) l_).length) he1),rfl⟩ (b2 bn))))
 ·exact (bc ⟨(congrArg (fun l_=>some (Obj.rows 4 (List.map (Qa true) l_))) he1),(lb Y),rfl⟩ bn)
 ·exact nd Y
 rintro i (hI':i≤a.length)
 show VRun _ _ _ [(0,(rd 4 Qa a)),(2,T.nils),(3,(T.os 4 0 0 (((a.take i++List.replicate (a.length - i) (D.Report.mk 0 0 0 ByteArray.empty)).map (Qa true)).length))),(4,(tN i))] (QU [(0,(Obj.rows 4 ((a.take i++List.replicate (a.length - i) (D.Report.mk 0 0 0 ByteArray.empty)).map (Qa true))))]) 1 _
 have hfl:=QcU (w:=(D.Report.mk 0 0 0 ByteArray.empty)) hI'
 refine sq (sr (mO (tN i) Y (mO (rd 4 Qa a) Y (lO (B.lenR (m:=a.length) (tv (rd 4 Qa a) Y) U22 (List.length_map ..)) (fO (Q2 (tv (tN i) Y) (tv (tN a.length) Y)) (nt ?_))))))
 refine cd (i<a.length) Y (fun fhc0=> ?_) fun fhc0=> ?_
 ·refine sk ?_
  refine tn (sq (VRun.block (VRun.region (mO (T.os 4 0 0 (((a.take i++List.replicate (a.length - i) (D.Report.mk 0 0 0 ByteArray.empty)).map (Qa true)).length)) Y (mO (tN i) Y (mO (rd 4 Qa a) Y (mO (tN i) Y ?_)))))))
  obtain ⟨x1,hx1⟩:∃x,a[i]? =some x:=⟨_,List.getElem?_eq_getElem (by omega)⟩
  refine fO (OF.indexAddrR (row:=(Qa false x1)) (i:=i) (tv (rd 4 Qa a) Y) (tv (tN i) Y) Y (Qu _ hx1) U22 Ql3 QoB) (lO (OL.loadRn (us:=(Qa false x1)) (tv (T.rp (Qa false x1)) Y) Qoq Ql3 (lb Y) Y) (cO (cS (vc (tv (T.agg (Qa false x1)) Y) vn) (LendL.cons (lg okeReport) ln) (Qel (n+0) x1) Y Y) ?_))
  obtain ⟨x2,hx2⟩:∃x,(a.take i++List.replicate (a.length - i) (D.Report.mk 0 0 0 ByteArray.empty))[i]? =some x:=⟨_,List.getElem?_eq_getElem (by first | omega | (simp only [List.length_map];omega) | (simp only [List.length_map,List.length_append,List.length_cons,List.length_nil,List.length_replicate,List.length_set,List.length_drop,List.length_take,Zk] at *;omega))⟩
  refine fO (B.indexAddrO (i:=i) (tv (T.os 4 0 0 (((a.take i++List.replicate (a.length - i) (D.Report.mk 0 0 0 ByteArray.empty)).map (Qa true)).length)) Y) (tv (tN i) Y) Y (by first | omega | (simp only [List.length_map];omega) | (simp only [List.length_map,List.length_append,List.length_cons,List.length_nil,List.length_replicate,List.length_set,List.length_drop,List.length_take,Zk] at *;omega)) U34 YE QaT) (cO (B.storeP (us:=(Qa true x1)) (rows':=(((a.take i++List.replicate (a.length - i) (D.Report.mk 0 0 0 ByteArray.empty)).set i x1).map (Qa true))) (row:=(Qa true x2)) (tv (T.orp 4 0 i 0) Y) (tv (T.agg (Qa true x1)) Y) nofun Y (Qu _ hx2) Y (lb Y) QaT YE (bc Y (bc Y (bc Y (bc Y bn)))) (by intro r hr t ht;obtain ⟨x,_,rfl⟩:=List.mem_map.1 hr;rw [Qlu] at ht;exact ZN (okeReport.pl _ t ht)) (Z6 Y)) (VRunO.nil (vinB.n (tn (VRun.region (mO (tN i) Y (fO (Qx (tv (tN i) Y) (VEv.int .i64 1) (by omega)) (aO (tN (i+1)) Y (VRunO.nil (tn ?_))))))))))
  have he2:((a.take i++List.replicate (a.length - i) (D.Report.mk 0 0 0 ByteArray.empty)).set i x1)=(a.take (i+1)++List.replicate (a.length - (i+1)) (D.Report.mk 0 0 0 ByteArray.empty)):=by first | rfl | (exact YW hx1) | (simp;done) | omega
  refine ⟨(i+1:Nat),?_,?_,Wk.mk (fun k=>k) ?_ ?_ ?_⟩
  ·first | trivial | omega | (simp;done) | exact ⟨by omega,hI'.2⟩
  ·first | omega | (simp only [];omega) | (show _<_;omega) | (simp;omega)
  ·exact (b2 (b2 (bc ⟨(congrArg (fun n_=>T.os 4 0 0 n_) (show ((a.take i++List.replicate (a.length - i) (D.Report.mk 0 0 0 ByteArray.empty)).map (Qa true)).length=((a.take (i+1)++List.replicate (a.length - (i+1)) (D.Report.mk 0 0 0 ByteArray.empty)).map (Qa true)).length from (by first | rfl | (simp only [List.length_map];omega) | (simp only [List.length_map,List.length_set,List.length_append,List.length_take,List.length_replicate,List.length_cons,List.length_nil];omega)))),rfl⟩ (b2 bn))))
  ·exact (bc ⟨(congrArg (fun l_=>some (Obj.rows 4 (List.map (Qa true) l_))) he2),(lb Y),rfl⟩ bn)
  ·exact nd Y
 refine VRun.exit (vthn.e (vthn.e (vinB.e (tn (sr (mO (T.os 4 0 0 (((a.take i++List.replicate (a.length - i) (D.Report.mk 0 0 0 ByteArray.empty)).map (Qa true)).length)) Y (aO (T.os 4 0 0 (((a.take i++List.replicate (a.length - i) (D.Report.mk 0 0 0 ByteArray.empty)).map (Qa true)).length)) Y (nt (rt ?_)))))))))
 refine vfin.eq (r':=(T.sl true 4 ((a.take i++List.replicate (a.length - i) (D.Report.mk 0 0 0 ByteArray.empty)).map (Qa true)))) ?_ (vfin.r (VRes.tmp (t:=(T.os 4 0 0 (((a.take i++List.replicate (a.length - i) (D.Report.mk 0 0 0 ByteArray.empty)).map (Qa true)).length))) Y VRes.nil) (Give.os Y Y (okeReport.cleanMap _)))
 refine congrArg (fun l_=>T.sl true 4 (List.map (Qa true) l_)) ?_
 exact QaC fhc0
theorem QfS (n:Nat) (a:List Int) (b:List Int) (hla:a.length≤mx) (hlb:b.length≤mx):Pure (Qq Tryz.prog (n+1)) 51 [(rd 1 Qe a),(rd 1 Qe b)] (tB (decide (a=b))):=by
 refine Pure.intro (rs:= [ResultVar.tmp 4]) Tryz.func51 Y Y Y (E0:= [(0,(rd 1 Qe a)),(1,(rd 1 Qe b))]) Y ?_
 obtain ⟨hlim,hmx,hmax⟩:=QC
 refine sr (fO (OF.assign (VEv.bool false)) (nt (sq (sr (mO (rd 1 Qe a) Y (lO (B.lenR (m:=a.length) (tv (rd 1 Qe a) Y) ZE (List.length_map ..)) (mO (rd 1 Qe b) Y (lO (B.lenR (m:=b.length) (tv (rd 1 Qe b) Y) ZE (List.length_map ..)) (fO (Qj8 (tv (tN a.length) Y) (tv (tN b.length) Y)) (nt ?_))))))))))
 refine cn (a.length=b.length) Y (fun fhc0=> ?_) fun fhc0=> ?_
 ·refine sr ?_
  refine fO (OF.assign (VEv.bool false)) (nt (rt (tr (vb (b':=false) Y ?_))))
  symm;rw [decide_eq_false_iff_not];rintro rfl;exact fhc0 Y
 refine sk (tn (sq (sr (fO (OF.assign (VEv.int .i64 0)) (nt (VRun.block ?_))))))
 refine VRun.loop (A:=Nat) (fun s_=> [(0,(rd 1 Qe a)),(1,(rd 1 Qe b)),(5,(tN s_))]) (fun s_=>QU []) 0 (fun s_=>s_≤a.length∧∀j,j<s_→a[j]? =b[j]?) (fun s_=>a.length - s_) (0:Nat) ?_ (Wk.mk (fun k=>k) ?_ ?_ ?_) ?_
 ·(simp;done)
 ·exact (b2 (b2 (b2 bn)))
 ·exact bn
 ·exact nd Y
 rintro i (hI':i≤a.length∧∀j,j<i→a[j]? =b[j]?)
 show VRun _ _ _ [(0,(rd 1 Qe a)),(1,(rd 1 Qe b)),(5,(tN i))] (QU []) 0 _
 refine sq (sr (mO (tN i) Y (mO (rd 1 Qe a) Y (lO (B.lenR (m:=a.length) (tv (rd 1 Qe a) Y) ZE (List.length_map ..)) (fO (Q2 (tv (tN i) Y) (tv (tN a.length) Y)) (nt ?_))))))
 refine cd (i<a.length) Y (fun fhc1=> ?_) fun fhc1=> ?_
 ·refine sk ?_
  refine tn (sq (VRun.block (sq (VRun.draw (B:= [[],[],[1,0],[0,1,2],[],[],[5,4],[4,5,6],[6,5,4,7,2,1,0,3]]) (by kernel_rfl) (by kernel_rfl) (mD (rd 1 Qe a) Y Y (mD (tN i) Y Y ?_))))))
  obtain ⟨x1,hx1⟩:∃x,a[i]? =some x:=⟨_,List.getElem?_eq_getElem (by omega)⟩
  refine fD (OF.indexAddrR (row:=(Qe false x1)) (i:=i) (tv (rd 1 Qe a) Y) (tv (tN i) Y) Y (Qu _ hx1) ZE Zu Jc) Y Y (lD (OL.loadR1 (t:=(tI x1)) (tv (T.rp [(tI x1)]) Y) Y QQ) Y Y (mD (rd 1 Qe b) Y Y (mD (tN i) Y Y ?_)))
  obtain ⟨x2,hx2⟩:∃x,b[i]? =some x:=⟨_,List.getElem?_eq_getElem (by omega)⟩
  refine fD (OF.indexAddrR (row:=(Qe false x2)) (i:=i) (tv (rd 1 Qe b) Y) (tv (tN i) Y) Y (Qu _ hx2) ZE Zu Jc) Y Y (lD (OL.loadR1 (t:=(tI x2)) (tv (T.rp [(tI x2)]) Y) Y QQ) Y Y (fD (xne (tv (tI x1) Y) (tv (tI x2) Y)) Y Y (VRunD.nil (tn ?_))))
  refine cn (x1=x2) Y (fun fhc2=> ?_) fun fhc2=> ?_
  ·refine sr ?_
   refine fO (OF.assign (VEv.bool false)) (nt (rt (vinB.r (tr (tr (vinB.r (tr (vb (b':=false) Y ?_))))))))
   symm;rw [decide_eq_false_iff_not];exact QaG hx1 hx2 fhc2
  refine sk (vinB.n (tn (VRun.region (mO (tN i) Y (fO (Qx (tv (tN i) Y) (VEv.int .i64 1) (by omega)) (aO (tN (i+1)) Y (VRunO.nil (tn ?_))))))))
  refine ⟨(i+1:Nat),?_,?_,Wk.mk (fun k=>k) ?_ ?_ ?_⟩
  ·exact JT hI' hx1 hx2 fhc2
  ·omega
  ·exact (b2 (b2 (b2 bn)))
  ·exact bn
  ·exact nd Y
 refine VRun.exit (vthn.e (vthn.e (vinB.e (tn (sr (fO (OF.assign (VEv.bool true)) (nt (rt (vb (b':=true) Y ?_)))))))))
 symm;rw [decide_eq_true_eq];exact QaD hI' fhc0 fhc1
theorem Qf1 (n:Nat) (a:D.Grid) (b:D.Grid):Pure (Qq Tryz.prog (n+1)) 49 [(T.agg (Qc false a)),(T.agg (Qc false b))] (tB (decide (a=b))):=by
 refine Pure.intro (rs:= [ResultVar.tmp 4]) Tryz.func49 Y Y Y (E0:= [(0,(T.agg (Qc false a))),(1,(T.agg (Qc false b)))]) Y ?_
 obtain ⟨hlim,hmx,hmax⟩:=QC
 refine sr (kO (B.box (ts:=(Qc false a)) (tv (T.agg (Qc false a)) Y) nofun Y) (kO (B.box (ts:=(Qc false b)) (tv (T.agg (Qc false b)) Y) nofun Y) (fO (OF.assign (VEv.bool false)) (nt (sq (sr (lf (tI a.Rows) Y Qan Y Y QQ (lf (tI b.Rows) Y Qan Y Y QQ (fO (xne (tv (tI a.Rows) Y) (tv (tI b.Rows) Y)) (nt ?_))))))))))
 refine cn (a.Rows=b.Rows) Y (fun fhc0=> ?_) fun fhc0=> ?_
 ·refine sr ?_
  refine fO (OF.assign (VEv.bool false)) (nt (rt (tr (vb (b':=false) Y ?_))))
  obtain ⟨a0,a1,a2⟩:=a
  obtain ⟨b0,b1,b2⟩:=b
  simp_all
 refine sk (tn (sq (sr (lf (tI a.Cols) Y Zr Y Y QQ (lf (tI b.Cols) Y Zr Y Y QQ (fO (xne (tv (tI a.Cols) Y) (tv (tI b.Cols) Y)) (nt ?_)))))))
 refine cn (a.Cols=b.Cols) Y (fun fhc1=> ?_) fun fhc1=> ?_
 ·refine sr ?_
  refine fO (OF.assign (VEv.bool false)) (nt (rt (tr (vb (b':=false) Y ?_))))
  obtain ⟨a0,a1,a2⟩:=a
  obtain ⟨b0,b1,b2⟩:=b
  simp_all
 refine sk (tn (sq (sr (lf (tS a.Cells) Y QL Y Y ZH (lf (tS b.Cells) Y QL Y Y ZH (fO (B.sneq (c:=(!(decide (a.Cells=b.Cells)))) (tv (tS a.Cells) Y) (tv (tS b.Cells) Y) Y) (nt ?_)))))))
 refine cn (a.Cells=b.Cells) Y (fun fhc2=> ?_) fun fhc2=> ?_
 ·refine sr ?_
  refine fO (OF.assign (VEv.bool false)) (nt (rt (tr (vb (b':=false) Y ?_))))
  obtain ⟨a0,a1,a2⟩:=a
  obtain ⟨b0,b1,b2⟩:=b
  simp_all
 refine sk (tn (sr (fO (OF.assign (VEv.bool true)) (nt (rt (vb (b':=true) Y ?_))))))
 obtain ⟨a0,a1,a2⟩:=a
 obtain ⟨b0,b1,b2⟩:=b
 simp_all
theorem Qgd (n:Nat) (a:D.Step) (b:D.Step):Pure (Qq Tryz.prog (n+1)) 135 [(T.agg (Qf false a)),(T.agg (Qf false b))] (tB (decide (a=b))):=by
 refine Pure.intro (rs:= [ResultVar.tmp 4]) Tryz.func135 Y Y Y (E0:= [(0,(T.agg (Qf false a))),(1,(T.agg (Qf false b)))]) Y ?_
 obtain ⟨hlim,hmx,hmax⟩:=QC
 refine sr (kO (B.box (ts:=(Qf false a)) (tv (T.agg (Qf false a)) Y) nofun Y) (kO (B.box (ts:=(Qf false b)) (tv (T.agg (Qf false b)) Y) nofun Y) (fO (OF.assign (VEv.bool false)) (nt (sq (sr (lf (tI a.Kind) Y Q7 Y Y QQ (lf (tI b.Kind) Y Q7 Y Y QQ (fO (xne (tv (tI a.Kind) Y) (tv (tI b.Kind) Y)) (nt ?_))))))))))
 refine cn (a.Kind=b.Kind) Y (fun fhc0=> ?_) fun fhc0=> ?_
 ·refine sr ?_
  refine fO (OF.assign (VEv.bool false)) (nt (rt (tr (vb (b':=false) Y ?_))))
  obtain ⟨a0,a1,a2,a3⟩:=a
  obtain ⟨b0,b1,b2,b3⟩:=b
  simp_all
 refine sk (tn (sq (sr (lf (tS a.Word) Y Yb Y Y ZH (lf (tS b.Word) Y Yb Y Y ZH (fO (B.sneq (c:=(!(decide (a.Word=b.Word)))) (tv (tS a.Word) Y) (tv (tS b.Word) Y) Y) (nt ?_)))))))
 refine cn (a.Word=b.Word) Y (fun fhc1=> ?_) fun fhc1=> ?_
 ·refine sr ?_
  refine fO (OF.assign (VEv.bool false)) (nt (rt (tr (vb (b':=false) Y ?_))))
  obtain ⟨a0,a1,a2,a3⟩:=a
  obtain ⟨b0,b1,b2,b3⟩:=b
  simp_all
 refine sk (tn (sq (sr (lf (tI a.A) Y Zs Y Y QQ (lf (tI b.A) Y Zs Y Y QQ (fO (xne (tv (tI a.A) Y) (tv (tI b.A) Y)) (nt ?_)))))))
 refine cn (a.A=b.A) Y (fun fhc2=> ?_) fun fhc2=> ?_
 ·refine sr ?_
  refine fO (OF.assign (VEv.bool false)) (nt (rt (tr (vb (b':=false) Y ?_))))
  obtain ⟨a0,a1,a2,a3⟩:=a
  obtain ⟨b0,b1,b2,b3⟩:=b
  simp_all
 refine sk (tn (sq (sr (lf (tI a.B) Y ZQ Y Y QQ (lf (tI b.B) Y ZQ Y Y QQ (fO (xne (tv (tI a.B) Y) (tv (tI b.B) Y)) (nt ?_)))))))
 refine cn (a.B=b.B) Y (fun fhc3=> ?_) fun fhc3=> ?_
 ·refine sr ?_
  refine fO (OF.assign (VEv.bool false)) (nt (rt (tr (vb (b':=false) Y ?_))))
  obtain ⟨a0,a1,a2,a3⟩:=a
  obtain ⟨b0,b1,b2,b3⟩:=b
  simp_all
 refine sk (tn (sr (fO (OF.assign (VEv.bool true)) (nt (rt (vb (b':=true) Y ?_))))))
 obtain ⟨a0,a1,a2,a3⟩:=a
 obtain ⟨b0,b1,b2,b3⟩:=b
 simp_all
theorem Qff (n:Nat) (a:List D.Step) (b:List D.Step) (hla:a.length≤mx) (hlb:b.length≤mx):Pure (Qq Tryz.prog (n+2)) 99 [(rd 4 Qf a),(rd 4 Qf b)] (tB (decide (a=b))):=by
 refine Pure.intro (rs:= [ResultVar.tmp 4]) Tryz.func99 Y Y Y (E0:= [(0,(rd 4 Qf a)),(1,(rd 4 Qf b))]) Y ?_
 obtain ⟨hlim,hmx,hmax⟩:=QC
 refine sr (fO (OF.assign (VEv.bool false)) (nt (sq (sr (mO (rd 4 Qf a) Y (lO (B.lenR (m:=a.length) (tv (rd 4 Qf a) Y) U62 (List.length_map ..)) (mO (rd 4 Qf b) Y (lO (B.lenR (m:=b.length) (tv (rd 4 Qf b) Y) U62 (List.length_map ..)) (fO (Qj8 (tv (tN a.length) Y) (tv (tN b.length) Y)) (nt ?_))))))))))
 refine cn (a.length=b.length) Y (fun fhc0=> ?_) fun fhc0=> ?_
 ·refine sr ?_
  refine fO (OF.assign (VEv.bool false)) (nt (rt (tr (vb (b':=false) Y ?_))))
  symm;rw [decide_eq_false_iff_not];rintro rfl;exact fhc0 Y
 refine sk (tn (sq (sr (fO (OF.assign (VEv.int .i64 0)) (nt (VRun.block ?_))))))
 refine VRun.loop (A:=Nat) (fun s_=> [(0,(rd 4 Qf a)),(1,(rd 4 Qf b)),(5,(tN s_))]) (fun s_=>QU []) 0 (fun s_=>s_≤a.length∧∀j,j<s_→a[j]? =b[j]?) (fun s_=>a.length - s_) (0:Nat) ?_ (Wk.mk (fun k=>k) ?_ ?_ ?_) ?_
 ·(simp;done)
 ·exact (b2 (b2 (b2 bn)))
 ·exact bn
 ·exact nd Y
 rintro i (hI':i≤a.length∧∀j,j<i→a[j]? =b[j]?)
 show VRun _ _ _ [(0,(rd 4 Qf a)),(1,(rd 4 Qf b)),(5,(tN i))] (QU []) 0 _
 refine sq (sr (mO (tN i) Y (mO (rd 4 Qf a) Y (lO (B.lenR (m:=a.length) (tv (rd 4 Qf a) Y) U62 (List.length_map ..)) (fO (Q2 (tv (tN i) Y) (tv (tN a.length) Y)) (nt ?_))))))
 refine cd (i<a.length) Y (fun fhc1=> ?_) fun fhc1=> ?_
 ·refine sk ?_
  refine tn (sq (VRun.block (sq (VRun.draw (B:= [[],[],[1,0],[0,1,2],[],[],[5,4],[4,5,6],[6,5,4,7,2,1,0,3],[3,0,1,2,7,4,5,6,8]]) (by kernel_rfl) (by kernel_rfl) (mD (rd 4 Qf a) Y Y (mD (tN i) Y Y ?_))))))
  obtain ⟨x1,hx1⟩:∃x,a[i]? =some x:=⟨_,List.getElem?_eq_getElem (by omega)⟩
  refine fD (OF.indexAddrR (row:=(Qf false x1)) (i:=i) (tv (rd 4 Qf a) Y) (tv (tN i) Y) Y (Qu _ hx1) U62 ZD YH) Y Y (lD (OL.loadRn (us:=(Qf false x1)) (tv (T.rp (Qf false x1)) Y) Qb9 ZD (lb Y) Y) Y Y (mD (rd 4 Qf b) Y Y (mD (tN i) Y Y ?_)))
  obtain ⟨x2,hx2⟩:∃x,b[i]? =some x:=⟨_,List.getElem?_eq_getElem (by omega)⟩
  refine fD (OF.indexAddrR (row:=(Qf false x2)) (i:=i) (tv (rd 4 Qf b) Y) (tv (tN i) Y) Y (Qu _ hx2) U62 ZD YH) Y Y (lD (OL.loadRn (us:=(Qf false x2)) (tv (T.rp (Qf false x2)) Y) Qb9 ZD (lb Y) Y) Y Y (VRunD.quiet (bi:= [6,5,4,7,2,1,0,3]) Y VWant.always Y Y Y bn (cS (vc (tv (T.agg (Qf false x1)) Y) (vc (tv (T.agg (Qf false x2)) Y) vn)) (LendL.cons (lg okeStep) (LendL.cons (lg okeStep) ln)) (Qgd (n+0) x1 x2) Y Y) (fD (QW (tv (tB (decide (x1=x2))) Y)) Y Y (VRunD.nil (tn ?_)))))
  refine cn (x1=x2) Y (fun fhc2=> ?_) fun fhc2=> ?_
  ·refine sr ?_
   refine fO (OF.assign (VEv.bool false)) (nt (rt (vinB.r (tr (tr (vinB.r (tr (vb (b':=false) Y ?_))))))))
   symm;rw [decide_eq_false_iff_not];exact QaG hx1 hx2 fhc2
  refine sk (vinB.n (tn (VRun.region (mO (tN i) Y (fO (Qx (tv (tN i) Y) (VEv.int .i64 1) (by omega)) (aO (tN (i+1)) Y (VRunO.nil (tn ?_))))))))
  refine ⟨(i+1:Nat),?_,?_,Wk.mk (fun k=>k) ?_ ?_ ?_⟩
  ·exact JT hI' hx1 hx2 fhc2
  ·omega
  ·exact (b2 (b2 (b2 bn)))
  ·exact bn
  ·exact nd Y
 refine VRun.exit (vthn.e (vthn.e (vinB.e (tn (sr (fO (OF.assign (VEv.bool true)) (nt (rt (vb (b':=true) Y ?_)))))))))
 symm;rw [decide_eq_true_eq];exact QaD hI' fhc0 fhc1
theorem Qf7 (n:Nat) (a:D.Clue) (b:D.Clue) (ha:QP a≤mx) (hb:QP b≤mx):Pure (Qq Tryz.prog (n+3)) 63 [(T.agg (Qi false a)),(T.agg (Qi false b))] (tB (decide (a=b))):=by
 refine Pure.intro (rs:= [ResultVar.tmp 4]) Tryz.func63 Y Y Y (E0:= [(0,(T.agg (Qi false a))),(1,(T.agg (Qi false b)))]) Y ?_
 obtain ⟨hlim,hmx,hmax⟩:=QC
 simp only [QP] at ha hb
 have hla_Play:=QV (z:=Ze) a.Play
 have hlb_Play:=QV (z:=Ze) b.Play
 refine sr (kO (B.box (ts:=(Qi false a)) (tv (T.agg (Qi false a)) Y) nofun Y) (kO (B.box (ts:=(Qi false b)) (tv (T.agg (Qi false b)) Y) nofun Y) (fO (OF.assign (VEv.bool false)) (nt (sq (sr (lf (tI a.Sense) Y Qci Y Y QQ (lf (tI b.Sense) Y Qci Y Y QQ (fO (xne (tv (tI a.Sense) Y) (tv (tI b.Sense) Y)) (nt ?_))))))))))
 refine cn (a.Sense=b.Sense) Y (fun fhc0=> ?_) fun fhc0=> ?_
 ·refine sr ?_
  refine fO (OF.assign (VEv.bool false)) (nt (rt (tr (vb (b':=false) Y ?_))))
  obtain ⟨a0,a1⟩:=a
  obtain ⟨b0,b1⟩:=b
  simp_all
 refine sk (tn (sq (sr (lf (rd 4 Qf a.Play) Y Qcz Y Y Qks (lf (rd 4 Qf b.Play) Y Qcz Y Y Qks (cO (cS (vc (tv (rd 4 Qf a.Play) Y) (vc (tv (rd 4 Qf b.Play) Y) vn)) (Q8 Y) (Qff (n+0) a.Play b.Play (by omega) (by omega)) Y Y) (fO (QW (tv (tB (decide (a.Play=b.Play))) Y)) (nt ?_))))))))
 refine cn (a.Play=b.Play) Y (fun fhc1=> ?_) fun fhc1=> ?_
 ·refine sr ?_
  refine fO (OF.assign (VEv.bool false)) (nt (rt (tr (vb (b':=false) Y ?_))))
  obtain ⟨a0,a1⟩:=a
  obtain ⟨b0,b1⟩:=b
  simp_all
 refine sk (tn (sr (fO (OF.assign (VEv.bool true)) (nt (rt (vb (b':=true) Y ?_))))))
 obtain ⟨a0,a1⟩:=a
 obtain ⟨b0,b1⟩:=b
 simp_all
theorem Qfp (n:Nat) (a:List D.Clue) (b:List D.Clue) (ha:zL QP a≤mx) (hb:zL QP b≤mx):Pure (Qq Tryz.prog (n+4)) 50 [(rd 2 Qi a),(rd 2 Qi b)] (tB (decide (a=b))):=by
 refine Pure.intro (rs:= [ResultVar.tmp 4]) Tryz.func50 Y Y Y (E0:= [(0,(rd 2 Qi a)),(1,(rd 2 Qi b))]) Y ?_
 obtain ⟨hlim,hmx,hmax⟩:=QC
 have hla:=QV (z:=QP) a
 have hlb:=QV (z:=QP) b
 refine sr (fO (OF.assign (VEv.bool false)) (nt (sq (sr (mO (rd 2 Qi a) Y (lO (B.lenR (m:=a.length) (tv (rd 2 Qi a) Y) U37 (List.length_map ..)) (mO (rd 2 Qi b) Y (lO (B.lenR (m:=b.length) (tv (rd 2 Qi b) Y) U37 (List.length_map ..)) (fO (Qj8 (tv (tN a.length) Y) (tv (tN b.length) Y)) (nt ?_))))))))))
 refine cn (a.length=b.length) Y (fun fhc0=> ?_) fun fhc0=> ?_
 ·refine sr ?_
  refine fO (OF.assign (VEv.bool false)) (nt (rt (tr (vb (b':=false) Y ?_))))
  symm;rw [decide_eq_false_iff_not];rintro rfl;exact fhc0 Y
 refine sk (tn (sq (sr (fO (OF.assign (VEv.int .i64 0)) (nt (VRun.block ?_))))))
 refine VRun.loop (A:=Nat) (fun s_=> [(0,(rd 2 Qi a)),(1,(rd 2 Qi b)),(5,(tN s_))]) (fun s_=>QU []) 0 (fun s_=>s_≤a.length∧∀j,j<s_→a[j]? =b[j]?) (fun s_=>a.length - s_) (0:Nat) ?_ (Wk.mk (fun k=>k) ?_ ?_ ?_) ?_
 ·(simp;done)
 ·exact (b2 (b2 (b2 bn)))
 ·exact bn
 ·exact nd Y
 rintro i (hI':i≤a.length∧∀j,j<i→a[j]? =b[j]?)
 show VRun _ _ _ [(0,(rd 2 Qi a)),(1,(rd 2 Qi b)),(5,(tN i))] (QU []) 0 _
 refine sq (sr (mO (tN i) Y (mO (rd 2 Qi a) Y (lO (B.lenR (m:=a.length) (tv (rd 2 Qi a) Y) U37 (List.length_map ..)) (fO (Q2 (tv (tN i) Y) (tv (tN a.length) Y)) (nt ?_))))))
 refine cd (i<a.length) Y (fun fhc1=> ?_) fun fhc1=> ?_
 ·refine sk ?_
  refine tn (sq (VRun.block (sq (VRun.draw (B:= [[],[],[1,0],[0,1,2],[],[],[5,4],[4,5,6],[6,5,4,7,2,1,0,3],[3,0,1,2,7,4,5,6,8]]) (by kernel_rfl) (by kernel_rfl) (mD (rd 2 Qi a) Y Y (mD (tN i) Y Y ?_))))))
  obtain ⟨x1,hx1⟩:∃x,a[i]? =some x:=⟨_,List.getElem?_eq_getElem (by omega)⟩
  refine fD (OF.indexAddrR (row:=(Qi false x1)) (i:=i) (tv (rd 2 Qi a) Y) (tv (tN i) Y) Y (Qu _ hx1) U37 J5 Qhi) Y Y (lD (OL.loadRn (us:=(Qi false x1)) (tv (T.rp (Qi false x1)) Y) Qft J5 (lb Y) Y) Y Y (mD (rd 2 Qi b) Y Y (mD (tN i) Y Y ?_)))
  obtain ⟨x2,hx2⟩:∃x,b[i]? =some x:=⟨_,List.getElem?_eq_getElem (by omega)⟩
  refine fD (OF.indexAddrR (row:=(Qi false x2)) (i:=i) (tv (rd 2 Qi b) Y) (tv (tN i) Y) Y (Qu _ hx2) U37 J5 Qhi) Y Y (lD (OL.loadRn (us:=(Qi false x2)) (tv (T.rp (Qi false x2)) Y) Qft J5 (lb Y) Y) Y Y (VRunD.quiet (bi:= [6,5,4,7,2,1,0,3]) Y VWant.always Y Y Y bn (cS (vc (tv (T.agg (Qi false x1)) Y) (vc (tv (T.agg (Qi false x2)) Y) vn)) (LendL.cons (lg okeClue) (LendL.cons (lg okeClue) ln)) (Qf7 (n+0) x1 x2 (by exact Nat.le_trans (JH hx1) ha) (by exact Nat.le_trans (JH hx2) hb)) Y Y) (fD (QW (tv (tB (decide (x1=x2))) Y)) Y Y (VRunD.nil (tn ?_)))))
  refine cn (x1=x2) Y (fun fhc2=> ?_) fun fhc2=> ?_
  ·refine sr ?_
   refine fO (OF.assign (VEv.bool false)) (nt (rt (vinB.r (tr (tr (vinB.r (tr (vb (b':=false) Y ?_))))))))
   symm;rw [decide_eq_false_iff_not];exact QaG hx1 hx2 fhc2
  refine sk (vinB.n (tn (VRun.region (mO (tN i) Y (fO (Qx (tv (tN i) Y) (VEv.int .i64 1) (by omega)) (aO (tN (i+1)) Y (VRunO.nil (tn ?_))))))))
  refine ⟨(i+1:Nat),?_,?_,Wk.mk (fun k=>k) ?_ ?_ ?_⟩
  ·exact JT hI' hx1 hx2 fhc2
  ·omega
  ·exact (b2 (b2 (b2 bn)))
  ·exact bn
  ·exact nd Y
 refine VRun.exit (vthn.e (vthn.e (vinB.e (tn (sr (fO (OF.assign (VEv.bool true)) (nt (rt (vb (b':=true) Y ?_)))))))))
 symm;rw [decide_eq_true_eq];exact QaD hI' fhc0 fhc1
theorem Qd2 (n:Nat) (a:D.Meaning) (b:D.Meaning):Pure (Qq Tryz.prog (n+1)) 52 [(T.agg (Qb false a)),(T.agg (Qb false b))] (tB (decide (a=b))):=by
 refine Pure.intro (rs:= [ResultVar.tmp 4]) Tryz.func52 Y Y Y (E0:= [(0,(T.agg (Qb false a))),(1,(T.agg (Qb false b)))]) Y ?_
 obtain ⟨hlim,hmx,hmax⟩:=QC
 refine sr (kO (B.box (ts:=(Qb false a)) (tv (T.agg (Qb false a)) Y) nofun Y) (kO (B.box (ts:=(Qb false b)) (tv (T.agg (Qb false b)) Y) nofun Y) (fO (OF.assign (VEv.bool false)) (nt (sq (sr (lf (tS a.Word) Y QgT Y Y ZH (lf (tS b.Word) Y QgT Y Y ZH (fO (B.sneq (c:=(!(decide (a.Word=b.Word)))) (tv (tS a.Word) Y) (tv (tS b.Word) Y) Y) (nt ?_))))))))))
 refine cn (a.Word=b.Word) Y (fun fhc0=> ?_) fun fhc0=> ?_
 ·refine sr ?_
  refine fO (OF.assign (VEv.bool false)) (nt (rt (tr (vb (b':=false) Y ?_))))
  obtain ⟨a0,a1⟩:=a
  obtain ⟨b0,b1⟩:=b
  simp_all
 refine sk (tn (sq (sr (lf (tI a.Sense) Y Qg4 Y Y QQ (lf (tI b.Sense) Y Qg4 Y Y QQ (fO (xne (tv (tI a.Sense) Y) (tv (tI b.Sense) Y)) (nt ?_)))))))
 refine cn (a.Sense=b.Sense) Y (fun fhc1=> ?_) fun fhc1=> ?_
 ·refine sr ?_
  refine fO (OF.assign (VEv.bool false)) (nt (rt (tr (vb (b':=false) Y ?_))))
  obtain ⟨a0,a1⟩:=a
  obtain ⟨b0,b1⟩:=b
  simp_all
 refine sk (tn (sr (fO (OF.assign (VEv.bool true)) (nt (rt (vb (b':=true) Y ?_))))))
 obtain ⟨a0,a1⟩:=a
 obtain ⟨b0,b1⟩:=b
 simp_all
theorem Qdh (n:Nat) (a:List D.Meaning) (b:List D.Meaning) (hla:a.length≤mx) (hlb:b.length≤mx):Pure (Qq Tryz.prog (n+2)) 15 [(rd 2 Qb a),(rd 2 Qb b)] (tB (decide (a=b))):=by
 refine Pure.intro (rs:= [ResultVar.tmp 4]) Tryz.func15 Y Y Y (E0:= [(0,(rd 2 Qb a)),(1,(rd 2 Qb b))]) Y ?_
 obtain ⟨hlim,hmx,hmax⟩:=QC
 refine sr (fO (OF.assign (VEv.bool false)) (nt (sq (sr (mO (rd 2 Qb a) Y (lO (B.lenR (m:=a.length) (tv (rd 2 Qb a) Y) U41 (List.length_map ..)) (mO (rd 2 Qb b) Y (lO (B.lenR (m:=b.length) (tv (rd 2 Qb b) Y) U41 (List.length_map ..)) (fO (Qj8 (tv (tN a.length) Y) (tv (tN b.length) Y)) (nt ?_))))))))))
 refine cn (a.length=b.length) Y (fun fhc0=> ?_) fun fhc0=> ?_
 ·refine sr ?_
  refine fO (OF.assign (VEv.bool false)) (nt (rt (tr (vb (b':=false) Y ?_))))
  symm;rw [decide_eq_false_iff_not];rintro rfl;exact fhc0 Y
 refine sk (tn (sq (sr (fO (OF.assign (VEv.int .i64 0)) (nt (VRun.block ?_))))))
 refine VRun.loop (A:=Nat) (fun s_=> [(0,(rd 2 Qb a)),(1,(rd 2 Qb b)),(5,(tN s_))]) (fun s_=>QU []) 0 (fun s_=>s_≤a.length∧∀j,j<s_→a[j]? =b[j]?) (fun s_=>a.length - s_) (0:Nat) ?_ (Wk.mk (fun k=>k) ?_ ?_ ?_) ?_
 ·first | trivial | (simp;done) | omega | (constructor<;>simp)
 ·exact (b2 (b2 (b2 bn)))
 ·exact bn
 ·exact nd Y
 rintro i (hI':i≤a.length∧∀j,j<i→a[j]? =b[j]?)
 show VRun _ _ _ [(0,(rd 2 Qb a)),(1,(rd 2 Qb b)),(5,(tN i))] (QU []) 0 _
 refine sq (sr (mO (tN i) Y (mO (rd 2 Qb a) Y (lO (B.lenR (m:=a.length) (tv (rd 2 Qb a) Y) U41 (List.length_map ..)) (fO (Q2 (tv (tN i) Y) (tv (tN a.length) Y)) (nt ?_))))))
 refine cd (i<a.length) Y (fun fhc1=> ?_) fun fhc1=> ?_
 ·refine sk ?_
  refine tn (sq (VRun.block (sq (VRun.draw (B:= [[],[],[1,0],[0,1,2],[],[],[5,4],[4,5,6],[6,5,4,7,2,1,0,3],[3,0,1,2,7,4,5,6,8]]) (by kernel_rfl) (by kernel_rfl) (mD (rd 2 Qb a) Y Y (mD (tN i) Y Y ?_))))))
  obtain ⟨x1,hx1⟩:∃x,a[i]? =some x:=⟨_,List.getElem?_eq_getElem (by omega)⟩
  refine fD (OF.indexAddrR (row:=(Qb false x1)) (i:=i) (tv (rd 2 Qb a) Y) (tv (tN i) Y) Y (Qu _ hx1) U41 QbD Qik) Y Y (lD (OL.loadRn (us:=(Qb false x1)) (tv (T.rp (Qb false x1)) Y) QiX QbD (lb Y) Y) Y Y (mD (rd 2 Qb b) Y Y (mD (tN i) Y Y ?_)))
  obtain ⟨x2,hx2⟩:∃x,b[i]? =some x:=⟨_,List.getElem?_eq_getElem (by omega)⟩
  refine fD (OF.indexAddrR (row:=(Qb false x2)) (i:=i) (tv (rd 2 Qb b) Y) (tv (tN i) Y) Y (Qu _ hx2) U41 QbD Qik) Y Y (lD (OL.loadRn (us:=(Qb false x2)) (tv (T.rp (Qb false x2)) Y) QiX QbD (lb Y) Y) Y Y (VRunD.quiet (bi:= [6,5,4,7,2,1,0,3]) Y VWant.always Y Y Y bn (cS (vc (tv (T.agg (Qb false x1)) Y) (vc (tv (T.agg (Qb false x2)) Y) vn)) (LendL.cons (lg okeMeaning) (LendL.cons (lg okeMeaning) ln)) (Qd2 (n+0) x1 x2) Y Y) (fD (QW (tv (tB (decide (x1=x2))) Y)) Y Y (VRunD.nil (tn ?_)))))
  refine cn (x1=x2) Y (fun fhc2=> ?_) fun fhc2=> ?_
  ·refine sr ?_
   refine fO (OF.assign (VEv.bool false)) (nt (rt (vinB.r (tr (tr (vinB.r (tr (vb (b':=false) Y ?_))))))))
   symm;rw [decide_eq_false_iff_not];exact QaG hx1 hx2 fhc2
  refine sk (vinB.n (tn (VRun.region (mO (tN i) Y (fO (Qx (tv (tN i) Y) (VEv.int .i64 1) (by omega)) (aO (tN (i+1)) Y (VRunO.nil (tn ?_))))))))
  refine ⟨(i+1:Nat),?_,?_,Wk.mk (fun k=>k) ?_ ?_ ?_⟩
  ·exact JT hI' hx1 hx2 fhc2
  ·first | omega | (simp only [];omega) | (show _<_;omega) | (simp;omega)
  ·exact (b2 (b2 (b2 bn)))
  ·exact bn
  ·exact nd Y
 refine VRun.exit (vthn.e (vthn.e (vinB.e (tn (sr (fO (OF.assign (VEv.bool true)) (nt (rt (vb (b':=true) Y ?_)))))))))
 symm;rw [decide_eq_true_eq];exact QaD hI' fhc0 fhc1
theorem QeB (n:Nat) (a:D.Puzzle) (b:D.Puzzle) (ha:QN a≤mx) (hb:QN b≤mx):Pure (Qq Tryz.prog (n+5)) 14 [(T.agg (Qt false a)),(T.agg (Qt false b))] (tB (decide (a=b))):=by
 refine Pure.intro (rs:= [ResultVar.tmp 4]) Tryz.func14 Y Y Y (E0:= [(0,(T.agg (Qt false a))),(1,(T.agg (Qt false b)))]) Y ?_
 obtain ⟨hlim,hmx,hmax⟩:=QC
 simp only [QN] at ha hb
 have hla_Clues:=QV (z:=QP) a.Clues
 have hla_Seals:=QV (z:=zI) a.Seals
 have hlb_Clues:=QV (z:=QP) b.Clues
 have hlb_Seals:=QV (z:=zI) b.Seals
 refine sr (kO (B.box (ts:=(Qt false a)) (tv (T.agg (Qt false a)) Y) nofun Y) (kO (B.box (ts:=(Qt false b)) (tv (T.agg (Qt false b)) Y) nofun Y) (fO (OF.assign (VEv.bool false)) (nt (sq (sr (fO (OF.fieldAddrO (tv (T.op 0 0) Y) Qcq) (lO (OL.loadOn (us:=(Qc false a.Grid)) (tv (T.op 0 0) Y) Y Zj Q6 (lb Y) Y) (fO (OF.fieldAddrO (tv (T.op 1 0) Y) Qcq) (lO (OL.loadOn (us:=(Qc false b.Grid)) (tv (T.op 1 0) Y) Y Zj Q6 (lb Y) Y) (cO (cS (vc (tv (T.agg (Qc false a.Grid)) Y) (vc (tv (T.agg (Qc false b.Grid)) Y) vn)) (LendL.cons (lg QE) (LendL.cons (lg QE) ln)) (Qf1 (n+3) a.Grid b.Grid) Y Y) ?_)))))))))))
 refine fO (QW (tv (tB (decide (a.Grid=b.Grid))) Y)) (nt ?_)
 refine cn (a.Grid=b.Grid) Y (fun fhc0=> ?_) fun fhc0=> ?_
 ·refine sr ?_
  refine fO (OF.assign (VEv.bool false)) (nt (rt (tr (vb (b':=false) Y ?_))))
  obtain ⟨a0,a1,a2,a3⟩:=a
  obtain ⟨b0,b1,b2,b3⟩:=b
  simp_all
 refine sk (tn (sq (sr (lf (rd 2 Qi a.Clues) Y Y5 Y Y QdI (lf (rd 2 Qi b.Clues) Y Y5 Y Y QdI (cO (cS (vc (tv (rd 2 Qi a.Clues) Y) (vc (tv (rd 2 Qi b.Clues) Y) vn)) (Q8 Y) (Qfp (n+0) a.Clues b.Clues (by first | assumption | omega) (by first | assumption | omega)) Y Y) (fO (QW (tv (tB (decide (a.Clues=b.Clues))) Y)) (nt ?_))))))))
 refine cn (a.Clues=b.Clues) Y (fun fhc1=> ?_) fun fhc1=> ?_
 ·refine sr ?_
  refine fO (OF.assign (VEv.bool false)) (nt (rt (tr (vb (b':=false) Y ?_))))
  obtain ⟨a0,a1,a2,a3⟩:=a
  obtain ⟨b0,b1,b2,b3⟩:=b
  simp_all
 refine sk (tn (sq (sr (lf (rd 1 Qe a.Seals) Y Qa9 Y Y QdG (lf (rd 1 Qe b.Seals) Y Qa9 Y Y QdG (cO (cS (vc (tv (rd 1 Qe a.Seals) Y) (vc (tv (rd 1 Qe b.Seals) Y) vn)) (Q8 Y) (QfS (n+3) a.Seals b.Seals (by first | assumption | omega) (by first | assumption | omega)) Y Y) (fO (QW (tv (tB (decide (a.Seals=b.Seals))) Y)) (nt ?_))))))))
 refine cn (a.Seals=b.Seals) Y (fun fhc2=> ?_) fun fhc2=> ?_
 ·refine sr ?_
  refine fO (OF.assign (VEv.bool false)) (nt (rt (tr (vb (b':=false) Y ?_))))
  obtain ⟨a0,a1,a2,a3⟩:=a
  obtain ⟨b0,b1,b2,b3⟩:=b
  simp_all
 refine sk (tn (sq (sr (lf (tI a.Salt) Y Qa3 Y Y QQ (lf (tI b.Salt) Y Qa3 Y Y QQ (fO (xne (tv (tI a.Salt) Y) (tv (tI b.Salt) Y)) (nt ?_)))))))
 refine cn (a.Salt=b.Salt) Y (fun fhc3=> ?_) fun fhc3=> ?_
 ·refine sr ?_
  refine fO (OF.assign (VEv.bool false)) (nt (rt (tr (vb (b':=false) Y ?_))))
  obtain ⟨a0,a1,a2,a3⟩:=a
  obtain ⟨b0,b1,b2,b3⟩:=b
  simp_all
 refine sk (tn (sr (fO (OF.assign (VEv.bool true)) (nt (rt (vb (b':=true) Y ?_))))))
 obtain ⟨a0,a1,a2,a3⟩:=a
 obtain ⟨b0,b1,b2,b3⟩:=b
 simp_all
theorem Qey (n:Nat) (a:D.Report) (b:D.Report):Pure (Qq Tryz.prog (n+1)) 48 [(T.agg (Qa false a)),(T.agg (Qa false b))] (tB (decide (a=b))):=by
 refine Pure.intro (rs:= [ResultVar.tmp 4]) Tryz.func48 Y Y Y (E0:= [(0,(T.agg (Qa false a))),(1,(T.agg (Qa false b)))]) Y ?_
 obtain ⟨hlim,hmx,hmax⟩:=QC
 refine sr (kO (B.box (ts:=(Qa false a)) (tv (T.agg (Qa false a)) Y) nofun Y) (kO (B.box (ts:=(Qa false b)) (tv (T.agg (Qa false b)) Y) nofun Y) (fO (OF.assign (VEv.bool false)) (nt (sq (sr (lf (tI a.Tester) Y QcB Y Y QQ (lf (tI b.Tester) Y QcB Y Y QQ (fO (xne (tv (tI a.Tester) Y) (tv (tI b.Tester) Y)) (nt ?_))))))))))
 refine cn (a.Tester=b.Tester) Y (fun fhc0=> ?_) fun fhc0=> ?_
 ·refine sr ?_
  refine fO (OF.assign (VEv.bool false)) (nt (rt (tr (vb (b':=false) Y ?_))))
  obtain ⟨a0,a1,a2,a3⟩:=a
  obtain ⟨b0,b1,b2,b3⟩:=b
  simp_all
 refine sk (tn (sq (sr (lf (tI a.Slot) Y Jg Y Y QQ (lf (tI b.Slot) Y Jg Y Y QQ (fO (xne (tv (tI a.Slot) Y) (tv (tI b.Slot) Y)) (nt ?_)))))))
 refine cn (a.Slot=b.Slot) Y (fun fhc1=> ?_) fun fhc1=> ?_
 ·refine sr ?_
  refine fO (OF.assign (VEv.bool false)) (nt (rt (tr (vb (b':=false) Y ?_))))
  obtain ⟨a0,a1,a2,a3⟩:=a
  obtain ⟨b0,b1,b2,b3⟩:=b
  simp_all
 refine sk (tn (sq (sr (lf (tI a.Kind) Y Qa1 Y Y QQ (lf (tI b.Kind) Y Qa1 Y Y QQ (fO (xne (tv (tI a.Kind) Y) (tv (tI b.Kind) Y)) (nt ?_)))))))
 refine cn (a.Kind=b.Kind) Y (fun fhc2=> ?_) fun fhc2=> ?_
 ·refine sr ?_
  refine fO (OF.assign (VEv.bool false)) (nt (rt (tr (vb (b':=false) Y ?_))))
  obtain ⟨a0,a1,a2,a3⟩:=a
  obtain ⟨b0,b1,b2,b3⟩:=b
  simp_all
 refine sk (tn (sq (sr (lf (tS a.Word) Y JD Y Y ZH (lf (tS b.Word) Y JD Y Y ZH (fO (B.sneq (c:=(!(decide (a.Word=b.Word)))) (tv (tS a.Word) Y) (tv (tS b.Word) Y) Y) (nt ?_)))))))
 refine cn (a.Word=b.Word) Y (fun fhc3=> ?_) fun fhc3=> ?_
 ·refine sr ?_
  refine fO (OF.assign (VEv.bool false)) (nt (rt (tr (vb (b':=false) Y ?_))))
  obtain ⟨a0,a1,a2,a3⟩:=a
  obtain ⟨b0,b1,b2,b3⟩:=b
  simp_all
 refine sk (tn (sr (fO (OF.assign (VEv.bool true)) (nt (rt (vb (b':=true) Y ?_))))))
 obtain ⟨a0,a1,a2,a3⟩:=a
 obtain ⟨b0,b1,b2,b3⟩:=b
 simp_all
theorem QdC (n:Nat) (a:List D.Report) (b:List D.Report) (hla:a.length≤mx) (hlb:b.length≤mx):Pure (Qq Tryz.prog (n+2)) 13 [(rd 4 Qa a),(rd 4 Qa b)] (tB (decide (a=b))):=by
 refine Pure.intro (rs:= [ResultVar.tmp 4]) Tryz.func13 Y Y Y (E0:= [(0,(rd 4 Qa a)),(1,(rd 4 Qa b))]) Y ?_
 obtain ⟨hlim,hmx,hmax⟩:=QC
 refine sr (fO (OF.assign (VEv.bool false)) (nt (sq (sr (mO (rd 4 Qa a) Y (lO (B.lenR (m:=a.length) (tv (rd 4 Qa a) Y) U34 (List.length_map ..)) (mO (rd 4 Qa b) Y (lO (B.lenR (m:=b.length) (tv (rd 4 Qa b) Y) U34 (List.length_map ..)) (fO (Qj8 (tv (tN a.length) Y) (tv (tN b.length) Y)) (nt ?_))))))))))
 refine cn (a.length=b.length) Y (fun fhc0=> ?_) fun fhc0=> ?_
 ·refine sr ?_
  refine fO (OF.assign (VEv.bool false)) (nt (rt (tr (vb (b':=false) Y ?_))))
  symm;rw [decide_eq_false_iff_not];rintro rfl;exact fhc0 Y
 refine sk (tn (sq (sr (fO (OF.assign (VEv.int .i64 0)) (nt (VRun.block ?_))))))
 refine VRun.loop (A:=Nat) (fun s_=> [(0,(rd 4 Qa a)),(1,(rd 4 Qa b)),(5,(tN s_))]) (fun s_=>QU []) 0 (fun s_=>s_≤a.length∧∀j,j<s_→a[j]? =b[j]?) (fun s_=>a.length - s_) (0:Nat) ?_ (Wk.mk (fun k=>k) ?_ ?_ ?_) ?_
 ·first | trivial | (simp;done) | omega | (constructor<;>simp)
 ·exact (b2 (b2 (b2 bn)))
 ·exact bn
 ·exact nd Y
 rintro i (hI':i≤a.length∧∀j,j<i→a[j]? =b[j]?)
 show VRun _ _ _ [(0,(rd 4 Qa a)),(1,(rd 4 Qa b)),(5,(tN i))] (QU []) 0 _
 refine sq (sr (mO (tN i) Y (mO (rd 4 Qa a) Y (lO (B.lenR (m:=a.length) (tv (rd 4 Qa a) Y) U34 (List.length_map ..)) (fO (Q2 (tv (tN i) Y) (tv (tN a.length) Y)) (nt ?_))))))
 refine cd (i<a.length) Y (fun fhc1=> ?_) fun fhc1=> ?_
 ·refine sk ?_
  refine tn (sq (VRun.block (sq (VRun.draw (B:= [[],[],[1,0],[0,1,2],[],[],[5,4],[4,5,6],[6,5,4,7,2,1,0,3],[3,0,1,2,7,4,5,6,8]]) (by kernel_rfl) (by kernel_rfl) (mD (rd 4 Qa a) Y Y (mD (tN i) Y Y ?_))))))
  obtain ⟨x1,hx1⟩:∃x,a[i]? =some x:=⟨_,List.getElem?_eq_getElem (by omega)⟩
  refine fD (OF.indexAddrR (row:=(Qa false x1)) (i:=i) (tv (rd 4 Qa a) Y) (tv (tN i) Y) Y (Qu _ hx1) U34 YE QaT) Y Y (lD (OL.loadRn (us:=(Qa false x1)) (tv (T.rp (Qa false x1)) Y) QfZ YE (lb Y) Y) Y Y (mD (rd 4 Qa b) Y Y (mD (tN i) Y Y ?_)))
  obtain ⟨x2,hx2⟩:∃x,b[i]? =some x:=⟨_,List.getElem?_eq_getElem (by omega)⟩
  refine fD (OF.indexAddrR (row:=(Qa false x2)) (i:=i) (tv (rd 4 Qa b) Y) (tv (tN i) Y) Y (Qu _ hx2) U34 YE QaT) Y Y (lD (OL.loadRn (us:=(Qa false x2)) (tv (T.rp (Qa false x2)) Y) QfZ YE (lb Y) Y) Y Y (VRunD.quiet (bi:= [6,5,4,7,2,1,0,3]) Y VWant.always Y Y Y bn (cS (vc (tv (T.agg (Qa false x1)) Y) (vc (tv (T.agg (Qa false x2)) Y) vn)) (LendL.cons (lg okeReport) (LendL.cons (lg okeReport) ln)) (Qey (n+0) x1 x2) Y Y) (fD (QW (tv (tB (decide (x1=x2))) Y)) Y Y (VRunD.nil (tn ?_)))))
  refine cn (x1=x2) Y (fun fhc2=> ?_) fun fhc2=> ?_
  ·refine sr ?_
   refine fO (OF.assign (VEv.bool false)) (nt (rt (vinB.r (tr (tr (vinB.r (tr (vb (b':=false) Y ?_))))))))
   symm;rw [decide_eq_false_iff_not];exact QaG hx1 hx2 fhc2
  refine sk (vinB.n (tn (VRun.region (mO (tN i) Y (fO (Qx (tv (tN i) Y) (VEv.int .i64 1) (by omega)) (aO (tN (i+1)) Y (VRunO.nil (tn ?_))))))))
  refine ⟨(i+1:Nat),?_,?_,Wk.mk (fun k=>k) ?_ ?_ ?_⟩
  ·exact JT hI' hx1 hx2 fhc2
  ·first | omega | (simp only [];omega) | (show _<_;omega) | (simp;omega)
  ·exact (b2 (b2 (b2 bn)))
  ·exact bn
  ·exact nd Y
 refine VRun.exit (vthn.e (vthn.e (vinB.e (tn (sr (fO (OF.assign (VEv.bool true)) (nt (rt (vb (b':=true) Y ?_)))))))))
 symm;rw [decide_eq_true_eq];exact QaD hI' fhc0 fhc1
noncomputable section
theorem Zc {ok:Nat→Prop} {i n:Nat} (h:i≤n∧∀j,j<i→ok j) (hi:i<n) (hk:ok i):i+1≤n∧∀j,j<i+1→ok j:=by
 refine ⟨hi,fun j hj=> ?_⟩
 rcases Nat.lt_or_ge j i with h1 | h1
 ·exact h.2 j h1
 ·obtain rfl:j=i:=by omega
  exact hk
theorem Qa7 {ok:Nat→Prop} {i n:Nat} (h:i≤n∧∀j,j<i→ok j) (hi:¬i<n):∀j,j<n→ok j:=fun j hj=>h.2 j (by omega)
theorem QjV {α:Type} {l:List α} {i:Nat} {x y:α} (hx:l[i]? =some x) (hy:l[i]? =some y):y=x:=by
 rw [hx] at hy
 exact (Option.some.inj hy).symm
def Ql (s:ByteArray):Prop:=(1≤s.size∧s.size≤8)∧∀i,i<s.size→97≤QD s i∧QD s i≤122
instance (s:ByteArray):Decidable (Ql s):=Classical.propDecidable _
def ixF {α:Type} (p:α→Prop) [DecidablePred p]:List α→Int
 | []=> -1
 | x::r=>if p x then 0 else if ixF p r<0 then -1 else ixF p r+1
theorem QaW {α:Type} {p:α→Prop} [DecidablePred p]:∀ {l:List α} {i:Nat} {x:α},l[i]? =some x→p x→(∀j y,j<i→l[j]? =some y→¬p y)→ixF p l=i
 | [],i,x,h,_,_=>by simp at h
 | y::r,0,x,h,hp,_=>by
  obtain rfl:y=x:=by simpa using h
  simp only [ixF,if_pos hp]
  rfl
 | y::r,i+1,x,h,hp,hn=>by
  have h1:=QaW (l:=r) (i:=i) (by simpa using h) hp (fun j z hj hz=>hn (j+1) z (by omega) (by simpa using hz))
  have h2:¬p y:=hn 0 y (by omega) (by simp)
  simp only [ixF,if_neg h2,h1]
  rw [if_neg (by omega)]
  rfl
theorem QbM {α:Type} {p:α→Prop} [DecidablePred p]:∀ {l:List α},(∀j y,j<l.length→l[j]? =some y→¬p y)→ixF p l= -1
 | [],_=>rfl
 | y::r,hn=>by
  have h1:=QbM (l:=r) (fun j z hj hz=>hn (j+1) z (by simp;omega) (by simpa using hz))
  have h2:¬p y:=hn 0 y (by simp) (by simp)
  simp only [ixF,if_neg h2,h1]
  rfl
theorem Qfn {α:Type} {p:α→Prop} [DecidablePred p]:∀ {l:List α},0≤ixF p l↔∃x∈l,p x
 | []=>by simp [ixF]
 | y::r=>by
  have h1:=Qfn (p:=p) (l:=r)
  simp only [ixF,List.mem_cons,exists_eq_or_imp]
  by_cases hy:p y
  ·simp [hy]
  ·simp only [if_neg hy,hy,false_or]
   rw [← h1]
   by_cases h:ixF p r<0
   ·rw [if_pos h]
    exact ⟨fun h2=>absurd h2 (by decide),fun h2=>by omega⟩
   ·rw [if_neg h]
    exact ⟨fun h2=>by omega,fun h2=>by omega⟩
def NoneTo {α:Type} (p:α→Prop) (l:List α) (i:Nat):Prop:=i≤l.length∧∀j y,j<i→l[j]? =some y→¬p y
theorem NoneTo.start {α:Type} (p:α→Prop) (l:List α):NoneTo p l 0:=⟨Nat.zero_le _,fun j y hj=>by omega⟩
theorem NoneTo.next {α:Type} {p:α→Prop} {l:List α} {i:Nat} {x:α} (h:NoneTo p l i) (hx:l[i]? =some x) (hn:¬p x):NoneTo p l (i+1):=by
 have:=(List.getElem?_eq_some_iff.1 hx).1
 refine ⟨by omega,fun j y hj hy=> ?_⟩
 rcases Nat.lt_or_ge j i with h1 | h1
 ·exact h.2 j y h1 hy
 ·obtain rfl:j=i:=by omega
  rw [hx] at hy
  exact Option.some.inj hy▸hn
theorem NoneTo.all {α:Type} {p:α→Prop} {l:List α} {i:Nat} (h:NoneTo p l i) (hi:¬i<l.length):∀j y,j<l.length→l[j]? =some y→¬p y:=fun j y hj hy=>h.2 j y (by omega) hy
theorem NoneTo.mem {α:Type} {p:α→Prop} {l:List α} {i:Nat} (h:NoneTo p l i) (hi:¬i<l.length):∀y∈l,¬p y:=fun y hy=>by
 obtain ⟨j,hj⟩:=List.getElem?_of_mem hy
 exact h.all hi j y (List.getElem?_eq_some_iff.1 hj).1 hj
end
theorem Q0 (n:Nat) (a:Int) (b:Int) (c:Int):Pure (Qq Tryz.prog (n+1)) 55 [(tI a),(tI b),(tI c)] (tB (decide (b≤a∧a≤c))):=by
 refine Pure.intro (rs:= [ResultVar.tmp 6]) Tryz.func55 Y Y Y (E0:= [(0,(tI a)),(1,(tI b)),(2,(tI c))]) Y ?_
 obtain ⟨hlim,hmx,hmax⟩:=QC
 refine sr (fO (OF.assign (VEv.bool false)) (nt (sr (mO (tI a) Y (mO (tI b) Y (fO (xge (tv (tI a) Y) (tv (tI b) Y)) (mO (tB (decide (b≤a))) Y ?_)))))))
 refine gw (b≤a) (fun fhg10_1=> ?_) fun fhg10_1=> ?_
 ·refine gF (dy fhg10_1) Y Y (OF.move (tv (tI a) Y)) ?_
  refine gF (dy fhg10_1) Y Y (OF.move (tv (tI c) Y)) (gF (dy fhg10_1) Y Y (xle (tv (tI a) Y) (tv (tI c) Y)) (fO (OF.pickT (VEv.tmpB Y (dy fhg10_1)) (tv (tB (decide (a≤c))) Y)) (aO (tB (decide (a≤c))) Y (nt (rt (vb (b':=(decide (a≤c))) Y ?_))))))
  exact Qv (by omega)
 refine Qz 3 3 true 10 (dz fhg10_1) Y Y Y (fO (OF.pickF (VEv.tmpB Y (dz fhg10_1)) (VEv.bool false)) (aO (tB false) Y (nt (rt (vb (b':=false) Y ?_)))))
 (symm;rw [decide_eq_false_iff_not];omega)
theorem Zx (n:Nat) (a:Int) (b:Int) (c:Int):Pure (Qq Tryz.prog (n+1)) 73 [(tI a),(tI b),(tI c)] (tB (decide (b≤a∧a≤c))):=by
 refine Pure.intro (rs:= [ResultVar.tmp 6]) Tryz.func73 Y Y Y (E0:= [(0,(tI a)),(1,(tI b)),(2,(tI c))]) Y ?_
 obtain ⟨hlim,hmx,hmax⟩:=QC
 refine sr (fO (OF.assign (VEv.bool false)) (nt (sr (mO (tI b) Y (mO (tI a) Y (fO (xle (tv (tI b) Y) (tv (tI a) Y)) (mO (tB (decide (b≤a))) Y ?_)))))))
 refine gw (b≤a) (fun fhg10_1=> ?_) fun fhg10_1=> ?_
 ·refine gF (dy fhg10_1) Y Y (OF.move (tv (tI a) Y)) ?_
  refine gF (dy fhg10_1) Y Y (OF.move (tv (tI c) Y)) (gF (dy fhg10_1) Y Y (xle (tv (tI a) Y) (tv (tI c) Y)) (fO (OF.pickT (VEv.tmpB Y (dy fhg10_1)) (tv (tB (decide (a≤c))) Y)) (aO (tB (decide (a≤c))) Y (nt (rt (vb (b':=(decide (a≤c))) Y ?_))))))
  exact Qv (by omega)
 refine Qz 3 3 true 10 (dz fhg10_1) Y Y Y (fO (OF.pickF (VEv.tmpB Y (dz fhg10_1)) (VEv.bool false)) (aO (tB false) Y (nt (rt (vb (b':=false) Y ?_)))))
 (symm;rw [decide_eq_false_iff_not];omega)
theorem Qbc (n:Nat) (a:Int):Pure (Qq Tryz.prog (n+1)) 117 [(T.int .u8 a)] (tB (decide (97≤a∧a≤122))):=by
 refine Pure.intro (rs:= [ResultVar.tmp 2]) Tryz.func117 Y Y Y (E0:= [(0,(T.int .u8 a))]) Y ?_
 obtain ⟨hlim,hmx,hmax⟩:=QC
 refine sr (fO (OF.assign (VEv.bool false)) (nt (sr (mO (T.int .u8 a) Y (fO (xge (tv (T.int .u8 a) Y) (VEv.int .u8 97)) (mO (tB (decide (97≤a))) Y ?_))))))
 refine gw (97≤a) (fun fhg5_1=> ?_) fun fhg5_1=> ?_
 ·refine gF (dy fhg5_1) Y Y (OF.move (tv (T.int .u8 a) Y)) ?_
  refine gF (dy fhg5_1) Y Y (xle (tv (T.int .u8 a) Y) (VEv.int .u8 122)) (fO (OF.pickT (VEv.tmpB Y (dy fhg5_1)) (tv (tB (decide (a≤122))) Y)) (aO (tB (decide (a≤122))) Y (nt (rt (vb (b':=(decide (a≤122))) Y ?_)))))
  exact Qv (by omega)
 refine Qz 2 2 true 5 (dz fhg5_1) Y Y Y (fO (OF.pickF (VEv.tmpB Y (dz fhg5_1)) (VEv.bool false)) (aO (tB false) Y (nt (rt (vb (b':=false) Y ?_)))))
 (symm;rw [decide_eq_false_iff_not];omega)
theorem YR (n:Nat) (a:Int) (b:Int):Pure (Qq Tryz.prog (n+1)) 60 [(tI a),(tI b)] (tB (decide (0≤a∧a<b))):=by
 refine Pure.intro (rs:= [ResultVar.tmp 4]) Tryz.func60 Y Y Y (E0:= [(0,(tI a)),(1,(tI b))]) Y ?_
 obtain ⟨hlim,hmx,hmax⟩:=QC
 refine sr (fO (OF.assign (VEv.bool false)) (nt (sr (mO (tI a) Y (fO (xge (tv (tI a) Y) (VEv.int .i64 0)) (mO (tB (decide (0≤a))) Y ?_))))))
 refine gw (0≤a) (fun fhg7_1=> ?_) fun fhg7_1=> ?_
 ·refine gF (dy fhg7_1) Y Y (OF.move (tv (tI a) Y)) ?_
  refine gF (dy fhg7_1) Y Y (OF.move (tv (tI b) Y)) (gF (dy fhg7_1) Y Y (xls (tv (tI a) Y) (tv (tI b) Y)) (fO (OF.pickT (VEv.tmpB Y (dy fhg7_1)) (tv (tB (decide (a<b))) Y)) (aO (tB (decide (a<b))) Y (nt (rt (vb (b':=(decide (a<b))) Y ?_))))))
  exact Qv (by omega)
 refine Qz 3 2 true 7 (dz fhg7_1) Y Y Y (fO (OF.pickF (VEv.tmpB Y (dz fhg7_1)) (VEv.bool false)) (aO (tB false) Y (nt (rt (vb (b':=false) Y ?_)))))
 (symm;rw [decide_eq_false_iff_not];omega)
theorem Q9 (n:Nat) (a:ByteArray) (ha:a.size≤maxLen):Pure (Qq Tryz.prog (n+2)) 69 [(tS a)] (tB (decide (Ql a))):=by
 refine Pure.intro (rs:= [ResultVar.tmp 2]) Tryz.func69 Y Y Y (E0:= [(0,(tS a))]) Y ?_
 obtain ⟨hlim,hmx,hmax⟩:=QC
 refine sr (fO (OF.assign (VEv.bool false)) (nt (sq (sr (mO (tS a) Y (lO (B.lenS (tv (tS a) Y) U9) (cO (cS (vc (tv (tN a.size) Y) (vc (VEv.int .i64 1) (vc (VEv.int .i64 8) vn))) (Q8 Y) (Q0 (n+0) ((a.size:Nat):Int) 1 8) Y Y) (fO (QW (tv (tB (decide (1≤((a.size:Nat):Int)∧((a.size:Nat):Int)≤8))) Y)) (nt ?_)))))))))
 refine cn (1≤((a.size:Nat):Int)∧((a.size:Nat):Int)≤8) Y (fun fhc0=> ?_) fun fhc0=> ?_
 ·refine sr ?_
  refine fO (OF.assign (VEv.bool false)) (nt (rt (tr (vb (b':=false) Y ?_))))
  symm;rw [decide_eq_false_iff_not];rintro ⟨h1,_⟩;omega
 refine sk (tn (sq (sr (fO (OF.assign (VEv.int .i64 0)) (nt (VRun.block ?_))))))
 refine VRun.loop (A:=Nat) (fun s_=> [(0,(tS a)),(3,(tN s_))]) (fun s_=>QU []) 0 (fun s_=>s_≤a.size∧∀j,j<s_→97≤QD a j∧QD a j≤122) (fun s_=>a.size - s_) (0:Nat) ?_ (Wk.mk (fun k=>k) ?_ ?_ ?_) ?_
 ·exact ⟨Nat.zero_le _,fun j hj=>by omega⟩
 ·exact (b2 (b2 bn))
 ·exact bn
 ·exact nd Y
 rintro i (hI':i≤a.size∧∀j,j<i→97≤QD a j∧QD a j≤122)
 show VRun _ _ _ [(0,(tS a)),(3,(tN i))] (QU []) 0 _
 refine sq (sr (mO (tN i) Y (mO (tS a) Y (lO (B.lenS (tv (tS a) Y) U9) (fO (Q2 (tv (tN i) Y) (tv (tN a.size) Y)) (nt ?_))))))
 refine cd (i<a.size) Y (fun fhc1=> ?_) fun fhc1=> ?_
 ·refine sk ?_
  refine tn (sq (VRun.block (sr (mO (tS a) Y (mO (tN i) Y ?_)))))
  have hb1:i<a.size:=(by omega)
  refine fO (xix (tv (tS a) Y) (tv (tN i) Y) hb1 U9) (fO (xls (tv (T.int .u8 (QD a i)) Y) (VEv.int .u8 97)) (mO (tB (decide (QD a i<97))) Y ?_))
  refine gw (QD a i<97) (fun fhg18_2=> ?_) fun fhg18_2=> ?_
  ·refine Qz 4 4 false 18 (dy fhg18_2) Y Y Y ?_
   refine fO (OF.pickT (VEv.tmpB Y (dy fhg18_2)) (VEv.bool true)) (nt (ct Y (sr (fO (OF.assign (VEv.bool false)) (nt (rt (vinB.r (tr (tr (vinB.r (tr ?_)))))))))))
   refine vb (b':=false) Y ?_
   symm;rw [decide_eq_false_iff_not];rintro ⟨_,h2⟩;have:=h2 i fhc1;omega
  refine gF (dz fhg18_2) Y Y (OF.move (tv (tS a) Y)) (gF (dz fhg18_2) Y Y (OF.move (tv (tN i) Y)) ?_)
  have hb3:i<a.size:=(by omega)
  refine gF (dz fhg18_2) Y Y (xix (tv (tS a) Y) (tv (tN i) Y) hb3 U9) (gF (dz fhg18_2) Y Y (xgt (tv (T.int .u8 (QD a i)) Y) (VEv.int .u8 122)) (fO (OF.pickF (VEv.tmpB Y (dz fhg18_2)) (tv (tB (decide (122<QD a i))) Y)) (nt ?_)))
  refine cd (122<QD a i) Y (fun fhc2=> ?_) fun fhc2=> ?_
  ·refine sr ?_
   refine fO (OF.assign (VEv.bool false)) (nt (rt (vinB.r (tr (tr (vinB.r (tr (vb (b':=false) Y ?_))))))))
   symm;rw [decide_eq_false_iff_not];rintro ⟨_,h2⟩;have:=h2 i fhc1;omega
  refine sk (vinB.n (tn (VRun.region (mO (tN i) Y (fO (Qx (tv (tN i) Y) (VEv.int .i64 1) (by omega)) (aO (tN (i+1)) Y (VRunO.nil (tn ?_))))))))
  refine ⟨(i+1:Nat),?_,?_,Wk.mk (fun k=>k) ?_ ?_ ?_⟩
  ·exact Zc (ok:=fun j=>97≤QD a j∧QD a j≤122) hI' fhc1 (by omega)
  ·omega
  ·exact (b2 (b2 bn))
  ·exact bn
  ·exact nd Y
 refine VRun.exit (vthn.e (vthn.e (vinB.e (tn (sr (fO (OF.assign (VEv.bool true)) (nt (rt (vb (b':=true) Y ?_)))))))))
 symm;rw [decide_eq_true_eq];exact ⟨by omega,Qa7 hI' fhc1⟩
theorem Za (n:Nat) (a:ByteArray) (ha:a.size≤maxLen):Pure (Qq Tryz.prog (n+2)) 79 [(tS a)] (tB (decide (Ql a))):=by
 refine Pure.intro (rs:= [ResultVar.tmp 2]) Tryz.func79 Y Y Y (E0:= [(0,(tS a))]) Y ?_
 obtain ⟨hlim,hmx,hmax⟩:=QC
 refine sr (fO (OF.assign (VEv.bool false)) (nt (sq (sr (mO (tS a) Y (lO (B.lenS (tv (tS a) Y) U9) (cO (cS (vc (tv (tN a.size) Y) (vc (VEv.int .i64 1) (vc (VEv.int .i64 8) vn))) (Q8 Y) (Zx (n+0) ((a.size:Nat):Int) 1 8) Y Y) (fO (QW (tv (tB (decide (1≤((a.size:Nat):Int)∧((a.size:Nat):Int)≤8))) Y)) (nt ?_)))))))))
 refine cn (1≤((a.size:Nat):Int)∧((a.size:Nat):Int)≤8) Y (fun fhc0=> ?_) fun fhc0=> ?_
 ·refine sr ?_
  refine fO (OF.assign (VEv.bool false)) (nt (rt (tr (vb (b':=false) Y ?_))))
  symm;rw [decide_eq_false_iff_not];rintro ⟨h1,_⟩;omega
 refine sk (tn (sq (sr (mO (tS a) Y (lO (B.lenS (tv (tS a) Y) U9) (fO (OF.move (VEv.int .i64 0)) (nt (VRun.block ?_))))))))
 refine VRun.loop (A:=Nat) (fun s_=> [(0,(tS a)),(9,(tN a.size)),(10,(tN s_))]) (fun s_=>QU []) 0 (fun s_=>s_≤a.size∧∀j,j<s_→97≤QD a j∧QD a j≤122) (fun s_=>a.size - s_) (0:Nat) ?_ (Wk.mk (fun k=>k) ?_ ?_ ?_) ?_
 ·exact ⟨Nat.zero_le _,fun j hj=>by omega⟩
 ·exact (b2 (b2 (b2 bn)))
 ·exact bn
 ·exact nd Y
 rintro i (hI':i≤a.size∧∀j,j<i→97≤QD a j∧QD a j≤122)
 show VRun _ _ _ [(0,(tS a)),(9,(tN a.size)),(10,(tN i))] (QU []) 0 _
 refine sr (fO (Q2 (tv (tN i) Y) (tv (tN a.size) Y)) (nt (sq ?_)))
 refine cd (i<a.size) Y (fun fhc1=> ?_) fun fhc1=> ?_
 ·refine sk ?_
  refine tn (sq (VRun.block (sr (mO (tN i) Y (aO (tN i) Y (nt (sr (mO (tS a) Y (mO (tN i) Y ?_)))))))))
  have hb1:i<a.size:=(by omega)
  refine fO (xix (tv (tS a) Y) (tv (tN i) Y) hb1 U9) (cO (cS (vc (tv (T.int .u8 (QD a i)) Y) vn) (Q8 Y) (Qbc (n+0) (QD a i)) Y Y) (fO (QW (tv (tB (decide (97≤(QD a i)∧(QD a i)≤122))) Y)) (nt ?_)))
  refine cn (97≤(QD a i)∧(QD a i)≤122) Y (fun fhc2=> ?_) fun fhc2=> ?_
  ·refine sr ?_
   refine fO (OF.assign (VEv.bool false)) (nt (rt (vinB.r (tr (tr (vinB.r (tr (vb (b':=false) Y ?_))))))))
   symm;rw [decide_eq_false_iff_not];rintro ⟨_,h2⟩;have:=h2 i fhc1;omega
  refine sk (vinB.n (tn (VRun.region (fO (Qx (tv (tN i) Y) (VEv.int .i64 1) (by omega)) (mO (tN (i+1)) Y (VRunO.nil (tn ?_)))))))
  refine ⟨(i+1:Nat),?_,?_,Wk.mk (fun k=>k) ?_ ?_ ?_⟩
  ·exact Zc (ok:=fun j=>97≤QD a j∧QD a j≤122) hI' fhc1 (by omega)
  ·omega
  ·exact (b2 (b2 (b2 bn)))
  ·exact bn
  ·exact nd Y
 refine VRun.exit (vthn.e (vthn.e (vinB.e (tn (sr (fO (OF.assign (VEv.bool true)) (nt (rt (vb (b':=true) Y ?_)))))))))
 symm;rw [decide_eq_true_eq];exact ⟨by omega,Qa7 hI' fhc1⟩
noncomputable section
def two (k:Int):Prop:=k=4∨k=5
def Jz (l:List D.Step) (j:Nat):Prop:=∃x,l[j]? =some x∧(1≤x.Kind∧x.Kind≤9)∧(x.Kind=1→Ql x.Word∧x.A=0∧x.B=0) ∧
 (¬x.Kind=1→x.Word=(⟨#[]⟩:ByteArray)∧(0≤x.A∧x.A<(j:Int))∧(two x.Kind→0≤x.B∧x.B<(j:Int))∧(¬two x.Kind→x.B=0)∧(¬two x.Kind→¬x.Kind=2→∃y,l[x.A.toNat]? =some y∧y.Kind=1))
instance (l:List D.Step) (j:Nat):Decidable (Jz l j):=Classical.propDecidable _
def QR (l:List D.Step):Prop:=(1≤l.length∧l.length≤9)∧∀j,j<l.length→Jz l j
instance (l:List D.Step):Decidable (QR l):=Classical.propDecidable _
def Qed (l:List D.Step) (j:Nat) (x:D.Step):Prop:=(1≤x.Kind∧x.Kind≤9)∧(x.Kind=1→Ql x.Word∧x.A=0∧x.B=0) ∧
 (¬x.Kind=1→x.Word=(⟨#[]⟩:ByteArray)∧(0≤x.A∧x.A<(j:Int))∧(two x.Kind→0≤x.B∧x.B<(j:Int))∧(¬two x.Kind→x.B=0)∧(¬two x.Kind→¬x.Kind=2→∃y,l[x.A.toNat]? =some y∧y.Kind=1))
theorem QK {l:List D.Step} {j:Nat} {x:D.Step} (hx:l[j]? =some x):Jz l j↔Qed l j x:=by
 constructor
 ·rintro ⟨y,hy,h⟩
  obtain rfl:=QjV hx hy
  exact h
 ·intro h
  exact ⟨x,hx,h⟩
theorem QoW {l:List D.Step} {k:Nat} {y:D.Step} (hy:l[k]? =some y):(∃z,l[k]? =some z∧z.Kind=1)↔y.Kind=1:=by
 constructor
 ·rintro ⟨z,hz,h⟩
  obtain rfl:=QjV hy hz
  exact h
 ·intro h
  exact ⟨y,hy,h⟩
theorem Qox {l:List D.Step} {j:Nat} {x y:D.Step} (hx:l[j]? =some x) (hy:l[x.A.toNat]? =some y) (h1:1≤x.Kind∧x.Kind≤9) (h2:¬x.Kind=1) (h3:x.Word=(⟨#[]⟩:ByteArray)) (h4:0≤x.A∧x.A<(j:Int)) (h5:x.B=0) (h6:¬two x.Kind) (h7:¬x.Kind=2):decide (y.Kind=1)=decide (Jz l j):=by
 refine Qv ?_
 rw [QK hx]
 simp only [Qed,QoW hy]
 exact ⟨fun h=>⟨h1,fun hk=>absurd hk h2,fun _=>⟨h3,h4,fun h=>absurd h h6,fun _=>h5,fun _ _=>h⟩⟩,fun h=>(h.2.2 h2).2.2.2.2 h6 h7⟩
theorem Qom {l:List D.Step} {j:Nat} {x:D.Step} (hx:l[j]? =some x) (h1:1≤x.Kind∧x.Kind≤9) (h2:x.Kind=1) (h3:Ql x.Word) (h4:x.A=0):decide (x.B=0)=decide (Jz l j):=by
 refine Qv ?_
 rw [QK hx]
 simp only [Qed]
 exact ⟨fun h=>⟨h1,fun _=>⟨h3,h4,h⟩,fun hk=>absurd h2 hk⟩,fun h=>(h.2.1 h2).2.2⟩
theorem Zo : ¬Ql (⟨#[]⟩:ByteArray):=fun h=>absurd h.1.1 (by decide)
end
theorem QdZ (n:Nat) (a:Int):Pure (Qq Tryz.prog (n+1)) 146 [(tI a)] (tB (decide (a=3∨6≤a))):=by
 refine Pure.intro (rs:= [ResultVar.tmp 2]) Tryz.func146 Y Y Y (E0:= [(0,(tI a))]) Y ?_
 obtain ⟨hlim,hmx,hmax⟩:=QC
 refine sr (fO (OF.assign (VEv.bool false)) (nt (sr (mO (tI a) Y (fO (Z7 (tv (tI a) Y) (VEv.int .i64 3)) (mO (tB (decide (a=3))) Y ?_))))))
 refine gw (a=3) (fun fhg5_1=> ?_) fun fhg5_1=> ?_
 ·refine Qz 2 2 false 5 (dy fhg5_1) Y Y Y ?_
  refine fO (OF.pickT (VEv.tmpB Y (dy fhg5_1)) (VEv.bool true)) (aO (tB true) Y (nt (rt (vb (b':=true) Y ?_))))
  (symm;rw [decide_eq_true_eq];omega)
 refine gF (dz fhg5_1) Y Y (OF.move (tv (tI a) Y)) (gF (dz fhg5_1) Y Y (xge (tv (tI a) Y) (VEv.int .i64 6)) (fO (OF.pickF (VEv.tmpB Y (dz fhg5_1)) (tv (tB (decide (6≤a))) Y)) (aO (tB (decide (6≤a))) Y (nt (rt (vb (b':=(decide (6≤a))) Y ?_))))))
 exact Qv (by omega)
theorem Yg (n:Nat) (a:Int):Pure (Qq Tryz.prog (n+1)) 147 [(tI a)] (tB (decide (a=4∨a=5))):=by
 refine Pure.intro (rs:= [ResultVar.tmp 2]) Tryz.func147 Y Y Y (E0:= [(0,(tI a))]) Y ?_
 obtain ⟨hlim,hmx,hmax⟩:=QC
 refine sr (fO (OF.assign (VEv.bool false)) (nt (sr (mO (tI a) Y (fO (Z7 (tv (tI a) Y) (VEv.int .i64 4)) (mO (tB (decide (a=4))) Y ?_))))))
 refine gw (a=4) (fun fhg5_1=> ?_) fun fhg5_1=> ?_
 ·refine Qz 2 2 false 5 (dy fhg5_1) Y Y Y ?_
  refine fO (OF.pickT (VEv.tmpB Y (dy fhg5_1)) (VEv.bool true)) (aO (tB true) Y (nt (rt (vb (b':=true) Y ?_))))
  (symm;rw [decide_eq_true_eq];omega)
 refine gF (dz fhg5_1) Y Y (OF.move (tv (tI a) Y)) (gF (dz fhg5_1) Y Y (Z7 (tv (tI a) Y) (VEv.int .i64 5)) (fO (OF.pickF (VEv.tmpB Y (dz fhg5_1)) (tv (tB (decide (a=5))) Y)) (aO (tB (decide (a=5))) Y (nt (rt (vb (b':=(decide (a=5))) Y ?_))))))
 exact Qv (by omega)
theorem QhD (n:Nat) (a:List D.Step) (i:Nat) (hz:zL Ze a≤mx) (hi:i<a.length):Pure (Qq Tryz.prog (n+3)) 136 [(rd 4 Qf a),(tN i)] (tB (decide (Jz a i))):=by
 refine Pure.intro (rs:= [ResultVar.tmp 4]) Tryz.func136 Y Y Y (E0:= [(0,(rd 4 Qf a)),(1,(tN i))]) Y ?_
 obtain ⟨hlim,hmx,hmax⟩:=QC
 have ha:=QV (z:=Ze) a
 have hw:∀x∈a,x.Word.size≤maxLen:=fun x hx=>by have h1:=QlV (z:=Ze) hx;simp only [Ze] at h1;omega
 refine sr (fO (OF.assign (VEv.bool false)) (nt (sr (mO (rd 4 Qf a) Y (mO (tN i) Y ?_)))))
 obtain ⟨x1,hx1⟩:∃x,a[i]? =some x:=⟨_,List.getElem?_eq_getElem (by omega)⟩
 refine fO (OF.indexAddrR (row:=(Qf false x1)) (i:=i) (tv (rd 4 Qf a) Y) (tv (tN i) Y) Y (Qu _ hx1) U62 ZD YH) (lO (OL.loadRn (us:=(Qf false x1)) (tv (T.rp (Qf false x1)) Y) Qb9 ZD (lb Y) Y) (kO (B.alloc (t:=(T.agg [(tN 0),(tS ByteArray.empty),(tN 0),(tN 0)])) (ts:= [(tN 0),(tS ByteArray.empty),(tN 0),(tN 0)]) Qfk QfK nofun (fun _=> .agg _ _ Y (YK (RL.cons (.int _ _) (RL.cons (.str _) (RL.cons (.int _ _) (RL.cons (.int _ _) (RL.nil _))))))) Y) (cO (B.storeW (us:=(Qf false x1)) (tv (T.op 0 0) Y) (tv (T.agg (Qf false x1)) Y) nofun Y Y Y YH ZD (bc Y (bc Y (bc Y (bc Y bn))))) (nt (sq (sq (VRun.draw (B:= [[],[0],[0,1],[1,0,2],[2,0,1,3],[3,1,0,2,4],[4,2,0,1,3,5],[5,3,1,0,2,4,6],[3,1,0,2,4],[4,2,0,1,3,8],[8,3,1,0,2,4,9],[9,8,10,6,4,2,0,1,3,5,7],[7,5,6,10,8,9,11,3,1,0,2,4],[4,2,0,1,3,11,9,8,10,6,5,7,12],[12,7,5,6,10,8,9,11,3,1,0,2,4,13],[13,4,2,0,1,3,11,9,8,10,6,5,7,12,14],[14,12,7,5,6,10,8,9,11,3,1,0,2,4,13,15],[15,13,4,2,0,1,3,11,9,8,10,6,5,7,12,14,16],[16,14,12,7,5,6,10,8,9,11,3,1,0,2,4,13,15,17],[17,15,13,4,2,0,1,3,11,9,8,10,6,5,7,12,14,16,18],[18,16,14,12,7,5,6,10,8,9,11,3,1,0,2,4,13,15,17,19],[19,18,20,16,14,12,7,5,6,10,8,9,11,3,1,0,2,4,13,15,17],[17,15,14,16,20,18,19,21,12,7,5,6,10,8,9,11,3,1,0,2,4,13]]) (by kernel_rfl) (by kernel_rfl) (fD (OF.fieldAddrO (tv (T.op 0 0) Y) Q7) Y Y (lD (OL.loadO1 (t:=(tI x1.Kind)) (tv (T.op 0 0) Y) Y Y QQ) Y Y (VRunD.quiet (bi:= [0,1]) Y VWant.always Y Y Y bn (cS (vc (tv (tI x1.Kind) Y) (vc (VEv.int .i64 1) (vc (VEv.int .i64 9) vn))) (Q8 Y) (Q0 (n+1) x1.Kind 1 9) Y Y) (fD (QW (tv (tB (decide (1≤x1.Kind∧x1.Kind≤9))) Y)) Y Y ?_)))))))))))
 refine mD (tB (!(decide (1≤x1.Kind∧x1.Kind≤9)))) Y Y ?_
 refine gn (1≤x1.Kind∧x1.Kind≤9) (fun fhg15_1=> ?_) fun fhg15_1=> ?_
 ·refine oD Y Y (ny fhg15_1) Y ?_
  refine oD Y Y (ny fhg15_1) Y (oD Y Y (ny fhg15_1) Y (oD Y Y (ny fhg15_1) Y (oD Y Y (ny fhg15_1) Y (oD Y Y (ny fhg15_1) Y (oD Y Y (ny fhg15_1) Y (fD (OF.pickT (VEv.tmpB Y (ny fhg15_1)) (VEv.bool true)) Y Y (mD (tB true) Y Y (VRunD.off Y (VWant.not (b:=true) Y Y Y) (VRunD.off Y (VWant.not (b:=true) Y Y Y) (VRunD.off Y (VWant.not (b:=true) Y Y Y) (VRunD.off Y (VWant.not (b:=true) Y Y Y) ?_)))))))))))
  refine uD Y Y Y (uD Y Y Y (uD Y Y Y (VRunD.off Y (VWant.not (b:=true) Y Y Y) (fD (OF.pickT (tv (tB true) Y) (VEv.bool true)) Y Y (VRunD.nil (tn (ct Y (sr (fO (OF.assign (VEv.bool false)) (nt (rt ?_)))))))))))
  refine tr (vb (b':=false) Y ?_)
  (symm;rw [decide_eq_false_iff_not,QK hx1];rintro ⟨h1,h2,h3⟩;by_cases hk:x1.Kind=1<;>simp only [hk,two] at* <;>omega)
 refine VRunD.free Y (VWant.on Y Y (nz fhg15_1)) Y (OF.fieldAddrO (tv (T.op 0 0) Y) Q7) (VRunD.look Y (VWant.on Y Y (nz fhg15_1)) Y (OL.loadO1 (t:=(tI x1.Kind)) (tv (T.op 0 0) Y) Y Y QQ) (VRunD.free Y (VWant.on Y Y (nz fhg15_1)) Y (Z7 (tv (tI x1.Kind) Y) (VEv.int .i64 1)) (VRunD.free Y (VWant.on Y Y (nz fhg15_1)) Y (OF.fieldAddrO (tv (T.op 0 0) Y) Yb) (VRunD.look Y (VWant.on Y Y (nz fhg15_1)) Y (OL.loadO1 (t:=(tS x1.Word)) (tv (T.op 0 1) Y) Y Y ZH) (VRunD.quiet (bi:= [8,3,1,0,2,4,9]) Y (VWant.on Y Y (nz fhg15_1)) Y Y Y bn (cS (vc (tv (tS x1.Word) Y) vn) (Q8 Y) (Q9 (n+0) x1.Word (by exact hw _ (List.mem_of_getElem? hx1))) Y Y) (VRunD.free Y (VWant.on Y Y (nz fhg15_1)) Y (B.bneq U4 (c:=(!((decide (x1.Kind=1)) == (decide (Ql x1.Word))))) (tv (tB (decide (x1.Kind=1))) Y) (tv (tB (decide (Ql x1.Word))) Y) Y) (fD (OF.pickF (VEv.tmpB Y (nz fhg15_1)) (tv (tB (!((decide (x1.Kind=1)) == (decide (Ql x1.Word))))) Y)) Y Y (mD (tB (!((decide (x1.Kind=1)) == (decide (Ql x1.Word))))) Y Y ?_))))))))
 refine QfM (!((decide (x1.Kind=1)) == (decide (Ql x1.Word)))) (fun hg24_2=> ?_) (fun hg24_2=> ?_)
 ·have fhg24_2:(!((decide (x1.Kind=1)) == (decide (Ql x1.Word))))=true:=hg24_2
  refine oD Y Y hg24_2 Y (oD Y Y hg24_2 Y (oD Y Y hg24_2 Y (oD Y Y hg24_2 Y (uD Y Y Y (uD Y Y Y (uD Y Y Y (oD Y Y hg24_2 Y (fD (OF.pickT (VEv.tmpB Y hg24_2) (VEv.bool true)) Y Y (VRunD.nil (tn (ct Y ?_)))))))))))
  refine sr (fO (OF.assign (VEv.bool false)) (nt (rt (tr (vb (b':=false) Y ?_)))))
  (symm;rw [decide_eq_false_iff_not,QK hx1];rintro ⟨h1,h2,h3⟩;by_cases hk:x1.Kind=1<;>simp only [hk,two] at* <;>(simp_all [Zo];done))
 have fhg24_2:(!((decide (x1.Kind=1)) == (decide (Ql x1.Word))))=false:=hg24_2
 refine VRunD.free Y (VWant.on Y Y hg24_2) Y (OF.fieldAddrO (tv (T.op 0 0) Y) Q7) (VRunD.look Y (VWant.on Y Y hg24_2) Y (OL.loadO1 (t:=(tI x1.Kind)) (tv (T.op 0 0) Y) Y Y QQ) (VRunD.free Y (VWant.on Y Y hg24_2) Y (xne (tv (tI x1.Kind) Y) (VEv.int .i64 1)) (VRunD.free Y (VWant.on Y Y hg24_2) Y (OF.move (tv (tB (!(decide (x1.Kind=1)))) Y)) ?_)))
 refine gn (x1.Kind=1) (fun fhg28_3=> ?_) fun fhg28_3=> ?_
 ·refine VRunD.free Y (VWant.on Y Y (ny fhg28_3)) Y (OF.fieldAddrO (tv (T.op 0 0) Y) Yb) ?_
  refine VRunD.look Y (VWant.on Y Y (ny fhg28_3)) Y (OL.loadO1 (t:=(tS x1.Word)) (tv (T.op 0 1) Y) Y Y ZH) (VRunD.free Y (VWant.on Y Y (ny fhg28_3)) Y (B.sneq (c:=(!(decide (x1.Word=(⟨#[]⟩:ByteArray))))) (tv (tS x1.Word) Y) (VEv.str (⟨#[]⟩:ByteArray)) Y) (VRunD.free Y (VWant.on Y Y hg24_2) Y (OF.pickT (VEv.tmpB Y (ny fhg28_3)) (tv (tB (!(decide (x1.Word=(⟨#[]⟩:ByteArray))))) Y)) (fD (OF.pickF (VEv.tmpB Y hg24_2) (tv (tB (!(decide (x1.Word=(⟨#[]⟩:ByteArray))))) Y)) Y Y (VRunD.nil (tn ?_)))))
  refine cn (x1.Word=(⟨#[]⟩:ByteArray)) Y (fun fhc0=> ?_) fun fhc0=> ?_
  ·refine sr ?_
   refine fO (OF.assign (VEv.bool false)) (nt (rt (tr (vb (b':=false) Y ?_))))
   (symm;rw [decide_eq_false_iff_not,QK hx1];rintro ⟨h1,h2,h3⟩;by_cases hk:x1.Kind=1<;>simp only [hk,two] at* <;>(simp_all [Zo];done))
  refine sk (tn (sr (lf (tI x1.Kind) Y Q7 Y Y QQ (fO (Z7 (tv (tI x1.Kind) Y) (VEv.int .i64 4)) (mO (tB (decide (x1.Kind=4))) Y ?_)))))
  refine gw (x1.Kind=4) (fun fhg37_4=> ?_) fun fhg37_4=> ?_
  ·refine Qz 3 3 false 37 (dy fhg37_4) Y Y Y ?_
   refine fO (OF.pickT (VEv.tmpB Y (dy fhg37_4)) (VEv.bool true)) (aO (tB true) Y (nt (sq (sr (lf (tI x1.Kind) Y Q7 Y Y QQ (fO (Z7 (tv (tI x1.Kind) Y) (VEv.int .i64 1)) (nt (cg (dz fhg28_3) Y (sk (tn (sq ?_)))))))))))
   refine sr (lf (tI x1.A) Y Zs Y Y QQ (mO (tN i) Y (fO (B.sub (n:=(((i:Nat):Int) - 1)) (tv (tN i) Y) (VEv.int .i64 1) (by (rw [Qs (by omega)];done))) (cO (cS (vc (tv (tI x1.A) Y) (vc (VEv.int .i64 0) (vc (tv (tI (((i:Nat):Int) - 1)) Y) vn))) (Q8 Y) (Q0 (n+1) x1.A 0 (((i:Nat):Int) - 1)) Y Y) (fO (QW (tv (tB (decide (0≤x1.A∧x1.A≤(((i:Nat):Int) - 1)))) Y)) (mO (tB (!(decide (0≤x1.A∧x1.A≤(((i:Nat):Int) - 1))))) Y ?_))))))
   refine gn (0≤x1.A∧x1.A≤(((i:Nat):Int) - 1)) (fun fhg59_5=> ?_) fun fhg59_5=> ?_
   ·refine Qz 2 6 false 59 (ny fhg59_5) Y Y Y ?_
    refine Qai 6 8 true 61 Y Y Y (oO Y Y (ny fhg59_5) (fO (OF.pickT (VEv.tmpB Y (ny fhg59_5)) (VEv.bool true)) (mO (tB true) Y (Qz 3 17 false 70 (b:=true) Y Y Y Y (Qai 3 20 true 73 Y Y Y (VRunO.off (VWant.not (b:=true) Y Y Y) (fO (OF.pickT (tv (tB true) Y) (VEv.bool true)) (nt (ct Y (sr (fO (OF.assign (VEv.bool false)) ?_)))))))))))
    refine nt (rt (tr (vb (b':=false) Y ?_)))
    (symm;rw [decide_eq_false_iff_not,QK hx1];rintro ⟨h1,h2,h3⟩;by_cases hk:x1.Kind=1<;>simp only [hk,two] at* <;>first | omega | (simp_all [Zo];omega))
   refine gF (nz fhg59_5) Y Y (OF.move (tv (tB true) Y)) (gF (nz fhg59_5) Y Y (OF.move (tv (tB true) Y)) (VRunO.free (VWant.on (b:=true) Y Y Y) (OF.fieldAddrO (tv (T.op 0 0) Y) ZQ) (VRunO.look (VWant.on (b:=true) Y Y Y) (OL.loadO1 (t:=(tI x1.B)) (tv (T.op 0 3) Y) Y Y QQ) (VRunO.free (VWant.on (b:=true) Y Y Y) (OF.move (tv (tN i) Y)) (VRunO.free (VWant.on (b:=true) Y Y Y) (B.sub (n:=(((i:Nat):Int) - 1)) (tv (tN i) Y) (VEv.int .i64 1) (by (rw [Qs (by omega)];done))) (VRunO.chain (VWant.on (b:=true) Y Y Y) (cS (vc (tv (tI x1.B) Y) (vc (VEv.int .i64 0) (vc (tv (tI (((i:Nat):Int) - 1)) Y) vn))) (Q8 Y) (Q0 (n+1) x1.B 0 (((i:Nat):Int) - 1)) Y Y) (VRunO.free (VWant.on (b:=true) Y Y Y) (QW (tv (tB (decide (0≤x1.B∧x1.B≤(((i:Nat):Int) - 1)))) Y)) (gF (nz fhg59_5) Y Y (OF.pickT (tv (tB true) Y) (tv (tB (!(decide (0≤x1.B∧x1.B≤(((i:Nat):Int) - 1))))) Y)) (fO (OF.pickF (VEv.tmpB Y (nz fhg59_5)) (tv (tB (!(decide (0≤x1.B∧x1.B≤(((i:Nat):Int) - 1))))) Y)) (mO (tB (!(decide (0≤x1.B∧x1.B≤(((i:Nat):Int) - 1))))) Y ?_))))))))))
   refine gn (0≤x1.B∧x1.B≤(((i:Nat):Int) - 1)) (fun fhg70_6=> ?_) fun fhg70_6=> ?_
   ·refine Qz 3 17 false 70 (ny fhg70_6) Y Y Y ?_
    refine Qai 3 20 true 73 Y Y Y (oO Y Y (ny fhg70_6) (fO (OF.pickT (VEv.tmpB Y (ny fhg70_6)) (VEv.bool true)) (nt (ct Y (sr (fO (OF.assign (VEv.bool false)) (nt (rt (tr (vb (b':=false) Y ?_))))))))))
    (symm;rw [decide_eq_false_iff_not,QK hx1];rintro ⟨h1,h2,h3⟩;by_cases hk:x1.Kind=1<;>simp only [hk,two] at* <;>first | omega | (simp_all [Zo];omega))
   refine gF (nz fhg70_6) Y Y (OF.move (tv (tB true) Y)) (gF (nz fhg70_6) Y Y (B.not (c:=false) (tv (tB true) Y) Y) (gF (nz fhg70_6) Y Y (OF.move (tv (tB false) Y)) (Qz 3 20 true 73 (b:=false) Y Y Y Y (gF (nz fhg70_6) Y Y (OF.pickF (tv (tB false) Y) (VEv.bool false)) (fO (OF.pickF (VEv.tmpB Y (nz fhg70_6)) (tv (tB false) Y)) (nt (cf Y (sk (tn (sr (mO (tB true) Y ?_)))))))))))
   refine mO (tB true) Y (Qz 3 1 false 80 (b:=true) Y Y Y Y (fO (OF.pickT (tv (tB true) Y) (VEv.bool true)) (mO (tB true) Y (Qz 7 6 false 85 (b:=true) Y Y Y Y (fO (OF.pickT (tv (tB true) Y) (VEv.bool true)) (aO (tB true) Y (nt (rt (vb (b':=true) Y ?_)))))))))
   (symm;rw [decide_eq_true_eq,QK hx1];refine ⟨by omega,fun hk=> ?_,fun hk=> ?_⟩<;>first | (exfalso;omega) | (simp_all [two,Zo];omega))
  refine Yt (tI x1.Kind) (dz fhg37_4) Y Y Y Y Q7 Y Y QQ (gF (dz fhg37_4) Y Y (Z7 (tv (tI x1.Kind) Y) (VEv.int .i64 5)) (fO (OF.pickF (VEv.tmpB Y (dz fhg37_4)) (tv (tB (decide (x1.Kind=5))) Y)) (aO (tB (decide (x1.Kind=5))) Y (nt (sq (sr (lf (tI x1.Kind) Y Q7 Y Y QQ (fO (Z7 (tv (tI x1.Kind) Y) (VEv.int .i64 1)) (nt (cg (dz fhg28_3) Y (sk ?_)))))))))))
  refine tn (sq (sr (lf (tI x1.A) Y Zs Y Y QQ (mO (tN i) Y (fO (B.sub (n:=(((i:Nat):Int) - 1)) (tv (tN i) Y) (VEv.int .i64 1) (by (rw [Qs (by omega)];done))) (cO (cS (vc (tv (tI x1.A) Y) (vc (VEv.int .i64 0) (vc (tv (tI (((i:Nat):Int) - 1)) Y) vn))) (Q8 Y) (Q0 (n+1) x1.A 0 (((i:Nat):Int) - 1)) Y Y) (fO (QW (tv (tB (decide (0≤x1.A∧x1.A≤(((i:Nat):Int) - 1)))) Y)) (mO (tB (!(decide (0≤x1.A∧x1.A≤(((i:Nat):Int) - 1))))) Y ?_))))))))
  refine gn (0≤x1.A∧x1.A≤(((i:Nat):Int) - 1)) (fun fhg59_7=> ?_) fun fhg59_7=> ?_
  ·refine Qz 2 6 false 59 (ny fhg59_7) Y Y Y ?_
   refine Qai 6 8 true 61 Y Y Y (oO Y Y (ny fhg59_7) (fO (OF.pickT (VEv.tmpB Y (ny fhg59_7)) (VEv.bool true)) (mO (tB true) Y (Qz 3 17 false 70 (b:=true) Y Y Y Y (Qai 3 20 true 73 Y Y Y (VRunO.off (VWant.not (b:=true) Y Y Y) (fO (OF.pickT (tv (tB true) Y) (VEv.bool true)) (nt (ct Y (sr (fO (OF.assign (VEv.bool false)) ?_)))))))))))
   refine nt (rt (tr (vb (b':=false) Y ?_)))
   (symm;rw [decide_eq_false_iff_not,QK hx1];rintro ⟨h1,h2,h3⟩;by_cases hk:x1.Kind=1<;>simp only [hk,two] at* <;>first | (simp_all [Zo];done) | (simp_all [Zo];omega))
  refine gF (nz fhg59_7) Y Y (OF.move (tv (tB (decide (x1.Kind=5))) Y)) (gF (nz fhg59_7) Y Y (OF.move (tv (tB (decide (x1.Kind=5))) Y)) ?_)
  refine gw (x1.Kind=5) (fun fhg61_8=> ?_) fun fhg61_8=> ?_
  ·refine Yt (tI x1.B) (dy fhg61_8) Y Y Y Y ZQ Y Y QQ ?_
   refine gF (dy fhg61_8) Y Y (OF.move (tv (tN i) Y)) (gF (dy fhg61_8) Y Y (B.sub (n:=(((i:Nat):Int) - 1)) (tv (tN i) Y) (VEv.int .i64 1) (by (rw [Qs (by omega)];done))) (VRunO.chain (VWant.on Y Y (dy fhg61_8)) (cS (vc (tv (tI x1.B) Y) (vc (VEv.int .i64 0) (vc (tv (tI (((i:Nat):Int) - 1)) Y) vn))) (Q8 Y) (Q0 (n+1) x1.B 0 (((i:Nat):Int) - 1)) Y Y) (gF (dy fhg61_8) Y Y (QW (tv (tB (decide (0≤x1.B∧x1.B≤(((i:Nat):Int) - 1)))) Y)) (gF (nz fhg59_7) Y Y (OF.pickT (VEv.tmpB Y (dy fhg61_8)) (tv (tB (!(decide (0≤x1.B∧x1.B≤(((i:Nat):Int) - 1))))) Y)) (fO (OF.pickF (VEv.tmpB Y (nz fhg59_7)) (tv (tB (!(decide (0≤x1.B∧x1.B≤(((i:Nat):Int) - 1))))) Y)) (mO (tB (!(decide (0≤x1.B∧x1.B≤(((i:Nat):Int) - 1))))) Y ?_))))))
   refine gn (0≤x1.B∧x1.B≤(((i:Nat):Int) - 1)) (fun fhg70_9=> ?_) fun fhg70_9=> ?_
   ·refine Qz 3 17 false 70 (ny fhg70_9) Y Y Y ?_
    refine Qai 3 20 true 73 Y Y Y (oO Y Y (ny fhg70_9) (fO (OF.pickT (VEv.tmpB Y (ny fhg70_9)) (VEv.bool true)) (nt (ct Y (sr (fO (OF.assign (VEv.bool false)) (nt (rt (tr (vb (b':=false) Y ?_))))))))))
    (symm;rw [decide_eq_false_iff_not,QK hx1];rintro ⟨h1,h2,h3⟩;by_cases hk:x1.Kind=1<;>simp only [hk,two] at* <;>first | omega | (simp_all [Zo];omega))
   refine gF (nz fhg70_9) Y Y (OF.move (tv (tB (decide (x1.Kind=5))) Y)) (gF (nz fhg70_9) Y Y (QW (tv (tB (decide (x1.Kind=5))) Y)) (gF (nz fhg70_9) Y Y (OF.move (tv (tB (!(decide (x1.Kind=5)))) Y)) (Qz 3 20 true 73 (nkT (dy fhg61_8)) Y Y Y (gF (nz fhg70_9) Y Y (OF.pickF (VEv.tmpB Y (nkT (dy fhg61_8))) (VEv.bool false)) (fO (OF.pickF (VEv.tmpB Y (nz fhg70_9)) (tv (tB false) Y)) (nt (cf Y (sk (tn (sr (mO (tB (decide (x1.Kind=5))) Y ?_)))))))))))
   refine mO (tB (decide (x1.Kind=5))) Y (Qz 3 1 false 80 (dy fhg61_8) Y Y Y (fO (OF.pickT (VEv.tmpB Y (dy fhg61_8)) (VEv.bool true)) (mO (tB true) Y (Qz 7 6 false 85 (b:=true) Y Y Y Y (fO (OF.pickT (tv (tB true) Y) (VEv.bool true)) (aO (tB true) Y (nt (rt (vb (b':=true) Y ?_)))))))))
   (symm;rw [decide_eq_true_eq,QK hx1];refine ⟨by omega,fun hk=> ?_,fun hk=> ?_⟩<;>first | (exfalso;omega) | (simp_all [two,Zo];omega))
  refine Qz 6 8 true 61 (dz fhg61_8) Y Y Y (gF (nz fhg59_7) Y Y (OF.pickF (VEv.tmpB Y (dz fhg61_8)) (VEv.bool false)) (fO (OF.pickF (VEv.tmpB Y (nz fhg59_7)) (tv (tB false) Y)) (mO (tB false) Y (VRunO.free (VWant.on (b:=false) Y Y Y) (OF.move (tv (tB (decide (x1.Kind=5))) Y)) (VRunO.free (VWant.on (b:=false) Y Y Y) (QW (tv (tB (decide (x1.Kind=5))) Y)) (VRunO.free (VWant.on (b:=false) Y Y Y) (OF.move (tv (tB (!(decide (x1.Kind=5)))) Y)) (Yt (tI x1.B) (nkF (dz fhg61_8)) Y Y Y Y ZQ Y Y QQ (gF (nkF (dz fhg61_8)) Y Y (xne (tv (tI x1.B) Y) (VEv.int .i64 0)) (VRunO.free (VWant.on (b:=false) Y Y Y) (OF.pickT (VEv.tmpB Y (nkF (dz fhg61_8))) (tv (tB (!(decide (x1.B=0)))) Y)) (fO (OF.pickF (tv (tB false) Y) (tv (tB (!(decide (x1.B=0)))) Y)) (nt ?_)))))))))))
  refine cn (x1.B=0) Y (fun fhc2=> ?_) fun fhc2=> ?_
  ·refine sr ?_
   refine fO (OF.assign (VEv.bool false)) (nt (rt (tr (vb (b':=false) Y ?_))))
   (symm;rw [decide_eq_false_iff_not,QK hx1];rintro ⟨h1,h2,h3⟩;by_cases hk:x1.Kind=1<;>simp only [hk,two] at* <;>(simp_all [Zo];done))
  refine sk (tn (sr (mO (tB (decide (x1.Kind=5))) Y (mO (tB (decide (x1.Kind=5))) Y (Yt (tI x1.Kind) (dz fhg61_8) Y Y Y Y Q7 Y Y QQ (gF (dz fhg61_8) Y Y (Z7 (tv (tI x1.Kind) Y) (VEv.int .i64 2)) (fO (OF.pickF (VEv.tmpB Y (dz fhg61_8)) (tv (tB (decide (x1.Kind=2))) Y)) (mO (tB (decide (x1.Kind=2))) Y ?_))))))))
  refine gw (x1.Kind=2) (fun fhg85_10=> ?_) fun fhg85_10=> ?_
  ·refine Qz 7 6 false 85 (dy fhg85_10) Y Y Y ?_
   refine fO (OF.pickT (VEv.tmpB Y (dy fhg85_10)) (VEv.bool true)) (aO (tB true) Y (nt (rt (vb (b':=true) Y ?_))))
   (symm;rw [decide_eq_true_eq,QK hx1];refine ⟨by omega,fun hk=> ?_,fun hk=> ?_⟩<;>first | (exfalso;omega) | (simp_all [two,Zo];omega))
  refine gF (dz fhg85_10) Y Y (OF.move (tv (rd 4 Qf a) Y)) (Yt (tI x1.A) (dz fhg85_10) Y Y Y Y Zs Y Y QQ ?_)
  obtain ⟨x2,hx2⟩:∃x,a[(Int.toNat x1.A)]? =some x:=⟨_,List.getElem?_eq_getElem (by omega)⟩
  refine gF (dz fhg85_10) Y Y (OF.indexAddrR (row:=(Qf false x2)) (i:=(Int.toNat x1.A)) (tv (rd 4 Qf a) Y) (tv (tI x1.A) Y) (by omega) (Qu _ hx2) U62 ZD YH) (glr (tI x2.Kind) (dz fhg85_10) Y Y Y Y (lb Y) Q7 Y QQ (gF (dz fhg85_10) Y Y (Z7 (tv (tI x2.Kind) Y) (VEv.int .i64 1)) (fO (OF.pickF (VEv.tmpB Y (dz fhg85_10)) (tv (tB (decide (x2.Kind=1))) Y)) (aO (tB (decide (x2.Kind=1))) Y (nt (rt (vb (b':=(decide (x2.Kind=1))) Y ?_)))))))
  (refine Qox hx1 hx2 ?_ ?_ ?_ ?_ ?_ ?_ ?_<;>first | assumption | omega | (simp only [two];omega))
 refine oD Y Y (nz fhg28_3) Y (oD Y Y (nz fhg28_3) Y (oD Y Y (nz fhg28_3) Y (VRunD.free Y (VWant.on Y Y hg24_2) Y (OF.pickF (VEv.tmpB Y (nz fhg28_3)) (VEv.bool false)) (fD (OF.pickF (VEv.tmpB Y hg24_2) (tv (tB false) Y)) Y Y (VRunD.nil (tn (cf Y (sk (tn (sr (lf (tI x1.Kind) Y Q7 Y Y QQ ?_)))))))))))
 refine fO (Z7 (tv (tI x1.Kind) Y) (VEv.int .i64 4)) (mO (tB (decide (x1.Kind=4))) Y ?_)
 refine gw (x1.Kind=4) (fun fhg37_11=> ?_) fun fhg37_11=> ?_
 ·refine Qz 3 3 false 37 (dy fhg37_11) Y Y Y ?_
  refine fO (OF.pickT (VEv.tmpB Y (dy fhg37_11)) (VEv.bool true)) (aO (tB true) Y (nt (sq (sr (lf (tI x1.Kind) Y Q7 Y Y QQ (fO (Z7 (tv (tI x1.Kind) Y) (VEv.int .i64 1)) (nt (ck (dy fhg28_3) Y (sr (lf (tI x1.A) Y Zs Y Y QQ (fO (Z7 (tv (tI x1.A) Y) (VEv.int .i64 0)) ?_)))))))))))
  refine mO (tB (decide (x1.A=0))) Y ?_
  refine gw (x1.A=0) (fun fhg48_12=> ?_) fun fhg48_12=> ?_
  ·refine Yt (tI x1.B) (dy fhg48_12) Y Y Y Y ZQ Y Y QQ ?_
   refine gF (dy fhg48_12) Y Y (Z7 (tv (tI x1.B) Y) (VEv.int .i64 0)) (fO (OF.pickT (VEv.tmpB Y (dy fhg48_12)) (tv (tB (decide (x1.B=0))) Y)) (aO (tB (decide (x1.B=0))) Y (nt (rt (tr (vb (b':=(decide (x1.B=0))) Y ?_))))))
   (exfalso;omega)
  refine Qz 3 3 true 48 (dz fhg48_12) Y Y Y (fO (OF.pickF (VEv.tmpB Y (dz fhg48_12)) (VEv.bool false)) (aO (tB false) Y (nt (rt (tr (vb (b':=false) Y ?_))))))
  (exfalso;omega)
 refine Yt (tI x1.Kind) (dz fhg37_11) Y Y Y Y Q7 Y Y QQ (gF (dz fhg37_11) Y Y (Z7 (tv (tI x1.Kind) Y) (VEv.int .i64 5)) (fO (OF.pickF (VEv.tmpB Y (dz fhg37_11)) (tv (tB (decide (x1.Kind=5))) Y)) (aO (tB (decide (x1.Kind=5))) Y (nt (sq (sr (lf (tI x1.Kind) Y Q7 Y Y QQ (fO (Z7 (tv (tI x1.Kind) Y) (VEv.int .i64 1)) (nt (ck (dy fhg28_3) Y (sr ?_)))))))))))
 refine lf (tI x1.A) Y Zs Y Y QQ (fO (Z7 (tv (tI x1.A) Y) (VEv.int .i64 0)) (mO (tB (decide (x1.A=0))) Y ?_))
 refine gw (x1.A=0) (fun fhg48_13=> ?_) fun fhg48_13=> ?_
 ·refine Yt (tI x1.B) (dy fhg48_13) Y Y Y Y ZQ Y Y QQ ?_
  refine gF (dy fhg48_13) Y Y (Z7 (tv (tI x1.B) Y) (VEv.int .i64 0)) (fO (OF.pickT (VEv.tmpB Y (dy fhg48_13)) (tv (tB (decide (x1.B=0))) Y)) (aO (tB (decide (x1.B=0))) Y (nt (rt (tr (vb (b':=(decide (x1.B=0))) Y ?_))))))
  (refine Qom hx1 ?_ ?_ ?_ ?_<;>first | assumption | (simp_all;done))
 refine Qz 3 3 true 48 (dz fhg48_13) Y Y Y (fO (OF.pickF (VEv.tmpB Y (dz fhg48_13)) (VEv.bool false)) (aO (tB false) Y (nt (rt (tr (vb (b':=false) Y ?_))))))
 (symm;rw [decide_eq_false_iff_not,QK hx1];rintro ⟨h1,h2,h3⟩;by_cases hk:x1.Kind=1<;>simp only [hk,two] at* <;>(simp_all [Zo];done))
theorem Qb5 (n:Nat) (a:List D.Step) (hz:zL Ze a≤mx):Pure (Qq Tryz.prog (n+4)) 100 [(rd 4 Qf a)] (tB (decide (QR a))):=by
 refine Pure.intro (rs:= [ResultVar.tmp 2]) Tryz.func100 Y Y Y (E0:= [(0,(rd 4 Qf a))]) Y ?_
 obtain ⟨hlim,hmx,hmax⟩:=QC
 have ha:=QV (z:=Ze) a
 refine sr (fO (OF.assign (VEv.bool false)) (nt (sq (sr (fO (OF.assign (VEv.int .i64 0)) (nt (VRun.block ?_)))))))
 refine VRun.loop (A:=Nat) (fun s_=> [(0,(rd 4 Qf a)),(3,(tN s_))]) (fun s_=>QU []) 0 (fun s_=>s_≤a.length∧∀j,j<s_→Jz a j) (fun s_=>a.length - s_) (0:Nat) ?_ (Wk.mk (fun k=>k) ?_ ?_ ?_) ?_
 ·exact ⟨Nat.zero_le _,fun j hj=>by omega⟩
 ·exact (b2 (b2 bn))
 ·exact bn
 ·exact nd Y
 rintro i (hI':i≤a.length∧∀j,j<i→Jz a j)
 show VRun _ _ _ [(0,(rd 4 Qf a)),(3,(tN i))] (QU []) 0 _
 have hI0:=hI'
 refine sq (sr (mO (tN i) Y (mO (rd 4 Qf a) Y (lO (B.lenR (m:=a.length) (tv (rd 4 Qf a) Y) U62 (List.length_map ..)) (fO (Q2 (tv (tN i) Y) (tv (tN a.length) Y)) (mO (tB (decide (i<a.length))) Y ?_))))))
 refine gw (i<a.length) (fun fhg8_1=> ?_) fun fhg8_1=> ?_
 ·refine gF (dy fhg8_1) Y Y (OF.move (tv (rd 4 Qf a) Y)) ?_
  refine gL (dy fhg8_1) Y Y (B.lenR (m:=a.length) (tv (rd 4 Qf a) Y) U62 (List.length_map ..)) (gF (dy fhg8_1) Y Y (B.leq (c:=(decide (a.length≤9))) (tv (tN a.length) Y) (VEv.int .i64 9) (Qv (by omega))) (fO (OF.pickT (VEv.tmpB Y (dy fhg8_1)) (tv (tB (decide (a.length≤9))) Y)) (nt ?_)))
  refine cd (a.length≤9) Y (fun fhc0=> ?_) fun fhc0=> ?_
  ·refine sk ?_
   refine tn (sq (VRun.block (sr (mO (rd 4 Qf a) Y (mO (tN i) Y (cO (cS (vc (tv (rd 4 Qf a) Y) (vc (tv (tN i) Y) vn)) (Q8 Y) (QhD (n+0) a i (by assumption) (by assumption)) Y Y) (fO (QW (tv (tB (decide (Jz a i))) Y)) (nt ?_))))))))
   refine cn (Jz a i) Y (fun fhc1=> ?_) fun fhc1=> ?_
   ·refine sr ?_
    refine fO (OF.assign (VEv.bool false)) (nt (rt (vinB.r (tr (tr (vinB.r (tr (vb (b':=false) Y ?_))))))))
    (symm;rw [decide_eq_false_iff_not];rintro ⟨h1,h2⟩;exact absurd (h2 i (by omega)) (by assumption))
   refine sk (vinB.n (tn (VRun.region (mO (tN i) Y (fO (Qx (tv (tN i) Y) (VEv.int .i64 1) (by omega)) (aO (tN (i+1)) Y (VRunO.nil (tn ?_))))))))
   refine ⟨(i+1:Nat),?_,?_,Wk.mk (fun k=>k) ?_ ?_ ?_⟩
   ·exact Zc hI0 (by omega) (by assumption)
   ·omega
   ·exact (b2 (b2 bn))
   ·exact bn
   ·exact nd Y
  refine VRun.exit (vthn.e (vthn.e (vinB.e (tn (sr (mO (rd 4 Qf a) Y (lO (B.lenR (m:=a.length) (tv (rd 4 Qf a) Y) U62 (List.length_map ..)) (cO (cS (vc (tv (tN a.length) Y) (vc (VEv.int .i64 1) (vc (VEv.int .i64 9) vn))) (Q8 Y) (Q0 (n+2) ((a.length:Nat):Int) 1 9) Y Y) (aO (tB (decide (1≤((a.length:Nat):Int)∧((a.length:Nat):Int)≤9))) Y (nt (rt ?_)))))))))))
  refine vb (b':=(decide (1≤((a.length:Nat):Int)∧((a.length:Nat):Int)≤9))) Y ?_
  (refine Qv ⟨fun h=>⟨by omega,Qa7 hI' (by omega)⟩,fun h=>by have:=h.1;omega⟩)
 refine Qz 3 4 true 8 (dz fhg8_1) Y Y Y (fO (OF.pickF (VEv.tmpB Y (dz fhg8_1)) (VEv.bool false)) (nt (cf Y (VRun.exit (vthn.e (vthn.e (vinB.e (tn (sr (mO (rd 4 Qf a) Y (lO (B.lenR (m:=a.length) (tv (rd 4 Qf a) Y) U62 (List.length_map ..)) ?_)))))))))))
 refine cO (cS (vc (tv (tN a.length) Y) (vc (VEv.int .i64 1) (vc (VEv.int .i64 9) vn))) (Q8 Y) (Q0 (n+2) ((a.length:Nat):Int) 1 9) Y Y) (aO (tB (decide (1≤((a.length:Nat):Int)∧((a.length:Nat):Int)≤9))) Y (nt (rt (vb (b':=(decide (1≤((a.length:Nat):Int)∧((a.length:Nat):Int)≤9))) Y ?_))))
 (refine Qv ⟨fun h=>⟨by omega,Qa7 hI' (by omega)⟩,fun h=>by have:=h.1;omega⟩)
theorem Qca (n:Nat) (a:List D.Step) (hz:zL Ze a≤mx):Pure (Qq Tryz.prog (n+3)) 116 [(rd 4 Qf a)] (tB (decide (QR a))):=by
 refine Pure.intro (rs:= [ResultVar.tmp 2]) Tryz.func116 Y Y Y (E0:= [(0,(rd 4 Qf a))]) Y ?_
 obtain ⟨hlim,hmx,hmax⟩:=QC
 have ha:=QV (z:=Ze) a
 have hw:∀x∈a,x.Word.size≤maxLen:=fun x hx=>by have h1:=QlV (z:=Ze) hx;simp only [Ze] at h1;omega
 refine sr (fO (OF.assign (VEv.bool false)) (nt (sq (sr (mO (rd 4 Qf a) Y (lO (B.lenR (m:=a.length) (tv (rd 4 Qf a) Y) U62 (List.length_map ..)) (cO (cS (vc (tv (tN a.length) Y) (vc (VEv.int .i64 1) (vc (VEv.int .i64 9) vn))) (Q8 Y) (Zx (n+1) ((a.length:Nat):Int) 1 9) Y Y) (fO (QW (tv (tB (decide (1≤((a.length:Nat):Int)∧((a.length:Nat):Int)≤9))) Y)) (nt ?_)))))))))
 refine cn (1≤((a.length:Nat):Int)∧((a.length:Nat):Int)≤9) Y (fun fhc0=> ?_) fun fhc0=> ?_
 ·refine sr ?_
  refine fO (OF.assign (VEv.bool false)) (nt (rt (tr (vb (b':=false) Y ?_))))
  (symm;rw [decide_eq_false_iff_not];rintro ⟨h1,h2⟩;(exfalso;omega))
 refine sk (tn (sq (sr (mO (rd 4 Qf a) Y (lO (B.lenR (m:=a.length) (tv (rd 4 Qf a) Y) U62 (List.length_map ..)) (fO (OF.move (VEv.int .i64 0)) (nt (VRun.block ?_))))))))
 refine VRun.loop (A:=Nat) (fun s_=> [(0,(rd 4 Qf a)),(9,(rd 4 Qf a)),(10,(tN a.length)),(11,(tN s_))]) (fun s_=>QU []) 0 (fun s_=>s_≤a.length∧∀j,j<s_→Jz a j) (fun s_=>a.length - s_) (0:Nat) ?_ (Wk.mk (fun k=>k) ?_ ?_ ?_) ?_
 ·exact ⟨Nat.zero_le _,fun j hj=>by omega⟩
 ·exact (b2 (b2 (b2 (b2 bn))))
 ·exact bn
 ·exact nd Y
 rintro i (hI':i≤a.length∧∀j,j<i→Jz a j)
 show VRun _ _ _ [(0,(rd 4 Qf a)),(9,(rd 4 Qf a)),(10,(tN a.length)),(11,(tN i))] (QU []) 0 _
 have hI0:=hI'
 refine sr (fO (Q2 (tv (tN i) Y) (tv (tN a.length) Y)) (nt (sq ?_)))
 refine cd (i<a.length) Y (fun fhc1=> ?_) fun fhc1=> ?_
 ·refine sk ?_
  refine tn (sq (VRun.block (sr (mO (tN i) Y ?_))))
  obtain ⟨x1,hx1⟩:∃x,a[i]? =some x:=⟨_,List.getElem?_eq_getElem (by omega)⟩
  refine fO (OF.indexAddrR (row:=(Qf false x1)) (i:=i) (tv (rd 4 Qf a) Y) (tv (tN i) Y) Y (Qu _ hx1) U62 ZD YH) (lO (OL.loadRn (us:=(Qf false x1)) (tv (T.rp (Qf false x1)) Y) Qb9 ZD (lb Y) Y) (kO (B.alloc (t:=(T.agg [(tN 0),(tS ByteArray.empty),(tN 0),(tN 0)])) (ts:= [(tN 0),(tS ByteArray.empty),(tN 0),(tN 0)]) Qfk QfK nofun (fun _=> .agg _ _ Y (YK (RL.cons (.int _ _) (RL.cons (.str _) (RL.cons (.int _ _) (RL.cons (.int _ _) (RL.nil _))))))) Y) (aO (tN i) Y (cO (B.storeW (us:=(Qf false x1)) (tv (T.op 0 0) Y) (tv (T.agg (Qf false x1)) Y) nofun Y Y Y YH ZD (bc Y (bc Y (bc Y (bc Y bn))))) (nt (sq (sr (lf (tI x1.Kind) Y Q7 Y Y QQ (cO (cS (vc (tv (tI x1.Kind) Y) (vc (VEv.int .i64 1) (vc (VEv.int .i64 9) vn))) (Q8 Y) (Zx (n+1) x1.Kind 1 9) Y Y) (fO (QW (tv (tB (decide (1≤x1.Kind∧x1.Kind≤9))) Y)) (nt ?_)))))))))))
  refine cn (1≤x1.Kind∧x1.Kind≤9) Y (fun fhc2=> ?_) fun fhc2=> ?_
  ·refine sr ?_
   refine fO (OF.assign (VEv.bool false)) (nt (rt (tr (vinB.r (tr (tr (vinB.r (tr (vb (b':=false) Y ?_)))))))))
   (symm;rw [decide_eq_false_iff_not];rintro ⟨h1,h2⟩;(have h3:=(QK hx1).1 (h2 i fhc1);obtain ⟨h4,h5,h6⟩:=h3;simp only [two] at h6;omega))
  refine sk (tn (sq (sr (lf (tI x1.Kind) Y Q7 Y Y QQ (fO (Z7 (tv (tI x1.Kind) Y) (VEv.int .i64 1)) (nt ?_))))))
  refine cd (x1.Kind=1) Y (fun fhc3=> ?_) fun fhc3=> ?_
  ·refine sq ?_
   refine sr (lf (tS x1.Word) Y Yb Y Y ZH (cO (cS (vc (tv (tS x1.Word) Y) vn) (Q8 Y) (Za (n+0) x1.Word (by exact hw _ (List.mem_of_getElem? hx1))) Y Y) (fO (QW (tv (tB (decide (Ql x1.Word))) Y)) (mO (tB (!(decide (Ql x1.Word)))) Y ?_))))
   refine gn (Ql x1.Word) (fun fhg27_1=> ?_) fun fhg27_1=> ?_
   ·refine Qz 3 4 false 27 (ny fhg27_1) Y Y Y ?_
    refine fO (OF.pickT (VEv.tmpB Y (ny fhg27_1)) (VEv.bool true)) (mO (tB true) Y (Qz 3 9 false 32 (b:=true) Y Y Y Y (fO (OF.pickT (tv (tB true) Y) (VEv.bool true)) (nt (ct Y (sr (fO (OF.assign (VEv.bool false)) (nt (rt (tr (tr ?_)))))))))))
    refine vinB.r (tr (tr (vinB.r (tr (vb (b':=false) Y ?_)))))
    (symm;rw [decide_eq_false_iff_not];rintro ⟨h1,h2⟩;(have h3:=(QK hx1).1 (h2 i fhc1);obtain ⟨h4,h5,h6⟩:=h3;simp only [two] at h6;(by_cases hk:x1.Kind=1<;>simp_all<;>omega)))
   refine Yt (tI x1.A) (nz fhg27_1) Y Y Y Y Zs Y Y QQ (gF (nz fhg27_1) Y Y (xne (tv (tI x1.A) Y) (VEv.int .i64 0)) (fO (OF.pickF (VEv.tmpB Y (nz fhg27_1)) (tv (tB (!(decide (x1.A=0)))) Y)) (mO (tB (!(decide (x1.A=0)))) Y ?_)))
   refine gn (x1.A=0) (fun fhg32_2=> ?_) fun fhg32_2=> ?_
   ·refine Qz 3 9 false 32 (ny fhg32_2) Y Y Y ?_
    refine fO (OF.pickT (VEv.tmpB Y (ny fhg32_2)) (VEv.bool true)) (nt (ct Y (sr (fO (OF.assign (VEv.bool false)) (nt (rt (tr (tr (vinB.r (tr (tr ?_)))))))))))
    refine vinB.r (tr (vb (b':=false) Y ?_))
    (symm;rw [decide_eq_false_iff_not];rintro ⟨h1,h2⟩;(have h3:=(QK hx1).1 (h2 i fhc1);obtain ⟨h4,h5,h6⟩:=h3;simp only [two] at h6;omega))
   refine Yt (tI x1.B) (nz fhg32_2) Y Y Y Y ZQ Y Y QQ (gF (nz fhg32_2) Y Y (xne (tv (tI x1.B) Y) (VEv.int .i64 0)) (fO (OF.pickF (VEv.tmpB Y (nz fhg32_2)) (tv (tB (!(decide (x1.B=0)))) Y)) (nt ?_)))
   refine cn (x1.B=0) Y (fun fhc4=> ?_) fun fhc4=> ?_
   ·refine sr ?_
    refine fO (OF.assign (VEv.bool false)) (nt (rt (tr (tr (vinB.r (tr (tr (vinB.r (tr (vb (b':=false) Y ?_))))))))))
    (symm;rw [decide_eq_false_iff_not];rintro ⟨h1,h2⟩;(have h3:=(QK hx1).1 (h2 i fhc1);obtain ⟨h4,h5,h6⟩:=h3;simp only [two] at h6;omega))
   refine sk (tn (VRun.exit (vthn.e (vinB.e (tn (VRun.region (fO (Qx (tv (tN i) Y) (VEv.int .i64 1) (by omega)) (mO (tN (i+1)) Y (VRunO.nil (tn ?_))))))))))
   refine ⟨(i+1:Nat),?_,?_,Wk.mk (fun k=>k) ?_ ?_ ?_⟩
   ·refine Zc hI0 fhc1 ((QK hx1).2 ?_)
    simp only [Qed,two]
    refine ⟨by omega,fun hk=> ?_,fun hk=> ?_⟩
    ·(refine ⟨?_,?_,?_⟩<;>assumption)
    ·(exfalso;omega)
   ·omega
   ·exact (b2 (b2 (b2 (b2 bn))))
   ·exact bn
   ·exact nd Y
  refine sk (tn (sq (sr (lf (tS x1.Word) Y Yb Y Y ZH (fO (B.sneq (c:=(!(decide (x1.Word=(⟨#[]⟩:ByteArray))))) (tv (tS x1.Word) Y) (VEv.str (⟨#[]⟩:ByteArray)) Y) (mO (tB (!(decide (x1.Word=(⟨#[]⟩:ByteArray))))) Y ?_))))))
  refine gn (x1.Word=(⟨#[]⟩:ByteArray)) (fun fhg40_3=> ?_) fun fhg40_3=> ?_
  ·refine Qz 5 3 false 40 (ny fhg40_3) Y Y Y ?_
   refine fO (OF.pickT (VEv.tmpB Y (ny fhg40_3)) (VEv.bool true)) (mO (tB true) Y (Qz 4 10 false 47 (b:=true) Y Y Y Y (Qai 7 14 true 51 Y Y Y (VRunO.off (VWant.not (b:=true) Y Y Y) (fO (OF.pickT (tv (tB true) Y) (VEv.bool true)) (nt (ct Y (sr (fO (OF.assign (VEv.bool false)) (nt (rt ?_)))))))))))
   refine tr (vinB.r (tr (tr (vinB.r (tr (vb (b':=false) Y ?_))))))
   (symm;rw [decide_eq_false_iff_not];rintro ⟨h1,h2⟩;(have h3:=(QK hx1).1 (h2 i fhc1);obtain ⟨h4,h5,h6⟩:=h3;simp only [two] at h6;(by_cases hk:x1.Kind=1<;>simp_all<;>omega)))
  refine Yt (tI x1.A) (nz fhg40_3) Y Y Y Y Zs Y Y QQ (gF (nz fhg40_3) Y Y (OF.move (tv (tN i) Y)) (VRunO.chain (VWant.on Y Y (nz fhg40_3)) (cS (vc (tv (tI x1.A) Y) (vc (tv (tN i) Y) vn)) (Q8 Y) (YR (n+1) x1.A ((i:Nat):Int)) Y Y) (gF (nz fhg40_3) Y Y (QW (tv (tB (decide (0≤x1.A∧x1.A<((i:Nat):Int)))) Y)) (fO (OF.pickF (VEv.tmpB Y (nz fhg40_3)) (tv (tB (!(decide (0≤x1.A∧x1.A<((i:Nat):Int))))) Y)) (mO (tB (!(decide (0≤x1.A∧x1.A<((i:Nat):Int))))) Y ?_)))))
  refine gn (0≤x1.A∧x1.A<((i:Nat):Int)) (fun fhg47_4=> ?_) fun fhg47_4=> ?_
  ·refine Qz 4 10 false 47 (ny fhg47_4) Y Y Y ?_
   refine Qai 7 14 true 51 Y Y Y (oO Y Y (ny fhg47_4) (fO (OF.pickT (VEv.tmpB Y (ny fhg47_4)) (VEv.bool true)) (nt (ct Y (sr (fO (OF.assign (VEv.bool false)) (nt (rt (tr (vinB.r (tr ?_)))))))))))
   refine tr (vinB.r (tr (vb (b':=false) Y ?_)))
   (symm;rw [decide_eq_false_iff_not];rintro ⟨h1,h2⟩;(have h3:=(QK hx1).1 (h2 i fhc1);obtain ⟨h4,h5,h6⟩:=h3;simp only [two] at h6;omega))
  refine Yt (tI x1.Kind) (nz fhg47_4) Y Y Y Y Q7 Y Y QQ (VRunO.chain (VWant.on Y Y (nz fhg47_4)) (cS (vc (tv (tI x1.Kind) Y) vn) (Q8 Y) (QdZ (n+1) x1.Kind) Y Y) (gF (nz fhg47_4) Y Y (OF.move (tv (tB (decide (x1.Kind=3∨6≤x1.Kind))) Y)) ?_))
  refine gw (x1.Kind=3∨6≤x1.Kind) (fun fhg51_5=> ?_) fun fhg51_5=> ?_
  ·refine gF (dy fhg51_5) Y Y (OF.move (tv (rd 4 Qf a) Y)) ?_
   refine Yt (tI x1.A) (dy fhg51_5) Y Y Y Y Zs Y Y QQ ?_
   obtain ⟨x2,hx2⟩:∃x,a[(Int.toNat x1.A)]? =some x:=⟨_,List.getElem?_eq_getElem (by omega)⟩
   refine gF (dy fhg51_5) Y Y (OF.indexAddrR (row:=(Qf false x2)) (i:=(Int.toNat x1.A)) (tv (rd 4 Qf a) Y) (tv (tI x1.A) Y) (by omega) (Qu _ hx2) U62 ZD YH) (glr (tI x2.Kind) (dy fhg51_5) Y Y Y Y (lb Y) Q7 Y QQ (gF (dy fhg51_5) Y Y (xne (tv (tI x2.Kind) Y) (VEv.int .i64 1)) (gF (nz fhg47_4) Y Y (OF.pickT (VEv.tmpB Y (dy fhg51_5)) (tv (tB (!(decide (x2.Kind=1)))) Y)) (fO (OF.pickF (VEv.tmpB Y (nz fhg47_4)) (tv (tB (!(decide (x2.Kind=1)))) Y)) (nt ?_)))))
   refine cn (x2.Kind=1) Y (fun fhc5=> ?_) fun fhc5=> ?_
   ·refine sr ?_
    refine fO (OF.assign (VEv.bool false)) (nt (rt (tr (vinB.r (tr (tr (vinB.r (tr (vb (b':=false) Y ?_)))))))))
    (symm;rw [decide_eq_false_iff_not];rintro ⟨h1,h2⟩;(have h3:=(QK hx1).1 (h2 i fhc1);obtain ⟨h4,h5,h6⟩:=h3;simp only [two] at h6;(by_cases hk:x1.Kind=1<;>simp_all<;>omega)))
   refine sk (tn (sr (lf (tI x1.Kind) Y Q7 Y Y QQ (cO (cS (vc (tv (tI x1.Kind) Y) vn) (Q8 Y) (Yg (n+1) x1.Kind) Y Y) (mO (tB (decide (x1.Kind=4∨x1.Kind=5))) Y ?_)))))
   refine gw (x1.Kind=4∨x1.Kind=5) (fun fhg64_6=> ?_) fun fhg64_6=> ?_
   ·refine Yt (tI x1.B) (dy fhg64_6) Y Y Y Y ZQ Y Y QQ ?_
    refine gF (dy fhg64_6) Y Y (OF.move (tv (tN i) Y)) (VRunO.chain (VWant.on Y Y (dy fhg64_6)) (cS (vc (tv (tI x1.B) Y) (vc (tv (tN i) Y) vn)) (Q8 Y) (YR (n+1) x1.B ((i:Nat):Int)) Y Y) (gF (dy fhg64_6) Y Y (QW (tv (tB (decide (0≤x1.B∧x1.B<((i:Nat):Int)))) Y)) (fO (OF.pickT (VEv.tmpB Y (dy fhg64_6)) (tv (tB (!(decide (0≤x1.B∧x1.B<((i:Nat):Int))))) Y)) (mO (tB (!(decide (0≤x1.B∧x1.B<((i:Nat):Int))))) Y ?_))))
    refine gn (0≤x1.B∧x1.B<((i:Nat):Int)) (fun fhg71_7=> ?_) fun fhg71_7=> ?_
    ·refine Qz 5 10 false 71 (ny fhg71_7) Y Y Y ?_
     refine Qai 3 15 true 76 Y Y Y (oO Y Y (ny fhg71_7) (fO (OF.pickT (VEv.tmpB Y (ny fhg71_7)) (VEv.bool true)) (nt (ct Y (sr (fO (OF.assign (VEv.bool false)) (nt (rt (vinB.r (tr (tr ?_)))))))))))
     refine vinB.r (tr (vb (b':=false) Y ?_))
     (symm;rw [decide_eq_false_iff_not];rintro ⟨h1,h2⟩;(exfalso;omega))
    refine Yt (tI x1.Kind) (nz fhg71_7) Y Y Y Y Q7 Y Y QQ (VRunO.chain (VWant.on Y Y (nz fhg71_7)) (cS (vc (tv (tI x1.Kind) Y) vn) (Q8 Y) (Yg (n+1) x1.Kind) Y Y) (gF (nz fhg71_7) Y Y (QW (tv (tB (decide (x1.Kind=4∨x1.Kind=5))) Y)) (gF (nz fhg71_7) Y Y (OF.move (tv (tB (!(decide (x1.Kind=4∨x1.Kind=5)))) Y)) (Qz 3 15 true 76 (nkT (dy fhg64_6)) Y Y Y (gF (nz fhg71_7) Y Y (OF.pickF (VEv.tmpB Y (nkT (dy fhg64_6))) (VEv.bool false)) (fO (OF.pickF (VEv.tmpB Y (nz fhg71_7)) (tv (tB false) Y)) (nt (cf Y (sk (vinB.n (tn ?_)))))))))))
    refine VRun.region (fO (Qx (tv (tN i) Y) (VEv.int .i64 1) (by omega)) (mO (tN (i+1)) Y (VRunO.nil (tn ?_))))
    refine ⟨(i+1:Nat),?_,?_,Wk.mk (fun k=>k) ?_ ?_ ?_⟩
    ·refine Zc hI0 fhc1 ((QK hx1).2 ?_)
     simp only [Qed,two]
     refine ⟨by omega,fun hk=> ?_,fun hk=> ?_⟩
     ·(exfalso;omega)
     ·(exfalso;omega)
    ·omega
    ·exact (b2 (b2 (b2 (b2 bn))))
    ·exact bn
    ·exact nd Y
   refine Qz 5 3 true 64 (dz fhg64_6) Y Y Y (fO (OF.pickF (VEv.tmpB Y (dz fhg64_6)) (VEv.bool false)) (mO (tB false) Y (VRunO.free (VWant.on (b:=false) Y Y Y) (OF.fieldAddrO (tv (T.op 0 0) Y) Q7) (VRunO.look (VWant.on (b:=false) Y Y Y) (OL.loadO1 (t:=(tI x1.Kind)) (tv (T.op 0 0) Y) Y Y QQ) (VRunO.chain (VWant.on (b:=false) Y Y Y) (cS (vc (tv (tI x1.Kind) Y) vn) (Q8 Y) (Yg (n+1) x1.Kind) Y Y) (VRunO.free (VWant.on (b:=false) Y Y Y) (QW (tv (tB (decide (x1.Kind=4∨x1.Kind=5))) Y)) (VRunO.free (VWant.on (b:=false) Y Y Y) (OF.move (tv (tB (!(decide (x1.Kind=4∨x1.Kind=5)))) Y)) (Yt (tI x1.B) (nkF (dz fhg64_6)) Y Y Y Y ZQ Y Y QQ (gF (nkF (dz fhg64_6)) Y Y (xne (tv (tI x1.B) Y) (VEv.int .i64 0)) (VRunO.free (VWant.on (b:=false) Y Y Y) (OF.pickT (VEv.tmpB Y (nkF (dz fhg64_6))) (tv (tB (!(decide (x1.B=0)))) Y)) (fO (OF.pickF (tv (tB false) Y) (tv (tB (!(decide (x1.B=0)))) Y)) ?_)))))))))))
   refine nt ?_
   refine cn (x1.B=0) Y (fun fhc6=> ?_) fun fhc6=> ?_
   ·refine sr ?_
    refine fO (OF.assign (VEv.bool false)) (nt (rt (vinB.r (tr (tr (vinB.r (tr (vb (b':=false) Y ?_))))))))
    (symm;rw [decide_eq_false_iff_not];rintro ⟨h1,h2⟩;(have h3:=(QK hx1).1 (h2 i fhc1);obtain ⟨h4,h5,h6⟩:=h3;simp only [two] at h6;omega))
   refine sk (vinB.n (tn (VRun.region (fO (Qx (tv (tN i) Y) (VEv.int .i64 1) (by omega)) (mO (tN (i+1)) Y (VRunO.nil (tn ?_)))))))
   refine ⟨(i+1:Nat),?_,?_,Wk.mk (fun k=>k) ?_ ?_ ?_⟩
   ·refine Zc hI0 fhc1 ((QK hx1).2 ?_)
    simp only [Qed,two]
    refine ⟨by omega,fun hk=> ?_,fun hk=> ?_⟩
    ·(exfalso;omega)
    ·(refine ⟨?_,?_,fun h=> ?_,fun h=> ?_,fun h1 h2=> ?_⟩<;>first | assumption | omega | (refine ⟨x2,hx2,?_⟩;omega))
   ·omega
   ·exact (b2 (b2 (b2 (b2 bn))))
   ·exact bn
   ·exact nd Y
  refine Qz 7 14 true 51 (dz fhg51_5) Y Y Y (gF (nz fhg47_4) Y Y (OF.pickF (VEv.tmpB Y (dz fhg51_5)) (VEv.bool false)) (fO (OF.pickF (VEv.tmpB Y (nz fhg47_4)) (tv (tB false) Y)) (nt (cf Y (sk (tn (sr (lf (tI x1.Kind) Y Q7 Y Y QQ (cO (cS (vc (tv (tI x1.Kind) Y) vn) (Q8 Y) (Yg (n+1) x1.Kind) Y Y) (mO (tB (decide (x1.Kind=4∨x1.Kind=5))) Y ?_))))))))))
  refine gw (x1.Kind=4∨x1.Kind=5) (fun fhg64_8=> ?_) fun fhg64_8=> ?_
  ·refine Yt (tI x1.B) (dy fhg64_8) Y Y Y Y ZQ Y Y QQ ?_
   refine gF (dy fhg64_8) Y Y (OF.move (tv (tN i) Y)) (VRunO.chain (VWant.on Y Y (dy fhg64_8)) (cS (vc (tv (tI x1.B) Y) (vc (tv (tN i) Y) vn)) (Q8 Y) (YR (n+1) x1.B ((i:Nat):Int)) Y Y) (gF (dy fhg64_8) Y Y (QW (tv (tB (decide (0≤x1.B∧x1.B<((i:Nat):Int)))) Y)) (fO (OF.pickT (VEv.tmpB Y (dy fhg64_8)) (tv (tB (!(decide (0≤x1.B∧x1.B<((i:Nat):Int))))) Y)) (mO (tB (!(decide (0≤x1.B∧x1.B<((i:Nat):Int))))) Y ?_))))
   refine gn (0≤x1.B∧x1.B<((i:Nat):Int)) (fun fhg71_9=> ?_) fun fhg71_9=> ?_
   ·refine Qz 5 10 false 71 (ny fhg71_9) Y Y Y ?_
    refine Qai 3 15 true 76 Y Y Y (oO Y Y (ny fhg71_9) (fO (OF.pickT (VEv.tmpB Y (ny fhg71_9)) (VEv.bool true)) (nt (ct Y (sr (fO (OF.assign (VEv.bool false)) (nt (rt (vinB.r (tr (tr ?_)))))))))))
    refine vinB.r (tr (vb (b':=false) Y ?_))
    (symm;rw [decide_eq_false_iff_not];rintro ⟨h1,h2⟩;(have h3:=(QK hx1).1 (h2 i fhc1);obtain ⟨h4,h5,h6⟩:=h3;simp only [two] at h6;omega))
   refine Yt (tI x1.Kind) (nz fhg71_9) Y Y Y Y Q7 Y Y QQ (VRunO.chain (VWant.on Y Y (nz fhg71_9)) (cS (vc (tv (tI x1.Kind) Y) vn) (Q8 Y) (Yg (n+1) x1.Kind) Y Y) (gF (nz fhg71_9) Y Y (QW (tv (tB (decide (x1.Kind=4∨x1.Kind=5))) Y)) (gF (nz fhg71_9) Y Y (OF.move (tv (tB (!(decide (x1.Kind=4∨x1.Kind=5)))) Y)) (Qz 3 15 true 76 (nkT (dy fhg64_8)) Y Y Y (gF (nz fhg71_9) Y Y (OF.pickF (VEv.tmpB Y (nkT (dy fhg64_8))) (VEv.bool false)) (fO (OF.pickF (VEv.tmpB Y (nz fhg71_9)) (tv (tB false) Y)) (nt (cf Y (sk (vinB.n (tn ?_)))))))))))
   refine VRun.region (fO (Qx (tv (tN i) Y) (VEv.int .i64 1) (by omega)) (mO (tN (i+1)) Y (VRunO.nil (tn ?_))))
   refine ⟨(i+1:Nat),?_,?_,Wk.mk (fun k=>k) ?_ ?_ ?_⟩
   ·refine Zc hI0 fhc1 ((QK hx1).2 ?_)
    simp only [Qed,two]
    refine ⟨by omega,fun hk=> ?_,fun hk=> ?_⟩
    ·(exfalso;omega)
    ·(refine ⟨?_,?_,fun h=> ?_,fun h=> ?_,fun h1 h2=> ?_⟩<;>first | assumption | omega)
   ·omega
   ·exact (b2 (b2 (b2 (b2 bn))))
   ·exact bn
   ·exact nd Y
  refine Qz 5 3 true 64 (dz fhg64_8) Y Y Y (fO (OF.pickF (VEv.tmpB Y (dz fhg64_8)) (VEv.bool false)) (mO (tB false) Y (VRunO.free (VWant.on (b:=false) Y Y Y) (OF.fieldAddrO (tv (T.op 0 0) Y) Q7) (VRunO.look (VWant.on (b:=false) Y Y Y) (OL.loadO1 (t:=(tI x1.Kind)) (tv (T.op 0 0) Y) Y Y QQ) (VRunO.chain (VWant.on (b:=false) Y Y Y) (cS (vc (tv (tI x1.Kind) Y) vn) (Q8 Y) (Yg (n+1) x1.Kind) Y Y) (VRunO.free (VWant.on (b:=false) Y Y Y) (QW (tv (tB (decide (x1.Kind=4∨x1.Kind=5))) Y)) (VRunO.free (VWant.on (b:=false) Y Y Y) (OF.move (tv (tB (!(decide (x1.Kind=4∨x1.Kind=5)))) Y)) (Yt (tI x1.B) (nkF (dz fhg64_8)) Y Y Y Y ZQ Y Y QQ (gF (nkF (dz fhg64_8)) Y Y (xne (tv (tI x1.B) Y) (VEv.int .i64 0)) (VRunO.free (VWant.on (b:=false) Y Y Y) (OF.pickT (VEv.tmpB Y (nkF (dz fhg64_8))) (tv (tB (!(decide (x1.B=0)))) Y)) (fO (OF.pickF (tv (tB false) Y) (tv (tB (!(decide (x1.B=0)))) Y)) ?_)))))))))))
  refine nt ?_
  refine cn (x1.B=0) Y (fun fhc6=> ?_) fun fhc6=> ?_
  ·refine sr ?_
   refine fO (OF.assign (VEv.bool false)) (nt (rt (vinB.r (tr (tr (vinB.r (tr (vb (b':=false) Y ?_))))))))
   (symm;rw [decide_eq_false_iff_not];rintro ⟨h1,h2⟩;(have h3:=(QK hx1).1 (h2 i fhc1);obtain ⟨h4,h5,h6⟩:=h3;simp only [two] at h6;omega))
  refine sk (vinB.n (tn (VRun.region (fO (Qx (tv (tN i) Y) (VEv.int .i64 1) (by omega)) (mO (tN (i+1)) Y (VRunO.nil (tn ?_)))))))
  refine ⟨(i+1:Nat),?_,?_,Wk.mk (fun k=>k) ?_ ?_ ?_⟩
  ·refine Zc hI0 fhc1 ((QK hx1).2 ?_)
   simp only [Qed,two]
   refine ⟨by omega,fun hk=> ?_,fun hk=> ?_⟩
   ·(exfalso;omega)
   ·(refine ⟨?_,?_,fun h=> ?_,fun h=> ?_,fun h1 h2=> ?_⟩<;>first | assumption | omega)
  ·omega
  ·exact (b2 (b2 (b2 (b2 bn))))
  ·exact bn
  ·exact nd Y
 refine VRun.exit (vthn.e (vthn.e (vinB.e (tn (sr (fO (OF.assign (VEv.bool true)) (nt (rt (vb (b':=true) Y ?_)))))))))
 (symm;rw [decide_eq_true_eq];exact ⟨by omega,Qa7 hI' fhc1⟩)
theorem Qcf (n:Nat) (a:D.Clue) (hz:QP a≤mx):Pure (Qq Tryz.prog (n+5)) 64 [(T.agg (Qi false a))] (tB (decide ((1≤a.Sense∧a.Sense≤99)∧QR a.Play))):=by
 refine Pure.intro (rs:= [ResultVar.tmp 2]) Tryz.func64 Y Y Y (E0:= [(0,(T.agg (Qi false a)))]) Y ?_
 obtain ⟨hlim,hmx,hmax⟩:=QC
 simp only [QP] at hz
 refine sr (kO (B.box (ts:=(Qi false a)) (tv (T.agg (Qi false a)) Y) nofun Y) (fO (OF.assign (VEv.bool false)) (nt (sr (lf (tI a.Sense) Y Qci Y Y QQ (cO (cS (vc (tv (tI a.Sense) Y) (vc (VEv.int .i64 1) (vc (VEv.int .i64 99) vn))) (Q8 Y) (Q0 (n+3) a.Sense 1 99) Y Y) (mO (tB (decide (1≤a.Sense∧a.Sense≤99))) Y ?_)))))))
 refine gw (1≤a.Sense∧a.Sense≤99) (fun fhg6_1=> ?_) fun fhg6_1=> ?_
 ·refine Yt (rd 4 Qf a.Play) (dy fhg6_1) Y Y Y Y Qcz Y Y Qks ?_
  refine VRunO.chain (VWant.on Y Y (dy fhg6_1)) (cS (vc (tv (rd 4 Qf a.Play) Y) vn) (Q8 Y) (Qb5 (n+0) a.Play (by assumption)) Y Y) (fO (OF.pickT (VEv.tmpB Y (dy fhg6_1)) (tv (tB (decide (QR a.Play))) Y)) (aO (tB (decide (QR a.Play))) Y (nt (rt (vb (b':=(decide (QR a.Play))) Y ?_)))))
  (refine Qv ⟨fun h=>⟨?_,h⟩,fun h=>h.2⟩;assumption)
 refine Qz 3 3 true 6 (dz fhg6_1) Y Y Y (fO (OF.pickF (VEv.tmpB Y (dz fhg6_1)) (VEv.bool false)) (aO (tB false) Y (nt (rt (vb (b':=false) Y ?_)))))
 (symm;rw [decide_eq_false_iff_not];rintro ⟨h1,h2⟩;contradiction)
theorem Qcd (n:Nat) (a:D.Clue) (hz:QP a≤mx):Pure (Qq Tryz.prog (n+4)) 76 [(T.agg (Qi false a))] (tB (decide ((1≤a.Sense∧a.Sense≤99)∧QR a.Play))):=by
 refine Pure.intro (rs:= [ResultVar.tmp 2]) Tryz.func76 Y Y Y (E0:= [(0,(T.agg (Qi false a)))]) Y ?_
 obtain ⟨hlim,hmx,hmax⟩:=QC
 simp only [QP] at hz
 refine sr (kO (B.box (ts:=(Qi false a)) (tv (T.agg (Qi false a)) Y) nofun Y) (fO (OF.assign (VEv.bool false)) (nt (sr (lf (tI a.Sense) Y Qci Y Y QQ (cO (cS (vc (tv (tI a.Sense) Y) (vc (VEv.int .i64 1) (vc (VEv.int .i64 99) vn))) (Q8 Y) (Zx (n+2) a.Sense 1 99) Y Y) (mO (tB (decide (1≤a.Sense∧a.Sense≤99))) Y ?_)))))))
 refine gw (1≤a.Sense∧a.Sense≤99) (fun fhg6_1=> ?_) fun fhg6_1=> ?_
 ·refine Yt (rd 4 Qf a.Play) (dy fhg6_1) Y Y Y Y Qcz Y Y Qks ?_
  refine VRunO.chain (VWant.on Y Y (dy fhg6_1)) (cS (vc (tv (rd 4 Qf a.Play) Y) vn) (Q8 Y) (Qca (n+0) a.Play (by assumption)) Y Y) (fO (OF.pickT (VEv.tmpB Y (dy fhg6_1)) (tv (tB (decide (QR a.Play))) Y)) (aO (tB (decide (QR a.Play))) Y (nt (rt (vb (b':=(decide (QR a.Play))) Y ?_)))))
  (refine Qv ⟨fun h=>⟨?_,h⟩,fun h=>h.2⟩;assumption)
 refine Qz 3 3 true 6 (dz fhg6_1) Y Y Y (fO (OF.pickF (VEv.tmpB Y (dz fhg6_1)) (VEv.bool false)) (aO (tB false) Y (nt (rt (vb (b':=false) Y ?_)))))
 (symm;rw [decide_eq_false_iff_not];rintro ⟨h1,h2⟩;contradiction)
noncomputable section
def Yw (a:List Int) (i:Nat):List Int:=(List.range a.length).map fun j=>if j<i∨a.length≤j+i then a.getD (a.length - 1 - j) 0 else a.getD j 0
theorem JX (a:List Int) (i:Nat):(Yw a i).length=a.length:=by simp [Yw]
theorem Qc4 {a:List Int} {i j:Nat} (h:j<a.length):(Yw a i)[j]? =some (if j<i∨a.length≤j+i then a.getD (a.length - 1 - j) 0 else a.getD j 0):=by
 unfold Yw
 rw [List.getElem?_map,List.getElem?_range h]
 rfl
theorem Qj7 (a:List Int):Yw a 0=a:=by
 refine List.ext_getElem? fun j=> ?_
 rcases Nat.lt_or_ge j a.length with h | h
 ·rw [Qc4 h,if_neg (by omega),List.getD_eq_getElem?_getD,List.getElem?_eq_getElem h]
  rfl
 ·rw [List.getElem?_eq_none (by rw [JX];exact h),List.getElem?_eq_none h]
theorem Qk7 {a:List Int} {i:Nat} (h:a.length≤2*i+1) (h2:i≤a.length):Yw a i=a.reverse:=by
 refine List.ext_getElem? fun j=> ?_
 rcases Nat.lt_or_ge j a.length with h3 | h3
 ·rw [Qc4 h3,List.getElem?_reverse h3,List.getElem?_eq_getElem (by omega)]
  split
  ·rw [List.getD_eq_getElem?_getD,List.getElem?_eq_getElem (by omega)];rfl
  ·have e:a.length - 1 - j=j:=by omega
   rw [List.getD_eq_getElem?_getD,List.getElem?_eq_getElem h3]
   simp only [Option.getD_some,e]
 ·rw [List.getElem?_eq_none (by rw [JX];exact h3),List.getElem?_eq_none (by simpa using h3)]
theorem Qke {a:List Int} {i k:Nat} {x y:Int} (hk:k=a.length - 1 - i) (hi:i<k) (hx:(Yw a i)[k]? =some x) (hy:(Yw a i)[i]? =some y):((Yw a i).set i x).set k y=Yw a (i+1):=by
 subst hk
 rw [Qc4 (by omega),if_neg (by omega)] at hx hy
 obtain rfl:=Option.some.inj hx
 obtain rfl:=Option.some.inj hy
 refine List.ext_getElem? fun j=> ?_
 rcases Nat.lt_or_ge j a.length with h | h
 ·rw [Qc4 h,List.getElem?_set,List.getElem?_set,List.length_set,JX,Qc4 h]
  by_cases e1:a.length - 1 - i=j
  ·rw [if_pos e1,if_pos (by omega),if_pos (by omega)]
   congr 2
   omega
  ·rw [if_neg e1]
   by_cases e2:i=j
   ·rw [if_pos e2,if_pos (by omega),if_pos (by omega),e2]
   ·rw [if_neg e2]
    by_cases e3:j<i∨a.length≤j+i
    ·rw [if_pos e3,if_pos (by omega)]
    ·rw [if_neg e3,if_neg (by omega)]
 ·rw [List.getElem?_eq_none (by rw [List.length_set,List.length_set,JX];exact h),List.getElem?_eq_none (by rw [JX];exact h)]
end
theorem JM (n:Nat) (a:List Int) (ha:a.length≤Zk):Mut (Qq Tryz.prog (n+1)) 173 1 (a.map (Qw true)) [] none (a.reverse.map (Qw true)):=by
 refine Mut.intro (rt:=0) Tryz.func173 Y Y Y (by kernel_rfl) (ZF (fun _=>rfl) _) (ZF (fun _=>rfl) _) (E0:= []) Y ?_
 obtain ⟨hlim,hmx,hmax⟩:=QC
 refine sr (mO (T.os 1 0 0 ((a.map (Qw true)).length)) Y (lO (B.lenO (m:=a.length) (tv (T.os 1 0 0 ((a.map (Qw true)).length)) Y) Qb4 (List.length_map ..)) (fO (B.sub (n:=(((a.length:Nat):Int) - 1)) (tv (tN a.length) Y) (VEv.int .i64 1) (by (rw [Qs (by omega)];done))) (fO (OF.assign (VEv.int .i64 0)) (aO (tI (((a.length:Nat):Int) - 1)) Y (nt (VRun.block ?_)))))))
 have he1:a=Yw a 0:=by exact (Qj7 a).symm
 refine VRun.loop (A:=Nat) (fun s_=> [(0,(T.os 1 0 0 (((Yw a s_).map (Qw true)).length))),(2,(tN s_)),(3,(tI ((a.length:Int) - 1 - s_)))]) (fun s_=>QU [(0,(Obj.rows 1 ((Yw a s_).map (Qw true))))]) 1 (fun s_=>2*s_≤a.length+1∧s_≤a.length) (fun s_=>a.length - s_) (0:Nat) ?_ (Wk.mk (fun k=>k) ?_ ?_ ?_) ?_
 ·(simp;done)
 ·exact (bc ⟨(congrArg (fun l_=>T.os 1 0 0 (List.map (Qw true) l_).length) he1),rfl⟩ (b2 (bc ⟨(congrArg (T.int .i64) (show (((a.length:Nat):Int) - 1)=(a.length:Int) - 1 - 0 from (by omega))),rfl⟩ bn)))
 ·exact (bc ⟨(congrArg (fun l_=>some (Obj.rows 1 (List.map (Qw true) l_))) he1),(lb Y),rfl⟩ bn)
 ·exact nd Y
 rintro i (hI':2*i≤a.length+1∧i≤a.length)
 show VRun _ _ _ [(0,(T.os 1 0 0 (((Yw a i).map (Qw true)).length))),(2,(tN i)),(3,(tI ((a.length:Int) - 1 - i)))] (QU [(0,(Obj.rows 1 ((Yw a i).map (Qw true))))]) 1 _
 have hml:=JX a i
 have hI1:=hI'.1
 have hI2:=hI'.2
 refine sq (sr (mO (tN i) Y (mO (tI ((a.length:Int) - 1 - i)) Y (fO (xls (tv (tN i) Y) (tv (tI ((a.length:Int) - 1 - i)) Y)) (nt ?_)))))
 refine cd (((i:Nat):Int)<(a.length:Int) - 1 - i) Y (fun fhc0=> ?_) fun fhc0=> ?_
 ·refine sk ?_
  refine tn (sq (VRun.block (VRun.draw (B:= [[],[],[],[],[],[],[5,4],[4,5,6],[],[],[9,8],[8,9,10],[10,9,8,11,7,6,5,4,1,0],[0,1,4,5,6,7,11,8,9,10,12],[13,12,11,10,9,8,7,6,5,4,1,0,3,2],[2,3,0,1,4,5,6,7,8,9,10,11,12,13,14]]) (by kernel_rfl) (by kernel_rfl) (mD (T.os 1 0 0 (((Yw a i).map (Qw true)).length)) Y Y (mD (tN i) Y Y (mD (T.os 1 0 0 (((Yw a i).map (Qw true)).length)) Y Y (mD (tI ((a.length:Int) - 1 - i)) Y Y (mD (T.os 1 0 0 (((Yw a i).map (Qw true)).length)) Y Y (mD (tI ((a.length:Int) - 1 - i)) Y Y ?_)))))))))
  obtain ⟨x1,hx1⟩:∃x,(Yw a i)[(Int.toNat ((a.length:Int) - 1 - i))]? =some x:=⟨_,List.getElem?_eq_getElem (by omega)⟩
  refine fD (B.indexAddrO (i:=(Int.toNat ((a.length:Int) - 1 - i))) (tv (T.os 1 0 0 (((Yw a i).map (Qw true)).length)) Y) (tv (tI ((a.length:Int) - 1 - i)) Y) (by omega) (by (simp only [List.length_map];omega)) Qb4 sz5 if5) Y Y (lD (OL.loadP1 (t:=(T.int .u8 x1)) (row:=(Qw true x1)) (tv (T.orp 1 0 (Int.toNat ((a.length:Int) - 1 - i)) 0) Y) Y (Qu _ hx1) Y Y st5) Y Y (mD (T.os 1 0 0 (((Yw a i).map (Qw true)).length)) Y Y (mD (tN i) Y Y ?_)))
  obtain ⟨x2,hx2⟩:∃x,(Yw a i)[i]? =some x:=⟨_,List.getElem?_eq_getElem (by omega)⟩
  refine fD (B.indexAddrO (i:=i) (tv (T.os 1 0 0 (((Yw a i).map (Qw true)).length)) Y) (tv (tN i) Y) Y (by (simp only [List.length_map];omega)) Qb4 sz5 if5) Y Y (lD (OL.loadP1 (t:=(T.int .u8 x2)) (row:=(Qw true x2)) (tv (T.orp 1 0 i 0) Y) Y (Qu _ hx2) Y Y st5) Y Y (fD (B.indexAddrO (i:=i) (tv (T.os 1 0 0 (((Yw a i).map (Qw true)).length)) Y) (tv (tN i) Y) Y (by (simp only [List.length_map];omega)) Qb4 sz5 if5) Y Y (VRunD.chain (bi:= [0,1,4,5,6,7,11,8,9,10,12]) Y VWant.always Y Y Y (by kernel_rfl) (B.storeP (us:= [(T.int .u8 x1)]) (rows':=(((Yw a i).set i x1).map (Qw true))) (row:=(Qw true x2)) (tv (T.orp 1 0 i 0) Y) (tv (T.int .u8 x1) Y) nofun Y (Qu _ hx2) Y (lb Y) if5 sz5 (bc Y bn) (by intro r hr t ht;obtain ⟨x,_,rfl⟩:=List.mem_map.1 hr;rw [Qg9] at ht;exact ZN (okByte.pl _ t ht)) (Z6 Y)) ?_)))
  obtain ⟨x3,hx3⟩:∃x,((Yw a i).set i x1)[(Int.toNat ((a.length:Int) - 1 - i))]? =some x:=⟨_,List.getElem?_eq_getElem (by (simp only [List.length_set];omega))⟩
  refine fD (B.indexAddrO (i:=(Int.toNat ((a.length:Int) - 1 - i))) (tv (T.os 1 0 0 (((Yw a i).map (Qw true)).length)) Y) (tv (tI ((a.length:Int) - 1 - i)) Y) (by omega) (by (simp only [List.length_map];omega)) Qb4 sz5 if5) Y Y (VRunD.chain (bi:= [2,3,0,1,4,5,6,7,8,9,10,11,12,13,14]) Y VWant.always Y Y Y (by kernel_rfl) (B.storeP (us:= [(T.int .u8 x2)]) (rows':=((((Yw a i).set i x1).set (Int.toNat ((a.length:Int) - 1 - i)) x2).map (Qw true))) (row:=(Qw true x3)) (tv (T.orp 1 0 (Int.toNat ((a.length:Int) - 1 - i)) 0) Y) (tv (T.int .u8 x2) Y) nofun Y (Qu _ hx3) Y (lb Y) if5 sz5 (bc Y bn) (by intro r hr t ht;obtain ⟨x,_,rfl⟩:=List.mem_map.1 hr;rw [Qg9] at ht;exact ZN (okByte.pl _ t ht)) (Z6 Y)) (VRunD.nil (vinB.n (tn (VRun.region (mO (tN i) Y (fO (Qx (tv (tN i) Y) (VEv.int .i64 1) (by omega)) (mO (tI ((a.length:Int) - 1 - i)) Y (fO (B.sub (n:=((a.length:Int) - 1 - i - 1)) (tv (tI ((a.length:Int) - 1 - i)) Y) (VEv.int .i64 1) (by (rw [Qs (by omega)];done))) (aO (tN (i+1)) Y (aO (tI ((a.length:Int) - 1 - i - 1)) Y ?_)))))))))))
  refine VRunO.nil (tn ?_)
  have hml2:=JX a (i+1)
  have he2:(((Yw a i).set i x1).set (Int.toNat ((a.length:Int) - 1 - i)) x2)=Yw a (i+1):=by (refine Qke ?_ ?_ hx1 hx2<;>omega)
  refine ⟨(i+1:Nat),?_,?_,Wk.mk (fun k=>k) ?_ ?_ ?_⟩
  ·omega
  ·omega
  ·exact (bc ⟨(congrArg (fun n_=>T.os 1 0 0 n_) (show ((Yw a i).map (Qw true)).length=((Yw a (i+1)).map (Qw true)).length from (by rw [List.length_map,List.length_map,hml,hml2]))),rfl⟩ (b2 (bc ⟨(congrArg (T.int .i64) (show ((a.length:Int) - 1 - i - 1)=(a.length:Int) - 1 - (i+1) from (by omega))),rfl⟩ bn)))
  ·exact (bc ⟨(congrArg (fun l_=>some (Obj.rows 1 (List.map (Qw true) l_))) he2),(lb Y),rfl⟩ bn)
  ·exact nd Y
 refine VRun.exit (vthn.e (vthn.e (vinB.e ?_)))
 refine vmut.v (rows:=((Yw a i).map (Qw true))) Y Y ?_ Y
 ·show List.map _ (Yw a i)=List.map _ a.reverse
  refine congrArg (List.map _) ?_
  refine Qk7 ?_ ?_<;>omega
end Go.Proofs.YtjpenecpopljoaaGreat.AE
