/- A part of what the row of FnHints uses. Conditions: as each theorem states. -/
import Derived.Test.YtcglnehpapgfpaaDoorZFnHintsb
namespace Go.Proofs.YtcglnehpapgfpaaDoor.AE
open Go Go.RowKit
set_option linter.unusedVariables false
set_option linter.unusedSimpArgs false
def OCE {α:Type} (call:Qw) (P:Program) (E:QD) (O:Qo) (nx:Nat) (o:Oper) (X:α→Prop) (t:α→T) (O':α→Qo) (nx':Nat) (ks:List Nat):Prop:=nx≤nx'∧∀(q p:Nat) (h0:LB) (σ:Nat→Option Nat) (hf:AH) (own:Nat→Option Nat) (Ea:Nat→Value) (h:AH),SR p h0 σ hf own E O nx Ea h→(∀t,Under q t→UL p h0 t)→Fr q h →
 ∃x,X x∧∃v h' σ' own',Qn call P q Ea h o=some (v,h')∧Dom q h h'∧(∀k,k<nx→σ' k=σ k)∧SR p h0 σ' hf own' E (O' x) nx' Ea h'∧V σ' hf nx' (t x) v∧(∀a,h a≠none→(∀k∈ks,own a≠some k)→h' a=h a)∧∀a k,own' a=some k→own a=some k∨h a=none∨∃k∈ks,own a=some k
section
variable {α : Type} {call : Qw} {P : Program} {ops : Array Oper} {l : List Oper} {E : QD} {O : Qo} {nx nx' : Nat} {X : α → Prop} {t : α → T} {O' : α → Qo} {K : QD → Qo → Nat → Prop}
theorem VRunO.chainE {d:Option Tmp} {op:Op} {ty:TypeId} {ps:String} {af:Array Edge} {g:Option (Nat×Bool)} (hw:VWant ops E ⟨d,op,ty,ps,af,g⟩ true) {ks:List Nat} (hx:OCE call P E O nx ⟨d,op,ty,ps,af,g⟩ X t O' nx' ks) (hk:∀x,X x→VRunO call P ops l (pE E d (t x)) (O' x) nx' K):VRunO call P ops (⟨d,op,ty,ps,af,g⟩::l) E O nx K:=by
 unfold VRunO at hk ⊢
 intro p h0 σ hf own Ea h c i hs
 unfold RunO
 intro hfc
 obtain ⟨x,hX,v,h',σ',own',h1,h2,h3,h4,h5,_⟩:=hx.2 (child p (c+i)) p h0 σ hf own Ea h hs (fun t ht=> .inl (Ye ht)) (FrC.fr hfc (Nat.le_refl _))
 have:=RunO.step (call:=call) (P:=P) (π:=p) (c:=c) (i:=i) (ops:=ops) (r:=l) (K:=KK p h0 K) Y Y (hw σ hf nx Ea hs.env) h1 (fun _=>h2) (fun _=>hk x hX p h0 _ hf _ _ _ c _ (h4.put h5 d))
 unfold RunO at this
 exact this hfc
variable {B : List (List Nat)} {i i' nb : Nat} {q : Bool} {Ob OL1 : Qo} {al : List (Nat × Nat × Obj)} {fl bi : List Nat}
theorem VRunD.chainXE {d:Option Tmp} {op:Op} {ty:TypeId} {ps:String} {af:Array Edge} {g:Option (Nat×Bool)} {q':Bool} {ks:List Nat} (hi:i+1=i') (hw:VWant ops E ⟨d,op,ty,ps,af,g⟩ true) (hc:YN P op= .chain) (hb:B.getD i []=bi) (hl:Qbb (fun a=>bi.contains a && !fl.contains a) al O=OL1)
  (hx:(Yu P ops bi=true∧q'=false)∨(q=true∧q'=true∧∀k∈ks,nb≤k)) (hop:OCE call P E OL1 nx ⟨d,op,ty,ps,af,g⟩ X t O' nx' ks) (hk:∀x,X x→VRunD call P ops B l i' (pE E d (t x)) (O' x) Ob nx' nb q' al (bi++fl) K) :
  VRunD call P ops B (⟨d,op,ty,ps,af,g⟩::l) i E O Ob nx nb q al fl K:=by
 unfold VRunD at hk ⊢
 intro p c h0 σ hf own ownb Ea base C ala hs
 subst hl
 unfold RunD
 intro hfc hlt
 obtain ⟨⟨own1,g1,g4⟩,g2,g3⟩:=hs.laid bi
 have hlt':∀x∈al,x.1<i:=fun x hx=>by
  have:x.1∈ala.map (·.1):=by rw [hs.alr.idx];exact List.mem_map_of_mem hx
  obtain ⟨y,hy,e⟩:=List.mem_map.1 this
  rw [← e];exact hlt y hy
 have hfl:FrC p (c+i) (AE.lay p c (fun a=>bi.contains a && !fl.contains a) ala C):=QcS hfc hlt
 have hfr:Fr (child p (c+i)) (AE.lay p c (fun a=>bi.contains a && !fl.contains a) ala C):=FrC.fr hfl (Nat.le_refl _)
 have hnn:=hop.1
 obtain ⟨w,hX,v,h',σ',own',a1,a2,a3,a4,a5,a6,a7⟩:=hop.2 (child p (c+i)) p h0 σ hf own1 Ea _ g1 (fun t ht=> .inl (Ye ht)) hfr
 have hq:(Yu P ops bi=true∧q'=false)∨(Quiet base h'∧∀a k,base a≠none→own' a=some k→k<nb):=by
  rcases hx with hx | ⟨x1,x2,x3⟩
  ·exact .inl hx
  ·obtain ⟨y1,y2⟩:=hs.qui x1
   have y3:∀u,base u≠none→C u≠none:=fun u hu=>by rw [y1 u hu];exact hu
   have y4:∀u k,base u≠none→own1 u=some k→k<nb:=fun u k hu hk1=>by
    rcases g4 u k hk1 with e | e
    ·exact y2 u k hu e
    ·exact absurd e (y3 u hu)
   refine .inr ⟨fun u hu=> ?_,fun u k hu hk1=> ?_⟩
   ·have e2:=g2 u (y3 u hu)
    rw [a6 u (by rw [e2];exact y3 u hu) (fun k hk2 e=>by have:=y4 u k hu e;have:=x3 k hk2;omega),e2,y1 u hu]
   ·rcases a7 u k hk1 with e | e | ⟨k2,hk2,e⟩
    ·exact y4 u k hu e
    ·rw [g2 u (y3 u hu)] at e
     exact absurd e (y3 u hu)
    ·have:=y4 u k2 hu e
     have:=x3 k2 hk2
     omega
 have hnew:SRD p c h0 σ' hf own' ownb E (O' w) Ob nx' nb q' al (bi++fl) Ea base h' ala:=by
  refine ⟨a4,hs.bas.ext hnn a3 (fun _ _ e=>e) (fun _ _ e=> .inl e) (fun _ _=>rfl) hs.bas.dom,fun e=> ?_,Nat.le_trans hs.nbx hnn,hs.alr.mono hnn a3,fun x hx hn=> ?_,hs.idx⟩
  ·rcases hq with ⟨_,hq⟩ | hq
   ·rw [hq] at e;cases e
   ·exact hq
  ·rw [List.contains_eq_any_beq,List.any_append,Bool.or_eq_false_iff,← List.contains_eq_any_beq,← List.contains_eq_any_beq] at hn
   have e1:AE.lay p c (fun a=>bi.contains a && !fl.contains a) ala C (Qe (child p (c+x.1)))=none:=by
    rw [g3 x.1 (fun y hy hcy e=> ?_)]
    ·exact hs.fre x hx hn.2
    ·rw [e,hn.1] at hcy
     cases hcy
   cases hh:h' (Qe (child p (c+x.1))) with
   | none=>rfl
   | some z =>
    rcases a2 _ (by rw [hh];simp) with h5 | h5
    ·exact absurd e1 h5
    ·have h6:=Under.apart (Qx (child p (c+x.1))) h5
     have:=hlt' x hx
     omega
 have:=RunD.chain (call:=call) (P:=P) (π:=p) (c:=c) (i:=i) (ops:=ops) (B:=B) (base:=base) (r:=l) (fl:=fl) (C:=C) (al:=ala) (D:=fun E' C' al' fl'=>KK p h0 K E' (AE.lay p c (fun a=> !fl'.contains a) al' C')) hi Y (hw σ hf nx Ea hs.cur.env) hc hb Y a1
  (hq.imp (fun e=>e.1) (fun e=>e.1)) (fun _=>a2) (fun _=>hk w hX p c h0 σ' hf own' ownb _ base h' ala (hnew.put a5 d))
 unfold RunD at this
 exact this hfc hlt
end
def PureE {α:Type} (call:Qw) (f:FuncId) (us:List T) (X:α→Prop) (r:α→T):Prop:=∀(h:AH) (p:Nat) (vs:List Value),Fr p h→RL h us vs→CallS call f vs h p (fun v h'=>Quiet h h'∧∃x,X x∧RES p h h' (r x) v)
def vfinE {α:Type} (P:Program) (rs:List ResultVar) (X:α→Prop) (r:α→T):AX→QD→Qo→Nat→Prop
 | .exit _,_,_,_=>False
 | _,E,O,_=>∃x,X x∧∃ts ks,VRes P E O rs ts∧Give O ks (Qb3 ts) (r x)
theorem vfinE.r {α:Type} {P:Program} {rs:List ResultVar} {X:α→Prop} {r:α→T} {E:QD} {O:Qo} {nx:Nat} (x:α) (hx:X x) (h:vfin P rs (r x) .ret E O nx):vfinE P rs X r .ret E O nx:=⟨x,hx,by unfold vfin at h;exact h⟩
theorem V.oneOf {σ:Nat→Option Nat} {hf:AH} {nx:Nat} {us:List T} {l:List Value} (g4:VL σ hf nx us l):V σ hf nx (Qb3 us) (ZI l):=by
 have hlen:=g4.1
 match us,l,g4,hlen with
 | [],[],g4,_=>exact g4.toTup
 | [t],[v],g4,_ =>
  obtain ⟨v',r',e,g6,_⟩:=g4.tail
  cases e
  exact g6
 | t::t'::us,v::v'::l,g4,_=>exact g4.toTup
 | [],_::_,_,hl=>cases hl
 | [_],[],_,hl=>cases hl
 | [_],_::_::_,_,hl=>cases hl
 | _::_::_,[],_,hl=>cases hl
 | _::_::_,[_],_,hl=>cases hl
theorem PureE.intro {α:Type} {P:Program} {f:FuncId} {fn:Func} {c:Code} {n:Nat} {ts:List T} {X:α→Prop} {r:α→T} (hf:P.funcs[f]? =some fn) (hb:fn.body=some c) (hc:QW fn.ntmps c=true) {rs:List ResultVar} (hrs:fn.results.toList=rs) {E0:QD} (hE:Qbf 0 ts=E0) (hr:VRun (Qm P n) P c E0 [] 0 (vfinE P rs X r)) (hpr:Jz f=true:=by rfl):PureE (Qm P (n+1)) f ts X r:=by
 subst hE
 intro h p vs hfr hvs
 have hs:SR p ⟨h,fun _=>False⟩ (fun _=>none) h (fun _=>none) (Qbf 0 ts) [] 0 (fun t=>vs.getD t undef) h:=by
  refine ⟨fun t=> ?_,fun k o hk=>(by cases hk),fun a o ha=>⟨ha,rfl⟩,fun a k ha=>(by cases ha),fun _ _=>rfl,fun t ht=> .inl ht⟩
  rw [Qao,if_neg (by omega),Nat.sub_zero]
  rcases Nat.lt_or_ge t ts.length with h1 | h1
  ·exact .fz (hvs.2 t h1)
  ·rw [List.getD_eq_getElem?_getD,List.getElem?_eq_none h1]
   exact .any _
 unfold VRun at hr
 refine CallS.intro (hpr:=hpr) (Q:=fun v h'=>Quiet h h'∧∃x,X x∧RES p h h' (r x) v) hf hb hc hfr hrs (Run.mono (hr p _ _ h _ _ h 0 hs) ?_)
 rintro e s' ⟨σ,hf',own,E,O,nx,h1,h2⟩
 have key:(∃x,X x∧∃ts ks,VRes P E O rs ts∧Give O ks (Qb3 ts) (r x))→∃l,YK P s'.h s'.E rs=some l∧(fun v h'=>Quiet h h'∧∃x,X x∧RES p h h' (r x) v) (ZI l) (if QC (ZI l) then Z8 h s'.h else JG p h s'.h):=by
  rintro ⟨x,hX,us,ks,g1,g2⟩
  obtain ⟨l,g3,g4⟩:=g1.run h1
  have g5:=V.oneOf g4
  obtain ⟨N,g6,g7,g8⟩:=g2 p _ σ hf' own E nx s'.E s'.h _ h1 g5
  have hq:Quiet h s'.h:=fun a ha=>by
   have e1:hf' a=h a:=h1.base a ha
   obtain ⟨o,ho⟩:=Option.ne_none_iff_exists'.1 ha
   rw [ho] at e1
   rw [(h1.fro a o e1).1,ho]
  refine ⟨l,g3,?_⟩
  by_cases ht:QC (ZI l)=true
  ·rw [if_pos ht,Qa3 hq]
   obtain ⟨rfl,g9⟩:=Yk g6 ht
   exact ⟨Quiet.refl _,x,hX,[],g9 h,by simp,by simp⟩
  ·rw [if_neg ht]
   have hN:∀a∈N,Under p a∧h a=none:=fun a ha=>by
    obtain ⟨k,_,e⟩:=g8 a ha
    exact ⟨(h1.mine a k e).1.elim id (fun z=>z.elim),(h1.mine a k e).2.1⟩
   exact ⟨Qad hq,x,hX,N,g6.mono (fun _ _ e=>e) (fun a ha=>JT (.inr (hN a ha).1)),g7,hN⟩
 cases e with
 | normal=>unfold fin;exact key h2
 | ret=>unfold fin;exact key h2
 | exit id=>exact h2.elim
section
variable {α : Type} {call : Qw} {P : Program} {E : QD} {O : Qo} {d : Option Tmp} {ty : TypeId} {ps : String} {af : Array Edge} {g : Option (Nat × Bool)} {nx m : Nat} {X : α → Prop} {r r' : α → T} {objs : α → List Obj}
theorem OCE.callX {f:FuncId} {o:Oper} {us:List T} (ho:∀(q p:Nat) (h0:LB) (σ:Nat→Option Nat) (hf:AH) (own:Nat→Option Nat) (Ea:Nat→Value) (h:AH),SR p h0 σ hf own E O nx Ea h→∃vs,YT P q Ea h o=some (.enter f vs)∧RL h us vs) (hp:PureE call f us X r) (had:∀x,adopt nx (r x)=(r' x,objs x)) (hm:∀x,(objs x).length=m) :
  OCE call P E O nx o X r' (fun x=>ZM O nx (objs x)) (nx+m) []:=⟨Nat.le_add_right _ _,fun q p h0 σ hf own Ea h hs hu hF=>by
 obtain ⟨vs,h1,h2⟩:=ho q p h0 σ hf own Ea h hs
 have h3:=hp h q vs hF h2
 unfold CallS at h3
 obtain ⟨v,h',h4,h5,h6,x,hX,N,h7,h8,h9⟩:=h3
 have hfn:∀a,h a=none→hf a=none:=fun a ha=>by
  cases hh:hf a with
  | none=>rfl
  | some o=>rw [(hs.fro _ _ hh).1] at ha;cases ha
 have h0n:∀a,h a=none→h0.h a=none:=fun a ha=>by
  cases hh:h0.h a with
  | none=>rfl
  | some o =>
   have e1:=hs.base a (by rw [hh];simp)
   rw [hfn a ha,hh] at e1
   cases e1
 have hs':=hs.ext (nx':=nx) (σ':=σ) (own':=own) (h':=h') (Nat.le_refl _) (fun _ _=>rfl) (fun _ _ e=>e) (fun _ _ e=> .inl e) h6 (fun a ha=>by
  rcases h5 a ha with e | e
  ·exact hs.dom a e
  ·exact .inr (hu a e))
 obtain ⟨σ',own',b1,b2,b3,b4⟩:=S.adopt h7 hs' h8 (fun a ha=>by
  obtain ⟨g1,g2⟩:=h9 a ha
  refine ⟨hu a g1,h0n a g2,h7.names a ha,hfn a g2,?_⟩
  cases hh:own a with
  | none=>rfl
  | some k=>exact absurd g2 (hs.mine a k hh).2.2.1)
 rw [had x] at b1 b3
 simp only [hm x] at b1 b3
 refine ⟨x,hX,v,h',σ',own',by simp only [Qn,h1,h4],h5,b2,b1,b3,fun a ha _=>h6 a ha,fun a k hk=> ?_⟩
 by_cases hn:a∈N
 ·exact .inr (.inl (h9 a hn).2)
 ·rw [b4 a hn] at hk
  exact .inl hk⟩
theorem OCE.fn {f:FuncId} {args:Array Operand} {tys:Array TypeId} {ts us:List T} (hb:Q8 P f=true) (ha:VEvs E args.toList ts) (hl:LendL O ts us) (hp:PureE call f us X r) (had:∀x,adopt nx (r x)=(r' x,objs x)) (hm:∀x,(objs x).length=m) :
  OCE call P E O nx ⟨d, .call ⟨.value (.func f),args,tys⟩,ty,ps,af,g⟩ X r' (fun x=>ZM O nx (objs x)) (nx+m) []:=OCE.callX (fun q p h0 σ hf own Ea h hs=>by
 obtain ⟨vs,h1,h2⟩:=ha σ hf nx Ea hs.env
 exact ⟨vs,AE.X.calls hb h1,hl.V hs h2⟩) hp had hm
end
def Jg (p:Option Addr) (n m:Nat) (code:T) (i:Nat) (hh:Int):List T:= [.ex p n m code, .int .i64 ((i:Nat):Int), .int .i64 hh]
def CurE {α:Type} (call:Qw) (f:FuncId) (code:T) (nc:Nat) (us:List T) (X:α→Prop) (r:α→T):Prop:=∀(h:AH) (q a es:Nat) (pb:Option Addr) (nb mb i:Nat) (hh:Int) (vs:List Value),Fr q h→a % 2=1→h a=some (.cells es [.slice pb nb mb, .int .i64 ((i:Nat):Int), .int .i64 hh])→R (h.upd a none) code (.slice pb nb mb)→i≤nc→RL (h.upd a none) us vs →
 CallS call f (.pointer (some ⟨a,0,none⟩)::vs) h q (fun v h'=>(∀b,h b≠none→b≠a→h' b=h b)∧∃x,X x∧∃(i' es':Nat) (hh':Int),i'≤nc∧h' a=some (.cells es' [.slice pb nb mb, .int .i64 ((i':Nat):Int), .int .i64 hh'])∧RES q h h' (r x) v)
def vcur {α:Type} (P:Program) (rs:List ResultVar) (pb:Option Addr) (nb mb:Nat) (code:T) (nc:Nat) (X:α→Prop) (r:α→T):AX→QD→Qo→Nat→Prop
 | .exit _,_,_,_=>False
 | _,E,O,_=>∃x,X x∧∃(k i':Nat) (hh':Int) (ts:List T) (ks:List Nat),VRes P E O rs ts∧Give O ks (Qb3 ts) (r x)∧gE E 0= .op k 0∧gO O k=some (.cells (Jg pb nb mb code i' hh'))∧i'≤nc∧k∉ks
theorem vcur.r {α:Type} {P:Program} {rs:List ResultVar} {pb:Option Addr} {nb mb nc nx:Nat} {code:T} {X:α→Prop} {r:α→T} {E:QD} {O:Qo} {ts:List T} {ks:List Nat} (x:α) (k i':Nat) (hh':Int) (hx:X x) (h:VRes P E O rs ts) (hg:Give O ks (Qb3 ts) (r x)) (h1:gE E 0= .op k 0) (h2:gO O k=some (.cells (Jg pb nb mb code i' hh'))) (h3:i'≤nc) (h4:k∉ks):vcur P rs pb nb mb code nc X r .ret E O nx:=⟨x,hx,k,i',hh',ts,ks,h,hg,h1,h2,h3,h4⟩
theorem V.exInv {σ:Nat→Option Nat} {hf:AH} {nx:Nat} {p:Option Addr} {n m:Nat} {t:T} {v:Value} (h:V σ hf nx (.ex p n m t) v):v= .slice p n m∧R hf t (.slice p n m):=by
 cases h with
 | fz hr=>cases hr with | ex _ _ _ _ h=>exact ⟨rfl,h⟩
theorem VL.curInv {σ:Nat→Option Nat} {hf:AH} {nx:Nat} {p:Option Addr} {n m i:Nat} {hh:Int} {code:T} {vs:List Value} (h:VL σ hf nx (Jg p n m code i hh) vs):vs= [.slice p n m, .int .i64 ((i:Nat):Int), .int .i64 hh]∧R hf code (.slice p n m):=by
 obtain ⟨v1,l1,rfl,h1,h2⟩:=VL.tail h
 obtain ⟨v2,l2,rfl,h3,h4⟩:=VL.tail h2
 obtain ⟨v3,l3,rfl,h5,h6⟩:=VL.tail h4
 obtain rfl:=List.eq_nil_of_length_eq_zero h6.1.symm
 obtain ⟨rfl,h7⟩:=h1.exInv
 obtain rfl:=V.intInv h3
 obtain rfl:=V.intInv h5
 exact ⟨rfl,h7⟩
theorem VL.curOf {σ:Nat→Option Nat} {hf:AH} {nx:Nat} {p:Option Addr} {n m i:Nat} {hh:Int} {code:T} (h:R hf code (.slice p n m)):VL σ hf nx (Jg p n m code i hh) [.slice p n m, .int .i64 ((i:Nat):Int), .int .i64 hh] :=
 .cons (.fz (.ex _ _ _ _ h)) (.cons (.fz (.int _ _)) (.cons (.fz (.int _ _)) (.nil _ _ _)))
theorem CurE.intro {α:Type} {P:Program} {f:FuncId} {fn:Func} {c:Code} {n nc:Nat} {code:T} {us:List T} {X:α→Prop} {r:α→T} {rs:List ResultVar} (hf:P.funcs[f]? =some fn) (hb:fn.body=some c) (hc:QW fn.ntmps c=true) (hrs:fn.results.toList=rs) (hn:noW 0 c=true)
  (hr:∀(pb:Option Addr) (nb mb i:Nat) (hh:Int),i≤nc→VRun (Qm P n) P c (Qbf 0 (.op 0 0::us)) [(0,some (.cells (Jg pb nb mb code i hh)))] 1 (vcur P rs pb nb mb code nc X r)) (hpr:Jz f=true:=by rfl):CurE (Qm P (n+1)) f code nc us X r:=by
 intro h p a es pb nb mb i hh vs hfp hodd ha hcode hi hvs
 classical
 let hb0:AH:=h.upd a none
 have hb1:∀b,b≠a→hb0 b=h b:=fun b hb=>AH.upd_ne _ hb _
 have hb2:hb0 a=none:=AH.upd_same _ _ _
 have hb3:∀b o,hb0 b=some o→b≠a∧h b=some o:=fun b o hb=>by
  by_cases hm:b=a
  ·rw [hm,hb2] at hb;cases hb
  ·exact ⟨hm,(hb1 b hm).symm.trans hb⟩
 have hs0:SR p ⟨hb0,fun b=>b=a⟩ (fun _=>some a) hb0 (fun b=>if b=a then some 0 else none) (Qbf 0 (.op 0 0::us)) [(0,some (.cells (Jg pb nb mb code i hh)))] 1 (fun t=>(Value.pointer (some ⟨a,0,none⟩)::vs).getD t undef) h:=by
  refine ⟨fun t=> ?_,fun k o hk=> ?_,fun b o hb=>⟨(hb3 b o hb).2,if_neg (hb3 b o hb).1⟩,fun b k hb=> ?_,fun _ _=>rfl,fun t ht=> ?_⟩
  ·rw [Qao,if_neg (by omega),Nat.sub_zero]
   cases t with
   | zero=>exact .op 0 0 (by omega) Y
   | succ t =>
    rw [List.getD_cons_succ]
    show V _ _ _ _ ((Value.pointer (some ⟨a,0,none⟩)::vs).getD (t+1) undef)
    rw [List.getD_cons_succ]
    rcases Nat.lt_or_ge t us.length with h1 | h1
    ·exact .fz (hvs.2 t h1)
    ·rw [List.getD_eq_getElem?_getD,List.getElem?_eq_none h1]
     exact .any _
  ·simp only [gO] at hk
   split at hk
   ·rename_i e
    subst e
    obtain rfl:=Option.some.inj hk
    exact ⟨by omega,[a],by simp,fun b hb=>by obtain rfl:=List.mem_singleton.1 hb;exact if_pos Y, .cells ha hodd (VL.curOf hcode)⟩
   ·cases hk
  ·split at hb
   ·rename_i hm
    subst hm
    obtain rfl:=Option.some.inj hb
    exact ⟨.inr Y,hb2,by rw [ha];simp,by omega⟩
   ·cases hb
  ·by_cases hm:t=a
   ·exact .inr (.inr hm)
   ·exact .inl (by show hb0 t≠none;rw [hb1 t hm];exact ht)
 have hr':=hr pb nb mb i hh hi
 unfold VRun at hr'
 have hrun:=hr' p _ _ _ _ _ h 0 hs0
 have hrun2:Run (Qm P n) P p c ⟨fun t=>(Value.pointer (some ⟨a,0,none⟩)::vs).getD t undef,h,0⟩ (fun e s=>KK p ⟨hb0,fun b=>b=a⟩ (vcur P rs pb nb mb code nc X r e) s.E s.h∧s.E 0= .pointer (some ⟨a,0,none⟩)):=by
  unfold Run at hrun ⊢
  intro hfc
  obtain ⟨e,s',h1,h2,h3⟩:=hrun hfc
  exact ⟨e,s',h1,h2,h3,ZC _ _ _ _ hn h1⟩
 refine CallS.intro (hpr:=hpr) (rs:=rs) hf hb hc hfp hrs (Run.mono hrun2 ?_)
 rintro e s' ⟨⟨σ',hf',own',E,O,nx,h1,h2⟩,h0⟩
 have key:(∃x,X x∧∃(k i':Nat) (hh':Int) (ts:List T) (ks:List Nat),VRes P E O rs ts∧Give O ks (Qb3 ts) (r x)∧gE E 0= .op k 0∧gO O k=some (.cells (Jg pb nb mb code i' hh'))∧i'≤nc∧k∉ks) →
   ∃l,YK P s'.h s'.E rs=some l∧(fun v h'=>(∀b,h b≠none→b≠a→h' b=h b)∧∃x,X x∧∃(i' es':Nat) (hh':Int),i'≤nc∧h' a=some (.cells es' [.slice pb nb mb, .int .i64 ((i':Nat):Int), .int .i64 hh'])∧RES p h h' (r x) v) (ZI l) (if QC (ZI l) then Z8 h s'.h else JG p h s'.h):=by
  rintro ⟨x,hX,k,i',hh',us',ks,g1,g2,g3,g4,g5,g6⟩
  obtain ⟨l,l1,l2⟩:=g1.run h1
  have g7:=V.oneOf l2
  obtain ⟨N,n1,n2,n3⟩:=g2 p _ σ' hf' own' E nx s'.E s'.h _ h1 g7
  have hbase:∀b o,hb0 b=some o→hf' b=some o:=fun b o hb=>by
   have e3:hf' b=hb0 b:=h1.base b (by show hb0 b≠none;rw [hb];simp)
   rw [e3,hb]
  have hσ:σ' k=some a:=by
   have p2:=h1.env 0
   rw [g3,h0] at p2
   obtain ⟨a',e4,e5,_⟩:=p2.opInv
   cases e4
   exact e5
  have hold:∀b,h b≠none→(if QC (ZI l) then Z8 h s'.h else JG p h s'.h) b=s'.h b:=fun b hb=>by
   split
   ·unfold Z8
    cases hh:h b with
    | none=>exact absurd hh hb
    | some o=>rfl
   ·exact JT (.inl hb)
  have hcell:∃es',s'.h a=some (.cells es' [.slice pb nb mb, .int .i64 ((i':Nat):Int), .int .i64 hh'])∧own' a=some k:=by
   obtain ⟨M,hM1,hM2,e4⟩:=h1.objAt g4
   rw [hσ] at e4
   cases e4 with
   | cells hk hodd hv =>
    obtain ⟨rfl,_⟩:=VL.curInv hv
    exact ⟨_,hk,hM2 a (by simp)⟩
  obtain ⟨es',hc1,hc2⟩:=hcell
  refine ⟨l,l1,fun b hb hba=> ?_,x,hX,i',es',hh',g5,?_,?_⟩
  ·rw [hold b hb]
   obtain ⟨o,ho⟩:=Option.ne_none_iff_exists'.1 hb
   rw [(h1.fro b o (hbase b o ((hb1 b hba).trans ho))).1,ho]
  ·rw [hold a (by rw [ha];simp)]
   exact hc1
  ·have hN:∀b∈N,Under p b∧h b=none:=fun b hb=>by
    obtain ⟨k2,hk2,e⟩:=n3 b hb
    have hba:b≠a:=fun e2=>by
     rw [e2,hc2] at e
     exact g6 (by rw [Option.some.inj e];exact hk2)
    refine ⟨(h1.mine b k2 e).1.elim id (fun z=>absurd z hba),?_⟩
    have:=(h1.mine b k2 e).2.1
    rw [← hb1 b hba]
    exact this
   by_cases ht:QC (ZI l)=true
   ·rw [if_pos ht]
    obtain ⟨rfl,g9⟩:=Yk n1 ht
    exact ⟨[],g9 _,by simp,by simp⟩
   ·rw [if_neg ht]
    exact ⟨N,n1.mono (fun _ _ e=>e) (fun b hb=>JT (.inr (hN b hb).1)),n2,hN⟩
 cases e with
 | normal=>unfold fin;exact key h2
 | ret=>unfold fin;exact key h2
 | exit id=>exact h2.elim
section
variable {α : Type} {call : Qw} {P : Program} {E : QD} {O : Qo} {d : Option Tmp} {ty : TypeId} {ps : String} {af : Array Edge} {g : Option (Nat × Bool)} {nx m : Nat} {X : α → Prop} {r r' : α → T} {objs : α → List Obj}
theorem SR.hide {p nx k a:Nat} {h0:LB} {hf h:AH} {σ own:Nat→Option Nat} {E:QD} {O:Qo} {Ea:Nat→Value} (hs:SR p h0 σ hf own E O nx Ea h) (ha:own a=some k):SR p h0 σ hf (fun b=>if b=a then none else own b) E ((k,none)::O) nx Ea (h.upd a none):=by
 refine ⟨hs.env,fun k' o hk'=> ?_,fun b o hb=> ?_,fun b k' hb=> ?_,hs.base,fun t ht=> ?_⟩
 ·simp only [gO] at hk'
  split at hk'
  ·cases hk'
  ·rename_i hne
   obtain ⟨m1,N,m2,m3,m4⟩:=hs.obj k' o hk'
   have hna:∀b∈N,b≠a:=fun b hb e=>by
    have:=m3 b hb
    rw [e,ha] at this
    exact hne (Option.some.inj this).symm
   exact ⟨m1,N,m2,fun b hb=>by rw [if_neg (hna b hb)];exact m3 b hb,m4.mono (fun _ _ e=>e) (Nat.le_refl _) (fun _ _=>rfl) (fun b hb=>AH.upd_ne _ (hna b hb) _)⟩
 ·obtain ⟨h1,h2⟩:=hs.fro b o hb
  have hba:b≠a:=fun e=>by rw [e,ha] at h2;cases h2
  exact ⟨(AH.upd_ne _ hba _).trans h1,by rw [if_neg hba];exact h2⟩
 ·split at hb
  ·cases hb
  ·rename_i hba
   obtain ⟨m1,m2,m3,m4⟩:=hs.mine b k' hb
   exact ⟨m1,m2,by rw [AH.upd_ne _ hba _];exact m3,m4⟩
 ·unfold AH.upd at ht
  split at ht
  ·exact absurd Y ht
  ·exact hs.dom t ht
theorem OCE.cur {f:FuncId} {args:Array Operand} {tys:Array TypeId} {ts us:List T} {code:T} {nc k i nb mb:Nat} {hh:Int} {pb:Option Addr} (hb:Q8 P f=true) (ha:VEvs E args.toList (.op k 0::ts)) (hk:gO O k=some (.cells (Jg pb nb mb code i hh))) (hi:i≤nc) (hl:LendL ((k,none)::O) ts us) (hp:CurE call f code nc us X r) (had:∀x,adopt nx (r x)=(r' x,objs x)) (hm:∀x,(objs x).length=m) :
  OCE call P E O nx ⟨d, .call ⟨.value (.func f),args,tys⟩,ty,ps,af,g⟩ (fun y:α×Nat×Int=>X y.1∧y.2.1≤nc) (fun y=>r' y.1) (fun y=>ZM ((k,some (.cells (Jg pb nb mb code y.2.1 y.2.2)))::O) nx (objs y.1)) (nx+m) [k]:=⟨Nat.le_add_right _ _,fun q p h0 σ hf own Ea h hs hu hF=>by
 obtain ⟨vs0,h1,h2⟩:=ha σ hf nx Ea hs.env
 obtain ⟨vp,vs,rfl,g1,g2⟩:=h2.tail
 obtain ⟨a,rfl,g3,hkn⟩:=g1.opInv
 obtain ⟨hkn',N,hN1,hN2,g5⟩:=hs.obj k _ hk
 rw [g3] at g5
 cases g5 with
 | cells hca hodd hv =>
 rename_i es cs
 obtain ⟨rfl,hcode⟩:=VL.curInv hv
 have hoa:own a=some k:=hN2 a (by simp)
 have hfa:hf a=none:=by
  cases hh:hf a with
  | none=>rfl
  | some o=>have:=(hs.fro a o hh).2;rw [hoa] at this;cases this
 have hcode':R (h.upd a none) code (.slice pb nb mb):=hcode.mono (fun b o hb=>by
  have hba:b≠a:=fun e=>by rw [e,hfa] at hb;cases hb
  exact (AH.upd_ne _ hba _).trans (hs.fro b o hb).1)
 have hvs:RL (h.upd a none) us vs:=hl.V (hs.hide hoa) g2
 have h3:=hp h q a es pb nb mb i hh vs hF hodd hca hcode' hi hvs
 unfold CallS at h3
 obtain ⟨v,h',h4,h5,h6,x,hX,i',es',hh',hi',h7,N,h8,h9,h10⟩:=h3
 have hfn:∀b,h b=none→hf b=none:=fun b hb=>by
  cases hh:hf b with
  | none=>rfl
  | some o=>rw [(hs.fro _ _ hh).1] at hb;cases hb
 have h0n:∀b,h b=none→h0.h b=none:=fun b hb=>by
  cases hh:h0.h b with
  | none=>rfl
  | some o =>
   have e1:=hs.base b (by rw [hh];simp)
   rw [hfn b hb,hh] at e1
   cases e1
 have hs':SR p h0 σ hf own E ((k,some (.cells (Jg pb nb mb code i' hh')))::O) nx Ea h':=by
  refine ⟨hs.env,fun k' o hk'=> ?_,fun b o hb=> ?_,fun b k' hb=> ?_,hs.base,fun t ht=> ?_⟩
  ·simp only [gO] at hk'
   split at hk'
   ·rename_i e
    subst e
    obtain rfl:=Option.some.inj hk'
    refine ⟨hkn,[a],by simp,fun b hb=>by obtain rfl:=List.mem_singleton.1 hb;exact hoa,?_⟩
    rw [g3]
    exact .cells h7 hodd (VL.curOf hcode)
   ·rename_i hne
    obtain ⟨m1,N2,m2,m3,m4⟩:=hs.obj k' o hk'
    refine ⟨m1,N2,m2,m3,m4.mono (fun _ _ e=>e) (Nat.le_refl _) (fun _ _=>rfl) (fun b hb=>h6 b (hs.mine b k' (m3 b hb)).2.2.1 (fun e=> ?_))⟩
    have:=m3 b hb
    rw [e,hoa] at this
    exact hne (Option.some.inj this).symm
  ·obtain ⟨e1,e2⟩:=hs.fro b o hb
   exact ⟨(h6 b (by rw [e1];simp) (fun e=>by rw [e,hfa] at hb;cases hb)).trans e1,e2⟩
  ·obtain ⟨m1,m2,m3,m4⟩:=hs.mine b k' hb
   refine ⟨m1,m2,?_,m4⟩
   by_cases hba:b=a
   ·rw [hba,h7];simp
   ·rw [h6 b m3 hba];exact m3
  ·rcases h5 t ht with e | e
   ·exact hs.dom t e
   ·exact .inr (hu t e)
 obtain ⟨σ',own',b1,b2,b3,b4⟩:=S.adopt h8 hs' h9 (fun b hb=>by
  obtain ⟨e1,e2⟩:=h10 b hb
  refine ⟨hu b e1,h0n b e2,h8.names b hb,hfn b e2,?_⟩
  cases hh:own b with
  | none=>rfl
  | some k'=>exact absurd e2 (hs.mine b k' hh).2.2.1)
 rw [had x] at b1 b3
 simp only [hm x] at b1 b3
 refine ⟨(x,i',hh'),⟨hX,hi'⟩,v,h',σ',own',by simp only [Qn,AE.X.calls (P:=P) (p:=q) (h:=h) (d:=d) (ty:=ty) (ps:=ps) (af:=af) (g:=g) (ts:=tys) hb h1,h4],h5,b2,b1,b3,fun b hb hnk=>h6 b hb (fun e=>hnk k (by simp) (e▸hoa)),fun b k2 hk2=> ?_⟩
 by_cases hn:b∈N
 ·exact .inr (.inl (h10 b hn).2)
 ·rw [b4 b hn] at hk2
  exact .inl hk2⟩
end
def NewC (call:Qw) (f:FuncId) (code:T):Prop:=∀(h:AH) (q:Nat) (pb:Option Addr) (nb mb:Nat),Fr q h→R h code (.slice pb nb mb)→CallS call f [.slice pb nb mb] h q (fun v h'=>Quiet h h'∧∃(a es:Nat) (hh:Int),v= .pointer (some ⟨a,0,none⟩)∧a % 2=1∧Under q a∧h a=none∧h' a=some (.cells es [.slice pb nb mb, .int .i64 ((0:Nat):Int), .int .i64 hh]))
def vnew (P:Program) (rs:List ResultVar) (pb:Option Addr) (nb mb:Nat) (code:T):AX→QD→Qo→Nat→Prop
 | .exit _,_,_,_=>False
 | _,E,O,_=>∃(k:Nat) (hh:Int),VRes P E O rs [.op k 0]∧gO O k=some (.cells (Jg pb nb mb code 0 hh))
theorem vnew.r {P:Program} {rs:List ResultVar} {pb:Option Addr} {nb mb nx:Nat} {code:T} {E:QD} {O:Qo} (k:Nat) (hh:Int) (h:VRes P E O rs [.op k 0]) (h2:gO O k=some (.cells (Jg pb nb mb code 0 hh))):vnew P rs pb nb mb code .ret E O nx:=⟨k,hh,h,h2⟩
theorem NewC.intro {P:Program} {f:FuncId} {fn:Func} {c:Code} {n:Nat} {code:T} {rs:List ResultVar} (hf:P.funcs[f]? =some fn) (hb:fn.body=some c) (hc:QW fn.ntmps c=true) (hrs:fn.results.toList=rs)
  (hr:∀(pb:Option Addr) (nb mb:Nat),VRun (Qm P n) P c (Qbf 0 [.ex pb nb mb code]) [] 0 (vnew P rs pb nb mb code)) (hpr:Jz f=true:=by rfl):NewC (Qm P (n+1)) f code:=by
 intro h p pb nb mb hfr hcode
 have hvs:RL h [.ex pb nb mb code] [.slice pb nb mb]:=RL.cons (.ex _ _ _ _ hcode) (RL.nil _)
 have hs:SR p ⟨h,fun _=>False⟩ (fun _=>none) h (fun _=>none) (Qbf 0 [.ex pb nb mb code]) [] 0 (fun t=> [Value.slice pb nb mb].getD t undef) h:=by
  refine ⟨fun t=> ?_,fun k o hk=>(by cases hk),fun a o ha=>⟨ha,rfl⟩,fun a k ha=>(by cases ha),fun _ _=>rfl,fun t ht=> .inl ht⟩
  rw [Qao,if_neg (by omega),Nat.sub_zero]
  rcases Nat.lt_or_ge t 1 with h1 | h1
  ·exact .fz (hvs.2 t h1)
  ·rw [List.getD_eq_getElem?_getD,List.getElem?_eq_none (by simpa using h1)]
   exact .any _
 have hr':=hr pb nb mb
 unfold VRun at hr'
 refine CallS.intro (hpr:=hpr) (rs:=rs) hf hb hc hfr hrs (Run.mono (hr' p _ _ h _ _ h 0 hs) ?_)
 rintro e s' ⟨σ,hf',own,E,O,nx,h1,h2⟩
 have key:(∃(k:Nat) (hh:Int),VRes P E O rs [.op k 0]∧gO O k=some (.cells (Jg pb nb mb code 0 hh)))→∃l,YK P s'.h s'.E rs=some l∧(fun v h'=>Quiet h h'∧∃(a es:Nat) (hh:Int),v= .pointer (some ⟨a,0,none⟩)∧a % 2=1∧Under p a∧h a=none∧h' a=some (.cells es [.slice pb nb mb, .int .i64 ((0:Nat):Int), .int .i64 hh])) (ZI l) (if QC (ZI l) then Z8 h s'.h else JG p h s'.h):=by
  rintro ⟨k,hh,g1,g2⟩
  obtain ⟨l,g3,g4⟩:=g1.run h1
  obtain ⟨v,l',rfl,g5,g6⟩:=VL.tail g4
  obtain rfl:=List.eq_nil_of_length_eq_zero g6.1.symm
  obtain ⟨a,rfl,g7,_⟩:=g5.opInv
  obtain ⟨M,hM1,hM2,e4⟩:=h1.objAt g2
  rw [g7] at e4
  cases e4 with
  | cells hk hodd hv =>
  obtain ⟨rfl,_⟩:=VL.curInv hv
  have hoa:=hM2 a (by simp)
  have hm:=h1.mine a k hoa
  have hq:Quiet h s'.h:=fun b hb=>by
   have e1:hf' b=h b:=h1.base b hb
   obtain ⟨o,ho⟩:=Option.ne_none_iff_exists'.1 hb
   rw [ho] at e1
   rw [(h1.fro b o e1).1,ho]
  have hu:Under p a:=hm.1.elim id (fun z=>z.elim)
  refine ⟨_,g3,?_⟩
  have ht:¬QC (ZI [Value.pointer (some ⟨a,0,none⟩)])=true:=by simp [ZI,QC,closedV,closed1]
  rw [if_neg ht]
  exact ⟨Qad hq,a,_,hh,rfl,hodd,hu,hm.2.1,(JT (.inr hu)).trans hk⟩
 cases e with
 | normal=>unfold fin;exact key h2
 | ret=>unfold fin;exact key h2
 | exit id=>exact h2.elim
section
variable {call : Qw} {P : Program} {E : QD} {O : Qo} {d : Option Tmp} {ty : TypeId} {ps : String} {af : Array Edge} {g : Option (Nat × Bool)} {nx : Nat}
theorem R.slForm {hf:AH} {sz:Nat} {rows:List (List T)} {v:Value} (h:R hf (.sl false sz rows) v):∃p n m,v= .slice p n m:=by
 generalize hT:T.sl false sz rows=tr at h
 cases h<;>first | exact ⟨_,_,_,rfl⟩ | cases hT
theorem OCE.newC {f:FuncId} {args:Array Operand} {tys:Array TypeId} {sz:Nat} {rows:List (List T)} (hb:Q8 P f=true) (ha:VEvs E args.toList [.sl false sz rows]) (hp:NewC call f (.sl false sz rows)) :
    OCE call P E O nx ⟨d, .call ⟨.value (.func f),args,tys⟩,ty,ps,af,g⟩ (fun _:Option Addr×Nat×Nat×Int=>True) (fun _=> .op nx 0) (fun y=>(nx,some (.cells (Jg y.1 y.2.1 y.2.2.1 (.sl false sz rows) 0 y.2.2.2)))::O) (nx+1) []:=⟨Nat.le_succ _,fun q p h0 σ hf own Ea h hs hu hF=>by
  obtain ⟨vs0,h1,h2⟩:=ha σ hf nx Ea hs.env
  obtain ⟨vp,vs,rfl,g1,g2⟩:=h2.tail
  obtain rfl:=List.eq_nil_of_length_eq_zero g2.1.symm
  have g3:R hf (.sl false sz rows) vp:=g1.slInv
  obtain ⟨pb,nb,mb,rfl⟩:=g3.slForm
  have hmono:∀b o,hf b=some o→h b=some o:=fun b o hb=>(hs.fro b o hb).1
  have h3:=hp h q pb nb mb hF (g3.mono hmono)
  unfold CallS at h3
  obtain ⟨v,h',h4,h5,h6,a,es,hh,rfl,hodd,hua,han,hac⟩:=h3
  have hfn:hf a=none:=by
    cases hq:hf a with
    | none=>rfl
    | some o=>rw [hmono a o hq] at han;cases han
  have h0n:h0.h a=none:=by
    cases hq:h0.h a with
    | none=>rfl
    | some o =>
      have e1:=hs.base a (by rw [hq];simp)
      rw [hfn,hq] at e1
      cases e1
  have hon:own a=none:=by
    cases hq:own a with
    | none=>rfl
    | some k=>exact absurd han (hs.mine a k hq).2.2.1
  have hx:=hs.ext (nx':=nx+1) (σ':=fun k=>if k=nx then some a else σ k) (own':=fun b=>if b=a then some nx else own b) (h':=h') (by omega) (fun k hk=>if_neg (by omega))
    (fun b k hb=>by
      have:b≠a:=fun e=>by rw [e,hon] at hb;cases hb
      simp only [if_neg this]
      exact hb)
    (fun b k hb=>by
      split at hb
      · rename_i e
        subst e
        obtain rfl:=Option.some.inj hb
        exact .inr ⟨hu _ hua,h0n,by rw [hac];simp,by omega,hfn⟩
      · exact .inl hb)
    (fun b hb=>h6 b hb)
    (fun t ht=>by
      rcases h5 t ht with e | e
      · exact hs.dom t e
      · exact .inr (hu t e))
  refine ⟨(pb,nb,mb,hh),trivial, .pointer (some ⟨a,0,none⟩),h',fun k=>if k=nx then some a else σ k,fun b=>if b=a then some nx else own b,by simp only [Qn,AE.X.calls (P:=P) (p:=q) (h:=h) (d:=d) (ty:=ty) (ps:=ps) (af:=af) (g:=g) (ts:=tys) hb h1,h4],h5,fun k hk=>if_neg (by omega),⟨hx.env,fun k o hk=> ?_,hx.fro,hx.mine,hx.base,hx.dom⟩, .op nx 0 (by omega) (by simp),fun b hb _=>h6 b hb,fun b k hk=> ?_⟩
  · simp only [gO] at hk
    split at hk
    · rename_i e
      subst e
      obtain rfl:=Option.some.inj hk
      refine ⟨by omega,[a],by simp,fun b hb=>by obtain rfl:=List.mem_singleton.1 hb;simp,?_⟩
      simp only [if_true]
      exact .cells hac hodd (VL.curOf g3)
    · exact hx.obj k o hk
  · simp only at hk
    split at hk
    · rename_i e
      subst e
      exact .inr (.inl han)
    · exact .inl hk⟩
end
theorem VEv.unex {E:QD} {x:Operand} {p:Option Addr} {n m:Nat} {t:T} (h:VEv E x (.ex p n m t)):VEv E x t:=fun σ hf nx Ea he=>by
 obtain ⟨v,h1,h2⟩:=h σ hf nx Ea he
 obtain ⟨rfl,h3⟩:=h2.exInv
 exact ⟨_,h1, .fz h3⟩
def Za (k:IntKind) (a b:Int):Int:=k.wrap ((BitVec.ofInt k.bits a &&& BitVec.ofInt k.bits b).toNat:Nat)
def Yh (k:IntKind) (a b:Int):Int:=k.wrap ((BitVec.ofInt k.bits a ^^^ BitVec.ofInt k.bits b).toNat:Nat)
def QU (k:IntKind) (a b:Int):Int:=a.fdiv (2 ^ (min b.toNat k.bits))
theorem Qgs {P:Program} {t:TypeId} {xo yo:Operand} {k:IntKind} {a b:Int}:Q0 P .and t xo yo (.int k a) (.int k b)=some (.int k (Za k a b)):=by
 simp [Q0,aeq,YJ,closedV,closed1,eqGuard,binOp,QJ,Op.intBits,Yq,Za]
theorem Qgu {P:Program} {t:TypeId} {xo yo:Operand} {k:IntKind} {a b:Int}:Q0 P .xor t xo yo (.int k a) (.int k b)=some (.int k (Yh k a b)):=by
 simp [Q0,aeq,YJ,closedV,closed1,eqGuard,binOp,QJ,Op.intBits,Yq,Yh]
theorem Qgv {P:Program} {t:TypeId} {xo yo:Operand} {k k2:IntKind} {a b:Int} (h:0≤b):Q0 P .shr t xo yo (.int k a) (.int k2 b)=some (.int k (QU k a b)):=by
 have:¬b<0:=by omega
 simp [Q0,aeq,YJ,closedV,closed1,eqGuard,binOp,QJ,Op.shift,Yq,this,QU]
section
variable {call : Qw} {P : Program} {E : QD} {d : Option Tmp} {ty xt tt : TypeId} {ps : String} {af : Array Edge} {g : Option (Nat × Bool)} {x y : Operand} {k k2 : IntKind} {a b n : Int}
theorem B.and (hx:VEv E x (.int k a)) (hy:VEv E y (.int k b)) (he:Za k a b=n):OF call P E ⟨d, .binOp .and tt x y xt,ty,ps,af,g⟩ (.int k n):=he▸OF.bin hx hy (.int _ _) (.int _ _) Qgs (.int _ _)
theorem B.xor (hx:VEv E x (.int k a)) (hy:VEv E y (.int k b)) (he:Yh k a b=n):OF call P E ⟨d, .binOp .xor tt x y xt,ty,ps,af,g⟩ (.int k n):=he▸OF.bin hx hy (.int _ _) (.int _ _) Qgu (.int _ _)
theorem B.shr (hx:VEv E x (.int k a)) (hy:VEv E y (.int k2 b)) (hb:0≤b) (he:QU k a b=n):OF call P E ⟨d, .binOp .shr tt x y xt,ty,ps,af,g⟩ (.int k n):=he▸OF.bin hx hy (.int _ _) (.int _ _) (Qgv hb) (.int _ _)
end
theorem QbN (a:Int) {m:Nat} (hm:m<2 ^ 63):0≤Za .i64 a m∧Za .i64 a m≤m:=by
 have h1:(BitVec.ofInt 64 a &&& BitVec.ofInt 64 (m:Int)).toNat≤m:=by
  rw [BitVec.toNat_and]
  refine Nat.le_trans Nat.and_le_right ?_
  rw [BitVec.toNat_ofInt]
  omega
 show 0≤IntKind.i64.wrap (((BitVec.ofInt 64 a &&& BitVec.ofInt 64 (m:Int)).toNat:Nat):Int)∧IntKind.i64.wrap (((BitVec.ofInt 64 a &&& BitVec.ofInt 64 (m:Int)).toNat:Nat):Int)≤m
 generalize (BitVec.ofInt 64 a &&& BitVec.ofInt 64 (m:Int)).toNat=r at h1
 rw [IntKind.wrap_i64]
 omega
theorem Qe9 (a:Int):0≤Za .i64 a 255∧Za .i64 a 255≤255:=QbN a (m:=255) (by decide)
section
variable {α : Type} {call : Qw} {P : Program} {ops : Array Oper} {l : List Oper} {E : QD} {O : Qo} {nx m : Nat} {X : α → Prop} {r r' : α → T} {objs : α → List Obj} {K : QD → Qo → Nat → Prop} {d : Option Tmp} {ty : TypeId} {ps : String} {af : Array Edge} {g : Option (Nat × Bool)} {f : FuncId} {args : Array Operand} {tys : Array TypeId} {ts us : List T}
theorem eP (hw:VWant ops E ⟨d, .call ⟨.value (.func f),args,tys⟩,ty,ps,af,g⟩ true) (ha:VEvs E args.toList ts) (hl:LendL O ts us) (hp:PureE call f us X r) (hb:Q8 P f=true) (had:∀x,adopt nx (r x)=(r' x,objs x)) (hm:∀x,(objs x).length=m)
  (hk:∀x,X x→VRunO call P ops l (pE E d (r' x)) (ZM O nx (objs x)) (nx+m) K):VRunO call P ops (⟨d, .call ⟨.value (.func f),args,tys⟩,ty,ps,af,g⟩::l) E O nx K:=VRunO.chainE hw (OCE.fn hb ha hl hp had hm) hk
theorem eC {code:T} {nc k nb mb:Nat} {pb:Option Addr} (i:Nat) (hh:Int) (hw:VWant ops E ⟨d, .call ⟨.value (.func f),args,tys⟩,ty,ps,af,g⟩ true) (ha:VEvs E args.toList (.op k 0::ts)) (hko:gO O k=some (.cells (Jg pb nb mb code i hh))) (hi:i≤nc) (hl:LendL ((k,none)::O) ts us) (hp:CurE call f code nc us X r) (hb:Q8 P f=true) (had:∀x,adopt nx (r x)=(r' x,objs x)) (hm:∀x,(objs x).length=m)
  (hk:∀(x:α) (i':Nat) (hh':Int),X x→i'≤nc→VRunO call P ops l (pE E d (r' x)) (ZM ((k,some (.cells (Jg pb nb mb code i' hh')))::O) nx (objs x)) (nx+m) K):VRunO call P ops (⟨d, .call ⟨.value (.func f),args,tys⟩,ty,ps,af,g⟩::l) E O nx K:=VRunO.chainE hw (OCE.cur hb ha hko hi hl hp had hm) (fun y hy=>hk y.1 y.2.1 y.2.2 hy.1 hy.2)
theorem eN {sz:Nat} {rows:List (List T)} (hw:VWant ops E ⟨d, .call ⟨.value (.func f),args,tys⟩,ty,ps,af,g⟩ true) (ha:VEvs E args.toList [.sl false sz rows]) (hp:NewC call f (.sl false sz rows)) (hb:Q8 P f=true)
  (hk:∀(pb:Option Addr) (nb mb:Nat) (hh:Int),VRunO call P ops l (pE E d (.op nx 0)) ((nx,some (.cells (Jg pb nb mb (.sl false sz rows) 0 hh)))::O) (nx+1) K):VRunO call P ops (⟨d, .call ⟨.value (.func f),args,tys⟩,ty,ps,af,g⟩::l) E O nx K:=VRunO.chainE hw (OCE.newC hb ha hp) (fun y _=>hk y.1 y.2.1 y.2.2.1 y.2.2.2)
end
theorem VRun.drawC {call:Qw} {P:Program} {E:QD} {O:Qo} {nx id:Nat} {ops:Array Oper} {B:List (List Nat)} {us:List T} {Q:AX→QD→Qo→Nat→Prop} (k:Nat) (ds:List Nat) (hB:Qex ops.toList []=B) (hok:okD P ops B=true) (hk:gO O k=some (.cells us)) (hds:∀d∈ds,gE E d= .op k 0)
  (hm:(JI ops).all (fun a=>QaP (gE E a) || ds.contains a)=true) (hm2:(JI ops).any (fun a=>ds.contains a)=true)
  (hx:VRunD call P ops B ops.toList 0 (ds.map (fun d=>(d,T.op nx 0))++E) ((nx,some (.cells us))::(k,none)::O) ((k,none)::O) (nx+1) nx true [] [] (Q .normal)):VRun call P (.region id ops true) E O nx Q:=by
 unfold VRun
 intro p h0 σ hf own Ea h c hs
 obtain ⟨hkn,N,hN1,hN2,g5⟩:=hs.obj k _ hk
 cases hσk:σ k with
 | none=>rw [hσk] at g5;cases g5
 | some a =>
 rw [hσk] at g5
 cases g5 with
 | cells hca hodd hv =>
 have hoa:own a=some k:=hN2 a (by simp)
 have hpt:∀d∈ds,Ea d= .pointer (some ⟨a,0,none⟩):=fun d hd=>by
  have h1:=hs.env d
  rw [hds d hd] at h1
  obtain ⟨a',e1,e2,_⟩:=h1.opInv
  rw [hσk] at e2
  rw [e1,Option.some.inj e2]
 have hbase:Jj Ea ops h=h.upd a none:=by
  funext t
  unfold Jj AH.upd
  by_cases hta:t=a
  ·rw [if_pos hta,if_pos]
   obtain ⟨m,hm3,hm4⟩:=List.any_eq_true.1 hm2
   exact ⟨m,hm3,by rw [hta];exact hpt m (List.contains_iff_mem.1 hm4)⟩
  ·rw [if_neg hta,if_neg]
   rintro ⟨m,hm3,e⟩
   have h1:=List.all_eq_true.1 hm m hm3
   rw [Bool.or_eq_true] at h1
   rcases h1 with h1 | h1
   ·exact Qcj (hs.env m) h1 _ e
   ·rw [hpt m (List.contains_iff_mem.1 h1)] at e
    simp only [Value.pointer.injEq,Option.some.injEq,Addr.mk.injEq] at e
    exact hta e.1.symm
 let σ':Nat→Option Nat:=fun j=>if j=nx then some a else σ j
 have hσ':∀j,j<nx→σ' j=σ j:=fun j hj=>if_neg (by omega)
 have henv:∀t,V σ' hf (nx+1) (gE (ds.map (fun d=>(d,T.op nx 0))++E) t) (Ea t):=fun t=>by
  have key:∀l:List Nat,(∀d∈l,Ea d= .pointer (some ⟨a,0,none⟩))→V σ' hf (nx+1) (gE (l.map (fun d=>(d,T.op nx 0))++E) t) (Ea t):=fun l=>by
   induction l with
   | nil=>exact fun _=>(hs.env t).mono (fun _ _ e=>e) (by omega) hσ'
   | cons d l ih =>
    intro hl
    simp only [List.map_cons,List.cons_append,gE]
    split
    ·rename_i e
     subst e
     rw [hl _ List.mem_cons_self]
     exact .op nx 0 (by omega) (if_pos Y)
    ·exact ih (fun d hd=>hl d (List.mem_cons_of_mem _ hd))
  exact key ds hpt
 have hcur:SR p h0 σ' hf (fun b=>if b=a then some nx else own b) (ds.map (fun d=>(d,T.op nx 0))++E) ((nx,some (.cells us))::(k,none)::O) (nx+1) Ea h:=by
  refine ⟨henv,fun k' o hk'=> ?_,fun b o hb=> ?_,fun b k' hb=> ?_,hs.base,hs.dom⟩
  ·simp only [gO] at hk'
   split at hk'
   ·rename_i e
    obtain rfl:=Option.some.inj hk'
    refine ⟨by omega,[a],by simp,fun b hb=>by obtain rfl:=List.mem_singleton.1 hb;simp [e],?_⟩
    rw [e]
    show ObjR σ' hf (nx+1) h _ (if nx=nx then some a else σ nx) [a]
    rw [if_pos Y]
    exact .cells hca hodd (hv.mono (fun _ _ e=>e) (by omega) hσ')
   ·split at hk'
    ·cases hk'
    ·rename_i hne2
     obtain ⟨m1,N2,m2,m3,m4⟩:=hs.obj k' o hk'
     refine ⟨by omega,N2,m2,fun b hb=> ?_,?_⟩
     ·have h1:=m3 b hb
      have hba:b≠a:=fun e=>by
       rw [e,hoa] at h1
       exact hne2 (Option.some.inj h1).symm
      simp only [if_neg hba]
      exact h1
     ·rw [hσ' k' m1]
      exact m4.mono (fun _ _ e=>e) (by omega) hσ' (fun _ _=>rfl)
  ·obtain ⟨e1,e2⟩:=hs.fro b o hb
   have hba:b≠a:=fun e=>by rw [e,hoa] at e2;cases e2
   exact ⟨e1,by simp only [if_neg hba];exact e2⟩
  ·split at hb
   ·rename_i e
    subst e
    obtain rfl:=Option.some.inj hb
    obtain ⟨m1,m2,m3,m4⟩:=hs.mine _ k hoa
    exact ⟨m1,m2,m3,by omega⟩
   ·obtain ⟨m1,m2,m3,m4⟩:=hs.mine b k' hb
    exact ⟨m1,m2,m3,by omega⟩
 have hb1:=hs.hide hoa
 have hbas:SR p h0 σ' hf (fun b=>if b=a then none else own b) (ds.map (fun d=>(d,T.op nx 0))++E) ((k,none)::O) (nx+1) Ea (h.upd a none):=by
  have h2:=hb1.ext (nx':=nx+1) (σ':=σ') (own':=fun b=>if b=a then none else own b) (h':=h.upd a none) (by omega) hσ' (fun _ _ e=>e) (fun _ _ e=> .inl e) (fun _ _=>rfl) hb1.dom
  exact ⟨henv,h2.obj,h2.fro,h2.mine,h2.base,h2.dom⟩
 refine Run.draw Y hB hok ?_
 rw [hbase]
 unfold VRunD at hx
 refine hx p c h0 σ' hf _ _ Ea (h.upd a none) h [] ⟨hcur,hbas,fun _=>⟨fun t ht=> ?_,fun b j hb e=> ?_⟩,by omega, .nil,fun x hx=>(by cases hx),(by simp)⟩
 ·unfold AH.upd at ht ⊢
  split
  ·rename_i e;rw [if_pos e] at ht;exact absurd Y ht
  ·rfl
 ·have hba:b≠a:=fun e2=>by rw [e2,AH.upd_same] at hb;exact hb Y
  simp only [if_neg hba] at e
  exact (hs.mine b j e).2.2.2
section
variable {α : Type} {call : Qw} {P : Program} {ops : Array Oper} {l : List Oper} {E : QD} {O Ob OL1 : Qo} {nx nb j j' m : Nat} {B : List (List Nat)} {al : List (Nat × Nat × Obj)} {fl bi : List Nat} {X : α → Prop} {r r' : α → T} {objs : α → List Obj} {K : QD → Qo → Nat → Prop} {d : Option Tmp} {ty : TypeId} {ps : String} {af : Array Edge} {g : Option (Nat × Bool)} {f : FuncId} {args : Array Operand} {tys : Array TypeId} {ts us : List T}
theorem eDC {code:T} {nc k nb' mb:Nat} {pb:Option Addr} (i:Nat) (hh:Int) (hj:j+1=j') (hw:VWant ops E ⟨d, .call ⟨.value (.func f),args,tys⟩,ty,ps,af,g⟩ true) (hc:YN P (.call ⟨.value (.func f),args,tys⟩)= .chain) (hB:B.getD j []=bi) (hL:Qbb (fun a=>bi.contains a && !fl.contains a) al O=OL1) (hn:nb≤k)
  (ha:VEvs E args.toList (.op k 0::ts)) (hko:gO OL1 k=some (.cells (Jg pb nb' mb code i hh))) (hi:i≤nc) (hl:LendL ((k,none)::OL1) ts us) (hp:CurE call f code nc us X r) (hb:Q8 P f=true) (had:∀x,adopt nx (r x)=(r' x,objs x)) (hm:∀x,(objs x).length=m)
  (hk:∀(x:α) (i':Nat) (hh':Int),X x→i'≤nc→VRunD call P ops B l j' (pE E d (r' x)) (ZM ((k,some (.cells (Jg pb nb' mb code i' hh')))::OL1) nx (objs x)) Ob (nx+m) nb true al (bi++fl) K) :
  VRunD call P ops B (⟨d, .call ⟨.value (.func f),args,tys⟩,ty,ps,af,g⟩::l) j E O Ob nx nb true al fl K :=
 VRunD.chainXE hj hw hc hB hL (.inr ⟨rfl,rfl,fun q hq=>by obtain rfl:=List.mem_singleton.1 hq;exact hn⟩) (OCE.cur hb ha hko hi hl hp had hm) (fun y hy=>hk y.1 y.2.1 y.2.2 hy.1 hy.2)
theorem eDP (hj:j+1=j') (hw:VWant ops E ⟨d, .call ⟨.value (.func f),args,tys⟩,ty,ps,af,g⟩ true) (hc:YN P (.call ⟨.value (.func f),args,tys⟩)= .chain) (hB:B.getD j []=bi) (hL:Qbb (fun a=>bi.contains a && !fl.contains a) al O=OL1)
  (ha:VEvs E args.toList ts) (hl:LendL OL1 ts us) (hp:PureE call f us X r) (hb:Q8 P f=true) (had:∀x,adopt nx (r x)=(r' x,objs x)) (hm:∀x,(objs x).length=m)
  (hk:∀x,X x→VRunD call P ops B l j' (pE E d (r' x)) (ZM OL1 nx (objs x)) Ob (nx+m) nb true al (bi++fl) K) :
  VRunD call P ops B (⟨d, .call ⟨.value (.func f),args,tys⟩,ty,ps,af,g⟩::l) j E O Ob nx nb true al fl K :=
 VRunD.chainXE hj hw hc hB hL (.inr ⟨rfl,rfl,fun q hq=>by cases hq⟩) (OCE.fn hb ha hl hp had hm) hk
end
def Qb (m:Bool) (x:D.Step):List T:= [.int .i64 x.Kind, .str x.Word, .int .i64 x.A, .int .i64 x.B]
theorem okeStep : EncOk Qb 4:=⟨fun _ _=>rfl,fun x=>Qu (.int _ _) (Qu (.str _) (Qu (.int _ _) (Qu (.int _ _) (Zw)))),fun m x=>by simp only [Qb,fzL,AE.fz],fun m x=>Qu Y (Qu Y (Qu Y (Qu Y (Zw)))),fun x=>Qu Y (Qu Y (Qu Y (Qu Y (Zw))))⟩
def Zy (x:D.Step):Nat:=ByteArray.size x.Word
theorem QcE : Qf9 Qb:=fun _ _=>rfl
def QA (m:Bool) (x:D.Clue):List T:= [.int .i64 x.Sense, .sl m 4 (x.Play.map (Qb m))]
theorem Qbl : EncOk QA 2:=⟨fun _ _=>rfl,fun x=>Qu (.int _ _) (Qu (.sl _ _ (okeStep.cleanMap _)) (Zw)),fun m x=>by simp only [QA,fzL,AE.fz,okeStep.fzMap],fun m x=>Qu Y (Qu Y (Zw)),fun x=>Qu Y (Qu Y (Zw))⟩
def Jc (x:D.Clue):Nat:=(zL Zy) x.Play
noncomputable instance : DecidableEq D.Meaning:=Classical.typeDecidableEq _
def Qa (m:Bool) (x:D.Meaning):List T:= [.str x.Word, .int .i64 x.Sense]
theorem okeMeaning : EncOk Qa 2:=⟨fun _ _=>rfl,fun x=>Qu (.str _) (Qu (.int _ _) (Zw)),fun m x=>by simp only [Qa,fzL,AE.fz],fun m x=>Qu Y (Qu Y (Zw)),fun x=>Qu Y (Qu Y (Zw))⟩
theorem U3 : Tryd.prog.underlying 3=some (.int .i64):=Tryd.underlying3
theorem U4 : Tryd.prog.underlying 4=some .bool:=Tryd.underlying4
theorem U5 : Tryd.prog.underlying 5=some (.int .u8):=Tryd.underlying5
theorem U9 : Tryd.prog.underlying 9=some .string:=Tryd.underlying9
theorem U22 : Tryd.prog.underlying 22=some (.slice 5):=Tryd.underlying22
theorem ZQ : Tryd.prog.underlying 24=some (.slice 67):=Tryd.underlying24
theorem Y1 : Tryd.prog.underlying 34=some (.slice 9):=Tryd.underlying34
theorem YB : Tryd.prog.underlying 62=some (.slice 106):=Tryd.underlying62
theorem Yn : Tryd.prog.underlying 68=some (.slice 3):=Tryd.underlying68
theorem U95 : Tryd.prog.underlying 95=some (.slice 4):=Tryd.underlying95
set_option maxRecDepth 20000
set_option maxHeartbeats 2000000
noncomputable section
theorem YL {ok:Nat→Prop} {i n:Nat} (h:i≤n∧∀j,j<i→ok j) (hi:i<n) (hk:ok i):i+1≤n∧∀j,j<i+1→ok j:=by
 refine ⟨hi,fun j hj=> ?_⟩
 rcases Nat.lt_or_ge j i with h1 | h1
 ·exact h.2 j h1
 ·obtain rfl:j=i:=by omega
  exact hk
theorem QbC {ok:Nat→Prop} {i n:Nat} (h:i≤n∧∀j,j<i→ok j) (hi:¬i<n):∀j,j<n→ok j:=fun j hj=>h.2 j (by omega)
theorem Qel {α:Type} {l:List α} {i:Nat} {x y:α} (hx:l[i]? =some x) (hy:l[i]? =some y):y=x:=by
 rw [hx] at hy
 exact (Option.some.inj hy).symm
def Qr (s:ByteArray):Prop:=(1≤s.size∧s.size≤8)∧∀i,i<s.size→97≤bAt s i∧bAt s i≤122
instance (s:ByteArray):Decidable (Qr s):=Classical.propDecidable _
def Jv (a b:ByteArray):Bool:=if a.size=b.size then Op.bytesLess a.toList b.toList else decide (a.size<b.size)
def ixF {α:Type} (p:α→Prop) [DecidablePred p]:List α→Int
 | []=> -1
 | x::r=>if p x then 0 else if ixF p r<0 then -1 else ixF p r+1
theorem Qch {α:Type} {p:α→Prop} [DecidablePred p]:∀ {l:List α} {i:Nat} {x:α},l[i]? =some x→p x→(∀j y,j<i→l[j]? =some y→¬p y)→ixF p l=i
 | [],i,x,h,_,_=>by simp at h
 | y::r,0,x,h,hp,_=>by
  obtain rfl:y=x:=by simpa using h
  simp only [ixF,if_pos hp]
  rfl
 | y::r,i+1,x,h,hp,hn=>by
  have h1:=Qch (l:=r) (i:=i) (by simpa using h) hp (fun j z hj hz=>hn (j+1) z (by omega) (by simpa using hz))
  have h2:¬p y:=hn 0 y (by omega) (by simp)
  simp only [ixF,if_neg h2,h1]
  rw [if_neg (by omega)]
  rfl
theorem Qdp {α:Type} {p:α→Prop} [DecidablePred p]:∀ {l:List α},(∀j y,j<l.length→l[j]? =some y→¬p y)→ixF p l= -1
 | [],_=>rfl
 | y::r,hn=>by
  have h1:=Qdp (l:=r) (fun j z hj hz=>hn (j+1) z (by simp;omega) (by simpa using hz))
  have h2:¬p y:=hn 0 y (by simp) (by simp)
  simp only [ixF,if_neg h2,h1]
  rfl
theorem QeX {α:Type} {p:α→Prop} [DecidablePred p]:∀ {l:List α},0≤ixF p l↔∃x∈l,p x
 | []=>by simp [ixF]
 | y::r=>by
  have h1:=QeX (p:=p) (l:=r)
  simp only [ixF,List.mem_cons,exists_eq_or_imp]
  by_cases hy:p y
  ·simp [hy]
  ·simp only [if_neg hy,hy,false_or]
   rw [← h1]
   by_cases h:ixF p r<0
   ·rw [if_pos h]
    exact ⟨fun h2=>absurd h2 (by decide),fun h2=>by omega⟩
   ·rw [if_neg h]
    exact ⟨fun h2=>by omega,fun h2=>by omega⟩
def NoneTo {α:Type} (p:α→Prop) (l:List α) (i:Nat):Prop:=i≤l.length∧∀j y,j<i→l[j]? =some y→¬p y
theorem NoneTo.start {α:Type} (p:α→Prop) (l:List α):NoneTo p l 0:=⟨Nat.zero_le _,fun j y hj=>by omega⟩
theorem NoneTo.next {α:Type} {p:α→Prop} {l:List α} {i:Nat} {x:α} (h:NoneTo p l i) (hx:l[i]? =some x) (hn:¬p x):NoneTo p l (i+1):=by
 have:=(List.getElem?_eq_some_iff.1 hx).1
 refine ⟨by omega,fun j y hj hy=> ?_⟩
 rcases Nat.lt_or_ge j i with h1 | h1
 ·exact h.2 j y h1 hy
 ·obtain rfl:j=i:=by omega
  rw [hx] at hy
  exact Option.some.inj hy▸hn
theorem NoneTo.all {α:Type} {p:α→Prop} {l:List α} {i:Nat} (h:NoneTo p l i) (hi:¬i<l.length):∀j y,j<l.length→l[j]? =some y→¬p y:=fun j y hj hy=>h.2 j y (by omega) hy
theorem NoneTo.mem {α:Type} {p:α→Prop} {l:List α} {i:Nat} (h:NoneTo p l i) (hi:¬i<l.length):∀y∈l,¬p y:=fun y hy=>by
 obtain ⟨j,hj⟩:=List.getElem?_of_mem hy
 exact h.all hi j y (List.getElem?_eq_some_iff.1 hj).1 hj
end
theorem QS (n:Nat) (a:Int) (b:Int) (c:Int):Pure (Qm Tryd.prog (n+1)) 37 [(tI a),(tI b),(tI c)] (tB (decide (b≤a∧a≤c))):=by
 refine Pure.intro (rs:= [ResultVar.tmp 6]) Tryd.func37 Y Y Y (E0:= [(0,(tI a)),(1,(tI b)),(2,(tI c))]) Y ?_
 obtain ⟨hlim,hmx,hmax⟩:=QG
 refine sr (fO (OF.assign (VEv.bool false)) (nt (sr (mO (tI a) Y (mO (tI b) Y (fO (xge (tv (tI a) Y) (tv (tI b) Y)) (mO (tB (decide (b≤a))) Y ?_)))))))
 refine gw (b≤a) (fun fhg10_1=> ?_) fun fhg10_1=> ?_
 ·refine gF (dy fhg10_1) Y Y (OF.move (tv (tI a) Y)) ?_
  refine gF (dy fhg10_1) Y Y (OF.move (tv (tI c) Y)) (gF (dy fhg10_1) Y Y (xle (tv (tI a) Y) (tv (tI c) Y)) (fO (OF.pickT (VEv.tmpB Y (dy fhg10_1)) (tv (tB (decide (a≤c))) Y)) (aO (tB (decide (a≤c))) Y (nt (rt (vb (b':=(decide (a≤c))) Y ?_))))))
  exact Zp (by omega)
 refine QB 3 3 true 10 (dz fhg10_1) Y Y Y (fO (OF.pickF (VEv.tmpB Y (dz fhg10_1)) (VEv.bool false)) (aO (tB false) Y (nt (rt (vb (b':=false) Y ?_)))))
 (symm;rw [decide_eq_false_iff_not];omega)
theorem Zk (n:Nat) (a:Int) (b:Int) (c:Int):Pure (Qm Tryd.prog (n+1)) 35 [(tI a),(tI b),(tI c)] (tB (decide (b≤a∧a≤c))):=by
 refine Pure.intro (rs:= [ResultVar.tmp 6]) Tryd.func35 Y Y Y (E0:= [(0,(tI a)),(1,(tI b)),(2,(tI c))]) Y ?_
 obtain ⟨hlim,hmx,hmax⟩:=QG
 refine sr (fO (OF.assign (VEv.bool false)) (nt (sr (mO (tI b) Y (mO (tI a) Y (fO (xle (tv (tI b) Y) (tv (tI a) Y)) (mO (tB (decide (b≤a))) Y ?_)))))))
 refine gw (b≤a) (fun fhg10_1=> ?_) fun fhg10_1=> ?_
 ·refine gF (dy fhg10_1) Y Y (OF.move (tv (tI a) Y)) ?_
  refine gF (dy fhg10_1) Y Y (OF.move (tv (tI c) Y)) (gF (dy fhg10_1) Y Y (xle (tv (tI a) Y) (tv (tI c) Y)) (fO (OF.pickT (VEv.tmpB Y (dy fhg10_1)) (tv (tB (decide (a≤c))) Y)) (aO (tB (decide (a≤c))) Y (nt (rt (vb (b':=(decide (a≤c))) Y ?_))))))
  exact Zp (by omega)
 refine QB 3 3 true 10 (dz fhg10_1) Y Y Y (fO (OF.pickF (VEv.tmpB Y (dz fhg10_1)) (VEv.bool false)) (aO (tB false) Y (nt (rt (vb (b':=false) Y ?_)))))
 (symm;rw [decide_eq_false_iff_not];omega)
theorem Qa7 (n:Nat) (a:Int):Pure (Qm Tryd.prog (n+1)) 39 [(T.int .u8 a)] (tB (decide (97≤a∧a≤122))):=by
 refine Pure.intro (rs:= [ResultVar.tmp 2]) Tryd.func39 Y Y Y (E0:= [(0,(T.int .u8 a))]) Y ?_
 obtain ⟨hlim,hmx,hmax⟩:=QG
 refine sr (fO (OF.assign (VEv.bool false)) (nt (sr (mO (T.int .u8 a) Y (fO (xge (tv (T.int .u8 a) Y) (VEv.int .u8 97)) (mO (tB (decide (97≤a))) Y ?_))))))
 refine gw (97≤a) (fun fhg5_1=> ?_) fun fhg5_1=> ?_
 ·refine gF (dy fhg5_1) Y Y (OF.move (tv (T.int .u8 a) Y)) ?_
  refine gF (dy fhg5_1) Y Y (xle (tv (T.int .u8 a) Y) (VEv.int .u8 122)) (fO (OF.pickT (VEv.tmpB Y (dy fhg5_1)) (tv (tB (decide (a≤122))) Y)) (aO (tB (decide (a≤122))) Y (nt (rt (vb (b':=(decide (a≤122))) Y ?_)))))
  exact Zp (by omega)
 refine QB 2 2 true 5 (dz fhg5_1) Y Y Y (fO (OF.pickF (VEv.tmpB Y (dz fhg5_1)) (VEv.bool false)) (aO (tB false) Y (nt (rt (vb (b':=false) Y ?_)))))
 (symm;rw [decide_eq_false_iff_not];omega)
theorem Ja (n:Nat) (a:Int) (b:Int):Pure (Qm Tryd.prog (n+1)) 40 [(tI a),(tI b)] (tB (decide (0≤a∧a<b))):=by
 refine Pure.intro (rs:= [ResultVar.tmp 4]) Tryd.func40 Y Y Y (E0:= [(0,(tI a)),(1,(tI b))]) Y ?_
 obtain ⟨hlim,hmx,hmax⟩:=QG
 refine sr (fO (OF.assign (VEv.bool false)) (nt (sr (mO (tI a) Y (fO (xge (tv (tI a) Y) (VEv.int .i64 0)) (mO (tB (decide (0≤a))) Y ?_))))))
 refine gw (0≤a) (fun fhg7_1=> ?_) fun fhg7_1=> ?_
 ·refine gF (dy fhg7_1) Y Y (OF.move (tv (tI a) Y)) ?_
  refine gF (dy fhg7_1) Y Y (OF.move (tv (tI b) Y)) (gF (dy fhg7_1) Y Y (xls (tv (tI a) Y) (tv (tI b) Y)) (fO (OF.pickT (VEv.tmpB Y (dy fhg7_1)) (tv (tB (decide (a<b))) Y)) (aO (tB (decide (a<b))) Y (nt (rt (vb (b':=(decide (a<b))) Y ?_))))))
  exact Zp (by omega)
 refine QB 3 2 true 7 (dz fhg7_1) Y Y Y (fO (OF.pickF (VEv.tmpB Y (dz fhg7_1)) (VEv.bool false)) (aO (tB false) Y (nt (rt (vb (b':=false) Y ?_)))))
 (symm;rw [decide_eq_false_iff_not];omega)
theorem Z5 (n:Nat) (a:ByteArray) (ha:a.size≤maxLen):Pure (Qm Tryd.prog (n+2)) 82 [(tS a)] (tB (decide (Qr a))):=by
 refine Pure.intro (rs:= [ResultVar.tmp 2]) Tryd.func82 Y Y Y (E0:= [(0,(tS a))]) Y ?_
 obtain ⟨hlim,hmx,hmax⟩:=QG
 refine sr (fO (OF.assign (VEv.bool false)) (nt (sq (sr (mO (tS a) Y (lO (B.lenS (tv (tS a) Y) U9) (cO (cS (vc (tv (tN a.size) Y) (vc (VEv.int .i64 1) (vc (VEv.int .i64 8) vn))) (QR Y) (QS (n+0) ((a.size:Nat):Int) 1 8) Y Y) (fO (QZ (tv (tB (decide (1≤((a.size:Nat):Int)∧((a.size:Nat):Int)≤8))) Y)) (nt ?_)))))))))
 refine cn (1≤((a.size:Nat):Int)∧((a.size:Nat):Int)≤8) Y (fun fhc0=> ?_) fun fhc0=> ?_
 ·refine sr ?_
  refine fO (OF.assign (VEv.bool false)) (nt (rt (tr (vb (b':=false) Y ?_))))
  symm;rw [decide_eq_false_iff_not];rintro ⟨h1,_⟩;omega
 refine sk (tn (sq (sr (fO (OF.assign (VEv.int .i64 0)) (nt (VRun.block ?_))))))
 refine VRun.loop (A:=Nat) (fun s_=> [(0,(tS a)),(3,(tN s_))]) (fun s_=>ZR []) 0 (fun s_=>s_≤a.size∧∀j,j<s_→97≤bAt a j∧bAt a j≤122) (fun s_=>a.size - s_) (0:Nat) ?_ (Wk.mk (fun k=>k) ?_ ?_ ?_) ?_
 ·exact ⟨Nat.zero_le _,fun j hj=>by omega⟩
 ·exact (b2 (b2 bn))
 ·exact bn
 ·exact nd Y
 rintro i (hI':i≤a.size∧∀j,j<i→97≤bAt a j∧bAt a j≤122)
 show VRun _ _ _ [(0,(tS a)),(3,(tN i))] (ZR []) 0 _
 refine sq (sr (mO (tN i) Y (mO (tS a) Y (lO (B.lenS (tv (tS a) Y) U9) (fO (Yr (tv (tN i) Y) (tv (tN a.size) Y)) (nt ?_))))))
 refine cd (i<a.size) Y (fun fhc1=> ?_) fun fhc1=> ?_
 ·refine sk ?_
  refine tn (sq (VRun.block (sr (mO (tS a) Y (mO (tN i) Y ?_)))))
  have hb1:i<a.size:=(by omega)
  refine fO (xix (tv (tS a) Y) (tv (tN i) Y) hb1 U9) (fO (xls (tv (T.int .u8 (bAt a i)) Y) (VEv.int .u8 97)) (mO (tB (decide (bAt a i<97))) Y ?_))
  refine gw (bAt a i<97) (fun fhg18_2=> ?_) fun fhg18_2=> ?_
  ·refine QB 4 4 false 18 (dy fhg18_2) Y Y Y ?_
   refine fO (OF.pickT (VEv.tmpB Y (dy fhg18_2)) (VEv.bool true)) (nt (ct Y (sr (fO (OF.assign (VEv.bool false)) (nt (rt (vinB.r (tr (tr (vinB.r (tr ?_)))))))))))
   refine vb (b':=false) Y ?_
   symm;rw [decide_eq_false_iff_not];rintro ⟨_,h2⟩;have:=h2 i fhc1;omega
  refine gF (dz fhg18_2) Y Y (OF.move (tv (tS a) Y)) (gF (dz fhg18_2) Y Y (OF.move (tv (tN i) Y)) ?_)
  have hb3:i<a.size:=(by omega)
  refine gF (dz fhg18_2) Y Y (xix (tv (tS a) Y) (tv (tN i) Y) hb3 U9) (gF (dz fhg18_2) Y Y (xgt (tv (T.int .u8 (bAt a i)) Y) (VEv.int .u8 122)) (fO (OF.pickF (VEv.tmpB Y (dz fhg18_2)) (tv (tB (decide (122<bAt a i))) Y)) (nt ?_)))
  refine cd (122<bAt a i) Y (fun fhc2=> ?_) fun fhc2=> ?_
  ·refine sr ?_
   refine fO (OF.assign (VEv.bool false)) (nt (rt (vinB.r (tr (tr (vinB.r (tr (vb (b':=false) Y ?_))))))))
   symm;rw [decide_eq_false_iff_not];rintro ⟨_,h2⟩;have:=h2 i fhc1;omega
  refine sk (vinB.n (tn (VRun.region (mO (tN i) Y (fO (Zu (tv (tN i) Y) (VEv.int .i64 1) (by omega)) (aO (tN (i+1)) Y (VRunO.nil (tn ?_))))))))
  refine ⟨(i+1:Nat),?_,?_,Wk.mk (fun k=>k) ?_ ?_ ?_⟩
  ·exact YL (ok:=fun j=>97≤bAt a j∧bAt a j≤122) hI' fhc1 (by omega)
  ·omega
  ·exact (b2 (b2 bn))
  ·exact bn
  ·exact nd Y
 refine VRun.exit (vthn.e (vthn.e (vinB.e (tn (sr (fO (OF.assign (VEv.bool true)) (nt (rt (vb (b':=true) Y ?_)))))))))
 symm;rw [decide_eq_true_eq];exact ⟨by omega,QbC hI' fhc1⟩
theorem Z3 (n:Nat) (a:ByteArray) (ha:a.size≤maxLen):Pure (Qm Tryd.prog (n+2)) 10 [(tS a)] (tB (decide (Qr a))):=by
 refine Pure.intro (rs:= [ResultVar.tmp 2]) Tryd.func10 Y Y Y (E0:= [(0,(tS a))]) Y ?_
 obtain ⟨hlim,hmx,hmax⟩:=QG
 refine sr (fO (OF.assign (VEv.bool false)) (nt (sq (sr (mO (tS a) Y (lO (B.lenS (tv (tS a) Y) U9) (cO (cS (vc (tv (tN a.size) Y) (vc (VEv.int .i64 1) (vc (VEv.int .i64 8) vn))) (QR Y) (Zk (n+0) ((a.size:Nat):Int) 1 8) Y Y) (fO (QZ (tv (tB (decide (1≤((a.size:Nat):Int)∧((a.size:Nat):Int)≤8))) Y)) (nt ?_)))))))))
 refine cn (1≤((a.size:Nat):Int)∧((a.size:Nat):Int)≤8) Y (fun fhc0=> ?_) fun fhc0=> ?_
 ·refine sr ?_
  refine fO (OF.assign (VEv.bool false)) (nt (rt (tr (vb (b':=false) Y ?_))))
  symm;rw [decide_eq_false_iff_not];rintro ⟨h1,_⟩;omega
 refine sk (tn (sq (sr (mO (tS a) Y (lO (B.lenS (tv (tS a) Y) U9) (fO (OF.move (VEv.int .i64 0)) (nt (VRun.block ?_))))))))
 refine VRun.loop (A:=Nat) (fun s_=> [(0,(tS a)),(9,(tN a.size)),(10,(tN s_))]) (fun s_=>ZR []) 0 (fun s_=>s_≤a.size∧∀j,j<s_→97≤bAt a j∧bAt a j≤122) (fun s_=>a.size - s_) (0:Nat) ?_ (Wk.mk (fun k=>k) ?_ ?_ ?_) ?_
 ·exact ⟨Nat.zero_le _,fun j hj=>by omega⟩
 ·exact (b2 (b2 (b2 bn)))
 ·exact bn
 ·exact nd Y
 rintro i (hI':i≤a.size∧∀j,j<i→97≤bAt a j∧bAt a j≤122)
 show VRun _ _ _ [(0,(tS a)),(9,(tN a.size)),(10,(tN i))] (ZR []) 0 _
 refine sr (fO (Yr (tv (tN i) Y) (tv (tN a.size) Y)) (nt (sq ?_)))
 refine cd (i<a.size) Y (fun fhc1=> ?_) fun fhc1=> ?_
 ·refine sk ?_
  refine tn (sq (VRun.block (sr (mO (tN i) Y (aO (tN i) Y (nt (sr (mO (tS a) Y (mO (tN i) Y ?_)))))))))
  have hb1:i<a.size:=(by omega)
  refine fO (xix (tv (tS a) Y) (tv (tN i) Y) hb1 U9) (cO (cS (vc (tv (T.int .u8 (bAt a i)) Y) vn) (QR Y) (Qa7 (n+0) (bAt a i)) Y Y) (fO (QZ (tv (tB (decide (97≤(bAt a i)∧(bAt a i)≤122))) Y)) (nt ?_)))
  refine cn (97≤(bAt a i)∧(bAt a i)≤122) Y (fun fhc2=> ?_) fun fhc2=> ?_
  ·refine sr ?_
   refine fO (OF.assign (VEv.bool false)) (nt (rt (vinB.r (tr (tr (vinB.r (tr (vb (b':=false) Y ?_))))))))
   symm;rw [decide_eq_false_iff_not];rintro ⟨_,h2⟩;have:=h2 i fhc1;omega
  refine sk (vinB.n (tn (VRun.region (fO (Zu (tv (tN i) Y) (VEv.int .i64 1) (by omega)) (mO (tN (i+1)) Y (VRunO.nil (tn ?_)))))))
  refine ⟨(i+1:Nat),?_,?_,Wk.mk (fun k=>k) ?_ ?_ ?_⟩
  ·exact YL (ok:=fun j=>97≤bAt a j∧bAt a j≤122) hI' fhc1 (by omega)
  ·omega
  ·exact (b2 (b2 (b2 bn)))
  ·exact bn
  ·exact nd Y
 refine VRun.exit (vthn.e (vthn.e (vinB.e (tn (sr (fO (OF.assign (VEv.bool true)) (nt (rt (vb (b':=true) Y ?_)))))))))
 symm;rw [decide_eq_true_eq];exact ⟨by omega,QbC hI' fhc1⟩
theorem QaC (n:Nat) (a:ByteArray) (b:ByteArray):Pure (Qm Tryd.prog (n+1)) 112 [(tS a),(tS b)] (tB (Jv a b)):=by
 refine Pure.intro (rs:= [ResultVar.tmp 4]) Tryd.func112 Y Y Y (E0:= [(0,(tS a)),(1,(tS b))]) Y ?_
 obtain ⟨hlim,hmx,hmax⟩:=QG
 refine sr (fO (OF.assign (VEv.bool false)) (nt (sq (sr (mO (tS a) Y (lO (B.lenS (tv (tS a) Y) U9) (mO (tS b) Y (lO (B.lenS (tv (tS b) Y) U9) (fO (Qhm (tv (tN a.size) Y) (tv (tN b.size) Y)) (nt ?_))))))))))
 refine cn (a.size=b.size) Y (fun fhc0=> ?_) fun fhc0=> ?_
 ·refine sr ?_
  refine mO (tS a) Y (lO (B.lenS (tv (tS a) Y) U9) (mO (tS b) Y (lO (B.lenS (tv (tS b) Y) U9) (fO (Yr (tv (tN a.size) Y) (tv (tN b.size) Y)) (aO (tB (decide (a.size<b.size))) Y (nt (rt (tr (vb (b':=(decide (a.size<b.size))) Y ?_)))))))))
  simp [Jv,fhc0]
 refine sk (tn (sr (mO (tS a) Y (mO (tS b) Y (fO (B.slss (c:=(Op.bytesLess a.toList b.toList)) (tv (tS a) Y) (tv (tS b) Y) Y) (aO (tB (Op.bytesLess a.toList b.toList)) Y (nt (rt (vb (b':=(Op.bytesLess a.toList b.toList)) Y ?_)))))))))
 simp [Jv,fhc0]
noncomputable section
def Jy (k:Int):Prop:=k=4∨k=5
def Yi (l:List D.Step) (j:Nat):Prop:=∃x,l[j]? =some x∧(1≤x.Kind∧x.Kind≤9)∧(x.Kind=1→Qr x.Word∧x.A=0∧x.B=0) ∧
 (¬x.Kind=1→x.Word=(⟨#[]⟩:ByteArray)∧(0≤x.A∧x.A<(j:Int))∧(Jy x.Kind→0≤x.B∧x.B<(j:Int))∧(¬Jy x.Kind→x.B=0)∧(¬Jy x.Kind→¬x.Kind=2→∃y,l[x.A.toNat]? =some y∧y.Kind=1))
instance (l:List D.Step) (j:Nat):Decidable (Yi l j):=Classical.propDecidable _
def Qp (l:List D.Step):Prop:=(1≤l.length∧l.length≤9)∧∀j,j<l.length→Yi l j
instance (l:List D.Step):Decidable (Qp l):=Classical.propDecidable _
def Qa5 (l:List D.Step) (j:Nat) (x:D.Step):Prop:=(1≤x.Kind∧x.Kind≤9)∧(x.Kind=1→Qr x.Word∧x.A=0∧x.B=0) ∧
 (¬x.Kind=1→x.Word=(⟨#[]⟩:ByteArray)∧(0≤x.A∧x.A<(j:Int))∧(Jy x.Kind→0≤x.B∧x.B<(j:Int))∧(¬Jy x.Kind→x.B=0)∧(¬Jy x.Kind→¬x.Kind=2→∃y,l[x.A.toNat]? =some y∧y.Kind=1))
theorem Qq {l:List D.Step} {j:Nat} {x:D.Step} (hx:l[j]? =some x):Yi l j↔Qa5 l j x:=by
 constructor
 ·rintro ⟨y,hy,h⟩
  obtain rfl:=Qel hx hy
  exact h
 ·intro h
  exact ⟨x,hx,h⟩
theorem Qhs {l:List D.Step} {k:Nat} {y:D.Step} (hy:l[k]? =some y):(∃z,l[k]? =some z∧z.Kind=1)↔y.Kind=1:=by
 constructor
 ·rintro ⟨z,hz,h⟩
  obtain rfl:=Qel hy hz
  exact h
 ·intro h
  exact ⟨y,hy,h⟩
theorem Qg2 {l:List D.Step} {j:Nat} {x y:D.Step} (hx:l[j]? =some x) (hy:l[x.A.toNat]? =some y) (h1:1≤x.Kind∧x.Kind≤9) (h2:¬x.Kind=1) (h3:x.Word=(⟨#[]⟩:ByteArray)) (h4:0≤x.A∧x.A<(j:Int)) (h5:x.B=0) (h6:¬Jy x.Kind) (h7:¬x.Kind=2):decide (y.Kind=1)=decide (Yi l j):=by
 refine Zp ?_
 rw [Qq hx]
 simp only [Qa5,Qhs hy]
 exact ⟨fun h=>⟨h1,fun hk=>absurd hk h2,fun _=>⟨h3,h4,fun h=>absurd h h6,fun _=>h5,fun _ _=>h⟩⟩,fun h=>(h.2.2 h2).2.2.2.2 h6 h7⟩
theorem Qha {l:List D.Step} {j:Nat} {x:D.Step} (hx:l[j]? =some x) (h1:1≤x.Kind∧x.Kind≤9) (h2:x.Kind=1) (h3:Qr x.Word) (h4:x.A=0):decide (x.B=0)=decide (Yi l j):=by
 refine Zp ?_
 rw [Qq hx]
 simp only [Qa5]
 exact ⟨fun h=>⟨h1,fun _=>⟨h3,h4,h⟩,fun hk=>absurd h2 hk⟩,fun h=>(h.2.1 h2).2.2⟩
theorem QO : ¬Qr (⟨#[]⟩:ByteArray):=fun h=>absurd h.1.1 (by decide)
end
theorem QaG (n:Nat) (a:Int):Pure (Qm Tryd.prog (n+1)) 67 [(tI a)] (tB (decide (a=3∨6≤a))):=by
 refine Pure.intro (rs:= [ResultVar.tmp 2]) Tryd.func67 Y Y Y (E0:= [(0,(tI a))]) Y ?_
 obtain ⟨hlim,hmx,hmax⟩:=QG
 refine sr (fO (OF.assign (VEv.bool false)) (nt (sr (mO (tI a) Y (fO (ZU (tv (tI a) Y) (VEv.int .i64 3)) (mO (tB (decide (a=3))) Y ?_))))))
 refine gw (a=3) (fun fhg5_1=> ?_) fun fhg5_1=> ?_
 ·refine QB 2 2 false 5 (dy fhg5_1) Y Y Y ?_
  refine fO (OF.pickT (VEv.tmpB Y (dy fhg5_1)) (VEv.bool true)) (aO (tB true) Y (nt (rt (vb (b':=true) Y ?_))))
  (symm;rw [decide_eq_true_eq];omega)
 refine gF (dz fhg5_1) Y Y (OF.move (tv (tI a) Y)) (gF (dz fhg5_1) Y Y (xge (tv (tI a) Y) (VEv.int .i64 6)) (fO (OF.pickF (VEv.tmpB Y (dz fhg5_1)) (tv (tB (decide (6≤a))) Y)) (aO (tB (decide (6≤a))) Y (nt (rt (vb (b':=(decide (6≤a))) Y ?_))))))
 exact Zp (by omega)
theorem Q5 (n:Nat) (a:Int):Pure (Qm Tryd.prog (n+1)) 66 [(tI a)] (tB (decide (a=4∨a=5))):=by
 refine Pure.intro (rs:= [ResultVar.tmp 2]) Tryd.func66 Y Y Y (E0:= [(0,(tI a))]) Y ?_
 obtain ⟨hlim,hmx,hmax⟩:=QG
 refine sr (fO (OF.assign (VEv.bool false)) (nt (sr (mO (tI a) Y (fO (ZU (tv (tI a) Y) (VEv.int .i64 4)) (mO (tB (decide (a=4))) Y ?_))))))
 refine gw (a=4) (fun fhg5_1=> ?_) fun fhg5_1=> ?_
 ·refine QB 2 2 false 5 (dy fhg5_1) Y Y Y ?_
  refine fO (OF.pickT (VEv.tmpB Y (dy fhg5_1)) (VEv.bool true)) (aO (tB true) Y (nt (rt (vb (b':=true) Y ?_))))
  (symm;rw [decide_eq_true_eq];omega)
 refine gF (dz fhg5_1) Y Y (OF.move (tv (tI a) Y)) (gF (dz fhg5_1) Y Y (ZU (tv (tI a) Y) (VEv.int .i64 5)) (fO (OF.pickF (VEv.tmpB Y (dz fhg5_1)) (tv (tB (decide (a=5))) Y)) (aO (tB (decide (a=5))) Y (nt (rt (vb (b':=(decide (a=5))) Y ?_))))))
 exact Zp (by omega)
theorem QcW (n:Nat) (a:List D.Step) (i:Nat) (hz:zL Zy a≤mx) (hi:i<a.length):Pure (Qm Tryd.prog (n+3)) 68 [(rd 4 Qb a),(tN i)] (tB (decide (Yi a i))):=by
 refine Pure.intro (rs:= [ResultVar.tmp 4]) Tryd.func68 Y Y Y (E0:= [(0,(rd 4 Qb a)),(1,(tN i))]) Y ?_
 obtain ⟨hlim,hmx,hmax⟩:=QG
 have ha:=JD (z:=Zy) a
 have hw:∀x∈a,x.Word.size≤maxLen:=fun x hx=>by have h1:=Qfr (z:=Zy) hx;simp only [Zy] at h1;omega
 refine sr (fO (OF.assign (VEv.bool false)) (nt (sr (mO (rd 4 Qb a) Y (mO (tN i) Y ?_)))))
 obtain ⟨x1,hx1⟩:∃x,a[i]? =some x:=⟨_,List.getElem?_eq_getElem (by omega)⟩
 refine fO (OF.indexAddrR (row:=(Qb false x1)) (i:=i) (tv (rd 4 Qb a) Y) (tv (tN i) Y) Y (Qs _ hx1) ZQ Qy Ze) (lO (OL.loadRn (us:=(Qb false x1)) (tv (T.rp (Qb false x1)) Y) Zs Qy (lb Y) Y) (kO (B.alloc (t:=(T.agg [(tN 0),(tS ByteArray.empty),(tN 0),(tN 0)])) (ts:= [(tN 0),(tS ByteArray.empty),(tN 0),(tN 0)]) Yb Qez nofun (fun _=> .agg _ _ Y (Ys (RL.cons (.int _ _) (RL.cons (.str _) (RL.cons (.int _ _) (RL.cons (.int _ _) (RL.nil _))))))) Y) (cO (B.storeW (us:=(Qb false x1)) (tv (T.op 0 0) Y) (tv (T.agg (Qb false x1)) Y) nofun Y Y Y Ze Qy (bc Y (bc Y (bc Y (bc Y bn))))) (nt (sq (sq (VRun.draw (B:= [[],[0],[0,1],[1,0,2],[2,0,1,3],[3,1,0,2,4],[4,2,0,1,3,5],[5,3,1,0,2,4,6],[3,1,0,2,4],[4,2,0,1,3,8],[8,3,1,0,2,4,9],[9,8,10,6,4,2,0,1,3,5,7],[7,5,6,10,8,9,11,3,1,0,2,4],[4,2,0,1,3,11,9,8,10,6,5,7,12],[12,7,5,6,10,8,9,11,3,1,0,2,4,13],[13,4,2,0,1,3,11,9,8,10,6,5,7,12,14],[14,12,7,5,6,10,8,9,11,3,1,0,2,4,13,15],[15,13,4,2,0,1,3,11,9,8,10,6,5,7,12,14,16],[16,14,12,7,5,6,10,8,9,11,3,1,0,2,4,13,15,17],[17,15,13,4,2,0,1,3,11,9,8,10,6,5,7,12,14,16,18],[18,16,14,12,7,5,6,10,8,9,11,3,1,0,2,4,13,15,17,19],[19,18,20,16,14,12,7,5,6,10,8,9,11,3,1,0,2,4,13,15,17],[17,15,14,16,20,18,19,21,12,7,5,6,10,8,9,11,3,1,0,2,4,13]]) (by kernel_rfl) (by kernel_rfl) Y (fD (OF.fieldAddrO (tv (T.op 0 0) Y) Qv) Y Y (lD (OL.loadO1 (t:=(tI x1.Kind)) (tv (T.op 0 0) Y) Y Y QY) Y Y (VRunD.quiet (bi:= [0,1]) Y VWant.always Y Y Y bn (cS (vc (tv (tI x1.Kind) Y) (vc (VEv.int .i64 1) (vc (VEv.int .i64 9) vn))) (QR Y) (QS (n+1) x1.Kind 1 9) Y Y) (fD (QZ (tv (tB (decide (1≤x1.Kind∧x1.Kind≤9))) Y)) Y Y ?_)))))))))))
 refine mD (tB (!(decide (1≤x1.Kind∧x1.Kind≤9)))) Y Y ?_
 refine gn (1≤x1.Kind∧x1.Kind≤9) (fun fhg15_1=> ?_) fun fhg15_1=> ?_
 ·refine oD Y Y (ny fhg15_1) Y ?_
  refine oD Y Y (ny fhg15_1) Y (oD Y Y (ny fhg15_1) Y (oD Y Y (ny fhg15_1) Y (oD Y Y (ny fhg15_1) Y (oD Y Y (ny fhg15_1) Y (oD Y Y (ny fhg15_1) Y (fD (OF.pickT (VEv.tmpB Y (ny fhg15_1)) (VEv.bool true)) Y Y (mD (tB true) Y Y (VRunD.off Y (VWant.not (b:=true) Y Y Y) (VRunD.off Y (VWant.not (b:=true) Y Y Y) (VRunD.off Y (VWant.not (b:=true) Y Y Y) (VRunD.off Y (VWant.not (b:=true) Y Y Y) ?_)))))))))))
  refine uD Y Y Y (uD Y Y Y (uD Y Y Y (VRunD.off Y (VWant.not (b:=true) Y Y Y) (fD (OF.pickT (tv (tB true) Y) (VEv.bool true)) Y Y (VRunD.nil (tn (ct Y (sr (fO (OF.assign (VEv.bool false)) (nt (rt ?_)))))))))))
  refine tr (vb (b':=false) Y ?_)
  (symm;rw [decide_eq_false_iff_not,Qq hx1];rintro ⟨h1,h2,h3⟩;by_cases hk:x1.Kind=1<;>simp only [hk,Jy] at* <;>omega)
 refine VRunD.free Y (VWant.on Y Y (nz fhg15_1)) Y (OF.fieldAddrO (tv (T.op 0 0) Y) Qv) (VRunD.look Y (VWant.on Y Y (nz fhg15_1)) Y (OL.loadO1 (t:=(tI x1.Kind)) (tv (T.op 0 0) Y) Y Y QY) (VRunD.free Y (VWant.on Y Y (nz fhg15_1)) Y (ZU (tv (tI x1.Kind) Y) (VEv.int .i64 1)) (VRunD.free Y (VWant.on Y Y (nz fhg15_1)) Y (OF.fieldAddrO (tv (T.op 0 0) Y) JK) (VRunD.look Y (VWant.on Y Y (nz fhg15_1)) Y (OL.loadO1 (t:=(tS x1.Word)) (tv (T.op 0 1) Y) Y Y st9) (VRunD.quiet (bi:= [8,3,1,0,2,4,9]) Y (VWant.on Y Y (nz fhg15_1)) Y Y Y bn (cS (vc (tv (tS x1.Word) Y) vn) (QR Y) (Z5 (n+0) x1.Word (by exact hw _ (List.mem_of_getElem? hx1))) Y Y) (VRunD.free Y (VWant.on Y Y (nz fhg15_1)) Y (B.bneq U4 (c:=(!((decide (x1.Kind=1)) == (decide (Qr x1.Word))))) (tv (tB (decide (x1.Kind=1))) Y) (tv (tB (decide (Qr x1.Word))) Y) Y) (fD (OF.pickF (VEv.tmpB Y (nz fhg15_1)) (tv (tB (!((decide (x1.Kind=1)) == (decide (Qr x1.Word))))) Y)) Y Y (mD (tB (!((decide (x1.Kind=1)) == (decide (Qr x1.Word))))) Y Y ?_))))))))
 refine Qau (!((decide (x1.Kind=1)) == (decide (Qr x1.Word)))) (fun hg24_2=> ?_) (fun hg24_2=> ?_)
 ·have fhg24_2:(!((decide (x1.Kind=1)) == (decide (Qr x1.Word))))=true:=hg24_2
  refine oD Y Y hg24_2 Y (oD Y Y hg24_2 Y (oD Y Y hg24_2 Y (oD Y Y hg24_2 Y (uD Y Y Y (uD Y Y Y (uD Y Y Y (oD Y Y hg24_2 Y (fD (OF.pickT (VEv.tmpB Y hg24_2) (VEv.bool true)) Y Y (VRunD.nil (tn (ct Y ?_)))))))))))
  refine sr (fO (OF.assign (VEv.bool false)) (nt (rt (tr (vb (b':=false) Y ?_)))))
  (symm;rw [decide_eq_false_iff_not,Qq hx1];rintro ⟨h1,h2,h3⟩;by_cases hk:x1.Kind=1<;>simp only [hk,Jy] at* <;>(simp_all [QO];done))
 have fhg24_2:(!((decide (x1.Kind=1)) == (decide (Qr x1.Word))))=false:=hg24_2
 refine VRunD.free Y (VWant.on Y Y hg24_2) Y (OF.fieldAddrO (tv (T.op 0 0) Y) Qv) (VRunD.look Y (VWant.on Y Y hg24_2) Y (OL.loadO1 (t:=(tI x1.Kind)) (tv (T.op 0 0) Y) Y Y QY) (VRunD.free Y (VWant.on Y Y hg24_2) Y (xne (tv (tI x1.Kind) Y) (VEv.int .i64 1)) (VRunD.free Y (VWant.on Y Y hg24_2) Y (OF.move (tv (tB (!(decide (x1.Kind=1)))) Y)) ?_)))
 refine gn (x1.Kind=1) (fun fhg28_3=> ?_) fun fhg28_3=> ?_
 ·refine VRunD.free Y (VWant.on Y Y (ny fhg28_3)) Y (OF.fieldAddrO (tv (T.op 0 0) Y) JK) ?_
  refine VRunD.look Y (VWant.on Y Y (ny fhg28_3)) Y (OL.loadO1 (t:=(tS x1.Word)) (tv (T.op 0 1) Y) Y Y st9) (VRunD.free Y (VWant.on Y Y (ny fhg28_3)) Y (B.sneq (c:=(!(decide (x1.Word=(⟨#[]⟩:ByteArray))))) (tv (tS x1.Word) Y) (VEv.str (⟨#[]⟩:ByteArray)) Y) (VRunD.free Y (VWant.on Y Y hg24_2) Y (OF.pickT (VEv.tmpB Y (ny fhg28_3)) (tv (tB (!(decide (x1.Word=(⟨#[]⟩:ByteArray))))) Y)) (fD (OF.pickF (VEv.tmpB Y hg24_2) (tv (tB (!(decide (x1.Word=(⟨#[]⟩:ByteArray))))) Y)) Y Y (VRunD.nil (tn ?_)))))
  refine cn (x1.Word=(⟨#[]⟩:ByteArray)) Y (fun fhc0=> ?_) fun fhc0=> ?_
  ·refine sr ?_
   refine fO (OF.assign (VEv.bool false)) (nt (rt (tr (vb (b':=false) Y ?_))))
   (symm;rw [decide_eq_false_iff_not,Qq hx1];rintro ⟨h1,h2,h3⟩;by_cases hk:x1.Kind=1<;>simp only [hk,Jy] at* <;>(simp_all [QO];done))
  refine sk (tn (sr (lf (tI x1.Kind) Y Qv Y Y QY (fO (ZU (tv (tI x1.Kind) Y) (VEv.int .i64 4)) (mO (tB (decide (x1.Kind=4))) Y ?_)))))
  refine gw (x1.Kind=4) (fun fhg37_4=> ?_) fun fhg37_4=> ?_
  ·refine QB 3 3 false 37 (dy fhg37_4) Y Y Y ?_
   refine fO (OF.pickT (VEv.tmpB Y (dy fhg37_4)) (VEv.bool true)) (aO (tB true) Y (nt (sq (sr (lf (tI x1.Kind) Y Qv Y Y QY (fO (ZU (tv (tI x1.Kind) Y) (VEv.int .i64 1)) (nt (cg (dz fhg28_3) Y (sk (tn (sq ?_)))))))))))
   refine sr (lf (tI x1.A) Y QM Y Y QY (mO (tN i) Y (fO (B.sub (n:=(((i:Nat):Int) - 1)) (tv (tN i) Y) (VEv.int .i64 1) (by (rw [Qg (by omega)];done))) (cO (cS (vc (tv (tI x1.A) Y) (vc (VEv.int .i64 0) (vc (tv (tI (((i:Nat):Int) - 1)) Y) vn))) (QR Y) (QS (n+1) x1.A 0 (((i:Nat):Int) - 1)) Y Y) (fO (QZ (tv (tB (decide (0≤x1.A∧x1.A≤(((i:Nat):Int) - 1)))) Y)) (mO (tB (!(decide (0≤x1.A∧x1.A≤(((i:Nat):Int) - 1))))) Y ?_))))))
   refine gn (0≤x1.A∧x1.A≤(((i:Nat):Int) - 1)) (fun fhg59_5=> ?_) fun fhg59_5=> ?_
   ·refine QB 2 6 false 59 (ny fhg59_5) Y Y Y ?_
    refine JY 6 8 true 61 Y Y Y (oO Y Y (ny fhg59_5) (fO (OF.pickT (VEv.tmpB Y (ny fhg59_5)) (VEv.bool true)) (mO (tB true) Y (QB 3 17 false 70 (b:=true) Y Y Y Y (JY 3 20 true 73 Y Y Y (VRunO.off (VWant.not (b:=true) Y Y Y) (fO (OF.pickT (tv (tB true) Y) (VEv.bool true)) (nt (ct Y (sr (fO (OF.assign (VEv.bool false)) ?_)))))))))))
    refine nt (rt (tr (vb (b':=false) Y ?_)))
    (symm;rw [decide_eq_false_iff_not,Qq hx1];rintro ⟨h1,h2,h3⟩;by_cases hk:x1.Kind=1<;>simp only [hk,Jy] at* <;>first | omega | (simp_all [QO];omega))
   refine gF (nz fhg59_5) Y Y (OF.move (tv (tB true) Y)) (gF (nz fhg59_5) Y Y (OF.move (tv (tB true) Y)) (VRunO.free (VWant.on (b:=true) Y Y Y) (OF.fieldAddrO (tv (T.op 0 0) Y) Zd) (VRunO.look (VWant.on (b:=true) Y Y Y) (OL.loadO1 (t:=(tI x1.B)) (tv (T.op 0 3) Y) Y Y QY) (VRunO.free (VWant.on (b:=true) Y Y Y) (OF.move (tv (tN i) Y)) (VRunO.free (VWant.on (b:=true) Y Y Y) (B.sub (n:=(((i:Nat):Int) - 1)) (tv (tN i) Y) (VEv.int .i64 1) (by (rw [Qg (by omega)];done))) (VRunO.chain (VWant.on (b:=true) Y Y Y) (cS (vc (tv (tI x1.B) Y) (vc (VEv.int .i64 0) (vc (tv (tI (((i:Nat):Int) - 1)) Y) vn))) (QR Y) (QS (n+1) x1.B 0 (((i:Nat):Int) - 1)) Y Y) (VRunO.free (VWant.on (b:=true) Y Y Y) (QZ (tv (tB (decide (0≤x1.B∧x1.B≤(((i:Nat):Int) - 1)))) Y)) (gF (nz fhg59_5) Y Y (OF.pickT (tv (tB true) Y) (tv (tB (!(decide (0≤x1.B∧x1.B≤(((i:Nat):Int) - 1))))) Y)) (fO (OF.pickF (VEv.tmpB Y (nz fhg59_5)) (tv (tB (!(decide (0≤x1.B∧x1.B≤(((i:Nat):Int) - 1))))) Y)) (mO (tB (!(decide (0≤x1.B∧x1.B≤(((i:Nat):Int) - 1))))) Y ?_))))))))))
   refine gn (0≤x1.B∧x1.B≤(((i:Nat):Int) - 1)) (fun fhg70_6=> ?_) fun fhg70_6=> ?_
   ·refine QB 3 17 false 70 (ny fhg70_6) Y Y Y ?_
    refine JY 3 20 true 73 Y Y Y (oO Y Y (ny fhg70_6) (fO (OF.pickT (VEv.tmpB Y (ny fhg70_6)) (VEv.bool true)) (nt (ct Y (sr (fO (OF.assign (VEv.bool false)) (nt (rt (tr (vb (b':=false) Y ?_))))))))))
    (symm;rw [decide_eq_false_iff_not,Qq hx1];rintro ⟨h1,h2,h3⟩;by_cases hk:x1.Kind=1<;>simp only [hk,Jy] at* <;>first | omega | (simp_all [QO];omega))
   refine gF (nz fhg70_6) Y Y (OF.move (tv (tB true) Y)) (gF (nz fhg70_6) Y Y (B.not (c:=false) (tv (tB true) Y) Y) (gF (nz fhg70_6) Y Y (OF.move (tv (tB false) Y)) (QB 3 20 true 73 (b:=false) Y Y Y Y (gF (nz fhg70_6) Y Y (OF.pickF (tv (tB false) Y) (VEv.bool false)) (fO (OF.pickF (VEv.tmpB Y (nz fhg70_6)) (tv (tB false) Y)) (nt (cf Y (sk (tn (sr (mO (tB true) Y ?_)))))))))))
   refine mO (tB true) Y (QB 3 1 false 80 (b:=true) Y Y Y Y (fO (OF.pickT (tv (tB true) Y) (VEv.bool true)) (mO (tB true) Y (QB 7 6 false 85 (b:=true) Y Y Y Y (fO (OF.pickT (tv (tB true) Y) (VEv.bool true)) (aO (tB true) Y (nt (rt (vb (b':=true) Y ?_)))))))))
   (symm;rw [decide_eq_true_eq,Qq hx1];refine ⟨by omega,fun hk=> ?_,fun hk=> ?_⟩<;>first | (exfalso;omega) | (simp_all [Jy,QO];omega))
  refine JZ (tI x1.Kind) (dz fhg37_4) Y Y Y Y Qv Y Y QY (gF (dz fhg37_4) Y Y (ZU (tv (tI x1.Kind) Y) (VEv.int .i64 5)) (fO (OF.pickF (VEv.tmpB Y (dz fhg37_4)) (tv (tB (decide (x1.Kind=5))) Y)) (aO (tB (decide (x1.Kind=5))) Y (nt (sq (sr (lf (tI x1.Kind) Y Qv Y Y QY (fO (ZU (tv (tI x1.Kind) Y) (VEv.int .i64 1)) (nt (cg (dz fhg28_3) Y (sk ?_)))))))))))
  refine tn (sq (sr (lf (tI x1.A) Y QM Y Y QY (mO (tN i) Y (fO (B.sub (n:=(((i:Nat):Int) - 1)) (tv (tN i) Y) (VEv.int .i64 1) (by (rw [Qg (by omega)];done))) (cO (cS (vc (tv (tI x1.A) Y) (vc (VEv.int .i64 0) (vc (tv (tI (((i:Nat):Int) - 1)) Y) vn))) (QR Y) (QS (n+1) x1.A 0 (((i:Nat):Int) - 1)) Y Y) (fO (QZ (tv (tB (decide (0≤x1.A∧x1.A≤(((i:Nat):Int) - 1)))) Y)) (mO (tB (!(decide (0≤x1.A∧x1.A≤(((i:Nat):Int) - 1))))) Y ?_))))))))
  refine gn (0≤x1.A∧x1.A≤(((i:Nat):Int) - 1)) (fun fhg59_7=> ?_) fun fhg59_7=> ?_
  ·refine QB 2 6 false 59 (ny fhg59_7) Y Y Y ?_
   refine JY 6 8 true 61 Y Y Y (oO Y Y (ny fhg59_7) (fO (OF.pickT (VEv.tmpB Y (ny fhg59_7)) (VEv.bool true)) (mO (tB true) Y (QB 3 17 false 70 (b:=true) Y Y Y Y (JY 3 20 true 73 Y Y Y (VRunO.off (VWant.not (b:=true) Y Y Y) (fO (OF.pickT (tv (tB true) Y) (VEv.bool true)) (nt (ct Y (sr (fO (OF.assign (VEv.bool false)) ?_)))))))))))
   refine nt (rt (tr (vb (b':=false) Y ?_)))
   (symm;rw [decide_eq_false_iff_not,Qq hx1];rintro ⟨h1,h2,h3⟩;by_cases hk:x1.Kind=1<;>simp only [hk,Jy] at* <;>first | (simp_all [QO];done) | (simp_all [QO];omega))
  refine gF (nz fhg59_7) Y Y (OF.move (tv (tB (decide (x1.Kind=5))) Y)) (gF (nz fhg59_7) Y Y (OF.move (tv (tB (decide (x1.Kind=5))) Y)) ?_)
  refine gw (x1.Kind=5) (fun fhg61_8=> ?_) fun fhg61_8=> ?_
  ·refine JZ (tI x1.B) (dy fhg61_8) Y Y Y Y Zd Y Y QY ?_
   refine gF (dy fhg61_8) Y Y (OF.move (tv (tN i) Y)) (gF (dy fhg61_8) Y Y (B.sub (n:=(((i:Nat):Int) - 1)) (tv (tN i) Y) (VEv.int .i64 1) (by (rw [Qg (by omega)];done))) (VRunO.chain (VWant.on Y Y (dy fhg61_8)) (cS (vc (tv (tI x1.B) Y) (vc (VEv.int .i64 0) (vc (tv (tI (((i:Nat):Int) - 1)) Y) vn))) (QR Y) (QS (n+1) x1.B 0 (((i:Nat):Int) - 1)) Y Y) (gF (dy fhg61_8) Y Y (QZ (tv (tB (decide (0≤x1.B∧x1.B≤(((i:Nat):Int) - 1)))) Y)) (gF (nz fhg59_7) Y Y (OF.pickT (VEv.tmpB Y (dy fhg61_8)) (tv (tB (!(decide (0≤x1.B∧x1.B≤(((i:Nat):Int) - 1))))) Y)) (fO (OF.pickF (VEv.tmpB Y (nz fhg59_7)) (tv (tB (!(decide (0≤x1.B∧x1.B≤(((i:Nat):Int) - 1))))) Y)) (mO (tB (!(decide (0≤x1.B∧x1.B≤(((i:Nat):Int) - 1))))) Y ?_))))))
   refine gn (0≤x1.B∧x1.B≤(((i:Nat):Int) - 1)) (fun fhg70_9=> ?_) fun fhg70_9=> ?_
   ·refine QB 3 17 false 70 (ny fhg70_9) Y Y Y ?_
    refine JY 3 20 true 73 Y Y Y (oO Y Y (ny fhg70_9) (fO (OF.pickT (VEv.tmpB Y (ny fhg70_9)) (VEv.bool true)) (nt (ct Y (sr (fO (OF.assign (VEv.bool false)) (nt (rt (tr (vb (b':=false) Y ?_))))))))))
    (symm;rw [decide_eq_false_iff_not,Qq hx1];rintro ⟨h1,h2,h3⟩;by_cases hk:x1.Kind=1<;>simp only [hk,Jy] at* <;>first | omega | (simp_all [QO];omega))
   refine gF (nz fhg70_9) Y Y (OF.move (tv (tB (decide (x1.Kind=5))) Y)) (gF (nz fhg70_9) Y Y (QZ (tv (tB (decide (x1.Kind=5))) Y)) (gF (nz fhg70_9) Y Y (OF.move (tv (tB (!(decide (x1.Kind=5)))) Y)) (QB 3 20 true 73 (nkT (dy fhg61_8)) Y Y Y (gF (nz fhg70_9) Y Y (OF.pickF (VEv.tmpB Y (nkT (dy fhg61_8))) (VEv.bool false)) (fO (OF.pickF (VEv.tmpB Y (nz fhg70_9)) (tv (tB false) Y)) (nt (cf Y (sk (tn (sr (mO (tB (decide (x1.Kind=5))) Y ?_)))))))))))
   refine mO (tB (decide (x1.Kind=5))) Y (QB 3 1 false 80 (dy fhg61_8) Y Y Y (fO (OF.pickT (VEv.tmpB Y (dy fhg61_8)) (VEv.bool true)) (mO (tB true) Y (QB 7 6 false 85 (b:=true) Y Y Y Y (fO (OF.pickT (tv (tB true) Y) (VEv.bool true)) (aO (tB true) Y (nt (rt (vb (b':=true) Y ?_)))))))))
   (symm;rw [decide_eq_true_eq,Qq hx1];refine ⟨by omega,fun hk=> ?_,fun hk=> ?_⟩<;>first | (exfalso;omega) | (simp_all [Jy,QO];omega))
  refine QB 6 8 true 61 (dz fhg61_8) Y Y Y (gF (nz fhg59_7) Y Y (OF.pickF (VEv.tmpB Y (dz fhg61_8)) (VEv.bool false)) (fO (OF.pickF (VEv.tmpB Y (nz fhg59_7)) (tv (tB false) Y)) (mO (tB false) Y (VRunO.free (VWant.on (b:=false) Y Y Y) (OF.move (tv (tB (decide (x1.Kind=5))) Y)) (VRunO.free (VWant.on (b:=false) Y Y Y) (QZ (tv (tB (decide (x1.Kind=5))) Y)) (VRunO.free (VWant.on (b:=false) Y Y Y) (OF.move (tv (tB (!(decide (x1.Kind=5)))) Y)) (JZ (tI x1.B) (nkF (dz fhg61_8)) Y Y Y Y Zd Y Y QY (gF (nkF (dz fhg61_8)) Y Y (xne (tv (tI x1.B) Y) (VEv.int .i64 0)) (VRunO.free (VWant.on (b:=false) Y Y Y) (OF.pickT (VEv.tmpB Y (nkF (dz fhg61_8))) (tv (tB (!(decide (x1.B=0)))) Y)) (fO (OF.pickF (tv (tB false) Y) (tv (tB (!(decide (x1.B=0)))) Y)) (nt ?_)))))))))))
  refine cn (x1.B=0) Y (fun fhc2=> ?_) fun fhc2=> ?_
  ·refine sr ?_
   refine fO (OF.assign (VEv.bool false)) (nt (rt (tr (vb (b':=false) Y ?_))))
   (symm;rw [decide_eq_false_iff_not,Qq hx1];rintro ⟨h1,h2,h3⟩;by_cases hk:x1.Kind=1<;>simp only [hk,Jy] at* <;>(simp_all [QO];done))
  refine sk (tn (sr (mO (tB (decide (x1.Kind=5))) Y (mO (tB (decide (x1.Kind=5))) Y (JZ (tI x1.Kind) (dz fhg61_8) Y Y Y Y Qv Y Y QY (gF (dz fhg61_8) Y Y (ZU (tv (tI x1.Kind) Y) (VEv.int .i64 2)) (fO (OF.pickF (VEv.tmpB Y (dz fhg61_8)) (tv (tB (decide (x1.Kind=2))) Y)) (mO (tB (decide (x1.Kind=2))) Y ?_))))))))
  refine gw (x1.Kind=2) (fun fhg85_10=> ?_) fun fhg85_10=> ?_
  ·refine QB 7 6 false 85 (dy fhg85_10) Y Y Y ?_
   refine fO (OF.pickT (VEv.tmpB Y (dy fhg85_10)) (VEv.bool true)) (aO (tB true) Y (nt (rt (vb (b':=true) Y ?_))))
   (symm;rw [decide_eq_true_eq,Qq hx1];refine ⟨by omega,fun hk=> ?_,fun hk=> ?_⟩<;>first | (exfalso;omega) | (simp_all [Jy,QO];omega))
  refine gF (dz fhg85_10) Y Y (OF.move (tv (rd 4 Qb a) Y)) (JZ (tI x1.A) (dz fhg85_10) Y Y Y Y QM Y Y QY ?_)
  obtain ⟨x2,hx2⟩:∃x,a[(Int.toNat x1.A)]? =some x:=⟨_,List.getElem?_eq_getElem (by omega)⟩
  refine gF (dz fhg85_10) Y Y (OF.indexAddrR (row:=(Qb false x2)) (i:=(Int.toNat x1.A)) (tv (rd 4 Qb a) Y) (tv (tI x1.A) Y) (by omega) (Qs _ hx2) ZQ Qy Ze) (glr (tI x2.Kind) (dz fhg85_10) Y Y Y Y (lb Y) Qv Y QY (gF (dz fhg85_10) Y Y (ZU (tv (tI x2.Kind) Y) (VEv.int .i64 1)) (fO (OF.pickF (VEv.tmpB Y (dz fhg85_10)) (tv (tB (decide (x2.Kind=1))) Y)) (aO (tB (decide (x2.Kind=1))) Y (nt (rt (vb (b':=(decide (x2.Kind=1))) Y ?_)))))))
  (refine Qg2 hx1 hx2 ?_ ?_ ?_ ?_ ?_ ?_ ?_<;>first | assumption | omega | (simp only [Jy];omega))
 refine oD Y Y (nz fhg28_3) Y (oD Y Y (nz fhg28_3) Y (oD Y Y (nz fhg28_3) Y (VRunD.free Y (VWant.on Y Y hg24_2) Y (OF.pickF (VEv.tmpB Y (nz fhg28_3)) (VEv.bool false)) (fD (OF.pickF (VEv.tmpB Y hg24_2) (tv (tB false) Y)) Y Y (VRunD.nil (tn (cf Y (sk (tn (sr (lf (tI x1.Kind) Y Qv Y Y QY ?_)))))))))))
 refine fO (ZU (tv (tI x1.Kind) Y) (VEv.int .i64 4)) (mO (tB (decide (x1.Kind=4))) Y ?_)
 refine gw (x1.Kind=4) (fun fhg37_11=> ?_) fun fhg37_11=> ?_
 ·refine QB 3 3 false 37 (dy fhg37_11) Y Y Y ?_
  refine fO (OF.pickT (VEv.tmpB Y (dy fhg37_11)) (VEv.bool true)) (aO (tB true) Y (nt (sq (sr (lf (tI x1.Kind) Y Qv Y Y QY (fO (ZU (tv (tI x1.Kind) Y) (VEv.int .i64 1)) (nt (ck (dy fhg28_3) Y (sr (lf (tI x1.A) Y QM Y Y QY (fO (ZU (tv (tI x1.A) Y) (VEv.int .i64 0)) ?_)))))))))))
  refine mO (tB (decide (x1.A=0))) Y ?_
  refine gw (x1.A=0) (fun fhg48_12=> ?_) fun fhg48_12=> ?_
  ·refine JZ (tI x1.B) (dy fhg48_12) Y Y Y Y Zd Y Y QY ?_
   refine gF (dy fhg48_12) Y Y (ZU (tv (tI x1.B) Y) (VEv.int .i64 0)) (fO (OF.pickT (VEv.tmpB Y (dy fhg48_12)) (tv (tB (decide (x1.B=0))) Y)) (aO (tB (decide (x1.B=0))) Y (nt (rt (tr (vb (b':=(decide (x1.B=0))) Y ?_))))))
   (exfalso;omega)
  refine QB 3 3 true 48 (dz fhg48_12) Y Y Y (fO (OF.pickF (VEv.tmpB Y (dz fhg48_12)) (VEv.bool false)) (aO (tB false) Y (nt (rt (tr (vb (b':=false) Y ?_))))))
  (exfalso;omega)
 refine JZ (tI x1.Kind) (dz fhg37_11) Y Y Y Y Qv Y Y QY (gF (dz fhg37_11) Y Y (ZU (tv (tI x1.Kind) Y) (VEv.int .i64 5)) (fO (OF.pickF (VEv.tmpB Y (dz fhg37_11)) (tv (tB (decide (x1.Kind=5))) Y)) (aO (tB (decide (x1.Kind=5))) Y (nt (sq (sr (lf (tI x1.Kind) Y Qv Y Y QY (fO (ZU (tv (tI x1.Kind) Y) (VEv.int .i64 1)) (nt (ck (dy fhg28_3) Y (sr ?_)))))))))))
 refine lf (tI x1.A) Y QM Y Y QY (fO (ZU (tv (tI x1.A) Y) (VEv.int .i64 0)) (mO (tB (decide (x1.A=0))) Y ?_))
 refine gw (x1.A=0) (fun fhg48_13=> ?_) fun fhg48_13=> ?_
 ·refine JZ (tI x1.B) (dy fhg48_13) Y Y Y Y Zd Y Y QY ?_
  refine gF (dy fhg48_13) Y Y (ZU (tv (tI x1.B) Y) (VEv.int .i64 0)) (fO (OF.pickT (VEv.tmpB Y (dy fhg48_13)) (tv (tB (decide (x1.B=0))) Y)) (aO (tB (decide (x1.B=0))) Y (nt (rt (tr (vb (b':=(decide (x1.B=0))) Y ?_))))))
  (refine Qha hx1 ?_ ?_ ?_ ?_<;>first | assumption | (simp_all;done))
 refine QB 3 3 true 48 (dz fhg48_13) Y Y Y (fO (OF.pickF (VEv.tmpB Y (dz fhg48_13)) (VEv.bool false)) (aO (tB false) Y (nt (rt (tr (vb (b':=false) Y ?_))))))
 (symm;rw [decide_eq_false_iff_not,Qq hx1];rintro ⟨h1,h2,h3⟩;by_cases hk:x1.Kind=1<;>simp only [hk,Jy] at* <;>(simp_all [QO];done))
theorem J3 (n:Nat) (a:List D.Step) (hz:zL Zy a≤mx):Pure (Qm Tryd.prog (n+4)) 38 [(rd 4 Qb a)] (tB (decide (Qp a))):=by
 refine Pure.intro (rs:= [ResultVar.tmp 2]) Tryd.func38 Y Y Y (E0:= [(0,(rd 4 Qb a))]) Y ?_
 obtain ⟨hlim,hmx,hmax⟩:=QG
 have ha:=JD (z:=Zy) a
 refine sr (fO (OF.assign (VEv.bool false)) (nt (sq (sr (fO (OF.assign (VEv.int .i64 0)) (nt (VRun.block ?_)))))))
 refine VRun.loop (A:=Nat) (fun s_=> [(0,(rd 4 Qb a)),(3,(tN s_))]) (fun s_=>ZR []) 0 (fun s_=>s_≤a.length∧∀j,j<s_→Yi a j) (fun s_=>a.length - s_) (0:Nat) ?_ (Wk.mk (fun k=>k) ?_ ?_ ?_) ?_
 ·exact ⟨Nat.zero_le _,fun j hj=>by omega⟩
 ·exact (b2 (b2 bn))
 ·exact bn
 ·exact nd Y
 rintro i (hI':i≤a.length∧∀j,j<i→Yi a j)
 show VRun _ _ _ [(0,(rd 4 Qb a)),(3,(tN i))] (ZR []) 0 _
 have hI0:=hI'
 refine sq (sr (mO (tN i) Y (mO (rd 4 Qb a) Y (lO (B.lenR (m:=a.length) (tv (rd 4 Qb a) Y) ZQ (List.length_map ..)) (fO (Yr (tv (tN i) Y) (tv (tN a.length) Y)) (mO (tB (decide (i<a.length))) Y ?_))))))
 refine gw (i<a.length) (fun fhg8_1=> ?_) fun fhg8_1=> ?_
 ·refine gF (dy fhg8_1) Y Y (OF.move (tv (rd 4 Qb a) Y)) ?_
  refine gL (dy fhg8_1) Y Y (B.lenR (m:=a.length) (tv (rd 4 Qb a) Y) ZQ (List.length_map ..)) (gF (dy fhg8_1) Y Y (B.leq (c:=(decide (a.length≤9))) (tv (tN a.length) Y) (VEv.int .i64 9) (Zp (by omega))) (fO (OF.pickT (VEv.tmpB Y (dy fhg8_1)) (tv (tB (decide (a.length≤9))) Y)) (nt ?_)))
  refine cd (a.length≤9) Y (fun fhc0=> ?_) fun fhc0=> ?_
  ·refine sk ?_
   refine tn (sq (VRun.block (sr (mO (rd 4 Qb a) Y (mO (tN i) Y (cO (cS (vc (tv (rd 4 Qb a) Y) (vc (tv (tN i) Y) vn)) (QR Y) (QcW (n+0) a i (by assumption) (by assumption)) Y Y) (fO (QZ (tv (tB (decide (Yi a i))) Y)) (nt ?_))))))))
   refine cn (Yi a i) Y (fun fhc1=> ?_) fun fhc1=> ?_
   ·refine sr ?_
    refine fO (OF.assign (VEv.bool false)) (nt (rt (vinB.r (tr (tr (vinB.r (tr (vb (b':=false) Y ?_))))))))
    (symm;rw [decide_eq_false_iff_not];rintro ⟨h1,h2⟩;exact absurd (h2 i (by omega)) (by assumption))
   refine sk (vinB.n (tn (VRun.region (mO (tN i) Y (fO (Zu (tv (tN i) Y) (VEv.int .i64 1) (by omega)) (aO (tN (i+1)) Y (VRunO.nil (tn ?_))))))))
   refine ⟨(i+1:Nat),?_,?_,Wk.mk (fun k=>k) ?_ ?_ ?_⟩
   ·exact YL hI0 (by omega) (by assumption)
   ·omega
   ·exact (b2 (b2 bn))
   ·exact bn
   ·exact nd Y
  refine VRun.exit (vthn.e (vthn.e (vinB.e (tn (sr (mO (rd 4 Qb a) Y (lO (B.lenR (m:=a.length) (tv (rd 4 Qb a) Y) ZQ (List.length_map ..)) (cO (cS (vc (tv (tN a.length) Y) (vc (VEv.int .i64 1) (vc (VEv.int .i64 9) vn))) (QR Y) (QS (n+2) ((a.length:Nat):Int) 1 9) Y Y) (aO (tB (decide (1≤((a.length:Nat):Int)∧((a.length:Nat):Int)≤9))) Y (nt (rt ?_)))))))))))
  refine vb (b':=(decide (1≤((a.length:Nat):Int)∧((a.length:Nat):Int)≤9))) Y ?_
  (refine Zp ⟨fun h=>⟨by omega,QbC hI' (by omega)⟩,fun h=>by have:=h.1;omega⟩)
 refine QB 3 4 true 8 (dz fhg8_1) Y Y Y (fO (OF.pickF (VEv.tmpB Y (dz fhg8_1)) (VEv.bool false)) (nt (cf Y (VRun.exit (vthn.e (vthn.e (vinB.e (tn (sr (mO (rd 4 Qb a) Y (lO (B.lenR (m:=a.length) (tv (rd 4 Qb a) Y) ZQ (List.length_map ..)) ?_)))))))))))
 refine cO (cS (vc (tv (tN a.length) Y) (vc (VEv.int .i64 1) (vc (VEv.int .i64 9) vn))) (QR Y) (QS (n+2) ((a.length:Nat):Int) 1 9) Y Y) (aO (tB (decide (1≤((a.length:Nat):Int)∧((a.length:Nat):Int)≤9))) Y (nt (rt (vb (b':=(decide (1≤((a.length:Nat):Int)∧((a.length:Nat):Int)≤9))) Y ?_))))
 (refine Zp ⟨fun h=>⟨by omega,QbC hI' (by omega)⟩,fun h=>by have:=h.1;omega⟩)
theorem J2 (n:Nat) (a:List D.Step) (hz:zL Zy a≤mx):Pure (Qm Tryd.prog (n+3)) 36 [(rd 4 Qb a)] (tB (decide (Qp a))):=by
 refine Pure.intro (rs:= [ResultVar.tmp 2]) Tryd.func36 Y Y Y (E0:= [(0,(rd 4 Qb a))]) Y ?_
 obtain ⟨hlim,hmx,hmax⟩:=QG
 have ha:=JD (z:=Zy) a
 have hw:∀x∈a,x.Word.size≤maxLen:=fun x hx=>by have h1:=Qfr (z:=Zy) hx;simp only [Zy] at h1;omega
 refine sr (fO (OF.assign (VEv.bool false)) (nt (sq (sr (mO (rd 4 Qb a) Y (lO (B.lenR (m:=a.length) (tv (rd 4 Qb a) Y) ZQ (List.length_map ..)) (cO (cS (vc (tv (tN a.length) Y) (vc (VEv.int .i64 1) (vc (VEv.int .i64 9) vn))) (QR Y) (Zk (n+1) ((a.length:Nat):Int) 1 9) Y Y) (fO (QZ (tv (tB (decide (1≤((a.length:Nat):Int)∧((a.length:Nat):Int)≤9))) Y)) (nt ?_)))))))))
 refine cn (1≤((a.length:Nat):Int)∧((a.length:Nat):Int)≤9) Y (fun fhc0=> ?_) fun fhc0=> ?_
 ·refine sr ?_
  refine fO (OF.assign (VEv.bool false)) (nt (rt (tr (vb (b':=false) Y ?_))))
  (symm;rw [decide_eq_false_iff_not];rintro ⟨h1,h2⟩;(exfalso;omega))
 refine sk (tn (sq (sr (mO (rd 4 Qb a) Y (lO (B.lenR (m:=a.length) (tv (rd 4 Qb a) Y) ZQ (List.length_map ..)) (fO (OF.move (VEv.int .i64 0)) (nt (VRun.block ?_))))))))
 refine VRun.loop (A:=Nat) (fun s_=> [(0,(rd 4 Qb a)),(9,(rd 4 Qb a)),(10,(tN a.length)),(11,(tN s_))]) (fun s_=>ZR []) 0 (fun s_=>s_≤a.length∧∀j,j<s_→Yi a j) (fun s_=>a.length - s_) (0:Nat) ?_ (Wk.mk (fun k=>k) ?_ ?_ ?_) ?_
 ·exact ⟨Nat.zero_le _,fun j hj=>by omega⟩
 ·exact (b2 (b2 (b2 (b2 bn))))
 ·exact bn
 ·exact nd Y
 rintro i (hI':i≤a.length∧∀j,j<i→Yi a j)
 show VRun _ _ _ [(0,(rd 4 Qb a)),(9,(rd 4 Qb a)),(10,(tN a.length)),(11,(tN i))] (ZR []) 0 _
 have hI0:=hI'
 refine sr (fO (Yr (tv (tN i) Y) (tv (tN a.length) Y)) (nt (sq ?_)))
 refine cd (i<a.length) Y (fun fhc1=> ?_) fun fhc1=> ?_
 ·refine sk ?_
  refine tn (sq (VRun.block (sr (mO (tN i) Y ?_))))
  obtain ⟨x1,hx1⟩:∃x,a[i]? =some x:=⟨_,List.getElem?_eq_getElem (by omega)⟩
  refine fO (OF.indexAddrR (row:=(Qb false x1)) (i:=i) (tv (rd 4 Qb a) Y) (tv (tN i) Y) Y (Qs _ hx1) ZQ Qy Ze) (lO (OL.loadRn (us:=(Qb false x1)) (tv (T.rp (Qb false x1)) Y) Zs Qy (lb Y) Y) (kO (B.alloc (t:=(T.agg [(tN 0),(tS ByteArray.empty),(tN 0),(tN 0)])) (ts:= [(tN 0),(tS ByteArray.empty),(tN 0),(tN 0)]) Yb Qez nofun (fun _=> .agg _ _ Y (Ys (RL.cons (.int _ _) (RL.cons (.str _) (RL.cons (.int _ _) (RL.cons (.int _ _) (RL.nil _))))))) Y) (aO (tN i) Y (cO (B.storeW (us:=(Qb false x1)) (tv (T.op 0 0) Y) (tv (T.agg (Qb false x1)) Y) nofun Y Y Y Ze Qy (bc Y (bc Y (bc Y (bc Y bn))))) (nt (sq (sr (lf (tI x1.Kind) Y Qv Y Y QY (cO (cS (vc (tv (tI x1.Kind) Y) (vc (VEv.int .i64 1) (vc (VEv.int .i64 9) vn))) (QR Y) (Zk (n+1) x1.Kind 1 9) Y Y) (fO (QZ (tv (tB (decide (1≤x1.Kind∧x1.Kind≤9))) Y)) (nt ?_)))))))))))
  refine cn (1≤x1.Kind∧x1.Kind≤9) Y (fun fhc2=> ?_) fun fhc2=> ?_
  ·refine sr ?_
   refine fO (OF.assign (VEv.bool false)) (nt (rt (tr (vinB.r (tr (tr (vinB.r (tr (vb (b':=false) Y ?_)))))))))
   (symm;rw [decide_eq_false_iff_not];rintro ⟨h1,h2⟩;(have h3:=(Qq hx1).1 (h2 i fhc1);obtain ⟨h4,h5,h6⟩:=h3;simp only [Jy] at h6;omega))
  refine sk (tn (sq (sr (lf (tI x1.Kind) Y Qv Y Y QY (fO (ZU (tv (tI x1.Kind) Y) (VEv.int .i64 1)) (nt ?_))))))
  refine cd (x1.Kind=1) Y (fun fhc3=> ?_) fun fhc3=> ?_
  ·refine sq ?_
   refine sr (lf (tS x1.Word) Y JK Y Y st9 (cO (cS (vc (tv (tS x1.Word) Y) vn) (QR Y) (Z3 (n+0) x1.Word (by exact hw _ (List.mem_of_getElem? hx1))) Y Y) (fO (QZ (tv (tB (decide (Qr x1.Word))) Y)) (mO (tB (!(decide (Qr x1.Word)))) Y ?_))))
   refine gn (Qr x1.Word) (fun fhg27_1=> ?_) fun fhg27_1=> ?_
   ·refine QB 3 4 false 27 (ny fhg27_1) Y Y Y ?_
    refine fO (OF.pickT (VEv.tmpB Y (ny fhg27_1)) (VEv.bool true)) (mO (tB true) Y (QB 3 9 false 32 (b:=true) Y Y Y Y (fO (OF.pickT (tv (tB true) Y) (VEv.bool true)) (nt (ct Y (sr (fO (OF.assign (VEv.bool false)) (nt (rt (tr (tr ?_)))))))))))
    refine vinB.r (tr (tr (vinB.r (tr (vb (b':=false) Y ?_)))))
    (symm;rw [decide_eq_false_iff_not];rintro ⟨h1,h2⟩;(have h3:=(Qq hx1).1 (h2 i fhc1);obtain ⟨h4,h5,h6⟩:=h3;simp only [Jy] at h6;(by_cases hk:x1.Kind=1<;>simp_all<;>omega)))
   refine JZ (tI x1.A) (nz fhg27_1) Y Y Y Y QM Y Y QY (gF (nz fhg27_1) Y Y (xne (tv (tI x1.A) Y) (VEv.int .i64 0)) (fO (OF.pickF (VEv.tmpB Y (nz fhg27_1)) (tv (tB (!(decide (x1.A=0)))) Y)) (mO (tB (!(decide (x1.A=0)))) Y ?_)))
   refine gn (x1.A=0) (fun fhg32_2=> ?_) fun fhg32_2=> ?_
   ·refine QB 3 9 false 32 (ny fhg32_2) Y Y Y ?_
    refine fO (OF.pickT (VEv.tmpB Y (ny fhg32_2)) (VEv.bool true)) (nt (ct Y (sr (fO (OF.assign (VEv.bool false)) (nt (rt (tr (tr (vinB.r (tr (tr ?_)))))))))))
    refine vinB.r (tr (vb (b':=false) Y ?_))
    (symm;rw [decide_eq_false_iff_not];rintro ⟨h1,h2⟩;(have h3:=(Qq hx1).1 (h2 i fhc1);obtain ⟨h4,h5,h6⟩:=h3;simp only [Jy] at h6;omega))
   refine JZ (tI x1.B) (nz fhg32_2) Y Y Y Y Zd Y Y QY (gF (nz fhg32_2) Y Y (xne (tv (tI x1.B) Y) (VEv.int .i64 0)) (fO (OF.pickF (VEv.tmpB Y (nz fhg32_2)) (tv (tB (!(decide (x1.B=0)))) Y)) (nt ?_)))
   refine cn (x1.B=0) Y (fun fhc4=> ?_) fun fhc4=> ?_
   ·refine sr ?_
    refine fO (OF.assign (VEv.bool false)) (nt (rt (tr (tr (vinB.r (tr (tr (vinB.r (tr (vb (b':=false) Y ?_))))))))))
    (symm;rw [decide_eq_false_iff_not];rintro ⟨h1,h2⟩;(have h3:=(Qq hx1).1 (h2 i fhc1);obtain ⟨h4,h5,h6⟩:=h3;simp only [Jy] at h6;omega))
   refine sk (tn (VRun.exit (vthn.e (vinB.e (tn (VRun.region (fO (Zu (tv (tN i) Y) (VEv.int .i64 1) (by omega)) (mO (tN (i+1)) Y (VRunO.nil (tn ?_))))))))))
   refine ⟨(i+1:Nat),?_,?_,Wk.mk (fun k=>k) ?_ ?_ ?_⟩
   ·refine YL hI0 fhc1 ((Qq hx1).2 ?_)
    simp only [Qa5,Jy]
    refine ⟨by omega,fun hk=> ?_,fun hk=> ?_⟩
    ·(refine ⟨?_,?_,?_⟩<;>assumption)
    ·(exfalso;omega)
   ·omega
   ·exact (b2 (b2 (b2 (b2 bn))))
   ·exact bn
   ·exact nd Y
  refine sk (tn (sq (sr (lf (tS x1.Word) Y JK Y Y st9 (fO (B.sneq (c:=(!(decide (x1.Word=(⟨#[]⟩:ByteArray))))) (tv (tS x1.Word) Y) (VEv.str (⟨#[]⟩:ByteArray)) Y) (mO (tB (!(decide (x1.Word=(⟨#[]⟩:ByteArray))))) Y ?_))))))
  refine gn (x1.Word=(⟨#[]⟩:ByteArray)) (fun fhg40_3=> ?_) fun fhg40_3=> ?_
  ·refine QB 5 3 false 40 (ny fhg40_3) Y Y Y ?_
   refine fO (OF.pickT (VEv.tmpB Y (ny fhg40_3)) (VEv.bool true)) (mO (tB true) Y (QB 4 10 false 47 (b:=true) Y Y Y Y (JY 7 14 true 51 Y Y Y (VRunO.off (VWant.not (b:=true) Y Y Y) (fO (OF.pickT (tv (tB true) Y) (VEv.bool true)) (nt (ct Y (sr (fO (OF.assign (VEv.bool false)) (nt (rt ?_)))))))))))
   refine tr (vinB.r (tr (tr (vinB.r (tr (vb (b':=false) Y ?_))))))
   (symm;rw [decide_eq_false_iff_not];rintro ⟨h1,h2⟩;(have h3:=(Qq hx1).1 (h2 i fhc1);obtain ⟨h4,h5,h6⟩:=h3;simp only [Jy] at h6;(by_cases hk:x1.Kind=1<;>simp_all<;>omega)))
  refine JZ (tI x1.A) (nz fhg40_3) Y Y Y Y QM Y Y QY (gF (nz fhg40_3) Y Y (OF.move (tv (tN i) Y)) (VRunO.chain (VWant.on Y Y (nz fhg40_3)) (cS (vc (tv (tI x1.A) Y) (vc (tv (tN i) Y) vn)) (QR Y) (Ja (n+1) x1.A ((i:Nat):Int)) Y Y) (gF (nz fhg40_3) Y Y (QZ (tv (tB (decide (0≤x1.A∧x1.A<((i:Nat):Int)))) Y)) (fO (OF.pickF (VEv.tmpB Y (nz fhg40_3)) (tv (tB (!(decide (0≤x1.A∧x1.A<((i:Nat):Int))))) Y)) (mO (tB (!(decide (0≤x1.A∧x1.A<((i:Nat):Int))))) Y ?_)))))
  refine gn (0≤x1.A∧x1.A<((i:Nat):Int)) (fun fhg47_4=> ?_) fun fhg47_4=> ?_
  ·refine QB 4 10 false 47 (ny fhg47_4) Y Y Y ?_
   refine JY 7 14 true 51 Y Y Y (oO Y Y (ny fhg47_4) (fO (OF.pickT (VEv.tmpB Y (ny fhg47_4)) (VEv.bool true)) (nt (ct Y (sr (fO (OF.assign (VEv.bool false)) (nt (rt (tr (vinB.r (tr ?_)))))))))))
   refine tr (vinB.r (tr (vb (b':=false) Y ?_)))
   (symm;rw [decide_eq_false_iff_not];rintro ⟨h1,h2⟩;(have h3:=(Qq hx1).1 (h2 i fhc1);obtain ⟨h4,h5,h6⟩:=h3;simp only [Jy] at h6;omega))
  refine JZ (tI x1.Kind) (nz fhg47_4) Y Y Y Y Qv Y Y QY (VRunO.chain (VWant.on Y Y (nz fhg47_4)) (cS (vc (tv (tI x1.Kind) Y) vn) (QR Y) (QaG (n+1) x1.Kind) Y Y) (gF (nz fhg47_4) Y Y (OF.move (tv (tB (decide (x1.Kind=3∨6≤x1.Kind))) Y)) ?_))
  refine gw (x1.Kind=3∨6≤x1.Kind) (fun fhg51_5=> ?_) fun fhg51_5=> ?_
  ·refine gF (dy fhg51_5) Y Y (OF.move (tv (rd 4 Qb a) Y)) ?_
   refine JZ (tI x1.A) (dy fhg51_5) Y Y Y Y QM Y Y QY ?_
   obtain ⟨x2,hx2⟩:∃x,a[(Int.toNat x1.A)]? =some x:=⟨_,List.getElem?_eq_getElem (by omega)⟩
   refine gF (dy fhg51_5) Y Y (OF.indexAddrR (row:=(Qb false x2)) (i:=(Int.toNat x1.A)) (tv (rd 4 Qb a) Y) (tv (tI x1.A) Y) (by omega) (Qs _ hx2) ZQ Qy Ze) (glr (tI x2.Kind) (dy fhg51_5) Y Y Y Y (lb Y) Qv Y QY (gF (dy fhg51_5) Y Y (xne (tv (tI x2.Kind) Y) (VEv.int .i64 1)) (gF (nz fhg47_4) Y Y (OF.pickT (VEv.tmpB Y (dy fhg51_5)) (tv (tB (!(decide (x2.Kind=1)))) Y)) (fO (OF.pickF (VEv.tmpB Y (nz fhg47_4)) (tv (tB (!(decide (x2.Kind=1)))) Y)) (nt ?_)))))
   refine cn (x2.Kind=1) Y (fun fhc5=> ?_) fun fhc5=> ?_
   ·refine sr ?_
    refine fO (OF.assign (VEv.bool false)) (nt (rt (tr (vinB.r (tr (tr (vinB.r (tr (vb (b':=false) Y ?_)))))))))
    (symm;rw [decide_eq_false_iff_not];rintro ⟨h1,h2⟩;(have h3:=(Qq hx1).1 (h2 i fhc1);obtain ⟨h4,h5,h6⟩:=h3;simp only [Jy] at h6;(by_cases hk:x1.Kind=1<;>simp_all<;>omega)))
   refine sk (tn (sr (lf (tI x1.Kind) Y Qv Y Y QY (cO (cS (vc (tv (tI x1.Kind) Y) vn) (QR Y) (Q5 (n+1) x1.Kind) Y Y) (mO (tB (decide (x1.Kind=4∨x1.Kind=5))) Y ?_)))))
   refine gw (x1.Kind=4∨x1.Kind=5) (fun fhg64_6=> ?_) fun fhg64_6=> ?_
   ·refine JZ (tI x1.B) (dy fhg64_6) Y Y Y Y Zd Y Y QY ?_
    refine gF (dy fhg64_6) Y Y (OF.move (tv (tN i) Y)) (VRunO.chain (VWant.on Y Y (dy fhg64_6)) (cS (vc (tv (tI x1.B) Y) (vc (tv (tN i) Y) vn)) (QR Y) (Ja (n+1) x1.B ((i:Nat):Int)) Y Y) (gF (dy fhg64_6) Y Y (QZ (tv (tB (decide (0≤x1.B∧x1.B<((i:Nat):Int)))) Y)) (fO (OF.pickT (VEv.tmpB Y (dy fhg64_6)) (tv (tB (!(decide (0≤x1.B∧x1.B<((i:Nat):Int))))) Y)) (mO (tB (!(decide (0≤x1.B∧x1.B<((i:Nat):Int))))) Y ?_))))
    refine gn (0≤x1.B∧x1.B<((i:Nat):Int)) (fun fhg71_7=> ?_) fun fhg71_7=> ?_
    ·refine QB 5 10 false 71 (ny fhg71_7) Y Y Y ?_
     refine JY 3 15 true 76 Y Y Y (oO Y Y (ny fhg71_7) (fO (OF.pickT (VEv.tmpB Y (ny fhg71_7)) (VEv.bool true)) (nt (ct Y (sr (fO (OF.assign (VEv.bool false)) (nt (rt (vinB.r (tr (tr ?_)))))))))))
     refine vinB.r (tr (vb (b':=false) Y ?_))
     (symm;rw [decide_eq_false_iff_not];rintro ⟨h1,h2⟩;(exfalso;omega))
    refine JZ (tI x1.Kind) (nz fhg71_7) Y Y Y Y Qv Y Y QY (VRunO.chain (VWant.on Y Y (nz fhg71_7)) (cS (vc (tv (tI x1.Kind) Y) vn) (QR Y) (Q5 (n+1) x1.Kind) Y Y) (gF (nz fhg71_7) Y Y (QZ (tv (tB (decide (x1.Kind=4∨x1.Kind=5))) Y)) (gF (nz fhg71_7) Y Y (OF.move (tv (tB (!(decide (x1.Kind=4∨x1.Kind=5)))) Y)) (QB 3 15 true 76 (nkT (dy fhg64_6)) Y Y Y (gF (nz fhg71_7) Y Y (OF.pickF (VEv.tmpB Y (nkT (dy fhg64_6))) (VEv.bool false)) (fO (OF.pickF (VEv.tmpB Y (nz fhg71_7)) (tv (tB false) Y)) (nt (cf Y (sk (vinB.n (tn ?_)))))))))))
    refine VRun.region (fO (Zu (tv (tN i) Y) (VEv.int .i64 1) (by omega)) (mO (tN (i+1)) Y (VRunO.nil (tn ?_))))
    refine ⟨(i+1:Nat),?_,?_,Wk.mk (fun k=>k) ?_ ?_ ?_⟩
    ·refine YL hI0 fhc1 ((Qq hx1).2 ?_)
     simp only [Qa5,Jy]
     refine ⟨by omega,fun hk=> ?_,fun hk=> ?_⟩
     ·(exfalso;omega)
     ·(exfalso;omega)
    ·omega
    ·exact (b2 (b2 (b2 (b2 bn))))
    ·exact bn
    ·exact nd Y
   refine QB 5 3 true 64 (dz fhg64_6) Y Y Y (fO (OF.pickF (VEv.tmpB Y (dz fhg64_6)) (VEv.bool false)) (mO (tB false) Y (VRunO.free (VWant.on (b:=false) Y Y Y) (OF.fieldAddrO (tv (T.op 0 0) Y) Qv) (VRunO.look (VWant.on (b:=false) Y Y Y) (OL.loadO1 (t:=(tI x1.Kind)) (tv (T.op 0 0) Y) Y Y QY) (VRunO.chain (VWant.on (b:=false) Y Y Y) (cS (vc (tv (tI x1.Kind) Y) vn) (QR Y) (Q5 (n+1) x1.Kind) Y Y) (VRunO.free (VWant.on (b:=false) Y Y Y) (QZ (tv (tB (decide (x1.Kind=4∨x1.Kind=5))) Y)) (VRunO.free (VWant.on (b:=false) Y Y Y) (OF.move (tv (tB (!(decide (x1.Kind=4∨x1.Kind=5)))) Y)) (JZ (tI x1.B) (nkF (dz fhg64_6)) Y Y Y Y Zd Y Y QY (gF (nkF (dz fhg64_6)) Y Y (xne (tv (tI x1.B) Y) (VEv.int .i64 0)) (VRunO.free (VWant.on (b:=false) Y Y Y) (OF.pickT (VEv.tmpB Y (nkF (dz fhg64_6))) (tv (tB (!(decide (x1.B=0)))) Y)) (fO (OF.pickF (tv (tB false) Y) (tv (tB (!(decide (x1.B=0)))) Y)) ?_)))))))))))
   refine nt ?_
   refine cn (x1.B=0) Y (fun fhc6=> ?_) fun fhc6=> ?_
   ·refine sr ?_
    refine fO (OF.assign (VEv.bool false)) (nt (rt (vinB.r (tr (tr (vinB.r (tr (vb (b':=false) Y ?_))))))))
    (symm;rw [decide_eq_false_iff_not];rintro ⟨h1,h2⟩;(have h3:=(Qq hx1).1 (h2 i fhc1);obtain ⟨h4,h5,h6⟩:=h3;simp only [Jy] at h6;omega))
   refine sk (vinB.n (tn (VRun.region (fO (Zu (tv (tN i) Y) (VEv.int .i64 1) (by omega)) (mO (tN (i+1)) Y (VRunO.nil (tn ?_)))))))
   refine ⟨(i+1:Nat),?_,?_,Wk.mk (fun k=>k) ?_ ?_ ?_⟩
   ·refine YL hI0 fhc1 ((Qq hx1).2 ?_)
    simp only [Qa5,Jy]
    refine ⟨by omega,fun hk=> ?_,fun hk=> ?_⟩
    ·(exfalso;omega)
    ·(refine ⟨?_,?_,fun h=> ?_,fun h=> ?_,fun h1 h2=> ?_⟩<;>first | assumption | omega | (refine ⟨x2,hx2,?_⟩;omega))
   ·omega
   ·exact (b2 (b2 (b2 (b2 bn))))
   ·exact bn
   ·exact nd Y
  refine QB 7 14 true 51 (dz fhg51_5) Y Y Y (gF (nz fhg47_4) Y Y (OF.pickF (VEv.tmpB Y (dz fhg51_5)) (VEv.bool false)) (fO (OF.pickF (VEv.tmpB Y (nz fhg47_4)) (tv (tB false) Y)) (nt (cf Y (sk (tn (sr (lf (tI x1.Kind) Y Qv Y Y QY (cO (cS (vc (tv (tI x1.Kind) Y) vn) (QR Y) (Q5 (n+1) x1.Kind) Y Y) (mO (tB (decide (x1.Kind=4∨x1.Kind=5))) Y ?_))))))))))
  refine gw (x1.Kind=4∨x1.Kind=5) (fun fhg64_8=> ?_) fun fhg64_8=> ?_
  ·refine JZ (tI x1.B) (dy fhg64_8) Y Y Y Y Zd Y Y QY ?_
   refine gF (dy fhg64_8) Y Y (OF.move (tv (tN i) Y)) (VRunO.chain (VWant.on Y Y (dy fhg64_8)) (cS (vc (tv (tI x1.B) Y) (vc (tv (tN i) Y) vn)) (QR Y) (Ja (n+1) x1.B ((i:Nat):Int)) Y Y) (gF (dy fhg64_8) Y Y (QZ (tv (tB (decide (0≤x1.B∧x1.B<((i:Nat):Int)))) Y)) (fO (OF.pickT (VEv.tmpB Y (dy fhg64_8)) (tv (tB (!(decide (0≤x1.B∧x1.B<((i:Nat):Int))))) Y)) (mO (tB (!(decide (0≤x1.B∧x1.B<((i:Nat):Int))))) Y ?_))))
   refine gn (0≤x1.B∧x1.B<((i:Nat):Int)) (fun fhg71_9=> ?_) fun fhg71_9=> ?_
   ·refine QB 5 10 false 71 (ny fhg71_9) Y Y Y ?_
    refine JY 3 15 true 76 Y Y Y (oO Y Y (ny fhg71_9) (fO (OF.pickT (VEv.tmpB Y (ny fhg71_9)) (VEv.bool true)) (nt (ct Y (sr (fO (OF.assign (VEv.bool false)) (nt (rt (vinB.r (tr (tr ?_)))))))))))
    refine vinB.r (tr (vb (b':=false) Y ?_))
    (symm;rw [decide_eq_false_iff_not];rintro ⟨h1,h2⟩;(have h3:=(Qq hx1).1 (h2 i fhc1);obtain ⟨h4,h5,h6⟩:=h3;simp only [Jy] at h6;omega))
   refine JZ (tI x1.Kind) (nz fhg71_9) Y Y Y Y Qv Y Y QY (VRunO.chain (VWant.on Y Y (nz fhg71_9)) (cS (vc (tv (tI x1.Kind) Y) vn) (QR Y) (Q5 (n+1) x1.Kind) Y Y) (gF (nz fhg71_9) Y Y (QZ (tv (tB (decide (x1.Kind=4∨x1.Kind=5))) Y)) (gF (nz fhg71_9) Y Y (OF.move (tv (tB (!(decide (x1.Kind=4∨x1.Kind=5)))) Y)) (QB 3 15 true 76 (nkT (dy fhg64_8)) Y Y Y (gF (nz fhg71_9) Y Y (OF.pickF (VEv.tmpB Y (nkT (dy fhg64_8))) (VEv.bool false)) (fO (OF.pickF (VEv.tmpB Y (nz fhg71_9)) (tv (tB false) Y)) (nt (cf Y (sk (vinB.n (tn ?_)))))))))))
   refine VRun.region (fO (Zu (tv (tN i) Y) (VEv.int .i64 1) (by omega)) (mO (tN (i+1)) Y (VRunO.nil (tn ?_))))
   refine ⟨(i+1:Nat),?_,?_,Wk.mk (fun k=>k) ?_ ?_ ?_⟩
   ·refine YL hI0 fhc1 ((Qq hx1).2 ?_)
    simp only [Qa5,Jy]
    refine ⟨by omega,fun hk=> ?_,fun hk=> ?_⟩
    ·(exfalso;omega)
    ·(refine ⟨?_,?_,fun h=> ?_,fun h=> ?_,fun h1 h2=> ?_⟩<;>first | assumption | omega)
   ·omega
   ·exact (b2 (b2 (b2 (b2 bn))))
   ·exact bn
   ·exact nd Y
  refine QB 5 3 true 64 (dz fhg64_8) Y Y Y (fO (OF.pickF (VEv.tmpB Y (dz fhg64_8)) (VEv.bool false)) (mO (tB false) Y (VRunO.free (VWant.on (b:=false) Y Y Y) (OF.fieldAddrO (tv (T.op 0 0) Y) Qv) (VRunO.look (VWant.on (b:=false) Y Y Y) (OL.loadO1 (t:=(tI x1.Kind)) (tv (T.op 0 0) Y) Y Y QY) (VRunO.chain (VWant.on (b:=false) Y Y Y) (cS (vc (tv (tI x1.Kind) Y) vn) (QR Y) (Q5 (n+1) x1.Kind) Y Y) (VRunO.free (VWant.on (b:=false) Y Y Y) (QZ (tv (tB (decide (x1.Kind=4∨x1.Kind=5))) Y)) (VRunO.free (VWant.on (b:=false) Y Y Y) (OF.move (tv (tB (!(decide (x1.Kind=4∨x1.Kind=5)))) Y)) (JZ (tI x1.B) (nkF (dz fhg64_8)) Y Y Y Y Zd Y Y QY (gF (nkF (dz fhg64_8)) Y Y (xne (tv (tI x1.B) Y) (VEv.int .i64 0)) (VRunO.free (VWant.on (b:=false) Y Y Y) (OF.pickT (VEv.tmpB Y (nkF (dz fhg64_8))) (tv (tB (!(decide (x1.B=0)))) Y)) (fO (OF.pickF (tv (tB false) Y) (tv (tB (!(decide (x1.B=0)))) Y)) ?_)))))))))))
  refine nt ?_
  refine cn (x1.B=0) Y (fun fhc6=> ?_) fun fhc6=> ?_
  ·refine sr ?_
   refine fO (OF.assign (VEv.bool false)) (nt (rt (vinB.r (tr (tr (vinB.r (tr (vb (b':=false) Y ?_))))))))
   (symm;rw [decide_eq_false_iff_not];rintro ⟨h1,h2⟩;(have h3:=(Qq hx1).1 (h2 i fhc1);obtain ⟨h4,h5,h6⟩:=h3;simp only [Jy] at h6;omega))
  refine sk (vinB.n (tn (VRun.region (fO (Zu (tv (tN i) Y) (VEv.int .i64 1) (by omega)) (mO (tN (i+1)) Y (VRunO.nil (tn ?_)))))))
  refine ⟨(i+1:Nat),?_,?_,Wk.mk (fun k=>k) ?_ ?_ ?_⟩
  ·refine YL hI0 fhc1 ((Qq hx1).2 ?_)
   simp only [Qa5,Jy]
   refine ⟨by omega,fun hk=> ?_,fun hk=> ?_⟩
   ·(exfalso;omega)
   ·(refine ⟨?_,?_,fun h=> ?_,fun h=> ?_,fun h1 h2=> ?_⟩<;>first | assumption | omega)
  ·omega
  ·exact (b2 (b2 (b2 (b2 bn))))
  ·exact bn
  ·exact nd Y
 refine VRun.exit (vthn.e (vthn.e (vinB.e (tn (sr (fO (OF.assign (VEv.bool true)) (nt (rt (vb (b':=true) Y ?_)))))))))
 (symm;rw [decide_eq_true_eq];exact ⟨by omega,QbC hI' fhc1⟩)
theorem J6 (n:Nat) (a:D.Clue) (hz:Jc a≤mx):Pure (Qm Tryd.prog (n+5)) 9 [(T.agg (QA false a))] (tB (decide ((1≤a.Sense∧a.Sense≤99)∧Qp a.Play))):=by
 refine Pure.intro (rs:= [ResultVar.tmp 2]) Tryd.func9 Y Y Y (E0:= [(0,(T.agg (QA false a)))]) Y ?_
 obtain ⟨hlim,hmx,hmax⟩:=QG
 simp only [Jc] at hz
 refine sr (kO (B.box (ts:=(QA false a)) (tv (T.agg (QA false a)) Y) nofun Y) (fO (OF.assign (VEv.bool false)) (nt (sr (lf (tI a.Sense) Y QcL Y Y QY (cO (cS (vc (tv (tI a.Sense) Y) (vc (VEv.int .i64 1) (vc (VEv.int .i64 99) vn))) (QR Y) (QS (n+3) a.Sense 1 99) Y Y) (mO (tB (decide (1≤a.Sense∧a.Sense≤99))) Y ?_)))))))
 refine gw (1≤a.Sense∧a.Sense≤99) (fun fhg6_1=> ?_) fun fhg6_1=> ?_
 ·refine JZ (rd 4 Qb a.Play) (dy fhg6_1) Y Y Y Y Jp Y Y Qdi ?_
  refine VRunO.chain (VWant.on Y Y (dy fhg6_1)) (cS (vc (tv (rd 4 Qb a.Play) Y) vn) (QR Y) (J3 (n+0) a.Play (by assumption)) Y Y) (fO (OF.pickT (VEv.tmpB Y (dy fhg6_1)) (tv (tB (decide (Qp a.Play))) Y)) (aO (tB (decide (Qp a.Play))) Y (nt (rt (vb (b':=(decide (Qp a.Play))) Y ?_)))))
  (refine Zp ⟨fun h=>⟨?_,h⟩,fun h=>h.2⟩;assumption)
 refine QB 3 3 true 6 (dz fhg6_1) Y Y Y (fO (OF.pickF (VEv.tmpB Y (dz fhg6_1)) (VEv.bool false)) (aO (tB false) Y (nt (rt (vb (b':=false) Y ?_)))))
 (symm;rw [decide_eq_false_iff_not];rintro ⟨h1,h2⟩;contradiction)
theorem Y0 (n:Nat) (a:D.Clue) (hz:Jc a≤mx):Pure (Qm Tryd.prog (n+4)) 8 [(T.agg (QA false a))] (tB (decide ((1≤a.Sense∧a.Sense≤99)∧Qp a.Play))):=by
 refine Pure.intro (rs:= [ResultVar.tmp 2]) Tryd.func8 Y Y Y (E0:= [(0,(T.agg (QA false a)))]) Y ?_
 obtain ⟨hlim,hmx,hmax⟩:=QG
 simp only [Jc] at hz
 refine sr (kO (B.box (ts:=(QA false a)) (tv (T.agg (QA false a)) Y) nofun Y) (fO (OF.assign (VEv.bool false)) (nt (sr (lf (tI a.Sense) Y QcL Y Y QY (cO (cS (vc (tv (tI a.Sense) Y) (vc (VEv.int .i64 1) (vc (VEv.int .i64 99) vn))) (QR Y) (Zk (n+2) a.Sense 1 99) Y Y) (mO (tB (decide (1≤a.Sense∧a.Sense≤99))) Y ?_)))))))
 refine gw (1≤a.Sense∧a.Sense≤99) (fun fhg6_1=> ?_) fun fhg6_1=> ?_
 ·refine JZ (rd 4 Qb a.Play) (dy fhg6_1) Y Y Y Y Jp Y Y Qdi ?_
  refine VRunO.chain (VWant.on Y Y (dy fhg6_1)) (cS (vc (tv (rd 4 Qb a.Play) Y) vn) (QR Y) (J2 (n+0) a.Play (by assumption)) Y Y) (fO (OF.pickT (VEv.tmpB Y (dy fhg6_1)) (tv (tB (decide (Qp a.Play))) Y)) (aO (tB (decide (Qp a.Play))) Y (nt (rt (vb (b':=(decide (Qp a.Play))) Y ?_)))))
  (refine Zp ⟨fun h=>⟨?_,h⟩,fun h=>h.2⟩;assumption)
 refine QB 3 3 true 6 (dz fhg6_1) Y Y Y (fO (OF.pickF (VEv.tmpB Y (dz fhg6_1)) (VEv.bool false)) (aO (tB false) Y (nt (rt (vb (b':=false) Y ?_)))))
 (symm;rw [decide_eq_false_iff_not];rintro ⟨h1,h2⟩;contradiction)
noncomputable section
def Q7 (s:ByteArray):Nat→ByteArray
 | 0=>⟨#[]⟩
 | i+1=>s.extract i (i+1)++Q7 s i
def back (s:ByteArray):ByteArray:=if s.size≤100 then Q7 s s.size else ⟨#[]⟩
theorem JN {s:ByteArray}:∀ {i:Nat},i≤s.size→(Q7 s i).size=i
 | 0,_=>rfl
 | i+1,h=>by
  simp only [Q7,ByteArray.size_append,ByteArray.size_extract,JN (show i≤s.size by omega)]
  omega
theorem Qdn {s:ByteArray} {i:Nat} (h1:i≤s.size) (h2:s.size≤100∨i=0) (h3:¬i<s.size∨¬s.size≤100):Q7 s i=back s:=by
 unfold back
 split
 ·rw [show i=s.size by omega]
 ·rw [show i=0 by omega];rfl
theorem QeI {s:ByteArray} (h:s.size≤100):(back s).size=s.size:=by
 unfold back
 rw [if_pos h,JN (Nat.le_refl _)]
end
theorem QaN (n:Nat) (s:ByteArray) (hc:s.size≤maxLen):Pure (Qm Tryd.prog (n+1)) 96 [(tS s)] (tS (back s)):=by
 refine Pure.intro (rs:= [ResultVar.tmp 2]) Tryd.func96 Y Y Y (E0:= [(0,(tS s))]) Y ?_
 obtain ⟨hlim,hmx,hmax⟩:=QG
 refine sr (fO (OF.assign (VEv.str (⟨#[]⟩:ByteArray))) (nt (sr (fO (OF.assign (VEv.str (⟨#[]⟩:ByteArray))) (nt (sq (sr (fO (OF.assign (VEv.int .i64 0)) (nt (VRun.block ?_))))))))))
 refine VRun.loop (A:=Nat) (fun s_=> [(0,(tS s)),(2,(tS (⟨#[]⟩:ByteArray))),(3,(tS (Q7 s s_))),(4,(tN s_))]) (fun s_=>ZR []) 0 (fun s_=>s_≤s.size∧(s.size≤100∨s_=0)) (fun s_=>s.size - s_) (0:Nat) ?_ (Wk.mk (fun k=>k) ?_ ?_ ?_) ?_
 ·exact ⟨Nat.zero_le _, .inr Y⟩
 ·exact (b2 (b2 (bc ⟨(congrArg T.str (show (⟨#[]⟩:ByteArray)=Q7 s 0 from (by rfl))),rfl⟩ (b2 bn))))
 ·exact bn
 ·exact nd Y
 rintro i (hI':i≤s.size∧(s.size≤100∨i=0))
 show VRun _ _ _ [(0,(tS s)),(2,(tS (⟨#[]⟩:ByteArray))),(3,(tS (Q7 s i))),(4,(tN i))] (ZR []) 0 _
 have hI1:=hI'.1
 have hbs:=JN hI1
 refine sq (sr (mO (tN i) Y (mO (tS s) Y (lO (B.lenS (tv (tS s) Y) U9) (fO (Yr (tv (tN i) Y) (tv (tN s.size) Y)) (mO (tB (decide (i<s.size))) Y ?_))))))
 refine gw (i<s.size) (fun fhg9_1=> ?_) fun fhg9_1=> ?_
 ·refine gF (dy fhg9_1) Y Y (OF.move (tv (tS s) Y)) ?_
  refine gL (dy fhg9_1) Y Y (B.lenS (tv (tS s) Y) U9) (gF (dy fhg9_1) Y Y (B.leq (c:=(decide (s.size≤100))) (tv (tN s.size) Y) (VEv.int .i64 100) (by exact Zp (by omega))) (fO (OF.pickT (VEv.tmpB Y (dy fhg9_1)) (tv (tB (decide (s.size≤100))) Y)) (nt ?_)))
  refine cd (s.size≤100) Y (fun fhc0=> ?_) fun fhc0=> ?_
  ·refine sk ?_
   refine tn (sq (VRun.block (VRun.region (mO (tS s) Y (mO (tN i) Y (mO (tN i) Y (fO (Zu (tv (tN i) Y) (VEv.int .i64 1) (by omega)) (lO (OL.sliceS (i:=i) (j:=(i+1)) (tv (tS s) Y) (tv (tN i) Y) (tv (tN (i+1)) Y) Y Y (by omega) (by omega) U9) (mO (tS (Q7 s i)) Y (fO (B.sadd (tv (tS (s.extract i (i+1))) Y) (tv (tS (Q7 s i)) Y) (by (simp only [ByteArray.size_extract];omega))) (aO (tS ((s.extract i (i+1))++Q7 s i)) Y ?_)))))))))))
   refine VRunO.nil (vinB.n (tn (VRun.region (mO (tN i) Y (fO (Zu (tv (tN i) Y) (VEv.int .i64 1) (by omega)) (aO (tN (i+1)) Y (VRunO.nil (tn ?_))))))))
   refine ⟨(i+1:Nat),?_,?_,Wk.mk (fun k=>k) ?_ ?_ ?_⟩
   ·exact ⟨by omega, .inl (by omega)⟩
   ·omega
   ·exact (b2 (b2 (bc ⟨(congrArg T.str (show ((s.extract i (i+1))++Q7 s i)=Q7 s (i+1) from (by rfl))),rfl⟩ (b2 bn))))
   ·exact bn
   ·exact nd Y
  refine VRun.exit (vthn.e (vthn.e (vinB.e (tn (sr (mO (tS (Q7 s i)) Y (aO (tS (Q7 s i)) Y (nt (rt ?_)))))))))
  refine vfin.eq (r':=(tS (Q7 s i))) ?_ (vfin.r (VRes.tmp (t:=(tS (Q7 s i))) Y VRes.nil) (Give.str _))
  refine congrArg T.str ?_
  refine Qdn hI1 hI'.2 ?_;omega
 refine QB 3 4 true 9 (dz fhg9_1) Y Y Y (fO (OF.pickF (VEv.tmpB Y (dz fhg9_1)) (VEv.bool false)) (nt (cf Y (VRun.exit (vthn.e (vthn.e (vinB.e (tn (sr (mO (tS (Q7 s i)) Y (aO (tS (Q7 s i)) Y ?_)))))))))))
 refine nt (rt ?_)
 refine vfin.eq (r':=(tS (Q7 s i))) ?_ (vfin.r (VRes.tmp (t:=(tS (Q7 s i))) Y VRes.nil) (Give.str _))
 refine congrArg T.str ?_
 refine Qdn hI1 hI'.2 ?_;omega
theorem QcG (n:Nat) (l:List Int) (v:Int) (hl:l.length≤Zb):Pure (Qm Tryd.prog (n+1)) 99 [(rd 1 Qh l),(tI v)] (tB (decide (v∈l))):=by
 refine Pure.intro (rs:= [ResultVar.tmp 4]) Tryd.func99 Y Y Y (E0:= [(0,(rd 1 Qh l)),(1,(tI v))]) Y ?_
 obtain ⟨hlim,hmx,hmax⟩:=QG
 refine sr (fO (OF.assign (VEv.bool false)) (nt (sq (sr (fO (OF.assign (VEv.int .i64 0)) (nt (VRun.block ?_)))))))
 refine VRun.loop (A:=Nat) (fun s_=> [(0,(rd 1 Qh l)),(1,(tI v)),(5,(tN s_))]) (fun s_=>ZR []) 0 (fun s_=>NoneTo (fun y=>y=v) l s_) (fun s_=>l.length - s_) (0:Nat) ?_ (Wk.mk (fun k=>k) ?_ ?_ ?_) ?_
 ·exact NoneTo.start _ _
 ·exact (b2 (b2 (b2 bn)))
 ·exact bn
 ·exact nd Y
 rintro i (hI':NoneTo (fun y=>y=v) l i)
 show VRun _ _ _ [(0,(rd 1 Qh l)),(1,(tI v)),(5,(tN i))] (ZR []) 0 _
 have hI1:=hI'.1
 refine sq (sr (mO (tN i) Y (mO (rd 1 Qh l) Y (lO (B.lenR (m:=l.length) (tv (rd 1 Qh l) Y) Yn (List.length_map ..)) (fO (Yr (tv (tN i) Y) (tv (tN l.length) Y)) (nt ?_))))))
 refine cd (i<l.length) Y (fun fhc0=> ?_) fun fhc0=> ?_
 ·refine sk ?_
  refine tn (sq (VRun.block (sr (mO (rd 1 Qh l) Y (mO (tN i) Y ?_)))))
  obtain ⟨x1,hx1⟩:∃x,l[i]? =some x:=⟨_,List.getElem?_eq_getElem (by omega)⟩
  refine fO (OF.indexAddrR (row:=(Qh false x1)) (i:=i) (tv (rd 1 Qh l) Y) (tv (tN i) Y) Y (Qs _ hx1) Yn Zg YY) (lO (OL.loadR1 (t:=(tI x1)) (tv (T.rp [(tI x1)]) Y) Y QY) (mO (tI v) Y (fO (ZU (tv (tI x1) Y) (tv (tI v) Y)) (nt ?_))))
  refine cd (x1=v) Y (fun fhc1=> ?_) fun fhc1=> ?_
  ·refine sr ?_
   refine fO (OF.assign (VEv.bool true)) (nt (rt (vinB.r (tr (tr (vinB.r (tr (vb (b':=true) Y ?_))))))))
   symm;rw [decide_eq_true_eq,← fhc1];exact List.mem_of_getElem? hx1
  refine sk (vinB.n (tn (VRun.region (mO (tN i) Y (fO (Zu (tv (tN i) Y) (VEv.int .i64 1) (by omega)) (aO (tN (i+1)) Y (VRunO.nil (tn ?_))))))))
  refine ⟨(i+1:Nat),?_,?_,Wk.mk (fun k=>k) ?_ ?_ ?_⟩
  ·exact hI'.next hx1 fhc1
  ·omega
  ·exact (b2 (b2 (b2 bn)))
  ·exact bn
  ·exact nd Y
 refine VRun.exit (vthn.e (vthn.e (vinB.e (tn (sr (fO (OF.assign (VEv.bool false)) (nt (rt (vb (b':=false) Y ?_)))))))))
 symm;rw [decide_eq_false_iff_not];intro h;exact hI'.mem fhc0 v h Y
noncomputable section
def QN : List Int→Int→List Int
 | [],n=> [n]
 | x::r,n=>if x<n then x::QN r n else if x=n then x::r else n::x::r
theorem l9put_mem {l:List Int} {n y:Int}:y∈QN l n↔y∈l∨y=n:=by
 induction l with
 | nil=>simp [QN]
 | cons x r ih =>
  simp only [QN]
  split
  ·simp only [List.mem_cons,ih,or_assoc]
  ·split
   ·rename_i h1 h2
    subst h2
    simp only [List.mem_cons]
    exact ⟨.inl,fun h=>h.elim id .inl⟩
   ·simp only [List.mem_cons]
    exact or_comm
theorem QeG {l:List Int} {n:Int}:(QN l n).length≤l.length+1:=by
 induction l with
 | nil=>simp [QN]
 | cons x r ih =>
  simp only [QN]
  split
  ·simp only [List.length_cons];omega
  ·split<;>simp
theorem QaT {l:List Int} {n:Int} (h:l.Pairwise (· < ·)):(QN l n).Pairwise (· < ·):=by
 induction l with
 | nil=>simp [QN]
 | cons x r ih =>
  have h1:=List.pairwise_cons.1 h
  simp only [QN]
  split
  ·rename_i hx
   refine List.pairwise_cons.2 ⟨fun y hy=> ?_,ih h1.2⟩
   rcases l9put_mem.1 hy with h2 | h2
   ·exact h1.1 y h2
   ·exact h2▸hx
  ·split
   ·exact h
   ·refine List.pairwise_cons.2 ⟨fun y hy=> ?_,h⟩
    rcases List.mem_cons.1 hy with h2 | h2
    ·omega
    ·have:=h1.1 y h2
     omega
theorem Qgd {n:Int}:∀ {l:List Int} {k:Nat},(∀j y,j<k→l[j]? =some y→y<n)→l[k]? =some n→l=QN l n
 | [],_,_,h=>by simp at h
 | x::r,0,_,h=>by
  obtain rfl:x=n:=by simpa using h
  simp [QN]
 | x::r,k+1,h1,h=>by
  have h2:=h1 0 x (by omega) (by simp)
  simp only [QN,if_pos h2]
  rw [← Qgd (k:=k) (fun j y hj hy=>h1 (j+1) y (by omega) (by simpa using hy)) (by simpa using h)]
theorem Qd1 {n:Int}:∀ {l:List Int} {k:Nat},(∀j y,j<k→l[j]? =some y→y<n)→k≤l.length→(∀y,l[k]? =some y→n<y)→(l.take k++ [n])++l.drop k=QN l n
 | [],k,_,h,_=>by
  obtain rfl:k=0:=by simpa using h
  rfl
 | x::r,0,_,_,h=>by
  have h2:=h x (by simp)
  simp only [QN]
  rw [if_neg (by omega),if_neg (by omega)]
  rfl
 | x::r,k+1,h1,h,h3=>by
  have h2:=h1 0 x (by omega) (by simp)
  simp only [QN,if_pos h2]
  rw [← Qd1 (k:=k) (fun j y hj hy=>h1 (j+1) y (by omega) (by simpa using hy)) (by simpa using h) (fun y hy=>h3 y (by simpa using hy))]
  rfl
theorem Qds {α:Type} {l:List α} {i:Nat} {x y:α} (hx:l[i]? =some x) (hy:l[i]? =some y):y=x:=by
 rw [hx] at hy
 exact (Option.some.inj hy).symm
end
theorem QaA (n:Nat) (l:List Int) (v:Int) (hl:l.length≤mx):Pure (Qm Tryd.prog (n+1)) 100 [(rd 1 Qh l),(tI v)] (T.sl true 1 ((QN l v).map (Qh true))):=by
 refine Pure.intro (rs:= [ResultVar.tmp 4]) Tryd.func100 Y Y Y (E0:= [(0,(rd 1 Qh l)),(1,(tI v))]) Y ?_
 obtain ⟨hlim,hmx,hmax⟩:=QG
 refine sr (fO (OF.assign VEv.nils) (nt (sr (fO (OF.assign (VEv.int .i64 0)) (nt (sq (VRun.block ?_)))))))
 refine VRun.loop (A:=Nat) (fun s_=> [(0,(rd 1 Qh l)),(1,(tI v)),(4,T.nils),(5,(tN s_))]) (fun s_=>ZR []) 0 (fun s_=>s_≤l.length∧∀j y,j<s_→l[j]? =some y→y<v) (fun s_=>l.length - s_) (0:Nat) ?_ (Wk.mk (fun k=>k) ?_ ?_ ?_) ?_
 ·exact ⟨Nat.zero_le _,fun j y hj=>by omega⟩
 ·exact (b2 (b2 (b2 (b2 bn))))
 ·exact bn
 ·exact nd Y
 rintro k (hI':k≤l.length∧∀j y,j<k→l[j]? =some y→y<v)
 show VRun _ _ _ [(0,(rd 1 Qh l)),(1,(tI v)),(4,T.nils),(5,(tN k))] (ZR []) 0 _
 have hI1:=hI'.1
 refine sq (sr (mO (tN k) Y (mO (rd 1 Qh l) Y (lO (B.lenR (m:=l.length) (tv (rd 1 Qh l) Y) Yn (List.length_map ..)) (fO (Yr (tv (tN k) Y) (tv (tN l.length) Y)) (mO (tB (decide (k<l.length))) Y ?_))))))
 refine gw (k<l.length) (fun fhg10_1=> ?_) fun fhg10_1=> ?_
 ·refine gF (dy fhg10_1) Y Y (OF.move (tv (rd 1 Qh l) Y)) ?_
  refine gF (dy fhg10_1) Y Y (OF.move (tv (tN k) Y)) ?_
  obtain ⟨x1,hx1⟩:∃x,l[k]? =some x:=⟨_,List.getElem?_eq_getElem (by omega)⟩
  refine gF (dy fhg10_1) Y Y (OF.indexAddrR (row:=(Qh false x1)) (i:=k) (tv (rd 1 Qh l) Y) (tv (tN k) Y) Y (Qs _ hx1) Yn Zg YY) (gL (dy fhg10_1) Y Y (OL.loadR1 (t:=(tI x1)) (tv (T.rp [(tI x1)]) Y) Y QY) (gF (dy fhg10_1) Y Y (OF.move (tv (tI v) Y)) (gF (dy fhg10_1) Y Y (xls (tv (tI x1) Y) (tv (tI v) Y)) (fO (OF.pickT (VEv.tmpB Y (dy fhg10_1)) (tv (tB (decide (x1<v))) Y)) (nt ?_)))))
  refine cd (x1<v) Y (fun fhc0=> ?_) fun fhc0=> ?_
  ·refine sk ?_
   refine tn (VRun.block (VRun.region (mO (tN k) Y (fO (Zu (tv (tN k) Y) (VEv.int .i64 1) (by omega)) (aO (tN (k+1)) Y (VRunO.nil (vinB.n (tn ?_))))))))
   refine ⟨(k+1:Nat),?_,?_,Wk.mk (fun k=>k) ?_ ?_ ?_⟩
   ·refine ⟨by omega,fun j y hj hy=> ?_⟩
    rcases Nat.lt_or_ge j k with h1 | h1
    ·exact hI'.2 j y h1 hy
    ·obtain rfl:j=k:=(by omega);obtain rfl:=Qds hx1 hy;assumption
   ·omega
   ·exact (b2 (b2 (b2 (b2 bn))))
   ·exact bn
   ·exact nd Y
  refine VRun.exit (vthn.e (vthn.e (vinB.e (tn (sq (sr (mO (tN k) Y (mO (rd 1 Qh l) Y (lO (B.lenR (m:=l.length) (tv (rd 1 Qh l) Y) Yn (List.length_map ..)) (fO (Yr (tv (tN k) Y) (tv (tN l.length) Y)) (mO (tB (decide (k<l.length))) Y ?_)))))))))))
  refine gF (dy fhg10_1) Y Y (OF.move (tv (rd 1 Qh l) Y)) (gF (dy fhg10_1) Y Y (OF.move (tv (tN k) Y)) (gF (dy fhg10_1) Y Y (OF.indexAddrR (row:=(Qh false x1)) (i:=k) (tv (rd 1 Qh l) Y) (tv (tN k) Y) Y (Qs _ hx1) Yn Zg YY) (gL (dy fhg10_1) Y Y (OL.loadR1 (t:=(tI x1)) (tv (T.rp [(tI x1)]) Y) Y QY) (gF (dy fhg10_1) Y Y (OF.move (tv (tI v) Y)) (gF (dy fhg10_1) Y Y (ZU (tv (tI x1) Y) (tv (tI v) Y)) (fO (OF.pickT (VEv.tmpB Y (dy fhg10_1)) (tv (tB (decide (x1=v))) Y)) (nt ?_)))))))
  refine cd (x1=v) Y (fun fhc1=> ?_) fun fhc1=> ?_
  ·refine sr ?_
   refine kO (OM.slice0 Yn zo3 (by kernel_rfl) Y (by rw [Zg];decide) Zg) (mO (rd 1 Qh l) Y (cO (B.append (rows:= []) (rows2:=(l.map (Qh false))) (rows3:=(l.map (Qh true))) (VDst.own (tv (T.os 1 0 0 0) Y) Y Y) (VSrc.read (tv (rd 1 Qh l) Y) Yn (okInt.okMap _ _)) nofun Yn Zg (by decide) zo3 Y (of_decide_eq_true (by kernel_rfl)) (by (simp only [List.length_map,List.length_append,List.length_cons,List.length_nil,List.length_replicate,List.length_set,List.length_drop,List.length_take,Zb] at *;omega)) (List.nil_append _)) (aO (T.os 1 1 0 ((l.map (Qh true)).length)) Y (nt (rt (tr ?_))))))
   refine vfin.eq (r':=(T.sl true 1 (l.map (Qh true)))) ?_ (vfin.r (VRes.tmp (t:=(T.os 1 1 0 ((l.map (Qh true)).length))) Y VRes.nil) (Give.os Y Y (okInt.cleanMap _)))
   refine congrArg (fun l_=>T.sl true 1 (List.map (Qh true) l_)) ?_
   (refine Qgd hI'.2 ?_;simp_all;done)
  refine sk (tn (sq (VRun.draw (B:= [[],[],[],[2,1],[1,2,3,0],[],[5],[5,6,0,3,2,1,4],[],[],[9,8],[8,9,10,4,1,2,3,0,6,5,7],[7,5,6,0,3,2,1,4,10,9,8,11]]) (by kernel_rfl) (by kernel_rfl) Y (VRunD.make Y VWant.always Y (OM.slice0 Yn zo3 (by kernel_rfl) Y (by rw [Zg];decide) Zg) (mD (rd 1 Qh l) Y Y (mD (tN k) Y Y ?_))))))
  refine lD (show OL _ _ _ _ _ (T.sl false 1 ((l.take k).map (Qh false))) by rw [show (l.take k).map (Qh false)=(l.map (Qh false)).take k from List.map_take ..];exact (OL.sliceRHi (j:=k) (tv (rd 1 Qh l) Y) (tv (tN k) Y) Y (by (simp only [List.length_map];omega)) Yn Zg YY)) Y Y (VRunD.quiet (bi:= [1,2,3,0]) Y VWant.always Y Y Y (bc (lb Y) bn) (B.append (rows:= []) (rows2:=((l.take k).map (Qh false))) (rows3:=((l.take k).map (Qh true))) (VDst.own (tv (T.os 1 0 0 0) Y) Y Y) (VSrc.read (tv (rd 1 Qh (l.take k)) Y) Yn (okInt.okMap _ _)) nofun Yn Zg (by decide) zo3 Y (of_decide_eq_true (by kernel_rfl)) (by (simp only [List.length_map,List.length_append,List.length_cons,List.length_nil,List.length_replicate,List.length_set,List.length_drop,List.length_take,Zb] at *;omega)) (List.nil_append _)) (mD (tI v) Y Y (VRunD.make Y VWant.always Y (OM.buildSlice (l:= [(tI v)]) (VEvp.cons (tv (tI v) Y) VEvp.nil) Y (by decide) (bc (nofun) bn) (bc ((bc (Y) bn)) bn) (bc (Y) bn) Yn zo3 (by kernel_rfl) Y (by rw [Zg];decide) Zg (Nat.le_of_ble_eq_true Y)) (VRunD.quiet (bi:= [5,6,0,3,2,1,4]) Y VWant.always Y Y Y (bc (lb Y) (bc (lb Y) bn)) (B.append (rows:=((l.take k).map (Qh true))) (rows2:= [[(tI v)]]) (rows3:=(((l.take k)++ [v]).map (Qh true))) (VDst.own (tv (T.os 1 1 0 (((l.take k).map (Qh true)).length)) Y) Y Y) (VSrc.own (tv (T.os 1 2 0 1) Y) Y Y Yn (bc (bc Y bn) bn)) (by decide) Yn Zg (by decide) zo3 Y (of_decide_eq_true (by kernel_rfl)) (by (simp only [List.length_map,List.length_append,List.length_cons,List.length_nil,List.length_replicate,List.length_set,List.length_drop,List.length_take,Zb] at *;omega)) ((List.map_append (f:=Qh true) (l₁:=(l.take k)) (l₂:= [v])).symm)) (mD (rd 1 Qh l) Y Y (mD (tN k) Y Y ?_))))))
  refine lD (show OL _ _ _ _ _ (T.sl false 1 ((l.drop k).map (Qh false))) by rw [show (l.drop k).map (Qh false)=(l.map (Qh false)).drop k from List.map_drop ..];exact (OL.sliceRLo (i:=k) (tv (rd 1 Qh l) Y) (tv (tN k) Y) Y (by (simp only [List.length_map];omega)) Yn Zg YY)) Y Y (VRunD.quiet (bi:= [8,9,10,4,1,2,3,0,6,5,7]) Y VWant.always Y Y Y (bc (lb Y) bn) (B.append (rows:=(((l.take k)++ [v]).map (Qh true))) (rows2:=((l.drop k).map (Qh false))) (rows3:=((((l.take k)++ [v])++(l.drop k)).map (Qh true))) (VDst.own (tv (T.os 1 3 0 ((((l.take k)++ [v]).map (Qh true)).length)) Y) Y Y) (VSrc.read (tv (rd 1 Qh (l.drop k)) Y) Yn (okInt.okMap _ _)) nofun Yn Zg (by decide) zo3 Y (of_decide_eq_true (by kernel_rfl)) (by (simp only [List.length_map,List.length_append,List.length_cons,List.length_nil,List.length_replicate,List.length_set,List.length_drop,List.length_take,Zb] at *;omega)) ((List.map_append (f:=Qh true) (l₁:=((l.take k)++ [v])) (l₂:=(l.drop k))).symm)) (fD (OF.assign (tv (T.os 1 4 0 (((((l.take k)++ [v])++(l.drop k)).map (Qh true)).length)) Y)) Y Y (VRunD.nil (tn (rt ?_)))))
  refine vfin.eq (r':=(T.sl true 1 ((((l.take k)++ [v])++(l.drop k)).map (Qh true)))) ?_ (vfin.r (VRes.tmp (t:=(T.os 1 4 0 (((((l.take k)++ [v])++(l.drop k)).map (Qh true)).length))) Y VRes.nil) (Give.os Y Y (okInt.cleanMap _)))
  refine congrArg (fun l_=>T.sl true 1 (List.map (Qh true) l_)) ?_
  (refine Qd1 hI'.2 hI1 ?_;intro y hy;obtain rfl:=Qds hx1 hy;omega)
 refine QB 6 4 true 10 (dz fhg10_1) Y Y Y (fO (OF.pickF (VEv.tmpB Y (dz fhg10_1)) (VEv.bool false)) (nt (cf Y (VRun.exit (vthn.e (vthn.e (vinB.e (tn (sq (sr (mO (tN k) Y ?_)))))))))))
 refine mO (rd 1 Qh l) Y (lO (B.lenR (m:=l.length) (tv (rd 1 Qh l) Y) Yn (List.length_map ..)) (fO (Yr (tv (tN k) Y) (tv (tN l.length) Y)) (mO (tB (decide (k<l.length))) Y (QB 6 4 true 24 (dz fhg10_1) Y Y Y (fO (OF.pickF (VEv.tmpB Y (dz fhg10_1)) (VEv.bool false)) (nt (cf Y (sk (tn (sq (VRun.draw (B:= [[],[],[],[2,1],[1,2,3,0],[],[5],[5,6,0,3,2,1,4],[],[],[9,8],[8,9,10,4,1,2,3,0,6,5,7],[7,5,6,0,3,2,1,4,10,9,8,11]]) (by kernel_rfl) (by kernel_rfl) Y ?_)))))))))))
 refine VRunD.make Y VWant.always Y (OM.slice0 Yn zo3 (by kernel_rfl) Y (by rw [Zg];decide) Zg) (mD (rd 1 Qh l) Y Y (mD (tN k) Y Y ?_))
 refine lD (show OL _ _ _ _ _ (T.sl false 1 ((l.take k).map (Qh false))) by rw [show (l.take k).map (Qh false)=(l.map (Qh false)).take k from List.map_take ..];exact (OL.sliceRHi (j:=k) (tv (rd 1 Qh l) Y) (tv (tN k) Y) Y (by (simp only [List.length_map];omega)) Yn Zg YY)) Y Y (VRunD.quiet (bi:= [1,2,3,0]) Y VWant.always Y Y Y (bc (lb Y) bn) (B.append (rows:= []) (rows2:=((l.take k).map (Qh false))) (rows3:=((l.take k).map (Qh true))) (VDst.own (tv (T.os 1 0 0 0) Y) Y Y) (VSrc.read (tv (rd 1 Qh (l.take k)) Y) Yn (okInt.okMap _ _)) nofun Yn Zg (by decide) zo3 Y (of_decide_eq_true (by kernel_rfl)) (by (simp only [List.length_map,List.length_append,List.length_cons,List.length_nil,List.length_replicate,List.length_set,List.length_drop,List.length_take,Zb] at *;omega)) (List.nil_append _)) (mD (tI v) Y Y (VRunD.make Y VWant.always Y (OM.buildSlice (l:= [(tI v)]) (VEvp.cons (tv (tI v) Y) VEvp.nil) Y (by decide) (bc (nofun) bn) (bc ((bc (Y) bn)) bn) (bc (Y) bn) Yn zo3 (by kernel_rfl) Y (by rw [Zg];decide) Zg (Nat.le_of_ble_eq_true Y)) (VRunD.quiet (bi:= [5,6,0,3,2,1,4]) Y VWant.always Y Y Y (bc (lb Y) (bc (lb Y) bn)) (B.append (rows:=((l.take k).map (Qh true))) (rows2:= [[(tI v)]]) (rows3:=(((l.take k)++ [v]).map (Qh true))) (VDst.own (tv (T.os 1 1 0 (((l.take k).map (Qh true)).length)) Y) Y Y) (VSrc.own (tv (T.os 1 2 0 1) Y) Y Y Yn (bc (bc Y bn) bn)) (by decide) Yn Zg (by decide) zo3 Y (of_decide_eq_true (by kernel_rfl)) (by (simp only [List.length_map,List.length_append,List.length_cons,List.length_nil,List.length_replicate,List.length_set,List.length_drop,List.length_take,Zb] at *;omega)) ((List.map_append (f:=Qh true) (l₁:=(l.take k)) (l₂:= [v])).symm)) (mD (rd 1 Qh l) Y Y (mD (tN k) Y Y ?_))))))
 refine lD (show OL _ _ _ _ _ (T.sl false 1 ((l.drop k).map (Qh false))) by rw [show (l.drop k).map (Qh false)=(l.map (Qh false)).drop k from List.map_drop ..];exact (OL.sliceRLo (i:=k) (tv (rd 1 Qh l) Y) (tv (tN k) Y) Y (by (simp only [List.length_map];omega)) Yn Zg YY)) Y Y (VRunD.quiet (bi:= [8,9,10,4,1,2,3,0,6,5,7]) Y VWant.always Y Y Y (bc (lb Y) bn) (B.append (rows:=(((l.take k)++ [v]).map (Qh true))) (rows2:=((l.drop k).map (Qh false))) (rows3:=((((l.take k)++ [v])++(l.drop k)).map (Qh true))) (VDst.own (tv (T.os 1 3 0 ((((l.take k)++ [v]).map (Qh true)).length)) Y) Y Y) (VSrc.read (tv (rd 1 Qh (l.drop k)) Y) Yn (okInt.okMap _ _)) nofun Yn Zg (by decide) zo3 Y (of_decide_eq_true (by kernel_rfl)) (by (simp only [List.length_map,List.length_append,List.length_cons,List.length_nil,List.length_replicate,List.length_set,List.length_drop,List.length_take,Zb] at *;omega)) ((List.map_append (f:=Qh true) (l₁:=((l.take k)++ [v])) (l₂:=(l.drop k))).symm)) (fD (OF.assign (tv (T.os 1 4 0 (((((l.take k)++ [v])++(l.drop k)).map (Qh true)).length)) Y)) Y Y (VRunD.nil (tn (rt ?_)))))
 refine vfin.eq (r':=(T.sl true 1 ((((l.take k)++ [v])++(l.drop k)).map (Qh true)))) ?_ (vfin.r (VRes.tmp (t:=(T.os 1 4 0 (((((l.take k)++ [v])++(l.drop k)).map (Qh true)).length))) Y VRes.nil) (Give.os Y Y (okInt.cleanMap _)))
 refine congrArg (fun l_=>T.sl true 1 (List.map (Qh true) l_)) ?_
 (refine Qd1 hI'.2 hI1 ?_;intro y hy;have:=(List.getElem?_eq_some_iff.1 hy).1;omega)
theorem Qc0 {e k:Int} (h0:0≤e) (hk:0<k):0≤e.tmod k∧e.tmod k<k:=by
 rw [Int.tmod_eq_emod_of_nonneg h0]
 exact ⟨Int.emod_nonneg e (show k≠0 by omega),Int.emod_lt_of_pos e hk⟩
theorem Qek {α:Type} {P:α→Prop} {a:List α} {x:α} (h:∀y∈a,P y) (hx:P x):∀y∈a++ [x],P y:=fun y hy=>by
 rcases List.mem_append.1 hy with hy | hy
 ·exact h y hy
 ·obtain rfl:=List.mem_singleton.1 hy;exact hx
theorem Jn (n:Nat) (code:List Int) (hcl:code.length≤mx):NewC (Qm Tryd.prog (n+1)) 29 (rd 1 Qi code):=by
 refine NewC.intro (rs:= [ResultVar.tmp 2]) Tryd.func29 Y Y Y (fun pb nb mb=> ?_)
 obtain ⟨hlim,hmx,hmax⟩:=QG
 show VRun _ _ _ [(0,(T.ex pb nb mb (rd 1 Qi code)))] [] 0 _
 refine sr (fO (OF.assign VEv.ptr0) (nt (sr (mO (T.ex pb nb mb (rd 1 Qi code)) Y (lO (B.lenR (m:=code.length) (VEv.unex (tv (T.ex pb nb mb (rd 1 Qi code)) Y)) U22 (List.length_map ..)) (fO (B.add (n:=(((193017+code.length):Nat):Int)) (VEv.int .i64 193017) (tv (tN code.length) Y) (by first | rfl | (rw [Qg (by omega)];omega) | (rw [Qg (by omega)];done))) (aO (tN (193017+code.length)) Y (nt (sq (sr (fO (OF.assign (VEv.int .i64 0)) ?_)))))))))))
 refine nt (VRun.block ?_)
 refine VRun.loop (A:=Nat×Int) (fun s_=> [(0,(T.ex pb nb mb (rd 1 Qi code))),(2,T.ptr0),(3,(tI s_.2)),(4,(tN s_.1))]) (fun s_=>ZR []) 0 (fun s_=>s_.1≤code.length∧0≤s_.2∧s_.2≤2000000000) (fun s_=>code.length - s_.1) ((0,193017+((code.length:Nat):Int)):Nat×Int) ?_ (Wk.mk (fun k=>k) ?_ ?_ ?_) ?_
 ·exact ⟨by omega,by omega,by omega⟩
 ·exact (b2 (b2 (bc ⟨(congrArg (T.int .i64) (show (((193017+code.length):Nat):Int)=(193017+((code.length:Nat):Int)) from (by first | rfl | omega | (simp;done) | (push_cast;omega)))),rfl⟩ (b2 bn))))
 ·exact bn
 ·exact nd Y
 rintro ⟨i,w⟩ (hI':i≤code.length∧0≤w∧w≤2000000000)
 show VRun _ _ _ [(0,(T.ex pb nb mb (rd 1 Qi code))),(2,T.ptr0),(3,(tI w)),(4,(tN i))] (ZR []) 0 _
 have hI1:=hI'.1
 have hI2:=hI'.2.1
 have hI3:=hI'.2.2
 refine sq (sr (mO (tN i) Y (mO (T.ex pb nb mb (rd 1 Qi code)) Y (lO (B.lenR (m:=code.length) (VEv.unex (tv (T.ex pb nb mb (rd 1 Qi code)) Y)) U22 (List.length_map ..)) (fO (Yr (tv (tN i) Y) (tv (tN code.length) Y)) (mO (tB (decide (i<code.length))) Y ?_))))))
 refine gw (i<code.length) (fun fhg12_1=> ?_) fun fhg12_1=> ?_
 ·refine gF (dy fhg12_1) Y Y (OF.move (tv (tN i) Y)) ?_
  refine gF (dy fhg12_1) Y Y (B.lss (c:=(decide (i<4000))) (tv (tN i) Y) (VEv.int .i64 4000) (Zp (by omega))) (fO (OF.pickT (VEv.tmpB Y (dy fhg12_1)) (tv (tB (decide (i<4000))) Y)) (nt ?_))
  refine cd (i<4000) Y (fun fhc0=> ?_) fun fhc0=> ?_
  ·refine sk ?_
   refine tn (sq (VRun.block (VRun.region (mO (tI w) Y (fO (B.mul (n:=(w*137)) (tv (tI w) Y) (VEv.int .i64 137) (by first | rfl | (rw [Qg (by omega)];omega) | (rw [Qg (by omega)];done))) (mO (T.ex pb nb mb (rd 1 Qi code)) Y (mO (tN i) Y ?_)))))))
   obtain ⟨x1,hx1⟩:∃x,code[i]? =some x:=⟨_,List.getElem?_eq_getElem (by omega)⟩
   refine fO (OF.indexAddrR (row:=(Qi false x1)) (i:=i) (VEv.unex (tv (T.ex pb nb mb (rd 1 Qi code)) Y)) (tv (tN i) Y) Y (Qs _ hx1) U22 sz5 if5) (lO (OL.loadR1 (t:=(T.int .u8 x1)) (tv (T.rp [(T.int .u8 x1)]) Y) Y st5) (fO (OF.convI (tv (T.int .u8 x1) Y) (k0:= .u8) U5 U3) (fO (B.add (n:=(IntKind.i64.wrap ((w*137)+IntKind.i64.wrap x1))) (tv (tI (w*137)) Y) (tv (tI (IntKind.i64.wrap x1)) Y) (by first | rfl | (rw [Qg (by omega)];omega) | (rw [Qg (by omega)];done))) (fO (B.add (n:=(IntKind.i64.wrap (IntKind.i64.wrap ((w*137)+IntKind.i64.wrap x1)+11))) (tv (tI (IntKind.i64.wrap ((w*137)+IntKind.i64.wrap x1))) Y) (VEv.int .i64 11) (by first | rfl | (rw [Qg (by omega)];omega) | (rw [Qg (by omega)];done))) (fO (B.and (n:=(Za .i64 (IntKind.i64.wrap (IntKind.i64.wrap ((w*137)+IntKind.i64.wrap x1)+11)) 1073741823)) (tv (tI (IntKind.i64.wrap (IntKind.i64.wrap ((w*137)+IntKind.i64.wrap x1)+11))) Y) (VEv.int .i64 1073741823) Y) (aO (tI (Za .i64 (IntKind.i64.wrap (IntKind.i64.wrap ((w*137)+IntKind.i64.wrap x1)+11)) 1073741823)) Y (VRunO.nil (vinB.n (tn (VRun.region (mO (tN i) Y ?_)))))))))))
   refine fO (Zu (tv (tN i) Y) (VEv.int .i64 1) (by omega)) (aO (tN (i+1)) Y (VRunO.nil (tn ?_)))
   refine ⟨((i+1,Za .i64 (IntKind.i64.wrap (IntKind.i64.wrap (w*137+IntKind.i64.wrap x1)+11)) 1073741823):Nat×Int),?_,?_,Wk.mk (fun k=>k) ?_ ?_ ?_⟩
   ·exact ⟨by omega,(QbN _ (m:=1073741823) (by decide)).1,Int.le_trans (QbN _ (m:=1073741823) (by decide)).2 (by decide)⟩
   ·first | omega | (simp only [];omega) | (show _<_;omega) | (simp;omega)
   ·exact (b2 (b2 (bc ⟨(congrArg (T.int .i64) (show (Za .i64 (IntKind.i64.wrap (IntKind.i64.wrap ((w*137)+IntKind.i64.wrap x1)+11)) 1073741823)=(Za .i64 (IntKind.i64.wrap (IntKind.i64.wrap (w*137+IntKind.i64.wrap x1)+11)) 1073741823) from (by first | rfl | omega | (simp;done) | (push_cast;omega)))),rfl⟩ (b2 bn))))
   ·exact bn
   ·exact nd Y
  refine VRun.exit (vthn.e (vthn.e (vinB.e (tn (sr (mO (T.ex pb nb mb (rd 1 Qi code)) Y (mO (tI w) Y (fO (OF.build (l:= [(0,(T.ex pb nb mb (rd 1 Qi code))),(2,(tI w))]) (zs:= [T.nils,(tN 0),(tN 0)]) (out:= [(T.ex pb nb mb (rd 1 Qi code)),(tN 0),(tI w)]) (VEvp.cons (i:=0) (tv (T.ex pb nb mb (rd 1 Qi code)) Y) (VEvp.cons (i:=2) (tv (tI w) Y) VEvp.nil)) (bc nofun (bc nofun bn)) Tryd.underlying89 Qg8 (fun _=>RL.cons (.nils) (RL.cons (.int _ _) (RL.cons (.int _ _) (RL.nil _)))) (by kernel_rfl) (by kernel_rfl)) (kO (B.box (ts:= [(T.ex pb nb mb (rd 1 Qi code)),(tN 0),(tI w)]) (tv (T.agg [(T.ex pb nb mb (rd 1 Qi code)),(tN 0),(tI w)]) Y) nofun Y) (aO (T.op 0 0) Y (nt ?_)))))))))))
  refine rt ?_
  exact vnew.r 0 w (VRes.tmp Y VRes.nil) Y
 refine QB 2 4 true 12 (dz fhg12_1) Y Y Y (fO (OF.pickF (VEv.tmpB Y (dz fhg12_1)) (VEv.bool false)) (nt (cf Y (VRun.exit (vthn.e (vthn.e (vinB.e (tn (sr (mO (T.ex pb nb mb (rd 1 Qi code)) Y (mO (tI w) Y ?_)))))))))))
 refine fO (OF.build (l:= [(0,(T.ex pb nb mb (rd 1 Qi code))),(2,(tI w))]) (zs:= [T.nils,(tN 0),(tN 0)]) (out:= [(T.ex pb nb mb (rd 1 Qi code)),(tN 0),(tI w)]) (VEvp.cons (i:=0) (tv (T.ex pb nb mb (rd 1 Qi code)) Y) (VEvp.cons (i:=2) (tv (tI w) Y) VEvp.nil)) (bc nofun (bc nofun bn)) Tryd.underlying89 Qg8 (fun _=>RL.cons (.nils) (RL.cons (.int _ _) (RL.cons (.int _ _) (RL.nil _)))) (by kernel_rfl) (by kernel_rfl)) (kO (B.box (ts:= [(T.ex pb nb mb (rd 1 Qi code)),(tN 0),(tI w)]) (tv (T.agg [(T.ex pb nb mb (rd 1 Qi code)),(tN 0),(tI w)]) Y) nofun Y) (aO (T.op 0 0) Y (nt (rt ?_))))
 exact vnew.r 0 w (VRes.tmp Y VRes.nil) Y
theorem ZZ (n:Nat) (code:List Int) (hcl:code.length≤mx):CurE (Qm Tryd.prog (n+1)) 64 (rd 1 Qi code) code.length [] (fun x:Int=>0≤x∧x≤255) (fun x:Int=>(tI x)):=by
 refine CurE.intro (rs:= [ResultVar.tmp 2]) Tryd.func64 Y Y Y (by kernel_rfl) (fun pb nb mb ci ch hci=> ?_)
 obtain ⟨hlim,hmx,hmax⟩:=QG
 show VRun _ _ _ [(0,(T.op 0 0))] [(0,some (Obj.cells [(T.ex pb nb mb (rd 1 Qi code)),(tN ci),(tI ch)]))] 1 _
 refine sr (fO (OF.assign (VEv.int .i64 0)) (nt (sr (mO (T.op 0 0) Y (mO (T.op 0 0) Y (fO (OF.nilCheckO (tv (T.op 0 0) Y)) (lf (tI ch) Y Qcu Y Y QY (fO (B.mul (n:=(IntKind.i64.wrap (ch*6364136223846793005))) (tv (tI ch) Y) (VEv.int .i64 6364136223846793005) (by first | rfl | (rw [Qg (by omega)];omega) | (rw [Qg (by omega)];done))) (fO (B.add (n:=(IntKind.i64.wrap (IntKind.i64.wrap (ch*6364136223846793005)+1442695040888963407))) (tv (tI (IntKind.i64.wrap (ch*6364136223846793005))) Y) (VEv.int .i64 1442695040888963407) (by first | rfl | (rw [Qg (by omega)];omega) | (rw [Qg (by omega)];done))) (fO (OF.nilCheckO (tv (T.op 0 0) Y)) (fO (OF.fieldAddrO (tv (T.op 0 0) Y) Qcu) ?_)))))))))))
 refine cO (B.storeO (us:= [(tI (IntKind.i64.wrap (IntKind.i64.wrap (ch*6364136223846793005)+1442695040888963407)))]) (ws:= [(T.ex pb nb mb (rd 1 Qi code)),(tN ci),(tI (IntKind.i64.wrap (IntKind.i64.wrap (ch*6364136223846793005)+1442695040888963407)))]) (tv (T.op 0 2) Y) (tv (tI (IntKind.i64.wrap (IntKind.i64.wrap (ch*6364136223846793005)+1442695040888963407))) Y) nofun Y Y (lb Y) YY Zg (bc Y bn) Y) (nt (sq (VRun.draw (B:= [[],[0],[0,1],[1,0,2],[2,0,1,3],[],[5],[5,6],[6,5,7],[7,5,6,8],[8,6,5,7,9,3,1,0,2,4],[4,2,0,1,3,9,7,5,6,8,10],[10,8,6,5,7,9,3,1,0,2,4,11]]) (by kernel_rfl) (by kernel_rfl) Y (mD (T.op 0 0) Y Y (fD (OF.nilCheckO (tv (T.op 0 0) Y)) Y Y (fD (OF.fieldAddrO (tv (T.op 0 0) Y) Qcu) Y Y (lD (OL.loadO1 (t:=(tI (IntKind.i64.wrap (IntKind.i64.wrap (ch*6364136223846793005)+1442695040888963407)))) (tv (T.op 0 2) Y) Y Y QY) Y Y (fD (B.shr (n:=(QU .i64 (IntKind.i64.wrap (IntKind.i64.wrap (ch*6364136223846793005)+1442695040888963407)) 33)) (tv (tI (IntKind.i64.wrap (IntKind.i64.wrap (ch*6364136223846793005)+1442695040888963407))) Y) (VEv.int .u64 33) (by decide) Y) Y Y (mD (T.op 0 0) Y Y (fD (OF.nilCheckO (tv (T.op 0 0) Y)) Y Y (fD (OF.fieldAddrO (tv (T.op 0 0) Y) Qcu) Y Y ?_)))))))))))
 refine lD (OL.loadO1 (t:=(tI (IntKind.i64.wrap (IntKind.i64.wrap (ch*6364136223846793005)+1442695040888963407)))) (tv (T.op 0 2) Y) Y Y QY) Y Y (fD (B.shr (n:=(QU .i64 (IntKind.i64.wrap (IntKind.i64.wrap (ch*6364136223846793005)+1442695040888963407)) 47)) (tv (tI (IntKind.i64.wrap (IntKind.i64.wrap (ch*6364136223846793005)+1442695040888963407))) Y) (VEv.int .u64 47) (by decide) Y) Y Y (fD (B.xor (n:=(Yh .i64 (QU .i64 (IntKind.i64.wrap (IntKind.i64.wrap (ch*6364136223846793005)+1442695040888963407)) 33) (QU .i64 (IntKind.i64.wrap (IntKind.i64.wrap (ch*6364136223846793005)+1442695040888963407)) 47))) (tv (tI (QU .i64 (IntKind.i64.wrap (IntKind.i64.wrap (ch*6364136223846793005)+1442695040888963407)) 33)) Y) (tv (tI (QU .i64 (IntKind.i64.wrap (IntKind.i64.wrap (ch*6364136223846793005)+1442695040888963407)) 47)) Y) Y) Y Y (fD (B.and (n:=(Za .i64 (Yh .i64 (QU .i64 (IntKind.i64.wrap (IntKind.i64.wrap (ch*6364136223846793005)+1442695040888963407)) 33) (QU .i64 (IntKind.i64.wrap (IntKind.i64.wrap (ch*6364136223846793005)+1442695040888963407)) 47)) 255)) (tv (tI (Yh .i64 (QU .i64 (IntKind.i64.wrap (IntKind.i64.wrap (ch*6364136223846793005)+1442695040888963407)) 33) (QU .i64 (IntKind.i64.wrap (IntKind.i64.wrap (ch*6364136223846793005)+1442695040888963407)) 47))) Y) (VEv.int .i64 255) Y) Y Y (fD (OF.assign (tv (tI (Za .i64 (Yh .i64 (QU .i64 (IntKind.i64.wrap (IntKind.i64.wrap (ch*6364136223846793005)+1442695040888963407)) 33) (QU .i64 (IntKind.i64.wrap (IntKind.i64.wrap (ch*6364136223846793005)+1442695040888963407)) 47)) 255)) Y)) Y Y (VRunD.nil (tn (sq (sq (VRun.draw (B:= [[],[0],[0,1],[1,0,2],[],[4],[4,5],[5,4,6],[6,4,5,7],[7,5,4,6,8,2,0,1,3]]) (by kernel_rfl) (by kernel_rfl) Y (mD (T.op 0 0) Y Y (fD (OF.nilCheckO (tv (T.op 0 0) Y)) Y Y ?_)))))))))))
 refine fD (OF.fieldAddrO (tv (T.op 0 0) Y) Qcz) Y Y (lD (OL.loadO1 (t:=(tN ci)) (tv (T.op 0 1) Y) Y Y QY) Y Y (mD (T.op 0 0) Y Y (fD (OF.nilCheckO (tv (T.op 0 0) Y)) Y Y (fD (OF.fieldAddrO (tv (T.op 0 0) Y) Qfo) Y Y (lD (OL.loadO1 (t:=(T.ex pb nb mb (rd 1 Qi code))) (tv (T.op 0 0) Y) Y Y Qg6) Y Y (lD (B.lenR (m:=code.length) (VEv.unex (tv (T.ex pb nb mb (rd 1 Qi code)) Y)) U22 (List.length_map ..)) Y Y (fD (Yr (tv (tN ci) Y) (tv (tN code.length) Y)) Y Y (VRunD.nil (tn ?_)))))))))
 refine cd (ci<code.length) Y (fun fhc0=> ?_) fun fhc0=> ?_
 ·refine sq ?_
  refine VRun.draw (B:= [[],[],[1],[1,2],[2,1,3],[],[5],[5,6],[6,5,7],[7,5,6,8,3,1,2,4],[4,2,1,3,8,6,5,7,9],[9,7,5,6,8,3,1,2,4,10],[10,4,2,1,3,8,6,5,7,9,11,0],[0,11,9,7,5,6,8,3,1,2,4,10,12],[12,10,4,2,1,3,8,6,5,7,9,11,0,13]]) (by kernel_rfl) (by kernel_rfl) Y (mD (tI (Za .i64 (Yh .i64 (QU .i64 (IntKind.i64.wrap (IntKind.i64.wrap (ch*6364136223846793005)+1442695040888963407)) 33) (QU .i64 (IntKind.i64.wrap (IntKind.i64.wrap (ch*6364136223846793005)+1442695040888963407)) 47)) 255)) Y Y (mD (T.op 0 0) Y Y (fD (OF.nilCheckO (tv (T.op 0 0) Y)) Y Y (fD (OF.fieldAddrO (tv (T.op 0 0) Y) Qfo) Y Y (lD (OL.loadO1 (t:=(T.ex pb nb mb (rd 1 Qi code))) (tv (T.op 0 0) Y) Y Y Qg6) Y Y (mD (T.op 0 0) Y Y (fD (OF.nilCheckO (tv (T.op 0 0) Y)) Y Y (fD (OF.fieldAddrO (tv (T.op 0 0) Y) Qcz) Y Y (lD (OL.loadO1 (t:=(tN ci)) (tv (T.op 0 1) Y) Y Y QY) Y Y ?_)))))))))
  obtain ⟨x1,hx1⟩:∃x,code[ci]? =some x:=⟨_,List.getElem?_eq_getElem (by omega)⟩
  refine fD (OF.indexAddrR (row:=(Qi false x1)) (i:=ci) (VEv.unex (tv (T.ex pb nb mb (rd 1 Qi code)) Y)) (tv (tN ci) Y) Y (Qs _ hx1) U22 sz5 if5) Y Y (lD (OL.loadR1 (t:=(T.int .u8 x1)) (tv (T.rp [(T.int .u8 x1)]) Y) Y st5) Y Y (fD (OF.convI (tv (T.int .u8 x1) Y) (k0:= .u8) U5 U3) Y Y (fD (B.add (n:=(IntKind.i64.wrap ((Za .i64 (Yh .i64 (QU .i64 (IntKind.i64.wrap (IntKind.i64.wrap (ch*6364136223846793005)+1442695040888963407)) 33) (QU .i64 (IntKind.i64.wrap (IntKind.i64.wrap (ch*6364136223846793005)+1442695040888963407)) 47)) 255)+IntKind.i64.wrap x1))) (tv (tI (Za .i64 (Yh .i64 (QU .i64 (IntKind.i64.wrap (IntKind.i64.wrap (ch*6364136223846793005)+1442695040888963407)) 33) (QU .i64 (IntKind.i64.wrap (IntKind.i64.wrap (ch*6364136223846793005)+1442695040888963407)) 47)) 255)) Y) (tv (tI (IntKind.i64.wrap x1)) Y) (by first | rfl | (rw [Qg (by omega)];omega) | (rw [Qg (by omega)];done))) Y Y (fD (B.and (n:=(Za .i64 (IntKind.i64.wrap ((Za .i64 (Yh .i64 (QU .i64 (IntKind.i64.wrap (IntKind.i64.wrap (ch*6364136223846793005)+1442695040888963407)) 33) (QU .i64 (IntKind.i64.wrap (IntKind.i64.wrap (ch*6364136223846793005)+1442695040888963407)) 47)) 255)+IntKind.i64.wrap x1)) 255)) (tv (tI (IntKind.i64.wrap ((Za .i64 (Yh .i64 (QU .i64 (IntKind.i64.wrap (IntKind.i64.wrap (ch*6364136223846793005)+1442695040888963407)) 33) (QU .i64 (IntKind.i64.wrap (IntKind.i64.wrap (ch*6364136223846793005)+1442695040888963407)) 47)) 255)+IntKind.i64.wrap x1))) Y) (VEv.int .i64 255) Y) Y Y (fD (OF.assign (tv (tI (Za .i64 (IntKind.i64.wrap ((Za .i64 (Yh .i64 (QU .i64 (IntKind.i64.wrap (IntKind.i64.wrap (ch*6364136223846793005)+1442695040888963407)) 33) (QU .i64 (IntKind.i64.wrap (IntKind.i64.wrap (ch*6364136223846793005)+1442695040888963407)) 47)) 255)+IntKind.i64.wrap x1)) 255)) Y)) Y Y (VRunD.nil (tn (VRun.region (mO (T.op 0 0) Y (mO (T.op 0 0) Y (fO (OF.nilCheckO (tv (T.op 0 0) Y)) ?_)))))))))))
  refine lf (tN ci) Y Qcz Y Y QY (fO (B.add (n:=((ci+1:Nat):Int)) (tv (tN ci) Y) (VEv.int .i64 1) (by first | rfl | (rw [Qg (by omega)];omega) | (rw [Qg (by omega)];done))) (fO (OF.nilCheckO (tv (T.op 0 0) Y)) (fO (OF.fieldAddrO (tv (T.op 0 0) Y) Qcz) (cO (B.storeO (us:= [(tN (ci+1))]) (ws:= [(T.ex pb nb mb (rd 1 Qi code)),(tN (ci+1)),(tI (IntKind.i64.wrap (IntKind.i64.wrap (ch*6364136223846793005)+1442695040888963407)))]) (tv (T.op 0 1) Y) (tv (tN (ci+1)) Y) nofun Y Y (lb Y) YY Zg (bc Y bn) Y) (VRunO.nil (tn (sr (mO (tI (Za .i64 (IntKind.i64.wrap ((Za .i64 (Yh .i64 (QU .i64 (IntKind.i64.wrap (IntKind.i64.wrap (ch*6364136223846793005)+1442695040888963407)) 33) (QU .i64 (IntKind.i64.wrap (IntKind.i64.wrap (ch*6364136223846793005)+1442695040888963407)) 47)) 255)+IntKind.i64.wrap x1)) 255)) Y (aO (tI (Za .i64 (IntKind.i64.wrap ((Za .i64 (Yh .i64 (QU .i64 (IntKind.i64.wrap (IntKind.i64.wrap (ch*6364136223846793005)+1442695040888963407)) 33) (QU .i64 (IntKind.i64.wrap (IntKind.i64.wrap (ch*6364136223846793005)+1442695040888963407)) 47)) 255)+IntKind.i64.wrap x1)) 255)) Y (nt (rt ?_)))))))))))
  refine vcur.r (Za .i64 (IntKind.i64.wrap ((Za .i64 (Yh .i64 (QU .i64 (IntKind.i64.wrap (IntKind.i64.wrap (ch*6364136223846793005)+1442695040888963407)) 33) (QU .i64 (IntKind.i64.wrap (IntKind.i64.wrap (ch*6364136223846793005)+1442695040888963407)) 47)) 255)+IntKind.i64.wrap x1)) 255) 0 (ci+1) (IntKind.i64.wrap (IntKind.i64.wrap (ch*6364136223846793005)+1442695040888963407)) ?_ (VRes.tmp (t:=(tI (Za .i64 (IntKind.i64.wrap ((Za .i64 (Yh .i64 (QU .i64 (IntKind.i64.wrap (IntKind.i64.wrap (ch*6364136223846793005)+1442695040888963407)) 33) (QU .i64 (IntKind.i64.wrap (IntKind.i64.wrap (ch*6364136223846793005)+1442695040888963407)) 47)) 255)+IntKind.i64.wrap x1)) 255))) Y VRes.nil) (Give.int _ _) Y Y (by omega) (by decide)
  show 0≤(Za .i64 (IntKind.i64.wrap ((Za .i64 (Yh .i64 (QU .i64 (IntKind.i64.wrap (IntKind.i64.wrap (ch*6364136223846793005)+1442695040888963407)) 33) (QU .i64 (IntKind.i64.wrap (IntKind.i64.wrap (ch*6364136223846793005)+1442695040888963407)) 47)) 255)+IntKind.i64.wrap x1)) 255)∧(Za .i64 (IntKind.i64.wrap ((Za .i64 (Yh .i64 (QU .i64 (IntKind.i64.wrap (IntKind.i64.wrap (ch*6364136223846793005)+1442695040888963407)) 33) (QU .i64 (IntKind.i64.wrap (IntKind.i64.wrap (ch*6364136223846793005)+1442695040888963407)) 47)) 255)+IntKind.i64.wrap x1)) 255)≤255
  exact Qe9 _
 refine sk (tn (sr (mO (tI (Za .i64 (Yh .i64 (QU .i64 (IntKind.i64.wrap (IntKind.i64.wrap (ch*6364136223846793005)+1442695040888963407)) 33) (QU .i64 (IntKind.i64.wrap (IntKind.i64.wrap (ch*6364136223846793005)+1442695040888963407)) 47)) 255)) Y (aO (tI (Za .i64 (Yh .i64 (QU .i64 (IntKind.i64.wrap (IntKind.i64.wrap (ch*6364136223846793005)+1442695040888963407)) 33) (QU .i64 (IntKind.i64.wrap (IntKind.i64.wrap (ch*6364136223846793005)+1442695040888963407)) 47)) 255)) Y (nt (rt ?_))))))
 refine vcur.r (Za .i64 (Yh .i64 (QU .i64 (IntKind.i64.wrap (IntKind.i64.wrap (ch*6364136223846793005)+1442695040888963407)) 33) (QU .i64 (IntKind.i64.wrap (IntKind.i64.wrap (ch*6364136223846793005)+1442695040888963407)) 47)) 255) 0 ci (IntKind.i64.wrap (IntKind.i64.wrap (ch*6364136223846793005)+1442695040888963407)) ?_ (VRes.tmp (t:=(tI (Za .i64 (Yh .i64 (QU .i64 (IntKind.i64.wrap (IntKind.i64.wrap (ch*6364136223846793005)+1442695040888963407)) 33) (QU .i64 (IntKind.i64.wrap (IntKind.i64.wrap (ch*6364136223846793005)+1442695040888963407)) 47)) 255))) Y VRes.nil) (Give.int _ _) Y Y (by omega) (by decide)
 show 0≤(Za .i64 (Yh .i64 (QU .i64 (IntKind.i64.wrap (IntKind.i64.wrap (ch*6364136223846793005)+1442695040888963407)) 33) (QU .i64 (IntKind.i64.wrap (IntKind.i64.wrap (ch*6364136223846793005)+1442695040888963407)) 47)) 255)∧(Za .i64 (Yh .i64 (QU .i64 (IntKind.i64.wrap (IntKind.i64.wrap (ch*6364136223846793005)+1442695040888963407)) 33) (QU .i64 (IntKind.i64.wrap (IntKind.i64.wrap (ch*6364136223846793005)+1442695040888963407)) 47)) 255)≤255
 exact Qe9 _
theorem Qj (n:Nat) (code:List Int) (k:Int) (hcl:code.length≤mx):CurE (Qm Tryd.prog (n+2)) 31 (rd 1 Qi code) code.length [(tI k)] (fun x:Int=>(k≤0→x=0)∧(0<k→0≤x∧x<k)) (fun x:Int=>(tI x)):=by
 refine CurE.intro (rs:= [ResultVar.tmp 4]) Tryd.func31 Y Y Y (by kernel_rfl) (fun pb nb mb ci ch hci=> ?_)
 obtain ⟨hlim,hmx,hmax⟩:=QG
 show VRun _ _ _ [(0,(T.op 0 0)),(1,(tI k))] [(0,some (Obj.cells [(T.ex pb nb mb (rd 1 Qi code)),(tN ci),(tI ch)]))] 1 _
 refine sr (fO (OF.assign (VEv.int .i64 0)) (nt (sq (sr (mO (tI k) Y (fO (xle (tv (tI k) Y) (VEv.int .i64 0)) (nt ?_)))))))
 refine cd (k≤0) Y (fun fhc0=> ?_) fun fhc0=> ?_
 ·refine sr ?_
  refine fO (OF.assign (VEv.int .i64 0)) (nt (rt (tr ?_)))
  refine vcur.r 0 0 ci ch ?_ (VRes.tmp (t:=(tN 0)) Y VRes.nil) (Give.int _ _) Y Y (by omega) (by decide)
  show (k≤0→0=0)∧(0<k→0≤0∧0<k)
  first | (exact ⟨fun _=>rfl,fun h=>by omega⟩) | (exact ⟨fun h=>by omega,fun h=>Qc0 (by omega) h⟩)
 refine sk (tn (sq (sr (mO (tI k) Y (fO (xle (tv (tI k) Y) (VEv.int .i64 256)) (nt ?_))))))
 refine cd (k≤256) Y (fun fhc1=> ?_) fun fhc1=> ?_
 ·refine sr ?_
  refine mO (T.op 0 0) Y ?_
  refine eC (us:= []) (r':=fun x_:Int=>(tI x_)) (objs:=fun x_:Int=> []) (m:=0) (k:=0) ci ch VWant.always (vc (tv (T.op 0 0) Y) vn) Y (by omega) ln (ZZ (n+0) code (by first | assumption | omega | (simp only [List.length_cons,List.length_nil];omega))) Y (fun _=>rfl) (fun _=>rfl) fun e13 i13 h13 hs13 hi13=> ?_
  have hs13:0≤e13∧e13≤255:=hs13
  refine mO (tI k) Y (fO (B.rem (n:=(e13.tmod k)) (tv (tI e13) Y) (tv (tI k) Y) (by omega) (by first | rfl | (rw [Qg (by omega)];omega) | (rw [Qg (by omega)];done))) (aO (tI (e13.tmod k)) Y (nt (rt (tr ?_)))))
  refine vcur.r (e13.tmod k) 0 i13 h13 ?_ (VRes.tmp (t:=(tI (e13.tmod k))) Y VRes.nil) (Give.int _ _) Y Y (by omega) (by decide)
  show (k≤0→(e13.tmod k)=0)∧(0<k→0≤(e13.tmod k)∧(e13.tmod k)<k)
  first | (exact ⟨fun _=>rfl,fun h=>by omega⟩) | (exact ⟨fun h=>by omega,fun h=>Qc0 (by omega) h⟩)
 refine sk (tn (sr (mO (T.op 0 0) Y ?_)))
 refine eC (us:= []) (r':=fun x_:Int=>(tI x_)) (objs:=fun x_:Int=> []) (m:=0) (k:=0) ci ch VWant.always (vc (tv (T.op 0 0) Y) vn) Y (by omega) ln (ZZ (n+0) code (by first | assumption | omega | (simp only [List.length_cons,List.length_nil];omega))) Y (fun _=>rfl) (fun _=>rfl) fun e17 i17 h17 hs17 hi17=> ?_
 have hs17:0≤e17∧e17≤255:=hs17
 refine aO (tI e17) Y (nt (sr (mO (T.op 0 0) Y ?_)))
 refine eC (us:= []) (r':=fun x_:Int=>(tI x_)) (objs:=fun x_:Int=> []) (m:=0) (k:=0) i17 h17 VWant.always (vc (tv (T.op 0 0) Y) vn) Y (by omega) ln (ZZ (n+0) code (by first | assumption | omega | (simp only [List.length_cons,List.length_nil];omega))) Y (fun _=>rfl) (fun _=>rfl) fun e19 i19 h19 hs19 hi19=> ?_
 have hs19:0≤e19∧e19≤255:=hs19
 refine aO (tI e19) Y (nt (sr (mO (T.op 0 0) Y ?_)))
 refine eC (us:= []) (r':=fun x_:Int=>(tI x_)) (objs:=fun x_:Int=> []) (m:=0) (k:=0) i19 h19 VWant.always (vc (tv (T.op 0 0) Y) vn) Y (by omega) ln (ZZ (n+0) code (by first | assumption | omega | (simp only [List.length_cons,List.length_nil];omega))) Y (fun _=>rfl) (fun _=>rfl) fun e21 i21 h21 hs21 hi21=> ?_
 have hs21:0≤e21∧e21≤255:=hs21
 refine aO (tI e21) Y (nt (sr (mO (tI e17) Y (fO (B.mul (n:=(e17*65536)) (tv (tI e17) Y) (VEv.int .i64 65536) (by first | rfl | (rw [Qg (by omega)];omega) | (rw [Qg (by omega)];done))) (mO (tI e19) Y (fO (B.mul (n:=(e19*256)) (tv (tI e19) Y) (VEv.int .i64 256) (by first | rfl | (rw [Qg (by omega)];omega) | (rw [Qg (by omega)];done))) (fO (B.add (n:=((e17*65536)+(e19*256))) (tv (tI (e17*65536)) Y) (tv (tI (e19*256)) Y) (by first | rfl | (rw [Qg (by omega)];omega) | (rw [Qg (by omega)];done))) (mO (tI e21) Y (fO (B.add (n:=(((e17*65536)+(e19*256))+e21)) (tv (tI ((e17*65536)+(e19*256))) Y) (tv (tI e21) Y) (by first | rfl | (rw [Qg (by omega)];omega) | (rw [Qg (by omega)];done))) (mO (tI k) Y (fO (B.rem (n:=((((e17*65536)+(e19*256))+e21).tmod k)) (tv (tI (((e17*65536)+(e19*256))+e21)) Y) (tv (tI k) Y) (by omega) (by first | rfl | (rw [Qg (by omega)];omega) | (rw [Qg (by omega)];done))) ?_)))))))))))
 refine aO (tI ((((e17*65536)+(e19*256))+e21).tmod k)) Y (nt (rt ?_))
 refine vcur.r ((((e17*65536)+(e19*256))+e21).tmod k) 0 i21 h21 ?_ (VRes.tmp (t:=(tI ((((e17*65536)+(e19*256))+e21).tmod k))) Y VRes.nil) (Give.int _ _) Y Y (by omega) (by decide)
 show (k≤0→((((e17*65536)+(e19*256))+e21).tmod k)=0)∧(0<k→0≤((((e17*65536)+(e19*256))+e21).tmod k)∧((((e17*65536)+(e19*256))+e21).tmod k)<k)
 first | (exact ⟨fun _=>rfl,fun h=>by omega⟩) | (exact ⟨fun h=>by omega,fun h=>Qc0 (by omega) h⟩)
theorem Z1 (n:Nat) (code:List Int) (k:Int) (hcl:code.length≤mx):CurE (Qm Tryd.prog (n+3)) 45 (rd 1 Qi code) code.length [(tI k)] (fun x:Bool=>True) (fun x:Bool=>(tB x)):=by
 refine CurE.intro (rs:= [ResultVar.tmp 4]) Tryd.func45 Y Y Y (by kernel_rfl) (fun pb nb mb ci ch hci=> ?_)
 obtain ⟨hlim,hmx,hmax⟩:=QG
 show VRun _ _ _ [(0,(T.op 0 0)),(1,(tI k))] [(0,some (Obj.cells [(T.ex pb nb mb (rd 1 Qi code)),(tN ci),(tI ch)]))] 1 _
 refine sr (fO (OF.assign (VEv.bool false)) (nt (sr (mO (T.op 0 0) Y (mO (tI k) Y ?_)))))
 refine eC (us:= [(tI k)]) (r':=fun x_:Int=>(tI x_)) (objs:=fun x_:Int=> []) (m:=0) (k:=0) ci ch VWant.always (vc (tv (T.op 0 0) Y) (vc (tv (tI k) Y) vn)) Y (by omega) (QR Y) (Qj (n+0) code k (by first | assumption | omega | (simp only [List.length_cons,List.length_nil];omega))) Y (fun _=>rfl) (fun _=>rfl) fun e7 i7 h7 hs7 hi7=> ?_
 have hs7:(k≤0→e7=0)∧(0<k→0≤e7∧e7<k):=hs7
 refine fO (ZU (tv (tI e7) Y) (VEv.int .i64 0)) (aO (tB (decide (e7=0))) Y (nt (rt ?_)))
 refine vcur.r (decide (e7=0)) 0 i7 h7 ?_ (VRes.tmp (t:=(tB (decide (e7=0)))) Y VRes.nil) (Give.bool _) Y Y (by omega) (by decide)
 show True
 first | trivial | omega | assumption | (constructor<;>omega)
theorem Qar (n:Nat) (code:List Int) (l:List Int) (hcl:code.length≤mx) (hl:0<l.length) (hl2:l.length≤mx):CurE (Qm Tryd.prog (n+3)) 73 (rd 1 Qi code) code.length [(rd 1 Qh l)] (fun x:Int=>x∈l) (fun x:Int=>(tI x)):=by
 refine CurE.intro (rs:= [ResultVar.tmp 4]) Tryd.func73 Y Y Y (by kernel_rfl) (fun pb nb mb ci ch hci=> ?_)
 obtain ⟨hlim,hmx,hmax⟩:=QG
 show VRun _ _ _ [(0,(T.op 0 0)),(1,(rd 1 Qh l))] [(0,some (Obj.cells [(T.ex pb nb mb (rd 1 Qi code)),(tN ci),(tI ch)]))] 1 _
 refine sr (fO (OF.assign (VEv.int .i64 0)) (nt (sr (mO (rd 1 Qh l) Y (mO (T.op 0 0) Y (mO (rd 1 Qh l) Y (lO (B.lenR (m:=l.length) (tv (rd 1 Qh l) Y) Yn (List.length_map ..)) ?_)))))))
 refine eC (us:= [(tN l.length)]) (r':=fun x_:Int=>(tI x_)) (objs:=fun x_:Int=> []) (m:=0) (k:=0) ci ch VWant.always (vc (tv (T.op 0 0) Y) (vc (tv (tN l.length) Y) vn)) Y (by omega) (QR Y) (Qj (n+0) code ((l.length:Nat):Int) (by first | assumption | omega | (simp only [List.length_cons,List.length_nil];omega))) Y (fun _=>rfl) (fun _=>rfl) fun e9 i9 h9 hs9 hi9=> ?_
 have hs9:(((l.length:Nat):Int)≤0→e9=0)∧(0<((l.length:Nat):Int)→0≤e9∧e9<((l.length:Nat):Int)):=hs9
 obtain ⟨x1,hx1⟩:∃x,l[(Int.toNat e9)]? =some x:=⟨_,List.getElem?_eq_getElem (by omega)⟩
 refine fO (OF.indexAddrR (row:=(Qh false x1)) (i:=(Int.toNat e9)) (tv (rd 1 Qh l) Y) (tv (tI e9) Y) (by omega) (Qs _ hx1) Yn Zg YY) (lO (OL.loadR1 (t:=(tI x1)) (tv (T.rp [(tI x1)]) Y) Y QY) (aO (tI x1) Y (nt (rt ?_))))
 refine vcur.r x1 0 i9 h9 ?_ (VRes.tmp (t:=(tI x1)) Y VRes.nil) (Give.int _ _) Y Y (by omega) (by decide)
 show x1∈l
 exact List.mem_of_getElem? hx1
theorem Zn (n:Nat) (code:List Int) (l:List ByteArray) (hcl:code.length≤mx) (hl:0<l.length) (hl2:l.length≤mx):CurE (Qm Tryd.prog (n+3)) 71 (rd 1 Qi code) code.length [(rd 1 Qf l)] (fun x:ByteArray=>x∈l) (fun x:ByteArray=>(tS x)):=by
 refine CurE.intro (rs:= [ResultVar.tmp 4]) Tryd.func71 Y Y Y (by kernel_rfl) (fun pb nb mb ci ch hci=> ?_)
 obtain ⟨hlim,hmx,hmax⟩:=QG
 show VRun _ _ _ [(0,(T.op 0 0)),(1,(rd 1 Qf l))] [(0,some (Obj.cells [(T.ex pb nb mb (rd 1 Qi code)),(tN ci),(tI ch)]))] 1 _
 refine sr (fO (OF.assign (VEv.str (⟨#[]⟩:ByteArray))) (nt (sr (mO (rd 1 Qf l) Y (mO (T.op 0 0) Y (mO (rd 1 Qf l) Y (lO (B.lenR (m:=l.length) (tv (rd 1 Qf l) Y) Y1 (List.length_map ..)) ?_)))))))
 refine eC (us:= [(tN l.length)]) (r':=fun x_:Int=>(tI x_)) (objs:=fun x_:Int=> []) (m:=0) (k:=0) ci ch VWant.always (vc (tv (T.op 0 0) Y) (vc (tv (tN l.length) Y) vn)) Y (by omega) (QR Y) (Qj (n+0) code ((l.length:Nat):Int) (by first | assumption | omega | (simp only [List.length_cons,List.length_nil];omega))) Y (fun _=>rfl) (fun _=>rfl) fun e9 i9 h9 hs9 hi9=> ?_
 have hs9:(((l.length:Nat):Int)≤0→e9=0)∧(0<((l.length:Nat):Int)→0≤e9∧e9<((l.length:Nat):Int)):=hs9
 obtain ⟨x1,hx1⟩:∃x,l[(Int.toNat e9)]? =some x:=⟨_,List.getElem?_eq_getElem (by omega)⟩
 refine fO (OF.indexAddrR (row:=(Qf false x1)) (i:=(Int.toNat e9)) (tv (rd 1 Qf l) Y) (tv (tI e9) Y) (by omega) (Qs _ hx1) Y1 Yx if9) (lO (OL.loadR1 (t:=(tS x1)) (tv (T.rp [(tS x1)]) Y) Y st9) (aO (tS x1) Y (nt (rt ?_))))
 refine vcur.r x1 0 i9 h9 ?_ (VRes.tmp (t:=(tS x1)) Y VRes.nil) (Give.str _) Y Y (by omega) (by decide)
 show x1∈l
 exact List.mem_of_getElem? hx1
theorem YE (n:Nat):PureE (Qm Tryd.prog (n+1)) 46 [] (fun x:List ByteArray=>x.length=35∧∀y∈x,3≤y.size∧y.size≤9) (fun x:List ByteArray=>(T.sl true 1 (x.map (Qf true)))):=by
 refine PureE.intro (rs:= [ResultVar.tmp 0]) Tryd.func46 Y Y Y (E0:= []) Y ?_
 obtain ⟨hlim,hmx,hmax⟩:=QG
 refine sr (fO (OF.assign VEv.nils) (nt (sr (kO (OM.buildSlice (l:= [(tS (⟨#[99,97,116]⟩:ByteArray)),(tS (⟨#[97,99,116]⟩:ByteArray)),(tS (⟨#[116,97,99]⟩:ByteArray)),(tS (⟨#[97,114,99]⟩:ByteArray)),(tS (⟨#[99,97,114]⟩:ByteArray)),(tS (⟨#[101,114,97]⟩:ByteArray)),(tS (⟨#[97,114,101]⟩:ByteArray)),(tS (⟨#[101,97,114]⟩:ByteArray)),(tS (⟨#[97,116,101]⟩:ByteArray)),(tS (⟨#[116,101,97]⟩:ByteArray)),(tS (⟨#[101,97,116]⟩:ByteArray)),(tS (⟨#[115,101,97]⟩:ByteArray)),(tS (⟨#[116,97,114]⟩:ByteArray)),(tS (⟨#[114,97,116]⟩:ByteArray)),(tS (⟨#[97,114,116]⟩:ByteArray)),(tS (⟨#[97,110,116]⟩:ByteArray)),(tS (⟨#[116,97,110]⟩:ByteArray)),(tS (⟨#[110,101,116]⟩:ByteArray)),(tS (⟨#[116,101,110]⟩:ByteArray)),(tS (⟨#[114,101,115,116]⟩:ByteArray)),(tS (⟨#[116,114,101,101]⟩:ByteArray)),(tS (⟨#[115,116,97,114]⟩:ByteArray)),(tS (⟨#[114,97,116,115]⟩:ByteArray)),(tS (⟨#[97,114,116,115]⟩:ByteArray)),(tS (⟨#[101,97,115,116]⟩:ByteArray)),(tS (⟨#[115,101,97,116]⟩:ByteArray)),(tS (⟨#[116,101,97,115]⟩:ByteArray)),(tS (⟨#[110,101,116,115]⟩:ByteArray)),(tS (⟨#[116,101,110,115]⟩:ByteArray)),(tS (⟨#[115,101,110,116]⟩:ByteArray)),(tS (⟨#[116,114,97,99,101]⟩:ByteArray)),(tS (⟨#[114,101,97,99,116]⟩:ByteArray)),(tS (⟨#[99,114,97,116,101]⟩:ByteArray)),(tS (⟨#[115,116,97,114,101]⟩:ByteArray)),(tS (⟨#[116,101,97,114,115]⟩:ByteArray))]) (VEvp.cons (VEv.str (⟨#[99,97,116]⟩:ByteArray)) (VEvp.cons (VEv.str (⟨#[97,99,116]⟩:ByteArray)) (VEvp.cons (VEv.str (⟨#[116,97,99]⟩:ByteArray)) (VEvp.cons (VEv.str (⟨#[97,114,99]⟩:ByteArray)) (VEvp.cons (VEv.str (⟨#[99,97,114]⟩:ByteArray)) (VEvp.cons (VEv.str (⟨#[101,114,97]⟩:ByteArray)) (VEvp.cons (VEv.str (⟨#[97,114,101]⟩:ByteArray)) (VEvp.cons (VEv.str (⟨#[101,97,114]⟩:ByteArray)) (VEvp.cons (VEv.str (⟨#[97,116,101]⟩:ByteArray)) (VEvp.cons (VEv.str (⟨#[116,101,97]⟩:ByteArray)) (VEvp.cons (VEv.str (⟨#[101,97,116]⟩:ByteArray)) (VEvp.cons (VEv.str (⟨#[115,101,97]⟩:ByteArray)) (VEvp.cons (VEv.str (⟨#[116,97,114]⟩:ByteArray)) (VEvp.cons (VEv.str (⟨#[114,97,116]⟩:ByteArray)) (VEvp.cons (VEv.str (⟨#[97,114,116]⟩:ByteArray)) (VEvp.cons (VEv.str (⟨#[97,110,116]⟩:ByteArray)) (VEvp.cons (VEv.str (⟨#[116,97,110]⟩:ByteArray)) (VEvp.cons (VEv.str (⟨#[110,101,116]⟩:ByteArray)) (VEvp.cons (VEv.str (⟨#[116,101,110]⟩:ByteArray)) (VEvp.cons (VEv.str (⟨#[114,101,115,116]⟩:ByteArray)) (VEvp.cons (VEv.str (⟨#[116,114,101,101]⟩:ByteArray)) (VEvp.cons (VEv.str (⟨#[115,116,97,114]⟩:ByteArray)) (VEvp.cons (VEv.str (⟨#[114,97,116,115]⟩:ByteArray)) (VEvp.cons (VEv.str (⟨#[97,114,116,115]⟩:ByteArray)) (VEvp.cons (VEv.str (⟨#[101,97,115,116]⟩:ByteArray)) (VEvp.cons (VEv.str (⟨#[115,101,97,116]⟩:ByteArray)) (VEvp.cons (VEv.str (⟨#[116,101,97,115]⟩:ByteArray)) (VEvp.cons (VEv.str (⟨#[110,101,116,115]⟩:ByteArray)) (VEvp.cons (VEv.str (⟨#[116,101,110,115]⟩:ByteArray)) (VEvp.cons (VEv.str (⟨#[115,101,110,116]⟩:ByteArray)) (VEvp.cons (VEv.str (⟨#[116,114,97,99,101]⟩:ByteArray)) (VEvp.cons (VEv.str (⟨#[114,101,97,99,116]⟩:ByteArray)) (VEvp.cons (VEv.str (⟨#[99,114,97,116,101]⟩:ByteArray)) (VEvp.cons (VEv.str (⟨#[115,116,97,114,101]⟩:ByteArray)) (VEvp.cons (VEv.str (⟨#[116,101,97,114,115]⟩:ByteArray)) VEvp.nil))))))))))))))))))))))))))))))))))) Y (by decide) (bc (nofun) (bc (nofun) (bc (nofun) (bc (nofun) (bc (nofun) (bc (nofun) (bc (nofun) (bc (nofun) (bc (nofun) (bc (nofun) (bc (nofun) (bc (nofun) (bc (nofun) (bc (nofun) (bc (nofun) (bc (nofun) (bc (nofun) (bc (nofun) (bc (nofun) (bc (nofun) (bc (nofun) (bc (nofun) (bc (nofun) (bc (nofun) (bc (nofun) (bc (nofun) (bc (nofun) (bc (nofun) (bc (nofun) (bc (nofun) (bc (nofun) (bc (nofun) (bc (nofun) (bc (nofun) (bc (nofun) bn))))))))))))))))))))))))))))))))))) (bc ((bc (Y) bn)) (bc ((bc (Y) bn)) (bc ((bc (Y) bn)) (bc ((bc (Y) bn)) (bc ((bc (Y) bn)) (bc ((bc (Y) bn)) (bc ((bc (Y) bn)) (bc ((bc (Y) bn)) (bc ((bc (Y) bn)) (bc ((bc (Y) bn)) (bc ((bc (Y) bn)) (bc ((bc (Y) bn)) (bc ((bc (Y) bn)) (bc ((bc (Y) bn)) (bc ((bc (Y) bn)) (bc ((bc (Y) bn)) (bc ((bc (Y) bn)) (bc ((bc (Y) bn)) (bc ((bc (Y) bn)) (bc ((bc (Y) bn)) (bc ((bc (Y) bn)) (bc ((bc (Y) bn)) (bc ((bc (Y) bn)) (bc ((bc (Y) bn)) (bc ((bc (Y) bn)) (bc ((bc (Y) bn)) (bc ((bc (Y) bn)) (bc ((bc (Y) bn)) (bc ((bc (Y) bn)) (bc ((bc (Y) bn)) (bc ((bc (Y) bn)) (bc ((bc (Y) bn)) (bc ((bc (Y) bn)) (bc ((bc (Y) bn)) (bc ((bc (Y) bn)) bn))))))))))))))))))))))))))))))))))) (bc (Y) (bc (Y) (bc (Y) (bc (Y) (bc (Y) (bc (Y) (bc (Y) (bc (Y) (bc (Y) (bc (Y) (bc (Y) (bc (Y) (bc (Y) (bc (Y) (bc (Y) (bc (Y) (bc (Y) (bc (Y) (bc (Y) (bc (Y) (bc (Y) (bc (Y) (bc (Y) (bc (Y) (bc (Y) (bc (Y) (bc (Y) (bc (Y) (bc (Y) (bc (Y) (bc (Y) (bc (Y) (bc (Y) (bc (Y) (bc (Y) bn))))))))))))))))))))))))))))))))))) Y1 zo9 (by kernel_rfl) Y (by rw [Yx];decide) Yx (Nat.le_of_ble_eq_true Y)) ?_))))
 refine aO (T.os 1 0 0 35) Y (nt (rt ?_))
 refine vfinE.r [(⟨#[99,97,116]⟩:ByteArray),(⟨#[97,99,116]⟩:ByteArray),(⟨#[116,97,99]⟩:ByteArray),(⟨#[97,114,99]⟩:ByteArray),(⟨#[99,97,114]⟩:ByteArray),(⟨#[101,114,97]⟩:ByteArray),(⟨#[97,114,101]⟩:ByteArray),(⟨#[101,97,114]⟩:ByteArray),(⟨#[97,116,101]⟩:ByteArray),(⟨#[116,101,97]⟩:ByteArray),(⟨#[101,97,116]⟩:ByteArray),(⟨#[115,101,97]⟩:ByteArray),(⟨#[116,97,114]⟩:ByteArray),(⟨#[114,97,116]⟩:ByteArray),(⟨#[97,114,116]⟩:ByteArray),(⟨#[97,110,116]⟩:ByteArray),(⟨#[116,97,110]⟩:ByteArray),(⟨#[110,101,116]⟩:ByteArray),(⟨#[116,101,110]⟩:ByteArray),(⟨#[114,101,115,116]⟩:ByteArray),(⟨#[116,114,101,101]⟩:ByteArray),(⟨#[115,116,97,114]⟩:ByteArray),(⟨#[114,97,116,115]⟩:ByteArray),(⟨#[97,114,116,115]⟩:ByteArray),(⟨#[101,97,115,116]⟩:ByteArray),(⟨#[115,101,97,116]⟩:ByteArray),(⟨#[116,101,97,115]⟩:ByteArray),(⟨#[110,101,116,115]⟩:ByteArray),(⟨#[116,101,110,115]⟩:ByteArray),(⟨#[115,101,110,116]⟩:ByteArray),(⟨#[116,114,97,99,101]⟩:ByteArray),(⟨#[114,101,97,99,116]⟩:ByteArray),(⟨#[99,114,97,116,101]⟩:ByteArray),(⟨#[115,116,97,114,101]⟩:ByteArray),(⟨#[116,101,97,114,115]⟩:ByteArray)] ?_ (vfin.r (VRes.tmp (t:=(T.os 1 0 0 35)) Y VRes.nil) (Give.os Y Y (bc (bc (.str _) bn) (bc (bc (.str _) bn) (bc (bc (.str _) bn) (bc (bc (.str _) bn) (bc (bc (.str _) bn) (bc (bc (.str _) bn) (bc (bc (.str _) bn) (bc (bc (.str _) bn) (bc (bc (.str _) bn) (bc (bc (.str _) bn) (bc (bc (.str _) bn) (bc (bc (.str _) bn) (bc (bc (.str _) bn) (bc (bc (.str _) bn) (bc (bc (.str _) bn) (bc (bc (.str _) bn) (bc (bc (.str _) bn) (bc (bc (.str _) bn) (bc (bc (.str _) bn) (bc (bc (.str _) bn) (bc (bc (.str _) bn) (bc (bc (.str _) bn) (bc (bc (.str _) bn) (bc (bc (.str _) bn) (bc (bc (.str _) bn) (bc (bc (.str _) bn) (bc (bc (.str _) bn) (bc (bc (.str _) bn) (bc (bc (.str _) bn) (bc (bc (.str _) bn) (bc (bc (.str _) bn) (bc (bc (.str _) bn) (bc (bc (.str _) bn) (bc (bc (.str _) bn) (bc (bc (.str _) bn) bn)))))))))))))))))))))))))))))))))))))
 show [(⟨#[99,97,116]⟩:ByteArray),(⟨#[97,99,116]⟩:ByteArray),(⟨#[116,97,99]⟩:ByteArray),(⟨#[97,114,99]⟩:ByteArray),(⟨#[99,97,114]⟩:ByteArray),(⟨#[101,114,97]⟩:ByteArray),(⟨#[97,114,101]⟩:ByteArray),(⟨#[101,97,114]⟩:ByteArray),(⟨#[97,116,101]⟩:ByteArray),(⟨#[116,101,97]⟩:ByteArray),(⟨#[101,97,116]⟩:ByteArray),(⟨#[115,101,97]⟩:ByteArray),(⟨#[116,97,114]⟩:ByteArray),(⟨#[114,97,116]⟩:ByteArray),(⟨#[97,114,116]⟩:ByteArray),(⟨#[97,110,116]⟩:ByteArray),(⟨#[116,97,110]⟩:ByteArray),(⟨#[110,101,116]⟩:ByteArray),(⟨#[116,101,110]⟩:ByteArray),(⟨#[114,101,115,116]⟩:ByteArray),(⟨#[116,114,101,101]⟩:ByteArray),(⟨#[115,116,97,114]⟩:ByteArray),(⟨#[114,97,116,115]⟩:ByteArray),(⟨#[97,114,116,115]⟩:ByteArray),(⟨#[101,97,115,116]⟩:ByteArray),(⟨#[115,101,97,116]⟩:ByteArray),(⟨#[116,101,97,115]⟩:ByteArray),(⟨#[110,101,116,115]⟩:ByteArray),(⟨#[116,101,110,115]⟩:ByteArray),(⟨#[115,101,110,116]⟩:ByteArray),(⟨#[116,114,97,99,101]⟩:ByteArray),(⟨#[114,101,97,99,116]⟩:ByteArray),(⟨#[99,114,97,116,101]⟩:ByteArray),(⟨#[115,116,97,114,101]⟩:ByteArray),(⟨#[116,101,97,114,115]⟩:ByteArray)].length=35∧∀y∈ [(⟨#[99,97,116]⟩:ByteArray),(⟨#[97,99,116]⟩:ByteArray),(⟨#[116,97,99]⟩:ByteArray),(⟨#[97,114,99]⟩:ByteArray),(⟨#[99,97,114]⟩:ByteArray),(⟨#[101,114,97]⟩:ByteArray),(⟨#[97,114,101]⟩:ByteArray),(⟨#[101,97,114]⟩:ByteArray),(⟨#[97,116,101]⟩:ByteArray),(⟨#[116,101,97]⟩:ByteArray),(⟨#[101,97,116]⟩:ByteArray),(⟨#[115,101,97]⟩:ByteArray),(⟨#[116,97,114]⟩:ByteArray),(⟨#[114,97,116]⟩:ByteArray),(⟨#[97,114,116]⟩:ByteArray),(⟨#[97,110,116]⟩:ByteArray),(⟨#[116,97,110]⟩:ByteArray),(⟨#[110,101,116]⟩:ByteArray),(⟨#[116,101,110]⟩:ByteArray),(⟨#[114,101,115,116]⟩:ByteArray),(⟨#[116,114,101,101]⟩:ByteArray),(⟨#[115,116,97,114]⟩:ByteArray),(⟨#[114,97,116,115]⟩:ByteArray),(⟨#[97,114,116,115]⟩:ByteArray),(⟨#[101,97,115,116]⟩:ByteArray),(⟨#[115,101,97,116]⟩:ByteArray),(⟨#[116,101,97,115]⟩:ByteArray),(⟨#[110,101,116,115]⟩:ByteArray),(⟨#[116,101,110,115]⟩:ByteArray),(⟨#[115,101,110,116]⟩:ByteArray),(⟨#[116,114,97,99,101]⟩:ByteArray),(⟨#[114,101,97,99,116]⟩:ByteArray),(⟨#[99,114,97,116,101]⟩:ByteArray),(⟨#[115,116,97,114,101]⟩:ByteArray),(⟨#[116,101,97,114,115]⟩:ByteArray)],3≤y.size∧y.size≤9
 exact ⟨rfl,by decide⟩
theorem Zh (n:Nat) (code:List Int) (hcl:code.length≤mx):CurE (Qm Tryd.prog (n+4)) 59 (rd 1 Qi code) code.length [] (fun x:ByteArray=>3≤x.size∧x.size≤9) (fun x:ByteArray=>(tS x)):=by
 refine CurE.intro (rs:= [ResultVar.tmp 2]) Tryd.func59 Y Y Y (by kernel_rfl) (fun pb nb mb ci ch hci=> ?_)
 obtain ⟨hlim,hmx,hmax⟩:=QG
 show VRun _ _ _ [(0,(T.op 0 0))] [(0,some (Obj.cells [(T.ex pb nb mb (rd 1 Qi code)),(tN ci),(tI ch)]))] 1 _
 refine sr (fO (OF.assign (VEv.str (⟨#[]⟩:ByteArray))) (nt (sr (mO (T.op 0 0) Y ?_))))
 refine eP (us:= []) (r':=fun x_:List ByteArray=>(T.os 1 1 0 ((x_.map (Qf true)).length))) (objs:=fun x_:List ByteArray=> [(Obj.rows 1 (x_.map (Qf true)))]) (m:=1) VWant.always vn ln (YE (n+2)) Y (fun _=>rfl) (fun _=>rfl) fun e4 hs4=> ?_
 have hs4:e4.length=35∧∀y∈e4,3≤y.size∧y.size≤9:=hs4
 refine eC (us:= [(rd 1 Qf e4)]) (r':=fun x_:ByteArray=>(tS x_)) (objs:=fun x_:ByteArray=> []) (m:=0) (k:=0) ci ch VWant.always (vc (tv (T.op 0 0) Y) (vc (tv (T.os 1 1 0 ((e4.map (Qf true)).length)) Y) vn)) Y (by omega) (LendL.cons (Lend.os Y Y (okStr.fzMap _ _)) ln) (Zn (n+0) code e4 (by first | assumption | omega | (simp only [List.length_cons,List.length_nil];omega)) (by first | assumption | omega | (simp only [List.length_cons,List.length_nil];omega)) (by first | assumption | omega | (simp only [List.length_cons,List.length_nil];omega))) Y (fun _=>rfl) (fun _=>rfl) fun e5 i5 h5 hs5 hi5=> ?_
 have hs5:e5∈e4:=hs5
 refine aO (tS e5) Y (nt (rt ?_))
 refine vcur.r e5 0 i5 h5 ?_ (VRes.tmp (t:=(tS e5)) Y VRes.nil) (Give.str _) Y Y (by omega) (by decide)
 show 3≤e5.size∧e5.size≤9
 exact hs4.2 _ hs5
theorem Jk (n:Nat) (code:List Int) (hcl:code.length≤mx):CurE (Qm Tryd.prog (n+5)) 63 (rd 1 Qi code) code.length [] (fun x:ByteArray=>x.size≤10) (fun x:ByteArray=>(tS x)):=by
 refine CurE.intro (rs:= [ResultVar.tmp 2]) Tryd.func63 Y Y Y (by kernel_rfl) (fun pb nb mb ci ch hci=> ?_)
 obtain ⟨hlim,hmx,hmax⟩:=QG
 show VRun _ _ _ [(0,(T.op 0 0))] [(0,some (Obj.cells [(T.ex pb nb mb (rd 1 Qi code)),(tN ci),(tI ch)]))] 1 _
 refine sr (fO (OF.assign (VEv.str (⟨#[]⟩:ByteArray))) (nt (sr (mO (T.op 0 0) Y ?_))))
 refine eC (us:= []) (r':=fun x_:ByteArray=>(tS x_)) (objs:=fun x_:ByteArray=> []) (m:=0) (k:=0) ci ch VWant.always (vc (tv (T.op 0 0) Y) vn) Y (by omega) ln (Zh (n+0) code (by first | (have hq1:(ByteArray.mk #[63]).size=1:=rfl;omega) | assumption | omega | (simp only [List.length_cons,List.length_nil];omega))) Y (fun _=>rfl) (fun _=>rfl) fun e5 i5 h5 hs5 hi5=> ?_
 have hs5:3≤e5.size∧e5.size≤9:=hs5
 refine aO (tS e5) Y (nt (sr (mO (T.op 0 0) Y (mO (tS e5) Y (mO (tS e5) Y (mO (tS e5) Y (mO (tS e5) Y (mO (tS e5) Y (mO (tS e5) Y (fO (B.sadd (tv (tS e5) Y) (VEv.str (⟨#[63]⟩:ByteArray)) (by first | (have hq1:(ByteArray.mk #[63]).size=1:=rfl;omega) | omega | (simp only [List.length_map];omega) | (simp only [List.length_map,List.length_append,List.length_cons,List.length_nil,List.length_replicate,List.length_set,List.length_drop,List.length_take,Zb] at *;omega))) (kO (OM.buildSlice (l:= [(tS e5),(tS e5),(tS e5),(tS e5),(tS e5),(tS (⟨#[]⟩:ByteArray)),(tS (⟨#[65]⟩:ByteArray)),(tS (⟨#[97,32,98]⟩:ByteArray)),(tS (⟨#[116,111,111,108,111,110,103,101,114]⟩:ByteArray)),(tS (⟨#[116,111,111,108,111,110,103]⟩:ByteArray)),(tS (e5++(⟨#[63]⟩:ByteArray))),(tS (⟨#[122]⟩:ByteArray))]) (VEvp.cons (tv (tS e5) Y) (VEvp.cons (tv (tS e5) Y) (VEvp.cons (tv (tS e5) Y) (VEvp.cons (tv (tS e5) Y) (VEvp.cons (tv (tS e5) Y) (VEvp.cons (VEv.str (⟨#[]⟩:ByteArray)) (VEvp.cons (VEv.str (⟨#[65]⟩:ByteArray)) (VEvp.cons (VEv.str (⟨#[97,32,98]⟩:ByteArray)) (VEvp.cons (VEv.str (⟨#[116,111,111,108,111,110,103,101,114]⟩:ByteArray)) (VEvp.cons (VEv.str (⟨#[116,111,111,108,111,110,103]⟩:ByteArray)) (VEvp.cons (tv (tS (e5++(⟨#[63]⟩:ByteArray))) Y) (VEvp.cons (VEv.str (⟨#[122]⟩:ByteArray)) VEvp.nil)))))))))))) Y (by decide) (bc (nofun) (bc (nofun) (bc (nofun) (bc (nofun) (bc (nofun) (bc (nofun) (bc (nofun) (bc (nofun) (bc (nofun) (bc (nofun) (bc (nofun) (bc (nofun) bn)))))))))))) (bc ((bc (Y) bn)) (bc ((bc (Y) bn)) (bc ((bc (Y) bn)) (bc ((bc (Y) bn)) (bc ((bc (Y) bn)) (bc ((bc (Y) bn)) (bc ((bc (Y) bn)) (bc ((bc (Y) bn)) (bc ((bc (Y) bn)) (bc ((bc (Y) bn)) (bc ((bc (Y) bn)) (bc ((bc (Y) bn)) bn)))))))))))) (bc (Y) (bc (Y) (bc (Y) (bc (Y) (bc (Y) (bc (Y) (bc (Y) (bc (Y) (bc (Y) (bc (Y) (bc (Y) (bc (Y) bn)))))))))))) Y1 zo9 (by kernel_rfl) Y (by rw [Yx];decide) Yx (Nat.le_of_ble_eq_true Y)) ?_)))))))))))
 refine eC (us:= [(T.sl false 1 [[(tS e5)],[(tS e5)],[(tS e5)],[(tS e5)],[(tS e5)],[(tS (⟨#[]⟩:ByteArray))],[(tS (⟨#[65]⟩:ByteArray))],[(tS (⟨#[97,32,98]⟩:ByteArray))],[(tS (⟨#[116,111,111,108,111,110,103,101,114]⟩:ByteArray))],[(tS (⟨#[116,111,111,108,111,110,103]⟩:ByteArray))],[(tS (e5++(⟨#[63]⟩:ByteArray)))],[(tS (⟨#[122]⟩:ByteArray))]])]) (r':=fun x_:ByteArray=>(tS x_)) (objs:=fun x_:ByteArray=> []) (m:=0) (k:=0) i5 h5 VWant.always (vc (tv (T.op 0 0) Y) (vc (tv (T.os 1 1 0 12) Y) vn)) Y (by omega) (LendL.cons (Lend.os Y Y Y) ln) (Zn (n+1) code [e5,e5,e5,e5,e5,(⟨#[]⟩:ByteArray),(⟨#[65]⟩:ByteArray),(⟨#[97,32,98]⟩:ByteArray),(⟨#[116,111,111,108,111,110,103,101,114]⟩:ByteArray),(⟨#[116,111,111,108,111,110,103]⟩:ByteArray),(e5++(⟨#[63]⟩:ByteArray)),(⟨#[122]⟩:ByteArray)] (by first | (have hq1:(ByteArray.mk #[63]).size=1:=rfl;omega) | assumption | omega | (simp only [List.length_cons,List.length_nil];omega)) (by first | (have hq1:(ByteArray.mk #[63]).size=1:=rfl;omega) | assumption | omega | (simp only [List.length_cons,List.length_nil];omega)) (by first | (have hq1:(ByteArray.mk #[63]).size=1:=rfl;omega) | assumption | omega | (simp only [List.length_cons,List.length_nil];omega))) Y (fun _=>rfl) (fun _=>rfl) fun e15 i15 h15 hs15 hi15=> ?_
 have hs15:e15∈ [e5,e5,e5,e5,e5,(⟨#[]⟩:ByteArray),(⟨#[65]⟩:ByteArray),(⟨#[97,32,98]⟩:ByteArray),(⟨#[116,111,111,108,111,110,103,101,114]⟩:ByteArray),(⟨#[116,111,111,108,111,110,103]⟩:ByteArray),(e5++(⟨#[63]⟩:ByteArray)),(⟨#[122]⟩:ByteArray)]:=hs15
 refine aO (tS e15) Y (nt (rt ?_))
 refine vcur.r e15 0 i15 h15 ?_ (VRes.tmp (t:=(tS e15)) Y VRes.nil) (Give.str _) Y Y (by omega) (by decide)
 show e15.size≤10
 have hq1:(ByteArray.mk #[63]).size=1:=rfl
 simp only [List.mem_cons,List.not_mem_nil,or_false] at hs15
 obtain h | h | h | h | h | h | h | h | h | h | h | h:=hs15<;>rw [h]<;>first | omega | decide | (rw [ByteArray.size_append];omega)
theorem Qb9 (n:Nat) (code:List Int) (hcl:code.length≤mx):CurE (Qm Tryd.prog (n+6)) 47 (rd 1 Qi code) code.length [] (fun x:List ByteArray=>x.length≤5∧∀y∈x,y.size≤10) (fun x:List ByteArray=>(T.sl true 1 (x.map (Qf true)))):=by
 refine CurE.intro (rs:= [ResultVar.tmp 2]) Tryd.func47 Y Y Y (by kernel_rfl) (fun pb nb mb ci ch hci=> ?_)
 obtain ⟨hlim,hmx,hmax⟩:=QG
 show VRun _ _ _ [(0,(T.op 0 0))] [(0,some (Obj.cells [(T.ex pb nb mb (rd 1 Qi code)),(tN ci),(tI ch)]))] 1 _
 refine sr (fO (OF.assign VEv.nils) (nt (sr (kO (OM.slice0 Y1 zo9 (by kernel_rfl) Y (by rw [Yx];decide) Yx) (aO (T.os 1 1 0 0) Y (nt (sq (sr (mO (T.op 0 0) Y ?_)))))))))
 refine eC (us:= [(tN 6)]) (r':=fun x_:Int=>(tI x_)) (objs:=fun x_:Int=> []) (m:=0) (k:=0) ci ch VWant.always (vc (tv (T.op 0 0) Y) (vc (VEv.int .i64 6) vn)) Y (by omega) (QR Y) (Qj (n+3) code (6:Int) (by first | assumption | omega | (simp only [List.length_cons,List.length_nil];omega))) Y (fun _=>rfl) (fun _=>rfl) fun e7 i7 h7 hs7 hi7=> ?_
 have hs7:((6:Int)≤0→e7=0)∧(0<(6:Int)→0≤e7∧e7<(6:Int)):=hs7
 refine aO (tI e7) Y (nt (VRun.block ?_))
 have he1: []=([].map (Qf true)):=by first | rfl | (simp;done) | omega
 refine VRun.loop (A:=Nat×(List ByteArray)×Nat×Int) (fun s_=> [(0,(T.op 0 0)),(2,T.nils),(3,(T.os 1 1 0 ((s_.2.1.map (Qf true)).length))),(4,(tN s_.1))]) (fun s_=>ZR [(0,(Obj.cells [(T.ex pb nb mb (rd 1 Qi code)),(tN s_.2.2.1),(tI s_.2.2.2)])),(1,(Obj.rows 1 (s_.2.1.map (Qf true))))]) 2 (fun s_=>s_.2.2.1≤code.length∧(s_.2.1.length+s_.1≤5∧∀y∈s_.2.1,y.size≤10)) (fun s_=>s_.1) ((Int.toNat e7,[],i7,h7):Nat×(List ByteArray)×Nat×Int) ?_ (Wk.mk (fun k=>k) ?_ ?_ ?_) ?_
 ·refine ⟨by omega,?_⟩
  have h2:=hs7.2 (by decide)
  exact ⟨by simp only [List.length_nil];omega,fun y hy=>nomatch hy⟩
 ·exact (b2 (b2 (bc ⟨(congrArg (fun n_=>T.os 1 1 0 n_) (show 0=([].map (Qf true)).length from (by first | rfl | (simp only [List.length_map];omega) | (simp only [List.length_map,List.length_set,List.length_append,List.length_take,List.length_replicate,List.length_cons,List.length_nil];omega)))),rfl⟩ (bc ⟨(congrArg (T.int .i64) (show e7=(((Int.toNat e7):Nat):Int) from (by first | rfl | omega | (simp;done) | (push_cast;omega)))),rfl⟩ bn))))
 ·exact (b3 (bc ⟨(congrArg (fun l_=>some (Obj.rows 1 l_)) he1),(lb Y),rfl⟩ bn))
 ·exact nd Y
 rintro ⟨k,a,ci0,ch0⟩ (hI':ci0≤code.length∧(a.length+k≤5∧∀y∈a,y.size≤10))
 show VRun _ _ _ [(0,(T.op 0 0)),(2,T.nils),(3,(T.os 1 1 0 ((a.map (Qf true)).length))),(4,(tN k))] (ZR [(0,(Obj.cells [(T.ex pb nb mb (rd 1 Qi code)),(tN ci0),(tI ch0)])),(1,(Obj.rows 1 (a.map (Qf true))))]) 2 _
 have hci0:=hI'.1
 have hI':=hI'.2
 have hI1:=hI'.1
 have hI2:=hI'.2
 refine sq (sr (mO (tN k) Y (fO (B.gtr (c:=(decide (0<k))) (tv (tN k) Y) (VEv.int .i64 0) (Zp (by omega))) (nt ?_))))
 refine cd (0<k) Y (fun fhc0=> ?_) fun fhc0=> ?_
 ·refine sk ?_
  refine tn (sq (VRun.block (VRun.region (mO (T.os 1 1 0 ((a.map (Qf true)).length)) Y (mO (T.op 0 0) Y ?_)))))
  refine eC (us:= []) (r':=fun x_:ByteArray=>(tS x_)) (objs:=fun x_:ByteArray=> []) (m:=0) (k:=0) ci0 ch0 VWant.always (vc (tv (T.op 0 0) Y) vn) Y (by omega) ln (Jk (n+0) code (by first | assumption | omega | (simp only [List.length_cons,List.length_nil];omega))) Y (fun _=>rfl) (fun _=>rfl) fun e14 i14 h14 hs14 hi14=> ?_
  have hs14:e14.size≤10:=hs14
  refine kO (OM.buildSlice (l:= [(tS e14)]) (VEvp.cons (tv (tS e14) Y) VEvp.nil) Y (by decide) (bc (nofun) bn) (bc ((bc (Y) bn)) bn) (bc (Y) bn) Y1 zo9 (by kernel_rfl) Y (by rw [Yx];decide) Yx (Nat.le_of_ble_eq_true Y)) (cO (B.append (rows:=(a.map (Qf true))) (rows2:= [[(tS e14)]]) (rows3:=((a++ [e14]).map (Qf true))) (VDst.own (tv (T.os 1 1 0 ((a.map (Qf true)).length)) Y) Y Y) (VSrc.own (tv (T.os 1 2 0 1) Y) Y Y Y1 (bc (bc Y bn) bn)) (by decide) Y1 Yx (by decide) zo9 Y (of_decide_eq_true (by kernel_rfl)) (by first | omega | (simp only [List.length_map];omega) | (simp only [List.length_map,List.length_append,List.length_cons,List.length_nil,List.length_replicate,List.length_set,List.length_drop,List.length_take,Zb] at *;omega)) ((List.map_append (f:=Qf true) (l₁:=a) (l₂:= [e14])).symm)) (aO (T.os 1 3 0 (((a++ [e14]).map (Qf true)).length)) Y (VRunO.nil (vinB.n (tn (VRun.region (mO (tN k) Y (fO (B.sub (n:=(((k:Nat):Int) - 1)) (tv (tN k) Y) (VEv.int .i64 1) (by first | rfl | (rw [Qg (by omega)];omega) | (rw [Qg (by omega)];done))) (aO (tI (((k:Nat):Int) - 1)) Y (VRunO.nil (tn ?_)))))))))))
  refine ⟨((k - 1,a++ [e14],i14,h14):Nat×(List ByteArray)×Nat×Int),?_,?_,Wk.mk (fun k=>if k=1 then 3 else k) ?_ ?_ ?_⟩
  ·refine ⟨by omega,?_⟩
   exact ⟨by simp only [List.length_append,List.length_cons,List.length_nil];omega,Qek hI2 hs14⟩
  ·first | omega | (simp only [];omega) | (show _<_;omega) | (simp;omega)
  ·exact (b2 (b2 (b2 (bc ⟨(congrArg (T.int .i64) (show (((k:Nat):Int) - 1)=(((k - 1):Nat):Int) from (by first | rfl | omega | (simp;done) | (push_cast;omega)))),rfl⟩ bn))))
  ·exact (b3 (b3 bn))
  ·exact nd Y
 refine VRun.exit (vthn.e (vthn.e (vinB.e (tn (sr (mO (T.os 1 1 0 ((a.map (Qf true)).length)) Y (aO (T.os 1 1 0 ((a.map (Qf true)).length)) Y (nt (rt ?_)))))))))
 refine vcur.r a 0 ci0 ch0 ?_ (VRes.tmp (t:=(T.os 1 1 0 ((a.map (Qf true)).length))) Y VRes.nil) (Give.os Y Y (okStr.cleanMap _)) Y Y (by omega) (by decide)
 show a.length≤5∧∀y∈a,y.size≤10
 exact ⟨by omega,hI2⟩
theorem Jl (n:Nat) (code:List Int) (hcl:code.length≤mx):CurE (Qm Tryd.prog (n+4)) 61 (rd 1 Qi code) code.length [] (fun x:Int=>True) (fun x:Int=>(tI x)):=by
 refine CurE.intro (rs:= [ResultVar.tmp 2]) Tryd.func61 Y Y Y (by kernel_rfl) (fun pb nb mb ci ch hci=> ?_)
 obtain ⟨hlim,hmx,hmax⟩:=QG
 show VRun _ _ _ [(0,(T.op 0 0))] [(0,some (Obj.cells [(T.ex pb nb mb (rd 1 Qi code)),(tN ci),(tI ch)]))] 1 _
 refine sr (fO (OF.assign (VEv.int .i64 0)) (nt (sr (mO (T.op 0 0) Y (kO (OM.buildSlice (l:= [(tI (-1)),(tN 0),(tN 99),(tN 100),(tN 1000),(tN 1001),(tN 9223372036854775807),(tI (-9223372036854775808))]) (VEvp.cons (VEv.int .i64 (-1)) (VEvp.cons (VEv.int .i64 0) (VEvp.cons (VEv.int .i64 99) (VEvp.cons (VEv.int .i64 100) (VEvp.cons (VEv.int .i64 1000) (VEvp.cons (VEv.int .i64 1001) (VEvp.cons (VEv.int .i64 9223372036854775807) (VEvp.cons (VEv.int .i64 (-9223372036854775808)) VEvp.nil)))))))) Y (by decide) (bc (nofun) (bc (nofun) (bc (nofun) (bc (nofun) (bc (nofun) (bc (nofun) (bc (nofun) (bc (nofun) bn)))))))) (bc ((bc (Y) bn)) (bc ((bc (Y) bn)) (bc ((bc (Y) bn)) (bc ((bc (Y) bn)) (bc ((bc (Y) bn)) (bc ((bc (Y) bn)) (bc ((bc (Y) bn)) (bc ((bc (Y) bn)) bn)))))))) (bc (Y) (bc (Y) (bc (Y) (bc (Y) (bc (Y) (bc (Y) (bc (Y) (bc (Y) bn)))))))) Yn zo3 (by kernel_rfl) Y (by rw [Zg];decide) Zg (Nat.le_of_ble_eq_true Y)) ?_)))))
 refine eC (us:= [(T.sl false 1 [[(tI (-1))],[(tN 0)],[(tN 99)],[(tN 100)],[(tN 1000)],[(tN 1001)],[(tN 9223372036854775807)],[(tI (-9223372036854775808))]])]) (r':=fun x_:Int=>(tI x_)) (objs:=fun x_:Int=> []) (m:=0) (k:=0) ci ch VWant.always (vc (tv (T.op 0 0) Y) (vc (tv (T.os 1 1 0 8) Y) vn)) Y (by omega) (LendL.cons (Lend.os Y Y Y) ln) (Qar (n+0) code [(-1),0,99,100,1000,1001,9223372036854775807,(-9223372036854775808)] (by first | assumption | omega | (simp only [List.length_cons,List.length_nil];omega)) (by first | assumption | omega | (simp only [List.length_cons,List.length_nil];omega)) (by first | assumption | omega | (simp only [List.length_cons,List.length_nil];omega))) Y (fun _=>rfl) (fun _=>rfl) fun e5 i5 h5 hs5 hi5=> ?_
 have hs5:e5∈ [(-1),0,99,100,1000,1001,9223372036854775807,(-9223372036854775808)]:=hs5
 refine aO (tI e5) Y (nt (rt ?_))
 refine vcur.r e5 0 i5 h5 ?_ (VRes.tmp (t:=(tI e5)) Y VRes.nil) (Give.int _ _) Y Y (by omega) (by decide)
 show True
 trivial
noncomputable section
theorem dTr {p:Prop} [Decidable p] (h:p):true=decide p:=(decide_eq_true h).symm
theorem dFa {p:Prop} [Decidable p] (h:¬p):false=decide p:=(decide_eq_false h).symm
instance (w:ByteArray) (l:List ByteArray):Decidable (w∈l):=Classical.propDecidable _
theorem Qfh {α:Type} {p:α→Prop} {a:List α} {w:α} (h:∀j y,j<a.length→a[j]? =some y→¬p y) (hm:w∈a):¬p w:=by
 obtain ⟨j,hj⟩:=List.getElem?_of_mem hm
 exact h j w (List.getElem?_eq_some_iff.1 hj).1 hj
end
theorem Ya (n:Nat) (a:List ByteArray) (b:ByteArray) (ha:a.length≤Zb):Pure (Qm Tryd.prog (n+1)) 69 [(rd 1 Qf a),(tS b)] (tI (ixF (fun y=>b=y) a)):=by
 refine Pure.intro (rs:= [ResultVar.tmp 4]) Tryd.func69 Y Y Y (E0:= [(0,(rd 1 Qf a)),(1,(tS b))]) Y ?_
 obtain ⟨hlim,hmx,hmax⟩:=QG
 refine sr (fO (OF.assign (VEv.int .i64 0)) (nt (sq (sr (mO (rd 1 Qf a) Y (lO (B.lenR (m:=a.length) (tv (rd 1 Qf a) Y) Y1 (List.length_map ..)) (fO (OF.move (VEv.int .i64 0)) (nt (VRun.block ?_)))))))))
 refine VRun.loop (A:=Nat) (fun s_=> [(0,(rd 1 Qf a)),(1,(tS b)),(7,(tN a.length)),(8,(tN s_))]) (fun s_=>ZR []) 0 (fun s_=>NoneTo (fun y=>b=y) a s_) (fun s_=>a.length - s_) (0:Nat) ?_ (Wk.mk (fun k=>k) ?_ ?_ ?_) ?_
 ·exact NoneTo.start _ _
 ·exact (b2 (b2 (b2 (b2 bn))))
 ·exact bn
 ·exact nd Y
 rintro i (hI':NoneTo (fun y=>b=y) a i)
 show VRun _ _ _ [(0,(rd 1 Qf a)),(1,(tS b)),(7,(tN a.length)),(8,(tN i))] (ZR []) 0 _
 have hI1:=hI'.1
 refine sr (fO (Yr (tv (tN i) Y) (tv (tN a.length) Y)) (nt (sq ?_)))
 refine cd (i<a.length) Y (fun fhc0=> ?_) fun fhc0=> ?_
 ·refine sk ?_
  refine tn (sq (VRun.block (sr (mO (tN i) Y (aO (tN i) Y (nt (sr (mO (tS b) Y (mO (rd 1 Qf a) Y (mO (tN i) Y ?_))))))))))
  obtain ⟨x1,hx1⟩:∃x,a[i]? =some x:=⟨_,List.getElem?_eq_getElem (by omega)⟩
  refine fO (OF.indexAddrR (row:=(Qf false x1)) (i:=i) (tv (rd 1 Qf a) Y) (tv (tN i) Y) Y (Qs _ hx1) Y1 Yx if9) (lO (OL.loadR1 (t:=(tS x1)) (tv (T.rp [(tS x1)]) Y) Y st9) (fO (B.seql (c:=(decide (b=x1))) (tv (tS b) Y) (tv (tS x1) Y) Y) (nt ?_)))
  refine cd (b=x1) Y (fun fhc1=> ?_) fun fhc1=> ?_
  ·refine sr ?_
   refine mO (tN i) Y (aO (tN i) Y (nt (rt (vinB.r (tr (tr (vinB.r (tr (vi (n':=((i:Nat):Int)) Y ?_)))))))))
   exact (Qch hx1 fhc1 hI'.2).symm
  refine sk (vinB.n (tn (VRun.region (fO (Zu (tv (tN i) Y) (VEv.int .i64 1) (by omega)) (mO (tN (i+1)) Y (VRunO.nil (tn ?_)))))))
  refine ⟨(i+1:Nat),?_,?_,Wk.mk (fun k=>k) ?_ ?_ ?_⟩
  ·exact hI'.next hx1 fhc1
  ·first | omega | (simp only [];omega) | (show _<_;omega) | (simp;omega)
  ·exact (b2 (b2 (b2 (b2 bn))))
  ·exact bn
  ·exact nd Y
 refine VRun.exit (vthn.e (vthn.e (vinB.e (tn (sr (fO (OF.assign (VEv.int .i64 (-1))) (nt (rt (vi (n':=(-1)) Y ?_)))))))))
 exact (Qdp (hI'.all fhc0)).symm
theorem ZK (n:Nat) (a:List ByteArray) (b:ByteArray) (ha:a.length≤Zb):Pure (Qm Tryd.prog (n+2)) 43 [(rd 1 Qf a),(tS b)] (tB (decide (b∈a))):=by
 refine Pure.intro (rs:= [ResultVar.tmp 4]) Tryd.func43 Y Y Y (E0:= [(0,(rd 1 Qf a)),(1,(tS b))]) Y ?_
 obtain ⟨hlim,hmx,hmax⟩:=QG
 refine sr (fO (OF.assign (VEv.bool false)) (nt (sr (mO (rd 1 Qf a) Y (mO (tS b) Y (cO (cS (vc (tv (rd 1 Qf a) Y) (vc (tv (tS b) Y) vn)) (QR Y) (Ya (n+0) a b (by first | assumption | omega)) Y Y) (fO (xge (tv (tI (ixF (fun y=>b=y) a)) Y) (VEv.int .i64 0)) (aO (tB (decide (0≤ixF (fun y=>b=y) a))) Y (nt (rt (vb (b':=(decide (0≤ixF (fun y=>b=y) a))) Y ?_)))))))))))
 refine Zp ?_
 rw [QeX]
 exact ⟨fun ⟨x,h1,h2⟩=>h2▸h1,fun h=>⟨b,h,rfl⟩⟩
theorem Jr (n:Nat) (a:List D.Meaning) (w:ByteArray) (s:Int) (ha:a.length≤Zb):Pure (Qm Tryd.prog (n+1)) 94 [(rd 2 Qa a),(tS w),(tI s)] (tB (decide (D.Meaning.mk w s∈a))):=by
 refine Pure.intro (rs:= [ResultVar.tmp 6]) Tryd.func94 Y Y Y (E0:= [(0,(rd 2 Qa a)),(1,(tS w)),(2,(tI s))]) Y ?_
 obtain ⟨hlim,hmx,hmax⟩:=QG
 refine sr (fO (OF.assign (VEv.bool false)) (nt (sq (sr (fO (OF.assign (VEv.int .i64 0)) (nt (VRun.block ?_)))))))
 refine VRun.loop (A:=Nat) (fun s_=> [(0,(rd 2 Qa a)),(1,(tS w)),(2,(tI s)),(7,(tN s_))]) (fun s_=>ZR []) 0 (fun s_=>NoneTo (fun (y:D.Meaning)=>y.Word=w∧y.Sense=s) a s_) (fun s_=>a.length - s_) (0:Nat) ?_ (Wk.mk (fun k=>k) ?_ ?_ ?_) ?_
 ·exact NoneTo.start _ _
 ·exact (b2 (b2 (b2 (b2 bn))))
 ·exact bn
 ·exact nd Y
 rintro i (hI':NoneTo (fun (y:D.Meaning)=>y.Word=w∧y.Sense=s) a i)
 show VRun _ _ _ [(0,(rd 2 Qa a)),(1,(tS w)),(2,(tI s)),(7,(tN i))] (ZR []) 0 _
 have hI1:=hI'.1
 refine sq (sr (mO (tN i) Y (mO (rd 2 Qa a) Y (lO (B.lenR (m:=a.length) (tv (rd 2 Qa a) Y) YB (List.length_map ..)) (fO (Yr (tv (tN i) Y) (tv (tN a.length) Y)) (nt ?_))))))
 refine cd (i<a.length) Y (fun fhc0=> ?_) fun fhc0=> ?_
 ·refine sk ?_
  refine tn (sq (VRun.block (sr (mO (rd 2 Qa a) Y (mO (tN i) Y ?_)))))
  obtain ⟨x1,hx1⟩:∃x,a[i]? =some x:=⟨_,List.getElem?_eq_getElem (by omega)⟩
  refine fO (OF.indexAddrR (row:=(Qa false x1)) (i:=i) (tv (rd 2 Qa a) Y) (tv (tN i) Y) Y (Qs _ hx1) YB QF Y9) (lr (tS x1.Word) Y (lb Y) Yt Y st9 (mO (tS w) Y (fO (B.seql (c:=(decide (x1.Word=w))) (tv (tS x1.Word) Y) (tv (tS w) Y) Y) (mO (tB (decide (x1.Word=w))) Y ?_))))
  refine VRunO.joinB 8 [22,23,24,25,26,27,28] 29 (tB (decide ((x1.Word=w)∧(x1.Sense=s)))) ?_ ?_
  ·refine gw (x1.Word=w) (fun fhg21_1=> ?_) fun fhg21_1=> ?_
   ·refine gF (dy fhg21_1) Y Y (OF.move (tv (rd 2 Qa a) Y)) ?_
    refine gF (dy fhg21_1) Y Y (OF.move (tv (tN i) Y)) (gF (dy fhg21_1) Y Y (OF.indexAddrR (row:=(Qa false x1)) (i:=i) (tv (rd 2 Qa a) Y) (tv (tN i) Y) Y (Qs _ hx1) YB QF Y9) (glr (tI x1.Sense) (dy fhg21_1) Y Y Y Y (lb Y) Jf Y QY (gF (dy fhg21_1) Y Y (OF.move (tv (tI s) Y)) (gF (dy fhg21_1) Y Y (ZU (tv (tI x1.Sense) Y) (tv (tI s) Y)) (fO (OF.pickT (VEv.tmpB Y (dy fhg21_1)) (tv (tB (decide (x1.Sense=s))) Y)) (VRunO.nil ?_))))))
    exact jq (congrArg T.bool (kAT fhg21_1 Y)) (js Y (js Y (js Y (js Y (js Y (js Y (js Y (jn))))))))
   ·refine QB 7 7 true 21 (dz fhg21_1) Y Y Y ?_
    refine fO (OF.pickF (VEv.tmpB Y (dz fhg21_1)) (VEv.bool false)) (VRunO.nil ?_)
    exact jq (congrArg T.bool (kAF fhg21_1)) (js Y (js Y (js Y (js Y (js Y (js Y (js Y (jn))))))))
  refine nt ?_
  refine cd ((x1.Word=w)∧(x1.Sense=s)) Y (fun fhc1=> ?_) fun fhc1=> ?_
  ·refine sr ?_
   refine fO (OF.assign (VEv.bool true)) (nt (rt (vinB.r (tr (tr (vinB.r (tr (vb (b':=true) Y ?_))))))))
   refine dTr ?_;have hm:=List.mem_of_getElem? hx1;rwa [show x1=D.Meaning.mk w s from by obtain ⟨c1,c2⟩:=x1;simp only at fhc1;rw [fhc1.1,fhc1.2]] at hm
  refine sk (vinB.n (tn (VRun.region (mO (tN i) Y (fO (Zu (tv (tN i) Y) (VEv.int .i64 1) (by omega)) (aO (tN (i+1)) Y (VRunO.nil (tn ?_))))))))
  refine ⟨(i+1:Nat),?_,?_,Wk.mk (fun k=>k) ?_ ?_ ?_⟩
  ·exact hI'.next hx1 fhc1
  ·first | omega | (simp only [];omega) | (show _<_;omega) | (simp;omega)
  ·exact (b2 (b2 (b2 (b2 bn))))
  ·exact bn
  ·exact nd Y
 refine VRun.exit (vthn.e (vthn.e (vinB.e (tn (sr (fO (OF.assign (VEv.bool false)) (nt (rt (vb (b':=false) Y ?_)))))))))
 exact dFa (fun h_=>Qfh (hI'.all fhc0) h_ ⟨rfl,rfl⟩)
theorem Qd5 (n:Nat) (a:List Int):Pure (Qm Tryd.prog (n+1)) 5 [(rd 1 Qi a)] (tB (decide (1048576<a.length))):=by
 refine Pure.intro (rs:= [ResultVar.tmp 2]) Tryd.func5 Y Y Y (E0:= [(0,(rd 1 Qi a))]) Y ?_
 obtain ⟨hlim,hmx,hmax⟩:=QG
 refine sr (fO (OF.assign (VEv.bool false)) (nt (sr (mO (rd 1 Qi a) Y (lO (B.lenR (m:=a.length) (tv (rd 1 Qi a) Y) U22 (List.length_map ..)) (fO (B.gtr (c:=(decide (1048576<a.length))) (tv (tN a.length) Y) (VEv.int .i64 1048576) (Zp (by omega))) (aO (tB (decide (1048576<a.length))) Y (nt (rt ?_)))))))))
 exact vb Y Y
theorem JM (n:Nat) (a:List ByteArray) (w:ByteArray) (ha:a.length≤Zb):Pure (Qm Tryd.prog (n+3)) 14 [(rd 1 Qf a),(tS w)] (tB (decide (w∈a))):=by
 refine Pure.intro (rs:= [ResultVar.tmp 4]) Tryd.func14 Y Y Y (E0:= [(0,(rd 1 Qf a)),(1,(tS w))]) Y ?_
 obtain ⟨hlim,hmx,hmax⟩:=QG
 refine sr (fO (OF.assign (VEv.bool false)) (nt (sr (mO (rd 1 Qf a) Y (mO (tS w) Y (cO (cS (vc (tv (rd 1 Qf a) Y) (vc (tv (tS w) Y) vn)) (QR Y) (ZK (n+0) a w (by first | assumption | omega)) Y Y) (aO (tB (decide (w∈a))) Y (nt (rt ?_)))))))))
 exact vb Y Y
noncomputable section
def ZL (v:Int):Int:=if v=1 then 1 else if v=2 then 2 else if v=3 then 4 else if v=4 then 8 else 0
end
theorem Qb8 (n:Nat) (v:Int):Pure (Qm Tryd.prog (n+2)) 12 [(tI v)] (tI (ZL v)):=by
 refine Pure.intro (rs:= [ResultVar.tmp 2]) Tryd.func12 Y Y Y (E0:= [(0,(tI v))]) Y ?_
 obtain ⟨hlim,hmx,hmax⟩:=QG
 refine sr (fO (OF.assign (VEv.int .i64 0)) (nt (sq (sr (mO (tI v) Y (cO (cS (vc (tv (tI v) Y) (vc (VEv.int .i64 1) (vc (VEv.int .i64 4) vn))) (QR Y) (Zk (n+0) v 1 4) Y Y) (fO (QZ (tv (tB (decide (1≤v∧v≤4))) Y)) (nt ?_))))))))
 refine cn (1≤v∧v≤4) Y (fun fhc0=> ?_) fun fhc0=> ?_
 ·refine sr ?_
  refine fO (OF.assign (VEv.int .i64 0)) (nt (rt (tr (vi (n':=0) Y ?_))))
  symm;unfold ZL;rw [if_neg (by omega),if_neg (by omega),if_neg (by omega),if_neg (by omega)]
 refine sk (tn (sr (mO (tI v) Y (fO (B.sub (n:=(v - 1)) (tv (tI v) Y) (VEv.int .i64 1) (by (have hv:v=1∨v=2∨v=3∨v=4:=(by omega);rcases hv with rfl | rfl | rfl | rfl<;>rfl))) (fO (B.shl (n:=(ZL v)) (VEv.int .i64 1) (tv (tI (v - 1)) Y) (by omega) (by (have hv:v=1∨v=2∨v=3∨v=4:=(by omega);rcases hv with rfl | rfl | rfl | rfl<;>rfl))) (aO (tI (ZL v)) Y (nt (rt ?_))))))))
 exact vi Y Y
end Go.Proofs.YtcglnehpapgfpaaDoor.AE
