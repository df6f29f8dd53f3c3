/- A part of what the row of FnReused uses. Conditions: as each theorem states. -/
import Derived.Test.YtcglnehpapgfpaaZFnReusedb
namespace Go.Proofs.Ytcglnehpapgfpaa.AE
open Go Go.RowKit
set_option linter.unusedVariables false
set_option linter.unusedSimpArgs false
def OCE {α:Type} (call:Qq) (P:Program) (E:Qw) (O:Qi) (nx:Nat) (o:Oper) (X:α→Prop) (t:α→T) (O':α→Qi) (nx':Nat) (ks:List Nat):Prop:=nx≤nx'∧∀(q p:Nat) (h0:LB) (σ:Nat→Option Nat) (hf:AH) (own:Nat→Option Nat) (Ea:Nat→Value) (h:AH),SR p h0 σ hf own E O nx Ea h→(∀t,Under q t→UL p h0 t)→Fr q h →
 ∃x,X x∧∃v h' σ' own',Qg call P q Ea h o=some (v,h')∧Dom q h h'∧(∀k,k<nx→σ' k=σ k)∧SR p h0 σ' hf own' E (O' x) nx' Ea h'∧V σ' hf nx' (t x) v∧(∀a,h a≠none→(∀k∈ks,own a≠some k)→h' a=h a)∧∀a k,own' a=some k→own a=some k∨h a=none∨∃k∈ks,own a=some k
section
variable {α : Type} {call : Qq} {P : Program} {ops : Array Oper} {l : List Oper} {E : Qw} {O : Qi} {nx nx' : Nat} {X : α → Prop} {t : α → T} {O' : α → Qi} {K : Qw → Qi → Nat → Prop}
theorem VRunO.chainE {d:Option Tmp} {op:Op} {ty:TypeId} {ps:String} {af:Array Edge} {g:Option (Nat×Bool)} (hw:VWant ops E ⟨d,op,ty,ps,af,g⟩ true) {ks:List Nat} (hx:OCE call P E O nx ⟨d,op,ty,ps,af,g⟩ X t O' nx' ks) (hk:∀x,X x→VRunO call P ops l (pE E d (t x)) (O' x) nx' K):VRunO call P ops (⟨d,op,ty,ps,af,g⟩::l) E O nx K:=by
 unfold VRunO at hk ⊢
 intro p h0 σ hf own Ea h c i hs
 unfold RunO
 intro hfc
 obtain ⟨x,hX,v,h',σ',own',h1,h2,h3,h4,h5,_⟩:=hx.2 (child p (c+i)) p h0 σ hf own Ea h hs (fun t ht=> .inl (Z7 ht)) (FrC.fr hfc (Nat.le_refl _))
 have:=RunO.step (call:=call) (P:=P) (π:=p) (c:=c) (i:=i) (ops:=ops) (r:=l) (K:=KK p h0 K) Y Y (hw σ hf nx Ea hs.env) h1 (fun _=>h2) (fun _=>hk x hX p h0 _ hf _ _ _ c _ (h4.put h5 d))
 unfold RunO at this
 exact this hfc
end
def PureE {α:Type} (call:Qq) (f:FuncId) (us:List T) (X:α→Prop) (r:α→T):Prop:=∀(h:AH) (p:Nat) (vs:List Value),Fr p h→RL h us vs→CallS call f vs h p (fun v h'=>Quiet h h'∧∃x,X x∧RES p h h' (r x) v)
def vfinE {α:Type} (P:Program) (rs:List ResultVar) (X:α→Prop) (r:α→T):AX→Qw→Qi→Nat→Prop
 | .exit _,_,_,_=>False
 | _,E,O,_=>∃x,X x∧∃ts ks,VRes P E O rs ts∧Give O ks (QaP ts) (r x)
theorem vfinE.r {α:Type} {P:Program} {rs:List ResultVar} {X:α→Prop} {r:α→T} {E:Qw} {O:Qi} {nx:Nat} (x:α) (hx:X x) (h:vfin P rs (r x) .ret E O nx):vfinE P rs X r .ret E O nx:=⟨x,hx,by unfold vfin at h;exact h⟩
theorem V.oneOf {σ:Nat→Option Nat} {hf:AH} {nx:Nat} {us:List T} {l:List Value} (g4:VL σ hf nx us l):V σ hf nx (QaP us) (Zm l):=by
 have hlen:=g4.1
 match us,l,g4,hlen with
 | [],[],g4,_=>exact g4.toTup
 | [t],[v],g4,_ =>
  obtain ⟨v',r',e,g6,_⟩:=g4.tail
  cases e
  exact g6
 | t::t'::us,v::v'::l,g4,_=>exact g4.toTup
 | [],_::_,_,hl=>cases hl
 | [_],[],_,hl=>cases hl
 | [_],_::_::_,_,hl=>cases hl
 | _::_::_,[],_,hl=>cases hl
 | _::_::_,[_],_,hl=>cases hl
theorem PureE.intro {α:Type} {P:Program} {f:FuncId} {fn:Func} {c:Code} {n:Nat} {ts:List T} {X:α→Prop} {r:α→T} (hf:P.funcs[f]? =some fn) (hb:fn.body=some c) (hc:QL fn.ntmps c=true) {rs:List ResultVar} (hrs:fn.results.toList=rs) {E0:Qw} (hE:Qad 0 ts=E0) (hr:VRun (Qo P n) P c E0 [] 0 (vfinE P rs X r)) (hpr:Yc f=true:=by rfl):PureE (Qo P (n+1)) f ts X r:=by
 subst hE
 intro h p vs hfr hvs
 have hs:SR p ⟨h,fun _=>False⟩ (fun _=>none) h (fun _=>none) (Qad 0 ts) [] 0 (fun t=>vs.getD t undef) h:=by
  refine ⟨fun t=> ?_,fun k o hk=>(by cases hk),fun a o ha=>⟨ha,rfl⟩,fun a k ha=>(by cases ha),fun _ _=>rfl,fun t ht=> .inl ht⟩
  rw [Jz,if_neg (by omega),Nat.sub_zero]
  rcases Nat.lt_or_ge t ts.length with h1 | h1
  ·exact .fz (hvs.2 t h1)
  ·rw [List.getD_eq_getElem?_getD,List.getElem?_eq_none h1]
   exact .any _
 unfold VRun at hr
 refine CallS.intro (hpr:=hpr) (Q:=fun v h'=>Quiet h h'∧∃x,X x∧RES p h h' (r x) v) hf hb hc hfr hrs (Run.mono (hr p _ _ h _ _ h 0 hs) ?_)
 rintro e s' ⟨σ,hf',own,E,O,nx,h1,h2⟩
 have key:(∃x,X x∧∃ts ks,VRes P E O rs ts∧Give O ks (QaP ts) (r x))→∃l,Z2 P s'.h s'.E rs=some l∧(fun v h'=>Quiet h h'∧∃x,X x∧RES p h h' (r x) v) (Zm l) (if Qv (Zm l) then ZF h s'.h else YQ p h s'.h):=by
  rintro ⟨x,hX,us,ks,g1,g2⟩
  obtain ⟨l,g3,g4⟩:=g1.run h1
  have g5:=V.oneOf g4
  obtain ⟨N,g6,g7,g8⟩:=g2 p _ σ hf' own E nx s'.E s'.h _ h1 g5
  have hq:Quiet h s'.h:=fun a ha=>by
   have e1:hf' a=h a:=h1.base a ha
   obtain ⟨o,ho⟩:=Option.ne_none_iff_exists'.1 ha
   rw [ho] at e1
   rw [(h1.fro a o e1).1,ho]
  refine ⟨l,g3,?_⟩
  by_cases ht:Qv (Zm l)=true
  ·rw [if_pos ht,J6 hq]
   obtain ⟨rfl,g9⟩:=ZJ g6 ht
   exact ⟨Quiet.refl _,x,hX,[],g9 h,by simp,by simp⟩
  ·rw [if_neg ht]
   have hN:∀a∈N,Under p a∧h a=none:=fun a ha=>by
    obtain ⟨k,_,e⟩:=g8 a ha
    exact ⟨(h1.mine a k e).1.elim id (fun z=>z.elim),(h1.mine a k e).2.1⟩
   exact ⟨Ja hq,x,hX,N,g6.mono (fun _ _ e=>e) (fun a ha=>Y1 (.inr (hN a ha).1)),g7,hN⟩
 cases e with
 | normal=>unfold fin;exact key h2
 | ret=>unfold fin;exact key h2
 | exit id=>exact h2.elim
section
variable {α : Type} {call : Qq} {P : Program} {E : Qw} {O : Qi} {d : Option Tmp} {ty : TypeId} {ps : String} {af : Array Edge} {g : Option (Nat × Bool)} {nx m : Nat} {X : α → Prop} {r r' : α → T} {objs : α → List Obj}
theorem OCE.callX {f:FuncId} {o:Oper} {us:List T} (ho:∀(q p:Nat) (h0:LB) (σ:Nat→Option Nat) (hf:AH) (own:Nat→Option Nat) (Ea:Nat→Value) (h:AH),SR p h0 σ hf own E O nx Ea h→∃vs,Yh P q Ea h o=some (.enter f vs)∧RL h us vs) (hp:PureE call f us X r) (had:∀x,adopt nx (r x)=(r' x,objs x)) (hm:∀x,(objs x).length=m) :
  OCE call P E O nx o X r' (fun x=>ZE O nx (objs x)) (nx+m) []:=⟨Nat.le_add_right _ _,fun q p h0 σ hf own Ea h hs hu hF=>by
 obtain ⟨vs,h1,h2⟩:=ho q p h0 σ hf own Ea h hs
 have h3:=hp h q vs hF h2
 unfold CallS at h3
 obtain ⟨v,h',h4,h5,h6,x,hX,N,h7,h8,h9⟩:=h3
 have hfn:∀a,h a=none→hf a=none:=fun a ha=>by
  cases hh:hf a with
  | none=>rfl
  | some o=>rw [(hs.fro _ _ hh).1] at ha;cases ha
 have h0n:∀a,h a=none→h0.h a=none:=fun a ha=>by
  cases hh:h0.h a with
  | none=>rfl
  | some o =>
   have e1:=hs.base a (by rw [hh];simp)
   rw [hfn a ha,hh] at e1
   cases e1
 have hs':=hs.ext (nx':=nx) (σ':=σ) (own':=own) (h':=h') (Nat.le_refl _) (fun _ _=>rfl) (fun _ _ e=>e) (fun _ _ e=> .inl e) h6 (fun a ha=>by
  rcases h5 a ha with e | e
  ·exact hs.dom a e
  ·exact .inr (hu a e))
 obtain ⟨σ',own',b1,b2,b3,b4⟩:=S.adopt h7 hs' h8 (fun a ha=>by
  obtain ⟨g1,g2⟩:=h9 a ha
  refine ⟨hu a g1,h0n a g2,h7.names a ha,hfn a g2,?_⟩
  cases hh:own a with
  | none=>rfl
  | some k=>exact absurd g2 (hs.mine a k hh).2.2.1)
 rw [had x] at b1 b3
 simp only [hm x] at b1 b3
 refine ⟨x,hX,v,h',σ',own',by simp only [Qg,h1,h4],h5,b2,b1,b3,fun a ha _=>h6 a ha,fun a k hk=> ?_⟩
 by_cases hn:a∈N
 ·exact .inr (.inl (h9 a hn).2)
 ·rw [b4 a hn] at hk
  exact .inl hk⟩
theorem OCE.fn {f:FuncId} {args:Array Operand} {tys:Array TypeId} {ts us:List T} (hb:QT P f=true) (ha:VEvs E args.toList ts) (hl:LendL O ts us) (hp:PureE call f us X r) (had:∀x,adopt nx (r x)=(r' x,objs x)) (hm:∀x,(objs x).length=m) :
  OCE call P E O nx ⟨d, .call ⟨.value (.func f),args,tys⟩,ty,ps,af,g⟩ X r' (fun x=>ZE O nx (objs x)) (nx+m) []:=OCE.callX (fun q p h0 σ hf own Ea h hs=>by
 obtain ⟨vs,h1,h2⟩:=ha σ hf nx Ea hs.env
 exact ⟨vs,AE.X.calls hb h1,hl.V hs h2⟩) hp had hm
end
def YL (p:Option Addr) (n m:Nat) (code:T) (i:Nat) (hh:Int):List T:= [.ex p n m code, .int .i64 ((i:Nat):Int), .int .i64 hh]
def CurE {α:Type} (call:Qq) (f:FuncId) (code:T) (nc:Nat) (us:List T) (X:α→Prop) (r:α→T):Prop:=∀(h:AH) (q a es:Nat) (pb:Option Addr) (nb mb i:Nat) (hh:Int) (vs:List Value),Fr q h→a % 2=1→h a=some (.cells es [.slice pb nb mb, .int .i64 ((i:Nat):Int), .int .i64 hh])→R (h.upd a none) code (.slice pb nb mb)→i≤nc→RL (h.upd a none) us vs →
 CallS call f (.pointer (some ⟨a,0,none⟩)::vs) h q (fun v h'=>(∀b,h b≠none→b≠a→h' b=h b)∧∃x,X x∧∃(i' es':Nat) (hh':Int),i'≤nc∧h' a=some (.cells es' [.slice pb nb mb, .int .i64 ((i':Nat):Int), .int .i64 hh'])∧RES q h h' (r x) v)
def vcur {α:Type} (P:Program) (rs:List ResultVar) (pb:Option Addr) (nb mb:Nat) (code:T) (nc:Nat) (X:α→Prop) (r:α→T):AX→Qw→Qi→Nat→Prop
 | .exit _,_,_,_=>False
 | _,E,O,_=>∃x,X x∧∃(k i':Nat) (hh':Int) (ts:List T) (ks:List Nat),VRes P E O rs ts∧Give O ks (QaP ts) (r x)∧gE E 0= .op k 0∧gO O k=some (.cells (YL pb nb mb code i' hh'))∧i'≤nc∧k∉ks
theorem vcur.r {α:Type} {P:Program} {rs:List ResultVar} {pb:Option Addr} {nb mb nc nx:Nat} {code:T} {X:α→Prop} {r:α→T} {E:Qw} {O:Qi} {ts:List T} {ks:List Nat} (x:α) (k i':Nat) (hh':Int) (hx:X x) (h:VRes P E O rs ts) (hg:Give O ks (QaP ts) (r x)) (h1:gE E 0= .op k 0) (h2:gO O k=some (.cells (YL pb nb mb code i' hh'))) (h3:i'≤nc) (h4:k∉ks):vcur P rs pb nb mb code nc X r .ret E O nx:=⟨x,hx,k,i',hh',ts,ks,h,hg,h1,h2,h3,h4⟩
theorem V.exInv {σ:Nat→Option Nat} {hf:AH} {nx:Nat} {p:Option Addr} {n m:Nat} {t:T} {v:Value} (h:V σ hf nx (.ex p n m t) v):v= .slice p n m∧R hf t (.slice p n m):=by
 cases h with
 | fz hr=>cases hr with | ex _ _ _ _ h=>exact ⟨rfl,h⟩
theorem VL.curInv {σ:Nat→Option Nat} {hf:AH} {nx:Nat} {p:Option Addr} {n m i:Nat} {hh:Int} {code:T} {vs:List Value} (h:VL σ hf nx (YL p n m code i hh) vs):vs= [.slice p n m, .int .i64 ((i:Nat):Int), .int .i64 hh]∧R hf code (.slice p n m):=by
 obtain ⟨v1,l1,rfl,h1,h2⟩:=VL.tail h
 obtain ⟨v2,l2,rfl,h3,h4⟩:=VL.tail h2
 obtain ⟨v3,l3,rfl,h5,h6⟩:=VL.tail h4
 obtain rfl:=List.eq_nil_of_length_eq_zero h6.1.symm
 obtain ⟨rfl,h7⟩:=h1.exInv
 obtain rfl:=V.intInv h3
 obtain rfl:=V.intInv h5
 exact ⟨rfl,h7⟩
theorem VL.curOf {σ:Nat→Option Nat} {hf:AH} {nx:Nat} {p:Option Addr} {n m i:Nat} {hh:Int} {code:T} (h:R hf code (.slice p n m)):VL σ hf nx (YL p n m code i hh) [.slice p n m, .int .i64 ((i:Nat):Int), .int .i64 hh] :=
 .cons (.fz (.ex _ _ _ _ h)) (.cons (.fz (.int _ _)) (.cons (.fz (.int _ _)) (.nil _ _ _)))
theorem CurE.intro {α:Type} {P:Program} {f:FuncId} {fn:Func} {c:Code} {n nc:Nat} {code:T} {us:List T} {X:α→Prop} {r:α→T} {rs:List ResultVar} (hf:P.funcs[f]? =some fn) (hb:fn.body=some c) (hc:QL fn.ntmps c=true) (hrs:fn.results.toList=rs) (hn:noW 0 c=true)
  (hr:∀(pb:Option Addr) (nb mb i:Nat) (hh:Int),i≤nc→VRun (Qo P n) P c (Qad 0 (.op 0 0::us)) [(0,some (.cells (YL pb nb mb code i hh)))] 1 (vcur P rs pb nb mb code nc X r)) (hpr:Yc f=true:=by rfl):CurE (Qo P (n+1)) f code nc us X r:=by
 intro h p a es pb nb mb i hh vs hfp hodd ha hcode hi hvs
 classical
 let hb0:AH:=h.upd a none
 have hb1:∀b,b≠a→hb0 b=h b:=fun b hb=>AH.upd_ne _ hb _
 have hb2:hb0 a=none:=AH.upd_same _ _ _
 have hb3:∀b o,hb0 b=some o→b≠a∧h b=some o:=fun b o hb=>by
  by_cases hm:b=a
  ·rw [hm,hb2] at hb;cases hb
  ·exact ⟨hm,(hb1 b hm).symm.trans hb⟩
 have hs0:SR p ⟨hb0,fun b=>b=a⟩ (fun _=>some a) hb0 (fun b=>if b=a then some 0 else none) (Qad 0 (.op 0 0::us)) [(0,some (.cells (YL pb nb mb code i hh)))] 1 (fun t=>(Value.pointer (some ⟨a,0,none⟩)::vs).getD t undef) h:=by
  refine ⟨fun t=> ?_,fun k o hk=> ?_,fun b o hb=>⟨(hb3 b o hb).2,if_neg (hb3 b o hb).1⟩,fun b k hb=> ?_,fun _ _=>rfl,fun t ht=> ?_⟩
  ·rw [Jz,if_neg (by omega),Nat.sub_zero]
   cases t with
   | zero=>exact .op 0 0 (by omega) Y
   | succ t =>
    rw [List.getD_cons_succ]
    show V _ _ _ _ ((Value.pointer (some ⟨a,0,none⟩)::vs).getD (t+1) undef)
    rw [List.getD_cons_succ]
    rcases Nat.lt_or_ge t us.length with h1 | h1
    ·exact .fz (hvs.2 t h1)
    ·rw [List.getD_eq_getElem?_getD,List.getElem?_eq_none h1]
     exact .any _
  ·simp only [gO] at hk
   split at hk
   ·rename_i e
    subst e
    obtain rfl:=Option.some.inj hk
    exact ⟨by omega,[a],by simp,fun b hb=>by obtain rfl:=List.mem_singleton.1 hb;exact if_pos Y, .cells ha hodd (VL.curOf hcode)⟩
   ·cases hk
  ·split at hb
   ·rename_i hm
    subst hm
    obtain rfl:=Option.some.inj hb
    exact ⟨.inr Y,hb2,by rw [ha];simp,by omega⟩
   ·cases hb
  ·by_cases hm:t=a
   ·exact .inr (.inr hm)
   ·exact .inl (by show hb0 t≠none;rw [hb1 t hm];exact ht)
 have hr':=hr pb nb mb i hh hi
 unfold VRun at hr'
 have hrun:=hr' p _ _ _ _ _ h 0 hs0
 have hrun2:Run (Qo P n) P p c ⟨fun t=>(Value.pointer (some ⟨a,0,none⟩)::vs).getD t undef,h,0⟩ (fun e s=>KK p ⟨hb0,fun b=>b=a⟩ (vcur P rs pb nb mb code nc X r e) s.E s.h∧s.E 0= .pointer (some ⟨a,0,none⟩)):=by
  unfold Run at hrun ⊢
  intro hfc
  obtain ⟨e,s',h1,h2,h3⟩:=hrun hfc
  exact ⟨e,s',h1,h2,h3,Zh _ _ _ _ hn h1⟩
 refine CallS.intro (hpr:=hpr) (rs:=rs) hf hb hc hfp hrs (Run.mono hrun2 ?_)
 rintro e s' ⟨⟨σ',hf',own',E,O,nx,h1,h2⟩,h0⟩
 have key:(∃x,X x∧∃(k i':Nat) (hh':Int) (ts:List T) (ks:List Nat),VRes P E O rs ts∧Give O ks (QaP ts) (r x)∧gE E 0= .op k 0∧gO O k=some (.cells (YL pb nb mb code i' hh'))∧i'≤nc∧k∉ks) →
   ∃l,Z2 P s'.h s'.E rs=some l∧(fun v h'=>(∀b,h b≠none→b≠a→h' b=h b)∧∃x,X x∧∃(i' es':Nat) (hh':Int),i'≤nc∧h' a=some (.cells es' [.slice pb nb mb, .int .i64 ((i':Nat):Int), .int .i64 hh'])∧RES p h h' (r x) v) (Zm l) (if Qv (Zm l) then ZF h s'.h else YQ p h s'.h):=by
  rintro ⟨x,hX,k,i',hh',us',ks,g1,g2,g3,g4,g5,g6⟩
  obtain ⟨l,l1,l2⟩:=g1.run h1
  have g7:=V.oneOf l2
  obtain ⟨N,n1,n2,n3⟩:=g2 p _ σ' hf' own' E nx s'.E s'.h _ h1 g7
  have hbase:∀b o,hb0 b=some o→hf' b=some o:=fun b o hb=>by
   have e3:hf' b=hb0 b:=h1.base b (by show hb0 b≠none;rw [hb];simp)
   rw [e3,hb]
  have hσ:σ' k=some a:=by
   have p2:=h1.env 0
   rw [g3,h0] at p2
   obtain ⟨a',e4,e5,_⟩:=p2.opInv
   cases e4
   exact e5
  have hold:∀b,h b≠none→(if Qv (Zm l) then ZF h s'.h else YQ p h s'.h) b=s'.h b:=fun b hb=>by
   split
   ·unfold ZF
    cases hh:h b with
    | none=>exact absurd hh hb
    | some o=>rfl
   ·exact Y1 (.inl hb)
  have hcell:∃es',s'.h a=some (.cells es' [.slice pb nb mb, .int .i64 ((i':Nat):Int), .int .i64 hh'])∧own' a=some k:=by
   obtain ⟨M,hM1,hM2,e4⟩:=h1.objAt g4
   rw [hσ] at e4
   cases e4 with
   | cells hk hodd hv =>
    obtain ⟨rfl,_⟩:=VL.curInv hv
    exact ⟨_,hk,hM2 a (by simp)⟩
  obtain ⟨es',hc1,hc2⟩:=hcell
  refine ⟨l,l1,fun b hb hba=> ?_,x,hX,i',es',hh',g5,?_,?_⟩
  ·rw [hold b hb]
   obtain ⟨o,ho⟩:=Option.ne_none_iff_exists'.1 hb
   rw [(h1.fro b o (hbase b o ((hb1 b hba).trans ho))).1,ho]
  ·rw [hold a (by rw [ha];simp)]
   exact hc1
  ·have hN:∀b∈N,Under p b∧h b=none:=fun b hb=>by
    obtain ⟨k2,hk2,e⟩:=n3 b hb
    have hba:b≠a:=fun e2=>by
     rw [e2,hc2] at e
     exact g6 (by rw [Option.some.inj e];exact hk2)
    refine ⟨(h1.mine b k2 e).1.elim id (fun z=>absurd z hba),?_⟩
    have:=(h1.mine b k2 e).2.1
    rw [← hb1 b hba]
    exact this
   by_cases ht:Qv (Zm l)=true
   ·rw [if_pos ht]
    obtain ⟨rfl,g9⟩:=ZJ n1 ht
    exact ⟨[],g9 _,by simp,by simp⟩
   ·rw [if_neg ht]
    exact ⟨N,n1.mono (fun _ _ e=>e) (fun b hb=>Y1 (.inr (hN b hb).1)),n2,hN⟩
 cases e with
 | normal=>unfold fin;exact key h2
 | ret=>unfold fin;exact key h2
 | exit id=>exact h2.elim
section
variable {α : Type} {call : Qq} {P : Program} {E : Qw} {O : Qi} {d : Option Tmp} {ty : TypeId} {ps : String} {af : Array Edge} {g : Option (Nat × Bool)} {nx m : Nat} {X : α → Prop} {r r' : α → T} {objs : α → List Obj}
theorem SR.hide {p nx k a:Nat} {h0:LB} {hf h:AH} {σ own:Nat→Option Nat} {E:Qw} {O:Qi} {Ea:Nat→Value} (hs:SR p h0 σ hf own E O nx Ea h) (ha:own a=some k):SR p h0 σ hf (fun b=>if b=a then none else own b) E ((k,none)::O) nx Ea (h.upd a none):=by
 refine ⟨hs.env,fun k' o hk'=> ?_,fun b o hb=> ?_,fun b k' hb=> ?_,hs.base,fun t ht=> ?_⟩
 ·simp only [gO] at hk'
  split at hk'
  ·cases hk'
  ·rename_i hne
   obtain ⟨m1,N,m2,m3,m4⟩:=hs.obj k' o hk'
   have hna:∀b∈N,b≠a:=fun b hb e=>by
    have:=m3 b hb
    rw [e,ha] at this
    exact hne (Option.some.inj this).symm
   exact ⟨m1,N,m2,fun b hb=>by rw [if_neg (hna b hb)];exact m3 b hb,m4.mono (fun _ _ e=>e) (Nat.le_refl _) (fun _ _=>rfl) (fun b hb=>AH.upd_ne _ (hna b hb) _)⟩
 ·obtain ⟨h1,h2⟩:=hs.fro b o hb
  have hba:b≠a:=fun e=>by rw [e,ha] at h2;cases h2
  exact ⟨(AH.upd_ne _ hba _).trans h1,by rw [if_neg hba];exact h2⟩
 ·split at hb
  ·cases hb
  ·rename_i hba
   obtain ⟨m1,m2,m3,m4⟩:=hs.mine b k' hb
   exact ⟨m1,m2,by rw [AH.upd_ne _ hba _];exact m3,m4⟩
 ·unfold AH.upd at ht
  split at ht
  ·exact absurd Y ht
  ·exact hs.dom t ht
theorem OCE.cur {f:FuncId} {args:Array Operand} {tys:Array TypeId} {ts us:List T} {code:T} {nc k i nb mb:Nat} {hh:Int} {pb:Option Addr} (hb:QT P f=true) (ha:VEvs E args.toList (.op k 0::ts)) (hk:gO O k=some (.cells (YL pb nb mb code i hh))) (hi:i≤nc) (hl:LendL ((k,none)::O) ts us) (hp:CurE call f code nc us X r) (had:∀x,adopt nx (r x)=(r' x,objs x)) (hm:∀x,(objs x).length=m) :
  OCE call P E O nx ⟨d, .call ⟨.value (.func f),args,tys⟩,ty,ps,af,g⟩ (fun y:α×Nat×Int=>X y.1∧y.2.1≤nc) (fun y=>r' y.1) (fun y=>ZE ((k,some (.cells (YL pb nb mb code y.2.1 y.2.2)))::O) nx (objs y.1)) (nx+m) [k]:=⟨Nat.le_add_right _ _,fun q p h0 σ hf own Ea h hs hu hF=>by
 obtain ⟨vs0,h1,h2⟩:=ha σ hf nx Ea hs.env
 obtain ⟨vp,vs,rfl,g1,g2⟩:=h2.tail
 obtain ⟨a,rfl,g3,hkn⟩:=g1.opInv
 obtain ⟨hkn',N,hN1,hN2,g5⟩:=hs.obj k _ hk
 rw [g3] at g5
 cases g5 with
 | cells hca hodd hv =>
 rename_i es cs
 obtain ⟨rfl,hcode⟩:=VL.curInv hv
 have hoa:own a=some k:=hN2 a (by simp)
 have hfa:hf a=none:=by
  cases hh:hf a with
  | none=>rfl
  | some o=>have:=(hs.fro a o hh).2;rw [hoa] at this;cases this
 have hcode':R (h.upd a none) code (.slice pb nb mb):=hcode.mono (fun b o hb=>by
  have hba:b≠a:=fun e=>by rw [e,hfa] at hb;cases hb
  exact (AH.upd_ne _ hba _).trans (hs.fro b o hb).1)
 have hvs:RL (h.upd a none) us vs:=hl.V (hs.hide hoa) g2
 have h3:=hp h q a es pb nb mb i hh vs hF hodd hca hcode' hi hvs
 unfold CallS at h3
 obtain ⟨v,h',h4,h5,h6,x,hX,i',es',hh',hi',h7,N,h8,h9,h10⟩:=h3
 have hfn:∀b,h b=none→hf b=none:=fun b hb=>by
  cases hh:hf b with
  | none=>rfl
  | some o=>rw [(hs.fro _ _ hh).1] at hb;cases hb
 have h0n:∀b,h b=none→h0.h b=none:=fun b hb=>by
  cases hh:h0.h b with
  | none=>rfl
  | some o =>
   have e1:=hs.base b (by rw [hh];simp)
   rw [hfn b hb,hh] at e1
   cases e1
 have hs':SR p h0 σ hf own E ((k,some (.cells (YL pb nb mb code i' hh')))::O) nx Ea h':=by
  refine ⟨hs.env,fun k' o hk'=> ?_,fun b o hb=> ?_,fun b k' hb=> ?_,hs.base,fun t ht=> ?_⟩
  ·simp only [gO] at hk'
   split at hk'
   ·rename_i e
    subst e
    obtain rfl:=Option.some.inj hk'
    refine ⟨hkn,[a],by simp,fun b hb=>by obtain rfl:=List.mem_singleton.1 hb;exact hoa,?_⟩
    rw [g3]
    exact .cells h7 hodd (VL.curOf hcode)
   ·rename_i hne
    obtain ⟨m1,N2,m2,m3,m4⟩:=hs.obj k' o hk'
    refine ⟨m1,N2,m2,m3,m4.mono (fun _ _ e=>e) (Nat.le_refl _) (fun _ _=>rfl) (fun b hb=>h6 b (hs.mine b k' (m3 b hb)).2.2.1 (fun e=> ?_))⟩
    have:=m3 b hb
    rw [e,hoa] at this
    exact hne (Option.some.inj this).symm
  ·obtain ⟨e1,e2⟩:=hs.fro b o hb
   exact ⟨(h6 b (by rw [e1];simp) (fun e=>by rw [e,hfa] at hb;cases hb)).trans e1,e2⟩
  ·obtain ⟨m1,m2,m3,m4⟩:=hs.mine b k' hb
   refine ⟨m1,m2,?_,m4⟩
   by_cases hba:b=a
   ·rw [hba,h7];simp
   ·rw [h6 b m3 hba];exact m3
  ·rcases h5 t ht with e | e
   ·exact hs.dom t e
   ·exact .inr (hu t e)
 obtain ⟨σ',own',b1,b2,b3,b4⟩:=S.adopt h8 hs' h9 (fun b hb=>by
  obtain ⟨e1,e2⟩:=h10 b hb
  refine ⟨hu b e1,h0n b e2,h8.names b hb,hfn b e2,?_⟩
  cases hh:own b with
  | none=>rfl
  | some k'=>exact absurd e2 (hs.mine b k' hh).2.2.1)
 rw [had x] at b1 b3
 simp only [hm x] at b1 b3
 refine ⟨(x,i',hh'),⟨hX,hi'⟩,v,h',σ',own',by simp only [Qg,AE.X.calls (P:=P) (p:=q) (h:=h) (d:=d) (ty:=ty) (ps:=ps) (af:=af) (g:=g) (ts:=tys) hb h1,h4],h5,b2,b1,b3,fun b hb hnk=>h6 b hb (fun e=>hnk k (by simp) (e▸hoa)),fun b k2 hk2=> ?_⟩
 by_cases hn:b∈N
 ·exact .inr (.inl (h10 b hn).2)
 ·rw [b4 b hn] at hk2
  exact .inl hk2⟩
end
def NewC (call:Qq) (f:FuncId) (code:T):Prop:=∀(h:AH) (q:Nat) (pb:Option Addr) (nb mb:Nat),Fr q h→R h code (.slice pb nb mb)→CallS call f [.slice pb nb mb] h q (fun v h'=>Quiet h h'∧∃(a es:Nat) (hh:Int),v= .pointer (some ⟨a,0,none⟩)∧a % 2=1∧Under q a∧h a=none∧h' a=some (.cells es [.slice pb nb mb, .int .i64 ((0:Nat):Int), .int .i64 hh]))
def vnew (P:Program) (rs:List ResultVar) (pb:Option Addr) (nb mb:Nat) (code:T):AX→Qw→Qi→Nat→Prop
 | .exit _,_,_,_=>False
 | _,E,O,_=>∃(k:Nat) (hh:Int),VRes P E O rs [.op k 0]∧gO O k=some (.cells (YL pb nb mb code 0 hh))
theorem vnew.r {P:Program} {rs:List ResultVar} {pb:Option Addr} {nb mb nx:Nat} {code:T} {E:Qw} {O:Qi} (k:Nat) (hh:Int) (h:VRes P E O rs [.op k 0]) (h2:gO O k=some (.cells (YL pb nb mb code 0 hh))):vnew P rs pb nb mb code .ret E O nx:=⟨k,hh,h,h2⟩
theorem NewC.intro {P:Program} {f:FuncId} {fn:Func} {c:Code} {n:Nat} {code:T} {rs:List ResultVar} (hf:P.funcs[f]? =some fn) (hb:fn.body=some c) (hc:QL fn.ntmps c=true) (hrs:fn.results.toList=rs)
  (hr:∀(pb:Option Addr) (nb mb:Nat),VRun (Qo P n) P c (Qad 0 [.ex pb nb mb code]) [] 0 (vnew P rs pb nb mb code)) (hpr:Yc f=true:=by rfl):NewC (Qo P (n+1)) f code:=by
 intro h p pb nb mb hfr hcode
 have hvs:RL h [.ex pb nb mb code] [.slice pb nb mb]:=RL.cons (.ex _ _ _ _ hcode) (RL.nil _)
 have hs:SR p ⟨h,fun _=>False⟩ (fun _=>none) h (fun _=>none) (Qad 0 [.ex pb nb mb code]) [] 0 (fun t=> [Value.slice pb nb mb].getD t undef) h:=by
  refine ⟨fun t=> ?_,fun k o hk=>(by cases hk),fun a o ha=>⟨ha,rfl⟩,fun a k ha=>(by cases ha),fun _ _=>rfl,fun t ht=> .inl ht⟩
  rw [Jz,if_neg (by omega),Nat.sub_zero]
  rcases Nat.lt_or_ge t 1 with h1 | h1
  ·exact .fz (hvs.2 t h1)
  ·rw [List.getD_eq_getElem?_getD,List.getElem?_eq_none (by simpa using h1)]
   exact .any _
 have hr':=hr pb nb mb
 unfold VRun at hr'
 refine CallS.intro (hpr:=hpr) (rs:=rs) hf hb hc hfr hrs (Run.mono (hr' p _ _ h _ _ h 0 hs) ?_)
 rintro e s' ⟨σ,hf',own,E,O,nx,h1,h2⟩
 have key:(∃(k:Nat) (hh:Int),VRes P E O rs [.op k 0]∧gO O k=some (.cells (YL pb nb mb code 0 hh)))→∃l,Z2 P s'.h s'.E rs=some l∧(fun v h'=>Quiet h h'∧∃(a es:Nat) (hh:Int),v= .pointer (some ⟨a,0,none⟩)∧a % 2=1∧Under p a∧h a=none∧h' a=some (.cells es [.slice pb nb mb, .int .i64 ((0:Nat):Int), .int .i64 hh])) (Zm l) (if Qv (Zm l) then ZF h s'.h else YQ p h s'.h):=by
  rintro ⟨k,hh,g1,g2⟩
  obtain ⟨l,g3,g4⟩:=g1.run h1
  obtain ⟨v,l',rfl,g5,g6⟩:=VL.tail g4
  obtain rfl:=List.eq_nil_of_length_eq_zero g6.1.symm
  obtain ⟨a,rfl,g7,_⟩:=g5.opInv
  obtain ⟨M,hM1,hM2,e4⟩:=h1.objAt g2
  rw [g7] at e4
  cases e4 with
  | cells hk hodd hv =>
  obtain ⟨rfl,_⟩:=VL.curInv hv
  have hoa:=hM2 a (by simp)
  have hm:=h1.mine a k hoa
  have hq:Quiet h s'.h:=fun b hb=>by
   have e1:hf' b=h b:=h1.base b hb
   obtain ⟨o,ho⟩:=Option.ne_none_iff_exists'.1 hb
   rw [ho] at e1
   rw [(h1.fro b o e1).1,ho]
  have hu:Under p a:=hm.1.elim id (fun z=>z.elim)
  refine ⟨_,g3,?_⟩
  have ht:¬Qv (Zm [Value.pointer (some ⟨a,0,none⟩)])=true:=by simp [Zm,Qv,closedV,closed1]
  rw [if_neg ht]
  exact ⟨Ja hq,a,_,hh,rfl,hodd,hu,hm.2.1,(Y1 (.inr hu)).trans hk⟩
 cases e with
 | normal=>unfold fin;exact key h2
 | ret=>unfold fin;exact key h2
 | exit id=>exact h2.elim
section
variable {call : Qq} {P : Program} {E : Qw} {O : Qi} {d : Option Tmp} {ty : TypeId} {ps : String} {af : Array Edge} {g : Option (Nat × Bool)} {nx : Nat}
theorem R.slForm {hf:AH} {sz:Nat} {rows:List (List T)} {v:Value} (h:R hf (.sl false sz rows) v):∃p n m,v= .slice p n m:=by
 generalize hT:T.sl false sz rows=tr at h
 cases h<;>first | exact ⟨_,_,_,rfl⟩ | cases hT
theorem OCE.newC {f:FuncId} {args:Array Operand} {tys:Array TypeId} {sz:Nat} {rows:List (List T)} (hb:QT P f=true) (ha:VEvs E args.toList [.sl false sz rows]) (hp:NewC call f (.sl false sz rows)) :
    OCE call P E O nx ⟨d, .call ⟨.value (.func f),args,tys⟩,ty,ps,af,g⟩ (fun _:Option Addr×Nat×Nat×Int=>True) (fun _=> .op nx 0) (fun y=>(nx,some (.cells (YL y.1 y.2.1 y.2.2.1 (.sl false sz rows) 0 y.2.2.2)))::O) (nx+1) []:=⟨Nat.le_succ _,fun q p h0 σ hf own Ea h hs hu hF=>by
  obtain ⟨vs0,h1,h2⟩:=ha σ hf nx Ea hs.env
  obtain ⟨vp,vs,rfl,g1,g2⟩:=h2.tail
  obtain rfl:=List.eq_nil_of_length_eq_zero g2.1.symm
  have g3:R hf (.sl false sz rows) vp:=g1.slInv
  obtain ⟨pb,nb,mb,rfl⟩:=g3.slForm
  have hmono:∀b o,hf b=some o→h b=some o:=fun b o hb=>(hs.fro b o hb).1
  have h3:=hp h q pb nb mb hF (g3.mono hmono)
  unfold CallS at h3
  obtain ⟨v,h',h4,h5,h6,a,es,hh,rfl,hodd,hua,han,hac⟩:=h3
  have hfn:hf a=none:=by
    cases hq:hf a with
    | none=>rfl
    | some o=>rw [hmono a o hq] at han;cases han
  have h0n:h0.h a=none:=by
    cases hq:h0.h a with
    | none=>rfl
    | some o =>
      have e1:=hs.base a (by rw [hq];simp)
      rw [hfn,hq] at e1
      cases e1
  have hon:own a=none:=by
    cases hq:own a with
    | none=>rfl
    | some k=>exact absurd han (hs.mine a k hq).2.2.1
  have hx:=hs.ext (nx':=nx+1) (σ':=fun k=>if k=nx then some a else σ k) (own':=fun b=>if b=a then some nx else own b) (h':=h') (by omega) (fun k hk=>if_neg (by omega))
    (fun b k hb=>by
      have:b≠a:=fun e=>by rw [e,hon] at hb;cases hb
      simp only [if_neg this]
      exact hb)
    (fun b k hb=>by
      split at hb
      · rename_i e
        subst e
        obtain rfl:=Option.some.inj hb
        exact .inr ⟨hu _ hua,h0n,by rw [hac];simp,by omega,hfn⟩
      · exact .inl hb)
    (fun b hb=>h6 b hb)
    (fun t ht=>by
      rcases h5 t ht with e | e
      · exact hs.dom t e
      · exact .inr (hu t e))
  refine ⟨(pb,nb,mb,hh),trivial, .pointer (some ⟨a,0,none⟩),h',fun k=>if k=nx then some a else σ k,fun b=>if b=a then some nx else own b,by simp only [Qg,AE.X.calls (P:=P) (p:=q) (h:=h) (d:=d) (ty:=ty) (ps:=ps) (af:=af) (g:=g) (ts:=tys) hb h1,h4],h5,fun k hk=>if_neg (by omega),⟨hx.env,fun k o hk=> ?_,hx.fro,hx.mine,hx.base,hx.dom⟩, .op nx 0 (by omega) (by simp),fun b hb _=>h6 b hb,fun b k hk=> ?_⟩
  · simp only [gO] at hk
    split at hk
    · rename_i e
      subst e
      obtain rfl:=Option.some.inj hk
      refine ⟨by omega,[a],by simp,fun b hb=>by obtain rfl:=List.mem_singleton.1 hb;simp,?_⟩
      simp only [if_true]
      exact .cells hac hodd (VL.curOf g3)
    · exact hx.obj k o hk
  · simp only at hk
    split at hk
    · rename_i e
      subst e
      exact .inr (.inl han)
    · exact .inl hk⟩
end
theorem VEv.unex {E:Qw} {x:Operand} {p:Option Addr} {n m:Nat} {t:T} (h:VEv E x (.ex p n m t)):VEv E x t:=fun σ hf nx Ea he=>by
 obtain ⟨v,h1,h2⟩:=h σ hf nx Ea he
 obtain ⟨rfl,h3⟩:=h2.exInv
 exact ⟨_,h1, .fz h3⟩
def QU (k:IntKind) (a b:Int):Int:=k.wrap ((BitVec.ofInt k.bits a &&& BitVec.ofInt k.bits b).toNat:Nat)
def ZI (k:IntKind) (a b:Int):Int:=k.wrap ((BitVec.ofInt k.bits a ^^^ BitVec.ofInt k.bits b).toNat:Nat)
def QJ (k:IntKind) (a b:Int):Int:=a.fdiv (2 ^ (min b.toNat k.bits))
theorem QeZ {P:Program} {t:TypeId} {xo yo:Operand} {k:IntKind} {a b:Int}:QP P .and t xo yo (.int k a) (.int k b)=some (.int k (QU k a b)):=by
 simp [QP,aeq,Z4,closedV,closed1,eqGuard,binOp,Qz,Op.intBits,Yw,QU]
theorem QeS {P:Program} {t:TypeId} {xo yo:Operand} {k:IntKind} {a b:Int}:QP P .xor t xo yo (.int k a) (.int k b)=some (.int k (ZI k a b)):=by
 simp [QP,aeq,Z4,closedV,closed1,eqGuard,binOp,Qz,Op.intBits,Yw,ZI]
theorem QeX {P:Program} {t:TypeId} {xo yo:Operand} {k k2:IntKind} {a b:Int} (h:0≤b):QP P .shr t xo yo (.int k a) (.int k2 b)=some (.int k (QJ k a b)):=by
 have:¬b<0:=by omega
 simp [QP,aeq,Z4,closedV,closed1,eqGuard,binOp,Qz,Op.shift,Yw,this,QJ]
section
variable {call : Qq} {P : Program} {E : Qw} {d : Option Tmp} {ty xt tt : TypeId} {ps : String} {af : Array Edge} {g : Option (Nat × Bool)} {x y : Operand} {k k2 : IntKind} {a b n : Int}
theorem B.and (hx:VEv E x (.int k a)) (hy:VEv E y (.int k b)) (he:QU k a b=n):OF call P E ⟨d, .binOp .and tt x y xt,ty,ps,af,g⟩ (.int k n):=he▸OF.bin hx hy (.int _ _) (.int _ _) QeZ (.int _ _)
theorem B.xor (hx:VEv E x (.int k a)) (hy:VEv E y (.int k b)) (he:ZI k a b=n):OF call P E ⟨d, .binOp .xor tt x y xt,ty,ps,af,g⟩ (.int k n):=he▸OF.bin hx hy (.int _ _) (.int _ _) QeS (.int _ _)
theorem B.shr (hx:VEv E x (.int k a)) (hy:VEv E y (.int k2 b)) (hb:0≤b) (he:QJ k a b=n):OF call P E ⟨d, .binOp .shr tt x y xt,ty,ps,af,g⟩ (.int k n):=he▸OF.bin hx hy (.int _ _) (.int _ _) (QeX hb) (.int _ _)
end
theorem QaH (a:Int) {m:Nat} (hm:m<2 ^ 63):0≤QU .i64 a m∧QU .i64 a m≤m:=by
 have h1:(BitVec.ofInt 64 a &&& BitVec.ofInt 64 (m:Int)).toNat≤m:=by
  rw [BitVec.toNat_and]
  refine Nat.le_trans Nat.and_le_right ?_
  rw [BitVec.toNat_ofInt]
  omega
 show 0≤IntKind.i64.wrap (((BitVec.ofInt 64 a &&& BitVec.ofInt 64 (m:Int)).toNat:Nat):Int)∧IntKind.i64.wrap (((BitVec.ofInt 64 a &&& BitVec.ofInt 64 (m:Int)).toNat:Nat):Int)≤m
 generalize (BitVec.ofInt 64 a &&& BitVec.ofInt 64 (m:Int)).toNat=r at h1
 rw [IntKind.wrap_i64]
 omega
theorem QdU (a:Int):0≤QU .i64 a 255∧QU .i64 a 255≤255:=QaH a (m:=255) (by decide)
section
variable {α : Type} {call : Qq} {P : Program} {ops : Array Oper} {l : List Oper} {E : Qw} {O : Qi} {nx m : Nat} {X : α → Prop} {r r' : α → T} {objs : α → List Obj} {K : Qw → Qi → Nat → Prop} {d : Option Tmp} {ty : TypeId} {ps : String} {af : Array Edge} {g : Option (Nat × Bool)} {f : FuncId} {args : Array Operand} {tys : Array TypeId} {ts us : List T}
theorem eP (hw:VWant ops E ⟨d, .call ⟨.value (.func f),args,tys⟩,ty,ps,af,g⟩ true) (ha:VEvs E args.toList ts) (hl:LendL O ts us) (hp:PureE call f us X r) (hb:QT P f=true) (had:∀x,adopt nx (r x)=(r' x,objs x)) (hm:∀x,(objs x).length=m)
  (hk:∀x,X x→VRunO call P ops l (pE E d (r' x)) (ZE O nx (objs x)) (nx+m) K):VRunO call P ops (⟨d, .call ⟨.value (.func f),args,tys⟩,ty,ps,af,g⟩::l) E O nx K:=VRunO.chainE hw (OCE.fn hb ha hl hp had hm) hk
theorem eC {code:T} {nc k nb mb:Nat} {pb:Option Addr} (i:Nat) (hh:Int) (hw:VWant ops E ⟨d, .call ⟨.value (.func f),args,tys⟩,ty,ps,af,g⟩ true) (ha:VEvs E args.toList (.op k 0::ts)) (hko:gO O k=some (.cells (YL pb nb mb code i hh))) (hi:i≤nc) (hl:LendL ((k,none)::O) ts us) (hp:CurE call f code nc us X r) (hb:QT P f=true) (had:∀x,adopt nx (r x)=(r' x,objs x)) (hm:∀x,(objs x).length=m)
  (hk:∀(x:α) (i':Nat) (hh':Int),X x→i'≤nc→VRunO call P ops l (pE E d (r' x)) (ZE ((k,some (.cells (YL pb nb mb code i' hh')))::O) nx (objs x)) (nx+m) K):VRunO call P ops (⟨d, .call ⟨.value (.func f),args,tys⟩,ty,ps,af,g⟩::l) E O nx K:=VRunO.chainE hw (OCE.cur hb ha hko hi hl hp had hm) (fun y hy=>hk y.1 y.2.1 y.2.2 hy.1 hy.2)
theorem eN {sz:Nat} {rows:List (List T)} (hw:VWant ops E ⟨d, .call ⟨.value (.func f),args,tys⟩,ty,ps,af,g⟩ true) (ha:VEvs E args.toList [.sl false sz rows]) (hp:NewC call f (.sl false sz rows)) (hb:QT P f=true)
  (hk:∀(pb:Option Addr) (nb mb:Nat) (hh:Int),VRunO call P ops l (pE E d (.op nx 0)) ((nx,some (.cells (YL pb nb mb (.sl false sz rows) 0 hh)))::O) (nx+1) K):VRunO call P ops (⟨d, .call ⟨.value (.func f),args,tys⟩,ty,ps,af,g⟩::l) E O nx K:=VRunO.chainE hw (OCE.newC hb ha hp) (fun y _=>hk y.1 y.2.1 y.2.2.1 y.2.2.2)
end
def Qa (m:Bool) (x:D.Used):List T:= [.str x.Word, .int .i64 x.Issue]
theorem okeUsed : EncOk Qa 2:=⟨fun _ _=>rfl,fun x=>Q7 (.str _) (Q7 (.int _ _) (Jp)),fun m x=>by simp only [Qa,fzL,AE.fz],fun m x=>Q7 Y (Q7 Y (Jp)),fun x=>Q7 Y (Q7 Y (Jp))⟩
def QC (x:D.Used):Nat:=ByteArray.size x.Word
theorem Qdu : Qfi Qa:=fun _ _=>rfl
theorem U3 : Try.prog.underlying 3=some (.int .i64):=Try.underlying3
theorem U4 : Try.prog.underlying 4=some .bool:=Try.underlying4
theorem U5 : Try.prog.underlying 5=some (.int .u8):=Try.underlying5
theorem U9 : Try.prog.underlying 9=some .string:=Try.underlying9
theorem U22 : Try.prog.underlying 22=some (.slice 5):=Try.underlying22
theorem Zc : Try.prog.underlying 24=some (.slice 43):=Try.underlying24
theorem Jm : Try.prog.underlying 25=some (.slice 9):=Try.underlying25
theorem U49 : Try.prog.underlying 49=some (.slice 3):=Try.underlying49
set_option maxRecDepth 20000
set_option maxHeartbeats 2000000
noncomputable section
theorem YU {ok:Nat→Prop} {i n:Nat} (h:i≤n∧∀j,j<i→ok j) (hi:i<n) (hk:ok i):i+1≤n∧∀j,j<i+1→ok j:=by
 refine ⟨hi,fun j hj=> ?_⟩
 rcases Nat.lt_or_ge j i with h1 | h1
 ·exact h.2 j h1
 ·obtain rfl:j=i:=by omega
  exact hk
theorem Zu {ok:Nat→Prop} {i n:Nat} (h:i≤n∧∀j,j<i→ok j) (hi:¬i<n):∀j,j<n→ok j:=fun j hj=>h.2 j (by omega)
theorem QD {α:Type} {l:List α} {i:Nat} {x y:α} (hx:l[i]? =some x) (hy:l[i]? =some y):y=x:=by
 rw [hx] at hy
 exact (Option.some.inj hy).symm
def Zf (s:ByteArray):Prop:=(1≤s.size∧s.size≤8)∧∀i,i<s.size→97≤Js s i∧Js s i≤122
instance (s:ByteArray):Decidable (Zf s):=Classical.propDecidable _
def QY (a b:ByteArray):Bool:=if a.size=b.size then Op.bytesLess a.toList b.toList else decide (a.size<b.size)
def ixF {α:Type} (p:α→Prop) [DecidablePred p]:List α→Int
 | []=> -1
 | x::r=>if p x then 0 else if ixF p r<0 then -1 else ixF p r+1
theorem Qa5 {α:Type} {p:α→Prop} [DecidablePred p]:∀ {l:List α} {i:Nat} {x:α},l[i]? =some x→p x→(∀j y,j<i→l[j]? =some y→¬p y)→ixF p l=i
 | [],i,x,h,_,_=>by simp at h
 | y::r,0,x,h,hp,_=>by
  obtain rfl:y=x:=by simpa using h
  simp only [ixF,if_pos hp]
  rfl
 | y::r,i+1,x,h,hp,hn=>by
  have h1:=Qa5 (l:=r) (i:=i) (by simpa using h) hp (fun j z hj hz=>hn (j+1) z (by omega) (by simpa using hz))
  have h2:¬p y:=hn 0 y (by omega) (by simp)
  simp only [ixF,if_neg h2,h1]
  rw [if_neg (by omega)]
  rfl
theorem QbY {α:Type} {p:α→Prop} [DecidablePred p]:∀ {l:List α},(∀j y,j<l.length→l[j]? =some y→¬p y)→ixF p l= -1
 | [],_=>rfl
 | y::r,hn=>by
  have h1:=QbY (l:=r) (fun j z hj hz=>hn (j+1) z (by simp;omega) (by simpa using hz))
  have h2:¬p y:=hn 0 y (by simp) (by simp)
  simp only [ixF,if_neg h2,h1]
  rfl
theorem QdE {α:Type} {p:α→Prop} [DecidablePred p]:∀ {l:List α},0≤ixF p l↔∃x∈l,p x
 | []=>by simp [ixF]
 | y::r=>by
  have h1:=QdE (p:=p) (l:=r)
  simp only [ixF,List.mem_cons,exists_eq_or_imp]
  by_cases hy:p y
  ·simp [hy]
  ·simp only [if_neg hy,hy,false_or]
   rw [← h1]
   by_cases h:ixF p r<0
   ·rw [if_pos h]
    exact ⟨fun h2=>absurd h2 (by decide),fun h2=>by omega⟩
   ·rw [if_neg h]
    exact ⟨fun h2=>by omega,fun h2=>by omega⟩
def NoneTo {α:Type} (p:α→Prop) (l:List α) (i:Nat):Prop:=i≤l.length∧∀j y,j<i→l[j]? =some y→¬p y
theorem NoneTo.start {α:Type} (p:α→Prop) (l:List α):NoneTo p l 0:=⟨Nat.zero_le _,fun j y hj=>by omega⟩
theorem NoneTo.next {α:Type} {p:α→Prop} {l:List α} {i:Nat} {x:α} (h:NoneTo p l i) (hx:l[i]? =some x) (hn:¬p x):NoneTo p l (i+1):=by
 have:=(List.getElem?_eq_some_iff.1 hx).1
 refine ⟨by omega,fun j y hj hy=> ?_⟩
 rcases Nat.lt_or_ge j i with h1 | h1
 ·exact h.2 j y h1 hy
 ·obtain rfl:j=i:=by omega
  rw [hx] at hy
  exact Option.some.inj hy▸hn
theorem NoneTo.all {α:Type} {p:α→Prop} {l:List α} {i:Nat} (h:NoneTo p l i) (hi:¬i<l.length):∀j y,j<l.length→l[j]? =some y→¬p y:=fun j y hj hy=>h.2 j y (by omega) hy
end
theorem J1 (n:Nat) (a:Int) (b:Int) (c:Int):Pure (Qo Try.prog (n+1)) 47 [(tI a),(tI b),(tI c)] (tB (decide (b≤a∧a≤c))):=by
 refine Pure.intro (rs:= [ResultVar.tmp 6]) Try.func47 Y Y Y (E0:= [(0,(tI a)),(1,(tI b)),(2,(tI c))]) Y ?_
 obtain ⟨hlim,hmx,hmax⟩:=QW
 refine sr (fO (OF.assign (VEv.bool false)) (nt (sr (mO (tI a) Y (mO (tI b) Y (fO (xge (tv (tI a) Y) (tv (tI b) Y)) (mO (tB (decide (b≤a))) Y ?_)))))))
 refine gw (b≤a) (fun fhg10_1=> ?_) fun fhg10_1=> ?_
 ·refine gF (dy fhg10_1) Y Y (OF.move (tv (tI a) Y)) ?_
  refine gF (dy fhg10_1) Y Y (OF.move (tv (tI c) Y)) (gF (dy fhg10_1) Y Y (xle (tv (tI a) Y) (tv (tI c) Y)) (fO (OF.pickT (VEv.tmpB Y (dy fhg10_1)) (tv (tB (decide (a≤c))) Y)) (aO (tB (decide (a≤c))) Y (nt (rt (vb (b':=(decide (a≤c))) Y ?_))))))
  exact Zl (by omega)
 refine Yo 3 3 true 10 (dz fhg10_1) Y Y Y (fO (OF.pickF (VEv.tmpB Y (dz fhg10_1)) (VEv.bool false)) (aO (tB false) Y (nt (rt (vb (b':=false) Y ?_)))))
 (symm;rw [decide_eq_false_iff_not];omega)
theorem Q3 (n:Nat) (a:Int) (b:Int) (c:Int):Pure (Qo Try.prog (n+1)) 18 [(tI a),(tI b),(tI c)] (tB (decide (b≤a∧a≤c))):=by
 refine Pure.intro (rs:= [ResultVar.tmp 6]) Try.func18 Y Y Y (E0:= [(0,(tI a)),(1,(tI b)),(2,(tI c))]) Y ?_
 obtain ⟨hlim,hmx,hmax⟩:=QW
 refine sr (fO (OF.assign (VEv.bool false)) (nt (sr (mO (tI b) Y (mO (tI a) Y (fO (xle (tv (tI b) Y) (tv (tI a) Y)) (mO (tB (decide (b≤a))) Y ?_)))))))
 refine gw (b≤a) (fun fhg10_1=> ?_) fun fhg10_1=> ?_
 ·refine gF (dy fhg10_1) Y Y (OF.move (tv (tI a) Y)) ?_
  refine gF (dy fhg10_1) Y Y (OF.move (tv (tI c) Y)) (gF (dy fhg10_1) Y Y (xle (tv (tI a) Y) (tv (tI c) Y)) (fO (OF.pickT (VEv.tmpB Y (dy fhg10_1)) (tv (tB (decide (a≤c))) Y)) (aO (tB (decide (a≤c))) Y (nt (rt (vb (b':=(decide (a≤c))) Y ?_))))))
  exact Zl (by omega)
 refine Yo 3 3 true 10 (dz fhg10_1) Y Y Y (fO (OF.pickF (VEv.tmpB Y (dz fhg10_1)) (VEv.bool false)) (aO (tB false) Y (nt (rt (vb (b':=false) Y ?_)))))
 (symm;rw [decide_eq_false_iff_not];omega)
theorem J8 (n:Nat) (a:Int):Pure (Qo Try.prog (n+1)) 34 [(T.int .u8 a)] (tB (decide (97≤a∧a≤122))):=by
 refine Pure.intro (rs:= [ResultVar.tmp 2]) Try.func34 Y Y Y (E0:= [(0,(T.int .u8 a))]) Y ?_
 obtain ⟨hlim,hmx,hmax⟩:=QW
 refine sr (fO (OF.assign (VEv.bool false)) (nt (sr (mO (T.int .u8 a) Y (fO (xge (tv (T.int .u8 a) Y) (VEv.int .u8 97)) (mO (tB (decide (97≤a))) Y ?_))))))
 refine gw (97≤a) (fun fhg5_1=> ?_) fun fhg5_1=> ?_
 ·refine gF (dy fhg5_1) Y Y (OF.move (tv (T.int .u8 a) Y)) ?_
  refine gF (dy fhg5_1) Y Y (xle (tv (T.int .u8 a) Y) (VEv.int .u8 122)) (fO (OF.pickT (VEv.tmpB Y (dy fhg5_1)) (tv (tB (decide (a≤122))) Y)) (aO (tB (decide (a≤122))) Y (nt (rt (vb (b':=(decide (a≤122))) Y ?_)))))
  exact Zl (by omega)
 refine Yo 2 2 true 5 (dz fhg5_1) Y Y Y (fO (OF.pickF (VEv.tmpB Y (dz fhg5_1)) (VEv.bool false)) (aO (tB false) Y (nt (rt (vb (b':=false) Y ?_)))))
 (symm;rw [decide_eq_false_iff_not];omega)
theorem QaT (n:Nat) (a:ByteArray) (ha:a.size≤maxLen):Pure (Qo Try.prog (n+2)) 46 [(tS a)] (tB (decide (Zf a))):=by
 refine Pure.intro (rs:= [ResultVar.tmp 2]) Try.func46 Y Y Y (E0:= [(0,(tS a))]) Y ?_
 obtain ⟨hlim,hmx,hmax⟩:=QW
 refine sr (fO (OF.assign (VEv.bool false)) (nt (sq (sr (mO (tS a) Y (lO (B.lenS (tv (tS a) Y) U9) (cO (cS (vc (tv (tN a.size) Y) (vc (VEv.int .i64 1) (vc (VEv.int .i64 8) vn))) (YC Y) (J1 (n+0) ((a.size:Nat):Int) 1 8) Y Y) (fO (Jj (tv (tB (decide (1≤((a.size:Nat):Int)∧((a.size:Nat):Int)≤8))) Y)) (nt ?_)))))))))
 refine cn (1≤((a.size:Nat):Int)∧((a.size:Nat):Int)≤8) Y (fun fhc0=> ?_) fun fhc0=> ?_
 ·refine sr ?_
  refine fO (OF.assign (VEv.bool false)) (nt (rt (tr (vb (b':=false) Y ?_))))
  symm;rw [decide_eq_false_iff_not];rintro ⟨h1,_⟩;omega
 refine sk (tn (sq (sr (fO (OF.assign (VEv.int .i64 0)) (nt (VRun.block ?_))))))
 refine VRun.loop (A:=Nat) (fun s_=> [(0,(tS a)),(3,(tN s_))]) (fun s_=>YW []) 0 (fun s_=>s_≤a.size∧∀j,j<s_→97≤Js a j∧Js a j≤122) (fun s_=>a.size - s_) (0:Nat) ?_ (Wk.mk (fun k=>k) ?_ ?_ ?_) ?_
 ·exact ⟨Nat.zero_le _,fun j hj=>by omega⟩
 ·exact (b2 (b2 bn))
 ·exact bn
 ·exact nd Y
 rintro i (hI':i≤a.size∧∀j,j<i→97≤Js a j∧Js a j≤122)
 show VRun _ _ _ [(0,(tS a)),(3,(tN i))] (YW []) 0 _
 refine sq (sr (mO (tN i) Y (mO (tS a) Y (lO (B.lenS (tv (tS a) Y) U9) (fO (YM (tv (tN i) Y) (tv (tN a.size) Y)) (nt ?_))))))
 refine cd (i<a.size) Y (fun fhc1=> ?_) fun fhc1=> ?_
 ·refine sk ?_
  refine tn (sq (VRun.block (sr (mO (tS a) Y (mO (tN i) Y ?_)))))
  have hb1:i<a.size:=(by omega)
  refine fO (xix (tv (tS a) Y) (tv (tN i) Y) hb1 U9) (fO (xls (tv (T.int .u8 (Js a i)) Y) (VEv.int .u8 97)) (mO (tB (decide (Js a i<97))) Y ?_))
  refine gw (Js a i<97) (fun fhg18_2=> ?_) fun fhg18_2=> ?_
  ·refine Yo 4 4 false 18 (dy fhg18_2) Y Y Y ?_
   refine fO (OF.pickT (VEv.tmpB Y (dy fhg18_2)) (VEv.bool true)) (nt (ct Y (sr (fO (OF.assign (VEv.bool false)) (nt (rt (vinB.r (tr (tr (vinB.r (tr ?_)))))))))))
   refine vb (b':=false) Y ?_
   symm;rw [decide_eq_false_iff_not];rintro ⟨_,h2⟩;have:=h2 i fhc1;omega
  refine gF (dz fhg18_2) Y Y (OF.move (tv (tS a) Y)) (gF (dz fhg18_2) Y Y (OF.move (tv (tN i) Y)) ?_)
  have hb3:i<a.size:=(by omega)
  refine gF (dz fhg18_2) Y Y (xix (tv (tS a) Y) (tv (tN i) Y) hb3 U9) (gF (dz fhg18_2) Y Y (xgt (tv (T.int .u8 (Js a i)) Y) (VEv.int .u8 122)) (fO (OF.pickF (VEv.tmpB Y (dz fhg18_2)) (tv (tB (decide (122<Js a i))) Y)) (nt ?_)))
  refine cd (122<Js a i) Y (fun fhc2=> ?_) fun fhc2=> ?_
  ·refine sr ?_
   refine fO (OF.assign (VEv.bool false)) (nt (rt (vinB.r (tr (tr (vinB.r (tr (vb (b':=false) Y ?_))))))))
   symm;rw [decide_eq_false_iff_not];rintro ⟨_,h2⟩;have:=h2 i fhc1;omega
  refine sk (vinB.n (tn (VRun.region (mO (tN i) Y (fO (Yk (tv (tN i) Y) (VEv.int .i64 1) (by omega)) (aO (tN (i+1)) Y (VRunO.nil (tn ?_))))))))
  refine ⟨(i+1:Nat),?_,?_,Wk.mk (fun k=>k) ?_ ?_ ?_⟩
  ·exact YU (ok:=fun j=>97≤Js a j∧Js a j≤122) hI' fhc1 (by omega)
  ·omega
  ·exact (b2 (b2 bn))
  ·exact bn
  ·exact nd Y
 refine VRun.exit (vthn.e (vthn.e (vinB.e (tn (sr (fO (OF.assign (VEv.bool true)) (nt (rt (vb (b':=true) Y ?_)))))))))
 symm;rw [decide_eq_true_eq];exact ⟨by omega,Zu hI' fhc1⟩
theorem Y8 (n:Nat) (a:ByteArray) (ha:a.size≤maxLen):Pure (Qo Try.prog (n+2)) 25 [(tS a)] (tB (decide (Zf a))):=by
 refine Pure.intro (rs:= [ResultVar.tmp 2]) Try.func25 Y Y Y (E0:= [(0,(tS a))]) Y ?_
 obtain ⟨hlim,hmx,hmax⟩:=QW
 refine sr (fO (OF.assign (VEv.bool false)) (nt (sq (sr (mO (tS a) Y (lO (B.lenS (tv (tS a) Y) U9) (cO (cS (vc (tv (tN a.size) Y) (vc (VEv.int .i64 1) (vc (VEv.int .i64 8) vn))) (YC Y) (Q3 (n+0) ((a.size:Nat):Int) 1 8) Y Y) (fO (Jj (tv (tB (decide (1≤((a.size:Nat):Int)∧((a.size:Nat):Int)≤8))) Y)) (nt ?_)))))))))
 refine cn (1≤((a.size:Nat):Int)∧((a.size:Nat):Int)≤8) Y (fun fhc0=> ?_) fun fhc0=> ?_
 ·refine sr ?_
  refine fO (OF.assign (VEv.bool false)) (nt (rt (tr (vb (b':=false) Y ?_))))
  symm;rw [decide_eq_false_iff_not];rintro ⟨h1,_⟩;omega
 refine sk (tn (sq (sr (mO (tS a) Y (lO (B.lenS (tv (tS a) Y) U9) (fO (OF.move (VEv.int .i64 0)) (nt (VRun.block ?_))))))))
 refine VRun.loop (A:=Nat) (fun s_=> [(0,(tS a)),(9,(tN a.size)),(10,(tN s_))]) (fun s_=>YW []) 0 (fun s_=>s_≤a.size∧∀j,j<s_→97≤Js a j∧Js a j≤122) (fun s_=>a.size - s_) (0:Nat) ?_ (Wk.mk (fun k=>k) ?_ ?_ ?_) ?_
 ·exact ⟨Nat.zero_le _,fun j hj=>by omega⟩
 ·exact (b2 (b2 (b2 bn)))
 ·exact bn
 ·exact nd Y
 rintro i (hI':i≤a.size∧∀j,j<i→97≤Js a j∧Js a j≤122)
 show VRun _ _ _ [(0,(tS a)),(9,(tN a.size)),(10,(tN i))] (YW []) 0 _
 refine sr (fO (YM (tv (tN i) Y) (tv (tN a.size) Y)) (nt (sq ?_)))
 refine cd (i<a.size) Y (fun fhc1=> ?_) fun fhc1=> ?_
 ·refine sk ?_
  refine tn (sq (VRun.block (sr (mO (tN i) Y (aO (tN i) Y (nt (sr (mO (tS a) Y (mO (tN i) Y ?_)))))))))
  have hb1:i<a.size:=(by omega)
  refine fO (xix (tv (tS a) Y) (tv (tN i) Y) hb1 U9) (cO (cS (vc (tv (T.int .u8 (Js a i)) Y) vn) (YC Y) (J8 (n+0) (Js a i)) Y Y) (fO (Jj (tv (tB (decide (97≤(Js a i)∧(Js a i)≤122))) Y)) (nt ?_)))
  refine cn (97≤(Js a i)∧(Js a i)≤122) Y (fun fhc2=> ?_) fun fhc2=> ?_
  ·refine sr ?_
   refine fO (OF.assign (VEv.bool false)) (nt (rt (vinB.r (tr (tr (vinB.r (tr (vb (b':=false) Y ?_))))))))
   symm;rw [decide_eq_false_iff_not];rintro ⟨_,h2⟩;have:=h2 i fhc1;omega
  refine sk (vinB.n (tn (VRun.region (fO (Yk (tv (tN i) Y) (VEv.int .i64 1) (by omega)) (mO (tN (i+1)) Y (VRunO.nil (tn ?_)))))))
  refine ⟨(i+1:Nat),?_,?_,Wk.mk (fun k=>k) ?_ ?_ ?_⟩
  ·exact YU (ok:=fun j=>97≤Js a j∧Js a j≤122) hI' fhc1 (by omega)
  ·omega
  ·exact (b2 (b2 (b2 bn)))
  ·exact bn
  ·exact nd Y
 refine VRun.exit (vthn.e (vthn.e (vinB.e (tn (sr (fO (OF.assign (VEv.bool true)) (nt (rt (vb (b':=true) Y ?_)))))))))
 symm;rw [decide_eq_true_eq];exact ⟨by omega,Zu hI' fhc1⟩
theorem Jt (n:Nat) (a:ByteArray) (b:ByteArray):Pure (Qo Try.prog (n+1)) 45 [(tS a),(tS b)] (tB (QY a b)):=by
 refine Pure.intro (rs:= [ResultVar.tmp 4]) Try.func45 Y Y Y (E0:= [(0,(tS a)),(1,(tS b))]) Y ?_
 obtain ⟨hlim,hmx,hmax⟩:=QW
 refine sr (fO (OF.assign (VEv.bool false)) (nt (sq (sr (mO (tS a) Y (lO (B.lenS (tv (tS a) Y) U9) (mO (tS b) Y (lO (B.lenS (tv (tS b) Y) U9) (fO (Qfg (tv (tN a.size) Y) (tv (tN b.size) Y)) (nt ?_))))))))))
 refine cn (a.size=b.size) Y (fun fhc0=> ?_) fun fhc0=> ?_
 ·refine sr ?_
  refine mO (tS a) Y (lO (B.lenS (tv (tS a) Y) U9) (mO (tS b) Y (lO (B.lenS (tv (tS b) Y) U9) (fO (YM (tv (tN a.size) Y) (tv (tN b.size) Y)) (aO (tB (decide (a.size<b.size))) Y (nt (rt (tr (vb (b':=(decide (a.size<b.size))) Y ?_)))))))))
  simp [QY,fhc0]
 refine sk (tn (sr (mO (tS a) Y (mO (tS b) Y (fO (B.slss (c:=(Op.bytesLess a.toList b.toList)) (tv (tS a) Y) (tv (tS b) Y) Y) (aO (tB (Op.bytesLess a.toList b.toList)) Y (nt (rt (vb (b':=(Op.bytesLess a.toList b.toList)) Y ?_)))))))))
 simp [QY,fhc0]
theorem Jn (n:Nat) (a:ByteArray) (b:ByteArray):Pure (Qo Try.prog (n+1)) 31 [(tS a),(tS b)] (tB (QY a b)):=by
 refine Pure.intro (rs:= [ResultVar.tmp 4]) Try.func31 Y Y Y (E0:= [(0,(tS a)),(1,(tS b))]) Y ?_
 obtain ⟨hlim,hmx,hmax⟩:=QW
 refine sr (fO (OF.assign (VEv.bool false)) (nt (sq (sr (mO (tS a) Y (lO (B.lenS (tv (tS a) Y) U9) (mO (tS b) Y (lO (B.lenS (tv (tS b) Y) U9) (fO (Qfg (tv (tN a.size) Y) (tv (tN b.size) Y)) (nt ?_))))))))))
 refine cn (a.size=b.size) Y (fun fhc0=> ?_) fun fhc0=> ?_
 ·refine sr ?_
  refine mO (tS a) Y (lO (B.lenS (tv (tS a) Y) U9) (mO (tS b) Y (lO (B.lenS (tv (tS b) Y) U9) (fO (YM (tv (tN a.size) Y) (tv (tN b.size) Y)) (aO (tB (decide (a.size<b.size))) Y (nt (rt (tr (vb (b':=(decide (a.size<b.size))) Y ?_)))))))))
  simp [QY,fhc0]
 refine sk (tn (sr (mO (tS a) Y (mO (tS b) Y (fO (B.slss (c:=(Op.bytesLess a.toList b.toList)) (tv (tS a) Y) (tv (tS b) Y) Y) (aO (tB (Op.bytesLess a.toList b.toList)) Y (nt (rt (vb (b':=(Op.bytesLess a.toList b.toList)) Y ?_)))))))))
 simp [QY,fhc0]
noncomputable section
def QI (a b:D.Used):Bool:=decide (a.Issue<b.Issue∨(a.Issue=b.Issue∧QY a.Word b.Word=true))
def QbM (l:List D.Used) (j:Nat):Prop:=∃x,l[j]? =some x∧Zf x.Word∧(1≤x.Issue∧x.Issue≤999)∧(0<j→∃y,l[j - 1]? =some y∧QI y x=true)
def Ql (l:List D.Used):Prop:=l.length≤60∧∀j,j<l.length→QbM l j
instance (l:List D.Used):Decidable (Ql l):=Classical.propDecidable _
end
theorem Yj (n:Nat) (a:D.Used) (b:D.Used):Pure (Qo Try.prog (n+2)) 42 [(T.agg (Qa false a)),(T.agg (Qa false b))] (tB (QI a b)):=by
 refine Pure.intro (rs:= [ResultVar.tmp 4]) Try.func42 Y Y Y (E0:= [(0,(T.agg (Qa false a))),(1,(T.agg (Qa false b)))]) Y ?_
 obtain ⟨hlim,hmx,hmax⟩:=QW
 refine sr (kO (B.box (ts:=(Qa false a)) (tv (T.agg (Qa false a)) Y) nofun Y) (kO (B.box (ts:=(Qa false b)) (tv (T.agg (Qa false b)) Y) nofun Y) (fO (OF.assign (VEv.bool false)) (nt (sr (lf (tI a.Issue) Y Zv Y Y st3 (lf (tI b.Issue) Y Zv Y Y st3 (fO (xls (tv (tI a.Issue) Y) (tv (tI b.Issue) Y)) (mO (tB (decide (a.Issue<b.Issue))) Y ?_)))))))))
 refine gw (a.Issue<b.Issue) (fun fhg10_1=> ?_) fun fhg10_1=> ?_
 ·refine Yo 6 5 false 10 (dy fhg10_1) Y Y Y ?_
  refine Qeg 5 11 true 16 Y Y Y (oO Y Y (dy fhg10_1) (fO (OF.pickT (VEv.tmpB Y (dy fhg10_1)) (VEv.bool true)) (aO (tB true) Y (nt (rt (vb (b':=true) Y ?_))))))
  simp only [QI];first | (symm;rw [decide_eq_true_eq];omega) | (symm;rw [decide_eq_false_iff_not];omega) | (by_cases hb:QY a.Word b.Word=true<;>simp_all<;>omega)
 refine glf (tI a.Issue) (dz fhg10_1) Y Y Y Y Zv Y Y st3 (glf (tI b.Issue) (dz fhg10_1) Y Y Y Y Zv Y Y st3 (gF (dz fhg10_1) Y Y (xeq (tv (tI a.Issue) Y) (tv (tI b.Issue) Y)) (gF (dz fhg10_1) Y Y (OF.move (tv (tB (decide (a.Issue=b.Issue))) Y)) ?_)))
 refine gw (a.Issue=b.Issue) (fun fhg16_2=> ?_) fun fhg16_2=> ?_
 ·refine glf (tS a.Word) (dy fhg16_2) Y Y Y Y ZU Y Y st9 ?_
  refine glf (tS b.Word) (dy fhg16_2) Y Y Y Y ZU Y Y st9 (VRunO.chain (VWant.on Y Y (dy fhg16_2)) (cS (vc (tv (tS a.Word) Y) (vc (tv (tS b.Word) Y) vn)) (YC Y) (Jt (n+0) a.Word b.Word) Y Y) (gF (dz fhg10_1) Y Y (OF.pickT (VEv.tmpB Y (dy fhg16_2)) (tv (tB (QY a.Word b.Word)) Y)) (fO (OF.pickF (VEv.tmpB Y (dz fhg10_1)) (tv (tB (QY a.Word b.Word)) Y)) (aO (tB (QY a.Word b.Word)) Y (nt (rt (vb (b':=(QY a.Word b.Word)) Y ?_)))))))
  simp only [QI];first | (symm;rw [decide_eq_true_eq];omega) | (symm;rw [decide_eq_false_iff_not];omega) | (by_cases hb:QY a.Word b.Word=true<;>simp_all<;>omega)
 refine Yo 5 11 true 16 (dz fhg16_2) Y Y Y (gF (dz fhg10_1) Y Y (OF.pickF (VEv.tmpB Y (dz fhg16_2)) (VEv.bool false)) (fO (OF.pickF (VEv.tmpB Y (dz fhg10_1)) (tv (tB false) Y)) (aO (tB false) Y (nt (rt (vb (b':=false) Y ?_))))))
 simp only [QI];first | (symm;rw [decide_eq_true_eq];omega) | (symm;rw [decide_eq_false_iff_not];omega) | (by_cases hb:QY a.Word b.Word=true<;>simp_all<;>omega)
theorem Ym (n:Nat) (a:D.Used) (b:D.Used):Pure (Qo Try.prog (n+2)) 23 [(T.agg (Qa false a)),(T.agg (Qa false b))] (tB (QI a b)):=by
 refine Pure.intro (rs:= [ResultVar.tmp 4]) Try.func23 Y Y Y (E0:= [(0,(T.agg (Qa false a))),(1,(T.agg (Qa false b)))]) Y ?_
 obtain ⟨hlim,hmx,hmax⟩:=QW
 refine sr (kO (B.box (ts:=(Qa false a)) (tv (T.agg (Qa false a)) Y) nofun Y) (kO (B.box (ts:=(Qa false b)) (tv (T.agg (Qa false b)) Y) nofun Y) (fO (OF.assign (VEv.bool false)) (nt (sq (sr (lf (tI a.Issue) Y Zv Y Y st3 (lf (tI b.Issue) Y Zv Y Y st3 (fO (xne (tv (tI a.Issue) Y) (tv (tI b.Issue) Y)) (nt ?_))))))))))
 refine cn (a.Issue=b.Issue) Y (fun fhc0=> ?_) fun fhc0=> ?_
 ·refine sr ?_
  refine lf (tI a.Issue) Y Zv Y Y st3 (lf (tI b.Issue) Y Zv Y Y st3 (fO (xls (tv (tI a.Issue) Y) (tv (tI b.Issue) Y)) (aO (tB (decide (a.Issue<b.Issue))) Y (nt (rt (tr (vb (b':=(decide (a.Issue<b.Issue))) Y ?_)))))))
  simp only [QI];first | (exact Zl (by omega)) | (by_cases hb:QY a.Word b.Word=true<;>simp_all<;>omega)
 refine sk (tn (sr (lf (tS a.Word) Y ZU Y Y st9 (lf (tS b.Word) Y ZU Y Y st9 (cO (cS (vc (tv (tS a.Word) Y) (vc (tv (tS b.Word) Y) vn)) (YC Y) (Jn (n+0) a.Word b.Word) Y Y) (aO (tB (QY a.Word b.Word)) Y (nt (rt (vb (b':=(QY a.Word b.Word)) Y ?_)))))))))
 simp only [QI];first | (exact Zl (by omega)) | (by_cases hb:QY a.Word b.Word=true<;>simp_all<;>omega)
theorem Qaj (n:Nat) (a:List D.Used) (hz:zL QC a≤2*mx):Pure (Qo Try.prog (n+3)) 43 [(rd 2 Qa a)] (tB (decide (Ql a))):=by
 refine Pure.intro (rs:= [ResultVar.tmp 2]) Try.func43 Y Y Y (E0:= [(0,(rd 2 Qa a))]) Y ?_
 obtain ⟨hlim,hmx,hmax⟩:=QW
 have ha:=YI (z:=QC) a
 have hw:∀x∈a,x.Word.size≤maxLen:=fun x hx=>by have h1:=QdW (z:=QC) hx;simp only [QC] at h1;omega
 refine sr (fO (OF.assign (VEv.bool false)) (nt (sq (sr (fO (OF.assign (VEv.int .i64 0)) (nt (VRun.block ?_)))))))
 refine VRun.loop (A:=Nat) (fun s_=> [(0,(rd 2 Qa a)),(3,(tN s_))]) (fun s_=>YW []) 0 (fun s_=>s_≤a.length∧∀j,j<s_→QbM a j) (fun s_=>a.length - s_) (0:Nat) ?_ (Wk.mk (fun k=>k) ?_ ?_ ?_) ?_
 ·exact ⟨Nat.zero_le _,fun j hj=>by omega⟩
 ·exact (b2 (b2 bn))
 ·exact bn
 ·exact nd Y
 rintro i (hI':i≤a.length∧∀j,j<i→QbM a j)
 show VRun _ _ _ [(0,(rd 2 Qa a)),(3,(tN i))] (YW []) 0 _
 have hI0:=hI'
 refine sq (sr (mO (tN i) Y (mO (rd 2 Qa a) Y (lO (B.lenR (m:=a.length) (tv (rd 2 Qa a) Y) Zc (List.length_map ..)) (fO (YM (tv (tN i) Y) (tv (tN a.length) Y)) (nt ?_))))))
 refine cd (i<a.length) Y (fun fhc0=> ?_) fun fhc0=> ?_
 ·refine sk ?_
  refine tn (sq (VRun.block (sq (VRun.draw (B:= [[],[],[1,0],[0,1,2],[2,1,0,3],[3,0,1,2,4],[4,2,1,0,3,5],[5,3,0,1,2,4,6],[6,4,2,1,0,3,5,7],[6,4,2,1,0,3,5,7],[9,7,5,3,0,1,2,4,6,8],[8,6,4,2,1,0,3,5,7,9,10],[10,9,7,5,3,0,1,2,4,6,8,11],[11,8,6,4,2,1,0,3,5,7,9,10,12],[12,10,9,7,5,3,0,1,2,4,6,8,11,13],[13,11,8,9,10,12,14,6,4,2,1,0,3,5,7],[7,5,3,0,1,2,4,6,14,12,10,9,8,11,13,15],[15,13,11,8,9,10,12,14,6,4,2,1,0,3,5,7,16],[16,7,5,3,0,1,2,4,6,14,12,10,9,8,11,13,15,17],[17,15,13,11,8,9,10,12,14,6,4,2,1,0,3,5,7,16,18],[18,16,7,5,3,0,1,2,4,6,14,12,10,9,8,11,13,15,17,19],[18,16,7,5,3,0,1,2,4,6,14,12,10,9,8,11,13,15,17,19],[19,17,15,13,11,8,9,10,12,14,6,4,2,1,0,3,5,7,16,18,21],[21,22,19,17,15,13,11,8,9,10,12,14,6,4,2,1,0,3,5,7,16,18,20],[20,18,16,7,5,3,0,1,2,4,6,14,12,10,9,8,11,13,15,17,19,22,21,23],[18,16,7,5,3,0,1,2,4,6,14,12,10,9,8,11,13,15,17,19],[18,16,7,5,3,0,1,2,4,6,14,12,10,9,8,11,13,15,17,19],[26,19,17,15,13,11,8,9,10,12,14,6,4,2,1,0,3,5,7,16,18,25],[25,18,16,7,5,3,0,1,2,4,6,14,12,10,9,8,11,13,15,17,19,26,27],[27,26,25,28,23,21,22,19,17,15,13,11,8,9,10,12,14,6,4,2,1,0,3,5,7,16,18,20,24],[24,20,18,16,7,5,3,0,1,2,4,6,14,12,10,9,8,11,13,15,17,19,22,21,23,28,25,26,27,29],[29,27,26,25,28,23,21,22,20,24,30,18,16,7,5,3,0,1,2,4,6,14,12,10,9,8,11,13,15,17,19],[19,17,18,30,24,20,22,21,23,28,25,26,27,29,31,15,13,11,8,9,10,12,14,6,4,2,1,0,3,5,7,16]]) (by kernel_rfl) (by kernel_rfl) (mD (rd 2 Qa a) Y Y (mD (tN i) Y Y ?_))))))
  obtain ⟨x1,hx1⟩:∃x,a[i]? =some x:=⟨_,List.getElem?_eq_getElem (by first | exact hw _ (List.mem_of_getElem? hx1) | omega)⟩
  refine fD (OF.indexAddrR (row:=(Qa false x1)) (i:=i) (tv (rd 2 Qa a) Y) (tv (tN i) Y) Y (QE _ hx1) Zc Qx Z3) Y Y (fD (B.fieldAddrR (us:=(Qa false x1)) (tv (T.rp (Qa false x1)) Y) (lb Y) ZU Y) Y Y (lD (OL.loadR1 (t:=(tS x1.Word)) (tv (T.rp (Qa false x1)) Y) Y st9) Y Y (VRunD.quiet (bi:= [3,0,1,2,4]) Y VWant.always Y Y Y bn (cS (vc (tv (tS x1.Word) Y) vn) (YC Y) (QaT (n+0) x1.Word (by first | exact hw _ (List.mem_of_getElem? hx1) | assumption | omega)) Y Y) (fD (Jj (tv (tB (decide (Zf x1.Word))) Y)) Y Y (mD (tB (!(decide (Zf x1.Word)))) Y Y ?_)))))
  refine gn (Zf x1.Word) (fun fhg17_1=> ?_) fun fhg17_1=> ?_
  ·refine oD Y Y (ny fhg17_1) Y ?_
   refine oD Y Y (ny fhg17_1) Y (oD Y Y (ny fhg17_1) Y (oD Y Y (ny fhg17_1) Y (oD Y Y (ny fhg17_1) Y (oD Y Y (ny fhg17_1) Y (oD Y Y (ny fhg17_1) Y (fD (OF.pickT (VEv.tmpB Y (ny fhg17_1)) (VEv.bool true)) Y Y (mD (tB true) Y Y (VRunD.off Y (VWant.not (b:=true) Y Y Y) (VRunD.off Y (VWant.not (b:=true) Y Y Y) (VRunD.off Y (VWant.not (b:=true) Y Y Y) (uD Y Y Y ?_)))))))))))
   refine uD Y Y Y (uD Y Y Y (uD Y Y Y (uD Y Y Y (uD Y Y Y (uD Y Y Y (uD Y Y Y (uD Y Y Y (uD Y Y Y (uD Y Y Y (VRunD.off Y (VWant.not (b:=true) Y Y Y) (fD (OF.pickT (tv (tB true) Y) (VEv.bool true)) Y Y ?_)))))))))))
   refine VRunD.nil (tn (ct Y (sr (fO (OF.assign (VEv.bool false)) (nt (rt (vinB.r (tr (tr (vinB.r (tr ?_)))))))))))
   refine vb (b':=false) Y ?_
   first | (refine Zl ⟨fun h=>⟨by omega,Zu hI' fhc0⟩,fun h=>by have:=h.1;omega⟩) | (symm;rw [decide_eq_false_iff_not];rintro ⟨_,h2⟩;obtain ⟨y,hy,h3,h4,h5⟩:=h2 i fhc0;obtain rfl:=QD hx1 hy;first | omega | contradiction | (obtain ⟨z,hz,h6⟩:=h5 (by omega);obtain rfl:=QD hx2 hz;simp_all;done) | (simp_all;done))
  refine VRunD.free Y (VWant.on Y Y (nz fhg17_1)) Y (OF.move (tv (rd 2 Qa a) Y)) (VRunD.free Y (VWant.on Y Y (nz fhg17_1)) Y (OF.move (tv (tN i) Y)) (VRunD.free Y (VWant.on Y Y (nz fhg17_1)) Y (OF.indexAddrR (row:=(Qa false x1)) (i:=i) (tv (rd 2 Qa a) Y) (tv (tN i) Y) Y (QE _ hx1) Zc Qx Z3) (VRunD.free Y (VWant.on Y Y (nz fhg17_1)) Y (B.fieldAddrR (us:= [(tI x1.Issue)]) (tv (T.rp (Qa false x1)) Y) (lb Y) Zv Y) (VRunD.look Y (VWant.on Y Y (nz fhg17_1)) Y (OL.loadR1 (t:=(tI x1.Issue)) (tv (T.rp [(tI x1.Issue)]) Y) Y st3) (VRunD.quiet (bi:= [11,8,6,4,2,1,0,3,5,7,9,10,12]) Y (VWant.on Y Y (nz fhg17_1)) Y Y Y bn (cS (vc (tv (tI x1.Issue) Y) (vc (VEv.int .i64 1) (vc (VEv.int .i64 999) vn))) (YC Y) (J1 (n+1) x1.Issue 1 999) Y Y) (VRunD.free Y (VWant.on Y Y (nz fhg17_1)) Y (Jj (tv (tB (decide (1≤x1.Issue∧x1.Issue≤999))) Y)) (fD (OF.pickF (VEv.tmpB Y (nz fhg17_1)) (tv (tB (!(decide (1≤x1.Issue∧x1.Issue≤999)))) Y)) Y Y (mD (tB (!(decide (1≤x1.Issue∧x1.Issue≤999)))) Y Y ?_))))))))
  refine gn (1≤x1.Issue∧x1.Issue≤999) (fun fhg26_2=> ?_) fun fhg26_2=> ?_
  ·refine oD Y Y (ny fhg26_2) Y ?_
   refine oD Y Y (ny fhg26_2) Y (oD Y Y (ny fhg26_2) Y (uD Y Y Y (uD Y Y Y (uD Y Y Y (uD Y Y Y (uD Y Y Y (uD Y Y Y (uD Y Y Y (uD Y Y Y (uD Y Y Y (uD Y Y Y ?_)))))))))))
   refine uD Y Y Y (oD Y Y (ny fhg26_2) Y (fD (OF.pickT (VEv.tmpB Y (ny fhg26_2)) (VEv.bool true)) Y Y (VRunD.nil (tn (ct Y (sr (fO (OF.assign (VEv.bool false)) (nt (rt (vinB.r (tr ?_)))))))))))
   refine tr (vinB.r (tr (vb (b':=false) Y ?_)))
   first | (refine Zl ⟨fun h=>⟨by omega,Zu hI' fhc0⟩,fun h=>by have:=h.1;omega⟩) | (symm;rw [decide_eq_false_iff_not];rintro ⟨_,h2⟩;obtain ⟨y,hy,h3,h4,h5⟩:=h2 i fhc0;obtain rfl:=QD hx1 hy;first | omega | contradiction | (obtain ⟨z,hz,h6⟩:=h5 (by omega);obtain rfl:=QD hx2 hz;simp_all;done) | (simp_all;done))
  refine VRunD.free Y (VWant.on Y Y (nz fhg26_2)) Y (OF.move (tv (tN i) Y)) (VRunD.free Y (VWant.on Y Y (nz fhg26_2)) Y (B.gtr (c:=(decide (0<i))) (tv (tN i) Y) (VEv.int .i64 0) (by first | exact hw _ (List.mem_of_getElem? hx1) | (exact Zl (by omega)))) (VRunD.free Y (VWant.on Y Y (nz fhg26_2)) Y (OF.move (tv (tB (decide (0<i))) Y)) ?_))
  refine gw (0<i) (fun fhg29_3=> ?_) fun fhg29_3=> ?_
  ·refine VRunD.free Y (VWant.on Y Y (dy fhg29_3)) Y (OF.move (tv (rd 2 Qa a) Y)) ?_
   refine VRunD.free Y (VWant.on Y Y (dy fhg29_3)) Y (OF.move (tv (tN i) Y)) (VRunD.free Y (VWant.on Y Y (dy fhg29_3)) Y (B.sub (n:=((i - 1:Nat):Int)) (tv (tN i) Y) (VEv.int .i64 1) (by first | exact hw _ (List.mem_of_getElem? hx1) | rfl | (rw [Qm (by omega)];omega) | (rw [Qm (by omega)];done))) ?_)
   obtain ⟨x2,hx2⟩:∃x,a[i - 1]? =some x:=⟨_,List.getElem?_eq_getElem (by first | exact hw _ (List.mem_of_getElem? hx1) | omega)⟩
   refine VRunD.free Y (VWant.on Y Y (dy fhg29_3)) Y (OF.indexAddrR (row:=(Qa false x2)) (i:=i - 1) (tv (rd 2 Qa a) Y) (tv (tN (i - 1)) Y) Y (QE _ hx2) Zc Qx Z3) (VRunD.look Y (VWant.on Y Y (dy fhg29_3)) Y (OL.loadRn (us:=(Qa false x2)) (tv (T.rp (Qa false x2)) Y) Jg Qx (lb Y) Y) (VRunD.free Y (VWant.on Y Y (dy fhg29_3)) Y (OF.move (tv (rd 2 Qa a) Y)) (VRunD.free Y (VWant.on Y Y (dy fhg29_3)) Y (OF.move (tv (tN i) Y)) (VRunD.free Y (VWant.on Y Y (dy fhg29_3)) Y (OF.indexAddrR (row:=(Qa false x1)) (i:=i) (tv (rd 2 Qa a) Y) (tv (tN i) Y) Y (QE _ hx1) Zc Qx Z3) (VRunD.look Y (VWant.on Y Y (dy fhg29_3)) Y (OL.loadRn (us:=(Qa false x1)) (tv (T.rp (Qa false x1)) Y) Jg Qx (lb Y) Y) (VRunD.quiet (bi:= [27,26,25,28,23,21,22,19,17,15,13,11,8,9,10,12,14,6,4,2,1,0,3,5,7,16,18,20,24]) Y (VWant.on Y Y (dy fhg29_3)) Y Y Y bn (cS (vc (tv (T.agg (Qa false x2)) Y) (vc (tv (T.agg (Qa false x1)) Y) vn)) (LendL.cons (lg okeUsed) (LendL.cons (lg okeUsed) ln)) (Yj (n+0) x2 x1) Y Y) (VRunD.free Y (VWant.on Y Y (dy fhg29_3)) Y (Jj (tv (tB (QI x2 x1)) Y)) (VRunD.free Y (VWant.on Y Y (nz fhg26_2)) Y (OF.pickT (VEv.tmpB Y (dy fhg29_3)) (tv (tB (!(QI x2 x1))) Y)) (fD (OF.pickF (VEv.tmpB Y (nz fhg26_2)) (tv (tB (!(QI x2 x1))) Y)) Y Y (VRunD.nil (tn ?_)))))))))))
   refine VRun.cond (tv (tB (!(QI x2 x1))) Y) (fun hc1=> ?_) (fun hc1=> ?_)
   ·have fhc1:(QI x2 x1)=false:=Qfm hc1
    refine sr (fO (OF.assign (VEv.bool false)) (nt (rt (vinB.r (tr (tr (vinB.r (tr (vb (b':=false) Y ?_)))))))))
    first | (refine Zl ⟨fun h=>⟨by omega,Zu hI' fhc0⟩,fun h=>by have:=h.1;omega⟩) | (symm;rw [decide_eq_false_iff_not];rintro ⟨_,h2⟩;obtain ⟨y,hy,h3,h4,h5⟩:=h2 i fhc0;obtain rfl:=QD hx1 hy;first | omega | contradiction | (obtain ⟨z,hz,h6⟩:=h5 (by omega);obtain rfl:=QD hx2 hz;simp_all;done) | (simp_all;done))
   have fhc1:(QI x2 x1)=true:=Qfj hc1
   refine sk (vinB.n (tn (VRun.region (mO (tN i) Y (fO (Yk (tv (tN i) Y) (VEv.int .i64 1) (by first | exact hw _ (List.mem_of_getElem? hx1) | omega)) (aO (tN (i+1)) Y (VRunO.nil (tn ?_))))))))
   refine ⟨(i+1:Nat),?_,?_,Wk.mk (fun k=>k) ?_ ?_ ?_⟩
   ·refine YU hI0 fhc0 ⟨x1,hx1,by assumption,by omega,fun h0=> ?_⟩
    first | (exact absurd h0 (by omega)) | (exact ⟨x2,hx2,by simp_all⟩)
   ·first | omega | (simp only [];omega) | (show _<_;omega) | (simp;omega)
   ·exact (b2 (b2 bn))
   ·exact bn
   ·exact nd Y
  refine oD Y Y (dz fhg29_3) Y (oD Y Y (dz fhg29_3) Y (oD Y Y (dz fhg29_3) Y (oD Y Y (dz fhg29_3) Y (oD Y Y (dz fhg29_3) Y (oD Y Y (dz fhg29_3) Y (oD Y Y (dz fhg29_3) Y (oD Y Y (dz fhg29_3) Y (oD Y Y (dz fhg29_3) Y (oD Y Y (dz fhg29_3) Y (oD Y Y (dz fhg29_3) Y (VRunD.free Y (VWant.on Y Y (nz fhg26_2)) Y (OF.pickF (VEv.tmpB Y (dz fhg29_3)) (VEv.bool false)) ?_)))))))))))
  refine fD (OF.pickF (VEv.tmpB Y (nz fhg26_2)) (tv (tB false) Y)) Y Y (VRunD.nil (tn (cf Y (sk (vinB.n (tn (VRun.region (mO (tN i) Y (fO (Yk (tv (tN i) Y) (VEv.int .i64 1) (by first | exact hw _ (List.mem_of_getElem? hx1) | omega)) (aO (tN (i+1)) Y (VRunO.nil ?_)))))))))))
  refine tn ?_
  refine ⟨(i+1:Nat),?_,?_,Wk.mk (fun k=>k) ?_ ?_ ?_⟩
  ·refine YU hI0 fhc0 ⟨x1,hx1,by assumption,by omega,fun h0=> ?_⟩
   first | (exact absurd h0 (by omega)) | (exact ⟨x2,hx2,by simp_all⟩)
  ·first | omega | (simp only [];omega) | (show _<_;omega) | (simp;omega)
  ·exact (b2 (b2 bn))
  ·exact bn
  ·exact nd Y
 refine VRun.exit (vthn.e (vthn.e (vinB.e (tn (sr (mO (rd 2 Qa a) Y (lO (B.lenR (m:=a.length) (tv (rd 2 Qa a) Y) Zc (List.length_map ..)) (fO (B.leq (c:=(decide (a.length≤60))) (tv (tN a.length) Y) (VEv.int .i64 60) (by first | exact hw _ (List.mem_of_getElem? hx1) | (exact Zl (by omega)))) (aO (tB (decide (a.length≤60))) Y (nt (rt ?_)))))))))))
 refine vb (b':=(decide (a.length≤60))) Y ?_
 first | (refine Zl ⟨fun h=>⟨by omega,Zu hI' fhc0⟩,fun h=>by have:=h.1;omega⟩) | (symm;rw [decide_eq_false_iff_not];rintro ⟨_,h2⟩;obtain ⟨y,hy,h3,h4,h5⟩:=h2 i fhc0;obtain rfl:=QD hx1 hy;first | omega | contradiction | (obtain ⟨z,hz,h6⟩:=h5 (by omega);obtain rfl:=QD hx2 hz;simp_all;done) | (simp_all;done))
theorem YK (n:Nat) (a:List D.Used) (hz:zL QC a≤2*mx):Pure (Qo Try.prog (n+3)) 12 [(rd 2 Qa a)] (tB (decide (Ql a))):=by
 refine Pure.intro (rs:= [ResultVar.tmp 2]) Try.func12 Y Y Y (E0:= [(0,(rd 2 Qa a))]) Y ?_
 obtain ⟨hlim,hmx,hmax⟩:=QW
 have ha:=YI (z:=QC) a
 have hw:∀x∈a,x.Word.size≤maxLen:=fun x hx=>by have h1:=QdW (z:=QC) hx;simp only [QC] at h1;omega
 refine sr (fO (OF.assign (VEv.bool false)) (nt (sq (sr (mO (rd 2 Qa a) Y (lO (B.lenR (m:=a.length) (tv (rd 2 Qa a) Y) Zc (List.length_map ..)) (fO (B.gtr (c:=(decide (60<a.length))) (tv (tN a.length) Y) (VEv.int .i64 60) (by first | exact hw _ (List.mem_of_getElem? hx1) | (exact Zl (by omega)))) (nt ?_))))))))
 refine cd (60<a.length) Y (fun fhc0=> ?_) fun fhc0=> ?_
 ·refine sr ?_
  refine fO (OF.assign (VEv.bool false)) (nt (rt (tr (vb (b':=false) Y ?_))))
  first | (symm;rw [decide_eq_false_iff_not];rintro ⟨h2,_⟩;omega) | (symm;rw [decide_eq_true_eq];exact ⟨by omega,Zu hI' fhc1⟩) | (symm;rw [decide_eq_false_iff_not];rintro ⟨_,h2⟩;obtain ⟨y,hy,h3,h4,h5⟩:=h2 i fhc1;obtain rfl:=QD hx1 hy;first | omega | contradiction | (obtain ⟨z,hz,h6⟩:=h5 (by omega);obtain rfl:=QD hx2 hz;simp_all;done) | (simp_all;done))
 refine sk (tn (sq (sr (mO (rd 2 Qa a) Y (lO (B.lenR (m:=a.length) (tv (rd 2 Qa a) Y) Zc (List.length_map ..)) (fO (OF.move (VEv.int .i64 0)) (nt (VRun.block ?_))))))))
 refine VRun.loop (A:=Nat) (fun s_=> [(0,(rd 2 Qa a)),(8,(rd 2 Qa a)),(9,(tN a.length)),(10,(tN s_))]) (fun s_=>YW []) 0 (fun s_=>s_≤a.length∧∀j,j<s_→QbM a j) (fun s_=>a.length - s_) (0:Nat) ?_ (Wk.mk (fun k=>k) ?_ ?_ ?_) ?_
 ·exact ⟨Nat.zero_le _,fun j hj=>by omega⟩
 ·exact (b2 (b2 (b2 (b2 bn))))
 ·exact bn
 ·exact nd Y
 rintro i (hI':i≤a.length∧∀j,j<i→QbM a j)
 show VRun _ _ _ [(0,(rd 2 Qa a)),(8,(rd 2 Qa a)),(9,(tN a.length)),(10,(tN i))] (YW []) 0 _
 have hI0:=hI'
 refine sr (fO (YM (tv (tN i) Y) (tv (tN a.length) Y)) (nt (sq ?_)))
 refine cd (i<a.length) Y (fun fhc1=> ?_) fun fhc1=> ?_
 ·refine sk ?_
  refine tn (sq (VRun.block (sr (mO (tN i) Y ?_))))
  obtain ⟨x1,hx1⟩:∃x,a[i]? =some x:=⟨_,List.getElem?_eq_getElem (by first | exact hw _ (List.mem_of_getElem? hx1) | omega)⟩
  refine fO (OF.indexAddrR (row:=(Qa false x1)) (i:=i) (tv (rd 2 Qa a) Y) (tv (tN i) Y) Y (QE _ hx1) Zc Qx Z3) (lO (OL.loadRn (us:=(Qa false x1)) (tv (T.rp (Qa false x1)) Y) Jg Qx (lb Y) Y) (kO (B.alloc (t:=(T.agg [(tS ByteArray.empty),(tN 0)])) (ts:= [(tS ByteArray.empty),(tN 0)]) Zs Qeo nofun (fun _=> .agg _ _ Y (QaW (RL.cons (.str _) (RL.cons (.int _ _) (RL.nil _))))) Y) (aO (tN i) Y (cO (B.storeW (us:=(Qa false x1)) (tv (T.op 0 0) Y) (tv (T.agg (Qa false x1)) Y) nofun Y Y Y Z3 Qx (bc Y (bc Y bn))) (nt (sq (VRun.draw (B:= [[],[0],[0,1],[1,0,2],[1,0,2],[2,0,1,4],[4,5,2,0,1,3],[3,1,0,2,5,4,6],[1,0,2],[8,6,4,5,2,0,1,3,7],[7,3,1,0,2,5,4,6,8,9],[9,8,6,4,5,3,7,10,1,0,2],[2,0,1,10,7,3,5,4,6,8,9,11],[11,9,8,6,4,5,3,7,10,1,0,2,12],[12,2,0,1,10,7,3,5,4,6,8,9,11,13],[13,11,9,8,6,4,5,3,7,10,1,0,2,12,14],[14,12,2,0,1,10,7,3,5,4,6,8,9,11,13,15],[15,13,14,16,11,9,8,6,4,5,3,7,10,1,0,2,12],[12,2,0,1,10,7,3,5,4,6,8,9,11,16,14,13,15,17],[17,15,13,14,16,11,9,8,6,4,5,3,7,10,1,0,2,12,18],[18,12,2,0,1,10,7,3,5,4,6,8,9,11,16,14,13,15,17,19],[19,17,15,13,14,16,11,9,8,6,4,5,3,7,10,1,0,2,12,18,20],[20,18,12,2,0,1,10,7,3,5,4,6,8,9,11,16,14,13,15,17,19,21],[21,19,20,22,17,15,13,14,16,11,9,8,6,4,5,3,7,10,1,0,2,12,18]]) (by kernel_rfl) (by kernel_rfl) (mD (tN i) Y Y (fD (B.gtr (c:=(decide (0<i))) (tv (tN i) Y) (VEv.int .i64 0) (by first | exact hw _ (List.mem_of_getElem? hx1) | (exact Zl (by omega)))) Y Y (mD (tB (decide (0<i))) Y Y ?_))))))))))
  refine gw (0<i) (fun fhg17_1=> ?_) fun fhg17_1=> ?_
  ·refine VRunD.free Y (VWant.on Y Y (dy fhg17_1)) Y (OF.move (tv (rd 2 Qa a) Y)) ?_
   refine VRunD.free Y (VWant.on Y Y (dy fhg17_1)) Y (OF.move (tv (tN i) Y)) (VRunD.free Y (VWant.on Y Y (dy fhg17_1)) Y (B.sub (n:=((i - 1:Nat):Int)) (tv (tN i) Y) (VEv.int .i64 1) (by first | exact hw _ (List.mem_of_getElem? hx1) | rfl | (rw [Qm (by omega)];omega) | (rw [Qm (by omega)];done))) ?_)
   obtain ⟨x2,hx2⟩:∃x,a[i - 1]? =some x:=⟨_,List.getElem?_eq_getElem (by first | exact hw _ (List.mem_of_getElem? hx1) | omega)⟩
   refine VRunD.free Y (VWant.on Y Y (dy fhg17_1)) Y (OF.indexAddrR (row:=(Qa false x2)) (i:=i - 1) (tv (rd 2 Qa a) Y) (tv (tN (i - 1)) Y) Y (QE _ hx2) Zc Qx Z3) (VRunD.look Y (VWant.on Y Y (dy fhg17_1)) Y (OL.loadRn (us:=(Qa false x2)) (tv (T.rp (Qa false x2)) Y) Jg Qx (lb Y) Y) (VRunD.look Y (VWant.on Y Y (dy fhg17_1)) Y (OL.loadOn (us:=(Qa false x1)) (tv (T.op 0 0) Y) Y Jg Qx (lb Y) Y) (VRunD.quiet (bi:= [8,6,4,5,2,0,1,3,7]) Y (VWant.on Y Y (dy fhg17_1)) Y Y Y bn (cS (vc (tv (T.agg (Qa false x2)) Y) (vc (tv (T.agg (Qa false x1)) Y) vn)) (LendL.cons (lg okeUsed) (LendL.cons (lg okeUsed) ln)) (Ym (n+0) x2 x1) Y Y) (VRunD.free Y (VWant.on Y Y (dy fhg17_1)) Y (Jj (tv (tB (QI x2 x1)) Y)) (fD (OF.pickT (VEv.tmpB Y (dy fhg17_1)) (tv (tB (!(QI x2 x1))) Y)) Y Y (mD (tB (!(QI x2 x1))) Y Y ?_))))))
   refine QbS (!(QI x2 x1)) (fun hg27_2=> ?_) (fun hg27_2=> ?_)
   ·have fhg27_2:(QI x2 x1)=false:=Qfm hg27_2
    refine oD Y Y hg27_2 Y (oD Y Y hg27_2 Y (oD Y Y hg27_2 Y (oD Y Y hg27_2 Y (fD (OF.pickT (VEv.tmpB Y hg27_2) (VEv.bool true)) Y Y (mD (tB true) Y Y (VRunD.off Y (VWant.not (b:=true) Y Y Y) (VRunD.off Y (VWant.not (b:=true) Y Y Y) (VRunD.off Y (VWant.not (b:=true) Y Y Y) (VRunD.off Y (VWant.not (b:=true) Y Y Y) (fD (OF.pickT (tv (tB true) Y) (VEv.bool true)) Y Y (VRunD.nil ?_)))))))))))
    refine tn (ct Y (sr (fO (OF.assign (VEv.bool false)) (nt (rt (vinB.r (tr (tr (vinB.r (tr (vb (b':=false) Y ?_)))))))))))
    first | (symm;rw [decide_eq_false_iff_not];rintro ⟨h2,_⟩;omega) | (symm;rw [decide_eq_true_eq];exact ⟨by omega,Zu hI' fhc1⟩) | (symm;rw [decide_eq_false_iff_not];rintro ⟨_,h2⟩;obtain ⟨y,hy,h3,h4,h5⟩:=h2 i fhc1;obtain rfl:=QD hx1 hy;first | omega | contradiction | (obtain ⟨z,hz,h6⟩:=h5 (by omega);obtain rfl:=QD hx2 hz;simp_all;done) | (simp_all;done))
   have fhg27_2:(QI x2 x1)=true:=Qfj hg27_2
   refine VRunD.free Y (VWant.on Y Y hg27_2) Y (OF.fieldAddrO (tv (T.op 0 0) Y) ZU) (VRunD.look Y (VWant.on Y Y hg27_2) Y (OL.loadO1 (t:=(tS x1.Word)) (tv (T.op 0 0) Y) Y Y st9) (VRunD.quiet (bi:= [13,11,9,8,6,4,5,3,7,10,1,0,2,12,14]) Y (VWant.on Y Y hg27_2) Y Y Y bn (cS (vc (tv (tS x1.Word) Y) vn) (YC Y) (Y8 (n+0) x1.Word (by first | exact hw _ (List.mem_of_getElem? hx1) | assumption | omega)) Y Y) (VRunD.free Y (VWant.on Y Y hg27_2) Y (Jj (tv (tB (decide (Zf x1.Word))) Y)) (fD (OF.pickF (VEv.tmpB Y hg27_2) (tv (tB (!(decide (Zf x1.Word)))) Y)) Y Y (mD (tB (!(decide (Zf x1.Word)))) Y Y ?_)))))
   refine gn (Zf x1.Word) (fun fhg33_3=> ?_) fun fhg33_3=> ?_
   ·refine oD Y Y (ny fhg33_3) Y ?_
    refine oD Y Y (ny fhg33_3) Y (oD Y Y (ny fhg33_3) Y (oD Y Y (ny fhg33_3) Y (fD (OF.pickT (VEv.tmpB Y (ny fhg33_3)) (VEv.bool true)) Y Y (VRunD.nil (tn (ct Y (sr (fO (OF.assign (VEv.bool false)) (nt (rt (vinB.r ?_)))))))))))
    refine tr (tr (vinB.r (tr (vb (b':=false) Y ?_))))
    first | (symm;rw [decide_eq_false_iff_not];rintro ⟨h2,_⟩;omega) | (symm;rw [decide_eq_true_eq];exact ⟨by omega,Zu hI' fhc1⟩) | (symm;rw [decide_eq_false_iff_not];rintro ⟨_,h2⟩;obtain ⟨y,hy,h3,h4,h5⟩:=h2 i fhc1;obtain rfl:=QD hx1 hy;first | omega | contradiction | (obtain ⟨z,hz,h6⟩:=h5 (by omega);obtain rfl:=QD hx2 hz;simp_all;done) | (simp_all;done))
   refine VRunD.free Y (VWant.on Y Y (nz fhg33_3)) Y (OF.fieldAddrO (tv (T.op 0 0) Y) Zv) (VRunD.look Y (VWant.on Y Y (nz fhg33_3)) Y (OL.loadO1 (t:=(tI x1.Issue)) (tv (T.op 0 1) Y) Y Y st3) (VRunD.quiet (bi:= [19,17,15,13,14,16,11,9,8,6,4,5,3,7,10,1,0,2,12,18,20]) Y (VWant.on Y Y (nz fhg33_3)) Y Y Y bn (cS (vc (tv (tI x1.Issue) Y) (vc (VEv.int .i64 1) (vc (VEv.int .i64 999) vn))) (YC Y) (Q3 (n+1) x1.Issue 1 999) Y Y) (VRunD.free Y (VWant.on Y Y (nz fhg33_3)) Y (Jj (tv (tB (decide (1≤x1.Issue∧x1.Issue≤999))) Y)) (fD (OF.pickF (VEv.tmpB Y (nz fhg33_3)) (tv (tB (!(decide (1≤x1.Issue∧x1.Issue≤999)))) Y)) Y Y (VRunD.nil (tn ?_))))))
   refine cn (1≤x1.Issue∧x1.Issue≤999) Y (fun fhc2=> ?_) fun fhc2=> ?_
   ·refine sr ?_
    refine fO (OF.assign (VEv.bool false)) (nt (rt (vinB.r (tr (tr (vinB.r (tr (vb (b':=false) Y ?_))))))))
    first | (symm;rw [decide_eq_false_iff_not];rintro ⟨h2,_⟩;omega) | (symm;rw [decide_eq_true_eq];exact ⟨by omega,Zu hI' fhc1⟩) | (symm;rw [decide_eq_false_iff_not];rintro ⟨_,h2⟩;obtain ⟨y,hy,h3,h4,h5⟩:=h2 i fhc1;obtain rfl:=QD hx1 hy;first | omega | contradiction | (obtain ⟨z,hz,h6⟩:=h5 (by omega);obtain rfl:=QD hx2 hz;simp_all;done) | (simp_all;done))
   refine sk (vinB.n (tn (VRun.region (fO (Yk (tv (tN i) Y) (VEv.int .i64 1) (by first | exact hw _ (List.mem_of_getElem? hx1) | omega)) (mO (tN (i+1)) Y (VRunO.nil (tn ?_)))))))
   refine ⟨(i+1:Nat),?_,?_,Wk.mk (fun k=>k) ?_ ?_ ?_⟩
   ·refine YU hI0 fhc1 ⟨x1,hx1,by assumption,by omega,fun h0=> ?_⟩
    first | (exact absurd h0 (by omega)) | (exact ⟨x2,hx2,by simp_all⟩)
   ·first | omega | (simp only [];omega) | (show _<_;omega) | (simp;omega)
   ·exact (b2 (b2 (b2 (b2 bn))))
   ·exact bn
   ·exact nd Y
  refine oD Y Y (dz fhg17_1) Y (oD Y Y (dz fhg17_1) Y (oD Y Y (dz fhg17_1) Y (oD Y Y (dz fhg17_1) Y (oD Y Y (dz fhg17_1) Y (oD Y Y (dz fhg17_1) Y (oD Y Y (dz fhg17_1) Y (oD Y Y (dz fhg17_1) Y (fD (OF.pickF (VEv.tmpB Y (dz fhg17_1)) (VEv.bool false)) Y Y (mD (tB false) Y Y (VRunD.free Y (VWant.on (b:=false) Y Y Y) Y (OF.fieldAddrO (tv (T.op 0 0) Y) ZU) (VRunD.look Y (VWant.on (b:=false) Y Y Y) Y (OL.loadO1 (t:=(tS x1.Word)) (tv (T.op 0 0) Y) Y Y st9) ?_)))))))))))
  refine VRunD.quiet (bi:= [13,11,9,8,6,4,5,3,7,10,1,0,2,12,14]) Y (VWant.on (b:=false) Y Y Y) Y Y Y bn (cS (vc (tv (tS x1.Word) Y) vn) (YC Y) (Y8 (n+0) x1.Word (by first | exact hw _ (List.mem_of_getElem? hx1) | assumption | omega)) Y Y) (VRunD.free Y (VWant.on (b:=false) Y Y Y) Y (Jj (tv (tB (decide (Zf x1.Word))) Y)) (fD (OF.pickF (tv (tB false) Y) (tv (tB (!(decide (Zf x1.Word)))) Y)) Y Y (mD (tB (!(decide (Zf x1.Word)))) Y Y ?_)))
  refine gn (Zf x1.Word) (fun fhg33_4=> ?_) fun fhg33_4=> ?_
  ·refine oD Y Y (ny fhg33_4) Y ?_
   refine oD Y Y (ny fhg33_4) Y (oD Y Y (ny fhg33_4) Y (oD Y Y (ny fhg33_4) Y (fD (OF.pickT (VEv.tmpB Y (ny fhg33_4)) (VEv.bool true)) Y Y (VRunD.nil (tn (ct Y (sr (fO (OF.assign (VEv.bool false)) (nt (rt (vinB.r ?_)))))))))))
   refine tr (tr (vinB.r (tr (vb (b':=false) Y ?_))))
   first | (symm;rw [decide_eq_false_iff_not];rintro ⟨h2,_⟩;omega) | (symm;rw [decide_eq_true_eq];exact ⟨by omega,Zu hI' fhc1⟩) | (symm;rw [decide_eq_false_iff_not];rintro ⟨_,h2⟩;obtain ⟨y,hy,h3,h4,h5⟩:=h2 i fhc1;obtain rfl:=QD hx1 hy;first | omega | contradiction | (obtain ⟨z,hz,h6⟩:=h5 (by omega);obtain rfl:=QD hx2 hz;simp_all;done) | (simp_all;done))
  refine VRunD.free Y (VWant.on Y Y (nz fhg33_4)) Y (OF.fieldAddrO (tv (T.op 0 0) Y) Zv) (VRunD.look Y (VWant.on Y Y (nz fhg33_4)) Y (OL.loadO1 (t:=(tI x1.Issue)) (tv (T.op 0 1) Y) Y Y st3) (VRunD.quiet (bi:= [19,17,15,13,14,16,11,9,8,6,4,5,3,7,10,1,0,2,12,18,20]) Y (VWant.on Y Y (nz fhg33_4)) Y Y Y bn (cS (vc (tv (tI x1.Issue) Y) (vc (VEv.int .i64 1) (vc (VEv.int .i64 999) vn))) (YC Y) (Q3 (n+1) x1.Issue 1 999) Y Y) (VRunD.free Y (VWant.on Y Y (nz fhg33_4)) Y (Jj (tv (tB (decide (1≤x1.Issue∧x1.Issue≤999))) Y)) (fD (OF.pickF (VEv.tmpB Y (nz fhg33_4)) (tv (tB (!(decide (1≤x1.Issue∧x1.Issue≤999)))) Y)) Y Y (VRunD.nil (tn ?_))))))
  refine cn (1≤x1.Issue∧x1.Issue≤999) Y (fun fhc2=> ?_) fun fhc2=> ?_
  ·refine sr ?_
   refine fO (OF.assign (VEv.bool false)) (nt (rt (vinB.r (tr (tr (vinB.r (tr (vb (b':=false) Y ?_))))))))
   first | (symm;rw [decide_eq_false_iff_not];rintro ⟨h2,_⟩;omega) | (symm;rw [decide_eq_true_eq];exact ⟨by omega,Zu hI' fhc1⟩) | (symm;rw [decide_eq_false_iff_not];rintro ⟨_,h2⟩;obtain ⟨y,hy,h3,h4,h5⟩:=h2 i fhc1;obtain rfl:=QD hx1 hy;first | omega | contradiction | (obtain ⟨z,hz,h6⟩:=h5 (by omega);obtain rfl:=QD hx2 hz;simp_all;done) | (simp_all;done))
  refine sk (vinB.n (tn (VRun.region (fO (Yk (tv (tN i) Y) (VEv.int .i64 1) (by first | exact hw _ (List.mem_of_getElem? hx1) | omega)) (mO (tN (i+1)) Y (VRunO.nil (tn ?_)))))))
  refine ⟨(i+1:Nat),?_,?_,Wk.mk (fun k=>k) ?_ ?_ ?_⟩
  ·refine YU hI0 fhc1 ⟨x1,hx1,by assumption,by omega,fun h0=> ?_⟩
   first | (exact absurd h0 (by omega)) | (exact ⟨x2,hx2,by simp_all⟩)
  ·first | omega | (simp only [];omega) | (show _<_;omega) | (simp;omega)
  ·exact (b2 (b2 (b2 (b2 bn))))
  ·exact bn
  ·exact nd Y
 refine VRun.exit (vthn.e (vthn.e (vinB.e (tn (sr (fO (OF.assign (VEv.bool true)) (nt (rt (vb (b':=true) Y ?_)))))))))
 first | (symm;rw [decide_eq_false_iff_not];rintro ⟨h2,_⟩;omega) | (symm;rw [decide_eq_true_eq];exact ⟨by omega,Zu hI' fhc1⟩) | (symm;rw [decide_eq_false_iff_not];rintro ⟨_,h2⟩;obtain ⟨y,hy,h3,h4,h5⟩:=h2 i fhc1;obtain rfl:=QD hx1 hy;first | omega | contradiction | (obtain ⟨z,hz,h6⟩:=h5 (by omega);obtain rfl:=QD hx2 hz;simp_all;done) | (simp_all;done))
noncomputable section
def Q1 (w:ByteArray) (r:Int) (x:D.Used):Int:=if x.Word=w then max r x.Issue else r
def Qc (l:List D.Used) (w:ByteArray):Int:=l.foldl (Q1 w) 0
theorem Q5 {l:List D.Used} {w:ByteArray} {i:Nat} {x:D.Used} (h:l[i]? =some x):Qc (l.take (i+1)) w=Q1 w (Qc (l.take i) w) x:=by
 unfold Qc
 rw [List.take_add_one,h,List.foldl_append]
 rfl
theorem Qa0 {w:ByteArray}:∀ {l:List D.Used} {r:Int},(∀x∈l,x.Issue≤9223372036854775807)→0≤r→r≤9223372036854775807→0≤l.foldl (Q1 w) r∧l.foldl (Q1 w) r≤9223372036854775807
 | [],r,_,h1,h2=>⟨h1,h2⟩
 | x::l,r,h,h1,h2=>by
  have h3:=h x (by simp)
  refine Qa0 (l:=l) (fun y hy=>h y (by simp [hy])) ?_ ?_
  ·unfold Q1;split<;>omega
  ·unfold Q1;split<;>omega
theorem QcB {l:List D.Used} (w:ByteArray) (hg:∀y∈l,Qa4 y):0≤Qc l w∧Qc l w≤9223372036854775807:=Qa0 (fun x hx=>by
 obtain ⟨_,h⟩:=hg x hx
 simp only [Lit.wf,Bool.and_eq_true,decide_eq_true_eq] at h
 exact Int.le_trans h.2 (by decide)) (by decide) (by decide)
def Qu (l:List D.Used) (w:ByteArray) (n g:Int):Prop:=(1≤n∧n≤999)∧(0≤g∧g≤999)∧(Qc l w=0∨Qc l w<n - g)
instance (l:List D.Used) (w:ByteArray) (n g:Int):Decidable (Qu l w n g):=Classical.propDecidable _
def Qh (l:List D.Used) (ws:List ByteArray) (n g:Int):List ByteArray:=ws.filter fun w=> !decide (Qu l w n g)
theorem J7 (l:List D.Used) (ws:List ByteArray) (n g:Int):(Qh l ws n g).length≤ws.length:=List.length_filter_le _ _
theorem Q8 {l:List D.Used} {ws:List ByteArray} {n g:Int} {i:Nat} {w:ByteArray} (h:ws[i]? =some w):Qh l (ws.take (i+1)) n g=Qh l (ws.take i) n g++(if Qu l w n g then [] else [w]):=by
 unfold Qh
 rw [List.take_add_one,h,List.filter_append]
 by_cases hp:Qu l w n g
 ·simp [hp]
 ·simp [hp]
end
theorem ZX (n:Nat) (l:List D.Used) (w:ByteArray) (hl:l.length≤mx):Pure (Qo Try.prog (n+1)) 7 [(rd 2 Qa l),(tS w)] (tI (Qc l w)):=by
 refine Pure.intro (rs:= [ResultVar.tmp 4]) Try.func7 Y Y Y (E0:= [(0,(rd 2 Qa l)),(1,(tS w))]) Y ?_
 obtain ⟨hlim,hmx,hmax⟩:=QW
 refine sr (fO (OF.assign (VEv.int .i64 0)) (nt (sr (fO (OF.assign (VEv.int .i64 0)) (nt (sq (sr (mO (rd 2 Qa l) Y (lO (B.lenR (m:=l.length) (tv (rd 2 Qa l) Y) Zc (List.length_map ..)) (fO (OF.move (VEv.int .i64 0)) (nt ?_)))))))))))
 refine VRun.block ?_
 refine VRun.loop (A:=Nat) (fun s_=> [(1,(tS w)),(4,(tN 0)),(5,(tI (Qc (l.take s_) w))),(8,(rd 2 Qa l)),(9,(tN l.length)),(10,(tN s_))]) (fun s_=>YW []) 0 (fun s_=>s_≤l.length) (fun s_=>l.length - s_) (0:Nat) ?_ (Wk.mk (fun k=>k) ?_ ?_ ?_) ?_
 ·first | trivial | (simp;done) | omega | (constructor<;>simp)
 ·exact (b2 (b2 (bc ⟨(congrArg (T.int .i64) (show 0=Qc (l.take 0) w from (by first | rfl | omega | (rw [Q5 hx1,Q1,if_pos fhc1]) | (rw [Q5 hx1,Q1,if_neg fhc1]) | (simp;done) | (push_cast;omega)))),rfl⟩ (b2 (b2 (b2 bn))))))
 ·exact bn
 ·exact nd Y
 rintro i (hI':i≤l.length)
 show VRun _ _ _ [(1,(tS w)),(4,(tN 0)),(5,(tI (Qc (l.take i) w))),(8,(rd 2 Qa l)),(9,(tN l.length)),(10,(tN i))] (YW []) 0 _
 have hI1:=hI'
 refine sr (fO (YM (tv (tN i) Y) (tv (tN l.length) Y)) (nt (sq ?_)))
 refine cd (i<l.length) Y (fun fhc0=> ?_) fun fhc0=> ?_
 ·refine sk ?_
  refine tn (sq (VRun.block (sr ?_)))
  obtain ⟨x1,hx1⟩:∃x,l[i]? =some x:=⟨_,List.getElem?_eq_getElem (by omega)⟩
  refine fO (OF.indexAddrR (row:=(Qa false x1)) (i:=i) (tv (rd 2 Qa l) Y) (tv (tN i) Y) Y (QE _ hx1) Zc Qx Z3) (lO (OL.loadRn (us:=(Qa false x1)) (tv (T.rp (Qa false x1)) Y) Jg Qx (lb Y) Y) (kO (B.alloc (t:=(T.agg [(tS ByteArray.empty),(tN 0)])) (ts:= [(tS ByteArray.empty),(tN 0)]) Zs Qeo nofun (fun _=> .agg _ _ Y (QaW (RL.cons (.str _) (RL.cons (.int _ _) (RL.nil _))))) Y) (cO (B.storeW (us:=(Qa false x1)) (tv (T.op 0 0) Y) (tv (T.agg (Qa false x1)) Y) nofun Y Y Y Z3 Qx (bc Y (bc Y bn))) (nt (sr (lf (tS x1.Word) Y ZU Y Y st9 (mO (tS w) Y (fO (B.seql (c:=(decide (x1.Word=w))) (tv (tS x1.Word) Y) (tv (tS w) Y) Y) (nt ?_)))))))))
  refine cd (x1.Word=w) Y (fun fhc1=> ?_) fun fhc1=> ?_
  ·refine VRun.region ?_
   refine mO (tI (Qc (l.take i) w)) Y (lf (tI x1.Issue) Y Zv Y Y st3 (fO (B.max (n:=(max (Qc (l.take i) w) x1.Issue)) (tv (tI (Qc (l.take i) w)) Y) (tv (tI x1.Issue) Y) (by simp only [Int.max_def,Int.min_def];split<;>split<;>omega)) (aO (tI (max (Qc (l.take i) w) x1.Issue)) Y (VRunO.nil (vinB.n (tn (VRun.region (fO (Yk (tv (tN i) Y) (VEv.int .i64 1) (by omega)) (mO (tN (i+1)) Y (VRunO.nil (tn ?_)))))))))))
   refine ⟨(i+1:Nat),?_,?_,Wk.mk (fun k=>k) ?_ ?_ ?_⟩
   ·first | trivial | omega | (simp;done) | exact ⟨by omega,hI'.2⟩
   ·first | omega | (simp only [];omega) | (show _<_;omega) | (simp;omega)
   ·exact (b2 (b2 (bc ⟨(congrArg (T.int .i64) (show (max (Qc (l.take i) w) x1.Issue)=Qc (l.take (i+1)) w from (by first | rfl | omega | (rw [Q5 hx1,Q1,if_pos fhc1]) | (rw [Q5 hx1,Q1,if_neg fhc1]) | (simp;done) | (push_cast;omega)))),rfl⟩ (b2 (b2 (b2 bn))))))
   ·exact bn
   ·exact nd Y
  refine sk (vinB.n (tn (VRun.region (fO (Yk (tv (tN i) Y) (VEv.int .i64 1) (by omega)) (mO (tN (i+1)) Y (VRunO.nil (tn ?_)))))))
  refine ⟨(i+1:Nat),?_,?_,Wk.mk (fun k=>k) ?_ ?_ ?_⟩
  ·first | trivial | omega | (simp;done) | exact ⟨by omega,hI'.2⟩
  ·first | omega | (simp only [];omega) | (show _<_;omega) | (simp;omega)
  ·exact (b2 (b2 (bc ⟨(congrArg (T.int .i64) (show Qc (l.take i) w=Qc (l.take (i+1)) w from (by first | rfl | omega | (rw [Q5 hx1,Q1,if_pos fhc1]) | (rw [Q5 hx1,Q1,if_neg fhc1]) | (simp;done) | (push_cast;omega)))),rfl⟩ (b2 (b2 (b2 bn))))))
  ·exact bn
  ·exact nd Y
 refine VRun.exit (vthn.e (vthn.e (vinB.e (tn (sr (mO (tI (Qc (l.take i) w)) Y (aO (tI (Qc (l.take i) w)) Y (nt (rt (vi (n':=Qc (l.take i) w) Y ?_))))))))))
 rw [List.take_of_length_le (by omega)]
theorem Y6 (n:Nat) (l:List D.Used) (w:ByteArray) (n0:Int) (g:Int) (hl:l.length≤mx) (hg:∀y∈l,Qa4 y):Pure (Qo Try.prog (n+2)) 8 [(rd 2 Qa l),(tS w),(tI n0),(tI g)] (tB (decide (Qu l w n0 g))):=by
 refine Pure.intro (rs:= [ResultVar.tmp 8]) Try.func8 Y Y Y (E0:= [(0,(rd 2 Qa l)),(1,(tS w)),(2,(tI n0)),(3,(tI g))]) Y ?_
 obtain ⟨hlim,hmx,hmax⟩:=QW
 have hb:=QcB w hg
 refine sr (fO (OF.assign (VEv.bool false)) (nt (sr (mO (rd 2 Qa l) Y (mO (tS w) Y (cO (cS (vc (tv (rd 2 Qa l) Y) (vc (tv (tS w) Y) vn)) (YC Y) (ZX (n+0) l w (by first | assumption | omega)) Y Y) (aO (tI (Qc l w)) Y (nt (sr (mO (tI n0) Y (cO (cS (vc (tv (tI n0) Y) (vc (VEv.int .i64 1) (vc (VEv.int .i64 999) vn))) (YC Y) (Q3 (n+0) n0 1 999) Y Y) ?_)))))))))))
 refine mO (tB (decide (1≤n0∧n0≤999))) Y ?_
 refine gw (1≤n0∧n0≤999) (fun fhg15_1=> ?_) fun fhg15_1=> ?_
 ·refine gF (dy fhg15_1) Y Y (OF.move (tv (tI g) Y)) ?_
  refine VRunO.chain (VWant.on Y Y (dy fhg15_1)) (cS (vc (tv (tI g) Y) (vc (VEv.int .i64 0) (vc (VEv.int .i64 999) vn))) (YC Y) (Q3 (n+0) g 0 999) Y Y) (fO (OF.pickT (VEv.tmpB Y (dy fhg15_1)) (tv (tB (decide (0≤g∧g≤999))) Y)) (mO (tB (decide (0≤g∧g≤999))) Y ?_))
  refine gw (0≤g∧g≤999) (fun fhg19_2=> ?_) fun fhg19_2=> ?_
  ·refine gF (dy fhg19_2) Y Y (OF.move (tv (tI (Qc l w)) Y)) ?_
   refine gF (dy fhg19_2) Y Y (xeq (tv (tI (Qc l w)) Y) (VEv.int .i64 0)) (gF (dy fhg19_2) Y Y (OF.move (tv (tB (decide (Qc l w=0))) Y)) ?_)
   refine gw (Qc l w=0) (fun fhg22_3=> ?_) fun fhg22_3=> ?_
   ·refine Yo 5 9 false 22 (dy fhg22_3) Y Y Y ?_
    refine gF (dy fhg19_2) Y Y (OF.pickT (VEv.tmpB Y (dy fhg22_3)) (VEv.bool true)) (fO (OF.pickT (VEv.tmpB Y (dy fhg19_2)) (tv (tB true) Y)) (aO (tB true) Y (nt (rt (vb (b':=true) Y ?_)))))
    first | (refine Zl ?_;unfold Qu;omega) | (symm;rw [decide_eq_false_iff_not];unfold Qu;omega) | (symm;rw [decide_eq_true_eq];unfold Qu;omega)
   refine gF (dz fhg22_3) Y Y (OF.move (tv (tI n0) Y)) (gF (dz fhg22_3) Y Y (OF.move (tv (tI (Qc l w)) Y)) (gF (dz fhg22_3) Y Y (B.sub (n:=(n0 - Qc l w)) (tv (tI n0) Y) (tv (tI (Qc l w)) Y) (by first | rfl | (rw [Qm (by omega)];omega) | (rw [Qm (by omega)];done))) (gF (dz fhg22_3) Y Y (OF.move (tv (tI g) Y)) (gF (dz fhg22_3) Y Y (xgt (tv (tI (n0 - Qc l w)) Y) (tv (tI g) Y)) (gF (dy fhg19_2) Y Y (OF.pickF (VEv.tmpB Y (dz fhg22_3)) (tv (tB (decide (g<(n0 - Qc l w)))) Y)) (fO (OF.pickT (VEv.tmpB Y (dy fhg19_2)) (tv (tB (decide (g<(n0 - Qc l w)))) Y)) (aO (tB (decide (g<(n0 - Qc l w)))) Y (nt (rt (vb (b':=(decide (g<(n0 - Qc l w)))) Y ?_))))))))))
   first | (refine Zl ?_;unfold Qu;omega) | (symm;rw [decide_eq_false_iff_not];unfold Qu;omega) | (symm;rw [decide_eq_true_eq];unfold Qu;omega)
  refine Yo 3 6 true 19 (dz fhg19_2) Y Y Y (Qeg 5 9 false 22 Y Y Y (oO Y Y (dz fhg19_2) (fO (OF.pickF (VEv.tmpB Y (dz fhg19_2)) (VEv.bool false)) (aO (tB false) Y (nt (rt (vb (b':=false) Y ?_)))))))
  first | (refine Zl ?_;unfold Qu;omega) | (symm;rw [decide_eq_false_iff_not];unfold Qu;omega) | (symm;rw [decide_eq_true_eq];unfold Qu;omega)
 refine Yo 2 2 true 15 (dz fhg15_1) Y Y Y (fO (OF.pickF (VEv.tmpB Y (dz fhg15_1)) (VEv.bool false)) (mO (tB false) Y (Yo 3 6 true 19 (b:=false) Y Y Y Y (Qeg 5 9 false 22 Y Y Y (VRunO.off (VWant.not (b:=false) Y Y Y) (fO (OF.pickF (tv (tB false) Y) (VEv.bool false)) (aO (tB false) Y (nt (rt (vb (b':=false) Y ?_))))))))))
 first | (refine Zl ?_;unfold Qu;omega) | (symm;rw [decide_eq_false_iff_not];unfold Qu;omega) | (symm;rw [decide_eq_true_eq];unfold Qu;omega)
theorem JJ (n:Nat) (w:ByteArray) (l:List D.Used) (n0:Int) (g:Int) (hl:l.length≤mx) (hg:∀y∈l,Qa4 y):Pure (Qo Try.prog (n+3)) 17 [(tS w),(T.rp [(rd 2 Qa l)]),(T.rp [(tI n0)]),(T.rp [(tI g)])] (tB (!decide (Qu l w n0 g))):=by
 refine Pure.intro (rs:= [ResultVar.tmp 5]) Try.func17 Y Y Y (E0:= [(0,(tS w)),(1,(T.rp [(rd 2 Qa l)])),(2,(T.rp [(tI n0)])),(3,(T.rp [(tI g)]))]) Y ?_
 obtain ⟨hlim,hmx,hmax⟩:=QW
 refine sr (fO (OF.assign (VEv.bool false)) (nt (sr (lO (OL.loadR1 (t:=(rd 2 Qa l)) (tv (T.rp [(rd 2 Qa l)]) Y) Y QfE) (mO (tS w) Y (lO (OL.loadR1 (t:=(tI n0)) (tv (T.rp [(tI n0)]) Y) Y st3) (lO (OL.loadR1 (t:=(tI g)) (tv (T.rp [(tI g)]) Y) Y st3) (cO (cS (vc (tv (rd 2 Qa l) Y) (vc (tv (tS w) Y) (vc (tv (tI n0) Y) (vc (tv (tI g) Y) vn)))) (YC Y) (Y6 (n+0) l w n0 g (by first | assumption | omega) (by first | assumption | omega)) Y Y) (fO (Jj (tv (tB (decide (Qu l w n0 g))) Y)) (aO (tB (!(decide (Qu l w n0 g)))) Y (nt ?_)))))))))))
 refine rt (vb (b':=(!(decide (Qu l w n0 g)))) Y ?_)
 first | rfl | (exact Zl (by omega)) | (symm;rw [decide_eq_false_iff_not];omega) | (symm;rw [decide_eq_true_eq];omega) | (simp_all;done)
theorem ZK (n:Nat) (ws:List ByteArray) (l:List D.Used) (n0:Int) (g:Int) (hl:l.length≤mx) (hg:∀y∈l,Qa4 y) (hw:ws.length≤mx):Pure (Qo Try.prog (n+4)) 16 [(rd 1 Qd ws),(T.fn 17 [(T.rp [(rd 2 Qa l)]),(T.rp [(tI n0)]),(T.rp [(tI g)])])] (T.sl true 1 ((Qh l ws n0 g).map (Qd true))):=by
 refine Pure.intro (rs:= [ResultVar.tmp 4]) Try.func16 Y Y Y (E0:= [(0,(rd 1 Qd ws)),(1,(T.fn 17 [(T.rp [(rd 2 Qa l)]),(T.rp [(tI n0)]),(T.rp [(tI g)])]))]) Y ?_
 obtain ⟨hlim,hmx,hmax⟩:=QW
 refine sr (fO (OF.assign VEv.nils) (nt (sr (fO (OF.assign VEv.nils) (nt (sq (sr (mO (rd 1 Qd ws) Y (lO (B.lenR (m:=ws.length) (tv (rd 1 Qd ws) Y) Jm (List.length_map ..)) (fO (OF.move (VEv.int .i64 0)) (nt ?_)))))))))))
 refine VRun.block (VRun.wk (Wk.phantom 5 1 Y) ?_)
 have he1: []=((Qh l (ws.take 0) n0 g).map (Qd true)):=by first | rfl | (rw [Q8 hx1,if_pos q1,List.append_nil]) | (rw [Q8 hx1,if_neg q1]) | (simp;done) | omega
 refine VRun.loop (A:=Nat) (fun s_=> [(1,(T.fn 17 [(T.rp [(rd 2 Qa l)]),(T.rp [(tI n0)]),(T.rp [(tI g)])])),(4,T.nils),(5,(T.os 1 0 0 (((Qh l (ws.take s_) n0 g).map (Qd true)).length))),(8,(rd 1 Qd ws)),(9,(tN ws.length)),(10,(tN s_))]) (fun s_=>YW [(0,(Obj.rows 1 ((Qh l (ws.take s_) n0 g).map (Qd true))))]) 1 (fun s_=>s_≤ws.length) (fun s_=>ws.length - s_) (0:Nat) ?_ (Wk.mk (fun k=>k) ?_ ?_ ?_) ?_
 ·first | trivial | (simp;done) | omega | (constructor<;>simp)
 ·exact (b2 (b2 (bc ⟨(congrArg (fun n_=>T.os 1 0 0 n_) (show 0=((Qh l (ws.take 0) n0 g).map (Qd true)).length from (by first | rfl | (simp only [List.length_map];omega) | (simp only [List.length_map,List.length_set,List.length_append,List.length_take,List.length_replicate,List.length_cons,List.length_nil];omega)))),rfl⟩ (b2 (b2 (b2 bn))))))
 ·exact (bc ⟨(congrArg (fun l_=>some (Obj.rows 1 l_)) he1),(lb Y),rfl⟩ bn)
 ·exact nd Y
 rintro i (hI':i≤ws.length)
 show VRun _ _ _ [(1,(T.fn 17 [(T.rp [(rd 2 Qa l)]),(T.rp [(tI n0)]),(T.rp [(tI g)])])),(4,T.nils),(5,(T.os 1 0 0 (((Qh l (ws.take i) n0 g).map (Qd true)).length))),(8,(rd 1 Qd ws)),(9,(tN ws.length)),(10,(tN i))] (YW [(0,(Obj.rows 1 ((Qh l (ws.take i) n0 g).map (Qd true))))]) 1 _
 have hI1:=hI'
 have hI2:=J7 l (ws.take i) n0 g
 have hI3:(ws.take i).length≤ws.length:=by rw [List.length_take];omega
 refine sr (fO (YM (tv (tN i) Y) (tv (tN ws.length) Y)) (nt (sq ?_)))
 refine cd (i<ws.length) Y (fun fhc0=> ?_) fun fhc0=> ?_
 ·refine sk ?_
  refine tn (sq (VRun.block (sr ?_)))
  obtain ⟨x1,hx1⟩:∃x,ws[i]? =some x:=⟨_,List.getElem?_eq_getElem (by omega)⟩
  refine fO (OF.indexAddrR (row:=(Qd false x1)) (i:=i) (tv (rd 1 Qd ws) Y) (tv (tN i) Y) Y (QE _ hx1) Jm JH if9) (lO (OL.loadR1 (t:=(tS x1)) (tv (T.rp [(tS x1)]) Y) Y st9) (aO (tS x1) Y (nt (sr (mO (T.fn 17 [(T.rp [(rd 2 Qa l)]),(T.rp [(tI n0)]),(T.rp [(tI g)])]) Y (mO (tS x1) Y (cO (OC.callv (us:= [(tS x1)]) (ucaps:= [(T.rp [(rd 2 Qa l)]),(T.rp [(tI n0)]),(T.rp [(tI g)])]) (r:=(tB (!decide (Qu l x1 n0 g)))) (r':=(tB (!decide (Qu l x1 n0 g)))) (objs:= []) Y Y (vc (tv (tS x1) Y) vn) (YC Y) (YC Y) (JJ (n+0) x1 l n0 g (by first | assumption | omega) (by first | assumption | omega)) Y) (nt ?_))))))))
  refine VRun.cond (tv (tB (!decide (Qu l x1 n0 g))) Y) (fun hc1=> ?_) (fun hc1=> ?_)
  ·have fhc1:(!decide (Qu l x1 n0 g))=true:=hc1
   have q1:¬Qu l x1 n0 g:=by simpa using fhc1
   refine VRun.region (mO (T.os 1 0 0 (((Qh l (ws.take i) n0 g).map (Qd true)).length)) Y (mO (tS x1) Y (kO (OM.buildSlice (l:= [(tS x1)]) (VEvp.cons (tv (tS x1) Y) VEvp.nil) Y (by decide) (bc (nofun) bn) (bc ((bc (Y) bn)) bn) (bc (Y) bn) Jm zo9 (by kernel_rfl) Y (by rw [JH];decide) JH (Nat.le_of_ble_eq_true Y)) (cO (B.append (rows:=((Qh l (ws.take i) n0 g).map (Qd true))) (rows2:= [[(tS x1)]]) (rows3:=((Qh l (ws.take i) n0 g++ [x1]).map (Qd true))) (VDst.own (tv (T.os 1 0 0 (((Qh l (ws.take i) n0 g).map (Qd true)).length)) Y) Y Y) (VSrc.own (tv (T.os 1 1 0 1) Y) Y Y Jm (bc (bc Y bn) bn)) (by decide) Jm JH (by decide) zo9 Y (of_decide_eq_true (by kernel_rfl)) (by first | omega | (simp only [List.length_map];omega) | (simp only [List.length_map,List.length_append,List.length_cons,List.length_nil,List.length_replicate,List.length_set,List.length_drop,List.length_take,ZQ] at *;omega)) ((List.map_append (f:=Qd true) (l₁:=Qh l (ws.take i) n0 g) (l₂:= [x1])).symm)) (aO (T.os 1 2 0 (((Qh l (ws.take i) n0 g++ [x1]).map (Qd true)).length)) Y (VRunO.nil (vinB.n (tn (VRun.region (fO (Yk (tv (tN i) Y) (VEv.int .i64 1) (by omega)) (mO (tN (i+1)) Y ?_)))))))))))
   refine VRunO.nil (tn ?_)
   have he2:(Qh l (ws.take i) n0 g++ [x1])=Qh l (ws.take (i+1)) n0 g:=by first | rfl | (rw [Q8 hx1,if_pos q1,List.append_nil]) | (rw [Q8 hx1,if_neg q1]) | (simp;done) | omega
   refine ⟨(i+1:Nat),?_,?_,Wk.mk (fun k=>if k=0 then 2 else k) ?_ ?_ ?_⟩
   ·first | trivial | omega | (simp;done) | exact ⟨by omega,hI'.2⟩
   ·first | omega | (simp only [];omega) | (show _<_;omega) | (simp;omega)
   ·exact (b2 (b2 (bc ⟨(congrArg (fun l_=>T.os 1 2 0 (List.map (Qd true) l_).length) he2),rfl⟩ (b2 (b2 (b2 bn))))))
   ·exact (bc ⟨(congrArg (fun l_=>some (Obj.rows 1 (List.map (Qd true) l_))) he2),(lb Y),rfl⟩ bn)
   ·exact nd Y
  have fhc1:(!decide (Qu l x1 n0 g))=false:=hc1
  have q1:Qu l x1 n0 g:=by simpa using fhc1
  refine sk (vinB.n (tn (VRun.region (fO (Yk (tv (tN i) Y) (VEv.int .i64 1) (by omega)) (mO (tN (i+1)) Y (VRunO.nil (tn ?_)))))))
  have he3:Qh l (ws.take i) n0 g=Qh l (ws.take (i+1)) n0 g:=by first | rfl | (rw [Q8 hx1,if_pos q1,List.append_nil]) | (rw [Q8 hx1,if_neg q1]) | (simp;done) | omega
  refine ⟨(i+1:Nat),?_,?_,Wk.mk (fun k=>k) ?_ ?_ ?_⟩
  ·first | trivial | omega | (simp;done) | exact ⟨by omega,hI'.2⟩
  ·first | omega | (simp only [];omega) | (show _<_;omega) | (simp;omega)
  ·exact (b2 (b2 (bc ⟨(congrArg (fun l_=>T.os 1 0 0 (List.map (Qd true) l_).length) he3),rfl⟩ (b2 (b2 (b2 bn))))))
  ·exact (bc ⟨(congrArg (fun l_=>some (Obj.rows 1 (List.map (Qd true) l_))) he3),(lb Y),rfl⟩ bn)
  ·exact nd Y
 refine VRun.exit (vthn.e (vthn.e (vinB.e (tn (sr (mO (T.os 1 0 0 (((Qh l (ws.take i) n0 g).map (Qd true)).length)) Y (aO (T.os 1 0 0 (((Qh l (ws.take i) n0 g).map (Qd true)).length)) Y (nt (rt ?_)))))))))
 refine vfin.eq (r':=(T.sl true 1 ((Qh l (ws.take i) n0 g).map (Qd true)))) ?_ (vfin.r (VRes.tmp (t:=(T.os 1 0 0 (((Qh l (ws.take i) n0 g).map (Qd true)).length))) Y VRes.nil) (Give.os Y Y (okStr.cleanMap _)))
 refine congrArg (fun l_=>T.sl true 1 (List.map (Qd true) l_)) ?_
 rw [List.take_of_length_le (by omega)]
theorem Qaz (n:Nat) (l:List D.Used) (ws:List ByteArray) (n0:Int) (g:Int) (hl:l.length≤mx) (hg:∀y∈l,Qa4 y) (hw:ws.length≤mx):Pure (Qo Try.prog (n+5)) 6 [(rd 2 Qa l),(rd 1 Qd ws),(tI n0),(tI g)] (T.sl true 1 ((Qh l ws n0 g).map (Qd true))):=by
 refine Pure.intro (rs:= [ResultVar.tmp 8]) Try.func6 Y Y Y (E0:= [(0,(rd 2 Qa l)),(1,(rd 1 Qd ws)),(2,(tI n0)),(3,(tI g))]) Y ?_
 obtain ⟨hlim,hmx,hmax⟩:=QW
 refine sr (kO (B.box (ts:= [(rd 2 Qa l)]) (tv (rd 2 Qa l) Y) nofun Y) (kO (B.box (ts:= [(tI n0)]) (tv (tI n0) Y) nofun Y) (kO (B.box (ts:= [(tI g)]) (tv (tI g) Y) nofun Y) (fO (OF.assign VEv.nils) (nt (sr (mO (rd 1 Qd ws) Y (fO (OF.makeFunc (vc (tv (T.op 0 0) Y) (vc (tv (T.op 1 0) Y) (vc (tv (T.op 2 0) Y) vn)))) (cO (OC.callF (us:= [(rd 1 Qd ws),(T.fn 17 [(T.rp [(rd 2 Qa l)]),(T.rp [(tI n0)]),(T.rp [(tI g)])])]) (r':=(T.os 1 3 0 (((Qh l ws n0 g).map (Qd true)).length))) (objs:= [(Obj.rows 1 ((Qh l ws n0 g).map (Qd true)))]) Y (vc (tv (rd 1 Qd ws) Y) (vc (tv (T.fn 17 [(T.op 0 0),(T.op 1 0),(T.op 2 0)]) Y) vn)) (lp Y (LendL.cons (Lend.fn (LendL.cons (Lend.op (us':= [(rd 2 Qa l)]) (ts:= [(rd 2 Qa l)]) Y (LendL.cons (Lend.pl Y) ln) (lb Y) Y) (LendL.cons (Lend.op (us':= [(tI n0)]) (ts:= [(tI n0)]) Y (LendL.cons (Lend.pl Y) ln) (lb Y) Y) (LendL.cons (Lend.op (us':= [(tI g)]) (ts:= [(tI g)]) Y (LendL.cons (Lend.pl Y) ln) (lb Y) Y) ln)))) ln)) (ZK (n+0) ws l n0 g (by first | assumption | omega) (by first | assumption | omega) (by first | assumption | omega)) Y) (aO (T.os 1 3 0 (((Qh l ws n0 g).map (Qd true)).length)) Y (nt ?_)))))))))))
 refine rt ?_
 refine vfin.eq (r':=(T.sl true 1 ((Qh l ws n0 g).map (Qd true)))) ?_ (vfin.r (VRes.tmp (t:=(T.os 1 3 0 (((Qh l ws n0 g).map (Qd true)).length))) Y VRes.nil) (Give.os Y Y (okStr.cleanMap _)))
 rfl
theorem QM (n:Nat) (a:List D.Used) (ha:a.length≤2*mx):Pure (Qo Try.prog (n+1)) 22 [(rd 2 Qa a)] (T.sl true 2 (a.map (Qa true))):=by
 refine Pure.intro (rs:= [ResultVar.tmp 2]) Try.func22 Y Y Y (E0:= [(0,(rd 2 Qa a))]) Y ?_
 obtain ⟨hlim,hmx,hmax⟩:=QW
 refine sr (fO (OF.assign VEv.nils) (nt (sq (sr (mO (rd 2 Qa a) Y ?_)))))
 refine VRunO.nilEq VWant.always (tv (rd 2 Qa a) Y) VEv.nils Zc (fun bn1 hbn1=> ?_)
 refine nt ?_
 refine VRun.cond (tv (tB bn1) Y) (fun hc0=> ?_) (fun hc0=> ?_)
 ·have fhc0:bn1=true:=hc0
  have ebn1:=hbn1 hc0
  refine sr (fO (OF.assign VEv.nils) (nt (rt (tr ?_))))
  refine vfin.eq (r':=(T.sl true 2 [])) ?_ (vfin.r (VRes.tmp (t:=T.nils) Y VRes.nil) (Give.nils 2))
  refine congrArg (fun l_=>T.sl true 2 (List.map (Qa true) l_)) (a₁:= []) ?_
  exact (List.map_eq_nil_iff.1 ebn1).symm
 have fhc0:bn1=false:=hc0
 refine sk (tn (sr (kO (OM.slice0 Zc Zs (by kernel_rfl) Y (by rw [Qx];decide) Qx) (mO (rd 2 Qa a) Y (cO (B.append (rows:= []) (rows2:=(a.map (Qa false))) (rows3:=(a.map (Qa true))) (VDst.own (tv (T.os 2 0 0 0) Y) Y Y) (VSrc.read (tv (rd 2 Qa a) Y) Zc (okeUsed.okMap _ _)) nofun Zc Qx (by decide) Zs Y (of_decide_eq_true (by kernel_rfl)) (by first | omega | (simp only [List.length_map];omega) | (simp only [List.length_map,List.length_append,List.length_cons,List.length_nil,List.length_replicate,List.length_set,List.length_drop,List.length_take,ZQ] at *;omega)) (List.nil_append _)) (aO (T.os 2 1 0 ((a.map (Qa true)).length)) Y (nt (rt ?_))))))))
 refine vfin.eq (r':=(T.sl true 2 (a.map (Qa true)))) ?_ (vfin.r (VRes.tmp (t:=(T.os 2 1 0 ((a.map (Qa true)).length))) Y VRes.nil) (Give.os Y Y (okeUsed.cleanMap _)))
 rfl
noncomputable section
theorem QbL : ∀ {a b:List UInt8},Op.bytesLess a b=true→Op.bytesLess b a=true→False
 | _,[],h,_=>by simp [Op.bytesLess] at h
 | [],_::_,_,h=>by simp [Op.bytesLess] at h
 | x::r,y::s,h,h2=>by
  simp only [Op.bytesLess,Bool.or_eq_true,Bool.and_eq_true,decide_eq_true_eq,beq_iff_eq,UInt8.lt_iff_toNat_lt] at h h2
  rcases h with h | ⟨rfl,h⟩
  ·rcases h2 with h2 | ⟨e,_⟩
   ·omega
   ·rw [e] at h;omega
  ·rcases h2 with h2 | ⟨_,h2⟩
   ·omega
   ·exact QbL h h2
theorem QbP : ∀ {a b c:List UInt8},Op.bytesLess a b=true→Op.bytesLess b c=true→Op.bytesLess a c=true
 | _,[],_,h,_=>by simp [Op.bytesLess] at h
 | _,_::_,[],_,h=>by simp [Op.bytesLess] at h
 | [],_::_,_::_,_,_=>by simp [Op.bytesLess]
 | x::r,y::s,z::t,h,h2=>by
  simp only [Op.bytesLess,Bool.or_eq_true,Bool.and_eq_true,decide_eq_true_eq,beq_iff_eq,UInt8.lt_iff_toNat_lt] at h h2 ⊢
  rcases h with h | ⟨rfl,h⟩
  ·rcases h2 with h2 | ⟨rfl,_⟩
   ·exact .inl (by omega)
   ·exact .inl h
  ·rcases h2 with h2 | ⟨rfl,h2⟩
   ·exact .inl h2
   ·exact .inr ⟨rfl,QbP h h2⟩
theorem Qds {a b:ByteArray} (h:QY a b=true) (h2:QY b a=true):False:=by
 unfold QY at h h2
 split at h
 ·rename_i e
  rw [if_pos e.symm] at h2
  exact QbL h h2
 ·rename_i e
  rw [if_neg (fun q=>e q.symm)] at h2
  rw [decide_eq_true_eq] at h h2
  omega
theorem QdM {a b c:ByteArray} (h:QY a b=true) (h2:QY b c=true):QY a c=true:=by
 unfold QY at h h2 ⊢
 split at h<;>split at h2
 ·rename_i e1 e2
  rw [if_pos (e1.trans e2)]
  exact QbP h h2
 ·rw [decide_eq_true_eq] at h2
  rw [if_neg (by omega),decide_eq_true_eq]
  omega
 ·rw [decide_eq_true_eq] at h
  rw [if_neg (by omega),decide_eq_true_eq]
  omega
 ·rw [decide_eq_true_eq] at h h2
  rw [if_neg (by omega),decide_eq_true_eq]
  omega
theorem QbK {a b:D.Used} (h:QI a b=true) (h2:QI b a=true):False:=by
 simp only [QI,decide_eq_true_eq] at h h2
 rcases h with h | ⟨e,h⟩<;>rcases h2 with h2 | ⟨e2,h2⟩
 ·omega
 ·omega
 ·omega
 ·exact Qds h h2
theorem QdI {a b c:D.Used} (h:QI a b=true) (h2:QI b c=true):QI a c=true:=by
 simp only [QI,decide_eq_true_eq] at h h2 ⊢
 rcases h with h | ⟨e,h⟩<;>rcases h2 with h2 | ⟨e2,h2⟩
 ·exact .inl (by omega)
 ·exact .inl (by omega)
 ·exact .inl (by omega)
 ·exact .inr ⟨by omega,QdM h h2⟩
def YB (l:List D.Used) (x:D.Used):Nat:=(l.takeWhile (fun y=>QI y x)).length
def Zp (l:List D.Used) (x:D.Used):List D.Used:=l.take (YB l x)++x::l.drop (YB l x)
def JF : List D.Used→D.Used→Nat
 | [],_=>0
 | y::r,x=>if JF r x=0∧QI x y=true then 0 else JF r x+1
def Yf (l:List D.Used) (x:D.Used):List D.Used:=l.take (JF l x)++x::l.drop (JF l x)
def isLedU (l:List D.Used) (x:D.Used) (k:Nat):Prop:=k≤l.length∧∀j,j<k→∃y,l[j]? =some y∧QI y x=true
def isSufU (l:List D.Used) (x:D.Used) (k:Nat):Prop:=k≤l.length∧∀j,k≤j→j<l.length→∃y,l[j]? =some y∧QI x y=true
theorem Qae : ∀ {l:List D.Used} {x:D.Used} {k:Nat},isLedU l x k→(∀y,l[k]? =some y→QI y x=false)→YB l x=k
 | [],x,k,h,hs=>by
  have:k=0:=by simpa using h.1
  subst this
  rfl
 | z::r,x,0,h,hs=>by
  have:=hs z Y
  unfold YB
  rw [List.takeWhile_cons,if_neg (by rw [this];decide)]
  rfl
 | z::r,x,k+1,h,hs=>by
  obtain ⟨y,hy,h1⟩:=h.2 0 (by omega)
  obtain rfl:z=y:=by simpa using hy
  have ih:=Qae (l:=r) (x:=x) (k:=k) ⟨by simpa using h.1,fun j hj=>by
   obtain ⟨y,hy,h2⟩:=h.2 (j+1) (by omega)
   exact ⟨y,by simpa using hy,h2⟩⟩ (fun y hy=>hs y (by simpa using hy))
  unfold YB at ih ⊢
  rw [List.takeWhile_cons,if_pos h1,List.length_cons,ih]
theorem JB : ∀ {l:List D.Used} {x:D.Used} {k:Nat},isSufU l x k→(∀y,0<k→l[k - 1]? =some y→QI x y=false)→JF l x=k
 | [],x,k,h,hs=>by
  have:k=0:=by simpa using h.1
  subst this
  rfl
 | z::r,x,0,h,hs=>by
  have ih:=JB (l:=r) (x:=x) (k:=0) ⟨Nat.zero_le _,fun j _ hj=>by
   obtain ⟨y,hy,h2⟩:=h.2 (j+1) (by omega) (by simpa using hj)
   exact ⟨y,by simpa using hy,h2⟩⟩ (fun y h0=>absurd h0 (by omega))
  obtain ⟨y,hy,h1⟩:=h.2 0 (by omega) (by simp)
  obtain rfl:z=y:=by simpa using hy
  unfold JF
  rw [if_pos ⟨ih,h1⟩]
 | z::r,x,k+1,h,hs=>by
  have ih:=JB (l:=r) (x:=x) (k:=k) ⟨by simpa using h.1,fun j hk hj=>by
   obtain ⟨y,hy,h2⟩:=h.2 (j+1) (by omega) (by simpa using hj)
   exact ⟨y,by simpa using hy,h2⟩⟩ (fun y h0 hy=>hs y (by omega) (by
    obtain ⟨m,rfl⟩:∃m,k=m+1:=⟨k - 1,by omega⟩
    simpa using hy))
  unfold JF
  rw [ih,if_neg]
  rintro ⟨rfl,h2⟩
  have:=hs z (by omega) Y
  rw [this] at h2
  cases h2
abbrev srt (l:List D.Used):Prop:=l.Pairwise (fun a b=>QI a b=true)
theorem QeY {l:List D.Used} {x:D.Used} (h:srt (Zp l x)):Yf l x=Zp l x:=by
 unfold Zp srt at h
 have e:JF l x=YB l x:=by
  have hle:YB l x≤l.length:=by
   have h0:=congrArg List.length (List.takeWhile_append_dropWhile (p:=fun y=>QI y x) (l:=l))
   rw [List.length_append] at h0
   unfold YB;omega
  rw [List.pairwise_append] at h
  obtain ⟨h1,h2,h3⟩:=h
  rw [List.pairwise_cons] at h2
  refine JB ⟨hle,fun j hk hj=>⟨_,List.getElem?_eq_getElem hj,h2.1 _ ?_⟩⟩ (fun y h0 hy=> ?_)
  ·rw [List.mem_drop_iff_getElem]
   exact ⟨j - YB l x,by omega,by congr 1;omega⟩
  ·have hm:y∈l.take (YB l x):=by
    rw [List.mem_iff_getElem?]
    exact ⟨YB l x - 1,by rw [List.getElem?_take,if_pos (by omega)];exact hy⟩
   have:=h3 y hm x (by simp)
   cases hb:QI x y with
   | false=>rfl
   | true=>exact (QbK hb this).elim
 unfold Yf Zp
 rw [e]
theorem QcQ : ∀(l:List D.Used) (x:D.Used),JF l x≤l.length
 | [],_=>Nat.le_refl _
 | y::r,x=>by
  have:=QcQ r x
  unfold JF
  split
  ·exact Nat.zero_le _
  ·simp only [List.length_cons];omega
theorem QeD {l:List D.Used} {x:D.Used} (h:srt (Yf l x)):Zp l x=Yf l x:=by
 unfold Yf srt at h
 have e:YB l x=JF l x:=by
  have hle:=QcQ l x
  rw [List.pairwise_append] at h
  obtain ⟨h1,h2,h3⟩:=h
  rw [List.pairwise_cons] at h2
  refine Qae ⟨hle,fun j hk=> ?_⟩ (fun y hy=> ?_)
  ·have hj:j<l.length:=by omega
   refine ⟨_,List.getElem?_eq_getElem hj,h3 _ ?_ x (by simp)⟩
   rw [List.mem_iff_getElem?]
   exact ⟨j,by rw [List.getElem?_take,if_pos hk];exact List.getElem?_eq_getElem hj⟩
  ·have hm:y∈l.drop (JF l x):=by
    rw [List.mem_iff_getElem?]
    exact ⟨0,by rw [List.getElem?_drop];exact hy⟩
   have:=h2.1 y hm
   cases hb:QI y x with
   | false=>rfl
   | true=>exact (QbK hb this).elim
 unfold Yf Zp
 rw [e]
theorem QdA (l:List D.Used) (x:D.Used):l.Sublist (Zp l x):=by
 unfold Zp
 conv=>lhs;rw [← List.take_append_drop (YB l x) l]
 exact List.Sublist.append_left (List.sublist_cons_self _ _) _
theorem Qde (l:List D.Used) (x:D.Used):l.Sublist (Yf l x):=by
 unfold Yf
 conv=>lhs;rw [← List.take_append_drop (JF l x) l]
 exact List.Sublist.append_left (List.sublist_cons_self _ _) _
def Qn (l:List D.Used) (ws:List ByteArray) (n:Int):List D.Used:=ws.foldl (fun l w=>Zp l (D.Used.mk w n)) l
def Qk (l:List D.Used) (ws:List ByteArray) (n:Int):List D.Used:=ws.foldl (fun l w=>Yf l (D.Used.mk w n)) l
theorem Qak (n:Int):∀(ws:List ByteArray) (l:List D.Used),l.Sublist (Qn l ws n)
 | [],l=>List.Sublist.refl _
 | w::r,l=>(QdA l _).trans (Qak n r (Zp l (D.Used.mk w n)))
theorem QbN (n:Int):∀(ws:List ByteArray) (l:List D.Used),l.Sublist (Qk l ws n)
 | [],l=>List.Sublist.refl _
 | w::r,l=>(Qde l _).trans (QbN n r (Yf l (D.Used.mk w n)))
theorem Qdv (n:Int):∀(ws:List ByteArray) (l:List D.Used),srt (Qn l ws n)→Qk l ws n=Qn l ws n
 | [],l,_=>rfl
 | w::r,l,h=>by
  have h1:srt (Zp l (D.Used.mk w n)):=List.Pairwise.sublist (Qak n r _) h
  show Qk (Yf l (D.Used.mk w n)) r n=Qn (Zp l (D.Used.mk w n)) r n
  rw [QeY h1]
  exact Qdv n r _ h
theorem QdL (n:Int):∀(ws:List ByteArray) (l:List D.Used),srt (Qk l ws n)→Qn l ws n=Qk l ws n
 | [],l,_=>rfl
 | w::r,l,h=>by
  have h1:srt (Yf l (D.Used.mk w n)):=List.Pairwise.sublist (QbN n r _) h
  show Qn (Zp l (D.Used.mk w n)) r n=Qk (Yf l (D.Used.mk w n)) r n
  rw [QeD h1]
  exact QdL n r _ h
theorem Qdo : ∀ {l:List D.Used},(∀j,0<j→j<l.length→∃x y,l[j]? =some x∧l[j - 1]? =some y∧QI y x=true)→srt l
 | [],_=>List.Pairwise.nil
 | [a],_=>by simp [srt]
 | a::b::r,h=>by
  have ih:=Qdo (l:=b::r) (fun j h0 hj=>by
   obtain ⟨x,y,h1,h2,h3⟩:=h (j+1) (by omega) (by simpa using hj)
   refine ⟨x,y,by simpa using h1,?_,h3⟩
   obtain ⟨m,rfl⟩:∃m,j=m+1:=⟨j - 1,by omega⟩
   simpa using h2)
  obtain ⟨x,y,h1,h2,h3⟩:=h 1 (by omega) (by simp)
  obtain rfl:b=x:=by simpa using h1
  obtain rfl:a=y:=by simpa using h2
  refine List.Pairwise.cons (fun c hc=> ?_) ih
  rcases List.mem_cons.1 hc with rfl | hc
  ·exact h3
  ·exact QdI h3 ((List.pairwise_cons.1 ih).1 c hc)
def Qr (l:List D.Used) (ws:List ByteArray) (n:Int):List D.Used:=if Ql (Qn l ws n) then Qn l ws n else l
theorem QZ {l:List D.Used} {ws:List ByteArray} {n:Int} (h:Ql (Qn l ws n)):Qr l ws n=Qn l ws n:=if_pos h
theorem Yi {l:List D.Used} {ws:List ByteArray} {n:Int} (h:¬Ql (Qn l ws n)):Qr l ws n=l:=if_neg h
theorem JZ {l:List D.Used} (h:Ql l):srt l:=Qdo (fun j h0 hj=>by
 obtain ⟨x,h1,_,_,h2⟩:=h.2 j hj
 obtain ⟨y,h3,h4⟩:=h2 h0
 exact ⟨x,y,h1,h3,h4⟩)
theorem QcL {l:List D.Used} {ws:List ByteArray} {n:Int} (h:Ql (Qk l ws n)):Qn l ws n=Qk l ws n:=QdL n ws l (JZ h)
theorem addS_iff {l:List D.Used} {ws:List ByteArray} {n:Int}:Ql (Qk l ws n)↔Ql (Qn l ws n):=⟨fun h=>by rw [QcL h];exact h,fun h=>by rw [Qdv n ws l (JZ h)];exact h⟩
theorem QdY (l:List D.Used) (x:D.Used) (k:Nat):zL QC (l.take k++x::l.drop k)=zL QC l+QC x+1:=by
 have e:zL QC l=zL QC (l.take k++l.drop k):=by rw [List.take_append_drop]
 rw [e,Qa3,Qa3]
 simp only [zL,Zq,List.length_cons];omega
theorem Qbe (n:Int):∀(ws:List ByteArray) (l:List D.Used),zL QC (Qn l ws n)=zL QC l+zL ByteArray.size ws
 | [],l=>rfl
 | w::r,l=>by
  have h1:=Qbe n r (Zp l (D.Used.mk w n))
  have h2:=QdY l (D.Used.mk w n) (YB l (D.Used.mk w n))
  show zL QC (Qn (Zp l (D.Used.mk w n)) r n)=_
  rw [h1]
  unfold Zp
  rw [h2]
  simp only [zL,Zq,QC,List.length_cons];omega
theorem Qbm (n:Int):∀(ws:List ByteArray) (l:List D.Used),zL QC (Qk l ws n)=zL QC l+zL ByteArray.size ws
 | [],l=>rfl
 | w::r,l=>by
  have h1:=Qbm n r (Yf l (D.Used.mk w n))
  have h2:=QdY l (D.Used.mk w n) (JF l (D.Used.mk w n))
  show zL QC (Qk (Yf l (D.Used.mk w n)) r n)=_
  rw [h1]
  unfold Yf
  rw [h2]
  simp only [zL,Zq,QC,List.length_cons];omega
theorem JS {l:List D.Used} {ws:List ByteArray} {n:Int} {i:Nat} {w:ByteArray} (h:ws[i]? =some w):Qn l (ws.take (i+1)) n=Zp (Qn l (ws.take i) n) (D.Used.mk w n):=by
 unfold Qn
 rw [List.take_add_one,h,List.foldl_append]
 rfl
theorem JR {l:List D.Used} {ws:List ByteArray} {n:Int} {i:Nat} {w:ByteArray} (h:ws[i]? =some w):Qk l (ws.take (i+1)) n=Yf (Qk l (ws.take i) n) (D.Used.mk w n):=by
 unfold Qk
 rw [List.take_add_one,h,List.foldl_append]
 rfl
theorem isLedU.next {l:List D.Used} {x y:D.Used} {k:Nat} (h:isLedU l x k) (hy:l[k]? =some y) (hc:QI y x=true):isLedU l x (k+1):=by
 have:=(List.getElem?_eq_some_iff.1 hy).1
 refine ⟨this,fun j hj=> ?_⟩
 by_cases e:j=k
 ·subst e;exact ⟨y,hy,hc⟩
 ·exact h.2 j (by omega)
theorem isSufU.next {l:List D.Used} {x y:D.Used} {k:Nat} (h:isSufU l x k) (h0:0<k) (hy:l[k - 1]? =some y) (hc:QI x y=true):isSufU l x (k - 1):=by
 have:=h.1
 refine ⟨by omega,fun j hj hl=> ?_⟩
 by_cases e:j=k - 1
 ·subst e;exact ⟨y,hy,hc⟩
 ·exact h.2 j (by omega) hl
theorem QaK {l:List D.Used} {x:D.Used} {k:Nat} (h:isLedU l x k) (hk:¬k<l.length):l.take k++x::l.drop k=Zp l x:=by
 unfold Zp
 rw [Qae h (fun y hy=>absurd (List.getElem?_eq_some_iff.1 hy).1 hk)]
theorem Qbt {l:List D.Used} {x y:D.Used} {k:Nat} (h:isLedU l x k) (hy:l[k]? =some y) (hc:QI y x=false):l.take k++x::l.drop k=Zp l x:=by
 unfold Zp
 rw [Qae h (fun z hz=>by rw [hy] at hz;cases hz;exact hc)]
theorem QaG {l:List D.Used} {x:D.Used} {k:Nat} (h:isSufU l x k) (hk:¬ 0<k):l.take k++ [x]++l.drop k=Yf l x:=by
 unfold Yf
 rw [JB h (fun y hy=>absurd hy hk)]
 simp
theorem Qby {l:List D.Used} {x y:D.Used} {k:Nat} (h:isSufU l x k) (hy:l[k - 1]? =some y) (hc:QI x y=false):l.take k++ [x]++l.drop k=Yf l x:=by
 unfold Yf
 rw [JB h (fun z _ hz=>by rw [hy] at hz;cases hz;exact hc)]
 simp
theorem Qea {l:List D.Used} {ws:List ByteArray} (n:Int) (hz:zL QC l+zL ByteArray.size ws≤2*mx) (i:Nat):(Qn l (ws.take i) n).length+1≤3*mx:=by
 have h1:=Qbe n (ws.take i) l
 have h2:=Ys (z:=ByteArray.size) ws i
 have h3:=YI (z:=QC) (Qn l (ws.take i) n)
 have:mx=1048576:=rfl
 omega
theorem Qek {l:List D.Used} {ws:List ByteArray} (n:Int) (hz:zL QC l+zL ByteArray.size ws≤2*mx) (i:Nat):(Qk l (ws.take i) n).length+1≤3*mx:=by
 have h1:=Qbm n (ws.take i) l
 have h2:=Ys (z:=ByteArray.size) ws i
 have h3:=YI (z:=QC) (Qk l (ws.take i) n)
 have:mx=1048576:=rfl
 omega
theorem QF {l:List D.Used} {ws:List ByteArray} (n:Int) (hz:zL QC l+zL ByteArray.size ws≤2*mx) (i:Nat):zL QC (Qk l (ws.take i) n)≤2*mx:=by
 have h1:=Qbm n (ws.take i) l
 have h2:=Ys (z:=ByteArray.size) ws i
 omega
theorem Q9 {l:List D.Used} {ws:List ByteArray} (n:Int) (hz:zL QC l+zL ByteArray.size ws≤2*mx) (i:Nat):zL QC (Qn l (ws.take i) n)≤2*mx:=by
 have h1:=Qbe n (ws.take i) l
 have h2:=Ys (z:=ByteArray.size) ws i
 omega
theorem YY {l:List D.Used} {ws:List ByteArray} {n:Int} (h:¬Ql (Qk l ws n)):Qr l ws n=l∧decide (Ql (Qn l ws n))=false:=by
 have h2:¬Ql (Qn l ws n):=fun e=>h (addS_iff.2 e)
 exact ⟨Yi h2,decide_eq_false h2⟩
theorem Yy {l:List D.Used} {ws:List ByteArray} {n:Int} (h:Ql (Qk l ws n)):Qr l ws n=Qk l ws n∧decide (Ql (Qn l ws n))=true:=by
 have h2:Ql (Qn l ws n):=addS_iff.1 h
 exact ⟨(QZ h2).trans (QcL h),decide_eq_true h2⟩
theorem Qeb (l:List D.Used) (ws:List ByteArray) (n:Int):zL QC (Qr l ws n)≤zL QC l+zL ByteArray.size ws:=by
 unfold Qr
 split
 ·exact Nat.le_of_eq (Qbe n ws l)
 ·omega
end
theorem QaI (n:Nat) (l:List D.Used) (ws:List ByteArray) (m:Int) (hz:zL QC l+zL ByteArray.size ws≤2*mx):Pure (Qo Try.prog (n+4)) 39 [(rd 2 Qa l),(rd 1 Qd ws),(tI m)] (T.tup [(T.sl true 2 ((Qr l ws m).map (Qa true))),(tB (decide (Ql (Qn l ws m))))]):=by
 refine Pure.intro (rs:= [ResultVar.tmp 6,ResultVar.tmp 7]) Try.func39 Y Y Y (E0:= [(0,(rd 2 Qa l)),(1,(rd 1 Qd ws)),(2,(tI m))]) Y ?_
 obtain ⟨hlim,hmx,hmax⟩:=QW
 have hl:=YI (z:=QC) l
 have hlw:=YI (z:=ByteArray.size) ws
 have hsz:=Qbm m ws l
 refine sr (fO (OF.assign VEv.nils) (fO (OF.assign (VEv.bool false)) (nt (sr (kO (OM.slice0 Zc Zs (by kernel_rfl) Y (by rw [Qx];decide) Qx) (mO (rd 2 Qa l) Y (cO (B.append (rows:= []) (rows2:=(l.map (Qa false))) (rows3:=(l.map (Qa true))) (VDst.own (tv (T.os 2 0 0 0) Y) Y Y) (VSrc.read (tv (rd 2 Qa l) Y) Zc (okeUsed.okMap _ _)) nofun Zc Qx (by decide) Zs Y (of_decide_eq_true (by kernel_rfl)) (by first | exact QF m hz _ | omega | (simp only [List.length_map];omega) | (simp only [List.length_map,List.length_append,List.length_cons,List.length_nil,List.length_replicate,List.length_set,List.length_drop,List.length_take,ZQ] at *;omega)) (List.nil_append _)) (aO (T.os 2 1 0 ((l.map (Qa true)).length)) Y (nt (sq (sr ?_)))))))))))
 refine fO (OF.assign (VEv.int .i64 0)) (nt (VRun.block ?_))
 have he1:l=Qk l (ws.take 0) m:=by first | rfl | (rw [JR hx1];first | exact Qby hI' hx2 fhc1 | exact QaG hI' (by assumption)) | (simp;done) | omega
 refine VRun.loop (A:=Nat) (fun s_=> [(0,(rd 2 Qa l)),(1,(rd 1 Qd ws)),(2,(tI m)),(6,T.nils),(7,(tB false)),(8,(T.os 2 0 0 (((Qk l (ws.take s_) m).map (Qa true)).length))),(9,(tN s_))]) (fun s_=>YW [(0,(Obj.rows 2 ((Qk l (ws.take s_) m).map (Qa true))))]) 1 (fun s_=>s_≤ws.length) (fun s_=>ws.length - s_) (0:Nat) ?_ (Wk.mk (fun k=>if k=0 then 1 else k) ?_ ?_ ?_) ?_
 ·first | trivial | (simp;done) | omega | (constructor<;>simp)
 ·exact (b2 (b2 (b2 (b2 (b2 (bc ⟨(congrArg (fun l_=>T.os 2 1 0 (List.map (Qa true) l_).length) he1),rfl⟩ (b2 bn)))))))
 ·exact (bc ⟨(congrArg (fun l_=>some (Obj.rows 2 (List.map (Qa true) l_))) he1),(lb Y),rfl⟩ bn)
 ·exact nd Y
 rintro i (hI':i≤ws.length)
 show VRun _ _ _ [(0,(rd 2 Qa l)),(1,(rd 1 Qd ws)),(2,(tI m)),(6,T.nils),(7,(tB false)),(8,(T.os 2 0 0 (((Qk l (ws.take i) m).map (Qa true)).length))),(9,(tN i))] (YW [(0,(Obj.rows 2 ((Qk l (ws.take i) m).map (Qa true))))]) 1 _
 have hI1:=hI'
 have hsl:=Qek m hz i
 refine sq (sr (mO (tN i) Y (mO (rd 1 Qd ws) Y (lO (B.lenR (m:=ws.length) (tv (rd 1 Qd ws) Y) Jm (List.length_map ..)) (fO (YM (tv (tN i) Y) (tv (tN ws.length) Y)) (nt ?_))))))
 refine cd (i<ws.length) Y (fun fhc0=> ?_) fun fhc0=> ?_
 ·refine sk ?_
  refine tn (sq (VRun.block (sr (mO (rd 1 Qd ws) Y (mO (tN i) Y ?_)))))
  obtain ⟨x1,hx1⟩:∃x,ws[i]? =some x:=⟨_,List.getElem?_eq_getElem (by first | exact QF m hz _ | omega)⟩
  refine fO (OF.indexAddrR (row:=(Qd false x1)) (i:=i) (tv (rd 1 Qd ws) Y) (tv (tN i) Y) Y (QE _ hx1) Jm JH if9) (lO (OL.loadR1 (t:=(tS x1)) (tv (T.rp [(tS x1)]) Y) Y st9) (mO (tI m) Y (fO (OF.build (l:= [(0,(tS x1)),(1,(tI m))]) (zs:= [(tS ByteArray.empty),(tN 0)]) (out:= [(tS x1),(tI m)]) (VEvp.cons (i:=0) (tv (tS x1) Y) (VEvp.cons (i:=1) (tv (tI m) Y) VEvp.nil)) (bc nofun (bc nofun bn)) Try.underlying43 Zs (fun _=>RL.cons (.str _) (RL.cons (.int _ _) (RL.nil _))) (by kernel_rfl) (by kernel_rfl)) (kO (B.alloc (t:=(T.agg [(tS ByteArray.empty),(tN 0)])) (ts:= [(tS ByteArray.empty),(tN 0)]) Zs Qeo nofun (fun _=> .agg _ _ Y (QaW (RL.cons (.str _) (RL.cons (.int _ _) (RL.nil _))))) Y) (cO (B.storeW (us:= [(tS x1),(tI m)]) (tv (T.op 1 0) Y) (tv (T.agg [(tS x1),(tI m)]) Y) nofun Y Y Y Z3 Qx (bc Y (bc Y bn))) (nt (sr (mO (T.os 2 0 0 (((Qk l (ws.take i) m).map (Qa true)).length)) Y (lO (B.lenO (m:=(Qk l (ws.take i) m).length) (tv (T.os 2 0 0 (((Qk l (ws.take i) m).map (Qa true)).length)) Y) Zc (List.length_map ..)) (aO (tN ((Qk l (ws.take i) m).length)) Y (nt ?_)))))))))))
  refine sq (VRun.block ?_)
  refine VRun.loop (A:=Nat) (fun s_=> [(0,(rd 2 Qa l)),(1,(rd 1 Qd ws)),(2,(tI m)),(6,T.nils),(7,(tB false)),(8,(T.os 2 0 0 (((Qk l (ws.take i) m).map (Qa true)).length))),(9,(tN i)),(10,(T.op 1 0)),(11,(tN s_))]) (fun s_=>YW [(0,(Obj.rows 2 ((Qk l (ws.take i) m).map (Qa true)))),(1,(Obj.cells [(tS x1),(tI m)]))]) 2 (fun s_=>isSufU (Qk l (ws.take i) m) (D.Used.mk x1 m) s_) (fun s_=>s_) ((Qk l (ws.take i) m).length:Nat) ?_ (Wk.mk (fun k=>k) ?_ ?_ ?_) ?_
  ·exact ⟨Nat.le_refl _,fun j hj h2=>by omega⟩
  ·exact (b2 (b2 (b2 (b2 (b2 (b2 (b2 (b2 (b2 bn)))))))))
  ·exact (b3 (b3 bn))
  ·exact nd Y
  rintro k (hI':isSufU (Qk l (ws.take i) m) (D.Used.mk x1 m) k)
  show VRun _ _ _ [(0,(rd 2 Qa l)),(1,(rd 1 Qd ws)),(2,(tI m)),(6,T.nils),(7,(tB false)),(8,(T.os 2 0 0 (((Qk l (ws.take i) m).map (Qa true)).length))),(9,(tN i)),(10,(T.op 1 0)),(11,(tN k))] (YW [(0,(Obj.rows 2 ((Qk l (ws.take i) m).map (Qa true)))),(1,(Obj.cells [(tS x1),(tI m)]))]) 2 _
  have hJ1:=hI'.1
  refine sq (sq (VRun.draw (B:= [[],[0],[0,1],[1,0,2],[1,0,2],[1,0,2],[2,0,1,5],[5,6,2,0,1,4],[4,1,0,2,6,5,7],[7,5,6,4,8,2,0,1,3],[3,8,4,6,5,7,9,1,0,2]]) (by kernel_rfl) (by kernel_rfl) (mD (tN k) Y Y (fD (B.gtr (c:=(decide (0<k))) (tv (tN k) Y) (VEv.int .i64 0) (by first | exact QF m hz _ | (exact Zl (by omega)))) Y Y (mD (tB (decide (0<k))) Y Y ?_)))))
  refine gw (0<k) (fun fhg31_2=> ?_) fun fhg31_2=> ?_
  ·refine VRunD.look Y (VWant.on Y Y (dy fhg31_2)) Y (OL.loadOn (us:= [(tS x1),(tI m)]) (tv (T.op 1 0) Y) Y Jg Qx (lb Y) Y) ?_
   refine VRunD.free Y (VWant.on Y Y (dy fhg31_2)) Y (OF.move (tv (T.os 2 0 0 (((Qk l (ws.take i) m).map (Qa true)).length)) Y)) (VRunD.free Y (VWant.on Y Y (dy fhg31_2)) Y (OF.move (tv (tN k) Y)) (VRunD.free Y (VWant.on Y Y (dy fhg31_2)) Y (B.sub (n:=((k - 1:Nat):Int)) (tv (tN k) Y) (VEv.int .i64 1) (by first | exact QF m hz _ | rfl | (rw [Qm (by omega)];omega) | (rw [Qm (by omega)];done))) ?_))
   obtain ⟨x2,hx2⟩:∃x,(Qk l (ws.take i) m)[k - 1]? =some x:=⟨_,List.getElem?_eq_getElem (by first | exact QF m hz _ | omega | (simp only [List.length_map];omega) | (simp only [List.length_map,List.length_append,List.length_cons,List.length_nil,List.length_replicate,List.length_set,List.length_drop,List.length_take,ZQ] at *;omega))⟩
   refine VRunD.free Y (VWant.on Y Y (dy fhg31_2)) Y (B.indexAddrO (i:=k - 1) (tv (T.os 2 0 0 (((Qk l (ws.take i) m).map (Qa true)).length)) Y) (tv (tN (k - 1)) Y) Y (by first | exact QF m hz _ | omega | (simp only [List.length_map];omega) | (simp only [List.length_map,List.length_append,List.length_cons,List.length_nil,List.length_replicate,List.length_set,List.length_drop,List.length_take,ZQ] at *;omega)) Zc Qx Z3) (VRunD.look Y (VWant.on Y Y (dy fhg31_2)) Y (OL.loadPn (us:=(Qa false x2)) (row:=(Qa true x2)) (tv (T.orp 2 0 (k - 1) 0) Y) Y (QE _ hx2) Jg Qx (lb Y) Y (bc Y (bc Y bn))) (VRunD.quiet (bi:= [7,5,6,4,8,2,0,1,3]) Y (VWant.on Y Y (dy fhg31_2)) Y Y Y bn (cS (us:= [(T.agg [(tS x1),(tI m)]),(T.agg (Qa false x2))]) (vc (tv (T.agg [(tS x1),(tI m)]) Y) (vc (tv (T.agg (Qa false x2)) Y) vn)) (LendL.cons (Lend.agg (LendL.cons (Lend.pl Y) (LendL.cons (Lend.pl Y) ln))) (LendL.cons (lg okeUsed) ln)) (Yj (n+1) (D.Used.mk x1 m) x2) Y Y) (fD (OF.pickT (VEv.tmpB Y (dy fhg31_2)) (tv (tB (QI (D.Used.mk x1 m) x2)) Y)) Y Y (VRunD.nil (tn ?_)))))
   refine VRun.cond (tv (tB (QI (D.Used.mk x1 m) x2)) Y) (fun hc1=> ?_) (fun hc1=> ?_)
   ·have fhc1:(QI (D.Used.mk x1 m) x2)=true:=hc1
    refine sk (tn (VRun.block (VRun.region (mO (tN k) Y (fO (B.sub (n:=((k - 1:Nat):Int)) (tv (tN k) Y) (VEv.int .i64 1) (by first | exact QF m hz _ | rfl | (rw [Qm (by omega)];omega) | (rw [Qm (by omega)];done))) (aO (tN (k - 1)) Y (VRunO.nil (vinB.n (tn ?_)))))))))
    refine ⟨(k - 1:Nat),?_,?_,Wk.mk (fun k=>k) ?_ ?_ ?_⟩
    ·exact hI'.next (by omega) hx2 (by assumption)
    ·first | omega | (simp only [];omega) | (show _<_;omega) | (simp;omega)
    ·exact (b2 (b2 (b2 (b2 (b2 (b2 (b2 (b2 (b2 bn)))))))))
    ·exact (b3 (b3 bn))
    ·exact nd Y
   have fhc1:(QI (D.Used.mk x1 m) x2)=false:=hc1
   refine VRun.exit (vthn.e (vthn.e (vinB.e (tn (VRun.wk (Wk.freeze (sz:=2) (k:=0) (rows':=((Qk l (ws.take i) m).map (Qa false))) [8,33] (bc Y (bc Y bn)) Y Y (okeUsed.fzMap _ _)) (VRun.draw (B:= [[],[],[],[2,1],[1,2,3,0],[],[5],[5,6,0,3,2,1,4],[],[],[9,8],[8,9,10,4,1,2,3,0,6,5,7],[7,5,6,0,3,2,1,4,10,9,8,11]]) (by kernel_rfl) (by kernel_rfl) (VRunD.make Y VWant.always Y (OM.slice0 Zc Zs (by kernel_rfl) Y (by rw [Qx];decide) Qx) (mD (rd 2 Qa (Qk l (ws.take i) m)) Y Y (mD (tN k) Y Y ?_)))))))))
   refine lD (show OL _ _ _ _ _ (T.sl false 2 (((Qk l (ws.take i) m).take k).map (Qa false))) by rw [show ((Qk l (ws.take i) m).take k).map (Qa false)=((Qk l (ws.take i) m).map (Qa false)).take k from List.map_take ..];exact (OL.sliceRHi (j:=k) (tv (rd 2 Qa (Qk l (ws.take i) m)) Y) (tv (tN k) Y) Y (by first | exact QF m hz _ | omega | (simp only [List.length_map];omega) | (simp only [List.length_map,List.length_append,List.length_cons,List.length_nil,List.length_replicate,List.length_set,List.length_drop,List.length_take,ZQ] at *;omega)) Zc Qx Z3)) Y Y (VRunD.quiet (bi:= [1,2,3,0]) Y VWant.always Y Y Y (bc (lb Y) bn) (B.append (rows:= []) (rows2:=(((Qk l (ws.take i) m).take k).map (Qa false))) (rows3:=(((Qk l (ws.take i) m).take k).map (Qa true))) (VDst.own (tv (T.os 2 2 0 0) Y) Y Y) (VSrc.read (tv (rd 2 Qa ((Qk l (ws.take i) m).take k)) Y) Zc (okeUsed.okMap _ _)) nofun Zc Qx (by decide) Zs Y (of_decide_eq_true (by kernel_rfl)) (by first | exact QF m hz _ | omega | (simp only [List.length_map];omega) | (simp only [List.length_map,List.length_append,List.length_cons,List.length_nil,List.length_replicate,List.length_set,List.length_drop,List.length_take,ZQ] at *;omega)) (List.nil_append _)) (lD (OL.loadOn (us:= [(tS x1),(tI m)]) (tv (T.op 1 0) Y) Y Jg Qx (lb Y) Y) Y Y (VRunD.make Y VWant.always Y (OM.buildSlice (l:= [(T.agg [(tS x1),(tI m)])]) (VEvp.cons (tv (T.agg [(tS x1),(tI m)]) Y) VEvp.nil) Y (by decide) (bc (nofun) bn) (bc ((bc (Y) (bc (Y) bn))) bn) (bc (Y) bn) Zc Zs (by kernel_rfl) Y (by rw [Qx];decide) Qx (Nat.le_of_ble_eq_true Y)) (VRunD.quiet (bi:= [5,6,0,3,2,1,4]) Y VWant.always Y Y Y (bc (lb Y) (bc (lb Y) bn)) (B.append (rows:=(((Qk l (ws.take i) m).take k).map (Qa true))) (rows2:= [[(tS x1),(tI m)]]) (rows3:=((((Qk l (ws.take i) m).take k)++ [(D.Used.mk x1 m)]).map (Qa true))) (VDst.own (tv (T.os 2 3 0 ((((Qk l (ws.take i) m).take k).map (Qa true)).length)) Y) Y Y) (VSrc.own (tv (T.os 2 4 0 1) Y) Y Y Zc (bc (bc Y (bc Y bn)) bn)) (by decide) Zc Qx (by decide) Zs Y (of_decide_eq_true (by kernel_rfl)) (by first | exact QF m hz _ | omega | (simp only [List.length_map];omega) | (simp only [List.length_map,List.length_append,List.length_cons,List.length_nil,List.length_replicate,List.length_set,List.length_drop,List.length_take,ZQ] at *;omega)) ((List.map_append (f:=Qa true) (l₁:=((Qk l (ws.take i) m).take k)) (l₂:= [(D.Used.mk x1 m)])).symm)) (mD (rd 2 Qa (Qk l (ws.take i) m)) Y Y (mD (tN k) Y Y ?_))))))
   refine lD (show OL _ _ _ _ _ (T.sl false 2 (((Qk l (ws.take i) m).drop k).map (Qa false))) by rw [show ((Qk l (ws.take i) m).drop k).map (Qa false)=((Qk l (ws.take i) m).map (Qa false)).drop k from List.map_drop ..];exact (OL.sliceRLo (i:=k) (tv (rd 2 Qa (Qk l (ws.take i) m)) Y) (tv (tN k) Y) Y (by first | exact QF m hz _ | omega | (simp only [List.length_map];omega) | (simp only [List.length_map,List.length_append,List.length_cons,List.length_nil,List.length_replicate,List.length_set,List.length_drop,List.length_take,ZQ] at *;omega)) Zc Qx Z3)) Y Y (VRunD.quiet (bi:= [8,9,10,4,1,2,3,0,6,5,7]) Y VWant.always Y Y Y (bc (lb Y) bn) (B.append (rows:=((((Qk l (ws.take i) m).take k)++ [(D.Used.mk x1 m)]).map (Qa true))) (rows2:=(((Qk l (ws.take i) m).drop k).map (Qa false))) (rows3:=(((((Qk l (ws.take i) m).take k)++ [(D.Used.mk x1 m)])++((Qk l (ws.take i) m).drop k)).map (Qa true))) (VDst.own (tv (T.os 2 5 0 (((((Qk l (ws.take i) m).take k)++ [(D.Used.mk x1 m)]).map (Qa true)).length)) Y) Y Y) (VSrc.read (tv (rd 2 Qa ((Qk l (ws.take i) m).drop k)) Y) Zc (okeUsed.okMap _ _)) nofun Zc Qx (by decide) Zs Y (of_decide_eq_true (by kernel_rfl)) (by first | exact QF m hz _ | omega | (simp only [List.length_map];omega) | (simp only [List.length_map,List.length_append,List.length_cons,List.length_nil,List.length_replicate,List.length_set,List.length_drop,List.length_take,ZQ] at *;omega)) ((List.map_append (f:=Qa true) (l₁:=(((Qk l (ws.take i) m).take k)++ [(D.Used.mk x1 m)])) (l₂:=((Qk l (ws.take i) m).drop k))).symm)) (fD (OF.assign (tv (T.os 2 6 0 ((((((Qk l (ws.take i) m).take k)++ [(D.Used.mk x1 m)])++((Qk l (ws.take i) m).drop k)).map (Qa true)).length)) Y)) Y Y (VRunD.nil (vinB.n (tn (VRun.region (mO (tN i) Y (fO (Yk (tv (tN i) Y) (VEv.int .i64 1) (by first | exact QF m hz _ | omega)) (aO (tN (i+1)) Y (VRunO.nil (tn ?_)))))))))))
   have he3:((((Qk l (ws.take i) m).take k)++ [(D.Used.mk x1 m)])++((Qk l (ws.take i) m).drop k))=Qk l (ws.take (i+1)) m:=by first | rfl | (rw [JR hx1];first | exact Qby hI' hx2 fhc1 | exact QaG hI' (by assumption)) | (simp;done) | omega
   refine ⟨(i+1:Nat),?_,?_,Wk.mk (fun k=>if k=0 then 6 else k) ?_ ?_ ?_⟩
   ·first | trivial | omega | (simp;done) | exact ⟨by omega,hI'.2⟩
   ·first | omega | (simp only [];omega) | (show _<_;omega) | (simp;omega)
   ·exact (b2 (b2 (b2 (b2 (b2 (bc ⟨(congrArg (fun l_=>T.os 2 6 0 (List.map (Qa true) l_).length) he3),rfl⟩ (b2 bn)))))))
   ·exact (bc ⟨(congrArg (fun l_=>some (Obj.rows 2 (List.map (Qa true) l_))) he3),(lb Y),rfl⟩ bn)
   ·exact nd Y
  refine oD Y Y (dz fhg31_2) Y (oD Y Y (dz fhg31_2) Y (oD Y Y (dz fhg31_2) Y (oD Y Y (dz fhg31_2) Y (oD Y Y (dz fhg31_2) Y (oD Y Y (dz fhg31_2) Y (oD Y Y (dz fhg31_2) Y (fD (OF.pickF (VEv.tmpB Y (dz fhg31_2)) (VEv.bool false)) Y Y (VRunD.nil (tn (cf Y (VRun.exit ?_)))))))))))
  refine vthn.e (vthn.e (vinB.e (tn (VRun.wk (Wk.freeze (sz:=2) (k:=0) (rows':=((Qk l (ws.take i) m).map (Qa false))) [8] (bc Y bn) Y Y (okeUsed.fzMap _ _)) (VRun.draw (B:= [[],[],[],[2,1],[1,2,3,0],[],[5],[5,6,0,3,2,1,4],[],[],[9,8],[8,9,10,4,1,2,3,0,6,5,7],[7,5,6,0,3,2,1,4,10,9,8,11]]) (by kernel_rfl) (by kernel_rfl) (VRunD.make Y VWant.always Y (OM.slice0 Zc Zs (by kernel_rfl) Y (by rw [Qx];decide) Qx) (mD (rd 2 Qa (Qk l (ws.take i) m)) Y Y (mD (tN k) Y Y ?_))))))))
  refine lD (show OL _ _ _ _ _ (T.sl false 2 (((Qk l (ws.take i) m).take k).map (Qa false))) by rw [show ((Qk l (ws.take i) m).take k).map (Qa false)=((Qk l (ws.take i) m).map (Qa false)).take k from List.map_take ..];exact (OL.sliceRHi (j:=k) (tv (rd 2 Qa (Qk l (ws.take i) m)) Y) (tv (tN k) Y) Y (by first | exact QF m hz _ | omega | (simp only [List.length_map];omega) | (simp only [List.length_map,List.length_append,List.length_cons,List.length_nil,List.length_replicate,List.length_set,List.length_drop,List.length_take,ZQ] at *;omega)) Zc Qx Z3)) Y Y (VRunD.quiet (bi:= [1,2,3,0]) Y VWant.always Y Y Y (bc (lb Y) bn) (B.append (rows:= []) (rows2:=(((Qk l (ws.take i) m).take k).map (Qa false))) (rows3:=(((Qk l (ws.take i) m).take k).map (Qa true))) (VDst.own (tv (T.os 2 2 0 0) Y) Y Y) (VSrc.read (tv (rd 2 Qa ((Qk l (ws.take i) m).take k)) Y) Zc (okeUsed.okMap _ _)) nofun Zc Qx (by decide) Zs Y (of_decide_eq_true (by kernel_rfl)) (by first | exact QF m hz _ | omega | (simp only [List.length_map];omega) | (simp only [List.length_map,List.length_append,List.length_cons,List.length_nil,List.length_replicate,List.length_set,List.length_drop,List.length_take,ZQ] at *;omega)) (List.nil_append _)) (lD (OL.loadOn (us:= [(tS x1),(tI m)]) (tv (T.op 1 0) Y) Y Jg Qx (lb Y) Y) Y Y (VRunD.make Y VWant.always Y (OM.buildSlice (l:= [(T.agg [(tS x1),(tI m)])]) (VEvp.cons (tv (T.agg [(tS x1),(tI m)]) Y) VEvp.nil) Y (by decide) (bc (nofun) bn) (bc ((bc (Y) (bc (Y) bn))) bn) (bc (Y) bn) Zc Zs (by kernel_rfl) Y (by rw [Qx];decide) Qx (Nat.le_of_ble_eq_true Y)) (VRunD.quiet (bi:= [5,6,0,3,2,1,4]) Y VWant.always Y Y Y (bc (lb Y) (bc (lb Y) bn)) (B.append (rows:=(((Qk l (ws.take i) m).take k).map (Qa true))) (rows2:= [[(tS x1),(tI m)]]) (rows3:=((((Qk l (ws.take i) m).take k)++ [(D.Used.mk x1 m)]).map (Qa true))) (VDst.own (tv (T.os 2 3 0 ((((Qk l (ws.take i) m).take k).map (Qa true)).length)) Y) Y Y) (VSrc.own (tv (T.os 2 4 0 1) Y) Y Y Zc (bc (bc Y (bc Y bn)) bn)) (by decide) Zc Qx (by decide) Zs Y (of_decide_eq_true (by kernel_rfl)) (by first | exact QF m hz _ | omega | (simp only [List.length_map];omega) | (simp only [List.length_map,List.length_append,List.length_cons,List.length_nil,List.length_replicate,List.length_set,List.length_drop,List.length_take,ZQ] at *;omega)) ((List.map_append (f:=Qa true) (l₁:=((Qk l (ws.take i) m).take k)) (l₂:= [(D.Used.mk x1 m)])).symm)) (mD (rd 2 Qa (Qk l (ws.take i) m)) Y Y (mD (tN k) Y Y ?_))))))
  refine lD (show OL _ _ _ _ _ (T.sl false 2 (((Qk l (ws.take i) m).drop k).map (Qa false))) by rw [show ((Qk l (ws.take i) m).drop k).map (Qa false)=((Qk l (ws.take i) m).map (Qa false)).drop k from List.map_drop ..];exact (OL.sliceRLo (i:=k) (tv (rd 2 Qa (Qk l (ws.take i) m)) Y) (tv (tN k) Y) Y (by first | exact QF m hz _ | omega | (simp only [List.length_map];omega) | (simp only [List.length_map,List.length_append,List.length_cons,List.length_nil,List.length_replicate,List.length_set,List.length_drop,List.length_take,ZQ] at *;omega)) Zc Qx Z3)) Y Y (VRunD.quiet (bi:= [8,9,10,4,1,2,3,0,6,5,7]) Y VWant.always Y Y Y (bc (lb Y) bn) (B.append (rows:=((((Qk l (ws.take i) m).take k)++ [(D.Used.mk x1 m)]).map (Qa true))) (rows2:=(((Qk l (ws.take i) m).drop k).map (Qa false))) (rows3:=(((((Qk l (ws.take i) m).take k)++ [(D.Used.mk x1 m)])++((Qk l (ws.take i) m).drop k)).map (Qa true))) (VDst.own (tv (T.os 2 5 0 (((((Qk l (ws.take i) m).take k)++ [(D.Used.mk x1 m)]).map (Qa true)).length)) Y) Y Y) (VSrc.read (tv (rd 2 Qa ((Qk l (ws.take i) m).drop k)) Y) Zc (okeUsed.okMap _ _)) nofun Zc Qx (by decide) Zs Y (of_decide_eq_true (by kernel_rfl)) (by first | exact QF m hz _ | omega | (simp only [List.length_map];omega) | (simp only [List.length_map,List.length_append,List.length_cons,List.length_nil,List.length_replicate,List.length_set,List.length_drop,List.length_take,ZQ] at *;omega)) ((List.map_append (f:=Qa true) (l₁:=(((Qk l (ws.take i) m).take k)++ [(D.Used.mk x1 m)])) (l₂:=((Qk l (ws.take i) m).drop k))).symm)) (fD (OF.assign (tv (T.os 2 6 0 ((((((Qk l (ws.take i) m).take k)++ [(D.Used.mk x1 m)])++((Qk l (ws.take i) m).drop k)).map (Qa true)).length)) Y)) Y Y (VRunD.nil (vinB.n (tn (VRun.region (mO (tN i) Y (fO (Yk (tv (tN i) Y) (VEv.int .i64 1) (by first | exact QF m hz _ | omega)) (aO (tN (i+1)) Y (VRunO.nil (tn ?_)))))))))))
  have he4:((((Qk l (ws.take i) m).take k)++ [(D.Used.mk x1 m)])++((Qk l (ws.take i) m).drop k))=Qk l (ws.take (i+1)) m:=by first | rfl | (rw [JR hx1];first | exact Qby hI' hx2 fhc1 | exact QaG hI' (by assumption)) | (simp;done) | omega
  refine ⟨(i+1:Nat),?_,?_,Wk.mk (fun k=>if k=0 then 6 else k) ?_ ?_ ?_⟩
  ·first | trivial | omega | (simp;done) | exact ⟨by omega,hI'.2⟩
  ·first | omega | (simp only [];omega) | (show _<_;omega) | (simp;omega)
  ·exact (b2 (b2 (b2 (b2 (b2 (bc ⟨(congrArg (fun l_=>T.os 2 6 0 (List.map (Qa true) l_).length) he4),rfl⟩ (b2 bn)))))))
  ·exact (bc ⟨(congrArg (fun l_=>some (Obj.rows 2 (List.map (Qa true) l_))) he4),(lb Y),rfl⟩ bn)
  ·exact nd Y
 refine VRun.exit (vthn.e (vthn.e (vinB.e (tn (sq (sr (mO (T.os 2 0 0 (((Qk l (ws.take i) m).map (Qa true)).length)) Y (cO (cS (us:= [(rd 2 Qa (Qk l (ws.take i) m))]) (vc (tv (T.os 2 0 0 (((Qk l (ws.take i) m).map (Qa true)).length)) Y) vn) (LendL.cons (Lend.os Y Y (okeUsed.fzMap _ _)) ln) (Qaj (n+0) (Qk l (ws.take i) m) (by first | exact QF m hz _ | assumption | omega)) Y Y) (fO (Jj (tv (tB (decide (Ql (Qk l (ws.take i) m)))) Y)) (nt ?_))))))))))
 refine cn (Ql (Qk l (ws.take i) m)) Y (fun fhc2=> ?_) fun fhc2=> ?_
 ·refine sr ?_
  refine kO (OM.slice0 Zc Zs (by kernel_rfl) Y (by rw [Qx];decide) Qx) (mO (rd 2 Qa l) Y (cO (B.append (rows:= []) (rows2:=(l.map (Qa false))) (rows3:=(l.map (Qa true))) (VDst.own (tv (T.os 2 1 0 0) Y) Y Y) (VSrc.read (tv (rd 2 Qa l) Y) Zc (okeUsed.okMap _ _)) nofun Zc Qx (by decide) Zs Y (of_decide_eq_true (by kernel_rfl)) (by first | exact QF m hz _ | omega | (simp only [List.length_map];omega) | (simp only [List.length_map,List.length_append,List.length_cons,List.length_nil,List.length_replicate,List.length_set,List.length_drop,List.length_take,ZQ] at *;omega)) (List.nil_append _)) (aO (T.os 2 2 0 ((l.map (Qa true)).length)) Y (fO (OF.assign (VEv.bool false)) (nt (rt (tr ?_)))))))
  refine vfin.eq (r':=(T.tup [(T.sl true 2 (l.map (Qa true))),(tB false)])) ?_ (vfin.r (VRes.tmp (t:=(T.os 2 2 0 ((l.map (Qa true)).length))) Y (VRes.tmp (t:=(tB false)) Y VRes.nil)) (Give.tup (GiveL.cons (Give.os Y Y (okeUsed.cleanMap _)) (GiveL.cons (Give.bool _) GiveL.nil (by decide)) (by decide))))
  have htk:ws.take i=ws:=List.take_of_length_le (by omega)
  rw [htk] at fhc2
  try rw [htk]
  first | (rw [(YY fhc2).1,(YY fhc2).2]) | (rw [(Yy fhc2).1,(Yy fhc2).2])
 refine sk (tn (sr (mO (T.os 2 0 0 (((Qk l (ws.take i) m).map (Qa true)).length)) Y (aO (T.os 2 0 0 (((Qk l (ws.take i) m).map (Qa true)).length)) Y (fO (OF.assign (VEv.bool true)) (nt (rt ?_)))))))
 refine vfin.eq (r':=(T.tup [(T.sl true 2 ((Qk l (ws.take i) m).map (Qa true))),(tB true)])) ?_ (vfin.r (VRes.tmp (t:=(T.os 2 0 0 (((Qk l (ws.take i) m).map (Qa true)).length))) Y (VRes.tmp (t:=(tB true)) Y VRes.nil)) (Give.tup (GiveL.cons (Give.os Y Y (okeUsed.cleanMap _)) (GiveL.cons (Give.bool _) GiveL.nil (by decide)) (by decide))))
 have htk:ws.take i=ws:=List.take_of_length_le (by omega)
 rw [htk] at fhc2
 try rw [htk]
 first | (rw [(YY fhc2).1,(YY fhc2).2]) | (rw [(Yy fhc2).1,(Yy fhc2).2])
theorem Qam (n:Nat) (l:List D.Used) (ws:List ByteArray) (m:Int) (hz:zL QC l+zL ByteArray.size ws≤2*mx):Pure (Qo Try.prog (n+4)) 11 [(rd 2 Qa l),(rd 1 Qd ws),(tI m)] (T.tup [(T.sl true 2 ((Qr l ws m).map (Qa true))),(tB (decide (Ql (Qn l ws m))))]):=by
 refine Pure.intro (rs:= [ResultVar.tmp 6,ResultVar.tmp 7]) Try.func11 Y Y Y (E0:= [(0,(rd 2 Qa l)),(1,(rd 1 Qd ws)),(2,(tI m))]) Y ?_
 obtain ⟨hlim,hmx,hmax⟩:=QW
 have hl:=YI (z:=QC) l
 have hlw:=YI (z:=ByteArray.size) ws
 refine sr (fO (OF.assign VEv.nils) (fO (OF.assign (VEv.bool false)) (nt (sr (mO (rd 2 Qa l) Y (cO (OC.callF (r':=(T.os 2 0 0 ((l.map (Qa true)).length))) (objs:= [(Obj.rows 2 (l.map (Qa true)))]) Y (vc (tv (rd 2 Qa l) Y) vn) (YC Y) (QM (n+2) l (by first | exact Q9 m hz _ | assumption | omega)) Y) (aO (T.os 2 0 0 ((l.map (Qa true)).length)) Y (nt (sq (sr (mO (rd 1 Qd ws) Y ?_)))))))))))
 refine lO (B.lenR (m:=ws.length) (tv (rd 1 Qd ws) Y) Jm (List.length_map ..)) (fO (OF.move (VEv.int .i64 0)) (nt (VRun.block ?_)))
 have he1:l=Qn l (ws.take 0) m:=by first | rfl | (rw [JS hx1];first | exact Qbt hI' hx2 fhc1 | exact QaK hI' (by omega)) | (simp;done) | omega
 refine VRun.loop (A:=Nat) (fun s_=> [(0,(rd 2 Qa l)),(2,(tI m)),(6,T.nils),(7,(tB false)),(8,(T.os 2 0 0 (((Qn l (ws.take s_) m).map (Qa true)).length))),(15,(rd 1 Qd ws)),(16,(tN ws.length)),(17,(tN s_))]) (fun s_=>YW [(0,(Obj.rows 2 ((Qn l (ws.take s_) m).map (Qa true))))]) 1 (fun s_=>s_≤ws.length) (fun s_=>ws.length - s_) (0:Nat) ?_ (Wk.mk (fun k=>k) ?_ ?_ ?_) ?_
 ·first | trivial | (simp;done) | omega | (constructor<;>simp)
 ·exact (b2 (b2 (b2 (b2 (bc ⟨(congrArg (fun l_=>T.os 2 0 0 (List.map (Qa true) l_).length) he1),rfl⟩ (b2 (b2 (b2 bn))))))))
 ·exact (bc ⟨(congrArg (fun l_=>some (Obj.rows 2 (List.map (Qa true) l_))) he1),(lb Y),rfl⟩ bn)
 ·exact nd Y
 rintro i (hI':i≤ws.length)
 show VRun _ _ _ [(0,(rd 2 Qa l)),(2,(tI m)),(6,T.nils),(7,(tB false)),(8,(T.os 2 0 0 (((Qn l (ws.take i) m).map (Qa true)).length))),(15,(rd 1 Qd ws)),(16,(tN ws.length)),(17,(tN i))] (YW [(0,(Obj.rows 2 ((Qn l (ws.take i) m).map (Qa true))))]) 1 _
 have hI1:=hI'
 have hsl:=Qea m hz i
 refine sr (fO (YM (tv (tN i) Y) (tv (tN ws.length) Y)) (nt (sq ?_)))
 refine cd (i<ws.length) Y (fun fhc0=> ?_) fun fhc0=> ?_
 ·refine sk ?_
  refine tn (sq (VRun.block (sr ?_)))
  obtain ⟨x1,hx1⟩:∃x,ws[i]? =some x:=⟨_,List.getElem?_eq_getElem (by first | exact Q9 m hz _ | omega)⟩
  refine fO (OF.indexAddrR (row:=(Qd false x1)) (i:=i) (tv (rd 1 Qd ws) Y) (tv (tN i) Y) Y (QE _ hx1) Jm JH if9) (lO (OL.loadR1 (t:=(tS x1)) (tv (T.rp [(tS x1)]) Y) Y st9) (aO (tS x1) Y (nt (sr (mO (tS x1) Y (mO (tI m) Y (fO (OF.build (l:= [(0,(tS x1)),(1,(tI m))]) (zs:= [(tS ByteArray.empty),(tN 0)]) (out:= [(tS x1),(tI m)]) (VEvp.cons (i:=0) (tv (tS x1) Y) (VEvp.cons (i:=1) (tv (tI m) Y) VEvp.nil)) (bc nofun (bc nofun bn)) Try.underlying43 Zs (fun _=>RL.cons (.str _) (RL.cons (.int _ _) (RL.nil _))) (by kernel_rfl) (by kernel_rfl)) (kO (B.alloc (t:=(T.agg [(tS ByteArray.empty),(tN 0)])) (ts:= [(tS ByteArray.empty),(tN 0)]) Zs Qeo nofun (fun _=> .agg _ _ Y (QaW (RL.cons (.str _) (RL.cons (.int _ _) (RL.nil _))))) Y) (cO (B.storeW (us:= [(tS x1),(tI m)]) (tv (T.op 1 0) Y) (tv (T.agg [(tS x1),(tI m)]) Y) nofun Y Y Y Z3 Qx (bc Y (bc Y bn))) (nt (sr ?_)))))))))))
  refine fO (OF.assign (VEv.int .i64 0)) (nt (sq (VRun.block ?_)))
  refine VRun.loop (A:=Nat) (fun s_=> [(0,(rd 2 Qa l)),(2,(tI m)),(6,T.nils),(7,(tB false)),(8,(T.os 2 0 0 (((Qn l (ws.take i) m).map (Qa true)).length))),(11,(T.op 1 0)),(12,(tN s_)),(15,(rd 1 Qd ws)),(16,(tN ws.length)),(17,(tN i))]) (fun s_=>YW [(0,(Obj.rows 2 ((Qn l (ws.take i) m).map (Qa true)))),(1,(Obj.cells [(tS x1),(tI m)]))]) 2 (fun s_=>isLedU (Qn l (ws.take i) m) (D.Used.mk x1 m) s_) (fun s_=>(Qn l (ws.take i) m).length - s_) (0:Nat) ?_ (Wk.mk (fun k=>k) ?_ ?_ ?_) ?_
  ·exact ⟨Nat.zero_le _,fun j hj=>by omega⟩
  ·exact (b2 (b2 (b2 (b2 (b2 (b2 (b2 (b2 (b2 (b2 bn))))))))))
  ·exact (b3 (b3 bn))
  ·exact nd Y
  rintro k (hI':isLedU (Qn l (ws.take i) m) (D.Used.mk x1 m) k)
  show VRun _ _ _ [(0,(rd 2 Qa l)),(2,(tI m)),(6,T.nils),(7,(tB false)),(8,(T.os 2 0 0 (((Qn l (ws.take i) m).map (Qa true)).length))),(11,(T.op 1 0)),(12,(tN k)),(15,(rd 1 Qd ws)),(16,(tN ws.length)),(17,(tN i))] (YW [(0,(Obj.rows 2 ((Qn l (ws.take i) m).map (Qa true)))),(1,(Obj.cells [(tS x1),(tI m)]))]) 2 _
  have hJ1:=hI'.1
  refine sq (sq (VRun.draw (B:= [[],[],[1],[1,2,0],[0,2,1,3],[3,1,2,0,4],[3,1,2,0,4],[6,4,0,2,1,3,5],[5,3,1,2,0,4,6,7],[3,1,2,0,4],[9,7,6,4,0,2,1,3,5,8],[8,5,6,7,9,10,3,1,2,0,4]]) (by kernel_rfl) (by kernel_rfl) (mD (tN k) Y Y (mD (T.os 2 0 0 (((Qn l (ws.take i) m).map (Qa true)).length)) Y Y (lD (B.lenO (m:=(Qn l (ws.take i) m).length) (tv (T.os 2 0 0 (((Qn l (ws.take i) m).map (Qa true)).length)) Y) Zc (List.length_map ..)) Y Y (fD (YM (tv (tN k) Y) (tv (tN ((Qn l (ws.take i) m).length)) Y)) Y Y (mD (tB (decide (k<(Qn l (ws.take i) m).length))) Y Y ?_)))))))
  refine gw (k<(Qn l (ws.take i) m).length) (fun fhg28_2=> ?_) fun fhg28_2=> ?_
  ·refine VRunD.free Y (VWant.on Y Y (dy fhg28_2)) Y (OF.move (tv (T.os 2 0 0 (((Qn l (ws.take i) m).map (Qa true)).length)) Y)) ?_
   refine VRunD.free Y (VWant.on Y Y (dy fhg28_2)) Y (OF.move (tv (tN k) Y)) ?_
   obtain ⟨x2,hx2⟩:∃x,(Qn l (ws.take i) m)[k]? =some x:=⟨_,List.getElem?_eq_getElem (by first | exact Q9 m hz _ | omega | (simp only [List.length_map];omega) | (simp only [List.length_map,List.length_append,List.length_cons,List.length_nil,List.length_replicate,List.length_set,List.length_drop,List.length_take,ZQ] at *;omega))⟩
   refine VRunD.free Y (VWant.on Y Y (dy fhg28_2)) Y (B.indexAddrO (i:=k) (tv (T.os 2 0 0 (((Qn l (ws.take i) m).map (Qa true)).length)) Y) (tv (tN k) Y) Y (by first | exact Q9 m hz _ | omega | (simp only [List.length_map];omega) | (simp only [List.length_map,List.length_append,List.length_cons,List.length_nil,List.length_replicate,List.length_set,List.length_drop,List.length_take,ZQ] at *;omega)) Zc Qx Z3) (VRunD.look Y (VWant.on Y Y (dy fhg28_2)) Y (OL.loadPn (us:=(Qa false x2)) (row:=(Qa true x2)) (tv (T.orp 2 0 k 0) Y) Y (QE _ hx2) Jg Qx (lb Y) Y (bc Y (bc Y bn))) (VRunD.look Y (VWant.on Y Y (dy fhg28_2)) Y (OL.loadOn (us:= [(tS x1),(tI m)]) (tv (T.op 1 0) Y) Y Jg Qx (lb Y) Y) (VRunD.quiet (bi:= [9,7,6,4,0,2,1,3,5,8]) Y (VWant.on Y Y (dy fhg28_2)) Y Y Y bn (cS (us:= [(T.agg (Qa false x2)),(T.agg [(tS x1),(tI m)])]) (vc (tv (T.agg (Qa false x2)) Y) (vc (tv (T.agg [(tS x1),(tI m)]) Y) vn)) (LendL.cons (lg okeUsed) (LendL.cons (Lend.agg (LendL.cons (Lend.pl Y) (LendL.cons (Lend.pl Y) ln))) ln)) (Ym (n+1) x2 (D.Used.mk x1 m)) Y Y) (fD (OF.pickT (VEv.tmpB Y (dy fhg28_2)) (tv (tB (QI x2 (D.Used.mk x1 m))) Y)) Y Y (VRunD.nil (tn ?_))))))
   refine VRun.cond (tv (tB (QI x2 (D.Used.mk x1 m))) Y) (fun hc1=> ?_) (fun hc1=> ?_)
   ·have fhc1:(QI x2 (D.Used.mk x1 m))=true:=hc1
    refine sk (tn (VRun.block (VRun.region (mO (tN k) Y (fO (Yk (tv (tN k) Y) (VEv.int .i64 1) (by first | exact Q9 m hz _ | omega)) (aO (tN (k+1)) Y (VRunO.nil (vinB.n (tn ?_)))))))))
    refine ⟨(k+1:Nat),?_,?_,Wk.mk (fun k=>k) ?_ ?_ ?_⟩
    ·exact hI'.next hx2 (by assumption)
    ·first | omega | (simp only [];omega) | (show _<_;omega) | (simp;omega)
    ·exact (b2 (b2 (b2 (b2 (b2 (b2 (b2 (b2 (b2 (b2 bn))))))))))
    ·exact (b3 (b3 bn))
    ·exact nd Y
   have fhc1:(QI x2 (D.Used.mk x1 m))=false:=hc1
   refine VRun.exit (vthn.e (vthn.e (vinB.e (tn (VRun.region (mO (T.os 2 0 0 (((Qn l (ws.take i) m).map (Qa true)).length)) Y (mO (tN k) Y (lO (OL.loadOn (us:= [(tS x1),(tI m)]) (tv (T.op 1 0) Y) Y Jg Qx (lb Y) Y) (kO (OM.buildSlice (l:= [(T.agg [(tS x1),(tI m)])]) (VEvp.cons (tv (T.agg [(tS x1),(tI m)]) Y) VEvp.nil) Y (by decide) (bc (nofun) bn) (bc ((bc (Y) (bc (Y) bn))) bn) (bc (Y) bn) Zc Zs (by kernel_rfl) Y (by rw [Qx];decide) Qx (Nat.le_of_ble_eq_true Y)) (cO (B.insert (rows:=((Qn l (ws.take i) m).map (Qa true))) (r:= [(tS x1),(tI m)]) (rows3:=(((Qn l (ws.take i) m).take k++(D.Used.mk x1 m)::(Qn l (ws.take i) m).drop k).map (Qa true))) (i:=k) Y Y Y (VDst.own (tv (T.os 2 0 0 (((Qn l (ws.take i) m).map (Qa true)).length)) Y) Y Y) (tv (tN k) Y) Y (VDst.own (tv (T.os 2 2 0 1) Y) Y Y) (by decide) (Qer (fun _=>rfl) _) (bc (bc Y (bc Y bn)) bn) (okeUsed.okMap _ _) (bc Y (bc Y bn)) (by decide) (by decide) (by first | exact Q9 m hz _ | omega | (simp only [List.length_map];omega) | (simp only [List.length_map,List.length_append,List.length_cons,List.length_nil,List.length_replicate,List.length_set,List.length_drop,List.length_take,ZQ] at *;omega)) (by first | exact Q9 m hz _ | omega | (simp only [List.length_map];omega) | (simp only [List.length_map,List.length_append,List.length_cons,List.length_nil,List.length_replicate,List.length_set,List.length_drop,List.length_take,ZQ] at *;omega)) (by rw [List.map_append,List.map_cons,List.map_take,List.map_drop];rfl)) (aO (T.os 2 3 0 ((((Qn l (ws.take i) m).take k++(D.Used.mk x1 m)::(Qn l (ws.take i) m).drop k).map (Qa true)).length)) Y ?_)))))))))))
   refine VRunO.nil (vinB.n (tn (VRun.region (fO (Yk (tv (tN i) Y) (VEv.int .i64 1) (by first | exact Q9 m hz _ | omega)) (mO (tN (i+1)) Y (VRunO.nil (tn ?_)))))))
   have he3:((Qn l (ws.take i) m).take k++(D.Used.mk x1 m)::(Qn l (ws.take i) m).drop k)=Qn l (ws.take (i+1)) m:=by first | rfl | (rw [JS hx1];first | exact Qbt hI' hx2 fhc1 | exact QaK hI' (by omega)) | (simp;done) | omega
   refine ⟨(i+1:Nat),?_,?_,Wk.mk (fun k=>if k=0 then 3 else k) ?_ ?_ ?_⟩
   ·first | trivial | omega | (simp;done) | exact ⟨by omega,hI'.2⟩
   ·first | omega | (simp only [];omega) | (show _<_;omega) | (simp;omega)
   ·exact (b2 (b2 (b2 (b2 (bc ⟨(congrArg (fun l_=>T.os 2 3 0 (List.map (Qa true) l_).length) he3),rfl⟩ (b2 (b2 (b2 bn))))))))
   ·exact (bc ⟨(congrArg (fun l_=>some (Obj.rows 2 (List.map (Qa true) l_))) he3),(lb Y),rfl⟩ bn)
   ·exact nd Y
  refine oD Y Y (dz fhg28_2) Y (oD Y Y (dz fhg28_2) Y (oD Y Y (dz fhg28_2) Y (oD Y Y (dz fhg28_2) Y (oD Y Y (dz fhg28_2) Y (oD Y Y (dz fhg28_2) Y (fD (OF.pickF (VEv.tmpB Y (dz fhg28_2)) (VEv.bool false)) Y Y (VRunD.nil (tn (cf Y (VRun.exit (vthn.e ?_)))))))))))
  refine vthn.e (vinB.e (tn (VRun.region (mO (T.os 2 0 0 (((Qn l (ws.take i) m).map (Qa true)).length)) Y (mO (tN k) Y (lO (OL.loadOn (us:= [(tS x1),(tI m)]) (tv (T.op 1 0) Y) Y Jg Qx (lb Y) Y) (kO (OM.buildSlice (l:= [(T.agg [(tS x1),(tI m)])]) (VEvp.cons (tv (T.agg [(tS x1),(tI m)]) Y) VEvp.nil) Y (by decide) (bc (nofun) bn) (bc ((bc (Y) (bc (Y) bn))) bn) (bc (Y) bn) Zc Zs (by kernel_rfl) Y (by rw [Qx];decide) Qx (Nat.le_of_ble_eq_true Y)) (cO (B.insert (rows:=((Qn l (ws.take i) m).map (Qa true))) (r:= [(tS x1),(tI m)]) (rows3:=(((Qn l (ws.take i) m).take k++(D.Used.mk x1 m)::(Qn l (ws.take i) m).drop k).map (Qa true))) (i:=k) Y Y Y (VDst.own (tv (T.os 2 0 0 (((Qn l (ws.take i) m).map (Qa true)).length)) Y) Y Y) (tv (tN k) Y) Y (VDst.own (tv (T.os 2 2 0 1) Y) Y Y) (by decide) (Qer (fun _=>rfl) _) (bc (bc Y (bc Y bn)) bn) (okeUsed.okMap _ _) (bc Y (bc Y bn)) (by decide) (by decide) (by first | exact Q9 m hz _ | omega | (simp only [List.length_map];omega) | (simp only [List.length_map,List.length_append,List.length_cons,List.length_nil,List.length_replicate,List.length_set,List.length_drop,List.length_take,ZQ] at *;omega)) (by first | exact Q9 m hz _ | omega | (simp only [List.length_map];omega) | (simp only [List.length_map,List.length_append,List.length_cons,List.length_nil,List.length_replicate,List.length_set,List.length_drop,List.length_take,ZQ] at *;omega)) (by rw [List.map_append,List.map_cons,List.map_take,List.map_drop];rfl)) (aO (T.os 2 3 0 ((((Qn l (ws.take i) m).take k++(D.Used.mk x1 m)::(Qn l (ws.take i) m).drop k).map (Qa true)).length)) Y (VRunO.nil (vinB.n ?_)))))))))))
  refine tn (VRun.region (fO (Yk (tv (tN i) Y) (VEv.int .i64 1) (by first | exact Q9 m hz _ | omega)) (mO (tN (i+1)) Y (VRunO.nil (tn ?_)))))
  have he4:((Qn l (ws.take i) m).take k++(D.Used.mk x1 m)::(Qn l (ws.take i) m).drop k)=Qn l (ws.take (i+1)) m:=by first | rfl | (rw [JS hx1];first | exact Qbt hI' hx2 fhc1 | exact QaK hI' (by omega)) | (simp;done) | omega
  refine ⟨(i+1:Nat),?_,?_,Wk.mk (fun k=>if k=0 then 3 else k) ?_ ?_ ?_⟩
  ·first | trivial | omega | (simp;done) | exact ⟨by omega,hI'.2⟩
  ·first | omega | (simp only [];omega) | (show _<_;omega) | (simp;omega)
  ·exact (b2 (b2 (b2 (b2 (bc ⟨(congrArg (fun l_=>T.os 2 3 0 (List.map (Qa true) l_).length) he4),rfl⟩ (b2 (b2 (b2 bn))))))))
  ·exact (bc ⟨(congrArg (fun l_=>some (Obj.rows 2 (List.map (Qa true) l_))) he4),(lb Y),rfl⟩ bn)
  ·exact nd Y
 refine VRun.exit (vthn.e (vthn.e (vinB.e (tn (sq (sr (mO (T.os 2 0 0 (((Qn l (ws.take i) m).map (Qa true)).length)) Y (cO (cS (us:= [(rd 2 Qa (Qn l (ws.take i) m))]) (vc (tv (T.os 2 0 0 (((Qn l (ws.take i) m).map (Qa true)).length)) Y) vn) (LendL.cons (Lend.os Y Y (okeUsed.fzMap _ _)) ln) (YK (n+0) (Qn l (ws.take i) m) (by first | exact Q9 m hz _ | assumption | omega)) Y Y) (fO (Jj (tv (tB (decide (Ql (Qn l (ws.take i) m)))) Y)) (nt ?_))))))))))
 refine cn (Ql (Qn l (ws.take i) m)) Y (fun fhc2=> ?_) fun fhc2=> ?_
 ·refine sr ?_
  refine mO (rd 2 Qa l) Y (cO (OC.callF (r':=(T.os 2 1 0 ((l.map (Qa true)).length))) (objs:= [(Obj.rows 2 (l.map (Qa true)))]) Y (vc (tv (rd 2 Qa l) Y) vn) (YC Y) (QM (n+2) l (by first | exact Q9 m hz _ | assumption | omega)) Y) (aO (T.os 2 1 0 ((l.map (Qa true)).length)) Y (fO (OF.assign (VEv.bool false)) (nt (rt (tr ?_))))))
  refine vfin.eq (r':=(T.tup [(T.sl true 2 (l.map (Qa true))),(tB false)])) ?_ (vfin.r (VRes.tmp (t:=(T.os 2 1 0 ((l.map (Qa true)).length))) Y (VRes.tmp (t:=(tB false)) Y VRes.nil)) (Give.tup (GiveL.cons (Give.os Y Y (okeUsed.cleanMap _)) (GiveL.cons (Give.bool _) GiveL.nil (by decide)) (by decide))))
  have htk:ws.take i=ws:=List.take_of_length_le (by omega)
  rw [htk] at fhc2
  try rw [htk]
  first | (rw [Yi fhc2,decide_eq_false fhc2]) | (rw [QZ fhc2,decide_eq_true fhc2])
 refine sk (tn (sr (mO (T.os 2 0 0 (((Qn l (ws.take i) m).map (Qa true)).length)) Y (aO (T.os 2 0 0 (((Qn l (ws.take i) m).map (Qa true)).length)) Y (fO (OF.assign (VEv.bool true)) (nt (rt ?_)))))))
 refine vfin.eq (r':=(T.tup [(T.sl true 2 ((Qn l (ws.take i) m).map (Qa true))),(tB true)])) ?_ (vfin.r (VRes.tmp (t:=(T.os 2 0 0 (((Qn l (ws.take i) m).map (Qa true)).length))) Y (VRes.tmp (t:=(tB true)) Y VRes.nil)) (Give.tup (GiveL.cons (Give.os Y Y (okeUsed.cleanMap _)) (GiveL.cons (Give.bool _) GiveL.nil (by decide)) (by decide))))
 have htk:ws.take i=ws:=List.take_of_length_le (by omega)
 rw [htk] at fhc2
 try rw [htk]
 first | (rw [Yi fhc2,decide_eq_false fhc2]) | (rw [QZ fhc2,decide_eq_true fhc2])
theorem Qbd {e k:Int} (h0:0≤e) (hk:0<k):0≤e.tmod k∧e.tmod k<k:=by
 rw [Int.tmod_eq_emod_of_nonneg h0]
 exact ⟨Int.emod_nonneg e (show k≠0 by omega),Int.emod_lt_of_pos e hk⟩
theorem QcR {α:Type} {P:α→Prop} {a:List α} {x:α} (h:∀y∈a,P y) (hx:P x):∀y∈a++ [x],P y:=fun y hy=>by
 rcases List.mem_append.1 hy with hy | hy
 ·exact h y hy
 ·obtain rfl:=List.mem_singleton.1 hy;exact hx
theorem ZN (n:Nat) (code:List Int) (hcl:code.length≤mx):NewC (Qo Try.prog (n+1)) 14 (rd 1 Qf code):=by
 refine NewC.intro (rs:= [ResultVar.tmp 2]) Try.func14 Y Y Y (fun pb nb mb=> ?_)
 obtain ⟨hlim,hmx,hmax⟩:=QW
 show VRun _ _ _ [(0,(T.ex pb nb mb (rd 1 Qf code)))] [] 0 _
 refine sr (fO (OF.assign VEv.ptr0) (nt (sr (mO (T.ex pb nb mb (rd 1 Qf code)) Y (lO (B.lenR (m:=code.length) (VEv.unex (tv (T.ex pb nb mb (rd 1 Qf code)) Y)) U22 (List.length_map ..)) (fO (B.add (n:=(((193017+code.length):Nat):Int)) (VEv.int .i64 193017) (tv (tN code.length) Y) (by first | rfl | (rw [Qm (by omega)];omega) | (rw [Qm (by omega)];done))) (aO (tN (193017+code.length)) Y (nt (sq (sr (fO (OF.assign (VEv.int .i64 0)) ?_)))))))))))
 refine nt (VRun.block ?_)
 refine VRun.loop (A:=Nat×Int) (fun s_=> [(0,(T.ex pb nb mb (rd 1 Qf code))),(2,T.ptr0),(3,(tI s_.2)),(4,(tN s_.1))]) (fun s_=>YW []) 0 (fun s_=>s_.1≤code.length∧0≤s_.2∧s_.2≤2000000000) (fun s_=>code.length - s_.1) ((0,193017+((code.length:Nat):Int)):Nat×Int) ?_ (Wk.mk (fun k=>k) ?_ ?_ ?_) ?_
 ·exact ⟨by omega,by omega,by omega⟩
 ·exact (b2 (b2 (bc ⟨(congrArg (T.int .i64) (show (((193017+code.length):Nat):Int)=(193017+((code.length:Nat):Int)) from (by first | rfl | omega | (simp;done) | (push_cast;omega)))),rfl⟩ (b2 bn))))
 ·exact bn
 ·exact nd Y
 rintro ⟨i,w⟩ (hI':i≤code.length∧0≤w∧w≤2000000000)
 show VRun _ _ _ [(0,(T.ex pb nb mb (rd 1 Qf code))),(2,T.ptr0),(3,(tI w)),(4,(tN i))] (YW []) 0 _
 have hI1:=hI'.1
 have hI2:=hI'.2.1
 have hI3:=hI'.2.2
 refine sq (sr (mO (tN i) Y (mO (T.ex pb nb mb (rd 1 Qf code)) Y (lO (B.lenR (m:=code.length) (VEv.unex (tv (T.ex pb nb mb (rd 1 Qf code)) Y)) U22 (List.length_map ..)) (fO (YM (tv (tN i) Y) (tv (tN code.length) Y)) (mO (tB (decide (i<code.length))) Y ?_))))))
 refine gw (i<code.length) (fun fhg12_1=> ?_) fun fhg12_1=> ?_
 ·refine gF (dy fhg12_1) Y Y (OF.move (tv (tN i) Y)) ?_
  refine gF (dy fhg12_1) Y Y (B.lss (c:=(decide (i<4000))) (tv (tN i) Y) (VEv.int .i64 4000) (Zl (by omega))) (fO (OF.pickT (VEv.tmpB Y (dy fhg12_1)) (tv (tB (decide (i<4000))) Y)) (nt ?_))
  refine cd (i<4000) Y (fun fhc0=> ?_) fun fhc0=> ?_
  ·refine sk ?_
   refine tn (sq (VRun.block (VRun.region (mO (tI w) Y (fO (B.mul (n:=(w*137)) (tv (tI w) Y) (VEv.int .i64 137) (by first | rfl | (rw [Qm (by omega)];omega) | (rw [Qm (by omega)];done))) (mO (T.ex pb nb mb (rd 1 Qf code)) Y (mO (tN i) Y ?_)))))))
   obtain ⟨x1,hx1⟩:∃x,code[i]? =some x:=⟨_,List.getElem?_eq_getElem (by omega)⟩
   refine fO (OF.indexAddrR (row:=(Qf false x1)) (i:=i) (VEv.unex (tv (T.ex pb nb mb (rd 1 Qf code)) Y)) (tv (tN i) Y) Y (QE _ hx1) U22 sz5 if5) (lO (OL.loadR1 (t:=(T.int .u8 x1)) (tv (T.rp [(T.int .u8 x1)]) Y) Y st5) (fO (OF.convI (tv (T.int .u8 x1) Y) (k0:= .u8) U5 U3) (fO (B.add (n:=(IntKind.i64.wrap ((w*137)+IntKind.i64.wrap x1))) (tv (tI (w*137)) Y) (tv (tI (IntKind.i64.wrap x1)) Y) (by first | rfl | (rw [Qm (by omega)];omega) | (rw [Qm (by omega)];done))) (fO (B.add (n:=(IntKind.i64.wrap (IntKind.i64.wrap ((w*137)+IntKind.i64.wrap x1)+11))) (tv (tI (IntKind.i64.wrap ((w*137)+IntKind.i64.wrap x1))) Y) (VEv.int .i64 11) (by first | rfl | (rw [Qm (by omega)];omega) | (rw [Qm (by omega)];done))) (fO (B.and (n:=(QU .i64 (IntKind.i64.wrap (IntKind.i64.wrap ((w*137)+IntKind.i64.wrap x1)+11)) 1073741823)) (tv (tI (IntKind.i64.wrap (IntKind.i64.wrap ((w*137)+IntKind.i64.wrap x1)+11))) Y) (VEv.int .i64 1073741823) Y) (aO (tI (QU .i64 (IntKind.i64.wrap (IntKind.i64.wrap ((w*137)+IntKind.i64.wrap x1)+11)) 1073741823)) Y (VRunO.nil (vinB.n (tn (VRun.region (mO (tN i) Y ?_)))))))))))
   refine fO (Yk (tv (tN i) Y) (VEv.int .i64 1) (by omega)) (aO (tN (i+1)) Y (VRunO.nil (tn ?_)))
   refine ⟨((i+1,QU .i64 (IntKind.i64.wrap (IntKind.i64.wrap (w*137+IntKind.i64.wrap x1)+11)) 1073741823):Nat×Int),?_,?_,Wk.mk (fun k=>k) ?_ ?_ ?_⟩
   ·exact ⟨by omega,(QaH _ (m:=1073741823) (by decide)).1,Int.le_trans (QaH _ (m:=1073741823) (by decide)).2 (by decide)⟩
   ·first | omega | (simp only [];omega) | (show _<_;omega) | (simp;omega)
   ·exact (b2 (b2 (bc ⟨(congrArg (T.int .i64) (show (QU .i64 (IntKind.i64.wrap (IntKind.i64.wrap ((w*137)+IntKind.i64.wrap x1)+11)) 1073741823)=(QU .i64 (IntKind.i64.wrap (IntKind.i64.wrap (w*137+IntKind.i64.wrap x1)+11)) 1073741823) from (by first | rfl | omega | (simp;done) | (push_cast;omega)))),rfl⟩ (b2 bn))))
   ·exact bn
   ·exact nd Y
  refine VRun.exit (vthn.e (vthn.e (vinB.e (tn (sr (mO (T.ex pb nb mb (rd 1 Qf code)) Y (mO (tI w) Y (fO (OF.build (l:= [(0,(T.ex pb nb mb (rd 1 Qf code))),(2,(tI w))]) (zs:= [T.nils,(tN 0),(tN 0)]) (out:= [(T.ex pb nb mb (rd 1 Qf code)),(tN 0),(tI w)]) (VEvp.cons (i:=0) (tv (T.ex pb nb mb (rd 1 Qf code)) Y) (VEvp.cons (i:=2) (tv (tI w) Y) VEvp.nil)) (bc nofun (bc nofun bn)) Try.underlying56 Qfn (fun _=>RL.cons (.nils) (RL.cons (.int _ _) (RL.cons (.int _ _) (RL.nil _)))) (by kernel_rfl) (by kernel_rfl)) (kO (B.box (ts:= [(T.ex pb nb mb (rd 1 Qf code)),(tN 0),(tI w)]) (tv (T.agg [(T.ex pb nb mb (rd 1 Qf code)),(tN 0),(tI w)]) Y) nofun Y) (aO (T.op 0 0) Y (nt ?_)))))))))))
  refine rt ?_
  exact vnew.r 0 w (VRes.tmp Y VRes.nil) Y
 refine Yo 2 4 true 12 (dz fhg12_1) Y Y Y (fO (OF.pickF (VEv.tmpB Y (dz fhg12_1)) (VEv.bool false)) (nt (cf Y (VRun.exit (vthn.e (vthn.e (vinB.e (tn (sr (mO (T.ex pb nb mb (rd 1 Qf code)) Y (mO (tI w) Y ?_)))))))))))
 refine fO (OF.build (l:= [(0,(T.ex pb nb mb (rd 1 Qf code))),(2,(tI w))]) (zs:= [T.nils,(tN 0),(tN 0)]) (out:= [(T.ex pb nb mb (rd 1 Qf code)),(tN 0),(tI w)]) (VEvp.cons (i:=0) (tv (T.ex pb nb mb (rd 1 Qf code)) Y) (VEvp.cons (i:=2) (tv (tI w) Y) VEvp.nil)) (bc nofun (bc nofun bn)) Try.underlying56 Qfn (fun _=>RL.cons (.nils) (RL.cons (.int _ _) (RL.cons (.int _ _) (RL.nil _)))) (by kernel_rfl) (by kernel_rfl)) (kO (B.box (ts:= [(T.ex pb nb mb (rd 1 Qf code)),(tN 0),(tI w)]) (tv (T.agg [(T.ex pb nb mb (rd 1 Qf code)),(tN 0),(tI w)]) Y) nofun Y) (aO (T.op 0 0) Y (nt (rt ?_))))
 exact vnew.r 0 w (VRes.tmp Y VRes.nil) Y
theorem ZB (n:Nat) (code:List Int) (hcl:code.length≤mx):CurE (Qo Try.prog (n+1)) 36 (rd 1 Qf code) code.length [] (fun x:Int=>0≤x∧x≤255) (fun x:Int=>(tI x)):=by
 refine CurE.intro (rs:= [ResultVar.tmp 2]) Try.func36 Y Y Y (by kernel_rfl) (fun pb nb mb ci ch hci=> ?_)
 obtain ⟨hlim,hmx,hmax⟩:=QW
 show VRun _ _ _ [(0,(T.op 0 0))] [(0,some (Obj.cells [(T.ex pb nb mb (rd 1 Qf code)),(tN ci),(tI ch)]))] 1 _
 refine sr (fO (OF.assign (VEv.int .i64 0)) (nt (sr (mO (T.op 0 0) Y (mO (T.op 0 0) Y (fO (OF.nilCheckO (tv (T.op 0 0) Y)) (lf (tI ch) Y Qbp Y Y st3 (fO (B.mul (n:=(IntKind.i64.wrap (ch*6364136223846793005))) (tv (tI ch) Y) (VEv.int .i64 6364136223846793005) (by first | rfl | (rw [Qm (by omega)];omega) | (rw [Qm (by omega)];done))) (fO (B.add (n:=(IntKind.i64.wrap (IntKind.i64.wrap (ch*6364136223846793005)+1442695040888963407))) (tv (tI (IntKind.i64.wrap (ch*6364136223846793005))) Y) (VEv.int .i64 1442695040888963407) (by first | rfl | (rw [Qm (by omega)];omega) | (rw [Qm (by omega)];done))) (fO (OF.nilCheckO (tv (T.op 0 0) Y)) (fO (OF.fieldAddrO (tv (T.op 0 0) Y) Qbp) ?_)))))))))))
 refine cO (B.storeO (us:= [(tI (IntKind.i64.wrap (IntKind.i64.wrap (ch*6364136223846793005)+1442695040888963407)))]) (ws:= [(T.ex pb nb mb (rd 1 Qf code)),(tN ci),(tI (IntKind.i64.wrap (IntKind.i64.wrap (ch*6364136223846793005)+1442695040888963407)))]) (tv (T.op 0 2) Y) (tv (tI (IntKind.i64.wrap (IntKind.i64.wrap (ch*6364136223846793005)+1442695040888963407))) Y) nofun Y Y (lb Y) if3 sz3 (bc Y bn) Y) (nt (sq (VRun.draw (B:= [[],[0],[0,1],[1,0,2],[2,0,1,3],[],[5],[5,6],[6,5,7],[7,5,6,8],[8,6,5,7,9,3,1,0,2,4],[4,2,0,1,3,9,7,5,6,8,10],[10,8,6,5,7,9,3,1,0,2,4,11]]) (by kernel_rfl) (by kernel_rfl) (mD (T.op 0 0) Y Y (fD (OF.nilCheckO (tv (T.op 0 0) Y)) Y Y (fD (OF.fieldAddrO (tv (T.op 0 0) Y) Qbp) Y Y (lD (OL.loadO1 (t:=(tI (IntKind.i64.wrap (IntKind.i64.wrap (ch*6364136223846793005)+1442695040888963407)))) (tv (T.op 0 2) Y) Y Y st3) Y Y (fD (B.shr (n:=(QJ .i64 (IntKind.i64.wrap (IntKind.i64.wrap (ch*6364136223846793005)+1442695040888963407)) 33)) (tv (tI (IntKind.i64.wrap (IntKind.i64.wrap (ch*6364136223846793005)+1442695040888963407))) Y) (VEv.int .u64 33) (by decide) Y) Y Y (mD (T.op 0 0) Y Y (fD (OF.nilCheckO (tv (T.op 0 0) Y)) Y Y (fD (OF.fieldAddrO (tv (T.op 0 0) Y) Qbp) Y Y ?_)))))))))))
 refine lD (OL.loadO1 (t:=(tI (IntKind.i64.wrap (IntKind.i64.wrap (ch*6364136223846793005)+1442695040888963407)))) (tv (T.op 0 2) Y) Y Y st3) Y Y (fD (B.shr (n:=(QJ .i64 (IntKind.i64.wrap (IntKind.i64.wrap (ch*6364136223846793005)+1442695040888963407)) 47)) (tv (tI (IntKind.i64.wrap (IntKind.i64.wrap (ch*6364136223846793005)+1442695040888963407))) Y) (VEv.int .u64 47) (by decide) Y) Y Y (fD (B.xor (n:=(ZI .i64 (QJ .i64 (IntKind.i64.wrap (IntKind.i64.wrap (ch*6364136223846793005)+1442695040888963407)) 33) (QJ .i64 (IntKind.i64.wrap (IntKind.i64.wrap (ch*6364136223846793005)+1442695040888963407)) 47))) (tv (tI (QJ .i64 (IntKind.i64.wrap (IntKind.i64.wrap (ch*6364136223846793005)+1442695040888963407)) 33)) Y) (tv (tI (QJ .i64 (IntKind.i64.wrap (IntKind.i64.wrap (ch*6364136223846793005)+1442695040888963407)) 47)) Y) Y) Y Y (fD (B.and (n:=(QU .i64 (ZI .i64 (QJ .i64 (IntKind.i64.wrap (IntKind.i64.wrap (ch*6364136223846793005)+1442695040888963407)) 33) (QJ .i64 (IntKind.i64.wrap (IntKind.i64.wrap (ch*6364136223846793005)+1442695040888963407)) 47)) 255)) (tv (tI (ZI .i64 (QJ .i64 (IntKind.i64.wrap (IntKind.i64.wrap (ch*6364136223846793005)+1442695040888963407)) 33) (QJ .i64 (IntKind.i64.wrap (IntKind.i64.wrap (ch*6364136223846793005)+1442695040888963407)) 47))) Y) (VEv.int .i64 255) Y) Y Y (fD (OF.assign (tv (tI (QU .i64 (ZI .i64 (QJ .i64 (IntKind.i64.wrap (IntKind.i64.wrap (ch*6364136223846793005)+1442695040888963407)) 33) (QJ .i64 (IntKind.i64.wrap (IntKind.i64.wrap (ch*6364136223846793005)+1442695040888963407)) 47)) 255)) Y)) Y Y (VRunD.nil (tn (sq (sq (VRun.draw (B:= [[],[0],[0,1],[1,0,2],[],[4],[4,5],[5,4,6],[6,4,5,7],[7,5,4,6,8,2,0,1,3]]) (by kernel_rfl) (by kernel_rfl) (mD (T.op 0 0) Y Y (fD (OF.nilCheckO (tv (T.op 0 0) Y)) Y Y ?_)))))))))))
 refine fD (OF.fieldAddrO (tv (T.op 0 0) Y) Qbj) Y Y (lD (OL.loadO1 (t:=(tN ci)) (tv (T.op 0 1) Y) Y Y st3) Y Y (mD (T.op 0 0) Y Y (fD (OF.nilCheckO (tv (T.op 0 0) Y)) Y Y (fD (OF.fieldAddrO (tv (T.op 0 0) Y) Qdm) Y Y (lD (OL.loadO1 (t:=(T.ex pb nb mb (rd 1 Qf code))) (tv (T.op 0 0) Y) Y Y Qfd) Y Y (lD (B.lenR (m:=code.length) (VEv.unex (tv (T.ex pb nb mb (rd 1 Qf code)) Y)) U22 (List.length_map ..)) Y Y (fD (YM (tv (tN ci) Y) (tv (tN code.length) Y)) Y Y (VRunD.nil (tn ?_)))))))))
 refine cd (ci<code.length) Y (fun fhc0=> ?_) fun fhc0=> ?_
 ·refine sq ?_
  refine VRun.draw (B:= [[],[],[1],[1,2],[2,1,3],[],[5],[5,6],[6,5,7],[7,5,6,8,3,1,2,4],[4,2,1,3,8,6,5,7,9],[9,7,5,6,8,3,1,2,4,10],[10,4,2,1,3,8,6,5,7,9,11,0],[0,11,9,7,5,6,8,3,1,2,4,10,12],[12,10,4,2,1,3,8,6,5,7,9,11,0,13]]) (by kernel_rfl) (by kernel_rfl) (mD (tI (QU .i64 (ZI .i64 (QJ .i64 (IntKind.i64.wrap (IntKind.i64.wrap (ch*6364136223846793005)+1442695040888963407)) 33) (QJ .i64 (IntKind.i64.wrap (IntKind.i64.wrap (ch*6364136223846793005)+1442695040888963407)) 47)) 255)) Y Y (mD (T.op 0 0) Y Y (fD (OF.nilCheckO (tv (T.op 0 0) Y)) Y Y (fD (OF.fieldAddrO (tv (T.op 0 0) Y) Qdm) Y Y (lD (OL.loadO1 (t:=(T.ex pb nb mb (rd 1 Qf code))) (tv (T.op 0 0) Y) Y Y Qfd) Y Y (mD (T.op 0 0) Y Y (fD (OF.nilCheckO (tv (T.op 0 0) Y)) Y Y (fD (OF.fieldAddrO (tv (T.op 0 0) Y) Qbj) Y Y (lD (OL.loadO1 (t:=(tN ci)) (tv (T.op 0 1) Y) Y Y st3) Y Y ?_)))))))))
  obtain ⟨x1,hx1⟩:∃x,code[ci]? =some x:=⟨_,List.getElem?_eq_getElem (by omega)⟩
  refine fD (OF.indexAddrR (row:=(Qf false x1)) (i:=ci) (VEv.unex (tv (T.ex pb nb mb (rd 1 Qf code)) Y)) (tv (tN ci) Y) Y (QE _ hx1) U22 sz5 if5) Y Y (lD (OL.loadR1 (t:=(T.int .u8 x1)) (tv (T.rp [(T.int .u8 x1)]) Y) Y st5) Y Y (fD (OF.convI (tv (T.int .u8 x1) Y) (k0:= .u8) U5 U3) Y Y (fD (B.add (n:=(IntKind.i64.wrap ((QU .i64 (ZI .i64 (QJ .i64 (IntKind.i64.wrap (IntKind.i64.wrap (ch*6364136223846793005)+1442695040888963407)) 33) (QJ .i64 (IntKind.i64.wrap (IntKind.i64.wrap (ch*6364136223846793005)+1442695040888963407)) 47)) 255)+IntKind.i64.wrap x1))) (tv (tI (QU .i64 (ZI .i64 (QJ .i64 (IntKind.i64.wrap (IntKind.i64.wrap (ch*6364136223846793005)+1442695040888963407)) 33) (QJ .i64 (IntKind.i64.wrap (IntKind.i64.wrap (ch*6364136223846793005)+1442695040888963407)) 47)) 255)) Y) (tv (tI (IntKind.i64.wrap x1)) Y) (by first | rfl | (rw [Qm (by omega)];omega) | (rw [Qm (by omega)];done))) Y Y (fD (B.and (n:=(QU .i64 (IntKind.i64.wrap ((QU .i64 (ZI .i64 (QJ .i64 (IntKind.i64.wrap (IntKind.i64.wrap (ch*6364136223846793005)+1442695040888963407)) 33) (QJ .i64 (IntKind.i64.wrap (IntKind.i64.wrap (ch*6364136223846793005)+1442695040888963407)) 47)) 255)+IntKind.i64.wrap x1)) 255)) (tv (tI (IntKind.i64.wrap ((QU .i64 (ZI .i64 (QJ .i64 (IntKind.i64.wrap (IntKind.i64.wrap (ch*6364136223846793005)+1442695040888963407)) 33) (QJ .i64 (IntKind.i64.wrap (IntKind.i64.wrap (ch*6364136223846793005)+1442695040888963407)) 47)) 255)+IntKind.i64.wrap x1))) Y) (VEv.int .i64 255) Y) Y Y (fD (OF.assign (tv (tI (QU .i64 (IntKind.i64.wrap ((QU .i64 (ZI .i64 (QJ .i64 (IntKind.i64.wrap (IntKind.i64.wrap (ch*6364136223846793005)+1442695040888963407)) 33) (QJ .i64 (IntKind.i64.wrap (IntKind.i64.wrap (ch*6364136223846793005)+1442695040888963407)) 47)) 255)+IntKind.i64.wrap x1)) 255)) Y)) Y Y (VRunD.nil (tn (VRun.region (mO (T.op 0 0) Y (mO (T.op 0 0) Y (fO (OF.nilCheckO (tv (T.op 0 0) Y)) ?_)))))))))))
  refine lf (tN ci) Y Qbj Y Y st3 (fO (B.add (n:=((ci+1:Nat):Int)) (tv (tN ci) Y) (VEv.int .i64 1) (by first | rfl | (rw [Qm (by omega)];omega) | (rw [Qm (by omega)];done))) (fO (OF.nilCheckO (tv (T.op 0 0) Y)) (fO (OF.fieldAddrO (tv (T.op 0 0) Y) Qbj) (cO (B.storeO (us:= [(tN (ci+1))]) (ws:= [(T.ex pb nb mb (rd 1 Qf code)),(tN (ci+1)),(tI (IntKind.i64.wrap (IntKind.i64.wrap (ch*6364136223846793005)+1442695040888963407)))]) (tv (T.op 0 1) Y) (tv (tN (ci+1)) Y) nofun Y Y (lb Y) if3 sz3 (bc Y bn) Y) (VRunO.nil (tn (sr (mO (tI (QU .i64 (IntKind.i64.wrap ((QU .i64 (ZI .i64 (QJ .i64 (IntKind.i64.wrap (IntKind.i64.wrap (ch*6364136223846793005)+1442695040888963407)) 33) (QJ .i64 (IntKind.i64.wrap (IntKind.i64.wrap (ch*6364136223846793005)+1442695040888963407)) 47)) 255)+IntKind.i64.wrap x1)) 255)) Y (aO (tI (QU .i64 (IntKind.i64.wrap ((QU .i64 (ZI .i64 (QJ .i64 (IntKind.i64.wrap (IntKind.i64.wrap (ch*6364136223846793005)+1442695040888963407)) 33) (QJ .i64 (IntKind.i64.wrap (IntKind.i64.wrap (ch*6364136223846793005)+1442695040888963407)) 47)) 255)+IntKind.i64.wrap x1)) 255)) Y (nt (rt ?_)))))))))))
  refine vcur.r (QU .i64 (IntKind.i64.wrap ((QU .i64 (ZI .i64 (QJ .i64 (IntKind.i64.wrap (IntKind.i64.wrap (ch*6364136223846793005)+1442695040888963407)) 33) (QJ .i64 (IntKind.i64.wrap (IntKind.i64.wrap (ch*6364136223846793005)+1442695040888963407)) 47)) 255)+IntKind.i64.wrap x1)) 255) 0 (ci+1) (IntKind.i64.wrap (IntKind.i64.wrap (ch*6364136223846793005)+1442695040888963407)) ?_ (VRes.tmp (t:=(tI (QU .i64 (IntKind.i64.wrap ((QU .i64 (ZI .i64 (QJ .i64 (IntKind.i64.wrap (IntKind.i64.wrap (ch*6364136223846793005)+1442695040888963407)) 33) (QJ .i64 (IntKind.i64.wrap (IntKind.i64.wrap (ch*6364136223846793005)+1442695040888963407)) 47)) 255)+IntKind.i64.wrap x1)) 255))) Y VRes.nil) (Give.int _ _) Y Y (by omega) (by decide)
  show 0≤(QU .i64 (IntKind.i64.wrap ((QU .i64 (ZI .i64 (QJ .i64 (IntKind.i64.wrap (IntKind.i64.wrap (ch*6364136223846793005)+1442695040888963407)) 33) (QJ .i64 (IntKind.i64.wrap (IntKind.i64.wrap (ch*6364136223846793005)+1442695040888963407)) 47)) 255)+IntKind.i64.wrap x1)) 255)∧(QU .i64 (IntKind.i64.wrap ((QU .i64 (ZI .i64 (QJ .i64 (IntKind.i64.wrap (IntKind.i64.wrap (ch*6364136223846793005)+1442695040888963407)) 33) (QJ .i64 (IntKind.i64.wrap (IntKind.i64.wrap (ch*6364136223846793005)+1442695040888963407)) 47)) 255)+IntKind.i64.wrap x1)) 255)≤255
  exact QdU _
 refine sk (tn (sr (mO (tI (QU .i64 (ZI .i64 (QJ .i64 (IntKind.i64.wrap (IntKind.i64.wrap (ch*6364136223846793005)+1442695040888963407)) 33) (QJ .i64 (IntKind.i64.wrap (IntKind.i64.wrap (ch*6364136223846793005)+1442695040888963407)) 47)) 255)) Y (aO (tI (QU .i64 (ZI .i64 (QJ .i64 (IntKind.i64.wrap (IntKind.i64.wrap (ch*6364136223846793005)+1442695040888963407)) 33) (QJ .i64 (IntKind.i64.wrap (IntKind.i64.wrap (ch*6364136223846793005)+1442695040888963407)) 47)) 255)) Y (nt (rt ?_))))))
 refine vcur.r (QU .i64 (ZI .i64 (QJ .i64 (IntKind.i64.wrap (IntKind.i64.wrap (ch*6364136223846793005)+1442695040888963407)) 33) (QJ .i64 (IntKind.i64.wrap (IntKind.i64.wrap (ch*6364136223846793005)+1442695040888963407)) 47)) 255) 0 ci (IntKind.i64.wrap (IntKind.i64.wrap (ch*6364136223846793005)+1442695040888963407)) ?_ (VRes.tmp (t:=(tI (QU .i64 (ZI .i64 (QJ .i64 (IntKind.i64.wrap (IntKind.i64.wrap (ch*6364136223846793005)+1442695040888963407)) 33) (QJ .i64 (IntKind.i64.wrap (IntKind.i64.wrap (ch*6364136223846793005)+1442695040888963407)) 47)) 255))) Y VRes.nil) (Give.int _ _) Y Y (by omega) (by decide)
 show 0≤(QU .i64 (ZI .i64 (QJ .i64 (IntKind.i64.wrap (IntKind.i64.wrap (ch*6364136223846793005)+1442695040888963407)) 33) (QJ .i64 (IntKind.i64.wrap (IntKind.i64.wrap (ch*6364136223846793005)+1442695040888963407)) 47)) 255)∧(QU .i64 (ZI .i64 (QJ .i64 (IntKind.i64.wrap (IntKind.i64.wrap (ch*6364136223846793005)+1442695040888963407)) 33) (QJ .i64 (IntKind.i64.wrap (IntKind.i64.wrap (ch*6364136223846793005)+1442695040888963407)) 47)) 255)≤255
 exact QdU _
theorem QG (n:Nat) (code:List Int) (k:Int) (hcl:code.length≤mx):CurE (Qo Try.prog (n+2)) 27 (rd 1 Qf code) code.length [(tI k)] (fun x:Int=>(k≤0→x=0)∧(0<k→0≤x∧x<k)) (fun x:Int=>(tI x)):=by
 refine CurE.intro (rs:= [ResultVar.tmp 4]) Try.func27 Y Y Y (by kernel_rfl) (fun pb nb mb ci ch hci=> ?_)
 obtain ⟨hlim,hmx,hmax⟩:=QW
 show VRun _ _ _ [(0,(T.op 0 0)),(1,(tI k))] [(0,some (Obj.cells [(T.ex pb nb mb (rd 1 Qf code)),(tN ci),(tI ch)]))] 1 _
 refine sr (fO (OF.assign (VEv.int .i64 0)) (nt (sq (sr (mO (tI k) Y (fO (xle (tv (tI k) Y) (VEv.int .i64 0)) (nt ?_)))))))
 refine cd (k≤0) Y (fun fhc0=> ?_) fun fhc0=> ?_
 ·refine sr ?_
  refine fO (OF.assign (VEv.int .i64 0)) (nt (rt (tr ?_)))
  refine vcur.r 0 0 ci ch ?_ (VRes.tmp (t:=(tN 0)) Y VRes.nil) (Give.int _ _) Y Y (by omega) (by decide)
  show (k≤0→0=0)∧(0<k→0≤0∧0<k)
  first | (exact ⟨fun _=>rfl,fun h=>by omega⟩) | (exact ⟨fun h=>by omega,fun h=>Qbd (by omega) h⟩)
 refine sk (tn (sq (sr (mO (tI k) Y (fO (xle (tv (tI k) Y) (VEv.int .i64 256)) (nt ?_))))))
 refine cd (k≤256) Y (fun fhc1=> ?_) fun fhc1=> ?_
 ·refine sr ?_
  refine mO (T.op 0 0) Y ?_
  refine eC (us:= []) (r':=fun x_:Int=>(tI x_)) (objs:=fun x_:Int=> []) (m:=0) (k:=0) ci ch VWant.always (vc (tv (T.op 0 0) Y) vn) Y (by omega) ln (ZB (n+0) code (by first | assumption | omega | (simp only [List.length_cons,List.length_nil];omega))) Y (fun _=>rfl) (fun _=>rfl) fun e13 i13 h13 hs13 hi13=> ?_
  have hs13:0≤e13∧e13≤255:=hs13
  refine mO (tI k) Y (fO (B.rem (n:=(e13.tmod k)) (tv (tI e13) Y) (tv (tI k) Y) (by omega) (by first | rfl | (rw [Qm (by omega)];omega) | (rw [Qm (by omega)];done))) (aO (tI (e13.tmod k)) Y (nt (rt (tr ?_)))))
  refine vcur.r (e13.tmod k) 0 i13 h13 ?_ (VRes.tmp (t:=(tI (e13.tmod k))) Y VRes.nil) (Give.int _ _) Y Y (by omega) (by decide)
  show (k≤0→(e13.tmod k)=0)∧(0<k→0≤(e13.tmod k)∧(e13.tmod k)<k)
  first | (exact ⟨fun _=>rfl,fun h=>by omega⟩) | (exact ⟨fun h=>by omega,fun h=>Qbd (by omega) h⟩)
 refine sk (tn (sr (mO (T.op 0 0) Y ?_)))
 refine eC (us:= []) (r':=fun x_:Int=>(tI x_)) (objs:=fun x_:Int=> []) (m:=0) (k:=0) ci ch VWant.always (vc (tv (T.op 0 0) Y) vn) Y (by omega) ln (ZB (n+0) code (by first | assumption | omega | (simp only [List.length_cons,List.length_nil];omega))) Y (fun _=>rfl) (fun _=>rfl) fun e17 i17 h17 hs17 hi17=> ?_
 have hs17:0≤e17∧e17≤255:=hs17
 refine aO (tI e17) Y (nt (sr (mO (T.op 0 0) Y ?_)))
 refine eC (us:= []) (r':=fun x_:Int=>(tI x_)) (objs:=fun x_:Int=> []) (m:=0) (k:=0) i17 h17 VWant.always (vc (tv (T.op 0 0) Y) vn) Y (by omega) ln (ZB (n+0) code (by first | assumption | omega | (simp only [List.length_cons,List.length_nil];omega))) Y (fun _=>rfl) (fun _=>rfl) fun e19 i19 h19 hs19 hi19=> ?_
 have hs19:0≤e19∧e19≤255:=hs19
 refine aO (tI e19) Y (nt (sr (mO (T.op 0 0) Y ?_)))
 refine eC (us:= []) (r':=fun x_:Int=>(tI x_)) (objs:=fun x_:Int=> []) (m:=0) (k:=0) i19 h19 VWant.always (vc (tv (T.op 0 0) Y) vn) Y (by omega) ln (ZB (n+0) code (by first | assumption | omega | (simp only [List.length_cons,List.length_nil];omega))) Y (fun _=>rfl) (fun _=>rfl) fun e21 i21 h21 hs21 hi21=> ?_
 have hs21:0≤e21∧e21≤255:=hs21
 refine aO (tI e21) Y (nt (sr (mO (tI e17) Y (fO (B.mul (n:=(e17*65536)) (tv (tI e17) Y) (VEv.int .i64 65536) (by first | rfl | (rw [Qm (by omega)];omega) | (rw [Qm (by omega)];done))) (mO (tI e19) Y (fO (B.mul (n:=(e19*256)) (tv (tI e19) Y) (VEv.int .i64 256) (by first | rfl | (rw [Qm (by omega)];omega) | (rw [Qm (by omega)];done))) (fO (B.add (n:=((e17*65536)+(e19*256))) (tv (tI (e17*65536)) Y) (tv (tI (e19*256)) Y) (by first | rfl | (rw [Qm (by omega)];omega) | (rw [Qm (by omega)];done))) (mO (tI e21) Y (fO (B.add (n:=(((e17*65536)+(e19*256))+e21)) (tv (tI ((e17*65536)+(e19*256))) Y) (tv (tI e21) Y) (by first | rfl | (rw [Qm (by omega)];omega) | (rw [Qm (by omega)];done))) (mO (tI k) Y (fO (B.rem (n:=((((e17*65536)+(e19*256))+e21).tmod k)) (tv (tI (((e17*65536)+(e19*256))+e21)) Y) (tv (tI k) Y) (by omega) (by first | rfl | (rw [Qm (by omega)];omega) | (rw [Qm (by omega)];done))) ?_)))))))))))
 refine aO (tI ((((e17*65536)+(e19*256))+e21).tmod k)) Y (nt (rt ?_))
 refine vcur.r ((((e17*65536)+(e19*256))+e21).tmod k) 0 i21 h21 ?_ (VRes.tmp (t:=(tI ((((e17*65536)+(e19*256))+e21).tmod k))) Y VRes.nil) (Give.int _ _) Y Y (by omega) (by decide)
 show (k≤0→((((e17*65536)+(e19*256))+e21).tmod k)=0)∧(0<k→0≤((((e17*65536)+(e19*256))+e21).tmod k)∧((((e17*65536)+(e19*256))+e21).tmod k)<k)
 first | (exact ⟨fun _=>rfl,fun h=>by omega⟩) | (exact ⟨fun h=>by omega,fun h=>Qbd (by omega) h⟩)
theorem QaR (n:Nat) (code:List Int) (k:Int) (hcl:code.length≤mx):CurE (Qo Try.prog (n+3)) 35 (rd 1 Qf code) code.length [(tI k)] (fun x:Bool=>True) (fun x:Bool=>(tB x)):=by
 refine CurE.intro (rs:= [ResultVar.tmp 4]) Try.func35 Y Y Y (by kernel_rfl) (fun pb nb mb ci ch hci=> ?_)
 obtain ⟨hlim,hmx,hmax⟩:=QW
 show VRun _ _ _ [(0,(T.op 0 0)),(1,(tI k))] [(0,some (Obj.cells [(T.ex pb nb mb (rd 1 Qf code)),(tN ci),(tI ch)]))] 1 _
 refine sr (fO (OF.assign (VEv.bool false)) (nt (sr (mO (T.op 0 0) Y (mO (tI k) Y ?_)))))
 refine eC (us:= [(tI k)]) (r':=fun x_:Int=>(tI x_)) (objs:=fun x_:Int=> []) (m:=0) (k:=0) ci ch VWant.always (vc (tv (T.op 0 0) Y) (vc (tv (tI k) Y) vn)) Y (by omega) (YC Y) (QG (n+0) code k (by first | assumption | omega | (simp only [List.length_cons,List.length_nil];omega))) Y (fun _=>rfl) (fun _=>rfl) fun e7 i7 h7 hs7 hi7=> ?_
 have hs7:(k≤0→e7=0)∧(0<k→0≤e7∧e7<k):=hs7
 refine fO (xeq (tv (tI e7) Y) (VEv.int .i64 0)) (aO (tB (decide (e7=0))) Y (nt (rt ?_)))
 refine vcur.r (decide (e7=0)) 0 i7 h7 ?_ (VRes.tmp (t:=(tB (decide (e7=0)))) Y VRes.nil) (Give.bool _) Y Y (by omega) (by decide)
 show True
 first | trivial | omega | assumption | (constructor<;>omega)
theorem ZP (n:Nat) (code:List Int) (l:List Int) (hcl:code.length≤mx) (hl:0<l.length) (hl2:l.length≤mx):CurE (Qo Try.prog (n+3)) 21 (rd 1 Qf code) code.length [(rd 1 Qay l)] (fun x:Int=>x∈l) (fun x:Int=>(tI x)):=by
 refine CurE.intro (rs:= [ResultVar.tmp 4]) Try.func21 Y Y Y (by kernel_rfl) (fun pb nb mb ci ch hci=> ?_)
 obtain ⟨hlim,hmx,hmax⟩:=QW
 show VRun _ _ _ [(0,(T.op 0 0)),(1,(rd 1 Qay l))] [(0,some (Obj.cells [(T.ex pb nb mb (rd 1 Qf code)),(tN ci),(tI ch)]))] 1 _
 refine sr (fO (OF.assign (VEv.int .i64 0)) (nt (sr (mO (rd 1 Qay l) Y (mO (T.op 0 0) Y (mO (rd 1 Qay l) Y (lO (B.lenR (m:=l.length) (tv (rd 1 Qay l) Y) U49 (List.length_map ..)) ?_)))))))
 refine eC (us:= [(tN l.length)]) (r':=fun x_:Int=>(tI x_)) (objs:=fun x_:Int=> []) (m:=0) (k:=0) ci ch VWant.always (vc (tv (T.op 0 0) Y) (vc (tv (tN l.length) Y) vn)) Y (by omega) (YC Y) (QG (n+0) code ((l.length:Nat):Int) (by first | assumption | omega | (simp only [List.length_cons,List.length_nil];omega))) Y (fun _=>rfl) (fun _=>rfl) fun e9 i9 h9 hs9 hi9=> ?_
 have hs9:(((l.length:Nat):Int)≤0→e9=0)∧(0<((l.length:Nat):Int)→0≤e9∧e9<((l.length:Nat):Int)):=hs9
 obtain ⟨x1,hx1⟩:∃x,l[(Int.toNat e9)]? =some x:=⟨_,List.getElem?_eq_getElem (by omega)⟩
 refine fO (OF.indexAddrR (row:=(Qay false x1)) (i:=(Int.toNat e9)) (tv (rd 1 Qay l) Y) (tv (tI e9) Y) (by omega) (QE _ hx1) U49 sz3 if3) (lO (OL.loadR1 (t:=(tI x1)) (tv (T.rp [(tI x1)]) Y) Y st3) (aO (tI x1) Y (nt (rt ?_))))
 refine vcur.r x1 0 i9 h9 ?_ (VRes.tmp (t:=(tI x1)) Y VRes.nil) (Give.int _ _) Y Y (by omega) (by decide)
 show x1∈l
 exact List.mem_of_getElem? hx1
theorem Jw (n:Nat) (code:List Int) (l:List ByteArray) (hcl:code.length≤mx) (hl:0<l.length) (hl2:l.length≤mx):CurE (Qo Try.prog (n+3)) 38 (rd 1 Qf code) code.length [(rd 1 Qd l)] (fun x:ByteArray=>x∈l) (fun x:ByteArray=>(tS x)):=by
 refine CurE.intro (rs:= [ResultVar.tmp 4]) Try.func38 Y Y Y (by kernel_rfl) (fun pb nb mb ci ch hci=> ?_)
 obtain ⟨hlim,hmx,hmax⟩:=QW
 show VRun _ _ _ [(0,(T.op 0 0)),(1,(rd 1 Qd l))] [(0,some (Obj.cells [(T.ex pb nb mb (rd 1 Qf code)),(tN ci),(tI ch)]))] 1 _
 refine sr (fO (OF.assign (VEv.str (⟨#[]⟩:ByteArray))) (nt (sr (mO (rd 1 Qd l) Y (mO (T.op 0 0) Y (mO (rd 1 Qd l) Y (lO (B.lenR (m:=l.length) (tv (rd 1 Qd l) Y) Jm (List.length_map ..)) ?_)))))))
 refine eC (us:= [(tN l.length)]) (r':=fun x_:Int=>(tI x_)) (objs:=fun x_:Int=> []) (m:=0) (k:=0) ci ch VWant.always (vc (tv (T.op 0 0) Y) (vc (tv (tN l.length) Y) vn)) Y (by omega) (YC Y) (QG (n+0) code ((l.length:Nat):Int) (by first | assumption | omega | (simp only [List.length_cons,List.length_nil];omega))) Y (fun _=>rfl) (fun _=>rfl) fun e9 i9 h9 hs9 hi9=> ?_
 have hs9:(((l.length:Nat):Int)≤0→e9=0)∧(0<((l.length:Nat):Int)→0≤e9∧e9<((l.length:Nat):Int)):=hs9
 obtain ⟨x1,hx1⟩:∃x,l[(Int.toNat e9)]? =some x:=⟨_,List.getElem?_eq_getElem (by omega)⟩
 refine fO (OF.indexAddrR (row:=(Qd false x1)) (i:=(Int.toNat e9)) (tv (rd 1 Qd l) Y) (tv (tI e9) Y) (by omega) (QE _ hx1) Jm JH if9) (lO (OL.loadR1 (t:=(tS x1)) (tv (T.rp [(tS x1)]) Y) Y st9) (aO (tS x1) Y (nt (rt ?_))))
 refine vcur.r x1 0 i9 h9 ?_ (VRes.tmp (t:=(tS x1)) Y VRes.nil) (Give.str _) Y Y (by omega) (by decide)
 show x1∈l
 exact List.mem_of_getElem? hx1
theorem QaB (n:Nat):PureE (Qo Try.prog (n+1)) 41 [] (fun x:List ByteArray=>x.length=35∧∀y∈x,y.size≤9) (fun x:List ByteArray=>(T.sl true 1 (x.map (Qd true)))):=by
 refine PureE.intro (rs:= [ResultVar.tmp 0]) Try.func41 Y Y Y (E0:= []) Y ?_
 obtain ⟨hlim,hmx,hmax⟩:=QW
 refine sr (fO (OF.assign VEv.nils) (nt (sr (kO (OM.buildSlice (l:= [(tS (⟨#[99,97,116]⟩:ByteArray)),(tS (⟨#[97,99,116]⟩:ByteArray)),(tS (⟨#[116,97,99]⟩:ByteArray)),(tS (⟨#[97,114,99]⟩:ByteArray)),(tS (⟨#[99,97,114]⟩:ByteArray)),(tS (⟨#[101,114,97]⟩:ByteArray)),(tS (⟨#[97,114,101]⟩:ByteArray)),(tS (⟨#[101,97,114]⟩:ByteArray)),(tS (⟨#[97,116,101]⟩:ByteArray)),(tS (⟨#[116,101,97]⟩:ByteArray)),(tS (⟨#[101,97,116]⟩:ByteArray)),(tS (⟨#[115,101,97]⟩:ByteArray)),(tS (⟨#[116,97,114]⟩:ByteArray)),(tS (⟨#[114,97,116]⟩:ByteArray)),(tS (⟨#[97,114,116]⟩:ByteArray)),(tS (⟨#[97,110,116]⟩:ByteArray)),(tS (⟨#[116,97,110]⟩:ByteArray)),(tS (⟨#[110,101,116]⟩:ByteArray)),(tS (⟨#[116,101,110]⟩:ByteArray)),(tS (⟨#[114,101,115,116]⟩:ByteArray)),(tS (⟨#[116,114,101,101]⟩:ByteArray)),(tS (⟨#[115,116,97,114]⟩:ByteArray)),(tS (⟨#[114,97,116,115]⟩:ByteArray)),(tS (⟨#[97,114,116,115]⟩:ByteArray)),(tS (⟨#[101,97,115,116]⟩:ByteArray)),(tS (⟨#[115,101,97,116]⟩:ByteArray)),(tS (⟨#[116,101,97,115]⟩:ByteArray)),(tS (⟨#[110,101,116,115]⟩:ByteArray)),(tS (⟨#[116,101,110,115]⟩:ByteArray)),(tS (⟨#[115,101,110,116]⟩:ByteArray)),(tS (⟨#[116,114,97,99,101]⟩:ByteArray)),(tS (⟨#[114,101,97,99,116]⟩:ByteArray)),(tS (⟨#[99,114,97,116,101]⟩:ByteArray)),(tS (⟨#[115,116,97,114,101]⟩:ByteArray)),(tS (⟨#[116,101,97,114,115]⟩:ByteArray))]) (VEvp.cons (VEv.str (⟨#[99,97,116]⟩:ByteArray)) (VEvp.cons (VEv.str (⟨#[97,99,116]⟩:ByteArray)) (VEvp.cons (VEv.str (⟨#[116,97,99]⟩:ByteArray)) (VEvp.cons (VEv.str (⟨#[97,114,99]⟩:ByteArray)) (VEvp.cons (VEv.str (⟨#[99,97,114]⟩:ByteArray)) (VEvp.cons (VEv.str (⟨#[101,114,97]⟩:ByteArray)) (VEvp.cons (VEv.str (⟨#[97,114,101]⟩:ByteArray)) (VEvp.cons (VEv.str (⟨#[101,97,114]⟩:ByteArray)) (VEvp.cons (VEv.str (⟨#[97,116,101]⟩:ByteArray)) (VEvp.cons (VEv.str (⟨#[116,101,97]⟩:ByteArray)) (VEvp.cons (VEv.str (⟨#[101,97,116]⟩:ByteArray)) (VEvp.cons (VEv.str (⟨#[115,101,97]⟩:ByteArray)) (VEvp.cons (VEv.str (⟨#[116,97,114]⟩:ByteArray)) (VEvp.cons (VEv.str (⟨#[114,97,116]⟩:ByteArray)) (VEvp.cons (VEv.str (⟨#[97,114,116]⟩:ByteArray)) (VEvp.cons (VEv.str (⟨#[97,110,116]⟩:ByteArray)) (VEvp.cons (VEv.str (⟨#[116,97,110]⟩:ByteArray)) (VEvp.cons (VEv.str (⟨#[110,101,116]⟩:ByteArray)) (VEvp.cons (VEv.str (⟨#[116,101,110]⟩:ByteArray)) (VEvp.cons (VEv.str (⟨#[114,101,115,116]⟩:ByteArray)) (VEvp.cons (VEv.str (⟨#[116,114,101,101]⟩:ByteArray)) (VEvp.cons (VEv.str (⟨#[115,116,97,114]⟩:ByteArray)) (VEvp.cons (VEv.str (⟨#[114,97,116,115]⟩:ByteArray)) (VEvp.cons (VEv.str (⟨#[97,114,116,115]⟩:ByteArray)) (VEvp.cons (VEv.str (⟨#[101,97,115,116]⟩:ByteArray)) (VEvp.cons (VEv.str (⟨#[115,101,97,116]⟩:ByteArray)) (VEvp.cons (VEv.str (⟨#[116,101,97,115]⟩:ByteArray)) (VEvp.cons (VEv.str (⟨#[110,101,116,115]⟩:ByteArray)) (VEvp.cons (VEv.str (⟨#[116,101,110,115]⟩:ByteArray)) (VEvp.cons (VEv.str (⟨#[115,101,110,116]⟩:ByteArray)) (VEvp.cons (VEv.str (⟨#[116,114,97,99,101]⟩:ByteArray)) (VEvp.cons (VEv.str (⟨#[114,101,97,99,116]⟩:ByteArray)) (VEvp.cons (VEv.str (⟨#[99,114,97,116,101]⟩:ByteArray)) (VEvp.cons (VEv.str (⟨#[115,116,97,114,101]⟩:ByteArray)) (VEvp.cons (VEv.str (⟨#[116,101,97,114,115]⟩:ByteArray)) VEvp.nil))))))))))))))))))))))))))))))))))) Y (by decide) (bc (nofun) (bc (nofun) (bc (nofun) (bc (nofun) (bc (nofun) (bc (nofun) (bc (nofun) (bc (nofun) (bc (nofun) (bc (nofun) (bc (nofun) (bc (nofun) (bc (nofun) (bc (nofun) (bc (nofun) (bc (nofun) (bc (nofun) (bc (nofun) (bc (nofun) (bc (nofun) (bc (nofun) (bc (nofun) (bc (nofun) (bc (nofun) (bc (nofun) (bc (nofun) (bc (nofun) (bc (nofun) (bc (nofun) (bc (nofun) (bc (nofun) (bc (nofun) (bc (nofun) (bc (nofun) (bc (nofun) bn))))))))))))))))))))))))))))))))))) (bc ((bc (Y) bn)) (bc ((bc (Y) bn)) (bc ((bc (Y) bn)) (bc ((bc (Y) bn)) (bc ((bc (Y) bn)) (bc ((bc (Y) bn)) (bc ((bc (Y) bn)) (bc ((bc (Y) bn)) (bc ((bc (Y) bn)) (bc ((bc (Y) bn)) (bc ((bc (Y) bn)) (bc ((bc (Y) bn)) (bc ((bc (Y) bn)) (bc ((bc (Y) bn)) (bc ((bc (Y) bn)) (bc ((bc (Y) bn)) (bc ((bc (Y) bn)) (bc ((bc (Y) bn)) (bc ((bc (Y) bn)) (bc ((bc (Y) bn)) (bc ((bc (Y) bn)) (bc ((bc (Y) bn)) (bc ((bc (Y) bn)) (bc ((bc (Y) bn)) (bc ((bc (Y) bn)) (bc ((bc (Y) bn)) (bc ((bc (Y) bn)) (bc ((bc (Y) bn)) (bc ((bc (Y) bn)) (bc ((bc (Y) bn)) (bc ((bc (Y) bn)) (bc ((bc (Y) bn)) (bc ((bc (Y) bn)) (bc ((bc (Y) bn)) (bc ((bc (Y) bn)) bn))))))))))))))))))))))))))))))))))) (bc (Y) (bc (Y) (bc (Y) (bc (Y) (bc (Y) (bc (Y) (bc (Y) (bc (Y) (bc (Y) (bc (Y) (bc (Y) (bc (Y) (bc (Y) (bc (Y) (bc (Y) (bc (Y) (bc (Y) (bc (Y) (bc (Y) (bc (Y) (bc (Y) (bc (Y) (bc (Y) (bc (Y) (bc (Y) (bc (Y) (bc (Y) (bc (Y) (bc (Y) (bc (Y) (bc (Y) (bc (Y) (bc (Y) (bc (Y) (bc (Y) bn))))))))))))))))))))))))))))))))))) Jm zo9 (by kernel_rfl) Y (by rw [JH];decide) JH (Nat.le_of_ble_eq_true Y)) ?_))))
 refine aO (T.os 1 0 0 35) Y (nt (rt ?_))
 refine vfinE.r [(⟨#[99,97,116]⟩:ByteArray),(⟨#[97,99,116]⟩:ByteArray),(⟨#[116,97,99]⟩:ByteArray),(⟨#[97,114,99]⟩:ByteArray),(⟨#[99,97,114]⟩:ByteArray),(⟨#[101,114,97]⟩:ByteArray),(⟨#[97,114,101]⟩:ByteArray),(⟨#[101,97,114]⟩:ByteArray),(⟨#[97,116,101]⟩:ByteArray),(⟨#[116,101,97]⟩:ByteArray),(⟨#[101,97,116]⟩:ByteArray),(⟨#[115,101,97]⟩:ByteArray),(⟨#[116,97,114]⟩:ByteArray),(⟨#[114,97,116]⟩:ByteArray),(⟨#[97,114,116]⟩:ByteArray),(⟨#[97,110,116]⟩:ByteArray),(⟨#[116,97,110]⟩:ByteArray),(⟨#[110,101,116]⟩:ByteArray),(⟨#[116,101,110]⟩:ByteArray),(⟨#[114,101,115,116]⟩:ByteArray),(⟨#[116,114,101,101]⟩:ByteArray),(⟨#[115,116,97,114]⟩:ByteArray),(⟨#[114,97,116,115]⟩:ByteArray),(⟨#[97,114,116,115]⟩:ByteArray),(⟨#[101,97,115,116]⟩:ByteArray),(⟨#[115,101,97,116]⟩:ByteArray),(⟨#[116,101,97,115]⟩:ByteArray),(⟨#[110,101,116,115]⟩:ByteArray),(⟨#[116,101,110,115]⟩:ByteArray),(⟨#[115,101,110,116]⟩:ByteArray),(⟨#[116,114,97,99,101]⟩:ByteArray),(⟨#[114,101,97,99,116]⟩:ByteArray),(⟨#[99,114,97,116,101]⟩:ByteArray),(⟨#[115,116,97,114,101]⟩:ByteArray),(⟨#[116,101,97,114,115]⟩:ByteArray)] ?_ (vfin.r (VRes.tmp (t:=(T.os 1 0 0 35)) Y VRes.nil) (Give.os Y Y (bc (bc (.str _) bn) (bc (bc (.str _) bn) (bc (bc (.str _) bn) (bc (bc (.str _) bn) (bc (bc (.str _) bn) (bc (bc (.str _) bn) (bc (bc (.str _) bn) (bc (bc (.str _) bn) (bc (bc (.str _) bn) (bc (bc (.str _) bn) (bc (bc (.str _) bn) (bc (bc (.str _) bn) (bc (bc (.str _) bn) (bc (bc (.str _) bn) (bc (bc (.str _) bn) (bc (bc (.str _) bn) (bc (bc (.str _) bn) (bc (bc (.str _) bn) (bc (bc (.str _) bn) (bc (bc (.str _) bn) (bc (bc (.str _) bn) (bc (bc (.str _) bn) (bc (bc (.str _) bn) (bc (bc (.str _) bn) (bc (bc (.str _) bn) (bc (bc (.str _) bn) (bc (bc (.str _) bn) (bc (bc (.str _) bn) (bc (bc (.str _) bn) (bc (bc (.str _) bn) (bc (bc (.str _) bn) (bc (bc (.str _) bn) (bc (bc (.str _) bn) (bc (bc (.str _) bn) (bc (bc (.str _) bn) bn)))))))))))))))))))))))))))))))))))))
 show [(⟨#[99,97,116]⟩:ByteArray),(⟨#[97,99,116]⟩:ByteArray),(⟨#[116,97,99]⟩:ByteArray),(⟨#[97,114,99]⟩:ByteArray),(⟨#[99,97,114]⟩:ByteArray),(⟨#[101,114,97]⟩:ByteArray),(⟨#[97,114,101]⟩:ByteArray),(⟨#[101,97,114]⟩:ByteArray),(⟨#[97,116,101]⟩:ByteArray),(⟨#[116,101,97]⟩:ByteArray),(⟨#[101,97,116]⟩:ByteArray),(⟨#[115,101,97]⟩:ByteArray),(⟨#[116,97,114]⟩:ByteArray),(⟨#[114,97,116]⟩:ByteArray),(⟨#[97,114,116]⟩:ByteArray),(⟨#[97,110,116]⟩:ByteArray),(⟨#[116,97,110]⟩:ByteArray),(⟨#[110,101,116]⟩:ByteArray),(⟨#[116,101,110]⟩:ByteArray),(⟨#[114,101,115,116]⟩:ByteArray),(⟨#[116,114,101,101]⟩:ByteArray),(⟨#[115,116,97,114]⟩:ByteArray),(⟨#[114,97,116,115]⟩:ByteArray),(⟨#[97,114,116,115]⟩:ByteArray),(⟨#[101,97,115,116]⟩:ByteArray),(⟨#[115,101,97,116]⟩:ByteArray),(⟨#[116,101,97,115]⟩:ByteArray),(⟨#[110,101,116,115]⟩:ByteArray),(⟨#[116,101,110,115]⟩:ByteArray),(⟨#[115,101,110,116]⟩:ByteArray),(⟨#[116,114,97,99,101]⟩:ByteArray),(⟨#[114,101,97,99,116]⟩:ByteArray),(⟨#[99,114,97,116,101]⟩:ByteArray),(⟨#[115,116,97,114,101]⟩:ByteArray),(⟨#[116,101,97,114,115]⟩:ByteArray)].length=35∧∀y∈ [(⟨#[99,97,116]⟩:ByteArray),(⟨#[97,99,116]⟩:ByteArray),(⟨#[116,97,99]⟩:ByteArray),(⟨#[97,114,99]⟩:ByteArray),(⟨#[99,97,114]⟩:ByteArray),(⟨#[101,114,97]⟩:ByteArray),(⟨#[97,114,101]⟩:ByteArray),(⟨#[101,97,114]⟩:ByteArray),(⟨#[97,116,101]⟩:ByteArray),(⟨#[116,101,97]⟩:ByteArray),(⟨#[101,97,116]⟩:ByteArray),(⟨#[115,101,97]⟩:ByteArray),(⟨#[116,97,114]⟩:ByteArray),(⟨#[114,97,116]⟩:ByteArray),(⟨#[97,114,116]⟩:ByteArray),(⟨#[97,110,116]⟩:ByteArray),(⟨#[116,97,110]⟩:ByteArray),(⟨#[110,101,116]⟩:ByteArray),(⟨#[116,101,110]⟩:ByteArray),(⟨#[114,101,115,116]⟩:ByteArray),(⟨#[116,114,101,101]⟩:ByteArray),(⟨#[115,116,97,114]⟩:ByteArray),(⟨#[114,97,116,115]⟩:ByteArray),(⟨#[97,114,116,115]⟩:ByteArray),(⟨#[101,97,115,116]⟩:ByteArray),(⟨#[115,101,97,116]⟩:ByteArray),(⟨#[116,101,97,115]⟩:ByteArray),(⟨#[110,101,116,115]⟩:ByteArray),(⟨#[116,101,110,115]⟩:ByteArray),(⟨#[115,101,110,116]⟩:ByteArray),(⟨#[116,114,97,99,101]⟩:ByteArray),(⟨#[114,101,97,99,116]⟩:ByteArray),(⟨#[99,114,97,116,101]⟩:ByteArray),(⟨#[115,116,97,114,101]⟩:ByteArray),(⟨#[116,101,97,114,115]⟩:ByteArray)],y.size≤9
 exact ⟨rfl,by decide⟩
theorem Ye (n:Nat) (code:List Int) (hcl:code.length≤mx):CurE (Qo Try.prog (n+4)) 37 (rd 1 Qf code) code.length [] (fun x:ByteArray=>x.size≤9) (fun x:ByteArray=>(tS x)):=by
 refine CurE.intro (rs:= [ResultVar.tmp 2]) Try.func37 Y Y Y (by kernel_rfl) (fun pb nb mb ci ch hci=> ?_)
 obtain ⟨hlim,hmx,hmax⟩:=QW
 show VRun _ _ _ [(0,(T.op 0 0))] [(0,some (Obj.cells [(T.ex pb nb mb (rd 1 Qf code)),(tN ci),(tI ch)]))] 1 _
 refine sr (fO (OF.assign (VEv.str (⟨#[]⟩:ByteArray))) (nt (sr (mO (T.op 0 0) Y ?_))))
 refine eP (us:= []) (r':=fun x_:List ByteArray=>(T.os 1 1 0 ((x_.map (Qd true)).length))) (objs:=fun x_:List ByteArray=> [(Obj.rows 1 (x_.map (Qd true)))]) (m:=1) VWant.always vn ln (QaB (n+2)) Y (fun _=>rfl) (fun _=>rfl) fun e4 hs4=> ?_
 have hs4:e4.length=35∧∀y∈e4,y.size≤9:=hs4
 refine eC (us:= [(rd 1 Qd e4)]) (r':=fun x_:ByteArray=>(tS x_)) (objs:=fun x_:ByteArray=> []) (m:=0) (k:=0) ci ch VWant.always (vc (tv (T.op 0 0) Y) (vc (tv (T.os 1 1 0 ((e4.map (Qd true)).length)) Y) vn)) Y (by omega) (LendL.cons (Lend.os Y Y (okStr.fzMap _ _)) ln) (Jw (n+0) code e4 (by first | assumption | omega | (simp only [List.length_cons,List.length_nil];omega)) (by first | assumption | omega | (simp only [List.length_cons,List.length_nil];omega)) (by first | assumption | omega | (simp only [List.length_cons,List.length_nil];omega))) Y (fun _=>rfl) (fun _=>rfl) fun e5 i5 h5 hs5 hi5=> ?_
 have hs5:e5∈e4:=hs5
 refine aO (tS e5) Y (nt (rt ?_))
 refine vcur.r e5 0 i5 h5 ?_ (VRes.tmp (t:=(tS e5)) Y VRes.nil) (Give.str _) Y Y (by omega) (by decide)
 show e5.size≤9
 exact hs4.2 _ hs5
theorem ZM (n:Nat) (code:List Int) (hcl:code.length≤mx):CurE (Qo Try.prog (n+5)) 28 (rd 1 Qf code) code.length [] (fun x:ByteArray=>x.size≤10) (fun x:ByteArray=>(tS x)):=by
 refine CurE.intro (rs:= [ResultVar.tmp 2]) Try.func28 Y Y Y (by kernel_rfl) (fun pb nb mb ci ch hci=> ?_)
 obtain ⟨hlim,hmx,hmax⟩:=QW
 show VRun _ _ _ [(0,(T.op 0 0))] [(0,some (Obj.cells [(T.ex pb nb mb (rd 1 Qf code)),(tN ci),(tI ch)]))] 1 _
 refine sr (fO (OF.assign (VEv.str (⟨#[]⟩:ByteArray))) (nt (sr (mO (T.op 0 0) Y ?_))))
 refine eC (us:= []) (r':=fun x_:ByteArray=>(tS x_)) (objs:=fun x_:ByteArray=> []) (m:=0) (k:=0) ci ch VWant.always (vc (tv (T.op 0 0) Y) vn) Y (by omega) ln (Ye (n+0) code (by first | (have hq1:(ByteArray.mk #[63]).size=1:=rfl;omega) | assumption | omega | (simp only [List.length_cons,List.length_nil];omega))) Y (fun _=>rfl) (fun _=>rfl) fun e5 i5 h5 hs5 hi5=> ?_
 have hs5:e5.size≤9:=hs5
 refine aO (tS e5) Y (nt (sr (mO (T.op 0 0) Y (mO (tS e5) Y (mO (tS e5) Y (mO (tS e5) Y (mO (tS e5) Y (mO (tS e5) Y (mO (tS e5) Y (fO (B.sadd (tv (tS e5) Y) (VEv.str (⟨#[63]⟩:ByteArray)) (by first | (have hq1:(ByteArray.mk #[63]).size=1:=rfl;omega) | omega | (simp only [List.length_map];omega) | (simp only [List.length_map,List.length_append,List.length_cons,List.length_nil,List.length_replicate,List.length_set,List.length_drop,List.length_take,ZQ] at *;omega))) (kO (OM.buildSlice (l:= [(tS e5),(tS e5),(tS e5),(tS e5),(tS e5),(tS (⟨#[]⟩:ByteArray)),(tS (⟨#[65]⟩:ByteArray)),(tS (⟨#[97,32,98]⟩:ByteArray)),(tS (⟨#[116,111,111,108,111,110,103,101,114]⟩:ByteArray)),(tS (⟨#[116,111,111,108,111,110,103]⟩:ByteArray)),(tS (e5++(⟨#[63]⟩:ByteArray))),(tS (⟨#[122]⟩:ByteArray))]) (VEvp.cons (tv (tS e5) Y) (VEvp.cons (tv (tS e5) Y) (VEvp.cons (tv (tS e5) Y) (VEvp.cons (tv (tS e5) Y) (VEvp.cons (tv (tS e5) Y) (VEvp.cons (VEv.str (⟨#[]⟩:ByteArray)) (VEvp.cons (VEv.str (⟨#[65]⟩:ByteArray)) (VEvp.cons (VEv.str (⟨#[97,32,98]⟩:ByteArray)) (VEvp.cons (VEv.str (⟨#[116,111,111,108,111,110,103,101,114]⟩:ByteArray)) (VEvp.cons (VEv.str (⟨#[116,111,111,108,111,110,103]⟩:ByteArray)) (VEvp.cons (tv (tS (e5++(⟨#[63]⟩:ByteArray))) Y) (VEvp.cons (VEv.str (⟨#[122]⟩:ByteArray)) VEvp.nil)))))))))))) Y (by decide) (bc (nofun) (bc (nofun) (bc (nofun) (bc (nofun) (bc (nofun) (bc (nofun) (bc (nofun) (bc (nofun) (bc (nofun) (bc (nofun) (bc (nofun) (bc (nofun) bn)))))))))))) (bc ((bc (Y) bn)) (bc ((bc (Y) bn)) (bc ((bc (Y) bn)) (bc ((bc (Y) bn)) (bc ((bc (Y) bn)) (bc ((bc (Y) bn)) (bc ((bc (Y) bn)) (bc ((bc (Y) bn)) (bc ((bc (Y) bn)) (bc ((bc (Y) bn)) (bc ((bc (Y) bn)) (bc ((bc (Y) bn)) bn)))))))))))) (bc (Y) (bc (Y) (bc (Y) (bc (Y) (bc (Y) (bc (Y) (bc (Y) (bc (Y) (bc (Y) (bc (Y) (bc (Y) (bc (Y) bn)))))))))))) Jm zo9 (by kernel_rfl) Y (by rw [JH];decide) JH (Nat.le_of_ble_eq_true Y)) ?_)))))))))))
 refine eC (us:= [(T.sl false 1 [[(tS e5)],[(tS e5)],[(tS e5)],[(tS e5)],[(tS e5)],[(tS (⟨#[]⟩:ByteArray))],[(tS (⟨#[65]⟩:ByteArray))],[(tS (⟨#[97,32,98]⟩:ByteArray))],[(tS (⟨#[116,111,111,108,111,110,103,101,114]⟩:ByteArray))],[(tS (⟨#[116,111,111,108,111,110,103]⟩:ByteArray))],[(tS (e5++(⟨#[63]⟩:ByteArray)))],[(tS (⟨#[122]⟩:ByteArray))]])]) (r':=fun x_:ByteArray=>(tS x_)) (objs:=fun x_:ByteArray=> []) (m:=0) (k:=0) i5 h5 VWant.always (vc (tv (T.op 0 0) Y) (vc (tv (T.os 1 1 0 12) Y) vn)) Y (by omega) (LendL.cons (Lend.os Y Y Y) ln) (Jw (n+1) code [e5,e5,e5,e5,e5,(⟨#[]⟩:ByteArray),(⟨#[65]⟩:ByteArray),(⟨#[97,32,98]⟩:ByteArray),(⟨#[116,111,111,108,111,110,103,101,114]⟩:ByteArray),(⟨#[116,111,111,108,111,110,103]⟩:ByteArray),(e5++(⟨#[63]⟩:ByteArray)),(⟨#[122]⟩:ByteArray)] (by first | (have hq1:(ByteArray.mk #[63]).size=1:=rfl;omega) | assumption | omega | (simp only [List.length_cons,List.length_nil];omega)) (by first | (have hq1:(ByteArray.mk #[63]).size=1:=rfl;omega) | assumption | omega | (simp only [List.length_cons,List.length_nil];omega)) (by first | (have hq1:(ByteArray.mk #[63]).size=1:=rfl;omega) | assumption | omega | (simp only [List.length_cons,List.length_nil];omega))) Y (fun _=>rfl) (fun _=>rfl) fun e15 i15 h15 hs15 hi15=> ?_
 have hs15:e15∈ [e5,e5,e5,e5,e5,(⟨#[]⟩:ByteArray),(⟨#[65]⟩:ByteArray),(⟨#[97,32,98]⟩:ByteArray),(⟨#[116,111,111,108,111,110,103,101,114]⟩:ByteArray),(⟨#[116,111,111,108,111,110,103]⟩:ByteArray),(e5++(⟨#[63]⟩:ByteArray)),(⟨#[122]⟩:ByteArray)]:=hs15
 refine aO (tS e15) Y (nt (rt ?_))
 refine vcur.r e15 0 i15 h15 ?_ (VRes.tmp (t:=(tS e15)) Y VRes.nil) (Give.str _) Y Y (by omega) (by decide)
 show e15.size≤10
 have hq1:(ByteArray.mk #[63]).size=1:=rfl
 simp only [List.mem_cons,List.not_mem_nil,or_false] at hs15
 obtain h | h | h | h | h | h | h | h | h | h | h | h:=hs15<;>rw [h]<;>first | omega | decide | (rw [ByteArray.size_append];omega)
theorem Y9 (n:Nat) (code:List Int) (hcl:code.length≤mx):CurE (Qo Try.prog (n+6)) 15 (rd 1 Qf code) code.length [] (fun x:List ByteArray=>x.length≤5∧∀y∈x,y.size≤10) (fun x:List ByteArray=>(T.sl true 1 (x.map (Qd true)))):=by
 refine CurE.intro (rs:= [ResultVar.tmp 2]) Try.func15 Y Y Y (by kernel_rfl) (fun pb nb mb ci ch hci=> ?_)
 obtain ⟨hlim,hmx,hmax⟩:=QW
 show VRun _ _ _ [(0,(T.op 0 0))] [(0,some (Obj.cells [(T.ex pb nb mb (rd 1 Qf code)),(tN ci),(tI ch)]))] 1 _
 refine sr (fO (OF.assign VEv.nils) (nt (sr (kO (OM.slice0 Jm zo9 (by kernel_rfl) Y (by rw [JH];decide) JH) (aO (T.os 1 1 0 0) Y (nt (sq (sr (mO (T.op 0 0) Y ?_)))))))))
 refine eC (us:= [(tN 6)]) (r':=fun x_:Int=>(tI x_)) (objs:=fun x_:Int=> []) (m:=0) (k:=0) ci ch VWant.always (vc (tv (T.op 0 0) Y) (vc (VEv.int .i64 6) vn)) Y (by omega) (YC Y) (QG (n+3) code (6:Int) (by first | assumption | omega | (simp only [List.length_cons,List.length_nil];omega))) Y (fun _=>rfl) (fun _=>rfl) fun e7 i7 h7 hs7 hi7=> ?_
 have hs7:((6:Int)≤0→e7=0)∧(0<(6:Int)→0≤e7∧e7<(6:Int)):=hs7
 refine aO (tI e7) Y (nt (VRun.block ?_))
 have he1: []=([].map (Qd true)):=by first | rfl | (simp;done) | omega
 refine VRun.loop (A:=Nat×(List ByteArray)×Nat×Int) (fun s_=> [(0,(T.op 0 0)),(2,T.nils),(3,(T.os 1 1 0 ((s_.2.1.map (Qd true)).length))),(4,(tN s_.1))]) (fun s_=>YW [(0,(Obj.cells [(T.ex pb nb mb (rd 1 Qf code)),(tN s_.2.2.1),(tI s_.2.2.2)])),(1,(Obj.rows 1 (s_.2.1.map (Qd true))))]) 2 (fun s_=>s_.2.2.1≤code.length∧(s_.2.1.length+s_.1≤5∧∀y∈s_.2.1,y.size≤10)) (fun s_=>s_.1) ((Int.toNat e7,[],i7,h7):Nat×(List ByteArray)×Nat×Int) ?_ (Wk.mk (fun k=>k) ?_ ?_ ?_) ?_
 ·refine ⟨by omega,?_⟩
  have h2:=hs7.2 (by decide)
  exact ⟨by simp only [List.length_nil];omega,fun y hy=>nomatch hy⟩
 ·exact (b2 (b2 (bc ⟨(congrArg (fun n_=>T.os 1 1 0 n_) (show 0=([].map (Qd true)).length from (by first | rfl | (simp only [List.length_map];omega) | (simp only [List.length_map,List.length_set,List.length_append,List.length_take,List.length_replicate,List.length_cons,List.length_nil];omega)))),rfl⟩ (bc ⟨(congrArg (T.int .i64) (show e7=(((Int.toNat e7):Nat):Int) from (by first | rfl | omega | (simp;done) | (push_cast;omega)))),rfl⟩ bn))))
 ·exact (b3 (bc ⟨(congrArg (fun l_=>some (Obj.rows 1 l_)) he1),(lb Y),rfl⟩ bn))
 ·exact nd Y
 rintro ⟨k,a,ci0,ch0⟩ (hI':ci0≤code.length∧(a.length+k≤5∧∀y∈a,y.size≤10))
 show VRun _ _ _ [(0,(T.op 0 0)),(2,T.nils),(3,(T.os 1 1 0 ((a.map (Qd true)).length))),(4,(tN k))] (YW [(0,(Obj.cells [(T.ex pb nb mb (rd 1 Qf code)),(tN ci0),(tI ch0)])),(1,(Obj.rows 1 (a.map (Qd true))))]) 2 _
 have hci0:=hI'.1
 have hI':=hI'.2
 have hI1:=hI'.1
 have hI2:=hI'.2
 refine sq (sr (mO (tN k) Y (fO (B.gtr (c:=(decide (0<k))) (tv (tN k) Y) (VEv.int .i64 0) (Zl (by omega))) (nt ?_))))
 refine cd (0<k) Y (fun fhc0=> ?_) fun fhc0=> ?_
 ·refine sk ?_
  refine tn (sq (VRun.block (VRun.region (mO (T.os 1 1 0 ((a.map (Qd true)).length)) Y (mO (T.op 0 0) Y ?_)))))
  refine eC (us:= []) (r':=fun x_:ByteArray=>(tS x_)) (objs:=fun x_:ByteArray=> []) (m:=0) (k:=0) ci0 ch0 VWant.always (vc (tv (T.op 0 0) Y) vn) Y (by omega) ln (ZM (n+0) code (by first | assumption | omega | (simp only [List.length_cons,List.length_nil];omega))) Y (fun _=>rfl) (fun _=>rfl) fun e14 i14 h14 hs14 hi14=> ?_
  have hs14:e14.size≤10:=hs14
  refine kO (OM.buildSlice (l:= [(tS e14)]) (VEvp.cons (tv (tS e14) Y) VEvp.nil) Y (by decide) (bc (nofun) bn) (bc ((bc (Y) bn)) bn) (bc (Y) bn) Jm zo9 (by kernel_rfl) Y (by rw [JH];decide) JH (Nat.le_of_ble_eq_true Y)) (cO (B.append (rows:=(a.map (Qd true))) (rows2:= [[(tS e14)]]) (rows3:=((a++ [e14]).map (Qd true))) (VDst.own (tv (T.os 1 1 0 ((a.map (Qd true)).length)) Y) Y Y) (VSrc.own (tv (T.os 1 2 0 1) Y) Y Y Jm (bc (bc Y bn) bn)) (by decide) Jm JH (by decide) zo9 Y (of_decide_eq_true (by kernel_rfl)) (by first | omega | (simp only [List.length_map];omega) | (simp only [List.length_map,List.length_append,List.length_cons,List.length_nil,List.length_replicate,List.length_set,List.length_drop,List.length_take,ZQ] at *;omega)) ((List.map_append (f:=Qd true) (l₁:=a) (l₂:= [e14])).symm)) (aO (T.os 1 3 0 (((a++ [e14]).map (Qd true)).length)) Y (VRunO.nil (vinB.n (tn (VRun.region (mO (tN k) Y (fO (B.sub (n:=(((k:Nat):Int) - 1)) (tv (tN k) Y) (VEv.int .i64 1) (by first | rfl | (rw [Qm (by omega)];omega) | (rw [Qm (by omega)];done))) (aO (tI (((k:Nat):Int) - 1)) Y (VRunO.nil (tn ?_)))))))))))
  refine ⟨((k - 1,a++ [e14],i14,h14):Nat×(List ByteArray)×Nat×Int),?_,?_,Wk.mk (fun k=>if k=1 then 3 else k) ?_ ?_ ?_⟩
  ·refine ⟨by omega,?_⟩
   exact ⟨by simp only [List.length_append,List.length_cons,List.length_nil];omega,QcR hI2 hs14⟩
  ·first | omega | (simp only [];omega) | (show _<_;omega) | (simp;omega)
  ·exact (b2 (b2 (b2 (bc ⟨(congrArg (T.int .i64) (show (((k:Nat):Int) - 1)=(((k - 1):Nat):Int) from (by first | rfl | omega | (simp;done) | (push_cast;omega)))),rfl⟩ bn))))
  ·exact (b3 (b3 bn))
  ·exact nd Y
 refine VRun.exit (vthn.e (vthn.e (vinB.e (tn (sr (mO (T.os 1 1 0 ((a.map (Qd true)).length)) Y (aO (T.os 1 1 0 ((a.map (Qd true)).length)) Y (nt (rt ?_)))))))))
 refine vcur.r a 0 ci0 ch0 ?_ (VRes.tmp (t:=(T.os 1 1 0 ((a.map (Qd true)).length))) Y VRes.nil) (Give.os Y Y (okStr.cleanMap _)) Y Y (by omega) (by decide)
 show a.length≤5∧∀y∈a,y.size≤10
 exact ⟨by omega,hI2⟩
def gU (k:Nat) (l:List D.Used):Prop:=l.length≤k∧∀y∈l,y.Word.size≤10∧0≤y.Issue∧y.Issue≤9223372036854775807
theorem Zr {k m:Nat} {l:List D.Used} (h:gU k l) (hm:k≤m):gU m l:=⟨Nat.le_trans h.1 hm,h.2⟩
theorem Qfp {k:Nat} {l:List D.Used} (h:gU k l):zL QC l≤11*k:=by
 have h1:∀l:List D.Used,(∀x∈l,QC x≤10)→Zq QC l≤10*l.length:=fun l=>by
  induction l with
  | nil=>exact fun _=>Nat.le_refl _
  | cons x r ih =>
   intro hl
   have h2:=ih (fun y hy=>hl y (List.mem_cons_of_mem _ hy))
   have h3:=hl x List.mem_cons_self
   simp only [Zq,List.length_cons];omega
 have h2:=h1 l (fun x hx=>by simp only [QC];exact (h.2 x hx).1)
 have h3:=h.1
 simp only [zL];omega
theorem Qep {k:Nat} {l:List D.Used} {x:D.Used} (h:gU k l) (hx:x.Word.size≤10∧0≤x.Issue∧x.Issue≤9223372036854775807):gU (k+1) (Zp l x):=by
 have hle:YB l x≤l.length:=by
  have h0:=congrArg List.length (List.takeWhile_append_dropWhile (p:=fun y=>QI y x) (l:=l))
  rw [List.length_append] at h0
  unfold YB;omega
 refine ⟨?_,fun y hy=> ?_⟩
 ·have:=h.1
  unfold Zp
  rw [List.length_append,List.length_cons,List.length_take,List.length_drop];omega
 ·unfold Zp at hy
  rcases List.mem_append.1 hy with hy | hy
  ·exact h.2 y (List.mem_of_mem_take hy)
  ·rcases List.mem_cons.1 hy with rfl | hy
   ·exact hx
   ·exact h.2 y (List.mem_of_mem_drop hy)
theorem QcG {n:Int} (hn:0≤n∧n≤9223372036854775807):∀ {ws:List ByteArray} {k:Nat} {l:List D.Used},gU k l→(∀w∈ws,w.size≤10)→gU (k+ws.length) (Qn l ws n)
 | [],k,l,h,_=>h
 | w::r,k,l,h,hw=>by
  have h1:=Qep (x:=D.Used.mk w n) h ⟨hw w List.mem_cons_self,hn⟩
  have h2:=QcG hn (ws:=r) h1 (fun w hw'=>hw w (List.mem_cons_of_mem _ hw'))
  rw [List.length_cons,show k+(r.length+1)=k+1+r.length by omega]
  exact h2
theorem QdH {n:Int} {ws:List ByteArray} {k:Nat} {l:List D.Used} (hn:0≤n∧n≤9223372036854775807) (h:gU k l) (hw:∀w∈ws,w.size≤10):gU (k+ws.length) (Qr l ws n):=by
 unfold Qr
 split
 ·exact QcG hn h hw
 ·exact Zr h (by omega)
theorem Yd {k i:Nat} {l:List D.Used} {x:D.Used} (h:gU k l) (hx:x.Word.size≤10∧0≤x.Issue∧x.Issue≤9223372036854775807):gU k (l.set i x):=by
 refine ⟨by rw [List.length_set];exact h.1,fun y hy=> ?_⟩
 rcases List.mem_or_eq_of_mem_set hy with hy | rfl
 ·exact h.2 y hy
 ·exact hx
theorem JA {k:Nat} {l:List D.Used} {x:D.Used} (h:gU k l) (hx:x∈l):gU (k+1) (l++ [x]):=by
 refine ⟨by rw [List.length_append,List.length_singleton];have:=h.1;omega,fun y hy=> ?_⟩
 rcases List.mem_append.1 hy with hy | hy
 ·exact h.2 y hy
 ·obtain rfl:=List.mem_singleton.1 hy;exact h.2 y hx
theorem Qe3 {a b:ByteArray} (ha:a.size≤9) (hb:b.size≤9):∀w∈ [a,b],w.size≤10:=fun w hw=>by
 simp only [List.mem_cons,List.not_mem_nil,or_false] at hw
 rcases hw with rfl | rfl<;>omega
theorem Qal (n:Nat) (code:List Int) (hcl:code.length≤mx):CurE (Qo Try.prog (n+5)) 30 (rd 1 Qf code) code.length [] (fun x:List D.Used=>gU 10 x) (fun x:List D.Used=>(T.sl true 2 (x.map (Qa true)))):=by
 refine CurE.intro (rs:= [ResultVar.tmp 2]) Try.func30 Y Y Y (by kernel_rfl) (fun pb nb mb ci ch hci=> ?_)
 obtain ⟨hlim,hmx,hmax⟩:=QW
 show VRun _ _ _ [(0,(T.op 0 0))] [(0,some (Obj.cells [(T.ex pb nb mb (rd 1 Qf code)),(tN ci),(tI ch)]))] 1 _
 refine sr (fO (OF.assign VEv.nils) (nt (sr (kO (OM.slice0 Zc Zs (by kernel_rfl) Y (by rw [Qx];decide) Qx) (aO (T.os 2 1 0 0) Y (nt (sq (sr (mO (T.op 0 0) Y ?_)))))))))
 refine eC (us:= [(tN 6)]) (r':=fun x_:Int=>(tI x_)) (objs:=fun x_:Int=> []) (m:=0) (k:=0) ci ch VWant.always (vc (tv (T.op 0 0) Y) (vc (VEv.int .i64 6) vn)) Y (by omega) (YC Y) (QG (n+2) code (6:Int) (by first | (simp only [zL,Zq,List.length_cons,List.length_nil] at *;omega) | (have h2:=hs20.2 (by decide);omega) | assumption | omega | (simp only [List.length_cons,List.length_nil];omega))) Y (fun _=>rfl) (fun _=>rfl) fun e7 i7 h7 hs7 hi7=> ?_
 have hs7:((6:Int)≤0→e7=0)∧(0<(6:Int)→0≤e7∧e7<(6:Int)):=hs7
 refine aO (tI e7) Y (nt (VRun.block ?_))
 have he1: []=([].map (Qa true)):=by first | rfl | (simp;done) | omega
 refine VRun.loop (A:=Nat×(List D.Used)×Nat×Int) (fun s_=> [(0,(T.op 0 0)),(2,T.nils),(3,(T.os 2 1 0 ((s_.2.1.map (Qa true)).length))),(4,(tN s_.1))]) (fun s_=>YW [(0,(Obj.cells [(T.ex pb nb mb (rd 1 Qf code)),(tN s_.2.2.1),(tI s_.2.2.2)])),(1,(Obj.rows 2 (s_.2.1.map (Qa true))))]) 2 (fun s_=>s_.2.2.1≤code.length∧(s_.1≤5∧gU (2*(5 - s_.1)) s_.2.1)) (fun s_=>s_.1) ((Int.toNat e7,[],i7,h7):Nat×(List D.Used)×Nat×Int) ?_ (Wk.mk (fun k=>k) ?_ ?_ ?_) ?_
 ·refine ⟨by omega,?_⟩
  have h2:=hs7.2 (by decide)
  exact ⟨by omega,by simp only [List.length_nil];omega,fun y hy=>nomatch hy⟩
 ·exact (b2 (b2 (bc ⟨(congrArg (fun n_=>T.os 2 1 0 n_) (show 0=([].map (Qa true)).length from (by first | rfl | (simp only [List.length_map];omega) | (simp only [List.length_map,List.length_set,List.length_append,List.length_take,List.length_replicate,List.length_cons,List.length_nil];omega)))),rfl⟩ (bc ⟨(congrArg (T.int .i64) (show e7=(((Int.toNat e7):Nat):Int) from (by first | rfl | omega | (simp;done) | (push_cast;omega)))),rfl⟩ bn))))
 ·exact (b3 (bc ⟨(congrArg (fun l_=>some (Obj.rows 2 l_)) he1),(lb Y),rfl⟩ bn))
 ·exact nd Y
 rintro ⟨k,l,ci0,ch0⟩ (hI':ci0≤code.length∧(k≤5∧gU (2*(5 - k)) l))
 show VRun _ _ _ [(0,(T.op 0 0)),(2,T.nils),(3,(T.os 2 1 0 ((l.map (Qa true)).length))),(4,(tN k))] (YW [(0,(Obj.cells [(T.ex pb nb mb (rd 1 Qf code)),(tN ci0),(tI ch0)])),(1,(Obj.rows 2 (l.map (Qa true))))]) 2 _
 have hci0:=hI'.1
 have hI':=hI'.2
 have hI1:=hI'.1
 have hI2:=hI'.2
 have hz1:=Qfp hI2
 refine sq (sr (mO (tN k) Y (fO (B.gtr (c:=(decide (0<k))) (tv (tN k) Y) (VEv.int .i64 0) (by first | (simp only [zL,Zq,List.length_cons,List.length_nil] at *;omega) | (have h2:=hs20.2 (by decide);omega) | (exact Zl (by omega)))) (nt ?_))))
 refine cd (0<k) Y (fun fhc0=> ?_) fun fhc0=> ?_
 ·refine sk ?_
  refine tn (sq (VRun.block (VRun.region (mO (T.os 2 1 0 ((l.map (Qa true)).length)) Y (mO (T.op 0 0) Y ?_)))))
  refine eC (us:= []) (r':=fun x_:ByteArray=>(tS x_)) (objs:=fun x_:ByteArray=> []) (m:=0) (k:=0) ci0 ch0 VWant.always (vc (tv (T.op 0 0) Y) vn) Y (by omega) ln (Ye (n+0) code (by first | (simp only [zL,Zq,List.length_cons,List.length_nil] at *;omega) | (have h2:=hs20.2 (by decide);omega) | assumption | omega | (simp only [List.length_cons,List.length_nil];omega))) Y (fun _=>rfl) (fun _=>rfl) fun e15 i15 h15 hs15 hi15=> ?_
  have hs15:e15.size≤9:=hs15
  refine mO (T.op 0 0) Y ?_
  refine eC (us:= []) (r':=fun x_:ByteArray=>(tS x_)) (objs:=fun x_:ByteArray=> []) (m:=0) (k:=0) i15 h15 VWant.always (vc (tv (T.op 0 0) Y) vn) Y (by omega) ln (Ye (n+0) code (by first | (simp only [zL,Zq,List.length_cons,List.length_nil] at *;omega) | (have h2:=hs20.2 (by decide);omega) | assumption | omega | (simp only [List.length_cons,List.length_nil];omega))) Y (fun _=>rfl) (fun _=>rfl) fun e17 i17 h17 hs17 hi17=> ?_
  have hs17:e17.size≤9:=hs17
  refine kO (OM.buildSlice (l:= [(tS e15),(tS e17)]) (VEvp.cons (tv (tS e15) Y) (VEvp.cons (tv (tS e17) Y) VEvp.nil)) Y (by decide) (bc (nofun) (bc (nofun) bn)) (bc ((bc (Y) bn)) (bc ((bc (Y) bn)) bn)) (bc (Y) (bc (Y) bn)) Jm zo9 (by kernel_rfl) Y (by rw [JH];decide) JH (Nat.le_of_ble_eq_true Y)) (mO (T.op 0 0) Y ?_)
  refine eC (us:= [(tN 6)]) (r':=fun x_:Int=>(tI x_)) (objs:=fun x_:Int=> []) (m:=0) (k:=0) i17 h17 VWant.always (vc (tv (T.op 0 0) Y) (vc (VEv.int .i64 6) vn)) Y (by omega) (YC Y) (QG (n+2) code (6:Int) (by first | (simp only [zL,Zq,List.length_cons,List.length_nil] at *;omega) | (have h2:=hs20.2 (by decide);omega) | assumption | omega | (simp only [List.length_cons,List.length_nil];omega))) Y (fun _=>rfl) (fun _=>rfl) fun e20 i20 h20 hs20 hi20=> ?_
  have hs20:((6:Int)≤0→e20=0)∧(0<(6:Int)→0≤e20∧e20<(6:Int)):=hs20
  refine fO (B.add (n:=(1+e20)) (VEv.int .i64 1) (tv (tI e20) Y) (by first | (simp only [zL,Zq,List.length_cons,List.length_nil] at *;omega) | (have h2:=hs20.2 (by decide);omega) | rfl | (rw [Qm (by omega)];omega) | (rw [Qm (by omega)];done))) (cO (OC.callF (us:= [(rd 2 Qa l),(T.sl false 1 [[(tS e15)],[(tS e17)]]),(tI (1+e20))]) (r':=(T.tup [(T.os 2 3 0 (((Qr l [e15,e17] (1+e20)).map (Qa true)).length)),(tB (decide (Ql (Qn l [e15,e17] (1+e20)))))])) (objs:= [(Obj.rows 2 ((Qr l [e15,e17] (1+e20)).map (Qa true)))]) Y (vc (tv (T.os 2 1 0 ((l.map (Qa true)).length)) Y) (vc (tv (T.os 1 2 0 2) Y) (vc (tv (tI (1+e20)) Y) vn))) (LendL.cons (Lend.os Y Y (okeUsed.fzMap _ _)) (LendL.cons (Lend.os Y Y Y) (lp Y ln))) (QaI (n+0) l [e15,e17] (1+e20) (by first | (simp only [zL,Zq,List.length_cons,List.length_nil] at *;omega) | (have h2:=hs20.2 (by decide);omega) | assumption | omega)) Y) (mO (T.tup [(T.os 2 3 0 (((Qr l [e15,e17] (1+e20)).map (Qa true)).length)),(tB (decide (Ql (Qn l [e15,e17] (1+e20)))))]) Y (fO (OF.extract (t:=(T.os 2 3 0 (((Qr l [e15,e17] (1+e20)).map (Qa true)).length))) (tv (T.tup [(T.os 2 3 0 (((Qr l [e15,e17] (1+e20)).map (Qa true)).length)),(tB (decide (Ql (Qn l [e15,e17] (1+e20)))))]) Y) Y) (fO (OF.extract (t:=(tB (decide (Ql (Qn l [e15,e17] (1+e20)))))) (tv (T.tup [(T.os 2 3 0 (((Qr l [e15,e17] (1+e20)).map (Qa true)).length)),(tB (decide (Ql (Qn l [e15,e17] (1+e20)))))]) Y) Y) (aO (T.os 2 3 0 (((Qr l [e15,e17] (1+e20)).map (Qa true)).length)) Y (VRunO.nil (vinB.n (tn (VRun.region (mO (tN k) Y (fO (B.sub (n:=(((k:Nat):Int) - 1)) (tv (tN k) Y) (VEv.int .i64 1) (by first | (simp only [zL,Zq,List.length_cons,List.length_nil] at *;omega) | (have h2:=hs20.2 (by decide);omega) | rfl | (rw [Qm (by omega)];omega) | (rw [Qm (by omega)];done))) ?_)))))))))))
  refine aO (tI (((k:Nat):Int) - 1)) Y (VRunO.nil (tn ?_))
  refine ⟨((k - 1,Qr l [e15,e17] (1+e20),i20,h20):Nat×(List D.Used)×Nat×Int),?_,?_,Wk.mk (fun k=>if k=1 then 3 else k) ?_ ?_ ?_⟩
  ·refine ⟨by omega,?_⟩
   have h2:=hs20.2 (by decide)
   refine ⟨by omega,Zr (QdH (by omega) hI2 (Qe3 hs15 hs17)) ?_⟩
   simp only [List.length_cons,List.length_nil];omega
  ·first | omega | (simp only [];omega) | (show _<_;omega) | (simp;omega)
  ·exact (b2 (b2 (b2 (bc ⟨(congrArg (T.int .i64) (show (((k:Nat):Int) - 1)=(((k - 1):Nat):Int) from (by first | rfl | omega | (simp;done) | (push_cast;omega)))),rfl⟩ bn))))
  ·exact (b3 (b3 bn))
  ·exact nd Y
 refine VRun.exit (vthn.e (vthn.e (vinB.e (tn (sr (mO (T.os 2 1 0 ((l.map (Qa true)).length)) Y (aO (T.os 2 1 0 ((l.map (Qa true)).length)) Y (nt (rt ?_)))))))))
 refine vcur.r l 0 ci0 ch0 ?_ (VRes.tmp (t:=(T.os 2 1 0 ((l.map (Qa true)).length))) Y VRes.nil) (Give.os Y Y (okeUsed.cleanMap _)) Y Y (by omega) (by decide)
 show gU 10 l
 exact Zr hI2 (by omega)
theorem Y3 (n:Nat) (code:List Int) (hcl:code.length≤mx):CurE (Qo Try.prog (n+6)) 20 (rd 1 Qf code) code.length [] (fun x:List D.Used=>gU 11 x) (fun x:List D.Used=>(T.sl true 2 (x.map (Qa true)))):=by
 refine CurE.intro (rs:= [ResultVar.tmp 2]) Try.func20 Y Y Y (by kernel_rfl) (fun pb nb mb ci ch hci=> ?_)
 obtain ⟨hlim,hmx,hmax⟩:=QW
 show VRun _ _ _ [(0,(T.op 0 0))] [(0,some (Obj.cells [(T.ex pb nb mb (rd 1 Qf code)),(tN ci),(tI ch)]))] 1 _
 refine sr (fO (OF.assign VEv.nils) (nt (sr (mO (T.op 0 0) Y ?_))))
 refine eC (us:= []) (r':=fun x_:List D.Used=>(T.os 2 1 0 ((x_.map (Qa true)).length))) (objs:=fun x_:List D.Used=> [(Obj.rows 2 (x_.map (Qa true)))]) (m:=1) (k:=0) ci ch VWant.always (vc (tv (T.op 0 0) Y) vn) Y (by omega) ln (Qal (n+0) code (by first | (have h2:=hs14.2 (by omega);omega) | (have h3:=hs6.1;simp only [List.length_map,List.length_append,List.length_cons,List.length_nil] at *;omega) | assumption | omega | (simp only [List.length_cons,List.length_nil];omega))) Y (fun _=>rfl) (fun _=>rfl) fun e6 i6 h6 hs6 hi6=> ?_
 have hs6:gU 10 e6:=hs6
 refine aO (T.os 2 1 0 ((e6.map (Qa true)).length)) Y (nt (sq (sr (mO (T.os 2 1 0 ((e6.map (Qa true)).length)) Y (lO (B.lenO (m:=e6.length) (tv (T.os 2 1 0 ((e6.map (Qa true)).length)) Y) Zc (List.length_map ..)) (fO (B.eql (c:=(decide (e6.length=0))) (tv (tN e6.length) Y) (VEv.int .i64 0) (by first | (have h2:=hs14.2 (by omega);omega) | (have h3:=hs6.1;simp only [List.length_map,List.length_append,List.length_cons,List.length_nil] at *;omega) | (exact Zl (by omega)))) (nt ?_)))))))
 refine cd (e6.length=0) Y (fun fhc0=> ?_) fun fhc0=> ?_
 ·refine sr ?_
  refine mO (T.os 2 1 0 ((e6.map (Qa true)).length)) Y (aO (T.os 2 1 0 ((e6.map (Qa true)).length)) Y (nt (rt (tr ?_))))
  refine vcur.r e6 0 i6 h6 ?_ (VRes.tmp (t:=(T.os 2 1 0 ((e6.map (Qa true)).length))) Y VRes.nil) (Give.os Y Y (okeUsed.cleanMap _)) Y Y (by omega) (by decide)
  show gU 11 e6
  first
  | (exact Zr hs6 (by omega))
  | (have hx1m:=List.mem_of_getElem? hx1;have hg1:=hs6.2 _ hx1m;exact Zr (Yd hs6 ⟨hs22,hg1.2⟩) (by omega))
  | (have hx1m:=List.mem_of_getElem? hx1;have hg1:=hs6.2 _ hx1m;simp only [List.mem_cons,List.not_mem_nil,or_false] at hs31;exact Zr (Yd hs6 ⟨hg1.1,show 0≤e31∧e31≤9223372036854775807 by omega⟩) (by omega))
  | (exact JA hs6 (List.mem_of_getElem? hx1))
 refine sk (tn (sr (mO (T.op 0 0) Y (mO (T.os 2 1 0 ((e6.map (Qa true)).length)) Y (lO (B.lenO (m:=e6.length) (tv (T.os 2 1 0 ((e6.map (Qa true)).length)) Y) Zc (List.length_map ..)) ?_)))))
 refine eC (us:= [(tN e6.length)]) (r':=fun x_:Int=>(tI x_)) (objs:=fun x_:Int=> []) (m:=0) (k:=0) i6 h6 VWant.always (vc (tv (T.op 0 0) Y) (vc (tv (tN e6.length) Y) vn)) Y (by omega) (YC Y) (QG (n+3) code ((e6.length:Nat):Int) (by first | (have h2:=hs14.2 (by omega);omega) | (have h3:=hs6.1;simp only [List.length_map,List.length_append,List.length_cons,List.length_nil] at *;omega) | assumption | omega | (simp only [List.length_cons,List.length_nil];omega))) Y (fun _=>rfl) (fun _=>rfl) fun e14 i14 h14 hs14 hi14=> ?_
 have hs14:(((e6.length:Nat):Int)≤0→e14=0)∧(0<((e6.length:Nat):Int)→0≤e14∧e14<((e6.length:Nat):Int)):=hs14
 refine aO (tI e14) Y (nt (sq (sr (mO (T.op 0 0) Y ?_))))
 refine eC (us:= [(tN 8)]) (r':=fun x_:Int=>(tI x_)) (objs:=fun x_:Int=> []) (m:=0) (k:=0) i14 h14 VWant.always (vc (tv (T.op 0 0) Y) (vc (VEv.int .i64 8) vn)) Y (by omega) (YC Y) (QG (n+3) code (8:Int) (by first | (have h2:=hs14.2 (by omega);omega) | (have h3:=hs6.1;simp only [List.length_map,List.length_append,List.length_cons,List.length_nil] at *;omega) | assumption | omega | (simp only [List.length_cons,List.length_nil];omega))) Y (fun _=>rfl) (fun _=>rfl) fun e16 i16 h16 hs16 hi16=> ?_
 have hs16:((8:Int)≤0→e16=0)∧(0<(8:Int)→0≤e16∧e16<(8:Int)):=hs16
 refine nt (VRun.block (sr (fO (xeq (tv (tI e16) Y) (VEv.int .i64 0)) (aO (tB (decide (e16=0))) Y (nt ?_)))))
 refine cd (e16=0) Y (fun fhc1=> ?_) fun fhc1=> ?_
 ·refine VRun.region ?_
  refine mO (T.os 2 1 0 ((e6.map (Qa true)).length)) Y (mO (tI e14) Y (mO (T.op 0 0) Y ?_))
  refine eC (us:= []) (r':=fun x_:ByteArray=>(tS x_)) (objs:=fun x_:ByteArray=> []) (m:=0) (k:=0) i16 h16 VWant.always (vc (tv (T.op 0 0) Y) vn) Y (by omega) ln (ZM (n+0) code (by first | (have h2:=hs14.2 (by omega);omega) | (have h3:=hs6.1;simp only [List.length_map,List.length_append,List.length_cons,List.length_nil] at *;omega) | assumption | omega | (simp only [List.length_cons,List.length_nil];omega))) Y (fun _=>rfl) (fun _=>rfl) fun e22 i22 h22 hs22 hi22=> ?_
  have hs22:e22.size≤10:=hs22
  obtain ⟨x1,hx1⟩:∃x,e6[(Int.toNat e14)]? =some x:=⟨_,List.getElem?_eq_getElem (by first | (have h2:=hs14.2 (by omega);omega) | (have h3:=hs6.1;simp only [List.length_map,List.length_append,List.length_cons,List.length_nil] at *;omega) | omega)⟩
  refine fO (B.indexAddrO (i:=(Int.toNat e14)) (tv (T.os 2 1 0 ((e6.map (Qa true)).length)) Y) (tv (tI e14) Y) (by omega) (by first | (have h2:=hs14.2 (by omega);omega) | (have h3:=hs6.1;simp only [List.length_map,List.length_append,List.length_cons,List.length_nil] at *;omega) | omega | (simp only [List.length_map];omega) | (simp only [List.length_map,List.length_append,List.length_cons,List.length_nil,List.length_replicate,List.length_set,List.length_drop,List.length_take,ZQ] at *;omega)) Zc Qx Z3) (fO (OF.fieldAddrP (tv (T.orp 2 1 (Int.toNat e14) 0) Y) ZU) (cO (B.storeP (us:= [(tS e22)]) (rows':=((e6.set (Int.toNat e14) (D.Used.mk e22 x1.Issue)).map (Qa true))) (row:=(Qa true x1)) (tv (T.orp 2 1 (Int.toNat e14) 0) Y) (tv (tS e22) Y) nofun Y (QE _ hx1) Y (lb Y) if9 JH (bc Y bn) (by intro r hr t ht;obtain ⟨x,_,rfl⟩:=List.mem_map.1 hr;rw [Qdu] at ht;exact Qa2 (okeUsed.pl _ t ht)) (Qb9 Y)) (VRunO.nil (vinB.n (tn (sr (mO (T.os 2 1 0 ((e6.map (Qa true)).length)) Y (aO (T.os 2 1 0 ((e6.map (Qa true)).length)) Y (nt (rt ?_))))))))))
  refine vcur.r (e6.set (Int.toNat e14) (D.Used.mk e22 x1.Issue)) 0 i22 h22 ?_ (VRes.tmp (t:=(T.os 2 1 0 ((e6.map (Qa true)).length))) Y VRes.nil) (Give.os Y (by simp only [List.length_map,List.length_set]) (okeUsed.cleanMap _)) Y Y (by omega) (by decide)
  show gU 11 (e6.set (Int.toNat e14) (D.Used.mk e22 x1.Issue))
  first
  | (exact Zr hs6 (by omega))
  | (have hx1m:=List.mem_of_getElem? hx1;have hg1:=hs6.2 _ hx1m;exact Zr (Yd hs6 ⟨hs22,hg1.2⟩) (by omega))
  | (have hx1m:=List.mem_of_getElem? hx1;have hg1:=hs6.2 _ hx1m;simp only [List.mem_cons,List.not_mem_nil,or_false] at hs31;exact Zr (Yd hs6 ⟨hg1.1,show 0≤e31∧e31≤9223372036854775807 by omega⟩) (by omega))
  | (exact JA hs6 (List.mem_of_getElem? hx1))
 refine sr (fO (xeq (tv (tI e16) Y) (VEv.int .i64 1)) (aO (tB (decide (e16=1))) Y (nt ?_)))
 refine cd (e16=1) Y (fun fhc2=> ?_) fun fhc2=> ?_
 ·refine VRun.region ?_
  refine mO (T.os 2 1 0 ((e6.map (Qa true)).length)) Y (mO (tI e14) Y (mO (T.op 0 0) Y (kO (OM.buildSlice (l:= [(tN 0),(tN 999),(tN 1000),(tN 9223372036854775807)]) (VEvp.cons (VEv.int .i64 0) (VEvp.cons (VEv.int .i64 999) (VEvp.cons (VEv.int .i64 1000) (VEvp.cons (VEv.int .i64 9223372036854775807) VEvp.nil)))) Y (by decide) (bc (nofun) (bc (nofun) (bc (nofun) (bc (nofun) bn)))) (bc ((bc (Y) bn)) (bc ((bc (Y) bn)) (bc ((bc (Y) bn)) (bc ((bc (Y) bn)) bn)))) (bc (Y) (bc (Y) (bc (Y) (bc (Y) bn)))) U49 zo3 (by kernel_rfl) Y (by rw [sz3];decide) sz3 (Nat.le_of_ble_eq_true Y)) ?_)))
  refine eC (us:= [(T.sl false 1 [[(tN 0)],[(tN 999)],[(tN 1000)],[(tN 9223372036854775807)]])]) (r':=fun x_:Int=>(tI x_)) (objs:=fun x_:Int=> []) (m:=0) (k:=0) i16 h16 VWant.always (vc (tv (T.op 0 0) Y) (vc (tv (T.os 1 2 0 4) Y) vn)) Y (by omega) (LendL.cons (Lend.os Y Y Y) ln) (ZP (n+2) code [0,999,1000,9223372036854775807] (by first | (have h2:=hs14.2 (by omega);omega) | (have h3:=hs6.1;simp only [List.length_map,List.length_append,List.length_cons,List.length_nil] at *;omega) | assumption | omega | (simp only [List.length_cons,List.length_nil];omega)) (by first | (have h2:=hs14.2 (by omega);omega) | (have h3:=hs6.1;simp only [List.length_map,List.length_append,List.length_cons,List.length_nil] at *;omega) | assumption | omega | (simp only [List.length_cons,List.length_nil];omega)) (by first | (have h2:=hs14.2 (by omega);omega) | (have h3:=hs6.1;simp only [List.length_map,List.length_append,List.length_cons,List.length_nil] at *;omega) | assumption | omega | (simp only [List.length_cons,List.length_nil];omega))) Y (fun _=>rfl) (fun _=>rfl) fun e31 i31 h31 hs31 hi31=> ?_
  have hs31:e31∈ [0,999,1000,9223372036854775807]:=hs31
  obtain ⟨x1,hx1⟩:∃x,e6[(Int.toNat e14)]? =some x:=⟨_,List.getElem?_eq_getElem (by first | (have h2:=hs14.2 (by omega);omega) | (have h3:=hs6.1;simp only [List.length_map,List.length_append,List.length_cons,List.length_nil] at *;omega) | omega)⟩
  refine fO (B.indexAddrO (i:=(Int.toNat e14)) (tv (T.os 2 1 0 ((e6.map (Qa true)).length)) Y) (tv (tI e14) Y) (by omega) (by first | (have h2:=hs14.2 (by omega);omega) | (have h3:=hs6.1;simp only [List.length_map,List.length_append,List.length_cons,List.length_nil] at *;omega) | omega | (simp only [List.length_map];omega) | (simp only [List.length_map,List.length_append,List.length_cons,List.length_nil,List.length_replicate,List.length_set,List.length_drop,List.length_take,ZQ] at *;omega)) Zc Qx Z3) (fO (OF.fieldAddrP (tv (T.orp 2 1 (Int.toNat e14) 0) Y) Zv) (cO (B.storeP (us:= [(tI e31)]) (rows':=((e6.set (Int.toNat e14) (D.Used.mk x1.Word e31)).map (Qa true))) (row:=(Qa true x1)) (tv (T.orp 2 1 (Int.toNat e14) 1) Y) (tv (tI e31) Y) nofun Y (QE _ hx1) Y (lb Y) if3 sz3 (bc Y bn) (by intro r hr t ht;obtain ⟨x,_,rfl⟩:=List.mem_map.1 hr;rw [Qdu] at ht;exact Qa2 (okeUsed.pl _ t ht)) (Qb9 Y)) (VRunO.nil (vinB.n (tn (sr (mO (T.os 2 1 0 ((e6.map (Qa true)).length)) Y (aO (T.os 2 1 0 ((e6.map (Qa true)).length)) Y (nt (rt ?_))))))))))
  refine vcur.r (e6.set (Int.toNat e14) (D.Used.mk x1.Word e31)) 0 i31 h31 ?_ (VRes.tmp (t:=(T.os 2 1 0 ((e6.map (Qa true)).length))) Y VRes.nil) (Give.os Y (by simp only [List.length_map,List.length_set]) (okeUsed.cleanMap _)) Y Y (by omega) (by decide)
  show gU 11 (e6.set (Int.toNat e14) (D.Used.mk x1.Word e31))
  first
  | (exact Zr hs6 (by omega))
  | (have hx1m:=List.mem_of_getElem? hx1;have hg1:=hs6.2 _ hx1m;exact Zr (Yd hs6 ⟨hs22,hg1.2⟩) (by omega))
  | (have hx1m:=List.mem_of_getElem? hx1;have hg1:=hs6.2 _ hx1m;simp only [List.mem_cons,List.not_mem_nil,or_false] at hs31;exact Zr (Yd hs6 ⟨hg1.1,show 0≤e31∧e31≤9223372036854775807 by omega⟩) (by omega))
  | (exact JA hs6 (List.mem_of_getElem? hx1))
 refine sr (fO (xeq (tv (tI e16) Y) (VEv.int .i64 2)) (aO (tB (decide (e16=2))) Y (nt ?_)))
 refine cd (e16=2) Y (fun fhc3=> ?_) fun fhc3=> ?_
 ·refine VRun.region ?_
  refine mO (T.os 2 1 0 ((e6.map (Qa true)).length)) Y (mO (T.os 2 1 0 ((e6.map (Qa true)).length)) Y ?_)
  obtain ⟨x1,hx1⟩:∃x,e6[0]? =some x:=⟨_,List.getElem?_eq_getElem (by first | (have h2:=hs14.2 (by omega);omega) | (have h3:=hs6.1;simp only [List.length_map,List.length_append,List.length_cons,List.length_nil] at *;omega) | omega)⟩
  refine fO (B.indexAddrO (i:=0) (tv (T.os 2 1 0 ((e6.map (Qa true)).length)) Y) (VEv.int .i64 0) Y (by first | (have h2:=hs14.2 (by omega);omega) | (have h3:=hs6.1;simp only [List.length_map,List.length_append,List.length_cons,List.length_nil] at *;omega) | omega | (simp only [List.length_map];omega) | (simp only [List.length_map,List.length_append,List.length_cons,List.length_nil,List.length_replicate,List.length_set,List.length_drop,List.length_take,ZQ] at *;omega)) Zc Qx Z3) (lO (OL.loadPn (us:=(Qa false x1)) (row:=(Qa true x1)) (tv (T.orp 2 1 0 0) Y) Y (QE _ hx1) Jg Qx (lb Y) Y (bc Y (bc Y bn))) (kO (OM.buildSlice (l:= [(T.agg (Qa false x1))]) (VEvp.cons (tv (T.agg (Qa false x1)) Y) VEvp.nil) Y (by decide) (bc (nofun) bn) (bc ((bc (Y) (bc (Y) bn))) bn) (bc (Y) bn) Zc Zs (by kernel_rfl) Y (by rw [Qx];decide) Qx (Nat.le_of_ble_eq_true Y)) (cO (B.append (rows:=(e6.map (Qa true))) (rows2:= [[(tS x1.Word),(tI x1.Issue)]]) (rows3:=((e6++ [x1]).map (Qa true))) (VDst.own (tv (T.os 2 1 0 ((e6.map (Qa true)).length)) Y) Y Y) (VSrc.own (tv (T.os 2 2 0 1) Y) Y Y Zc (bc (bc Y (bc Y bn)) bn)) (by decide) Zc Qx (by decide) Zs Y (of_decide_eq_true (by kernel_rfl)) (by first | (have h2:=hs14.2 (by omega);omega) | (have h3:=hs6.1;simp only [List.length_map,List.length_append,List.length_cons,List.length_nil] at *;omega) | omega | (simp only [List.length_map];omega) | (simp only [List.length_map,List.length_append,List.length_cons,List.length_nil,List.length_replicate,List.length_set,List.length_drop,List.length_take,ZQ] at *;omega)) ((List.map_append (f:=Qa true) (l₁:=e6) (l₂:= [x1])).symm)) (aO (T.os 2 3 0 (((e6++ [x1]).map (Qa true)).length)) Y (VRunO.nil (vinB.n (tn (sr (mO (T.os 2 3 0 (((e6++ [x1]).map (Qa true)).length)) Y (aO (T.os 2 3 0 (((e6++ [x1]).map (Qa true)).length)) Y (nt ?_)))))))))))
  refine rt ?_
  refine vcur.r (e6++ [x1]) 0 i16 h16 ?_ (VRes.tmp (t:=(T.os 2 3 0 (((e6++ [x1]).map (Qa true)).length))) Y VRes.nil) (Give.os Y Y (okeUsed.cleanMap _)) Y Y (by omega) (by decide)
  show gU 11 (e6++ [x1])
  first
  | (exact Zr hs6 (by omega))
  | (have hx1m:=List.mem_of_getElem? hx1;have hg1:=hs6.2 _ hx1m;exact Zr (Yd hs6 ⟨hs22,hg1.2⟩) (by omega))
  | (have hx1m:=List.mem_of_getElem? hx1;have hg1:=hs6.2 _ hx1m;simp only [List.mem_cons,List.not_mem_nil,or_false] at hs31;exact Zr (Yd hs6 ⟨hg1.1,show 0≤e31∧e31≤9223372036854775807 by omega⟩) (by omega))
  | (exact JA hs6 (List.mem_of_getElem? hx1))
 refine sk (vinB.n (tn (sr (mO (T.os 2 1 0 ((e6.map (Qa true)).length)) Y (aO (T.os 2 1 0 ((e6.map (Qa true)).length)) Y (nt (rt ?_)))))))
 refine vcur.r e6 0 i16 h16 ?_ (VRes.tmp (t:=(T.os 2 1 0 ((e6.map (Qa true)).length))) Y VRes.nil) (Give.os Y Y (okeUsed.cleanMap _)) Y Y (by omega) (by decide)
 show gU 11 e6
 first
 | (exact Zr hs6 (by omega))
 | (have hx1m:=List.mem_of_getElem? hx1;have hg1:=hs6.2 _ hx1m;exact Zr (Yd hs6 ⟨hs22,hg1.2⟩) (by omega))
 | (have hx1m:=List.mem_of_getElem? hx1;have hg1:=hs6.2 _ hx1m;simp only [List.mem_cons,List.not_mem_nil,or_false] at hs31;exact Zr (Yd hs6 ⟨hg1.1,show 0≤e31∧e31≤9223372036854775807 by omega⟩) (by omega))
 | (exact JA hs6 (List.mem_of_getElem? hx1))
theorem Jc (n:Nat) (code:List Int) (hcl:code.length≤mx):PureE (Qo Try.prog (n+7)) 26 [(rd 1 Qf code)] (fun x:List D.Used×ByteArray=>gU 11 x.1∧x.2.size≤10) (fun x:List D.Used×ByteArray=>(T.tup [(T.sl true 2 (x.1.map (Qa true))),(tS x.2)])):=by
 refine PureE.intro (rs:= [ResultVar.tmp 2,ResultVar.tmp 3]) Try.func26 Y Y Y (E0:= [(0,(rd 1 Qf code))]) Y ?_
 obtain ⟨hlim,hmx,hmax⟩:=QW
 refine sr (fO (OF.assign VEv.nils) (fO (OF.assign (VEv.str (⟨#[]⟩:ByteArray))) (nt (sr (mO (rd 1 Qf code) Y ?_)))))
 refine eN VWant.always (vc (tv (rd 1 Qf code) Y) vn) (ZN (n+5) code (by first | assumption | omega)) Y fun pb7 nb7 mb7 hn7=> ?_
 refine aO (T.op 0 0) Y (nt (sr (mO (T.op 0 0) Y ?_)))
 refine eC (us:= []) (r':=fun x_:List D.Used=>(T.os 2 1 0 ((x_.map (Qa true)).length))) (objs:=fun x_:List D.Used=> [(Obj.rows 2 (x_.map (Qa true)))]) (m:=1) (k:=0) 0 hn7 VWant.always (vc (tv (T.op 0 0) Y) vn) Y (by omega) ln (Y3 (n+0) code (by first | assumption | omega | (simp only [List.length_cons,List.length_nil];omega))) Y (fun _=>rfl) (fun _=>rfl) fun e9 i9 h9 hs9 hi9=> ?_
 have hs9:gU 11 e9:=hs9
 refine aO (T.os 2 1 0 ((e9.map (Qa true)).length)) Y (nt (sq (sr (mO (T.os 2 1 0 ((e9.map (Qa true)).length)) Y (lO (B.lenO (m:=e9.length) (tv (T.os 2 1 0 ((e9.map (Qa true)).length)) Y) Zc (List.length_map ..)) (fO (B.gtr (c:=(decide (0<e9.length))) (tv (tN e9.length) Y) (VEv.int .i64 0) (Zl (by omega))) (mO (tB (decide (0<e9.length))) Y ?_)))))))
 refine gw (0<e9.length) (fun fhg13_1=> ?_) fun fhg13_1=> ?_
 ·refine gF (dy fhg13_1) Y Y (OF.move (tv (T.op 0 0) Y)) ?_
  refine eC (us:= [(tN 2)]) (r':=fun x_:Bool=>(tB x_)) (objs:=fun x_:Bool=> []) (m:=0) (k:=0) i9 h9 (VWant.on Y Y (dy fhg13_1)) (vc (tv (T.op 0 0) Y) (vc (VEv.int .i64 2) vn)) Y (by omega) (YC Y) (QaR (n+3) code (2:Int) (by first | assumption | omega | (simp only [List.length_cons,List.length_nil];omega))) Y (fun _=>rfl) (fun _=>rfl) fun e15 i15 h15 hs15 hi15=> ?_
  have hs15:True:=hs15
  refine fO (OF.pickT (VEv.tmpB Y (dy fhg13_1)) (tv (tB e15) Y)) (nt ?_)
  refine VRun.cond (tv (tB e15) Y) (fun hc0=> ?_) (fun hc0=> ?_)
  ·have fhc0:e15=true:=hc0
   refine sq (VRun.draw (B:= [[],[],[1],[1,2],[2,1,3],[0],[0,5,3,1,2,4]]) (by kernel_rfl) (by kernel_rfl) (mD (T.os 2 1 0 ((e9.map (Qa true)).length)) Y Y (mD (T.os 2 1 0 ((e9.map (Qa true)).length)) Y Y ?_)))
   obtain ⟨x1,hx1⟩:∃x,e9[0]? =some x:=⟨_,List.getElem?_eq_getElem (by omega)⟩
   refine fD (B.indexAddrO (i:=0) (tv (T.os 2 1 0 ((e9.map (Qa true)).length)) Y) (VEv.int .i64 0) Y (by first | omega | (simp only [List.length_map];omega) | (simp only [List.length_map,List.length_append,List.length_cons,List.length_nil,List.length_replicate,List.length_set,List.length_drop,List.length_take,ZQ] at *;omega)) Zc Qx Z3) Y Y (fD (OF.fieldAddrP (tv (T.orp 2 1 0 0) Y) ZU) Y Y (lD (OL.loadP1 (t:=(tS x1.Word)) (row:=(Qa true x1)) (tv (T.orp 2 1 0 0) Y) Y (QE _ hx1) Y Y st9) Y Y (fD (OF.assign (tv (T.os 2 1 0 ((e9.map (Qa true)).length)) Y)) Y Y (fD (OF.assign (tv (tS x1.Word) Y)) Y Y (VRunD.nil (tn (rt (tr ?_))))))))
   refine vfinE.r (e9,x1.Word) ?_ (vfin.r (VRes.tmp (t:=(T.os 2 1 0 ((e9.map (Qa true)).length))) Y (VRes.tmp (t:=(tS x1.Word)) Y VRes.nil)) (Give.tup (GiveL.cons (Give.os Y Y (okeUsed.cleanMap _)) (GiveL.cons (Give.str _) GiveL.nil (by decide)) (by decide))))
   show gU 11 e9∧x1.Word.size≤10
   first | (exact ⟨hs9,(hs9.2 _ (List.mem_of_getElem? hx1)).1⟩) | (exact ⟨hs9,hs24⟩)
  have fhc0:e15=false:=hc0
  refine sk (tn (sr (mO (T.os 2 1 0 ((e9.map (Qa true)).length)) Y (mO (T.op 0 0) Y ?_))))
  refine eC (us:= []) (r':=fun x_:ByteArray=>(tS x_)) (objs:=fun x_:ByteArray=> []) (m:=0) (k:=0) i15 h15 VWant.always (vc (tv (T.op 0 0) Y) vn) Y (by omega) ln (ZM (n+1) code (by first | assumption | omega | (simp only [List.length_cons,List.length_nil];omega))) Y (fun _=>rfl) (fun _=>rfl) fun e24 i24 h24 hs24 hi24=> ?_
  have hs24:e24.size≤10:=hs24
  refine aO (T.os 2 1 0 ((e9.map (Qa true)).length)) Y (aO (tS e24) Y (nt (rt ?_)))
  refine vfinE.r (e9,e24) ?_ (vfin.r (VRes.tmp (t:=(T.os 2 1 0 ((e9.map (Qa true)).length))) Y (VRes.tmp (t:=(tS e24)) Y VRes.nil)) (Give.tup (GiveL.cons (Give.os Y Y (okeUsed.cleanMap _)) (GiveL.cons (Give.str _) GiveL.nil (by decide)) (by decide))))
  show gU 11 e9∧e24.size≤10
  first | (exact ⟨hs9,(hs9.2 _ (List.mem_of_getElem? hx1)).1⟩) | (exact ⟨hs9,hs24⟩)
 refine Yo 2 3 true 13 (dz fhg13_1) Y Y Y (fO (OF.pickF (VEv.tmpB Y (dz fhg13_1)) (VEv.bool false)) (nt (cf Y (sk (tn (sr (mO (T.os 2 1 0 ((e9.map (Qa true)).length)) Y (mO (T.op 0 0) Y ?_))))))))
 refine eC (us:= []) (r':=fun x_:ByteArray=>(tS x_)) (objs:=fun x_:ByteArray=> []) (m:=0) (k:=0) i9 h9 VWant.always (vc (tv (T.op 0 0) Y) vn) Y (by omega) ln (ZM (n+1) code (by first | assumption | omega | (simp only [List.length_cons,List.length_nil];omega))) Y (fun _=>rfl) (fun _=>rfl) fun e24 i24 h24 hs24 hi24=> ?_
 have hs24:e24.size≤10:=hs24
 refine aO (T.os 2 1 0 ((e9.map (Qa true)).length)) Y (aO (tS e24) Y (nt (rt ?_)))
 refine vfinE.r (e9,e24) ?_ (vfin.r (VRes.tmp (t:=(T.os 2 1 0 ((e9.map (Qa true)).length))) Y (VRes.tmp (t:=(tS e24)) Y VRes.nil)) (Give.tup (GiveL.cons (Give.os Y Y (okeUsed.cleanMap _)) (GiveL.cons (Give.str _) GiveL.nil (by decide)) (by decide))))
 show gU 11 e9∧e24.size≤10
 first | (exact ⟨hs9,(hs9.2 _ (List.mem_of_getElem? hx1)).1⟩) | (exact ⟨hs9,hs24⟩)
theorem Jo (n:Nat) (code:List Int) (hcl:code.length≤mx):PureE (Qo Try.prog (n+8)) 13 [(rd 1 Qf code)] (fun x:List D.Used×ByteArray×Int×Int=>gU 11 x.1∧x.2.1.size≤10∧(0≤x.2.2.1∧x.2.2.1≤1000)∧(-1≤x.2.2.2∧x.2.2.2≤1000)) (fun x:List D.Used×ByteArray×Int×Int=>(T.tup [(T.sl true 2 (x.1.map (Qa true))),(tS x.2.1),(tI x.2.2.1),(tI x.2.2.2)])):=by
 refine PureE.intro (rs:= [ResultVar.tmp 2,ResultVar.tmp 3,ResultVar.tmp 4,ResultVar.tmp 5]) Try.func13 Y Y Y (E0:= [(0,(rd 1 Qf code))]) Y ?_
 obtain ⟨hlim,hmx,hmax⟩:=QW
 refine sr (fO (OF.assign VEv.nils) (fO (OF.assign (VEv.str (⟨#[]⟩:ByteArray))) (fO (OF.assign (VEv.int .i64 0)) (fO (OF.assign (VEv.int .i64 0)) (nt (sr (mO (rd 1 Qf code) Y ?_)))))))
 refine eP (us:= [(rd 1 Qf code)]) (r':=fun x_:List D.Used×ByteArray=>(T.tup [(T.os 2 0 0 ((x_.1.map (Qa true)).length)),(tS x_.2)])) (objs:=fun x_:List D.Used×ByteArray=> [(Obj.rows 2 (x_.1.map (Qa true)))]) (m:=1) VWant.always (vc (tv (rd 1 Qf code) Y) vn) (YC Y) (Jc (n+0) code (by first | assumption | omega | (simp only [List.length_cons,List.length_nil];omega))) Y (fun _=>rfl) (fun _=>rfl) fun e11 hs11=> ?_
 have hs11:gU 11 e11.1∧e11.2.size≤10:=hs11
 refine mO (T.tup [(T.os 2 0 0 ((e11.1.map (Qa true)).length)),(tS e11.2)]) Y (fO (OF.extract (t:=(T.os 2 0 0 ((e11.1.map (Qa true)).length))) (tv (T.tup [(T.os 2 0 0 ((e11.1.map (Qa true)).length)),(tS e11.2)]) Y) Y) (fO (OF.extract (t:=(tS e11.2)) (tv (T.tup [(T.os 2 0 0 ((e11.1.map (Qa true)).length)),(tS e11.2)]) Y) Y) (aO (T.os 2 0 0 ((e11.1.map (Qa true)).length)) Y (aO (tS e11.2) Y (nt (sr (mO (rd 1 Qf code) Y ?_)))))))
 refine eN VWant.always (vc (tv (rd 1 Qf code) Y) vn) (ZN (n+6) code (by first | assumption | omega)) Y fun pb15 nb15 mb15 hn15=> ?_
 refine aO (T.op 1 0) Y (nt (sr (mO (T.os 2 0 0 ((e11.1.map (Qa true)).length)) Y (mO (tS e11.2) Y (mO (T.op 1 0) Y (kO (OM.buildSlice (l:= [(tN 1),(tN 3),(tN 6),(tN 9),(tN 0),(tN 1000)]) (VEvp.cons (VEv.int .i64 1) (VEvp.cons (VEv.int .i64 3) (VEvp.cons (VEv.int .i64 6) (VEvp.cons (VEv.int .i64 9) (VEvp.cons (VEv.int .i64 0) (VEvp.cons (VEv.int .i64 1000) VEvp.nil)))))) Y (by decide) (bc (nofun) (bc (nofun) (bc (nofun) (bc (nofun) (bc (nofun) (bc (nofun) bn)))))) (bc ((bc (Y) bn)) (bc ((bc (Y) bn)) (bc ((bc (Y) bn)) (bc ((bc (Y) bn)) (bc ((bc (Y) bn)) (bc ((bc (Y) bn)) bn)))))) (bc (Y) (bc (Y) (bc (Y) (bc (Y) (bc (Y) (bc (Y) bn)))))) U49 zo3 (by kernel_rfl) Y (by rw [sz3];decide) sz3 (Nat.le_of_ble_eq_true Y)) ?_))))))
 refine eC (us:= [(T.sl false 1 [[(tN 1)],[(tN 3)],[(tN 6)],[(tN 9)],[(tN 0)],[(tN 1000)]])]) (r':=fun x_:Int=>(tI x_)) (objs:=fun x_:Int=> []) (m:=0) (k:=1) 0 hn15 VWant.always (vc (tv (T.op 1 0) Y) (vc (tv (T.os 1 2 0 6) Y) vn)) Y (by omega) (LendL.cons (Lend.os Y Y Y) ln) (ZP (n+4) code [1,3,6,9,0,1000] (by first | assumption | omega | (simp only [List.length_cons,List.length_nil];omega)) (by first | assumption | omega | (simp only [List.length_cons,List.length_nil];omega)) (by first | assumption | omega | (simp only [List.length_cons,List.length_nil];omega))) Y (fun _=>rfl) (fun _=>rfl) fun e20 i20 h20 hs20 hi20=> ?_
 have hs20:e20∈ [1,3,6,9,0,1000]:=hs20
 refine mO (T.op 1 0) Y (kO (OM.buildSlice (l:= [(tN 0),(tN 1),(tN 2),(tN 5),(tI (-1)),(tN 1000)]) (VEvp.cons (VEv.int .i64 0) (VEvp.cons (VEv.int .i64 1) (VEvp.cons (VEv.int .i64 2) (VEvp.cons (VEv.int .i64 5) (VEvp.cons (VEv.int .i64 (-1)) (VEvp.cons (VEv.int .i64 1000) VEvp.nil)))))) Y (by decide) (bc (nofun) (bc (nofun) (bc (nofun) (bc (nofun) (bc (nofun) (bc (nofun) bn)))))) (bc ((bc (Y) bn)) (bc ((bc (Y) bn)) (bc ((bc (Y) bn)) (bc ((bc (Y) bn)) (bc ((bc (Y) bn)) (bc ((bc (Y) bn)) bn)))))) (bc (Y) (bc (Y) (bc (Y) (bc (Y) (bc (Y) (bc (Y) bn)))))) U49 zo3 (by kernel_rfl) Y (by rw [sz3];decide) sz3 (Nat.le_of_ble_eq_true Y)) ?_)
 refine eC (us:= [(T.sl false 1 [[(tN 0)],[(tN 1)],[(tN 2)],[(tN 5)],[(tI (-1))],[(tN 1000)]])]) (r':=fun x_:Int=>(tI x_)) (objs:=fun x_:Int=> []) (m:=0) (k:=1) i20 h20 VWant.always (vc (tv (T.op 1 0) Y) (vc (tv (T.os 1 3 0 6) Y) vn)) Y (by omega) (LendL.cons (Lend.os Y Y Y) ln) (ZP (n+4) code [0,1,2,5,(-1),1000] (by first | assumption | omega | (simp only [List.length_cons,List.length_nil];omega)) (by first | assumption | omega | (simp only [List.length_cons,List.length_nil];omega)) (by first | assumption | omega | (simp only [List.length_cons,List.length_nil];omega))) Y (fun _=>rfl) (fun _=>rfl) fun e23 i23 h23 hs23 hi23=> ?_
 have hs23:e23∈ [0,1,2,5,(-1),1000]:=hs23
 refine aO (T.os 2 0 0 ((e11.1.map (Qa true)).length)) Y (aO (tS e11.2) Y (aO (tI e20) Y (aO (tI e23) Y (nt (rt ?_)))))
 refine vfinE.r (e11.1,e11.2,e20,e23) ?_ (vfin.r (VRes.tmp (t:=(T.os 2 0 0 ((e11.1.map (Qa true)).length))) Y (VRes.tmp (t:=(tS e11.2)) Y (VRes.tmp (t:=(tI e20)) Y (VRes.tmp (t:=(tI e23)) Y VRes.nil)))) (Give.tup (GiveL.cons (Give.os Y Y (okeUsed.cleanMap _)) (GiveL.cons (Give.str _) (GiveL.cons (Give.int _ _) (GiveL.cons (Give.int _ _) GiveL.nil (by decide)) (by decide)) (by decide)) (by decide))))
 show gU 11 e11.1∧e11.2.size≤10∧(0≤e20∧e20≤1000)∧(-1≤e23∧e23≤1000)
 simp only [List.mem_cons,List.not_mem_nil,or_false] at hs20 hs23
 exact ⟨hs11.1,hs11.2,by omega,by omega⟩
theorem Jk (n:Nat) (code:List Int) (hcl:code.length≤mx):PureE (Qo Try.prog (n+7)) 10 [(rd 1 Qf code)] (fun x:List D.Used×List ByteArray×Int=>gU 11 x.1∧(x.2.1.length≤5∧∀y∈x.2.1,y.size≤10)∧(0≤x.2.2∧x.2.2≤1000)) (fun x:List D.Used×List ByteArray×Int=>(T.tup [(T.sl true 2 (x.1.map (Qa true))),(T.sl true 1 (x.2.1.map (Qd true))),(tI x.2.2)])):=by
 refine PureE.intro (rs:= [ResultVar.tmp 2,ResultVar.tmp 3,ResultVar.tmp 4]) Try.func10 Y Y Y (E0:= [(0,(rd 1 Qf code))]) Y ?_
 obtain ⟨hlim,hmx,hmax⟩:=QW
 refine sr (fO (OF.assign VEv.nils) (fO (OF.assign VEv.nils) (fO (OF.assign (VEv.int .i64 0)) (nt (sr (mO (rd 1 Qf code) Y ?_))))))
 refine eN VWant.always (vc (tv (rd 1 Qf code) Y) vn) (ZN (n+5) code (by first | assumption | omega)) Y fun pb8 nb8 mb8 hn8=> ?_
 refine aO (T.op 0 0) Y (nt (sr (mO (T.op 0 0) Y ?_)))
 refine eC (us:= []) (r':=fun x_:List D.Used=>(T.os 2 1 0 ((x_.map (Qa true)).length))) (objs:=fun x_:List D.Used=> [(Obj.rows 2 (x_.map (Qa true)))]) (m:=1) (k:=0) 0 hn8 VWant.always (vc (tv (T.op 0 0) Y) vn) Y (by omega) ln (Y3 (n+0) code (by first | assumption | omega | (simp only [List.length_cons,List.length_nil];omega))) Y (fun _=>rfl) (fun _=>rfl) fun e10 i10 h10 hs10 hi10=> ?_
 have hs10:gU 11 e10:=hs10
 refine aO (T.os 2 1 0 ((e10.map (Qa true)).length)) Y (nt (sr (mO (T.os 2 1 0 ((e10.map (Qa true)).length)) Y (mO (T.op 0 0) Y ?_))))
 refine eC (us:= []) (r':=fun x_:List ByteArray=>(T.os 1 2 0 ((x_.map (Qd true)).length))) (objs:=fun x_:List ByteArray=> [(Obj.rows 1 (x_.map (Qd true)))]) (m:=1) (k:=0) i10 h10 VWant.always (vc (tv (T.op 0 0) Y) vn) Y (by omega) ln (Y9 (n+0) code (by first | assumption | omega | (simp only [List.length_cons,List.length_nil];omega))) Y (fun _=>rfl) (fun _=>rfl) fun e13 i13 h13 hs13 hi13=> ?_
 have hs13:e13.length≤5∧∀y∈e13,y.size≤10:=hs13
 refine mO (T.op 0 0) Y (kO (OM.buildSlice (l:= [(tN 1),(tN 3),(tN 7),(tN 999),(tN 1000),(tN 0)]) (VEvp.cons (VEv.int .i64 1) (VEvp.cons (VEv.int .i64 3) (VEvp.cons (VEv.int .i64 7) (VEvp.cons (VEv.int .i64 999) (VEvp.cons (VEv.int .i64 1000) (VEvp.cons (VEv.int .i64 0) VEvp.nil)))))) Y (by decide) (bc (nofun) (bc (nofun) (bc (nofun) (bc (nofun) (bc (nofun) (bc (nofun) bn)))))) (bc ((bc (Y) bn)) (bc ((bc (Y) bn)) (bc ((bc (Y) bn)) (bc ((bc (Y) bn)) (bc ((bc (Y) bn)) (bc ((bc (Y) bn)) bn)))))) (bc (Y) (bc (Y) (bc (Y) (bc (Y) (bc (Y) (bc (Y) bn)))))) U49 zo3 (by kernel_rfl) Y (by rw [sz3];decide) sz3 (Nat.le_of_ble_eq_true Y)) ?_)
 refine eC (us:= [(T.sl false 1 [[(tN 1)],[(tN 3)],[(tN 7)],[(tN 999)],[(tN 1000)],[(tN 0)]])]) (r':=fun x_:Int=>(tI x_)) (objs:=fun x_:Int=> []) (m:=0) (k:=0) i13 h13 VWant.always (vc (tv (T.op 0 0) Y) (vc (tv (T.os 1 3 0 6) Y) vn)) Y (by omega) (LendL.cons (Lend.os Y Y Y) ln) (ZP (n+3) code [1,3,7,999,1000,0] (by first | assumption | omega | (simp only [List.length_cons,List.length_nil];omega)) (by first | assumption | omega | (simp only [List.length_cons,List.length_nil];omega)) (by first | assumption | omega | (simp only [List.length_cons,List.length_nil];omega))) Y (fun _=>rfl) (fun _=>rfl) fun e16 i16 h16 hs16 hi16=> ?_
 have hs16:e16∈ [1,3,7,999,1000,0]:=hs16
 refine aO (T.os 2 1 0 ((e10.map (Qa true)).length)) Y (aO (T.os 1 2 0 ((e13.map (Qd true)).length)) Y (aO (tI e16) Y (nt (rt ?_))))
 refine vfinE.r (e10,e13,e16) ?_ (vfin.r (VRes.tmp (t:=(T.os 2 1 0 ((e10.map (Qa true)).length))) Y (VRes.tmp (t:=(T.os 1 2 0 ((e13.map (Qd true)).length))) Y (VRes.tmp (t:=(tI e16)) Y VRes.nil))) (Give.tup (GiveL.cons (Give.os Y Y (okeUsed.cleanMap _)) (GiveL.cons (Give.os Y Y (okStr.cleanMap _)) (GiveL.cons (Give.int _ _) GiveL.nil (by decide)) (by decide)) (by decide))))
 show gU 11 e10∧(e13.length≤5∧∀y∈e13,y.size≤10)∧(0≤e16∧e16≤1000)
 simp only [List.mem_cons,List.not_mem_nil,or_false] at hs16
 exact ⟨hs10,hs13,by omega⟩
theorem Je (n:Nat) (code:List Int) (hcl:code.length≤mx):PureE (Qo Try.prog (n+9)) 5 [(rd 1 Qf code)] (fun x:List D.Used×List ByteArray×Int×Int=>gU 11 x.1∧(x.2.1.length≤7∧∀y∈x.2.1,y.size≤10)∧(0≤x.2.2.1∧x.2.2.1≤1000)∧(-1≤x.2.2.2∧x.2.2.2≤1000)) (fun x:List D.Used×List ByteArray×Int×Int=>(T.tup [(T.sl true 2 (x.1.map (Qa true))),(T.sl true 1 (x.2.1.map (Qd true))),(tI x.2.2.1),(tI x.2.2.2)])):=by
 refine PureE.intro (rs:= [ResultVar.tmp 2,ResultVar.tmp 3,ResultVar.tmp 4,ResultVar.tmp 5]) Try.func5 Y Y Y (E0:= [(0,(rd 1 Qf code))]) Y ?_
 obtain ⟨hlim,hmx,hmax⟩:=QW
 refine sr (fO (OF.assign VEv.nils) (fO (OF.assign VEv.nils) (fO (OF.assign (VEv.int .i64 0)) (fO (OF.assign (VEv.int .i64 0)) (nt (sr (mO (rd 1 Qf code) Y ?_)))))))
 refine eP (us:= [(rd 1 Qf code)]) (r':=fun x_:List D.Used×ByteArray×Int×Int=>(T.tup [(T.os 2 0 0 ((x_.1.map (Qa true)).length)),(tS x_.2.1),(tI x_.2.2.1),(tI x_.2.2.2)])) (objs:=fun x_:List D.Used×ByteArray×Int×Int=> [(Obj.rows 2 (x_.1.map (Qa true)))]) (m:=1) VWant.always (vc (tv (rd 1 Qf code) Y) vn) (YC Y) (Jo (n+0) code (by first | assumption | omega | (simp only [List.length_cons,List.length_nil];omega))) Y (fun _=>rfl) (fun _=>rfl) fun e15 hs15=> ?_
 have hs15:gU 11 e15.1∧e15.2.1.size≤10∧(0≤e15.2.2.1∧e15.2.2.1≤1000)∧(-1≤e15.2.2.2∧e15.2.2.2≤1000):=hs15
 refine mO (T.tup [(T.os 2 0 0 ((e15.1.map (Qa true)).length)),(tS e15.2.1),(tI e15.2.2.1),(tI e15.2.2.2)]) Y (fO (OF.extract (t:=(T.os 2 0 0 ((e15.1.map (Qa true)).length))) (tv (T.tup [(T.os 2 0 0 ((e15.1.map (Qa true)).length)),(tS e15.2.1),(tI e15.2.2.1),(tI e15.2.2.2)]) Y) Y) (fO (OF.extract (t:=(tS e15.2.1)) (tv (T.tup [(T.os 2 0 0 ((e15.1.map (Qa true)).length)),(tS e15.2.1),(tI e15.2.2.1),(tI e15.2.2.2)]) Y) Y) (fO (OF.extract (t:=(tI e15.2.2.1)) (tv (T.tup [(T.os 2 0 0 ((e15.1.map (Qa true)).length)),(tS e15.2.1),(tI e15.2.2.1),(tI e15.2.2.2)]) Y) Y) (fO (OF.extract (t:=(tI e15.2.2.2)) (tv (T.tup [(T.os 2 0 0 ((e15.1.map (Qa true)).length)),(tS e15.2.1),(tI e15.2.2.1),(tI e15.2.2.2)]) Y) Y) (aO (T.os 2 0 0 ((e15.1.map (Qa true)).length)) Y (aO (tS e15.2.1) Y (aO (tI e15.2.2.1) Y (aO (tI e15.2.2.2) Y (nt (sr (mO (rd 1 Qf code) Y ?_)))))))))))
 refine eN VWant.always (vc (tv (rd 1 Qf code) Y) vn) (ZN (n+7) code (by first | assumption | omega)) Y fun pb21 nb21 mb21 hn21=> ?_
 refine aO (T.op 1 0) Y (nt (sr (mO (T.op 1 0) Y ?_)))
 refine eC (us:= []) (r':=fun x_:List ByteArray=>(T.os 1 2 0 ((x_.map (Qd true)).length))) (objs:=fun x_:List ByteArray=> [(Obj.rows 1 (x_.map (Qd true)))]) (m:=1) (k:=1) 0 hn21 VWant.always (vc (tv (T.op 1 0) Y) vn) Y (by omega) ln (Y9 (n+2) code (by first | assumption | omega | (simp only [List.length_cons,List.length_nil];omega))) Y (fun _=>rfl) (fun _=>rfl) fun e23 i23 h23 hs23 hi23=> ?_
 have hs23:e23.length≤5∧∀y∈e23,y.size≤10:=hs23
 refine aO (T.os 1 2 0 ((e23.map (Qd true)).length)) Y (nt (sq (sr (fO (OF.assign (VEv.int .i64 0)) (nt (VRun.block ?_))))))
 refine VRun.loop (A:=Nat×(List ByteArray)) (fun s_=> [(2,T.nils),(3,T.nils),(4,(tN 0)),(5,(tN 0)),(6,(T.os 2 0 0 ((e15.1.map (Qa true)).length))),(8,(tI e15.2.2.1)),(9,(tI e15.2.2.2)),(11,(T.os 1 1 0 ((s_.2.map (Qd true)).length))),(12,(tN s_.1))]) (fun s_=>YW [(0,(Obj.rows 2 (e15.1.map (Qa true)))),(1,(Obj.rows 1 (s_.2.map (Qd true))))]) 2 (fun s_=>s_.1≤2∧s_.1≤e15.1.length∧s_.2.length≤5+s_.1∧∀y∈s_.2,y.size≤10) (fun s_=>2 - s_.1) ((0,e23):Nat×(List ByteArray)) ?_ (Wk.mk (fun k=>if k=1 then 2 else k) ?_ ?_ ?_) ?_
 ·exact ⟨by omega,by omega,hs23.1,hs23.2⟩
 ·exact (b2 (b2 (b2 (b2 (b2 (b2 (b2 (b2 (b2 bn)))))))))
 ·exact (b3 (b3 bn))
 ·exact nd Y
 rintro ⟨k,w⟩ (hI':k≤2∧k≤e15.1.length∧w.length≤5+k∧∀y∈w,y.size≤10)
 show VRun _ _ _ [(2,T.nils),(3,T.nils),(4,(tN 0)),(5,(tN 0)),(6,(T.os 2 0 0 ((e15.1.map (Qa true)).length))),(8,(tI e15.2.2.1)),(9,(tI e15.2.2.2)),(11,(T.os 1 1 0 ((w.map (Qd true)).length))),(12,(tN k))] (YW [(0,(Obj.rows 2 (e15.1.map (Qa true)))),(1,(Obj.rows 1 (w.map (Qd true))))]) 2 _
 have hI1:=hI'.1
 have hI2:=hI'.2.1
 have hI3:=hI'.2.2.1
 have hI4:=hI'.2.2.2
 refine sq (sr (mO (tN k) Y (mO (T.os 2 0 0 ((e15.1.map (Qa true)).length)) Y (lO (B.lenO (m:=e15.1.length) (tv (T.os 2 0 0 ((e15.1.map (Qa true)).length)) Y) Zc (List.length_map ..)) (fO (YM (tv (tN k) Y) (tv (tN e15.1.length) Y)) (mO (tB (decide (k<e15.1.length))) Y ?_))))))
 refine gw (k<e15.1.length) (fun fhg28_1=> ?_) fun fhg28_1=> ?_
 ·refine gF (dy fhg28_1) Y Y (OF.move (tv (tN k) Y)) ?_
  refine gF (dy fhg28_1) Y Y (B.lss (c:=(decide (k<2))) (tv (tN k) Y) (VEv.int .i64 2) (Zl (by omega))) (fO (OF.pickT (VEv.tmpB Y (dy fhg28_1)) (tv (tB (decide (k<2))) Y)) (nt ?_))
  refine cd (k<2) Y (fun fhc0=> ?_) fun fhc0=> ?_
  ·refine sk ?_
   refine tn (sq (VRun.block (VRun.region (mO (T.os 1 1 0 ((w.map (Qd true)).length)) Y (mO (T.os 2 0 0 ((e15.1.map (Qa true)).length)) Y (mO (tN k) Y ?_))))))
   obtain ⟨x1,hx1⟩:∃x,e15.1[k]? =some x:=⟨_,List.getElem?_eq_getElem (by omega)⟩
   refine fO (B.indexAddrO (i:=k) (tv (T.os 2 0 0 ((e15.1.map (Qa true)).length)) Y) (tv (tN k) Y) Y (by first | omega | (simp only [List.length_map];omega) | (simp only [List.length_map,List.length_append,List.length_cons,List.length_nil,List.length_replicate,List.length_set,List.length_drop,List.length_take,ZQ] at *;omega)) Zc Qx Z3) (fO (OF.fieldAddrP (tv (T.orp 2 0 k 0) Y) ZU) (lO (OL.loadP1 (t:=(tS x1.Word)) (row:=(Qa true x1)) (tv (T.orp 2 0 k 0) Y) Y (QE _ hx1) Y Y st9) (kO (OM.buildSlice (l:= [(tS x1.Word)]) (VEvp.cons (tv (tS x1.Word) Y) VEvp.nil) Y (by decide) (bc (nofun) bn) (bc ((bc (Y) bn)) bn) (bc (Y) bn) Jm zo9 (by kernel_rfl) Y (by rw [JH];decide) JH (Nat.le_of_ble_eq_true Y)) (cO (B.append (rows:=(w.map (Qd true))) (rows2:= [[(tS x1.Word)]]) (rows3:=((w++ [x1.Word]).map (Qd true))) (VDst.own (tv (T.os 1 1 0 ((w.map (Qd true)).length)) Y) Y Y) (VSrc.own (tv (T.os 1 2 0 1) Y) Y Y Jm (bc (bc Y bn) bn)) (by decide) Jm JH (by decide) zo9 Y (of_decide_eq_true (by kernel_rfl)) (by first | omega | (simp only [List.length_map];omega) | (simp only [List.length_map,List.length_append,List.length_cons,List.length_nil,List.length_replicate,List.length_set,List.length_drop,List.length_take,ZQ] at *;omega)) ((List.map_append (f:=Qd true) (l₁:=w) (l₂:= [x1.Word])).symm)) (aO (T.os 1 3 0 (((w++ [x1.Word]).map (Qd true)).length)) Y (VRunO.nil (vinB.n (tn (VRun.region (mO (tN k) Y (fO (Yk (tv (tN k) Y) (VEv.int .i64 1) (by omega)) ?_)))))))))))
   refine aO (tN (k+1)) Y (VRunO.nil (tn ?_))
   refine ⟨((k+1,w++ [x1.Word]):Nat×(List ByteArray)),?_,?_,Wk.mk (fun k=>if k=1 then 3 else k) ?_ ?_ ?_⟩
   ·refine ⟨by omega,by omega,?_,QcR hI4 (hs15.1.2 _ (List.mem_of_getElem? hx1)).1⟩
    simp only [List.length_append,List.length_cons,List.length_nil];omega
   ·first | omega | (simp only [];omega) | (show _<_;omega) | (simp;omega)
   ·exact (b2 (b2 (b2 (b2 (b2 (b2 (b2 (b2 (b2 bn)))))))))
   ·exact (b3 (b3 bn))
   ·exact nd Y
  refine VRun.exit (vthn.e (vthn.e (vinB.e (tn (sr (mO (T.os 2 0 0 ((e15.1.map (Qa true)).length)) Y (mO (T.os 1 1 0 ((w.map (Qd true)).length)) Y (mO (tI e15.2.2.1) Y (mO (tI e15.2.2.2) Y (aO (T.os 2 0 0 ((e15.1.map (Qa true)).length)) Y (aO (T.os 1 1 0 ((w.map (Qd true)).length)) Y ?_)))))))))))
  refine aO (tI e15.2.2.1) Y (aO (tI e15.2.2.2) Y (nt (rt ?_)))
  refine vfinE.r (e15.1,w,e15.2.2.1,e15.2.2.2) ?_ (vfin.r (VRes.tmp (t:=(T.os 2 0 0 ((e15.1.map (Qa true)).length))) Y (VRes.tmp (t:=(T.os 1 1 0 ((w.map (Qd true)).length))) Y (VRes.tmp (t:=(tI e15.2.2.1)) Y (VRes.tmp (t:=(tI e15.2.2.2)) Y VRes.nil)))) (Give.tup (GiveL.cons (Give.os Y Y (okeUsed.cleanMap _)) (GiveL.cons (Give.os Y Y (okStr.cleanMap _)) (GiveL.cons (Give.int _ _) (GiveL.cons (Give.int _ _) GiveL.nil (by decide)) (by decide)) (by decide)) (by decide))))
  show gU 11 e15.1∧(w.length≤7∧∀y∈w,y.size≤10)∧(0≤e15.2.2.1∧e15.2.2.1≤1000)∧(-1≤e15.2.2.2∧e15.2.2.2≤1000)
  exact ⟨hs15.1,⟨by omega,hI4⟩,hs15.2.2.1,hs15.2.2.2⟩
 refine Yo 2 4 true 28 (dz fhg28_1) Y Y Y (fO (OF.pickF (VEv.tmpB Y (dz fhg28_1)) (VEv.bool false)) (nt (cf Y (VRun.exit (vthn.e (vthn.e (vinB.e (tn (sr (mO (T.os 2 0 0 ((e15.1.map (Qa true)).length)) Y (mO (T.os 1 1 0 ((w.map (Qd true)).length)) Y ?_)))))))))))
 refine mO (tI e15.2.2.1) Y (mO (tI e15.2.2.2) Y (aO (T.os 2 0 0 ((e15.1.map (Qa true)).length)) Y (aO (T.os 1 1 0 ((w.map (Qd true)).length)) Y (aO (tI e15.2.2.1) Y (aO (tI e15.2.2.2) Y (nt (rt ?_)))))))
 refine vfinE.r (e15.1,w,e15.2.2.1,e15.2.2.2) ?_ (vfin.r (VRes.tmp (t:=(T.os 2 0 0 ((e15.1.map (Qa true)).length))) Y (VRes.tmp (t:=(T.os 1 1 0 ((w.map (Qd true)).length))) Y (VRes.tmp (t:=(tI e15.2.2.1)) Y (VRes.tmp (t:=(tI e15.2.2.2)) Y VRes.nil)))) (Give.tup (GiveL.cons (Give.os Y Y (okeUsed.cleanMap _)) (GiveL.cons (Give.os Y Y (okStr.cleanMap _)) (GiveL.cons (Give.int _ _) (GiveL.cons (Give.int _ _) GiveL.nil (by decide)) (by decide)) (by decide)) (by decide))))
 show gU 11 e15.1∧(w.length≤7∧∀y∈w,y.size≤10)∧(0≤e15.2.2.1∧e15.2.2.1≤1000)∧(-1≤e15.2.2.2∧e15.2.2.2≤1000)
 exact ⟨hs15.1,⟨by omega,hI4⟩,hs15.2.2.1,hs15.2.2.2⟩
noncomputable section
instance (w:ByteArray) (l:List ByteArray):Decidable (w∈l):=Classical.propDecidable _
end
theorem ZD (n:Nat) (a:List ByteArray) (b:ByteArray) (ha:a.length≤ZQ):Pure (Qo Try.prog (n+1)) 29 [(rd 1 Qd a),(tS b)] (tI (ixF (fun y=>b=y) a)):=by
 refine Pure.intro (rs:= [ResultVar.tmp 4]) Try.func29 Y Y Y (E0:= [(0,(rd 1 Qd a)),(1,(tS b))]) Y ?_
 obtain ⟨hlim,hmx,hmax⟩:=QW
 refine sr (fO (OF.assign (VEv.int .i64 0)) (nt (sq (sr (mO (rd 1 Qd a) Y (lO (B.lenR (m:=a.length) (tv (rd 1 Qd a) Y) Jm (List.length_map ..)) (fO (OF.move (VEv.int .i64 0)) (nt (VRun.block ?_)))))))))
 refine VRun.loop (A:=Nat) (fun s_=> [(0,(rd 1 Qd a)),(1,(tS b)),(7,(tN a.length)),(8,(tN s_))]) (fun s_=>YW []) 0 (fun s_=>NoneTo (fun y=>b=y) a s_) (fun s_=>a.length - s_) (0:Nat) ?_ (Wk.mk (fun k=>k) ?_ ?_ ?_) ?_
 ·exact NoneTo.start _ _
 ·exact (b2 (b2 (b2 (b2 bn))))
 ·exact bn
 ·exact nd Y
 rintro i (hI':NoneTo (fun y=>b=y) a i)
 show VRun _ _ _ [(0,(rd 1 Qd a)),(1,(tS b)),(7,(tN a.length)),(8,(tN i))] (YW []) 0 _
 have hI1:=hI'.1
 refine sr (fO (YM (tv (tN i) Y) (tv (tN a.length) Y)) (nt (sq ?_)))
 refine cd (i<a.length) Y (fun fhc0=> ?_) fun fhc0=> ?_
 ·refine sk ?_
  refine tn (sq (VRun.block (sr (mO (tN i) Y (aO (tN i) Y (nt (sr (mO (tS b) Y (mO (rd 1 Qd a) Y (mO (tN i) Y ?_))))))))))
  obtain ⟨x1,hx1⟩:∃x,a[i]? =some x:=⟨_,List.getElem?_eq_getElem (by omega)⟩
  refine fO (OF.indexAddrR (row:=(Qd false x1)) (i:=i) (tv (rd 1 Qd a) Y) (tv (tN i) Y) Y (QE _ hx1) Jm JH if9) (lO (OL.loadR1 (t:=(tS x1)) (tv (T.rp [(tS x1)]) Y) Y st9) (fO (B.seql (c:=(decide (b=x1))) (tv (tS b) Y) (tv (tS x1) Y) Y) (nt ?_)))
  refine cd (b=x1) Y (fun fhc1=> ?_) fun fhc1=> ?_
  ·refine sr ?_
   refine mO (tN i) Y (aO (tN i) Y (nt (rt (vinB.r (tr (tr (vinB.r (tr (vi (n':=((i:Nat):Int)) Y ?_)))))))))
   exact (Qa5 hx1 fhc1 hI'.2).symm
  refine sk (vinB.n (tn (VRun.region (fO (Yk (tv (tN i) Y) (VEv.int .i64 1) (by omega)) (mO (tN (i+1)) Y (VRunO.nil (tn ?_)))))))
  refine ⟨(i+1:Nat),?_,?_,Wk.mk (fun k=>k) ?_ ?_ ?_⟩
  ·exact hI'.next hx1 fhc1
  ·first | omega | (simp only [];omega) | (show _<_;omega) | (simp;omega)
  ·exact (b2 (b2 (b2 (b2 bn))))
  ·exact bn
  ·exact nd Y
 refine VRun.exit (vthn.e (vthn.e (vinB.e (tn (sr (fO (OF.assign (VEv.int .i64 (-1))) (nt (rt (vi (n':=(-1)) Y ?_)))))))))
 exact (QbY (hI'.all fhc0)).symm
theorem Zn (n:Nat) (a:List ByteArray) (b:ByteArray) (ha:a.length≤ZQ):Pure (Qo Try.prog (n+2)) 19 [(rd 1 Qd a),(tS b)] (tB (decide (b∈a))):=by
 refine Pure.intro (rs:= [ResultVar.tmp 4]) Try.func19 Y Y Y (E0:= [(0,(rd 1 Qd a)),(1,(tS b))]) Y ?_
 obtain ⟨hlim,hmx,hmax⟩:=QW
 refine sr (fO (OF.assign (VEv.bool false)) (nt (sr (mO (rd 1 Qd a) Y (mO (tS b) Y (cO (cS (vc (tv (rd 1 Qd a) Y) (vc (tv (tS b) Y) vn)) (YC Y) (ZD (n+0) a b (by first | assumption | omega)) Y Y) (fO (xge (tv (tI (ixF (fun y=>b=y) a)) Y) (VEv.int .i64 0)) (aO (tB (decide (0≤ixF (fun y=>b=y) a))) Y (nt (rt (vb (b':=(decide (0≤ixF (fun y=>b=y) a))) Y ?_)))))))))))
 refine Zl ?_
 rw [QdE]
 exact ⟨fun ⟨x,h1,h2⟩=>h2▸h1,fun h=>⟨b,h,rfl⟩⟩
end Go.Proofs.Ytcglnehpapgfpaa.AE
