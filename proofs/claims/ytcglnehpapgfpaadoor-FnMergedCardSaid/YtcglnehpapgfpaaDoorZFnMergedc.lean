/- A part of what the row of FnMerged uses. Conditions: as each theorem states. -/
import Derived.Test.YtcglnehpapgfpaaDoorZFnMergedb
import Derived.Test.YtcglnehpapgfpaaDoorProg
import Derived.KernelRfl
namespace Go.Proofs.YtcglnehpapgfpaaDoor.AE
open Go Go.RowKit
set_option linter.unusedVariables false
set_option linter.unusedSimpArgs false
structure D.Note where
 Cell:Int
 Letter:ByteArray
 Tick:Int
 Who:Int
structure D.Grid where
 Rows:Int
 Cols:Int
 Cells:ByteArray
theorem st1 : QD Tryd.prog 1=some false:=by kernel_rfl
theorem Zo : QD Tryd.prog 3=some false:=by kernel_rfl
theorem sz3 : Tryd.prog.cellsOf 3=1:=by kernel_rfl
theorem if3 : (Tryd.prog.info? 3).isSome=true:=by kernel_rfl
theorem zo3 : Zg Tryd.prog 3=some (.int .i64 0):=by kernel_rfl
theorem st5 : QD Tryd.prog 5=some false:=by kernel_rfl
theorem sz5 : Tryd.prog.cellsOf 5=1:=by kernel_rfl
theorem if5 : (Tryd.prog.info? 5).isSome=true:=by kernel_rfl
theorem Y7 : QD Tryd.prog 9=some false:=by kernel_rfl
theorem sz9 : Tryd.prog.cellsOf 9=1:=by kernel_rfl
theorem if9 : (Tryd.prog.info? 9).isSome=true:=by kernel_rfl
theorem zo9 : Zg Tryd.prog 9=some (.string ByteArray.empty):=by kernel_rfl
theorem Qg9 : QD Tryd.prog 22=some false:=by kernel_rfl
theorem QhC : Tryd.prog.cellsOf 22=1:=by kernel_rfl
theorem Qhy : (Tryd.prog.info? 22).isSome=true:=by kernel_rfl
theorem Q6 : QD Tryd.prog 49=some true:=by kernel_rfl
theorem Qh : Tryd.prog.cellsOf 49=4:=by kernel_rfl
theorem Q7 : (Tryd.prog.info? 49).isSome=true:=by kernel_rfl
theorem QL : Zg Tryd.prog 49=some (.agg #[.int .i64 0, .string ByteArray.empty, .int .i64 0, .int .i64 0]):=by kernel_rfl
theorem Qbm : closedV (.agg #[.int .i64 0, .string ByteArray.empty, .int .i64 0, .int .i64 0])=true:=by kernel_rfl
theorem ZF : QD Tryd.prog 52=some true:=by kernel_rfl
theorem Q9 : Tryd.prog.cellsOf 52=3:=by kernel_rfl
theorem Jz : (Tryd.prog.info? 52).isSome=true:=by kernel_rfl
theorem QaJ : Zg Tryd.prog 52=some (.agg #[.int .i64 0, .int .i64 0, .string ByteArray.empty]):=by kernel_rfl
theorem Qb6 : closedV (.agg #[.int .i64 0, .int .i64 0, .string ByteArray.empty])=true:=by kernel_rfl
theorem Qhf : Zg Tryd.prog 89=some (.agg #[.slice none 0 0, .int .i64 0, .int .i64 0]):=by kernel_rfl
theorem Ze (k o:Nat):Qs Tryd.prog 49 (.pointer (some ⟨k,o,none⟩)) 0=some (.pointer (some ⟨k,o+0,none⟩)):=by simp [Qs,Tryd.underlying49,if3,sz3]
theorem ZA (k o:Nat):Qs Tryd.prog 49 (.pointer (some ⟨k,o,none⟩)) 1=some (.pointer (some ⟨k,o+1,none⟩)):=by simp [Qs,Tryd.underlying49,if9,sz9]
theorem ZG (k o:Nat):Qs Tryd.prog 49 (.pointer (some ⟨k,o,none⟩)) 2=some (.pointer (some ⟨k,o+2,none⟩)):=by simp [Qs,Tryd.underlying49,if3,sz3]
theorem ZD (k o:Nat):Qs Tryd.prog 49 (.pointer (some ⟨k,o,none⟩)) 3=some (.pointer (some ⟨k,o+3,none⟩)):=by simp [Qs,Tryd.underlying49,if3,sz3]
theorem Y4 (k o:Nat):Qs Tryd.prog 52 (.pointer (some ⟨k,o,none⟩)) 0=some (.pointer (some ⟨k,o+0,none⟩)):=by simp [Qs,Tryd.underlying52,if3,sz3]
theorem YH (k o:Nat):Qs Tryd.prog 52 (.pointer (some ⟨k,o,none⟩)) 1=some (.pointer (some ⟨k,o+1,none⟩)):=by simp [Qs,Tryd.underlying52,if3,sz3]
theorem Za (k o:Nat):Qs Tryd.prog 52 (.pointer (some ⟨k,o,none⟩)) 2=some (.pointer (some ⟨k,o+2,none⟩)):=by simp [Qs,Tryd.underlying52,if9,sz9]
theorem Qfq (k o:Nat):Qs Tryd.prog 89 (.pointer (some ⟨k,o,none⟩)) 0=some (.pointer (some ⟨k,o+0,none⟩)):=by simp [Qs,Tryd.underlying89,Qhy,QhC]
theorem QcO (k o:Nat):Qs Tryd.prog 89 (.pointer (some ⟨k,o,none⟩)) 1=some (.pointer (some ⟨k,o+1,none⟩)):=by simp [Qs,Tryd.underlying89,if3,sz3]
theorem Qcy (k o:Nat):Qs Tryd.prog 89 (.pointer (some ⟨k,o,none⟩)) 2=some (.pointer (some ⟨k,o+2,none⟩)):=by simp [Qs,Tryd.underlying89,if3,sz3]
theorem Qhx (a b:D.Note):∃q,eqv Tryd.prog 20 49 (.agg #[Value.int .i64 a.Cell,Value.string a.Letter,Value.int .i64 a.Tick,Value.int .i64 a.Who]) (.agg #[Value.int .i64 b.Cell,Value.string b.Letter,Value.int .i64 b.Tick,Value.int .i64 b.Who])=some q∧(q=true↔a=b):=by
 refine ⟨_,QdJ 19 Tryd.underlying49 Y (by kernel_rfl) (eqf_cons Y (Z1 Zo Y) (Z1 Zo Y) (Qct 18 Tryd.underlying3) (eqf_cons Y (Z1 Y7 Y) (Z1 Y7 Y) (QfW 18 Tryd.underlying9) (eqf_cons Y (Z1 Zo Y) (Z1 Zo Y) (Qct 18 Tryd.underlying3) (eqf_cons Y (Z1 Zo Y) (Z1 Zo Y) (Qct 18 Tryd.underlying3) Qgf)))),?_⟩
 obtain ⟨a0,a1,a2,a3⟩:=a
 obtain ⟨b0,b1,b2,b3⟩:=b
 simp
theorem Qg8 (a b:D.Note) (xo yo:Operand):∃q,Zd Tryd.prog .neq 49 xo yo (.agg #[Value.int .i64 a.Cell,Value.string a.Letter,Value.int .i64 a.Tick,Value.int .i64 a.Who]) (.agg #[Value.int .i64 b.Cell,Value.string b.Letter,Value.int .i64 b.Tick,Value.int .i64 b.Who])=some (.bool (!q))∧(q=true↔a=b):=by
 obtain ⟨q,h1,h2⟩:=Qhx a b
 exact ⟨q,QfK (by simp [closedV,closed1]) (by simp [closedV,closed1]) (by kernel_rfl) h1,h2⟩
theorem follows : Tryd.prog.follows .mixedOrders=true:=by kernel_rfl
theorem QeG : Plain Tryd.prog:=by
 unfold Plain
 kernel_rfl
def OCE {α:Type} (call:QC) (P:Program) (E:QQ) (O:Qq) (nx:Nat) (o:Oper) (X:α→Prop) (t:α→T) (O':α→Qq) (nx':Nat) (ks:List Nat):Prop:=nx≤nx'∧∀(q p:Nat) (h0:LB) (σ:Nat→Option Nat) (hf:AH) (own:Nat→Option Nat) (Ea:Nat→Value) (h:AH),SR p h0 σ hf own E O nx Ea h→(∀t,Under q t→UL p h0 t)→Fr q h →
 ∃x,X x∧∃v h' σ' own',Qr call P q Ea h o=some (v,h')∧Dom q h h'∧(∀k,k<nx→σ' k=σ k)∧SR p h0 σ' hf own' E (O' x) nx' Ea h'∧V σ' hf nx' (t x) v∧(∀a,h a≠none→(∀k∈ks,own a≠some k)→h' a=h a)∧∀a k,own' a=some k→own a=some k∨h a=none∨∃k∈ks,own a=some k
section
variable {α : Type} {call : QC} {P : Program} {ops : Array Oper} {l : List Oper} {E : QQ} {O : Qq} {nx nx' : Nat} {X : α → Prop} {t : α → T} {O' : α → Qq} {K : QQ → Qq → Nat → Prop}
theorem VRunO.chainE {d:Option Tmp} {op:Op} {ty:TypeId} {ps:String} {af:Array Edge} {g:Option (Nat×Bool)} (hw:VWant ops E ⟨d,op,ty,ps,af,g⟩ true) {ks:List Nat} (hx:OCE call P E O nx ⟨d,op,ty,ps,af,g⟩ X t O' nx' ks) (hk:∀x,X x→VRunO call P ops l (pE E d (t x)) (O' x) nx' K):VRunO call P ops (⟨d,op,ty,ps,af,g⟩::l) E O nx K:=by
 unfold VRunO at hk ⊢
 intro p h0 σ hf own Ea h c i hs
 unfold RunO
 intro hfc
 obtain ⟨x,hX,v,h',σ',own',h1,h2,h3,h4,h5,_⟩:=hx.2 (child p (c+i)) p h0 σ hf own Ea h hs (fun t ht=> .inl (Yj ht)) (FrC.fr hfc (Nat.le_refl _))
 have:=RunO.step (call:=call) (P:=P) (π:=p) (c:=c) (i:=i) (ops:=ops) (r:=l) (K:=KK p h0 K) Y Y (hw σ hf nx Ea hs.env) h1 (fun _=>h2) (fun _=>hk x hX p h0 _ hf _ _ _ c _ (h4.put h5 d))
 unfold RunO at this
 exact this hfc
variable {B : List (List Nat)} {i i' nb : Nat} {q : Bool} {Ob OL1 : Qq} {al : List (Nat × Nat × Obj)} {fl bi : List Nat}
theorem VRunD.chainXE {d:Option Tmp} {op:Op} {ty:TypeId} {ps:String} {af:Array Edge} {g:Option (Nat×Bool)} {q':Bool} {ks:List Nat} (hi:i+1=i') (hw:VWant ops E ⟨d,op,ty,ps,af,g⟩ true) (hc:Y3 P op= .chain) (hb:B.getD i []=bi) (hl:QbU (fun a=>bi.contains a && !fl.contains a) al O=OL1)
  (hx:(Yw P ops bi=true∧q'=false)∨(q=true∧q'=true∧∀k∈ks,nb≤k)) (hop:OCE call P E OL1 nx ⟨d,op,ty,ps,af,g⟩ X t O' nx' ks) (hk:∀x,X x→VRunD call P ops B l i' (pE E d (t x)) (O' x) Ob nx' nb q' al (bi++fl) K) :
  VRunD call P ops B (⟨d,op,ty,ps,af,g⟩::l) i E O Ob nx nb q al fl K:=by
 unfold VRunD at hk ⊢
 intro p c h0 σ hf own ownb Ea base C ala hs
 subst hl
 unfold RunD
 intro hfc hlt
 obtain ⟨⟨own1,g1,g4⟩,g2,g3⟩:=hs.laid bi
 have hlt':∀x∈al,x.1<i:=fun x hx=>by
  have:x.1∈ala.map (·.1):=by rw [hs.alr.idx];exact List.mem_map_of_mem hx
  obtain ⟨y,hy,e⟩:=List.mem_map.1 this
  rw [← e];exact hlt y hy
 have hfl:FrC p (c+i) (AE.lay p c (fun a=>bi.contains a && !fl.contains a) ala C):=QcB hfc hlt
 have hfr:Fr (child p (c+i)) (AE.lay p c (fun a=>bi.contains a && !fl.contains a) ala C):=FrC.fr hfl (Nat.le_refl _)
 have hnn:=hop.1
 obtain ⟨w,hX,v,h',σ',own',a1,a2,a3,a4,a5,a6,a7⟩:=hop.2 (child p (c+i)) p h0 σ hf own1 Ea _ g1 (fun t ht=> .inl (Yj ht)) hfr
 have hq:(Yw P ops bi=true∧q'=false)∨(Quiet base h'∧∀a k,base a≠none→own' a=some k→k<nb):=by
  rcases hx with hx | ⟨x1,x2,x3⟩
  ·exact .inl hx
  ·obtain ⟨y1,y2⟩:=hs.qui x1
   have y3:∀u,base u≠none→C u≠none:=fun u hu=>by rw [y1 u hu];exact hu
   have y4:∀u k,base u≠none→own1 u=some k→k<nb:=fun u k hu hk1=>by
    rcases g4 u k hk1 with e | e
    ·exact y2 u k hu e
    ·exact absurd e (y3 u hu)
   refine .inr ⟨fun u hu=> ?_,fun u k hu hk1=> ?_⟩
   ·have e2:=g2 u (y3 u hu)
    rw [a6 u (by rw [e2];exact y3 u hu) (fun k hk2 e=>by have:=y4 u k hu e;have:=x3 k hk2;omega),e2,y1 u hu]
   ·rcases a7 u k hk1 with e | e | ⟨k2,hk2,e⟩
    ·exact y4 u k hu e
    ·rw [g2 u (y3 u hu)] at e
     exact absurd e (y3 u hu)
    ·have:=y4 u k2 hu e
     have:=x3 k2 hk2
     omega
 have hnew:SRD p c h0 σ' hf own' ownb E (O' w) Ob nx' nb q' al (bi++fl) Ea base h' ala:=by
  refine ⟨a4,hs.bas.ext hnn a3 (fun _ _ e=>e) (fun _ _ e=> .inl e) (fun _ _=>rfl) hs.bas.dom,fun e=> ?_,Nat.le_trans hs.nbx hnn,hs.alr.mono hnn a3,fun x hx hn=> ?_,hs.idx⟩
  ·rcases hq with ⟨_,hq⟩ | hq
   ·rw [hq] at e;cases e
   ·exact hq
  ·rw [List.contains_eq_any_beq,List.any_append,Bool.or_eq_false_iff,← List.contains_eq_any_beq,← List.contains_eq_any_beq] at hn
   have e1:AE.lay p c (fun a=>bi.contains a && !fl.contains a) ala C (Qg (child p (c+x.1)))=none:=by
    rw [g3 x.1 (fun y hy hcy e=> ?_)]
    ·exact hs.fre x hx hn.2
    ·rw [e,hn.1] at hcy
     cases hcy
   cases hh:h' (Qg (child p (c+x.1))) with
   | none=>rfl
   | some z =>
    rcases a2 _ (by rw [hh];simp) with h5 | h5
    ·exact absurd e1 h5
    ·have h6:=Under.apart (Qv (child p (c+x.1))) h5
     have:=hlt' x hx
     omega
 have:=RunD.chain (call:=call) (P:=P) (π:=p) (c:=c) (i:=i) (ops:=ops) (B:=B) (base:=base) (r:=l) (fl:=fl) (C:=C) (al:=ala) (D:=fun E' C' al' fl'=>KK p h0 K E' (AE.lay p c (fun a=> !fl'.contains a) al' C')) hi Y (hw σ hf nx Ea hs.cur.env) hc hb Y a1
  (hq.imp (fun e=>e.1) (fun e=>e.1)) (fun _=>a2) (fun _=>hk w hX p c h0 σ' hf own' ownb _ base h' ala (hnew.put a5 d))
 unfold RunD at this
 exact this hfc hlt
end
def PureE {α:Type} (call:QC) (f:FuncId) (us:List T) (X:α→Prop) (r:α→T):Prop:=∀(h:AH) (p:Nat) (vs:List Value),Fr p h→RL h us vs→CallS call f vs h p (fun v h'=>Quiet h h'∧∃x,X x∧RES p h h' (r x) v)
def vfinE {α:Type} (P:Program) (rs:List ResultVar) (X:α→Prop) (r:α→T):AX→QQ→Qq→Nat→Prop
 | .exit _,_,_,_=>False
 | _,E,O,_=>∃x,X x∧∃ts ks,VRes P E O rs ts∧Give O ks (Qb2 ts) (r x)
theorem vfinE.r {α:Type} {P:Program} {rs:List ResultVar} {X:α→Prop} {r:α→T} {E:QQ} {O:Qq} {nx:Nat} (x:α) (hx:X x) (h:vfin P rs (r x) .ret E O nx):vfinE P rs X r .ret E O nx:=⟨x,hx,by unfold vfin at h;exact h⟩
theorem V.oneOf {σ:Nat→Option Nat} {hf:AH} {nx:Nat} {us:List T} {l:List Value} (g4:VL σ hf nx us l):V σ hf nx (Qb2 us) (Z3 l):=by
 have hlen:=g4.1
 match us,l,g4,hlen with
 | [],[],g4,_=>exact g4.toTup
 | [t],[v],g4,_ =>
  obtain ⟨v',r',e,g6,_⟩:=g4.tail
  cases e
  exact g6
 | t::t'::us,v::v'::l,g4,_=>exact g4.toTup
 | [],_::_,_,hl=>cases hl
 | [_],[],_,hl=>cases hl
 | [_],_::_::_,_,hl=>cases hl
 | _::_::_,[],_,hl=>cases hl
 | _::_::_,[_],_,hl=>cases hl
theorem PureE.intro {α:Type} {P:Program} {f:FuncId} {fn:Func} {c:Code} {n:Nat} {ts:List T} {X:α→Prop} {r:α→T} (hf:P.funcs[f]? =some fn) (hb:fn.body=some c) (hc:Zf fn.ntmps c=true) {rs:List ResultVar} (hrs:fn.results.toList=rs) {E0:QQ} (hE:Qbf 0 ts=E0) (hr:VRun (QA P n) P c E0 [] 0 (vfinE P rs X r)) (hpr:YK f=true:=by rfl):PureE (QA P (n+1)) f ts X r:=by
 subst hE
 intro h p vs hfr hvs
 have hs:SR p ⟨h,fun _=>False⟩ (fun _=>none) h (fun _=>none) (Qbf 0 ts) [] 0 (fun t=>vs.getD t undef) h:=by
  refine ⟨fun t=> ?_,fun k o hk=>(by cases hk),fun a o ha=>⟨ha,rfl⟩,fun a k ha=>(by cases ha),fun _ _=>rfl,fun t ht=> .inl ht⟩
  rw [QaB,if_neg (by omega),Nat.sub_zero]
  rcases Nat.lt_or_ge t ts.length with h1 | h1
  ·exact .fz (hvs.2 t h1)
  ·rw [List.getD_eq_getElem?_getD,List.getElem?_eq_none h1]
   exact .any _
 unfold VRun at hr
 refine CallS.intro (hpr:=hpr) (Q:=fun v h'=>Quiet h h'∧∃x,X x∧RES p h h' (r x) v) hf hb hc hfr hrs (Run.mono (hr p _ _ h _ _ h 0 hs) ?_)
 rintro e s' ⟨σ,hf',own,E,O,nx,h1,h2⟩
 have key:(∃x,X x∧∃ts ks,VRes P E O rs ts∧Give O ks (Qb2 ts) (r x))→∃l,YU P s'.h s'.E rs=some l∧(fun v h'=>Quiet h h'∧∃x,X x∧RES p h h' (r x) v) (Z3 l) (if QO (Z3 l) then Ym h s'.h else JG p h s'.h):=by
  rintro ⟨x,hX,us,ks,g1,g2⟩
  obtain ⟨l,g3,g4⟩:=g1.run h1
  have g5:=V.oneOf g4
  obtain ⟨N,g6,g7,g8⟩:=g2 p _ σ hf' own E nx s'.E s'.h _ h1 g5
  have hq:Quiet h s'.h:=fun a ha=>by
   have e1:hf' a=h a:=h1.base a ha
   obtain ⟨o,ho⟩:=Option.ne_none_iff_exists'.1 ha
   rw [ho] at e1
   rw [(h1.fro a o e1).1,ho]
  refine ⟨l,g3,?_⟩
  by_cases ht:QO (Z3 l)=true
  ·rw [if_pos ht,Qa9 hq]
   obtain ⟨rfl,g9⟩:=Yr g6 ht
   exact ⟨Quiet.refl _,x,hX,[],g9 h,by simp,by simp⟩
  ·rw [if_neg ht]
   have hN:∀a∈N,Under p a∧h a=none:=fun a ha=>by
    obtain ⟨k,_,e⟩:=g8 a ha
    exact ⟨(h1.mine a k e).1.elim id (fun z=>z.elim),(h1.mine a k e).2.1⟩
   exact ⟨Qaf hq,x,hX,N,g6.mono (fun _ _ e=>e) (fun a ha=>JU (.inr (hN a ha).1)),g7,hN⟩
 cases e with
 | normal=>unfold fin;exact key h2
 | ret=>unfold fin;exact key h2
 | exit id=>exact h2.elim
section
variable {α : Type} {call : QC} {P : Program} {E : QQ} {O : Qq} {d : Option Tmp} {ty : TypeId} {ps : String} {af : Array Edge} {g : Option (Nat × Bool)} {nx m : Nat} {X : α → Prop} {r r' : α → T} {objs : α → List Obj}
theorem OCE.callX {f:FuncId} {o:Oper} {us:List T} (ho:∀(q p:Nat) (h0:LB) (σ:Nat→Option Nat) (hf:AH) (own:Nat→Option Nat) (Ea:Nat→Value) (h:AH),SR p h0 σ hf own E O nx Ea h→∃vs,Jp P q Ea h o=some (.enter f vs)∧RL h us vs) (hp:PureE call f us X r) (had:∀x,adopt nx (r x)=(r' x,objs x)) (hm:∀x,(objs x).length=m) :
  OCE call P E O nx o X r' (fun x=>Yl O nx (objs x)) (nx+m) []:=⟨Nat.le_add_right _ _,fun q p h0 σ hf own Ea h hs hu hF=>by
 obtain ⟨vs,h1,h2⟩:=ho q p h0 σ hf own Ea h hs
 have h3:=hp h q vs hF h2
 unfold CallS at h3
 obtain ⟨v,h',h4,h5,h6,x,hX,N,h7,h8,h9⟩:=h3
 have hfn:∀a,h a=none→hf a=none:=fun a ha=>by
  cases hh:hf a with
  | none=>rfl
  | some o=>rw [(hs.fro _ _ hh).1] at ha;cases ha
 have h0n:∀a,h a=none→h0.h a=none:=fun a ha=>by
  cases hh:h0.h a with
  | none=>rfl
  | some o =>
   have e1:=hs.base a (by rw [hh];simp)
   rw [hfn a ha,hh] at e1
   cases e1
 have hs':=hs.ext (nx':=nx) (σ':=σ) (own':=own) (h':=h') (Nat.le_refl _) (fun _ _=>rfl) (fun _ _ e=>e) (fun _ _ e=> .inl e) h6 (fun a ha=>by
  rcases h5 a ha with e | e
  ·exact hs.dom a e
  ·exact .inr (hu a e))
 obtain ⟨σ',own',b1,b2,b3,b4⟩:=S.adopt h7 hs' h8 (fun a ha=>by
  obtain ⟨g1,g2⟩:=h9 a ha
  refine ⟨hu a g1,h0n a g2,h7.names a ha,hfn a g2,?_⟩
  cases hh:own a with
  | none=>rfl
  | some k=>exact absurd g2 (hs.mine a k hh).2.2.1)
 rw [had x] at b1 b3
 simp only [hm x] at b1 b3
 refine ⟨x,hX,v,h',σ',own',by simp only [Qr,h1,h4],h5,b2,b1,b3,fun a ha _=>h6 a ha,fun a k hk=> ?_⟩
 by_cases hn:a∈N
 ·exact .inr (.inl (h9 a hn).2)
 ·rw [b4 a hn] at hk
  exact .inl hk⟩
theorem OCE.fn {f:FuncId} {args:Array Operand} {tys:Array TypeId} {ts us:List T} (hb:Zv P f=true) (ha:VEvs E args.toList ts) (hl:LendL O ts us) (hp:PureE call f us X r) (had:∀x,adopt nx (r x)=(r' x,objs x)) (hm:∀x,(objs x).length=m) :
  OCE call P E O nx ⟨d, .call ⟨.value (.func f),args,tys⟩,ty,ps,af,g⟩ X r' (fun x=>Yl O nx (objs x)) (nx+m) []:=OCE.callX (fun q p h0 σ hf own Ea h hs=>by
 obtain ⟨vs,h1,h2⟩:=ha σ hf nx Ea hs.env
 exact ⟨vs,AE.X.calls hb h1,hl.V hs h2⟩) hp had hm
end
def Ji (p:Option Addr) (n m:Nat) (code:T) (i:Nat) (hh:Int):List T:= [.ex p n m code, .int .i64 ((i:Nat):Int), .int .i64 hh]
def CurE {α:Type} (call:QC) (f:FuncId) (code:T) (nc:Nat) (us:List T) (X:α→Prop) (r:α→T):Prop:=∀(h:AH) (q a es:Nat) (pb:Option Addr) (nb mb i:Nat) (hh:Int) (vs:List Value),Fr q h→a % 2=1→h a=some (.cells es [.slice pb nb mb, .int .i64 ((i:Nat):Int), .int .i64 hh])→R (h.upd a none) code (.slice pb nb mb)→i≤nc→RL (h.upd a none) us vs →
 CallS call f (.pointer (some ⟨a,0,none⟩)::vs) h q (fun v h'=>(∀b,h b≠none→b≠a→h' b=h b)∧∃x,X x∧∃(i' es':Nat) (hh':Int),i'≤nc∧h' a=some (.cells es' [.slice pb nb mb, .int .i64 ((i':Nat):Int), .int .i64 hh'])∧RES q h h' (r x) v)
def vcur {α:Type} (P:Program) (rs:List ResultVar) (pb:Option Addr) (nb mb:Nat) (code:T) (nc:Nat) (X:α→Prop) (r:α→T):AX→QQ→Qq→Nat→Prop
 | .exit _,_,_,_=>False
 | _,E,O,_=>∃x,X x∧∃(k i':Nat) (hh':Int) (ts:List T) (ks:List Nat),VRes P E O rs ts∧Give O ks (Qb2 ts) (r x)∧gE E 0= .op k 0∧gO O k=some (.cells (Ji pb nb mb code i' hh'))∧i'≤nc∧k∉ks
theorem vcur.r {α:Type} {P:Program} {rs:List ResultVar} {pb:Option Addr} {nb mb nc nx:Nat} {code:T} {X:α→Prop} {r:α→T} {E:QQ} {O:Qq} {ts:List T} {ks:List Nat} (x:α) (k i':Nat) (hh':Int) (hx:X x) (h:VRes P E O rs ts) (hg:Give O ks (Qb2 ts) (r x)) (h1:gE E 0= .op k 0) (h2:gO O k=some (.cells (Ji pb nb mb code i' hh'))) (h3:i'≤nc) (h4:k∉ks):vcur P rs pb nb mb code nc X r .ret E O nx:=⟨x,hx,k,i',hh',ts,ks,h,hg,h1,h2,h3,h4⟩
theorem V.exInv {σ:Nat→Option Nat} {hf:AH} {nx:Nat} {p:Option Addr} {n m:Nat} {t:T} {v:Value} (h:V σ hf nx (.ex p n m t) v):v= .slice p n m∧R hf t (.slice p n m):=by
 cases h with
 | fz hr=>cases hr with | ex _ _ _ _ h=>exact ⟨rfl,h⟩
theorem VL.curInv {σ:Nat→Option Nat} {hf:AH} {nx:Nat} {p:Option Addr} {n m i:Nat} {hh:Int} {code:T} {vs:List Value} (h:VL σ hf nx (Ji p n m code i hh) vs):vs= [.slice p n m, .int .i64 ((i:Nat):Int), .int .i64 hh]∧R hf code (.slice p n m):=by
 obtain ⟨v1,l1,rfl,h1,h2⟩:=VL.tail h
 obtain ⟨v2,l2,rfl,h3,h4⟩:=VL.tail h2
 obtain ⟨v3,l3,rfl,h5,h6⟩:=VL.tail h4
 obtain rfl:=List.eq_nil_of_length_eq_zero h6.1.symm
 obtain ⟨rfl,h7⟩:=h1.exInv
 obtain rfl:=V.intInv h3
 obtain rfl:=V.intInv h5
 exact ⟨rfl,h7⟩
theorem VL.curOf {σ:Nat→Option Nat} {hf:AH} {nx:Nat} {p:Option Addr} {n m i:Nat} {hh:Int} {code:T} (h:R hf code (.slice p n m)):VL σ hf nx (Ji p n m code i hh) [.slice p n m, .int .i64 ((i:Nat):Int), .int .i64 hh] :=
 .cons (.fz (.ex _ _ _ _ h)) (.cons (.fz (.int _ _)) (.cons (.fz (.int _ _)) (.nil _ _ _)))
theorem CurE.intro {α:Type} {P:Program} {f:FuncId} {fn:Func} {c:Code} {n nc:Nat} {code:T} {us:List T} {X:α→Prop} {r:α→T} {rs:List ResultVar} (hf:P.funcs[f]? =some fn) (hb:fn.body=some c) (hc:Zf fn.ntmps c=true) (hrs:fn.results.toList=rs) (hn:noW 0 c=true)
  (hr:∀(pb:Option Addr) (nb mb i:Nat) (hh:Int),i≤nc→VRun (QA P n) P c (Qbf 0 (.op 0 0::us)) [(0,some (.cells (Ji pb nb mb code i hh)))] 1 (vcur P rs pb nb mb code nc X r)) (hpr:YK f=true:=by rfl):CurE (QA P (n+1)) f code nc us X r:=by
 intro h p a es pb nb mb i hh vs hfp hodd ha hcode hi hvs
 classical
 let hb0:AH:=h.upd a none
 have hb1:∀b,b≠a→hb0 b=h b:=fun b hb=>AH.upd_ne _ hb _
 have hb2:hb0 a=none:=AH.upd_same _ _ _
 have hb3:∀b o,hb0 b=some o→b≠a∧h b=some o:=fun b o hb=>by
  by_cases hm:b=a
  ·rw [hm,hb2] at hb;cases hb
  ·exact ⟨hm,(hb1 b hm).symm.trans hb⟩
 have hs0:SR p ⟨hb0,fun b=>b=a⟩ (fun _=>some a) hb0 (fun b=>if b=a then some 0 else none) (Qbf 0 (.op 0 0::us)) [(0,some (.cells (Ji pb nb mb code i hh)))] 1 (fun t=>(Value.pointer (some ⟨a,0,none⟩)::vs).getD t undef) h:=by
  refine ⟨fun t=> ?_,fun k o hk=> ?_,fun b o hb=>⟨(hb3 b o hb).2,if_neg (hb3 b o hb).1⟩,fun b k hb=> ?_,fun _ _=>rfl,fun t ht=> ?_⟩
  ·rw [QaB,if_neg (by omega),Nat.sub_zero]
   cases t with
   | zero=>exact .op 0 0 (by omega) Y
   | succ t =>
    rw [List.getD_cons_succ]
    show V _ _ _ _ ((Value.pointer (some ⟨a,0,none⟩)::vs).getD (t+1) undef)
    rw [List.getD_cons_succ]
    rcases Nat.lt_or_ge t us.length with h1 | h1
    ·exact .fz (hvs.2 t h1)
    ·rw [List.getD_eq_getElem?_getD,List.getElem?_eq_none h1]
     exact .any _
  ·simp only [gO] at hk
   split at hk
   ·rename_i e
    subst e
    obtain rfl:=Option.some.inj hk
    exact ⟨by omega,[a],by simp,fun b hb=>by obtain rfl:=List.mem_singleton.1 hb;exact if_pos Y, .cells ha hodd (VL.curOf hcode)⟩
   ·cases hk
  ·split at hb
   ·rename_i hm
    subst hm
    obtain rfl:=Option.some.inj hb
    exact ⟨.inr Y,hb2,by rw [ha];simp,by omega⟩
   ·cases hb
  ·by_cases hm:t=a
   ·exact .inr (.inr hm)
   ·exact .inl (by show hb0 t≠none;rw [hb1 t hm];exact ht)
 have hr':=hr pb nb mb i hh hi
 unfold VRun at hr'
 have hrun:=hr' p _ _ _ _ _ h 0 hs0
 have hrun2:Run (QA P n) P p c ⟨fun t=>(Value.pointer (some ⟨a,0,none⟩)::vs).getD t undef,h,0⟩ (fun e s=>KK p ⟨hb0,fun b=>b=a⟩ (vcur P rs pb nb mb code nc X r e) s.E s.h∧s.E 0= .pointer (some ⟨a,0,none⟩)):=by
  unfold Run at hrun ⊢
  intro hfc
  obtain ⟨e,s',h1,h2,h3⟩:=hrun hfc
  exact ⟨e,s',h1,h2,h3,ZZ _ _ _ _ hn h1⟩
 refine CallS.intro (hpr:=hpr) (rs:=rs) hf hb hc hfp hrs (Run.mono hrun2 ?_)
 rintro e s' ⟨⟨σ',hf',own',E,O,nx,h1,h2⟩,h0⟩
 have key:(∃x,X x∧∃(k i':Nat) (hh':Int) (ts:List T) (ks:List Nat),VRes P E O rs ts∧Give O ks (Qb2 ts) (r x)∧gE E 0= .op k 0∧gO O k=some (.cells (Ji pb nb mb code i' hh'))∧i'≤nc∧k∉ks) →
   ∃l,YU P s'.h s'.E rs=some l∧(fun v h'=>(∀b,h b≠none→b≠a→h' b=h b)∧∃x,X x∧∃(i' es':Nat) (hh':Int),i'≤nc∧h' a=some (.cells es' [.slice pb nb mb, .int .i64 ((i':Nat):Int), .int .i64 hh'])∧RES p h h' (r x) v) (Z3 l) (if QO (Z3 l) then Ym h s'.h else JG p h s'.h):=by
  rintro ⟨x,hX,k,i',hh',us',ks,g1,g2,g3,g4,g5,g6⟩
  obtain ⟨l,l1,l2⟩:=g1.run h1
  have g7:=V.oneOf l2
  obtain ⟨N,n1,n2,n3⟩:=g2 p _ σ' hf' own' E nx s'.E s'.h _ h1 g7
  have hbase:∀b o,hb0 b=some o→hf' b=some o:=fun b o hb=>by
   have e3:hf' b=hb0 b:=h1.base b (by show hb0 b≠none;rw [hb];simp)
   rw [e3,hb]
  have hσ:σ' k=some a:=by
   have p2:=h1.env 0
   rw [g3,h0] at p2
   obtain ⟨a',e4,e5,_⟩:=p2.opInv
   cases e4
   exact e5
  have hold:∀b,h b≠none→(if QO (Z3 l) then Ym h s'.h else JG p h s'.h) b=s'.h b:=fun b hb=>by
   split
   ·unfold Ym
    cases hh:h b with
    | none=>exact absurd hh hb
    | some o=>rfl
   ·exact JU (.inl hb)
  have hcell:∃es',s'.h a=some (.cells es' [.slice pb nb mb, .int .i64 ((i':Nat):Int), .int .i64 hh'])∧own' a=some k:=by
   obtain ⟨M,hM1,hM2,e4⟩:=h1.objAt g4
   rw [hσ] at e4
   cases e4 with
   | cells hk hodd hv =>
    obtain ⟨rfl,_⟩:=VL.curInv hv
    exact ⟨_,hk,hM2 a (by simp)⟩
  obtain ⟨es',hc1,hc2⟩:=hcell
  refine ⟨l,l1,fun b hb hba=> ?_,x,hX,i',es',hh',g5,?_,?_⟩
  ·rw [hold b hb]
   obtain ⟨o,ho⟩:=Option.ne_none_iff_exists'.1 hb
   rw [(h1.fro b o (hbase b o ((hb1 b hba).trans ho))).1,ho]
  ·rw [hold a (by rw [ha];simp)]
   exact hc1
  ·have hN:∀b∈N,Under p b∧h b=none:=fun b hb=>by
    obtain ⟨k2,hk2,e⟩:=n3 b hb
    have hba:b≠a:=fun e2=>by
     rw [e2,hc2] at e
     exact g6 (by rw [Option.some.inj e];exact hk2)
    refine ⟨(h1.mine b k2 e).1.elim id (fun z=>absurd z hba),?_⟩
    have:=(h1.mine b k2 e).2.1
    rw [← hb1 b hba]
    exact this
   by_cases ht:QO (Z3 l)=true
   ·rw [if_pos ht]
    obtain ⟨rfl,g9⟩:=Yr n1 ht
    exact ⟨[],g9 _,by simp,by simp⟩
   ·rw [if_neg ht]
    exact ⟨N,n1.mono (fun _ _ e=>e) (fun b hb=>JU (.inr (hN b hb).1)),n2,hN⟩
 cases e with
 | normal=>unfold fin;exact key h2
 | ret=>unfold fin;exact key h2
 | exit id=>exact h2.elim
section
variable {α : Type} {call : QC} {P : Program} {E : QQ} {O : Qq} {d : Option Tmp} {ty : TypeId} {ps : String} {af : Array Edge} {g : Option (Nat × Bool)} {nx m : Nat} {X : α → Prop} {r r' : α → T} {objs : α → List Obj}
theorem SR.hide {p nx k a:Nat} {h0:LB} {hf h:AH} {σ own:Nat→Option Nat} {E:QQ} {O:Qq} {Ea:Nat→Value} (hs:SR p h0 σ hf own E O nx Ea h) (ha:own a=some k):SR p h0 σ hf (fun b=>if b=a then none else own b) E ((k,none)::O) nx Ea (h.upd a none):=by
 refine ⟨hs.env,fun k' o hk'=> ?_,fun b o hb=> ?_,fun b k' hb=> ?_,hs.base,fun t ht=> ?_⟩
 ·simp only [gO] at hk'
  split at hk'
  ·cases hk'
  ·rename_i hne
   obtain ⟨m1,N,m2,m3,m4⟩:=hs.obj k' o hk'
   have hna:∀b∈N,b≠a:=fun b hb e=>by
    have:=m3 b hb
    rw [e,ha] at this
    exact hne (Option.some.inj this).symm
   exact ⟨m1,N,m2,fun b hb=>by rw [if_neg (hna b hb)];exact m3 b hb,m4.mono (fun _ _ e=>e) (Nat.le_refl _) (fun _ _=>rfl) (fun b hb=>AH.upd_ne _ (hna b hb) _)⟩
 ·obtain ⟨h1,h2⟩:=hs.fro b o hb
  have hba:b≠a:=fun e=>by rw [e,ha] at h2;cases h2
  exact ⟨(AH.upd_ne _ hba _).trans h1,by rw [if_neg hba];exact h2⟩
 ·split at hb
  ·cases hb
  ·rename_i hba
   obtain ⟨m1,m2,m3,m4⟩:=hs.mine b k' hb
   exact ⟨m1,m2,by rw [AH.upd_ne _ hba _];exact m3,m4⟩
 ·unfold AH.upd at ht
  split at ht
  ·exact absurd Y ht
  ·exact hs.dom t ht
theorem OCE.cur {f:FuncId} {args:Array Operand} {tys:Array TypeId} {ts us:List T} {code:T} {nc k i nb mb:Nat} {hh:Int} {pb:Option Addr} (hb:Zv P f=true) (ha:VEvs E args.toList (.op k 0::ts)) (hk:gO O k=some (.cells (Ji pb nb mb code i hh))) (hi:i≤nc) (hl:LendL ((k,none)::O) ts us) (hp:CurE call f code nc us X r) (had:∀x,adopt nx (r x)=(r' x,objs x)) (hm:∀x,(objs x).length=m) :
  OCE call P E O nx ⟨d, .call ⟨.value (.func f),args,tys⟩,ty,ps,af,g⟩ (fun y:α×Nat×Int=>X y.1∧y.2.1≤nc) (fun y=>r' y.1) (fun y=>Yl ((k,some (.cells (Ji pb nb mb code y.2.1 y.2.2)))::O) nx (objs y.1)) (nx+m) [k]:=⟨Nat.le_add_right _ _,fun q p h0 σ hf own Ea h hs hu hF=>by
 obtain ⟨vs0,h1,h2⟩:=ha σ hf nx Ea hs.env
 obtain ⟨vp,vs,rfl,g1,g2⟩:=h2.tail
 obtain ⟨a,rfl,g3,hkn⟩:=g1.opInv
 obtain ⟨hkn',N,hN1,hN2,g5⟩:=hs.obj k _ hk
 rw [g3] at g5
 cases g5 with
 | cells hca hodd hv =>
 rename_i es cs
 obtain ⟨rfl,hcode⟩:=VL.curInv hv
 have hoa:own a=some k:=hN2 a (by simp)
 have hfa:hf a=none:=by
  cases hh:hf a with
  | none=>rfl
  | some o=>have:=(hs.fro a o hh).2;rw [hoa] at this;cases this
 have hcode':R (h.upd a none) code (.slice pb nb mb):=hcode.mono (fun b o hb=>by
  have hba:b≠a:=fun e=>by rw [e,hfa] at hb;cases hb
  exact (AH.upd_ne _ hba _).trans (hs.fro b o hb).1)
 have hvs:RL (h.upd a none) us vs:=hl.V (hs.hide hoa) g2
 have h3:=hp h q a es pb nb mb i hh vs hF hodd hca hcode' hi hvs
 unfold CallS at h3
 obtain ⟨v,h',h4,h5,h6,x,hX,i',es',hh',hi',h7,N,h8,h9,h10⟩:=h3
 have hfn:∀b,h b=none→hf b=none:=fun b hb=>by
  cases hh:hf b with
  | none=>rfl
  | some o=>rw [(hs.fro _ _ hh).1] at hb;cases hb
 have h0n:∀b,h b=none→h0.h b=none:=fun b hb=>by
  cases hh:h0.h b with
  | none=>rfl
  | some o =>
   have e1:=hs.base b (by rw [hh];simp)
   rw [hfn b hb,hh] at e1
   cases e1
 have hs':SR p h0 σ hf own E ((k,some (.cells (Ji pb nb mb code i' hh')))::O) nx Ea h':=by
  refine ⟨hs.env,fun k' o hk'=> ?_,fun b o hb=> ?_,fun b k' hb=> ?_,hs.base,fun t ht=> ?_⟩
  ·simp only [gO] at hk'
   split at hk'
   ·rename_i e
    subst e
    obtain rfl:=Option.some.inj hk'
    refine ⟨hkn,[a],by simp,fun b hb=>by obtain rfl:=List.mem_singleton.1 hb;exact hoa,?_⟩
    rw [g3]
    exact .cells h7 hodd (VL.curOf hcode)
   ·rename_i hne
    obtain ⟨m1,N2,m2,m3,m4⟩:=hs.obj k' o hk'
    refine ⟨m1,N2,m2,m3,m4.mono (fun _ _ e=>e) (Nat.le_refl _) (fun _ _=>rfl) (fun b hb=>h6 b (hs.mine b k' (m3 b hb)).2.2.1 (fun e=> ?_))⟩
    have:=m3 b hb
    rw [e,hoa] at this
    exact hne (Option.some.inj this).symm
  ·obtain ⟨e1,e2⟩:=hs.fro b o hb
   exact ⟨(h6 b (by rw [e1];simp) (fun e=>by rw [e,hfa] at hb;cases hb)).trans e1,e2⟩
  ·obtain ⟨m1,m2,m3,m4⟩:=hs.mine b k' hb
   refine ⟨m1,m2,?_,m4⟩
   by_cases hba:b=a
   ·rw [hba,h7];simp
   ·rw [h6 b m3 hba];exact m3
  ·rcases h5 t ht with e | e
   ·exact hs.dom t e
   ·exact .inr (hu t e)
 obtain ⟨σ',own',b1,b2,b3,b4⟩:=S.adopt h8 hs' h9 (fun b hb=>by
  obtain ⟨e1,e2⟩:=h10 b hb
  refine ⟨hu b e1,h0n b e2,h8.names b hb,hfn b e2,?_⟩
  cases hh:own b with
  | none=>rfl
  | some k'=>exact absurd e2 (hs.mine b k' hh).2.2.1)
 rw [had x] at b1 b3
 simp only [hm x] at b1 b3
 refine ⟨(x,i',hh'),⟨hX,hi'⟩,v,h',σ',own',by simp only [Qr,AE.X.calls (P:=P) (p:=q) (h:=h) (d:=d) (ty:=ty) (ps:=ps) (af:=af) (g:=g) (ts:=tys) hb h1,h4],h5,b2,b1,b3,fun b hb hnk=>h6 b hb (fun e=>hnk k (by simp) (e▸hoa)),fun b k2 hk2=> ?_⟩
 by_cases hn:b∈N
 ·exact .inr (.inl (h10 b hn).2)
 ·rw [b4 b hn] at hk2
  exact .inl hk2⟩
end
def NewC (call:QC) (f:FuncId) (code:T):Prop:=∀(h:AH) (q:Nat) (pb:Option Addr) (nb mb:Nat),Fr q h→R h code (.slice pb nb mb)→CallS call f [.slice pb nb mb] h q (fun v h'=>Quiet h h'∧∃(a es:Nat) (hh:Int),v= .pointer (some ⟨a,0,none⟩)∧a % 2=1∧Under q a∧h a=none∧h' a=some (.cells es [.slice pb nb mb, .int .i64 ((0:Nat):Int), .int .i64 hh]))
def vnew (P:Program) (rs:List ResultVar) (pb:Option Addr) (nb mb:Nat) (code:T):AX→QQ→Qq→Nat→Prop
 | .exit _,_,_,_=>False
 | _,E,O,_=>∃(k:Nat) (hh:Int),VRes P E O rs [.op k 0]∧gO O k=some (.cells (Ji pb nb mb code 0 hh))
theorem vnew.r {P:Program} {rs:List ResultVar} {pb:Option Addr} {nb mb nx:Nat} {code:T} {E:QQ} {O:Qq} (k:Nat) (hh:Int) (h:VRes P E O rs [.op k 0]) (h2:gO O k=some (.cells (Ji pb nb mb code 0 hh))):vnew P rs pb nb mb code .ret E O nx:=⟨k,hh,h,h2⟩
theorem NewC.intro {P:Program} {f:FuncId} {fn:Func} {c:Code} {n:Nat} {code:T} {rs:List ResultVar} (hf:P.funcs[f]? =some fn) (hb:fn.body=some c) (hc:Zf fn.ntmps c=true) (hrs:fn.results.toList=rs)
  (hr:∀(pb:Option Addr) (nb mb:Nat),VRun (QA P n) P c (Qbf 0 [.ex pb nb mb code]) [] 0 (vnew P rs pb nb mb code)) (hpr:YK f=true:=by rfl):NewC (QA P (n+1)) f code:=by
 intro h p pb nb mb hfr hcode
 have hvs:RL h [.ex pb nb mb code] [.slice pb nb mb]:=RL.cons (.ex _ _ _ _ hcode) (RL.nil _)
 have hs:SR p ⟨h,fun _=>False⟩ (fun _=>none) h (fun _=>none) (Qbf 0 [.ex pb nb mb code]) [] 0 (fun t=> [Value.slice pb nb mb].getD t undef) h:=by
  refine ⟨fun t=> ?_,fun k o hk=>(by cases hk),fun a o ha=>⟨ha,rfl⟩,fun a k ha=>(by cases ha),fun _ _=>rfl,fun t ht=> .inl ht⟩
  rw [QaB,if_neg (by omega),Nat.sub_zero]
  rcases Nat.lt_or_ge t 1 with h1 | h1
  ·exact .fz (hvs.2 t h1)
  ·rw [List.getD_eq_getElem?_getD,List.getElem?_eq_none (by simpa using h1)]
   exact .any _
 have hr':=hr pb nb mb
 unfold VRun at hr'
 refine CallS.intro (hpr:=hpr) (rs:=rs) hf hb hc hfr hrs (Run.mono (hr' p _ _ h _ _ h 0 hs) ?_)
 rintro e s' ⟨σ,hf',own,E,O,nx,h1,h2⟩
 have key:(∃(k:Nat) (hh:Int),VRes P E O rs [.op k 0]∧gO O k=some (.cells (Ji pb nb mb code 0 hh)))→∃l,YU P s'.h s'.E rs=some l∧(fun v h'=>Quiet h h'∧∃(a es:Nat) (hh:Int),v= .pointer (some ⟨a,0,none⟩)∧a % 2=1∧Under p a∧h a=none∧h' a=some (.cells es [.slice pb nb mb, .int .i64 ((0:Nat):Int), .int .i64 hh])) (Z3 l) (if QO (Z3 l) then Ym h s'.h else JG p h s'.h):=by
  rintro ⟨k,hh,g1,g2⟩
  obtain ⟨l,g3,g4⟩:=g1.run h1
  obtain ⟨v,l',rfl,g5,g6⟩:=VL.tail g4
  obtain rfl:=List.eq_nil_of_length_eq_zero g6.1.symm
  obtain ⟨a,rfl,g7,_⟩:=g5.opInv
  obtain ⟨M,hM1,hM2,e4⟩:=h1.objAt g2
  rw [g7] at e4
  cases e4 with
  | cells hk hodd hv =>
  obtain ⟨rfl,_⟩:=VL.curInv hv
  have hoa:=hM2 a (by simp)
  have hm:=h1.mine a k hoa
  have hq:Quiet h s'.h:=fun b hb=>by
   have e1:hf' b=h b:=h1.base b hb
   obtain ⟨o,ho⟩:=Option.ne_none_iff_exists'.1 hb
   rw [ho] at e1
   rw [(h1.fro b o e1).1,ho]
  have hu:Under p a:=hm.1.elim id (fun z=>z.elim)
  refine ⟨_,g3,?_⟩
  have ht:¬QO (Z3 [Value.pointer (some ⟨a,0,none⟩)])=true:=by simp [Z3,QO,closedV,closed1]
  rw [if_neg ht]
  exact ⟨Qaf hq,a,_,hh,rfl,hodd,hu,hm.2.1,(JU (.inr hu)).trans hk⟩
 cases e with
 | normal=>unfold fin;exact key h2
 | ret=>unfold fin;exact key h2
 | exit id=>exact h2.elim
section
variable {call : QC} {P : Program} {E : QQ} {O : Qq} {d : Option Tmp} {ty : TypeId} {ps : String} {af : Array Edge} {g : Option (Nat × Bool)} {nx : Nat}
theorem R.slForm {hf:AH} {sz:Nat} {rows:List (List T)} {v:Value} (h:R hf (.sl false sz rows) v):∃p n m,v= .slice p n m:=by
 generalize hT:T.sl false sz rows=tr at h
 cases h<;>first | exact ⟨_,_,_,rfl⟩ | cases hT
theorem OCE.newC {f:FuncId} {args:Array Operand} {tys:Array TypeId} {sz:Nat} {rows:List (List T)} (hb:Zv P f=true) (ha:VEvs E args.toList [.sl false sz rows]) (hp:NewC call f (.sl false sz rows)) :
    OCE call P E O nx ⟨d, .call ⟨.value (.func f),args,tys⟩,ty,ps,af,g⟩ (fun _:Option Addr×Nat×Nat×Int=>True) (fun _=> .op nx 0) (fun y=>(nx,some (.cells (Ji y.1 y.2.1 y.2.2.1 (.sl false sz rows) 0 y.2.2.2)))::O) (nx+1) []:=⟨Nat.le_succ _,fun q p h0 σ hf own Ea h hs hu hF=>by
  obtain ⟨vs0,h1,h2⟩:=ha σ hf nx Ea hs.env
  obtain ⟨vp,vs,rfl,g1,g2⟩:=h2.tail
  obtain rfl:=List.eq_nil_of_length_eq_zero g2.1.symm
  have g3:R hf (.sl false sz rows) vp:=g1.slInv
  obtain ⟨pb,nb,mb,rfl⟩:=g3.slForm
  have hmono:∀b o,hf b=some o→h b=some o:=fun b o hb=>(hs.fro b o hb).1
  have h3:=hp h q pb nb mb hF (g3.mono hmono)
  unfold CallS at h3
  obtain ⟨v,h',h4,h5,h6,a,es,hh,rfl,hodd,hua,han,hac⟩:=h3
  have hfn:hf a=none:=by
    cases hq:hf a with
    | none=>rfl
    | some o=>rw [hmono a o hq] at han;cases han
  have h0n:h0.h a=none:=by
    cases hq:h0.h a with
    | none=>rfl
    | some o =>
      have e1:=hs.base a (by rw [hq];simp)
      rw [hfn,hq] at e1
      cases e1
  have hon:own a=none:=by
    cases hq:own a with
    | none=>rfl
    | some k=>exact absurd han (hs.mine a k hq).2.2.1
  have hx:=hs.ext (nx':=nx+1) (σ':=fun k=>if k=nx then some a else σ k) (own':=fun b=>if b=a then some nx else own b) (h':=h') (by omega) (fun k hk=>if_neg (by omega))
    (fun b k hb=>by
      have:b≠a:=fun e=>by rw [e,hon] at hb;cases hb
      simp only [if_neg this]
      exact hb)
    (fun b k hb=>by
      split at hb
      · rename_i e
        subst e
        obtain rfl:=Option.some.inj hb
        exact .inr ⟨hu _ hua,h0n,by rw [hac];simp,by omega,hfn⟩
      · exact .inl hb)
    (fun b hb=>h6 b hb)
    (fun t ht=>by
      rcases h5 t ht with e | e
      · exact hs.dom t e
      · exact .inr (hu t e))
  refine ⟨(pb,nb,mb,hh),trivial, .pointer (some ⟨a,0,none⟩),h',fun k=>if k=nx then some a else σ k,fun b=>if b=a then some nx else own b,by simp only [Qr,AE.X.calls (P:=P) (p:=q) (h:=h) (d:=d) (ty:=ty) (ps:=ps) (af:=af) (g:=g) (ts:=tys) hb h1,h4],h5,fun k hk=>if_neg (by omega),⟨hx.env,fun k o hk=> ?_,hx.fro,hx.mine,hx.base,hx.dom⟩, .op nx 0 (by omega) (by simp),fun b hb _=>h6 b hb,fun b k hk=> ?_⟩
  · simp only [gO] at hk
    split at hk
    · rename_i e
      subst e
      obtain rfl:=Option.some.inj hk
      refine ⟨by omega,[a],by simp,fun b hb=>by obtain rfl:=List.mem_singleton.1 hb;simp,?_⟩
      simp only [if_true]
      exact .cells hac hodd (VL.curOf g3)
    · exact hx.obj k o hk
  · simp only at hk
    split at hk
    · rename_i e
      subst e
      exact .inr (.inl han)
    · exact .inl hk⟩
end
theorem VEv.unex {E:QQ} {x:Operand} {p:Option Addr} {n m:Nat} {t:T} (h:VEv E x (.ex p n m t)):VEv E x t:=fun σ hf nx Ea he=>by
 obtain ⟨v,h1,h2⟩:=h σ hf nx Ea he
 obtain ⟨rfl,h3⟩:=h2.exInv
 exact ⟨_,h1, .fz h3⟩
def Zp (k:IntKind) (a b:Int):Int:=k.wrap ((BitVec.ofInt k.bits a &&& BitVec.ofInt k.bits b).toNat:Nat)
def Yn (k:IntKind) (a b:Int):Int:=k.wrap ((BitVec.ofInt k.bits a ^^^ BitVec.ofInt k.bits b).toNat:Nat)
def Zb (k:IntKind) (a b:Int):Int:=a.fdiv (2 ^ (min b.toNat k.bits))
theorem QgH {P:Program} {t:TypeId} {xo yo:Operand} {k:IntKind} {a b:Int}:Zd P .and t xo yo (.int k a) (.int k b)=some (.int k (Zp k a b)):=by
 simp [Zd,aeq,YJ,closedV,closed1,eqGuard,binOp,QW,Op.intBits,Jr,Zp]
theorem Qgy {P:Program} {t:TypeId} {xo yo:Operand} {k:IntKind} {a b:Int}:Zd P .xor t xo yo (.int k a) (.int k b)=some (.int k (Yn k a b)):=by
 simp [Zd,aeq,YJ,closedV,closed1,eqGuard,binOp,QW,Op.intBits,Jr,Yn]
theorem QgG {P:Program} {t:TypeId} {xo yo:Operand} {k k2:IntKind} {a b:Int} (h:0≤b):Zd P .shr t xo yo (.int k a) (.int k2 b)=some (.int k (Zb k a b)):=by
 have:¬b<0:=by omega
 simp [Zd,aeq,YJ,closedV,closed1,eqGuard,binOp,QW,Op.shift,Jr,this,Zb]
section
variable {call : QC} {P : Program} {E : QQ} {d : Option Tmp} {ty xt tt : TypeId} {ps : String} {af : Array Edge} {g : Option (Nat × Bool)} {x y : Operand} {k k2 : IntKind} {a b n : Int}
theorem B.and (hx:VEv E x (.int k a)) (hy:VEv E y (.int k b)) (he:Zp k a b=n):OF call P E ⟨d, .binOp .and tt x y xt,ty,ps,af,g⟩ (.int k n):=he▸OF.bin hx hy (.int _ _) (.int _ _) QgH (.int _ _)
theorem B.xor (hx:VEv E x (.int k a)) (hy:VEv E y (.int k b)) (he:Yn k a b=n):OF call P E ⟨d, .binOp .xor tt x y xt,ty,ps,af,g⟩ (.int k n):=he▸OF.bin hx hy (.int _ _) (.int _ _) Qgy (.int _ _)
theorem B.shr (hx:VEv E x (.int k a)) (hy:VEv E y (.int k2 b)) (hb:0≤b) (he:Zb k a b=n):OF call P E ⟨d, .binOp .shr tt x y xt,ty,ps,af,g⟩ (.int k n):=he▸OF.bin hx hy (.int _ _) (.int _ _) (QgG hb) (.int _ _)
end
theorem QbJ (a:Int) {m:Nat} (hm:m<2 ^ 63):0≤Zp .i64 a m∧Zp .i64 a m≤m:=by
 have h1:(BitVec.ofInt 64 a &&& BitVec.ofInt 64 (m:Int)).toNat≤m:=by
  rw [BitVec.toNat_and]
  refine Nat.le_trans Nat.and_le_right ?_
  rw [BitVec.toNat_ofInt]
  omega
 show 0≤IntKind.i64.wrap (((BitVec.ofInt 64 a &&& BitVec.ofInt 64 (m:Int)).toNat:Nat):Int)∧IntKind.i64.wrap (((BitVec.ofInt 64 a &&& BitVec.ofInt 64 (m:Int)).toNat:Nat):Int)≤m
 generalize (BitVec.ofInt 64 a &&& BitVec.ofInt 64 (m:Int)).toNat=r at h1
 rw [IntKind.wrap_i64]
 omega
theorem QfD (a:Int):0≤Zp .i64 a 255∧Zp .i64 a 255≤255:=QbJ a (m:=255) (by decide)
section
variable {α : Type} {call : QC} {P : Program} {ops : Array Oper} {l : List Oper} {E : QQ} {O : Qq} {nx m : Nat} {X : α → Prop} {r r' : α → T} {objs : α → List Obj} {K : QQ → Qq → Nat → Prop} {d : Option Tmp} {ty : TypeId} {ps : String} {af : Array Edge} {g : Option (Nat × Bool)} {f : FuncId} {args : Array Operand} {tys : Array TypeId} {ts us : List T}
theorem eP (hw:VWant ops E ⟨d, .call ⟨.value (.func f),args,tys⟩,ty,ps,af,g⟩ true) (ha:VEvs E args.toList ts) (hl:LendL O ts us) (hp:PureE call f us X r) (hb:Zv P f=true) (had:∀x,adopt nx (r x)=(r' x,objs x)) (hm:∀x,(objs x).length=m)
  (hk:∀x,X x→VRunO call P ops l (pE E d (r' x)) (Yl O nx (objs x)) (nx+m) K):VRunO call P ops (⟨d, .call ⟨.value (.func f),args,tys⟩,ty,ps,af,g⟩::l) E O nx K:=VRunO.chainE hw (OCE.fn hb ha hl hp had hm) hk
theorem eC {code:T} {nc k nb mb:Nat} {pb:Option Addr} (i:Nat) (hh:Int) (hw:VWant ops E ⟨d, .call ⟨.value (.func f),args,tys⟩,ty,ps,af,g⟩ true) (ha:VEvs E args.toList (.op k 0::ts)) (hko:gO O k=some (.cells (Ji pb nb mb code i hh))) (hi:i≤nc) (hl:LendL ((k,none)::O) ts us) (hp:CurE call f code nc us X r) (hb:Zv P f=true) (had:∀x,adopt nx (r x)=(r' x,objs x)) (hm:∀x,(objs x).length=m)
  (hk:∀(x:α) (i':Nat) (hh':Int),X x→i'≤nc→VRunO call P ops l (pE E d (r' x)) (Yl ((k,some (.cells (Ji pb nb mb code i' hh')))::O) nx (objs x)) (nx+m) K):VRunO call P ops (⟨d, .call ⟨.value (.func f),args,tys⟩,ty,ps,af,g⟩::l) E O nx K:=VRunO.chainE hw (OCE.cur hb ha hko hi hl hp had hm) (fun y hy=>hk y.1 y.2.1 y.2.2 hy.1 hy.2)
theorem eN {sz:Nat} {rows:List (List T)} (hw:VWant ops E ⟨d, .call ⟨.value (.func f),args,tys⟩,ty,ps,af,g⟩ true) (ha:VEvs E args.toList [.sl false sz rows]) (hp:NewC call f (.sl false sz rows)) (hb:Zv P f=true)
  (hk:∀(pb:Option Addr) (nb mb:Nat) (hh:Int),VRunO call P ops l (pE E d (.op nx 0)) ((nx,some (.cells (Ji pb nb mb (.sl false sz rows) 0 hh)))::O) (nx+1) K):VRunO call P ops (⟨d, .call ⟨.value (.func f),args,tys⟩,ty,ps,af,g⟩::l) E O nx K:=VRunO.chainE hw (OCE.newC hb ha hp) (fun y _=>hk y.1 y.2.1 y.2.2.1 y.2.2.2)
end
theorem VRun.drawC {call:QC} {P:Program} {E:QQ} {O:Qq} {nx id:Nat} {ops:Array Oper} {B:List (List Nat)} {us:List T} {Q:AX→QQ→Qq→Nat→Prop} (k:Nat) (ds:List Nat) (hB:QeH ops.toList []=B) (hok:okD P ops B=true) (hk:gO O k=some (.cells us)) (hds:∀d∈ds,gE E d= .op k 0)
  (hm:(JH ops).all (fun a=>QaP (gE E a) || ds.contains a)=true) (hm2:(JH ops).any (fun a=>ds.contains a)=true)
  (hx:VRunD call P ops B ops.toList 0 (ds.map (fun d=>(d,T.op nx 0))++E) ((nx,some (.cells us))::(k,none)::O) ((k,none)::O) (nx+1) nx true [] [] (Q .normal)):VRun call P (.region id ops true) E O nx Q:=by
 unfold VRun
 intro p h0 σ hf own Ea h c hs
 obtain ⟨hkn,N,hN1,hN2,g5⟩:=hs.obj k _ hk
 cases hσk:σ k with
 | none=>rw [hσk] at g5;cases g5
 | some a =>
 rw [hσk] at g5
 cases g5 with
 | cells hca hodd hv =>
 have hoa:own a=some k:=hN2 a (by simp)
 have hpt:∀d∈ds,Ea d= .pointer (some ⟨a,0,none⟩):=fun d hd=>by
  have h1:=hs.env d
  rw [hds d hd] at h1
  obtain ⟨a',e1,e2,_⟩:=h1.opInv
  rw [hσk] at e2
  rw [e1,Option.some.inj e2]
 have hbase:Jq Ea ops h=h.upd a none:=by
  funext t
  unfold Jq AH.upd
  by_cases hta:t=a
  ·rw [if_pos hta,if_pos]
   obtain ⟨m,hm3,hm4⟩:=List.any_eq_true.1 hm2
   exact ⟨m,hm3,by rw [hta];exact hpt m (List.contains_iff_mem.1 hm4)⟩
  ·rw [if_neg hta,if_neg]
   rintro ⟨m,hm3,e⟩
   have h1:=List.all_eq_true.1 hm m hm3
   rw [Bool.or_eq_true] at h1
   rcases h1 with h1 | h1
   ·exact Qcf (hs.env m) h1 _ e
   ·rw [hpt m (List.contains_iff_mem.1 h1)] at e
    simp only [Value.pointer.injEq,Option.some.injEq,Addr.mk.injEq] at e
    exact hta e.1.symm
 let σ':Nat→Option Nat:=fun j=>if j=nx then some a else σ j
 have hσ':∀j,j<nx→σ' j=σ j:=fun j hj=>if_neg (by omega)
 have henv:∀t,V σ' hf (nx+1) (gE (ds.map (fun d=>(d,T.op nx 0))++E) t) (Ea t):=fun t=>by
  have key:∀l:List Nat,(∀d∈l,Ea d= .pointer (some ⟨a,0,none⟩))→V σ' hf (nx+1) (gE (l.map (fun d=>(d,T.op nx 0))++E) t) (Ea t):=fun l=>by
   induction l with
   | nil=>exact fun _=>(hs.env t).mono (fun _ _ e=>e) (by omega) hσ'
   | cons d l ih =>
    intro hl
    simp only [List.map_cons,List.cons_append,gE]
    split
    ·rename_i e
     subst e
     rw [hl _ List.mem_cons_self]
     exact .op nx 0 (by omega) (if_pos Y)
    ·exact ih (fun d hd=>hl d (List.mem_cons_of_mem _ hd))
  exact key ds hpt
 have hcur:SR p h0 σ' hf (fun b=>if b=a then some nx else own b) (ds.map (fun d=>(d,T.op nx 0))++E) ((nx,some (.cells us))::(k,none)::O) (nx+1) Ea h:=by
  refine ⟨henv,fun k' o hk'=> ?_,fun b o hb=> ?_,fun b k' hb=> ?_,hs.base,hs.dom⟩
  ·simp only [gO] at hk'
   split at hk'
   ·rename_i e
    obtain rfl:=Option.some.inj hk'
    refine ⟨by omega,[a],by simp,fun b hb=>by obtain rfl:=List.mem_singleton.1 hb;simp [e],?_⟩
    rw [e]
    show ObjR σ' hf (nx+1) h _ (if nx=nx then some a else σ nx) [a]
    rw [if_pos Y]
    exact .cells hca hodd (hv.mono (fun _ _ e=>e) (by omega) hσ')
   ·split at hk'
    ·cases hk'
    ·rename_i hne2
     obtain ⟨m1,N2,m2,m3,m4⟩:=hs.obj k' o hk'
     refine ⟨by omega,N2,m2,fun b hb=> ?_,?_⟩
     ·have h1:=m3 b hb
      have hba:b≠a:=fun e=>by
       rw [e,hoa] at h1
       exact hne2 (Option.some.inj h1).symm
      simp only [if_neg hba]
      exact h1
     ·rw [hσ' k' m1]
      exact m4.mono (fun _ _ e=>e) (by omega) hσ' (fun _ _=>rfl)
  ·obtain ⟨e1,e2⟩:=hs.fro b o hb
   have hba:b≠a:=fun e=>by rw [e,hoa] at e2;cases e2
   exact ⟨e1,by simp only [if_neg hba];exact e2⟩
  ·split at hb
   ·rename_i e
    subst e
    obtain rfl:=Option.some.inj hb
    obtain ⟨m1,m2,m3,m4⟩:=hs.mine _ k hoa
    exact ⟨m1,m2,m3,by omega⟩
   ·obtain ⟨m1,m2,m3,m4⟩:=hs.mine b k' hb
    exact ⟨m1,m2,m3,by omega⟩
 have hb1:=hs.hide hoa
 have hbas:SR p h0 σ' hf (fun b=>if b=a then none else own b) (ds.map (fun d=>(d,T.op nx 0))++E) ((k,none)::O) (nx+1) Ea (h.upd a none):=by
  have h2:=hb1.ext (nx':=nx+1) (σ':=σ') (own':=fun b=>if b=a then none else own b) (h':=h.upd a none) (by omega) hσ' (fun _ _ e=>e) (fun _ _ e=> .inl e) (fun _ _=>rfl) hb1.dom
  exact ⟨henv,h2.obj,h2.fro,h2.mine,h2.base,h2.dom⟩
 refine Run.draw Y hB hok ?_
 rw [hbase]
 unfold VRunD at hx
 refine hx p c h0 σ' hf _ _ Ea (h.upd a none) h [] ⟨hcur,hbas,fun _=>⟨fun t ht=> ?_,fun b j hb e=> ?_⟩,by omega, .nil,fun x hx=>(by cases hx),(by simp)⟩
 ·unfold AH.upd at ht ⊢
  split
  ·rename_i e;rw [if_pos e] at ht;exact absurd Y ht
  ·rfl
 ·have hba:b≠a:=fun e2=>by rw [e2,AH.upd_same] at hb;exact hb Y
  simp only [if_neg hba] at e
  exact (hs.mine b j e).2.2.2
section
variable {α : Type} {call : QC} {P : Program} {ops : Array Oper} {l : List Oper} {E : QQ} {O Ob OL1 : Qq} {nx nb j j' m : Nat} {B : List (List Nat)} {al : List (Nat × Nat × Obj)} {fl bi : List Nat} {X : α → Prop} {r r' : α → T} {objs : α → List Obj} {K : QQ → Qq → Nat → Prop} {d : Option Tmp} {ty : TypeId} {ps : String} {af : Array Edge} {g : Option (Nat × Bool)} {f : FuncId} {args : Array Operand} {tys : Array TypeId} {ts us : List T}
theorem eDC {code:T} {nc k nb' mb:Nat} {pb:Option Addr} (i:Nat) (hh:Int) (hj:j+1=j') (hw:VWant ops E ⟨d, .call ⟨.value (.func f),args,tys⟩,ty,ps,af,g⟩ true) (hc:Y3 P (.call ⟨.value (.func f),args,tys⟩)= .chain) (hB:B.getD j []=bi) (hL:QbU (fun a=>bi.contains a && !fl.contains a) al O=OL1) (hn:nb≤k)
  (ha:VEvs E args.toList (.op k 0::ts)) (hko:gO OL1 k=some (.cells (Ji pb nb' mb code i hh))) (hi:i≤nc) (hl:LendL ((k,none)::OL1) ts us) (hp:CurE call f code nc us X r) (hb:Zv P f=true) (had:∀x,adopt nx (r x)=(r' x,objs x)) (hm:∀x,(objs x).length=m)
  (hk:∀(x:α) (i':Nat) (hh':Int),X x→i'≤nc→VRunD call P ops B l j' (pE E d (r' x)) (Yl ((k,some (.cells (Ji pb nb' mb code i' hh')))::OL1) nx (objs x)) Ob (nx+m) nb true al (bi++fl) K) :
  VRunD call P ops B (⟨d, .call ⟨.value (.func f),args,tys⟩,ty,ps,af,g⟩::l) j E O Ob nx nb true al fl K :=
 VRunD.chainXE hj hw hc hB hL (.inr ⟨rfl,rfl,fun q hq=>by obtain rfl:=List.mem_singleton.1 hq;exact hn⟩) (OCE.cur hb ha hko hi hl hp had hm) (fun y hy=>hk y.1 y.2.1 y.2.2 hy.1 hy.2)
end
noncomputable instance : DecidableEq D.Note:=Classical.typeDecidableEq _
def Qa (m:Bool) (x:D.Note):List T:= [.int .i64 x.Cell, .str x.Letter, .int .i64 x.Tick, .int .i64 x.Who]
theorem okeNote : EncOk Qa 4:=⟨fun _ _=>rfl,fun x=>QG (.int _ _) (QG (.str _) (QG (.int _ _) (QG (.int _ _) (YF)))),fun m x=>by simp only [Qa,fzL,AE.fz],fun m x=>QG Y (QG Y (QG Y (QG Y (YF)))),fun x=>QG Y (QG Y (QG Y (QG Y (YF))))⟩
def Qo (x:D.Note):Nat:=ByteArray.size x.Letter
theorem QaS : Qgl Qa:=fun _ _=>rfl
theorem Qfz (m:Bool) (x:D.Note):SvL (Qa m x) [Value.int .i64 x.Cell,Value.string x.Letter,Value.int .i64 x.Tick,Value.int .i64 x.Who]:= .cons (.int _ _) (.cons (.str _) (.cons (.int _ _) (.cons (.int _ _) (.nil))))
def Ql (m:Bool) (x:D.Grid):List T:= [.int .i64 x.Rows, .int .i64 x.Cols, .str x.Cells]
theorem ZI : EncOk Ql 3:=⟨fun _ _=>rfl,fun x=>QG (.int _ _) (QG (.int _ _) (QG (.str _) (YF))),fun m x=>by simp only [Ql,fzL,AE.fz],fun m x=>QG Y (QG Y (QG Y (YF))),fun x=>QG Y (QG Y (QG Y (YF)))⟩
def QS (x:D.Grid):Nat:=ByteArray.size x.Cells
theorem B.neq49 {call:QC} {E:QQ} {d:Option Tmp} {ty xt:TypeId} {ps:String} {af:Array Edge} {g:Option (Nat×Bool)} {x y:Operand} {a b:D.Note} {m m':Bool} (hx:VEv E x (.agg (Qa m a))) (hy:VEv E y (.agg (Qa m' b))):OF call Tryd.prog E ⟨d, .binOp .neq 49 x y xt,ty,ps,af,g⟩ (.bool (!decide (a=b))):=by
 obtain ⟨q,h1,h2⟩:=Qg8 a b x y
 have h3:q=decide (a=b):=by
  by_cases h:a=b
  ·rw [h2.2 h,decide_eq_true h]
  ·rw [decide_eq_false h]
   cases q
   ·rfl
   ·exact absurd (h2.1 Y) h
 exact h3▸OF.binA hx hy (Qfz _ a) (Qfz _ b) h1 (.bool _)
theorem U3 : Tryd.prog.underlying 3=some (.int .i64):=Tryd.underlying3
theorem U4 : Tryd.prog.underlying 4=some .bool:=Tryd.underlying4
theorem U5 : Tryd.prog.underlying 5=some (.int .u8):=Tryd.underlying5
theorem U9 : Tryd.prog.underlying 9=some .string:=Tryd.underlying9
theorem U22 : Tryd.prog.underlying 22=some (.slice 5):=Tryd.underlying22
theorem U34 : Tryd.prog.underlying 34=some (.slice 9):=Tryd.underlying34
theorem QJ : Tryd.prog.underlying 42=some (.slice 49):=Tryd.underlying42
theorem U68 : Tryd.prog.underlying 68=some (.slice 3):=Tryd.underlying68
set_option maxRecDepth 20000
set_option maxHeartbeats 2000000
noncomputable section
theorem Zt {ok:Nat→Prop} {i n:Nat} (h:i≤n∧∀j,j<i→ok j) (hi:i<n) (hk:ok i):i+1≤n∧∀j,j<i+1→ok j:=by
 refine ⟨hi,fun j hj=> ?_⟩
 rcases Nat.lt_or_ge j i with h1 | h1
 ·exact h.2 j h1
 ·obtain rfl:j=i:=by omega
  exact hk
theorem Q3 {ok:Nat→Prop} {i n:Nat} (h:i≤n∧∀j,j<i→ok j) (hi:¬i<n):∀j,j<n→ok j:=fun j hj=>h.2 j (by omega)
theorem Qt {α:Type} {l:List α} {i:Nat} {x y:α} (hx:l[i]? =some x) (hy:l[i]? =some y):y=x:=by
 rw [hx] at hy
 exact (Option.some.inj hy).symm
end
theorem Zs (n:Nat) (a:Int) (b:Int) (c:Int):Pure (QA Tryd.prog (n+1)) 37 [(tI a),(tI b),(tI c)] (tB (decide (b≤a∧a≤c))):=by
 refine Pure.intro (rs:= [ResultVar.tmp 6]) Tryd.func37 Y Y Y (E0:= [(0,(tI a)),(1,(tI b)),(2,(tI c))]) Y ?_
 obtain ⟨hlim,hmx,hmax⟩:=Zk
 refine sr (fO (OF.assign (VEv.bool false)) (nt (sr (mO (tI a) Y (mO (tI b) Y (fO (xge (tv (tI a) Y) (tv (tI b) Y)) (mO (tB (decide (b≤a))) Y ?_)))))))
 refine gw (b≤a) (fun fhg10_1=> ?_) fun fhg10_1=> ?_
 ·refine gF (dy fhg10_1) Y Y (OF.move (tv (tI a) Y)) ?_
  refine gF (dy fhg10_1) Y Y (OF.move (tv (tI c) Y)) (gF (dy fhg10_1) Y Y (xle (tv (tI a) Y) (tv (tI c) Y)) (fO (OF.pickT (VEv.tmpB Y (dy fhg10_1)) (tv (tB (decide (a≤c))) Y)) (aO (tB (decide (a≤c))) Y (nt (rt (vb (b':=(decide (a≤c))) Y ?_))))))
  exact Z4 (by omega)
 refine Q2 3 3 true 10 (dz fhg10_1) Y Y Y (fO (OF.pickF (VEv.tmpB Y (dz fhg10_1)) (VEv.bool false)) (aO (tB false) Y (nt (rt (vb (b':=false) Y ?_)))))
 (symm;rw [decide_eq_false_iff_not];omega)
theorem Q4 (n:Nat) (a:Int) (b:Int) (c:Int):Pure (QA Tryd.prog (n+1)) 35 [(tI a),(tI b),(tI c)] (tB (decide (b≤a∧a≤c))):=by
 refine Pure.intro (rs:= [ResultVar.tmp 6]) Tryd.func35 Y Y Y (E0:= [(0,(tI a)),(1,(tI b)),(2,(tI c))]) Y ?_
 obtain ⟨hlim,hmx,hmax⟩:=Zk
 refine sr (fO (OF.assign (VEv.bool false)) (nt (sr (mO (tI b) Y (mO (tI a) Y (fO (xle (tv (tI b) Y) (tv (tI a) Y)) (mO (tB (decide (b≤a))) Y ?_)))))))
 refine gw (b≤a) (fun fhg10_1=> ?_) fun fhg10_1=> ?_
 ·refine gF (dy fhg10_1) Y Y (OF.move (tv (tI a) Y)) ?_
  refine gF (dy fhg10_1) Y Y (OF.move (tv (tI c) Y)) (gF (dy fhg10_1) Y Y (xle (tv (tI a) Y) (tv (tI c) Y)) (fO (OF.pickT (VEv.tmpB Y (dy fhg10_1)) (tv (tB (decide (a≤c))) Y)) (aO (tB (decide (a≤c))) Y (nt (rt (vb (b':=(decide (a≤c))) Y ?_))))))
  exact Z4 (by omega)
 refine Q2 3 3 true 10 (dz fhg10_1) Y Y Y (fO (OF.pickF (VEv.tmpB Y (dz fhg10_1)) (VEv.bool false)) (aO (tB false) Y (nt (rt (vb (b':=false) Y ?_)))))
 (symm;rw [decide_eq_false_iff_not];omega)
theorem Jv (n:Nat) (a:Int):Pure (QA Tryd.prog (n+1)) 39 [(T.int .u8 a)] (tB (decide (97≤a∧a≤122))):=by
 refine Pure.intro (rs:= [ResultVar.tmp 2]) Tryd.func39 Y Y Y (E0:= [(0,(T.int .u8 a))]) Y ?_
 obtain ⟨hlim,hmx,hmax⟩:=Zk
 refine sr (fO (OF.assign (VEv.bool false)) (nt (sr (mO (T.int .u8 a) Y (fO (xge (tv (T.int .u8 a) Y) (VEv.int .u8 97)) (mO (tB (decide (97≤a))) Y ?_))))))
 refine gw (97≤a) (fun fhg5_1=> ?_) fun fhg5_1=> ?_
 ·refine gF (dy fhg5_1) Y Y (OF.move (tv (T.int .u8 a) Y)) ?_
  refine gF (dy fhg5_1) Y Y (xle (tv (T.int .u8 a) Y) (VEv.int .u8 122)) (fO (OF.pickT (VEv.tmpB Y (dy fhg5_1)) (tv (tB (decide (a≤122))) Y)) (aO (tB (decide (a≤122))) Y (nt (rt (vb (b':=(decide (a≤122))) Y ?_)))))
  exact Z4 (by omega)
 refine Q2 2 2 true 5 (dz fhg5_1) Y Y Y (fO (OF.pickF (VEv.tmpB Y (dz fhg5_1)) (VEv.bool false)) (aO (tB false) Y (nt (rt (vb (b':=false) Y ?_)))))
 (symm;rw [decide_eq_false_iff_not];omega)
theorem QeI (n:Nat) (a:Int) (b:Int):Pure (QA Tryd.prog (n+1)) 40 [(tI a),(tI b)] (tB (decide (0≤a∧a<b))):=by
 refine Pure.intro (rs:= [ResultVar.tmp 4]) Tryd.func40 Y Y Y (E0:= [(0,(tI a)),(1,(tI b))]) Y ?_
 obtain ⟨hlim,hmx,hmax⟩:=Zk
 refine sr (fO (OF.assign (VEv.bool false)) (nt (sr (mO (tI a) Y (fO (xge (tv (tI a) Y) (VEv.int .i64 0)) (mO (tB (decide (0≤a))) Y ?_))))))
 refine gw (0≤a) (fun fhg7_1=> ?_) fun fhg7_1=> ?_
 ·refine gF (dy fhg7_1) Y Y (OF.move (tv (tI a) Y)) ?_
  refine gF (dy fhg7_1) Y Y (OF.move (tv (tI b) Y)) (gF (dy fhg7_1) Y Y (xls (tv (tI a) Y) (tv (tI b) Y)) (fO (OF.pickT (VEv.tmpB Y (dy fhg7_1)) (tv (tB (decide (a<b))) Y)) (aO (tB (decide (a<b))) Y (nt (rt (vb (b':=(decide (a<b))) Y ?_))))))
  exact Z4 (by omega)
 refine Q2 3 2 true 7 (dz fhg7_1) Y Y Y (fO (OF.pickF (VEv.tmpB Y (dz fhg7_1)) (VEv.bool false)) (aO (tB false) Y (nt (rt (vb (b':=false) Y ?_)))))
 (symm;rw [decide_eq_false_iff_not];omega)
noncomputable section
def gOk (s:ByteArray) (j:Nat):Prop:=QT s j=35∨QT s j=46
def Qu (g:D.Grid):Prop:=(2≤g.Rows∧g.Rows≤6)∧(2≤g.Cols∧g.Cols≤6)∧((g.Cells.size:Nat):Int)=g.Rows*g.Cols∧∀j,j<g.Cells.size→gOk g.Cells j
instance (g:D.Grid):Decidable (Qu g):=Classical.propDecidable _
theorem QhB {a b:Int} (h1:2≤a) (h2:a≤6) (h3:2≤b) (h4:b≤6):4≤a*b∧a*b≤36:=by
 have e1:2*2≤a*b:=Int.mul_le_mul h1 h3 (by decide) (by omega)
 have e2:a*b≤6*6:=Int.mul_le_mul h2 h4 (by omega) (by decide)
 omega
theorem Qhd {a b:Int} (h1:2≤a) (h2:a≤6) (h3:2≤b) (h4:b≤6):IntKind.i64.wrap (a*b)=a*b:=by
 have:=QhB h1 h2 h3 h4
 rw [QB (by omega)]
end
theorem Qaa (n:Nat) (g:D.Grid) (hc:g.Cells.size≤maxLen):Pure (QA Tryd.prog (n+2)) 105 [(T.agg (Ql false g))] (tB (decide (Qu g))):=by
 refine Pure.intro (rs:= [ResultVar.tmp 2]) Tryd.func105 Y Y Y (E0:= [(0,(T.agg (Ql false g)))]) Y ?_
 obtain ⟨hlim,hmx,hmax⟩:=Zk
 refine sr (kO (B.box (ts:=(Ql false g)) (tv (T.agg (Ql false g)) Y) nofun Y) (fO (OF.assign (VEv.bool false)) (nt (sq (sr (lf (tI g.Rows) Y Y4 Y Y Zo (cO (cS (vc (tv (tI g.Rows) Y) (vc (VEv.int .i64 2) (vc (VEv.int .i64 6) vn))) (ZO Y) (Zs (n+0) g.Rows 2 6) Y Y) (fO (QZ (tv (tB (decide (2≤g.Rows∧g.Rows≤6))) Y)) (mO (tB (!(decide (2≤g.Rows∧g.Rows≤6)))) Y ?_)))))))))
 refine gn (2≤g.Rows∧g.Rows≤6) (fun fhg8_1=> ?_) fun fhg8_1=> ?_
 ·refine Q2 4 4 false 8 (ny fhg8_1) Y Y Y ?_
  refine fO (OF.pickT (VEv.tmpB Y (ny fhg8_1)) (VEv.bool true)) (mO (tB true) Y (Q2 9 10 false 14 (b:=true) Y Y Y Y (fO (OF.pickT (tv (tB true) Y) (VEv.bool true)) (nt (ct Y (sr (fO (OF.assign (VEv.bool false)) (nt (rt (tr (vb (b':=false) Y ?_)))))))))))
  (symm;rw [decide_eq_false_iff_not];rintro ⟨g1,g2,g3,g4⟩;omega)
 refine glf (tI g.Cols) (nz fhg8_1) Y Y Y Y YH Y Y Zo (VRunO.chain (VWant.on Y Y (nz fhg8_1)) (cS (vc (tv (tI g.Cols) Y) (vc (VEv.int .i64 2) (vc (VEv.int .i64 6) vn))) (ZO Y) (Zs (n+0) g.Cols 2 6) Y Y) (gF (nz fhg8_1) Y Y (QZ (tv (tB (decide (2≤g.Cols∧g.Cols≤6))) Y)) (fO (OF.pickF (VEv.tmpB Y (nz fhg8_1)) (tv (tB (!(decide (2≤g.Cols∧g.Cols≤6)))) Y)) (mO (tB (!(decide (2≤g.Cols∧g.Cols≤6)))) Y ?_))))
 refine gn (2≤g.Cols∧g.Cols≤6) (fun fhg14_2=> ?_) fun fhg14_2=> ?_
 ·refine Q2 9 10 false 14 (ny fhg14_2) Y Y Y ?_
  refine fO (OF.pickT (VEv.tmpB Y (ny fhg14_2)) (VEv.bool true)) (nt (ct Y (sr (fO (OF.assign (VEv.bool false)) (nt (rt (tr (vb (b':=false) Y ?_))))))))
  (symm;rw [decide_eq_false_iff_not];rintro ⟨g1,g2,g3,g4⟩;omega)
 refine glf (tS g.Cells) (nz fhg14_2) Y Y Y Y Za Y Y Y7 (gL (nz fhg14_2) Y Y (B.lenS (tv (tS g.Cells) Y) U9) (glf (tI g.Rows) (nz fhg14_2) Y Y Y Y Y4 Y Y Zo (glf (tI g.Cols) (nz fhg14_2) Y Y Y Y YH Y Y Zo (gF (nz fhg14_2) Y Y (B.mul (n:=(g.Rows*g.Cols)) (tv (tI g.Rows) Y) (tv (tI g.Cols) Y) (by (refine Qhd ?_ ?_ ?_ ?_<;>omega))) (gF (nz fhg14_2) Y Y (xne (tv (tN g.Cells.size) Y) (tv (tI (g.Rows*g.Cols)) Y)) (fO (OF.pickF (VEv.tmpB Y (nz fhg14_2)) (tv (tB (!(decide (((g.Cells.size:Nat):Int)=(g.Rows*g.Cols))))) Y)) (nt ?_)))))))
 refine cn (((g.Cells.size:Nat):Int)=(g.Rows*g.Cols)) Y (fun fhc0=> ?_) fun fhc0=> ?_
 ·refine sr ?_
  refine fO (OF.assign (VEv.bool false)) (nt (rt (tr (vb (b':=false) Y ?_))))
  (symm;rw [decide_eq_false_iff_not];rintro ⟨g1,g2,g3,g4⟩;omega)
 refine sk (tn (sq (sr (fO (OF.assign (VEv.int .i64 0)) (nt (VRun.block ?_))))))
 refine VRun.loop (A:=Nat) (fun s_=> [(1,(T.op 0 0)),(3,(tN s_))]) (fun s_=>Jw [(0,(Obj.cells (Ql false g)))]) 1 (fun s_=>s_≤g.Cells.size∧∀j,j<s_→gOk g.Cells j) (fun s_=>g.Cells.size - s_) (0:Nat) ?_ (Wk.mk (fun k=>k) ?_ ?_ ?_) ?_
 ·exact ⟨Nat.zero_le _,fun j hj=>by omega⟩
 ·exact (b2 (b2 bn))
 ·exact (b3 bn)
 ·exact nd Y
 rintro i (hI':i≤g.Cells.size∧∀j,j<i→gOk g.Cells j)
 show VRun _ _ _ [(1,(T.op 0 0)),(3,(tN i))] (Jw [(0,(Obj.cells (Ql false g)))]) 1 _
 have hI1:=hI'.1
 refine sq (sr (mO (tN i) Y (lf (tS g.Cells) Y Za Y Y Y7 (lO (B.lenS (tv (tS g.Cells) Y) U9) (fO (Jx (tv (tN i) Y) (tv (tN g.Cells.size) Y)) (nt ?_))))))
 refine cd (i<g.Cells.size) Y (fun fhc1=> ?_) fun fhc1=> ?_
 ·refine sk ?_
  refine tn (sq (VRun.block (sr (lf (tS g.Cells) Y Za Y Y Y7 (mO (tN i) Y ?_)))))
  have hb3:i<g.Cells.size:=(by omega)
  refine fO (xix (tv (tS g.Cells) Y) (tv (tN i) Y) hb3 U9) (fO (xne (tv (T.int .u8 (QT g.Cells i)) Y) (VEv.int .u8 35)) (mO (tB (!(decide (QT g.Cells i=35)))) Y ?_))
  refine gn (QT g.Cells i=35) (fun fhg37_4=> ?_) fun fhg37_4=> ?_
  ·refine glf (tS g.Cells) (ny fhg37_4) Y Y Y Y Za Y Y Y7 ?_
   refine gF (ny fhg37_4) Y Y (OF.move (tv (tN i) Y)) ?_
   have hb5:i<g.Cells.size:=(by omega)
   refine gF (ny fhg37_4) Y Y (xix (tv (tS g.Cells) Y) (tv (tN i) Y) hb5 U9) (gF (ny fhg37_4) Y Y (xne (tv (T.int .u8 (QT g.Cells i)) Y) (VEv.int .u8 46)) (fO (OF.pickT (VEv.tmpB Y (ny fhg37_4)) (tv (tB (!(decide (QT g.Cells i=46)))) Y)) (nt ?_)))
   refine cn (QT g.Cells i=46) Y (fun fhc2=> ?_) fun fhc2=> ?_
   ·refine sr ?_
    refine fO (OF.assign (VEv.bool false)) (nt (rt (vinB.r (tr (tr (vinB.r (tr (vb (b':=false) Y ?_))))))))
    (symm;rw [decide_eq_false_iff_not];rintro ⟨g1,g2,g3,g4⟩;(have:=g4 i fhc1;unfold gOk at this;omega))
   refine sk (vinB.n (tn (VRun.region (mO (tN i) Y (fO (ZB (tv (tN i) Y) (VEv.int .i64 1) (by omega)) (aO (tN (i+1)) Y (VRunO.nil (tn ?_))))))))
   refine ⟨(i+1:Nat),?_,?_,Wk.mk (fun k=>k) ?_ ?_ ?_⟩
   ·refine Zt hI' fhc1 ?_;unfold gOk;omega
   ·omega
   ·exact (b2 (b2 bn))
   ·exact (b3 bn)
   ·exact nd Y
  refine Q2 5 5 true 37 (nz fhg37_4) Y Y Y (fO (OF.pickF (VEv.tmpB Y (nz fhg37_4)) (VEv.bool false)) (nt (cf Y (sk (vinB.n (tn (VRun.region (mO (tN i) Y (fO (ZB (tv (tN i) Y) (VEv.int .i64 1) (by omega)) (aO (tN (i+1)) Y (VRunO.nil ?_)))))))))))
  refine tn ?_
  refine ⟨(i+1:Nat),?_,?_,Wk.mk (fun k=>k) ?_ ?_ ?_⟩
  ·refine Zt hI' fhc1 ?_;unfold gOk;omega
  ·omega
  ·exact (b2 (b2 bn))
  ·exact (b3 bn)
  ·exact nd Y
 refine VRun.exit (vthn.e (vthn.e (vinB.e (tn (sr (fO (OF.assign (VEv.bool true)) (nt (rt (vb (b':=true) Y ?_)))))))))
 (symm;rw [decide_eq_true_eq];refine ⟨?_,?_,?_,Q3 hI' fhc1⟩<;>assumption)
theorem Zz (n:Nat) (g:D.Grid) (hc:g.Cells.size≤maxLen):Pure (QA Tryd.prog (n+2)) 26 [(T.agg (Ql false g))] (tB (decide (Qu g))):=by
 refine Pure.intro (rs:= [ResultVar.tmp 2]) Tryd.func26 Y Y Y (E0:= [(0,(T.agg (Ql false g)))]) Y ?_
 obtain ⟨hlim,hmx,hmax⟩:=Zk
 refine sr (kO (B.box (ts:=(Ql false g)) (tv (T.agg (Ql false g)) Y) nofun Y) (fO (OF.assign (VEv.bool false)) (nt (sq (sr (lf (tI g.Rows) Y Y4 Y Y Zo (cO (cS (vc (tv (tI g.Rows) Y) (vc (VEv.int .i64 2) (vc (VEv.int .i64 6) vn))) (ZO Y) (Q4 (n+0) g.Rows 2 6) Y Y) (fO (QZ (tv (tB (decide (2≤g.Rows∧g.Rows≤6))) Y)) (mO (tB (!(decide (2≤g.Rows∧g.Rows≤6)))) Y ?_)))))))))
 refine gn (2≤g.Rows∧g.Rows≤6) (fun fhg8_1=> ?_) fun fhg8_1=> ?_
 ·refine Q2 4 4 false 8 (ny fhg8_1) Y Y Y ?_
  refine fO (OF.pickT (VEv.tmpB Y (ny fhg8_1)) (VEv.bool true)) (mO (tB true) Y (Q2 9 10 false 14 (b:=true) Y Y Y Y (fO (OF.pickT (tv (tB true) Y) (VEv.bool true)) (nt (ct Y (sr (fO (OF.assign (VEv.bool false)) (nt (rt (tr (vb (b':=false) Y ?_)))))))))))
  (symm;rw [decide_eq_false_iff_not];rintro ⟨g1,g2,g3,g4⟩;omega)
 refine glf (tI g.Cols) (nz fhg8_1) Y Y Y Y YH Y Y Zo (VRunO.chain (VWant.on Y Y (nz fhg8_1)) (cS (vc (tv (tI g.Cols) Y) (vc (VEv.int .i64 2) (vc (VEv.int .i64 6) vn))) (ZO Y) (Q4 (n+0) g.Cols 2 6) Y Y) (gF (nz fhg8_1) Y Y (QZ (tv (tB (decide (2≤g.Cols∧g.Cols≤6))) Y)) (fO (OF.pickF (VEv.tmpB Y (nz fhg8_1)) (tv (tB (!(decide (2≤g.Cols∧g.Cols≤6)))) Y)) (mO (tB (!(decide (2≤g.Cols∧g.Cols≤6)))) Y ?_))))
 refine gn (2≤g.Cols∧g.Cols≤6) (fun fhg14_2=> ?_) fun fhg14_2=> ?_
 ·refine Q2 9 10 false 14 (ny fhg14_2) Y Y Y ?_
  refine fO (OF.pickT (VEv.tmpB Y (ny fhg14_2)) (VEv.bool true)) (nt (ct Y (sr (fO (OF.assign (VEv.bool false)) (nt (rt (tr (vb (b':=false) Y ?_))))))))
  (symm;rw [decide_eq_false_iff_not];rintro ⟨g1,g2,g3,g4⟩;omega)
 refine glf (tS g.Cells) (nz fhg14_2) Y Y Y Y Za Y Y Y7 (gL (nz fhg14_2) Y Y (B.lenS (tv (tS g.Cells) Y) U9) (glf (tI g.Rows) (nz fhg14_2) Y Y Y Y Y4 Y Y Zo (glf (tI g.Cols) (nz fhg14_2) Y Y Y Y YH Y Y Zo (gF (nz fhg14_2) Y Y (B.mul (n:=(g.Rows*g.Cols)) (tv (tI g.Rows) Y) (tv (tI g.Cols) Y) (by (refine Qhd ?_ ?_ ?_ ?_<;>omega))) (gF (nz fhg14_2) Y Y (xne (tv (tN g.Cells.size) Y) (tv (tI (g.Rows*g.Cols)) Y)) (fO (OF.pickF (VEv.tmpB Y (nz fhg14_2)) (tv (tB (!(decide (((g.Cells.size:Nat):Int)=(g.Rows*g.Cols))))) Y)) (nt ?_)))))))
 refine cn (((g.Cells.size:Nat):Int)=(g.Rows*g.Cols)) Y (fun fhc0=> ?_) fun fhc0=> ?_
 ·refine sr ?_
  refine fO (OF.assign (VEv.bool false)) (nt (rt (tr (vb (b':=false) Y ?_))))
  (symm;rw [decide_eq_false_iff_not];rintro ⟨g1,g2,g3,g4⟩;omega)
 refine sk (tn (sq (sr (lf (tS g.Cells) Y Za Y Y Y7 (lO (B.lenS (tv (tS g.Cells) Y) U9) (fO (OF.move (VEv.int .i64 0)) (nt (VRun.block ?_))))))))
 refine VRun.loop (A:=Nat) (fun s_=> [(1,(T.op 0 0)),(27,(tN g.Cells.size)),(28,(tN s_))]) (fun s_=>Jw [(0,(Obj.cells (Ql false g)))]) 1 (fun s_=>s_≤g.Cells.size∧∀j,j<s_→gOk g.Cells j) (fun s_=>g.Cells.size - s_) (0:Nat) ?_ (Wk.mk (fun k=>k) ?_ ?_ ?_) ?_
 ·exact ⟨Nat.zero_le _,fun j hj=>by omega⟩
 ·exact (b2 (b2 (b2 bn)))
 ·exact (b3 bn)
 ·exact nd Y
 rintro i (hI':i≤g.Cells.size∧∀j,j<i→gOk g.Cells j)
 show VRun _ _ _ [(1,(T.op 0 0)),(27,(tN g.Cells.size)),(28,(tN i))] (Jw [(0,(Obj.cells (Ql false g)))]) 1 _
 have hI1:=hI'.1
 refine sr (fO (Jx (tv (tN i) Y) (tv (tN g.Cells.size) Y)) (nt (sq ?_)))
 refine cd (i<g.Cells.size) Y (fun fhc1=> ?_) fun fhc1=> ?_
 ·refine sk ?_
  refine tn (sq (VRun.block (sr (mO (tN i) Y (aO (tN i) Y (nt (sr (lf (tS g.Cells) Y Za Y Y Y7 (mO (tN i) Y ?_)))))))))
  have hb3:i<g.Cells.size:=(by omega)
  refine fO (xix (tv (tS g.Cells) Y) (tv (tN i) Y) hb3 U9) (fO (xne (tv (T.int .u8 (QT g.Cells i)) Y) (VEv.int .u8 35)) (mO (tB (!(decide (QT g.Cells i=35)))) Y ?_))
  refine gn (QT g.Cells i=35) (fun fhg36_4=> ?_) fun fhg36_4=> ?_
  ·refine glf (tS g.Cells) (ny fhg36_4) Y Y Y Y Za Y Y Y7 ?_
   refine gF (ny fhg36_4) Y Y (OF.move (tv (tN i) Y)) ?_
   have hb5:i<g.Cells.size:=(by omega)
   refine gF (ny fhg36_4) Y Y (xix (tv (tS g.Cells) Y) (tv (tN i) Y) hb5 U9) (gF (ny fhg36_4) Y Y (xne (tv (T.int .u8 (QT g.Cells i)) Y) (VEv.int .u8 46)) (fO (OF.pickT (VEv.tmpB Y (ny fhg36_4)) (tv (tB (!(decide (QT g.Cells i=46)))) Y)) (nt ?_)))
   refine cn (QT g.Cells i=46) Y (fun fhc2=> ?_) fun fhc2=> ?_
   ·refine sr ?_
    refine fO (OF.assign (VEv.bool false)) (nt (rt (vinB.r (tr (tr (vinB.r (tr (vb (b':=false) Y ?_))))))))
    (symm;rw [decide_eq_false_iff_not];rintro ⟨g1,g2,g3,g4⟩;(have:=g4 i fhc1;unfold gOk at this;omega))
   refine sk (vinB.n (tn (VRun.region (fO (ZB (tv (tN i) Y) (VEv.int .i64 1) (by omega)) (mO (tN (i+1)) Y (VRunO.nil (tn ?_)))))))
   refine ⟨(i+1:Nat),?_,?_,Wk.mk (fun k=>k) ?_ ?_ ?_⟩
   ·refine Zt hI' fhc1 ?_;unfold gOk;omega
   ·omega
   ·exact (b2 (b2 (b2 bn)))
   ·exact (b3 bn)
   ·exact nd Y
  refine Q2 5 5 true 36 (nz fhg36_4) Y Y Y (fO (OF.pickF (VEv.tmpB Y (nz fhg36_4)) (VEv.bool false)) (nt (cf Y (sk (vinB.n (tn (VRun.region (fO (ZB (tv (tN i) Y) (VEv.int .i64 1) (by omega)) (mO (tN (i+1)) Y (VRunO.nil (tn ?_)))))))))))
  refine ⟨(i+1:Nat),?_,?_,Wk.mk (fun k=>k) ?_ ?_ ?_⟩
  ·refine Zt hI' fhc1 ?_;unfold gOk;omega
  ·omega
  ·exact (b2 (b2 (b2 bn)))
  ·exact (b3 bn)
  ·exact nd Y
 refine VRun.exit (vthn.e (vthn.e (vinB.e (tn (sr (fO (OF.assign (VEv.bool true)) (nt (rt (vb (b':=true) Y ?_)))))))))
 (symm;rw [decide_eq_true_eq];refine ⟨?_,?_,?_,Q3 hI' fhc1⟩<;>assumption)
noncomputable section
def QfE (s:ByteArray):Nat→ByteArray
 | 0=>⟨#[]⟩
 | i+1=>s.extract i (i+1)++QfE s i
def back (s:ByteArray):ByteArray:=if s.size≤100 then QfE s s.size else ⟨#[]⟩
end
noncomputable section
theorem QaG (l:List Int):(J9 l).data.toList=l.map fun n=>UInt8.ofNat n.toNat:=by
 have h:∀(l:List Int) (r:ByteArray),(l.foldl (fun r n=>r.push (UInt8.ofNat n.toNat)) r).data.toList=r.data.toList++l.map fun n=>UInt8.ofNat n.toNat:=by
  intro l
  induction l with
  | nil=>intro r;simp
  | cons n l ih=>intro r;rw [List.foldl_cons,ih];simp [ByteArray.push]
 simpa [J9] using h l ByteArray.empty
theorem QeM {a b:ByteArray} (h:a.data.toList=b.data.toList):a=b:=by
 cases a;cases b
 simp only at h
 congr 1
 exact Array.toList_inj.1 h
end
noncomputable section
def Ys (c f:Int):Prop:=(c=35→f=35)∧(c=46→f=63∨(97≤f∧f≤122))
def YD (g:D.Grid) (f:ByteArray):Prop:=Qu g∧f.size=g.Cells.size∧∀j,j<f.size→Ys (QT g.Cells j) (QT f j)
instance (g:D.Grid) (f:ByteArray):Decidable (YD g f):=Classical.propDecidable _
theorem Qft (p q:Prop) [Decidable p] [Decidable q]:(!(decide p == decide q))=decide (¬(p↔q)):=by
 by_cases hp:p<;>by_cases hq:q<;>simp [hp,hq]
end
theorem Qad (n:Nat) (g:D.Grid) (f:ByteArray) (hc:g.Cells.size≤maxLen) (hf:f.size≤maxLen):Pure (QA Tryd.prog (n+3)) 27 [(T.agg (Ql false g)),(tS f)] (tB (decide (YD g f))):=by
 refine Pure.intro (rs:= [ResultVar.tmp 4]) Tryd.func27 Y Y Y (E0:= [(0,(T.agg (Ql false g))),(1,(tS f))]) Y ?_
 obtain ⟨hlim,hmx,hmax⟩:=Zk
 refine sr (kO (B.box (ts:=(Ql false g)) (tv (T.agg (Ql false g)) Y) nofun Y) (fO (OF.assign (VEv.bool false)) (nt (sq (sr (lO (OL.loadOn (us:=(Ql false g)) (tv (T.op 0 0) Y) Y ZF Q9 (lb Y) Y) (cO (cS (vc (tv (T.agg (Ql false g)) Y) vn) (LendL.cons (lg ZI) ln) (Zz (n+0) g (by assumption)) Y Y) (fO (QZ (tv (tB (decide (Qu g))) Y)) (mO (tB (!(decide (Qu g)))) Y ?_)))))))))
 refine gn (Qu g) (fun fhg9_1=> ?_) fun fhg9_1=> ?_
 ·refine Q2 6 3 false 9 (ny fhg9_1) Y Y Y ?_
  refine fO (OF.pickT (VEv.tmpB Y (ny fhg9_1)) (VEv.bool true)) (nt (ct Y (sr (fO (OF.assign (VEv.bool false)) (nt (rt (tr (vb (b':=false) Y ?_))))))))
  (symm;rw [decide_eq_false_iff_not];rintro ⟨g1,g2,g3⟩;contradiction)
 refine gF (nz fhg9_1) Y Y (OF.move (tv (tS f) Y)) (gL (nz fhg9_1) Y Y (B.lenS (tv (tS f) Y) U9) (glf (tS g.Cells) (nz fhg9_1) Y Y Y Y Za Y Y Y7 (gL (nz fhg9_1) Y Y (B.lenS (tv (tS g.Cells) Y) U9) (gF (nz fhg9_1) Y Y (Qhl (tv (tN f.size) Y) (tv (tN g.Cells.size) Y)) (fO (OF.pickF (VEv.tmpB Y (nz fhg9_1)) (tv (tB (!(decide (f.size=g.Cells.size)))) Y)) (nt ?_))))))
 refine cn (f.size=g.Cells.size) Y (fun fhc0=> ?_) fun fhc0=> ?_
 ·refine sr ?_
  refine fO (OF.assign (VEv.bool false)) (nt (rt (tr (vb (b':=false) Y ?_))))
  (symm;rw [decide_eq_false_iff_not];rintro ⟨g1,g2,g3⟩;contradiction)
 refine sk (tn (sq (sr (mO (tS f) Y (lO (B.lenS (tv (tS f) Y) U9) (fO (OF.move (VEv.int .i64 0)) (nt (VRun.block ?_))))))))
 refine VRun.loop (A:=Nat) (fun s_=> [(1,(tS f)),(2,(T.op 0 0)),(18,(tN f.size)),(19,(tN s_))]) (fun s_=>Jw [(0,(Obj.cells (Ql false g)))]) 1 (fun s_=>s_≤f.size∧∀j,j<s_→Ys (QT g.Cells j) (QT f j)) (fun s_=>f.size - s_) (0:Nat) ?_ (Wk.mk (fun k=>k) ?_ ?_ ?_) ?_
 ·exact ⟨Nat.zero_le _,fun j hj=>by omega⟩
 ·exact (b2 (b2 (b2 (b2 bn))))
 ·exact (b3 bn)
 ·exact nd Y
 rintro i (hI':i≤f.size∧∀j,j<i→Ys (QT g.Cells j) (QT f j))
 show VRun _ _ _ [(1,(tS f)),(2,(T.op 0 0)),(18,(tN f.size)),(19,(tN i))] (Jw [(0,(Obj.cells (Ql false g)))]) 1 _
 have hI1:=hI'.1
 have hgo:Qu g:=by assumption
 refine sr (fO (Jx (tv (tN i) Y) (tv (tN f.size) Y)) (nt (sq ?_)))
 refine cd (i<f.size) Y (fun fhc1=> ?_) fun fhc1=> ?_
 ·have hgi:=hgo.2.2.2 i (by omega)
  unfold gOk at hgi
  refine sk (tn (sq (VRun.block (sr (mO (tN i) Y (aO (tN i) Y (nt (sq (VRun.draw (B:= [[],[0],[],[2,0,1],[1,0,2,3],[],[],[6,5],[5,6,7],[7,6,5,8,3,2,0,1,4],[4,1,0,2,3,8,5,6,7,9],[9,7,6,5,8,3,2,0,1,4,10],[9,7,6,5,8,3,2,0,1,4,10],[12,10,4,1,0,2,3,8,5,6,7,9,11],[11,9,7,6,5,8,3,2,0,1,4,10,12,13],[13,12,10,4,1,0,2,3,8,5,6,7,9,11,14],[14,11,9,7,6,5,8,3,2,0,1,4,10,12,13,15],[14,11,9,7,6,5,8,3,2,0,1,4,10,12,13,15],[17,15,13,12,10,4,1,0,2,3,8,5,6,7,9,11,14,16],[16,14,11,9,7,6,5,8,3,2,0,1,4,10,12,13,15,17,18],[18,17,16,19,14,11,9,7,6,5,8,3,2,0,1,4,10,12,13,15],[15,13,12,10,4,1,0,2,3,8,5,6,7,9,11,14,19,16,17,18,20],[20,18,17,16,19,14,11,9,7,6,5,8,3,2,0,1,4,10,12,13,15,21],[20,18,17,16,19,14,11,9,7,6,5,8,3,2,0,1,4,10,12,13,15,21],[23,21,15,13,12,10,4,1,0,2,3,8,5,6,7,9,11,14,19,16,17,18,20,22],[22,20,18,17,16,19,14,11,9,7,6,5,8,3,2,0,1,4,10,12,13,15,21,23,24],[24,23,21,15,13,12,10,4,1,0,2,3,8,5,6,7,9,11,14,19,16,17,18,20,22,25],[25,22,23,24,26,20,18,17,16,19,14,11,9,7,6,5,8,3,2,0,1,4,10,12,13,15,21],[21,15,13,12,11,14,19,16,17,18,20,26,24,23,22,25,27,9,7,6,5,8,3,2,0,1,4,10]]) (by kernel_rfl) (by kernel_rfl) Y (fD (OF.fieldAddrO (tv (T.op 0 0) Y) Za) Y Y (lD (OL.loadO1 (t:=(tS g.Cells)) (tv (T.op 0 2) Y) Y Y Y7) Y Y ?_)))))))))))
  refine mD (tN i) Y Y ?_
  have hb2:i<g.Cells.size:=(by omega)
  refine fD (xix (tv (tS g.Cells) Y) (tv (tN i) Y) hb2 U9) Y Y (fD (xeq (tv (T.int .u8 (QT g.Cells i)) Y) (VEv.int .u8 35)) Y Y (mD (tS f) Y Y (mD (tN i) Y Y ?_)))
  have hb3:i<f.size:=(by omega)
  refine fD (xix (tv (tS f) Y) (tv (tN i) Y) hb3 U9) Y Y (fD (xeq (tv (T.int .u8 (QT f i)) Y) (VEv.int .u8 35)) Y Y (fD (B.bneq U4 (c:=(!((decide (QT g.Cells i=35)) == (decide (QT f i=35))))) (tv (tB (decide (QT g.Cells i=35))) Y) (tv (tB (decide (QT f i=35))) Y) Y) Y Y (mD (tB (!((decide (QT g.Cells i=35)) == (decide (QT f i=35))))) Y Y ?_)))
  refine YI (!((decide (QT g.Cells i=35)) == (decide (QT f i=35)))) (fun hg32_4=> ?_) (fun hg32_4=> ?_)
  ·have fhg32_4:(!((decide (QT g.Cells i=35)) == (decide (QT f i=35))))=true:=hg32_4
   refine oD Y Y hg32_4 Y (oD Y Y hg32_4 Y (oD Y Y hg32_4 Y (oD Y Y hg32_4 Y (oD Y Y hg32_4 Y (uD Y Y Y (uD Y Y Y (uD Y Y Y (uD Y Y Y (oD Y Y hg32_4 Y (oD Y Y hg32_4 Y (uD Y Y Y ?_)))))))))))
   refine uD Y Y Y (uD Y Y Y (uD Y Y Y (uD Y Y Y (oD Y Y hg32_4 Y (fD (OF.pickT (VEv.tmpB Y hg32_4) (VEv.bool true)) Y Y (VRunD.nil (tn (ct Y (sr (fO (OF.assign (VEv.bool false)) (nt ?_)))))))))))
   refine rt (vinB.r (tr (tr (vinB.r (tr (vb (b':=false) Y ?_))))))
   (symm;rw [decide_eq_false_iff_not];rintro ⟨g1,g2,g3⟩;(have g4:=g3 i fhc1;unfold Ys at g4;simp only [Qft,decide_eq_true_eq,decide_eq_false_iff_not,Classical.not_not] at *;omega))
  have fhg32_4:(!((decide (QT g.Cells i=35)) == (decide (QT f i=35))))=false:=hg32_4
  refine VRunD.free Y (VWant.on Y Y hg32_4) Y (OF.move (tv (tS f) Y)) (VRunD.free Y (VWant.on Y Y hg32_4) Y (OF.move (tv (tN i) Y)) ?_)
  have hb5:i<f.size:=(by omega)
  refine VRunD.free Y (VWant.on Y Y hg32_4) Y (xix (tv (tS f) Y) (tv (tN i) Y) hb5 U9) (VRunD.free Y (VWant.on Y Y hg32_4) Y (xne (tv (T.int .u8 (QT f i)) Y) (VEv.int .u8 35)) (VRunD.free Y (VWant.on Y Y hg32_4) Y (OF.move (tv (tB (!(decide (QT f i=35)))) Y)) ?_))
  refine gn (QT f i=35) (fun fhg37_6=> ?_) fun fhg37_6=> ?_
  ·refine VRunD.free Y (VWant.on Y Y (ny fhg37_6)) Y (OF.move (tv (tS f) Y)) ?_
   refine VRunD.free Y (VWant.on Y Y (ny fhg37_6)) Y (OF.move (tv (tN i) Y)) ?_
   have hb7:i<f.size:=(by omega)
   refine VRunD.free Y (VWant.on Y Y (ny fhg37_6)) Y (xix (tv (tS f) Y) (tv (tN i) Y) hb7 U9) (VRunD.free Y (VWant.on Y Y (ny fhg37_6)) Y (xne (tv (T.int .u8 (QT f i)) Y) (VEv.int .u8 63)) (VRunD.free Y (VWant.on Y Y hg32_4) Y (OF.pickT (VEv.tmpB Y (ny fhg37_6)) (tv (tB (!(decide (QT f i=63)))) Y)) (VRunD.free Y (VWant.on Y Y hg32_4) Y (OF.move (tv (tB (!(decide (QT f i=63)))) Y)) ?_)))
   refine gn (QT f i=63) (fun fhg43_8=> ?_) fun fhg43_8=> ?_
   ·refine VRunD.free Y (VWant.on Y Y (ny fhg43_8)) Y (OF.move (tv (tS f) Y)) ?_
    refine VRunD.free Y (VWant.on Y Y (ny fhg43_8)) Y (OF.move (tv (tN i) Y)) ?_
    have hb9:i<f.size:=(by omega)
    refine VRunD.free Y (VWant.on Y Y (ny fhg43_8)) Y (xix (tv (tS f) Y) (tv (tN i) Y) hb9 U9) (VRunD.quiet (bi:= [22,20,18,17,16,19,14,11,9,7,6,5,8,3,2,0,1,4,10,12,13,15,21,23,24]) Y (VWant.on Y Y (ny fhg43_8)) Y Y Y bn (cS (vc (tv (T.int .u8 (QT f i)) Y) vn) (ZO Y) (Jv (n+1) (QT f i)) Y Y) (VRunD.free Y (VWant.on Y Y (ny fhg43_8)) Y (QZ (tv (tB (decide (97≤(QT f i)∧(QT f i)≤122))) Y)) (VRunD.free Y (VWant.on Y Y hg32_4) Y (OF.pickT (VEv.tmpB Y (ny fhg43_8)) (tv (tB (!(decide (97≤(QT f i)∧(QT f i)≤122)))) Y)) (fD (OF.pickF (VEv.tmpB Y hg32_4) (tv (tB (!(decide (97≤(QT f i)∧(QT f i)≤122)))) Y)) Y Y (VRunD.nil (tn ?_))))))
    refine cn (97≤(QT f i)∧(QT f i)≤122) Y (fun fhc2=> ?_) fun fhc2=> ?_
    ·refine sr ?_
     refine fO (OF.assign (VEv.bool false)) (nt (rt (vinB.r (tr (tr (vinB.r (tr (vb (b':=false) Y ?_))))))))
     (symm;rw [decide_eq_false_iff_not];rintro ⟨g1,g2,g3⟩;(have g4:=g3 i fhc1;unfold Ys at g4;simp only [Qft,decide_eq_true_eq,decide_eq_false_iff_not,Classical.not_not] at *;omega))
    refine sk (vinB.n (tn (VRun.region (fO (ZB (tv (tN i) Y) (VEv.int .i64 1) (by omega)) (mO (tN (i+1)) Y (VRunO.nil (tn ?_)))))))
    refine ⟨(i+1:Nat),?_,?_,Wk.mk (fun k=>k) ?_ ?_ ?_⟩
    ·refine Zt hI' fhc1 ?_;unfold Ys;simp only [Qft,decide_eq_true_eq,decide_eq_false_iff_not,Classical.not_not] at *;omega
    ·omega
    ·exact (b2 (b2 (b2 (b2 bn))))
    ·exact (b3 bn)
    ·exact nd Y
   refine oD Y Y (nz fhg43_8) Y (oD Y Y (nz fhg43_8) Y (oD Y Y (nz fhg43_8) Y (oD Y Y (nz fhg43_8) Y (oD Y Y (nz fhg43_8) Y (VRunD.free Y (VWant.on Y Y hg32_4) Y (OF.pickF (VEv.tmpB Y (nz fhg43_8)) (VEv.bool false)) (fD (OF.pickF (VEv.tmpB Y hg32_4) (tv (tB false) Y)) Y Y (VRunD.nil (tn (cf Y (sk (vinB.n ?_)))))))))))
   refine tn (VRun.region (fO (ZB (tv (tN i) Y) (VEv.int .i64 1) (by omega)) (mO (tN (i+1)) Y (VRunO.nil (tn ?_)))))
   refine ⟨(i+1:Nat),?_,?_,Wk.mk (fun k=>k) ?_ ?_ ?_⟩
   ·refine Zt hI' fhc1 ?_;unfold Ys;simp only [Qft,decide_eq_true_eq,decide_eq_false_iff_not,Classical.not_not] at *;omega
   ·omega
   ·exact (b2 (b2 (b2 (b2 bn))))
   ·exact (b3 bn)
   ·exact nd Y
  refine oD Y Y (nz fhg37_6) Y (oD Y Y (nz fhg37_6) Y (oD Y Y (nz fhg37_6) Y (oD Y Y (nz fhg37_6) Y (VRunD.free Y (VWant.on Y Y hg32_4) Y (OF.pickF (VEv.tmpB Y (nz fhg37_6)) (VEv.bool false)) (VRunD.free Y (VWant.on Y Y hg32_4) Y (OF.move (tv (tB false) Y)) (VRunD.off Y (VWant.not (b:=false) Y Y Y) (VRunD.off Y (VWant.not (b:=false) Y Y Y) (VRunD.off Y (VWant.not (b:=false) Y Y Y) (VRunD.off Y (VWant.not (b:=false) Y Y Y) (VRunD.off Y (VWant.not (b:=false) Y Y Y) (VRunD.free Y (VWant.on Y Y hg32_4) Y (OF.pickF (tv (tB false) Y) (VEv.bool false)) ?_)))))))))))
  refine fD (OF.pickF (VEv.tmpB Y hg32_4) (tv (tB false) Y)) Y Y (VRunD.nil (tn (cf Y (sk (vinB.n (tn (VRun.region (fO (ZB (tv (tN i) Y) (VEv.int .i64 1) (by omega)) (mO (tN (i+1)) Y (VRunO.nil (tn ?_)))))))))))
  refine ⟨(i+1:Nat),?_,?_,Wk.mk (fun k=>k) ?_ ?_ ?_⟩
  ·refine Zt hI' fhc1 ?_;unfold Ys;simp only [Qft,decide_eq_true_eq,decide_eq_false_iff_not,Classical.not_not] at *;omega
  ·omega
  ·exact (b2 (b2 (b2 (b2 bn))))
  ·exact (b3 bn)
  ·exact nd Y
 refine VRun.exit (vthn.e (vthn.e (vinB.e (tn (sr (fO (OF.assign (VEv.bool true)) (nt (rt (vb (b':=true) Y ?_)))))))))
 (symm;rw [decide_eq_true_eq];refine ⟨?_,?_,Q3 hI' fhc1⟩<;>assumption)
theorem QbF (n:Nat) (g:D.Grid) (c:Int) (hc:g.Cells.size≤maxLen):Pure (QA Tryd.prog (n+3)) 55 [(T.agg (Ql false g)),(tI c)] (tB (decide (Qu g∧(0≤c∧c≤((g.Cells.size:Nat):Int) - 1)∧QT g.Cells (Int.toNat c)=46))):=by
 refine Pure.intro (rs:= [ResultVar.tmp 4]) Tryd.func55 Y Y Y (E0:= [(0,(T.agg (Ql false g))),(1,(tI c))]) Y ?_
 obtain ⟨hlim,hmx,hmax⟩:=Zk
 refine sr (kO (B.box (ts:=(Ql false g)) (tv (T.agg (Ql false g)) Y) nofun Y) (fO (OF.assign (VEv.bool false)) (nt (sr (lO (OL.loadOn (us:=(Ql false g)) (tv (T.op 0 0) Y) Y ZF Q9 (lb Y) Y) (cO (cS (vc (tv (T.agg (Ql false g)) Y) vn) (LendL.cons (lg ZI) ln) (Zz (n+0) g (by assumption)) Y Y) (mO (tB (decide (Qu g))) Y ?_)))))))
 refine gw (Qu g) (fun fhg7_1=> ?_) fun fhg7_1=> ?_
 ·refine gF (dy fhg7_1) Y Y (OF.move (tv (tI c) Y)) ?_
  refine glf (tS g.Cells) (dy fhg7_1) Y Y Y Y Za Y Y Y7 (gL (dy fhg7_1) Y Y (B.lenS (tv (tS g.Cells) Y) U9) (VRunO.chain (VWant.on Y Y (dy fhg7_1)) (cS (vc (tv (tI c) Y) (vc (tv (tN g.Cells.size) Y) vn)) (ZO Y) (QeI (n+1) c ((g.Cells.size:Nat):Int)) Y Y) (fO (OF.pickT (VEv.tmpB Y (dy fhg7_1)) (tv (tB (decide (0≤c∧c<((g.Cells.size:Nat):Int)))) Y)) (mO (tB (decide (0≤c∧c<((g.Cells.size:Nat):Int)))) Y ?_))))
  refine gw (0≤c∧c<((g.Cells.size:Nat):Int)) (fun fhg14_2=> ?_) fun fhg14_2=> ?_
  ·refine glf (tS g.Cells) (dy fhg14_2) Y Y Y Y Za Y Y Y7 ?_
   refine gF (dy fhg14_2) Y Y (OF.move (tv (tI c) Y)) ?_
   have hb3:(Int.toNat c)<g.Cells.size:=(by omega)
   refine gF (dy fhg14_2) Y Y (B.index (n:=(QT g.Cells (Int.toNat c))) (i:=(Int.toNat c)) (tv (tS g.Cells) Y) (tv (tI c) Y) (by omega) hb3 U9 (QdM hb3)) (gF (dy fhg14_2) Y Y (xeq (tv (T.int .u8 (QT g.Cells (Int.toNat c))) Y) (VEv.int .u8 46)) (fO (OF.pickT (VEv.tmpB Y (dy fhg14_2)) (tv (tB (decide (QT g.Cells (Int.toNat c)=46))) Y)) (aO (tB (decide (QT g.Cells (Int.toNat c)=46))) Y (nt (rt (vb (b':=(decide (QT g.Cells (Int.toNat c)=46))) Y ?_))))))
   (refine Z4 ⟨fun h=>⟨?_,?_,h⟩,fun h=>h.2.2⟩<;>first | assumption | omega)
  refine Q2 5 9 true 14 (dz fhg14_2) Y Y Y (fO (OF.pickF (VEv.tmpB Y (dz fhg14_2)) (VEv.bool false)) (aO (tB false) Y (nt (rt (vb (b':=false) Y ?_)))))
  (symm;rw [decide_eq_false_iff_not];rintro ⟨g1,g2,g3⟩;omega)
 refine Q2 5 2 true 7 (dz fhg7_1) Y Y Y (fO (OF.pickF (VEv.tmpB Y (dz fhg7_1)) (VEv.bool false)) (mO (tB false) Y (Q2 5 9 true 14 (b:=false) Y Y Y Y (fO (OF.pickF (tv (tB false) Y) (VEv.bool false)) (aO (tB false) Y (nt (rt (vb (b':=false) Y ?_))))))))
 (symm;rw [decide_eq_false_iff_not];rintro ⟨g1,g2,g3⟩;contradiction)
noncomputable section
def wrI (f w:ByteArray) (cs:List Int):Nat→List Int
 | 0=>bys f
 | i+1=>(wrI f w cs i).set (Int.toNat (cs.getD i 0)) (QT w i)
def wrS (f w:ByteArray) (cs:List Int) (i:Nat):ByteArray:=J9 (wrI f w cs i)
theorem Qaw (f w:ByteArray) (cs:List Int):∀i,(wrI f w cs i).length=f.size
 | 0=>J2 f
 | i+1=>by rw [wrI,List.length_set,Qaw f w cs i]
theorem Qc8 {f w:ByteArray} {cs:List Int} {i:Nat} {c:Int} (h:cs[i]? =some c):(wrI f w cs i).set (Int.toNat c) (QT w i)=wrI f w cs (i+1):=by
 rw [wrI,List.getD_eq_getElem?_getD,h];rfl
theorem Qfu (f w:ByteArray) (cs:List Int) (i:Nat):(wrS f w cs i).size=f.size:=by
 show (wrS f w cs i).data.size=_
 rw [← Array.length_toList]
 unfold wrS
 rw [QaG,List.length_map,Qaw]
end
theorem QaE (n:Nat) (f:ByteArray) (l:List Int) (w:ByteArray) (hf:f.size≤maxLen) (hl:l.length=w.size) (hw:w.size≤maxLen) (hin:∀c∈l,0≤c∧c<((f.size:Nat):Int)):Pure (QA Tryd.prog (n+1)) 56 [(tS f),(rd 1 Jt l),(tS w)] (tS (wrS f w l l.length)):=by
 refine Pure.intro (rs:= [ResultVar.tmp 6]) Tryd.func56 Y Y Y (E0:= [(0,(tS f)),(1,(rd 1 Jt l)),(2,(tS w))]) Y ?_
 obtain ⟨hlim,hmx,hmax⟩:=Zk
 refine sr (fO (OF.assign (VEv.str (⟨#[]⟩:ByteArray))) (nt (sr (mO (tS f) Y (kO (B.convSB (tv (tS f) Y) U9 U22 U5) (aO (T.os 1 0 0 (((bys f).map (Qj true)).length)) Y (nt (sq (sr (mO (rd 1 Jt l) Y (lO (B.lenR (m:=l.length) (tv (rd 1 Jt l) Y) U68 (List.length_map ..)) ?_)))))))))))
 refine fO (OF.move (VEv.int .i64 0)) (nt (VRun.block ?_))
 have he1:(bys f)=wrI f w l 0:=by first | rfl | exact Qc8 hx1 | (simp;done) | omega
 refine VRun.loop (A:=Nat) (fun s_=> [(2,(tS w)),(6,(tS (⟨#[]⟩:ByteArray))),(7,(T.os 1 0 0 (((wrI f w l s_).map (Qj true)).length))),(12,(rd 1 Jt l)),(13,(tN l.length)),(14,(tN s_))]) (fun s_=>Jw [(0,(Obj.rows 1 ((wrI f w l s_).map (Qj true))))]) 1 (fun s_=>s_≤l.length) (fun s_=>l.length - s_) (0:Nat) ?_ (Wk.mk (fun k=>k) ?_ ?_ ?_) ?_
 ·first | trivial | (simp;done) | omega | (constructor<;>simp)
 ·exact (b2 (b2 (bc ⟨(congrArg (fun l_=>T.os 1 0 0 (List.map (Qj true) l_).length) he1),rfl⟩ (b2 (b2 (b2 bn))))))
 ·exact (bc ⟨(congrArg (fun l_=>some (Obj.rows 1 (List.map (Qj true) l_))) he1),(lb Y),rfl⟩ bn)
 ·exact nd Y
 rintro i (hI':i≤l.length)
 show VRun _ _ _ [(2,(tS w)),(6,(tS (⟨#[]⟩:ByteArray))),(7,(T.os 1 0 0 (((wrI f w l i).map (Qj true)).length))),(12,(rd 1 Jt l)),(13,(tN l.length)),(14,(tN i))] (Jw [(0,(Obj.rows 1 ((wrI f w l i).map (Qj true))))]) 1 _
 have hwl:=Qaw f w l i
 refine sr (fO (Jx (tv (tN i) Y) (tv (tN l.length) Y)) (nt (sq ?_)))
 refine cd (i<l.length) Y (fun fhc0=> ?_) fun fhc0=> ?_
 ·refine sk ?_
  refine tn (sq (VRun.block (sr (mO (tN i) Y ?_))))
  obtain ⟨x1,hx1⟩:∃x,l[i]? =some x:=⟨_,List.getElem?_eq_getElem (by omega)⟩
  first | (have hil:=hin x1 (List.mem_of_getElem? hx1)) | skip
  refine fO (OF.indexAddrR (row:=(Jt false x1)) (i:=i) (tv (rd 1 Jt l) Y) (tv (tN i) Y) Y (QR _ hx1) U68 sz3 if3) (lO (OL.loadR1 (t:=(tI x1)) (tv (T.rp [(tI x1)]) Y) Y Zo) (aO (tN i) Y (aO (tI x1) Y (nt (VRun.region (mO (T.os 1 0 0 (((wrI f w l i).map (Qj true)).length)) Y (mO (tI x1) Y (mO (tS w) Y (mO (tN i) Y ?_)))))))))
  have hb2:i<w.size:=(by omega)
  refine fO (xix (tv (tS w) Y) (tv (tN i) Y) hb2 U9) ?_
  obtain ⟨x2,hx2⟩:∃x,(wrI f w l i)[(Int.toNat x1)]? =some x:=⟨_,List.getElem?_eq_getElem (by omega)⟩
  first | (have hil:=hin x2 (List.mem_of_getElem? hx2)) | skip
  refine fO (B.indexAddrO (i:=(Int.toNat x1)) (tv (T.os 1 0 0 (((wrI f w l i).map (Qj true)).length)) Y) (tv (tI x1) Y) (by omega) (by first | omega | (simp only [List.length_map];omega) | (simp only [List.length_map,List.length_append,List.length_cons,List.length_nil,List.length_replicate,List.length_set,List.length_drop,List.length_take,Zh] at *;omega)) U22 sz5 if5) (cO (B.storeP (us:= [(T.int .u8 (QT w i))]) (rows':=(((wrI f w l i).set (Int.toNat x1) (QT w i)).map (Qj true))) (row:=(Qj true x2)) (tv (T.orp 1 0 (Int.toNat x1) 0) Y) (tv (T.int .u8 (QT w i)) Y) nofun Y (QR _ hx2) Y (lb Y) if5 sz5 (bc Y bn) (by intro r hr t ht;obtain ⟨x,_,rfl⟩:=List.mem_map.1 hr;rw [QgT] at ht;exact Ye (okByte.pl _ t ht)) (YE Y)) (VRunO.nil (vinB.n (tn (VRun.region (fO (ZB (tv (tN i) Y) (VEv.int .i64 1) (by omega)) (mO (tN (i+1)) Y (VRunO.nil (tn ?_)))))))))
  have he3:((wrI f w l i).set (Int.toNat x1) (QT w i))=wrI f w l (i+1):=by first | rfl | exact Qc8 hx1 | (simp;done) | omega
  refine ⟨(i+1:Nat),?_,?_,Wk.mk (fun k=>k) ?_ ?_ ?_⟩
  ·first | trivial | omega | (simp;done) | exact ⟨by omega,hI'.2⟩
  ·first | omega | (simp only [];omega) | (show _<_;omega) | (simp;omega)
  ·exact (b2 (b2 (bc ⟨(congrArg (fun n_=>T.os 1 0 0 n_) (show ((wrI f w l i).map (Qj true)).length=((wrI f w l (i+1)).map (Qj true)).length from (by first | rfl | (rw [List.length_map,List.length_map,Qaw,Qaw]) | (simp only [List.length_map];omega) | (simp only [List.length_map,List.length_set,List.length_append,List.length_take,List.length_replicate,List.length_cons,List.length_nil];omega)))),rfl⟩ (b2 (b2 (b2 bn))))))
  ·exact (bc ⟨(congrArg (fun l_=>some (Obj.rows 1 (List.map (Qj true) l_))) he3),(lb Y),rfl⟩ bn)
  ·exact nd Y
 refine VRun.exit (vthn.e (vthn.e (vinB.e (tn (sr (mO (T.os 1 0 0 (((wrI f w l i).map (Qj true)).length)) Y (lO (B.convBS (l:=wrI f w l i) (tv (T.os 1 0 0 (((wrI f w l i).map (Qj true)).length)) Y) Y (List.length_map ..) U22 U5 U9) (aO (tS (J9 (wrI f w l i))) Y (nt (rt ?_))))))))))
 refine vfin.eq (r':=(tS (J9 (wrI f w l i)))) ?_ (vfin.r (VRes.tmp (t:=(tS (J9 (wrI f w l i)))) Y VRes.nil) (Give.str _))
 refine congrArg T.str ?_
 rw [show i=l.length by omega];rfl
noncomputable section
theorem Qc1 : ∀(s:List UInt8),(Lib.index s [46]= -1∧∀b∈s,b≠46)∨∃i:Nat,Lib.index s [46]=i∧i<s.length∧(∀b∈s.take i,b≠46)∧s[i]? =some 46
 | []=> .inl ⟨rfl,fun b hb=>by cases hb⟩
 | b::l=>by
  by_cases hb:b=46
  ·subst hb
   exact .inr ⟨0,by simp [Lib.index],by simp,fun b hb=>by simp at hb,by simp⟩
  ·have hp:([46]:List UInt8).isPrefixOf (b::l)=false:=by
    simp [List.isPrefixOf]
    exact fun e=>hb e.symm
   rcases Qc1 l with ⟨h1,h2⟩ | ⟨i,h1,h2,h3,h4⟩
   ·refine .inl ⟨?_,fun c hc=> ?_⟩
    ·unfold Lib.index
     rw [hp,h1]
     rfl
    ·rcases List.mem_cons.1 hc with rfl | hc
     ·exact hb
     ·exact h2 c hc
   ·refine .inr ⟨i+1,?_,by simp only [List.length_cons];omega,fun c hc=> ?_,by simpa using h4⟩
    ·unfold Lib.index
     rw [hp,h1]
     have:((i:Int) == -1)=false:=by rw [beq_eq_false_iff_ne];omega
     simp only [this]
     simp
    ·rw [List.take_succ_cons] at hc
     rcases List.mem_cons.1 hc with rfl | hc
     ·exact hb
     ·exact h3 c hc
def swB (b:UInt8):UInt8:=if b=46 then 63 else b
theorem Qgm {l:List UInt8} (h:∀b∈l,b≠46):l.map swB=l:=by
 induction l with
 | nil=>rfl
 | cons b r ih =>
  rw [List.map_cons,ih (fun c hc=>h c (by simp [hc]))]
  unfold swB
  rw [if_neg (h b (by simp))]
theorem Qdm : ∀(n:Nat) (s:List UInt8),s.length≤n→Lib.replaceK [46] [63] (Lib.count s [46]) s=s.map swB
 | n,s,hn=>by
  rcases Qc1 s with ⟨h1,h2⟩ | ⟨i,h1,h2,h3,h4⟩
  ·rw [Lib.count_miss h1,Qgm h2]
   rfl
  ·match n,hn with
   | 0,hn=>omega
   | n+1,hn =>
    rw [Lib.count_hit (by simp) h1,Nat.add_comm 1,Lib.replaceK_hit _ _ _ _ _ h1]
    have ih:=Qdm n (s.drop (i+([46]:List UInt8).length)) (by simp;omega)
    rw [ih]
    have h5:s=s.take i++46::s.drop (i+1):=by
     have h6:=List.drop_eq_getElem_cons h2
     rw [List.getElem?_eq_getElem h2] at h4
     rw [Option.some.inj h4] at h6
     rw [← h6,List.take_append_drop]
    show s.take i++ [63]++(s.drop (i+1)).map swB=s.map swB
    conv=>rhs;rw [h5]
    rw [List.map_append,Qgm h3,List.map_cons]
    simp [swB]
def Qav (s o w:ByteArray):ByteArray:=⟨(Lib.replaceAll s.data.toList o.data.toList w.data.toList).toArray⟩
theorem QeE (s:ByteArray):Qav s ⟨#[46]⟩ ⟨#[63]⟩=⟨(s.data.toList.map swB).toArray⟩:=by
 unfold Qav Lib.replaceAll Lib.replace
 rw [if_neg (by decide)]
 have:Lib.replaceNum s.data.toList [46] (-1)=Lib.count s.data.toList [46]:=by unfold Lib.replaceNum;rw [if_pos (.inl (by decide))]
 show (⟨(Lib.replaceK [46] [63] (Lib.replaceNum s.data.toList [46] (-1)) s.data.toList).toArray⟩:ByteArray)=_
 rw [this,Qdm _ _ (Nat.le_refl _)]
theorem R.strInv2 {h:AH} {s:ByteArray} {v:Value} (hr:R h (.str s) v):v= .string s:=by cases hr;rfl
theorem Qfi {P:Program} {f:FuncId} (n:Nat) (hp:YK f=false) (hq:Qdr f=noP JD) {s o w:ByteArray} (h1:s.size<4294967281) (h2:1≤o.size) (h3:s.size+Lib.countB s o*w.size≤140737488355328):Pure (QA P (n+1)) f [.str s, .str o, .str w] (.str (Qav s o w)):=by
 intro h p vs hfr hvs
 match vs,hvs with
 | [],hvs=>exact absurd hvs.1 (by simp)
 | [_],hvs=>exact absurd hvs.1 (by simp)
 | [_,_],hvs=>exact absurd hvs.1 (by simp)
 | [a,b,c],hvs =>
  obtain ⟨g1,hvs⟩:=hvs.tail
  obtain ⟨g2,hvs⟩:=hvs.tail
  obtain ⟨g3,hvs⟩:=hvs.tail
  obtain rfl:=R.strInv2 g1
  obtain rfl:=R.strInv2 g2
  obtain rfl:=R.strInv2 g3
  unfold CallS
  refine ⟨.string (Qav s o w),h,?_,fun _ h=> .inl h,fun _ _=>rfl,[], .fz (.str _),by simp,by simp⟩
  rw [QA,if_neg (by rw [hp];simp),hq]
  unfold noP JD
  simp only
  rw [if_pos ⟨h1,h2,h3⟩]
  rfl
 | _::_::_::_::_,hvs=>exact absurd hvs.1 (by simp)
def QcE (s:ByteArray):Nat→ByteArray
 | 0=>⟨#[]⟩
 | i+1=>QcE s i++(if QT s i=35 then ⟨#[35]⟩ else ⟨#[63]⟩)
theorem J3 (s:ByteArray):∀i,(QcE s i).size=i
 | 0=>rfl
 | i+1=>by
  rw [QcE,ByteArray.size_append,J3 s i]
  split<;>rfl
theorem Qch (s:ByteArray) (hs:∀j,j<s.size→QT s j=46∨QT s j=35):∀i,i≤s.size→(QcE s i).data.toList=(s.data.toList.take i).map swB
 | 0,_=>rfl
 | i+1,hi=>by
  have ih:=Qch s hs i (by omega)
  have hlt:i<s.data.toList.length:=by
   rw [Array.length_toList]
   exact hi
  rw [List.take_succ_eq_append_getElem hlt,List.map_append,← ih,QcE]
  have hb:=QdM (s:=s) (i:=i) (by omega)
  have hv:s.data.toList[i]=s[i]'(by omega):=rfl
  rw [hv]
  have h35:∀(b:UInt8) (n:Nat),((b.toNat:Nat):Int)=n→n<256→b=UInt8.ofNat n:=fun b n e hn=>by
   have:b.toNat=n:=by omega
   rw [← this];simp
  rcases hs i (by omega) with h | h
  ·rw [h] at hb
   have:=h35 _ 46 hb (by decide)
   rw [if_neg (by omega),this]
   simp only [ByteArray.data_append,Array.toList_append]
   rfl
  ·rw [h] at hb
   have:=h35 _ 35 hb (by decide)
   rw [if_pos h,this]
   simp only [ByteArray.data_append,Array.toList_append]
   rfl
def QaZ (g:D.Grid):ByteArray:=if Qu g then QcE g.Cells g.Cells.size else ⟨#[]⟩
theorem Qco (g:D.Grid):(QaZ g).size≤g.Cells.size:=by
 unfold QaZ
 split
 ·rw [J3];exact Nat.le_refl _
 ·exact Nat.zero_le _
theorem QeQ {g:D.Grid} (h:Qu g):Qav g.Cells ⟨#[46]⟩ ⟨#[63]⟩=QaZ g:=by
 have h1:=Qch g.Cells (fun j hj=>(h.2.2.2 j hj).symm) g.Cells.size (Nat.le_refl _)
 rw [QeE,QaZ,if_pos h]
 refine QeM ?_
 rw [h1,List.take_of_length_le (by simp)]
theorem QeK (s o:ByteArray) (h:1≤o.size):Lib.countB s o≤s.size:=by
 have h1:=Lib.countB_mul_le o h s.size s (Nat.le_refl _)
 have h2:Lib.countB s o*1≤Lib.countB s o*o.size:=Nat.mul_le_mul_left _ h
 omega
end
theorem JL (n:Nat) (s:ByteArray) (o:ByteArray) (w:ByteArray) (hs:s.size≤mx+64) (ho:1≤o.size) (hw:w.size≤1):Pure (QA Tryd.prog (n+1)) 76 [(tS s),(tS o),(tS w)] (tS (Qav s o w)):=by
 obtain ⟨hlim,hmx,hmax⟩:=Zk
 have h1:=QeK s o ho
 have h2:Lib.countB s o*w.size≤Lib.countB s o*1:=Nat.mul_le_mul_left _ hw
 exact Qfi n Y Y (by omega) ho (by omega)
theorem QaI (n:Nat) (g:D.Grid) (hc:g.Cells.size≤mx):Pure (QA Tryd.prog (n+3)) 54 [(T.agg (Ql false g))] (tS (QaZ g)):=by
 refine Pure.intro (rs:= [ResultVar.tmp 2]) Tryd.func54 Y Y Y (E0:= [(0,(T.agg (Ql false g)))]) Y ?_
 obtain ⟨hlim,hmx,hmax⟩:=Zk
 refine sr (kO (B.box (ts:=(Ql false g)) (tv (T.agg (Ql false g)) Y) nofun Y) (fO (OF.assign (VEv.str (⟨#[]⟩:ByteArray))) (nt (sq (sr (lO (OL.loadOn (us:=(Ql false g)) (tv (T.op 0 0) Y) Y ZF Q9 (lb Y) Y) (cO (cS (vc (tv (T.agg (Ql false g)) Y) vn) (LendL.cons (lg ZI) ln) (Zz (n+0) g (by first | decide | assumption | omega)) Y Y) (fO (QZ (tv (tB (decide (Qu g))) Y)) (nt ?_)))))))))
 refine cn (Qu g) Y (fun fhc0=> ?_) fun fhc0=> ?_
 ·refine sr ?_
  refine fO (OF.assign (VEv.str (⟨#[]⟩:ByteArray))) (nt (rt (tr ?_)))
  refine vfin.eq (r':=(tS (⟨#[]⟩:ByteArray))) ?_ (vfin.r (VRes.tmp (t:=(tS (⟨#[]⟩:ByteArray))) Y VRes.nil) (Give.str _))
  refine congrArg T.str ?_
  exact (if_neg fhc0).symm
 refine sk (tn (sr (lf (tS g.Cells) Y Za Y Y Y7 (cO (cS (vc (tv (tS g.Cells) Y) (vc (VEv.str (⟨#[46]⟩:ByteArray)) (vc (VEv.str (⟨#[63]⟩:ByteArray)) vn))) (ZO Y) (JL (n+1) g.Cells (⟨#[46]⟩:ByteArray) (⟨#[63]⟩:ByteArray) (by first | decide | assumption | omega) (by first | decide | assumption | omega) (by first | decide | assumption | omega)) Y Y) (aO (tS (Qav g.Cells (⟨#[46]⟩:ByteArray) (⟨#[63]⟩:ByteArray))) Y (nt (rt ?_)))))))
 refine vfin.eq (r':=(tS (Qav g.Cells (⟨#[46]⟩:ByteArray) (⟨#[63]⟩:ByteArray)))) ?_ (vfin.r (VRes.tmp (t:=(tS (Qav g.Cells (⟨#[46]⟩:ByteArray) (⟨#[63]⟩:ByteArray)))) Y VRes.nil) (Give.str _))
 refine congrArg T.str ?_
 exact QeQ (by assumption)
noncomputable section
def ZQ (s:ByteArray):Prop:=(1≤s.size∧s.size≤8)∧∀i,i<s.size→QT s i=63∨(97≤QT s i∧QT s i≤122)
instance (s:ByteArray):Decidable (ZQ s):=Classical.propDecidable _
end
theorem Je (n:Nat) (a:ByteArray) (ha:a.size≤maxLen):Pure (QA Tryd.prog (n+2)) 117 [(tS a)] (tB (decide (ZQ a))):=by
 refine Pure.intro (rs:= [ResultVar.tmp 2]) Tryd.func117 Y Y Y (E0:= [(0,(tS a))]) Y ?_
 obtain ⟨hlim,hmx,hmax⟩:=Zk
 refine sr (fO (OF.assign (VEv.bool false)) (nt (sq (sr (mO (tS a) Y (lO (B.lenS (tv (tS a) Y) U9) (cO (cS (vc (tv (tN a.size) Y) (vc (VEv.int .i64 1) (vc (VEv.int .i64 8) vn))) (ZO Y) (Zs (n+0) ((a.size:Nat):Int) 1 8) Y Y) (fO (QZ (tv (tB (decide (1≤((a.size:Nat):Int)∧((a.size:Nat):Int)≤8))) Y)) (nt ?_)))))))))
 refine cn (1≤((a.size:Nat):Int)∧((a.size:Nat):Int)≤8) Y (fun fhc0=> ?_) fun fhc0=> ?_
 ·refine sr ?_
  refine fO (OF.assign (VEv.bool false)) (nt (rt (tr (vb (b':=false) Y ?_))))
  (symm;rw [decide_eq_false_iff_not];rintro ⟨h1,h2⟩;omega)
 refine sk (tn (sq (sr (fO (OF.assign (VEv.int .i64 0)) (nt (VRun.block ?_))))))
 refine VRun.loop (A:=Nat) (fun s_=> [(0,(tS a)),(3,(tN s_))]) (fun s_=>Jw []) 0 (fun s_=>s_≤a.size∧∀j,j<s_→QT a j=63∨(97≤QT a j∧QT a j≤122)) (fun s_=>a.size - s_) (0:Nat) ?_ (Wk.mk (fun k=>k) ?_ ?_ ?_) ?_
 ·exact ⟨Nat.zero_le _,fun j hj=>by omega⟩
 ·exact (b2 (b2 bn))
 ·exact bn
 ·exact nd Y
 rintro i (hI':i≤a.size∧∀j,j<i→QT a j=63∨(97≤QT a j∧QT a j≤122))
 show VRun _ _ _ [(0,(tS a)),(3,(tN i))] (Jw []) 0 _
 refine sq (sr (mO (tN i) Y (mO (tS a) Y (lO (B.lenS (tv (tS a) Y) U9) (fO (Jx (tv (tN i) Y) (tv (tN a.size) Y)) (nt ?_))))))
 refine cd (i<a.size) Y (fun fhc1=> ?_) fun fhc1=> ?_
 ·refine sk ?_
  refine tn (sq (VRun.block (sr (mO (tS a) Y (mO (tN i) Y ?_)))))
  have hb1:i<a.size:=(by omega)
  refine fO (xix (tv (tS a) Y) (tv (tN i) Y) hb1 U9) (fO (xne (tv (T.int .u8 (QT a i)) Y) (VEv.int .u8 63)) (mO (tB (!(decide (QT a i=63)))) Y ?_))
  refine gn (QT a i=63) (fun fhg18_2=> ?_) fun fhg18_2=> ?_
  ·refine gF (ny fhg18_2) Y Y (OF.move (tv (tS a) Y)) ?_
   refine gF (ny fhg18_2) Y Y (OF.move (tv (tN i) Y)) ?_
   have hb3:i<a.size:=(by omega)
   refine gF (ny fhg18_2) Y Y (xix (tv (tS a) Y) (tv (tN i) Y) hb3 U9) (gF (ny fhg18_2) Y Y (xls (tv (T.int .u8 (QT a i)) Y) (VEv.int .u8 97)) (gF (ny fhg18_2) Y Y (OF.move (tv (tB (decide (QT a i<97))) Y)) ?_))
   refine gw (QT a i<97) (fun fhg23_4=> ?_) fun fhg23_4=> ?_
   ·refine Q2 4 9 false 23 (dy fhg23_4) Y Y Y ?_
    refine gF (ny fhg18_2) Y Y (OF.pickT (VEv.tmpB Y (dy fhg23_4)) (VEv.bool true)) (fO (OF.pickT (VEv.tmpB Y (ny fhg18_2)) (tv (tB true) Y)) (nt (ct Y (sr (fO (OF.assign (VEv.bool false)) (nt (rt (vinB.r (tr (tr (vinB.r ?_)))))))))))
    refine tr (vb (b':=false) Y ?_)
    (symm;rw [decide_eq_false_iff_not];rintro ⟨h1,h2⟩;(have:=h2 i fhc1;omega))
   refine gF (dz fhg23_4) Y Y (OF.move (tv (tS a) Y)) (gF (dz fhg23_4) Y Y (OF.move (tv (tN i) Y)) ?_)
   have hb5:i<a.size:=(by omega)
   refine gF (dz fhg23_4) Y Y (xix (tv (tS a) Y) (tv (tN i) Y) hb5 U9) (gF (dz fhg23_4) Y Y (xgt (tv (T.int .u8 (QT a i)) Y) (VEv.int .u8 122)) (gF (ny fhg18_2) Y Y (OF.pickF (VEv.tmpB Y (dz fhg23_4)) (tv (tB (decide (122<QT a i))) Y)) (fO (OF.pickT (VEv.tmpB Y (ny fhg18_2)) (tv (tB (decide (122<QT a i))) Y)) (nt ?_))))
   refine cd (122<QT a i) Y (fun fhc2=> ?_) fun fhc2=> ?_
   ·refine sr ?_
    refine fO (OF.assign (VEv.bool false)) (nt (rt (vinB.r (tr (tr (vinB.r (tr (vb (b':=false) Y ?_))))))))
    (symm;rw [decide_eq_false_iff_not];rintro ⟨h1,h2⟩;(have:=h2 i fhc1;omega))
   refine sk (vinB.n (tn (VRun.region (mO (tN i) Y (fO (ZB (tv (tN i) Y) (VEv.int .i64 1) (by omega)) (aO (tN (i+1)) Y (VRunO.nil (tn ?_))))))))
   refine ⟨(i+1:Nat),?_,?_,Wk.mk (fun k=>k) ?_ ?_ ?_⟩
   ·exact Zt (ok:=fun j=>QT a j=63∨(97≤QT a j∧QT a j≤122)) hI' fhc1 (by omega)
   ·omega
   ·exact (b2 (b2 bn))
   ·exact bn
   ·exact nd Y
  refine Q2 5 4 true 18 (nz fhg18_2) Y Y Y (Jl 4 9 false 23 Y Y Y (oO Y Y (nz fhg18_2) (fO (OF.pickF (VEv.tmpB Y (nz fhg18_2)) (VEv.bool false)) (nt (cf Y (sk (vinB.n (tn (VRun.region (mO (tN i) Y (fO (ZB (tv (tN i) Y) (VEv.int .i64 1) (by omega)) ?_)))))))))))
  refine aO (tN (i+1)) Y (VRunO.nil (tn ?_))
  refine ⟨(i+1:Nat),?_,?_,Wk.mk (fun k=>k) ?_ ?_ ?_⟩
  ·exact Zt (ok:=fun j=>QT a j=63∨(97≤QT a j∧QT a j≤122)) hI' fhc1 (by omega)
  ·omega
  ·exact (b2 (b2 bn))
  ·exact bn
  ·exact nd Y
 refine VRun.exit (vthn.e (vthn.e (vinB.e (tn (sr (fO (OF.assign (VEv.bool true)) (nt (rt (vb (b':=true) Y ?_)))))))))
 (symm;rw [decide_eq_true_eq];exact ⟨by omega,Q3 hI' fhc1⟩)
theorem Y6 (n:Nat) (a:ByteArray) (ha:a.size≤maxLen):Pure (QA Tryd.prog (n+2)) 52 [(tS a)] (tB (decide (ZQ a))):=by
 refine Pure.intro (rs:= [ResultVar.tmp 2]) Tryd.func52 Y Y Y (E0:= [(0,(tS a))]) Y ?_
 obtain ⟨hlim,hmx,hmax⟩:=Zk
 refine sr (fO (OF.assign (VEv.bool false)) (nt (sq (sr (mO (tS a) Y (lO (B.lenS (tv (tS a) Y) U9) (cO (cS (vc (tv (tN a.size) Y) (vc (VEv.int .i64 1) (vc (VEv.int .i64 8) vn))) (ZO Y) (Q4 (n+0) ((a.size:Nat):Int) 1 8) Y Y) (fO (QZ (tv (tB (decide (1≤((a.size:Nat):Int)∧((a.size:Nat):Int)≤8))) Y)) (nt ?_)))))))))
 refine cn (1≤((a.size:Nat):Int)∧((a.size:Nat):Int)≤8) Y (fun fhc0=> ?_) fun fhc0=> ?_
 ·refine sr ?_
  refine fO (OF.assign (VEv.bool false)) (nt (rt (tr (vb (b':=false) Y ?_))))
  (symm;rw [decide_eq_false_iff_not];rintro ⟨h1,h2⟩;omega)
 refine sk (tn (sq (sr (mO (tS a) Y (lO (B.lenS (tv (tS a) Y) U9) (fO (OF.move (VEv.int .i64 0)) (nt (VRun.block ?_))))))))
 refine VRun.loop (A:=Nat) (fun s_=> [(0,(tS a)),(9,(tN a.size)),(10,(tN s_))]) (fun s_=>Jw []) 0 (fun s_=>s_≤a.size∧∀j,j<s_→QT a j=63∨(97≤QT a j∧QT a j≤122)) (fun s_=>a.size - s_) (0:Nat) ?_ (Wk.mk (fun k=>k) ?_ ?_ ?_) ?_
 ·exact ⟨Nat.zero_le _,fun j hj=>by omega⟩
 ·exact (b2 (b2 (b2 bn)))
 ·exact bn
 ·exact nd Y
 rintro i (hI':i≤a.size∧∀j,j<i→QT a j=63∨(97≤QT a j∧QT a j≤122))
 show VRun _ _ _ [(0,(tS a)),(9,(tN a.size)),(10,(tN i))] (Jw []) 0 _
 refine sr (fO (Jx (tv (tN i) Y) (tv (tN a.size) Y)) (nt (sq ?_)))
 refine cd (i<a.size) Y (fun fhc1=> ?_) fun fhc1=> ?_
 ·refine sk ?_
  refine tn (sq (VRun.block (sr (mO (tN i) Y (aO (tN i) Y (nt (sr (mO (tS a) Y (mO (tN i) Y ?_)))))))))
  have hb1:i<a.size:=(by omega)
  refine fO (xix (tv (tS a) Y) (tv (tN i) Y) hb1 U9) (fO (xne (tv (T.int .u8 (QT a i)) Y) (VEv.int .u8 63)) (mO (tB (!(decide (QT a i=63)))) Y ?_))
  refine gn (QT a i=63) (fun fhg17_2=> ?_) fun fhg17_2=> ?_
  ·refine gF (ny fhg17_2) Y Y (OF.move (tv (tS a) Y)) ?_
   refine gF (ny fhg17_2) Y Y (OF.move (tv (tN i) Y)) ?_
   have hb3:i<a.size:=(by omega)
   refine gF (ny fhg17_2) Y Y (xix (tv (tS a) Y) (tv (tN i) Y) hb3 U9) (VRunO.chain (VWant.on Y Y (ny fhg17_2)) (cS (vc (tv (T.int .u8 (QT a i)) Y) vn) (ZO Y) (Jv (n+0) (QT a i)) Y Y) (gF (ny fhg17_2) Y Y (QZ (tv (tB (decide (97≤(QT a i)∧(QT a i)≤122))) Y)) (fO (OF.pickT (VEv.tmpB Y (ny fhg17_2)) (tv (tB (!(decide (97≤(QT a i)∧(QT a i)≤122)))) Y)) (nt ?_))))
   refine cn (97≤(QT a i)∧(QT a i)≤122) Y (fun fhc2=> ?_) fun fhc2=> ?_
   ·refine sr ?_
    refine fO (OF.assign (VEv.bool false)) (nt (rt (vinB.r (tr (tr (vinB.r (tr (vb (b':=false) Y ?_))))))))
    (symm;rw [decide_eq_false_iff_not];rintro ⟨h1,h2⟩;(have:=h2 i fhc1;omega))
   refine sk (vinB.n (tn (VRun.region (fO (ZB (tv (tN i) Y) (VEv.int .i64 1) (by omega)) (mO (tN (i+1)) Y (VRunO.nil (tn ?_)))))))
   refine ⟨(i+1:Nat),?_,?_,Wk.mk (fun k=>k) ?_ ?_ ?_⟩
   ·exact Zt (ok:=fun j=>QT a j=63∨(97≤QT a j∧QT a j≤122)) hI' fhc1 (by omega)
   ·omega
   ·exact (b2 (b2 (b2 bn)))
   ·exact bn
   ·exact nd Y
  refine Q2 5 4 true 17 (nz fhg17_2) Y Y Y (fO (OF.pickF (VEv.tmpB Y (nz fhg17_2)) (VEv.bool false)) (nt (cf Y (sk (vinB.n (tn (VRun.region (fO (ZB (tv (tN i) Y) (VEv.int .i64 1) (by omega)) (mO (tN (i+1)) Y (VRunO.nil (tn ?_)))))))))))
  refine ⟨(i+1:Nat),?_,?_,Wk.mk (fun k=>k) ?_ ?_ ?_⟩
  ·exact Zt (ok:=fun j=>QT a j=63∨(97≤QT a j∧QT a j≤122)) hI' fhc1 (by omega)
  ·omega
  ·exact (b2 (b2 (b2 bn)))
  ·exact bn
  ·exact nd Y
 refine VRun.exit (vthn.e (vthn.e (vinB.e (tn (sr (fO (OF.assign (VEv.bool true)) (nt (rt (vb (b':=true) Y ?_)))))))))
 (symm;rw [decide_eq_true_eq];exact ⟨by omega,Q3 hI' fhc1⟩)
noncomputable section
def Qf (a b:D.Note):Bool:=if a.Tick=b.Tick then (if a.Who=b.Who then !(Op.bytesLess a.Letter.toList b.Letter.toList || decide (a.Letter=b.Letter)) else decide (b.Who<a.Who)) else decide (b.Tick<a.Tick)
def QbV (l:List D.Note) (j:Nat):Prop:=∃x,l[j]? =some x∧(0≤x.Cell∧x.Cell≤35)∧x.Letter.size=1∧ZQ x.Letter∧(0≤x.Tick∧x.Tick≤1000)∧(1≤x.Who∧x.Who≤9)∧(0<j→∃y,l[j - 1]? =some y∧y.Cell<x.Cell)
def Qb (l:List D.Note):Prop:=l.length≤40∧∀j,j<l.length→QbV l j
instance (l:List D.Note):Decidable (Qb l):=Classical.propDecidable _
end
theorem JI (n:Nat) (a:D.Note) (b:D.Note):Pure (QA Tryd.prog (n+1)) 101 [(T.agg (Qa false a)),(T.agg (Qa false b))] (tB (Qf a b)):=by
 refine Pure.intro (rs:= [ResultVar.tmp 4]) Tryd.func101 Y Y Y (E0:= [(0,(T.agg (Qa false a))),(1,(T.agg (Qa false b)))]) Y ?_
 obtain ⟨hlim,hmx,hmax⟩:=Zk
 refine sr (kO (B.box (ts:=(Qa false a)) (tv (T.agg (Qa false a)) Y) nofun Y) (kO (B.box (ts:=(Qa false b)) (tv (T.agg (Qa false b)) Y) nofun Y) (fO (OF.assign (VEv.bool false)) (nt (sq (VRun.block (sr (lf (tI a.Tick) Y ZG Y Y Zo (lf (tI b.Tick) Y ZG Y Y Zo (fO (xne (tv (tI a.Tick) Y) (tv (tI b.Tick) Y)) (aO (tB (!(decide (a.Tick=b.Tick)))) Y ?_)))))))))))
 refine nt ?_
 refine cn (a.Tick=b.Tick) Y (fun fhc0=> ?_) fun fhc0=> ?_
 ·refine sr ?_
  refine lf (tI a.Tick) Y ZG Y Y Zo (lf (tI b.Tick) Y ZG Y Y Zo (fO (xgt (tv (tI a.Tick) Y) (tv (tI b.Tick) Y)) (aO (tB (decide (b.Tick<a.Tick))) Y (nt (rt (vinB.r (tr (vb (b':=(decide (b.Tick<a.Tick))) Y ?_))))))))
  simp only [Qf];simp_all
 refine sr (lf (tI a.Who) Y ZD Y Y Zo (lf (tI b.Who) Y ZD Y Y Zo (fO (xne (tv (tI a.Who) Y) (tv (tI b.Who) Y)) (aO (tB (!(decide (a.Who=b.Who)))) Y (nt ?_)))))
 refine cn (a.Who=b.Who) Y (fun fhc1=> ?_) fun fhc1=> ?_
 ·refine sr ?_
  refine lf (tI a.Who) Y ZD Y Y Zo (lf (tI b.Who) Y ZD Y Y Zo (fO (xgt (tv (tI a.Who) Y) (tv (tI b.Who) Y)) (aO (tB (decide (b.Who<a.Who))) Y (nt (rt (vinB.r (tr (vb (b':=(decide (b.Who<a.Who))) Y ?_))))))))
  simp only [Qf];simp_all
 refine sk (vinB.n (tn (sr (lf (tS a.Letter) Y ZA Y Y Y7 (lf (tS b.Letter) Y ZA Y Y Y7 (fO (B.sgtr (c:=(!(Op.bytesLess a.Letter.toList b.Letter.toList || decide (a.Letter=b.Letter)))) (tv (tS a.Letter) Y) (tv (tS b.Letter) Y) Y) (aO (tB (!(Op.bytesLess a.Letter.toList b.Letter.toList || decide (a.Letter=b.Letter)))) Y (nt (rt (vb (b':=(!(Op.bytesLess a.Letter.toList b.Letter.toList || decide (a.Letter=b.Letter)))) Y ?_))))))))))
 simp only [Qf];simp_all
theorem QF (n:Nat) (a:D.Note) (b:D.Note):Pure (QA Tryd.prog (n+1)) 23 [(T.agg (Qa false a)),(T.agg (Qa false b))] (tB (Qf a b)):=by
 refine Pure.intro (rs:= [ResultVar.tmp 4]) Tryd.func23 Y Y Y (E0:= [(0,(T.agg (Qa false a))),(1,(T.agg (Qa false b)))]) Y ?_
 obtain ⟨hlim,hmx,hmax⟩:=Zk
 refine sr (kO (B.box (ts:=(Qa false a)) (tv (T.agg (Qa false a)) Y) nofun Y) (kO (B.box (ts:=(Qa false b)) (tv (T.agg (Qa false b)) Y) nofun Y) (fO (OF.assign (VEv.bool false)) (nt (sq (VRun.block (sr (lf (tI a.Tick) Y ZG Y Y Zo (lf (tI b.Tick) Y ZG Y Y Zo (fO (xne (tv (tI a.Tick) Y) (tv (tI b.Tick) Y)) (aO (tB (!(decide (a.Tick=b.Tick)))) Y ?_)))))))))))
 refine nt ?_
 refine cn (a.Tick=b.Tick) Y (fun fhc0=> ?_) fun fhc0=> ?_
 ·refine sr ?_
  refine lf (tI a.Tick) Y ZG Y Y Zo (lf (tI b.Tick) Y ZG Y Y Zo (fO (xgt (tv (tI a.Tick) Y) (tv (tI b.Tick) Y)) (aO (tB (decide (b.Tick<a.Tick))) Y (nt (rt (vinB.r (tr (vb (b':=(decide (b.Tick<a.Tick))) Y ?_))))))))
  simp only [Qf];simp_all
 refine sr (lf (tI a.Who) Y ZD Y Y Zo (lf (tI b.Who) Y ZD Y Y Zo (fO (xne (tv (tI a.Who) Y) (tv (tI b.Who) Y)) (aO (tB (!(decide (a.Who=b.Who)))) Y (nt ?_)))))
 refine cn (a.Who=b.Who) Y (fun fhc1=> ?_) fun fhc1=> ?_
 ·refine sr ?_
  refine lf (tI a.Who) Y ZD Y Y Zo (lf (tI b.Who) Y ZD Y Y Zo (fO (xgt (tv (tI a.Who) Y) (tv (tI b.Who) Y)) (aO (tB (decide (b.Who<a.Who))) Y (nt (rt (vinB.r (tr (vb (b':=(decide (b.Who<a.Who))) Y ?_))))))))
  simp only [Qf];simp_all
 refine sk (vinB.n (tn (sr (lf (tS a.Letter) Y ZA Y Y Y7 (lf (tS b.Letter) Y ZA Y Y Y7 (fO (B.sgtr (c:=(!(Op.bytesLess a.Letter.toList b.Letter.toList || decide (a.Letter=b.Letter)))) (tv (tS a.Letter) Y) (tv (tS b.Letter) Y) Y) (aO (tB (!(Op.bytesLess a.Letter.toList b.Letter.toList || decide (a.Letter=b.Letter)))) Y (nt (rt (vb (b':=(!(Op.bytesLess a.Letter.toList b.Letter.toList || decide (a.Letter=b.Letter)))) Y ?_))))))))))
 simp only [Qf];simp_all
theorem QI (n:Nat) (a:List D.Note) (hz:zL Qo a≤2*mx):Pure (QA Tryd.prog (n+3)) 102 [(rd 4 Qa a)] (tB (decide (Qb a))):=by
 refine Pure.intro (rs:= [ResultVar.tmp 2]) Tryd.func102 Y Y Y (E0:= [(0,(rd 4 Qa a))]) Y ?_
 obtain ⟨hlim,hmx,hmax⟩:=Zk
 have ha:=ZV (z:=Qo) a
 have hw:∀x∈a,x.Letter.size≤maxLen:=fun x hx=>by have h1:=Qe8 (z:=Qo) hx;simp only [Qo] at h1;omega
 refine sr (fO (OF.assign (VEv.bool false)) (nt (sq (sr (fO (OF.assign (VEv.int .i64 0)) (nt (VRun.block ?_)))))))
 refine VRun.loop (A:=Nat) (fun s_=> [(0,(rd 4 Qa a)),(3,(tN s_))]) (fun s_=>Jw []) 0 (fun s_=>s_≤a.length∧∀j,j<s_→QbV a j) (fun s_=>a.length - s_) (0:Nat) ?_ (Wk.mk (fun k=>k) ?_ ?_ ?_) ?_
 ·exact ⟨Nat.zero_le _,fun j hj=>by omega⟩
 ·exact (b2 (b2 bn))
 ·exact bn
 ·exact nd Y
 rintro i (hI':i≤a.length∧∀j,j<i→QbV a j)
 show VRun _ _ _ [(0,(rd 4 Qa a)),(3,(tN i))] (Jw []) 0 _
 have hI0:=hI'
 refine sq (sr (mO (tN i) Y (mO (rd 4 Qa a) Y (lO (B.lenR (m:=a.length) (tv (rd 4 Qa a) Y) QJ (List.length_map ..)) (fO (Jx (tv (tN i) Y) (tv (tN a.length) Y)) (nt ?_))))))
 refine cd (i<a.length) Y (fun fhc0=> ?_) fun fhc0=> ?_
 ·refine sk ?_
  refine tn (sq (VRun.block (sr (mO (rd 4 Qa a) Y (mO (tN i) Y ?_)))))
  obtain ⟨x1,hx1⟩:∃x,a[i]? =some x:=⟨_,List.getElem?_eq_getElem (by first | exact hw _ (List.mem_of_getElem? hx1) | omega)⟩
  refine fO (OF.indexAddrR (row:=(Qa false x1)) (i:=i) (tv (rd 4 Qa a) Y) (tv (tN i) Y) Y (QR _ hx1) QJ Qh Q7) (lO (OL.loadRn (us:=(Qa false x1)) (tv (T.rp (Qa false x1)) Y) Q6 Qh (lb Y) Y) (kO (B.alloc (t:=(T.agg [(tN 0),(tS ByteArray.empty),(tN 0),(tN 0)])) (ts:= [(tN 0),(tS ByteArray.empty),(tN 0),(tN 0)]) QL Qbm nofun (fun _=> .agg _ _ Y (Z8 (RL.cons (.int _ _) (RL.cons (.str _) (RL.cons (.int _ _) (RL.cons (.int _ _) (RL.nil _))))))) Y) (cO (B.storeW (us:=(Qa false x1)) (tv (T.op 0 0) Y) (tv (T.agg (Qa false x1)) Y) nofun Y Y Y Q7 Qh (bc Y (bc Y (bc Y (bc Y bn))))) (nt (sq (VRun.draw (B:= [[],[0],[0,1],[1,0,2],[2,0,1,3],[3,1,0,2,4],[4,2,0,1,3,5],[5,3,1,0,2,4,6],[6,4,2,0,1,3,5,7],[6,4,2,0,1,3,5,7],[7,5,3,1,0,2,4,6,9],[9,10,7,5,3,1,0,2,4,6,8],[8,6,4,2,0,1,3,5,7,10,9,11],[11,9,10,7,5,3,1,0,2,4,6,8,12],[6,4,2,0,1,3,5,7],[7,5,3,1,0,2,4,6,14],[14,15,12,8,6,4,2,0,1,3,5,7,10,9,11,13],[13,11,9,10,8,12,15,14,16,6,4,2,0,1,3,5,7],[7,5,6,16,14,15,12,8,10,9,11,13,17,3,1,0,2,4],[4,2,0,1,3,17,13,11,9,10,8,12,15,14,16,6,5,7,18],[18,7,5,6,16,14,15,12,8,10,9,11,13,17,3,1,0,2,4,19],[19,4,2,0,1,3,17,13,11,9,10,8,12,15,14,16,6,5,7,18,20],[20,18,7,5,6,16,14,15,12,8,10,9,11,13,17,3,1,0,2,4,19,21],[21,19,4,2,0,1,3,17,13,11,9,10,8,12,15,14,16,6,5,7,18,20,22],[22,20,21,23,18,7,5,6,16,14,15,12,8,10,9,11,13,17,3,1,0,2,4,19],[19,4,2,0,1,3,17,13,11,9,10,8,12,15,14,16,6,5,7,18,23,21,20,22,24],[24,22,20,21,23,18,7,5,6,16,14,15,12,8,10,9,11,13,17,3,1,0,2,4,19,25],[25,19,4,2,0,1,3,17,13,11,9,10,8,12,15,14,16,6,5,7,18,23,21,20,22,24,26],[26,24,22,20,21,23,18,7,5,6,16,14,15,12,8,10,9,11,13,17,3,1,0,2,4,19,25,27],[27,25,19,4,2,0,1,3,17,13,11,9,10,8,12,15,14,16,6,5,7,18,23,21,20,22,24,26,28],[28,26,27,29,24,22,20,21,23,18,7,5,6,16,14,15,12,8,10,9,11,13,17,3,1,0,2,4,19,25],[25,19,4,2,0,1,3,17,13,11,9,10,8,12,15,14,16,6,5,7,18,23,21,20,22,24,29,27,26,28,30],[30,28,26,27,29,24,22,20,21,23,18,7,5,6,16,14,15,12,8,10,9,11,13,17,3,1,0,2,4,19,25,31],[31,25,19,4,2,0,1,3,17,13,11,9,10,8,12,15,14,16,6,5,7,18,23,21,20,22,24,29,27,26,28,30,32],[32,30,28,26,27,29,24,22,20,21,23,18,7,5,6,16,14,15,12,8,10,9,11,13,17,3,1,0,2,4,19,25,31,33],[33,31,25,19,4,2,0,1,3,17,13,11,9,10,8,12,15,14,16,6,5,7,18,23,21,20,22,24,29,27,26,28,30,32,34],[34,32,33,35,30,28,26,27,29,24,22,20,21,23,18,7,5,6,16,14,15,12,8,10,9,11,13,17,3,1,0,2,4,19,25,31],[31,25,19,4,2,0,1,3,17,13,11,9,10,8,12,15,14,16,6,5,7,18,23,21,20,22,24,29,27,26,28,30,35,33,32,34,36],[36,34,32,33,35,30,28,26,27,29,24,22,20,21,23,18,7,5,6,16,14,15,12,8,10,9,11,13,17,3,1,0,2,4,19,25,31,37],[37,31,25,19,4,2,0,1,3,17,13,11,9,10,8,12,15,14,16,6,5,7,18,23,21,20,22,24,29,27,26,28,30,35,33,32,34,36,38],[38,36,34,32,33,35,30,28,26,27,29,24,22,20,21,23,18,7,5,6,16,14,15,12,8,10,9,11,13,17,3,1,0,2,4,19,25,31,37,39],[39,37,31,25,19,4,2,0,1,3,17,13,11,9,10,8,12,15,14,16,6,5,7,18,23,21,20,22,24,29,27,26,28,30,35,33,32,34,36,38,40],[40,38,39,41,36,34,32,33,35,30,28,26,27,29,24,22,20,21,23,18,7,5,6,16,14,15,12,8,10,9,11,13,17,3,1,0,2,4,19,25,31,37]]) (by kernel_rfl) (by kernel_rfl) Y ?_))))))
  refine fD (OF.fieldAddrO (tv (T.op 0 0) Y) Ze) Y Y (lD (OL.loadO1 (t:=(tI x1.Cell)) (tv (T.op 0 0) Y) Y Y Zo) Y Y (VRunD.quiet (bi:= [0,1]) Y VWant.always Y Y Y bn (cS (vc (tv (tI x1.Cell) Y) (vc (VEv.int .i64 0) (vc (VEv.int .i64 35) vn))) (ZO Y) (Zs (n+1) x1.Cell 0 35) Y Y) (fD (QZ (tv (tB (decide (0≤x1.Cell∧x1.Cell≤35))) Y)) Y Y (mD (tB (!(decide (0≤x1.Cell∧x1.Cell≤35)))) Y Y ?_))))
  refine gn (0≤x1.Cell∧x1.Cell≤35) (fun fhg19_1=> ?_) fun fhg19_1=> ?_
  ·refine oD Y Y (ny fhg19_1) Y ?_
   refine oD Y Y (ny fhg19_1) Y (oD Y Y (ny fhg19_1) Y (uD Y Y Y (uD Y Y Y (uD Y Y Y (uD Y Y Y (uD Y Y Y (uD Y Y Y (uD Y Y Y (uD Y Y Y (uD Y Y Y (oD Y Y (ny fhg19_1) Y ?_)))))))))))
   refine fD (OF.pickT (VEv.tmpB Y (ny fhg19_1)) (VEv.bool true)) Y Y (mD (tB true) Y Y (VRunD.off Y (VWant.not (b:=true) Y Y Y) (VRunD.off Y (VWant.not (b:=true) Y Y Y) (VRunD.off Y (VWant.not (b:=true) Y Y Y) (VRunD.off Y (VWant.not (b:=true) Y Y Y) (fD (OF.pickT (tv (tB true) Y) (VEv.bool true)) Y Y (mD (tB true) Y Y (VRunD.off Y (VWant.not (b:=true) Y Y Y) (VRunD.off Y (VWant.not (b:=true) Y Y Y) (VRunD.off Y (VWant.not (b:=true) Y Y Y) (VRunD.off Y (VWant.not (b:=true) Y Y Y) ?_)))))))))))
   refine fD (OF.pickT (tv (tB true) Y) (VEv.bool true)) Y Y (mD (tB true) Y Y (VRunD.off Y (VWant.not (b:=true) Y Y Y) (VRunD.off Y (VWant.not (b:=true) Y Y Y) (VRunD.off Y (VWant.not (b:=true) Y Y Y) (VRunD.off Y (VWant.not (b:=true) Y Y Y) (fD (OF.pickT (tv (tB true) Y) (VEv.bool true)) Y Y (mD (tB true) Y Y (VRunD.off Y (VWant.not (b:=true) Y Y Y) (VRunD.off Y (VWant.not (b:=true) Y Y Y) (VRunD.off Y (VWant.not (b:=true) Y Y Y) (VRunD.off Y (VWant.not (b:=true) Y Y Y) ?_)))))))))))
   refine fD (OF.pickT (tv (tB true) Y) (VEv.bool true)) Y Y (VRunD.nil (tn (ct Y (sr (fO (OF.assign (VEv.bool false)) (nt (rt (vinB.r (tr (tr (vinB.r ?_)))))))))))
   refine tr (vb (b':=false) Y ?_)
   first | (refine Z4 ⟨fun h=>⟨by omega,Q3 hI' fhc0⟩,fun h=>by have:=h.1;omega⟩) | (symm;rw [decide_eq_false_iff_not];rintro ⟨_,h2⟩;obtain ⟨y,hy,h3,h4,h5,h6,h7,h8⟩:=h2 i fhc0;obtain rfl:=Qt hx1 hy;first | omega | contradiction | (obtain ⟨z,hz,h9⟩:=h8 (by omega);obtain rfl:=Qt hx2 hz;omega) | (simp_all;done))
  refine VRunD.free Y (VWant.on Y Y (nz fhg19_1)) Y (OF.move (tv (tN i) Y)) (VRunD.free Y (VWant.on Y Y (nz fhg19_1)) Y (B.gtr (c:=(decide (0<i))) (tv (tN i) Y) (VEv.int .i64 0) (by first | exact hw _ (List.mem_of_getElem? hx1) | (exact Z4 (by omega)))) (VRunD.free Y (VWant.on Y Y (nz fhg19_1)) Y (OF.move (tv (tB (decide (0<i))) Y)) ?_))
  refine gw (0<i) (fun fhg22_2=> ?_) fun fhg22_2=> ?_
  ·refine VRunD.free Y (VWant.on Y Y (dy fhg22_2)) Y (OF.move (tv (rd 4 Qa a) Y)) ?_
   refine VRunD.free Y (VWant.on Y Y (dy fhg22_2)) Y (OF.move (tv (tN i) Y)) (VRunD.free Y (VWant.on Y Y (dy fhg22_2)) Y (B.sub (n:=((i - 1:Nat):Int)) (tv (tN i) Y) (VEv.int .i64 1) (by first | exact hw _ (List.mem_of_getElem? hx1) | rfl | (rw [QB (by omega)];omega) | (rw [QB (by omega)];done))) ?_)
   obtain ⟨x2,hx2⟩:∃x,a[i - 1]? =some x:=⟨_,List.getElem?_eq_getElem (by first | exact hw _ (List.mem_of_getElem? hx1) | omega)⟩
   refine VRunD.free Y (VWant.on Y Y (dy fhg22_2)) Y (OF.indexAddrR (row:=(Qa false x2)) (i:=i - 1) (tv (rd 4 Qa a) Y) (tv (tN (i - 1)) Y) Y (QR _ hx2) QJ Qh Q7) (VRunD.free Y (VWant.on Y Y (dy fhg22_2)) Y (B.fieldAddrR (us:=(Qa false x2)) (tv (T.rp (Qa false x2)) Y) (lb Y) Ze Y) (VRunD.look Y (VWant.on Y Y (dy fhg22_2)) Y (OL.loadR1 (t:=(tI x2.Cell)) (tv (T.rp (Qa false x2)) Y) Y Zo) (VRunD.free Y (VWant.on Y Y (dy fhg22_2)) Y (OF.fieldAddrO (tv (T.op 0 0) Y) Ze) (VRunD.look Y (VWant.on Y Y (dy fhg22_2)) Y (OL.loadO1 (t:=(tI x1.Cell)) (tv (T.op 0 0) Y) Y Y Zo) (VRunD.free Y (VWant.on Y Y (dy fhg22_2)) Y (xge (tv (tI x2.Cell) Y) (tv (tI x1.Cell) Y)) (VRunD.free Y (VWant.on Y Y (nz fhg19_1)) Y (OF.pickT (VEv.tmpB Y (dy fhg22_2)) (tv (tB (decide (x1.Cell≤x2.Cell))) Y)) (fD (OF.pickF (VEv.tmpB Y (nz fhg19_1)) (tv (tB (decide (x1.Cell≤x2.Cell))) Y)) Y Y (mD (tB (decide (x1.Cell≤x2.Cell))) Y Y ?_))))))))
   refine gw (x1.Cell≤x2.Cell) (fun fhg34_3=> ?_) fun fhg34_3=> ?_
   ·refine oD Y Y (dy fhg34_3) Y ?_
    refine oD Y Y (dy fhg34_3) Y (oD Y Y (dy fhg34_3) Y (oD Y Y (dy fhg34_3) Y (fD (OF.pickT (VEv.tmpB Y (dy fhg34_3)) (VEv.bool true)) Y Y (mD (tB true) Y Y (VRunD.off Y (VWant.not (b:=true) Y Y Y) (VRunD.off Y (VWant.not (b:=true) Y Y Y) (VRunD.off Y (VWant.not (b:=true) Y Y Y) (VRunD.off Y (VWant.not (b:=true) Y Y Y) (fD (OF.pickT (tv (tB true) Y) (VEv.bool true)) Y Y (mD (tB true) Y Y (VRunD.off Y (VWant.not (b:=true) Y Y Y) ?_)))))))))))
    refine VRunD.off Y (VWant.not (b:=true) Y Y Y) (VRunD.off Y (VWant.not (b:=true) Y Y Y) (VRunD.off Y (VWant.not (b:=true) Y Y Y) (fD (OF.pickT (tv (tB true) Y) (VEv.bool true)) Y Y (mD (tB true) Y Y (VRunD.off Y (VWant.not (b:=true) Y Y Y) (VRunD.off Y (VWant.not (b:=true) Y Y Y) (VRunD.off Y (VWant.not (b:=true) Y Y Y) (VRunD.off Y (VWant.not (b:=true) Y Y Y) (fD (OF.pickT (tv (tB true) Y) (VEv.bool true)) Y Y (VRunD.nil (tn ?_)))))))))))
    refine ct Y (sr (fO (OF.assign (VEv.bool false)) (nt (rt (vinB.r (tr (tr (vinB.r (tr (vb (b':=false) Y ?_))))))))))
    first | (refine Z4 ⟨fun h=>⟨by omega,Q3 hI' fhc0⟩,fun h=>by have:=h.1;omega⟩) | (symm;rw [decide_eq_false_iff_not];rintro ⟨_,h2⟩;obtain ⟨y,hy,h3,h4,h5,h6,h7,h8⟩:=h2 i fhc0;obtain rfl:=Qt hx1 hy;first | omega | contradiction | (obtain ⟨z,hz,h9⟩:=h8 (by omega);obtain rfl:=Qt hx2 hz;omega) | (simp_all;done))
   refine VRunD.free Y (VWant.on Y Y (dz fhg34_3)) Y (OF.fieldAddrO (tv (T.op 0 0) Y) ZA) (VRunD.look Y (VWant.on Y Y (dz fhg34_3)) Y (OL.loadO1 (t:=(tS x1.Letter)) (tv (T.op 0 1) Y) Y Y Y7) (VRunD.look Y (VWant.on Y Y (dz fhg34_3)) Y (B.lenS (tv (tS x1.Letter) Y) U9) (VRunD.free Y (VWant.on Y Y (dz fhg34_3)) Y (B.neq (c:=(!(decide (x1.Letter.size=1)))) (tv (tN x1.Letter.size) Y) (VEv.int .i64 1) (by first | exact hw _ (List.mem_of_getElem? hx1) | (exact Qef (by omega)))) (fD (OF.pickF (VEv.tmpB Y (dz fhg34_3)) (tv (tB (!(decide (x1.Letter.size=1)))) Y)) Y Y (mD (tB (!(decide (x1.Letter.size=1)))) Y Y ?_)))))
   refine gn (x1.Letter.size=1) (fun fhg40_4=> ?_) fun fhg40_4=> ?_
   ·refine oD Y Y (ny fhg40_4) Y ?_
    refine oD Y Y (ny fhg40_4) Y (oD Y Y (ny fhg40_4) Y (oD Y Y (ny fhg40_4) Y (fD (OF.pickT (VEv.tmpB Y (ny fhg40_4)) (VEv.bool true)) Y Y (mD (tB true) Y Y (VRunD.off Y (VWant.not (b:=true) Y Y Y) (VRunD.off Y (VWant.not (b:=true) Y Y Y) (VRunD.off Y (VWant.not (b:=true) Y Y Y) (VRunD.off Y (VWant.not (b:=true) Y Y Y) (fD (OF.pickT (tv (tB true) Y) (VEv.bool true)) Y Y (mD (tB true) Y Y (VRunD.off Y (VWant.not (b:=true) Y Y Y) ?_)))))))))))
    refine VRunD.off Y (VWant.not (b:=true) Y Y Y) (VRunD.off Y (VWant.not (b:=true) Y Y Y) (VRunD.off Y (VWant.not (b:=true) Y Y Y) (fD (OF.pickT (tv (tB true) Y) (VEv.bool true)) Y Y (VRunD.nil (tn (ct Y (sr (fO (OF.assign (VEv.bool false)) (nt (rt (vinB.r ?_)))))))))))
    refine tr (tr (vinB.r (tr (vb (b':=false) Y ?_))))
    first | (refine Z4 ⟨fun h=>⟨by omega,Q3 hI' fhc0⟩,fun h=>by have:=h.1;omega⟩) | (symm;rw [decide_eq_false_iff_not];rintro ⟨_,h2⟩;obtain ⟨y,hy,h3,h4,h5,h6,h7,h8⟩:=h2 i fhc0;obtain rfl:=Qt hx1 hy;first | omega | contradiction | (obtain ⟨z,hz,h9⟩:=h8 (by omega);obtain rfl:=Qt hx2 hz;omega) | (simp_all;done))
   refine VRunD.free Y (VWant.on Y Y (nz fhg40_4)) Y (OF.fieldAddrO (tv (T.op 0 0) Y) ZA) (VRunD.look Y (VWant.on Y Y (nz fhg40_4)) Y (OL.loadO1 (t:=(tS x1.Letter)) (tv (T.op 0 1) Y) Y Y Y7) (VRunD.quiet (bi:= [26,24,22,20,21,23,18,7,5,6,16,14,15,12,8,10,9,11,13,17,3,1,0,2,4,19,25,27]) Y (VWant.on Y Y (nz fhg40_4)) Y Y Y bn (cS (vc (tv (tS x1.Letter) Y) vn) (ZO Y) (Je (n+0) x1.Letter (by first | exact hw _ (List.mem_of_getElem? hx1) | assumption | omega)) Y Y) (VRunD.free Y (VWant.on Y Y (nz fhg40_4)) Y (QZ (tv (tB (decide (ZQ x1.Letter))) Y)) (fD (OF.pickF (VEv.tmpB Y (nz fhg40_4)) (tv (tB (!(decide (ZQ x1.Letter)))) Y)) Y Y (mD (tB (!(decide (ZQ x1.Letter)))) Y Y ?_)))))
   refine gn (ZQ x1.Letter) (fun fhg46_5=> ?_) fun fhg46_5=> ?_
   ·refine oD Y Y (ny fhg46_5) Y ?_
    refine oD Y Y (ny fhg46_5) Y (oD Y Y (ny fhg46_5) Y (oD Y Y (ny fhg46_5) Y (fD (OF.pickT (VEv.tmpB Y (ny fhg46_5)) (VEv.bool true)) Y Y (mD (tB true) Y Y (VRunD.off Y (VWant.not (b:=true) Y Y Y) (VRunD.off Y (VWant.not (b:=true) Y Y Y) (VRunD.off Y (VWant.not (b:=true) Y Y Y) (VRunD.off Y (VWant.not (b:=true) Y Y Y) (fD (OF.pickT (tv (tB true) Y) (VEv.bool true)) Y Y (VRunD.nil (tn ?_)))))))))))
    refine ct Y (sr (fO (OF.assign (VEv.bool false)) (nt (rt (vinB.r (tr (tr (vinB.r (tr (vb (b':=false) Y ?_))))))))))
    first | (refine Z4 ⟨fun h=>⟨by omega,Q3 hI' fhc0⟩,fun h=>by have:=h.1;omega⟩) | (symm;rw [decide_eq_false_iff_not];rintro ⟨_,h2⟩;obtain ⟨y,hy,h3,h4,h5,h6,h7,h8⟩:=h2 i fhc0;obtain rfl:=Qt hx1 hy;first | omega | contradiction | (obtain ⟨z,hz,h9⟩:=h8 (by omega);obtain rfl:=Qt hx2 hz;omega) | (simp_all;done))
   refine VRunD.free Y (VWant.on Y Y (nz fhg46_5)) Y (OF.fieldAddrO (tv (T.op 0 0) Y) ZG) (VRunD.look Y (VWant.on Y Y (nz fhg46_5)) Y (OL.loadO1 (t:=(tI x1.Tick)) (tv (T.op 0 2) Y) Y Y Zo) (VRunD.quiet (bi:= [32,30,28,26,27,29,24,22,20,21,23,18,7,5,6,16,14,15,12,8,10,9,11,13,17,3,1,0,2,4,19,25,31,33]) Y (VWant.on Y Y (nz fhg46_5)) Y Y Y bn (cS (vc (tv (tI x1.Tick) Y) (vc (VEv.int .i64 0) (vc (VEv.int .i64 1000) vn))) (ZO Y) (Zs (n+1) x1.Tick 0 1000) Y Y) (VRunD.free Y (VWant.on Y Y (nz fhg46_5)) Y (QZ (tv (tB (decide (0≤x1.Tick∧x1.Tick≤1000))) Y)) (fD (OF.pickF (VEv.tmpB Y (nz fhg46_5)) (tv (tB (!(decide (0≤x1.Tick∧x1.Tick≤1000)))) Y)) Y Y (mD (tB (!(decide (0≤x1.Tick∧x1.Tick≤1000)))) Y Y ?_)))))
   refine gn (0≤x1.Tick∧x1.Tick≤1000) (fun fhg52_6=> ?_) fun fhg52_6=> ?_
   ·refine oD Y Y (ny fhg52_6) Y ?_
    refine oD Y Y (ny fhg52_6) Y (oD Y Y (ny fhg52_6) Y (oD Y Y (ny fhg52_6) Y (fD (OF.pickT (VEv.tmpB Y (ny fhg52_6)) (VEv.bool true)) Y Y (VRunD.nil (tn (ct Y (sr (fO (OF.assign (VEv.bool false)) (nt (rt (vinB.r ?_)))))))))))
    refine tr (tr (vinB.r (tr (vb (b':=false) Y ?_))))
    first | (refine Z4 ⟨fun h=>⟨by omega,Q3 hI' fhc0⟩,fun h=>by have:=h.1;omega⟩) | (symm;rw [decide_eq_false_iff_not];rintro ⟨_,h2⟩;obtain ⟨y,hy,h3,h4,h5,h6,h7,h8⟩:=h2 i fhc0;obtain rfl:=Qt hx1 hy;first | omega | contradiction | (obtain ⟨z,hz,h9⟩:=h8 (by omega);obtain rfl:=Qt hx2 hz;omega) | (simp_all;done))
   refine VRunD.free Y (VWant.on Y Y (nz fhg52_6)) Y (OF.fieldAddrO (tv (T.op 0 0) Y) ZD) (VRunD.look Y (VWant.on Y Y (nz fhg52_6)) Y (OL.loadO1 (t:=(tI x1.Who)) (tv (T.op 0 3) Y) Y Y Zo) (VRunD.quiet (bi:= [38,36,34,32,33,35,30,28,26,27,29,24,22,20,21,23,18,7,5,6,16,14,15,12,8,10,9,11,13,17,3,1,0,2,4,19,25,31,37,39]) Y (VWant.on Y Y (nz fhg52_6)) Y Y Y bn (cS (vc (tv (tI x1.Who) Y) (vc (VEv.int .i64 1) (vc (VEv.int .i64 9) vn))) (ZO Y) (Zs (n+1) x1.Who 1 9) Y Y) (VRunD.free Y (VWant.on Y Y (nz fhg52_6)) Y (QZ (tv (tB (decide (1≤x1.Who∧x1.Who≤9))) Y)) (fD (OF.pickF (VEv.tmpB Y (nz fhg52_6)) (tv (tB (!(decide (1≤x1.Who∧x1.Who≤9)))) Y)) Y Y (VRunD.nil (tn ?_))))))
   refine cn (1≤x1.Who∧x1.Who≤9) Y (fun fhc1=> ?_) fun fhc1=> ?_
   ·refine sr ?_
    refine fO (OF.assign (VEv.bool false)) (nt (rt (vinB.r (tr (tr (vinB.r (tr (vb (b':=false) Y ?_))))))))
    first | (refine Z4 ⟨fun h=>⟨by omega,Q3 hI' fhc0⟩,fun h=>by have:=h.1;omega⟩) | (symm;rw [decide_eq_false_iff_not];rintro ⟨_,h2⟩;obtain ⟨y,hy,h3,h4,h5,h6,h7,h8⟩:=h2 i fhc0;obtain rfl:=Qt hx1 hy;first | omega | contradiction | (obtain ⟨z,hz,h9⟩:=h8 (by omega);obtain rfl:=Qt hx2 hz;omega) | (simp_all;done))
   refine sk (vinB.n (tn (VRun.region (mO (tN i) Y (fO (ZB (tv (tN i) Y) (VEv.int .i64 1) (by first | exact hw _ (List.mem_of_getElem? hx1) | omega)) (aO (tN (i+1)) Y (VRunO.nil (tn ?_))))))))
   refine ⟨(i+1:Nat),?_,?_,Wk.mk (fun k=>k) ?_ ?_ ?_⟩
   ·refine Zt hI0 fhc0 ⟨x1,hx1,by omega,by omega,by assumption,by omega,by omega,fun h0=> ?_⟩
    first | (exact absurd h0 (by omega)) | (exact ⟨x2,hx2,by omega⟩)
   ·first | omega | (simp only [];omega) | (show _<_;omega) | (simp;omega)
   ·exact (b2 (b2 bn))
   ·exact bn
   ·exact nd Y
  refine oD Y Y (dz fhg22_2) Y (oD Y Y (dz fhg22_2) Y (oD Y Y (dz fhg22_2) Y (oD Y Y (dz fhg22_2) Y (oD Y Y (dz fhg22_2) Y (oD Y Y (dz fhg22_2) Y (oD Y Y (dz fhg22_2) Y (oD Y Y (dz fhg22_2) Y (oD Y Y (dz fhg22_2) Y (VRunD.free Y (VWant.on Y Y (nz fhg19_1)) Y (OF.pickF (VEv.tmpB Y (dz fhg22_2)) (VEv.bool false)) (fD (OF.pickF (VEv.tmpB Y (nz fhg19_1)) (tv (tB false) Y)) Y Y (mD (tB false) Y Y ?_)))))))))))
  refine VRunD.free Y (VWant.on (b:=false) Y Y Y) Y (OF.fieldAddrO (tv (T.op 0 0) Y) ZA) (VRunD.look Y (VWant.on (b:=false) Y Y Y) Y (OL.loadO1 (t:=(tS x1.Letter)) (tv (T.op 0 1) Y) Y Y Y7) (VRunD.look Y (VWant.on (b:=false) Y Y Y) Y (B.lenS (tv (tS x1.Letter) Y) U9) (VRunD.free Y (VWant.on (b:=false) Y Y Y) Y (B.neq (c:=(!(decide (x1.Letter.size=1)))) (tv (tN x1.Letter.size) Y) (VEv.int .i64 1) (by first | exact hw _ (List.mem_of_getElem? hx1) | (exact Qef (by omega)))) (fD (OF.pickF (tv (tB false) Y) (tv (tB (!(decide (x1.Letter.size=1)))) Y)) Y Y (mD (tB (!(decide (x1.Letter.size=1)))) Y Y ?_)))))
  refine gn (x1.Letter.size=1) (fun fhg40_7=> ?_) fun fhg40_7=> ?_
  ·refine oD Y Y (ny fhg40_7) Y ?_
   refine oD Y Y (ny fhg40_7) Y (oD Y Y (ny fhg40_7) Y (oD Y Y (ny fhg40_7) Y (fD (OF.pickT (VEv.tmpB Y (ny fhg40_7)) (VEv.bool true)) Y Y (mD (tB true) Y Y (VRunD.off Y (VWant.not (b:=true) Y Y Y) (VRunD.off Y (VWant.not (b:=true) Y Y Y) (VRunD.off Y (VWant.not (b:=true) Y Y Y) (VRunD.off Y (VWant.not (b:=true) Y Y Y) (fD (OF.pickT (tv (tB true) Y) (VEv.bool true)) Y Y (mD (tB true) Y Y (VRunD.off Y (VWant.not (b:=true) Y Y Y) ?_)))))))))))
   refine VRunD.off Y (VWant.not (b:=true) Y Y Y) (VRunD.off Y (VWant.not (b:=true) Y Y Y) (VRunD.off Y (VWant.not (b:=true) Y Y Y) (fD (OF.pickT (tv (tB true) Y) (VEv.bool true)) Y Y (VRunD.nil (tn (ct Y (sr (fO (OF.assign (VEv.bool false)) (nt (rt (vinB.r ?_)))))))))))
   refine tr (tr (vinB.r (tr (vb (b':=false) Y ?_))))
   first | (refine Z4 ⟨fun h=>⟨by omega,Q3 hI' fhc0⟩,fun h=>by have:=h.1;omega⟩) | (symm;rw [decide_eq_false_iff_not];rintro ⟨_,h2⟩;obtain ⟨y,hy,h3,h4,h5,h6,h7,h8⟩:=h2 i fhc0;obtain rfl:=Qt hx1 hy;first | omega | contradiction | (obtain ⟨z,hz,h9⟩:=h8 (by omega);obtain rfl:=Qt hx2 hz;omega) | (simp_all;done))
  refine VRunD.free Y (VWant.on Y Y (nz fhg40_7)) Y (OF.fieldAddrO (tv (T.op 0 0) Y) ZA) (VRunD.look Y (VWant.on Y Y (nz fhg40_7)) Y (OL.loadO1 (t:=(tS x1.Letter)) (tv (T.op 0 1) Y) Y Y Y7) (VRunD.quiet (bi:= [26,24,22,20,21,23,18,7,5,6,16,14,15,12,8,10,9,11,13,17,3,1,0,2,4,19,25,27]) Y (VWant.on Y Y (nz fhg40_7)) Y Y Y bn (cS (vc (tv (tS x1.Letter) Y) vn) (ZO Y) (Je (n+0) x1.Letter (by first | exact hw _ (List.mem_of_getElem? hx1) | assumption | omega)) Y Y) (VRunD.free Y (VWant.on Y Y (nz fhg40_7)) Y (QZ (tv (tB (decide (ZQ x1.Letter))) Y)) (fD (OF.pickF (VEv.tmpB Y (nz fhg40_7)) (tv (tB (!(decide (ZQ x1.Letter)))) Y)) Y Y (mD (tB (!(decide (ZQ x1.Letter)))) Y Y ?_)))))
  refine gn (ZQ x1.Letter) (fun fhg46_8=> ?_) fun fhg46_8=> ?_
  ·refine oD Y Y (ny fhg46_8) Y ?_
   refine oD Y Y (ny fhg46_8) Y (oD Y Y (ny fhg46_8) Y (oD Y Y (ny fhg46_8) Y (fD (OF.pickT (VEv.tmpB Y (ny fhg46_8)) (VEv.bool true)) Y Y (mD (tB true) Y Y (VRunD.off Y (VWant.not (b:=true) Y Y Y) (VRunD.off Y (VWant.not (b:=true) Y Y Y) (VRunD.off Y (VWant.not (b:=true) Y Y Y) (VRunD.off Y (VWant.not (b:=true) Y Y Y) (fD (OF.pickT (tv (tB true) Y) (VEv.bool true)) Y Y (VRunD.nil (tn ?_)))))))))))
   refine ct Y (sr (fO (OF.assign (VEv.bool false)) (nt (rt (vinB.r (tr (tr (vinB.r (tr (vb (b':=false) Y ?_))))))))))
   first | (refine Z4 ⟨fun h=>⟨by omega,Q3 hI' fhc0⟩,fun h=>by have:=h.1;omega⟩) | (symm;rw [decide_eq_false_iff_not];rintro ⟨_,h2⟩;obtain ⟨y,hy,h3,h4,h5,h6,h7,h8⟩:=h2 i fhc0;obtain rfl:=Qt hx1 hy;first | omega | contradiction | (obtain ⟨z,hz,h9⟩:=h8 (by omega);obtain rfl:=Qt hx2 hz;omega) | (simp_all;done))
  refine VRunD.free Y (VWant.on Y Y (nz fhg46_8)) Y (OF.fieldAddrO (tv (T.op 0 0) Y) ZG) (VRunD.look Y (VWant.on Y Y (nz fhg46_8)) Y (OL.loadO1 (t:=(tI x1.Tick)) (tv (T.op 0 2) Y) Y Y Zo) (VRunD.quiet (bi:= [32,30,28,26,27,29,24,22,20,21,23,18,7,5,6,16,14,15,12,8,10,9,11,13,17,3,1,0,2,4,19,25,31,33]) Y (VWant.on Y Y (nz fhg46_8)) Y Y Y bn (cS (vc (tv (tI x1.Tick) Y) (vc (VEv.int .i64 0) (vc (VEv.int .i64 1000) vn))) (ZO Y) (Zs (n+1) x1.Tick 0 1000) Y Y) (VRunD.free Y (VWant.on Y Y (nz fhg46_8)) Y (QZ (tv (tB (decide (0≤x1.Tick∧x1.Tick≤1000))) Y)) (fD (OF.pickF (VEv.tmpB Y (nz fhg46_8)) (tv (tB (!(decide (0≤x1.Tick∧x1.Tick≤1000)))) Y)) Y Y (mD (tB (!(decide (0≤x1.Tick∧x1.Tick≤1000)))) Y Y ?_)))))
  refine gn (0≤x1.Tick∧x1.Tick≤1000) (fun fhg52_9=> ?_) fun fhg52_9=> ?_
  ·refine oD Y Y (ny fhg52_9) Y ?_
   refine oD Y Y (ny fhg52_9) Y (oD Y Y (ny fhg52_9) Y (oD Y Y (ny fhg52_9) Y (fD (OF.pickT (VEv.tmpB Y (ny fhg52_9)) (VEv.bool true)) Y Y (VRunD.nil (tn (ct Y (sr (fO (OF.assign (VEv.bool false)) (nt (rt (vinB.r ?_)))))))))))
   refine tr (tr (vinB.r (tr (vb (b':=false) Y ?_))))
   first | (refine Z4 ⟨fun h=>⟨by omega,Q3 hI' fhc0⟩,fun h=>by have:=h.1;omega⟩) | (symm;rw [decide_eq_false_iff_not];rintro ⟨_,h2⟩;obtain ⟨y,hy,h3,h4,h5,h6,h7,h8⟩:=h2 i fhc0;obtain rfl:=Qt hx1 hy;first | omega | contradiction | (obtain ⟨z,hz,h9⟩:=h8 (by omega);obtain rfl:=Qt hx2 hz;omega) | (simp_all;done))
  refine VRunD.free Y (VWant.on Y Y (nz fhg52_9)) Y (OF.fieldAddrO (tv (T.op 0 0) Y) ZD) (VRunD.look Y (VWant.on Y Y (nz fhg52_9)) Y (OL.loadO1 (t:=(tI x1.Who)) (tv (T.op 0 3) Y) Y Y Zo) (VRunD.quiet (bi:= [38,36,34,32,33,35,30,28,26,27,29,24,22,20,21,23,18,7,5,6,16,14,15,12,8,10,9,11,13,17,3,1,0,2,4,19,25,31,37,39]) Y (VWant.on Y Y (nz fhg52_9)) Y Y Y bn (cS (vc (tv (tI x1.Who) Y) (vc (VEv.int .i64 1) (vc (VEv.int .i64 9) vn))) (ZO Y) (Zs (n+1) x1.Who 1 9) Y Y) (VRunD.free Y (VWant.on Y Y (nz fhg52_9)) Y (QZ (tv (tB (decide (1≤x1.Who∧x1.Who≤9))) Y)) (fD (OF.pickF (VEv.tmpB Y (nz fhg52_9)) (tv (tB (!(decide (1≤x1.Who∧x1.Who≤9)))) Y)) Y Y (VRunD.nil (tn ?_))))))
  refine cn (1≤x1.Who∧x1.Who≤9) Y (fun fhc1=> ?_) fun fhc1=> ?_
  ·refine sr ?_
   refine fO (OF.assign (VEv.bool false)) (nt (rt (vinB.r (tr (tr (vinB.r (tr (vb (b':=false) Y ?_))))))))
   first | (refine Z4 ⟨fun h=>⟨by omega,Q3 hI' fhc0⟩,fun h=>by have:=h.1;omega⟩) | (symm;rw [decide_eq_false_iff_not];rintro ⟨_,h2⟩;obtain ⟨y,hy,h3,h4,h5,h6,h7,h8⟩:=h2 i fhc0;obtain rfl:=Qt hx1 hy;first | omega | contradiction | (obtain ⟨z,hz,h9⟩:=h8 (by omega);obtain rfl:=Qt hx2 hz;omega) | (simp_all;done))
  refine sk (vinB.n (tn (VRun.region (mO (tN i) Y (fO (ZB (tv (tN i) Y) (VEv.int .i64 1) (by first | exact hw _ (List.mem_of_getElem? hx1) | omega)) (aO (tN (i+1)) Y (VRunO.nil (tn ?_))))))))
  refine ⟨(i+1:Nat),?_,?_,Wk.mk (fun k=>k) ?_ ?_ ?_⟩
  ·refine Zt hI0 fhc0 ⟨x1,hx1,by omega,by omega,by assumption,by omega,by omega,fun h0=> ?_⟩
   first | (exact absurd h0 (by omega)) | (exact ⟨x2,hx2,by omega⟩)
  ·first | omega | (simp only [];omega) | (show _<_;omega) | (simp;omega)
  ·exact (b2 (b2 bn))
  ·exact bn
  ·exact nd Y
 refine VRun.exit (vthn.e (vthn.e (vinB.e (tn (sr (mO (rd 4 Qa a) Y (lO (B.lenR (m:=a.length) (tv (rd 4 Qa a) Y) QJ (List.length_map ..)) (fO (B.leq (c:=(decide (a.length≤40))) (tv (tN a.length) Y) (VEv.int .i64 40) (by first | exact hw _ (List.mem_of_getElem? hx1) | (exact Z4 (by omega)))) (aO (tB (decide (a.length≤40))) Y (nt (rt ?_)))))))))))
 refine vb (b':=(decide (a.length≤40))) Y ?_
 first | (refine Z4 ⟨fun h=>⟨by omega,Q3 hI' fhc0⟩,fun h=>by have:=h.1;omega⟩) | (symm;rw [decide_eq_false_iff_not];rintro ⟨_,h2⟩;obtain ⟨y,hy,h3,h4,h5,h6,h7,h8⟩:=h2 i fhc0;obtain rfl:=Qt hx1 hy;first | omega | contradiction | (obtain ⟨z,hz,h9⟩:=h8 (by omega);obtain rfl:=Qt hx2 hz;omega) | (simp_all;done))
theorem Qn (n:Nat) (a:List D.Note) (hz:zL Qo a≤2*mx):Pure (QA Tryd.prog (n+3)) 22 [(rd 4 Qa a)] (tB (decide (Qb a))):=by
 refine Pure.intro (rs:= [ResultVar.tmp 2]) Tryd.func22 Y Y Y (E0:= [(0,(rd 4 Qa a))]) Y ?_
 obtain ⟨hlim,hmx,hmax⟩:=Zk
 have ha:=ZV (z:=Qo) a
 have hw:∀x∈a,x.Letter.size≤maxLen:=fun x hx=>by have h1:=Qe8 (z:=Qo) hx;simp only [Qo] at h1;omega
 refine sr (fO (OF.assign (VEv.bool false)) (nt (sq (sr (mO (rd 4 Qa a) Y (lO (B.lenR (m:=a.length) (tv (rd 4 Qa a) Y) QJ (List.length_map ..)) (fO (B.gtr (c:=(decide (40<a.length))) (tv (tN a.length) Y) (VEv.int .i64 40) (by first | exact hw _ (List.mem_of_getElem? hx1) | (exact Z4 (by omega)))) (nt ?_))))))))
 refine cd (40<a.length) Y (fun fhc0=> ?_) fun fhc0=> ?_
 ·refine sr ?_
  refine fO (OF.assign (VEv.bool false)) (nt (rt (tr (vb (b':=false) Y ?_))))
  first | (symm;rw [decide_eq_false_iff_not];rintro ⟨h2,_⟩;omega) | (symm;rw [decide_eq_true_eq];exact ⟨by omega,Q3 hI' fhc1⟩) | (symm;rw [decide_eq_false_iff_not];rintro ⟨_,h2⟩;obtain ⟨y,hy,h3,h4,h5,h6,h7,h8⟩:=h2 i fhc1;obtain rfl:=Qt hx1 hy;first | omega | contradiction | (obtain ⟨z,hz,h9⟩:=h8 (by omega);obtain rfl:=Qt hx2 hz;omega) | (simp_all;done))
 refine sk (tn (sq (sr (mO (rd 4 Qa a) Y (lO (B.lenR (m:=a.length) (tv (rd 4 Qa a) Y) QJ (List.length_map ..)) (fO (OF.move (VEv.int .i64 0)) (nt (VRun.block ?_))))))))
 refine VRun.loop (A:=Nat) (fun s_=> [(0,(rd 4 Qa a)),(8,(rd 4 Qa a)),(9,(tN a.length)),(10,(tN s_))]) (fun s_=>Jw []) 0 (fun s_=>s_≤a.length∧∀j,j<s_→QbV a j) (fun s_=>a.length - s_) (0:Nat) ?_ (Wk.mk (fun k=>k) ?_ ?_ ?_) ?_
 ·exact ⟨Nat.zero_le _,fun j hj=>by omega⟩
 ·exact (b2 (b2 (b2 (b2 bn))))
 ·exact bn
 ·exact nd Y
 rintro i (hI':i≤a.length∧∀j,j<i→QbV a j)
 show VRun _ _ _ [(0,(rd 4 Qa a)),(8,(rd 4 Qa a)),(9,(tN a.length)),(10,(tN i))] (Jw []) 0 _
 have hI0:=hI'
 refine sr (fO (Jx (tv (tN i) Y) (tv (tN a.length) Y)) (nt (sq ?_)))
 refine cd (i<a.length) Y (fun fhc1=> ?_) fun fhc1=> ?_
 ·refine sk ?_
  refine tn (sq (VRun.block (sr (mO (tN i) Y ?_))))
  obtain ⟨x1,hx1⟩:∃x,a[i]? =some x:=⟨_,List.getElem?_eq_getElem (by first | exact hw _ (List.mem_of_getElem? hx1) | omega)⟩
  refine fO (OF.indexAddrR (row:=(Qa false x1)) (i:=i) (tv (rd 4 Qa a) Y) (tv (tN i) Y) Y (QR _ hx1) QJ Qh Q7) (lO (OL.loadRn (us:=(Qa false x1)) (tv (T.rp (Qa false x1)) Y) Q6 Qh (lb Y) Y) (kO (B.alloc (t:=(T.agg [(tN 0),(tS ByteArray.empty),(tN 0),(tN 0)])) (ts:= [(tN 0),(tS ByteArray.empty),(tN 0),(tN 0)]) QL Qbm nofun (fun _=> .agg _ _ Y (Z8 (RL.cons (.int _ _) (RL.cons (.str _) (RL.cons (.int _ _) (RL.cons (.int _ _) (RL.nil _))))))) Y) (aO (tN i) Y (cO (B.storeW (us:=(Qa false x1)) (tv (T.op 0 0) Y) (tv (T.agg (Qa false x1)) Y) nofun Y Y Y Q7 Qh (bc Y (bc Y (bc Y (bc Y bn))))) (nt (sq (VRun.draw (B:= [[],[0],[0,1],[1,0,2],[1,0,2],[2,0,1,4],[4,5,2,0,1,3],[3,1,0,2,5,4,6],[6,4,5,2,0,1,3,7],[1,0,2],[2,0,1,9],[9,10,7,3,1,0,2,5,4,6,8],[8,6,4,5,3,7,10,9,11,1,0,2],[2,0,1,11,9,10,7,3,5,4,6,8,12],[12,8,6,4,5,3,7,10,9,11,1,0,2,13],[13,2,0,1,11,9,10,7,3,5,4,6,8,12,14],[14,12,8,6,4,5,3,7,10,9,11,1,0,2,13,15],[15,13,2,0,1,11,9,10,7,3,5,4,6,8,12,14,16],[16,14,15,17,12,8,6,4,5,3,7,10,9,11,1,0,2,13],[13,2,0,1,11,9,10,7,3,5,4,6,8,12,17,15,14,16,18],[18,16,14,15,17,12,8,6,4,5,3,7,10,9,11,1,0,2,13,19],[19,13,2,0,1,11,9,10,7,3,5,4,6,8,12,17,15,14,16,18,20],[20,18,16,14,15,17,12,8,6,4,5,3,7,10,9,11,1,0,2,13,19,21],[21,19,13,2,0,1,11,9,10,7,3,5,4,6,8,12,17,15,14,16,18,20,22],[22,20,21,23,18,16,14,15,17,12,8,6,4,5,3,7,10,9,11,1,0,2,13,19],[19,13,2,0,1,11,9,10,7,3,5,4,6,8,12,17,15,14,16,18,23,21,20,22,24],[24,22,20,21,23,18,16,14,15,17,12,8,6,4,5,3,7,10,9,11,1,0,2,13,19,25],[25,19,13,2,0,1,11,9,10,7,3,5,4,6,8,12,17,15,14,16,18,23,21,20,22,24,26],[26,24,22,20,21,23,18,16,14,15,17,12,8,6,4,5,3,7,10,9,11,1,0,2,13,19,25,27],[27,25,19,13,2,0,1,11,9,10,7,3,5,4,6,8,12,17,15,14,16,18,23,21,20,22,24,26,28],[28,26,27,29,24,22,20,21,23,18,16,14,15,17,12,8,6,4,5,3,7,10,9,11,1,0,2,13,19,25],[25,19,13,2,0,1,11,9,10,7,3,5,4,6,8,12,17,15,14,16,18,23,21,20,22,24,29,27,26,28,30],[30,28,26,27,29,24,22,20,21,23,18,16,14,15,17,12,8,6,4,5,3,7,10,9,11,1,0,2,13,19,25,31],[31,25,19,13,2,0,1,11,9,10,7,3,5,4,6,8,12,17,15,14,16,18,23,21,20,22,24,29,27,26,28,30,32],[32,30,28,26,27,29,24,22,20,21,23,18,16,14,15,17,12,8,6,4,5,3,7,10,9,11,1,0,2,13,19,25,31,33],[33,31,25,19,13,2,0,1,11,9,10,7,3,5,4,6,8,12,17,15,14,16,18,23,21,20,22,24,29,27,26,28,30,32,34],[34,32,33,35,30,28,26,27,29,24,22,20,21,23,18,16,14,15,17,12,8,6,4,5,3,7,10,9,11,1,0,2,13,19,25,31],[31,25,19,13,2,0,1,11,9,10,7,3,5,4,6,8,12,17,15,14,16,18,23,21,20,22,24,29,27,26,28,30,35,33,32,34,36],[36,34,32,33,35,30,28,26,27,29,24,22,20,21,23,18,16,14,15,17,12,8,6,4,5,3,7,10,9,11,1,0,2,13,19,25,31,37],[37,31,25,19,13,2,0,1,11,9,10,7,3,5,4,6,8,12,17,15,14,16,18,23,21,20,22,24,29,27,26,28,30,35,33,32,34,36,38],[38,36,34,32,33,35,30,28,26,27,29,24,22,20,21,23,18,16,14,15,17,12,8,6,4,5,3,7,10,9,11,1,0,2,13,19,25,31,37,39],[39,37,31,25,19,13,2,0,1,11,9,10,7,3,5,4,6,8,12,17,15,14,16,18,23,21,20,22,24,29,27,26,28,30,35,33,32,34,36,38,40],[40,38,39,41,36,34,32,33,35,30,28,26,27,29,24,22,20,21,23,18,16,14,15,17,12,8,6,4,5,3,7,10,9,11,1,0,2,13,19,25,31,37]]) (by kernel_rfl) (by kernel_rfl) Y ?_)))))))
  refine mD (tN i) Y Y (fD (B.gtr (c:=(decide (0<i))) (tv (tN i) Y) (VEv.int .i64 0) (by first | exact hw _ (List.mem_of_getElem? hx1) | (exact Z4 (by omega)))) Y Y (mD (tB (decide (0<i))) Y Y ?_))
  refine gw (0<i) (fun fhg17_1=> ?_) fun fhg17_1=> ?_
  ·refine VRunD.free Y (VWant.on Y Y (dy fhg17_1)) Y (OF.move (tv (rd 4 Qa a) Y)) ?_
   refine VRunD.free Y (VWant.on Y Y (dy fhg17_1)) Y (OF.move (tv (tN i) Y)) (VRunD.free Y (VWant.on Y Y (dy fhg17_1)) Y (B.sub (n:=((i - 1:Nat):Int)) (tv (tN i) Y) (VEv.int .i64 1) (by first | exact hw _ (List.mem_of_getElem? hx1) | rfl | (rw [QB (by omega)];omega) | (rw [QB (by omega)];done))) ?_)
   obtain ⟨x2,hx2⟩:∃x,a[i - 1]? =some x:=⟨_,List.getElem?_eq_getElem (by first | exact hw _ (List.mem_of_getElem? hx1) | omega)⟩
   refine VRunD.free Y (VWant.on Y Y (dy fhg17_1)) Y (OF.indexAddrR (row:=(Qa false x2)) (i:=i - 1) (tv (rd 4 Qa a) Y) (tv (tN (i - 1)) Y) Y (QR _ hx2) QJ Qh Q7) (VRunD.free Y (VWant.on Y Y (dy fhg17_1)) Y (B.fieldAddrR (us:=(Qa false x2)) (tv (T.rp (Qa false x2)) Y) (lb Y) Ze Y) (VRunD.look Y (VWant.on Y Y (dy fhg17_1)) Y (OL.loadR1 (t:=(tI x2.Cell)) (tv (T.rp (Qa false x2)) Y) Y Zo) (VRunD.free Y (VWant.on Y Y (dy fhg17_1)) Y (OF.fieldAddrO (tv (T.op 0 0) Y) Ze) (VRunD.look Y (VWant.on Y Y (dy fhg17_1)) Y (OL.loadO1 (t:=(tI x1.Cell)) (tv (T.op 0 0) Y) Y Y Zo) (VRunD.free Y (VWant.on Y Y (dy fhg17_1)) Y (xge (tv (tI x2.Cell) Y) (tv (tI x1.Cell) Y)) (fD (OF.pickT (VEv.tmpB Y (dy fhg17_1)) (tv (tB (decide (x1.Cell≤x2.Cell))) Y)) Y Y (mD (tB (decide (x1.Cell≤x2.Cell))) Y Y ?_)))))))
   refine gw (x1.Cell≤x2.Cell) (fun fhg28_2=> ?_) fun fhg28_2=> ?_
   ·refine oD Y Y (dy fhg28_2) Y ?_
    refine oD Y Y (dy fhg28_2) Y (oD Y Y (dy fhg28_2) Y (oD Y Y (dy fhg28_2) Y (fD (OF.pickT (VEv.tmpB Y (dy fhg28_2)) (VEv.bool true)) Y Y (mD (tB true) Y Y (VRunD.off Y (VWant.not (b:=true) Y Y Y) (VRunD.off Y (VWant.not (b:=true) Y Y Y) (VRunD.off Y (VWant.not (b:=true) Y Y Y) (VRunD.off Y (VWant.not (b:=true) Y Y Y) (fD (OF.pickT (tv (tB true) Y) (VEv.bool true)) Y Y (mD (tB true) Y Y (VRunD.off Y (VWant.not (b:=true) Y Y Y) ?_)))))))))))
    refine VRunD.off Y (VWant.not (b:=true) Y Y Y) (VRunD.off Y (VWant.not (b:=true) Y Y Y) (VRunD.off Y (VWant.not (b:=true) Y Y Y) (fD (OF.pickT (tv (tB true) Y) (VEv.bool true)) Y Y (mD (tB true) Y Y (VRunD.off Y (VWant.not (b:=true) Y Y Y) (VRunD.off Y (VWant.not (b:=true) Y Y Y) (VRunD.off Y (VWant.not (b:=true) Y Y Y) (VRunD.off Y (VWant.not (b:=true) Y Y Y) (fD (OF.pickT (tv (tB true) Y) (VEv.bool true)) Y Y (mD (tB true) Y Y (VRunD.off Y (VWant.not (b:=true) Y Y Y) ?_)))))))))))
    refine VRunD.off Y (VWant.not (b:=true) Y Y Y) (VRunD.off Y (VWant.not (b:=true) Y Y Y) (VRunD.off Y (VWant.not (b:=true) Y Y Y) (fD (OF.pickT (tv (tB true) Y) (VEv.bool true)) Y Y (VRunD.nil (tn (ct Y (sr (fO (OF.assign (VEv.bool false)) (nt (rt (vinB.r ?_)))))))))))
    refine tr (tr (vinB.r (tr (vb (b':=false) Y ?_))))
    first | (symm;rw [decide_eq_false_iff_not];rintro ⟨h2,_⟩;omega) | (symm;rw [decide_eq_true_eq];exact ⟨by omega,Q3 hI' fhc1⟩) | (symm;rw [decide_eq_false_iff_not];rintro ⟨_,h2⟩;obtain ⟨y,hy,h3,h4,h5,h6,h7,h8⟩:=h2 i fhc1;obtain rfl:=Qt hx1 hy;first | omega | contradiction | (obtain ⟨z,hz,h9⟩:=h8 (by omega);obtain rfl:=Qt hx2 hz;omega) | (simp_all;done))
   refine VRunD.free Y (VWant.on Y Y (dz fhg28_2)) Y (OF.fieldAddrO (tv (T.op 0 0) Y) Ze) (VRunD.look Y (VWant.on Y Y (dz fhg28_2)) Y (OL.loadO1 (t:=(tI x1.Cell)) (tv (T.op 0 0) Y) Y Y Zo) (VRunD.quiet (bi:= [14,12,8,6,4,5,3,7,10,9,11,1,0,2,13,15]) Y (VWant.on Y Y (dz fhg28_2)) Y Y Y bn (cS (vc (tv (tI x1.Cell) Y) (vc (VEv.int .i64 0) (vc (VEv.int .i64 35) vn))) (ZO Y) (Q4 (n+1) x1.Cell 0 35) Y Y) (VRunD.free Y (VWant.on Y Y (dz fhg28_2)) Y (QZ (tv (tB (decide (0≤x1.Cell∧x1.Cell≤35))) Y)) (fD (OF.pickF (VEv.tmpB Y (dz fhg28_2)) (tv (tB (!(decide (0≤x1.Cell∧x1.Cell≤35)))) Y)) Y Y (mD (tB (!(decide (0≤x1.Cell∧x1.Cell≤35)))) Y Y ?_)))))
   refine gn (0≤x1.Cell∧x1.Cell≤35) (fun fhg34_3=> ?_) fun fhg34_3=> ?_
   ·refine oD Y Y (ny fhg34_3) Y ?_
    refine oD Y Y (ny fhg34_3) Y (oD Y Y (ny fhg34_3) Y (oD Y Y (ny fhg34_3) Y (fD (OF.pickT (VEv.tmpB Y (ny fhg34_3)) (VEv.bool true)) Y Y (mD (tB true) Y Y (VRunD.off Y (VWant.not (b:=true) Y Y Y) (VRunD.off Y (VWant.not (b:=true) Y Y Y) (VRunD.off Y (VWant.not (b:=true) Y Y Y) (VRunD.off Y (VWant.not (b:=true) Y Y Y) (fD (OF.pickT (tv (tB true) Y) (VEv.bool true)) Y Y (mD (tB true) Y Y (VRunD.off Y (VWant.not (b:=true) Y Y Y) ?_)))))))))))
    refine VRunD.off Y (VWant.not (b:=true) Y Y Y) (VRunD.off Y (VWant.not (b:=true) Y Y Y) (VRunD.off Y (VWant.not (b:=true) Y Y Y) (fD (OF.pickT (tv (tB true) Y) (VEv.bool true)) Y Y (mD (tB true) Y Y (VRunD.off Y (VWant.not (b:=true) Y Y Y) (VRunD.off Y (VWant.not (b:=true) Y Y Y) (VRunD.off Y (VWant.not (b:=true) Y Y Y) (VRunD.off Y (VWant.not (b:=true) Y Y Y) (fD (OF.pickT (tv (tB true) Y) (VEv.bool true)) Y Y (VRunD.nil (tn ?_)))))))))))
    refine ct Y (sr (fO (OF.assign (VEv.bool false)) (nt (rt (vinB.r (tr (tr (vinB.r (tr (vb (b':=false) Y ?_))))))))))
    first | (symm;rw [decide_eq_false_iff_not];rintro ⟨h2,_⟩;omega) | (symm;rw [decide_eq_true_eq];exact ⟨by omega,Q3 hI' fhc1⟩) | (symm;rw [decide_eq_false_iff_not];rintro ⟨_,h2⟩;obtain ⟨y,hy,h3,h4,h5,h6,h7,h8⟩:=h2 i fhc1;obtain rfl:=Qt hx1 hy;first | omega | contradiction | (obtain ⟨z,hz,h9⟩:=h8 (by omega);obtain rfl:=Qt hx2 hz;omega) | (simp_all;done))
   refine VRunD.free Y (VWant.on Y Y (nz fhg34_3)) Y (OF.fieldAddrO (tv (T.op 0 0) Y) ZA) (VRunD.look Y (VWant.on Y Y (nz fhg34_3)) Y (OL.loadO1 (t:=(tS x1.Letter)) (tv (T.op 0 1) Y) Y Y Y7) (VRunD.look Y (VWant.on Y Y (nz fhg34_3)) Y (B.lenS (tv (tS x1.Letter) Y) U9) (VRunD.free Y (VWant.on Y Y (nz fhg34_3)) Y (B.neq (c:=(!(decide (x1.Letter.size=1)))) (tv (tN x1.Letter.size) Y) (VEv.int .i64 1) (by first | exact hw _ (List.mem_of_getElem? hx1) | (exact Qef (by omega)))) (fD (OF.pickF (VEv.tmpB Y (nz fhg34_3)) (tv (tB (!(decide (x1.Letter.size=1)))) Y)) Y Y (mD (tB (!(decide (x1.Letter.size=1)))) Y Y ?_)))))
   refine gn (x1.Letter.size=1) (fun fhg40_4=> ?_) fun fhg40_4=> ?_
   ·refine oD Y Y (ny fhg40_4) Y ?_
    refine oD Y Y (ny fhg40_4) Y (oD Y Y (ny fhg40_4) Y (oD Y Y (ny fhg40_4) Y (fD (OF.pickT (VEv.tmpB Y (ny fhg40_4)) (VEv.bool true)) Y Y (mD (tB true) Y Y (VRunD.off Y (VWant.not (b:=true) Y Y Y) (VRunD.off Y (VWant.not (b:=true) Y Y Y) (VRunD.off Y (VWant.not (b:=true) Y Y Y) (VRunD.off Y (VWant.not (b:=true) Y Y Y) (fD (OF.pickT (tv (tB true) Y) (VEv.bool true)) Y Y (mD (tB true) Y Y (VRunD.off Y (VWant.not (b:=true) Y Y Y) ?_)))))))))))
    refine VRunD.off Y (VWant.not (b:=true) Y Y Y) (VRunD.off Y (VWant.not (b:=true) Y Y Y) (VRunD.off Y (VWant.not (b:=true) Y Y Y) (fD (OF.pickT (tv (tB true) Y) (VEv.bool true)) Y Y (VRunD.nil (tn (ct Y (sr (fO (OF.assign (VEv.bool false)) (nt (rt (vinB.r ?_)))))))))))
    refine tr (tr (vinB.r (tr (vb (b':=false) Y ?_))))
    first | (symm;rw [decide_eq_false_iff_not];rintro ⟨h2,_⟩;omega) | (symm;rw [decide_eq_true_eq];exact ⟨by omega,Q3 hI' fhc1⟩) | (symm;rw [decide_eq_false_iff_not];rintro ⟨_,h2⟩;obtain ⟨y,hy,h3,h4,h5,h6,h7,h8⟩:=h2 i fhc1;obtain rfl:=Qt hx1 hy;first | omega | contradiction | (obtain ⟨z,hz,h9⟩:=h8 (by omega);obtain rfl:=Qt hx2 hz;omega) | (simp_all;done))
   refine VRunD.free Y (VWant.on Y Y (nz fhg40_4)) Y (OF.fieldAddrO (tv (T.op 0 0) Y) ZA) (VRunD.look Y (VWant.on Y Y (nz fhg40_4)) Y (OL.loadO1 (t:=(tS x1.Letter)) (tv (T.op 0 1) Y) Y Y Y7) (VRunD.quiet (bi:= [26,24,22,20,21,23,18,16,14,15,17,12,8,6,4,5,3,7,10,9,11,1,0,2,13,19,25,27]) Y (VWant.on Y Y (nz fhg40_4)) Y Y Y bn (cS (vc (tv (tS x1.Letter) Y) vn) (ZO Y) (Y6 (n+0) x1.Letter (by first | exact hw _ (List.mem_of_getElem? hx1) | assumption | omega)) Y Y) (VRunD.free Y (VWant.on Y Y (nz fhg40_4)) Y (QZ (tv (tB (decide (ZQ x1.Letter))) Y)) (fD (OF.pickF (VEv.tmpB Y (nz fhg40_4)) (tv (tB (!(decide (ZQ x1.Letter)))) Y)) Y Y (mD (tB (!(decide (ZQ x1.Letter)))) Y Y ?_)))))
   refine gn (ZQ x1.Letter) (fun fhg46_5=> ?_) fun fhg46_5=> ?_
   ·refine oD Y Y (ny fhg46_5) Y ?_
    refine oD Y Y (ny fhg46_5) Y (oD Y Y (ny fhg46_5) Y (oD Y Y (ny fhg46_5) Y (fD (OF.pickT (VEv.tmpB Y (ny fhg46_5)) (VEv.bool true)) Y Y (mD (tB true) Y Y (VRunD.off Y (VWant.not (b:=true) Y Y Y) (VRunD.off Y (VWant.not (b:=true) Y Y Y) (VRunD.off Y (VWant.not (b:=true) Y Y Y) (VRunD.off Y (VWant.not (b:=true) Y Y Y) (fD (OF.pickT (tv (tB true) Y) (VEv.bool true)) Y Y (VRunD.nil (tn ?_)))))))))))
    refine ct Y (sr (fO (OF.assign (VEv.bool false)) (nt (rt (vinB.r (tr (tr (vinB.r (tr (vb (b':=false) Y ?_))))))))))
    first | (symm;rw [decide_eq_false_iff_not];rintro ⟨h2,_⟩;omega) | (symm;rw [decide_eq_true_eq];exact ⟨by omega,Q3 hI' fhc1⟩) | (symm;rw [decide_eq_false_iff_not];rintro ⟨_,h2⟩;obtain ⟨y,hy,h3,h4,h5,h6,h7,h8⟩:=h2 i fhc1;obtain rfl:=Qt hx1 hy;first | omega | contradiction | (obtain ⟨z,hz,h9⟩:=h8 (by omega);obtain rfl:=Qt hx2 hz;omega) | (simp_all;done))
   refine VRunD.free Y (VWant.on Y Y (nz fhg46_5)) Y (OF.fieldAddrO (tv (T.op 0 0) Y) ZG) (VRunD.look Y (VWant.on Y Y (nz fhg46_5)) Y (OL.loadO1 (t:=(tI x1.Tick)) (tv (T.op 0 2) Y) Y Y Zo) (VRunD.quiet (bi:= [32,30,28,26,27,29,24,22,20,21,23,18,16,14,15,17,12,8,6,4,5,3,7,10,9,11,1,0,2,13,19,25,31,33]) Y (VWant.on Y Y (nz fhg46_5)) Y Y Y bn (cS (vc (tv (tI x1.Tick) Y) (vc (VEv.int .i64 0) (vc (VEv.int .i64 1000) vn))) (ZO Y) (Q4 (n+1) x1.Tick 0 1000) Y Y) (VRunD.free Y (VWant.on Y Y (nz fhg46_5)) Y (QZ (tv (tB (decide (0≤x1.Tick∧x1.Tick≤1000))) Y)) (fD (OF.pickF (VEv.tmpB Y (nz fhg46_5)) (tv (tB (!(decide (0≤x1.Tick∧x1.Tick≤1000)))) Y)) Y Y (mD (tB (!(decide (0≤x1.Tick∧x1.Tick≤1000)))) Y Y ?_)))))
   refine gn (0≤x1.Tick∧x1.Tick≤1000) (fun fhg52_6=> ?_) fun fhg52_6=> ?_
   ·refine oD Y Y (ny fhg52_6) Y ?_
    refine oD Y Y (ny fhg52_6) Y (oD Y Y (ny fhg52_6) Y (oD Y Y (ny fhg52_6) Y (fD (OF.pickT (VEv.tmpB Y (ny fhg52_6)) (VEv.bool true)) Y Y (VRunD.nil (tn (ct Y (sr (fO (OF.assign (VEv.bool false)) (nt (rt (vinB.r ?_)))))))))))
    refine tr (tr (vinB.r (tr (vb (b':=false) Y ?_))))
    first | (symm;rw [decide_eq_false_iff_not];rintro ⟨h2,_⟩;omega) | (symm;rw [decide_eq_true_eq];exact ⟨by omega,Q3 hI' fhc1⟩) | (symm;rw [decide_eq_false_iff_not];rintro ⟨_,h2⟩;obtain ⟨y,hy,h3,h4,h5,h6,h7,h8⟩:=h2 i fhc1;obtain rfl:=Qt hx1 hy;first | omega | contradiction | (obtain ⟨z,hz,h9⟩:=h8 (by omega);obtain rfl:=Qt hx2 hz;omega) | (simp_all;done))
   refine VRunD.free Y (VWant.on Y Y (nz fhg52_6)) Y (OF.fieldAddrO (tv (T.op 0 0) Y) ZD) (VRunD.look Y (VWant.on Y Y (nz fhg52_6)) Y (OL.loadO1 (t:=(tI x1.Who)) (tv (T.op 0 3) Y) Y Y Zo) (VRunD.quiet (bi:= [38,36,34,32,33,35,30,28,26,27,29,24,22,20,21,23,18,16,14,15,17,12,8,6,4,5,3,7,10,9,11,1,0,2,13,19,25,31,37,39]) Y (VWant.on Y Y (nz fhg52_6)) Y Y Y bn (cS (vc (tv (tI x1.Who) Y) (vc (VEv.int .i64 1) (vc (VEv.int .i64 9) vn))) (ZO Y) (Q4 (n+1) x1.Who 1 9) Y Y) (VRunD.free Y (VWant.on Y Y (nz fhg52_6)) Y (QZ (tv (tB (decide (1≤x1.Who∧x1.Who≤9))) Y)) (fD (OF.pickF (VEv.tmpB Y (nz fhg52_6)) (tv (tB (!(decide (1≤x1.Who∧x1.Who≤9)))) Y)) Y Y (VRunD.nil (tn ?_))))))
   refine cn (1≤x1.Who∧x1.Who≤9) Y (fun fhc2=> ?_) fun fhc2=> ?_
   ·refine sr ?_
    refine fO (OF.assign (VEv.bool false)) (nt (rt (vinB.r (tr (tr (vinB.r (tr (vb (b':=false) Y ?_))))))))
    first | (symm;rw [decide_eq_false_iff_not];rintro ⟨h2,_⟩;omega) | (symm;rw [decide_eq_true_eq];exact ⟨by omega,Q3 hI' fhc1⟩) | (symm;rw [decide_eq_false_iff_not];rintro ⟨_,h2⟩;obtain ⟨y,hy,h3,h4,h5,h6,h7,h8⟩:=h2 i fhc1;obtain rfl:=Qt hx1 hy;first | omega | contradiction | (obtain ⟨z,hz,h9⟩:=h8 (by omega);obtain rfl:=Qt hx2 hz;omega) | (simp_all;done))
   refine sk (vinB.n (tn (VRun.region (fO (ZB (tv (tN i) Y) (VEv.int .i64 1) (by first | exact hw _ (List.mem_of_getElem? hx1) | omega)) (mO (tN (i+1)) Y (VRunO.nil (tn ?_)))))))
   refine ⟨(i+1:Nat),?_,?_,Wk.mk (fun k=>k) ?_ ?_ ?_⟩
   ·refine Zt hI0 fhc1 ⟨x1,hx1,by omega,by omega,by assumption,by omega,by omega,fun h0=> ?_⟩
    first | (exact absurd h0 (by omega)) | (exact ⟨x2,hx2,by omega⟩)
   ·first | omega | (simp only [];omega) | (show _<_;omega) | (simp;omega)
   ·exact (b2 (b2 (b2 (b2 bn))))
   ·exact bn
   ·exact nd Y
  refine oD Y Y (dz fhg17_1) Y (oD Y Y (dz fhg17_1) Y (oD Y Y (dz fhg17_1) Y (oD Y Y (dz fhg17_1) Y (oD Y Y (dz fhg17_1) Y (oD Y Y (dz fhg17_1) Y (oD Y Y (dz fhg17_1) Y (oD Y Y (dz fhg17_1) Y (oD Y Y (dz fhg17_1) Y (fD (OF.pickF (VEv.tmpB Y (dz fhg17_1)) (VEv.bool false)) Y Y (mD (tB false) Y Y (VRunD.free Y (VWant.on (b:=false) Y Y Y) Y (OF.fieldAddrO (tv (T.op 0 0) Y) Ze) ?_)))))))))))
  refine VRunD.look Y (VWant.on (b:=false) Y Y Y) Y (OL.loadO1 (t:=(tI x1.Cell)) (tv (T.op 0 0) Y) Y Y Zo) (VRunD.quiet (bi:= [14,12,8,6,4,5,3,7,10,9,11,1,0,2,13,15]) Y (VWant.on (b:=false) Y Y Y) Y Y Y bn (cS (vc (tv (tI x1.Cell) Y) (vc (VEv.int .i64 0) (vc (VEv.int .i64 35) vn))) (ZO Y) (Q4 (n+1) x1.Cell 0 35) Y Y) (VRunD.free Y (VWant.on (b:=false) Y Y Y) Y (QZ (tv (tB (decide (0≤x1.Cell∧x1.Cell≤35))) Y)) (fD (OF.pickF (tv (tB false) Y) (tv (tB (!(decide (0≤x1.Cell∧x1.Cell≤35)))) Y)) Y Y (mD (tB (!(decide (0≤x1.Cell∧x1.Cell≤35)))) Y Y ?_))))
  refine gn (0≤x1.Cell∧x1.Cell≤35) (fun fhg34_7=> ?_) fun fhg34_7=> ?_
  ·refine oD Y Y (ny fhg34_7) Y ?_
   refine oD Y Y (ny fhg34_7) Y (oD Y Y (ny fhg34_7) Y (oD Y Y (ny fhg34_7) Y (fD (OF.pickT (VEv.tmpB Y (ny fhg34_7)) (VEv.bool true)) Y Y (mD (tB true) Y Y (VRunD.off Y (VWant.not (b:=true) Y Y Y) (VRunD.off Y (VWant.not (b:=true) Y Y Y) (VRunD.off Y (VWant.not (b:=true) Y Y Y) (VRunD.off Y (VWant.not (b:=true) Y Y Y) (fD (OF.pickT (tv (tB true) Y) (VEv.bool true)) Y Y (mD (tB true) Y Y (VRunD.off Y (VWant.not (b:=true) Y Y Y) ?_)))))))))))
   refine VRunD.off Y (VWant.not (b:=true) Y Y Y) (VRunD.off Y (VWant.not (b:=true) Y Y Y) (VRunD.off Y (VWant.not (b:=true) Y Y Y) (fD (OF.pickT (tv (tB true) Y) (VEv.bool true)) Y Y (mD (tB true) Y Y (VRunD.off Y (VWant.not (b:=true) Y Y Y) (VRunD.off Y (VWant.not (b:=true) Y Y Y) (VRunD.off Y (VWant.not (b:=true) Y Y Y) (VRunD.off Y (VWant.not (b:=true) Y Y Y) (fD (OF.pickT (tv (tB true) Y) (VEv.bool true)) Y Y (VRunD.nil (tn ?_)))))))))))
   refine ct Y (sr (fO (OF.assign (VEv.bool false)) (nt (rt (vinB.r (tr (tr (vinB.r (tr (vb (b':=false) Y ?_))))))))))
   first | (symm;rw [decide_eq_false_iff_not];rintro ⟨h2,_⟩;omega) | (symm;rw [decide_eq_true_eq];exact ⟨by omega,Q3 hI' fhc1⟩) | (symm;rw [decide_eq_false_iff_not];rintro ⟨_,h2⟩;obtain ⟨y,hy,h3,h4,h5,h6,h7,h8⟩:=h2 i fhc1;obtain rfl:=Qt hx1 hy;first | omega | contradiction | (obtain ⟨z,hz,h9⟩:=h8 (by omega);obtain rfl:=Qt hx2 hz;omega) | (simp_all;done))
  refine VRunD.free Y (VWant.on Y Y (nz fhg34_7)) Y (OF.fieldAddrO (tv (T.op 0 0) Y) ZA) (VRunD.look Y (VWant.on Y Y (nz fhg34_7)) Y (OL.loadO1 (t:=(tS x1.Letter)) (tv (T.op 0 1) Y) Y Y Y7) (VRunD.look Y (VWant.on Y Y (nz fhg34_7)) Y (B.lenS (tv (tS x1.Letter) Y) U9) (VRunD.free Y (VWant.on Y Y (nz fhg34_7)) Y (B.neq (c:=(!(decide (x1.Letter.size=1)))) (tv (tN x1.Letter.size) Y) (VEv.int .i64 1) (by first | exact hw _ (List.mem_of_getElem? hx1) | (exact Qef (by omega)))) (fD (OF.pickF (VEv.tmpB Y (nz fhg34_7)) (tv (tB (!(decide (x1.Letter.size=1)))) Y)) Y Y (mD (tB (!(decide (x1.Letter.size=1)))) Y Y ?_)))))
  refine gn (x1.Letter.size=1) (fun fhg40_8=> ?_) fun fhg40_8=> ?_
  ·refine oD Y Y (ny fhg40_8) Y ?_
   refine oD Y Y (ny fhg40_8) Y (oD Y Y (ny fhg40_8) Y (oD Y Y (ny fhg40_8) Y (fD (OF.pickT (VEv.tmpB Y (ny fhg40_8)) (VEv.bool true)) Y Y (mD (tB true) Y Y (VRunD.off Y (VWant.not (b:=true) Y Y Y) (VRunD.off Y (VWant.not (b:=true) Y Y Y) (VRunD.off Y (VWant.not (b:=true) Y Y Y) (VRunD.off Y (VWant.not (b:=true) Y Y Y) (fD (OF.pickT (tv (tB true) Y) (VEv.bool true)) Y Y (mD (tB true) Y Y (VRunD.off Y (VWant.not (b:=true) Y Y Y) ?_)))))))))))
   refine VRunD.off Y (VWant.not (b:=true) Y Y Y) (VRunD.off Y (VWant.not (b:=true) Y Y Y) (VRunD.off Y (VWant.not (b:=true) Y Y Y) (fD (OF.pickT (tv (tB true) Y) (VEv.bool true)) Y Y (VRunD.nil (tn (ct Y (sr (fO (OF.assign (VEv.bool false)) (nt (rt (vinB.r ?_)))))))))))
   refine tr (tr (vinB.r (tr (vb (b':=false) Y ?_))))
   first | (symm;rw [decide_eq_false_iff_not];rintro ⟨h2,_⟩;omega) | (symm;rw [decide_eq_true_eq];exact ⟨by omega,Q3 hI' fhc1⟩) | (symm;rw [decide_eq_false_iff_not];rintro ⟨_,h2⟩;obtain ⟨y,hy,h3,h4,h5,h6,h7,h8⟩:=h2 i fhc1;obtain rfl:=Qt hx1 hy;first | omega | contradiction | (obtain ⟨z,hz,h9⟩:=h8 (by omega);obtain rfl:=Qt hx2 hz;omega) | (simp_all;done))
  refine VRunD.free Y (VWant.on Y Y (nz fhg40_8)) Y (OF.fieldAddrO (tv (T.op 0 0) Y) ZA) (VRunD.look Y (VWant.on Y Y (nz fhg40_8)) Y (OL.loadO1 (t:=(tS x1.Letter)) (tv (T.op 0 1) Y) Y Y Y7) (VRunD.quiet (bi:= [26,24,22,20,21,23,18,16,14,15,17,12,8,6,4,5,3,7,10,9,11,1,0,2,13,19,25,27]) Y (VWant.on Y Y (nz fhg40_8)) Y Y Y bn (cS (vc (tv (tS x1.Letter) Y) vn) (ZO Y) (Y6 (n+0) x1.Letter (by first | exact hw _ (List.mem_of_getElem? hx1) | assumption | omega)) Y Y) (VRunD.free Y (VWant.on Y Y (nz fhg40_8)) Y (QZ (tv (tB (decide (ZQ x1.Letter))) Y)) (fD (OF.pickF (VEv.tmpB Y (nz fhg40_8)) (tv (tB (!(decide (ZQ x1.Letter)))) Y)) Y Y (mD (tB (!(decide (ZQ x1.Letter)))) Y Y ?_)))))
  refine gn (ZQ x1.Letter) (fun fhg46_9=> ?_) fun fhg46_9=> ?_
  ·refine oD Y Y (ny fhg46_9) Y ?_
   refine oD Y Y (ny fhg46_9) Y (oD Y Y (ny fhg46_9) Y (oD Y Y (ny fhg46_9) Y (fD (OF.pickT (VEv.tmpB Y (ny fhg46_9)) (VEv.bool true)) Y Y (mD (tB true) Y Y (VRunD.off Y (VWant.not (b:=true) Y Y Y) (VRunD.off Y (VWant.not (b:=true) Y Y Y) (VRunD.off Y (VWant.not (b:=true) Y Y Y) (VRunD.off Y (VWant.not (b:=true) Y Y Y) (fD (OF.pickT (tv (tB true) Y) (VEv.bool true)) Y Y (VRunD.nil (tn ?_)))))))))))
   refine ct Y (sr (fO (OF.assign (VEv.bool false)) (nt (rt (vinB.r (tr (tr (vinB.r (tr (vb (b':=false) Y ?_))))))))))
   first | (symm;rw [decide_eq_false_iff_not];rintro ⟨h2,_⟩;omega) | (symm;rw [decide_eq_true_eq];exact ⟨by omega,Q3 hI' fhc1⟩) | (symm;rw [decide_eq_false_iff_not];rintro ⟨_,h2⟩;obtain ⟨y,hy,h3,h4,h5,h6,h7,h8⟩:=h2 i fhc1;obtain rfl:=Qt hx1 hy;first | omega | contradiction | (obtain ⟨z,hz,h9⟩:=h8 (by omega);obtain rfl:=Qt hx2 hz;omega) | (simp_all;done))
  refine VRunD.free Y (VWant.on Y Y (nz fhg46_9)) Y (OF.fieldAddrO (tv (T.op 0 0) Y) ZG) (VRunD.look Y (VWant.on Y Y (nz fhg46_9)) Y (OL.loadO1 (t:=(tI x1.Tick)) (tv (T.op 0 2) Y) Y Y Zo) (VRunD.quiet (bi:= [32,30,28,26,27,29,24,22,20,21,23,18,16,14,15,17,12,8,6,4,5,3,7,10,9,11,1,0,2,13,19,25,31,33]) Y (VWant.on Y Y (nz fhg46_9)) Y Y Y bn (cS (vc (tv (tI x1.Tick) Y) (vc (VEv.int .i64 0) (vc (VEv.int .i64 1000) vn))) (ZO Y) (Q4 (n+1) x1.Tick 0 1000) Y Y) (VRunD.free Y (VWant.on Y Y (nz fhg46_9)) Y (QZ (tv (tB (decide (0≤x1.Tick∧x1.Tick≤1000))) Y)) (fD (OF.pickF (VEv.tmpB Y (nz fhg46_9)) (tv (tB (!(decide (0≤x1.Tick∧x1.Tick≤1000)))) Y)) Y Y (mD (tB (!(decide (0≤x1.Tick∧x1.Tick≤1000)))) Y Y ?_)))))
  refine gn (0≤x1.Tick∧x1.Tick≤1000) (fun fhg52_10=> ?_) fun fhg52_10=> ?_
  ·refine oD Y Y (ny fhg52_10) Y ?_
   refine oD Y Y (ny fhg52_10) Y (oD Y Y (ny fhg52_10) Y (oD Y Y (ny fhg52_10) Y (fD (OF.pickT (VEv.tmpB Y (ny fhg52_10)) (VEv.bool true)) Y Y (VRunD.nil (tn (ct Y (sr (fO (OF.assign (VEv.bool false)) (nt (rt (vinB.r ?_)))))))))))
   refine tr (tr (vinB.r (tr (vb (b':=false) Y ?_))))
   first | (symm;rw [decide_eq_false_iff_not];rintro ⟨h2,_⟩;omega) | (symm;rw [decide_eq_true_eq];exact ⟨by omega,Q3 hI' fhc1⟩) | (symm;rw [decide_eq_false_iff_not];rintro ⟨_,h2⟩;obtain ⟨y,hy,h3,h4,h5,h6,h7,h8⟩:=h2 i fhc1;obtain rfl:=Qt hx1 hy;first | omega | contradiction | (obtain ⟨z,hz,h9⟩:=h8 (by omega);obtain rfl:=Qt hx2 hz;omega) | (simp_all;done))
  refine VRunD.free Y (VWant.on Y Y (nz fhg52_10)) Y (OF.fieldAddrO (tv (T.op 0 0) Y) ZD) (VRunD.look Y (VWant.on Y Y (nz fhg52_10)) Y (OL.loadO1 (t:=(tI x1.Who)) (tv (T.op 0 3) Y) Y Y Zo) (VRunD.quiet (bi:= [38,36,34,32,33,35,30,28,26,27,29,24,22,20,21,23,18,16,14,15,17,12,8,6,4,5,3,7,10,9,11,1,0,2,13,19,25,31,37,39]) Y (VWant.on Y Y (nz fhg52_10)) Y Y Y bn (cS (vc (tv (tI x1.Who) Y) (vc (VEv.int .i64 1) (vc (VEv.int .i64 9) vn))) (ZO Y) (Q4 (n+1) x1.Who 1 9) Y Y) (VRunD.free Y (VWant.on Y Y (nz fhg52_10)) Y (QZ (tv (tB (decide (1≤x1.Who∧x1.Who≤9))) Y)) (fD (OF.pickF (VEv.tmpB Y (nz fhg52_10)) (tv (tB (!(decide (1≤x1.Who∧x1.Who≤9)))) Y)) Y Y (VRunD.nil (tn ?_))))))
  refine cn (1≤x1.Who∧x1.Who≤9) Y (fun fhc2=> ?_) fun fhc2=> ?_
  ·refine sr ?_
   refine fO (OF.assign (VEv.bool false)) (nt (rt (vinB.r (tr (tr (vinB.r (tr (vb (b':=false) Y ?_))))))))
   first | (symm;rw [decide_eq_false_iff_not];rintro ⟨h2,_⟩;omega) | (symm;rw [decide_eq_true_eq];exact ⟨by omega,Q3 hI' fhc1⟩) | (symm;rw [decide_eq_false_iff_not];rintro ⟨_,h2⟩;obtain ⟨y,hy,h3,h4,h5,h6,h7,h8⟩:=h2 i fhc1;obtain rfl:=Qt hx1 hy;first | omega | contradiction | (obtain ⟨z,hz,h9⟩:=h8 (by omega);obtain rfl:=Qt hx2 hz;omega) | (simp_all;done))
  refine sk (vinB.n (tn (VRun.region (fO (ZB (tv (tN i) Y) (VEv.int .i64 1) (by first | exact hw _ (List.mem_of_getElem? hx1) | omega)) (mO (tN (i+1)) Y (VRunO.nil (tn ?_)))))))
  refine ⟨(i+1:Nat),?_,?_,Wk.mk (fun k=>k) ?_ ?_ ?_⟩
  ·refine Zt hI0 fhc1 ⟨x1,hx1,by omega,by omega,by assumption,by omega,by omega,fun h0=> ?_⟩
   first | (exact absurd h0 (by omega)) | (exact ⟨x2,hx2,by omega⟩)
  ·first | omega | (simp only [];omega) | (show _<_;omega) | (simp;omega)
  ·exact (b2 (b2 (b2 (b2 bn))))
  ·exact bn
  ·exact nd Y
 refine VRun.exit (vthn.e (vthn.e (vinB.e (tn (sr (fO (OF.assign (VEv.bool true)) (nt (rt (vb (b':=true) Y ?_)))))))))
 first | (symm;rw [decide_eq_false_iff_not];rintro ⟨h2,_⟩;omega) | (symm;rw [decide_eq_true_eq];exact ⟨by omega,Q3 hI' fhc1⟩) | (symm;rw [decide_eq_false_iff_not];rintro ⟨_,h2⟩;obtain ⟨y,hy,h3,h4,h5,h6,h7,h8⟩:=h2 i fhc1;obtain rfl:=Qt hx1 hy;first | omega | contradiction | (obtain ⟨z,hz,h9⟩:=h8 (by omega);obtain rfl:=Qt hx2 hz;omega) | (simp_all;done))
noncomputable section
def Qck (g:D.Grid) (c:Int):Prop:=Qu g∧(0≤c∧c≤((g.Cells.size:Nat):Int) - 1)∧QT g.Cells (Int.toNat c)=46
instance (g:D.Grid) (c:Int):Decidable (Qck g c):=Classical.propDecidable _
def J5 (g:D.Grid) (l:List D.Note):Nat→ByteArray
 | 0=>QaZ g
 | i+1=>match l[i]? with | some c=>if Qck g c.Cell then wrS (J5 g l i) c.Letter [c.Cell] 1 else J5 g l i | none=>J5 g l i
theorem Js {g:D.Grid} {l:List D.Note} {i:Nat} {c:D.Note} (h:l[i]? =some c) (hw:Qck g c.Cell):J5 g l (i+1)=wrS (J5 g l i) c.Letter [c.Cell] 1:=by rw [J5,h];simp only;rw [if_pos hw]
theorem QcM {g:D.Grid} {l:List D.Note} {i:Nat} {c:D.Note} (h:l[i]? =some c) (hw:¬Qck g c.Cell):J5 g l (i+1)=J5 g l i:=by rw [J5,h];simp only;rw [if_neg hw]
theorem JR (g:D.Grid) (l:List D.Note):∀i,(J5 g l i).size=(QaZ g).size
 | 0=>rfl
 | i+1=>by
  have ih:=JR g l i
  unfold J5
  split
  ·split
   ·rw [Qfu,ih]
   ·exact ih
  ·exact ih
theorem Qen {g:D.Grid} (l:List D.Note) (hg:¬Qu g):∀i,J5 g l i=⟨#[]⟩
 | 0=>if_neg hg
 | i+1=>by
  have ih:=Qen l hg i
  unfold J5
  split
  ·rw [if_neg (fun h=>hg h.1)];exact ih
  ·exact ih
theorem QaX {g:D.Grid} (h:Qu g):(QaZ g).size=g.Cells.size:=by rw [QaZ,if_pos h,J3]
def Zx (g:D.Grid) (l:List D.Note):ByteArray:=if Qb l then J5 g l l.length else ⟨#[]⟩
theorem Qbx (g:D.Grid) (l:List D.Note):(Zx g l).size≤g.Cells.size:=by
 unfold Zx
 split
 ·rw [JR];exact Qco g
 ·exact Nat.zero_le _
theorem Qfp {l:List D.Note} {i:Nat} {x:D.Note} (h:Qb l) (hi:i<l.length) (hx:l[i]? =some x):x.Letter.size=1:=by
 obtain ⟨y,hy,_,h2,_⟩:=h.2 i hi
 rw [hx] at hy
 obtain rfl:=Option.some.inj hy
 exact h2
end
theorem Jc (n:Nat) (g:D.Grid) (l:List D.Note) (hc0:QS g≤mx) (hz:zL Qo l≤mx):Pure (QA Tryd.prog (n+4)) 25 [(T.agg (Ql false g)),(rd 4 Qa l)] (tS (Zx g l)):=by
 refine Pure.intro (rs:= [ResultVar.tmp 4]) Tryd.func25 Y Y Y (E0:= [(0,(T.agg (Ql false g))),(1,(rd 4 Qa l))]) Y ?_
 obtain ⟨hlim,hmx,hmax⟩:=Zk
 have hc:=hc0
 simp only [QS] at hc
 have hl:=ZV (z:=Qo) l
 have hes:=Qco g
 refine sr (kO (B.box (ts:=(Ql false g)) (tv (T.agg (Ql false g)) Y) nofun Y) (fO (OF.assign (VEv.str (⟨#[]⟩:ByteArray))) (nt (sq (sr (lO (OL.loadOn (us:=(Ql false g)) (tv (T.op 0 0) Y) Y ZF Q9 (lb Y) Y) (cO (cS (vc (tv (T.agg (Ql false g)) Y) vn) (LendL.cons (lg ZI) ln) (Zz (n+1) g (by first | (rw [hlt];rfl) | exact hlt.symm | (intro d hd;obtain rfl:=List.mem_singleton.1 hd;omega) | assumption | omega)) Y Y) (fO (QZ (tv (tB (decide (Qu g))) Y)) (mO (tB (!(decide (Qu g)))) Y ?_)))))))))
 refine VRunO.joinB 4 [12,13,14] 15 (tB (decide ((¬(Qu g))∨(¬(Qb l))))) ?_ ?_
 ·refine gn (Qu g) (fun fhg11_1=> ?_) fun fhg11_1=> ?_
  ·refine Q2 3 3 false 11 (ny fhg11_1) Y Y Y ?_
   refine fO (OF.pickT (VEv.tmpB Y (ny fhg11_1)) (VEv.bool true)) (VRunO.nil ?_)
   exact jq (congrArg T.bool (kOT fhg11_1)) (js Y (js Y (js Y (jn))))
  ·refine gF (nz fhg11_1) Y Y (OF.move (tv (rd 4 Qa l) Y)) ?_
   refine VRunO.chain (VWant.on Y Y (nz fhg11_1)) (cS (vc (tv (rd 4 Qa l) Y) vn) (ZO Y) (Qn (n+0) l (by first | (rw [hlt];rfl) | exact hlt.symm | (intro d hd;obtain rfl:=List.mem_singleton.1 hd;omega) | assumption | omega)) Y Y) (gF (nz fhg11_1) Y Y (QZ (tv (tB (decide (Qb l))) Y)) (fO (OF.pickF (VEv.tmpB Y (nz fhg11_1)) (tv (tB (!(decide (Qb l)))) Y)) (VRunO.nil ?_)))
   exact jq (congrArg T.bool (kOF (not_not_intro fhg11_1) dN)) (js Y (js Y (js Y (jn))))
 refine nt ?_
 refine cd ((¬(Qu g))∨(¬(Qb l))) Y (fun fhc0=> ?_) fun fhc0=> ?_
 ·refine sr ?_
  refine fO (OF.assign (VEv.str (⟨#[]⟩:ByteArray))) (nt (rt (tr ?_)))
  refine vfin.eq (r':=(tS (⟨#[]⟩:ByteArray))) ?_ (vfin.r (VRes.tmp (t:=(tS (⟨#[]⟩:ByteArray))) Y VRes.nil) (Give.str _))
  refine congrArg T.str ?_
  unfold Zx;split<;>rename_i ha;exact (Qen l (fun hg=>by rcases fhc0 with h | h<;>contradiction) _).symm;rfl
 have hga:Qu g∧Qb l:=(by simp only [not_or,Classical.not_not] at fhc0;exact fhc0)
 refine sk (tn (sr (lO (OL.loadOn (us:=(Ql false g)) (tv (T.op 0 0) Y) Y ZF Q9 (lb Y) Y) (cO (cS (vc (tv (T.agg (Ql false g)) Y) vn) (LendL.cons (lg ZI) ln) (QaI (n+0) g (by first | (rw [hlt];rfl) | exact hlt.symm | (intro d hd;obtain rfl:=List.mem_singleton.1 hd;omega) | assumption | omega)) Y Y) (aO (tS (QaZ g)) Y (nt (sq (sr (mO (rd 4 Qa l) Y (lO (B.lenR (m:=l.length) (tv (rd 4 Qa l) Y) QJ (List.length_map ..)) (fO (OF.move (VEv.int .i64 0)) ?_)))))))))))
 refine nt (VRun.block ?_)
 refine VRun.loop (A:=Nat) (fun s_=> [(2,(T.op 0 0)),(4,(tS (⟨#[]⟩:ByteArray))),(5,(tS (J5 g l s_))),(18,(rd 4 Qa l)),(19,(tN l.length)),(20,(tN s_))]) (fun s_=>Jw [(0,(Obj.cells (Ql false g)))]) 1 (fun s_=>s_≤l.length) (fun s_=>l.length - s_) (0:Nat) ?_ (Wk.mk (fun k=>k) ?_ ?_ ?_) ?_
 ·first | trivial | (simp;done) | omega | (constructor<;>simp)
 ·exact (b2 (b2 (bc ⟨(congrArg T.str (show QaZ g=J5 g l 0 from (by first | rfl | assumption | rfl | (rw [Js hx1 hwh];done) | (rw [Js hx1 hwh];rfl) | (rw [QcM hx1 fhc2];done) | (simp_all;done)))),rfl⟩ (b2 (b2 (b2 bn))))))
 ·exact (b3 bn)
 ·exact nd Y
 rintro i (hI':i≤l.length)
 show VRun _ _ _ [(2,(T.op 0 0)),(4,(tS (⟨#[]⟩:ByteArray))),(5,(tS (J5 g l i))),(18,(rd 4 Qa l)),(19,(tN l.length)),(20,(tN i))] (Jw [(0,(Obj.cells (Ql false g)))]) 1 _
 have hI1:=hI'
 have hns:=JR g l i
 refine sr (fO (Jx (tv (tN i) Y) (tv (tN l.length) Y)) (nt (sq ?_)))
 refine cd (i<l.length) Y (fun fhc1=> ?_) fun fhc1=> ?_
 ·refine sk ?_
  refine tn (sq (VRun.block (sr ?_)))
  obtain ⟨x1,hx1⟩:∃x,l[i]? =some x:=⟨_,List.getElem?_eq_getElem (by first | (rw [hlt];rfl) | exact hlt.symm | (intro d hd;obtain rfl:=List.mem_singleton.1 hd;omega) | omega)⟩
  refine fO (OF.indexAddrR (row:=(Qa false x1)) (i:=i) (tv (rd 4 Qa l) Y) (tv (tN i) Y) Y (QR _ hx1) QJ Qh Q7) (lO (OL.loadRn (us:=(Qa false x1)) (tv (T.rp (Qa false x1)) Y) Q6 Qh (lb Y) Y) (kO (B.alloc (t:=(T.agg [(tN 0),(tS ByteArray.empty),(tN 0),(tN 0)])) (ts:= [(tN 0),(tS ByteArray.empty),(tN 0),(tN 0)]) QL Qbm nofun (fun _=> .agg _ _ Y (Z8 (RL.cons (.int _ _) (RL.cons (.str _) (RL.cons (.int _ _) (RL.cons (.int _ _) (RL.nil _))))))) Y) (cO (B.storeW (us:=(Qa false x1)) (tv (T.op 1 0) Y) (tv (T.agg (Qa false x1)) Y) nofun Y Y Y Q7 Qh (bc Y (bc Y (bc Y (bc Y bn))))) (nt (sr (lO (OL.loadOn (us:=(Ql false g)) (tv (T.op 0 0) Y) Y ZF Q9 (lb Y) Y) (lf (tI x1.Cell) Y Ze Y Y Zo (cO (cS (vc (tv (T.agg (Ql false g)) Y) (vc (tv (tI x1.Cell) Y) vn)) (LendL.cons (lg ZI) (lp Y ln)) (QbF (n+0) g x1.Cell (by first | (rw [hlt];rfl) | exact hlt.symm | (intro d hd;obtain rfl:=List.mem_singleton.1 hd;omega) | assumption | omega)) Y Y) (nt ?_)))))))))
  refine cd (Qu g∧(0≤x1.Cell∧x1.Cell≤((g.Cells.size:Nat):Int) - 1)∧QT g.Cells (Int.toNat x1.Cell)=46) Y (fun fhc2=> ?_) fun fhc2=> ?_
  ·have hwh:Qck g x1.Cell:=fhc2
   have hfu:=QaX hwh.1
   have hcb:=hwh.2.1
   have hlt:=Qfp hga.2 fhc1 hx1
   refine VRun.region (mO (tS (J5 g l i)) Y (lf (tI x1.Cell) Y Ze Y Y Zo (kO (OM.buildSlice (l:= [(tI x1.Cell)]) (VEvp.cons (tv (tI x1.Cell) Y) VEvp.nil) Y (by decide) (bc (nofun) bn) (bc ((bc (Y) bn)) bn) (bc (Y) bn) U68 zo3 (by kernel_rfl) Y (by rw [sz3];decide) sz3 (Nat.le_of_ble_eq_true Y)) (lf (tS x1.Letter) Y ZA Y Y Y7 (cO (cS (us:= [(tS (J5 g l i)),(T.sl false 1 [[(tI x1.Cell)]]),(tS x1.Letter)]) (vc (tv (tS (J5 g l i)) Y) (vc (tv (T.os 1 2 0 1) Y) (vc (tv (tS x1.Letter) Y) vn))) (lp Y (LendL.cons (Lend.os Y Y Y) (lp Y ln))) (QaE (n+2) (J5 g l i) [x1.Cell] x1.Letter (by first | (rw [hlt];rfl) | exact hlt.symm | (intro d hd;obtain rfl:=List.mem_singleton.1 hd;omega) | assumption | omega) (by first | (rw [hlt];rfl) | exact hlt.symm | (intro d hd;obtain rfl:=List.mem_singleton.1 hd;omega) | assumption | omega) (by first | (rw [hlt];rfl) | exact hlt.symm | (intro d hd;obtain rfl:=List.mem_singleton.1 hd;omega) | assumption | omega) (by first | (rw [hlt];rfl) | exact hlt.symm | (intro d hd;obtain rfl:=List.mem_singleton.1 hd;omega) | assumption | omega)) Y Y) (aO (tS (wrS (J5 g l i) x1.Letter [x1.Cell] [x1.Cell].length)) Y (VRunO.nil (vinB.n (tn (VRun.region (fO (ZB (tv (tN i) Y) (VEv.int .i64 1) (by first | (rw [hlt];rfl) | exact hlt.symm | (intro d hd;obtain rfl:=List.mem_singleton.1 hd;omega) | omega)) ?_)))))))))))
   refine mO (tN (i+1)) Y (VRunO.nil (tn ?_))
   refine ⟨(i+1:Nat),?_,?_,Wk.mk (fun k=>k) ?_ ?_ ?_⟩
   ·first | trivial | omega | (simp;done) | exact ⟨by omega,hI'.2⟩
   ·first | omega | (simp only [];omega) | (show _<_;omega) | (simp;omega)
   ·exact (b2 (b2 (bc ⟨(congrArg T.str (show wrS (J5 g l i) x1.Letter [x1.Cell] [x1.Cell].length=J5 g l (i+1) from (by first | rfl | assumption | rfl | (rw [Js hx1 hwh];done) | (rw [Js hx1 hwh];rfl) | (rw [QcM hx1 fhc2];done) | (simp_all;done)))),rfl⟩ (b2 (b2 (b2 bn))))))
   ·exact (b3 bn)
   ·exact nd Y
  refine sk (vinB.n (tn (VRun.region (fO (ZB (tv (tN i) Y) (VEv.int .i64 1) (by first | (rw [hlt];rfl) | exact hlt.symm | (intro d hd;obtain rfl:=List.mem_singleton.1 hd;omega) | omega)) (mO (tN (i+1)) Y (VRunO.nil (tn ?_)))))))
  refine ⟨(i+1:Nat),?_,?_,Wk.mk (fun k=>k) ?_ ?_ ?_⟩
  ·first | trivial | omega | (simp;done) | exact ⟨by omega,hI'.2⟩
  ·first | omega | (simp only [];omega) | (show _<_;omega) | (simp;omega)
  ·exact (b2 (b2 (bc ⟨(congrArg T.str (show J5 g l i=J5 g l (i+1) from (by first | rfl | assumption | rfl | (rw [Js hx1 hwh];done) | (rw [Js hx1 hwh];rfl) | (rw [QcM hx1 fhc2];done) | (simp_all;done)))),rfl⟩ (b2 (b2 (b2 bn))))))
  ·exact (b3 bn)
  ·exact nd Y
 refine VRun.exit (vthn.e (vthn.e (vinB.e (tn (sr (mO (tS (J5 g l i)) Y (aO (tS (J5 g l i)) Y (nt (rt ?_)))))))))
 refine vfin.eq (r':=(tS (J5 g l i))) ?_ (vfin.r (VRes.tmp (t:=(tS (J5 g l i))) Y VRes.nil) (Give.str _))
 refine congrArg T.str ?_
 rw [Zx,if_pos hga.2];congr 1;omega
end Go.Proofs.YtcglnehpapgfpaaDoor.AE
