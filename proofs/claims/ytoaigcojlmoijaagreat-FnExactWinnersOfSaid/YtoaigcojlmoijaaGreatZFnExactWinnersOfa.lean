/- A part of what the row of FnExactWinnersOf uses. Conditions: as each theorem states. -/
import Derived.Orders
import Derived.Laws.Sem
import Derived.Laws.Cells
import Derived.Laws.IdiomCopy
import Derived.Laws.Entries
import Derived.Below
import Derived.Deep.AppendSrc
import Derived.Laws.StructEq
import Derived.Laws.BytesString
import Derived.Lib.ConvBytes
import Derived.Sort.Grow
import Derived.Lib.SlicesCompact
import Derived.LoopN
import Derived.Scope
import Derived.Deep.Slices
import Derived.ChangeArms
import Derived.ChangeSame
import Derived.IntWalk
namespace Go.Proofs.YtoaigcojlmoijaaGreat.AE
theorem Y.{u} {α:Sort u} {a:α}:a=a:=rfl
open Go Go.RowKit
set_option linter.unusedVariables false
set_option linter.unusedSimpArgs false
def child (p k:Nat):Nat:=2*((p+k)*(p+k)+k)+1
theorem YL (p k:Nat):child p k % 2=1:=by unfold child;omega
theorem Ju {p k q j:Nat} (h:child p k=child q j):p=q∧k=j:=by
 unfold child at h
 have h1:(p+k)*(p+k)+k=(q+j)*(q+j)+j:=by omega
 have key:∀a b x y:Nat,x≤a→a<b→a*a+x<b*b+y:=by
  intro a b x y hx hab
  have h2:(a+1)*(a+1)≤b*b:=Nat.mul_le_mul hab hab
  have h3:(a+1)*(a+1)=a*a+2*a+1:=by rw [Nat.add_mul,Nat.mul_add];omega
  omega
 have hs:p+k=q+j:=by
  rcases Nat.lt_trichotomy (p+k) (q+j) with hlt | he | hlt
  ·have:=key (p+k) (q+j) k j (by omega) hlt
   omega
  ·exact he
  ·have:=key (q+j) (p+k) j k (by omega) hlt
   omega
 rw [hs] at h1
 omega
theorem Qfg (p k:Nat):p<child p k:=by
 unfold child
 have h1:p+k≤(p+k)*(p+k):=Nat.le_mul_self _
 omega
inductive Under (p:Nat):Nat→Prop
 | refl:Under p p
 | step {t:Nat} (k:Nat) (h:Under p t):Under p (child t k)
theorem Under.le {p t:Nat} (h:Under p t):p≤t:=by
 induction h with
 | refl=>exact Nat.le_refl _
 | step k _ ih=>exact Nat.le_of_lt (Nat.lt_of_le_of_lt ih (Qfg _ _))
theorem Under.odd {p t:Nat} (h:Under p t) (hp:p % 2=1):t % 2=1:=by
 cases h with
 | refl=>exact hp
 | step k _=>exact YL _ _
theorem Under.trans {p q t:Nat} (h:Under p q) (h2:Under q t):Under p t:=by
 induction h2 with
 | refl=>exact h
 | step k _ ih=>exact .step k ih
theorem Under.apart {p k j t:Nat} (h:Under (AE.child p k) t) (h2:Under (AE.child p j) t):k=j:=by
 induction h with
 | refl =>
  generalize he:AE.child p k=x at h2
  cases h2 with
  | refl=>exact (Ju he).2
  | @step s i hs =>
   obtain ⟨rfl,_⟩:=Ju he
   have:=hs.le
   have:=Qfg p j
   omega
 | @step s i hs ih =>
  generalize he:AE.child s i=x at h2
  cases h2 with
  | refl =>
   obtain ⟨rfl,_⟩:=Ju he
   have:=hs.le
   have:=Qfg s k
   omega
  | @step s' i' hs' =>
   obtain ⟨rfl,_⟩:=Ju he
   exact ih hs'
inductive Yn
 | cells (es:Nat) (cs:List Value)
 | map (es:List (Value×Value))
abbrev AH := Nat→Option Yn
def AH.upd (h:AH) (t:Nat) (o:Option Yn):AH:=fun u=>if u=t then o else h u
structure Slot where
 b:Nat
 base:Nat
 sz:Nat
 es:Nat
abbrev Zv := Nat→Option Slot
inductive VR (ρ:Zv):Value→Value→Prop
 | bool (b:Bool):VR ρ (.bool b) (.bool b)
 | int (k:IntKind) (n:Int):VR ρ (.int k n) (.int k n)
 | str (s:ByteArray):VR ρ (.string s) (.string s)
 | ptr0:VR ρ (.pointer none) (.pointer none)
 | ptr {t:Nat} {s:Slot} (o:Nat) (h:ρ t=some s):VR ρ (.pointer (some ⟨t,o,none⟩)) (.pointer (some ⟨s.b,s.base+o,none⟩))
 | sl0:VR ρ (.slice none 0 0) (.slice none 0 0)
 | sl {t:Nat} {s:Slot} (o n m c:Nat) (h:ρ t=some s) (hn:n≤c) (hf:s.es=0∨s.base+o+c*s.es≤s.sz) (hm:m=0→c=0) :
   VR ρ (.slice (some ⟨t,o,none⟩) n m) (.slice (some ⟨s.b,s.base+o,none⟩) n c)
 | sle {t:Nat} {s:Slot} (o o' m c:Nat) (sp:Option Nat) (h:ρ t=some s) (hf:s.es=0∨o'+c*s.es≤s.sz) (hm:m=0→c=0) (hsp:sp=none∨c=0) :
   VR ρ (.slice (some ⟨t,o,none⟩) 0 m) (.slice (some ⟨s.b,o',sp⟩) 0 c)
 | map0:VR ρ (.map none) (.map none)
 | map {t:Nat} {s:Slot} (h:ρ t=some s):VR ρ (.map (some t)) (.map (some s.b))
 | fn (f:FuncId) (cs cs':Array Value) (hs:cs.size=cs'.size) (h:∀i,i<cs.size→VR ρ (cs.getD i undef) (cs'.getD i undef)):VR ρ (.func (.func f) #[] cs) (.func (.func f) #[] cs')
 | fn0:VR ρ .nilFunc .nilFunc
 | agg (cs cs':Array Value) (hs:cs.size=cs'.size) (h:∀i,i<cs.size→VR ρ (cs.getD i undef) (cs'.getD i undef)):VR ρ (.agg cs) (.agg cs')
 | tuple (cs cs':Array Value) (hs:cs.size=cs'.size) (h:∀i,i<cs.size→VR ρ (cs.getD i undef) (cs'.getD i undef)):VR ρ (.tuple cs) (.tuple cs')
def Ext (p:Nat) (ρ ρ':Zv):Prop:=(∀t s,ρ t=some s→ρ' t=some s)∧∀t,ρ' t≠none→ρ t≠none∨Under p t
theorem Ext.refl (p:Nat) (ρ:Zv):Ext p ρ ρ:=⟨fun _ _ h=>h,fun _ h=> .inl h⟩
theorem Ext.trans {p:Nat} {ρ ρ1 ρ2:Zv} (h:Ext p ρ ρ1) (h2:Ext p ρ1 ρ2):Ext p ρ ρ2 :=
 ⟨fun t s e=>h2.1 t s (h.1 t s e),fun t e=>(h2.2 t e).elim (h.2 t) .inr⟩
theorem Ext.wide {p q:Nat} {ρ ρ':Zv} (h:Ext p ρ ρ') (hq:∀t,Under p t→Under q t):Ext q ρ ρ':=⟨h.1,fun t e=>(h.2 t e).imp id (hq t)⟩
theorem VR.mono {ρ ρ':Zv} (hρ:∀t s,ρ t=some s→ρ' t=some s) {v v':Value} (h:VR ρ v v'):VR ρ' v v':=by
 induction h with
 | bool b=>exact .bool b
 | int k n=>exact .int k n
 | str s=>exact .str s
 | ptr0=>exact .ptr0
 | ptr o h=>exact .ptr o (hρ _ _ h)
 | sl0=>exact .sl0
 | sl o n m c h hn hf hm=>exact .sl o n m c (hρ _ _ h) hn hf hm
 | sle o o' m c sp h hf hm hsp=>exact .sle o o' m c sp (hρ _ _ h) hf hm hsp
 | map0=>exact .map0
 | map h=>exact .map (hρ _ _ h)
 | fn f cs cs' hs _ ih=>exact .fn f cs cs' hs ih
 | fn0=>exact .fn0
 | agg cs cs' hs _ ih=>exact .agg cs cs' hs ih
 | tuple cs cs' hs _ ih=>exact .tuple cs cs' hs ih
theorem VR.undef (ρ:Zv):VR ρ undef undef:= .tuple #[] #[] rfl (fun i h=>by simp at h)
theorem VR.oneCell {ρ:Zv} {v v':Value} (h:VR ρ v v'):v'.oneCell'=v.oneCell':=by cases h<;>rfl
def LR (ρ:Zv) (cs:List Value) (cs':List Value):Prop:=cs.length=cs'.length∧∀i,i<cs.length→VR ρ (cs.getD i undef) (cs'.getD i undef)
theorem LR.nil (ρ:Zv):LR ρ [] []:=⟨rfl,fun i h=>by simp at h⟩
theorem LR.cons {ρ:Zv} {v v':Value} {cs cs':List Value} (h:VR ρ v v') (h2:LR ρ cs cs'):LR ρ (v::cs) (v'::cs') :=
 ⟨by simp [h2.1],fun i hi=>by
  cases i with
  | zero=>simpa using h
  | succ i=>simpa using h2.2 i (by simpa using hi)⟩
theorem LR.tail {ρ:Zv} {v v':Value} {cs cs':List Value} (h:LR ρ (v::cs) (v'::cs')):VR ρ v v'∧LR ρ cs cs' :=
 ⟨by simpa using h.2 0 (by simp),by simpa using h.1,fun i hi=>by simpa using h.2 (i+1) (by simpa using hi)⟩
theorem LR.append {ρ:Zv} {a a' b b':List Value} (h:LR ρ a a') (h2:LR ρ b b'):LR ρ (a++b) (a'++b'):=by
 refine ⟨by simp [h.1,h2.1],fun i hi=> ?_⟩
 rw [List.length_append] at hi
 rcases Nat.lt_or_ge i a.length with hl | hl
 ·have:=h.2 i hl
  simpa [List.getD_eq_getElem?_getD,List.getElem?_append_left hl,List.getElem?_append_left (h.1▸hl)] using this
 ·have:=h2.2 (i - a.length) (by omega)
  rw [List.getD_eq_getElem?_getD,List.getD_eq_getElem?_getD,List.getElem?_append_right hl,List.getElem?_append_right (h.1▸hl),← h.1]
  simpa [List.getD_eq_getElem?_getD] using this
theorem VR.cells {ρ:Zv} {v v':Value} (h:VR ρ v v'):LR ρ v.cells.toList v'.cells.toList:=by
 cases h with
 | agg cs cs' hs h=>exact ⟨by simpa [Value.cells] using hs,fun i hi=>by simpa [Value.cells,List.getD_eq_getElem?_getD] using h i (by simpa [Value.cells] using hi)⟩
 | tuple cs cs' hs h=>exact LR.cons (.tuple cs cs' hs h) (LR.nil ρ)
 | bool b=>exact LR.cons (.bool b) (LR.nil ρ)
 | int k n=>exact LR.cons (.int k n) (LR.nil ρ)
 | str s=>exact LR.cons (.str s) (LR.nil ρ)
 | ptr0=>exact LR.cons .ptr0 (LR.nil ρ)
 | ptr o h=>exact LR.cons (.ptr o h) (LR.nil ρ)
 | sl0=>exact LR.cons .sl0 (LR.nil ρ)
 | sl o n m c h hn hf hm=>exact LR.cons (.sl o n m c h hn hf hm) (LR.nil ρ)
 | sle o o' m c sp h hf hm hsp=>exact LR.cons (.sle o o' m c sp h hf hm hsp) (LR.nil ρ)
 | map0=>exact LR.cons .map0 (LR.nil ρ)
 | map h=>exact LR.cons (.map h) (LR.nil ρ)
 | fn f cs cs' hs h=>exact LR.cons (.fn f cs cs' hs h) (LR.nil ρ)
 | fn0=>exact LR.cons .fn0 (LR.nil ρ)
theorem VR.of_cells {ρ:Zv} {cs cs':List Value} (h:LR ρ cs cs'):VR ρ (.agg cs.toArray) (.agg cs'.toArray) :=
 .agg _ _ (by simpa using h.1) (fun i hi=>by simpa [List.getD_eq_getElem?_getD] using h.2 i (by simpa using hi))
def TokRel (b0:Nat) (ρ:Zv) (W:World) (t:Nat):Yn→Prop
 | .cells es cs=>∃s,ρ t=some s∧s.es=es∧∃arr ty fr,W.heap[s.b]? =some (.cells arr ty fr)∧s.base+cs.length≤arr.size ∧
   (∀i,i<cs.length→VR ρ (cs.getD i undef) (arr.getD (s.base+i) undef))∧(t % 2=1→b0≤s.b∧s.sz≤arr.size∧∀off,off<arr.size∨(es≠1∧off=arr.size)→W.frozen? ⟨s.b,off,none⟩=false)∧(t % 2=0→s.b<b0)
 | .map es=>∃s,ρ t=some s∧∃arr clock,W.heap[s.b]? =some (.map arr clock)∧arr.size=es.length ∧
   (∀i,i<es.length→VR ρ (es.getD i (undef,undef)).1 (arr.getD i default).key∧VR ρ (es.getD i (undef,undef)).2 (arr.getD i default).val)∧(t % 2=1∧b0≤s.b)
def Qow : List Nat:= []
def GlobOk (b0:Nat) (W:World):Prop:=∀g∈Qow,g<b0∧∃m,W.cell? ⟨g,0,none⟩=some (.int .i64 m)
theorem GlobOk.keep {b0:Nat} {W W':World} (h:GlobOk b0 W) (hb:∀b,b<b0→W'.heap[b]? =W.heap[b]?):GlobOk b0 W':=fun g hg=>by
 obtain ⟨h1,m,h2⟩:=h g hg
 exact ⟨h1,m,by simpa only [World.cell?,hb g h1] using h2⟩
structure Rel (b0:Nat) (ρ:Zv) (H:AH) (W:World):Prop where
 tok:∀t o,H t=some o→TokRel b0 ρ W t o
 inj:∀t t' s s',t % 2=1→t' % 2=1→H t≠none→H t'≠none→ρ t=some s→ρ t'=some s'→s.b=s'.b→t=t'
 le:b0≤W.heap.size
 glob:GlobOk b0 W
theorem TokRel.mono {b0:Nat} {ρ ρ':Zv} {W W':World} {t:Nat} {o:Yn} (hρ:∀t s,ρ t=some s→ρ' t=some s) (h:TokRel b0 ρ W t o) (hW:∀s,ρ t=some s→W'.heap[s.b]? =W.heap[s.b]?):TokRel b0 ρ' W' t o:=by
 cases o with
 | cells es cs =>
  obtain ⟨s,hs,he,arr,ty,fr,ha,hl,hv,hw,hev⟩:=h
  have hb:=hW s hs
  refine ⟨s,hρ _ _ hs,he,arr,ty,fr,hb.trans ha,hl,fun i hi=>(hv i hi).mono hρ,fun ht=> ?_,hev⟩
  obtain ⟨h1,h2,h3⟩:=hw ht
  refine ⟨h1,h2,fun off ho=> ?_⟩
  have:=h3 off ho
  simpa [World.frozen?,hb] using this
 | map es =>
  obtain ⟨s,hs,arr,clock,ha,hl,hv,ho,hb0⟩:=h
  exact ⟨s,hρ _ _ hs,arr,clock,(hW s hs).trans ha,hl,fun i hi=>⟨(hv i hi).1.mono hρ,(hv i hi).2.mono hρ⟩,ho,hb0⟩
theorem TokRel.slot {b0:Nat} {ρ:Zv} {W:World} {t:Nat} {o:Yn} (h:TokRel b0 ρ W t o):∃s,ρ t=some s∧s.b<W.heap.size∧(t % 2=1→b0≤s.b)∧(t % 2=0→s.b<b0):=by
 cases o with
 | cells es cs =>
  obtain ⟨s,hs,_,arr,ty,fr,ha,_,_,hw,hev⟩:=h
  exact ⟨s,hs,(Array.getElem?_eq_some_iff.1 ha).1,fun ht=>(hw ht).1,hev⟩
 | map es =>
  obtain ⟨s,hs,arr,clock,ha,_,_,ho,hb0⟩:=h
  exact ⟨s,hs,(Array.getElem?_eq_some_iff.1 ha).1,fun _=>hb0,fun h0=>by omega⟩
def Own (ρ:Zv) (H:AH) (b:Nat):Prop:=∃t s,t % 2=1∧H t≠none∧ρ t=some s∧s.b=b
def Qmq (W W':World):Prop:=W'.os=W.os∧W'.tape=W.tape∧W'.output=W.output
structure Stp (b0 p:Nat) (ρ:Zv) (H:AH) (W:World) (ρ':Zv) (H':AH) (W':World):Prop where
 ext:Ext p ρ ρ'
 rel:Rel b0 ρ' H' W'
 size:W.heap.size≤W'.heap.size
 frame:∀b,b<W.heap.size→¬Own ρ H b→W'.heap[b]? =W.heap[b]?
 own:∀b,Own ρ' H' b→Own ρ H b∨W.heap.size≤b
 dom:∀t,H' t≠none→H t≠none∨Under p t
 same:Qmq W W'
theorem Stp.refl {b0 p:Nat} {ρ:Zv} {H:AH} {W:World} (h:Rel b0 ρ H W):Stp b0 p ρ H W ρ H W:=⟨.refl _ _,h,Nat.le_refl _,fun _ _ _=>rfl,fun _ h=> .inl h,fun _ h=> .inl h,⟨rfl,rfl,rfl⟩⟩
theorem Stp.trans {b0 p:Nat} {ρ ρ1 ρ2:Zv} {H H1 H2:AH} {W W1 W2:World} (h:Stp b0 p ρ H W ρ1 H1 W1) (h2:Stp b0 p ρ1 H1 W1 ρ2 H2 W2):Stp b0 p ρ H W ρ2 H2 W2 :=
 ⟨h.ext.trans h2.ext,h2.rel,Nat.le_trans h.size h2.size,
  fun b hb hn=>(h2.frame b (Nat.lt_of_lt_of_le hb h.size) (fun ho=>(h.own b ho).elim hn (fun hge=>by omega))).trans (h.frame b hb hn),
  fun b ho=>(h2.own b ho).elim (h.own b) (fun hge=> .inr (Nat.le_trans h.size hge)),
  fun t ht=>(h2.dom t ht).elim (h.dom t) .inr,h2.same.1.trans h.same.1,h2.same.2.1.trans h.same.2.1,h2.same.2.2.trans h.same.2.2⟩
theorem Stp.wide {b0 p q:Nat} {ρ ρ1:Zv} {H H1:AH} {W W1:World} (h:Stp b0 p ρ H W ρ1 H1 W1) (hq:∀t,Under p t→Under q t):Stp b0 q ρ H W ρ1 H1 W1:=⟨h.ext.wide hq,h.rel,h.size,h.frame,h.own,fun t ht=>(h.dom t ht).imp id (hq t),h.same⟩
theorem Rel.world {b0:Nat} {ρ:Zv} {H:AH} {W W':World} (h:Rel b0 ρ H W) (he:W'.heap=W.heap):Rel b0 ρ H W' :=
 ⟨fun t o ht=>(h.tok t o ht).mono (fun _ _ e=>e) (fun s _=>by rw [he]),h.inj,by rw [he];exact h.le,h.glob.keep (fun b _=>by rw [he])⟩
theorem Stp.world {b0 p:Nat} {ρ:Zv} {H:AH} {W W':World} (h:Rel b0 ρ H W) (he:W'.heap=W.heap) (hsm:Qmq W W':=by exact ⟨rfl,rfl,rfl⟩):Stp b0 p ρ H W ρ H W' :=
 ⟨.refl _ _,h.world he,by rw [he];exact Nat.le_refl _,fun _ _ _=>by rw [he],fun _ h=> .inl h,fun _ h=> .inl h,hsm⟩
theorem Stp.new {b0 p t:Nat} {ρ:Zv} {H:AH} {W W':World} {cs:List Value} {arr:Array Value} {ty:TypeId} {fr:Nat×Nat} {es sz:Nat} (h:Rel b0 ρ H W) (hf:∀t,Under p t→ρ t=none) (hp:p % 2=1) (ht:t=child p 0)
  (hW:W'.heap=W.heap.push (.cells arr ty fr)) (hc:cs.length≤arr.size) (hv:∀i,i<cs.length→VR ρ (cs.getD i undef) (arr.getD i undef)) (hsz:sz≤arr.size) (hfr:∀off,off<arr.size∨(es≠1∧off=arr.size)→¬(fr.1≤off∧off<fr.2)) (hsm:Qmq W W':=by exact ⟨rfl,rfl,rfl⟩) :
  Stp b0 p ρ H W (fun u=>if u=t then some ⟨W.heap.size,0,sz,es⟩ else ρ u) (H.upd t (some (.cells es cs))) W':=by
 have hu:Under p t:=by rw [ht];exact .step 0 .refl
 have hn:ρ t=none:=hf t hu
 have hρ:∀u s,ρ u=some s→(fun u=>if u=t then some (⟨W.heap.size,0,sz,es⟩:Slot) else ρ u) u=some s:=by
  intro u s e
  have:u≠t:=fun he=>by rw [he,hn] at e;cases e
  simp only [if_neg this]
  exact e
 have hold:∀b,b<W.heap.size→W'.heap[b]? =W.heap[b]? :=fun b hb=>by
  rw [hW,Array.getElem?_push_lt hb,Array.getElem?_eq_getElem hb]
 have hnew:W'.heap[W.heap.size]? =some (.cells arr ty fr):=by rw [hW];simp
 refine ⟨⟨hρ,fun u he=> ?_⟩,⟨fun u o ho=> ?_,?_,?_,h.glob.keep (fun b hb=>hold b (Nat.lt_of_lt_of_le hb h.le))⟩,?_,fun b hb _=>hold b hb,?_,fun u hu2=> ?_,hsm⟩
 ·by_cases hut:u=t
  ·exact .inr (hut▸hu)
  ·simp only [if_neg hut] at he
   exact .inl he
 ·unfold AH.upd at ho
  by_cases hut:u=t
  ·rw [if_pos hut] at ho
   obtain rfl:=Option.some.inj ho
   subst hut
   refine ⟨⟨W.heap.size,0,sz,es⟩,by simp,rfl,arr,ty,fr,hnew,by simpa using hc,fun i hi=> ?_,fun _=>⟨h.le,hsz,fun off ho=> ?_⟩,fun h0=> ?_⟩
   ·simpa using (hv i hi).mono hρ
   ·simp only [World.frozen?,hnew]
    have:=hfr off ho
    simp only [Bool.and_eq_false_iff,decide_eq_false_iff_not]
    omega
   ·rw [ht] at h0
    have:=YL p 0
    omega
  ·rw [if_neg hut] at ho
   have h1:=h.tok u o ho
   obtain ⟨s0,hs0,hlt,_⟩:=h1.slot
   exact h1.mono hρ (fun s hs=>hold s.b (by rw [hs] at hs0;cases hs0;exact hlt))
 ·intro u u' s s' h1 h2 h3 h4 h5 h6 h7
  unfold AH.upd at h3 h4
  by_cases hut:u=t<;>by_cases hut':u'=t
  ·rw [hut,hut']
  ·simp only [if_pos hut,Option.some.injEq] at h5
   rw [if_neg hut'] at h4
   simp only [if_neg hut'] at h6
   obtain ⟨o',ho'⟩:=Option.ne_none_iff_exists'.1 h4
   obtain ⟨s0,hs0,hlt,_⟩:=(h.tok u' o' ho').slot
   rw [hs0] at h6
   cases h6
   rw [← h5] at h7
   simp at h7
   omega
  ·simp only [if_pos hut',Option.some.injEq] at h6
   rw [if_neg hut] at h3
   simp only [if_neg hut] at h5
   obtain ⟨o',ho'⟩:=Option.ne_none_iff_exists'.1 h3
   obtain ⟨s0,hs0,hlt,_⟩:=(h.tok u o' ho').slot
   rw [hs0] at h5
   cases h5
   rw [← h6] at h7
   simp at h7
   omega
  ·rw [if_neg hut] at h3
   rw [if_neg hut'] at h4
   simp only [if_neg hut] at h5
   simp only [if_neg hut'] at h6
   exact h.inj u u' s s' h1 h2 h3 h4 h5 h6 h7
 ·rw [hW]
  have:=h.le
  simp
  omega
 ·rw [hW]
  simp
 ·rintro b ⟨u,s,h1,h2,h3,h4⟩
  unfold AH.upd at h2
  by_cases hut:u=t
  ·simp only [if_pos hut,Option.some.injEq] at h3
   right
   rw [← h3] at h4
   simp at h4
   omega
  ·rw [if_neg hut] at h2
   simp only [if_neg hut] at h3
   exact .inl ⟨u,s,h1,h2,h3,h4⟩
 ·unfold AH.upd at hu2
  by_cases hut:u=t
  ·exact .inr (hut▸hu)
  ·rw [if_neg hut] at hu2
   exact .inl hu2
def closed1 : Value→Bool
 | .bool _ | .int _ _ | .string _ | .pointer none | .slice none 0 0 | .map none | .nilFunc=>true
 | _=>false
def closedV : Value→Bool
 | .agg cs=>cs.all closed1
 | v=>closed1 v
theorem VR.closed1 {ρ:Zv} {v:Value} (h:AE.closed1 v=true):VR ρ v v:=by
 unfold AE.closed1 at h
 split at h
 ·exact .bool _
 ·exact .int _ _
 ·exact .str _
 ·exact .ptr0
 ·exact .sl0
 ·exact .map0
 ·exact .fn0
 ·cases h
theorem QbL {p:Value→Bool} {cs:Array Value} (h:cs.all p=true) {i:Nat} (hi:i<cs.size):p (cs.getD i undef)=true:=by
 have:=(Array.all_eq_true.1 h) i hi
 simpa [Array.getD_eq_getD_getElem?,Array.getElem?_eq_getElem hi] using this
theorem VR.closedV {ρ:Zv} {v:Value} (h:AE.closedV v=true):VR ρ v v:=by
 unfold AE.closedV at h
 split at h
 ·exact .agg _ _ Y (fun i hi=> .closed1 (QbL h hi))
 ·exact .closed1 h
theorem VR.eq1 {ρ:Zv} {v v':Value} (h:VR ρ v v') (hc:AE.closed1 v=true):v'=v:=by
 cases h<;>first | rfl | (simp [AE.closed1] at hc)
theorem VR.eq {ρ:Zv} {v v':Value} (h:VR ρ v v') (hc:AE.closedV v=true):v'=v:=by
 cases h with
 | agg cs cs' hs h =>
  simp only [AE.closedV] at hc
  congr 1
  apply Array.ext hs.symm
  intro i h1 h2
  have:=(h i h2).eq1 (QbL hc h2)
  simpa [Array.getD_eq_getD_getElem?,Array.getElem?_eq_getElem h1,Array.getElem?_eq_getElem h2] using this
 | bool b=>rfl
 | int k n=>rfl
 | str s=>rfl
 | ptr0=>rfl
 | ptr o h=>simp [AE.closedV,AE.closed1] at hc
 | sl0=>rfl
 | sl o n m c h hn hf hm=>simp [AE.closedV,AE.closed1] at hc
 | sle o o' m c sp h hf hm hsp=>simp [AE.closedV,AE.closed1] at hc
 | map0=>rfl
 | map h=>simp [AE.closedV,AE.closed1] at hc
 | fn f cs cs' hs h=>simp [AE.closedV,AE.closed1] at hc
 | fn0=>rfl
 | tuple cs cs' hs h=>simp [AE.closedV,AE.closed1] at hc
def ZS (E:Nat→Value):Operand→Option Value
 | .tmp t=>some (E t)
 | .const v=>if closedV v then some v else none
 | .func f=>some (.func (.func f) #[] #[])
 | .global _=>none
def EnvR (ρ:Zv) (E:Nat→Value) (a:Act):Prop:=∀t,VR ρ (E t) (a.tmps.getD t undef)
theorem Qy {ρ:Zv} {E:Nat→Value} {a:Act} (hE:EnvR ρ E a) {x:Operand} {v:Value} (h:ZS E x=some v):VR ρ v (a.eval x):=by
 cases x with
 | tmp t =>
  simp only [ZS,Option.some.injEq] at h
  rw [← h]
  exact hE t
 | const u =>
  simp only [ZS] at h
  split at h
  ·rename_i hc
   obtain rfl:=Option.some.inj h
   exact .closedV hc
  ·cases h
 | func f =>
  simp only [ZS,Option.some.injEq] at h
  rw [← h]
  exact .fn f #[] #[] rfl (fun i hi=>by simp at hi)
 | global g=>simp [ZS] at h
inductive AR
 | val (v:Value) (h:AH)
 | skip (h:AH)
 | enter (f:FuncId) (args:List Value)
def Good (b0 p:Nat) (ρ:Zv) (H:AH) (W:World) (r:Result Next):AR→Prop
 | .val v H'=>∃v' W' ρ',r= .ok (.value v') W'∧Stp b0 p ρ H W ρ' H' W'∧VR ρ' v v'
 | .skip H'=>∃W' ρ',r= .ok .skip W'∧Stp b0 p ρ H W ρ' H' W'
 | .enter f args=>∃args':Array Value,r= .ok (.enter f args') W∧LR ρ args args'.toList
theorem Good.pure {b0 p:Nat} {ρ:Zv} {H:AH} {W:World} {r:Result Next} {v v':Value} (hR:Rel b0 ρ H W) (hr:r= .ok (.value v') W) (hv:VR ρ v v'):Good b0 p ρ H W r (.val v H) :=
 ⟨v',W,ρ,hr, .refl hR,hv⟩
def Qw (P:Program) (t:TypeId):Option Bool :=
 match P.underlying t with
 | some (.struct _)=>some true
 | some (.array _ _)=>none
 | some _=>some false
 | none=>none
theorem Qez {P:Program} {t:TypeId} {d:TypeDesc} (h:P.underlying t=some d):∃i,P.info? t=some i:=by
 unfold Program.underlying at h
 split at h
 ·exact ⟨_,by assumption⟩
 ·exact ⟨_,by assumption⟩
 ·cases h
theorem ZR {P:Program} {t:TypeId} {i:TypeInfo} (h:P.info? t=some i) (w:World):(sizeOf t).run P w= .ok (P.cellsOf t) w:=by
 simp [sizeOf,typeInfo,h,Program.cellsOf]
theorem J8 {P:Program} {t:TypeId} {b:Bool} (h:Qw P t=some b) (w:World):(isAgg t).run P w= .ok b w:=by
 unfold Qw at h
 cases hu:P.underlying t with
 | none=>simp [hu] at h
 | some d =>
  simp only [isAgg,Sem.run_bind,run_underlying hu,Result.andThen_ok]
  rw [hu] at h
  cases d<;>simp at h<;>(try subst h)<;>rfl
theorem Qa0 {P:Program} {t:TypeId} {b:Bool} (h:Qw P t=some b):∃i,P.info? t=some i:=by
 unfold Qw at h
 cases hu:P.underlying t with
 | none=>simp [hu] at h
 | some d=>exact Qez hu
theorem Qao (b o n:Nat):(⟨b,o,none⟩:Addr).add n=⟨b,o+n,none⟩:=by
 unfold Addr.add
 split<;>simp_all
def QaF (P:Program) (t:TypeId) (h:AH):Value→Option Value
 | .pointer (some ⟨k,o,none⟩) =>
  match h k with
  | some (.cells _ cs) =>
   match Qw P t with
   | some true=>if o+P.cellsOf t≤cs.length then some (.agg ((cs.drop o).take (P.cellsOf t)).toArray) else none
   | some false=>cs[o]?
   | none=>none
  | _=>none
 | _=>none
theorem QlW {b0:Nat} {ρ:Zv} {W:World} {k es o:Nat} {cs:List Value} {s:Slot} (hs:ρ k=some s) (h:TokRel b0 ρ W k (.cells es cs)) (ho:o<cs.length) :
  ∃u,W.cell? ⟨s.b,s.base+o,none⟩=some u∧VR ρ (cs.getD o undef) u:=by
 obtain ⟨s',hs',_,arr,ty,fr,ha,hl,hv,_,_⟩:=h
 rw [hs] at hs'
 cases hs'
 have hlt:s.base+o<arr.size:=by omega
 refine ⟨arr[s.base+o],?_,?_⟩
 ·simp [World.cell?,ha,hlt]
 ·simpa [Array.getD_eq_getD_getElem?,Array.getElem?_eq_getElem hlt] using hv o ho
theorem Qb2 {b0:Nat} {ρ:Zv} {W:World} {k es o n:Nat} {cs:List Value} {s:Slot} (hs:ρ k=some s) (h:TokRel b0 ρ W k (.cells es cs)) (ho:o+n≤cs.length) :
  ∃us:List Value,us.length=n∧(∀P:Program,(loadCells ⟨s.b,s.base+o,none⟩ n).run P W= .ok us.toArray W)∧LR ρ ((cs.drop o).take n) us:=by
 obtain ⟨s',hs',he,arr,ty,fr,ha,hl,hv,hrest⟩:=h
 rw [hs] at hs'
 cases hs'
 have hlen:((arr.toList.drop (s.base+o)).take n).length=n:=by
  rw [List.length_take,List.length_drop,Array.length_toList]
  omega
 refine ⟨(arr.toList.drop (s.base+o)).take n,hlen,fun P=> ?_,?_,fun i hi=> ?_⟩
 ·have h1:=run_loadCells_list (P:=P) (w:=W) ⟨s.b,s.base+o,none⟩ ((arr.toList.drop (s.base+o)).take n) (fun j v hj=>by
   rw [Qao]
   rw [List.getElem?_take] at hj
   split at hj
   ·rw [List.getElem?_drop] at hj
    simpa [World.cell?,ha] using hj
   ·cases hj)
  rw [hlen] at h1
  exact h1
 ·rw [hlen,List.length_take,List.length_drop]
  omega
 ·have hi':i<n:=by rw [List.length_take,List.length_drop] at hi;omega
  have h1:=hv (o+i) (by omega)
  have e1:((cs.drop o).take n).getD i undef=cs.getD (o+i) undef:=by
   simp [List.getD_eq_getElem?_getD,List.getElem?_take,hi',List.getElem?_drop]
  have e2:((arr.toList.drop (s.base+o)).take n).getD i undef=arr.getD (s.base+(o+i)) undef:=by
   simp [List.getD_eq_getElem?_getD,List.getElem?_take,hi',List.getElem?_drop,Array.getD_eq_getD_getElem?,Nat.add_assoc]
  rw [e1,e2]
  exact h1
theorem Qef {P:Program} {b0:Nat} {ρ:Zv} {H:AH} {W:World} {t:TypeId} {x x' v:Value} (h:QaF P t H x=some v) (hx:VR ρ x x') (hR:Rel b0 ρ H W) :
  ∃v',(Instr.loadAt t x').run P W= .ok v' W∧VR ρ v v':=by
 unfold QaF at h
 split at h
 ·rename_i k o
  split at h
  ·rename_i es cs hk
   cases hx with
   | @ptr _ s _ hs =>
    have ht:=hR.tok k _ hk
    cases hb:Qw P t with
    | none=>simp [hb] at h
    | some b =>
     rw [hb] at h
     obtain ⟨i,hi⟩:=Qa0 hb
     cases b with
     | true =>
      simp only at h
      split at h
      ·rename_i hle
       obtain rfl:=Option.some.inj h
       obtain ⟨us,hus,hrun,hlr⟩:=Qb2 hs ht hle
       refine ⟨.agg us.toArray,?_, .of_cells hlr⟩
       simp [Instr.loadAt,Instr.sureAddr,loadVar,J8 hb,ZR hi,hrun]
      ·cases h
     | false =>
      simp only at h
      have ho:o<cs.length:=(List.getElem?_eq_some_iff.1 h).1
      obtain ⟨u,hu,hv⟩:=QlW hs ht ho
      refine ⟨u,?_,?_⟩
      ·simp [Instr.loadAt,Instr.sureAddr,loadVar,J8 hb,hu]
      ·simpa [List.getD_eq_getElem?_getD,h] using hv
  ·cases h
 ·cases h
def splice (cs:List Value) (o:Nat) (vs:List Value):List Value:=cs.take o++vs++cs.drop (o+vs.length)
def Qd5 (P:Program) (t:TypeId) (h:AH) (x v:Value):Option AH :=
 match x with
 | .pointer (some ⟨k,o,none⟩) =>
  if k % 2=1 then
   match h k with
   | some (.cells es cs) =>
    if (P.info? t).isSome∧v.cells.size=P.cellsOf t∧o+v.cells.size≤cs.length∧v.cells.all (·.oneCell')=true then some (h.upd k (some (.cells es (splice cs o v.cells.toList)))) else none
   | _=>none
  else none
 | _=>none
theorem QaS (b:Nat):∀(vs:List Value) (o:Nat) (W:World) (arr:Array Value) (ty:TypeId) (fr:Nat×Nat),W.heap[b]? =some (.cells arr ty fr)→o+vs.length≤arr.size →
  ∃arr',(W.setCells b o vs).heap[b]? =some (.cells arr' ty fr)∧arr'.size=arr.size∧∀i,arr'.getD i undef=if o≤i∧i<o+vs.length then vs.getD (i - o) undef else arr.getD i undef
 | [],o,W,arr,ty,fr,h,hl=>⟨arr,h,rfl,fun i=>by rw [if_neg (fun hh=>by have:=hh.1;have:=hh.2;simp at this;omega)]⟩
 | v::r,o,W,arr,ty,fr,h,hl=>by
  have h1:(W.setCell ⟨b,o,none⟩ v).heap[b]? =some (.cells (arr.setIfInBounds o v) ty fr):=by simp [World.setCell,Array.getElem?_modify,h]
  obtain ⟨arr',h2,h3,h4⟩:=QaS b r (o+1) (W.setCell ⟨b,o,none⟩ v) _ ty fr h1 (by simp at hl ⊢;omega)
  refine ⟨arr',h2,by simpa using h3,fun i=> ?_⟩
  rw [h4 i]
  have hlt:o<arr.size:=by simp at hl;omega
  by_cases hio:i=o
  ·subst hio
   rw [if_neg (by omega),if_pos (by simp)]
   simp [Array.getD_eq_getD_getElem?,hlt]
  ·by_cases hin:o+1≤i∧i<o+1+r.length
   ·rw [if_pos hin,if_pos (by simp;omega)]
    obtain ⟨m,hm⟩:∃m,i - o=m+1:=⟨i - o - 1,by omega⟩
    rw [hm,show i - (o+1)=m by omega]
    rfl
   ·rw [if_neg hin,if_neg (by simp;omega)]
    simp [Array.getD_eq_getD_getElem?,Array.getElem?_setIfInBounds_ne (Ne.symm hio)]
theorem YV (b:Nat):∀(vs:List Value) (o:Nat) (W:World),(W.setCells b o vs).heap.size=W.heap.size
 | [],_,_=>rfl
 | v::r,o,W=>by
  have:=YV b r (o+1) (W.setCell ⟨b,o,none⟩ v)
  rw [World.setCells,this]
  simp [World.setCell]
theorem Qaq (b:Nat):∀(vs:List Value) (o:Nat) (W:World) (c:Nat),c≠b→(W.setCells b o vs).heap[c]? =W.heap[c]?
 | [],_,_,_,_=>rfl
 | v::r,o,W,c,hc=>by
  rw [World.setCells,Qaq b r (o+1) _ c hc]
  simp [World.setCell,Array.getElem?_modify,Ne.symm hc]
theorem Qgl {cs vs:List Value} {o:Nat} (h:o+vs.length≤cs.length):(splice cs o vs).length=cs.length:=by
 unfold splice
 simp
 omega
theorem QhO {cs vs:List Value} {o:Nat} (h:o+vs.length≤cs.length) (i:Nat):(splice cs o vs).getD i undef=if o≤i∧i<o+vs.length then vs.getD (i - o) undef else cs.getD i undef:=by
 unfold splice
 simp only [List.getD_eq_getElem?_getD]
 by_cases h1:i<o
 ·rw [if_neg (by omega),List.append_assoc,List.getElem?_append_left (by simp;omega),List.getElem?_take,if_pos h1]
 ·rw [List.append_assoc,List.getElem?_append_right (by simp;omega)]
  have hl:(cs.take o).length=o:=by simp;omega
  rw [hl]
  by_cases h2:i<o+vs.length
  ·rw [if_pos ⟨by omega,h2⟩,List.getElem?_append_left (by omega)]
  ·rw [if_neg (by omega),List.getElem?_append_right (by omega),List.getElem?_drop]
   congr 2
   omega
theorem Rel.same {b0 k u:Nat} {ρ:Zv} {H:AH} {W:World} {s s2:Slot} (hR:Rel b0 ρ H W) (hk:H k≠none) (hodd:k % 2=1) (hs:ρ k=some s) (hu:H u≠none) (hs2:ρ u=some s2) (he:s2.b=s.b):u=k:=by
 obtain ⟨o1,h1⟩:=Option.ne_none_iff_exists'.1 hk
 obtain ⟨o2,h2⟩:=Option.ne_none_iff_exists'.1 hu
 obtain ⟨s3,e3,_,hb3,_⟩:=(hR.tok k o1 h1).slot
 obtain ⟨s4,e4,_,_,hb4⟩:=(hR.tok u o2 h2).slot
 rw [hs] at e3
 rw [hs2] at e4
 cases e3
 cases e4
 rcases Nat.mod_two_eq_zero_or_one u with h0 | h0
 ·have:=hb4 h0
  have:=hb3 hodd
  omega
 ·exact hR.inj u k s2 s h0 hodd hu hk hs2 hs he
theorem QaU (b:Nat):∀(vs:List Value) (o:Nat) (W:World),Qmq W (W.setCells b o vs)
 | [],o,W=>⟨rfl,rfl,rfl⟩
 | v::r,o,W=>by
  have h:=QaU b r (o+1) (W.setCell ⟨b,o,none⟩ v)
  exact ⟨h.1,h.2.1,h.2.2⟩
theorem Stp.write {b0 p k es:Nat} {ρ:Zv} {H:AH} {W:World} {cs:List Value} {vs vs':List Value} {o:Nat} {s:Slot} (hR:Rel b0 ρ H W) (hk:H k=some (.cells es cs)) (hodd:k % 2=1) (hs:ρ k=some s)
  (hl:o+vs.length≤cs.length) (hv:LR ρ vs vs') :
  Stp b0 p ρ H W ρ (H.upd k (some (.cells es (splice cs o vs)))) (W.setCells s.b (s.base+o) vs'):=by
 have ht:=hR.tok k _ hk
 obtain ⟨s',hs',he,arr,ty,fr,ha,hal,hav,hw,hev⟩:=ht
 rw [hs] at hs'
 cases hs'
 obtain ⟨hb0,hsz,hfr⟩:=hw hodd
 have hvl:=hv.1
 obtain ⟨arr',ha',hsz',hg⟩:=QaS s.b vs' (s.base+o) W arr ty fr ha (by omega)
 have hother:∀c,c≠s.b→(W.setCells s.b (s.base+o) vs').heap[c]? =W.heap[c]? :=fun c hc=>Qaq _ _ _ _ _ hc
 have hsame:∀u:Nat,(H.upd k (some (.cells es (splice cs o vs))) u≠none)→H u≠none:=by
  intro u hu
  unfold AH.upd at hu
  by_cases hku:u=k
  ·rw [hku,hk];simp
  ·rwa [if_neg hku] at hu
 refine ⟨.refl _ _,⟨fun u obj hu=> ?_,?_,?_,hR.glob.keep (fun b hb=>hother b (by omega))⟩,?_,fun b hb hn=> ?_,?_,fun u hu=> .inl (hsame u hu),QaU _ _ _ _⟩
 ·unfold AH.upd at hu
  by_cases hku:u=k
  ·rw [if_pos hku] at hu
   obtain rfl:=Option.some.inj hu
   subst hku
   have hsl:=Qgl hl
   refine ⟨s,hs,he,arr',ty,fr,ha',by omega,fun i hi=> ?_,fun _=>⟨hb0,by omega,fun off hoff=> ?_⟩,hev⟩
   ·rw [hg,QhO hl]
    by_cases hin:o≤i∧i<o+vs.length
    ·rw [if_pos hin,if_pos (by omega),show s.base+i - (s.base+o)=i - o by omega]
     exact hv.2 (i - o) (by omega)
    ·rw [if_neg hin,if_neg (by omega)]
     exact hav i (by omega)
   ·rw [World.frozen?_setCells]
    exact hfr off (by omega)
  ·rw [if_neg hku] at hu
   have h1:=hR.tok u obj hu
   refine h1.mono (fun _ _ e=>e) (fun s2 hs2=>hother _ (fun hbe=>hku ?_))
   exact hR.same (by rw [hk];simp) hodd hs (by rw [hu];simp) hs2 hbe
 ·intro u u' s1 s2 h1 h2 h3 h4 h5 h6 h7
  exact hR.inj u u' s1 s2 h1 h2 (hsame u h3) (hsame u' h4) h5 h6 h7
 ·rw [YV]
  exact hR.le
 ·rw [YV]
  exact Nat.le_refl _
 ·exact hother b (fun hbe=>hn ⟨k,s,hodd,by rw [hk];simp,hs,hbe.symm⟩)
 ·rintro b ⟨u,s1,h1,h2,h3,h4⟩
  exact .inl ⟨u,s1,h1,hsame u h2,h3,h4⟩
theorem QhQ {ρ:Zv} {v v':Value} (h:VR ρ v v') (ha:v.cells.all (·.oneCell')=true):∀u∈v'.cells.toList,u.oneCell'=true:=by
 intro u hu
 have hc:=h.cells
 obtain ⟨i,hi⟩:=List.getElem?_of_mem hu
 have hlt:i<v'.cells.toList.length:=(List.getElem?_eq_some_iff.1 hi).1
 have h1:=hc.2 i (by rw [hc.1];exact hlt)
 have h2:=h1.oneCell
 rw [List.getD_eq_getElem?_getD,hi,Option.getD_some] at h2
 rw [h2]
 have:=QbL (p:=(·.oneCell')) ha (i:=i) (by have:=hc.1;simp at this hlt ⊢;omega)
 simpa [List.getD_eq_getElem?_getD,Array.getD_eq_getD_getElem?] using this
theorem Qhw {P:Program} {b0 p:Nat} {ρ:Zv} {H H':AH} {W:World} {t:TypeId} {x x' v v':Value} (h:Qd5 P t H x v=some H') (hx:VR ρ x x') (hv:VR ρ v v') (hR:Rel b0 ρ H W) :
  ∃W',(Instr.storeAt t x' v').run P W= .ok () W'∧Stp b0 p ρ H W ρ H' W':=by
 unfold Qd5 at h
 split at h
 ·rename_i k o
  split at h
  ·rename_i hodd
   split at h
   ·rename_i es cs hk
    split at h
    ·rename_i hc
     obtain ⟨hinfo,hsz,hle,hone⟩:=hc
     obtain rfl:=Option.some.inj h
     obtain ⟨i,hi⟩:=Option.isSome_iff_exists.1 hinfo
     cases hx with
     | @ptr _ s _ hs =>
      have hcl:=hv.cells
      have hsz':v'.cells.size=P.cellsOf t:=by have:=hcl.1;simp at this;omega
      have hst:Stp b0 p ρ H W ρ _ _:=Stp.write (vs:=v.cells.toList) (vs':=v'.cells.toList) hR hk hodd hs (by simpa using hle) hcl
      refine ⟨_,?_,hst⟩
      obtain ⟨s',hs',he,arr,ty,fr,ha,hal,hav,hw,hev⟩:=hR.tok k _ hk
      rw [hs] at hs'
      cases hs'
      obtain ⟨hb0,hsz2,hfr⟩:=hw hodd
      have hrun:=run_storeCells_cells (P:=P) s.b (s.base+o) v'.cells.toList 0 W (fun j hj=>by
       have:s.base+o+j<arr.size:=by simp at hj;omega
       simp [World.cell?,ha,this]) (fun j hj=>hfr _ (by simp at hj;omega)) (QhQ hv hone)
      simp only [Nat.add_zero] at hrun
      simp [Instr.storeAt,Instr.sureAddr,storeVar,ZR hi,hsz',hrun]
    ·cases h
   ·cases h
  ·cases h
 ·cases h
def Zq (P:Program) (t:TypeId):Option Value:=(P.info? t).bind (·.zero)
theorem Qa7 {P:Program} {t:TypeId} {z:Value} (h:Zq P t=some z) (w:World):(zeroValue t).run P w= .ok z w:=by
 unfold Zq at h
 obtain ⟨i,hi,hz⟩:=Option.bind_eq_some_iff.1 h
 simp [zeroValue,typeInfo,hi,hz]
def Qn (p:Nat):Nat:=child p 0
def QmA (p:Nat) (H:AH) (v:Value):AR:= .val (.pointer (some ⟨Qn p,0,none⟩)) (H.upd (Qn p) (some (.cells 0 v.cells.toList)))
theorem Stp.fresh {b0 p es:Nat} {ρ:Zv} {H:AH} {W:World} {cs cs':List Value} {ty:TypeId} (hR:Rel b0 ρ H W) (hf:∀t,Under p t→ρ t=none) (hp:p % 2=1) (hv:LR ρ cs cs') (n:Nat) (hn:n=cs'.length) :
  ∃ρ':Zv,ρ' (Qn p)=some ⟨W.heap.size,0,n,es⟩∧Stp b0 p ρ H W ρ' (H.upd (Qn p) (some (.cells es cs))) {W with heap:=W.heap.push (.cells cs'.toArray ty (0,0))}:=by
 refine ⟨_,?_,Stp.new (sz:=n) (arr:=cs'.toArray) (ty:=ty) (fr:=(0,0)) hR hf hp Y Y (by simp [hv.1]) (fun i hi=>by simpa [Array.getD_eq_getD_getElem?,List.getD_eq_getElem?_getD] using hv.2 i hi) (by simp [hn]) (fun off _=>by omega)⟩
 simp [Qn]
theorem Qjb {P:Program} {b0 p:Nat} {ρ:Zv} {H:AH} {W:World} {e:TypeId} {v v':Value} (hv:VR ρ v v') (hR:Rel b0 ρ H W) (hf:∀t,Under p t→ρ t=none) (hp:p % 2=1) :
  ∃u W' ρ',(Instr.box e v').run P W= .ok u W'∧Stp b0 p ρ H W ρ' (H.upd (Qn p) (some (.cells 0 v.cells.toList))) W'∧VR ρ' (.pointer (some ⟨Qn p,0,none⟩)) u:=by
 obtain ⟨ρ',h1,h2⟩:=Stp.fresh (es:=0) (ty:=e) hR hf hp hv.cells _ Y
 refine ⟨_,_,ρ',?_,h2,VR.ptr 0 h1⟩
 simp [Instr.box,newVar,newRow]
theorem Qg2 {P:Program} {b0 p:Nat} {ρ:Zv} {H:AH} {W:World} {e:TypeId} {z:Value} (hz:Zq P e=some z) (hc:closedV z=true) (hR:Rel b0 ρ H W) (hf:∀t,Under p t→ρ t=none) (hp:p % 2=1) :
  ∃u W' ρ',(Instr.alloc e true (.tuple #[])).run P W= .ok u W'∧Stp b0 p ρ H W ρ' (H.upd (Qn p) (some (.cells 0 z.cells.toList))) W'∧VR ρ' (.pointer (some ⟨Qn p,0,none⟩)) u:=by
 obtain ⟨ρ',h1,h2⟩:=Stp.fresh (es:=0) (ty:=e) hR hf hp (VR.closedV (ρ:=ρ) hc).cells _ Y
 refine ⟨_,_,ρ',?_,h2,VR.ptr 0 h1⟩
 simp [Instr.alloc,Qa7 hz,newVar,newRow]
def cyc (z:List Value) (n:Nat):List Value:=(List.range n).map fun i=>z.getD (i % z.length) undef
theorem Qk9 {ρ:Zv} {z:List Value} (h:∀v∈z,closed1 v=true) (n:Nat) (hn:n=0∨0<z.length):LR ρ (cyc z n) (cyc z n):=by
 refine ⟨rfl,fun i hi=> ?_⟩
 have hi':i<n:=by simpa [cyc] using hi
 have hz:i % z.length<z.length:=Nat.mod_lt _ (by omega)
 have e:(cyc z n).getD i undef=z[i % z.length]:=by
  simp [cyc,List.getD_eq_getElem?_getD,hi',List.getElem?_eq_getElem hz]
 rw [e]
 exact .closed1 (h _ (List.getElem_mem _))
def Qgr (P:Program) (p:Nat) (t:TypeId) (H:AH) (l c:Value):Option AR :=
 match P.underlying t,l,c with
 | some (.slice e), .int .i64 n, .int .i64 m =>
  match Zq P e with
  | some z =>
   if 0≤n∧m=n∧n≤9223372036854775807∧(P.bytesOf e:Int)*n≤281474976710656∧z.cells.all closed1=true∧z.cells.size=P.cellsOf e∧0<P.cellsOf e then
    some (.val (.slice (some ⟨Qn p,0,none⟩) n.toNat (if n=0 then 0 else 1)) (H.upd (Qn p) (some (.cells (P.cellsOf e) (cyc z.cells.toList (n.toNat*P.cellsOf e))))))
   else none
  | none=>none
 | _,_,_=>none
theorem Qmn {n:Int} (h0:0≤n) (h1:n≤9223372036854775807):IntKind.i64.wrap n=n:=by
 simp [IntKind.wrap,IntKind.signed,IntKind.bits]
 omega
theorem QhR {P:Program} {b0 p:Nat} {ρ:Zv} {H:AH} {W:World} {t:TypeId} {l l' c c':Value} {r:AR} (h:Qgr P p t H l c=some r) (hl:VR ρ l l') (hc:VR ρ c c') (hR:Rel b0 ρ H W) (hf:∀t,Under p t→ρ t=none) (hp:p % 2=1) :
  ∃v H' u W' ρ',r= .val v H'∧(Instr.makeSlice t l' c').run P W= .ok u W'∧Stp b0 p ρ H W ρ' H' W'∧VR ρ' v u:=by
 unfold Qgr at h
 split at h
 ·rename_i e n m hu
  split at h
  ·rename_i z hz
   split at h
   ·rename_i hcond
    obtain ⟨h0,rfl,hmax,hb,hz1,hz2,hz3⟩:=hcond
    obtain rfl:=Option.some.inj h
    cases hl
    cases hc
    obtain ⟨i,hi,hiz⟩:=Option.bind_eq_some_iff.1 hz
    have hcs:∀v∈z.cells.toList,closed1 v=true:=fun v hv=>by
     obtain ⟨j,hj⟩:=List.getElem?_of_mem hv
     have hlt:=(List.getElem?_eq_some_iff.1 hj).1
     have:=QbL hz1 (i:=j) (by simpa using hlt)
     simpa [Array.getD_eq_getD_getElem?,List.getElem?_eq_getElem hlt] using (by
      have e2:z.cells.getD j undef=v:=by
       have:z.cells[j]? =some v:=by simpa using hj
       simp [Array.getD_eq_getD_getElem?,this]
      rw [e2] at this
      exact this)
    have hzl:0<z.cells.toList.length:=by simp;omega
    obtain ⟨ρ',h1,h2⟩:=Stp.fresh (es:=P.cellsOf e) (ty:=e) hR hf hp (Qk9 (ρ:=ρ) hcs (m.toNat*P.cellsOf e) (.inr hzl)) (m.toNat*P.cellsOf e) (by simp [cyc])
    refine ⟨_,_, .slice (some ⟨W.heap.size,0,none⟩) m.toNat m.toNat,_,ρ',rfl,?_,h2,?_⟩
    ·have hby:P.bytesOf e=i.bytes:=by simp [Program.bytesOf,hi]
     have hsz:P.cellsOf e=i.size:=by simp [Program.cellsOf,hi]
     have hw:=Qmn h0 hmax
     rw [hby] at hb
     have hnb:¬(m<0):=by omega
     have hnb2:¬((i.bytes:Int)*m > 2 ^ 48):=by omega
     have hcy:(Array.range (m.toNat*i.size)).map (fun x=>z.cells[x % z.cells.size]!)=(cyc z.cells.toList (m.toNat*P.cellsOf e)).toArray:=by
      rw [hsz]
      apply Array.ext
      ·simp [cyc]
      ·intro j h3 h4
       have hj:j % z.cells.size<z.cells.size:=Nat.mod_lt _ (by omega)
       simp [cyc,List.getD_eq_getElem?_getD,hj]
     have hn0:m.toNat*i.size=0∨¬(m.toNat*i.size=0):=Classical.em _
     rcases hn0 with hn0 | hn0
     ·simp only [Instr.makeSlice,Sem.run_bind,run_underlying hu,Result.andThen_ok,asInt,asIntOf,typeInfo,run_program,hi,hw,Sem.run_pure,hnb,hnb2,decide_false,Bool.or_false,Bool.false_eq_true,Int.lt_irrefl,gt_iff_lt,if_false,run_askRoom,ZR hi,hsz,hn0,if_true]
      simp [newRow,cyc,Array.range]
     ·simp only [Instr.makeSlice,Sem.run_bind,run_underlying hu,Result.andThen_ok,asInt,asIntOf,typeInfo,run_program,hi,hw,Sem.run_pure,hnb,hnb2,decide_false,Bool.or_false,Bool.false_eq_true,Int.lt_irrefl,gt_iff_lt,if_false,run_askRoom,ZR hi,Qa7 hz]
      rw [hsz] at hcy
      simp only [hsz,hn0,if_false,Sem.run_bind,Qa7 hz,Result.andThen_ok,Sem.run_pure,newRow,run_newObj,hcy]
    ·by_cases hm0:m=0
     ·subst hm0
      simp only [Int.toNat_zero]
      exact VR.sle (s:=⟨W.heap.size,0,0*P.cellsOf e,P.cellsOf e⟩) 0 0 _ 0 none (by simpa using h1) (.inr (by simp)) (fun _=>rfl) (.inl Y)
     ·have:=VR.sl (ρ:=ρ') (s:=⟨W.heap.size,0,m.toNat*P.cellsOf e,P.cellsOf e⟩) 0 m.toNat 1 m.toNat h1 (Nat.le_refl _) (.inr (by simp)) (by simp)
      simpa [hm0] using this
   ·cases h
  ·cases h
 ·cases h
def Qf (P:Program) (s:TypeId) (x:Value) (f:Nat):Option Value :=
 match P.underlying s,x with
 | some (.struct fs), .pointer (some ⟨k,o,none⟩) =>
  match fs[f]? with
  | some fd=>if (P.info? fd.type).isSome∧P.cellsOf fd.type≠0 then some (.pointer (some ⟨k,o+fd.offset,none⟩)) else none
  | none=>none
 | _,_=>none
theorem Qd3 {P:Program} {ρ:Zv} {W:World} {s:TypeId} {x x' v:Value} {f:Nat} (h:Qf P s x f=some v) (hx:VR ρ x x'):∃v',(Instr.fieldAt s x' f).run P W= .ok v' W∧VR ρ v v':=by
 unfold Qf at h
 split at h
 ·rename_i fs k o hu
  split at h
  ·rename_i fd hfd
   split at h
   ·rename_i hc
    obtain ⟨hi,hz⟩:=hc
    obtain rfl:=Option.some.inj h
    obtain ⟨i,hi⟩:=Option.isSome_iff_exists.1 hi
    cases hx with
    | @ptr _ sl _ hs =>
     refine ⟨.pointer (some ⟨sl.b,sl.base+(o+fd.offset),none⟩),?_, .ptr _ hs⟩
     simp [Instr.fieldAt,run_underlying hu,hfd,Instr.sureAddr,fieldPlace,ZR hi,hz,Qao,Nat.add_assoc]
   ·cases h
  ·cases h
 ·cases h
def Jx (P:Program) (t:TypeId) (x ix:Value):Option Value :=
 match P.underlying t,x,ix with
 | some (.slice e), .slice (some ⟨k,o,none⟩) n _, .int _ i=>if (P.info? e).isSome∧0≤i∧i<n then some (.pointer (some ⟨k,o+i.toNat*P.cellsOf e,none⟩)) else none
 | _,_,_=>none
theorem QdL {P:Program} {ρ:Zv} {W:World} {t:TypeId} {x x' ix ix' v:Value} (h:Jx P t x ix=some v) (hx:VR ρ x x') (hi:VR ρ ix ix'):∃v',(Instr.indexAt t x' ix').run P W= .ok v' W∧VR ρ v v':=by
 unfold Jx at h
 split at h
 ·rename_i e k o n m kd i hu
  split at h
  ·rename_i hc
   obtain ⟨hinfo,h0,h1⟩:=hc
   obtain rfl:=Option.some.inj h
   obtain ⟨inf,hinf⟩:=Option.isSome_iff_exists.1 hinfo
   cases hi
   cases hx with
   | @sl _ sl _ _ _ c hs hn hf hm =>
    refine ⟨.pointer (some ⟨sl.b,sl.base+(o+i.toNat*P.cellsOf e),none⟩),?_, .ptr _ hs⟩
    simp [Instr.indexAt,asIntOf,run_underlying hu,h0,h1,ZR hinf,Qao,Nat.add_assoc]
   | sle _ _ _ _ _ hs hf hm hsp=>omega
  ·cases h
 ·cases h
def QdK (P:Program) (t:TypeId) (x ix:Value):Option Value :=
 match P.underlying t,x,ix with
 | some .string, .string s, .int _ i=>if h:0≤i∧i.toNat<s.size then some (.int .u8 ((s[i.toNat]'h.2).toNat:Int)) else none
 | _,_,_=>none
theorem Qhf {P:Program} {ρ:Zv} {W:World} {t:TypeId} {x x' ix ix' v:Value} (h:QdK P t x ix=some v) (hx:VR ρ x x') (hi:VR ρ ix ix'):∃v',(Instr.index t x' ix').run P W= .ok v' W∧VR ρ v v':=by
 unfold QdK at h
 split at h
 ·rename_i s kd i hu
  split at h
  ·rename_i hc
   obtain rfl:=Option.some.inj h
   cases hi
   cases hx
   refine ⟨_,?_, .int _ _⟩
   have e:s[i.toNat]? =some (s[i.toNat]'hc.2):=by simp [hc.2]
   simp [Instr.index,asIntOf,run_underlying hu,hc.1,e]
  ·cases h
 ·cases h
def apart (P:Program) (t:TypeId) (cs:Array Value) (off:Nat):Option Value :=
 match Qw P t with
 | some true=>if off+P.cellsOf t≤cs.size then some (.agg (cs.extract off (off+P.cellsOf t))) else none
 | some false=>cs[off]?
 | none=>none
theorem QhU {P:Program} {ρ:Zv} {W:World} {t:TypeId} {cs cs':Array Value} {off:Nat} {v:Value} (h:apart P t cs off=some v) (hs:cs.size=cs'.size) (hv:∀i,i<cs.size→VR ρ (cs.getD i undef) (cs'.getD i undef)) :
  ∃v',(part t cs' off).run P W= .ok v' W∧VR ρ v v':=by
 unfold apart at h
 cases hb:Qw P t with
 | none=>simp [hb] at h
 | some b =>
  rw [hb] at h
  obtain ⟨i,hi⟩:=Qa0 hb
  cases b with
  | true =>
   simp only at h
   split at h
   ·rename_i hle
    obtain rfl:=Option.some.inj h
    refine ⟨.agg (cs'.extract off (off+P.cellsOf t)),by simp [part,J8 hb,ZR hi], .agg _ _ (by simp [hs]) (fun j hj=> ?_)⟩
    have hj':off+j<cs.size:=by simp at hj;omega
    have:=hv (off+j) hj'
    have hj2:j<min (off+P.cellsOf t) cs.size - off:=by simpa using hj
    have e3:(cs.extract off (off+P.cellsOf t)).getD j undef=cs.getD (off+j) undef:=by
     simp only [Array.getD_eq_getD_getElem?,Array.getElem?_extract,hj2,if_true]
    have e4:(cs'.extract off (off+P.cellsOf t)).getD j undef=cs'.getD (off+j) undef:=by
     simp only [Array.getD_eq_getD_getElem?,Array.getElem?_extract,show j<min (off+P.cellsOf t) cs'.size - off by omega,if_true]
    rw [e3,e4]
    exact this
   ·cases h
  | false =>
   simp only at h
   have ho:off<cs.size:=(Array.getElem?_eq_some_iff.1 h).1
   have h1:=hv off ho
   have e1:cs.getD off undef=v:=by simp [Array.getD_eq_getD_getElem?,h]
   have e2:cs'[off]? =some (cs'[off]'(by omega)):=Array.getElem?_eq_getElem (by omega)
   refine ⟨cs'[off]'(by omega),by simp [part,J8 hb,e2],?_⟩
   rw [e1] at h1
   simpa [Array.getD_eq_getD_getElem?,e2] using h1
def QiM (P:Program) (t:TypeId) (x:Value) (f:Nat):Option Value :=
 match P.underlying t,x with
 | some (.struct fs), .agg cs =>
  match fs[f]? with
  | some fd=>apart P fd.type cs fd.offset
  | none=>none
 | _,_=>none
theorem QgV {P:Program} {ρ:Zv} {W:World} {t:TypeId} {x x' v:Value} {f:Nat} (h:QiM P t x f=some v) (hx:VR ρ x x'):∃v',(Instr.field t x' f).run P W= .ok v' W∧VR ρ v v':=by
 unfold QiM at h
 split at h
 ·rename_i fs cs hu
  split at h
  ·rename_i fd hfd
   cases hx with
   | agg _ cs' hs hv =>
    obtain ⟨v',h1,h2⟩:=QhU (W:=W) h hs hv
    exact ⟨v',by simp [Instr.field,run_underlying hu,hfd,asAgg,h1],h2⟩
  ·cases h
 ·cases h
def Qfj (x:Value) (i:Nat):Option Value :=
 match x with
 | .tuple vs=>vs[i]?
 | _=>none
theorem Qfl {P:Program} {ρ:Zv} {W:World} {x x' v:Value} {i:Nat} (h:Qfj x i=some v) (hx:VR ρ x x'):∃v',(Instr.extract x' i).run P W= .ok v' W∧VR ρ v v':=by
 unfold Qfj at h
 split at h
 ·rename_i vs
  cases hx with
  | tuple _ cs' hs hv =>
   have ho:i<vs.size:=(Array.getElem?_eq_some_iff.1 h).1
   have h1:=hv i ho
   have e2:cs'[i]? =some (cs'[i]'(by omega)):=Array.getElem?_eq_getElem (by omega)
   refine ⟨cs'[i]'(by omega),by simp [Instr.extract,e2],?_⟩
   have e1:vs.getD i undef=v:=by simp [Array.getD_eq_getD_getElem?,h]
   rw [e1] at h1
   simpa [Array.getD_eq_getD_getElem?,e2] using h1
 ·cases h
def bnd (d:Nat):Option Value→Option Nat
 | none=>some d
 | some (.int _ i)=>if 0≤i then some i.toNat else none
 | some _=>none
def Y0 (P:Program) (t:TypeId) (H:AH) (x:Value) (lo hi:Option Value):Option Value :=
 match P.underlying t,x with
 | some .string, .string s =>
  match bnd 0 lo,bnd s.size hi with
  | some l,some h=>if l≤h∧h≤s.size then some (.string (s.extract l h)) else none
  | _,_=>none
 | some (.slice e), .slice none 0 0 =>
  match bnd 0 lo,bnd 0 hi with
  | some l,some h=>if l=0∧h=0∧(P.info? e).isSome then some (.slice none 0 0) else none
  | _,_=>none
 | some (.slice e), .slice (some ⟨k,o,none⟩) n _ =>
  if n=0 then
   match bnd 0 lo,bnd 0 hi with
   | some l,some h=>if l=0∧h=0∧(P.info? e).isSome then some (.slice (some ⟨k,o,none⟩) 0 1) else none
   | _,_=>none
  else
  match bnd 0 lo,bnd n hi,H k with
  | some l,some h,some (.cells es _)=>if l≤h∧h≤n∧(P.info? e).isSome∧(es=0∨es=P.cellsOf e) then some (.slice (some ⟨k,o+l*P.cellsOf e,none⟩) (h - l) 1) else none
  | _,_,_=>none
 | _,_=>none
theorem Qhh {P:Program} {W:World} {ρ:Zv} {d:Nat} {v v':Value} {n y:Nat} {code:BoundsCode} (h:bnd d (some v)=some n) (hv:VR ρ v v') (hy:n≤y):(Instr.sliceBound v' y code).run P W= .ok n W:=by
 unfold bnd at h
 split at h
 ·cases ‹some v=none›
 ·rename_i k i hvi
  obtain rfl:=Option.some.inj hvi
  split at h
  ·rename_i h0
   obtain rfl:=Option.some.inj h
   cases hv
   have:i≤y:=by omega
   simp [Instr.sliceBound,asIntOf,h0,this]
  ·cases h
 ·cases h
def OR (ρ:Zv):Option Value→Option Value→Prop
 | none,none=>True
 | some v,some v'=>VR ρ v v'
 | _,_=>False
theorem Qar {P:Program} {W:World} {ρ:Zv} {lo lo' hi hi':Option Value} {isS:Bool} {len cap l h:Nat} (hl:bnd 0 lo=some l) (hh:bnd len hi=some h) (hlo:OR ρ lo lo') (hhi:OR ρ hi hi') (h1:l≤h) (h2:h≤len) (h3:len≤cap) :
  (Instr.sliceBounds isS len cap lo' hi' none).run P W= .ok (l,h,cap) W:=by
 cases lo with
 | none =>
  cases lo' with
  | some _=>cases hlo
  | none =>
   obtain rfl:0=l:=by simpa [bnd] using hl
   cases hi with
   | none =>
    cases hi' with
    | some _=>cases hhi
    | none =>
     obtain rfl:len=h:=by simpa [bnd] using hh
     simp [Instr.sliceBounds]
   | some v =>
    cases hi' with
    | none=>cases hhi
    | some v' =>
     have:=Qhh (P:=P) (W:=W) (code:=if isS then .sliceAcap else .sliceAlen) hh hhi (show h≤cap by omega)
     simp [Instr.sliceBounds,this]
 | some u =>
  cases lo' with
  | none=>cases hlo
  | some u' =>
   have hu:=Qhh (P:=P) (W:=W) (code:= .sliceB) hl hlo h1
   cases hi with
   | none =>
    cases hi' with
    | some _=>cases hhi
    | none =>
     obtain rfl:len=h:=by simpa [bnd] using hh
     simp [Instr.sliceBounds,hu]
   | some v =>
    cases hi' with
    | none=>cases hhi
    | some v' =>
     have:=Qhh (P:=P) (W:=W) (code:=if isS then .sliceAcap else .sliceAlen) hh hhi (show h≤cap by omega)
     simp [Instr.sliceBounds,this,hu]
theorem JY {P:Program} {b0:Nat} {ρ:Zv} {H:AH} {W:World} {t:TypeId} {x x' v:Value} {lo lo' hi hi':Option Value} (h:Y0 P t H x lo hi=some v) (hx:VR ρ x x') (hlo:OR ρ lo lo') (hhi:OR ρ hi hi') (hR:Rel b0 ρ H W) :
  ∃v',(Instr.sliceAt t x' lo' hi' none).run P W= .ok v' W∧VR ρ v v':=by
 unfold Y0 at h
 split at h
 ·rename_i s hu
  split at h
  ·rename_i l hh hl hhh
   split at h
   ·rename_i hc
    obtain rfl:=Option.some.inj h
    cases hx
    have hb:=Qar (P:=P) (W:=W) (isS:=false) hl hhh hlo hhi hc.1 hc.2 (Nat.le_refl _)
    exact ⟨_,by simp [Instr.sliceAt,Instr.slice,run_underlying hu,hb], .str _⟩
   ·cases h
  ·cases h
 ·rename_i e hu
  split at h
  ·rename_i l hh hl hhh
   split at h
   ·rename_i hc
    obtain ⟨rfl,rfl,hinf⟩:=hc
    obtain rfl:=Option.some.inj h
    obtain ⟨i,hi⟩:=Option.isSome_iff_exists.1 hinf
    cases hx
    have hb:=Qar (P:=P) (W:=W) (isS:=true) hl hhh hlo hhi (Nat.le_refl _) (Nat.le_refl _) (Nat.le_refl _)
    exact ⟨_,by simp [Instr.sliceAt,Instr.slice,run_underlying hu,hb,ZR hi], .sl0⟩
   ·cases h
  ·cases h
 ·rename_i e k o n m hu
  split at h
  ·rename_i hn0
   subst hn0
   split at h
   ·rename_i l hh hl hhh
    split at h
    ·rename_i hc
     obtain ⟨rfl,rfl,hinf⟩:=hc
     obtain rfl:=Option.some.inj h
     obtain ⟨i,hi⟩:=Option.isSome_iff_exists.1 hinf
     cases hx with
     | @sl _ s2 _ _ _ c hs2 hn hf hm =>
      have hb:=Qar (P:=P) (W:=W) (isS:=true) (cap:=c) hl hhh hlo hhi (Nat.le_refl _) (Nat.le_refl _) (Nat.zero_le _)
      exact ⟨.slice (some ⟨s2.b,s2.base+o,none⟩) 0 c,by simp [Instr.sliceAt,Instr.slice,run_underlying hu,hb,ZR hi,Qao],VR.sle _ _ _ _ none hs2 hf (by simp) (.inl Y)⟩
     | @sle _ s2 _ o' _ c sp hs2 hf hm hsp =>
      have hb:=Qar (P:=P) (W:=W) (isS:=true) (cap:=c) hl hhh hlo hhi (Nat.le_refl _) (Nat.le_refl _) (Nat.zero_le _)
      refine ⟨.slice (some ⟨s2.b,o',sp⟩) 0 c,?_,VR.sle _ _ _ _ sp hs2 hf (by simp) hsp⟩
      rcases hsp with rfl | rfl
      ·simp [Instr.sliceAt,Instr.slice,run_underlying hu,hb,ZR hi,Qao]
      ·simp [Instr.sliceAt,Instr.slice,run_underlying hu,hb,ZR hi]
    ·cases h
   ·cases h
  ·rename_i hn0
   split at h
   ·rename_i l hh es cs hl hhh hk
    split at h
    ·rename_i hc
     obtain ⟨h1,h2,hinf,hes⟩:=hc
     obtain rfl:=Option.some.inj h
     obtain ⟨i,hi⟩:=Option.isSome_iff_exists.1 hinf
     have ht:=hR.tok k _ hk
     obtain ⟨s,hs,hse,_⟩:=ht
     cases hx with
     | @sl _ s2 _ _ _ c hs2 hn hf hm =>
      rw [hs] at hs2
      cases hs2
      have hb:=Qar (P:=P) (W:=W) (isS:=true) (cap:=c) hl hhh hlo hhi h1 h2 hn
      have hf':s.es=0∨s.base+(o+l*P.cellsOf e)+(c - l)*s.es≤s.sz:=by
       rcases hf with hf | hf
       ·exact .inl hf
       ·rcases hes with h0 | h0
        ·exact .inl (hse.trans h0)
        ·right
         rw [hse,h0] at hf ⊢
         have:l*P.cellsOf e+(c - l)*P.cellsOf e=c*P.cellsOf e:=by rw [← Nat.add_mul];congr 1;omega
         omega
      by_cases hcl:c=l
      ·subst hcl
       refine ⟨.slice (some ⟨s.b,s.base+o,none⟩) (hh - c) (c - c),by simp [Instr.sliceAt,Instr.slice,run_underlying hu,hb,ZR hi],?_⟩
       have e1:hh - c=0:=by omega
       rw [e1,Nat.sub_self]
       refine VR.sle _ _ _ _ none hs ?_ (by simp) (.inl Y)
       rcases hf with hf | hf
       ·exact .inl hf
       ·exact .inr (by simp;omega)
      ·refine ⟨.slice (some ⟨s.b,s.base+(o+l*P.cellsOf e),none⟩) (hh - l) (c - l),by simp [Instr.sliceAt,Instr.slice,run_underlying hu,hb,ZR hi,hcl,Qao,Nat.add_assoc],?_⟩
       exact VR.sl _ _ _ _ hs (by omega) hf' (by simp)
     | sle=>exact absurd Y hn0
    ·cases h
   ·cases h
 ·cases h
def QeY (P:Program) {α:Type}:Sem α→Option α
 | .pure a=>some a
 | .program k=>QeY P (k P)
 | .mark _ k=>QeY P k
 | _=>none
theorem QcU {P:Program} {α:Type} {s:Sem α} {a:α} (h:QeY P s=some a) (W:World):s.run P W= .ok a W:=by
 induction s with
 | pure b=>simp only [QeY,Option.some.injEq] at h;subst h;rfl
 | program k ih=>simp only [QeY] at h;exact ih P h
 | mark m k ih=>simp only [QeY] at h;exact ih h
 | _=>simp [QeY] at h
theorem ZW {P:Program} {α:Type} (a:α):QeY P (Pure.pure a:Sem α)=some a:=rfl
def clo (o:Option Value):Option Value:=o.bind fun v=>if closedV v then some v else none
theorem QfE {o:Option Value} {v:Value} (h:clo o=some v):o=some v∧closedV v=true:=by
 unfold clo at h
 obtain ⟨u,hu,h2⟩:=Option.bind_eq_some_iff.1 h
 split at h2
 ·rename_i hc
  obtain rfl:=Option.some.inj h2
  exact ⟨hu,hc⟩
 ·cases h2
def QiC : Value→Option Bool
 | .slice none 0 0=>some true
 | .slice (some _) _ _=>some false
 | .pointer none=>some true
 | .pointer (some _)=>some false
 | _=>none
def QnA (P:Program) (op:BinOp) (t:TypeId) (x y:Value):Option Value :=
 match op,QiC x,QiC y,P.underlying t with
 | .eql,some true,some b,some (.slice _) | .eql,some b,some true,some (.slice _)=>match x,y with | .slice _ _ _, .slice _ _ _=>some (.bool b) | _,_=>none
 | .neq,some true,some b,some (.slice _) | .neq,some b,some true,some (.slice _)=>match x,y with | .slice _ _ _, .slice _ _ _=>some (.bool !b) | _,_=>none
 | _,_,_,_=>none
def QbF (P:Program) (op:BinOp) (t:TypeId) (xo yo:Operand) (x y:Value):Option Value :=
 if closedV x && closedV y then clo (QeY P (do eqGuard op t xo yo x y;binOp op t x y)) else QnA P op t x y
theorem Qee {ρ:Zv} {x x':Value} (h:VR ρ x x') {a:Option Addr} {n m:Nat} (hx:x= .slice a n m):∃a' n' m',x'= .slice a' n' m'∧a'.isNone=a.isNone:=by
 subst hx
 cases h with
 | sl0=>exact ⟨_,_,_,rfl,rfl⟩
 | sl o n m c h hn hf hm=>exact ⟨_,_,_,rfl,rfl⟩
 | sle o o' m c sp h hf hm hsp=>exact ⟨_,_,_,rfl,rfl⟩
theorem Qj3 {P:Program} {t e:TypeId} (hu:P.underlying t=some (.slice e)) (d:Nat) {a b:Option Addr} (n m k l:Nat) (hab:a.isNone=true∨b.isNone=true) (W:World) :
  (Op.equalIn (d+1) t (.slice a n m) (.slice b k l)).run P W= .ok (a.isNone && b.isNone) W:=by
 cases a<;>cases b<;>simp at hab<;>simp only [Op.equalIn,Sem.run_bind,run_underlying hu,Result.andThen_ok]<;>rfl
theorem Qjh {P:Program} {ρ:Zv} {W:World} {op:BinOp} {t:TypeId} {xo yo:Operand} {x x' y y' v:Value} (h:QnA P op t x y=some v) (hx:VR ρ x x') (hy:VR ρ y y') :
  ((do eqGuard op t xo yo x' y';binOp op t x' y'):Sem Value).run P W= .ok v W∧VR ρ v v:=by
 have key:∀(a b:Option Addr) (n m n2 m2:Nat) (e:TypeId),x= .slice a n m→y= .slice b n2 m2→P.underlying t=some (.slice e)→(a.isNone=true∨b.isNone=true) →
   ((do eqGuard .eql t xo yo x' y';binOp .eql t x' y'):Sem Value).run P W= .ok (.bool (a.isNone && b.isNone)) W∧((do eqGuard .neq t xo yo x' y';binOp .neq t x' y'):Sem Value).run P W= .ok (.bool !(a.isNone && b.isNone)) W:=by
  intro a b n m n2 m2 e ex ey hu hab
  obtain ⟨a',n',m',rfl,ha⟩:=Qee hx ex
  obtain ⟨b',k',l',rfl,hb⟩:=Qee hy ey
  rw [← ha,← hb] at hab ⊢
  have he:=Qj3 hu 9999 n' m' k' l' hab W
  have he2:(Op.equal t (.slice a' n' m') (.slice b' k' l')).run P W= .ok (a'.isNone && b'.isNone) W:=he
  constructor
  ·have h1:(eqGuard .eql t xo yo (.slice a' n' m') (.slice b' k' l')).run P W= .ok () W:=by simp [eqGuard]
   have h2:binOp .eql t (.slice a' n' m') (.slice b' k' l')=(do pure (.bool (← Op.equal t (.slice a' n' m') (.slice b' k' l')))):=by simp only [binOp]
   rw [Sem.run_bind,h1,Result.andThen_ok,h2,Sem.run_bind,he2,Result.andThen_ok,Sem.run_pure]
  ·have h1:(eqGuard .neq t xo yo (.slice a' n' m') (.slice b' k' l')).run P W= .ok () W:=by simp [eqGuard]
   have h2:binOp .neq t (.slice a' n' m') (.slice b' k' l')=(do pure (.bool (!(← Op.equal t (.slice a' n' m') (.slice b' k' l'))))):=by simp only [binOp]
   rw [Sem.run_bind,h1,Result.andThen_ok,h2,Sem.run_bind,he2,Result.andThen_ok,Sem.run_pure]
 unfold QnA at h
 have hnil:∀ {z:Value} {b:Bool} {a:Option Addr} {n m:Nat},QiC z=some b→z= .slice a n m→b=a.isNone:=by
  intro z b a n m hz hza
  subst hza
  cases a with
  | none =>
   unfold QiC at hz
   split at hz<;>simp_all
  | some _=>simpa [QiC] using hz.symm
 split at h
 ·rename_i b e h1 h2 hu
  split at h
  ·obtain rfl:=Option.some.inj h
   have e1:=hnil h1 Y
   have e2:=hnil h2 Y
   obtain ⟨k1,_⟩:=key _ _ _ _ _ _ e Y Y hu (.inl e1.symm)
   rw [← e1,← e2] at k1
   exact ⟨by simpa using k1, .bool _⟩
  ·cases h
 ·rename_i b e _ h1 h2 hu
  split at h
  ·obtain rfl:=Option.some.inj h
   have e1:=hnil h1 Y
   have e2:=hnil h2 Y
   obtain ⟨k1,_⟩:=key _ _ _ _ _ _ e Y Y hu (.inr e2.symm)
   rw [← e1,← e2] at k1
   exact ⟨by simpa using k1, .bool _⟩
  ·cases h
 ·rename_i b e h1 h2 hu
  split at h
  ·obtain rfl:=Option.some.inj h
   have e1:=hnil h1 Y
   have e2:=hnil h2 Y
   obtain ⟨_,k1⟩:=key _ _ _ _ _ _ e Y Y hu (.inl e1.symm)
   rw [← e1,← e2] at k1
   exact ⟨by simpa using k1, .bool _⟩
  ·cases h
 ·rename_i b e _ h1 h2 hu
  split at h
  ·obtain rfl:=Option.some.inj h
   have e1:=hnil h1 Y
   have e2:=hnil h2 Y
   obtain ⟨_,k1⟩:=key _ _ _ _ _ _ e Y Y hu (.inr e2.symm)
   rw [← e1,← e2] at k1
   exact ⟨by simpa using k1, .bool _⟩
  ·cases h
 ·cases h
theorem QiR {P:Program} {ρ:Zv} {W:World} {op:BinOp} {t:TypeId} {xo yo:Operand} {x x' y y' v:Value} (h:QbF P op t xo yo x y=some v) (hx:VR ρ x x') (hy:VR ρ y y') :
  ((do eqGuard op t xo yo x' y';binOp op t x' y'):Sem Value).run P W= .ok v W∧VR ρ v v:=by
 unfold QbF at h
 split at h
 ·rename_i hc
  rw [Bool.and_eq_true] at hc
  obtain ⟨h1,h2⟩:=QfE h
  rw [hx.eq hc.1,hy.eq hc.2]
  exact ⟨QcU h1 W, .closedV h2⟩
 ·exact Qjh h hx hy
def aun (P:Program) (op:UnOp) (x:Value):Option Value:=if closedV x then clo (QeY P (Op.unary op x)) else none
theorem Qj6 {P:Program} {ρ:Zv} {W:World} {op:UnOp} {x x' v:Value} (h:aun P op x=some v) (hx:VR ρ x x'):(Op.unary op x').run P W= .ok v W∧VR ρ v v:=by
 unfold aun at h
 split at h
 ·rename_i hc
  obtain ⟨h1,h2⟩:=QfE h
  rw [hx.eq hc]
  exact ⟨QcU h1 W, .closedV h2⟩
 ·cases h
def Qiq (P:Program) (t:TypeId) (H:AH) (x:Value):Option Value :=
 match P.underlying t,x with
 | some .string, .string s=>some (.int .i64 s.size)
 | some (.slice _), .slice _ n _=>some (.int .i64 n)
 | some (.map _ _), .map none=>some (.int .i64 0)
 | some (.map _ _), .map (some k)=>match H k with | some (.map es)=>some (.int .i64 es.length) | _=>none
 | _,_=>none
theorem Qji {P:Program} {b0:Nat} {ρ:Zv} {H:AH} {W:World} {t ty:TypeId} {x x' v:Value} (h:Qiq P t H x=some v) (hx:VR ρ x x') (hR:Rel b0 ρ H W):(Builtin.len_ #[t] ty #[x']).run P W= .ok v W∧VR ρ v v:=by
 unfold Qiq at h
 split at h
 ·rename_i s hu
  obtain rfl:=Option.some.inj h
  cases hx
  exact ⟨by simp [Builtin.len_,run_underlying hu,goInt], .int _ _⟩
 ·rename_i a n m e hu
  obtain rfl:=Option.some.inj h
  cases hx<;>exact ⟨by simp [Builtin.len_,run_underlying hu,goInt], .int _ _⟩
 ·rename_i a b hu
  obtain rfl:=Option.some.inj h
  cases hx
  exact ⟨by simp [Builtin.len_,run_underlying hu,goInt], .int _ _⟩
 ·rename_i a b k hu
  split at h
  ·rename_i es hk
   obtain rfl:=Option.some.inj h
   cases hx with
   | @map _ s hs =>
    obtain ⟨s',hs',arr,clock,ha,hl,_⟩:=hR.tok k _ hk
    rw [hs] at hs'
    cases hs'
    refine ⟨?_, .int _ _⟩
    have hg:(getObj s.b).run P W= .ok (.map arr clock) W:=by simp [getObj,Sem.run,ha]
    simp [Builtin.len_,run_underlying hu,goInt,hg,hl]
  ·cases h
 ·cases h
def amm (P:Program) (mx:Bool) (args:List Value):Option Value :=
 if args.all closedV then clo (QeY P (if mx then Builtin.max_ #[] 0 args.toArray else Builtin.min_ #[] 0 args.toArray)) else none
theorem LR.eq {ρ:Zv} {a b:List Value} (h:LR ρ a b) (hc:a.all closedV=true):b=a:=by
 apply List.ext_getElem h.1.symm
 intro i h1 h2
 have h3:=h.2 i h2
 have h4:closedV (a.getD i undef)=true:=by
  have:=List.all_eq_true.1 hc _ (List.getElem_mem h2)
  simpa [List.getD_eq_getElem?_getD,List.getElem?_eq_getElem h2] using this
 have h5:=h3.eq h4
 simpa [List.getD_eq_getElem?_getD,List.getElem?_eq_getElem h2,List.getElem?_eq_getElem h1] using h5
theorem Qgz {P:Program} {ρ:Zv} {W:World} {mx:Bool} {args:List Value} {args':Array Value} {v:Value} {ats:Array TypeId} {ty:TypeId} (h:amm P mx args=some v) (hx:LR ρ args args'.toList) :
  (if mx then Builtin.max_ ats ty args' else Builtin.min_ ats ty args').run P W= .ok v W∧VR ρ v v:=by
 unfold amm at h
 split at h
 ·rename_i hc
  obtain ⟨h1,h2⟩:=QfE h
  have he:=hx.eq hc
  have he2:args'=args.toArray:=by rw [← he]
  subst he2
  refine ⟨?_, .closedV h2⟩
  have:=QcU h1 W
  cases mx<;>simpa [Builtin.max_,Builtin.min_] using this
 ·cases h
theorem Stp.kill {b0 p k:Nat} {ρ:Zv} {H:AH} {W:World} (hR:Rel b0 ρ H W):Stp b0 p ρ H W ρ (H.upd k none) W:=by
 have hs:∀u o,H.upd k none u=some o→H u=some o:=by
  intro u o hu
  unfold AH.upd at hu
  split at hu
  ·cases hu
  ·exact hu
 have hn:∀u,H.upd k none u≠none→H u≠none:=by
  intro u hu
  obtain ⟨o,ho⟩:=Option.ne_none_iff_exists'.1 hu
  rw [hs u o ho]
  simp
 exact ⟨.refl _ _,⟨fun u o hu=>hR.tok u o (hs u o hu),fun u u' s s' h1 h2 h3 h4=>hR.inj u u' s s' h1 h2 (hn u h3) (hn u' h4),hR.le,hR.glob⟩,Nat.le_refl _,fun _ _ _=>rfl,fun b ⟨u,s,h1,h2,h3,h4⟩=> .inl ⟨u,s,h1,hn u h2,h3,h4⟩,fun u hu=> .inl (hn u hu),⟨rfl,rfl,rfl⟩⟩
def Jv (s:ByteArray):List Value:=byteCells s
theorem Qcy (s:ByteArray):∀v∈Jv s,closed1 v=true:=by
 intro v hv
 unfold Jv byteCells at hv
 obtain ⟨_,_,rfl⟩:=List.mem_map.1 hv
 rfl
theorem LR.closed {ρ:Zv} {l:List Value} (h:∀v∈l,closed1 v=true):LR ρ l l:=⟨rfl,fun i hi=>by
 rw [List.getD_eq_getElem?_getD,List.getElem?_eq_getElem hi]
 exact .closed1 (h _ (List.getElem_mem hi))⟩
def Qe5 (P:Program) (sz:Nat) (xt:TypeId) (H:AH) (x:Value):Option (Nat×List Value) :=
 match P.underlying xt,x with
 | some (.slice _), .slice none 0 0=>some (0,[])
 | some (.slice _), .slice (some ⟨k,o,none⟩) n _ =>
  if n=0 then some (0,[]) else
  match H k with
  | some (.cells _ cs)=>if o+n*sz≤cs.length∧((cs.drop o).take (n*sz)).all (·.oneCell')=true then some (n,(cs.drop o).take (n*sz)) else none
  | _=>none
 | some .string, .string s=>if sz=1 then some (s.size,Jv s) else none
 | _,_=>none
theorem LR.one {ρ:Zv} {a b:List Value} (h:LR ρ a b) (ha:a.all (·.oneCell')=true):∀u∈b,u.oneCell'=true:=by
 intro u hu
 obtain ⟨i,hi⟩:=List.getElem?_of_mem hu
 have hlt:i<b.length:=(List.getElem?_eq_some_iff.1 hi).1
 have h1:=(h.2 i (by rw [h.1];exact hlt)).oneCell
 have h2:i<a.length:=by rw [h.1];exact hlt
 have h3:=List.all_eq_true.1 ha _ (List.getElem_mem h2)
 rw [List.getD_eq_getElem?_getD,hi,Option.getD_some,List.getD_eq_getElem?_getD,List.getElem?_eq_getElem h2,Option.getD_some] at h1
 rw [h1]
 exact h3
theorem Qje {P:Program} {b0 sz:Nat} {ρ:Zv} {H:AH} {W:World} {xt:TypeId} {x x':Value} {n:Nat} {news:List Value} (h:Qe5 P sz xt H x=some (n,news)) (hx:VR ρ x x') (hR:Rel b0 ρ H W) :
  ∃news',Src P sz xt x' n news' W∧LR ρ news news'∧news.length=n*sz:=by
 unfold Qe5 at h
 split at h
 ·rename_i e hu
  simp only [Option.some.injEq,Prod.mk.injEq] at h
  obtain ⟨rfl,rfl⟩:=h
  cases hx
  exact ⟨[],Src.ofNil W hu 0,LR.nil ρ,by simp⟩
 ·rename_i e k o m c hu
  split at h
  ·rename_i h0
   simp only [Option.some.injEq,Prod.mk.injEq] at h
   obtain ⟨rfl,rfl⟩:=h
   subst h0
   cases hx with
   | sl=>exact ⟨[],Src.ofSlice W hu _ 0 _ [] (by simp) (fun j u hj=>by simp at hj) (fun u hu=>by cases hu),LR.nil ρ,by simp⟩
   | sle=>exact ⟨[],Src.ofSlice W hu _ 0 _ [] (by simp) (fun j u hj=>by simp at hj) (fun u hu=>by cases hu),LR.nil ρ,by simp⟩
  ·rename_i h0
   split at h
   ·rename_i es cs hk
    split at h
    ·rename_i hc
     simp only [Option.some.injEq,Prod.mk.injEq] at h
     obtain ⟨rfl,rfl⟩:=h
     have ht:=hR.tok k _ hk
     cases hx with
     | @sl _ s _ _ _ cc hs hn hf hm =>
      obtain ⟨us,hul,hrun,hlr⟩:=Qb2 hs ht hc.1
      obtain ⟨s',hs',he,arr,ty,fr,ha,hal,hav,hw,hev⟩:=ht
      rw [hs] at hs'
      cases hs'
      have hlen:((arr.toList.drop (s.base+o)).take (m*sz)).length=m*sz:=by
       rw [List.length_take,List.length_drop,Array.length_toList]
       have:=hc.1
       omega
      have hlr2:LR ρ ((cs.drop o).take (m*sz)) ((arr.toList.drop (s.base+o)).take (m*sz)):=by
       refine ⟨by rw [hlen,List.length_take,List.length_drop];have:=hc.1;omega,fun i hi=> ?_⟩
       have hi':i<m*sz:=by rw [List.length_take,List.length_drop] at hi;omega
       have h1:=hav (o+i) (by have:=hc.1;omega)
       have e1:((cs.drop o).take (m*sz)).getD i undef=cs.getD (o+i) undef:=by
        simp [List.getD_eq_getElem?_getD,List.getElem?_take,hi',List.getElem?_drop]
       have e2:((arr.toList.drop (s.base+o)).take (m*sz)).getD i undef=arr.getD (s.base+(o+i)) undef:=by
        simp [List.getD_eq_getElem?_getD,List.getElem?_take,hi',List.getElem?_drop,Array.getD_eq_getD_getElem?,Nat.add_assoc]
       rw [e1,e2]
       exact h1
      refine ⟨_,Src.ofSlice W hu _ m _ _ hlen (fun j v hj=> ?_) (LR.one hlr2 hc.2),hlr2,by rw [hlr2.1,hlen]⟩
      rw [Qao]
      rw [List.getElem?_take] at hj
      split at hj
      ·rw [List.getElem?_drop] at hj
       simpa [World.cell?,ha] using hj
      ·cases hj
     | sle=>exact absurd Y h0
    ·cases h
   ·cases h
 ·rename_i s hu
  split at h
  ·rename_i hsz
   subst hsz
   simp only [Option.some.injEq,Prod.mk.injEq] at h
   obtain ⟨rfl,rfl⟩:=h
   cases hx
   exact ⟨byteCells s,Src.ofString W hu s,LR.closed (Qcy s),by simp [Jv,byteCells_length]⟩
  ·cases h
 ·cases h
def Qaw (P:Program) (p:Nat) (t xt:TypeId) (H:AH) (s x:Value):Option AR :=
 match P.underlying t with
 | some (.slice e) =>
  match Qe5 P (P.cellsOf e) xt H x,Zq P e with
  | some (n,news),some z =>
   if z.cells.size=P.cellsOf e∧2*n*P.bytesOf e≤281474976710656∧n≤4611686018427387903∧0<P.cellsOf e then
    match s with
    | .slice none 0 0=>if n=0 then some (.val s H) else some (.val (.slice (some ⟨Qn p,0,none⟩) n 1) (H.upd (Qn p) (some (.cells (P.cellsOf e) news))))
    | .slice (some ⟨k,o,none⟩) len m =>
     if n=0 then some (.val s H)
     else if m=0 then (if len=0 then some (.val (.slice (some ⟨Qn p,0,none⟩) n 1) (H.upd (Qn p) (some (.cells (P.cellsOf e) news)))) else none)
     else
      match H k with
      | some (.cells es cs) =>
       if k % 2=1∧es=P.cellsOf e∧(len=0∨o+len*P.cellsOf e≤cs.length)∧2*(len+n)*P.bytesOf e≤281474976710656∧len≤4611686018427387904 then
        some (.val (.slice (some ⟨Qn p,0,none⟩) (len+n) 1) ((H.upd k none).upd (Qn p) (some (.cells (P.cellsOf e) ((cs.drop o).take (len*P.cellsOf e)++news)))))
       else none
      | _=>none
    | _=>none
   else none
  | _,_=>none
 | _=>none
theorem QdE (z:Array Value) (n:Nat):(Builtin.zeroCells z n).size=n*z.size:=by simp [Builtin.zeroCells]
theorem Stp.grown {b0 p es:Nat} {ρ:Zv} {H:AH} {W:World} {cs cs':List Value} {rest:Array Value} {ty:TypeId} {c:Nat} (hR:Rel b0 ρ H W) (hf:∀t,Under p t→ρ t=none) (hp:p % 2=1) (hv:LR ρ cs cs') (hsz:c≤cs'.length+rest.size) :
  ∃ρ':Zv,ρ' (Qn p)=some ⟨W.heap.size,0,c,es⟩∧Stp b0 p ρ H W ρ' (H.upd (Qn p) (some (.cells es cs))) (W.drew.alloc (.cells (cs'.toArray++rest) ty)):=by
 refine ⟨_,?_,Stp.new (sz:=c) (arr:=cs'.toArray++rest) (ty:=ty) (fr:=(0,0)) hR hf hp Y Y (by simp [hv.1]) (fun i hi=> ?_) (by simpa using hsz) (fun off _=>by omega)⟩
 ·simp [Qn]
 ·have h1:=hv.2 i hi
  have h2:i<cs'.length:=by rw [← hv.1];exact hi
  simpa [Array.getD_eq_getD_getElem?,List.getD_eq_getElem?_getD,Array.getElem?_append,h2] using h1
theorem Qed (W:World) (need old:Nat) (e:TypeId):need≤grownCap W need old e:=by
 unfold grownCap
 simp only [Question.cut]
 omega
theorem QcN {P:Program} {b0 p:Nat} {ρ:Zv} {H:AH} {W:World} {t xt ty e:TypeId} {i:TypeInfo} {z:Value} {base:Option Addr} {len cap n:Nat} {olds olds' news news':List Value} {x':Value} (hu:P.underlying t=some (.slice e)) (hi:P.info? e=some i) (hz:i.zero=some z) (hzs:z.cells.size=i.size)
  (hR:Rel b0 ρ H W) (hf:∀t,Under p t→ρ t=none) (hp:p % 2=1) (hsrc:Src P i.size xt x' n news' W) (hnews:LR ρ news news') (hnl:news'.length=n*i.size) (hold:LR ρ olds olds') (hol:olds'.length=len*i.size)
  (hrun:(Builtin.firstCells i.size len (.slice base len cap)).run P W.drew= .ok olds'.toArray W.drew) (hg:cap<len+n) (h1:2*(len+n)*i.bytes≤281474976710656) (h2:len+n≤9223372036854775807) :
  ∃v' W' ρ',(Builtin.append_ #[t,xt] ty #[.slice base len cap,x']).run P W= .ok v' W'∧Stp b0 p ρ H W ρ' (H.upd (Qn p) (some (.cells i.size (olds++news)))) W'∧VR ρ' (.slice (some ⟨Qn p,0,none⟩) (len+n) 1) v':=by
 have hfit:Builtin.nextslicecap (len+n) cap*i.bytes≤281474976710656:=Nat.le_trans (Nat.mul_le_mul_right _ (nextslicecap_le hg)) h1
 have hr:=run_append_grow_src (P:=P) W t xt ty e i z hu hi hz base len cap olds' hrun x' n news' hsrc hg (by omega) hfit
 have hge:=Qed W (len+n) cap e
 obtain ⟨ρ',h3,h4⟩:=Stp.grown (es:=i.size) (ty:=e) (rest:=Builtin.zeroCells z.cells (grownCap W (len+n) cap e - (len+n))) (c:=grownCap W (len+n) cap e*i.size) hR hf hp (hold.append hnews) (by
  rw [List.length_append,hol,hnl,QdE,hzs,← Nat.add_mul,← Nat.add_mul]
  exact Nat.mul_le_mul_right _ (by omega))
 refine ⟨_,_,ρ',hr,h4,?_⟩
 exact VR.sl (ρ:=ρ') (s:=⟨W.heap.size,0,grownCap W (len+n) cap e*i.size,i.size⟩) 0 (len+n) 1 _ h3 hge (.inr (by simp)) (by simp)
theorem Qi7 {P:Program} {b0 p k o len cap n es:Nat} {ρ:Zv} {H:AH} {W:World} {t xt ty e:TypeId} {i:TypeInfo} {s:Slot} {o':Nat} {cs news news':List Value} {x':Value} (hu:P.underlying t=some (.slice e)) (hi:P.info? e=some i)
  (hR:Rel b0 ρ H W) (hf:∀t,Under p t→ρ t=none) (hp:p % 2=1) (hsrc:Src P i.size xt x' n news' W) (hnews:LR ρ news news') (hnl:news'.length=n*i.size)
  (hk:H k=some (.cells es cs)) (hodd:k % 2=1) (hs:ρ k=some s) (hes:es=i.size) (hpos:0<i.size) (hfits:o'+cap*s.es≤s.sz) (hold:LR ρ ((cs.drop o).take (len*i.size)) ((cs.drop o).take (len*i.size))∨True)
  (hof:len=0∨(o+len*i.size≤cs.length∧o'=s.base+o)) (hroom:len+n≤cap) :
  ∃W' ρ',(Builtin.append_ #[t,xt] ty #[.slice (some ⟨s.b,o',none⟩) len cap,x']).run P W= .ok (.slice (some ⟨s.b,o',none⟩) (len+n) cap) W' ∧
   Stp b0 p ρ H W ρ' ((H.upd k none).upd (Qn p) (some (.cells i.size ((cs.drop o).take (len*i.size)++news)))) W'∧VR ρ' (.slice (some ⟨Qn p,0,none⟩) (len+n) 1) (.slice (some ⟨s.b,o',none⟩) (len+n) cap):=by
 obtain ⟨s',hs',he,arr,ty0,fr,ha,hal,hav,hw,hev⟩:=hR.tok k _ hk
 rw [hs] at hs'
 cases hs'
 obtain ⟨hb0,hsz,hfr⟩:=hw hodd
 have hse:s.es=i.size:=he.trans hes
 rw [hse] at hfits
 have hcapm:(len+n)*i.size≤cap*i.size:=Nat.mul_le_mul_right _ hroom
 have hbound:o'+len*i.size+news'.length≤arr.size:=by
  rw [hnl]
  rw [Nat.add_mul] at hcapm
  omega
 have hrun:=run_append_room_src (P:=P) W t xt ty e i hu hi s.b o' len cap x' n news' hsrc hroom (fun j hj=>by
  have:o'+len*i.size+j<arr.size:=by omega
  simp [World.cell?,ha,this]) (fun j hj=>hfr _ (by omega))
 obtain ⟨arr',ha',hsz',hg⟩:=QaS s.b news' (o'+len*i.size) W arr ty0 fr ha hbound
 have hother:∀c,c≠s.b→(W.setCells s.b (o'+len*i.size) news').heap[c]? =W.heap[c]? :=fun c hc=>Qaq _ _ _ _ _ hc
 have htk:ρ (Qn p)=none:=hf _ (.step 0 .refl)
 have hne:Qn p≠k:=fun h=>by rw [h,hs] at htk;cases htk
 have hρ:∀u q,ρ u=some q→(fun u=>if u=Qn p then some (⟨s.b,o',s.sz,s.es⟩:Slot) else ρ u) u=some q:=by
  intro u q e
  have:u≠Qn p:=fun he=>by rw [he,htk] at e;cases e
  simp only [if_neg this]
  exact e
 have hold2:∀u,u≠Qn p→((H.upd k none).upd (Qn p) (some (.cells i.size ((cs.drop o).take (len*i.size)++news)))) u≠none→H u≠none∧u≠k:=by
  intro u hut hu
  unfold AH.upd at hu
  rw [if_neg hut] at hu
  by_cases huk:u=k
  ·rw [if_pos huk] at hu
   exact absurd Y hu
  ·rw [if_neg huk] at hu
   exact ⟨hu,huk⟩
 refine ⟨_,fun u=>if u=Qn p then some ⟨s.b,o',s.sz,s.es⟩ else ρ u,hrun,⟨⟨hρ,fun u hu=> ?_⟩,⟨fun u obj hu=> ?_,?_,?_,hR.glob.keep (fun b hb=>hother b (by omega))⟩,?_,fun b hb hn=> ?_,?_,fun u hu=> ?_,QaU _ _ _ _⟩,?_⟩
 ·by_cases hut:u=Qn p
  ·exact .inr (by rw [hut];exact .step 0 .refl)
  ·simp only [if_neg hut] at hu
   exact .inl hu
 ·by_cases hut:u=Qn p
  ·subst hut
   simp only [AH.upd,if_true] at hu
   obtain rfl:=Option.some.inj hu
   have hlen1:((cs.drop o).take (len*i.size)).length=len*i.size:=by
    rcases hof with h0 | h0
    ·simp [h0]
    ·rw [List.length_take,List.length_drop];omega
   refine ⟨⟨s.b,o',s.sz,s.es⟩,by simp,hse,arr',ty0,fr,ha',?_,fun j hj=> ?_,fun _=>⟨hb0,by simp only;omega,fun off hoff=> ?_⟩,fun h0=> ?_⟩
   ·rw [List.length_append,hlen1,hnews.1,hsz']
    simp only
    omega
   ·simp only
    rw [hg]
    rw [List.length_append,hlen1] at hj
    by_cases hjl:j<len*i.size
    ·rw [if_neg (by omega)]
     rcases hof with h0 | ⟨h0,h01⟩
     ·rw [h0] at hjl
      omega
     ·have h5:=hav (o+j) (by omega)
      have e1:(((cs.drop o).take (len*i.size))++news).getD j undef=cs.getD (o+j) undef:=by
       rw [List.getD_eq_getElem?_getD,List.getElem?_append_left (by omega),List.getElem?_take,if_pos hjl,List.getElem?_drop,← List.getD_eq_getElem?_getD]
      rw [e1]
      have h6:=h5.mono hρ
      rw [← Nat.add_assoc,← h01] at h6
      exact h6
    ·have hjn:j - len*i.size<news.length:=by omega
     rw [if_pos (by rw [← hnews.1];omega)]
     have h5:=hnews.2 (j - len*i.size) hjn
     have e1:(((cs.drop o).take (len*i.size))++news).getD j undef=news.getD (j - len*i.size) undef:=by
      rw [List.getD_eq_getElem?_getD,List.getElem?_append_right (by omega),hlen1,← List.getD_eq_getElem?_getD]
     rw [e1,show o'+j - (o'+len*i.size)=j - len*i.size by omega]
     exact h5.mono hρ
   ·rw [World.frozen?_setCells]
    exact hfr off (by omega)
   ·have:=YL p 0
    unfold Qn at h0
    omega
  ·have hh:=hold2 u hut (by rw [hu];simp)
   unfold AH.upd at hu
   rw [if_neg hut,if_neg hh.2] at hu
   have h1:=hR.tok u obj hu
   refine h1.mono hρ (fun s2 hs2=>hother _ (fun hbe=>hh.2 ?_))
   exact hR.same (by rw [hk];simp) hodd hs (by rw [hu];simp) hs2 hbe
 ·intro u u' s1 s2 h1 h2 h3 h4 h5 h6 h7
  by_cases hut:u=Qn p<;>by_cases hut':u'=Qn p
  ·rw [hut,hut']
  ·have hh:=hold2 u' hut' h4
   simp only [if_pos hut,Option.some.injEq] at h5
   simp only [if_neg hut'] at h6
   rw [← h5] at h7
   exact absurd (hR.same (by rw [hk];simp) hodd hs hh.1 h6 h7.symm) hh.2
  ·have hh:=hold2 u hut h3
   simp only [if_pos hut',Option.some.injEq] at h6
   simp only [if_neg hut] at h5
   rw [← h6] at h7
   exact absurd (hR.same (by rw [hk];simp) hodd hs hh.1 h5 h7) hh.2
  ·have hh:=hold2 u hut h3
   have hh':=hold2 u' hut' h4
   simp only [if_neg hut] at h5
   simp only [if_neg hut'] at h6
   exact hR.inj u u' s1 s2 h1 h2 hh.1 hh'.1 h5 h6 h7
 ·rw [YV]
  exact hR.le
 ·rw [YV]
  exact Nat.le_refl _
 ·exact hother b (fun hbe=>hn ⟨k,s,hodd,by rw [hk];simp,hs,hbe.symm⟩)
 ·rintro b ⟨u,s1,h1,h2,h3,h4⟩
  by_cases hut:u=Qn p
  ·simp only [if_pos hut,Option.some.injEq] at h3
   rw [← h3] at h4
   exact .inl ⟨k,s,hodd,by rw [hk];simp,hs,h4⟩
  ·have hh:=hold2 u hut h2
   simp only [if_neg hut] at h3
   exact .inl ⟨u,s1,h1,hh.1,h3,h4⟩
 ·by_cases hut:u=Qn p
  ·exact .inr (by rw [hut];exact .step 0 .refl)
  ·exact .inl (hold2 u hut hu).1
 ·have:=VR.sl (ρ:=fun u=>if u=Qn p then some (⟨s.b,o',s.sz,s.es⟩:Slot) else ρ u) (t:=Qn p) (s:=⟨s.b,o',s.sz,s.es⟩) 0 (len+n) 1 cap (by simp) hroom (.inr (by simp only [Nat.add_zero];rw [hse];exact hfits)) (by simp)
  simpa using this
theorem Qgg {P:Program} {b0 p:Nat} {ρ:Zv} {H:AH} {W:World} {t xt ty:TypeId} {s s' x x':Value} {r:AR} (h:Qaw P p t xt H s x=some r) (hs:VR ρ s s') (hx:VR ρ x x') (hR:Rel b0 ρ H W) (hf:∀t,Under p t→ρ t=none) (hp:p % 2=1) :
  ∃v H' u W' ρ',r= .val v H'∧(Builtin.append_ #[t,xt] ty #[s',x']).run P W= .ok u W'∧Stp b0 p ρ H W ρ' H' W'∧VR ρ' v u:=by
 unfold Qaw at h
 split at h
 ·rename_i e hu
  obtain ⟨i,hi⟩:∃i,P.info? e=some i:=by
   split at h
   ·rename_i hz
    obtain ⟨i,hi,_⟩:=Option.bind_eq_some_iff.1 hz
    exact ⟨i,hi⟩
   ·cases h
  have hce:P.cellsOf e=i.size:=by simp [Program.cellsOf,hi]
  have hbe:P.bytesOf e=i.bytes:=by simp [Program.bytesOf,hi]
  rw [hce,hbe] at h
  split at h
  ·rename_i n news z hsr hz
   obtain ⟨i2,hi2,hiz⟩:=Option.bind_eq_some_iff.1 hz
   rw [hi] at hi2
   cases hi2
   obtain ⟨news',hsrc,hlr,hnl⟩:=Qje hsr hx hR
   have hnl':news'.length=n*i.size:=by rw [← hlr.1];exact hnl
   split at h
   ·rename_i hc
    obtain ⟨hzs,hb1,hb2,hpos⟩:=hc
    split at h
    ·-- nil
     cases hs
     split at h
     ·rename_i hn0
      subst hn0
      obtain rfl:=Option.some.inj h
      refine ⟨_,_, .slice none 0 0,W,ρ,rfl,?_, .refl hR, .sl0⟩
      rcases hsrc.kind with ⟨e',hk⟩ | hk<;>simp [Builtin.append_,run_underlying hu,run_underlying hk,sizeOf,typeInfo,hi,hsrc.len,hsrc.cells,storeCells]
     ·rename_i hn0
      obtain rfl:=Option.some.inj h
      obtain ⟨v',W',ρ',h1,h2,h3⟩:=QcN (ty:=ty) (base:=none) (len:=0) (cap:=0) (olds:= []) (olds':= []) hu hi hiz hzs hR hf hp hsrc hlr hnl' (LR.nil ρ) (by simp) (by simp [Builtin.firstCells]) (by omega) (by simpa using hb1) (by omega)
      exact ⟨_,_,v',W',ρ',rfl,h1,by simpa using h2,by simpa using h3⟩
    ·rename_i k o len m
     split at h
     ·rename_i hn0
      subst hn0
      obtain rfl:=Option.some.inj h
      have hnn:news'= []:=List.eq_nil_of_length_eq_zero (by simpa using hnl')
      subst hnn
      cases hs with
      | @sl _ q _ _ _ c hq hn hfit hm =>
       have:=run_append_room_src (P:=P) W t xt ty e i hu hi q.b (q.base+o) len c x' 0 [] hsrc (by omega) (fun j hj=>by simp at hj) (fun j hj=>by simp at hj)
       exact ⟨_,_,_,W,ρ,rfl,by simpa [World.setCells] using this, .refl hR, .sl _ _ _ _ hq hn hfit hm⟩
      | @sle _ q _ o' _ c sp hq hfit hm hsp =>
       refine ⟨_,_, .slice (some ⟨q.b,o',sp⟩) 0 c,W,ρ,rfl,?_, .refl hR, .sle _ _ _ _ sp hq hfit hm hsp⟩
       rcases hsp with rfl | rfl
       ·have:=run_append_room_src (P:=P) W t xt ty e i hu hi q.b o' 0 c x' 0 [] hsrc (by omega) (fun j hj=>by simp at hj) (fun j hj=>by simp at hj)
        simpa [World.setCells] using this
       ·rcases hsrc.kind with ⟨e',hk⟩ | hk<;>simp [Builtin.append_,run_underlying hu,run_underlying hk,sizeOf,typeInfo,hi,hsrc.len,hsrc.cells,storeCells]
     ·rename_i hn0
      split at h
      ·rename_i hm0
       split at h
       ·rename_i hl0
        obtain rfl:=Option.some.inj h
        have key:∀a:Addr,s'= .slice (some a) 0 0→∃v H' u W' ρ',AR.val (.slice (some ⟨Qn p,0,none⟩) n 1) (H.upd (Qn p) (some (.cells i.size news)))= .val v H'∧(Builtin.append_ #[t,xt] ty #[s',x']).run P W= .ok u W'∧Stp b0 p ρ H W ρ' H' W'∧VR ρ' v u:=by
         rintro a rfl
         obtain ⟨v',W',ρ',h1,h2,h3⟩:=QcN (ty:=ty) (base:=some a) (len:=0) (cap:=0) (olds:= []) (olds':= []) hu hi hiz hzs hR hf hp hsrc hlr hnl' (LR.nil ρ) (by simp) (by simp [Builtin.firstCells,loadCells,loadCellsFrom]) (by omega) (by simpa using hb1) (by omega)
         exact ⟨_,_,v',W',ρ',rfl,h1,by simpa using h2,by simpa using h3⟩
        cases hs with
        | @sl _ q _ _ _ c hq hn hfit hm =>
         have hc0:=hm hm0
         subst hc0
         subst hl0
         exact key _ Y
        | @sle _ q _ o' _ c sp hq hfit hm hsp =>
         have hc0:=hm hm0
         subst hc0
         exact key _ Y
       ·cases h
      ·rename_i hm0
       split at h
       ·rename_i es cs hk
        split at h
        ·rename_i hcc
         obtain ⟨hodd,hes,hlo,hb3,hb4⟩:=hcc
         obtain rfl:=Option.some.inj h
         obtain ⟨q0,hq0,hqe,_⟩:=hR.tok k _ hk
         have main:∀(o' c:Nat) (sp:Option Nat),s'= .slice (some ⟨q0.b,o',sp⟩) len c→(sp=none∨c=0)→len≤c→(len=0∨o'=q0.base+o)→(q0.es=0∨o'+c*q0.es≤q0.sz) →
           ∃v H' u W' ρ',AR.val (.slice (some ⟨Qn p,0,none⟩) (len+n) 1) ((H.upd k none).upd (Qn p) (some (.cells i.size ((cs.drop o).take (len*i.size)++news))))= .val v H'∧(Builtin.append_ #[t,xt] ty #[s',x']).run P W= .ok u W'∧Stp b0 p ρ H W ρ' H' W'∧VR ρ' v u:=by
          rintro o' c sp rfl hsp hlc ho' hfit
          have hfit':o'+c*q0.es≤q0.sz:=hfit.resolve_left (by rw [hqe,hes];omega)
          by_cases hroom:len+n≤c
          ·obtain rfl:sp=none:=hsp.resolve_right (by omega)
           obtain ⟨W',ρ',h1,h2,h3⟩:=Qi7 (ty:=ty) (o:=o) hu hi hR hf hp hsrc hlr hnl' hk hodd hq0 hes hpos hfit' (.inr trivial) (by rcases hlo with h0 | h0;exact .inl h0;exact ho'.elim .inl (fun h5=> .inr ⟨h0,h5⟩)) hroom
           exact ⟨_,_,_,W',ρ',rfl,h1,h2,h3⟩
          ·-- grown
           have hkill:Stp b0 p ρ H W ρ (H.upd k none) W:=Stp.kill hR
           obtain ⟨olds',holen,hrun,holr⟩:∃olds':List Value,olds'.length=len*i.size∧(Builtin.firstCells i.size len (.slice (some ⟨q0.b,o',sp⟩) len c)).run P W.drew= .ok olds'.toArray W.drew∧LR ρ ((cs.drop o).take (len*i.size)) olds':=by
            rcases hlo with h0 | h0
            ·subst h0
             exact ⟨[],by simp,by simp [Builtin.firstCells,loadCells,loadCellsFrom],by simpa using LR.nil ρ⟩
            ·rcases ho' with h5 | h5
             ·subst h5
              exact ⟨[],by simp,by simp [Builtin.firstCells,loadCells,loadCellsFrom],by simpa using LR.nil ρ⟩
             ·subst h5
              by_cases hl0:len=0
              ·subst hl0
               exact ⟨[],by simp,by simp [Builtin.firstCells,loadCells,loadCellsFrom],by simpa using LR.nil ρ⟩
              obtain rfl:sp=none:=hsp.resolve_right (by omega)
              have hR':Rel b0 ρ H W.drew:=hR.world Y
              obtain ⟨us,h6,h7,h8⟩:=Qb2 hq0 (hR'.tok k _ hk) h0
              exact ⟨us,h6,by simpa [Builtin.firstCells] using h7 P,h8⟩
           obtain ⟨v',W',ρ',h1,h2,h3⟩:=QcN (ty:=ty) (base:=some ⟨q0.b,o',sp⟩) (len:=len) (cap:=c) hu hi hiz hzs hkill.rel hf hp hsrc hlr hnl' holr holen hrun (by omega) hb3 (by omega)
           exact ⟨_,_,v',W',ρ',rfl,h1,hkill.trans h2,h3⟩
         cases hs with
         | @sl _ q _ _ _ c hq hn hfit hm =>
          rw [hq0] at hq
          cases hq
          exact main _ c none Y (.inl Y) hn (.inr Y) hfit
         | @sle _ q _ o' _ c sp hq hfit hm hsp =>
          rw [hq0] at hq
          cases hq
          exact main o' c sp Y hsp (Nat.zero_le _) (.inl Y) hfit
        ·cases h
       ·cases h
    ·cases h
   ·cases h
  ·cases h
 ·cases h
def eqf (f:TypeId→Value→Value→Option Bool) (P:Program) (xs ys:Array Value):List Field→Option Bool
  | []=>some true
  | fd::fs =>
    if fd.name = "_" then none else
    match apart P fd.type xs fd.offset,apart P fd.type ys fd.offset with
    | some a,some b =>
      match f fd.type a b with
      | some true=>eqf f P xs ys fs
      | some false=>some false
      | none=>none
    | _,_=>none
def eqv (P:Program):Nat→TypeId→Value→Value→Option Bool
 | 0,_,_,_=>none
 | d+1,t,x,y =>
  match P.underlying t,x,y with
  | some .bool, .bool a, .bool b=>some (a == b)
  | some (.int _), .int k a, .int k' b=>if k=k' then some (a == b) else none
  | some .string, .string a, .string b=>some (a.toList == b.toList)
  | some (.struct fs), .agg xs, .agg ys=>if P.stoodInHeld t then none else eqf (eqv P d) P xs ys fs.toList
  | _,_,_=>none
theorem Qgp {P:Program} {W:World} {t:TypeId} {cs:Array Value} {off:Nat} {v:Value} (h:apart P t cs off=some v):(part t cs off).run P W= .ok v W:=by
 unfold apart at h
 cases hb:Qw P t with
 | none=>simp [hb] at h
 | some b =>
  rw [hb] at h
  obtain ⟨i,hi⟩:=Qa0 hb
  cases b with
  | true =>
   simp only at h
   split at h
   ·obtain rfl:=Option.some.inj h
    simp [part,J8 hb,ZR hi]
   ·cases h
  | false =>
   simp only at h
   simp [part,J8 hb,h]
theorem QeK {P:Program} {W:World}:∀(d:Nat) (t:TypeId) (x y:Value) (b:Bool) (k:Nat),eqv P d t x y=some b→(Op.equalIn (d+k) t x y).run P W= .ok b W
 | 0,_,_,_,_,_,h=>by simp [eqv] at h
 | d+1,t,x,y,b,k,h=>by
  have e:d+1+k=d+k+1:=by omega
  rw [e]
  unfold eqv at h
  split at h
  ·rename_i hu
   obtain rfl:=Option.some.inj h
   exact run_equalIn_bool' W (d+k) t _ _ hu
  ·rename_i hu
   split at h
   ·rename_i hk
    subst hk
    obtain rfl:=Option.some.inj h
    exact run_equalIn_int W (d+k) t _ _ _ _ hu
   ·cases h
  ·rename_i hu
   obtain rfl:=Option.some.inj h
   exact run_equalIn_string W (d+k) t _ _ hu
  ·rename_i fs xs ys hu
   split at h
   ·cases h
   ·rename_i hs
    have hfs:P.fieldsOf t=fs:=by simp [Program.fieldsOf,hu]
    rw [run_equalIn_agg W (d+k) t xs ys (by rw [hfs];exact hu) (by simpa using hs),hfs]
    generalize fs.toList=l at h
    induction l with
    | nil =>
     simp only [eqf,Option.some.injEq] at h
     subst h
     rfl
    | cons f l ih =>
     unfold eqf at h
     split at h
     ·cases h
     ·rename_i hn
      split at h
      ·rename_i a c ha hc
       have h1:=Qgp (W:=W) ha
       have h2:=Qgp (W:=W) hc
       simp only [Op.eqFields,ne_eq,hn,not_false_eq_true,if_true,Sem.run_bind,h1,h2,Result.andThen_ok]
       split at h
       ·rename_i he
        have h3:=QeK (W:=W) d f.type a c true k he
        rw [h3]
        simp only [Result.andThen_ok,Bool.not_true,Bool.false_eq_true,if_false]
        exact ih h
       ·rename_i he
        obtain rfl:=Option.some.inj h
        have h3:=QeK (W:=W) d f.type a c false k he
        rw [h3]
        simp
       ·cases h
      ·cases h
  ·cases h
def aeq (P:Program) (op:BinOp) (t:TypeId) (x y:Value):Option Value :=
 match op,x,y with
 | .eql, .agg _, .agg _=>if closedV x && closedV y && !(P.eqGuardType P.depth t) then (eqv P 20 t x y).map .bool else none
 | .neq, .agg _, .agg _=>if closedV x && closedV y && !(P.eqGuardType P.depth t) then (eqv P 20 t x y).map (fun b=> .bool !b) else none
 | .eql, .bool a, .bool b=>(match P.underlying t with | some .bool=>some (.bool (a == b)) | _=>none)
 | .neq, .bool a, .bool b=>(match P.underlying t with | some .bool=>some (.bool !(a == b)) | _=>none)
 | _,_,_=>none
theorem Qkv {P:Program} {ρ:Zv} {W:World} {op:BinOp} {t:TypeId} {xo yo:Operand} {x x' y y' v:Value} (h:aeq P op t x y=some v) (hx:VR ρ x x') (hy:VR ρ y y') :
  ((do eqGuard op t xo yo x' y';binOp op t x' y'):Sem Value).run P W= .ok v W∧VR ρ v v:=by
 unfold aeq at h
 split at h
 ·split at h
  ·rename_i hc
   simp only [Bool.and_eq_true,Bool.not_eq_true'] at hc
   rw [hx.eq hc.1.1,hy.eq hc.1.2]
   obtain ⟨b,hb,rfl⟩:=Option.map_eq_some_iff.1 h
   have:=QeK (W:=W) 20 t _ _ b 9980 hb
   exact ⟨by rw [Sem.run_bind,run_eqGuard_agg W _ t xo yo _ _ hc.2,Result.andThen_ok,run_eql_struct,this];rfl, .bool _⟩
  ·cases h
 ·split at h
  ·rename_i hc
   simp only [Bool.and_eq_true,Bool.not_eq_true'] at hc
   rw [hx.eq hc.1.1,hy.eq hc.1.2]
   obtain ⟨b,hb,rfl⟩:=Option.map_eq_some_iff.1 h
   have:=QeK (W:=W) 20 t _ _ b 9980 hb
   exact ⟨by rw [Sem.run_bind,run_eqGuard_agg W _ t xo yo _ _ hc.2,Result.andThen_ok,run_neq_struct,this];rfl, .bool _⟩
  ·cases h
 ·rename_i a b
  split at h
  ·rename_i hu
   obtain rfl:=Option.some.inj h
   cases hx
   cases hy
   refine ⟨?_, .bool _⟩
   have h1:(eqGuard .eql t xo yo (.bool a) (.bool b)).run P W= .ok () W:=by simp [eqGuard]
   have h2:binOp .eql t (.bool a) (.bool b)=(do pure (.bool (← Op.equal t (.bool a) (.bool b)))):=by simp only [binOp]
   have h3:(Op.equal t (.bool a) (.bool b)).run P W= .ok (a == b) W:=run_equalIn_bool' W 9999 t a b hu
   rw [Sem.run_bind,h1,Result.andThen_ok,h2,Sem.run_bind,h3,Result.andThen_ok,Sem.run_pure]
  ·cases h
 ·rename_i a b
  split at h
  ·rename_i hu
   obtain rfl:=Option.some.inj h
   cases hx
   cases hy
   refine ⟨?_, .bool _⟩
   have h1:(eqGuard .neq t xo yo (.bool a) (.bool b)).run P W= .ok () W:=by simp [eqGuard]
   have h2:binOp .neq t (.bool a) (.bool b)=(do pure (.bool (!(← Op.equal t (.bool a) (.bool b))))):=by simp only [binOp]
   have h3:(Op.equal t (.bool a) (.bool b)).run P W= .ok (a == b) W:=run_equalIn_bool' W 9999 t a b hu
   rw [Sem.run_bind,h1,Result.andThen_ok,h2,Sem.run_bind,h3,Result.andThen_ok,Sem.run_pure]
  ·cases h
 ·cases h
def QiO : List Value→Option (List Int)
 | []=>some []
 | .int .u8 n::r=>(QiO r).map (n:: ·)
 | _=>none
def YQ (ns:List Int):ByteArray:=ns.foldl (fun r n=>r.push (UInt8.ofNat n.toNat)) ByteArray.empty
theorem QhT : ∀ {l:List Value} {ns:List Int},QiO l=some ns→l=ns.map (Value.int .u8)
 | [],ns,h=>by simp only [QiO,Option.some.injEq] at h;subst h;rfl
 | v::r,ns,h=>by
  unfold QiO at h
  split at h
  ·rename_i hv;cases hv
  ·rename_i n r2 hv
   injection hv with e1 e2
   subst e1;subst e2
   obtain ⟨ms,h1,rfl⟩:=Option.map_eq_some_iff.1 h
   rw [QhT h1]
   rfl
  ·cases h
def Qc2 (P:Program) (p:Nat) (src dst:TypeId) (H:AH) (x:Value):Option AR :=
  match P.underlying src,P.underlying dst,x with
  | some (.int _),some (.int k), .int _ n=>some (.val (.int k (k.wrap n)) H)
  | some .string,some .string, .string s=>some (.val (.string s) H)
  | some .string,some (.slice e), .string s =>
    (match P.underlying e with
     | some (.int .u8)=>some (.val (.slice (some ⟨Qn p,0,none⟩) s.size 1) (H.upd (Qn p) (some (.cells 1 (Jv s)))))
     | _=>none)
  | some (.slice e),some .string, .slice none 0 0 =>
    (match P.underlying e with
     | some (.int .u8)=>some (.val (.string ByteArray.empty) H)
     | _=>none)
  | some (.slice e),some .string, .slice (some ⟨k,o,none⟩) n _ =>
    (match P.underlying e with
     | some (.int .u8) =>
       if n=0 then some (.val (.string ByteArray.empty) H) else
       (match H k with
        | some (.cells _ cs)=>if o+n≤cs.length then (QiO ((cs.drop o).take n)).map (fun ns=> .val (.string (YQ ns)) H) else none
        | _=>none)
     | _=>none)
  | _,_,_=>none
theorem Qis {P:Program} {b0 p:Nat} {ρ:Zv} {H:AH} {W:World} {src dst:TypeId} {x x':Value} {r:AR} (h:Qc2 P p src dst H x=some r) (hx:VR ρ x x') (hR:Rel b0 ρ H W) (hf:∀t,Under p t→ρ t=none) (hp:p % 2=1) :
  ∃v H' u W' ρ',r= .val v H'∧(convert src dst x').run P W= .ok u W'∧Stp b0 p ρ H W ρ' H' W'∧VR ρ' v u:=by
 unfold Qc2 at h
 split at h
 ·rename_i k1 k kk n hu1 hu2
  obtain rfl:=Option.some.inj h
  cases hx
  exact ⟨_,_,_,W,ρ,rfl,by simp [convert,run_underlying hu1,run_underlying hu2,Conv.intToInt], .refl hR, .int _ _⟩
 ·rename_i s hu1 hu2
  obtain rfl:=Option.some.inj h
  cases hx
  exact ⟨_,_,_,W,ρ,rfl,by simp [convert,run_underlying hu1,run_underlying hu2], .refl hR, .str _⟩
 ·rename_i e s hu1 hu2
  split at h
  ·rename_i hue
   obtain rfl:=Option.some.inj h
   cases hx
   have hcap:s.size≤grownCap W s.size 0 e:=Qed W s.size 0 e
   obtain ⟨arr,harr⟩:∃arr,arr=Lib.bytesCells W e s:=⟨_,rfl⟩
   have hasz:arr.size=grownCap W s.size 0 e:=by
    rw [harr]
    simp only [Lib.bytesCells,Array.size_append,Array.size_map,Array.size_replicate]
    show s.size+_=_
    omega
   have hW':(Lib.bytesWorld W e s).heap=W.heap.push (.cells arr e (arr.size,arr.size+1)):=by
    apply Array.ext
    ·rw [Lib.bytesWorld_size,Array.size_push]
    ·intro i h1 h2
     have h3:(Lib.bytesWorld W e s).heap[i]? =(W.heap.push (.cells arr e (arr.size,arr.size+1)))[i]? :=by
      rcases Nat.lt_or_ge i W.heap.size with hi | hi
      ·rw [Lib.bytesWorld_at_old W e s i hi,Array.getElem?_push_lt hi,Array.getElem?_eq_getElem hi]
      ·have:i=W.heap.size:=by rw [Lib.bytesWorld_size] at h1;omega
       subst this
       rw [Lib.bytesWorld_at_new,← harr]
       simp
     rw [Array.getElem?_eq_getElem h1,Array.getElem?_eq_getElem h2] at h3
     exact Option.some.inj h3
   have hst:=Stp.new (es:=1) (sz:=arr.size) (cs:=Jv s) (arr:=arr) (ty:=e) (W':=Lib.bytesWorld W e s) hR hf hp Y hW' (by rw [hasz];simpa [Jv,byteCells_length] using hcap) (fun i hi=>by
    have hi':i<s.size:=by simpa [Jv,byteCells_length] using hi
    have e1:arr.getD i undef=(Jv s).getD i undef:=by
     rw [harr]
     simp [Lib.bytesCells,Jv,byteCells,Array.getD_eq_getD_getElem?,List.getD_eq_getElem?_getD,Array.getElem?_append,hi',show i<s.data.size from hi']
    rw [e1]
    exact (LR.closed (Qcy s)).2 i hi) (Nat.le_refl _) (fun off ho=>by simp only;omega)
   refine ⟨_,_, .slice (some ⟨W.heap.size,0,none⟩) s.size (grownCap W s.size 0 e),Lib.bytesWorld W e s,_,rfl,?_,hst,?_⟩
   ·exact Lib.run_convert_string_bytes W src dst e s hu1 hu2 hue
   ·have:=VR.sl (ρ:=fun u=>if u=child p 0 then some (⟨W.heap.size,0,arr.size,1⟩:Slot) else ρ u) (t:=child p 0) (s:=⟨W.heap.size,0,arr.size,1⟩) 0 s.size 1 (grownCap W s.size 0 e) (by simp) hcap (.inr (by simp [hasz])) (by simp)
    exact this
  ·cases h
 ·rename_i e hu1 hu2
  split at h
  ·rename_i hue
   obtain rfl:=Option.some.inj h
   cases hx
   exact ⟨_,_, .string .empty,W,ρ,rfl,by rw [run_convert_bytes_string W src dst e _ _ _ hu1 hue hu2];simp [Conv.bytesToString], .refl hR, .str _⟩
  ·cases h
 ·rename_i e k o n m hu1 hu2
  split at h
  ·rename_i hue
   split at h
   ·rename_i h0
    obtain rfl:=Option.some.inj h
    subst h0
    have key:∀(a:Addr) (c:Nat),(convert src dst (.slice (some a) 0 c)).run P W= .ok (.string ByteArray.empty) W:=by
     intro a c
     rw [run_convert_bytes_string W src dst e _ _ _ hu1 hue hu2]
     have:=run_bytesToString (P:=P) W a 0 c [] (by simp [loadCells,loadCellsFrom])
     simpa using this
    cases hx with
    | sl=>exact ⟨_,_,_,W,ρ,rfl,key _ _, .refl hR, .str _⟩
    | sle=>exact ⟨_,_,_,W,ρ,rfl,key _ _, .refl hR, .str _⟩
   ·rename_i h0
    split at h
    ·rename_i es cs hk
     split at h
     ·rename_i hle
      obtain ⟨ns,hns,rfl⟩:=Option.map_eq_some_iff.1 h
      have hm:=QhT hns
      cases hx with
      | @sl _ q _ _ _ c hq hn hfit hmm =>
       obtain ⟨us,h6,h7,h8⟩:=Qb2 hq (hR.tok k _ hk) hle
       have hus:us=ns.map (Value.int .u8):=by
        rw [← hm]
        exact LR.eq h8 (by rw [hm];simp [closedV,closed1])
       refine ⟨_,_,_,W,ρ,rfl,?_, .refl hR, .str _⟩
       rw [run_convert_bytes_string W src dst e _ _ _ hu1 hue hu2]
       have h9:=h7 P
       rw [hus] at h9
       exact run_bytesToString W _ n c ns h9
      | sle=>exact absurd Y h0
     ·cases h
    ·cases h
  ·cases h
 ·cases h
def AL (ρ:Zv) (cs cs':Array Value):Prop:=cs.size=cs'.size∧∀i,i<cs.size→VR ρ (cs.getD i undef) (cs'.getD i undef)
theorem AL.set {ρ:Zv} {cs cs':Array Value} {v v':Value} (h:AL ρ cs cs') (hv:VR ρ v v') (k:Nat):AL ρ (cs.setIfInBounds k v) (cs'.setIfInBounds k v'):=by
 refine ⟨by simp [h.1],fun i hi=> ?_⟩
 have hi':i<cs.size:=by simpa using hi
 by_cases hk:k=i
 ·subst hk
  simp [Array.getD_eq_getD_getElem?,hi',show k<cs'.size by rw [← h.1];exact hi',hv]
 ·simpa [Array.getD_eq_getD_getElem?,Array.getElem?_setIfInBounds_ne hk] using h.2 i hi'
theorem QjF {ρ:Zv} {off:Nat}:∀(l:List (Value×Nat)) (l':List (Value×Nat)) {cs cs':Array Value},l.length=l'.length→(∀(i:Nat) (v:Value) (k:Nat),l[i]? =some (v,k)→∃v',l'[i]? =some (v',k)∧VR ρ v v')→AL ρ cs cs' →
  AL ρ (l.foldl (fun cs (x:Value×Nat)=>cs.setIfInBounds (off+x.2) x.1) cs) (l'.foldl (fun cs (x:Value×Nat)=>cs.setIfInBounds (off+x.2) x.1) cs')
 | [],[],cs,cs',_,_,h=>h
 | (v,k)::l,(v',k')::l',cs,cs',hl,hv,h=>by
  obtain ⟨u,hu,hvu⟩:=hv 0 v k Y
  simp only [List.getElem?_cons_zero,Option.some.injEq,Prod.mk.injEq] at hu
  obtain ⟨rfl,rfl⟩:=hu
  exact QjF l l' (by simpa using hl) (fun i v k hi=>hv (i+1) v k hi) (h.set hvu _)
theorem Qlr {ρ:Zv} {v v':Value} (h:VR ρ v v'):AL ρ v.cells v'.cells:=by
 have hc:=h.cells
 refine ⟨by simpa using hc.1,fun i hi=> ?_⟩
 simpa [Array.getD_eq_getD_getElem?,List.getD_eq_getElem?_getD] using hc.2 i (by simpa using hi)
theorem Qmu {ρ:Zv} {cs cs':Array Value} (h:AL ρ cs cs'):cs.zipIdx.toList.length=cs'.zipIdx.toList.length∧∀(i:Nat) (v:Value) (k:Nat),cs.zipIdx.toList[i]? =some (v,k)→∃v',cs'.zipIdx.toList[i]? =some (v',k)∧VR ρ v v':=by
 refine ⟨by simp [h.1],fun i v k hi=> ?_⟩
 have h1:i<cs.size:=by
  have:=(List.getElem?_eq_some_iff.1 hi).1
  simpa using this
 have h2:i<cs'.size:=by rw [← h.1];exact h1
 simp [h1] at hi
 obtain ⟨rfl,rfl⟩:=hi
 have:=h.2 i h1
 refine ⟨cs'[i],by simp [h2],?_⟩
 simpa [Array.getD_eq_getD_getElem?,h1,h2] using this
def PL (ρ:Zv) (a b:List (Nat×Value)):Prop:=a.length=b.length∧∀(i:Nat) (k:Nat) (v:Value),a[i]? =some (k,v)→∃v',b[i]? =some (k,v')∧VR ρ v v'
theorem QcC {ρ:Zv} {place:Nat→Option (Nat×Nat)}:∀(ps ps':List (Nat×Value)) {cs cs' out:Array Value},PL ρ ps ps'→AL ρ cs cs'→Instr.fill place cs ps=some out→∃out',Instr.fill place cs' ps'=some out'∧AL ρ out out'
 | [],[],cs,cs',out,_,h,hf=>by
  simp only [Instr.fill,Option.some.injEq] at hf
  subst hf
  exact ⟨cs',rfl,h⟩
 | (k,v)::ps,(k',v')::ps',cs,cs',out,hp,h,hf=>by
  obtain ⟨u,hu,hvu⟩:=hp.2 0 k v Y
  simp only [List.getElem?_cons_zero,Option.some.injEq,Prod.mk.injEq] at hu
  obtain ⟨rfl,rfl⟩:=hu
  have hcs:=Qlr hvu
  unfold Instr.fill at hf ⊢
  cases hpl:place k' with
  | none=>simp [hpl] at hf
  | some q =>
   obtain ⟨off,size⟩:=q
   simp only [hpl] at hf ⊢
   rw [← hcs.1,← h.1]
   split at hf
   ·cases hf
   ·rename_i hc
    rw [if_neg hc]
    have hz:=Qmu hcs
    have hfold:=QjF (off:=off) _ _ hz.1 hz.2 h
    refine QcC ps ps' ⟨by simpa using hp.1,fun i k v hi=>hp.2 (i+1) k v hi⟩ ?_ hf
    rw [Array.foldl_toList,Array.foldl_toList] at hfold
    exact hfold
 | [],_::_,_,_,_,hp,_,_=>by simp [PL] at hp
 | _::_,[],_,_,_,hp,_,_=>by simp [PL] at hp
def Qc1 (P:Program) (fs:Array Field):Nat→Option (Nat×Nat):=fun i=>(fs[i]?).map fun f=>(f.offset,P.cellsOf f.type)
def Qft (P:Program) (t:TypeId) (ps:List (Nat×Value)):Option Value :=
 match P.underlying t,Zq P t with
 | some (.struct fs),some z=>if fs.all (fun f=>(P.info? f.type).isSome) && z.cells.all closed1 then (Instr.fill (Qc1 P fs) z.cells ps).map .agg else none
 | _,_=>none
theorem Qkl {ρ:Zv} {cs:Array Value} (h:cs.all closed1=true):AL ρ cs cs:=⟨rfl,fun i hi=> .closed1 (QbL h hi)⟩
theorem Qec {P:Program} {W:World}:∀(l:List Field),(∀f∈l,(P.info? f.type).isSome=true)→(l.mapM (fun f=>do pure (f.offset,← sizeOf f.type):Field→Sem (Nat×Nat))).run P W= .ok (l.map fun f=>(f.offset,P.cellsOf f.type)) W
 | [],_=>by simp
 | f::l,h=>by
  obtain ⟨i,hi⟩:=Option.isSome_iff_exists.1 (h f (by simp))
  have:=Qec (W:=W) l (fun g hg=>h g (by simp [hg]))
  simp only [List.mapM_cons,Sem.run_bind,ZR hi,Result.andThen_ok,Sem.run_pure,this,List.map_cons]
theorem Qhn {P:Program} {ρ:Zv} {W:World} {t:TypeId} {ps:List (Nat×Value)} {ps':Array (Nat×Value)} {v:Value} (h:Qft P t ps=some v) (hp:PL ρ ps ps'.toList):∃v',(Instr.build t ps').run P W= .ok v' W∧VR ρ v v':=by
 unfold Qft at h
 split at h
 ·rename_i fs z hu hz
  split at h
  ·rename_i hc
   rw [Bool.and_eq_true] at hc
   obtain ⟨out,ho,rfl⟩:=Option.map_eq_some_iff.1 h
   obtain ⟨out',ho',hal⟩:=QcC ps ps'.toList hp (Qkl hc.2) ho
   have hm:=Qec (P:=P) (W:=W) fs.toList (fun f hf=>by
    have hh:=hc.1
    rw [← Array.all_toList] at hh
    exact List.all_eq_true.1 hh f hf)
   have hpl:(fun i=>((fs.toList.map fun f=>(f.offset,P.cellsOf f.type)).toArray)[i]?)=Qc1 P fs:=by
    funext i
    simp [Qc1]
   refine ⟨.agg out',?_, .agg _ _ hal.1 hal.2⟩
   have hm2:(fs.mapM (fun f=>do pure (f.offset,← sizeOf f.type):Field→Sem (Nat×Nat))).run P W= .ok (fs.toList.map fun f=>(f.offset,P.cellsOf f.type)).toArray W:=by
    rw [Array.mapM_eq_mapM_toList,Sem.run_map,hm]
    rfl
   simp only [Instr.build,Sem.run_bind,Qa7 hz,Result.andThen_ok,run_underlying hu,hm2,hpl,ho',Sem.run_pure]
  ·cases h
 ·cases h
def YF (P:Program) (p:Nat) (t:TypeId) (len:Nat) (H:AH) (ps:List (Nat×Value)):Option AR :=
 match P.underlying t with
 | some (.slice e) =>
  match Zq P e with
  | some z =>
   if 0<P.cellsOf e∧len*P.cellsOf e≤16777216∧z.cells.all closed1=true∧z.cells.size=P.cellsOf e then
    (Instr.fill (fun i=>some (i*P.cellsOf e,P.cellsOf e)) (cyc z.cells.toList (len*P.cellsOf e)).toArray ps).map fun out=> .val (.slice (some ⟨Qn p,0,none⟩) len (if len=0 then 0 else 1)) (H.upd (Qn p) (some (.cells (P.cellsOf e) out.toList)))
   else none
  | none=>none
 | _=>none
theorem Qdi {P:Program} {b0 p:Nat} {ρ:Zv} {H:AH} {W:World} {t:TypeId} {len:Nat} {ps:List (Nat×Value)} {ps':Array (Nat×Value)} {r:AR} (h:YF P p t len H ps=some r) (hps:PL ρ ps ps'.toList) (hR:Rel b0 ρ H W) (hf:∀t,Under p t→ρ t=none) (hp:p % 2=1) :
  ∃v H' u W' ρ',r= .val v H'∧(Instr.buildSlice t len ps').run P W= .ok u W'∧Stp b0 p ρ H W ρ' H' W'∧VR ρ' v u:=by
 unfold YF at h
 split at h
 ·rename_i e hu
  split at h
  ·rename_i z hz
   split at h
   ·rename_i hc
    obtain ⟨hpos,hb,hz1,hz2⟩:=hc
    obtain ⟨out,ho,rfl⟩:=Option.map_eq_some_iff.1 h
    obtain ⟨i,hi,hiz⟩:=Option.bind_eq_some_iff.1 hz
    have hcs:∀v∈z.cells.toList,closed1 v=true:=fun v hv=>by
     have hh:=hz1
     rw [← Array.all_toList] at hh
     exact List.all_eq_true.1 hh v hv
    have hzl:0<z.cells.toList.length:=by simp;omega
    have hcyc:=Qk9 (ρ:=ρ) hcs (len*P.cellsOf e) (.inr hzl)
    have hal:AL ρ (cyc z.cells.toList (len*P.cellsOf e)).toArray (cyc z.cells.toList (len*P.cellsOf e)).toArray:=⟨rfl,fun i hi=>by simpa [Array.getD_eq_getD_getElem?,List.getD_eq_getElem?_getD] using hcyc.2 i (by simpa using hi)⟩
    obtain ⟨out',ho',hal'⟩:=QcC ps ps'.toList hps hal ho
    have hsz:P.cellsOf e=i.size:=by simp [Program.cellsOf,hi]
    have fsize:∀(ps:List (Nat×Value)) (cs out:Array Value) (pl:Nat→Option (Nat×Nat)),Instr.fill pl cs ps=some out→out.size=cs.size:=by
     intro ps
     induction ps with
     | nil=>intro cs out pl h;simp only [Instr.fill,Option.some.injEq] at h;rw [← h]
     | cons q ps ih =>
      intro cs out pl h
      obtain ⟨k,v⟩:=q
      unfold Instr.fill at h
      split at h
      ·cases h
      ·split at h
       ·cases h
       ·rw [ih _ _ _ h]
        have:∀(l:List (Value×Nat)) (c:Array Value) (o:Nat),(l.foldl (fun cs (x:Value×Nat)=>cs.setIfInBounds (o+x.2) x.1) c).size=c.size:=by
         intro l
         induction l with
         | nil=>intro c o;rfl
         | cons x l ih2=>intro c o;rw [List.foldl_cons,ih2];simp
        rw [← Array.foldl_toList]
        exact this _ _ _
    have hos:out'.size=len*P.cellsOf e:=by rw [fsize _ _ _ _ ho'];simp [cyc]
    have hlr:LR ρ out.toList out'.toList:=⟨by simpa using hal'.1,fun i hi=>by simpa [Array.getD_eq_getD_getElem?,List.getD_eq_getElem?_getD] using hal'.2 i (by simpa using hi)⟩
    obtain ⟨ρ',h1,h2⟩:=Stp.fresh (es:=P.cellsOf e) (ty:=e) hR hf hp hlr (len*P.cellsOf e) (by simpa using hos.symm)
    refine ⟨_,_, .slice (some ⟨W.heap.size,0,none⟩) len len,_,ρ',rfl,?_,h2,?_⟩
    ·have hcy:(Array.range (len*i.size)).map (fun x=>z.cells[x % z.cells.size]!)=(cyc z.cells.toList (len*P.cellsOf e)).toArray:=by
      rw [hsz]
      apply Array.ext
      ·simp [cyc]
      ·intro j h3 h4
       have hj:j % z.cells.size<z.cells.size:=Nat.mod_lt _ (by omega)
       simp [cyc,List.getD_eq_getElem?_getD,hj]
     have hnb:¬(len*i.size > 2 ^ 24):=by rw [← hsz];omega
     rw [hsz] at ho' hcy
     by_cases hn0:len*i.size=0
     ·have hcy0:(Array.range 0).map (fun x=>(#[]:Array Value)[x % (#[]:Array Value).size]!)=(cyc z.cells.toList 0).toArray:=by simp [cyc,Array.range]
      rw [hn0] at ho'
      have h20:¬(0 > 2 ^ 24):=by omega
      simp only [Instr.buildSlice,Sem.run_bind,run_underlying hu,Result.andThen_ok,ZR hi,hsz,hn0,h20,if_false,if_true,Sem.run_pure]
      rw [show (Array.map (fun x=>(#[]:Array Value)[x % (#[]:Array Value).size]!) (Array.range 0))=(cyc z.cells.toList 0).toArray from hcy0,ho']
      simp [newRow]
     ·simp only [Instr.buildSlice,Sem.run_bind,run_underlying hu,Result.andThen_ok,ZR hi,hsz,hnb,if_false,hn0,Sem.run_pure,Qa7 hz]
      rw [hcy,ho']
      simp [newRow]
    ·by_cases hl0:len=0
     ·subst hl0
      simp only [if_true]
      exact VR.sle (s:=⟨W.heap.size,0,0*P.cellsOf e,P.cellsOf e⟩) 0 0 _ 0 none (by simpa using h1) (.inr (by simp)) (fun _=>rfl) (.inl Y)
     ·have:=VR.sl (ρ:=ρ') (s:=⟨W.heap.size,0,len*P.cellsOf e,P.cellsOf e⟩) 0 len 1 len h1 (Nat.le_refl _) (.inr (by simp)) (by simp)
      simpa [hl0] using this
   ·cases h
  ·cases h
 ·cases h
def QbI (k:IntKind) (n:Int):List (Value×Value)→Option (Option (Nat×Value))
 | []=>some none
 | (.int k' m,v)::r=>if k=k' then (if n == m then some (some (0,v)) else (QbI k n r).map (fun o=>o.map fun x=>(x.1+1,x.2))) else none
 | _::_=>none
def ML (ρ:Zv) (es:List (Value×Value)) (el:List MapEntry):Prop:=es.length=el.length∧∀i,i<es.length→VR ρ (es.getD i (undef,undef)).1 (el.getD i default).key∧VR ρ (es.getD i (undef,undef)).2 (el.getD i default).val
theorem ML.tail {ρ:Zv} {e:Value×Value} {m:MapEntry} {es:List (Value×Value)} {el:List MapEntry} (h:ML ρ (e::es) (m::el)):(VR ρ e.1 m.key∧VR ρ e.2 m.val)∧ML ρ es el :=
 ⟨by simpa using h.2 0 (by simp),by simpa using h.1,fun i hi=>by simpa using h.2 (i+1) (by simpa using hi)⟩
theorem Qbr {ρ:Zv} {kk k:IntKind} {n:Int}:∀ {es:List (Value×Value)} {el:List MapEntry} {r:Option (Nat×Value)} (i:Nat),QbI k n es=some r→ML ρ es el →
  ∃r',Instr.findNow (.int kk) (.int k n) el i=some r'∧(match r,r' with | none,none=>True | some (j,v),some (j',v')=>j'=i+j∧VR ρ v v'∧j<es.length∧(el.getD j default).key= .int k n | _,_=>False)
 | [],el,r,i,h,hm=>by
  obtain rfl:none=r:=by simpa [QbI] using h
  have:el= []:=by have:=hm.1;simp at this;exact List.eq_nil_of_length_eq_zero this.symm
  subst this
  exact ⟨none,rfl,trivial⟩
 | e::es,[],r,i,h,hm=>by have:=hm.1;simp at this
 | e::es,m::el,r,i,h,hm=>by
  obtain ⟨⟨h1,h2⟩,ht⟩:=hm.tail
  obtain ⟨ek,ev⟩:=e
  cases ek with
  | int k' n' =>
   simp only [QbI] at h
   split at h
   ·rename_i hk
    subst hk
    simp only at h1
    have hkey:m.key= .int k n':=h1.eq1 Y
    by_cases hn:(n == n')=true
    ·rw [if_pos hn] at h
     obtain rfl:=Option.some.inj h
     have hn':n=n':=by simpa using hn
     subst hn'
     refine ⟨some (i,m.val),by simp [Instr.findNow,hkey,Instr.sameNow],rfl,h2,by simp,by simpa using hkey⟩
    ·rw [if_neg hn] at h
     obtain ⟨r0,hr0,rfl⟩:=Option.map_eq_some_iff.1 h
     obtain ⟨r',h3,h4⟩:=Qbr (kk:=kk) (i+1) hr0 ht
     have hn2:¬n=n':=by simpa using hn
     refine ⟨r',by simp only [Instr.findNow,hkey,Instr.sameNow,if_true];rw [show (n == n')=false by simpa using hn];exact h3,?_⟩
     cases r0 with
     | none =>
      cases r' with
      | none=>trivial
      | some y=>exact h4.elim
     | some x =>
      cases r' with
      | none=>simp at h4
      | some y =>
       obtain ⟨j,v⟩:=x
       obtain ⟨j',v'⟩:=y
       simp only [Option.map_some] at h4 ⊢
       obtain ⟨h5,h6,h7,h8⟩:=h4
       exact ⟨by omega,h6,by simp;omega,by simpa using h8⟩
   ·cases h
  | _=>simp [QbI] at h
def Qdd (P:Program) (t:TypeId) (H:AH) (x ix:Value) (ok:Bool):Option Value :=
  match P.underlying t,x,ix with
  | some (.map kt et), .map (some k), .int kd n =>
    (match P.underlying kt,H k,Zq P et with
     | some (.int _),some (.map es),some z =>
       if closedV z=true∧ok=false then
         (QbI kd n es).map (fun o=>(o.map (·.2)).getD z)
       else none
     | _,_,_=>none)
  | _,_,_=>none
theorem QhB {b0:Nat} {ρ:Zv} {W:World} {k:Nat} {es:List (Value×Value)} {s:Slot} (hs:ρ k=some s) (h:TokRel b0 ρ W k (.map es)):∃arr clock,W.heap[s.b]? =some (.map arr clock)∧ML ρ es arr.toList∧k % 2=1∧b0≤s.b:=by
 obtain ⟨s',hs',arr,clock,ha,hl,hv,ho,hb⟩:=h
 rw [hs] at hs'
 cases hs'
 exact ⟨arr,clock,ha,⟨by simpa using hl.symm,fun i hi=>by simpa [List.getD_eq_getElem?_getD,Array.getD_eq_getD_getElem?] using hv i hi⟩,ho,hb⟩
theorem Qda {P:Program} {W:World} {b:Bool} {n:Nat} {t:TypeId} {k:IntKind} {v:Value} (h:P.underlying t=some (.int k)):(Instr.checkKey b (n+1) t v).run P W= .ok () W:=by
 unfold Instr.checkKey
 simp only [Sem.run_bind,run_underlying h,Result.andThen_ok]
 rfl
theorem Qf9 {P:Program} {b0:Nat} {ρ:Zv} {H:AH} {W:World} {t:TypeId} {x x' ix ix' v:Value} {ok:Bool} (h:Qdd P t H x ix ok=some v) (hx:VR ρ x x') (hi:VR ρ ix ix') (hR:Rel b0 ρ H W):∃v',(Instr.lookup t x' ix' ok).run P W= .ok v' W∧VR ρ v v':=by
 unfold Qdd at h
 split at h
 ·rename_i kt et k kd n hu
  split at h
  ·rename_i kk es z hk hH hz
   split at h
   ·rename_i hc
    obtain ⟨hcz,rfl⟩:=hc
    obtain ⟨r,hr,rfl⟩:=Option.map_eq_some_iff.1 h
    cases hi
    cases hx with
    | @map _ s hs =>
     obtain ⟨arr,clock,ha,hml,_⟩:=QhB hs (hR.tok k _ hH)
     obtain ⟨r',h3,h4⟩:=Qbr (kk:=kk) 0 hr hml
     have hg:(getObj s.b).run P W= .ok (.map arr clock) W:=by simp [getObj,Sem.run,ha]
     have hck:(Instr.checkKey arr.isEmpty 10000 kt (.int kd n)).run P W= .ok () W:=Qda hk
     have hfk:(Instr.findKey kt (.int kd n) arr.toList).run P W= .ok r' W:=by simp [Instr.findKey,run_underlying hk,h3]
     cases r with
     | none =>
      cases r' with
      | some y=>simp at h4
      | none =>
       refine ⟨z,?_,by simpa using VR.closedV hcz⟩
       simp [Instr.lookup,run_underlying hu,hg,hck,hfk,Qa7 hz]
     | some q =>
      cases r' with
      | none=>simp at h4
      | some y =>
       obtain ⟨j,v⟩:=q
       obtain ⟨j',v'⟩:=y
       simp only at h4
       refine ⟨v',?_,by simpa using h4.2.1⟩
       simp [Instr.lookup,run_underlying hu,hg,hck,hfk]
   ·cases h
  ·cases h
 ·cases h
def Qcg (P:Program) (t:TypeId) (H:AH) (x ix v:Value):Option AH :=
  match P.underlying t,x,ix with
  | some (.map kt _), .map (some k), .int kd n =>
    (match P.underlying kt,H k with
     | some (.int _),some (.map es) =>
       (match QbI kd n es with
        | some (some (j,_))=>some (H.upd k (some (.map (es.set j (.int kd n,v)))))
        | some none=>some (H.upd k (some (.map (es++ [(.int kd n,v)]))))
        | none=>none)
     | _,_=>none)
  | _,_,_=>none
theorem Stp.mapset {b0 p k:Nat} {ρ:Zv} {H:AH} {W:World} {es es2:List (Value×Value)} {arr2:Array MapEntry} {clock2:Nat} {s:Slot} (hR:Rel b0 ρ H W) (hk:H k=some (.map es)) (hs:ρ k=some s) (hml:ML ρ es2 arr2.toList) :
  Stp b0 p ρ H W ρ (H.upd k (some (.map es2))) {W with heap:=W.heap.setIfInBounds s.b (.map arr2 clock2)}:=by
 obtain ⟨arr,clock,ha,_,hodd,hb0⟩:=QhB hs (hR.tok k _ hk)
 have hlt:s.b<W.heap.size:=(Array.getElem?_eq_some_iff.1 ha).1
 have hother:∀c,c≠s.b→(W.heap.setIfInBounds s.b (.map arr2 clock2))[c]? =W.heap[c]? :=fun c hc=>Array.getElem?_setIfInBounds_ne (Ne.symm hc)
 have hsame:∀u:Nat,(H.upd k (some (.map es2)) u≠none)→H u≠none:=by
  intro u hu
  unfold AH.upd at hu
  by_cases hku:u=k
  ·rw [hku,hk];simp
  ·rwa [if_neg hku] at hu
 refine ⟨.refl _ _,⟨fun u obj hu=> ?_,?_,?_,hR.glob.keep (fun b hb=>hother b (by omega))⟩,?_,fun b hb hn=> ?_,?_,fun u hu=> .inl (hsame u hu),⟨rfl,rfl,rfl⟩⟩
 ·unfold AH.upd at hu
  by_cases hku:u=k
  ·rw [if_pos hku] at hu
   obtain rfl:=Option.some.inj hu
   subst hku
   refine ⟨s,hs,arr2,clock2,by simp [hlt],by simpa using hml.1.symm,fun i hi=> ?_,hodd,hb0⟩
   simpa [List.getD_eq_getElem?_getD,Array.getD_eq_getD_getElem?] using hml.2 i hi
  ·rw [if_neg hku] at hu
   have h1:=hR.tok u obj hu
   refine h1.mono (fun _ _ e=>e) (fun s2 hs2=>hother _ (fun hbe=>hku ?_))
   exact hR.same (by rw [hk];simp) hodd hs (by rw [hu];simp) hs2 hbe
 ·intro u u' s1 s2 h1 h2 h3 h4 h5 h6 h7
  exact hR.inj u u' s1 s2 h1 h2 (hsame u h3) (hsame u' h4) h5 h6 h7
 ·simpa using hR.le
 ·simp
 ·exact hother b (fun hbe=>hn ⟨k,s,hodd,by rw [hk];simp,hs,hbe.symm⟩)
 ·rintro b ⟨u,s1,h1,h2,h3,h4⟩
  exact .inl ⟨u,s1,h1,hsame u h2,h3,h4⟩
theorem Qf8 {P:Program} {b0 p:Nat} {ρ:Zv} {H H':AH} {W:World} {t:TypeId} {x x' ix ix' v v':Value} (h:Qcg P t H x ix v=some H') (hx:VR ρ x x') (hi:VR ρ ix ix') (hv:VR ρ v v') (hR:Rel b0 ρ H W) :
  ∃W',(Instr.mapUpdate t x' ix' v').run P W= .ok () W'∧Stp b0 p ρ H W ρ H' W':=by
 unfold Qcg at h
 split at h
 ·rename_i kt et k kd n hu
  split at h
  ·rename_i kk es hk hH
   cases hi
   cases hx with
   | @map _ s hs =>
    obtain ⟨arr,clock,ha,hml,_⟩:=QhB hs (hR.tok k _ hH)
    have hg:(getObj s.b).run P W= .ok (.map arr clock) W:=by simp [getObj,Sem.run,ha]
    have hck:(Instr.checkKey false 10000 kt (.int kd n)).run P W= .ok () W:=Qda hk
    have hset:∀o:Obj,(setObj s.b o).run P W= .ok () {W with heap:=W.heap.setIfInBounds s.b o}:=by intro o;simp [setObj,Sem.run,ha]
    split at h
    ·rename_i j v0 hp
     obtain rfl:=Option.some.inj h
     obtain ⟨r',h3,h4⟩:=Qbr (kk:=kk) 0 hp hml
     have hfk:(Instr.findKey kt (.int kd n) arr.toList).run P W= .ok r' W:=by simp [Instr.findKey,run_underlying hk,h3]
     cases r' with
     | none=>simp at h4
     | some y =>
      obtain ⟨j',v1⟩:=y
      simp only at h4
      obtain ⟨h5,h6,h7,h8⟩:=h4
      have hjj:j'=j:=by omega
      subst hjj
      have hjs:j'<arr.size:=by have:=hml.1;simp at this;omega
      have hkey:((arr[j']?).map (·.key)).getD (.int kd n)= .int kd n:=by
       simp only [List.getD_eq_getElem?_getD] at h8
       simp [hjs] at h8 ⊢
       exact h8
      have hks:(Instr.keyThatStays (.int kd n) (.int kd n)).run P W= .ok (.int kd n) W:=by simp [Instr.keyThatStays,Instr.sameBits]
      refine ⟨_,?_,Stp.mapset (arr2:=arr.modify j' fun e=>{e with key:= .int kd n,val:=v'}) (clock2:=clock) hR hH hs ⟨by simpa using hml.1,fun i hi=> ?_⟩⟩
      ·simp only [Instr.mapUpdate,Sem.run_bind,run_underlying hu,Result.andThen_ok,hg,hck,hfk,hkey,hks,hset]
      ·have hi':i<es.length:=by simpa using hi
       have h9:=hml.2 i hi'
       have his:i<arr.size:=by have:=hml.1;simp at this;omega
       simp only [List.getD_eq_getElem?_getD,List.getElem?_set,Array.getElem?_toList,Array.getElem?_modify] at h9 ⊢
       by_cases hij:j'=i
       ·subst hij
        simp [hi',his]
        exact ⟨.int _ _,hv⟩
       ·simp [hij,his] at h9 ⊢
        simpa using h9
    ·rename_i hp
     obtain rfl:=Option.some.inj h
     obtain ⟨r',h3,h4⟩:=Qbr (kk:=kk) 0 hp hml
     have hfk:(Instr.findKey kt (.int kd n) arr.toList).run P W= .ok r' W:=by simp [Instr.findKey,run_underlying hk,h3]
     cases r' with
     | some y=>simp at h4
     | none =>
      refine ⟨_,?_,Stp.mapset (arr2:=arr.push {key:= .int kd n,val:=v',born:=clock}) (clock2:=clock+1) hR hH hs ⟨by simpa using hml.1,fun i hi=> ?_⟩⟩
      ·simp only [Instr.mapUpdate,Sem.run_bind,run_underlying hu,Result.andThen_ok,hg,hck,hfk,hset]
      ·have hl:=hml.1
       simp at hl
       by_cases hi':i<es.length
       ·have h9:=hml.2 i hi'
        have his:i<arr.size:=by omega
        simp only [List.getD_eq_getElem?_getD,List.getElem?_append_left hi',Array.toList_push,List.getElem?_append_left (show i<arr.toList.length by simpa using his)] at h9 ⊢
        exact h9
       ·have hie:i=es.length:=by simp at hi;omega
        subst hie
        simp only [List.getD_eq_getElem?_getD,Array.toList_push,hl]
        simp
        rw [← hl]
        simp
        exact ⟨.int _ _,hv⟩
    ·cases h
  ·cases h
 ·cases h
theorem Stp.newMap {b0 p:Nat} {ρ:Zv} {H:AH} {W:World} (hR:Rel b0 ρ H W) (hf:∀t,Under p t→ρ t=none) (hp:p % 2=1) :
  ∃ρ':Zv,ρ' (Qn p)=some ⟨W.heap.size,0,0,0⟩∧Stp b0 p ρ H W ρ' (H.upd (Qn p) (some (.map []))) {W with heap:=W.heap.push (.map #[] 0)}:=by
 have hn:ρ (Qn p)=none:=hf _ (.step 0 .refl)
 have hρ:∀u s,ρ u=some s→(fun u=>if u=Qn p then some (⟨W.heap.size,0,0,0⟩:Slot) else ρ u) u=some s:=by
  intro u s e
  have:u≠Qn p:=fun he=>by rw [he,hn] at e;cases e
  simp only [if_neg this]
  exact e
 have hold:∀b,b<W.heap.size→(W.heap.push (.map #[] 0))[b]? =W.heap[b]? :=fun b hb=>by rw [Array.getElem?_push_lt hb,Array.getElem?_eq_getElem hb]
 have hup:∀u,u≠Qn p→H.upd (Qn p) (some (.map [])) u=H u:=fun u hu=>by unfold AH.upd;rw [if_neg hu]
 refine ⟨fun u=>if u=Qn p then some ⟨W.heap.size,0,0,0⟩ else ρ u,by simp,⟨hρ,fun u he=> ?_⟩,⟨fun u o ho=> ?_,?_,?_,hR.glob.keep (fun b hb=>hold b (Nat.lt_of_lt_of_le hb hR.le))⟩,?_,fun b hb _=>hold b hb,?_,fun u hu=> ?_,⟨rfl,rfl,rfl⟩⟩
 ·by_cases hut:u=Qn p
  ·exact .inr (by rw [hut];exact .step 0 .refl)
  ·simp only [if_neg hut] at he
   exact .inl he
 ·by_cases hut:u=Qn p
  ·subst hut
   simp only [AH.upd,if_true] at ho
   obtain rfl:=Option.some.inj ho
   exact ⟨⟨W.heap.size,0,0,0⟩,by simp,#[],0,by simp,rfl,fun i hi=>by simp at hi,YL _ _,hR.le⟩
  ·rw [hup u hut] at ho
   have h1:=hR.tok u o ho
   obtain ⟨s0,hs0,hlt,_⟩:=h1.slot
   exact h1.mono hρ (fun s hs=>hold s.b (by rw [hs] at hs0;cases hs0;exact hlt))
 ·intro u u' s s' h1 h2 h3 h4 h5 h6 h7
  by_cases hut:u=Qn p<;>by_cases hut':u'=Qn p
  ·rw [hut,hut']
  ·simp only [if_pos hut,Option.some.injEq] at h5
   rw [hup u' hut'] at h4
   simp only [if_neg hut'] at h6
   obtain ⟨o',ho'⟩:=Option.ne_none_iff_exists'.1 h4
   obtain ⟨s0,hs0,hlt,_⟩:=(hR.tok u' o' ho').slot
   rw [hs0] at h6
   cases h6
   rw [← h5] at h7
   simp at h7
   omega
  ·simp only [if_pos hut',Option.some.injEq] at h6
   rw [hup u hut] at h3
   simp only [if_neg hut] at h5
   obtain ⟨o',ho'⟩:=Option.ne_none_iff_exists'.1 h3
   obtain ⟨s0,hs0,hlt,_⟩:=(hR.tok u o' ho').slot
   rw [hs0] at h5
   cases h5
   rw [← h6] at h7
   simp at h7
   omega
  ·rw [hup u hut] at h3
   rw [hup u' hut'] at h4
   simp only [if_neg hut] at h5
   simp only [if_neg hut'] at h6
   exact hR.inj u u' s s' h1 h2 h3 h4 h5 h6 h7
 ·have:=hR.le
  simp
  omega
 ·simp
 ·rintro b ⟨u,s,h1,h2,h3,h4⟩
  by_cases hut:u=Qn p
  ·simp only [if_pos hut,Option.some.injEq] at h3
   right
   rw [← h3] at h4
   simp at h4
   omega
  ·rw [hup u hut] at h2
   simp only [if_neg hut] at h3
   exact .inl ⟨u,s,h1,h2,h3,h4⟩
 ·by_cases hut:u=Qn p
  ·exact .inr (by rw [hut];exact .step 0 .refl)
  ·rw [hup u hut] at hu
   exact .inl hu
def YA (P:Program) (g:FuncId):Bool:=((P.funcs[g]?).bind (·.body)).isSome
def evs (E:Nat→Value):List Operand→Option (List Value)
 | []=>some []
 | x::r=>match ZS E x,evs E r with | some v,some l=>some (v::l) | _,_=>none
def evp (E:Nat→Value):List (Nat×Operand)→Option (List (Nat×Value))
 | []=>some []
 | x::r=>match ZS E x.2,evp E r with | some v,some l=>some ((x.1,v)::l) | _,_=>none
theorem Jw {ρ:Zv} {E:Nat→Value} {a:Act} (hE:EnvR ρ E a):∀ {xs:List Operand} {l:List Value},evs E xs=some l→LR ρ l (xs.map a.eval)
 | [],l,h=>by
  obtain rfl: []=l:=by simpa [evs] using h
  exact LR.nil ρ
 | x::r,l,h=>by
  unfold evs at h
  split at h
  ·rename_i v l' h1 h2
   obtain rfl:=Option.some.inj h
   exact LR.cons (Qy hE h1) (Jw hE h2)
  ·cases h
theorem QdT {ρ:Zv} {E:Nat→Value} {a:Act} (hE:EnvR ρ E a):∀ {xs:List (Nat×Operand)} {l:List (Nat×Value)},evp E xs=some l→PL ρ l (xs.map fun q=>(q.1,a.eval q.2))
 | [],l,h=>by
  obtain rfl: []=l:=by simpa [evp] using h
  exact ⟨rfl,fun i k v hi=>by simp at hi⟩
 | x::r,l,h=>by
  unfold evp at h
  split at h
  ·rename_i v l' h1 h2
   obtain rfl:=Option.some.inj h
   have ih:=QdT hE h2
   refine ⟨by simp [ih.1],fun i k u hi=> ?_⟩
   cases i with
   | zero =>
    simp only [List.getElem?_cons_zero,Option.some.injEq,Prod.mk.injEq] at hi
    obtain ⟨rfl,rfl⟩:=hi
    exact ⟨_,by simp,Qy hE h1⟩
   | succ i=>simpa using ih.2 i k u (by simpa using hi)
  ·cases h
def Ye (P:Program) (op:BinOp) (t:TypeId) (xo yo:Operand) (x y:Value):Option Value :=
 match aeq P op t x y with
 | some v=>some v
 | none=>QbF P op t xo yo x y
theorem Qi9 {P:Program} {ρ:Zv} {W:World} {op:BinOp} {t:TypeId} {xo yo:Operand} {x x' y y' v:Value} (h:Ye P op t xo yo x y=some v) (hx:VR ρ x x') (hy:VR ρ y y') :
  ((do eqGuard op t xo yo x' y';binOp op t x' y'):Sem Value).run P W= .ok v W∧VR ρ v v:=by
 unfold Ye at h
 split at h
 ·rename_i u he
  obtain rfl:=Option.some.inj h
  exact Qkv he hx hy
 ·exact QiR h hx hy
def QaX (P:Program) (p:Nat) (E:Nat→Value) (H:AH) (c:Call):Option AR :=
 match c.callee with
 | .builtin .len=>(match evs E c.args.toList,c.argTypes.toList with | some [x],[t]=>(Qiq P t H x).map (.val · H) | _,_=>none)
 | .builtin .append=>(match evs E c.args.toList,c.argTypes.toList with | some [s,x],[t,xt]=>Qaw P p t xt H s x | _,_=>none)
 | .builtin .max=>(match evs E c.args.toList with | some l=>(amm P true l).map (.val · H) | none=>none)
 | .builtin .min=>(match evs E c.args.toList with | some l=>(amm P false l).map (.val · H) | none=>none)
 | .value f=>(match ZS E f,evs E c.args.toList with
  | some (.func (.func g) fi caps),some l=>if fi.isEmpty && YA P g then some (.enter g (l++caps.toList)) else none
  | _,_=>none)
 | _=>none
def aop (P:Program) (p:Nat) (E:Nat→Value) (H:AH) (o:Oper):Option AR :=
 match o.op with
 | .move x=>(ZS E x).map (.val · H)
 | .assign x=>(ZS E x).map (.val · H)
 | .pick c a b=>(match ZS E c with | some (.bool true)=>(ZS E a).map (.val · H) | some (.bool false)=>(ZS E b).map (.val · H) | _=>none)
 | .alloc e=>(match Zq P e with | some z=>if closedV z then some (QmA p H z) else none | none=>none)
 | .box _ x=>(ZS E x).map (QmA p H)
 | .build t ps=>(match evp E ps.toList with | some l=>(Qft P t l).map (.val · H) | none=>none)
 | .buildSlice t len ps=>(match evp E ps.toList with | some l=>YF P p t len H l | none=>none)
 | .load t a=>(match ZS E a with | some x=>(QaF P t H x).map (.val · H) | none=>none)
 | .store t a x=>(match ZS E a,ZS E x with | some u,some v=>(Qd5 P t H u v).map .skip | _,_=>none)
 | .nilCheck x=>(match ZS E x with | some (.pointer (some a))=>some (.val (.pointer (some a)) H) | _=>none)
 | .binOp op t x y _=>(match ZS E x,ZS E y with | some u,some v=>(Ye P op t x y u v).map (.val · H) | _,_=>none)
 | .unOp op _ x=>(match ZS E x with | some u=>(aun P op u).map (.val · H) | none=>none)
 | .convert s d x=>(match ZS E x with | some u=>Qc2 P p s d H u | none=>none)
 | .makeFunc (.func f) fi caps=>if fi.isEmpty then (evs E caps.toList).map (fun l=> .val (.func (.func f) #[] l.toArray) H) else none
 | .makeMap _ none=>some (.val (.map (some (Qn p))) (H.upd (Qn p) (some (.map []))))
 | .makeSlice t l c=>(match ZS E l,ZS E c with | some u,some v=>Qgr P p t H u v | _,_=>none)
 | .slice t x none none none=>(match ZS E x with | some u=>(Y0 P t H u none none).map (.val · H) | _=>none)
 | .slice t x (some lo) none none=>(match ZS E x,ZS E lo with | some u,some v=>(Y0 P t H u (some v) none).map (.val · H) | _,_=>none)
 | .slice t x none (some hi) none=>(match ZS E x,ZS E hi with | some u,some v=>(Y0 P t H u none (some v)).map (.val · H) | _,_=>none)
 | .slice t x (some lo) (some hi) none=>(match ZS E x,ZS E lo,ZS E hi with | some u,some v,some w=>(Y0 P t H u (some v) (some w)).map (.val · H) | _,_,_=>none)
 | .fieldAddr s x f=>(match ZS E x with | some u=>(Qf P s u f).map (.val · H) | none=>none)
 | .field t x f=>(match ZS E x with | some u=>(QiM P t u f).map (.val · H) | none=>none)
 | .indexAddr t x ix=>(match ZS E x,ZS E ix with | some u,some v=>(Jx P t u v).map (.val · H) | _,_=>none)
 | .index t x ix=>(match ZS E x,ZS E ix with | some u,some v=>(QdK P t u v).map (.val · H) | _,_=>none)
 | .lookup t x ix ok=>(match ZS E x,ZS E ix with | some u,some v=>(Qdd P t H u v ok).map (.val · H) | _,_=>none)
 | .mapUpdate t m k x=>(match ZS E m,ZS E k,ZS E x with | some u,some v,some w=>(Qcg P t H u v w).map .skip | _,_,_=>none)
 | .extract x i=>(match ZS E x with | some u=>(Qfj u i).map (.val · H) | none=>none)
 | .call c=>QaX P p E H c
 | _=>none
def Plain (P : Program) : Prop := P.funcs.all (fun fn => !(fn.name == "runtime.NumGoroutine")) = true
theorem plain_get {P : Program} (h : Plain P) {g : FuncId} {fn : Func} (hg : P.funcs[g]? = some fn) : (fn.name == "runtime.NumGoroutine") = false := by
  unfold Plain at h
  rw [← Array.all_toList] at h
  have hm:fn∈P.funcs.toList:=by
    rw [Array.mem_toList_iff]
    exact Array.mem_of_getElem? hg
  simpa using List.all_eq_true.1 h fn hm
theorem Qhi {P:Program} {W:World} (hP:Plain P) {g:FuncId} (h:YA P g=true) (args:Array Value):(callFunc g args).run P W= .ok (.enter g args) W:=by
  unfold YA at h
  obtain ⟨c,hc⟩:=Option.isSome_iff_exists.1 h
  obtain ⟨fn,hfn,hb⟩:=Option.bind_eq_some_iff.1 hc
  have hn:=plain_get hP hfn
  have hn2 : ¬ fn.name = "runtime.NumGoroutine" := by simpa using hn
  simp [callFunc,hfn,hn2,hb]
section
variable {P : Program} {b0 p : Nat} {ρ : Zv} {H : AH} {W : World} {E : Nat → Value} {a : Act}
theorem Good.val {r:Result Next} {s:Sem Value} {v v':Value} (hR:Rel b0 ρ H W) (hr:r=(do Pure.pure (Next.value (← s)):Sem Next).run P W) (h:s.run P W= .ok v' W) (hv:VR ρ v v'):Good b0 p ρ H W r (.val v H) :=
 Good.pure hR (by rw [hr,Sem.run_bind,h,Result.andThen_ok,Sem.run_pure]) hv
theorem Good.mem {r:Result Next} {s:Sem Value} {v u:Value} {H':AH} {W':World} {ρ':Zv} (hr:r=(do Pure.pure (Next.value (← s)):Sem Next).run P W) (h:s.run P W= .ok u W') (hs:Stp b0 p ρ H W ρ' H' W') (hv:VR ρ' v u):Good b0 p ρ H W r (.val v H') :=
 ⟨u,W',ρ',by rw [hr,Sem.run_bind,h,Result.andThen_ok,Sem.run_pure],hs,hv⟩
theorem Qhr (hP:Plain P) {c:Call} {dst:Option Tmp} {type:TypeId} {pos:String} {after:Array Edge} {guard:Option (Nat×Bool)} {r:AR} (h:QaX P p E H c=some r) (hE:EnvR ρ E a) (hR:Rel b0 ρ H W) (hf:∀t,Under p t→ρ t=none) (hp:p % 2=1) :
  Good b0 p ρ H W ((execOp a.eval {dst,op:= .call c,type,pos,after,guard}).run P W) r:=by
 obtain ⟨callee,args,argTypes⟩:=c
 obtain ⟨args⟩:=args
 obtain ⟨argTypes⟩:=argTypes
 unfold QaX at h
 simp only at h
 split at h
 ·-- len
  split at h
  ·rename_i x t h1
   obtain ⟨v,hv,rfl⟩:=Option.map_eq_some_iff.1 h
   have hl:=Jw hE h1
   match args,hl with
   | [y],hl =>
    obtain ⟨h3,h4⟩:=Qji (ty:=type) hv hl.tail.1 hR
    refine Good.pure hR ?_ h4
    simp [execOp,resolve,invoke,builtin,h3]
   | [],hl=>simp [LR] at hl
   | _::_::_,hl=>simp [LR] at hl
  ·cases h
 ·split at h
  ·rename_i s x t xt h1
   have hl:=Jw hE h1
   match args,hl with
   | [y,z],hl =>
    obtain ⟨v,H',u,W',ρ',rfl,h3,h4,h5⟩:=Qgg (ty:=type) h hl.tail.1 hl.tail.2.tail.1 hR hf hp
    refine ⟨u,W',ρ',?_,h4,h5⟩
    simp [execOp,resolve,invoke,builtin,h3]
   | [],hl=>simp [LR] at hl
   | [_],hl=>simp [LR] at hl
   | _::_::_::_,hl=>simp [LR] at hl
  ·cases h
 ·split at h
  ·rename_i l h1
   obtain ⟨v,hv,rfl⟩:=Option.map_eq_some_iff.1 h
   have hl:=Jw hE h1
   obtain ⟨h3,h4⟩:=Qgz (args':=(args.map a.eval).toArray) (W:=W) (ats:=argTypes.toArray) (ty:=type) hv (by simpa using hl)
   refine Good.pure hR ?_ h4
   simp only [if_true] at h3
   simp [execOp,resolve,invoke,builtin,h3]
  ·cases h
 ·split at h
  ·rename_i l h1
   obtain ⟨v,hv,rfl⟩:=Option.map_eq_some_iff.1 h
   have hl:=Jw hE h1
   obtain ⟨h3,h4⟩:=Qgz (args':=(args.map a.eval).toArray) (W:=W) (ats:=argTypes.toArray) (ty:=type) hv (by simpa using hl)
   refine Good.pure hR ?_ h4
   simp only [Bool.false_eq_true,if_false] at h3
   simp [execOp,resolve,invoke,builtin,h3]
  ·cases h
 ·rename_i f
  split at h
  ·rename_i g fi caps l h1 h2
   split at h
   ·rename_i hc
    rw [Bool.and_eq_true] at hc
    obtain rfl:=Option.some.inj h
    have hv:=Qy hE h1
    have hl:=Jw hE h2
    generalize hfv:a.eval f=fv at hv
    cases hv with
    | fn _ _ cs' hs hcs =>
     refine ⟨(args.map a.eval).toArray++cs',?_,?_⟩
     ·have:=Qhi (W:=W) hP hc.2 ((args.map a.eval).toArray++cs')
      simp [execOp,resolve,invoke,Deferred.ofValue,hfv,this]
     ·rw [Array.toList_append,List.toList_toArray]
      exact hl.append ⟨by simpa using hs,fun i hi=>by simpa [List.getD_eq_getElem?_getD,Array.getD_eq_getD_getElem?] using hcs i (by simpa using hi)⟩
   ·cases h
  ·cases h
 ·cases h
theorem QdV (hP:Plain P) {o:Oper} {r:AR} (h:aop P p E H o=some r) (hE:EnvR ρ E a) (hR:Rel b0 ρ H W) (hf:∀t,Under p t→ρ t=none) (hp:p % 2=1):Good b0 p ρ H W ((execOp a.eval o).run P W) r:=by
 obtain ⟨dst,op,type,pos,after,guard⟩:=o
 unfold aop at h
 simp only at h
 split at h
 ·obtain ⟨v,hv,rfl⟩:=Option.map_eq_some_iff.1 h
  exact Good.pure hR Y (Qy hE hv)
 ·obtain ⟨v,hv,rfl⟩:=Option.map_eq_some_iff.1 h
  exact Good.pure hR Y (Qy hE hv)
 ·rename_i c x y
  split at h
  ·rename_i hc
   obtain ⟨v,hv,rfl⟩:=Option.map_eq_some_iff.1 h
   have h1:=Qy hE hc
   generalize hcv:a.eval c=cv at h1
   cases h1
   exact Good.pure hR (by simp [execOp,hcv,asBool]) (Qy hE hv)
  ·rename_i hc
   obtain ⟨v,hv,rfl⟩:=Option.map_eq_some_iff.1 h
   have h1:=Qy hE hc
   generalize hcv:a.eval c=cv at h1
   cases h1
   exact Good.pure hR (by simp [execOp,hcv,asBool]) (Qy hE hv)
  ·cases h
 ·split at h
  ·rename_i z hz
   split at h
   ·rename_i hc
    obtain rfl:=Option.some.inj h
    obtain ⟨u,W',ρ',h1,h2,h3⟩:=Qg2 hz hc hR hf hp
    exact Good.mem Y h1 h2 h3
   ·cases h
  ·cases h
 ·obtain ⟨v,hv,rfl⟩:=Option.map_eq_some_iff.1 h
  obtain ⟨u,W',ρ',h1,h2,h3⟩:=Qjb (Qy hE hv) hR hf hp
  exact Good.mem Y h1 h2 h3
 ·rename_i t ps
  split at h
  ·rename_i l hl
   obtain ⟨v,hv,rfl⟩:=Option.map_eq_some_iff.1 h
   obtain ⟨v',h1,h2⟩:=Qhn (W:=W) (ps':=ps.map fun (i,x)=>(i,a.eval x)) hv (by simpa using QdT hE hl)
   exact Good.val hR Y h1 h2
  ·cases h
 ·rename_i t len ps
  split at h
  ·rename_i l hl
   obtain ⟨v,H',u,W',ρ',rfl,h1,h2,h3⟩:=Qdi (ps':=ps.map fun (i,x)=>(i,a.eval x)) h (by simpa using QdT hE hl) hR hf hp
   exact Good.mem Y h1 h2 h3
  ·cases h
 ·split at h
  ·rename_i x hx
   obtain ⟨v,hv,rfl⟩:=Option.map_eq_some_iff.1 h
   obtain ⟨v',h1,h2⟩:=Qef hv (Qy hE hx) hR
   exact Good.val hR Y h1 h2
  ·cases h
 ·split at h
  ·rename_i u v hu hv
   obtain ⟨H',hH,rfl⟩:=Option.map_eq_some_iff.1 h
   obtain ⟨W',h1,h2⟩:=Qhw (p:=p) hH (Qy hE hu) (Qy hE hv) hR
   exact ⟨W',ρ,by simp [execOp,h1],h2⟩
  ·cases h
 ·rename_i x
  split at h
  ·rename_i ad hx
   obtain rfl:=Option.some.inj h
   have h1:=Qy hE hx
   generalize hcv:a.eval x=cv at h1
   refine Good.pure (v':=cv) hR ?_ h1
   cases h1
   simp [execOp,hcv]
  ·cases h
 ·rename_i bop t x y ty
  split at h
  ·rename_i u v hu hv
   obtain ⟨w,hw,rfl⟩:=Option.map_eq_some_iff.1 h
   obtain ⟨h1,h2⟩:=Qi9 (W:=W) hw (Qy hE hu) (Qy hE hv)
   exact Good.val hR Y h1 h2
  ·cases h
 ·split at h
  ·rename_i u hu
   obtain ⟨w,hw,rfl⟩:=Option.map_eq_some_iff.1 h
   obtain ⟨h1,h2⟩:=Qj6 (W:=W) hw (Qy hE hu)
   exact Good.val hR Y h1 h2
  ·cases h
 ·split at h
  ·rename_i u hu
   obtain ⟨v,H',u2,W',ρ',rfl,h1,h2,h3⟩:=Qis h (Qy hE hu) hR hf hp
   exact Good.mem Y h1 h2 h3
  ·cases h
 ·rename_i f fi caps
  split at h
  ·rename_i hfi
   obtain ⟨l,hl,rfl⟩:=Option.map_eq_some_iff.1 h
   have h1:=Jw hE hl
   have hfi':fi= #[]:=by simpa using hfi
   subst hfi'
   refine Good.val (P:=P) (s:=Instr.makeFunc (.func f) #[] (caps.map a.eval)) hR (by simp [execOp]) (v':= .func (.func f) #[] (caps.map a.eval)) (by simp [Instr.makeFunc]) ?_
   refine .fn f _ _ (by simpa using h1.1) (fun i hi=> ?_)
   have:=h1.2 i (by simpa using hi)
   simpa [List.getD_eq_getElem?_getD,Array.getD_eq_getD_getElem?] using this
  ·cases h
 ·obtain rfl:=Option.some.inj h
  obtain ⟨ρ',h1,h2⟩:=Stp.newMap hR hf hp
  exact ⟨.map (some W.heap.size),_,ρ',by simp [execOp,Instr.makeMap],h2, .map h1⟩
 ·split at h
  ·rename_i u v hu hv
   obtain ⟨w,H',u2,W',ρ',rfl,h1,h2,h3⟩:=QhR h (Qy hE hu) (Qy hE hv) hR hf hp
   exact Good.mem Y h1 h2 h3
  ·cases h
 ·split at h
  ·rename_i u hu
   obtain ⟨w,hw,rfl⟩:=Option.map_eq_some_iff.1 h
   obtain ⟨v',h1,h2⟩:=JY (lo':=none) (hi':=none) hw (Qy hE hu) trivial trivial hR
   exact Good.val hR Y h1 h2
  ·cases h
 ·rename_i t x lo
  split at h
  ·rename_i u v hu hv
   obtain ⟨w,hw,rfl⟩:=Option.map_eq_some_iff.1 h
   obtain ⟨v',h1,h2⟩:=JY (lo':=some (a.eval lo)) (hi':=none) hw (Qy hE hu) (Qy hE hv) trivial hR
   exact Good.val hR Y h1 h2
  ·cases h
 ·rename_i t x hi
  split at h
  ·rename_i u v hu hv
   obtain ⟨w,hw,rfl⟩:=Option.map_eq_some_iff.1 h
   obtain ⟨v',h1,h2⟩:=JY (lo':=none) (hi':=some (a.eval hi)) hw (Qy hE hu) trivial (Qy hE hv) hR
   exact Good.val hR Y h1 h2
  ·cases h
 ·rename_i t x lo hi
  split at h
  ·rename_i u v w hu hv hw'
   obtain ⟨w,hw,rfl⟩:=Option.map_eq_some_iff.1 h
   obtain ⟨v',h1,h2⟩:=JY (lo':=some (a.eval lo)) (hi':=some (a.eval hi)) hw (Qy hE hu) (Qy hE hv) (Qy hE hw') hR
   exact Good.val hR Y h1 h2
  ·cases h
 ·split at h
  ·rename_i u hu
   obtain ⟨w,hw,rfl⟩:=Option.map_eq_some_iff.1 h
   obtain ⟨v',h1,h2⟩:=Qd3 (W:=W) hw (Qy hE hu)
   exact Good.val hR Y h1 h2
  ·cases h
 ·split at h
  ·rename_i u hu
   obtain ⟨w,hw,rfl⟩:=Option.map_eq_some_iff.1 h
   obtain ⟨v',h1,h2⟩:=QgV (W:=W) hw (Qy hE hu)
   exact Good.val hR Y h1 h2
  ·cases h
 ·split at h
  ·rename_i u v hu hv
   obtain ⟨w,hw,rfl⟩:=Option.map_eq_some_iff.1 h
   obtain ⟨v',h1,h2⟩:=QdL (W:=W) hw (Qy hE hu) (Qy hE hv)
   exact Good.val hR Y h1 h2
  ·cases h
 ·split at h
  ·rename_i u v hu hv
   obtain ⟨w,hw,rfl⟩:=Option.map_eq_some_iff.1 h
   obtain ⟨v',h1,h2⟩:=Qhf (W:=W) hw (Qy hE hu) (Qy hE hv)
   exact Good.val hR Y h1 h2
  ·cases h
 ·split at h
  ·rename_i u v hu hv
   obtain ⟨w,hw,rfl⟩:=Option.map_eq_some_iff.1 h
   obtain ⟨v',h1,h2⟩:=Qf9 hw (Qy hE hu) (Qy hE hv) hR
   exact Good.val hR Y h1 h2
  ·cases h
 ·split at h
  ·rename_i u v w hu hv hw'
   obtain ⟨H',hH,rfl⟩:=Option.map_eq_some_iff.1 h
   obtain ⟨W',h1,h2⟩:=Qf8 (p:=p) hH (Qy hE hu) (Qy hE hv) (Qy hE hw') hR
   exact ⟨W',ρ,by simp [execOp,h1],h2⟩
  ·cases h
 ·split at h
  ·rename_i u hu
   obtain ⟨w,hw,rfl⟩:=Option.map_eq_some_iff.1 h
   obtain ⟨v',h1,h2⟩:=Qfl (W:=W) hw (Qy hE hu)
   exact Good.val hR Y h1 h2
  ·cases h
 ·exact Qhr hP h hE hR hf hp
 ·cases h
end
structure St where
 E:Nat→Value
 h:AH
 c:Nat
abbrev QO := FuncId→List Value→AH→Nat→Option (Value×AH)
def Z3 (E:Nat→Value) (dst:Option Tmp) (v:Value):Nat→Value :=
 match dst with
 | some d=>fun t=>if t=d then v else E t
 | none=>E
def Yo (ops:Array Oper) (E:Nat→Value) (o:Oper):Bool :=
 match o.guard with
 | none=>true
 | some (j,w) =>
  match (ops[j]?).bind (·.dst) with
  | some d=>(match E d with | .bool b=>b == w | _=>false)
  | none=>false
def QD (call:QO) (P:Program) (p:Nat) (E:Nat→Value) (H:AH) (o:Oper):Option (Value×AH) :=
 match aop P p E H o with
 | some (.val v h')=>some (v,h')
 | some (.skip h')=>some (undef,h')
 | some (.enter f args)=>call f args H p
 | none=>none
def QfK (call:QO) (P:Program) (π:Nat) (ops:Array Oper) (i:Nat) (o:Oper) (s:St):Option St :=
 if Yo ops s.E o then (QD call P (child π (s.c+i)) s.E s.h o).map fun r=>⟨Z3 s.E o.dst r.1,r.2,s.c⟩
 else some ⟨Z3 s.E o.dst undef,s.h,s.c⟩
def QbY (call:QO) (P:Program) (π:Nat) (ops:Array Oper):List Oper→Nat→St→Option St
 | [],_,s=>some s
 | o::r,i,s=>(QfK call P π ops i o s).bind (QbY call P π ops r (i+1))
def QbT (P:Program) (call:QO):Prop :=
 ∀(f:FuncId) (args:List Value) (h:AH) (p:Nat) (v:Value) (h':AH),call f args h p=some (v,h')→∀(b0:Nat) (ρ:Zv) (W:World) (args':Array Value),
  LR ρ args args'.toList→Rel b0 ρ h W→(∀t,Under p t→ρ t=none)→p % 2=1 →
  Calls P f args' W fun e W'=>∃v' ρ',e= .returned v'∧Stp b0 p ρ h W ρ' h' W'∧VR ρ' v v'
structure Inv (b0 π n:Nat) (ρ0:Zv) (H0:AH) (W0:World) (ρ:Zv) (s:St) (a:Act) (W:World):Prop where
 env:EnvR ρ s.E a
 stp:Stp b0 π ρ0 H0 W0 ρ s.h W
 defers:a.defers= []
 size:n≤a.tmps.size
def Qbn (π k:Nat) (ρ:Zv):Prop:=∀j t,k≤j→Under (child π j) t→ρ t=none
theorem EnvR.put {ρ ρ':Zv} {E:Nat→Value} {a:Act} {dst:Option Tmp} {v v':Value} (hE:EnvR ρ E a) (hρ:∀t s,ρ t=some s→ρ' t=some s) (hv:VR ρ' v v') (hd:∀d,dst=some d→d<a.tmps.size):EnvR ρ' (Z3 E dst v) (a.put dst v'):=by
 intro t
 cases dst with
 | none=>exact (hE t).mono hρ
 | some d =>
  have hlt:=hd d Y
  simp only [Z3,Act.put]
  by_cases htd:t=d
  ·subst htd
   simpa [Array.getD_eq_getD_getElem?,hlt] using hv
  ·rw [if_neg htd]
   have:d≠t:=Ne.symm htd
   simpa [Array.getD_eq_getD_getElem?,Array.getElem?_setIfInBounds_ne this] using (hE t).mono hρ
theorem Qe2 (a:Act) (dst:Option Tmp) (v:Value):(a.put dst v).tmps.size=a.tmps.size:=by
 cases dst<;>simp [Act.put]
theorem QcH (a:Act) (dst:Option Tmp) (v:Value):(a.put dst v).defers=a.defers:=by
 cases dst<;>rfl
theorem QhM {ρ:Zv} {E:Nat→Value} {a:Act} (hE:EnvR ρ E a) (ops:Array Oper) (o:Oper):Region.wanted o (yielded ops a.tmps)=Yo ops E o:=by
 unfold Region.wanted Yo
 cases o.guard with
 | none=>rfl
 | some g =>
  obtain ⟨j,w⟩:=g
  simp only
  cases hd:(ops[j]?).bind (·.dst) with
  | none=>simp [yielded,hd]
  | some d =>
   have h1:=hE d
   simp only [yielded,hd,Option.bind_some]
   cases ht:a.tmps[d]? with
   | none =>
    rw [show a.tmps.getD d undef=undef by simp [Array.getD_eq_getD_getElem?,ht]] at h1
    generalize E d=x at h1
    cases h1 with
    | tuple=>rfl
   | some y =>
    rw [show a.tmps.getD d undef=y by simp [Array.getD_eq_getD_getElem?,ht]] at h1
    generalize E d=x at h1
    cases h1<;>first | rfl | (rename_i b;cases b<;>cases w<;>rfl)
theorem Under.child_of {π j t:Nat} (h:Under (AE.child π j) t):Under π t:=(Under.step j .refl).trans h
theorem QaH {P:Program} {call:QO} {b0 p:Nat} {ρ:Zv} {E:Nat→Value} {H h':AH} {W:World} {a:Act} {o:Oper} {v:Value} {K:Act→World→Prop} {Q:Exit→Act→World→Prop} (hP:Plain P) (hcall:QbT P call)
  (h:QD call P p E H o=some (v,h')) (hE:EnvR ρ E a) (hR:Rel b0 ρ H W) (hf:∀t,Under p t→ρ t=none) (hp:p % 2=1)
  (hK:∀v' ρ' W',Stp b0 p ρ H W ρ' h' W'→VR ρ' v v'→K (a.put o.dst v') W'):o.wp P a W K Q:=by
 unfold QD at h
 unfold Oper.wp
 split at h
 ·rename_i u hh hr
  simp only [Option.some.injEq,Prod.mk.injEq] at h
  obtain ⟨rfl,rfl⟩:=h
  obtain ⟨v',W',ρ',h1,h2,h3⟩:=QdV hP hr hE hR hf hp
  rw [h1]
  exact hK v' ρ' W' h2 h3
 ·rename_i hh hr
  simp only [Option.some.injEq,Prod.mk.injEq] at h
  obtain ⟨rfl,rfl⟩:=h
  obtain ⟨W',ρ',h1,h2⟩:=QdV hP hr hE hR hf hp
  rw [h1]
  exact hK undef ρ' W' h2 (VR.undef _)
 ·rename_i f args hr
  obtain ⟨args',h1,h2⟩:=QdV hP hr hE hR hf hp
  rw [h1]
  refine Calls.mono (hcall f args H p v h' h b0 ρ W args' h2 hR hf hp) ?_
  rintro e W' ⟨v',ρ',rfl,h3,h4⟩
  exact hK v' ρ' W' h3 h4
 ·cases h
theorem QcT {P:Program} {call:QO} {b0 π n:Nat} {ρ0:Zv} {H0:AH} {W0:World} {ops:Array Oper} {Q:Exit→Act→World→Prop} (hP:Plain P) (hcall:QbT P call) (hπ:π % 2=1) (hdst:∀o∈ops.toList,∀d,o.dst=some d→d<n) :
  ∀(l:List Oper) (i:Nat) (s s':St) (ρ:Zv) (a:Act) (W:World),i≤ops.size→ops.toList.drop i=l→QbY call P π ops l i s=some s'→Inv b0 π n ρ0 H0 W0 ρ s a W→Qbn π (s.c+i) ρ →
   (∀ρ' a' W',s'.c=s.c→Inv b0 π n ρ0 H0 W0 ρ' s' a' W'→Qbn π (s.c+ops.size) ρ'→Q .normal a' W')→wpOps P ops Q (List.range' i (ops.size - i)) a W
 | [],i,s,s',ρ,a,W,hle,hl,h,hI,hF,hK=>by
  have hi:ops.size≤i:=by simpa using hl
  rw [show ops.size - i=0 by omega]
  obtain rfl:s=s':=by simpa [QbY] using h
  simp only [List.range'_zero,wpOps]
  exact hK ρ a W Y hI (fun j t hj ht=>hF j t (by omega) ht)
 | o::l,i,s,s',ρ,a,W,hle,hl,h,hI,hF,hK=>by
  have hlt:i<ops.size:=by
   rcases Nat.lt_or_ge i ops.size with hlt | hge
   ·exact hlt
   ·rw [List.drop_eq_nil_of_le (by simpa using hge)] at hl
    cases hl
  have hoi:ops[i]? =some o:=by
   have:=congrArg (·[0]?) hl
   simpa using this
  have hl':ops.toList.drop (i+1)=l:=by
   rw [← List.drop_drop,hl]
   rfl
  have hmem:o∈ops.toList:=by
   rw [Array.mem_toList_iff]
   exact Array.mem_of_getElem? hoi
  obtain ⟨m,hm⟩:∃m,ops.size - i=m+1:=⟨ops.size - i - 1,by omega⟩
  rw [hm,List.range'_succ]
  have hm':m=ops.size - (i+1):=by omega
  simp only [wpOps,hoi]
  simp only [QbY,QfK] at h
  have hd:∀d,o.dst=some d→d<a.tmps.size:=fun d hd=>Nat.lt_of_lt_of_le (hdst o hmem d hd) hI.size
  rw [QhM hI.env]
  split at h
  ·rename_i hw
   rw [if_pos hw]
   obtain ⟨s1,h1,h2⟩:=Option.bind_eq_some_iff.1 h
   obtain ⟨⟨v,h'⟩,hx,rfl⟩:=Option.map_eq_some_iff.1 h1
   left
   refine QaH hP hcall hx hI.env hI.stp.rel (fun t ht=>hF (s.c+i) t (Nat.le_refl _) ht) (YL _ _) (fun v' ρ' W' hs hv=> ?_)
   rw [hm']
   have hw2:Stp b0 π ρ s.h W ρ' h' W':=hs.wide (fun t ht=>Under.child_of ht)
   refine QcT hP hcall hπ hdst l (i+1) _ s' ρ' _ W' hlt hl' h2 ⟨hI.env.put hs.ext.1 hv hd,hI.stp.trans hw2,by rw [QcH];exact hI.defers,by rw [Qe2];exact hI.size⟩ (fun j t hj ht=> ?_) hK
   have hn:ρ t=none:=hF j t (by simp only at hj;omega) ht
   cases hr:ρ' t with
   | none=>rfl
   | some q =>
    rcases hs.ext.2 t (by rw [hr];simp) with h5 | h5
    ·exact absurd hn h5
    ·have:=Under.apart ht h5
     simp only at hj
     omega
  ·rename_i hw
   rw [if_neg hw]
   simp only [Option.bind_some] at h
   rw [hm']
   refine QcT hP hcall hπ hdst l (i+1) _ s' ρ _ W hlt hl' h ⟨hI.env.put (fun _ _ e=>e) (VR.undef _) hd,hI.stp,by rw [QcH];exact hI.defers,by rw [Qe2];exact hI.size⟩ (fun j t hj ht=>hF j t (by simp only at hj;omega) ht) hK
theorem Qdz {E E':Nat→Value}:∀ {xs:List Operand},(∀x∈xs,ZS E x=ZS E' x)→evs E xs=evs E' xs
 | [],_=>rfl
 | x::r,h=>by simp only [evs,h x (by simp),Qdz (xs:=r) (fun y hy=>h y (by simp [hy]))]
theorem Qd7 {E E':Nat→Value}:∀ {xs:List (Nat×Operand)},(∀x∈xs.map (·.2),ZS E x=ZS E' x)→evp E xs=evp E' xs
 | [],_=>rfl
 | x::r,h=>by simp only [evp,h x.2 (by simp),Qd7 (xs:=r) (fun y hy=>h y (by simp only [List.map_cons,List.mem_cons];exact .inr hy))]
theorem QgX {P:Program} {p:Nat} {E E':Nat→Value} {H:AH} {c:Call} (h:∀x∈c.operands,ZS E x=ZS E' x):QaX P p E H c=QaX P p E' H c:=by
 obtain ⟨callee,args,ats⟩:=c
 have ha:evs E args.toList=evs E' args.toList:=Qdz fun x hx=>h x (by simp only [Call.operands,Array.mem_append];exact .inr (by simpa using hx))
 unfold QaX
 simp only [ha]
 cases callee with
 | value f =>
  have hf:ZS E f=ZS E' f:=h f (by simp [Call.operands])
  simp only [hf]
 | invoke r m=>rfl
 | builtin b=>cases b<;>rfl
theorem Qj8 {P:Program} {p:Nat} {E E':Nat→Value} {H:AH} {o:Oper} (h:∀x∈o.op.operands,ZS E x=ZS E' x):aop P p E H o=aop P p E' H o:=by
 obtain ⟨dst,op,type,pos,after,guard⟩:=o
 cases op<;>simp only [Op.operands] at h
 case build t ps=>simp only [aop,Qd7 (xs:=ps.toList) fun x hx=>h x (by simpa using hx)]
 case buildSlice t n ps=>simp only [aop,Qd7 (xs:=ps.toList) fun x hx=>h x (by simpa using hx)]
 case makeFunc fn first captured =>
  have hc:evs E captured.toList=evs E' captured.toList:=Qdz fun x hx=>h x (by simp only [Array.mem_append];exact .inr (by simpa using hx))
  cases fn<;>simp only [aop,hc]
 case call c=>simp only [aop,QgX h]
 case makeMap t r=>cases r<;>simp only [aop]
 case slice t x lo hi mx =>
  have hx:ZS E x=ZS E' x:=h x (by simp)
  cases lo<;>cases hi<;>cases mx<;>simp only [aop,hx]
  ·rename_i a
   rw [h a (by simp)]
  ·rename_i a
   rw [h a (by simp)]
  ·rename_i a b
   rw [h a (by simp),h b (by simp)]
 all_goals simp only [aop]
 all_goals simp_all
theorem Qkh {E E':Nat→Value} {x:Operand} (h:∀t,x= .tmp t→E t=E' t):ZS E x=ZS E' x:=by
 cases x with
 | tmp t=>simp only [ZS,h t Y]
 | _=>rfl
theorem Qid {call:QO} {P:Program} {p:Nat} {E E':Nat→Value} {H:AH} {o:Oper} {ops:Array Oper} (h:∀t∈o.looksAt ops,E t=E' t):QD call P p E H o=QD call P p E' H o:=by
 unfold QD
 rw [Qj8 (E:=E) (E':=E') fun x hx=>Qkh fun t ht=>h t (by
  subst ht
  exact List.mem_append_left _ (List.mem_filterMap.2 ⟨.tmp t,by simpa using hx,rfl⟩))]
theorem Qic {E E':Nat→Value} {o:Oper} {ops:Array Oper} (h:∀t∈o.looksAt ops,E t=E' t):Yo ops E o=Yo ops E' o:=by
 unfold Yo
 cases hg:o.guard with
 | none=>rfl
 | some g =>
  obtain ⟨j,w⟩:=g
  simp only
  cases hd:(ops[j]?).bind (·.dst) with
  | none=>rfl
  | some d=>simp only [h d (by simp [Oper.looksAt,hg,hd])]
def over (Hall Hin Hout:AH):AH:=fun t=>match Hout t with | some o=>some o | none=>(match Hin t with | some _=>none | none=>Hall t)
theorem Stp.over {b0 p:Nat} {ρ ρ':Zv} {Hin Hout Hall:AH} {W W':World} (h:Stp b0 p ρ Hin W ρ' Hout W') (hA:Rel b0 ρ Hall W) (hin:∀t o,Hin t=some o→Hall t=some o):Stp b0 p ρ Hall W ρ' (AE.over Hall Hin Hout) W':=by
 have notOwn:∀t o,Hall t=some o→Hin t=none→∀s,ρ t=some s→¬Own ρ Hin s.b:=by
  rintro t o ho hn s hs ⟨t',s',h1,h2,h3,h4⟩
  obtain ⟨s1,e1,_,hod,hev⟩:=(hA.tok t o ho).slot
  obtain rfl:s=s1:=Option.some.inj (hs.symm.trans e1)
  obtain ⟨o',ho'⟩:=Option.ne_none_iff_exists'.1 h2
  have hA':=hin t' o' ho'
  rcases Nat.mod_two_eq_zero_or_one t with h0 | h0
  ·obtain ⟨s2,e2,_,hod2,_⟩:=(hA.tok t' o' hA').slot
   obtain rfl:s'=s2:=Option.some.inj (h3.symm.trans e2)
   have:=hod2 h1
   have:=hev h0
   omega
  ·have:=hA.inj t' t s' s h1 h0 (by rw [hA'];simp) (by rw [ho];simp) h3 hs h4
   subst this
   exact h2 hn
 have spl:∀t o,AE.over Hall Hin Hout t=some o→Hout t=some o∨(Hin t=none∧Hall t=some o):=by
  intro t o ho
  unfold AE.over at ho
  cases hout:Hout t with
  | some x=>rw [hout] at ho;exact .inl ho
  | none =>
   rw [hout] at ho
   simp only at ho
   cases hi:Hin t with
   | some x=>rw [hi] at ho;cases ho
   | none=>rw [hi] at ho;exact .inr ⟨rfl,ho⟩
 have spl':∀t,AE.over Hall Hin Hout t≠none→Hout t≠none∨∃o,(Hin t=none∧Hall t=some o):=by
  intro t ht
  obtain ⟨o,ho⟩:=Option.ne_none_iff_exists'.1 ht
  rcases spl t o ho with h1 | h1
  ·exact .inl (by rw [h1];simp)
  ·exact .inr ⟨o,h1⟩
 have mix:∀t t' s s',t % 2=1→Hout t≠none→(∃o,Hin t'=none∧Hall t'=some o)→ρ' t=some s→ρ' t'=some s'→s.b=s'.b→False:=by
  rintro t t' s s' h1 h2 ⟨o,h3,h4⟩ h5 h6 h7
  obtain ⟨s1,e1,hlt,_,_⟩:=(hA.tok t' o h4).slot
  obtain rfl:s'=s1:=Option.some.inj (h6.symm.trans (h.ext.1 _ _ e1))
  rcases h.own s.b ⟨t,s,h1,h2,h5,rfl⟩ with h8 | h8
  ·exact notOwn t' o h4 h3 s' e1 (h7▸h8)
  ·omega
 refine ⟨h.ext,⟨fun t o ho=> ?_,?_,h.rel.le,h.rel.glob⟩,h.size,?_,?_,?_,h.same⟩
 ·rcases spl t o ho with h1 | ⟨h1,h2⟩
  ·exact h.rel.tok t o h1
  ·refine (hA.tok t o h2).mono h.ext.1 (fun s hs=> ?_)
   obtain ⟨s1,e1,hlt,_,_⟩:=(hA.tok t o h2).slot
   obtain rfl:s=s1:=Option.some.inj (hs.symm.trans e1)
   exact h.frame _ hlt (notOwn t o h2 h1 s hs)
 ·intro t t' s s' ht ht' h1 h2 h3 h4 h5
  rcases spl' t h1 with h6 | h6<;>rcases spl' t' h2 with h7 | h7
  ·exact h.rel.inj t t' s s' ht ht' h6 h7 h3 h4 h5
  ·exact (mix t t' s s' ht h6 h7 h3 h4 h5).elim
  ·exact (mix t' t s' s ht' h7 h6 h4 h3 h5.symm).elim
  ·obtain ⟨o,_,h6⟩:=h6
   obtain ⟨o',_,h7⟩:=h7
   obtain ⟨s1,e1,_⟩:=(hA.tok t o h6).slot
   obtain ⟨s2,e2,_⟩:=(hA.tok t' o' h7).slot
   obtain rfl:s=s1:=Option.some.inj (h3.symm.trans (h.ext.1 _ _ e1))
   obtain rfl:s'=s2:=Option.some.inj (h4.symm.trans (h.ext.1 _ _ e2))
   exact hA.inj t t' s s' ht ht' (by rw [h6];simp) (by rw [h7];simp) e1 e2 h5
 ·intro b hb hn
  refine h.frame b hb (fun ⟨t,s,h1,h2,h3,h4⟩=>hn ⟨t,s,h1,?_,h3,h4⟩)
  obtain ⟨o,ho⟩:=Option.ne_none_iff_exists'.1 h2
  rw [hin t o ho]
  simp
 ·rintro b ⟨t,s,h1,h2,h3,h4⟩
  rcases spl' t h2 with h6 | ⟨o,_,h6⟩
  ·rcases h.own b ⟨t,s,h1,h6,h3,h4⟩ with ⟨t',s',g1,g2,g3,g4⟩ | h7
   ·obtain ⟨o,ho⟩:=Option.ne_none_iff_exists'.1 g2
    exact .inl ⟨t',s',g1,by rw [hin t' o ho];simp,g3,g4⟩
   ·exact .inr h7
  ·obtain ⟨s1,e1,_⟩:=(hA.tok t o h6).slot
   obtain rfl:s=s1:=Option.some.inj (h3.symm.trans (h.ext.1 _ _ e1))
   exact .inl ⟨t,s,h1,by rw [h6];simp,e1,h4⟩
 ·intro t ht
  rcases spl' t ht with h6 | ⟨o,_,h6⟩
  ·rcases h.dom t h6 with h7 | h7
   ·obtain ⟨o,ho⟩:=Option.ne_none_iff_exists'.1 h7
    exact .inl (by rw [hin t o ho];simp)
   ·exact .inr h7
  ·exact .inl (by rw [h6];simp)
theorem Rel.sub {b0:Nat} {ρ:Zv} {H H':AH} {W:World} (h:Rel b0 ρ H W) (hs:∀t o,H' t=some o→H t=some o):Rel b0 ρ H' W:=by
 refine ⟨fun t o ho=>h.tok t o (hs t o ho),fun t t' s s' h1 h2 h3 h4=>h.inj t t' s s' h1 h2 ?_ ?_,h.le,h.glob⟩
 ·obtain ⟨o,ho⟩:=Option.ne_none_iff_exists'.1 h3
  rw [hs t o ho];simp
 ·obtain ⟨o,ho⟩:=Option.ne_none_iff_exists'.1 h4
  rw [hs t' o ho];simp
theorem Stp.sub {b0 p:Nat} {ρ ρ':Zv} {H H' H'':AH} {W W':World} (h:Stp b0 p ρ H W ρ' H' W') (hs:∀t o,H'' t=some o→H' t=some o):Stp b0 p ρ H W ρ' H'' W':=by
 have hn:∀t,H'' t≠none→H' t≠none:=fun t ht=>by
  obtain ⟨o,ho⟩:=Option.ne_none_iff_exists'.1 ht
  rw [hs t o ho];simp
 exact ⟨h.ext,h.rel.sub hs,h.size,h.frame,fun b ⟨t,s,h1,h2,h3,h4⟩=>h.own b ⟨t,s,h1,hn t h2,h3,h4⟩,fun t ht=>h.dom t (hn t ht),h.same⟩
inductive Cls | free | look | chain
 deriving DecidableEq
def cls (P:Program):Op→Cls
 | .load .. => .look
 | .lookup .. => .look
 | .slice .. => .look
 | .store .. => .chain
 | .mapUpdate .. => .chain
 | .convert s _ _=>(match P.underlying s with | some (.slice _)=> .look | _=> .free)
 | .call c=>(match c.callee with | .builtin .len=> .look | .builtin .max=> .free | .builtin .min=> .free | _=> .chain)
 | _=> .free
def binds (o:Oper):List Nat:=(o.after.toList.filter (Region.binds .any)).map (·.on)
def Qlx : List Oper→List (List Nat)→List (List Nat)
 | [],acc=>acc
 | o::r,acc=>Qlx r (acc++ [(binds o).foldl (fun s k=>(k::acc.getD k []).foldl (fun s x=>if s.contains x then s else x::s) s) []])
def okD (P:Program) (ops:Array Oper) (B:List (List Nat)):Bool :=
 (List.range ops.size).all fun i=>match ops[i]? with
  | none=>true
  | some o =>
   (binds o).all (fun k=>decide (k<i)) &&
   (B.getD i []).all (fun x=>(binds o).any fun k=>k == x || (B.getD k []).contains x) &&
   (o.dst.isNone || (List.range i).all fun j=> !((ops[j]?).bind (·.dst) == o.dst)) &&
   (o.looksAt ops).all (fun t=>(List.range ops.size).all fun j=> !((ops[j]?).bind (·.dst) == some t) || ((B.getD i []).contains j || (B.getD j []).contains i)) &&
   (!(cls P o.op == .chain) || (List.range i).all fun j=> !(((ops[j]?).map fun q=>cls P q.op) == some .chain) || (B.getD i []).contains j)
structure DSt where
 E:Nat→Value
 C:AH
 al:List (Nat×Yn)
 fl:List Nat
def lay (π c:Nat) (cond:Nat→Bool):List (Nat×Yn)→AH→AH
 | [],C=>C
 | x::r,C=>if cond x.1 then (lay π c cond r C).upd (Qn (child π (c+x.1))) (some x.2) else lay π c cond r C
def Quiet (base h:AH):Prop:=∀t,base t≠none→h t=base t
def Qbt (P:Program) (ops:Array Oper) (l:List Nat):Bool:=(List.range ops.size).all fun j=> !(((ops[j]?).map fun q=>cls P q.op) == some .look) || l.contains j
section
variable (call : QO) (P : Program) (π c : Nat) (ops : Array Oper) (B : List (List Nat)) (base : AH)
open Classical in
noncomputable def Qa4 (i:Nat) (o:Oper) (s:DSt):Option DSt :=
 if Yo ops s.E o then
  match cls P o.op with
  | .free=>(QD call P (child π (c+i)) s.E (fun _=>none) o).map fun r=>⟨Z3 s.E o.dst r.1,s.C,(match r.2 (Qn (child π (c+i))) with | some x=>s.al++ [(i,x)] | none=>s.al),s.fl⟩
  | .look=>(match QD call P (child π (c+i)) s.E base o with | some r=>if Quiet base r.2 then some ⟨Z3 s.E o.dst r.1,s.C,s.al,s.fl⟩ else none | none=>none)
  | .chain =>
   match QD call P (child π (c+i)) s.E (lay π c (fun a=>(B.getD i []).contains a && !s.fl.contains a) s.al s.C) o with
   | some r=>if Qbt P ops (B.getD i [])=true∨Quiet base r.2 then some ⟨Z3 s.E o.dst r.1,r.2,s.al,B.getD i []++s.fl⟩ else none
   | none=>none
 else some ⟨Z3 s.E o.dst undef,s.C,s.al,s.fl⟩
noncomputable def Qfq : List Oper→Nat→DSt→Option DSt
 | [],_,s=>some s
 | o::r,i,s=>(Qa4 call P π c ops B base i o s).bind (Qfq r (i+1))
def Qfm (ops:Array Oper):List Tmp:=ops.toList.filterMap fun o=>match o.op,o.dst with
 | .move (.tmp a),some d=>if ops.toList.any (fun q=>match q.op with | .call ⟨.value _,args,_⟩=>args.toList.any (fun x=>match x with | .tmp e=>e == d | _=>false) | _=>false) then some a else none
 | _,_=>none
open Classical in
noncomputable def QcQ (E:Nat→Value) (ops:Array Oper) (h:AH):AH:=fun t=>if ∃a∈Qfm ops,E a= .pointer (some ⟨t,0,none⟩) then none else h t
theorem QfH {E:Nat→Value} {ops:Array Oper} {h:AH} {t:Nat} {o:Yn} (hb:QcQ E ops h t=some o):h t=some o:=by
 unfold QcQ at hb
 split at hb
 ·cases hb
 ·exact hb
noncomputable def QgJ (s:St):Option St :=
 let B:=Qlx ops.toList []
 if okD P ops B then (Qfq call P π s.c ops B (QcQ s.E ops s.h) ops.toList 0 ⟨s.E,s.h,[],[]⟩).map fun d=>⟨d.E,lay π s.c (fun a=> !d.fl.contains a) d.al d.C,s.c+ops.size⟩ else none
theorem QfC : ∀(l:List Oper) (i:Nat) (s s':DSt),Qfq call P π c ops B base l i s=some s' →
  ∃T:Nat→DSt,T i=s∧T (i+l.length)=s'∧∀j o,l[j]? =some o→Qa4 call P π c ops B base (i+j) o (T (i+j))=some (T (i+j+1))
 | [],i,s,s',h=>⟨fun _=>s,rfl,by simpa [Qfq] using h,fun j o hj=>by simp at hj⟩
 | o::r,i,s,s',h=>by
  simp only [Qfq] at h
  obtain ⟨s1,h1,h2⟩:=Option.bind_eq_some_iff.1 h
  obtain ⟨T,t1,t2,t3⟩:=QfC r (i+1) s1 s' h2
  refine ⟨fun k=>if k=i then s else T k,by simp,?_,fun j q hj=> ?_⟩
  ·have:¬(i+(o::r).length=i):=by simp
   simp only [if_neg this]
   rw [← t2]
   congr 1
   simp
   omega
  ·cases j with
   | zero =>
    obtain rfl:o=q:=by simpa using hj
    simp only [Nat.add_zero,if_true]
    rw [if_neg (by omega),t1]
    exact h1
   | succ j =>
    simp only []
    rw [if_neg (by omega),if_neg (by omega)]
    have:=t3 j q (by simpa using hj)
    rw [show i+(j+1)=i+1+j by omega]
    exact this
end
theorem Qag {π c:Nat} {cond:Nat→Bool} {C:AH} {t:Nat} {o:Yn}:∀ {al:List (Nat×Yn)},lay π c cond al C t=some o→(∃x∈al,cond x.1=true∧t=Qn (child π (c+x.1))∧x.2=o)∨C t=some o
 | [],h=> .inr h
 | x::r,h=>by
  simp only [lay] at h
  split at h
  ·rename_i hc
   unfold AH.upd at h
   split at h
   ·rename_i ht
    exact .inl ⟨x,by simp,hc,ht,Option.some.inj h⟩
   ·exact (Qag h).imp (fun ⟨y,hy,hr⟩=>⟨y,by simp [hy],hr⟩) id
  ·exact (Qag h).imp (fun ⟨y,hy,hr⟩=>⟨y,by simp [hy],hr⟩) id
structure OkD (P:Program) (ops:Array Oper) (B:List (List Nat)):Prop where
 back:∀i o,ops[i]? =some o→∀e∈o.after,Region.binds .any e=true→e.on<i
 bef:∀i o,ops[i]? =some o→∀x,(B.getD i []).contains x=true→∃e∈o.after,Region.binds .any e=true∧(e.on=x∨(B.getD e.on []).contains x=true)
 dst:∀(i j:Nat) (o q:Oper) d,ops[i]? =some o→ops[j]? =some q→o.dst=some d→q.dst=some d→i=j
 reads:∀i o,ops[i]? =some o→∀t∈o.looksAt ops,∀j q,ops[j]? =some q→q.dst=some t→(B.getD i []).contains j=true∨(B.getD j []).contains i=true
 chain:∀i o,ops[i]? =some o→cls P o.op= .chain→∀j q,j<i→ops[j]? =some q→cls P q.op= .chain→(B.getD i []).contains j=true
theorem Qk7 {P:Program} {ops:Array Oper} {B:List (List Nat)} (h:okD P ops B=true):OkD P ops B:=by
 unfold okD at h
 rw [List.all_eq_true] at h
 have hi:∀i o,ops[i]? =some o→i<ops.size:=fun i o ho=>(Array.getElem?_eq_some_iff.1 ho).1
 have hmem:∀(o:Oper) (e:Edge),e∈o.after→Region.binds .any e=true→e.on∈binds o:=fun o e he hb =>
  List.mem_map.2 ⟨e,List.mem_filter.2 ⟨by simpa using he,hb⟩,rfl⟩
 have key:∀i o,ops[i]? =some o→_:=fun i o ho=>h i (List.mem_range.2 (hi i o ho))
 have dlt:∀(i j:Nat) (o q:Oper) d,ops[i]? =some o→ops[j]? =some q→o.dst=some d→q.dst=some d→j<i→False:=by
  intro i j o q d ho hq hd hd' hlt
  have h1:=key i o ho
  simp only [ho,Bool.and_eq_true] at h1
  have h2:=h1.1.1.2
  simp only [Bool.or_eq_true,hd,Option.isNone_some,Bool.false_eq_true,false_or,List.all_eq_true,List.mem_range] at h2
  have h3:=h2 j hlt
  simp [hq,hd'] at h3
 refine ⟨fun i o ho e he hb=> ?_,fun i o ho x hx=> ?_,fun i j o q d ho hq hd hd'=> ?_,fun i o ho t ht j q hq hd=> ?_,fun i o ho hc j q hlt hq hc'=> ?_⟩
 ·have h1:=key i o ho
  simp only [ho,Bool.and_eq_true] at h1
  have:=List.all_eq_true.1 h1.1.1.1.1 _ (hmem o e he hb)
  simpa using this
 ·have h1:=key i o ho
  simp only [ho,Bool.and_eq_true] at h1
  have:=List.all_eq_true.1 h1.1.1.1.2 x (by simpa using hx)
  obtain ⟨k,hk,hk2⟩:=List.any_eq_true.1 this
  obtain ⟨e,he,rfl⟩:=List.mem_map.1 hk
  obtain ⟨he1,he2⟩:=List.mem_filter.1 he
  refine ⟨e,by simpa using he1,he2,?_⟩
  simpa using hk2
 ·rcases Nat.lt_trichotomy i j with hlt | he | hlt
  ·exact (dlt j i q o d hq ho hd' hd hlt).elim
  ·exact he
  ·exact (dlt i j o q d ho hq hd hd' hlt).elim
 ·have h1:=key i o ho
  simp only [ho,Bool.and_eq_true] at h1
  have:=List.all_eq_true.1 h1.1.2 t ht
  have:=List.all_eq_true.1 this j (List.mem_range.2 (hi j q hq))
  simpa [hq,hd] using this
 ·have h1:=key i o ho
  simp only [ho,Bool.and_eq_true] at h1
  have:=h1.2
  simp only [hc,beq_self_eq_true,Bool.not_true,Bool.false_or] at this
  have:=List.all_eq_true.1 this j (List.mem_range.2 hlt)
  simpa [hq,hc'] using this
structure Trace (call:QO) (P:Program) (π c:Nat) (ops:Array Oper) (B:List (List Nat)) (base:AH) (T:Nat→DSt):Prop where
 ok:OkD P ops B
 step:∀i o,ops[i]? =some o→Qa4 call P π c ops B base i o (T i)=some (T (i+1))
 C0:∀t o,base t=some o→(T 0).C t=some o
 al0:(T 0).al= []
 fl0:(T 0).fl= []
section
variable {call : QO} {P : Program} {π c : Nat} {ops : Array Oper} {B : List (List Nat)} {base : AH} {T : Nat → DSt}
theorem Qaa {i:Nat} (h:i<ops.size):∃o,ops[i]? =some o:=⟨ops[i],Array.getElem?_eq_getElem h⟩
theorem YO {i:Nat} {o:Oper} (h:ops[i]? =some o):i<ops.size:=(Array.getElem?_eq_some_iff.1 h).1
inductive Kind (call:QO) (P:Program) (π c:Nat) (ops:Array Oper) (B:List (List Nat)) (base:AH) (i:Nat) (o:Oper) (s s':DSt):Prop
 | off (h:Yo ops s.E o=false) (hE:s'.E=Z3 s.E o.dst undef) (hC:s'.C=s.C) (hal:s'.al=s.al) (hfl:s'.fl=s.fl)
 | free (h:Yo ops s.E o=true) (hc:cls P o.op= .free) (v:Value) (h':AH) (hx:QD call P (child π (c+i)) s.E (fun _=>none) o=some (v,h')) (hE:s'.E=Z3 s.E o.dst v) (hC:s'.C=s.C)
   (hal:s'.al=(match h' (Qn (child π (c+i))) with | some x=>s.al++ [(i,x)] | none=>s.al)) (hfl:s'.fl=s.fl)
 | look (h:Yo ops s.E o=true) (hc:cls P o.op= .look) (v:Value) (h':AH) (hx:QD call P (child π (c+i)) s.E base o=some (v,h')) (hq:Quiet base h') (hE:s'.E=Z3 s.E o.dst v) (hC:s'.C=s.C) (hal:s'.al=s.al) (hfl:s'.fl=s.fl)
 | chain (h:Yo ops s.E o=true) (hc:cls P o.op= .chain) (v:Value) (h':AH) (hx:QD call P (child π (c+i)) s.E (lay π c (fun a=>(B.getD i []).contains a && !s.fl.contains a) s.al s.C) o=some (v,h'))
   (hq:Qbt P ops (B.getD i [])=true∨Quiet base h') (hE:s'.E=Z3 s.E o.dst v) (hC:s'.C=h') (hal:s'.al=s.al) (hfl:s'.fl=B.getD i []++s.fl)
theorem QiY {i:Nat} {o:Oper} {s s':DSt} (h:Qa4 call P π c ops B base i o s=some s'):Kind call P π c ops B base i o s s':=by
 unfold Qa4 at h
 split at h
 ·rename_i hw
  split at h
  ·rename_i hc
   obtain ⟨⟨v,h'⟩,hx,rfl⟩:=Option.map_eq_some_iff.1 h
   exact .free hw hc v h' hx Y Y Y Y
  ·rename_i hc
   split at h
   ·rename_i r hx
    split at h
    ·rename_i hq
     obtain rfl:=Option.some.inj h
     exact .look hw hc r.1 r.2 hx hq Y Y Y Y
    ·cases h
   ·cases h
  ·rename_i hc
   split at h
   ·rename_i r hx
    split at h
    ·rename_i hq
     obtain rfl:=Option.some.inj h
     exact .chain hw hc r.1 r.2 hx hq Y Y Y Y
    ·cases h
   ·cases h
 ·rename_i hw
  obtain rfl:=Option.some.inj h
  exact .off (by simpa using hw) Y Y Y Y
theorem Trace.kind (hT:Trace call P π c ops B base T) {i:Nat} {o:Oper} (ho:ops[i]? =some o):Kind call P π c ops B base i o (T i) (T (i+1)):=QiY (hT.step i o ho)
theorem Kind.E {i:Nat} {o:Oper} {s s':DSt} (h:Kind call P π c ops B base i o s s'):∃v,s'.E=Z3 s.E o.dst v:=by
 cases h with
 | off h hE=>exact ⟨_,hE⟩
 | free h hc v h' hx hE=>exact ⟨_,hE⟩
 | look h hc v h' hx hq hE=>exact ⟨_,hE⟩
 | chain h hc v h' hx hq hE=>exact ⟨_,hE⟩
theorem QmF {E:Nat→Value} {dst:Option Tmp} {v:Value} {t:Nat} (h:dst≠some t):Z3 E dst v t=E t:=by
 cases dst with
 | none=>rfl
 | some d=>simp only [Z3];rw [if_neg (fun e=>h (by rw [e]))]
theorem Trace.E_keep (hT:Trace call P π c ops B base T) {t:Nat}:∀(k i:Nat),i+k≤ops.size→(∀j o,i≤j→j<i+k→ops[j]? =some o→o.dst≠some t)→(T (i+k)).E t=(T i).E t
 | 0,i,_,_=>rfl
 | k+1,i,hk,h=>by
  obtain ⟨o,ho⟩:=Qaa (ops:=ops) (i:=i+k) (by omega)
  obtain ⟨v,hv⟩:=(hT.kind ho).E
  rw [show i+(k+1)=i+k+1 by omega,hv,QmF (h (i+k) o (by omega) (by omega) ho)]
  exact hT.E_keep k i (by omega) (fun j o h1 h2 h3=>h j o h1 (by omega) h3)
def QhV (call:QO) (P:Program) (π c:Nat) (ops:Array Oper) (T:Nat→DSt) (a:Nat) (x:Yn):Prop :=
 ∃o,ops[a]? =some o∧Yo ops (T a).E o=true∧cls P o.op= .free∧∃r,QD call P (child π (c+a)) (T a).E (fun _=>none) o=some r∧r.2 (Qn (child π (c+a)))=some x
theorem Trace.al (hT:Trace call P π c ops B base T):∀i,i≤ops.size→∀x,x∈(T i).al→x.1<i∧QhV call P π c ops T x.1 x.2
 | 0,_,x,h=>by rw [hT.al0] at h;cases h
 | i+1,hi,x,h=>by
  obtain ⟨o,ho⟩:=Qaa (ops:=ops) (i:=i) (by omega)
  have ih:=hT.al i (by omega) x
  have old:x∈(T i).al→x.1<i+1∧QhV call P π c ops T x.1 x.2:=fun h=>⟨by have:=(ih h).1;omega,(ih h).2⟩
  cases hT.kind ho with
  | off _ _ _ hal=>exact old (hal▸h)
  | look _ _ _ _ _ _ _ _ hal=>exact old (hal▸h)
  | chain _ _ _ _ _ _ _ _ hal=>exact old (hal▸h)
  | free hw hc v h' hx _ _ hal =>
   rw [hal] at h
   split at h
   ·rename_i y hy
    rcases List.mem_append.1 h with h1 | h1
    ·exact old h1
    ·obtain rfl:x=(i,y):=by simpa using h1
     exact ⟨Nat.lt_succ_self i,o,ho,hw,hc,_,hx,hy⟩
   ·exact old h
theorem Trace.C_keep (hT:Trace call P π c ops B base T):∀(k i:Nat),i+k≤ops.size→(∀j o,i≤j→j<i+k→ops[j]? =some o→cls P o.op≠ .chain)→(T (i+k)).C=(T i).C∧(T (i+k)).fl=(T i).fl
 | 0,i,_,_=>⟨rfl,rfl⟩
 | k+1,i,hk,h=>by
  obtain ⟨o,ho⟩:=Qaa (ops:=ops) (i:=i+k) (by omega)
  have ih:=hT.C_keep k i (by omega) (fun j o h1 h2 h3=>h j o h1 (by omega) h3)
  have hn:=h (i+k) o (by omega) (by omega) ho
  rw [show i+(k+1)=i+k+1 by omega]
  cases hT.kind ho with
  | off _ _ hC _ hfl=>rw [hC,hfl];exact ih
  | look _ _ _ _ _ _ _ hC _ hfl=>rw [hC,hfl];exact ih
  | chain _ hc=>exact (hn hc).elim
  | free _ _ _ _ _ _ hC _ hfl=>rw [hC,hfl];exact ih
end
theorem QR (p:Nat):Under p (Qn p):= .step 0 .refl
theorem QgY {π c a b t:Nat} (h:Under (child π (c+a)) t) (h2:Under (child π (c+b)) t):a=b:=by
 have:=Under.apart h h2
 omega
theorem Qbo {P:Program} {ops:Array Oper} {B:List (List Nat)} (ok:OkD P ops B) {listed:Array Bool} (hsz:listed.size=ops.size)
  (hcl:∀j oj,ops[j]? =some oj→listed.getD j false=true→∀e∈oj.after,Region.binds .any e=true→listed.getD e.on false=true) :
  ∀(n i:Nat),i<n→∀o,ops[i]? =some o→(∀e∈o.after,Region.binds .any e=true→listed.getD e.on false=true)→∀x,(B.getD i []).contains x=true→listed.getD x false=true
 | 0,i,h,_,_,_,_,_=>by omega
 | n+1,i,h,o,ho,he,x,hx=>by
  obtain ⟨e,h1,h2,h3⟩:=ok.bef i o ho x hx
  rcases h3 with rfl | h3
  ·exact he e h1 h2
  ·have hl:=he e h1 h2
   have hb:=ok.back i o ho e h1 h2
   have:i<ops.size:=YO ho
   obtain ⟨o',ho'⟩:=Qaa (ops:=ops) (i:=e.on) (by omega)
   exact Qbo ok hsz hcl n e.on (by omega) o' ho' (hcl e.on o' ho' hl) x h3
def LD (ops:Array Oper) (listed:Array Bool) (t:Nat):Prop:=∃i o,ops[i]? =some o∧o.dst=some t∧listed.getD i false=true
open Classical in
noncomputable def QbW (ops:Array Oper) (listed:Array Bool) (E0 En:Nat→Value):Nat→Value:=fun t=>if LD ops listed t then En t else E0 t
structure DInv (call:QO) (P:Program) (b0 π c:Nat) (ops:Array Oper) (B:List (List Nat)) (base:AH) (T:Nat→DSt) (ρ0:Zv) (W0:World) (N:Nat) (ρ:Zv) (Hall:AH) (m:Nat) (listed:Array Bool) (a:Act) (W:World):Prop where
 size:listed.size=ops.size
 closed:∀j oj,ops[j]? =some oj→listed.getD j false=true→∀e∈oj.after,Region.binds .any e=true→listed.getD e.on false=true
 env:EnvR ρ (QbW ops listed (T 0).E (T ops.size).E) a
 stp:Stp b0 π ρ0 (T 0).C W0 ρ Hall W
 chain:m≤ops.size∧∀i o,ops[i]? =some o→cls P o.op= .chain→(listed.getD i false=true↔i<m)
 sub:∀t o,(T m).C t=some o→Hall t=some o
 pend:∀i x,QhV call P π c ops T i x→listed.getD i false=true→(T m).fl.contains i=false→Hall (Qn (child π (c+i)))=some x
 dis:∀i o,ops[i]? =some o→cls P o.op= .free→(T m).fl.contains i=false→(T m).C (Qn (child π (c+i)))=none
 base:(∃i o,ops[i]? =some o∧cls P o.op= .look∧listed.getD i false=false)→∀t o,base t=some o→Hall t=some o
 fresh:∀i,listed.getD i false=false→∀t,Under (child π (c+i)) t→ρ t=none
 defers:a.defers= []
 tmps:N≤a.tmps.size
section
variable {call : QO} {P : Program} {b0 π c N m : Nat} {ops : Array Oper} {B : List (List Nat)} {base Hall : AH} {T : Nat → DSt} {ρ0 ρ : Zv} {W0 W : World} {listed : Array Bool} {a : Act}
theorem JI {listed:Array Bool} {i:Nat} (h:i<listed.size):(listed.setIfInBounds i true).getD i false=true:=by
 simp [h]
theorem Jl {listed:Array Bool} {i j:Nat} (h:i≠j):(listed.setIfInBounds i true).getD j false=listed.getD j false:=getD_set_ne false h
theorem QhH (hT:Trace call P π c ops B base T) {i:Nat} {o:Oper} (ho:ops[i]? =some o) (hb:∀x,(B.getD i []).contains x=true→listed.getD x false=true) (hlt:∀x,(B.getD i []).contains x=true→x<i) (hun:listed.getD i false=false) (hcl:∀j q,ops[j]? =some q→listed.getD j false=true→∀x,(B.getD j []).contains x=true→listed.getD x false=true) (hlj:∀j q,ops[j]? =some q→∀x,(B.getD j []).contains x=true→x<j) :
  ∀t∈o.looksAt ops,QbW ops listed (T 0).E (T ops.size).E t=(T i).E t:=by
 intro t ht
 have hi:=YO ho
 by_cases h:∃(j:Nat) (q:Oper),ops[j]? =some q∧q.dst=some t
 ·obtain ⟨j,q,hq,hd⟩:=h
  rcases hT.ok.reads i o ho t ht j q hq hd with hj | hj
  case inr =>
   have hij:=hlj j q hq i hj
   have hl:¬LD ops listed t:=fun ⟨j',q',hq',hd',hl'⟩=>by
    obtain rfl:=hT.ok.dst j j' q q' t hq hq' hd hd'
    rw [hcl j q hq hl' i hj] at hun
    cases hun
   have:=hT.E_keep (t:=t) i 0 (by omega) (fun k q' h1 h2 h3 h4=>by
    have:=hT.ok.dst j k q q' t hq h3 hd h4
    omega)
   simp only [QbW,if_neg hl]
   rw [← this]
   congr 2
   omega
  have hl:LD ops listed t:=⟨j,q,hq,hd,hb j hj⟩
  have hji:=hlt j hj
  have:=hT.E_keep (t:=t) (ops.size - i) i (by omega) (fun k q' h1 h2 h3 h4=>by
   have:=hT.ok.dst j k q q' t hq h3 hd h4
   omega)
  simp only [QbW,if_pos hl]
  rw [← this]
  congr 2
  omega
 ·have hl:¬LD ops listed t:=fun ⟨j,q,hq,hd,_⟩=>h ⟨j,q,hq,hd⟩
  have:=hT.E_keep (t:=t) i 0 (by omega) (fun k q' h1 h2 h3 h4=>h ⟨k,q',h3,h4⟩)
  simp only [QbW,if_neg hl]
  rw [← this]
  congr 2
  omega
theorem Qi5 {P:Program} (ok:OkD P ops B):∀(n i:Nat),i<n→∀o,ops[i]? =some o→∀x,(B.getD i []).contains x=true→x<i
 | 0,i,h,_,_,_,_=>by omega
 | n+1,i,h,o,ho,x,hx=>by
  obtain ⟨e,h1,h2,h3⟩:=ok.bef i o ho x hx
  have hb:=ok.back i o ho e h1 h2
  rcases h3 with rfl | h3
  ·exact hb
  ·have:i<ops.size:=YO ho
   obtain ⟨o',ho'⟩:=Qaa (ops:=ops) (i:=e.on) (by omega)
   have:=Qi5 ok n e.on (by omega) o' ho' x h3
   omega
theorem DInv.next (hT:Trace call P π c ops B base T) (hI:DInv call P b0 π c ops B base T ρ0 W0 N ρ Hall m listed a W) {i:Nat} {o:Oper} (ho:ops[i]? =some o) (hun:listed.getD i false=false)
  (hall:∀e∈o.after,Region.binds .any e=true→listed.getD e.on false=true) (hdst:∀d,o.dst=some d→d<N) {ρ':Zv} {Hall':AH} {W':World} {v v':Value} {m':Nat}
  (hs:Stp b0 (child π (c+i)) ρ Hall W ρ' Hall' W') (hv:VR ρ' v v') (hE:(T (i+1)).E=Z3 (T i).E o.dst v)
  (hchain:m'≤ops.size∧∀j q,ops[j]? =some q→cls P q.op= .chain→((listed.setIfInBounds i true).getD j false=true↔j<m'))
  (hsub:∀t o,(T m').C t=some o→Hall' t=some o)
  (hpend:∀j x,QhV call P π c ops T j x→(listed.setIfInBounds i true).getD j false=true→(T m').fl.contains j=false→Hall' (Qn (child π (c+j)))=some x)
  (hdis:∀j q,ops[j]? =some q→cls P q.op= .free→(T m').fl.contains j=false→(T m').C (Qn (child π (c+j)))=none)
  (hbase:(∃j q,ops[j]? =some q∧cls P q.op= .look∧(listed.setIfInBounds i true).getD j false=false)→∀t o,base t=some o→Hall' t=some o) :
  DInv call P b0 π c ops B base T ρ0 W0 N ρ' Hall' m' (listed.setIfInBounds i true) (a.put o.dst v') W':=by
 have hi:=YO ho
 have his:i<listed.size:=by rw [hI.size];exact hi
 refine ⟨by simp [hI.size],?_,?_,hI.stp.trans (hs.wide fun t ht=>Under.child_of ht),hchain,hsub,hpend,hdis,hbase,?_,by rw [QcH];exact hI.defers,by rw [Qe2];exact hI.tmps⟩
 ·intro j oj hj hl e he hb
  by_cases hij:i=j
  ·subst hij
   obtain rfl:o=oj:=Option.some.inj (ho.symm.trans hj)
   exact getD_set_true (hall e he hb)
  ·rw [Jl hij] at hl
   exact getD_set_true (hI.closed j oj hj hl e he hb)
 ·intro t
  by_cases hd:o.dst=some t
  ·have hlt:=Nat.lt_of_lt_of_le (hdst t hd) hI.tmps
   have hl:LD ops (listed.setIfInBounds i true) t:=⟨i,o,ho,hd,JI his⟩
   simp only [QbW,if_pos hl]
   have h1:=hT.E_keep (t:=t) (ops.size - (i+1)) (i+1) (by omega) (fun k q' h1 h2 h3 h4=>by
    have:=hT.ok.dst i k o q' t ho h3 hd h4
    omega)
   rw [show i+1+(ops.size - (i+1))=ops.size by omega] at h1
   rw [h1,hE,hd]
   simp only [Z3,if_true,Act.put]
   simpa [Array.getD_eq_getD_getElem?,hlt] using hv
  ·have hl:LD ops (listed.setIfInBounds i true) t↔LD ops listed t:=by
    constructor
    ·rintro ⟨j,q,hq,hqd,hjl⟩
     have hne:i≠j:=by
      rintro rfl
      obtain rfl:o=q:=Option.some.inj (ho.symm.trans hq)
      exact hd hqd
     exact ⟨j,q,hq,hqd,by rwa [Jl hne] at hjl⟩
    ·rintro ⟨j,q,hq,hqd,hjl⟩
     exact ⟨j,q,hq,hqd,getD_set_true hjl⟩
   have h1:=(hI.env t).mono hs.ext.1
   have h2:(a.put o.dst v').tmps.getD t undef=a.tmps.getD t undef:=by
    cases hod:o.dst with
    | none=>rfl
    | some d =>
     have:d≠t:=fun e=>hd (by rw [hod,e])
     simp [Act.put,Array.getD_eq_getD_getElem?,Array.getElem?_setIfInBounds_ne this]
   rw [h2]
   unfold QbW at h1 ⊢
   by_cases hL:LD ops listed t
   ·rw [if_pos hL] at h1
    rw [if_pos (hl.2 hL)]
    exact h1
   ·rw [if_neg hL] at h1
    rw [if_neg (fun h=>hL (hl.1 h))]
    exact h1
 ·intro j hj t ht
  by_cases hij:i=j
  ·subst hij
   rw [JI his] at hj
   cases hj
  ·rw [Jl hij] at hj
   have hn:=hI.fresh j hj t ht
   cases hr:ρ' t with
   | none=>rfl
   | some q =>
    rcases hs.ext.2 t (by rw [hr];simp) with h5 | h5
    ·exact absurd hn h5
    ·exact absurd (QgY ht h5) (Ne.symm hij)
end
section
variable {call : QO} {P : Program} {b0 π c N m : Nat} {ops : Array Oper} {B : List (List Nat)} {base Hall : AH} {T : Nat → DSt} {ρ0 ρ : Zv} {W0 W : World} {listed : Array Bool} {a : Act} {Q : Exit → Act → World → Prop}
theorem Qlf {i:Nat} {o:Oper} (ho:ops[i]? =some o) {K:Act→World→Prop} (hon:Region.wanted o (yielded ops a.tmps)=true→o.wp P a W K Q) (hoff:Region.wanted o (yielded ops a.tmps)=false→K (a.put o.dst undef) W):wpOp P ops Q i K a W:=by
 unfold wpOp
 simp only [ho]
 split
 ·rename_i h;exact .inl (hon h)
 ·rename_i h;exact hoff (by simpa using h)
theorem DInv.step (hP:Plain P) (hcall:QbT P call) (hT:Trace call P π c ops B base T) (hdst:∀o∈ops.toList,∀d,o.dst=some d→d<N) (hI:DInv call P b0 π c ops B base T ρ0 W0 N ρ Hall m listed a W) {i:Nat} (hr:i∈Region.ready .any ops listed) :
    wpOp P ops Q i (fun a' W'=>∃ρ' Hall' m',DInv call P b0 π c ops B base T ρ0 W0 N ρ' Hall' m' (listed.setIfInBounds i true) a' W') a W:=by
  obtain ⟨hun',o,ho,hall⟩:=mem_ready.1 hr
  have hi:i<ops.size:=YO ho
  have his:i<listed.size:=by rw [hI.size];exact hi
  have hun:listed.getD i false=false:=by
    simp only [Array.getD_eq_getD_getElem?,his,Array.getElem?_eq_getElem,Option.getD_some] at hun' ⊢
    exact hun'
  have hmem:o∈ops.toList:=by
    rw [Array.mem_toList_iff]
    exact Array.mem_of_getElem? ho
  have hlt:∀x,(B.getD i []).contains x=true→x<i:=Qi5 hT.ok (i+1) i (by omega) o ho
  have hbl:∀x,(B.getD i []).contains x=true→listed.getD x false=true:=Qbo hT.ok hI.size hI.closed (i+1) i (by omega) o ho hall
  have hag:=QhH hT ho hbl hlt hun (fun j q hj hl=>Qbo hT.ok hI.size hI.closed (j+1) j (by omega) q hj (hI.closed j q hj hl)) (fun j q hj=>Qi5 hT.ok (j+1) j (by omega) q hj)
  have hw:Region.wanted o (yielded ops a.tmps)=Yo ops (T i).E o:=(QhM hI.env ops o).trans (Qic hag)
  have hset:∀j,j≠i→(listed.setIfInBounds i true).getD j false=listed.getD j false:=fun j hj=>Jl (Ne.symm hj)
  have hself:(listed.setIfInBounds i true).getD i false=true:=JI his
  have hfr:∀t,Under (child π (c+i)) t→ρ t=none:=hI.fresh i hun
  have hhall:∀t x,Hall t=some x→ρ t≠none:=fun t x hx=>by
    obtain ⟨s,hs,_⟩:=(hI.stp.rel.tok t x hx).slot
    rw [hs];simp
  -- the chain is at m, and m stands where i stands
  have chainStay:cls P o.op≠ .chain→(m≤ops.size∧∀j q,ops[j]? =some q→cls P q.op= .chain→((listed.setIfInBounds i true).getD j false=true↔j<m)):=fun hne =>
    ⟨hI.chain.1,fun j q hj hq=>by
      have:j≠i:=by
        rintro rfl
        obtain rfl:o=q:=Option.some.inj (ho.symm.trans hj)
        exact hne hq
      rw [hset j this]
      exact hI.chain.2 j q hj hq⟩
  have chainGo:cls P o.op= .chain→(i+1≤ops.size∧∀j q,ops[j]? =some q→cls P q.op= .chain→((listed.setIfInBounds i true).getD j false=true↔j<i+1)):=fun hc =>
    ⟨by omega,fun j q hj hq=>by
      rcases Nat.lt_trichotomy j i with h | h | h
      · rw [hset j (by omega)]
        exact ⟨fun _=>by omega,fun _=>hbl j (hT.ok.chain i o ho hc j q h hj hq)⟩
      · subst h
        exact ⟨fun _=>by omega,fun _=>hself⟩
      · rw [hset j (by omega)]
        refine ⟨fun hl=> ?_,fun h2=>by omega⟩
        have hb:=hT.ok.chain j q hj hq i o h ho hc
        have:=Qbo hT.ok hI.size hI.closed (j+1) j (by omega) q hj (hI.closed j q hj hl) i hb
        rw [hun] at this
        cases this⟩
  have chainAt:cls P o.op= .chain→m≤i∧(T i).C=(T m).C∧(T i).fl=(T m).fl:=fun hc=>by
    have hmi:m≤i:=by
      rcases Nat.lt_or_ge i m with h | h
      · have:=(hI.chain.2 i o ho hc).2 h
        rw [hun] at this
        cases this
      · exact h
    have:=hT.C_keep (i - m) m (by omega) (fun j q h1 h2 h3 h4=>by
      have hb:=hT.ok.chain i o ho hc j q (by omega) h3 h4
      have:=(hI.chain.2 j q h3 h4).1 (hbl j hb)
      omega)
    rw [show m+(i - m)=i by omega] at this
    exact ⟨hmi,this.1,this.2⟩
  have noMade:cls P o.op≠ .free∨Yo ops (T i).E o=false→∀x,¬QhV call P π c ops T i x:=by
    rintro h x ⟨q,hq,h1,h2,_⟩
    obtain rfl:o=q:=Option.some.inj (ho.symm.trans hq)
    rcases h with h | h
    · exact h h2
    · rw [h] at h1;cases h1
  have pendStay:(∀x,¬QhV call P π c ops T i x)→∀j x,QhV call P π c ops T j x→(listed.setIfInBounds i true).getD j false=true→listed.getD j false=true:=fun hn j x hm hl=>by
    have:j≠i:=by rintro rfl;exact hn x hm
    rwa [hset j this] at hl
  have lookStay:(∃j q,ops[j]? =some q∧cls P q.op= .look∧(listed.setIfInBounds i true).getD j false=false)→∃j q,ops[j]? =some q∧cls P q.op= .look∧listed.getD j false=false:=by
    rintro ⟨j,q,hj,hq,hl⟩
    by_cases hji:j=i
    · subst hji;rw [hself] at hl;cases hl
    · exact ⟨j,q,hj,hq,by rwa [hset j hji] at hl⟩
  -- a step that takes nothing away
  have easy:∀ {Hin h':AH} {v v':Value} {ρ':Zv} {W':World},cls P o.op≠ .chain→Stp b0 (child π (c+i)) ρ Hin W ρ' h' W'→(∀t x,Hin t=some x→Hall t=some x∧h' t=some x) →
      (∀x,QhV call P π c ops T i x→h' (Qn (child π (c+i)))=some x)→VR ρ' v v'→(T (i+1)).E=Z3 (T i).E o.dst v →
      ∃ρ' Hall' m',DInv call P b0 π c ops B base T ρ0 W0 N ρ' Hall' m' (listed.setIfInBounds i true) (a.put o.dst v') W':=by
    intro Hin h' v v' ρ' W' hne hs hin hmk hv hE
    have hover:=hs.over hI.stp.rel (fun t x hx=>(hin t x hx).1)
    have keep:∀t x,Hall t=some x→AE.over Hall Hin h' t=some x:=by
      intro t x hx
      unfold AE.over
      cases ht:Hin t with
      | some y =>
        obtain ⟨h1,h2⟩:=hin t y ht
        rw [h2]
        exact h1.symm.trans hx
      | none =>
        cases hh:h' t with
        | none=>exact hx
        | some y =>
          rcases hs.dom t (by rw [hh];simp) with h3 | h3
          · exact (h3 ht).elim
          · exact (hhall t x hx (hfr t h3)).elim
    refine ⟨ρ',_,m,hI.next hT ho hun hall (hdst o hmem) hover hv hE (chainStay hne) (fun t x hx=>keep t x (hI.sub t x hx)) ?_ hI.dis (fun hl t x hx=>keep t x (hI.base (lookStay hl) t x hx))⟩
    intro j x hm hl hfl
    by_cases hji:j=i
    · subst hji
      unfold AE.over
      rw [hmk x hm]
    · rw [hset j hji] at hl
      exact keep _ x (hI.pend j x hm hl hfl)
  have hK:=hT.kind ho
  refine Qlf ho (fun hwt=> ?_) (fun hwf=> ?_)
  · rw [hw] at hwt
    have hexec:∀ {H h':AH} {v:Value},QD call P (child π (c+i)) (T i).E H o=some (v,h')→QD call P (child π (c+i)) (QbW ops listed (T 0).E (T ops.size).E) H o=some (v,h'):=fun h=>(Qid hag).trans h
    cases hK with
    | off h=>rw [h] at hwt;cases hwt
    | free h hc v h' hx hE hC hal hfl =>
      have hR0:Rel b0 ρ (fun _=>none) W:=hI.stp.rel.sub (fun t x hx=>by cases hx)
      refine QaH hP hcall (hexec hx) hI.env hR0 hfr (YL _ _) (fun v' ρ' W' hs hv=> ?_)
      refine easy (by rw [hc];simp) hs (fun t x hx=>by cases hx) (fun x hm=> ?_) hv hE
      obtain ⟨q,hq,_,_,r,hr1,hr2⟩:=hm
      obtain rfl:o=q:=Option.some.inj (ho.symm.trans hq)
      obtain rfl:=Option.some.inj (hx.symm.trans hr1)
      exact hr2
    | look h hc v h' hx hq hE hC hal hfl =>
      have hb:=hI.base ⟨i,o,ho,hc,hun⟩
      refine QaH hP hcall (hexec hx) hI.env (hI.stp.rel.sub hb) hfr (YL _ _) (fun v' ρ' W' hs hv=> ?_)
      exact easy (by rw [hc];simp) hs (fun t x hx=>⟨hb t x hx,(hq t (by rw [hx];simp)).trans hx⟩) (fun x hm=>(noMade (.inl (by rw [hc];simp)) x hm).elim) hv hE
    | chain h hc v h' hx hq hE hC hal hfl =>
      obtain ⟨hmi,hCm,hflm⟩:=chainAt hc
      have hin:∀t x,lay π c (fun a=>(B.getD i []).contains a && !(T i).fl.contains a) (T i).al (T i).C t=some x→Hall t=some x:=by
        intro t x hx
        rcases Qag hx with ⟨y,hy,hcd,rfl,rfl⟩ | hx
        · rw [Bool.and_eq_true] at hcd
          exact hI.pend y.1 y.2 (hT.al i (by omega) y hy).2 (hbl _ hcd.1) (by rw [← hflm];simpa using hcd.2)
        · exact hI.sub t x (hCm▸hx)
      refine QaH hP hcall (hexec hx) hI.env (hI.stp.rel.sub hin) hfr (YL _ _) (fun v' ρ' W' hs hv=> ?_)
      have hover:=hs.over hI.stp.rel hin
      have hgone:∀j q,ops[j]? =some q→cls P q.op= .free→(T (i+1)).fl.contains j=false→lay π c (fun a=>(B.getD i []).contains a && !(T i).fl.contains a) (T i).al (T i).C (Qn (child π (c+j)))=none∧h' (Qn (child π (c+j)))=none:=by
        intro j q hj hq hf
        rw [hfl] at hf
        have hf1:(B.getD i []).contains j=false:=by
          cases hh:(B.getD i []).contains j with
          | false=>rfl
          | true =>
            have:(B.getD i []++(T i).fl).contains j=true:=by simp at hh ⊢;exact .inl hh
            rw [this] at hf;cases hf
        have hf2:(T i).fl.contains j=false:=by
          cases hh:(T i).fl.contains j with
          | false=>rfl
          | true =>
            have:(B.getD i []++(T i).fl).contains j=true:=by simp at hh ⊢;exact .inr hh
            rw [this] at hf;cases hf
        have h1:lay π c (fun a=>(B.getD i []).contains a && !(T i).fl.contains a) (T i).al (T i).C (Qn (child π (c+j)))=none:=by
          cases hh:lay π c (fun a=>(B.getD i []).contains a && !(T i).fl.contains a) (T i).al (T i).C (Qn (child π (c+j))) with
          | none=>rfl
          | some x =>
            rcases Qag hh with ⟨y,hy,hcd,ht,_⟩ | hx
            · rw [Bool.and_eq_true] at hcd
              have:=QgY (π:=π) (c:=c) (QR (child π (c+j))) (ht▸QR (child π (c+y.1)))
              rw [this,hcd.1] at hf1
              cases hf1
            · rw [hCm,hI.dis j q hj hq (by rw [← hflm];exact hf2)] at hx
              cases hx
        refine ⟨h1,?_⟩
        cases hh:h' (Qn (child π (c+j))) with
        | none=>rfl
        | some x =>
          rcases hs.dom _ (by rw [hh];simp) with h3 | h3
          · exact (h3 h1).elim
          · have:=QgY (π:=π) (c:=c) h3 (QR (child π (c+j)))
            subst this
            obtain rfl:o=q:=Option.some.inj (ho.symm.trans hj)
            rw [hc] at hq
            cases hq
      refine ⟨ρ',_,i+1,hI.next hT ho hun hall (hdst o hmem) hover hv hE (chainGo hc) ?_ ?_ ?_ ?_⟩
      · intro t x hx
        unfold AE.over
        rw [← hC,hx]
      · intro j x hm hl hf
        obtain ⟨q,hjq,hjw,hjc,hjr⟩:=id hm
        obtain ⟨h1,h2⟩:=hgone j q hjq hjc hf
        unfold AE.over
        rw [h2,h1]
        have hji:j≠i:=by
          rintro rfl
          obtain rfl:o=q:=Option.some.inj (ho.symm.trans hjq)
          rw [hc] at hjc
          cases hjc
        rw [hset j hji] at hl
        refine hI.pend j x hm hl ?_
        rw [hfl] at hf
        rw [← hflm]
        cases hh:(T i).fl.contains j with
        | false=>rfl
        | true =>
          have:(B.getD i []++(T i).fl).contains j=true:=by simp at hh ⊢;exact .inr hh
          rw [this] at hf;cases hf
      · intro j q hj hq hf
        rw [hC]
        exact (hgone j q hj hq hf).2
      · intro hl t x hx
        obtain ⟨j,q,hj,hjc,hjl⟩:=lookStay hl
        rcases hq with hq | hq
        · unfold Qbt at hq
          have:=List.all_eq_true.1 hq j (List.mem_range.2 (YO hj))
          have hb:(B.getD i []).contains j=true:=by simpa [hj,hjc] using this
          rw [hbl j hb] at hjl
          cases hjl
        · unfold AE.over
          rw [hq t (by rw [hx];simp),hx]
  · rw [hw] at hwf
    have stay:∀m',(T m').C=(T m).C→(T m').fl=(T m).fl→(m'≤ops.size∧∀j q,ops[j]? =some q→cls P q.op= .chain→((listed.setIfInBounds i true).getD j false=true↔j<m'))→(T (i+1)).E=Z3 (T i).E o.dst undef →
        ∃ρ' Hall' m',DInv call P b0 π c ops B base T ρ0 W0 N ρ' Hall' m' (listed.setIfInBounds i true) (a.put o.dst undef) W:=fun m' h1 h2 h3 hE =>
      ⟨ρ,Hall,m',hI.next hT ho hun hall (hdst o hmem) (.refl hI.stp.rel) (VR.undef ρ) hE h3 (by rw [h1];exact hI.sub)
        (fun j x hm hl hf=>hI.pend j x hm (pendStay (noMade (.inr hwf)) j x hm hl) (h2▸hf)) (by rw [h1,h2];exact hI.dis) (fun hl=>hI.base (lookStay hl))⟩
    cases hK with
    | off h hE hC hal hfl =>
      by_cases hc:cls P o.op= .chain
      · obtain ⟨hmi,hCm,hflm⟩:=chainAt hc
        exact stay (i+1) (hC.trans hCm) (hfl.trans hflm) (chainGo hc) hE
      · exact stay m Y Y (chainStay hc) hE
    | free h=>rw [h] at hwf;cases hwf
    | look h=>rw [h] at hwf;cases hwf
    | chain h=>rw [h] at hwf;cases hwf
theorem QgK {listed:Array Bool} {i:Nat} (h:listed.getD i true=false):listed.getD i false=false:=by
 rcases Nat.lt_or_ge i listed.size with h' | h'
 ·simp only [Array.getD_eq_getD_getElem?,h',Array.getElem?_eq_getElem,Option.getD_some] at h ⊢
  exact h
 ·simp [Array.getD_eq_getD_getElem?,Array.getElem?_eq_none h'] at h
def unl (listed:Array Bool):Nat→Nat
 | 0=>0
 | k+1=>unl listed k+if listed.getD k false then 0 else 1
theorem QjW {listed:Array Bool} {i:Nat} (hi:i<listed.size) (hun:listed.getD i false=false):∀k,unl (listed.setIfInBounds i true) k+(if i<k then 1 else 0)=unl listed k
 | 0=>by simp [unl]
 | k+1=>by
  have ih:=QjW hi hun k
  simp only [unl]
  by_cases hik:i=k
  ·subst hik
   rw [JI hi,hun]
   simp only [Nat.lt_irrefl,if_false] at ih
   simp
   omega
  ·rw [Jl hik]
   by_cases h:i<k
   ·rw [if_pos h] at ih
    rw [if_pos (show i<k+1 by omega)]
    omega
   ·rw [if_neg h] at ih
    rw [if_neg (show ¬i<k+1 by omega)]
    omega
theorem Qii {listed:Array Bool}:∀k,unl listed k=0→∀i,i<k→listed.getD i false=true
 | 0,_,i,h=>by omega
 | k+1,h,i,hi=>by
  simp only [unl] at h
  rcases Nat.lt_or_ge i k with hlt | hge
  ·exact Qii k (by omega) i hlt
  ·obtain rfl:i=k:=by omega
   cases hh:listed.getD i false with
   | true=>rfl
   | false=>rw [hh] at h;simp at h
theorem DInv.all (hT:Trace call P π c ops B base T) (hI:DInv call P b0 π c ops B base T ρ0 W0 N ρ Hall m listed a W) (hr:Region.ready .any ops listed= []):∀n i,i<n→i<ops.size→listed.getD i false=true
 | 0,i,h,_=>by omega
 | n+1,i,h,hi=>by
  have ih:=hI.all hT hr n
  obtain ⟨o,ho⟩:=Qaa (ops:=ops) hi
  cases hh:listed.getD i false with
  | true=>rfl
  | false =>
   have hm:i∈Region.ready .any ops listed:=by
    rw [mem_ready]
    refine ⟨?_,o,ho,fun e he hb=> ?_⟩
    ·have his:i<listed.size:=by rw [hI.size];exact hi
     simp only [Array.getD_eq_getD_getElem?,his,Array.getElem?_eq_getElem,Option.getD_some] at hh ⊢
     exact hh
    ·have:=hT.ok.back i o ho e he hb
     exact ih e.on (by omega) (by omega)
   rw [hr] at hm
   cases hm
theorem DInv.done (hT:Trace call P π c ops B base T) (hI:DInv call P b0 π c ops B base T ρ0 W0 N ρ Hall m listed a W) (hl:∀i,i<ops.size→listed.getD i false=true) :
  EnvR ρ (T ops.size).E a∧Stp b0 π ρ0 (T 0).C W0 ρ (lay π c (fun a=> !(T ops.size).fl.contains a) (T ops.size).al (T ops.size).C) W:=by
 refine ⟨fun t=> ?_,hI.stp.sub fun t x hx=> ?_⟩
 ·have:=hI.env t
  by_cases hL:LD ops listed t
  ·simpa only [QbW,if_pos hL] using this
  ·simp only [QbW,if_neg hL] at this
   have h1:=hT.E_keep (t:=t) ops.size 0 (by omega) (fun j o h1 h2 h3 h4=>hL ⟨j,o,h3,h4,hl j (by omega)⟩)
   rw [Nat.zero_add] at h1
   rw [h1]
   exact this
 ·have hk:=hT.C_keep (ops.size - m) m (by have:=hI.chain.1;omega) (fun j q h1 h2 h3 h4=>by
   have:=(hI.chain.2 j q h3 h4).1 (hl j (YO h3))
   omega)
  have hm:=hI.chain.1
  rw [show m+(ops.size - m)=ops.size by omega] at hk
  rcases Qag hx with ⟨y,hy,hcd,rfl,rfl⟩ | hx
  ·obtain ⟨h1,h2⟩:=hT.al _ (Nat.le_refl _) y hy
   exact hI.pend y.1 y.2 h2 (hl _ h1) (by rw [← hk.2];simpa using hcd)
  ·exact hI.sub t x (hk.1▸hx)
theorem Qho (hP:Plain P) (hcall:QbT P call) (hT:Trace call P π c ops B base T) (hdst:∀o∈ops.toList,∀d,o.dst=some d→d<N)
  (hQ:∀ρ a W,EnvR ρ (T ops.size).E a→Stp b0 π ρ0 (T 0).C W0 ρ (lay π c (fun a=> !(T ops.size).fl.contains a) (T ops.size).al (T ops.size).C) W→a.defers= []→N≤a.tmps.size→(∀j t,c+ops.size≤j→Under (child π j) t→ρ t=none)→Q .normal a W) :
  ∀(fuel:Nat) (listed:Array Bool) (ρ:Zv) (Hall:AH) (m:Nat) (a:Act) (W:World),unl listed ops.size≤fuel→DInv call P b0 π c ops B base T ρ0 W0 N ρ Hall m listed a W→wpAny P .any ops Q fuel listed a W:=by
 have fin:∀(listed:Array Bool) (ρ:Zv) (Hall:AH) (m:Nat) (a:Act) (W:World),DInv call P b0 π c ops B base T ρ0 W0 N ρ Hall m listed a W→(∀i,i<ops.size→listed.getD i false=true)→Q .normal a W:=by
  intro listed ρ Hall m a W hI hl
  obtain ⟨h1,h2⟩:=hI.done hT hl
  refine hQ ρ a W h1 h2 hI.defers hI.tmps (fun j t hj ht=> ?_)
  obtain ⟨k,rfl⟩:∃k,j=c+k:=⟨j - c,by omega⟩
  refine hI.fresh k ?_ t ht
  have:listed.size≤k:=by rw [hI.size];omega
  simp [Array.getD_eq_getD_getElem?,Array.getElem?_eq_none this]
 intro fuel
 induction fuel with
 | zero =>
  intro listed ρ Hall m a W hu hI
  have hl:=Qii ops.size (by omega:unl listed ops.size=0)
  refine ⟨?_,fin _ _ _ _ _ _ hI hl⟩
  cases hr:Region.ready .any ops listed with
  | nil=>rfl
  | cons x xs =>
   obtain ⟨h1,o,ho,_⟩:=mem_ready.1 (show x∈Region.ready .any ops listed by rw [hr];simp)
   have hx:=hl x (YO ho)
   rw [QgK h1] at hx
   cases hx
 | succ fuel ih =>
  intro listed ρ Hall m a W hu hI
  refine ⟨fun hr=>fin _ _ _ _ _ _ hI (fun i hi=>hI.all hT hr (i+1) i (by omega) hi),fun i hi=> ?_⟩
  obtain ⟨h1,o,ho,_⟩:=mem_ready.1 hi
  have hlt:=YO ho
  refine wpOp_mono (fun a' W' ⟨ρ',Hall',m',h⟩=>ih _ ρ' Hall' m' a' W' ?_ h) (hI.step hP hcall hT hdst hi)
  have:=QjW (by rw [hI.size];exact hlt) (QgK h1) ops.size
  rw [if_pos hlt] at this
  omega
theorem QhI (hm:P.follows .mixedOrders=true) (hP:Plain P) (hcall:QbT P call) {id:Nat} {s s':St} (h:QgJ call P π ops s=some s') (hdst:∀o∈ops.toList,∀d,o.dst=some d→d<N)
  {H0:AH} (hI:Inv b0 π N ρ0 H0 W0 ρ s a W) (hF:Qbn π s.c ρ) (hQ:∀ρ' a' W',Inv b0 π N ρ0 H0 W0 ρ' s' a' W'→Qbn π s'.c ρ'→Q .normal a' W'):(Code.region id ops true).wp P Q a W:=by
 unfold QgJ at h
 simp only at h
 split at h
 ·rename_i hok
  obtain ⟨d,hd,rfl⟩:=Option.map_eq_some_iff.1 h
  obtain ⟨T,t1,t2,t3⟩:=QfC _ _ _ _ _ _ _ _ _ _ _ hd
  have hT:Trace call P π s.c ops (Qlx ops.toList []) (QcQ s.E ops s.h) T:=⟨Qk7 hok,fun i o ho=>by simpa using t3 i o (by simpa using ho),by rw [t1];exact fun t o h=>QfH h,by rw [t1],by rw [t1]⟩
  have t2':T ops.size=d:=by simpa using t2
  refine wp_region_any hm ?_
  have hw:Stp b0 π ρ0 H0 W0 ρ s.h {W with drawn:=W.drawn+1}:=hI.stp.trans (.world hI.stp.rel Y)
  refine Qho (N:=N) (b0:=b0) (ρ0:=ρ) (W0:={W with drawn:=W.drawn+1}) hP hcall hT hdst (fun ρ' a' W' h1 h2 h3 h4 h5=> ?_) ops.size _ ρ s.h 0 a _ ?_ ?_
  ·rw [t2'] at h1 h2
   rw [t1] at h2
   exact hQ ρ' a' W' ⟨h1,hw.trans h2,h3,h4⟩ h5
  ·have:∀k,unl (Array.replicate ops.size false) k≤k:=by
    intro k
    induction k with
    | zero=>exact Nat.le_refl _
    | succ k ih=>simp only [unl];split<;>omega
   exact this _
  ·have hno:∀j,(Array.replicate ops.size false).getD j false=false:=fun j=>by
    rcases Nat.lt_or_ge j ops.size with h | h
    ·simp [h]
    ·simp [h]
   refine ⟨by simp,fun j oj hj hl=> ?_,?_,by rw [t1];exact .refl hw.rel,⟨Nat.zero_le _,fun i o ho hc=> ?_⟩,fun t o ho=> ?_,fun i x _ hl=> ?_,fun i o ho hc hf=> ?_,fun _ t o ho=>QfH ho,fun i _ t ht=>hF (s.c+i) t (by omega) ht,hI.defers,hI.size⟩
   ·rw [hno] at hl;cases hl
   ·intro t
    have hL:¬LD ops (Array.replicate ops.size false) t:=fun ⟨i,o,_,_,hl⟩=>by rw [hno] at hl;cases hl
    simp only [QbW,if_neg hL,t1]
    exact hI.env t
   ·rw [hno]
    simp
   ·rw [t1] at ho
    exact ho
   ·rw [hno] at hl;cases hl
   ·rw [t1]
    cases hh:s.h (Qn (child π (s.c+i))) with
    | none=>exact hh
    | some x =>
     obtain ⟨q,hq,_⟩:=(hI.stp.rel.tok _ x hh).slot
     rw [hF (s.c+i) _ (by omega) (QR _)] at hq
     cases hq
 ·cases h
theorem QfS (hP:Plain P) (hcall:QbT P call) (hπ:π % 2=1) {id:Nat} {s s':St} (h:QbY call P π ops ops.toList 0 s=some s') (hdst:∀o∈ops.toList,∀d,o.dst=some d→d<N)
  {H0:AH} (hI:Inv b0 π N ρ0 H0 W0 ρ s a W) (hF:Qbn π s.c ρ) (hQ:∀ρ' a' W',Inv b0 π N ρ0 H0 W0 ρ' {s' with c:=s.c+ops.size} a' W'→Qbn π (s.c+ops.size) ρ'→Q .normal a' W'):(Code.region id ops false).wp P Q a W:=by
 refine wp_region ?_
 have:=QcT (Q:=Q) hP hcall hπ hdst ops.toList 0 s s' ρ a W (Nat.zero_le _) Y h hI hF (fun ρ' a' W' hc h1 h2=>hQ ρ' a' W' ⟨h1.env,h1.stp,h1.defers,h1.size⟩ h2)
 rw [Nat.sub_zero] at this
 rw [List.range_eq_range']
 exact this
end
abbrev QmP := List Value→AH→Nat→Option (Value×AH)
def Qnr (P:Program) (f:FuncId) (pr:QmP):Prop :=
 ∀(args:List Value) (h:AH) (p:Nat) (v:Value) (h':AH),pr args h p=some (v,h')→∀(b0:Nat) (ρ:Zv) (W:World) (args':Array Value),
  LR ρ args args'.toList→Rel b0 ρ h W→(∀t,Under p t→ρ t=none)→p % 2=1→Calls P f args' W fun e W'=>∃v' ρ',e= .returned v'∧Stp b0 p ρ h W ρ' h' W'∧VR ρ' v v'
def QcF (f:FuncId):Bool:=true
def QmN (f:FuncId):QmP:=fun _ _ _=>none
def QiI (P:Program):Prop:=∀f,QcF f=false→Qnr P f (QmN f)
inductive AX | normal | exit (id:Nat) | ret
def AX.to : AX→Exit
 | .normal=> .normal
 | .exit id=> .exit id
 | .ret=> .ret
inductive LoopR (f:St→Option (AX×St)):St→AX→St→Prop
 | stop {s:St} {e:AX} {s':St} (h:f s=some (e,s')) (he:e≠ .normal):LoopR f s e s'
 | more {s s1:St} {e:AX} {s':St} (h:f s=some (.normal,s1)) (r:LoopR f s1 e s'):LoopR f s e s'
theorem LoopR.fn {f:St→Option (AX×St)} {s:St} {e e2:AX} {s' s2:St} (h:LoopR f s e s') (h2:LoopR f s e2 s2):e=e2∧s'=s2:=by
 induction h with
 | stop h he =>
  cases h2 with
  | stop h3 he3 =>
   have:=h.symm.trans h3
   simp only [Option.some.injEq,Prod.mk.injEq] at this
   exact this
  | more h3 r3 =>
   have:=h.symm.trans h3
   simp only [Option.some.injEq,Prod.mk.injEq] at this
   exact (he this.1).elim
 | more h r ih =>
  cases h2 with
  | stop h3 he3 =>
   have:=h.symm.trans h3
   simp only [Option.some.injEq,Prod.mk.injEq] at this
   exact (he3 this.1.symm).elim
  | more h3 r3 =>
   have:=h.symm.trans h3
   simp only [Option.some.injEq,Prod.mk.injEq] at this
   obtain ⟨_,rfl⟩:=this
   exact ih r3
open Classical in
noncomputable def QhS (f:St→Option (AX×St)) (s:St):Option (AX×St):=if h:∃r:AX×St,LoopR f s r.1 r.2 then some h.choose else none
theorem QlV {f:St→Option (AX×St)} {s:St} {e:AX} {s':St} (h:LoopR f s e s'):QhS f s=some (e,s'):=by
 have hx:∃r:AX×St,LoopR f s r.1 r.2:=⟨(e,s'),h⟩
 unfold QhS
 rw [dif_pos hx]
 obtain ⟨h1,h2⟩:=LoopR.fn hx.choose_spec h
 exact congrArg some (Prod.ext h1 h2)
theorem Qfb {f:St→Option (AX×St)} {s:St} {r:AX×St} (h:QhS f s=some r):LoopR f s r.1 r.2:=by
 unfold QhS at h
 split at h
 ·rename_i hx
  obtain rfl:=Option.some.inj h
  exact hx.choose_spec
 ·cases h
noncomputable def Q9 (call:QO) (P:Program) (π:Nat):Code→St→Option (AX×St)
 | .skip,s=>some (.normal,s)
 | .label _,s=>some (.normal,s)
 | .region _ ops false,s=>(QbY call P π ops ops.toList 0 s).map fun s'=>(.normal,{s' with c:=s.c+ops.size})
 | .region _ ops true,s=>(QgJ call P π ops s).map (Prod.mk .normal)
 | .seq a b,s=>(match Q9 call P π a s with | some (.normal,s')=>Q9 call P π b s' | r=>r)
 | .cond c a b,s=>(match ZS s.E c with | some (.bool true)=>Q9 call P π a s | some (.bool false)=>Q9 call P π b s | _=>none)
 | .block id c,s=>(match Q9 call P π c s with | some (.exit id',s')=>if id'=id then some (.normal,s') else some (.exit id',s') | r=>r)
 | .loop c,s=>QhS (Q9 call P π c) s
 | .scope c,s=>Q9 call P π c s
 | .exit id,s=>some (.exit id,s)
 | .ret,s=>some (.ret,s)
 | _,_=>none
def ZZ (N:Nat):Code→Bool
 | .region _ ops _=>ops.toList.all fun o=>match o.dst with | some d=>decide (d<N) | none=>true
 | .seq a b=>ZZ N a && ZZ N b
 | .cond _ a b=>ZZ N a && ZZ N b
 | .block _ c=>ZZ N c
 | .loop c=>ZZ N c
 | .scope c=>ZZ N c
 | _=>true
theorem Qcw {N:Nat} {ops:Array Oper} (h:(ops.toList.all fun o=>match o.dst with | some d=>decide (d<N) | none=>true)=true):∀o∈ops.toList,∀d,o.dst=some d→d<N:=fun o ho d hd=>by
 have:=List.all_eq_true.1 h o ho
 rw [hd] at this
 simpa using this
section
variable {P : Program} {call : QO} {b0 π N : Nat} {ρ0 : Zv} {H0 : AH} {W0 : World}
theorem Zy (hm:P.follows .mixedOrders=true) (hP:Plain P) (hcall:QbT P call) (hπ:π % 2=1):∀(co:Code) (s:St) (e:AX) (s':St) (ρ:Zv) (a:Act) (W:World) (Q:Exit→Act→World→Prop),ZZ N co=true→Q9 call P π co s=some (e,s') →
  Inv b0 π N ρ0 H0 W0 ρ s a W→Qbn π s.c ρ→(∀ρ' a' W',Inv b0 π N ρ0 H0 W0 ρ' s' a' W'→Qbn π s'.c ρ'→Q e.to a' W')→co.wp P Q a W
 | .skip,s,e,s',ρ,a,W,Q,hb,h,hI,hF,hQ=>by
  simp only [Q9,Option.some.injEq,Prod.mk.injEq] at h
  obtain ⟨rfl,rfl⟩:=h
  exact wp_skip (hQ ρ a W hI hF)
 | .label _,s,e,s',ρ,a,W,Q,hb,h,hI,hF,hQ=>by
  simp only [Q9,Option.some.injEq,Prod.mk.injEq] at h
  obtain ⟨rfl,rfl⟩:=h
  exact wp_label (hQ ρ a W hI hF)
 | .exit _,s,e,s',ρ,a,W,Q,hb,h,hI,hF,hQ=>by
  simp only [Q9,Option.some.injEq,Prod.mk.injEq] at h
  obtain ⟨rfl,rfl⟩:=h
  exact wp_exit (hQ ρ a W hI hF)
 | .ret,s,e,s',ρ,a,W,Q,hb,h,hI,hF,hQ=>by
  simp only [Q9,Option.some.injEq,Prod.mk.injEq] at h
  obtain ⟨rfl,rfl⟩:=h
  exact wp_ret (hQ ρ a W hI hF)
 | .region id ops false,s,e,s',ρ,a,W,Q,hb,h,hI,hF,hQ=>by
  simp only [Q9] at h
  obtain ⟨s1,h1,h2⟩:=Option.map_eq_some_iff.1 h
  simp only [Prod.mk.injEq] at h2
  obtain ⟨rfl,rfl⟩:=h2
  exact QfS hP hcall hπ h1 (Qcw hb) hI hF (fun ρ' a' W' h3 h4=>hQ ρ' a' W' h3 h4)
 | .region id ops true,s,e,s',ρ,a,W,Q,hb,h,hI,hF,hQ=>by
  simp only [Q9] at h
  obtain ⟨s1,h1,h2⟩:=Option.map_eq_some_iff.1 h
  simp only [Prod.mk.injEq] at h2
  obtain ⟨rfl,rfl⟩:=h2
  exact QhI hm hP hcall h1 (Qcw hb) hI hF (fun ρ' a' W' h3 h4=>hQ ρ' a' W' h3 h4)
 | .seq x y,s,e,s',ρ,a,W,Q,hb,h,hI,hF,hQ=>by
  simp only [ZZ,Bool.and_eq_true] at hb
  simp only [Q9] at h
  refine wp_seq ?_
  cases hx:Q9 call P π x s with
  | none=>rw [hx] at h;cases h
  | some r =>
   obtain ⟨e1,s1⟩:=r
   rw [hx] at h
   cases e1 with
   | normal=>exact Zy hm hP hcall hπ x s _ s1 ρ a W _ hb.1 hx hI hF (fun ρ' a' W' h3 h4=>Zy hm hP hcall hπ y s1 e s' ρ' a' W' Q hb.2 h h3 h4 hQ)
   | exit id =>
    simp only [Option.some.injEq,Prod.mk.injEq] at h
    obtain ⟨rfl,rfl⟩:=h
    exact Zy hm hP hcall hπ x s _ s1 ρ a W _ hb.1 hx hI hF hQ
   | ret =>
    simp only [Option.some.injEq,Prod.mk.injEq] at h
    obtain ⟨rfl,rfl⟩:=h
    exact Zy hm hP hcall hπ x s _ s1 ρ a W _ hb.1 hx hI hF hQ
 | .cond c x y,s,e,s',ρ,a,W,Q,hb,h,hI,hF,hQ=>by
  simp only [ZZ,Bool.and_eq_true] at hb
  simp only [Q9] at h
  split at h
  ·rename_i hc
   have h1:=Qy hI.env hc
   generalize hcv:a.eval c=cv at h1
   cases h1
   exact wp_cond_true hcv (Zy hm hP hcall hπ x s e s' ρ a W Q hb.1 h hI hF hQ)
  ·rename_i hc
   have h1:=Qy hI.env hc
   generalize hcv:a.eval c=cv at h1
   cases h1
   exact wp_cond_false hcv (Zy hm hP hcall hπ y s e s' ρ a W Q hb.2 h hI hF hQ)
  ·cases h
 | .block id c,s,e,s',ρ,a,W,Q,hb,h,hI,hF,hQ=>by
  simp only [ZZ] at hb
  simp only [Q9] at h
  refine wp_block ?_
  cases hx:Q9 call P π c s with
  | none=>rw [hx] at h;cases h
  | some r =>
   obtain ⟨e1,s1⟩:=r
   rw [hx] at h
   cases e1 with
   | normal =>
    simp only [Option.some.injEq,Prod.mk.injEq] at h
    obtain ⟨rfl,rfl⟩:=h
    exact Zy hm hP hcall hπ c s _ s1 ρ a W _ hb hx hI hF hQ
   | ret =>
    simp only [Option.some.injEq,Prod.mk.injEq] at h
    obtain ⟨rfl,rfl⟩:=h
    exact Zy hm hP hcall hπ c s _ s1 ρ a W _ hb hx hI hF hQ
   | exit id' =>
    simp only at h
    refine Zy hm hP hcall hπ c s _ s1 ρ a W _ hb hx hI hF (fun ρ' a' W' h3 h4=> ?_)
    simp only [AX.to,Exit.inBlock]
    split at h
    ·rename_i hid
     simp only [Option.some.injEq,Prod.mk.injEq] at h
     obtain ⟨rfl,rfl⟩:=h
     rw [if_pos hid]
     exact hQ ρ' a' W' h3 h4
    ·rename_i hid
     simp only [Option.some.injEq,Prod.mk.injEq] at h
     obtain ⟨rfl,rfl⟩:=h
     rw [if_neg hid]
     exact hQ ρ' a' W' h3 h4
 | .scope c,s,e,s',ρ,a,W,Q,hb,h,hI,hF,hQ=>by
  simp only [ZZ] at hb
  simp only [Q9] at h
  refine wp_scope_straight (Zy hm hP hcall hπ c s e s' ρ a W _ hb h hI hF (fun ρ' a' W' h3 h4=> ?_))
  have:=hQ ρ' a' W' h3 h4
  cases e<;>exact this
 | .loop c,s,e,s',ρ,a,W,Q,hb,h,hI,hF,hQ=>by
  simp only [ZZ] at hb
  simp only [Q9] at h
  have hl:=Qfb h
  simp only at hl
  have key:∃n,∀ρ a W,Inv b0 π N ρ0 H0 W0 ρ s a W→Qbn π s.c ρ→Code.rounds P c Q n a W:=by
   clear hI hF h
   induction hl with
   | @stop s e s' h he =>
    refine ⟨1,fun ρ a W hI hF=> ?_⟩
    refine Zy hm hP hcall hπ c s e s' ρ a W _ hb h hI hF (fun ρ' a' W' h3 h4=> ?_)
    have:=hQ ρ' a' W' h3 h4
    cases e with
    | normal=>exact (he Y).elim
    | exit id=>exact this
    | ret=>exact this
   | @more s s1 e s' h r ih =>
    obtain ⟨n,hn⟩:=ih hQ
    refine ⟨n+1,fun ρ a W hI hF=> ?_⟩
    exact Zy hm hP hcall hπ c s _ s1 ρ a W _ hb h hI hF (fun ρ' a' W' h3 h4=>hn ρ' a' W' h3 h4)
  obtain ⟨n,hn⟩:=key
  exact wp_loop_rounds n (hn ρ a W hI hF)
 | .rangeFunc ..,s,e,s',ρ,a,W,Q,hb,h,hI,hF,hQ=>by simp [Q9] at h
 | .goto _,s,e,s',ρ,a,W,Q,hb,h,hI,hF,hQ=>by simp [Q9] at h
 | .refuse _,s,e,s',ρ,a,W,Q,hb,h,hI,hF,hQ=>by simp [Q9] at h
end
def Qat (P:Program) (h:AH) (E:Nat→Value):List ResultVar→Option (List Value)
 | []=>some []
 | .tmp t::r=>(Qat P h E r).map (E t:: ·)
 | .cell a t::r=>(match QaF P t h (E a),Qat P h E r with | some v,some l=>some (v::l) | _,_=>none)
def Zk : Value→Bool
 | .tuple cs=>cs.all closed1
 | v=>closedV v
def Jc : List Value→Value
 | [v]=>v
 | l=> .tuple l.toArray
def YW (h h':AH):AH:=fun t=>match h t with | none=>none | some _=>h' t
open Classical in
noncomputable def QbH (p:Nat) (h h':AH):AH:=fun t=>if h t≠none∨Under p t then h' t else none
noncomputable def Qs (P:Program):Nat→QO
 | 0,_,_,_,_=>none
 | n+1,f,args,h,p =>
  if QcF f=true then
  match P.funcs[f]? with
  | none=>none
  | some fn =>
   match fn.body with
   | none=>none
   | some c =>
    if ZZ fn.ntmps c then
     match Q9 (Qs P n) P p c ⟨fun t=>args.getD t undef,h,0⟩ with
     | some (.exit _,_)=>none
     | none=>none
     | some (_,s)=>(Qat P s.h s.E fn.results.toList).map fun l=>(Jc l,if Zk (Jc l) then YW h s.h else QbH p h s.h)
    else none
  else QmN f args h p
theorem Qj5 {P:Program} {b0:Nat} {ρ:Zv} {H:AH} {W:World} {t:TypeId} {x x' v:Value} (h:QaF P t H x=some v) (hx:VR ρ x x') (hR:Rel b0 ρ H W) :
  ∃v',(do loadVar t (← asAddr x'):Sem Value).run P W= .ok v' W∧VR ρ v v':=by
 obtain ⟨v',h1,h2⟩:=Qef h hx hR
 refine ⟨v',?_,h2⟩
 unfold QaF at h
 split at h
 ·cases hx with
  | ptr o hs=>simpa [Instr.loadAt,Instr.sureAddr,asAddr] using h1
 ·cases h
theorem QcR {P:Program} {b0:Nat} {ρ:Zv} {H:AH} {E:Nat→Value} {a:Act} {W:World} (hE:EnvR ρ E a) (hR:Rel b0 ρ H W):∀ {rs:List ResultVar} {l:List Value},Qat P H E rs=some l →
  ∃l',(rs.mapM (fun | .tmp t=>pure (a.tmps.getD t undef) | .cell c t=>do loadVar t (← asAddr (a.tmps.getD c undef)):ResultVar→Sem Value)).run P W= .ok l' W∧LR ρ l l'
 | [],l,h=>by
  obtain rfl: []=l:=by simpa [Qat] using h
  exact ⟨[],by simp,LR.nil ρ⟩
 | .tmp t::r,l,h=>by
  simp only [Qat] at h
  obtain ⟨l1,h1,rfl⟩:=Option.map_eq_some_iff.1 h
  obtain ⟨l',h2,h3⟩:=QcR hE hR h1
  refine ⟨a.tmps.getD t undef::l',?_,LR.cons (hE t) h3⟩
  rw [List.mapM_cons,Sem.run_bind,Sem.run_pure,Result.andThen_ok,Sem.run_bind,h2,Result.andThen_ok,Sem.run_pure]
 | .cell c t::r,l,h=>by
  simp only [Qat] at h
  split at h
  ·rename_i v l1 hv h1
   obtain rfl:=Option.some.inj h
   obtain ⟨l',h2,h3⟩:=QcR hE hR h1
   obtain ⟨v',h4,h5⟩:=Qj5 hv (hE c) hR
   refine ⟨v'::l',?_,LR.cons h5 h3⟩
   rw [List.mapM_cons,Sem.run_bind,h4,Result.andThen_ok,Sem.run_bind,h2,Result.andThen_ok,Sem.run_pure]
  ·cases h
theorem Qi6 {ρ:Zv} {l:List Value} {l':Array Value} (h:LR ρ l l'.toList):VR ρ (Jc l) (if h:l'.size=1 then l'[0] else .tuple l'):=by
 obtain ⟨l'⟩:=l'
 match l,l',h with
 | [],[],h=>exact VR.tuple _ _ Y (fun i hi=>by simp at hi)
 | [v],[v'],h=>simpa [Jc] using h.tail.1
 | v::w::r,v'::w'::r',h =>
  simp only [Jc,List.size_toArray,List.length_cons,Nat.reduceEqDiff,dite_false]
  exact .tuple _ _ (by simpa using h.1) (fun i hi=>by simpa [List.getD_eq_getElem?_getD,Array.getD_eq_getD_getElem?] using h.2 i (by simpa using hi))
 | [],_::_,h=>simp [LR] at h
 | [_],[],h=>simp [LR] at h
 | [_],_::_::_,h=>simp [LR] at h
 | _::_::_,[],h=>simp [LR] at h
 | _::_::_,[_],h=>simp [LR] at h
theorem Qij {P:Program} (hm:P.follows .mixedOrders=true) (hP:Plain P) (hprim:QiI P):∀n,QbT P (Qs P n)
 | 0=>fun f args h p v h' hc=>by cases hc
 | n+1=>fun f args h p v h' hc b0 ρ W args' hl hR hf hp=>by
  have ih:=Qij hm hP hprim n
  unfold Qs at hc
  split at hc
  rotate_left
  ·rename_i hnp
   exact hprim f (by simpa using hnp) args h p v h' hc b0 ρ W args' hl hR hf hp
  split at hc
  ·cases hc
  ·rename_i fn hfn
   split at hc
   ·cases hc
   ·rename_i c hbody
    split at hc
    ·rename_i hb
     have hstart:Inv b0 p fn.ntmps ρ h W ρ ⟨fun t=>args.getD t undef,h,0⟩ {tmps:=args'++Array.replicate (fn.ntmps - args'.size) undef,defers:= []} W:=by
      refine ⟨fun t=> ?_, .refl hR,rfl,by simp;omega⟩
      simp only
      rcases Nat.lt_or_ge t args.length with hlt | hge
      ·have h1:=hl.2 t hlt
       have hlt':t<args'.size:=by have:=hl.1;simp at this;omega
       simpa [Array.getD_eq_getD_getElem?,Array.getElem?_append_left hlt',List.getD_eq_getElem?_getD] using h1
      ·have hge':args'.size≤t:=by have:=hl.1;simp at this;omega
       rw [List.getD_eq_getElem?_getD,List.getElem?_eq_none hge,Array.getD_eq_getD_getElem?,Array.getElem?_append_right hge',Array.getElem?_replicate]
       split<;>exact VR.undef ρ
     refine calls_of_wp hfn hbody ?_
     have fin:∀ {e s l},Q9 (Qs P n) P p c ⟨fun t=>args.getD t undef,h,0⟩=some (e,s)→(∀id,e≠ .exit id)→Qat P s.h s.E fn.results.toList=some l→v=Jc l→h'=(if Zk (Jc l) then YW h s.h else QbH p h s.h) →
       c.wp P (bodyPost P fn fun e W'=>∃v' ρ',e= .returned v'∧Stp b0 p ρ h W ρ' h' W'∧VR ρ' v v') {tmps:=args'++Array.replicate (fn.ntmps - args'.size) undef,defers:= []} W:=by
      intro e s l hx hne hr hv hh'
      refine Zy hm hP ih hp c _ e s ρ _ W _ hb hx hstart (fun j t _ ht=>hf t (Under.child_of ht)) (fun ρ' a' W' hI _=> ?_)
      have hpost:a'.defers= []∧∃w,(results fn a'.tmps).run P W'= .ok w W'∧∃v' ρ',Ending.returned w= .returned v'∧Stp b0 p ρ h W ρ' h' W'∧VR ρ' v v':=by
       obtain ⟨l',h1,h2⟩:=QcR hI.env hI.stp.rel hr
       refine ⟨hI.defers,(if h:l'.toArray.size=1 then l'.toArray[0] else .tuple l'.toArray),?_,_,ρ',rfl,?_,?_⟩
       ·unfold results
        rw [Sem.run_bind,Array.mapM_eq_mapM_toList,Sem.run_map]
        exact (congrArg (fun r=>(Result.andThen r fun (x:List Value) w'=>Result.ok x.toArray w').andThen fun (x:Array Value) w'=>(Pure.pure (if h:x.size=1 then x[0] else Value.tuple x):Sem Value).run P w') h1).trans Y
       ·rw [hh']
        split
        ·refine hI.stp.sub (fun t o ho=> ?_)
         unfold YW at ho
         cases hh:h t with
         | none=>rw [hh] at ho;cases ho
         | some q=>rw [hh] at ho;exact ho
        ·refine hI.stp.sub (fun t o ho=> ?_)
         unfold QbH at ho
         split at ho
         ·exact ho
         ·cases ho
       ·rw [hv]
        exact Qi6 (l':=l'.toArray) (by simpa using h2)
      cases e with
      | normal=>exact hpost
      | exit id=>exact (hne id Y).elim
      | ret=>exact hpost
     split at hc
     ·cases hc
     ·cases hc
     ·rename_i e s hne hx
      obtain ⟨l,hl2,hvl⟩:=Option.map_eq_some_iff.1 hc
      simp only [Prod.mk.injEq] at hvl
      refine fin hx (fun id hid=> ?_) hl2 hvl.1.symm hvl.2.symm
      subst hid
      first | exact hne id Y | exact hne id s Y
    ·cases hc
open Go Go.RowKit Go.ChangeShapes Go.WideShapes Go.Deep
theorem Quiet.refl (h:AH):Quiet h h:=fun _ _=>rfl
theorem Quiet.get {h h':AH} (q:Quiet h h') {t:Nat} {o:Yn} (ht:h t=some o):h' t=some o:=by rw [q t (by rw [ht];simp),ht]
structure AK (α:Type) where
 sz:Nat
 R:AH→α→List Value→Prop
 mono:∀ {h h':AH} {a:α} {cs:List Value},Quiet h h'→R h a cs→R h' a cs
 len:∀ {h:AH} {a:α} {cs:List Value},R h a cs→cs.length=sz
 one:∀ {h:AH} {a:α} {cs:List Value},R h a cs→∀v∈cs,v.oneCell'=true
def AK.int (k:IntKind):AK Int:=⟨1,fun _ n cs=>cs= [.int k n],fun _ h=>h,fun h=>by rw [h];rfl,fun h v hv=>by rw [h] at hv;obtain rfl:=List.mem_singleton.1 hv;rfl⟩
def AK.string : AK ByteArray:=⟨1,fun _ s cs=>cs= [.string s],fun _ h=>h,fun h=>by rw [h];rfl,fun h v hv=>by rw [h] at hv;obtain rfl:=List.mem_singleton.1 hv;rfl⟩
def SlR {α:Type} (d:AK α) (h:AH) (l:List α) (v:Value):Prop :=
 (l= []∧(v= .slice none 0 0∨∃t o m,v= .slice (some ⟨t,o,none⟩) 0 m)) ∨
 ∃t o m es arr,v= .slice (some ⟨t,o,none⟩) l.length m∧0<m∧0<l.length∧h t=some (.cells es arr)∧(es=0∨es=d.sz)∧o+l.length*d.sz≤arr.length∧∀j a,l[j]? =some a→d.R h a ((arr.drop (o+j*d.sz)).take d.sz)
theorem SlR.mono {α:Type} {d:AK α} {h h':AH} {l:List α} {v:Value} (q:Quiet h h') (hs:SlR d h l v):SlR d h' l v:=by
 rcases hs with hs | ⟨t,o,m,es,arr,h1,h2,h3,h4,he,h5,h6⟩
 ·exact .inl hs
 ·exact .inr ⟨t,o,m,es,arr,h1,h2,h3,q.get h4,he,h5,fun j a hj=>d.mono q (h6 j a hj)⟩
def AK.slice {α:Type} (d:AK α):AK (List α):=⟨1,fun h l cs=>∃v,cs= [v]∧SlR d h l v,fun q ⟨v,h1,h2⟩=>⟨v,h1,h2.mono q⟩,fun ⟨v,h1,_⟩=>by rw [h1];rfl,fun ⟨v,h1,h2⟩ w hw=>by
  rw [h1] at hw
  obtain rfl:=List.mem_singleton.1 hw
  rcases h2 with ⟨_,rfl | ⟨t,o,m,rfl⟩⟩ | ⟨t,o,m,es,arr,rfl,_⟩<;>rfl⟩
def AK.pair {α β:Type} (d:AK α) (d':AK β):AK (α×β):=⟨d.sz+d'.sz,fun h x cs=>∃c c',cs=c++c'∧d.R h x.1 c∧d'.R h x.2 c',fun q ⟨c,c',h1,h2,h3⟩=>⟨c,c',h1,d.mono q h2,d'.mono q h3⟩,fun ⟨c,c',h1,h2,h3⟩=>by rw [h1,List.length_append,d.len h2,d'.len h3],fun ⟨c,c',h1,h2,h3⟩ v hv=>by
  rw [h1] at hv
  exact (List.mem_append.1 hv).elim (d.one h2 v) (d'.one h3 v)⟩
def AK.iso {α β:Type} (d:AK α) (f:β→α):AK β:=⟨d.sz,fun h b cs=>d.R h (f b) cs,fun q h=>d.mono q h,fun h=>d.len h,fun h=>d.one h⟩
def pr (b o:Nat):Nat:=2*((b+o)*(b+o)+o)
theorem Qc6 (b o:Nat):pr b o % 2=0:=by unfold pr;omega
theorem Qls {b o b' o':Nat} (h:pr b o=pr b' o'):b=b'∧o=o':=Ju (p:=b) (k:=o) (q:=b') (j:=o') (by unfold pr at h;unfold child;omega)
def YI : Value→Bool
 | .bool _=>true
 | .int _ _=>true
 | .string _=>true
 | .slice none 0 0=>true
 | .slice (some a) n c=>(a.spot.isNone && decide (n≤c)) || (n == 0 && c == 0)
 | _=>false
def Qfi : Value→Value
 | .slice (some a) n c=> .slice (some ⟨pr a.block a.off,0,none⟩) n c
 | v=>v
open Classical in
noncomputable def QdD : Zv:=fun t=>if h:∃x:Nat×Nat,t=pr x.1 x.2 then some ⟨h.choose.1,h.choose.2,0,0⟩ else none
theorem Qg6 (b o:Nat):QdD (pr b o)=some ⟨b,o,0,0⟩:=by
 have h:∃x:Nat×Nat,pr b o=pr x.1 x.2:=⟨(b,o),rfl⟩
 unfold QdD
 rw [dif_pos h]
 obtain ⟨h1,h2⟩:=Qls h.choose_spec
 rw [← h1,← h2]
theorem QkX {t:Nat} (h:t % 2=1):QdD t=none:=by
 unfold QdD
 rw [dif_neg]
 rintro ⟨x,rfl⟩
 rw [Qc6] at h
 cases h
theorem Qhm {v:Value} (h:YI v=true):VR QdD (Qfi v) v:=by
 unfold YI at h
 split at h
 ·exact .bool _
 ·exact .int _ _
 ·exact .str _
 ·exact .sl0
 ·rename_i a n c
  obtain ⟨b,o,sp⟩:=a
  simp only [Bool.or_eq_true,Bool.and_eq_true,Option.isNone_iff_eq_none,decide_eq_true_eq,beq_iff_eq] at h
  rcases h with ⟨rfl,hn⟩ | ⟨rfl,rfl⟩
  ·exact VR.sl (s:=⟨b,o,0,0⟩) 0 n c c (Qg6 b o) hn (.inl Y) (fun h=>h)
  ·exact VR.sle (s:=⟨b,o,0,0⟩) 0 o 0 0 sp (Qg6 b o) (.inl Y) (fun _=>rfl) (.inr Y)
 ·cases h
open Classical in
noncomputable def H0 (W:World):AH:=fun t=>if h:∃x:Nat×Nat,t=pr x.1 x.2 then
 (match W.heap[h.choose.1]? with | some (.cells arr _ _)=>if h.choose.2≤arr.size then some (.cells 0 (((arr.toList.drop h.choose.2).takeWhile YI).map Qfi)) else none | _=>none) else none
theorem QmV (W:World) (b o:Nat):H0 W (pr b o)=(match W.heap[b]? with | some (.cells arr _ _)=>if o≤arr.size then some (.cells 0 (((arr.toList.drop o).takeWhile YI).map Qfi)) else none | _=>none):=by
 have h:∃x:Nat×Nat,pr b o=pr x.1 x.2:=⟨(b,o),rfl⟩
 unfold H0
 rw [dif_pos h]
 obtain ⟨h1,h2⟩:=Qls h.choose_spec
 rw [← h1,← h2]
theorem QeO {W:World} {t:Nat} {x:Yn} (h:H0 W t=some x):∃b o,t=pr b o:=by
 unfold H0 at h
 split at h
 ·rename_i hx
  exact ⟨_,_,hx.choose_spec⟩
 ·cases h
theorem Qo6 (W:World) (hg:GlobOk W.heap.size W):Rel W.heap.size QdD (H0 W) W:=by
 refine ⟨fun t x hx=> ?_,fun t t' s s' ht _ h1=> ?_,Nat.le_refl _,hg⟩
 ·obtain ⟨b,o,rfl⟩:=QeO hx
  rw [QmV] at hx
  split at hx
  ·rename_i arr ty fr hb
   split at hx
   ·rename_i ho
    obtain rfl:=Option.some.inj hx
    have hlen:((arr.toList.drop o).takeWhile YI).length≤arr.size - o:=by
     have:=(List.takeWhile_sublist YI (l:=arr.toList.drop o)).length_le
     simpa using this
    refine ⟨_,Qg6 b o,rfl,arr,ty,fr,hb,?_,fun i hi=> ?_,fun h=> ?_,fun _=>(Array.getElem?_eq_some_iff.1 hb).1⟩
    ·simp only [List.length_map]
     omega
    ·simp only [List.length_map] at hi
     have h1:((arr.toList.drop o).takeWhile YI)[i]? =some (((arr.toList.drop o).takeWhile YI)[i]):=List.getElem?_eq_getElem hi
     generalize ((arr.toList.drop o).takeWhile YI)[i]=v at h1
     have h2:YI v=true:=by
      have:=List.mem_of_getElem? h1
      have h3:=List.all_takeWhile (p:=YI) (l:=arr.toList.drop o)
      exact List.all_eq_true.1 h3 v this
     have h4:arr[o+i]? =some v:=by
      obtain ⟨r,hr⟩:=List.takeWhile_prefix YI (l:=arr.toList.drop o)
      have h6:(arr.toList.drop o)[i]? =some v:=by
       rw [← hr,List.getElem?_append_left hi]
       exact h1
      simpa using h6
     rw [List.getD_eq_getElem?_getD,List.getElem?_map,h1,Array.getD_eq_getD_getElem?,h4]
     exact Qhm h2
    ·rw [Qc6] at h;cases h
   ·cases hx
  ·cases hx
 ·obtain ⟨x,hx⟩:=Option.ne_none_iff_exists'.1 h1
  obtain ⟨b,o,rfl⟩:=QeO hx
  rw [Qc6] at ht
  cases ht
theorem Qdt {p:Value→Bool}:∀ {l:List Value} {n:Nat},(∀k,k<n→∃v,l[k]? =some v∧p v=true)→n≤(l.takeWhile p).length∧∀k,k<n→(l.takeWhile p)[k]? =l[k]?
 | l,0,_=>⟨Nat.zero_le _,fun k hk=>by omega⟩
 | [],n+1,h=>by
  obtain ⟨v,hv,_⟩:=h 0 (by omega)
  simp at hv
 | x::r,n+1,h=>by
  obtain ⟨v,hv,hp⟩:=h 0 (by omega)
  obtain rfl:x=v:=by simpa using hv
  obtain ⟨h1,h2⟩:=Qdt (p:=p) (l:=r) (n:=n) (fun k hk=>by simpa using h (k+1) (by omega))
  rw [List.takeWhile_cons_of_pos hp]
  refine ⟨by simpa using h1,fun k hk=> ?_⟩
  cases k with
  | zero=>rfl
  | succ k=>simpa using h2 k (by omega)
def Y4 {α:Type} (P:Program) (t:TypeId) (d:AK α) (G:α→Prop):Prop :=
 ∀(H:Type) (enc:TypeId×Value→H) (w:World) (n:Nat) (cs:List Value) (x:DataW H×List MemPlace),
  DataW.trod enc P w 0 (fun _=>true) true n t cs=some x→(∀v∈cs,YI v=true)∧∃a,d.R (H0 w) a (cs.map Qfi)∧G a
theorem ZG {P:Program} {t:TypeId} {k:IntKind} (ht:P.underlying t=some (.int k)):Y4 P t (AK.int k) (fun n=>(Lit.int k n).wf=true):=by
 intro H enc w n cs x h
 obtain ⟨m,rfl,_,hw⟩:=DataW.trod_int ht h
 exact ⟨fun v hv=>by obtain rfl:v=_:=List.mem_singleton.1 hv;rfl,m,rfl,hw⟩
theorem JD {P:Program} {t:TypeId} (ht:P.underlying t=some .string):Y4 P t AK.string (fun s=>s.size≤maxLen):=by
 intro H enc w n cs x h
 obtain ⟨m,rfl,_,hw⟩:=DataW.trod_string ht h
 exact ⟨fun v hv=>by obtain rfl:v=_:=List.mem_singleton.1 hv;rfl,m,rfl,hw⟩
theorem QjI {α:Type} {q:Nat→α→Prop}:∀(n:Nat),(∀i,i<n→∃a,q i a)→∃l:List α,l.length=n∧∀j p,l[j]? =some p→q j p
 | 0,_=>⟨[],rfl,fun j p h=>by simp at h⟩
 | n+1,h=>by
  obtain ⟨l,hl,hq⟩:=QjI n (fun i hi=>h i (Nat.lt_succ_of_lt hi))
  obtain ⟨a,ha⟩:=h n (Nat.lt_succ_self n)
  refine ⟨l++ [a],by simp [hl],fun j p hp=> ?_⟩
  rcases Nat.lt_or_ge j l.length with hj | hj
  ·rw [List.getElem?_append_left hj] at hp
   exact hq j p hp
  ·have hj2:j=l.length:=by
    have:=(List.getElem?_eq_some_iff.1 hp).1
    simp at this
    omega
   subst hj2
   have:a=p:=by simpa using hp
   subst this
   rw [hl]
   exact ha
theorem J0 {α:Type} {P:Program} {t e:TypeId} {d:AK α} {G:α→Prop} (ht:P.underlying t=some (.slice e)) (hc:P.cellsOf e=d.sz) (hpos:0<d.sz) (ho:Y4 P e d G) :
  Y4 P t (AK.slice d) (fun l=>l.length≤maxLen∧∀x∈l,G x):=by
 intro H enc w n cs x h
 rcases open_slice ht h with ⟨rfl,_⟩ | ⟨a,len,cap,m,n',D,Pl,rfl,_,hl,hm,hmm,_,hi⟩
 ·exact ⟨fun v hv=>by obtain rfl:v=_:=List.mem_singleton.1 hv;rfl,[],⟨_,rfl, .inl ⟨rfl, .inl Y⟩⟩,by simp,by simp⟩
 ·simp only [if_true] at hmm
  subst hmm
  obtain ⟨b,o,sp⟩:=a
  have hel:∀i,i<m→∃cs':List Value,cs'.length=d.sz∧(∀j,j<d.sz→w.cell? ((Addr.mk b o sp).add (i*d.sz+j))=cs'[j]?)∧(∀v∈cs',YI v=true)∧∃a',d.R (H0 w) a' (cs'.map Qfi)∧G a':=fun i him=>by
   obtain ⟨cs',h1,h2⟩:=hi i him
   obtain ⟨h3,h4⟩:=ho H enc w n' cs' _ h2
   rw [hc] at h1
   obtain ⟨_,hcl,hat⟩:=World.cells?_some h1
   refine ⟨cs',hcl,fun j hj=> ?_,h3,h4⟩
   have:=hat j hj
   rwa [Go.Deep.add_add] at this
  by_cases hm0:m=0
  ·subst hm0
   obtain rfl:len=0:=by omega
   exact ⟨fun v hv=>by obtain rfl:v=_:=List.mem_singleton.1 hv;simp [YI],[],⟨_,rfl, .inl ⟨rfl, .inr ⟨pr b o,0,0,rfl⟩⟩⟩,by simp,by simp⟩
  ·obtain ⟨arr,ty,fr,hb,hsp⟩:∃arr ty fr,w.heap[b]? =some (.cells arr ty fr)∧sp=none:=by
    obtain ⟨cs',h1,h2,_⟩:=hel 0 (by omega)
    have h3:=h2 0 hpos
    rw [List.getElem?_eq_getElem (by omega)] at h3
    simp only [Nat.zero_mul,Nat.zero_add,Addr.add,if_true,World.cell?] at h3
    split at h3
    ·rename_i arr ty fr hb
     refine ⟨arr,ty,fr,hb,?_⟩
     cases sp with
     | none=>rfl
     | some z=>simp at h3
    ·cases h3
   subst hsp
   have hcell:∀k,w.cell? ((Addr.mk b o none).add k)=arr[o+k]? :=fun k=>by
    unfold Addr.add
    split
    ·rename_i hk
     subst hk
     simp [World.cell?,hb]
    ·simp [World.cell?,hb]
   have hnice:∀k,k<m*d.sz→∃v,(arr.toList.drop o)[k]? =some v∧YI v=true:=fun k hk=>by
    have hq:k / d.sz<m:=Nat.div_lt_of_lt_mul (by rwa [Nat.mul_comm] at hk)
    obtain ⟨cs',h1,h2,h3,_⟩:=hel (k / d.sz) hq
    have hr:k % d.sz<d.sz:=Nat.mod_lt _ hpos
    have h4:=h2 (k % d.sz) hr
    have h5:k / d.sz*d.sz+k % d.sz=k:=by rw [Nat.mul_comm];exact Nat.div_add_mod k d.sz
    rw [h5,hcell,List.getElem?_eq_getElem (by omega)] at h4
    exact ⟨_,by simpa using h4,h3 _ (List.getElem_mem _)⟩
   obtain ⟨htl,htg⟩:=Qdt (p:=YI) (l:=arr.toList.drop o) (n:=m*d.sz) hnice
   have hlenm:len*d.sz≤m*d.sz:=Nat.mul_le_mul_right _ hl
   obtain ⟨l,hll,hq⟩:=QjI (q:=fun i a'=>d.R (H0 w) a' ((((arr.toList.drop o).takeWhile YI).map Qfi |>.drop (i*d.sz)).take d.sz)∧G a') len (fun i hil=>by
    obtain ⟨cs',h1,h2,h3,a',h4,h5⟩:=hel i (by omega)
    refine ⟨a',?_,h5⟩
    have he:(((arr.toList.drop o).takeWhile YI).drop (i*d.sz)).take d.sz=cs':=by
     apply List.ext_getElem?
     intro j
     rw [List.getElem?_take]
     split
     ·rename_i hj
      have hlt:i*d.sz+j<m*d.sz:=by
       have:(i+1)*d.sz≤m*d.sz:=Nat.mul_le_mul_right _ (by omega)
       rw [Nat.add_mul] at this
       omega
      rw [List.getElem?_drop,htg _ hlt,← h2 j hj,hcell]
      simp
     ·rename_i hj
      rw [List.getElem?_eq_none (by omega)]
    rw [← List.map_drop,← List.map_take,he]
    exact h4)
   have hlm:len≤maxLen:=by omega
   refine ⟨fun v hv=>by obtain rfl:v=_:=List.mem_singleton.1 hv;simp [YI,hl],l,⟨_,rfl,?_⟩,by omega,fun y hy=> ?_⟩
   ·by_cases hl0:len=0
    ·subst hl0
     exact .inl ⟨List.eq_nil_of_length_eq_zero hll, .inr ⟨pr b o,0,m,rfl⟩⟩
    ·have hsz:o≤arr.size:=by
      obtain ⟨v,hv,_⟩:=hnice 0 (Nat.mul_pos (by omega) hpos)
      have:=(List.getElem?_eq_some_iff.1 hv).1
      simp at this
      omega
     refine .inr ⟨pr b o,0,m,0,((arr.toList.drop o).takeWhile YI).map Qfi,by rw [hll];rfl,by omega,by omega,?_, .inl Y,?_,fun j a' hj=> ?_⟩
     ·rw [QmV,hb]
      simp [hsz]
     ·rw [hll,List.length_map]
      omega
     ·rw [Nat.zero_add]
      exact (hq j a' hj).1
   ·obtain ⟨j,hj⟩:=List.getElem?_of_mem hy
    exact (hq j y hj).2
def QaK {α:Type} (P:Program) (o:Nat) (fs:List Field) (d:AK α) (G:α→Prop):Prop :=
 ∀(H:Type) (enc:TypeId×Value→H) (w:World) (n:Nat) (cs:List Value),
  (∀f∈fs,∃y,DataW.trod enc P w 0 (fun _=>true) true n f.type ((cs.drop f.offset).take (P.cellsOf f.type))=some y)→o+d.sz≤cs.length →
   (∀v∈(cs.drop o).take d.sz,YI v=true)∧∃a,d.R (H0 w) a (((cs.drop o).take d.sz).map Qfi)∧G a
theorem Y8 {α:Type} {P:Program} {f:Field} {d:AK α} {G:α→Prop} {o:Nat} (ho:f.offset=o) (hc:P.cellsOf f.type=d.sz) (h:Y4 P f.type d G):QaK P o [f] d G:=by
 intro H enc w n cs hf _
 obtain ⟨y,hy⟩:=hf f (by simp)
 rw [ho,hc] at hy
 exact h H enc w n _ _ hy
theorem Q6 {α β:Type} {P:Program} {f:Field} {fs:List Field} {d:AK α} {d':AK β} {G:α→Prop} {G':β→Prop} {o:Nat} (ho:f.offset=o) (hc:P.cellsOf f.type=d.sz) (h:Y4 P f.type d G)
  (hr:QaK P (o+d.sz) fs d' G'):QaK P o (f::fs) (AK.pair d d') (fun x=>G x.1∧G' x.2):=by
 intro H enc w n cs hf hl
 obtain ⟨y,hy⟩:=hf f (by simp)
 rw [ho,hc] at hy
 have hsz:(AK.pair d d').sz=d.sz+d'.sz:=rfl
 obtain ⟨h1,a,hK,hG⟩:=h H enc w n _ _ hy
 obtain ⟨h2,b,hK',hG'⟩:=hr H enc w n cs (fun f hf'=>hf f (by simp [hf'])) (by omega)
 have he:(cs.drop o).take (AK.pair d d').sz=(cs.drop o).take d.sz++(cs.drop (o+d.sz)).take d'.sz:=by rw [hsz,List.take_add,List.drop_drop]
 rw [he]
 refine ⟨fun v hv=>(List.mem_append.1 hv).elim (h1 v) (h2 v),(a,b),⟨_,_,List.map_append ..,hK,hK'⟩,hG,hG'⟩
theorem Yv {α β:Type} {P:Program} {t:TypeId} {fs:Array Field} {d:AK α} {G:α→Prop} (f:β→α) (g:α→β) (hfg:∀a,f (g a)=a) (ht:P.underlying t=some (.struct fs)) (hc:P.cellsOf t=d.sz)
  (h:QaK P 0 fs.toList d G):Y4 P t (AK.iso d f) (fun b=>G (f b)):=by
 intro H enc w n cs x hx
 obtain ⟨xs,n',hn',_,hl,hlen,hg⟩:=DataW.trod_struct ht hx
 obtain ⟨hn,a,hK,hG⟩:=h H enc w n' cs (fun f' hf'=>by
  obtain ⟨j,hj⟩:=List.getElem?_of_mem hf'
  have hj2:fs[j]? =some f':=by simpa using hj
  have hlt:j<fs.size:=(Array.getElem?_eq_some_iff.1 hj2).1
  have:=hg j f' hj2
  refine ⟨xs[j]'(by omega),?_⟩
  rw [this]
  exact List.getElem?_eq_getElem _) (by omega)
 rw [List.drop_zero,List.take_of_length_le (by omega)] at hK hn
 exact ⟨hn,g a,by show d.R _ (f (g a)) _;rw [hfg];exact hK,by show G (f (g a));rw [hfg];exact hG⟩
theorem Ja {α:Type} {P:Program} {t:TypeId} {d:AK α} {G G':α→Prop} (h:Y4 P t d G) (hg:∀a,G a→G' a):Y4 P t d G':=by
 intro H enc w n cs x hx
 obtain ⟨hn,a,hK,hG⟩:=h H enc w n cs x hx
 exact ⟨hn,a,hK,hg a hG⟩
theorem Qa3 (b:Bool):clo (some (.bool b))=some (.bool b):=rfl
theorem Qbk (k:IntKind) (n:Int):clo (some (.int k n))=some (.int k n):=rfl
theorem toList_eq {s u:ByteArray}:(s.toList == u.toList)=decide (s=u):=by
 by_cases h:s=u
 ·subst h;simp
 ·have:s.toList≠u.toList:=fun e=>h (by
   have e2:s.data.toList=u.data.toList:=by rw [← ByteArray.toList_eq,← ByteArray.toList_eq];exact e
   have e3:s.data=u.data:=Array.toList_inj.1 e2
   cases s;cases u;exact congrArg _ e3)
  simp [h,this]
section
variable (P : Program) (t : TypeId) (xo yo : Operand) (k : IntKind) (a b : Int) (s u : ByteArray) (c d : Bool)
theorem Qnx : Ye P .lss t xo yo (.int k a) (.int k b)=some (.bool (decide (a<b))):=by simp [Ye,aeq,QbF,closedV,closed1,eqGuard,binOp,ZW,Op.intCmp,Qa3]
theorem QnS : Ye P .leq t xo yo (.int k a) (.int k b)=some (.bool (decide (a≤b))):=by simp [Ye,aeq,QbF,closedV,closed1,eqGuard,binOp,ZW,Op.intCmp,Qa3]
theorem Qnb : Ye P .gtr t xo yo (.int k a) (.int k b)=some (.bool (decide (b<a))):=by simp [Ye,aeq,QbF,closedV,closed1,eqGuard,binOp,ZW,Op.intCmp,Qa3]
theorem QnL : Ye P .geq t xo yo (.int k a) (.int k b)=some (.bool (decide (b≤a))):=by simp [Ye,aeq,QbF,closedV,closed1,eqGuard,binOp,ZW,Op.intCmp,Qa3]
theorem Qnf : Ye P .eql t xo yo (.int k a) (.int k b)=some (.bool (decide (a=b))):=by simp [Ye,aeq,QbF,closedV,closed1,eqGuard,binOp,ZW,Op.intCmp,Qa3];rfl
theorem QnN : Ye P .neq t xo yo (.int k a) (.int k b)=some (.bool (!decide (a=b))):=by simp [Ye,aeq,QbF,closedV,closed1,eqGuard,binOp,ZW,Op.intCmp,Qa3];rfl
theorem Qni : Ye P .add t xo yo (.int k a) (.int k b)=some (.int k (k.wrap (a+b))):=by simp [Ye,aeq,QbF,closedV,closed1,eqGuard,binOp,ZW,Op.intArith,Qbk]
theorem QnY : Ye P .sub t xo yo (.int k a) (.int k b)=some (.int k (k.wrap (a - b))):=by simp [Ye,aeq,QbF,closedV,closed1,eqGuard,binOp,ZW,Op.intArith,Qbk]
theorem QnI : Ye P .mul t xo yo (.int k a) (.int k b)=some (.int k (k.wrap (a*b))):=by simp [Ye,aeq,QbF,closedV,closed1,eqGuard,binOp,ZW,Op.intArith,Qbk]
theorem Qnl (h:b≠0):Ye P .quo t xo yo (.int k a) (.int k b)=some (.int k (k.wrap (a.tdiv b))):=by simp [Ye,aeq,QbF,closedV,closed1,eqGuard,binOp,ZW,Op.intDiv,Qbk,h]
theorem Qm6 (h:b≠0):Ye P .rem t xo yo (.int k a) (.int k b)=some (.int k (a.tmod b)):=by simp [Ye,aeq,QbF,closedV,closed1,eqGuard,binOp,ZW,Op.intDiv,Qbk,h]
theorem Qmv : Ye P .neq t xo yo (.string s) (.string u)=some (.bool (!decide (s=u))):=by simp only [Ye,aeq,QbF,closedV,closed1,eqGuard,binOp,ZW,Op.stringOp,toList_eq];rfl
theorem Qma (h:s.size+u.size≤9223372036854775807):Ye P .add t xo yo (.string s) (.string u)=some (.string (s++u)):=by
 have h2:¬((s.size+u.size:Nat):Int) > IntKind.i64.max:=by
  have:IntKind.i64.max=9223372036854775807:=by decide
  rw [this];omega
 simp only [Ye,aeq,QbF,closedV,closed1,eqGuard,binOp,Op.stringOp,if_neg h2];rfl
theorem Qmz (h:P.underlying t=some .bool):Ye P .neq t xo yo (.bool c) (.bool d)=some (.bool (!(c == d))):=by simp [Ye,aeq,h]
theorem Qnt : aun P .not (.bool c)=some (.bool !c):=rfl
end
def Fr (p:Nat) (h:AH):Prop:=∀t,Under p t→h t=none
def FrC (π k:Nat) (h:AH):Prop:=∀j t,k≤j→Under (child π j) t→h t=none
def Dom (p:Nat) (h h':AH):Prop:=∀t,h' t≠none→h t≠none∨Under p t
theorem Fr.frc {p:Nat} {h:AH} (hf:Fr p h) (k:Nat):FrC p k h:=fun j t _ ht=>hf t (Under.child_of ht)
theorem FrC.fr {π k j:Nat} {h:AH} (hf:FrC π k h) (hj:k≤j):Fr (child π j) h:=fun t ht=>hf j t hj ht
theorem FrC.le {π k k':Nat} {h:AH} (hf:FrC π k h) (hk:k≤k'):FrC π k' h:=fun j t hj ht=>hf j t (Nat.le_trans hk hj) ht
theorem FrC.dom {π i:Nat} {h h':AH} (hf:FrC π i h) (hd:Dom (child π i) h h'):FrC π (i+1) h':=fun j t hj ht=>by
 cases hh:h' t with
 | none=>rfl
 | some o =>
  rcases hd t (by rw [hh];simp) with h1 | h1
  ·exact absurd (hf j t (by omega) ht) h1
  ·have:=Under.apart ht h1
   omega
theorem Dom.refl (p:Nat) (h:AH):Dom p h h:=fun t ht=> .inl ht
theorem Dom.new (p:Nat) (h:AH) (o:Option Yn):Dom p h (h.upd (Qn p) o):=fun t ht=>by
 unfold AH.upd at ht
 split at ht
 ·rename_i e
  exact .inr (e▸QR p)
 ·exact .inl ht
theorem Dom.old {p t:Nat} {h:AH} (ht:h t≠none) (o:Option Yn):Dom p h (h.upd t o):=fun u hu=>by
 unfold AH.upd at hu
 split at hu
 ·rename_i e
  exact .inl (e▸ht)
 ·exact .inl hu
theorem AH.upd_same (h:AH) (t:Nat) (o:Option Yn):h.upd t o t=o:=by simp [AH.upd]
theorem AH.upd_ne (h:AH) {t u:Nat} (hu:u≠t) (o:Option Yn):h.upd t o u=h u:=by simp [AH.upd,hu]
theorem J3 (p:Nat):Qn p % 2=1:=YL p 0
theorem Qh0 {h h':AH} (q:Quiet h h'):YW h h'=h:=by
 funext t
 unfold YW
 cases hh:h t with
 | none=>rfl
 | some o=>simp only;rw [q t (by rw [hh];simp),hh]
theorem Qkz (p:Nat) (h h':AH):Dom p h (YW h h'):=fun t ht=>by
 unfold YW at ht
 cases hh:h t with
 | none=>rw [hh] at ht;exact absurd Y ht
 | some o=>exact .inl (by simp)
theorem Qk8 (p:Nat) (h h':AH):Dom p h (QbH p h h'):=fun t ht=>by
 unfold QbH at ht
 split at ht
 ·rename_i hc
  exact hc
 ·exact absurd Y ht
theorem QeJ {p:Nat} {h h':AH} {t:Nat} (ht:h t≠none∨Under p t):QbH p h h' t=h' t:=by
 unfold QbH
 rw [if_pos ht]
theorem Qi4 {p:Nat} {h h':AH} (q:Quiet h h'):Quiet h (QbH p h h'):=fun t ht=>(QeJ (.inl ht)).trans (q t ht)
def CallS (call:QO) (f:FuncId) (args:List Value) (h:AH) (p:Nat) (Q:Value→AH→Prop):Prop:=∃v h',call f args h p=some (v,h')∧Dom p h h'∧Q v h'
theorem CallS.mono {call:QO} {f:FuncId} {args:List Value} {h:AH} {p:Nat} {Q Q':Value→AH→Prop} (hc:CallS call f args h p Q) (hq:∀v h',Q v h'→Q' v h'):CallS call f args h p Q':=by
 obtain ⟨v,h',h1,h2,h3⟩:=hc
 exact ⟨v,h',h1,h2,hq v h' h3⟩
def thn (K:St→Prop) (Q:AX→St→Prop):AX→St→Prop
 | .normal,s=>K s
 | .exit id,s=>Q (.exit id) s
 | .ret,s=>Q .ret s
def inB (id:Nat) (Q:AX→St→Prop):AX→St→Prop
 | .normal,s=>Q .normal s
 | .exit id',s=>if id'=id then Q .normal s else Q (.exit id') s
 | .ret,s=>Q .ret s
theorem thn.n {K:St→Prop} {Q:AX→St→Prop} {s:St} (h:K s):thn K Q .normal s:=h
theorem thn.r {K:St→Prop} {Q:AX→St→Prop} {s:St} (h:Q .ret s):thn K Q .ret s:=h
theorem thn.e {K:St→Prop} {Q:AX→St→Prop} {s:St} {id:Nat} (h:Q (.exit id) s):thn K Q (.exit id) s:=h
theorem inB.n {id:Nat} {Q:AX→St→Prop} {s:St} (h:Q .normal s):inB id Q .normal s:=h
theorem inB.r {id:Nat} {Q:AX→St→Prop} {s:St} (h:Q .ret s):inB id Q .ret s:=h
section
variable (call : QO) (P : Program) (π : Nat)
def Run (co:Code) (s:St) (Q:AX→St→Prop):Prop:=FrC π s.c s.h→∃e s',Q9 call P π co s=some (e,s')∧FrC π s'.c s'.h∧Q e s'
def RunO (ops:Array Oper) (c:Nat) (l:List Oper) (i:Nat) (E:Nat→Value) (h:AH) (K:(Nat→Value)→AH→Prop):Prop:=FrC π (c+i) h→∃s',QbY call P π ops l i ⟨E,h,c⟩=some s'∧s'.c=c∧FrC π (c+(i+l.length)) s'.h∧K s'.E s'.h
def RunD (c:Nat) (ops:Array Oper) (B:List (List Nat)) (base:AH) (l:List Oper) (i:Nat) (E:Nat→Value) (C:AH) (al:List (Nat×Yn)) (fl:List Nat) (K:(Nat→Value)→AH→List (Nat×Yn)→List Nat→Prop):Prop :=
 FrC π (c+i) C→(∀x∈al,x.1<i)→∃s',Qfq call P π c ops B base l i ⟨E,C,al,fl⟩=some s'∧FrC π (c+(i+l.length)) s'.C∧(∀x∈s'.al,x.1<i+l.length)∧K s'.E s'.C s'.al s'.fl
end
section
variable {call : QO} {P : Program} {π c i i' k c' id : Nat} {Q : AX → St → Prop} {K : (Nat → Value) → AH → Prop} {x y : Code} {s : St} {ops : Array Oper} {o : Oper} {r : List Oper} {d : Option Tmp} {E : Nat → Value} {h h' : AH} {v : Value} {b : Bool}
theorem Run.skip (hq:Q .normal s):Run call P π .skip s Q:=fun hf=>⟨_,_,rfl,hf,hq⟩
theorem Run.ret (hq:Q .ret s):Run call P π .ret s Q:=fun hf=>⟨_,_,rfl,hf,hq⟩
theorem Run.exit (hq:Q (.exit id) s):Run call P π (.exit id) s Q:=fun hf=>⟨_,_,rfl,hf,hq⟩
theorem Run.mono {Q':AX→St→Prop} (hr:Run call P π x s Q) (hq:∀e s',Q e s'→Q' e s'):Run call P π x s Q':=fun hf=>by
 obtain ⟨e,s',h1,h2,h3⟩:=hr hf
 exact ⟨e,s',h1,h2,hq e s' h3⟩
theorem Run.seq (hx:Run call P π x s (thn (fun s'=>Run call P π y s' Q) Q)):Run call P π (.seq x y) s Q:=fun hf=>by
 obtain ⟨e,s',h1,h2,h3⟩:=hx hf
 cases e with
 | normal =>
  obtain ⟨e2,s2,h4,h5,h6⟩:=h3 h2
  exact ⟨e2,s2,by simp only [Q9,h1,h4],h5,h6⟩
 | exit id=>exact ⟨_,s',by simp only [Q9,h1],h2,h3⟩
 | ret=>exact ⟨_,s',by simp only [Q9,h1],h2,h3⟩
theorem Run.cond {k:Operand} (hb:ZS E k=some (.bool b)) (ht:b=true→Run call P π x ⟨E,h,c⟩ Q) (hf:b=false→Run call P π y ⟨E,h,c⟩ Q):Run call P π (.cond k x y) ⟨E,h,c⟩ Q:=fun hfr=>by
 cases b with
 | true =>
  obtain ⟨e,s',h1,h2,h3⟩:=ht Y hfr
  exact ⟨e,s',by simp only [Q9,hb,h1],h2,h3⟩
 | false =>
  obtain ⟨e,s',h1,h2,h3⟩:=hf Y hfr
  exact ⟨e,s',by simp only [Q9,hb,h1],h2,h3⟩
theorem Run.block (hx:Run call P π x s (inB id Q)):Run call P π (.block id x) s Q:=fun hf=>by
 obtain ⟨e,s',h1,h2,h3⟩:=hx hf
 cases e with
 | normal=>exact ⟨_,s',by simp only [Q9,h1],h2,h3⟩
 | ret=>exact ⟨_,s',by simp only [Q9,h1],h2,h3⟩
 | exit id' =>
  simp only [inB] at h3
  split at h3
  ·rename_i hid
   exact ⟨.normal,s',by simp only [Q9,h1,if_pos hid],h2,h3⟩
  ·rename_i hid
   exact ⟨.exit id',s',by simp only [Q9,h1,if_neg hid],h2,h3⟩
theorem Run.loop (I:Nat→(Nat→Value)→AH→Nat→Prop) (k:Nat) (h0:I k E h c) (step:∀k E h c,I k E h c→FrC π c h→Run call P π x ⟨E,h,c⟩ (thn (fun s'=>∃k',k'<k∧I k' s'.E s'.h s'.c) Q)):Run call P π (.loop x) ⟨E,h,c⟩ Q:=fun hf=>by
 have key:∀n k E h c,k<n→I k E h c→FrC π c h→∃e s',LoopR (Q9 call P π x) ⟨E,h,c⟩ e s'∧FrC π s'.c s'.h∧Q e s':=by
  intro n
  induction n with
  | zero=>intro k E h c hk;omega
  | succ n ih =>
   intro k E h c hk hI hf
   obtain ⟨e,s',h1,h2,h3⟩:=step k E h c hI hf hf
   cases e with
   | normal =>
    obtain ⟨k',hk',hI'⟩:=h3
    obtain ⟨e2,s2,h4,h5,h6⟩:=ih k' s'.E s'.h s'.c (by omega) hI' h2
    exact ⟨e2,s2, .more h1 h4,h5,h6⟩
   | exit id=>exact ⟨_,s', .stop h1 (by simp),h2,h3⟩
   | ret=>exact ⟨_,s', .stop h1 (by simp),h2,h3⟩
 obtain ⟨e,s',h1,h2,h3⟩:=key (k+1) k E h c (Nat.lt_succ_self k) h0 hf
 exact ⟨e,s',by rw [Q9];exact QlV h1,h2,h3⟩
theorem Run.region (hc:c+ops.size=c') (hx:RunO call P π ops c ops.toList 0 E h (fun E' h'=>Q .normal ⟨E',h',c'⟩)):Run call P π (.region id ops false) ⟨E,h,c⟩ Q:=fun hf=>by
 subst hc
 obtain ⟨s',h1,h2,h3,h4⟩:=hx hf
 refine ⟨.normal,⟨s'.E,s'.h,c+ops.size⟩,by simp only [Q9,h1,Option.map_some],?_,h4⟩
 simpa using h3
theorem RunO.nil (hk:K E h):RunO call P π ops c [] i E h K:=fun hf=>⟨_,rfl,rfl,hf,hk⟩
theorem RunO.step {op:Op} {ty:TypeId} {ps:String} {af:Array Edge} {g:Option (Nat×Bool)} (hi:i+1=i') (hk:c+i=k) (hw:Yo ops E ⟨d,op,ty,ps,af,g⟩=true) (hx:QD call P (child π k) E h ⟨d,op,ty,ps,af,g⟩=some (v,h')) (hdm:FrC π k h→Dom (child π k) h h') (hn:FrC π (k+1) h'→RunO call P π ops c r i' (Z3 E d v) h' K):RunO call P π ops c (⟨d,op,ty,ps,af,g⟩::r) i E h K:=fun hf=>by
 subst hi
 subst hk
 have hf':FrC π (c+(i+1)) h':=FrC.dom hf (hdm hf)
 obtain ⟨s',h1,h2,h3,h4⟩:=hn hf' hf'
 refine ⟨s',?_,h2,?_,h4⟩
 ·simp only [QbY,QfK,hw,if_true,hx,Option.map_some,Option.bind_some,h1]
 ·rw [List.length_cons,show i+(r.length+1)=i+1+r.length by omega]
  exact h3
theorem RunO.pure {op:Op} {ty:TypeId} {ps:String} {af:Array Edge} {g:Option (Nat×Bool)} (hi:i+1=i') (hk:c+i=k) (hw:Yo ops E ⟨d,op,ty,ps,af,g⟩=true) (hx:QD call P (child π k) E h ⟨d,op,ty,ps,af,g⟩=some (v,h)) (hn:RunO call P π ops c r i' (Z3 E d v) h K):RunO call P π ops c (⟨d,op,ty,ps,af,g⟩::r) i E h K :=
 RunO.step hi hk hw hx (fun _=> .refl _ _) (fun _=>hn)
theorem RunO.make {op:Op} {ty:TypeId} {ps:String} {af:Array Edge} {g:Option (Nat×Bool)} {z:Yn} (hi:i+1=i') (hk:c+i=k) (hw:Yo ops E ⟨d,op,ty,ps,af,g⟩=true) (hx:QD call P (child π k) E h ⟨d,op,ty,ps,af,g⟩=some (v,h.upd (Qn (child π k)) (some z))) (hn:RunO call P π ops c r i' (Z3 E d v) (h.upd (Qn (child π k)) (some z)) K):RunO call P π ops c (⟨d,op,ty,ps,af,g⟩::r) i E h K :=
 RunO.step hi hk hw hx (fun _=> .new _ _ _) (fun _=>hn)
theorem RunO.off (hi:i+1=i') (hw:Yo ops E o=false) (hk:RunO call P π ops c r i' (Z3 E o.dst undef) h K):RunO call P π ops c (o::r) i E h K:=fun hf=>by
 subst hi
 obtain ⟨s',h1,h2,h3,h4⟩:=hk (hf.le (by omega))
 refine ⟨s',?_,h2,?_,h4⟩
 ·simp only [QbY,QfK,hw,Bool.false_eq_true,if_false,Option.bind_some,h1]
 ·rw [List.length_cons,show i+(r.length+1)=i+1+r.length by omega]
  exact h3
variable {B : List (List Nat)} {base C : AH} {al : List (Nat × Yn)} {fl : List Nat} {D : (Nat → Value) → AH → List (Nat × Yn) → List Nat → Prop}
theorem Run.draw (hc:c+ops.size=c') (hB:Qlx ops.toList []=B) (hok:okD P ops B=true) (hx:RunD call P π c ops B (QcQ E ops h) ops.toList 0 E h [] [] (fun E' C' al fl=>Q .normal ⟨E',lay π c (fun a=> !fl.contains a) al C',c'⟩)):Run call P π (.region id ops true) ⟨E,h,c⟩ Q:=fun hf=>by
 subst hB
 subst hc
 obtain ⟨d,h1,h2,h3,h4⟩:=hx hf (fun x hx=>by cases hx)
 refine ⟨.normal,_,?_,?_,h4⟩
 ·simp only [Q9,QgJ,hok,if_true,h1,Option.map_some]
 ·intro j t hj ht
  simp only [Array.length_toList,Nat.zero_add] at h2 h3 hj
  cases hh:lay π c (fun a=> !d.fl.contains a) d.al d.C t with
  | none=>exact hh
  | some o =>
   rcases Qag hh with ⟨y,hy,_,h5,_⟩ | h5
   ·have:=h3 y hy
    have h6:Under (child π (c+y.1)) t:=h5▸QR _
    have:=Under.apart ht h6
    omega
   ·rw [h2 j t hj ht] at h5
    cases h5
theorem RunD.nil (hk:D E C al fl):RunD call P π c ops B base [] i E C al fl D:=fun hf ha=>⟨_,rfl,hf,ha,hk⟩
theorem Qio {s1:DSt} {s:DSt} (h1:Qa4 call P π c ops B base i o s=some s1) (hf:FrC π (c+(i+1)) s1.C) (ha:∀x∈s1.al,x.1<i+1) (hk:RunD call P π c ops B base r (i+1) s1.E s1.C s1.al s1.fl D):∃s',Qfq call P π c ops B base (o::r) i s=some s'∧FrC π (c+(i+(o::r).length)) s'.C∧(∀x∈s'.al,x.1<i+(o::r).length)∧D s'.E s'.C s'.al s'.fl:=by
 obtain ⟨s',h2,h3,h4,h5⟩:=hk hf ha
 rw [List.length_cons,show i+(r.length+1)=i+1+r.length by omega]
 exact ⟨s',by simp only [Qfq,h1,Option.bind_some,h2],h3,h4,h5⟩
theorem RunD.off (hi:i+1=i') (hw:Yo ops E o=false) (hk:RunD call P π c ops B base r i' (Z3 E o.dst undef) C al fl D):RunD call P π c ops B base (o::r) i E C al fl D:=fun hf ha=>by
 subst hi
 exact Qio (s1:=⟨Z3 E o.dst undef,C,al,fl⟩) (by simp only [Qa4,hw,Bool.false_eq_true,if_false]) (FrC.le hf (by omega)) (fun x hx=>Nat.lt_succ_of_lt (ha x hx)) hk
theorem RunD.make {op:Op} {ty:TypeId} {ps:String} {af:Array Edge} {g:Option (Nat×Bool)} {z:Yn} (hi:i+1=i') (hk:c+i=k) (hw:Yo ops E ⟨d,op,ty,ps,af,g⟩=true) (hc:cls P op= .free) (hx:QD call P (child π k) E (fun _=>none) ⟨d,op,ty,ps,af,g⟩=some (v,AH.upd (fun _=>none) (Qn (child π k)) (some z))) (hn:RunD call P π c ops B base r i' (Z3 E d v) C (al++ [(i,z)]) fl D):RunD call P π c ops B base (⟨d,op,ty,ps,af,g⟩::r) i E C al fl D:=fun hf ha=>by
 subst hi
 subst hk
 refine Qio (s1:=⟨Z3 E d v,C,al++ [(i,z)],fl⟩) (by simp only [Qa4,hw,if_true,hc,hx,Option.map_some,AH.upd_same]) (FrC.le hf (by omega)) ?_ hn
 intro x hx'
 rcases List.mem_append.1 hx' with h1 | h1
 ·exact Nat.lt_succ_of_lt (ha x h1)
 ·obtain rfl:=List.mem_singleton.1 h1
  exact Nat.lt_succ_self i
theorem RunD.pure {op:Op} {ty:TypeId} {ps:String} {af:Array Edge} {g:Option (Nat×Bool)} (hi:i+1=i') (hk:c+i=k) (hw:Yo ops E ⟨d,op,ty,ps,af,g⟩=true) (hc:cls P op= .free) (hx:QD call P (child π k) E (fun _=>none) ⟨d,op,ty,ps,af,g⟩=some (v,(fun _=>none))) (hn:RunD call P π c ops B base r i' (Z3 E d v) C al fl D):RunD call P π c ops B base (⟨d,op,ty,ps,af,g⟩::r) i E C al fl D:=fun hf ha=>by
 subst hi
 subst hk
 exact Qio (s1:=⟨Z3 E d v,C,al,fl⟩) (by simp only [Qa4,hw,if_true,hc,hx,Option.map_some]) (FrC.le hf (by omega)) (fun x hx=>Nat.lt_succ_of_lt (ha x hx)) hn
theorem RunD.look {op:Op} {ty:TypeId} {ps:String} {af:Array Edge} {g:Option (Nat×Bool)} (hi:i+1=i') (hk:c+i=k) (hw:Yo ops E ⟨d,op,ty,ps,af,g⟩=true) (hc:cls P op= .look) (hx:QD call P (child π k) E base ⟨d,op,ty,ps,af,g⟩=some (v,base)) (hn:RunD call P π c ops B base r i' (Z3 E d v) C al fl D):RunD call P π c ops B base (⟨d,op,ty,ps,af,g⟩::r) i E C al fl D:=fun hf ha=>by
 subst hi
 subst hk
 refine Qio (s1:=⟨Z3 E d v,C,al,fl⟩) ?_ (FrC.le hf (by omega)) (fun x hx=>Nat.lt_succ_of_lt (ha x hx)) hn
 simp only [Qa4,hw,if_true,hc,hx,Quiet.refl base]
theorem QjN {cond:Nat→Bool} (hf:FrC π (c+i) C) (ha:∀x∈al,x.1<i):FrC π (c+i) (lay π c cond al C):=fun j t hj ht=>by
 cases hh:lay π c cond al C t with
 | none=>rfl
 | some o =>
  rcases Qag hh with ⟨y,hy,_,h5,_⟩ | h5
  ·have:=ha y hy
   have h6:Under (child π (c+y.1)) t:=h5▸QR _
   have:=Under.apart ht h6
   omega
  ·rw [hf j t hj ht] at h5
   cases h5
theorem RunD.chain {op:Op} {ty:TypeId} {ps:String} {af:Array Edge} {g:Option (Nat×Bool)} {H:AH} {bi:List Nat} (hi:i+1=i') (hk:c+i=k) (hw:Yo ops E ⟨d,op,ty,ps,af,g⟩=true) (hc:cls P op= .chain) (hb:B.getD i []=bi) (hl:lay π c (fun a=>bi.contains a && !fl.contains a) al C=H) (hx:QD call P (child π k) E H ⟨d,op,ty,ps,af,g⟩=some (v,h')) (hq:Qbt P ops bi=true∨Quiet base h') (hdm:FrC π k H→Dom (child π k) H h')
  (hn:FrC π (k+1) h'→RunD call P π c ops B base r i' (Z3 E d v) h' al (bi++fl) D):RunD call P π c ops B base (⟨d,op,ty,ps,af,g⟩::r) i E C al fl D:=fun hf ha=>by
 subst hi
 subst hk
 subst hb
 subst hl
 have hfl:=QjN (cond:=fun a=>(B.getD i []).contains a && !fl.contains a) hf ha
 have hf':FrC π (c+(i+1)) h':=FrC.dom hfl (hdm hfl)
 refine Qio (s1:=⟨Z3 E d v,h',al,B.getD i []++fl⟩) ?_ hf' (fun x hx=>Nat.lt_succ_of_lt (ha x hx)) (hn hf')
 simp only [Qa4,hw,if_true,hc,hx,hq]
end
def fin (P:Program) (p:Nat) (rs:List ResultVar) (h:AH) (Q:Value→AH→Prop):AX→St→Prop
 | .exit _,_=>False
 | .normal,s=>∃l,Qat P s.h s.E rs=some l∧Q (Jc l) (if Zk (Jc l) then YW h s.h else QbH p h s.h)
 | .ret,s=>∃l,Qat P s.h s.E rs=some l∧Q (Jc l) (if Zk (Jc l) then YW h s.h else QbH p h s.h)
theorem CallS.intro {P:Program} {f:FuncId} {fn:Func} {c:Code} {n:Nat} {args:List Value} {h:AH} {p:Nat} {Q:Value→AH→Prop} (hf:P.funcs[f]? =some fn) (hb:fn.body=some c) (hc:ZZ fn.ntmps c=true) (hfr:Fr p h)
  {rs:List ResultVar} (hrs:fn.results.toList=rs) (hr:Run (Qs P n) P p c ⟨fun t=>args.getD t undef,h,0⟩ (fin P p rs h Q)) (hpr:QcF f=true:=by rfl):CallS (Qs P (n+1)) f args h p Q:=by
 subst hrs
 obtain ⟨e,s',h1,h2,h3⟩:=hr (hfr.frc 0)
 have key:∀l,Qat P s'.h s'.E fn.results.toList=some l→(∀id,e≠ .exit id)→Qs P (n+1) f args h p=some (Jc l,if Zk (Jc l) then YW h s'.h else QbH p h s'.h):=by
  intro l hl hne
  rw [Qs]
  simp only [hpr,hf,hb,hc,if_true,h1]
  cases e with
  | normal=>simp only [hl,Option.map_some]
  | ret=>simp only [hl,Option.map_some]
  | exit id=>exact absurd Y (hne id)
 have dom:∀l,Dom p h (if Zk (Jc l) then YW h s'.h else QbH p h s'.h):=by
  intro l
  split
  ·exact Qkz p h _
  ·exact Qk8 p h _
 cases e with
 | normal =>
  obtain ⟨l,hl,hq⟩:=h3
  exact ⟨_,_,key l hl (by simp),dom l,hq⟩
 | ret =>
  obtain ⟨l,hl,hq⟩:=h3
  exact ⟨_,_,key l hl (by simp),dom l,hq⟩
 | exit id=>exact h3.elim
attribute [irreducible] Run RunO RunD fin thn inB CallS
end Go.Proofs.YtoaigcojlmoijaaGreat.AE
