/- A part of what the row of FnExactWinnersOf uses. Conditions: as each theorem states. -/
import Derived.Test.YtoaigcojlmoijaaGreatZFnExactWinnersOfa
import Derived.IntWalk
import Derived.Below
namespace Go.Proofs.YtoaigcojlmoijaaGreat.AE
open Go Go.RowKit
set_option linter.unusedVariables false
set_option linter.unusedSimpArgs false
section
variable {call : QO} {P : Program} {p : Nat} {E : Nat → Value} {h h' : AH} {d : Option Tmp} {ty t s e : TypeId} {ps : String} {af : Array Edge} {g : Option (Nat × Bool)} {x y z : Operand} {u v w : Value} {k o es : Nat} {cs l : List Value}
theorem X.move (hx:ZS E x=some v):QD call P p E h ⟨d, .move x,ty,ps,af,g⟩=some (v,h):=by simp only [QD,aop,hx,Option.map_some]
theorem X.assign (hx:ZS E x=some v):QD call P p E h ⟨d, .assign x,ty,ps,af,g⟩=some (v,h):=by simp only [QD,aop,hx,Option.map_some]
theorem X.pickT (hc:ZS E x=some (.bool true)) (hy:ZS E y=some v):QD call P p E h ⟨d, .pick x y z,ty,ps,af,g⟩=some (v,h):=by simp only [QD,aop,hc,hy,Option.map_some]
theorem X.pickF (hc:ZS E x=some (.bool false)) (hz:ZS E z=some v):QD call P p E h ⟨d, .pick x y z,ty,ps,af,g⟩=some (v,h):=by simp only [QD,aop,hc,hz,Option.map_some]
theorem X.box (hx:ZS E x=some v) (hc:v.cells.toList=cs):QD call P p E h ⟨d, .box t x,ty,ps,af,g⟩=some (.pointer (some ⟨Qn p,0,none⟩),h.upd (Qn p) (some (.cells 0 cs))):=by
 subst hc
 simp only [QD,aop,hx,Option.map_some,QmA]
theorem X.alloc (hz:Zq P t=some v) (hcl:closedV v=true) (hc:v.cells.toList=cs):QD call P p E h ⟨d, .alloc t,ty,ps,af,g⟩=some (.pointer (some ⟨Qn p,0,none⟩),h.upd (Qn p) (some (.cells 0 cs))):=by
 subst hc
 simp only [QD,aop,hz,hcl,if_true,QmA]
theorem X.load (hx:ZS E x=some u) (hl:QaF P t h u=some v):QD call P p E h ⟨d, .load t x,ty,ps,af,g⟩=some (v,h):=by simp only [QD,aop,hx,hl,Option.map_some]
theorem J9 (hst:Qw P t=some false) (hk:h k=some (.cells es cs)) (hv:cs[o]? =some v):QaF P t h (.pointer (some ⟨k,o,none⟩))=some v:=by simp only [QaF,hk,hst,hv]
theorem Qcd {n:Nat} (hst:Qw P t=some true) (hn:P.cellsOf t=n) (hk:h k=some (.cells es cs)) (hle:o+n≤cs.length) (hl:(cs.drop o).take n=l):QaF P t h (.pointer (some ⟨k,o,none⟩))=some (.agg l.toArray):=by
 subst hl
 subst hn
 simp only [QaF,hk,hst,hle,if_true]
theorem X.store (hx:ZS E x=some u) (hy:ZS E y=some v) (hs:Qd5 P t h u v=some h'):QD call P p E h ⟨d, .store t x y,ty,ps,af,g⟩=some (undef,h'):=by simp only [QD,aop,hx,hy,hs,Option.map_some]
theorem Qcf {n:Nat} (hodd:k % 2=1) (hk:h k=some (.cells es cs)) (hi:(P.info? t).isSome=true) (hn:P.cellsOf t=n) (hc:v.cells.toList=l) (hl:l.length=n) (hle:o+l.length≤cs.length) (ho:∀a∈l,a.oneCell'=true):Qd5 P t h (.pointer (some ⟨k,o,none⟩)) v=some (h.upd k (some (.cells es (splice cs o l)))):=by
 subst hc
 have h1:v.cells.size=P.cellsOf t:=by rw [hn,← hl];simp
 have h2:o+v.cells.size≤cs.length:=by simpa using hle
 have h3:v.cells.all (·.oneCell')=true:=by
  rw [← Array.all_toList]
  exact List.all_eq_true.2 ho
 simp only [Qd5,hodd,hk,hi,h1,if_true]
 rw [← h1,if_pos ⟨trivial,trivial,h2,h3⟩]
theorem Qh5 {a:Tmp} {r:List ResultVar} (ha:ZS E (.tmp a)=some v) (hr:Qat P h E r=some l):Qat P h E (.tmp a::r)=some (v::l):=by
 obtain rfl:=Option.some.inj ha
 simp only [Qat,hr,Option.map_some]
theorem QgL {a:Tmp} {r:List ResultVar} (ha:ZS E (.tmp a)=some u) (hl:QaF P t h u=some v) (hr:Qat P h E r=some l):Qat P h E (.cell a t::r)=some (v::l):=by
 obtain rfl:=Option.some.inj ha
 simp only [Qat,hl,hr]
theorem X.bin {op:BinOp} {xt:TypeId} (hx:ZS E x=some u) (hy:ZS E y=some v) (hb:Ye P op t x y u v=some w):QD call P p E h ⟨d, .binOp op t x y xt,ty,ps,af,g⟩=some (w,h):=by simp only [QD,aop,hx,hy,hb,Option.map_some]
theorem X.un {op:UnOp} {xt:TypeId} (hx:ZS E x=some u) (hb:aun P op u=some w):QD call P p E h ⟨d, .unOp op xt x,ty,ps,af,g⟩=some (w,h):=by simp only [QD,aop,hx,hb,Option.map_some]
theorem X.fieldAddr {f:Nat} (hx:ZS E x=some u) (hb:Qf P t u f=some w):QD call P p E h ⟨d, .fieldAddr t x f,ty,ps,af,g⟩=some (w,h):=by simp only [QD,aop,hx,hb,Option.map_some]
theorem X.indexAddr (hx:ZS E x=some u) (hy:ZS E y=some v) (hb:Jx P t u v=some w):QD call P p E h ⟨d, .indexAddr t x y,ty,ps,af,g⟩=some (w,h):=by simp only [QD,aop,hx,hy,hb,Option.map_some]
theorem X.index (hx:ZS E x=some u) (hy:ZS E y=some v) (hb:QdK P t u v=some w):QD call P p E h ⟨d, .index t x y,ty,ps,af,g⟩=some (w,h):=by simp only [QD,aop,hx,hy,hb,Option.map_some]
theorem X.len (hx:ZS E x=some u) (hl:Qiq P t h u=some w):QD call P p E h ⟨d, .call ⟨.builtin .len,#[x],#[t]⟩,ty,ps,af,g⟩=some (w,h):=by simp only [QD,aop,QaX,evs,hx,hl,Option.map_some]
theorem X.append {xt:TypeId} (hx:ZS E x=some u) (hy:ZS E y=some v) (ha:Qaw P p t xt h u v=some (.val w h')):QD call P p E h ⟨d, .call ⟨.builtin .append,#[x,y],#[t,xt]⟩,ty,ps,af,g⟩=some (w,h'):=by simp only [QD,aop,QaX,evs,hx,hy,ha]
theorem X.sliceLo (hx:ZS E x=some u) (hy:ZS E y=some v) (hs:Y0 P t h u (some v) none=some w):QD call P p E h ⟨d, .slice t x (some y) none none,ty,ps,af,g⟩=some (w,h):=by simp only [QD,aop,hx,hy,hs,Option.map_some]
theorem X.sliceHi (hx:ZS E x=some u) (hy:ZS E y=some v) (hs:Y0 P t h u none (some v)=some w):QD call P p E h ⟨d, .slice t x none (some y) none,ty,ps,af,g⟩=some (w,h):=by simp only [QD,aop,hx,hy,hs,Option.map_some]
theorem X.sliceBoth {a b:Value} (hx:ZS E x=some u) (hy:ZS E y=some a) (hz:ZS E z=some b) (hs:Y0 P t h u (some a) (some b)=some w):QD call P p E h ⟨d, .slice t x (some y) (some z) none,ty,ps,af,g⟩=some (w,h):=by simp only [QD,aop,hx,hy,hz,hs,Option.map_some]
theorem X.makeSlice (hx:ZS E x=some u) (hy:ZS E y=some v) (ha:Qgr P p t h u v=some (.val w h')):QD call P p E h ⟨d, .makeSlice t x y,ty,ps,af,g⟩=some (w,h'):=by simp only [QD,aop,hx,hy,ha]
theorem X.build {pp:Array (Nat×Operand)} {q:List (Nat×Value)} (hp:evp E pp.toList=some q) (hb:Qft P t q=some w):QD call P p E h ⟨d, .build t pp,ty,ps,af,g⟩=some (w,h):=by simp only [QD,aop,hp,hb,Option.map_some]
theorem X.buildSlice {n:Nat} {pp:Array (Nat×Operand)} {q:List (Nat×Value)} (hp:evp E pp.toList=some q) (hb:YF P p t n h q=some (.val w h')):QD call P p E h ⟨d, .buildSlice t n pp,ty,ps,af,g⟩=some (w,h'):=by simp only [QD,aop,hp,hb]
theorem X.convert (hx:ZS E x=some u) (hb:Qc2 P p s t h u=some (.val w h')):QD call P p E h ⟨d, .convert s t x,ty,ps,af,g⟩=some (w,h'):=by simp only [QD,aop,hx,hb]
theorem X.makeFunc {f:FuncId} {cp:Array Operand} (hl:evs E cp.toList=some l):QD call P p E h ⟨d, .makeFunc (.func f) #[] cp,ty,ps,af,g⟩=some (.func (.func f) #[] l.toArray,h):=by simp [QD,aop,hl]
theorem X.lookup {ok:Bool} (hx:ZS E x=some u) (hy:ZS E y=some v) (hb:Qdd P t h u v ok=some w):QD call P p E h ⟨d, .lookup t x y ok,ty,ps,af,g⟩=some (w,h):=by simp only [QD,aop,hx,hy,hb,Option.map_some]
theorem X.mapUpdate {a b c:Value} {m:Operand} (hm:ZS E m=some a) (hx:ZS E x=some b) (hy:ZS E y=some c) (hb:Qcg P t h a b c=some h'):QD call P p E h ⟨d, .mapUpdate t m x y,ty,ps,af,g⟩=some (undef,h'):=by simp only [QD,aop,hm,hx,hy,hb,Option.map_some]
theorem X.makeMap : QD call P p E h ⟨d, .makeMap t none,ty,ps,af,g⟩=some (.map (some (Qn p)),h.upd (Qn p) (some (.map []))):=by simp only [QD,aop]
theorem X.calls {f:FuncId} {args:Array Operand} {ts:Array TypeId} (hb:YA P f=true) (ha:evs E args.toList=some l):aop P p E h ⟨d, .call ⟨.value (.func f),args,ts⟩,ty,ps,af,g⟩=some (.enter f l):=by simp [aop,QaX,ZS,ha,hb]
theorem X.callv {f:FuncId} {a:Tmp} {caps:Array Value} {args:Array Operand} {ts:Array TypeId} (hf:E a= .func (.func f) #[] caps) (hb:YA P f=true) (ha:evs E args.toList=some l):aop P p E h ⟨d, .call ⟨.value (.tmp a),args,ts⟩,ty,ps,af,g⟩=some (.enter f (l++caps.toList)):=by simp [aop,QaX,ZS,hf,ha,hb]
theorem Qcb {a:Option Addr} {n m:Nat} (hu:P.underlying t=some (.slice e)):Qiq P t h (.slice a n m)=some (.int .i64 n):=by simp only [Qiq,hu]
theorem QlI {st:ByteArray} (hu:P.underlying t=some .string):Qiq P t h (.string st)=some (.int .i64 st.size):=by simp only [Qiq,hu]
theorem Qdm {p:Prop} (b:Bool) (ht:b=true→p) (hf:b=false→p):p:=by
 cases b
 ·exact hf Y
 ·exact ht Y
end
def Y2 : Nat:=1099511627776
section
variable {P : Program} {t e : TypeId} {α : Type} {d : AK α} {h : AH} {l : List α} {v : Value}
theorem Qt {n:Int} (h: -9223372036854775808≤n∧n≤9223372036854775807):IntKind.i64.wrap n=n:=by
 rw [IntKind.wrap_i64]
 omega
theorem Qku {s:ByteArray} {i:Nat} {k:IntKind} (hu:P.underlying t=some .string) (hi:i<s.size):QdK P t (.string s) (.int k i)=some (.int .u8 ((s[i]'hi).toNat:Int)):=by
 simp only [QdK,hu]
 rw [dif_pos ⟨by omega,by simpa using hi⟩]
 simp
theorem Yf (z:List Value) (n:Nat):(cyc z n).length=n:=by simp [cyc]
end
section
variable {P : Program} {t : TypeId} {xs ys : Array Value}
theorem QjE {f:TypeId→Value→Value→Option Bool}:eqf f P xs ys []=some true:=rfl
theorem eqf_cons {f : TypeId → Value → Value → Option Bool} {fd : Field} {fs : List Field} {a b : Value} {q r : Bool} (hn : (fd.name == "_") = false) (ha : apart P fd.type xs fd.offset = some a) (hb : apart P fd.type ys fd.offset = some b) (hq : f fd.type a b = some q) (hr : eqf f P xs ys fs = some r) : eqf f P xs ys (fd :: fs) = some (q && r) := by
  have hn' : ¬ fd.name = "_" := by simpa using hn
  simp only [eqf,hn',if_false,ha,hb,hq]
  cases q
  · rfl
  · simpa using hr
theorem Qdo {k:IntKind} {a b:Int} (n:Nat) (hu:P.underlying t=some (.int k)):eqv P (n+1) t (.int k a) (.int k b)=some (decide (a=b)):=by
 simp only [eqv,hu,if_true]
 rfl
theorem Qmp {a b:ByteArray} (n:Nat) (hu:P.underlying t=some .string):eqv P (n+1) t (.string a) (.string b)=some (decide (a=b)):=by
 simp only [eqv,hu,toList_eq]
theorem QlC {a b:Bool} (n:Nat) (hu:P.underlying t=some .bool):eqv P (n+1) t (.bool a) (.bool b)=some (decide (a=b)):=by
 simp only [eqv,hu]
 cases a<;>cases b<;>rfl
theorem Qfp {fs:Array Field} {l:List Field} {q:Bool} (n:Nat) (hu:P.underlying t=some (.struct fs)) (hl:fs.toList=l) (hs:P.stoodInHeld t=false) (h:eqf (eqv P n) P xs ys l=some q):eqv P (n+1) t (.agg xs) (.agg ys)=some q:=by
 subst hl
 simp only [eqv,hu,hs,Bool.false_eq_true,if_false,h]
theorem ZU {o:Nat} {v:Value} (hst:Qw P t=some false) (hv:xs[o]? =some v):apart P t xs o=some v:=by
 simp [apart,hst,hv]
theorem QkQ {xo yo:Operand} {q:Bool} (hx:closedV (.agg xs)=true) (hy:closedV (.agg ys)=true) (hg:P.eqGuardType P.depth t=false) (h:eqv P 20 t (.agg xs) (.agg ys)=some q):Ye P .eql t xo yo (.agg xs) (.agg ys)=some (.bool q):=by
 simp only [Ye,aeq,hx,hy,hg,h,Bool.not_false,Bool.and_self,if_true,Option.map_some]
theorem Qlh {xo yo:Operand} {q:Bool} (hx:closedV (.agg xs)=true) (hy:closedV (.agg ys)=true) (hg:P.eqGuardType P.depth t=false) (h:eqv P 20 t (.agg xs) (.agg ys)=some q):Ye P .neq t xo yo (.agg xs) (.agg ys)=some (.bool (!q)):=by
 simp only [Ye,aeq,hx,hy,hg,h,Bool.not_false,Bool.and_self,if_true,Option.map_some]
end
def Qfo : Value→Value
 | .agg cs=> .agg (cs.map Qfi)
 | v=>Qfi v
theorem QfF (v:Value):(Qfo v).cells.toList=v.cells.toList.map Qfi:=by
 cases v with
 | agg cs=>simp [Qfo,Value.cells]
 | slice a n c=>cases a<;>rfl
 | _=>rfl
theorem QkF {v:Value} (h:∀c∈v.cells.toList,YI c=true):VR QdD (Qfo v) v:=by
 cases v with
 | agg cs =>
  refine .agg _ _ (by simp) (fun i hi=> ?_)
  have hi':i<cs.size:=by simpa using hi
  have h1:=h cs[i] (by simp [Value.cells])
  simpa [Array.getD_eq_getD_getElem?,hi'] using Qhm h1
 | _=>exact Qhm (by simpa only [Value.cells,List.toList_toArray,List.mem_singleton,forall_eq] using h)
theorem fr0 (W:World):Fr 1 (H0 W):=fun t ht=>by
 cases hh:H0 W t with
 | none=>rfl
 | some x =>
  obtain ⟨b,o,rfl⟩:=QeO hh
  have:=ht.odd (by decide)
  rw [Qc6] at this
  cases this
theorem Qmj {P:Program} {W:World} {n:Nat} {f:FuncId} {args:List Value} {args':Array Value} {b:Bool} (hm:P.follows .mixedOrders=true) (hP:Plain P) (hl:LR QdD args args'.toList)
  (hc:CallS (Qs P n) f args (H0 W) 1 (fun v _=>v= .bool b)) (hprim:QiI P:=by exact Qnn) (hg:GlobOk W.heap.size W:=by intro g hg;cases hg):Calls P f args' W fun e W'=>e= .returned (.bool b)∧Below W.heap.size W W':=by
 unfold CallS at hc
 obtain ⟨v,h',h1,_,rfl⟩:=hc
 refine Calls.mono (Qij hm hP hprim n f args (H0 W) 1 _ h' h1 W.heap.size QdD W args' hl (Qo6 W hg) (fun t ht=>QkX (ht.odd (by decide))) (by decide)) ?_
 rintro e W' ⟨v',ρ',rfl,hs,hv⟩
 cases hv
 refine ⟨rfl,hs.same.1,hs.same.2.1,hs.same.2.2,hs.size,fun k hk=>hs.frame k hk ?_⟩
 rintro ⟨t,s,h2,h3,_⟩
 obtain ⟨x,hx⟩:=Option.ne_none_iff_exists'.1 h3
 obtain ⟨b,o,rfl⟩:=QeO hx
 rw [Qc6] at h2
 cases h2
theorem Qm9 : LR QdD [] []:=LR.nil _
theorem QjP {v v':Value} {l l':List Value} (h:VR QdD v v') (hl:LR QdD l l'):LR QdD (v::l) (v'::l'):=LR.cons h hl
inductive T where
 | any
 | bool (b:Bool)
 | int (k:IntKind) (n:Int)
 | str (s:ByteArray)
 | ptr0
 | fn0
 | nils
 | agg (cs:List T)
 | tup (cs:List T)
 | fn (f:FuncId) (cs:List T)
 | sl (own:Bool) (sz:Nat) (rows:List (List T))
 | rp (cs:List T)
 | os (sz k lo n:Nat)
 | op (k o:Nat)
 | orp (sz k i o:Nat)
 | om (k:Nat)
 | vp (cs:List T)
 | ex (p:Option Addr) (n m:Nat) (t:T)
mutual
def fz : T→T
 | .sl _ sz rows=> .sl false sz (QcV rows)
 | .agg ts=> .agg (fzL ts)
 | .tup ts=> .tup (fzL ts)
 | .any=> .any
 | .bool b=> .bool b
 | .int k n=> .int k n
 | .str s=> .str s
 | .ptr0=> .ptr0
 | .fn0=> .fn0
 | .nils=> .nils
 | .fn f cs=> .fn f cs
 | .rp cs=> .rp cs
 | .os sz k lo n=> .os sz k lo n
 | .op k o=> .op k o
 | .orp sz k i o=> .orp sz k i o
 | .om k=> .om k
 | .vp cs=> .vp cs
 | .ex p n m t=> .ex p n m t
def fzL : List T→List T
 | []=> []
 | t::r=>fz t::fzL r
def QcV : List (List T)→List (List T)
 | []=> []
 | r::rs=>fzL r::QcV rs
end
theorem Qb7 (l:List T):fzL l=l.map fz:=by
 induction l with
 | nil=>rfl
 | cons t r ih=>simp only [fzL,List.map_cons,ih]
theorem Qfw (l:List (List T)):QcV l=l.map fzL:=by
 induction l with
 | nil=>rfl
 | cons t r ih=>simp only [QcV,List.map_cons,ih]
theorem Qc3 (l:List (List T)):(QcV l).flatten=fzL l.flatten:=by
 induction l with
 | nil=>rfl
 | cons t r ih=>simp only [QcV,List.flatten_cons,ih,Qb7,List.map_append]
theorem QiB {l:List (List T)} {n:Nat} (h:∀r∈l,r.length=n):∀r∈QcV l,r.length=n:=by
 intro r hr
 rw [Qfw] at hr
 obtain ⟨x,hx,rfl⟩:=List.mem_map.1 hr
 rw [Qb7,List.length_map]
 exact h x hx
theorem Y9 (l:List (List T)):(QcV l).length=l.length:=by rw [Qfw,List.length_map]
inductive R (hf:AH):T→Value→Prop
 | bool (b:Bool):R hf (.bool b) (.bool b)
 | int (k:IntKind) (n:Int):R hf (.int k n) (.int k n)
 | str (s:ByteArray):R hf (.str s) (.string s)
 | ptr0:R hf .ptr0 (.pointer none)
 | fn0:R hf .fn0 .nilFunc
 | nils:R hf .nils (.slice none 0 0)
 | agg (ts:List T) (vs:Array Value) (hs:ts.length=vs.size) (h:∀i,i<ts.length→R hf (ts.getD i .any) (vs.getD i undef)):R hf (.agg ts) (.agg vs)
 | tup (ts:List T) (vs:Array Value) (hs:ts.length=vs.size) (h:∀i,i<ts.length→R hf (ts.getD i .any) (vs.getD i undef)):R hf (.tup ts) (.tuple vs)
 | fn (f:FuncId) (ts:List T) (vs:Array Value) (hs:ts.length=vs.size) (h:∀i,i<ts.length→R hf (ts.getD i .any) (vs.getD i undef)):R hf (.fn f ts) (.func (.func f) #[] vs)
 | sl0 (sz:Nat):R hf (.sl false sz []) (.slice none 0 0)
 | sle (sz:Nat) (a o m:Nat):R hf (.sl false sz []) (.slice (some ⟨a,o,none⟩) 0 m)
 | sl {a es:Nat} {cs:List Value} (sz:Nat) (rows:List (List T)) (o m:Nat) (hm:0<m) (hk:hf a=some (.cells es cs)) (hes:es=0∨es=sz) (hlen:∀r∈rows,r.length=sz) (hfit:o+rows.length*sz≤cs.length)
   (h:∀i,i<rows.length*sz→R hf (rows.flatten.getD i .any) (cs.getD (o+i) undef)):R hf (.sl false sz rows) (.slice (some ⟨a,o,none⟩) rows.length m)
 | rp {a es:Nat} {cs:List Value} (ts:List T) (o:Nat) (hk:hf a=some (.cells es cs)) (hfit:o+ts.length≤cs.length) (h:∀i,i<ts.length→R hf (ts.getD i .any) (cs.getD (o+i) undef)):R hf (.rp ts) (.pointer (some ⟨a,o,none⟩))
 | ex (p:Option Addr) (n m:Nat) (t:T) (h:R hf t (.slice p n m)):R hf (.ex p n m t) (.slice p n m)
theorem R.mono {hf hf':AH} (hm:∀a o,hf a=some o→hf' a=some o) {t:T} {v:Value} (h:R hf t v):R hf' t v:=by
 induction h with
 | bool b=>exact .bool b
 | int k n=>exact .int k n
 | str s=>exact .str s
 | ptr0=>exact .ptr0
 | fn0=>exact .fn0
 | nils=>exact .nils
 | agg ts vs hs _ ih=>exact .agg ts vs hs ih
 | tup ts vs hs _ ih=>exact .tup ts vs hs ih
 | fn f ts vs hs _ ih=>exact .fn f ts vs hs ih
 | sl0 sz=>exact .sl0 sz
 | sle sz a o m=>exact .sle sz a o m
 | sl sz rows o m hm1 hk hes hlen hfit _ ih=>exact .sl sz rows o m hm1 (hm _ _ hk) hes hlen hfit ih
 | rp ts o hk hfit _ ih=>exact .rp ts o (hm _ _ hk) hfit ih
 | ex p n m t _ ih=>exact .ex p n m t ih
inductive Clean : T→Prop
 | bool (b:Bool):Clean (.bool b)
 | int (k:IntKind) (n:Int):Clean (.int k n)
 | str (s:ByteArray):Clean (.str s)
 | ptr0:Clean .ptr0
 | fn0:Clean .fn0
 | nils:Clean .nils
 | agg (ts:List T) (h:∀t∈ts,Clean t):Clean (.agg ts)
 | tup (ts:List T) (h:∀t∈ts,Clean t):Clean (.tup ts)
 | sl (sz:Nat) (rows:List (List T)) (h:∀r∈rows,∀t∈r,Clean t):Clean (.sl true sz rows)
 | sl0 (sz:Nat):Clean (.sl false sz [])
theorem R.clean {hf:AH} {t:T} {v:Value} (h:R hf t v) (hc:Clean t) (hf':AH):R hf' t v:=by
 induction h with
 | bool b=>exact .bool b
 | int k n=>exact .int k n
 | str s=>exact .str s
 | ptr0=>exact .ptr0
 | fn0=>exact .fn0
 | nils=>exact .nils
 | agg ts vs hs _ ih =>
  cases hc with
  | agg _ hc=>exact .agg ts vs hs (fun i hi=>ih i hi (hc _ (by rw [List.getD_eq_getElem?_getD,List.getElem?_eq_getElem hi];exact List.getElem_mem hi)))
 | tup ts vs hs _ ih =>
  cases hc with
  | tup _ hc=>exact .tup ts vs hs (fun i hi=>ih i hi (hc _ (by rw [List.getD_eq_getElem?_getD,List.getElem?_eq_getElem hi];exact List.getElem_mem hi)))
 | fn f ts vs hs _ ih=>cases hc
 | sl0 sz=>exact .sl0 sz
 | sle sz a o m=>exact .sle sz a o m
 | sl sz rows o m hm1 hk hes hlen hfit _ ih =>
  cases hc with
  | sl0 sz=>exact .sle _ _ _ _
 | rp ts o hk hfit _ ih=>cases hc
 | ex p n m t _ ih=>cases hc
mutual
inductive S (hf h:AH):T→Value→List Nat→Prop
 | fz {t:T} {v:Value} (hr:R hf t v):S hf h t v []
 | ow0 (sz:Nat):S hf h (.sl true sz []) (.slice none 0 0) []
 | owe (sz a o:Nat):S hf h (.sl true sz []) (.slice (some ⟨a,o,none⟩) 0 0) []
 | ow {a:Nat} {cs:List Value} {N:List Nat} (sz:Nat) (rows:List (List T)) (m:Nat) (hm:0<m) (hk:h a=some (.cells sz cs)) (hodd:a % 2=1) (hlen:∀r∈rows,r.length=sz) (hfit:rows.length*sz≤cs.length)
   (hs:SL hf h rows.flatten (cs.take (rows.length*sz)) N):S hf h (.sl true sz rows) (.slice (some ⟨a,0,none⟩) rows.length m) (a::N)
 | agg {ts:List T} {vs:List Value} {N:List Nat} (hs:SL hf h ts vs N):S hf h (.agg ts) (.agg vs.toArray) N
 | tup {ts:List T} {vs:List Value} {N:List Nat} (hs:SL hf h ts vs N):S hf h (.tup ts) (.tuple vs.toArray) N
inductive SL (hf h:AH):List T→List Value→List Nat→Prop
 | nil:SL hf h [] [] []
 | cons {t:T} {v:Value} {ts:List T} {vs:List Value} {N M:List Nat} (hs:S hf h t v N) (hr:SL hf h ts vs M):SL hf h (t::ts) (v::vs) (N++M)
end
theorem SL.length {hf h:AH}:∀ {ts:List T} {vs:List Value} {N:List Nat},SL hf h ts vs N→ts.length=vs.length
 | _,_,_, .nil=>rfl
 | _,_,_, .cons _ hr=>by simp only [List.length_cons,hr.length]
mutual
theorem S.mono {hf hf' h h':AH} (hm:∀a o,hf a=some o→hf' a=some o):∀ {t:T} {v:Value} {N:List Nat},S hf h t v N→(∀a∈N,h' a=h a)→S hf' h' t v N
 | _,_,_, .fz hr,_=> .fz (hr.mono hm)
 | _,_,_, .ow0 sz,_=> .ow0 sz
 | _,_,_, .owe sz a o,_=> .owe sz a o
 | _,_,_, .ow sz rows m hm1 hk hodd hlen hfit hs,hN=> .ow sz rows m hm1 ((hN _ (by simp)).trans hk) hodd hlen hfit (SL.mono hm hs (fun a ha=>hN a (by simp [ha])))
 | _,_,_, .agg hs,hN=> .agg (SL.mono hm hs hN)
 | _,_,_, .tup hs,hN=> .tup (SL.mono hm hs hN)
theorem SL.mono {hf hf' h h':AH} (hm:∀a o,hf a=some o→hf' a=some o):∀ {t:List T} {v:List Value} {N:List Nat},SL hf h t v N→(∀a∈N,h' a=h a)→SL hf' h' t v N
 | _,_,_, .nil,_=> .nil
 | _,_,_, .cons hs hr,hN=> .cons (S.mono hm hs (fun a ha=>hN a (by simp [ha]))) (SL.mono hm hr (fun a ha=>hN a (by simp [ha])))
end
theorem Jm {hf:AH} {ts:List T} {vs:List Value} (h:ts.length=vs.length∧∀i,i<ts.length→R hf (ts.getD i .any) (vs.getD i undef)):∀i,i<ts.length→R hf (ts.getD i .any) (vs.toArray.getD i undef):=fun i hi=>by
 have:=h.2 i hi
 simpa [Array.getD_eq_getD_getElem?,List.getD_eq_getElem?_getD] using this
def RL (hf:AH) (ts:List T) (vs:List Value):Prop:=ts.length=vs.length∧∀i,i<ts.length→R hf (ts.getD i .any) (vs.getD i undef)
theorem RL.nil (hf:AH):RL hf [] []:=⟨rfl,fun i hi=>by simp at hi⟩
theorem RL.cons {hf:AH} {t:T} {v:Value} {ts:List T} {vs:List Value} (h:R hf t v) (hr:RL hf ts vs):RL hf (t::ts) (v::vs):=by
 refine ⟨by simp [hr.1],fun i hi=> ?_⟩
 cases i with
 | zero=>simpa using h
 | succ i=>simpa using hr.2 i (by simpa using hi)
theorem RL.tail {hf:AH} {t:T} {v:Value} {ts:List T} {vs:List Value} (h:RL hf (t::ts) (v::vs)):R hf t v∧RL hf ts vs :=
 ⟨by simpa using h.2 0 (by simp),by simpa using h.1,fun i hi=>by simpa using h.2 (i+1) (by simpa using hi)⟩
mutual
/-- What is owned, read as what stays. -/
theorem S.fzR {hf h H:AH} (hm:∀a o,hf a=some o→H a=some o):∀ {t:T} {v:Value} {N:List Nat},S hf h t v N→(∀a∈N,∀o,h a=some o→H a=some o)→R H (AE.fz t) v
 | _,_,_, .fz hr,_=>by
  have h1:=hr.mono hm
  clear hr
  induction h1 with
  | bool b=>exact .bool b
  | int k n=>exact .int k n
  | str s=>exact .str s
  | ptr0=>exact .ptr0
  | fn0=>exact .fn0
  | nils=>exact .nils
  | agg ts vs hs _ ih =>
   unfold AE.fz
   rw [Qb7]
   refine .agg _ vs (by simpa using hs) (fun i hi=> ?_)
   have hi':i<ts.length:=by simpa using hi
   have:=ih i hi'
   simpa [List.getD_eq_getElem?_getD,hi'] using this
  | tup ts vs hs _ ih =>
   unfold AE.fz
   rw [Qb7]
   refine .tup _ vs (by simpa using hs) (fun i hi=> ?_)
   have hi':i<ts.length:=by simpa using hi
   have:=ih i hi'
   simpa [List.getD_eq_getElem?_getD,hi'] using this
  | fn f ts vs hs h1 ih=>exact .fn f ts vs hs h1
  | sl0 sz=>exact .sl0 sz
  | sle sz a o m=>exact .sle sz a o m
  | sl sz rows o m hm1 hk hes hlen hfit _ ih =>
   unfold AE.fz
   rw [show rows.length=(QcV rows).length from (Y9 rows).symm]
   refine .sl sz _ o m hm1 hk hes (QiB hlen) (by rw [Y9];exact hfit) (fun i hi=> ?_)
   rw [Y9] at hi
   have hi':i<rows.flatten.length:=by
    have:rows.flatten.length=rows.length*sz:=by
     rw [List.length_flatten,List.map_congr_left (g:=fun _=>sz) (fun r hr=>hlen r hr)]
     simp [List.map_const']
    omega
   have:=ih i hi
   rw [Qc3,Qb7,List.getD_eq_getElem?_getD,List.getElem?_map,List.getElem?_eq_getElem hi',Option.map_some,Option.getD_some]
   rw [List.getD_eq_getElem?_getD,List.getElem?_eq_getElem hi',Option.getD_some] at this
   exact this
  | rp ts o hk hfit h1 ih=>exact .rp ts o hk hfit h1
  | ex p n m t h1 ih=>exact .ex p n m t h1
 | _,_,_, .ow0 sz,_=> .sl0 sz
 | _,_,_, .owe sz a o,_=> .sle sz a o 0
 | _,_,_, .ow (a:=a) (cs:=cs) sz rows m hm1 hk hodd hlen hfit hs,hN=>by
  have h1:=SL.fzR hm hs (fun a ha=>hN a (by simp [ha]))
  unfold AE.fz
  rw [show rows.length=(QcV rows).length from (Y9 rows).symm]
  refine .sl sz _ 0 m hm1 (hN _ (by simp) _ hk) (.inr Y) (QiB hlen) (by rw [Y9];omega) (fun i hi=> ?_)
  rw [Y9] at hi
  have hfl:rows.flatten.length=rows.length*sz:=by
   have:=hs.length
   rw [List.length_take] at this
   omega
  have h2:=h1.2 i (by rw [Qb7,List.length_map];omega)
  rw [Qc3,Nat.zero_add]
  rw [List.getD_eq_getElem?_getD (l:=cs.take _),List.getElem?_take,if_pos hi,← List.getD_eq_getElem?_getD] at h2
  exact h2
 | _,_,_, .agg hs,hN=>by
  have h1:=SL.fzR hm hs hN
  unfold AE.fz
  exact .agg _ _ (by simpa using h1.1) (Jm h1)
 | _,_,_, .tup hs,hN=>by
  have h1:=SL.fzR hm hs hN
  unfold AE.fz
  exact .tup _ _ (by simpa using h1.1) (Jm h1)
theorem SL.fzR {hf h H:AH} (hm:∀a o,hf a=some o→H a=some o):∀ {ts:List T} {vs:List Value} {N:List Nat},SL hf h ts vs N→(∀a∈N,∀o,h a=some o→H a=some o)→RL H (fzL ts) vs
 | _,_,_, .nil,_=>RL.nil H
 | _,_,_, .cons hs hr,hN=>by
  unfold fzL
  exact RL.cons (S.fzR hm hs (fun a ha=>hN a (by simp [ha]))) (SL.fzR hm hr (fun a ha=>hN a (by simp [ha])))
end
inductive V (σ:Nat→Option Nat) (hf:AH) (nx:Nat):T→Value→Prop
 | any (v:Value):V σ hf nx .any v
 | fz {t:T} {v:Value} (hr:R hf t v):V σ hf nx t v
 | os {a:Nat} (sz k lo n m:Nat) (hk:k<nx) (hs:σ k=some a) (hm:0<m):V σ hf nx (.os sz k lo n) (.slice (some ⟨a,lo*sz,none⟩) n m)
 | os0 (sz k:Nat) (hk:k<nx) (hs:σ k=none):V σ hf nx (.os sz k 0 0) (.slice none 0 0)
 | ose (sz k a o:Nat) (hk:k<nx) (hs:σ k=none):V σ hf nx (.os sz k 0 0) (.slice (some ⟨a,o,none⟩) 0 0)
 | op {a:Nat} (k o:Nat) (hk:k<nx) (hs:σ k=some a):V σ hf nx (.op k o) (.pointer (some ⟨a,o,none⟩))
 | orp {a:Nat} (sz k i o:Nat) (hk:k<nx) (hs:σ k=some a):V σ hf nx (.orp sz k i o) (.pointer (some ⟨a,i*sz+o,none⟩))
 | om {a:Nat} (k:Nat) (hk:k<nx) (hs:σ k=some a):V σ hf nx (.om k) (.map (some a))
 | vp {a es:Nat} {cs:List Value} (ts:List T) (o:Nat) (hk:hf a=some (.cells es cs)) (hfit:o+ts.length≤cs.length) (h:∀i,i<ts.length→V σ hf nx (ts.getD i .any) (cs.getD (o+i) undef)):V σ hf nx (.vp ts) (.pointer (some ⟨a,o,none⟩))
 | agg (ts:List T) (vs:Array Value) (hs:ts.length=vs.size) (h:∀i,i<ts.length→V σ hf nx (ts.getD i .any) (vs.getD i undef)):V σ hf nx (.agg ts) (.agg vs)
 | tup (ts:List T) (vs:Array Value) (hs:ts.length=vs.size) (h:∀i,i<ts.length→V σ hf nx (ts.getD i .any) (vs.getD i undef)):V σ hf nx (.tup ts) (.tuple vs)
 | fn (f:FuncId) (ts:List T) (vs:Array Value) (hs:ts.length=vs.size) (h:∀i,i<ts.length→V σ hf nx (ts.getD i .any) (vs.getD i undef)):V σ hf nx (.fn f ts) (.func (.func f) #[] vs)
theorem V.mono {σ σ':Nat→Option Nat} {hf hf':AH} {nx nx':Nat} (hm:∀a o,hf a=some o→hf' a=some o) (hn:nx≤nx') (hσ:∀k,k<nx→σ' k=σ k) {t:T} {v:Value} (h:V σ hf nx t v):V σ' hf' nx' t v:=by
 induction h with
 | any v=>exact .any v
 | fz hr=>exact .fz (hr.mono hm)
 | os sz k lo n m hk hs hm1=>exact .os sz k lo n m (by omega) ((hσ k hk).trans hs) hm1
 | os0 sz k hk hs=>exact .os0 sz k (by omega) ((hσ k hk).trans hs)
 | ose sz k a o hk hs=>exact .ose sz k a o (by omega) ((hσ k hk).trans hs)
 | op k o hk hs=>exact .op k o (by omega) ((hσ k hk).trans hs)
 | orp sz k i o hk hs=>exact .orp sz k i o (by omega) ((hσ k hk).trans hs)
 | om k hk hs=>exact .om k (by omega) ((hσ k hk).trans hs)
 | vp ts o hk hfit _ ih=>exact .vp ts o (hm _ _ hk) hfit ih
 | agg ts vs hs _ ih=>exact .agg ts vs hs ih
 | tup ts vs hs _ ih=>exact .tup ts vs hs ih
 | fn f ts vs hs _ ih=>exact .fn f ts vs hs ih
def VL (σ:Nat→Option Nat) (hf:AH) (nx:Nat) (ts:List T) (vs:List Value):Prop:=ts.length=vs.length∧∀i,i<ts.length→V σ hf nx (ts.getD i .any) (vs.getD i undef)
theorem VL.nil (σ:Nat→Option Nat) (hf:AH) (nx:Nat):VL σ hf nx [] []:=⟨rfl,fun i hi=>by simp at hi⟩
theorem VL.cons {σ:Nat→Option Nat} {hf:AH} {nx:Nat} {t:T} {v:Value} {ts:List T} {vs:List Value} (h:V σ hf nx t v) (hr:VL σ hf nx ts vs):VL σ hf nx (t::ts) (v::vs):=by
 refine ⟨by simp [hr.1],fun i hi=> ?_⟩
 cases i with
 | zero=>simpa using h
 | succ i=>simpa using hr.2 i (by simpa using hi)
theorem VL.mono {σ σ':Nat→Option Nat} {hf hf':AH} {nx nx':Nat} (hm:∀a o,hf a=some o→hf' a=some o) (hn:nx≤nx') (hσ:∀k,k<nx→σ' k=σ k) {ts:List T} {vs:List Value} (h:VL σ hf nx ts vs):VL σ' hf' nx' ts vs:=⟨h.1,fun i hi=>(h.2 i hi).mono hm hn hσ⟩
theorem V.aggL {σ:Nat→Option Nat} {hf:AH} {nx:Nat} {ts:List T} {v:Value} (h:V σ hf nx (.agg ts) v):∃vs:List Value,v= .agg vs.toArray∧VL σ hf nx ts vs:=by
 cases h with
 | fz hr =>
  cases hr with
  | agg _ vs hs h=>exact ⟨vs.toList,by simp,by simpa using hs,fun i hi=> .fz (by have:=h i hi;simpa [Array.getD_eq_getD_getElem?,List.getD_eq_getElem?_getD] using this)⟩
 | agg _ vs hs h=>exact ⟨vs.toList,by simp,by simpa using hs,fun i hi=>by have:=h i hi;simpa [Array.getD_eq_getD_getElem?,List.getD_eq_getElem?_getD] using this⟩
theorem V.tupL {σ:Nat→Option Nat} {hf:AH} {nx:Nat} {ts:List T} {v:Value} (h:V σ hf nx (.tup ts) v):∃vs:List Value,v= .tuple vs.toArray∧VL σ hf nx ts vs:=by
 cases h with
 | fz hr =>
  cases hr with
  | tup _ vs hs h=>exact ⟨vs.toList,by simp,by simpa using hs,fun i hi=> .fz (by have:=h i hi;simpa [Array.getD_eq_getD_getElem?,List.getD_eq_getElem?_getD] using this)⟩
 | tup _ vs hs h=>exact ⟨vs.toList,by simp,by simpa using hs,fun i hi=>by have:=h i hi;simpa [Array.getD_eq_getD_getElem?,List.getD_eq_getElem?_getD] using this⟩
theorem VL.toAgg {σ:Nat→Option Nat} {hf:AH} {nx:Nat} {ts:List T} {vs:List Value} (h:VL σ hf nx ts vs):V σ hf nx (.agg ts) (.agg vs.toArray) :=
 .agg _ _ (by simpa using h.1) (fun i hi=>by have:=h.2 i hi;simpa [Array.getD_eq_getD_getElem?,List.getD_eq_getElem?_getD] using this)
theorem VL.toTup {σ:Nat→Option Nat} {hf:AH} {nx:Nat} {ts:List T} {vs:List Value} (h:VL σ hf nx ts vs):V σ hf nx (.tup ts) (.tuple vs.toArray) :=
 .tup _ _ (by simpa using h.1) (fun i hi=>by have:=h.2 i hi;simpa [Array.getD_eq_getD_getElem?,List.getD_eq_getElem?_getD] using this)
theorem VL.toFn {σ:Nat→Option Nat} {hf:AH} {nx:Nat} {ts:List T} {vs:List Value} (f:FuncId) (h:VL σ hf nx ts vs):V σ hf nx (.fn f ts) (.func (.func f) #[] vs.toArray) :=
 .fn f _ _ (by simpa using h.1) (fun i hi=>by have:=h.2 i hi;simpa [Array.getD_eq_getD_getElem?,List.getD_eq_getElem?_getD] using this)
inductive Obj where
 | cells (ts:List T)
 | rows (sz:Nat) (rows:List (List T))
 | map (es:List (T×T))
 | rowsN (sz:Nat) (rows:List (List T)) (asg:List Nat)
inductive ObjR (σ:Nat→Option Nat) (hf:AH) (nx:Nat) (h:AH):Obj→Option Nat→List Nat→Prop
 | cells {a es:Nat} {cs:List Value} {ts:List T} (hk:h a=some (.cells es cs)) (hodd:a % 2=1) (hv:VL σ hf nx ts cs):ObjR σ hf nx h (.cells ts) (some a) [a]
 | none (sz:Nat):ObjR σ hf nx h (.rows sz []) none []
 | rows {a:Nat} {cs:List Value} {N:List Nat} {sz:Nat} {rows:List (List T)} (hk:h a=some (.cells sz cs)) (hodd:a % 2=1) (hlen:∀r∈rows,r.length=sz) (hfit:rows.length*sz≤cs.length)
   (hs:SL hf h rows.flatten (cs.take (rows.length*sz)) N):ObjR σ hf nx h (.rows sz rows) (some a) (a::N)
 | map {a:Nat} {es:List (T×T)} {ev:List (Value×Value)} (hk:h a=some (.map ev)) (hodd:a % 2=1) (h1:RL (fun _=>Option.none) (es.map (·.1)) (ev.map (·.1))) (h2:RL (fun _=>Option.none) (es.map (·.2)) (ev.map (·.2))):ObjR σ hf nx h (.map es) (some a) [a]
 | noneN (sz:Nat):ObjR σ hf nx h (.rowsN sz [] []) none []
 | rowsN {a:Nat} {cs:List Value} {N:List Nat} {sz:Nat} {rows:List (List T)} (hk:h a=some (.cells sz cs)) (hodd:a % 2=1) (hlen:∀r∈rows,r.length=sz) (hfit:rows.length*sz≤cs.length)
   (hs:SL hf h rows.flatten (cs.take (rows.length*sz)) N):ObjR σ hf nx h (.rowsN sz rows N) (some a) (a::N)
theorem ObjR.mono {σ σ':Nat→Option Nat} {hf hf':AH} {nx nx':Nat} {h h':AH} {o:Obj} {a:Option Nat} {N:List Nat} (hm:∀a o,hf a=some o→hf' a=some o) (hn:nx≤nx') (hσ:∀k,k<nx→σ' k=σ k) (hN:∀a∈N,h' a=h a) (hr:ObjR σ hf nx h o a N):ObjR σ' hf' nx' h' o a N:=by
 cases hr with
 | cells hk hodd hv=>exact .cells ((hN _ (by simp)).trans hk) hodd (hv.mono hm hn hσ)
 | none sz=>exact .none sz
 | rows hk hodd hlen hfit hs=>exact .rows ((hN _ (by simp)).trans hk) hodd hlen hfit (hs.mono hm (fun a ha=>hN a (by simp [ha])))
 | map hk hodd h1 h2=>exact .map ((hN _ (by simp)).trans hk) hodd h1 h2
 | noneN sz=>exact .noneN sz
 | rowsN hk hodd hlen hfit hs=>exact .rowsN ((hN _ (by simp)).trans hk) hodd hlen hfit (hs.mono hm (fun a ha=>hN a (by simp [ha])))
abbrev Zc := List (Nat×T)
abbrev QB := List (Nat×Option Obj)
def gE : Zc→Nat→T
 | [],_=> .any
 | (d,v)::r,t=>if t=d then v else gE r t
def gO : QB→Nat→Option Obj
 | [],_=>none
 | (d,v)::r,t=>if t=d then v else gO r t
def pE (E:Zc):Option Tmp→T→Zc
 | some d,v=>(d,v)::E
 | none,_=>E
theorem Qi1 (E:Zc) {d t:Nat} (h:(t == d)=false) (v:T):gE ((d,v)::E) t=gE E t:=by simp at h;simp [gE,h]
theorem Qly (E:QB) (d:Nat) (v:Option Obj):gO ((d,v)::E) d=v:=by simp [gO]
theorem QiT (E:QB) {d t:Nat} (h:(t == d)=false) (v:Option Obj):gO ((d,v)::E) t=gO E t:=by simp at h;simp [gO,h]
structure LB where
 h:AH
 ln:Nat→Prop
def UL (p:Nat) (h0:LB) (a:Nat):Prop:=Under p a∨h0.ln a
def QnK (p:Nat) (h0:LB) (h:AH):Prop:=∀t,h t≠none→h0.h t≠none∨UL p h0 t
structure SR (p:Nat) (h0:LB) (σ:Nat→Option Nat) (hf:AH) (own:Nat→Option Nat) (E:Zc) (O:QB) (nx:Nat) (Ea:Nat→Value) (h:AH):Prop where
 env:∀t,V σ hf nx (gE E t) (Ea t)
 obj:∀k o,gO O k=some o→k<nx∧∃N,N.Nodup∧(∀a∈N,own a=some k)∧ObjR σ hf nx h o (σ k) N
 fro:∀a o,hf a=some o→h a=some o∧own a=none
 mine:∀a k,own a=some k→UL p h0 a∧h0.h a=none∧h a≠none∧k<nx
 base:∀a,h0.h a≠none→hf a=h0.h a
 dom:QnK p h0 h
section
variable {p nx nx' : Nat} {h0 : LB} {hf hf' h h' : AH} {σ σ' own own' : Nat → Option Nat} {E E' : Zc} {O O' : QB} {Ea Ea' : Nat → Value} {t : T} {v : Value}
theorem QnQ (E:Zc) (d:Option Tmp) (t:T) (n:Nat):gE (pE E d t) n=if d=some n then t else gE E n:=by
 cases d with
 | none=>simp [pE]
 | some d =>
  simp only [pE,gE,Option.some.injEq]
  by_cases hn:n=d
  ·subst hn;simp
  ·have:¬d=n:=fun e=>hn e.symm
   simp [hn,this]
theorem QnR (he:∀t,V σ hf nx (gE E t) (Ea t)) (hv:V σ hf nx t v) (d:Option Tmp):∀n,V σ hf nx (gE (pE E d t) n) (Z3 Ea d v n):=fun n=>by
 rw [QnQ]
 cases d with
 | none=>simpa [Z3] using he n
 | some d =>
  simp only [Z3,Option.some.injEq]
  by_cases hn:d=n
  ·subst hn;simpa using hv
  ·have:¬n=d:=fun e=>hn e.symm
   simpa [hn,this] using he n
theorem SR.put (hs:SR p h0 σ hf own E O nx Ea h) (hv:V σ hf nx t v) (d:Option Tmp):SR p h0 σ hf own (pE E d t) O nx (Z3 Ea d v) h :=
 ⟨QnR hs.env hv d,hs.obj,hs.fro,hs.mine,hs.base,hs.dom⟩
theorem Qjv : V σ hf nx (.tup []) undef:= .fz (.tup [] #[] rfl (fun i hi=>by simp at hi))
theorem SR.ext (hs:SR p h0 σ hf own E O nx Ea h) (hn:nx≤nx') (hσ:∀k,k<nx→σ' k=σ k) (ho:∀a k,own a=some k→own' a=some k) (ho':∀a k,own' a=some k→own a=some k∨(UL p h0 a∧h0.h a=none∧h' a≠none∧k<nx'∧hf a=none))
  (hh:∀a,h a≠none→h' a=h a) (hd:QnK p h0 h'):SR p h0 σ' hf own' E O nx' Ea h':=by
 refine ⟨fun t=>(hs.env t).mono (fun _ _ e=>e) hn hσ,fun k o hk=> ?_,fun a o ha=> ?_,fun a k ha=> ?_,hs.base,hd⟩
 ·obtain ⟨h1,N,h2,h3,h4⟩:=hs.obj k o hk
  refine ⟨by omega,N,h2,fun a ha=>ho a k (h3 a ha),?_⟩
  rw [hσ k h1]
  exact h4.mono (fun _ _ e=>e) hn hσ (fun a ha=>hh a (hs.mine a k (h3 a ha)).2.2.1)
 ·obtain ⟨h1,h2⟩:=hs.fro a o ha
  refine ⟨(hh a (by rw [h1];simp)).trans h1,?_⟩
  cases hw:own' a with
  | none=>rfl
  | some k =>
   rcases ho' a k hw with h3 | h3
   ·rw [h2] at h3;cases h3
   ·rw [h3.2.2.2.2] at ha;cases ha
 ·rcases ho' a k ha with h3 | h3
  ·obtain ⟨g1,g2,g3,g4⟩:=hs.mine a k h3
   exact ⟨g1,g2,by rw [hh a g3];exact g3,by omega⟩
  ·exact ⟨h3.1,h3.2.1,h3.2.2.1,h3.2.2.2.1⟩
theorem SR.new {q:Nat} {z:Yn} {obj:Obj} {oa:Option Nat} {N:List Nat} (hs:SR p h0 σ hf own E O nx Ea h) (hq:UL p h0 (Qn q)) (hfr:h (Qn q)=none) (hoa:(oa=some (Qn q)∧N= [Qn q])∨(oa=none∧N= []))
    (ho:ObjR (fun k=>if k=nx then oa else σ k) hf (nx+1) (h.upd (Qn q) (some z)) obj oa N) :
    SR p h0 (fun k=>if k=nx then oa else σ k) hf (fun a=>if a∈N then some nx else own a) E ((nx,some obj)::O) (nx+1) Ea (h.upd (Qn q) (some z)):=by
  have h0n:h0.h (Qn q)=none:=by
    cases hh:h0.h (Qn q) with
    | none=>rfl
    | some o =>
      have h1:=hs.base (Qn q) (by rw [hh];simp)
      rw [hh] at h1
      rw [(hs.fro _ _ h1).1] at hfr
      cases hfr
  have hfn:hf (Qn q)=none:=by
    cases hh:hf (Qn q) with
    | none=>rfl
    | some o=>rw [(hs.fro _ _ hh).1] at hfr;cases hfr
  have hN:∀a,a∈N→a=Qn q:=fun a ha=>by
    rcases hoa with ⟨_,rfl⟩ | ⟨_,rfl⟩
    · simpa using ha
    · cases ha
  have hon:own (Qn q)=none:=by
    cases hh:own (Qn q) with
    | none=>rfl
    | some k=>exact absurd hfr (hs.mine _ _ hh).2.2.1
  have hx:=hs.ext (nx':=nx+1) (σ':=fun k=>if k=nx then oa else σ k) (own':=fun a=>if a∈N then some nx else own a) (h':=h.upd (Qn q) (some z)) (by omega) (fun k hk=>if_neg (by omega))
    (fun a k ha=>by
      have:a∉N:=fun hn=>by rw [hN a hn,hon] at ha;cases ha
      simp only [if_neg this]
      exact ha)
    (fun a k ha=>by
      split at ha
      · rename_i hn
        obtain rfl:=hN a hn
        obtain rfl:=Option.some.inj ha
        exact .inr ⟨hq,h0n,by rw [AH.upd_same];simp,by omega,hfn⟩
      · exact .inl ha)
    (fun a ha=>AH.upd_ne _ (fun e=>ha (by rw [e];exact hfr)) _)
    (fun t ht=>by
      unfold AH.upd at ht
      split at ht
      · rename_i e
        exact .inr (e▸hq)
      · exact hs.dom t ht)
  refine ⟨hx.env,fun k o hk=> ?_,hx.fro,hx.mine,hx.base,hx.dom⟩
  simp only [gO] at hk
  split at hk
  · rename_i e
    subst e
    obtain rfl:=Option.some.inj hk
    refine ⟨by omega,N,?_,fun a ha=>by simp only [if_pos ha],by simpa using ho⟩
    rcases hoa with ⟨_,rfl⟩ | ⟨_,rfl⟩<;>simp
  · exact hx.obj k o hk
end
def VEv (E:Zc) (x:Operand) (t:T):Prop:=∀(σ:Nat→Option Nat) (hf:AH) (nx:Nat) (Ea:Nat→Value),(∀t,V σ hf nx (gE E t) (Ea t))→∃v,ZS Ea x=some v∧V σ hf nx t v
def VEvs (E:Zc) (xs:List Operand) (ts:List T):Prop:=∀(σ:Nat→Option Nat) (hf:AH) (nx:Nat) (Ea:Nat→Value),(∀t,V σ hf nx (gE E t) (Ea t))→∃vs,evs Ea xs=some vs∧VL σ hf nx ts vs
theorem VEv.tmp {E:Zc} {a:Tmp} {t:T} (h:gE E a=t):VEv E (.tmp a) t:=fun σ hf nx Ea he=>⟨_,rfl,h▸he a⟩
theorem VEv.const {E:Zc} {c:Value} {t:T} (hc:closedV c=true) (h:∀hf,R hf t c):VEv E (.const c) t:=fun σ hf nx Ea he=>⟨c,by simp only [ZS,hc,if_true], .fz (h hf)⟩
theorem VEv.int {E:Zc} (k:IntKind) (n:Int):VEv E (.const (.int k n)) (.int k n):= .const Y fun _=> .int k n
theorem VEv.bool {E:Zc} (b:Bool):VEv E (.const (.bool b)) (.bool b):= .const Y fun _=> .bool b
theorem VEv.str {E:Zc} (s:ByteArray):VEv E (.const (.string s)) (.str s):= .const Y fun _=> .str s
theorem VEv.nils {E:Zc}:VEv E (.const (.slice none 0 0)) .nils:= .const Y fun _=> .nils
theorem VEv.func {E:Zc} (f:FuncId):VEv E (.func f) (.fn f []):=fun σ hf nx Ea he=>⟨_,rfl, .fz (.fn f [] #[] rfl (fun i hi=>by simp at hi))⟩
theorem VEvs.nil {E:Zc}:VEvs E [] []:=fun σ hf nx Ea he=>⟨[],rfl,VL.nil _ _ _⟩
theorem VEvs.cons {E:Zc} {x:Operand} {xs:List Operand} {t:T} {ts:List T} (h:VEv E x t) (hr:VEvs E xs ts):VEvs E (x::xs) (t::ts):=fun σ hf nx Ea he=>by
 obtain ⟨v,h1,h2⟩:=h σ hf nx Ea he
 obtain ⟨vs,h3,h4⟩:=hr σ hf nx Ea he
 exact ⟨v::vs,by simp only [evs,h1,h3], .cons h2 h4⟩
section
variable (call : QO) (P : Program)
def OF (E:Zc) (o:Oper) (t:T):Prop:=∀(p:Nat) (σ:Nat→Option Nat) (hf:AH) (nx:Nat) (Ea:Nat→Value) (h:AH),(∀t,V σ hf nx (gE E t) (Ea t))→∃v,QD call P p Ea h o=some (v,h)∧V σ hf nx t v
def OL (E:Zc) (O:QB) (o:Oper) (t:T):Prop:=∀(q p:Nat) (h0:LB) (σ:Nat→Option Nat) (hf:AH) (own:Nat→Option Nat) (nx:Nat) (Ea:Nat→Value) (h:AH),SR p h0 σ hf own E O nx Ea h→∃v,QD call P q Ea h o=some (v,h)∧V σ hf nx t v
def OM (E:Zc) (nx:Nat) (o:Oper) (t:T) (obj:Obj):Prop:=∀(q:Nat) (σ:Nat→Option Nat) (hf:AH) (Ea:Nat→Value),(∀t,V σ hf nx (gE E t) (Ea t)) →
 ∃v z oa N,(∀h,QD call P q Ea h o=some (v,h.upd (Qn q) (some z)))∧((oa=some (Qn q)∧N= [Qn q])∨(oa=none∧N= []))∧V (fun k=>if k=nx then oa else σ k) hf (nx+1) t v∧∀h:AH,ObjR (fun k=>if k=nx then oa else σ k) hf (nx+1) (h.upd (Qn q) (some z)) obj oa N
def OC (E:Zc) (O:QB) (nx:Nat) (o:Oper) (t:T) (O':QB) (nx':Nat) (ks:List Nat):Prop:=nx≤nx'∧∀(q p:Nat) (h0:LB) (σ:Nat→Option Nat) (hf:AH) (own:Nat→Option Nat) (Ea:Nat→Value) (h:AH),SR p h0 σ hf own E O nx Ea h→(∀t,Under q t→UL p h0 t)→Fr q h →
 ∃v h' σ' own',QD call P q Ea h o=some (v,h')∧Dom q h h'∧(∀k,k<nx→σ' k=σ k)∧SR p h0 σ' hf own' E O' nx' Ea h'∧V σ' hf nx' t v∧(∀a,h a≠none→(∀k∈ks,own a≠some k)→h' a=h a)∧∀a k,own' a=some k→own a=some k∨h a=none∨∃k∈ks,own a=some k
end
theorem OF.toL {call:QO} {P:Program} {E:Zc} {O:QB} {o:Oper} {t:T} (h:OF call P E o t):OL call P E O o t:=fun q p h0 σ hf own nx Ea H hs=>h q σ hf nx Ea H hs.env
section
variable (call : QO) (P : Program)
def KK (p:Nat) (h0:LB) (K:Zc→QB→Nat→Prop) (Ea:Nat→Value) (h:AH):Prop:=∃σ hf own E O nx,SR p h0 σ hf own E O nx Ea h∧K E O nx
def VRunO (ops:Array Oper) (l:List Oper) (E:Zc) (O:QB) (nx:Nat) (K:Zc→QB→Nat→Prop):Prop:=∀(p:Nat) (h0:LB) (σ:Nat→Option Nat) (hf:AH) (own:Nat→Option Nat) (Ea:Nat→Value) (h:AH) (c i:Nat),SR p h0 σ hf own E O nx Ea h →
 RunO call P p ops c l i Ea h (KK p h0 K)
def VRun (co:Code) (E:Zc) (O:QB) (nx:Nat) (Q:AX→Zc→QB→Nat→Prop):Prop:=∀(p:Nat) (h0:LB) (σ:Nat→Option Nat) (hf:AH) (own:Nat→Option Nat) (Ea:Nat→Value) (h:AH) (c:Nat),SR p h0 σ hf own E O nx Ea h →
 Run call P p co ⟨Ea,h,c⟩ (fun e s=>KK p h0 (Q e) s.E s.h)
end
def VWant (ops:Array Oper) (E:Zc) (o:Oper) (b:Bool):Prop:=∀(σ:Nat→Option Nat) (hf:AH) (nx:Nat) (Ea:Nat→Value),(∀t,V σ hf nx (gE E t) (Ea t))→Yo ops Ea o=b
theorem VWant.always {ops:Array Oper} {E:Zc} {d:Option Tmp} {op:Op} {ty:TypeId} {ps:String} {af:Array Edge}:VWant ops E ⟨d,op,ty,ps,af,none⟩ true:=fun _ _ _ _ _=>rfl
theorem V.boolInv {σ:Nat→Option Nat} {hf:AH} {nx:Nat} {b:Bool} {v:Value} (h:V σ hf nx (.bool b) v):v= .bool b:=by
 cases h with
 | fz hr=>cases hr;rfl
theorem V.intInv {σ:Nat→Option Nat} {hf:AH} {nx:Nat} {k:IntKind} {n:Int} {v:Value} (h:V σ hf nx (.int k n) v):v= .int k n:=by
 cases h with
 | fz hr=>cases hr;rfl
theorem V.strInv {σ:Nat→Option Nat} {hf:AH} {nx:Nat} {s:ByteArray} {v:Value} (h:V σ hf nx (.str s) v):v= .string s:=by
 cases h with
 | fz hr=>cases hr;rfl
theorem V.nilsInv {σ:Nat→Option Nat} {hf:AH} {nx:Nat} {v:Value} (h:V σ hf nx .nils v):v= .slice none 0 0:=by
 cases h with
 | fz hr=>cases hr;rfl
theorem VWant.guard {ops:Array Oper} {E:Zc} {d:Option Tmp} {op:Op} {ty:TypeId} {ps:String} {af:Array Edge} {j:Nat} {q:Tmp} {w b:Bool} (hd:(ops[j]?).bind (·.dst)=some q) (hq:gE E q= .bool b):VWant ops E ⟨d,op,ty,ps,af,some (j,w)⟩ (b == w):=fun σ hf nx Ea he=>by
 have h1:=he q
 rw [hq] at h1
 have h2:=h1.boolInv
 simp only [Yo,hd,h2]
theorem QaD {p j t:Nat} (h:Under (child p j) t):Under p t:=Under.child_of h
section
variable {call : QO} {P : Program} {ops : Array Oper} {o : Oper} {l : List Oper} {E : Zc} {O O' : QB} {nx nx' : Nat} {t : T} {obj : Obj} {K : Zc → QB → Nat → Prop} {Q : AX → Zc → QB → Nat → Prop} {x y : Code}
theorem VRunO.nil (hk:K E O nx):VRunO call P ops [] E O nx K:=fun p h0 σ hf own Ea h c i hs=>RunO.nil ⟨σ,hf,own,E,O,nx,hs,hk⟩
theorem VRunO.off (hw:VWant ops E o false) (hk:VRunO call P ops l (pE E o.dst (.tup [])) O nx K):VRunO call P ops (o::l) E O nx K:=fun p h0 σ hf own Ea h c i hs =>
 RunO.off Y (hw σ hf nx Ea hs.env) (hk p h0 σ hf own _ h c _ (hs.put Qjv _))
theorem VRunO.look {d:Option Tmp} {op:Op} {ty:TypeId} {ps:String} {af:Array Edge} {g:Option (Nat×Bool)} (hw:VWant ops E ⟨d,op,ty,ps,af,g⟩ true) (hx:OL call P E O ⟨d,op,ty,ps,af,g⟩ t) (hk:VRunO call P ops l (pE E d t) O nx K):VRunO call P ops (⟨d,op,ty,ps,af,g⟩::l) E O nx K:=fun p h0 σ hf own Ea h c i hs=>by
 obtain ⟨v,h1,h2⟩:=hx (child p (c+i)) p h0 σ hf own nx Ea h hs
 exact RunO.pure Y Y (hw σ hf nx Ea hs.env) h1 (hk p h0 σ hf own _ h c _ (hs.put h2 _))
theorem VRunO.free {d:Option Tmp} {op:Op} {ty:TypeId} {ps:String} {af:Array Edge} {g:Option (Nat×Bool)} (hw:VWant ops E ⟨d,op,ty,ps,af,g⟩ true) (hx:OF call P E ⟨d,op,ty,ps,af,g⟩ t) (hk:VRunO call P ops l (pE E d t) O nx K):VRunO call P ops (⟨d,op,ty,ps,af,g⟩::l) E O nx K:=VRunO.look hw hx.toL hk
theorem VRunO.make {d:Option Tmp} {op:Op} {ty:TypeId} {ps:String} {af:Array Edge} {g:Option (Nat×Bool)} (hw:VWant ops E ⟨d,op,ty,ps,af,g⟩ true) (hx:OM call P E nx ⟨d,op,ty,ps,af,g⟩ t obj) (hk:VRunO call P ops l (pE E d t) ((nx,some obj)::O) (nx+1) K):VRunO call P ops (⟨d,op,ty,ps,af,g⟩::l) E O nx K:=fun p h0 σ hf own Ea h c i hs=>by
 obtain ⟨v,z,oa,N,h1,h2,h3,h4⟩:=hx (child p (c+i)) σ hf Ea hs.env
 unfold RunO
 intro hfc
 have hn:h (Qn (child p (c+i)))=none:=hfc (c+i) _ (Nat.le_refl _) (QR _)
 have hs':=hs.new (.inl (QaD (QR _))) hn h2 (h4 h)
 have:=RunO.make (call:=call) (P:=P) (π:=p) (c:=c) (i:=i) (ops:=ops) (r:=l) (K:=KK p h0 K) Y Y (hw σ hf nx Ea hs.env) (h1 h) (hk p h0 _ hf _ _ _ c _ (hs'.put h3 d))
 unfold RunO at this
 exact this hfc
theorem VRunO.chain {d:Option Tmp} {op:Op} {ty:TypeId} {ps:String} {af:Array Edge} {g:Option (Nat×Bool)} (hw:VWant ops E ⟨d,op,ty,ps,af,g⟩ true) {ks:List Nat} (hx:OC call P E O nx ⟨d,op,ty,ps,af,g⟩ t O' nx' ks) (hk:VRunO call P ops l (pE E d t) O' nx' K):VRunO call P ops (⟨d,op,ty,ps,af,g⟩::l) E O nx K:=fun p h0 σ hf own Ea h c i hs=>by
 unfold RunO
 intro hfc
 obtain ⟨v,h',σ',own',h1,h2,h3,h4,h5,_⟩:=hx.2 (child p (c+i)) p h0 σ hf own Ea h hs (fun t ht=> .inl (QaD ht)) (FrC.fr hfc (Nat.le_refl _))
 have:=RunO.step (call:=call) (P:=P) (π:=p) (c:=c) (i:=i) (ops:=ops) (r:=l) (K:=KK p h0 K) Y Y (hw σ hf nx Ea hs.env) h1 (fun _=>h2) (fun _=>hk p h0 _ hf _ _ _ c _ (h4.put h5 d))
 unfold RunO at this
 exact this hfc
def vthn (K:Zc→QB→Nat→Prop) (Q:AX→Zc→QB→Nat→Prop):AX→Zc→QB→Nat→Prop
 | .normal=>K
 | .exit id=>Q (.exit id)
 | .ret=>Q .ret
def vinB (id:Nat) (Q:AX→Zc→QB→Nat→Prop):AX→Zc→QB→Nat→Prop
 | .normal=>Q .normal
 | .exit id'=>fun E O nx=>if id'=id then Q .normal E O nx else Q (.exit id') E O nx
 | .ret=>Q .ret
theorem VRun.skip (hq:Q .normal E O nx):VRun call P .skip E O nx Q:=fun p h0 σ hf own Ea h c hs=>Run.skip ⟨σ,hf,own,E,O,nx,hs,hq⟩
theorem VRun.ret (hq:Q .ret E O nx):VRun call P .ret E O nx Q:=fun p h0 σ hf own Ea h c hs=>Run.ret ⟨σ,hf,own,E,O,nx,hs,hq⟩
theorem VRun.exit {id:Nat} (hq:Q (.exit id) E O nx):VRun call P (.exit id) E O nx Q:=fun p h0 σ hf own Ea h c hs=>Run.exit ⟨σ,hf,own,E,O,nx,hs,hq⟩
theorem VRun.seq (hx:VRun call P x E O nx (vthn (fun E' O' nx'=>VRun call P y E' O' nx' Q) Q)):VRun call P (.seq x y) E O nx Q:=fun p h0 σ hf own Ea h c hs=>by
 refine Run.seq (Run.mono (hx p h0 σ hf own Ea h c hs) ?_)
 intro e s' hk
 cases e with
 | normal =>
  obtain ⟨σ',hf',own',E',O',nx',h1,h2⟩:=hk
  unfold thn
  exact h2 p h0 σ' hf' own' _ _ _ h1
 | exit id=>unfold thn;exact hk
 | ret=>unfold thn;exact hk
theorem VRun.block {id:Nat} (hx:VRun call P x E O nx (vinB id Q)):VRun call P (.block id x) E O nx Q:=fun p h0 σ hf own Ea h c hs=>by
 refine Run.block (Run.mono (hx p h0 σ hf own Ea h c hs) ?_)
 rintro e s' ⟨σ',hf',own',E',O',nx',h1,h2⟩
 cases e with
 | normal=>exact inB.n ⟨σ',hf',own',E',O',nx',h1,h2⟩
 | ret=>exact inB.r ⟨σ',hf',own',E',O',nx',h1,h2⟩
 | exit id' =>
  simp only [vinB] at h2
  unfold inB
  split at h2
  ·rename_i e
   simp only [if_pos e]
   exact ⟨σ',hf',own',E',O',nx',h1,h2⟩
  ·rename_i e
   simp only [if_neg e]
   exact ⟨σ',hf',own',E',O',nx',h1,h2⟩
theorem VRun.cond {k:Operand} {b:Bool} (hb:VEv E k (.bool b)) (ht:b=true→VRun call P x E O nx Q) (hf:b=false→VRun call P y E O nx Q):VRun call P (.cond k x y) E O nx Q:=fun p h0 σ hf' own Ea h c hs=>by
 obtain ⟨v,h1,h2⟩:=hb σ hf' nx Ea hs.env
 obtain rfl:=h2.boolInv
 exact Run.cond h1 (fun e=>ht e p h0 σ hf' own Ea h c hs) (fun e=>hf e p h0 σ hf' own Ea h c hs)
theorem VRun.region {id:Nat} (hx:VRunO call P ops ops.toList E O nx (Q .normal)):VRun call P (.region id ops false) E O nx Q:=fun p h0 σ hf own Ea h c hs=>Run.region Y (hx p h0 σ hf own Ea h c 0 hs)
def Wk (E:Zc) (O:QB) (nx:Nat) (E':Zc) (O':QB) (nx':Nat):Prop:=∀(p:Nat) (h0:LB) (σ:Nat→Option Nat) (hf:AH) (own:Nat→Option Nat) (Ea:Nat→Value) (h:AH),SR p h0 σ hf own E O nx Ea h→∃σ' hf' own',SR p h0 σ' hf' own' E' O' nx' Ea h
theorem VRun.wk {E':Zc} {O':QB} (hw:Wk E O nx E' O' nx') (hx:VRun call P x E' O' nx' Q):VRun call P x E O nx Q:=fun p h0 σ hf own Ea h c hs=>by
 obtain ⟨σ',hf',own',hs'⟩:=hw p h0 σ hf own Ea h hs
 exact hx p h0 σ' hf' own' Ea h c hs'
theorem VRun.meetK {A:Type} {y:Code} (LE:A→Zc) (LO:A→QB) (ln:Nat) (Φ:A→Prop) (hx:VRun call P x E O nx (vthn (fun E' O' nx'=>∃b,Φ b∧True∧Wk E' O' nx' (LE b) (LO b) ln) Q)) (hy:∀a,Φ a→VRun call P y (LE a) (LO a) ln Q):VRun call P x E O nx (vthn (fun E' O' nx'=>VRun call P y E' O' nx' Q) Q):=by
 intro p h0 σ hf own Ea h c hs
 refine Run.mono (hx p h0 σ hf own Ea h c hs) ?_
 rintro e s' ⟨σ',hf',own',E',O',nx',h1,h2⟩
 refine ⟨σ',hf',own',E',O',nx',h1,?_⟩
 cases e with
 | normal =>
  obtain ⟨b,hb,_,hw⟩:=h2
  exact VRun.wk hw (hy b hb)
 | exit id=>exact h2
 | ret=>exact h2
theorem VRun.loop {A:Type} (LE:A→Zc) (LO:A→QB) (ln:Nat) (Φ:A→Prop) (μ:A→Nat) (a0:A) (h0':Φ a0) (hw:Wk E O nx (LE a0) (LO a0) ln)
  (hb:∀a,Φ a→VRun call P x (LE a) (LO a) ln (vthn (fun E' O' nx'=>∃b,Φ b∧μ b<μ a∧Wk E' O' nx' (LE b) (LO b) ln) Q)):VRun call P (.loop x) E O nx Q:=fun p h0 σ hf own Ea h c hs=>by
 obtain ⟨σ',hf',own',hs'⟩:=hw p h0 σ hf own Ea h hs
 refine Run.loop (fun m Ea h c=>∃a σ hf own,m=μ a∧Φ a∧SR p h0 σ hf own (LE a) (LO a) ln Ea h) (μ a0) ⟨a0,σ',hf',own',rfl,h0',hs'⟩ ?_
 rintro m Ea h c ⟨a,σ,hf,own,rfl,h1,h2⟩ _
 refine Run.mono (hb a h1 p h0 σ hf own Ea h c h2) ?_
 rintro e s' ⟨σ',hf',own',E',O',nx',h3,h4⟩
 cases e with
 | normal =>
  obtain ⟨b,h5,h6,h7⟩:=h4
  obtain ⟨σ2,hf2,own2,h8⟩:=h7 p h0 σ' hf' own' _ _ h3
  exact thn.n ⟨μ b,h6,b,σ2,hf2,own2,rfl,h5,h8⟩
 | exit id=>exact thn.e ⟨σ',hf',own',E',O',nx',h3,h4⟩
 | ret=>exact thn.r ⟨σ',hf',own',E',O',nx',h3,h4⟩
end
attribute [irreducible] VRun VRunO
def Qg0 (cond:Nat→Bool):List (Nat×Nat×Obj)→QB→QB
 | [],O=>O
 | x::r,O=>if cond x.1 then (x.2.1,some x.2.2)::Qg0 cond r O else Qg0 cond r O
inductive AlR (p c:Nat) (σ:Nat→Option Nat) (hf:AH) (nx:Nat):List (Nat×Nat×Obj)→List (Nat×Yn)→Prop
 | nil:AlR p c σ hf nx [] []
 | cons {i k:Nat} {obj:Obj} {z:Yn} {N:List Nat} {al:List (Nat×Nat×Obj)} {ala:List (Nat×Yn)} (hk:k<nx) (ho:(σ k=some (Qn (child p (c+i)))∧N= [Qn (child p (c+i))])∨(σ k=none∧N= []))
   (hr:∀h:AH,ObjR σ hf nx (h.upd (Qn (child p (c+i))) (some z)) obj (σ k) N) (r:AlR p c σ hf nx al ala):AlR p c σ hf nx ((i,k,obj)::al) ((i,z)::ala)
theorem AlR.mono {p c nx nx':Nat} {σ σ':Nat→Option Nat} {hf:AH} (hn:nx≤nx') (hσ:∀k,k<nx→σ' k=σ k) {al:List (Nat×Nat×Obj)} {ala:List (Nat×Yn)} (h:AlR p c σ hf nx al ala):AlR p c σ' hf nx' al ala:=by
 induction h with
 | nil=>exact .nil
 | cons hk ho hr _ ih =>
  refine .cons (by omega) (by rw [hσ _ hk];exact ho) (fun h=> ?_) ih
  rw [hσ _ hk]
  exact (hr h).mono (fun _ _ e=>e) hn hσ (fun _ _=>rfl)
theorem AlR.snoc {p c nx i k:Nat} {σ:Nat→Option Nat} {hf:AH} {obj:Obj} {z:Yn} {N:List Nat} (hk:k<nx) (ho:(σ k=some (Qn (child p (c+i)))∧N= [Qn (child p (c+i))])∨(σ k=none∧N= []))
  (hr:∀h:AH,ObjR σ hf nx (h.upd (Qn (child p (c+i))) (some z)) obj (σ k) N) {al:List (Nat×Nat×Obj)} {ala:List (Nat×Yn)} (h:AlR p c σ hf nx al ala):AlR p c σ hf nx (al++ [(i,k,obj)]) (ala++ [(i,z)]):=by
 induction h with
 | nil=>exact .cons hk ho hr .nil
 | cons hk2 ho2 hr2 _ ih=>exact .cons hk2 ho2 hr2 ih
theorem AlR.idx {p c nx:Nat} {σ:Nat→Option Nat} {hf:AH} {al:List (Nat×Nat×Obj)} {ala:List (Nat×Yn)} (h:AlR p c σ hf nx al ala):ala.map (·.1)=al.map (·.1):=by
 induction h with
 | nil=>rfl
 | cons _ _ _ _ ih=>simp only [List.map_cons,ih]
section
variable {p nx nx' c : Nat} {h0 : LB} {hf h h' C base : AH} {σ σ' own own' ownb : Nat → Option Nat} {E E' : Zc} {O O' Ob : QB} {Ea : Nat → Value} {t : T} {v : Value}
theorem SR.add {tk k:Nat} {z:Yn} {obj:Obj} {N:List Nat} (hs:SR p h0 σ hf own E O nx Ea h) (hq:UL p h0 tk) (hfr:h tk=none) (hk:k<nx) (hoa:(σ k=some tk∧N= [tk])∨(σ k=none∧N= []))
  (ho:ObjR σ hf nx (h.upd tk (some z)) obj (σ k) N):SR p h0 σ hf (fun a=>if a∈N then some k else own a) E ((k,some obj)::O) nx Ea (h.upd tk (some z)):=by
 have h0n:h0.h tk=none:=by
  cases hh:h0.h tk with
  | none=>rfl
  | some o =>
   have h1:=hs.base tk (by rw [hh];simp)
   rw [hh] at h1
   rw [(hs.fro _ _ h1).1] at hfr
   cases hfr
 have hfn:hf tk=none:=by
  cases hh:hf tk with
  | none=>rfl
  | some o=>rw [(hs.fro _ _ hh).1] at hfr;cases hfr
 have hN:∀a,a∈N→a=tk:=fun a ha=>by
  rcases hoa with ⟨_,rfl⟩ | ⟨_,rfl⟩
  ·simpa using ha
  ·cases ha
 have hon:own tk=none:=by
  cases hh:own tk with
  | none=>rfl
  | some k=>exact absurd hfr (hs.mine _ _ hh).2.2.1
 have hx:=hs.ext (nx':=nx) (σ':=σ) (own':=fun a=>if a∈N then some k else own a) (h':=h.upd tk (some z)) (Nat.le_refl _) (fun k hk=>rfl)
  (fun a k ha=>by
   have:a∉N:=fun hn=>by rw [hN a hn,hon] at ha;cases ha
   simp only [if_neg this]
   exact ha)
  (fun a k' ha=>by
   split at ha
   ·rename_i hn
    obtain rfl:=hN a hn
    obtain rfl:=Option.some.inj ha
    exact .inr ⟨hq,h0n,by rw [AH.upd_same];simp,hk,hfn⟩
   ·exact .inl ha)
  (fun a ha=>AH.upd_ne _ (fun e=>ha (by rw [e];exact hfr)) _)
  (fun t ht=>by
   unfold AH.upd at ht
   split at ht
   ·rename_i e
    exact .inr (e▸hq)
   ·exact hs.dom t ht)
 refine ⟨hx.env,fun k' o hk'=> ?_,hx.fro,hx.mine,hx.base,hx.dom⟩
 simp only [gO] at hk'
 split at hk'
 ·rename_i e
  subst e
  obtain rfl:=Option.some.inj hk'
  refine ⟨hk,N,?_,fun a ha=>by simp only [if_pos ha],ho⟩
  rcases hoa with ⟨_,rfl⟩ | ⟨_,rfl⟩<;>simp
 ·exact hx.obj k' o hk'
theorem Qmg {p c i j:Nat} (h:i≠j):Qn (child p (c+i))≠Qn (child p (c+j)):=fun e=>by
 have:=(Ju (Ju e).1).2
 omega
theorem SR.lay (cond:Nat→Bool) {al:List (Nat×Nat×Obj)} {ala:List (Nat×Yn)} (hs:SR p h0 σ hf own E O nx Ea C) (ha:AlR p c σ hf nx al ala) (hfr:∀x∈al,cond x.1=true→C (Qn (child p (c+x.1)))=none) (hnd:(al.map (·.1)).Nodup) :
  (∃own',SR p h0 σ hf own' E (Qg0 cond al O) nx Ea (AE.lay p c cond ala C)∧∀a k,own' a=some k→own a=some k∨C a=none)∧(∀t,C t≠none→AE.lay p c cond ala C t=C t)∧∀j,(∀x∈al,cond x.1=true→x.1≠j)→AE.lay p c cond ala C (Qn (child p (c+j)))=C (Qn (child p (c+j))):=by
 induction ha with
 | nil=>exact ⟨⟨own,hs,fun _ _ e=> .inl e⟩,fun _ _=>rfl,fun _ _=>rfl⟩
 | @cons i k obj z N al ala hk ho hr _ ih =>
  simp only [List.map_cons,List.nodup_cons] at hnd
  obtain ⟨⟨own1,ih1,ih4⟩,ih2,ih3⟩:=ih (fun x hx=>hfr x (by simp [hx])) hnd.2
  simp only [AE.lay,Qg0]
  by_cases hc:cond i=true
  ·rw [if_pos hc,if_pos hc]
   have hne:∀x∈al,cond x.1=true→x.1≠i:=fun x hx _ e=>hnd.1 (by rw [← e];exact List.mem_map_of_mem hx)
   have h1:AE.lay p c cond ala C (Qn (child p (c+i)))=none:=(ih3 i hne).trans (hfr (i,k,obj) (by simp) hc)
   refine ⟨⟨_,ih1.add (.inl (Under.child_of (QR _))) h1 hk ho (hr _),fun a k' ha=> ?_⟩,fun t ht=> ?_,fun j hj=> ?_⟩
   ·split at ha
    ·rename_i hm
     refine .inr ?_
     rcases ho with ⟨_,rfl⟩ | ⟨_,rfl⟩
     ·obtain rfl:=List.mem_singleton.1 hm
      exact hfr (i,k,obj) (by simp) hc
     ·cases hm
    ·exact ih4 a k' ha
   ·rw [AH.upd_ne _ (fun e=>by rw [e,hfr (i,k,obj) (by simp) hc] at ht;exact ht Y)]
    exact ih2 t ht
   ·have hij:i≠j:=hj (i,k,obj) (by simp) hc
    rw [AH.upd_ne _ (Ne.symm (Qmg hij))]
    exact ih3 j (fun x hx=>hj x (by simp [hx]))
  ·rw [if_neg hc,if_neg hc]
   exact ⟨⟨own1,ih1,ih4⟩,ih2,fun j hj=>ih3 j (fun x hx=>hj x (by simp [hx]))⟩
end
structure SRD (p c:Nat) (h0:LB) (σ:Nat→Option Nat) (hf:AH) (own ownb:Nat→Option Nat) (E:Zc) (O Ob:QB) (nx nb:Nat) (q:Bool) (al:List (Nat×Nat×Obj)) (fl:List Nat) (Ea:Nat→Value) (base C:AH) (ala:List (Nat×Yn)):Prop where
 cur:SR p h0 σ hf own E O nx Ea C
 bas:SR p h0 σ hf ownb E Ob nx Ea base
 qui:q=true→Quiet base C∧∀a k,base a≠none→own a=some k→k<nb
 nbx:nb≤nx
 alr:AlR p c σ hf nx al ala
 fre:∀x∈al,fl.contains x.1=false→C (Qn (child p (c+x.1)))=none
 idx:(al.map (·.1)).Nodup
section
variable (call : QO) (P : Program)
def VRunD (ops:Array Oper) (B:List (List Nat)) (l:List Oper) (i:Nat) (E:Zc) (O Ob:QB) (nx nb:Nat) (q:Bool) (al:List (Nat×Nat×Obj)) (fl:List Nat) (K:Zc→QB→Nat→Prop):Prop :=
 ∀(p c:Nat) (h0:LB) (σ:Nat→Option Nat) (hf:AH) (own ownb:Nat→Option Nat) (Ea:Nat→Value) (base C:AH) (ala:List (Nat×Yn)),SRD p c h0 σ hf own ownb E O Ob nx nb q al fl Ea base C ala →
  RunD call P p c ops B base l i Ea C ala fl (fun E' C' al' fl'=>KK p h0 K E' (AE.lay p c (fun a=> !fl'.contains a) al' C'))
end
section
variable {call : QO} {P : Program} {ops : Array Oper} {B : List (List Nat)} {o : Oper} {l : List Oper} {E : Zc} {O O' Ob OL1 : QB} {nx nx' nb i i' : Nat} {q : Bool} {al : List (Nat × Nat × Obj)} {fl bi : List Nat} {t : T} {obj : Obj} {K : Zc → QB → Nat → Prop}
theorem SRD.put {p c:Nat} {h0:LB} {hf base C:AH} {σ own ownb:Nat→Option Nat} {Ea:Nat→Value} {ala:List (Nat×Yn)} {v:Value} (hs:SRD p c h0 σ hf own ownb E O Ob nx nb q al fl Ea base C ala) (hv:V σ hf nx t v) (d:Option Tmp):SRD p c h0 σ hf own ownb (pE E d t) O Ob nx nb q al fl (Z3 Ea d v) base C ala :=
 ⟨hs.cur.put hv d,hs.bas.put hv d,hs.qui,hs.nbx,hs.alr,hs.fre,hs.idx⟩
theorem VRunD.nil (hk:K E (Qg0 (fun a=> !fl.contains a) al O) nx):VRunD call P ops B [] i E O Ob nx nb q al fl K:=fun p c h0 σ hf own ownb Ea base C ala hs=>by
 obtain ⟨⟨own',h1,_⟩,_⟩:=hs.cur.lay (fun a=> !fl.contains a) hs.alr (fun x hx hc=>hs.fre x hx (by simpa using hc)) hs.idx
 exact RunD.nil ⟨σ,hf,own',E,_,nx,h1,hk⟩
theorem VRunD.off (hi:i+1=i') (hw:VWant ops E o false) (hk:VRunD call P ops B l i' (pE E o.dst (.tup [])) O Ob nx nb q al fl K):VRunD call P ops B (o::l) i E O Ob nx nb q al fl K:=fun p c h0 σ hf own ownb Ea base C ala hs =>
 RunD.off hi (hw σ hf nx Ea hs.cur.env) (hk p c h0 σ hf own ownb _ base C ala (hs.put Qjv _))
theorem VRunD.free {d:Option Tmp} {op:Op} {ty:TypeId} {ps:String} {af:Array Edge} {g:Option (Nat×Bool)} (hi:i+1=i') (hw:VWant ops E ⟨d,op,ty,ps,af,g⟩ true) (hc:cls P op= .free) (hx:OF call P E ⟨d,op,ty,ps,af,g⟩ t) (hk:VRunD call P ops B l i' (pE E d t) O Ob nx nb q al fl K) :
  VRunD call P ops B (⟨d,op,ty,ps,af,g⟩::l) i E O Ob nx nb q al fl K:=fun p c h0 σ hf own ownb Ea base C ala hs=>by
 obtain ⟨v,h1,h2⟩:=hx (child p (c+i)) σ hf nx Ea (fun _=>none) hs.cur.env
 exact RunD.pure hi Y (hw σ hf nx Ea hs.cur.env) hc h1 (hk p c h0 σ hf own ownb _ base C ala (hs.put h2 _))
theorem VRunD.look {d:Option Tmp} {op:Op} {ty:TypeId} {ps:String} {af:Array Edge} {g:Option (Nat×Bool)} (hi:i+1=i') (hw:VWant ops E ⟨d,op,ty,ps,af,g⟩ true) (hc:cls P op= .look) (hx:OL call P E Ob ⟨d,op,ty,ps,af,g⟩ t) (hk:VRunD call P ops B l i' (pE E d t) O Ob nx nb q al fl K) :
  VRunD call P ops B (⟨d,op,ty,ps,af,g⟩::l) i E O Ob nx nb q al fl K:=fun p c h0 σ hf own ownb Ea base C ala hs=>by
 obtain ⟨v,h1,h2⟩:=hx (child p (c+i)) p h0 σ hf ownb nx Ea base hs.bas
 exact RunD.look hi Y (hw σ hf nx Ea hs.cur.env) hc h1 (hk p c h0 σ hf own ownb _ base C ala (hs.put h2 _))
theorem VRunD.make {d:Option Tmp} {op:Op} {ty:TypeId} {ps:String} {af:Array Edge} {g:Option (Nat×Bool)} (hi:i+1=i') (hw:VWant ops E ⟨d,op,ty,ps,af,g⟩ true) (hc:cls P op= .free) (hx:OM call P E nx ⟨d,op,ty,ps,af,g⟩ t obj) (hk:VRunD call P ops B l i' (pE E d t) O Ob (nx+1) nb q (al++ [(i,nx,obj)]) fl K) :
  VRunD call P ops B (⟨d,op,ty,ps,af,g⟩::l) i E O Ob nx nb q al fl K:=fun p c h0 σ hf own ownb Ea base C ala hs=>by
 obtain ⟨v,z,oa,N,h1,h2,h3,h4⟩:=hx (child p (c+i)) σ hf Ea hs.cur.env
 unfold RunD
 intro hfc hlt
 have hnC:C (Qn (child p (c+i)))=none:=hfc (c+i) _ (Nat.le_refl _) (QR _)
 have hσ:∀k,k<nx→(fun k=>if k=nx then oa else σ k) k=σ k:=fun k hk=>if_neg (by omega)
 have hlt':∀x∈al,x.1<i:=fun x hx=>by
  have:x.1∈ala.map (·.1):=by rw [hs.alr.idx];exact List.mem_map_of_mem hx
  obtain ⟨y,hy,e⟩:=List.mem_map.1 this
  rw [← e];exact hlt y hy
 have hcur:=hs.cur.ext (nx':=nx+1) (σ':=fun k=>if k=nx then oa else σ k) (own':=own) (h':=C) (by omega) hσ (fun _ _ e=>e) (fun _ _ e=> .inl e) (fun _ _=>rfl) hs.cur.dom
 have hbas:=hs.bas.ext (nx':=nx+1) (σ':=fun k=>if k=nx then oa else σ k) (own':=ownb) (h':=base) (by omega) hσ (fun _ _ e=>e) (fun _ _ e=> .inl e) (fun _ _=>rfl) hs.bas.dom
 have hnew:SRD p c h0 (fun k=>if k=nx then oa else σ k) hf own ownb E O Ob (nx+1) nb q (al++ [(i,nx,obj)]) fl Ea base C (ala++ [(i,z)]):=by
  refine ⟨hcur,hbas,hs.qui,Nat.le_succ_of_le hs.nbx,(hs.alr.mono (by omega) hσ).snoc (N:=N) (by omega) ?_ ?_,fun x hx hn=> ?_,?_⟩
  ·simpa using h2
  ·simpa using h4
  ·rcases List.mem_append.1 hx with h5 | h5
   ·exact hs.fre x h5 hn
   ·obtain rfl:=List.mem_singleton.1 h5
    exact hnC
  ·rw [List.map_append,List.nodup_append]
   refine ⟨hs.idx,by simp,fun a ha b hb=> ?_⟩
   obtain ⟨x,hx,rfl⟩:=List.mem_map.1 ha
   obtain rfl:b=i:=by simpa using hb
   have:=hlt' x hx
   omega
 have:=RunD.make (call:=call) (P:=P) (π:=p) (c:=c) (i:=i) (ops:=ops) (B:=B) (base:=base) (r:=l) (fl:=fl) (C:=C) (al:=ala) (D:=fun E' C' al' fl'=>KK p h0 K E' (AE.lay p c (fun a=> !fl'.contains a) al' C')) hi Y (hw σ hf nx Ea hs.cur.env) hc (h1 _)
  (hk p c h0 _ hf own ownb _ base C _ (hnew.put h3 d))
 unfold RunD at this
 exact this hfc hlt
theorem SRD.laid {p c:Nat} {h0:LB} {hf base C:AH} {σ own ownb:Nat→Option Nat} {Ea:Nat→Value} {ala:List (Nat×Yn)} (hs:SRD p c h0 σ hf own ownb E O Ob nx nb q al fl Ea base C ala) (bi:List Nat) :
  (∃own',SR p h0 σ hf own' E (Qg0 (fun a=>bi.contains a && !fl.contains a) al O) nx Ea (AE.lay p c (fun a=>bi.contains a && !fl.contains a) ala C)∧∀a k,own' a=some k→own a=some k∨C a=none)∧(∀t,C t≠none→AE.lay p c (fun a=>bi.contains a && !fl.contains a) ala C t=C t) ∧
   ∀j,(∀x∈al,(bi.contains x.1 && !fl.contains x.1)=true→x.1≠j)→AE.lay p c (fun a=>bi.contains a && !fl.contains a) ala C (Qn (child p (c+j)))=C (Qn (child p (c+j))) :=
 hs.cur.lay (fun a=>bi.contains a && !fl.contains a) hs.alr (fun x hx hc=>hs.fre x hx (by simp only [Bool.and_eq_true,Bool.not_eq_true'] at hc;exact hc.2)) hs.idx
theorem VRunD.chainX {d:Option Tmp} {op:Op} {ty:TypeId} {ps:String} {af:Array Edge} {g:Option (Nat×Bool)} {q':Bool} {ks:List Nat} (hi:i+1=i') (hw:VWant ops E ⟨d,op,ty,ps,af,g⟩ true) (hc:cls P op= .chain) (hb:B.getD i []=bi) (hl:Qg0 (fun a=>bi.contains a && !fl.contains a) al O=OL1)
  (hx:(Qbt P ops bi=true∧q'=false)∨(q=true∧q'=true∧∀k∈ks,nb≤k)) (hop:OC call P E OL1 nx ⟨d,op,ty,ps,af,g⟩ t O' nx' ks) (hk:VRunD call P ops B l i' (pE E d t) O' Ob nx' nb q' al (bi++fl) K) :
  VRunD call P ops B (⟨d,op,ty,ps,af,g⟩::l) i E O Ob nx nb q al fl K:=fun p c h0 σ hf own ownb Ea base C ala hs=>by
 subst hl
 unfold RunD
 intro hfc hlt
 obtain ⟨⟨own1,g1,g4⟩,g2,g3⟩:=hs.laid bi
 have hlt':∀x∈al,x.1<i:=fun x hx=>by
  have:x.1∈ala.map (·.1):=by rw [hs.alr.idx];exact List.mem_map_of_mem hx
  obtain ⟨y,hy,e⟩:=List.mem_map.1 this
  rw [← e];exact hlt y hy
 have hfl:FrC p (c+i) (AE.lay p c (fun a=>bi.contains a && !fl.contains a) ala C):=QjN hfc hlt
 have hfr:Fr (child p (c+i)) (AE.lay p c (fun a=>bi.contains a && !fl.contains a) ala C):=FrC.fr hfl (Nat.le_refl _)
 have hnn:=hop.1
 obtain ⟨v,h',σ',own',a1,a2,a3,a4,a5,a6,a7⟩:=hop.2 (child p (c+i)) p h0 σ hf own1 Ea _ g1 (fun t ht=> .inl (QaD ht)) hfr
 have hq:(Qbt P ops bi=true∧q'=false)∨(Quiet base h'∧∀a k,base a≠none→own' a=some k→k<nb):=by
  rcases hx with hx | ⟨x1,x2,x3⟩
  ·exact .inl hx
  ·obtain ⟨y1,y2⟩:=hs.qui x1
   have y3:∀u,base u≠none→C u≠none:=fun u hu=>by rw [y1 u hu];exact hu
   have y4:∀u k,base u≠none→own1 u=some k→k<nb:=fun u k hu hk1=>by
    rcases g4 u k hk1 with e | e
    ·exact y2 u k hu e
    ·exact absurd e (y3 u hu)
   refine .inr ⟨fun u hu=> ?_,fun u k hu hk1=> ?_⟩
   ·have e2:=g2 u (y3 u hu)
    rw [a6 u (by rw [e2];exact y3 u hu) (fun k hk2 e=>by have:=y4 u k hu e;have:=x3 k hk2;omega),e2,y1 u hu]
   ·rcases a7 u k hk1 with e | e | ⟨k2,hk2,e⟩
    ·exact y4 u k hu e
    ·rw [g2 u (y3 u hu)] at e
     exact absurd e (y3 u hu)
    ·have:=y4 u k2 hu e
     have:=x3 k2 hk2
     omega
 have hnew:SRD p c h0 σ' hf own' ownb E O' Ob nx' nb q' al (bi++fl) Ea base h' ala:=by
  refine ⟨a4,hs.bas.ext hnn a3 (fun _ _ e=>e) (fun _ _ e=> .inl e) (fun _ _=>rfl) hs.bas.dom,fun e=> ?_,Nat.le_trans hs.nbx hnn,hs.alr.mono hnn a3,fun x hx hn=> ?_,hs.idx⟩
  ·rcases hq with ⟨_,hq⟩ | hq
   ·rw [hq] at e;cases e
   ·exact hq
  ·rw [List.contains_eq_any_beq,List.any_append,Bool.or_eq_false_iff,← List.contains_eq_any_beq,← List.contains_eq_any_beq] at hn
   have e1:AE.lay p c (fun a=>bi.contains a && !fl.contains a) ala C (Qn (child p (c+x.1)))=none:=by
    rw [g3 x.1 (fun y hy hcy e=> ?_)]
    ·exact hs.fre x hx hn.2
    ·rw [e,hn.1] at hcy
     cases hcy
   cases hh:h' (Qn (child p (c+x.1))) with
   | none=>rfl
   | some z =>
    rcases a2 _ (by rw [hh];simp) with h5 | h5
    ·exact absurd e1 h5
    ·have h6:=Under.apart (QR (child p (c+x.1))) h5
     have:=hlt' x hx
     omega
 have:=RunD.chain (call:=call) (P:=P) (π:=p) (c:=c) (i:=i) (ops:=ops) (B:=B) (base:=base) (r:=l) (fl:=fl) (C:=C) (al:=ala) (D:=fun E' C' al' fl'=>KK p h0 K E' (AE.lay p c (fun a=> !fl'.contains a) al' C')) hi Y (hw σ hf nx Ea hs.cur.env) hc hb Y a1
  (hq.imp (fun e=>e.1) (fun e=>e.1)) (fun _=>a2) (fun _=>hk p c h0 σ' hf own' ownb _ base h' ala (hnew.put a5 d))
 unfold RunD at this
 exact this hfc hlt
theorem VRunD.chain {d:Option Tmp} {op:Op} {ty:TypeId} {ps:String} {af:Array Edge} {g:Option (Nat×Bool)} {ks:List Nat} (hi:i+1=i') (hw:VWant ops E ⟨d,op,ty,ps,af,g⟩ true) (hc:cls P op= .chain) (hb:B.getD i []=bi) (hl:Qg0 (fun a=>bi.contains a && !fl.contains a) al O=OL1)
  (ha:Qbt P ops bi=true) (hx:OC call P E OL1 nx ⟨d,op,ty,ps,af,g⟩ t O' nx' ks) (hk:VRunD call P ops B l i' (pE E d t) O' Ob nx' nb false al (bi++fl) K) :
  VRunD call P ops B (⟨d,op,ty,ps,af,g⟩::l) i E O Ob nx nb q al fl K:=VRunD.chainX hi hw hc hb hl (.inl ⟨ha,rfl⟩) hx hk
theorem VRunD.quiet {d:Option Tmp} {op:Op} {ty:TypeId} {ps:String} {af:Array Edge} {g:Option (Nat×Bool)} {ks:List Nat} (hi:i+1=i') (hw:VWant ops E ⟨d,op,ty,ps,af,g⟩ true) (hc:cls P op= .chain) (hb:B.getD i []=bi) (hl:Qg0 (fun a=>bi.contains a && !fl.contains a) al O=OL1)
  (hn:∀k∈ks,nb≤k) (hx:OC call P E OL1 nx ⟨d,op,ty,ps,af,g⟩ t O' nx' ks) (hk:VRunD call P ops B l i' (pE E d t) O' Ob nx' nb true al (bi++fl) K) :
  VRunD call P ops B (⟨d,op,ty,ps,af,g⟩::l) i E O Ob nx nb true al fl K:=VRunD.chainX hi hw hc hb hl (.inr ⟨rfl,rfl,hn⟩) hx hk
def QfL : T→Bool
 | .any | .op _ _ | .orp _ _ _ _ | .rp _ | .vp _=>false
 | _=>true
theorem Qj2 {σ:Nat→Option Nat} {hf:AH} {nx:Nat} {t:T} {v:Value} (h:V σ hf nx t v) (hn:QfL t=true) (a:Addr):v≠ .pointer (some a):=by
 cases h with
 | any v=>cases hn
 | fz hr=>cases hr<;>first | (simp [QfL] at hn;done) | (intro e;cases e)
 | _=>first | (simp [QfL] at hn;done) | (intro e;cases e)
theorem Qja {Ea:Nat→Value} {ops:Array Oper} {h:AH} {σ:Nat→Option Nat} {hf:AH} {nx:Nat} (he:∀t,V σ hf nx (gE E t) (Ea t)) (hn:(Qfm ops).all (fun a=>QfL (gE E a))=true):QcQ Ea ops h=h:=by
 funext t
 unfold QcQ
 rw [if_neg]
 rintro ⟨a,ha,e⟩
 exact Qj2 (he a) (List.all_eq_true.1 hn a ha) _ e
theorem VRun.draw {id:Nat} {Q:AX→Zc→QB→Nat→Prop} (hB:Qlx ops.toList []=B) (hok:okD P ops B=true) (hn:(Qfm ops).all (fun a=>QfL (gE E a))=true) (hx:VRunD call P ops B ops.toList 0 E O O nx nx true [] [] (Q .normal)):VRun call P (.region id ops true) E O nx Q:=by
 unfold VRun
 intro p h0 σ hf own Ea h c hs
 refine Run.draw Y hB hok ?_
 rw [Qja hs.env hn]
 exact hx p c h0 σ hf own own Ea h h [] ⟨hs,hs,fun _=>⟨fun t _=>rfl,fun a k _ e=>(hs.mine a k e).2.2.2⟩,Nat.le_refl _, .nil,fun x hx=>(by cases hx),(by simp)⟩
end
attribute [irreducible] VRunD
section
variable {call : QO} {P : Program} {E : Zc} {O : QB} {d : Option Tmp} {ty tt s e : TypeId} {ps : String} {af : Array Edge} {g : Option (Nat × Bool)} {x y z : Operand} {t u w : T} {nx : Nat}
theorem OF.move (hx:VEv E x t):OF call P E ⟨d, .move x,ty,ps,af,g⟩ t:=fun p σ hf nx Ea h he=>by
 obtain ⟨v,h1,h2⟩:=hx σ hf nx Ea he
 exact ⟨v,X.move h1,h2⟩
theorem OF.assign (hx:VEv E x t):OF call P E ⟨d, .assign x,ty,ps,af,g⟩ t:=fun p σ hf nx Ea h he=>by
 obtain ⟨v,h1,h2⟩:=hx σ hf nx Ea he
 exact ⟨v,X.assign h1,h2⟩
theorem OF.pickT (hc:VEv E x (.bool true)) (hy:VEv E y t):OF call P E ⟨d, .pick x y z,ty,ps,af,g⟩ t:=fun p σ hf nx Ea h he=>by
 obtain ⟨v,h1,h2⟩:=hc σ hf nx Ea he
 obtain ⟨v',h3,h4⟩:=hy σ hf nx Ea he
 obtain rfl:=h2.boolInv
 exact ⟨v',X.pickT h1 h3,h4⟩
theorem OF.pickF (hc:VEv E x (.bool false)) (hz:VEv E z t):OF call P E ⟨d, .pick x y z,ty,ps,af,g⟩ t:=fun p σ hf nx Ea h he=>by
 obtain ⟨v,h1,h2⟩:=hc σ hf nx Ea he
 obtain ⟨v',h3,h4⟩:=hz σ hf nx Ea he
 obtain rfl:=h2.boolInv
 exact ⟨v',X.pickF h1 h3,h4⟩
inductive Sv : T→Value→Prop
 | bool (b:Bool):Sv (.bool b) (.bool b)
 | int (k:IntKind) (n:Int):Sv (.int k n) (.int k n)
 | str (s:ByteArray):Sv (.str s) (.string s)
 | ptr0:Sv .ptr0 (.pointer none)
 | nils:Sv .nils (.slice none 0 0)
 | fn0:Sv .fn0 .nilFunc
theorem Sv.R {t:T} {v:Value} (h:Sv t v) (hf:AH):AE.R hf t v:=by
 cases h
 ·exact .bool _
 ·exact .int _ _
 ·exact .str _
 ·exact .ptr0
 ·exact .nils
 ·exact .fn0
theorem Sv.inv {t:T} {v v':Value} {σ:Nat→Option Nat} {hf:AH} {nx:Nat} (h:Sv t v) (hv:V σ hf nx t v'):v'=v:=by
 cases h
 ·exact hv.boolInv
 ·exact hv.intInv
 ·exact hv.strInv
 ·cases hv with | fz hr=>cases hr;rfl
 ·exact hv.nilsInv
 ·cases hv with | fz hr=>cases hr;rfl
inductive SvL : List T→List Value→Prop
 | nil:SvL [] []
 | cons {t:T} {v:Value} {ts:List T} {vs:List Value} (h:Sv t v) (hr:SvL ts vs):SvL (t::ts) (v::vs)
theorem VL.tail {σ:Nat→Option Nat} {hf:AH} {nx:Nat} {t:T} {ts:List T} {vs:List Value} (h:VL σ hf nx (t::ts) vs):∃v r,vs=v::r∧V σ hf nx t v∧VL σ hf nx ts r:=by
 cases vs with
 | nil=>cases h.1
 | cons v r=>exact ⟨v,r,rfl,by simpa using h.2 0 (by simp),by simpa using h.1,fun i hi=>by simpa using h.2 (i+1) (by simpa using hi)⟩
theorem SvL.inv {σ:Nat→Option Nat} {hf:AH} {nx:Nat} {ts:List T} {vs vs':List Value} (h:SvL ts vs) (hv:VL σ hf nx ts vs'):vs'=vs:=by
 induction h generalizing vs' with
 | nil=>exact List.eq_nil_of_length_eq_zero hv.1.symm
 | cons h _ ih =>
  obtain ⟨v,r,rfl,h1,h2⟩:=hv.tail
  rw [h.inv h1,ih h2]
theorem OF.bin {op:BinOp} {xt:TypeId} {a b c:Value} (hx:VEv E x t) (hy:VEv E y u) (ha:Sv t a) (hb:Sv u b) (hop:Ye P op tt x y a b=some c) (hc:Sv w c):OF call P E ⟨d, .binOp op tt x y xt,ty,ps,af,g⟩ w:=fun p σ hf nx Ea h he=>by
 obtain ⟨v,h1,h2⟩:=hx σ hf nx Ea he
 obtain ⟨v',h3,h4⟩:=hy σ hf nx Ea he
 obtain rfl:=ha.inv h2
 obtain rfl:=hb.inv h4
 exact ⟨c,X.bin h1 h3 hop, .fz (hc.R hf)⟩
theorem OF.binA {op:BinOp} {xt:TypeId} {ax bs:List Value} {ts us:List T} {c:Value} (hx:VEv E x (.agg ts)) (hy:VEv E y (.agg us)) (ha:SvL ts ax) (hb:SvL us bs) (hop:Ye P op tt x y (.agg ax.toArray) (.agg bs.toArray)=some c) (hc:Sv w c):OF call P E ⟨d, .binOp op tt x y xt,ty,ps,af,g⟩ w:=fun p σ hf nx Ea h he=>by
 obtain ⟨v,h1,h2⟩:=hx σ hf nx Ea he
 obtain ⟨v',h3,h4⟩:=hy σ hf nx Ea he
 obtain ⟨l,rfl,g2⟩:=h2.aggL
 obtain ⟨l',rfl,g4⟩:=h4.aggL
 obtain rfl:=ha.inv g2
 obtain rfl:=hb.inv g4
 exact ⟨c,X.bin h1 h3 hop, .fz (hc.R hf)⟩
theorem OF.un {op:UnOp} {xt:TypeId} {a c:Value} (hx:VEv E x t) (ha:Sv t a) (hop:aun P op a=some c) (hc:Sv w c):OF call P E ⟨d, .unOp op xt x,ty,ps,af,g⟩ w:=fun p σ hf nx Ea h he=>by
 obtain ⟨v,h1,h2⟩:=hx σ hf nx Ea he
 obtain rfl:=ha.inv h2
 exact ⟨c,X.un h1 hop, .fz (hc.R hf)⟩
theorem R.rpDrop {hf:AH} {ts:List T} {v:Value} (h:R hf (.rp ts) v):∃a o es cs,v= .pointer (some ⟨a,o,none⟩)∧hf a=some (.cells es cs)∧o+ts.length≤cs.length∧∀i,i<ts.length→R hf (ts.getD i .any) (cs.getD (o+i) undef):=by
 cases h with
 | rp ts o hk hfit h=>exact ⟨_,o,_,_,rfl,hk,hfit,h⟩
theorem R.rpAt {hf:AH} {ts:List T} {a o es:Nat} {cs:List Value} (n:Nat) (hn:n≤ts.length) (hk:hf a=some (.cells es cs)) (hfit:o+ts.length≤cs.length) (h:∀i,i<ts.length→R hf (ts.getD i .any) (cs.getD (o+i) undef)):R hf (.rp (ts.drop n)) (.pointer (some ⟨a,o+n,none⟩)) :=
 .rp _ _ hk (by simp;omega) (fun i hi=>by
  have:=h (n+i) (by simp at hi;omega)
  rw [show o+n+i=o+(n+i) by omega]
  simpa [List.getD_eq_getElem?_getD] using this)
theorem V.rpInv {σ:Nat→Option Nat} {hf:AH} {nx:Nat} {ts:List T} {v:Value} (h:V σ hf nx (.rp ts) v):R hf (.rp ts) v:=by
 cases h with
 | fz hr=>exact hr
theorem V.opInv {σ:Nat→Option Nat} {hf:AH} {nx k o:Nat} {v:Value} (h:V σ hf nx (.op k o) v):∃a,v= .pointer (some ⟨a,o,none⟩)∧σ k=some a∧k<nx:=by
 cases h with
 | fz hr=>cases hr
 | op k o hk hs=>exact ⟨_,rfl,hs,hk⟩
theorem V.orpInv {σ:Nat→Option Nat} {hf:AH} {nx sz k i o:Nat} {v:Value} (h:V σ hf nx (.orp sz k i o) v):∃a,v= .pointer (some ⟨a,i*sz+o,none⟩)∧σ k=some a∧k<nx:=by
 cases h with
 | fz hr=>cases hr
 | orp sz k i o hk hs=>exact ⟨_,rfl,hs,hk⟩
theorem V.slInv {σ:Nat→Option Nat} {hf:AH} {nx sz:Nat} {rows:List (List T)} {b:Bool} {v:Value} (h:V σ hf nx (.sl b sz rows) v):R hf (.sl b sz rows) v:=by
 cases h with
 | fz hr=>exact hr
theorem OF.fieldAddrR {j off:Nat} {ts:List T} (hx:VEv E x (.rp ts)) (hn:off≤ts.length) (ha:∀k o,Qf P tt (.pointer (some ⟨k,o,none⟩)) j=some (.pointer (some ⟨k,o+off,none⟩))):OF call P E ⟨d, .fieldAddr tt x j,ty,ps,af,g⟩ (.rp (ts.drop off)):=fun p σ hf nx Ea h he=>by
 obtain ⟨v,h1,h2⟩:=hx σ hf nx Ea he
 obtain ⟨a,o,es,cs,rfl,h3,h4,h5⟩:=h2.rpInv.rpDrop
 exact ⟨_,X.fieldAddr h1 (ha a o), .fz (R.rpAt off hn h3 h4 h5)⟩
theorem OF.fieldAddrO {j off k o:Nat} (hx:VEv E x (.op k o)) (ha:∀k o,Qf P tt (.pointer (some ⟨k,o,none⟩)) j=some (.pointer (some ⟨k,o+off,none⟩))):OF call P E ⟨d, .fieldAddr tt x j,ty,ps,af,g⟩ (.op k (o+off)):=fun p σ hf nx Ea h he=>by
 obtain ⟨v,h1,h2⟩:=hx σ hf nx Ea he
 obtain ⟨a,rfl,h3,h4⟩:=h2.opInv
 exact ⟨_,X.fieldAddr h1 (ha a o), .op k _ h4 h3⟩
theorem OF.fieldAddrP {j off sz k i o:Nat} (hx:VEv E x (.orp sz k i o)) (ha:∀k o,Qf P tt (.pointer (some ⟨k,o,none⟩)) j=some (.pointer (some ⟨k,o+off,none⟩))):OF call P E ⟨d, .fieldAddr tt x j,ty,ps,af,g⟩ (.orp sz k i (o+off)):=fun p σ hf nx Ea h he=>by
 obtain ⟨v,h1,h2⟩:=hx σ hf nx Ea he
 obtain ⟨a,rfl,h3,h4⟩:=h2.orpInv
 exact ⟨_,X.fieldAddr h1 (ha a _),by rw [Nat.add_assoc];exact .orp sz k i (o+off) h4 h3⟩
theorem Qek {α:Type} {rows:List (List α)} {sz:Nat} (hlen:∀r∈rows,r.length=sz) {i:Nat} {row:List α} (hi:rows[i]? =some row):(rows.flatten.drop (i*sz)).take sz=row:=by
 induction rows generalizing i with
 | nil=>simp at hi
 | cons r rs ih =>
  have hr:r.length=sz:=hlen r (by simp)
  cases i with
  | zero =>
   obtain rfl:r=row:=by simpa using hi
   rw [Nat.zero_mul,List.drop_zero,List.flatten_cons,← hr,List.take_left']
   rfl
  | succ i =>
   have:=ih (fun x hx=>hlen x (by simp [hx])) (i:=i) (by simpa using hi)
   rw [List.flatten_cons,Nat.add_mul,Nat.one_mul,Nat.add_comm,← List.drop_drop,← hr,List.drop_left',hr]
   ·exact this
   ·rfl
theorem Z2 {α:Type} {rows:List (List α)} {sz:Nat} (hlen:∀r∈rows,r.length=sz):rows.flatten.length=rows.length*sz:=by
 rw [List.length_flatten,List.map_congr_left (g:=fun _=>sz) (fun r hr=>hlen r hr)]
 simp [List.map_const']
theorem Yp {rows:List (List T)} {sz:Nat} (hlen:∀r∈rows,r.length=sz) {i j:Nat} {row:List T} (hi:rows[i]? =some row) (hj:j<sz):rows.flatten.getD (i*sz+j) .any=row.getD j .any:=by
 have h:=Qek hlen hi
 rw [← h,List.getD_eq_getElem?_getD,List.getD_eq_getElem?_getD,List.getElem?_take,if_pos hj,List.getElem?_drop]
theorem Qb8 {n sz i:Nat} (hi:i<n):i*sz+sz≤n*sz:=by
 have:(i+1)*sz≤n*sz:=Nat.mul_le_mul_right _ hi
 rw [Nat.add_mul] at this
 omega
theorem OF.indexAddrR {sz:Nat} {rows:List (List T)} {kk:IntKind} {j:Int} {i:Nat} {row:List T} (hx:VEv E x (.sl false sz rows)) (hy:VEv E y (.int kk j)) (hj:j=i) (hi:rows[i]? =some row) (hu:P.underlying tt=some (.slice e)) (hn:P.cellsOf e=sz) (hif:(P.info? e).isSome=true) :
  OF call P E ⟨d, .indexAddr tt x y,ty,ps,af,g⟩ (.rp row):=fun p σ hf nx Ea h he=>by
 obtain ⟨v,h1,h2⟩:=hx σ hf nx Ea he
 obtain ⟨v',h3,h4⟩:=hy σ hf nx Ea he
 obtain rfl:=h4.intInv
 subst hj
 have hlt:i<rows.length:=(List.getElem?_eq_some_iff.1 hi).1
 have hr:=h2.slInv
 generalize hT:T.sl false sz rows=tr at hr
 cases hr<;>first | cases hT | skip
 ·simp at hlt
 ·simp at hlt
 ·rename_i a es cs o m hm hk hes hlen hfit h
  have hrow:row.length=sz:=hlen row (List.mem_of_getElem? hi)
  have hf1:=Qb8 (sz:=sz) hlt
  refine ⟨.pointer (some ⟨a,o+i*sz,none⟩),X.indexAddr h1 h3 ?_, .fz (.rp row _ hk (by omega) (fun q hq=> ?_))⟩
  ·simp only [Jx,hu,hn,hif,Int.toNat_natCast]
   rw [if_pos ⟨trivial,by omega,by omega⟩]
  ·have:=h (i*sz+q) (by omega)
   rw [Yp hlen hi (by omega)] at this
   rw [Nat.add_assoc]
   exact this
theorem V.osInv {σ:Nat→Option Nat} {hf:AH} {nx sz k lo n:Nat} {v:Value} (h:V σ hf nx (.os sz k lo n) v):k<nx∧((∃a m,v= .slice (some ⟨a,lo*sz,none⟩) n m∧σ k=some a∧0<m)∨(σ k=none∧lo=0∧n=0∧(v= .slice none 0 0∨∃a o,v= .slice (some ⟨a,o,none⟩) 0 0))):=by
 cases h with
 | fz hr=>cases hr
 | os sz k lo n m hk hs hm=>exact ⟨hk, .inl ⟨_,m,rfl,hs,hm⟩⟩
 | os0 sz k hk hs=>exact ⟨hk, .inr ⟨hs,rfl,rfl, .inl Y⟩⟩
 | ose sz k a o hk hs=>exact ⟨hk, .inr ⟨hs,rfl,rfl, .inr ⟨a,o,rfl⟩⟩⟩
theorem OF.indexAddrO {sz k lo n:Nat} {kk:IntKind} {j:Int} {i:Nat} (hx:VEv E x (.os sz k lo n)) (hy:VEv E y (.int kk j)) (hj:j=i) (hi:i<n) (hu:P.underlying tt=some (.slice e)) (hn:P.cellsOf e=sz) (hif:(P.info? e).isSome=true) :
  OF call P E ⟨d, .indexAddr tt x y,ty,ps,af,g⟩ (.orp sz k (lo+i) 0):=fun p σ hf nx Ea h he=>by
 obtain ⟨v,h1,h2⟩:=hx σ hf nx Ea he
 obtain ⟨v',h3,h4⟩:=hy σ hf nx Ea he
 obtain rfl:=h4.intInv
 subst hj
 obtain ⟨hk,⟨a,m,rfl,h5,h6⟩ | ⟨_,_,rfl,_⟩⟩:=h2.osInv
 ·refine ⟨.pointer (some ⟨a,lo*sz+i*sz,none⟩),X.indexAddr h1 h3 ?_,?_⟩
  ·simp only [Jx,hu,hn,hif,Int.toNat_natCast]
   rw [if_pos ⟨trivial,by omega,by omega⟩]
  ·have:=V.orp (σ:=σ) (hf:=hf) (nx:=nx) sz k (lo+i) 0 hk h5
   rwa [Nat.add_mul,Nat.add_zero] at this
 ·omega
theorem OF.index {st:ByteArray} {kk:IntKind} {j:Int} {i:Nat} (hx:VEv E x (.str st)) (hy:VEv E y (.int kk j)) (hj:j=i) (hi:i<st.size) (hu:P.underlying tt=some .string):OF call P E ⟨d, .index tt x y,ty,ps,af,g⟩ (.int .u8 ((st[i]'hi).toNat:Int)):=fun p σ hf nx Ea h he=>by
 obtain ⟨v,h1,h2⟩:=hx σ hf nx Ea he
 obtain ⟨v',h3,h4⟩:=hy σ hf nx Ea he
 obtain rfl:=h4.intInv
 obtain rfl:=h2.strInv
 subst hj
 exact ⟨_,X.index h1 h3 (Qku hu hi), .fz (.int _ _)⟩
theorem OF.makeFunc {f:FuncId} {cp:Array Operand} {ts:List T} (hx:VEvs E cp.toList ts):OF call P E ⟨d, .makeFunc (.func f) #[] cp,ty,ps,af,g⟩ (.fn f ts):=fun p σ hf nx Ea h he=>by
 obtain ⟨vs,h1,h2⟩:=hx σ hf nx Ea he
 exact ⟨_,X.makeFunc h1,h2.toFn f⟩
theorem OF.convI {kk kk':IntKind} {a:Int} (hx:VEv E x (.int kk a)) {k0:IntKind} (hs:P.underlying s=some (.int k0)) (ht:P.underlying tt=some (.int kk')):OF call P E ⟨d, .convert s tt x,ty,ps,af,g⟩ (.int kk' (kk'.wrap a)):=fun p σ hf nx Ea h he=>by
 obtain ⟨v,h1,h2⟩:=hx σ hf nx Ea he
 obtain rfl:=h2.intInv
 exact ⟨_,X.convert h1 (by simp only [Qc2,hs,ht]), .fz (.int _ _)⟩
def Zi : T→List T
 | .agg ts=>ts
 | t=> [t]
theorem V.cells {σ:Nat→Option Nat} {hf:AH} {nx:Nat} {v:Value} (h:V σ hf nx t v) (ht:t≠ .any):VL σ hf nx (Zi t) v.cells.toList:=by
 have one:∀(t:T) (v:Value),V σ hf nx t v→Zi t= [t]→v.cells.toList= [v]→VL σ hf nx (Zi t) v.cells.toList:=fun t v h e1 e2=>by
  rw [e1,e2]
  exact .cons h (.nil _ _ _)
 cases h with
 | any v=>exact absurd Y ht
 | fz hr =>
  have h0:V σ hf nx t v:= .fz hr
  cases hr with
  | agg ts vs hs h =>
   obtain ⟨l,e,h1⟩:=h0.aggL
   cases e
   simpa [Zi,Value.cells] using h1
  | bool b=>exact one _ _ h0 Y Y
  | int k n=>exact one _ _ h0 Y Y
  | str s=>exact one _ _ h0 Y Y
  | ptr0=>exact one _ _ h0 Y Y
  | fn0=>exact one _ _ h0 Y Y
  | nils=>exact one _ _ h0 Y Y
  | tup ts vs hs h=>exact one _ _ h0 Y Y
  | fn f ts vs hs h=>exact one _ _ h0 Y Y
  | sl0 sz=>exact one _ _ h0 Y Y
  | sle sz a o m=>exact one _ _ h0 Y Y
  | sl sz rows o m hm hk hes hlen hfit h=>exact one _ _ h0 Y Y
  | rp ts o hk hfit h=>exact one _ _ h0 Y Y
  | ex p n m t h=>exact one _ _ h0 Y Y
 | os sz k lo n m hk hs hm=>exact one _ _ (.os sz k lo n m hk hs hm) Y Y
 | os0 sz k hk hs=>exact one _ _ (.os0 sz k hk hs) Y Y
 | ose sz k a o hk hs=>exact one _ _ (.ose sz k a o hk hs) Y Y
 | op k o hk hs=>exact one _ _ (.op k o hk hs) Y Y
 | orp sz k i o hk hs=>exact one _ _ (.orp sz k i o hk hs) Y Y
 | om k hk hs=>exact one _ _ (.om k hk hs) Y Y
 | vp ts o hk hfit h=>exact one _ _ (.vp ts o hk hfit h) Y Y
 | agg ts vs hs h =>
  obtain ⟨l,e,h1⟩:=(V.agg ts vs hs h).aggL
  cases e
  simpa [Zi,Value.cells] using h1
 | tup ts vs hs h=>exact one _ _ (.tup ts vs hs h) Y Y
 | fn f ts vs hs h=>exact one _ _ (.fn f ts vs hs h) Y Y
theorem Qet {σ:Nat→Option Nat} {nx:Nat} (oa:Option Nat):∀k,k<nx→(fun k=>if k=nx then oa else σ k) k=σ k:=fun k hk=>if_neg (by omega)
theorem OM.box {xt:TypeId} (hx:VEv E x t) (ht:t≠ .any):OM call P E nx ⟨d, .box xt x,ty,ps,af,g⟩ (.op nx 0) (.cells (Zi t)):=fun q σ hf Ea he=>by
 obtain ⟨v,h1,h2⟩:=hx σ hf nx Ea he
 refine ⟨.pointer (some ⟨Qn q,0,none⟩), .cells 0 v.cells.toList,some (Qn q),[Qn q],fun h=>X.box h1 Y, .inl ⟨rfl,rfl⟩, .op nx 0 (by omega) (by simp),fun h=> .cells (AH.upd_same _ _ _) (J3 _) ?_⟩
 exact (h2.cells ht).mono (fun _ _ e=>e) (by omega) (Qet _)
theorem OM.alloc {v:Value} (hz:Zq P tt=some v) (hcl:closedV v=true) (ht:t≠ .any) (hv:∀hf,R hf t v):OM call P E nx ⟨d, .alloc tt,ty,ps,af,g⟩ (.op nx 0) (.cells (Zi t)):=fun q σ hf Ea he =>
 ⟨.pointer (some ⟨Qn q,0,none⟩), .cells 0 v.cells.toList,some (Qn q),[Qn q],fun h=>X.alloc hz hcl Y, .inl ⟨rfl,rfl⟩, .op nx 0 (by omega) (by simp),fun h=> .cells (AH.upd_same _ _ _) (J3 _) (V.cells (.fz (hv hf)) ht)⟩
theorem SR.objAt {p:Nat} {h0:LB} {hf h:AH} {σ own:Nat→Option Nat} {Ea:Nat→Value} {k:Nat} {o:Obj} (hs:SR p h0 σ hf own E O nx Ea h) (hk:gO O k=some o):∃N,N.Nodup∧(∀a∈N,own a=some k)∧ObjR σ hf nx h o (σ k) N:=(hs.obj k o hk).2
theorem OL.loadR1 {ts:List T} (hx:VEv E x (.rp ts)) (ht:ts[0]? =some t) (hst:Qw P tt=some false):OL call P E O ⟨d, .load tt x,ty,ps,af,g⟩ t:=fun q p h0 σ hf own nx Ea h hs=>by
 obtain ⟨v,h1,h2⟩:=hx σ hf nx Ea hs.env
 obtain ⟨a,o,es,cs,rfl,h3,h4,h5⟩:=h2.rpInv.rpDrop
 have hlt:0<ts.length:=(List.getElem?_eq_some_iff.1 ht).1
 have h6:=h5 0 hlt
 have hlt':o<cs.length:=by omega
 rw [List.getD_eq_getElem?_getD,ht,Nat.add_zero,List.getD_eq_getElem?_getD,List.getElem?_eq_getElem hlt'] at h6
 exact ⟨cs[o],X.load h1 (J9 hst (hs.fro _ _ h3).1 (List.getElem?_eq_getElem hlt')), .fz h6⟩
theorem OL.loadRn {ts us:List T} {n:Nat} (hx:VEv E x (.rp ts)) (hst:Qw P tt=some true) (hn:P.cellsOf tt=n) (hle:n≤ts.length) (hu:ts.take n=us):OL call P E O ⟨d, .load tt x,ty,ps,af,g⟩ (.agg us):=fun q p h0 σ hf own nx Ea h hs=>by
 subst hu
 obtain ⟨v,h1,h2⟩:=hx σ hf nx Ea hs.env
 obtain ⟨a,o,es,cs,rfl,h3,h4,h5⟩:=h2.rpInv.rpDrop
 refine ⟨_,X.load h1 (Qcd hst hn (hs.fro _ _ h3).1 (by omega) Y), .fz (.agg _ _ (by simp;omega) (Jm ⟨by simp;omega,fun i hi=> ?_⟩))⟩
 have hi':i<n:=by simp at hi;omega
 have:=h5 i (by omega)
 rw [List.getD_eq_getElem?_getD,List.getElem?_take,if_pos hi',← List.getD_eq_getElem?_getD,List.getD_eq_getElem?_getD (l:=List.take _ _),List.getElem?_take,if_pos hi',List.getElem?_drop,← List.getD_eq_getElem?_getD]
 exact this
theorem OL.loadO1 {ts:List T} {k o:Nat} (hx:VEv E x (.op k o)) (hk:gO O k=some (.cells ts)) (ht:ts[o]? =some t) (hst:Qw P tt=some false):OL call P E O ⟨d, .load tt x,ty,ps,af,g⟩ t:=fun q p h0 σ hf own nx Ea h hs=>by
 obtain ⟨v,h1,h2⟩:=hx σ hf nx Ea hs.env
 obtain ⟨a,rfl,h3,h4⟩:=h2.opInv
 obtain ⟨N,hN1,hN2,h5⟩:=hs.objAt hk
 rw [h3] at h5
 cases h5 with
 | cells hh hodd hv =>
  rename_i es cs
  have hlt:o<ts.length:=(List.getElem?_eq_some_iff.1 ht).1
  have hlt':o<cs.length:=by rw [← hv.1];exact hlt
  have h6:=hv.2 o hlt
  rw [List.getD_eq_getElem?_getD,ht,List.getD_eq_getElem?_getD,List.getElem?_eq_getElem hlt'] at h6
  exact ⟨cs[o],X.load h1 (J9 hst hh (List.getElem?_eq_getElem hlt')),h6⟩
theorem OL.loadOn {ts us:List T} {k o n:Nat} (hx:VEv E x (.op k o)) (hk:gO O k=some (.cells ts)) (hst:Qw P tt=some true) (hn:P.cellsOf tt=n) (hle:o+n≤ts.length) (hu:(ts.drop o).take n=us):OL call P E O ⟨d, .load tt x,ty,ps,af,g⟩ (.agg us):=fun q p h0 σ hf own nx Ea h hs=>by
 subst hu
 obtain ⟨v,h1,h2⟩:=hx σ hf nx Ea hs.env
 obtain ⟨a,rfl,h3,h4⟩:=h2.opInv
 obtain ⟨N,hN1,hN2,h5⟩:=hs.objAt hk
 rw [h3] at h5
 cases h5 with
 | cells hh hodd hv =>
  rename_i es cs
  have hl:=hv.1
  refine ⟨_,X.load h1 (Qcd hst hn hh (by omega) Y),VL.toAgg ⟨by simp;omega,fun i hi=> ?_⟩⟩
  have hi':i<n:=by simp at hi;omega
  have:=hv.2 (o+i) (by omega)
  rw [List.getD_eq_getElem?_getD,List.getElem?_take,if_pos hi',List.getElem?_drop,← List.getD_eq_getElem?_getD,List.getD_eq_getElem?_getD (l:=List.take _ _),List.getElem?_take,if_pos hi',List.getElem?_drop,← List.getD_eq_getElem?_getD]
  exact this
def JO : T→Bool
 | .sl true _ _=>false
 | .agg _=>false
 | .tup _=>false
 | .any=>false
 | _=>true
theorem S.flat {hf h:AH} {v:Value} {N:List Nat} (hs:S hf h t v N) (hf1:JO t=true):R hf t v∧N= []:=by
 cases hs with
 | fz hr=>exact ⟨hr,rfl⟩
 | ow0 sz=>simp [JO] at hf1
 | owe sz a o=>simp [JO] at hf1
 | ow=>simp [JO] at hf1
 | agg=>simp [JO] at hf1
 | tup=>simp [JO] at hf1
theorem SL.flat {hf h:AH}:∀ {ts:List T} {vs:List Value} {N:List Nat},SL hf h ts vs N→(∀t∈ts,JO t=true)→RL hf ts vs∧N= []
 | _,_,_, .nil,_=>⟨RL.nil _,rfl⟩
 | _,_,_, .cons hs hr,hfl=>by
  obtain ⟨h1,rfl⟩:=S.flat hs (hfl _ (by simp))
  obtain ⟨h2,rfl⟩:=SL.flat hr (fun t ht=>hfl t (by simp [ht]))
  exact ⟨RL.cons h1 h2,rfl⟩
theorem RL.toSL {hf h:AH}:∀ {ts:List T} {vs:List Value},RL hf ts vs→SL hf h ts vs []
 | [],[],_=> .nil
 | [],_::_,hr=>by cases hr.1
 | _::_,[],hr=>by cases hr.1
 | t::ts,v::vs,hr=>by
  obtain ⟨h1,h2⟩:=hr.tail
  exact SL.cons (N:= []) (M:= []) (.fz h1) (RL.toSL h2)
theorem SL.at {hf h:AH}:∀ {ts:List T} {vs:List Value} {N:List Nat},SL hf h ts vs N→∀i,i<ts.length→∃M,S hf h (ts.getD i .any) (vs.getD i undef) M∧∀a∈M,a∈N
 | _,_,_, .nil,i,hi=>by simp at hi
 | _,_,_, .cons hs hr,i,hi=>by
  cases i with
  | zero=>exact ⟨_,hs,fun a ha=>by simp [ha]⟩
  | succ i =>
   obtain ⟨M,h1,h2⟩:=SL.at hr i (by simpa using hi)
   exact ⟨M,by simpa using h1,fun a ha=>by simp [h2 a ha]⟩
theorem OL.loadP1 {sz k i o:Nat} {rows:List (List T)} {row:List T} (hx:VEv E x (.orp sz k i o)) (hk:gO O k=some (.rows sz rows)) (hi:rows[i]? =some row) (ht:row[o]? =some t) (hfl:JO t=true) (hst:Qw P tt=some false):OL call P E O ⟨d, .load tt x,ty,ps,af,g⟩ t:=fun q p h0 σ hf own nx Ea h hs=>by
 obtain ⟨v,h1,h2⟩:=hx σ hf nx Ea hs.env
 obtain ⟨a,rfl,h3,h4⟩:=h2.orpInv
 obtain ⟨N,hN1,hN2,h5⟩:=hs.objAt hk
 rw [h3] at h5
 cases h5 with
 | rows hh hodd hlen hfit hsl =>
  rename_i cs N
  have hlt:i<rows.length:=(List.getElem?_eq_some_iff.1 hi).1
  have hrow:row.length=sz:=hlen row (List.mem_of_getElem? hi)
  have ho:o<sz:=by rw [← hrow];exact (List.getElem?_eq_some_iff.1 ht).1
  have hf1:=Qb8 (sz:=sz) hlt
  obtain ⟨M,h6,_⟩:=hsl.at (i*sz+o) (by rw [Z2 hlen];omega)
  rw [Yp hlen hi ho,List.getD_eq_getElem?_getD,ht,Option.getD_some,List.getD_eq_getElem?_getD,List.getElem?_take,if_pos (by omega),List.getElem?_eq_getElem (by omega),Option.getD_some] at h6
  exact ⟨_,X.load h1 (J9 hst hh (List.getElem?_eq_getElem (by omega))), .fz (h6.flat hfl).1⟩
theorem OL.loadPn {sz k i o n:Nat} {rows:List (List T)} {row us:List T} (hx:VEv E x (.orp sz k i o)) (hk:gO O k=some (.rows sz rows)) (hi:rows[i]? =some row) (hst:Qw P tt=some true) (hn:P.cellsOf tt=n) (hle:o+n≤sz) (hu:(row.drop o).take n=us) (hfl:∀t∈us,JO t=true):OL call P E O ⟨d, .load tt x,ty,ps,af,g⟩ (.agg us):=fun q p h0 σ hf own nx Ea h hs=>by
 obtain ⟨v,h1,h2⟩:=hx σ hf nx Ea hs.env
 obtain ⟨a,rfl,h3,h4⟩:=h2.orpInv
 obtain ⟨N,hN1,hN2,h5⟩:=hs.objAt hk
 rw [h3] at h5
 cases h5 with
 | rows hh hodd hlen hfit hsl =>
  rename_i cs N
  have hlt:i<rows.length:=(List.getElem?_eq_some_iff.1 hi).1
  have hrow:row.length=sz:=hlen row (List.mem_of_getElem? hi)
  have hf1:=Qb8 (sz:=sz) hlt
  have hus:us.length=n:=by rw [← hu];simp;omega
  refine ⟨_,X.load h1 (Qcd hst hn hh (by omega) Y), .fz (.agg _ _ (by simp;omega) (Jm ⟨by simp;omega,fun j hj=> ?_⟩))⟩
  obtain ⟨M,h6,_⟩:=hsl.at (i*sz+(o+j)) (by rw [Z2 hlen];omega)
  have e1:us.getD j .any=row.getD (o+j) .any:=by
   rw [← hu,List.getD_eq_getElem?_getD,List.getElem?_take,if_pos (by omega),List.getElem?_drop,← List.getD_eq_getElem?_getD]
  rw [Yp hlen hi (by omega),← e1,List.getD_eq_getElem?_getD (l:=List.take _ _),List.getElem?_take,if_pos (by omega),← List.getD_eq_getElem?_getD] at h6
  have hm:us.getD j .any∈us:=by
   rw [List.getD_eq_getElem?_getD,List.getElem?_eq_getElem hj]
   exact List.getElem_mem hj
  have:=(h6.flat (hfl _ hm)).1
  rw [List.getD_eq_getElem?_getD (l:=List.take _ _),List.getElem?_take,if_pos (by omega),List.getElem?_drop,← List.getD_eq_getElem?_getD,Nat.add_assoc]
  exact this
theorem OL.lenS {st:ByteArray} (hx:VEv E x (.str st)) (hu:P.underlying tt=some .string):OL call P E O ⟨d, .call ⟨.builtin .len,#[x],#[tt]⟩,ty,ps,af,g⟩ (.int .i64 st.size):=fun q p h0 σ hf own nx Ea h hs=>by
 obtain ⟨v,h1,h2⟩:=hx σ hf nx Ea hs.env
 obtain rfl:=h2.strInv
 exact ⟨_,X.len h1 (QlI hu), .fz (.int _ _)⟩
theorem OL.lenR {sz:Nat} {rows:List (List T)} (hx:VEv E x (.sl false sz rows)) (hu:P.underlying tt=some (.slice e)):OL call P E O ⟨d, .call ⟨.builtin .len,#[x],#[tt]⟩,ty,ps,af,g⟩ (.int .i64 rows.length):=fun q p h0 σ hf own nx Ea h hs=>by
 obtain ⟨v,h1,h2⟩:=hx σ hf nx Ea hs.env
 have hr:=h2.slInv
 generalize hT:T.sl false sz rows=tr at hr
 cases hr<;>cases hT
 ·exact ⟨_,X.len h1 (Qcb hu), .fz (.int _ _)⟩
 ·exact ⟨_,X.len h1 (Qcb hu), .fz (.int _ _)⟩
 ·exact ⟨_,X.len h1 (Qcb hu), .fz (.int _ _)⟩
theorem OL.lenO {sz k lo n:Nat} (hx:VEv E x (.os sz k lo n)) (hu:P.underlying tt=some (.slice e)):OL call P E O ⟨d, .call ⟨.builtin .len,#[x],#[tt]⟩,ty,ps,af,g⟩ (.int .i64 n):=fun q p h0 σ hf own nx Ea h hs=>by
 obtain ⟨v,h1,h2⟩:=hx σ hf nx Ea hs.env
 obtain ⟨_,⟨a,m,rfl,_⟩ | ⟨_,_,rfl,rfl | ⟨a,o,rfl⟩⟩⟩:=h2.osInv
 ·exact ⟨_,X.len h1 (Qcb hu), .fz (.int _ _)⟩
 ·exact ⟨_,X.len h1 (Qcb hu), .fz (.int _ _)⟩
 ·exact ⟨_,X.len h1 (Qcb hu), .fz (.int _ _)⟩
end
def JR : T→Bool
 | .any | .agg _ | .tup _=>false
 | .sl true _ _=>false
 | _=>true
theorem R.one {hf:AH} {t:T} {v:Value} (h:R hf t v) (hc:JR t=true):v.oneCell'=true:=by
 cases h<;>first | rfl | simp [JR] at hc
theorem V.one {σ:Nat→Option Nat} {hf:AH} {nx:Nat} {t:T} {v:Value} (h:V σ hf nx t v) (hc:JR t=true):v.oneCell'=true:=by
 cases h<;>first | rfl | (simp [JR] at hc;done) | skip
 rename_i hr
 exact hr.one hc
theorem S.one {hf h:AH} {t:T} {v:Value} {N:List Nat} (hs:S hf h t v N) (hc:JR t=true∨∃sz rows,t= .sl true sz rows):v.oneCell'=true:=by
 cases hs with
 | fz hr =>
  rcases hc with hc | ⟨sz,rows,rfl⟩
  ·exact hr.one hc
  ·cases hr
 | ow0 sz=>rfl
 | owe sz a o=>rfl
 | ow sz rows m hm hk hodd hlen hfit hs=>rfl
 | agg hs=>rcases hc with hc | ⟨_,_,hc⟩<;>simp [JR] at hc
 | tup hs=>rcases hc with hc | ⟨_,_,hc⟩<;>simp [JR] at hc
def JS : T→Bool
 | .any | .agg _ | .tup _=>false
 | _=>true
theorem Qki {t:T} (h:JS t=true):JR t=true∨∃sz rows,t= .sl true sz rows:=by
 cases t<;>first | (exact .inl Y) | (simp [JS] at h;done) | skip
 rename_i own sz rows
 cases own
 ·exact .inl Y
 ·exact .inr ⟨sz,rows,rfl⟩
theorem SL.ones {hf h:AH}:∀ {ts:List T} {vs:List Value} {N:List Nat},SL hf h ts vs N→(∀t∈ts,JS t=true)→vs.all (·.oneCell')=true
 | _,_,_, .nil,_=>rfl
 | _,_,_, .cons hs hr,hc=>by
  rw [List.all_cons,S.one hs (Qki (hc _ (by simp))),SL.ones hr (fun t ht=>hc t (by simp [ht]))]
  rfl
def J4 : T→Bool
 | .bool _ | .int _ _ | .str _ | .ptr0 | .fn0 | .nils | .sl false _ _ | .rp _=>true
 | _=>false
theorem V.pl {σ:Nat→Option Nat} {hf:AH} {nx:Nat} {t:T} {v:Value} (h:V σ hf nx t v) (hc:J4 t=true):R hf t v:=by
 cases h<;>first | assumption | (simp [J4] at hc;done)
theorem VL.pl {σ:Nat→Option Nat} {hf:AH} {nx:Nat} {ts:List T} {vs:List Value} (h:VL σ hf nx ts vs) (hc:∀t∈ts,J4 t=true):RL hf ts vs:=⟨h.1,fun i hi=>(h.2 i hi).pl (hc _ (by rw [List.getD_eq_getElem?_getD,List.getElem?_eq_getElem hi];exact List.getElem_mem hi))⟩
def spl (cs:List T) (o:Nat) (vs:List T):List T:=cs.take o++vs++cs.drop (o+vs.length)
theorem Qds {α:Type} (dflt:α) {cs vs:List α} {o:Nat} (ho:o+vs.length≤cs.length) (i:Nat):(cs.take o++vs++cs.drop (o+vs.length)).getD i dflt=if o≤i∧i<o+vs.length then vs.getD (i - o) dflt else cs.getD i dflt:=by
 have e1:(cs.take o).length=o:=by rw [List.length_take];omega
 by_cases h1:i<o
 ·rw [if_neg (by omega),List.append_assoc,List.getD_eq_getElem?_getD,List.getElem?_append_left (by omega),List.getElem?_take,if_pos h1,← List.getD_eq_getElem?_getD]
 ·by_cases h2:i<o+vs.length
  ·rw [if_pos ⟨by omega,h2⟩,List.append_assoc,List.getD_eq_getElem?_getD,List.getElem?_append_right (by omega),e1,List.getElem?_append_left (by omega),← List.getD_eq_getElem?_getD]
  ·rw [if_neg (by omega),List.append_assoc,List.getD_eq_getElem?_getD,List.getElem?_append_right (by omega),e1,List.getElem?_append_right (by omega),List.getElem?_drop,← List.getD_eq_getElem?_getD]
   congr 1
   omega
theorem VL.splice {σ:Nat→Option Nat} {hf:AH} {nx o:Nat} {ts us:List T} {cs vs:List Value} (h:VL σ hf nx ts cs) (hu:VL σ hf nx us vs) (ho:o+us.length≤ts.length):VL σ hf nx (spl ts o us) (AE.splice cs o vs):=by
 have h1:=h.1
 have h2:=hu.1
 refine ⟨by simp [spl,AE.splice];omega,fun i hi=> ?_⟩
 unfold spl AE.splice
 rw [Qds _ ho,Qds _ (by omega),← h2]
 split
 ·exact hu.2 _ (by omega)
 ·refine h.2 _ ?_
  simp [spl] at hi
  omega
theorem RL.toVL {σ:Nat→Option Nat} {hf:AH} {nx:Nat} {ts:List T} {vs:List Value} (h:RL hf ts vs):VL σ hf nx ts vs:=⟨h.1,fun i hi=> .fz (h.2 i hi)⟩
theorem RL.splice {hf:AH} {o:Nat} {ts us:List T} {cs vs:List Value} (h:RL hf ts cs) (hu:RL hf us vs) (ho:o+us.length≤ts.length):RL hf (spl ts o us) (AE.splice cs o vs):=by
 have h1:=h.1
 have h2:=hu.1
 refine ⟨by simp [spl,AE.splice];omega,fun i hi=> ?_⟩
 unfold spl AE.splice
 rw [Qds _ ho,Qds _ (by omega),← h2]
 split
 ·exact hu.2 _ (by omega)
 ·refine h.2 _ ?_
  simp [spl] at hi
  omega
section
variable {p nx : Nat} {h0 : LB} {hf h h' : AH} {σ own : Nat → Option Nat} {E : Zc} {O : QB} {Ea : Nat → Value}
theorem SR.upd {k a:Nat} {z:Yn} {obj:Obj} {N:List Nat} (hs:SR p h0 σ hf own E O nx Ea h) (hσ:σ k=some a) (hk:k<nx) (ha:own a=some k) (hN:N.Nodup) (hN':∀b∈N,own b=some k) (ho:ObjR σ hf nx (h.upd a (some z)) obj (some a) N):SR p h0 σ hf own E ((k,some obj)::O) nx Ea (h.upd a (some z)):=by
 obtain ⟨m1,m2,m3,m4⟩:=hs.mine a k ha
 refine ⟨hs.env,fun k' o hk'=> ?_,fun b o hb=> ?_,fun b k' hb=> ?_,hs.base,fun t ht=> ?_⟩
 ·simp only [gO] at hk'
  split at hk'
  ·rename_i e
   subst e
   obtain rfl:=Option.some.inj hk'
   exact ⟨hk,N,hN,hN',hσ▸ho⟩
  ·rename_i hne
   obtain ⟨h1,N',h2,h3,h4⟩:=hs.obj k' o hk'
   refine ⟨h1,N',h2,h3,h4.mono (fun _ _ e=>e) (Nat.le_refl _) (fun _ _=>rfl) (fun b hb=>AH.upd_ne _ (fun e=> ?_) _)⟩
   subst e
   have:=h3 _ hb
   rw [ha] at this
   exact hne (Option.some.inj this).symm
 ·obtain ⟨h1,h2⟩:=hs.fro b o hb
  have:b≠a:=fun e=>by rw [e,ha] at h2;cases h2
  exact ⟨by rw [AH.upd_ne _ this];exact h1,h2⟩
 ·obtain ⟨h1,h2,h3,h4⟩:=hs.mine b k' hb
  refine ⟨h1,h2,?_,h4⟩
  by_cases e:b=a
  ·rw [e,AH.upd_same];simp
  ·rw [AH.upd_ne _ e];exact h3
 ·unfold AH.upd at ht
  split at ht
  ·rename_i e
   exact .inr (e▸m1)
  ·exact hs.dom t ht
def QcY (ks:List Nat) (O:QB):QB:=ks.map (fun k=>(k,none))++O
theorem QjO {ks:List Nat} {k:Nat} {o:Obj} (h:gO (QcY ks O) k=some o):k∉ks∧gO O k=some o:=by
 induction ks with
 | nil=>exact ⟨by simp,h⟩
 | cons x r ih =>
  simp only [QcY,List.map_cons,List.cons_append,gO] at h
  split at h
  ·cases h
  ·rename_i hne
   obtain ⟨h1,h2⟩:=ih h
   exact ⟨by simp [hne,h1],h2⟩
open Classical in
theorem SR.repl {ks:List Nat} {oa:Option Nat} {N:List Nat} {obj:Obj} (hs:SR p h0 σ hf own E O nx Ea h) (hh:∀a,h a≠none→(∀k∈ks,own a≠some k)→h' a=h a) (hd:QnK p h0 h') (hN:N.Nodup)
  (hN':∀b∈N,UL p h0 b∧h0.h b=none∧h' b≠none∧hf b=none∧(h b=none∨∃k∈ks,own b=some k)) (ho:ObjR (fun k=>if k=nx then oa else σ k) hf (nx+1) h' obj oa N) :
  ∃own',SR p h0 (fun k=>if k=nx then oa else σ k) hf own' E ((nx,some obj)::QcY ks O) (nx+1) Ea h'∧∀a k,own' a=some k→own a=some k∨h a=none∨∃k∈ks,own a=some k:=by
 refine ⟨fun b=>if b∈N then some nx else if ∃k∈ks,own b=some k then none else own b,⟨fun t=>(hs.env t).mono (fun _ _ e=>e) (by omega) (Qet _),fun k o hk=> ?_,fun b o hb=> ?_,fun b k hb=> ?_,hs.base,hd⟩,fun a k hk=> ?_⟩
 ·simp only [gO] at hk
  split at hk
  ·rename_i e
   subst e
   obtain rfl:=Option.some.inj hk
   exact ⟨by omega,N,hN,fun b hb=>by simp only [if_pos hb],by simpa using ho⟩
  ·obtain ⟨hnk,hk⟩:=QjO hk
   obtain ⟨h1,M,h2,h3,h4⟩:=hs.obj k o hk
   have key:∀b∈M,b∉N∧¬∃k∈ks,own b=some k:=fun b hb=>by
    have hob:=h3 b hb
    have h5:¬∃k∈ks,own b=some k:=fun ⟨k',hk',e⟩=>by
     rw [hob] at e
     obtain rfl:=Option.some.inj e
     exact hnk hk'
    refine ⟨fun hn=> ?_,h5⟩
    rcases (hN' b hn).2.2.2.2 with e | e
    ·exact (hs.mine b k hob).2.2.1 e
    ·exact h5 e
   refine ⟨by omega,M,h2,fun b hb=>by simp only [if_neg (key b hb).1,if_neg (key b hb).2];exact h3 b hb,?_⟩
   simp only [if_neg (show ¬k=nx by omega)]
   exact h4.mono (fun _ _ e=>e) (by omega) (Qet _) (fun b hb=>hh b (hs.mine b k (h3 b hb)).2.2.1 (fun k' hk' e=>(key b hb).2 ⟨k',hk',e⟩))
 ·obtain ⟨h1,h2⟩:=hs.fro b o hb
  have h3:b∉N:=fun hn=>by rw [(hN' b hn).2.2.2.1] at hb;cases hb
  refine ⟨(hh b (by rw [h1];simp) (fun k _ e=>by rw [h2] at e;cases e)).trans h1,?_⟩
  simp only [if_neg h3]
  rw [if_neg (fun ⟨k,_,e⟩=>by rw [h2] at e;cases e)]
  exact h2
 ·split at hb
  ·rename_i hn
   obtain rfl:=Option.some.inj hb
   obtain ⟨h1,h2,h3,_⟩:=hN' b hn
   exact ⟨h1,h2,h3,by omega⟩
  ·split at hb
   ·cases hb
   ·rename_i hnk
    obtain ⟨h1,h2,h3,h4⟩:=hs.mine b k hb
    exact ⟨h1,h2,by rw [hh b h3 (fun k' hk' e=>hnk ⟨k',hk',e⟩)];exact h3,by omega⟩
 ·simp only at hk
  split at hk
  ·rename_i hn
   exact .inr (hN' a hn).2.2.2.2
  ·split at hk
   ·cases hk
   ·exact .inl hk
end
section
variable {call : QO} {P : Program} {E : Zc} {O : QB} {d : Option Tmp} {ty tt s e : TypeId} {ps : String} {af : Array Edge} {g : Option (Nat × Bool)} {x y z : Operand} {t u w : T} {nx : Nat}
theorem OC.storeO {k o:Nat} {ts us:List T} (hx:VEv E x (.op k o)) (hy:VEv E y t) (ht:t≠ .any) (hk:gO O k=some (.cells ts)) (hus:Zi t=us) (hle:o+us.length≤ts.length) (hif:(P.info? tt).isSome=true) (hn:P.cellsOf tt=us.length) (hc:∀a∈us,JR a=true) :
  OC call P E O nx ⟨d, .store tt x y,ty,ps,af,g⟩ .any ((k,some (.cells (spl ts o us)))::O) nx [k]:=⟨Nat.le_refl _,fun q p h0 σ hf own Ea h hs hu hF=>by
 subst hus
 obtain ⟨v,h1,h2⟩:=hx σ hf nx Ea hs.env
 obtain ⟨v',h3,h4⟩:=hy σ hf nx Ea hs.env
 obtain ⟨a,rfl,h5,h6⟩:=h2.opInv
 obtain ⟨N,hN1,hN2,h7⟩:=hs.objAt hk
 rw [h5] at h7
 cases h7 with
 | cells hh hodd hv =>
  rename_i es cs
  have h8:=h4.cells ht
  have h9:=h8.1
  have hcl:∀b∈v'.cells.toList,b.oneCell'=true:=by
   intro b hb
   obtain ⟨i,hi⟩:=List.getElem?_of_mem hb
   have hlt:i<(Zi t).length:=by rw [h9];exact (List.getElem?_eq_some_iff.1 hi).1
   have:=h8.2 i hlt
   rw [List.getD_eq_getElem?_getD (l:=v'.cells.toList),hi,Option.getD_some] at this
   exact this.one (hc _ (by rw [List.getD_eq_getElem?_getD,List.getElem?_eq_getElem hlt];exact List.getElem_mem hlt))
  have hown:own a=some k:=hN2 a (by simp)
  have hst:=Qcf (P:=P) (t:=tt) (v:=v') (o:=o) hodd hh hif hn Y h9.symm (by rw [← h9];have:=hv.1;omega) hcl
  refine ⟨undef,_,σ,own,X.store h1 h3 hst,Dom.old (by rw [hh];simp) _,fun _ _=>rfl,hs.upd h5 h6 hown (N:= [a]) (by simp) (by simpa using hown) (.cells (AH.upd_same _ _ _) hodd (hv.splice h8 hle)), .any _,fun b hb hnk=>AH.upd_ne _ (fun e=> ?_) _,fun b k' e=> .inl e⟩
  exact hnk k (by simp) (e▸hown)⟩
theorem QbM {rows:List (List T)} {sz i o:Nat} {row us:List T} (hlen:∀r∈rows,r.length=sz) (hi:rows[i]? =some row) (ho:o+us.length≤sz):(rows.set i (spl row o us)).flatten=spl rows.flatten (i*sz+o) us:=by
 induction rows generalizing i with
 | nil=>simp at hi
 | cons r rs ih =>
  have hr:r.length=sz:=hlen r (by simp)
  cases i with
  | zero =>
   obtain rfl:r=row:=by simpa using hi
   simp only [List.set_cons_zero,List.flatten_cons,Nat.zero_mul,Nat.zero_add,spl]
   rw [List.take_append_of_le_length (by omega),List.drop_append_of_le_length (by omega)]
   simp only [List.append_assoc]
  | succ i =>
   have hlt:i<rs.length:=by
    have:=(List.getElem?_eq_some_iff.1 hi).1
    simpa using this
   have h1:=ih (fun x hx=>hlen x (by simp [hx])) (i:=i) (by simpa using hi)
   rw [List.set_cons_succ,List.flatten_cons,h1,List.flatten_cons]
   simp only [spl]
   have e1:(i+1)*sz+o=r.length+(i*sz+o):=by rw [Nat.add_mul];omega
   rw [e1,List.take_length_add_append,Nat.add_assoc r.length,List.drop_length_add_append]
   simp only [List.append_assoc]
theorem OC.storeP {sz k i o:Nat} {rows:List (List T)} {row us:List T} (hx:VEv E x (.orp sz k i o)) (hy:VEv E y t) (ht:t≠ .any) (hk:gO O k=some (.rows sz rows)) (hi:rows[i]? =some row) (hus:Zi t=us) (hle:o+us.length≤sz) (hif:(P.info? tt).isSome=true) (hn:P.cellsOf tt=us.length) (hc:∀a∈us,J4 a=true) (hfl:∀r∈rows,∀a∈r,JO a=true) :
  OC call P E O nx ⟨d, .store tt x y,ty,ps,af,g⟩ .any ((k,some (.rows sz (rows.set i (spl row o us))))::O) nx [k]:=⟨Nat.le_refl _,fun q p h0 σ hf own Ea h hs hu hF=>by
 subst hus
 obtain ⟨v,h1,h2⟩:=hx σ hf nx Ea hs.env
 obtain ⟨v',h3,h4⟩:=hy σ hf nx Ea hs.env
 obtain ⟨a,rfl,h5,h6⟩:=h2.orpInv
 obtain ⟨N,hN1,hN2,h7⟩:=hs.objAt hk
 rw [h5] at h7
 cases h7 with
 | rows hh hodd hlen hfit hsl =>
  rename_i cs N
  have h8:=(h4.cells ht).pl hc
  have h9:=h8.1
  have hcl:∀b∈v'.cells.toList,b.oneCell'=true:=by
   intro b hb
   obtain ⟨j,hj⟩:=List.getElem?_of_mem hb
   have hlt:j<(Zi t).length:=by rw [h9];exact (List.getElem?_eq_some_iff.1 hj).1
   have:=h8.2 j hlt
   rw [List.getD_eq_getElem?_getD (l:=v'.cells.toList),hj,Option.getD_some] at this
   have hp:=hc _ (show (Zi t).getD j .any∈Zi t by rw [List.getD_eq_getElem?_getD,List.getElem?_eq_getElem hlt];exact List.getElem_mem hlt)
   refine this.one ?_
   generalize (Zi t).getD j .any=q at hp
   cases q<;>first | rfl | (simp [J4] at hp;done) | skip
   rename_i b _ _
   cases b<;>first | rfl | (simp [J4] at hp;done)
  have hown:own a=some k:=hN2 a (by simp)
  have hlt:i<rows.length:=(List.getElem?_eq_some_iff.1 hi).1
  have hf1:=Qb8 (sz:=sz) hlt
  have hrow:row.length=sz:=hlen row (List.mem_of_getElem? hi)
  have hst:=Qcf (P:=P) (t:=tt) (v:=v') (o:=i*sz+o) hodd hh hif hn Y h9.symm (by rw [← h9];omega) hcl
  obtain ⟨hrl,_⟩:=hsl.flat (fun t ht=>by
   obtain ⟨r,hr,htr⟩:=List.mem_flatten.1 ht
   exact hfl r hr t htr)
  have hfll:=Z2 hlen
  have hnew:=hrl.splice h8 (o:=i*sz+o) (by omega)
  have hlen':∀r∈rows.set i (spl row o (Zi t)),r.length=sz:=fun r hr=>by
   rcases List.mem_or_eq_of_mem_set hr with h | rfl
   ·exact hlen r h
   ·simp [spl];omega
  refine ⟨undef,_,σ,own,X.store h1 h3 hst,Dom.old (by rw [hh];simp) _,fun _ _=>rfl,hs.upd h5 h6 hown (N:= [a]) (by simp) (by simpa using hown) ?_, .any _,fun b hb hnk=>AH.upd_ne _ (fun e=> ?_) _,fun b k' e=> .inl e⟩
  ·refine .rows (N:= []) (AH.upd_same _ _ _) hodd hlen' ?_ ?_
   ·rw [List.length_set]
    simp only [AE.splice,List.length_append,List.length_take,List.length_drop]
    omega
   ·rw [List.length_set,QbM hlen hi hle]
    have e2:(AE.splice cs (i*sz+o) v'.cells.toList).take (rows.length*sz)=AE.splice (cs.take (rows.length*sz)) (i*sz+o) v'.cells.toList:=by
     unfold AE.splice
     rw [List.take_append,List.take_append,List.length_append,List.length_take,List.take_take,List.drop_take]
     rw [show min (rows.length*sz) (i*sz+o)=i*sz+o by omega,List.take_of_length_le (l:=v'.cells.toList) (by omega),List.take_take]
     rw [show min (i*sz+o) (rows.length*sz)=i*sz+o by omega]
     congr 2
     omega
    rw [e2]
    exact hnew.toSL
  ·exact hnk k (by simp) (e▸hown)⟩
end
def VSrc (P:Program) (xt:TypeId) (sz:Nat) (E:Zc) (O:QB) (x:Operand) (rows:List (List T)) (ks:List Nat):Prop:=∀(p:Nat) (h0:LB) (σ:Nat→Option Nat) (hf:AH) (own:Nat→Option Nat) (nx:Nat) (Ea:Nat→Value) (h:AH),SR p h0 σ hf own E O nx Ea h →
 ∃v news N,ZS Ea x=some v∧Qe5 P sz xt h v=some (rows.length,news)∧SL hf h rows.flatten news N∧N.Nodup∧(∀r∈rows,r.length=sz)∧∀a∈N,∃k∈ks,own a=some k
def VDst (sz:Nat) (E:Zc) (O:QB) (x:Operand) (rows:List (List T)) (ks:List Nat):Prop:=∀(p:Nat) (h0:LB) (σ:Nat→Option Nat) (hf:AH) (own:Nat→Option Nat) (nx:Nat) (Ea:Nat→Value) (h:AH),SR p h0 σ hf own E O nx Ea h →
 ∃v,ZS Ea x=some v∧((∃a m cs N k,v= .slice (some ⟨a,0,none⟩) rows.length m∧0<m∧k∈ks∧k<nx∧own a=some k∧h a=some (.cells sz cs)∧a % 2=1∧(∀r∈rows,r.length=sz)∧rows.length*sz≤cs.length∧SL hf h rows.flatten (cs.take (rows.length*sz)) N∧(a::N).Nodup∧∀b∈N,own b=some k) ∨
  (rows= []∧(v= .slice none 0 0∨∃a o,v= .slice (some ⟨a,o,none⟩) 0 0)))
section
variable {call : QO} {P : Program} {E : Zc} {O : QB} {d : Option Tmp} {ty tt s e xt : TypeId} {ps : String} {af : Array Edge} {g : Option (Nat × Bool)} {x y z : Operand} {t u w : T} {nx sz : Nat} {rows rows2 : List (List T)} {ks ks2 : List Nat}
theorem VDst.own {k n:Nat} (hx:VEv E x (.os sz k 0 n)) (hk:gO O k=some (.rows sz rows)) (hn:n=rows.length):VDst sz E O x rows [k]:=fun p h0 σ hf own nx Ea h hs=>by
 subst hn
 obtain ⟨v,h1,h2⟩:=hx σ hf nx Ea hs.env
 obtain ⟨N,hN1,hN2,h3⟩:=hs.objAt hk
 obtain ⟨hk',⟨a,m,rfl,h4,h5⟩ | ⟨h4,_,h5,h6⟩⟩:=h2.osInv
 ·rw [h4] at h3
  cases h3 with
  | rows hh hodd hlen hfit hsl =>
   rename_i cs N
   refine ⟨_,h1, .inl ⟨a,m,cs,N,k,by rw [Nat.zero_mul],h5,by simp,hk',hN2 a (by simp),hh,hodd,hlen,hfit,hsl,hN1,fun b hb=>hN2 b (by simp [hb])⟩⟩
 ·exact ⟨_,h1, .inr ⟨List.eq_nil_of_length_eq_zero h5,h6⟩⟩
theorem RL.ones {hf:AH} {ts:List T} {vs:List Value} (h:RL hf ts vs) (hc:∀t∈ts,JS t=true):vs.all (·.oneCell')=true:=SL.ones (h:=hf) h.toSL hc
theorem VSrc.read (hx:VEv E x (.sl false sz rows)) (hu:P.underlying xt=some (.slice e)) (hc:∀r∈rows,∀t∈r,JS t=true):VSrc P xt sz E O x rows []:=fun p h0 σ hf own nx Ea h hs=>by
 obtain ⟨v,h1,h2⟩:=hx σ hf nx Ea hs.env
 have hr:=h2.slInv
 generalize hT:T.sl false sz rows=tr at hr
 cases hr<;>first | cases hT | skip
 ·exact ⟨_,[],[],h1,by simp [Qe5,hu], .nil,by simp,by simp,by simp⟩
 ·exact ⟨_,[],[],h1,by simp [Qe5,hu], .nil,by simp,by simp,by simp⟩
 ·rename_i a es cs o m hm hk hes hlen hfit h3
  by_cases hr0:rows.length=0
  ·obtain rfl:=List.eq_nil_of_length_eq_zero hr0
   exact ⟨_,[],[],h1,by simp [Qe5,hu], .nil,by simp,by simp,by simp⟩
  ·have hrl:RL hf rows.flatten ((cs.drop o).take (rows.length*sz)):=by
    have hfl:=Z2 hlen
    refine ⟨by rw [hfl,List.length_take,List.length_drop];omega,fun i hi=> ?_⟩
    have:=h3 i (by omega)
    rwa [List.getD_eq_getElem?_getD (l:=List.take _ _),List.getElem?_take,if_pos (by omega),List.getElem?_drop,← List.getD_eq_getElem?_getD]
   refine ⟨_,_,[],h1,?_,hrl.toSL,by simp,hlen,by simp⟩
   simp only [Qe5,hu,if_neg hr0,(hs.fro _ _ hk).1]
   rw [if_pos ⟨hfit,hrl.ones (fun t ht=>by
    obtain ⟨r,hr,htr⟩:=List.mem_flatten.1 ht
    exact hc r hr t htr)⟩]
theorem VSrc.own {k n:Nat} (hx:VEv E x (.os sz k 0 n)) (hk:gO O k=some (.rows sz rows)) (hn:n=rows.length) (hu:P.underlying xt=some (.slice e)) (hc:∀r∈rows,∀t∈r,JS t=true):VSrc P xt sz E O x rows [k]:=fun p h0 σ hf own nx Ea h hs=>by
 subst hn
 obtain ⟨v,h1,h2⟩:=hx σ hf nx Ea hs.env
 obtain ⟨N,hN1,hN2,h3⟩:=hs.objAt hk
 obtain ⟨hk',⟨a,m,rfl,h4,h5⟩ | ⟨h4,_,h5,h6⟩⟩:=h2.osInv
 ·rw [h4] at h3
  cases h3 with
  | rows hh hodd hlen hfit hsl =>
   rename_i cs N
   by_cases hr0:rows.length=0
   ·obtain rfl:=List.eq_nil_of_length_eq_zero hr0
    exact ⟨_,[],[],h1,by simp [Qe5,hu], .nil,by simp,by simp,by simp⟩
   ·refine ⟨_,_,N,h1,?_,hsl,(List.nodup_cons.1 hN1).2,hlen,fun b hb=>⟨k,by simp,hN2 b (by simp [hb])⟩⟩
    simp only [Qe5,hu,if_neg hr0,hh,Nat.zero_mul,Nat.zero_add,List.drop_zero]
    rw [if_pos ⟨hfit,hsl.ones (fun t ht=>by
     obtain ⟨r,hr,htr⟩:=List.mem_flatten.1 ht
     exact hc r hr t htr)⟩]
 ·obtain rfl:=List.eq_nil_of_length_eq_zero h5
  refine ⟨_,[],[],h1,?_, .nil,by simp,by simp,by simp⟩
  rcases h6 with rfl | ⟨a,o,rfl⟩<;>simp [Qe5,hu]
theorem SL.append {hf h:AH}:∀ {ts us:List T} {vs ws:List Value} {N M:List Nat},SL hf h ts vs N→SL hf h us ws M→SL hf h (ts++us) (vs++ws) (N++M)
 | _,_,_,_,_,_, .nil,h2=>h2
 | _,_,_,_,_,_, .cons hs hr,h2=>by
  have:=SL.cons hs (SL.append hr h2)
  simpa [List.append_assoc] using this
theorem OC.append (hx:VDst sz E O x rows ks) (hy:VSrc P xt sz E O y rows2 ks2) (hdis:∀k∈ks,k∉ks2) (hu:P.underlying tt=some (.slice e)) (hn:P.cellsOf e=sz) (hpos:0<sz) {z:Value} (hz:Zq P e=some z) (hzs:z.cells.size=sz) (hb:P.bytesOf e≤128) (hlim:rows.length+rows2.length≤Y2) :
  OC call P E O nx ⟨d, .call ⟨.builtin .append,#[x,y],#[tt,xt]⟩,ty,ps,af,g⟩ (.os sz nx 0 (rows++rows2).length) ((nx,some (.rows sz (rows++rows2)))::QcY (ks++ks2) O) (nx+1) (ks++ks2):=⟨Nat.le_succ _,fun q p h0 σ hf own Ea h hs hu' hF=>by
 subst hn
 obtain ⟨v,h1,hd⟩:=hx p h0 σ hf own nx Ea h hs
 obtain ⟨v2,news,N2,h2,h3,h4,h5,h6,h7⟩:=hy p h0 σ hf own nx Ea h hs
 have hbn:∀n,n≤rows.length+rows2.length→2*n*P.bytesOf e≤281474976710656:=fun n hn=>by
  have e1:2*n*P.bytesOf e≤2*Y2*128:=Nat.mul_le_mul (Nat.mul_le_mul_left _ (Nat.le_trans hn hlim)) hb
  have:2*Y2*128=281474976710656:=by decide
  omega
 have hlim2:Y2=1099511627776:=rfl
 have htok:h (Qn q)=none:=hF _ (QR q)
 have hfl2:=Z2 h6
 have hnl:news.length=rows2.length*P.cellsOf e:=by rw [← h4.length,hfl2]
 have h0t:h0.h (Qn q)=none:=by
  cases hh:h0.h (Qn q) with
  | none=>rfl
  | some o =>
   have e1:=hs.base (Qn q) (by rw [hh];simp)
   rw [hh] at e1
   rw [(hs.fro _ _ e1).1] at htok
   cases htok
 have hft:hf (Qn q)=none:=by
  cases hh:hf (Qn q) with
  | none=>rfl
  | some o=>rw [(hs.fro _ _ hh).1] at htok;cases htok
 have hfo:∀b k,own b=some k→hf b=none:=fun b k hb=>by
  cases hh:hf b with
  | none=>rfl
  | some o=>rw [(hs.fro _ _ hh).2] at hb;cases hb
 have hrl:(rows++rows2).length=rows.length+rows2.length:=List.length_append
 by_cases hr2:rows2.length=0
 ·obtain rfl:=List.eq_nil_of_length_eq_zero hr2
  have hnews:news= []:=List.eq_nil_of_length_eq_zero (by simpa using hnl)
  have hx':QD call P q Ea h ⟨d, .call ⟨.builtin .append,#[x,y],#[tt,xt]⟩,ty,ps,af,g⟩=some (v,h):=by
   refine X.append h1 h2 ?_
   have hc0:z.cells.size=P.cellsOf e∧2*0*P.bytesOf e≤281474976710656∧0≤4611686018427387903∧0<P.cellsOf e:=⟨hzs,by simp,by omega,hpos⟩
   simp only [Qaw,hu,h3,hz,List.length_nil,if_pos hc0]
   rcases hd with ⟨a,m,cs,N,k,rfl,_⟩ | ⟨rfl,rfl | ⟨a,o,rfl⟩⟩
   ·rfl
   ·rfl
   ·rfl
  rcases hd with ⟨a,m,cs,N,k,rfl,hm,hk,hkn,ho,hh,hodd,hlen,hfit,hsl,hnd,hN⟩ | ⟨rfl,hv⟩
  ·obtain ⟨own',g1,g2⟩:=hs.repl (ks:=ks++ks2) (oa:=some a) (N:=a::N) (h':=h) (obj:= .rows (P.cellsOf e) (rows++ [])) (fun _ _ _=>rfl) hs.dom hnd (fun b hb=>by
    have hob:own b=some k:=by
     rcases List.mem_cons.1 hb with rfl | hb
     ·exact ho
     ·exact hN b hb
    obtain ⟨m1,m2,m3,_⟩:=hs.mine b k hob
    exact ⟨m1,m2,m3,hfo b k hob, .inr ⟨k,by simp [hk],hob⟩⟩) (by rw [List.append_nil];exact .rows hh hodd hlen hfit hsl)
   refine ⟨_,h,_,own',hx',Dom.refl _ _,Qet _,g1,?_,fun _ _ _=>rfl,g2⟩
   rw [List.append_nil]
   have:=V.os (σ:=fun k=>if k=nx then some a else σ k) (hf:=hf) (nx:=nx+1) (a:=a) (P.cellsOf e) nx 0 rows.length m (by omega) (by simp) hm
   rwa [Nat.zero_mul] at this
  ·obtain ⟨own',g1,g2⟩:=hs.repl (ks:=ks++ks2) (oa:=none) (N:= []) (h':=h) (obj:= .rows (P.cellsOf e) ([]++ [])) (fun _ _ _=>rfl) hs.dom (by simp) (by simp) (.none _)
   refine ⟨_,h,_,own',hx',Dom.refl _ _,Qet _,g1,?_,fun _ _ _=>rfl,g2⟩
   rcases hv with rfl | ⟨a,o,rfl⟩
   ·exact .os0 _ nx (by omega) (by simp)
   ·exact .ose _ nx a o (by omega) (by simp)
 ·have hnn:¬(rows2.length=0):=hr2
  have hc0:z.cells.size=P.cellsOf e∧2*rows2.length*P.bytesOf e≤281474976710656∧rows2.length≤4611686018427387903∧0<P.cellsOf e:=⟨hzs,hbn _ (by omega),by omega,hpos⟩
  rcases hd with ⟨a,m,cs,N,k,rfl,hm,hk,hkn,ho,hh,hodd,hlen,hfit,hsl,hnd,hN⟩ | ⟨rfl,hv⟩
  ·have hat:a≠Qn q:=fun e=>by rw [e,htok] at hh;cases hh
   have hx':QD call P q Ea h ⟨d, .call ⟨.builtin .append,#[x,y],#[tt,xt]⟩,ty,ps,af,g⟩=some (.slice (some ⟨Qn q,0,none⟩) (rows.length+rows2.length) 1,(h.upd a none).upd (Qn q) (some (.cells (P.cellsOf e) (cs.take (rows.length*P.cellsOf e)++news)))):=by
    refine X.append h1 h2 ?_
    simp only [Qaw,hu,h3,hz,if_pos hc0,if_neg hnn,if_neg (show ¬m=0 by omega),hh]
    rw [if_pos ⟨hodd,trivial, .inr (by omega),hbn _ (by omega),by omega⟩,List.drop_zero]
   have hNh:∀b∈N++N2,((h.upd a none).upd (Qn q) (some (.cells (P.cellsOf e) (cs.take (rows.length*P.cellsOf e)++news)))) b=h b∧∃k∈ks++ks2,own b=some k:=fun b hb=>by
    have hob:∃k∈ks++ks2,own b=some k∧b≠a:=by
     rcases List.mem_append.1 hb with hb | hb
     ·exact ⟨k,by simp [hk],hN b hb,fun e=>(List.nodup_cons.1 hnd).1 (e▸hb)⟩
     ·obtain ⟨k2,hk2,e2⟩:=h7 b hb
      exact ⟨k2,by simp [hk2],e2,fun e=>by rw [e,ho] at e2;exact hdis k hk (by rw [Option.some.inj e2];exact hk2)⟩
    obtain ⟨k',hk',e1,e2⟩:=hob
    refine ⟨?_,k',hk',e1⟩
    rw [AH.upd_ne _ (fun e=> ?_),AH.upd_ne _ e2]
    rw [e] at e1
    exact (hs.mine _ _ e1).2.2.1 htok
   have hnd2:(Qn q::(N++N2)).Nodup:=by
    rw [List.nodup_cons,List.nodup_append]
    refine ⟨fun hm=> ?_,(List.nodup_cons.1 hnd).2,h5,fun b hb c hc e=> ?_⟩
    ·obtain ⟨_,k',_,e1⟩:=hNh _ hm
     exact (hs.mine _ _ e1).2.2.1 htok
    ·subst e
     obtain ⟨k2,hk2,e2⟩:=h7 b hc
     rw [hN b hb] at e2
     exact hdis k hk (by rw [Option.some.inj e2];exact hk2)
   obtain ⟨own',g1,g2⟩:=hs.repl (ks:=ks++ks2) (oa:=some (Qn q)) (N:=Qn q::(N++N2)) (h':=(h.upd a none).upd (Qn q) (some (.cells (P.cellsOf e) (cs.take (rows.length*P.cellsOf e)++news)))) (obj:= .rows (P.cellsOf e) (rows++rows2))
    (fun b hb hnk=>by rw [AH.upd_ne _ (fun e=>hb (by rw [e];exact htok)),AH.upd_ne _ (fun e=>hnk k (by simp [hk]) (by rw [e];exact ho))])
    (fun b hb=>by
     unfold AH.upd at hb
     split at hb
     ·rename_i e1
      exact .inr (e1▸hu' _ (QR q))
     ·split at hb
      ·exact absurd Y hb
      ·exact hs.dom b hb)
    hnd2
    (fun b hb=>by
     rcases List.mem_cons.1 hb with rfl | hb
     ·exact ⟨hu' _ (QR q),h0t,by rw [AH.upd_same];simp,hft, .inl htok⟩
     ·obtain ⟨e1,k',hk',e2⟩:=hNh b hb
      obtain ⟨m1,m2,m3,_⟩:=hs.mine b k' e2
      exact ⟨m1,m2,by rw [e1];exact m3,hfo b k' e2, .inr ⟨k',hk',e2⟩⟩)
    (by
     refine .rows (AH.upd_same _ _ _) (J3 q) (fun r hr=>(List.mem_append.1 hr).elim (hlen r) (h6 r)) ?_ ?_
     ·rw [List.length_append,List.length_append,List.length_take,hnl,Nat.add_mul]
      omega
     ·rw [List.flatten_append,hrl,Nat.add_mul,List.take_of_length_le (l:=cs.take _++news) (by rw [List.length_append,List.length_take,hnl];omega)]
      exact (hsl.append h4).mono (fun _ _ e=>e) (fun b hb=>(hNh b hb).1))
   refine ⟨_,_,_,own',hx',?_,Qet _,g1,?_,?_,g2⟩
   ·intro b hb
    unfold AH.upd at hb
    split at hb
    ·rename_i e1
     exact .inr (e1▸QR q)
    ·split at hb
     ·exact absurd Y hb
     ·exact .inl hb
   ·rw [hrl]
    have:=V.os (σ:=fun k=>if k=nx then some (Qn q) else σ k) (hf:=hf) (nx:=nx+1) (a:=Qn q) (P.cellsOf e) nx 0 (rows.length+rows2.length) 1 (by omega) (by simp) (by omega)
    rwa [Nat.zero_mul] at this
   ·intro b hb hnk
    rw [AH.upd_ne _ (fun e=>hb (by rw [e];exact htok)),AH.upd_ne _ (fun e=>hnk k (by simp [hk]) (by rw [e];exact ho))]
  ·have hx':QD call P q Ea h ⟨d, .call ⟨.builtin .append,#[x,y],#[tt,xt]⟩,ty,ps,af,g⟩=some (.slice (some ⟨Qn q,0,none⟩) rows2.length 1,h.upd (Qn q) (some (.cells (P.cellsOf e) news))):=by
    refine X.append h1 h2 ?_
    rcases hv with rfl | ⟨a,o,rfl⟩
    ·simp only [Qaw,hu,h3,hz,if_pos hc0,if_neg hnn]
    ·simp only [Qaw,hu,h3,hz,if_pos hc0,if_neg hnn,if_true]
   have hNh:∀b∈N2,(h.upd (Qn q) (some (.cells (P.cellsOf e) news))) b=h b∧∃k∈ks++ks2,own b=some k:=fun b hb=>by
    obtain ⟨k2,hk2,e2⟩:=h7 b hb
    refine ⟨AH.upd_ne _ (fun e=> ?_) _,k2,by simp [hk2],e2⟩
    rw [e] at e2
    exact (hs.mine _ _ e2).2.2.1 htok
   obtain ⟨own',g1,g2⟩:=hs.repl (ks:=ks++ks2) (oa:=some (Qn q)) (N:=Qn q::N2) (h':=h.upd (Qn q) (some (.cells (P.cellsOf e) news))) (obj:= .rows (P.cellsOf e) ([]++rows2))
    (fun b hb hnk=>AH.upd_ne _ (fun e=>hb (by rw [e];exact htok)) _)
    (fun b hb=>by
     unfold AH.upd at hb
     split at hb
     ·rename_i e1
      exact .inr (e1▸hu' _ (QR q))
     ·exact hs.dom b hb)
    (by
     rw [List.nodup_cons]
     refine ⟨fun hm=> ?_,h5⟩
     obtain ⟨_,k',_,e1⟩:=hNh _ hm
     exact (hs.mine _ _ e1).2.2.1 htok)
    (fun b hb=>by
     rcases List.mem_cons.1 hb with rfl | hb
     ·exact ⟨hu' _ (QR q),h0t,by rw [AH.upd_same];simp,hft, .inl htok⟩
     ·obtain ⟨e1,k',hk',e2⟩:=hNh b hb
      obtain ⟨m1,m2,m3,_⟩:=hs.mine b k' e2
      exact ⟨m1,m2,by rw [e1];exact m3,hfo b k' e2, .inr ⟨k',hk',e2⟩⟩)
    (by
     rw [List.nil_append]
     refine .rows (AH.upd_same _ _ _) (J3 q) h6 (by omega) ?_
     rw [List.take_of_length_le (by omega)]
     exact h4.mono (fun _ _ e=>e) (fun b hb=>(hNh b hb).1))
   refine ⟨_,_,_,own',hx',Dom.new _ _ _,Qet _,g1,?_,fun b hb hnk=>AH.upd_ne _ (fun e=>hb (by rw [e];exact htok)) _,g2⟩
   rw [List.nil_append]
   have:=V.os (σ:=fun k=>if k=nx then some (Qn q) else σ k) (hf:=hf) (nx:=nx+1) (a:=Qn q) (P.cellsOf e) nx 0 rows2.length 1 (by omega) (by simp) (by omega)
   rwa [Nat.zero_mul] at this⟩
end
theorem QhP : ∀(vs:List Value) (k off:Nat) (cells:Array Value),off+k+vs.length≤cells.size→((vs.zipIdx k).foldl (fun cs (x:Value×Nat)=>cs.setIfInBounds (off+x.2) x.1) cells).toList=splice cells.toList (off+k) vs
 | [],k,off,cells,h=>by simp [splice]
 | v::r,k,off,cells,h=>by
  simp only [List.length_cons] at h
  rw [List.zipIdx_cons,List.foldl_cons,QhP r (k+1) off _ (by simp;omega)]
  simp only [Array.toList_setIfInBounds,splice,List.length_cons]
  have hsz:cells.toList.length=cells.size:=by simp
  have hl:off+k<cells.toList.length:=by omega
  rw [show off+(k+1)=off+k+1 by omega]
  have e1:(cells.toList.set (off+k) v).take (off+k+1)=cells.toList.take (off+k)++ [v]:=by
   rw [List.take_succ_eq_append_getElem (by simpa using hl),List.take_set_of_le (Nat.le_refl _),List.getElem_set_self]
  rw [e1]
  rw [List.drop_set_of_lt (show off+k<off+k+1+r.length by omega)]
  simp only [List.append_assoc,List.cons_append,List.nil_append]
  rw [show off+k+1+r.length=off+k+(r.length+1) by omega]
theorem QgN (v:Value) (off:Nat) (cells:Array Value) (h:off+v.cells.size≤cells.size):(v.cells.zipIdx.foldl (fun cs (x:Value×Nat)=>cs.setIfInBounds (off+x.2) x.1) cells).toList=splice cells.toList off v.cells.toList:=by
 have:=QhP v.cells.toList 0 off cells (by simpa using h)
 rw [Nat.add_zero] at this
 rw [← this,← Array.foldl_toList]
 simp [Array.toList_zipIdx]
def VLP (σ:Nat→Option Nat) (hf:AH) (nx:Nat) (ps:List (Nat×T)) (qs:List (Nat×Value)):Prop:=ps.map (·.1)=qs.map (·.1)∧VL σ hf nx (ps.map (·.2)) (qs.map (·.2))
def Qfk (place:Nat→Option (Nat×Nat)) (cells:List T):List (Nat×T)→Option (List T)
 | []=>some cells
 | (i,v)::rest =>
  match place i with
  | none=>none
  | some (off,size)=>if (Zi v).length=size∧off+(Zi v).length≤cells.length then Qfk place (spl cells off (Zi v)) rest else none
theorem QbZ {σ:Nat→Option Nat} {hf:AH} {nx:Nat} {place:Nat→Option (Nat×Nat)}:∀ {ps:List (Nat×T)} {qs:List (Nat×Value)} {cells out:List T} {cs:Array Value},VLP σ hf nx ps qs→(∀x∈ps,x.2≠ .any)→VL σ hf nx cells cs.toList→Qfk place cells ps=some out→∃o,Instr.fill place cs qs=some o∧VL σ hf nx out o.toList
 | [],qs,cells,out,cs,hp,hne,hc,h=>by
  have hq:qs= []:=by
   have:=hp.1
   simpa using this.symm
  subst hq
  obtain rfl:=Option.some.inj h
  exact ⟨cs,rfl,hc⟩
 | (i,v)::rest,[],cells,out,cs,hp,hne,hc,h=>by
  have:=hp.1
  simp at this
 | (i,v)::rest,(j,w)::qs,cells,out,cs,hp,hne,hc,h=>by
  have h1:=hp.1
  simp only [List.map_cons,List.cons.injEq] at h1
  obtain ⟨rfl,h2⟩:=h1
  obtain ⟨_,_,e,h3,h4⟩:=hp.2.tail
  simp only [List.map_cons,List.cons.injEq] at e
  obtain ⟨rfl,rfl⟩:=e
  unfold Qfk at h
  unfold Instr.fill
  cases hpl:place i with
  | none=>rw [hpl] at h;cases h
  | some x =>
   obtain ⟨off,size⟩:=x
   rw [hpl] at h
   dsimp only at h ⊢
   have h5:=h3.cells (hne (i,v) (by simp))
   split at h
   ·rename_i hc2
    have hl:=hc.1
    have hl5:=h5.1
    simp only [Array.length_toList] at hl hl5
    have hfit:off+w.cells.size≤cs.size:=by omega
    rw [if_neg (by simp;omega)]
    exact QbZ ⟨h2,h4⟩ (fun x hx=>hne x (by simp [hx])) (by rw [QgN w off cs hfit];exact hc.splice h5 (by omega)) h
   ·cases h
section
variable {call : QO} {P : Program} {E : Zc} {O : QB} {d : Option Tmp} {ty tt s e xt : TypeId} {ps : String} {af : Array Edge} {g : Option (Nat × Bool)} {x y z : Operand} {t u w : T} {nx sz : Nat} {rows rows2 : List (List T)} {ks ks2 : List Nat}
def VEvp (E:Zc) (xs:List (Nat×Operand)) (ts:List (Nat×T)):Prop:=∀(σ:Nat→Option Nat) (hf:AH) (nx:Nat) (Ea:Nat→Value),(∀t,V σ hf nx (gE E t) (Ea t))→∃vs,evp Ea xs=some vs∧VLP σ hf nx ts vs
theorem VEvp.nil : VEvp E [] []:=fun σ hf nx Ea he=>⟨[],rfl,rfl,VL.nil _ _ _⟩
theorem VEvp.cons {i:Nat} {xs:List (Nat×Operand)} {ts:List (Nat×T)} (h:VEv E x t) (hr:VEvp E xs ts):VEvp E ((i,x)::xs) ((i,t)::ts):=fun σ hf nx Ea he=>by
 obtain ⟨v,h1,h2⟩:=h σ hf nx Ea he
 obtain ⟨vs,h3,h4⟩:=hr σ hf nx Ea he
 exact ⟨(i,v)::vs,by simp only [evp,h1,h3],by simp [h4.1],by simpa using VL.cons h2 h4.2⟩
theorem OF.build {pp:Array (Nat×Operand)} {l:List (Nat×T)} {fs:Array Field} {zs out:List T} {z:Value} (hx:VEvp E pp.toList l) (hne:∀x∈l,x.2≠ .any) (hu:P.underlying tt=some (.struct fs)) (hz:Zq P tt=some z) (hzc:∀hf,RL hf zs z.cells.toList) (hall:(fs.all (fun f=>(P.info? f.type).isSome) && z.cells.all closed1)=true) (hfl:Qfk (Qc1 P fs) zs l=some out) :
  OF call P E ⟨d, .build tt pp,ty,ps,af,g⟩ (.agg out):=fun p σ hf nx Ea h he=>by
 obtain ⟨q,h1,h2⟩:=hx σ hf nx Ea he
 obtain ⟨o,h3,h4⟩:=QbZ h2 hne (cs:=z.cells) (hzc hf).toVL hfl
 refine ⟨.agg o,X.build h1 ?_,?_⟩
 ·simp only [Qft,hu,hz,hall,if_true,h3,Option.map_some]
 ·simpa using h4.toAgg
theorem QlT {z:List Value} {n i:Nat} (hi:i<n):(cyc z n).getD i undef=z.getD (i % z.length) undef:=by
 simp [cyc,List.getD_eq_getElem?_getD,hi]
theorem OM.slice0 {z:Value} (hu:P.underlying tt=some (.slice e)) (hz:Zq P e=some z) (hall:z.cells.all closed1=true) (hs:z.cells.size=P.cellsOf e) (hp:0<P.cellsOf e) (hsz:P.cellsOf e=sz):OM call P E nx ⟨d, .buildSlice tt 0 #[],ty,ps,af,g⟩ (.os sz nx 0 0) (.rows sz []):=fun q σ hf Ea he=>by
 subst hsz
 refine ⟨.slice (some ⟨Qn q,0,none⟩) 0 0, .cells (P.cellsOf e) [],none,[],fun h=>X.buildSlice (q:= []) Y ?_, .inr ⟨rfl,rfl⟩,?_,fun h=> .none _⟩
 ·simp only [YF,hu,hz]
  rw [if_pos ⟨hp,by omega,hall,hs⟩]
  simp [Instr.fill,cyc]
 ·exact .ose _ nx _ 0 (by omega) (by simp)
theorem QfJ {sz:Nat}:∀(l:List T) (k:Nat) (pre post:List T),(∀t∈l,(Zi t).length=sz)→pre.length=k*sz→post.length=l.length*sz→Qfk (fun i=>some (i*sz,sz)) (pre++post) (l.zipIdx k |>.map fun x=>(x.2,x.1))=some (pre++(l.map Zi).flatten)
 | [],k,pre,post,h,hpre,hpost=>by
  have:post= []:=List.eq_nil_of_length_eq_zero (by simpa using hpost)
  subst this
  simp [Qfk]
 | t::r,k,pre,post,h,hpre,hpost=>by
  have ht:=h t (by simp)
  simp only [List.length_cons,Nat.add_mul,Nat.one_mul] at hpost
  simp only [List.zipIdx_cons,List.map_cons,Qfk]
  rw [if_pos ⟨ht,by rw [List.length_append];omega⟩]
  have e1:spl (pre++post) (k*sz) (Zi t)=(pre++Zi t)++post.drop sz:=by
   unfold spl
   rw [← hpre,List.take_left',ht,List.drop_length_add_append]
   rfl
  rw [e1,QfJ r (k+1) (pre++Zi t) (post.drop sz) (fun x hx=>h x (by simp [hx])) (by rw [List.length_append,hpre,ht,Nat.add_mul];omega) (by rw [List.length_drop];omega)]
  simp only [List.flatten_cons,List.append_assoc]
theorem OM.buildSlice {n:Nat} {pp:Array (Nat×Operand)} {l:List T} {z:Value} (hx:VEvp E pp.toList (l.zipIdx.map fun x=>(x.2,x.1))) (hl:l.length=n) (hpos:0<n) (hne:∀t∈l,t≠ .any) (hpl:∀t∈l,∀c∈Zi t,J4 c=true) (hlen:∀t∈l,(Zi t).length=sz) (hu:P.underlying tt=some (.slice e)) (hz:Zq P e=some z) (hall:z.cells.all closed1=true) (hs:z.cells.size=P.cellsOf e) (hp:0<P.cellsOf e) (hsz:P.cellsOf e=sz) (hb:n*sz≤16777216) :
  OM call P E nx ⟨d, .buildSlice tt n pp,ty,ps,af,g⟩ (.os sz nx 0 n) (.rows sz (l.map Zi)):=fun q σ hf Ea he=>by
 subst hsz
 subst hl
 obtain ⟨vs,h1,h2⟩:=hx σ hf nx Ea he
 -- trees of the zero cells are of no matter: all is filled
 obtain ⟨zs,hzs⟩:∃zs:List T,VL σ hf nx zs (cyc z.cells.toList (l.length*P.cellsOf e)):=⟨List.replicate (l.length*P.cellsOf e) .any,by simp [Yf],fun i hi=>by
  rw [List.length_replicate] at hi
  rw [List.getD_eq_getElem?_getD,List.getElem?_replicate,if_pos hi]
  exact .any _⟩
 have hzl:=hzs.1
 rw [Yf] at hzl
 have hfill:=QfJ l 0 [] zs hlen (by simp) hzl
 rw [List.nil_append,List.nil_append] at hfill
 obtain ⟨o,h3,h4⟩:=QbZ (cs:=(cyc z.cells.toList (l.length*P.cellsOf e)).toArray) h2 (fun x hx=>by
  obtain ⟨y,hy,rfl⟩:=List.mem_map.1 hx
  exact hne _ (List.fst_mem_of_mem_zipIdx hy)) (by simpa using hzs) hfill
 have hrows:∀r∈l.map Zi,r.length=P.cellsOf e:=fun r hr=>by
  obtain ⟨x,hx,rfl⟩:=List.mem_map.1 hr
  exact hlen x hx
 have hrl:RL hf (l.map Zi).flatten o.toList:=h4.pl fun c hc=>by
  obtain ⟨r,hr,hcr⟩:=List.mem_flatten.1 hc
  obtain ⟨x,hx,rfl⟩:=List.mem_map.1 hr
  exact hpl x hx c hcr
 refine ⟨.slice (some ⟨Qn q,0,none⟩) l.length 1, .cells (P.cellsOf e) o.toList,some (Qn q),[Qn q],fun h=>X.buildSlice h1 ?_, .inl ⟨rfl,rfl⟩,?_,fun h=> ?_⟩
 ·simp only [YF,hu,hz]
  rw [if_pos ⟨hp,hb,hall,hs⟩,h3,if_neg (by omega)]
  rfl
 ·have:=V.os (σ:=fun k=>if k=nx then some (Qn q) else σ k) (hf:=hf) (nx:=nx+1) (a:=Qn q) (P.cellsOf e) nx 0 l.length 1 (by omega) (by simp) (by omega)
  rwa [Nat.zero_mul] at this
 ·have hfl:=Z2 hrows
  have hol:=hrl.1
  rw [hfl] at hol
  refine .rows (N:= []) (AH.upd_same _ _ _) (J3 q) hrows (by omega) ?_
  rw [List.take_of_length_le (by omega)]
  exact hrl.toSL
theorem OL.sliceS {st:ByteArray} {a b:Int} {i j:Nat} {ka kb:IntKind} (hx:VEv E x (.str st)) (hy:VEv E y (.int ka a)) (hz:VEv E z (.int kb b)) (ha:a=i) (hb:b=j) (h1:i≤j) (h2:j≤st.size) (hu:P.underlying tt=some .string):OL call P E O ⟨d, .slice tt x (some y) (some z) none,ty,ps,af,g⟩ (.str (st.extract i j)):=fun q p h0 σ hf own nx Ea h hs=>by
 subst ha
 subst hb
 obtain ⟨v,e1,e2⟩:=hx σ hf nx Ea hs.env
 obtain ⟨v',e3,e4⟩:=hy σ hf nx Ea hs.env
 obtain ⟨v'',e5,e6⟩:=hz σ hf nx Ea hs.env
 obtain rfl:=e2.strInv
 obtain rfl:=e4.intInv
 obtain rfl:=e6.intInv
 refine ⟨_,X.sliceBoth e1 e3 e5 ?_, .fz (.str _)⟩
 simp [Y0,hu,bnd,h1,h2]
theorem Qfv {hf H:AH} {v:Value} {lo hi:Option Value} {i j:Nat} (hm:∀a o,hf a=some o→H a=some o) (hr:R hf (.sl false sz rows) v) (hl0:bnd 0 lo=some i) (hh:bnd rows.length hi=some j) (hh0:hi=none∨∀n,bnd n hi=some j) (h1:i≤j) (h2:j≤rows.length) (hu:P.underlying tt=some (.slice e)) (hsz:P.cellsOf e=sz) (hif:(P.info? e).isSome=true) :
  ∃w,Y0 P tt H v lo hi=some w∧R hf (.sl false sz ((rows.drop i).take (j - i))) w:=by
 have hb0:rows= []→bnd 0 hi=some 0:=fun e=>by
  subst e
  obtain rfl:j=0:=by simpa using h2
  exact hh
 generalize hT:T.sl false sz rows=tr at hr
 cases hr<;>first | cases hT | skip
 ·obtain rfl:j=0:=by simpa using h2
  obtain rfl:i=0:=by omega
  exact ⟨_,by simp only [Y0,hu,hl0,hb0 Y];rw [if_pos ⟨trivial,trivial,hif⟩],by simpa using R.sl0 sz⟩
 ·obtain rfl:j=0:=by simpa using h2
  obtain rfl:i=0:=by omega
  exact ⟨_,by simp only [Y0,hu,hl0,hb0 Y,if_true];rw [if_pos ⟨trivial,trivial,hif⟩],by simpa using R.sle sz _ _ _⟩
 ·rename_i a es cs o m hm1 hk hes hlen hfit h3
  by_cases hr0:rows.length=0
  ·obtain rfl:=List.eq_nil_of_length_eq_zero hr0
   obtain rfl:j=0:=by simpa using h2
   obtain rfl:i=0:=by omega
   exact ⟨_,by simp only [Y0,hu,hl0,hb0 Y,List.length_nil,if_true];rw [if_pos ⟨trivial,trivial,hif⟩],by simpa using R.sle sz _ _ _⟩
  ·refine ⟨.slice (some ⟨a,o+i*P.cellsOf e,none⟩) (j - i) 1,?_,?_⟩
   ·simp only [Y0,hu,if_neg hr0,hl0,hh,hm _ _ hk]
    rw [if_pos ⟨h1,h2,hif,by rw [hsz];exact hes⟩]
   ·have hl2:((rows.drop i).take (j - i)).length=j - i:=by rw [List.length_take,List.length_drop];omega
    have hmem:∀r∈(rows.drop i).take (j - i),r.length=sz:=fun r hr=>hlen r (List.mem_of_mem_drop (List.mem_of_mem_take hr))
    rw [hsz]
    have hmul:j*sz≤rows.length*sz:=Nat.mul_le_mul_right _ h2
    have hmul2:(j - i)*sz+i*sz=j*sz:=by rw [← Nat.add_mul];congr 1;omega
    have key:R hf (.sl false sz ((rows.drop i).take (j - i))) (.slice (some ⟨a,o+i*sz,none⟩) ((rows.drop i).take (j - i)).length 1):= ?_
    ·rwa [hl2] at key
    refine .sl sz _ (o+i*sz) 1 (by omega) hk hes hmem (by rw [hl2];omega) (fun q hq=> ?_)
    rw [hl2] at hq
    have hszp:0<sz:=by
     rcases Nat.eq_zero_or_pos sz with h | h
     ·rw [h] at hq;omega
     ·exact h
    have hqd:q / sz<j - i:=Nat.div_lt_of_lt_mul (by rwa [Nat.mul_comm] at hq)
    have hqq:q / sz*sz+q % sz=q:=by rw [Nat.mul_comm];exact Nat.div_add_mod q sz
    have hlt:i+q / sz<rows.length:=by omega
    have e1:=Yp hlen (i:=i+q / sz) (j:=q % sz) (List.getElem?_eq_getElem hlt) (Nat.mod_lt _ hszp)
    have e2:=Yp hmem (i:=q / sz) (j:=q % sz) (row:=rows[i+q / sz]) (by rw [List.getElem?_take,if_pos hqd,List.getElem?_drop,List.getElem?_eq_getElem hlt]) (Nat.mod_lt _ hszp)
    rw [hqq] at e2
    rw [e2,← e1,Nat.add_mul,Nat.add_assoc (i*sz),hqq]
    have:=h3 (i*sz+q) (by omega)
    rw [show o+i*sz+q=o+(i*sz+q) by omega]
    exact this
theorem Qg4 {n i:Nat} {k:IntKind}:bnd n (some (.int k (i:Int)))=some i:=by simp [bnd]
theorem OL.sliceRLo {a:Int} {i:Nat} {ka:IntKind} (hx:VEv E x (.sl false sz rows)) (hy:VEv E y (.int ka a)) (ha:a=i) (h1:i≤rows.length) (hu:P.underlying tt=some (.slice e)) (hsz:P.cellsOf e=sz) (hif:(P.info? e).isSome=true) :
  OL call P E O ⟨d, .slice tt x (some y) none none,ty,ps,af,g⟩ (.sl false sz (rows.drop i)):=fun q p h0 σ hf own nx Ea h hs=>by
 subst ha
 obtain ⟨v,e1,e2⟩:=hx σ hf nx Ea hs.env
 obtain ⟨v',e3,e4⟩:=hy σ hf nx Ea hs.env
 obtain rfl:=e4.intInv
 obtain ⟨w,f1,f2⟩:=Qfv (fun a o ho=>(hs.fro a o ho).1) e2.slInv (lo:=some (.int ka i)) (hi:=none) (j:=rows.length) Qg4 Y (.inl Y) h1 (Nat.le_refl _) hu hsz hif
 rw [List.take_of_length_le (by rw [List.length_drop];omega)] at f2
 exact ⟨w,X.sliceLo e1 e3 f1, .fz f2⟩
theorem OL.sliceRHi {b:Int} {j:Nat} {kb:IntKind} (hx:VEv E x (.sl false sz rows)) (hz:VEv E z (.int kb b)) (hb:b=j) (h2:j≤rows.length) (hu:P.underlying tt=some (.slice e)) (hsz:P.cellsOf e=sz) (hif:(P.info? e).isSome=true) :
  OL call P E O ⟨d, .slice tt x none (some z) none,ty,ps,af,g⟩ (.sl false sz (rows.take j)):=fun q p h0 σ hf own nx Ea h hs=>by
 subst hb
 obtain ⟨v,e1,e2⟩:=hx σ hf nx Ea hs.env
 obtain ⟨v'',e5,e6⟩:=hz σ hf nx Ea hs.env
 obtain rfl:=e6.intInv
 obtain ⟨w,f1,f2⟩:=Qfv (fun a o ho=>(hs.fro a o ho).1) e2.slInv (lo:=none) (hi:=some (.int kb j)) (i:=0) Y Qg4 (.inr fun _=>Qg4) (Nat.zero_le _) h2 hu hsz hif
 rw [List.drop_zero,Nat.sub_zero] at f2
 exact ⟨w,X.sliceHi e1 e5 f1, .fz f2⟩
end
def RES (p:Nat) (h h':AH) (r:T) (v:Value):Prop:=∃N,S (fun _=>none) h' r v N∧N.Nodup∧∀a∈N,Under p a∧h a=none
def Pure (call:QO) (f:FuncId) (ts:List T) (r:T):Prop:=∀(h:AH) (p:Nat) (vs:List Value),Fr p h→RL h ts vs→CallS call f vs h p (fun v h'=>Quiet h h'∧RES p h h' r v)
def Lend (O:QB) (t t':T):Prop:=∀(p:Nat) (h0:LB) (σ:Nat→Option Nat) (hf:AH) (own:Nat→Option Nat) (E:Zc) (nx:Nat) (Ea:Nat→Value) (h:AH) (v:Value),SR p h0 σ hf own E O nx Ea h→V σ hf nx t v→R h t' v
def LendL (O:QB) (ts ts':List T):Prop:=ts.length=ts'.length∧∀i,i<ts.length→Lend O (ts.getD i .any) (ts'.getD i .any)
section
variable {O : QB} {t t' : T} {ts ts' : List T}
theorem SR.fr {p nx:Nat} {h0:LB} {hf h:AH} {σ own:Nat→Option Nat} {E:Zc} {Ea:Nat→Value} (hs:SR p h0 σ hf own E O nx Ea h):∀a o,hf a=some o→h a=some o:=fun a o ho=>(hs.fro a o ho).1
theorem Lend.pl (h:J4 t=true):Lend O t t:=fun p h0 σ hf own E nx Ea H v hs hv=>(hv.pl h).mono hs.fr
theorem LendL.nil : LendL O [] []:=⟨rfl,fun i hi=>by simp at hi⟩
theorem LendL.cons (h:Lend O t t') (hr:LendL O ts ts'):LendL O (t::ts) (t'::ts'):=by
 refine ⟨by simp [hr.1],fun i hi=> ?_⟩
 cases i with
 | zero=>simpa using h
 | succ i=>simpa using hr.2 i (by simpa using hi)
theorem LendL.app {us us':List T} (h:LendL O ts ts') (hr:LendL O us us'):LendL O (ts++us) (ts'++us'):=by
 refine ⟨by simp [h.1,hr.1],fun i hi=> ?_⟩
 rcases Nat.lt_or_ge i ts.length with h1 | h1
 ·have:=h.2 i h1
  rw [List.getD_eq_getElem?_getD,List.getD_eq_getElem?_getD] at this ⊢
  rwa [List.getElem?_append_left h1,List.getElem?_append_left (by rw [← h.1];exact h1)]
 ·rw [List.length_append] at hi
  have:=hr.2 (i - ts.length) (by omega)
  rw [List.getD_eq_getElem?_getD,List.getD_eq_getElem?_getD] at this ⊢
  rwa [List.getElem?_append_right h1,List.getElem?_append_right (by rw [← h.1];exact h1),← h.1]
theorem LendL.V {p nx:Nat} {h0:LB} {hf h:AH} {σ own:Nat→Option Nat} {E:Zc} {Ea:Nat→Value} {vs:List Value} (hl:LendL O ts ts') (hs:SR p h0 σ hf own E O nx Ea h) (hv:VL σ hf nx ts vs):RL h ts' vs :=
 ⟨by rw [← hl.1];exact hv.1,fun i hi=>hl.2 i (by rw [hl.1];exact hi) p h0 σ hf own E nx Ea h _ hs (hv.2 i (by rw [hl.1];exact hi))⟩
theorem Lend.os {sz k n:Nat} {rows rows':List (List T)} (hk:gO O k=some (.rows sz rows)) (hn:n=rows.length) (hz:QcV rows=rows'):Lend O (.os sz k 0 n) (.sl false sz rows'):=fun p h0 σ hf own E nx Ea h v hs hv=>by
 subst hn
 subst hz
 obtain ⟨N,hN1,hN2,h3⟩:=hs.objAt hk
 obtain ⟨hk',⟨a,m,rfl,h4,h5⟩ | ⟨h4,_,h5,h6⟩⟩:=hv.osInv
 ·rw [h4] at h3
  cases h3 with
  | rows hh hodd hlen hfit hsl =>
   have hS:=S.ow sz rows m h5 hh hodd hlen hfit hsl
   have:=hS.fzR hs.fr (fun _ _ _ e=>e)
   rw [Nat.zero_mul]
   simpa only [fz] using this
 ·obtain rfl:=List.eq_nil_of_length_eq_zero h5
  rcases h6 with rfl | ⟨a,o,rfl⟩
  ·exact .sl0 sz
  ·exact .sle sz a o 0
theorem Lend.op {k o:Nat} {us us':List T} (hk:gO O k=some (.cells us)) (hl:LendL O us us') (ho:o≤us.length) (he:us'.drop o=ts):Lend O (.op k o) (.rp ts):=fun p h0 σ hf own E nx Ea h v hs hv=>by
 subst he
 obtain ⟨N,hN1,hN2,h3⟩:=hs.objAt hk
 obtain ⟨a,rfl,h4,h5⟩:=hv.opInv
 rw [h4] at h3
 cases h3 with
 | cells hh hodd hvl =>
  have hr:=hl.V hs hvl
  have e1:=hl.1
  refine .rp _ o hh (by rw [List.length_drop];have:=hr.1;omega) (fun i hi=> ?_)
  rw [List.length_drop] at hi
  have:=hr.2 (o+i) (by omega)
  rwa [List.getD_eq_getElem?_getD (l:=us'.drop o),List.getElem?_drop,← List.getD_eq_getElem?_getD]
theorem Lend.agg (hl:LendL O ts ts'):Lend O (.agg ts) (.agg ts'):=fun p h0 σ hf own E nx Ea h v hs hv=>by
 obtain ⟨l,rfl,h1⟩:=hv.aggL
 have h2:=hl.V hs h1
 exact .agg _ _ (by simpa using h2.1) (Jm h2)
theorem V.fnL {σ:Nat→Option Nat} {hf:AH} {nx:Nat} {f:FuncId} {ts:List T} {v:Value} (h:V σ hf nx (.fn f ts) v):∃vs:List Value,v= .func (.func f) #[] vs.toArray∧VL σ hf nx ts vs:=by
 cases h with
 | fz hr =>
  cases hr with
  | fn _ _ vs hs h=>exact ⟨vs.toList,by simp,by simpa using hs,fun i hi=> .fz (by have:=h i hi;simpa [Array.getD_eq_getD_getElem?,List.getD_eq_getElem?_getD] using this)⟩
 | fn _ _ vs hs h=>exact ⟨vs.toList,by simp,by simpa using hs,fun i hi=>by have:=h i hi;simpa [Array.getD_eq_getD_getElem?,List.getD_eq_getElem?_getD] using this⟩
theorem Lend.fn {f:FuncId} (hl:LendL O ts ts'):Lend O (.fn f ts) (.fn f ts'):=fun p h0 σ hf own E nx Ea h v hs hv=>by
 obtain ⟨l,rfl,h1⟩:=hv.fnL
 have h2:=hl.V hs h1
 exact .fn f _ _ (by simpa using h2.1) (Jm h2)
end
mutual
def adopt : Nat→T→T×List Obj
 | n, .sl true sz rows=>(.os sz n 0 rows.length,[.rows sz rows])
 | n, .agg ts=>(.agg (adoptL n ts).1,(adoptL n ts).2)
 | n, .tup ts=>(.tup (adoptL n ts).1,(adoptL n ts).2)
 | _, .sl false sz rows=>(.sl false sz rows,[])
 | _, .any=>(.any,[])
 | _, .bool b=>(.bool b,[])
 | _, .int k n=>(.int k n,[])
 | _, .str s=>(.str s,[])
 | _, .ptr0=>(.ptr0,[])
 | _, .fn0=>(.fn0,[])
 | _, .nils=>(.nils,[])
 | _, .fn f cs=>(.fn f cs,[])
 | _, .rp cs=>(.rp cs,[])
 | _, .os sz k lo n=>(.os sz k lo n,[])
 | _, .op k o=>(.op k o,[])
 | _, .orp sz k i o=>(.orp sz k i o,[])
 | _, .om k=>(.om k,[])
 | _, .vp cs=>(.vp cs,[])
 | _, .ex p n m t=>(.ex p n m t,[])
def adoptL : Nat→List T→List T×List Obj
 | _,[]=>([],[])
 | n,t::r=>((adopt n t).1::(adoptL (n+(adopt n t).2.length) r).1,(adopt n t).2++(adoptL (n+(adopt n t).2.length) r).2)
end
def Qbz : QB→Nat→List Obj→QB
 | O,_,[]=>O
 | O,n,o::r=>Qbz ((n,some o)::O) (n+1) r
theorem Qdg : ∀(a:List Obj) (O:QB) (n:Nat) (b:List Obj),Qbz O n (a++b)=Qbz (Qbz O n a) (n+a.length) b
 | [],O,n,b=>by simp [Qbz]
 | o::r,O,n,b=>by
  rw [List.cons_append,Qbz,Qbz,Qdg r,List.length_cons,show n+1+r.length=n+(r.length+1) by omega]
theorem Qb1 : ∀(ts:List T) (n:Nat),(∀i,i<ts.length→∀n,adopt n (ts.getD i .any)=(ts.getD i .any,[]))→adoptL n ts=(ts,[])
 | [],n,_=>rfl
 | t::r,n,h=>by
  have h1:=h 0 (by simp) n
  simp only [List.getD_cons_zero] at h1
  unfold adoptL
  rw [h1,Qb1 r _ (fun i hi n=>by simpa using h (i+1) (by simpa using hi) n)]
  rfl
theorem Qmt {hf:AH} {t:T} {v:Value} (h:R hf t v):∀n,adopt n t=(t,[]):=by
 induction h with
 | agg ts vs hs _ ih=>intro n;unfold adopt;rw [Qb1 ts n ih]
 | tup ts vs hs _ ih=>intro n;unfold adopt;rw [Qb1 ts n ih]
 | _=>intro n;rfl
mutual
theorem S.names {hf h:AH}:∀ {t:T} {v:Value} {N:List Nat},S hf h t v N→∀a∈N,h a≠none
 | _,_,_, .fz hr,a,ha=>by cases ha
 | _,_,_, .ow0 sz,a,ha=>by cases ha
 | _,_,_, .owe sz b o,a,ha=>by cases ha
 | _,_,_, .ow sz rows m hm hk hodd hlen hfit hs,a,ha=>by
  rcases List.mem_cons.1 ha with rfl | ha
  ·rw [hk];simp
  ·exact SL.names hs a ha
 | _,_,_, .agg hs,a,ha=>SL.names hs a ha
 | _,_,_, .tup hs,a,ha=>SL.names hs a ha
theorem SL.names {hf h:AH}:∀ {t:List T} {v:List Value} {N:List Nat},SL hf h t v N→∀a∈N,h a≠none
 | _,_,_, .nil,a,ha=>by cases ha
 | _,_,_, .cons hs hr,a,ha=>(List.mem_append.1 ha).elim (S.names hs a) (SL.names hr a)
end
section
variable {p : Nat} {h0 : LB} {hf h : AH} {E : Zc} {Ea : Nat → Value}
open Classical in
theorem SR.take1 {σ own:Nat→Option Nat} {O:QB} {nx:Nat} {oa:Option Nat} {N:List Nat} {obj:Obj} (hs:SR p h0 σ hf own E O nx Ea h) (hnd:N.Nodup) (hN:∀a∈N,UL p h0 a∧h0.h a=none∧h a≠none∧hf a=none∧own a=none) (ho:∀σ' nx',ObjR σ' hf nx' h obj oa N) :
    SR p h0 (fun k=>if k=nx then oa else σ k) hf (fun a=>if a∈N then some nx else own a) E ((nx,some obj)::O) (nx+1) Ea h:=by
  have hx:=hs.ext (nx':=nx+1) (σ':=fun k=>if k=nx then oa else σ k) (own':=fun a=>if a∈N then some nx else own a) (h':=h) (by omega) (Qet _)
    (fun a k ha=>by
      have:a∉N:=fun hn=>by rw [(hN a hn).2.2.2.2] at ha;cases ha
      simp only [if_neg this]
      exact ha)
    (fun a k ha=>by
      split at ha
      · rename_i hn
        obtain ⟨h1,h2,h3,h4,h5⟩:=hN a hn
        obtain rfl:=Option.some.inj ha
        exact .inr ⟨h1,h2,h3,by omega,h4⟩
      · exact .inl ha)
    (fun _ _=>rfl) hs.dom
  refine ⟨hx.env,fun k o hk=> ?_,hx.fro,hx.mine,hx.base,hx.dom⟩
  simp only [gO] at hk
  split at hk
  · rename_i e
    subst e
    obtain rfl:=Option.some.inj hk
    exact ⟨by omega,N,hnd,fun a ha=>by simp only [if_pos ha],by simpa using ho _ _⟩
  · exact hx.obj k o hk
def QmL (p:Nat) (h0:LB) (hf h:AH) (own:Nat→Option Nat) (N:List Nat):Prop:=∀a∈N,UL p h0 a∧h0.h a=none∧h a≠none∧hf a=none∧own a=none
mutual
theorem S.adopt : ∀ {t:T} {v:Value} {N:List Nat} {σ own:Nat→Option Nat} {O:QB} {nx:Nat},S (fun _=>none) h t v N→SR p h0 σ hf own E O nx Ea h→N.Nodup→QmL p h0 hf h own N →
  ∃σ' own',SR p h0 σ' hf own' E (Qbz O nx (adopt nx t).2) (nx+(adopt nx t).2.length) Ea h∧(∀k,k<nx→σ' k=σ k)∧V σ' hf (nx+(adopt nx t).2.length) (AE.adopt nx t).1 v∧(∀a,a∉N→own' a=own a)
 | t,v,_,σ,own,O,nx, .fz hr,hs,hnd,hfr=>by
  rw [Qmt hr]
  exact ⟨σ,own,hs,fun _ _=>rfl, .fz (hr.mono (fun a o e=>by cases e)),fun _ _=>rfl⟩
 | _,_,_,σ,own,O,nx, .ow0 sz,hs,hnd,hfr=>by
  have:=hs.take1 (oa:=none) (N:= []) (obj:= .rows sz []) (by simp) (by simp) (fun _ _=> .none sz)
  exact ⟨_,_,this,Qet _, .os0 sz nx (by simp [AE.adopt]) (by simp),fun a ha=>by simp⟩
 | _,_,_,σ,own,O,nx, .owe sz b o,hs,hnd,hfr=>by
  have:=hs.take1 (oa:=none) (N:= []) (obj:= .rows sz []) (by simp) (by simp) (fun _ _=> .none sz)
  exact ⟨_,_,this,Qet _, .ose sz nx b o (by simp [AE.adopt]) (by simp),fun a ha=>by simp⟩
 | _,_,_,σ,own,O,nx, .ow (a:=a) (N:=N) sz rows m hm hk hodd hlen hfit hsl,hs,hnd,hfr=>by
  have:=hs.take1 (oa:=some a) (N:=a::N) (obj:= .rows sz rows) hnd hfr (fun _ _=> .rows hk hodd hlen hfit (hsl.mono (fun a o e=>by cases e) (fun _ _=>rfl)))
  refine ⟨_,_,this,Qet _,?_,fun a ha=>by simp only [if_neg ha]⟩
  have h2:=V.os (σ:=fun k=>if k=nx then some a else σ k) (hf:=hf) (nx:=nx+1) (a:=a) sz nx 0 rows.length m (by omega) (by simp) hm
  rw [Nat.zero_mul] at h2
  exact h2
 | _,_,_,σ,own,O,nx, .agg (ts:=ts) hsl,hs,hnd,hfr=>by
  obtain ⟨σ',own',h1,h2,h3,h4⟩:=SL.adopt hsl hs hnd hfr
  unfold AE.adopt
  exact ⟨σ',own',h1,h2,h3.toAgg,h4⟩
 | _,_,_,σ,own,O,nx, .tup (ts:=ts) hsl,hs,hnd,hfr=>by
  obtain ⟨σ',own',h1,h2,h3,h4⟩:=SL.adopt hsl hs hnd hfr
  unfold AE.adopt
  exact ⟨σ',own',h1,h2,h3.toTup,h4⟩
theorem SL.adopt : ∀ {t:List T} {v:List Value} {N:List Nat} {σ own:Nat→Option Nat} {O:QB} {nx:Nat},SL (fun _=>none) h t v N→SR p h0 σ hf own E O nx Ea h→N.Nodup→QmL p h0 hf h own N →
  ∃σ' own',SR p h0 σ' hf own' E (Qbz O nx (adoptL nx t).2) (nx+(adoptL nx t).2.length) Ea h∧(∀k,k<nx→σ' k=σ k)∧VL σ' hf (nx+(adoptL nx t).2.length) (AE.adoptL nx t).1 v∧(∀a,a∉N→own' a=own a)
 | _,_,_,σ,own,O,nx, .nil,hs,hnd,hfr=>⟨σ,own,hs,fun _ _=>rfl,VL.nil _ _ _,fun _ _=>rfl⟩
 | _,_,_,σ,own,O,nx, .cons (t:=t) (ts:=ts) (N:=N) (M:=M) h1 h2,hs,hnd,hfr=>by
  rw [List.nodup_append] at hnd
  obtain ⟨σ1,own1,a1,a2,a3,a4⟩:=S.adopt h1 hs hnd.1 (fun a ha=>hfr a (by simp [ha]))
  have hdis:∀a∈M,a∉N:=fun a ha hn=>hnd.2.2 a hn a ha Y
  obtain ⟨σ2,own2,b1,b2,b3,b4⟩:=SL.adopt h2 a1 hnd.2.1 (fun a ha=>by
   obtain ⟨g1,g2,g3,g4,g5⟩:=hfr a (by simp [ha])
   exact ⟨g1,g2,g3,g4,(a4 a (hdis a ha)).trans g5⟩)
  unfold AE.adoptL
  simp only [Qdg,List.length_append,← Nat.add_assoc]
  refine ⟨σ2,own2,b1,fun k hk=>(b2 k (by omega)).trans (a2 k hk), .cons (a3.mono (fun _ _ e=>e) (by omega) b2) b3,fun a ha=> ?_⟩
  rw [b4 a (fun hm=>ha (by simp [hm])),a4 a (fun hm=>ha (by simp [hm]))]
end
end
section
variable {call : QO} {P : Program} {E : Zc} {O : QB} {d : Option Tmp} {ty tt s e xt : TypeId} {ps : String} {af : Array Edge} {g : Option (Nat × Bool)} {x y z : Operand} {t u w : T} {nx sz : Nat} {rows rows2 : List (List T)} {ks ks2 : List Nat}
theorem OC.callX {f:FuncId} {o:Oper} {us:List T} {r r':T} {objs:List Obj} (ho:∀(q p:Nat) (h0:LB) (σ:Nat→Option Nat) (hf:AH) (own:Nat→Option Nat) (Ea:Nat→Value) (h:AH),SR p h0 σ hf own E O nx Ea h→∃vs,aop P q Ea h o=some (.enter f vs)∧RL h us vs) (hp:Pure call f us r) (had:adopt nx r=(r',objs)) :
  OC call P E O nx o r' (Qbz O nx objs) (nx+objs.length) []:=⟨Nat.le_add_right _ _,fun q p h0 σ hf own Ea h hs hu hF=>by
 obtain ⟨vs,h1,h2⟩:=ho q p h0 σ hf own Ea h hs
 have h3:=hp h q vs hF h2
 unfold CallS at h3
 obtain ⟨v,h',h4,h5,h6,N,h7,h8,h9⟩:=h3
 have hfn:∀a,h a=none→hf a=none:=fun a ha=>by
  cases hh:hf a with
  | none=>rfl
  | some o=>rw [(hs.fro _ _ hh).1] at ha;cases ha
 have h0n:∀a,h a=none→h0.h a=none:=fun a ha=>by
  cases hh:h0.h a with
  | none=>rfl
  | some o =>
   have e1:=hs.base a (by rw [hh];simp)
   rw [hfn a ha,hh] at e1
   cases e1
 have hs':=hs.ext (nx':=nx) (σ':=σ) (own':=own) (h':=h') (Nat.le_refl _) (fun _ _=>rfl) (fun _ _ e=>e) (fun _ _ e=> .inl e) h6 (fun a ha=>by
  rcases h5 a ha with e | e
  ·exact hs.dom a e
  ·exact .inr (hu a e))
 obtain ⟨σ',own',b1,b2,b3,b4⟩:=S.adopt h7 hs' h8 (fun a ha=>by
  obtain ⟨g1,g2⟩:=h9 a ha
  refine ⟨hu a g1,h0n a g2,h7.names a ha,hfn a g2,?_⟩
  cases hh:own a with
  | none=>rfl
  | some k=>exact absurd g2 (hs.mine a k hh).2.2.1)
 rw [had] at b1 b3
 refine ⟨v,h',σ',own',by simp only [QD,h1,h4],h5,b2,b1,b3,fun a ha _=>h6 a ha,fun a k hk=> ?_⟩
 by_cases hn:a∈N
 ·exact .inr (.inl (h9 a hn).2)
 ·rw [b4 a hn] at hk
  exact .inl hk⟩
theorem OC.callF {f:FuncId} {args:Array Operand} {tys:Array TypeId} {ts us:List T} {r r':T} {objs:List Obj} (hb:YA P f=true) (ha:VEvs E args.toList ts) (hl:LendL O ts us) (hp:Pure call f us r) (had:adopt nx r=(r',objs)) :
  OC call P E O nx ⟨d, .call ⟨.value (.func f),args,tys⟩,ty,ps,af,g⟩ r' (Qbz O nx objs) (nx+objs.length) []:=OC.callX (fun q p h0 σ hf own Ea h hs=>by
 obtain ⟨vs,h1,h2⟩:=ha σ hf nx Ea hs.env
 exact ⟨vs,X.calls hb h1,hl.V hs h2⟩) hp had
theorem OC.callv {f:FuncId} {a:Tmp} {args:Array Operand} {tys:Array TypeId} {ts us caps ucaps:List T} {r r':T} {objs:List Obj} (hf:gE E a= .fn f caps) (hb:YA P f=true) (ha:VEvs E args.toList ts) (hl:LendL O ts us) (hlc:LendL O caps ucaps) (hp:Pure call f (us++ucaps) r) (had:adopt nx r=(r',objs)) :
  OC call P E O nx ⟨d, .call ⟨.value (.tmp a),args,tys⟩,ty,ps,af,g⟩ r' (Qbz O nx objs) (nx+objs.length) []:=OC.callX (fun q p h0 σ hf' own Ea h hs=>by
 obtain ⟨vs,h1,h2⟩:=ha σ hf' nx Ea hs.env
 have h3:=hs.env a
 rw [hf] at h3
 obtain ⟨cs,h4,h5⟩:=h3.fnL
 refine ⟨vs++cs,by have:=X.callv (P:=P) (p:=q) (h:=h) (d:=d) (ty:=ty) (ps:=ps) (af:=af) (g:=g) (ts:=tys) h4 hb h1;simpa using this,?_⟩
 refine (hl.app hlc).V hs ⟨by simp [h2.1,h5.1],fun i hi=> ?_⟩
 rcases Nat.lt_or_ge i ts.length with g1 | g1
 ·have:=h2.2 i g1
  rw [List.getD_eq_getElem?_getD,List.getD_eq_getElem?_getD] at this ⊢
  rwa [List.getElem?_append_left g1,List.getElem?_append_left (by rw [← h2.1];exact g1)]
 ·rw [List.length_append] at hi
  have:=h5.2 (i - ts.length) (by omega)
  rw [List.getD_eq_getElem?_getD,List.getD_eq_getElem?_getD] at this ⊢
  rwa [List.getElem?_append_right g1,List.getElem?_append_right (by rw [← h2.1];exact g1),← h2.1]) hp had
end
mutual
theorem S.clean {hf hf' h:AH}:∀ {t:T} {v:Value} {N:List Nat},S hf h t v N→Clean t→S hf' h t v N
 | _,_,_, .fz hr,hc=> .fz (hr.clean hc hf')
 | _,_,_, .ow0 sz,hc=> .ow0 sz
 | _,_,_, .owe sz a o,hc=> .owe sz a o
 | _,_,_, .ow sz rows m hm hk hodd hlen hfit hs, .sl _ _ hc=> .ow sz rows m hm hk hodd hlen hfit (SL.clean hs (fun t ht=>by
   obtain ⟨r,hr,htr⟩:=List.mem_flatten.1 ht
   exact hc r hr t htr))
 | _,_,_, .agg hs, .agg _ hc=> .agg (SL.clean hs hc)
 | _,_,_, .tup hs, .tup _ hc=> .tup (SL.clean hs hc)
theorem SL.clean {hf hf' h:AH}:∀ {t:List T} {v:List Value} {N:List Nat},SL hf h t v N→(∀x∈t,Clean x)→SL hf' h t v N
 | _,_,_, .nil,hc=> .nil
 | _,_,_, .cons hs hr,hc=> .cons (S.clean hs (hc _ (by simp))) (SL.clean hr (fun x hx=>hc x (by simp [hx])))
end
def Give (O:QB) (ks:List Nat) (t r:T):Prop:=∀(p:Nat) (h0:LB) (σ:Nat→Option Nat) (hf:AH) (own:Nat→Option Nat) (E:Zc) (nx:Nat) (Ea:Nat→Value) (h:AH) (v:Value),SR p h0 σ hf own E O nx Ea h→V σ hf nx t v→∃N,S (fun _=>none) h r v N∧N.Nodup∧∀a∈N,∃k∈ks,own a=some k
def GiveL (O:QB) (ks:List Nat) (ts rs:List T):Prop:=∀(p:Nat) (h0:LB) (σ:Nat→Option Nat) (hf:AH) (own:Nat→Option Nat) (E:Zc) (nx:Nat) (Ea:Nat→Value) (h:AH) (vs:List Value),SR p h0 σ hf own E O nx Ea h→VL σ hf nx ts vs→∃N,SL (fun _=>none) h rs vs N∧N.Nodup∧∀a∈N,∃k∈ks,own a=some k
section
variable {O : QB} {ks ks2 : List Nat} {t r : T} {ts rs : List T}
theorem Give.pl (h:J4 t=true) (hc:Clean t):Give O [] t t:=fun p h0 σ hf own E nx Ea H v hs hv=>⟨[], .fz ((hv.pl h).clean hc _),by simp,by simp⟩
theorem Give.bool (b:Bool):Give O [] (.bool b) (.bool b):= .pl Y (.bool b)
theorem Give.int (k:IntKind) (n:Int):Give O [] (.int k n) (.int k n):= .pl Y (.int k n)
theorem Give.str (s:ByteArray):Give O [] (.str s) (.str s):= .pl Y (.str s)
theorem Give.nils (sz:Nat):Give O [] .nils (.sl true sz []):=fun p h0 σ hf own E nx Ea H v hs hv=>by
 obtain rfl:=hv.nilsInv
 exact ⟨[], .ow0 sz,by simp,by simp⟩
theorem Give.os {sz k n:Nat} {rows:List (List T)} (hk:gO O k=some (.rows sz rows)) (hn:n=rows.length) (hc:∀r∈rows,∀t∈r,Clean t):Give O [k] (.os sz k 0 n) (.sl true sz rows):=fun p h0 σ hf own E nx Ea h v hs hv=>by
 subst hn
 obtain ⟨N,hN1,hN2,h3⟩:=hs.objAt hk
 obtain ⟨hk',⟨a,m,rfl,h4,h5⟩ | ⟨h4,_,h5,h6⟩⟩:=hv.osInv
 ·rw [h4] at h3
  cases h3 with
  | rows hh hodd hlen hfit hsl =>
   rename_i cs N
   rw [Nat.zero_mul]
   exact ⟨a::N, .ow sz rows m h5 hh hodd hlen hfit (hsl.clean (fun t ht=>by
    obtain ⟨r,hr,htr⟩:=List.mem_flatten.1 ht
    exact hc r hr t htr)),hN1,fun b hb=>⟨k,by simp,hN2 b hb⟩⟩
 ·obtain rfl:=List.eq_nil_of_length_eq_zero h5
  rcases h6 with rfl | ⟨a,o,rfl⟩
  ·exact ⟨[], .ow0 sz,by simp,by simp⟩
  ·exact ⟨[], .owe sz a o,by simp,by simp⟩
theorem GiveL.nil : GiveL O [] [] []:=fun p h0 σ hf own E nx Ea h vs hs hv=>by
 obtain rfl:=List.eq_nil_of_length_eq_zero hv.1.symm
 exact ⟨[], .nil,by simp,by simp⟩
theorem GiveL.cons (h1:Give O ks t r) (h2:GiveL O ks2 ts rs) (hd:∀k∈ks,k∉ks2):GiveL O (ks++ks2) (t::ts) (r::rs):=fun p h0 σ hf own E nx Ea h vs hs hv=>by
 obtain ⟨v,l,rfl,g1,g2⟩:=hv.tail
 obtain ⟨N,a1,a2,a3⟩:=h1 p h0 σ hf own E nx Ea h v hs g1
 obtain ⟨M,b1,b2,b3⟩:=h2 p h0 σ hf own E nx Ea h l hs g2
 refine ⟨N++M, .cons a1 b1,?_,fun a ha=> ?_⟩
 ·rw [List.nodup_append]
  refine ⟨a2,b2,fun a ha b hb e=> ?_⟩
  subst e
  obtain ⟨k,hk,e1⟩:=a3 a ha
  obtain ⟨k2,hk2,e2⟩:=b3 a hb
  rw [e1] at e2
  exact hd k hk (by rw [Option.some.inj e2];exact hk2)
 ·rcases List.mem_append.1 ha with ha | ha
  ·obtain ⟨k,hk,e⟩:=a3 a ha
   exact ⟨k,by simp [hk],e⟩
  ·obtain ⟨k,hk,e⟩:=b3 a ha
   exact ⟨k,by simp [hk],e⟩
theorem Give.agg (h:GiveL O ks ts rs):Give O ks (.agg ts) (.agg rs):=fun p h0 σ hf own E nx Ea H v hs hv=>by
 obtain ⟨l,rfl,h1⟩:=hv.aggL
 obtain ⟨N,a1,a2,a3⟩:=h p h0 σ hf own E nx Ea H l hs h1
 exact ⟨N, .agg a1,a2,a3⟩
end
inductive VRes (P:Program) (E:Zc) (O:QB):List ResultVar→List T→Prop
 | nil:VRes P E O [] []
 | tmp {a:Tmp} {t:T} {rs:List ResultVar} {ts:List T} (h:gE E a=t) (hr:VRes P E O rs ts):VRes P E O (.tmp a::rs) (t::ts)
 | cell1 {a:Tmp} {tt:TypeId} {k o:Nat} {us:List T} {t:T} {rs:List ResultVar} {ts:List T} (h:gE E a= .op k o) (hk:gO O k=some (.cells us)) (ht:us[o]? =some t) (hst:Qw P tt=some false) (hr:VRes P E O rs ts):VRes P E O (.cell a tt::rs) (t::ts)
 | celln {a:Tmp} {tt:TypeId} {k o n:Nat} {us ws:List T} {rs:List ResultVar} {ts:List T} (h:gE E a= .op k o) (hk:gO O k=some (.cells us)) (hst:Qw P tt=some true) (hn:P.cellsOf tt=n) (hle:o+n≤us.length) (hu:(us.drop o).take n=ws) (hr:VRes P E O rs ts):VRes P E O (.cell a tt::rs) (.agg ws::ts)
def QdR : List T→T
 | [t]=>t
 | l=> .tup l
theorem V.aload1 {P:Program} {p nx:Nat} {h0:LB} {hf h:AH} {σ own:Nat→Option Nat} {E:Zc} {O:QB} {Ea:Nat→Value} {tt:TypeId} {k o:Nat} {us:List T} {t:T} {v:Value} (hs:SR p h0 σ hf own E O nx Ea h) (hv:V σ hf nx (.op k o) v) (hk:gO O k=some (.cells us)) (ht:us[o]? =some t) (hst:Qw P tt=some false) :
  ∃w,QaF P tt h v=some w∧V σ hf nx t w:=by
 obtain ⟨a,rfl,h3,h4⟩:=hv.opInv
 obtain ⟨N,hN1,hN2,h5⟩:=hs.objAt hk
 rw [h3] at h5
 cases h5 with
 | cells hh hodd hv =>
  rename_i es cs
  have hlt:o<us.length:=(List.getElem?_eq_some_iff.1 ht).1
  have hlt':o<cs.length:=by rw [← hv.1];exact hlt
  have h6:=hv.2 o hlt
  rw [List.getD_eq_getElem?_getD,ht,List.getD_eq_getElem?_getD,List.getElem?_eq_getElem hlt'] at h6
  exact ⟨cs[o],J9 hst hh (List.getElem?_eq_getElem hlt'),h6⟩
theorem V.aloadn {P:Program} {p nx:Nat} {h0:LB} {hf h:AH} {σ own:Nat→Option Nat} {E:Zc} {O:QB} {Ea:Nat→Value} {tt:TypeId} {k o n:Nat} {us:List T} {v:Value} (hs:SR p h0 σ hf own E O nx Ea h) (hv:V σ hf nx (.op k o) v) (hk:gO O k=some (.cells us)) (hst:Qw P tt=some true) (hn:P.cellsOf tt=n) (hle:o+n≤us.length) :
  ∃w,QaF P tt h v=some w∧V σ hf nx (.agg ((us.drop o).take n)) w:=by
 obtain ⟨a,rfl,h3,h4⟩:=hv.opInv
 obtain ⟨N,hN1,hN2,h5⟩:=hs.objAt hk
 rw [h3] at h5
 cases h5 with
 | cells hh hodd hv =>
  rename_i es cs
  have hl:=hv.1
  refine ⟨_,Qcd hst hn hh (by omega) Y,VL.toAgg ⟨by simp;omega,fun i hi=> ?_⟩⟩
  have hi':i<n:=by simp at hi;omega
  have:=hv.2 (o+i) (by omega)
  rw [List.getD_eq_getElem?_getD,List.getElem?_take,if_pos hi',List.getElem?_drop,← List.getD_eq_getElem?_getD,List.getD_eq_getElem?_getD (l:=List.take _ _),List.getElem?_take,if_pos hi',List.getElem?_drop,← List.getD_eq_getElem?_getD]
  exact this
theorem VRes.run {P:Program} {p nx:Nat} {h0:LB} {hf h:AH} {σ own:Nat→Option Nat} {E:Zc} {O:QB} {Ea:Nat→Value} (hs:SR p h0 σ hf own E O nx Ea h) {rs:List ResultVar} {ts:List T} (hr:VRes P E O rs ts):∃l,Qat P h Ea rs=some l∧VL σ hf nx ts l:=by
 induction hr with
 | nil=>exact ⟨[],rfl,VL.nil _ _ _⟩
 | tmp h1 _ ih =>
  obtain ⟨l,h2,h3⟩:=ih
  exact ⟨_,Qh5 Y h2, .cons (h1▸hs.env _) h3⟩
 | cell1 h1 hk ht hst _ ih =>
  obtain ⟨l,h2,h3⟩:=ih
  obtain ⟨w,h4,h5⟩:=V.aload1 hs (h1▸hs.env _) hk ht hst
  exact ⟨_,QgL Y h4 h2, .cons h5 h3⟩
 | celln h1 hk hst hn hle hu _ ih =>
  obtain ⟨l,h2,h3⟩:=ih
  obtain ⟨w,h4,h5⟩:=V.aloadn hs (h1▸hs.env _) hk hst hn hle
  subst hu
  exact ⟨_,QgL Y h4 h2, .cons h5 h3⟩
def vfin (P:Program) (rs:List ResultVar) (r:T):AX→Zc→QB→Nat→Prop
 | .exit _,_,_,_=>False
 | _,E,O,_=>∃ts ks,VRes P E O rs ts∧Give O ks (QdR ts) r
theorem vfin.r {P:Program} {rs:List ResultVar} {r:T} {E:Zc} {O:QB} {nx:Nat} {ts:List T} {ks:List Nat} (h:VRes P E O rs ts) (hg:Give O ks (QdR ts) r):vfin P rs r .ret E O nx:=⟨ts,ks,h,hg⟩
theorem QfU {hf h:AH} {t:T} {v:Value} {N:List Nat} (hs:S hf h t v N) (hc:closed1 v=true):N= []∧∀h',S hf h' t v []:=by
 cases hs with
 | fz hr=>exact ⟨rfl,fun _=> .fz hr⟩
 | ow0 sz=>exact ⟨rfl,fun _=> .ow0 sz⟩
 | owe sz a o=>simp [closed1] at hc
 | ow sz rows m hm hk hodd hlen hfit hs=>simp [closed1] at hc
 | agg hs=>simp [closed1] at hc
 | tup hs=>simp [closed1] at hc
theorem QaT {hf h:AH}:∀ {ts:List T} {vs:List Value} {N:List Nat},SL hf h ts vs N→vs.all closed1=true→N= []∧∀h',SL hf h' ts vs []
 | _,_,_, .nil,_=>⟨rfl,fun _=> .nil⟩
 | _,_,_, .cons hs hr,hc=>by
  rw [List.all_cons,Bool.and_eq_true] at hc
  obtain ⟨rfl,h1⟩:=QfU hs hc.1
  obtain ⟨rfl,h2⟩:=QaT hr hc.2
  exact ⟨rfl,fun h'=> .cons (N:= []) (M:= []) (h1 h') (h2 h')⟩
theorem Qeq {hf h:AH} {t:T} {v:Value} {N:List Nat} (hs:S hf h t v N) (hc:Zk v=true):N= []∧∀h',S hf h' t v []:=by
 cases hs with
 | fz hr=>exact ⟨rfl,fun _=> .fz hr⟩
 | ow0 sz=>exact ⟨rfl,fun _=> .ow0 sz⟩
 | owe sz a o=>simp [Zk,closedV,closed1] at hc
 | ow sz rows m hm hk hodd hlen hfit hs=>simp [Zk,closedV,closed1] at hc
 | agg hs =>
  obtain ⟨rfl,h1⟩:=QaT hs (by simpa [Zk,closedV] using hc)
  exact ⟨rfl,fun h'=> .agg (h1 h')⟩
 | tup hs =>
  obtain ⟨rfl,h1⟩:=QaT hs (by simpa [Zk] using hc)
  exact ⟨rfl,fun h'=> .tup (h1 h')⟩
def Qep : Nat→List T→Zc
 | _,[]=> []
 | n,t::r=>(n,t)::Qep (n+1) r
theorem Qdh : ∀(ts:List T) (n i:Nat),gE (Qep n ts) i=if i<n then .any else ts.getD (i - n) .any
 | [],n,i=>by simp [Qep,gE]
 | t::r,n,i=>by
  simp only [Qep,gE,Qdh r]
  by_cases h:i=n
  ·subst h;simp
  ·by_cases h2:i<n
   ·simp [h,h2,show i<n+1 by omega]
   ·have e:i - n=(i - (n+1))+1:=by omega
    rw [if_neg h,if_neg (by omega),if_neg h2,e,List.getD_cons_succ]
theorem Pure.intro {P:Program} {f:FuncId} {fn:Func} {c:Code} {n:Nat} {ts:List T} {r:T} (hf:P.funcs[f]? =some fn) (hb:fn.body=some c) (hc:ZZ fn.ntmps c=true) {rs:List ResultVar} (hrs:fn.results.toList=rs) {E0:Zc} (hE:Qep 0 ts=E0) (hr:VRun (Qs P n) P c E0 [] 0 (vfin P rs r)) (hpr:QcF f=true:=by rfl):Pure (Qs P (n+1)) f ts r:=by
 subst hE
 intro h p vs hfr hvs
 have hs:SR p ⟨h,fun _=>False⟩ (fun _=>none) h (fun _=>none) (Qep 0 ts) [] 0 (fun t=>vs.getD t undef) h:=by
  refine ⟨fun t=> ?_,fun k o hk=>(by cases hk),fun a o ha=>⟨ha,rfl⟩,fun a k ha=>(by cases ha),fun _ _=>rfl,fun t ht=> .inl ht⟩
  rw [Qdh,if_neg (by omega),Nat.sub_zero]
  rcases Nat.lt_or_ge t ts.length with h1 | h1
  ·exact .fz (hvs.2 t h1)
  ·rw [List.getD_eq_getElem?_getD,List.getElem?_eq_none h1]
   exact .any _
 unfold VRun at hr
 refine CallS.intro (hpr:=hpr) (Q:=fun v h'=>Quiet h h'∧RES p h h' r v) hf hb hc hfr hrs (Run.mono (hr p _ _ h _ _ h 0 hs) ?_)
 rintro e s' ⟨σ,hf',own,E,O,nx,h1,h2⟩
 have key:(∃ts ks,VRes P E O rs ts∧Give O ks (QdR ts) r)→∃l,Qat P s'.h s'.E rs=some l∧(fun v h'=>Quiet h h'∧RES p h h' r v) (Jc l) (if Zk (Jc l) then YW h s'.h else QbH p h s'.h):=by
  rintro ⟨us,ks,g1,g2⟩
  obtain ⟨l,g3,g4⟩:=g1.run h1
  have g5:V σ hf' nx (QdR us) (Jc l):=by
   have hlen:=g4.1
   match us,l,g4,hlen with
   | [],[],g4,_=>exact g4.toTup
   | [t],[v],g4,_ =>
    obtain ⟨v',r',e,g6,_⟩:=g4.tail
    cases e
    exact g6
   | t::t'::us,v::v'::l,g4,_=>exact g4.toTup
   | [],_::_,_,hl=>cases hl
   | [_],[],_,hl=>cases hl
   | [_],_::_::_,_,hl=>cases hl
   | _::_::_,[],_,hl=>cases hl
   | _::_::_,[_],_,hl=>cases hl
  obtain ⟨N,g6,g7,g8⟩:=g2 p _ σ hf' own E nx s'.E s'.h _ h1 g5
  have hq:Quiet h s'.h:=fun a ha=>by
   have e1:hf' a=h a:=h1.base a ha
   obtain ⟨o,ho⟩:=Option.ne_none_iff_exists'.1 ha
   rw [ho] at e1
   rw [(h1.fro a o e1).1,ho]
  refine ⟨l,g3,?_⟩
  by_cases ht:Zk (Jc l)=true
  ·rw [if_pos ht,Qh0 hq]
   obtain ⟨rfl,g9⟩:=Qeq g6 ht
   exact ⟨Quiet.refl _,[],g9 h,by simp,by simp⟩
  ·rw [if_neg ht]
   have hN:∀a∈N,Under p a∧h a=none:=fun a ha=>by
    obtain ⟨k,_,e⟩:=g8 a ha
    exact ⟨(h1.mine a k e).1.elim id (fun z=>z.elim),(h1.mine a k e).2.1⟩
   exact ⟨Qi4 hq,N,g6.mono (fun _ _ e=>e) (fun a ha=>QeJ (.inr (hN a ha).1)),g7,hN⟩
 cases e with
 | normal=>unfold fin;exact key h2
 | ret=>unfold fin;exact key h2
 | exit id=>exact h2.elim
open Classical in
theorem Wk.freeze {E:Zc} {O:QB} {nx sz k n:Nat} {rows rows':List (List T)} (ds:List Nat) (hd:∀d∈ds,gE E d= .os sz k 0 n) (hk:gO O k=some (.rows sz rows)) (hn:n=rows.length) (hz:QcV rows=rows'):Wk E O nx (ds.map (fun d=>(d, .sl false sz rows'))++E) ((k,none)::O) nx:=fun p h0 σ hf own Ea h hs=>by
 subst hn
 subst hz
 obtain ⟨N,hN1,hN2,h3⟩:=hs.objAt hk
 have hmono:∀a o,hf a=some o→(fun a=>if own a=some k then h a else hf a) a=some o:=fun a o ho=>by
  have:=(hs.fro a o ho).2
  simp only [this]
  rw [if_neg (by simp)]
  exact ho
 refine ⟨σ,fun a=>if own a=some k then h a else hf a,fun a=>if own a=some k then none else own a,fun t=> ?_,fun k' o hk'=> ?_,fun a o ha=> ?_,fun a k' ha=> ?_,fun a ha=> ?_,hs.dom⟩
 ·have hold:V σ (fun a=>if own a=some k then h a else hf a) nx (gE E t) (Ea t):=(hs.env t).mono hmono (Nat.le_refl _) (fun _ _=>rfl)
  have key:∀ds:List Nat,(∀d∈ds,gE E d= .os sz k 0 rows.length)→V σ (fun a=>if own a=some k then h a else hf a) nx (gE (ds.map (fun d=>(d,T.sl false sz (QcV rows)))++E) t) (Ea t):=by
   intro ds
   induction ds with
   | nil=>intro _;exact hold
   | cons d ds ih =>
    intro hd
    simp only [List.map_cons,List.cons_append,gE]
    split
    ·rename_i e
     subst e
     have h4:=hs.env t
     rw [hd t (by simp)] at h4
     generalize Ea t=v at h4 ⊢
     obtain ⟨hk',⟨a,m,rfl,h5,h6⟩ | ⟨_,_,h7,h8⟩⟩:=h4.osInv
     ·rw [h5] at h3
      cases h3 with
      | rows hh hodd hlen hfit hsl =>
       have hS:=S.ow sz rows m h6 hh hodd hlen hfit hsl
       have:=hS.fzR (H:=fun a=>if own a=some k then h a else hf a) hmono (fun a ha o ho=>by simp only [hN2 a ha,if_true];exact ho)
       rw [Nat.zero_mul]
       exact .fz (by simpa only [fz] using this)
     ·obtain rfl:=List.eq_nil_of_length_eq_zero h7
      rcases h8 with rfl | ⟨a,o,rfl⟩
      ·exact .fz (.sl0 sz)
      ·exact .fz (.sle sz a o 0)
    ·exact ih (fun d' hd'=>hd d' (by simp [hd']))
  exact key ds hd
 ·simp only [gO] at hk'
  split at hk'
  ·cases hk'
  ·rename_i hne
   obtain ⟨h1,M,h2,h4,h5⟩:=hs.obj k' o hk'
   refine ⟨h1,M,h2,fun a ha=> ?_,h5.mono hmono (Nat.le_refl _) (fun _ _=>rfl) (fun _ _=>rfl)⟩
   have:=h4 a ha
   simp only [this]
   rw [if_neg (fun e=>hne (Option.some.inj e))]
 ·split at ha
  ·rename_i e
   exact ⟨ha,by simp only [e,if_true]⟩
  ·rename_i e
   obtain ⟨h1,h2⟩:=hs.fro a o ha
   exact ⟨h1,by simp [h2]⟩
 ·split at ha
  ·cases ha
  ·exact hs.mine a k' ha
 ·have:own a≠some k:=fun e=>ha (hs.mine a k e).2.1
  simp only [if_neg this]
  exact hs.base a ha
theorem Wk.phantom {E:Zc} {O:QB} {nx:Nat} (d sz:Nat) (hd:gE E d= .nils):Wk E O nx ((d, .os sz nx 0 0)::E) ((nx,some (.rows sz []))::O) (nx+1):=fun p h0 σ hf own Ea h hs=>by
 have h1:=hs.take1 (oa:=none) (N:= []) (obj:= .rows sz []) (by simp) (by simp) (fun _ _=> .none sz)
 refine ⟨_,hf,_,fun t=> ?_,h1.obj,h1.fro,h1.mine,h1.base,h1.dom⟩
 simp only [gE]
 split
 ·rename_i e
  subst e
  have h2:=hs.env t
  rw [hd] at h2
  rw [h2.nilsInv]
  exact .os0 sz nx (by omega) (by simp)
 ·exact h1.env t
mutual
def ren (f:Nat→Nat):T→T
 | .os sz k lo n=> .os sz (f k) lo n
 | .op k o=> .op (f k) o
 | .orp sz k i o=> .orp sz (f k) i o
 | .om k=> .om (f k)
 | .vp ts=> .vp (QaO f ts)
 | .agg ts=> .agg (QaO f ts)
 | .tup ts=> .tup (QaO f ts)
 | .fn g ts=> .fn g (QaO f ts)
 | .sl b sz rows=> .sl b sz rows
 | .any=> .any
 | .bool b=> .bool b
 | .int k n=> .int k n
 | .str s=> .str s
 | .ptr0=> .ptr0
 | .fn0=> .fn0
 | .nils=> .nils
 | .rp cs=> .rp cs
 | .ex p n m t=> .ex p n m t
def QaO (f:Nat→Nat):List T→List T
 | []=> []
 | t::r=>ren f t::QaO f r
end
mutual
def Jk (n:Nat):T→Bool
 | .os _ k _ _=>decide (k<n)
 | .op k _=>decide (k<n)
 | .orp _ k _ _=>decide (k<n)
 | .om k=>decide (k<n)
 | .vp ts=>YJ n ts
 | .agg ts=>YJ n ts
 | .tup ts=>YJ n ts
 | .fn _ ts=>YJ n ts
 | .sl _ _ _=>true
 | .any=>true
 | .bool _=>true
 | .int _ _=>true
 | .str _=>true
 | .ptr0=>true
 | .fn0=>true
 | .nils=>true
 | .rp _=>true
 | .ex _ _ _ _=>true
def YJ (n:Nat):List T→Bool
 | []=>true
 | t::r=>Jk n t && YJ n r
end
theorem ZK (f:Nat→Nat) (l:List T):QaO f l=l.map (ren f):=by
 induction l with
 | nil=>rfl
 | cons t r ih=>simp only [QaO,List.map_cons,ih]
theorem Y3 (n:Nat) (l:List T):YJ n l=l.all (Jk n):=by
 induction l with
 | nil=>rfl
 | cons t r ih=>simp only [YJ,List.all_cons,ih]
theorem R.ren {hf:AH} {t u:T} {v:Value} {f:Nat→Nat} (h:R hf u v) (e:ren f t=u):R hf t v:=by
 induction h generalizing t with
 | agg ts vs hs h1 ih =>
  cases t<;>simp only [AE.ren] at e<;>first | cases e | skip
  rename_i us
  rw [ZK] at hs ih
  refine .agg us vs (by simpa using hs) (fun i hi=>ih i (by simpa using hi) ?_)
  simp [List.getD_eq_getElem?_getD,hi]
 | tup ts vs hs h1 ih =>
  cases t<;>simp only [AE.ren] at e<;>first | cases e | skip
  rename_i us
  rw [ZK] at hs ih
  refine .tup us vs (by simpa using hs) (fun i hi=>ih i (by simpa using hi) ?_)
  simp [List.getD_eq_getElem?_getD,hi]
 | fn g ts vs hs h1 ih =>
  cases t<;>simp only [AE.ren] at e<;>first | cases e | skip
  rename_i us
  rw [ZK] at hs ih
  refine .fn _ us vs (by simpa using hs) (fun i hi=>ih i (by simpa using hi) ?_)
  simp [List.getD_eq_getElem?_getD,hi]
 | bool b=>cases t<;>simp only [AE.ren] at e<;>cases e;exact .bool _
 | int k n=>cases t<;>simp only [AE.ren] at e<;>cases e;exact .int _ _
 | str s=>cases t<;>simp only [AE.ren] at e<;>cases e;exact .str _
 | ptr0=>cases t<;>simp only [AE.ren] at e<;>cases e;exact .ptr0
 | fn0=>cases t<;>simp only [AE.ren] at e<;>cases e;exact .fn0
 | nils=>cases t<;>simp only [AE.ren] at e<;>cases e;exact .nils
 | sl0 sz=>cases t<;>simp only [AE.ren] at e<;>cases e;exact .sl0 _
 | sle sz a o m=>cases t<;>simp only [AE.ren] at e<;>cases e;exact .sle _ _ _ _
 | sl sz rows o m hm hk hes hlen hfit h1 _=>cases t<;>simp only [AE.ren] at e<;>cases e;exact .sl _ _ _ _ hm hk hes hlen hfit h1
 | rp ts o hk hfit h1 _=>cases t<;>simp only [AE.ren] at e<;>cases e;exact .rp _ _ hk hfit h1
 | ex p n m u h1 _=>cases t<;>simp only [AE.ren] at e<;>cases e;exact .ex _ _ _ _ h1
theorem V.ren {σ σ':Nat→Option Nat} {hf:AH} {nx nx':Nat} {f:Nat→Nat} {t u:T} {v:Value} (hσ:∀k,k<nx'→σ' k=σ (f k)) (h:V σ hf nx u v) (e:ren f t=u) (hl:Jk nx' t=true):V σ' hf nx' t v:=by
 induction h generalizing t with
 | any v =>
  cases t<;>simp only [AE.ren] at e<;>first | cases e | skip
  exact .any v
 | fz hr=>exact .fz (hr.ren e)
 | os sz k lo n m hk hs hm =>
  cases t<;>simp only [AE.ren] at e<;>first | cases e | skip
  rename_i k'
  simp only [Jk,decide_eq_true_eq] at hl
  exact .os _ _ _ _ m hl ((hσ _ hl).trans hs) hm
 | os0 sz k hk hs =>
  cases t<;>simp only [AE.ren] at e<;>first | cases e | skip
  simp only [Jk,decide_eq_true_eq] at hl
  exact .os0 _ _ hl ((hσ _ hl).trans hs)
 | ose sz k a o hk hs =>
  cases t<;>simp only [AE.ren] at e<;>first | cases e | skip
  simp only [Jk,decide_eq_true_eq] at hl
  exact .ose _ _ a o hl ((hσ _ hl).trans hs)
 | op k o hk hs =>
  cases t<;>simp only [AE.ren] at e<;>first | cases e | skip
  simp only [Jk,decide_eq_true_eq] at hl
  exact .op _ _ hl ((hσ _ hl).trans hs)
 | orp sz k i o hk hs =>
  cases t<;>simp only [AE.ren] at e<;>first | cases e | skip
  simp only [Jk,decide_eq_true_eq] at hl
  exact .orp _ _ _ _ hl ((hσ _ hl).trans hs)
 | om k hk hs =>
  cases t<;>simp only [AE.ren] at e<;>first | cases e | skip
  simp only [Jk,decide_eq_true_eq] at hl
  exact .om _ hl ((hσ _ hl).trans hs)
 | vp ts o hk hfit h1 ih =>
  cases t<;>simp only [AE.ren] at e<;>first | cases e | skip
  rename_i us
  rw [ZK] at hfit ih
  simp only [Jk,Y3,List.all_eq_true] at hl
  refine .vp us o hk (by simpa using hfit) (fun i hi=>ih i (by simpa using hi) ?_ (hl _ ?_))
  ·simp [List.getD_eq_getElem?_getD,hi]
  ·rw [List.getD_eq_getElem?_getD,List.getElem?_eq_getElem hi];exact List.getElem_mem hi
 | agg ts vs hs h1 ih =>
  cases t<;>simp only [AE.ren] at e<;>first | cases e | skip
  rename_i us
  rw [ZK] at hs ih
  simp only [Jk,Y3,List.all_eq_true] at hl
  refine .agg us vs (by simpa using hs) (fun i hi=>ih i (by simpa using hi) ?_ (hl _ ?_))
  ·simp [List.getD_eq_getElem?_getD,hi]
  ·rw [List.getD_eq_getElem?_getD,List.getElem?_eq_getElem hi];exact List.getElem_mem hi
 | tup ts vs hs h1 ih =>
  cases t<;>simp only [AE.ren] at e<;>first | cases e | skip
  rename_i us
  rw [ZK] at hs ih
  simp only [Jk,Y3,List.all_eq_true] at hl
  refine .tup us vs (by simpa using hs) (fun i hi=>ih i (by simpa using hi) ?_ (hl _ ?_))
  ·simp [List.getD_eq_getElem?_getD,hi]
  ·rw [List.getD_eq_getElem?_getD,List.getElem?_eq_getElem hi];exact List.getElem_mem hi
 | fn g ts vs hs h1 ih =>
  cases t<;>simp only [AE.ren] at e<;>first | cases e | skip
  rename_i us
  rw [ZK] at hs ih
  simp only [Jk,Y3,List.all_eq_true] at hl
  refine .fn _ us vs (by simpa using hs) (fun i hi=>ih i (by simpa using hi) ?_ (hl _ ?_))
  ·simp [List.getD_eq_getElem?_getD,hi]
  ·rw [List.getD_eq_getElem?_getD,List.getElem?_eq_getElem hi];exact List.getElem_mem hi
def QlM (f:Nat→Nat):Obj→Obj
 | .cells ts=> .cells (QaO f ts)
 | o=>o
def QkY (n:Nat):Obj→Bool
 | .cells ts=>YJ n ts
 | _=>true
open Classical in
theorem Wk.mk {E:Zc} {O:QB} {nx:Nat} {E':Zc} {O':List (Nat×Obj)} {nx':Nat} (f:Nat→Nat) (hE:∀x∈E',gE E x.1=ren f x.2∧Jk nx' x.2=true) (hO:∀x∈O',gO O (f x.1)=some (QlM f x.2)∧x.1<nx'∧QkY nx' x.2=true) (hinj:(O'.map fun x=>f x.1).Nodup) :
  Wk E O nx E' (O'.map fun x=>(x.1,some x.2)) nx':=fun p h0 σ hf own Ea h hs=>by
 have hget:∀(L:List (Nat×Obj)) k o,gO (L.map fun x=>(x.1,some x.2)) k=some o→(k,o)∈L:=by
  intro L k o
  induction L with
  | nil=>intro h;cases h
  | cons x r ih =>
   intro h
   simp only [List.map_cons,gO] at h
   split at h
   ·rename_i e
    obtain rfl:=Option.some.inj h
    subst e
    exact List.mem_cons_self
   ·exact List.mem_cons_of_mem _ (ih h)
 have hgetE:∀(L:Zc) t,gE L t= .any∨(t,gE L t)∈L:=by
  intro L t
  induction L with
  | nil=>exact .inl Y
  | cons x r ih =>
   obtain ⟨d,v⟩:=x
   simp only [gE]
   split
   ·rename_i e
    subst e
    exact .inr List.mem_cons_self
   ·exact ih.imp id (List.mem_cons_of_mem _)
 have hunq:∀x∈O',∀y∈O',f x.1=f y.1→x=y:=by
  clear hE hO hget hgetE
  induction O' with
  | nil=>intro x hx;cases hx
  | cons z r ih =>
   simp only [List.map_cons,List.nodup_cons,List.mem_map,not_exists,not_and] at hinj
   intro x hx y hy e
   rcases List.mem_cons.1 hx with rfl | hx2<;>rcases List.mem_cons.1 hy with rfl | hy2
   ·rfl
   ·exact absurd e.symm (hinj.1 y hy2)
   ·exact absurd e (hinj.1 x hx2)
   ·exact ih hinj.2 x hx2 y hy2 e
 let fk:Nat→Option Nat:=fun k=>if h:∃x∈O',f x.1=k then some h.choose.1 else none
 have hfk:∀x∈O',fk (f x.1)=some x.1:=fun x hx=>by
  have hex:∃y∈O',f y.1=f x.1:=⟨x,hx,rfl⟩
  show (if h:∃y∈O',f y.1=f x.1 then some h.choose.1 else none)=_
  rw [dif_pos hex]
  obtain ⟨h1,h2⟩:=hex.choose_spec
  rw [hunq _ h1 _ hx h2]
 have hfk2:∀k k',fk k=some k'→∃x∈O',x.1=k'∧f x.1=k:=fun k k' hk=>by
  by_cases hex:∃x∈O',f x.1=k
  ·have:fk k=some hex.choose.1:=dif_pos hex
   rw [this] at hk
   obtain rfl:=Option.some.inj hk
   exact ⟨_,hex.choose_spec.1,rfl,hex.choose_spec.2⟩
  ·have:fk k=none:=dif_neg hex
   rw [this] at hk;cases hk
 refine ⟨fun k=>if k<nx' then σ (f k) else none,hf,fun a=>(own a).bind fk,fun t=> ?_,fun k o hk=> ?_,fun a o ha=> ?_,fun a k ha=> ?_,hs.base,hs.dom⟩
 ·have hσ:∀k,k<nx'→(fun k=>if k<nx' then σ (f k) else none) k=σ (f k):=fun k hk=>if_pos hk
  rcases hgetE E' t with h1 | h1
  ·rw [h1];exact .any _
  ·obtain ⟨h2,h3⟩:=hE _ h1
   have h4:=hs.env t
   simp only at h2
   rw [h2] at h4
   exact h4.ren hσ Y h3
 ·have h1:=hget O' k o hk
  obtain ⟨h2,h3,h4⟩:=hO _ h1
  obtain ⟨h5,N,h6,h7,h8⟩:=hs.obj _ _ h2
  refine ⟨h3,N,h6,fun a ha=>by simp only [h7 a ha,Option.bind_some];exact hfk _ h1,?_⟩
  simp only at h3 h4 h8 ⊢
  rw [if_pos h3]
  cases o with
  | cells ts =>
   simp only [QlM] at h8
   generalize σ (f k)=oa at h8
   cases h8 with
   | cells hh hodd hv =>
    refine .cells hh hodd ⟨by have:=hv.1;rw [ZK] at this;simpa using this,fun i hi=> ?_⟩
    have h9:=hv.2 i (by rw [ZK];simpa using hi)
    rw [ZK] at h9
    simp only [QkY,Y3,List.all_eq_true] at h4
    refine h9.ren (fun k hk=>if_pos hk) (t:=ts.getD i .any) ?_ (h4 _ ?_)
    ·simp [List.getD_eq_getElem?_getD,hi]
    ·rw [List.getD_eq_getElem?_getD,List.getElem?_eq_getElem hi];exact List.getElem_mem hi
  | rows sz rows =>
   simp only [QlM] at h8
   generalize σ (f k)=oa at h8
   cases h8 with
   | none sz=>exact .none sz
   | rows hh hodd hlen hfit hsl=>exact .rows hh hodd hlen hfit hsl
  | map es =>
   simp only [QlM] at h8
   generalize σ (f k)=oa at h8
   cases h8 with
   | map hh hodd g1 g2=>exact .map hh hodd g1 g2
  | rowsN sz rows asg =>
   simp only [QlM] at h8
   generalize σ (f k)=oa at h8
   cases h8 with
   | noneN sz=>exact .noneN sz
   | rowsN hh hodd hlen hfit hsl=>exact .rowsN hh hodd hlen hfit hsl
 ·obtain ⟨h1,h2⟩:=hs.fro a o ha
  exact ⟨h1,by simp only [h2,Option.bind_none]⟩
 ·obtain ⟨k0,e1,e2⟩:=Option.bind_eq_some_iff.1 ha
  obtain ⟨h1,h2,h3,_⟩:=hs.mine a k0 e1
  obtain ⟨x,hx,rfl,_⟩:=hfk2 k0 k e2
  exact ⟨h1,h2,h3,(hO x hx).2.1⟩
attribute [irreducible] vfin
structure EncOk {α:Type} (e:Bool→α→List T) (sz:Nat):Prop where
 len:∀m x,(e m x).length=sz
 cl:∀x,∀t∈e true x,Clean t
 fz:∀m x,fzL (e m x)=e false x
 ok:∀m x,∀t∈e m x,JS t=true
 pl:∀x,∀t∈e false x,J4 t=true
def Qc (m:Bool) (n:Int):List T:= [.int .i64 n]
def QX (m:Bool) (n:Int):List T:= [.int .u8 n]
def Qo (m:Bool) (b:Bool):List T:= [.bool b]
def YP (m:Bool) (s:ByteArray):List T:= [.str s]
def Jo {α:Type} (sz:Nat) (e:Bool→α→List T) (m:Bool) (l:List α):List T:= [.sl m sz (l.map (e m))]
theorem okInt : EncOk Qc 1:=⟨fun _ _=>rfl,by simp [Qc,Clean.int],fun _ _=>rfl,by simp [Qc,JS],by simp [Qc,J4]⟩
theorem okByte : EncOk QX 1:=⟨fun _ _=>rfl,by simp [QX,Clean.int],fun _ _=>rfl,by simp [QX,JS],by simp [QX,J4]⟩
theorem okBool : EncOk Qo 1:=⟨fun _ _=>rfl,by simp [Qo,Clean.bool],fun _ _=>rfl,by simp [Qo,JS],by simp [Qo,J4]⟩
theorem okStr : EncOk YP 1:=⟨fun _ _=>rfl,by simp [YP,Clean.str],fun _ _=>rfl,by simp [YP,JS],by simp [YP,J4]⟩
theorem EncOk.fzMap {α:Type} {e:Bool→α→List T} {sz:Nat} (h:EncOk e sz) (m:Bool) (l:List α):QcV (l.map (e m))=l.map (e false):=by
 rw [Qfw,List.map_map]
 exact List.map_congr_left fun x _=>h.fz m x
theorem EncOk.cleanMap {α:Type} {e:Bool→α→List T} {sz:Nat} (h:EncOk e sz) (l:List α):∀r∈l.map (e true),∀t∈r,Clean t:=fun r hr t ht=>by
 obtain ⟨x,_,rfl⟩:=List.mem_map.1 hr
 exact h.cl x t ht
theorem EncOk.okMap {α:Type} {e:Bool→α→List T} {sz:Nat} (h:EncOk e sz) (m:Bool) (l:List α):∀r∈l.map (e m),∀t∈r,JS t=true:=fun r hr t ht=>by
 obtain ⟨x,_,rfl⟩:=List.mem_map.1 hr
 exact h.ok m x t ht
theorem EncOk.lenMap {α:Type} {e:Bool→α→List T} {sz:Nat} (h:EncOk e sz) (m:Bool) (l:List α):∀r∈l.map (e m),r.length=sz:=fun r hr=>by
 obtain ⟨x,_,rfl⟩:=List.mem_map.1 hr
 exact h.len m x
theorem QT {t:T} (h:J4 t=true):JO t=true:=by
 cases t<;>first | rfl | (simp [J4] at h;done) | skip
 rename_i b _ _
 cases b<;>first | rfl | simp [J4] at h
theorem Qk1 {α:Type} {e:Bool→α→List T} {sz:Nat} (h:EncOk e sz):EncOk (Jo sz e) 1:=by
 refine ⟨fun _ _=>rfl,fun x t ht=> ?_,fun m x=> ?_,fun m x t ht=> ?_,fun x t ht=> ?_⟩
 ·obtain rfl:=List.mem_singleton.1 ht
  exact .sl sz _ (h.cleanMap x)
 ·simp only [Jo,fzL,AE.fz,h.fzMap]
 ·obtain rfl:=List.mem_singleton.1 ht
  rfl
 ·obtain rfl:=List.mem_singleton.1 ht
  rfl
theorem Qr {α β:Type} {l:List α} {i:Nat} {a:α} (f:α→β) (h:l[i]? =some a):(l.map f)[i]? =some (f a):=by rw [List.getElem?_map,h];rfl
def QhW {α:Type} (e:Bool→α→List T):Prop:=∀m x,e m x=e false x
theorem QmM : QhW Qc:=fun _ _=>rfl
theorem Qht : QhW Qo:=fun _ _=>rfl
theorem QkS : QhW QX:=fun _ _=>rfl
abbrev tI (n:Int):T:= .int .i64 n
abbrev tN (n:Nat):T:= .int .i64 (n:Int)
abbrev tB (b:Bool):T:= .bool b
abbrev tS (s:ByteArray):T:= .str s
abbrev rd {α:Type} (sz:Nat) (e:Bool→α→List T) (l:List α):T:= .sl false sz (l.map (e false))
def RK {α:Type} (d:AK α) (e:Bool→α→List T):Prop:=∀(h:AH) (a:α) (cs:List Value),d.R h a cs→RL h (e false a) cs
theorem QaI : RK (AK.int .i64) Qc:=fun h a cs hr=>by
 obtain rfl:cs=_:=hr
 exact RL.cons (.int _ _) (RL.nil _)
theorem QjG : RK AK.string YP:=fun h a cs hr=>by
 obtain rfl:cs=_:=hr
 exact RL.cons (.str _) (RL.nil _)
theorem RL.append {hf:AH} {ts us:List T} {vs ws:List Value} (h:RL hf ts vs) (h2:RL hf us ws):RL hf (ts++us) (vs++ws):=by
 have:=(h.toSL (h:=hf)).append (h2.toSL (h:=hf))
 rw [List.append_nil] at this
 refine ⟨by simp [h.1,h2.1],fun i hi=> ?_⟩
 rcases Nat.lt_or_ge i ts.length with g1 | g1
 ·have:=h.2 i g1
  rw [List.getD_eq_getElem?_getD,List.getD_eq_getElem?_getD] at this ⊢
  rwa [List.getElem?_append_left g1,List.getElem?_append_left (by rw [← h.1];exact g1)]
 ·rw [List.length_append] at hi
  have:=h2.2 (i - ts.length) (by omega)
  rw [List.getD_eq_getElem?_getD,List.getD_eq_getElem?_getD] at this ⊢
  rwa [List.getElem?_append_right g1,List.getElem?_append_right (by rw [← h.1];exact g1),← h.1]
theorem YT {α β:Type} {d:AK α} {d':AK β} {e:Bool→α→List T} {e':Bool→β→List T} (h:RK d e) (h':RK d' e'):RK (AK.pair d d') (fun m x=>e m x.1++e' m x.2):=fun H a cs hr=>by
 obtain ⟨c,c',rfl,h1,h2⟩:=hr
 exact RL.append (h H _ _ h1) (h' H _ _ h2)
theorem Qgq {α β:Type} {d:AK α} {f:β→α} {e:Bool→β→List T} {e':Bool→α→List T} (h:RK d e') (he:∀x,e' false (f x)=e false x):RK (AK.iso d f) e:=fun H a cs hr=>by
 rw [← he]
 exact h H _ _ hr
theorem Qoq {α:Type} {d:AK α} {e:Bool→α→List T} {sz:Nat} (hk:RK d e) (ho:EncOk e sz) (hsz:d.sz=sz) {h:AH} {l:List α} {v:Value} (hs:SlR d h l v):R h (.sl false sz (l.map (e false))) v:=by
 subst hsz
 rcases hs with ⟨rfl,rfl | ⟨k,o,m,rfl⟩⟩ | ⟨k,o,m,es,arr,rfl,hm,hl,hh,hes,hfit,hrow⟩
 ·exact .sl0 _
 ·exact .sle _ _ _ _
 ·have hlen:=ho.lenMap false l
  rw [show l.length=(l.map (e false)).length by simp]
  refine .sl d.sz _ o m hm hh hes hlen (by simpa using hfit) (fun i hi=> ?_)
  rw [List.length_map] at hi
  have hsz:0<d.sz:=by
   rcases Nat.eq_zero_or_pos d.sz with h0 | h0
   ·rw [h0] at hi;omega
   ·exact h0
  have hq:i / d.sz<l.length:=Nat.div_lt_of_lt_mul (by rwa [Nat.mul_comm] at hi)
  have hqq:i / d.sz*d.sz+i % d.sz=i:=by rw [Nat.mul_comm];exact Nat.div_add_mod i d.sz
  have hr:=hk h _ _ (hrow _ _ (List.getElem?_eq_getElem hq))
  have e1:=Yp hlen (i:=i / d.sz) (j:=i % d.sz) (Qr (e false) (List.getElem?_eq_getElem hq)) (Nat.mod_lt _ hsz)
  rw [hqq] at e1
  rw [e1]
  have h2:=hr.2 (i % d.sz) (by rw [ho.len];exact Nat.mod_lt _ hsz)
  rw [List.getD_eq_getElem?_getD (l:=List.take _ _),List.getElem?_take,if_pos (Nat.mod_lt _ hsz),List.getElem?_drop,← List.getD_eq_getElem?_getD] at h2
  rw [show o+i=o+i / d.sz*d.sz+i % d.sz by omega]
  exact h2
theorem Qmw {α:Type} {d:AK α} {e:Bool→α→List T} {sz:Nat} (hk:RK d e) (ho:EncOk e sz) (hsz:d.sz=sz):RK (AK.slice d) (Jo sz e):=fun h a cs hr=>by
 obtain ⟨v,rfl,hs⟩:=hr
 exact RL.cons (Qoq hk ho hsz hs) (RL.nil _)
section
variable {call : QO} {P : Program} {ops : Array Oper} {B : List (List Nat)} {l : List Oper} {E : Zc} {O O' Ob OL1 : QB} {nx nx' nb i i' : Nat} {q : Bool} {al : List (Nat × Nat × Obj)} {fl bi ks : List Nat} {t : T} {obj : Obj} {K : Zc → QB → Nat → Prop} {d : Tmp} {op : Op} {ty : TypeId} {ps : String} {af : Array Edge} {g : Option (Nat × Bool)}
theorem VEv.tmpB {a:Tmp} {b c:Bool} (h:gE E a= .bool b) (hb:b=c):VEv E (.tmp a) (.bool c):=VEv.tmp (hb▸h)
theorem VWant.on {dd:Option Tmp} {j:Nat} {q:Tmp} {w b:Bool} (hd:(ops[j]?).bind (·.dst)=some q) (hq:gE E q= .bool b) (hb:b=w):VWant ops E ⟨dd,op,ty,ps,af,some (j,w)⟩ true:=by
 have:=VWant.guard (ops:=ops) (E:=E) (d:=dd) (op:=op) (ty:=ty) (ps:=ps) (af:=af) (w:=w) hd hq
 rw [hb] at this
 simpa using this
theorem VWant.not {dd:Option Tmp} {j:Nat} {q:Tmp} {w b:Bool} (hd:(ops[j]?).bind (·.dst)=some q) (hq:gE E q= .bool b) (hb:b= !w):VWant ops E ⟨dd,op,ty,ps,af,some (j,w)⟩ false:=by
 have:=VWant.guard (ops:=ops) (E:=E) (d:=dd) (op:=op) (ty:=ty) (ps:=ps) (af:=af) (w:=w) hd hq
 rw [hb] at this
 cases w<;>simpa using this
theorem VWant.undef {dd:Option Tmp} {j:Nat} {q:Tmp} {w:Bool} (hd:(ops[j]?).bind (·.dst)=some q) (hq:gE E q= .tup []):VWant ops E ⟨dd,op,ty,ps,af,some (j,w)⟩ false:=fun σ hf nx Ea he=>by
 have h1:=he q
 rw [hq] at h1
 obtain ⟨vs,h2,h3⟩:=h1.tupL
 simp only [Yo,hd,h2]
theorem vfin.eq {rs:List ResultVar} {r r':T} {e:AX} (h:r'=r) (hf:vfin P rs r' e E O nx):vfin P rs r e E O nx:=h▸hf
end
section
variable {call : QO} {P : Program} {ops : Array Oper} {B : List (List Nat)} {l : List Oper} {E : Zc} {O O' Ob : QB} {nx nx' nb i i' : Nat} {q : Bool} {al : List (Nat × Nat × Obj)} {fl ks : List Nat} {t r : T} {K : Zc → QB → Nat → Prop} {d : Option Tmp} {op : Op} {ty : TypeId} {ps : String} {af : Array Edge} {j : Nat} {k : Tmp} {w b b' : Bool} {a : Tmp} {n n' : Int}
theorem oO (hd:(ops[j]?).bind (·.dst)=some k) (hq:gE E k= .bool b) (hb:b= !w) (hk:VRunO call P ops l (pE E d (.tup [])) O nx K):VRunO call P ops (⟨d,op,ty,ps,af,some (j,w)⟩::l) E O nx K:=VRunO.off (VWant.not hd hq hb) hk
theorem oD (hd:(ops[j]?).bind (·.dst)=some k) (hq:gE E k= .bool b) (hb:b= !w) (hi:i+1=i') (hk:VRunD call P ops B l i' (pE E d (.tup [])) O Ob nx nb q al fl K):VRunD call P ops B (⟨d,op,ty,ps,af,some (j,w)⟩::l) i E O Ob nx nb q al fl K:=VRunD.off hi (VWant.not hd hq hb) hk
theorem uD (hd:(ops[j]?).bind (·.dst)=some k) (hq:gE E k= .tup []) (hi:i+1=i') (hk:VRunD call P ops B l i' (pE E d (.tup [])) O Ob nx nb q al fl K):VRunD call P ops B (⟨d,op,ty,ps,af,some (j,w)⟩::l) i E O Ob nx nb q al fl K:=VRunD.off hi (VWant.undef hd hq) hk
theorem gF (hb:b=w) (hd:(ops[j]?).bind (·.dst)=some k) (hq:gE E k= .bool b) (hx:OF call P E ⟨d,op,ty,ps,af,some (j,w)⟩ t) (hk:VRunO call P ops l (pE E d t) O nx K):VRunO call P ops (⟨d,op,ty,ps,af,some (j,w)⟩::l) E O nx K:=VRunO.free (VWant.on hd hq hb) hx hk
theorem gL (hb:b=w) (hd:(ops[j]?).bind (·.dst)=some k) (hq:gE E k= .bool b) (hx:OL call P E O ⟨d,op,ty,ps,af,some (j,w)⟩ t) (hk:VRunO call P ops l (pE E d t) O nx K):VRunO call P ops (⟨d,op,ty,ps,af,some (j,w)⟩::l) E O nx K:=VRunO.look (VWant.on hd hq hb) hx hk
theorem vb (h:gE E a= .bool b') (he:b'=b):vfin P [.tmp a] (.bool b) .ret E O nx:=he▸vfin.r (VRes.tmp h VRes.nil) (Give.bool _)
theorem vi (h:gE E a= .int .i64 n') (he:n'=n):vfin P [.tmp a] (.int .i64 n) .ret E O nx:=he▸vfin.r (VRes.tmp h VRes.nil) (Give.int _ _)
theorem lg {α:Type} {e:Bool→α→List T} {sz:Nat} {x:α} (ok:EncOk e sz):Lend O (.agg (e false x)) (.agg (e false x)):=Lend.agg ⟨rfl,fun i hi=>Lend.pl (ok.pl x _ (by rw [List.getD_eq_getElem?_getD,List.getElem?_eq_getElem hi];exact List.getElem_mem hi))⟩
theorem lp {t:T} {ts ts':List T} (h:J4 t=true) (hr:LendL O ts ts'):LendL O (t::ts) (t::ts'):=LendL.cons (Lend.pl h) hr
theorem cS {f:FuncId} {args:Array Operand} {tys:Array TypeId} {g:Option (Nat×Bool)} {ts us:List T} (ha:VEvs E args.toList ts) (hl:LendL O ts us) (hp:Pure call f us r) (hb:YA P f=true) (had:adopt nx r=(r,[])):OC call P E O nx ⟨d, .call ⟨.value (.func f),args,tys⟩,ty,ps,af,g⟩ r O nx []:=OC.callF hb ha hl hp had
theorem vc {x:Operand} {xs:List Operand} {t:T} {ts:List T} (h:VEv E x t) (hr:VEvs E xs ts):VEvs E (x::xs) (t::ts):=VEvs.cons h hr
end
section
variable {call : QO} {P : Program} {E : Zc} {O : QB} {d : Option Tmp} {ty tt s e xt : TypeId} {ps : String} {af : Array Edge} {g : Option (Nat × Bool)} {x y z : Operand} {t u w : T} {nx sz : Nat} {rows rows2 : List (List T)} {ks ks2 : List Nat} {k : IntKind} {a b : Int} {c : Bool} {n : Int} {xt : TypeId}
theorem B.add (hx:VEv E x (.int k a)) (hy:VEv E y (.int k b)) (he:k.wrap (a+b)=n):OF call P E ⟨d, .binOp .add tt x y xt,ty,ps,af,g⟩ (.int k n):=he▸OF.bin hx hy (.int _ _) (.int _ _) (Qni ..) (.int _ _)
theorem B.sub (hx:VEv E x (.int k a)) (hy:VEv E y (.int k b)) (he:k.wrap (a - b)=n):OF call P E ⟨d, .binOp .sub tt x y xt,ty,ps,af,g⟩ (.int k n):=he▸OF.bin hx hy (.int _ _) (.int _ _) (QnY ..) (.int _ _)
theorem B.mul (hx:VEv E x (.int k a)) (hy:VEv E y (.int k b)) (he:k.wrap (a*b)=n):OF call P E ⟨d, .binOp .mul tt x y xt,ty,ps,af,g⟩ (.int k n):=he▸OF.bin hx hy (.int _ _) (.int _ _) (QnI ..) (.int _ _)
theorem B.quo (hx:VEv E x (.int k a)) (hy:VEv E y (.int k b)) (hb:b≠0) (he:k.wrap (a.tdiv b)=n):OF call P E ⟨d, .binOp .quo tt x y xt,ty,ps,af,g⟩ (.int k n):=he▸OF.bin hx hy (.int _ _) (.int _ _) (Qnl _ _ _ _ _ _ _ hb) (.int _ _)
theorem B.rem (hx:VEv E x (.int k a)) (hy:VEv E y (.int k b)) (hb:b≠0) (he:a.tmod b=n):OF call P E ⟨d, .binOp .rem tt x y xt,ty,ps,af,g⟩ (.int k n):=he▸OF.bin hx hy (.int _ _) (.int _ _) (Qm6 _ _ _ _ _ _ _ hb) (.int _ _)
theorem B.lss (hx:VEv E x (.int k a)) (hy:VEv E y (.int k b)) (he:decide (a<b)=c):OF call P E ⟨d, .binOp .lss tt x y xt,ty,ps,af,g⟩ (.bool c):=he▸OF.bin hx hy (.int _ _) (.int _ _) (Qnx ..) (.bool _)
theorem B.leq (hx:VEv E x (.int k a)) (hy:VEv E y (.int k b)) (he:decide (a≤b)=c):OF call P E ⟨d, .binOp .leq tt x y xt,ty,ps,af,g⟩ (.bool c):=he▸OF.bin hx hy (.int _ _) (.int _ _) (QnS ..) (.bool _)
theorem B.gtr (hx:VEv E x (.int k a)) (hy:VEv E y (.int k b)) (he:decide (b<a)=c):OF call P E ⟨d, .binOp .gtr tt x y xt,ty,ps,af,g⟩ (.bool c):=he▸OF.bin hx hy (.int _ _) (.int _ _) (Qnb ..) (.bool _)
theorem B.geq (hx:VEv E x (.int k a)) (hy:VEv E y (.int k b)) (he:decide (b≤a)=c):OF call P E ⟨d, .binOp .geq tt x y xt,ty,ps,af,g⟩ (.bool c):=he▸OF.bin hx hy (.int _ _) (.int _ _) (QnL ..) (.bool _)
theorem B.eql (hx:VEv E x (.int k a)) (hy:VEv E y (.int k b)) (he:decide (a=b)=c):OF call P E ⟨d, .binOp .eql tt x y xt,ty,ps,af,g⟩ (.bool c):=he▸OF.bin hx hy (.int _ _) (.int _ _) (Qnf ..) (.bool _)
theorem B.neq (hx:VEv E x (.int k a)) (hy:VEv E y (.int k b)) (he:(!decide (a=b))=c):OF call P E ⟨d, .binOp .neq tt x y xt,ty,ps,af,g⟩ (.bool c):=he▸OF.bin hx hy (.int _ _) (.int _ _) (QnN ..) (.bool _)
variable {s1 s2 s3 : ByteArray}
theorem B.sneq (hx:VEv E x (.str s1)) (hy:VEv E y (.str s2)) (he:(!decide (s1=s2))=c):OF call P E ⟨d, .binOp .neq tt x y xt,ty,ps,af,g⟩ (.bool c):=he▸OF.bin hx hy (.str _) (.str _) (Qmv ..) (.bool _)
theorem B.sadd (hx:VEv E x (.str s1)) (hy:VEv E y (.str s2)) (hl:s1.size+s2.size≤9223372036854775807):OF call P E ⟨d, .binOp .add tt x y xt,ty,ps,af,g⟩ (.str (s1++s2)):=OF.bin hx hy (.str _) (.str _) (Qma _ _ _ _ _ _ hl) (.str _)
variable {b1 b2 : Bool}
theorem B.bneq (hu:P.underlying tt=some .bool) (hx:VEv E x (.bool b1)) (hy:VEv E y (.bool b2)) (he:(!(b1 == b2))=c):OF call P E ⟨d, .binOp .neq tt x y xt,ty,ps,af,g⟩ (.bool c):=he▸OF.bin hx hy (.bool _) (.bool _) (Qmz _ _ _ _ _ _ hu) (.bool _)
theorem B.not (hx:VEv E x (.bool b1)) (he:(!b1)=c):OF call P E ⟨d, .unOp .not tt x,ty,ps,af,g⟩ (.bool c):=he▸OF.un hx (.bool _) (Qnt ..) (.bool _)
theorem B.index {st:ByteArray} {kk:IntKind} {j:Int} {i:Nat} (hx:VEv E x (.str st)) (hy:VEv E y (.int kk j)) (hj:j=i) (hi:i<st.size) (hu:P.underlying tt=some .string) (he:((st[i]'hi).toNat:Int)=n):OF call P E ⟨d, .index tt x y,ty,ps,af,g⟩ (.int .u8 n):=he▸OF.index hx hy hj hi hu
theorem B.box {ts:List T} (hx:VEv E x t) (ht:t≠ .any) (hc:Zi t=ts):OM call P E nx ⟨d, .box xt x,ty,ps,af,g⟩ (.op nx 0) (.cells ts):=hc▸OM.box hx ht
theorem B.alloc {ts:List T} {v:Value} (hz:Zq P tt=some v) (hcl:closedV v=true) (ht:t≠ .any) (hv:∀hf,R hf t v) (hc:Zi t=ts):OM call P E nx ⟨d, .alloc tt,ty,ps,af,g⟩ (.op nx 0) (.cells ts):=hc▸OM.alloc hz hcl ht hv
theorem B.fieldAddrR {j off:Nat} {ts us:List T} (hx:VEv E x (.rp ts)) (hn:off≤ts.length) (ha:∀k o,Qf P tt (.pointer (some ⟨k,o,none⟩)) j=some (.pointer (some ⟨k,o+off,none⟩))) (hd:ts.drop off=us):OF call P E ⟨d, .fieldAddr tt x j,ty,ps,af,g⟩ (.rp us):=hd▸OF.fieldAddrR hx hn ha
theorem B.storeO {k o:Nat} {ts us ws:List T} (hx:VEv E x (.op k o)) (hy:VEv E y t) (ht:t≠ .any) (hk:gO O k=some (.cells ts)) (hus:Zi t=us) (hle:o+us.length≤ts.length) (hif:(P.info? tt).isSome=true) (hn:P.cellsOf tt=us.length) (hc:∀a∈us,JR a=true) (hw:spl ts o us=ws) :
  OC call P E O nx ⟨d, .store tt x y,ty,ps,af,g⟩ .any ((k,some (.cells ws))::O) nx [k]:=hw▸OC.storeO hx hy ht hk hus hle hif hn hc
theorem B.storeP {sz k i o:Nat} {rows rows':List (List T)} {row us:List T} (hx:VEv E x (.orp sz k i o)) (hy:VEv E y t) (ht:t≠ .any) (hk:gO O k=some (.rows sz rows)) (hi:rows[i]? =some row) (hus:Zi t=us) (hle:o+us.length≤sz) (hif:(P.info? tt).isSome=true) (hn:P.cellsOf tt=us.length) (hc:∀a∈us,J4 a=true) (hfl:∀r∈rows,∀a∈r,JO a=true) (hr:rows.set i (spl row o us)=rows') :
  OC call P E O nx ⟨d, .store tt x y,ty,ps,af,g⟩ .any ((k,some (.rows sz rows'))::O) nx [k]:=hr▸OC.storeP hx hy ht hk hi hus hle hif hn hc hfl
theorem B.indexAddrO {k n:Nat} {kk:IntKind} {j:Int} {i:Nat} (hx:VEv E x (.os sz k 0 n)) (hy:VEv E y (.int kk j)) (hj:j=i) (hi:i<n) (hu:P.underlying tt=some (.slice e)) (hn:P.cellsOf e=sz) (hif:(P.info? e).isSome=true) :
  OF call P E ⟨d, .indexAddr tt x y,ty,ps,af,g⟩ (.orp sz k i 0):=by
 have z:=OF.indexAddrO (call:=call) (d:=d) (ty:=ty) (ps:=ps) (af:=af) (g:=g) hx hy hj hi hu hn hif
 rwa [Nat.zero_add] at z
variable {m : Nat}
theorem B.lenS {st:ByteArray} (hx:VEv E x (.str st)) (hu:P.underlying tt=some .string):OL call P E O ⟨d, .call ⟨.builtin .len,#[x],#[tt]⟩,ty,ps,af,g⟩ (.int .i64 st.size):=OL.lenS hx hu
theorem B.lenR (hx:VEv E x (.sl false sz rows)) (hu:P.underlying tt=some (.slice e)) (he:rows.length=m):OL call P E O ⟨d, .call ⟨.builtin .len,#[x],#[tt]⟩,ty,ps,af,g⟩ (.int .i64 (m:Nat)):=he▸OL.lenR hx hu
theorem B.lenO {k lo n:Nat} (hx:VEv E x (.os sz k lo n)) (hu:P.underlying tt=some (.slice e)) (he:n=m):OL call P E O ⟨d, .call ⟨.builtin .len,#[x],#[tt]⟩,ty,ps,af,g⟩ (.int .i64 (m:Nat)):=he▸OL.lenO hx hu
theorem B.append {rows3:List (List T)} (hx:VDst sz E O x rows ks) (hy:VSrc P xt sz E O y rows2 ks2) (hdis:∀k∈ks,k∉ks2) (hu:P.underlying tt=some (.slice e)) (hn:P.cellsOf e=sz) (hpos:0<sz) {z:Value} (hz:Zq P e=some z) (hzs:z.cells.size=sz) (hb:P.bytesOf e≤128) (hlim:rows.length+rows2.length≤Y2) (hr:rows++rows2=rows3) :
  OC call P E O nx ⟨d, .call ⟨.builtin .append,#[x,y],#[tt,xt]⟩,ty,ps,af,g⟩ (.os sz nx 0 rows3.length) ((nx,some (.rows sz rows3))::QcY (ks++ks2) O) (nx+1) (ks++ks2):=hr▸OC.append hx hy hdis hu hn hpos hz hzs hb hlim
end
section
variable {K : Zc → QB → Nat → Prop} {Q : AX → Zc → QB → Nat → Prop} {E : Zc} {O : QB} {nx id j : Nat}
theorem vthn.e (h:Q (.exit id) E O nx):vthn K Q (.exit id) E O nx:=h
theorem vinB.n (h:Q .normal E O nx):vinB id Q .normal E O nx:=h
theorem vinB.r (h:Q .ret E O nx):vinB id Q .ret E O nx:=h
theorem vinB.e (h:Q .normal E O nx):vinB id Q (.exit id) E O nx:=by simp only [vinB,if_true];exact h
end
section
variable {call : QO} {P : Program} {ops : Array Oper} {B : List (List Nat)} {l : List Oper} {E : Zc} {O Ob : QB} {nx nb i i' : Nat} {q : Bool} {al : List (Nat × Nat × Obj)} {fl : List Nat} {K : Zc → QB → Nat → Prop} {d : Option Tmp} {ty : TypeId} {ps : String} {af : Array Edge} {a : Tmp} {t : T} {c : Operand}
theorem mO (t:T) (h:gE E a=t) (hk:VRunO call P ops l (pE E d t) O nx K):VRunO call P ops (⟨d, .move (.tmp a),ty,ps,af,none⟩::l) E O nx K:=VRunO.free VWant.always (OF.move (VEv.tmp h)) hk
theorem aO (t:T) (h:gE E a=t) (hk:VRunO call P ops l (pE E d t) O nx K):VRunO call P ops (⟨d, .assign (.tmp a),ty,ps,af,none⟩::l) E O nx K:=VRunO.free VWant.always (OF.assign (VEv.tmp h)) hk
theorem mD (t:T) (h:gE E a=t) (hi:i+1=i') (hk:VRunD call P ops B l i' (pE E d t) O Ob nx nb q al fl K):VRunD call P ops B (⟨d, .move (.tmp a),ty,ps,af,none⟩::l) i E O Ob nx nb q al fl K:=VRunD.free hi VWant.always Y (OF.move (VEv.tmp h)) hk
theorem fO {op:Op} (hx:OF call P E ⟨d,op,ty,ps,af,none⟩ t) (hk:VRunO call P ops l (pE E d t) O nx K):VRunO call P ops (⟨d,op,ty,ps,af,none⟩::l) E O nx K:=VRunO.free VWant.always hx hk
theorem lO {op:Op} (hx:OL call P E O ⟨d,op,ty,ps,af,none⟩ t) (hk:VRunO call P ops l (pE E d t) O nx K):VRunO call P ops (⟨d,op,ty,ps,af,none⟩::l) E O nx K:=VRunO.look VWant.always hx hk
theorem kO {op:Op} {obj:Obj} (hx:OM call P E nx ⟨d,op,ty,ps,af,none⟩ t obj) (hk:VRunO call P ops l (pE E d t) ((nx,some obj)::O) (nx+1) K):VRunO call P ops (⟨d,op,ty,ps,af,none⟩::l) E O nx K:=VRunO.make VWant.always hx hk
theorem cO {op:Op} {O':QB} {nx':Nat} {ks:List Nat} (hx:OC call P E O nx ⟨d,op,ty,ps,af,none⟩ t O' nx' ks) (hk:VRunO call P ops l (pE E d t) O' nx' K):VRunO call P ops (⟨d,op,ty,ps,af,none⟩::l) E O nx K:=VRunO.chain VWant.always hx hk
theorem fD {op:Op} (hx:OF call P E ⟨d,op,ty,ps,af,none⟩ t) (hi:i+1=i') (hc:cls P op= .free) (hk:VRunD call P ops B l i' (pE E d t) O Ob nx nb q al fl K):VRunD call P ops B (⟨d,op,ty,ps,af,none⟩::l) i E O Ob nx nb q al fl K:=VRunD.free hi VWant.always hc hx hk
theorem lD {op:Op} (hx:OL call P E Ob ⟨d,op,ty,ps,af,none⟩ t) (hi:i+1=i') (hc:cls P op= .look) (hk:VRunD call P ops B l i' (pE E d t) O Ob nx nb q al fl K):VRunD call P ops B (⟨d,op,ty,ps,af,none⟩::l) i E O Ob nx nb q al fl K:=VRunD.look hi VWant.always hc hx hk
theorem nt {K1:Zc→QB→Nat→Prop} {Q:AX→Zc→QB→Nat→Prop} (h:K1 E O nx):VRunO call P ops [] E O nx (vthn K1 Q .normal):=VRunO.nil h
theorem sr {id:Nat} {y:Code} {Q:AX→Zc→QB→Nat→Prop} (hx:VRunO call P ops ops.toList E O nx (vthn (fun E' O' nx'=>VRun call P y E' O' nx' Q) Q .normal)):VRun call P (.seq (.region id ops false) y) E O nx Q:=VRun.seq (VRun.region hx)
theorem sq {x y:Code} {Q:AX→Zc→QB→Nat→Prop} (hx:VRun call P x E O nx (vthn (fun E' O' nx'=>VRun call P y E' O' nx' Q) Q)):VRun call P (.seq x y) E O nx Q:=VRun.seq hx
theorem rt {Q:AX→Zc→QB→Nat→Prop} (hq:Q .ret E O nx):VRun call P .ret E O nx Q:=VRun.ret hq
theorem sk {Q:AX→Zc→QB→Nat→Prop} (hq:Q .normal E O nx):VRun call P .skip E O nx Q:=VRun.skip hq
theorem tn {K1:Zc→QB→Nat→Prop} {Q:AX→Zc→QB→Nat→Prop} (h:K1 E O nx):vthn K1 Q .normal E O nx:=h
theorem tr {K1:Zc→QB→Nat→Prop} {Q:AX→Zc→QB→Nat→Prop} (h:Q .ret E O nx):vthn K1 Q .ret E O nx:=h
theorem tv (t:T) (h:gE E a=t):VEv E (.tmp a) t:=VEv.tmp h
end
theorem QoQ {b:Bool} (h:(!b)=true):b=false:=by simpa using h
theorem QoZ {b:Bool} (h:(!b)=false):b=true:=by simpa using h
theorem nkT {b:Bool} (h:b=true):(!b)=false:=by rw [h];rfl
theorem nkF {b:Bool} (h:b=false):(!b)=true:=by rw [h];rfl
abbrev QV (l:List (Nat×Obj)):QB:=l.map fun x=>(x.1,some x.2)
def Qv (s:ByteArray) (i:Nat):Int:=if h:i<s.size then ((s[i]'h).toNat:Int) else 0
theorem JP {s:ByteArray} {i:Nat} (h:i<s.size):((s[i]'h).toNat:Int)=Qv s i:=by unfold Qv;rw [dif_pos h]
theorem Zr {α:Type} {p:α→Prop}:∀x∈([]:List α),p x:=fun x hx=>by cases hx
theorem Qi {α:Type} {p:α→Prop} {a:α} {l:List α} (h:p a) (hr:∀x∈l,p x):∀x∈a::l,p x:=fun x hx=>by
 rcases List.mem_cons.1 hx with rfl | hx
 ·exact h
 ·exact hr x hx
theorem Q8 {p q:Prop} [Decidable p] [Decidable q] (h:p↔q):decide p=decide q:=decide_eq_decide.2 h
theorem QZ {α:Type} {l:List α} {e:α→List T} {i:Nat} {row:List T} {a:α} (h:row=e a):(l.map e).set i row=(l.set i a).map e:=by rw [h,List.map_set]
def Bury (O:QB) (ks:List Nat) (ts rs:List T):Prop:=∀(p:Nat) (h0:LB) (σ:Nat→Option Nat) (hf:AH) (own:Nat→Option Nat) (E:Zc) (nx:Nat) (Ea:Nat→Value) (h:AH) (vs:List Value),SR p h0 σ hf own E O nx Ea h→VL σ hf nx ts vs→∃N,SL hf h rs vs N∧N.Nodup∧∀a∈N,∃k∈ks,own a=some k
section
variable {O : QB} {ks ks2 : List Nat} {t r : T} {ts rs : List T}
theorem Bury.nil : Bury O [] [] []:=fun p h0 σ hf own E nx Ea h vs hs hv=>by
 obtain rfl:=List.eq_nil_of_length_eq_zero hv.1.symm
 exact ⟨[], .nil,by simp,by simp⟩
theorem Bury.pl (h:J4 t=true) (h2:Bury O ks2 ts rs):Bury O ks2 (t::ts) (t::rs):=fun p h0 σ hf own E nx Ea H vs hs hv=>by
 obtain ⟨v,l,rfl,g1,g2⟩:=hv.tail
 obtain ⟨M,b1,b2,b3⟩:=h2 p h0 σ hf own E nx Ea H l hs g2
 exact ⟨M,SL.cons (N:= []) (.fz (g1.pl h)) b1,b2,b3⟩
theorem Bury.os {sz k n:Nat} {rows:List (List T)} (hk:gO O k=some (.rows sz rows)) (hn:n=rows.length) (h2:Bury O ks2 ts rs) (hd:k∉ks2):Bury O (k::ks2) (.os sz k 0 n::ts) (.sl true sz rows::rs):=fun p h0 σ hf own E nx Ea h vs hs hv=>by
 subst hn
 obtain ⟨v,l,rfl,g1,g2⟩:=hv.tail
 obtain ⟨M,b1,b2,b3⟩:=h2 p h0 σ hf own E nx Ea h l hs g2
 obtain ⟨N,hN1,hN2,h3⟩:=hs.objAt hk
 obtain ⟨hk',⟨a,m,rfl,h4,h5⟩ | ⟨h4,_,h5,h6⟩⟩:=g1.osInv
 ·rw [h4] at h3
  cases h3 with
  | rows hh hodd hlen hfit hsl =>
   rename_i cs N
   rw [Nat.zero_mul]
   refine ⟨(a::N)++M, .cons (.ow sz rows m h5 hh hodd hlen hfit hsl) b1,?_,fun b hb=> ?_⟩
   ·rw [List.nodup_append]
    refine ⟨hN1,b2,fun b hb c hc e=> ?_⟩
    subst e
    obtain ⟨k2,hk2,e2⟩:=b3 b hc
    rw [hN2 b hb] at e2
    exact hd (by rw [Option.some.inj e2];exact hk2)
   ·rcases List.mem_append.1 hb with hb | hb
    ·exact ⟨k,by simp,hN2 b hb⟩
    ·obtain ⟨k2,hk2,e2⟩:=b3 b hb
     exact ⟨k2,by simp [hk2],e2⟩
 ·obtain rfl:=List.eq_nil_of_length_eq_zero h5
  have b4:∀a∈M,∃k'∈k::ks2,own a=some k':=fun a ha=>by
   obtain ⟨k2,hk2,e2⟩:=b3 a ha
   exact ⟨k2,by simp [hk2],e2⟩
  rcases h6 with rfl | ⟨a,o,rfl⟩
  ·exact ⟨M,SL.cons (N:= []) (.ow0 sz) b1,b2,b4⟩
  ·exact ⟨M,SL.cons (N:= []) (.owe sz a o) b1,b2,b4⟩
theorem SL.split {hf h:AH}:∀ {ts us:List T} {vs:List Value} {N:List Nat},SL hf h (ts++us) vs N→∃N1 N2,N=N1++N2∧SL hf h ts (vs.take ts.length) N1∧SL hf h us (vs.drop ts.length) N2
 | [],us,vs,N,hs=>⟨[],N,rfl,by simpa using SL.nil,by simpa using hs⟩
 | t::ts,us,_,_, .cons (N:=N) (M:=M) h1 h2=>by
  obtain ⟨N1,N2,rfl,g1,g2⟩:=SL.split (ts:=ts) h2
  exact ⟨N++N1,N2,by simp, .cons h1 g1,g2⟩
theorem SL.put {hf h:AH} {ts us:List T} {vs ws:List Value} {N M:List Nat} {o:Nat} (hs:SL hf h ts vs N) (hu:SL hf h us ws M) (ho:o+us.length≤ts.length) (hN:N.Nodup) (hM:M.Nodup) (hd:∀a∈N,a∉M):∃L,SL hf h (spl ts o us) (AE.splice vs o ws) L∧L.Nodup∧∀a∈L,a∈N∨a∈M:=by
 have h1:=hs.length
 have h2:=hu.length
 have e1:ts=ts.take o++(ts.drop o):=(List.take_append_drop o ts).symm
 rw [e1] at hs
 obtain ⟨N1,N2,rfl,g1,g2⟩:=hs.split
 have hlt:(ts.take o).length=o:=by rw [List.length_take];omega
 rw [hlt] at g1 g2
 have e2:ts.drop o=(ts.drop o).take us.length++ts.drop (o+us.length):=by rw [← List.drop_drop,List.take_append_drop]
 rw [e2] at g2
 obtain ⟨N3,N4,rfl,g3,g4⟩:=g2.split
 have hlt2:((ts.drop o).take us.length).length=us.length:=by rw [List.length_take,List.length_drop];omega
 rw [hlt2,List.drop_drop] at g4
 refine ⟨(N1++M)++N4,?_,?_,fun a ha=> ?_⟩
 ·unfold spl AE.splice
  rw [← h2]
  exact (g1.append hu).append g4
 ·rw [List.nodup_append] at hN
  obtain ⟨n1,n2,n3⟩:=hN
  rw [List.nodup_append] at n2
  rw [List.nodup_append,List.nodup_append]
  refine ⟨⟨n1,hM,fun a ha b hb e=>hd a (by simp [ha]) (e▸hb)⟩,n2.2.1,fun a ha b hb e=> ?_⟩
  subst e
  rcases List.mem_append.1 ha with ha | ha
  ·exact n3 a ha a (by simp [hb]) Y
  ·exact hd a (by simp [hb]) ha
 ·rcases List.mem_append.1 ha with ha | ha
  ·rcases List.mem_append.1 ha with ha | ha
   ·exact .inl (by simp [ha])
   ·exact .inr ha
  ·exact .inl (by simp [ha])
open Classical in
theorem SR.updB {p nx k a:Nat} {h0:LB} {hf h:AH} {σ own:Nat→Option Nat} {E:Zc} {Ea:Nat→Value} {ks:List Nat} {z:Yn} {obj:Obj} {N:List Nat} (hs:SR p h0 σ hf own E O nx Ea h) (hσ:σ k=some a) (hk:k<nx) (ha:own a=some k) (hkk:k∉ks) (hN:N.Nodup) (hN':∀b∈N,own b=some k∨∃k'∈ks,own b=some k')
  (ho:ObjR σ hf nx (h.upd a (some z)) obj (some a) N):∃own',SR p h0 σ hf own' E ((k,some obj)::QcY ks O) nx Ea (h.upd a (some z))∧∀b k',own' b=some k'→own b=some k'∨h b=none∨∃k''∈k::ks,own b=some k'':=by
 obtain ⟨m1,m2,m3,m4⟩:=hs.mine a k ha
 refine ⟨fun b=>if b∈N then some k else own b,⟨hs.env,fun k' o hk'=> ?_,fun b o hb=> ?_,fun b k' hb=> ?_,hs.base,fun t ht=> ?_⟩,fun b k' hb=> ?_⟩
 ·simp only [gO] at hk'
  split at hk'
  ·rename_i e
   subst e
   obtain rfl:=Option.some.inj hk'
   exact ⟨hk,N,hN,fun b hb=>by simp only [if_pos hb],hσ▸ho⟩
  ·rename_i hne
   obtain ⟨hnk,hk'⟩:=QjO hk'
   obtain ⟨h1,N',h2,h3,h4⟩:=hs.obj k' o hk'
   refine ⟨h1,N',h2,fun b hb=> ?_,h4.mono (fun _ _ e=>e) (Nat.le_refl _) (fun _ _=>rfl) (fun b hb=>AH.upd_ne _ (fun e=> ?_) _)⟩
   ·have hob:=h3 b hb
    have:b∉N:=fun hn=>by
     rcases hN' b hn with e | ⟨k2,hk2,e⟩
     ·rw [hob] at e;exact hne (Option.some.inj e)
     ·rw [hob] at e
      obtain rfl:=Option.some.inj e
      exact hnk hk2
    simp only [if_neg this]
    exact hob
   ·subst e
    have:=h3 _ hb
    rw [ha] at this
    exact hne (Option.some.inj this).symm
 ·obtain ⟨h1,h2⟩:=hs.fro b o hb
  have hba:b≠a:=fun e=>by rw [e,ha] at h2;cases h2
  have hbn:b∉N:=fun hn=>by
   rcases hN' b hn with e | ⟨k2,hk2,e⟩<;>(rw [h2] at e;cases e)
  exact ⟨by rw [AH.upd_ne _ hba];exact h1,by simp only [if_neg hbn];exact h2⟩
 ·have up:h b≠none→(h.upd a (some z)) b≠none:=fun h3=>by
   by_cases e:b=a
   ·rw [e,AH.upd_same];simp
   ·rw [AH.upd_ne _ e];exact h3
  split at hb
  ·rename_i hn
   obtain rfl:=Option.some.inj hb
   rcases hN' b hn with e | ⟨k2,hk2,e⟩
   ·obtain ⟨h1,h2,h3,h4⟩:=hs.mine b _ e
    exact ⟨h1,h2,up h3,h4⟩
   ·obtain ⟨h1,h2,h3,h4⟩:=hs.mine b _ e
    exact ⟨h1,h2,up h3,hk⟩
  ·obtain ⟨h1,h2,h3,h4⟩:=hs.mine b k' hb
   exact ⟨h1,h2,up h3,h4⟩
 ·unfold AH.upd at ht
  split at ht
  ·rename_i e
   exact .inr (e▸m1)
  ·exact hs.dom t ht
 ·simp only at hb
  split at hb
  ·rename_i hn
   rcases hN' b hn with e | ⟨k2,hk2,e⟩
   ·exact .inr (.inr ⟨k,by simp,e⟩)
   ·exact .inr (.inr ⟨k2,by simp [hk2],e⟩)
  ·exact .inl hb
end
section
variable {call : QO} {P : Program} {E : Zc} {O : QB} {d : Option Tmp} {ty tt s e xt : TypeId} {ps : String} {af : Array Edge} {g : Option (Nat × Bool)} {x y z : Operand} {t u w : T} {nx sz : Nat} {rows rows2 : List (List T)} {ks ks2 : List Nat}
theorem B.storeB {k i o:Nat} {rows':List (List T)} {row us ws:List T} (hx:VEv E x (.orp sz k i o)) (hy:VEv E y t) (ht:t≠ .any) (hk:gO O k=some (.rows sz rows)) (hi:rows[i]? =some row) (hus:Zi t=us) (hle:o+us.length≤sz) (hif:(P.info? tt).isSome=true) (hn:P.cellsOf tt=us.length) (hc:∀a∈us,JR a=true) (hb:Bury O ks us ws) (hwl:ws.length=us.length) (hkk:k∉ks) (hr:rows.set i (spl row o ws)=rows') :
  OC call P E O nx ⟨d, .store tt x y,ty,ps,af,g⟩ .any ((k,some (.rows sz rows'))::QcY ks O) nx (k::ks):=⟨Nat.le_refl _,fun q p h0 σ hf own Ea h hs hu hF=>by
 subst hus
 subst hr
 obtain ⟨v,h1,h2⟩:=hx σ hf nx Ea hs.env
 obtain ⟨v',h3,h4⟩:=hy σ hf nx Ea hs.env
 obtain ⟨a,rfl,h5,h6⟩:=h2.orpInv
 obtain ⟨N,hN1,hN2,h7⟩:=hs.objAt hk
 rw [h5] at h7
 cases h7 with
 | rows hh hodd hlen hfit hsl =>
  rename_i cs N
  have h8:=h4.cells ht
  have h9:=h8.1
  obtain ⟨M,b1,b2,b3⟩:=hb p h0 σ hf own E nx Ea h _ hs h8
  have hcl:∀b∈v'.cells.toList,b.oneCell'=true:=by
   intro b hb
   obtain ⟨j,hj⟩:=List.getElem?_of_mem hb
   have hlt:j<(Zi t).length:=by rw [h9];exact (List.getElem?_eq_some_iff.1 hj).1
   have:=h8.2 j hlt
   rw [List.getD_eq_getElem?_getD (l:=v'.cells.toList),hj,Option.getD_some] at this
   exact this.one (hc _ (by rw [List.getD_eq_getElem?_getD,List.getElem?_eq_getElem hlt];exact List.getElem_mem hlt))
  have hown:own a=some k:=hN2 a (by simp)
  have hlt:i<rows.length:=(List.getElem?_eq_some_iff.1 hi).1
  have hf1:=Qb8 (sz:=sz) hlt
  have hrow:row.length=sz:=hlen row (List.mem_of_getElem? hi)
  have hst:=Qcf (P:=P) (t:=tt) (v:=v') (o:=i*sz+o) hodd hh hif hn Y h9.symm (by rw [← h9];omega) hcl
  have hfll:=Z2 hlen
  have hNn:=List.nodup_cons.1 hN1
  obtain ⟨L,l1,l2,l3⟩:=hsl.put b1 (o:=i*sz+o) (by omega) hNn.2 b2 (fun b hb hm=>by
   obtain ⟨k2,hk2,e2⟩:=b3 b hm
   rw [hN2 b (by simp [hb])] at e2
   exact hkk (by rw [Option.some.inj e2];exact hk2))
  have hlen':∀r∈rows.set i (spl row o ws),r.length=sz:=fun r hr=>by
   rcases List.mem_or_eq_of_mem_set hr with h | rfl
   ·exact hlen r h
   ·simp [spl];omega
  have haL:a∉L:=fun hm=>by
   rcases l3 a hm with e | e
   ·exact hNn.1 e
   ·obtain ⟨k2,hk2,e2⟩:=b3 a e
    rw [hown] at e2
    exact hkk (by rw [Option.some.inj e2];exact hk2)
  have hobj:ObjR σ hf nx (h.upd a (some (.cells sz (AE.splice cs (i*sz+o) v'.cells.toList)))) (.rows sz (rows.set i (spl row o ws))) (some a) (a::L):=by
   refine .rows (AH.upd_same _ _ _) hodd hlen' ?_ ?_
   ·rw [List.length_set]
    simp only [AE.splice,List.length_append,List.length_take,List.length_drop]
    omega
   ·rw [List.length_set,QbM hlen hi (by omega)]
    have e2:(AE.splice cs (i*sz+o) v'.cells.toList).take (rows.length*sz)=AE.splice (cs.take (rows.length*sz)) (i*sz+o) v'.cells.toList:=by
     unfold AE.splice
     rw [List.take_append,List.take_append,List.length_append,List.length_take,List.take_take,List.drop_take]
     rw [show Min.min (rows.length*sz) (i*sz+o)=i*sz+o by omega,List.take_of_length_le (l:=v'.cells.toList) (by omega),List.take_take]
     rw [show Min.min (i*sz+o) (rows.length*sz)=i*sz+o by omega]
     congr 2
     omega
    rw [e2]
    exact l1.mono (fun _ _ e=>e) (fun b hb=>AH.upd_ne _ (fun e=>haL (by rw [← e];exact hb)) _)
  obtain ⟨own',g1,g2⟩:=hs.updB h5 h6 hown hkk (N:=a::L) (List.nodup_cons.2 ⟨haL,l2⟩) (fun b hb=>by
   rcases List.mem_cons.1 hb with rfl | hb
   ·exact .inl hown
   ·rcases l3 b hb with e | e
    ·exact .inl (hN2 b (by simp [e]))
    ·exact .inr (b3 b e)) hobj
  refine ⟨undef,_,σ,own',X.store h1 h3 hst,Dom.old (by rw [hh];simp) _,fun _ _=>rfl,g1, .any _,fun b hb hnk=>AH.upd_ne _ (fun e=> ?_) _,g2⟩
  exact hnk k (by simp) (e▸hown)⟩
theorem B.sliceB {call:QO} {P:Program} {ops:Array Oper} {l:List Oper} {K:Zc→QB→Nat→Prop} {pp:Array (Nat×Operand)} {us:List T} {rows:List (List T)} {z:Value} (hw:VWant ops E ⟨d, .buildSlice tt 1 pp,ty,ps,af,g⟩ true) (hx:VEvp E pp.toList [(0,t)]) (ht:t≠ .any) (hus:Zi t=us) (hb:Bury O ks us rows.flatten) (hrl:rows.length=1) (hlr:∀r∈rows,r.length=sz) (hul:us.length=sz) (hu:P.underlying tt=some (.slice e)) (hz:Zq P e=some z) (hall:z.cells.all closed1=true) (hs:z.cells.size=P.cellsOf e) (hp:0<P.cellsOf e) (hsz:P.cellsOf e=sz) (hbd:1*sz≤16777216)
  (hk:VRunO call P ops l (pE E d (.os sz nx 0 1)) ((nx,some (.rows sz rows))::QcY ks O) (nx+1) K):VRunO call P ops (⟨d, .buildSlice tt 1 pp,ty,ps,af,g⟩::l) E O nx K:=by
 refine VRunO.chain (ks:=ks) (t:= .os sz nx 0 1) (O':=(nx,some (.rows sz rows))::QcY ks O) (nx':=nx+1) hw ⟨Nat.le_succ _,fun q p h0 σ hf own Ea h hsr hu' hF=> ?_⟩ hk
 subst hsz
 obtain ⟨vs,h1,h2⟩:=hx σ hf nx Ea hsr.env
 obtain ⟨v,rfl⟩:∃v,vs= [(0,v)]:=by
  have e1:=h2.1
  match vs,e1 with
  | [(i,v)],e1=>exact ⟨v,by simp at e1;rw [e1]⟩
  | [],e1=>simp at e1
  | _::_::_,e1=>simp at e1
 have hv:V σ hf nx t v:=by simpa using h2.2.2 0 (by simp)
 subst hus
 have hc:=hv.cells ht
 obtain ⟨N,b1,b2,b3⟩:=hb p h0 σ hf own E nx Ea h _ hsr hc
 have hcl:=hc.1
 have htok:h (Qn q)=none:=hF _ (QR q)
 have hfn:hf (Qn q)=none:=by
  cases hh:hf (Qn q) with
  | none=>rfl
  | some o=>rw [(hsr.fro _ _ hh).1] at htok;cases htok
 have h0n:h0.h (Qn q)=none:=by
  cases hh:h0.h (Qn q) with
  | none=>rfl
  | some o =>
   have e1:=hsr.base (Qn q) (by rw [hh];simp)
   rw [hfn,hh] at e1
   cases e1
 have hx':QD call P q Ea h ⟨d, .buildSlice tt 1 pp,ty,ps,af,g⟩=some (.slice (some ⟨Qn q,0,none⟩) 1 1,h.upd (Qn q) (some (.cells (P.cellsOf e) v.cells.toList))):=by
  refine X.buildSlice h1 ?_
  have hsz1:v.cells.size=P.cellsOf e:=by simpa using hcl.symm.trans hul
  have hcy:(cyc z.cells.toList (1*P.cellsOf e)).toArray.size=P.cellsOf e:=by simp [Yf]
  simp only [YF,hu,hz]
  rw [if_pos ⟨hp,hbd,hall,hs⟩]
  have hfill:Instr.fill (fun i=>some (i*P.cellsOf e,P.cellsOf e)) (cyc z.cells.toList (1*P.cellsOf e)).toArray [(0,v)]=some (v.cells.zipIdx.foldl (fun cs (x:Value×Nat)=>cs.setIfInBounds (0*P.cellsOf e+x.2) x.1) (cyc z.cells.toList (1*P.cellsOf e)).toArray):=by
   simp only [Instr.fill]
   rw [if_neg (by simp [hsz1,Yf])]
  rw [hfill,Option.map_some,QgN v (0*P.cellsOf e) _ (by rw [hcy,hsz1];omega)]
  simp only [Nat.zero_mul,AE.splice,List.take_zero,List.nil_append,Nat.zero_add]
  rw [List.drop_eq_nil_of_le (by simp [Yf];omega),List.append_nil]
  simp
 have hflr:=Z2 hlr
 obtain ⟨own',g1,g2⟩:=hsr.repl (ks:=ks) (oa:=some (Qn q)) (N:=Qn q::N) (h':=h.upd (Qn q) (some (.cells (P.cellsOf e) v.cells.toList))) (obj:= .rows (P.cellsOf e) rows)
  (fun b hb _=>AH.upd_ne _ (fun e=>hb (by rw [e];exact htok)) _)
  (fun b hb=>by
   unfold AH.upd at hb
   split at hb
   ·rename_i e1
    exact .inr (e1▸hu' _ (QR q))
   ·exact hsr.dom b hb)
  (by
   rw [List.nodup_cons]
   refine ⟨fun hm=> ?_,b2⟩
   obtain ⟨k',_,e1⟩:=b3 _ hm
   exact (hsr.mine _ _ e1).2.2.1 htok)
  (fun b hb=>by
   rcases List.mem_cons.1 hb with rfl | hb
   ·exact ⟨hu' _ (QR q),h0n,by rw [AH.upd_same];simp,hfn, .inl htok⟩
   ·obtain ⟨k',hk',e2⟩:=b3 b hb
    obtain ⟨m1,m2,m3,_⟩:=hsr.mine b k' e2
    refine ⟨m1,m2,?_,?_, .inr ⟨k',hk',e2⟩⟩
    ·rw [AH.upd_ne _ (fun e=>by rw [e] at m3;exact m3 htok)];exact m3
    ·cases hh:hf b with
     | none=>rfl
     | some o=>rw [(hsr.fro _ _ hh).2] at e2;cases e2)
  (by
   refine .rows (AH.upd_same _ _ _) (J3 q) hlr (by rw [hrl];simp only [Array.length_toList] at hcl ⊢;omega) ?_
   rw [hrl,List.take_of_length_le (by simp only [Array.length_toList] at hcl ⊢;omega)]
   refine b1.mono (fun _ _ e=>e) (fun b hb=> ?_)
   obtain ⟨k',_,e2⟩:=b3 b hb
   exact AH.upd_ne _ (fun e=>by rw [e] at e2;exact (hsr.mine _ _ e2).2.2.1 htok) _)
 refine ⟨_,_,_,own',hx',Dom.new _ _ _,Qet _,g1,?_,fun b hb _=>AH.upd_ne _ (fun e=>hb (by rw [e];exact htok)) _,g2⟩
 have:=V.os (σ:=fun k=>if k=nx then some (Qn q) else σ k) (hf:=hf) (nx:=nx+1) (a:=Qn q) (P.cellsOf e) nx 0 1 1 (by omega) (by simp) (by omega)
 rwa [Nat.zero_mul] at this
def Z0 (ts:List T) (vs:List Value):Prop:=∀hf h,SL hf h ts vs []
theorem Z0.nil : Z0 [] []:=fun _ _=> .nil
theorem Z0.int {k:IntKind} {n:Int} {ts:List T} {vs:List Value} (h:Z0 ts vs):Z0 (.int k n::ts) (.int k n::vs):=fun hf H=>SL.cons (N:= []) (.fz (.int k n)) (h hf H)
theorem Z0.bool {b:Bool} {ts:List T} {vs:List Value} (h:Z0 ts vs):Z0 (.bool b::ts) (.bool b::vs):=fun hf H=>SL.cons (N:= []) (.fz (.bool b)) (h hf H)
theorem Z0.str {b:ByteArray} {ts:List T} {vs:List Value} (h:Z0 ts vs):Z0 (.str b::ts) (.string b::vs):=fun hf H=>SL.cons (N:= []) (.fz (.str b)) (h hf H)
theorem Z0.sl {sz:Nat} {ts:List T} {vs:List Value} (h:Z0 ts vs):Z0 (.sl true sz []::ts) (.slice none 0 0::vs):=fun hf H=>SL.cons (N:= []) (.ow0 sz) (h hf H)
theorem Z0.app {ts us:List T} {vs ws:List Value} (h:Z0 ts vs) (h2:Z0 us ws):Z0 (ts++us) (vs++ws):=fun hf H=>(h hf H).append (h2 hf H)
theorem Z0.rep {ts:List T} {vs:List Value} (h:Z0 ts vs):∀n,Z0 (List.replicate n ts).flatten (List.replicate n vs).flatten
 | 0=> .nil
 | n+1=>by
  rw [List.replicate_succ,List.replicate_succ,List.flatten_cons,List.flatten_cons]
  exact h.app (Z0.rep h n)
theorem Qia {z:List Value} (hz:0<z.length) (n:Nat):cyc z (n*z.length)=(List.replicate n z).flatten:=by
 have hlen:∀r∈List.replicate n z,r.length=z.length:=fun r hr=>by rw [List.eq_of_mem_replicate hr]
 have hfl:=Z2 hlen
 rw [List.length_replicate] at hfl
 refine List.ext_getElem? fun i=> ?_
 rcases Nat.lt_or_ge i (n*z.length) with hi | hi
 ·have h1:=QlT (z:=z) hi
  have hq:i / z.length<n:=Nat.div_lt_of_lt_mul (by rwa [Nat.mul_comm] at hi)
  have h2:=Qek hlen (i:=i / z.length) (row:=z) (by rw [List.getElem?_replicate,if_pos hq])
  have hqq:i / z.length*z.length+i % z.length=i:=by rw [Nat.mul_comm];exact Nat.div_add_mod i z.length
  have h3:(List.replicate n z).flatten[i]? =z[i % z.length]? :=by
   rw [← hqq]
   have:=congrArg (·[i % z.length]?) h2
   simp only [List.getElem?_take,List.getElem?_drop,if_pos (Nat.mod_lt i hz)] at this
   rw [this,Nat.mul_add_mod_self_right,Nat.mod_mod]
  rw [h3,List.getElem?_eq_getElem (by rw [Yf];exact hi),List.getElem?_eq_getElem (Nat.mod_lt i hz)]
  rw [List.getD_eq_getElem?_getD,List.getD_eq_getElem?_getD,List.getElem?_eq_getElem (by rw [Yf];exact hi),List.getElem?_eq_getElem (Nat.mod_lt i hz)] at h1
  exact congrArg some h1
 ·rw [List.getElem?_eq_none (by rw [Yf];exact hi),List.getElem?_eq_none (by omega)]
theorem B.makeZ {n m:Nat} {zr:List T} {z:Value} {j:Int} {rows:List (List T)} (hx:VEv E x (.int .i64 j)) (hy:VEv E y (.int .i64 j)) (hj:j=n) (hu:P.underlying tt=some (.slice e)) (hz:Zq P e=some z) (hcl:closedV z=true) (hs:z.cells.size=P.cellsOf e) (hp:0<P.cellsOf e) (hn:n≤Y2) (hb:P.bytesOf e≤256) (hzr:Z0 zr z.cells.toList) (hsz:P.cellsOf e=sz) (hr:List.replicate n zr=rows) (hm:n=m) :
  OM call P E nx ⟨d, .makeSlice tt x y,ty,ps,af,g⟩ (.os sz nx 0 m) (.rows sz rows):=fun q σ hf Ea he=>by
 subst hj
 subst hsz
 subst hr
 subst hm
 obtain ⟨v,h1,h2⟩:=hx σ hf nx Ea he
 obtain ⟨v',h3,h4⟩:=hy σ hf nx Ea he
 obtain rfl:=h2.intInv
 obtain rfl:=h4.intInv
 have hall:z.cells.all closed1=true:=by
  cases z<;>first | exact hcl | (simp only [Value.cells];simpa [closedV] using hcl) | simp [closedV,closed1] at hcl
 have hbl:(P.bytesOf e:Int)*n≤281474976710656:=by
  have h2:P.bytesOf e*n≤281474976710656:=Nat.le_trans (Nat.mul_le_mul hb hn) (by unfold Y2;omega)
  have h3:((P.bytesOf e*n:Nat):Int)≤281474976710656:=by omega
  rwa [Int.natCast_mul] at h3
 have h4':(n:Int)≤9223372036854775807:=by
  have:Y2=1099511627776:=rfl
  omega
 have hmk:∀h:AH,Qgr P q tt h (.int .i64 n) (.int .i64 n)=some (.val (.slice (some ⟨Qn q,0,none⟩) n (if n=0 then 0 else 1)) (h.upd (Qn q) (some (.cells (P.cellsOf e) (cyc z.cells.toList (n*P.cellsOf e)))))):=fun h=>by
  simp only [Qgr,hu,hz]
  rw [if_pos ⟨by omega,trivial,h4',hbl,hall,hs,hp⟩]
  simp
 have hzl:=(hzr (fun _=>none) (fun _=>none)).length
 simp only [Array.length_toList] at hzl
 by_cases hn0:n=0
 ·subst hn0
  refine ⟨_,_,none,[],fun h=>X.makeSlice h1 h3 (hmk h), .inr ⟨rfl,rfl⟩,?_,fun h=> .none _⟩
  exact .ose _ nx _ 0 (by omega) (by simp)
 ·refine ⟨_,_,some (Qn q),[Qn q],fun h=>X.makeSlice h1 h3 (hmk h), .inl ⟨rfl,rfl⟩,?_,fun h=> ?_⟩
  ·have:=V.os (σ:=fun k=>if k=nx then some (Qn q) else σ k) (hf:=hf) (nx:=nx+1) (a:=Qn q) (P.cellsOf e) nx 0 n 1 (by omega) (by simp) (by omega)
   rw [Nat.zero_mul] at this
   rw [if_neg hn0]
   exact this
  ·refine .rows (N:= []) (AH.upd_same _ _ _) (J3 q) (fun r hr=>by rw [List.eq_of_mem_replicate hr];omega) (by rw [List.length_replicate,Yf];omega) ?_
   rw [List.length_replicate,List.take_of_length_le (by rw [Yf];omega)]
   have e1:z.cells.toList.length=P.cellsOf e:=by simpa using hs
   rw [← e1,Qia (by omega)]
   exact (hzr.rep n) _ _
end
def mx : Nat:=1048576
def QaV {α:Type} (z:α→Nat):List α→Nat
 | []=>0
 | x::r=>z x+QaV z r
def zL {α:Type} (z:α→Nat) (l:List α):Nat:=l.length+QaV z l
def zI (_:Int):Nat:=0
theorem Zs {α:Type} {z:α→Nat} (l:List α):l.length≤zL z l:=Nat.le_add_right _ _
theorem QjR {α:Type} {z:α→Nat}:∀ {l:List α} {i:Nat} {x:α},l[i]? =some x→z x≤QaV z l
 | [],i,x,h=>by simp at h
 | y::r,0,x,h=>by
  obtain rfl:y=x:=by simpa using h
  exact Nat.le_add_right _ _
 | y::r,i+1,x,h=>Nat.le_trans (QjR (l:=r) (i:=i) (by simpa using h)) (Nat.le_add_left _ _)
theorem QgF {α:Type} {z:α→Nat} {l:List α} {i:Nat} {x:α} (h:l[i]? =some x):z x≤zL z l:=Nat.le_trans (QjR h) (Nat.le_add_left _ _)
theorem Qi8 {α:Type} {z:α→Nat} {l:List α} {x:α} (h:x∈l):z x≤zL z l:=by
 obtain ⟨i,hi⟩:=List.getElem?_of_mem h
 exact QgF hi
theorem QbU {α:Type} {z:α→Nat}:∀(a b:List α),QaV z (a++b)=QaV z a+QaV z b
 | [],b=>by simp [QaV]
 | x::a,b=>by simp only [List.cons_append,QaV,QbU a b,Nat.add_assoc]
theorem QgE {α:Type} {z:α→Nat} {l:List α} {i:Nat} {x:α} (h:l[i]? =some x):QaV z (l.take (i+1))=QaV z (l.take i)+z x:=by
 rw [List.take_add_one,h,QbU]
 simp [QaV]
theorem Qhp {α:Type} {z:α→Nat} (l:List α) (i:Nat):QaV z (l.take i)≤QaV z l:=by
 have:QaV z (l.take i++l.drop i)=QaV z (l.take i)+QaV z (l.drop i):=QbU _ _
 rw [List.take_append_drop] at this
 omega
theorem Qmr {α:Type} {z:α→Nat} (hz:∀x,z x=0) (l:List α):zL z l=l.length:=by
 have:QaV z l=0:=by
  induction l with
  | nil=>rfl
  | cons x r ih=>simp only [QaV,hz,ih]
 simp only [zL,this,Nat.add_zero]
def ZF (z:Nat) (left:Int):Int:=if left - (z:Int)<0 then -1 else left - (z:Int)
theorem Qay {z:Nat} {l:Int} (h:¬ZF z l<0):ZF z l=l - (z:Int)∧0≤l - (z:Int):=by
 unfold ZF at h ⊢
 split at h
 ·omega
 ·rename_i h2
  rw [if_neg h2]
  omega
theorem Qdw {z:Nat} {l:Int} (h:ZF z l<0):l - (z:Int)<0:=by
 unfold ZF at h
 split at h
 ·assumption
 ·omega
theorem Jh {z:Nat} {l:Int} (h:l - (z:Int)<0): -1=ZF z l:=by unfold ZF;rw [if_pos h]
theorem QbK {z:Nat} {l:Int} (h:¬l - (z:Int)<0):l - (z:Int)=ZF z l:=by unfold ZF;rw [if_neg h]
def SzI {α:Type} (z:α→Nat) (l:List α) (left:Int) (i:Nat) (r:Int):Prop:=i≤l.length∧0≤r∧r≤(mx:Int)∧r=left - ((l.length+QaV z (l.take i):Nat):Int)
section
variable {α : Type} {z : α → Nat} {l : List α} {left r : Int} {i : Nat} {x : α}
theorem SzI.start (h1:left≤(mx:Int)) (h:¬left - (l.length:Int)<0):SzI z l left 0 (left - (l.length:Int)):=by
 refine ⟨Nat.zero_le _,by omega,by omega,?_⟩
 simp [QaV]
theorem SzI.next' (h:SzI z l left i r) (hx:l[i]? =some x) (hn:¬r - (z x:Int)<0):SzI z l left (i+1) (r - (z x:Int)):=by
 have:=(List.getElem?_eq_some_iff.1 hx).1
 obtain ⟨h1,h2,h3,h4⟩:=h
 refine ⟨by omega,by omega,by omega,?_⟩
 rw [QgE hx,h4]
 omega
theorem SzI.next (h:SzI z l left i r) (hx:l[i]? =some x) (hn:¬ZF (z x) r<0):SzI z l left (i+1) (ZF (z x) r):=by
 obtain ⟨h1,h2⟩:=Qay hn
 rw [h1]
 exact h.next' hx (by omega)
theorem SzI.bad' (h:SzI z l left i r) (hx:l[i]? =some x) (hn:r - (z x:Int)<0): -1=ZF (zL z l) left:=by
 refine Jh ?_
 have h5:=Qhp (z:=z) l (i+1)
 rw [QgE hx] at h5
 obtain ⟨h1,h2,h3,h4⟩:=h
 simp only [zL]
 omega
theorem SzI.bad (h:SzI z l left i r) (hx:l[i]? =some x) (hn:ZF (z x) r<0): -1=ZF (zL z l) left:=h.bad' hx (Qdw hn)
theorem SzI.early (hn:left - (l.length:Int)<0): -1=ZF (zL z l) left:=Jh (by simp only [zL];omega)
theorem SzI.done (h:SzI z l left i r) (hi:¬i<l.length):r=ZF (zL z l) left:=by
 obtain ⟨h1,h2,h3,h4⟩:=h
 have e:i=l.length:=by omega
 subst e
 rw [List.take_length] at h4
 have e2:r=left - ((zL z l:Nat):Int):=h4
 rw [e2]
 exact QbK (by omega)
end
theorem Qbi {α:Type} {a b:List α} {i:Nat} {x y:α} (h:i≤a.length∧∀j,j<i→a[j]? =b[j]?) (hx:a[i]? =some x) (hy:b[i]? =some y) (he:x=y):i+1≤a.length∧∀j,j<i+1→a[j]? =b[j]? :=by
 have:=(List.getElem?_eq_some_iff.1 hx).1
 refine ⟨by omega,fun j hj=> ?_⟩
 rcases Nat.lt_or_ge j i with h1 | h1
 ·exact h.2 j h1
 ·obtain rfl:j=i:=by omega
  rw [hx,hy,he]
theorem Qb4 {α:Type} {a b:List α} {i:Nat} (h:i≤a.length∧∀j,j<i→a[j]? =b[j]?) (hl:a.length=b.length) (hi:¬i<a.length):a=b:=by
 refine List.ext_getElem? fun j=> ?_
 rcases Nat.lt_or_ge j i with h1 | h1
 ·exact h.2 j h1
 ·rw [List.getElem?_eq_none (by omega),List.getElem?_eq_none (by omega)]
theorem Qca {α:Type} {a b:List α} {i:Nat} {x y:α} (hx:a[i]? =some x) (hy:b[i]? =some y) (hn:x≠y):a≠b:=by
 rintro rfl
 rw [hx] at hy
 exact hn (Option.some.inj hy)
theorem Qb3 {α:Type} {l:List α} {i:Nat} {x w:α} (h:l[i]? =some x):(l.take i++List.replicate (l.length - i) w).set i x=l.take (i+1)++List.replicate (l.length - (i+1)) w:=by
 have hlt:=(List.getElem?_eq_some_iff.1 h).1
 have e1:(l.take i).length=i:=by rw [List.length_take];omega
 have e2:l.length - i=(l.length - (i+1))+1:=by omega
 rw [e2,List.replicate_succ,List.set_append_right _ _ (by omega),e1,Nat.sub_self,List.set_cons_zero,List.take_add_one,h]
 simp
theorem Qck {α:Type} {l:List α} {i:Nat} {w:α} (hi:¬i<l.length):l.take i++List.replicate (l.length - i) w=l:=by
 rw [List.take_of_length_le (by omega),Nat.sub_eq_zero_of_le (by omega)]
 simp
theorem QeR {α:Type} {l:List α} {i:Nat} {w:α} (hi:i≤l.length):(l.take i++List.replicate (l.length - i) w).length=l.length:=by
 simp;omega
def noW (t:Nat):Code→Bool
 | .region _ ops _=>ops.toList.all fun o=>o.dst !=some t
 | .seq a b=>noW t a && noW t b
 | .cond _ a b=>noW t a && noW t b
 | .block _ c=>noW t c
 | .loop c=>noW t c
 | .scope c=>noW t c
 | _=>true
theorem J7 {E:Nat→Value} {d:Option Tmp} {v:Value} {t:Nat} (h:d≠some t):Z3 E d v t=E t:=by
 cases d with
 | none=>rfl
 | some d =>
  have:¬t=d:=fun e=>h (by rw [e])
  simp only [Z3,if_neg this]
section
variable {call : QO} {P : Program} {π t : Nat}
theorem Qkj {ops:Array Oper} {i:Nat} {o:Oper} {s s':St} (hd:o.dst≠some t) (h:QfK call P π ops i o s=some s'):s'.E t=s.E t:=by
 unfold QfK at h
 split at h
 ·obtain ⟨r,h1,rfl⟩:=Option.map_eq_some_iff.1 h
  exact J7 hd
 ·obtain rfl:=Option.some.inj h
  exact J7 hd
theorem Qiy {ops:Array Oper}:∀ {l:List Oper} {i:Nat} {s s':St},(∀o∈l,o.dst≠some t)→QbY call P π ops l i s=some s'→s'.E t=s.E t
 | [],i,s,s',_,h=>by
  obtain rfl:=Option.some.inj h
  rfl
 | o::r,i,s,s',hd,h=>by
  unfold QbY at h
  obtain ⟨s1,h1,h2⟩:=Option.bind_eq_some_iff.1 h
  rw [Qiy (fun o ho=>hd o (by simp [ho])) h2,Qkj (hd o (by simp)) h1]
theorem Qkb {c:Nat} {ops:Array Oper} {B:List (List Nat)} {base:AH} {i:Nat} {o:Oper} {s s':DSt} (hd:o.dst≠some t) (h:Qa4 call P π c ops B base i o s=some s'):s'.E t=s.E t:=by
 unfold Qa4 at h
 split at h
 ·split at h
  ·obtain ⟨r,h1,rfl⟩:=Option.map_eq_some_iff.1 h
   exact J7 hd
  ·split at h
   ·split at h
    ·obtain rfl:=Option.some.inj h
     exact J7 hd
    ·cases h
   ·cases h
  ·split at h
   ·split at h
    ·obtain rfl:=Option.some.inj h
     exact J7 hd
    ·cases h
   ·cases h
 ·obtain rfl:=Option.some.inj h
  exact J7 hd
theorem QhZ {c:Nat} {ops:Array Oper} {B:List (List Nat)} {base:AH}:∀ {l:List Oper} {i:Nat} {s s':DSt},(∀o∈l,o.dst≠some t)→Qfq call P π c ops B base l i s=some s'→s'.E t=s.E t
 | [],i,s,s',_,h=>by
  unfold Qfq at h
  obtain rfl:=Option.some.inj h
  rfl
 | o::r,i,s,s',hd,h=>by
  unfold Qfq at h
  obtain ⟨s1,h1,h2⟩:=Option.bind_eq_some_iff.1 h
  rw [QhZ (fun o ho=>hd o (by simp [ho])) h2,Qkb (hd o (by simp)) h1]
theorem Qkg {ops:Array Oper} {s s':St} (hd:∀o∈ops.toList,o.dst≠some t) (h:QgJ call P π ops s=some s'):s'.E t=s.E t:=by
 unfold QgJ at h
 simp only at h
 split at h
 ·obtain ⟨d,h1,rfl⟩:=Option.map_eq_some_iff.1 h
  have h3:d.E t=s.E t:=QhZ hd h1
  exact h3
 ·cases h
theorem QkR {f:St→Option (AX×St)} (hf:∀s e s',f s=some (e,s')→s'.E t=s.E t) {s:St} {e:AX} {s':St} (h:LoopR f s e s'):s'.E t=s.E t:=by
 induction h with
 | stop h _=>exact hf _ _ _ h
 | more h _ ih=>rw [ih,hf _ _ _ h]
theorem Ys : ∀(co:Code) (s:St) (e:AX) (s':St),noW t co=true→Q9 call P π co s=some (e,s')→s'.E t=s.E t
 | .skip,s,e,s',_,h=>by simp only [Q9,Option.some.injEq,Prod.mk.injEq] at h;rw [← h.2]
 | .label _,s,e,s',_,h=>by simp only [Q9,Option.some.injEq,Prod.mk.injEq] at h;rw [← h.2]
 | .exit _,s,e,s',_,h=>by simp only [Q9,Option.some.injEq,Prod.mk.injEq] at h;rw [← h.2]
 | .ret,s,e,s',_,h=>by simp only [Q9,Option.some.injEq,Prod.mk.injEq] at h;rw [← h.2]
 | .region _ ops false,s,e,s',hn,h=>by
  simp only [Q9] at h
  obtain ⟨s1,h1,h2⟩:=Option.map_eq_some_iff.1 h
  simp only [Prod.mk.injEq] at h2
  obtain ⟨_,rfl⟩:=h2
  have h3:s1.E t=s.E t:=Qiy (fun o ho e=>by
   have:=List.all_eq_true.1 hn o ho
   simp [e] at this) h1
  exact h3
 | .region _ ops true,s,e,s',hn,h=>by
  simp only [Q9] at h
  obtain ⟨s1,h1,h2⟩:=Option.map_eq_some_iff.1 h
  simp only [Prod.mk.injEq] at h2
  obtain ⟨_,rfl⟩:=h2
  exact Qkg (fun o ho e=>by
   have:=List.all_eq_true.1 hn o ho
   simp [e] at this) h1
 | .seq a b,s,e,s',hn,h=>by
  simp only [noW,Bool.and_eq_true] at hn
  simp only [Q9] at h
  cases hx:Q9 call P π a s with
  | none=>rw [hx] at h;cases h
  | some r =>
   obtain ⟨e1,s1⟩:=r
   rw [hx] at h
   have h1:=Ys a s e1 s1 hn.1 hx
   cases e1 with
   | normal=>exact (Ys b s1 e s' hn.2 h).trans h1
   | exit id =>
    simp only [Option.some.injEq,Prod.mk.injEq] at h
    rw [← h.2];exact h1
   | ret =>
    simp only [Option.some.injEq,Prod.mk.injEq] at h
    rw [← h.2];exact h1
 | .cond c a b,s,e,s',hn,h=>by
  simp only [noW,Bool.and_eq_true] at hn
  simp only [Q9] at h
  split at h
  ·exact Ys a s e s' hn.1 h
  ·exact Ys b s e s' hn.2 h
  ·cases h
 | .block id c,s,e,s',hn,h=>by
  simp only [Q9] at h
  cases hx:Q9 call P π c s with
  | none=>rw [hx] at h;cases h
  | some r =>
   obtain ⟨e1,s1⟩:=r
   rw [hx] at h
   have h1:=Ys c s e1 s1 hn hx
   cases e1 with
   | normal =>
    simp only [Option.some.injEq,Prod.mk.injEq] at h
    rw [← h.2];exact h1
   | exit id' =>
    simp only at h
    split at h<;>(simp only [Option.some.injEq,Prod.mk.injEq] at h;rw [← h.2];exact h1)
   | ret =>
    simp only [Option.some.injEq,Prod.mk.injEq] at h
    rw [← h.2];exact h1
 | .loop c,s,e,s',hn,h=>by
  simp only [Q9] at h
  exact QkR (fun s e s' h=>Ys c s e s' hn h) (Qfb h)
 | .scope c,s,e,s',hn,h=>Ys c s e s' hn (by simpa only [Q9] using h)
end
def sc : T→Bool
 | .bool _=>true
 | .int _ _=>true
 | .str _=>true
 | _=>false
def scR (rows:List (List T)):Prop:=∀r∈rows,∀t∈r,sc t=true
theorem Qdp {t:T} (h:sc t=true):Clean t:=by
 cases t<;>first | exact .bool _ | exact .int _ _ | exact .str _ | (simp [sc] at h;done)
theorem SL.sc {hf h:AH}:∀ {ts:List T} {vs:List Value} {N:List Nat},SL hf h ts vs N→(∀t∈ts,AE.sc t=true)→N= []
 | _,_,_, .nil,_=>rfl
 | _,_,_, .cons (t:=t) hs hr,hc=>by
  rw [SL.sc hr (fun t ht=>hc t (by simp [ht]))]
  have h1:=hc t (by simp)
  cases hs with
  | fz hr=>rfl
  | _=>simp [AE.sc] at h1
theorem scR.flat {rows:List (List T)} (h:scR rows):∀t∈rows.flatten,sc t=true:=fun t ht=>by
 obtain ⟨r,hr,htr⟩:=List.mem_flatten.1 ht
 exact h r hr t htr
theorem S.slInv {hf h:AH} {sz:Nat} {rows:List (List T)} {v:Value} {N:List Nat} (hs:S hf h (.sl true sz rows) v N):(rows= []∧N= []∧(v= .slice none 0 0∨∃a o,v= .slice (some ⟨a,o,none⟩) 0 0))∨∃a cs M m,N=a::M∧v= .slice (some ⟨a,0,none⟩) rows.length m∧0<m∧h a=some (.cells sz cs)∧a % 2=1∧(∀r∈rows,r.length=sz)∧rows.length*sz≤cs.length∧SL hf h rows.flatten (cs.take (rows.length*sz)) M:=by
 cases hs with
 | fz hr=>cases hr
 | ow0=>exact .inl ⟨rfl,rfl, .inl Y⟩
 | owe sz a o=>exact .inl ⟨rfl,rfl, .inr ⟨a,o,rfl⟩⟩
 | ow sz rows m hm hk hodd hlen hfit hsl=>exact .inr ⟨_,_,_,m,rfl,rfl,hm,hk,hodd,hlen,hfit,hsl⟩
def rvV : Option Int→Value
 | some r=> .int .i64 r
 | none=> .tuple #[]
def rvT : Option Int→T
 | some r=> .int .i64 r
 | none=> .tup []
def rvR (rt:Tmp):Option Int→List ResultVar
 | some _=> [.tmp rt]
 | none=> []
theorem Qo3 (hf:AH) (rv:Option Int):R hf (rvT rv) (rvV rv):=by
 cases rv with
 | none=>exact .tup [] #[] rfl (fun i hi=>by simp at hi)
 | some r=>exact .int _ _
def Mut (call:QO) (f:FuncId) (sz:Nat) (rows:List (List T)) (us:List T) (r:Option Int) (rows':List (List T)):Prop:=∀(h:AH) (p:Nat) (hf:AH) (v0:Value) (N:List Nat) (vs:List Value),Fr p h→(∀b o,hf b=some o→h b=some o∧b∉N)→S (fun _=>none) h (.sl true sz rows) v0 N→N.Nodup→RL hf us vs →
 CallS call f (v0::vs) h p (fun v h'=>(∀b,h b≠none→b∉N→h' b=h b)∧v=rvV r∧S (fun _=>none) h' (.sl true sz rows') v0 N)
def vmut (rt:Tmp) (r:Option Int) (sz:Nat) (rows':List (List T)):AX→Zc→QB→Nat→Prop
 | .exit _,_,_,_=>False
 | _,E,O,_=>(∀n,r=some n→gE E rt= .int .i64 n)∧∃k,gE E 0= .os sz k 0 rows'.length∧gO O k=some (.rows sz rows')
theorem vmut.r {rt:Tmp} {r r0:Int} {sz k n:Nat} {rows rows':List (List T)} {E:Zc} {O:QB} {nx:Nat} (h1:gE E rt= .int .i64 r0) (h2:gE E 0= .os sz k 0 n) (h3:gO O k=some (.rows sz rows)) (e1:r0=r) (e2:rows=rows') (e3:n=rows.length):vmut rt (some r) sz rows' .ret E O nx:=by
 subst e1
 subst e2
 subst e3
 exact ⟨fun n hn=>(by cases hn;exact h1),k,h2,h3⟩
theorem vmut.v {rt:Tmp} {sz k n:Nat} {rows rows':List (List T)} {E:Zc} {O:QB} {nx:Nat} (h2:gE E 0= .os sz k 0 n) (h3:gO O k=some (.rows sz rows)) (e2:rows=rows') (e3:n=rows.length):vmut rt none sz rows' .normal E O nx:=by
 subst e2
 subst e3
 exact ⟨fun n hn=>(by cases hn),k,h2,h3⟩
theorem Mut.intro {P:Program} {f:FuncId} {fn:Func} {c:Code} {n sz:Nat} {rt:Tmp} {us:List T} {r:Option Int} {rows rows':List (List T)} (hf:P.funcs[f]? =some fn) (hb:fn.body=some c) (hc:ZZ fn.ntmps c=true) (hrs:fn.results.toList=rvR rt r) (hn:noW 0 c=true) (hsc:scR rows) (hsc':scR rows') {E0:Zc} (hE:Qep 1 us=E0) (hr:VRun (Qs P n) P c ((0, .os sz 0 0 rows.length)::E0) [(0,some (.rows sz rows))] 1 (vmut rt r sz rows')) (hpr:QcF f=true:=by rfl):Mut (Qs P (n+1)) f sz rows us r rows':=by
 subst hE
 intro h p hfr v0 N vs hfp hfN hS hnd hvs
 classical
 let hb0:AH:=fun b=>if b∈N then none else h b
 have hb1:∀b,b∉N→hb0 b=h b:=fun b hb=>if_neg hb
 have hb2:∀b,b∈N→hb0 b=none:=fun b hb=>if_pos hb
 have hb3:∀b o,hb0 b=some o→b∉N∧h b=some o:=fun b o hb=>by
  by_cases hm:b∈N
  ·rw [hb2 b hm] at hb;cases hb
  ·exact ⟨hm,(hb1 b hm).symm.trans hb⟩
 have hs0:SR p ⟨hb0,fun b=>b∈N⟩ (fun _=>none) hb0 (fun _=>none) (Qep 1 us) [] 0 (fun t=>(v0::vs).getD t undef) h:=by
  refine ⟨fun t=> ?_,fun k o hk=>(by cases hk),fun a o ha=>⟨(hb3 a o ha).2,rfl⟩,fun a k ha=>(by cases ha),fun _ _=>rfl,fun t ht=> ?_⟩
  ·rw [Qdh]
   split
   ·exact .any _
   ·cases t with
    | zero=>exact absurd (by omega) ‹¬ 0<1›
    | succ t =>
     rw [Nat.add_sub_cancel,List.getD_cons_succ]
     rcases Nat.lt_or_ge t us.length with h1 | h1
     ·exact .fz ((hvs.2 t h1).mono (fun b o hb=>by rw [hb1 b (hfN b o hb).2];exact (hfN b o hb).1))
     ·rw [List.getD_eq_getElem?_getD,List.getElem?_eq_none h1]
      exact .any _
  ·by_cases hm:t∈N
   ·exact .inr (.inr hm)
   ·exact .inl (by show hb0 t≠none;rw [hb1 t hm];exact ht)
 obtain ⟨σ,own,hs1,_,hv,_⟩:=S.adopt hS hs0 hnd (fun a ha=>⟨.inr ha,hb2 a ha,hS.names a ha,hb2 a ha,rfl⟩)
 have hs2:=hs1.put hv (some 0)
 have hEa:Z3 (fun t=>(v0::vs).getD t undef) (some 0) v0=fun t=>(v0::vs).getD t undef:=by
  funext t
  cases t with
  | zero=>rfl
  | succ t=>rfl
 rw [hEa] at hs2
 unfold VRun at hr
 have hrun:=hr p _ σ _ own _ h 0 hs2
 have hrun2:Run (Qs P n) P p c ⟨fun t=>(v0::vs).getD t undef,h,0⟩ (fun e s=>KK p ⟨hb0,fun b=>b∈N⟩ (vmut rt r sz rows' e) s.E s.h∧s.E 0=v0):=by
  unfold Run at hrun ⊢
  intro hfc
  obtain ⟨e,s',h1,h2,h3⟩:=hrun hfc
  exact ⟨e,s',h1,h2,h3,Ys _ _ _ _ hn h1⟩
 refine CallS.intro (hpr:=hpr) (rs:=rvR rt r) hf hb hc hfp hrs (Run.mono hrun2 ?_)
 rintro e s' ⟨⟨σ',hf',own',E,O,nx,h1,h2⟩,h0⟩
 have key:((∀n,r=some n→gE E rt= .int .i64 n)∧∃k,gE E 0= .os sz k 0 rows'.length∧gO O k=some (.rows sz rows'))→∃l,Qat P s'.h s'.E (rvR rt r)=some l∧(fun v h'=>(∀b,h b≠none→b∉N→h' b=h b)∧v=rvV r∧S (fun _=>none) h' (.sl true sz rows') v0 N) (Jc l) (if Zk (Jc l) then YW h s'.h else QbH p h s'.h):=by
  rintro ⟨g1,k,g2,g3⟩
  have hl:∃l,Qat P s'.h s'.E (rvR rt r)=some l∧Jc l=rvV r:=by
   cases r with
   | none=>exact ⟨[],rfl,rfl⟩
   | some r =>
    have e1:=h1.env rt
    rw [g1 r Y] at e1
    exact ⟨[.int .i64 r],Qh5 (congrArg some e1.intInv) Y,rfl⟩
  obtain ⟨l,hl1,hl2⟩:=hl
  refine ⟨l,hl1,?_⟩
  have ht:Zk (Jc l)=true:=by rw [hl2];cases r<;>simp [rvV,Zk,closedV,closed1]
  rw [if_pos ht,hl2]
  have hbd:∀b,h b≠none→YW h s'.h b=s'.h b:=fun b hb=>by
   unfold YW
   cases hh:h b with
   | none=>exact absurd hh hb
   | some o=>rfl
  refine ⟨fun b hb hbN=> ?_,rfl,?_⟩
  ·rw [hbd b hb]
   have e3:hf' b=hb0 b:=h1.base b (by show hb0 b≠none;rw [hb1 b hbN];exact hb)
   rw [hb1 b hbN] at e3
   obtain ⟨o,ho⟩:=Option.ne_none_iff_exists'.1 hb
   rw [ho] at e3
   rw [(h1.fro b o e3).1,ho]
  ·have e3:=h1.env 0
   rw [g2,h0] at e3
   obtain ⟨M,hM1,hM2,e4⟩:=h1.objAt g3
   obtain ⟨_,⟨a,m,e5,e6,e7⟩ | ⟨e6,_,e7,e8⟩⟩:=e3.osInv
   ·rw [e6] at e4
    rw [Nat.zero_mul] at e5
    cases e4 with
    | rows hh hodd hlen hfit hsl =>
     obtain rfl:=hsl.sc hsc'.flat
     rcases hS.slInv with ⟨_,_,e9 | ⟨_,_,e9⟩⟩ | ⟨a2,cs2,M2,m2,rfl,e9,e10,e11,e12,e13,e14,e15⟩
     ·rw [e5] at e9;exact absurd e9 (by simp)
     ·rw [e5] at e9
      simp only [Value.slice.injEq] at e9
      omega
     ·obtain rfl:=e15.sc hsc.flat
      rw [e5] at e9
      simp only [Value.slice.injEq,Option.some.injEq,Addr.mk.injEq] at e9
      obtain ⟨⟨rfl,_⟩,_⟩:=e9
      subst e5
      refine S.mono (fun _ _ e=>e) (S.clean (.ow sz rows' m e7 hh hodd hlen hfit hsl) (.sl _ _ fun r hr t ht=>Qdp (hsc' r hr t ht))) (fun b hb=> ?_)
      obtain rfl:=List.mem_singleton.1 hb
      exact hbd _ (by rw [e11];simp)
   ·obtain rfl:=List.eq_nil_of_length_eq_zero e7
    rcases hS.slInv with ⟨_,rfl,_⟩ | ⟨a2,cs2,M2,m2,rfl,e9,e10,e11⟩
    ·rcases e8 with rfl | ⟨a,o,rfl⟩
     ·exact .ow0 sz
     ·exact .owe sz a o
    ·rcases e8 with e8 | ⟨a,o,e8⟩
     ·rw [e9] at e8;exact absurd e8 (by simp)
     ·rw [e9] at e8
      simp only [Value.slice.injEq] at e8
      omega
 cases e with
 | normal=>unfold fin;exact key h2
 | ret=>unfold fin;exact key h2
 | exit id=>exact h2.elim
section
variable {call : QO} {P : Program} {E : Zc} {O : QB} {d : Option Tmp} {ty : TypeId} {ps : String} {af : Array Edge} {g : Option (Nat × Bool)} {nx : Nat}
theorem OC.callMut {f:FuncId} {args:Array Operand} {tys:Array TypeId} {ts:List T} {sz k n:Nat} {r:Option Int} {rows rows':List (List T)} (hb:YA P f=true) (ha:VEvs E args.toList (.os sz k 0 n::ts)) (hk:gO O k=some (.rows sz rows)) (hn:n=rows.length) (hts:∀t∈ts,J4 t=true) (hsc:scR rows) (hsc':scR rows') (hp:Mut call f sz rows ts r rows') :
  OC call P E O nx ⟨d, .call ⟨.value (.func f),args,tys⟩,ty,ps,af,g⟩ (rvT r) ((k,some (.rows sz rows'))::O) nx [k]:=⟨Nat.le_refl _,fun q p h0 σ hf own Ea h hs hu hF=>by
 subst hn
 obtain ⟨vs,h1,h2⟩:=ha σ hf nx Ea hs.env
 obtain ⟨v0,l,rfl,h3,h4⟩:=h2.tail
 obtain ⟨N,hN1,hN2,h5⟩:=hs.objAt hk
 have hS:∃N',S (fun _=>none) h (.sl true sz rows) v0 N'∧N'.Nodup∧(∀a∈N',own a=some k)∧((∃a M m,N'=a::M∧σ k=some a∧v0= .slice (some ⟨a,0,none⟩) rows.length m∧0<m)∨(N'= []∧rows= []∧σ k=none∧(v0= .slice none 0 0∨∃a o,v0= .slice (some ⟨a,o,none⟩) 0 0))):=by
  obtain ⟨_,⟨a,m,e5,e6,e7⟩ | ⟨e6,_,e7,e8⟩⟩:=h3.osInv
  ·rw [e6] at h5
   rw [Nat.zero_mul] at e5
   cases h5 with
   | rows hh hodd hlen hfit hsl =>
    subst e5
    exact ⟨_,S.clean (.ow sz rows m e7 hh hodd hlen hfit hsl) (.sl _ _ fun r hr t ht=>Qdp (hsc r hr t ht)),hN1,hN2, .inl ⟨_,_,m,rfl,e6,rfl,e7⟩⟩
  ·obtain rfl:=List.eq_nil_of_length_eq_zero e7
   refine ⟨[],?_,by simp,by simp, .inr ⟨rfl,rfl,e6,e8⟩⟩
   rcases e8 with rfl | ⟨a,o,rfl⟩
   ·exact .ow0 sz
   ·exact .owe sz a o
 obtain ⟨N',g1,g2,g3,g4⟩:=hS
 have h6:=hp h q hf v0 N' l hF (fun b o hb=>⟨(hs.fro b o hb).1,fun hm=>by have:=g3 b hm;rw [(hs.fro b o hb).2] at this;cases this⟩) g1 g2 (h4.pl hts)
 unfold CallS at h6
 obtain ⟨v,h',k1,k2,k3,rfl,k5⟩:=h6
 refine ⟨_,h',σ,own,by simp only [QD,X.calls hb h1,k1],k2,fun _ _=>rfl,⟨hs.env,fun k' o hk'=> ?_,fun b o hb=> ?_,fun b k' hb=> ?_,hs.base,fun t ht=> ?_⟩, .fz (Qo3 _ _),fun b hb hnk=>k3 b hb (fun hm=>hnk k (by simp) (g3 b hm)),fun b k' e=> .inl e⟩
 ·simp only [gO] at hk'
  split at hk'
  ·rename_i e
   subst e
   obtain rfl:=Option.some.inj hk'
   refine ⟨(hs.obj _ _ hk).1,N',g2,g3,?_⟩
   rcases g4 with ⟨a,M,m,rfl,g5,g6,g7⟩ | ⟨rfl,rfl,g5,g6⟩
   ·rcases k5.slInv with ⟨_,e9,_⟩ | ⟨a2,cs2,M2,m2,e8,e9,e10,e11,e12,e13,e14,e15⟩
    ·cases e9
    ·cases e8
     rw [g5]
     exact .rows e11 e12 e13 e14 (e15.clean (fun t ht=>Qdp (hsc'.flat t ht)))
   ·rcases k5.slInv with ⟨rfl,_,_⟩ | ⟨a2,cs2,M2,m2,e8,_⟩
    ·rw [g5]
     exact .none sz
    ·cases e8
  ·rename_i hne
   obtain ⟨m1,N2,m2,m3,m4⟩:=hs.obj k' o hk'
   refine ⟨m1,N2,m2,m3,m4.mono (fun _ _ e=>e) (Nat.le_refl _) (fun _ _=>rfl) (fun b hb=>k3 b (hs.mine b k' (m3 b hb)).2.2.1 (fun hm=> ?_))⟩
   have:=g3 b hm
   rw [m3 b hb] at this
   exact hne (Option.some.inj this)
 ·obtain ⟨m1,m2⟩:=hs.fro b o hb
  refine ⟨?_,m2⟩
  rw [k3 b (by rw [m1];simp) (fun hm=>by have:=g3 b hm;rw [m2] at this;cases this)]
  exact m1
 ·obtain ⟨m1,m2,m3,m4⟩:=hs.mine b k' hb
  refine ⟨m1,m2,?_,m4⟩
  by_cases hm:b∈N'
  ·exact k5.names b hm
  ·rw [k3 b m3 hm]
   exact m3
 ·rcases k2 t ht with e | e
  ·exact hs.dom t e
  ·exact .inr (hu t e)⟩
end
attribute [irreducible] vmut
theorem QL {α:Type} {enc:Bool→α→List T} (he:∀x,(enc true x).all sc=true) (l:List α):scR (l.map (enc true)):=fun r hr t ht=>by
 obtain ⟨x,_,rfl⟩:=List.mem_map.1 hr
 exact List.all_eq_true.1 (he x) t ht
theorem SL.ints {hf h:AH} {k:IntKind}:∀ {l:List Int} {vs:List Value} {N:List Nat},SL hf h (l.map (T.int k)) vs N→vs=l.map (Value.int k)
 | [],_,_, .nil=>rfl
 | n::l,_,_, .cons hs hr=>by
  rw [SL.ints hr]
  cases hs with
  | fz hr=>cases hr;rfl
theorem QgC : ∀l:List Int,QiO (l.map (Value.int .u8))=some l
 | []=>rfl
 | n::l=>by simp only [List.map_cons,QiO,QgC l,Option.map_some]
theorem QcM : ∀l:List Int,(l.map (QX true)).flatten=l.map (T.int .u8)
 | []=>rfl
 | n::l=>by simp only [List.map_cons,List.flatten_cons,QcM l];rfl
theorem B.convBS {call:QO} {P:Program} {E:Zc} {O:QB} {d:Option Tmp} {ty st dt e:TypeId} {ps:String} {af:Array Edge} {g:Option (Nat×Bool)} {x:Operand} {k n:Nat} {l:List Int} (hx:VEv E x (.os 1 k 0 n)) (hk:gO O k=some (.rows 1 (l.map (QX true)))) (hn:n=l.length) (hu:P.underlying st=some (.slice e)) (he:P.underlying e=some (.int .u8)) (hd:P.underlying dt=some .string) :
  OL call P E O ⟨d, .convert st dt x,ty,ps,af,g⟩ (.str (YQ l)):=fun q p h0 σ hf own nx Ea h hs=>by
 subst hn
 obtain ⟨v,h1,h2⟩:=hx σ hf nx Ea hs.env
 obtain ⟨N,hN1,hN2,h5⟩:=hs.objAt hk
 refine ⟨.string (YQ l),X.convert h1 (h':=h) ?_, .fz (.str _)⟩
 obtain ⟨_,⟨a,m,rfl,e6,e7⟩ | ⟨e6,_,e7,e8⟩⟩:=h2.osInv
 ·rw [e6] at h5
  generalize hrr:l.map (QX true)=rws at h5
  cases h5 with
  | rows hh hodd hlen hfit hsl =>
   rename_i cs N
   subst hrr
   rw [QcM] at hsl
   have e10:=hsl.ints
   rw [List.length_map,Nat.mul_one] at e10 hfit
   simp only [Qc2,hu,he,hd]
   by_cases hz:l.length=0
   ·rw [if_pos hz]
    obtain rfl:=List.eq_nil_of_length_eq_zero hz
    rfl
   ·rw [if_neg hz]
    simp only [hh,Nat.zero_mul,Nat.zero_add,if_pos hfit,List.drop_zero,e10,QgC,Option.map_some]
 ·obtain rfl:=List.eq_nil_of_length_eq_zero e7
  rcases e8 with rfl | ⟨a,o,rfl⟩
  ·simp only [Qc2,hu,he,hd];rfl
  ·simp only [Qc2,hu,he,hd,if_true];rfl
def Yd (s:ByteArray):List Int:=s.data.toList.map fun b=>(b.toNat:Int)
theorem Qcl (s:ByteArray):(Yd s).length=s.size:=by rw [Yd,List.length_map];exact Array.length_toList
theorem Qe8 (s:ByteArray):Jv s=(Yd s).map (Value.int .u8):=by
 simp [Jv,byteCells,Yd,Function.comp_def]
theorem Qjq (hf h:AH) (k:IntKind):∀l:List Int,SL hf h (l.map (T.int k)) (l.map (Value.int k)) []
 | []=> .nil
 | n::l=> .cons (N:= []) (M:= []) (.fz (.int _ _)) (Qjq hf h k l)
theorem B.convSB {call:QO} {P:Program} {E:Zc} {nx:Nat} {d:Option Tmp} {ty st dt e:TypeId} {ps:String} {af:Array Edge} {g:Option (Nat×Bool)} {x:Operand} {s:ByteArray} (hx:VEv E x (.str s)) (hu:P.underlying st=some .string) (hd:P.underlying dt=some (.slice e)) (he:P.underlying e=some (.int .u8)) :
  OM call P E nx ⟨d, .convert st dt x,ty,ps,af,g⟩ (.os 1 nx 0 ((Yd s).map (QX true)).length) (.rows 1 ((Yd s).map (QX true))):=fun q σ hf Ea hE=>by
 obtain ⟨v,h1,h2⟩:=hx σ hf nx Ea hE
 obtain rfl:=h2.strInv
 have hl:((Yd s).map (QX true)).length=s.size:=by rw [List.length_map,Qcl]
 refine ⟨.slice (some ⟨Qn q,0,none⟩) s.size 1, .cells 1 (Jv s),some (Qn q),[Qn q],fun h=>X.convert h1 ?_, .inl ⟨rfl,rfl⟩,?_,fun h=> ?_⟩
 ·simp only [Qc2,hu,hd,he]
 ·rw [hl]
  have:=V.os (σ:=fun k=>if k=nx then some (Qn q) else σ k) (hf:=hf) (nx:=nx+1) (a:=Qn q) 1 nx 0 s.size 1 (by omega) (by simp) (by omega)
  rw [Nat.zero_mul] at this
  exact this
 ·refine .rows (N:= []) (AH.upd_same _ _ _) (J3 q) (fun r hr=> ?_) ?_ ?_
  ·obtain ⟨n,_,rfl⟩:=List.mem_map.1 hr
   rfl
  ·rw [Qe8,List.length_map,List.length_map];omega
  ·rw [QcM,Qe8,List.take_of_length_le (by rw [List.length_map,List.length_map];omega)]
   exact Qjq _ _ _ _
section
variable {α : Type}
def JZ (f:Nat→α) (w k n:Nat):List α:=(List.range n).map fun j=>f (k+w*j)
def Yj (f:Nat→α) (w k:Nat) (a:List α) (i:Nat):List α:=JZ f w k i++a.drop i
theorem Ji (f:Nat→α) (w k n:Nat):(JZ f w k n).length=n:=by simp [JZ]
theorem J5 {f:Nat→α} {w k:Nat} {a:List α} {i:Nat} (h:i≤a.length):(Yj f w k a i).length=a.length:=by
 simp only [Yj,List.length_append,Ji,List.length_drop]
 omega
theorem QgS {f:Nat→α} {w k:Nat} {a:List α} {i:Nat} (h:i≤a.length) (h2:¬i<a.length):Yj f w k a i=JZ f w k a.length:=by
 obtain rfl:i=a.length:=by omega
 simp [Yj]
theorem QgU {f:Nat→α} {w k:Nat} {a:List α} {i:Nat} (h:i<a.length):(Yj f w k a i).set i (f (k+w*i))=Yj f w k a (i+1):=by
 unfold Yj
 rw [List.drop_eq_getElem_cons h,List.set_append_right _ _ (by rw [Ji];omega),Ji,Nat.sub_self,List.set_cons_zero]
 simp only [JZ,List.range_succ,List.map_append,List.map_cons,List.map_nil,List.append_assoc,List.cons_append,List.nil_append]
theorem Qm4 {f:Nat→α} {w k i:Nat} {a:List α} {x:α} (h:a=JZ f w k a.length) (hx:a[i]? =some x):x=f (k+w*i):=by
 rw [h] at hx
 unfold JZ at hx
 rw [List.getElem?_map] at hx
 obtain ⟨j,h1,rfl⟩:=Option.map_eq_some_iff.1 hx
 obtain ⟨h2,h3⟩:=List.getElem?_eq_some_iff.1 h1
 rw [List.getElem_range] at h3
 rw [h3]
theorem QcE {l:List α} {i:Nat} {v:α} (h:i<l.length):(l.set i v)[i]? =some v:=by simp [h]
end
end Go.Proofs.YtoaigcojlmoijaaGreat.AE
