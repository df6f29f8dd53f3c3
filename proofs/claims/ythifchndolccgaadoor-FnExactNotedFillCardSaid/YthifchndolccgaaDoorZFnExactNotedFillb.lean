/- A part of what the row of FnExactNotedFill uses. Conditions: as each theorem states. -/
import Derived.Test.YthifchndolccgaaDoorZFnExactNotedFilla
import Derived.IntWalk
import Derived.Below
import Derived.Test.YthifchndolccgaaDoorProg
import Derived.KernelRfl
namespace Go.Proofs.YthifchndolccgaaDoor.AE
open Go Go.RowKit
set_option linter.unusedVariables false
set_option linter.unusedSimpArgs false
section
variable {call : Qk} {P : Program} {p : Nat} {E : Nat → Value} {h h' : AH} {d : Option Tmp} {ty t s e : TypeId} {ps : String} {af : Array Edge} {g : Option (Nat × Bool)} {x y z : Operand} {u v w : Value} {k o es : Nat} {cs l : List Value}
theorem X.move (hx:QB E x=some v):Qh call P p E h ⟨d, .move x,ty,ps,af,g⟩=some (v,h):=by simp only [Qh,Yj,hx,Option.map_some]
theorem X.assign (hx:QB E x=some v):Qh call P p E h ⟨d, .assign x,ty,ps,af,g⟩=some (v,h):=by simp only [Qh,Yj,hx,Option.map_some]
theorem X.pickT (hc:QB E x=some (.bool true)) (hy:QB E y=some v):Qh call P p E h ⟨d, .pick x y z,ty,ps,af,g⟩=some (v,h):=by simp only [Qh,Yj,hc,hy,Option.map_some]
theorem X.pickF (hc:QB E x=some (.bool false)) (hz:QB E z=some v):Qh call P p E h ⟨d, .pick x y z,ty,ps,af,g⟩=some (v,h):=by simp only [Qh,Yj,hc,hz,Option.map_some]
theorem X.box (hx:QB E x=some v) (hc:v.cells.toList=cs):Qh call P p E h ⟨d, .box t x,ty,ps,af,g⟩=some (.pointer (some ⟨Qb p,0,none⟩),h.upd (Qb p) (some (.cells 0 cs))):=by
 subst hc
 simp only [Qh,Yj,hx,Option.map_some,Qdg]
theorem X.alloc (hz:QH P t=some v) (hcl:closedV v=true) (hc:v.cells.toList=cs):Qh call P p E h ⟨d, .alloc t,ty,ps,af,g⟩=some (.pointer (some ⟨Qb p,0,none⟩),h.upd (Qb p) (some (.cells 0 cs))):=by
 subst hc
 simp only [Qh,Yj,hz,hcl,if_true,Qdg]
theorem X.load (hx:QB E x=some u) (hl:Zz P t h u=some v):Qh call P p E h ⟨d, .load t x,ty,ps,af,g⟩=some (v,h):=by simp only [Qh,Yj,hx,hl,Option.map_some]
theorem Jk (hst:Qj P t=some false) (hk:h k=some (.cells es cs)) (hv:cs[o]? =some v):Zz P t h (.pointer (some ⟨k,o,none⟩))=some v:=by simp only [Zz,hk,hst,hv]
theorem Y2 {n:Nat} (hst:Qj P t=some true) (hn:P.cellsOf t=n) (hk:h k=some (.cells es cs)) (hle:o+n≤cs.length) (hl:(cs.drop o).take n=l):Zz P t h (.pointer (some ⟨k,o,none⟩))=some (.agg l.toArray):=by
 subst hl
 subst hn
 simp only [Zz,hk,hst,hle,if_true]
theorem X.store (hx:QB E x=some u) (hy:QB E y=some v) (hs:Y5 P t h u v=some h'):Qh call P p E h ⟨d, .store t x y,ty,ps,af,g⟩=some (undef,h'):=by simp only [Qh,Yj,hx,hy,hs,Option.map_some]
theorem Qav {n:Nat} (hodd:k % 2=1) (hk:h k=some (.cells es cs)) (hi:(P.info? t).isSome=true) (hn:P.cellsOf t=n) (hc:v.cells.toList=l) (hl:l.length=n) (hle:o+l.length≤cs.length) (ho:∀a∈l,a.oneCell'=true):Y5 P t h (.pointer (some ⟨k,o,none⟩)) v=some (h.upd k (some (.cells es (splice cs o l)))):=by
 subst hc
 have h1:v.cells.size=P.cellsOf t:=by rw [hn,← hl];simp
 have h2:o+v.cells.size≤cs.length:=by simpa using hle
 have h3:v.cells.all (·.oneCell')=true:=by
  rw [← Array.all_toList]
  exact List.all_eq_true.2 ho
 simp only [Y5,hodd,hk,hi,h1,if_true]
 rw [← h1,if_pos ⟨trivial,trivial,h2,h3⟩]
theorem QcS {a:Tmp} {r:List ResultVar} (ha:QB E (.tmp a)=some v) (hr:ZP P h E r=some l):ZP P h E (.tmp a::r)=some (v::l):=by
 obtain rfl:=Option.some.inj ha
 simp only [ZP,hr,Option.map_some]
theorem Qau {a:Tmp} {r:List ResultVar} (ha:QB E (.tmp a)=some u) (hl:Zz P t h u=some v) (hr:ZP P h E r=some l):ZP P h E (.cell a t::r)=some (v::l):=by
 obtain rfl:=Option.some.inj ha
 simp only [ZP,hl,hr]
theorem X.bin {op:BinOp} {xt:TypeId} (hx:QB E x=some u) (hy:QB E y=some v) (hb:Q5 P op t x y u v=some w):Qh call P p E h ⟨d, .binOp op t x y xt,ty,ps,af,g⟩=some (w,h):=by simp only [Qh,Yj,hx,hy,hb,Option.map_some]
theorem X.un {op:UnOp} {xt:TypeId} (hx:QB E x=some u) (hb:aun P op u=some w):Qh call P p E h ⟨d, .unOp op xt x,ty,ps,af,g⟩=some (w,h):=by simp only [Qh,Yj,hx,hb,Option.map_some]
theorem X.fieldAddr {f:Nat} (hx:QB E x=some u) (hb:Qc P t u f=some w):Qh call P p E h ⟨d, .fieldAddr t x f,ty,ps,af,g⟩=some (w,h):=by simp only [Qh,Yj,hx,hb,Option.map_some]
theorem X.indexAddr (hx:QB E x=some u) (hy:QB E y=some v) (hb:Za P t u v=some w):Qh call P p E h ⟨d, .indexAddr t x y,ty,ps,af,g⟩=some (w,h):=by simp only [Qh,Yj,hx,hy,hb,Option.map_some]
theorem X.index (hx:QB E x=some u) (hy:QB E y=some v) (hb:Jd P t u v=some w):Qh call P p E h ⟨d, .index t x y,ty,ps,af,g⟩=some (w,h):=by simp only [Qh,Yj,hx,hy,hb,Option.map_some]
theorem X.len (hx:QB E x=some u) (hl:Qbq P t h u=some w):Qh call P p E h ⟨d, .call ⟨.builtin .len,#[x],#[t]⟩,ty,ps,af,g⟩=some (w,h):=by simp only [Qh,Yj,Z8,evs,hx,hl,Option.map_some]
theorem X.sliceLo (hx:QB E x=some u) (hy:QB E y=some v) (hs:ZA P t h u (some v) none=some w):Qh call P p E h ⟨d, .slice t x (some y) none none,ty,ps,af,g⟩=some (w,h):=by simp only [Qh,Yj,hx,hy,hs,Option.map_some]
theorem X.sliceHi (hx:QB E x=some u) (hy:QB E y=some v) (hs:ZA P t h u none (some v)=some w):Qh call P p E h ⟨d, .slice t x none (some y) none,ty,ps,af,g⟩=some (w,h):=by simp only [Qh,Yj,hx,hy,hs,Option.map_some]
theorem X.makeSlice (hx:QB E x=some u) (hy:QB E y=some v) (ha:Qat P p t h u v=some (.val w h')):Qh call P p E h ⟨d, .makeSlice t x y,ty,ps,af,g⟩=some (w,h'):=by simp only [Qh,Yj,hx,hy,ha]
theorem X.buildSlice {n:Nat} {pp:Array (Nat×Operand)} {q:List (Nat×Value)} (hp:evp E pp.toList=some q) (hb:Ze P p t n h q=some (.val w h')):Qh call P p E h ⟨d, .buildSlice t n pp,ty,ps,af,g⟩=some (w,h'):=by simp only [Qh,Yj,hp,hb]
theorem X.convert (hx:QB E x=some u) (hb:Jw P p s t h u=some (.val w h')):Qh call P p E h ⟨d, .convert s t x,ty,ps,af,g⟩=some (w,h'):=by simp only [Qh,Yj,hx,hb]
theorem X.calls {f:FuncId} {args:Array Operand} {ts:Array TypeId} (hb:Yh P f=true) (ha:evs E args.toList=some l):Yj P p E h ⟨d, .call ⟨.value (.func f),args,ts⟩,ty,ps,af,g⟩=some (.enter f l):=by simp [Yj,Z8,QB,ha,hb]
theorem QaT {a:Option Addr} {n m:Nat} (hu:P.underlying t=some (.slice e)):Qbq P t h (.slice a n m)=some (.int .i64 n):=by simp only [Qbq,hu]
theorem Qdd {st:ByteArray} (hu:P.underlying t=some .string):Qbq P t h (.string st)=some (.int .i64 st.size):=by simp only [Qbq,hu]
end
end Go.Proofs.YthifchndolccgaaDoor.AE
namespace Go.Proofs.YthifchndolccgaaDoor.AE
open Go Go.RowKit
set_option linter.unusedVariables false
set_option linter.unusedSimpArgs false
def YL : Nat:=1099511627776
section
variable {P : Program} {t e : TypeId} {α : Type} {d : AK α} {h : AH} {l : List α} {v : Value}
theorem Q1 {n:Int} (h: -9223372036854775808≤n∧n≤9223372036854775807):IntKind.i64.wrap n=n:=by
 rw [IntKind.wrap_i64]
 omega
theorem Qct {s:ByteArray} {i:Nat} {k:IntKind} (hu:P.underlying t=some .string) (hi:i<s.size):Jd P t (.string s) (.int k i)=some (.int .u8 ((s[i]'hi).toNat:Int)):=by
 simp only [Jd,hu]
 rw [dif_pos ⟨by omega,by simpa using hi⟩]
 simp
theorem QU (z:List Value) (n:Nat):(YW z n).length=n:=by simp [YW]
end
end Go.Proofs.YthifchndolccgaaDoor.AE
namespace Go.Proofs.YthifchndolccgaaDoor.AE
open Go Go.RowKit
set_option linter.unusedVariables false
set_option linter.unusedSimpArgs false
def JL : Value→Value
 | .agg cs=> .agg (cs.map JM)
 | v=>JM v
theorem JY (v:Value):(JL v).cells.toList=v.cells.toList.map JM:=by
 cases v with
 | agg cs=>simp [JL,Value.cells]
 | slice a n c=>cases a<;>rfl
 | _=>rfl
theorem Qc2 {v:Value} (h:∀c∈v.cells.toList,QK c=true):VR Jf (JL v) v:=by
 cases v with
 | agg cs =>
  refine .agg _ _ (by simp) (fun i hi=> ?_)
  have hi':i<cs.size:=by simpa using hi
  have h1:=h cs[i] (by simp [Value.cells])
  simpa [Array.getD_eq_getD_getElem?,hi'] using QaN h1
 | _=>exact QaN (by simpa only [Value.cells,List.toList_toArray,List.mem_singleton,forall_eq] using h)
theorem fr0 (W:World):Fr 1 (H0 W):=fun t ht=>by
 cases hh:H0 W t with
 | none=>rfl
 | some x =>
  obtain ⟨b,o,rfl⟩:=JH hh
  have:=ht.odd (by decide)
  rw [YO] at this
  cases this
theorem Qdn {P:Program} {W:World} {n:Nat} {f:FuncId} {args:List Value} {args':Array Value} {b:Bool} (hm:P.follows .mixedOrders=true) (hP:Plain P) (hl:LR Jf args args'.toList)
  (hc:CallS (Qo P n) f args (H0 W) 1 (fun v _=>v= .bool b)) (hprim:Qbx P:=by exact QdM) (hg:GlobOk W.heap.size W:=by intro g hg;cases hg):Calls P f args' W fun e W'=>e= .returned (.bool b)∧Below W.heap.size W W':=by
 unfold CallS at hc
 obtain ⟨v,h',h1,_,rfl⟩:=hc
 refine Calls.mono (Qbj hm hP hprim n f args (H0 W) 1 _ h' h1 W.heap.size Jf W args' hl (QeV W hg) (fun t ht=>Qc7 (ht.odd (by decide))) (by decide)) ?_
 rintro e W' ⟨v',ρ',rfl,hs,hv⟩
 cases hv
 refine ⟨rfl,hs.same.1,hs.same.2.1,hs.same.2.2,hs.size,fun k hk=>hs.frame k hk ?_⟩
 rintro ⟨t,s,h2,h3,_⟩
 obtain ⟨x,hx⟩:=Option.ne_none_iff_exists'.1 h3
 obtain ⟨b,o,rfl⟩:=JH hx
 rw [YO] at h2
 cases h2
theorem Qef : LR Jf [] []:=LR.nil _
theorem Qce {v v':Value} {l l':List Value} (h:VR Jf v v') (hl:LR Jf l l'):LR Jf (v::l) (v'::l'):=LR.cons h hl
end Go.Proofs.YthifchndolccgaaDoor.AE
namespace Go.Proofs.YthifchndolccgaaDoor.AE
open Go Go.RowKit
set_option linter.unusedVariables false
set_option linter.unusedSimpArgs false
inductive T where
 | any
 | bool (b:Bool)
 | int (k:IntKind) (n:Int)
 | str (s:ByteArray)
 | ptr0
 | fn0
 | nils
 | agg (cs:List T)
 | tup (cs:List T)
 | fn (f:FuncId) (cs:List T)
 | sl (own:Bool) (sz:Nat) (rows:List (List T))
 | rp (cs:List T)
 | os (sz k lo n:Nat)
 | op (k o:Nat)
 | orp (sz k i o:Nat)
 | om (k:Nat)
 | vp (cs:List T)
mutual
def fz : T→T
 | .sl _ sz rows=> .sl false sz (JA rows)
 | .agg ts=> .agg (fzL ts)
 | .tup ts=> .tup (fzL ts)
 | .any=> .any
 | .bool b=> .bool b
 | .int k n=> .int k n
 | .str s=> .str s
 | .ptr0=> .ptr0
 | .fn0=> .fn0
 | .nils=> .nils
 | .fn f cs=> .fn f cs
 | .rp cs=> .rp cs
 | .os sz k lo n=> .os sz k lo n
 | .op k o=> .op k o
 | .orp sz k i o=> .orp sz k i o
 | .om k=> .om k
 | .vp cs=> .vp cs
def fzL : List T→List T
 | []=> []
 | t::r=>fz t::fzL r
def JA : List (List T)→List (List T)
 | []=> []
 | r::rs=>fzL r::JA rs
end
theorem Yd (l:List T):fzL l=l.map fz:=by
 induction l with
 | nil=>rfl
 | cons t r ih=>simp only [fzL,List.map_cons,ih]
theorem JX (l:List (List T)):JA l=l.map fzL:=by
 induction l with
 | nil=>rfl
 | cons t r ih=>simp only [JA,List.map_cons,ih]
theorem YR (l:List (List T)):(JA l).flatten=fzL l.flatten:=by
 induction l with
 | nil=>rfl
 | cons t r ih=>simp only [JA,List.flatten_cons,ih,Yd,List.map_append]
theorem Qa1 {l:List (List T)} {n:Nat} (h:∀r∈l,r.length=n):∀r∈JA l,r.length=n:=by
 intro r hr
 rw [JX] at hr
 obtain ⟨x,hx,rfl⟩:=List.mem_map.1 hr
 rw [Yd,List.length_map]
 exact h x hx
theorem QW (l:List (List T)):(JA l).length=l.length:=by rw [JX,List.length_map]
inductive R (hf:AH):T→Value→Prop
 | bool (b:Bool):R hf (.bool b) (.bool b)
 | int (k:IntKind) (n:Int):R hf (.int k n) (.int k n)
 | str (s:ByteArray):R hf (.str s) (.string s)
 | ptr0:R hf .ptr0 (.pointer none)
 | fn0:R hf .fn0 .nilFunc
 | nils:R hf .nils (.slice none 0 0)
 | agg (ts:List T) (vs:Array Value) (hs:ts.length=vs.size) (h:∀i,i<ts.length→R hf (ts.getD i .any) (vs.getD i undef)):R hf (.agg ts) (.agg vs)
 | tup (ts:List T) (vs:Array Value) (hs:ts.length=vs.size) (h:∀i,i<ts.length→R hf (ts.getD i .any) (vs.getD i undef)):R hf (.tup ts) (.tuple vs)
 | fn (f:FuncId) (ts:List T) (vs:Array Value) (hs:ts.length=vs.size) (h:∀i,i<ts.length→R hf (ts.getD i .any) (vs.getD i undef)):R hf (.fn f ts) (.func (.func f) #[] vs)
 | sl0 (sz:Nat):R hf (.sl false sz []) (.slice none 0 0)
 | sle (sz:Nat) (a o m:Nat):R hf (.sl false sz []) (.slice (some ⟨a,o,none⟩) 0 m)
 | sl {a es:Nat} {cs:List Value} (sz:Nat) (rows:List (List T)) (o m:Nat) (hm:0<m) (hk:hf a=some (.cells es cs)) (hes:es=0∨es=sz) (hlen:∀r∈rows,r.length=sz) (hfit:o+rows.length*sz≤cs.length)
   (h:∀i,i<rows.length*sz→R hf (rows.flatten.getD i .any) (cs.getD (o+i) undef)):R hf (.sl false sz rows) (.slice (some ⟨a,o,none⟩) rows.length m)
 | rp {a es:Nat} {cs:List Value} (ts:List T) (o:Nat) (hk:hf a=some (.cells es cs)) (hfit:o+ts.length≤cs.length) (h:∀i,i<ts.length→R hf (ts.getD i .any) (cs.getD (o+i) undef)):R hf (.rp ts) (.pointer (some ⟨a,o,none⟩))
theorem R.mono {hf hf':AH} (hm:∀a o,hf a=some o→hf' a=some o) {t:T} {v:Value} (h:R hf t v):R hf' t v:=by
 induction h with
 | bool b=>exact .bool b
 | int k n=>exact .int k n
 | str s=>exact .str s
 | ptr0=>exact .ptr0
 | fn0=>exact .fn0
 | nils=>exact .nils
 | agg ts vs hs _ ih=>exact .agg ts vs hs ih
 | tup ts vs hs _ ih=>exact .tup ts vs hs ih
 | fn f ts vs hs _ ih=>exact .fn f ts vs hs ih
 | sl0 sz=>exact .sl0 sz
 | sle sz a o m=>exact .sle sz a o m
 | sl sz rows o m hm1 hk hes hlen hfit _ ih=>exact .sl sz rows o m hm1 (hm _ _ hk) hes hlen hfit ih
 | rp ts o hk hfit _ ih=>exact .rp ts o (hm _ _ hk) hfit ih
inductive Clean : T→Prop
 | bool (b:Bool):Clean (.bool b)
 | int (k:IntKind) (n:Int):Clean (.int k n)
 | str (s:ByteArray):Clean (.str s)
 | ptr0:Clean .ptr0
 | fn0:Clean .fn0
 | nils:Clean .nils
 | agg (ts:List T) (h:∀t∈ts,Clean t):Clean (.agg ts)
 | tup (ts:List T) (h:∀t∈ts,Clean t):Clean (.tup ts)
 | sl (sz:Nat) (rows:List (List T)) (h:∀r∈rows,∀t∈r,Clean t):Clean (.sl true sz rows)
 | sl0 (sz:Nat):Clean (.sl false sz [])
theorem R.clean {hf:AH} {t:T} {v:Value} (h:R hf t v) (hc:Clean t) (hf':AH):R hf' t v:=by
 induction h with
 | bool b=>exact .bool b
 | int k n=>exact .int k n
 | str s=>exact .str s
 | ptr0=>exact .ptr0
 | fn0=>exact .fn0
 | nils=>exact .nils
 | agg ts vs hs _ ih =>
  cases hc with
  | agg _ hc=>exact .agg ts vs hs (fun i hi=>ih i hi (hc _ (by rw [List.getD_eq_getElem?_getD,List.getElem?_eq_getElem hi];exact List.getElem_mem hi)))
 | tup ts vs hs _ ih =>
  cases hc with
  | tup _ hc=>exact .tup ts vs hs (fun i hi=>ih i hi (hc _ (by rw [List.getD_eq_getElem?_getD,List.getElem?_eq_getElem hi];exact List.getElem_mem hi)))
 | fn f ts vs hs _ ih=>cases hc
 | sl0 sz=>exact .sl0 sz
 | sle sz a o m=>exact .sle sz a o m
 | sl sz rows o m hm1 hk hes hlen hfit _ ih =>
  cases hc with
  | sl0 sz=>exact .sle _ _ _ _
 | rp ts o hk hfit _ ih=>cases hc
mutual
inductive S (hf h:AH):T→Value→List Nat→Prop
 | fz {t:T} {v:Value} (hr:R hf t v):S hf h t v []
 | ow0 (sz:Nat):S hf h (.sl true sz []) (.slice none 0 0) []
 | owe (sz a o:Nat):S hf h (.sl true sz []) (.slice (some ⟨a,o,none⟩) 0 0) []
 | ow {a:Nat} {cs:List Value} {N:List Nat} (sz:Nat) (rows:List (List T)) (m:Nat) (hm:0<m) (hk:h a=some (.cells sz cs)) (hodd:a % 2=1) (hlen:∀r∈rows,r.length=sz) (hfit:rows.length*sz≤cs.length)
   (hs:SL hf h rows.flatten (cs.take (rows.length*sz)) N):S hf h (.sl true sz rows) (.slice (some ⟨a,0,none⟩) rows.length m) (a::N)
 | agg {ts:List T} {vs:List Value} {N:List Nat} (hs:SL hf h ts vs N):S hf h (.agg ts) (.agg vs.toArray) N
 | tup {ts:List T} {vs:List Value} {N:List Nat} (hs:SL hf h ts vs N):S hf h (.tup ts) (.tuple vs.toArray) N
inductive SL (hf h:AH):List T→List Value→List Nat→Prop
 | nil:SL hf h [] [] []
 | cons {t:T} {v:Value} {ts:List T} {vs:List Value} {N M:List Nat} (hs:S hf h t v N) (hr:SL hf h ts vs M):SL hf h (t::ts) (v::vs) (N++M)
end
theorem SL.length {hf h:AH}:∀ {ts:List T} {vs:List Value} {N:List Nat},SL hf h ts vs N→ts.length=vs.length
 | _,_,_, .nil=>rfl
 | _,_,_, .cons _ hr=>by simp only [List.length_cons,hr.length]
mutual
theorem S.mono {hf hf' h h':AH} (hm:∀a o,hf a=some o→hf' a=some o):∀ {t:T} {v:Value} {N:List Nat},S hf h t v N→(∀a∈N,h' a=h a)→S hf' h' t v N
 | _,_,_, .fz hr,_=> .fz (hr.mono hm)
 | _,_,_, .ow0 sz,_=> .ow0 sz
 | _,_,_, .owe sz a o,_=> .owe sz a o
 | _,_,_, .ow sz rows m hm1 hk hodd hlen hfit hs,hN=> .ow sz rows m hm1 ((hN _ (by simp)).trans hk) hodd hlen hfit (SL.mono hm hs (fun a ha=>hN a (by simp [ha])))
 | _,_,_, .agg hs,hN=> .agg (SL.mono hm hs hN)
 | _,_,_, .tup hs,hN=> .tup (SL.mono hm hs hN)
theorem SL.mono {hf hf' h h':AH} (hm:∀a o,hf a=some o→hf' a=some o):∀ {t:List T} {v:List Value} {N:List Nat},SL hf h t v N→(∀a∈N,h' a=h a)→SL hf' h' t v N
 | _,_,_, .nil,_=> .nil
 | _,_,_, .cons hs hr,hN=> .cons (S.mono hm hs (fun a ha=>hN a (by simp [ha]))) (SL.mono hm hr (fun a ha=>hN a (by simp [ha])))
end
theorem Jm {hf:AH} {ts:List T} {vs:List Value} (h:ts.length=vs.length∧∀i,i<ts.length→R hf (ts.getD i .any) (vs.getD i undef)):∀i,i<ts.length→R hf (ts.getD i .any) (vs.toArray.getD i undef):=fun i hi=>by
 have:=h.2 i hi
 simpa [Array.getD_eq_getD_getElem?,List.getD_eq_getElem?_getD] using this
def RL (hf:AH) (ts:List T) (vs:List Value):Prop:=ts.length=vs.length∧∀i,i<ts.length→R hf (ts.getD i .any) (vs.getD i undef)
theorem RL.nil (hf:AH):RL hf [] []:=⟨rfl,fun i hi=>by simp at hi⟩
theorem RL.cons {hf:AH} {t:T} {v:Value} {ts:List T} {vs:List Value} (h:R hf t v) (hr:RL hf ts vs):RL hf (t::ts) (v::vs):=by
 refine ⟨by simp [hr.1],fun i hi=> ?_⟩
 cases i with
 | zero=>simpa using h
 | succ i=>simpa using hr.2 i (by simpa using hi)
theorem RL.tail {hf:AH} {t:T} {v:Value} {ts:List T} {vs:List Value} (h:RL hf (t::ts) (v::vs)):R hf t v∧RL hf ts vs :=
 ⟨by simpa using h.2 0 (by simp),by simpa using h.1,fun i hi=>by simpa using h.2 (i+1) (by simpa using hi)⟩
mutual
/-- What is owned, read as what stays. -/
theorem S.fzR {hf h H:AH} (hm:∀a o,hf a=some o→H a=some o):∀ {t:T} {v:Value} {N:List Nat},S hf h t v N→(∀a∈N,∀o,h a=some o→H a=some o)→R H (AE.fz t) v
 | _,_,_, .fz hr,_=>by
  have h1:=hr.mono hm
  clear hr
  induction h1 with
  | bool b=>exact .bool b
  | int k n=>exact .int k n
  | str s=>exact .str s
  | ptr0=>exact .ptr0
  | fn0=>exact .fn0
  | nils=>exact .nils
  | agg ts vs hs _ ih =>
   unfold AE.fz
   rw [Yd]
   refine .agg _ vs (by simpa using hs) (fun i hi=> ?_)
   have hi':i<ts.length:=by simpa using hi
   have:=ih i hi'
   simpa [List.getD_eq_getElem?_getD,hi'] using this
  | tup ts vs hs _ ih =>
   unfold AE.fz
   rw [Yd]
   refine .tup _ vs (by simpa using hs) (fun i hi=> ?_)
   have hi':i<ts.length:=by simpa using hi
   have:=ih i hi'
   simpa [List.getD_eq_getElem?_getD,hi'] using this
  | fn f ts vs hs h1 ih=>exact .fn f ts vs hs h1
  | sl0 sz=>exact .sl0 sz
  | sle sz a o m=>exact .sle sz a o m
  | sl sz rows o m hm1 hk hes hlen hfit _ ih =>
   unfold AE.fz
   rw [show rows.length=(JA rows).length from (QW rows).symm]
   refine .sl sz _ o m hm1 hk hes (Qa1 hlen) (by rw [QW];exact hfit) (fun i hi=> ?_)
   rw [QW] at hi
   have hi':i<rows.flatten.length:=by
    have:rows.flatten.length=rows.length*sz:=by
     rw [List.length_flatten,List.map_congr_left (g:=fun _=>sz) (fun r hr=>hlen r hr)]
     simp [List.map_const']
    omega
   have:=ih i hi
   rw [YR,Yd,List.getD_eq_getElem?_getD,List.getElem?_map,List.getElem?_eq_getElem hi',Option.map_some,Option.getD_some]
   rw [List.getD_eq_getElem?_getD,List.getElem?_eq_getElem hi',Option.getD_some] at this
   exact this
  | rp ts o hk hfit h1 ih=>exact .rp ts o hk hfit h1
 | _,_,_, .ow0 sz,_=> .sl0 sz
 | _,_,_, .owe sz a o,_=> .sle sz a o 0
 | _,_,_, .ow (a:=a) (cs:=cs) sz rows m hm1 hk hodd hlen hfit hs,hN=>by
  have h1:=SL.fzR hm hs (fun a ha=>hN a (by simp [ha]))
  unfold AE.fz
  rw [show rows.length=(JA rows).length from (QW rows).symm]
  refine .sl sz _ 0 m hm1 (hN _ (by simp) _ hk) (.inr rfl) (Qa1 hlen) (by rw [QW];omega) (fun i hi=> ?_)
  rw [QW] at hi
  have hfl:rows.flatten.length=rows.length*sz:=by
   have:=hs.length
   rw [List.length_take] at this
   omega
  have h2:=h1.2 i (by rw [Yd,List.length_map];omega)
  rw [YR,Nat.zero_add]
  rw [List.getD_eq_getElem?_getD (l:=cs.take _),List.getElem?_take,if_pos hi,← List.getD_eq_getElem?_getD] at h2
  exact h2
 | _,_,_, .agg hs,hN=>by
  have h1:=SL.fzR hm hs hN
  unfold AE.fz
  exact .agg _ _ (by simpa using h1.1) (Jm h1)
 | _,_,_, .tup hs,hN=>by
  have h1:=SL.fzR hm hs hN
  unfold AE.fz
  exact .tup _ _ (by simpa using h1.1) (Jm h1)
theorem SL.fzR {hf h H:AH} (hm:∀a o,hf a=some o→H a=some o):∀ {ts:List T} {vs:List Value} {N:List Nat},SL hf h ts vs N→(∀a∈N,∀o,h a=some o→H a=some o)→RL H (fzL ts) vs
 | _,_,_, .nil,_=>RL.nil H
 | _,_,_, .cons hs hr,hN=>by
  unfold fzL
  exact RL.cons (S.fzR hm hs (fun a ha=>hN a (by simp [ha]))) (SL.fzR hm hr (fun a ha=>hN a (by simp [ha])))
end
inductive V (σ:Nat→Option Nat) (hf:AH) (nx:Nat):T→Value→Prop
 | any (v:Value):V σ hf nx .any v
 | fz {t:T} {v:Value} (hr:R hf t v):V σ hf nx t v
 | os {a:Nat} (sz k lo n m:Nat) (hk:k<nx) (hs:σ k=some a) (hm:0<m):V σ hf nx (.os sz k lo n) (.slice (some ⟨a,lo*sz,none⟩) n m)
 | os0 (sz k:Nat) (hk:k<nx) (hs:σ k=none):V σ hf nx (.os sz k 0 0) (.slice none 0 0)
 | ose (sz k a o:Nat) (hk:k<nx) (hs:σ k=none):V σ hf nx (.os sz k 0 0) (.slice (some ⟨a,o,none⟩) 0 0)
 | op {a:Nat} (k o:Nat) (hk:k<nx) (hs:σ k=some a):V σ hf nx (.op k o) (.pointer (some ⟨a,o,none⟩))
 | orp {a:Nat} (sz k i o:Nat) (hk:k<nx) (hs:σ k=some a):V σ hf nx (.orp sz k i o) (.pointer (some ⟨a,i*sz+o,none⟩))
 | om {a:Nat} (k:Nat) (hk:k<nx) (hs:σ k=some a):V σ hf nx (.om k) (.map (some a))
 | vp {a es:Nat} {cs:List Value} (ts:List T) (o:Nat) (hk:hf a=some (.cells es cs)) (hfit:o+ts.length≤cs.length) (h:∀i,i<ts.length→V σ hf nx (ts.getD i .any) (cs.getD (o+i) undef)):V σ hf nx (.vp ts) (.pointer (some ⟨a,o,none⟩))
 | agg (ts:List T) (vs:Array Value) (hs:ts.length=vs.size) (h:∀i,i<ts.length→V σ hf nx (ts.getD i .any) (vs.getD i undef)):V σ hf nx (.agg ts) (.agg vs)
 | tup (ts:List T) (vs:Array Value) (hs:ts.length=vs.size) (h:∀i,i<ts.length→V σ hf nx (ts.getD i .any) (vs.getD i undef)):V σ hf nx (.tup ts) (.tuple vs)
 | fn (f:FuncId) (ts:List T) (vs:Array Value) (hs:ts.length=vs.size) (h:∀i,i<ts.length→V σ hf nx (ts.getD i .any) (vs.getD i undef)):V σ hf nx (.fn f ts) (.func (.func f) #[] vs)
theorem V.mono {σ σ':Nat→Option Nat} {hf hf':AH} {nx nx':Nat} (hm:∀a o,hf a=some o→hf' a=some o) (hn:nx≤nx') (hσ:∀k,k<nx→σ' k=σ k) {t:T} {v:Value} (h:V σ hf nx t v):V σ' hf' nx' t v:=by
 induction h with
 | any v=>exact .any v
 | fz hr=>exact .fz (hr.mono hm)
 | os sz k lo n m hk hs hm1=>exact .os sz k lo n m (by omega) ((hσ k hk).trans hs) hm1
 | os0 sz k hk hs=>exact .os0 sz k (by omega) ((hσ k hk).trans hs)
 | ose sz k a o hk hs=>exact .ose sz k a o (by omega) ((hσ k hk).trans hs)
 | op k o hk hs=>exact .op k o (by omega) ((hσ k hk).trans hs)
 | orp sz k i o hk hs=>exact .orp sz k i o (by omega) ((hσ k hk).trans hs)
 | om k hk hs=>exact .om k (by omega) ((hσ k hk).trans hs)
 | vp ts o hk hfit _ ih=>exact .vp ts o (hm _ _ hk) hfit ih
 | agg ts vs hs _ ih=>exact .agg ts vs hs ih
 | tup ts vs hs _ ih=>exact .tup ts vs hs ih
 | fn f ts vs hs _ ih=>exact .fn f ts vs hs ih
def VL (σ:Nat→Option Nat) (hf:AH) (nx:Nat) (ts:List T) (vs:List Value):Prop:=ts.length=vs.length∧∀i,i<ts.length→V σ hf nx (ts.getD i .any) (vs.getD i undef)
theorem VL.nil (σ:Nat→Option Nat) (hf:AH) (nx:Nat):VL σ hf nx [] []:=⟨rfl,fun i hi=>by simp at hi⟩
theorem VL.cons {σ:Nat→Option Nat} {hf:AH} {nx:Nat} {t:T} {v:Value} {ts:List T} {vs:List Value} (h:V σ hf nx t v) (hr:VL σ hf nx ts vs):VL σ hf nx (t::ts) (v::vs):=by
 refine ⟨by simp [hr.1],fun i hi=> ?_⟩
 cases i with
 | zero=>simpa using h
 | succ i=>simpa using hr.2 i (by simpa using hi)
theorem VL.mono {σ σ':Nat→Option Nat} {hf hf':AH} {nx nx':Nat} (hm:∀a o,hf a=some o→hf' a=some o) (hn:nx≤nx') (hσ:∀k,k<nx→σ' k=σ k) {ts:List T} {vs:List Value} (h:VL σ hf nx ts vs):VL σ' hf' nx' ts vs:=⟨h.1,fun i hi=>(h.2 i hi).mono hm hn hσ⟩
theorem V.aggL {σ:Nat→Option Nat} {hf:AH} {nx:Nat} {ts:List T} {v:Value} (h:V σ hf nx (.agg ts) v):∃vs:List Value,v= .agg vs.toArray∧VL σ hf nx ts vs:=by
 cases h with
 | fz hr =>
  cases hr with
  | agg _ vs hs h=>exact ⟨vs.toList,by simp,by simpa using hs,fun i hi=> .fz (by have:=h i hi;simpa [Array.getD_eq_getD_getElem?,List.getD_eq_getElem?_getD] using this)⟩
 | agg _ vs hs h=>exact ⟨vs.toList,by simp,by simpa using hs,fun i hi=>by have:=h i hi;simpa [Array.getD_eq_getD_getElem?,List.getD_eq_getElem?_getD] using this⟩
theorem V.tupL {σ:Nat→Option Nat} {hf:AH} {nx:Nat} {ts:List T} {v:Value} (h:V σ hf nx (.tup ts) v):∃vs:List Value,v= .tuple vs.toArray∧VL σ hf nx ts vs:=by
 cases h with
 | fz hr =>
  cases hr with
  | tup _ vs hs h=>exact ⟨vs.toList,by simp,by simpa using hs,fun i hi=> .fz (by have:=h i hi;simpa [Array.getD_eq_getD_getElem?,List.getD_eq_getElem?_getD] using this)⟩
 | tup _ vs hs h=>exact ⟨vs.toList,by simp,by simpa using hs,fun i hi=>by have:=h i hi;simpa [Array.getD_eq_getD_getElem?,List.getD_eq_getElem?_getD] using this⟩
theorem VL.toAgg {σ:Nat→Option Nat} {hf:AH} {nx:Nat} {ts:List T} {vs:List Value} (h:VL σ hf nx ts vs):V σ hf nx (.agg ts) (.agg vs.toArray) :=
 .agg _ _ (by simpa using h.1) (fun i hi=>by have:=h.2 i hi;simpa [Array.getD_eq_getD_getElem?,List.getD_eq_getElem?_getD] using this)
theorem VL.toTup {σ:Nat→Option Nat} {hf:AH} {nx:Nat} {ts:List T} {vs:List Value} (h:VL σ hf nx ts vs):V σ hf nx (.tup ts) (.tuple vs.toArray) :=
 .tup _ _ (by simpa using h.1) (fun i hi=>by have:=h.2 i hi;simpa [Array.getD_eq_getD_getElem?,List.getD_eq_getElem?_getD] using this)
inductive Obj where
 | cells (ts:List T)
 | rows (sz:Nat) (rows:List (List T))
 | map (es:List (T×T))
 | rowsN (sz:Nat) (rows:List (List T)) (asg:List Nat)
inductive ObjR (σ:Nat→Option Nat) (hf:AH) (nx:Nat) (h:AH):Obj→Option Nat→List Nat→Prop
 | cells {a es:Nat} {cs:List Value} {ts:List T} (hk:h a=some (.cells es cs)) (hodd:a % 2=1) (hv:VL σ hf nx ts cs):ObjR σ hf nx h (.cells ts) (some a) [a]
 | none (sz:Nat):ObjR σ hf nx h (.rows sz []) none []
 | rows {a:Nat} {cs:List Value} {N:List Nat} {sz:Nat} {rows:List (List T)} (hk:h a=some (.cells sz cs)) (hodd:a % 2=1) (hlen:∀r∈rows,r.length=sz) (hfit:rows.length*sz≤cs.length)
   (hs:SL hf h rows.flatten (cs.take (rows.length*sz)) N):ObjR σ hf nx h (.rows sz rows) (some a) (a::N)
 | map {a:Nat} {es:List (T×T)} {ev:List (Value×Value)} (hk:h a=some (.map ev)) (hodd:a % 2=1) (h1:RL (fun _=>Option.none) (es.map (·.1)) (ev.map (·.1))) (h2:RL (fun _=>Option.none) (es.map (·.2)) (ev.map (·.2))):ObjR σ hf nx h (.map es) (some a) [a]
 | noneN (sz:Nat):ObjR σ hf nx h (.rowsN sz [] []) none []
 | rowsN {a:Nat} {cs:List Value} {N:List Nat} {sz:Nat} {rows:List (List T)} (hk:h a=some (.cells sz cs)) (hodd:a % 2=1) (hlen:∀r∈rows,r.length=sz) (hfit:rows.length*sz≤cs.length)
   (hs:SL hf h rows.flatten (cs.take (rows.length*sz)) N):ObjR σ hf nx h (.rowsN sz rows N) (some a) (a::N)
theorem ObjR.mono {σ σ':Nat→Option Nat} {hf hf':AH} {nx nx':Nat} {h h':AH} {o:Obj} {a:Option Nat} {N:List Nat} (hm:∀a o,hf a=some o→hf' a=some o) (hn:nx≤nx') (hσ:∀k,k<nx→σ' k=σ k) (hN:∀a∈N,h' a=h a) (hr:ObjR σ hf nx h o a N):ObjR σ' hf' nx' h' o a N:=by
 cases hr with
 | cells hk hodd hv=>exact .cells ((hN _ (by simp)).trans hk) hodd (hv.mono hm hn hσ)
 | none sz=>exact .none sz
 | rows hk hodd hlen hfit hs=>exact .rows ((hN _ (by simp)).trans hk) hodd hlen hfit (hs.mono hm (fun a ha=>hN a (by simp [ha])))
 | map hk hodd h1 h2=>exact .map ((hN _ (by simp)).trans hk) hodd h1 h2
 | noneN sz=>exact .noneN sz
 | rowsN hk hodd hlen hfit hs=>exact .rowsN ((hN _ (by simp)).trans hk) hodd hlen hfit (hs.mono hm (fun a ha=>hN a (by simp [ha])))
abbrev Qp := List (Nat×T)
abbrev Qg := List (Nat×Option Obj)
def gE : Qp→Nat→T
 | [],_=> .any
 | (d,v)::r,t=>if t=d then v else gE r t
def gO : Qg→Nat→Option Obj
 | [],_=>none
 | (d,v)::r,t=>if t=d then v else gO r t
def pE (E:Qp):Option Tmp→T→Qp
 | some d,v=>(d,v)::E
 | none,_=>E
theorem QcZ (E:Qp) {d t:Nat} (h:(t == d)=false) (v:T):gE ((d,v)::E) t=gE E t:=by simp at h;simp [gE,h]
structure LB where
 h:AH
 ln:Nat→Prop
def UL (p:Nat) (h0:LB) (a:Nat):Prop:=Under p a∨h0.ln a
def QeO (p:Nat) (h0:LB) (h:AH):Prop:=∀t,h t≠none→h0.h t≠none∨UL p h0 t
structure SR (p:Nat) (h0:LB) (σ:Nat→Option Nat) (hf:AH) (own:Nat→Option Nat) (E:Qp) (O:Qg) (nx:Nat) (Ea:Nat→Value) (h:AH):Prop where
 env:∀t,V σ hf nx (gE E t) (Ea t)
 obj:∀k o,gO O k=some o→k<nx∧∃N,N.Nodup∧(∀a∈N,own a=some k)∧ObjR σ hf nx h o (σ k) N
 fro:∀a o,hf a=some o→h a=some o∧own a=none
 mine:∀a k,own a=some k→UL p h0 a∧h0.h a=none∧h a≠none∧k<nx
 base:∀a,h0.h a≠none→hf a=h0.h a
 dom:QeO p h0 h
end Go.Proofs.YthifchndolccgaaDoor.AE
namespace Go.Proofs.YthifchndolccgaaDoor.AE
open Go Go.RowKit
set_option linter.unusedVariables false
set_option linter.unusedSimpArgs false
section
variable {p nx nx' : Nat} {h0 : LB} {hf hf' h h' : AH} {σ σ' own own' : Nat → Option Nat} {E E' : Qp} {O O' : Qg} {Ea Ea' : Nat → Value} {t : T} {v : Value}
theorem Qed (E:Qp) (d:Option Tmp) (t:T) (n:Nat):gE (pE E d t) n=if d=some n then t else gE E n:=by
 cases d with
 | none=>simp [pE]
 | some d =>
  simp only [pE,gE,Option.some.injEq]
  by_cases hn:n=d
  ·subst hn;simp
  ·have:¬d=n:=fun e=>hn e.symm
   simp [hn,this]
theorem QdR (he:∀t,V σ hf nx (gE E t) (Ea t)) (hv:V σ hf nx t v) (d:Option Tmp):∀n,V σ hf nx (gE (pE E d t) n) (QI Ea d v n):=fun n=>by
 rw [Qed]
 cases d with
 | none=>simpa [QI] using he n
 | some d =>
  simp only [QI,Option.some.injEq]
  by_cases hn:d=n
  ·subst hn;simpa using hv
  ·have:¬n=d:=fun e=>hn e.symm
   simpa [hn,this] using he n
theorem SR.put (hs:SR p h0 σ hf own E O nx Ea h) (hv:V σ hf nx t v) (d:Option Tmp):SR p h0 σ hf own (pE E d t) O nx (QI Ea d v) h :=
 ⟨QdR hs.env hv d,hs.obj,hs.fro,hs.mine,hs.base,hs.dom⟩
theorem Qb7 : V σ hf nx (.tup []) undef:= .fz (.tup [] #[] rfl (fun i hi=>by simp at hi))
theorem SR.ext (hs:SR p h0 σ hf own E O nx Ea h) (hn:nx≤nx') (hσ:∀k,k<nx→σ' k=σ k) (ho:∀a k,own a=some k→own' a=some k) (ho':∀a k,own' a=some k→own a=some k∨(UL p h0 a∧h0.h a=none∧h' a≠none∧k<nx'∧hf a=none))
  (hh:∀a,h a≠none→h' a=h a) (hd:QeO p h0 h'):SR p h0 σ' hf own' E O nx' Ea h':=by
 refine ⟨fun t=>(hs.env t).mono (fun _ _ e=>e) hn hσ,fun k o hk=> ?_,fun a o ha=> ?_,fun a k ha=> ?_,hs.base,hd⟩
 ·obtain ⟨h1,N,h2,h3,h4⟩:=hs.obj k o hk
  refine ⟨by omega,N,h2,fun a ha=>ho a k (h3 a ha),?_⟩
  rw [hσ k h1]
  exact h4.mono (fun _ _ e=>e) hn hσ (fun a ha=>hh a (hs.mine a k (h3 a ha)).2.2.1)
 ·obtain ⟨h1,h2⟩:=hs.fro a o ha
  refine ⟨(hh a (by rw [h1];simp)).trans h1,?_⟩
  cases hw:own' a with
  | none=>rfl
  | some k =>
   rcases ho' a k hw with h3 | h3
   ·rw [h2] at h3;cases h3
   ·rw [h3.2.2.2.2] at ha;cases ha
 ·rcases ho' a k ha with h3 | h3
  ·obtain ⟨g1,g2,g3,g4⟩:=hs.mine a k h3
   exact ⟨g1,g2,by rw [hh a g3];exact g3,by omega⟩
  ·exact ⟨h3.1,h3.2.1,h3.2.2.1,h3.2.2.2.1⟩
theorem SR.new {q:Nat} {z:QL} {obj:Obj} {oa:Option Nat} {N:List Nat} (hs:SR p h0 σ hf own E O nx Ea h) (hq:UL p h0 (Qb q)) (hfr:h (Qb q)=none) (hoa:(oa=some (Qb q)∧N= [Qb q])∨(oa=none∧N= []))
    (ho:ObjR (fun k=>if k=nx then oa else σ k) hf (nx+1) (h.upd (Qb q) (some z)) obj oa N) :
    SR p h0 (fun k=>if k=nx then oa else σ k) hf (fun a=>if a∈N then some nx else own a) E ((nx,some obj)::O) (nx+1) Ea (h.upd (Qb q) (some z)):=by
  have h0n:h0.h (Qb q)=none:=by
    cases hh:h0.h (Qb q) with
    | none=>rfl
    | some o =>
      have h1:=hs.base (Qb q) (by rw [hh];simp)
      rw [hh] at h1
      rw [(hs.fro _ _ h1).1] at hfr
      cases hfr
  have hfn:hf (Qb q)=none:=by
    cases hh:hf (Qb q) with
    | none=>rfl
    | some o=>rw [(hs.fro _ _ hh).1] at hfr;cases hfr
  have hN:∀a,a∈N→a=Qb q:=fun a ha=>by
    rcases hoa with ⟨_,rfl⟩ | ⟨_,rfl⟩
    · simpa using ha
    · cases ha
  have hon:own (Qb q)=none:=by
    cases hh:own (Qb q) with
    | none=>rfl
    | some k=>exact absurd hfr (hs.mine _ _ hh).2.2.1
  have hx:=hs.ext (nx':=nx+1) (σ':=fun k=>if k=nx then oa else σ k) (own':=fun a=>if a∈N then some nx else own a) (h':=h.upd (Qb q) (some z)) (by omega) (fun k hk=>if_neg (by omega))
    (fun a k ha=>by
      have:a∉N:=fun hn=>by rw [hN a hn,hon] at ha;cases ha
      simp only [if_neg this]
      exact ha)
    (fun a k ha=>by
      split at ha
      · rename_i hn
        obtain rfl:=hN a hn
        obtain rfl:=Option.some.inj ha
        exact .inr ⟨hq,h0n,by rw [AH.upd_same];simp,by omega,hfn⟩
      · exact .inl ha)
    (fun a ha=>AH.upd_ne _ (fun e=>ha (by rw [e];exact hfr)) _)
    (fun t ht=>by
      unfold AH.upd at ht
      split at ht
      · rename_i e
        exact .inr (e▸hq)
      · exact hs.dom t ht)
  refine ⟨hx.env,fun k o hk=> ?_,hx.fro,hx.mine,hx.base,hx.dom⟩
  simp only [gO] at hk
  split at hk
  · rename_i e
    subst e
    obtain rfl:=Option.some.inj hk
    refine ⟨by omega,N,?_,fun a ha=>by simp only [if_pos ha],by simpa using ho⟩
    rcases hoa with ⟨_,rfl⟩ | ⟨_,rfl⟩<;>simp
  · exact hx.obj k o hk
end
def VEv (E:Qp) (x:Operand) (t:T):Prop:=∀(σ:Nat→Option Nat) (hf:AH) (nx:Nat) (Ea:Nat→Value),(∀t,V σ hf nx (gE E t) (Ea t))→∃v,QB Ea x=some v∧V σ hf nx t v
def VEvs (E:Qp) (xs:List Operand) (ts:List T):Prop:=∀(σ:Nat→Option Nat) (hf:AH) (nx:Nat) (Ea:Nat→Value),(∀t,V σ hf nx (gE E t) (Ea t))→∃vs,evs Ea xs=some vs∧VL σ hf nx ts vs
theorem VEv.tmp {E:Qp} {a:Tmp} {t:T} (h:gE E a=t):VEv E (.tmp a) t:=fun σ hf nx Ea he=>⟨_,rfl,h▸he a⟩
theorem VEv.const {E:Qp} {c:Value} {t:T} (hc:closedV c=true) (h:∀hf,R hf t c):VEv E (.const c) t:=fun σ hf nx Ea he=>⟨c,by simp only [QB,hc,if_true], .fz (h hf)⟩
theorem VEv.int {E:Qp} (k:IntKind) (n:Int):VEv E (.const (.int k n)) (.int k n):= .const rfl fun _=> .int k n
theorem VEv.bool {E:Qp} (b:Bool):VEv E (.const (.bool b)) (.bool b):= .const rfl fun _=> .bool b
theorem VEv.str {E:Qp} (s:ByteArray):VEv E (.const (.string s)) (.str s):= .const rfl fun _=> .str s
theorem VEv.nils {E:Qp}:VEv E (.const (.slice none 0 0)) .nils:= .const rfl fun _=> .nils
theorem VEvs.nil {E:Qp}:VEvs E [] []:=fun σ hf nx Ea he=>⟨[],rfl,VL.nil _ _ _⟩
theorem VEvs.cons {E:Qp} {x:Operand} {xs:List Operand} {t:T} {ts:List T} (h:VEv E x t) (hr:VEvs E xs ts):VEvs E (x::xs) (t::ts):=fun σ hf nx Ea he=>by
 obtain ⟨v,h1,h2⟩:=h σ hf nx Ea he
 obtain ⟨vs,h3,h4⟩:=hr σ hf nx Ea he
 exact ⟨v::vs,by simp only [evs,h1,h3], .cons h2 h4⟩
section
variable (call : Qk) (P : Program)
def OF (E:Qp) (o:Oper) (t:T):Prop:=∀(p:Nat) (σ:Nat→Option Nat) (hf:AH) (nx:Nat) (Ea:Nat→Value) (h:AH),(∀t,V σ hf nx (gE E t) (Ea t))→∃v,Qh call P p Ea h o=some (v,h)∧V σ hf nx t v
def OL (E:Qp) (O:Qg) (o:Oper) (t:T):Prop:=∀(q p:Nat) (h0:LB) (σ:Nat→Option Nat) (hf:AH) (own:Nat→Option Nat) (nx:Nat) (Ea:Nat→Value) (h:AH),SR p h0 σ hf own E O nx Ea h→∃v,Qh call P q Ea h o=some (v,h)∧V σ hf nx t v
def OM (E:Qp) (nx:Nat) (o:Oper) (t:T) (obj:Obj):Prop:=∀(q:Nat) (σ:Nat→Option Nat) (hf:AH) (Ea:Nat→Value),(∀t,V σ hf nx (gE E t) (Ea t)) →
 ∃v z oa N,(∀h,Qh call P q Ea h o=some (v,h.upd (Qb q) (some z)))∧((oa=some (Qb q)∧N= [Qb q])∨(oa=none∧N= []))∧V (fun k=>if k=nx then oa else σ k) hf (nx+1) t v∧∀h:AH,ObjR (fun k=>if k=nx then oa else σ k) hf (nx+1) (h.upd (Qb q) (some z)) obj oa N
def OC (E:Qp) (O:Qg) (nx:Nat) (o:Oper) (t:T) (O':Qg) (nx':Nat) (ks:List Nat):Prop:=nx≤nx'∧∀(q p:Nat) (h0:LB) (σ:Nat→Option Nat) (hf:AH) (own:Nat→Option Nat) (Ea:Nat→Value) (h:AH),SR p h0 σ hf own E O nx Ea h→(∀t,Under q t→UL p h0 t)→Fr q h →
 ∃v h' σ' own',Qh call P q Ea h o=some (v,h')∧Dom q h h'∧(∀k,k<nx→σ' k=σ k)∧SR p h0 σ' hf own' E O' nx' Ea h'∧V σ' hf nx' t v∧(∀a,h a≠none→(∀k∈ks,own a≠some k)→h' a=h a)∧∀a k,own' a=some k→own a=some k∨h a=none∨∃k∈ks,own a=some k
end
theorem OF.toL {call:Qk} {P:Program} {E:Qp} {O:Qg} {o:Oper} {t:T} (h:OF call P E o t):OL call P E O o t:=fun q p h0 σ hf own nx Ea H hs=>h q σ hf nx Ea H hs.env
section
variable (call : Qk) (P : Program)
def KK (p:Nat) (h0:LB) (K:Qp→Qg→Nat→Prop) (Ea:Nat→Value) (h:AH):Prop:=∃σ hf own E O nx,SR p h0 σ hf own E O nx Ea h∧K E O nx
def VRunO (ops:Array Oper) (l:List Oper) (E:Qp) (O:Qg) (nx:Nat) (K:Qp→Qg→Nat→Prop):Prop:=∀(p:Nat) (h0:LB) (σ:Nat→Option Nat) (hf:AH) (own:Nat→Option Nat) (Ea:Nat→Value) (h:AH) (c i:Nat),SR p h0 σ hf own E O nx Ea h →
 RunO call P p ops c l i Ea h (KK p h0 K)
def VRun (co:Code) (E:Qp) (O:Qg) (nx:Nat) (Q:AX→Qp→Qg→Nat→Prop):Prop:=∀(p:Nat) (h0:LB) (σ:Nat→Option Nat) (hf:AH) (own:Nat→Option Nat) (Ea:Nat→Value) (h:AH) (c:Nat),SR p h0 σ hf own E O nx Ea h →
 Run call P p co ⟨Ea,h,c⟩ (fun e s=>KK p h0 (Q e) s.E s.h)
end
def VWant (ops:Array Oper) (E:Qp) (o:Oper) (b:Bool):Prop:=∀(σ:Nat→Option Nat) (hf:AH) (nx:Nat) (Ea:Nat→Value),(∀t,V σ hf nx (gE E t) (Ea t))→QF ops Ea o=b
theorem VWant.always {ops:Array Oper} {E:Qp} {d:Option Tmp} {op:Op} {ty:TypeId} {ps:String} {af:Array Edge}:VWant ops E ⟨d,op,ty,ps,af,none⟩ true:=fun _ _ _ _ _=>rfl
theorem V.boolInv {σ:Nat→Option Nat} {hf:AH} {nx:Nat} {b:Bool} {v:Value} (h:V σ hf nx (.bool b) v):v= .bool b:=by
 cases h with
 | fz hr=>cases hr;rfl
theorem V.intInv {σ:Nat→Option Nat} {hf:AH} {nx:Nat} {k:IntKind} {n:Int} {v:Value} (h:V σ hf nx (.int k n) v):v= .int k n:=by
 cases h with
 | fz hr=>cases hr;rfl
theorem V.strInv {σ:Nat→Option Nat} {hf:AH} {nx:Nat} {s:ByteArray} {v:Value} (h:V σ hf nx (.str s) v):v= .string s:=by
 cases h with
 | fz hr=>cases hr;rfl
theorem V.nilsInv {σ:Nat→Option Nat} {hf:AH} {nx:Nat} {v:Value} (h:V σ hf nx .nils v):v= .slice none 0 0:=by
 cases h with
 | fz hr=>cases hr;rfl
theorem VWant.guard {ops:Array Oper} {E:Qp} {d:Option Tmp} {op:Op} {ty:TypeId} {ps:String} {af:Array Edge} {j:Nat} {q:Tmp} {w b:Bool} (hd:(ops[j]?).bind (·.dst)=some q) (hq:gE E q= .bool b):VWant ops E ⟨d,op,ty,ps,af,some (j,w)⟩ (b == w):=fun σ hf nx Ea he=>by
 have h1:=he q
 rw [hq] at h1
 have h2:=h1.boolInv
 simp only [QF,hd,h2]
theorem Yb {p j t:Nat} (h:Under (child p j) t):Under p t:=Under.child_of h
section
variable {call : Qk} {P : Program} {ops : Array Oper} {o : Oper} {l : List Oper} {E : Qp} {O O' : Qg} {nx nx' : Nat} {t : T} {obj : Obj} {K : Qp → Qg → Nat → Prop} {Q : AX → Qp → Qg → Nat → Prop} {x y : Code}
theorem VRunO.nil (hk:K E O nx):VRunO call P ops [] E O nx K:=fun p h0 σ hf own Ea h c i hs=>RunO.nil ⟨σ,hf,own,E,O,nx,hs,hk⟩
theorem VRunO.off (hw:VWant ops E o false) (hk:VRunO call P ops l (pE E o.dst (.tup [])) O nx K):VRunO call P ops (o::l) E O nx K:=fun p h0 σ hf own Ea h c i hs =>
 RunO.off rfl (hw σ hf nx Ea hs.env) (hk p h0 σ hf own _ h c _ (hs.put Qb7 _))
theorem VRunO.look {d:Option Tmp} {op:Op} {ty:TypeId} {ps:String} {af:Array Edge} {g:Option (Nat×Bool)} (hw:VWant ops E ⟨d,op,ty,ps,af,g⟩ true) (hx:OL call P E O ⟨d,op,ty,ps,af,g⟩ t) (hk:VRunO call P ops l (pE E d t) O nx K):VRunO call P ops (⟨d,op,ty,ps,af,g⟩::l) E O nx K:=fun p h0 σ hf own Ea h c i hs=>by
 obtain ⟨v,h1,h2⟩:=hx (child p (c+i)) p h0 σ hf own nx Ea h hs
 exact RunO.pure rfl rfl (hw σ hf nx Ea hs.env) h1 (hk p h0 σ hf own _ h c _ (hs.put h2 _))
theorem VRunO.free {d:Option Tmp} {op:Op} {ty:TypeId} {ps:String} {af:Array Edge} {g:Option (Nat×Bool)} (hw:VWant ops E ⟨d,op,ty,ps,af,g⟩ true) (hx:OF call P E ⟨d,op,ty,ps,af,g⟩ t) (hk:VRunO call P ops l (pE E d t) O nx K):VRunO call P ops (⟨d,op,ty,ps,af,g⟩::l) E O nx K:=VRunO.look hw hx.toL hk
theorem VRunO.make {d:Option Tmp} {op:Op} {ty:TypeId} {ps:String} {af:Array Edge} {g:Option (Nat×Bool)} (hw:VWant ops E ⟨d,op,ty,ps,af,g⟩ true) (hx:OM call P E nx ⟨d,op,ty,ps,af,g⟩ t obj) (hk:VRunO call P ops l (pE E d t) ((nx,some obj)::O) (nx+1) K):VRunO call P ops (⟨d,op,ty,ps,af,g⟩::l) E O nx K:=fun p h0 σ hf own Ea h c i hs=>by
 obtain ⟨v,z,oa,N,h1,h2,h3,h4⟩:=hx (child p (c+i)) σ hf Ea hs.env
 unfold RunO
 intro hfc
 have hn:h (Qb (child p (c+i)))=none:=hfc (c+i) _ (Nat.le_refl _) (Qt _)
 have hs':=hs.new (.inl (Yb (Qt _))) hn h2 (h4 h)
 have:=RunO.make (call:=call) (P:=P) (π:=p) (c:=c) (i:=i) (ops:=ops) (r:=l) (K:=KK p h0 K) rfl rfl (hw σ hf nx Ea hs.env) (h1 h) (hk p h0 _ hf _ _ _ c _ (hs'.put h3 d))
 unfold RunO at this
 exact this hfc
theorem VRunO.chain {d:Option Tmp} {op:Op} {ty:TypeId} {ps:String} {af:Array Edge} {g:Option (Nat×Bool)} (hw:VWant ops E ⟨d,op,ty,ps,af,g⟩ true) {ks:List Nat} (hx:OC call P E O nx ⟨d,op,ty,ps,af,g⟩ t O' nx' ks) (hk:VRunO call P ops l (pE E d t) O' nx' K):VRunO call P ops (⟨d,op,ty,ps,af,g⟩::l) E O nx K:=fun p h0 σ hf own Ea h c i hs=>by
 unfold RunO
 intro hfc
 obtain ⟨v,h',σ',own',h1,h2,h3,h4,h5,_⟩:=hx.2 (child p (c+i)) p h0 σ hf own Ea h hs (fun t ht=> .inl (Yb ht)) (FrC.fr hfc (Nat.le_refl _))
 have:=RunO.step (call:=call) (P:=P) (π:=p) (c:=c) (i:=i) (ops:=ops) (r:=l) (K:=KK p h0 K) rfl rfl (hw σ hf nx Ea hs.env) h1 (fun _=>h2) (fun _=>hk p h0 _ hf _ _ _ c _ (h4.put h5 d))
 unfold RunO at this
 exact this hfc
def vthn (K:Qp→Qg→Nat→Prop) (Q:AX→Qp→Qg→Nat→Prop):AX→Qp→Qg→Nat→Prop
 | .normal=>K
 | .exit id=>Q (.exit id)
 | .ret=>Q .ret
def vinB (id:Nat) (Q:AX→Qp→Qg→Nat→Prop):AX→Qp→Qg→Nat→Prop
 | .normal=>Q .normal
 | .exit id'=>fun E O nx=>if id'=id then Q .normal E O nx else Q (.exit id') E O nx
 | .ret=>Q .ret
theorem VRun.skip (hq:Q .normal E O nx):VRun call P .skip E O nx Q:=fun p h0 σ hf own Ea h c hs=>Run.skip ⟨σ,hf,own,E,O,nx,hs,hq⟩
theorem VRun.ret (hq:Q .ret E O nx):VRun call P .ret E O nx Q:=fun p h0 σ hf own Ea h c hs=>Run.ret ⟨σ,hf,own,E,O,nx,hs,hq⟩
theorem VRun.exit {id:Nat} (hq:Q (.exit id) E O nx):VRun call P (.exit id) E O nx Q:=fun p h0 σ hf own Ea h c hs=>Run.exit ⟨σ,hf,own,E,O,nx,hs,hq⟩
theorem VRun.seq (hx:VRun call P x E O nx (vthn (fun E' O' nx'=>VRun call P y E' O' nx' Q) Q)):VRun call P (.seq x y) E O nx Q:=fun p h0 σ hf own Ea h c hs=>by
 refine Run.seq (Run.mono (hx p h0 σ hf own Ea h c hs) ?_)
 intro e s' hk
 cases e with
 | normal =>
  obtain ⟨σ',hf',own',E',O',nx',h1,h2⟩:=hk
  unfold thn
  exact h2 p h0 σ' hf' own' _ _ _ h1
 | exit id=>unfold thn;exact hk
 | ret=>unfold thn;exact hk
theorem VRun.block {id:Nat} (hx:VRun call P x E O nx (vinB id Q)):VRun call P (.block id x) E O nx Q:=fun p h0 σ hf own Ea h c hs=>by
 refine Run.block (Run.mono (hx p h0 σ hf own Ea h c hs) ?_)
 rintro e s' ⟨σ',hf',own',E',O',nx',h1,h2⟩
 cases e with
 | normal=>exact inB.n ⟨σ',hf',own',E',O',nx',h1,h2⟩
 | ret=>exact inB.r ⟨σ',hf',own',E',O',nx',h1,h2⟩
 | exit id' =>
  simp only [vinB] at h2
  unfold inB
  split at h2
  ·rename_i e
   simp only [if_pos e]
   exact ⟨σ',hf',own',E',O',nx',h1,h2⟩
  ·rename_i e
   simp only [if_neg e]
   exact ⟨σ',hf',own',E',O',nx',h1,h2⟩
theorem VRun.cond {k:Operand} {b:Bool} (hb:VEv E k (.bool b)) (ht:b=true→VRun call P x E O nx Q) (hf:b=false→VRun call P y E O nx Q):VRun call P (.cond k x y) E O nx Q:=fun p h0 σ hf' own Ea h c hs=>by
 obtain ⟨v,h1,h2⟩:=hb σ hf' nx Ea hs.env
 obtain rfl:=h2.boolInv
 exact Run.cond h1 (fun e=>ht e p h0 σ hf' own Ea h c hs) (fun e=>hf e p h0 σ hf' own Ea h c hs)
theorem VRun.region {id:Nat} (hx:VRunO call P ops ops.toList E O nx (Q .normal)):VRun call P (.region id ops false) E O nx Q:=fun p h0 σ hf own Ea h c hs=>Run.region rfl (hx p h0 σ hf own Ea h c 0 hs)
def Wk (E:Qp) (O:Qg) (nx:Nat) (E':Qp) (O':Qg) (nx':Nat):Prop:=∀(p:Nat) (h0:LB) (σ:Nat→Option Nat) (hf:AH) (own:Nat→Option Nat) (Ea:Nat→Value) (h:AH),SR p h0 σ hf own E O nx Ea h→∃σ' hf' own',SR p h0 σ' hf' own' E' O' nx' Ea h
theorem VRun.loop {A:Type} (LE:A→Qp) (LO:A→Qg) (ln:Nat) (Φ:A→Prop) (μ:A→Nat) (a0:A) (h0':Φ a0) (hw:Wk E O nx (LE a0) (LO a0) ln)
  (hb:∀a,Φ a→VRun call P x (LE a) (LO a) ln (vthn (fun E' O' nx'=>∃b,Φ b∧μ b<μ a∧Wk E' O' nx' (LE b) (LO b) ln) Q)):VRun call P (.loop x) E O nx Q:=fun p h0 σ hf own Ea h c hs=>by
 obtain ⟨σ',hf',own',hs'⟩:=hw p h0 σ hf own Ea h hs
 refine Run.loop (fun m Ea h c=>∃a σ hf own,m=μ a∧Φ a∧SR p h0 σ hf own (LE a) (LO a) ln Ea h) (μ a0) ⟨a0,σ',hf',own',rfl,h0',hs'⟩ ?_
 rintro m Ea h c ⟨a,σ,hf,own,rfl,h1,h2⟩ _
 refine Run.mono (hb a h1 p h0 σ hf own Ea h c h2) ?_
 rintro e s' ⟨σ',hf',own',E',O',nx',h3,h4⟩
 cases e with
 | normal =>
  obtain ⟨b,h5,h6,h7⟩:=h4
  obtain ⟨σ2,hf2,own2,h8⟩:=h7 p h0 σ' hf' own' _ _ h3
  exact thn.n ⟨μ b,h6,b,σ2,hf2,own2,rfl,h5,h8⟩
 | exit id=>exact thn.e ⟨σ',hf',own',E',O',nx',h3,h4⟩
 | ret=>exact thn.r ⟨σ',hf',own',E',O',nx',h3,h4⟩
end
attribute [irreducible] VRun VRunO
end Go.Proofs.YthifchndolccgaaDoor.AE
namespace Go.Proofs.YthifchndolccgaaDoor.AE
open Go Go.RowKit
set_option linter.unusedVariables false
set_option linter.unusedSimpArgs false
def Qa0 (cond:Nat→Bool):List (Nat×Nat×Obj)→Qg→Qg
 | [],O=>O
 | x::r,O=>if cond x.1 then (x.2.1,some x.2.2)::Qa0 cond r O else Qa0 cond r O
inductive AlR (p c:Nat) (σ:Nat→Option Nat) (hf:AH) (nx:Nat):List (Nat×Nat×Obj)→List (Nat×QL)→Prop
 | nil:AlR p c σ hf nx [] []
 | cons {i k:Nat} {obj:Obj} {z:QL} {N:List Nat} {al:List (Nat×Nat×Obj)} {ala:List (Nat×QL)} (hk:k<nx) (ho:(σ k=some (Qb (child p (c+i)))∧N= [Qb (child p (c+i))])∨(σ k=none∧N= []))
   (hr:∀h:AH,ObjR σ hf nx (h.upd (Qb (child p (c+i))) (some z)) obj (σ k) N) (r:AlR p c σ hf nx al ala):AlR p c σ hf nx ((i,k,obj)::al) ((i,z)::ala)
theorem AlR.mono {p c nx nx':Nat} {σ σ':Nat→Option Nat} {hf:AH} (hn:nx≤nx') (hσ:∀k,k<nx→σ' k=σ k) {al:List (Nat×Nat×Obj)} {ala:List (Nat×QL)} (h:AlR p c σ hf nx al ala):AlR p c σ' hf nx' al ala:=by
 induction h with
 | nil=>exact .nil
 | cons hk ho hr _ ih =>
  refine .cons (by omega) (by rw [hσ _ hk];exact ho) (fun h=> ?_) ih
  rw [hσ _ hk]
  exact (hr h).mono (fun _ _ e=>e) hn hσ (fun _ _=>rfl)
theorem AlR.idx {p c nx:Nat} {σ:Nat→Option Nat} {hf:AH} {al:List (Nat×Nat×Obj)} {ala:List (Nat×QL)} (h:AlR p c σ hf nx al ala):ala.map (·.1)=al.map (·.1):=by
 induction h with
 | nil=>rfl
 | cons _ _ _ _ ih=>simp only [List.map_cons,ih]
section
variable {p nx nx' c : Nat} {h0 : LB} {hf h h' C base : AH} {σ σ' own own' ownb : Nat → Option Nat} {E E' : Qp} {O O' Ob : Qg} {Ea : Nat → Value} {t : T} {v : Value}
theorem SR.add {tk k:Nat} {z:QL} {obj:Obj} {N:List Nat} (hs:SR p h0 σ hf own E O nx Ea h) (hq:UL p h0 tk) (hfr:h tk=none) (hk:k<nx) (hoa:(σ k=some tk∧N= [tk])∨(σ k=none∧N= []))
  (ho:ObjR σ hf nx (h.upd tk (some z)) obj (σ k) N):SR p h0 σ hf (fun a=>if a∈N then some k else own a) E ((k,some obj)::O) nx Ea (h.upd tk (some z)):=by
 have h0n:h0.h tk=none:=by
  cases hh:h0.h tk with
  | none=>rfl
  | some o =>
   have h1:=hs.base tk (by rw [hh];simp)
   rw [hh] at h1
   rw [(hs.fro _ _ h1).1] at hfr
   cases hfr
 have hfn:hf tk=none:=by
  cases hh:hf tk with
  | none=>rfl
  | some o=>rw [(hs.fro _ _ hh).1] at hfr;cases hfr
 have hN:∀a,a∈N→a=tk:=fun a ha=>by
  rcases hoa with ⟨_,rfl⟩ | ⟨_,rfl⟩
  ·simpa using ha
  ·cases ha
 have hon:own tk=none:=by
  cases hh:own tk with
  | none=>rfl
  | some k=>exact absurd hfr (hs.mine _ _ hh).2.2.1
 have hx:=hs.ext (nx':=nx) (σ':=σ) (own':=fun a=>if a∈N then some k else own a) (h':=h.upd tk (some z)) (Nat.le_refl _) (fun k hk=>rfl)
  (fun a k ha=>by
   have:a∉N:=fun hn=>by rw [hN a hn,hon] at ha;cases ha
   simp only [if_neg this]
   exact ha)
  (fun a k' ha=>by
   split at ha
   ·rename_i hn
    obtain rfl:=hN a hn
    obtain rfl:=Option.some.inj ha
    exact .inr ⟨hq,h0n,by rw [AH.upd_same];simp,hk,hfn⟩
   ·exact .inl ha)
  (fun a ha=>AH.upd_ne _ (fun e=>ha (by rw [e];exact hfr)) _)
  (fun t ht=>by
   unfold AH.upd at ht
   split at ht
   ·rename_i e
    exact .inr (e▸hq)
   ·exact hs.dom t ht)
 refine ⟨hx.env,fun k' o hk'=> ?_,hx.fro,hx.mine,hx.base,hx.dom⟩
 simp only [gO] at hk'
 split at hk'
 ·rename_i e
  subst e
  obtain rfl:=Option.some.inj hk'
  refine ⟨hk,N,?_,fun a ha=>by simp only [if_pos ha],ho⟩
  rcases hoa with ⟨_,rfl⟩ | ⟨_,rfl⟩<;>simp
 ·exact hx.obj k' o hk'
theorem Qdm {p c i j:Nat} (h:i≠j):Qb (child p (c+i))≠Qb (child p (c+j)):=fun e=>by
 have:=(Q7 (Q7 e).1).2
 omega
theorem SR.lay (cond:Nat→Bool) {al:List (Nat×Nat×Obj)} {ala:List (Nat×QL)} (hs:SR p h0 σ hf own E O nx Ea C) (ha:AlR p c σ hf nx al ala) (hfr:∀x∈al,cond x.1=true→C (Qb (child p (c+x.1)))=none) (hnd:(al.map (·.1)).Nodup) :
  (∃own',SR p h0 σ hf own' E (Qa0 cond al O) nx Ea (AE.lay p c cond ala C)∧∀a k,own' a=some k→own a=some k∨C a=none)∧(∀t,C t≠none→AE.lay p c cond ala C t=C t)∧∀j,(∀x∈al,cond x.1=true→x.1≠j)→AE.lay p c cond ala C (Qb (child p (c+j)))=C (Qb (child p (c+j))):=by
 induction ha with
 | nil=>exact ⟨⟨own,hs,fun _ _ e=> .inl e⟩,fun _ _=>rfl,fun _ _=>rfl⟩
 | @cons i k obj z N al ala hk ho hr _ ih =>
  simp only [List.map_cons,List.nodup_cons] at hnd
  obtain ⟨⟨own1,ih1,ih4⟩,ih2,ih3⟩:=ih (fun x hx=>hfr x (by simp [hx])) hnd.2
  simp only [AE.lay,Qa0]
  by_cases hc:cond i=true
  ·rw [if_pos hc,if_pos hc]
   have hne:∀x∈al,cond x.1=true→x.1≠i:=fun x hx _ e=>hnd.1 (by rw [← e];exact List.mem_map_of_mem hx)
   have h1:AE.lay p c cond ala C (Qb (child p (c+i)))=none:=(ih3 i hne).trans (hfr (i,k,obj) (by simp) hc)
   refine ⟨⟨_,ih1.add (.inl (Under.child_of (Qt _))) h1 hk ho (hr _),fun a k' ha=> ?_⟩,fun t ht=> ?_,fun j hj=> ?_⟩
   ·split at ha
    ·rename_i hm
     refine .inr ?_
     rcases ho with ⟨_,rfl⟩ | ⟨_,rfl⟩
     ·obtain rfl:=List.mem_singleton.1 hm
      exact hfr (i,k,obj) (by simp) hc
     ·cases hm
    ·exact ih4 a k' ha
   ·rw [AH.upd_ne _ (fun e=>by rw [e,hfr (i,k,obj) (by simp) hc] at ht;exact ht rfl)]
    exact ih2 t ht
   ·have hij:i≠j:=hj (i,k,obj) (by simp) hc
    rw [AH.upd_ne _ (Ne.symm (Qdm hij))]
    exact ih3 j (fun x hx=>hj x (by simp [hx]))
  ·rw [if_neg hc,if_neg hc]
   exact ⟨⟨own1,ih1,ih4⟩,ih2,fun j hj=>ih3 j (fun x hx=>hj x (by simp [hx]))⟩
end
structure SRD (p c:Nat) (h0:LB) (σ:Nat→Option Nat) (hf:AH) (own ownb:Nat→Option Nat) (E:Qp) (O Ob:Qg) (nx nb:Nat) (q:Bool) (al:List (Nat×Nat×Obj)) (fl:List Nat) (Ea:Nat→Value) (base C:AH) (ala:List (Nat×QL)):Prop where
 cur:SR p h0 σ hf own E O nx Ea C
 bas:SR p h0 σ hf ownb E Ob nx Ea base
 qui:q=true→Quiet base C∧∀a k,base a≠none→own a=some k→k<nb
 nbx:nb≤nx
 alr:AlR p c σ hf nx al ala
 fre:∀x∈al,fl.contains x.1=false→C (Qb (child p (c+x.1)))=none
 idx:(al.map (·.1)).Nodup
section
variable (call : Qk) (P : Program)
def VRunD (ops:Array Oper) (B:List (List Nat)) (l:List Oper) (i:Nat) (E:Qp) (O Ob:Qg) (nx nb:Nat) (q:Bool) (al:List (Nat×Nat×Obj)) (fl:List Nat) (K:Qp→Qg→Nat→Prop):Prop :=
 ∀(p c:Nat) (h0:LB) (σ:Nat→Option Nat) (hf:AH) (own ownb:Nat→Option Nat) (Ea:Nat→Value) (base C:AH) (ala:List (Nat×QL)),SRD p c h0 σ hf own ownb E O Ob nx nb q al fl Ea base C ala →
  RunD call P p c ops B base l i Ea C ala fl (fun E' C' al' fl'=>KK p h0 K E' (AE.lay p c (fun a=> !fl'.contains a) al' C'))
end
section
variable {call : Qk} {P : Program} {ops : Array Oper} {B : List (List Nat)} {o : Oper} {l : List Oper} {E : Qp} {O O' Ob OL1 : Qg} {nx nx' nb i i' : Nat} {q : Bool} {al : List (Nat × Nat × Obj)} {fl bi : List Nat} {t : T} {obj : Obj} {K : Qp → Qg → Nat → Prop}
theorem SRD.put {p c:Nat} {h0:LB} {hf base C:AH} {σ own ownb:Nat→Option Nat} {Ea:Nat→Value} {ala:List (Nat×QL)} {v:Value} (hs:SRD p c h0 σ hf own ownb E O Ob nx nb q al fl Ea base C ala) (hv:V σ hf nx t v) (d:Option Tmp):SRD p c h0 σ hf own ownb (pE E d t) O Ob nx nb q al fl (QI Ea d v) base C ala :=
 ⟨hs.cur.put hv d,hs.bas.put hv d,hs.qui,hs.nbx,hs.alr,hs.fre,hs.idx⟩
theorem VRunD.nil (hk:K E (Qa0 (fun a=> !fl.contains a) al O) nx):VRunD call P ops B [] i E O Ob nx nb q al fl K:=fun p c h0 σ hf own ownb Ea base C ala hs=>by
 obtain ⟨⟨own',h1,_⟩,_⟩:=hs.cur.lay (fun a=> !fl.contains a) hs.alr (fun x hx hc=>hs.fre x hx (by simpa using hc)) hs.idx
 exact RunD.nil ⟨σ,hf,own',E,_,nx,h1,hk⟩
theorem VRunD.off (hi:i+1=i') (hw:VWant ops E o false) (hk:VRunD call P ops B l i' (pE E o.dst (.tup [])) O Ob nx nb q al fl K):VRunD call P ops B (o::l) i E O Ob nx nb q al fl K:=fun p c h0 σ hf own ownb Ea base C ala hs =>
 RunD.off hi (hw σ hf nx Ea hs.cur.env) (hk p c h0 σ hf own ownb _ base C ala (hs.put Qb7 _))
theorem VRunD.free {d:Option Tmp} {op:Op} {ty:TypeId} {ps:String} {af:Array Edge} {g:Option (Nat×Bool)} (hi:i+1=i') (hw:VWant ops E ⟨d,op,ty,ps,af,g⟩ true) (hc:ZT P op= .free) (hx:OF call P E ⟨d,op,ty,ps,af,g⟩ t) (hk:VRunD call P ops B l i' (pE E d t) O Ob nx nb q al fl K) :
  VRunD call P ops B (⟨d,op,ty,ps,af,g⟩::l) i E O Ob nx nb q al fl K:=fun p c h0 σ hf own ownb Ea base C ala hs=>by
 obtain ⟨v,h1,h2⟩:=hx (child p (c+i)) σ hf nx Ea (fun _=>none) hs.cur.env
 exact RunD.pure hi rfl (hw σ hf nx Ea hs.cur.env) hc h1 (hk p c h0 σ hf own ownb _ base C ala (hs.put h2 _))
theorem VRunD.look {d:Option Tmp} {op:Op} {ty:TypeId} {ps:String} {af:Array Edge} {g:Option (Nat×Bool)} (hi:i+1=i') (hw:VWant ops E ⟨d,op,ty,ps,af,g⟩ true) (hc:ZT P op= .look) (hx:OL call P E Ob ⟨d,op,ty,ps,af,g⟩ t) (hk:VRunD call P ops B l i' (pE E d t) O Ob nx nb q al fl K) :
  VRunD call P ops B (⟨d,op,ty,ps,af,g⟩::l) i E O Ob nx nb q al fl K:=fun p c h0 σ hf own ownb Ea base C ala hs=>by
 obtain ⟨v,h1,h2⟩:=hx (child p (c+i)) p h0 σ hf ownb nx Ea base hs.bas
 exact RunD.look hi rfl (hw σ hf nx Ea hs.cur.env) hc h1 (hk p c h0 σ hf own ownb _ base C ala (hs.put h2 _))
theorem SRD.laid {p c:Nat} {h0:LB} {hf base C:AH} {σ own ownb:Nat→Option Nat} {Ea:Nat→Value} {ala:List (Nat×QL)} (hs:SRD p c h0 σ hf own ownb E O Ob nx nb q al fl Ea base C ala) (bi:List Nat) :
  (∃own',SR p h0 σ hf own' E (Qa0 (fun a=>bi.contains a && !fl.contains a) al O) nx Ea (AE.lay p c (fun a=>bi.contains a && !fl.contains a) ala C)∧∀a k,own' a=some k→own a=some k∨C a=none)∧(∀t,C t≠none→AE.lay p c (fun a=>bi.contains a && !fl.contains a) ala C t=C t) ∧
   ∀j,(∀x∈al,(bi.contains x.1 && !fl.contains x.1)=true→x.1≠j)→AE.lay p c (fun a=>bi.contains a && !fl.contains a) ala C (Qb (child p (c+j)))=C (Qb (child p (c+j))) :=
 hs.cur.lay (fun a=>bi.contains a && !fl.contains a) hs.alr (fun x hx hc=>hs.fre x hx (by simp only [Bool.and_eq_true,Bool.not_eq_true'] at hc;exact hc.2)) hs.idx
theorem VRunD.chainX {d:Option Tmp} {op:Op} {ty:TypeId} {ps:String} {af:Array Edge} {g:Option (Nat×Bool)} {q':Bool} {ks:List Nat} (hi:i+1=i') (hw:VWant ops E ⟨d,op,ty,ps,af,g⟩ true) (hc:ZT P op= .chain) (hb:B.getD i []=bi) (hl:Qa0 (fun a=>bi.contains a && !fl.contains a) al O=OL1)
  (hx:(Yf P ops bi=true∧q'=false)∨(q=true∧q'=true∧∀k∈ks,nb≤k)) (hop:OC call P E OL1 nx ⟨d,op,ty,ps,af,g⟩ t O' nx' ks) (hk:VRunD call P ops B l i' (pE E d t) O' Ob nx' nb q' al (bi++fl) K) :
  VRunD call P ops B (⟨d,op,ty,ps,af,g⟩::l) i E O Ob nx nb q al fl K:=fun p c h0 σ hf own ownb Ea base C ala hs=>by
 subst hl
 unfold RunD
 intro hfc hlt
 obtain ⟨⟨own1,g1,g4⟩,g2,g3⟩:=hs.laid bi
 have hlt':∀x∈al,x.1<i:=fun x hx=>by
  have:x.1∈ala.map (·.1):=by rw [hs.alr.idx];exact List.mem_map_of_mem hx
  obtain ⟨y,hy,e⟩:=List.mem_map.1 this
  rw [← e];exact hlt y hy
 have hfl:FrC p (c+i) (AE.lay p c (fun a=>bi.contains a && !fl.contains a) ala C):=Qb8 hfc hlt
 have hfr:Fr (child p (c+i)) (AE.lay p c (fun a=>bi.contains a && !fl.contains a) ala C):=FrC.fr hfl (Nat.le_refl _)
 have hnn:=hop.1
 obtain ⟨v,h',σ',own',a1,a2,a3,a4,a5,a6,a7⟩:=hop.2 (child p (c+i)) p h0 σ hf own1 Ea _ g1 (fun t ht=> .inl (Yb ht)) hfr
 have hq:(Yf P ops bi=true∧q'=false)∨(Quiet base h'∧∀a k,base a≠none→own' a=some k→k<nb):=by
  rcases hx with hx | ⟨x1,x2,x3⟩
  ·exact .inl hx
  ·obtain ⟨y1,y2⟩:=hs.qui x1
   have y3:∀u,base u≠none→C u≠none:=fun u hu=>by rw [y1 u hu];exact hu
   have y4:∀u k,base u≠none→own1 u=some k→k<nb:=fun u k hu hk1=>by
    rcases g4 u k hk1 with e | e
    ·exact y2 u k hu e
    ·exact absurd e (y3 u hu)
   refine .inr ⟨fun u hu=> ?_,fun u k hu hk1=> ?_⟩
   ·have e2:=g2 u (y3 u hu)
    rw [a6 u (by rw [e2];exact y3 u hu) (fun k hk2 e=>by have:=y4 u k hu e;have:=x3 k hk2;omega),e2,y1 u hu]
   ·rcases a7 u k hk1 with e | e | ⟨k2,hk2,e⟩
    ·exact y4 u k hu e
    ·rw [g2 u (y3 u hu)] at e
     exact absurd e (y3 u hu)
    ·have:=y4 u k2 hu e
     have:=x3 k2 hk2
     omega
 have hnew:SRD p c h0 σ' hf own' ownb E O' Ob nx' nb q' al (bi++fl) Ea base h' ala:=by
  refine ⟨a4,hs.bas.ext hnn a3 (fun _ _ e=>e) (fun _ _ e=> .inl e) (fun _ _=>rfl) hs.bas.dom,fun e=> ?_,Nat.le_trans hs.nbx hnn,hs.alr.mono hnn a3,fun x hx hn=> ?_,hs.idx⟩
  ·rcases hq with ⟨_,hq⟩ | hq
   ·rw [hq] at e;cases e
   ·exact hq
  ·rw [List.contains_eq_any_beq,List.any_append,Bool.or_eq_false_iff,← List.contains_eq_any_beq,← List.contains_eq_any_beq] at hn
   have e1:AE.lay p c (fun a=>bi.contains a && !fl.contains a) ala C (Qb (child p (c+x.1)))=none:=by
    rw [g3 x.1 (fun y hy hcy e=> ?_)]
    ·exact hs.fre x hx hn.2
    ·rw [e,hn.1] at hcy
     cases hcy
   cases hh:h' (Qb (child p (c+x.1))) with
   | none=>rfl
   | some z =>
    rcases a2 _ (by rw [hh];simp) with h5 | h5
    ·exact absurd e1 h5
    ·have h6:=Under.apart (Qt (child p (c+x.1))) h5
     have:=hlt' x hx
     omega
 have:=RunD.chain (call:=call) (P:=P) (π:=p) (c:=c) (i:=i) (ops:=ops) (B:=B) (base:=base) (r:=l) (fl:=fl) (C:=C) (al:=ala) (D:=fun E' C' al' fl'=>KK p h0 K E' (AE.lay p c (fun a=> !fl'.contains a) al' C')) hi rfl (hw σ hf nx Ea hs.cur.env) hc hb rfl a1
  (hq.imp (fun e=>e.1) (fun e=>e.1)) (fun _=>a2) (fun _=>hk p c h0 σ' hf own' ownb _ base h' ala (hnew.put a5 d))
 unfold RunD at this
 exact this hfc hlt
theorem VRunD.quiet {d:Option Tmp} {op:Op} {ty:TypeId} {ps:String} {af:Array Edge} {g:Option (Nat×Bool)} {ks:List Nat} (hi:i+1=i') (hw:VWant ops E ⟨d,op,ty,ps,af,g⟩ true) (hc:ZT P op= .chain) (hb:B.getD i []=bi) (hl:Qa0 (fun a=>bi.contains a && !fl.contains a) al O=OL1)
  (hn:∀k∈ks,nb≤k) (hx:OC call P E OL1 nx ⟨d,op,ty,ps,af,g⟩ t O' nx' ks) (hk:VRunD call P ops B l i' (pE E d t) O' Ob nx' nb true al (bi++fl) K) :
  VRunD call P ops B (⟨d,op,ty,ps,af,g⟩::l) i E O Ob nx nb true al fl K:=VRunD.chainX hi hw hc hb hl (.inr ⟨rfl,rfl,hn⟩) hx hk
theorem VRun.draw {id:Nat} {Q:AX→Qp→Qg→Nat→Prop} (hB:QcQ ops.toList []=B) (hok:okD P ops B=true) (hx:VRunD call P ops B ops.toList 0 E O O nx nx true [] [] (Q .normal)):VRun call P (.region id ops true) E O nx Q:=by
 unfold VRun
 exact fun p h0 σ hf own Ea h c hs=>Run.draw rfl hB hok (hx p c h0 σ hf own own Ea h h [] ⟨hs,hs,fun _=>⟨fun t _=>rfl,fun a k _ e=>(hs.mine a k e).2.2.2⟩,Nat.le_refl _, .nil,fun x hx=>(by cases hx),(by simp)⟩)
end
attribute [irreducible] VRunD
end Go.Proofs.YthifchndolccgaaDoor.AE
namespace Go.Proofs.YthifchndolccgaaDoor.AE
open Go Go.RowKit
set_option linter.unusedVariables false
set_option linter.unusedSimpArgs false
section
variable {call : Qk} {P : Program} {E : Qp} {O : Qg} {d : Option Tmp} {ty tt s e : TypeId} {ps : String} {af : Array Edge} {g : Option (Nat × Bool)} {x y z : Operand} {t u w : T} {nx : Nat}
theorem OF.move (hx:VEv E x t):OF call P E ⟨d, .move x,ty,ps,af,g⟩ t:=fun p σ hf nx Ea h he=>by
 obtain ⟨v,h1,h2⟩:=hx σ hf nx Ea he
 exact ⟨v,X.move h1,h2⟩
theorem OF.assign (hx:VEv E x t):OF call P E ⟨d, .assign x,ty,ps,af,g⟩ t:=fun p σ hf nx Ea h he=>by
 obtain ⟨v,h1,h2⟩:=hx σ hf nx Ea he
 exact ⟨v,X.assign h1,h2⟩
theorem OF.pickT (hc:VEv E x (.bool true)) (hy:VEv E y t):OF call P E ⟨d, .pick x y z,ty,ps,af,g⟩ t:=fun p σ hf nx Ea h he=>by
 obtain ⟨v,h1,h2⟩:=hc σ hf nx Ea he
 obtain ⟨v',h3,h4⟩:=hy σ hf nx Ea he
 obtain rfl:=h2.boolInv
 exact ⟨v',X.pickT h1 h3,h4⟩
theorem OF.pickF (hc:VEv E x (.bool false)) (hz:VEv E z t):OF call P E ⟨d, .pick x y z,ty,ps,af,g⟩ t:=fun p σ hf nx Ea h he=>by
 obtain ⟨v,h1,h2⟩:=hc σ hf nx Ea he
 obtain ⟨v',h3,h4⟩:=hz σ hf nx Ea he
 obtain rfl:=h2.boolInv
 exact ⟨v',X.pickF h1 h3,h4⟩
inductive Sv : T→Value→Prop
 | bool (b:Bool):Sv (.bool b) (.bool b)
 | int (k:IntKind) (n:Int):Sv (.int k n) (.int k n)
 | str (s:ByteArray):Sv (.str s) (.string s)
 | ptr0:Sv .ptr0 (.pointer none)
 | nils:Sv .nils (.slice none 0 0)
 | fn0:Sv .fn0 .nilFunc
theorem Sv.R {t:T} {v:Value} (h:Sv t v) (hf:AH):AE.R hf t v:=by
 cases h
 ·exact .bool _
 ·exact .int _ _
 ·exact .str _
 ·exact .ptr0
 ·exact .nils
 ·exact .fn0
theorem Sv.inv {t:T} {v v':Value} {σ:Nat→Option Nat} {hf:AH} {nx:Nat} (h:Sv t v) (hv:V σ hf nx t v'):v'=v:=by
 cases h
 ·exact hv.boolInv
 ·exact hv.intInv
 ·exact hv.strInv
 ·cases hv with | fz hr=>cases hr;rfl
 ·exact hv.nilsInv
 ·cases hv with | fz hr=>cases hr;rfl
theorem VL.tail {σ:Nat→Option Nat} {hf:AH} {nx:Nat} {t:T} {ts:List T} {vs:List Value} (h:VL σ hf nx (t::ts) vs):∃v r,vs=v::r∧V σ hf nx t v∧VL σ hf nx ts r:=by
 cases vs with
 | nil=>cases h.1
 | cons v r=>exact ⟨v,r,rfl,by simpa using h.2 0 (by simp),by simpa using h.1,fun i hi=>by simpa using h.2 (i+1) (by simpa using hi)⟩
theorem OF.bin {op:BinOp} {xt:TypeId} {a b c:Value} (hx:VEv E x t) (hy:VEv E y u) (ha:Sv t a) (hb:Sv u b) (hop:Q5 P op tt x y a b=some c) (hc:Sv w c):OF call P E ⟨d, .binOp op tt x y xt,ty,ps,af,g⟩ w:=fun p σ hf nx Ea h he=>by
 obtain ⟨v,h1,h2⟩:=hx σ hf nx Ea he
 obtain ⟨v',h3,h4⟩:=hy σ hf nx Ea he
 obtain rfl:=ha.inv h2
 obtain rfl:=hb.inv h4
 exact ⟨c,X.bin h1 h3 hop, .fz (hc.R hf)⟩
theorem OF.un {op:UnOp} {xt:TypeId} {a c:Value} (hx:VEv E x t) (ha:Sv t a) (hop:aun P op a=some c) (hc:Sv w c):OF call P E ⟨d, .unOp op xt x,ty,ps,af,g⟩ w:=fun p σ hf nx Ea h he=>by
 obtain ⟨v,h1,h2⟩:=hx σ hf nx Ea he
 obtain rfl:=ha.inv h2
 exact ⟨c,X.un h1 hop, .fz (hc.R hf)⟩
theorem R.rpDrop {hf:AH} {ts:List T} {v:Value} (h:R hf (.rp ts) v):∃a o es cs,v= .pointer (some ⟨a,o,none⟩)∧hf a=some (.cells es cs)∧o+ts.length≤cs.length∧∀i,i<ts.length→R hf (ts.getD i .any) (cs.getD (o+i) undef):=by
 cases h with
 | rp ts o hk hfit h=>exact ⟨_,o,_,_,rfl,hk,hfit,h⟩
theorem R.rpAt {hf:AH} {ts:List T} {a o es:Nat} {cs:List Value} (n:Nat) (hn:n≤ts.length) (hk:hf a=some (.cells es cs)) (hfit:o+ts.length≤cs.length) (h:∀i,i<ts.length→R hf (ts.getD i .any) (cs.getD (o+i) undef)):R hf (.rp (ts.drop n)) (.pointer (some ⟨a,o+n,none⟩)) :=
 .rp _ _ hk (by simp;omega) (fun i hi=>by
  have:=h (n+i) (by simp at hi;omega)
  rw [show o+n+i=o+(n+i) by omega]
  simpa [List.getD_eq_getElem?_getD] using this)
theorem V.rpInv {σ:Nat→Option Nat} {hf:AH} {nx:Nat} {ts:List T} {v:Value} (h:V σ hf nx (.rp ts) v):R hf (.rp ts) v:=by
 cases h with
 | fz hr=>exact hr
theorem V.opInv {σ:Nat→Option Nat} {hf:AH} {nx k o:Nat} {v:Value} (h:V σ hf nx (.op k o) v):∃a,v= .pointer (some ⟨a,o,none⟩)∧σ k=some a∧k<nx:=by
 cases h with
 | fz hr=>cases hr
 | op k o hk hs=>exact ⟨_,rfl,hs,hk⟩
theorem V.orpInv {σ:Nat→Option Nat} {hf:AH} {nx sz k i o:Nat} {v:Value} (h:V σ hf nx (.orp sz k i o) v):∃a,v= .pointer (some ⟨a,i*sz+o,none⟩)∧σ k=some a∧k<nx:=by
 cases h with
 | fz hr=>cases hr
 | orp sz k i o hk hs=>exact ⟨_,rfl,hs,hk⟩
theorem V.slInv {σ:Nat→Option Nat} {hf:AH} {nx sz:Nat} {rows:List (List T)} {b:Bool} {v:Value} (h:V σ hf nx (.sl b sz rows) v):R hf (.sl b sz rows) v:=by
 cases h with
 | fz hr=>exact hr
theorem OF.fieldAddrR {j off:Nat} {ts:List T} (hx:VEv E x (.rp ts)) (hn:off≤ts.length) (ha:∀k o,Qc P tt (.pointer (some ⟨k,o,none⟩)) j=some (.pointer (some ⟨k,o+off,none⟩))):OF call P E ⟨d, .fieldAddr tt x j,ty,ps,af,g⟩ (.rp (ts.drop off)):=fun p σ hf nx Ea h he=>by
 obtain ⟨v,h1,h2⟩:=hx σ hf nx Ea he
 obtain ⟨a,o,es,cs,rfl,h3,h4,h5⟩:=h2.rpInv.rpDrop
 exact ⟨_,X.fieldAddr h1 (ha a o), .fz (R.rpAt off hn h3 h4 h5)⟩
theorem OF.fieldAddrO {j off k o:Nat} (hx:VEv E x (.op k o)) (ha:∀k o,Qc P tt (.pointer (some ⟨k,o,none⟩)) j=some (.pointer (some ⟨k,o+off,none⟩))):OF call P E ⟨d, .fieldAddr tt x j,ty,ps,af,g⟩ (.op k (o+off)):=fun p σ hf nx Ea h he=>by
 obtain ⟨v,h1,h2⟩:=hx σ hf nx Ea he
 obtain ⟨a,rfl,h3,h4⟩:=h2.opInv
 exact ⟨_,X.fieldAddr h1 (ha a o), .op k _ h4 h3⟩
theorem Ju {α:Type} {rows:List (List α)} {sz:Nat} (hlen:∀r∈rows,r.length=sz) {i:Nat} {row:List α} (hi:rows[i]? =some row):(rows.flatten.drop (i*sz)).take sz=row:=by
 induction rows generalizing i with
 | nil=>simp at hi
 | cons r rs ih =>
  have hr:r.length=sz:=hlen r (by simp)
  cases i with
  | zero =>
   obtain rfl:r=row:=by simpa using hi
   rw [Nat.zero_mul,List.drop_zero,List.flatten_cons,← hr,List.take_left']
   rfl
  | succ i =>
   have:=ih (fun x hx=>hlen x (by simp [hx])) (i:=i) (by simpa using hi)
   rw [List.flatten_cons,Nat.add_mul,Nat.one_mul,Nat.add_comm,← List.drop_drop,← hr,List.drop_left',hr]
   ·exact this
   ·rfl
theorem Yc {α:Type} {rows:List (List α)} {sz:Nat} (hlen:∀r∈rows,r.length=sz):rows.flatten.length=rows.length*sz:=by
 rw [List.length_flatten,List.map_congr_left (g:=fun _=>sz) (fun r hr=>hlen r hr)]
 simp [List.map_const']
theorem YJ {rows:List (List T)} {sz:Nat} (hlen:∀r∈rows,r.length=sz) {i j:Nat} {row:List T} (hi:rows[i]? =some row) (hj:j<sz):rows.flatten.getD (i*sz+j) .any=row.getD j .any:=by
 have h:=Ju hlen hi
 rw [← h,List.getD_eq_getElem?_getD,List.getD_eq_getElem?_getD,List.getElem?_take,if_pos hj,List.getElem?_drop]
theorem Qca {n sz i:Nat} (hi:i<n):i*sz+sz≤n*sz:=by
 have:(i+1)*sz≤n*sz:=Nat.mul_le_mul_right _ hi
 rw [Nat.add_mul] at this
 omega
theorem OF.indexAddrR {sz:Nat} {rows:List (List T)} {kk:IntKind} {j:Int} {i:Nat} {row:List T} (hx:VEv E x (.sl false sz rows)) (hy:VEv E y (.int kk j)) (hj:j=i) (hi:rows[i]? =some row) (hu:P.underlying tt=some (.slice e)) (hn:P.cellsOf e=sz) (hif:(P.info? e).isSome=true) :
  OF call P E ⟨d, .indexAddr tt x y,ty,ps,af,g⟩ (.rp row):=fun p σ hf nx Ea h he=>by
 obtain ⟨v,h1,h2⟩:=hx σ hf nx Ea he
 obtain ⟨v',h3,h4⟩:=hy σ hf nx Ea he
 obtain rfl:=h4.intInv
 subst hj
 have hlt:i<rows.length:=(List.getElem?_eq_some_iff.1 hi).1
 have hr:=h2.slInv
 generalize hT:T.sl false sz rows=tr at hr
 cases hr<;>first | cases hT | skip
 ·simp at hlt
 ·simp at hlt
 ·rename_i a es cs o m hm hk hes hlen hfit h
  have hrow:row.length=sz:=hlen row (List.mem_of_getElem? hi)
  have hf1:=Qca (sz:=sz) hlt
  refine ⟨.pointer (some ⟨a,o+i*sz,none⟩),X.indexAddr h1 h3 ?_, .fz (.rp row _ hk (by omega) (fun q hq=> ?_))⟩
  ·simp only [Za,hu,hn,hif,Int.toNat_natCast]
   rw [if_pos ⟨trivial,by omega,by omega⟩]
  ·have:=h (i*sz+q) (by omega)
   rw [YJ hlen hi (by omega)] at this
   rw [Nat.add_assoc]
   exact this
theorem V.osInv {σ:Nat→Option Nat} {hf:AH} {nx sz k lo n:Nat} {v:Value} (h:V σ hf nx (.os sz k lo n) v):k<nx∧((∃a m,v= .slice (some ⟨a,lo*sz,none⟩) n m∧σ k=some a∧0<m)∨(σ k=none∧lo=0∧n=0∧(v= .slice none 0 0∨∃a o,v= .slice (some ⟨a,o,none⟩) 0 0))):=by
 cases h with
 | fz hr=>cases hr
 | os sz k lo n m hk hs hm=>exact ⟨hk, .inl ⟨_,m,rfl,hs,hm⟩⟩
 | os0 sz k hk hs=>exact ⟨hk, .inr ⟨hs,rfl,rfl, .inl rfl⟩⟩
 | ose sz k a o hk hs=>exact ⟨hk, .inr ⟨hs,rfl,rfl, .inr ⟨a,o,rfl⟩⟩⟩
theorem OF.indexAddrO {sz k lo n:Nat} {kk:IntKind} {j:Int} {i:Nat} (hx:VEv E x (.os sz k lo n)) (hy:VEv E y (.int kk j)) (hj:j=i) (hi:i<n) (hu:P.underlying tt=some (.slice e)) (hn:P.cellsOf e=sz) (hif:(P.info? e).isSome=true) :
  OF call P E ⟨d, .indexAddr tt x y,ty,ps,af,g⟩ (.orp sz k (lo+i) 0):=fun p σ hf nx Ea h he=>by
 obtain ⟨v,h1,h2⟩:=hx σ hf nx Ea he
 obtain ⟨v',h3,h4⟩:=hy σ hf nx Ea he
 obtain rfl:=h4.intInv
 subst hj
 obtain ⟨hk,⟨a,m,rfl,h5,h6⟩ | ⟨_,_,rfl,_⟩⟩:=h2.osInv
 ·refine ⟨.pointer (some ⟨a,lo*sz+i*sz,none⟩),X.indexAddr h1 h3 ?_,?_⟩
  ·simp only [Za,hu,hn,hif,Int.toNat_natCast]
   rw [if_pos ⟨trivial,by omega,by omega⟩]
  ·have:=V.orp (σ:=σ) (hf:=hf) (nx:=nx) sz k (lo+i) 0 hk h5
   rwa [Nat.add_mul,Nat.add_zero] at this
 ·omega
theorem OF.index {st:ByteArray} {kk:IntKind} {j:Int} {i:Nat} (hx:VEv E x (.str st)) (hy:VEv E y (.int kk j)) (hj:j=i) (hi:i<st.size) (hu:P.underlying tt=some .string):OF call P E ⟨d, .index tt x y,ty,ps,af,g⟩ (.int .u8 ((st[i]'hi).toNat:Int)):=fun p σ hf nx Ea h he=>by
 obtain ⟨v,h1,h2⟩:=hx σ hf nx Ea he
 obtain ⟨v',h3,h4⟩:=hy σ hf nx Ea he
 obtain rfl:=h4.intInv
 obtain rfl:=h2.strInv
 subst hj
 exact ⟨_,X.index h1 h3 (Qct hu hi), .fz (.int _ _)⟩
def Ql : T→List T
 | .agg ts=>ts
 | t=> [t]
theorem V.cells {σ:Nat→Option Nat} {hf:AH} {nx:Nat} {v:Value} (h:V σ hf nx t v) (ht:t≠ .any):VL σ hf nx (Ql t) v.cells.toList:=by
 have one:∀(t:T) (v:Value),V σ hf nx t v→Ql t= [t]→v.cells.toList= [v]→VL σ hf nx (Ql t) v.cells.toList:=fun t v h e1 e2=>by
  rw [e1,e2]
  exact .cons h (.nil _ _ _)
 cases h with
 | any v=>exact absurd rfl ht
 | fz hr =>
  have h0:V σ hf nx t v:= .fz hr
  cases hr with
  | agg ts vs hs h =>
   obtain ⟨l,e,h1⟩:=h0.aggL
   cases e
   simpa [Ql,Value.cells] using h1
  | bool b=>exact one _ _ h0 rfl rfl
  | int k n=>exact one _ _ h0 rfl rfl
  | str s=>exact one _ _ h0 rfl rfl
  | ptr0=>exact one _ _ h0 rfl rfl
  | fn0=>exact one _ _ h0 rfl rfl
  | nils=>exact one _ _ h0 rfl rfl
  | tup ts vs hs h=>exact one _ _ h0 rfl rfl
  | fn f ts vs hs h=>exact one _ _ h0 rfl rfl
  | sl0 sz=>exact one _ _ h0 rfl rfl
  | sle sz a o m=>exact one _ _ h0 rfl rfl
  | sl sz rows o m hm hk hes hlen hfit h=>exact one _ _ h0 rfl rfl
  | rp ts o hk hfit h=>exact one _ _ h0 rfl rfl
 | os sz k lo n m hk hs hm=>exact one _ _ (.os sz k lo n m hk hs hm) rfl rfl
 | os0 sz k hk hs=>exact one _ _ (.os0 sz k hk hs) rfl rfl
 | ose sz k a o hk hs=>exact one _ _ (.ose sz k a o hk hs) rfl rfl
 | op k o hk hs=>exact one _ _ (.op k o hk hs) rfl rfl
 | orp sz k i o hk hs=>exact one _ _ (.orp sz k i o hk hs) rfl rfl
 | om k hk hs=>exact one _ _ (.om k hk hs) rfl rfl
 | vp ts o hk hfit h=>exact one _ _ (.vp ts o hk hfit h) rfl rfl
 | agg ts vs hs h =>
  obtain ⟨l,e,h1⟩:=(V.agg ts vs hs h).aggL
  cases e
  simpa [Ql,Value.cells] using h1
 | tup ts vs hs h=>exact one _ _ (.tup ts vs hs h) rfl rfl
 | fn f ts vs hs h=>exact one _ _ (.fn f ts vs hs h) rfl rfl
theorem Qc4 {σ:Nat→Option Nat} {nx:Nat} (oa:Option Nat):∀k,k<nx→(fun k=>if k=nx then oa else σ k) k=σ k:=fun k hk=>if_neg (by omega)
theorem OM.box {xt:TypeId} (hx:VEv E x t) (ht:t≠ .any):OM call P E nx ⟨d, .box xt x,ty,ps,af,g⟩ (.op nx 0) (.cells (Ql t)):=fun q σ hf Ea he=>by
 obtain ⟨v,h1,h2⟩:=hx σ hf nx Ea he
 refine ⟨.pointer (some ⟨Qb q,0,none⟩), .cells 0 v.cells.toList,some (Qb q),[Qb q],fun h=>X.box h1 rfl, .inl ⟨rfl,rfl⟩, .op nx 0 (by omega) (by simp),fun h=> .cells (AH.upd_same _ _ _) (YI _) ?_⟩
 exact (h2.cells ht).mono (fun _ _ e=>e) (by omega) (Qc4 _)
theorem OM.alloc {v:Value} (hz:QH P tt=some v) (hcl:closedV v=true) (ht:t≠ .any) (hv:∀hf,R hf t v):OM call P E nx ⟨d, .alloc tt,ty,ps,af,g⟩ (.op nx 0) (.cells (Ql t)):=fun q σ hf Ea he =>
 ⟨.pointer (some ⟨Qb q,0,none⟩), .cells 0 v.cells.toList,some (Qb q),[Qb q],fun h=>X.alloc hz hcl rfl, .inl ⟨rfl,rfl⟩, .op nx 0 (by omega) (by simp),fun h=> .cells (AH.upd_same _ _ _) (YI _) (V.cells (.fz (hv hf)) ht)⟩
theorem SR.objAt {p:Nat} {h0:LB} {hf h:AH} {σ own:Nat→Option Nat} {Ea:Nat→Value} {k:Nat} {o:Obj} (hs:SR p h0 σ hf own E O nx Ea h) (hk:gO O k=some o):∃N,N.Nodup∧(∀a∈N,own a=some k)∧ObjR σ hf nx h o (σ k) N:=(hs.obj k o hk).2
theorem OL.loadR1 {ts:List T} (hx:VEv E x (.rp ts)) (ht:ts[0]? =some t) (hst:Qj P tt=some false):OL call P E O ⟨d, .load tt x,ty,ps,af,g⟩ t:=fun q p h0 σ hf own nx Ea h hs=>by
 obtain ⟨v,h1,h2⟩:=hx σ hf nx Ea hs.env
 obtain ⟨a,o,es,cs,rfl,h3,h4,h5⟩:=h2.rpInv.rpDrop
 have hlt:0<ts.length:=(List.getElem?_eq_some_iff.1 ht).1
 have h6:=h5 0 hlt
 have hlt':o<cs.length:=by omega
 rw [List.getD_eq_getElem?_getD,ht,Nat.add_zero,List.getD_eq_getElem?_getD,List.getElem?_eq_getElem hlt'] at h6
 exact ⟨cs[o],X.load h1 (Jk hst (hs.fro _ _ h3).1 (List.getElem?_eq_getElem hlt')), .fz h6⟩
theorem OL.loadRn {ts us:List T} {n:Nat} (hx:VEv E x (.rp ts)) (hst:Qj P tt=some true) (hn:P.cellsOf tt=n) (hle:n≤ts.length) (hu:ts.take n=us):OL call P E O ⟨d, .load tt x,ty,ps,af,g⟩ (.agg us):=fun q p h0 σ hf own nx Ea h hs=>by
 subst hu
 obtain ⟨v,h1,h2⟩:=hx σ hf nx Ea hs.env
 obtain ⟨a,o,es,cs,rfl,h3,h4,h5⟩:=h2.rpInv.rpDrop
 refine ⟨_,X.load h1 (Y2 hst hn (hs.fro _ _ h3).1 (by omega) rfl), .fz (.agg _ _ (by simp;omega) (Jm ⟨by simp;omega,fun i hi=> ?_⟩))⟩
 have hi':i<n:=by simp at hi;omega
 have:=h5 i (by omega)
 rw [List.getD_eq_getElem?_getD,List.getElem?_take,if_pos hi',← List.getD_eq_getElem?_getD,List.getD_eq_getElem?_getD (l:=List.take _ _),List.getElem?_take,if_pos hi',List.getElem?_drop,← List.getD_eq_getElem?_getD]
 exact this
theorem OL.loadO1 {ts:List T} {k o:Nat} (hx:VEv E x (.op k o)) (hk:gO O k=some (.cells ts)) (ht:ts[o]? =some t) (hst:Qj P tt=some false):OL call P E O ⟨d, .load tt x,ty,ps,af,g⟩ t:=fun q p h0 σ hf own nx Ea h hs=>by
 obtain ⟨v,h1,h2⟩:=hx σ hf nx Ea hs.env
 obtain ⟨a,rfl,h3,h4⟩:=h2.opInv
 obtain ⟨N,hN1,hN2,h5⟩:=hs.objAt hk
 rw [h3] at h5
 cases h5 with
 | cells hh hodd hv =>
  rename_i es cs
  have hlt:o<ts.length:=(List.getElem?_eq_some_iff.1 ht).1
  have hlt':o<cs.length:=by rw [← hv.1];exact hlt
  have h6:=hv.2 o hlt
  rw [List.getD_eq_getElem?_getD,ht,List.getD_eq_getElem?_getD,List.getElem?_eq_getElem hlt'] at h6
  exact ⟨cs[o],X.load h1 (Jk hst hh (List.getElem?_eq_getElem hlt')),h6⟩
theorem OL.loadOn {ts us:List T} {k o n:Nat} (hx:VEv E x (.op k o)) (hk:gO O k=some (.cells ts)) (hst:Qj P tt=some true) (hn:P.cellsOf tt=n) (hle:o+n≤ts.length) (hu:(ts.drop o).take n=us):OL call P E O ⟨d, .load tt x,ty,ps,af,g⟩ (.agg us):=fun q p h0 σ hf own nx Ea h hs=>by
 subst hu
 obtain ⟨v,h1,h2⟩:=hx σ hf nx Ea hs.env
 obtain ⟨a,rfl,h3,h4⟩:=h2.opInv
 obtain ⟨N,hN1,hN2,h5⟩:=hs.objAt hk
 rw [h3] at h5
 cases h5 with
 | cells hh hodd hv =>
  rename_i es cs
  have hl:=hv.1
  refine ⟨_,X.load h1 (Y2 hst hn hh (by omega) rfl),VL.toAgg ⟨by simp;omega,fun i hi=> ?_⟩⟩
  have hi':i<n:=by simp at hi;omega
  have:=hv.2 (o+i) (by omega)
  rw [List.getD_eq_getElem?_getD,List.getElem?_take,if_pos hi',List.getElem?_drop,← List.getD_eq_getElem?_getD,List.getD_eq_getElem?_getD (l:=List.take _ _),List.getElem?_take,if_pos hi',List.getElem?_drop,← List.getD_eq_getElem?_getD]
  exact this
def ZC : T→Bool
 | .sl true _ _=>false
 | .agg _=>false
 | .tup _=>false
 | .any=>false
 | _=>true
theorem S.flat {hf h:AH} {v:Value} {N:List Nat} (hs:S hf h t v N) (hf1:ZC t=true):R hf t v∧N= []:=by
 cases hs with
 | fz hr=>exact ⟨hr,rfl⟩
 | ow0 sz=>simp [ZC] at hf1
 | owe sz a o=>simp [ZC] at hf1
 | ow=>simp [ZC] at hf1
 | agg=>simp [ZC] at hf1
 | tup=>simp [ZC] at hf1
theorem SL.flat {hf h:AH}:∀ {ts:List T} {vs:List Value} {N:List Nat},SL hf h ts vs N→(∀t∈ts,ZC t=true)→RL hf ts vs∧N= []
 | _,_,_, .nil,_=>⟨RL.nil _,rfl⟩
 | _,_,_, .cons hs hr,hfl=>by
  obtain ⟨h1,rfl⟩:=S.flat hs (hfl _ (by simp))
  obtain ⟨h2,rfl⟩:=SL.flat hr (fun t ht=>hfl t (by simp [ht]))
  exact ⟨RL.cons h1 h2,rfl⟩
theorem RL.toSL {hf h:AH}:∀ {ts:List T} {vs:List Value},RL hf ts vs→SL hf h ts vs []
 | [],[],_=> .nil
 | [],_::_,hr=>by cases hr.1
 | _::_,[],hr=>by cases hr.1
 | t::ts,v::vs,hr=>by
  obtain ⟨h1,h2⟩:=hr.tail
  exact SL.cons (N:= []) (M:= []) (.fz h1) (RL.toSL h2)
theorem OL.lenS {st:ByteArray} (hx:VEv E x (.str st)) (hu:P.underlying tt=some .string):OL call P E O ⟨d, .call ⟨.builtin .len,#[x],#[tt]⟩,ty,ps,af,g⟩ (.int .i64 st.size):=fun q p h0 σ hf own nx Ea h hs=>by
 obtain ⟨v,h1,h2⟩:=hx σ hf nx Ea hs.env
 obtain rfl:=h2.strInv
 exact ⟨_,X.len h1 (Qdd hu), .fz (.int _ _)⟩
theorem OL.lenR {sz:Nat} {rows:List (List T)} (hx:VEv E x (.sl false sz rows)) (hu:P.underlying tt=some (.slice e)):OL call P E O ⟨d, .call ⟨.builtin .len,#[x],#[tt]⟩,ty,ps,af,g⟩ (.int .i64 rows.length):=fun q p h0 σ hf own nx Ea h hs=>by
 obtain ⟨v,h1,h2⟩:=hx σ hf nx Ea hs.env
 have hr:=h2.slInv
 generalize hT:T.sl false sz rows=tr at hr
 cases hr<;>cases hT
 ·exact ⟨_,X.len h1 (QaT hu), .fz (.int _ _)⟩
 ·exact ⟨_,X.len h1 (QaT hu), .fz (.int _ _)⟩
 ·exact ⟨_,X.len h1 (QaT hu), .fz (.int _ _)⟩
end
end Go.Proofs.YthifchndolccgaaDoor.AE
namespace Go.Proofs.YthifchndolccgaaDoor.AE
open Go Go.RowKit
set_option linter.unusedVariables false
set_option linter.unusedSimpArgs false
def Yw : T→Bool
 | .any | .agg _ | .tup _=>false
 | .sl true _ _=>false
 | _=>true
theorem R.one {hf:AH} {t:T} {v:Value} (h:R hf t v) (hc:Yw t=true):v.oneCell'=true:=by
 cases h<;>first | rfl | simp [Yw] at hc
theorem V.one {σ:Nat→Option Nat} {hf:AH} {nx:Nat} {t:T} {v:Value} (h:V σ hf nx t v) (hc:Yw t=true):v.oneCell'=true:=by
 cases h<;>first | rfl | (simp [Yw] at hc;done) | skip
 rename_i hr
 exact hr.one hc
def QbK : T→Bool
 | .any | .agg _ | .tup _=>false
 | _=>true
def ZW : T→Bool
 | .bool _ | .int _ _ | .str _ | .ptr0 | .fn0 | .nils | .sl false _ _ | .rp _=>true
 | _=>false
theorem V.pl {σ:Nat→Option Nat} {hf:AH} {nx:Nat} {t:T} {v:Value} (h:V σ hf nx t v) (hc:ZW t=true):R hf t v:=by
 cases h<;>first | assumption | (simp [ZW] at hc;done)
theorem VL.pl {σ:Nat→Option Nat} {hf:AH} {nx:Nat} {ts:List T} {vs:List Value} (h:VL σ hf nx ts vs) (hc:∀t∈ts,ZW t=true):RL hf ts vs:=⟨h.1,fun i hi=>(h.2 i hi).pl (hc _ (by rw [List.getD_eq_getElem?_getD,List.getElem?_eq_getElem hi];exact List.getElem_mem hi))⟩
def JD (cs:List T) (o:Nat) (vs:List T):List T:=cs.take o++vs++cs.drop (o+vs.length)
theorem YS {α:Type} (dflt:α) {cs vs:List α} {o:Nat} (ho:o+vs.length≤cs.length) (i:Nat):(cs.take o++vs++cs.drop (o+vs.length)).getD i dflt=if o≤i∧i<o+vs.length then vs.getD (i - o) dflt else cs.getD i dflt:=by
 have e1:(cs.take o).length=o:=by rw [List.length_take];omega
 by_cases h1:i<o
 ·rw [if_neg (by omega),List.append_assoc,List.getD_eq_getElem?_getD,List.getElem?_append_left (by omega),List.getElem?_take,if_pos h1,← List.getD_eq_getElem?_getD]
 ·by_cases h2:i<o+vs.length
  ·rw [if_pos ⟨by omega,h2⟩,List.append_assoc,List.getD_eq_getElem?_getD,List.getElem?_append_right (by omega),e1,List.getElem?_append_left (by omega),← List.getD_eq_getElem?_getD]
  ·rw [if_neg (by omega),List.append_assoc,List.getD_eq_getElem?_getD,List.getElem?_append_right (by omega),e1,List.getElem?_append_right (by omega),List.getElem?_drop,← List.getD_eq_getElem?_getD]
   congr 1
   omega
theorem VL.splice {σ:Nat→Option Nat} {hf:AH} {nx o:Nat} {ts us:List T} {cs vs:List Value} (h:VL σ hf nx ts cs) (hu:VL σ hf nx us vs) (ho:o+us.length≤ts.length):VL σ hf nx (JD ts o us) (AE.splice cs o vs):=by
 have h1:=h.1
 have h2:=hu.1
 refine ⟨by simp [JD,AE.splice];omega,fun i hi=> ?_⟩
 unfold JD AE.splice
 rw [YS _ ho,YS _ (by omega),← h2]
 split
 ·exact hu.2 _ (by omega)
 ·refine h.2 _ ?_
  simp [JD] at hi
  omega
theorem RL.splice {hf:AH} {o:Nat} {ts us:List T} {cs vs:List Value} (h:RL hf ts cs) (hu:RL hf us vs) (ho:o+us.length≤ts.length):RL hf (JD ts o us) (AE.splice cs o vs):=by
 have h1:=h.1
 have h2:=hu.1
 refine ⟨by simp [JD,AE.splice];omega,fun i hi=> ?_⟩
 unfold JD AE.splice
 rw [YS _ ho,YS _ (by omega),← h2]
 split
 ·exact hu.2 _ (by omega)
 ·refine h.2 _ ?_
  simp [JD] at hi
  omega
section
variable {p nx : Nat} {h0 : LB} {hf h h' : AH} {σ own : Nat → Option Nat} {E : Qp} {O : Qg} {Ea : Nat → Value}
theorem SR.upd {k a:Nat} {z:QL} {obj:Obj} {N:List Nat} (hs:SR p h0 σ hf own E O nx Ea h) (hσ:σ k=some a) (hk:k<nx) (ha:own a=some k) (hN:N.Nodup) (hN':∀b∈N,own b=some k) (ho:ObjR σ hf nx (h.upd a (some z)) obj (some a) N):SR p h0 σ hf own E ((k,some obj)::O) nx Ea (h.upd a (some z)):=by
 obtain ⟨m1,m2,m3,m4⟩:=hs.mine a k ha
 refine ⟨hs.env,fun k' o hk'=> ?_,fun b o hb=> ?_,fun b k' hb=> ?_,hs.base,fun t ht=> ?_⟩
 ·simp only [gO] at hk'
  split at hk'
  ·rename_i e
   subst e
   obtain rfl:=Option.some.inj hk'
   exact ⟨hk,N,hN,hN',hσ▸ho⟩
  ·rename_i hne
   obtain ⟨h1,N',h2,h3,h4⟩:=hs.obj k' o hk'
   refine ⟨h1,N',h2,h3,h4.mono (fun _ _ e=>e) (Nat.le_refl _) (fun _ _=>rfl) (fun b hb=>AH.upd_ne _ (fun e=> ?_) _)⟩
   subst e
   have:=h3 _ hb
   rw [ha] at this
   exact hne (Option.some.inj this).symm
 ·obtain ⟨h1,h2⟩:=hs.fro b o hb
  have:b≠a:=fun e=>by rw [e,ha] at h2;cases h2
  exact ⟨by rw [AH.upd_ne _ this];exact h1,h2⟩
 ·obtain ⟨h1,h2,h3,h4⟩:=hs.mine b k' hb
  refine ⟨h1,h2,?_,h4⟩
  by_cases e:b=a
  ·rw [e,AH.upd_same];simp
  ·rw [AH.upd_ne _ e];exact h3
 ·unfold AH.upd at ht
  split at ht
  ·rename_i e
   exact .inr (e▸m1)
  ·exact hs.dom t ht
end
section
variable {call : Qk} {P : Program} {E : Qp} {O : Qg} {d : Option Tmp} {ty tt s e : TypeId} {ps : String} {af : Array Edge} {g : Option (Nat × Bool)} {x y z : Operand} {t u w : T} {nx : Nat}
theorem OC.storeO {k o:Nat} {ts us:List T} (hx:VEv E x (.op k o)) (hy:VEv E y t) (ht:t≠ .any) (hk:gO O k=some (.cells ts)) (hus:Ql t=us) (hle:o+us.length≤ts.length) (hif:(P.info? tt).isSome=true) (hn:P.cellsOf tt=us.length) (hc:∀a∈us,Yw a=true) :
  OC call P E O nx ⟨d, .store tt x y,ty,ps,af,g⟩ .any ((k,some (.cells (JD ts o us)))::O) nx [k]:=⟨Nat.le_refl _,fun q p h0 σ hf own Ea h hs hu hF=>by
 subst hus
 obtain ⟨v,h1,h2⟩:=hx σ hf nx Ea hs.env
 obtain ⟨v',h3,h4⟩:=hy σ hf nx Ea hs.env
 obtain ⟨a,rfl,h5,h6⟩:=h2.opInv
 obtain ⟨N,hN1,hN2,h7⟩:=hs.objAt hk
 rw [h5] at h7
 cases h7 with
 | cells hh hodd hv =>
  rename_i es cs
  have h8:=h4.cells ht
  have h9:=h8.1
  have hcl:∀b∈v'.cells.toList,b.oneCell'=true:=by
   intro b hb
   obtain ⟨i,hi⟩:=List.getElem?_of_mem hb
   have hlt:i<(Ql t).length:=by rw [h9];exact (List.getElem?_eq_some_iff.1 hi).1
   have:=h8.2 i hlt
   rw [List.getD_eq_getElem?_getD (l:=v'.cells.toList),hi,Option.getD_some] at this
   exact this.one (hc _ (by rw [List.getD_eq_getElem?_getD,List.getElem?_eq_getElem hlt];exact List.getElem_mem hlt))
  have hown:own a=some k:=hN2 a (by simp)
  have hst:=Qav (P:=P) (t:=tt) (v:=v') (o:=o) hodd hh hif hn rfl h9.symm (by rw [← h9];have:=hv.1;omega) hcl
  refine ⟨undef,_,σ,own,X.store h1 h3 hst,Dom.old (by rw [hh];simp) _,fun _ _=>rfl,hs.upd h5 h6 hown (N:= [a]) (by simp) (by simpa using hown) (.cells (AH.upd_same _ _ _) hodd (hv.splice h8 hle)), .any _,fun b hb hnk=>AH.upd_ne _ (fun e=> ?_) _,fun b k' e=> .inl e⟩
  exact hnk k (by simp) (e▸hown)⟩
theorem Qbr {rows:List (List T)} {sz i o:Nat} {row us:List T} (hlen:∀r∈rows,r.length=sz) (hi:rows[i]? =some row) (ho:o+us.length≤sz):(rows.set i (JD row o us)).flatten=JD rows.flatten (i*sz+o) us:=by
 induction rows generalizing i with
 | nil=>simp at hi
 | cons r rs ih =>
  have hr:r.length=sz:=hlen r (by simp)
  cases i with
  | zero =>
   obtain rfl:r=row:=by simpa using hi
   simp only [List.set_cons_zero,List.flatten_cons,Nat.zero_mul,Nat.zero_add,JD]
   rw [List.take_append_of_le_length (by omega),List.drop_append_of_le_length (by omega)]
   simp only [List.append_assoc]
  | succ i =>
   have hlt:i<rs.length:=by
    have:=(List.getElem?_eq_some_iff.1 hi).1
    simpa using this
   have h1:=ih (fun x hx=>hlen x (by simp [hx])) (i:=i) (by simpa using hi)
   rw [List.set_cons_succ,List.flatten_cons,h1,List.flatten_cons]
   simp only [JD]
   have e1:(i+1)*sz+o=r.length+(i*sz+o):=by rw [Nat.add_mul];omega
   rw [e1,List.take_length_add_append,Nat.add_assoc r.length,List.drop_length_add_append]
   simp only [List.append_assoc]
theorem OC.storeP {sz k i o:Nat} {rows:List (List T)} {row us:List T} (hx:VEv E x (.orp sz k i o)) (hy:VEv E y t) (ht:t≠ .any) (hk:gO O k=some (.rows sz rows)) (hi:rows[i]? =some row) (hus:Ql t=us) (hle:o+us.length≤sz) (hif:(P.info? tt).isSome=true) (hn:P.cellsOf tt=us.length) (hc:∀a∈us,ZW a=true) (hfl:∀r∈rows,∀a∈r,ZC a=true) :
  OC call P E O nx ⟨d, .store tt x y,ty,ps,af,g⟩ .any ((k,some (.rows sz (rows.set i (JD row o us))))::O) nx [k]:=⟨Nat.le_refl _,fun q p h0 σ hf own Ea h hs hu hF=>by
 subst hus
 obtain ⟨v,h1,h2⟩:=hx σ hf nx Ea hs.env
 obtain ⟨v',h3,h4⟩:=hy σ hf nx Ea hs.env
 obtain ⟨a,rfl,h5,h6⟩:=h2.orpInv
 obtain ⟨N,hN1,hN2,h7⟩:=hs.objAt hk
 rw [h5] at h7
 cases h7 with
 | rows hh hodd hlen hfit hsl =>
  rename_i cs N
  have h8:=(h4.cells ht).pl hc
  have h9:=h8.1
  have hcl:∀b∈v'.cells.toList,b.oneCell'=true:=by
   intro b hb
   obtain ⟨j,hj⟩:=List.getElem?_of_mem hb
   have hlt:j<(Ql t).length:=by rw [h9];exact (List.getElem?_eq_some_iff.1 hj).1
   have:=h8.2 j hlt
   rw [List.getD_eq_getElem?_getD (l:=v'.cells.toList),hj,Option.getD_some] at this
   have hp:=hc _ (show (Ql t).getD j .any∈Ql t by rw [List.getD_eq_getElem?_getD,List.getElem?_eq_getElem hlt];exact List.getElem_mem hlt)
   refine this.one ?_
   generalize (Ql t).getD j .any=q at hp
   cases q<;>first | rfl | (simp [ZW] at hp;done) | skip
   rename_i b _ _
   cases b<;>first | rfl | (simp [ZW] at hp;done)
  have hown:own a=some k:=hN2 a (by simp)
  have hlt:i<rows.length:=(List.getElem?_eq_some_iff.1 hi).1
  have hf1:=Qca (sz:=sz) hlt
  have hrow:row.length=sz:=hlen row (List.mem_of_getElem? hi)
  have hst:=Qav (P:=P) (t:=tt) (v:=v') (o:=i*sz+o) hodd hh hif hn rfl h9.symm (by rw [← h9];omega) hcl
  obtain ⟨hrl,_⟩:=hsl.flat (fun t ht=>by
   obtain ⟨r,hr,htr⟩:=List.mem_flatten.1 ht
   exact hfl r hr t htr)
  have hfll:=Yc hlen
  have hnew:=hrl.splice h8 (o:=i*sz+o) (by omega)
  have hlen':∀r∈rows.set i (JD row o (Ql t)),r.length=sz:=fun r hr=>by
   rcases List.mem_or_eq_of_mem_set hr with h | rfl
   ·exact hlen r h
   ·simp [JD];omega
  refine ⟨undef,_,σ,own,X.store h1 h3 hst,Dom.old (by rw [hh];simp) _,fun _ _=>rfl,hs.upd h5 h6 hown (N:= [a]) (by simp) (by simpa using hown) ?_, .any _,fun b hb hnk=>AH.upd_ne _ (fun e=> ?_) _,fun b k' e=> .inl e⟩
  ·refine .rows (N:= []) (AH.upd_same _ _ _) hodd hlen' ?_ ?_
   ·rw [List.length_set]
    simp only [AE.splice,List.length_append,List.length_take,List.length_drop]
    omega
   ·rw [List.length_set,Qbr hlen hi hle]
    have e2:(AE.splice cs (i*sz+o) v'.cells.toList).take (rows.length*sz)=AE.splice (cs.take (rows.length*sz)) (i*sz+o) v'.cells.toList:=by
     unfold AE.splice
     rw [List.take_append,List.take_append,List.length_append,List.length_take,List.take_take,List.drop_take]
     rw [show min (rows.length*sz) (i*sz+o)=i*sz+o by omega,List.take_of_length_le (l:=v'.cells.toList) (by omega),List.take_take]
     rw [show min (i*sz+o) (rows.length*sz)=i*sz+o by omega]
     congr 2
     omega
    rw [e2]
    exact hnew.toSL
  ·exact hnk k (by simp) (e▸hown)⟩
end
end Go.Proofs.YthifchndolccgaaDoor.AE
namespace Go.Proofs.YthifchndolccgaaDoor.AE
open Go Go.RowKit
set_option linter.unusedVariables false
set_option linter.unusedSimpArgs false
section
variable {call : Qk} {P : Program} {E : Qp} {O : Qg} {d : Option Tmp} {ty tt s e xt : TypeId} {ps : String} {af : Array Edge} {g : Option (Nat × Bool)} {x y z : Operand} {t u w : T} {nx sz : Nat} {rows rows2 : List (List T)} {ks ks2 : List Nat}
theorem SL.append {hf h:AH}:∀ {ts us:List T} {vs ws:List Value} {N M:List Nat},SL hf h ts vs N→SL hf h us ws M→SL hf h (ts++us) (vs++ws) (N++M)
 | _,_,_,_,_,_, .nil,h2=>h2
 | _,_,_,_,_,_, .cons hs hr,h2=>by
  have:=SL.cons hs (SL.append hr h2)
  simpa [List.append_assoc] using this
end
end Go.Proofs.YthifchndolccgaaDoor.AE
namespace Go.Proofs.YthifchndolccgaaDoor.AE
open Go Go.RowKit
set_option linter.unusedVariables false
set_option linter.unusedSimpArgs false
theorem QaW : ∀(vs:List Value) (k off:Nat) (cells:Array Value),off+k+vs.length≤cells.size→((vs.zipIdx k).foldl (fun cs (x:Value×Nat)=>cs.setIfInBounds (off+x.2) x.1) cells).toList=splice cells.toList (off+k) vs
 | [],k,off,cells,h=>by simp [splice]
 | v::r,k,off,cells,h=>by
  simp only [List.length_cons] at h
  rw [List.zipIdx_cons,List.foldl_cons,QaW r (k+1) off _ (by simp;omega)]
  simp only [Array.toList_setIfInBounds,splice,List.length_cons]
  have hsz:cells.toList.length=cells.size:=by simp
  have hl:off+k<cells.toList.length:=by omega
  rw [show off+(k+1)=off+k+1 by omega]
  have e1:(cells.toList.set (off+k) v).take (off+k+1)=cells.toList.take (off+k)++ [v]:=by
   rw [List.take_succ_eq_append_getElem (by simpa using hl),List.take_set_of_le (Nat.le_refl _),List.getElem_set_self]
  rw [e1]
  rw [List.drop_set_of_lt (show off+k<off+k+1+r.length by omega)]
  simp only [List.append_assoc,List.cons_append,List.nil_append]
  rw [show off+k+1+r.length=off+k+(r.length+1) by omega]
theorem Qcp (v:Value) (off:Nat) (cells:Array Value) (h:off+v.cells.size≤cells.size):(v.cells.zipIdx.foldl (fun cs (x:Value×Nat)=>cs.setIfInBounds (off+x.2) x.1) cells).toList=splice cells.toList off v.cells.toList:=by
 have:=QaW v.cells.toList 0 off cells (by simpa using h)
 rw [Nat.add_zero] at this
 rw [← this,← Array.foldl_toList]
 simp [Array.toList_zipIdx]
def VLP (σ:Nat→Option Nat) (hf:AH) (nx:Nat) (ps:List (Nat×T)) (qs:List (Nat×Value)):Prop:=ps.map (·.1)=qs.map (·.1)∧VL σ hf nx (ps.map (·.2)) (qs.map (·.2))
def QaA (place:Nat→Option (Nat×Nat)) (cells:List T):List (Nat×T)→Option (List T)
 | []=>some cells
 | (i,v)::rest =>
  match place i with
  | none=>none
  | some (off,size)=>if (Ql v).length=size∧off+(Ql v).length≤cells.length then QaA place (JD cells off (Ql v)) rest else none
theorem Jn {σ:Nat→Option Nat} {hf:AH} {nx:Nat} {place:Nat→Option (Nat×Nat)}:∀ {ps:List (Nat×T)} {qs:List (Nat×Value)} {cells out:List T} {cs:Array Value},VLP σ hf nx ps qs→(∀x∈ps,x.2≠ .any)→VL σ hf nx cells cs.toList→QaA place cells ps=some out→∃o,Instr.fill place cs qs=some o∧VL σ hf nx out o.toList
 | [],qs,cells,out,cs,hp,hne,hc,h=>by
  have hq:qs= []:=by
   have:=hp.1
   simpa using this.symm
  subst hq
  obtain rfl:=Option.some.inj h
  exact ⟨cs,rfl,hc⟩
 | (i,v)::rest,[],cells,out,cs,hp,hne,hc,h=>by
  have:=hp.1
  simp at this
 | (i,v)::rest,(j,w)::qs,cells,out,cs,hp,hne,hc,h=>by
  have h1:=hp.1
  simp only [List.map_cons,List.cons.injEq] at h1
  obtain ⟨rfl,h2⟩:=h1
  obtain ⟨_,_,e,h3,h4⟩:=hp.2.tail
  simp only [List.map_cons,List.cons.injEq] at e
  obtain ⟨rfl,rfl⟩:=e
  unfold QaA at h
  unfold Instr.fill
  cases hpl:place i with
  | none=>rw [hpl] at h;cases h
  | some x =>
   obtain ⟨off,size⟩:=x
   rw [hpl] at h
   dsimp only at h ⊢
   have h5:=h3.cells (hne (i,v) (by simp))
   split at h
   ·rename_i hc2
    have hl:=hc.1
    have hl5:=h5.1
    simp only [Array.length_toList] at hl hl5
    have hfit:off+w.cells.size≤cs.size:=by omega
    rw [if_neg (by simp;omega)]
    exact Jn ⟨h2,h4⟩ (fun x hx=>hne x (by simp [hx])) (by rw [Qcp w off cs hfit];exact hc.splice h5 (by omega)) h
   ·cases h
section
variable {call : Qk} {P : Program} {E : Qp} {O : Qg} {d : Option Tmp} {ty tt s e xt : TypeId} {ps : String} {af : Array Edge} {g : Option (Nat × Bool)} {x y z : Operand} {t u w : T} {nx sz : Nat} {rows rows2 : List (List T)} {ks ks2 : List Nat}
def VEvp (E:Qp) (xs:List (Nat×Operand)) (ts:List (Nat×T)):Prop:=∀(σ:Nat→Option Nat) (hf:AH) (nx:Nat) (Ea:Nat→Value),(∀t,V σ hf nx (gE E t) (Ea t))→∃vs,evp Ea xs=some vs∧VLP σ hf nx ts vs
theorem VEvp.nil : VEvp E [] []:=fun σ hf nx Ea he=>⟨[],rfl,rfl,VL.nil _ _ _⟩
theorem VEvp.cons {i:Nat} {xs:List (Nat×Operand)} {ts:List (Nat×T)} (h:VEv E x t) (hr:VEvp E xs ts):VEvp E ((i,x)::xs) ((i,t)::ts):=fun σ hf nx Ea he=>by
 obtain ⟨v,h1,h2⟩:=h σ hf nx Ea he
 obtain ⟨vs,h3,h4⟩:=hr σ hf nx Ea he
 exact ⟨(i,v)::vs,by simp only [evp,h1,h3],by simp [h4.1],by simpa using VL.cons h2 h4.2⟩
theorem Qc3 {z:List Value} {n i:Nat} (hi:i<n):(YW z n).getD i undef=z.getD (i % z.length) undef:=by
 simp [YW,List.getD_eq_getElem?_getD,hi]
theorem JR {sz:Nat}:∀(l:List T) (k:Nat) (pre post:List T),(∀t∈l,(Ql t).length=sz)→pre.length=k*sz→post.length=l.length*sz→QaA (fun i=>some (i*sz,sz)) (pre++post) (l.zipIdx k |>.map fun x=>(x.2,x.1))=some (pre++(l.map Ql).flatten)
 | [],k,pre,post,h,hpre,hpost=>by
  have:post= []:=List.eq_nil_of_length_eq_zero (by simpa using hpost)
  subst this
  simp [QaA]
 | t::r,k,pre,post,h,hpre,hpost=>by
  have ht:=h t (by simp)
  simp only [List.length_cons,Nat.add_mul,Nat.one_mul] at hpost
  simp only [List.zipIdx_cons,List.map_cons,QaA]
  rw [if_pos ⟨ht,by rw [List.length_append];omega⟩]
  have e1:JD (pre++post) (k*sz) (Ql t)=(pre++Ql t)++post.drop sz:=by
   unfold JD
   rw [← hpre,List.take_left',ht,List.drop_length_add_append]
   rfl
  rw [e1,JR r (k+1) (pre++Ql t) (post.drop sz) (fun x hx=>h x (by simp [hx])) (by rw [List.length_append,hpre,ht,Nat.add_mul];omega) (by rw [List.length_drop];omega)]
  simp only [List.flatten_cons,List.append_assoc]
theorem OM.buildSlice {n:Nat} {pp:Array (Nat×Operand)} {l:List T} {z:Value} (hx:VEvp E pp.toList (l.zipIdx.map fun x=>(x.2,x.1))) (hl:l.length=n) (hpos:0<n) (hne:∀t∈l,t≠ .any) (hpl:∀t∈l,∀c∈Ql t,ZW c=true) (hlen:∀t∈l,(Ql t).length=sz) (hu:P.underlying tt=some (.slice e)) (hz:QH P e=some z) (hall:z.cells.all closed1=true) (hs:z.cells.size=P.cellsOf e) (hp:0<P.cellsOf e) (hsz:P.cellsOf e=sz) (hb:n*sz≤16777216) :
  OM call P E nx ⟨d, .buildSlice tt n pp,ty,ps,af,g⟩ (.os sz nx 0 n) (.rows sz (l.map Ql)):=fun q σ hf Ea he=>by
 subst hsz
 subst hl
 obtain ⟨vs,h1,h2⟩:=hx σ hf nx Ea he
 -- trees of the zero cells are of no matter: all is filled
 obtain ⟨zs,hzs⟩:∃zs:List T,VL σ hf nx zs (YW z.cells.toList (l.length*P.cellsOf e)):=⟨List.replicate (l.length*P.cellsOf e) .any,by simp [QU],fun i hi=>by
  rw [List.length_replicate] at hi
  rw [List.getD_eq_getElem?_getD,List.getElem?_replicate,if_pos hi]
  exact .any _⟩
 have hzl:=hzs.1
 rw [QU] at hzl
 have hfill:=JR l 0 [] zs hlen (by simp) hzl
 rw [List.nil_append,List.nil_append] at hfill
 obtain ⟨o,h3,h4⟩:=Jn (cs:=(YW z.cells.toList (l.length*P.cellsOf e)).toArray) h2 (fun x hx=>by
  obtain ⟨y,hy,rfl⟩:=List.mem_map.1 hx
  exact hne _ (List.fst_mem_of_mem_zipIdx hy)) (by simpa using hzs) hfill
 have hrows:∀r∈l.map Ql,r.length=P.cellsOf e:=fun r hr=>by
  obtain ⟨x,hx,rfl⟩:=List.mem_map.1 hr
  exact hlen x hx
 have hrl:RL hf (l.map Ql).flatten o.toList:=h4.pl fun c hc=>by
  obtain ⟨r,hr,hcr⟩:=List.mem_flatten.1 hc
  obtain ⟨x,hx,rfl⟩:=List.mem_map.1 hr
  exact hpl x hx c hcr
 refine ⟨.slice (some ⟨Qb q,0,none⟩) l.length 1, .cells (P.cellsOf e) o.toList,some (Qb q),[Qb q],fun h=>X.buildSlice h1 ?_, .inl ⟨rfl,rfl⟩,?_,fun h=> ?_⟩
 ·simp only [Ze,hu,hz]
  rw [if_pos ⟨hp,hb,hall,hs⟩,h3,if_neg (by omega)]
  rfl
 ·have:=V.os (σ:=fun k=>if k=nx then some (Qb q) else σ k) (hf:=hf) (nx:=nx+1) (a:=Qb q) (P.cellsOf e) nx 0 l.length 1 (by omega) (by simp) (by omega)
  rwa [Nat.zero_mul] at this
 ·have hfl:=Yc hrows
  have hol:=hrl.1
  rw [hfl] at hol
  refine .rows (N:= []) (AH.upd_same _ _ _) (YI q) hrows (by omega) ?_
  rw [List.take_of_length_le (by omega)]
  exact hrl.toSL
theorem OL.sliceSLo {st:ByteArray} {a:Int} {i:Nat} {ka:IntKind} (hx:VEv E x (.str st)) (hy:VEv E y (.int ka a)) (ha:a=i) (h1:i≤st.size) (hu:P.underlying tt=some .string):OL call P E O ⟨d, .slice tt x (some y) none none,ty,ps,af,g⟩ (.str (st.extract i st.size)):=fun q p h0 σ hf own nx Ea h hs=>by
 subst ha
 obtain ⟨v,e1,e2⟩:=hx σ hf nx Ea hs.env
 obtain ⟨v',e3,e4⟩:=hy σ hf nx Ea hs.env
 obtain rfl:=e2.strInv
 obtain rfl:=e4.intInv
 refine ⟨_,X.sliceLo e1 e3 ?_, .fz (.str _)⟩
 simp [ZA,hu,bnd,h1]
theorem OL.sliceSHi {st:ByteArray} {b:Int} {j:Nat} {kb:IntKind} (hx:VEv E x (.str st)) (hz:VEv E z (.int kb b)) (hb:b=j) (h2:j≤st.size) (hu:P.underlying tt=some .string):OL call P E O ⟨d, .slice tt x none (some z) none,ty,ps,af,g⟩ (.str (st.extract 0 j)):=fun q p h0 σ hf own nx Ea h hs=>by
 subst hb
 obtain ⟨v,e1,e2⟩:=hx σ hf nx Ea hs.env
 obtain ⟨v'',e5,e6⟩:=hz σ hf nx Ea hs.env
 obtain rfl:=e2.strInv
 obtain rfl:=e6.intInv
 refine ⟨_,X.sliceHi e1 e5 ?_, .fz (.str _)⟩
 simp [ZA,hu,bnd,h2]
end
end Go.Proofs.YthifchndolccgaaDoor.AE
namespace Go.Proofs.YthifchndolccgaaDoor.AE
open Go Go.RowKit
set_option linter.unusedVariables false
set_option linter.unusedSimpArgs false
def RES (p:Nat) (h h':AH) (r:T) (v:Value):Prop:=∃N,S (fun _=>none) h' r v N∧N.Nodup∧∀a∈N,Under p a∧h a=none
def Pure (call:Qk) (f:FuncId) (ts:List T) (r:T):Prop:=∀(h:AH) (p:Nat) (vs:List Value),Fr p h→RL h ts vs→CallS call f vs h p (fun v h'=>Quiet h h'∧RES p h h' r v)
def Lend (O:Qg) (t t':T):Prop:=∀(p:Nat) (h0:LB) (σ:Nat→Option Nat) (hf:AH) (own:Nat→Option Nat) (E:Qp) (nx:Nat) (Ea:Nat→Value) (h:AH) (v:Value),SR p h0 σ hf own E O nx Ea h→V σ hf nx t v→R h t' v
def LendL (O:Qg) (ts ts':List T):Prop:=ts.length=ts'.length∧∀i,i<ts.length→Lend O (ts.getD i .any) (ts'.getD i .any)
section
variable {O : Qg} {t t' : T} {ts ts' : List T}
theorem SR.fr {p nx:Nat} {h0:LB} {hf h:AH} {σ own:Nat→Option Nat} {E:Qp} {Ea:Nat→Value} (hs:SR p h0 σ hf own E O nx Ea h):∀a o,hf a=some o→h a=some o:=fun a o ho=>(hs.fro a o ho).1
theorem Lend.pl (h:ZW t=true):Lend O t t:=fun p h0 σ hf own E nx Ea H v hs hv=>(hv.pl h).mono hs.fr
theorem LendL.nil : LendL O [] []:=⟨rfl,fun i hi=>by simp at hi⟩
theorem LendL.cons (h:Lend O t t') (hr:LendL O ts ts'):LendL O (t::ts) (t'::ts'):=by
 refine ⟨by simp [hr.1],fun i hi=> ?_⟩
 cases i with
 | zero=>simpa using h
 | succ i=>simpa using hr.2 i (by simpa using hi)
theorem LendL.V {p nx:Nat} {h0:LB} {hf h:AH} {σ own:Nat→Option Nat} {E:Qp} {Ea:Nat→Value} {vs:List Value} (hl:LendL O ts ts') (hs:SR p h0 σ hf own E O nx Ea h) (hv:VL σ hf nx ts vs):RL h ts' vs :=
 ⟨by rw [← hl.1];exact hv.1,fun i hi=>hl.2 i (by rw [hl.1];exact hi) p h0 σ hf own E nx Ea h _ hs (hv.2 i (by rw [hl.1];exact hi))⟩
theorem Lend.os {sz k n:Nat} {rows rows':List (List T)} (hk:gO O k=some (.rows sz rows)) (hn:n=rows.length) (hz:JA rows=rows'):Lend O (.os sz k 0 n) (.sl false sz rows'):=fun p h0 σ hf own E nx Ea h v hs hv=>by
 subst hn
 subst hz
 obtain ⟨N,hN1,hN2,h3⟩:=hs.objAt hk
 obtain ⟨hk',⟨a,m,rfl,h4,h5⟩ | ⟨h4,_,h5,h6⟩⟩:=hv.osInv
 ·rw [h4] at h3
  cases h3 with
  | rows hh hodd hlen hfit hsl =>
   have hS:=S.ow sz rows m h5 hh hodd hlen hfit hsl
   have:=hS.fzR hs.fr (fun _ _ _ e=>e)
   rw [Nat.zero_mul]
   simpa only [fz] using this
 ·obtain rfl:=List.eq_nil_of_length_eq_zero h5
  rcases h6 with rfl | ⟨a,o,rfl⟩
  ·exact .sl0 sz
  ·exact .sle sz a o 0
theorem Lend.agg (hl:LendL O ts ts'):Lend O (.agg ts) (.agg ts'):=fun p h0 σ hf own E nx Ea h v hs hv=>by
 obtain ⟨l,rfl,h1⟩:=hv.aggL
 have h2:=hl.V hs h1
 exact .agg _ _ (by simpa using h2.1) (Jm h2)
end
mutual
def adopt : Nat→T→T×List Obj
 | n, .sl true sz rows=>(.os sz n 0 rows.length,[.rows sz rows])
 | n, .agg ts=>(.agg (adoptL n ts).1,(adoptL n ts).2)
 | n, .tup ts=>(.tup (adoptL n ts).1,(adoptL n ts).2)
 | _, .sl false sz rows=>(.sl false sz rows,[])
 | _, .any=>(.any,[])
 | _, .bool b=>(.bool b,[])
 | _, .int k n=>(.int k n,[])
 | _, .str s=>(.str s,[])
 | _, .ptr0=>(.ptr0,[])
 | _, .fn0=>(.fn0,[])
 | _, .nils=>(.nils,[])
 | _, .fn f cs=>(.fn f cs,[])
 | _, .rp cs=>(.rp cs,[])
 | _, .os sz k lo n=>(.os sz k lo n,[])
 | _, .op k o=>(.op k o,[])
 | _, .orp sz k i o=>(.orp sz k i o,[])
 | _, .om k=>(.om k,[])
 | _, .vp cs=>(.vp cs,[])
def adoptL : Nat→List T→List T×List Obj
 | _,[]=>([],[])
 | n,t::r=>((adopt n t).1::(adoptL (n+(adopt n t).2.length) r).1,(adopt n t).2++(adoptL (n+(adopt n t).2.length) r).2)
end
def Ya : Qg→Nat→List Obj→Qg
 | O,_,[]=>O
 | O,n,o::r=>Ya ((n,some o)::O) (n+1) r
theorem YH : ∀(a:List Obj) (O:Qg) (n:Nat) (b:List Obj),Ya O n (a++b)=Ya (Ya O n a) (n+a.length) b
 | [],O,n,b=>by simp [Ya]
 | o::r,O,n,b=>by
  rw [List.cons_append,Ya,Ya,YH r,List.length_cons,show n+1+r.length=n+(r.length+1) by omega]
theorem ZZ : ∀(ts:List T) (n:Nat),(∀i,i<ts.length→∀n,adopt n (ts.getD i .any)=(ts.getD i .any,[]))→adoptL n ts=(ts,[])
 | [],n,_=>rfl
 | t::r,n,h=>by
  have h1:=h 0 (by simp) n
  simp only [List.getD_cons_zero] at h1
  unfold adoptL
  rw [h1,ZZ r _ (fun i hi n=>by simpa using h (i+1) (by simpa using hi) n)]
  rfl
theorem Qdo {hf:AH} {t:T} {v:Value} (h:R hf t v):∀n,adopt n t=(t,[]):=by
 induction h with
 | agg ts vs hs _ ih=>intro n;unfold adopt;rw [ZZ ts n ih]
 | tup ts vs hs _ ih=>intro n;unfold adopt;rw [ZZ ts n ih]
 | _=>intro n;rfl
mutual
theorem S.names {hf h:AH}:∀ {t:T} {v:Value} {N:List Nat},S hf h t v N→∀a∈N,h a≠none
 | _,_,_, .fz hr,a,ha=>by cases ha
 | _,_,_, .ow0 sz,a,ha=>by cases ha
 | _,_,_, .owe sz b o,a,ha=>by cases ha
 | _,_,_, .ow sz rows m hm hk hodd hlen hfit hs,a,ha=>by
  rcases List.mem_cons.1 ha with rfl | ha
  ·rw [hk];simp
  ·exact SL.names hs a ha
 | _,_,_, .agg hs,a,ha=>SL.names hs a ha
 | _,_,_, .tup hs,a,ha=>SL.names hs a ha
theorem SL.names {hf h:AH}:∀ {t:List T} {v:List Value} {N:List Nat},SL hf h t v N→∀a∈N,h a≠none
 | _,_,_, .nil,a,ha=>by cases ha
 | _,_,_, .cons hs hr,a,ha=>(List.mem_append.1 ha).elim (S.names hs a) (SL.names hr a)
end
section
variable {p : Nat} {h0 : LB} {hf h : AH} {E : Qp} {Ea : Nat → Value}
open Classical in
theorem SR.take1 {σ own:Nat→Option Nat} {O:Qg} {nx:Nat} {oa:Option Nat} {N:List Nat} {obj:Obj} (hs:SR p h0 σ hf own E O nx Ea h) (hnd:N.Nodup) (hN:∀a∈N,UL p h0 a∧h0.h a=none∧h a≠none∧hf a=none∧own a=none) (ho:∀σ' nx',ObjR σ' hf nx' h obj oa N) :
    SR p h0 (fun k=>if k=nx then oa else σ k) hf (fun a=>if a∈N then some nx else own a) E ((nx,some obj)::O) (nx+1) Ea h:=by
  have hx:=hs.ext (nx':=nx+1) (σ':=fun k=>if k=nx then oa else σ k) (own':=fun a=>if a∈N then some nx else own a) (h':=h) (by omega) (Qc4 _)
    (fun a k ha=>by
      have:a∉N:=fun hn=>by rw [(hN a hn).2.2.2.2] at ha;cases ha
      simp only [if_neg this]
      exact ha)
    (fun a k ha=>by
      split at ha
      · rename_i hn
        obtain ⟨h1,h2,h3,h4,h5⟩:=hN a hn
        obtain rfl:=Option.some.inj ha
        exact .inr ⟨h1,h2,h3,by omega,h4⟩
      · exact .inl ha)
    (fun _ _=>rfl) hs.dom
  refine ⟨hx.env,fun k o hk=> ?_,hx.fro,hx.mine,hx.base,hx.dom⟩
  simp only [gO] at hk
  split at hk
  · rename_i e
    subst e
    obtain rfl:=Option.some.inj hk
    exact ⟨by omega,N,hnd,fun a ha=>by simp only [if_pos ha],by simpa using ho _ _⟩
  · exact hx.obj k o hk
def Qdz (p:Nat) (h0:LB) (hf h:AH) (own:Nat→Option Nat) (N:List Nat):Prop:=∀a∈N,UL p h0 a∧h0.h a=none∧h a≠none∧hf a=none∧own a=none
mutual
theorem S.adopt : ∀ {t:T} {v:Value} {N:List Nat} {σ own:Nat→Option Nat} {O:Qg} {nx:Nat},S (fun _=>none) h t v N→SR p h0 σ hf own E O nx Ea h→N.Nodup→Qdz p h0 hf h own N →
  ∃σ' own',SR p h0 σ' hf own' E (Ya O nx (adopt nx t).2) (nx+(adopt nx t).2.length) Ea h∧(∀k,k<nx→σ' k=σ k)∧V σ' hf (nx+(adopt nx t).2.length) (AE.adopt nx t).1 v∧(∀a,a∉N→own' a=own a)
 | t,v,_,σ,own,O,nx, .fz hr,hs,hnd,hfr=>by
  rw [Qdo hr]
  exact ⟨σ,own,hs,fun _ _=>rfl, .fz (hr.mono (fun a o e=>by cases e)),fun _ _=>rfl⟩
 | _,_,_,σ,own,O,nx, .ow0 sz,hs,hnd,hfr=>by
  have:=hs.take1 (oa:=none) (N:= []) (obj:= .rows sz []) (by simp) (by simp) (fun _ _=> .none sz)
  exact ⟨_,_,this,Qc4 _, .os0 sz nx (by simp [AE.adopt]) (by simp),fun a ha=>by simp⟩
 | _,_,_,σ,own,O,nx, .owe sz b o,hs,hnd,hfr=>by
  have:=hs.take1 (oa:=none) (N:= []) (obj:= .rows sz []) (by simp) (by simp) (fun _ _=> .none sz)
  exact ⟨_,_,this,Qc4 _, .ose sz nx b o (by simp [AE.adopt]) (by simp),fun a ha=>by simp⟩
 | _,_,_,σ,own,O,nx, .ow (a:=a) (N:=N) sz rows m hm hk hodd hlen hfit hsl,hs,hnd,hfr=>by
  have:=hs.take1 (oa:=some a) (N:=a::N) (obj:= .rows sz rows) hnd hfr (fun _ _=> .rows hk hodd hlen hfit (hsl.mono (fun a o e=>by cases e) (fun _ _=>rfl)))
  refine ⟨_,_,this,Qc4 _,?_,fun a ha=>by simp only [if_neg ha]⟩
  have h2:=V.os (σ:=fun k=>if k=nx then some a else σ k) (hf:=hf) (nx:=nx+1) (a:=a) sz nx 0 rows.length m (by omega) (by simp) hm
  rw [Nat.zero_mul] at h2
  exact h2
 | _,_,_,σ,own,O,nx, .agg (ts:=ts) hsl,hs,hnd,hfr=>by
  obtain ⟨σ',own',h1,h2,h3,h4⟩:=SL.adopt hsl hs hnd hfr
  unfold AE.adopt
  exact ⟨σ',own',h1,h2,h3.toAgg,h4⟩
 | _,_,_,σ,own,O,nx, .tup (ts:=ts) hsl,hs,hnd,hfr=>by
  obtain ⟨σ',own',h1,h2,h3,h4⟩:=SL.adopt hsl hs hnd hfr
  unfold AE.adopt
  exact ⟨σ',own',h1,h2,h3.toTup,h4⟩
theorem SL.adopt : ∀ {t:List T} {v:List Value} {N:List Nat} {σ own:Nat→Option Nat} {O:Qg} {nx:Nat},SL (fun _=>none) h t v N→SR p h0 σ hf own E O nx Ea h→N.Nodup→Qdz p h0 hf h own N →
  ∃σ' own',SR p h0 σ' hf own' E (Ya O nx (adoptL nx t).2) (nx+(adoptL nx t).2.length) Ea h∧(∀k,k<nx→σ' k=σ k)∧VL σ' hf (nx+(adoptL nx t).2.length) (AE.adoptL nx t).1 v∧(∀a,a∉N→own' a=own a)
 | _,_,_,σ,own,O,nx, .nil,hs,hnd,hfr=>⟨σ,own,hs,fun _ _=>rfl,VL.nil _ _ _,fun _ _=>rfl⟩
 | _,_,_,σ,own,O,nx, .cons (t:=t) (ts:=ts) (N:=N) (M:=M) h1 h2,hs,hnd,hfr=>by
  rw [List.nodup_append] at hnd
  obtain ⟨σ1,own1,a1,a2,a3,a4⟩:=S.adopt h1 hs hnd.1 (fun a ha=>hfr a (by simp [ha]))
  have hdis:∀a∈M,a∉N:=fun a ha hn=>hnd.2.2 a hn a ha rfl
  obtain ⟨σ2,own2,b1,b2,b3,b4⟩:=SL.adopt h2 a1 hnd.2.1 (fun a ha=>by
   obtain ⟨g1,g2,g3,g4,g5⟩:=hfr a (by simp [ha])
   exact ⟨g1,g2,g3,g4,(a4 a (hdis a ha)).trans g5⟩)
  unfold AE.adoptL
  simp only [YH,List.length_append,← Nat.add_assoc]
  refine ⟨σ2,own2,b1,fun k hk=>(b2 k (by omega)).trans (a2 k hk), .cons (a3.mono (fun _ _ e=>e) (by omega) b2) b3,fun a ha=> ?_⟩
  rw [b4 a (fun hm=>ha (by simp [hm])),a4 a (fun hm=>ha (by simp [hm]))]
end
end
section
variable {call : Qk} {P : Program} {E : Qp} {O : Qg} {d : Option Tmp} {ty tt s e xt : TypeId} {ps : String} {af : Array Edge} {g : Option (Nat × Bool)} {x y z : Operand} {t u w : T} {nx sz : Nat} {rows rows2 : List (List T)} {ks ks2 : List Nat}
theorem OC.callX {f:FuncId} {o:Oper} {us:List T} {r r':T} {objs:List Obj} (ho:∀(q p:Nat) (h0:LB) (σ:Nat→Option Nat) (hf:AH) (own:Nat→Option Nat) (Ea:Nat→Value) (h:AH),SR p h0 σ hf own E O nx Ea h→∃vs,Yj P q Ea h o=some (.enter f vs)∧RL h us vs) (hp:Pure call f us r) (had:adopt nx r=(r',objs)) :
  OC call P E O nx o r' (Ya O nx objs) (nx+objs.length) []:=⟨Nat.le_add_right _ _,fun q p h0 σ hf own Ea h hs hu hF=>by
 obtain ⟨vs,h1,h2⟩:=ho q p h0 σ hf own Ea h hs
 have h3:=hp h q vs hF h2
 unfold CallS at h3
 obtain ⟨v,h',h4,h5,h6,N,h7,h8,h9⟩:=h3
 have hfn:∀a,h a=none→hf a=none:=fun a ha=>by
  cases hh:hf a with
  | none=>rfl
  | some o=>rw [(hs.fro _ _ hh).1] at ha;cases ha
 have h0n:∀a,h a=none→h0.h a=none:=fun a ha=>by
  cases hh:h0.h a with
  | none=>rfl
  | some o =>
   have e1:=hs.base a (by rw [hh];simp)
   rw [hfn a ha,hh] at e1
   cases e1
 have hs':=hs.ext (nx':=nx) (σ':=σ) (own':=own) (h':=h') (Nat.le_refl _) (fun _ _=>rfl) (fun _ _ e=>e) (fun _ _ e=> .inl e) h6 (fun a ha=>by
  rcases h5 a ha with e | e
  ·exact hs.dom a e
  ·exact .inr (hu a e))
 obtain ⟨σ',own',b1,b2,b3,b4⟩:=S.adopt h7 hs' h8 (fun a ha=>by
  obtain ⟨g1,g2⟩:=h9 a ha
  refine ⟨hu a g1,h0n a g2,h7.names a ha,hfn a g2,?_⟩
  cases hh:own a with
  | none=>rfl
  | some k=>exact absurd g2 (hs.mine a k hh).2.2.1)
 rw [had] at b1 b3
 refine ⟨v,h',σ',own',by simp only [Qh,h1,h4],h5,b2,b1,b3,fun a ha _=>h6 a ha,fun a k hk=> ?_⟩
 by_cases hn:a∈N
 ·exact .inr (.inl (h9 a hn).2)
 ·rw [b4 a hn] at hk
  exact .inl hk⟩
theorem OC.callF {f:FuncId} {args:Array Operand} {tys:Array TypeId} {ts us:List T} {r r':T} {objs:List Obj} (hb:Yh P f=true) (ha:VEvs E args.toList ts) (hl:LendL O ts us) (hp:Pure call f us r) (had:adopt nx r=(r',objs)) :
  OC call P E O nx ⟨d, .call ⟨.value (.func f),args,tys⟩,ty,ps,af,g⟩ r' (Ya O nx objs) (nx+objs.length) []:=OC.callX (fun q p h0 σ hf own Ea h hs=>by
 obtain ⟨vs,h1,h2⟩:=ha σ hf nx Ea hs.env
 exact ⟨vs,X.calls hb h1,hl.V hs h2⟩) hp had
end
end Go.Proofs.YthifchndolccgaaDoor.AE
namespace Go.Proofs.YthifchndolccgaaDoor.AE
open Go Go.RowKit
set_option linter.unusedVariables false
set_option linter.unusedSimpArgs false
mutual
theorem S.clean {hf hf' h:AH}:∀ {t:T} {v:Value} {N:List Nat},S hf h t v N→Clean t→S hf' h t v N
 | _,_,_, .fz hr,hc=> .fz (hr.clean hc hf')
 | _,_,_, .ow0 sz,hc=> .ow0 sz
 | _,_,_, .owe sz a o,hc=> .owe sz a o
 | _,_,_, .ow sz rows m hm hk hodd hlen hfit hs, .sl _ _ hc=> .ow sz rows m hm hk hodd hlen hfit (SL.clean hs (fun t ht=>by
   obtain ⟨r,hr,htr⟩:=List.mem_flatten.1 ht
   exact hc r hr t htr))
 | _,_,_, .agg hs, .agg _ hc=> .agg (SL.clean hs hc)
 | _,_,_, .tup hs, .tup _ hc=> .tup (SL.clean hs hc)
theorem SL.clean {hf hf' h:AH}:∀ {t:List T} {v:List Value} {N:List Nat},SL hf h t v N→(∀x∈t,Clean x)→SL hf' h t v N
 | _,_,_, .nil,hc=> .nil
 | _,_,_, .cons hs hr,hc=> .cons (S.clean hs (hc _ (by simp))) (SL.clean hr (fun x hx=>hc x (by simp [hx])))
end
def Give (O:Qg) (ks:List Nat) (t r:T):Prop:=∀(p:Nat) (h0:LB) (σ:Nat→Option Nat) (hf:AH) (own:Nat→Option Nat) (E:Qp) (nx:Nat) (Ea:Nat→Value) (h:AH) (v:Value),SR p h0 σ hf own E O nx Ea h→V σ hf nx t v→∃N,S (fun _=>none) h r v N∧N.Nodup∧∀a∈N,∃k∈ks,own a=some k
def GiveL (O:Qg) (ks:List Nat) (ts rs:List T):Prop:=∀(p:Nat) (h0:LB) (σ:Nat→Option Nat) (hf:AH) (own:Nat→Option Nat) (E:Qp) (nx:Nat) (Ea:Nat→Value) (h:AH) (vs:List Value),SR p h0 σ hf own E O nx Ea h→VL σ hf nx ts vs→∃N,SL (fun _=>none) h rs vs N∧N.Nodup∧∀a∈N,∃k∈ks,own a=some k
section
variable {O : Qg} {ks ks2 : List Nat} {t r : T} {ts rs : List T}
theorem Give.pl (h:ZW t=true) (hc:Clean t):Give O [] t t:=fun p h0 σ hf own E nx Ea H v hs hv=>⟨[], .fz ((hv.pl h).clean hc _),by simp,by simp⟩
theorem Give.bool (b:Bool):Give O [] (.bool b) (.bool b):= .pl rfl (.bool b)
theorem Give.int (k:IntKind) (n:Int):Give O [] (.int k n) (.int k n):= .pl rfl (.int k n)
theorem Give.str (s:ByteArray):Give O [] (.str s) (.str s):= .pl rfl (.str s)
theorem Give.os {sz k n:Nat} {rows:List (List T)} (hk:gO O k=some (.rows sz rows)) (hn:n=rows.length) (hc:∀r∈rows,∀t∈r,Clean t):Give O [k] (.os sz k 0 n) (.sl true sz rows):=fun p h0 σ hf own E nx Ea h v hs hv=>by
 subst hn
 obtain ⟨N,hN1,hN2,h3⟩:=hs.objAt hk
 obtain ⟨hk',⟨a,m,rfl,h4,h5⟩ | ⟨h4,_,h5,h6⟩⟩:=hv.osInv
 ·rw [h4] at h3
  cases h3 with
  | rows hh hodd hlen hfit hsl =>
   rename_i cs N
   rw [Nat.zero_mul]
   exact ⟨a::N, .ow sz rows m h5 hh hodd hlen hfit (hsl.clean (fun t ht=>by
    obtain ⟨r,hr,htr⟩:=List.mem_flatten.1 ht
    exact hc r hr t htr)),hN1,fun b hb=>⟨k,by simp,hN2 b hb⟩⟩
 ·obtain rfl:=List.eq_nil_of_length_eq_zero h5
  rcases h6 with rfl | ⟨a,o,rfl⟩
  ·exact ⟨[], .ow0 sz,by simp,by simp⟩
  ·exact ⟨[], .owe sz a o,by simp,by simp⟩
theorem GiveL.nil : GiveL O [] [] []:=fun p h0 σ hf own E nx Ea h vs hs hv=>by
 obtain rfl:=List.eq_nil_of_length_eq_zero hv.1.symm
 exact ⟨[], .nil,by simp,by simp⟩
theorem GiveL.cons (h1:Give O ks t r) (h2:GiveL O ks2 ts rs) (hd:∀k∈ks,k∉ks2):GiveL O (ks++ks2) (t::ts) (r::rs):=fun p h0 σ hf own E nx Ea h vs hs hv=>by
 obtain ⟨v,l,rfl,g1,g2⟩:=hv.tail
 obtain ⟨N,a1,a2,a3⟩:=h1 p h0 σ hf own E nx Ea h v hs g1
 obtain ⟨M,b1,b2,b3⟩:=h2 p h0 σ hf own E nx Ea h l hs g2
 refine ⟨N++M, .cons a1 b1,?_,fun a ha=> ?_⟩
 ·rw [List.nodup_append]
  refine ⟨a2,b2,fun a ha b hb e=> ?_⟩
  subst e
  obtain ⟨k,hk,e1⟩:=a3 a ha
  obtain ⟨k2,hk2,e2⟩:=b3 a hb
  rw [e1] at e2
  exact hd k hk (by rw [Option.some.inj e2];exact hk2)
 ·rcases List.mem_append.1 ha with ha | ha
  ·obtain ⟨k,hk,e⟩:=a3 a ha
   exact ⟨k,by simp [hk],e⟩
  ·obtain ⟨k,hk,e⟩:=b3 a ha
   exact ⟨k,by simp [hk],e⟩
theorem Give.agg (h:GiveL O ks ts rs):Give O ks (.agg ts) (.agg rs):=fun p h0 σ hf own E nx Ea H v hs hv=>by
 obtain ⟨l,rfl,h1⟩:=hv.aggL
 obtain ⟨N,a1,a2,a3⟩:=h p h0 σ hf own E nx Ea H l hs h1
 exact ⟨N, .agg a1,a2,a3⟩
end
inductive VRes (P:Program) (E:Qp) (O:Qg):List ResultVar→List T→Prop
 | nil:VRes P E O [] []
 | tmp {a:Tmp} {t:T} {rs:List ResultVar} {ts:List T} (h:gE E a=t) (hr:VRes P E O rs ts):VRes P E O (.tmp a::rs) (t::ts)
 | cell1 {a:Tmp} {tt:TypeId} {k o:Nat} {us:List T} {t:T} {rs:List ResultVar} {ts:List T} (h:gE E a= .op k o) (hk:gO O k=some (.cells us)) (ht:us[o]? =some t) (hst:Qj P tt=some false) (hr:VRes P E O rs ts):VRes P E O (.cell a tt::rs) (t::ts)
 | celln {a:Tmp} {tt:TypeId} {k o n:Nat} {us ws:List T} {rs:List ResultVar} {ts:List T} (h:gE E a= .op k o) (hk:gO O k=some (.cells us)) (hst:Qj P tt=some true) (hn:P.cellsOf tt=n) (hle:o+n≤us.length) (hu:(us.drop o).take n=ws) (hr:VRes P E O rs ts):VRes P E O (.cell a tt::rs) (.agg ws::ts)
def Qds : List T→T
 | [t]=>t
 | l=> .tup l
theorem V.aload1 {P:Program} {p nx:Nat} {h0:LB} {hf h:AH} {σ own:Nat→Option Nat} {E:Qp} {O:Qg} {Ea:Nat→Value} {tt:TypeId} {k o:Nat} {us:List T} {t:T} {v:Value} (hs:SR p h0 σ hf own E O nx Ea h) (hv:V σ hf nx (.op k o) v) (hk:gO O k=some (.cells us)) (ht:us[o]? =some t) (hst:Qj P tt=some false) :
  ∃w,Zz P tt h v=some w∧V σ hf nx t w:=by
 obtain ⟨a,rfl,h3,h4⟩:=hv.opInv
 obtain ⟨N,hN1,hN2,h5⟩:=hs.objAt hk
 rw [h3] at h5
 cases h5 with
 | cells hh hodd hv =>
  rename_i es cs
  have hlt:o<us.length:=(List.getElem?_eq_some_iff.1 ht).1
  have hlt':o<cs.length:=by rw [← hv.1];exact hlt
  have h6:=hv.2 o hlt
  rw [List.getD_eq_getElem?_getD,ht,List.getD_eq_getElem?_getD,List.getElem?_eq_getElem hlt'] at h6
  exact ⟨cs[o],Jk hst hh (List.getElem?_eq_getElem hlt'),h6⟩
theorem V.aloadn {P:Program} {p nx:Nat} {h0:LB} {hf h:AH} {σ own:Nat→Option Nat} {E:Qp} {O:Qg} {Ea:Nat→Value} {tt:TypeId} {k o n:Nat} {us:List T} {v:Value} (hs:SR p h0 σ hf own E O nx Ea h) (hv:V σ hf nx (.op k o) v) (hk:gO O k=some (.cells us)) (hst:Qj P tt=some true) (hn:P.cellsOf tt=n) (hle:o+n≤us.length) :
  ∃w,Zz P tt h v=some w∧V σ hf nx (.agg ((us.drop o).take n)) w:=by
 obtain ⟨a,rfl,h3,h4⟩:=hv.opInv
 obtain ⟨N,hN1,hN2,h5⟩:=hs.objAt hk
 rw [h3] at h5
 cases h5 with
 | cells hh hodd hv =>
  rename_i es cs
  have hl:=hv.1
  refine ⟨_,Y2 hst hn hh (by omega) rfl,VL.toAgg ⟨by simp;omega,fun i hi=> ?_⟩⟩
  have hi':i<n:=by simp at hi;omega
  have:=hv.2 (o+i) (by omega)
  rw [List.getD_eq_getElem?_getD,List.getElem?_take,if_pos hi',List.getElem?_drop,← List.getD_eq_getElem?_getD,List.getD_eq_getElem?_getD (l:=List.take _ _),List.getElem?_take,if_pos hi',List.getElem?_drop,← List.getD_eq_getElem?_getD]
  exact this
theorem VRes.run {P:Program} {p nx:Nat} {h0:LB} {hf h:AH} {σ own:Nat→Option Nat} {E:Qp} {O:Qg} {Ea:Nat→Value} (hs:SR p h0 σ hf own E O nx Ea h) {rs:List ResultVar} {ts:List T} (hr:VRes P E O rs ts):∃l,ZP P h Ea rs=some l∧VL σ hf nx ts l:=by
 induction hr with
 | nil=>exact ⟨[],rfl,VL.nil _ _ _⟩
 | tmp h1 _ ih =>
  obtain ⟨l,h2,h3⟩:=ih
  exact ⟨_,QcS rfl h2, .cons (h1▸hs.env _) h3⟩
 | cell1 h1 hk ht hst _ ih =>
  obtain ⟨l,h2,h3⟩:=ih
  obtain ⟨w,h4,h5⟩:=V.aload1 hs (h1▸hs.env _) hk ht hst
  exact ⟨_,Qau rfl h4 h2, .cons h5 h3⟩
 | celln h1 hk hst hn hle hu _ ih =>
  obtain ⟨l,h2,h3⟩:=ih
  obtain ⟨w,h4,h5⟩:=V.aloadn hs (h1▸hs.env _) hk hst hn hle
  subst hu
  exact ⟨_,Qau rfl h4 h2, .cons h5 h3⟩
def vfin (P:Program) (rs:List ResultVar) (r:T):AX→Qp→Qg→Nat→Prop
 | .exit _,_,_,_=>False
 | _,E,O,_=>∃ts ks,VRes P E O rs ts∧Give O ks (Qds ts) r
theorem vfin.r {P:Program} {rs:List ResultVar} {r:T} {E:Qp} {O:Qg} {nx:Nat} {ts:List T} {ks:List Nat} (h:VRes P E O rs ts) (hg:Give O ks (Qds ts) r):vfin P rs r .ret E O nx:=⟨ts,ks,h,hg⟩
theorem Qac {hf h:AH} {t:T} {v:Value} {N:List Nat} (hs:S hf h t v N) (hc:closed1 v=true):N= []∧∀h',S hf h' t v []:=by
 cases hs with
 | fz hr=>exact ⟨rfl,fun _=> .fz hr⟩
 | ow0 sz=>exact ⟨rfl,fun _=> .ow0 sz⟩
 | owe sz a o=>simp [closed1] at hc
 | ow sz rows m hm hk hodd hlen hfit hs=>simp [closed1] at hc
 | agg hs=>simp [closed1] at hc
 | tup hs=>simp [closed1] at hc
theorem ZF {hf h:AH}:∀ {ts:List T} {vs:List Value} {N:List Nat},SL hf h ts vs N→vs.all closed1=true→N= []∧∀h',SL hf h' ts vs []
 | _,_,_, .nil,_=>⟨rfl,fun _=> .nil⟩
 | _,_,_, .cons hs hr,hc=>by
  rw [List.all_cons,Bool.and_eq_true] at hc
  obtain ⟨rfl,h1⟩:=Qac hs hc.1
  obtain ⟨rfl,h2⟩:=ZF hr hc.2
  exact ⟨rfl,fun h'=> .cons (N:= []) (M:= []) (h1 h') (h2 h')⟩
theorem JG {hf h:AH} {t:T} {v:Value} {N:List Nat} (hs:S hf h t v N) (hc:Qx v=true):N= []∧∀h',S hf h' t v []:=by
 cases hs with
 | fz hr=>exact ⟨rfl,fun _=> .fz hr⟩
 | ow0 sz=>exact ⟨rfl,fun _=> .ow0 sz⟩
 | owe sz a o=>simp [Qx,closedV,closed1] at hc
 | ow sz rows m hm hk hodd hlen hfit hs=>simp [Qx,closedV,closed1] at hc
 | agg hs =>
  obtain ⟨rfl,h1⟩:=ZF hs (by simpa [Qx,closedV] using hc)
  exact ⟨rfl,fun h'=> .agg (h1 h')⟩
 | tup hs =>
  obtain ⟨rfl,h1⟩:=ZF hs (by simpa [Qx] using hc)
  exact ⟨rfl,fun h'=> .tup (h1 h')⟩
def Qco : Nat→List T→Qp
 | _,[]=> []
 | n,t::r=>(n,t)::Qco (n+1) r
theorem QbW : ∀(ts:List T) (n i:Nat),gE (Qco n ts) i=if i<n then .any else ts.getD (i - n) .any
 | [],n,i=>by simp [Qco,gE]
 | t::r,n,i=>by
  simp only [Qco,gE,QbW r]
  by_cases h:i=n
  ·subst h;simp
  ·by_cases h2:i<n
   ·simp [h,h2,show i<n+1 by omega]
   ·have e:i - n=(i - (n+1))+1:=by omega
    rw [if_neg h,if_neg (by omega),if_neg h2,e,List.getD_cons_succ]
theorem Pure.intro {P:Program} {f:FuncId} {fn:Func} {c:Code} {n:Nat} {ts:List T} {r:T} (hf:P.funcs[f]? =some fn) (hb:fn.body=some c) (hc:QD fn.ntmps c=true) {rs:List ResultVar} (hrs:fn.results.toList=rs) {E0:Qp} (hE:Qco 0 ts=E0) (hr:VRun (Qo P n) P c E0 [] 0 (vfin P rs r)) (hpr:Y3 f=true:=by rfl):Pure (Qo P (n+1)) f ts r:=by
 subst hE
 intro h p vs hfr hvs
 have hs:SR p ⟨h,fun _=>False⟩ (fun _=>none) h (fun _=>none) (Qco 0 ts) [] 0 (fun t=>vs.getD t undef) h:=by
  refine ⟨fun t=> ?_,fun k o hk=>(by cases hk),fun a o ha=>⟨ha,rfl⟩,fun a k ha=>(by cases ha),fun _ _=>rfl,fun t ht=> .inl ht⟩
  rw [QbW,if_neg (by omega),Nat.sub_zero]
  rcases Nat.lt_or_ge t ts.length with h1 | h1
  ·exact .fz (hvs.2 t h1)
  ·rw [List.getD_eq_getElem?_getD,List.getElem?_eq_none h1]
   exact .any _
 unfold VRun at hr
 refine CallS.intro (hpr:=hpr) (Q:=fun v h'=>Quiet h h'∧RES p h h' r v) hf hb hc hfr hrs (Run.mono (hr p _ _ h _ _ h 0 hs) ?_)
 rintro e s' ⟨σ,hf',own,E,O,nx,h1,h2⟩
 have key:(∃ts ks,VRes P E O rs ts∧Give O ks (Qds ts) r)→∃l,ZP P s'.h s'.E rs=some l∧(fun v h'=>Quiet h h'∧RES p h h' r v) (ZV l) (if Qx (ZV l) then ZU h s'.h else Ja p h s'.h):=by
  rintro ⟨us,ks,g1,g2⟩
  obtain ⟨l,g3,g4⟩:=g1.run h1
  have g5:V σ hf' nx (Qds us) (ZV l):=by
   have hlen:=g4.1
   match us,l,g4,hlen with
   | [],[],g4,_=>exact g4.toTup
   | [t],[v],g4,_ =>
    obtain ⟨v',r',e,g6,_⟩:=g4.tail
    cases e
    exact g6
   | t::t'::us,v::v'::l,g4,_=>exact g4.toTup
   | [],_::_,_,hl=>cases hl
   | [_],[],_,hl=>cases hl
   | [_],_::_::_,_,hl=>cases hl
   | _::_::_,[],_,hl=>cases hl
   | _::_::_,[_],_,hl=>cases hl
  obtain ⟨N,g6,g7,g8⟩:=g2 p _ σ hf' own E nx s'.E s'.h _ h1 g5
  have hq:Quiet h s'.h:=fun a ha=>by
   have e1:hf' a=h a:=h1.base a ha
   obtain ⟨o,ho⟩:=Option.ne_none_iff_exists'.1 ha
   rw [ho] at e1
   rw [(h1.fro a o e1).1,ho]
  refine ⟨l,g3,?_⟩
  by_cases ht:Qx (ZV l)=true
  ·rw [if_pos ht,Qbh hq]
   obtain ⟨rfl,g9⟩:=JG g6 ht
   exact ⟨Quiet.refl _,[],g9 h,by simp,by simp⟩
  ·rw [if_neg ht]
   have hN:∀a∈N,Under p a∧h a=none:=fun a ha=>by
    obtain ⟨k,_,e⟩:=g8 a ha
    exact ⟨(h1.mine a k e).1.elim id (fun z=>z.elim),(h1.mine a k e).2.1⟩
   exact ⟨QbI hq,N,g6.mono (fun _ _ e=>e) (fun a ha=>Qb1 (.inr (hN a ha).1)),g7,hN⟩
 cases e with
 | normal=>unfold fin;exact key h2
 | ret=>unfold fin;exact key h2
 | exit id=>exact h2.elim
mutual
def ren (f:Nat→Nat):T→T
 | .os sz k lo n=> .os sz (f k) lo n
 | .op k o=> .op (f k) o
 | .orp sz k i o=> .orp sz (f k) i o
 | .om k=> .om (f k)
 | .vp ts=> .vp (Qa7 f ts)
 | .agg ts=> .agg (Qa7 f ts)
 | .tup ts=> .tup (Qa7 f ts)
 | .fn g ts=> .fn g (Qa7 f ts)
 | .sl b sz rows=> .sl b sz rows
 | .any=> .any
 | .bool b=> .bool b
 | .int k n=> .int k n
 | .str s=> .str s
 | .ptr0=> .ptr0
 | .fn0=> .fn0
 | .nils=> .nils
 | .rp cs=> .rp cs
def Qa7 (f:Nat→Nat):List T→List T
 | []=> []
 | t::r=>ren f t::Qa7 f r
end
mutual
def Zw (n:Nat):T→Bool
 | .os _ k _ _=>decide (k<n)
 | .op k _=>decide (k<n)
 | .orp _ k _ _=>decide (k<n)
 | .om k=>decide (k<n)
 | .vp ts=>Z7 n ts
 | .agg ts=>Z7 n ts
 | .tup ts=>Z7 n ts
 | .fn _ ts=>Z7 n ts
 | .sl _ _ _=>true
 | .any=>true
 | .bool _=>true
 | .int _ _=>true
 | .str _=>true
 | .ptr0=>true
 | .fn0=>true
 | .nils=>true
 | .rp _=>true
def Z7 (n:Nat):List T→Bool
 | []=>true
 | t::r=>Zw n t && Z7 n r
end
theorem QQ (f:Nat→Nat) (l:List T):Qa7 f l=l.map (ren f):=by
 induction l with
 | nil=>rfl
 | cons t r ih=>simp only [Qa7,List.map_cons,ih]
theorem Zu (n:Nat) (l:List T):Z7 n l=l.all (Zw n):=by
 induction l with
 | nil=>rfl
 | cons t r ih=>simp only [Z7,List.all_cons,ih]
theorem R.ren {hf:AH} {t u:T} {v:Value} {f:Nat→Nat} (h:R hf u v) (e:ren f t=u):R hf t v:=by
 induction h generalizing t with
 | agg ts vs hs h1 ih =>
  cases t<;>simp only [AE.ren] at e<;>first | cases e | skip
  rename_i us
  rw [QQ] at hs ih
  refine .agg us vs (by simpa using hs) (fun i hi=>ih i (by simpa using hi) ?_)
  simp [List.getD_eq_getElem?_getD,hi]
 | tup ts vs hs h1 ih =>
  cases t<;>simp only [AE.ren] at e<;>first | cases e | skip
  rename_i us
  rw [QQ] at hs ih
  refine .tup us vs (by simpa using hs) (fun i hi=>ih i (by simpa using hi) ?_)
  simp [List.getD_eq_getElem?_getD,hi]
 | fn g ts vs hs h1 ih =>
  cases t<;>simp only [AE.ren] at e<;>first | cases e | skip
  rename_i us
  rw [QQ] at hs ih
  refine .fn _ us vs (by simpa using hs) (fun i hi=>ih i (by simpa using hi) ?_)
  simp [List.getD_eq_getElem?_getD,hi]
 | bool b=>cases t<;>simp only [AE.ren] at e<;>cases e;exact .bool _
 | int k n=>cases t<;>simp only [AE.ren] at e<;>cases e;exact .int _ _
 | str s=>cases t<;>simp only [AE.ren] at e<;>cases e;exact .str _
 | ptr0=>cases t<;>simp only [AE.ren] at e<;>cases e;exact .ptr0
 | fn0=>cases t<;>simp only [AE.ren] at e<;>cases e;exact .fn0
 | nils=>cases t<;>simp only [AE.ren] at e<;>cases e;exact .nils
 | sl0 sz=>cases t<;>simp only [AE.ren] at e<;>cases e;exact .sl0 _
 | sle sz a o m=>cases t<;>simp only [AE.ren] at e<;>cases e;exact .sle _ _ _ _
 | sl sz rows o m hm hk hes hlen hfit h1 _=>cases t<;>simp only [AE.ren] at e<;>cases e;exact .sl _ _ _ _ hm hk hes hlen hfit h1
 | rp ts o hk hfit h1 _=>cases t<;>simp only [AE.ren] at e<;>cases e;exact .rp _ _ hk hfit h1
theorem V.ren {σ σ':Nat→Option Nat} {hf:AH} {nx nx':Nat} {f:Nat→Nat} {t u:T} {v:Value} (hσ:∀k,k<nx'→σ' k=σ (f k)) (h:V σ hf nx u v) (e:ren f t=u) (hl:Zw nx' t=true):V σ' hf nx' t v:=by
 induction h generalizing t with
 | any v =>
  cases t<;>simp only [AE.ren] at e<;>first | cases e | skip
  exact .any v
 | fz hr=>exact .fz (hr.ren e)
 | os sz k lo n m hk hs hm =>
  cases t<;>simp only [AE.ren] at e<;>first | cases e | skip
  rename_i k'
  simp only [Zw,decide_eq_true_eq] at hl
  exact .os _ _ _ _ m hl ((hσ _ hl).trans hs) hm
 | os0 sz k hk hs =>
  cases t<;>simp only [AE.ren] at e<;>first | cases e | skip
  simp only [Zw,decide_eq_true_eq] at hl
  exact .os0 _ _ hl ((hσ _ hl).trans hs)
 | ose sz k a o hk hs =>
  cases t<;>simp only [AE.ren] at e<;>first | cases e | skip
  simp only [Zw,decide_eq_true_eq] at hl
  exact .ose _ _ a o hl ((hσ _ hl).trans hs)
 | op k o hk hs =>
  cases t<;>simp only [AE.ren] at e<;>first | cases e | skip
  simp only [Zw,decide_eq_true_eq] at hl
  exact .op _ _ hl ((hσ _ hl).trans hs)
 | orp sz k i o hk hs =>
  cases t<;>simp only [AE.ren] at e<;>first | cases e | skip
  simp only [Zw,decide_eq_true_eq] at hl
  exact .orp _ _ _ _ hl ((hσ _ hl).trans hs)
 | om k hk hs =>
  cases t<;>simp only [AE.ren] at e<;>first | cases e | skip
  simp only [Zw,decide_eq_true_eq] at hl
  exact .om _ hl ((hσ _ hl).trans hs)
 | vp ts o hk hfit h1 ih =>
  cases t<;>simp only [AE.ren] at e<;>first | cases e | skip
  rename_i us
  rw [QQ] at hfit ih
  simp only [Zw,Zu,List.all_eq_true] at hl
  refine .vp us o hk (by simpa using hfit) (fun i hi=>ih i (by simpa using hi) ?_ (hl _ ?_))
  ·simp [List.getD_eq_getElem?_getD,hi]
  ·rw [List.getD_eq_getElem?_getD,List.getElem?_eq_getElem hi];exact List.getElem_mem hi
 | agg ts vs hs h1 ih =>
  cases t<;>simp only [AE.ren] at e<;>first | cases e | skip
  rename_i us
  rw [QQ] at hs ih
  simp only [Zw,Zu,List.all_eq_true] at hl
  refine .agg us vs (by simpa using hs) (fun i hi=>ih i (by simpa using hi) ?_ (hl _ ?_))
  ·simp [List.getD_eq_getElem?_getD,hi]
  ·rw [List.getD_eq_getElem?_getD,List.getElem?_eq_getElem hi];exact List.getElem_mem hi
 | tup ts vs hs h1 ih =>
  cases t<;>simp only [AE.ren] at e<;>first | cases e | skip
  rename_i us
  rw [QQ] at hs ih
  simp only [Zw,Zu,List.all_eq_true] at hl
  refine .tup us vs (by simpa using hs) (fun i hi=>ih i (by simpa using hi) ?_ (hl _ ?_))
  ·simp [List.getD_eq_getElem?_getD,hi]
  ·rw [List.getD_eq_getElem?_getD,List.getElem?_eq_getElem hi];exact List.getElem_mem hi
 | fn g ts vs hs h1 ih =>
  cases t<;>simp only [AE.ren] at e<;>first | cases e | skip
  rename_i us
  rw [QQ] at hs ih
  simp only [Zw,Zu,List.all_eq_true] at hl
  refine .fn _ us vs (by simpa using hs) (fun i hi=>ih i (by simpa using hi) ?_ (hl _ ?_))
  ·simp [List.getD_eq_getElem?_getD,hi]
  ·rw [List.getD_eq_getElem?_getD,List.getElem?_eq_getElem hi];exact List.getElem_mem hi
def Qdc (f:Nat→Nat):Obj→Obj
 | .cells ts=> .cells (Qa7 f ts)
 | o=>o
def QcR (n:Nat):Obj→Bool
 | .cells ts=>Z7 n ts
 | _=>true
open Classical in
theorem Wk.mk {E:Qp} {O:Qg} {nx:Nat} {E':Qp} {O':List (Nat×Obj)} {nx':Nat} (f:Nat→Nat) (hE:∀x∈E',gE E x.1=ren f x.2∧Zw nx' x.2=true) (hO:∀x∈O',gO O (f x.1)=some (Qdc f x.2)∧x.1<nx'∧QcR nx' x.2=true) (hinj:(O'.map fun x=>f x.1).Nodup) :
  Wk E O nx E' (O'.map fun x=>(x.1,some x.2)) nx':=fun p h0 σ hf own Ea h hs=>by
 have hget:∀(L:List (Nat×Obj)) k o,gO (L.map fun x=>(x.1,some x.2)) k=some o→(k,o)∈L:=by
  intro L k o
  induction L with
  | nil=>intro h;cases h
  | cons x r ih =>
   intro h
   simp only [List.map_cons,gO] at h
   split at h
   ·rename_i e
    obtain rfl:=Option.some.inj h
    subst e
    exact List.mem_cons_self
   ·exact List.mem_cons_of_mem _ (ih h)
 have hgetE:∀(L:Qp) t,gE L t= .any∨(t,gE L t)∈L:=by
  intro L t
  induction L with
  | nil=>exact .inl rfl
  | cons x r ih =>
   obtain ⟨d,v⟩:=x
   simp only [gE]
   split
   ·rename_i e
    subst e
    exact .inr List.mem_cons_self
   ·exact ih.imp id (List.mem_cons_of_mem _)
 have hunq:∀x∈O',∀y∈O',f x.1=f y.1→x=y:=by
  clear hE hO hget hgetE
  induction O' with
  | nil=>intro x hx;cases hx
  | cons z r ih =>
   simp only [List.map_cons,List.nodup_cons,List.mem_map,not_exists,not_and] at hinj
   intro x hx y hy e
   rcases List.mem_cons.1 hx with rfl | hx2<;>rcases List.mem_cons.1 hy with rfl | hy2
   ·rfl
   ·exact absurd e.symm (hinj.1 y hy2)
   ·exact absurd e (hinj.1 x hx2)
   ·exact ih hinj.2 x hx2 y hy2 e
 let fk:Nat→Option Nat:=fun k=>if h:∃x∈O',f x.1=k then some h.choose.1 else none
 have hfk:∀x∈O',fk (f x.1)=some x.1:=fun x hx=>by
  have hex:∃y∈O',f y.1=f x.1:=⟨x,hx,rfl⟩
  show (if h:∃y∈O',f y.1=f x.1 then some h.choose.1 else none)=_
  rw [dif_pos hex]
  obtain ⟨h1,h2⟩:=hex.choose_spec
  rw [hunq _ h1 _ hx h2]
 have hfk2:∀k k',fk k=some k'→∃x∈O',x.1=k'∧f x.1=k:=fun k k' hk=>by
  by_cases hex:∃x∈O',f x.1=k
  ·have:fk k=some hex.choose.1:=dif_pos hex
   rw [this] at hk
   obtain rfl:=Option.some.inj hk
   exact ⟨_,hex.choose_spec.1,rfl,hex.choose_spec.2⟩
  ·have:fk k=none:=dif_neg hex
   rw [this] at hk;cases hk
 refine ⟨fun k=>if k<nx' then σ (f k) else none,hf,fun a=>(own a).bind fk,fun t=> ?_,fun k o hk=> ?_,fun a o ha=> ?_,fun a k ha=> ?_,hs.base,hs.dom⟩
 ·have hσ:∀k,k<nx'→(fun k=>if k<nx' then σ (f k) else none) k=σ (f k):=fun k hk=>if_pos hk
  rcases hgetE E' t with h1 | h1
  ·rw [h1];exact .any _
  ·obtain ⟨h2,h3⟩:=hE _ h1
   have h4:=hs.env t
   simp only at h2
   rw [h2] at h4
   exact h4.ren hσ rfl h3
 ·have h1:=hget O' k o hk
  obtain ⟨h2,h3,h4⟩:=hO _ h1
  obtain ⟨h5,N,h6,h7,h8⟩:=hs.obj _ _ h2
  refine ⟨h3,N,h6,fun a ha=>by simp only [h7 a ha,Option.bind_some];exact hfk _ h1,?_⟩
  simp only at h3 h4 h8 ⊢
  rw [if_pos h3]
  cases o with
  | cells ts =>
   simp only [Qdc] at h8
   generalize σ (f k)=oa at h8
   cases h8 with
   | cells hh hodd hv =>
    refine .cells hh hodd ⟨by have:=hv.1;rw [QQ] at this;simpa using this,fun i hi=> ?_⟩
    have h9:=hv.2 i (by rw [QQ];simpa using hi)
    rw [QQ] at h9
    simp only [QcR,Zu,List.all_eq_true] at h4
    refine h9.ren (fun k hk=>if_pos hk) (t:=ts.getD i .any) ?_ (h4 _ ?_)
    ·simp [List.getD_eq_getElem?_getD,hi]
    ·rw [List.getD_eq_getElem?_getD,List.getElem?_eq_getElem hi];exact List.getElem_mem hi
  | rows sz rows =>
   simp only [Qdc] at h8
   generalize σ (f k)=oa at h8
   cases h8 with
   | none sz=>exact .none sz
   | rows hh hodd hlen hfit hsl=>exact .rows hh hodd hlen hfit hsl
  | map es =>
   simp only [Qdc] at h8
   generalize σ (f k)=oa at h8
   cases h8 with
   | map hh hodd g1 g2=>exact .map hh hodd g1 g2
  | rowsN sz rows asg =>
   simp only [Qdc] at h8
   generalize σ (f k)=oa at h8
   cases h8 with
   | noneN sz=>exact .noneN sz
   | rowsN hh hodd hlen hfit hsl=>exact .rowsN hh hodd hlen hfit hsl
 ·obtain ⟨h1,h2⟩:=hs.fro a o ha
  exact ⟨h1,by simp only [h2,Option.bind_none]⟩
 ·obtain ⟨k0,e1,e2⟩:=Option.bind_eq_some_iff.1 ha
  obtain ⟨h1,h2,h3,_⟩:=hs.mine a k0 e1
  obtain ⟨x,hx,rfl,_⟩:=hfk2 k0 k e2
  exact ⟨h1,h2,h3,(hO x hx).2.1⟩
attribute [irreducible] vfin
end Go.Proofs.YthifchndolccgaaDoor.AE
namespace Go.Proofs.YthifchndolccgaaDoor.AE
open Go Go.RowKit
set_option linter.unusedVariables false
set_option linter.unusedSimpArgs false
structure EncOk {α:Type} (e:Bool→α→List T) (sz:Nat):Prop where
 len:∀m x,(e m x).length=sz
 cl:∀x,∀t∈e true x,Clean t
 fz:∀m x,fzL (e m x)=e false x
 ok:∀m x,∀t∈e m x,QbK t=true
 pl:∀x,∀t∈e false x,ZW t=true
def Jh (m:Bool) (n:Int):List T:= [.int .i64 n]
def QE (m:Bool) (n:Int):List T:= [.int .u8 n]
def Qe6 (m:Bool) (s:ByteArray):List T:= [.str s]
def eSl {α:Type} (sz:Nat) (e:Bool→α→List T) (m:Bool) (l:List α):List T:= [.sl m sz (l.map (e m))]
theorem Qe8 : EncOk Jh 1:=⟨fun _ _=>rfl,by simp [Jh,Clean.int],fun _ _=>rfl,by simp [Jh,QbK],by simp [Jh,ZW]⟩
theorem okByte : EncOk QE 1:=⟨fun _ _=>rfl,by simp [QE,Clean.int],fun _ _=>rfl,by simp [QE,QbK],by simp [QE,ZW]⟩
theorem EncOk.fzMap {α:Type} {e:Bool→α→List T} {sz:Nat} (h:EncOk e sz) (m:Bool) (l:List α):JA (l.map (e m))=l.map (e false):=by
 rw [JX,List.map_map]
 exact List.map_congr_left fun x _=>h.fz m x
theorem EncOk.cleanMap {α:Type} {e:Bool→α→List T} {sz:Nat} (h:EncOk e sz) (l:List α):∀r∈l.map (e true),∀t∈r,Clean t:=fun r hr t ht=>by
 obtain ⟨x,_,rfl⟩:=List.mem_map.1 hr
 exact h.cl x t ht
theorem EncOk.lenMap {α:Type} {e:Bool→α→List T} {sz:Nat} (h:EncOk e sz) (m:Bool) (l:List α):∀r∈l.map (e m),r.length=sz:=fun r hr=>by
 obtain ⟨x,_,rfl⟩:=List.mem_map.1 hr
 exact h.len m x
theorem Qax {t:T} (h:ZW t=true):ZC t=true:=by
 cases t<;>first | rfl | (simp [ZW] at h;done) | skip
 rename_i b _ _
 cases b<;>first | rfl | simp [ZW] at h
theorem QJ {α β:Type} {l:List α} {i:Nat} {a:α} (f:α→β) (h:l[i]? =some a):(l.map f)[i]? =some (f a):=by rw [List.getElem?_map,h];rfl
def Qdy {α:Type} (e:Bool→α→List T):Prop:=∀m x,e m x=e false x
theorem Qd4 : Qdy QE:=fun _ _=>rfl
abbrev tI (n:Int):T:= .int .i64 n
abbrev tN (n:Nat):T:= .int .i64 (n:Int)
abbrev tB (b:Bool):T:= .bool b
abbrev tS (s:ByteArray):T:= .str s
abbrev rd {α:Type} (sz:Nat) (e:Bool→α→List T) (l:List α):T:= .sl false sz (l.map (e false))
def RK {α:Type} (d:AK α) (e:Bool→α→List T):Prop:=∀(h:AH) (a:α) (cs:List Value),d.R h a cs→RL h (e false a) cs
theorem Qbu : RK (AK.int .i64) Jh:=fun h a cs hr=>by
 obtain rfl:cs=_:=hr
 exact RL.cons (.int _ _) (RL.nil _)
theorem QdG : RK AK.string Qe6:=fun h a cs hr=>by
 obtain rfl:cs=_:=hr
 exact RL.cons (.str _) (RL.nil _)
theorem RL.append {hf:AH} {ts us:List T} {vs ws:List Value} (h:RL hf ts vs) (h2:RL hf us ws):RL hf (ts++us) (vs++ws):=by
 have:=(h.toSL (h:=hf)).append (h2.toSL (h:=hf))
 rw [List.append_nil] at this
 refine ⟨by simp [h.1,h2.1],fun i hi=> ?_⟩
 rcases Nat.lt_or_ge i ts.length with g1 | g1
 ·have:=h.2 i g1
  rw [List.getD_eq_getElem?_getD,List.getD_eq_getElem?_getD] at this ⊢
  rwa [List.getElem?_append_left g1,List.getElem?_append_left (by rw [← h.1];exact g1)]
 ·rw [List.length_append] at hi
  have:=h2.2 (i - ts.length) (by omega)
  rw [List.getD_eq_getElem?_getD,List.getD_eq_getElem?_getD] at this ⊢
  rwa [List.getElem?_append_right g1,List.getElem?_append_right (by rw [← h.1];exact g1),← h.1]
theorem JZ {α β:Type} {d:AK α} {d':AK β} {e:Bool→α→List T} {e':Bool→β→List T} (h:RK d e) (h':RK d' e'):RK (AK.pair d d') (fun m x=>e m x.1++e' m x.2):=fun H a cs hr=>by
 obtain ⟨c,c',rfl,h1,h2⟩:=hr
 exact RL.append (h H _ _ h1) (h' H _ _ h2)
theorem QdI {α β:Type} {d:AK α} {f:β→α} {e:Bool→β→List T} {e':Bool→α→List T} (h:RK d e') (he:∀x,e' false (f x)=e false x):RK (AK.iso d f) e:=fun H a cs hr=>by
 rw [← he]
 exact h H _ _ hr
theorem QeB {α:Type} {d:AK α} {e:Bool→α→List T} {sz:Nat} (hk:RK d e) (ho:EncOk e sz) (hsz:d.sz=sz) {h:AH} {l:List α} {v:Value} (hs:SlR d h l v):R h (.sl false sz (l.map (e false))) v:=by
 subst hsz
 rcases hs with ⟨rfl,rfl | ⟨k,o,m,rfl⟩⟩ | ⟨k,o,m,es,arr,rfl,hm,hl,hh,hes,hfit,hrow⟩
 ·exact .sl0 _
 ·exact .sle _ _ _ _
 ·have hlen:=ho.lenMap false l
  rw [show l.length=(l.map (e false)).length by simp]
  refine .sl d.sz _ o m hm hh hes hlen (by simpa using hfit) (fun i hi=> ?_)
  rw [List.length_map] at hi
  have hsz:0<d.sz:=by
   rcases Nat.eq_zero_or_pos d.sz with h0 | h0
   ·rw [h0] at hi;omega
   ·exact h0
  have hq:i / d.sz<l.length:=Nat.div_lt_of_lt_mul (by rwa [Nat.mul_comm] at hi)
  have hqq:i / d.sz*d.sz+i % d.sz=i:=by rw [Nat.mul_comm];exact Nat.div_add_mod i d.sz
  have hr:=hk h _ _ (hrow _ _ (List.getElem?_eq_getElem hq))
  have e1:=YJ hlen (i:=i / d.sz) (j:=i % d.sz) (QJ (e false) (List.getElem?_eq_getElem hq)) (Nat.mod_lt _ hsz)
  rw [hqq] at e1
  rw [e1]
  have h2:=hr.2 (i % d.sz) (by rw [ho.len];exact Nat.mod_lt _ hsz)
  rw [List.getD_eq_getElem?_getD (l:=List.take _ _),List.getElem?_take,if_pos (Nat.mod_lt _ hsz),List.getElem?_drop,← List.getD_eq_getElem?_getD] at h2
  rw [show o+i=o+i / d.sz*d.sz+i % d.sz by omega]
  exact h2
theorem Qe0 {α:Type} {d:AK α} {e:Bool→α→List T} {sz:Nat} (hk:RK d e) (ho:EncOk e sz) (hsz:d.sz=sz):RK (AK.slice d) (eSl sz e):=fun h a cs hr=>by
 obtain ⟨v,rfl,hs⟩:=hr
 exact RL.cons (QeB hk ho hsz hs) (RL.nil _)
section
variable {call : Qk} {P : Program} {ops : Array Oper} {B : List (List Nat)} {l : List Oper} {E : Qp} {O O' Ob OL1 : Qg} {nx nx' nb i i' : Nat} {q : Bool} {al : List (Nat × Nat × Obj)} {fl bi ks : List Nat} {t : T} {obj : Obj} {K : Qp → Qg → Nat → Prop} {d : Tmp} {op : Op} {ty : TypeId} {ps : String} {af : Array Edge} {g : Option (Nat × Bool)}
theorem VEv.tmpB {a:Tmp} {b c:Bool} (h:gE E a= .bool b) (hb:b=c):VEv E (.tmp a) (.bool c):=VEv.tmp (hb▸h)
theorem VWant.on {dd:Option Tmp} {j:Nat} {q:Tmp} {w b:Bool} (hd:(ops[j]?).bind (·.dst)=some q) (hq:gE E q= .bool b) (hb:b=w):VWant ops E ⟨dd,op,ty,ps,af,some (j,w)⟩ true:=by
 have:=VWant.guard (ops:=ops) (E:=E) (d:=dd) (op:=op) (ty:=ty) (ps:=ps) (af:=af) (w:=w) hd hq
 rw [hb] at this
 simpa using this
theorem VWant.not {dd:Option Tmp} {j:Nat} {q:Tmp} {w b:Bool} (hd:(ops[j]?).bind (·.dst)=some q) (hq:gE E q= .bool b) (hb:b= !w):VWant ops E ⟨dd,op,ty,ps,af,some (j,w)⟩ false:=by
 have:=VWant.guard (ops:=ops) (E:=E) (d:=dd) (op:=op) (ty:=ty) (ps:=ps) (af:=af) (w:=w) hd hq
 rw [hb] at this
 cases w<;>simpa using this
theorem VWant.undef {dd:Option Tmp} {j:Nat} {q:Tmp} {w:Bool} (hd:(ops[j]?).bind (·.dst)=some q) (hq:gE E q= .tup []):VWant ops E ⟨dd,op,ty,ps,af,some (j,w)⟩ false:=fun σ hf nx Ea he=>by
 have h1:=he q
 rw [hq] at h1
 obtain ⟨vs,h2,h3⟩:=h1.tupL
 simp only [QF,hd,h2]
theorem vfin.eq {rs:List ResultVar} {r r':T} {e:AX} (h:r'=r) (hf:vfin P rs r' e E O nx):vfin P rs r e E O nx:=h▸hf
end
section
variable {call : Qk} {P : Program} {ops : Array Oper} {B : List (List Nat)} {l : List Oper} {E : Qp} {O O' Ob : Qg} {nx nx' nb i i' : Nat} {q : Bool} {al : List (Nat × Nat × Obj)} {fl ks : List Nat} {t r : T} {K : Qp → Qg → Nat → Prop} {d : Option Tmp} {op : Op} {ty : TypeId} {ps : String} {af : Array Edge} {j : Nat} {k : Tmp} {w b b' : Bool} {a : Tmp} {n n' : Int}
theorem oO (hd:(ops[j]?).bind (·.dst)=some k) (hq:gE E k= .bool b) (hb:b= !w) (hk:VRunO call P ops l (pE E d (.tup [])) O nx K):VRunO call P ops (⟨d,op,ty,ps,af,some (j,w)⟩::l) E O nx K:=VRunO.off (VWant.not hd hq hb) hk
theorem oD (hd:(ops[j]?).bind (·.dst)=some k) (hq:gE E k= .bool b) (hb:b= !w) (hi:i+1=i') (hk:VRunD call P ops B l i' (pE E d (.tup [])) O Ob nx nb q al fl K):VRunD call P ops B (⟨d,op,ty,ps,af,some (j,w)⟩::l) i E O Ob nx nb q al fl K:=VRunD.off hi (VWant.not hd hq hb) hk
theorem uD (hd:(ops[j]?).bind (·.dst)=some k) (hq:gE E k= .tup []) (hi:i+1=i') (hk:VRunD call P ops B l i' (pE E d (.tup [])) O Ob nx nb q al fl K):VRunD call P ops B (⟨d,op,ty,ps,af,some (j,w)⟩::l) i E O Ob nx nb q al fl K:=VRunD.off hi (VWant.undef hd hq) hk
theorem gF (hb:b=w) (hd:(ops[j]?).bind (·.dst)=some k) (hq:gE E k= .bool b) (hx:OF call P E ⟨d,op,ty,ps,af,some (j,w)⟩ t) (hk:VRunO call P ops l (pE E d t) O nx K):VRunO call P ops (⟨d,op,ty,ps,af,some (j,w)⟩::l) E O nx K:=VRunO.free (VWant.on hd hq hb) hx hk
theorem gL (hb:b=w) (hd:(ops[j]?).bind (·.dst)=some k) (hq:gE E k= .bool b) (hx:OL call P E O ⟨d,op,ty,ps,af,some (j,w)⟩ t) (hk:VRunO call P ops l (pE E d t) O nx K):VRunO call P ops (⟨d,op,ty,ps,af,some (j,w)⟩::l) E O nx K:=VRunO.look (VWant.on hd hq hb) hx hk
theorem vb (h:gE E a= .bool b') (he:b'=b):vfin P [.tmp a] (.bool b) .ret E O nx:=he▸vfin.r (VRes.tmp h VRes.nil) (Give.bool _)
theorem vi (h:gE E a= .int .i64 n') (he:n'=n):vfin P [.tmp a] (.int .i64 n) .ret E O nx:=he▸vfin.r (VRes.tmp h VRes.nil) (Give.int _ _)
theorem lg {α:Type} {e:Bool→α→List T} {sz:Nat} {x:α} (ok:EncOk e sz):Lend O (.agg (e false x)) (.agg (e false x)):=Lend.agg ⟨rfl,fun i hi=>Lend.pl (ok.pl x _ (by rw [List.getD_eq_getElem?_getD,List.getElem?_eq_getElem hi];exact List.getElem_mem hi))⟩
theorem lp {t:T} {ts ts':List T} (h:ZW t=true) (hr:LendL O ts ts'):LendL O (t::ts) (t::ts'):=LendL.cons (Lend.pl h) hr
theorem cS {f:FuncId} {args:Array Operand} {tys:Array TypeId} {g:Option (Nat×Bool)} {ts us:List T} (ha:VEvs E args.toList ts) (hl:LendL O ts us) (hp:Pure call f us r) (hb:Yh P f=true) (had:adopt nx r=(r,[])):OC call P E O nx ⟨d, .call ⟨.value (.func f),args,tys⟩,ty,ps,af,g⟩ r O nx []:=OC.callF hb ha hl hp had
theorem vc {x:Operand} {xs:List Operand} {t:T} {ts:List T} (h:VEv E x t) (hr:VEvs E xs ts):VEvs E (x::xs) (t::ts):=VEvs.cons h hr
end
end Go.Proofs.YthifchndolccgaaDoor.AE
namespace Go.Proofs.YthifchndolccgaaDoor.AE
open Go Go.RowKit
set_option linter.unusedVariables false
set_option linter.unusedSimpArgs false
section
variable {call : Qk} {P : Program} {E : Qp} {O : Qg} {d : Option Tmp} {ty tt s e xt : TypeId} {ps : String} {af : Array Edge} {g : Option (Nat × Bool)} {x y z : Operand} {t u w : T} {nx sz : Nat} {rows rows2 : List (List T)} {ks ks2 : List Nat} {k : IntKind} {a b : Int} {c : Bool} {n : Int} {xt : TypeId}
theorem B.add (hx:VEv E x (.int k a)) (hy:VEv E y (.int k b)) (he:k.wrap (a+b)=n):OF call P E ⟨d, .binOp .add tt x y xt,ty,ps,af,g⟩ (.int k n):=he▸OF.bin hx hy (.int _ _) (.int _ _) (QdN ..) (.int _ _)
theorem B.sub (hx:VEv E x (.int k a)) (hy:VEv E y (.int k b)) (he:k.wrap (a - b)=n):OF call P E ⟨d, .binOp .sub tt x y xt,ty,ps,af,g⟩ (.int k n):=he▸OF.bin hx hy (.int _ _) (.int _ _) (QdQ ..) (.int _ _)
theorem B.mul (hx:VEv E x (.int k a)) (hy:VEv E y (.int k b)) (he:k.wrap (a*b)=n):OF call P E ⟨d, .binOp .mul tt x y xt,ty,ps,af,g⟩ (.int k n):=he▸OF.bin hx hy (.int _ _) (.int _ _) (QdW ..) (.int _ _)
theorem B.lss (hx:VEv E x (.int k a)) (hy:VEv E y (.int k b)) (he:decide (a<b)=c):OF call P E ⟨d, .binOp .lss tt x y xt,ty,ps,af,g⟩ (.bool c):=he▸OF.bin hx hy (.int _ _) (.int _ _) (Qem ..) (.bool _)
theorem B.leq (hx:VEv E x (.int k a)) (hy:VEv E y (.int k b)) (he:decide (a≤b)=c):OF call P E ⟨d, .binOp .leq tt x y xt,ty,ps,af,g⟩ (.bool c):=he▸OF.bin hx hy (.int _ _) (.int _ _) (QdY ..) (.bool _)
theorem B.gtr (hx:VEv E x (.int k a)) (hy:VEv E y (.int k b)) (he:decide (b<a)=c):OF call P E ⟨d, .binOp .gtr tt x y xt,ty,ps,af,g⟩ (.bool c):=he▸OF.bin hx hy (.int _ _) (.int _ _) (Qeh ..) (.bool _)
theorem B.geq (hx:VEv E x (.int k a)) (hy:VEv E y (.int k b)) (he:decide (b≤a)=c):OF call P E ⟨d, .binOp .geq tt x y xt,ty,ps,af,g⟩ (.bool c):=he▸OF.bin hx hy (.int _ _) (.int _ _) (Qd8 ..) (.bool _)
theorem B.eql (hx:VEv E x (.int k a)) (hy:VEv E y (.int k b)) (he:decide (a=b)=c):OF call P E ⟨d, .binOp .eql tt x y xt,ty,ps,af,g⟩ (.bool c):=he▸OF.bin hx hy (.int _ _) (.int _ _) (Qep ..) (.bool _)
theorem B.neq (hx:VEv E x (.int k a)) (hy:VEv E y (.int k b)) (he:(!decide (a=b))=c):OF call P E ⟨d, .binOp .neq tt x y xt,ty,ps,af,g⟩ (.bool c):=he▸OF.bin hx hy (.int _ _) (.int _ _) (QdV ..) (.bool _)
variable {s1 s2 s3 : ByteArray}
theorem B.sneq (hx:VEv E x (.str s1)) (hy:VEv E y (.str s2)) (he:(!decide (s1=s2))=c):OF call P E ⟨d, .binOp .neq tt x y xt,ty,ps,af,g⟩ (.bool c):=he▸OF.bin hx hy (.str _) (.str _) (Qdv ..) (.bool _)
theorem B.sadd (hx:VEv E x (.str s1)) (hy:VEv E y (.str s2)) (hl:s1.size+s2.size≤9223372036854775807):OF call P E ⟨d, .binOp .add tt x y xt,ty,ps,af,g⟩ (.str (s1++s2)):=OF.bin hx hy (.str _) (.str _) (Qdj _ _ _ _ _ _ hl) (.str _)
variable {b1 b2 : Bool}
theorem B.not (hx:VEv E x (.bool b1)) (he:(!b1)=c):OF call P E ⟨d, .unOp .not tt x,ty,ps,af,g⟩ (.bool c):=he▸OF.un hx (.bool _) (Qeg ..) (.bool _)
theorem B.index {st:ByteArray} {kk:IntKind} {j:Int} {i:Nat} (hx:VEv E x (.str st)) (hy:VEv E y (.int kk j)) (hj:j=i) (hi:i<st.size) (hu:P.underlying tt=some .string) (he:((st[i]'hi).toNat:Int)=n):OF call P E ⟨d, .index tt x y,ty,ps,af,g⟩ (.int .u8 n):=he▸OF.index hx hy hj hi hu
theorem B.box {ts:List T} (hx:VEv E x t) (ht:t≠ .any) (hc:Ql t=ts):OM call P E nx ⟨d, .box xt x,ty,ps,af,g⟩ (.op nx 0) (.cells ts):=hc▸OM.box hx ht
theorem B.alloc {ts:List T} {v:Value} (hz:QH P tt=some v) (hcl:closedV v=true) (ht:t≠ .any) (hv:∀hf,R hf t v) (hc:Ql t=ts):OM call P E nx ⟨d, .alloc tt,ty,ps,af,g⟩ (.op nx 0) (.cells ts):=hc▸OM.alloc hz hcl ht hv
theorem B.fieldAddrR {j off:Nat} {ts us:List T} (hx:VEv E x (.rp ts)) (hn:off≤ts.length) (ha:∀k o,Qc P tt (.pointer (some ⟨k,o,none⟩)) j=some (.pointer (some ⟨k,o+off,none⟩))) (hd:ts.drop off=us):OF call P E ⟨d, .fieldAddr tt x j,ty,ps,af,g⟩ (.rp us):=hd▸OF.fieldAddrR hx hn ha
theorem B.storeO {k o:Nat} {ts us ws:List T} (hx:VEv E x (.op k o)) (hy:VEv E y t) (ht:t≠ .any) (hk:gO O k=some (.cells ts)) (hus:Ql t=us) (hle:o+us.length≤ts.length) (hif:(P.info? tt).isSome=true) (hn:P.cellsOf tt=us.length) (hc:∀a∈us,Yw a=true) (hw:JD ts o us=ws) :
  OC call P E O nx ⟨d, .store tt x y,ty,ps,af,g⟩ .any ((k,some (.cells ws))::O) nx [k]:=hw▸OC.storeO hx hy ht hk hus hle hif hn hc
theorem B.storeP {sz k i o:Nat} {rows rows':List (List T)} {row us:List T} (hx:VEv E x (.orp sz k i o)) (hy:VEv E y t) (ht:t≠ .any) (hk:gO O k=some (.rows sz rows)) (hi:rows[i]? =some row) (hus:Ql t=us) (hle:o+us.length≤sz) (hif:(P.info? tt).isSome=true) (hn:P.cellsOf tt=us.length) (hc:∀a∈us,ZW a=true) (hfl:∀r∈rows,∀a∈r,ZC a=true) (hr:rows.set i (JD row o us)=rows') :
  OC call P E O nx ⟨d, .store tt x y,ty,ps,af,g⟩ .any ((k,some (.rows sz rows'))::O) nx [k]:=hr▸OC.storeP hx hy ht hk hi hus hle hif hn hc hfl
theorem B.indexAddrO {k n:Nat} {kk:IntKind} {j:Int} {i:Nat} (hx:VEv E x (.os sz k 0 n)) (hy:VEv E y (.int kk j)) (hj:j=i) (hi:i<n) (hu:P.underlying tt=some (.slice e)) (hn:P.cellsOf e=sz) (hif:(P.info? e).isSome=true) :
  OF call P E ⟨d, .indexAddr tt x y,ty,ps,af,g⟩ (.orp sz k i 0):=by
 have z:=OF.indexAddrO (call:=call) (d:=d) (ty:=ty) (ps:=ps) (af:=af) (g:=g) hx hy hj hi hu hn hif
 rwa [Nat.zero_add] at z
variable {m : Nat}
theorem B.lenS {st:ByteArray} (hx:VEv E x (.str st)) (hu:P.underlying tt=some .string):OL call P E O ⟨d, .call ⟨.builtin .len,#[x],#[tt]⟩,ty,ps,af,g⟩ (.int .i64 st.size):=OL.lenS hx hu
theorem B.lenR (hx:VEv E x (.sl false sz rows)) (hu:P.underlying tt=some (.slice e)) (he:rows.length=m):OL call P E O ⟨d, .call ⟨.builtin .len,#[x],#[tt]⟩,ty,ps,af,g⟩ (.int .i64 (m:Nat)):=he▸OL.lenR hx hu
end
section
variable {K : Qp → Qg → Nat → Prop} {Q : AX → Qp → Qg → Nat → Prop} {E : Qp} {O : Qg} {nx id j : Nat}
theorem vthn.e (h:Q (.exit id) E O nx):vthn K Q (.exit id) E O nx:=h
theorem vinB.n (h:Q .normal E O nx):vinB id Q .normal E O nx:=h
theorem vinB.r (h:Q .ret E O nx):vinB id Q .ret E O nx:=h
theorem vinB.e (h:Q .normal E O nx):vinB id Q (.exit id) E O nx:=by simp only [vinB,if_true];exact h
end
section
variable {call : Qk} {P : Program} {ops : Array Oper} {B : List (List Nat)} {l : List Oper} {E : Qp} {O Ob : Qg} {nx nb i i' : Nat} {q : Bool} {al : List (Nat × Nat × Obj)} {fl : List Nat} {K : Qp → Qg → Nat → Prop} {d : Option Tmp} {ty : TypeId} {ps : String} {af : Array Edge} {a : Tmp} {t : T} {c : Operand}
theorem mO (t:T) (h:gE E a=t) (hk:VRunO call P ops l (pE E d t) O nx K):VRunO call P ops (⟨d, .move (.tmp a),ty,ps,af,none⟩::l) E O nx K:=VRunO.free VWant.always (OF.move (VEv.tmp h)) hk
theorem aO (t:T) (h:gE E a=t) (hk:VRunO call P ops l (pE E d t) O nx K):VRunO call P ops (⟨d, .assign (.tmp a),ty,ps,af,none⟩::l) E O nx K:=VRunO.free VWant.always (OF.assign (VEv.tmp h)) hk
theorem mD (t:T) (h:gE E a=t) (hi:i+1=i') (hk:VRunD call P ops B l i' (pE E d t) O Ob nx nb q al fl K):VRunD call P ops B (⟨d, .move (.tmp a),ty,ps,af,none⟩::l) i E O Ob nx nb q al fl K:=VRunD.free hi VWant.always rfl (OF.move (VEv.tmp h)) hk
theorem fO {op:Op} (hx:OF call P E ⟨d,op,ty,ps,af,none⟩ t) (hk:VRunO call P ops l (pE E d t) O nx K):VRunO call P ops (⟨d,op,ty,ps,af,none⟩::l) E O nx K:=VRunO.free VWant.always hx hk
theorem lO {op:Op} (hx:OL call P E O ⟨d,op,ty,ps,af,none⟩ t) (hk:VRunO call P ops l (pE E d t) O nx K):VRunO call P ops (⟨d,op,ty,ps,af,none⟩::l) E O nx K:=VRunO.look VWant.always hx hk
theorem kO {op:Op} {obj:Obj} (hx:OM call P E nx ⟨d,op,ty,ps,af,none⟩ t obj) (hk:VRunO call P ops l (pE E d t) ((nx,some obj)::O) (nx+1) K):VRunO call P ops (⟨d,op,ty,ps,af,none⟩::l) E O nx K:=VRunO.make VWant.always hx hk
theorem cO {op:Op} {O':Qg} {nx':Nat} {ks:List Nat} (hx:OC call P E O nx ⟨d,op,ty,ps,af,none⟩ t O' nx' ks) (hk:VRunO call P ops l (pE E d t) O' nx' K):VRunO call P ops (⟨d,op,ty,ps,af,none⟩::l) E O nx K:=VRunO.chain VWant.always hx hk
theorem fD {op:Op} (hx:OF call P E ⟨d,op,ty,ps,af,none⟩ t) (hi:i+1=i') (hc:ZT P op= .free) (hk:VRunD call P ops B l i' (pE E d t) O Ob nx nb q al fl K):VRunD call P ops B (⟨d,op,ty,ps,af,none⟩::l) i E O Ob nx nb q al fl K:=VRunD.free hi VWant.always hc hx hk
theorem lD {op:Op} (hx:OL call P E Ob ⟨d,op,ty,ps,af,none⟩ t) (hi:i+1=i') (hc:ZT P op= .look) (hk:VRunD call P ops B l i' (pE E d t) O Ob nx nb q al fl K):VRunD call P ops B (⟨d,op,ty,ps,af,none⟩::l) i E O Ob nx nb q al fl K:=VRunD.look hi VWant.always hc hx hk
theorem nt {K1:Qp→Qg→Nat→Prop} {Q:AX→Qp→Qg→Nat→Prop} (h:K1 E O nx):VRunO call P ops [] E O nx (vthn K1 Q .normal):=VRunO.nil h
theorem sr {id:Nat} {y:Code} {Q:AX→Qp→Qg→Nat→Prop} (hx:VRunO call P ops ops.toList E O nx (vthn (fun E' O' nx'=>VRun call P y E' O' nx' Q) Q .normal)):VRun call P (.seq (.region id ops false) y) E O nx Q:=VRun.seq (VRun.region hx)
theorem sq {x y:Code} {Q:AX→Qp→Qg→Nat→Prop} (hx:VRun call P x E O nx (vthn (fun E' O' nx'=>VRun call P y E' O' nx' Q) Q)):VRun call P (.seq x y) E O nx Q:=VRun.seq hx
theorem rt {Q:AX→Qp→Qg→Nat→Prop} (hq:Q .ret E O nx):VRun call P .ret E O nx Q:=VRun.ret hq
theorem sk {Q:AX→Qp→Qg→Nat→Prop} (hq:Q .normal E O nx):VRun call P .skip E O nx Q:=VRun.skip hq
theorem tn {K1:Qp→Qg→Nat→Prop} {Q:AX→Qp→Qg→Nat→Prop} (h:K1 E O nx):vthn K1 Q .normal E O nx:=h
theorem tr {K1:Qp→Qg→Nat→Prop} {Q:AX→Qp→Qg→Nat→Prop} (h:Q .ret E O nx):vthn K1 Q .ret E O nx:=h
theorem tv (t:T) (h:gE E a=t):VEv E (.tmp a) t:=VEv.tmp h
end
abbrev Jo (l:List (Nat×Obj)):Qg:=l.map fun x=>(x.1,some x.2)
def QA (s:ByteArray) (i:Nat):Int:=if h:i<s.size then ((s[i]'h).toNat:Int) else 0
theorem J5 {s:ByteArray} {i:Nat} (h:i<s.size):((s[i]'h).toNat:Int)=QA s i:=by unfold QA;rw [dif_pos h]
theorem Zt {α:Type} {p:α→Prop}:∀x∈([]:List α),p x:=fun x hx=>by cases hx
theorem Qi {α:Type} {p:α→Prop} {a:α} {l:List α} (h:p a) (hr:∀x∈l,p x):∀x∈a::l,p x:=fun x hx=>by
 rcases List.mem_cons.1 hx with rfl | hx
 ·exact h
 ·exact hr x hx
theorem Zg {p q:Prop} [Decidable p] [Decidable q] (h:p↔q):decide p=decide q:=decide_eq_decide.2 h
theorem Qcd {p q:Prop} [Decidable p] [Decidable q] (h:p↔q):(!decide p)= !decide q:=by rw [decide_eq_decide.2 h]
theorem Qa2 {α:Type} {l:List α} {e:α→List T} {i:Nat} {row:List T} {a:α} (h:row=e a):(l.map e).set i row=(l.set i a).map e:=by rw [h,List.map_set]
end Go.Proofs.YthifchndolccgaaDoor.AE
namespace Go.Proofs.YthifchndolccgaaDoor.AE
open Go Go.RowKit
set_option linter.unusedVariables false
set_option linter.unusedSimpArgs false
section
variable {call : Qk} {P : Program} {E : Qp} {O : Qg} {d : Option Tmp} {ty tt s e xt : TypeId} {ps : String} {af : Array Edge} {g : Option (Nat × Bool)} {x y z : Operand} {t u w : T} {nx sz : Nat} {rows rows2 : List (List T)} {ks ks2 : List Nat}
def Z0 (ts:List T) (vs:List Value):Prop:=∀hf h,SL hf h ts vs []
theorem Z0.nil : Z0 [] []:=fun _ _=> .nil
theorem Z0.int {k:IntKind} {n:Int} {ts:List T} {vs:List Value} (h:Z0 ts vs):Z0 (.int k n::ts) (.int k n::vs):=fun hf H=>SL.cons (N:= []) (.fz (.int k n)) (h hf H)
theorem Z0.str {b:ByteArray} {ts:List T} {vs:List Value} (h:Z0 ts vs):Z0 (.str b::ts) (.string b::vs):=fun hf H=>SL.cons (N:= []) (.fz (.str b)) (h hf H)
theorem Z0.app {ts us:List T} {vs ws:List Value} (h:Z0 ts vs) (h2:Z0 us ws):Z0 (ts++us) (vs++ws):=fun hf H=>(h hf H).append (h2 hf H)
theorem Z0.rep {ts:List T} {vs:List Value} (h:Z0 ts vs):∀n,Z0 (List.replicate n ts).flatten (List.replicate n vs).flatten
 | 0=> .nil
 | n+1=>by
  rw [List.replicate_succ,List.replicate_succ,List.flatten_cons,List.flatten_cons]
  exact h.app (Z0.rep h n)
theorem Qbm {z:List Value} (hz:0<z.length) (n:Nat):YW z (n*z.length)=(List.replicate n z).flatten:=by
 have hlen:∀r∈List.replicate n z,r.length=z.length:=fun r hr=>by rw [List.eq_of_mem_replicate hr]
 have hfl:=Yc hlen
 rw [List.length_replicate] at hfl
 refine List.ext_getElem? fun i=> ?_
 rcases Nat.lt_or_ge i (n*z.length) with hi | hi
 ·have h1:=Qc3 (z:=z) hi
  have hq:i / z.length<n:=Nat.div_lt_of_lt_mul (by rwa [Nat.mul_comm] at hi)
  have h2:=Ju hlen (i:=i / z.length) (row:=z) (by rw [List.getElem?_replicate,if_pos hq])
  have hqq:i / z.length*z.length+i % z.length=i:=by rw [Nat.mul_comm];exact Nat.div_add_mod i z.length
  have h3:(List.replicate n z).flatten[i]? =z[i % z.length]? :=by
   rw [← hqq]
   have:=congrArg (·[i % z.length]?) h2
   simp only [List.getElem?_take,List.getElem?_drop,if_pos (Nat.mod_lt i hz)] at this
   rw [this,Nat.mul_add_mod_self_right,Nat.mod_mod]
  rw [h3,List.getElem?_eq_getElem (by rw [QU];exact hi),List.getElem?_eq_getElem (Nat.mod_lt i hz)]
  rw [List.getD_eq_getElem?_getD,List.getD_eq_getElem?_getD,List.getElem?_eq_getElem (by rw [QU];exact hi),List.getElem?_eq_getElem (Nat.mod_lt i hz)] at h1
  exact congrArg some h1
 ·rw [List.getElem?_eq_none (by rw [QU];exact hi),List.getElem?_eq_none (by omega)]
theorem B.makeZ {n m:Nat} {zr:List T} {z:Value} {j:Int} {rows:List (List T)} (hx:VEv E x (.int .i64 j)) (hy:VEv E y (.int .i64 j)) (hj:j=n) (hu:P.underlying tt=some (.slice e)) (hz:QH P e=some z) (hcl:closedV z=true) (hs:z.cells.size=P.cellsOf e) (hp:0<P.cellsOf e) (hn:n≤YL) (hb:P.bytesOf e≤256) (hzr:Z0 zr z.cells.toList) (hsz:P.cellsOf e=sz) (hr:List.replicate n zr=rows) (hm:n=m) :
  OM call P E nx ⟨d, .makeSlice tt x y,ty,ps,af,g⟩ (.os sz nx 0 m) (.rows sz rows):=fun q σ hf Ea he=>by
 subst hj
 subst hsz
 subst hr
 subst hm
 obtain ⟨v,h1,h2⟩:=hx σ hf nx Ea he
 obtain ⟨v',h3,h4⟩:=hy σ hf nx Ea he
 obtain rfl:=h2.intInv
 obtain rfl:=h4.intInv
 have hall:z.cells.all closed1=true:=by
  cases z<;>first | exact hcl | (simp only [Value.cells];simpa [closedV] using hcl) | simp [closedV,closed1] at hcl
 have hbl:(P.bytesOf e:Int)*n≤281474976710656:=by
  have h2:P.bytesOf e*n≤281474976710656:=Nat.le_trans (Nat.mul_le_mul hb hn) (by unfold YL;omega)
  have h3:((P.bytesOf e*n:Nat):Int)≤281474976710656:=by omega
  rwa [Int.natCast_mul] at h3
 have h4':(n:Int)≤9223372036854775807:=by
  have:YL=1099511627776:=rfl
  omega
 have hmk:∀h:AH,Qat P q tt h (.int .i64 n) (.int .i64 n)=some (.val (.slice (some ⟨Qb q,0,none⟩) n (if n=0 then 0 else 1)) (h.upd (Qb q) (some (.cells (P.cellsOf e) (YW z.cells.toList (n*P.cellsOf e)))))):=fun h=>by
  simp only [Qat,hu,hz]
  rw [if_pos ⟨by omega,trivial,h4',hbl,hall,hs,hp⟩]
  simp
 have hzl:=(hzr (fun _=>none) (fun _=>none)).length
 simp only [Array.length_toList] at hzl
 by_cases hn0:n=0
 ·subst hn0
  refine ⟨_,_,none,[],fun h=>X.makeSlice h1 h3 (hmk h), .inr ⟨rfl,rfl⟩,?_,fun h=> .none _⟩
  exact .ose _ nx _ 0 (by omega) (by simp)
 ·refine ⟨_,_,some (Qb q),[Qb q],fun h=>X.makeSlice h1 h3 (hmk h), .inl ⟨rfl,rfl⟩,?_,fun h=> ?_⟩
  ·have:=V.os (σ:=fun k=>if k=nx then some (Qb q) else σ k) (hf:=hf) (nx:=nx+1) (a:=Qb q) (P.cellsOf e) nx 0 n 1 (by omega) (by simp) (by omega)
   rw [Nat.zero_mul] at this
   rw [if_neg hn0]
   exact this
  ·refine .rows (N:= []) (AH.upd_same _ _ _) (YI q) (fun r hr=>by rw [List.eq_of_mem_replicate hr];omega) (by rw [List.length_replicate,QU];omega) ?_
   rw [List.length_replicate,List.take_of_length_le (by rw [QU];omega)]
   have e1:z.cells.toList.length=P.cellsOf e:=by simpa using hs
   rw [← e1,Qbm (by omega)]
   exact (hzr.rep n) _ _
end
end Go.Proofs.YthifchndolccgaaDoor.AE
namespace Go.Proofs.YthifchndolccgaaDoor.AE
open Go Go.RowKit
set_option linter.unusedVariables false
set_option linter.unusedSimpArgs false
def mx : Nat:=1048576
def ZX {α:Type} (z:α→Nat):List α→Nat
 | []=>0
 | x::r=>z x+ZX z r
def zL {α:Type} (z:α→Nat) (l:List α):Nat:=l.length+ZX z l
theorem J1 {α:Type} {z:α→Nat} (l:List α):l.length≤zL z l:=Nat.le_add_right _ _
theorem Qcc {α:Type} {z:α→Nat}:∀ {l:List α} {i:Nat} {x:α},l[i]? =some x→z x≤ZX z l
 | [],i,x,h=>by simp at h
 | y::r,0,x,h=>by
  obtain rfl:y=x:=by simpa using h
  exact Nat.le_add_right _ _
 | y::r,i+1,x,h=>Nat.le_trans (Qcc (l:=r) (i:=i) (by simpa using h)) (Nat.le_add_left _ _)
theorem QeM {α:Type} {z:α→Nat} {l:List α} {i:Nat} {x:α} (h:l[i]? =some x):z x≤zL z l:=Nat.le_trans (Qcc h) (Nat.le_add_left _ _)
theorem QcW {α:Type} {z:α→Nat} {l:List α} {x:α} (h:x∈l):z x≤zL z l:=by
 obtain ⟨i,hi⟩:=List.getElem?_of_mem h
 exact QeM hi
theorem Z5 {α:Type} {z:α→Nat}:∀(a b:List α),ZX z (a++b)=ZX z a+ZX z b
 | [],b=>by simp [ZX]
 | x::a,b=>by simp only [List.cons_append,ZX,Z5 a b,Nat.add_assoc]
theorem Qaw {α:Type} {z:α→Nat} {l:List α} {i:Nat} {x:α} (h:l[i]? =some x):ZX z (l.take (i+1))=ZX z (l.take i)+z x:=by
 rw [List.take_add_one,h,Z5]
 simp [ZX]
theorem QaM {α:Type} {z:α→Nat} (l:List α) (i:Nat):ZX z (l.take i)≤ZX z l:=by
 have:ZX z (l.take i++l.drop i)=ZX z (l.take i)+ZX z (l.drop i):=Z5 _ _
 rw [List.take_append_drop] at this
 omega
def ZO (z:Nat) (left:Int):Int:=if left - (z:Int)<0 then -1 else left - (z:Int)
theorem YV {z:Nat} {l:Int} (h:¬ZO z l<0):ZO z l=l - (z:Int)∧0≤l - (z:Int):=by
 unfold ZO at h ⊢
 split at h
 ·omega
 ·rename_i h2
  rw [if_neg h2]
  omega
theorem QdS {z:Nat} {l:Int} (h:ZO z l<0):l - (z:Int)<0:=by
 unfold ZO at h
 split at h
 ·assumption
 ·omega
theorem JJ {z:Nat} {l:Int} (h:l - (z:Int)<0): -1=ZO z l:=by unfold ZO;rw [if_pos h]
theorem QbF {z:Nat} {l:Int} (h:¬l - (z:Int)<0):l - (z:Int)=ZO z l:=by unfold ZO;rw [if_neg h]
def SzI {α:Type} (z:α→Nat) (l:List α) (left:Int) (i:Nat) (r:Int):Prop:=i≤l.length∧0≤r∧r≤(mx:Int)∧r=left - ((l.length+ZX z (l.take i):Nat):Int)
section
variable {α : Type} {z : α → Nat} {l : List α} {left r : Int} {i : Nat} {x : α}
theorem SzI.start (h1:left≤(mx:Int)) (h:¬left - (l.length:Int)<0):SzI z l left 0 (left - (l.length:Int)):=by
 refine ⟨Nat.zero_le _,by omega,by omega,?_⟩
 simp [ZX]
theorem SzI.next' (h:SzI z l left i r) (hx:l[i]? =some x) (hn:¬r - (z x:Int)<0):SzI z l left (i+1) (r - (z x:Int)):=by
 have:=(List.getElem?_eq_some_iff.1 hx).1
 obtain ⟨h1,h2,h3,h4⟩:=h
 refine ⟨by omega,by omega,by omega,?_⟩
 rw [Qaw hx,h4]
 omega
theorem SzI.next (h:SzI z l left i r) (hx:l[i]? =some x) (hn:¬ZO (z x) r<0):SzI z l left (i+1) (ZO (z x) r):=by
 obtain ⟨h1,h2⟩:=YV hn
 rw [h1]
 exact h.next' hx (by omega)
theorem SzI.bad' (h:SzI z l left i r) (hx:l[i]? =some x) (hn:r - (z x:Int)<0): -1=ZO (zL z l) left:=by
 refine JJ ?_
 have h5:=QaM (z:=z) l (i+1)
 rw [Qaw hx] at h5
 obtain ⟨h1,h2,h3,h4⟩:=h
 simp only [zL]
 omega
theorem SzI.bad (h:SzI z l left i r) (hx:l[i]? =some x) (hn:ZO (z x) r<0): -1=ZO (zL z l) left:=h.bad' hx (QdS hn)
theorem SzI.early (hn:left - (l.length:Int)<0): -1=ZO (zL z l) left:=JJ (by simp only [zL];omega)
theorem SzI.done (h:SzI z l left i r) (hi:¬i<l.length):r=ZO (zL z l) left:=by
 obtain ⟨h1,h2,h3,h4⟩:=h
 have e:i=l.length:=by omega
 subst e
 rw [List.take_length] at h4
 have e2:r=left - ((zL z l:Nat):Int):=h4
 rw [e2]
 exact QbF (by omega)
end
theorem QbD {α:Type} {a b:List α} {i:Nat} {x y:α} (h:i≤a.length∧∀j,j<i→a[j]? =b[j]?) (hx:a[i]? =some x) (hy:b[i]? =some y) (he:x=y):i+1≤a.length∧∀j,j<i+1→a[j]? =b[j]? :=by
 have:=(List.getElem?_eq_some_iff.1 hx).1
 refine ⟨by omega,fun j hj=> ?_⟩
 rcases Nat.lt_or_ge j i with h1 | h1
 ·exact h.2 j h1
 ·obtain rfl:j=i:=by omega
  rw [hx,hy,he]
theorem QcB {α:Type} {a b:List α} {i:Nat} (h:i≤a.length∧∀j,j<i→a[j]? =b[j]?) (hl:a.length=b.length) (hi:¬i<a.length):a=b:=by
 refine List.ext_getElem? fun j=> ?_
 rcases Nat.lt_or_ge j i with h1 | h1
 ·exact h.2 j h1
 ·rw [List.getElem?_eq_none (by omega),List.getElem?_eq_none (by omega)]
theorem Qcl {α:Type} {a b:List α} {i:Nat} {x y:α} (hx:a[i]? =some x) (hy:b[i]? =some y) (hn:x≠y):a≠b:=by
 rintro rfl
 rw [hx] at hy
 exact hn (Option.some.inj hy)
theorem Qar {α:Type} {l:List α} {i:Nat} {x w:α} (h:l[i]? =some x):(l.take i++List.replicate (l.length - i) w).set i x=l.take (i+1)++List.replicate (l.length - (i+1)) w:=by
 have hlt:=(List.getElem?_eq_some_iff.1 h).1
 have e1:(l.take i).length=i:=by rw [List.length_take];omega
 have e2:l.length - i=(l.length - (i+1))+1:=by omega
 rw [e2,List.replicate_succ,List.set_append_right _ _ (by omega),e1,Nat.sub_self,List.set_cons_zero,List.take_add_one,h]
 simp
theorem Qcr {α:Type} {l:List α} {i:Nat} {w:α} (hi:¬i<l.length):l.take i++List.replicate (l.length - i) w=l:=by
 rw [List.take_of_length_le (by omega),Nat.sub_eq_zero_of_le (by omega)]
 simp
theorem Qdq {α:Type} {l:List α} {i:Nat} {w:α} (hi:i≤l.length):(l.take i++List.replicate (l.length - i) w).length=l.length:=by
 simp;omega
end Go.Proofs.YthifchndolccgaaDoor.AE
namespace Go.Proofs.YthifchndolccgaaDoor.AE
open Go Go.RowKit
set_option linter.unusedVariables false
set_option linter.unusedSimpArgs false
theorem SL.ints {hf h:AH} {k:IntKind}:∀ {l:List Int} {vs:List Value} {N:List Nat},SL hf h (l.map (T.int k)) vs N→vs=l.map (Value.int k)
 | [],_,_, .nil=>rfl
 | n::l,_,_, .cons hs hr=>by
  rw [SL.ints hr]
  cases hs with
  | fz hr=>cases hr;rfl
theorem Qay : ∀l:List Int,QbN (l.map (Value.int .u8))=some l
 | []=>rfl
 | n::l=>by simp only [List.map_cons,QbN,Qay l,Option.map_some]
theorem YA : ∀l:List Int,(l.map (QE true)).flatten=l.map (T.int .u8)
 | []=>rfl
 | n::l=>by simp only [List.map_cons,List.flatten_cons,YA l];rfl
theorem B.convBS {call:Qk} {P:Program} {E:Qp} {O:Qg} {d:Option Tmp} {ty st dt e:TypeId} {ps:String} {af:Array Edge} {g:Option (Nat×Bool)} {x:Operand} {k n:Nat} {l:List Int} (hx:VEv E x (.os 1 k 0 n)) (hk:gO O k=some (.rows 1 (l.map (QE true)))) (hn:n=l.length) (hu:P.underlying st=some (.slice e)) (he:P.underlying e=some (.int .u8)) (hd:P.underlying dt=some .string) :
  OL call P E O ⟨d, .convert st dt x,ty,ps,af,g⟩ (.str (Yu l)):=fun q p h0 σ hf own nx Ea h hs=>by
 subst hn
 obtain ⟨v,h1,h2⟩:=hx σ hf nx Ea hs.env
 obtain ⟨N,hN1,hN2,h5⟩:=hs.objAt hk
 refine ⟨.string (Yu l),X.convert h1 (h':=h) ?_, .fz (.str _)⟩
 obtain ⟨_,⟨a,m,rfl,e6,e7⟩ | ⟨e6,_,e7,e8⟩⟩:=h2.osInv
 ·rw [e6] at h5
  generalize hrr:l.map (QE true)=rws at h5
  cases h5 with
  | rows hh hodd hlen hfit hsl =>
   rename_i cs N
   subst hrr
   rw [YA] at hsl
   have e10:=hsl.ints
   rw [List.length_map,Nat.mul_one] at e10 hfit
   simp only [Jw,hu,he,hd]
   by_cases hz:l.length=0
   ·rw [if_pos hz]
    obtain rfl:=List.eq_nil_of_length_eq_zero hz
    rfl
   ·rw [if_neg hz]
    simp only [hh,Nat.zero_mul,Nat.zero_add,if_pos hfit,List.drop_zero,e10,Qay,Option.map_some]
 ·obtain rfl:=List.eq_nil_of_length_eq_zero e7
  rcases e8 with rfl | ⟨a,o,rfl⟩
  ·simp only [Jw,hu,he,hd];rfl
  ·simp only [Jw,hu,he,hd,if_true];rfl
def bys (s:ByteArray):List Int:=s.data.toList.map fun b=>(b.toNat:Int)
theorem Qb4 (s:ByteArray):(bys s).length=s.size:=by rw [bys,List.length_map];exact Array.length_toList
theorem JK (s:ByteArray):Q8 s=(bys s).map (Value.int .u8):=by
 simp [Q8,byteCells,bys,Function.comp_def]
theorem QbX (hf h:AH) (k:IntKind):∀l:List Int,SL hf h (l.map (T.int k)) (l.map (Value.int k)) []
 | []=> .nil
 | n::l=> .cons (N:= []) (M:= []) (.fz (.int _ _)) (QbX hf h k l)
theorem B.convSB {call:Qk} {P:Program} {E:Qp} {nx:Nat} {d:Option Tmp} {ty st dt e:TypeId} {ps:String} {af:Array Edge} {g:Option (Nat×Bool)} {x:Operand} {s:ByteArray} (hx:VEv E x (.str s)) (hu:P.underlying st=some .string) (hd:P.underlying dt=some (.slice e)) (he:P.underlying e=some (.int .u8)) :
  OM call P E nx ⟨d, .convert st dt x,ty,ps,af,g⟩ (.os 1 nx 0 ((bys s).map (QE true)).length) (.rows 1 ((bys s).map (QE true))):=fun q σ hf Ea hE=>by
 obtain ⟨v,h1,h2⟩:=hx σ hf nx Ea hE
 obtain rfl:=h2.strInv
 have hl:((bys s).map (QE true)).length=s.size:=by rw [List.length_map,Qb4]
 refine ⟨.slice (some ⟨Qb q,0,none⟩) s.size 1, .cells 1 (Q8 s),some (Qb q),[Qb q],fun h=>X.convert h1 ?_, .inl ⟨rfl,rfl⟩,?_,fun h=> ?_⟩
 ·simp only [Jw,hu,hd,he]
 ·rw [hl]
  have:=V.os (σ:=fun k=>if k=nx then some (Qb q) else σ k) (hf:=hf) (nx:=nx+1) (a:=Qb q) 1 nx 0 s.size 1 (by omega) (by simp) (by omega)
  rw [Nat.zero_mul] at this
  exact this
 ·refine .rows (N:= []) (AH.upd_same _ _ _) (YI q) (fun r hr=> ?_) ?_ ?_
  ·obtain ⟨n,_,rfl⟩:=List.mem_map.1 hr
   rfl
  ·rw [JK,List.length_map,List.length_map];omega
  ·rw [YA,JK,List.take_of_length_le (by rw [List.length_map,List.length_map];omega)]
   exact QbX _ _ _ _
section
variable {α : Type}
def mkN (f:Nat→α) (w k n:Nat):List α:=(List.range n).map fun j=>f (k+w*j)
theorem Qw (f:Nat→α) (w k n:Nat):(mkN f w k n).length=n:=by simp [mkN]
theorem Qz (f:Nat→α) (w k n:Nat):mkN f w k n=mkN f w k (mkN f w k n).length:=by rw [Qw]
end
end Go.Proofs.YthifchndolccgaaDoor.AE
namespace Go.Proofs.YthifchndolccgaaDoor.AE
open Go Go.RowKit
set_option linter.unusedVariables false
set_option linter.unusedSimpArgs false
theorem SR.told {p nx:Nat} {h0:LB} {hf h:AH} {σ own:Nat→Option Nat} {E E':Qp} {O:Qg} {Ea:Nat→Value} (hs:SR p h0 σ hf own E O nx Ea h) (he:∀t,V σ hf nx (gE E' t) (Ea t)):SR p h0 σ hf own E' O nx Ea h:=⟨he,hs.obj,hs.fro,hs.mine,hs.base,hs.dom⟩
section
variable {call : Qk} {P : Program} {π c i : Nat} {ops : Array Oper}
theorem Jq : ∀(l1 l2:List Oper) (i:Nat) (s:St),Yx call P π ops (l1++l2) i s=(Yx call P π ops l1 i s).bind (Yx call P π ops l2 (i+l1.length))
 | [],l2,i,s=>by simp [Yx]
 | o::r,l2,i,s=>by
  rw [List.cons_append,Yx,Yx]
  cases hx:Qbn call P π ops i o s with
  | none=>rfl
  | some s1 =>
   rw [Option.bind_some,Option.bind_some,Jq r l2,List.length_cons,show i+1+r.length=i+(r.length+1) by omega]
theorem RunO.app {l1 l2:List Oper} {E:Nat→Value} {h:AH} {K:(Nat→Value)→AH→Prop} (h1:RunO call P π ops c l1 i E h (fun E' h'=>RunO call P π ops c l2 (i+l1.length) E' h' K)):RunO call P π ops c (l1++l2) i E h K:=by
 unfold RunO at h1 ⊢
 intro hf
 obtain ⟨s1,e1,e2,e3,e4⟩:=h1 hf
 obtain ⟨s2,f1,f2,f3,f4⟩:=e4 e3
 refine ⟨s2,?_,f2,?_,f4⟩
 ·rw [Jq,e1,Option.bind_some,← f1]
  obtain ⟨E1,h1',c1⟩:=s1
  simp only at e2
  subst e2
  rfl
 ·rw [List.length_append,← Nat.add_assoc i]
  exact f3
end
def Qea (ds:List Nat) (E:Qp):Qp:=(ds.map fun e=>(e,T.any))++E
inductive JE (E:Qp) (ds:List Nat):Qp→Prop
 | nil:JE E ds E
 | cons {E1:Qp} {e:Nat} {t:T} (he:ds.contains e=true) (h:JE E ds E1):JE E ds ((e,t)::E1)
theorem jn {E:Qp} {ds:List Nat}:JE E ds E:= .nil
theorem js {E E1:Qp} {ds:List Nat} {e:Nat} {t:T} (he:ds.contains e=true) (h:JE E ds E1):JE E ds ((e,t)::E1):= .cons he h
theorem Qb2 (E:Qp) (t:Nat):∀ds:List Nat,gE (Qea ds E) t=if ds.contains t then .any else gE E t
 | []=>rfl
 | e::r=>by
  have ih:=Qb2 E t r
  unfold Qea at ih ⊢
  simp only [List.map_cons,List.cons_append,gE,ih,List.contains_cons]
  by_cases h:t=e
  ·simp [h]
  ·have:(t == e)=false:=by simp [h]
   simp [h]
theorem JE.off {E E1:Qp} {ds:List Nat} (h:JE E ds E1) {t:Nat} (ht:ds.contains t=false):gE E1 t=gE E t:=by
 induction h with
 | nil=>rfl
 | cons he _ ih =>
  rename_i e _ _
  have:¬t=e:=fun x=>by rw [x,he] at ht;cases ht
  simp only [gE,if_neg this,ih]
def JQ (E:Qp) (O:Qg) (nx:Nat) (ds:List Nat) (d:Nat) (b:T) (E1:Qp) (O1:Qg) (nx1:Nat):Prop:=O1=O∧nx1=nx∧∃E2,E1=(d,b)::E2∧JE E ds E2
theorem jq {E E2:Qp} {O:Qg} {nx d:Nat} {ds:List Nat} {b v:T} (hv:v=b) (h:JE E ds E2):JQ E O nx ds d b ((d,v)::E2) O nx:=⟨rfl,rfl,E2,by rw [hv],h⟩
theorem VRunO.joinB {call:Qk} {P:Program} {ops:Array Oper} {l:List Oper} {E:Qp} {O:Qg} {nx:Nat} {K:Qp→Qg→Nat→Prop} (m:Nat) (ds:List Nat) (d:Nat) (b:T) (h1:VRunO call P ops (l.take m) E O nx (JQ E O nx ds d b)) (h2:VRunO call P ops (l.drop m) ((d,b)::Qea ds E) O nx K):VRunO call P ops l E O nx K:=by
 unfold VRunO at h1 h2 ⊢
 intro p h0 σ hf own Ea h c i hs
 rw [← List.take_append_drop m l]
 refine RunO.app ?_
 have h3:=h1 p h0 σ hf own Ea h c i hs
 unfold RunO at h3 ⊢
 intro hfc
 obtain ⟨s',e1,e2,e3,σ',hf',own',E1,O1,nx1,e4,rfl,rfl,E2,rfl,e5⟩:=h3 hfc
 have h4:=h2 p h0 σ' hf' own' s'.E s'.h c (i+(l.take m).length) (e4.told fun t=> ?_)
 ·unfold RunO at h4
  exact ⟨s',e1,e2,e3,h4⟩
 have h6:=e4.env t
 simp only [gE] at h6 ⊢
 split
 ·rename_i e
  simpa only [e,if_true] using h6
 ·rename_i e
  rw [if_neg e] at h6
  rw [Qb2]
  split
  ·exact .any _
  ·rename_i hc
   rwa [e5.off (by simpa using hc)] at h6
section
variable {c v : Bool} {C Q : Prop} [Decidable C] [Decidable Q]
theorem dN : (!decide C)=decide (¬C):=by by_cases h:C<;>simp [h]
end
section
variable {C Q R : Prop} {v : Bool}
theorem dy [Decidable C] (h:C):decide C=true:=decide_eq_true h
theorem dz [Decidable C] (h:¬C):decide C=false:=decide_eq_false h
theorem ny [Decidable C] (h:¬C):(!decide C)=true:=by simp [h]
theorem nz [Decidable C] (h:C):(!decide C)=false:=by simp [h]
theorem kAT [Decidable C] [Decidable Q] (h:C) (hv:v=decide Q):v=decide (C∧Q):=by simp [hv,h]
theorem kAF [Decidable C] [Decidable Q] (h:¬C):false=decide (C∧Q):=by simp [h]
theorem kOT [Decidable C] [Decidable Q] (h:C):true=decide (C∨Q):=by simp [h]
theorem kOF [Decidable C] [Decidable Q] (h:¬C) (hv:v=decide Q):v=decide (C∨Q):=by simp [hv,h]
theorem gw (C:Prop) (ht:C→R) (hf:¬C→R):R:=(Classical.em C).elim ht hf
theorem gn (C:Prop) (ht:¬C→R) (hf:C→R):R:=(Classical.em C).elim hf ht
theorem cd {call:Qk} {P:Program} {E:Qp} {O:Qg} {nx:Nat} {S:AX→Qp→Qg→Nat→Prop} {x y:Code} {a:Tmp} (C:Prop) [Decidable C] (h:gE E a= .bool (decide C)) (ht:C→VRun call P x E O nx S) (hf:¬C→VRun call P y E O nx S):VRun call P (.cond (.tmp a) x y) E O nx S:=VRun.cond (VEv.tmp h) (fun e=>ht (of_decide_eq_true e)) (fun e=>hf (of_decide_eq_false e))
theorem cn {call:Qk} {P:Program} {E:Qp} {O:Qg} {nx:Nat} {S:AX→Qp→Qg→Nat→Prop} {x y:Code} {a:Tmp} (C:Prop) [Decidable C] (h:gE E a= .bool (!decide C)) (ht:¬C→VRun call P x E O nx S) (hf:C→VRun call P y E O nx S):VRun call P (.cond (.tmp a) x y) E O nx S:=VRun.cond (VEv.tmp h) (fun e=>ht (by simpa using e)) (fun e=>hf (by simpa using e))
end
theorem lb {a b:Nat} (h:Nat.ble a b=true):a≤b:=Nat.le_of_ble_eq_true h
theorem bn {α:Type} {p:α→Prop}:∀x∈([]:List α),p x:=Zt
theorem bc {α:Type} {p:α→Prop} {a:α} {l:List α} (h:p a) (hr:∀x∈l,p x):∀x∈a::l,p x:=Qi h hr
theorem b2 {α:Type} {p:α→Prop} {a:α} {l:List α} (hr:∀x∈l,p x) (h:p a:=by exact ⟨rfl,rfl⟩):∀x∈a::l,p x:=Qi h hr
theorem b3 {α:Type} {p:α→Prop} {a:α} {l:List α} (hr:∀x∈l,p x) (h:p a:=by exact ⟨rfl,lb rfl,rfl⟩):∀x∈a::l,p x:=Qi h hr
theorem Q3 : YL=1099511627776∧mx=1048576∧maxLen=9223372036854775807:=⟨rfl,rfl,rfl⟩
end Go.Proofs.YthifchndolccgaaDoor.AE
namespace Go.Proofs.YthifchndolccgaaDoor.AE
open Go Go.RowKit
set_option linter.unusedVariables false
set_option linter.unusedSimpArgs false
abbrev LO := List (Nat×List (List T))
def ix : List Nat→Nat→Option Nat
 | [],_=>none
 | a::r,k=>if k=a then some 0 else (ix r k).map (· +1)
end Go.Proofs.YthifchndolccgaaDoor.AE
namespace Go.Proofs.YthifchndolccgaaDoor.AE
open Go Go.RowKit
set_option linter.unusedVariables false
set_option linter.unusedSimpArgs false
theorem B.storeW {call:Qk} {P:Program} {E:Qp} {O:Qg} {nx:Nat} {d:Option Tmp} {ty tt:TypeId} {ps:String} {af:Array Edge} {g:Option (Nat×Bool)} {x y:Operand} {t:T} {k:Nat} {ts us:List T} (hx:VEv E x (.op k 0)) (hy:VEv E y t) (ht:t≠ .any) (hk:gO O k=some (.cells ts)) (hus:Ql t=us) (hl:us.length=ts.length) (hif:(P.info? tt).isSome=true) (hn:P.cellsOf tt=us.length) (hc:∀a∈us,Yw a=true) :
  OC call P E O nx ⟨d, .store tt x y,ty,ps,af,g⟩ .any ((k,some (.cells us))::O) nx [k]:=B.storeO hx hy ht hk hus (by omega) hif hn hc (by simp [JD,hl])
end Go.Proofs.YthifchndolccgaaDoor.AE
namespace Go.Proofs.YthifchndolccgaaDoor.AE
open Go Go.RowKit
set_option linter.unusedVariables false
set_option linter.unusedSimpArgs false
section
variable {call : Qk} {P : Program} {E : Qp} {O : Qg} {nx : Nat} {S : AX → Qp → Qg → Nat → Prop} {u v : Code} {c : Tmp}
theorem ct (h:gE E c= .bool true) (hx:VRun call P u E O nx S):VRun call P (.cond (.tmp c) u v) E O nx S:=VRun.cond (VEv.tmp h) (fun _=>hx) (fun e=>absurd e (by decide))
theorem cf (h:gE E c= .bool false) (hx:VRun call P v E O nx S):VRun call P (.cond (.tmp c) u v) E O nx S:=VRun.cond (VEv.tmp h) (fun e=>absurd e (by decide)) (fun _=>hx)
theorem vn : VEvs E [] []:= .nil
theorem ln : LendL O [] []:=LendL.nil
theorem Yl : ∀ {ts:List T},ts.all ZW=true→LendL O ts ts
 | [],_=>LendL.nil
 | t::r,h=>by
  simp only [List.all_cons,Bool.and_eq_true] at h
  exact LendL.cons (Lend.pl h.1) (Yl h.2)
def Qeb : List Nat→Bool
 | []=>true
 | a::r=> !(r.contains a) && Qeb r
theorem nd : ∀ {l:List Nat},Qeb l=true→l.Nodup
 | [],_=>List.nodup_nil
 | a::r,h=>by
  simp only [Qeb,Bool.and_eq_true] at h
  exact List.nodup_cons.2 ⟨by simpa using h.1,nd h.2⟩
end
section
variable {call : Qk} {P : Program} {E : Qp} {O : Qg} {d : Option Tmp} {ty tt xt : TypeId} {ps : String} {af : Array Edge} {g : Option (Nat × Bool)} {x y : Operand} {kk : IntKind} {a b : Int} {m n : Nat}
theorem xls (hx:VEv E x (.int kk a)) (hy:VEv E y (.int kk b)):OF call P E ⟨d, .binOp .lss tt x y xt,ty,ps,af,g⟩ (.bool (decide (a<b))):=B.lss hx hy rfl
theorem xle (hx:VEv E x (.int kk a)) (hy:VEv E y (.int kk b)):OF call P E ⟨d, .binOp .leq tt x y xt,ty,ps,af,g⟩ (.bool (decide (a≤b))):=B.leq hx hy rfl
theorem xgt (hx:VEv E x (.int kk a)) (hy:VEv E y (.int kk b)):OF call P E ⟨d, .binOp .gtr tt x y xt,ty,ps,af,g⟩ (.bool (decide (b<a))):=B.gtr hx hy rfl
theorem xge (hx:VEv E x (.int kk a)) (hy:VEv E y (.int kk b)):OF call P E ⟨d, .binOp .geq tt x y xt,ty,ps,af,g⟩ (.bool (decide (b≤a))):=B.geq hx hy rfl
theorem xeq (hx:VEv E x (.int kk a)) (hy:VEv E y (.int kk b)):OF call P E ⟨d, .binOp .eql tt x y xt,ty,ps,af,g⟩ (.bool (decide (a=b))):=B.eql hx hy rfl
theorem xne (hx:VEv E x (.int kk a)) (hy:VEv E y (.int kk b)):OF call P E ⟨d, .binOp .neq tt x y xt,ty,ps,af,g⟩ (.bool (!decide (a=b))):=B.neq hx hy rfl
theorem Y9 (hx:VEv E x (tN m)) (hy:VEv E y (tN n)):OF call P E ⟨d, .binOp .lss tt x y xt,ty,ps,af,g⟩ (.bool (decide (m<n))):=B.lss hx hy (Zg (by omega))
theorem Qfh (hx:VEv E x (tN m)) (hy:VEv E y (tN n)):OF call P E ⟨d, .binOp .eql tt x y xt,ty,ps,af,g⟩ (.bool (decide (m=n))):=B.eql hx hy (Zg (by omega))
theorem Qe2 (hx:VEv E x (tN m)) (hy:VEv E y (tN n)):OF call P E ⟨d, .binOp .neq tt x y xt,ty,ps,af,g⟩ (.bool (!decide (m=n))):=B.neq hx hy (congrArg (!·) (Zg (by omega)))
theorem Q4 {b1:Bool} (hx:VEv E x (.bool b1)):OF call P E ⟨d, .unOp .not tt x,ty,ps,af,g⟩ (.bool (!b1)):=B.not hx rfl
theorem Zv (hx:VEv E x (tN m)) (hy:VEv E y (.int .i64 1)) (h:m+1<9223372036854775808):OF call P E ⟨d, .binOp .add tt x y xt,ty,ps,af,g⟩ (tN (m+1)):=B.add hx hy (by rw [Q1 (by omega)];omega)
theorem xix {s:ByteArray} (hx:VEv E x (.str s)) (hy:VEv E y (tN m)) (hi:m<s.size) (hu:P.underlying tt=some .string):OF call P E ⟨d, .index tt x y,ty,ps,af,g⟩ (.int .u8 (QA s m)):=B.index hx hy rfl hi hu (J5 hi)
end
section
variable {call : Qk} {P : Program} {ops : Array Oper} {l : List Oper} {E : Qp} {O : Qg} {nx : Nat} {K : Qp → Qg → Nat → Prop} {d1 a : Nat} {d2 : Option Tmp} {ty1 ty2 tt tt2 : TypeId} {ps1 ps2 : String} {af1 af2 : Array Edge} {j k o off : Nat} {us : List T}
theorem QbU (E:Qp) (n:Nat) (t:T):gE ((n,t)::E) n=t:=by simp [gE]
theorem lf (t:T) (h:gE E a= .op k o) (fa:∀k o,Qc P tt (.pointer (some ⟨k,o,none⟩)) j=some (.pointer (some ⟨k,o+off,none⟩))) (hk:gO O k=some (.cells us)) (ht:us[o+off]? =some t) (hst:Qj P tt2=some false) (hK:VRunO call P ops l (pE ((d1, .op k (o+off))::E) d2 t) O nx K) :
  VRunO call P ops (⟨some d1, .fieldAddr tt (.tmp a) j,ty1,ps1,af1,none⟩::⟨d2, .load tt2 (.tmp d1),ty2,ps2,af2,none⟩::l) E O nx K:=fO (OF.fieldAddrO (VEv.tmp h) fa) (lO (OL.loadO1 (VEv.tmp (QbU _ _ _)) hk ht hst) hK)
variable {i q : Nat} {w b : Bool} {t0 : T}
theorem glf (t:T) (hb:b=w) (hd:(ops[i]?).bind (·.dst)=some q) (hq:gE E q= .bool b) (hne:(q == d1)=false) (h:gE E a= .op k o) (fa:∀k o,Qc P tt (.pointer (some ⟨k,o,none⟩)) j=some (.pointer (some ⟨k,o+off,none⟩))) (hk:gO O k=some (.cells us)) (ht:us[o+off]? =some t) (hst:Qj P tt2=some false) (hK:VRunO call P ops l (pE ((d1, .op k (o+off))::E) d2 t) O nx K) :
  VRunO call P ops (⟨some d1, .fieldAddr tt (.tmp a) j,ty1,ps1,af1,some (i,w)⟩::⟨d2, .load tt2 (.tmp d1),ty2,ps2,af2,some (i,w)⟩::l) E O nx K:=gF hb hd hq (OF.fieldAddrO (VEv.tmp h) fa) (gL hb hd ((QcZ E hne _).trans hq) (OL.loadO1 (VEv.tmp (QbU _ _ _)) hk ht hst) hK)
def QcJ (i:Nat) (w:Bool) (q:Nat):List Oper→Bool
 | []=>true
 | o::r=>(match o.guard with | some (a,b)=>Nat.beq a i && (b == w) | none=>false) && (match o.dst with | some d=> !(Nat.beq d q) | none=>true) && QcJ i w q r
def Qdi (E:Qp):List Oper→Qp
 | []=>E
 | o::r=>Qdi (pE E o.dst (.tup [])) r
theorem Qex (hd:(ops[i]?).bind (·.dst)=some q) (hv:∀(dd:Option Tmp) (op:Op) (ty:TypeId) (ps:String) (af:Array Edge) (E:Qp),gE E q=t0→VWant ops E ⟨dd,op,ty,ps,af,some (i,w)⟩ false) {l2:List Oper} (l1:List Oper):∀(E:Qp),QcJ i w q l1=true→gE E q=t0→VRunO call P ops l2 (Qdi E l1) O nx K→VRunO call P ops (l1++l2) E O nx K:=by
 induction l1 with
 | nil=>exact fun E _ _ hK=>hK
 | cons o r ih =>
  intro E hc hq hK
  obtain ⟨dd,op,ty,ps,af,g⟩:=o
  simp only [QcJ,Bool.and_eq_true] at hc
  obtain ⟨⟨h1,h2⟩,h3⟩:=hc
  cases g with
  | none=>cases h1
  | some g =>
   obtain ⟨a,b⟩:=g
   simp only [Bool.and_eq_true] at h1
   have e1:a=i:=Nat.eq_of_beq_eq_true h1.1
   have e2:b=w:=by simpa using h1.2
   subst e1
   subst e2
   refine VRunO.off (hv _ _ _ _ _ _ hq) (ih _ h3 ?_ hK)
   cases dd with
   | none=>exact hq
   | some d =>
    refine (QcZ E (d:=d) (t:=q) ?_ _).trans hq
    rw [beq_eq_false_iff_ne]
    rintro rfl
    simp at h2
theorem Zh (m i:Nat) (w:Bool) (q:Nat) (hb:b= !w) (hd:(ops[i]?).bind (·.dst)=some q) (hq:gE E q= .bool b) (hc:QcJ i w q (l.take m)=true) (hK:VRunO call P ops (l.drop m) (Qdi E (l.take m)) O nx K):VRunO call P ops l E O nx K:=by
 rw [← List.take_append_drop m l]
 exact Qex hd (fun _ _ _ _ _ _ h=>VWant.not hd h hb) _ _ hc hq hK
theorem QeX (m i:Nat) (w:Bool) (q:Nat) (hd:(ops[i]?).bind (·.dst)=some q) (hq:gE E q= .tup []) (hc:QcJ i w q (l.take m)=true) (hK:VRunO call P ops (l.drop m) (Qdi E (l.take m)) O nx K):VRunO call P ops l E O nx K:=by
 rw [← List.take_append_drop m l]
 exact Qex hd (fun _ _ _ _ _ _ h=>VWant.undef hd h) _ _ hc hq hK
end
end Go.Proofs.YthifchndolccgaaDoor.AE
namespace Go.Proofs.YthifchndolccgaaDoor.AE
open Go Go.RowKit
set_option linter.unusedVariables false
set_option linter.unusedSimpArgs false
structure D.Grid where
 Rows:Int
 Cols:Int
 Cells:ByteArray
def QdD : AK D.Grid:=AK.iso (AK.pair (AK.int .i64) (AK.pair (AK.int .i64) AK.string)) (fun x=>(x.Rows,x.Cols,x.Cells))
def QcP (x:D.Grid):Prop:=((Lit.int .i64 x.Rows).wf=true)∧((Lit.int .i64 x.Cols).wf=true)∧(x.Cells.size≤maxLen)
structure D.Step where
 Kind:Int
 Word:ByteArray
 A:Int
 B:Int
structure D.Note where
 Cell:Int
 Letter:ByteArray
 Tick:Int
 Who:Int
def QdC : AK D.Note:=AK.iso (AK.pair (AK.int .i64) (AK.pair AK.string (AK.pair (AK.int .i64) (AK.int .i64)))) (fun x=>(x.Cell,x.Letter,x.Tick,x.Who))
def QbY (x:D.Note):Prop:=((Lit.int .i64 x.Cell).wf=true)∧(x.Letter.size≤maxLen)∧((Lit.int .i64 x.Tick).wf=true)∧((Lit.int .i64 x.Who).wf=true)
structure D.Slot where
 Number:Int
 Down:Bool
 Cell:Int
 Length:Int
theorem Qe1 : Zq Tryd.prog 23 QdD QcP:=Jt (Yp (P:=Tryd.prog) (t:=23) (fun x:D.Grid=>(x.Rows,x.Cols,x.Cells)) (fun x=>⟨x.1,x.2.1,x.2.2⟩) (fun _=>rfl) Tryd.underlying23 (by kernel_rfl) (Q0 rfl (by kernel_rfl) (Zp (k:= .i64) Tryd.underlying3) (Q0 rfl (by kernel_rfl) (Zp (k:= .i64) Tryd.underlying3) (Jv rfl (by kernel_rfl) (Yq Tryd.underlying9))))) (fun _ h=>h)
theorem QeU : Zq Tryd.prog 60 QdC QbY:=Jt (Yp (P:=Tryd.prog) (t:=60) (fun x:D.Note=>(x.Cell,x.Letter,x.Tick,x.Who)) (fun x=>⟨x.1,x.2.1,x.2.2.1,x.2.2.2⟩) (fun _=>rfl) Tryd.underlying60 (by kernel_rfl) (Q0 rfl (by kernel_rfl) (Zp (k:= .i64) Tryd.underlying3) (Q0 rfl (by kernel_rfl) (Yq Tryd.underlying9) (Q0 rfl (by kernel_rfl) (Zp (k:= .i64) Tryd.underlying3) (Jv rfl (by kernel_rfl) (Zp (k:= .i64) Tryd.underlying3)))))) (fun _ h=>h)
theorem ZD : Qj Tryd.prog 3=some false:=by kernel_rfl
theorem Jb : Tryd.prog.cellsOf 3=1:=by kernel_rfl
theorem JB : (Tryd.prog.info? 3).isSome=true:=by kernel_rfl
theorem zo3 : QH Tryd.prog 3=some (.int .i64 0):=by kernel_rfl
theorem sz5 : Tryd.prog.cellsOf 5=1:=by kernel_rfl
theorem if5 : (Tryd.prog.info? 5).isSome=true:=by kernel_rfl
theorem Yv : Qj Tryd.prog 9=some false:=by kernel_rfl
theorem sz9 : Tryd.prog.cellsOf 9=1:=by kernel_rfl
theorem if9 : (Tryd.prog.info? 9).isSome=true:=by kernel_rfl
theorem QdJ : Qj Tryd.prog 23=some true:=by kernel_rfl
theorem QdP : Tryd.prog.cellsOf 23=3:=by kernel_rfl
theorem J7 : Qj Tryd.prog 28=some true:=by kernel_rfl
theorem JF : Tryd.prog.cellsOf 28=3:=by kernel_rfl
theorem QeW : (Tryd.prog.info? 28).isSome=true:=by kernel_rfl
theorem QeI : QH Tryd.prog 28=some (.agg #[.int .i64 0, .int .i64 0, .string ByteArray.empty]):=by kernel_rfl
theorem QeH : closedV (.agg #[.int .i64 0, .int .i64 0, .string ByteArray.empty])=true:=by kernel_rfl
theorem QeN : Qj Tryd.prog 60=some true:=by kernel_rfl
theorem Qdw : Tryd.prog.cellsOf 60=4:=by kernel_rfl
theorem QeF : (Tryd.prog.info? 60).isSome=true:=by kernel_rfl
theorem QbQ : Qj Tryd.prog 64=some true:=by kernel_rfl
theorem Zd : Tryd.prog.cellsOf 64=4:=by kernel_rfl
theorem Z2 : (Tryd.prog.info? 64).isSome=true:=by kernel_rfl
theorem Qcn : QH Tryd.prog 64=some (.agg #[.int .i64 0, .string ByteArray.empty, .int .i64 0, .int .i64 0]):=by kernel_rfl
theorem Qcs : closedV (.agg #[.int .i64 0, .string ByteArray.empty, .int .i64 0, .int .i64 0])=true:=by kernel_rfl
theorem QeC : Qj Tryd.prog 93=some true:=by kernel_rfl
theorem Qd6 : Tryd.prog.cellsOf 93=4:=by kernel_rfl
theorem QeZ : (Tryd.prog.info? 93).isSome=true:=by kernel_rfl
theorem QeK : QH Tryd.prog 93=some (.agg #[.int .i64 0, .string ByteArray.empty, .int .i64 0, .int .i64 0]):=by kernel_rfl
theorem Qey : closedV (.agg #[.int .i64 0, .string ByteArray.empty, .int .i64 0, .int .i64 0])=true:=by kernel_rfl
theorem Qeq (k o:Nat):Qc Tryd.prog 23 (.pointer (some ⟨k,o,none⟩)) 0=some (.pointer (some ⟨k,o+0,none⟩)):=by simp [Qc,Tryd.underlying23,JB,Jb]
theorem Qel (k o:Nat):Qc Tryd.prog 23 (.pointer (some ⟨k,o,none⟩)) 1=some (.pointer (some ⟨k,o+1,none⟩)):=by simp [Qc,Tryd.underlying23,JB,Jb]
theorem QcV (k o:Nat):Qc Tryd.prog 23 (.pointer (some ⟨k,o,none⟩)) 2=some (.pointer (some ⟨k,o+2,none⟩)):=by simp [Qc,Tryd.underlying23,if9,sz9]
theorem J6 (k o:Nat):Qc Tryd.prog 28 (.pointer (some ⟨k,o,none⟩)) 0=some (.pointer (some ⟨k,o+0,none⟩)):=by simp [Qc,Tryd.underlying28,JB,Jb]
theorem JN (k o:Nat):Qc Tryd.prog 28 (.pointer (some ⟨k,o,none⟩)) 1=some (.pointer (some ⟨k,o+1,none⟩)):=by simp [Qc,Tryd.underlying28,JB,Jb]
theorem QO (k o:Nat):Qc Tryd.prog 28 (.pointer (some ⟨k,o,none⟩)) 2=some (.pointer (some ⟨k,o+2,none⟩)):=by simp [Qc,Tryd.underlying28,if9,sz9]
theorem Qd7 (k o:Nat):Qc Tryd.prog 60 (.pointer (some ⟨k,o,none⟩)) 0=some (.pointer (some ⟨k,o+0,none⟩)):=by simp [Qc,Tryd.underlying60,JB,Jb]
theorem QcO (k o:Nat):Qc Tryd.prog 60 (.pointer (some ⟨k,o,none⟩)) 1=some (.pointer (some ⟨k,o+1,none⟩)):=by simp [Qc,Tryd.underlying60,if9,sz9]
theorem Qeo (k o:Nat):Qc Tryd.prog 60 (.pointer (some ⟨k,o,none⟩)) 2=some (.pointer (some ⟨k,o+2,none⟩)):=by simp [Qc,Tryd.underlying60,JB,Jb]
theorem Qd1 (k o:Nat):Qc Tryd.prog 60 (.pointer (some ⟨k,o,none⟩)) 3=some (.pointer (some ⟨k,o+3,none⟩)):=by simp [Qc,Tryd.underlying60,JB,Jb]
theorem QV (k o:Nat):Qc Tryd.prog 64 (.pointer (some ⟨k,o,none⟩)) 0=some (.pointer (some ⟨k,o+0,none⟩)):=by simp [Qc,Tryd.underlying64,JB,Jb]
theorem Q9 (k o:Nat):Qc Tryd.prog 64 (.pointer (some ⟨k,o,none⟩)) 1=some (.pointer (some ⟨k,o+1,none⟩)):=by simp [Qc,Tryd.underlying64,if9,sz9]
theorem YD (k o:Nat):Qc Tryd.prog 64 (.pointer (some ⟨k,o,none⟩)) 2=some (.pointer (some ⟨k,o+2,none⟩)):=by simp [Qc,Tryd.underlying64,JB,Jb]
theorem Yz (k o:Nat):Qc Tryd.prog 64 (.pointer (some ⟨k,o,none⟩)) 3=some (.pointer (some ⟨k,o+3,none⟩)):=by simp [Qc,Tryd.underlying64,JB,Jb]
theorem QdL (k o:Nat):Qc Tryd.prog 91 (.pointer (some ⟨k,o,none⟩)) 0=some (.pointer (some ⟨k,o+0,none⟩)):=by simp [Qc,Tryd.underlying91,JB,Jb]
theorem QdZ (k o:Nat):Qc Tryd.prog 91 (.pointer (some ⟨k,o,none⟩)) 1=some (.pointer (some ⟨k,o+1,none⟩)):=by simp [Qc,Tryd.underlying91,if9,sz9]
theorem Qd9 (k o:Nat):Qc Tryd.prog 91 (.pointer (some ⟨k,o,none⟩)) 2=some (.pointer (some ⟨k,o+2,none⟩)):=by simp [Qc,Tryd.underlying91,JB,Jb]
theorem Qej (k o:Nat):Qc Tryd.prog 91 (.pointer (some ⟨k,o,none⟩)) 3=some (.pointer (some ⟨k,o+3,none⟩)):=by simp [Qc,Tryd.underlying91,JB,Jb]
theorem QdO (k o:Nat):Qc Tryd.prog 93 (.pointer (some ⟨k,o,none⟩)) 0=some (.pointer (some ⟨k,o+0,none⟩)):=by simp [Qc,Tryd.underlying93,JB,Jb]
theorem QdX (k o:Nat):Qc Tryd.prog 93 (.pointer (some ⟨k,o,none⟩)) 1=some (.pointer (some ⟨k,o+1,none⟩)):=by simp [Qc,Tryd.underlying93,if9,sz9]
theorem QdT (k o:Nat):Qc Tryd.prog 93 (.pointer (some ⟨k,o,none⟩)) 2=some (.pointer (some ⟨k,o+2,none⟩)):=by simp [Qc,Tryd.underlying93,JB,Jb]
theorem Qec (k o:Nat):Qc Tryd.prog 93 (.pointer (some ⟨k,o,none⟩)) 3=some (.pointer (some ⟨k,o+3,none⟩)):=by simp [Qc,Tryd.underlying93,JB,Jb]
theorem follows : Tryd.prog.follows .mixedOrders=true:=by kernel_rfl
theorem Qcz : Plain Tryd.prog:=by
 unfold Plain
 kernel_rfl
end Go.Proofs.YthifchndolccgaaDoor.AE
namespace Go.Proofs.YthifchndolccgaaDoor.AE
open Go Go.RowKit
set_option linter.unusedVariables false
set_option linter.unusedSimpArgs false
def Qe (m:Bool) (x:D.Grid):List T:= [.int .i64 x.Rows, .int .i64 x.Cols, .str x.Cells]
theorem QR : EncOk Qe 3:=⟨fun _ _=>rfl,fun x=>Qi (.int _ _) (Qi (.int _ _) (Qi (.str _) (Zt))),fun m x=>by simp only [Qe,fzL,AE.fz],fun m x=>Qi rfl (Qi rfl (Qi rfl (Zt))),fun x=>Qi rfl (Qi rfl (Qi rfl (Zt)))⟩
def QX (x:D.Grid):Nat:=ByteArray.size x.Cells
theorem Qd5 : RK QdD Qe:=QdI (JZ Qbu (JZ Qbu QdG)) (fun _=>rfl)
def Ym (m:Bool) (x:D.Step):List T:= [.int .i64 x.Kind, .str x.Word, .int .i64 x.A, .int .i64 x.B]
noncomputable instance : DecidableEq D.Note:=Classical.typeDecidableEq _
def Qa (m:Bool) (x:D.Note):List T:= [.int .i64 x.Cell, .str x.Letter, .int .i64 x.Tick, .int .i64 x.Who]
theorem okeNote : EncOk Qa 4:=⟨fun _ _=>rfl,fun x=>Qi (.int _ _) (Qi (.str _) (Qi (.int _ _) (Qi (.int _ _) (Zt)))),fun m x=>by simp only [Qa,fzL,AE.fz],fun m x=>Qi rfl (Qi rfl (Qi rfl (Qi rfl (Zt)))),fun x=>Qi rfl (Qi rfl (Qi rfl (Qi rfl (Zt))))⟩
def Qy (x:D.Note):Nat:=ByteArray.size x.Letter
theorem Qek : Qdy Qa:=fun _ _=>rfl
theorem Qer : RK QdC Qa:=QdI (JZ Qbu (JZ QdG (JZ Qbu Qbu))) (fun _=>rfl)
theorem U5 : Tryd.prog.underlying 5=some (.int .u8):=Tryd.underlying5
theorem U9 : Tryd.prog.underlying 9=some .string:=Tryd.underlying9
theorem U24 : Tryd.prog.underlying 24=some (.slice 60):=Tryd.underlying24
theorem U30 : Tryd.prog.underlying 30=some (.slice 64):=Tryd.underlying30
theorem U68 : Tryd.prog.underlying 68=some (.slice 3):=Tryd.underlying68
theorem U88 : Tryd.prog.underlying 88=some (.slice 5):=Tryd.underlying88
end Go.Proofs.YthifchndolccgaaDoor.AE
namespace Go.Proofs.YthifchndolccgaaDoor.AE
open Go Go.RowKit
set_option linter.unusedVariables false
set_option linter.unusedSimpArgs false
set_option maxRecDepth 20000
set_option maxHeartbeats 2000000
theorem Qai (n:Nat) (a:D.Grid) (left:Int) (h0:0≤left) (h1:left≤(mx:Int)) (hg:QcP a):Pure (Qo Tryd.prog (n+1)) 6 [(T.agg (Qe false a)),(tI left)] (tI (ZO (QX a) left)):=by
 refine Pure.intro (rs:= [ResultVar.tmp 4]) Tryd.func6 rfl rfl rfl (E0:= [(0,(T.agg (Qe false a))),(1,(tI left))]) rfl ?_
 obtain ⟨hlim,hmx,hmax⟩:=Q3
 obtain ⟨hg0,hg1,hg2⟩:=hg
 refine sr (kO (B.box (ts:=(Qe false a)) (tv (T.agg (Qe false a)) rfl) nofun rfl) (fO (OF.assign (VEv.int .i64 0)) (nt (sr (mO (tI left) rfl (lf (tS a.Cells) rfl QcV rfl rfl Yv (lO (B.lenS (tv (tS a.Cells) rfl) U9) (fO (B.sub (n:=(left - ((a.Cells.size:Nat):Int))) (tv (tI left) rfl) (tv (tN a.Cells.size) rfl) (by (rw [Q1 (by omega)];done))) (aO (tI (left - ((a.Cells.size:Nat):Int))) rfl (nt (sq ?_)))))))))))
 refine sr (mO (tI (left - ((a.Cells.size:Nat):Int))) rfl (fO (xls (tv (tI (left - ((a.Cells.size:Nat):Int))) rfl) (VEv.int .i64 0)) (nt ?_)))
 refine cd ((left - ((a.Cells.size:Nat):Int))<0) rfl (fun fhc0=> ?_) fun fhc0=> ?_
 ·refine sr ?_
  refine fO (OF.assign (VEv.int .i64 (-1))) (nt (rt (tr (vi (n':=(-1)) rfl ?_))))
  exact JJ (by simp only [QX];omega)
 refine sk (tn (sr (mO (tI (left - ((a.Cells.size:Nat):Int))) rfl (aO (tI (left - ((a.Cells.size:Nat):Int))) rfl (nt (rt (vi (n':=(left - ((a.Cells.size:Nat):Int))) rfl ?_)))))))
 rw [← QbF (z:=QX a) (l:=left) (by simp only [QX];omega)]
 all_goals rfl
theorem Qak (n:Nat) (a:D.Note) (left:Int) (h0:0≤left) (h1:left≤(mx:Int)) (hg:QbY a):Pure (Qo Tryd.prog (n+1)) 29 [(T.agg (Qa false a)),(tI left)] (tI (ZO (Qy a) left)):=by
 refine Pure.intro (rs:= [ResultVar.tmp 4]) Tryd.func29 rfl rfl rfl (E0:= [(0,(T.agg (Qa false a))),(1,(tI left))]) rfl ?_
 obtain ⟨hlim,hmx,hmax⟩:=Q3
 obtain ⟨hg0,hg1,hg2,hg3⟩:=hg
 refine sr (kO (B.box (ts:=(Qa false a)) (tv (T.agg (Qa false a)) rfl) nofun rfl) (fO (OF.assign (VEv.int .i64 0)) (nt (sr (mO (tI left) rfl (lf (tS a.Letter) rfl QcO rfl rfl Yv (lO (B.lenS (tv (tS a.Letter) rfl) U9) (fO (B.sub (n:=(left - ((a.Letter.size:Nat):Int))) (tv (tI left) rfl) (tv (tN a.Letter.size) rfl) (by first | rfl | (rw [Q1 (by omega)];omega) | (rw [Q1 (by omega)];done))) (aO (tI (left - ((a.Letter.size:Nat):Int))) rfl (nt (sq ?_)))))))))))
 refine sr (mO (tI (left - ((a.Letter.size:Nat):Int))) rfl (fO (xls (tv (tI (left - ((a.Letter.size:Nat):Int))) rfl) (VEv.int .i64 0)) (nt ?_)))
 refine cd ((left - ((a.Letter.size:Nat):Int))<0) rfl (fun fhc0=> ?_) fun fhc0=> ?_
 ·refine sr ?_
  refine fO (OF.assign (VEv.int .i64 (-1))) (nt (rt (tr (vi (n':=(-1)) rfl ?_))))
  exact JJ (by simp only [Qy];omega)
 refine sk (tn (sr (mO (tI (left - ((a.Letter.size:Nat):Int))) rfl (aO (tI (left - ((a.Letter.size:Nat):Int))) rfl (nt (rt (vi (n':=(left - ((a.Letter.size:Nat):Int))) rfl ?_)))))))
 rw [← QbF (z:=Qy a) (l:=left) (by simp only [Qy];omega)]
 all_goals first | rfl | (simp only [Qy];done) | (simp only [Qy];omega)
theorem Qaa (n:Nat) (a:List D.Note) (left:Int) (h0:0≤left) (h1:left≤(mx:Int)) (hg:a.length≤maxLen∧∀x∈a,QbY x):Pure (Qo Tryd.prog (n+2)) 7 [(rd 4 Qa a),(tI left)] (tI (ZO (zL Qy a) left)):=by
 refine Pure.intro (rs:= [ResultVar.tmp 4]) Tryd.func7 rfl rfl rfl (E0:= [(0,(rd 4 Qa a)),(1,(tI left))]) rfl ?_
 obtain ⟨hlim,hmx,hmax⟩:=Q3
 obtain ⟨hg1,hg2⟩:=hg
 refine sr (fO (OF.assign (VEv.int .i64 0)) (nt (sr (mO (tI left) rfl (mO (rd 4 Qa a) rfl (lO (B.lenR (m:=a.length) (tv (rd 4 Qa a) rfl) U24 (List.length_map ..)) (fO (B.sub (n:=(left - ((a.length:Nat):Int))) (tv (tI left) rfl) (tv (tN a.length) rfl) (by first | exact hg2 _ (List.mem_of_getElem? hx1) | rfl | (rw [Q1 (by omega)];omega) | (rw [Q1 (by omega)];done))) (aO (tI (left - ((a.length:Nat):Int))) rfl (nt (sq (sr ?_)))))))))))
 refine mO (tI (left - ((a.length:Nat):Int))) rfl (fO (xls (tv (tI (left - ((a.length:Nat):Int))) rfl) (VEv.int .i64 0)) (nt ?_))
 refine cd ((left - ((a.length:Nat):Int))<0) rfl (fun fhc0=> ?_) fun fhc0=> ?_
 ·refine sr ?_
  refine fO (OF.assign (VEv.int .i64 (-1))) (nt (rt (tr (vi (n':=(-1)) rfl ?_))))
  exact SzI.early fhc0
 refine sk (tn (sq (sr (fO (OF.assign (VEv.int .i64 0)) (nt (VRun.block ?_))))))
 refine VRun.loop (A:=Nat×Int) (fun s_=> [(0,(rd 4 Qa a)),(1,(tI s_.2)),(5,(tN s_.1))]) (fun s_=>Jo []) 0 (fun s_=>SzI Qy a left s_.1 s_.2) (fun s_=>a.length - s_.1) ((0,left - (a.length:Int)):Nat×Int) ?_ (Wk.mk (fun k=>k) ?_ ?_ ?_) ?_
 ·exact SzI.start h1 fhc0
 ·exact (b2 (bc ⟨(congrArg (T.int .i64) (show (left - ((a.length:Nat):Int))=(left - (a.length:Int)) from (by first | rfl | omega | (simp;done) | (push_cast;omega)))),rfl⟩ (b2 bn)))
 ·exact bn
 ·exact nd rfl
 rintro ⟨i,r⟩ (hI':SzI Qy a left i r)
 show VRun _ _ _ [(0,(rd 4 Qa a)),(1,(tI r)),(5,(tN i))] (Jo []) 0 _
 have hI2:=hI'.1
 have hI3:=hI'.2.1
 have hI4:=hI'.2.2.1
 refine sq (sr (mO (tN i) rfl (mO (rd 4 Qa a) rfl (lO (B.lenR (m:=a.length) (tv (rd 4 Qa a) rfl) U24 (List.length_map ..)) (fO (Y9 (tv (tN i) rfl) (tv (tN a.length) rfl)) (nt ?_))))))
 refine cd (i<a.length) rfl (fun fhc1=> ?_) fun fhc1=> ?_
 ·refine sk ?_
  refine tn (sq (VRun.block (sr (mO (rd 4 Qa a) rfl (mO (tN i) rfl ?_)))))
  obtain ⟨x1,hx1⟩:∃x,a[i]? =some x:=⟨_,List.getElem?_eq_getElem (by first | exact hg2 _ (List.mem_of_getElem? hx1) | omega)⟩
  refine fO (OF.indexAddrR (row:=(Qa false x1)) (i:=i) (tv (rd 4 Qa a) rfl) (tv (tN i) rfl) rfl (QJ _ hx1) U24 Qdw QeF) (lO (OL.loadRn (us:=(Qa false x1)) (tv (T.rp (Qa false x1)) rfl) QeN Qdw (lb rfl) rfl) (mO (tI r) rfl (cO (cS (vc (tv (T.agg (Qa false x1)) rfl) (vc (tv (tI r) rfl) vn)) (LendL.cons (lg okeNote) (lp rfl ln)) (Qak (n+0) x1 r (by first | exact hg2 _ (List.mem_of_getElem? hx1) | assumption | omega) (by first | exact hg2 _ (List.mem_of_getElem? hx1) | assumption | omega) (by first | exact hg2 _ (List.mem_of_getElem? hx1) | assumption | omega)) rfl rfl) (aO (tI (ZO (Qy x1) r)) rfl (nt (sr (mO (tI (ZO (Qy x1) r)) rfl (fO (xls (tv (tI (ZO (Qy x1) r)) rfl) (VEv.int .i64 0)) (nt ?_)))))))))
  refine cd (ZO (Qy x1) r<0) rfl (fun fhc2=> ?_) fun fhc2=> ?_
  ·refine sr ?_
   refine fO (OF.assign (VEv.int .i64 (-1))) (nt (rt (vinB.r (tr (tr (vinB.r (tr (vi (n':=(-1)) rfl ?_))))))))
   exact hI'.bad hx1 fhc2
  refine sk (vinB.n (tn (VRun.region (mO (tN i) rfl (fO (Zv (tv (tN i) rfl) (VEv.int .i64 1) (by first | exact hg2 _ (List.mem_of_getElem? hx1) | omega)) (aO (tN (i+1)) rfl (VRunO.nil (tn ?_))))))))
  refine ⟨((i+1,ZO (Qy x1) r):Nat×Int),?_,?_,Wk.mk (fun k=>k) ?_ ?_ ?_⟩
  ·exact hI'.next hx1 fhc2
  ·first | omega | (simp only [];omega) | (show _<_;omega) | (simp;omega)
  ·exact (b2 (b2 (b2 bn)))
  ·exact bn
  ·exact nd rfl
 refine VRun.exit (vthn.e (vthn.e (vinB.e (tn (sr (mO (tI r) rfl (aO (tI r) rfl (nt (rt (vi (n':=r) rfl ?_))))))))))
 exact hI'.done fhc1
end Go.Proofs.YthifchndolccgaaDoor.AE
namespace Go.Proofs.YthifchndolccgaaDoor.AE
open Go Go.RowKit
set_option linter.unusedVariables false
set_option linter.unusedSimpArgs false
set_option maxRecDepth 20000
set_option maxHeartbeats 2000000
theorem Yo (n:Nat) (a:D.Grid):Pure (Qo Tryd.prog (n+1)) 9 [(T.agg (Qe false a))] (T.agg (Qe true a)):=by
 refine Pure.intro (rs:= [ResultVar.cell 2 28]) Tryd.func9 rfl rfl rfl (E0:= [(0,(T.agg (Qe false a)))]) rfl ?_
 obtain ⟨hlim,hmx,hmax⟩:=Q3
 refine sr (kO (B.box (ts:=(Qe false a)) (tv (T.agg (Qe false a)) rfl) nofun rfl) (kO (B.alloc (t:=(T.agg [(tN 0),(tN 0),(tS ByteArray.empty)])) (ts:= [(tN 0),(tN 0),(tS ByteArray.empty)]) QeI QeH nofun (fun _=> .agg _ _ rfl (Jm (RL.cons (.int _ _) (RL.cons (.int _ _) (RL.cons (.str _) (RL.nil _)))))) rfl) (nt (sr (kO (B.alloc (t:=(T.agg [(tN 0),(tN 0),(tS ByteArray.empty)])) (ts:= [(tN 0),(tN 0),(tS ByteArray.empty)]) QeI QeH nofun (fun _=> .agg _ _ rfl (Jm (RL.cons (.int _ _) (RL.cons (.int _ _) (RL.cons (.str _) (RL.nil _)))))) rfl) (nt (sr (lf (tI a.Rows) rfl Qeq rfl rfl ZD (fO (OF.fieldAddrO (tv (T.op 2 0) rfl) J6) (cO (B.storeO (us:= [(tI a.Rows)]) (ws:= [(tI a.Rows),(tN 0),(tS ByteArray.empty)]) (tv (T.op 2 0) rfl) (tv (tI a.Rows) rfl) nofun rfl rfl (lb rfl) JB Jb (bc rfl bn) rfl) (nt ?_)))))))))))
 refine sr (lf (tI a.Cols) rfl Qel rfl rfl ZD (fO (OF.fieldAddrO (tv (T.op 2 0) rfl) JN) (cO (B.storeO (us:= [(tI a.Cols)]) (ws:= [(tI a.Rows),(tI a.Cols),(tS ByteArray.empty)]) (tv (T.op 2 1) rfl) (tv (tI a.Cols) rfl) nofun rfl rfl (lb rfl) JB Jb (bc rfl bn) rfl) (nt (sr (lf (tS a.Cells) rfl QcV rfl rfl Yv (fO (OF.fieldAddrO (tv (T.op 2 0) rfl) QO) (cO (B.storeO (us:= [(tS a.Cells)]) (ws:= [(tI a.Rows),(tI a.Cols),(tS a.Cells)]) (tv (T.op 2 2) rfl) (tv (tS a.Cells) rfl) nofun rfl rfl (lb rfl) if9 sz9 (bc rfl bn) rfl) (nt (sr (lO (OL.loadOn (us:=(Qe false a)) (tv (T.op 2 0) rfl) rfl J7 JF (lb rfl) rfl) ?_)))))))))))
 refine cO (B.storeW (us:=(Qe false a)) (tv (T.op 1 0) rfl) (tv (T.agg (Qe false a)) rfl) nofun rfl rfl rfl QeW JF (bc rfl (bc rfl (bc rfl bn)))) (nt (rt ?_))
 refine vfin.eq (r':=(T.agg (Qe false a))) ?_ (vfin.r (VRes.celln (ws:=(Qe false a)) rfl rfl J7 JF (lb rfl) rfl VRes.nil) (Give.agg (GiveL.cons (Give.int _ _) (GiveL.cons (Give.int _ _) (GiveL.cons (Give.str _) GiveL.nil (by decide)) (by decide)) (by decide))))
 rfl
theorem Qdf (n:Nat) (a:D.Step):Pure (Qo Tryd.prog (n+1)) 67 [(T.agg (Ym false a))] (T.agg (Ym true a)):=by
 refine Pure.intro (rs:= [ResultVar.cell 2 93]) Tryd.func67 rfl rfl rfl (E0:= [(0,(T.agg (Ym false a)))]) rfl ?_
 obtain ⟨hlim,hmx,hmax⟩:=Q3
 refine sr (kO (B.box (ts:=(Ym false a)) (tv (T.agg (Ym false a)) rfl) nofun rfl) (kO (B.alloc (t:=(T.agg [(tN 0),(tS ByteArray.empty),(tN 0),(tN 0)])) (ts:= [(tN 0),(tS ByteArray.empty),(tN 0),(tN 0)]) QeK Qey nofun (fun _=> .agg _ _ rfl (Jm (RL.cons (.int _ _) (RL.cons (.str _) (RL.cons (.int _ _) (RL.cons (.int _ _) (RL.nil _))))))) rfl) (nt (sr (kO (B.alloc (t:=(T.agg [(tN 0),(tS ByteArray.empty),(tN 0),(tN 0)])) (ts:= [(tN 0),(tS ByteArray.empty),(tN 0),(tN 0)]) QeK Qey nofun (fun _=> .agg _ _ rfl (Jm (RL.cons (.int _ _) (RL.cons (.str _) (RL.cons (.int _ _) (RL.cons (.int _ _) (RL.nil _))))))) rfl) (nt (sr (lf (tI a.Kind) rfl QdL rfl rfl ZD (fO (OF.fieldAddrO (tv (T.op 2 0) rfl) QdO) (cO (B.storeO (us:= [(tI a.Kind)]) (ws:= [(tI a.Kind),(tS ByteArray.empty),(tN 0),(tN 0)]) (tv (T.op 2 0) rfl) (tv (tI a.Kind) rfl) nofun rfl rfl (lb rfl) JB Jb (bc rfl bn) rfl) (nt ?_)))))))))))
 refine sr (lf (tS a.Word) rfl QdZ rfl rfl Yv (fO (OF.fieldAddrO (tv (T.op 2 0) rfl) QdX) (cO (B.storeO (us:= [(tS a.Word)]) (ws:= [(tI a.Kind),(tS a.Word),(tN 0),(tN 0)]) (tv (T.op 2 1) rfl) (tv (tS a.Word) rfl) nofun rfl rfl (lb rfl) if9 sz9 (bc rfl bn) rfl) (nt (sr (lf (tI a.A) rfl Qd9 rfl rfl ZD (fO (OF.fieldAddrO (tv (T.op 2 0) rfl) QdT) (cO (B.storeO (us:= [(tI a.A)]) (ws:= [(tI a.Kind),(tS a.Word),(tI a.A),(tN 0)]) (tv (T.op 2 2) rfl) (tv (tI a.A) rfl) nofun rfl rfl (lb rfl) JB Jb (bc rfl bn) rfl) (nt (sr (lf (tI a.B) rfl Qej rfl rfl ZD ?_)))))))))))
 refine fO (OF.fieldAddrO (tv (T.op 2 0) rfl) Qec) (cO (B.storeO (us:= [(tI a.B)]) (ws:= [(tI a.Kind),(tS a.Word),(tI a.A),(tI a.B)]) (tv (T.op 2 3) rfl) (tv (tI a.B) rfl) nofun rfl rfl (lb rfl) JB Jb (bc rfl bn) rfl) (nt (sr (lO (OL.loadOn (us:=(Ym false a)) (tv (T.op 2 0) rfl) rfl QeC Qd6 (lb rfl) rfl) (cO (B.storeW (us:=(Ym false a)) (tv (T.op 1 0) rfl) (tv (T.agg (Ym false a)) rfl) nofun rfl rfl rfl QeZ Qd6 (bc rfl (bc rfl (bc rfl (bc rfl bn))))) (nt (rt ?_)))))))
 refine vfin.eq (r':=(T.agg (Ym false a))) ?_ (vfin.r (VRes.celln (ws:=(Ym false a)) rfl rfl QeC Qd6 (lb rfl) rfl VRes.nil) (Give.agg (GiveL.cons (Give.int _ _) (GiveL.cons (Give.str _) (GiveL.cons (Give.int _ _) (GiveL.cons (Give.int _ _) GiveL.nil (by decide)) (by decide)) (by decide)) (by decide))))
 rfl
theorem Qad (n:Nat) (a:D.Note):Pure (Qo Tryd.prog (n+1)) 33 [(T.agg (Qa false a))] (T.agg (Qa true a)):=by
 refine Pure.intro (rs:= [ResultVar.cell 2 64]) Tryd.func33 rfl rfl rfl (E0:= [(0,(T.agg (Qa false a)))]) rfl ?_
 obtain ⟨hlim,hmx,hmax⟩:=Q3
 refine sr (kO (B.box (ts:=(Qa false a)) (tv (T.agg (Qa false a)) rfl) nofun rfl) (kO (B.alloc (t:=(T.agg [(tN 0),(tS ByteArray.empty),(tN 0),(tN 0)])) (ts:= [(tN 0),(tS ByteArray.empty),(tN 0),(tN 0)]) Qcn Qcs nofun (fun _=> .agg _ _ rfl (Jm (RL.cons (.int _ _) (RL.cons (.str _) (RL.cons (.int _ _) (RL.cons (.int _ _) (RL.nil _))))))) rfl) (nt (sr (kO (B.alloc (t:=(T.agg [(tN 0),(tS ByteArray.empty),(tN 0),(tN 0)])) (ts:= [(tN 0),(tS ByteArray.empty),(tN 0),(tN 0)]) Qcn Qcs nofun (fun _=> .agg _ _ rfl (Jm (RL.cons (.int _ _) (RL.cons (.str _) (RL.cons (.int _ _) (RL.cons (.int _ _) (RL.nil _))))))) rfl) (nt (sr (lf (tI a.Cell) rfl Qd7 rfl rfl ZD (fO (OF.fieldAddrO (tv (T.op 2 0) rfl) QV) (cO (B.storeO (us:= [(tI a.Cell)]) (ws:= [(tI a.Cell),(tS ByteArray.empty),(tN 0),(tN 0)]) (tv (T.op 2 0) rfl) (tv (tI a.Cell) rfl) nofun rfl rfl (lb rfl) JB Jb (bc rfl bn) rfl) (nt ?_)))))))))))
 refine sr (lf (tS a.Letter) rfl QcO rfl rfl Yv (fO (OF.fieldAddrO (tv (T.op 2 0) rfl) Q9) (cO (B.storeO (us:= [(tS a.Letter)]) (ws:= [(tI a.Cell),(tS a.Letter),(tN 0),(tN 0)]) (tv (T.op 2 1) rfl) (tv (tS a.Letter) rfl) nofun rfl rfl (lb rfl) if9 sz9 (bc rfl bn) rfl) (nt (sr (lf (tI a.Tick) rfl Qeo rfl rfl ZD (fO (OF.fieldAddrO (tv (T.op 2 0) rfl) YD) (cO (B.storeO (us:= [(tI a.Tick)]) (ws:= [(tI a.Cell),(tS a.Letter),(tI a.Tick),(tN 0)]) (tv (T.op 2 2) rfl) (tv (tI a.Tick) rfl) nofun rfl rfl (lb rfl) JB Jb (bc rfl bn) rfl) (nt (sr (lf (tI a.Who) rfl Qd1 rfl rfl ZD ?_)))))))))))
 refine fO (OF.fieldAddrO (tv (T.op 2 0) rfl) Yz) (cO (B.storeO (us:= [(tI a.Who)]) (ws:= [(tI a.Cell),(tS a.Letter),(tI a.Tick),(tI a.Who)]) (tv (T.op 2 3) rfl) (tv (tI a.Who) rfl) nofun rfl rfl (lb rfl) JB Jb (bc rfl bn) rfl) (nt (sr (lO (OL.loadOn (us:=(Qa false a)) (tv (T.op 2 0) rfl) rfl QbQ Zd (lb rfl) rfl) (cO (B.storeW (us:=(Qa false a)) (tv (T.op 1 0) rfl) (tv (T.agg (Qa false a)) rfl) nofun rfl rfl rfl Z2 Zd (bc rfl (bc rfl (bc rfl (bc rfl bn))))) (nt (rt ?_)))))))
 refine vfin.eq (r':=(T.agg (Qa false a))) ?_ (vfin.r (VRes.celln (ws:=(Qa false a)) rfl rfl QbQ Zd (lb rfl) rfl VRes.nil) (Give.agg (GiveL.cons (Give.int _ _) (GiveL.cons (Give.str _) (GiveL.cons (Give.int _ _) (GiveL.cons (Give.int _ _) GiveL.nil (by decide)) (by decide)) (by decide)) (by decide))))
 first | rfl | (exact Zg (by omega)) | (symm;rw [decide_eq_false_iff_not];omega) | (symm;rw [decide_eq_true_eq];omega) | (simp_all;done)
theorem Zs (n:Nat) (a:List D.Note) (ha:a.length≤mx):Pure (Qo Tryd.prog (n+2)) 10 [(rd 4 Qa a)] (T.sl true 4 (a.map (Qa true))):=by
 refine Pure.intro (rs:= [ResultVar.tmp 2]) Tryd.func10 rfl rfl rfl (E0:= [(0,(rd 4 Qa a))]) rfl ?_
 obtain ⟨hlim,hmx,hmax⟩:=Q3
 refine sr (fO (OF.assign VEv.nils) (nt (sr (mO (rd 4 Qa a) rfl (lO (B.lenR (m:=a.length) (tv (rd 4 Qa a) rfl) U24 (List.length_map ..)) (kO (B.makeZ (n:=a.length) (m:=((List.replicate a.length (D.Note.mk 0 ByteArray.empty 0 0)).map (Qa true)).length) (rows:=((List.replicate a.length (D.Note.mk 0 ByteArray.empty 0 0)).map (Qa true))) (zr:=(Qa true (D.Note.mk 0 ByteArray.empty 0 0))) (tv (tN a.length) rfl) (tv (tN a.length) rfl) rfl U30 Qcn Qcs rfl (by rw [Zd];decide) (by first | omega | (simp only [List.length_map];omega) | (simp only [List.length_map,List.length_append,List.length_cons,List.length_nil,List.length_replicate,List.length_set,List.length_drop,List.length_take,YL] at *;omega)) (of_decide_eq_true (by kernel_rfl)) (Z0.int (Z0.str (Z0.int (Z0.int Z0.nil)))) Zd (List.map_replicate ..).symm (by rw [List.length_map,List.length_replicate])) (aO (T.os 4 0 0 (((List.replicate a.length (D.Note.mk 0 ByteArray.empty 0 0)).map (Qa true)).length)) rfl (nt (sq (sr (fO (OF.assign (VEv.int .i64 0)) ?_)))))))))))
 refine nt (VRun.block ?_)
 have he1:(List.replicate a.length (D.Note.mk 0 ByteArray.empty 0 0))=(a.take 0++List.replicate (a.length - 0) (D.Note.mk 0 ByteArray.empty 0 0)):=by first | rfl | (exact Qar hx1) | (simp;done) | omega
 refine VRun.loop (A:=Nat) (fun s_=> [(0,(rd 4 Qa a)),(2,T.nils),(3,(T.os 4 0 0 (((a.take s_++List.replicate (a.length - s_) (D.Note.mk 0 ByteArray.empty 0 0)).map (Qa true)).length))),(4,(tN s_))]) (fun s_=>Jo [(0,(Obj.rows 4 ((a.take s_++List.replicate (a.length - s_) (D.Note.mk 0 ByteArray.empty 0 0)).map (Qa true))))]) 1 (fun s_=>s_≤a.length) (fun s_=>a.length - s_) (0:Nat) ?_ (Wk.mk (fun k=>k) ?_ ?_ ?_) ?_
 ·first | trivial | (simp;done) | omega | (constructor<;>simp)
 ·exact (b2 (b2 (bc ⟨(congrArg (fun l_=>T.os 4 0 0 (List.map (Qa true) l_).length) he1),rfl⟩ (b2 bn))))
 ·exact (bc ⟨(congrArg (fun l_=>some (Obj.rows 4 (List.map (Qa true) l_))) he1),(lb rfl),rfl⟩ bn)
 ·exact nd rfl
 rintro i (hI':i≤a.length)
 show VRun _ _ _ [(0,(rd 4 Qa a)),(2,T.nils),(3,(T.os 4 0 0 (((a.take i++List.replicate (a.length - i) (D.Note.mk 0 ByteArray.empty 0 0)).map (Qa true)).length))),(4,(tN i))] (Jo [(0,(Obj.rows 4 ((a.take i++List.replicate (a.length - i) (D.Note.mk 0 ByteArray.empty 0 0)).map (Qa true))))]) 1 _
 have hfl:=Qdq (w:=(D.Note.mk 0 ByteArray.empty 0 0)) hI'
 refine sq (sr (mO (tN i) rfl (mO (rd 4 Qa a) rfl (lO (B.lenR (m:=a.length) (tv (rd 4 Qa a) rfl) U24 (List.length_map ..)) (fO (Y9 (tv (tN i) rfl) (tv (tN a.length) rfl)) (nt ?_))))))
 refine cd (i<a.length) rfl (fun fhc0=> ?_) fun fhc0=> ?_
 ·refine sk ?_
  refine tn (sq (VRun.block (VRun.region (mO (T.os 4 0 0 (((a.take i++List.replicate (a.length - i) (D.Note.mk 0 ByteArray.empty 0 0)).map (Qa true)).length)) rfl (mO (tN i) rfl (mO (rd 4 Qa a) rfl (mO (tN i) rfl ?_)))))))
  obtain ⟨x1,hx1⟩:∃x,a[i]? =some x:=⟨_,List.getElem?_eq_getElem (by omega)⟩
  refine fO (OF.indexAddrR (row:=(Qa false x1)) (i:=i) (tv (rd 4 Qa a) rfl) (tv (tN i) rfl) rfl (QJ _ hx1) U24 Qdw QeF) (lO (OL.loadRn (us:=(Qa false x1)) (tv (T.rp (Qa false x1)) rfl) QeN Qdw (lb rfl) rfl) (cO (cS (vc (tv (T.agg (Qa false x1)) rfl) vn) (LendL.cons (lg okeNote) ln) (Qad (n+0) x1) rfl rfl) ?_))
  obtain ⟨x2,hx2⟩:∃x,(a.take i++List.replicate (a.length - i) (D.Note.mk 0 ByteArray.empty 0 0))[i]? =some x:=⟨_,List.getElem?_eq_getElem (by first | omega | (simp only [List.length_map];omega) | (simp only [List.length_map,List.length_append,List.length_cons,List.length_nil,List.length_replicate,List.length_set,List.length_drop,List.length_take,YL] at *;omega))⟩
  refine fO (B.indexAddrO (i:=i) (tv (T.os 4 0 0 (((a.take i++List.replicate (a.length - i) (D.Note.mk 0 ByteArray.empty 0 0)).map (Qa true)).length)) rfl) (tv (tN i) rfl) rfl (by first | omega | (simp only [List.length_map];omega) | (simp only [List.length_map,List.length_append,List.length_cons,List.length_nil,List.length_replicate,List.length_set,List.length_drop,List.length_take,YL] at *;omega)) U30 Zd Z2) (cO (B.storeP (us:=(Qa true x1)) (rows':=(((a.take i++List.replicate (a.length - i) (D.Note.mk 0 ByteArray.empty 0 0)).set i x1).map (Qa true))) (row:=(Qa true x2)) (tv (T.orp 4 0 i 0) rfl) (tv (T.agg (Qa true x1)) rfl) nofun rfl (QJ _ hx2) rfl (lb rfl) Z2 Zd (bc rfl (bc rfl (bc rfl (bc rfl bn)))) (by intro r hr t ht;obtain ⟨x,_,rfl⟩:=List.mem_map.1 hr;rw [Qek] at ht;exact Qax (okeNote.pl _ t ht)) (Qa2 rfl)) (VRunO.nil (vinB.n (tn (VRun.region (mO (tN i) rfl (fO (Zv (tv (tN i) rfl) (VEv.int .i64 1) (by omega)) (aO (tN (i+1)) rfl (VRunO.nil (tn ?_))))))))))
  have he2:((a.take i++List.replicate (a.length - i) (D.Note.mk 0 ByteArray.empty 0 0)).set i x1)=(a.take (i+1)++List.replicate (a.length - (i+1)) (D.Note.mk 0 ByteArray.empty 0 0)):=by first | rfl | (exact Qar hx1) | (simp;done) | omega
  refine ⟨(i+1:Nat),?_,?_,Wk.mk (fun k=>k) ?_ ?_ ?_⟩
  ·first | trivial | omega | (simp;done) | exact ⟨by omega,hI'.2⟩
  ·first | omega | (simp only [];omega) | (show _<_;omega) | (simp;omega)
  ·exact (b2 (b2 (bc ⟨(congrArg (fun n_=>T.os 4 0 0 n_) (show ((a.take i++List.replicate (a.length - i) (D.Note.mk 0 ByteArray.empty 0 0)).map (Qa true)).length=((a.take (i+1)++List.replicate (a.length - (i+1)) (D.Note.mk 0 ByteArray.empty 0 0)).map (Qa true)).length from (by first | rfl | (simp only [List.length_map];omega) | (simp only [List.length_map,List.length_set,List.length_append,List.length_take,List.length_replicate,List.length_cons,List.length_nil];omega)))),rfl⟩ (b2 bn))))
  ·exact (bc ⟨(congrArg (fun l_=>some (Obj.rows 4 (List.map (Qa true) l_))) he2),(lb rfl),rfl⟩ bn)
  ·exact nd rfl
 refine VRun.exit (vthn.e (vthn.e (vinB.e (tn (sr (mO (T.os 4 0 0 (((a.take i++List.replicate (a.length - i) (D.Note.mk 0 ByteArray.empty 0 0)).map (Qa true)).length)) rfl (aO (T.os 4 0 0 (((a.take i++List.replicate (a.length - i) (D.Note.mk 0 ByteArray.empty 0 0)).map (Qa true)).length)) rfl (nt (rt ?_)))))))))
 refine vfin.eq (r':=(T.sl true 4 ((a.take i++List.replicate (a.length - i) (D.Note.mk 0 ByteArray.empty 0 0)).map (Qa true)))) ?_ (vfin.r (VRes.tmp (t:=(T.os 4 0 0 (((a.take i++List.replicate (a.length - i) (D.Note.mk 0 ByteArray.empty 0 0)).map (Qa true)).length))) rfl VRes.nil) (Give.os rfl rfl (okeNote.cleanMap _)))
 refine congrArg (fun l_=>T.sl true 4 (List.map (Qa true) l_)) ?_
 exact Qcr fhc0
end Go.Proofs.YthifchndolccgaaDoor.AE
namespace Go.Proofs.YthifchndolccgaaDoor.AE
open Go Go.RowKit
set_option linter.unusedVariables false
set_option linter.unusedSimpArgs false
set_option maxRecDepth 20000
set_option maxHeartbeats 2000000
theorem Qam (n:Nat) (a:D.Note) (b:D.Note):Pure (Qo Tryd.prog (n+1)) 39 [(T.agg (Qa false a)),(T.agg (Qa false b))] (tB (decide (a=b))):=by
 refine Pure.intro (rs:= [ResultVar.tmp 4]) Tryd.func39 rfl rfl rfl (E0:= [(0,(T.agg (Qa false a))),(1,(T.agg (Qa false b)))]) rfl ?_
 obtain ⟨hlim,hmx,hmax⟩:=Q3
 refine sr (kO (B.box (ts:=(Qa false a)) (tv (T.agg (Qa false a)) rfl) nofun rfl) (kO (B.box (ts:=(Qa false b)) (tv (T.agg (Qa false b)) rfl) nofun rfl) (fO (OF.assign (VEv.bool false)) (nt (sq (sr (lf (tI a.Cell) rfl QV rfl rfl ZD (lf (tI b.Cell) rfl QV rfl rfl ZD (fO (xne (tv (tI a.Cell) rfl) (tv (tI b.Cell) rfl)) (nt ?_))))))))))
 refine cn (a.Cell=b.Cell) rfl (fun fhc0=> ?_) fun fhc0=> ?_
 ·refine sr ?_
  refine fO (OF.assign (VEv.bool false)) (nt (rt (tr (vb (b':=false) rfl ?_))))
  obtain ⟨a0,a1,a2,a3⟩:=a
  obtain ⟨b0,b1,b2,b3⟩:=b
  simp_all
 refine sk (tn (sq (sr (lf (tS a.Letter) rfl Q9 rfl rfl Yv (lf (tS b.Letter) rfl Q9 rfl rfl Yv (fO (B.sneq (c:=(!(decide (a.Letter=b.Letter)))) (tv (tS a.Letter) rfl) (tv (tS b.Letter) rfl) rfl) (nt ?_)))))))
 refine cn (a.Letter=b.Letter) rfl (fun fhc1=> ?_) fun fhc1=> ?_
 ·refine sr ?_
  refine fO (OF.assign (VEv.bool false)) (nt (rt (tr (vb (b':=false) rfl ?_))))
  obtain ⟨a0,a1,a2,a3⟩:=a
  obtain ⟨b0,b1,b2,b3⟩:=b
  simp_all
 refine sk (tn (sq (sr (lf (tI a.Tick) rfl YD rfl rfl ZD (lf (tI b.Tick) rfl YD rfl rfl ZD (fO (xne (tv (tI a.Tick) rfl) (tv (tI b.Tick) rfl)) (nt ?_)))))))
 refine cn (a.Tick=b.Tick) rfl (fun fhc2=> ?_) fun fhc2=> ?_
 ·refine sr ?_
  refine fO (OF.assign (VEv.bool false)) (nt (rt (tr (vb (b':=false) rfl ?_))))
  obtain ⟨a0,a1,a2,a3⟩:=a
  obtain ⟨b0,b1,b2,b3⟩:=b
  simp_all
 refine sk (tn (sq (sr (lf (tI a.Who) rfl Yz rfl rfl ZD (lf (tI b.Who) rfl Yz rfl rfl ZD (fO (xne (tv (tI a.Who) rfl) (tv (tI b.Who) rfl)) (nt ?_)))))))
 refine cn (a.Who=b.Who) rfl (fun fhc3=> ?_) fun fhc3=> ?_
 ·refine sr ?_
  refine fO (OF.assign (VEv.bool false)) (nt (rt (tr (vb (b':=false) rfl ?_))))
  obtain ⟨a0,a1,a2,a3⟩:=a
  obtain ⟨b0,b1,b2,b3⟩:=b
  simp_all
 refine sk (tn (sr (fO (OF.assign (VEv.bool true)) (nt (rt (vb (b':=true) rfl ?_))))))
 obtain ⟨a0,a1,a2,a3⟩:=a
 obtain ⟨b0,b1,b2,b3⟩:=b
 simp_all
theorem J4 (n:Nat) (a:List D.Note) (b:List D.Note) (hla:a.length≤mx) (hlb:b.length≤mx):Pure (Qo Tryd.prog (n+2)) 12 [(rd 4 Qa a),(rd 4 Qa b)] (tB (decide (a=b))):=by
 refine Pure.intro (rs:= [ResultVar.tmp 4]) Tryd.func12 rfl rfl rfl (E0:= [(0,(rd 4 Qa a)),(1,(rd 4 Qa b))]) rfl ?_
 obtain ⟨hlim,hmx,hmax⟩:=Q3
 refine sr (fO (OF.assign (VEv.bool false)) (nt (sq (sr (mO (rd 4 Qa a) rfl (lO (B.lenR (m:=a.length) (tv (rd 4 Qa a) rfl) U30 (List.length_map ..)) (mO (rd 4 Qa b) rfl (lO (B.lenR (m:=b.length) (tv (rd 4 Qa b) rfl) U30 (List.length_map ..)) (fO (Qe2 (tv (tN a.length) rfl) (tv (tN b.length) rfl)) (nt ?_))))))))))
 refine cn (a.length=b.length) rfl (fun fhc0=> ?_) fun fhc0=> ?_
 ·refine sr ?_
  refine fO (OF.assign (VEv.bool false)) (nt (rt (tr (vb (b':=false) rfl ?_))))
  symm;rw [decide_eq_false_iff_not];rintro rfl;exact fhc0 rfl
 refine sk (tn (sq (sr (fO (OF.assign (VEv.int .i64 0)) (nt (VRun.block ?_))))))
 refine VRun.loop (A:=Nat) (fun s_=> [(0,(rd 4 Qa a)),(1,(rd 4 Qa b)),(5,(tN s_))]) (fun s_=>Jo []) 0 (fun s_=>s_≤a.length∧∀j,j<s_→a[j]? =b[j]?) (fun s_=>a.length - s_) (0:Nat) ?_ (Wk.mk (fun k=>k) ?_ ?_ ?_) ?_
 ·first | trivial | (simp;done) | omega | (constructor<;>simp)
 ·exact (b2 (b2 (b2 bn)))
 ·exact bn
 ·exact nd rfl
 rintro i (hI':i≤a.length∧∀j,j<i→a[j]? =b[j]?)
 show VRun _ _ _ [(0,(rd 4 Qa a)),(1,(rd 4 Qa b)),(5,(tN i))] (Jo []) 0 _
 refine sq (sr (mO (tN i) rfl (mO (rd 4 Qa a) rfl (lO (B.lenR (m:=a.length) (tv (rd 4 Qa a) rfl) U30 (List.length_map ..)) (fO (Y9 (tv (tN i) rfl) (tv (tN a.length) rfl)) (nt ?_))))))
 refine cd (i<a.length) rfl (fun fhc1=> ?_) fun fhc1=> ?_
 ·refine sk ?_
  refine tn (sq (VRun.block (sq (VRun.draw (B:= [[],[],[1,0],[0,1,2],[],[],[5,4],[4,5,6],[6,5,4,7,2,1,0,3],[3,0,1,2,7,4,5,6,8]]) (by kernel_rfl) (by kernel_rfl) (mD (rd 4 Qa a) rfl rfl (mD (tN i) rfl rfl ?_))))))
  obtain ⟨x1,hx1⟩:∃x,a[i]? =some x:=⟨_,List.getElem?_eq_getElem (by omega)⟩
  refine fD (OF.indexAddrR (row:=(Qa false x1)) (i:=i) (tv (rd 4 Qa a) rfl) (tv (tN i) rfl) rfl (QJ _ hx1) U30 Zd Z2) rfl rfl (lD (OL.loadRn (us:=(Qa false x1)) (tv (T.rp (Qa false x1)) rfl) QbQ Zd (lb rfl) rfl) rfl rfl (mD (rd 4 Qa b) rfl rfl (mD (tN i) rfl rfl ?_)))
  obtain ⟨x2,hx2⟩:∃x,b[i]? =some x:=⟨_,List.getElem?_eq_getElem (by omega)⟩
  refine fD (OF.indexAddrR (row:=(Qa false x2)) (i:=i) (tv (rd 4 Qa b) rfl) (tv (tN i) rfl) rfl (QJ _ hx2) U30 Zd Z2) rfl rfl (lD (OL.loadRn (us:=(Qa false x2)) (tv (T.rp (Qa false x2)) rfl) QbQ Zd (lb rfl) rfl) rfl rfl (VRunD.quiet (bi:= [6,5,4,7,2,1,0,3]) rfl VWant.always rfl rfl rfl bn (cS (vc (tv (T.agg (Qa false x1)) rfl) (vc (tv (T.agg (Qa false x2)) rfl) vn)) (LendL.cons (lg okeNote) (LendL.cons (lg okeNote) ln)) (Qam (n+0) x1 x2) rfl rfl) (fD (Q4 (tv (tB (decide (x1=x2))) rfl)) rfl rfl (VRunD.nil (tn ?_)))))
  refine cn (x1=x2) rfl (fun fhc2=> ?_) fun fhc2=> ?_
  ·refine sr ?_
   refine fO (OF.assign (VEv.bool false)) (nt (rt (vinB.r (tr (tr (vinB.r (tr (vb (b':=false) rfl ?_))))))))
   symm;rw [decide_eq_false_iff_not];exact Qcl hx1 hx2 fhc2
  refine sk (vinB.n (tn (VRun.region (mO (tN i) rfl (fO (Zv (tv (tN i) rfl) (VEv.int .i64 1) (by omega)) (aO (tN (i+1)) rfl (VRunO.nil (tn ?_))))))))
  refine ⟨(i+1:Nat),?_,?_,Wk.mk (fun k=>k) ?_ ?_ ?_⟩
  ·exact QbD hI' hx1 hx2 fhc2
  ·first | omega | (simp only [];omega) | (show _<_;omega) | (simp;omega)
  ·exact (b2 (b2 (b2 bn)))
  ·exact bn
  ·exact nd rfl
 refine VRun.exit (vthn.e (vthn.e (vinB.e (tn (sr (fO (OF.assign (VEv.bool true)) (nt (rt (vb (b':=true) rfl ?_)))))))))
 symm;rw [decide_eq_true_eq];exact QcB hI' fhc0 fhc1
end Go.Proofs.YthifchndolccgaaDoor.AE
namespace Go.Proofs.YthifchndolccgaaDoor.AE
open Go Go.RowKit
set_option linter.unusedVariables false
set_option linter.unusedSimpArgs false
set_option maxRecDepth 20000
set_option maxHeartbeats 2000000
noncomputable section
theorem QS {ok:Nat→Prop} {i n:Nat} (h:i≤n∧∀j,j<i→ok j) (hi:i<n) (hk:ok i):i+1≤n∧∀j,j<i+1→ok j:=by
 refine ⟨hi,fun j hj=> ?_⟩
 rcases Nat.lt_or_ge j i with h1 | h1
 ·exact h.2 j h1
 ·obtain rfl:j=i:=by omega
  exact hk
theorem Qs {ok:Nat→Prop} {i n:Nat} (h:i≤n∧∀j,j<i→ok j) (hi:¬i<n):∀j,j<n→ok j:=fun j hj=>h.2 j (by omega)
theorem Qf {α:Type} {l:List α} {i:Nat} {x y:α} (hx:l[i]? =some x) (hy:l[i]? =some y):y=x:=by
 rw [hx] at hy
 exact (Option.some.inj hy).symm
end
theorem QC (n:Nat) (a:Int) (b:Int) (c:Int):Pure (Qo Tryd.prog (n+1)) 59 [(tI a),(tI b),(tI c)] (tB (decide (b≤a∧a≤c))):=by
 refine Pure.intro (rs:= [ResultVar.tmp 6]) Tryd.func59 rfl rfl rfl (E0:= [(0,(tI a)),(1,(tI b)),(2,(tI c))]) rfl ?_
 obtain ⟨hlim,hmx,hmax⟩:=Q3
 refine sr (fO (OF.assign (VEv.bool false)) (nt (sr (mO (tI a) rfl (mO (tI b) rfl (fO (xge (tv (tI a) rfl) (tv (tI b) rfl)) (mO (tB (decide (b≤a))) rfl ?_)))))))
 refine gw (b≤a) (fun fhg10_1=> ?_) fun fhg10_1=> ?_
 ·refine gF (dy fhg10_1) rfl rfl (OF.move (tv (tI a) rfl)) ?_
  refine gF (dy fhg10_1) rfl rfl (OF.move (tv (tI c) rfl)) (gF (dy fhg10_1) rfl rfl (xle (tv (tI a) rfl) (tv (tI c) rfl)) (fO (OF.pickT (VEv.tmpB rfl (dy fhg10_1)) (tv (tB (decide (a≤c))) rfl)) (aO (tB (decide (a≤c))) rfl (nt (rt (vb (b':=(decide (a≤c))) rfl ?_))))))
  exact Zg (by omega)
 refine Zh 3 3 true 10 (dz fhg10_1) rfl rfl rfl (fO (OF.pickF (VEv.tmpB rfl (dz fhg10_1)) (VEv.bool false)) (aO (tB false) rfl (nt (rt (vb (b':=false) rfl ?_)))))
 (symm;rw [decide_eq_false_iff_not];omega)
theorem Qr (n:Nat) (a:Int) (b:Int) (c:Int):Pure (Qo Tryd.prog (n+1)) 61 [(tI a),(tI b),(tI c)] (tB (decide (b≤a∧a≤c))):=by
 refine Pure.intro (rs:= [ResultVar.tmp 6]) Tryd.func61 rfl rfl rfl (E0:= [(0,(tI a)),(1,(tI b)),(2,(tI c))]) rfl ?_
 obtain ⟨hlim,hmx,hmax⟩:=Q3
 refine sr (fO (OF.assign (VEv.bool false)) (nt (sr (mO (tI b) rfl (mO (tI a) rfl (fO (xle (tv (tI b) rfl) (tv (tI a) rfl)) (mO (tB (decide (b≤a))) rfl ?_)))))))
 refine gw (b≤a) (fun fhg10_1=> ?_) fun fhg10_1=> ?_
 ·refine gF (dy fhg10_1) rfl rfl (OF.move (tv (tI a) rfl)) ?_
  refine gF (dy fhg10_1) rfl rfl (OF.move (tv (tI c) rfl)) (gF (dy fhg10_1) rfl rfl (xle (tv (tI a) rfl) (tv (tI c) rfl)) (fO (OF.pickT (VEv.tmpB rfl (dy fhg10_1)) (tv (tB (decide (a≤c))) rfl)) (aO (tB (decide (a≤c))) rfl (nt (rt (vb (b':=(decide (a≤c))) rfl ?_))))))
  exact Zg (by omega)
 refine Zh 3 3 true 10 (dz fhg10_1) rfl rfl rfl (fO (OF.pickF (VEv.tmpB rfl (dz fhg10_1)) (VEv.bool false)) (aO (tB false) rfl (nt (rt (vb (b':=false) rfl ?_)))))
 (symm;rw [decide_eq_false_iff_not];omega)
theorem Jy (n:Nat) (a:Int):Pure (Qo Tryd.prog (n+1)) 82 [(T.int .u8 a)] (tB (decide (97≤a∧a≤122))):=by
 refine Pure.intro (rs:= [ResultVar.tmp 2]) Tryd.func82 rfl rfl rfl (E0:= [(0,(T.int .u8 a))]) rfl ?_
 obtain ⟨hlim,hmx,hmax⟩:=Q3
 refine sr (fO (OF.assign (VEv.bool false)) (nt (sr (mO (T.int .u8 a) rfl (fO (xge (tv (T.int .u8 a) rfl) (VEv.int .u8 97)) (mO (tB (decide (97≤a))) rfl ?_))))))
 refine gw (97≤a) (fun fhg5_1=> ?_) fun fhg5_1=> ?_
 ·refine gF (dy fhg5_1) rfl rfl (OF.move (tv (T.int .u8 a) rfl)) ?_
  refine gF (dy fhg5_1) rfl rfl (xle (tv (T.int .u8 a) rfl) (VEv.int .u8 122)) (fO (OF.pickT (VEv.tmpB rfl (dy fhg5_1)) (tv (tB (decide (a≤122))) rfl)) (aO (tB (decide (a≤122))) rfl (nt (rt (vb (b':=(decide (a≤122))) rfl ?_)))))
  exact Zg (by omega)
 refine Zh 2 2 true 5 (dz fhg5_1) rfl rfl rfl (fO (OF.pickF (VEv.tmpB rfl (dz fhg5_1)) (VEv.bool false)) (aO (tB false) rfl (nt (rt (vb (b':=false) rfl ?_)))))
 (symm;rw [decide_eq_false_iff_not];omega)
theorem QcA (n:Nat) (a:Int) (b:Int):Pure (Qo Tryd.prog (n+1)) 64 [(tI a),(tI b)] (tB (decide (0≤a∧a<b))):=by
 refine Pure.intro (rs:= [ResultVar.tmp 4]) Tryd.func64 rfl rfl rfl (E0:= [(0,(tI a)),(1,(tI b))]) rfl ?_
 obtain ⟨hlim,hmx,hmax⟩:=Q3
 refine sr (fO (OF.assign (VEv.bool false)) (nt (sr (mO (tI a) rfl (fO (xge (tv (tI a) rfl) (VEv.int .i64 0)) (mO (tB (decide (0≤a))) rfl ?_))))))
 refine gw (0≤a) (fun fhg7_1=> ?_) fun fhg7_1=> ?_
 ·refine gF (dy fhg7_1) rfl rfl (OF.move (tv (tI a) rfl)) ?_
  refine gF (dy fhg7_1) rfl rfl (OF.move (tv (tI b) rfl)) (gF (dy fhg7_1) rfl rfl (xls (tv (tI a) rfl) (tv (tI b) rfl)) (fO (OF.pickT (VEv.tmpB rfl (dy fhg7_1)) (tv (tB (decide (a<b))) rfl)) (aO (tB (decide (a<b))) rfl (nt (rt (vb (b':=(decide (a<b))) rfl ?_))))))
  exact Zg (by omega)
 refine Zh 3 2 true 7 (dz fhg7_1) rfl rfl rfl (fO (OF.pickF (VEv.tmpB rfl (dz fhg7_1)) (VEv.bool false)) (aO (tB false) rfl (nt (rt (vb (b':=false) rfl ?_)))))
 (symm;rw [decide_eq_false_iff_not];omega)
end Go.Proofs.YthifchndolccgaaDoor.AE
namespace Go.Proofs.YthifchndolccgaaDoor.AE
open Go Go.RowKit
set_option linter.unusedVariables false
set_option linter.unusedSimpArgs false
set_option maxRecDepth 20000
set_option maxHeartbeats 2000000
noncomputable section
def gOk (s:ByteArray) (j:Nat):Prop:=QA s j=35∨QA s j=46
def Qm (g:D.Grid):Prop:=(2≤g.Rows∧g.Rows≤6)∧(2≤g.Cols∧g.Cols≤6)∧((g.Cells.size:Nat):Int)=g.Rows*g.Cols∧∀j,j<g.Cells.size→gOk g.Cells j
instance (g:D.Grid):Decidable (Qm g):=Classical.propDecidable _
theorem Qe5 {a b:Int} (h1:2≤a) (h2:a≤6) (h3:2≤b) (h4:b≤6):4≤a*b∧a*b≤36:=by
 have e1:2*2≤a*b:=Int.mul_le_mul h1 h3 (by decide) (by omega)
 have e2:a*b≤6*6:=Int.mul_le_mul h2 h4 (by omega) (by decide)
 omega
theorem QeJ {a b:Int} (h1:2≤a) (h2:a≤6) (h3:2≤b) (h4:b≤6):IntKind.i64.wrap (a*b)=a*b:=by
 have:=Qe5 h1 h2 h3 h4
 rw [Q1 (by omega)]
end
theorem Yr (n:Nat) (g:D.Grid) (hc:g.Cells.size≤maxLen):Pure (Qo Tryd.prog (n+2)) 58 [(T.agg (Qe false g))] (tB (decide (Qm g))):=by
 refine Pure.intro (rs:= [ResultVar.tmp 2]) Tryd.func58 rfl rfl rfl (E0:= [(0,(T.agg (Qe false g)))]) rfl ?_
 obtain ⟨hlim,hmx,hmax⟩:=Q3
 refine sr (kO (B.box (ts:=(Qe false g)) (tv (T.agg (Qe false g)) rfl) nofun rfl) (fO (OF.assign (VEv.bool false)) (nt (sq (sr (lf (tI g.Rows) rfl J6 rfl rfl ZD (cO (cS (vc (tv (tI g.Rows) rfl) (vc (VEv.int .i64 2) (vc (VEv.int .i64 6) vn))) (Yl rfl) (QC (n+0) g.Rows 2 6) rfl rfl) (fO (Q4 (tv (tB (decide (2≤g.Rows∧g.Rows≤6))) rfl)) (mO (tB (!(decide (2≤g.Rows∧g.Rows≤6)))) rfl ?_)))))))))
 refine gn (2≤g.Rows∧g.Rows≤6) (fun fhg8_1=> ?_) fun fhg8_1=> ?_
 ·refine Zh 4 4 false 8 (ny fhg8_1) rfl rfl rfl ?_
  refine fO (OF.pickT (VEv.tmpB rfl (ny fhg8_1)) (VEv.bool true)) (mO (tB true) rfl (Zh 9 10 false 14 (b:=true) rfl rfl rfl rfl (fO (OF.pickT (tv (tB true) rfl) (VEv.bool true)) (nt (ct rfl (sr (fO (OF.assign (VEv.bool false)) (nt (rt (tr (vb (b':=false) rfl ?_)))))))))))
  (symm;rw [decide_eq_false_iff_not];rintro ⟨g1,g2,g3,g4⟩;omega)
 refine glf (tI g.Cols) (nz fhg8_1) rfl rfl rfl rfl JN rfl rfl ZD (VRunO.chain (VWant.on rfl rfl (nz fhg8_1)) (cS (vc (tv (tI g.Cols) rfl) (vc (VEv.int .i64 2) (vc (VEv.int .i64 6) vn))) (Yl rfl) (QC (n+0) g.Cols 2 6) rfl rfl) (gF (nz fhg8_1) rfl rfl (Q4 (tv (tB (decide (2≤g.Cols∧g.Cols≤6))) rfl)) (fO (OF.pickF (VEv.tmpB rfl (nz fhg8_1)) (tv (tB (!(decide (2≤g.Cols∧g.Cols≤6)))) rfl)) (mO (tB (!(decide (2≤g.Cols∧g.Cols≤6)))) rfl ?_))))
 refine gn (2≤g.Cols∧g.Cols≤6) (fun fhg14_2=> ?_) fun fhg14_2=> ?_
 ·refine Zh 9 10 false 14 (ny fhg14_2) rfl rfl rfl ?_
  refine fO (OF.pickT (VEv.tmpB rfl (ny fhg14_2)) (VEv.bool true)) (nt (ct rfl (sr (fO (OF.assign (VEv.bool false)) (nt (rt (tr (vb (b':=false) rfl ?_))))))))
  (symm;rw [decide_eq_false_iff_not];rintro ⟨g1,g2,g3,g4⟩;omega)
 refine glf (tS g.Cells) (nz fhg14_2) rfl rfl rfl rfl QO rfl rfl Yv (gL (nz fhg14_2) rfl rfl (B.lenS (tv (tS g.Cells) rfl) U9) (glf (tI g.Rows) (nz fhg14_2) rfl rfl rfl rfl J6 rfl rfl ZD (glf (tI g.Cols) (nz fhg14_2) rfl rfl rfl rfl JN rfl rfl ZD (gF (nz fhg14_2) rfl rfl (B.mul (n:=(g.Rows*g.Cols)) (tv (tI g.Rows) rfl) (tv (tI g.Cols) rfl) (by (refine QeJ ?_ ?_ ?_ ?_<;>omega))) (gF (nz fhg14_2) rfl rfl (xne (tv (tN g.Cells.size) rfl) (tv (tI (g.Rows*g.Cols)) rfl)) (fO (OF.pickF (VEv.tmpB rfl (nz fhg14_2)) (tv (tB (!(decide (((g.Cells.size:Nat):Int)=(g.Rows*g.Cols))))) rfl)) (nt ?_)))))))
 refine cn (((g.Cells.size:Nat):Int)=(g.Rows*g.Cols)) rfl (fun fhc0=> ?_) fun fhc0=> ?_
 ·refine sr ?_
  refine fO (OF.assign (VEv.bool false)) (nt (rt (tr (vb (b':=false) rfl ?_))))
  (symm;rw [decide_eq_false_iff_not];rintro ⟨g1,g2,g3,g4⟩;omega)
 refine sk (tn (sq (sr (fO (OF.assign (VEv.int .i64 0)) (nt (VRun.block ?_))))))
 refine VRun.loop (A:=Nat) (fun s_=> [(1,(T.op 0 0)),(3,(tN s_))]) (fun s_=>Jo [(0,(Obj.cells (Qe false g)))]) 1 (fun s_=>s_≤g.Cells.size∧∀j,j<s_→gOk g.Cells j) (fun s_=>g.Cells.size - s_) (0:Nat) ?_ (Wk.mk (fun k=>k) ?_ ?_ ?_) ?_
 ·exact ⟨Nat.zero_le _,fun j hj=>by omega⟩
 ·exact (b2 (b2 bn))
 ·exact (b3 bn)
 ·exact nd rfl
 rintro i (hI':i≤g.Cells.size∧∀j,j<i→gOk g.Cells j)
 show VRun _ _ _ [(1,(T.op 0 0)),(3,(tN i))] (Jo [(0,(Obj.cells (Qe false g)))]) 1 _
 have hI1:=hI'.1
 refine sq (sr (mO (tN i) rfl (lf (tS g.Cells) rfl QO rfl rfl Yv (lO (B.lenS (tv (tS g.Cells) rfl) U9) (fO (Y9 (tv (tN i) rfl) (tv (tN g.Cells.size) rfl)) (nt ?_))))))
 refine cd (i<g.Cells.size) rfl (fun fhc1=> ?_) fun fhc1=> ?_
 ·refine sk ?_
  refine tn (sq (VRun.block (sr (lf (tS g.Cells) rfl QO rfl rfl Yv (mO (tN i) rfl ?_)))))
  have hb3:i<g.Cells.size:=(by omega)
  refine fO (xix (tv (tS g.Cells) rfl) (tv (tN i) rfl) hb3 U9) (fO (xne (tv (T.int .u8 (QA g.Cells i)) rfl) (VEv.int .u8 35)) (mO (tB (!(decide (QA g.Cells i=35)))) rfl ?_))
  refine gn (QA g.Cells i=35) (fun fhg37_4=> ?_) fun fhg37_4=> ?_
  ·refine glf (tS g.Cells) (ny fhg37_4) rfl rfl rfl rfl QO rfl rfl Yv ?_
   refine gF (ny fhg37_4) rfl rfl (OF.move (tv (tN i) rfl)) ?_
   have hb5:i<g.Cells.size:=(by omega)
   refine gF (ny fhg37_4) rfl rfl (xix (tv (tS g.Cells) rfl) (tv (tN i) rfl) hb5 U9) (gF (ny fhg37_4) rfl rfl (xne (tv (T.int .u8 (QA g.Cells i)) rfl) (VEv.int .u8 46)) (fO (OF.pickT (VEv.tmpB rfl (ny fhg37_4)) (tv (tB (!(decide (QA g.Cells i=46)))) rfl)) (nt ?_)))
   refine cn (QA g.Cells i=46) rfl (fun fhc2=> ?_) fun fhc2=> ?_
   ·refine sr ?_
    refine fO (OF.assign (VEv.bool false)) (nt (rt (vinB.r (tr (tr (vinB.r (tr (vb (b':=false) rfl ?_))))))))
    (symm;rw [decide_eq_false_iff_not];rintro ⟨g1,g2,g3,g4⟩;(have:=g4 i fhc1;unfold gOk at this;omega))
   refine sk (vinB.n (tn (VRun.region (mO (tN i) rfl (fO (Zv (tv (tN i) rfl) (VEv.int .i64 1) (by omega)) (aO (tN (i+1)) rfl (VRunO.nil (tn ?_))))))))
   refine ⟨(i+1:Nat),?_,?_,Wk.mk (fun k=>k) ?_ ?_ ?_⟩
   ·refine QS hI' fhc1 ?_;unfold gOk;omega
   ·omega
   ·exact (b2 (b2 bn))
   ·exact (b3 bn)
   ·exact nd rfl
  refine Zh 5 5 true 37 (nz fhg37_4) rfl rfl rfl (fO (OF.pickF (VEv.tmpB rfl (nz fhg37_4)) (VEv.bool false)) (nt (cf rfl (sk (vinB.n (tn (VRun.region (mO (tN i) rfl (fO (Zv (tv (tN i) rfl) (VEv.int .i64 1) (by omega)) (aO (tN (i+1)) rfl (VRunO.nil ?_)))))))))))
  refine tn ?_
  refine ⟨(i+1:Nat),?_,?_,Wk.mk (fun k=>k) ?_ ?_ ?_⟩
  ·refine QS hI' fhc1 ?_;unfold gOk;omega
  ·omega
  ·exact (b2 (b2 bn))
  ·exact (b3 bn)
  ·exact nd rfl
 refine VRun.exit (vthn.e (vthn.e (vinB.e (tn (sr (fO (OF.assign (VEv.bool true)) (nt (rt (vb (b':=true) rfl ?_)))))))))
 (symm;rw [decide_eq_true_eq];refine ⟨?_,?_,?_,Qs hI' fhc1⟩<;>assumption)
theorem ZH (n:Nat) (g:D.Grid) (hc:g.Cells.size≤maxLen):Pure (Qo Tryd.prog (n+2)) 34 [(T.agg (Qe false g))] (tB (decide (Qm g))):=by
 refine Pure.intro (rs:= [ResultVar.tmp 2]) Tryd.func34 rfl rfl rfl (E0:= [(0,(T.agg (Qe false g)))]) rfl ?_
 obtain ⟨hlim,hmx,hmax⟩:=Q3
 refine sr (kO (B.box (ts:=(Qe false g)) (tv (T.agg (Qe false g)) rfl) nofun rfl) (fO (OF.assign (VEv.bool false)) (nt (sq (sr (lf (tI g.Rows) rfl J6 rfl rfl ZD (cO (cS (vc (tv (tI g.Rows) rfl) (vc (VEv.int .i64 2) (vc (VEv.int .i64 6) vn))) (Yl rfl) (Qr (n+0) g.Rows 2 6) rfl rfl) (fO (Q4 (tv (tB (decide (2≤g.Rows∧g.Rows≤6))) rfl)) (mO (tB (!(decide (2≤g.Rows∧g.Rows≤6)))) rfl ?_)))))))))
 refine gn (2≤g.Rows∧g.Rows≤6) (fun fhg8_1=> ?_) fun fhg8_1=> ?_
 ·refine Zh 4 4 false 8 (ny fhg8_1) rfl rfl rfl ?_
  refine fO (OF.pickT (VEv.tmpB rfl (ny fhg8_1)) (VEv.bool true)) (mO (tB true) rfl (Zh 9 10 false 14 (b:=true) rfl rfl rfl rfl (fO (OF.pickT (tv (tB true) rfl) (VEv.bool true)) (nt (ct rfl (sr (fO (OF.assign (VEv.bool false)) (nt (rt (tr (vb (b':=false) rfl ?_)))))))))))
  (symm;rw [decide_eq_false_iff_not];rintro ⟨g1,g2,g3,g4⟩;omega)
 refine glf (tI g.Cols) (nz fhg8_1) rfl rfl rfl rfl JN rfl rfl ZD (VRunO.chain (VWant.on rfl rfl (nz fhg8_1)) (cS (vc (tv (tI g.Cols) rfl) (vc (VEv.int .i64 2) (vc (VEv.int .i64 6) vn))) (Yl rfl) (Qr (n+0) g.Cols 2 6) rfl rfl) (gF (nz fhg8_1) rfl rfl (Q4 (tv (tB (decide (2≤g.Cols∧g.Cols≤6))) rfl)) (fO (OF.pickF (VEv.tmpB rfl (nz fhg8_1)) (tv (tB (!(decide (2≤g.Cols∧g.Cols≤6)))) rfl)) (mO (tB (!(decide (2≤g.Cols∧g.Cols≤6)))) rfl ?_))))
 refine gn (2≤g.Cols∧g.Cols≤6) (fun fhg14_2=> ?_) fun fhg14_2=> ?_
 ·refine Zh 9 10 false 14 (ny fhg14_2) rfl rfl rfl ?_
  refine fO (OF.pickT (VEv.tmpB rfl (ny fhg14_2)) (VEv.bool true)) (nt (ct rfl (sr (fO (OF.assign (VEv.bool false)) (nt (rt (tr (vb (b':=false) rfl ?_))))))))
  (symm;rw [decide_eq_false_iff_not];rintro ⟨g1,g2,g3,g4⟩;omega)
 refine glf (tS g.Cells) (nz fhg14_2) rfl rfl rfl rfl QO rfl rfl Yv (gL (nz fhg14_2) rfl rfl (B.lenS (tv (tS g.Cells) rfl) U9) (glf (tI g.Rows) (nz fhg14_2) rfl rfl rfl rfl J6 rfl rfl ZD (glf (tI g.Cols) (nz fhg14_2) rfl rfl rfl rfl JN rfl rfl ZD (gF (nz fhg14_2) rfl rfl (B.mul (n:=(g.Rows*g.Cols)) (tv (tI g.Rows) rfl) (tv (tI g.Cols) rfl) (by (refine QeJ ?_ ?_ ?_ ?_<;>omega))) (gF (nz fhg14_2) rfl rfl (xne (tv (tN g.Cells.size) rfl) (tv (tI (g.Rows*g.Cols)) rfl)) (fO (OF.pickF (VEv.tmpB rfl (nz fhg14_2)) (tv (tB (!(decide (((g.Cells.size:Nat):Int)=(g.Rows*g.Cols))))) rfl)) (nt ?_)))))))
 refine cn (((g.Cells.size:Nat):Int)=(g.Rows*g.Cols)) rfl (fun fhc0=> ?_) fun fhc0=> ?_
 ·refine sr ?_
  refine fO (OF.assign (VEv.bool false)) (nt (rt (tr (vb (b':=false) rfl ?_))))
  (symm;rw [decide_eq_false_iff_not];rintro ⟨g1,g2,g3,g4⟩;omega)
 refine sk (tn (sq (sr (lf (tS g.Cells) rfl QO rfl rfl Yv (lO (B.lenS (tv (tS g.Cells) rfl) U9) (fO (OF.move (VEv.int .i64 0)) (nt (VRun.block ?_))))))))
 refine VRun.loop (A:=Nat) (fun s_=> [(1,(T.op 0 0)),(27,(tN g.Cells.size)),(28,(tN s_))]) (fun s_=>Jo [(0,(Obj.cells (Qe false g)))]) 1 (fun s_=>s_≤g.Cells.size∧∀j,j<s_→gOk g.Cells j) (fun s_=>g.Cells.size - s_) (0:Nat) ?_ (Wk.mk (fun k=>k) ?_ ?_ ?_) ?_
 ·exact ⟨Nat.zero_le _,fun j hj=>by omega⟩
 ·exact (b2 (b2 (b2 bn)))
 ·exact (b3 bn)
 ·exact nd rfl
 rintro i (hI':i≤g.Cells.size∧∀j,j<i→gOk g.Cells j)
 show VRun _ _ _ [(1,(T.op 0 0)),(27,(tN g.Cells.size)),(28,(tN i))] (Jo [(0,(Obj.cells (Qe false g)))]) 1 _
 have hI1:=hI'.1
 refine sr (fO (Y9 (tv (tN i) rfl) (tv (tN g.Cells.size) rfl)) (nt (sq ?_)))
 refine cd (i<g.Cells.size) rfl (fun fhc1=> ?_) fun fhc1=> ?_
 ·refine sk ?_
  refine tn (sq (VRun.block (sr (mO (tN i) rfl (aO (tN i) rfl (nt (sr (lf (tS g.Cells) rfl QO rfl rfl Yv (mO (tN i) rfl ?_)))))))))
  have hb3:i<g.Cells.size:=(by omega)
  refine fO (xix (tv (tS g.Cells) rfl) (tv (tN i) rfl) hb3 U9) (fO (xne (tv (T.int .u8 (QA g.Cells i)) rfl) (VEv.int .u8 35)) (mO (tB (!(decide (QA g.Cells i=35)))) rfl ?_))
  refine gn (QA g.Cells i=35) (fun fhg36_4=> ?_) fun fhg36_4=> ?_
  ·refine glf (tS g.Cells) (ny fhg36_4) rfl rfl rfl rfl QO rfl rfl Yv ?_
   refine gF (ny fhg36_4) rfl rfl (OF.move (tv (tN i) rfl)) ?_
   have hb5:i<g.Cells.size:=(by omega)
   refine gF (ny fhg36_4) rfl rfl (xix (tv (tS g.Cells) rfl) (tv (tN i) rfl) hb5 U9) (gF (ny fhg36_4) rfl rfl (xne (tv (T.int .u8 (QA g.Cells i)) rfl) (VEv.int .u8 46)) (fO (OF.pickT (VEv.tmpB rfl (ny fhg36_4)) (tv (tB (!(decide (QA g.Cells i=46)))) rfl)) (nt ?_)))
   refine cn (QA g.Cells i=46) rfl (fun fhc2=> ?_) fun fhc2=> ?_
   ·refine sr ?_
    refine fO (OF.assign (VEv.bool false)) (nt (rt (vinB.r (tr (tr (vinB.r (tr (vb (b':=false) rfl ?_))))))))
    (symm;rw [decide_eq_false_iff_not];rintro ⟨g1,g2,g3,g4⟩;(have:=g4 i fhc1;unfold gOk at this;omega))
   refine sk (vinB.n (tn (VRun.region (fO (Zv (tv (tN i) rfl) (VEv.int .i64 1) (by omega)) (mO (tN (i+1)) rfl (VRunO.nil (tn ?_)))))))
   refine ⟨(i+1:Nat),?_,?_,Wk.mk (fun k=>k) ?_ ?_ ?_⟩
   ·refine QS hI' fhc1 ?_;unfold gOk;omega
   ·omega
   ·exact (b2 (b2 (b2 bn)))
   ·exact (b3 bn)
   ·exact nd rfl
  refine Zh 5 5 true 36 (nz fhg36_4) rfl rfl rfl (fO (OF.pickF (VEv.tmpB rfl (nz fhg36_4)) (VEv.bool false)) (nt (cf rfl (sk (vinB.n (tn (VRun.region (fO (Zv (tv (tN i) rfl) (VEv.int .i64 1) (by omega)) (mO (tN (i+1)) rfl (VRunO.nil (tn ?_)))))))))))
  refine ⟨(i+1:Nat),?_,?_,Wk.mk (fun k=>k) ?_ ?_ ?_⟩
  ·refine QS hI' fhc1 ?_;unfold gOk;omega
  ·omega
  ·exact (b2 (b2 (b2 bn)))
  ·exact (b3 bn)
  ·exact nd rfl
 refine VRun.exit (vthn.e (vthn.e (vinB.e (tn (sr (fO (OF.assign (VEv.bool true)) (nt (rt (vb (b':=true) rfl ?_)))))))))
 (symm;rw [decide_eq_true_eq];refine ⟨?_,?_,?_,Qs hI' fhc1⟩<;>assumption)
noncomputable section
def Qdb (s:ByteArray):Nat→ByteArray
 | 0=>⟨#[]⟩
 | i+1=>s.extract i (i+1)++Qdb s i
def back (s:ByteArray):ByteArray:=if s.size≤100 then Qdb s s.size else ⟨#[]⟩
end
noncomputable section
theorem Zj (l:List Int):(Yu l).data.toList=l.map fun n=>UInt8.ofNat n.toNat:=by
 have h:∀(l:List Int) (r:ByteArray),(l.foldl (fun r n=>r.push (UInt8.ofNat n.toNat)) r).data.toList=r.data.toList++l.map fun n=>UInt8.ofNat n.toNat:=by
  intro l
  induction l with
  | nil=>intro r;simp
  | cons n l ih=>intro r;rw [List.foldl_cons,ih];simp [ByteArray.push]
 simpa [Yu] using h l ByteArray.empty
theorem Y7 {a b:ByteArray} (h:a.data.toList=b.data.toList):a=b:=by
 cases a;cases b
 simp only at h
 congr 1
 exact Array.toList_inj.1 h
end
end Go.Proofs.YthifchndolccgaaDoor.AE
namespace Go.Proofs.YthifchndolccgaaDoor.AE
open Go Go.RowKit
set_option linter.unusedVariables false
set_option linter.unusedSimpArgs false
set_option maxRecDepth 20000
set_option maxHeartbeats 2000000
theorem J2 (n:Nat) (g:D.Grid) (c:Int) (hc:g.Cells.size≤maxLen):Pure (Qo Tryd.prog (n+3)) 32 [(T.agg (Qe false g)),(tI c)] (tB (decide (Qm g∧(0≤c∧c≤((g.Cells.size:Nat):Int) - 1)∧QA g.Cells (Int.toNat c)=46))):=by
 refine Pure.intro (rs:= [ResultVar.tmp 4]) Tryd.func32 rfl rfl rfl (E0:= [(0,(T.agg (Qe false g))),(1,(tI c))]) rfl ?_
 obtain ⟨hlim,hmx,hmax⟩:=Q3
 refine sr (kO (B.box (ts:=(Qe false g)) (tv (T.agg (Qe false g)) rfl) nofun rfl) (fO (OF.assign (VEv.bool false)) (nt (sr (lO (OL.loadOn (us:=(Qe false g)) (tv (T.op 0 0) rfl) rfl J7 JF (lb rfl) rfl) (cO (cS (vc (tv (T.agg (Qe false g)) rfl) vn) (LendL.cons (lg QR) ln) (Yr (n+0) g (by assumption)) rfl rfl) (mO (tB (decide (Qm g))) rfl ?_)))))))
 refine gw (Qm g) (fun fhg7_1=> ?_) fun fhg7_1=> ?_
 ·refine gF (dy fhg7_1) rfl rfl (OF.move (tv (tI c) rfl)) ?_
  refine glf (tS g.Cells) (dy fhg7_1) rfl rfl rfl rfl QO rfl rfl Yv (gL (dy fhg7_1) rfl rfl (B.lenS (tv (tS g.Cells) rfl) U9) (gF (dy fhg7_1) rfl rfl (B.sub (n:=(((g.Cells.size:Nat):Int) - 1)) (tv (tN g.Cells.size) rfl) (VEv.int .i64 1) (by (rw [Q1 (by omega)];done))) (VRunO.chain (VWant.on rfl rfl (dy fhg7_1)) (cS (vc (tv (tI c) rfl) (vc (VEv.int .i64 0) (vc (tv (tI (((g.Cells.size:Nat):Int) - 1)) rfl) vn))) (Yl rfl) (QC (n+1) c 0 (((g.Cells.size:Nat):Int) - 1)) rfl rfl) (fO (OF.pickT (VEv.tmpB rfl (dy fhg7_1)) (tv (tB (decide (0≤c∧c≤(((g.Cells.size:Nat):Int) - 1)))) rfl)) (mO (tB (decide (0≤c∧c≤(((g.Cells.size:Nat):Int) - 1)))) rfl ?_)))))
  refine gw (0≤c∧c≤(((g.Cells.size:Nat):Int) - 1)) (fun fhg15_2=> ?_) fun fhg15_2=> ?_
  ·refine glf (tS g.Cells) (dy fhg15_2) rfl rfl rfl rfl QO rfl rfl Yv ?_
   refine gF (dy fhg15_2) rfl rfl (OF.move (tv (tI c) rfl)) ?_
   have hb3:(Int.toNat c)<g.Cells.size:=(by omega)
   refine gF (dy fhg15_2) rfl rfl (B.index (n:=(QA g.Cells (Int.toNat c))) (i:=(Int.toNat c)) (tv (tS g.Cells) rfl) (tv (tI c) rfl) (by omega) hb3 U9 (J5 hb3)) (gF (dy fhg15_2) rfl rfl (xeq (tv (T.int .u8 (QA g.Cells (Int.toNat c))) rfl) (VEv.int .u8 46)) (fO (OF.pickT (VEv.tmpB rfl (dy fhg15_2)) (tv (tB (decide (QA g.Cells (Int.toNat c)=46))) rfl)) (aO (tB (decide (QA g.Cells (Int.toNat c)=46))) rfl (nt (rt (vb (b':=(decide (QA g.Cells (Int.toNat c)=46))) rfl ?_))))))
   (refine Zg ⟨fun h=>⟨?_,?_,h⟩,fun h=>h.2.2⟩<;>assumption)
  refine Zh 5 10 true 15 (dz fhg15_2) rfl rfl rfl (fO (OF.pickF (VEv.tmpB rfl (dz fhg15_2)) (VEv.bool false)) (aO (tB false) rfl (nt (rt (vb (b':=false) rfl ?_)))))
  (symm;rw [decide_eq_false_iff_not];rintro ⟨g1,g2,g3⟩;contradiction)
 refine Zh 6 2 true 7 (dz fhg7_1) rfl rfl rfl (fO (OF.pickF (VEv.tmpB rfl (dz fhg7_1)) (VEv.bool false)) (mO (tB false) rfl (Zh 5 10 true 15 (b:=false) rfl rfl rfl rfl (fO (OF.pickF (tv (tB false) rfl) (VEv.bool false)) (aO (tB false) rfl (nt (rt (vb (b':=false) rfl ?_))))))))
 (symm;rw [decide_eq_false_iff_not];rintro ⟨g1,g2,g3⟩;contradiction)
theorem JT (n:Nat) (g:D.Grid) (c:Int) (hc:g.Cells.size≤maxLen):Pure (Qo Tryd.prog (n+3)) 37 [(T.agg (Qe false g)),(tI c)] (tB (decide (Qm g∧(0≤c∧c≤((g.Cells.size:Nat):Int) - 1)∧QA g.Cells (Int.toNat c)=46))):=by
 refine Pure.intro (rs:= [ResultVar.tmp 4]) Tryd.func37 rfl rfl rfl (E0:= [(0,(T.agg (Qe false g))),(1,(tI c))]) rfl ?_
 obtain ⟨hlim,hmx,hmax⟩:=Q3
 refine sr (kO (B.box (ts:=(Qe false g)) (tv (T.agg (Qe false g)) rfl) nofun rfl) (fO (OF.assign (VEv.bool false)) (nt (sr (lO (OL.loadOn (us:=(Qe false g)) (tv (T.op 0 0) rfl) rfl J7 JF (lb rfl) rfl) (cO (cS (vc (tv (T.agg (Qe false g)) rfl) vn) (LendL.cons (lg QR) ln) (ZH (n+0) g (by assumption)) rfl rfl) (mO (tB (decide (Qm g))) rfl ?_)))))))
 refine gw (Qm g) (fun fhg7_1=> ?_) fun fhg7_1=> ?_
 ·refine gF (dy fhg7_1) rfl rfl (OF.move (tv (tI c) rfl)) ?_
  refine glf (tS g.Cells) (dy fhg7_1) rfl rfl rfl rfl QO rfl rfl Yv (gL (dy fhg7_1) rfl rfl (B.lenS (tv (tS g.Cells) rfl) U9) (VRunO.chain (VWant.on rfl rfl (dy fhg7_1)) (cS (vc (tv (tI c) rfl) (vc (tv (tN g.Cells.size) rfl) vn)) (Yl rfl) (QcA (n+1) c ((g.Cells.size:Nat):Int)) rfl rfl) (fO (OF.pickT (VEv.tmpB rfl (dy fhg7_1)) (tv (tB (decide (0≤c∧c<((g.Cells.size:Nat):Int)))) rfl)) (mO (tB (decide (0≤c∧c<((g.Cells.size:Nat):Int)))) rfl ?_))))
  refine gw (0≤c∧c<((g.Cells.size:Nat):Int)) (fun fhg14_2=> ?_) fun fhg14_2=> ?_
  ·refine glf (tS g.Cells) (dy fhg14_2) rfl rfl rfl rfl QO rfl rfl Yv ?_
   refine gF (dy fhg14_2) rfl rfl (OF.move (tv (tI c) rfl)) ?_
   have hb3:(Int.toNat c)<g.Cells.size:=(by omega)
   refine gF (dy fhg14_2) rfl rfl (B.index (n:=(QA g.Cells (Int.toNat c))) (i:=(Int.toNat c)) (tv (tS g.Cells) rfl) (tv (tI c) rfl) (by omega) hb3 U9 (J5 hb3)) (gF (dy fhg14_2) rfl rfl (xeq (tv (T.int .u8 (QA g.Cells (Int.toNat c))) rfl) (VEv.int .u8 46)) (fO (OF.pickT (VEv.tmpB rfl (dy fhg14_2)) (tv (tB (decide (QA g.Cells (Int.toNat c)=46))) rfl)) (aO (tB (decide (QA g.Cells (Int.toNat c)=46))) rfl (nt (rt (vb (b':=(decide (QA g.Cells (Int.toNat c)=46))) rfl ?_))))))
   (refine Zg ⟨fun h=>⟨?_,?_,h⟩,fun h=>h.2.2⟩<;>first | assumption | omega)
  refine Zh 5 9 true 14 (dz fhg14_2) rfl rfl rfl (fO (OF.pickF (VEv.tmpB rfl (dz fhg14_2)) (VEv.bool false)) (aO (tB false) rfl (nt (rt (vb (b':=false) rfl ?_)))))
  (symm;rw [decide_eq_false_iff_not];rintro ⟨g1,g2,g3⟩;omega)
 refine Zh 5 2 true 7 (dz fhg7_1) rfl rfl rfl (fO (OF.pickF (VEv.tmpB rfl (dz fhg7_1)) (VEv.bool false)) (mO (tB false) rfl (Zh 5 9 true 14 (b:=false) rfl rfl rfl rfl (fO (OF.pickF (tv (tB false) rfl) (VEv.bool false)) (aO (tB false) rfl (nt (rt (vb (b':=false) rfl ?_))))))))
 (symm;rw [decide_eq_false_iff_not];rintro ⟨g1,g2,g3⟩;contradiction)
end Go.Proofs.YthifchndolccgaaDoor.AE
namespace Go.Proofs.YthifchndolccgaaDoor.AE
open Go Go.RowKit
set_option linter.unusedVariables false
set_option linter.unusedSimpArgs false
set_option maxRecDepth 20000
set_option maxHeartbeats 2000000
noncomputable section
def on (s:List Bool) (j:Nat):Bool:=s[j]?.getD false
def wG (g:D.Grid):Nat:=g.Cols.toNat
def adj (g:D.Grid) (i j:Nat):Prop:=(j=i+1∧i % wG g+1<wG g)∨(i=j+1∧j % wG g+1<wG g)∨j=i+wG g∨i=j+wG g
inductive Rch (g:D.Grid) (s:List Bool):Nat→Prop
 | base {j:Nat} (h:on s j=true):Rch g s j
 | step {i j:Nat} (h:Rch g s i) (ha:adj g i j) (hj:j<s.length) (hw:QA g.Cells j=46):Rch g s j
instance (g:D.Grid) (s:List Bool) (j:Nat):Decidable (Rch g s j):=Classical.propDecidable _
def Qd2 (g:D.Grid) (s:List Bool):List Bool:=(List.range s.length).map fun j=>decide (Rch g s j)
end
end Go.Proofs.YthifchndolccgaaDoor.AE
namespace Go.Proofs.YthifchndolccgaaDoor.AE
open Go Go.RowKit
set_option linter.unusedVariables false
set_option linter.unusedSimpArgs false
set_option maxRecDepth 20000
set_option maxHeartbeats 2000000
noncomputable section
def fresh (g:D.Grid) (i:Nat):List Bool:=Qd2 g ((List.replicate g.Cells.size false).set i true)
end
end Go.Proofs.YthifchndolccgaaDoor.AE
namespace Go.Proofs.YthifchndolccgaaDoor.AE
open Go Go.RowKit
set_option linter.unusedVariables false
set_option linter.unusedSimpArgs false
set_option maxRecDepth 20000
set_option maxHeartbeats 2000000
noncomputable section
def YX (f w:ByteArray) (cs:List Int):Nat→List Int
 | 0=>bys f
 | i+1=>(YX f w cs i).set (Int.toNat (cs.getD i 0)) (QA w i)
def wrS (f w:ByteArray) (cs:List Int) (i:Nat):ByteArray:=Yu (YX f w cs i)
theorem Yg (f w:ByteArray) (cs:List Int):∀i,(YX f w cs i).length=f.size
 | 0=>Qb4 f
 | i+1=>by rw [YX,List.length_set,Yg f w cs i]
theorem JW {f w:ByteArray} {cs:List Int} {i:Nat} {c:Int} (h:cs[i]? =some c):(YX f w cs i).set (Int.toNat c) (QA w i)=YX f w cs (i+1):=by
 rw [YX,List.getD_eq_getElem?_getD,h];rfl
theorem QaZ (f w:ByteArray) (cs:List Int) (i:Nat):(wrS f w cs i).size=f.size:=by
 show (wrS f w cs i).data.size=_
 rw [← Array.length_toList]
 unfold wrS
 rw [Zj,List.length_map,Yg]
theorem Qcx (f:ByteArray):Yu (bys f)=f:=by
 refine Y7 ?_
 rw [Zj,bys,List.map_map]
 refine List.map_id'' (fun b=> ?_) _
 simp
theorem QeA (f w:ByteArray) (cs:List Int):wrS f w cs 0=f:=Qcx f
theorem QcN {f w:ByteArray} {cs:List Int} {i:Nat} {c:Int} (h:cs[i]? =some c) (h1:0≤c∧c<((f.size:Nat):Int)) (h2:i<w.size):(wrS f w cs i).extract 0 (Int.toNat c)++w.extract i (i+1)++(wrS f w cs i).extract (Int.toNat (c+1)) (wrS f w cs i).size=wrS f w cs (i+1):=by
 have hl:=Yg f w cs i
 have hs:=QaZ f w cs i
 have hc:Int.toNat c<(YX f w cs i).length:=by omega
 have hb:QA w i=((w.data.toList[i]'(by rw [Array.length_toList];exact h2)).toNat:Int):=by rw [← J5 h2];rfl
 refine Y7 ?_
 rw [hs]
 unfold wrS
 rw [← JW h,Zj]
 simp only [ByteArray.data_append,Array.toList_append,ByteArray.data_extract,Array.toList_extract,Zj,List.extract_eq_take_drop]
 rw [List.set_eq_take_append_cons_drop,if_pos hc]
 simp only [List.map_append,List.map_cons,List.map_take,List.map_drop]
 rw [show i+1 - i=1 by omega,show Int.toNat (c+1)=Int.toNat c+1 by omega,List.drop_eq_getElem_cons (show i<w.data.toList.length by rw [Array.length_toList];exact h2),hb]
 rw [List.drop_zero,Nat.sub_zero,List.take_of_length_le (l:=List.drop (Int.toNat c+1) (List.map _ (YX f w cs i))) (by rw [List.length_drop,List.length_map,hl];omega),Int.toNat_natCast,UInt8.ofNat_toNat]
 simp only [List.take_succ_cons,List.take_zero,List.append_assoc,List.cons_append,List.nil_append]
end
theorem YT (n:Nat) (f:ByteArray) (l:List Int) (w:ByteArray) (hf:f.size≤maxLen) (hl:l.length=w.size) (hw:w.size≤maxLen) (hin:∀c∈l,0≤c∧c<((f.size:Nat):Int)):Pure (Qo Tryd.prog (n+1)) 38 [(tS f),(rd 1 Jh l),(tS w)] (tS (wrS f w l l.length)):=by
 refine Pure.intro (rs:= [ResultVar.tmp 6]) Tryd.func38 rfl rfl rfl (E0:= [(0,(tS f)),(1,(rd 1 Jh l)),(2,(tS w))]) rfl ?_
 obtain ⟨hlim,hmx,hmax⟩:=Q3
 refine sr (fO (OF.assign (VEv.str (⟨#[]⟩:ByteArray))) (nt (sr (mO (tS f) rfl (kO (B.convSB (tv (tS f) rfl) U9 U88 U5) (aO (T.os 1 0 0 (((bys f).map (QE true)).length)) rfl (nt (sq (sr (mO (rd 1 Jh l) rfl (lO (B.lenR (m:=l.length) (tv (rd 1 Jh l) rfl) U68 (List.length_map ..)) ?_)))))))))))
 refine fO (OF.move (VEv.int .i64 0)) (nt (VRun.block ?_))
 have he1:(bys f)=YX f w l 0:=by first | rfl | exact JW hx1 | (simp;done) | omega
 refine VRun.loop (A:=Nat) (fun s_=> [(2,(tS w)),(6,(tS (⟨#[]⟩:ByteArray))),(7,(T.os 1 0 0 (((YX f w l s_).map (QE true)).length))),(12,(rd 1 Jh l)),(13,(tN l.length)),(14,(tN s_))]) (fun s_=>Jo [(0,(Obj.rows 1 ((YX f w l s_).map (QE true))))]) 1 (fun s_=>s_≤l.length) (fun s_=>l.length - s_) (0:Nat) ?_ (Wk.mk (fun k=>k) ?_ ?_ ?_) ?_
 ·first | trivial | (simp;done) | omega | (constructor<;>simp)
 ·exact (b2 (b2 (bc ⟨(congrArg (fun l_=>T.os 1 0 0 (List.map (QE true) l_).length) he1),rfl⟩ (b2 (b2 (b2 bn))))))
 ·exact (bc ⟨(congrArg (fun l_=>some (Obj.rows 1 (List.map (QE true) l_))) he1),(lb rfl),rfl⟩ bn)
 ·exact nd rfl
 rintro i (hI':i≤l.length)
 show VRun _ _ _ [(2,(tS w)),(6,(tS (⟨#[]⟩:ByteArray))),(7,(T.os 1 0 0 (((YX f w l i).map (QE true)).length))),(12,(rd 1 Jh l)),(13,(tN l.length)),(14,(tN i))] (Jo [(0,(Obj.rows 1 ((YX f w l i).map (QE true))))]) 1 _
 have hwl:=Yg f w l i
 refine sr (fO (Y9 (tv (tN i) rfl) (tv (tN l.length) rfl)) (nt (sq ?_)))
 refine cd (i<l.length) rfl (fun fhc0=> ?_) fun fhc0=> ?_
 ·refine sk ?_
  refine tn (sq (VRun.block (sr (mO (tN i) rfl ?_))))
  obtain ⟨x1,hx1⟩:∃x,l[i]? =some x:=⟨_,List.getElem?_eq_getElem (by omega)⟩
  first | (have hil:=hin x1 (List.mem_of_getElem? hx1)) | skip
  refine fO (OF.indexAddrR (row:=(Jh false x1)) (i:=i) (tv (rd 1 Jh l) rfl) (tv (tN i) rfl) rfl (QJ _ hx1) U68 Jb JB) (lO (OL.loadR1 (t:=(tI x1)) (tv (T.rp [(tI x1)]) rfl) rfl ZD) (aO (tN i) rfl (aO (tI x1) rfl (nt (VRun.region (mO (T.os 1 0 0 (((YX f w l i).map (QE true)).length)) rfl (mO (tI x1) rfl (mO (tS w) rfl (mO (tN i) rfl ?_)))))))))
  have hb2:i<w.size:=(by omega)
  refine fO (xix (tv (tS w) rfl) (tv (tN i) rfl) hb2 U9) ?_
  obtain ⟨x2,hx2⟩:∃x,(YX f w l i)[(Int.toNat x1)]? =some x:=⟨_,List.getElem?_eq_getElem (by omega)⟩
  first | (have hil:=hin x2 (List.mem_of_getElem? hx2)) | skip
  refine fO (B.indexAddrO (i:=(Int.toNat x1)) (tv (T.os 1 0 0 (((YX f w l i).map (QE true)).length)) rfl) (tv (tI x1) rfl) (by omega) (by first | omega | (simp only [List.length_map];omega) | (simp only [List.length_map,List.length_append,List.length_cons,List.length_nil,List.length_replicate,List.length_set,List.length_drop,List.length_take,YL] at *;omega)) U88 sz5 if5) (cO (B.storeP (us:= [(T.int .u8 (QA w i))]) (rows':=(((YX f w l i).set (Int.toNat x1) (QA w i)).map (QE true))) (row:=(QE true x2)) (tv (T.orp 1 0 (Int.toNat x1) 0) rfl) (tv (T.int .u8 (QA w i)) rfl) nofun rfl (QJ _ hx2) rfl (lb rfl) if5 sz5 (bc rfl bn) (by intro r hr t ht;obtain ⟨x,_,rfl⟩:=List.mem_map.1 hr;rw [Qd4] at ht;exact Qax (okByte.pl _ t ht)) (Qa2 rfl)) (VRunO.nil (vinB.n (tn (VRun.region (fO (Zv (tv (tN i) rfl) (VEv.int .i64 1) (by omega)) (mO (tN (i+1)) rfl (VRunO.nil (tn ?_)))))))))
  have he3:((YX f w l i).set (Int.toNat x1) (QA w i))=YX f w l (i+1):=by first | rfl | exact JW hx1 | (simp;done) | omega
  refine ⟨(i+1:Nat),?_,?_,Wk.mk (fun k=>k) ?_ ?_ ?_⟩
  ·first | trivial | omega | (simp;done) | exact ⟨by omega,hI'.2⟩
  ·first | omega | (simp only [];omega) | (show _<_;omega) | (simp;omega)
  ·exact (b2 (b2 (bc ⟨(congrArg (fun n_=>T.os 1 0 0 n_) (show ((YX f w l i).map (QE true)).length=((YX f w l (i+1)).map (QE true)).length from (by first | rfl | (rw [List.length_map,List.length_map,Yg,Yg]) | (simp only [List.length_map];omega) | (simp only [List.length_map,List.length_set,List.length_append,List.length_take,List.length_replicate,List.length_cons,List.length_nil];omega)))),rfl⟩ (b2 (b2 (b2 bn))))))
  ·exact (bc ⟨(congrArg (fun l_=>some (Obj.rows 1 (List.map (QE true) l_))) he3),(lb rfl),rfl⟩ bn)
  ·exact nd rfl
 refine VRun.exit (vthn.e (vthn.e (vinB.e (tn (sr (mO (T.os 1 0 0 (((YX f w l i).map (QE true)).length)) rfl (lO (B.convBS (l:=YX f w l i) (tv (T.os 1 0 0 (((YX f w l i).map (QE true)).length)) rfl) rfl (List.length_map ..) U88 U5 U9) (aO (tS (Yu (YX f w l i))) rfl (nt (rt ?_))))))))))
 refine vfin.eq (r':=(tS (Yu (YX f w l i)))) ?_ (vfin.r (VRes.tmp (t:=(tS (Yu (YX f w l i)))) rfl VRes.nil) (Give.str _))
 refine congrArg T.str ?_
 rw [show i=l.length by omega];rfl
end Go.Proofs.YthifchndolccgaaDoor.AE
