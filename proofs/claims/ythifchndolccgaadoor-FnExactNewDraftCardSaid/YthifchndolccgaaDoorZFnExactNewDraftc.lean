/- A part of what the row of FnExactNewDraft uses. Conditions: as each theorem states. -/
import Derived.Test.YthifchndolccgaaDoorZFnExactNewDraftb
import Derived.Test.YthifchndolccgaaDoorProg
import Derived.KernelRfl
namespace Go.Proofs.YthifchndolccgaaDoor.AE
open Go Go.RowKit
set_option linter.unusedVariables false
set_option linter.unusedSimpArgs false
theorem SL.cut {hf h:AH}:∀ {ts:List T} {vs:List Value} {N:List Nat} (j:Nat) (hj:j<ts.length),SL hf h ts vs N→∃A B C,N=A++(B++C)∧S hf h (ts.getD j .any) (vs.getD j undef) B∧∀(h':AH) (t':T) (v':Value),(∀a∈A,h' a=h a)→(∀a∈C,h' a=h a)→S hf h' t' v' B→SL hf h' (ts.set j t') (vs.set j v') N
 | _,_,_,j,hj, .nil=>by simp at hj
 | _,_,_,0,hj, .cons (N:=N) (M:=M) hs hr=>⟨[],N,M,rfl,by simpa using hs,fun h' t' v' _ hC hS=> .cons hS (SL.mono (fun _ _ e=>e) hr hC)⟩
 | _,_,_,j+1,hj, .cons (N:=N) (M:=M) hs hr=>by
  obtain ⟨A,B,C,e,h1,h2⟩:=SL.cut j (by simpa using hj) hr
  refine ⟨N++A,B,C,by rw [e,List.append_assoc],by simpa using h1,fun h' t' v' hA hC hS=> ?_⟩
  exact .cons (S.mono (fun _ _ e=>e) hs (fun a ha=>hA a (by simp [ha]))) (h2 h' t' v' (fun a ha=>hA a (by simp [ha])) hC hS)
theorem QfZ {cs:List T} {o:Nat} {t:T} (h:o<cs.length):spl cs o [t]=cs.set o t:=by
 rw [spl,List.set_eq_take_append_cons_drop,if_pos h]
 simp
theorem Qfp {cs:List Value} {o:Nat} {t:Value} (h:o<cs.length):AE.splice cs o [t]=cs.set o t:=by
 rw [AE.splice,List.set_eq_take_append_cons_drop,if_pos h]
 simp
theorem Qjd {u:T} (hu:sc u=true) {σ:Nat→Option Nat} {hf:AH} {nx:Nat} {v:Value} (hv:V σ hf nx u v):v.cells.toList= [v]∧v.oneCell'=true∧∀hf h,S hf h u v []:=by
 cases u<;>first | (simp [sc] at hu;done) | skip
 ·obtain rfl:=hv.boolInv;exact ⟨rfl,rfl,fun _ _=> .fz (.bool _)⟩
 ·obtain rfl:=hv.intInv;exact ⟨rfl,rfl,fun _ _=> .fz (.int _ _)⟩
 ·obtain rfl:=hv.strInv;exact ⟨rfl,rfl,fun _ _=> .fz (.str _)⟩
theorem S.scN {hf h:AH} {t:T} {v:Value} {N:List Nat} (hs:S hf h t v N) (ht:AE.sc t=true):N= []:=by
 cases hs with
 | fz hr=>rfl
 | _=>simp [AE.sc] at ht
section
variable {call : QE} {P : Program} {E : QL} {O : Qu} {d : Option Tmp} {ty tt : TypeId} {ps : String} {af : Array Edge} {g : Option (Nat × Bool)} {x y : Operand} {nx sz k i o : Nat} {rows rows' : List (List T)} {row : List T} {asg : List Nat}
theorem QfL {σ:Nat→Option Nat} {hf h:AH} {a:Nat} {cs:List Value} {N:List Nat} {t0:T} (hh:h a=some (.cells sz cs)) (hlen:∀r∈rows,r.length=sz) (hfit:rows.length*sz≤cs.length) (hsl:SL hf h rows.flatten (cs.take (rows.length*sz)) N) (hi:rows[i]? =some row) (ho:row[o]? =some t0) :
  i*sz+o<rows.length*sz∧∃v A B C,cs[i*sz+o]? =some v∧N=A++(B++C)∧S hf h t0 v B∧∀(h':AH) (t':T) (v':Value),(∀b∈A,h' b=h b)→(∀b∈C,h' b=h b)→S hf h' t' v' B→SL hf h' (rows.set i (row.set o t')).flatten ((cs.set (i*sz+o) v').take (rows.length*sz)) N:=by
 have hlt:i<rows.length:=(List.getElem?_eq_some_iff.1 hi).1
 have hrow:row.length=sz:=hlen row (List.mem_of_getElem? hi)
 have hol:=(List.getElem?_eq_some_iff.1 ho).1
 have ho':o<sz:=by rw [← hrow];exact hol
 have hf1:=QaQ (sz:=sz) hlt
 have hfl:=Zg hlen
 obtain ⟨A,B,C,e,h1,h2⟩:=hsl.cut (i*sz+o) (by omega)
 rw [Yg hlen hi ho',List.getD_eq_getElem?_getD,ho,Option.getD_some,List.getD_eq_getElem?_getD,List.getElem?_take,if_pos (by omega),List.getElem?_eq_getElem (by omega),Option.getD_some] at h1
 refine ⟨by omega,_,A,B,C,List.getElem?_eq_getElem (by omega),e,h1,fun h' t' v' hA hC hS=> ?_⟩
 have h3:=h2 h' t' v' hA hC hS
 rw [← QfZ (by omega),← Qbv hlen hi (by simp only [List.length_cons,List.length_nil];omega),QfZ hol] at h3
 rw [List.take_set]
 exact h3
theorem B.storeN {t0 u:T} (hx:VEv E x (.orp sz k i o)) (hy:VEv E y u) (hu:sc u=true) (hk:gO O k=some (.rowsN sz rows asg)) (hi:rows[i]? =some row) (ho:row[o]? =some t0) (ht0:sc t0=true) (hif:(P.info? tt).isSome=true) (hn:P.cellsOf tt=1) (hr:rows.set i (row.set o u)=rows') :
  OC call P E O nx ⟨d, .store tt x y,ty,ps,af,g⟩ .any ((k,some (.rowsN sz rows' asg))::O) nx [k]:=⟨Nat.le_refl _,fun q p h0 σ hf own Ea h hs hq hF=>by
 subst hr
 obtain ⟨v,h1,h2⟩:=hx σ hf nx Ea hs.env
 obtain ⟨v',h3,h4⟩:=hy σ hf nx Ea hs.env
 obtain ⟨c1,c2,c3⟩:=Qjd hu h4
 obtain ⟨a,rfl,h5,h6⟩:=h2.orpInv
 obtain ⟨N,hN1,hN2,h7⟩:=hs.objAt hk
 rw [h5] at h7
 cases h7 with
 | rowsN hh hodd hlen hfit hsl =>
  rename_i cs
  obtain ⟨hlt,w,A,B,C,e1,e2,e3,e4⟩:=QfL (σ:=σ) hh hlen hfit hsl hi ho
  obtain rfl:=e3.scN ht0
  have hst:=Qbl (P:=P) (t:=tt) (v:=v') (o:=i*sz+o) hodd hh hif hn c1 rfl (by simp only [List.length_cons,List.length_nil];omega) (by simpa using c2)
  rw [Qfp (by omega)] at hst
  have hown:own a=some k:=hN2 a (by simp)
  have haN:∀b,b∈asg→b≠a:=fun b hb e=>(List.nodup_cons.1 hN1).1 (e▸hb)
  have hupd:∀z:Zy,∀b∈asg,(h.upd a (some z)) b=h b:=fun z b hb=>AH.upd_ne _ (haN b hb) _
  have hobj:ObjR σ hf nx (h.upd a (some (.cells sz (cs.set (i*sz+o) v')))) (.rowsN sz (rows.set i (row.set o u)) asg) (some a) (a::asg):=by
   refine .rowsN (AH.upd_same _ _ _) hodd (fun r hr=> ?_) (by rw [List.length_set,List.length_set];exact hfit) ?_
   ·rcases List.mem_or_eq_of_mem_set hr with hm | rfl
    ·exact hlen r hm
    ·rw [List.length_set];exact hlen row (List.mem_of_getElem? hi)
   ·rw [List.length_set]
    exact e4 _ _ _ (fun b hb=>hupd _ b (by rw [e2];simp [hb])) (fun b hb=>hupd _ b (by rw [e2];simp [hb])) (c3 _ _)
  refine ⟨undef,_,σ,own,X.store h1 h3 hst,Dom.old (by rw [hh];simp) _,fun _ _=>rfl,hs.upd h5 h6 hown hN1 hN2 hobj, .any _,fun b hb hnk=>AH.upd_ne _ (fun e=> ?_) _,fun b k' e=> .inl e⟩
  exact hnk k (by simp) (e▸hown)⟩
theorem VRunO.nest {ops:Array Oper} {l:List Oper} {K:QL→Qu→Nat→Prop} {d1 d2 d3:Nat} {ty1 ty2 ty3:TypeId} {ps1 ps2 ps3:String} {af1 af2 af3:Array Edge} {f:FuncId} {tys:Array TypeId} {sz2:Nat} {rs rs':List (List T)} {n r:Int} (h12:(d1 == d2)=false) (hx:VEv E x (.orp sz k i o)) (hk:gO O k=some (.rowsN sz rows asg)) (hi:rows[i]? =some row) (ho:row[o]? =some (.sl true sz2 rs)) (hst:Qv P tt=some false) (hy:VEv ((d1, .any)::E) y (.int .i64 n)) (hb:ZF P f=true) (hm:Mut call f sz2 rs [.int .i64 n] (some r) rs') (hc:∀r∈rs,∀t∈r,Clean t) (hr:rows.set i (row.set o (.sl true sz2 rs'))=rows')
  (hK:VRunO call P ops l ((d3, .int .i64 r)::(d2, .int .i64 n)::(d1, .any)::E) ((k,some (.rowsN sz rows' asg))::O) nx K) :
  VRunO call P ops (⟨some d1, .load tt x,ty1,ps1,af1,none⟩::⟨some d2, .move y,ty2,ps2,af2,none⟩::⟨some d3, .call ⟨.value (.func f),#[.tmp d1, .tmp d2],tys⟩,ty3,ps3,af3,none⟩::l) E O nx K:=by
 unfold VRunO at hK ⊢
 intro p h0 σ hf own Ea h c j hs
 subst hr
 obtain ⟨v,h1,h2⟩:=hx σ hf nx Ea hs.env
 obtain ⟨a,rfl,h5,h6⟩:=h2.orpInv
 obtain ⟨N,hN1,hN2,h7⟩:=hs.objAt hk
 rw [h5] at h7
 cases h7 with
 | rowsN hh hodd hlen hfit hsl =>
  rename_i cs
  obtain ⟨hlt,v0,A,B,C,e1,e2,e3,e4⟩:=QfL (σ:=σ) hh hlen hfit hsl hi ho
  have hs1:=hs.put (V.any (σ:=σ) (hf:=hf) (nx:=nx) v0) (some d1)
  obtain ⟨w,y1,y2⟩:=hy σ hf nx _ hs1.env
  obtain rfl:=y2.intInv
  have hs2:=hs1.put y2 (some d2)
  have hdd:d1≠d2:=by simpa using h12
  refine RunO.pure rfl rfl rfl (X.load h1 (Yk hst hh e1)) (RunO.pure rfl rfl rfl (X.move y1) ?_)
  have hown:own a=some k:=hN2 a (by simp)
  have hsub:∀b∈B,b∈asg:=fun b hb=>by rw [e2];simp [hb]
  have hnd:asg.Nodup:=(List.nodup_cons.1 hN1).2
  have hndB:B.Nodup:=by rw [e2,List.nodup_append,List.nodup_append] at hnd;exact hnd.2.1.1
  have hdisA:∀b∈A,b∉B:=fun b hb hm2=>by rw [e2,List.nodup_append] at hnd;exact hnd.2.2 b hb b (by simp [hm2]) rfl
  have hdisC:∀b∈C,b∉B:=fun b hb hm2=>by rw [e2,List.nodup_append,List.nodup_append] at hnd;exact hnd.2.1.2.2 b hm2 b hb rfl
  have haB:a∉B:=fun hm2=>(List.nodup_cons.1 hN1).1 (hsub a hm2)
  have hevs:AE.evs (Q7 (Q7 Ea (some d1) v0) (some d2) (.int .i64 n)) [.tmp d1, .tmp d2]=some [v0, .int .i64 n]:=by
   simp [AE.evs,Q3,Q7,hdd]
  unfold RunO
  intro hfc
  have hF:Fr (child p (c+(j+1+1))) h:=FrC.fr hfc (Nat.le_refl _)
  have hS0:S (fun _=>none) h (.sl true sz2 rs) v0 B:=S.clean e3 (.sl _ _ hc)
  have h8:=hm h (child p (c+(j+1+1))) hf v0 B [.int .i64 n] hF (fun b o hb=>⟨(hs.fro b o hb).1,fun hm2=>by have:=hN2 b (by simp [hsub b hm2]);rw [(hs.fro b o hb).2] at this;cases this⟩) hS0 hndB (RL.cons (.int _ _) (RL.nil _))
  unfold CallS at h8
  obtain ⟨v,h',k1,k2,k3,rfl,k5⟩:=h8
  have hha:h' a=some (.cells sz cs):=(k3 a (by rw [hh];simp) haB).trans hh
  have hobj:ObjR σ hf nx h' (.rowsN sz (rows.set i (row.set o (.sl true sz2 rs'))) asg) (σ k) (a::asg):=by
   rw [h5]
   refine .rowsN hha hodd (fun r hr=> ?_) (by rw [List.length_set];exact hfit) ?_
   ·rcases List.mem_or_eq_of_mem_set hr with hm2 | rfl
    ·exact hlen r hm2
    ·rw [List.length_set];exact hlen row (List.mem_of_getElem? hi)
   ·rw [List.length_set]
    have hnn:∀b∈asg,h b≠none:=fun b hb=>hsl.names b hb
    have:=e4 h' (.sl true sz2 rs') v0 (fun b hb=>k3 b (hnn b (by rw [e2];simp [hb])) (hdisA b hb)) (fun b hb=>k3 b (hnn b (by rw [e2];simp [hb])) (hdisC b hb)) (k5.mono (fun _ _ e=>by cases e) (fun _ _=>rfl))
    have e5:cs.set (i*sz+o) v0=cs:=by
     refine List.ext_getElem? fun q=> ?_
     rw [List.getElem?_set]
     split
     ·rename_i e;subst e;rw [if_pos (by omega),e1]
     ·rfl
    rwa [e5] at this
  have hs3:SR p h0 σ hf own ((d2, .int .i64 n)::(d1, .any)::E) ((k,some (.rowsN sz (rows.set i (row.set o (.sl true sz2 rs'))) asg))::O) nx (Q7 (Q7 Ea (some d1) v0) (some d2) (.int .i64 n)) h':=by
   refine ⟨hs2.env,fun k' o' hk'=> ?_,fun b o' hb=> ?_,fun b k' hb=> ?_,hs.base,fun t ht=> ?_⟩
   ·simp only [gO] at hk'
    split at hk'
    ·rename_i e
     subst e
     obtain rfl:=Option.some.inj hk'
     exact ⟨h6,a::asg,hN1,hN2,hobj⟩
    ·rename_i hne
     obtain ⟨m1,N2,m2,m3,m4⟩:=hs.obj k' o' hk'
     refine ⟨m1,N2,m2,m3,m4.mono (fun _ _ e=>e) (Nat.le_refl _) (fun _ _=>rfl) (fun b hb=>k3 b (hs.mine b k' (m3 b hb)).2.2.1 (fun hm2=> ?_))⟩
     have:=hN2 b (by simp [hsub b hm2])
     rw [m3 b hb] at this
     exact hne (Option.some.inj this)
   ·obtain ⟨m1,m2⟩:=hs.fro b o' hb
    refine ⟨?_,m2⟩
    rw [k3 b (by rw [m1];simp) (fun hm2=>by have:=hN2 b (by simp [hsub b hm2]);rw [m2] at this;cases this)]
    exact m1
   ·obtain ⟨m1,m2,m3,m4⟩:=hs.mine b k' hb
    refine ⟨m1,m2,?_,m4⟩
    by_cases hm2:b∈B
    ·exact k5.names b hm2
    ·rw [k3 b m3 hm2];exact m3
   ·rcases k2 t ht with e | e
    ·exact hs.dom t e
    ·exact .inr (.inl (YG e))
  have hs4:=hs3.put (V.fz (σ:=σ) (hf:=hf) (nx:=nx) (R.int (hf:=hf) .i64 r)) (some d3)
  have hk4:=hK p h0 σ hf own _ h' c (j+1+1+1) hs4
  have hex:Qx call P (child p (c+(j+1+1))) (Q7 (Q7 Ea (some d1) v0) (some d2) (.int .i64 n)) h ⟨some d3, .call ⟨.value (.func f),#[.tmp d1, .tmp d2],tys⟩,ty3,ps3,af3,none⟩=some (rvV (some r),h'):=by
   simp only [Qx,X.calls (ts:=tys) hb (show AE.evs _ (#[Operand.tmp d1,Operand.tmp d2].toList)=some [v0, .int .i64 n] from hevs),k1]
  have hst2:=RunO.step (call:=call) (P:=P) (π:=p) (c:=c) (i:=j+1+1) (ops:=ops) (r:=l) (K:=KK p h0 K) rfl rfl rfl hex (fun _=>k2) (fun _=>hk4)
  unfold RunO at hst2
  exact hst2 hfc
end
abbrev LO := List (Nat×List (List T))
def loO (asg:Nat→List Nat):Nat→LO→Qu
 | _,[]=> []
 | n,x::r=>(n,some (.rowsN x.1 x.2 (asg n)))::loO asg (n+1) r
theorem QhJ (asg:Nat→List Nat) (k:Nat):∀(L:LO) (n:Nat),gO (loO asg n L) k=if n≤k then (L[k - n]?).map (fun x=>Obj.rowsN x.1 x.2 (asg k)) else none
 | [],n=>by simp [loO,gO]
 | x::r,n=>by
  rw [loO,gO]
  by_cases h:k=n
  ·subst h;simp
  ·rw [if_neg h,QhJ asg k r (n+1)]
   by_cases h2:n≤k
   ·rw [if_pos h2,if_pos (by omega),show k - n=(k - (n+1))+1 by omega,List.getElem?_cons_succ]
   ·rw [if_neg h2,if_neg (by omega)]
def Qj2 (σ:Nat→Option Nat) (hf:AH) (own:Nat→Option Nat) (asg:Nat→List Nat) (L:LO) (h:AH):Prop:=∀k x,L[k]? =some x→∃N,N.Nodup∧(∀a∈N,own a=some k)∧ObjR σ hf L.length h (.rowsN x.1 x.2 (asg k)) (σ k) N
def LoanM (call:QE) (f:FuncId) (L:LO) (ts:List T) (r:T) (L':LO):Prop:=∀(asg:Nat→List Nat) (h:AH) (p:Nat) (hf:AH) (σ own:Nat→Option Nat) (vs:List Value),Fr p h→(∀b o,hf b=some o→h b=some o∧own b=none)→(∀b k,own b=some k→h b≠none∧k<L.length)→Qj2 σ hf own asg L h→VL σ hf L.length ts vs →
 CallS call f vs h p (fun v h'=>(∀b,h b≠none→own b=none→h' b=h b)∧(∃hf2,V σ hf2 L.length r v)∧∀k x,L'[k]? =some x→∃N,N.Nodup∧(∀a∈N,own a=some k)∧ObjR σ hf L.length h' (.rowsN x.1 x.2 (asg k)) (σ k) N)
inductive PinK (k:Nat):T→Prop
 | os (sz n:Nat):PinK k (.os sz k 0 n)
 | agg {ts:List T} {t:T} (i:Nat) (h:ts[i]? =some t) (hp:PinK k t):PinK k (.agg ts)
inductive PRes : T→Prop
 | none:PRes (.tup [])
 | int (k:IntKind) (n:Int):PRes (.int k n)
 | bool (b:Bool):PRes (.bool b)
theorem PRes.R {r:T} {v:Value} {σ:Nat→Option Nat} {hf:AH} {nx:Nat} (hr:PRes r) (h:V σ hf nx r v) (hf':AH):AE.R hf' r v:=by
 cases hr with
 | none =>
  obtain ⟨l,rfl,h1⟩:=V.tupL h
  obtain rfl:=List.eq_nil_of_length_eq_zero h1.1.symm
  exact .tup [] #[] rfl (fun i hi=>by simp at hi)
 | int k n=>obtain rfl:=V.intInv h;exact .int _ _
 | bool b=>obtain rfl:=V.boolInv h;exact .bool _
theorem Qij {σ σ':Nat→Option Nat} {hf hf':AH} {nx nx' sz k k' n:Nat} {v:Value} (h:V σ hf nx (.os sz k 0 n) v) (h':V σ' hf' nx' (.os sz k' 0 n) v):σ' k'=σ k:=by
 obtain ⟨_,⟨a,m,e1,e2,e3⟩ | ⟨e1,_,e2,e3⟩⟩:=h.osInv
 ·obtain ⟨_,⟨a',m',f1,f2,f3⟩ | ⟨f1,_,f2,f3⟩⟩:=h'.osInv
  ·rw [e1] at f1
   simp only [Value.slice.injEq,Option.some.injEq,Addr.mk.injEq] at f1
   rw [e2,f2,f1.1.1]
  ·subst e1
   rcases f3 with f3 | ⟨b,o,f3⟩
   ·exact absurd f3 (by simp)
   ·simp only [Value.slice.injEq] at f3
    omega
 ·obtain ⟨_,⟨a',m',f1,f2,f3⟩ | ⟨f1,_,f2,f3⟩⟩:=h'.osInv
  ·subst f1
   rcases e3 with e3 | ⟨b,o,e3⟩
   ·exact absurd e3 (by simp)
   ·simp only [Value.slice.injEq] at e3
    omega
  ·rw [e1,f1]
theorem PinK.same {σ σ':Nat→Option Nat} {hf hf':AH} {nx nx' k:Nat} {f:Nat→Nat} {pin:T} {v:Value} (hp:PinK k pin) (h:V σ hf nx pin v) (h':V σ' hf' nx' (ren f pin) v):σ' (f k)=σ k:=by
 induction hp generalizing v with
 | os sz n=>exact Qij h h'
 | agg i hi hp ih =>
  rename_i ts t
  obtain ⟨l,rfl,h1⟩:=V.aggL h
  have h2:V σ' hf' nx' (.agg (YY f ts)) (.agg l.toArray):=h'
  obtain ⟨l2,e,h3⟩:=V.aggL h2
  have e2:l2=l:=by
   simp only [Value.agg.injEq] at e
   have:=congrArg Array.toList e
   simpa using this.symm
  subst e2
  have hlt:=(List.getElem?_eq_some_iff.1 hi).1
  have g1:=h1.2 i hlt
  have g2:=h3.2 i (by rw [QW,List.length_map];exact hlt)
  rw [List.getD_eq_getElem?_getD,hi,Option.getD_some] at g1
  rw [QW,List.getD_eq_getElem?_getD,List.getElem?_map,hi,Option.map_some,Option.getD_some] at g2
  exact ih g1 g2
def finO (O:Qu) (f:Nat→Nat) (asg:Nat→List Nat):Nat→LO→Prop
 | _,[]=>True
 | n,x::r=>gO O (f n)=some (.rowsN x.1 x.2 (asg n))∧finO O f asg (n+1) r
theorem finO.at {O:Qu} {f:Nat→Nat} {asg:Nat→List Nat}:∀ {L:LO} {n:Nat} (k:Nat) {x},finO O f asg n L→L[k]? =some x→gO O (f (n+k))=some (.rowsN x.1 x.2 (asg (n+k)))
 | [],n,k,x,_,h=>by simp at h
 | y::r,n,0,x,h,e=>by
  obtain rfl:y=x:=by simpa using e
  exact h.1
 | y::r,n,k+1,x,h,e=>by
  have:=finO.at (L:=r) (n:=n+1) k h.2 (by simpa using e)
  rwa [show n+1+k=n+(k+1) by omega] at this
def vloanM (P:Program) (rs:List ResultVar) (pins:List (Nat×T)) (L':LO) (asg:Nat→List Nat) (r:T):AX→QL→Qu→Nat→Prop
 | .exit _,_,_,_=>False
 | _,E,O,_=>∃(f:Nat→Nat) (us:List T),VRes P E O rs us∧Qbj us=r∧(∀x∈pins,gE E x.1=ren f x.2)∧finO O f asg 0 L'
theorem vloanM.r {P:Program} {rs:List ResultVar} {pins:List (Nat×T)} {L1 L':LO} {asg:Nat→List Nat} {r:T} {E:QL} {O:Qu} {nx:Nat} {us:List T} (f:Nat→Nat) (h:VRes P E O rs us) (h1:Qbj us=r) (h2:∀x∈pins,gE E x.1=ren f x.2) (h3:finO O f asg 0 L1) (e:L1=L'):vloanM P rs pins L' asg r .ret E O nx:=⟨f,us,h,h1,h2,e▸h3⟩
theorem ObjR.nameN {σ:Nat→Option Nat} {hf h:AH} {nx sz:Nat} {rows:List (List T)} {asg N:List Nat} {oa:Option Nat} (h1:ObjR σ hf nx h (.rowsN sz rows asg) oa N):(oa=Option.none∧N= []∧asg= [])∨∃a,oa=some a∧N=a::asg:=by
 cases h1 with
 | noneN sz=>exact .inl ⟨rfl,rfl,rfl⟩
 | rowsN hk hodd hlen hfit hs=>exact .inr ⟨_,rfl,rfl⟩
theorem ObjR.moveN {σ σ':Nat→Option Nat} {hf hf' h h':AH} {nx nx' sz:Nat} {rows:List (List T)} {asg N:List Nat} {oa:Option Nat} (h1:ObjR σ hf nx h (.rowsN sz rows asg) oa N) (hc:∀r∈rows,∀t∈r,Clean t) (hh:∀a∈N,h' a=h a):ObjR σ' hf' nx' h' (.rowsN sz rows asg) oa N:=by
 cases h1 with
 | noneN sz=>exact .noneN sz
 | rowsN hk hodd hlen hfit hs =>
  refine .rowsN ((hh _ (by simp)).trans hk) hodd hlen hfit ?_
  have h2:=SL.clean (hf':=fun _=>Option.none) hs (fun t ht=>by
   obtain ⟨r,hr,htr⟩:=List.mem_flatten.1 ht
   exact hc r hr t htr)
  exact h2.mono (fun _ _ e=>(by cases e)) (fun a ha=>hh a (by simp [ha]))
theorem ObjR.namesN {σ:Nat→Option Nat} {hf h:AH} {nx sz:Nat} {rows:List (List T)} {asg N:List Nat} {oa:Option Nat} (h1:ObjR σ hf nx h (.rowsN sz rows asg) oa N):∀a∈N,h a≠Option.none:=by
 cases h1 with
 | noneN sz=>intro a ha;cases ha
 | rowsN hk hodd hlen hfit hs =>
  intro a ha
  rcases List.mem_cons.1 ha with rfl | ha
  ·rw [hk];simp
  ·exact hs.names a ha
theorem LoanM.intro {P:Program} {f:FuncId} {fn:Func} {c:Code} {n:Nat} {ts:List T} {r:T} {L L':LO} {rs:List ResultVar} (pins:List (Nat×T)) (hf:P.funcs[f]? =some fn) (hb:fn.body=some c) (hc:Q6 fn.ntmps c=true) (hrs:fn.results.toList=rs) (hL:L'.length=L.length) (hp1:∀x∈pins,noW x.1 c=true∧ts[x.1]? =some x.2) (hp2:∀k,k<L.length→∃x∈pins,PinK k x.2) (hr0:PRes r) (hcl:∀x∈L',∀r∈x.2,∀t∈r,Clean t) {E0:QL} (hE:QbF 0 ts=E0)
  (hr:∀asg,VRun (Qw P n) P c E0 (loO asg 0 L) L.length (vloanM P rs pins L' asg r)) (hpr:Jc f=true:=by rfl):LoanM (Qw P (n+1)) f L ts r L':=by
 subst hE
 intro asg h p hfz σ own vs hfp hfN hown hO hvs
 classical
 let hb0:AH:=fun b=>if own b≠none then none else h b
 have hb1:∀b,own b=none→hb0 b=h b:=fun b hb=>if_neg (by simp [hb])
 have hb2:∀b,own b≠none→hb0 b=none:=fun b hb=>if_pos hb
 have hb3:∀b o,hb0 b=some o→own b=none∧h b=some o:=fun b o hb=>by
  by_cases hm:own b=none
  ·exact ⟨hm,(hb1 b hm).symm.trans hb⟩
  ·rw [hb2 b hm] at hb;cases hb
 have hsub:∀b o,hfz b=some o→hb0 b=some o:=fun b o hb=>(hb1 b (hfN b o hb).2).trans (hfN b o hb).1
 have hs0:SR p ⟨hb0,fun b=>own b≠none⟩ σ hb0 own (QbF 0 ts) (loO asg 0 L) L.length (fun t=>vs.getD t undef) h:=by
  refine ⟨fun t=> ?_,fun k o hk=> ?_,fun a o ha=>⟨(hb3 a o ha).2,(hb3 a o ha).1⟩,fun a k ha=> ?_,fun _ _=>rfl,fun t ht=> ?_⟩
  ·rw [QaL,if_neg (by omega),Nat.sub_zero]
   rcases Nat.lt_or_ge t ts.length with h1 | h1
   ·exact (hvs.2 t h1).mono hsub (Nat.le_refl _) (fun _ _=>rfl)
   ·rw [List.getD_eq_getElem?_getD,List.getElem?_eq_none h1]
    exact .any _
  ·rw [QhJ,if_pos (Nat.zero_le _),Nat.sub_zero] at hk
   obtain ⟨x,hx,rfl⟩:=Option.map_eq_some_iff.1 hk
   obtain ⟨N,g1,g2,g3⟩:=hO k x hx
   exact ⟨(List.getElem?_eq_some_iff.1 hx).1,N,g1,g2,g3.mono hsub (Nat.le_refl _) (fun _ _=>rfl) (fun _ _=>rfl)⟩
  ·have h1:own a≠none:=by rw [ha];simp
   exact ⟨.inr h1,hb2 a h1,(hown a k ha).1,(hown a k ha).2⟩
  ·by_cases hm:own t=none
   ·exact .inl (by show hb0 t≠none;rw [hb1 t hm];exact ht)
   ·exact .inr (.inr hm)
 have hr1:=hr asg
 unfold VRun at hr1
 have hrun:=hr1 p _ σ _ _ _ h 0 hs0
 have hrun2:Run (Qw P n) P p c ⟨fun t=>vs.getD t undef,h,0⟩ (fun e s=>KK p ⟨hb0,fun b=>own b≠none⟩ (vloanM P rs pins L' asg r e) s.E s.h∧∀x∈pins,s.E x.1=vs.getD x.1 undef):=by
  unfold Run at hrun ⊢
  intro hfc
  obtain ⟨e,s',h1,h2,h3⟩:=hrun hfc
  exact ⟨e,s',h1,h2,h3,fun x hx=>Zu _ _ _ _ (hp1 x hx).1 h1⟩
 refine CallS.intro (hpr:=hpr) (rs:=rs) hf hb hc hfp hrs (Run.mono hrun2 ?_)
 rintro e s' ⟨⟨σ',hf',own',E,O,nx,h1,h2⟩,h0⟩
 have key:(∃(f:Nat→Nat) (us:List T),VRes P E O rs us∧Qbj us=r∧(∀x∈pins,gE E x.1=ren f x.2)∧finO O f asg 0 L')→∃l,Yx P s'.h s'.E rs=some l∧(fun v h'=>(∀b,h b≠none→own b=none→h' b=h b)∧(∃hf2,V σ hf2 L.length r v)∧∀k x,L'[k]? =some x→∃N,N.Nodup∧(∀a∈N,own a=some k)∧ObjR σ hfz L.length h' (.rowsN x.1 x.2 (asg k)) (σ k) N) (ZR l) (if QN (ZR l) then ZH h s'.h else Jn p h s'.h):=by
  rintro ⟨f,us,g1,g2,g3,g4⟩
  obtain ⟨l,l1,l2⟩:=g1.run h1
  have g5:V σ' hf' nx (Qbj us) (ZR l):=by
   have hlen:=l2.1
   match us,l,l2,hlen with
   | [],[],g4,_=>exact g4.toTup
   | [t],[v],g4,_ =>
    obtain ⟨v',r',e,g6,_⟩:=g4.tail
    cases e
    exact g6
   | t::t'::us,v::v'::l,g4,_=>exact g4.toTup
   | [],_::_,_,hl=>cases hl
   | [_],[],_,hl=>cases hl
   | [_],_::_::_,_,hl=>cases hl
   | _::_::_,[],_,hl=>cases hl
   | _::_::_,[_],_,hl=>cases hl
  rw [g2] at g5
  have hbase:∀a o,hb0 a=some o→hf' a=some o:=fun a o ha=>by
   have e3:hf' a=hb0 a:=h1.base a (by show hb0 a≠none;rw [ha];simp)
   rw [e3,ha]
  have hσ:∀k,k<L.length→σ' (f k)=σ k:=fun k hk=>by
   obtain ⟨x,hx,hpk⟩:=hp2 k hk
   have e1:=(hp1 x hx).2
   have hjl:=(List.getElem?_eq_some_iff.1 e1).1
   have p1:=hvs.2 x.1 hjl
   rw [List.getD_eq_getElem?_getD,e1] at p1
   have p2:=h1.env x.1
   rw [g3 x hx,h0 x hx] at p2
   exact hpk.same p1 p2
  have hold:∀b,h b≠none→(if QN (ZR l) then ZH h s'.h else Jn p h s'.h) b=s'.h b:=fun b hb=>by
   split
   ·unfold ZH
    cases hh:h b with
    | none=>exact absurd hh hb
    | some o=>rfl
   ·exact QbW (.inl hb)
  refine ⟨l,l1,fun b hb hbN=> ?_,⟨hf', .fz (hr0.R g5 _)⟩,fun k x hx=> ?_⟩
  ·rw [hold b hb]
   obtain ⟨o,ho⟩:=Option.ne_none_iff_exists'.1 hb
   rw [(h1.fro b o (hbase b o ((hb1 b hbN).trans ho))).1,ho]
  ·have hkl:k<L.length:=by rw [← hL];exact (List.getElem?_eq_some_iff.1 hx).1
   obtain ⟨N,n1,n2,n3⟩:=hO k _ (List.getElem?_eq_getElem hkl)
   have g6:=finO.at k g4 hx
   rw [Nat.zero_add] at g6
   obtain ⟨M,m1,m2,m3⟩:=h1.objAt g6
   rw [hσ k hkl] at m3
   have hMN:M=N:=by
    rcases n3.nameN with ⟨q1,rfl,q2⟩ | ⟨a,q1,rfl⟩
    ·rcases m3.nameN with ⟨_,rfl,_⟩ | ⟨a',q3,_⟩
     ·rfl
     ·rw [q1] at q3;cases q3
    ·rcases m3.nameN with ⟨q3,_,_⟩ | ⟨a',q3,rfl⟩
     ·rw [q1] at q3;cases q3
     ·rw [q1] at q3;rw [Option.some.inj q3]
   subst hMN
   exact ⟨M,n1,n2,m3.moveN (hcl x (List.mem_of_getElem? hx)) (fun a ha=>hold a (hown a k (n2 a ha)).1)⟩
 cases e with
 | normal=>unfold fin;exact key h2
 | ret=>unfold fin;exact key h2
 | exit id=>exact h2.elim
def ix : List Nat→Nat→Option Nat
 | [],_=>none
 | a::r,k=>if k=a then some 0 else (ix r k).map (· +1)
theorem JO : ∀ {ks:List Nat} {k n:Nat},ix ks k=some n→ks[n]? =some k
 | [],k,n,h=>by cases h
 | a::r,k,n,h=>by
  simp only [ix] at h
  split at h
  ·rename_i e
   obtain rfl:=Option.some.inj h
   simp [e]
  ·obtain ⟨m,h1,rfl⟩:=Option.map_eq_some_iff.1 h
   simpa using JO h1
theorem Qiy : ∀ {ks:List Nat} {k n:Nat},ks.Nodup→ks[n]? =some k→ix ks k=some n
 | [],k,n,_,h=>by simp at h
 | a::r,k,0,_,h=>by
  obtain rfl:a=k:=by simpa using h
  simp [ix]
 | a::r,k,n+1,hn,h=>by
  have h1:r[n]? =some k:=by simpa using h
  have h2:=List.nodup_cons.1 hn
  have h3:¬k=a:=fun e=>h2.1 (e▸List.mem_of_getElem? h1)
  simp only [ix,if_neg h3,Qiy h2.2 h1,Option.map_some]
def isR : Obj→Nat×List (List T)→Prop
 | .rows sz rows,x=>x=(sz,rows)
 | .rowsN sz rows _,x=>x=(sz,rows)
 | _,_=>False
def QhT : Obj→Nat×List (List T)→Obj
 | .rows _ _,x=> .rows x.1 x.2
 | .rowsN _ _ asg,x=> .rowsN x.1 x.2 asg
 | o,_=>o
theorem isR.toN {σ:Nat→Option Nat} {hf h:AH} {nx:Nat} {o:Obj} {x:Nat×List (List T)} {oa:Option Nat} {N:List Nat} (ho:isR o x) (h1:ObjR σ hf nx h o oa N):∃asg,ObjR σ hf nx h (.rowsN x.1 x.2 asg) oa N∧∀ {σ':Nat→Option Nat} {hf' h':AH} {nx':Nat} {y:Nat×List (List T)},ObjR σ' hf' nx' h' (.rowsN y.1 y.2 asg) oa N→ObjR σ' hf' nx' h' (QhT o y) oa N:=by
 cases h1 with
 | rows hk hodd hlen hfit hs =>
  obtain rfl:x=_:=ho
  refine ⟨_, .rowsN hk hodd hlen hfit hs,fun {σ' hf' h' nx' y} h2=> ?_⟩
  obtain ⟨sz',rows'⟩:=y
  cases h2 with
  | rowsN hk hodd hlen hfit hs=>exact .rows hk hodd hlen hfit hs
 | none sz =>
  obtain rfl:x=_:=ho
  refine ⟨_, .noneN sz,fun {σ' hf' h' nx' y} h2=> ?_⟩
  obtain ⟨sz',rows'⟩:=y
  cases h2 with
  | noneN sz=>exact ObjR.none _
 | rowsN hk hodd hlen hfit hs =>
  obtain rfl:x=_:=ho
  exact ⟨_, .rowsN hk hodd hlen hfit hs,fun h2=>h2⟩
 | noneN sz =>
  obtain rfl:x=_:=ho
  exact ⟨_, .noneN sz,fun h2=>h2⟩
 | cells hk hodd hv=>exact (show False from ho).elim
 | map hk hodd g1 g2=>exact (show False from ho).elim
def Qgv : Qu→List Nat→LO→List Obj→Qu
 | O,k::ks,x::r,o::os=>Qgv ((k,some (QhT o x))::O) ks r os
 | O,_,_,_=>O
theorem QfT (q:Nat):∀ {ks:List Nat} {L:LO} {os:List Obj} {O:Qu},ks.Nodup→L.length=ks.length→os.length=ks.length→gO (Qgv O ks L os) q=match ix ks q with
  | some n=>(match L[n]?,os[n]? with | some x,some o=>some (QhT o x) | _,_=>none)
  | none=>gO O q
 | [],L,os,O,_,hl,ho=>by
  cases L with
  | nil=>simp [Qgv,ix]
  | cons x r=>cases hl
 | k::ks,[],os,O,_,hl,ho=>by cases hl
 | k::ks,x::r,[],O,_,hl,ho=>by cases ho
 | k::ks,x::r,o::os,O,hn,hl,ho=>by
  have hn2:=List.nodup_cons.1 hn
  rw [Qgv,QfT q hn2.2 (by simpa using hl) (by simpa using ho)]
  simp only [ix]
  by_cases hq:q=k
  ·subst hq
   have:ix ks q=none:=by
    cases hx:ix ks q with
    | none=>rfl
    | some n=>exact absurd (List.mem_of_getElem? (JO hx)) hn2.1
   simp [this,gO]
  ·rw [if_neg hq]
   cases hx:ix ks q with
   | none=>simp [gO,hq]
   | some n=>simp
def hosL (O:Qu):List Nat→List Obj→LO→Prop
 | [],[],[]=>True
 | k::ks,o::os,x::L=>(gO O k=some o∧isR o x)∧hosL O ks os L
 | _,_,_=>False
theorem hosL.len {O:Qu}:∀ {ks:List Nat} {os:List Obj} {L:LO},hosL O ks os L→L.length=ks.length∧os.length=ks.length
 | [],[],[],_=>⟨rfl,rfl⟩
 | k::ks,o::os,x::L,h=>by
  obtain ⟨h1,h2⟩:=hosL.len h.2
  exact ⟨by simp [h1],by simp [h2]⟩
 | [],_::_,_,h=>h.elim
 | [],[],_::_,h=>h.elim
 | _::_,[],_,h=>h.elim
 | _::_,_::_,[],h=>h.elim
theorem hosL.at {O:Qu}:∀ {ks:List Nat} {os:List Obj} {L:LO},hosL O ks os L→∀n k:Nat,ks[n]? =some k→∃(o:Obj) (x:Nat×List (List T)),os[n]? =some o∧L[n]? =some x∧gO O k=some o∧isR o x
 | [],_,_,_,n,k,e=>by simp at e
 | k::ks,o::os,x::L,h,0,k',e=>by
  obtain rfl:k=k':=by simpa using e
  exact ⟨o,x,rfl,rfl,h.1.1,h.1.2⟩
 | k::ks,o::os,x::L,h,n+1,k',e=>by
  obtain ⟨o',x',e1,e2,e3⟩:=hosL.at h.2 n k' (by simpa using e)
  exact ⟨o',x',by simpa using e1,by simpa using e2,e3⟩
 | _::_,[],_,h,_,_,_=>h.elim
 | _::_,_::_,[],h,_,_,_=>h.elim
def PinsTo (pins:List (Nat×T)):Nat→Prop
 | 0=>True
 | n+1=>PinsTo pins n∧∃x∈pins,PinK n x.2
theorem PinsTo.at {pins:List (Nat×T)}:∀ {m:Nat},PinsTo pins m→∀k,k<m→∃x∈pins,PinK k x.2
 | 0,_,k,h=>by omega
 | m+1,h,k,hk=>by
  by_cases e:k=m
  ·subst e;exact h.2
  ·exact PinsTo.at h.1 k (by omega)
section
variable {call : QE} {P : Program} {E : QL} {O : Qu} {d : Option Tmp} {ty : TypeId} {ps : String} {af : Array Edge} {g : Option (Nat × Bool)} {nx : Nat}
theorem OC.callM {f:FuncId} {args:Array Operand} {tys:Array TypeId} {ts0 ts:List T} {ks:List Nat} {r:T} {L L':LO} {os:List Obj} {O':Qu} (hb:ZF P f=true) (ha:VEvs E args.toList ts0) (hkn:ks.Nodup) (hkl:L.length=ks.length) (hol:os.length=ks.length) (hL':L'.length=ks.length) (hos:∀n k:Nat,ks[n]? =some k→∃(o:Obj) (x:Nat×List (List T)),os[n]? =some o∧L[n]? =some x∧gO O k=some o∧isR o x) (hcl0:∀x∈L,∀r∈x.2,∀t∈r,Clean t) (hcl:∀x∈L',∀r∈x.2,∀t∈r,Clean t) (hts:YY (fun n=>ks.getD n 0) ts=ts0) (htl:ZB ks.length ts=true) (hr0:PRes r) (hO':Qgv O ks L' os=O') (hp:LoanM call f L ts r L') :
  OC call P E O nx ⟨d, .call ⟨.value (.func f),args,tys⟩,ty,ps,af,g⟩ r O' nx ks:=⟨Nat.le_refl _,fun q p h0 σ hf own Ea h hs hu hF=>by
 subst hts
 subst hO'
 classical
 obtain ⟨vs,h1,h2⟩:=ha σ hf nx Ea hs.env
 have key:∀n:Nat,∃w:List Nat×List Nat,∀k:Nat,ks[n]? =some k→∃(o:Obj) (x:Nat×List (List T)),os[n]? =some o∧L[n]? =some x∧k<nx∧w.2.Nodup∧(∀a∈w.2,own a=some k)∧ObjR σ hf nx h (.rowsN x.1 x.2 w.1) (σ k) w.2∧∀ {σ':Nat→Option Nat} {hf' h':AH} {nx':Nat} {y:Nat×List (List T)},ObjR σ' hf' nx' h' (.rowsN y.1 y.2 w.1) (σ k) w.2→ObjR σ' hf' nx' h' (QhT o y) (σ k) w.2:=fun n=>by
  cases hk:ks[n]? with
  | none=>exact ⟨([],[]),fun k e=>by cases e⟩
  | some k =>
   obtain ⟨o,x,e1,e2,e3,e4⟩:=hos n k hk
   obtain ⟨hkx,N,n1,n2,n3⟩:=hs.obj k o e3
   obtain ⟨asg,g1,g2⟩:=e4.toN n3
   refine ⟨(asg,N),fun k' e=> ?_⟩
   obtain rfl:=Option.some.inj e
   exact ⟨o,x,e1,e2,hkx,n1,n2,g1,g2⟩
 obtain ⟨W,has⟩:=Classical.skolem.1 key
 have hgk:∀n k:Nat,ks[n]? =some k→ks.getD n 0=k:=fun n k e=>by rw [List.getD_eq_getElem?_getD,e];rfl
 have hl:VL (fun n=>σ (ks.getD n 0)) hf L.length ts vs:=by
  refine ⟨by have:=h2.1;rw [QW,List.length_map] at this;exact this,fun i hi=> ?_⟩
  have h6:=h2.2 i (by rw [QW,List.length_map];exact hi)
  refine V.ren (σ':=fun n=>σ (ks.getD n 0)) (nx':=L.length) (fun _ _=>rfl) h6 ?_ ?_
  ·rw [QW]
   simp [List.getD_eq_getElem?_getD,hi]
  ·rw [ZK,List.all_eq_true] at htl
   rw [hkl]
   refine htl _ ?_
   rw [List.getD_eq_getElem?_getD,List.getElem?_eq_getElem hi]
   exact List.getElem_mem hi
 have h6:=hp (fun n=>(W n).1) h q hf (fun n=>σ (ks.getD n 0)) (fun b=>(own b).bind fun k=>(ix ks k).bind fun n=>if b∈(W n).2 then some n else none) vs hF (fun b o hb=>⟨(hs.fro b o hb).1,by simp only [(hs.fro b o hb).2,Option.bind_none]⟩) (fun b n hb=>by
  obtain ⟨k,e1,e2⟩:=Option.bind_eq_some_iff.1 hb
  obtain ⟨m,e3,e4⟩:=Option.bind_eq_some_iff.1 e2
  split at e4
  ·obtain rfl:=Option.some.inj e4
   exact ⟨(hs.mine b k e1).2.2.1,by rw [hkl];exact (List.getElem?_eq_some_iff.1 (JO e3)).1⟩
  ·cases e4) (fun n x hx=>by
  have hnl:n<ks.length:=by rw [← hkl];exact (List.getElem?_eq_some_iff.1 hx).1
  have hk:=List.getElem?_eq_getElem hnl
  obtain ⟨o,x',e1,e2,e3,e4,e5,e6,e7⟩:=has n _ hk
  obtain rfl:x=x':=by rw [hx] at e2;exact Option.some.inj e2
  refine ⟨(W n).2,e4,fun a ha=>by simp only [e5 a ha,Option.bind_some,Qiy hkn hk,if_pos ha],?_⟩
  show ObjR _ hf _ h _ (σ (ks.getD n 0)) _
  rw [hgk n _ hk]
  exact e6.moveN (hcl0 x (List.mem_of_getElem? hx)) (fun _ _=>rfl)) hl
 unfold CallS at h6
 obtain ⟨v,h',k1,k2,k3,⟨hf2,k4⟩,k5⟩:=h6
 have hfree:∀b,h b≠none→(∀k n,own b=some k→ix ks k=some n→b∉(W n).2)→h' b=h b:=fun b hb hn=>k3 b hb (by
  cases ho:own b with
  | none=>rfl
  | some k =>
   simp only [Option.bind_some]
   cases hx:ix ks k with
   | none=>rfl
   | some n=>simp only [Option.bind_some];rw [if_neg (hn k n ho hx)])
 refine ⟨v,h',σ,own,by simp only [Qx,X.calls hb h1,k1],k2,fun _ _=>rfl,⟨hs.env,fun k' o hk'=> ?_,fun b o hb=> ?_,fun b k' hb=> ?_,hs.base,fun t ht=> ?_⟩, .fz (hr0.R k4 _),fun b hb hnk=>hfree b hb (fun k n e e2=>absurd e (hnk k (List.mem_of_getElem? (JO e2)))),fun b k' e=> .inl e⟩
 ·rw [QfT k' hkn hL' hol] at hk'
  cases hx:ix ks k' with
  | none =>
   rw [hx] at hk'
   obtain ⟨m1,N2,m2,m3,m4⟩:=hs.obj k' o hk'
   exact ⟨m1,N2,m2,m3,m4.mono (fun _ _ e=>e) (Nat.le_refl _) (fun _ _=>rfl) (fun b hb=>hfree b (hs.mine b k' (m3 b hb)).2.2.1 (fun k n e e2=>by rw [m3 b hb] at e;obtain rfl:=Option.some.inj e;rw [hx] at e2;cases e2))⟩
  | some n =>
   rw [hx] at hk'
   have hk:=JO hx
   obtain ⟨o1,x,e1,e2,e3,e4,e5,e6,e7⟩:=has n k' hk
   have hnl:=(List.getElem?_eq_some_iff.1 hk).1
   have e8:=List.getElem?_eq_getElem (show n<L'.length by rw [hL'];exact hnl)
   simp only [e8,e1] at hk'
   obtain rfl:=Option.some.inj hk'
   obtain ⟨N',n1,n2,n3⟩:=k5 n _ e8
   simp only [hgk n _ hk] at n3
   have hNN:N'=(W n).2:=by
    rcases e6.nameN with ⟨q1,q3,q2⟩ | ⟨a,q1,q2⟩
    ·rcases n3.nameN with ⟨_,rfl,_⟩ | ⟨a',q4,_⟩
     ·exact q3.symm
     ·rw [q1] at q4;cases q4
    ·rcases n3.nameN with ⟨q3,_,_⟩ | ⟨a',q3,rfl⟩
     ·rw [q1] at q3;cases q3
     ·rw [q1] at q3;rw [q2,Option.some.inj q3]
   rw [hNN] at n3
   exact ⟨e3,(W n).2,e4,e5,e7 (n3.moveN (hcl _ (List.mem_of_getElem? e8)) (fun _ _=>rfl))⟩
 ·obtain ⟨m1,m2⟩:=hs.fro b o hb
  refine ⟨?_,m2⟩
  rw [hfree b (by rw [m1];simp) (fun k n e _=>by rw [m2] at e;cases e)]
  exact m1
 ·obtain ⟨m1,m2,m3,m4⟩:=hs.mine b k' hb
  refine ⟨m1,m2,?_,m4⟩
  by_cases hbm:∃n,ix ks k'=some n∧b∈(W n).2
  ·obtain ⟨n,hx,hbm⟩:=hbm
   have hk:=JO hx
   have hnl:=(List.getElem?_eq_some_iff.1 hk).1
   have e8:=List.getElem?_eq_getElem (show n<L'.length by rw [hL'];exact hnl)
   obtain ⟨o1,x,e1,e2,e3,e4,e5,e6,e7⟩:=has n k' hk
   obtain ⟨N',n1,n2,n3⟩:=k5 n _ e8
   simp only [hgk n _ hk] at n3
   have hNN:N'=(W n).2:=by
    rcases e6.nameN with ⟨q1,q3,q2⟩ | ⟨a,q1,q2⟩
    ·rcases n3.nameN with ⟨_,rfl,_⟩ | ⟨a',q4,_⟩
     ·exact q3.symm
     ·rw [q1] at q4;cases q4
    ·rcases n3.nameN with ⟨q3,_,_⟩ | ⟨a',q3,rfl⟩
     ·rw [q1] at q3;cases q3
     ·rw [q1] at q3;rw [q2,Option.some.inj q3]
   exact n3.namesN b (by rw [hNN];exact hbm)
  ·rw [hfree b m3 (fun k n e e2 hm=>hbm ⟨n,by rw [hb] at e;rw [Option.some.inj e];exact e2,hm⟩)]
   exact m3
 ·rcases k2 t ht with e | e
  ·exact hs.dom t e
  ·exact .inr (hu t e)⟩
theorem OC.callL {f:FuncId} {args:Array Operand} {tys:Array TypeId} {ts0 ts:List T} (ks:List Nat) {r:T} {L:LO} (L':LO) (os:List Obj) (hb:ZF P f=true) (ha:VEvs E args.toList ts0) (hkn:ks.Nodup) (hL':L'.length=ks.length) (hos:hosL O ks os L) (hcl0:∀x∈L,∀r∈x.2,∀t∈r,Clean t) (hcl:∀x∈L',∀r∈x.2,∀t∈r,Clean t) (hts:YY (fun n=>ks.getD n 0) ts=ts0) (htl:ZB ks.length ts=true) (hr0:PRes r) (hp:LoanM call f L ts r L') :
  OC call P E O nx ⟨d, .call ⟨.value (.func f),args,tys⟩,ty,ps,af,g⟩ r (Qgv O ks L' os) nx ks:=OC.callM hb ha hkn hos.len.1 hos.len.2 hL' hos.at hcl0 hcl hts htl hr0 rfl hp
end
section
variable {α : Type}
def mkL (f:Nat→α→α) (w:α→Nat):Nat→List α→List α
 | _,[]=> []
 | k,x::r=>f k x::mkL f w (k+w x) r
def Zt (w:α→Nat):Nat→List α→Nat
 | k,[]=>k
 | k,x::r=>Zt w (k+w x) r
variable {f : Nat → α → α} {w : α → Nat}
theorem Y9 : ∀(k:Nat) (l:List α),(mkL f w k l).length=l.length
 | k,[]=>rfl
 | k,x::r=>by simp only [mkL,List.length_cons,Y9 (k+w x) r]
theorem QdI : ∀(k:Nat) (l m:List α),Zt w k (l++m)=Zt w (Zt w k l) m
 | k,[],m=>rfl
 | k,x::r,m=>by simp only [List.cons_append,Zt,QdI (k+w x) r m]
theorem Qf2 : ∀(k:Nat) (l m:List α),mkL f w k (l++m)=mkL f w k l++mkL f w (Zt w k l) m
 | k,[],m=>rfl
 | k,x::r,m=>by simp only [List.cons_append,mkL,Zt,Qf2 (k+w x) r m]
theorem Qg6 : ∀(k:Nat) (l:List α),k≤Zt w k l
 | k,[]=>Nat.le_refl _
 | k,x::r=>Nat.le_trans (Nat.le_add_right _ _) (Qg6 (k+w x) r)
theorem Qem {l:List α} {i k:Nat} {x:α} (h:l[i]? =some x):Zt w k (l.take (i+1))=Zt w k (l.take i)+w x:=by
 rw [List.take_add_one,h,Option.toList_some,QdI]
 rfl
theorem QaA (k:Nat) (l:List α) (i:Nat):Zt w k (l.take i)≤Zt w k l:=by
 have h:Zt w k (l.take i++l.drop i)=Zt w (Zt w k (l.take i)) (l.drop i):=QdI _ _ _
 rw [List.take_append_drop] at h
 rw [h]
 exact Qg6 _ _
def J1 (f:Nat→α→α) (w:α→Nat) (k:Nat) (l:List α) (i:Nat):List α:=mkL f w k (l.take i)++l.drop i
theorem Qb1 (k:Nat) (l:List α) (i:Nat):(J1 f w k l i).length=l.length:=by
 unfold J1
 rw [List.length_append,Y9,List.length_take,List.length_drop];omega
theorem Qi4 {k:Nat} {l:List α} {i:Nat} {x:α} (hi:i<l.length) (h:(J1 f w k l i)[i]? =some x):l[i]? =some x:=by
 unfold J1 at h
 rw [List.getElem?_append_right (by rw [Y9,List.length_take];omega),Y9,List.length_take,Nat.min_eq_left (by omega),Nat.sub_self,List.getElem?_drop,Nat.add_zero] at h
 exact h
theorem Qii {k:Nat} {l:List α} {i:Nat} {x y:α} (h:l[i]? =some x) (hy:y=f (Zt w k (l.take i)) x):(J1 f w k l i).set i y=J1 f w k l (i+1):=by
 have hi:=(List.getElem?_eq_some_iff.1 h).1
 subst hy
 unfold J1
 rw [List.set_append_right _ _ (by rw [Y9,List.length_take];omega),Y9,List.length_take,Nat.min_eq_left (by omega),Nat.sub_self,List.drop_eq_getElem_cons hi,List.set_cons_zero,List.take_add_one,h,Option.toList_some,Qf2]
 simp [mkL]
theorem QhC {k:Nat} {l:List α} {i:Nat} (h:¬i<l.length):J1 f w k l i=mkL f w k l:=by
 unfold J1
 rw [List.take_of_length_le (by omega),List.drop_of_length_le (by omega),List.append_nil]
theorem Qg1 : ∀ {k:Nat} {l:List α} {i:Nat} {x:α},l[i]? =some x→(mkL f w k l)[i]? =some (f (Zt w k (l.take i)) x)
 | k,[],i,x,h=>by simp at h
 | k,y::r,0,x,h=>by
  obtain rfl:y=x:=by simpa using h
  rfl
 | k,y::r,i+1,x,h=>by
  have:=Qg1 (k:=k+w y) (l:=r) (i:=i) (by simpa using h)
  simpa [mkL,Zt] using this
theorem Qhw {k:Nat} {l:List α} {i:Nat} {x:α} (hh:l=mkL f w k l) (h:l[i]? =some x):x=f (Zt w k (l.take i)) x:=by
 have h1:=Qg1 (f:=f) (w:=w) (k:=k) h
 rw [← hh,h] at h1
 exact Option.some.inj h1
theorem QeI (hw:∀k x,w (f k x)=w x) (hf:∀k x,f k (f k x)=f k x):∀(k:Nat) (l:List α),mkL f w k l=mkL f w k (mkL f w k l)
 | k,[]=>rfl
 | k,x::r=>by simp only [mkL,hw,hf,← QeI hw hf (k+w x) r]
theorem Qey (hw:∀k x,w (f k x)=w x):∀(k k2:Nat) (l:List α),Zt w k (mkL f w k2 l)=Zt w k l
 | k,k2,[]=>rfl
 | k,k2,x::r=>by simp only [mkL,Zt,hw,Qey hw (k+w x) (k2+w x) r]
theorem QdT (hw:∀x,1≤w x):∀(k:Nat) (l:List α),k+l.length≤Zt w k l
 | k,[]=>Nat.le_refl _
 | k,x::r=>by
  have h1:=QdT hw (k+w x) r
  have h2:=hw x
  simp only [Zt,List.length_cons]
  omega
theorem Qhy {z:α→Nat} {c:Nat} (hw:∀x,w x≤c*(1+z x)):∀(k:Nat) (l:List α),Zt w k l≤k+c*zL z l
 | k,[]=>Nat.le_add_right _ _
 | k,x::r=>by
  have h1:=Qhy hw (k+w x) r
  have h2:=hw x
  have e:zL z (x::r)=(1+z x)+zL z r:=by simp only [zL,Qdz,List.length_cons];omega
  rw [e,Nat.mul_add]
  simp only [Zt]
  omega
end
end Go.Proofs.YthifchndolccgaaDoor.AE
namespace Go.Proofs.YthifchndolccgaaDoor.AE
open Go Go.RowKit
set_option linter.unusedVariables false
set_option linter.unusedSimpArgs false
theorem B.storeW {call:QE} {P:Program} {E:QL} {O:Qu} {nx:Nat} {d:Option Tmp} {ty tt:TypeId} {ps:String} {af:Array Edge} {g:Option (Nat×Bool)} {x y:Operand} {t:T} {k:Nat} {ts us:List T} (hx:VEv E x (.op k 0)) (hy:VEv E y t) (ht:t≠ .any) (hk:gO O k=some (.cells ts)) (hus:QQ t=us) (hl:us.length=ts.length) (hif:(P.info? tt).isSome=true) (hn:P.cellsOf tt=us.length) (hc:∀a∈us,Yv a=true) :
  OC call P E O nx ⟨d, .store tt x y,ty,ps,af,g⟩ .any ((k,some (.cells us))::O) nx [k]:=B.storeO hx hy ht hk hus (by omega) hif hn hc (by simp [spl,hl])
def deN (t t':T):Prop:=t=t'∨(t= .nils∧∃s,t'= .sl true s [])
def Qi8 : List T→List T→Prop
 | [],[]=>True
 | t::r,t'::r'=>deN t t'∧Qi8 r r'
 | _,_=>False
theorem SL.deN {hf h:AH}:∀ {ts ts':List T} {vs:List Value} {N:List Nat},SL hf h ts vs N→Qi8 ts ts'→SL hf h ts' vs N
 | [],[],_,_,hs,_=>hs
 | t::r,t'::r',vs,N,hs,hd=>by
  cases hs with
  | cons h1 h2 =>
   refine .cons ?_ (SL.deN h2 hd.2)
   rcases hd.1 with rfl | ⟨rfl,s,rfl⟩
   ·exact h1
   ·cases h1 with
    | fz hr =>
     cases hr
     exact .ow0 s
 | [],_::_,_,_,_,hd=>hd.elim
 | _::_,[],_,_,_,hd=>hd.elim
theorem OM.deN {call:QE} {P:Program} {E:QL} {nx:Nat} {o:Oper} {t:T} {sz:Nat} {rows rows':List (List T)} (h:OM call P E nx o t (.rows sz rows)) (hl:rows'.length=rows.length) (hs:∀r∈rows',r.length=sz) (hd:Qi8 rows.flatten rows'.flatten):OM call P E nx o t (.rows sz rows'):=fun q σ hf Ea he=>by
 obtain ⟨v,z,oa,N,h1,h2,h3,h4⟩:=h q σ hf Ea he
 refine ⟨v,z,oa,N,h1,h2,h3,fun hh=> ?_⟩
 have h5:=h4 hh
 generalize (fun k=>if k=nx then oa else σ k)=σ' at h5 ⊢
 cases h5 with
 | none sz =>
  obtain rfl:=List.eq_nil_of_length_eq_zero hl
  exact .none sz
 | rows hk hodd hlen hfit hsl=>exact .rows hk hodd hs (by rw [hl];exact hfit) (by rw [hl];exact SL.deN hsl hd)
theorem Wk.phantomC {E:QL} {O:Qu} {nx:Nat} (k j sz:Nat) {us us':List T} (hk:gO O k=some (.cells us)) (hj:us[j]? =some .nils) (hu:us.set j (.os sz nx 0 0)=us'):Wk E O nx E ((k,some (.cells us'))::(nx,some (.rows sz []))::O) (nx+1):=fun p h0 σ hf own Ea h hs0=>by
 have h1:=hs0.take1 (oa:=none) (N:= []) (obj:= .rows sz []) (by simp) (by simp) (fun _ _=> .none sz)
 refine ⟨_,hf,_,h1.env,fun k' o hk'=> ?_,h1.fro,h1.mine,h1.base,h1.dom⟩
 simp only [gO] at hk'
 split at hk'
 ·rename_i e
  subst e
  obtain rfl:=Option.some.inj hk'
  have hlt:=(hs0.obj _ _ hk).1
  have h2:gO ((nx,some (.rows sz []))::O) k'=some (.cells us):=by
   simp only [gO]
   rw [if_neg (by omega)]
   exact hk
  obtain ⟨g1,N,g2,g3,g4⟩:=h1.obj k' _ h2
  refine ⟨g1,N,g2,g3,?_⟩
  have key:∀(σ2:Nat→Option Nat) (oa:Option Nat),σ2 nx=none→ObjR σ2 hf (nx+1) h (.cells us) oa N→ObjR σ2 hf (nx+1) h (.cells us') oa N:=by
   intro σ2 oa hn g
   cases g with
   | cells hk2 hodd hv =>
    subst hu
    refine .cells hk2 hodd ⟨by rw [List.length_set];exact hv.1,fun i hi=> ?_⟩
    rw [List.length_set] at hi
    have h6:=hv.2 i hi
    rw [List.getD_eq_getElem?_getD] at h6 ⊢
    by_cases e:j=i
    ·subst e
     rw [hj] at h6
     rw [List.getElem?_set_self hi]
     have h7:=V.nilsInv h6
     rw [h7]
     exact .os0 sz nx (by omega) hn
    ·rw [List.getElem?_set_ne e]
     exact h6
  exact key _ _ (by simp) g4
 ·refine h1.obj k' o ?_
  simp only [gO]
  exact hk'
end Go.Proofs.YthifchndolccgaaDoor.AE
namespace Go.Proofs.YthifchndolccgaaDoor.AE
open Go Go.RowKit
set_option linter.unusedVariables false
set_option linter.unusedSimpArgs false
section
variable {call : QE} {P : Program} {E : QL} {O : Qu} {nx : Nat} {S : AX → QL → Qu → Nat → Prop} {u v : Code} {c : Tmp}
theorem ct (h:gE E c= .bool true) (hx:VRun call P u E O nx S):VRun call P (.cond (.tmp c) u v) E O nx S:=VRun.cond (VEv.tmp h) (fun _=>hx) (fun e=>absurd e (by decide))
theorem cf (h:gE E c= .bool false) (hx:VRun call P v E O nx S):VRun call P (.cond (.tmp c) u v) E O nx S:=VRun.cond (VEv.tmp h) (fun e=>absurd e (by decide)) (fun _=>hx)
theorem ck {b:Bool} (hb:b=true) (h:gE E c= .bool b) (hx:VRun call P u E O nx S):VRun call P (.cond (.tmp c) u v) E O nx S:=ct (hb▸h) hx
theorem cg {b:Bool} (hb:b=false) (h:gE E c= .bool b) (hx:VRun call P v E O nx S):VRun call P (.cond (.tmp c) u v) E O nx S:=cf (hb▸h) hx
theorem vn : VEvs E [] []:= .nil
theorem ln : LendL O [] []:=LendL.nil
theorem lps : ∀ {ts:List T},ts.all YB=true→LendL O ts ts
 | [],_=>LendL.nil
 | t::r,h=>by
  simp only [List.all_cons,Bool.and_eq_true] at h
  exact LendL.cons (Lend.pl h.1) (lps h.2)
def Qi3 : List Nat→Bool
 | []=>true
 | a::r=> !(r.contains a) && Qi3 r
theorem nd : ∀ {l:List Nat},Qi3 l=true→l.Nodup
 | [],_=>List.nodup_nil
 | a::r,h=>by
  simp only [Qi3,Bool.and_eq_true] at h
  exact List.nodup_cons.2 ⟨by simpa using h.1,nd h.2⟩
end
section
variable {call : QE} {P : Program} {E : QL} {O : Qu} {d : Option Tmp} {ty tt xt : TypeId} {ps : String} {af : Array Edge} {g : Option (Nat × Bool)} {x y : Operand} {kk : IntKind} {a b : Int} {m n : Nat}
theorem xls (hx:VEv E x (.int kk a)) (hy:VEv E y (.int kk b)):OF call P E ⟨d, .binOp .lss tt x y xt,ty,ps,af,g⟩ (.bool (decide (a<b))):=B.lss hx hy rfl
theorem xle (hx:VEv E x (.int kk a)) (hy:VEv E y (.int kk b)):OF call P E ⟨d, .binOp .leq tt x y xt,ty,ps,af,g⟩ (.bool (decide (a≤b))):=B.leq hx hy rfl
theorem xgt (hx:VEv E x (.int kk a)) (hy:VEv E y (.int kk b)):OF call P E ⟨d, .binOp .gtr tt x y xt,ty,ps,af,g⟩ (.bool (decide (b<a))):=B.gtr hx hy rfl
theorem xge (hx:VEv E x (.int kk a)) (hy:VEv E y (.int kk b)):OF call P E ⟨d, .binOp .geq tt x y xt,ty,ps,af,g⟩ (.bool (decide (b≤a))):=B.geq hx hy rfl
theorem xeq (hx:VEv E x (.int kk a)) (hy:VEv E y (.int kk b)):OF call P E ⟨d, .binOp .eql tt x y xt,ty,ps,af,g⟩ (.bool (decide (a=b))):=B.eql hx hy rfl
theorem xne (hx:VEv E x (.int kk a)) (hy:VEv E y (.int kk b)):OF call P E ⟨d, .binOp .neq tt x y xt,ty,ps,af,g⟩ (.bool (!decide (a=b))):=B.neq hx hy rfl
theorem Zx (hx:VEv E x (tN m)) (hy:VEv E y (tN n)):OF call P E ⟨d, .binOp .lss tt x y xt,ty,ps,af,g⟩ (.bool (decide (m<n))):=B.lss hx hy (Zb (by omega))
theorem Qkg (hx:VEv E x (tN m)) (hy:VEv E y (tN n)):OF call P E ⟨d, .binOp .eql tt x y xt,ty,ps,af,g⟩ (.bool (decide (m=n))):=B.eql hx hy (Zb (by omega))
theorem QhS (hx:VEv E x (tN m)) (hy:VEv E y (tN n)):OF call P E ⟨d, .binOp .neq tt x y xt,ty,ps,af,g⟩ (.bool (!decide (m=n))):=B.neq hx hy (congrArg (!·) (Zb (by omega)))
theorem ZL {b1:Bool} (hx:VEv E x (.bool b1)):OF call P E ⟨d, .unOp .not tt x,ty,ps,af,g⟩ (.bool (!b1)):=B.not hx rfl
theorem QF (hx:VEv E x (tN m)) (hy:VEv E y (.int .i64 1)) (h:m+1<9223372036854775808):OF call P E ⟨d, .binOp .add tt x y xt,ty,ps,af,g⟩ (tN (m+1)):=B.add hx hy (by rw [Qz (by omega)];omega)
theorem xix {s:ByteArray} (hx:VEv E x (.str s)) (hy:VEv E y (tN m)) (hi:m<s.size) (hu:P.underlying tt=some .string):OF call P E ⟨d, .index tt x y,ty,ps,af,g⟩ (.int .u8 (QK s m)):=B.index hx hy rfl hi hu (Ya hi)
end
section
variable {call : QE} {P : Program} {ops : Array Oper} {l : List Oper} {E : QL} {O : Qu} {nx : Nat} {K : QL → Qu → Nat → Prop} {d1 a : Nat} {d2 : Option Tmp} {ty1 ty2 tt tt2 : TypeId} {ps1 ps2 : String} {af1 af2 : Array Edge} {j k o off : Nat} {us : List T}
theorem QbX (E:QL) (n:Nat) (t:T):gE ((n,t)::E) n=t:=by simp [gE]
theorem lf (t:T) (h:gE E a= .op k o) (fa:∀k o,Qn P tt (.pointer (some ⟨k,o,none⟩)) j=some (.pointer (some ⟨k,o+off,none⟩))) (hk:gO O k=some (.cells us)) (ht:us[o+off]? =some t) (hst:Qv P tt2=some false) (hK:VRunO call P ops l (pE ((d1, .op k (o+off))::E) d2 t) O nx K) :
  VRunO call P ops (⟨some d1, .fieldAddr tt (.tmp a) j,ty1,ps1,af1,none⟩::⟨d2, .load tt2 (.tmp d1),ty2,ps2,af2,none⟩::l) E O nx K:=fO (OF.fieldAddrO (VEv.tmp h) fa) (lO (OL.loadO1 (VEv.tmp (QbX _ _ _)) hk ht hst) hK)
theorem lr (t:T) (h:gE E a= .rp us) (hn:off≤us.length) (fa:∀k o,Qn P tt (.pointer (some ⟨k,o,none⟩)) j=some (.pointer (some ⟨k,o+off,none⟩))) (ht:(us.drop off)[0]? =some t) (hst:Qv P tt2=some false) (hK:VRunO call P ops l (pE ((d1, .rp (us.drop off))::E) d2 t) O nx K) :
  VRunO call P ops (⟨some d1, .fieldAddr tt (.tmp a) j,ty1,ps1,af1,none⟩::⟨d2, .load tt2 (.tmp d1),ty2,ps2,af2,none⟩::l) E O nx K:=fO (B.fieldAddrR (VEv.tmp h) hn fa rfl) (lO (OL.loadR1 (VEv.tmp (QbX _ _ _)) ht hst) hK)
variable {i q : Nat} {w b : Bool} {t0 : T}
theorem glf (t:T) (hb:b=w) (hd:(ops[i]?).bind (·.dst)=some q) (hq:gE E q= .bool b) (hne:(q == d1)=false) (h:gE E a= .op k o) (fa:∀k o,Qn P tt (.pointer (some ⟨k,o,none⟩)) j=some (.pointer (some ⟨k,o+off,none⟩))) (hk:gO O k=some (.cells us)) (ht:us[o+off]? =some t) (hst:Qv P tt2=some false) (hK:VRunO call P ops l (pE ((d1, .op k (o+off))::E) d2 t) O nx K) :
  VRunO call P ops (⟨some d1, .fieldAddr tt (.tmp a) j,ty1,ps1,af1,some (i,w)⟩::⟨d2, .load tt2 (.tmp d1),ty2,ps2,af2,some (i,w)⟩::l) E O nx K:=gF hb hd hq (OF.fieldAddrO (VEv.tmp h) fa) (gL hb hd ((Qe5 E hne _).trans hq) (OL.loadO1 (VEv.tmp (QbX _ _ _)) hk ht hst) hK)
theorem glr (t:T) (hb:b=w) (hd:(ops[i]?).bind (·.dst)=some q) (hq:gE E q= .bool b) (hne:(q == d1)=false) (h:gE E a= .rp us) (hn:off≤us.length) (fa:∀k o,Qn P tt (.pointer (some ⟨k,o,none⟩)) j=some (.pointer (some ⟨k,o+off,none⟩))) (ht:(us.drop off)[0]? =some t) (hst:Qv P tt2=some false) (hK:VRunO call P ops l (pE ((d1, .rp (us.drop off))::E) d2 t) O nx K) :
  VRunO call P ops (⟨some d1, .fieldAddr tt (.tmp a) j,ty1,ps1,af1,some (i,w)⟩::⟨d2, .load tt2 (.tmp d1),ty2,ps2,af2,some (i,w)⟩::l) E O nx K:=gF hb hd hq (B.fieldAddrR (VEv.tmp h) hn fa rfl) (gL hb hd ((Qe5 E hne _).trans hq) (OL.loadR1 (VEv.tmp (QbX _ _ _)) ht hst) hK)
def QhE (i:Nat) (w:Bool) (q:Nat):List Oper→Bool
 | []=>true
 | o::r=>(match o.guard with | some (a,b)=>Nat.beq a i && (b == w) | none=>false) && (match o.dst with | some d=> !(Nat.beq d q) | none=>true) && QhE i w q r
def QhV (E:QL):List Oper→QL
 | []=>E
 | o::r=>QhV (pE E o.dst (.tup [])) r
theorem QjS (hd:(ops[i]?).bind (·.dst)=some q) (hv:∀(dd:Option Tmp) (op:Op) (ty:TypeId) (ps:String) (af:Array Edge) (E:QL),gE E q=t0→VWant ops E ⟨dd,op,ty,ps,af,some (i,w)⟩ false) {l2:List Oper} (l1:List Oper):∀(E:QL),QhE i w q l1=true→gE E q=t0→VRunO call P ops l2 (QhV E l1) O nx K→VRunO call P ops (l1++l2) E O nx K:=by
 induction l1 with
 | nil=>exact fun E _ _ hK=>hK
 | cons o r ih =>
  intro E hc hq hK
  obtain ⟨dd,op,ty,ps,af,g⟩:=o
  simp only [QhE,Bool.and_eq_true] at hc
  obtain ⟨⟨h1,h2⟩,h3⟩:=hc
  cases g with
  | none=>cases h1
  | some g =>
   obtain ⟨a,b⟩:=g
   simp only [Bool.and_eq_true] at h1
   have e1:a=i:=Nat.eq_of_beq_eq_true h1.1
   have e2:b=w:=by simpa using h1.2
   subst e1
   subst e2
   refine VRunO.off (hv _ _ _ _ _ _ hq) (ih _ h3 ?_ hK)
   cases dd with
   | none=>exact hq
   | some d =>
    refine (Qe5 E (d:=d) (t:=q) ?_ _).trans hq
    rw [beq_eq_false_iff_ne]
    rintro rfl
    simp at h2
theorem QY (m i:Nat) (w:Bool) (q:Nat) (hb:b= !w) (hd:(ops[i]?).bind (·.dst)=some q) (hq:gE E q= .bool b) (hc:QhE i w q (l.take m)=true) (hK:VRunO call P ops (l.drop m) (QhV E (l.take m)) O nx K):VRunO call P ops l E O nx K:=by
 rw [← List.take_append_drop m l]
 exact QjS hd (fun _ _ _ _ _ _ h=>VWant.not hd h hb) _ _ hc hq hK
theorem Qfy (m i:Nat) (w:Bool) (q:Nat) (hd:(ops[i]?).bind (·.dst)=some q) (hq:gE E q= .tup []) (hc:QhE i w q (l.take m)=true) (hK:VRunO call P ops (l.drop m) (QhV E (l.take m)) O nx K):VRunO call P ops l E O nx K:=by
 rw [← List.take_append_drop m l]
 exact QjS hd (fun _ _ _ _ _ _ h=>VWant.undef hd h) _ _ hc hq hK
end
end Go.Proofs.YthifchndolccgaaDoor.AE
namespace Go.Proofs.YthifchndolccgaaDoor.AE
open Go Go.RowKit
set_option linter.unusedVariables false
set_option linter.unusedSimpArgs false
structure D.Grid where
 Rows:Int
 Cols:Int
 Cells:ByteArray
def QiA : AK D.Grid:=AK.iso (AK.pair (AK.int .i64) (AK.pair (AK.int .i64) AK.string)) (fun x=>(x.Rows,x.Cols,x.Cells))
def QgX (x:D.Grid):Prop:=((Lit.int .i64 x.Rows).wf=true)∧((Lit.int .i64 x.Cols).wf=true)∧(x.Cells.size≤maxLen)
structure D.Step where
 Kind:Int
 Word:ByteArray
 A:Int
 B:Int
structure D.Clue where
 Sense:Int
 Play:_root_.List D.Step
structure D.Draft where
 Grid:D.Grid
 Fill:ByteArray
 Clues:_root_.List D.Clue
 Version:Int
structure D.Slot where
 Number:Int
 Down:Bool
 Cell:Int
 Length:Int
theorem Qj7 : Ju Tryd.prog 23 QiA QgX:=QeD (QcK (P:=Tryd.prog) (t:=23) (fun x:D.Grid=>(x.Rows,x.Cols,x.Cells)) (fun x=>⟨x.1,x.2.1,x.2.2⟩) (fun _=>rfl) Tryd.underlying23 (by kernel_rfl) (QaB rfl (by kernel_rfl) (Qcq (k:= .i64) Tryd.underlying3) (QaB rfl (by kernel_rfl) (Qcq (k:= .i64) Tryd.underlying3) (QeL rfl (by kernel_rfl) (QcW Tryd.underlying9))))) (fun _ h=>h)
theorem sz2 : Tryd.prog.cellsOf 2=1:=by kernel_rfl
theorem Zo : Qv Tryd.prog 3=some false:=by kernel_rfl
theorem YK : Tryd.prog.cellsOf 3=1:=by kernel_rfl
theorem if3 : (Tryd.prog.info? 3).isSome=true:=by kernel_rfl
theorem zo3 : QS Tryd.prog 3=some (.int .i64 0):=by kernel_rfl
theorem st4 : Qv Tryd.prog 4=some false:=by kernel_rfl
theorem sz4 : Tryd.prog.cellsOf 4=1:=by kernel_rfl
theorem if4 : (Tryd.prog.info? 4).isSome=true:=by kernel_rfl
theorem zo4 : QS Tryd.prog 4=some (.bool false):=by kernel_rfl
theorem zc4 : closedV (.bool false)=true:=by kernel_rfl
theorem st5 : Qv Tryd.prog 5=some false:=by kernel_rfl
theorem sz5 : Tryd.prog.cellsOf 5=1:=by kernel_rfl
theorem if5 : (Tryd.prog.info? 5).isSome=true:=by kernel_rfl
theorem zo5 : QS Tryd.prog 5=some (.int .u8 0):=by kernel_rfl
theorem ZX : Qv Tryd.prog 9=some false:=by kernel_rfl
theorem sz9 : Tryd.prog.cellsOf 9=1:=by kernel_rfl
theorem if9 : (Tryd.prog.info? 9).isSome=true:=by kernel_rfl
theorem Qh9 : Qv Tryd.prog 23=some true:=by kernel_rfl
theorem Qig : Tryd.prog.cellsOf 23=3:=by kernel_rfl
theorem QO : Qv Tryd.prog 28=some true:=by kernel_rfl
theorem QM : Tryd.prog.cellsOf 28=3:=by kernel_rfl
theorem Qgb : (Tryd.prog.info? 28).isSome=true:=by kernel_rfl
theorem Qf6 : QS Tryd.prog 28=some (.agg #[.int .i64 0, .int .i64 0, .string ByteArray.empty]):=by kernel_rfl
theorem Qir : closedV (.agg #[.int .i64 0, .int .i64 0, .string ByteArray.empty])=true:=by kernel_rfl
theorem QgY : Qv Tryd.prog 41=some false:=by kernel_rfl
theorem QjZ : Tryd.prog.cellsOf 41=1:=by kernel_rfl
theorem Qj1 : (Tryd.prog.info? 41).isSome=true:=by kernel_rfl
theorem Qia : Qv Tryd.prog 43=some true:=by kernel_rfl
theorem YE : Tryd.prog.cellsOf 43=2:=by kernel_rfl
theorem QeX : (Tryd.prog.info? 43).isSome=true:=by kernel_rfl
theorem Qd3 : QS Tryd.prog 43=some (.agg #[.int .i64 0, .slice none 0 0]):=by kernel_rfl
theorem QjB : closedV (.agg #[.int .i64 0, .slice none 0 0])=true:=by kernel_rfl
theorem QgB : Qv Tryd.prog 50=some false:=by kernel_rfl
theorem QiZ : Tryd.prog.cellsOf 50=1:=by kernel_rfl
theorem Qi0 : (Tryd.prog.info? 50).isSome=true:=by kernel_rfl
theorem Qau : Qv Tryd.prog 52=some true:=by kernel_rfl
theorem Yq : Tryd.prog.cellsOf 52=6:=by kernel_rfl
theorem Qdt : (Tryd.prog.info? 52).isSome=true:=by kernel_rfl
theorem Qcc : QS Tryd.prog 52=some (.agg #[.int .i64 0, .int .i64 0, .string ByteArray.empty, .string ByteArray.empty, .slice none 0 0, .int .i64 0]):=by kernel_rfl
theorem Qfh : closedV (.agg #[.int .i64 0, .int .i64 0, .string ByteArray.empty, .string ByteArray.empty, .slice none 0 0, .int .i64 0])=true:=by kernel_rfl
theorem Qjl : Qv Tryd.prog 68=some false:=by kernel_rfl
theorem Qf8 : Tryd.prog.cellsOf 68=1:=by kernel_rfl
theorem Qja : (Tryd.prog.info? 68).isSome=true:=by kernel_rfl
theorem QjP : QS Tryd.prog 68=some (.slice none 0 0):=by kernel_rfl
theorem QjJ : Qv Tryd.prog 93=some true:=by kernel_rfl
theorem Qad : Tryd.prog.cellsOf 93=4:=by kernel_rfl
theorem QcQ : (Tryd.prog.info? 93).isSome=true:=by kernel_rfl
theorem QjF : QS Tryd.prog 93=some (.agg #[.int .i64 0, .string ByteArray.empty, .int .i64 0, .int .i64 0]):=by kernel_rfl
theorem QeH : Qv Tryd.prog 98=some true:=by kernel_rfl
theorem Zr : Tryd.prog.cellsOf 98=4:=by kernel_rfl
theorem Qcs : (Tryd.prog.info? 98).isSome=true:=by kernel_rfl
theorem YD : QS Tryd.prog 98=some (.agg #[.int .i64 0, .bool false, .int .i64 0, .int .i64 0]):=by kernel_rfl
theorem Qjg : closedV (.agg #[.int .i64 0, .bool false, .int .i64 0, .int .i64 0])=true:=by kernel_rfl
theorem Qg4 : Qv Tryd.prog 128=some false:=by kernel_rfl
theorem QjH : Tryd.prog.cellsOf 128=1:=by kernel_rfl
theorem QjI : (Tryd.prog.info? 128).isSome=true:=by kernel_rfl
theorem QjR : QS Tryd.prog 128=some (.slice none 0 0):=by kernel_rfl
theorem QjL : closedV (.slice none 0 0)=true:=by kernel_rfl
theorem Qec : Qv Tryd.prog 132=some false:=by kernel_rfl
theorem QjD : Tryd.prog.cellsOf 132=1:=by kernel_rfl
theorem QjK : (Tryd.prog.info? 132).isSome=true:=by kernel_rfl
theorem QiN (k o:Nat):Qn Tryd.prog 23 (.pointer (some ⟨k,o,none⟩)) 0=some (.pointer (some ⟨k,o+0,none⟩)):=by simp [Qn,Tryd.underlying23,if3,YK]
theorem QiX (k o:Nat):Qn Tryd.prog 23 (.pointer (some ⟨k,o,none⟩)) 1=some (.pointer (some ⟨k,o+1,none⟩)):=by simp [Qn,Tryd.underlying23,if3,YK]
theorem Qhn (k o:Nat):Qn Tryd.prog 23 (.pointer (some ⟨k,o,none⟩)) 2=some (.pointer (some ⟨k,o+2,none⟩)):=by simp [Qn,Tryd.underlying23,if9,sz9]
theorem YU (k o:Nat):Qn Tryd.prog 28 (.pointer (some ⟨k,o,none⟩)) 0=some (.pointer (some ⟨k,o+0,none⟩)):=by simp [Qn,Tryd.underlying28,if3,YK]
theorem QV (k o:Nat):Qn Tryd.prog 28 (.pointer (some ⟨k,o,none⟩)) 1=some (.pointer (some ⟨k,o+1,none⟩)):=by simp [Qn,Tryd.underlying28,if3,YK]
theorem QC (k o:Nat):Qn Tryd.prog 28 (.pointer (some ⟨k,o,none⟩)) 2=some (.pointer (some ⟨k,o+2,none⟩)):=by simp [Qn,Tryd.underlying28,if9,sz9]
theorem Qb6 (k o:Nat):Qn Tryd.prog 43 (.pointer (some ⟨k,o,none⟩)) 0=some (.pointer (some ⟨k,o+0,none⟩)):=by simp [Qn,Tryd.underlying43,if3,YK]
theorem Qb5 (k o:Nat):Qn Tryd.prog 43 (.pointer (some ⟨k,o,none⟩)) 1=some (.pointer (some ⟨k,o+1,none⟩)):=by simp [Qn,Tryd.underlying43,Qj1,QjZ]
theorem QgM (k o:Nat):Qn Tryd.prog 52 (.pointer (some ⟨k,o,none⟩)) 0=some (.pointer (some ⟨k,o+0,none⟩)):=by simp [Qn,Tryd.underlying52,Qgb,QM]
theorem Qhz (k o:Nat):Qn Tryd.prog 52 (.pointer (some ⟨k,o,none⟩)) 1=some (.pointer (some ⟨k,o+3,none⟩)):=by simp [Qn,Tryd.underlying52,if9,sz9]
theorem Jv (k o:Nat):Qn Tryd.prog 52 (.pointer (some ⟨k,o,none⟩)) 2=some (.pointer (some ⟨k,o+4,none⟩)):=by simp [Qn,Tryd.underlying52,Qi0,QiZ]
theorem QhF (k o:Nat):Qn Tryd.prog 52 (.pointer (some ⟨k,o,none⟩)) 3=some (.pointer (some ⟨k,o+5,none⟩)):=by simp [Qn,Tryd.underlying52,if3,YK]
theorem Qdr (k o:Nat):Qn Tryd.prog 93 (.pointer (some ⟨k,o,none⟩)) 0=some (.pointer (some ⟨k,o+0,none⟩)):=by simp [Qn,Tryd.underlying93,if3,YK]
theorem Qdo (k o:Nat):Qn Tryd.prog 93 (.pointer (some ⟨k,o,none⟩)) 1=some (.pointer (some ⟨k,o+1,none⟩)):=by simp [Qn,Tryd.underlying93,if9,sz9]
theorem Qds (k o:Nat):Qn Tryd.prog 93 (.pointer (some ⟨k,o,none⟩)) 2=some (.pointer (some ⟨k,o+2,none⟩)):=by simp [Qn,Tryd.underlying93,if3,YK]
theorem QdP (k o:Nat):Qn Tryd.prog 93 (.pointer (some ⟨k,o,none⟩)) 3=some (.pointer (some ⟨k,o+3,none⟩)):=by simp [Qn,Tryd.underlying93,if3,YK]
theorem QhK (k o:Nat):Qn Tryd.prog 98 (.pointer (some ⟨k,o,none⟩)) 1=some (.pointer (some ⟨k,o+1,none⟩)):=by simp [Qn,Tryd.underlying98,if4,sz4]
theorem Qdy (k o:Nat):Qn Tryd.prog 98 (.pointer (some ⟨k,o,none⟩)) 2=some (.pointer (some ⟨k,o+2,none⟩)):=by simp [Qn,Tryd.underlying98,if3,YK]
theorem Qao (k o:Nat):Qn Tryd.prog 98 (.pointer (some ⟨k,o,none⟩)) 3=some (.pointer (some ⟨k,o+3,none⟩)):=by simp [Qn,Tryd.underlying98,if3,YK]
theorem Qka (a b:D.Grid):∃q,eqv Tryd.prog 20 28 (.agg #[Value.int .i64 a.Rows,Value.int .i64 a.Cols,Value.string a.Cells]) (.agg #[Value.int .i64 b.Rows,Value.int .i64 b.Cols,Value.string b.Cells])=some q∧(q=true↔a=b):=by
 refine ⟨_,Qcz 19 Tryd.underlying28 rfl (by kernel_rfl) (eqf_cons rfl (Q2 Zo rfl) (Q2 Zo rfl) (Qaw 18 Tryd.underlying3) (eqf_cons rfl (Q2 Zo rfl) (Q2 Zo rfl) (Qaw 18 Tryd.underlying3) (eqf_cons rfl (Q2 ZX rfl) (Q2 ZX rfl) (Qh5 18 Tryd.underlying9) QfW))),?_⟩
 obtain ⟨a0,a1,a2⟩:=a
 obtain ⟨b0,b1,b2⟩:=b
 simp
theorem QjO (a b:D.Grid) (xo yo:Operand):∃q,Zn Tryd.prog .eql 28 xo yo (.agg #[Value.int .i64 a.Rows,Value.int .i64 a.Cols,Value.string a.Cells]) (.agg #[Value.int .i64 b.Rows,Value.int .i64 b.Cols,Value.string b.Cells])=some (.bool q)∧(q=true↔a=b):=by
 obtain ⟨q,h1,h2⟩:=Qka a b
 exact ⟨q,Qhx (by simp [closedV,closed1]) (by simp [closedV,closed1]) (by kernel_rfl) h1,h2⟩
theorem Qj4 (a b:D.Slot):∃q,eqv Tryd.prog 20 98 (.agg #[Value.int .i64 a.Number,Value.bool a.Down,Value.int .i64 a.Cell,Value.int .i64 a.Length]) (.agg #[Value.int .i64 b.Number,Value.bool b.Down,Value.int .i64 b.Cell,Value.int .i64 b.Length])=some q∧(q=true↔a=b):=by
 refine ⟨_,Qcz 19 Tryd.underlying98 rfl (by kernel_rfl) (eqf_cons rfl (Q2 Zo rfl) (Q2 Zo rfl) (Qaw 18 Tryd.underlying3) (eqf_cons rfl (Q2 st4 rfl) (Q2 st4 rfl) (Qhm 18 Tryd.underlying4) (eqf_cons rfl (Q2 Zo rfl) (Q2 Zo rfl) (Qaw 18 Tryd.underlying3) (eqf_cons rfl (Q2 Zo rfl) (Q2 Zo rfl) (Qaw 18 Tryd.underlying3) QfW)))),?_⟩
 obtain ⟨a0,a1,a2,a3⟩:=a
 obtain ⟨b0,b1,b2,b3⟩:=b
 simp
theorem QjE (a b:D.Slot) (xo yo:Operand):∃q,Zn Tryd.prog .neq 98 xo yo (.agg #[Value.int .i64 a.Number,Value.bool a.Down,Value.int .i64 a.Cell,Value.int .i64 a.Length]) (.agg #[Value.int .i64 b.Number,Value.bool b.Down,Value.int .i64 b.Cell,Value.int .i64 b.Length])=some (.bool (!q))∧(q=true↔a=b):=by
 obtain ⟨q,h1,h2⟩:=Qj4 a b
 exact ⟨q,QgN (by simp [closedV,closed1]) (by simp [closedV,closed1]) (by kernel_rfl) h1,h2⟩
theorem follows : Tryd.prog.follows .mixedOrders=true:=by kernel_rfl
theorem Qgh : Plain Tryd.prog:=by
 unfold Plain
 kernel_rfl
end Go.Proofs.YthifchndolccgaaDoor.AE
namespace Go.Proofs.YthifchndolccgaaDoor.AE
open Go Go.RowKit
set_option linter.unusedVariables false
set_option linter.unusedSimpArgs false
noncomputable instance : DecidableEq D.Grid:=Classical.typeDecidableEq _
def Qa (m:Bool) (x:D.Grid):List T:= [.int .i64 x.Rows, .int .i64 x.Cols, .str x.Cells]
theorem Qq : EncOk Qa 3:=⟨fun _ _=>rfl,fun x=>Qr (.int _ _) (Qr (.int _ _) (Qr (.str _) (Zl))),fun m x=>by simp only [Qa,fzL,AE.fz],fun m x=>Qr rfl (Qr rfl (Qr rfl (Zl))),fun x=>Qr rfl (Qr rfl (Qr rfl (Zl)))⟩
def Ym (x:D.Grid):Nat:=ByteArray.size x.Cells
theorem Qjp : RK QiA Qa:=QjT (QgK Qiu (QgK Qiu QjG)) (fun _=>rfl)
theorem QhB (m:Bool) (x:D.Grid):SvL (Qa m x) [Value.int .i64 x.Rows,Value.int .i64 x.Cols,Value.string x.Cells]:= .cons (.int _ _) (.cons (.int _ _) (.cons (.str _) (.nil)))
noncomputable instance : DecidableEq D.Step:=Classical.typeDecidableEq _
def Qp (m:Bool) (x:D.Step):List T:= [.int .i64 x.Kind, .str x.Word, .int .i64 x.A, .int .i64 x.B]
theorem okeStep : EncOk Qp 4:=⟨fun _ _=>rfl,fun x=>Qr (.int _ _) (Qr (.str _) (Qr (.int _ _) (Qr (.int _ _) (Zl)))),fun m x=>by simp only [Qp,fzL,AE.fz],fun m x=>Qr rfl (Qr rfl (Qr rfl (Qr rfl (Zl)))),fun x=>Qr rfl (Qr rfl (Qr rfl (Qr rfl (Zl))))⟩
def QeA (x:D.Step):Nat:=ByteArray.size x.Word
theorem QdQ : QgR Qp:=fun _ _=>rfl
noncomputable instance : DecidableEq D.Clue:=Classical.typeDecidableEq _
def Qd (m:Bool) (x:D.Clue):List T:= [.int .i64 x.Sense, .sl m 4 (x.Play.map (Qp m))]
theorem okeClue : EncOk Qd 2:=⟨fun _ _=>rfl,fun x=>Qr (.int _ _) (Qr (.sl _ _ (okeStep.cleanMap _)) (Zl)),fun m x=>by simp only [Qd,fzL,AE.fz,okeStep.fzMap],fun m x=>Qr rfl (Qr rfl (Zl)),fun x=>Qr rfl (Qr rfl (Zl))⟩
def ZU (x:D.Clue):Nat:=(zL QeA) x.Play
noncomputable instance : DecidableEq D.Draft:=Classical.typeDecidableEq _
def Q9 (m:Bool) (x:D.Draft):List T:= [.int .i64 x.Grid.Rows, .int .i64 x.Grid.Cols, .str x.Grid.Cells, .str x.Fill, .sl m 2 (x.Clues.map (Qd m)), .int .i64 x.Version]
def YX (x:D.Draft):Nat:=Ym x.Grid+ByteArray.size x.Fill+(zL ZU) x.Clues
noncomputable instance : DecidableEq D.Slot:=Classical.typeDecidableEq _
def Qg (m:Bool) (x:D.Slot):List T:= [.int .i64 x.Number, .bool x.Down, .int .i64 x.Cell, .int .i64 x.Length]
theorem okeSlot : EncOk Qg 4:=⟨fun _ _=>rfl,fun x=>Qr (.int _ _) (Qr (.bool _) (Qr (.int _ _) (Qr (.int _ _) (Zl)))),fun m x=>by simp only [Qg,fzL,AE.fz],fun m x=>Qr rfl (Qr rfl (Qr rfl (Qr rfl (Zl)))),fun x=>Qr rfl (Qr rfl (Qr rfl (Qr rfl (Zl))))⟩
theorem QhD (m:Bool) (x:D.Slot):SvL (Qg m x) [Value.int .i64 x.Number,Value.bool x.Down,Value.int .i64 x.Cell,Value.int .i64 x.Length]:= .cons (.int _ _) (.cons (.bool _) (.cons (.int _ _) (.cons (.int _ _) (.nil))))
theorem B.eql28 {call:QE} {E:QL} {d:Option Tmp} {ty xt:TypeId} {ps:String} {af:Array Edge} {g:Option (Nat×Bool)} {x y:Operand} {a b:D.Grid} {m m':Bool} (hx:VEv E x (.agg (Qa m a))) (hy:VEv E y (.agg (Qa m' b))):OF call Tryd.prog E ⟨d, .binOp .eql 28 x y xt,ty,ps,af,g⟩ (.bool (decide (a=b))):=by
 obtain ⟨q,h1,h2⟩:=QjO a b x y
 have h3:q=decide (a=b):=by
  by_cases h:a=b
  ·rw [h2.2 h,decide_eq_true h]
  ·rw [decide_eq_false h]
   cases q
   ·rfl
   ·exact absurd (h2.1 rfl) h
 exact h3▸OF.binA hx hy (QhB _ a) (QhB _ b) h1 (.bool _)
theorem B.neq98 {call:QE} {E:QL} {d:Option Tmp} {ty xt:TypeId} {ps:String} {af:Array Edge} {g:Option (Nat×Bool)} {x y:Operand} {a b:D.Slot} {m m':Bool} (hx:VEv E x (.agg (Qg m a))) (hy:VEv E y (.agg (Qg m' b))):OF call Tryd.prog E ⟨d, .binOp .neq 98 x y xt,ty,ps,af,g⟩ (.bool (!decide (a=b))):=by
 obtain ⟨q,h1,h2⟩:=QjE a b x y
 have h3:q=decide (a=b):=by
  by_cases h:a=b
  ·rw [h2.2 h,decide_eq_true h]
  ·rw [decide_eq_false h]
   cases q
   ·rfl
   ·exact absurd (h2.1 rfl) h
 exact h3▸OF.binA hx hy (QhD _ a) (QhD _ b) h1 (.bool _)
theorem U3 : Tryd.prog.underlying 3=some (.int .i64):=Tryd.underlying3
theorem U4 : Tryd.prog.underlying 4=some .bool:=Tryd.underlying4
theorem U5 : Tryd.prog.underlying 5=some (.int .u8):=Tryd.underlying5
theorem U9 : Tryd.prog.underlying 9=some .string:=Tryd.underlying9
theorem U41 : Tryd.prog.underlying 41=some (.slice 93):=Tryd.underlying41
theorem U50 : Tryd.prog.underlying 50=some (.slice 43):=Tryd.underlying50
theorem JY : Tryd.prog.underlying 68=some (.slice 3):=Tryd.underlying68
theorem Jl : Tryd.prog.underlying 79=some (.slice 98):=Tryd.underlying79
theorem U88 : Tryd.prog.underlying 88=some (.slice 5):=Tryd.underlying88
theorem QdJ : Tryd.prog.underlying 110=some (.slice 68):=Tryd.underlying110
theorem QjA : Tryd.prog.underlying 112=some (.map 3 3):=Tryd.underlying112
theorem Z4 : Tryd.prog.underlying 128=some (.slice 4):=Tryd.underlying128
end Go.Proofs.YthifchndolccgaaDoor.AE
namespace Go.Proofs.YthifchndolccgaaDoor.AE
open Go Go.RowKit
set_option linter.unusedVariables false
set_option linter.unusedSimpArgs false
set_option maxRecDepth 20000
set_option maxHeartbeats 2000000
theorem QcS (n:Nat) (a:D.Grid) (left:Int) (h0:0≤left) (h1:left≤(mx:Int)) (hg:QgX a):Pure (Qw Tryd.prog (n+1)) 6 [(T.agg (Qa false a)),(tI left)] (tI (szR (Ym a) left)):=by
 refine Pure.intro (rs:= [ResultVar.tmp 4]) Tryd.func6 rfl rfl rfl (E0:= [(0,(T.agg (Qa false a))),(1,(tI left))]) rfl ?_
 obtain ⟨hlim,hmx,hmax⟩:=QR
 obtain ⟨hg0,hg1,hg2⟩:=hg
 refine sr (kO (B.box (ts:=(Qa false a)) (tv (T.agg (Qa false a)) rfl) nofun rfl) (fO (OF.assign (VEv.int .i64 0)) (nt (sr (mO (tI left) rfl (lf (tS a.Cells) rfl Qhn rfl rfl ZX (lO (B.lenS (tv (tS a.Cells) rfl) U9) (fO (B.sub (n:=(left - ((a.Cells.size:Nat):Int))) (tv (tI left) rfl) (tv (tN a.Cells.size) rfl) (by (rw [Qz (by omega)];done))) (aO (tI (left - ((a.Cells.size:Nat):Int))) rfl (nt (sq ?_)))))))))))
 refine sr (mO (tI (left - ((a.Cells.size:Nat):Int))) rfl (fO (xls (tv (tI (left - ((a.Cells.size:Nat):Int))) rfl) (VEv.int .i64 0)) (nt ?_)))
 refine cd ((left - ((a.Cells.size:Nat):Int))<0) rfl (fun fhc0=> ?_) fun fhc0=> ?_
 ·refine sr ?_
  refine fO (OF.assign (VEv.int .i64 (-1))) (nt (rt (tr (vi (n':=(-1)) rfl ?_))))
  exact Qie (by simp only [Ym];omega)
 refine sk (tn (sr (mO (tI (left - ((a.Cells.size:Nat):Int))) rfl (aO (tI (left - ((a.Cells.size:Nat):Int))) rfl (nt (rt (vi (n':=(left - ((a.Cells.size:Nat):Int))) rfl ?_)))))))
 rw [← QiQ (z:=Ym a) (l:=left) (by simp only [Ym];omega)]
 all_goals rfl
end Go.Proofs.YthifchndolccgaaDoor.AE
namespace Go.Proofs.YthifchndolccgaaDoor.AE
open Go Go.RowKit
set_option linter.unusedVariables false
set_option linter.unusedSimpArgs false
set_option maxRecDepth 20000
set_option maxHeartbeats 2000000
theorem YR (n:Nat) (a:D.Grid):Pure (Qw Tryd.prog (n+1)) 9 [(T.agg (Qa false a))] (T.agg (Qa true a)):=by
 refine Pure.intro (rs:= [ResultVar.cell 2 28]) Tryd.func9 rfl rfl rfl (E0:= [(0,(T.agg (Qa false a)))]) rfl ?_
 obtain ⟨hlim,hmx,hmax⟩:=QR
 refine sr (kO (B.box (ts:=(Qa false a)) (tv (T.agg (Qa false a)) rfl) nofun rfl) (kO (B.alloc (t:=(T.agg [(tN 0),(tN 0),(tS ByteArray.empty)])) (ts:= [(tN 0),(tN 0),(tS ByteArray.empty)]) Qf6 Qir nofun (fun _=> .agg _ _ rfl (Y5 (RL.cons (.int _ _) (RL.cons (.int _ _) (RL.cons (.str _) (RL.nil _)))))) rfl) (nt (sr (kO (B.alloc (t:=(T.agg [(tN 0),(tN 0),(tS ByteArray.empty)])) (ts:= [(tN 0),(tN 0),(tS ByteArray.empty)]) Qf6 Qir nofun (fun _=> .agg _ _ rfl (Y5 (RL.cons (.int _ _) (RL.cons (.int _ _) (RL.cons (.str _) (RL.nil _)))))) rfl) (nt (sr (lf (tI a.Rows) rfl QiN rfl rfl Zo (fO (OF.fieldAddrO (tv (T.op 2 0) rfl) YU) (cO (B.storeO (us:= [(tI a.Rows)]) (ws:= [(tI a.Rows),(tN 0),(tS ByteArray.empty)]) (tv (T.op 2 0) rfl) (tv (tI a.Rows) rfl) nofun rfl rfl (lb rfl) if3 YK (bc rfl bn) rfl) (nt ?_)))))))))))
 refine sr (lf (tI a.Cols) rfl QiX rfl rfl Zo (fO (OF.fieldAddrO (tv (T.op 2 0) rfl) QV) (cO (B.storeO (us:= [(tI a.Cols)]) (ws:= [(tI a.Rows),(tI a.Cols),(tS ByteArray.empty)]) (tv (T.op 2 1) rfl) (tv (tI a.Cols) rfl) nofun rfl rfl (lb rfl) if3 YK (bc rfl bn) rfl) (nt (sr (lf (tS a.Cells) rfl Qhn rfl rfl ZX (fO (OF.fieldAddrO (tv (T.op 2 0) rfl) QC) (cO (B.storeO (us:= [(tS a.Cells)]) (ws:= [(tI a.Rows),(tI a.Cols),(tS a.Cells)]) (tv (T.op 2 2) rfl) (tv (tS a.Cells) rfl) nofun rfl rfl (lb rfl) if9 sz9 (bc rfl bn) rfl) (nt (sr (lO (OL.loadOn (us:=(Qa false a)) (tv (T.op 2 0) rfl) rfl QO QM (lb rfl) rfl) ?_)))))))))))
 refine cO (B.storeW (us:=(Qa false a)) (tv (T.op 1 0) rfl) (tv (T.agg (Qa false a)) rfl) nofun rfl rfl rfl Qgb QM (bc rfl (bc rfl (bc rfl bn)))) (nt (rt ?_))
 refine vfin.eq (r':=(T.agg (Qa false a))) ?_ (vfin.r (VRes.celln (ws:=(Qa false a)) rfl rfl QO QM (lb rfl) rfl VRes.nil) (Give.agg (GiveL.cons (Give.int _ _) (GiveL.cons (Give.int _ _) (GiveL.cons (Give.str _) GiveL.nil (by decide)) (by decide)) (by decide))))
 rfl
end Go.Proofs.YthifchndolccgaaDoor.AE
namespace Go.Proofs.YthifchndolccgaaDoor.AE
open Go Go.RowKit
set_option linter.unusedVariables false
set_option linter.unusedSimpArgs false
set_option maxRecDepth 20000
set_option maxHeartbeats 2000000
theorem QcX (n:Nat) (a:D.Grid) (b:D.Grid):Pure (Qw Tryd.prog (n+1)) 54 [(T.agg (Qa false a)),(T.agg (Qa false b))] (tB (decide (a=b))):=by
 refine Pure.intro (rs:= [ResultVar.tmp 4]) Tryd.func54 rfl rfl rfl (E0:= [(0,(T.agg (Qa false a))),(1,(T.agg (Qa false b)))]) rfl ?_
 obtain ⟨hlim,hmx,hmax⟩:=QR
 refine sr (kO (B.box (ts:=(Qa false a)) (tv (T.agg (Qa false a)) rfl) nofun rfl) (kO (B.box (ts:=(Qa false b)) (tv (T.agg (Qa false b)) rfl) nofun rfl) (fO (OF.assign (VEv.bool false)) (nt (sq (sr (lf (tI a.Rows) rfl YU rfl rfl Zo (lf (tI b.Rows) rfl YU rfl rfl Zo (fO (xne (tv (tI a.Rows) rfl) (tv (tI b.Rows) rfl)) (nt ?_))))))))))
 refine cn (a.Rows=b.Rows) rfl (fun fhc0=> ?_) fun fhc0=> ?_
 ·refine sr ?_
  refine fO (OF.assign (VEv.bool false)) (nt (rt (tr (vb (b':=false) rfl ?_))))
  obtain ⟨a0,a1,a2⟩:=a
  obtain ⟨b0,b1,b2⟩:=b
  simp_all
 refine sk (tn (sq (sr (lf (tI a.Cols) rfl QV rfl rfl Zo (lf (tI b.Cols) rfl QV rfl rfl Zo (fO (xne (tv (tI a.Cols) rfl) (tv (tI b.Cols) rfl)) (nt ?_)))))))
 refine cn (a.Cols=b.Cols) rfl (fun fhc1=> ?_) fun fhc1=> ?_
 ·refine sr ?_
  refine fO (OF.assign (VEv.bool false)) (nt (rt (tr (vb (b':=false) rfl ?_))))
  obtain ⟨a0,a1,a2⟩:=a
  obtain ⟨b0,b1,b2⟩:=b
  simp_all
 refine sk (tn (sq (sr (lf (tS a.Cells) rfl QC rfl rfl ZX (lf (tS b.Cells) rfl QC rfl rfl ZX (fO (B.sneq (c:=(!(decide (a.Cells=b.Cells)))) (tv (tS a.Cells) rfl) (tv (tS b.Cells) rfl) rfl) (nt ?_)))))))
 refine cn (a.Cells=b.Cells) rfl (fun fhc2=> ?_) fun fhc2=> ?_
 ·refine sr ?_
  refine fO (OF.assign (VEv.bool false)) (nt (rt (tr (vb (b':=false) rfl ?_))))
  obtain ⟨a0,a1,a2⟩:=a
  obtain ⟨b0,b1,b2⟩:=b
  simp_all
 refine sk (tn (sr (fO (OF.assign (VEv.bool true)) (nt (rt (vb (b':=true) rfl ?_))))))
 obtain ⟨a0,a1,a2⟩:=a
 obtain ⟨b0,b1,b2⟩:=b
 simp_all
theorem QcO (n:Nat) (a:D.Step) (b:D.Step):Pure (Qw Tryd.prog (n+1)) 69 [(T.agg (Qp false a)),(T.agg (Qp false b))] (tB (decide (a=b))):=by
 refine Pure.intro (rs:= [ResultVar.tmp 4]) Tryd.func69 rfl rfl rfl (E0:= [(0,(T.agg (Qp false a))),(1,(T.agg (Qp false b)))]) rfl ?_
 obtain ⟨hlim,hmx,hmax⟩:=QR
 refine sr (kO (B.box (ts:=(Qp false a)) (tv (T.agg (Qp false a)) rfl) nofun rfl) (kO (B.box (ts:=(Qp false b)) (tv (T.agg (Qp false b)) rfl) nofun rfl) (fO (OF.assign (VEv.bool false)) (nt (sq (sr (lf (tI a.Kind) rfl Qdr rfl rfl Zo (lf (tI b.Kind) rfl Qdr rfl rfl Zo (fO (xne (tv (tI a.Kind) rfl) (tv (tI b.Kind) rfl)) (nt ?_))))))))))
 refine cn (a.Kind=b.Kind) rfl (fun fhc0=> ?_) fun fhc0=> ?_
 ·refine sr ?_
  refine fO (OF.assign (VEv.bool false)) (nt (rt (tr (vb (b':=false) rfl ?_))))
  obtain ⟨a0,a1,a2,a3⟩:=a
  obtain ⟨b0,b1,b2,b3⟩:=b
  simp_all
 refine sk (tn (sq (sr (lf (tS a.Word) rfl Qdo rfl rfl ZX (lf (tS b.Word) rfl Qdo rfl rfl ZX (fO (B.sneq (c:=(!(decide (a.Word=b.Word)))) (tv (tS a.Word) rfl) (tv (tS b.Word) rfl) rfl) (nt ?_)))))))
 refine cn (a.Word=b.Word) rfl (fun fhc1=> ?_) fun fhc1=> ?_
 ·refine sr ?_
  refine fO (OF.assign (VEv.bool false)) (nt (rt (tr (vb (b':=false) rfl ?_))))
  obtain ⟨a0,a1,a2,a3⟩:=a
  obtain ⟨b0,b1,b2,b3⟩:=b
  simp_all
 refine sk (tn (sq (sr (lf (tI a.A) rfl Qds rfl rfl Zo (lf (tI b.A) rfl Qds rfl rfl Zo (fO (xne (tv (tI a.A) rfl) (tv (tI b.A) rfl)) (nt ?_)))))))
 refine cn (a.A=b.A) rfl (fun fhc2=> ?_) fun fhc2=> ?_
 ·refine sr ?_
  refine fO (OF.assign (VEv.bool false)) (nt (rt (tr (vb (b':=false) rfl ?_))))
  obtain ⟨a0,a1,a2,a3⟩:=a
  obtain ⟨b0,b1,b2,b3⟩:=b
  simp_all
 refine sk (tn (sq (sr (lf (tI a.B) rfl QdP rfl rfl Zo (lf (tI b.B) rfl QdP rfl rfl Zo (fO (xne (tv (tI a.B) rfl) (tv (tI b.B) rfl)) (nt ?_)))))))
 refine cn (a.B=b.B) rfl (fun fhc3=> ?_) fun fhc3=> ?_
 ·refine sr ?_
  refine fO (OF.assign (VEv.bool false)) (nt (rt (tr (vb (b':=false) rfl ?_))))
  obtain ⟨a0,a1,a2,a3⟩:=a
  obtain ⟨b0,b1,b2,b3⟩:=b
  simp_all
 refine sk (tn (sr (fO (OF.assign (VEv.bool true)) (nt (rt (vb (b':=true) rfl ?_))))))
 obtain ⟨a0,a1,a2,a3⟩:=a
 obtain ⟨b0,b1,b2,b3⟩:=b
 simp_all
theorem Qcg (n:Nat) (a:List D.Step) (b:List D.Step) (hla:a.length≤mx) (hlb:b.length≤mx):Pure (Qw Tryd.prog (n+2)) 46 [(rd 4 Qp a),(rd 4 Qp b)] (tB (decide (a=b))):=by
 refine Pure.intro (rs:= [ResultVar.tmp 4]) Tryd.func46 rfl rfl rfl (E0:= [(0,(rd 4 Qp a)),(1,(rd 4 Qp b))]) rfl ?_
 obtain ⟨hlim,hmx,hmax⟩:=QR
 refine sr (fO (OF.assign (VEv.bool false)) (nt (sq (sr (mO (rd 4 Qp a) rfl (lO (B.lenR (m:=a.length) (tv (rd 4 Qp a) rfl) U41 (List.length_map ..)) (mO (rd 4 Qp b) rfl (lO (B.lenR (m:=b.length) (tv (rd 4 Qp b) rfl) U41 (List.length_map ..)) (fO (QhS (tv (tN a.length) rfl) (tv (tN b.length) rfl)) (nt ?_))))))))))
 refine cn (a.length=b.length) rfl (fun fhc0=> ?_) fun fhc0=> ?_
 ·refine sr ?_
  refine fO (OF.assign (VEv.bool false)) (nt (rt (tr (vb (b':=false) rfl ?_))))
  symm;rw [decide_eq_false_iff_not];rintro rfl;exact fhc0 rfl
 refine sk (tn (sq (sr (fO (OF.assign (VEv.int .i64 0)) (nt (VRun.block ?_))))))
 refine VRun.loop (A:=Nat) (fun s_=> [(0,(rd 4 Qp a)),(1,(rd 4 Qp b)),(5,(tN s_))]) (fun s_=>Q4 []) 0 (fun s_=>s_≤a.length∧∀j,j<s_→a[j]? =b[j]?) (fun s_=>a.length - s_) (0:Nat) ?_ (Wk.mk (fun k=>k) ?_ ?_ ?_) ?_
 ·(simp;done)
 ·exact (b2 (b2 (b2 bn)))
 ·exact bn
 ·exact nd rfl
 rintro i (hI':i≤a.length∧∀j,j<i→a[j]? =b[j]?)
 show VRun _ _ _ [(0,(rd 4 Qp a)),(1,(rd 4 Qp b)),(5,(tN i))] (Q4 []) 0 _
 refine sq (sr (mO (tN i) rfl (mO (rd 4 Qp a) rfl (lO (B.lenR (m:=a.length) (tv (rd 4 Qp a) rfl) U41 (List.length_map ..)) (fO (Zx (tv (tN i) rfl) (tv (tN a.length) rfl)) (nt ?_))))))
 refine cd (i<a.length) rfl (fun fhc1=> ?_) fun fhc1=> ?_
 ·refine sk ?_
  refine tn (sq (VRun.block (sq (VRun.draw (B:= [[],[],[1,0],[0,1,2],[],[],[5,4],[4,5,6],[6,5,4,7,2,1,0,3],[3,0,1,2,7,4,5,6,8]]) (by kernel_rfl) (by kernel_rfl) (mD (rd 4 Qp a) rfl rfl (mD (tN i) rfl rfl ?_))))))
  obtain ⟨x1,hx1⟩:∃x,a[i]? =some x:=⟨_,List.getElem?_eq_getElem (by omega)⟩
  refine fD (OF.indexAddrR (row:=(Qp false x1)) (i:=i) (tv (rd 4 Qp a) rfl) (tv (tN i) rfl) rfl (QA _ hx1) U41 Qad QcQ) rfl rfl (lD (OL.loadRn (us:=(Qp false x1)) (tv (T.rp (Qp false x1)) rfl) QjJ Qad (lb rfl) rfl) rfl rfl (mD (rd 4 Qp b) rfl rfl (mD (tN i) rfl rfl ?_)))
  obtain ⟨x2,hx2⟩:∃x,b[i]? =some x:=⟨_,List.getElem?_eq_getElem (by omega)⟩
  refine fD (OF.indexAddrR (row:=(Qp false x2)) (i:=i) (tv (rd 4 Qp b) rfl) (tv (tN i) rfl) rfl (QA _ hx2) U41 Qad QcQ) rfl rfl (lD (OL.loadRn (us:=(Qp false x2)) (tv (T.rp (Qp false x2)) rfl) QjJ Qad (lb rfl) rfl) rfl rfl (VRunD.quiet (bi:= [6,5,4,7,2,1,0,3]) rfl VWant.always rfl rfl rfl bn (cS (vc (tv (T.agg (Qp false x1)) rfl) (vc (tv (T.agg (Qp false x2)) rfl) vn)) (LendL.cons (lg okeStep) (LendL.cons (lg okeStep) ln)) (QcO (n+0) x1 x2) rfl rfl) (fD (ZL (tv (tB (decide (x1=x2))) rfl)) rfl rfl (VRunD.nil (tn ?_)))))
  refine cn (x1=x2) rfl (fun fhc2=> ?_) fun fhc2=> ?_
  ·refine sr ?_
   refine fO (OF.assign (VEv.bool false)) (nt (rt (vinB.r (tr (tr (vinB.r (tr (vb (b':=false) rfl ?_))))))))
   symm;rw [decide_eq_false_iff_not];exact Qdc hx1 hx2 fhc2
  refine sk (vinB.n (tn (VRun.region (mO (tN i) rfl (fO (QF (tv (tN i) rfl) (VEv.int .i64 1) (by omega)) (aO (tN (i+1)) rfl (VRunO.nil (tn ?_))))))))
  refine ⟨(i+1:Nat),?_,?_,Wk.mk (fun k=>k) ?_ ?_ ?_⟩
  ·exact Qcb hI' hx1 hx2 fhc2
  ·omega
  ·exact (b2 (b2 (b2 bn)))
  ·exact bn
  ·exact nd rfl
 refine VRun.exit (vthn.e (vthn.e (vinB.e (tn (sr (fO (OF.assign (VEv.bool true)) (nt (rt (vb (b':=true) rfl ?_)))))))))
 symm;rw [decide_eq_true_eq];exact Qc8 hI' fhc0 fhc1
theorem QcM (n:Nat) (a:D.Clue) (b:D.Clue) (ha:ZU a≤mx) (hb:ZU b≤mx):Pure (Qw Tryd.prog (n+3)) 20 [(T.agg (Qd false a)),(T.agg (Qd false b))] (tB (decide (a=b))):=by
 refine Pure.intro (rs:= [ResultVar.tmp 4]) Tryd.func20 rfl rfl rfl (E0:= [(0,(T.agg (Qd false a))),(1,(T.agg (Qd false b)))]) rfl ?_
 obtain ⟨hlim,hmx,hmax⟩:=QR
 simp only [ZU] at ha hb
 have hla_Play:=Jh (z:=QeA) a.Play
 have hlb_Play:=Jh (z:=QeA) b.Play
 refine sr (kO (B.box (ts:=(Qd false a)) (tv (T.agg (Qd false a)) rfl) nofun rfl) (kO (B.box (ts:=(Qd false b)) (tv (T.agg (Qd false b)) rfl) nofun rfl) (fO (OF.assign (VEv.bool false)) (nt (sq (sr (lf (tI a.Sense) rfl Qb6 rfl rfl Zo (lf (tI b.Sense) rfl Qb6 rfl rfl Zo (fO (xne (tv (tI a.Sense) rfl) (tv (tI b.Sense) rfl)) (nt ?_))))))))))
 refine cn (a.Sense=b.Sense) rfl (fun fhc0=> ?_) fun fhc0=> ?_
 ·refine sr ?_
  refine fO (OF.assign (VEv.bool false)) (nt (rt (tr (vb (b':=false) rfl ?_))))
  obtain ⟨a0,a1⟩:=a
  obtain ⟨b0,b1⟩:=b
  simp_all
 refine sk (tn (sq (sr (lf (rd 4 Qp a.Play) rfl Qb5 rfl rfl QgY (lf (rd 4 Qp b.Play) rfl Qb5 rfl rfl QgY (cO (cS (vc (tv (rd 4 Qp a.Play) rfl) (vc (tv (rd 4 Qp b.Play) rfl) vn)) (lps rfl) (Qcg (n+0) a.Play b.Play (by omega) (by omega)) rfl rfl) (fO (ZL (tv (tB (decide (a.Play=b.Play))) rfl)) (nt ?_))))))))
 refine cn (a.Play=b.Play) rfl (fun fhc1=> ?_) fun fhc1=> ?_
 ·refine sr ?_
  refine fO (OF.assign (VEv.bool false)) (nt (rt (tr (vb (b':=false) rfl ?_))))
  obtain ⟨a0,a1⟩:=a
  obtain ⟨b0,b1⟩:=b
  simp_all
 refine sk (tn (sr (fO (OF.assign (VEv.bool true)) (nt (rt (vb (b':=true) rfl ?_))))))
 obtain ⟨a0,a1⟩:=a
 obtain ⟨b0,b1⟩:=b
 simp_all
theorem Qco (n:Nat) (a:List D.Clue) (b:List D.Clue) (ha:zL ZU a≤mx) (hb:zL ZU b≤mx):Pure (Qw Tryd.prog (n+4)) 55 [(rd 2 Qd a),(rd 2 Qd b)] (tB (decide (a=b))):=by
 refine Pure.intro (rs:= [ResultVar.tmp 4]) Tryd.func55 rfl rfl rfl (E0:= [(0,(rd 2 Qd a)),(1,(rd 2 Qd b))]) rfl ?_
 obtain ⟨hlim,hmx,hmax⟩:=QR
 have hla:=Jh (z:=ZU) a
 have hlb:=Jh (z:=ZU) b
 refine sr (fO (OF.assign (VEv.bool false)) (nt (sq (sr (mO (rd 2 Qd a) rfl (lO (B.lenR (m:=a.length) (tv (rd 2 Qd a) rfl) U50 (List.length_map ..)) (mO (rd 2 Qd b) rfl (lO (B.lenR (m:=b.length) (tv (rd 2 Qd b) rfl) U50 (List.length_map ..)) (fO (QhS (tv (tN a.length) rfl) (tv (tN b.length) rfl)) (nt ?_))))))))))
 refine cn (a.length=b.length) rfl (fun fhc0=> ?_) fun fhc0=> ?_
 ·refine sr ?_
  refine fO (OF.assign (VEv.bool false)) (nt (rt (tr (vb (b':=false) rfl ?_))))
  symm;rw [decide_eq_false_iff_not];rintro rfl;exact fhc0 rfl
 refine sk (tn (sq (sr (fO (OF.assign (VEv.int .i64 0)) (nt (VRun.block ?_))))))
 refine VRun.loop (A:=Nat) (fun s_=> [(0,(rd 2 Qd a)),(1,(rd 2 Qd b)),(5,(tN s_))]) (fun s_=>Q4 []) 0 (fun s_=>s_≤a.length∧∀j,j<s_→a[j]? =b[j]?) (fun s_=>a.length - s_) (0:Nat) ?_ (Wk.mk (fun k=>k) ?_ ?_ ?_) ?_
 ·(simp;done)
 ·exact (b2 (b2 (b2 bn)))
 ·exact bn
 ·exact nd rfl
 rintro i (hI':i≤a.length∧∀j,j<i→a[j]? =b[j]?)
 show VRun _ _ _ [(0,(rd 2 Qd a)),(1,(rd 2 Qd b)),(5,(tN i))] (Q4 []) 0 _
 refine sq (sr (mO (tN i) rfl (mO (rd 2 Qd a) rfl (lO (B.lenR (m:=a.length) (tv (rd 2 Qd a) rfl) U50 (List.length_map ..)) (fO (Zx (tv (tN i) rfl) (tv (tN a.length) rfl)) (nt ?_))))))
 refine cd (i<a.length) rfl (fun fhc1=> ?_) fun fhc1=> ?_
 ·refine sk ?_
  refine tn (sq (VRun.block (sq (VRun.draw (B:= [[],[],[1,0],[0,1,2],[],[],[5,4],[4,5,6],[6,5,4,7,2,1,0,3],[3,0,1,2,7,4,5,6,8]]) (by kernel_rfl) (by kernel_rfl) (mD (rd 2 Qd a) rfl rfl (mD (tN i) rfl rfl ?_))))))
  obtain ⟨x1,hx1⟩:∃x,a[i]? =some x:=⟨_,List.getElem?_eq_getElem (by omega)⟩
  refine fD (OF.indexAddrR (row:=(Qd false x1)) (i:=i) (tv (rd 2 Qd a) rfl) (tv (tN i) rfl) rfl (QA _ hx1) U50 YE QeX) rfl rfl (lD (OL.loadRn (us:=(Qd false x1)) (tv (T.rp (Qd false x1)) rfl) Qia YE (lb rfl) rfl) rfl rfl (mD (rd 2 Qd b) rfl rfl (mD (tN i) rfl rfl ?_)))
  obtain ⟨x2,hx2⟩:∃x,b[i]? =some x:=⟨_,List.getElem?_eq_getElem (by omega)⟩
  refine fD (OF.indexAddrR (row:=(Qd false x2)) (i:=i) (tv (rd 2 Qd b) rfl) (tv (tN i) rfl) rfl (QA _ hx2) U50 YE QeX) rfl rfl (lD (OL.loadRn (us:=(Qd false x2)) (tv (T.rp (Qd false x2)) rfl) Qia YE (lb rfl) rfl) rfl rfl (VRunD.quiet (bi:= [6,5,4,7,2,1,0,3]) rfl VWant.always rfl rfl rfl bn (cS (vc (tv (T.agg (Qd false x1)) rfl) (vc (tv (T.agg (Qd false x2)) rfl) vn)) (LendL.cons (lg okeClue) (LendL.cons (lg okeClue) ln)) (QcM (n+0) x1 x2 (by exact Nat.le_trans (Qho hx1) ha) (by exact Nat.le_trans (Qho hx2) hb)) rfl rfl) (fD (ZL (tv (tB (decide (x1=x2))) rfl)) rfl rfl (VRunD.nil (tn ?_)))))
  refine cn (x1=x2) rfl (fun fhc2=> ?_) fun fhc2=> ?_
  ·refine sr ?_
   refine fO (OF.assign (VEv.bool false)) (nt (rt (vinB.r (tr (tr (vinB.r (tr (vb (b':=false) rfl ?_))))))))
   symm;rw [decide_eq_false_iff_not];exact Qdc hx1 hx2 fhc2
  refine sk (vinB.n (tn (VRun.region (mO (tN i) rfl (fO (QF (tv (tN i) rfl) (VEv.int .i64 1) (by omega)) (aO (tN (i+1)) rfl (VRunO.nil (tn ?_))))))))
  refine ⟨(i+1:Nat),?_,?_,Wk.mk (fun k=>k) ?_ ?_ ?_⟩
  ·exact Qcb hI' hx1 hx2 fhc2
  ·omega
  ·exact (b2 (b2 (b2 bn)))
  ·exact bn
  ·exact nd rfl
 refine VRun.exit (vthn.e (vthn.e (vinB.e (tn (sr (fO (OF.assign (VEv.bool true)) (nt (rt (vb (b':=true) rfl ?_)))))))))
 symm;rw [decide_eq_true_eq];exact Qc8 hI' fhc0 fhc1
theorem Jp (n:Nat) (a:D.Draft) (b:D.Draft) (ha:YX a≤mx) (hb:YX b≤mx):Pure (Qw Tryd.prog (n+5)) 26 [(T.agg (Q9 false a)),(T.agg (Q9 false b))] (tB (decide (a=b))):=by
 refine Pure.intro (rs:= [ResultVar.tmp 4]) Tryd.func26 rfl rfl rfl (E0:= [(0,(T.agg (Q9 false a))),(1,(T.agg (Q9 false b)))]) rfl ?_
 obtain ⟨hlim,hmx,hmax⟩:=QR
 simp only [YX] at ha hb
 have hla_Clues:=Jh (z:=ZU) a.Clues
 have hlb_Clues:=Jh (z:=ZU) b.Clues
 refine sr (kO (B.box (ts:=(Q9 false a)) (tv (T.agg (Q9 false a)) rfl) nofun rfl) (kO (B.box (ts:=(Q9 false b)) (tv (T.agg (Q9 false b)) rfl) nofun rfl) (fO (OF.assign (VEv.bool false)) (nt (sq (sr (fO (OF.fieldAddrO (tv (T.op 0 0) rfl) QgM) (lO (OL.loadOn (us:=(Qa false a.Grid)) (tv (T.op 0 0) rfl) rfl QO QM (lb rfl) rfl) (fO (OF.fieldAddrO (tv (T.op 1 0) rfl) QgM) (lO (OL.loadOn (us:=(Qa false b.Grid)) (tv (T.op 1 0) rfl) rfl QO QM (lb rfl) rfl) (cO (cS (vc (tv (T.agg (Qa false a.Grid)) rfl) (vc (tv (T.agg (Qa false b.Grid)) rfl) vn)) (LendL.cons (lg Qq) (LendL.cons (lg Qq) ln)) (QcX (n+3) a.Grid b.Grid) rfl rfl) ?_)))))))))))
 refine fO (ZL (tv (tB (decide (a.Grid=b.Grid))) rfl)) (nt ?_)
 refine cn (a.Grid=b.Grid) rfl (fun fhc0=> ?_) fun fhc0=> ?_
 ·refine sr ?_
  refine fO (OF.assign (VEv.bool false)) (nt (rt (tr (vb (b':=false) rfl ?_))))
  obtain ⟨a0,a1,a2,a3⟩:=a
  obtain ⟨b0,b1,b2,b3⟩:=b
  simp_all
 refine sk (tn (sq (sr (lf (tS a.Fill) rfl Qhz rfl rfl ZX (lf (tS b.Fill) rfl Qhz rfl rfl ZX (fO (B.sneq (c:=(!(decide (a.Fill=b.Fill)))) (tv (tS a.Fill) rfl) (tv (tS b.Fill) rfl) rfl) (nt ?_)))))))
 refine cn (a.Fill=b.Fill) rfl (fun fhc1=> ?_) fun fhc1=> ?_
 ·refine sr ?_
  refine fO (OF.assign (VEv.bool false)) (nt (rt (tr (vb (b':=false) rfl ?_))))
  obtain ⟨a0,a1,a2,a3⟩:=a
  obtain ⟨b0,b1,b2,b3⟩:=b
  simp_all
 refine sk (tn (sq (sr (lf (rd 2 Qd a.Clues) rfl Jv rfl rfl QgB (lf (rd 2 Qd b.Clues) rfl Jv rfl rfl QgB (cO (cS (vc (tv (rd 2 Qd a.Clues) rfl) (vc (tv (rd 2 Qd b.Clues) rfl) vn)) (lps rfl) (Qco (n+0) a.Clues b.Clues (by omega) (by omega)) rfl rfl) (fO (ZL (tv (tB (decide (a.Clues=b.Clues))) rfl)) (nt ?_))))))))
 refine cn (a.Clues=b.Clues) rfl (fun fhc2=> ?_) fun fhc2=> ?_
 ·refine sr ?_
  refine fO (OF.assign (VEv.bool false)) (nt (rt (tr (vb (b':=false) rfl ?_))))
  obtain ⟨a0,a1,a2,a3⟩:=a
  obtain ⟨b0,b1,b2,b3⟩:=b
  simp_all
 refine sk (tn (sq (sr (lf (tI a.Version) rfl QhF rfl rfl Zo (lf (tI b.Version) rfl QhF rfl rfl Zo (fO (xne (tv (tI a.Version) rfl) (tv (tI b.Version) rfl)) (nt ?_)))))))
 refine cn (a.Version=b.Version) rfl (fun fhc3=> ?_) fun fhc3=> ?_
 ·refine sr ?_
  refine fO (OF.assign (VEv.bool false)) (nt (rt (tr (vb (b':=false) rfl ?_))))
  obtain ⟨a0,a1,a2,a3⟩:=a
  obtain ⟨b0,b1,b2,b3⟩:=b
  simp_all
 refine sk (tn (sr (fO (OF.assign (VEv.bool true)) (nt (rt (vb (b':=true) rfl ?_))))))
 obtain ⟨a0,a1,a2,a3⟩:=a
 obtain ⟨b0,b1,b2,b3⟩:=b
 simp_all
end Go.Proofs.YthifchndolccgaaDoor.AE
namespace Go.Proofs.YthifchndolccgaaDoor.AE
open Go Go.RowKit
set_option linter.unusedVariables false
set_option linter.unusedSimpArgs false
set_option maxRecDepth 20000
set_option maxHeartbeats 2000000
noncomputable section
theorem Yh {ok:Nat→Prop} {i n:Nat} (h:i≤n∧∀j,j<i→ok j) (hi:i<n) (hk:ok i):i+1≤n∧∀j,j<i+1→ok j:=by
 refine ⟨hi,fun j hj=> ?_⟩
 rcases Nat.lt_or_ge j i with h1 | h1
 ·exact h.2 j h1
 ·obtain rfl:j=i:=by omega
  exact hk
theorem Qfl {ok:Nat→Prop} {i n:Nat} (h:i≤n∧∀j,j<i→ok j) (hi:¬i<n):∀j,j<n→ok j:=fun j hj=>h.2 j (by omega)
def ixF {α:Type} (p:α→Prop) [DecidablePred p]:List α→Int
 | []=> -1
 | x::r=>if p x then 0 else if ixF p r<0 then -1 else ixF p r+1
theorem Qc4 {α:Type} {p:α→Prop} [DecidablePred p]:∀ {l:List α} {i:Nat} {x:α},l[i]? =some x→p x→(∀j y,j<i→l[j]? =some y→¬p y)→ixF p l=i
 | [],i,x,h,_,_=>by simp at h
 | y::r,0,x,h,hp,_=>by
  obtain rfl:y=x:=by simpa using h
  simp only [ixF,if_pos hp]
  rfl
 | y::r,i+1,x,h,hp,hn=>by
  have h1:=Qc4 (l:=r) (i:=i) (by simpa using h) hp (fun j z hj hz=>hn (j+1) z (by omega) (by simpa using hz))
  have h2:¬p y:=hn 0 y (by omega) (by simp)
  simp only [ixF,if_neg h2,h1]
  rw [if_neg (by omega)]
  rfl
theorem QeS {α:Type} {p:α→Prop} [DecidablePred p]:∀ {l:List α},(∀j y,j<l.length→l[j]? =some y→¬p y)→ixF p l= -1
 | [],_=>rfl
 | y::r,hn=>by
  have h1:=QeS (l:=r) (fun j z hj hz=>hn (j+1) z (by simp;omega) (by simpa using hz))
  have h2:¬p y:=hn 0 y (by simp) (by simp)
  simp only [ixF,if_neg h2,h1]
  rfl
theorem Qhq {α:Type} {p:α→Prop} [DecidablePred p]:∀ {l:List α},0≤ixF p l↔∃x∈l,p x
 | []=>by simp [ixF]
 | y::r=>by
  have h1:=Qhq (p:=p) (l:=r)
  simp only [ixF,List.mem_cons,exists_eq_or_imp]
  by_cases hy:p y
  ·simp [hy]
  ·simp only [if_neg hy,hy,false_or]
   rw [← h1]
   by_cases h:ixF p r<0
   ·rw [if_pos h]
    exact ⟨fun h2=>absurd h2 (by decide),fun h2=>by omega⟩
   ·rw [if_neg h]
    exact ⟨fun h2=>by omega,fun h2=>by omega⟩
def NoneTo {α:Type} (p:α→Prop) (l:List α) (i:Nat):Prop:=i≤l.length∧∀j y,j<i→l[j]? =some y→¬p y
theorem NoneTo.start {α:Type} (p:α→Prop) (l:List α):NoneTo p l 0:=⟨Nat.zero_le _,fun j y hj=>by omega⟩
theorem NoneTo.next {α:Type} {p:α→Prop} {l:List α} {i:Nat} {x:α} (h:NoneTo p l i) (hx:l[i]? =some x) (hn:¬p x):NoneTo p l (i+1):=by
 have:=(List.getElem?_eq_some_iff.1 hx).1
 refine ⟨by omega,fun j y hj hy=> ?_⟩
 rcases Nat.lt_or_ge j i with h1 | h1
 ·exact h.2 j y h1 hy
 ·obtain rfl:j=i:=by omega
  rw [hx] at hy
  exact Option.some.inj hy▸hn
theorem NoneTo.all {α:Type} {p:α→Prop} {l:List α} {i:Nat} (h:NoneTo p l i) (hi:¬i<l.length):∀j y,j<l.length→l[j]? =some y→¬p y:=fun j y hj hy=>h.2 j y (by omega) hy
theorem NoneTo.mem {α:Type} {p:α→Prop} {l:List α} {i:Nat} (h:NoneTo p l i) (hi:¬i<l.length):∀y∈l,¬p y:=fun y hy=>by
 obtain ⟨j,hj⟩:=List.getElem?_of_mem hy
 exact h.all hi j y (List.getElem?_eq_some_iff.1 hj).1 hj
end
theorem YF (n:Nat) (a:Int) (b:Int) (c:Int):Pure (Qw Tryd.prog (n+1)) 59 [(tI a),(tI b),(tI c)] (tB (decide (b≤a∧a≤c))):=by
 refine Pure.intro (rs:= [ResultVar.tmp 6]) Tryd.func59 rfl rfl rfl (E0:= [(0,(tI a)),(1,(tI b)),(2,(tI c))]) rfl ?_
 obtain ⟨hlim,hmx,hmax⟩:=QR
 refine sr (fO (OF.assign (VEv.bool false)) (nt (sr (mO (tI a) rfl (mO (tI b) rfl (fO (xge (tv (tI a) rfl) (tv (tI b) rfl)) (mO (tB (decide (b≤a))) rfl ?_)))))))
 refine gw (b≤a) (fun fhg10_1=> ?_) fun fhg10_1=> ?_
 ·refine gF (dy fhg10_1) rfl rfl (OF.move (tv (tI a) rfl)) ?_
  refine gF (dy fhg10_1) rfl rfl (OF.move (tv (tI c) rfl)) (gF (dy fhg10_1) rfl rfl (xle (tv (tI a) rfl) (tv (tI c) rfl)) (fO (OF.pickT (VEv.tmpB rfl (dy fhg10_1)) (tv (tB (decide (a≤c))) rfl)) (aO (tB (decide (a≤c))) rfl (nt (rt (vb (b':=(decide (a≤c))) rfl ?_))))))
  exact Zb (by omega)
 refine QY 3 3 true 10 (dz fhg10_1) rfl rfl rfl (fO (OF.pickF (VEv.tmpB rfl (dz fhg10_1)) (VEv.bool false)) (aO (tB false) rfl (nt (rt (vb (b':=false) rfl ?_)))))
 (symm;rw [decide_eq_false_iff_not];omega)
theorem JH (n:Nat) (a:Int) (b:Int) (c:Int):Pure (Qw Tryd.prog (n+1)) 61 [(tI a),(tI b),(tI c)] (tB (decide (b≤a∧a≤c))):=by
 refine Pure.intro (rs:= [ResultVar.tmp 6]) Tryd.func61 rfl rfl rfl (E0:= [(0,(tI a)),(1,(tI b)),(2,(tI c))]) rfl ?_
 obtain ⟨hlim,hmx,hmax⟩:=QR
 refine sr (fO (OF.assign (VEv.bool false)) (nt (sr (mO (tI b) rfl (mO (tI a) rfl (fO (xle (tv (tI b) rfl) (tv (tI a) rfl)) (mO (tB (decide (b≤a))) rfl ?_)))))))
 refine gw (b≤a) (fun fhg10_1=> ?_) fun fhg10_1=> ?_
 ·refine gF (dy fhg10_1) rfl rfl (OF.move (tv (tI a) rfl)) ?_
  refine gF (dy fhg10_1) rfl rfl (OF.move (tv (tI c) rfl)) (gF (dy fhg10_1) rfl rfl (xle (tv (tI a) rfl) (tv (tI c) rfl)) (fO (OF.pickT (VEv.tmpB rfl (dy fhg10_1)) (tv (tB (decide (a≤c))) rfl)) (aO (tB (decide (a≤c))) rfl (nt (rt (vb (b':=(decide (a≤c))) rfl ?_))))))
  exact Zb (by omega)
 refine QY 3 3 true 10 (dz fhg10_1) rfl rfl rfl (fO (OF.pickF (VEv.tmpB rfl (dz fhg10_1)) (VEv.bool false)) (aO (tB false) rfl (nt (rt (vb (b':=false) rfl ?_)))))
 (symm;rw [decide_eq_false_iff_not];omega)
theorem QbT (n:Nat) (a:Int):Pure (Qw Tryd.prog (n+1)) 82 [(T.int .u8 a)] (tB (decide (97≤a∧a≤122))):=by
 refine Pure.intro (rs:= [ResultVar.tmp 2]) Tryd.func82 rfl rfl rfl (E0:= [(0,(T.int .u8 a))]) rfl ?_
 obtain ⟨hlim,hmx,hmax⟩:=QR
 refine sr (fO (OF.assign (VEv.bool false)) (nt (sr (mO (T.int .u8 a) rfl (fO (xge (tv (T.int .u8 a) rfl) (VEv.int .u8 97)) (mO (tB (decide (97≤a))) rfl ?_))))))
 refine gw (97≤a) (fun fhg5_1=> ?_) fun fhg5_1=> ?_
 ·refine gF (dy fhg5_1) rfl rfl (OF.move (tv (T.int .u8 a) rfl)) ?_
  refine gF (dy fhg5_1) rfl rfl (xle (tv (T.int .u8 a) rfl) (VEv.int .u8 122)) (fO (OF.pickT (VEv.tmpB rfl (dy fhg5_1)) (tv (tB (decide (a≤122))) rfl)) (aO (tB (decide (a≤122))) rfl (nt (rt (vb (b':=(decide (a≤122))) rfl ?_)))))
  exact Zb (by omega)
 refine QY 2 2 true 5 (dz fhg5_1) rfl rfl rfl (fO (OF.pickF (VEv.tmpB rfl (dz fhg5_1)) (VEv.bool false)) (aO (tB false) rfl (nt (rt (vb (b':=false) rfl ?_)))))
 (symm;rw [decide_eq_false_iff_not];omega)
theorem QaT (n:Nat) (a:Int) (b:Int):Pure (Qw Tryd.prog (n+1)) 64 [(tI a),(tI b)] (tB (decide (0≤a∧a<b))):=by
 refine Pure.intro (rs:= [ResultVar.tmp 4]) Tryd.func64 rfl rfl rfl (E0:= [(0,(tI a)),(1,(tI b))]) rfl ?_
 obtain ⟨hlim,hmx,hmax⟩:=QR
 refine sr (fO (OF.assign (VEv.bool false)) (nt (sr (mO (tI a) rfl (fO (xge (tv (tI a) rfl) (VEv.int .i64 0)) (mO (tB (decide (0≤a))) rfl ?_))))))
 refine gw (0≤a) (fun fhg7_1=> ?_) fun fhg7_1=> ?_
 ·refine gF (dy fhg7_1) rfl rfl (OF.move (tv (tI a) rfl)) ?_
  refine gF (dy fhg7_1) rfl rfl (OF.move (tv (tI b) rfl)) (gF (dy fhg7_1) rfl rfl (xls (tv (tI a) rfl) (tv (tI b) rfl)) (fO (OF.pickT (VEv.tmpB rfl (dy fhg7_1)) (tv (tB (decide (a<b))) rfl)) (aO (tB (decide (a<b))) rfl (nt (rt (vb (b':=(decide (a<b))) rfl ?_))))))
  exact Zb (by omega)
 refine QY 3 2 true 7 (dz fhg7_1) rfl rfl rfl (fO (OF.pickF (VEv.tmpB rfl (dz fhg7_1)) (VEv.bool false)) (aO (tB false) rfl (nt (rt (vb (b':=false) rfl ?_)))))
 (symm;rw [decide_eq_false_iff_not];omega)
end Go.Proofs.YthifchndolccgaaDoor.AE
namespace Go.Proofs.YthifchndolccgaaDoor.AE
open Go Go.RowKit
set_option linter.unusedVariables false
set_option linter.unusedSimpArgs false
set_option maxRecDepth 20000
set_option maxHeartbeats 2000000
noncomputable section
def ZD (a:List Int) (i:Nat):List Int:=(List.range a.length).map fun j=>if j<i∨a.length≤j+i then a.getD (a.length - 1 - j) 0 else a.getD j 0
theorem Ys (a:List Int) (i:Nat):(ZD a i).length=a.length:=by simp [ZD]
theorem QaP {a:List Int} {i j:Nat} (h:j<a.length):(ZD a i)[j]? =some (if j<i∨a.length≤j+i then a.getD (a.length - 1 - j) 0 else a.getD j 0):=by
 unfold ZD
 rw [List.getElem?_map,List.getElem?_range h]
 rfl
theorem QgA (a:List Int):ZD a 0=a:=by
 refine List.ext_getElem? fun j=> ?_
 rcases Nat.lt_or_ge j a.length with h | h
 ·rw [QaP h,if_neg (by omega),List.getD_eq_getElem?_getD,List.getElem?_eq_getElem h]
  rfl
 ·rw [List.getElem?_eq_none (by rw [Ys];exact h),List.getElem?_eq_none h]
theorem Qhr {a:List Int} {i:Nat} (h:a.length≤2*i+1) (h2:i≤a.length):ZD a i=a.reverse:=by
 refine List.ext_getElem? fun j=> ?_
 rcases Nat.lt_or_ge j a.length with h3 | h3
 ·rw [QaP h3,List.getElem?_reverse h3,List.getElem?_eq_getElem (by omega)]
  split
  ·rw [List.getD_eq_getElem?_getD,List.getElem?_eq_getElem (by omega)];rfl
  ·have e:a.length - 1 - j=j:=by omega
   rw [List.getD_eq_getElem?_getD,List.getElem?_eq_getElem h3]
   simp only [Option.getD_some,e]
 ·rw [List.getElem?_eq_none (by rw [Ys];exact h3),List.getElem?_eq_none (by simpa using h3)]
theorem Qgl {a:List Int} {i k:Nat} {x y:Int} (hk:k=a.length - 1 - i) (hi:i<k) (hx:(ZD a i)[k]? =some x) (hy:(ZD a i)[i]? =some y):((ZD a i).set i x).set k y=ZD a (i+1):=by
 subst hk
 rw [QaP (by omega),if_neg (by omega)] at hx hy
 obtain rfl:=Option.some.inj hx
 obtain rfl:=Option.some.inj hy
 refine List.ext_getElem? fun j=> ?_
 rcases Nat.lt_or_ge j a.length with h | h
 ·rw [QaP h,List.getElem?_set,List.getElem?_set,List.length_set,Ys,QaP h]
  by_cases e1:a.length - 1 - i=j
  ·rw [if_pos e1,if_pos (by omega),if_pos (by omega)]
   congr 2
   omega
  ·rw [if_neg e1]
   by_cases e2:i=j
   ·rw [if_pos e2,if_pos (by omega),if_pos (by omega),e2]
   ·rw [if_neg e2]
    by_cases e3:j<i∨a.length≤j+i
    ·rw [if_pos e3,if_pos (by omega)]
    ·rw [if_neg e3,if_neg (by omega)]
 ·rw [List.getElem?_eq_none (by rw [List.length_set,List.length_set,Ys];exact h),List.getElem?_eq_none (by rw [Ys];exact h)]
end
theorem Yc (n:Nat) (a:List Int) (ha:a.length≤Z7):Mut (Qw Tryd.prog (n+1)) 134 1 (a.map (QP true)) [] none (a.reverse.map (QP true)):=by
 refine Mut.intro (rt:=0) Tryd.func134 rfl rfl rfl (by kernel_rfl) (ZG (fun _=>rfl) _) (ZG (fun _=>rfl) _) (E0:= []) rfl ?_
 obtain ⟨hlim,hmx,hmax⟩:=QR
 refine sr (mO (T.os 1 0 0 ((a.map (QP true)).length)) rfl (lO (B.lenO (m:=a.length) (tv (T.os 1 0 0 ((a.map (QP true)).length)) rfl) U88 (List.length_map ..)) (fO (B.sub (n:=(((a.length:Nat):Int) - 1)) (tv (tN a.length) rfl) (VEv.int .i64 1) (by (rw [Qz (by omega)];done))) (fO (OF.assign (VEv.int .i64 0)) (aO (tI (((a.length:Nat):Int) - 1)) rfl (nt (VRun.block ?_)))))))
 have he1:a=ZD a 0:=by exact (QgA a).symm
 refine VRun.loop (A:=Nat) (fun s_=> [(0,(T.os 1 0 0 (((ZD a s_).map (QP true)).length))),(2,(tN s_)),(3,(tI ((a.length:Int) - 1 - s_)))]) (fun s_=>Q4 [(0,(Obj.rows 1 ((ZD a s_).map (QP true))))]) 1 (fun s_=>2*s_≤a.length+1∧s_≤a.length) (fun s_=>a.length - s_) (0:Nat) ?_ (Wk.mk (fun k=>k) ?_ ?_ ?_) ?_
 ·(simp;done)
 ·exact (bc ⟨(congrArg (fun l_=>T.os 1 0 0 (List.map (QP true) l_).length) he1),rfl⟩ (b2 (bc ⟨(congrArg (T.int .i64) (show (((a.length:Nat):Int) - 1)=(a.length:Int) - 1 - 0 from (by omega))),rfl⟩ bn)))
 ·exact (bc ⟨(congrArg (fun l_=>some (Obj.rows 1 (List.map (QP true) l_))) he1),(lb rfl),rfl⟩ bn)
 ·exact nd rfl
 rintro i (hI':2*i≤a.length+1∧i≤a.length)
 show VRun _ _ _ [(0,(T.os 1 0 0 (((ZD a i).map (QP true)).length))),(2,(tN i)),(3,(tI ((a.length:Int) - 1 - i)))] (Q4 [(0,(Obj.rows 1 ((ZD a i).map (QP true))))]) 1 _
 have hml:=Ys a i
 have hI1:=hI'.1
 have hI2:=hI'.2
 refine sq (sr (mO (tN i) rfl (mO (tI ((a.length:Int) - 1 - i)) rfl (fO (xls (tv (tN i) rfl) (tv (tI ((a.length:Int) - 1 - i)) rfl)) (nt ?_)))))
 refine cd (((i:Nat):Int)<(a.length:Int) - 1 - i) rfl (fun fhc0=> ?_) fun fhc0=> ?_
 ·refine sk ?_
  refine tn (sq (VRun.block (VRun.draw (B:= [[],[],[],[],[],[],[5,4],[4,5,6],[],[],[9,8],[8,9,10],[10,9,8,11,7,6,5,4,1,0],[0,1,4,5,6,7,11,8,9,10,12],[13,12,11,10,9,8,7,6,5,4,1,0,3,2],[2,3,0,1,4,5,6,7,8,9,10,11,12,13,14]]) (by kernel_rfl) (by kernel_rfl) (mD (T.os 1 0 0 (((ZD a i).map (QP true)).length)) rfl rfl (mD (tN i) rfl rfl (mD (T.os 1 0 0 (((ZD a i).map (QP true)).length)) rfl rfl (mD (tI ((a.length:Int) - 1 - i)) rfl rfl (mD (T.os 1 0 0 (((ZD a i).map (QP true)).length)) rfl rfl (mD (tI ((a.length:Int) - 1 - i)) rfl rfl ?_)))))))))
  obtain ⟨x1,hx1⟩:∃x,(ZD a i)[(Int.toNat ((a.length:Int) - 1 - i))]? =some x:=⟨_,List.getElem?_eq_getElem (by omega)⟩
  refine fD (B.indexAddrO (i:=(Int.toNat ((a.length:Int) - 1 - i))) (tv (T.os 1 0 0 (((ZD a i).map (QP true)).length)) rfl) (tv (tI ((a.length:Int) - 1 - i)) rfl) (by omega) (by (simp only [List.length_map];omega)) U88 sz5 if5) rfl rfl (lD (OL.loadP1 (t:=(T.int .u8 x1)) (row:=(QP true x1)) (tv (T.orp 1 0 (Int.toNat ((a.length:Int) - 1 - i)) 0) rfl) rfl (QA _ hx1) rfl rfl st5) rfl rfl (mD (T.os 1 0 0 (((ZD a i).map (QP true)).length)) rfl rfl (mD (tN i) rfl rfl ?_)))
  obtain ⟨x2,hx2⟩:∃x,(ZD a i)[i]? =some x:=⟨_,List.getElem?_eq_getElem (by omega)⟩
  refine fD (B.indexAddrO (i:=i) (tv (T.os 1 0 0 (((ZD a i).map (QP true)).length)) rfl) (tv (tN i) rfl) rfl (by (simp only [List.length_map];omega)) U88 sz5 if5) rfl rfl (lD (OL.loadP1 (t:=(T.int .u8 x2)) (row:=(QP true x2)) (tv (T.orp 1 0 i 0) rfl) rfl (QA _ hx2) rfl rfl st5) rfl rfl (fD (B.indexAddrO (i:=i) (tv (T.os 1 0 0 (((ZD a i).map (QP true)).length)) rfl) (tv (tN i) rfl) rfl (by (simp only [List.length_map];omega)) U88 sz5 if5) rfl rfl (VRunD.chain (bi:= [0,1,4,5,6,7,11,8,9,10,12]) rfl VWant.always rfl rfl rfl (by kernel_rfl) (B.storeP (us:= [(T.int .u8 x1)]) (rows':=(((ZD a i).set i x1).map (QP true))) (row:=(QP true x2)) (tv (T.orp 1 0 i 0) rfl) (tv (T.int .u8 x1) rfl) nofun rfl (QA _ hx2) rfl (lb rfl) if5 sz5 (bc rfl bn) (by intro r hr t ht;obtain ⟨x,_,rfl⟩:=List.mem_map.1 hr;rw [Qg0] at ht;exact Zv (okByte.pl _ t ht)) (Zs rfl)) ?_)))
  obtain ⟨x3,hx3⟩:∃x,((ZD a i).set i x1)[(Int.toNat ((a.length:Int) - 1 - i))]? =some x:=⟨_,List.getElem?_eq_getElem (by (simp only [List.length_set];omega))⟩
  refine fD (B.indexAddrO (i:=(Int.toNat ((a.length:Int) - 1 - i))) (tv (T.os 1 0 0 (((ZD a i).map (QP true)).length)) rfl) (tv (tI ((a.length:Int) - 1 - i)) rfl) (by omega) (by (simp only [List.length_map];omega)) U88 sz5 if5) rfl rfl (VRunD.chain (bi:= [2,3,0,1,4,5,6,7,8,9,10,11,12,13,14]) rfl VWant.always rfl rfl rfl (by kernel_rfl) (B.storeP (us:= [(T.int .u8 x2)]) (rows':=((((ZD a i).set i x1).set (Int.toNat ((a.length:Int) - 1 - i)) x2).map (QP true))) (row:=(QP true x3)) (tv (T.orp 1 0 (Int.toNat ((a.length:Int) - 1 - i)) 0) rfl) (tv (T.int .u8 x2) rfl) nofun rfl (QA _ hx3) rfl (lb rfl) if5 sz5 (bc rfl bn) (by intro r hr t ht;obtain ⟨x,_,rfl⟩:=List.mem_map.1 hr;rw [Qg0] at ht;exact Zv (okByte.pl _ t ht)) (Zs rfl)) (VRunD.nil (vinB.n (tn (VRun.region (mO (tN i) rfl (fO (QF (tv (tN i) rfl) (VEv.int .i64 1) (by omega)) (mO (tI ((a.length:Int) - 1 - i)) rfl (fO (B.sub (n:=((a.length:Int) - 1 - i - 1)) (tv (tI ((a.length:Int) - 1 - i)) rfl) (VEv.int .i64 1) (by (rw [Qz (by omega)];done))) (aO (tN (i+1)) rfl (aO (tI ((a.length:Int) - 1 - i - 1)) rfl ?_)))))))))))
  refine VRunO.nil (tn ?_)
  have hml2:=Ys a (i+1)
  have he2:(((ZD a i).set i x1).set (Int.toNat ((a.length:Int) - 1 - i)) x2)=ZD a (i+1):=by (refine Qgl ?_ ?_ hx1 hx2<;>omega)
  refine ⟨(i+1:Nat),?_,?_,Wk.mk (fun k=>k) ?_ ?_ ?_⟩
  ·omega
  ·omega
  ·exact (bc ⟨(congrArg (fun n_=>T.os 1 0 0 n_) (show ((ZD a i).map (QP true)).length=((ZD a (i+1)).map (QP true)).length from (by rw [List.length_map,List.length_map,hml,hml2]))),rfl⟩ (b2 (bc ⟨(congrArg (T.int .i64) (show ((a.length:Int) - 1 - i - 1)=(a.length:Int) - 1 - (i+1) from (by omega))),rfl⟩ bn)))
  ·exact (bc ⟨(congrArg (fun l_=>some (Obj.rows 1 (List.map (QP true) l_))) he2),(lb rfl),rfl⟩ bn)
  ·exact nd rfl
 refine VRun.exit (vthn.e (vthn.e (vinB.e ?_)))
 refine vmut.v (rows:=((ZD a i).map (QP true))) rfl rfl ?_ rfl
 ·show List.map _ (ZD a i)=List.map _ a.reverse
  refine congrArg (List.map _) ?_
  refine Qhr ?_ ?_<;>omega
end Go.Proofs.YthifchndolccgaaDoor.AE
namespace Go.Proofs.YthifchndolccgaaDoor.AE
open Go Go.RowKit
set_option linter.unusedVariables false
set_option linter.unusedSimpArgs false
set_option maxRecDepth 20000
set_option maxHeartbeats 2000000
noncomputable section
def gOk (s:ByteArray) (j:Nat):Prop:=QK s j=35∨QK s j=46
def gridOk (g:D.Grid):Prop:=(2≤g.Rows∧g.Rows≤6)∧(2≤g.Cols∧g.Cols≤6)∧((g.Cells.size:Nat):Int)=g.Rows*g.Cols∧∀j,j<g.Cells.size→gOk g.Cells j
instance (g:D.Grid):Decidable (gridOk g):=Classical.propDecidable _
theorem QiY {a b:Int} (h1:2≤a) (h2:a≤6) (h3:2≤b) (h4:b≤6):4≤a*b∧a*b≤36:=by
 have e1:2*2≤a*b:=Int.mul_le_mul h1 h3 (by decide) (by omega)
 have e2:a*b≤6*6:=Int.mul_le_mul h2 h4 (by omega) (by decide)
 omega
theorem QjQ {a b:Int} (h1:2≤a) (h2:a≤6) (h3:2≤b) (h4:b≤6):IntKind.i64.wrap (a*b)=a*b:=by
 have:=QiY h1 h2 h3 h4
 rw [Qz (by omega)]
theorem gridOk.size {g:D.Grid} (h:gridOk g):4≤g.Cells.size∧g.Cells.size≤36:=by
 have:=QiY h.1.1 h.1.2 h.2.1.1 h.2.1.2
 have:=h.2.2.1
 omega
end
theorem Zi (n:Nat) (g:D.Grid) (hc:g.Cells.size≤maxLen):Pure (Qw Tryd.prog (n+2)) 58 [(T.agg (Qa false g))] (tB (decide (gridOk g))):=by
 refine Pure.intro (rs:= [ResultVar.tmp 2]) Tryd.func58 rfl rfl rfl (E0:= [(0,(T.agg (Qa false g)))]) rfl ?_
 obtain ⟨hlim,hmx,hmax⟩:=QR
 refine sr (kO (B.box (ts:=(Qa false g)) (tv (T.agg (Qa false g)) rfl) nofun rfl) (fO (OF.assign (VEv.bool false)) (nt (sq (sr (lf (tI g.Rows) rfl YU rfl rfl Zo (cO (cS (vc (tv (tI g.Rows) rfl) (vc (VEv.int .i64 2) (vc (VEv.int .i64 6) vn))) (lps rfl) (YF (n+0) g.Rows 2 6) rfl rfl) (fO (ZL (tv (tB (decide (2≤g.Rows∧g.Rows≤6))) rfl)) (mO (tB (!(decide (2≤g.Rows∧g.Rows≤6)))) rfl ?_)))))))))
 refine gn (2≤g.Rows∧g.Rows≤6) (fun fhg8_1=> ?_) fun fhg8_1=> ?_
 ·refine QY 4 4 false 8 (ny fhg8_1) rfl rfl rfl ?_
  refine fO (OF.pickT (VEv.tmpB rfl (ny fhg8_1)) (VEv.bool true)) (mO (tB true) rfl (QY 9 10 false 14 (b:=true) rfl rfl rfl rfl (fO (OF.pickT (tv (tB true) rfl) (VEv.bool true)) (nt (ct rfl (sr (fO (OF.assign (VEv.bool false)) (nt (rt (tr (vb (b':=false) rfl ?_)))))))))))
  (symm;rw [decide_eq_false_iff_not];rintro ⟨g1,g2,g3,g4⟩;omega)
 refine glf (tI g.Cols) (nz fhg8_1) rfl rfl rfl rfl QV rfl rfl Zo (VRunO.chain (VWant.on rfl rfl (nz fhg8_1)) (cS (vc (tv (tI g.Cols) rfl) (vc (VEv.int .i64 2) (vc (VEv.int .i64 6) vn))) (lps rfl) (YF (n+0) g.Cols 2 6) rfl rfl) (gF (nz fhg8_1) rfl rfl (ZL (tv (tB (decide (2≤g.Cols∧g.Cols≤6))) rfl)) (fO (OF.pickF (VEv.tmpB rfl (nz fhg8_1)) (tv (tB (!(decide (2≤g.Cols∧g.Cols≤6)))) rfl)) (mO (tB (!(decide (2≤g.Cols∧g.Cols≤6)))) rfl ?_))))
 refine gn (2≤g.Cols∧g.Cols≤6) (fun fhg14_2=> ?_) fun fhg14_2=> ?_
 ·refine QY 9 10 false 14 (ny fhg14_2) rfl rfl rfl ?_
  refine fO (OF.pickT (VEv.tmpB rfl (ny fhg14_2)) (VEv.bool true)) (nt (ct rfl (sr (fO (OF.assign (VEv.bool false)) (nt (rt (tr (vb (b':=false) rfl ?_))))))))
  (symm;rw [decide_eq_false_iff_not];rintro ⟨g1,g2,g3,g4⟩;omega)
 refine glf (tS g.Cells) (nz fhg14_2) rfl rfl rfl rfl QC rfl rfl ZX (gL (nz fhg14_2) rfl rfl (B.lenS (tv (tS g.Cells) rfl) U9) (glf (tI g.Rows) (nz fhg14_2) rfl rfl rfl rfl YU rfl rfl Zo (glf (tI g.Cols) (nz fhg14_2) rfl rfl rfl rfl QV rfl rfl Zo (gF (nz fhg14_2) rfl rfl (B.mul (n:=(g.Rows*g.Cols)) (tv (tI g.Rows) rfl) (tv (tI g.Cols) rfl) (by (refine QjQ ?_ ?_ ?_ ?_<;>omega))) (gF (nz fhg14_2) rfl rfl (xne (tv (tN g.Cells.size) rfl) (tv (tI (g.Rows*g.Cols)) rfl)) (fO (OF.pickF (VEv.tmpB rfl (nz fhg14_2)) (tv (tB (!(decide (((g.Cells.size:Nat):Int)=(g.Rows*g.Cols))))) rfl)) (nt ?_)))))))
 refine cn (((g.Cells.size:Nat):Int)=(g.Rows*g.Cols)) rfl (fun fhc0=> ?_) fun fhc0=> ?_
 ·refine sr ?_
  refine fO (OF.assign (VEv.bool false)) (nt (rt (tr (vb (b':=false) rfl ?_))))
  (symm;rw [decide_eq_false_iff_not];rintro ⟨g1,g2,g3,g4⟩;omega)
 refine sk (tn (sq (sr (fO (OF.assign (VEv.int .i64 0)) (nt (VRun.block ?_))))))
 refine VRun.loop (A:=Nat) (fun s_=> [(1,(T.op 0 0)),(3,(tN s_))]) (fun s_=>Q4 [(0,(Obj.cells (Qa false g)))]) 1 (fun s_=>s_≤g.Cells.size∧∀j,j<s_→gOk g.Cells j) (fun s_=>g.Cells.size - s_) (0:Nat) ?_ (Wk.mk (fun k=>k) ?_ ?_ ?_) ?_
 ·exact ⟨Nat.zero_le _,fun j hj=>by omega⟩
 ·exact (b2 (b2 bn))
 ·exact (b3 bn)
 ·exact nd rfl
 rintro i (hI':i≤g.Cells.size∧∀j,j<i→gOk g.Cells j)
 show VRun _ _ _ [(1,(T.op 0 0)),(3,(tN i))] (Q4 [(0,(Obj.cells (Qa false g)))]) 1 _
 have hI1:=hI'.1
 refine sq (sr (mO (tN i) rfl (lf (tS g.Cells) rfl QC rfl rfl ZX (lO (B.lenS (tv (tS g.Cells) rfl) U9) (fO (Zx (tv (tN i) rfl) (tv (tN g.Cells.size) rfl)) (nt ?_))))))
 refine cd (i<g.Cells.size) rfl (fun fhc1=> ?_) fun fhc1=> ?_
 ·refine sk ?_
  refine tn (sq (VRun.block (sr (lf (tS g.Cells) rfl QC rfl rfl ZX (mO (tN i) rfl ?_)))))
  have hb3:i<g.Cells.size:=(by omega)
  refine fO (xix (tv (tS g.Cells) rfl) (tv (tN i) rfl) hb3 U9) (fO (xne (tv (T.int .u8 (QK g.Cells i)) rfl) (VEv.int .u8 35)) (mO (tB (!(decide (QK g.Cells i=35)))) rfl ?_))
  refine gn (QK g.Cells i=35) (fun fhg37_4=> ?_) fun fhg37_4=> ?_
  ·refine glf (tS g.Cells) (ny fhg37_4) rfl rfl rfl rfl QC rfl rfl ZX ?_
   refine gF (ny fhg37_4) rfl rfl (OF.move (tv (tN i) rfl)) ?_
   have hb5:i<g.Cells.size:=(by omega)
   refine gF (ny fhg37_4) rfl rfl (xix (tv (tS g.Cells) rfl) (tv (tN i) rfl) hb5 U9) (gF (ny fhg37_4) rfl rfl (xne (tv (T.int .u8 (QK g.Cells i)) rfl) (VEv.int .u8 46)) (fO (OF.pickT (VEv.tmpB rfl (ny fhg37_4)) (tv (tB (!(decide (QK g.Cells i=46)))) rfl)) (nt ?_)))
   refine cn (QK g.Cells i=46) rfl (fun fhc2=> ?_) fun fhc2=> ?_
   ·refine sr ?_
    refine fO (OF.assign (VEv.bool false)) (nt (rt (vinB.r (tr (tr (vinB.r (tr (vb (b':=false) rfl ?_))))))))
    (symm;rw [decide_eq_false_iff_not];rintro ⟨g1,g2,g3,g4⟩;(have:=g4 i fhc1;unfold gOk at this;omega))
   refine sk (vinB.n (tn (VRun.region (mO (tN i) rfl (fO (QF (tv (tN i) rfl) (VEv.int .i64 1) (by omega)) (aO (tN (i+1)) rfl (VRunO.nil (tn ?_))))))))
   refine ⟨(i+1:Nat),?_,?_,Wk.mk (fun k=>k) ?_ ?_ ?_⟩
   ·refine Yh hI' fhc1 ?_;unfold gOk;omega
   ·omega
   ·exact (b2 (b2 bn))
   ·exact (b3 bn)
   ·exact nd rfl
  refine QY 5 5 true 37 (nz fhg37_4) rfl rfl rfl (fO (OF.pickF (VEv.tmpB rfl (nz fhg37_4)) (VEv.bool false)) (nt (cf rfl (sk (vinB.n (tn (VRun.region (mO (tN i) rfl (fO (QF (tv (tN i) rfl) (VEv.int .i64 1) (by omega)) (aO (tN (i+1)) rfl (VRunO.nil ?_)))))))))))
  refine tn ?_
  refine ⟨(i+1:Nat),?_,?_,Wk.mk (fun k=>k) ?_ ?_ ?_⟩
  ·refine Yh hI' fhc1 ?_;unfold gOk;omega
  ·omega
  ·exact (b2 (b2 bn))
  ·exact (b3 bn)
  ·exact nd rfl
 refine VRun.exit (vthn.e (vthn.e (vinB.e (tn (sr (fO (OF.assign (VEv.bool true)) (nt (rt (vb (b':=true) rfl ?_)))))))))
 (symm;rw [decide_eq_true_eq];refine ⟨?_,?_,?_,Qfl hI' fhc1⟩<;>assumption)
theorem Zw (n:Nat) (g:D.Grid) (hc:g.Cells.size≤maxLen):Pure (Qw Tryd.prog (n+2)) 34 [(T.agg (Qa false g))] (tB (decide (gridOk g))):=by
 refine Pure.intro (rs:= [ResultVar.tmp 2]) Tryd.func34 rfl rfl rfl (E0:= [(0,(T.agg (Qa false g)))]) rfl ?_
 obtain ⟨hlim,hmx,hmax⟩:=QR
 refine sr (kO (B.box (ts:=(Qa false g)) (tv (T.agg (Qa false g)) rfl) nofun rfl) (fO (OF.assign (VEv.bool false)) (nt (sq (sr (lf (tI g.Rows) rfl YU rfl rfl Zo (cO (cS (vc (tv (tI g.Rows) rfl) (vc (VEv.int .i64 2) (vc (VEv.int .i64 6) vn))) (lps rfl) (JH (n+0) g.Rows 2 6) rfl rfl) (fO (ZL (tv (tB (decide (2≤g.Rows∧g.Rows≤6))) rfl)) (mO (tB (!(decide (2≤g.Rows∧g.Rows≤6)))) rfl ?_)))))))))
 refine gn (2≤g.Rows∧g.Rows≤6) (fun fhg8_1=> ?_) fun fhg8_1=> ?_
 ·refine QY 4 4 false 8 (ny fhg8_1) rfl rfl rfl ?_
  refine fO (OF.pickT (VEv.tmpB rfl (ny fhg8_1)) (VEv.bool true)) (mO (tB true) rfl (QY 9 10 false 14 (b:=true) rfl rfl rfl rfl (fO (OF.pickT (tv (tB true) rfl) (VEv.bool true)) (nt (ct rfl (sr (fO (OF.assign (VEv.bool false)) (nt (rt (tr (vb (b':=false) rfl ?_)))))))))))
  (symm;rw [decide_eq_false_iff_not];rintro ⟨g1,g2,g3,g4⟩;omega)
 refine glf (tI g.Cols) (nz fhg8_1) rfl rfl rfl rfl QV rfl rfl Zo (VRunO.chain (VWant.on rfl rfl (nz fhg8_1)) (cS (vc (tv (tI g.Cols) rfl) (vc (VEv.int .i64 2) (vc (VEv.int .i64 6) vn))) (lps rfl) (JH (n+0) g.Cols 2 6) rfl rfl) (gF (nz fhg8_1) rfl rfl (ZL (tv (tB (decide (2≤g.Cols∧g.Cols≤6))) rfl)) (fO (OF.pickF (VEv.tmpB rfl (nz fhg8_1)) (tv (tB (!(decide (2≤g.Cols∧g.Cols≤6)))) rfl)) (mO (tB (!(decide (2≤g.Cols∧g.Cols≤6)))) rfl ?_))))
 refine gn (2≤g.Cols∧g.Cols≤6) (fun fhg14_2=> ?_) fun fhg14_2=> ?_
 ·refine QY 9 10 false 14 (ny fhg14_2) rfl rfl rfl ?_
  refine fO (OF.pickT (VEv.tmpB rfl (ny fhg14_2)) (VEv.bool true)) (nt (ct rfl (sr (fO (OF.assign (VEv.bool false)) (nt (rt (tr (vb (b':=false) rfl ?_))))))))
  (symm;rw [decide_eq_false_iff_not];rintro ⟨g1,g2,g3,g4⟩;omega)
 refine glf (tS g.Cells) (nz fhg14_2) rfl rfl rfl rfl QC rfl rfl ZX (gL (nz fhg14_2) rfl rfl (B.lenS (tv (tS g.Cells) rfl) U9) (glf (tI g.Rows) (nz fhg14_2) rfl rfl rfl rfl YU rfl rfl Zo (glf (tI g.Cols) (nz fhg14_2) rfl rfl rfl rfl QV rfl rfl Zo (gF (nz fhg14_2) rfl rfl (B.mul (n:=(g.Rows*g.Cols)) (tv (tI g.Rows) rfl) (tv (tI g.Cols) rfl) (by (refine QjQ ?_ ?_ ?_ ?_<;>omega))) (gF (nz fhg14_2) rfl rfl (xne (tv (tN g.Cells.size) rfl) (tv (tI (g.Rows*g.Cols)) rfl)) (fO (OF.pickF (VEv.tmpB rfl (nz fhg14_2)) (tv (tB (!(decide (((g.Cells.size:Nat):Int)=(g.Rows*g.Cols))))) rfl)) (nt ?_)))))))
 refine cn (((g.Cells.size:Nat):Int)=(g.Rows*g.Cols)) rfl (fun fhc0=> ?_) fun fhc0=> ?_
 ·refine sr ?_
  refine fO (OF.assign (VEv.bool false)) (nt (rt (tr (vb (b':=false) rfl ?_))))
  (symm;rw [decide_eq_false_iff_not];rintro ⟨g1,g2,g3,g4⟩;omega)
 refine sk (tn (sq (sr (lf (tS g.Cells) rfl QC rfl rfl ZX (lO (B.lenS (tv (tS g.Cells) rfl) U9) (fO (OF.move (VEv.int .i64 0)) (nt (VRun.block ?_))))))))
 refine VRun.loop (A:=Nat) (fun s_=> [(1,(T.op 0 0)),(27,(tN g.Cells.size)),(28,(tN s_))]) (fun s_=>Q4 [(0,(Obj.cells (Qa false g)))]) 1 (fun s_=>s_≤g.Cells.size∧∀j,j<s_→gOk g.Cells j) (fun s_=>g.Cells.size - s_) (0:Nat) ?_ (Wk.mk (fun k=>k) ?_ ?_ ?_) ?_
 ·exact ⟨Nat.zero_le _,fun j hj=>by omega⟩
 ·exact (b2 (b2 (b2 bn)))
 ·exact (b3 bn)
 ·exact nd rfl
 rintro i (hI':i≤g.Cells.size∧∀j,j<i→gOk g.Cells j)
 show VRun _ _ _ [(1,(T.op 0 0)),(27,(tN g.Cells.size)),(28,(tN i))] (Q4 [(0,(Obj.cells (Qa false g)))]) 1 _
 have hI1:=hI'.1
 refine sr (fO (Zx (tv (tN i) rfl) (tv (tN g.Cells.size) rfl)) (nt (sq ?_)))
 refine cd (i<g.Cells.size) rfl (fun fhc1=> ?_) fun fhc1=> ?_
 ·refine sk ?_
  refine tn (sq (VRun.block (sr (mO (tN i) rfl (aO (tN i) rfl (nt (sr (lf (tS g.Cells) rfl QC rfl rfl ZX (mO (tN i) rfl ?_)))))))))
  have hb3:i<g.Cells.size:=(by omega)
  refine fO (xix (tv (tS g.Cells) rfl) (tv (tN i) rfl) hb3 U9) (fO (xne (tv (T.int .u8 (QK g.Cells i)) rfl) (VEv.int .u8 35)) (mO (tB (!(decide (QK g.Cells i=35)))) rfl ?_))
  refine gn (QK g.Cells i=35) (fun fhg36_4=> ?_) fun fhg36_4=> ?_
  ·refine glf (tS g.Cells) (ny fhg36_4) rfl rfl rfl rfl QC rfl rfl ZX ?_
   refine gF (ny fhg36_4) rfl rfl (OF.move (tv (tN i) rfl)) ?_
   have hb5:i<g.Cells.size:=(by omega)
   refine gF (ny fhg36_4) rfl rfl (xix (tv (tS g.Cells) rfl) (tv (tN i) rfl) hb5 U9) (gF (ny fhg36_4) rfl rfl (xne (tv (T.int .u8 (QK g.Cells i)) rfl) (VEv.int .u8 46)) (fO (OF.pickT (VEv.tmpB rfl (ny fhg36_4)) (tv (tB (!(decide (QK g.Cells i=46)))) rfl)) (nt ?_)))
   refine cn (QK g.Cells i=46) rfl (fun fhc2=> ?_) fun fhc2=> ?_
   ·refine sr ?_
    refine fO (OF.assign (VEv.bool false)) (nt (rt (vinB.r (tr (tr (vinB.r (tr (vb (b':=false) rfl ?_))))))))
    (symm;rw [decide_eq_false_iff_not];rintro ⟨g1,g2,g3,g4⟩;(have:=g4 i fhc1;unfold gOk at this;omega))
   refine sk (vinB.n (tn (VRun.region (fO (QF (tv (tN i) rfl) (VEv.int .i64 1) (by omega)) (mO (tN (i+1)) rfl (VRunO.nil (tn ?_)))))))
   refine ⟨(i+1:Nat),?_,?_,Wk.mk (fun k=>k) ?_ ?_ ?_⟩
   ·refine Yh hI' fhc1 ?_;unfold gOk;omega
   ·omega
   ·exact (b2 (b2 (b2 bn)))
   ·exact (b3 bn)
   ·exact nd rfl
  refine QY 5 5 true 36 (nz fhg36_4) rfl rfl rfl (fO (OF.pickF (VEv.tmpB rfl (nz fhg36_4)) (VEv.bool false)) (nt (cf rfl (sk (vinB.n (tn (VRun.region (fO (QF (tv (tN i) rfl) (VEv.int .i64 1) (by omega)) (mO (tN (i+1)) rfl (VRunO.nil (tn ?_)))))))))))
  refine ⟨(i+1:Nat),?_,?_,Wk.mk (fun k=>k) ?_ ?_ ?_⟩
  ·refine Yh hI' fhc1 ?_;unfold gOk;omega
  ·omega
  ·exact (b2 (b2 (b2 bn)))
  ·exact (b3 bn)
  ·exact nd rfl
 refine VRun.exit (vthn.e (vthn.e (vinB.e (tn (sr (fO (OF.assign (VEv.bool true)) (nt (rt (vb (b':=true) rfl ?_)))))))))
 (symm;rw [decide_eq_true_eq];refine ⟨?_,?_,?_,Qfl hI' fhc1⟩<;>assumption)
noncomputable section
def Q8 (s:ByteArray):Nat→ByteArray
 | 0=>⟨#[]⟩
 | i+1=>s.extract i (i+1)++Q8 s i
def back (s:ByteArray):ByteArray:=if s.size≤100 then Q8 s s.size else ⟨#[]⟩
theorem Qbu {s:ByteArray}:∀ {i:Nat},i≤s.size→(Q8 s i).size=i
 | 0,_=>rfl
 | i+1,h=>by
  simp only [Q8,ByteArray.size_append,ByteArray.size_extract,Qbu (show i≤s.size by omega)]
  omega
theorem Qe1 {s:ByteArray} {i:Nat} (h1:i≤s.size) (h2:s.size≤100∨i=0) (h3:¬i<s.size∨¬s.size≤100):Q8 s i=back s:=by
 unfold back
 split
 ·rw [show i=s.size by omega]
 ·rw [show i=0 by omega];rfl
def ZY (g:D.Grid):D.Grid:=if gridOk g then D.Grid.mk g.Rows g.Cols (back g.Cells) else D.Grid.mk 0 0 ByteArray.empty
def QbS (g:D.Grid):Prop:=gridOk g∧D.Grid.mk g.Rows g.Cols (back g.Cells)=g
instance (g:D.Grid):Decidable (QbS g):=Classical.propDecidable _
theorem Qbk {g:D.Grid} (h:gridOk g):ZY g=g↔QbS g:=by
 unfold ZY QbS
 rw [if_pos h]
 exact ⟨fun e=>⟨h,e⟩,fun e=>e.2⟩
end
theorem Qbs (n:Nat) (s:ByteArray) (hc:s.size≤maxLen):Pure (Qw Tryd.prog (n+1)) 117 [(tS s)] (tS (back s)):=by
 refine Pure.intro (rs:= [ResultVar.tmp 2]) Tryd.func117 rfl rfl rfl (E0:= [(0,(tS s))]) rfl ?_
 obtain ⟨hlim,hmx,hmax⟩:=QR
 refine sr (fO (OF.assign (VEv.str (⟨#[]⟩:ByteArray))) (nt (sr (fO (OF.assign (VEv.str (⟨#[]⟩:ByteArray))) (nt (sq (sr (fO (OF.assign (VEv.int .i64 0)) (nt (VRun.block ?_))))))))))
 refine VRun.loop (A:=Nat) (fun s_=> [(0,(tS s)),(2,(tS (⟨#[]⟩:ByteArray))),(3,(tS (Q8 s s_))),(4,(tN s_))]) (fun s_=>Q4 []) 0 (fun s_=>s_≤s.size∧(s.size≤100∨s_=0)) (fun s_=>s.size - s_) (0:Nat) ?_ (Wk.mk (fun k=>k) ?_ ?_ ?_) ?_
 ·exact ⟨Nat.zero_le _, .inr rfl⟩
 ·exact (b2 (b2 (bc ⟨(congrArg T.str (show (⟨#[]⟩:ByteArray)=Q8 s 0 from (by rfl))),rfl⟩ (b2 bn))))
 ·exact bn
 ·exact nd rfl
 rintro i (hI':i≤s.size∧(s.size≤100∨i=0))
 show VRun _ _ _ [(0,(tS s)),(2,(tS (⟨#[]⟩:ByteArray))),(3,(tS (Q8 s i))),(4,(tN i))] (Q4 []) 0 _
 have hI1:=hI'.1
 have hbs:=Qbu hI1
 refine sq (sr (mO (tN i) rfl (mO (tS s) rfl (lO (B.lenS (tv (tS s) rfl) U9) (fO (Zx (tv (tN i) rfl) (tv (tN s.size) rfl)) (mO (tB (decide (i<s.size))) rfl ?_))))))
 refine gw (i<s.size) (fun fhg9_1=> ?_) fun fhg9_1=> ?_
 ·refine gF (dy fhg9_1) rfl rfl (OF.move (tv (tS s) rfl)) ?_
  refine gL (dy fhg9_1) rfl rfl (B.lenS (tv (tS s) rfl) U9) (gF (dy fhg9_1) rfl rfl (B.leq (c:=(decide (s.size≤100))) (tv (tN s.size) rfl) (VEv.int .i64 100) (by exact Zb (by omega))) (fO (OF.pickT (VEv.tmpB rfl (dy fhg9_1)) (tv (tB (decide (s.size≤100))) rfl)) (nt ?_)))
  refine cd (s.size≤100) rfl (fun fhc0=> ?_) fun fhc0=> ?_
  ·refine sk ?_
   refine tn (sq (VRun.block (VRun.region (mO (tS s) rfl (mO (tN i) rfl (mO (tN i) rfl (fO (QF (tv (tN i) rfl) (VEv.int .i64 1) (by omega)) (lO (OL.sliceS (i:=i) (j:=(i+1)) (tv (tS s) rfl) (tv (tN i) rfl) (tv (tN (i+1)) rfl) rfl rfl (by omega) (by omega) U9) (mO (tS (Q8 s i)) rfl (fO (B.sadd (tv (tS (s.extract i (i+1))) rfl) (tv (tS (Q8 s i)) rfl) (by (simp only [ByteArray.size_extract];omega))) (aO (tS ((s.extract i (i+1))++Q8 s i)) rfl ?_)))))))))))
   refine VRunO.nil (vinB.n (tn (VRun.region (mO (tN i) rfl (fO (QF (tv (tN i) rfl) (VEv.int .i64 1) (by omega)) (aO (tN (i+1)) rfl (VRunO.nil (tn ?_))))))))
   refine ⟨(i+1:Nat),?_,?_,Wk.mk (fun k=>k) ?_ ?_ ?_⟩
   ·exact ⟨by omega, .inl (by omega)⟩
   ·omega
   ·exact (b2 (b2 (bc ⟨(congrArg T.str (show ((s.extract i (i+1))++Q8 s i)=Q8 s (i+1) from (by rfl))),rfl⟩ (b2 bn))))
   ·exact bn
   ·exact nd rfl
  refine VRun.exit (vthn.e (vthn.e (vinB.e (tn (sr (mO (tS (Q8 s i)) rfl (aO (tS (Q8 s i)) rfl (nt (rt ?_)))))))))
  refine vfin.eq (r':=(tS (Q8 s i))) ?_ (vfin.r (VRes.tmp (t:=(tS (Q8 s i))) rfl VRes.nil) (Give.str _))
  refine congrArg T.str ?_
  refine Qe1 hI1 hI'.2 ?_;omega
 refine QY 3 4 true 9 (dz fhg9_1) rfl rfl rfl (fO (OF.pickF (VEv.tmpB rfl (dz fhg9_1)) (VEv.bool false)) (nt (cf rfl (VRun.exit (vthn.e (vthn.e (vinB.e (tn (sr (mO (tS (Q8 s i)) rfl (aO (tS (Q8 s i)) rfl ?_)))))))))))
 refine nt (rt ?_)
 refine vfin.eq (r':=(tS (Q8 s i))) ?_ (vfin.r (VRes.tmp (t:=(tS (Q8 s i))) rfl VRes.nil) (Give.str _))
 refine congrArg T.str ?_
 refine Qe1 hI1 hI'.2 ?_;omega
theorem QbU (n:Nat) (g:D.Grid) (hc:g.Cells.size≤maxLen):Pure (Qw Tryd.prog (n+3)) 96 [(T.agg (Qa false g))] (T.agg (Qa true (ZY g))):=by
 refine Pure.intro (rs:= [ResultVar.cell 2 28]) Tryd.func96 rfl rfl rfl (E0:= [(0,(T.agg (Qa false g)))]) rfl ?_
 obtain ⟨hlim,hmx,hmax⟩:=QR
 refine sr (kO (B.box (ts:=(Qa false g)) (tv (T.agg (Qa false g)) rfl) nofun rfl) (kO (B.alloc (t:=(T.agg [(tN 0),(tN 0),(tS ByteArray.empty)])) (ts:= [(tN 0),(tN 0),(tS ByteArray.empty)]) Qf6 Qir nofun (fun _=> .agg _ _ rfl (Y5 (RL.cons (.int _ _) (RL.cons (.int _ _) (RL.cons (.str _) (RL.nil _)))))) rfl) (nt (sq (sr (lO (OL.loadOn (us:=(Qa false g)) (tv (T.op 0 0) rfl) rfl QO QM (lb rfl) rfl) (cO (cS (vc (tv (T.agg (Qa false g)) rfl) vn) (LendL.cons (lg Qq) ln) (Zi (n+0) g (by assumption)) rfl rfl) (fO (ZL (tv (tB (decide (gridOk g))) rfl)) (nt ?_)))))))))
 refine cn (gridOk g) rfl (fun fhc0=> ?_) fun fhc0=> ?_
 ·refine sr ?_
  refine fO (OF.build (l:= []) (zs:= [(tN 0),(tN 0),(tS ByteArray.empty)]) (out:= [(tN 0),(tN 0),(tS ByteArray.empty)]) VEvp.nil bn Tryd.underlying28 Qf6 (fun _=>RL.cons (.int _ _) (RL.cons (.int _ _) (RL.cons (.str _) (RL.nil _)))) (by kernel_rfl) (by kernel_rfl)) (cO (B.storeW (us:= [(tN 0),(tN 0),(tS ByteArray.empty)]) (tv (T.op 1 0) rfl) (tv (T.agg [(tN 0),(tN 0),(tS ByteArray.empty)]) rfl) nofun rfl rfl rfl Qgb QM (bc rfl (bc rfl (bc rfl bn)))) (nt (rt (tr ?_))))
  refine vfin.eq (r':=(T.agg [(tN 0),(tN 0),(tS ByteArray.empty)])) ?_ (vfin.r (VRes.celln (ws:= [(tN 0),(tN 0),(tS ByteArray.empty)]) rfl rfl QO QM (lb rfl) rfl VRes.nil) (Give.agg (GiveL.cons (Give.int _ _) (GiveL.cons (Give.int _ _) (GiveL.cons (Give.str _) GiveL.nil (by decide)) (by decide)) (by decide))))
  (rw [ZY,if_neg fhc0];rfl)
 refine sk (tn (sr (lf (tS g.Cells) rfl QC rfl rfl ZX (cO (cS (vc (tv (tS g.Cells) rfl) vn) (lps rfl) (Qbs (n+1) g.Cells (by assumption)) rfl rfl) (fO (OF.fieldAddrO (tv (T.op 0 0) rfl) QC) (cO (B.storeO (us:= [(tS (back g.Cells))]) (ws:= [(tI g.Rows),(tI g.Cols),(tS (back g.Cells))]) (tv (T.op 0 2) rfl) (tv (tS (back g.Cells)) rfl) nofun rfl rfl (lb rfl) if9 sz9 (bc rfl bn) rfl) (nt (sr (lO (OL.loadOn (us:= [(tI g.Rows),(tI g.Cols),(tS (back g.Cells))]) (tv (T.op 0 0) rfl) rfl QO QM (lb rfl) rfl) (cO (B.storeW (us:= [(tI g.Rows),(tI g.Cols),(tS (back g.Cells))]) (tv (T.op 1 0) rfl) (tv (T.agg [(tI g.Rows),(tI g.Cols),(tS (back g.Cells))]) rfl) nofun rfl rfl rfl Qgb QM (bc rfl (bc rfl (bc rfl bn)))) (nt ?_)))))))))))
 refine rt ?_
 refine vfin.eq (r':=(T.agg [(tI g.Rows),(tI g.Cols),(tS (back g.Cells))])) ?_ (vfin.r (VRes.celln (ws:= [(tI g.Rows),(tI g.Cols),(tS (back g.Cells))]) rfl rfl QO QM (lb rfl) rfl VRes.nil) (Give.agg (GiveL.cons (Give.int _ _) (GiveL.cons (Give.int _ _) (GiveL.cons (Give.str _) GiveL.nil (by decide)) (by decide)) (by decide))))
 (rw [ZY,if_pos fhc0];rfl)
theorem Qak (n:Nat) (g:D.Grid) (hc:g.Cells.size≤maxLen):Pure (Qw Tryd.prog (n+4)) 70 [(T.agg (Qa false g))] (tB (decide (QbS g))):=by
 refine Pure.intro (rs:= [ResultVar.tmp 2]) Tryd.func70 rfl rfl rfl (E0:= [(0,(T.agg (Qa false g)))]) rfl ?_
 obtain ⟨hlim,hmx,hmax⟩:=QR
 refine sr (kO (B.box (ts:=(Qa false g)) (tv (T.agg (Qa false g)) rfl) nofun rfl) (fO (OF.assign (VEv.bool false)) (nt (sq (VRun.draw (B:= [[],[0],[0,1],[1,0,2],[2,0,1,3],[1,0,2],[5,3,1,0,2,4],[4,3,5,6,1,0,2],[2,0,1,6,5,3,4,7]]) (by kernel_rfl) (by kernel_rfl) (lD (OL.loadOn (us:=(Qa false g)) (tv (T.op 0 0) rfl) rfl QO QM (lb rfl) rfl) rfl rfl (VRunD.quiet (bi:= [0]) rfl VWant.always rfl rfl rfl bn (cS (vc (tv (T.agg (Qa false g)) rfl) vn) (LendL.cons (lg Qq) ln) (Zi (n+1) g (by assumption)) rfl rfl) (mD (tB (decide (gridOk g))) rfl rfl ?_))))))))
 refine gw (gridOk g) (fun fhg5_1=> ?_) fun fhg5_1=> ?_
 ·refine VRunD.look rfl (VWant.on rfl rfl (dy fhg5_1)) rfl (OL.loadOn (us:=(Qa false g)) (tv (T.op 0 0) rfl) rfl QO QM (lb rfl) rfl) ?_
  refine VRunD.quiet (bi:= [2,0,1,3]) rfl (VWant.on rfl rfl (dy fhg5_1)) rfl rfl rfl bn (cS (vc (tv (T.agg (Qa false g)) rfl) vn) (LendL.cons (lg Qq) ln) (QbU (n+0) g (by assumption)) rfl rfl) (VRunD.look rfl (VWant.on rfl rfl (dy fhg5_1)) rfl (OL.loadOn (us:=(Qa false g)) (tv (T.op 0 0) rfl) rfl QO QM (lb rfl) rfl) (VRunD.free rfl (VWant.on rfl rfl (dy fhg5_1)) rfl (B.eql28 (a:=ZY g) (b:=g) (m:=true) (m':=false) (tv (T.agg (Qa true (ZY g))) rfl) (tv (T.agg (Qa false g)) rfl)) (fD (OF.pickT (VEv.tmpB rfl (dy fhg5_1)) (tv (tB (decide (ZY g=g))) rfl)) rfl rfl (fD (OF.assign (tv (tB (decide (ZY g=g))) rfl)) rfl rfl (VRunD.nil (tn (rt (vb (b':=(decide (ZY g=g))) rfl ?_))))))))
  (refine Zb ?_;refine Qbk ?_;assumption)
 refine oD rfl rfl (dz fhg5_1) rfl (oD rfl rfl (dz fhg5_1) rfl (oD rfl rfl (dz fhg5_1) rfl (oD rfl rfl (dz fhg5_1) rfl (fD (OF.pickF (VEv.tmpB rfl (dz fhg5_1)) (VEv.bool false)) rfl rfl (fD (OF.assign (tv (tB false) rfl)) rfl rfl (VRunD.nil (tn (rt (vb (b':=false) rfl ?_)))))))))
 (symm;rw [decide_eq_false_iff_not];intro h;have:=h.1;contradiction)
noncomputable section
theorem QdO (l:List Int):(ZZ l).data.toList=l.map fun n=>UInt8.ofNat n.toNat:=by
 have h:∀(l:List Int) (r:ByteArray),(l.foldl (fun r n=>r.push (UInt8.ofNat n.toNat)) r).data.toList=r.data.toList++l.map fun n=>UInt8.ofNat n.toNat:=by
  intro l
  induction l with
  | nil=>intro r;simp
  | cons n l ih=>intro r;rw [List.foldl_cons,ih];simp [ByteArray.push]
 simpa [ZZ] using h l ByteArray.empty
theorem Qdi {a b:ByteArray} (h:a.data.toList=b.data.toList):a=b:=by
 cases a;cases b
 simp only at h
 congr 1
 exact Array.toList_inj.1 h
theorem QgT (s:ByteArray):(bys s).map (fun n=>UInt8.ofNat n.toNat)=s.data.toList:=by
 simp [bys,Function.comp_def]
theorem QbB {s:ByteArray}:∀ {i:Nat},i≤s.size→(Q8 s i).data.toList=(s.data.toList.take i).reverse
 | 0,_=>rfl
 | i+1,h=>by
  have hi:i<s.data.toList.length:=by rw [Array.length_toList];exact h
  rw [Q8,ByteArray.data_append,Array.toList_append,QbB (show i≤s.size by omega),List.take_add_one,List.getElem?_eq_getElem hi,List.reverse_append]
  congr 1
  rw [ByteArray.data_extract,Array.toList_extract,List.extract_eq_take_drop]
  simp [List.drop_eq_getElem_cons hi]
theorem Qhv {s:ByteArray} (h:s.size≤100):ZZ (bys s).reverse=back s:=by
 unfold back
 rw [if_pos h]
 refine Qdi ?_
 rw [QdO,List.map_reverse,QgT,QbB (Nat.le_refl _),List.take_of_length_le (by rw [Array.length_toList];exact Nat.le_refl _)]
theorem QhM {s:ByteArray} (h:100<s.size):back s=⟨#[]⟩:=by
 unfold back
 rw [if_neg (by omega)]
end
theorem QaV (n:Nat) (s:ByteArray) (hc:s.size≤maxLen):Pure (Qw Tryd.prog (n+2)) 121 [(tS s)] (tS (back s)):=by
 refine Pure.intro (rs:= [ResultVar.tmp 2]) Tryd.func121 rfl rfl rfl (E0:= [(0,(tS s))]) rfl ?_
 obtain ⟨hlim,hmx,hmax⟩:=QR
 refine sr (fO (OF.assign (VEv.str (⟨#[]⟩:ByteArray))) (nt (sq (sr (mO (tS s) rfl (lO (B.lenS (tv (tS s) rfl) U9) (fO (B.gtr (c:=(decide (100<s.size))) (tv (tN s.size) rfl) (VEv.int .i64 100) (by exact Zb (by omega))) (nt ?_))))))))
 refine cd (100<s.size) rfl (fun fhc0=> ?_) fun fhc0=> ?_
 ·refine sr ?_
  refine fO (OF.assign (VEv.str (⟨#[]⟩:ByteArray))) (nt (rt (tr ?_)))
  refine vfin.eq (r':=(tS (⟨#[]⟩:ByteArray))) ?_ (vfin.r (VRes.tmp (t:=(tS (⟨#[]⟩:ByteArray))) rfl VRes.nil) (Give.str _))
  refine congrArg T.str ?_
  exact (QhM fhc0).symm
 refine sk (tn (sr (mO (tS s) rfl (kO (B.convSB (tv (tS s) rfl) U9 U88 U5) (aO (T.os 1 0 0 (((bys s).map (QP true)).length)) rfl (nt (sr (mO (T.os 1 0 0 (((bys s).map (QP true)).length)) rfl (cO (OC.callMut (rows:=((bys s).map (QP true))) (rows':=(((bys s).reverse).map (QP true))) rfl (vc (tv (T.os 1 0 0 (((bys s).map (QP true)).length)) rfl) vn) rfl rfl bn (ZG (fun _=>rfl) _) (ZG (fun _=>rfl) _) (Yc (n+0) (bys s) (by (rw [QfN];omega)))) (nt (sr ?_)))))))))))
 refine mO (T.os 1 0 0 (((bys s).map (QP true)).length)) rfl (lO (B.convBS (l:=(bys s).reverse) (tv (T.os 1 0 0 (((bys s).map (QP true)).length)) rfl) rfl (by simp only [List.length_map,List.length_reverse,List.length_set]) U88 U5 U9) (aO (tS (ZZ ((bys s).reverse))) rfl (nt (rt ?_))))
 refine vfin.eq (r':=(tS (ZZ ((bys s).reverse)))) ?_ (vfin.r (VRes.tmp (t:=(tS (ZZ ((bys s).reverse)))) rfl VRes.nil) (Give.str _))
 refine congrArg T.str ?_
 refine Qhv ?_;omega
theorem QbM (n:Nat) (g:D.Grid) (hc:g.Cells.size≤maxLen):Pure (Qw Tryd.prog (n+3)) 101 [(T.agg (Qa false g))] (T.agg (Qa true (ZY g))):=by
 refine Pure.intro (rs:= [ResultVar.cell 2 28]) Tryd.func101 rfl rfl rfl (E0:= [(0,(T.agg (Qa false g)))]) rfl ?_
 obtain ⟨hlim,hmx,hmax⟩:=QR
 refine sr (kO (B.box (ts:=(Qa false g)) (tv (T.agg (Qa false g)) rfl) nofun rfl) (kO (B.alloc (t:=(T.agg [(tN 0),(tN 0),(tS ByteArray.empty)])) (ts:= [(tN 0),(tN 0),(tS ByteArray.empty)]) Qf6 Qir nofun (fun _=> .agg _ _ rfl (Y5 (RL.cons (.int _ _) (RL.cons (.int _ _) (RL.cons (.str _) (RL.nil _)))))) rfl) (nt (sq (sr (lO (OL.loadOn (us:=(Qa false g)) (tv (T.op 0 0) rfl) rfl QO QM (lb rfl) rfl) (cO (cS (vc (tv (T.agg (Qa false g)) rfl) vn) (LendL.cons (lg Qq) ln) (Zw (n+0) g (by assumption)) rfl rfl) (fO (ZL (tv (tB (decide (gridOk g))) rfl)) (nt ?_)))))))))
 refine cn (gridOk g) rfl (fun fhc0=> ?_) fun fhc0=> ?_
 ·refine sr ?_
  refine fO (OF.build (l:= []) (zs:= [(tN 0),(tN 0),(tS ByteArray.empty)]) (out:= [(tN 0),(tN 0),(tS ByteArray.empty)]) VEvp.nil bn Tryd.underlying28 Qf6 (fun _=>RL.cons (.int _ _) (RL.cons (.int _ _) (RL.cons (.str _) (RL.nil _)))) (by kernel_rfl) (by kernel_rfl)) (cO (B.storeW (us:= [(tN 0),(tN 0),(tS ByteArray.empty)]) (tv (T.op 1 0) rfl) (tv (T.agg [(tN 0),(tN 0),(tS ByteArray.empty)]) rfl) nofun rfl rfl rfl Qgb QM (bc rfl (bc rfl (bc rfl bn)))) (nt (rt (tr ?_))))
  refine vfin.eq (r':=(T.agg [(tN 0),(tN 0),(tS ByteArray.empty)])) ?_ (vfin.r (VRes.celln (ws:= [(tN 0),(tN 0),(tS ByteArray.empty)]) rfl rfl QO QM (lb rfl) rfl VRes.nil) (Give.agg (GiveL.cons (Give.int _ _) (GiveL.cons (Give.int _ _) (GiveL.cons (Give.str _) GiveL.nil (by decide)) (by decide)) (by decide))))
  (rw [ZY,if_neg fhc0];rfl)
 refine sk (tn (sr (lf (tS g.Cells) rfl QC rfl rfl ZX (cO (cS (vc (tv (tS g.Cells) rfl) vn) (lps rfl) (QaV (n+0) g.Cells (by assumption)) rfl rfl) (fO (OF.fieldAddrO (tv (T.op 0 0) rfl) QC) (cO (B.storeO (us:= [(tS (back g.Cells))]) (ws:= [(tI g.Rows),(tI g.Cols),(tS (back g.Cells))]) (tv (T.op 0 2) rfl) (tv (tS (back g.Cells)) rfl) nofun rfl rfl (lb rfl) if9 sz9 (bc rfl bn) rfl) (nt (sr (lO (OL.loadOn (us:= [(tI g.Rows),(tI g.Cols),(tS (back g.Cells))]) (tv (T.op 0 0) rfl) rfl QO QM (lb rfl) rfl) (cO (B.storeW (us:= [(tI g.Rows),(tI g.Cols),(tS (back g.Cells))]) (tv (T.op 1 0) rfl) (tv (T.agg [(tI g.Rows),(tI g.Cols),(tS (back g.Cells))]) rfl) nofun rfl rfl rfl Qgb QM (bc rfl (bc rfl (bc rfl bn)))) (nt ?_)))))))))))
 refine rt ?_
 refine vfin.eq (r':=(T.agg [(tI g.Rows),(tI g.Cols),(tS (back g.Cells))])) ?_ (vfin.r (VRes.celln (ws:= [(tI g.Rows),(tI g.Cols),(tS (back g.Cells))]) rfl rfl QO QM (lb rfl) rfl VRes.nil) (Give.agg (GiveL.cons (Give.int _ _) (GiveL.cons (Give.int _ _) (GiveL.cons (Give.str _) GiveL.nil (by decide)) (by decide)) (by decide))))
 (rw [ZY,if_pos fhc0];rfl)
theorem Qac (n:Nat) (g:D.Grid) (hc:g.Cells.size≤maxLen):Pure (Qw Tryd.prog (n+4)) 76 [(T.agg (Qa false g))] (tB (decide (QbS g))):=by
 refine Pure.intro (rs:= [ResultVar.tmp 2]) Tryd.func76 rfl rfl rfl (E0:= [(0,(T.agg (Qa false g)))]) rfl ?_
 obtain ⟨hlim,hmx,hmax⟩:=QR
 refine sr (kO (B.box (ts:=(Qa false g)) (tv (T.agg (Qa false g)) rfl) nofun rfl) (fO (OF.assign (VEv.bool false)) (nt (sq (VRun.draw (B:= [[],[0],[0,1],[1,0,2],[1,0,2],[2,0,1,4],[4,5,2,0,1,3],[3,5,4,6,1,0,2],[2,0,1,6,4,5,3,7]]) (by kernel_rfl) (by kernel_rfl) (lD (OL.loadOn (us:=(Qa false g)) (tv (T.op 0 0) rfl) rfl QO QM (lb rfl) rfl) rfl rfl (VRunD.quiet (bi:= [0]) rfl VWant.always rfl rfl rfl bn (cS (vc (tv (T.agg (Qa false g)) rfl) vn) (LendL.cons (lg Qq) ln) (Zw (n+1) g (by assumption)) rfl rfl) (mD (tB (decide (gridOk g))) rfl rfl ?_))))))))
 refine gw (gridOk g) (fun fhg5_1=> ?_) fun fhg5_1=> ?_
 ·refine VRunD.look rfl (VWant.on rfl rfl (dy fhg5_1)) rfl (OL.loadOn (us:=(Qa false g)) (tv (T.op 0 0) rfl) rfl QO QM (lb rfl) rfl) ?_
  refine VRunD.look rfl (VWant.on rfl rfl (dy fhg5_1)) rfl (OL.loadOn (us:=(Qa false g)) (tv (T.op 0 0) rfl) rfl QO QM (lb rfl) rfl) (VRunD.quiet (bi:= [2,0,1,4]) rfl (VWant.on rfl rfl (dy fhg5_1)) rfl rfl rfl bn (cS (vc (tv (T.agg (Qa false g)) rfl) vn) (LendL.cons (lg Qq) ln) (QbM (n+0) g (by assumption)) rfl rfl) (VRunD.free rfl (VWant.on rfl rfl (dy fhg5_1)) rfl (B.eql28 (a:=g) (b:=ZY g) (m:=false) (m':=true) (tv (T.agg (Qa false g)) rfl) (tv (T.agg (Qa true (ZY g))) rfl)) (fD (OF.pickT (VEv.tmpB rfl (dy fhg5_1)) (tv (tB (decide (g=ZY g))) rfl)) rfl rfl (fD (OF.assign (tv (tB (decide (g=ZY g))) rfl)) rfl rfl (VRunD.nil (tn (rt (vb (b':=(decide (g=ZY g))) rfl ?_))))))))
  (refine Zb ⟨fun e=> ?_,fun e=> ?_⟩<;>first | exact (Qbk ‹_›).1 e.symm | exact ((Qbk ‹_›).2 e).symm)
 refine oD rfl rfl (dz fhg5_1) rfl (oD rfl rfl (dz fhg5_1) rfl (oD rfl rfl (dz fhg5_1) rfl (oD rfl rfl (dz fhg5_1) rfl (fD (OF.pickF (VEv.tmpB rfl (dz fhg5_1)) (VEv.bool false)) rfl rfl (fD (OF.assign (tv (tB false) rfl)) rfl rfl (VRunD.nil (tn (rt (vb (b':=false) rfl ?_)))))))))
 (symm;rw [decide_eq_false_iff_not];intro h;have:=h.1;contradiction)
end Go.Proofs.YthifchndolccgaaDoor.AE
namespace Go.Proofs.YthifchndolccgaaDoor.AE
open Go Go.RowKit
set_option linter.unusedVariables false
set_option linter.unusedSimpArgs false
set_option maxRecDepth 20000
set_option maxHeartbeats 2000000
theorem Qct (n:Nat) (g:D.Grid) (c:Int) (hc:g.Cells.size≤maxLen):Pure (Qw Tryd.prog (n+3)) 32 [(T.agg (Qa false g)),(tI c)] (tB (decide (gridOk g∧(0≤c∧c≤((g.Cells.size:Nat):Int) - 1)∧QK g.Cells (Int.toNat c)=46))):=by
 refine Pure.intro (rs:= [ResultVar.tmp 4]) Tryd.func32 rfl rfl rfl (E0:= [(0,(T.agg (Qa false g))),(1,(tI c))]) rfl ?_
 obtain ⟨hlim,hmx,hmax⟩:=QR
 refine sr (kO (B.box (ts:=(Qa false g)) (tv (T.agg (Qa false g)) rfl) nofun rfl) (fO (OF.assign (VEv.bool false)) (nt (sr (lO (OL.loadOn (us:=(Qa false g)) (tv (T.op 0 0) rfl) rfl QO QM (lb rfl) rfl) (cO (cS (vc (tv (T.agg (Qa false g)) rfl) vn) (LendL.cons (lg Qq) ln) (Zi (n+0) g (by assumption)) rfl rfl) (mO (tB (decide (gridOk g))) rfl ?_)))))))
 refine gw (gridOk g) (fun fhg7_1=> ?_) fun fhg7_1=> ?_
 ·refine gF (dy fhg7_1) rfl rfl (OF.move (tv (tI c) rfl)) ?_
  refine glf (tS g.Cells) (dy fhg7_1) rfl rfl rfl rfl QC rfl rfl ZX (gL (dy fhg7_1) rfl rfl (B.lenS (tv (tS g.Cells) rfl) U9) (gF (dy fhg7_1) rfl rfl (B.sub (n:=(((g.Cells.size:Nat):Int) - 1)) (tv (tN g.Cells.size) rfl) (VEv.int .i64 1) (by (rw [Qz (by omega)];done))) (VRunO.chain (VWant.on rfl rfl (dy fhg7_1)) (cS (vc (tv (tI c) rfl) (vc (VEv.int .i64 0) (vc (tv (tI (((g.Cells.size:Nat):Int) - 1)) rfl) vn))) (lps rfl) (YF (n+1) c 0 (((g.Cells.size:Nat):Int) - 1)) rfl rfl) (fO (OF.pickT (VEv.tmpB rfl (dy fhg7_1)) (tv (tB (decide (0≤c∧c≤(((g.Cells.size:Nat):Int) - 1)))) rfl)) (mO (tB (decide (0≤c∧c≤(((g.Cells.size:Nat):Int) - 1)))) rfl ?_)))))
  refine gw (0≤c∧c≤(((g.Cells.size:Nat):Int) - 1)) (fun fhg15_2=> ?_) fun fhg15_2=> ?_
  ·refine glf (tS g.Cells) (dy fhg15_2) rfl rfl rfl rfl QC rfl rfl ZX ?_
   refine gF (dy fhg15_2) rfl rfl (OF.move (tv (tI c) rfl)) ?_
   have hb3:(Int.toNat c)<g.Cells.size:=(by omega)
   refine gF (dy fhg15_2) rfl rfl (B.index (n:=(QK g.Cells (Int.toNat c))) (i:=(Int.toNat c)) (tv (tS g.Cells) rfl) (tv (tI c) rfl) (by omega) hb3 U9 (Ya hb3)) (gF (dy fhg15_2) rfl rfl (xeq (tv (T.int .u8 (QK g.Cells (Int.toNat c))) rfl) (VEv.int .u8 46)) (fO (OF.pickT (VEv.tmpB rfl (dy fhg15_2)) (tv (tB (decide (QK g.Cells (Int.toNat c)=46))) rfl)) (aO (tB (decide (QK g.Cells (Int.toNat c)=46))) rfl (nt (rt (vb (b':=(decide (QK g.Cells (Int.toNat c)=46))) rfl ?_))))))
   (refine Zb ⟨fun h=>⟨?_,?_,h⟩,fun h=>h.2.2⟩<;>assumption)
  refine QY 5 10 true 15 (dz fhg15_2) rfl rfl rfl (fO (OF.pickF (VEv.tmpB rfl (dz fhg15_2)) (VEv.bool false)) (aO (tB false) rfl (nt (rt (vb (b':=false) rfl ?_)))))
  (symm;rw [decide_eq_false_iff_not];rintro ⟨g1,g2,g3⟩;contradiction)
 refine QY 6 2 true 7 (dz fhg7_1) rfl rfl rfl (fO (OF.pickF (VEv.tmpB rfl (dz fhg7_1)) (VEv.bool false)) (mO (tB false) rfl (QY 5 10 true 15 (b:=false) rfl rfl rfl rfl (fO (OF.pickF (tv (tB false) rfl) (VEv.bool false)) (aO (tB false) rfl (nt (rt (vb (b':=false) rfl ?_))))))))
 (symm;rw [decide_eq_false_iff_not];rintro ⟨g1,g2,g3⟩;contradiction)
theorem QdN (n:Nat) (l:List Int) (v:Int) (hl:l.length≤Z7):Pure (Qw Tryd.prog (n+1)) 112 [(rd 1 Ql l),(tI v)] (tB (decide (v∈l))):=by
 refine Pure.intro (rs:= [ResultVar.tmp 4]) Tryd.func112 rfl rfl rfl (E0:= [(0,(rd 1 Ql l)),(1,(tI v))]) rfl ?_
 obtain ⟨hlim,hmx,hmax⟩:=QR
 refine sr (fO (OF.assign (VEv.bool false)) (nt (sq (sr (fO (OF.assign (VEv.int .i64 0)) (nt (VRun.block ?_)))))))
 refine VRun.loop (A:=Nat) (fun s_=> [(0,(rd 1 Ql l)),(1,(tI v)),(5,(tN s_))]) (fun s_=>Q4 []) 0 (fun s_=>NoneTo (fun y=>y=v) l s_) (fun s_=>l.length - s_) (0:Nat) ?_ (Wk.mk (fun k=>k) ?_ ?_ ?_) ?_
 ·exact NoneTo.start _ _
 ·exact (b2 (b2 (b2 bn)))
 ·exact bn
 ·exact nd rfl
 rintro i (hI':NoneTo (fun y=>y=v) l i)
 show VRun _ _ _ [(0,(rd 1 Ql l)),(1,(tI v)),(5,(tN i))] (Q4 []) 0 _
 have hI1:=hI'.1
 refine sq (sr (mO (tN i) rfl (mO (rd 1 Ql l) rfl (lO (B.lenR (m:=l.length) (tv (rd 1 Ql l) rfl) JY (List.length_map ..)) (fO (Zx (tv (tN i) rfl) (tv (tN l.length) rfl)) (nt ?_))))))
 refine cd (i<l.length) rfl (fun fhc0=> ?_) fun fhc0=> ?_
 ·refine sk ?_
  refine tn (sq (VRun.block (sr (mO (rd 1 Ql l) rfl (mO (tN i) rfl ?_)))))
  obtain ⟨x1,hx1⟩:∃x,l[i]? =some x:=⟨_,List.getElem?_eq_getElem (by omega)⟩
  refine fO (OF.indexAddrR (row:=(Ql false x1)) (i:=i) (tv (rd 1 Ql l) rfl) (tv (tN i) rfl) rfl (QA _ hx1) JY YK if3) (lO (OL.loadR1 (t:=(tI x1)) (tv (T.rp [(tI x1)]) rfl) rfl Zo) (mO (tI v) rfl (fO (xeq (tv (tI x1) rfl) (tv (tI v) rfl)) (nt ?_))))
  refine cd (x1=v) rfl (fun fhc1=> ?_) fun fhc1=> ?_
  ·refine sr ?_
   refine fO (OF.assign (VEv.bool true)) (nt (rt (vinB.r (tr (tr (vinB.r (tr (vb (b':=true) rfl ?_))))))))
   symm;rw [decide_eq_true_eq,← fhc1];exact List.mem_of_getElem? hx1
  refine sk (vinB.n (tn (VRun.region (mO (tN i) rfl (fO (QF (tv (tN i) rfl) (VEv.int .i64 1) (by omega)) (aO (tN (i+1)) rfl (VRunO.nil (tn ?_))))))))
  refine ⟨(i+1:Nat),?_,?_,Wk.mk (fun k=>k) ?_ ?_ ?_⟩
  ·exact hI'.next hx1 fhc1
  ·omega
  ·exact (b2 (b2 (b2 bn)))
  ·exact bn
  ·exact nd rfl
 refine VRun.exit (vthn.e (vthn.e (vinB.e (tn (sr (fO (OF.assign (VEv.bool false)) (nt (rt (vb (b':=false) rfl ?_)))))))))
 symm;rw [decide_eq_false_iff_not];intro h;exact hI'.mem fhc0 v h rfl
theorem Y2 (n:Nat) (a:List Int) (b:Int) (ha:a.length≤Z7):Pure (Qw Tryd.prog (n+1)) 143 [(rd 1 Ql a),(tI b)] (tI (ixF (fun y=>b=y) a)):=by
 refine Pure.intro (rs:= [ResultVar.tmp 4]) Tryd.func143 rfl rfl rfl (E0:= [(0,(rd 1 Ql a)),(1,(tI b))]) rfl ?_
 obtain ⟨hlim,hmx,hmax⟩:=QR
 refine sr (fO (OF.assign (VEv.int .i64 0)) (nt (sq (sr (mO (rd 1 Ql a) rfl (lO (B.lenR (m:=a.length) (tv (rd 1 Ql a) rfl) JY (List.length_map ..)) (fO (OF.move (VEv.int .i64 0)) (nt (VRun.block ?_)))))))))
 refine VRun.loop (A:=Nat) (fun s_=> [(0,(rd 1 Ql a)),(1,(tI b)),(7,(tN a.length)),(8,(tN s_))]) (fun s_=>Q4 []) 0 (fun s_=>NoneTo (fun y=>b=y) a s_) (fun s_=>a.length - s_) (0:Nat) ?_ (Wk.mk (fun k=>k) ?_ ?_ ?_) ?_
 ·exact NoneTo.start _ _
 ·exact (b2 (b2 (b2 (b2 bn))))
 ·exact bn
 ·exact nd rfl
 rintro i (hI':NoneTo (fun y=>b=y) a i)
 show VRun _ _ _ [(0,(rd 1 Ql a)),(1,(tI b)),(7,(tN a.length)),(8,(tN i))] (Q4 []) 0 _
 have hI1:=hI'.1
 refine sr (fO (Zx (tv (tN i) rfl) (tv (tN a.length) rfl)) (nt (sq ?_)))
 refine cd (i<a.length) rfl (fun fhc0=> ?_) fun fhc0=> ?_
 ·refine sk ?_
  refine tn (sq (VRun.block (sr (mO (tN i) rfl (aO (tN i) rfl (nt (sr (mO (tI b) rfl (mO (rd 1 Ql a) rfl (mO (tN i) rfl ?_))))))))))
  obtain ⟨x1,hx1⟩:∃x,a[i]? =some x:=⟨_,List.getElem?_eq_getElem (by omega)⟩
  refine fO (OF.indexAddrR (row:=(Ql false x1)) (i:=i) (tv (rd 1 Ql a) rfl) (tv (tN i) rfl) rfl (QA _ hx1) JY YK if3) (lO (OL.loadR1 (t:=(tI x1)) (tv (T.rp [(tI x1)]) rfl) rfl Zo) (fO (xeq (tv (tI b) rfl) (tv (tI x1) rfl)) (nt ?_)))
  refine cd (b=x1) rfl (fun fhc1=> ?_) fun fhc1=> ?_
  ·refine sr ?_
   refine mO (tN i) rfl (aO (tN i) rfl (nt (rt (vinB.r (tr (tr (vinB.r (tr (vi (n':=((i:Nat):Int)) rfl ?_)))))))))
   exact (Qc4 hx1 fhc1 hI'.2).symm
  refine sk (vinB.n (tn (VRun.region (fO (QF (tv (tN i) rfl) (VEv.int .i64 1) (by omega)) (mO (tN (i+1)) rfl (VRunO.nil (tn ?_)))))))
  refine ⟨(i+1:Nat),?_,?_,Wk.mk (fun k=>k) ?_ ?_ ?_⟩
  ·exact hI'.next hx1 fhc1
  ·omega
  ·exact (b2 (b2 (b2 (b2 bn))))
  ·exact bn
  ·exact nd rfl
 refine VRun.exit (vthn.e (vthn.e (vinB.e (tn (sr (fO (OF.assign (VEv.int .i64 (-1))) (nt (rt (vi (n':=(-1)) rfl ?_)))))))))
 exact (QeS (hI'.all fhc0)).symm
theorem Yr (n:Nat) (a:List Int) (b:Int) (ha:a.length≤Z7):Pure (Qw Tryd.prog (n+2)) 135 [(rd 1 Ql a),(tI b)] (tB (decide (b∈a))):=by
 refine Pure.intro (rs:= [ResultVar.tmp 4]) Tryd.func135 rfl rfl rfl (E0:= [(0,(rd 1 Ql a)),(1,(tI b))]) rfl ?_
 obtain ⟨hlim,hmx,hmax⟩:=QR
 refine sr (fO (OF.assign (VEv.bool false)) (nt (sr (mO (rd 1 Ql a) rfl (mO (tI b) rfl (cO (cS (vc (tv (rd 1 Ql a) rfl) (vc (tv (tI b) rfl) vn)) (lps rfl) (Y2 (n+0) a b (by assumption)) rfl rfl) (fO (xge (tv (tI (ixF (fun y=>b=y) a)) rfl) (VEv.int .i64 0)) (aO (tB (decide (0≤ixF (fun y=>b=y) a))) rfl (nt (rt (vb (b':=(decide (0≤ixF (fun y=>b=y) a))) rfl ?_)))))))))))
 refine Zb ?_
 rw [Qhq]
 exact ⟨fun ⟨x,h1,h2⟩=>h2▸h1,fun h=>⟨b,h,rfl⟩⟩
end Go.Proofs.YthifchndolccgaaDoor.AE
namespace Go.Proofs.YthifchndolccgaaDoor.AE
open Go Go.RowKit
set_option linter.unusedVariables false
set_option linter.unusedSimpArgs false
set_option maxRecDepth 20000
set_option maxHeartbeats 2000000
noncomputable section
def Jm (ok:Nat→Prop) [DecidablePred ok]:Nat→Nat→Nat
 | 0,n=>n
 | f+1,n=>if ok n then Jm ok f (n+1) else n
theorem Qdd {ok:Nat→Prop} [DecidablePred ok] {n:Nat} (h:ok n) (hn:n<6):Jm ok (6 - n) n=Jm ok (6 - (n+1)) (n+1):=by
 obtain ⟨k,hk⟩:∃k,6 - n=k+1:=⟨5 - n,by omega⟩
 rw [hk,show 6 - (n+1)=k by omega]
 simp only [Jm,if_pos h]
theorem Qek {ok:Nat→Prop} [DecidablePred ok] {n f:Nat} (h:¬ok n):Jm ok f n=n:=by
 cases f with
 | zero=>rfl
 | succ f=>simp only [Jm,if_neg h]
def slA (g:D.Grid) (cell n:Nat):Prop:=((cell % g.Cols.toNat+n:Nat):Int)<g.Cols∧QK g.Cells (cell+n*1)=46
def slD (g:D.Grid) (cell n:Nat):Prop:=((cell / g.Cols.toNat+n:Nat):Int)<g.Rows∧QK g.Cells (Int.toNat (((cell:Nat):Int)+((n:Nat):Int)*g.Cols))=46
instance (g:D.Grid) (cell:Nat):DecidablePred (slA g cell):=fun _=>Classical.propDecidable _
instance (g:D.Grid) (cell:Nat):DecidablePred (slD g cell):=fun _=>Classical.propDecidable _
def Qeu (g:D.Grid) (cell:Nat):Nat:=if QK g.Cells cell=46∧¬(0<cell % g.Cols.toNat∧QK g.Cells (Int.toNat (((cell:Nat):Int) - 1))=46) then Jm (slA g cell) 6 0 else 0
def Qer (g:D.Grid) (cell:Nat):Nat:=if QK g.Cells cell=46∧¬(0<cell / g.Cols.toNat∧QK g.Cells (Int.toNat (((cell:Nat):Int) - g.Cols))=46) then Jm (slD g cell) 6 0 else 0
def Qk (g:D.Grid) (cell:Nat) (down:Bool):Nat:=if down=true then Qer g cell else Qeu g cell
theorem Qil {c:Nat} {w:Int} (h:2≤w):((c:Nat):Int).tmod w=((c % w.toNat:Nat):Int):=by
 obtain ⟨k,rfl⟩:=Int.eq_ofNat_of_zero_le (show 0≤w by omega)
 rfl
theorem QiV {c:Nat} {w:Int} (h:2≤w) (hc:c≤36):IntKind.i64.wrap (((c:Nat):Int).tdiv w)=((c / w.toNat:Nat):Int):=by
 obtain ⟨k,rfl⟩:=Int.eq_ofNat_of_zero_le (show 0≤w by omega)
 have:c / k≤c:=Nat.div_le_self _ _
 show IntKind.i64.wrap ((c / k:Nat):Int)=((c / k:Nat):Int)
 generalize c / k=q at *
 rw [Qz (by omega)]
theorem QbP {n:Nat} {c:Int} (h:n≤6) (h2:2≤c) (h3:c≤6):0≤((n:Nat):Int)*c∧((n:Nat):Int)*c≤36:=by
 have e1:0≤((n:Nat):Int)*c:=Int.mul_nonneg (by omega) (by omega)
 have e2:((n:Nat):Int)*c≤6*6:=Int.mul_le_mul (by omega) h3 (by omega) (by decide)
 omega
theorem Qdg {n:Nat} {c:Int} (h:n≤6) (h2:2≤c) (h3:c≤6):IntKind.i64.wrap (((n:Nat):Int)*c)=((n:Nat):Int)*c:=by
 have:=QbP h h2 h3
 rw [Qz (by omega)]
theorem QaF {g:D.Grid} {cell:Nat} (hg:gridOk g) (hc:cell<g.Cells.size):(cell % g.Cols.toNat<g.Cols.toNat∧cell / g.Cols.toNat<g.Rows.toNat)∧(0<cell % g.Cols.toNat→1≤cell)∧(0<cell / g.Cols.toNat→g.Cols.toNat≤cell)∧(∀n:Nat,((cell % g.Cols.toNat+n:Nat):Int)<g.Cols→cell+n<g.Cells.size)∧∀n:Nat,((cell / g.Cols.toNat+n:Nat):Int)<g.Rows→((cell:Nat):Int)+((n:Nat):Int)*g.Cols<g.Cells.size:=by
 obtain ⟨⟨a1,a2⟩,⟨b1,b2⟩,hs,_⟩:=hg
 obtain ⟨w,hw⟩:=Int.eq_ofNat_of_zero_le (show 0≤g.Cols by omega)
 obtain ⟨r,hr⟩:=Int.eq_ofNat_of_zero_le (show 0≤g.Rows by omega)
 have hs2:g.Cells.size=r*w:=by rw [hw,hr] at hs;exact_mod_cast hs
 have hw0:0<w:=by omega
 have hwn:g.Cols.toNat=w:=by omega
 have hrn:g.Rows.toNat=r:=by omega
 rw [hwn,hrn]
 have h1:cell % w<w:=Nat.mod_lt _ hw0
 have h2:cell / w<r:=(Nat.div_lt_iff_lt_mul hw0).2 (hs2▸hc)
 have h3:w*(cell / w)+cell % w=cell:=Nat.div_add_mod cell w
 have h4:∀k,k<r→w*k+w≤r*w:=fun k hk=>by
  have:=Nat.mul_le_mul_left w (show k+1≤r from hk)
  rw [Nat.mul_add,Nat.mul_one,Nat.mul_comm w r] at this
  exact this
 refine ⟨⟨h1,h2⟩,fun h=> ?_,fun h=> ?_,fun n hn=> ?_,fun n hn=> ?_⟩
 ·have:=Nat.mod_le cell w;omega
 ·have:=Nat.mul_le_mul_left w (show 1≤cell / w from h)
  rw [Nat.mul_one] at this
  generalize w*(cell / w)=q2 at *
  generalize cell % w=q3 at *
  omega
 ·have:=h4 _ h2
  generalize w*(cell / w)=q2 at *
  generalize cell % w=q3 at *
  omega
 ·have h5:=h4 (cell / w+n) (by omega)
  rw [Nat.mul_add] at h5
  have h6:((n:Nat):Int)*g.Cols=((w*n:Nat):Int):=by rw [hw,Int.mul_comm];rfl
  rw [h6]
  generalize w*n=q at *
  generalize w*(cell / w)=q2 at *
  generalize cell % w=q3 at *
  omega
theorem Qfr {g:D.Grid} {cell:Nat} (h:¬QK g.Cells cell=46∨(0<cell % g.Cols.toNat∧QK g.Cells (Int.toNat (((cell:Nat):Int) - 1))=46)):Qeu g cell=0:=if_neg (by omega)
theorem Qfu {g:D.Grid} {cell:Nat} (h:¬QK g.Cells cell=46∨(0<cell / g.Cols.toNat∧QK g.Cells (Int.toNat (((cell:Nat):Int) - g.Cols))=46)):Qer g cell=0:=if_neg (by omega)
theorem Qga {g:D.Grid} {cell n:Nat} (h:QK g.Cells cell=46∧¬(0<cell % g.Cols.toNat∧QK g.Cells (Int.toNat (((cell:Nat):Int) - 1))=46)) (hr:Jm (slA g cell) 6 0=Jm (slA g cell) (6 - n) n) (hn:¬slA g cell n):Qeu g cell=n:=by
 rw [Qeu,if_pos h,hr,Qek hn]
theorem Qgy {g:D.Grid} {cell n:Nat} (h:QK g.Cells cell=46∧¬(0<cell / g.Cols.toNat∧QK g.Cells (Int.toNat (((cell:Nat):Int) - g.Cols))=46)) (hr:Jm (slD g cell) 6 0=Jm (slD g cell) (6 - n) n) (hn:¬slD g cell n):Qer g cell=n:=by
 rw [Qer,if_pos h,hr,Qek hn]
theorem zD {g:D.Grid} {cell:Nat} {down:Bool} (hd:down=true) (h:¬QK g.Cells cell=46∨(0<cell / g.Cols.toNat∧QK g.Cells (Int.toNat (((cell:Nat):Int) - g.Cols))=46)):(0:Int)=((Qk g cell down:Nat):Int):=by
 rw [Qk,if_pos hd,Qfu h];rfl
theorem zA {g:D.Grid} {cell:Nat} {down:Bool} (hd:down=false) (h:¬QK g.Cells cell=46∨(0<cell % g.Cols.toNat∧QK g.Cells (Int.toNat (((cell:Nat):Int) - 1))=46)):(0:Int)=((Qk g cell down:Nat):Int):=by
 rw [Qk,if_neg (by simp [hd]),Qfr h];rfl
def ZW (g:D.Grid) (cell:Nat) (down:Bool) (n:Nat):Prop:=if down=true then Jm (slD g cell) 6 0=Jm (slD g cell) (6 - n) n else Jm (slA g cell) 6 0=Jm (slA g cell) (6 - n) n
theorem ZM (g:D.Grid) (cell:Nat) (down:Bool):ZW g cell down 0:=by
 unfold ZW
 split<;>rfl
theorem rD {g:D.Grid} {cell n:Nat} {down:Bool} (hd:down=true) (h:QK g.Cells cell=46∧¬(0<cell / g.Cols.toNat∧QK g.Cells (Int.toNat (((cell:Nat):Int) - g.Cols))=46)) (hr:ZW g cell down n) (hn:¬slD g cell n):((n:Nat):Int)=((Qk g cell down:Nat):Int):=by
 rw [ZW,if_pos hd] at hr
 rw [Qk,if_pos hd,Qgy h hr hn]
theorem rA {g:D.Grid} {cell n:Nat} {down:Bool} (hd:down=false) (h:QK g.Cells cell=46∧¬(0<cell % g.Cols.toNat∧QK g.Cells (Int.toNat (((cell:Nat):Int) - 1))=46)) (hr:ZW g cell down n) (hn:¬slA g cell n):((n:Nat):Int)=((Qk g cell down:Nat):Int):=by
 rw [ZW,if_neg (by simp [hd])] at hr
 rw [Qk,if_neg (by simp [hd]),Qga h hr hn]
theorem QfX {g:D.Grid} {cell n:Nat} {down:Bool} (hd:down=true) (hr:ZW g cell down n) (hn:slD g cell n) (h6:n<6):ZW g cell down (n+1):=by
 rw [ZW,if_pos hd] at *
 rw [hr,Qdd hn h6]
theorem QfI {g:D.Grid} {cell n:Nat} {down:Bool} (hd:down=false) (hr:ZW g cell down n) (hn:slA g cell n) (h6:n<6):ZW g cell down (n+1):=by
 rw [ZW,if_neg (by simp [hd])] at *
 rw [hr,Qdd hn h6]
end
theorem J2 (n:Nat) (g:D.Grid) (cell:Nat) (down:Bool) (hg:gridOk g) (hc:cell<g.Cells.size):Pure (Qw Tryd.prog (n+1)) 74 [(T.agg (Qa false g)),(tN cell),(tB down)] (tN (Qk g cell down)):=by
 refine Pure.intro (rs:= [ResultVar.tmp 6]) Tryd.func74 rfl rfl rfl (E0:= [(0,(T.agg (Qa false g))),(1,(tN cell)),(2,(tB down))]) rfl ?_
 obtain ⟨hlim,hmx,hmax⟩:=QR
 have hsz:=hg.size
 have hA:=hg.1
 have hB:=hg.2.1
 obtain ⟨hC1,hC2,hC3,hC4,hC5⟩:=QaF hg hc
 have hq0:0≤((cell:Nat):Int) / ((g.Cols.toNat:Nat):Int):=Int.ediv_nonneg (by omega) (by omega)
 have hm0:0≤((cell:Nat):Int) % ((g.Cols.toNat:Nat):Int):=Int.emod_nonneg _ (by omega)
 refine sr (kO (B.box (ts:=(Qa false g)) (tv (T.agg (Qa false g)) rfl) nofun rfl) (fO (OF.assign (VEv.int .i64 0)) (nt (sr (fO (OF.assign (VEv.int .i64 1)) (nt (sr (mO (tN cell) rfl (lf (tI g.Cols) rfl QV rfl rfl Zo (fO (B.rem (n:=((cell % g.Cols.toNat:Nat):Int)) (tv (tN cell) rfl) (tv (tI g.Cols) rfl) (by omega) (by (refine Qil ?_;omega))) (aO (tN (cell % g.Cols.toNat)) rfl ?_)))))))))))
 refine nt (sr (lf (tI g.Cols) rfl QV rfl rfl Zo (aO (tI g.Cols) rfl (nt (sq (sr (mO (tB down) rfl (nt ?_))))))))
 refine VRun.cond (tv (tB down) rfl) (fun hc0=> ?_) (fun hc0=> ?_)
 ·have fhc0:down=true:=hc0
  refine sr (lf (tI g.Cols) rfl QV rfl rfl Zo (aO (tI g.Cols) rfl (nt (sr (mO (tN cell) rfl (lf (tI g.Cols) rfl QV rfl rfl Zo (fO (B.quo (n:=((cell / g.Cols.toNat:Nat):Int)) (tv (tN cell) rfl) (tv (tI g.Cols) rfl) (by omega) (by (refine QiV ?_ ?_<;>omega))) (aO (tN (cell / g.Cols.toNat)) rfl (nt (VRun.region (lf (tI g.Rows) rfl YU rfl rfl Zo ?_)))))))))))
  refine aO (tI g.Rows) rfl (VRunO.nil (tn (sq (sr (lf (tS g.Cells) rfl QC rfl rfl ZX (mO (tN cell) rfl ?_))))))
  have hb1:cell<g.Cells.size:=(by omega)
  refine fO (xix (tv (tS g.Cells) rfl) (tv (tN cell) rfl) hb1 U9) (fO (xne (tv (T.int .u8 (QK g.Cells cell)) rfl) (VEv.int .u8 46)) (mO (tB (!(decide (QK g.Cells cell=46)))) rfl ?_))
  refine gn (QK g.Cells cell=46) (fun fhg31_2=> ?_) fun fhg31_2=> ?_
  ·refine QY 3 5 false 31 (ny fhg31_2) rfl rfl rfl ?_
   refine Qfy 7 8 true 34 rfl rfl rfl (oO rfl rfl (ny fhg31_2) (fO (OF.pickT (VEv.tmpB rfl (ny fhg31_2)) (VEv.bool true)) (nt (ct rfl (sr (fO (OF.assign (VEv.int .i64 0)) (nt (rt (tr (vi (n':=0) rfl ?_))))))))))
   (refine zD fhc0 ?_;omega)
  refine gF (nz fhg31_2) rfl rfl (OF.move (tv (tN (cell / g.Cols.toNat)) rfl)) (gF (nz fhg31_2) rfl rfl (B.gtr (c:=(decide (0<cell / g.Cols.toNat))) (tv (tN (cell / g.Cols.toNat)) rfl) (VEv.int .i64 0) (by exact Zb (by omega))) (gF (nz fhg31_2) rfl rfl (OF.move (tv (tB (decide (0<cell / g.Cols.toNat))) rfl)) ?_))
  refine gw (0<cell / g.Cols.toNat) (fun fhg34_3=> ?_) fun fhg34_3=> ?_
  ·refine glf (tS g.Cells) (dy fhg34_3) rfl rfl rfl rfl QC rfl rfl ZX ?_
   refine gF (dy fhg34_3) rfl rfl (OF.move (tv (tN cell) rfl)) (gF (dy fhg34_3) rfl rfl (OF.move (tv (tI g.Cols) rfl)) (gF (dy fhg34_3) rfl rfl (B.sub (n:=(((cell:Nat):Int) - g.Cols)) (tv (tN cell) rfl) (tv (tI g.Cols) rfl) (by (rw [Qz (by omega)];done))) ?_))
   have hb4:(Int.toNat (((cell:Nat):Int) - g.Cols))<g.Cells.size:=(by omega)
   refine gF (dy fhg34_3) rfl rfl (B.index (n:=(QK g.Cells (Int.toNat (((cell:Nat):Int) - g.Cols)))) (i:=(Int.toNat (((cell:Nat):Int) - g.Cols))) (tv (tS g.Cells) rfl) (tv (tI (((cell:Nat):Int) - g.Cols)) rfl) (by omega) hb4 U9 (Ya hb4)) (gF (dy fhg34_3) rfl rfl (xeq (tv (T.int .u8 (QK g.Cells (Int.toNat (((cell:Nat):Int) - g.Cols)))) rfl) (VEv.int .u8 46)) (gF (nz fhg31_2) rfl rfl (OF.pickT (VEv.tmpB rfl (dy fhg34_3)) (tv (tB (decide (QK g.Cells (Int.toNat (((cell:Nat):Int) - g.Cols))=46))) rfl)) (fO (OF.pickF (VEv.tmpB rfl (nz fhg31_2)) (tv (tB (decide (QK g.Cells (Int.toNat (((cell:Nat):Int) - g.Cols))=46))) rfl)) (nt ?_))))
   refine cd (QK g.Cells (Int.toNat (((cell:Nat):Int) - g.Cols))=46) rfl (fun fhc1=> ?_) fun fhc1=> ?_
   ·refine sr ?_
    refine fO (OF.assign (VEv.int .i64 0)) (nt (rt (tr (vi (n':=0) rfl ?_))))
    (refine zD fhc0 ?_;omega)
   refine sk (tn (sr (fO (OF.assign (VEv.int .i64 0)) (nt (sq (VRun.block ?_))))))
   refine VRun.loop (A:=Nat) (fun s_=> [(1,(tN cell)),(3,(T.op 0 0)),(6,(tN 0)),(7,(tI g.Cols)),(8,(tN (cell / g.Cols.toNat))),(9,(tI g.Rows)),(10,(tN s_))]) (fun s_=>Q4 [(0,(Obj.cells (Qa false g)))]) 1 (fun s_=>s_≤6∧ZW g cell down s_) (fun s_=>6 - s_) (0:Nat) ?_ (Wk.mk (fun k=>k) ?_ ?_ ?_) ?_
   ·exact ⟨Nat.zero_le _,ZM _ _ _⟩
   ·exact (b2 (b2 (b2 (b2 (b2 (b2 (b2 bn)))))))
   ·exact (b3 bn)
   ·exact nd rfl
   rintro n (hI':n≤6∧ZW g cell down n)
   show VRun _ _ _ [(1,(tN cell)),(3,(T.op 0 0)),(6,(tN 0)),(7,(tI g.Cols)),(8,(tN (cell / g.Cols.toNat))),(9,(tI g.Rows)),(10,(tN n))] (Q4 [(0,(Obj.cells (Qa false g)))]) 1 _
   have hI1:=hI'.1
   have hN:=QbP hI1 hB.1 hB.2
   have hC6:=hC4 n
   have hC7:=hC5 n
   refine sq (sr (mO (tN (cell / g.Cols.toNat)) rfl (mO (tN n) rfl (fO (B.add (n:=(((cell / g.Cols.toNat+n):Nat):Int)) (tv (tN (cell / g.Cols.toNat)) rfl) (tv (tN n) rfl) (by (rw [Qz (by omega)];omega))) (mO (tI g.Rows) rfl (fO (xls (tv (tN (cell / g.Cols.toNat+n)) rfl) (tv (tI g.Rows) rfl)) (mO (tB (decide ((((cell / g.Cols.toNat+n):Nat):Int)<g.Rows))) rfl ?_)))))))
   refine gw ((((cell / g.Cols.toNat+n):Nat):Int)<g.Rows) (fun fhg49_5=> ?_) fun fhg49_5=> ?_
   ·refine glf (tS g.Cells) (dy fhg49_5) rfl rfl rfl rfl QC rfl rfl ZX ?_
    refine gF (dy fhg49_5) rfl rfl (OF.move (tv (tN cell) rfl)) (gF (dy fhg49_5) rfl rfl (OF.move (tv (tN n) rfl)) (gF (dy fhg49_5) rfl rfl (OF.move (tv (tI g.Cols) rfl)) (gF (dy fhg49_5) rfl rfl (B.mul (n:=(((n:Nat):Int)*g.Cols)) (tv (tN n) rfl) (tv (tI g.Cols) rfl) (by (refine Qdg ?_ ?_ ?_<;>omega))) (gF (dy fhg49_5) rfl rfl (B.add (n:=(((cell:Nat):Int)+(((n:Nat):Int)*g.Cols))) (tv (tN cell) rfl) (tv (tI (((n:Nat):Int)*g.Cols)) rfl) (by (rw [Qz (by omega)];done))) ?_))))
    have hb6:(Int.toNat (((cell:Nat):Int)+(((n:Nat):Int)*g.Cols)))<g.Cells.size:=(by omega)
    refine gF (dy fhg49_5) rfl rfl (B.index (n:=(QK g.Cells (Int.toNat (((cell:Nat):Int)+(((n:Nat):Int)*g.Cols))))) (i:=(Int.toNat (((cell:Nat):Int)+(((n:Nat):Int)*g.Cols)))) (tv (tS g.Cells) rfl) (tv (tI (((cell:Nat):Int)+(((n:Nat):Int)*g.Cols))) rfl) (by omega) hb6 U9 (Ya hb6)) (gF (dy fhg49_5) rfl rfl (xeq (tv (T.int .u8 (QK g.Cells (Int.toNat (((cell:Nat):Int)+(((n:Nat):Int)*g.Cols))))) rfl) (VEv.int .u8 46)) (fO (OF.pickT (VEv.tmpB rfl (dy fhg49_5)) (tv (tB (decide (QK g.Cells (Int.toNat (((cell:Nat):Int)+(((n:Nat):Int)*g.Cols)))=46))) rfl)) (nt ?_)))
    refine cd (QK g.Cells (Int.toNat (((cell:Nat):Int)+(((n:Nat):Int)*g.Cols)))=46) rfl (fun fhc2=> ?_) fun fhc2=> ?_
    ·refine sk ?_
     refine tn (VRun.block (VRun.region (mO (tN n) rfl (fO (QF (tv (tN n) rfl) (VEv.int .i64 1) (by omega)) (aO (tN (n+1)) rfl (VRunO.nil (vinB.n (tn ?_))))))))
     refine ⟨(n+1:Nat),?_,?_,Wk.mk (fun k=>k) ?_ ?_ ?_⟩
     ·(refine ⟨?_,QfX fhc0 hI'.2 ?_ ?_⟩<;>first | omega | (unfold slD;omega))
     ·omega
     ·exact (b2 (b2 (b2 (b2 (b2 (b2 (b2 bn)))))))
     ·exact (b3 bn)
     ·exact nd rfl
    refine VRun.exit (vthn.e (vthn.e (vinB.e (tn (sr (mO (tN n) rfl (aO (tN n) rfl (nt (rt (vi (n':=((n:Nat):Int)) rfl ?_))))))))))
    (refine rD fhc0 ?_ hI'.2 ?_<;>first | omega | (unfold slD;omega))
   refine QY 9 5 true 49 (dz fhg49_5) rfl rfl rfl (fO (OF.pickF (VEv.tmpB rfl (dz fhg49_5)) (VEv.bool false)) (nt (cf rfl (VRun.exit (vthn.e (vthn.e (vinB.e (tn (sr (mO (tN n) rfl (aO (tN n) rfl ?_)))))))))))
   refine nt (rt (vi (n':=((n:Nat):Int)) rfl ?_))
   (refine rD fhc0 ?_ hI'.2 ?_<;>first | omega | (unfold slD;omega))
  refine QY 7 8 true 34 (dz fhg34_3) rfl rfl rfl (gF (nz fhg31_2) rfl rfl (OF.pickF (VEv.tmpB rfl (dz fhg34_3)) (VEv.bool false)) (fO (OF.pickF (VEv.tmpB rfl (nz fhg31_2)) (tv (tB false) rfl)) (nt (cf rfl (sk (tn (sr (fO (OF.assign (VEv.int .i64 0)) (nt (sq (VRun.block ?_)))))))))))
  refine VRun.loop (A:=Nat) (fun s_=> [(1,(tN cell)),(3,(T.op 0 0)),(6,(tN 0)),(7,(tI g.Cols)),(8,(tN (cell / g.Cols.toNat))),(9,(tI g.Rows)),(10,(tN s_))]) (fun s_=>Q4 [(0,(Obj.cells (Qa false g)))]) 1 (fun s_=>s_≤6∧ZW g cell down s_) (fun s_=>6 - s_) (0:Nat) ?_ (Wk.mk (fun k=>k) ?_ ?_ ?_) ?_
  ·exact ⟨Nat.zero_le _,ZM _ _ _⟩
  ·exact (b2 (b2 (b2 (b2 (b2 (b2 (b2 bn)))))))
  ·exact (b3 bn)
  ·exact nd rfl
  rintro n (hI':n≤6∧ZW g cell down n)
  show VRun _ _ _ [(1,(tN cell)),(3,(T.op 0 0)),(6,(tN 0)),(7,(tI g.Cols)),(8,(tN (cell / g.Cols.toNat))),(9,(tI g.Rows)),(10,(tN n))] (Q4 [(0,(Obj.cells (Qa false g)))]) 1 _
  have hI1:=hI'.1
  have hN:=QbP hI1 hB.1 hB.2
  have hC6:=hC4 n
  have hC7:=hC5 n
  refine sq (sr (mO (tN (cell / g.Cols.toNat)) rfl (mO (tN n) rfl (fO (B.add (n:=(((cell / g.Cols.toNat+n):Nat):Int)) (tv (tN (cell / g.Cols.toNat)) rfl) (tv (tN n) rfl) (by (rw [Qz (by omega)];omega))) (mO (tI g.Rows) rfl (fO (xls (tv (tN (cell / g.Cols.toNat+n)) rfl) (tv (tI g.Rows) rfl)) (mO (tB (decide ((((cell / g.Cols.toNat+n):Nat):Int)<g.Rows))) rfl ?_)))))))
  refine gw ((((cell / g.Cols.toNat+n):Nat):Int)<g.Rows) (fun fhg49_7=> ?_) fun fhg49_7=> ?_
  ·refine glf (tS g.Cells) (dy fhg49_7) rfl rfl rfl rfl QC rfl rfl ZX ?_
   refine gF (dy fhg49_7) rfl rfl (OF.move (tv (tN cell) rfl)) (gF (dy fhg49_7) rfl rfl (OF.move (tv (tN n) rfl)) (gF (dy fhg49_7) rfl rfl (OF.move (tv (tI g.Cols) rfl)) (gF (dy fhg49_7) rfl rfl (B.mul (n:=(((n:Nat):Int)*g.Cols)) (tv (tN n) rfl) (tv (tI g.Cols) rfl) (by (refine Qdg ?_ ?_ ?_<;>omega))) (gF (dy fhg49_7) rfl rfl (B.add (n:=(((cell:Nat):Int)+(((n:Nat):Int)*g.Cols))) (tv (tN cell) rfl) (tv (tI (((n:Nat):Int)*g.Cols)) rfl) (by (rw [Qz (by omega)];done))) ?_))))
   have hb8:(Int.toNat (((cell:Nat):Int)+(((n:Nat):Int)*g.Cols)))<g.Cells.size:=(by omega)
   refine gF (dy fhg49_7) rfl rfl (B.index (n:=(QK g.Cells (Int.toNat (((cell:Nat):Int)+(((n:Nat):Int)*g.Cols))))) (i:=(Int.toNat (((cell:Nat):Int)+(((n:Nat):Int)*g.Cols)))) (tv (tS g.Cells) rfl) (tv (tI (((cell:Nat):Int)+(((n:Nat):Int)*g.Cols))) rfl) (by omega) hb8 U9 (Ya hb8)) (gF (dy fhg49_7) rfl rfl (xeq (tv (T.int .u8 (QK g.Cells (Int.toNat (((cell:Nat):Int)+(((n:Nat):Int)*g.Cols))))) rfl) (VEv.int .u8 46)) (fO (OF.pickT (VEv.tmpB rfl (dy fhg49_7)) (tv (tB (decide (QK g.Cells (Int.toNat (((cell:Nat):Int)+(((n:Nat):Int)*g.Cols)))=46))) rfl)) (nt ?_)))
   refine cd (QK g.Cells (Int.toNat (((cell:Nat):Int)+(((n:Nat):Int)*g.Cols)))=46) rfl (fun fhc2=> ?_) fun fhc2=> ?_
   ·refine sk ?_
    refine tn (VRun.block (VRun.region (mO (tN n) rfl (fO (QF (tv (tN n) rfl) (VEv.int .i64 1) (by omega)) (aO (tN (n+1)) rfl (VRunO.nil (vinB.n (tn ?_))))))))
    refine ⟨(n+1:Nat),?_,?_,Wk.mk (fun k=>k) ?_ ?_ ?_⟩
    ·(refine ⟨?_,QfX fhc0 hI'.2 ?_ ?_⟩<;>first | omega | (unfold slD;omega))
    ·omega
    ·exact (b2 (b2 (b2 (b2 (b2 (b2 (b2 bn)))))))
    ·exact (b3 bn)
    ·exact nd rfl
   refine VRun.exit (vthn.e (vthn.e (vinB.e (tn (sr (mO (tN n) rfl (aO (tN n) rfl (nt (rt (vi (n':=((n:Nat):Int)) rfl ?_))))))))))
   (refine rD fhc0 ?_ hI'.2 ?_<;>first | omega | (unfold slD;omega))
  refine QY 9 5 true 49 (dz fhg49_7) rfl rfl rfl (fO (OF.pickF (VEv.tmpB rfl (dz fhg49_7)) (VEv.bool false)) (nt (cf rfl (VRun.exit (vthn.e (vthn.e (vinB.e (tn (sr (mO (tN n) rfl (aO (tN n) rfl ?_)))))))))))
  refine nt (rt (vi (n':=((n:Nat):Int)) rfl ?_))
  (refine rD fhc0 ?_ hI'.2 ?_<;>first | omega | (unfold slD;omega))
 have fhc0:down=false:=hc0
 refine sk (tn (sq (sr (lf (tS g.Cells) rfl QC rfl rfl ZX (mO (tN cell) rfl ?_)))))
 have hb9:cell<g.Cells.size:=(by omega)
 refine fO (xix (tv (tS g.Cells) rfl) (tv (tN cell) rfl) hb9 U9) (fO (xne (tv (T.int .u8 (QK g.Cells cell)) rfl) (VEv.int .u8 46)) (mO (tB (!(decide (QK g.Cells cell=46)))) rfl ?_))
 refine gn (QK g.Cells cell=46) (fun fhg31_10=> ?_) fun fhg31_10=> ?_
 ·refine QY 3 5 false 31 (ny fhg31_10) rfl rfl rfl ?_
  refine Qfy 7 8 true 34 rfl rfl rfl (oO rfl rfl (ny fhg31_10) (fO (OF.pickT (VEv.tmpB rfl (ny fhg31_10)) (VEv.bool true)) (nt (ct rfl (sr (fO (OF.assign (VEv.int .i64 0)) (nt (rt (tr (vi (n':=0) rfl ?_))))))))))
  (refine zA fhc0 ?_;omega)
 refine gF (nz fhg31_10) rfl rfl (OF.move (tv (tN (cell % g.Cols.toNat)) rfl)) (gF (nz fhg31_10) rfl rfl (B.gtr (c:=(decide (0<cell % g.Cols.toNat))) (tv (tN (cell % g.Cols.toNat)) rfl) (VEv.int .i64 0) (by exact Zb (by omega))) (gF (nz fhg31_10) rfl rfl (OF.move (tv (tB (decide (0<cell % g.Cols.toNat))) rfl)) ?_))
 refine gw (0<cell % g.Cols.toNat) (fun fhg34_11=> ?_) fun fhg34_11=> ?_
 ·refine glf (tS g.Cells) (dy fhg34_11) rfl rfl rfl rfl QC rfl rfl ZX ?_
  refine gF (dy fhg34_11) rfl rfl (OF.move (tv (tN cell) rfl)) (gF (dy fhg34_11) rfl rfl (OF.move (tv (tN 1) rfl)) (gF (dy fhg34_11) rfl rfl (B.sub (n:=(((cell:Nat):Int) - 1)) (tv (tN cell) rfl) (tv (tN 1) rfl) (by (rw [Qz (by omega)];omega))) ?_))
  have hb12:(Int.toNat (((cell:Nat):Int) - 1))<g.Cells.size:=(by omega)
  refine gF (dy fhg34_11) rfl rfl (B.index (n:=(QK g.Cells (Int.toNat (((cell:Nat):Int) - 1)))) (i:=(Int.toNat (((cell:Nat):Int) - 1))) (tv (tS g.Cells) rfl) (tv (tI (((cell:Nat):Int) - 1)) rfl) (by omega) hb12 U9 (Ya hb12)) (gF (dy fhg34_11) rfl rfl (xeq (tv (T.int .u8 (QK g.Cells (Int.toNat (((cell:Nat):Int) - 1)))) rfl) (VEv.int .u8 46)) (gF (nz fhg31_10) rfl rfl (OF.pickT (VEv.tmpB rfl (dy fhg34_11)) (tv (tB (decide (QK g.Cells (Int.toNat (((cell:Nat):Int) - 1))=46))) rfl)) (fO (OF.pickF (VEv.tmpB rfl (nz fhg31_10)) (tv (tB (decide (QK g.Cells (Int.toNat (((cell:Nat):Int) - 1))=46))) rfl)) (nt ?_))))
  refine cd (QK g.Cells (Int.toNat (((cell:Nat):Int) - 1))=46) rfl (fun fhc1=> ?_) fun fhc1=> ?_
  ·refine sr ?_
   refine fO (OF.assign (VEv.int .i64 0)) (nt (rt (tr (vi (n':=0) rfl ?_))))
   (refine zA fhc0 ?_;omega)
  refine sk (tn (sr (fO (OF.assign (VEv.int .i64 0)) (nt (sq (VRun.block ?_))))))
  refine VRun.loop (A:=Nat) (fun s_=> [(1,(tN cell)),(3,(T.op 0 0)),(6,(tN 0)),(7,(tN 1)),(8,(tN (cell % g.Cols.toNat))),(9,(tI g.Cols)),(10,(tN s_))]) (fun s_=>Q4 [(0,(Obj.cells (Qa false g)))]) 1 (fun s_=>s_≤6∧ZW g cell down s_) (fun s_=>6 - s_) (0:Nat) ?_ (Wk.mk (fun k=>k) ?_ ?_ ?_) ?_
  ·exact ⟨Nat.zero_le _,ZM _ _ _⟩
  ·exact (b2 (b2 (b2 (b2 (b2 (b2 (b2 bn)))))))
  ·exact (b3 bn)
  ·exact nd rfl
  rintro n (hI':n≤6∧ZW g cell down n)
  show VRun _ _ _ [(1,(tN cell)),(3,(T.op 0 0)),(6,(tN 0)),(7,(tN 1)),(8,(tN (cell % g.Cols.toNat))),(9,(tI g.Cols)),(10,(tN n))] (Q4 [(0,(Obj.cells (Qa false g)))]) 1 _
  have hI1:=hI'.1
  have hN:=QbP hI1 hB.1 hB.2
  have hC6:=hC4 n
  have hC7:=hC5 n
  refine sq (sr (mO (tN (cell % g.Cols.toNat)) rfl (mO (tN n) rfl (fO (B.add (n:=(((cell % g.Cols.toNat+n):Nat):Int)) (tv (tN (cell % g.Cols.toNat)) rfl) (tv (tN n) rfl) (by (rw [Qz (by omega)];omega))) (mO (tI g.Cols) rfl (fO (xls (tv (tN (cell % g.Cols.toNat+n)) rfl) (tv (tI g.Cols) rfl)) (mO (tB (decide ((((cell % g.Cols.toNat+n):Nat):Int)<g.Cols))) rfl ?_)))))))
  refine gw ((((cell % g.Cols.toNat+n):Nat):Int)<g.Cols) (fun fhg49_13=> ?_) fun fhg49_13=> ?_
  ·refine glf (tS g.Cells) (dy fhg49_13) rfl rfl rfl rfl QC rfl rfl ZX ?_
   refine gF (dy fhg49_13) rfl rfl (OF.move (tv (tN cell) rfl)) (gF (dy fhg49_13) rfl rfl (OF.move (tv (tN n) rfl)) (gF (dy fhg49_13) rfl rfl (OF.move (tv (tN 1) rfl)) (gF (dy fhg49_13) rfl rfl (B.mul (n:=(((n*1):Nat):Int)) (tv (tN n) rfl) (tv (tN 1) rfl) (by (rw [Qz (by omega)];omega))) (gF (dy fhg49_13) rfl rfl (B.add (n:=(((cell+(n*1)):Nat):Int)) (tv (tN cell) rfl) (tv (tN (n*1)) rfl) (by (rw [Qz (by omega)];omega))) ?_))))
   have hb14:(cell+(n*1))<g.Cells.size:=(by omega)
   refine gF (dy fhg49_13) rfl rfl (xix (tv (tS g.Cells) rfl) (tv (tN (cell+(n*1))) rfl) hb14 U9) (gF (dy fhg49_13) rfl rfl (xeq (tv (T.int .u8 (QK g.Cells (cell+(n*1)))) rfl) (VEv.int .u8 46)) (fO (OF.pickT (VEv.tmpB rfl (dy fhg49_13)) (tv (tB (decide (QK g.Cells (cell+(n*1))=46))) rfl)) (nt ?_)))
   refine cd (QK g.Cells (cell+(n*1))=46) rfl (fun fhc2=> ?_) fun fhc2=> ?_
   ·refine sk ?_
    refine tn (VRun.block (VRun.region (mO (tN n) rfl (fO (QF (tv (tN n) rfl) (VEv.int .i64 1) (by omega)) (aO (tN (n+1)) rfl (VRunO.nil (vinB.n (tn ?_))))))))
    refine ⟨(n+1:Nat),?_,?_,Wk.mk (fun k=>k) ?_ ?_ ?_⟩
    ·(refine ⟨?_,QfI fhc0 hI'.2 ?_ ?_⟩<;>first | omega | (unfold slA;omega))
    ·omega
    ·exact (b2 (b2 (b2 (b2 (b2 (b2 (b2 bn)))))))
    ·exact (b3 bn)
    ·exact nd rfl
   refine VRun.exit (vthn.e (vthn.e (vinB.e (tn (sr (mO (tN n) rfl (aO (tN n) rfl (nt (rt (vi (n':=((n:Nat):Int)) rfl ?_))))))))))
   (refine rA fhc0 ?_ hI'.2 ?_<;>first | omega | (unfold slA;omega))
  refine QY 9 5 true 49 (dz fhg49_13) rfl rfl rfl (fO (OF.pickF (VEv.tmpB rfl (dz fhg49_13)) (VEv.bool false)) (nt (cf rfl (VRun.exit (vthn.e (vthn.e (vinB.e (tn (sr (mO (tN n) rfl (aO (tN n) rfl ?_)))))))))))
  refine nt (rt (vi (n':=((n:Nat):Int)) rfl ?_))
  (refine rA fhc0 ?_ hI'.2 ?_<;>first | omega | (unfold slA;omega))
 refine QY 7 8 true 34 (dz fhg34_11) rfl rfl rfl (gF (nz fhg31_10) rfl rfl (OF.pickF (VEv.tmpB rfl (dz fhg34_11)) (VEv.bool false)) (fO (OF.pickF (VEv.tmpB rfl (nz fhg31_10)) (tv (tB false) rfl)) (nt (cf rfl (sk (tn (sr (fO (OF.assign (VEv.int .i64 0)) (nt (sq (VRun.block ?_)))))))))))
 refine VRun.loop (A:=Nat) (fun s_=> [(1,(tN cell)),(3,(T.op 0 0)),(6,(tN 0)),(7,(tN 1)),(8,(tN (cell % g.Cols.toNat))),(9,(tI g.Cols)),(10,(tN s_))]) (fun s_=>Q4 [(0,(Obj.cells (Qa false g)))]) 1 (fun s_=>s_≤6∧ZW g cell down s_) (fun s_=>6 - s_) (0:Nat) ?_ (Wk.mk (fun k=>k) ?_ ?_ ?_) ?_
 ·exact ⟨Nat.zero_le _,ZM _ _ _⟩
 ·exact (b2 (b2 (b2 (b2 (b2 (b2 (b2 bn)))))))
 ·exact (b3 bn)
 ·exact nd rfl
 rintro n (hI':n≤6∧ZW g cell down n)
 show VRun _ _ _ [(1,(tN cell)),(3,(T.op 0 0)),(6,(tN 0)),(7,(tN 1)),(8,(tN (cell % g.Cols.toNat))),(9,(tI g.Cols)),(10,(tN n))] (Q4 [(0,(Obj.cells (Qa false g)))]) 1 _
 have hI1:=hI'.1
 have hN:=QbP hI1 hB.1 hB.2
 have hC6:=hC4 n
 have hC7:=hC5 n
 refine sq (sr (mO (tN (cell % g.Cols.toNat)) rfl (mO (tN n) rfl (fO (B.add (n:=(((cell % g.Cols.toNat+n):Nat):Int)) (tv (tN (cell % g.Cols.toNat)) rfl) (tv (tN n) rfl) (by (rw [Qz (by omega)];omega))) (mO (tI g.Cols) rfl (fO (xls (tv (tN (cell % g.Cols.toNat+n)) rfl) (tv (tI g.Cols) rfl)) (mO (tB (decide ((((cell % g.Cols.toNat+n):Nat):Int)<g.Cols))) rfl ?_)))))))
 refine gw ((((cell % g.Cols.toNat+n):Nat):Int)<g.Cols) (fun fhg49_15=> ?_) fun fhg49_15=> ?_
 ·refine glf (tS g.Cells) (dy fhg49_15) rfl rfl rfl rfl QC rfl rfl ZX ?_
  refine gF (dy fhg49_15) rfl rfl (OF.move (tv (tN cell) rfl)) (gF (dy fhg49_15) rfl rfl (OF.move (tv (tN n) rfl)) (gF (dy fhg49_15) rfl rfl (OF.move (tv (tN 1) rfl)) (gF (dy fhg49_15) rfl rfl (B.mul (n:=(((n*1):Nat):Int)) (tv (tN n) rfl) (tv (tN 1) rfl) (by (rw [Qz (by omega)];omega))) (gF (dy fhg49_15) rfl rfl (B.add (n:=(((cell+(n*1)):Nat):Int)) (tv (tN cell) rfl) (tv (tN (n*1)) rfl) (by (rw [Qz (by omega)];omega))) ?_))))
  have hb16:(cell+(n*1))<g.Cells.size:=(by omega)
  refine gF (dy fhg49_15) rfl rfl (xix (tv (tS g.Cells) rfl) (tv (tN (cell+(n*1))) rfl) hb16 U9) (gF (dy fhg49_15) rfl rfl (xeq (tv (T.int .u8 (QK g.Cells (cell+(n*1)))) rfl) (VEv.int .u8 46)) (fO (OF.pickT (VEv.tmpB rfl (dy fhg49_15)) (tv (tB (decide (QK g.Cells (cell+(n*1))=46))) rfl)) (nt ?_)))
  refine cd (QK g.Cells (cell+(n*1))=46) rfl (fun fhc2=> ?_) fun fhc2=> ?_
  ·refine sk ?_
   refine tn (VRun.block (VRun.region (mO (tN n) rfl (fO (QF (tv (tN n) rfl) (VEv.int .i64 1) (by omega)) (aO (tN (n+1)) rfl (VRunO.nil (vinB.n (tn ?_))))))))
   refine ⟨(n+1:Nat),?_,?_,Wk.mk (fun k=>k) ?_ ?_ ?_⟩
   ·(refine ⟨?_,QfI fhc0 hI'.2 ?_ ?_⟩<;>first | omega | (unfold slA;omega))
   ·omega
   ·exact (b2 (b2 (b2 (b2 (b2 (b2 (b2 bn)))))))
   ·exact (b3 bn)
   ·exact nd rfl
  refine VRun.exit (vthn.e (vthn.e (vinB.e (tn (sr (mO (tN n) rfl (aO (tN n) rfl (nt (rt (vi (n':=((n:Nat):Int)) rfl ?_))))))))))
  (refine rA fhc0 ?_ hI'.2 ?_<;>first | omega | (unfold slA;omega))
 refine QY 9 5 true 49 (dz fhg49_15) rfl rfl rfl (fO (OF.pickF (VEv.tmpB rfl (dz fhg49_15)) (VEv.bool false)) (nt (cf rfl (VRun.exit (vthn.e (vthn.e (vinB.e (tn (sr (mO (tN n) rfl (aO (tN n) rfl ?_)))))))))))
 refine nt (rt (vi (n':=((n:Nat):Int)) rfl ?_))
 (refine rA fhc0 ?_ hI'.2 ?_<;>first | omega | (unfold slA;omega))
theorem Qcw (n:Nat) (g:D.Grid) (cell:Nat) (down:Bool) (hg:gridOk g) (hc:cell<g.Cells.size):Pure (Qw Tryd.prog (n+1)) 80 [(T.agg (Qa false g)),(tN cell),(tB down)] (tN (Qk g cell down)):=by
 refine Pure.intro (rs:= [ResultVar.tmp 6]) Tryd.func80 rfl rfl rfl (E0:= [(0,(T.agg (Qa false g))),(1,(tN cell)),(2,(tB down))]) rfl ?_
 obtain ⟨hlim,hmx,hmax⟩:=QR
 have hsz:=hg.size
 have hA:=hg.1
 have hB:=hg.2.1
 obtain ⟨hC1,hC2,hC3,hC4,hC5⟩:=QaF hg hc
 have hq0:0≤((cell:Nat):Int) / ((g.Cols.toNat:Nat):Int):=Int.ediv_nonneg (by omega) (by omega)
 have hm0:0≤((cell:Nat):Int) % ((g.Cols.toNat:Nat):Int):=Int.emod_nonneg _ (by omega)
 refine sr (kO (B.box (ts:=(Qa false g)) (tv (T.agg (Qa false g)) rfl) nofun rfl) (fO (OF.assign (VEv.int .i64 0)) (nt (sq (VRun.draw (B:= [[],[],[1],[1,2,0],[],[4],[],[6,0,2,1,3],[3,1,2,0,6,7,4,5]]) (by kernel_rfl) (by kernel_rfl) (mD (tN cell) rfl rfl (fD (OF.fieldAddrO (tv (T.op 0 0) rfl) QV) rfl rfl (lD (OL.loadO1 (t:=(tI g.Cols)) (tv (T.op 0 1) rfl) rfl rfl Zo) rfl rfl (fD (B.rem (n:=((cell % g.Cols.toNat:Nat):Int)) (tv (tN cell) rfl) (tv (tI g.Cols) rfl) (by omega) (by (refine Qil ?_;omega))) rfl rfl (fD (OF.fieldAddrO (tv (T.op 0 0) rfl) QV) rfl rfl (lD (OL.loadO1 (t:=(tI g.Cols)) (tv (T.op 0 1) rfl) rfl rfl Zo) rfl rfl ?_)))))))))))
 refine fD (OF.assign (VEv.int .i64 1)) rfl rfl (fD (OF.assign (tv (tN (cell % g.Cols.toNat)) rfl)) rfl rfl (fD (OF.assign (tv (tI g.Cols) rfl)) rfl rfl (VRunD.nil (tn (sq (sr (mO (tB down) rfl (nt ?_))))))))
 refine VRun.cond (tv (tB down) rfl) (fun hc0=> ?_) (fun hc0=> ?_)
 ·have fhc0:down=true:=hc0
  refine VRun.draw (B:= [[],[0],[],[],[3],[3,4,2],[],[6],[0,1],[1,0,8,2,4,3,5],[5,3,4,2,8,0,1,9,6,7]]) (by kernel_rfl) (by kernel_rfl) (fD (OF.fieldAddrO (tv (T.op 0 0) rfl) QV) rfl rfl (lD (OL.loadO1 (t:=(tI g.Cols)) (tv (T.op 0 1) rfl) rfl rfl Zo) rfl rfl (mD (tN cell) rfl rfl (fD (OF.fieldAddrO (tv (T.op 0 0) rfl) QV) rfl rfl (lD (OL.loadO1 (t:=(tI g.Cols)) (tv (T.op 0 1) rfl) rfl rfl Zo) rfl rfl (fD (B.quo (n:=((cell / g.Cols.toNat:Nat):Int)) (tv (tN cell) rfl) (tv (tI g.Cols) rfl) (by omega) (by (refine QiV ?_ ?_<;>omega))) rfl rfl (fD (OF.fieldAddrO (tv (T.op 0 0) rfl) YU) rfl rfl (lD (OL.loadO1 (t:=(tI g.Rows)) (tv (T.op 0 0) rfl) rfl rfl Zo) rfl rfl (fD (OF.assign (tv (tI g.Cols) rfl)) rfl rfl (fD (OF.assign (tv (tN (cell / g.Cols.toNat)) rfl)) rfl rfl (fD (OF.assign (tv (tI g.Rows) rfl)) rfl rfl ?_)))))))))))
  refine VRunD.nil (tn (sq (sr (lf (tS g.Cells) rfl QC rfl rfl ZX (mO (tN cell) rfl ?_)))))
  have hb1:cell<g.Cells.size:=(by omega)
  refine fO (xix (tv (tS g.Cells) rfl) (tv (tN cell) rfl) hb1 U9) (fO (xne (tv (T.int .u8 (QK g.Cells cell)) rfl) (VEv.int .u8 46)) (mO (tB (!(decide (QK g.Cells cell=46)))) rfl ?_))
  refine gn (QK g.Cells cell=46) (fun fhg31_2=> ?_) fun fhg31_2=> ?_
  ·refine QY 3 5 false 31 (ny fhg31_2) rfl rfl rfl ?_
   refine Qfy 7 8 true 34 rfl rfl rfl (oO rfl rfl (ny fhg31_2) (fO (OF.pickT (VEv.tmpB rfl (ny fhg31_2)) (VEv.bool true)) (nt (ct rfl (sr (fO (OF.assign (VEv.int .i64 0)) (nt (rt (tr (vi (n':=0) rfl ?_))))))))))
   (refine zD fhc0 ?_;omega)
  refine gF (nz fhg31_2) rfl rfl (OF.move (tv (tN (cell / g.Cols.toNat)) rfl)) (gF (nz fhg31_2) rfl rfl (B.gtr (c:=(decide (0<cell / g.Cols.toNat))) (tv (tN (cell / g.Cols.toNat)) rfl) (VEv.int .i64 0) (by exact Zb (by omega))) (gF (nz fhg31_2) rfl rfl (OF.move (tv (tB (decide (0<cell / g.Cols.toNat))) rfl)) ?_))
  refine gw (0<cell / g.Cols.toNat) (fun fhg34_3=> ?_) fun fhg34_3=> ?_
  ·refine glf (tS g.Cells) (dy fhg34_3) rfl rfl rfl rfl QC rfl rfl ZX ?_
   refine gF (dy fhg34_3) rfl rfl (OF.move (tv (tN cell) rfl)) (gF (dy fhg34_3) rfl rfl (OF.move (tv (tI g.Cols) rfl)) (gF (dy fhg34_3) rfl rfl (B.sub (n:=(((cell:Nat):Int) - g.Cols)) (tv (tN cell) rfl) (tv (tI g.Cols) rfl) (by (rw [Qz (by omega)];done))) ?_))
   have hb4:(Int.toNat (((cell:Nat):Int) - g.Cols))<g.Cells.size:=(by omega)
   refine gF (dy fhg34_3) rfl rfl (B.index (n:=(QK g.Cells (Int.toNat (((cell:Nat):Int) - g.Cols)))) (i:=(Int.toNat (((cell:Nat):Int) - g.Cols))) (tv (tS g.Cells) rfl) (tv (tI (((cell:Nat):Int) - g.Cols)) rfl) (by omega) hb4 U9 (Ya hb4)) (gF (dy fhg34_3) rfl rfl (xeq (tv (T.int .u8 (QK g.Cells (Int.toNat (((cell:Nat):Int) - g.Cols)))) rfl) (VEv.int .u8 46)) (gF (nz fhg31_2) rfl rfl (OF.pickT (VEv.tmpB rfl (dy fhg34_3)) (tv (tB (decide (QK g.Cells (Int.toNat (((cell:Nat):Int) - g.Cols))=46))) rfl)) (fO (OF.pickF (VEv.tmpB rfl (nz fhg31_2)) (tv (tB (decide (QK g.Cells (Int.toNat (((cell:Nat):Int) - g.Cols))=46))) rfl)) (nt ?_))))
   refine cd (QK g.Cells (Int.toNat (((cell:Nat):Int) - g.Cols))=46) rfl (fun fhc1=> ?_) fun fhc1=> ?_
   ·refine sr ?_
    refine fO (OF.assign (VEv.int .i64 0)) (nt (rt (tr (vi (n':=0) rfl ?_))))
    (refine zD fhc0 ?_;omega)
   refine sk (tn (sr (fO (OF.assign (VEv.int .i64 0)) (nt (sq (VRun.block ?_))))))
   refine VRun.loop (A:=Nat) (fun s_=> [(1,(tN cell)),(3,(T.op 0 0)),(6,(tN 0)),(7,(tI g.Cols)),(8,(tN (cell / g.Cols.toNat))),(9,(tI g.Rows)),(10,(tN s_))]) (fun s_=>Q4 [(0,(Obj.cells (Qa false g)))]) 1 (fun s_=>s_≤6∧ZW g cell down s_) (fun s_=>6 - s_) (0:Nat) ?_ (Wk.mk (fun k=>k) ?_ ?_ ?_) ?_
   ·exact ⟨Nat.zero_le _,ZM _ _ _⟩
   ·exact (b2 (b2 (b2 (b2 (b2 (b2 (b2 bn)))))))
   ·exact (b3 bn)
   ·exact nd rfl
   rintro n (hI':n≤6∧ZW g cell down n)
   show VRun _ _ _ [(1,(tN cell)),(3,(T.op 0 0)),(6,(tN 0)),(7,(tI g.Cols)),(8,(tN (cell / g.Cols.toNat))),(9,(tI g.Rows)),(10,(tN n))] (Q4 [(0,(Obj.cells (Qa false g)))]) 1 _
   have hI1:=hI'.1
   have hN:=QbP hI1 hB.1 hB.2
   have hC6:=hC4 n
   have hC7:=hC5 n
   refine sq (sr (mO (tN (cell / g.Cols.toNat)) rfl (mO (tN n) rfl (fO (B.add (n:=(((cell / g.Cols.toNat+n):Nat):Int)) (tv (tN (cell / g.Cols.toNat)) rfl) (tv (tN n) rfl) (by (rw [Qz (by omega)];omega))) (mO (tI g.Rows) rfl (fO (xls (tv (tN (cell / g.Cols.toNat+n)) rfl) (tv (tI g.Rows) rfl)) (mO (tB (decide ((((cell / g.Cols.toNat+n):Nat):Int)<g.Rows))) rfl ?_)))))))
   refine gw ((((cell / g.Cols.toNat+n):Nat):Int)<g.Rows) (fun fhg49_5=> ?_) fun fhg49_5=> ?_
   ·refine glf (tS g.Cells) (dy fhg49_5) rfl rfl rfl rfl QC rfl rfl ZX ?_
    refine gF (dy fhg49_5) rfl rfl (OF.move (tv (tN cell) rfl)) (gF (dy fhg49_5) rfl rfl (OF.move (tv (tN n) rfl)) (gF (dy fhg49_5) rfl rfl (OF.move (tv (tI g.Cols) rfl)) (gF (dy fhg49_5) rfl rfl (B.mul (n:=(((n:Nat):Int)*g.Cols)) (tv (tN n) rfl) (tv (tI g.Cols) rfl) (by (refine Qdg ?_ ?_ ?_<;>omega))) (gF (dy fhg49_5) rfl rfl (B.add (n:=(((cell:Nat):Int)+(((n:Nat):Int)*g.Cols))) (tv (tN cell) rfl) (tv (tI (((n:Nat):Int)*g.Cols)) rfl) (by (rw [Qz (by omega)];done))) ?_))))
    have hb6:(Int.toNat (((cell:Nat):Int)+(((n:Nat):Int)*g.Cols)))<g.Cells.size:=(by omega)
    refine gF (dy fhg49_5) rfl rfl (B.index (n:=(QK g.Cells (Int.toNat (((cell:Nat):Int)+(((n:Nat):Int)*g.Cols))))) (i:=(Int.toNat (((cell:Nat):Int)+(((n:Nat):Int)*g.Cols)))) (tv (tS g.Cells) rfl) (tv (tI (((cell:Nat):Int)+(((n:Nat):Int)*g.Cols))) rfl) (by omega) hb6 U9 (Ya hb6)) (gF (dy fhg49_5) rfl rfl (xeq (tv (T.int .u8 (QK g.Cells (Int.toNat (((cell:Nat):Int)+(((n:Nat):Int)*g.Cols))))) rfl) (VEv.int .u8 46)) (fO (OF.pickT (VEv.tmpB rfl (dy fhg49_5)) (tv (tB (decide (QK g.Cells (Int.toNat (((cell:Nat):Int)+(((n:Nat):Int)*g.Cols)))=46))) rfl)) (nt ?_)))
    refine cd (QK g.Cells (Int.toNat (((cell:Nat):Int)+(((n:Nat):Int)*g.Cols)))=46) rfl (fun fhc2=> ?_) fun fhc2=> ?_
    ·refine sk ?_
     refine tn (VRun.block (VRun.region (mO (tN n) rfl (fO (QF (tv (tN n) rfl) (VEv.int .i64 1) (by omega)) (aO (tN (n+1)) rfl (VRunO.nil (vinB.n (tn ?_))))))))
     refine ⟨(n+1:Nat),?_,?_,Wk.mk (fun k=>k) ?_ ?_ ?_⟩
     ·(refine ⟨?_,QfX fhc0 hI'.2 ?_ ?_⟩<;>first | omega | (unfold slD;omega))
     ·omega
     ·exact (b2 (b2 (b2 (b2 (b2 (b2 (b2 bn)))))))
     ·exact (b3 bn)
     ·exact nd rfl
    refine VRun.exit (vthn.e (vthn.e (vinB.e (tn (sr (mO (tN n) rfl (aO (tN n) rfl (nt (rt (vi (n':=((n:Nat):Int)) rfl ?_))))))))))
    (refine rD fhc0 ?_ hI'.2 ?_<;>first | omega | (unfold slD;omega))
   refine QY 9 5 true 49 (dz fhg49_5) rfl rfl rfl (fO (OF.pickF (VEv.tmpB rfl (dz fhg49_5)) (VEv.bool false)) (nt (cf rfl (VRun.exit (vthn.e (vthn.e (vinB.e (tn (sr (mO (tN n) rfl (aO (tN n) rfl ?_)))))))))))
   refine nt (rt (vi (n':=((n:Nat):Int)) rfl ?_))
   (refine rD fhc0 ?_ hI'.2 ?_<;>first | omega | (unfold slD;omega))
  refine QY 7 8 true 34 (dz fhg34_3) rfl rfl rfl (gF (nz fhg31_2) rfl rfl (OF.pickF (VEv.tmpB rfl (dz fhg34_3)) (VEv.bool false)) (fO (OF.pickF (VEv.tmpB rfl (nz fhg31_2)) (tv (tB false) rfl)) (nt (cf rfl (sk (tn (sr (fO (OF.assign (VEv.int .i64 0)) (nt (sq (VRun.block ?_)))))))))))
  refine VRun.loop (A:=Nat) (fun s_=> [(1,(tN cell)),(3,(T.op 0 0)),(6,(tN 0)),(7,(tI g.Cols)),(8,(tN (cell / g.Cols.toNat))),(9,(tI g.Rows)),(10,(tN s_))]) (fun s_=>Q4 [(0,(Obj.cells (Qa false g)))]) 1 (fun s_=>s_≤6∧ZW g cell down s_) (fun s_=>6 - s_) (0:Nat) ?_ (Wk.mk (fun k=>k) ?_ ?_ ?_) ?_
  ·exact ⟨Nat.zero_le _,ZM _ _ _⟩
  ·exact (b2 (b2 (b2 (b2 (b2 (b2 (b2 bn)))))))
  ·exact (b3 bn)
  ·exact nd rfl
  rintro n (hI':n≤6∧ZW g cell down n)
  show VRun _ _ _ [(1,(tN cell)),(3,(T.op 0 0)),(6,(tN 0)),(7,(tI g.Cols)),(8,(tN (cell / g.Cols.toNat))),(9,(tI g.Rows)),(10,(tN n))] (Q4 [(0,(Obj.cells (Qa false g)))]) 1 _
  have hI1:=hI'.1
  have hN:=QbP hI1 hB.1 hB.2
  have hC6:=hC4 n
  have hC7:=hC5 n
  refine sq (sr (mO (tN (cell / g.Cols.toNat)) rfl (mO (tN n) rfl (fO (B.add (n:=(((cell / g.Cols.toNat+n):Nat):Int)) (tv (tN (cell / g.Cols.toNat)) rfl) (tv (tN n) rfl) (by (rw [Qz (by omega)];omega))) (mO (tI g.Rows) rfl (fO (xls (tv (tN (cell / g.Cols.toNat+n)) rfl) (tv (tI g.Rows) rfl)) (mO (tB (decide ((((cell / g.Cols.toNat+n):Nat):Int)<g.Rows))) rfl ?_)))))))
  refine gw ((((cell / g.Cols.toNat+n):Nat):Int)<g.Rows) (fun fhg49_7=> ?_) fun fhg49_7=> ?_
  ·refine glf (tS g.Cells) (dy fhg49_7) rfl rfl rfl rfl QC rfl rfl ZX ?_
   refine gF (dy fhg49_7) rfl rfl (OF.move (tv (tN cell) rfl)) (gF (dy fhg49_7) rfl rfl (OF.move (tv (tN n) rfl)) (gF (dy fhg49_7) rfl rfl (OF.move (tv (tI g.Cols) rfl)) (gF (dy fhg49_7) rfl rfl (B.mul (n:=(((n:Nat):Int)*g.Cols)) (tv (tN n) rfl) (tv (tI g.Cols) rfl) (by (refine Qdg ?_ ?_ ?_<;>omega))) (gF (dy fhg49_7) rfl rfl (B.add (n:=(((cell:Nat):Int)+(((n:Nat):Int)*g.Cols))) (tv (tN cell) rfl) (tv (tI (((n:Nat):Int)*g.Cols)) rfl) (by (rw [Qz (by omega)];done))) ?_))))
   have hb8:(Int.toNat (((cell:Nat):Int)+(((n:Nat):Int)*g.Cols)))<g.Cells.size:=(by omega)
   refine gF (dy fhg49_7) rfl rfl (B.index (n:=(QK g.Cells (Int.toNat (((cell:Nat):Int)+(((n:Nat):Int)*g.Cols))))) (i:=(Int.toNat (((cell:Nat):Int)+(((n:Nat):Int)*g.Cols)))) (tv (tS g.Cells) rfl) (tv (tI (((cell:Nat):Int)+(((n:Nat):Int)*g.Cols))) rfl) (by omega) hb8 U9 (Ya hb8)) (gF (dy fhg49_7) rfl rfl (xeq (tv (T.int .u8 (QK g.Cells (Int.toNat (((cell:Nat):Int)+(((n:Nat):Int)*g.Cols))))) rfl) (VEv.int .u8 46)) (fO (OF.pickT (VEv.tmpB rfl (dy fhg49_7)) (tv (tB (decide (QK g.Cells (Int.toNat (((cell:Nat):Int)+(((n:Nat):Int)*g.Cols)))=46))) rfl)) (nt ?_)))
   refine cd (QK g.Cells (Int.toNat (((cell:Nat):Int)+(((n:Nat):Int)*g.Cols)))=46) rfl (fun fhc2=> ?_) fun fhc2=> ?_
   ·refine sk ?_
    refine tn (VRun.block (VRun.region (mO (tN n) rfl (fO (QF (tv (tN n) rfl) (VEv.int .i64 1) (by omega)) (aO (tN (n+1)) rfl (VRunO.nil (vinB.n (tn ?_))))))))
    refine ⟨(n+1:Nat),?_,?_,Wk.mk (fun k=>k) ?_ ?_ ?_⟩
    ·(refine ⟨?_,QfX fhc0 hI'.2 ?_ ?_⟩<;>first | omega | (unfold slD;omega))
    ·omega
    ·exact (b2 (b2 (b2 (b2 (b2 (b2 (b2 bn)))))))
    ·exact (b3 bn)
    ·exact nd rfl
   refine VRun.exit (vthn.e (vthn.e (vinB.e (tn (sr (mO (tN n) rfl (aO (tN n) rfl (nt (rt (vi (n':=((n:Nat):Int)) rfl ?_))))))))))
   (refine rD fhc0 ?_ hI'.2 ?_<;>first | omega | (unfold slD;omega))
  refine QY 9 5 true 49 (dz fhg49_7) rfl rfl rfl (fO (OF.pickF (VEv.tmpB rfl (dz fhg49_7)) (VEv.bool false)) (nt (cf rfl (VRun.exit (vthn.e (vthn.e (vinB.e (tn (sr (mO (tN n) rfl (aO (tN n) rfl ?_)))))))))))
  refine nt (rt (vi (n':=((n:Nat):Int)) rfl ?_))
  (refine rD fhc0 ?_ hI'.2 ?_<;>first | omega | (unfold slD;omega))
 have fhc0:down=false:=hc0
 refine sk (tn (sq (sr (lf (tS g.Cells) rfl QC rfl rfl ZX (mO (tN cell) rfl ?_)))))
 have hb9:cell<g.Cells.size:=(by omega)
 refine fO (xix (tv (tS g.Cells) rfl) (tv (tN cell) rfl) hb9 U9) (fO (xne (tv (T.int .u8 (QK g.Cells cell)) rfl) (VEv.int .u8 46)) (mO (tB (!(decide (QK g.Cells cell=46)))) rfl ?_))
 refine gn (QK g.Cells cell=46) (fun fhg31_10=> ?_) fun fhg31_10=> ?_
 ·refine QY 3 5 false 31 (ny fhg31_10) rfl rfl rfl ?_
  refine Qfy 7 8 true 34 rfl rfl rfl (oO rfl rfl (ny fhg31_10) (fO (OF.pickT (VEv.tmpB rfl (ny fhg31_10)) (VEv.bool true)) (nt (ct rfl (sr (fO (OF.assign (VEv.int .i64 0)) (nt (rt (tr (vi (n':=0) rfl ?_))))))))))
  (refine zA fhc0 ?_;omega)
 refine gF (nz fhg31_10) rfl rfl (OF.move (tv (tN (cell % g.Cols.toNat)) rfl)) (gF (nz fhg31_10) rfl rfl (B.gtr (c:=(decide (0<cell % g.Cols.toNat))) (tv (tN (cell % g.Cols.toNat)) rfl) (VEv.int .i64 0) (by exact Zb (by omega))) (gF (nz fhg31_10) rfl rfl (OF.move (tv (tB (decide (0<cell % g.Cols.toNat))) rfl)) ?_))
 refine gw (0<cell % g.Cols.toNat) (fun fhg34_11=> ?_) fun fhg34_11=> ?_
 ·refine glf (tS g.Cells) (dy fhg34_11) rfl rfl rfl rfl QC rfl rfl ZX ?_
  refine gF (dy fhg34_11) rfl rfl (OF.move (tv (tN cell) rfl)) (gF (dy fhg34_11) rfl rfl (OF.move (tv (tN 1) rfl)) (gF (dy fhg34_11) rfl rfl (B.sub (n:=(((cell:Nat):Int) - 1)) (tv (tN cell) rfl) (tv (tN 1) rfl) (by (rw [Qz (by omega)];omega))) ?_))
  have hb12:(Int.toNat (((cell:Nat):Int) - 1))<g.Cells.size:=(by omega)
  refine gF (dy fhg34_11) rfl rfl (B.index (n:=(QK g.Cells (Int.toNat (((cell:Nat):Int) - 1)))) (i:=(Int.toNat (((cell:Nat):Int) - 1))) (tv (tS g.Cells) rfl) (tv (tI (((cell:Nat):Int) - 1)) rfl) (by omega) hb12 U9 (Ya hb12)) (gF (dy fhg34_11) rfl rfl (xeq (tv (T.int .u8 (QK g.Cells (Int.toNat (((cell:Nat):Int) - 1)))) rfl) (VEv.int .u8 46)) (gF (nz fhg31_10) rfl rfl (OF.pickT (VEv.tmpB rfl (dy fhg34_11)) (tv (tB (decide (QK g.Cells (Int.toNat (((cell:Nat):Int) - 1))=46))) rfl)) (fO (OF.pickF (VEv.tmpB rfl (nz fhg31_10)) (tv (tB (decide (QK g.Cells (Int.toNat (((cell:Nat):Int) - 1))=46))) rfl)) (nt ?_))))
  refine cd (QK g.Cells (Int.toNat (((cell:Nat):Int) - 1))=46) rfl (fun fhc1=> ?_) fun fhc1=> ?_
  ·refine sr ?_
   refine fO (OF.assign (VEv.int .i64 0)) (nt (rt (tr (vi (n':=0) rfl ?_))))
   (refine zA fhc0 ?_;omega)
  refine sk (tn (sr (fO (OF.assign (VEv.int .i64 0)) (nt (sq (VRun.block ?_))))))
  refine VRun.loop (A:=Nat) (fun s_=> [(1,(tN cell)),(3,(T.op 0 0)),(6,(tN 0)),(7,(tN 1)),(8,(tN (cell % g.Cols.toNat))),(9,(tI g.Cols)),(10,(tN s_))]) (fun s_=>Q4 [(0,(Obj.cells (Qa false g)))]) 1 (fun s_=>s_≤6∧ZW g cell down s_) (fun s_=>6 - s_) (0:Nat) ?_ (Wk.mk (fun k=>k) ?_ ?_ ?_) ?_
  ·exact ⟨Nat.zero_le _,ZM _ _ _⟩
  ·exact (b2 (b2 (b2 (b2 (b2 (b2 (b2 bn)))))))
  ·exact (b3 bn)
  ·exact nd rfl
  rintro n (hI':n≤6∧ZW g cell down n)
  show VRun _ _ _ [(1,(tN cell)),(3,(T.op 0 0)),(6,(tN 0)),(7,(tN 1)),(8,(tN (cell % g.Cols.toNat))),(9,(tI g.Cols)),(10,(tN n))] (Q4 [(0,(Obj.cells (Qa false g)))]) 1 _
  have hI1:=hI'.1
  have hN:=QbP hI1 hB.1 hB.2
  have hC6:=hC4 n
  have hC7:=hC5 n
  refine sq (sr (mO (tN (cell % g.Cols.toNat)) rfl (mO (tN n) rfl (fO (B.add (n:=(((cell % g.Cols.toNat+n):Nat):Int)) (tv (tN (cell % g.Cols.toNat)) rfl) (tv (tN n) rfl) (by (rw [Qz (by omega)];omega))) (mO (tI g.Cols) rfl (fO (xls (tv (tN (cell % g.Cols.toNat+n)) rfl) (tv (tI g.Cols) rfl)) (mO (tB (decide ((((cell % g.Cols.toNat+n):Nat):Int)<g.Cols))) rfl ?_)))))))
  refine gw ((((cell % g.Cols.toNat+n):Nat):Int)<g.Cols) (fun fhg49_13=> ?_) fun fhg49_13=> ?_
  ·refine glf (tS g.Cells) (dy fhg49_13) rfl rfl rfl rfl QC rfl rfl ZX ?_
   refine gF (dy fhg49_13) rfl rfl (OF.move (tv (tN cell) rfl)) (gF (dy fhg49_13) rfl rfl (OF.move (tv (tN n) rfl)) (gF (dy fhg49_13) rfl rfl (OF.move (tv (tN 1) rfl)) (gF (dy fhg49_13) rfl rfl (B.mul (n:=(((n*1):Nat):Int)) (tv (tN n) rfl) (tv (tN 1) rfl) (by (rw [Qz (by omega)];omega))) (gF (dy fhg49_13) rfl rfl (B.add (n:=(((cell+(n*1)):Nat):Int)) (tv (tN cell) rfl) (tv (tN (n*1)) rfl) (by (rw [Qz (by omega)];omega))) ?_))))
   have hb14:(cell+(n*1))<g.Cells.size:=(by omega)
   refine gF (dy fhg49_13) rfl rfl (xix (tv (tS g.Cells) rfl) (tv (tN (cell+(n*1))) rfl) hb14 U9) (gF (dy fhg49_13) rfl rfl (xeq (tv (T.int .u8 (QK g.Cells (cell+(n*1)))) rfl) (VEv.int .u8 46)) (fO (OF.pickT (VEv.tmpB rfl (dy fhg49_13)) (tv (tB (decide (QK g.Cells (cell+(n*1))=46))) rfl)) (nt ?_)))
   refine cd (QK g.Cells (cell+(n*1))=46) rfl (fun fhc2=> ?_) fun fhc2=> ?_
   ·refine sk ?_
    refine tn (VRun.block (VRun.region (mO (tN n) rfl (fO (QF (tv (tN n) rfl) (VEv.int .i64 1) (by omega)) (aO (tN (n+1)) rfl (VRunO.nil (vinB.n (tn ?_))))))))
    refine ⟨(n+1:Nat),?_,?_,Wk.mk (fun k=>k) ?_ ?_ ?_⟩
    ·(refine ⟨?_,QfI fhc0 hI'.2 ?_ ?_⟩<;>first | omega | (unfold slA;omega))
    ·omega
    ·exact (b2 (b2 (b2 (b2 (b2 (b2 (b2 bn)))))))
    ·exact (b3 bn)
    ·exact nd rfl
   refine VRun.exit (vthn.e (vthn.e (vinB.e (tn (sr (mO (tN n) rfl (aO (tN n) rfl (nt (rt (vi (n':=((n:Nat):Int)) rfl ?_))))))))))
   (refine rA fhc0 ?_ hI'.2 ?_<;>first | omega | (unfold slA;omega))
  refine QY 9 5 true 49 (dz fhg49_13) rfl rfl rfl (fO (OF.pickF (VEv.tmpB rfl (dz fhg49_13)) (VEv.bool false)) (nt (cf rfl (VRun.exit (vthn.e (vthn.e (vinB.e (tn (sr (mO (tN n) rfl (aO (tN n) rfl ?_)))))))))))
  refine nt (rt (vi (n':=((n:Nat):Int)) rfl ?_))
  (refine rA fhc0 ?_ hI'.2 ?_<;>first | omega | (unfold slA;omega))
 refine QY 7 8 true 34 (dz fhg34_11) rfl rfl rfl (gF (nz fhg31_10) rfl rfl (OF.pickF (VEv.tmpB rfl (dz fhg34_11)) (VEv.bool false)) (fO (OF.pickF (VEv.tmpB rfl (nz fhg31_10)) (tv (tB false) rfl)) (nt (cf rfl (sk (tn (sr (fO (OF.assign (VEv.int .i64 0)) (nt (sq (VRun.block ?_)))))))))))
 refine VRun.loop (A:=Nat) (fun s_=> [(1,(tN cell)),(3,(T.op 0 0)),(6,(tN 0)),(7,(tN 1)),(8,(tN (cell % g.Cols.toNat))),(9,(tI g.Cols)),(10,(tN s_))]) (fun s_=>Q4 [(0,(Obj.cells (Qa false g)))]) 1 (fun s_=>s_≤6∧ZW g cell down s_) (fun s_=>6 - s_) (0:Nat) ?_ (Wk.mk (fun k=>k) ?_ ?_ ?_) ?_
 ·exact ⟨Nat.zero_le _,ZM _ _ _⟩
 ·exact (b2 (b2 (b2 (b2 (b2 (b2 (b2 bn)))))))
 ·exact (b3 bn)
 ·exact nd rfl
 rintro n (hI':n≤6∧ZW g cell down n)
 show VRun _ _ _ [(1,(tN cell)),(3,(T.op 0 0)),(6,(tN 0)),(7,(tN 1)),(8,(tN (cell % g.Cols.toNat))),(9,(tI g.Cols)),(10,(tN n))] (Q4 [(0,(Obj.cells (Qa false g)))]) 1 _
 have hI1:=hI'.1
 have hN:=QbP hI1 hB.1 hB.2
 have hC6:=hC4 n
 have hC7:=hC5 n
 refine sq (sr (mO (tN (cell % g.Cols.toNat)) rfl (mO (tN n) rfl (fO (B.add (n:=(((cell % g.Cols.toNat+n):Nat):Int)) (tv (tN (cell % g.Cols.toNat)) rfl) (tv (tN n) rfl) (by (rw [Qz (by omega)];omega))) (mO (tI g.Cols) rfl (fO (xls (tv (tN (cell % g.Cols.toNat+n)) rfl) (tv (tI g.Cols) rfl)) (mO (tB (decide ((((cell % g.Cols.toNat+n):Nat):Int)<g.Cols))) rfl ?_)))))))
 refine gw ((((cell % g.Cols.toNat+n):Nat):Int)<g.Cols) (fun fhg49_15=> ?_) fun fhg49_15=> ?_
 ·refine glf (tS g.Cells) (dy fhg49_15) rfl rfl rfl rfl QC rfl rfl ZX ?_
  refine gF (dy fhg49_15) rfl rfl (OF.move (tv (tN cell) rfl)) (gF (dy fhg49_15) rfl rfl (OF.move (tv (tN n) rfl)) (gF (dy fhg49_15) rfl rfl (OF.move (tv (tN 1) rfl)) (gF (dy fhg49_15) rfl rfl (B.mul (n:=(((n*1):Nat):Int)) (tv (tN n) rfl) (tv (tN 1) rfl) (by (rw [Qz (by omega)];omega))) (gF (dy fhg49_15) rfl rfl (B.add (n:=(((cell+(n*1)):Nat):Int)) (tv (tN cell) rfl) (tv (tN (n*1)) rfl) (by (rw [Qz (by omega)];omega))) ?_))))
  have hb16:(cell+(n*1))<g.Cells.size:=(by omega)
  refine gF (dy fhg49_15) rfl rfl (xix (tv (tS g.Cells) rfl) (tv (tN (cell+(n*1))) rfl) hb16 U9) (gF (dy fhg49_15) rfl rfl (xeq (tv (T.int .u8 (QK g.Cells (cell+(n*1)))) rfl) (VEv.int .u8 46)) (fO (OF.pickT (VEv.tmpB rfl (dy fhg49_15)) (tv (tB (decide (QK g.Cells (cell+(n*1))=46))) rfl)) (nt ?_)))
  refine cd (QK g.Cells (cell+(n*1))=46) rfl (fun fhc2=> ?_) fun fhc2=> ?_
  ·refine sk ?_
   refine tn (VRun.block (VRun.region (mO (tN n) rfl (fO (QF (tv (tN n) rfl) (VEv.int .i64 1) (by omega)) (aO (tN (n+1)) rfl (VRunO.nil (vinB.n (tn ?_))))))))
   refine ⟨(n+1:Nat),?_,?_,Wk.mk (fun k=>k) ?_ ?_ ?_⟩
   ·(refine ⟨?_,QfI fhc0 hI'.2 ?_ ?_⟩<;>first | omega | (unfold slA;omega))
   ·omega
   ·exact (b2 (b2 (b2 (b2 (b2 (b2 (b2 bn)))))))
   ·exact (b3 bn)
   ·exact nd rfl
  refine VRun.exit (vthn.e (vthn.e (vinB.e (tn (sr (mO (tN n) rfl (aO (tN n) rfl (nt (rt (vi (n':=((n:Nat):Int)) rfl ?_))))))))))
  (refine rA fhc0 ?_ hI'.2 ?_<;>first | omega | (unfold slA;omega))
 refine QY 9 5 true 49 (dz fhg49_15) rfl rfl rfl (fO (OF.pickF (VEv.tmpB rfl (dz fhg49_15)) (VEv.bool false)) (nt (cf rfl (VRun.exit (vthn.e (vthn.e (vinB.e (tn (sr (mO (tN n) rfl (aO (tN n) rfl ?_)))))))))))
 refine nt (rt (vi (n':=((n:Nat):Int)) rfl ?_))
 (refine rA fhc0 ?_ hI'.2 ?_<;>first | omega | (unfold slA;omega))
end Go.Proofs.YthifchndolccgaaDoor.AE
namespace Go.Proofs.YthifchndolccgaaDoor.AE
open Go Go.RowKit
set_option linter.unusedVariables false
set_option linter.unusedSimpArgs false
set_option maxRecDepth 20000
set_option maxHeartbeats 2000000
noncomputable section
def Qhk (g:D.Grid) (st:List D.Slot×Nat) (i:Nat):List D.Slot×Nat :=
 let k:=if 2≤Qk g i false∨2≤Qk g i true then st.2+1 else st.2
 ((st.1++(if 2≤Qk g i false then [D.Slot.mk ((k:Nat):Int) false ((i:Nat):Int) ((Qk g i false:Nat):Int)] else []))++(if 2≤Qk g i true then [D.Slot.mk ((k:Nat):Int) true ((i:Nat):Int) ((Qk g i true:Nat):Int)] else []),k)
def Qc (g:D.Grid):Nat→List D.Slot×Nat
 | 0=>([],0)
 | i+1=>Qhk g (Qc g i) i
def Qb (g:D.Grid):List D.Slot:=if gridOk g then (Qc g g.Cells.size).1 else []
theorem ZJ (g:D.Grid) (i:Nat):(Qc g (i+1)).1=((Qc g i).1++(if 2≤Qk g i false then [D.Slot.mk (((Qc g (i+1)).2:Nat):Int) false ((i:Nat):Int) ((Qk g i false:Nat):Int)] else []))++(if 2≤Qk g i true then [D.Slot.mk (((Qc g (i+1)).2:Nat):Int) true ((i:Nat):Int) ((Qk g i true:Nat):Int)] else []):=rfl
theorem Zf (g:D.Grid) (i:Nat):(Qc g (i+1)).2=if 2≤Qk g i false∨2≤Qk g i true then (Qc g i).2+1 else (Qc g i).2:=rfl
theorem JS (g:D.Grid):∀i,(Qc g i).2≤i∧(Qc g i).1.length≤2*i
 | 0=>⟨Nat.le_refl _,Nat.le_refl _⟩
 | i+1=>by
  have h:=JS g i
  rw [ZJ,Zf]
  refine ⟨by split<;>omega,?_⟩
  rw [List.length_append,List.length_append]
  have e:∀(c:Prop) [Decidable c] (x:D.Slot),(if c then [x] else []).length≤1:=fun c _ x=>by split<;>simp
  refine Nat.le_trans (Nat.add_le_add (Nat.add_le_add h.2 (e _ _)) (e _ _)) ?_
  omega
theorem Qa7 {g:D.Grid} {i:Nat} (h1:i≤g.Cells.size) (h2:gridOk g∨i=0) (h3:¬i<g.Cells.size∨¬gridOk g):(Qc g i).1=Qb g:=by
 unfold Qb
 split
 ·rename_i hh
  rcases h3 with h3 | h3
  ·rw [show i=g.Cells.size by omega]
  ·contradiction
 ·rename_i hh
  rw [h2.resolve_left hh]
  rfl
theorem Qgg {g:D.Grid} (h:¬gridOk g):Qb g= []:=if_neg h
theorem QZ (g:D.Grid):(Qb g).length≤72:=by
 unfold Qb
 split
 ·rename_i hh
  have:=hh.size
  have:=(JS g g.Cells.size).2
  omega
 ·simp
end
theorem Zk (n:Nat) (g:D.Grid) (hc:g.Cells.size≤maxLen):Pure (Qw Tryd.prog (n+3)) 50 [(T.agg (Qa false g))] (T.sl true 4 ((Qb g).map (Qg true))):=by
 refine Pure.intro (rs:= [ResultVar.tmp 2]) Tryd.func50 rfl rfl rfl (E0:= [(0,(T.agg (Qa false g)))]) rfl ?_
 obtain ⟨hlim,hmx,hmax⟩:=QR
 refine sr (kO (B.box (ts:=(Qa false g)) (tv (T.agg (Qa false g)) rfl) nofun rfl) (fO (OF.assign VEv.nils) (nt (sr (kO (OM.slice0 Jl YD (by kernel_rfl) rfl (by rw [Zr];decide) Zr) (aO (T.os 4 1 0 0) rfl (nt (sr (fO (OF.assign (VEv.int .i64 0)) (nt (sq ?_)))))))))))
 refine sr (fO (OF.assign (VEv.int .i64 0)) (nt (VRun.block ?_)))
 have he1: []=(((Qc g 0).1).map (Qg true)):=by rfl
 refine VRun.loop (A:=Nat) (fun s_=> [(1,(T.op 0 0)),(2,T.nils),(3,(T.os 4 1 0 ((((Qc g s_).1).map (Qg true)).length))),(4,(tN ((Qc g s_).2))),(5,(tN s_))]) (fun s_=>Q4 [(0,(Obj.cells (Qa false g))),(1,(Obj.rows 4 (((Qc g s_).1).map (Qg true))))]) 2 (fun s_=>s_≤g.Cells.size∧(gridOk g∨s_=0)) (fun s_=>g.Cells.size - s_) (0:Nat) ?_ (Wk.mk (fun k=>k) ?_ ?_ ?_) ?_
 ·exact ⟨Nat.zero_le _, .inr rfl⟩
 ·exact (b2 (b2 (bc ⟨(congrArg (fun n_=>T.os 4 1 0 n_) (show 0=(((Qc g 0).1).map (Qg true)).length from (by rfl))),rfl⟩ (bc ⟨(congrArg (T.int .i64) (show 0=(((Qc g 0).2:Nat):Int) from (by rfl))),rfl⟩ (b2 bn)))))
 ·exact (b3 (bc ⟨(congrArg (fun l_=>some (Obj.rows 4 l_)) he1),(lb rfl),rfl⟩ bn))
 ·exact nd rfl
 rintro i (hI':i≤g.Cells.size∧(gridOk g∨i=0))
 show VRun _ _ _ [(1,(T.op 0 0)),(2,T.nils),(3,(T.os 4 1 0 ((((Qc g i).1).map (Qg true)).length))),(4,(tN ((Qc g i).2))),(5,(tN i))] (Q4 [(0,(Obj.cells (Qa false g))),(1,(Obj.rows 4 (((Qc g i).1).map (Qg true))))]) 2 _
 have hI1:=hI'.1
 have hbd:=JS g i
 refine sq (sr (mO (tN i) rfl (lf (tS g.Cells) rfl QC rfl rfl ZX (lO (B.lenS (tv (tS g.Cells) rfl) U9) (fO (Zx (tv (tN i) rfl) (tv (tN g.Cells.size) rfl)) (mO (tB (decide (i<g.Cells.size))) rfl ?_))))))
 refine gw (i<g.Cells.size) (fun fhg14_2=> ?_) fun fhg14_2=> ?_
 ·refine gL (dy fhg14_2) rfl rfl (OL.loadOn (us:=(Qa false g)) (tv (T.op 0 0) rfl) rfl QO QM (lb rfl) rfl) ?_
  refine VRunO.chain (VWant.on rfl rfl (dy fhg14_2)) (cS (vc (tv (T.agg (Qa false g)) rfl) vn) (LendL.cons (lg Qq) ln) (Zi (n+0) g (by assumption)) rfl rfl) (fO (OF.pickT (VEv.tmpB rfl (dy fhg14_2)) (tv (tB (decide (gridOk g))) rfl)) (nt ?_))
  refine cd (gridOk g) rfl (fun fhc0=> ?_) fun fhc0=> ?_
  ·have hgo:gridOk g:=by assumption
   have hsz:=hgo.size
   refine sk (tn (sq (VRun.block (sr (lO (OL.loadOn (us:=(Qa false g)) (tv (T.op 0 0) rfl) rfl QO QM (lb rfl) rfl) (mO (tN i) rfl (cO (cS (vc (tv (T.agg (Qa false g)) rfl) (vc (tv (tN i) rfl) (vc (VEv.bool false) vn))) (LendL.cons (lg Qq) (lp rfl (lp rfl ln))) (J2 (n+1) g i false (by assumption) (by assumption)) rfl rfl) (aO (tN (Qk g i false)) rfl (nt (sr (lO (OL.loadOn (us:=(Qa false g)) (tv (T.op 0 0) rfl) rfl QO QM (lb rfl) rfl) ?_)))))))))))
   refine mO (tN i) rfl (cO (cS (vc (tv (T.agg (Qa false g)) rfl) (vc (tv (tN i) rfl) (vc (VEv.bool true) vn))) (LendL.cons (lg Qq) (lp rfl (lp rfl ln))) (J2 (n+1) g i true (by assumption) (by assumption)) rfl rfl) (aO (tN (Qk g i true)) rfl (nt (sq (sr (mO (tN (Qk g i false)) rfl (fO (B.geq (c:=(decide (2≤Qk g i false))) (tv (tN (Qk g i false)) rfl) (VEv.int .i64 2) (by exact Zb (by omega))) (mO (tB (decide (2≤Qk g i false))) rfl ?_))))))))
   refine gw (2≤Qk g i false) (fun fhg28_3=> ?_) fun fhg28_3=> ?_
   ·refine QY 2 2 false 28 (dy fhg28_3) rfl rfl rfl ?_
    refine fO (OF.pickT (VEv.tmpB rfl (dy fhg28_3)) (VEv.bool true)) (nt (ct rfl (VRun.region (mO (tN ((Qc g i).2)) rfl (fO (QF (tv (tN ((Qc g i).2)) rfl) (VEv.int .i64 1) (by omega)) (aO (tN ((Qc g i).2+1)) rfl (VRunO.nil (tn (sq (sr (mO (tN (Qk g i false)) rfl ?_)))))))))))
    refine fO (B.geq (c:=(decide (2≤Qk g i false))) (tv (tN (Qk g i false)) rfl) (VEv.int .i64 2) (by exact Zb (by omega))) (nt (ck (dy fhg28_3) rfl (VRun.region (mO (T.os 4 1 0 ((((Qc g i).1).map (Qg true)).length)) rfl (mO (tN ((Qc g i).2+1)) rfl (mO (tN i) rfl (mO (tN (Qk g i false)) rfl (fO (OF.build (l:= [(0,(tN ((Qc g i).2+1))),(2,(tN i)),(3,(tN (Qk g i false)))]) (zs:= [(tN 0),(tB false),(tN 0),(tN 0)]) (out:= [(tN ((Qc g i).2+1)),(tB false),(tN i),(tN (Qk g i false))]) (VEvp.cons (i:=0) (tv (tN ((Qc g i).2+1)) rfl) (VEvp.cons (i:=2) (tv (tN i) rfl) (VEvp.cons (i:=3) (tv (tN (Qk g i false)) rfl) VEvp.nil))) (bc nofun (bc nofun (bc nofun bn))) Tryd.underlying98 YD (fun _=>RL.cons (.int _ _) (RL.cons (.bool _) (RL.cons (.int _ _) (RL.cons (.int _ _) (RL.nil _))))) (by kernel_rfl) (by kernel_rfl)) (kO (OM.buildSlice (l:= [(T.agg [(tN ((Qc g i).2+1)),(tB false),(tN i),(tN (Qk g i false))])]) (VEvp.cons (tv (T.agg [(tN ((Qc g i).2+1)),(tB false),(tN i),(tN (Qk g i false))]) rfl) VEvp.nil) rfl (by decide) (bc (nofun) bn) (bc ((bc (rfl) (bc (rfl) (bc (rfl) (bc (rfl) bn))))) bn) (bc (rfl) bn) Jl YD (by kernel_rfl) rfl (by rw [Zr];decide) Zr (Nat.le_of_ble_eq_true rfl)) (cO (B.append (rows:=(((Qc g i).1).map (Qg true))) (rows2:= [[(tN ((Qc g i).2+1)),(tB false),(tN i),(tN (Qk g i false))]]) (rows3:=(((Qc g i).1++ [(D.Slot.mk ((((Qc g i).2+1):Nat):Int) false ((i:Nat):Int) ((Qk g i false:Nat):Int))]).map (Qg true))) (VDst.own (tv (T.os 4 1 0 ((((Qc g i).1).map (Qg true)).length)) rfl) rfl rfl) (VSrc.own (tv (T.os 4 2 0 1) rfl) rfl rfl Jl (bc (bc rfl (bc rfl (bc rfl (bc rfl bn)))) bn)) (by decide) Jl Zr (by decide) YD rfl (of_decide_eq_true (by kernel_rfl)) (by (simp only [List.length_map,List.length_append,List.length_cons,List.length_nil,List.length_replicate,List.length_set,List.length_drop,List.length_take,Z7] at *;omega)) ((List.map_append (f:=Qg true) (l₁:=(Qc g i).1) (l₂:= [(D.Slot.mk ((((Qc g i).2+1):Nat):Int) false ((i:Nat):Int) ((Qk g i false:Nat):Int))])).symm)) (aO (T.os 4 3 0 ((((Qc g i).1++ [(D.Slot.mk ((((Qc g i).2+1):Nat):Int) false ((i:Nat):Int) ((Qk g i false:Nat):Int))]).map (Qg true)).length)) rfl ?_)))))))))))
    refine VRunO.nil (tn (sr (mO (tN (Qk g i true)) rfl (fO (B.geq (c:=(decide (2≤Qk g i true))) (tv (tN (Qk g i true)) rfl) (VEv.int .i64 2) (by exact Zb (by omega))) (nt ?_)))))
    refine cd (2≤Qk g i true) rfl (fun fhc3=> ?_) fun fhc3=> ?_
    ·refine VRun.region ?_
     refine mO (T.os 4 3 0 ((((Qc g i).1++ [(D.Slot.mk ((((Qc g i).2+1):Nat):Int) false ((i:Nat):Int) ((Qk g i false:Nat):Int))]).map (Qg true)).length)) rfl (mO (tN ((Qc g i).2+1)) rfl (mO (tN i) rfl (mO (tN (Qk g i true)) rfl (fO (OF.build (l:= [(0,(tN ((Qc g i).2+1))),(1,(tB true)),(2,(tN i)),(3,(tN (Qk g i true)))]) (zs:= [(tN 0),(tB false),(tN 0),(tN 0)]) (out:= [(tN ((Qc g i).2+1)),(tB true),(tN i),(tN (Qk g i true))]) (VEvp.cons (i:=0) (tv (tN ((Qc g i).2+1)) rfl) (VEvp.cons (i:=1) (VEv.bool true) (VEvp.cons (i:=2) (tv (tN i) rfl) (VEvp.cons (i:=3) (tv (tN (Qk g i true)) rfl) VEvp.nil)))) (bc nofun (bc nofun (bc nofun (bc nofun bn)))) Tryd.underlying98 YD (fun _=>RL.cons (.int _ _) (RL.cons (.bool _) (RL.cons (.int _ _) (RL.cons (.int _ _) (RL.nil _))))) (by kernel_rfl) (by kernel_rfl)) (kO (OM.buildSlice (l:= [(T.agg [(tN ((Qc g i).2+1)),(tB true),(tN i),(tN (Qk g i true))])]) (VEvp.cons (tv (T.agg [(tN ((Qc g i).2+1)),(tB true),(tN i),(tN (Qk g i true))]) rfl) VEvp.nil) rfl (by decide) (bc (nofun) bn) (bc ((bc (rfl) (bc (rfl) (bc (rfl) (bc (rfl) bn))))) bn) (bc (rfl) bn) Jl YD (by kernel_rfl) rfl (by rw [Zr];decide) Zr (Nat.le_of_ble_eq_true rfl)) (cO (B.append (rows:=(((Qc g i).1++ [(D.Slot.mk ((((Qc g i).2+1):Nat):Int) false ((i:Nat):Int) ((Qk g i false:Nat):Int))]).map (Qg true))) (rows2:= [[(tN ((Qc g i).2+1)),(tB true),(tN i),(tN (Qk g i true))]]) (rows3:=((((Qc g i).1++ [(D.Slot.mk ((((Qc g i).2+1):Nat):Int) false ((i:Nat):Int) ((Qk g i false:Nat):Int))])++ [(D.Slot.mk ((((Qc g i).2+1):Nat):Int) true ((i:Nat):Int) ((Qk g i true:Nat):Int))]).map (Qg true))) (VDst.own (tv (T.os 4 3 0 ((((Qc g i).1++ [(D.Slot.mk ((((Qc g i).2+1):Nat):Int) false ((i:Nat):Int) ((Qk g i false:Nat):Int))]).map (Qg true)).length)) rfl) rfl rfl) (VSrc.own (tv (T.os 4 4 0 1) rfl) rfl rfl Jl (bc (bc rfl (bc rfl (bc rfl (bc rfl bn)))) bn)) (by decide) Jl Zr (by decide) YD rfl (of_decide_eq_true (by kernel_rfl)) (by (simp only [List.length_map,List.length_append,List.length_cons,List.length_nil,List.length_replicate,List.length_set,List.length_drop,List.length_take,Z7] at *;omega)) ((List.map_append (f:=Qg true) (l₁:=((Qc g i).1++ [(D.Slot.mk ((((Qc g i).2+1):Nat):Int) false ((i:Nat):Int) ((Qk g i false:Nat):Int))])) (l₂:= [(D.Slot.mk ((((Qc g i).2+1):Nat):Int) true ((i:Nat):Int) ((Qk g i true:Nat):Int))])).symm)) (aO (T.os 4 5 0 (((((Qc g i).1++ [(D.Slot.mk ((((Qc g i).2+1):Nat):Int) false ((i:Nat):Int) ((Qk g i false:Nat):Int))])++ [(D.Slot.mk ((((Qc g i).2+1):Nat):Int) true ((i:Nat):Int) ((Qk g i true:Nat):Int))]).map (Qg true)).length)) rfl (VRunO.nil (vinB.n (tn (VRun.region ?_)))))))))))
     refine mO (tN i) rfl (fO (QF (tv (tN i) rfl) (VEv.int .i64 1) (by omega)) (aO (tN (i+1)) rfl (VRunO.nil (tn ?_))))
     have hgo:gridOk g:=by assumption
     have he4:(((Qc g i).1++ [(D.Slot.mk ((((Qc g i).2+1):Nat):Int) false ((i:Nat):Int) ((Qk g i false:Nat):Int))])++ [(D.Slot.mk ((((Qc g i).2+1):Nat):Int) true ((i:Nat):Int) ((Qk g i true:Nat):Int))])=(Qc g (i+1)).1:=by (rw [ZJ,Zf];simp [*];done)
     refine ⟨(i+1:Nat),?_,?_,Wk.mk (fun k=>if k=1 then 5 else k) ?_ ?_ ?_⟩
     ·exact ⟨by omega, .inl hgo⟩
     ·omega
     ·exact (b2 (b2 (bc ⟨(congrArg (fun l_=>T.os 4 5 0 (List.map (Qg true) l_).length) he4),rfl⟩ (bc ⟨(congrArg (T.int .i64) (show ((((Qc g i).2+1):Nat):Int)=(((Qc g (i+1)).2:Nat):Int) from (by (rw [Zf];simp [*];done)))),rfl⟩ (b2 bn)))))
     ·exact (b3 (bc ⟨(congrArg (fun l_=>some (Obj.rows 4 (List.map (Qg true) l_))) he4),(lb rfl),rfl⟩ bn))
     ·exact nd rfl
    refine sk (vinB.n (tn (VRun.region (mO (tN i) rfl (fO (QF (tv (tN i) rfl) (VEv.int .i64 1) (by omega)) (aO (tN (i+1)) rfl (VRunO.nil (tn ?_))))))))
    have hgo:gridOk g:=by assumption
    have he5:((Qc g i).1++ [(D.Slot.mk ((((Qc g i).2+1):Nat):Int) false ((i:Nat):Int) ((Qk g i false:Nat):Int))])=(Qc g (i+1)).1:=by (rw [ZJ,Zf];simp [*];done)
    refine ⟨(i+1:Nat),?_,?_,Wk.mk (fun k=>if k=1 then 3 else k) ?_ ?_ ?_⟩
    ·exact ⟨by omega, .inl hgo⟩
    ·omega
    ·exact (b2 (b2 (bc ⟨(congrArg (fun l_=>T.os 4 3 0 (List.map (Qg true) l_).length) he5),rfl⟩ (bc ⟨(congrArg (T.int .i64) (show ((((Qc g i).2+1):Nat):Int)=(((Qc g (i+1)).2:Nat):Int) from (by (rw [Zf];simp [*];done)))),rfl⟩ (b2 bn)))))
    ·exact (b3 (bc ⟨(congrArg (fun l_=>some (Obj.rows 4 (List.map (Qg true) l_))) he5),(lb rfl),rfl⟩ bn))
    ·exact nd rfl
   refine gF (dz fhg28_3) rfl rfl (OF.move (tv (tN (Qk g i true)) rfl)) (gF (dz fhg28_3) rfl rfl (B.geq (c:=(decide (2≤Qk g i true))) (tv (tN (Qk g i true)) rfl) (VEv.int .i64 2) (by exact Zb (by omega))) (fO (OF.pickF (VEv.tmpB rfl (dz fhg28_3)) (tv (tB (decide (2≤Qk g i true))) rfl)) (nt ?_)))
   refine cd (2≤Qk g i true) rfl (fun fhc1=> ?_) fun fhc1=> ?_
   ·refine VRun.region ?_
    refine mO (tN ((Qc g i).2)) rfl (fO (QF (tv (tN ((Qc g i).2)) rfl) (VEv.int .i64 1) (by omega)) (aO (tN ((Qc g i).2+1)) rfl (VRunO.nil (tn (sq (sr (mO (tN (Qk g i false)) rfl (fO (B.geq (c:=(decide (2≤Qk g i false))) (tv (tN (Qk g i false)) rfl) (VEv.int .i64 2) (by exact Zb (by omega))) (nt (cg (dz fhg28_3) rfl (sk ?_)))))))))))
    refine tn (sr (mO (tN (Qk g i true)) rfl (fO (B.geq (c:=(decide (2≤Qk g i true))) (tv (tN (Qk g i true)) rfl) (VEv.int .i64 2) (by exact Zb (by omega))) (nt (ck (dy fhc1) rfl (VRun.region (mO (T.os 4 1 0 ((((Qc g i).1).map (Qg true)).length)) rfl (mO (tN ((Qc g i).2+1)) rfl (mO (tN i) rfl (mO (tN (Qk g i true)) rfl (fO (OF.build (l:= [(0,(tN ((Qc g i).2+1))),(1,(tB true)),(2,(tN i)),(3,(tN (Qk g i true)))]) (zs:= [(tN 0),(tB false),(tN 0),(tN 0)]) (out:= [(tN ((Qc g i).2+1)),(tB true),(tN i),(tN (Qk g i true))]) (VEvp.cons (i:=0) (tv (tN ((Qc g i).2+1)) rfl) (VEvp.cons (i:=1) (VEv.bool true) (VEvp.cons (i:=2) (tv (tN i) rfl) (VEvp.cons (i:=3) (tv (tN (Qk g i true)) rfl) VEvp.nil)))) (bc nofun (bc nofun (bc nofun (bc nofun bn)))) Tryd.underlying98 YD (fun _=>RL.cons (.int _ _) (RL.cons (.bool _) (RL.cons (.int _ _) (RL.cons (.int _ _) (RL.nil _))))) (by kernel_rfl) (by kernel_rfl)) ?_)))))))))))
    refine kO (OM.buildSlice (l:= [(T.agg [(tN ((Qc g i).2+1)),(tB true),(tN i),(tN (Qk g i true))])]) (VEvp.cons (tv (T.agg [(tN ((Qc g i).2+1)),(tB true),(tN i),(tN (Qk g i true))]) rfl) VEvp.nil) rfl (by decide) (bc (nofun) bn) (bc ((bc (rfl) (bc (rfl) (bc (rfl) (bc (rfl) bn))))) bn) (bc (rfl) bn) Jl YD (by kernel_rfl) rfl (by rw [Zr];decide) Zr (Nat.le_of_ble_eq_true rfl)) (cO (B.append (rows:=(((Qc g i).1).map (Qg true))) (rows2:= [[(tN ((Qc g i).2+1)),(tB true),(tN i),(tN (Qk g i true))]]) (rows3:=(((Qc g i).1++ [(D.Slot.mk ((((Qc g i).2+1):Nat):Int) true ((i:Nat):Int) ((Qk g i true:Nat):Int))]).map (Qg true))) (VDst.own (tv (T.os 4 1 0 ((((Qc g i).1).map (Qg true)).length)) rfl) rfl rfl) (VSrc.own (tv (T.os 4 2 0 1) rfl) rfl rfl Jl (bc (bc rfl (bc rfl (bc rfl (bc rfl bn)))) bn)) (by decide) Jl Zr (by decide) YD rfl (of_decide_eq_true (by kernel_rfl)) (by (simp only [List.length_map,List.length_append,List.length_cons,List.length_nil,List.length_replicate,List.length_set,List.length_drop,List.length_take,Z7] at *;omega)) ((List.map_append (f:=Qg true) (l₁:=(Qc g i).1) (l₂:= [(D.Slot.mk ((((Qc g i).2+1):Nat):Int) true ((i:Nat):Int) ((Qk g i true:Nat):Int))])).symm)) (aO (T.os 4 3 0 ((((Qc g i).1++ [(D.Slot.mk ((((Qc g i).2+1):Nat):Int) true ((i:Nat):Int) ((Qk g i true:Nat):Int))]).map (Qg true)).length)) rfl (VRunO.nil (vinB.n (tn (VRun.region (mO (tN i) rfl (fO (QF (tv (tN i) rfl) (VEv.int .i64 1) (by omega)) (aO (tN (i+1)) rfl (VRunO.nil (tn ?_)))))))))))
    have hgo:gridOk g:=by assumption
    have he6:((Qc g i).1++ [(D.Slot.mk ((((Qc g i).2+1):Nat):Int) true ((i:Nat):Int) ((Qk g i true:Nat):Int))])=(Qc g (i+1)).1:=by (rw [ZJ,Zf];simp [*];done)
    refine ⟨(i+1:Nat),?_,?_,Wk.mk (fun k=>if k=1 then 3 else k) ?_ ?_ ?_⟩
    ·exact ⟨by omega, .inl hgo⟩
    ·omega
    ·exact (b2 (b2 (bc ⟨(congrArg (fun l_=>T.os 4 3 0 (List.map (Qg true) l_).length) he6),rfl⟩ (bc ⟨(congrArg (T.int .i64) (show ((((Qc g i).2+1):Nat):Int)=(((Qc g (i+1)).2:Nat):Int) from (by (rw [Zf];simp [*];done)))),rfl⟩ (b2 bn)))))
    ·exact (b3 (bc ⟨(congrArg (fun l_=>some (Obj.rows 4 (List.map (Qg true) l_))) he6),(lb rfl),rfl⟩ bn))
    ·exact nd rfl
   refine sk (tn (sq (sr (mO (tN (Qk g i false)) rfl (fO (B.geq (c:=(decide (2≤Qk g i false))) (tv (tN (Qk g i false)) rfl) (VEv.int .i64 2) (by exact Zb (by omega))) (nt (cg (dz fhg28_3) rfl (sk (tn (sr (mO (tN (Qk g i true)) rfl ?_)))))))))))
   refine fO (B.geq (c:=(decide (2≤Qk g i true))) (tv (tN (Qk g i true)) rfl) (VEv.int .i64 2) (by exact Zb (by omega))) (nt (cg (dz fhc1) rfl (sk (vinB.n (tn (VRun.region (mO (tN i) rfl (fO (QF (tv (tN i) rfl) (VEv.int .i64 1) (by omega)) (aO (tN (i+1)) rfl (VRunO.nil (tn ?_)))))))))))
   have hgo:gridOk g:=by assumption
   have he7:(Qc g i).1=(Qc g (i+1)).1:=by (rw [ZJ,Zf];simp [*];done)
   refine ⟨(i+1:Nat),?_,?_,Wk.mk (fun k=>k) ?_ ?_ ?_⟩
   ·exact ⟨by omega, .inl hgo⟩
   ·omega
   ·exact (b2 (b2 (bc ⟨(congrArg (fun l_=>T.os 4 1 0 (List.map (Qg true) l_).length) he7),rfl⟩ (bc ⟨(congrArg (T.int .i64) (show (((Qc g i).2:Nat):Int)=(((Qc g (i+1)).2:Nat):Int) from (by (rw [Zf];simp [*];done)))),rfl⟩ (b2 bn)))))
   ·exact (b3 (bc ⟨(congrArg (fun l_=>some (Obj.rows 4 (List.map (Qg true) l_))) he7),(lb rfl),rfl⟩ bn))
   ·exact nd rfl
  refine VRun.exit (vthn.e (vthn.e (vinB.e (tn (sr (mO (T.os 4 1 0 ((((Qc g i).1).map (Qg true)).length)) rfl (aO (T.os 4 1 0 ((((Qc g i).1).map (Qg true)).length)) rfl (nt (rt ?_)))))))))
  refine vfin.eq (r':=(T.sl true 4 (((Qc g i).1).map (Qg true)))) ?_ (vfin.r (VRes.tmp (t:=(T.os 4 1 0 ((((Qc g i).1).map (Qg true)).length))) rfl VRes.nil) (Give.os rfl rfl (okeSlot.cleanMap _)))
  refine congrArg (fun l_=>T.sl true 4 (List.map (Qg true) l_)) ?_
  refine Qa7 hI1 hI'.2 ?_;(right;assumption)
 refine QY 2 5 true 14 (dz fhg14_2) rfl rfl rfl (fO (OF.pickF (VEv.tmpB rfl (dz fhg14_2)) (VEv.bool false)) (nt (cf rfl (VRun.exit (vthn.e (vthn.e (vinB.e (tn (sr (mO (T.os 4 1 0 ((((Qc g i).1).map (Qg true)).length)) rfl (aO (T.os 4 1 0 ((((Qc g i).1).map (Qg true)).length)) rfl ?_)))))))))))
 refine nt (rt ?_)
 refine vfin.eq (r':=(T.sl true 4 (((Qc g i).1).map (Qg true)))) ?_ (vfin.r (VRes.tmp (t:=(T.os 4 1 0 ((((Qc g i).1).map (Qg true)).length))) rfl VRes.nil) (Give.os rfl rfl (okeSlot.cleanMap _)))
 refine congrArg (fun l_=>T.sl true 4 (List.map (Qg true) l_)) ?_
 refine Qa7 hI1 hI'.2 ?_;(left;assumption)
theorem Yu (n:Nat) (g:D.Grid) (hc:g.Cells.size≤maxLen):Pure (Qw Tryd.prog (n+3)) 53 [(T.agg (Qa false g))] (T.sl true 4 ((Qb g).map (Qg true))):=by
 refine Pure.intro (rs:= [ResultVar.tmp 2]) Tryd.func53 rfl rfl rfl (E0:= [(0,(T.agg (Qa false g)))]) rfl ?_
 obtain ⟨hlim,hmx,hmax⟩:=QR
 refine sr (kO (B.box (ts:=(Qa false g)) (tv (T.agg (Qa false g)) rfl) nofun rfl) (fO (OF.assign VEv.nils) (nt (sq (sr (lO (OL.loadOn (us:=(Qa false g)) (tv (T.op 0 0) rfl) rfl QO QM (lb rfl) rfl) (cO (cS (vc (tv (T.agg (Qa false g)) rfl) vn) (LendL.cons (lg Qq) ln) (Zw (n+0) g (by assumption)) rfl rfl) (fO (ZL (tv (tB (decide (gridOk g))) rfl)) (nt ?_)))))))))
 refine cn (gridOk g) rfl (fun fhc0=> ?_) fun fhc0=> ?_
 ·refine sr ?_
  refine fO (OF.assign VEv.nils) (nt (rt (tr ?_)))
  refine vfin.eq (r':=(T.sl true 4 [])) ?_ (vfin.r (VRes.tmp (t:=T.nils) rfl VRes.nil) (Give.nils 4))
  refine congrArg (fun l_=>T.sl true 4 (List.map (Qg true) l_)) (a₁:= []) ?_
  exact (Qgg fhc0).symm
 refine sk (tn (sr (fO (OF.assign VEv.nils) (nt (sr (fO (OF.assign (VEv.int .i64 0)) (nt (sq (sr (lf (tS g.Cells) rfl QC rfl rfl ZX (lO (B.lenS (tv (tS g.Cells) rfl) U9) ?_)))))))))))
 refine fO (OF.move (VEv.int .i64 0)) (nt (VRun.block (VRun.wk (Wk.phantom 3 4 rfl) ?_)))
 have he1: []=(((Qc g 0).1).map (Qg true)):=by rfl
 refine VRun.loop (A:=Nat) (fun s_=> [(1,(T.op 0 0)),(2,T.nils),(3,(T.os 4 1 0 ((((Qc g s_).1).map (Qg true)).length))),(4,(tN ((Qc g s_).2))),(13,(tN g.Cells.size)),(14,(tN s_))]) (fun s_=>Q4 [(0,(Obj.cells (Qa false g))),(1,(Obj.rows 4 (((Qc g s_).1).map (Qg true))))]) 2 (fun s_=>s_≤g.Cells.size) (fun s_=>g.Cells.size - s_) (0:Nat) ?_ (Wk.mk (fun k=>k) ?_ ?_ ?_) ?_
 ·(simp;done)
 ·exact (b2 (b2 (bc ⟨(congrArg (fun n_=>T.os 4 1 0 n_) (show 0=(((Qc g 0).1).map (Qg true)).length from (by rfl))),rfl⟩ (bc ⟨(congrArg (T.int .i64) (show 0=(((Qc g 0).2:Nat):Int) from (by rfl))),rfl⟩ (b2 (b2 bn))))))
 ·exact (b3 (bc ⟨(congrArg (fun l_=>some (Obj.rows 4 l_)) he1),(lb rfl),rfl⟩ bn))
 ·exact nd rfl
 rintro i (hI':i≤g.Cells.size)
 show VRun _ _ _ [(1,(T.op 0 0)),(2,T.nils),(3,(T.os 4 1 0 ((((Qc g i).1).map (Qg true)).length))),(4,(tN ((Qc g i).2))),(13,(tN g.Cells.size)),(14,(tN i))] (Q4 [(0,(Obj.cells (Qa false g))),(1,(Obj.rows 4 (((Qc g i).1).map (Qg true))))]) 2 _
 have hI1:=hI'
 have hbd:=JS g i
 have hgo:gridOk g:=by assumption
 have hsz:=hgo.size
 refine sr (fO (Zx (tv (tN i) rfl) (tv (tN g.Cells.size) rfl)) (nt (sq ?_)))
 refine cd (i<g.Cells.size) rfl (fun fhc1=> ?_) fun fhc1=> ?_
 ·refine sk ?_
  refine tn (sq (VRun.block (sr (mO (tN i) rfl (aO (tN i) rfl (nt (sq (VRun.draw (B:= [[],[],[1,0],[],[],[0,1,2,4,3],[3,4,5,0,1,2],[6,3,4,2,1,0,5]]) (by kernel_rfl) (by kernel_rfl) (lD (OL.loadOn (us:=(Qa false g)) (tv (T.op 0 0) rfl) rfl QO QM (lb rfl) rfl) rfl rfl (mD (tN i) rfl rfl (VRunD.quiet (bi:= [1,0]) rfl VWant.always rfl rfl rfl bn (cS (vc (tv (T.agg (Qa false g)) rfl) (vc (tv (tN i) rfl) (vc (VEv.bool false) vn))) (LendL.cons (lg Qq) (lp rfl (lp rfl ln))) (Qcw (n+1) g i false (by assumption) (by assumption)) rfl rfl) ?_)))))))))))
  refine lD (OL.loadOn (us:=(Qa false g)) (tv (T.op 0 0) rfl) rfl QO QM (lb rfl) rfl) rfl rfl (mD (tN i) rfl rfl (VRunD.quiet (bi:= [0,1,2,4,3]) rfl VWant.always rfl rfl rfl bn (cS (vc (tv (T.agg (Qa false g)) rfl) (vc (tv (tN i) rfl) (vc (VEv.bool true) vn))) (LendL.cons (lg Qq) (lp rfl (lp rfl ln))) (Qcw (n+1) g i true (by assumption) (by assumption)) rfl rfl) (fD (OF.assign (tv (tN (Qk g i false)) rfl)) rfl rfl (fD (OF.assign (tv (tN (Qk g i true)) rfl)) rfl rfl (VRunD.nil (tn (sq (sr (mO (tN (Qk g i false)) rfl (fO (B.geq (c:=(decide (2≤Qk g i false))) (tv (tN (Qk g i false)) rfl) (VEv.int .i64 2) (by exact Zb (by omega))) (mO (tB (decide (2≤Qk g i false))) rfl ?_)))))))))))
  refine gw (2≤Qk g i false) (fun fhg25_2=> ?_) fun fhg25_2=> ?_
  ·refine QY 2 2 false 25 (dy fhg25_2) rfl rfl rfl ?_
   refine fO (OF.pickT (VEv.tmpB rfl (dy fhg25_2)) (VEv.bool true)) (nt (ct rfl (VRun.region (mO (tN ((Qc g i).2)) rfl (fO (QF (tv (tN ((Qc g i).2)) rfl) (VEv.int .i64 1) (by omega)) (aO (tN ((Qc g i).2+1)) rfl (VRunO.nil (tn (sq (sr (mO (tN (Qk g i false)) rfl ?_)))))))))))
   refine fO (B.geq (c:=(decide (2≤Qk g i false))) (tv (tN (Qk g i false)) rfl) (VEv.int .i64 2) (by exact Zb (by omega))) (nt (ck (dy fhg25_2) rfl (VRun.region (mO (T.os 4 1 0 ((((Qc g i).1).map (Qg true)).length)) rfl (mO (tN ((Qc g i).2+1)) rfl (mO (tN i) rfl (mO (tN (Qk g i false)) rfl (fO (OF.build (l:= [(0,(tN ((Qc g i).2+1))),(1,(tB false)),(2,(tN i)),(3,(tN (Qk g i false)))]) (zs:= [(tN 0),(tB false),(tN 0),(tN 0)]) (out:= [(tN ((Qc g i).2+1)),(tB false),(tN i),(tN (Qk g i false))]) (VEvp.cons (i:=0) (tv (tN ((Qc g i).2+1)) rfl) (VEvp.cons (i:=1) (VEv.bool false) (VEvp.cons (i:=2) (tv (tN i) rfl) (VEvp.cons (i:=3) (tv (tN (Qk g i false)) rfl) VEvp.nil)))) (bc nofun (bc nofun (bc nofun (bc nofun bn)))) Tryd.underlying98 YD (fun _=>RL.cons (.int _ _) (RL.cons (.bool _) (RL.cons (.int _ _) (RL.cons (.int _ _) (RL.nil _))))) (by kernel_rfl) (by kernel_rfl)) (kO (OM.buildSlice (l:= [(T.agg [(tN ((Qc g i).2+1)),(tB false),(tN i),(tN (Qk g i false))])]) (VEvp.cons (tv (T.agg [(tN ((Qc g i).2+1)),(tB false),(tN i),(tN (Qk g i false))]) rfl) VEvp.nil) rfl (by decide) (bc (nofun) bn) (bc ((bc (rfl) (bc (rfl) (bc (rfl) (bc (rfl) bn))))) bn) (bc (rfl) bn) Jl YD (by kernel_rfl) rfl (by rw [Zr];decide) Zr (Nat.le_of_ble_eq_true rfl)) (cO (B.append (rows:=(((Qc g i).1).map (Qg true))) (rows2:= [[(tN ((Qc g i).2+1)),(tB false),(tN i),(tN (Qk g i false))]]) (rows3:=(((Qc g i).1++ [(D.Slot.mk ((((Qc g i).2+1):Nat):Int) false ((i:Nat):Int) ((Qk g i false:Nat):Int))]).map (Qg true))) (VDst.own (tv (T.os 4 1 0 ((((Qc g i).1).map (Qg true)).length)) rfl) rfl rfl) (VSrc.own (tv (T.os 4 2 0 1) rfl) rfl rfl Jl (bc (bc rfl (bc rfl (bc rfl (bc rfl bn)))) bn)) (by decide) Jl Zr (by decide) YD rfl (of_decide_eq_true (by kernel_rfl)) (by (simp only [List.length_map,List.length_append,List.length_cons,List.length_nil,List.length_replicate,List.length_set,List.length_drop,List.length_take,Z7] at *;omega)) ((List.map_append (f:=Qg true) (l₁:=(Qc g i).1) (l₂:= [(D.Slot.mk ((((Qc g i).2+1):Nat):Int) false ((i:Nat):Int) ((Qk g i false:Nat):Int))])).symm)) (aO (T.os 4 3 0 ((((Qc g i).1++ [(D.Slot.mk ((((Qc g i).2+1):Nat):Int) false ((i:Nat):Int) ((Qk g i false:Nat):Int))]).map (Qg true)).length)) rfl ?_)))))))))))
   refine VRunO.nil (tn (sr (mO (tN (Qk g i true)) rfl (fO (B.geq (c:=(decide (2≤Qk g i true))) (tv (tN (Qk g i true)) rfl) (VEv.int .i64 2) (by exact Zb (by omega))) (nt ?_)))))
   refine cd (2≤Qk g i true) rfl (fun fhc4=> ?_) fun fhc4=> ?_
   ·refine VRun.region ?_
    refine mO (T.os 4 3 0 ((((Qc g i).1++ [(D.Slot.mk ((((Qc g i).2+1):Nat):Int) false ((i:Nat):Int) ((Qk g i false:Nat):Int))]).map (Qg true)).length)) rfl (mO (tN ((Qc g i).2+1)) rfl (mO (tN i) rfl (mO (tN (Qk g i true)) rfl (fO (OF.build (l:= [(0,(tN ((Qc g i).2+1))),(1,(tB true)),(2,(tN i)),(3,(tN (Qk g i true)))]) (zs:= [(tN 0),(tB false),(tN 0),(tN 0)]) (out:= [(tN ((Qc g i).2+1)),(tB true),(tN i),(tN (Qk g i true))]) (VEvp.cons (i:=0) (tv (tN ((Qc g i).2+1)) rfl) (VEvp.cons (i:=1) (VEv.bool true) (VEvp.cons (i:=2) (tv (tN i) rfl) (VEvp.cons (i:=3) (tv (tN (Qk g i true)) rfl) VEvp.nil)))) (bc nofun (bc nofun (bc nofun (bc nofun bn)))) Tryd.underlying98 YD (fun _=>RL.cons (.int _ _) (RL.cons (.bool _) (RL.cons (.int _ _) (RL.cons (.int _ _) (RL.nil _))))) (by kernel_rfl) (by kernel_rfl)) (kO (OM.buildSlice (l:= [(T.agg [(tN ((Qc g i).2+1)),(tB true),(tN i),(tN (Qk g i true))])]) (VEvp.cons (tv (T.agg [(tN ((Qc g i).2+1)),(tB true),(tN i),(tN (Qk g i true))]) rfl) VEvp.nil) rfl (by decide) (bc (nofun) bn) (bc ((bc (rfl) (bc (rfl) (bc (rfl) (bc (rfl) bn))))) bn) (bc (rfl) bn) Jl YD (by kernel_rfl) rfl (by rw [Zr];decide) Zr (Nat.le_of_ble_eq_true rfl)) (cO (B.append (rows:=(((Qc g i).1++ [(D.Slot.mk ((((Qc g i).2+1):Nat):Int) false ((i:Nat):Int) ((Qk g i false:Nat):Int))]).map (Qg true))) (rows2:= [[(tN ((Qc g i).2+1)),(tB true),(tN i),(tN (Qk g i true))]]) (rows3:=((((Qc g i).1++ [(D.Slot.mk ((((Qc g i).2+1):Nat):Int) false ((i:Nat):Int) ((Qk g i false:Nat):Int))])++ [(D.Slot.mk ((((Qc g i).2+1):Nat):Int) true ((i:Nat):Int) ((Qk g i true:Nat):Int))]).map (Qg true))) (VDst.own (tv (T.os 4 3 0 ((((Qc g i).1++ [(D.Slot.mk ((((Qc g i).2+1):Nat):Int) false ((i:Nat):Int) ((Qk g i false:Nat):Int))]).map (Qg true)).length)) rfl) rfl rfl) (VSrc.own (tv (T.os 4 4 0 1) rfl) rfl rfl Jl (bc (bc rfl (bc rfl (bc rfl (bc rfl bn)))) bn)) (by decide) Jl Zr (by decide) YD rfl (of_decide_eq_true (by kernel_rfl)) (by (simp only [List.length_map,List.length_append,List.length_cons,List.length_nil,List.length_replicate,List.length_set,List.length_drop,List.length_take,Z7] at *;omega)) ((List.map_append (f:=Qg true) (l₁:=((Qc g i).1++ [(D.Slot.mk ((((Qc g i).2+1):Nat):Int) false ((i:Nat):Int) ((Qk g i false:Nat):Int))])) (l₂:= [(D.Slot.mk ((((Qc g i).2+1):Nat):Int) true ((i:Nat):Int) ((Qk g i true:Nat):Int))])).symm)) (aO (T.os 4 5 0 (((((Qc g i).1++ [(D.Slot.mk ((((Qc g i).2+1):Nat):Int) false ((i:Nat):Int) ((Qk g i false:Nat):Int))])++ [(D.Slot.mk ((((Qc g i).2+1):Nat):Int) true ((i:Nat):Int) ((Qk g i true:Nat):Int))]).map (Qg true)).length)) rfl (VRunO.nil (vinB.n (tn (VRun.region ?_)))))))))))
    refine fO (QF (tv (tN i) rfl) (VEv.int .i64 1) (by omega)) (mO (tN (i+1)) rfl (VRunO.nil (tn ?_)))
    have he3:(((Qc g i).1++ [(D.Slot.mk ((((Qc g i).2+1):Nat):Int) false ((i:Nat):Int) ((Qk g i false:Nat):Int))])++ [(D.Slot.mk ((((Qc g i).2+1):Nat):Int) true ((i:Nat):Int) ((Qk g i true:Nat):Int))])=(Qc g (i+1)).1:=by (rw [ZJ,Zf];simp [*];done)
    refine ⟨(i+1:Nat),?_,?_,Wk.mk (fun k=>if k=1 then 5 else k) ?_ ?_ ?_⟩
    ·trivial
    ·omega
    ·exact (b2 (b2 (bc ⟨(congrArg (fun l_=>T.os 4 5 0 (List.map (Qg true) l_).length) he3),rfl⟩ (bc ⟨(congrArg (T.int .i64) (show ((((Qc g i).2+1):Nat):Int)=(((Qc g (i+1)).2:Nat):Int) from (by (rw [Zf];simp [*];done)))),rfl⟩ (b2 (b2 bn))))))
    ·exact (b3 (bc ⟨(congrArg (fun l_=>some (Obj.rows 4 (List.map (Qg true) l_))) he3),(lb rfl),rfl⟩ bn))
    ·exact nd rfl
   refine sk (vinB.n (tn (VRun.region (fO (QF (tv (tN i) rfl) (VEv.int .i64 1) (by omega)) (mO (tN (i+1)) rfl (VRunO.nil (tn ?_)))))))
   have he4:((Qc g i).1++ [(D.Slot.mk ((((Qc g i).2+1):Nat):Int) false ((i:Nat):Int) ((Qk g i false:Nat):Int))])=(Qc g (i+1)).1:=by (rw [ZJ,Zf];simp [*];done)
   refine ⟨(i+1:Nat),?_,?_,Wk.mk (fun k=>if k=1 then 3 else k) ?_ ?_ ?_⟩
   ·trivial
   ·omega
   ·exact (b2 (b2 (bc ⟨(congrArg (fun l_=>T.os 4 3 0 (List.map (Qg true) l_).length) he4),rfl⟩ (bc ⟨(congrArg (T.int .i64) (show ((((Qc g i).2+1):Nat):Int)=(((Qc g (i+1)).2:Nat):Int) from (by (rw [Zf];simp [*];done)))),rfl⟩ (b2 (b2 bn))))))
   ·exact (b3 (bc ⟨(congrArg (fun l_=>some (Obj.rows 4 (List.map (Qg true) l_))) he4),(lb rfl),rfl⟩ bn))
   ·exact nd rfl
  refine gF (dz fhg25_2) rfl rfl (OF.move (tv (tN (Qk g i true)) rfl)) (gF (dz fhg25_2) rfl rfl (B.geq (c:=(decide (2≤Qk g i true))) (tv (tN (Qk g i true)) rfl) (VEv.int .i64 2) (by exact Zb (by omega))) (fO (OF.pickF (VEv.tmpB rfl (dz fhg25_2)) (tv (tB (decide (2≤Qk g i true))) rfl)) (nt ?_)))
  refine cd (2≤Qk g i true) rfl (fun fhc2=> ?_) fun fhc2=> ?_
  ·refine VRun.region ?_
   refine mO (tN ((Qc g i).2)) rfl (fO (QF (tv (tN ((Qc g i).2)) rfl) (VEv.int .i64 1) (by omega)) (aO (tN ((Qc g i).2+1)) rfl (VRunO.nil (tn (sq (sr (mO (tN (Qk g i false)) rfl (fO (B.geq (c:=(decide (2≤Qk g i false))) (tv (tN (Qk g i false)) rfl) (VEv.int .i64 2) (by exact Zb (by omega))) (nt (cg (dz fhg25_2) rfl (sk ?_)))))))))))
   refine tn (sr (mO (tN (Qk g i true)) rfl (fO (B.geq (c:=(decide (2≤Qk g i true))) (tv (tN (Qk g i true)) rfl) (VEv.int .i64 2) (by exact Zb (by omega))) (nt (ck (dy fhc2) rfl (VRun.region (mO (T.os 4 1 0 ((((Qc g i).1).map (Qg true)).length)) rfl (mO (tN ((Qc g i).2+1)) rfl (mO (tN i) rfl (mO (tN (Qk g i true)) rfl (fO (OF.build (l:= [(0,(tN ((Qc g i).2+1))),(1,(tB true)),(2,(tN i)),(3,(tN (Qk g i true)))]) (zs:= [(tN 0),(tB false),(tN 0),(tN 0)]) (out:= [(tN ((Qc g i).2+1)),(tB true),(tN i),(tN (Qk g i true))]) (VEvp.cons (i:=0) (tv (tN ((Qc g i).2+1)) rfl) (VEvp.cons (i:=1) (VEv.bool true) (VEvp.cons (i:=2) (tv (tN i) rfl) (VEvp.cons (i:=3) (tv (tN (Qk g i true)) rfl) VEvp.nil)))) (bc nofun (bc nofun (bc nofun (bc nofun bn)))) Tryd.underlying98 YD (fun _=>RL.cons (.int _ _) (RL.cons (.bool _) (RL.cons (.int _ _) (RL.cons (.int _ _) (RL.nil _))))) (by kernel_rfl) (by kernel_rfl)) ?_)))))))))))
   refine kO (OM.buildSlice (l:= [(T.agg [(tN ((Qc g i).2+1)),(tB true),(tN i),(tN (Qk g i true))])]) (VEvp.cons (tv (T.agg [(tN ((Qc g i).2+1)),(tB true),(tN i),(tN (Qk g i true))]) rfl) VEvp.nil) rfl (by decide) (bc (nofun) bn) (bc ((bc (rfl) (bc (rfl) (bc (rfl) (bc (rfl) bn))))) bn) (bc (rfl) bn) Jl YD (by kernel_rfl) rfl (by rw [Zr];decide) Zr (Nat.le_of_ble_eq_true rfl)) (cO (B.append (rows:=(((Qc g i).1).map (Qg true))) (rows2:= [[(tN ((Qc g i).2+1)),(tB true),(tN i),(tN (Qk g i true))]]) (rows3:=(((Qc g i).1++ [(D.Slot.mk ((((Qc g i).2+1):Nat):Int) true ((i:Nat):Int) ((Qk g i true:Nat):Int))]).map (Qg true))) (VDst.own (tv (T.os 4 1 0 ((((Qc g i).1).map (Qg true)).length)) rfl) rfl rfl) (VSrc.own (tv (T.os 4 2 0 1) rfl) rfl rfl Jl (bc (bc rfl (bc rfl (bc rfl (bc rfl bn)))) bn)) (by decide) Jl Zr (by decide) YD rfl (of_decide_eq_true (by kernel_rfl)) (by (simp only [List.length_map,List.length_append,List.length_cons,List.length_nil,List.length_replicate,List.length_set,List.length_drop,List.length_take,Z7] at *;omega)) ((List.map_append (f:=Qg true) (l₁:=(Qc g i).1) (l₂:= [(D.Slot.mk ((((Qc g i).2+1):Nat):Int) true ((i:Nat):Int) ((Qk g i true:Nat):Int))])).symm)) (aO (T.os 4 3 0 ((((Qc g i).1++ [(D.Slot.mk ((((Qc g i).2+1):Nat):Int) true ((i:Nat):Int) ((Qk g i true:Nat):Int))]).map (Qg true)).length)) rfl (VRunO.nil (vinB.n (tn (VRun.region (fO (QF (tv (tN i) rfl) (VEv.int .i64 1) (by omega)) (mO (tN (i+1)) rfl (VRunO.nil (tn ?_))))))))))
   have he5:((Qc g i).1++ [(D.Slot.mk ((((Qc g i).2+1):Nat):Int) true ((i:Nat):Int) ((Qk g i true:Nat):Int))])=(Qc g (i+1)).1:=by (rw [ZJ,Zf];simp [*];done)
   refine ⟨(i+1:Nat),?_,?_,Wk.mk (fun k=>if k=1 then 3 else k) ?_ ?_ ?_⟩
   ·trivial
   ·omega
   ·exact (b2 (b2 (bc ⟨(congrArg (fun l_=>T.os 4 3 0 (List.map (Qg true) l_).length) he5),rfl⟩ (bc ⟨(congrArg (T.int .i64) (show ((((Qc g i).2+1):Nat):Int)=(((Qc g (i+1)).2:Nat):Int) from (by (rw [Zf];simp [*];done)))),rfl⟩ (b2 (b2 bn))))))
   ·exact (b3 (bc ⟨(congrArg (fun l_=>some (Obj.rows 4 (List.map (Qg true) l_))) he5),(lb rfl),rfl⟩ bn))
   ·exact nd rfl
  refine sk (tn (sq (sr (mO (tN (Qk g i false)) rfl (fO (B.geq (c:=(decide (2≤Qk g i false))) (tv (tN (Qk g i false)) rfl) (VEv.int .i64 2) (by exact Zb (by omega))) (nt (cg (dz fhg25_2) rfl (sk (tn (sr (mO (tN (Qk g i true)) rfl ?_)))))))))))
  refine fO (B.geq (c:=(decide (2≤Qk g i true))) (tv (tN (Qk g i true)) rfl) (VEv.int .i64 2) (by exact Zb (by omega))) (nt (cg (dz fhc2) rfl (sk (vinB.n (tn (VRun.region (fO (QF (tv (tN i) rfl) (VEv.int .i64 1) (by omega)) (mO (tN (i+1)) rfl (VRunO.nil (tn ?_))))))))))
  have he6:(Qc g i).1=(Qc g (i+1)).1:=by (rw [ZJ,Zf];simp [*];done)
  refine ⟨(i+1:Nat),?_,?_,Wk.mk (fun k=>k) ?_ ?_ ?_⟩
  ·trivial
  ·omega
  ·exact (b2 (b2 (bc ⟨(congrArg (fun l_=>T.os 4 1 0 (List.map (Qg true) l_).length) he6),rfl⟩ (bc ⟨(congrArg (T.int .i64) (show (((Qc g i).2:Nat):Int)=(((Qc g (i+1)).2:Nat):Int) from (by (rw [Zf];simp [*];done)))),rfl⟩ (b2 (b2 bn))))))
  ·exact (b3 (bc ⟨(congrArg (fun l_=>some (Obj.rows 4 (List.map (Qg true) l_))) he6),(lb rfl),rfl⟩ bn))
  ·exact nd rfl
 refine VRun.exit (vthn.e (vthn.e (vinB.e (tn (sr (mO (T.os 4 1 0 ((((Qc g i).1).map (Qg true)).length)) rfl (aO (T.os 4 1 0 ((((Qc g i).1).map (Qg true)).length)) rfl (nt (rt ?_)))))))))
 refine vfin.eq (r':=(T.sl true 4 (((Qc g i).1).map (Qg true)))) ?_ (vfin.r (VRes.tmp (t:=(T.os 4 1 0 ((((Qc g i).1).map (Qg true)).length))) rfl VRes.nil) (Give.os rfl rfl (okeSlot.cleanMap _)))
 refine congrArg (fun l_=>T.sl true 4 (List.map (Qg true) l_)) ?_
 refine Qa7 hI1 (.inl hgo) ?_;left;assumption
noncomputable section
def Qag (g:D.Grid):Prop:=∃s∈Qb g,s.Length<3
instance (g:D.Grid):Decidable (Qag g):=Classical.propDecidable _
end
theorem QbQ (n:Nat) (g:D.Grid) (hc:g.Cells.size≤maxLen):Pure (Qw Tryd.prog (n+4)) 72 [(T.agg (Qa false g))] (tB (decide (Qag g))):=by
 refine Pure.intro (rs:= [ResultVar.tmp 2]) Tryd.func72 rfl rfl rfl (E0:= [(0,(T.agg (Qa false g)))]) rfl ?_
 obtain ⟨hlim,hmx,hmax⟩:=QR
 have hsl:=QZ g
 refine sr (kO (B.box (ts:=(Qa false g)) (tv (T.agg (Qa false g)) rfl) nofun rfl) (fO (OF.assign (VEv.bool false)) (nt (sr (lO (OL.loadOn (us:=(Qa false g)) (tv (T.op 0 0) rfl) rfl QO QM (lb rfl) rfl) (cO (OC.callF (r':=(T.os 4 1 0 (((Qb g).map (Qg true)).length))) (objs:= [(Obj.rows 4 ((Qb g).map (Qg true)))]) rfl (vc (tv (T.agg (Qa false g)) rfl) vn) (LendL.cons (lg Qq) ln) (Zk (n+0) g (by assumption)) rfl) (aO (T.os 4 1 0 (((Qb g).map (Qg true)).length)) rfl (nt (sq (sr (fO (OF.assign (VEv.int .i64 0)) ?_)))))))))))
 refine nt (VRun.block ?_)
 refine VRun.loop (A:=Nat) (fun s_=> [(3,(T.os 4 0 0 (((Qb g).map (Qg true)).length))),(4,(tN s_))]) (fun s_=>Q4 [(0,(Obj.rows 4 ((Qb g).map (Qg true))))]) 1 (fun s_=>NoneTo (fun s:D.Slot=>s.Length<3) (Qb g) s_) (fun s_=>(Qb g).length - s_) (0:Nat) ?_ (Wk.mk (fun k=>if k=0 then 1 else k) ?_ ?_ ?_) ?_
 ·exact NoneTo.start _ _
 ·exact (b2 (b2 bn))
 ·exact (b3 bn)
 ·exact nd rfl
 rintro i (hI':NoneTo (fun s:D.Slot=>s.Length<3) (Qb g) i)
 show VRun _ _ _ [(3,(T.os 4 0 0 (((Qb g).map (Qg true)).length))),(4,(tN i))] (Q4 [(0,(Obj.rows 4 ((Qb g).map (Qg true))))]) 1 _
 have hI1:=hI'.1
 refine sq (sr (mO (tN i) rfl (mO (T.os 4 0 0 (((Qb g).map (Qg true)).length)) rfl (lO (B.lenO (m:=(Qb g).length) (tv (T.os 4 0 0 (((Qb g).map (Qg true)).length)) rfl) Jl (List.length_map ..)) (fO (Zx (tv (tN i) rfl) (tv (tN ((Qb g).length)) rfl)) (nt ?_))))))
 refine cd (i<(Qb g).length) rfl (fun fhc0=> ?_) fun fhc0=> ?_
 ·refine sk ?_
  refine tn (sq (VRun.block (sr (mO (T.os 4 0 0 (((Qb g).map (Qg true)).length)) rfl (mO (tN i) rfl ?_)))))
  obtain ⟨x1,hx1⟩:∃x,(Qb g)[i]? =some x:=⟨_,List.getElem?_eq_getElem (by omega)⟩
  refine fO (B.indexAddrO (i:=i) (tv (T.os 4 0 0 (((Qb g).map (Qg true)).length)) rfl) (tv (tN i) rfl) rfl (by (simp only [List.length_map];omega)) Jl Zr Qcs) (fO (OF.fieldAddrP (tv (T.orp 4 0 i 0) rfl) Qao) (lO (OL.loadP1 (t:=(tI x1.Length)) (row:=(Qg true x1)) (tv (T.orp 4 0 i 3) rfl) rfl (QA _ hx1) rfl rfl Zo) (fO (xls (tv (tI x1.Length) rfl) (VEv.int .i64 3)) (nt ?_))))
  refine cd (x1.Length<3) rfl (fun fhc1=> ?_) fun fhc1=> ?_
  ·refine sr ?_
   refine fO (OF.assign (VEv.bool true)) (nt (rt (vinB.r (tr (tr (vinB.r (tr (vb (b':=true) rfl ?_))))))))
   symm;rw [decide_eq_true_eq];exact ⟨x1,List.mem_of_getElem? hx1,fhc1⟩
  refine sk (vinB.n (tn (VRun.region (mO (tN i) rfl (fO (QF (tv (tN i) rfl) (VEv.int .i64 1) (by omega)) (aO (tN (i+1)) rfl (VRunO.nil (tn ?_))))))))
  refine ⟨(i+1:Nat),?_,?_,Wk.mk (fun k=>k) ?_ ?_ ?_⟩
  ·exact hI'.next hx1 fhc1
  ·omega
  ·exact (b2 (b2 bn))
  ·exact (b3 bn)
  ·exact nd rfl
 refine VRun.exit (vthn.e (vthn.e (vinB.e (tn (sr (fO (OF.assign (VEv.bool false)) (nt (rt (vb (b':=false) rfl ?_)))))))))
 symm;rw [decide_eq_false_iff_not];rintro ⟨y,hy,hy2⟩;exact hI'.mem fhc0 y hy hy2
end Go.Proofs.YthifchndolccgaaDoor.AE
namespace Go.Proofs.YthifchndolccgaaDoor.AE
open Go Go.RowKit
set_option linter.unusedVariables false
set_option linter.unusedSimpArgs false
set_option maxRecDepth 20000
set_option maxHeartbeats 2000000
noncomputable section
def Qda (g:D.Grid) (s:D.Slot):Int:=if s.Down=true then g.Cols else 1
def Qm (g:D.Grid) (s:D.Slot) (n:Nat):List Int:=(List.range n).map fun k=>s.Cell+((k:Nat):Int)*Qda g s
theorem Yn (g:D.Grid) (s:D.Slot) (n:Nat):(Qm g s n).length=n:=by simp [Qm]
theorem YI (g:D.Grid) (s:D.Slot) (n:Nat):Qm g s (n+1)=Qm g s n++ [s.Cell+((n:Nat):Int)*Qda g s]:=by
 simp [Qm,List.range_succ]
def Qd1 (g:D.Grid) (s:D.Slot):Prop:=gridOk g∧(0≤s.Cell∧s.Cell≤36)∧(0≤s.Length∧s.Length≤6)
theorem QdG {ok:Nat→Prop} [DecidablePred ok]:∀f n,Jm ok f n≤n+f
 | 0,n=>Nat.le_refl _
 | f+1,n=>by
  simp only [Jm]
  split
  ·have:=QdG (ok:=ok) f (n+1)
   omega
  ·omega
theorem Qe0 (g:D.Grid) (cell:Nat) (down:Bool):Qk g cell down≤6:=by
 unfold Qk Qeu Qer
 split<;>split<;>first | omega | (have:=QdG (ok:=slD g cell) 6 0;omega) | (have:=QdG (ok:=slA g cell) 6 0;omega)
theorem Qde (g:D.Grid) (hg:gridOk g):∀i,i≤g.Cells.size→∀s∈(Qc g i).1,Qd1 g s
 | 0,_,s,hs=>by simp [Qc] at hs
 | i+1,hi,s,hs=>by
  have hsz:=hg.size
  rw [ZJ,List.mem_append,List.mem_append] at hs
  rcases hs with (hs | hs) | hs
  ·exact Qde g hg i (by omega) s hs
  ·split at hs
   ·obtain rfl:=List.mem_singleton.1 hs
    have:=Qe0 g i false
    exact ⟨hg,by simp only;omega,by simp only;omega⟩
   ·cases hs
  ·split at hs
   ·obtain rfl:=List.mem_singleton.1 hs
    have:=Qe0 g i true
    exact ⟨hg,by simp only;omega,by simp only;omega⟩
   ·cases hs
theorem JV {g:D.Grid} {s:D.Slot} (hs:s∈Qb g):Qd1 g s:=by
 unfold Qb at hs
 split at hs
 ·exact Qde g ‹_› _ (Nat.le_refl _) s hs
 ·cases hs
end
theorem QdX (n:Nat) (g:D.Grid) (s:D.Slot) (hs:Qd1 g s):Pure (Qw Tryd.prog (n+1)) 123 [(T.agg (Qa false g)),(T.agg (Qg false s))] (T.sl true 1 ((Qm g s s.Length.toNat).map (Ql true))):=by
 refine Pure.intro (rs:= [ResultVar.tmp 4]) Tryd.func123 rfl rfl rfl (E0:= [(0,(T.agg (Qa false g))),(1,(T.agg (Qg false s)))]) rfl ?_
 obtain ⟨hlim,hmx,hmax⟩:=QR
 obtain ⟨hg,hc,hl⟩:=hs
 have hB:=hg.2.1
 refine sr (kO (B.box (ts:=(Qa false g)) (tv (T.agg (Qa false g)) rfl) nofun rfl) (kO (B.box (ts:=(Qg false s)) (tv (T.agg (Qg false s)) rfl) nofun rfl) (fO (OF.assign VEv.nils) (nt (sr (fO (OF.assign (VEv.int .i64 1)) (nt (sq (sr (lf (tB s.Down) rfl QhK rfl rfl st4 (nt ?_)))))))))))
 refine VRun.cond (tv (tB s.Down) rfl) (fun hc0=> ?_) (fun hc0=> ?_)
 ·have fhc0:s.Down=true:=hc0
  refine VRun.region (lf (tI g.Cols) rfl QV rfl rfl Zo (aO (tI g.Cols) rfl (VRunO.nil (tn (sr (fO (OF.assign VEv.nils) (nt (sq (sr (lf (tI s.Length) rfl Qao rfl rfl Zo (fO (OF.move (VEv.int .i64 0)) ?_)))))))))))
  refine nt (VRun.block (VRun.wk (Wk.phantom 6 1 rfl) ?_))
  have he1: []=((Qm g s 0).map (Ql true)):=by rfl
  refine VRun.loop (A:=Nat) (fun s_=> [(3,(T.op 0 0)),(4,T.nils),(5,(tI g.Cols)),(6,(T.os 1 1 0 (((Qm g s s_).map (Ql true)).length))),(13,(tI s.Length)),(14,(tN s_))]) (fun s_=>Q4 [(0,(Obj.cells (Qg false s))),(1,(Obj.rows 1 ((Qm g s s_).map (Ql true))))]) 2 (fun s_=>s_≤s.Length.toNat) (fun s_=>s.Length.toNat - s_) (0:Nat) ?_ (Wk.mk (fun k=>if k=0 then 1 else if k=1 then 2 else k) ?_ ?_ ?_) ?_
  ·(simp;done)
  ·exact (b2 (b2 (b2 (bc ⟨(congrArg (fun n_=>T.os 1 2 0 n_) (show 0=((Qm g s 0).map (Ql true)).length from (by rfl))),rfl⟩ (b2 (b2 bn))))))
  ·exact (b3 (bc ⟨(congrArg (fun l_=>some (Obj.rows 1 l_)) he1),(lb rfl),rfl⟩ bn))
  ·exact nd rfl
  rintro i (hI':i≤s.Length.toNat)
  show VRun _ _ _ [(3,(T.op 0 0)),(4,T.nils),(5,(tI g.Cols)),(6,(T.os 1 1 0 (((Qm g s i).map (Ql true)).length))),(13,(tI s.Length)),(14,(tN i))] (Q4 [(0,(Obj.cells (Qg false s))),(1,(Obj.rows 1 ((Qm g s i).map (Ql true))))]) 2 _
  have hI1:=hI'
  have hN:=QbP (n:=i) (c:=g.Cols) (by omega) hB.1 hB.2
  have hcl:=Yn g s i
  refine sr (fO (xls (tv (tN i) rfl) (tv (tI s.Length) rfl)) (nt (sq ?_)))
  refine cd (((i:Nat):Int)<s.Length) rfl (fun fhc1=> ?_) fun fhc1=> ?_
  ·refine sk ?_
   refine tn (sq (VRun.block (sr (mO (tN i) rfl (aO (tN i) rfl (nt (VRun.region (mO (T.os 1 1 0 (((Qm g s i).map (Ql true)).length)) rfl (lf (tI s.Cell) rfl Qdy rfl rfl Zo (mO (tN i) rfl (mO (tI g.Cols) rfl ?_)))))))))))
   refine fO (B.mul (n:=(((i:Nat):Int)*g.Cols)) (tv (tN i) rfl) (tv (tI g.Cols) rfl) (by (refine Qdg ?_ ?_ ?_<;>omega))) (fO (B.add (n:=(s.Cell+(((i:Nat):Int)*g.Cols))) (tv (tI s.Cell) rfl) (tv (tI (((i:Nat):Int)*g.Cols)) rfl) (by (rw [Qz (by omega)];done))) (kO (OM.buildSlice (l:= [(tI (s.Cell+(((i:Nat):Int)*g.Cols)))]) (VEvp.cons (tv (tI (s.Cell+(((i:Nat):Int)*g.Cols))) rfl) VEvp.nil) rfl (by decide) (bc (nofun) bn) (bc ((bc (rfl) bn)) bn) (bc (rfl) bn) JY zo3 (by kernel_rfl) rfl (by rw [YK];decide) YK (Nat.le_of_ble_eq_true rfl)) (cO (B.append (rows:=((Qm g s i).map (Ql true))) (rows2:= [[(tI (s.Cell+(((i:Nat):Int)*g.Cols)))]]) (rows3:=((Qm g s i++ [(s.Cell+(((i:Nat):Int)*g.Cols))]).map (Ql true))) (VDst.own (tv (T.os 1 1 0 (((Qm g s i).map (Ql true)).length)) rfl) rfl rfl) (VSrc.own (tv (T.os 1 2 0 1) rfl) rfl rfl JY (bc (bc rfl bn) bn)) (by decide) JY YK (by decide) zo3 rfl (of_decide_eq_true (by kernel_rfl)) (by (simp only [List.length_map,List.length_append,List.length_cons,List.length_nil,List.length_replicate,List.length_set,List.length_drop,List.length_take,Z7] at *;omega)) ((List.map_append (f:=Ql true) (l₁:=Qm g s i) (l₂:= [(s.Cell+(((i:Nat):Int)*g.Cols))])).symm)) (aO (T.os 1 3 0 (((Qm g s i++ [(s.Cell+(((i:Nat):Int)*g.Cols))]).map (Ql true)).length)) rfl (VRunO.nil (vinB.n (tn (VRun.region (fO (QF (tv (tN i) rfl) (VEv.int .i64 1) (by omega)) (mO (tN (i+1)) rfl (VRunO.nil ?_)))))))))))
   refine tn ?_
   have he2:(Qm g s i++ [(s.Cell+(((i:Nat):Int)*g.Cols))])=Qm g s (i+1):=by rw [YI,Qda,if_pos fhc0]
   refine ⟨(i+1:Nat),?_,?_,Wk.mk (fun k=>if k=1 then 3 else k) ?_ ?_ ?_⟩
   ·omega
   ·omega
   ·exact (b2 (b2 (b2 (bc ⟨(congrArg (fun l_=>T.os 1 3 0 (List.map (Ql true) l_).length) he2),rfl⟩ (b2 (b2 bn))))))
   ·exact (b3 (bc ⟨(congrArg (fun l_=>some (Obj.rows 1 (List.map (Ql true) l_))) he2),(lb rfl),rfl⟩ bn))
   ·exact nd rfl
  refine VRun.exit (vthn.e (vthn.e (vinB.e (tn (sr (mO (T.os 1 1 0 (((Qm g s i).map (Ql true)).length)) rfl (aO (T.os 1 1 0 (((Qm g s i).map (Ql true)).length)) rfl (nt (rt ?_)))))))))
  refine vfin.eq (r':=(T.sl true 1 ((Qm g s i).map (Ql true)))) ?_ (vfin.r (VRes.tmp (t:=(T.os 1 1 0 (((Qm g s i).map (Ql true)).length))) rfl VRes.nil) (Give.os rfl rfl (okInt.cleanMap _)))
  refine congrArg (fun l_=>T.sl true 1 (List.map (Ql true) l_)) ?_
  rw [show i=s.Length.toNat from by omega]
 have fhc0:s.Down=false:=hc0
 refine sk (tn (sr (fO (OF.assign VEv.nils) (nt (sq (sr (lf (tI s.Length) rfl Qao rfl rfl Zo (fO (OF.move (VEv.int .i64 0)) (nt (VRun.block (VRun.wk (Wk.phantom 6 1 rfl) ?_)))))))))))
 have he3: []=((Qm g s 0).map (Ql true)):=by rfl
 refine VRun.loop (A:=Nat) (fun s_=> [(3,(T.op 0 0)),(4,T.nils),(5,(tN 1)),(6,(T.os 1 1 0 (((Qm g s s_).map (Ql true)).length))),(13,(tI s.Length)),(14,(tN s_))]) (fun s_=>Q4 [(0,(Obj.cells (Qg false s))),(1,(Obj.rows 1 ((Qm g s s_).map (Ql true))))]) 2 (fun s_=>s_≤s.Length.toNat) (fun s_=>s.Length.toNat - s_) (0:Nat) ?_ (Wk.mk (fun k=>if k=0 then 1 else if k=1 then 2 else k) ?_ ?_ ?_) ?_
 ·(simp;done)
 ·exact (b2 (b2 (b2 (bc ⟨(congrArg (fun n_=>T.os 1 2 0 n_) (show 0=((Qm g s 0).map (Ql true)).length from (by rfl))),rfl⟩ (b2 (b2 bn))))))
 ·exact (b3 (bc ⟨(congrArg (fun l_=>some (Obj.rows 1 l_)) he3),(lb rfl),rfl⟩ bn))
 ·exact nd rfl
 rintro i (hI':i≤s.Length.toNat)
 show VRun _ _ _ [(3,(T.op 0 0)),(4,T.nils),(5,(tN 1)),(6,(T.os 1 1 0 (((Qm g s i).map (Ql true)).length))),(13,(tI s.Length)),(14,(tN i))] (Q4 [(0,(Obj.cells (Qg false s))),(1,(Obj.rows 1 ((Qm g s i).map (Ql true))))]) 2 _
 have hI1:=hI'
 have hN:=QbP (n:=i) (c:=g.Cols) (by omega) hB.1 hB.2
 have hcl:=Yn g s i
 refine sr (fO (xls (tv (tN i) rfl) (tv (tI s.Length) rfl)) (nt (sq ?_)))
 refine cd (((i:Nat):Int)<s.Length) rfl (fun fhc1=> ?_) fun fhc1=> ?_
 ·refine sk ?_
  refine tn (sq (VRun.block (sr (mO (tN i) rfl (aO (tN i) rfl (nt (VRun.region (mO (T.os 1 1 0 (((Qm g s i).map (Ql true)).length)) rfl (lf (tI s.Cell) rfl Qdy rfl rfl Zo (mO (tN i) rfl (mO (tN 1) rfl ?_)))))))))))
  refine fO (B.mul (n:=(((i*1):Nat):Int)) (tv (tN i) rfl) (tv (tN 1) rfl) (by (rw [Qz (by omega)];omega))) (fO (B.add (n:=(s.Cell+(((i*1):Nat):Int))) (tv (tI s.Cell) rfl) (tv (tN (i*1)) rfl) (by (rw [Qz (by omega)];done))) (kO (OM.buildSlice (l:= [(tI (s.Cell+(((i*1):Nat):Int)))]) (VEvp.cons (tv (tI (s.Cell+(((i*1):Nat):Int))) rfl) VEvp.nil) rfl (by decide) (bc (nofun) bn) (bc ((bc (rfl) bn)) bn) (bc (rfl) bn) JY zo3 (by kernel_rfl) rfl (by rw [YK];decide) YK (Nat.le_of_ble_eq_true rfl)) (cO (B.append (rows:=((Qm g s i).map (Ql true))) (rows2:= [[(tI (s.Cell+(((i*1):Nat):Int)))]]) (rows3:=((Qm g s i++ [(s.Cell+(((i*1):Nat):Int))]).map (Ql true))) (VDst.own (tv (T.os 1 1 0 (((Qm g s i).map (Ql true)).length)) rfl) rfl rfl) (VSrc.own (tv (T.os 1 2 0 1) rfl) rfl rfl JY (bc (bc rfl bn) bn)) (by decide) JY YK (by decide) zo3 rfl (of_decide_eq_true (by kernel_rfl)) (by (simp only [List.length_map,List.length_append,List.length_cons,List.length_nil,List.length_replicate,List.length_set,List.length_drop,List.length_take,Z7] at *;omega)) ((List.map_append (f:=Ql true) (l₁:=Qm g s i) (l₂:= [(s.Cell+(((i*1):Nat):Int))])).symm)) (aO (T.os 1 3 0 (((Qm g s i++ [(s.Cell+(((i*1):Nat):Int))]).map (Ql true)).length)) rfl (VRunO.nil (vinB.n (tn (VRun.region (fO (QF (tv (tN i) rfl) (VEv.int .i64 1) (by omega)) (mO (tN (i+1)) rfl (VRunO.nil ?_)))))))))))
  refine tn ?_
  have he4:(Qm g s i++ [(s.Cell+(((i*1):Nat):Int))])=Qm g s (i+1):=by (rw [YI,Qda,fhc0];rfl)
  refine ⟨(i+1:Nat),?_,?_,Wk.mk (fun k=>if k=1 then 3 else k) ?_ ?_ ?_⟩
  ·omega
  ·omega
  ·exact (b2 (b2 (b2 (bc ⟨(congrArg (fun l_=>T.os 1 3 0 (List.map (Ql true) l_).length) he4),rfl⟩ (b2 (b2 bn))))))
  ·exact (b3 (bc ⟨(congrArg (fun l_=>some (Obj.rows 1 (List.map (Ql true) l_))) he4),(lb rfl),rfl⟩ bn))
  ·exact nd rfl
 refine VRun.exit (vthn.e (vthn.e (vinB.e (tn (sr (mO (T.os 1 1 0 (((Qm g s i).map (Ql true)).length)) rfl (aO (T.os 1 1 0 (((Qm g s i).map (Ql true)).length)) rfl (nt (rt ?_)))))))))
 refine vfin.eq (r':=(T.sl true 1 ((Qm g s i).map (Ql true)))) ?_ (vfin.r (VRes.tmp (t:=(T.os 1 1 0 (((Qm g s i).map (Ql true)).length))) rfl VRes.nil) (Give.os rfl rfl (okInt.cleanMap _)))
 refine congrArg (fun l_=>T.sl true 1 (List.map (Ql true) l_)) ?_
 rw [show i=s.Length.toNat from by omega]
noncomputable section
def QJ (g:D.Grid):List (List Int):=(Qb g).map fun s=>Qm g s s.Length.toNat
theorem Qgn {g:D.Grid} {i:Nat} {s:D.Slot} (h:(Qb g)[i]? =some s):(QJ g).take (i+1)=(QJ g).take i++ [Qm g s s.Length.toNat]:=by
 unfold QJ
 rw [List.take_add_one,List.getElem?_map,h]
 rfl
theorem QaG (g:D.Grid):(QJ g).length=(Qb g).length:=by simp [QJ]
end
theorem YO (n:Nat) (g:D.Grid) (hc:g.Cells.size≤maxLen):Pure (Qw Tryd.prog (n+4)) 103 [(T.agg (Qa false g))] (T.sl true 1 ((QJ g).map ((Yd 1 Ql) true))):=by
 refine Pure.intro (rs:= [ResultVar.tmp 2]) Tryd.func103 rfl rfl rfl (E0:= [(0,(T.agg (Qa false g)))]) rfl ?_
 obtain ⟨hlim,hmx,hmax⟩:=QR
 have hsl:=QZ g
 have hll:=QaG g
 refine sr (kO (B.box (ts:=(Qa false g)) (tv (T.agg (Qa false g)) rfl) nofun rfl) (fO (OF.assign VEv.nils) (nt (sr (fO (OF.assign VEv.nils) (nt (sq (sr (lO (OL.loadOn (us:=(Qa false g)) (tv (T.op 0 0) rfl) rfl QO QM (lb rfl) rfl) (cO (OC.callF (r':=(T.os 4 1 0 (((Qb g).map (Qg true)).length))) (objs:= [(Obj.rows 4 ((Qb g).map (Qg true)))]) rfl (vc (tv (T.agg (Qa false g)) rfl) vn) (LendL.cons (lg Qq) ln) (Yu (n+0) g (by assumption)) rfl) (lO (B.lenO (m:=(Qb g).length) (tv (T.os 4 1 0 (((Qb g).map (Qg true)).length)) rfl) Jl (List.length_map ..)) ?_)))))))))))
 refine fO (OF.move (VEv.int .i64 0)) (nt (VRun.block (VRun.wk (Wk.phantom 3 1 rfl) ?_)))
 have he1: []=(((QJ g).take 0).map ((Yd 1 Ql) true)):=by rfl
 refine VRun.loop (A:=Nat) (fun s_=> [(1,(T.op 0 0)),(2,T.nils),(3,(T.os 1 2 0 ((((QJ g).take s_).map ((Yd 1 Ql) true)).length))),(7,(T.os 4 1 0 (((Qb g).map (Qg true)).length))),(8,(tN ((Qb g).length))),(9,(tN s_))]) (fun s_=>Q4 [(0,(Obj.cells (Qa false g))),(1,(Obj.rows 4 ((Qb g).map (Qg true)))),(2,(Obj.rows 1 (((QJ g).take s_).map ((Yd 1 Ql) true))))]) 3 (fun s_=>s_≤(Qb g).length) (fun s_=>(Qb g).length - s_) (0:Nat) ?_ (Wk.mk (fun k=>k) ?_ ?_ ?_) ?_
 ·(simp;done)
 ·exact (b2 (b2 (bc ⟨(congrArg (fun n_=>T.os 1 2 0 n_) (show 0=(((QJ g).take 0).map ((Yd 1 Ql) true)).length from (by rfl))),rfl⟩ (b2 (b2 (b2 bn))))))
 ·exact (b3 (b3 (bc ⟨(congrArg (fun l_=>some (Obj.rows 1 l_)) he1),(lb rfl),rfl⟩ bn)))
 ·exact nd rfl
 rintro i (hI':i≤(Qb g).length)
 show VRun _ _ _ [(1,(T.op 0 0)),(2,T.nils),(3,(T.os 1 2 0 ((((QJ g).take i).map ((Yd 1 Ql) true)).length))),(7,(T.os 4 1 0 (((Qb g).map (Qg true)).length))),(8,(tN ((Qb g).length))),(9,(tN i))] (Q4 [(0,(Obj.cells (Qa false g))),(1,(Obj.rows 4 ((Qb g).map (Qg true)))),(2,(Obj.rows 1 (((QJ g).take i).map ((Yd 1 Ql) true))))]) 3 _
 have hI1:=hI'
 refine sr (fO (Zx (tv (tN i) rfl) (tv (tN ((Qb g).length)) rfl)) (nt (sq ?_)))
 refine cd (i<(Qb g).length) rfl (fun fhc0=> ?_) fun fhc0=> ?_
 ·refine sk ?_
  refine tn (sq (VRun.block (sr ?_)))
  obtain ⟨x1,hx1⟩:∃x,(Qb g)[i]? =some x:=⟨_,List.getElem?_eq_getElem (by omega)⟩
  refine fO (B.indexAddrO (i:=i) (tv (T.os 4 1 0 (((Qb g).map (Qg true)).length)) rfl) (tv (tN i) rfl) rfl (by (simp only [List.length_map];omega)) Jl Zr Qcs) (lO (OL.loadPn (us:=(Qg false x1)) (row:=(Qg true x1)) (tv (T.orp 4 1 i 0) rfl) rfl (QA _ hx1) QeH Zr (lb rfl) rfl (bc rfl (bc rfl (bc rfl (bc rfl bn))))) (kO (B.alloc (t:=(T.agg [(tN 0),(tB false),(tN 0),(tN 0)])) (ts:= [(tN 0),(tB false),(tN 0),(tN 0)]) YD Qjg nofun (fun _=> .agg _ _ rfl (Y5 (RL.cons (.int _ _) (RL.cons (.bool _) (RL.cons (.int _ _) (RL.cons (.int _ _) (RL.nil _))))))) rfl) (cO (B.storeW (us:=(Qg false x1)) (tv (T.op 3 0) rfl) (tv (T.agg (Qg false x1)) rfl) nofun rfl rfl rfl Qcs Zr (bc rfl (bc rfl (bc rfl (bc rfl bn))))) (nt (VRun.region (mO (T.os 1 2 0 ((((QJ g).take i).map ((Yd 1 Ql) true)).length)) rfl (lO (OL.loadOn (us:=(Qa false g)) (tv (T.op 0 0) rfl) rfl QO QM (lb rfl) rfl) (lO (OL.loadOn (us:=(Qg false x1)) (tv (T.op 3 0) rfl) rfl QeH Zr (lb rfl) rfl) (cO (OC.callF (r':=(T.os 1 4 0 (((Qm g x1 x1.Length.toNat).map (Ql true)).length))) (objs:= [(Obj.rows 1 ((Qm g x1 x1.Length.toNat).map (Ql true)))]) rfl (vc (tv (T.agg (Qa false g)) rfl) (vc (tv (T.agg (Qg false x1)) rfl) vn)) (LendL.cons (lg Qq) (LendL.cons (lg okeSlot) ln)) (QdX (n+2) g x1 (by exact JV (List.mem_of_getElem? hx1))) rfl) ?_)))))))))
  refine B.sliceB (t:=(T.os 1 4 0 (((Qm g x1 x1.Length.toNat).map (Ql true)).length))) (us:= [(T.os 1 4 0 (((Qm g x1 x1.Length.toNat).map (Ql true)).length))]) (rows:= [[(T.sl true 1 ((Qm g x1 x1.Length.toNat).map (Ql true)))]]) VWant.always (VEvp.cons (tv (T.os 1 4 0 (((Qm g x1 x1.Length.toNat).map (Ql true)).length)) rfl) VEvp.nil) nofun rfl (Bury.os rfl rfl Bury.nil (by decide)) rfl (bc rfl bn) rfl QdJ QjP (by kernel_rfl) rfl (by rw [Qf8];decide) Qf8 (Nat.le_of_ble_eq_true rfl) ?_
  refine cO (B.append (rows:=(((QJ g).take i).map ((Yd 1 Ql) true))) (rows2:= [[(T.sl true 1 ((Qm g x1 x1.Length.toNat).map (Ql true)))]]) (rows3:=(((QJ g).take i++ [Qm g x1 x1.Length.toNat]).map ((Yd 1 Ql) true))) (VDst.own (tv (T.os 1 2 0 ((((QJ g).take i).map ((Yd 1 Ql) true)).length)) rfl) rfl rfl) (VSrc.own (tv (T.os 1 5 0 1) rfl) rfl rfl QdJ (bc (bc rfl bn) bn)) (by decide) QdJ Qf8 (by decide) QjP rfl (of_decide_eq_true (by kernel_rfl)) (by (rw [List.length_map,List.length_take];simp only [List.length_cons,List.length_nil];omega)) ((List.map_append (f:=(Yd 1 Ql) true) (l₁:=(QJ g).take i) (l₂:= [Qm g x1 x1.Length.toNat])).symm)) (aO (T.os 1 6 0 ((((QJ g).take i++ [Qm g x1 x1.Length.toNat]).map ((Yd 1 Ql) true)).length)) rfl (VRunO.nil (vinB.n (tn (VRun.region (fO (QF (tv (tN i) rfl) (VEv.int .i64 1) (by omega)) (mO (tN (i+1)) rfl (VRunO.nil (tn ?_)))))))))
  have he2:((QJ g).take i++ [Qm g x1 x1.Length.toNat])=(QJ g).take (i+1):=by exact (Qgn hx1).symm
  refine ⟨(i+1:Nat),?_,?_,Wk.mk (fun k=>if k=2 then 6 else k) ?_ ?_ ?_⟩
  ·trivial
  ·omega
  ·exact (b2 (b2 (bc ⟨(congrArg (fun l_=>T.os 1 6 0 (List.map ((Yd 1 Ql) true) l_).length) he2),rfl⟩ (b2 (b2 (b2 bn))))))
  ·exact (b3 (b3 (bc ⟨(congrArg (fun l_=>some (Obj.rows 1 (List.map ((Yd 1 Ql) true) l_))) he2),(lb rfl),rfl⟩ bn)))
  ·exact nd rfl
 refine VRun.exit (vthn.e (vthn.e (vinB.e (tn (sr (mO (T.os 1 2 0 ((((QJ g).take i).map ((Yd 1 Ql) true)).length)) rfl (aO (T.os 1 2 0 ((((QJ g).take i).map ((Yd 1 Ql) true)).length)) rfl (nt (rt ?_)))))))))
 refine vfin.eq (r':=(T.sl true 1 (((QJ g).take i).map ((Yd 1 Ql) true)))) ?_ (vfin.r (VRes.tmp (t:=(T.os 1 2 0 ((((QJ g).take i).map ((Yd 1 Ql) true)).length))) rfl VRes.nil) (Give.os rfl rfl ((Qif okInt).cleanMap _)))
 refine congrArg (fun l_=>T.sl true 1 (List.map ((Yd 1 Ql) true) l_)) ?_
 rw [List.take_of_length_le (by omega)]
end Go.Proofs.YthifchndolccgaaDoor.AE
