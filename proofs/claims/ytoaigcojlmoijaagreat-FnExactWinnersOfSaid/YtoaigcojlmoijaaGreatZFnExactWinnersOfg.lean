/- A part of what the row of FnExactWinnersOf uses. Conditions: as each theorem states. -/
import Derived.Test.YtoaigcojlmoijaaGreatZFnExactWinnersOff
import Derived.Test.YtoaigcojlmoijaaGreatProg
namespace Go.Proofs.YtoaigcojlmoijaaGreat.AE
open Go Go.RowKit
set_option linter.unusedVariables false
set_option linter.unusedSimpArgs false
set_option maxRecDepth 20000
set_option maxHeartbeats 2000000
noncomputable section
def Zj (e o:D.Entry):Prop:=o.Player=e.Player
instance (e:D.Entry):DecidablePred (Zj e):=fun o=>inferInstanceAs (Decidable (o.Player=e.Player))
theorem Qlg {e:D.Entry}:∀ {s:List D.Entry},¬Jb (Zj e) s<0→∃o,s[(Jb (Zj e) s).toNat]? =some o∧o.Player=e.Player
 | [],h=>absurd (show (-1:Int)<0 by decide) h
 | y::r,h=>by
  by_cases hy:Zj e y
  ·have:Jb (Zj e) (y::r)=0:=if_pos hy
   rw [this]
   exact ⟨y,rfl,hy⟩
  ·have h1:Jb (Zj e) (y::r)=if Jb (Zj e) r<0 then -1 else Jb (Zj e) r+1:=if_neg hy
   by_cases hr:Jb (Zj e) r<0
   ·rw [h1,if_pos hr] at h
    exact absurd (by decide) h
   ·rw [if_neg hr] at h1
    obtain ⟨o,ho,hp⟩:=Qlg hr
    refine ⟨o,?_,hp⟩
    rw [h1,show (Jb (Zj e) r+1).toNat=(Jb (Zj e) r).toNat+1 by omega]
    exact ho
def JJ (x:D.Issue) (out:List D.Entry) (e:D.Entry):List D.Entry:=if Za e x then (if Jb (Zj e) out<0 then out++ [e] else match out[(Jb (Zj e) out).toNat]? with | some o=>(if Zf e o x then out.set (Jb (Zj e) out).toNat e else out) | none=>out) else out
def Zh (x:D.Issue) (l:List D.Entry):List D.Entry:=l.foldl (JJ x) []
theorem Qbd {x:D.Issue} {l:List D.Entry} {i:Nat} {e:D.Entry} (h:l[i]? =some e):Zh x (l.take (i+1))=JJ x (Zh x (l.take i)) e:=by
 unfold Zh
 rw [List.take_add_one,h,List.foldl_append]
 rfl
theorem Qik {x:D.Issue} {out:List D.Entry} {e:D.Entry} (h:¬Za e x):JJ x out e=out:=if_neg h
theorem Qim {x:D.Issue} {out:List D.Entry} {e:D.Entry} (h:Za e x) (h1:Jb (Zj e) out<0):JJ x out e=out++ [e]:=by rw [JJ,if_pos h,if_pos h1]
theorem Qfy {x:D.Issue} {out:List D.Entry} {e o:D.Entry} (h:Za e x) (h1:¬Jb (Zj e) out<0) (h2:out[(Jb (Zj e) out).toNat]? =some o) (h3:Zf e o x):JJ x out e=out.set (Jb (Zj e) out).toNat e:=by
 rw [JJ,if_pos h,if_neg h1,h2]
 exact if_pos h3
theorem QgO {x:D.Issue} {out:List D.Entry} {e o:D.Entry} (h:Za e x) (h1:¬Jb (Zj e) out<0) (h2:out[(Jb (Zj e) out).toNat]? =some o) (h3:¬Zf e o x):JJ x out e=out:=by
 rw [JJ,if_pos h,if_neg h1,h2]
 exact if_neg h3
theorem Qlc (x:D.Issue) (out:List D.Entry) (e:D.Entry):(JJ x out e).length≤out.length+1:=by
 unfold JJ
 split
 ·split
  ·simp
  ·split
   ·split
    ·simp
    ·omega
   ·omega
 ·omega
theorem Qk0 (x:D.Issue) (out:List D.Entry) (e y:D.Entry) (h:y∈JJ x out e):y∈out∨y=e:=by
 unfold JJ at h
 split at h
 ·split at h
  ·rcases List.mem_append.1 h with h | h
   ·exact .inl h
   ·exact .inr (List.mem_singleton.1 h)
  ·split at h
   ·split at h
    ·exact (List.mem_or_eq_of_mem_set h)
    ·exact .inl h
   ·exact .inl h
 ·exact .inl h
theorem QjU (x:D.Issue) (l:List D.Entry):(Zh x l).length≤l.length∧∀y∈Zh x l,y∈l:=by
 have key:∀(l out:List D.Entry),(l.foldl (JJ x) out).length≤out.length+l.length∧∀y∈l.foldl (JJ x) out,y∈out∨y∈l:=by
  intro l
  induction l with
  | nil=>intro out;exact ⟨Nat.le_refl _,fun y hy=> .inl hy⟩
  | cons e r ih =>
   intro out
   obtain ⟨h1,h2⟩:=ih (JJ x out e)
   have h3:=Qlc x out e
   refine ⟨by rw [List.foldl_cons,List.length_cons];omega,fun y hy=> ?_⟩
   rcases h2 y hy with h | h
   ·rcases Qk0 x out e y h with h | h
    ·exact .inl h
    ·exact .inr (h▸List.mem_cons_self)
   ·exact .inr (List.mem_cons_of_mem _ h)
 obtain ⟨h1,h2⟩:=key l []
 refine ⟨by rw [List.length_nil,Nat.zero_add] at h1;exact h1,fun y hy=> ?_⟩
 rcases h2 y hy with h | h
 ·cases h
 ·exact h
theorem Qm0 {m i:Nat} {x:D.Issue} {l:List D.Entry} (h:zAll m l):zAll m (Zh x (l.take i)):=by
 obtain ⟨h1,h2⟩:=QjU x (l.take i)
 have h3:(l.take i).length≤l.length:=by rw [List.length_take];omega
 exact ⟨by have:=h.1;omega,fun e he=>h.2 e (List.mem_of_mem_take (h2 e he))⟩
def Qm (x:D.Issue) (l:List D.Entry):List D.Entry:=Zx (aR x) (Zh x l) 0 (Zh x l).length
theorem Qg3 {m:Nat} {x:D.Issue} {l:List D.Entry} (h:zAll m l):zAll m (Qm x l):=by
 have h1:=Qm0 (i:=l.length) (x:=x) h
 rw [List.take_length] at h1
 exact h1.perm (QgH _ _ _)
def Qcu (x:D.Issue) (l:List D.Entry) (n k:Nat):Prop:=k<n∧∃e,l[k]? =some e∧Za e x∧∀k' f,k'<n→l[k']? =some f→f.Player=e.Player→Za f x→¬Zf f e x∧(k≤k'∨Zf e f x)
theorem Qdy {x:D.Issue} {l:List D.Entry} {n k k':Nat} {e f:D.Entry} (h:Qcu x l n k) (h':Qcu x l n k') (he:l[k]? =some e) (hf:l[k']? =some f) (hp:f.Player=e.Player):k=k':=by
 obtain ⟨h1,e',h2,h3,h4⟩:=h
 obtain ⟨g1,f',g2,g3,g4⟩:=h'
 rw [he] at h2;cases h2
 rw [hf] at g2;cases g2
 have a1:=h4 k' f g1 hf hp g3
 have a2:=g4 k e h1 he hp.symm h3
 rcases a1.2 with h5 | h5
 ·rcases a2.2 with h6 | h6
  ·omega
  ·exact absurd h6 a1.1
 ·exact absurd h5 a2.1
def CntI (x:D.Issue) (l:List D.Entry) (n:Nat) (s:List D.Entry):Prop:=s.Pairwise (fun a b=>¬a.Player=b.Player)∧(∀o∈s,∃k,Qcu x l n k∧l[k]? =some o)∧∀k e,k<n→l[k]? =some e→Za e x→∃o∈s,o.Player=e.Player
theorem Qci {x:D.Issue} {l:List D.Entry} {n k:Nat} {e o:D.Entry} (h:Qcu x l n k) (hk:l[k]? =some o) (he:l[n]? =some e) (hn:e.Player=o.Player→Za e x→¬Zf e o x):Qcu x l (n+1) k:=by
 obtain ⟨h1,o',h2,h3,h4⟩:=h
 rw [hk] at h2;cases h2
 refine ⟨by omega,o,hk,h3,fun k' f hk' hf hp hi=> ?_⟩
 by_cases c:k'=n
 ·subst c
  rw [he] at hf;cases hf
  exact ⟨hn hp hi, .inl (by omega)⟩
 ·exact h4 k' f (by omega) hf hp hi
theorem Qk4 {α:Type} {P:α→α→Prop} (hs:∀a b,P a b→P b a):∀ {s:List α} {i:Nat} {o e:α},s.Pairwise P→s[i]? =some o→(∀y,P o y→P e y)→(s.set i e).Pairwise P
 | x::r,0,o,e,h,hi,hy=>by
  cases hi
  rw [List.set_cons_zero]
  rw [List.pairwise_cons] at h ⊢
  exact ⟨fun y hm=>hy y (h.1 y hm),h.2⟩
 | x::r,i+1,o,e,h,hi,hy=>by
  rw [List.set_cons_succ]
  rw [List.pairwise_cons] at h ⊢
  refine ⟨fun y hm=> ?_,Qk4 hs h.2 (by simpa using hi) hy⟩
  rcases List.mem_or_eq_of_mem_set hm with hm | rfl
  ·exact h.1 y hm
  ·exact hs _ _ (hy x (hs _ _ (h.1 o (List.mem_of_getElem? (by simpa using hi)))))
theorem QiL {α:Type} {s:List α} {i:Nat} {e y:α} (h:y∈s.set i e):y=e∨∃j,¬j=i∧s[j]? =some y:=by
 obtain ⟨j,hj⟩:=List.getElem?_of_mem h
 rw [List.getElem?_set] at hj
 split at hj
 ·split at hj
  ·exact .inl (Option.some.inj hj).symm
  ·cases hj
 ·rename_i c
  exact .inr ⟨j,fun hh=>c hh.symm,hj⟩
theorem CntI.step {x:D.Issue} {l s:List D.Entry} {n:Nat} {e:D.Entry} (h:CntI x l n s) (he:l[n]? =some e):CntI x l (n+1) (JJ x s e):=by
 obtain ⟨h1,h2,h3⟩:=h
 by_cases hi:Za e x
 ·by_cases hx:Jb (Zj e) s<0
  ·have hno:∀o∈s,¬o.Player=e.Player:=fun o ho hp=>by
    have:=(QfP (p:=Zj e) (l:=s)).2 ⟨o,ho,hp⟩
    omega
   rw [Qim hi hx]
   refine ⟨?_,fun o ho=> ?_,fun k f hk hf hif=> ?_⟩
   ·rw [List.pairwise_append]
    refine ⟨h1,List.pairwise_singleton _ _,fun a ha b hb=> ?_⟩
    rw [List.mem_singleton] at hb
    subst hb
    exact hno a ha
   ·rcases List.mem_append.1 ho with ho | ho
    ·obtain ⟨k,hb,hk⟩:=h2 o ho
     exact ⟨k,Qci hb hk he (fun hp _=>absurd hp.symm (hno o ho)),hk⟩
    ·obtain rfl:=List.mem_singleton.1 ho
     refine ⟨n,⟨by omega,o,he,hi,fun k' f hk' hf hp hif=> ?_⟩,he⟩
     by_cases c:k'=n
     ·subst c
      rw [he] at hf;cases hf
      exact ⟨(ZC x).ir, .inl (Nat.le_refl _)⟩
     ·obtain ⟨o',ho',hp'⟩:=h3 k' f (by omega) hf hif
      exact absurd (hp'.trans hp) (hno o' ho')
   ·by_cases c:k=n
    ·subst c
     rw [he] at hf;cases hf
     exact ⟨e,List.mem_append_right _ (List.mem_singleton.2 Y),rfl⟩
    ·obtain ⟨o,ho,hp⟩:=h3 k f (by omega) hf hif
     exact ⟨o,List.mem_append_left _ ho,hp⟩
  ·obtain ⟨o1,ho1,hp1⟩:=(QfP (p:=Zj e) (l:=s)).1 (by omega)
   obtain ⟨j,hj⟩:=List.getElem?_of_mem ho1
   have hlt:=QiU (p:=Zj e) (l:=s)
   have hat:∃o,s[(Jb (Zj e) s).toNat]? =some o∧o.Player=e.Player:=Qlg hx
   obtain ⟨o,ho,hp⟩:=hat
   have hom:=List.mem_of_getElem? ho
   obtain ⟨k0,hb0,hk0⟩:=h2 o hom
   by_cases ha:Zf e o x
   ·rw [Qfy hi hx ho ha]
    refine ⟨Qk4 (fun a b h h'=>h h'.symm) h1 ho (fun y hy hh=>hy (hp.trans hh)),fun y hy=> ?_,fun k f hk hf hif=> ?_⟩
    ·rcases QiL hy with rfl | ⟨q,hq,hqs⟩
     ·refine ⟨n,⟨by omega,y,he,hi,fun k' f hk' hf hpf hif=> ?_⟩,he⟩
      by_cases c:k'=n
      ·subst c
       rw [he] at hf;cases hf
       exact ⟨(ZC x).ir, .inl (Nat.le_refl _)⟩
      ·obtain ⟨_,o2,e2,_,h4⟩:=hb0
       rw [hk0] at e2;cases e2
       have h5:=(h4 k' f (by omega) hf (hpf.trans hp.symm) hif).1
       exact ⟨fun hh=>h5 ((ZC x).tr hh ha), .inr (Classical.byContradiction fun hh=>(ZC x).nt h5 hh ha)⟩
     ·obtain ⟨k,hb,hk⟩:=h2 y (List.mem_of_getElem? hqs)
      refine ⟨k,Qci hb hk he (fun hpy _=> ?_),hk⟩
      exfalso
      have hne:∀a b,a<b→∀u v:D.Entry,s[a]? =some u→s[b]? =some v→¬u.Player=v.Player:=fun a b hab u v hu hv=>by
       obtain ⟨ha',rfl⟩:=List.getElem?_eq_some_iff.1 hu
       obtain ⟨hb',rfl⟩:=List.getElem?_eq_some_iff.1 hv
       exact List.pairwise_iff_getElem.1 h1 a b ha' hb' hab
      rcases Nat.lt_or_gt_of_ne hq with c | c
      ·exact hne _ _ c y o hqs ho (hpy.symm.trans hp.symm)
      ·exact hne _ _ c o y ho hqs (hp.trans hpy)
    ·by_cases c:k=n
     ·subst c
      rw [he] at hf;cases hf
      refine ⟨e,List.mem_of_getElem? (i:=(Jb (Zj e) s).toNat) ?_,rfl⟩
      rw [List.getElem?_set_self (by omega)]
     ·obtain ⟨o3,ho3,hp3⟩:=h3 k f (by omega) hf hif
      obtain ⟨q,hq⟩:=List.getElem?_of_mem ho3
      by_cases cq:q=(Jb (Zj e) s).toNat
      ·subst cq
       rw [ho] at hq;cases hq
       refine ⟨e,List.mem_of_getElem? (i:=(Jb (Zj e) s).toNat) ?_,hp.symm.trans hp3⟩
       rw [List.getElem?_set_self (by omega)]
      ·refine ⟨o3,List.mem_of_getElem? (i:=q) ?_,hp3⟩
       rw [List.getElem?_set_ne (fun hh=>cq hh.symm)]
       exact hq
   ·rw [QgO hi hx ho ha]
    refine ⟨h1,fun y hy=> ?_,fun k f hk hf hif=> ?_⟩
    ·obtain ⟨k,hb,hk⟩:=h2 y hy
     refine ⟨k,Qci hb hk he (fun hpy _=> ?_),hk⟩
     have:k0=k:=Qdy hb0 hb hk0 hk (hpy.symm.trans hp.symm)
     subst this
     rw [hk0] at hk;cases hk
     exact ha
    ·by_cases c:k=n
     ·subst c
      rw [he] at hf;cases hf
      exact ⟨o,hom,hp⟩
     ·exact h3 k f (by omega) hf hif
 ·rw [Qik hi]
  refine ⟨h1,fun o ho=> ?_,fun k f hk hf hif=> ?_⟩
  ·obtain ⟨k,hb,hk⟩:=h2 o ho
   exact ⟨k,Qci hb hk he (fun _ h=>absurd h hi),hk⟩
  ·by_cases c:k=n
   ·subst c
    rw [he] at hf;cases hf
    exact absurd hif hi
   ·exact h3 k f (by omega) hf hif
theorem CntI.all (x:D.Issue) (l:List D.Entry):∀n,n≤l.length→CntI x l n (Zh x (l.take n))
 | 0,_=>⟨.nil,fun o ho=>by simp [Zh] at ho,fun k e hk=>by omega⟩
 | n+1,h=>by
  have he:l[n]? =some l[n]:=List.getElem?_eq_getElem (by omega)
  rw [Qbd he]
  exact (CntI.all x l n (by omega)).step he
theorem CntI.end (x:D.Issue) (l:List D.Entry):CntI x l l.length (Zh x l):=by
 have h:=CntI.all x l l.length (Nat.le_refl _)
 rwa [List.take_length] at h
theorem Qit {a b:D.Entry} (x:D.Issue) (h:¬a.Player=b.Player):Zf a b x∨Zf b a x:=by
 unfold Zf
 omega
theorem Qmi (x:D.Issue) (l:List D.Entry):Tot (aR x) (Zh x l):=(CntI.end x l).1.imp (fun h=>Qit x h)
def RkI (x:D.Issue) (l:List D.Entry) (i:Nat) (s:List D.Entry):Prop:=s.Pairwise (aR x)∧s.length≤i∧∀e,e∈s↔∃k,k<i∧Qcu x l l.length k∧l[k]? =some e
theorem RkI.start (x:D.Issue) (l:List D.Entry):RkI x l 0 []:=⟨.nil,Nat.le_refl _,fun e=>⟨fun h=>(nomatch h),fun ⟨k,h,_⟩=>absurd h (Nat.not_lt_zero k)⟩⟩
theorem RkI.z {m i:Nat} {x:D.Issue} {l s:List D.Entry} (h:RkI x l i s) (hl:zAll m l) (hi:i≤l.length):zAll m s:=⟨by have:=h.2.1;have:=hl.1;omega,fun e he=>by
 obtain ⟨k,_,_,hk⟩:=(h.2.2 e).1 he
 exact hl.at hk⟩
theorem RkI.skip {x:D.Issue} {l s:List D.Entry} {i:Nat} (h:RkI x l i s) (hn:¬Qcu x l l.length i):RkI x l (i+1) s:=by
 obtain ⟨h1,h2,h3⟩:=h
 refine ⟨h1,by omega,fun e=> ?_⟩
 rw [h3]
 constructor
 ·rintro ⟨k,a,b,c⟩
  exact ⟨k,by omega,b,c⟩
 ·rintro ⟨k,a,b,c⟩
  by_cases hk:k=i
  ·subst hk;exact absurd b hn
  ·exact ⟨k,by omega,b,c⟩
def PosI (x:D.Issue) (s:List D.Entry) (e:D.Entry) (n:Nat):Prop:=n≤s.length∧∀q y,n≤q→s[q]? =some y→Zf e y x
theorem PosI.start (x:D.Issue) (s:List D.Entry) (e:D.Entry):PosI x s e s.length:=⟨Nat.le_refl _,fun q y hq hy=>by rw [List.getElem?_eq_none hq] at hy;cases hy⟩
theorem PosI.next {x:D.Issue} {s:List D.Entry} {e y:D.Entry} {n:Nat} (h:PosI x s e n) (hn:0<n) (hy:s[n - 1]? =some y) (ha:Zf e y x):PosI x s e (n - 1):=by
 refine ⟨by have:=h.1;omega,fun q z hq hz=> ?_⟩
 by_cases c:q=n - 1
 ·subst c
  rw [hy] at hz;cases hz
  exact ha
 ·exact h.2 q z (by omega) hz
theorem RkI.put {x:D.Issue} {l s:List D.Entry} {i n:Nat} {e:D.Entry} (h:RkI x l i s) (hb:Qcu x l l.length i) (he:l[i]? =some e) (hp:PosI x s e n) (hs:n=0∨∃y,s[n - 1]? =some y∧¬Zf e y x):RkI x l (i+1) (s.take n++ [e]++s.drop n):=by
 obtain ⟨h1,h2,h3⟩:=h
 obtain ⟨p1,p2⟩:=hp
 have hlo:∀y∈s.take n,Zf y e x:=by
  intro y hy
  obtain ⟨q,hq⟩:=List.getElem?_of_mem hy
  rw [List.getElem?_take] at hq
  split at hq
  ·rename_i hqn
   rcases hs with hs | ⟨z,hz,hnz⟩
   ·omega
   ·have hzm:=List.mem_of_getElem? hz
    obtain ⟨k,k1,k2,k3⟩:=(h3 z).1 hzm
    have hne:¬z.Player=e.Player:=fun hh=>by
     have:=Qdy hb k2 he k3 hh
     omega
    have hze:Zf z e x:=(Qit x hne).resolve_right hnz
    by_cases c:q=n - 1
    ·subst c
     rw [hz] at hq;cases hq
     exact hze
    ·refine (ZC x).tr ?_ hze
     obtain ⟨a1,rfl⟩:=List.getElem?_eq_some_iff.1 hq
     obtain ⟨a2,rfl⟩:=List.getElem?_eq_some_iff.1 hz
     exact List.pairwise_iff_getElem.1 h1 q (n - 1) a1 a2 (by omega)
  ·cases hq
 have hhi:∀y∈s.drop n,Zf e y x:=by
  intro y hy
  obtain ⟨q,hq⟩:=List.getElem?_of_mem hy
  rw [List.getElem?_drop] at hq
  exact p2 _ y (by omega) hq
 refine ⟨?_,?_,fun y=> ?_⟩
 ·rw [List.append_assoc,List.pairwise_append]
  refine ⟨h1.sublist (List.take_sublist _ _),?_,fun a ha b hb'=> ?_⟩
  ·rw [List.singleton_append,List.pairwise_cons]
   exact ⟨hhi,h1.sublist (List.drop_sublist _ _)⟩
  ·rcases List.mem_append.1 hb' with hb' | hb'
   ·rw [List.mem_singleton.1 hb']
    exact hlo a ha
   ·exact (ZC x).tr (hlo a ha) (hhi b hb')
 ·simp only [List.length_append,List.length_take,List.length_drop,List.length_cons,List.length_nil]
  omega
 ·have hm:y∈s.take n++ [e]++s.drop n↔y=e∨y∈s:=by
   conv=>rhs;rw [← List.take_append_drop n s]
   simp only [List.mem_append,List.mem_singleton]
   constructor
   ·rintro ((a | a) | a)
    ·exact .inr (.inl a)
    ·exact .inl a
    ·exact .inr (.inr a)
   ·rintro (a | a | a)
    ·exact .inl (.inr a)
    ·exact .inl (.inl a)
    ·exact .inr a
  rw [hm,h3]
  constructor
  ·rintro (rfl | ⟨k,a,b,c⟩)
   ·exact ⟨i,by omega,hb,he⟩
   ·exact ⟨k,by omega,b,c⟩
  ·rintro ⟨k,a,b,c⟩
   by_cases hk:k=i
   ·subst hk
    rw [he] at c;cases c
    exact .inl Y
   ·exact .inr ⟨k,by omega,b,c⟩
theorem RkI.done {x:D.Issue} {l s:List D.Entry} (h:RkI x l l.length s):s=Qm x l:=by
 obtain ⟨h1,h2,h3⟩:=h
 obtain ⟨c1,c2,c3⟩:=CntI.end x l
 have hm:∀e,e∈s↔e∈Zh x l:=fun e=>by
  rw [h3]
  constructor
  ·rintro ⟨k,a,b,c⟩
   have b0:=b
   obtain ⟨_,e',b2,b3,_⟩:=b
   rw [c] at b2;cases b2
   obtain ⟨o,ho,hp⟩:=c3 k e a c b3
   obtain ⟨k2,d1,d2⟩:=c2 o ho
   have:=Qdy b0 d1 c d2 hp
   subst this
   rw [c] at d2;cases d2
   exact ho
  ·intro he
   obtain ⟨k,d1,d2⟩:=c2 e he
   exact ⟨k,d1.1,d1,d2⟩
 have hp:s.Perm (Zh x l):=(List.perm_ext_iff_of_nodup (h1.imp (fun {a b} h hh=>by subst hh;exact (ZC x).ir h)) (c1.imp (fun {a b} h hh=>by subst hh;exact h Y))).2 hm
 refine (Res.eq (ZC x) (Nat.zero_le _) ⟨hp,fun k hk=> ?_,fun i j _ hij _ a b ha hb=> ?_⟩).symm
 ·rw [List.getElem?_eq_none (by rw [hp.length_eq];omega),List.getElem?_eq_none (by omega)]
 ·obtain ⟨a1,rfl⟩:=List.getElem?_eq_some_iff.1 ha
  obtain ⟨a2,rfl⟩:=List.getElem?_eq_some_iff.1 hb
  exact List.pairwise_iff_getElem.1 h1 i j a1 a2 hij
def CtI (x:D.Issue) (l:List D.Entry) (i:Nat) (e:D.Entry) (k:Nat) (c:Bool):Prop:=k≤l.length∧(c=true→Za e x∧∀k' f,k'<k→l[k']? =some f→f.Player=e.Player→Za f x→¬Zf f e x∧(i≤k'∨Zf e f x))∧(c=false→¬Qcu x l l.length i)
theorem CtI.start {x:D.Issue} {l:List D.Entry} {i:Nat} {e:D.Entry} (he:l[i]? =some e):CtI x l i e 0 (decide (Za e x)):=⟨Nat.zero_le _,fun h=>⟨of_decide_eq_true h,fun k' f h=>by omega⟩,fun h hb=>by
 obtain ⟨_,e',h2,h3,_⟩:=hb
 rw [he] at h2;cases h2
 exact absurd h3 (of_decide_eq_false h)⟩
theorem CtI.next {x:D.Issue} {l:List D.Entry} {i k:Nat} {e f:D.Entry} {c':Bool} (h:CtI x l i e k true) (he:l[i]? =some e) (hf:l[k]? =some f) (h1:f.Player=e.Player→Za f x→(c'=true↔(¬Zf f e x∧(i≤k∨Zf e f x)))) (h2:¬(f.Player=e.Player∧Za f x)→c'=true):CtI x l i e (k+1) c':=by
 obtain ⟨g1,g2,_⟩:=h
 obtain ⟨g3,g4⟩:=g2 Y
 have hk:=(List.getElem?_eq_some_iff.1 hf).1
 refine ⟨hk,fun hc=>⟨g3,fun k' f' hk' hf' hp hi=> ?_⟩,fun hc hb=> ?_⟩
 ·by_cases c:k'=k
  ·subst c
   rw [hf] at hf';cases hf'
   exact (h1 hp hi).1 hc
  ·exact g4 k' f' (by omega) hf' hp hi
 ·by_cases c:f.Player=e.Player∧Za f x
  ·obtain ⟨_,e',b2,_,b4⟩:=hb
   rw [he] at b2;cases b2
   have:=(h1 c.1 c.2).2 (b4 k f hk hf c.1 c.2)
   rw [hc] at this;cases this
  ·have:=h2 c
   rw [hc] at this;cases this
theorem CtI.yes {x:D.Issue} {l:List D.Entry} {i k:Nat} {e:D.Entry} {c:Bool} (h:CtI x l i e k c) (he:l[i]? =some e) (hc:c=true) (hk:¬k<l.length):Qcu x l l.length i:=by
 obtain ⟨g1,g2,_⟩:=h
 obtain ⟨g3,g4⟩:=g2 hc
 exact ⟨(List.getElem?_eq_some_iff.1 he).1,e,he,g3,fun k' f hk' hf hp hi=>g4 k' f (by omega) hf hp hi⟩
end
theorem ZQ (n:Nat) (l:List D.Entry) (e:D.Entry) (hl:l.length≤mx):Pure (Qs Tryz.prog (n+2)) 41 [(rd 4 Qa l),(T.fn 42 [(T.rp (Qa false e))])] (tI (Jb (Zj e) l)):=by
 refine Pure.intro (rs:= [ResultVar.tmp 4]) Tryz.func41 Y Y Y (E0:= [(0,(rd 4 Qa l)),(1,(T.fn 42 [(T.rp (Qa false e))]))]) Y ?_
 obtain ⟨hlim,hmx,hmax⟩:=QA
 refine sr (fO (OF.assign (VEv.int .i64 0)) (nt (sq (sr (mO (rd 4 Qa l) Y (lO (B.lenR (m:=l.length) (tv (rd 4 Qa l) Y) Yb (List.length_map ..)) (fO (OF.move (VEv.int .i64 0)) (nt (VRun.block ?_)))))))))
 refine VRun.loop (A:=Nat) (fun s_=> [(0,(rd 4 Qa l)),(1,(T.fn 42 [(T.rp (Qa false e))])),(7,(tN l.length)),(8,(tN s_))]) (fun s_=>QV []) 0 (fun s_=>NoneTo (Zj e) l s_) (fun s_=>l.length - s_) (0:Nat) ?_ (Wk.mk (fun k=>k) ?_ ?_ ?_) ?_
 ·exact NoneTo.start _ _
 ·exact (b2 (b2 (b2 (b2 bn))))
 ·exact bn
 ·exact nd Y
 rintro i (hI':NoneTo (Zj e) l i)
 show VRun _ _ _ [(0,(rd 4 Qa l)),(1,(T.fn 42 [(T.rp (Qa false e))])),(7,(tN l.length)),(8,(tN i))] (QV []) 0 _
 have hI1:=hI'.1
 refine sr (fO (Q5 (tv (tN i) Y) (tv (tN l.length) Y)) (nt (sq ?_)))
 refine cd (i<l.length) Y (fun fhc0=> ?_) fun fhc0=> ?_
 ·refine sk ?_
  refine tn (sq (VRun.block (sr (mO (tN i) Y (aO (tN i) Y (nt (sr (mO (T.fn 42 [(T.rp (Qa false e))]) Y (mO (rd 4 Qa l) Y (mO (tN i) Y ?_))))))))))
  obtain ⟨x1,hx1⟩:∃x,l[i]? =some x:=⟨_,List.getElem?_eq_getElem (by omega)⟩
  refine fO (OF.indexAddrR (row:=(Qa false x1)) (i:=i) (tv (rd 4 Qa l) Y) (tv (tN i) Y) Y (Qr _ hx1) Yb Qz Zo) (lO (OL.loadRn (us:=(Qa false x1)) (tv (T.rp (Qa false x1)) Y) ZX Qz (lb Y) Y) (cO (OC.callv (us:= [(T.agg (Qa false x1))]) (ucaps:= [(T.rp (Qa false e))]) (r:=(tB (decide (x1.Player=e.Player)))) (r':=(tB (decide (x1.Player=e.Player)))) (objs:= []) Y Y (vc (tv (T.agg (Qa false x1)) Y) vn) (LendL.cons (lg okeEntry) ln) (Z8 Y) (Qde (n+0) x1 e) Y) (nt ?_)))
  refine cd (x1.Player=e.Player) Y (fun fhc1=> ?_) fun fhc1=> ?_
  ·refine sr ?_
   refine mO (tN i) Y (aO (tN i) Y (nt (rt (vinB.r (tr (tr (vinB.r (tr (vi (n':=((i:Nat):Int)) Y ?_)))))))))
   exact (Qce hx1 fhc1 hI'.2).symm
  refine sk (vinB.n (tn (VRun.region (fO (Qx (tv (tN i) Y) (VEv.int .i64 1) (by omega)) (mO (tN (i+1)) Y (VRunO.nil (tn ?_)))))))
  refine ⟨(i+1:Nat),?_,?_,Wk.mk (fun k=>k) ?_ ?_ ?_⟩
  ·exact hI'.next hx1 fhc1
  ·omega
  ·exact (b2 (b2 (b2 (b2 bn))))
  ·exact bn
  ·exact nd Y
 refine VRun.exit (vthn.e (vthn.e (vinB.e (tn (sr (fO (OF.assign (VEv.int .i64 (-1))) (nt (rt (vi (n':=(-1)) Y ?_)))))))))
 exact (Qc7 (hI'.all fhc0)).symm
theorem QbE (n:Nat) (l:List D.Entry) (y:D.Issue) (hl:zAll mx l) (hz:Q3 y≤mx):Pure (Qs Tryz.prog (n+71)) 25 [(rd 4 Qa l),(T.agg (Qe false y))] (T.sl true 4 ((Qm y l).map (Qa true))):=by
 refine Pure.intro (rs:= [ResultVar.tmp 4]) Tryz.func25 Y Y Y (E0:= [(0,(rd 4 Qa l)),(1,(T.agg (Qe false y)))]) Y ?_
 obtain ⟨hlim,hmx,hmax⟩:=QA
 have hl1:=hl.1
 refine sr (kO (B.box (ts:=(Qe false y)) (tv (T.agg (Qe false y)) Y) nofun Y) (fO (OF.assign VEv.nils) (nt (sr (fO (OF.assign VEv.nils) (nt (sq (sr (mO (rd 4 Qa l) Y (lO (B.lenR (m:=l.length) (tv (rd 4 Qa l) Y) Yb (List.length_map ..)) (fO (OF.move (VEv.int .i64 0)) ?_)))))))))))
 refine nt (VRun.block (VRun.wk (Wk.phantom 5 4 Y) ?_))
 have he1: []=((Zh y (l.take 0)).map (Qa true)):=by rfl
 refine VRun.loop (A:=Nat) (fun s_=> [(3,(T.op 0 0)),(4,T.nils),(5,(T.os 4 1 0 (((Zh y (l.take s_)).map (Qa true)).length))),(9,(rd 4 Qa l)),(10,(tN l.length)),(11,(tN s_))]) (fun s_=>QV [(0,(Obj.cells (Qe false y))),(1,(Obj.rows 4 ((Zh y (l.take s_)).map (Qa true))))]) 2 (fun s_=>s_≤l.length) (fun s_=>l.length - s_) (0:Nat) ?_ (Wk.mk (fun k=>k) ?_ ?_ ?_) ?_
 ·(simp;done)
 ·exact (b2 (b2 (bc ⟨(congrArg (fun n_=>T.os 4 1 0 n_) (show 0=((Zh y (l.take 0)).map (Qa true)).length from (by rfl))),rfl⟩ (b2 (b2 (b2 bn))))))
 ·exact (b3 (bc ⟨(congrArg (fun l_=>some (Obj.rows 4 l_)) he1),(lb Y),rfl⟩ bn))
 ·exact nd Y
 rintro i (hI':i≤l.length)
 show VRun _ _ _ [(3,(T.op 0 0)),(4,T.nils),(5,(T.os 4 1 0 (((Zh y (l.take i)).map (Qa true)).length))),(9,(rd 4 Qa l)),(10,(tN l.length)),(11,(tN i))] (QV [(0,(Obj.cells (Qe false y))),(1,(Obj.rows 4 ((Zh y (l.take i)).map (Qa true))))]) 2 _
 have hI0:=hI'
 have hcz:=Qm0 (i:=i) (x:=y) hl
 have hcl:=(QjU y (l.take i)).1
 have htl:(l.take i).length≤l.length:=by rw [List.length_take];omega
 have hct:=Qmi y (l.take i)
 refine sr (fO (Q5 (tv (tN i) Y) (tv (tN l.length) Y)) (nt (sq ?_)))
 refine cd (i<l.length) Y (fun fhc0=> ?_) fun fhc0=> ?_
 ·refine sk ?_
  refine tn (sq (VRun.block (sr ?_)))
  obtain ⟨x1,hx1⟩:∃x,l[i]? =some x:=⟨_,List.getElem?_eq_getElem (by omega)⟩
  have hze1:=hl.at hx1
  refine fO (OF.indexAddrR (row:=(Qa false x1)) (i:=i) (tv (rd 4 Qa l) Y) (tv (tN i) Y) Y (Qr _ hx1) Yb Qz Zo) (lO (OL.loadRn (us:=(Qa false x1)) (tv (T.rp (Qa false x1)) Y) ZX Qz (lb Y) Y) (kO (B.alloc (t:=(T.agg [(tN 0),(tN 0),(tN 0),(tS ByteArray.empty)])) (ts:= [(tN 0),(tN 0),(tN 0),(tS ByteArray.empty)]) Qbm Qkn nofun (fun _=> .agg _ _ Y (Jm (RL.cons (.int _ _) (RL.cons (.int _ _) (RL.cons (.int _ _) (RL.cons (.str _) (RL.nil _))))))) Y) (cO (B.storeW (us:=(Qa false x1)) (tv (T.op 2 0) Y) (tv (T.agg (Qa false x1)) Y) nofun Y Y Y Zo Qz (bc Y (bc Y (bc Y (bc Y bn))))) (nt (sq (sr (lO (OL.loadOn (us:=(Qa false x1)) (tv (T.op 2 0) Y) Y ZX Qz (lb Y) Y) (lO (OL.loadOn (us:=(Qe false y)) (tv (T.op 0 0) Y) Y Jj YZ (lb Y) Y) (cO (cS (vc (tv (T.agg (Qa false x1)) Y) (vc (tv (T.agg (Qe false y)) Y) vn)) (LendL.cons (lg okeEntry) (LendL.cons (lg Q1) ln)) (QbS (n+25) x1 y (by assumption) (by assumption)) Y Y) (fO (Zd (tv (tB (decide (Za x1 y))) Y)) (nt ?_)))))))))))
  refine cn (Za x1 y) Y (fun fhc1=> ?_) fun fhc1=> ?_
  ·refine VRun.exit ?_
   refine vthn.e (vinB.e (tn (VRun.region (fO (Qx (tv (tN i) Y) (VEv.int .i64 1) (by omega)) (mO (tN (i+1)) Y (VRunO.nil (tn ?_)))))))
   have he2:Zh y (l.take i)=Zh y (l.take (i+1)):=by first | rfl | (rw [Qbd hx1,Qik fhc1];done)
   refine ⟨(i+1:Nat),?_,?_,Wk.mk (fun k=>k) ?_ ?_ ?_⟩
   ·trivial
   ·omega
   ·exact (b2 (b2 (bc ⟨(congrArg (fun l_=>T.os 4 1 0 (List.map (Qa true) l_).length) he2),rfl⟩ (b2 (b2 (b2 bn))))))
   ·exact (b3 (bc ⟨(congrArg (fun l_=>some (Obj.rows 4 (List.map (Qa true) l_))) he2),(lb Y),rfl⟩ bn))
   ·exact nd Y
  have hix:=QiU (p:=Zj x1) (l:=Zh y (l.take i))
  refine sk (tn (sr (mO (T.os 4 1 0 (((Zh y (l.take i)).map (Qa true)).length)) Y (fO (OF.makeFunc (vc (tv (T.op 2 0) Y) vn)) (cO (cS (us:= [(rd 4 Qa (Zh y (l.take i))),(T.fn 42 [(T.rp (Qa false x1))])]) (vc (tv (T.os 4 1 0 (((Zh y (l.take i)).map (Qa true)).length)) Y) (vc (tv (T.fn 42 [(T.op 2 0)]) Y) vn)) (LendL.cons (Lend.os Y Y (okeEntry.fzMap _ _)) (LendL.cons (Lend.fn (LendL.cons (Lend.op (us':=(Qa false x1)) (ts:=(Qa false x1)) Y (LendL.cons (Lend.pl Y) (LendL.cons (Lend.pl Y) (LendL.cons (Lend.pl Y) (LendL.cons (Lend.pl Y) ln)))) (lb Y) Y) ln)) ln)) (ZQ (n+68) (Zh y (l.take i)) x1 (by omega)) Y Y) (aO (tI (Jb (Zj x1) (Zh y (l.take i)))) Y (nt (VRun.block (sr (mO (tI (Jb (Zj x1) (Zh y (l.take i)))) Y (fO (xls (tv (tI (Jb (Zj x1) (Zh y (l.take i)))) Y) (VEv.int .i64 0)) ?_)))))))))))
  refine aO (tB (decide (Jb (Zj x1) (Zh y (l.take i))<0))) Y (nt ?_)
  refine cd (Jb (Zj x1) (Zh y (l.take i))<0) Y (fun fhc2=> ?_) fun fhc2=> ?_
  ·refine VRun.region ?_
   refine mO (T.os 4 1 0 (((Zh y (l.take i)).map (Qa true)).length)) Y (lO (OL.loadOn (us:=(Qa false x1)) (tv (T.op 2 0) Y) Y ZX Qz (lb Y) Y) (kO (OM.buildSlice (l:= [(T.agg (Qa false x1))]) (VEvp.cons (tv (T.agg (Qa false x1)) Y) VEvp.nil) Y (by decide) (bc (nofun) bn) (bc ((bc (Y) (bc (Y) (bc (Y) (bc (Y) bn))))) bn) (bc (Y) bn) Yb Qbm (by kernel_rfl) Y (by rw [Qz];decide) Qz (Nat.le_of_ble_eq_true Y)) (cO (B.append (rows:=((Zh y (l.take i)).map (Qa true))) (rows2:= [[(tI x1.Player),(tI x1.Issue),(tI x1.Tick),(tS x1.Fill)]]) (rows3:=((Zh y (l.take i)++ [x1]).map (Qa true))) (VDst.own (tv (T.os 4 1 0 (((Zh y (l.take i)).map (Qa true)).length)) Y) Y Y) (VSrc.own (tv (T.os 4 3 0 1) Y) Y Y Yb (bc (bc Y (bc Y (bc Y (bc Y bn)))) bn)) (by decide) Yb Qz (by decide) Qbm Y (of_decide_eq_true (by kernel_rfl)) (by (simp only [List.length_map,List.length_append,List.length_cons,List.length_nil,List.length_replicate,List.length_set,List.length_drop,List.length_take,Y2] at *;omega)) ((List.map_append (f:=Qa true) (l₁:=Zh y (l.take i)) (l₂:= [x1])).symm)) (aO (T.os 4 4 0 (((Zh y (l.take i)++ [x1]).map (Qa true)).length)) Y (VRunO.nil (vinB.n (vinB.n (tn (VRun.region (fO (Qx (tv (tN i) Y) (VEv.int .i64 1) (by omega)) (mO (tN (i+1)) Y ?_)))))))))))
   refine VRunO.nil (tn ?_)
   have he3:(Zh y (l.take i)++ [x1])=Zh y (l.take (i+1)):=by first | rfl | (rw [Qbd hx1,Qim (by assumption) fhc2];done)
   refine ⟨(i+1:Nat),?_,?_,Wk.mk (fun k=>if k=1 then 4 else k) ?_ ?_ ?_⟩
   ·trivial
   ·omega
   ·exact (b2 (b2 (bc ⟨(congrArg (fun l_=>T.os 4 4 0 (List.map (Qa true) l_).length) he3),rfl⟩ (b2 (b2 (b2 bn))))))
   ·exact (b3 (bc ⟨(congrArg (fun l_=>some (Obj.rows 4 (List.map (Qa true) l_))) he3),(lb Y),rfl⟩ bn))
   ·exact nd Y
  refine sq (VRun.draw (B:= [[],[],[],[2,1],[1,2,3],[],[5,3,2,1,4,0],[0,4,1,2,3,5,6]]) (by kernel_rfl) (by kernel_rfl) Y (lD (OL.loadOn (us:=(Qa false x1)) (tv (T.op 2 0) Y) Y ZX Qz (lb Y) Y) Y Y (mD (T.os 4 1 0 (((Zh y (l.take i)).map (Qa true)).length)) Y Y (mD (tI (Jb (Zj x1) (Zh y (l.take i)))) Y Y ?_))))
  obtain ⟨x2,hx2⟩:∃x,(Zh y (l.take i))[(Int.toNat (Jb (Zj x1) (Zh y (l.take i))))]? =some x:=⟨_,List.getElem?_eq_getElem (by omega)⟩
  have hze2:=hcz.at hx2
  refine fD (B.indexAddrO (i:=(Int.toNat (Jb (Zj x1) (Zh y (l.take i))))) (tv (T.os 4 1 0 (((Zh y (l.take i)).map (Qa true)).length)) Y) (tv (tI (Jb (Zj x1) (Zh y (l.take i)))) Y) (by omega) (by (simp only [List.length_map];omega)) Yb Qz Zo) Y Y (lD (OL.loadPn (us:=(Qa false x2)) (row:=(Qa true x2)) (tv (T.orp 4 1 (Int.toNat (Jb (Zj x1) (Zh y (l.take i)))) 0) Y) Y (Qr _ hx2) ZX Qz (lb Y) Y (bc Y (bc Y (bc Y (bc Y bn))))) Y Y (lD (OL.loadOn (us:=(Qe false y)) (tv (T.op 0 0) Y) Y Jj YZ (lb Y) Y) Y Y (VRunD.quiet (bi:= [5,3,2,1,4,0]) Y VWant.always Y Y Y bn (cS (vc (tv (T.agg (Qa false x1)) Y) (vc (tv (T.agg (Qa false x2)) Y) (vc (tv (T.agg (Qe false y)) Y) vn))) (LendL.cons (lg okeEntry) (LendL.cons (lg okeEntry) (LendL.cons (lg Q1) ln))) (Qab (n+23) x1 x2 y (by assumption) (by assumption) (by assumption)) Y Y) (fD (OF.assign (tv (tB (decide (Zf x1 x2 y))) Y)) Y Y (VRunD.nil (tn ?_))))))
  refine cd (Zf x1 x2 y) Y (fun fhc3=> ?_) fun fhc3=> ?_
  ·refine VRun.region ?_
   refine mO (T.os 4 1 0 (((Zh y (l.take i)).map (Qa true)).length)) Y (mO (tI (Jb (Zj x1) (Zh y (l.take i)))) Y (lO (OL.loadOn (us:=(Qa false x1)) (tv (T.op 2 0) Y) Y ZX Qz (lb Y) Y) (fO (B.indexAddrO (i:=(Int.toNat (Jb (Zj x1) (Zh y (l.take i))))) (tv (T.os 4 1 0 (((Zh y (l.take i)).map (Qa true)).length)) Y) (tv (tI (Jb (Zj x1) (Zh y (l.take i)))) Y) (by omega) (by (simp only [List.length_map];omega)) Yb Qz Zo) (cO (B.storeP (us:=(Qa false x1)) (rows':=(((Zh y (l.take i)).set (Int.toNat (Jb (Zj x1) (Zh y (l.take i)))) x1).map (Qa true))) (row:=(Qa true x2)) (tv (T.orp 4 1 (Int.toNat (Jb (Zj x1) (Zh y (l.take i)))) 0) Y) (tv (T.agg (Qa false x1)) Y) nofun Y (Qr _ hx2) Y (lb Y) Zo Qz (bc Y (bc Y (bc Y (bc Y bn)))) (by intro r hr t ht;obtain ⟨x,_,rfl⟩:=List.mem_map.1 hr;rw [Yy] at ht;exact QT (okeEntry.pl _ t ht)) (QZ Y)) (VRunO.nil (vinB.n (vinB.n (tn (VRun.region (fO (Qx (tv (tN i) Y) (VEv.int .i64 1) (by omega)) (mO (tN (i+1)) Y ?_)))))))))))
   refine VRunO.nil (tn ?_)
   have he4:((Zh y (l.take i)).set (Int.toNat (Jb (Zj x1) (Zh y (l.take i)))) x1)=Zh y (l.take (i+1)):=by first | rfl | (rw [Qbd hx1,Qfy (by assumption) fhc2 hx2 fhc3];done)
   refine ⟨(i+1:Nat),?_,?_,Wk.mk (fun k=>k) ?_ ?_ ?_⟩
   ·trivial
   ·omega
   ·exact (b2 (b2 (bc ⟨(congrArg (fun n_=>T.os 4 1 0 n_) (show ((Zh y (l.take i)).map (Qa true)).length=((Zh y (l.take (i+1))).map (Qa true)).length from (by (rw [List.length_map,List.length_map,Qbd hx1,Qfy (by assumption) fhc2 hx2 fhc3,List.length_set];done)))),rfl⟩ (b2 (b2 (b2 bn))))))
   ·exact (b3 (bc ⟨(congrArg (fun l_=>some (Obj.rows 4 (List.map (Qa true) l_))) he4),(lb Y),rfl⟩ bn))
   ·exact nd Y
  refine sk (vinB.n (vinB.n (tn (VRun.region (fO (Qx (tv (tN i) Y) (VEv.int .i64 1) (by omega)) (mO (tN (i+1)) Y (VRunO.nil (tn ?_))))))))
  have he5:Zh y (l.take i)=Zh y (l.take (i+1)):=by first | rfl | (rw [Qbd hx1,QgO (by assumption) fhc2 hx2 fhc3];done)
  refine ⟨(i+1:Nat),?_,?_,Wk.mk (fun k=>k) ?_ ?_ ?_⟩
  ·trivial
  ·omega
  ·exact (b2 (b2 (bc ⟨(congrArg (fun l_=>T.os 4 1 0 (List.map (Qa true) l_).length) he5),rfl⟩ (b2 (b2 (b2 bn))))))
  ·exact (b3 (bc ⟨(congrArg (fun l_=>some (Obj.rows 4 (List.map (Qa true) l_))) he5),(lb Y),rfl⟩ bn))
  ·exact nd Y
 refine VRun.exit (vthn.e (vthn.e (vinB.e (tn (VRun.wk (Wk.cell (d1:=3) (us:=(Qe false y)) Y Y (bc Y (bc Y (bc Y (bc Y (bc Y (bc Y (bc Y (bc Y (bc Y (bc Y bn))))))))))) (sr (mO (T.os 4 1 0 (((Zh y (l.take i)).map (Qa true)).length)) Y (fO (OF.makeFunc (vc (tv (T.rp (Qe false y)) Y) vn)) (cO (OC.callLoan (ts:= [(T.os 4 0 0 (((Zh y (l.take i)).map (Qa true)).length)),(T.fn 45 [(T.rp (Qe false y))])]) (k:=1) (r:=(T.tup [])) (rows:=((Zh y (l.take i)).map (Qa true))) (rows':=((Zx (aR y) (Zh y (l.take i)) 0 (Zh y (l.take i)).length).map (Qa true))) Y (vc (tv (T.os 4 1 0 (((Zh y (l.take i)).map (Qa true)).length)) Y) (vc (tv (T.fn 45 [(T.rp (Qe false y))]) Y) vn)) Y Y Y LRes.none Y (QL (fun _=>rfl) _) (QL (fun _=>rfl) _) (ZH (n+0) (Zh y (l.take i)) y (by assumption) (by assumption) (by assumption))) (nt (sr ?_)))))))))))
 refine mO (T.os 4 1 0 (((Zh y (l.take i)).map (Qa true)).length)) Y (aO (T.os 4 1 0 (((Zh y (l.take i)).map (Qa true)).length)) Y (nt (rt ?_)))
 refine vfin.eq (r':=(T.sl true 4 ((Zx (aR y) (Zh y (l.take i)) 0 (Zh y (l.take i)).length).map (Qa true)))) ?_ (vfin.r (VRes.tmp (t:=(T.os 4 1 0 (((Zh y (l.take i)).map (Qa true)).length))) Y VRes.nil) (Give.os Y (by simp only [List.length_map,List.length_set,Yr]) (okeEntry.cleanMap _)))
 refine congrArg (fun l_=>T.sl true 4 (List.map (Qa true) l_)) ?_
 rw [List.take_of_length_le (by omega)];rfl
noncomputable section
theorem tkm {α β:Type} {l:List α} {i:Nat} {e:α} (f:α→β) (h:l[i]? =some e):(l.take i).map f++ [f e]=(l.take (i+1)).map f:=by
 rw [List.take_add_one,h,List.map_append]
 rfl
theorem QmX {α β:Type} {l:List α} {i:Nat} {e:α} (p:α→Bool) (f:α→β) (h:l[i]? =some e) (hp:p e=true):((l.take i).filter p).map f++ [f e]=((l.take (i+1)).filter p).map f:=by
 rw [List.take_add_one,h,List.filter_append,List.map_append]
 simp [hp]
theorem QmQ {α β:Type} {l:List α} {i:Nat} {e:α} (p:α→Bool) (f:α→β) (h:l[i]? =some e) (hp:p e=false):((l.take i).filter p).map f=((l.take (i+1)).filter p).map f:=by
 rw [List.take_add_one,h,List.filter_append,List.map_append]
 simp [hp]
def Zm (e:D.Entry):Int:=e.Player
def QG (y:D.Issue) (e:D.Entry):Bool:=decide (QF e y=y.Puzzle.Clues.length)
theorem Qlm (y:D.Issue) (l:List D.Entry) (i:Nat):(((l.take i).filter (QG y)).map Zm).length≤l.length:=by
 rw [List.length_map]
 refine Nat.le_trans (List.length_filter_le _ _) ?_
 rw [List.length_take];omega
end
theorem Qjd (n:Nat) (l:List D.Entry) (y:D.Issue) (hl:zAll mx l) (hz:Q3 y≤mx):Pure (Qs Tryz.prog (n+72)) 10 [(rd 4 Qa l),(T.agg (Qe false y))] (T.sl true 1 (((Qm y l).map Zm).map (Qc true))):=by
 refine Pure.intro (rs:= [ResultVar.tmp 4]) Tryz.func10 Y Y Y (E0:= [(0,(rd 4 Qa l)),(1,(T.agg (Qe false y)))]) Y ?_
 obtain ⟨hlim,hmx,hmax⟩:=QA
 have hl1:=hl.1
 have hr1:=(Qg3 (x:=y) hl).1
 refine sr (kO (B.box (ts:=(Qe false y)) (tv (T.agg (Qe false y)) Y) nofun Y) (fO (OF.assign VEv.nils) (nt (sr (fO (OF.assign VEv.nils) (nt (sq (sr (mO (rd 4 Qa l) Y (lO (OL.loadOn (us:=(Qe false y)) (tv (T.op 0 0) Y) Y Jj YZ (lb Y) Y) (cO (OC.callF (r':=(T.os 4 1 0 (((Qm y l).map (Qa true)).length))) (objs:= [(Obj.rows 4 ((Qm y l).map (Qa true)))]) Y (vc (tv (rd 4 Qa l) Y) (vc (tv (T.agg (Qe false y)) Y) vn)) (lp Y (LendL.cons (lg Q1) ln)) (QbE (n+0) l y (by assumption) (by assumption)) Y) ?_)))))))))))
 refine lO (B.lenO (m:=(Qm y l).length) (tv (T.os 4 1 0 (((Qm y l).map (Qa true)).length)) Y) Yb (List.length_map ..)) (fO (OF.move (VEv.int .i64 0)) (nt (VRun.block (VRun.wk (Wk.phantom 5 1 Y) ?_))))
 have he1: []=((((Qm y l).take 0).map Zm).map (Qc true)):=by rfl
 refine VRun.loop (A:=Nat) (fun s_=> [(4,T.nils),(5,(T.os 1 1 0 (((((Qm y l).take s_).map Zm).map (Qc true)).length))),(10,(T.os 4 0 0 (((Qm y l).map (Qa true)).length))),(11,(tN ((Qm y l).length))),(12,(tN s_))]) (fun s_=>QV [(0,(Obj.rows 4 ((Qm y l).map (Qa true)))),(1,(Obj.rows 1 ((((Qm y l).take s_).map Zm).map (Qc true))))]) 2 (fun s_=>s_≤(Qm y l).length) (fun s_=>(Qm y l).length - s_) (0:Nat) ?_ (Wk.mk (fun k=>if k=0 then 1 else if k=1 then 2 else k) ?_ ?_ ?_) ?_
 ·(simp;done)
 ·exact (b2 (bc ⟨(congrArg (fun n_=>T.os 1 2 0 n_) (show 0=((((Qm y l).take 0).map Zm).map (Qc true)).length from (by rfl))),rfl⟩ (b2 (b2 (b2 bn)))))
 ·exact (b3 (bc ⟨(congrArg (fun l_=>some (Obj.rows 1 l_)) he1),(lb Y),rfl⟩ bn))
 ·exact nd Y
 rintro i (hI':i≤(Qm y l).length)
 show VRun _ _ _ [(4,T.nils),(5,(T.os 1 1 0 (((((Qm y l).take i).map Zm).map (Qc true)).length))),(10,(T.os 4 0 0 (((Qm y l).map (Qa true)).length))),(11,(tN ((Qm y l).length))),(12,(tN i))] (QV [(0,(Obj.rows 4 ((Qm y l).map (Qa true)))),(1,(Obj.rows 1 ((((Qm y l).take i).map Zm).map (Qc true))))]) 2 _
 have htl:(((Qm y l).take i).map Zm).length≤(Qm y l).length:=by rw [List.length_map,List.length_take];omega
 refine sr (fO (Q5 (tv (tN i) Y) (tv (tN ((Qm y l).length)) Y)) (nt (sq ?_)))
 refine cd (i<(Qm y l).length) Y (fun fhc0=> ?_) fun fhc0=> ?_
 ·refine sk ?_
  refine tn (sq (VRun.block (sr ?_)))
  obtain ⟨x1,hx1⟩:∃x,(Qm y l)[i]? =some x:=⟨_,List.getElem?_eq_getElem (by omega)⟩
  refine fO (B.indexAddrO (i:=i) (tv (T.os 4 0 0 (((Qm y l).map (Qa true)).length)) Y) (tv (tN i) Y) Y (by (simp only [List.length_map];omega)) Yb Qz Zo) (lO (OL.loadPn (us:=(Qa false x1)) (row:=(Qa true x1)) (tv (T.orp 4 0 i 0) Y) Y (Qr _ hx1) ZX Qz (lb Y) Y (bc Y (bc Y (bc Y (bc Y bn))))) (kO (B.alloc (t:=(T.agg [(tN 0),(tN 0),(tN 0),(tS ByteArray.empty)])) (ts:= [(tN 0),(tN 0),(tN 0),(tS ByteArray.empty)]) Qbm Qkn nofun (fun _=> .agg _ _ Y (Jm (RL.cons (.int _ _) (RL.cons (.int _ _) (RL.cons (.int _ _) (RL.cons (.str _) (RL.nil _))))))) Y) (cO (B.storeW (us:=(Qa false x1)) (tv (T.op 2 0) Y) (tv (T.agg (Qa false x1)) Y) nofun Y Y Y Zo Qz (bc Y (bc Y (bc Y (bc Y bn))))) (nt (VRun.region (mO (T.os 1 1 0 (((((Qm y l).take i).map Zm).map (Qc true)).length)) Y (lf (tI x1.Player) Y YH Y Y QQ (kO (OM.buildSlice (l:= [(tI x1.Player)]) (VEvp.cons (tv (tI x1.Player) Y) VEvp.nil) Y (by decide) (bc (nofun) bn) (bc ((bc (Y) bn)) bn) (bc (Y) bn) Z1 zo3 (by kernel_rfl) Y (by rw [ZA];decide) ZA (Nat.le_of_ble_eq_true Y)) (cO (B.append (rows:=((((Qm y l).take i).map Zm).map (Qc true))) (rows2:= [[(tI x1.Player)]]) (rows3:=((((Qm y l).take i).map Zm++ [x1.Player]).map (Qc true))) (VDst.own (tv (T.os 1 1 0 (((((Qm y l).take i).map Zm).map (Qc true)).length)) Y) Y Y) (VSrc.own (tv (T.os 1 3 0 1) Y) Y Y Z1 (bc (bc Y bn) bn)) (by decide) Z1 ZA (by decide) zo3 Y (of_decide_eq_true (by kernel_rfl)) (by (simp only [List.length_map,List.length_append,List.length_cons,List.length_nil,List.length_replicate,List.length_set,List.length_drop,List.length_take,Y2] at *;omega)) ((List.map_append (f:=Qc true) (l₁:=((Qm y l).take i).map Zm) (l₂:= [x1.Player])).symm)) (aO (T.os 1 4 0 (((((Qm y l).take i).map Zm++ [x1.Player]).map (Qc true)).length)) Y (VRunO.nil ?_)))))))))))
  refine vinB.n (tn (VRun.region (fO (Qx (tv (tN i) Y) (VEv.int .i64 1) (by omega)) (mO (tN (i+1)) Y (VRunO.nil (tn ?_))))))
  have he2:(((Qm y l).take i).map Zm++ [x1.Player])=((Qm y l).take (i+1)).map Zm:=by exact tkm Zm hx1
  refine ⟨(i+1:Nat),?_,?_,Wk.mk (fun k=>if k=1 then 4 else k) ?_ ?_ ?_⟩
  ·trivial
  ·omega
  ·exact (b2 (bc ⟨(congrArg (fun l_=>T.os 1 4 0 (List.map (Qc true) l_).length) he2),rfl⟩ (b2 (b2 (b2 bn)))))
  ·exact (b3 (bc ⟨(congrArg (fun l_=>some (Obj.rows 1 (List.map (Qc true) l_))) he2),(lb Y),rfl⟩ bn))
  ·exact nd Y
 refine VRun.exit (vthn.e (vthn.e (vinB.e (tn (sr (mO (T.os 1 1 0 (((((Qm y l).take i).map Zm).map (Qc true)).length)) Y (aO (T.os 1 1 0 (((((Qm y l).take i).map Zm).map (Qc true)).length)) Y (nt (rt ?_)))))))))
 refine vfin.eq (r':=(T.sl true 1 ((((Qm y l).take i).map Zm).map (Qc true)))) ?_ (vfin.r (VRes.tmp (t:=(T.os 1 1 0 (((((Qm y l).take i).map Zm).map (Qc true)).length))) Y VRes.nil) (Give.os Y Y (okInt.cleanMap _)))
 refine congrArg (fun l_=>T.sl true 1 (List.map (Qc true) l_)) ?_
 rw [List.take_of_length_le (by omega)]
theorem Qbf (n:Nat) (l:List D.Entry) (y:D.Issue) (hl:zAll mx l) (hz:Q3 y≤mx):Pure (Qs Tryz.prog (n+72)) 19 [(rd 4 Qa l),(T.agg (Qe false y))] (T.sl true 1 ((((Qm y l).filter (QG y)).map Zm).map (Qc true))):=by
 refine Pure.intro (rs:= [ResultVar.tmp 4]) Tryz.func19 Y Y Y (E0:= [(0,(rd 4 Qa l)),(1,(T.agg (Qe false y)))]) Y ?_
 obtain ⟨hlim,hmx,hmax⟩:=QA
 have hl1:=hl.1
 have hr0:=Qg3 (x:=y) hl
 have hr1:=hr0.1
 have hz2:=hz
 simp only [Q3,QK] at hz2
 have hlc:=Zs (z:=QY) y.Puzzle.Clues
 refine sr (kO (B.box (ts:=(Qe false y)) (tv (T.agg (Qe false y)) Y) nofun Y) (fO (OF.assign VEv.nils) (nt (sr (fO (OF.assign VEv.nils) (nt (sq (sr (mO (rd 4 Qa l) Y (lO (OL.loadOn (us:=(Qe false y)) (tv (T.op 0 0) Y) Y Jj YZ (lb Y) Y) (cO (OC.callF (r':=(T.os 4 1 0 (((Qm y l).map (Qa true)).length))) (objs:= [(Obj.rows 4 ((Qm y l).map (Qa true)))]) Y (vc (tv (rd 4 Qa l) Y) (vc (tv (T.agg (Qe false y)) Y) vn)) (lp Y (LendL.cons (lg Q1) ln)) (QbE (n+0) l y (by assumption) (by assumption)) Y) ?_)))))))))))
 refine lO (B.lenO (m:=(Qm y l).length) (tv (T.os 4 1 0 (((Qm y l).map (Qa true)).length)) Y) Yb (List.length_map ..)) (fO (OF.move (VEv.int .i64 0)) (nt (VRun.block (VRun.wk (Wk.phantom 5 1 Y) ?_))))
 have he1: []=((((Qm y l).take 0 |>.filter (QG y)).map Zm).map (Qc true)):=by rfl
 refine VRun.loop (A:=Nat) (fun s_=> [(3,(T.op 0 0)),(4,T.nils),(5,(T.os 1 2 0 (((((Qm y l).take s_ |>.filter (QG y)).map Zm).map (Qc true)).length))),(10,(T.os 4 1 0 (((Qm y l).map (Qa true)).length))),(11,(tN ((Qm y l).length))),(12,(tN s_))]) (fun s_=>QV [(0,(Obj.cells (Qe false y))),(1,(Obj.rows 4 ((Qm y l).map (Qa true)))),(2,(Obj.rows 1 ((((Qm y l).take s_ |>.filter (QG y)).map Zm).map (Qc true))))]) 3 (fun s_=>s_≤(Qm y l).length) (fun s_=>(Qm y l).length - s_) (0:Nat) ?_ (Wk.mk (fun k=>k) ?_ ?_ ?_) ?_
 ·(simp;done)
 ·exact (b2 (b2 (bc ⟨(congrArg (fun n_=>T.os 1 2 0 n_) (show 0=((((Qm y l).take 0 |>.filter (QG y)).map Zm).map (Qc true)).length from (by rfl))),rfl⟩ (b2 (b2 (b2 bn))))))
 ·exact (b3 (b3 (bc ⟨(congrArg (fun l_=>some (Obj.rows 1 l_)) he1),(lb Y),rfl⟩ bn)))
 ·exact nd Y
 rintro i (hI':i≤(Qm y l).length)
 show VRun _ _ _ [(3,(T.op 0 0)),(4,T.nils),(5,(T.os 1 2 0 (((((Qm y l).take i |>.filter (QG y)).map Zm).map (Qc true)).length))),(10,(T.os 4 1 0 (((Qm y l).map (Qa true)).length))),(11,(tN ((Qm y l).length))),(12,(tN i))] (QV [(0,(Obj.cells (Qe false y))),(1,(Obj.rows 4 ((Qm y l).map (Qa true)))),(2,(Obj.rows 1 ((((Qm y l).take i |>.filter (QG y)).map Zm).map (Qc true))))]) 3 _
 have htl:=Qlm y (Qm y l) i
 refine sr (fO (Q5 (tv (tN i) Y) (tv (tN ((Qm y l).length)) Y)) (nt (sq ?_)))
 refine cd (i<(Qm y l).length) Y (fun fhc0=> ?_) fun fhc0=> ?_
 ·refine sk ?_
  refine tn (sq (VRun.block (sr ?_)))
  obtain ⟨x1,hx1⟩:∃x,(Qm y l)[i]? =some x:=⟨_,List.getElem?_eq_getElem (by omega)⟩
  have hze1:=hr0.at hx1
  refine fO (B.indexAddrO (i:=i) (tv (T.os 4 1 0 (((Qm y l).map (Qa true)).length)) Y) (tv (tN i) Y) Y (by (simp only [List.length_map];omega)) Yb Qz Zo) (lO (OL.loadPn (us:=(Qa false x1)) (row:=(Qa true x1)) (tv (T.orp 4 1 i 0) Y) Y (Qr _ hx1) ZX Qz (lb Y) Y (bc Y (bc Y (bc Y (bc Y bn))))) (kO (B.alloc (t:=(T.agg [(tN 0),(tN 0),(tN 0),(tS ByteArray.empty)])) (ts:= [(tN 0),(tN 0),(tN 0),(tS ByteArray.empty)]) Qbm Qkn nofun (fun _=> .agg _ _ Y (Jm (RL.cons (.int _ _) (RL.cons (.int _ _) (RL.cons (.int _ _) (RL.cons (.str _) (RL.nil _))))))) Y) (cO (B.storeW (us:=(Qa false x1)) (tv (T.op 3 0) Y) (tv (T.agg (Qa false x1)) Y) nofun Y Y Y Zo Qz (bc Y (bc Y (bc Y (bc Y bn))))) (nt (sq (VRun.draw (B:= [[],[],[1,0],[],[3],[3,4],[4,3,5],[5,3,4,6,0,1,2]]) (by kernel_rfl) (by kernel_rfl) Y (lD (OL.loadOn (us:=(Qa false x1)) (tv (T.op 3 0) Y) Y ZX Qz (lb Y) Y) Y Y (lD (OL.loadOn (us:=(Qe false y)) (tv (T.op 0 0) Y) Y Jj YZ (lb Y) Y) Y Y (VRunD.quiet (bi:= [1,0]) Y VWant.always Y Y Y bn (cS (vc (tv (T.agg (Qa false x1)) Y) (vc (tv (T.agg (Qe false y)) Y) vn)) (LendL.cons (lg okeEntry) (LendL.cons (lg Q1) ln)) (Qap (n+25) x1 y (by assumption) (by assumption)) Y Y) (fD (OF.fieldAddrO (tv (T.op 0 0) Y) YU) Y Y (fD (OF.fieldAddrO (tv (T.op 0 1) Y) JT) Y Y ?_)))))))))))
  refine lD (OL.loadO1 (t:=(rd 2 Qh y.Puzzle.Clues)) (tv (T.op 0 4) Y) Y Y Qe0) Y Y (lD (B.lenR (m:=y.Puzzle.Clues.length) (tv (rd 2 Qh y.Puzzle.Clues) Y) U37 (List.length_map ..)) Y Y (fD (Qix (tv (tN (QF x1 y)) Y) (tv (tN y.Puzzle.Clues.length) Y)) Y Y (VRunD.nil (tn ?_))))
  refine cd (QF x1 y=y.Puzzle.Clues.length) Y (fun fhc1=> ?_) fun fhc1=> ?_
  ·refine VRun.region ?_
   refine mO (T.os 1 2 0 (((((Qm y l).take i |>.filter (QG y)).map Zm).map (Qc true)).length)) Y (lf (tI x1.Player) Y YH Y Y QQ (kO (OM.buildSlice (l:= [(tI x1.Player)]) (VEvp.cons (tv (tI x1.Player) Y) VEvp.nil) Y (by decide) (bc (nofun) bn) (bc ((bc (Y) bn)) bn) (bc (Y) bn) Z1 zo3 (by kernel_rfl) Y (by rw [ZA];decide) ZA (Nat.le_of_ble_eq_true Y)) (cO (B.append (rows:=((((Qm y l).take i |>.filter (QG y)).map Zm).map (Qc true))) (rows2:= [[(tI x1.Player)]]) (rows3:=((((Qm y l).take i |>.filter (QG y)).map Zm++ [x1.Player]).map (Qc true))) (VDst.own (tv (T.os 1 2 0 (((((Qm y l).take i |>.filter (QG y)).map Zm).map (Qc true)).length)) Y) Y Y) (VSrc.own (tv (T.os 1 4 0 1) Y) Y Y Z1 (bc (bc Y bn) bn)) (by decide) Z1 ZA (by decide) zo3 Y (of_decide_eq_true (by kernel_rfl)) (by (simp only [List.length_map,List.length_append,List.length_cons,List.length_nil,List.length_replicate,List.length_set,List.length_drop,List.length_take,Y2] at *;omega)) ((List.map_append (f:=Qc true) (l₁:=((Qm y l).take i |>.filter (QG y)).map Zm) (l₂:= [x1.Player])).symm)) (aO (T.os 1 5 0 (((((Qm y l).take i |>.filter (QG y)).map Zm++ [x1.Player]).map (Qc true)).length)) Y (VRunO.nil (vinB.n (tn (VRun.region (fO (Qx (tv (tN i) Y) (VEv.int .i64 1) (by omega)) (mO (tN (i+1)) Y (VRunO.nil ?_)))))))))))
   refine tn ?_
   have he2:(((Qm y l).take i |>.filter (QG y)).map Zm++ [x1.Player])=((Qm y l).take (i+1) |>.filter (QG y)).map Zm:=by first | rfl | exact QmX (QG y) Zm hx1 (decide_eq_true fhc1)
   refine ⟨(i+1:Nat),?_,?_,Wk.mk (fun k=>if k=2 then 5 else k) ?_ ?_ ?_⟩
   ·trivial
   ·omega
   ·exact (b2 (b2 (bc ⟨(congrArg (fun l_=>T.os 1 5 0 (List.map (Qc true) l_).length) he2),rfl⟩ (b2 (b2 (b2 bn))))))
   ·exact (b3 (b3 (bc ⟨(congrArg (fun l_=>some (Obj.rows 1 (List.map (Qc true) l_))) he2),(lb Y),rfl⟩ bn)))
   ·exact nd Y
  refine sk (vinB.n (tn (VRun.region (fO (Qx (tv (tN i) Y) (VEv.int .i64 1) (by omega)) (mO (tN (i+1)) Y (VRunO.nil (tn ?_)))))))
  have he3:((Qm y l).take i |>.filter (QG y)).map Zm=((Qm y l).take (i+1) |>.filter (QG y)).map Zm:=by first | rfl | exact QmQ (QG y) Zm hx1 (decide_eq_false fhc1)
  refine ⟨(i+1:Nat),?_,?_,Wk.mk (fun k=>k) ?_ ?_ ?_⟩
  ·trivial
  ·omega
  ·exact (b2 (b2 (bc ⟨(congrArg (fun l_=>T.os 1 2 0 (List.map (Qc true) l_).length) he3),rfl⟩ (b2 (b2 (b2 bn))))))
  ·exact (b3 (b3 (bc ⟨(congrArg (fun l_=>some (Obj.rows 1 (List.map (Qc true) l_))) he3),(lb Y),rfl⟩ bn)))
  ·exact nd Y
 refine VRun.exit (vthn.e (vthn.e (vinB.e (tn (sr (mO (T.os 1 2 0 (((((Qm y l).take i |>.filter (QG y)).map Zm).map (Qc true)).length)) Y (aO (T.os 1 2 0 (((((Qm y l).take i |>.filter (QG y)).map Zm).map (Qc true)).length)) Y (nt (rt ?_)))))))))
 refine vfin.eq (r':=(T.sl true 1 ((((Qm y l).take i |>.filter (QG y)).map Zm).map (Qc true)))) ?_ (vfin.r (VRes.tmp (t:=(T.os 1 2 0 (((((Qm y l).take i |>.filter (QG y)).map Zm).map (Qc true)).length))) Y VRes.nil) (Give.os Y Y (okInt.cleanMap _)))
 refine congrArg (fun l_=>T.sl true 1 (List.map (Qc true) l_)) ?_
 rw [List.take_of_length_le (by omega)]
theorem QdQ (n:Nat) (l:List D.Entry) (y:D.Issue) (hl:zAll mx l) (hz:Q3 y≤mx):Pure (Qs Tryz.prog (n+16)) 22 [(rd 4 Qa l),(T.agg (Qe false y))] (T.sl true 4 ((Qm y l).map (Qa true))):=by
 refine Pure.intro (rs:= [ResultVar.tmp 4]) Tryz.func22 Y Y Y (E0:= [(0,(rd 4 Qa l)),(1,(T.agg (Qe false y)))]) Y ?_
 obtain ⟨hlim,hmx,hmax⟩:=QA
 have hl1:=hl.1
 refine sr (kO (B.box (ts:=(Qe false y)) (tv (T.agg (Qe false y)) Y) nofun Y) (fO (OF.assign VEv.nils) (nt (sr (kO (OM.slice0 Yb Qbm (by kernel_rfl) Y (by rw [Qz];decide) Qz) (aO (T.os 4 1 0 0) Y (nt (sq (sr (fO (OF.assign (VEv.int .i64 0)) (nt ?_)))))))))))
 refine VRun.block ?_
 have he1: []=([].map (Qa true)):=by rfl
 refine VRun.loop (A:=Nat×(List D.Entry)) (fun s_=> [(0,(rd 4 Qa l)),(3,(T.op 0 0)),(4,T.nils),(5,(T.os 4 1 0 ((s_.2.map (Qa true)).length))),(6,(tN s_.1))]) (fun s_=>QV [(0,(Obj.cells (Qe false y))),(1,(Obj.rows 4 (s_.2.map (Qa true))))]) 2 (fun s_=>s_.1≤l.length∧RkI y l s_.1 s_.2) (fun s_=>l.length - s_.1) ((0,[]):Nat×(List D.Entry)) ?_ (Wk.mk (fun k=>k) ?_ ?_ ?_) ?_
 ·exact ⟨Nat.zero_le _,RkI.start y l⟩
 ·exact (b2 (b2 (b2 (bc ⟨(congrArg (fun n_=>T.os 4 1 0 n_) (show 0=([].map (Qa true)).length from (by rfl))),rfl⟩ (b2 bn)))))
 ·exact (b3 (bc ⟨(congrArg (fun l_=>some (Obj.rows 4 l_)) he1),(lb Y),rfl⟩ bn))
 ·exact nd Y
 rintro ⟨i,s⟩ (hI':i≤l.length∧RkI y l i s)
 show VRun _ _ _ [(0,(rd 4 Qa l)),(3,(T.op 0 0)),(4,T.nils),(5,(T.os 4 1 0 ((s.map (Qa true)).length))),(6,(tN i))] (QV [(0,(Obj.cells (Qe false y))),(1,(Obj.rows 4 (s.map (Qa true))))]) 2 _
 have hR:=hI'.2
 have hil:=hI'.1
 have hsl:=hI'.2.2.1
 have hsz:=hI'.2.z hl hI'.1
 refine sq (sr (mO (tN i) Y (mO (rd 4 Qa l) Y (lO (B.lenR (m:=l.length) (tv (rd 4 Qa l) Y) Yb (List.length_map ..)) (fO (Q5 (tv (tN i) Y) (tv (tN l.length) Y)) (nt ?_))))))
 refine cd (i<l.length) Y (fun fhc0=> ?_) fun fhc0=> ?_
 ·refine sk ?_
  refine tn (sq (VRun.block (sq (VRun.draw (B:= [[],[],[1,0],[0,1,2],[],[4,2,1,0,3],[3,0,1,2,4,5]]) (by kernel_rfl) (by kernel_rfl) Y (mD (rd 4 Qa l) Y Y (mD (tN i) Y Y ?_))))))
  obtain ⟨x1,hx1⟩:∃x,l[i]? =some x:=⟨_,List.getElem?_eq_getElem (by omega)⟩
  have hze1:=hl.at hx1
  refine fD (OF.indexAddrR (row:=(Qa false x1)) (i:=i) (tv (rd 4 Qa l) Y) (tv (tN i) Y) Y (Qr _ hx1) Yb Qz Zo) Y Y (lD (OL.loadRn (us:=(Qa false x1)) (tv (T.rp (Qa false x1)) Y) ZX Qz (lb Y) Y) Y Y (lD (OL.loadOn (us:=(Qe false y)) (tv (T.op 0 0) Y) Y Jj YZ (lb Y) Y) Y Y (VRunD.quiet (bi:= [4,2,1,0,3]) Y VWant.always Y Y Y bn (cS (vc (tv (T.agg (Qa false x1)) Y) (vc (tv (T.agg (Qe false y)) Y) vn)) (LendL.cons (lg okeEntry) (LendL.cons (lg Q1) ln)) (Qai (n+2) x1 y (by assumption) (by assumption)) Y Y) (fD (OF.assign (tv (tB (decide (Za x1 y))) Y)) Y Y (VRunD.nil (tn (sq (sr (fO (OF.assign (VEv.int .i64 0)) (nt (VRun.block ?_)))))))))))
  refine VRun.loop (A:=Nat×Bool) (fun s_=> [(0,(rd 4 Qa l)),(3,(T.op 0 0)),(4,T.nils),(5,(T.os 4 1 0 ((s.map (Qa true)).length))),(6,(tN i)),(7,(tB s_.2)),(8,(tN s_.1))]) (fun s_=>QV [(0,(Obj.cells (Qe false y))),(1,(Obj.rows 4 (s.map (Qa true))))]) 2 (fun s_=>CtI y l i x1 s_.1 s_.2) (fun s_=>l.length - s_.1) ((0,(decide (Za x1 y))):Nat×Bool) ?_ (Wk.mk (fun k=>k) ?_ ?_ ?_) ?_
  ·exact CtI.start hx1
  ·exact (b2 (b2 (b2 (b2 (b2 (b2 (b2 bn)))))))
  ·exact (b3 (b3 bn))
  ·exact nd Y
  rintro ⟨k,c⟩ (hI':CtI y l i x1 k c)
  show VRun _ _ _ [(0,(rd 4 Qa l)),(3,(T.op 0 0)),(4,T.nils),(5,(T.os 4 1 0 ((s.map (Qa true)).length))),(6,(tN i)),(7,(tB c)),(8,(tN k))] (QV [(0,(Obj.cells (Qe false y))),(1,(Obj.rows 4 (s.map (Qa true))))]) 2 _
  have hC:=hI'
  have hkl:=hI'.1
  refine sq (sr (mO (tN k) Y (mO (rd 4 Qa l) Y (lO (B.lenR (m:=l.length) (tv (rd 4 Qa l) Y) Yb (List.length_map ..)) (fO (Q5 (tv (tN k) Y) (tv (tN l.length) Y)) (mO (tB (decide (k<l.length))) Y ?_))))))
  refine VRunO.joinB 2 [28] 29 (tB (decide ((k<l.length)∧(c=true)))) ?_ ?_
  ·refine gw (k<l.length) (fun fhg27_2=> ?_) fun fhg27_2=> ?_
   ·refine gF (dy fhg27_2) Y Y (OF.move (tv (tB c) Y)) ?_
    refine fO (OF.pickT (VEv.tmpB Y (dy fhg27_2)) (tv (tB c) Y)) (VRunO.nil ?_)
    exact jq (congrArg T.bool (kAT fhg27_2 (dT _))) (js Y (jn))
   ·refine oO Y Y (dz fhg27_2) ?_
    refine fO (OF.pickF (VEv.tmpB Y (dz fhg27_2)) (VEv.bool false)) (VRunO.nil ?_)
    exact jq (congrArg T.bool (kAF fhg27_2)) (js Y (jn))
  refine nt ?_
  refine cd ((k<l.length)∧(c=true)) Y (fun fhc1=> ?_) fun fhc1=> ?_
  ·refine sk ?_
   refine tn (sq (VRun.block (sq (VRun.draw (B:= [[],[],[1,0],[0,1,2],[2,1,0,3],[],[],[6,5],[5,6,7],[7,6,5,8],[8,5,6,7,9,3,0,1,2,4],[4,2,1,0,3,9,7,6,5,8,10],[10,8,5,6,7,9,3,0,1,2,4,11],[10,8,5,6,7,9,3,0,1,2,4,11],[13,11,4,2,1,0,3,9,7,6,5,8,10,12],[12,10,8,5,6,7,9,3,0,1,2,4,11,13,14],[10,8,5,6,7,9,3,0,1,2,4,11],[16,14,13,11,4,2,1,0,3,9,7,6,5,8,10,12,15],[15,12,13,14,16,17,10,8,5,6,7,9,3,0,1,2,4,11]]) (by kernel_rfl) (by kernel_rfl) Y (mD (rd 4 Qa l) Y Y (mD (tN k) Y Y ?_))))))
   obtain ⟨x2,hx2⟩:∃x,l[k]? =some x:=⟨_,List.getElem?_eq_getElem (by omega)⟩
   have hze2:=hl.at hx2
   refine fD (OF.indexAddrR (row:=(Qa false x2)) (i:=k) (tv (rd 4 Qa l) Y) (tv (tN k) Y) Y (Qr _ hx2) Yb Qz Zo) Y Y (fD (B.fieldAddrR (us:=(Qa false x2)) (tv (T.rp (Qa false x2)) Y) (lb Y) YH Y) Y Y (lD (OL.loadR1 (t:=(tI x2.Player)) (tv (T.rp (Qa false x2)) Y) Y QQ) Y Y (mD (rd 4 Qa l) Y Y (mD (tN i) Y Y (fD (OF.indexAddrR (row:=(Qa false x1)) (i:=i) (tv (rd 4 Qa l) Y) (tv (tN i) Y) Y (Qr _ hx1) Yb Qz Zo) Y Y (fD (B.fieldAddrR (us:=(Qa false x1)) (tv (T.rp (Qa false x1)) Y) (lb Y) YH Y) Y Y (lD (OL.loadR1 (t:=(tI x1.Player)) (tv (T.rp (Qa false x1)) Y) Y QQ) Y Y (fD (J6 (tv (tI x2.Player) Y) (tv (tI x1.Player) Y)) Y Y (mD (tB (decide (x2.Player=x1.Player))) Y Y ?_)))))))))
   refine gw (x2.Player=x1.Player) (fun fhg43_3=> ?_) fun fhg43_3=> ?_
   ·refine VRunD.free Y (VWant.on Y Y (dy fhg43_3)) Y (OF.move (tv (rd 4 Qa l) Y)) ?_
    refine VRunD.free Y (VWant.on Y Y (dy fhg43_3)) Y (OF.move (tv (tN k) Y)) (VRunD.free Y (VWant.on Y Y (dy fhg43_3)) Y (OF.indexAddrR (row:=(Qa false x2)) (i:=k) (tv (rd 4 Qa l) Y) (tv (tN k) Y) Y (Qr _ hx2) Yb Qz Zo) (VRunD.look Y (VWant.on Y Y (dy fhg43_3)) Y (OL.loadRn (us:=(Qa false x2)) (tv (T.rp (Qa false x2)) Y) ZX Qz (lb Y) Y) (VRunD.look Y (VWant.on Y Y (dy fhg43_3)) Y (OL.loadOn (us:=(Qe false y)) (tv (T.op 0 0) Y) Y Jj YZ (lb Y) Y) (VRunD.quiet (bi:= [16,14,13,11,4,2,1,0,3,9,7,6,5,8,10,12,15]) Y (VWant.on Y Y (dy fhg43_3)) Y Y Y bn (cS (vc (tv (T.agg (Qa false x2)) Y) (vc (tv (T.agg (Qe false y)) Y) vn)) (LendL.cons (lg okeEntry) (LendL.cons (lg Q1) ln)) (Qai (n+2) x2 y (by assumption) (by assumption)) Y Y) (fD (OF.pickT (VEv.tmpB Y (dy fhg43_3)) (tv (tB (decide (Za x2 y))) Y)) Y Y (VRunD.nil (tn ?_)))))))
    refine cd (Za x2 y) Y (fun fhc2=> ?_) fun fhc2=> ?_
    ·refine VRun.draw (B:= [[],[],[1,0],[0,1,2],[],[],[5,4],[4,5,6],[],[8,6,5,4,7,2,1,0,3],[3,0,1,2,7,4,5,6,8,9],[9,8,6,5,4,7,2,1,0,3,10],[10,3,0,1,2,7,4,5,6,8,9,11],[10,3,0,1,2,7,4,5,6,8,9,11],[13,11,9,8,6,5,4,7,2,1,0,3,10,12],[12,10,3,0,1,2,7,4,5,6,8,9,11,13,14],[14,13,11,9,8,6,5,4,7,2,1,0,3,10,12,15],[14,13,11,9,8,6,5,4,7,2,1,0,3,10,12,15],[17,15,12,10,3,0,1,2,7,4,5,6,8,9,11,13,14,16],[16,14,13,11,9,8,6,5,4,7,2,1,0,3,10,12,15,17,18],[14,13,11,9,8,6,5,4,7,2,1,0,3,10,12,15],[14,13,11,9,8,6,5,4,7,2,1,0,3,10,12,15],[21,15,12,10,3,0,1,2,7,4,5,6,8,9,11,13,14,20],[20,14,13,11,9,8,6,5,4,7,2,1,0,3,10,12,15,21,22],[14,13,11,9,8,6,5,4,7,2,1,0,3,10,12,15],[24,22,21,20,23,18,17,15,12,10,3,0,1,2,7,4,5,6,8,9,11,13,14,16,19],[19,16,17,18,23,20,21,22,24,25,14,13,11,9,8,6,5,4,7,2,1,0,3,10,12,15],[15,12,13,14,25,24,22,21,20,23,18,17,16,19,26,10,3,0,1,2,7,4,5,6,8,9,11],[11,9,8,6,5,4,7,2,1,0,3,10,26,19,16,17,18,23,20,21,22,24,25,14,13,12,15,27]]) (by kernel_rfl) (by kernel_rfl) Y ?_
     refine mD (rd 4 Qa l) Y Y (mD (tN k) Y Y (fD (OF.indexAddrR (row:=(Qa false x2)) (i:=k) (tv (rd 4 Qa l) Y) (tv (tN k) Y) Y (Qr _ hx2) Yb Qz Zo) Y Y (lD (OL.loadRn (us:=(Qa false x2)) (tv (T.rp (Qa false x2)) Y) ZX Qz (lb Y) Y) Y Y (mD (rd 4 Qa l) Y Y (mD (tN i) Y Y (fD (OF.indexAddrR (row:=(Qa false x1)) (i:=i) (tv (rd 4 Qa l) Y) (tv (tN i) Y) Y (Qr _ hx1) Yb Qz Zo) Y Y (lD (OL.loadRn (us:=(Qa false x1)) (tv (T.rp (Qa false x1)) Y) ZX Qz (lb Y) Y) Y Y (lD (OL.loadOn (us:=(Qe false y)) (tv (T.op 0 0) Y) Y Jj YZ (lb Y) Y) Y Y (VRunD.quiet (bi:= [8,6,5,4,7,2,1,0,3]) Y VWant.always Y Y Y bn (cS (vc (tv (T.agg (Qa false x2)) Y) (vc (tv (T.agg (Qa false x1)) Y) (vc (tv (T.agg (Qe false y)) Y) vn))) (LendL.cons (lg okeEntry) (LendL.cons (lg okeEntry) (LendL.cons (lg Q1) ln))) (Qau (n+0) x2 x1 y (by assumption) (by assumption) (by assumption)) Y Y) (fD (Zd (tv (tB (decide (Zf x2 x1 y))) Y)) Y Y (mD (tB (!(decide (Zf x2 x1 y)))) Y Y ?_)))))))))))
     refine gn (Zf x2 x1 y) (fun fhg62_4=> ?_) fun fhg62_4=> ?_
     ·refine VRunD.free Y (VWant.on Y Y (ny fhg62_4)) Y (OF.move (tv (tN k) Y)) ?_
      refine VRunD.free Y (VWant.on Y Y (ny fhg62_4)) Y (OF.move (tv (tN i) Y)) (VRunD.free Y (VWant.on Y Y (ny fhg62_4)) Y (QoT (tv (tN k) Y) (tv (tN i) Y)) (VRunD.free Y (VWant.on Y Y (ny fhg62_4)) Y (OF.move (tv (tB (decide (i≤k))) Y)) ?_))
      refine gw (i≤k) (fun fhg66_5=> ?_) fun fhg66_5=> ?_
      ·refine oD Y Y (dy fhg66_5) Y ?_
       refine oD Y Y (dy fhg66_5) Y (oD Y Y (dy fhg66_5) Y (oD Y Y (dy fhg66_5) Y (oD Y Y (dy fhg66_5) Y (oD Y Y (dy fhg66_5) Y (oD Y Y (dy fhg66_5) Y (oD Y Y (dy fhg66_5) Y (oD Y Y (dy fhg66_5) Y (oD Y Y (dy fhg66_5) Y (VRunD.free Y (VWant.on Y Y (ny fhg62_4)) Y (OF.pickT (VEv.tmpB Y (dy fhg66_5)) (VEv.bool true)) (fD (OF.pickT (VEv.tmpB Y (ny fhg62_4)) (tv (tB true) Y)) Y Y (fD (OF.assign (tv (tB true) Y)) Y Y ?_)))))))))))
       refine VRunD.nil (vinB.n (tn (VRun.region (mO (tN k) Y (fO (Qx (tv (tN k) Y) (VEv.int .i64 1) (by omega)) (aO (tN (k+1)) Y (VRunO.nil (tn ?_))))))))
       refine ⟨((k+1,true):Nat×Bool),?_,?_,Wk.mk (fun k=>k) ?_ ?_ ?_⟩
       ·have hC0:CtI y l i x1 k true:=fhc1.2▸hC
        exact hC0.next hx1 hx2 (fun _ _=>⟨fun _=>⟨fhg62_4, .inl fhg66_5⟩,fun _=>rfl⟩) (fun _=>rfl)
       ·omega
       ·exact (b2 (b2 (b2 (b2 (b2 (b2 (b2 bn)))))))
       ·exact (b3 (b3 bn))
       ·exact nd Y
      refine VRunD.free Y (VWant.on Y Y (dz fhg66_5)) Y (OF.move (tv (rd 4 Qa l) Y)) (VRunD.free Y (VWant.on Y Y (dz fhg66_5)) Y (OF.move (tv (tN i) Y)) (VRunD.free Y (VWant.on Y Y (dz fhg66_5)) Y (OF.indexAddrR (row:=(Qa false x1)) (i:=i) (tv (rd 4 Qa l) Y) (tv (tN i) Y) Y (Qr _ hx1) Yb Qz Zo) (VRunD.look Y (VWant.on Y Y (dz fhg66_5)) Y (OL.loadRn (us:=(Qa false x1)) (tv (T.rp (Qa false x1)) Y) ZX Qz (lb Y) Y) (VRunD.free Y (VWant.on Y Y (dz fhg66_5)) Y (OF.move (tv (rd 4 Qa l) Y)) (VRunD.free Y (VWant.on Y Y (dz fhg66_5)) Y (OF.move (tv (tN k) Y)) (VRunD.free Y (VWant.on Y Y (dz fhg66_5)) Y (OF.indexAddrR (row:=(Qa false x2)) (i:=k) (tv (rd 4 Qa l) Y) (tv (tN k) Y) Y (Qr _ hx2) Yb Qz Zo) (VRunD.look Y (VWant.on Y Y (dz fhg66_5)) Y (OL.loadRn (us:=(Qa false x2)) (tv (T.rp (Qa false x2)) Y) ZX Qz (lb Y) Y) (VRunD.look Y (VWant.on Y Y (dz fhg66_5)) Y (OL.loadOn (us:=(Qe false y)) (tv (T.op 0 0) Y) Y Jj YZ (lb Y) Y) (VRunD.quiet (bi:= [24,22,21,20,23,18,17,15,12,10,3,0,1,2,7,4,5,6,8,9,11,13,14,16,19]) Y (VWant.on Y Y (dz fhg66_5)) Y Y Y bn (cS (vc (tv (T.agg (Qa false x1)) Y) (vc (tv (T.agg (Qa false x2)) Y) (vc (tv (T.agg (Qe false y)) Y) vn))) (LendL.cons (lg okeEntry) (LendL.cons (lg okeEntry) (LendL.cons (lg Q1) ln))) (Qau (n+0) x1 x2 y (by assumption) (by assumption) (by assumption)) Y Y) (VRunD.free Y (VWant.on Y Y (ny fhg62_4)) Y (OF.pickF (VEv.tmpB Y (dz fhg66_5)) (tv (tB (decide (Zf x1 x2 y))) Y)) (fD (OF.pickT (VEv.tmpB Y (ny fhg62_4)) (tv (tB (decide (Zf x1 x2 y))) Y)) Y Y ?_)))))))))))
      refine fD (OF.assign (tv (tB (decide (Zf x1 x2 y))) Y)) Y Y (VRunD.nil (vinB.n (tn (VRun.region (mO (tN k) Y (fO (Qx (tv (tN k) Y) (VEv.int .i64 1) (by omega)) (aO (tN (k+1)) Y (VRunO.nil (tn ?_)))))))))
      refine ⟨((k+1,(decide (Zf x1 x2 y))):Nat×Bool),?_,?_,Wk.mk (fun k=>k) ?_ ?_ ?_⟩
      ·have hC0:CtI y l i x1 k true:=fhc1.2▸hC
       exact hC0.next hx1 hx2 (fun _ _=>⟨fun h=>⟨fhg62_4, .inr (of_decide_eq_true h)⟩,fun h=>decide_eq_true (h.2.resolve_left fhg66_5)⟩) (fun h=>absurd ⟨fhg43_3,fhc2⟩ h)
      ·omega
      ·exact (b2 (b2 (b2 (b2 (b2 (b2 (b2 bn)))))))
      ·exact (b3 (b3 bn))
      ·exact nd Y
     refine oD Y Y (nz fhg62_4) Y (oD Y Y (nz fhg62_4) Y (oD Y Y (nz fhg62_4) Y (oD Y Y (nz fhg62_4) Y (uD Y Y Y (uD Y Y Y (uD Y Y Y (uD Y Y Y (uD Y Y Y (uD Y Y Y (uD Y Y Y (uD Y Y Y ?_)))))))))))
     refine uD Y Y Y (uD Y Y Y (oD Y Y (nz fhg62_4) Y (fD (OF.pickF (VEv.tmpB Y (nz fhg62_4)) (VEv.bool false)) Y Y (fD (OF.assign (tv (tB false) Y)) Y Y (VRunD.nil (vinB.n (tn (VRun.region (mO (tN k) Y (fO (Qx (tv (tN k) Y) (VEv.int .i64 1) (by omega)) (aO (tN (k+1)) Y ?_)))))))))))
     refine VRunO.nil (tn ?_)
     refine ⟨((k+1,false):Nat×Bool),?_,?_,Wk.mk (fun k=>k) ?_ ?_ ?_⟩
     ·have hC0:CtI y l i x1 k true:=fhc1.2▸hC
      exact hC0.next hx1 hx2 (fun _ _=>⟨fun h=>(nomatch h),fun h=>absurd fhg62_4 h.1⟩) (fun h=>absurd ⟨fhg43_3,fhc2⟩ h)
     ·omega
     ·exact (b2 (b2 (b2 (b2 (b2 (b2 (b2 bn)))))))
     ·exact (b3 (b3 bn))
     ·exact nd Y
    refine sk (vinB.n (tn (VRun.region (mO (tN k) Y (fO (Qx (tv (tN k) Y) (VEv.int .i64 1) (by omega)) (aO (tN (k+1)) Y (VRunO.nil (tn ?_))))))))
    refine ⟨((k+1,c):Nat×Bool),?_,?_,Wk.mk (fun k=>k) ?_ ?_ ?_⟩
    ·have hC0:CtI y l i x1 k true:=fhc1.2▸hC
     exact hC0.next hx1 hx2 (fun _ h=>absurd h fhc2) (fun _=>fhc1.2)
    ·omega
    ·exact (b2 (b2 (b2 (b2 (b2 (b2 (b2 bn)))))))
    ·exact (b3 (b3 bn))
    ·exact nd Y
   refine oD Y Y (dz fhg43_3) Y (oD Y Y (dz fhg43_3) Y (oD Y Y (dz fhg43_3) Y (oD Y Y (dz fhg43_3) Y (oD Y Y (dz fhg43_3) Y (oD Y Y (dz fhg43_3) Y (fD (OF.pickF (VEv.tmpB Y (dz fhg43_3)) (VEv.bool false)) Y Y (VRunD.nil (tn (cf Y (sk (vinB.n ?_)))))))))))
   refine tn (VRun.region (mO (tN k) Y (fO (Qx (tv (tN k) Y) (VEv.int .i64 1) (by omega)) (aO (tN (k+1)) Y (VRunO.nil (tn ?_))))))
   refine ⟨((k+1,c):Nat×Bool),?_,?_,Wk.mk (fun k=>k) ?_ ?_ ?_⟩
   ·have hC0:CtI y l i x1 k true:=fhc1.2▸hC
    exact hC0.next hx1 hx2 (fun h _=>absurd h ‹¬x2.Player=x1.Player›) (fun _=>fhc1.2)
   ·omega
   ·exact (b2 (b2 (b2 (b2 (b2 (b2 (b2 bn)))))))
   ·exact (b3 (b3 bn))
   ·exact nd Y
  refine VRun.exit (vthn.e (vthn.e (vinB.e (tn (sq (sr (mO (tB c) Y (fO (Zd (tv (tB c) Y)) (nt ?_)))))))))
  refine VRun.cond (tv (tB (!c)) Y) (fun hc3=> ?_) (fun hc3=> ?_)
  ·have fhc3:c=false:=QoQ hc3
   refine VRun.exit (vthn.e (vinB.e (tn (VRun.region (mO (tN i) Y (fO (Qx (tv (tN i) Y) (VEv.int .i64 1) (by omega)) (aO (tN (i+1)) Y (VRunO.nil (tn ?_)))))))))
   refine ⟨((i+1,s):Nat×(List D.Entry)),?_,?_,Wk.mk (fun k=>k) ?_ ?_ ?_⟩
   ·exact ⟨fhc0,hR.skip (hC.2.2 fhc3)⟩
   ·omega
   ·exact (b2 (b2 (b2 (b2 (b2 bn)))))
   ·exact (b3 (b3 bn))
   ·exact nd Y
  have fhc3:c=true:=QoZ hc3
  have hct:c=true:=by simpa using fhc3
  have hB:=hC.yes hx1 hct (fun hk=>fhc1 ⟨hk,hct⟩)
  refine sk (tn (sr (mO (T.os 4 1 0 ((s.map (Qa true)).length)) Y (lO (B.lenO (m:=s.length) (tv (T.os 4 1 0 ((s.map (Qa true)).length)) Y) Yb (List.length_map ..)) (aO (tN s.length) Y (nt (sq (VRun.block ?_))))))))
  refine VRun.loop (A:=Nat) (fun s_=> [(0,(rd 4 Qa l)),(3,(T.op 0 0)),(4,T.nils),(5,(T.os 4 1 0 ((s.map (Qa true)).length))),(6,(tN i)),(9,(tN s_))]) (fun s_=>QV [(0,(Obj.cells (Qe false y))),(1,(Obj.rows 4 (s.map (Qa true))))]) 2 (fun s_=>PosI y s x1 s_) (fun s_=>s_) (s.length:Nat) ?_ (Wk.mk (fun k=>k) ?_ ?_ ?_) ?_
  ·exact PosI.start y s x1
  ·exact (b2 (b2 (b2 (b2 (b2 (b2 bn))))))
  ·exact (b3 (b3 bn))
  ·exact nd Y
  rintro m (hI':PosI y s x1 m)
  show VRun _ _ _ [(0,(rd 4 Qa l)),(3,(T.op 0 0)),(4,T.nils),(5,(T.os 4 1 0 ((s.map (Qa true)).length))),(6,(tN i)),(9,(tN m))] (QV [(0,(Obj.cells (Qe false y))),(1,(Obj.rows 4 (s.map (Qa true))))]) 2 _
  have hP:=hI'
  have hml:=hI'.1
  refine sq (sq (VRun.draw (B:= [[],[0],[0,1],[1,0,2],[1,0,2],[4,2,0,1,3],[3,1,0,2,4,5],[1,0,2],[1,0,2],[2,0,1,8],[8,9,2,0,1,7],[7,1,0,2,9,8,10],[1,0,2],[12,10,8,9,7,11,5,4,2,0,1,3,6],[6,3,4,5,11,7,9,8,10,12,13,1,0,2]]) (by kernel_rfl) (by kernel_rfl) Y (mD (tN m) Y Y (fD (B.gtr (c:=(decide (0<m))) (tv (tN m) Y) (VEv.int .i64 0) (Q8 (by omega))) Y Y (mD (tB (decide (0<m))) Y Y ?_)))))
  refine gw (0<m) (fun fhg85_6=> ?_) fun fhg85_6=> ?_
  ·refine VRunD.free Y (VWant.on Y Y (dy fhg85_6)) Y (OF.move (tv (rd 4 Qa l) Y)) ?_
   refine VRunD.free Y (VWant.on Y Y (dy fhg85_6)) Y (OF.move (tv (tN i) Y)) (VRunD.free Y (VWant.on Y Y (dy fhg85_6)) Y (OF.indexAddrR (row:=(Qa false x1)) (i:=i) (tv (rd 4 Qa l) Y) (tv (tN i) Y) Y (Qr _ hx1) Yb Qz Zo) (VRunD.look Y (VWant.on Y Y (dy fhg85_6)) Y (OL.loadRn (us:=(Qa false x1)) (tv (T.rp (Qa false x1)) Y) ZX Qz (lb Y) Y) (VRunD.free Y (VWant.on Y Y (dy fhg85_6)) Y (OF.move (tv (T.os 4 1 0 ((s.map (Qa true)).length)) Y)) (VRunD.free Y (VWant.on Y Y (dy fhg85_6)) Y (OF.move (tv (tN m) Y)) (VRunD.free Y (VWant.on Y Y (dy fhg85_6)) Y (B.sub (n:=((m - 1:Nat):Int)) (tv (tN m) Y) (VEv.int .i64 1) (by (rw [Qt (by omega)];omega))) ?_)))))
   obtain ⟨x2,hx2⟩:∃x,s[m - 1]? =some x:=⟨_,List.getElem?_eq_getElem (by omega)⟩
   have hze2:=hsz.at hx2
   refine VRunD.free Y (VWant.on Y Y (dy fhg85_6)) Y (B.indexAddrO (i:=m - 1) (tv (T.os 4 1 0 ((s.map (Qa true)).length)) Y) (tv (tN (m - 1)) Y) Y (by (simp only [List.length_map];omega)) Yb Qz Zo) (VRunD.look Y (VWant.on Y Y (dy fhg85_6)) Y (OL.loadPn (us:=(Qa false x2)) (row:=(Qa true x2)) (tv (T.orp 4 1 (m - 1) 0) Y) Y (Qr _ hx2) ZX Qz (lb Y) Y (bc Y (bc Y (bc Y (bc Y bn))))) (VRunD.look Y (VWant.on Y Y (dy fhg85_6)) Y (OL.loadOn (us:=(Qe false y)) (tv (T.op 0 0) Y) Y Jj YZ (lb Y) Y) (VRunD.quiet (bi:= [12,10,8,9,7,11,5,4,2,0,1,3,6]) Y (VWant.on Y Y (dy fhg85_6)) Y Y Y bn (cS (vc (tv (T.agg (Qa false x1)) Y) (vc (tv (T.agg (Qa false x2)) Y) (vc (tv (T.agg (Qe false y)) Y) vn))) (LendL.cons (lg okeEntry) (LendL.cons (lg okeEntry) (LendL.cons (lg Q1) ln))) (Qau (n+0) x1 x2 y (by assumption) (by assumption) (by assumption)) Y Y) (fD (OF.pickT (VEv.tmpB Y (dy fhg85_6)) (tv (tB (decide (Zf x1 x2 y))) Y)) Y Y (VRunD.nil (tn ?_))))))
   refine cd (Zf x1 x2 y) Y (fun fhc4=> ?_) fun fhc4=> ?_
   ·refine sk ?_
    refine tn (VRun.block (VRun.region (mO (tN m) Y (fO (B.sub (n:=((m - 1:Nat):Int)) (tv (tN m) Y) (VEv.int .i64 1) (by (rw [Qt (by omega)];omega))) (aO (tN (m - 1)) Y (VRunO.nil (vinB.n (tn ?_))))))))
    refine ⟨(m - 1:Nat),?_,?_,Wk.mk (fun k=>k) ?_ ?_ ?_⟩
    ·exact hP.next (by omega) hx2 fhc4
    ·omega
    ·exact (b2 (b2 (b2 (b2 (b2 (b2 bn))))))
    ·exact (b3 (b3 bn))
    ·exact nd Y
   refine VRun.exit (vthn.e (vthn.e (vinB.e (tn (VRun.wk (Wk.freeze (sz:=4) (k:=1) (rows':=(s.map (Qa false))) [5,90] (bc Y (bc Y bn)) Y Y (okeEntry.fzMap _ _)) (VRun.draw (B:= [[],[],[],[2,1],[1,2,3,0],[],[],[6,5],[5,6,7],[7,6,5,8],[8,5,6,7,9,0,3,2,1,4],[],[],[12,11],[11,12,13,4,1,2,3,0,9,7,6,5,8,10],[10,8,5,6,7,9,0,3,2,1,4,13,12,11,14]]) (by kernel_rfl) (by kernel_rfl) Y (VRunD.make Y VWant.always Y (OM.slice0 Yb Qbm (by kernel_rfl) Y (by rw [Qz];decide) Qz) (mD (rd 4 Qa s) Y Y (mD (tN m) Y Y ?_)))))))))
   refine lD (show OL _ _ _ _ _ (T.sl false 4 ((s.take m).map (Qa false))) by rw [show (s.take m).map (Qa false)=(s.map (Qa false)).take m from List.map_take ..];exact (OL.sliceRHi (j:=m) (tv (rd 4 Qa s) Y) (tv (tN m) Y) Y (by (simp only [List.length_map];omega)) Yb Qz Zo)) Y Y (VRunD.quiet (bi:= [1,2,3,0]) Y VWant.always Y Y Y (bc (lb Y) bn) (B.append (rows:= []) (rows2:=((s.take m).map (Qa false))) (rows3:=((s.take m).map (Qa true))) (VDst.own (tv (T.os 4 2 0 0) Y) Y Y) (VSrc.read (tv (rd 4 Qa (s.take m)) Y) Yb (okeEntry.okMap _ _)) nofun Yb Qz (by decide) Qbm Y (of_decide_eq_true (by kernel_rfl)) (by (simp only [List.length_map,List.length_append,List.length_cons,List.length_nil,List.length_replicate,List.length_set,List.length_drop,List.length_take,Y2] at *;omega)) (List.nil_append _)) (mD (rd 4 Qa l) Y Y (mD (tN i) Y Y (fD (OF.indexAddrR (row:=(Qa false x1)) (i:=i) (tv (rd 4 Qa l) Y) (tv (tN i) Y) Y (Qr _ hx1) Yb Qz Zo) Y Y (lD (OL.loadRn (us:=(Qa false x1)) (tv (T.rp (Qa false x1)) Y) ZX Qz (lb Y) Y) Y Y (VRunD.make Y VWant.always Y (OM.buildSlice (l:= [(T.agg (Qa false x1))]) (VEvp.cons (tv (T.agg (Qa false x1)) Y) VEvp.nil) Y (by decide) (bc (nofun) bn) (bc ((bc (Y) (bc (Y) (bc (Y) (bc (Y) bn))))) bn) (bc (Y) bn) Yb Qbm (by kernel_rfl) Y (by rw [Qz];decide) Qz (Nat.le_of_ble_eq_true Y)) (VRunD.quiet (bi:= [8,5,6,7,9,0,3,2,1,4]) Y VWant.always Y Y Y (bc (lb Y) (bc (lb Y) bn)) (B.append (rows:=((s.take m).map (Qa true))) (rows2:= [[(tI x1.Player),(tI x1.Issue),(tI x1.Tick),(tS x1.Fill)]]) (rows3:=(((s.take m)++ [x1]).map (Qa true))) (VDst.own (tv (T.os 4 3 0 (((s.take m).map (Qa true)).length)) Y) Y Y) (VSrc.own (tv (T.os 4 4 0 1) Y) Y Y Yb (bc (bc Y (bc Y (bc Y (bc Y bn)))) bn)) (by decide) Yb Qz (by decide) Qbm Y (of_decide_eq_true (by kernel_rfl)) (by (simp only [List.length_map,List.length_append,List.length_cons,List.length_nil,List.length_replicate,List.length_set,List.length_drop,List.length_take,Y2] at *;omega)) ((List.map_append (f:=Qa true) (l₁:=(s.take m)) (l₂:= [x1])).symm)) (mD (rd 4 Qa s) Y Y (mD (tN m) Y Y ?_)))))))))
   refine lD (show OL _ _ _ _ _ (T.sl false 4 ((s.drop m).map (Qa false))) by rw [show (s.drop m).map (Qa false)=(s.map (Qa false)).drop m from List.map_drop ..];exact (OL.sliceRLo (i:=m) (tv (rd 4 Qa s) Y) (tv (tN m) Y) Y (by (simp only [List.length_map];omega)) Yb Qz Zo)) Y Y (VRunD.quiet (bi:= [11,12,13,4,1,2,3,0,9,7,6,5,8,10]) Y VWant.always Y Y Y (bc (lb Y) bn) (B.append (rows:=(((s.take m)++ [x1]).map (Qa true))) (rows2:=((s.drop m).map (Qa false))) (rows3:=((((s.take m)++ [x1])++(s.drop m)).map (Qa true))) (VDst.own (tv (T.os 4 5 0 ((((s.take m)++ [x1]).map (Qa true)).length)) Y) Y Y) (VSrc.read (tv (rd 4 Qa (s.drop m)) Y) Yb (okeEntry.okMap _ _)) nofun Yb Qz (by decide) Qbm Y (of_decide_eq_true (by kernel_rfl)) (by (simp only [List.length_map,List.length_append,List.length_cons,List.length_nil,List.length_replicate,List.length_set,List.length_drop,List.length_take,Y2] at *;omega)) ((List.map_append (f:=Qa true) (l₁:=((s.take m)++ [x1])) (l₂:=(s.drop m))).symm)) (fD (OF.assign (tv (T.os 4 6 0 (((((s.take m)++ [x1])++(s.drop m)).map (Qa true)).length)) Y)) Y Y (VRunD.nil (vinB.n (tn (VRun.region (mO (tN i) Y (fO (Qx (tv (tN i) Y) (VEv.int .i64 1) (by omega)) (aO (tN (i+1)) Y (VRunO.nil (tn ?_)))))))))))
   refine ⟨((i+1,(((s.take m)++ [x1])++(s.drop m))):Nat×(List D.Entry)),?_,?_,Wk.mk (fun k=>if k=1 then 6 else k) ?_ ?_ ?_⟩
   ·exact ⟨fhc0,hR.put hB hx1 hP (.inr ⟨_,hx2,fhc4⟩)⟩
   ·omega
   ·exact (b2 (b2 (b2 (b2 (b2 bn)))))
   ·exact (b3 (b3 bn))
   ·exact nd Y
  refine oD Y Y (dz fhg85_6) Y (oD Y Y (dz fhg85_6) Y (oD Y Y (dz fhg85_6) Y (oD Y Y (dz fhg85_6) Y (oD Y Y (dz fhg85_6) Y (oD Y Y (dz fhg85_6) Y (oD Y Y (dz fhg85_6) Y (oD Y Y (dz fhg85_6) Y (oD Y Y (dz fhg85_6) Y (oD Y Y (dz fhg85_6) Y (oD Y Y (dz fhg85_6) Y (fD (OF.pickF (VEv.tmpB Y (dz fhg85_6)) (VEv.bool false)) Y Y ?_)))))))))))
  refine VRunD.nil (tn (cf Y (VRun.exit (vthn.e (vthn.e (vinB.e (tn (VRun.wk (Wk.freeze (sz:=4) (k:=1) (rows':=(s.map (Qa false))) [5] (bc Y bn) Y Y (okeEntry.fzMap _ _)) (VRun.draw (B:= [[],[],[],[2,1],[1,2,3,0],[],[],[6,5],[5,6,7],[7,6,5,8],[8,5,6,7,9,0,3,2,1,4],[],[],[12,11],[11,12,13,4,1,2,3,0,9,7,6,5,8,10],[10,8,5,6,7,9,0,3,2,1,4,13,12,11,14]]) (by kernel_rfl) (by kernel_rfl) Y (VRunD.make Y VWant.always Y (OM.slice0 Yb Qbm (by kernel_rfl) Y (by rw [Qz];decide) Qz) (mD (rd 4 Qa s) Y Y ?_)))))))))))
  refine mD (tN m) Y Y ?_
  refine lD (show OL _ _ _ _ _ (T.sl false 4 ((s.take m).map (Qa false))) by rw [show (s.take m).map (Qa false)=(s.map (Qa false)).take m from List.map_take ..];exact (OL.sliceRHi (j:=m) (tv (rd 4 Qa s) Y) (tv (tN m) Y) Y (by omega) Yb Qz Zo)) Y Y (VRunD.quiet (bi:= [1,2,3,0]) Y VWant.always Y Y Y (bc (lb Y) bn) (B.append (rows:= []) (rows2:=((s.take m).map (Qa false))) (rows3:=((s.take m).map (Qa true))) (VDst.own (tv (T.os 4 2 0 0) Y) Y Y) (VSrc.read (tv (rd 4 Qa (s.take m)) Y) Yb (okeEntry.okMap _ _)) nofun Yb Qz (by decide) Qbm Y (of_decide_eq_true (by kernel_rfl)) (by (simp only [List.length_map,List.length_append,List.length_cons,List.length_nil,List.length_replicate,List.length_set,List.length_drop,List.length_take,Y2] at *;omega)) (List.nil_append _)) (mD (rd 4 Qa l) Y Y (mD (tN i) Y Y (fD (OF.indexAddrR (row:=(Qa false x1)) (i:=i) (tv (rd 4 Qa l) Y) (tv (tN i) Y) Y (Qr _ hx1) Yb Qz Zo) Y Y (lD (OL.loadRn (us:=(Qa false x1)) (tv (T.rp (Qa false x1)) Y) ZX Qz (lb Y) Y) Y Y (VRunD.make Y VWant.always Y (OM.buildSlice (l:= [(T.agg (Qa false x1))]) (VEvp.cons (tv (T.agg (Qa false x1)) Y) VEvp.nil) Y (by decide) (bc (nofun) bn) (bc ((bc (Y) (bc (Y) (bc (Y) (bc (Y) bn))))) bn) (bc (Y) bn) Yb Qbm (by kernel_rfl) Y (by rw [Qz];decide) Qz (Nat.le_of_ble_eq_true Y)) (VRunD.quiet (bi:= [8,5,6,7,9,0,3,2,1,4]) Y VWant.always Y Y Y (bc (lb Y) (bc (lb Y) bn)) (B.append (rows:=((s.take m).map (Qa true))) (rows2:= [[(tI x1.Player),(tI x1.Issue),(tI x1.Tick),(tS x1.Fill)]]) (rows3:=(((s.take m)++ [x1]).map (Qa true))) (VDst.own (tv (T.os 4 3 0 (((s.take m).map (Qa true)).length)) Y) Y Y) (VSrc.own (tv (T.os 4 4 0 1) Y) Y Y Yb (bc (bc Y (bc Y (bc Y (bc Y bn)))) bn)) (by decide) Yb Qz (by decide) Qbm Y (of_decide_eq_true (by kernel_rfl)) (by (simp only [List.length_map,List.length_append,List.length_cons,List.length_nil,List.length_replicate,List.length_set,List.length_drop,List.length_take,Y2] at *;omega)) ((List.map_append (f:=Qa true) (l₁:=(s.take m)) (l₂:= [x1])).symm)) (mD (rd 4 Qa s) Y Y (mD (tN m) Y Y ?_)))))))))
  refine lD (show OL _ _ _ _ _ (T.sl false 4 ((s.drop m).map (Qa false))) by rw [show (s.drop m).map (Qa false)=(s.map (Qa false)).drop m from List.map_drop ..];exact (OL.sliceRLo (i:=m) (tv (rd 4 Qa s) Y) (tv (tN m) Y) Y (by omega) Yb Qz Zo)) Y Y (VRunD.quiet (bi:= [11,12,13,4,1,2,3,0,9,7,6,5,8,10]) Y VWant.always Y Y Y (bc (lb Y) bn) (B.append (rows:=(((s.take m)++ [x1]).map (Qa true))) (rows2:=((s.drop m).map (Qa false))) (rows3:=((((s.take m)++ [x1])++(s.drop m)).map (Qa true))) (VDst.own (tv (T.os 4 5 0 ((((s.take m)++ [x1]).map (Qa true)).length)) Y) Y Y) (VSrc.read (tv (rd 4 Qa (s.drop m)) Y) Yb (okeEntry.okMap _ _)) nofun Yb Qz (by decide) Qbm Y (of_decide_eq_true (by kernel_rfl)) (by (simp only [List.length_map,List.length_append,List.length_cons,List.length_nil,List.length_replicate,List.length_set,List.length_drop,List.length_take,Y2] at *;omega)) ((List.map_append (f:=Qa true) (l₁:=((s.take m)++ [x1])) (l₂:=(s.drop m))).symm)) (fD (OF.assign (tv (T.os 4 6 0 (((((s.take m)++ [x1])++(s.drop m)).map (Qa true)).length)) Y)) Y Y (VRunD.nil (vinB.n (tn (VRun.region (mO (tN i) Y (fO (Qx (tv (tN i) Y) (VEv.int .i64 1) (by omega)) (aO (tN (i+1)) Y (VRunO.nil (tn ?_)))))))))))
  refine ⟨((i+1,(((s.take m)++ [x1])++(s.drop m))):Nat×(List D.Entry)),?_,?_,Wk.mk (fun k=>if k=1 then 6 else k) ?_ ?_ ?_⟩
  ·(refine ⟨fhc0,hR.put hB hx1 hP (.inl ?_)⟩;omega)
  ·omega
  ·exact (b2 (b2 (b2 (b2 (b2 bn)))))
  ·exact (b3 (b3 bn))
  ·exact nd Y
 refine VRun.exit (vthn.e (vthn.e (vinB.e (tn (sr (mO (T.os 4 1 0 ((s.map (Qa true)).length)) Y (aO (T.os 4 1 0 ((s.map (Qa true)).length)) Y (nt (rt ?_)))))))))
 refine vfin.eq (r':=(T.sl true 4 (s.map (Qa true)))) ?_ (vfin.r (VRes.tmp (t:=(T.os 4 1 0 ((s.map (Qa true)).length))) Y VRes.nil) (Give.os Y Y (okeEntry.cleanMap _)))
 refine congrArg (fun l_=>T.sl true 4 (List.map (Qa true) l_)) ?_
 rw [← RkI.done (by rw [← show i=l.length by omega];exact hR)]
theorem QdS (n:Nat) (l:List D.Entry) (y:D.Issue) (hl:zAll mx l) (hz:Q3 y≤mx):Pure (Qs Tryz.prog (n+17)) 18 [(rd 4 Qa l),(T.agg (Qe false y))] (T.sl true 1 ((((Qm y l).filter (QG y)).map Zm).map (Qc true))):=by
 refine Pure.intro (rs:= [ResultVar.tmp 4]) Tryz.func18 Y Y Y (E0:= [(0,(rd 4 Qa l)),(1,(T.agg (Qe false y)))]) Y ?_
 obtain ⟨hlim,hmx,hmax⟩:=QA
 have hl1:=hl.1
 have hr0:=Qg3 (x:=y) hl
 have hr1:=hr0.1
 have hz2:=hz
 simp only [Q3,QK] at hz2
 have hlc:=Zs (z:=QY) y.Puzzle.Clues
 refine sr (kO (B.box (ts:=(Qe false y)) (tv (T.agg (Qe false y)) Y) nofun Y) (fO (OF.assign VEv.nils) (nt (sr (kO (OM.slice0 Z1 zo3 (by kernel_rfl) Y (by rw [ZA];decide) ZA) (aO (T.os 1 1 0 0) Y (nt (sr (mO (rd 4 Qa l) Y (lO (OL.loadOn (us:=(Qe false y)) (tv (T.op 0 0) Y) Y Jj YZ (lb Y) Y) (cO (OC.callF (r':=(T.os 4 2 0 (((Qm y l).map (Qa true)).length))) (objs:= [(Obj.rows 4 ((Qm y l).map (Qa true)))]) Y (vc (tv (rd 4 Qa l) Y) (vc (tv (T.agg (Qe false y)) Y) vn)) (lp Y (LendL.cons (lg Q1) ln)) (QdQ (n+0) l y (by assumption) (by assumption)) Y) ?_)))))))))))
 refine aO (T.os 4 2 0 (((Qm y l).map (Qa true)).length)) Y (nt (sq (sr (fO (OF.assign (VEv.int .i64 0)) (nt (VRun.block ?_))))))
 have he1: []=((((Qm y l).take 0 |>.filter (QG y)).map Zm).map (Qc true)):=by rfl
 refine VRun.loop (A:=Nat) (fun s_=> [(3,(T.op 0 0)),(4,T.nils),(5,(T.os 1 2 0 (((((Qm y l).take s_ |>.filter (QG y)).map Zm).map (Qc true)).length))),(6,(T.os 4 1 0 (((Qm y l).map (Qa true)).length))),(7,(tN s_))]) (fun s_=>QV [(0,(Obj.cells (Qe false y))),(1,(Obj.rows 4 ((Qm y l).map (Qa true)))),(2,(Obj.rows 1 ((((Qm y l).take s_ |>.filter (QG y)).map Zm).map (Qc true))))]) 3 (fun s_=>s_≤(Qm y l).length) (fun s_=>(Qm y l).length - s_) (0:Nat) ?_ (Wk.mk (fun k=>if k=1 then 2 else if k=2 then 1 else k) ?_ ?_ ?_) ?_
 ·(simp;done)
 ·exact (b2 (b2 (bc ⟨(congrArg (fun n_=>T.os 1 1 0 n_) (show 0=((((Qm y l).take 0 |>.filter (QG y)).map Zm).map (Qc true)).length from (by rfl))),rfl⟩ (b2 (b2 bn)))))
 ·exact (b3 (b3 (bc ⟨(congrArg (fun l_=>some (Obj.rows 1 l_)) he1),(lb Y),rfl⟩ bn)))
 ·exact nd Y
 rintro i (hI':i≤(Qm y l).length)
 show VRun _ _ _ [(3,(T.op 0 0)),(4,T.nils),(5,(T.os 1 2 0 (((((Qm y l).take i |>.filter (QG y)).map Zm).map (Qc true)).length))),(6,(T.os 4 1 0 (((Qm y l).map (Qa true)).length))),(7,(tN i))] (QV [(0,(Obj.cells (Qe false y))),(1,(Obj.rows 4 ((Qm y l).map (Qa true)))),(2,(Obj.rows 1 ((((Qm y l).take i |>.filter (QG y)).map Zm).map (Qc true))))]) 3 _
 have htl:=Qlm y (Qm y l) i
 refine sq (sr (mO (tN i) Y (mO (T.os 4 1 0 (((Qm y l).map (Qa true)).length)) Y (lO (B.lenO (m:=(Qm y l).length) (tv (T.os 4 1 0 (((Qm y l).map (Qa true)).length)) Y) Yb (List.length_map ..)) (fO (Q5 (tv (tN i) Y) (tv (tN ((Qm y l).length)) Y)) (nt ?_))))))
 refine cd (i<(Qm y l).length) Y (fun fhc0=> ?_) fun fhc0=> ?_
 ·refine sk ?_
  refine tn (sq (VRun.block (sq (VRun.draw (B:= [[],[],[1,0],[0,1,2],[],[4,2,1,0,3],[],[6],[6,7],[7,6,8],[8,6,7,9,3,0,1,2,4,5]]) (by kernel_rfl) (by kernel_rfl) Y (mD (T.os 4 1 0 (((Qm y l).map (Qa true)).length)) Y Y (mD (tN i) Y Y ?_))))))
  obtain ⟨x1,hx1⟩:∃x,(Qm y l)[i]? =some x:=⟨_,List.getElem?_eq_getElem (by omega)⟩
  have hze1:=hr0.at hx1
  refine fD (B.indexAddrO (i:=i) (tv (T.os 4 1 0 (((Qm y l).map (Qa true)).length)) Y) (tv (tN i) Y) Y (by (simp only [List.length_map];omega)) Yb Qz Zo) Y Y (lD (OL.loadPn (us:=(Qa false x1)) (row:=(Qa true x1)) (tv (T.orp 4 1 i 0) Y) Y (Qr _ hx1) ZX Qz (lb Y) Y (bc Y (bc Y (bc Y (bc Y bn))))) Y Y (lD (OL.loadOn (us:=(Qe false y)) (tv (T.op 0 0) Y) Y Jj YZ (lb Y) Y) Y Y (VRunD.quiet (bi:= [4,2,1,0,3]) Y VWant.always Y Y Y bn (cS (vc (tv (T.agg (Qa false x1)) Y) (vc (tv (T.agg (Qe false y)) Y) vn)) (LendL.cons (lg okeEntry) (LendL.cons (lg Q1) ln)) (Qan (n+2) x1 y (by assumption) (by assumption)) Y Y) (fD (OF.fieldAddrO (tv (T.op 0 0) Y) YU) Y Y (fD (OF.fieldAddrO (tv (T.op 0 1) Y) JT) Y Y (lD (OL.loadO1 (t:=(rd 2 Qh y.Puzzle.Clues)) (tv (T.op 0 4) Y) Y Y Qe0) Y Y (lD (B.lenR (m:=y.Puzzle.Clues.length) (tv (rd 2 Qh y.Puzzle.Clues) Y) U37 (List.length_map ..)) Y Y (fD (Qix (tv (tN (QF x1 y)) Y) (tv (tN y.Puzzle.Clues.length) Y)) Y Y (VRunD.nil (tn ?_))))))))))
  refine cd (QF x1 y=y.Puzzle.Clues.length) Y (fun fhc1=> ?_) fun fhc1=> ?_
  ·refine VRun.region ?_
   refine mO (T.os 1 2 0 (((((Qm y l).take i |>.filter (QG y)).map Zm).map (Qc true)).length)) Y (mO (T.os 4 1 0 (((Qm y l).map (Qa true)).length)) Y (mO (tN i) Y (fO (B.indexAddrO (i:=i) (tv (T.os 4 1 0 (((Qm y l).map (Qa true)).length)) Y) (tv (tN i) Y) Y (by (simp only [List.length_map];omega)) Yb Qz Zo) (fO (OF.fieldAddrP (tv (T.orp 4 1 i 0) Y) YH) (lO (OL.loadP1 (t:=(tI x1.Player)) (row:=(Qa true x1)) (tv (T.orp 4 1 i 0) Y) Y (Qr _ hx1) Y Y QQ) (kO (OM.buildSlice (l:= [(tI x1.Player)]) (VEvp.cons (tv (tI x1.Player) Y) VEvp.nil) Y (by decide) (bc (nofun) bn) (bc ((bc (Y) bn)) bn) (bc (Y) bn) Z1 zo3 (by kernel_rfl) Y (by rw [ZA];decide) ZA (Nat.le_of_ble_eq_true Y)) (cO (B.append (rows:=((((Qm y l).take i |>.filter (QG y)).map Zm).map (Qc true))) (rows2:= [[(tI x1.Player)]]) (rows3:=((((Qm y l).take i |>.filter (QG y)).map Zm++ [x1.Player]).map (Qc true))) (VDst.own (tv (T.os 1 2 0 (((((Qm y l).take i |>.filter (QG y)).map Zm).map (Qc true)).length)) Y) Y Y) (VSrc.own (tv (T.os 1 3 0 1) Y) Y Y Z1 (bc (bc Y bn) bn)) (by decide) Z1 ZA (by decide) zo3 Y (of_decide_eq_true (by kernel_rfl)) (by (simp only [List.length_map,List.length_append,List.length_cons,List.length_nil,List.length_replicate,List.length_set,List.length_drop,List.length_take,Y2] at *;omega)) ((List.map_append (f:=Qc true) (l₁:=((Qm y l).take i |>.filter (QG y)).map Zm) (l₂:= [x1.Player])).symm)) (aO (T.os 1 4 0 (((((Qm y l).take i |>.filter (QG y)).map Zm++ [x1.Player]).map (Qc true)).length)) Y (VRunO.nil (vinB.n (tn ?_)))))))))))
   refine VRun.region (mO (tN i) Y (fO (Qx (tv (tN i) Y) (VEv.int .i64 1) (by omega)) (aO (tN (i+1)) Y (VRunO.nil (tn ?_)))))
   have he2:(((Qm y l).take i |>.filter (QG y)).map Zm++ [x1.Player])=((Qm y l).take (i+1) |>.filter (QG y)).map Zm:=by first | rfl | exact QmX (QG y) Zm hx1 (decide_eq_true fhc1)
   refine ⟨(i+1:Nat),?_,?_,Wk.mk (fun k=>if k=2 then 4 else k) ?_ ?_ ?_⟩
   ·trivial
   ·omega
   ·exact (b2 (b2 (bc ⟨(congrArg (fun l_=>T.os 1 4 0 (List.map (Qc true) l_).length) he2),rfl⟩ (b2 (b2 bn)))))
   ·exact (b3 (b3 (bc ⟨(congrArg (fun l_=>some (Obj.rows 1 (List.map (Qc true) l_))) he2),(lb Y),rfl⟩ bn)))
   ·exact nd Y
  refine sk (vinB.n (tn (VRun.region (mO (tN i) Y (fO (Qx (tv (tN i) Y) (VEv.int .i64 1) (by omega)) (aO (tN (i+1)) Y (VRunO.nil (tn ?_))))))))
  have he3:((Qm y l).take i |>.filter (QG y)).map Zm=((Qm y l).take (i+1) |>.filter (QG y)).map Zm:=by first | rfl | exact QmQ (QG y) Zm hx1 (decide_eq_false fhc1)
  refine ⟨(i+1:Nat),?_,?_,Wk.mk (fun k=>k) ?_ ?_ ?_⟩
  ·trivial
  ·omega
  ·exact (b2 (b2 (bc ⟨(congrArg (fun l_=>T.os 1 2 0 (List.map (Qc true) l_).length) he3),rfl⟩ (b2 (b2 bn)))))
  ·exact (b3 (b3 (bc ⟨(congrArg (fun l_=>some (Obj.rows 1 (List.map (Qc true) l_))) he3),(lb Y),rfl⟩ bn)))
  ·exact nd Y
 refine VRun.exit (vthn.e (vthn.e (vinB.e (tn (sr (mO (T.os 1 2 0 (((((Qm y l).take i |>.filter (QG y)).map Zm).map (Qc true)).length)) Y (aO (T.os 1 2 0 (((((Qm y l).take i |>.filter (QG y)).map Zm).map (Qc true)).length)) Y (nt (rt ?_)))))))))
 refine vfin.eq (r':=(T.sl true 1 ((((Qm y l).take i |>.filter (QG y)).map Zm).map (Qc true)))) ?_ (vfin.r (VRes.tmp (t:=(T.os 1 2 0 (((((Qm y l).take i |>.filter (QG y)).map Zm).map (Qc true)).length))) Y VRes.nil) (Give.os Y Y (okInt.cleanMap _)))
 refine congrArg (fun l_=>T.sl true 1 (List.map (Qc true) l_)) ?_
 rw [List.take_of_length_le (by omega)]
theorem Qdk (n:Nat) (a:D.Puzzle) (k:Nat) (hk:QJ k a.Clues+1*a.Seals.length≤Y2):LoanM (Qs Tryz.prog (n+4)) 29 [(2,(a.Clues.map (Qh true))),(1,(a.Seals.map (Qc true)))] [(T.agg [(tI a.Grid.Rows),(tI a.Grid.Cols),(tS a.Grid.Cells),(T.os 2 0 0 ((a.Clues.map (Qh true)).length)),(T.os 1 1 0 ((a.Seals.map (Qc true)).length)),(tI a.Salt)]),(tN k)] (tN (QJ k a.Clues+1*a.Seals.length)) [(2,((Yq k a.Clues).map (Qh true))),(1,((JZ ZO 1 (QJ k a.Clues) a.Seals.length).map (Qc true)))]:=by
 refine LoanM.intro (rs:= [ResultVar.tmp 4]) [(0,(T.agg [(tI a.Grid.Rows),(tI a.Grid.Cols),(tS a.Grid.Cells),(T.os 2 0 0 ((a.Clues.map (Qh true)).length)),(T.os 1 1 0 ((a.Seals.map (Qc true)).length)),(tI a.Salt)]))] Tryz.func29 Y Y Y Y (bc ⟨by kernel_rfl,rfl⟩ bn) (PinsTo.at (And.intro (And.intro trivial ⟨_,(.head _),(.agg 3 Y (.os _ _))⟩) ⟨_,(.head _),(.agg 4 Y (.os _ _))⟩)) (.int _ _) (bc (okeClue.cleanMap _) (bc (okInt.cleanMap _) bn)) (E0:= [(0,(T.agg [(tI a.Grid.Rows),(tI a.Grid.Cols),(tS a.Grid.Cells),(T.os 2 0 0 ((a.Clues.map (Qh true)).length)),(T.os 1 1 0 ((a.Seals.map (Qc true)).length)),(tI a.Salt)])),(1,(tN k))]) Y (fun asg=> ?_)
 obtain ⟨hlim,hmx,hmax⟩:=QA
 show VRun _ _ _ [(0,(T.agg [(tI a.Grid.Rows),(tI a.Grid.Cols),(tS a.Grid.Cells),(T.os 2 0 0 ((a.Clues.map (Qh true)).length)),(T.os 1 1 0 ((a.Seals.map (Qc true)).length)),(tI a.Salt)])),(1,(tN k))] (QV [(0,(Obj.rowsN 2 (a.Clues.map (Qh true)) (asg 0))),(1,(Obj.rowsN 1 (a.Seals.map (Qc true)) (asg 1)))]) 2 _
 refine sr (kO (B.box (ts:= [(tI a.Grid.Rows),(tI a.Grid.Cols),(tS a.Grid.Cells),(T.os 2 0 0 ((a.Clues.map (Qh true)).length)),(T.os 1 1 0 ((a.Seals.map (Qc true)).length)),(tI a.Salt)]) (tv (T.agg [(tI a.Grid.Rows),(tI a.Grid.Cols),(tS a.Grid.Cells),(T.os 2 0 0 ((a.Clues.map (Qh true)).length)),(T.os 1 1 0 ((a.Seals.map (Qc true)).length)),(tI a.Salt)]) Y) nofun Y) (fO (OF.assign (VEv.int .i64 0)) (nt (sr (lf (T.os 2 0 0 ((a.Clues.map (Qh true)).length)) Y JT Y Y Qe0 (mO (tN k) Y (cO (OC.callL (ts:= [(T.os 2 0 0 ((a.Clues.map (Qh true)).length)),(tN k)]) [0] (r:=(tN (QJ k a.Clues))) (L:= [(2,(a.Clues.map (Qh true)))]) [(2,((Yq k a.Clues).map (Qh true)))] [(Obj.rowsN 2 (a.Clues.map (Qh true)) (asg 0))] rfl (vc (tv (T.os 2 0 0 ((a.Clues.map (Qh true)).length)) Y) (vc (tv (tN k) Y) vn)) (by decide) Y (And.intro (And.intro Y Y) (trivial)) (bc (okeClue.cleanMap _) bn) (bc (okeClue.cleanMap _) bn) Y Y (.int _ _) (Qd1 (n+0) a.Clues k (by omega))) (aO (tN (QJ k a.Clues)) Y (nt (sr (lf (T.os 1 1 0 ((a.Seals.map (Qc true)).length)) Y Qaj Y Y Qcm ?_)))))))))))
 refine mO (tN (QJ k a.Clues)) Y (cO (OC.viaN (k:=1) Y (QL (fun _=>rfl) _) (QL (fun _=>rfl) _) (OC.callMut (rows:=(a.Seals.map (Qc true))) (rows':=((JZ ZO 1 (QJ k a.Clues) a.Seals.length).map (Qc true))) Y (vc (tv (T.os 1 1 0 ((a.Seals.map (Qc true)).length)) Y) (vc (tv (tN (QJ k a.Clues)) Y) vn)) Y Y (bc Y bn) (QL (fun _=>rfl) _) (QL (fun _=>rfl) _) (QbD (n+2) a.Seals (QJ k a.Clues) (by assumption)))) (aO (tN ((QJ k a.Clues)+1*a.Seals.length)) Y (nt (sr (mO (tN ((QJ k a.Clues)+1*a.Seals.length)) Y (aO (tN ((QJ k a.Clues)+1*a.Seals.length)) Y (nt (rt ?_))))))))
 have hnew0:Yq k a.Clues=Yq k a.Clues:=by
  rfl
 have hnew1:JZ ZO 1 (QJ k a.Clues) a.Seals.length=JZ ZO 1 (QJ k a.Clues) a.Seals.length:=by
  rfl
 exact vloanM.r (L1:= [(2,((Yq k a.Clues).map (Qh true))),(1,((JZ ZO 1 (QJ k a.Clues) a.Seals.length).map (Qc true)))]) (fun k=>k) (VRes.tmp (t:=(tN ((QJ k a.Clues)+1*a.Seals.length))) Y VRes.nil) (congrArg (T.int .i64) (show (((QJ k a.Clues)+1*a.Seals.length:Nat):Int)=((QJ k a.Clues+1*a.Seals.length:Nat):Int) by rfl)) (bc Y bn) (And.intro Y (And.intro Y (trivial))) (by rw [hnew0,hnew1])
theorem Qdx (n:Nat) (a:D.Issue) (k:Nat) (hk:QJ k a.Puzzle.Clues+1*a.Puzzle.Seals.length≤Y2):LoanM (Qs Tryz.prog (n+5)) 15 [(2,(a.Puzzle.Clues.map (Qh true))),(1,(a.Puzzle.Seals.map (Qc true)))] [(T.agg [(tI a.Number),(tI a.Puzzle.Grid.Rows),(tI a.Puzzle.Grid.Cols),(tS a.Puzzle.Grid.Cells),(T.os 2 0 0 ((a.Puzzle.Clues.map (Qh true)).length)),(T.os 1 1 0 ((a.Puzzle.Seals.map (Qc true)).length)),(tI a.Puzzle.Salt),(tS a.Fill),(tI a.Open),(tI a.Close)]),(tN k)] (tN (QJ k a.Puzzle.Clues+1*a.Puzzle.Seals.length)) [(2,((Yq k a.Puzzle.Clues).map (Qh true))),(1,((JZ ZO 1 (QJ k a.Puzzle.Clues) a.Puzzle.Seals.length).map (Qc true)))]:=by
 refine LoanM.intro (rs:= [ResultVar.tmp 4]) [(0,(T.agg [(tI a.Number),(tI a.Puzzle.Grid.Rows),(tI a.Puzzle.Grid.Cols),(tS a.Puzzle.Grid.Cells),(T.os 2 0 0 ((a.Puzzle.Clues.map (Qh true)).length)),(T.os 1 1 0 ((a.Puzzle.Seals.map (Qc true)).length)),(tI a.Puzzle.Salt),(tS a.Fill),(tI a.Open),(tI a.Close)]))] Tryz.func15 Y Y Y Y (bc ⟨by kernel_rfl,rfl⟩ bn) (PinsTo.at (And.intro (And.intro trivial ⟨_,(.head _),(.agg 4 Y (.os _ _))⟩) ⟨_,(.head _),(.agg 5 Y (.os _ _))⟩)) (.int _ _) (bc (okeClue.cleanMap _) (bc (okInt.cleanMap _) bn)) (E0:= [(0,(T.agg [(tI a.Number),(tI a.Puzzle.Grid.Rows),(tI a.Puzzle.Grid.Cols),(tS a.Puzzle.Grid.Cells),(T.os 2 0 0 ((a.Puzzle.Clues.map (Qh true)).length)),(T.os 1 1 0 ((a.Puzzle.Seals.map (Qc true)).length)),(tI a.Puzzle.Salt),(tS a.Fill),(tI a.Open),(tI a.Close)])),(1,(tN k))]) Y (fun asg=> ?_)
 obtain ⟨hlim,hmx,hmax⟩:=QA
 show VRun _ _ _ [(0,(T.agg [(tI a.Number),(tI a.Puzzle.Grid.Rows),(tI a.Puzzle.Grid.Cols),(tS a.Puzzle.Grid.Cells),(T.os 2 0 0 ((a.Puzzle.Clues.map (Qh true)).length)),(T.os 1 1 0 ((a.Puzzle.Seals.map (Qc true)).length)),(tI a.Puzzle.Salt),(tS a.Fill),(tI a.Open),(tI a.Close)])),(1,(tN k))] (QV [(0,(Obj.rowsN 2 (a.Puzzle.Clues.map (Qh true)) (asg 0))),(1,(Obj.rowsN 1 (a.Puzzle.Seals.map (Qc true)) (asg 1)))]) 2 _
 refine sr (kO (B.box (ts:= [(tI a.Number),(tI a.Puzzle.Grid.Rows),(tI a.Puzzle.Grid.Cols),(tS a.Puzzle.Grid.Cells),(T.os 2 0 0 ((a.Puzzle.Clues.map (Qh true)).length)),(T.os 1 1 0 ((a.Puzzle.Seals.map (Qc true)).length)),(tI a.Puzzle.Salt),(tS a.Fill),(tI a.Open),(tI a.Close)]) (tv (T.agg [(tI a.Number),(tI a.Puzzle.Grid.Rows),(tI a.Puzzle.Grid.Cols),(tS a.Puzzle.Grid.Cells),(T.os 2 0 0 ((a.Puzzle.Clues.map (Qh true)).length)),(T.os 1 1 0 ((a.Puzzle.Seals.map (Qc true)).length)),(tI a.Puzzle.Salt),(tS a.Fill),(tI a.Open),(tI a.Close)]) Y) nofun Y) (fO (OF.assign (VEv.int .i64 0)) (nt (sr (fO (OF.fieldAddrO (tv (T.op 2 0) Y) YU) (lO (OL.loadOn (us:= [(tI a.Puzzle.Grid.Rows),(tI a.Puzzle.Grid.Cols),(tS a.Puzzle.Grid.Cells),(T.os 2 0 0 ((a.Puzzle.Clues.map (Qh true)).length)),(T.os 1 1 0 ((a.Puzzle.Seals.map (Qc true)).length)),(tI a.Puzzle.Salt)]) (tv (T.op 2 1) Y) Y Qhq Qer (lb Y) Y) (mO (tN k) Y (cO (OC.callL (ts:= [(T.agg [(tI a.Puzzle.Grid.Rows),(tI a.Puzzle.Grid.Cols),(tS a.Puzzle.Grid.Cells),(T.os 2 0 0 ((a.Puzzle.Clues.map (Qh true)).length)),(T.os 1 1 0 ((a.Puzzle.Seals.map (Qc true)).length)),(tI a.Puzzle.Salt)]),(tN k)]) [0,1] (r:=(tN (QJ k a.Puzzle.Clues+1*a.Puzzle.Seals.length))) (L:= [(2,(a.Puzzle.Clues.map (Qh true))),(1,(a.Puzzle.Seals.map (Qc true)))]) [(2,((Yq k a.Puzzle.Clues).map (Qh true))),(1,((JZ ZO 1 (QJ k a.Puzzle.Clues) a.Puzzle.Seals.length).map (Qc true)))] [(Obj.rowsN 2 (a.Puzzle.Clues.map (Qh true)) (asg 0)),(Obj.rowsN 1 (a.Puzzle.Seals.map (Qc true)) (asg 1))] rfl (vc (tv (T.agg [(tI a.Puzzle.Grid.Rows),(tI a.Puzzle.Grid.Cols),(tS a.Puzzle.Grid.Cells),(T.os 2 0 0 ((a.Puzzle.Clues.map (Qh true)).length)),(T.os 1 1 0 ((a.Puzzle.Seals.map (Qc true)).length)),(tI a.Puzzle.Salt)]) Y) (vc (tv (tN k) Y) vn)) (by decide) Y (And.intro (And.intro Y Y) (And.intro (And.intro Y Y) (trivial))) (bc (okeClue.cleanMap _) (bc (okInt.cleanMap _) bn)) (bc (okeClue.cleanMap _) (bc (okInt.cleanMap _) bn)) Y Y (.int _ _) (Qdk (n+0) a.Puzzle k (by assumption))) (aO (tN (QJ k a.Puzzle.Clues+1*a.Puzzle.Seals.length)) Y (nt (sr ?_)))))))))))
 refine mO (tN (QJ k a.Puzzle.Clues+1*a.Puzzle.Seals.length)) Y (aO (tN (QJ k a.Puzzle.Clues+1*a.Puzzle.Seals.length)) Y (nt (rt ?_)))
 have hnew0:Yq k a.Puzzle.Clues=Yq k a.Puzzle.Clues:=by
  rfl
 have hnew1:JZ ZO 1 (QJ k a.Puzzle.Clues) a.Puzzle.Seals.length=JZ ZO 1 (QJ k a.Puzzle.Clues) a.Puzzle.Seals.length:=by
  rfl
 exact vloanM.r (L1:= [(2,((Yq k a.Puzzle.Clues).map (Qh true))),(1,((JZ ZO 1 (QJ k a.Puzzle.Clues) a.Puzzle.Seals.length).map (Qc true)))]) (fun k=>k) (VRes.tmp (t:=(tN (QJ k a.Puzzle.Clues+1*a.Puzzle.Seals.length))) Y VRes.nil) Y (bc Y bn) (And.intro Y (And.intro Y (trivial))) (by rw [hnew0,hnew1])
theorem Qbe (n:Nat) (a0:List D.Entry) (a1:D.Issue) (g0:(a0.length≤maxLen∧∀y∈a0,Qhd y)) (g1:Qi3 a1):Pure (Qs Tryz.prog (n+73)) 4 [(rd 4 Qa a0),(T.agg (Qe false a1))] (tB true):=by
 refine Pure.intro (rs:= [ResultVar.tmp 4]) Tryz.func4 Y Y Y (E0:= [(0,(rd 4 Qa a0)),(1,(T.agg (Qe false a1)))]) Y ?_
 obtain ⟨hlim,hmx,hmax⟩:=QA
 have hl0:=Zs (z:=Q7) a0
 have hl1_1:=Zs (z:=QY) a1.Puzzle.Clues
 have hl1_2:=Zs (z:=zI) a1.Puzzle.Seals
 have hm0:=QiF (1+4*a0.length) a1.Puzzle.Clues
 have hd0:zL QY a1.Puzzle.Clues+zL zI a1.Puzzle.Seals≤Q3 a1:=by simp only [Q3,QK];omega
 refine sr (kO (B.box (ts:=(Qe false a1)) (tv (T.agg (Qe false a1)) Y) nofun Y) (fO (OF.assign (VEv.bool false)) (nt (sr (fO (OF.assign (VEv.int .i64 1048576)) (nt (sr (mO (rd 4 Qa a0) Y (mO (tN 1048576) Y (cO (cS (vc (tv (rd 4 Qa a0) Y) (vc (tv (tN 1048576) Y) vn)) (Z8 Y) (QeF (n+70) a0 1048576 (by omega) (by omega) (by assumption)) Y Y) (aO (tI (ZF (zL Q7 a0) 1048576)) Y ?_)))))))))))
 refine nt (sq (sr (mO (tI (ZF (zL Q7 a0) 1048576)) Y (fO (xls (tv (tI (ZF (zL Q7 a0) 1048576)) Y) (VEv.int .i64 0)) (nt ?_)))))
 refine cd (ZF (zL Q7 a0) 1048576<0) Y (fun fhc0=> ?_) fun fhc0=> ?_
 ·refine sr ?_
  refine fO (OF.assign (VEv.bool true)) (nt (rt (tr ?_)))
  exact vb Y Y
 have hz0:=Qay fhc0
 refine sk (tn (sr (lO (OL.loadOn (us:=(Qe false a1)) (tv (T.op 0 0) Y) Y Qle QlN (lb Y) Y) (mO (tI (ZF (zL Q7 a0) 1048576)) Y (cO (cS (vc (tv (T.agg (Qe false a1)) Y) (vc (tv (tI (ZF (zL Q7 a0) 1048576)) Y) vn)) (LendL.cons (lg Q1) (lp Y ln)) (Qfe (n+66) a1 (ZF (zL Q7 a0) 1048576) (by omega) (by omega) (by assumption)) Y Y) (aO (tI (ZF (Q3 a1) (ZF (zL Q7 a0) 1048576))) Y (nt (sq (sr (mO (tI (ZF (Q3 a1) (ZF (zL Q7 a0) 1048576))) Y (fO (xls (tv (tI (ZF (Q3 a1) (ZF (zL Q7 a0) 1048576))) Y) (VEv.int .i64 0)) ?_)))))))))))
 refine nt ?_
 refine cd (ZF (Q3 a1) (ZF (zL Q7 a0) 1048576)<0) Y (fun fhc1=> ?_) fun fhc1=> ?_
 ·refine sr ?_
  refine fO (OF.assign (VEv.bool true)) (nt (rt (tr ?_)))
  exact vb Y Y
 have hz1:=Qay fhc1
 have hx:zAll mx a0:=⟨Nat.le_trans (Zs (z:=Q7) a0) (by omega),fun e he=>Nat.le_trans (Qi8 he) (by omega)⟩
 have hx2:=(Qg3 (x:=a1) hx).1
 have hx3:(((Qm a1 a0).filter (QG a1)).map Zm).length≤(Qm a1 a0).length:=by rw [List.length_map];exact List.length_filter_le _ _
 refine sk (tn (sq (VRun.draw (B:= [[],[0],[],[0,1,2],[2,3,0,1],[1,0,3,2,4]]) (by kernel_rfl) (by kernel_rfl) Y (mD (rd 4 Qa a0) Y Y (VRunD.quiet (bi:= [0]) Y VWant.always Y Y Y bn (OC.callF (r':=(T.os 4 1 0 ((a0.map (Qa true)).length))) (objs:= [(Obj.rows 4 (a0.map (Qa true)))]) Y (vc (tv (rd 4 Qa a0) Y) vn) (Z8 Y) (YY (n+70) a0 (by omega)) Y) (lD (OL.loadOn (us:=(Qe false a1)) (tv (T.op 0 0) Y) Y Qle QlN (lb Y) Y) Y Y (VRunD.quiet (bi:= [0,1,2]) Y VWant.always Y Y Y bn (OC.callF (r':=(T.agg [(tI a1.Number),(tI a1.Puzzle.Grid.Rows),(tI a1.Puzzle.Grid.Cols),(tS a1.Puzzle.Grid.Cells),(T.os 2 2 0 ((a1.Puzzle.Clues.map (Qh true)).length)),(T.os 1 3 0 ((a1.Puzzle.Seals.map (Qc true)).length)),(tI a1.Puzzle.Salt),(tS a1.Fill),(tI a1.Open),(tI a1.Close)])) (objs:= [(Obj.rows 2 (a1.Puzzle.Clues.map (Qh true))),(Obj.rows 1 (a1.Puzzle.Seals.map (Qc true)))]) Y (vc (tv (T.agg (Qe false a1)) Y) vn) (LendL.cons (lg Q1) ln) (Je (n+66) a1 (by omega)) Y) (VRunD.quiet (bi:= [2,3,0,1]) Y VWant.always Y Y Y bn (OC.callF (us:= [(rd 4 Qa a0),(T.agg (Qe false a1))]) (r':=(T.os 1 4 0 (((((Qm a1 a0).filter (QG a1)).map Zm).map (Qc true)).length))) (objs:= [(Obj.rows 1 ((((Qm a1 a0).filter (QG a1)).map Zm).map (Qc true)))]) Y (vc (tv (T.os 4 1 0 ((a0.map (Qa true)).length)) Y) (vc (tv (T.agg [(tI a1.Number),(tI a1.Puzzle.Grid.Rows),(tI a1.Puzzle.Grid.Cols),(tS a1.Puzzle.Grid.Cells),(T.os 2 2 0 ((a1.Puzzle.Clues.map (Qh true)).length)),(T.os 1 3 0 ((a1.Puzzle.Seals.map (Qc true)).length)),(tI a1.Puzzle.Salt),(tS a1.Fill),(tI a1.Open),(tI a1.Close)]) Y) vn)) (LendL.cons (Lend.os Y Y (okeEntry.fzMap _ _)) (LendL.cons (Lend.agg (LendL.cons (Lend.pl Y) (LendL.cons (Lend.pl Y) (LendL.cons (Lend.pl Y) (LendL.cons (Lend.pl Y) (LendL.cons (Lend.os Y Y (okeClue.fzMap _ _)) (LendL.cons (Lend.os Y Y (okInt.fzMap _ _)) (LendL.cons (Lend.pl Y) (LendL.cons (Lend.pl Y) (LendL.cons (Lend.pl Y) (LendL.cons (Lend.pl Y) ln))))))))))) ln)) (QdS (n+55) a0 a1 (by assumption) (by omega)) Y) (fD (OF.assign (tv (T.os 1 4 0 (((((Qm a1 a0).filter (QG a1)).map Zm).map (Qc true)).length)) Y)) Y Y (VRunD.nil (tn ?_)))))))))))
 refine sr (mO (rd 4 Qa a0) Y (cO (OC.callF (r':=(T.os 4 5 0 ((a0.map (Qa true)).length))) (objs:= [(Obj.rows 4 (a0.map (Qa true)))]) Y (vc (tv (rd 4 Qa a0) Y) vn) (Z8 Y) (YY (n+70) a0 (by omega)) Y) (aO (T.os 4 5 0 ((a0.map (Qa true)).length)) Y (nt (sr (lO (OL.loadOn (us:=(Qe false a1)) (tv (T.op 0 0) Y) Y Qle QlN (lb Y) Y) (cO (OC.callF (r':=(T.agg [(tI a1.Number),(tI a1.Puzzle.Grid.Rows),(tI a1.Puzzle.Grid.Cols),(tS a1.Puzzle.Grid.Cells),(T.os 2 6 0 ((a1.Puzzle.Clues.map (Qh true)).length)),(T.os 1 7 0 ((a1.Puzzle.Seals.map (Qc true)).length)),(tI a1.Puzzle.Salt),(tS a1.Fill),(tI a1.Open),(tI a1.Close)])) (objs:= [(Obj.rows 2 (a1.Puzzle.Clues.map (Qh true))),(Obj.rows 1 (a1.Puzzle.Seals.map (Qc true)))]) Y (vc (tv (T.agg (Qe false a1)) Y) vn) (LendL.cons (lg Q1) ln) (Je (n+66) a1 (by omega)) Y) (kO (B.alloc (t:=(T.agg [(tN 0),(tN 0),(tN 0),(tS ByteArray.empty),T.nils,T.nils,(tN 0),(tS ByteArray.empty),(tN 0),(tN 0)])) (ts:= [(tN 0),(tN 0),(tN 0),(tS ByteArray.empty),T.nils,T.nils,(tN 0),(tS ByteArray.empty),(tN 0),(tN 0)]) Qnp Qnj nofun (fun _=> .agg _ _ Y (Jm (RL.cons (.int _ _) (RL.cons (.int _ _) (RL.cons (.int _ _) (RL.cons (.str _) (RL.cons (.nils) (RL.cons (.nils) (RL.cons (.int _ _) (RL.cons (.str _) (RL.cons (.int _ _) (RL.cons (.int _ _) (RL.nil _))))))))))))) Y) (cO (B.storeW (us:= [(tI a1.Number),(tI a1.Puzzle.Grid.Rows),(tI a1.Puzzle.Grid.Cols),(tS a1.Puzzle.Grid.Cells),(T.os 2 6 0 ((a1.Puzzle.Clues.map (Qh true)).length)),(T.os 1 7 0 ((a1.Puzzle.Seals.map (Qc true)).length)),(tI a1.Puzzle.Salt),(tS a1.Fill),(tI a1.Open),(tI a1.Close)]) (tv (T.op 8 0) Y) (tv (T.agg [(tI a1.Number),(tI a1.Puzzle.Grid.Rows),(tI a1.Puzzle.Grid.Cols),(tS a1.Puzzle.Grid.Cells),(T.os 2 6 0 ((a1.Puzzle.Clues.map (Qh true)).length)),(T.os 1 7 0 ((a1.Puzzle.Seals.map (Qc true)).length)),(tI a1.Puzzle.Salt),(tS a1.Fill),(tI a1.Open),(tI a1.Close)]) Y) nofun Y Y Y Qov YZ (bc Y (bc Y (bc Y (bc Y (bc Y (bc Y (bc Y (bc Y (bc Y (bc Y bn))))))))))) (nt (sr ?_)))))))))))
 refine mO (T.os 4 5 0 ((a0.map (Qa true)).length)) Y (lO (OL.loadOn (us:= [(tI a1.Number),(tI a1.Puzzle.Grid.Rows),(tI a1.Puzzle.Grid.Cols),(tS a1.Puzzle.Grid.Cells),(T.os 2 6 0 ((a1.Puzzle.Clues.map (Qh true)).length)),(T.os 1 7 0 ((a1.Puzzle.Seals.map (Qc true)).length)),(tI a1.Puzzle.Salt),(tS a1.Fill),(tI a1.Open),(tI a1.Close)]) (tv (T.op 8 0) Y) Y Jj YZ (lb Y) Y) (cO (OC.callF (us:= [(rd 4 Qa a0),(T.agg (Qe false a1))]) (r':=(T.os 1 9 0 (((((Qm a1 a0).filter (QG a1)).map Zm).map (Qc true)).length))) (objs:= [(Obj.rows 1 ((((Qm a1 a0).filter (QG a1)).map Zm).map (Qc true)))]) Y (vc (tv (T.os 4 5 0 ((a0.map (Qa true)).length)) Y) (vc (tv (T.agg [(tI a1.Number),(tI a1.Puzzle.Grid.Rows),(tI a1.Puzzle.Grid.Cols),(tS a1.Puzzle.Grid.Cells),(T.os 2 6 0 ((a1.Puzzle.Clues.map (Qh true)).length)),(T.os 1 7 0 ((a1.Puzzle.Seals.map (Qc true)).length)),(tI a1.Puzzle.Salt),(tS a1.Fill),(tI a1.Open),(tI a1.Close)]) Y) vn)) (LendL.cons (Lend.os Y Y (okeEntry.fzMap _ _)) (LendL.cons (Lend.agg (LendL.cons (Lend.pl Y) (LendL.cons (Lend.pl Y) (LendL.cons (Lend.pl Y) (LendL.cons (Lend.pl Y) (LendL.cons (Lend.os Y Y (okeClue.fzMap _ _)) (LendL.cons (Lend.os Y Y (okInt.fzMap _ _)) (LendL.cons (Lend.pl Y) (LendL.cons (Lend.pl Y) (LendL.cons (Lend.pl Y) (LendL.cons (Lend.pl Y) ln))))))))))) ln)) (Qbf (n+0) a0 a1 (by assumption) (by omega)) Y) (aO (T.os 1 9 0 (((((Qm a1 a0).filter (QG a1)).map Zm).map (Qc true)).length)) Y (nt (sq (sr (mO (T.os 1 9 0 (((((Qm a1 a0).filter (QG a1)).map Zm).map (Qc true)).length)) Y (mO (T.os 1 4 0 (((((Qm a1 a0).filter (QG a1)).map Zm).map (Qc true)).length)) Y (cO (cS (us:= [(rd 1 Qc (((Qm a1 a0).filter (QG a1)).map Zm)),(rd 1 Qc (((Qm a1 a0).filter (QG a1)).map Zm))]) (vc (tv (T.os 1 9 0 (((((Qm a1 a0).filter (QG a1)).map Zm).map (Qc true)).length)) Y) (vc (tv (T.os 1 4 0 (((((Qm a1 a0).filter (QG a1)).map Zm).map (Qc true)).length)) Y) vn)) (LendL.cons (Lend.os Y Y (okInt.fzMap _ _)) (LendL.cons (Lend.os Y Y (okInt.fzMap _ _)) ln)) (JB (n+71) (((Qm a1 a0).filter (QG a1)).map Zm) (((Qm a1 a0).filter (QG a1)).map Zm) (by omega) (by omega)) Y Y) (fO (Zd (tv (tB (decide ((((Qm a1 a0).filter (QG a1)).map Zm)=(((Qm a1 a0).filter (QG a1)).map Zm)))) Y)) (nt ?_)))))))))))
 refine cn ((((Qm a1 a0).filter (QG a1)).map Zm)=(((Qm a1 a0).filter (QG a1)).map Zm)) Y (fun fhc2=> ?_) fun fhc2=> ?_
 ·refine sr ?_
  refine fO (OF.assign (VEv.bool false)) (nt (rt (tr (vb (b':=false) Y ?_))))
  (exfalso;simp only [ZN,not_true_eq_false] at *;done)
 skip
 refine sk (tn (sq (sr (mO (T.os 4 5 0 ((a0.map (Qa true)).length)) Y (mO (rd 4 Qa a0) Y (cO (OC.callF (r':=(T.os 4 10 0 ((a0.map (Qa true)).length))) (objs:= [(Obj.rows 4 (a0.map (Qa true)))]) Y (vc (tv (rd 4 Qa a0) Y) vn) (Z8 Y) (YY (n+70) a0 (by omega)) Y) (cO (cS (us:= [(rd 4 Qa a0),(rd 4 Qa a0)]) (vc (tv (T.os 4 5 0 ((a0.map (Qa true)).length)) Y) (vc (tv (T.os 4 10 0 ((a0.map (Qa true)).length)) Y) vn)) (LendL.cons (Lend.os Y Y (okeEntry.fzMap _ _)) (LendL.cons (Lend.os Y Y (okeEntry.fzMap _ _)) ln)) (QeI (n+70) a0 a0 (by omega) (by omega)) Y Y) (fO (Zd (tv (tB (decide (a0=a0))) Y)) (nt ?_)))))))))
 refine cn (a0=a0) Y (fun fhc3=> ?_) fun fhc3=> ?_
 ·refine sr ?_
  refine fO (OF.assign (VEv.bool false)) (nt (rt (tr (vb (b':=false) Y ?_))))
  (exfalso;simp only [ZN,not_true_eq_false] at *;done)
 skip
 refine sk (tn (sq (sq (VRun.draw (B:= [[],[],[1],[1,2,0],[0,2,1,3]]) (by kernel_rfl) (by kernel_rfl) Y (lD (OL.loadOn (us:= [(tI a1.Number),(tI a1.Puzzle.Grid.Rows),(tI a1.Puzzle.Grid.Cols),(tS a1.Puzzle.Grid.Cells),(T.os 2 6 0 ((a1.Puzzle.Clues.map (Qh true)).length)),(T.os 1 7 0 ((a1.Puzzle.Seals.map (Qc true)).length)),(tI a1.Puzzle.Salt),(tS a1.Fill),(tI a1.Open),(tI a1.Close)]) (tv (T.op 8 0) Y) Y Jj YZ (lb Y) Y) Y Y (lD (OL.loadOn (us:=(Qe false a1)) (tv (T.op 0 0) Y) Y Qle QlN (lb Y) Y) Y Y (VRunD.quiet (bi:= [1]) Y VWant.always Y Y Y bn (OC.callF (r':=(T.agg [(tI a1.Number),(tI a1.Puzzle.Grid.Rows),(tI a1.Puzzle.Grid.Cols),(tS a1.Puzzle.Grid.Cells),(T.os 2 11 0 ((a1.Puzzle.Clues.map (Qh true)).length)),(T.os 1 12 0 ((a1.Puzzle.Seals.map (Qc true)).length)),(tI a1.Puzzle.Salt),(tS a1.Fill),(tI a1.Open),(tI a1.Close)])) (objs:= [(Obj.rows 2 (a1.Puzzle.Clues.map (Qh true))),(Obj.rows 1 (a1.Puzzle.Seals.map (Qc true)))]) Y (vc (tv (T.agg (Qe false a1)) Y) vn) (LendL.cons (lg Q1) ln) (Je (n+66) a1 (by omega)) Y) (VRunD.quiet (bi:= [1,2,0]) Y VWant.always Y Y Y bn (cS (us:= [(T.agg (Qe false a1)),(T.agg (Qe false a1))]) (vc (tv (T.agg [(tI a1.Number),(tI a1.Puzzle.Grid.Rows),(tI a1.Puzzle.Grid.Cols),(tS a1.Puzzle.Grid.Cells),(T.os 2 6 0 ((a1.Puzzle.Clues.map (Qh true)).length)),(T.os 1 7 0 ((a1.Puzzle.Seals.map (Qc true)).length)),(tI a1.Puzzle.Salt),(tS a1.Fill),(tI a1.Open),(tI a1.Close)]) Y) (vc (tv (T.agg [(tI a1.Number),(tI a1.Puzzle.Grid.Rows),(tI a1.Puzzle.Grid.Cols),(tS a1.Puzzle.Grid.Cells),(T.os 2 11 0 ((a1.Puzzle.Clues.map (Qh true)).length)),(T.os 1 12 0 ((a1.Puzzle.Seals.map (Qc true)).length)),(tI a1.Puzzle.Salt),(tS a1.Fill),(tI a1.Open),(tI a1.Close)]) Y) vn)) (LendL.cons (Lend.agg (LendL.cons (Lend.pl Y) (LendL.cons (Lend.pl Y) (LendL.cons (Lend.pl Y) (LendL.cons (Lend.pl Y) (LendL.cons (Lend.os Y Y (okeClue.fzMap _ _)) (LendL.cons (Lend.os Y Y (okInt.fzMap _ _)) (LendL.cons (Lend.pl Y) (LendL.cons (Lend.pl Y) (LendL.cons (Lend.pl Y) (LendL.cons (Lend.pl Y) ln))))))))))) (LendL.cons (Lend.agg (LendL.cons (Lend.pl Y) (LendL.cons (Lend.pl Y) (LendL.cons (Lend.pl Y) (LendL.cons (Lend.pl Y) (LendL.cons (Lend.os Y Y (okeClue.fzMap _ _)) (LendL.cons (Lend.os Y Y (okInt.fzMap _ _)) (LendL.cons (Lend.pl Y) (LendL.cons (Lend.pl Y) (LendL.cons (Lend.pl Y) (LendL.cons (Lend.pl Y) ln))))))))))) ln)) (QfG (n+66) a1 a1 (by omega) (by omega)) Y Y) (fD (Zd (tv (tB (decide (a1=a1))) Y)) Y Y (VRunD.nil (tn ?_)))))))))))
 refine cn (a1=a1) Y (fun fhc4=> ?_) fun fhc4=> ?_
 ·refine sr ?_
  refine fO (OF.assign (VEv.bool false)) (nt (rt (tr (vb (b':=false) Y ?_))))
  (exfalso;simp only [ZN,not_true_eq_false] at *;done)
 skip
 refine sk (tn (sr (fO (OF.assign (VEv.int .i64 1)) (nt (sr (mO (T.os 4 5 0 ((a0.map (Qa true)).length)) Y (mO (tN 1) Y (cO (OC.callMut (rows:=(a0.map (Qa true))) (rows':=((JZ Zt 4 1 a0.length).map (Qa true))) Y (vc (tv (T.os 4 5 0 ((a0.map (Qa true)).length)) Y) (vc (tv (tN 1) Y) vn)) Y Y (bc Y bn) (QL (fun _=>rfl) _) (QL (fun _=>rfl) _) (QcZ (n+70) a0 1 (by omega))) (aO (tN (1+4*a0.length)) Y (nt (sr ?_)))))))))))
 refine lO (OL.loadOn (us:= [(tI a1.Number),(tI a1.Puzzle.Grid.Rows),(tI a1.Puzzle.Grid.Cols),(tS a1.Puzzle.Grid.Cells),(T.os 2 6 0 ((a1.Puzzle.Clues.map (Qh true)).length)),(T.os 1 7 0 ((a1.Puzzle.Seals.map (Qc true)).length)),(tI a1.Puzzle.Salt),(tS a1.Fill),(tI a1.Open),(tI a1.Close)]) (tv (T.op 8 0) Y) Y Jj YZ (lb Y) Y) (mO (tN (1+4*a0.length)) Y (cO (OC.callL (ts:= [(T.agg [(tI a1.Number),(tI a1.Puzzle.Grid.Rows),(tI a1.Puzzle.Grid.Cols),(tS a1.Puzzle.Grid.Cells),(T.os 2 0 0 ((a1.Puzzle.Clues.map (Qh true)).length)),(T.os 1 1 0 ((a1.Puzzle.Seals.map (Qc true)).length)),(tI a1.Puzzle.Salt),(tS a1.Fill),(tI a1.Open),(tI a1.Close)]),(tN (1+4*a0.length))]) [6,7] (r:=(tN (QJ (1+4*a0.length) a1.Puzzle.Clues+1*a1.Puzzle.Seals.length))) (L:= [(2,(a1.Puzzle.Clues.map (Qh true))),(1,(a1.Puzzle.Seals.map (Qc true)))]) [(2,((Yq (1+4*a0.length) a1.Puzzle.Clues).map (Qh true))),(1,((JZ ZO 1 (QJ (1+4*a0.length) a1.Puzzle.Clues) a1.Puzzle.Seals.length).map (Qc true)))] [(Obj.rows 2 (a1.Puzzle.Clues.map (Qh true))),(Obj.rows 1 (a1.Puzzle.Seals.map (Qc true)))] rfl (vc (tv (T.agg [(tI a1.Number),(tI a1.Puzzle.Grid.Rows),(tI a1.Puzzle.Grid.Cols),(tS a1.Puzzle.Grid.Cells),(T.os 2 6 0 ((a1.Puzzle.Clues.map (Qh true)).length)),(T.os 1 7 0 ((a1.Puzzle.Seals.map (Qc true)).length)),(tI a1.Puzzle.Salt),(tS a1.Fill),(tI a1.Open),(tI a1.Close)]) Y) (vc (tv (tN (1+4*a0.length)) Y) vn)) (by decide) Y (And.intro (And.intro Y Y) (And.intro (And.intro Y Y) (trivial))) (bc (okeClue.cleanMap _) (bc (okInt.cleanMap _) bn)) (bc (okeClue.cleanMap _) (bc (okInt.cleanMap _) bn)) Y Y (.int _ _) (Qdx (n+67) a1 (1+4*a0.length) (by omega))) (aO (tN (QJ (1+4*a0.length) a1.Puzzle.Clues+1*a1.Puzzle.Seals.length)) Y (nt (sq (sr (mO (tN (QJ (1+4*a0.length) a1.Puzzle.Clues+1*a1.Puzzle.Seals.length)) Y (fO (B.lss (c:=(decide (QJ (1+4*a0.length) a1.Puzzle.Clues+1*a1.Puzzle.Seals.length<0))) (tv (tN (QJ (1+4*a0.length) a1.Puzzle.Clues+1*a1.Puzzle.Seals.length)) Y) (VEv.int .i64 0) (by exact Q8 (by omega))) (mO (tB (decide (QJ (1+4*a0.length) a1.Puzzle.Clues+1*a1.Puzzle.Seals.length<0))) Y ?_)))))))))
 refine gw (QJ (1+4*a0.length) a1.Puzzle.Clues+1*a1.Puzzle.Seals.length<0) (fun fhg58_1=> ?_) fun fhg58_1=> ?_
 ·refine QE 4 2 false 58 (dy fhg58_1) Y Y Y ?_
  refine fO (OF.pickT (VEv.tmpB Y (dy fhg58_1)) (VEv.bool true)) (nt (ct Y (sr (fO (OF.assign (VEv.bool false)) (nt (rt (tr (vb (b':=false) Y ?_))))))))
  (exfalso;simp only [ZN] at* <;>omega)
 refine gF (dz fhg58_1) Y Y (OF.move (tv (T.os 1 9 0 (((((Qm a1 a0).filter (QG a1)).map Zm).map (Qc true)).length)) Y)) (gF (dz fhg58_1) Y Y (OF.move (tv (T.os 1 4 0 (((((Qm a1 a0).filter (QG a1)).map Zm).map (Qc true)).length)) Y)) (VRunO.chain (VWant.on Y Y (dz fhg58_1)) (cS (us:= [(rd 1 Qc (((Qm a1 a0).filter (QG a1)).map Zm)),(rd 1 Qc (((Qm a1 a0).filter (QG a1)).map Zm))]) (vc (tv (T.os 1 9 0 (((((Qm a1 a0).filter (QG a1)).map Zm).map (Qc true)).length)) Y) (vc (tv (T.os 1 4 0 (((((Qm a1 a0).filter (QG a1)).map Zm).map (Qc true)).length)) Y) vn)) (LendL.cons (Lend.os Y Y (okInt.fzMap _ _)) (LendL.cons (Lend.os Y Y (okInt.fzMap _ _)) ln)) (JB (n+71) (((Qm a1 a0).filter (QG a1)).map Zm) (((Qm a1 a0).filter (QG a1)).map Zm) (by omega) (by omega)) Y Y) (gF (dz fhg58_1) Y Y (Zd (tv (tB (decide ((((Qm a1 a0).filter (QG a1)).map Zm)=(((Qm a1 a0).filter (QG a1)).map Zm)))) Y)) (fO (OF.pickF (VEv.tmpB Y (dz fhg58_1)) (tv (tB (!(decide ((((Qm a1 a0).filter (QG a1)).map Zm)=(((Qm a1 a0).filter (QG a1)).map Zm))))) Y)) (nt (cg (nz fhc2) Y (sk (tn (sr (fO (OF.assign (VEv.int .i64 1)) (nt ?_)))))))))))
 refine sr (mO (T.os 1 9 0 (((((Qm a1 a0).filter (QG a1)).map Zm).map (Qc true)).length)) Y (mO (tN 1) Y (cO (OC.callMut (rows:=((((Qm a1 a0).filter (QG a1)).map Zm).map (Qc true))) (rows':=((JZ ZO 1 1 (((Qm a1 a0).filter (QG a1)).map Zm).length).map (Qc true))) Y (vc (tv (T.os 1 9 0 (((((Qm a1 a0).filter (QG a1)).map Zm).map (Qc true)).length)) Y) (vc (tv (tN 1) Y) vn)) Y Y (bc Y bn) (QL (fun _=>rfl) _) (QL (fun _=>rfl) _) (QbD (n+71) (((Qm a1 a0).filter (QG a1)).map Zm) 1 (by omega))) (aO (tN (1+1*(((Qm a1 a0).filter (QG a1)).map Zm).length)) Y (nt (sr (fO (OF.assign (VEv.int .i64 1)) (nt (sr (mO (T.os 1 9 0 (((((Qm a1 a0).filter (QG a1)).map Zm).map (Qc true)).length)) Y (mO (tN 1) Y ?_)))))))))))
 refine cO (cS (us:= [(rd 1 Qc (JZ ZO 1 1 (((Qm a1 a0).filter (QG a1)).map Zm).length)),(tN 1)]) (vc (tv (T.os 1 9 0 (((((Qm a1 a0).filter (QG a1)).map Zm).map (Qc true)).length)) Y) (vc (tv (tN 1) Y) vn)) (LendL.cons (Lend.os Y (by simp only [List.length_map,Ji,List.length_set,Qea]) (okInt.fzMap _ _)) (lp Y ln)) (QbA (n+71) (JZ ZO 1 1 (((Qm a1 a0).filter (QG a1)).map Zm).length) 1 (by (simp only [ZN,Ji];done)) (by (simp only [ZN,Ji];omega))) Y Y) (aO (tN (1+1*(JZ ZO 1 1 (((Qm a1 a0).filter (QG a1)).map Zm).length).length)) Y (nt (sq (sr (mO (tN (1+1*(JZ ZO 1 1 (((Qm a1 a0).filter (QG a1)).map Zm).length).length)) Y (fO (B.lss (c:=(decide (1+1*(JZ ZO 1 1 (((Qm a1 a0).filter (QG a1)).map Zm).length).length<0))) (tv (tN (1+1*(JZ ZO 1 1 (((Qm a1 a0).filter (QG a1)).map Zm).length).length)) Y) (VEv.int .i64 0) (by exact Q8 (by omega))) (nt ?_)))))))
 refine cd (1+1*(JZ ZO 1 1 (((Qm a1 a0).filter (QG a1)).map Zm).length).length<0) Y (fun fhc6=> ?_) fun fhc6=> ?_
 ·refine sr ?_
  refine fO (OF.assign (VEv.bool false)) (nt (rt (tr (vb (b':=false) Y ?_))))
  (exfalso;simp only [ZN] at* <;>omega)
 skip
 refine sk (tn (sq (sr (mO (tN (1+1*(JZ ZO 1 1 (((Qm a1 a0).filter (QG a1)).map Zm).length).length)) Y (mO (tN (1+1*(((Qm a1 a0).filter (QG a1)).map Zm).length)) Y (fO (QeX (tv (tN (1+1*(JZ ZO 1 1 (((Qm a1 a0).filter (QG a1)).map Zm).length).length)) Y) (tv (tN (1+1*(((Qm a1 a0).filter (QG a1)).map Zm).length)) Y)) (nt ?_)))))))
 refine cn (1+1*(JZ ZO 1 1 (((Qm a1 a0).filter (QG a1)).map Zm).length).length=1+1*(((Qm a1 a0).filter (QG a1)).map Zm).length) Y (fun fhc7=> ?_) fun fhc7=> ?_
 ·refine sr ?_
  refine fO (OF.assign (VEv.bool false)) (nt (rt (tr (vb (b':=false) Y ?_))))
  (exfalso;simp only [ZN,Ji,not_true_eq_false] at *;done)
 skip
 refine sk (tn (sq (VRun.draw (B:= [[],[0],[],[0,1,2],[2,3,0,1],[1,0,3,2,4]]) (by kernel_rfl) (by kernel_rfl) Y (mD (rd 4 Qa a0) Y Y (VRunD.quiet (bi:= [0]) Y VWant.always Y Y Y bn (OC.callF (r':=(T.os 4 13 0 ((a0.map (Qa true)).length))) (objs:= [(Obj.rows 4 (a0.map (Qa true)))]) Y (vc (tv (rd 4 Qa a0) Y) vn) (Z8 Y) (YY (n+70) a0 (by omega)) Y) (lD (OL.loadOn (us:=(Qe false a1)) (tv (T.op 0 0) Y) Y Qle QlN (lb Y) Y) Y Y (VRunD.quiet (bi:= [0,1,2]) Y VWant.always Y Y Y bn (OC.callF (r':=(T.agg [(tI a1.Number),(tI a1.Puzzle.Grid.Rows),(tI a1.Puzzle.Grid.Cols),(tS a1.Puzzle.Grid.Cells),(T.os 2 14 0 ((a1.Puzzle.Clues.map (Qh true)).length)),(T.os 1 15 0 ((a1.Puzzle.Seals.map (Qc true)).length)),(tI a1.Puzzle.Salt),(tS a1.Fill),(tI a1.Open),(tI a1.Close)])) (objs:= [(Obj.rows 2 (a1.Puzzle.Clues.map (Qh true))),(Obj.rows 1 (a1.Puzzle.Seals.map (Qc true)))]) Y (vc (tv (T.agg (Qe false a1)) Y) vn) (LendL.cons (lg Q1) ln) (Je (n+66) a1 (by omega)) Y) (VRunD.quiet (bi:= [2,3,0,1]) Y VWant.always Y Y Y bn (OC.callF (us:= [(rd 4 Qa a0),(T.agg (Qe false a1))]) (r':=(T.os 1 16 0 (((((Qm a1 a0).filter (QG a1)).map Zm).map (Qc true)).length))) (objs:= [(Obj.rows 1 ((((Qm a1 a0).filter (QG a1)).map Zm).map (Qc true)))]) Y (vc (tv (T.os 4 13 0 ((a0.map (Qa true)).length)) Y) (vc (tv (T.agg [(tI a1.Number),(tI a1.Puzzle.Grid.Rows),(tI a1.Puzzle.Grid.Cols),(tS a1.Puzzle.Grid.Cells),(T.os 2 14 0 ((a1.Puzzle.Clues.map (Qh true)).length)),(T.os 1 15 0 ((a1.Puzzle.Seals.map (Qc true)).length)),(tI a1.Puzzle.Salt),(tS a1.Fill),(tI a1.Open),(tI a1.Close)]) Y) vn)) (LendL.cons (Lend.os Y Y (okeEntry.fzMap _ _)) (LendL.cons (Lend.agg (LendL.cons (Lend.pl Y) (LendL.cons (Lend.pl Y) (LendL.cons (Lend.pl Y) (LendL.cons (Lend.pl Y) (LendL.cons (Lend.os Y Y (okeClue.fzMap _ _)) (LendL.cons (Lend.os Y Y (okInt.fzMap _ _)) (LendL.cons (Lend.pl Y) (LendL.cons (Lend.pl Y) (LendL.cons (Lend.pl Y) (LendL.cons (Lend.pl Y) ln))))))))))) ln)) (Qbf (n+0) a0 a1 (by assumption) (by omega)) Y) (fD (OF.assign (tv (T.os 1 16 0 (((((Qm a1 a0).filter (QG a1)).map Zm).map (Qc true)).length)) Y)) Y Y (VRunD.nil (tn ?_)))))))))))
 refine sq (sr (mO (T.os 1 16 0 (((((Qm a1 a0).filter (QG a1)).map Zm).map (Qc true)).length)) Y (mO (T.os 1 4 0 (((((Qm a1 a0).filter (QG a1)).map Zm).map (Qc true)).length)) Y (cO (cS (us:= [(rd 1 Qc (((Qm a1 a0).filter (QG a1)).map Zm)),(rd 1 Qc (((Qm a1 a0).filter (QG a1)).map Zm))]) (vc (tv (T.os 1 16 0 (((((Qm a1 a0).filter (QG a1)).map Zm).map (Qc true)).length)) Y) (vc (tv (T.os 1 4 0 (((((Qm a1 a0).filter (QG a1)).map Zm).map (Qc true)).length)) Y) vn)) (LendL.cons (Lend.os Y Y (okInt.fzMap _ _)) (LendL.cons (Lend.os Y Y (okInt.fzMap _ _)) ln)) (JB (n+71) (((Qm a1 a0).filter (QG a1)).map Zm) (((Qm a1 a0).filter (QG a1)).map Zm) (by omega) (by omega)) Y Y) (fO (Zd (tv (tB (decide ((((Qm a1 a0).filter (QG a1)).map Zm)=(((Qm a1 a0).filter (QG a1)).map Zm)))) Y)) (nt (cg (nz fhc2) Y (sk (tn (sr (fO (OF.assign (VEv.int .i64 1)) ?_)))))))))))
 refine nt (sr (mO (T.os 1 9 0 (((((Qm a1 a0).filter (QG a1)).map Zm).map (Qc true)).length)) Y (mO (tN 1) Y (cO (cS (us:= [(rd 1 Qc (JZ ZO 1 1 (((Qm a1 a0).filter (QG a1)).map Zm).length)),(tN 1)]) (vc (tv (T.os 1 9 0 (((((Qm a1 a0).filter (QG a1)).map Zm).map (Qc true)).length)) Y) (vc (tv (tN 1) Y) vn)) (LendL.cons (Lend.os Y (by simp only [List.length_map,Ji,List.length_set,Qea]) (okInt.fzMap _ _)) (lp Y ln)) (QbA (n+71) (JZ ZO 1 1 (((Qm a1 a0).filter (QG a1)).map Zm).length) 1 (by (simp only [ZN,Ji];done)) (by (simp only [ZN,Ji];omega))) Y Y) (aO (tN (1+1*(JZ ZO 1 1 (((Qm a1 a0).filter (QG a1)).map Zm).length).length)) Y (nt (sq (sr (mO (tN (1+1*(JZ ZO 1 1 (((Qm a1 a0).filter (QG a1)).map Zm).length).length)) Y (fO (B.lss (c:=(decide (1+1*(JZ ZO 1 1 (((Qm a1 a0).filter (QG a1)).map Zm).length).length<0))) (tv (tN (1+1*(JZ ZO 1 1 (((Qm a1 a0).filter (QG a1)).map Zm).length).length)) Y) (VEv.int .i64 0) (by exact Q8 (by omega))) (nt ?_)))))))))))
 refine cg (dz fhc6) Y (sk (tn (sq (sr (mO (tN (1+1*(JZ ZO 1 1 (((Qm a1 a0).filter (QG a1)).map Zm).length).length)) Y (mO (tN (1+1*(((Qm a1 a0).filter (QG a1)).map Zm).length)) Y (fO (QeX (tv (tN (1+1*(JZ ZO 1 1 (((Qm a1 a0).filter (QG a1)).map Zm).length).length)) Y) (tv (tN (1+1*(((Qm a1 a0).filter (QG a1)).map Zm).length)) Y)) (nt (cg (nz fhc7) Y (sk (tn ?_)))))))))))
 refine sr (fO (OF.assign (VEv.bool true)) (nt (rt ?_)))
 exact vb Y Y
theorem Qjg (a:Option Addr) (n c:Nat):(Qfo (.slice a n c)).cells.toList= [Qfo (.slice a n c)]:=by cases a<;>rfl
theorem Qm2 {α:Type} {d:AK α} {e:Bool→α→List T} {x:α} {t:T} {h:AH} {v:Value} (hk:RK d e) (he:e false x= [t]) (hr:d.R h x [v]):R h t v:=by
 have h1:=hk h x _ hr
 rw [he] at h1
 exact h1.tail.1
theorem QlA {α:Type} {d:AK α} {e:Bool→α→List T} {x:α} {t:T} {h:AH} {a:Option Addr} {n c:Nat} (hk:RK d e) (he:e false x= [t]) (hr:d.R h x (Qfo (.slice a n c)).cells.toList):R h t (Qfo (.slice a n c)):=by
 rw [Qjg] at hr
 exact Qm2 hk he hr
theorem Qnk {α:Type} {d:AK α} {e:Bool→α→List T} {x:α} {h:AH} {cs:Array Value} (hk:RK d e) (hr:d.R h x (Qfo (.agg cs)).cells.toList):R h (.agg (e false x)) (Qfo (.agg cs)):=by
 have h1:=hk h x _ hr
 refine .agg _ _ (by simpa [Value.cells,Qfo] using h1.1) (fun i hi=> ?_)
 have:=h1.2 i hi
 simpa [Value.cells,Qfo,Array.getD_eq_getD_getElem?,List.getD_eq_getElem?_getD] using this
theorem Pure.bool {call:QO} {f:FuncId} {ts:List T} {b:Bool} (hp:Pure call f ts (.bool b)) {h:AH} {vs:List Value} (hfr:Fr 1 h) (hr:RL h ts vs):CallS call f vs h 1 (fun v _=>v= .bool b):=by
 refine (hp h 1 vs hfr hr).mono ?_
 rintro v h' ⟨_,N,hs,_⟩
 cases hs with
 | fz hr=>cases hr;rfl
open Go
theorem Qnn : QiI Tryz.prog:=fun f h=>by cases h
end Go.Proofs.YtoaigcojlmoijaaGreat.AE
