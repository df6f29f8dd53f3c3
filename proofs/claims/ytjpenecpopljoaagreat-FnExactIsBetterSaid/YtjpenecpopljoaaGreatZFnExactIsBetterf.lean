/- A part of what the row of FnExactIsBetter uses. Conditions: as each theorem states. -/
import Derived.Test.YtjpenecpopljoaaGreatZFnExactIsBettere
namespace Go.Proofs.YtjpenecpopljoaaGreat.AE
open Go Go.RowKit
set_option linter.unusedVariables false
set_option linter.unusedSimpArgs false
set_option maxRecDepth 20000
set_option maxHeartbeats 2000000
noncomputable section
def Qbe (x:Int):List Int→List Int
 | []=> [x]
 | y::s=>if x<y then x::y::s else y::Qbe x s
def QK (l:List Int):List Int:=l.foldl (fun s x=>Qbe x s) []
theorem QiR (x:Int):∀s:List Int,(Qbe x s).length=s.length+1
 | []=>rfl
 | y::s=>by
  unfold Qbe
  split
  ·rfl
  ·rw [List.length_cons,QiR x s,List.length_cons]
theorem insI_mem {x z:Int}:∀ {s:List Int},z∈Qbe x s↔z=x∨z∈s
 | []=>by simp [Qbe]
 | y::s=>by
  have ih:=insI_mem (x:=x) (z:=z) (s:=s)
  unfold Qbe
  split
  ·simp
  ·rw [List.mem_cons,ih,List.mem_cons]
   constructor
   ·rintro (h | h | h)
    ·exact .inr (.inl h)
    ·exact .inl h
    ·exact .inr (.inr h)
   ·rintro (h | h | h)
    ·exact .inr (.inl h)
    ·exact .inl h
    ·exact .inr (.inr h)
theorem Qi9 {x:Int}:∀ {s:List Int},s.Pairwise (· ≤ ·)→(Qbe x s).Pairwise (· ≤ ·)
 | [],_=>List.pairwise_singleton _ _
 | y::s,h=>by
  have h1:=List.pairwise_cons.1 h
  unfold Qbe
  split
  ·refine List.pairwise_cons.2 ⟨fun z hz=> ?_,h⟩
   rcases List.mem_cons.1 hz with rfl | hz
   ·omega
   ·have:=h1.1 z hz
    omega
  ·refine List.pairwise_cons.2 ⟨fun z hz=> ?_,Qi9 h1.2⟩
   rcases insI_mem.1 hz with rfl | hz
   ·omega
   ·exact h1.1 z hz
theorem Qhb (x:Int):∀s:List Int,(Qbe x s).Perm (x::s)
 | []=>List.Perm.refl _
 | y::s=>by
  unfold Qbe
  split
  ·exact List.Perm.refl _
  ·exact ((Qhb x s).cons y).trans (List.Perm.swap x y s)
theorem Qjg : ∀(l s:List Int),s.Pairwise (· ≤ ·)→(l.foldl (fun s x=>Qbe x s) s).Pairwise (· ≤ ·)
 | [],_,h=>h
 | x::l,s,h=>Qjg l (Qbe x s) (Qi9 h)
theorem Qhr : ∀(l s:List Int),(l.foldl (fun s x=>Qbe x s) s).Perm (l++s)
 | [],_=>List.Perm.refl _
 | x::l,s=>(Qhr l (Qbe x s)).trans ((List.Perm.append_left l (Qhb x s)).trans List.perm_middle)
theorem Qkr : ∀(l s:List Int),(l.foldl (fun s x=>Qbe x s) s).length=l.length+s.length
 | [],s=>by simp
 | x::l,s=>by
  rw [List.foldl_cons,Qkr l,QiR,List.length_cons]
  omega
theorem QfJ (l:List Int):(QK l).Pairwise (· ≤ ·):=Qjg l [] List.Pairwise.nil
theorem Qja (l:List Int):(QK l).Perm l:=by
 have:=Qhr l []
 rwa [List.append_nil] at this
theorem Y0 (l:List Int):(QK l).length=l.length:=by
 have:=Qkr l []
 exact this
theorem Qji {a:List Int} {i:Nat} {x:Int} (h:a[i]? =some x):QK (a.take (i+1))=Qbe x (QK (a.take i)):=by
 unfold QK
 rw [List.take_add_one,h,List.foldl_append]
 rfl
theorem Qf9 {x:Int}:∀ {s:List Int} {j:Nat},s.Pairwise (· ≤ ·)→(∀y∈s.drop j,x<y)→(∀y,1≤j→s[j - 1]? =some y→¬x<y)→j≤s.length→s.take j++x::s.drop j=Qbe x s
 | [],j,_,_,_,hj=>by
  obtain rfl:j=0:=Nat.le_zero.1 hj
  rfl
 | y::s,0,_,h2,_,_=>by
  unfold Qbe
  rw [if_pos (h2 y (by simp))]
  rfl
 | y::s,j+1,h1,h2,h3,hj=>by
  have h4:=List.pairwise_cons.1 h1
  have hy:¬x<y:=by
   have hj2:j<(y::s).length:=by simp only [List.length_cons] at *;omega
   have h5:=h3 _ (by omega) (List.getElem?_eq_getElem (l:=y::s) (i:=j) hj2)
   rcases Nat.eq_zero_or_pos j with rfl | hp
   ·exact h5
   ·have h6:(y::s)[j]∈s:=by
     obtain ⟨k,rfl⟩:∃k,j=k+1:=⟨j - 1,by omega⟩
     rw [List.getElem_cons_succ]
     exact List.getElem_mem _
    have:=h4.1 _ h6
    omega
  unfold Qbe
  rw [if_neg hy]
  show y::(s.take j++x::s.drop j)=_
  rw [Qf9 h4.2 h2 (fun z hz hs=> ?_) (by simpa using hj)]
  obtain ⟨k,rfl⟩:∃k,j=k+1:=⟨j - 1,by omega⟩
  exact h3 z (by omega) hs
def ZH (a:List Int) (i j:Nat):List Int:=((QK (a.take i)).take j++a.getD i 0::(QK (a.take i)).drop j)++a.drop (i+1)
theorem Qcd {a:List Int} {i:Nat} (h:i<a.length):(QK (a.take i)).length=i:=by rw [Y0,List.length_take];omega
theorem Qiv {a:List Int} {i j:Nat} (h:i<a.length) (hj:j≤i):(ZH a i j).length=a.length:=by
 have:=Qcd h
 simp only [ZH,List.length_append,List.length_cons,List.length_take,List.length_drop]
 omega
theorem gD {a:List Int} {i:Nat} (h:i<a.length):a[i]? =some (a.getD i 0):=by
 rw [List.getD_eq_getElem?_getD,List.getElem?_eq_getElem h]
 rfl
theorem Qn0 {a:List Int} {i j:Nat} (h:i<a.length) (hj:j≤i):(ZH a i j)[j]? =some (a.getD i 0):=by
 have hl:=Qcd h
 have ht:((QK (a.take i)).take j).length=j:=by rw [List.length_take];omega
 unfold ZH
 rw [List.append_assoc,List.getElem?_append_right (by omega),ht,Nat.sub_self]
 rfl
theorem Qot {a:List Int} {i j:Nat} (h:i<a.length) (hj:j+1≤i):(ZH a i (j+1))[j]? =(QK (a.take i))[j]? :=by
 have hl:=Qcd h
 unfold ZH
 rw [List.append_assoc,List.getElem?_append_left (by rw [List.length_take];omega),List.getElem?_take,if_pos (by omega)]
theorem Qnc {α:Type} {p q:List α} {y x:α} {n:Nat} (h:p.length=n):((p++y::x::q).set (n+1) y).set n x=p++x::y::q:=by
 subst h
 rw [List.set_append_right _ _ (by omega),List.set_append_right _ _ (by omega)]
 simp
theorem QkU {a:List Int} {i j:Nat} {y:Int} (h:i<a.length) (hj:j+1≤i) (hy:(QK (a.take i))[j]? =some y):((ZH a i (j+1)).set (j+1) y).set j (a.getD i 0)=ZH a i j:=by
 have hl:=Qcd h
 have e1:(QK (a.take i)).take (j+1)=(QK (a.take i)).take j++ [y]:=by rw [List.take_add_one,hy];rfl
 have e2:(QK (a.take i)).drop j=y::(QK (a.take i)).drop (j+1):=by
  have hj2:j<(QK (a.take i)).length:=by omega
  rw [List.drop_eq_getElem_cons hj2]
  rw [List.getElem?_eq_getElem hj2] at hy
  rw [Option.some.inj hy]
 unfold ZH
 rw [e1,e2]
 simp only [List.append_assoc,List.cons_append,List.nil_append]
 exact Qnc (by rw [List.length_take];omega)
theorem Qi3 {a:List Int} {i:Nat} (h:i<a.length):QK (a.take i)++a.drop i=ZH a i i:=by
 have hl:=Qcd h
 have e1:(QK (a.take i)).take i=QK (a.take i):=List.take_of_length_le (by omega)
 have e2:(QK (a.take i)).drop i= []:=List.drop_eq_nil_of_le (by omega)
 have e3:a.drop i=a.getD i 0::a.drop (i+1):=by
  have:=gD h
  rw [List.getElem?_eq_getElem h] at this
  rw [List.drop_eq_getElem_cons h,Option.some.inj this]
 unfold ZH
 rw [e1,e2,e3]
 simp
def QcF (a:List Int) (i j:Nat):Prop:=j≤i∧∀y∈(QK (a.take i)).drop j,a.getD i 0<y
theorem QkV {a:List Int} {i:Nat} (h:i<a.length):QcF a i i:=⟨Nat.le_refl _,fun y hy=>by
 have hl:=Qcd h
 rw [List.drop_eq_nil_of_le (by omega)] at hy
 exact absurd hy List.not_mem_nil⟩
theorem QjC {a:List Int} {i j:Nat} {y:Int} (h:i<a.length) (hk:QcF a i (j+1)) (hy:(QK (a.take i))[j]? =some y) (hx:a.getD i 0<y):QcF a i j:=by
 refine ⟨by have:=hk.1;omega,fun z hz=> ?_⟩
 have hj2:j<(QK (a.take i)).length:=by have:=hk.1;rw [Qcd h];omega
 rw [List.drop_eq_getElem_cons hj2] at hz
 rw [List.getElem?_eq_getElem hj2] at hy
 rw [Option.some.inj hy] at hz
 rcases List.mem_cons.1 hz with rfl | hz
 ·exact hx
 ·exact hk.2 z hz
theorem Qjk {a:List Int} {i j:Nat} (h:i<a.length) (hk:QcF a i j) (he:∀y,1≤j→(QK (a.take i))[j - 1]? =some y→¬a.getD i 0<y):ZH a i j=QK (a.take (i+1))++a.drop (i+1):=by
 have hl:=Qcd h
 unfold ZH
 rw [Qf9 (QfJ _) hk.2 he (by have:=hk.1;omega),Qji (gD h)]
theorem QlV {a:List Int} {i m:Nat} {x1 x2:Int} (h:i<a.length) (hm:m<i) (hx1:(ZH a i (i - m))[Int.toNat (((i:Nat):Int) - ((m:Nat):Int))]? =some x1) (hx2:(ZH a i (i - m))[Int.toNat (((i:Nat):Int) - ((m:Nat):Int) - 1)]? =some x2):x1=a.getD i 0∧(QK (a.take i))[i - (m+1)]? =some x2:=by
 rw [show Int.toNat (((i:Nat):Int) - ((m:Nat):Int))=i - m by omega,Qn0 h (Nat.sub_le i m)] at hx1
 rw [show Int.toNat (((i:Nat):Int) - ((m:Nat):Int) - 1)=i - (m+1) by omega,show i - m=i - (m+1)+1 by omega,Qot h (by omega)] at hx2
 exact ⟨(Option.some.inj hx1).symm,hx2⟩
theorem QlK {a:List Int} {i m:Nat} {x1 x2:Int} (h:i<a.length) (hm:m<i) (hx1:(ZH a i (i - m))[Int.toNat (((i:Nat):Int) - ((m:Nat):Int))]? =some x1) (hx2:(ZH a i (i - m))[Int.toNat (((i:Nat):Int) - ((m:Nat):Int) - 1)]? =some x2):((ZH a i (i - m)).set (Int.toNat (((i:Nat):Int) - ((m:Nat):Int))) x2).set (Int.toNat (((i:Nat):Int) - ((m:Nat):Int) - 1)) x1=ZH a i (i - (m+1)):=by
 obtain ⟨e1,e2⟩:=QlV h hm hx1 hx2
 rw [show Int.toNat (((i:Nat):Int) - ((m:Nat):Int))=i - (m+1)+1 by omega,show Int.toNat (((i:Nat):Int) - ((m:Nat):Int) - 1)=i - (m+1) by omega,show i - m=i - (m+1)+1 by omega,e1]
 exact QkU h (by omega) e2
theorem Qou {a:List Int} {i m:Nat} {x1 x2:Int} (h:i<a.length) (hm:m<i) (hx1:(ZH a i (i - m))[Int.toNat (((i:Nat):Int) - ((m:Nat):Int))]? =some x1) (hx2:(ZH a i (i - m))[Int.toNat (((i:Nat):Int) - ((m:Nat):Int) - 1)]? =some x2) (hl:x1<x2) (hk:QcF a i (i - m)):m+1≤i∧QcF a i (i - (m+1)):=by
 obtain ⟨e1,e2⟩:=QlV h hm hx1 hx2
 rw [show i - m=i - (m+1)+1 by omega] at hk
 exact ⟨by omega,QjC h hk e2 (by rw [← e1];exact hl)⟩
theorem QfG {a:List Int} {i m:Nat} {x1 x2:Int} (h:i<a.length) (hm:m<i) (hx1:(ZH a i (i - m))[Int.toNat (((i:Nat):Int) - ((m:Nat):Int))]? =some x1) (hx2:(ZH a i (i - m))[Int.toNat (((i:Nat):Int) - ((m:Nat):Int) - 1)]? =some x2) (hl:¬x1<x2) (hk:QcF a i (i - m)):ZH a i (i - m)=QK (a.take (i+1))++a.drop (i+1):=by
 obtain ⟨e1,e2⟩:=QlV h hm hx1 hx2
 refine Qjk h hk (fun y _ hy=> ?_)
 rw [show i - m - 1=i - (m+1) by omega,e2] at hy
 rw [← Option.some.inj hy,← e1]
 exact hl
theorem QfC {a:List Int} {i m:Nat} (h:i<a.length) (hm:¬m<i) (hk:QcF a i (i - m)):ZH a i (i - m)=QK (a.take (i+1))++a.drop (i+1):=Qjk h hk (fun y h1 _=>by omega)
theorem vmut.q {rt:Tmp} {sz k n:Nat} {rows rows':List (List T)} {E:Zh} {O:QM} {nx:Nat} (h2:gE E 0= .os sz k 0 n) (h3:gO O k=some (.rows sz rows)) (e2:rows=rows') (e3:n=rows.length):vmut rt none sz rows' .ret E O nx:=by
 subst e2
 subst e3
 unfold vmut
 exact ⟨fun n hn=>(by cases hn),k,h2,h3⟩
theorem Qew (a:List Int):a=QK (a.take 1)++a.drop 1:=by
 cases a with
 | nil=>rfl
 | cons x s=>rfl
end
theorem Qdy (n:Nat) (x:Int):Pure (Qo Tryz.prog (n+1)) 196 [(T.int .u8 x)] (tB false):=by
 refine Pure.intro (rs:= [ResultVar.tmp 2]) Tryz.func196 Y Y Y (E0:= [(0,(T.int .u8 x))]) Y ?_
 obtain ⟨hlim,hmx,hmax⟩:=Qz
 refine sr (fO (OF.assign (VEv.bool false)) (nt (sr (mO (T.int .u8 x) Y (mO (T.int .u8 x) Y (fO (xne (tv (T.int .u8 x) Y) (tv (T.int .u8 x) Y)) (aO (tB (!(decide (x=x)))) Y (nt (rt (vb (b':=(!(decide (x=x)))) Y ?_))))))))))
 first | rfl | simp
theorem Qd0 (n:Nat) (x:Int) (y:Int):Pure (Qo Tryz.prog (n+2)) 186 [(T.int .u8 x),(T.int .u8 y)] (tB (decide (x<y))):=by
 refine Pure.intro (rs:= [ResultVar.tmp 4]) Tryz.func186 Y Y Y (E0:= [(0,(T.int .u8 x)),(1,(T.int .u8 y))]) Y ?_
 obtain ⟨hlim,hmx,hmax⟩:=Qz
 refine sr (fO (OF.assign (VEv.bool false)) (nt (sr (mO (T.int .u8 x) Y (cO (cS (vc (tv (T.int .u8 x) Y) vn) (Zg Y) (Qdy (n+0) x) Y Y) (mO (tB false) Y (QD 3 2 true 7 (b:=false) Y Y Y Y (fO (OF.pickF (tv (tB false) Y) (VEv.bool false)) (mO (tB false) Y (VRunO.free (VWant.on (b:=false) Y Y Y) (OF.move (tv (T.int .u8 x) Y)) (VRunO.free (VWant.on (b:=false) Y Y Y) (OF.move (tv (T.int .u8 y) Y)) ?_)))))))))))
 refine VRunO.free (VWant.on (b:=false) Y Y Y) (xls (tv (T.int .u8 x) Y) (tv (T.int .u8 y) Y)) (fO (OF.pickF (tv (tB false) Y) (tv (tB (decide (x<y))) Y)) (aO (tB (decide (x<y))) Y (nt (rt ?_))))
 exact vb Y Y
theorem YW (n:Nat) (a:List Int) (p:Int) (q:Int) (hp:p=0) (hq:q=((a.length:Nat):Int)) (ha:a.length≤12):Mut (Qo Tryz.prog (n+3)) 180 1 (a.map (Qw true)) [(tI p),(tI q)] none ((QK a).map (Qw true)):=by
 refine Mut.intro (rt:=0) Tryz.func180 Y Y Y (by kernel_rfl) (ZS (fun _=>rfl) _) (ZS (fun _=>rfl) _) (E0:= [(1,(tI p)),(2,(tI q))]) Y ?_
 obtain ⟨hlim,hmx,hmax⟩:=Qz
 refine sr (mO (tI p) Y (fO (B.add (n:=(p+1)) (tv (tI p) Y) (VEv.int .i64 1) (by first | rfl | (rw [Qs (by omega)];omega) | (rw [Qs (by omega)];done))) (aO (tI (p+1)) Y (nt (VRun.block ?_)))))
 have he1:a=QK (a.take 1)++a.drop 1:=by first | rfl | (exact Qew a) | (refine QfG hil ?_ hx1 hx2 fhc1 hJ2;omega) | (refine QfC hil ?_ hJ2;omega) | (simp;done) | omega
 refine VRun.loop (A:=Nat) (fun s_=> [(0,(T.os 1 0 0 (((QK (a.take s_)++a.drop s_).map (Qw true)).length))),(1,(tI p)),(2,(tI q)),(6,(tN s_))]) (fun s_=>QV [(0,(Obj.rows 1 ((QK (a.take s_)++a.drop s_).map (Qw true))))]) 1 (fun s_=>1≤s_∧s_≤a.length+1) (fun s_=>a.length+1 - s_) (1:Nat) ?_ (Wk.mk (fun k=>k) ?_ ?_ ?_) ?_
 ·exact ⟨Nat.le_refl 1,by omega⟩
 ·exact (bc ⟨(congrArg (fun l_=>T.os 1 0 0 (List.map (Qw true) l_).length) he1),rfl⟩ (b2 (b2 (bc ⟨(congrArg (T.int .i64) (show (p+1)=((1:Nat):Int) from (by first | rfl | omega | (simp;done) | (push_cast;omega)))),rfl⟩ bn))))
 ·exact (bc ⟨(congrArg (fun l_=>some (Obj.rows 1 (List.map (Qw true) l_))) he1),(lb Y),rfl⟩ bn)
 ·exact nd Y
 rintro i (hI':1≤i∧i≤a.length+1)
 show VRun _ _ _ [(0,(T.os 1 0 0 (((QK (a.take i)++a.drop i).map (Qw true)).length))),(1,(tI p)),(2,(tI q)),(6,(tN i))] (QV [(0,(Obj.rows 1 ((QK (a.take i)++a.drop i).map (Qw true))))]) 1 _
 have hI1:=hI'.1
 have hI2:=hI'.2
 have hml:(QK (a.take i)++a.drop i).length=a.length:=by rw [List.length_append,Y0,List.length_take,List.length_drop];omega
 refine sq (sr (mO (tN i) Y (mO (tI q) Y (fO (xls (tv (tN i) Y) (tv (tI q) Y)) (nt ?_)))))
 refine cd (((i:Nat):Int)<q) Y (fun fhc0=> ?_) fun fhc0=> ?_
 ·have hil:i<a.length:=by omega
  refine sk (tn (sq (VRun.block (sr (mO (tN i) Y (aO (tN i) Y (nt (VRun.block ?_))))))))
  have he2:QK (a.take i)++a.drop i=ZH a i (i - 0):=by first | rfl | (exact Qi3 hil) | (refine QlK hil ?_ hx1 hx2;omega) | (refine QfG hil ?_ hx1 hx2 fhc1 hJ2;omega) | (refine QfC hil ?_ hJ2;omega) | (simp;done) | omega
  refine VRun.loop (A:=Nat) (fun s_=> [(0,(T.os 1 0 0 (((ZH a i (i - s_)).map (Qw true)).length))),(1,(tI p)),(2,(tI q)),(6,(tN i)),(7,(tI (((i:Nat):Int) - ((s_:Nat):Int))))]) (fun s_=>QV [(0,(Obj.rows 1 ((ZH a i (i - s_)).map (Qw true))))]) 1 (fun s_=>s_≤i∧QcF a i (i - s_)) (fun s_=>i - s_) (0:Nat) ?_ (Wk.mk (fun k=>k) ?_ ?_ ?_) ?_
  ·exact ⟨Nat.zero_le _,QkV hil⟩
  ·exact (bc ⟨(congrArg (fun l_=>T.os 1 0 0 (List.map (Qw true) l_).length) he2),rfl⟩ (b2 (b2 (b2 (bc ⟨(congrArg (T.int .i64) (show ((i:Nat):Int)=((i:Nat):Int) - ((0:Nat):Int) from (by first | rfl | omega | (simp;done) | (push_cast;omega)))),rfl⟩ bn)))))
  ·exact (bc ⟨(congrArg (fun l_=>some (Obj.rows 1 (List.map (Qw true) l_))) he2),(lb Y),rfl⟩ bn)
  ·exact nd Y
  rintro m (hI':m≤i∧QcF a i (i - m))
  show VRun _ _ _ [(0,(T.os 1 0 0 (((ZH a i (i - m)).map (Qw true)).length))),(1,(tI p)),(2,(tI q)),(6,(tN i)),(7,(tI (((i:Nat):Int) - ((m:Nat):Int))))] (QV [(0,(Obj.rows 1 ((ZH a i (i - m)).map (Qw true))))]) 1 _
  have hJ1:=hI'.1
  have hJ2:=hI'.2
  have hml2:=Qiv hil (Nat.sub_le i m)
  refine sq (sq (VRun.draw (B:= [[],[],[1,0],[0,1,2],[2,1,0,3],[2,1,0,3],[5,3,0,1,2,4],[4,2,1,0,3,5,6],[2,1,0,3],[2,1,0,3],[3,0,1,2,9],[9,10,3,0,1,2,8],[8,2,1,0,3,10,9,11],[11,9,10,8,12,6,5,3,0,1,2,4,7],[7,4,5,6,12,8,10,9,11,13,2,1,0,3]]) (by kernel_rfl) (by kernel_rfl) (mD (tI (((i:Nat):Int) - ((m:Nat):Int))) Y Y (mD (tI p) Y Y (fD (xgt (tv (tI (((i:Nat):Int) - ((m:Nat):Int))) Y) (tv (tI p) Y)) Y Y (mD (tB (decide (p<((i:Nat):Int) - ((m:Nat):Int)))) Y Y ?_))))))
  refine gw (p<((i:Nat):Int) - ((m:Nat):Int)) (fun fhg19_3=> ?_) fun fhg19_3=> ?_
  ·refine VRunD.free Y (VWant.on Y Y (dy fhg19_3)) Y (OF.move (tv (T.os 1 0 0 (((ZH a i (i - m)).map (Qw true)).length)) Y)) ?_
   refine VRunD.free Y (VWant.on Y Y (dy fhg19_3)) Y (OF.move (tv (tI (((i:Nat):Int) - ((m:Nat):Int))) Y)) ?_
   obtain ⟨x1,hx1⟩:∃x,(ZH a i (i - m))[(Int.toNat (((i:Nat):Int) - ((m:Nat):Int)))]? =some x:=⟨_,List.getElem?_eq_getElem (by omega)⟩
   refine VRunD.free Y (VWant.on Y Y (dy fhg19_3)) Y (B.indexAddrO (i:=(Int.toNat (((i:Nat):Int) - ((m:Nat):Int)))) (tv (T.os 1 0 0 (((ZH a i (i - m)).map (Qw true)).length)) Y) (tv (tI (((i:Nat):Int) - ((m:Nat):Int))) Y) (by omega) (by first | omega | (simp only [List.length_map];omega) | (simp only [List.length_map,List.length_append,List.length_cons,List.length_nil,List.length_replicate,List.length_set,List.length_drop,List.length_take,Zk] at *;omega)) Qbg sz5 if5) (VRunD.look Y (VWant.on Y Y (dy fhg19_3)) Y (OL.loadP1 (t:=(T.int .u8 x1)) (row:=(Qw true x1)) (tv (T.orp 1 0 (Int.toNat (((i:Nat):Int) - ((m:Nat):Int))) 0) Y) Y (Qu _ hx1) Y Y st5) (VRunD.free Y (VWant.on Y Y (dy fhg19_3)) Y (OF.move (tv (T.os 1 0 0 (((ZH a i (i - m)).map (Qw true)).length)) Y)) (VRunD.free Y (VWant.on Y Y (dy fhg19_3)) Y (OF.move (tv (tI (((i:Nat):Int) - ((m:Nat):Int))) Y)) (VRunD.free Y (VWant.on Y Y (dy fhg19_3)) Y (B.sub (n:=(((i:Nat):Int) - ((m:Nat):Int) - 1)) (tv (tI (((i:Nat):Int) - ((m:Nat):Int))) Y) (VEv.int .i64 1) (by first | rfl | (rw [Qs (by omega)];omega) | (rw [Qs (by omega)];done))) ?_))))
   obtain ⟨x2,hx2⟩:∃x,(ZH a i (i - m))[(Int.toNat (((i:Nat):Int) - ((m:Nat):Int) - 1))]? =some x:=⟨_,List.getElem?_eq_getElem (by omega)⟩
   refine VRunD.free Y (VWant.on Y Y (dy fhg19_3)) Y (B.indexAddrO (i:=(Int.toNat (((i:Nat):Int) - ((m:Nat):Int) - 1))) (tv (T.os 1 0 0 (((ZH a i (i - m)).map (Qw true)).length)) Y) (tv (tI (((i:Nat):Int) - ((m:Nat):Int) - 1)) Y) (by omega) (by first | omega | (simp only [List.length_map];omega) | (simp only [List.length_map,List.length_append,List.length_cons,List.length_nil,List.length_replicate,List.length_set,List.length_drop,List.length_take,Zk] at *;omega)) Qbg sz5 if5) (VRunD.look Y (VWant.on Y Y (dy fhg19_3)) Y (OL.loadP1 (t:=(T.int .u8 x2)) (row:=(Qw true x2)) (tv (T.orp 1 0 (Int.toNat (((i:Nat):Int) - ((m:Nat):Int) - 1)) 0) Y) Y (Qu _ hx2) Y Y st5) (VRunD.quiet (bi:= [11,9,10,8,12,6,5,3,0,1,2,4,7]) Y (VWant.on Y Y (dy fhg19_3)) Y Y Y bn (cS (vc (tv (T.int .u8 x1) Y) (vc (tv (T.int .u8 x2) Y) vn)) (Zg Y) (Qd0 (n+0) x1 x2) Y Y) (fD (OF.pickT (VEv.tmpB Y (dy fhg19_3)) (tv (tB (decide (x1<x2))) Y)) Y Y (VRunD.nil (tn ?_)))))
   refine cd (x1<x2) Y (fun fhc1=> ?_) fun fhc1=> ?_
   ·refine sk ?_
    refine tn (sq (VRun.block (VRun.draw (B:= [[],[],[],[],[3],[],[],[6],[6,7,5],[5,7,6,8],[],[],[11,10],[10,11,12],[12,11,10,13,9,8,7,6,5,1,0],[0,1,5,6,7,8,9,13,10,11,12,14],[15,14,13,12,11,10,9,8,7,6,5,1,0,3,4,2],[2,4,3,0,1,5,6,7,8,9,10,11,12,13,14,15,16]]) (by kernel_rfl) (by kernel_rfl) (mD (T.os 1 0 0 (((ZH a i (i - m)).map (Qw true)).length)) Y Y (mD (tI (((i:Nat):Int) - ((m:Nat):Int))) Y Y (mD (T.os 1 0 0 (((ZH a i (i - m)).map (Qw true)).length)) Y Y (mD (tI (((i:Nat):Int) - ((m:Nat):Int))) Y Y (fD (B.sub (n:=(((i:Nat):Int) - ((m:Nat):Int) - 1)) (tv (tI (((i:Nat):Int) - ((m:Nat):Int))) Y) (VEv.int .i64 1) (by first | rfl | (rw [Qs (by omega)];omega) | (rw [Qs (by omega)];done))) Y Y (mD (T.os 1 0 0 (((ZH a i (i - m)).map (Qw true)).length)) Y Y (mD (tI (((i:Nat):Int) - ((m:Nat):Int))) Y Y (fD (B.sub (n:=(((i:Nat):Int) - ((m:Nat):Int) - 1)) (tv (tI (((i:Nat):Int) - ((m:Nat):Int))) Y) (VEv.int .i64 1) (by first | rfl | (rw [Qs (by omega)];omega) | (rw [Qs (by omega)];done))) Y Y ?_)))))))))))
    refine fD (B.indexAddrO (i:=(Int.toNat (((i:Nat):Int) - ((m:Nat):Int) - 1))) (tv (T.os 1 0 0 (((ZH a i (i - m)).map (Qw true)).length)) Y) (tv (tI (((i:Nat):Int) - ((m:Nat):Int) - 1)) Y) (by omega) (by first | omega | (simp only [List.length_map];omega) | (simp only [List.length_map,List.length_append,List.length_cons,List.length_nil,List.length_replicate,List.length_set,List.length_drop,List.length_take,Zk] at *;omega)) Qbg sz5 if5) Y Y (lD (OL.loadP1 (t:=(T.int .u8 x2)) (row:=(Qw true x2)) (tv (T.orp 1 0 (Int.toNat (((i:Nat):Int) - ((m:Nat):Int) - 1)) 0) Y) Y (Qu _ hx2) Y Y st5) Y Y (mD (T.os 1 0 0 (((ZH a i (i - m)).map (Qw true)).length)) Y Y (mD (tI (((i:Nat):Int) - ((m:Nat):Int))) Y Y (fD (B.indexAddrO (i:=(Int.toNat (((i:Nat):Int) - ((m:Nat):Int)))) (tv (T.os 1 0 0 (((ZH a i (i - m)).map (Qw true)).length)) Y) (tv (tI (((i:Nat):Int) - ((m:Nat):Int))) Y) (by omega) (by first | omega | (simp only [List.length_map];omega) | (simp only [List.length_map,List.length_append,List.length_cons,List.length_nil,List.length_replicate,List.length_set,List.length_drop,List.length_take,Zk] at *;omega)) Qbg sz5 if5) Y Y (lD (OL.loadP1 (t:=(T.int .u8 x1)) (row:=(Qw true x1)) (tv (T.orp 1 0 (Int.toNat (((i:Nat):Int) - ((m:Nat):Int))) 0) Y) Y (Qu _ hx1) Y Y st5) Y Y (fD (B.indexAddrO (i:=(Int.toNat (((i:Nat):Int) - ((m:Nat):Int)))) (tv (T.os 1 0 0 (((ZH a i (i - m)).map (Qw true)).length)) Y) (tv (tI (((i:Nat):Int) - ((m:Nat):Int))) Y) (by omega) (by first | omega | (simp only [List.length_map];omega) | (simp only [List.length_map,List.length_append,List.length_cons,List.length_nil,List.length_replicate,List.length_set,List.length_drop,List.length_take,Zk] at *;omega)) Qbg sz5 if5) Y Y (VRunD.chain (bi:= [0,1,5,6,7,8,9,13,10,11,12,14]) Y VWant.always Y Y Y (by kernel_rfl) (B.storeP (us:= [(T.int .u8 x2)]) (rows':=(((ZH a i (i - m)).set (Int.toNat (((i:Nat):Int) - ((m:Nat):Int))) x2).map (Qw true))) (row:=(Qw true x1)) (tv (T.orp 1 0 (Int.toNat (((i:Nat):Int) - ((m:Nat):Int))) 0) Y) (tv (T.int .u8 x2) Y) nofun Y (Qu _ hx1) Y (lb Y) if5 sz5 (bc Y bn) (by intro r hr t ht;obtain ⟨x,_,rfl⟩:=List.mem_map.1 hr;rw [QhI] at ht;exact ZZ (okByte.pl _ t ht)) (Yc Y)) ?_)))))))
    obtain ⟨x3,hx3⟩:∃x,((ZH a i (i - m)).set (Int.toNat (((i:Nat):Int) - ((m:Nat):Int))) x2)[(Int.toNat (((i:Nat):Int) - ((m:Nat):Int) - 1))]? =some x:=⟨_,List.getElem?_eq_getElem (by first | omega | (simp only [List.length_map];omega) | (simp only [List.length_map,List.length_append,List.length_cons,List.length_nil,List.length_replicate,List.length_set,List.length_drop,List.length_take,Zk] at *;omega))⟩
    refine fD (B.indexAddrO (i:=(Int.toNat (((i:Nat):Int) - ((m:Nat):Int) - 1))) (tv (T.os 1 0 0 (((ZH a i (i - m)).map (Qw true)).length)) Y) (tv (tI (((i:Nat):Int) - ((m:Nat):Int) - 1)) Y) (by omega) (by first | omega | (simp only [List.length_map];omega) | (simp only [List.length_map,List.length_append,List.length_cons,List.length_nil,List.length_replicate,List.length_set,List.length_drop,List.length_take,Zk] at *;omega)) Qbg sz5 if5) Y Y (VRunD.chain (bi:= [2,4,3,0,1,5,6,7,8,9,10,11,12,13,14,15,16]) Y VWant.always Y Y Y (by kernel_rfl) (B.storeP (us:= [(T.int .u8 x1)]) (rows':=((((ZH a i (i - m)).set (Int.toNat (((i:Nat):Int) - ((m:Nat):Int))) x2).set (Int.toNat (((i:Nat):Int) - ((m:Nat):Int) - 1)) x1).map (Qw true))) (row:=(Qw true x3)) (tv (T.orp 1 0 (Int.toNat (((i:Nat):Int) - ((m:Nat):Int) - 1)) 0) Y) (tv (T.int .u8 x1) Y) nofun Y (Qu _ hx3) Y (lb Y) if5 sz5 (bc Y bn) (by intro r hr t ht;obtain ⟨x,_,rfl⟩:=List.mem_map.1 hr;rw [QhI] at ht;exact ZZ (okByte.pl _ t ht)) (Yc Y)) (VRunD.nil (vinB.n (tn (VRun.region (mO (tI (((i:Nat):Int) - ((m:Nat):Int))) Y (fO (B.sub (n:=(((i:Nat):Int) - ((m:Nat):Int) - 1)) (tv (tI (((i:Nat):Int) - ((m:Nat):Int))) Y) (VEv.int .i64 1) (by first | rfl | (rw [Qs (by omega)];omega) | (rw [Qs (by omega)];done))) (aO (tI (((i:Nat):Int) - ((m:Nat):Int) - 1)) Y (VRunO.nil (tn ?_))))))))))
    have hml3:=Qiv hil (Nat.sub_le i (m+1))
    have he4:(((ZH a i (i - m)).set (Int.toNat (((i:Nat):Int) - ((m:Nat):Int))) x2).set (Int.toNat (((i:Nat):Int) - ((m:Nat):Int) - 1)) x1)=ZH a i (i - (m+1)):=by first | rfl | (exact Qi3 hil) | (refine QlK hil ?_ hx1 hx2;omega) | (refine QfG hil ?_ hx1 hx2 fhc1 hJ2;omega) | (refine QfC hil ?_ hJ2;omega) | (simp;done) | omega
    refine ⟨(m+1:Nat),?_,?_,Wk.mk (fun k=>k) ?_ ?_ ?_⟩
    ·(refine Qou hil ?_ hx1 hx2 fhc1 hJ2;omega)
    ·first | omega | (simp only [];omega) | (show _<_;omega) | (simp;omega)
    ·exact (bc ⟨(congrArg (fun n_=>T.os 1 0 0 n_) (show ((ZH a i (i - m)).map (Qw true)).length=((ZH a i (i - (m+1))).map (Qw true)).length from (by first | rfl | (simp only [List.length_map];omega) | (simp only [List.length_map,List.length_set,List.length_append,List.length_take,List.length_replicate,List.length_cons,List.length_nil];omega)))),rfl⟩ (b2 (b2 (b2 (bc ⟨(congrArg (T.int .i64) (show (((i:Nat):Int) - ((m:Nat):Int) - 1)=((i:Nat):Int) - (((m+1):Nat):Int) from (by first | rfl | omega | (simp;done) | (push_cast;omega)))),rfl⟩ bn)))))
    ·exact (bc ⟨(congrArg (fun l_=>some (Obj.rows 1 (List.map (Qw true) l_))) he4),(lb Y),rfl⟩ bn)
    ·exact nd Y
   refine VRun.exit (vthn.e (vthn.e (vinB.e (vinB.n (tn (VRun.region (mO (tN i) Y (fO (QB (tv (tN i) Y) (VEv.int .i64 1) (by omega)) (aO (tN (i+1)) Y (VRunO.nil (tn ?_)))))))))))
   have he5:ZH a i (i - m)=QK (a.take (i+1))++a.drop (i+1):=by first | rfl | (exact Qew a) | (refine QfG hil ?_ hx1 hx2 fhc1 hJ2;omega) | (refine QfC hil ?_ hJ2;omega) | (simp;done) | omega
   refine ⟨(i+1:Nat),?_,?_,Wk.mk (fun k=>k) ?_ ?_ ?_⟩
   ·exact ⟨by omega,by omega⟩
   ·first | omega | (simp only [];omega) | (show _<_;omega) | (simp;omega)
   ·exact (bc ⟨(congrArg (fun l_=>T.os 1 0 0 (List.map (Qw true) l_).length) he5),rfl⟩ (b2 (b2 (b2 bn))))
   ·exact (bc ⟨(congrArg (fun l_=>some (Obj.rows 1 (List.map (Qw true) l_))) he5),(lb Y),rfl⟩ bn)
   ·exact nd Y
  refine oD Y Y (dz fhg19_3) Y (oD Y Y (dz fhg19_3) Y (oD Y Y (dz fhg19_3) Y (oD Y Y (dz fhg19_3) Y (oD Y Y (dz fhg19_3) Y (oD Y Y (dz fhg19_3) Y (oD Y Y (dz fhg19_3) Y (oD Y Y (dz fhg19_3) Y (oD Y Y (dz fhg19_3) Y (oD Y Y (dz fhg19_3) Y (fD (OF.pickF (VEv.tmpB Y (dz fhg19_3)) (VEv.bool false)) Y Y (VRunD.nil ?_)))))))))))
  refine tn (cf Y (VRun.exit (vthn.e (vthn.e (vinB.e (vinB.n (tn (VRun.region (mO (tN i) Y (fO (QB (tv (tN i) Y) (VEv.int .i64 1) (by omega)) (aO (tN (i+1)) Y ?_)))))))))))
  refine VRunO.nil (tn ?_)
  have he6:ZH a i (i - m)=QK (a.take (i+1))++a.drop (i+1):=by first | rfl | (exact Qew a) | (refine QfG hil ?_ hx1 hx2 fhc1 hJ2;omega) | (refine QfC hil ?_ hJ2;omega) | (simp;done) | omega
  refine ⟨(i+1:Nat),?_,?_,Wk.mk (fun k=>k) ?_ ?_ ?_⟩
  ·exact ⟨by omega,by omega⟩
  ·first | omega | (simp only [];omega) | (show _<_;omega) | (simp;omega)
  ·exact (bc ⟨(congrArg (fun l_=>T.os 1 0 0 (List.map (Qw true) l_).length) he6),rfl⟩ (b2 (b2 (b2 bn))))
  ·exact (bc ⟨(congrArg (fun l_=>some (Obj.rows 1 (List.map (Qw true) l_))) he6),(lb Y),rfl⟩ bn)
  ·exact nd Y
 refine VRun.exit (vthn.e (vthn.e (vinB.e ?_)))
 refine vmut.v (rows:=((QK (a.take i)++a.drop i).map (Qw true))) Y Y ?_ Y
 ·show List.map _ (QK (a.take i)++a.drop i)=List.map _ (QK a)
  refine congrArg (List.map _) ?_
  (rw [List.take_of_length_le (by omega),List.drop_eq_nil_of_le (by omega),List.append_nil])
theorem JO (n:Nat) (a:List Int) (p:Int) (q:Int) (lm:Int) (hp:p=0) (hq:q=((a.length:Nat):Int)) (ha:a.length≤12):Mut (Qo Tryz.prog (n+4)) 178 1 (a.map (Qw true)) [(tI p),(tI q),(tI lm)] none ((QK a).map (Qw true)):=by
 refine Mut.intro (rt:=0) Tryz.func178 Y Y Y (by kernel_rfl) (ZS (fun _=>rfl) _) (ZS (fun _=>rfl) _) (E0:= [(1,(tI p)),(2,(tI q)),(3,(tI lm))]) Y ?_
 obtain ⟨hlim,hmx,hmax⟩:=Qz
 refine sr (fO (OF.assign (VEv.bool true)) (nt (sr (fO (OF.assign (VEv.bool true)) (nt (VRun.block ?_))))))
 refine VRun.loop (A:=Nat) (fun s_=> [(0,(T.os 1 0 0 ((a.map (Qw true)).length))),(1,(tI p)),(2,(tI q)),(3,(tI lm)),(8,(tB true)),(9,(tB true))]) (fun s_=>QV [(0,(Obj.rows 1 (a.map (Qw true))))]) 1 (fun s_=>s_=0) (fun s_=>0) (0:Nat) ?_ (Wk.mk (fun k=>k) ?_ ?_ ?_) ?_
 ·first | trivial | (simp;done) | omega | (constructor<;>simp)
 ·exact (b2 (b2 (b2 (b2 (b2 (b2 bn))))))
 ·exact (b3 bn)
 ·exact nd Y
 rintro i (hI':i=0)
 show VRun _ _ _ [(0,(T.os 1 0 0 ((a.map (Qw true)).length))),(1,(tI p)),(2,(tI q)),(3,(tI lm)),(8,(tB true)),(9,(tB true))] (QV [(0,(Obj.rows 1 (a.map (Qw true))))]) 1 _
 refine VRun.block (sr (mO (tI q) Y (mO (tI p) Y (fO (B.sub (n:=(q - p)) (tv (tI q) Y) (tv (tI p) Y) (by first | rfl | (rw [Qs (by omega)];omega) | (rw [Qs (by omega)];done))) (aO (tI (q - p)) Y (nt (sq (sr (mO (tI (q - p)) Y (fO (xle (tv (tI (q - p)) Y) (VEv.int .i64 12)) (nt ?_)))))))))))
 refine cd ((q - p)≤12) Y (fun fhc0=> ?_) fun fhc0=> ?_
 ·refine sr ?_
  refine mO (T.os 1 0 0 ((a.map (Qw true)).length)) Y (mO (tI p) Y (mO (tI q) Y (cO (OC.callMut (rows:=(a.map (Qw true))) (rows':=((QK a).map (Qw true))) Y (vc (tv (T.os 1 0 0 ((a.map (Qw true)).length)) Y) (vc (tv (tI p) Y) (vc (tv (tI q) Y) vn))) Y Y (bc Y (bc Y bn)) (ZS (fun _=>rfl) _) (ZS (fun _=>rfl) _) (YW (n+0) a p q (by first | assumption | omega) (by first | assumption | omega) (by first | assumption | omega))) (nt (rt (tr (vinB.r (tr (vinB.r ?_)))))))))
  refine vmut.q (rows:=((QK a).map (Qw true))) Y Y ?_ (by (simp only [List.length_map,Y0]))
  ·show List.map _ (QK a)=List.map _ (QK a)
   refine congrArg (List.map _) ?_
   rfl
 omega
noncomputable section
def Qf5 (x:Int):Int:=if x=0 then 0 else if x=1 then 1 else if x<4 then 2 else if x<8 then 3 else 4
theorem Qor {x:Int} (h:0≤x∧x≤12):x=0∨x=1∨x=2∨x=3∨x=4∨x=5∨x=6∨x=7∨x=8∨x=9∨x=10∨x=11∨x=12:=by omega
def l8t : ByteArray:=(⟨#[0,1,2,2,3,3,3,3,4,4,4,4,4,4,4,4,5,5,5,5,5,5,5,5,5,5,5,5,5,5,5,5,6,6,6,6,6,6,6,6,6,6,6,6,6,6,6,6,6,6,6,6,6,6,6,6,6,6,6,6,6,6,6,6,7,7,7,7,7,7,7,7,7,7,7,7,7,7,7,7,7,7,7,7,7,7,7,7,7,7,7,7,7,7,7,7,7,7,7,7,7,7,7,7,7,7,7,7,7,7,7,7,7,7,7,7,7,7,7,7,7,7,7,7,7,7,7,7,8,8,8,8,8,8,8,8,8,8,8,8,8,8,8,8,8,8,8,8,8,8,8,8,8,8,8,8,8,8,8,8,8,8,8,8,8,8,8,8,8,8,8,8,8,8,8,8,8,8,8,8,8,8,8,8,8,8,8,8,8,8,8,8,8,8,8,8,8,8,8,8,8,8,8,8,8,8,8,8,8,8,8,8,8,8,8,8,8,8,8,8,8,8,8,8,8,8,8,8,8,8,8,8,8,8,8,8,8,8,8,8,8,8,8,8,8,8,8,8,8,8,8,8,8,8,8,8]⟩:ByteArray)
theorem Qo7 : l8t.size=256:=rfl
theorem Qpx {x:Int} (h:0≤x∧x≤12):IntKind.u8.wrap x=x:=by
 rcases Qor h with rfl | rfl | rfl | rfl | rfl | rfl | rfl | rfl | rfl | rfl | rfl | rfl | rfl<;>rfl
theorem QmF {x:Int} (h:0≤x∧x≤12):IntKind.u64.wrap x=x:=by
 rcases Qor h with rfl | rfl | rfl | rfl | rfl | rfl | rfl | rfl | rfl | rfl | rfl | rfl | rfl<;>rfl
theorem QpO {x:Int} (h:0≤x∧x≤12):Qy l8t (Int.toNat (IntKind.u8.wrap x))=Qf5 x:=by
 rw [Qpx h]
 rcases Qor h with rfl | rfl | rfl | rfl | rfl | rfl | rfl | rfl | rfl | rfl | rfl | rfl | rfl<;>rfl
theorem Qmn (x:Int):0≤Qf5 x∧Qf5 x≤4:=by
 unfold Qf5
 repeat (first | omega | split)
theorem Qpk {x:Int} (h:0≤x∧x≤12):IntKind.i64.wrap (Qy l8t (Int.toNat (IntKind.u8.wrap x)))=Qf5 x:=by
 have:=Qmn x
 rw [QpO h,Qs (by omega)]
end
theorem Qdm (n:Nat) (x:Int) (hx:0≤x∧x≤12):Pure (Qo Tryz.prog (n+1)) 190 [(T.int .u64 x)] (tI (Qf5 x)):=by
 refine Pure.intro (rs:= [ResultVar.tmp 2]) Tryz.func190 Y Y Y (E0:= [(0,(T.int .u64 x))]) Y ?_
 obtain ⟨hlim,hmx,hmax⟩:=Qz
 have e256:(⟨#[0,1,2,2,3,3,3,3,4,4,4,4,4,4,4,4,5,5,5,5,5,5,5,5,5,5,5,5,5,5,5,5,6,6,6,6,6,6,6,6,6,6,6,6,6,6,6,6,6,6,6,6,6,6,6,6,6,6,6,6,6,6,6,6,7,7,7,7,7,7,7,7,7,7,7,7,7,7,7,7,7,7,7,7,7,7,7,7,7,7,7,7,7,7,7,7,7,7,7,7,7,7,7,7,7,7,7,7,7,7,7,7,7,7,7,7,7,7,7,7,7,7,7,7,7,7,7,7,8,8,8,8,8,8,8,8,8,8,8,8,8,8,8,8,8,8,8,8,8,8,8,8,8,8,8,8,8,8,8,8,8,8,8,8,8,8,8,8,8,8,8,8,8,8,8,8,8,8,8,8,8,8,8,8,8,8,8,8,8,8,8,8,8,8,8,8,8,8,8,8,8,8,8,8,8,8,8,8,8,8,8,8,8,8,8,8,8,8,8,8,8,8,8,8,8,8,8,8,8,8,8,8,8,8,8,8,8,8,8,8,8,8,8,8,8,8,8,8,8,8,8,8,8,8,8,8]⟩:ByteArray).size=256:=Qo7
 have hwx:=Qpx hx
 have hux:=QmF hx
 have hv:IntKind.i64.wrap (Qy (⟨#[0,1,2,2,3,3,3,3,4,4,4,4,4,4,4,4,5,5,5,5,5,5,5,5,5,5,5,5,5,5,5,5,6,6,6,6,6,6,6,6,6,6,6,6,6,6,6,6,6,6,6,6,6,6,6,6,6,6,6,6,6,6,6,6,7,7,7,7,7,7,7,7,7,7,7,7,7,7,7,7,7,7,7,7,7,7,7,7,7,7,7,7,7,7,7,7,7,7,7,7,7,7,7,7,7,7,7,7,7,7,7,7,7,7,7,7,7,7,7,7,7,7,7,7,7,7,7,7,8,8,8,8,8,8,8,8,8,8,8,8,8,8,8,8,8,8,8,8,8,8,8,8,8,8,8,8,8,8,8,8,8,8,8,8,8,8,8,8,8,8,8,8,8,8,8,8,8,8,8,8,8,8,8,8,8,8,8,8,8,8,8,8,8,8,8,8,8,8,8,8,8,8,8,8,8,8,8,8,8,8,8,8,8,8,8,8,8,8,8,8,8,8,8,8,8,8,8,8,8,8,8,8,8,8,8,8,8,8,8,8,8,8,8,8,8,8,8,8,8,8,8,8,8,8,8,8]⟩:ByteArray) (Int.toNat (IntKind.u8.wrap x)))=Qf5 x:=Qpk hx
 have hvb:=Qmn x
 refine sr (fO (OF.assign (VEv.int .i64 0)) (nt (sq (sr (mO (T.int .u64 x) Y (fO (xge (tv (T.int .u64 x) Y) (VEv.int .u64 4294967296)) (nt ?_)))))))
 refine cd (4294967296≤x) Y (fun fhc0=> ?_) fun fhc0=> ?_
 ·omega
 refine sk (tn (sq (sr (mO (T.int .u64 x) Y (fO (xge (tv (T.int .u64 x) Y) (VEv.int .u64 65536)) (nt ?_))))))
 refine cd (65536≤x) Y (fun fhc1=> ?_) fun fhc1=> ?_
 ·omega
 refine sk (tn (sq (sr (mO (T.int .u64 x) Y (fO (xge (tv (T.int .u64 x) Y) (VEv.int .u64 256)) (nt ?_))))))
 refine cd (256≤x) Y (fun fhc2=> ?_) fun fhc2=> ?_
 ·omega
 refine sk (tn (sr (mO (tN 0) Y (mO (T.int .u64 x) Y (fO (OF.convI (tv (T.int .u64 x) Y) (k0:= .u64) QpR U5) ?_)))))
 have hb1:(Int.toNat (IntKind.u8.wrap x))<(⟨#[0,1,2,2,3,3,3,3,4,4,4,4,4,4,4,4,5,5,5,5,5,5,5,5,5,5,5,5,5,5,5,5,6,6,6,6,6,6,6,6,6,6,6,6,6,6,6,6,6,6,6,6,6,6,6,6,6,6,6,6,6,6,6,6,7,7,7,7,7,7,7,7,7,7,7,7,7,7,7,7,7,7,7,7,7,7,7,7,7,7,7,7,7,7,7,7,7,7,7,7,7,7,7,7,7,7,7,7,7,7,7,7,7,7,7,7,7,7,7,7,7,7,7,7,7,7,7,7,8,8,8,8,8,8,8,8,8,8,8,8,8,8,8,8,8,8,8,8,8,8,8,8,8,8,8,8,8,8,8,8,8,8,8,8,8,8,8,8,8,8,8,8,8,8,8,8,8,8,8,8,8,8,8,8,8,8,8,8,8,8,8,8,8,8,8,8,8,8,8,8,8,8,8,8,8,8,8,8,8,8,8,8,8,8,8,8,8,8,8,8,8,8,8,8,8,8,8,8,8,8,8,8,8,8,8,8,8,8,8,8,8,8,8,8,8,8,8,8,8,8,8,8,8,8,8,8]⟩:ByteArray).size:=(by omega)
 refine fO (B.index (n:=(Qy (⟨#[0,1,2,2,3,3,3,3,4,4,4,4,4,4,4,4,5,5,5,5,5,5,5,5,5,5,5,5,5,5,5,5,6,6,6,6,6,6,6,6,6,6,6,6,6,6,6,6,6,6,6,6,6,6,6,6,6,6,6,6,6,6,6,6,7,7,7,7,7,7,7,7,7,7,7,7,7,7,7,7,7,7,7,7,7,7,7,7,7,7,7,7,7,7,7,7,7,7,7,7,7,7,7,7,7,7,7,7,7,7,7,7,7,7,7,7,7,7,7,7,7,7,7,7,7,7,7,7,8,8,8,8,8,8,8,8,8,8,8,8,8,8,8,8,8,8,8,8,8,8,8,8,8,8,8,8,8,8,8,8,8,8,8,8,8,8,8,8,8,8,8,8,8,8,8,8,8,8,8,8,8,8,8,8,8,8,8,8,8,8,8,8,8,8,8,8,8,8,8,8,8,8,8,8,8,8,8,8,8,8,8,8,8,8,8,8,8,8,8,8,8,8,8,8,8,8,8,8,8,8,8,8,8,8,8,8,8,8,8,8,8,8,8,8,8,8,8,8,8,8,8,8,8,8,8,8]⟩:ByteArray) (Int.toNat (IntKind.u8.wrap x)))) (i:=(Int.toNat (IntKind.u8.wrap x))) (VEv.str (⟨#[0,1,2,2,3,3,3,3,4,4,4,4,4,4,4,4,5,5,5,5,5,5,5,5,5,5,5,5,5,5,5,5,6,6,6,6,6,6,6,6,6,6,6,6,6,6,6,6,6,6,6,6,6,6,6,6,6,6,6,6,6,6,6,6,7,7,7,7,7,7,7,7,7,7,7,7,7,7,7,7,7,7,7,7,7,7,7,7,7,7,7,7,7,7,7,7,7,7,7,7,7,7,7,7,7,7,7,7,7,7,7,7,7,7,7,7,7,7,7,7,7,7,7,7,7,7,7,7,8,8,8,8,8,8,8,8,8,8,8,8,8,8,8,8,8,8,8,8,8,8,8,8,8,8,8,8,8,8,8,8,8,8,8,8,8,8,8,8,8,8,8,8,8,8,8,8,8,8,8,8,8,8,8,8,8,8,8,8,8,8,8,8,8,8,8,8,8,8,8,8,8,8,8,8,8,8,8,8,8,8,8,8,8,8,8,8,8,8,8,8,8,8,8,8,8,8,8,8,8,8,8,8,8,8,8,8,8,8,8,8,8,8,8,8,8,8,8,8,8,8,8,8,8,8,8,8]⟩:ByteArray)) (tv (T.int .u8 (IntKind.u8.wrap x)) Y) (by omega) hb1 U9 (YZ hb1)) (fO (OF.convI (tv (T.int .u8 (Qy (⟨#[0,1,2,2,3,3,3,3,4,4,4,4,4,4,4,4,5,5,5,5,5,5,5,5,5,5,5,5,5,5,5,5,6,6,6,6,6,6,6,6,6,6,6,6,6,6,6,6,6,6,6,6,6,6,6,6,6,6,6,6,6,6,6,6,7,7,7,7,7,7,7,7,7,7,7,7,7,7,7,7,7,7,7,7,7,7,7,7,7,7,7,7,7,7,7,7,7,7,7,7,7,7,7,7,7,7,7,7,7,7,7,7,7,7,7,7,7,7,7,7,7,7,7,7,7,7,7,7,8,8,8,8,8,8,8,8,8,8,8,8,8,8,8,8,8,8,8,8,8,8,8,8,8,8,8,8,8,8,8,8,8,8,8,8,8,8,8,8,8,8,8,8,8,8,8,8,8,8,8,8,8,8,8,8,8,8,8,8,8,8,8,8,8,8,8,8,8,8,8,8,8,8,8,8,8,8,8,8,8,8,8,8,8,8,8,8,8,8,8,8,8,8,8,8,8,8,8,8,8,8,8,8,8,8,8,8,8,8,8,8,8,8,8,8,8,8,8,8,8,8,8,8,8,8,8,8]⟩:ByteArray) (Int.toNat (IntKind.u8.wrap x)))) Y) (k0:= .u8) U5 U3) (fO (B.add (n:=(0+IntKind.i64.wrap (Qy (⟨#[0,1,2,2,3,3,3,3,4,4,4,4,4,4,4,4,5,5,5,5,5,5,5,5,5,5,5,5,5,5,5,5,6,6,6,6,6,6,6,6,6,6,6,6,6,6,6,6,6,6,6,6,6,6,6,6,6,6,6,6,6,6,6,6,7,7,7,7,7,7,7,7,7,7,7,7,7,7,7,7,7,7,7,7,7,7,7,7,7,7,7,7,7,7,7,7,7,7,7,7,7,7,7,7,7,7,7,7,7,7,7,7,7,7,7,7,7,7,7,7,7,7,7,7,7,7,7,7,8,8,8,8,8,8,8,8,8,8,8,8,8,8,8,8,8,8,8,8,8,8,8,8,8,8,8,8,8,8,8,8,8,8,8,8,8,8,8,8,8,8,8,8,8,8,8,8,8,8,8,8,8,8,8,8,8,8,8,8,8,8,8,8,8,8,8,8,8,8,8,8,8,8,8,8,8,8,8,8,8,8,8,8,8,8,8,8,8,8,8,8,8,8,8,8,8,8,8,8,8,8,8,8,8,8,8,8,8,8,8,8,8,8,8,8,8,8,8,8,8,8,8,8,8,8,8,8]⟩:ByteArray) (Int.toNat (IntKind.u8.wrap x))))) (tv (tN 0) Y) (tv (tI (IntKind.i64.wrap (Qy (⟨#[0,1,2,2,3,3,3,3,4,4,4,4,4,4,4,4,5,5,5,5,5,5,5,5,5,5,5,5,5,5,5,5,6,6,6,6,6,6,6,6,6,6,6,6,6,6,6,6,6,6,6,6,6,6,6,6,6,6,6,6,6,6,6,6,7,7,7,7,7,7,7,7,7,7,7,7,7,7,7,7,7,7,7,7,7,7,7,7,7,7,7,7,7,7,7,7,7,7,7,7,7,7,7,7,7,7,7,7,7,7,7,7,7,7,7,7,7,7,7,7,7,7,7,7,7,7,7,7,8,8,8,8,8,8,8,8,8,8,8,8,8,8,8,8,8,8,8,8,8,8,8,8,8,8,8,8,8,8,8,8,8,8,8,8,8,8,8,8,8,8,8,8,8,8,8,8,8,8,8,8,8,8,8,8,8,8,8,8,8,8,8,8,8,8,8,8,8,8,8,8,8,8,8,8,8,8,8,8,8,8,8,8,8,8,8,8,8,8,8,8,8,8,8,8,8,8,8,8,8,8,8,8,8,8,8,8,8,8,8,8,8,8,8,8,8,8,8,8,8,8,8,8,8,8,8,8]⟩:ByteArray) (Int.toNat (IntKind.u8.wrap x))))) Y) (by first | rfl | (rw [Qs (by omega)];omega) | (rw [Qs (by omega)];done))) ?_))
 refine aO (tI (0+IntKind.i64.wrap (Qy (⟨#[0,1,2,2,3,3,3,3,4,4,4,4,4,4,4,4,5,5,5,5,5,5,5,5,5,5,5,5,5,5,5,5,6,6,6,6,6,6,6,6,6,6,6,6,6,6,6,6,6,6,6,6,6,6,6,6,6,6,6,6,6,6,6,6,7,7,7,7,7,7,7,7,7,7,7,7,7,7,7,7,7,7,7,7,7,7,7,7,7,7,7,7,7,7,7,7,7,7,7,7,7,7,7,7,7,7,7,7,7,7,7,7,7,7,7,7,7,7,7,7,7,7,7,7,7,7,7,7,8,8,8,8,8,8,8,8,8,8,8,8,8,8,8,8,8,8,8,8,8,8,8,8,8,8,8,8,8,8,8,8,8,8,8,8,8,8,8,8,8,8,8,8,8,8,8,8,8,8,8,8,8,8,8,8,8,8,8,8,8,8,8,8,8,8,8,8,8,8,8,8,8,8,8,8,8,8,8,8,8,8,8,8,8,8,8,8,8,8,8,8,8,8,8,8,8,8,8,8,8,8,8,8,8,8,8,8,8,8,8,8,8,8,8,8,8,8,8,8,8,8,8,8,8,8,8,8]⟩:ByteArray) (Int.toNat (IntKind.u8.wrap x))))) Y (nt (rt (vi (n':=(0+IntKind.i64.wrap (Qy (⟨#[0,1,2,2,3,3,3,3,4,4,4,4,4,4,4,4,5,5,5,5,5,5,5,5,5,5,5,5,5,5,5,5,6,6,6,6,6,6,6,6,6,6,6,6,6,6,6,6,6,6,6,6,6,6,6,6,6,6,6,6,6,6,6,6,7,7,7,7,7,7,7,7,7,7,7,7,7,7,7,7,7,7,7,7,7,7,7,7,7,7,7,7,7,7,7,7,7,7,7,7,7,7,7,7,7,7,7,7,7,7,7,7,7,7,7,7,7,7,7,7,7,7,7,7,7,7,7,7,8,8,8,8,8,8,8,8,8,8,8,8,8,8,8,8,8,8,8,8,8,8,8,8,8,8,8,8,8,8,8,8,8,8,8,8,8,8,8,8,8,8,8,8,8,8,8,8,8,8,8,8,8,8,8,8,8,8,8,8,8,8,8,8,8,8,8,8,8,8,8,8,8,8,8,8,8,8,8,8,8,8,8,8,8,8,8,8,8,8,8,8,8,8,8,8,8,8,8,8,8,8,8,8,8,8,8,8,8,8,8,8,8,8,8,8,8,8,8,8,8,8,8,8,8,8,8,8]⟩:ByteArray) (Int.toNat (IntKind.u8.wrap x))))) Y ?_)))
 omega
theorem QeW (n:Nat) (x:Int) (hx:0≤x∧x≤12):Pure (Qo Tryz.prog (n+2)) 179 [(T.int .u64 x)] (tI (Qf5 x)):=by
 refine Pure.intro (rs:= [ResultVar.tmp 2]) Tryz.func179 Y Y Y (E0:= [(0,(T.int .u64 x))]) Y ?_
 obtain ⟨hlim,hmx,hmax⟩:=Qz
 have hux:=QmF hx
 refine sr (fO (OF.assign (VEv.int .i64 0)) (nt (sq ?_)))
 refine VRun.cond (VEv.bool false) (fun hk1=> ?_) (fun hk1=> ?_)
 ·exact absurd (rfl.symm.trans hk1) (by decide)
 ·skip
  refine sk (tn (sr (mO (T.int .u64 x) Y (cO (cS (vc (tv (T.int .u64 x) Y) vn) (Zg Y) (Qdm (n+0) x (by first | assumption | omega)) Y Y) (aO (tI (Qf5 x)) Y (nt (rt ?_)))))))
  exact vi Y Y
theorem QaZ (n:Nat) (a:List Int) (ha:a.length≤12):Mut (Qo Tryz.prog (n+5)) 176 1 (a.map (Qw true)) [] none ((QK a).map (Qw true)):=by
 refine Mut.intro (rt:=0) Tryz.func176 Y Y Y (by kernel_rfl) (ZS (fun _=>rfl) _) (ZS (fun _=>rfl) _) (E0:= []) Y ?_
 obtain ⟨hlim,hmx,hmax⟩:=Qz
 have hux:=QmF (x:=((a.length:Nat):Int)) (by omega)
 refine sr (mO (T.os 1 0 0 ((a.map (Qw true)).length)) Y (lO (B.lenO (m:=a.length) (tv (T.os 1 0 0 ((a.map (Qw true)).length)) Y) Qbg (List.length_map ..)) (aO (tN a.length) Y (nt (VRun.region (mO (T.os 1 0 0 ((a.map (Qw true)).length)) Y (mO (tN a.length) Y (mO (tN a.length) Y (fO (OF.convI (tv (tN a.length) Y) (k0:= .i64) U3 QpZ) (cO (cS (vc (tv (T.int .u64 (IntKind.u64.wrap ((a.length:Nat):Int))) Y) vn) (Zg Y) (QeW (n+2) (IntKind.u64.wrap ((a.length:Nat):Int)) (by first | assumption | omega)) Y Y) (cO (OC.callMut (rows:=(a.map (Qw true))) (rows':=((QK a).map (Qw true))) Y (vc (tv (T.os 1 0 0 ((a.map (Qw true)).length)) Y) (vc (VEv.int .i64 0) (vc (tv (tN a.length) Y) (vc (tv (tI (Qf5 (IntKind.u64.wrap ((a.length:Nat):Int)))) Y) vn)))) Y Y (bc Y (bc Y (bc Y bn))) (ZS (fun _=>rfl) _) (ZS (fun _=>rfl) _) (JO (n+0) a 0 ((a.length:Nat):Int) (Qf5 (IntKind.u64.wrap ((a.length:Nat):Int))) (by first | assumption | omega) (by first | assumption | omega) (by first | assumption | omega))) ?_)))))))))))
 refine VRunO.nil ?_
 refine vmut.v (rows:=((QK a).map (Qw true))) Y Y ?_ (by (simp only [List.length_map,Y0]))
 ·show List.map _ (QK a)=List.map _ (QK a)
  refine congrArg (List.map _) ?_
  rfl
noncomputable section
def hdS (w:ByteArray):ByteArray:=if Qm w then w.extract 0 1 else ⟨#[]⟩
def nhS (w:ByteArray):ByteArray:=if Qm w then w.extract 1 w.size else ⟨#[]⟩
def ntS (w:ByteArray):ByteArray:=if Qm w then w.extract 0 (w.size - 1) else ⟨#[]⟩
def Qd2 (p w:ByteArray):Prop:=(Qm p∧Qm w)∧∃i,1≤i∧i+p.size<w.size∧w.extract i (i+p.size)=p
instance (p w:ByteArray):Decidable (Qd2 p w):=Classical.propDecidable _
def QiO (p w:ByteArray) (i:Nat):Prop:=∀k,1≤k→k<i→¬w.extract k (k+p.size)=p
theorem QmA (p w:ByteArray):QiO p w 1:=fun k h1 h2=>by omega
theorem Qhd {p w:ByteArray} {i:Nat} (h:QiO p w i) (hn:¬w.extract i (i+p.size)=p):QiO p w (i+1):=fun k h1 h2=>by
 rcases Nat.lt_or_ge k i with h3 | h3
 ·exact h k h1 h3
 ·rw [show k=i by omega];exact hn
theorem QaE {p w:ByteArray} (h:¬Qm p):false=decide (Qd2 p w):=(decide_eq_false (fun x=>h x.1.1)).symm
theorem QaC {p w:ByteArray} (h:¬Qm w):false=decide (Qd2 p w):=(decide_eq_false (fun x=>h x.1.2)).symm
theorem QbU {p w:ByteArray} {i:Nat} (h1:Qm p) (h2:Qm w) (h3:1≤i) (h4:i+p.size<w.size) (h5:w.extract i (i+p.size)=p):true=decide (Qd2 p w):=(decide_eq_true ⟨⟨h1,h2⟩,i,h3,h4,h5⟩).symm
theorem Qb5 {p w:ByteArray} {i:Nat} (h:QiO p w i) (hi:¬i+p.size<w.size):false=decide (Qd2 p w):=(decide_eq_false (fun ⟨_,k,h1,h2,h3⟩=>h k h1 (by omega) h3)).symm
end
theorem QgT (n:Nat) (w:ByteArray) (hw:w.size≤maxLen):Pure (Qo Tryz.prog (n+3)) 154 [(tS w)] (tS (hdS w)):=by
 refine Pure.intro (rs:= [ResultVar.tmp 2]) Tryz.func154 Y Y Y (E0:= [(0,(tS w))]) Y ?_
 obtain ⟨hlim,hmx,hmax⟩:=Qz
 refine sr (fO (OF.assign (VEv.str (⟨#[]⟩:ByteArray))) (nt (sq (sr (mO (tS w) Y (cO (cS (vc (tv (tS w) Y) vn) (Zg Y) (Zm (n+0) w (by first | assumption | omega)) Y Y) (fO (QU (tv (tB (decide (Qm w))) Y)) (nt ?_))))))))
 refine cn (Qm w) Y (fun fhc0=> ?_) fun fhc0=> ?_
 ·refine sr ?_
  refine fO (OF.assign (VEv.str (⟨#[]⟩:ByteArray))) (nt (rt (tr ?_)))
  refine vfin.eq (r':=(tS (⟨#[]⟩:ByteArray))) ?_ (vfin.r (VRes.tmp (t:=(tS (⟨#[]⟩:ByteArray))) Y VRes.nil) (Give.str _))
  refine congrArg T.str ?_
  exact (if_neg fhc0).symm
 have hw1:=fhc0.1
 refine sk (tn (sr (mO (tS w) Y (lO (OL.sliceSHi (j:=1) (tv (tS w) Y) (VEv.int .i64 1) Y (by first | omega | (simp only [List.length_map];omega) | (simp only [List.length_map,List.length_append,List.length_cons,List.length_nil,List.length_replicate,List.length_set,List.length_drop,List.length_take,Zk] at *;omega)) U9) (aO (tS (w.extract 0 1)) Y (nt (rt ?_)))))))
 refine vfin.eq (r':=(tS (w.extract 0 1))) ?_ (vfin.r (VRes.tmp (t:=(tS (w.extract 0 1))) Y VRes.nil) (Give.str _))
 refine congrArg T.str ?_
 exact (if_pos fhc0).symm
theorem QgV (n:Nat) (w:ByteArray) (hw:w.size≤maxLen):Pure (Qo Tryz.prog (n+3)) 162 [(tS w)] (tS (hdS w)):=by
 refine Pure.intro (rs:= [ResultVar.tmp 2]) Tryz.func162 Y Y Y (E0:= [(0,(tS w))]) Y ?_
 obtain ⟨hlim,hmx,hmax⟩:=Qz
 refine sr (fO (OF.assign (VEv.str (⟨#[]⟩:ByteArray))) (nt (sq (sr (mO (tS w) Y (cO (cS (vc (tv (tS w) Y) vn) (Zg Y) (Zn (n+0) w (by first | assumption | omega)) Y Y) (fO (QU (tv (tB (decide (Qm w))) Y)) (nt ?_))))))))
 refine cn (Qm w) Y (fun fhc0=> ?_) fun fhc0=> ?_
 ·refine sr ?_
  refine fO (OF.assign (VEv.str (⟨#[]⟩:ByteArray))) (nt (rt (tr ?_)))
  refine vfin.eq (r':=(tS (⟨#[]⟩:ByteArray))) ?_ (vfin.r (VRes.tmp (t:=(tS (⟨#[]⟩:ByteArray))) Y VRes.nil) (Give.str _))
  refine congrArg T.str ?_
  exact (if_neg fhc0).symm
 have hw1:=fhc0.1
 refine sk (tn (sr (mO (tS w) Y (lO (OL.sliceSHi (j:=1) (tv (tS w) Y) (VEv.int .i64 1) Y (by first | omega | (simp only [List.length_map];omega) | (simp only [List.length_map,List.length_append,List.length_cons,List.length_nil,List.length_replicate,List.length_set,List.length_drop,List.length_take,Zk] at *;omega)) U9) (aO (tS (w.extract 0 1)) Y (nt (rt ?_)))))))
 refine vfin.eq (r':=(tS (w.extract 0 1))) ?_ (vfin.r (VRes.tmp (t:=(tS (w.extract 0 1))) Y VRes.nil) (Give.str _))
 refine congrArg T.str ?_
 exact (if_pos fhc0).symm
theorem QcY (n:Nat) (w:ByteArray) (hw:w.size≤maxLen):Pure (Qo Tryz.prog (n+3)) 155 [(tS w)] (tS (nhS w)):=by
 refine Pure.intro (rs:= [ResultVar.tmp 2]) Tryz.func155 Y Y Y (E0:= [(0,(tS w))]) Y ?_
 obtain ⟨hlim,hmx,hmax⟩:=Qz
 refine sr (fO (OF.assign (VEv.str (⟨#[]⟩:ByteArray))) (nt (sq (sr (mO (tS w) Y (cO (cS (vc (tv (tS w) Y) vn) (Zg Y) (Zm (n+0) w (by first | assumption | omega)) Y Y) (fO (QU (tv (tB (decide (Qm w))) Y)) (nt ?_))))))))
 refine cn (Qm w) Y (fun fhc0=> ?_) fun fhc0=> ?_
 ·refine sr ?_
  refine fO (OF.assign (VEv.str (⟨#[]⟩:ByteArray))) (nt (rt (tr ?_)))
  refine vfin.eq (r':=(tS (⟨#[]⟩:ByteArray))) ?_ (vfin.r (VRes.tmp (t:=(tS (⟨#[]⟩:ByteArray))) Y VRes.nil) (Give.str _))
  refine congrArg T.str ?_
  exact (if_neg fhc0).symm
 have hw1:=fhc0.1
 refine sk (tn (sr (mO (tS w) Y (lO (OL.sliceSLo (i:=1) (tv (tS w) Y) (VEv.int .i64 1) Y (by first | omega | (simp only [List.length_map];omega) | (simp only [List.length_map,List.length_append,List.length_cons,List.length_nil,List.length_replicate,List.length_set,List.length_drop,List.length_take,Zk] at *;omega)) U9) (aO (tS (w.extract 1 w.size)) Y (nt (rt ?_)))))))
 refine vfin.eq (r':=(tS (w.extract 1 w.size))) ?_ (vfin.r (VRes.tmp (t:=(tS (w.extract 1 w.size))) Y VRes.nil) (Give.str _))
 refine congrArg T.str ?_
 exact (if_pos fhc0).symm
theorem Qc4 (n:Nat) (w:ByteArray) (hw:w.size≤maxLen):Pure (Qo Tryz.prog (n+3)) 163 [(tS w)] (tS (nhS w)):=by
 refine Pure.intro (rs:= [ResultVar.tmp 2]) Tryz.func163 Y Y Y (E0:= [(0,(tS w))]) Y ?_
 obtain ⟨hlim,hmx,hmax⟩:=Qz
 refine sr (fO (OF.assign (VEv.str (⟨#[]⟩:ByteArray))) (nt (sq (sr (mO (tS w) Y (cO (cS (vc (tv (tS w) Y) vn) (Zg Y) (Zn (n+0) w (by first | assumption | omega)) Y Y) (fO (QU (tv (tB (decide (Qm w))) Y)) (nt ?_))))))))
 refine cn (Qm w) Y (fun fhc0=> ?_) fun fhc0=> ?_
 ·refine sr ?_
  refine fO (OF.assign (VEv.str (⟨#[]⟩:ByteArray))) (nt (rt (tr ?_)))
  refine vfin.eq (r':=(tS (⟨#[]⟩:ByteArray))) ?_ (vfin.r (VRes.tmp (t:=(tS (⟨#[]⟩:ByteArray))) Y VRes.nil) (Give.str _))
  refine congrArg T.str ?_
  exact (if_neg fhc0).symm
 have hw1:=fhc0.1
 refine sk (tn (sr (mO (tS w) Y (lO (OL.sliceSLo (i:=1) (tv (tS w) Y) (VEv.int .i64 1) Y (by first | omega | (simp only [List.length_map];omega) | (simp only [List.length_map,List.length_append,List.length_cons,List.length_nil,List.length_replicate,List.length_set,List.length_drop,List.length_take,Zk] at *;omega)) U9) (aO (tS (w.extract 1 w.size)) Y (nt (rt ?_)))))))
 refine vfin.eq (r':=(tS (w.extract 1 w.size))) ?_ (vfin.r (VRes.tmp (t:=(tS (w.extract 1 w.size))) Y VRes.nil) (Give.str _))
 refine congrArg T.str ?_
 exact (if_pos fhc0).symm
theorem Qdf (n:Nat) (w:ByteArray) (hw:w.size≤maxLen):Pure (Qo Tryz.prog (n+3)) 156 [(tS w)] (tS (ntS w)):=by
 refine Pure.intro (rs:= [ResultVar.tmp 2]) Tryz.func156 Y Y Y (E0:= [(0,(tS w))]) Y ?_
 obtain ⟨hlim,hmx,hmax⟩:=Qz
 refine sr (fO (OF.assign (VEv.str (⟨#[]⟩:ByteArray))) (nt (sq (sr (mO (tS w) Y (cO (cS (vc (tv (tS w) Y) vn) (Zg Y) (Zm (n+0) w (by first | assumption | omega)) Y Y) (fO (QU (tv (tB (decide (Qm w))) Y)) (nt ?_))))))))
 refine cn (Qm w) Y (fun fhc0=> ?_) fun fhc0=> ?_
 ·refine sr ?_
  refine fO (OF.assign (VEv.str (⟨#[]⟩:ByteArray))) (nt (rt (tr ?_)))
  refine vfin.eq (r':=(tS (⟨#[]⟩:ByteArray))) ?_ (vfin.r (VRes.tmp (t:=(tS (⟨#[]⟩:ByteArray))) Y VRes.nil) (Give.str _))
  refine congrArg T.str ?_
  exact (if_neg fhc0).symm
 have hw1:=fhc0.1
 refine sk (tn (sr (mO (tS w) Y (mO (tS w) Y (lO (B.lenS (tv (tS w) Y) U9) (fO (B.sub (n:=(((w.size:Nat):Int) - 1)) (tv (tN w.size) Y) (VEv.int .i64 1) (by first | rfl | (rw [Qs (by omega)];omega) | (rw [Qs (by omega)];done))) (lO (OL.sliceSHi (j:=(Int.toNat (((w.size:Nat):Int) - 1))) (tv (tS w) Y) (tv (tI (((w.size:Nat):Int) - 1)) Y) (by omega) (by first | omega | (simp only [List.length_map];omega) | (simp only [List.length_map,List.length_append,List.length_cons,List.length_nil,List.length_replicate,List.length_set,List.length_drop,List.length_take,Zk] at *;omega)) U9) (aO (tS (w.extract 0 (Int.toNat (((w.size:Nat):Int) - 1)))) Y (nt (rt ?_))))))))))
 refine vfin.eq (r':=(tS (w.extract 0 (Int.toNat (((w.size:Nat):Int) - 1))))) ?_ (vfin.r (VRes.tmp (t:=(tS (w.extract 0 (Int.toNat (((w.size:Nat):Int) - 1))))) Y VRes.nil) (Give.str _))
 refine congrArg T.str ?_
 rw [ntS,if_pos fhc0];first | rfl | (congr 1;omega)
theorem Qc2 (n:Nat) (w:ByteArray) (hw:w.size≤maxLen):Pure (Qo Tryz.prog (n+3)) 164 [(tS w)] (tS (ntS w)):=by
 refine Pure.intro (rs:= [ResultVar.tmp 2]) Tryz.func164 Y Y Y (E0:= [(0,(tS w))]) Y ?_
 obtain ⟨hlim,hmx,hmax⟩:=Qz
 refine sr (fO (OF.assign (VEv.str (⟨#[]⟩:ByteArray))) (nt (sq (sr (mO (tS w) Y (cO (cS (vc (tv (tS w) Y) vn) (Zg Y) (Zn (n+0) w (by first | assumption | omega)) Y Y) (fO (QU (tv (tB (decide (Qm w))) Y)) (nt ?_))))))))
 refine cn (Qm w) Y (fun fhc0=> ?_) fun fhc0=> ?_
 ·refine sr ?_
  refine fO (OF.assign (VEv.str (⟨#[]⟩:ByteArray))) (nt (rt (tr ?_)))
  refine vfin.eq (r':=(tS (⟨#[]⟩:ByteArray))) ?_ (vfin.r (VRes.tmp (t:=(tS (⟨#[]⟩:ByteArray))) Y VRes.nil) (Give.str _))
  refine congrArg T.str ?_
  exact (if_neg fhc0).symm
 have hw1:=fhc0.1
 refine sk (tn (sr (mO (tS w) Y (mO (tS w) Y (lO (B.lenS (tv (tS w) Y) U9) (fO (B.sub (n:=(((w.size:Nat):Int) - 1)) (tv (tN w.size) Y) (VEv.int .i64 1) (by first | rfl | (rw [Qs (by omega)];omega) | (rw [Qs (by omega)];done))) (lO (OL.sliceSHi (j:=(Int.toNat (((w.size:Nat):Int) - 1))) (tv (tS w) Y) (tv (tI (((w.size:Nat):Int) - 1)) Y) (by omega) (by first | omega | (simp only [List.length_map];omega) | (simp only [List.length_map,List.length_append,List.length_cons,List.length_nil,List.length_replicate,List.length_set,List.length_drop,List.length_take,Zk] at *;omega)) U9) (aO (tS (w.extract 0 (Int.toNat (((w.size:Nat):Int) - 1)))) Y (nt (rt ?_))))))))))
 refine vfin.eq (r':=(tS (w.extract 0 (Int.toNat (((w.size:Nat):Int) - 1))))) ?_ (vfin.r (VRes.tmp (t:=(tS (w.extract 0 (Int.toNat (((w.size:Nat):Int) - 1))))) Y VRes.nil) (Give.str _))
 refine congrArg T.str ?_
 rw [ntS,if_pos fhc0];first | rfl | (congr 1;omega)
theorem Qfh (n:Nat) (p:ByteArray) (w:ByteArray) (hp:p.size≤maxLen) (hw:w.size≤maxLen):Pure (Qo Tryz.prog (n+3)) 157 [(tS p),(tS w)] (tB (decide (Qd2 p w))):=by
 refine Pure.intro (rs:= [ResultVar.tmp 4]) Tryz.func157 Y Y Y (E0:= [(0,(tS p)),(1,(tS w))]) Y ?_
 obtain ⟨hlim,hmx,hmax⟩:=Qz
 refine sr (fO (OF.assign (VEv.bool false)) (nt (sq (sr (mO (tS p) Y (cO (cS (vc (tv (tS p) Y) vn) (Zg Y) (Zm (n+0) p (by first | assumption | omega)) Y Y) (fO (QU (tv (tB (decide (Qm p))) Y)) (mO (tB (!(decide (Qm p)))) Y ?_))))))))
 refine gn (Qm p) (fun fhg9_1=> ?_) fun fhg9_1=> ?_
 ·refine QD 3 3 false 9 (ny fhg9_1) Y Y Y ?_
  refine fO (OF.pickT (VEv.tmpB Y (ny fhg9_1)) (VEv.bool true)) (nt (ct Y (sr (fO (OF.assign (VEv.bool false)) (nt (rt (tr (vb (b':=false) Y ?_))))))))
  first | exact QaE fhg9_1 | exact QaC fhc0 | exact QbU fhg9_1 fhc0 hI1.1 fhc1 fhc2 | exact Qb5 hI2 fhc1
 refine gF (nz fhg9_1) Y Y (OF.move (tv (tS w) Y)) (VRunO.chain (VWant.on Y Y (nz fhg9_1)) (cS (vc (tv (tS w) Y) vn) (Zg Y) (Zm (n+0) w (by first | assumption | omega)) Y Y) (gF (nz fhg9_1) Y Y (QU (tv (tB (decide (Qm w))) Y)) (fO (OF.pickF (VEv.tmpB Y (nz fhg9_1)) (tv (tB (!(decide (Qm w)))) Y)) (nt ?_))))
 refine cn (Qm w) Y (fun fhc0=> ?_) fun fhc0=> ?_
 ·refine sr ?_
  refine fO (OF.assign (VEv.bool false)) (nt (rt (tr (vb (b':=false) Y ?_))))
  first | exact QaE fhg9_1 | exact QaC fhc0 | exact QbU fhg9_1 fhc0 hI1.1 fhc1 fhc2 | exact Qb5 hI2 fhc1
 have hp1:=fhg9_1.1
 have hw1:=fhc0.1
 refine sk (tn (sq (sr (fO (OF.assign (VEv.int .i64 1)) (nt (VRun.block ?_))))))
 refine VRun.loop (A:=Nat) (fun s_=> [(0,(tS p)),(1,(tS w)),(5,(tN s_))]) (fun s_=>QV []) 0 (fun s_=>(1≤s_∧s_≤9)∧QiO p w s_) (fun s_=>w.size - s_) (1:Nat) ?_ (Wk.mk (fun k=>k) ?_ ?_ ?_) ?_
 ·exact ⟨⟨Nat.le_refl 1,by decide⟩,QmA p w⟩
 ·exact (b2 (b2 (b2 bn)))
 ·exact bn
 ·exact nd Y
 rintro i (hI':(1≤i∧i≤9)∧QiO p w i)
 show VRun _ _ _ [(0,(tS p)),(1,(tS w)),(5,(tN i))] (QV []) 0 _
 have hI1:=hI'.1
 have hI2:=hI'.2
 refine sq (sr (mO (tN i) Y (mO (tS p) Y (lO (B.lenS (tv (tS p) Y) U9) (fO (B.add (n:=(((i+p.size):Nat):Int)) (tv (tN i) Y) (tv (tN p.size) Y) (by first | rfl | (rw [Qs (by omega)];omega) | (rw [Qs (by omega)];done))) (mO (tS w) Y (lO (B.lenS (tv (tS w) Y) U9) (fO (Q9 (tv (tN (i+p.size)) Y) (tv (tN w.size) Y)) (nt ?_)))))))))
 refine cd ((i+p.size)<w.size) Y (fun fhc1=> ?_) fun fhc1=> ?_
 ·refine sk ?_
  refine tn (sq (VRun.block (sr (mO (tS w) Y (mO (tN i) Y (mO (tN i) Y (mO (tS p) Y (lO (B.lenS (tv (tS p) Y) U9) (fO (B.add (n:=(((i+p.size):Nat):Int)) (tv (tN i) Y) (tv (tN p.size) Y) (by first | rfl | (rw [Qs (by omega)];omega) | (rw [Qs (by omega)];done))) (lO (OL.sliceS (i:=i) (j:=(i+p.size)) (tv (tS w) Y) (tv (tN i) Y) (tv (tN (i+p.size)) Y) Y Y (by first | omega | (simp only [List.length_map];omega) | (simp only [List.length_map,List.length_append,List.length_cons,List.length_nil,List.length_replicate,List.length_set,List.length_drop,List.length_take,Zk] at *;omega)) (by first | omega | (simp only [List.length_map];omega) | (simp only [List.length_map,List.length_append,List.length_cons,List.length_nil,List.length_replicate,List.length_set,List.length_drop,List.length_take,Zk] at *;omega)) U9) (mO (tS p) Y ?_)))))))))))
  refine fO (B.seql (c:=(decide ((w.extract i (i+p.size))=p))) (tv (tS (w.extract i (i+p.size))) Y) (tv (tS p) Y) Y) (nt ?_)
  refine cd ((w.extract i (i+p.size))=p) Y (fun fhc2=> ?_) fun fhc2=> ?_
  ·refine sr ?_
   refine fO (OF.assign (VEv.bool true)) (nt (rt (vinB.r (tr (tr (vinB.r (tr (vb (b':=true) Y ?_))))))))
   first | exact QaE fhg9_1 | exact QaC fhc0 | exact QbU fhg9_1 fhc0 hI1.1 fhc1 fhc2 | exact Qb5 hI2 fhc1
  refine sk (vinB.n (tn (VRun.region (mO (tN i) Y (fO (QB (tv (tN i) Y) (VEv.int .i64 1) (by omega)) (aO (tN (i+1)) Y (VRunO.nil (tn ?_))))))))
  refine ⟨(i+1:Nat),?_,?_,Wk.mk (fun k=>k) ?_ ?_ ?_⟩
  ·exact ⟨⟨by omega,by omega⟩,Qhd hI2 fhc2⟩
  ·first | omega | (simp only [];omega) | (show _<_;omega) | (simp;omega)
  ·exact (b2 (b2 (b2 bn)))
  ·exact bn
  ·exact nd Y
 refine VRun.exit (vthn.e (vthn.e (vinB.e (tn (sr (fO (OF.assign (VEv.bool false)) (nt (rt (vb (b':=false) Y ?_)))))))))
 first | exact QaE fhg9_1 | exact QaC fhc0 | exact QbU fhg9_1 fhc0 hI1.1 fhc1 fhc2 | exact Qb5 hI2 fhc1
theorem Qfd (n:Nat) (p:ByteArray) (w:ByteArray) (hp:p.size≤maxLen) (hw:w.size≤maxLen):Pure (Qo Tryz.prog (n+3)) 165 [(tS p),(tS w)] (tB (decide (Qd2 p w))):=by
 refine Pure.intro (rs:= [ResultVar.tmp 4]) Tryz.func165 Y Y Y (E0:= [(0,(tS p)),(1,(tS w))]) Y ?_
 obtain ⟨hlim,hmx,hmax⟩:=Qz
 refine sr (fO (OF.assign (VEv.bool false)) (nt (sq (sr (mO (tS p) Y (cO (cS (vc (tv (tS p) Y) vn) (Zg Y) (Zn (n+0) p (by first | assumption | omega)) Y Y) (fO (QU (tv (tB (decide (Qm p))) Y)) (mO (tB (!(decide (Qm p)))) Y ?_))))))))
 refine gn (Qm p) (fun fhg9_1=> ?_) fun fhg9_1=> ?_
 ·refine QD 3 3 false 9 (ny fhg9_1) Y Y Y ?_
  refine fO (OF.pickT (VEv.tmpB Y (ny fhg9_1)) (VEv.bool true)) (nt (ct Y (sr (fO (OF.assign (VEv.bool false)) (nt (rt (tr (vb (b':=false) Y ?_))))))))
  first | exact QaE fhg9_1 | exact QaC fhc0 | exact QbU fhg9_1 fhc0 hI1.1 fhc1 fhc2 | exact Qb5 hI2 fhc1
 refine gF (nz fhg9_1) Y Y (OF.move (tv (tS w) Y)) (VRunO.chain (VWant.on Y Y (nz fhg9_1)) (cS (vc (tv (tS w) Y) vn) (Zg Y) (Zn (n+0) w (by first | assumption | omega)) Y Y) (gF (nz fhg9_1) Y Y (QU (tv (tB (decide (Qm w))) Y)) (fO (OF.pickF (VEv.tmpB Y (nz fhg9_1)) (tv (tB (!(decide (Qm w)))) Y)) (nt ?_))))
 refine cn (Qm w) Y (fun fhc0=> ?_) fun fhc0=> ?_
 ·refine sr ?_
  refine fO (OF.assign (VEv.bool false)) (nt (rt (tr (vb (b':=false) Y ?_))))
  first | exact QaE fhg9_1 | exact QaC fhc0 | exact QbU fhg9_1 fhc0 hI1.1 fhc1 fhc2 | exact Qb5 hI2 fhc1
 have hp1:=fhg9_1.1
 have hw1:=fhc0.1
 refine sk (tn (sq (sr (fO (OF.assign (VEv.int .i64 1)) (nt (VRun.block ?_))))))
 refine VRun.loop (A:=Nat) (fun s_=> [(0,(tS p)),(1,(tS w)),(5,(tN s_))]) (fun s_=>QV []) 0 (fun s_=>(1≤s_∧s_≤9)∧QiO p w s_) (fun s_=>w.size - s_) (1:Nat) ?_ (Wk.mk (fun k=>k) ?_ ?_ ?_) ?_
 ·exact ⟨⟨Nat.le_refl 1,by decide⟩,QmA p w⟩
 ·exact (b2 (b2 (b2 bn)))
 ·exact bn
 ·exact nd Y
 rintro i (hI':(1≤i∧i≤9)∧QiO p w i)
 show VRun _ _ _ [(0,(tS p)),(1,(tS w)),(5,(tN i))] (QV []) 0 _
 have hI1:=hI'.1
 have hI2:=hI'.2
 refine sq (sr (mO (tN i) Y (mO (tS p) Y (lO (B.lenS (tv (tS p) Y) U9) (fO (B.add (n:=(((i+p.size):Nat):Int)) (tv (tN i) Y) (tv (tN p.size) Y) (by first | rfl | (rw [Qs (by omega)];omega) | (rw [Qs (by omega)];done))) (mO (tS w) Y (lO (B.lenS (tv (tS w) Y) U9) (fO (Q9 (tv (tN (i+p.size)) Y) (tv (tN w.size) Y)) (nt ?_)))))))))
 refine cd ((i+p.size)<w.size) Y (fun fhc1=> ?_) fun fhc1=> ?_
 ·refine sk ?_
  refine tn (sq (VRun.block (sr (mO (tS w) Y (mO (tN i) Y (mO (tN i) Y (mO (tS p) Y (lO (B.lenS (tv (tS p) Y) U9) (fO (B.add (n:=(((i+p.size):Nat):Int)) (tv (tN i) Y) (tv (tN p.size) Y) (by first | rfl | (rw [Qs (by omega)];omega) | (rw [Qs (by omega)];done))) (lO (OL.sliceS (i:=i) (j:=(i+p.size)) (tv (tS w) Y) (tv (tN i) Y) (tv (tN (i+p.size)) Y) Y Y (by first | omega | (simp only [List.length_map];omega) | (simp only [List.length_map,List.length_append,List.length_cons,List.length_nil,List.length_replicate,List.length_set,List.length_drop,List.length_take,Zk] at *;omega)) (by first | omega | (simp only [List.length_map];omega) | (simp only [List.length_map,List.length_append,List.length_cons,List.length_nil,List.length_replicate,List.length_set,List.length_drop,List.length_take,Zk] at *;omega)) U9) (mO (tS p) Y ?_)))))))))))
  refine fO (B.seql (c:=(decide ((w.extract i (i+p.size))=p))) (tv (tS (w.extract i (i+p.size))) Y) (tv (tS p) Y) Y) (nt ?_)
  refine cd ((w.extract i (i+p.size))=p) Y (fun fhc2=> ?_) fun fhc2=> ?_
  ·refine sr ?_
   refine fO (OF.assign (VEv.bool true)) (nt (rt (vinB.r (tr (tr (vinB.r (tr (vb (b':=true) Y ?_))))))))
   first | exact QaE fhg9_1 | exact QaC fhc0 | exact QbU fhg9_1 fhc0 hI1.1 fhc1 fhc2 | exact Qb5 hI2 fhc1
  refine sk (vinB.n (tn (VRun.region (mO (tN i) Y (fO (QB (tv (tN i) Y) (VEv.int .i64 1) (by omega)) (aO (tN (i+1)) Y (VRunO.nil (tn ?_))))))))
  refine ⟨(i+1:Nat),?_,?_,Wk.mk (fun k=>k) ?_ ?_ ?_⟩
  ·exact ⟨⟨by omega,by omega⟩,Qhd hI2 fhc2⟩
  ·first | omega | (simp only [];omega) | (show _<_;omega) | (simp;omega)
  ·exact (b2 (b2 (b2 bn)))
  ·exact bn
  ·exact nd Y
 refine VRun.exit (vthn.e (vthn.e (vinB.e (tn (sr (fO (OF.assign (VEv.bool false)) (nt (rt (vb (b':=false) Y ?_)))))))))
 first | exact QaE fhg9_1 | exact QaC fhc0 | exact QbU fhg9_1 fhc0 hI1.1 fhc1 fhc2 | exact Qb5 hI2 fhc1
noncomputable section
def YV (w:ByteArray):ByteArray:=if Qm w then Q4 (QK (Zo w)) else ⟨#[]⟩
def oL (l:List Int):Nat→List Int
 | 0=> []
 | k+1=>oL l k++l.filter (fun y=>decide (y=97+(k:Int)))
theorem QlE {l:List Int} {y:Int}:∀ {k:Nat},y∈oL l k→y<97+(k:Int)
 | 0,h=>absurd h List.not_mem_nil
 | k+1,h=>by
  rcases List.mem_append.1 h with h | h
  ·have:=QlE h
   omega
  ·have:=of_decide_eq_true (List.mem_filter.1 h).2
   omega
theorem Qmf (l:List Int):∀k,(oL l k).Pairwise (· ≤ ·)
 | 0=>List.Pairwise.nil
 | k+1=>by
  refine List.pairwise_append.2 ⟨Qmf l k,?_,fun y hy z hz=> ?_⟩
  ·rw [List.pairwise_iff_forall_sublist]
   intro a b hs
   have h1:=of_decide_eq_true (List.mem_filter.1 (hs.subset (List.mem_cons_self ..))).2
   have h2:=of_decide_eq_true (List.mem_filter.1 (hs.subset (List.mem_cons_of_mem _ (List.mem_cons_self ..)))).2
   omega
  ·have h1:=QlE hy
   have h2:=of_decide_eq_true (List.mem_filter.1 hz).2
   omega
theorem QmB (l:List Int) (y:Int):∀k:Nat,(oL l k).count y=if 97≤y∧y<97+(k:Int) then l.count y else 0
 | 0=>by
  rw [if_neg (by omega)]
  rfl
 | k+1=>by
  rw [oL,List.count_append,QmB l y k]
  by_cases h:y=97+(k:Int)
  ·rw [if_neg (by omega),if_pos (by omega),List.count_filter (by simpa using h)]
   omega
  ·have h0:(l.filter (fun z=>decide (z=97+(k:Int)))).count y=0:=List.count_eq_zero.2 (fun hm=>h (of_decide_eq_true (List.mem_filter.1 hm).2))
   rw [h0,Nat.add_zero]
   by_cases h1:97≤y∧y<97+(k:Int)
   ·rw [if_pos h1,if_pos (by omega)]
   ·rw [if_neg h1,if_neg (by omega)]
theorem Qn7 {l:List Int} (h:∀y∈l,97≤y∧y≤122):oL l 26=QK l:=by
 refine List.Perm.eq_of_pairwise (fun a b _ _ h1 h2=>Int.le_antisymm h1 h2) (Qmf l 26) (QfJ l) (List.perm_iff_count.2 (fun y=> ?_))
 rw [QmB,(Qja l).count_eq]
 split
 ·rfl
 ·rename_i hn
  refine (List.count_eq_zero.2 (fun hm=>hn ?_)).symm
  have:=h y hm
  omega
theorem Qbd {w:ByteArray} (h:Qm w):∀y∈Zo w,97≤y∧y≤122:=fun y hy=>by
 obtain ⟨i,hi,rfl⟩:=List.getElem_of_mem hy
 rw [Ya] at hi
 have:=QhR hi
 rw [List.getElem?_eq_getElem (by rw [Ya];exact hi)] at this
 rw [Option.some.inj this]
 exact h.2 i hi
def oI (w:ByteArray) (k i:Nat):List Int:=oL (Zo w) k++((Zo w).take i).filter (fun y=>decide (y=97+(k:Int)))
theorem Qky {w:ByteArray} {k i:Nat} (h:i<w.size):oI w k (i+1)=oI w k i++(if Qy w i=97+(k:Int) then [Qy w i] else []):=by
 unfold oI
 rw [← QfI h,List.filter_append,List.append_assoc]
 by_cases hp:Qy w i=97+(k:Int)
 ·rw [if_pos hp];simp [hp]
 ·rw [if_neg hp];simp [hp]
theorem Qlk (a b:List Int):Q4 (a++b)=Q4 a++Q4 b:=by
 apply ByteArray.ext
 apply Array.ext'
 rw [ByteArray.data_append,Array.toList_append,ZQ,ZQ,ZQ,List.map_append]
theorem Qlp {w:ByteArray} {i:Nat} (h:i<w.size):Q4 [Qy w i]=w.extract i (i+1):=by
 apply ByteArray.ext
 apply Array.ext'
 simp only [ByteArray.data_extract,Array.toList_extract,ZQ,List.extract_eq_take_drop]
 rw [← Qjm w,← List.map_drop,← List.map_take]
 congr 1
 have h1:i<(Zo w).length:=by rw [Ya];exact h
 have h2:=QhR h
 rw [List.getElem?_eq_getElem h1] at h2
 rw [List.drop_eq_getElem_cons h1,Option.some.inj h2,show i+1 - i=1 by omega]
 rfl
theorem QlN (l:List Int):∀k,(oL l k).length≤l.length*k
 | 0=>Nat.zero_le _
 | k+1=>by
  have:=QlN l k
  have h2:=List.length_filter_le (fun y=>decide (y=97+(k:Int))) l
  rw [oL,List.length_append,Nat.mul_succ]
  omega
theorem QkY (l:List Int):(Q4 l).size=l.length:=by
 have:=congrArg List.length (ZQ l)
 rw [List.length_map,Array.length_toList] at this
 exact this
theorem Qo6 {w:ByteArray} (h:w.size≤8) {k i:Nat} (hk:k≤26):(Q4 (oI w k i)).size≤216:=by
 have h1:=QlN (Zo w) k
 have h2:=List.length_filter_le (fun y=>decide (y=97+(k:Int))) ((Zo w).take i)
 have h3:((Zo w).take i).length≤(Zo w).length:=by rw [List.length_take];omega
 have h4:(Zo w).length*k≤8*26:=Nat.mul_le_mul (by rw [Ya];exact h) hk
 rw [Ya] at *
 rw [QkY,oI,List.length_append]
 omega
theorem Qow {w:ByteArray} {k i:Nat} (h:i<w.size) (hp:Qy w i=97+(k:Int)):Q4 (oI w k i)++w.extract i (i+1)=Q4 (oI w k (i+1)):=by
 rw [Qky h,if_pos hp,Qlk,Qlp h]
theorem Qom {w:ByteArray} {k i:Nat} (h:i<w.size) (hp:¬Qy w i=97+(k:Int)):Q4 (oI w k i)=Q4 (oI w k (i+1)):=by
 rw [Qky h,if_neg hp,List.append_nil]
theorem QnZ (w:ByteArray) (k:Nat):Q4 (oL (Zo w) k)=Q4 (oI w k 0):=by rw [oI,List.take_zero,List.filter_nil,List.append_nil]
theorem Qik {w:ByteArray} {k i:Nat} (h:¬i<w.size):Q4 (oI w k i)=Q4 (oL (Zo w) (k+1)):=by
 rw [oI,List.take_of_length_le (by rw [Ya];omega)]
 rfl
theorem Qnz {w:ByteArray} {k:Nat} (hk:k=26) (h:Qm w):Q4 (oL (Zo w) k)=YV w:=by
 rw [hk,Qn7 (Qbd h),YV,if_pos h]
theorem QkG {w:ByteArray} {k:Nat} (h:¬Qm w) (hk:0<k→Qm w):Q4 (oL (Zo w) k)=YV w:=by
 rcases Nat.eq_zero_or_pos k with rfl | h1
 ·rw [YV,if_neg h]
  rfl
 ·exact absurd (hk h1) h
theorem QaW {n:Int} (h: -2147483648≤n∧n<2147483648):IntKind.i32.wrap n=n:=by
 rw [IntKind.wrap_i32]
 omega
theorem QpY {w:ByteArray} (h:Qm w) {i:Nat} (hi:i<w.size):IntKind.i32.wrap (Qy w i)=Qy w i:=by
 have:=h.2 i hi
 exact QaW (by omega)
def reB (a b:ByteArray):Prop:=(Qm a∧Qm b)∧¬a=b∧YV a=YV b
instance (a b:ByteArray):Decidable (reB a b):=Classical.propDecidable _
end
theorem Qaj (n:Nat) (w:ByteArray) (hw:w.size≤maxLen):Pure (Qo Tryz.prog (n+3)) 172 [(tS w)] (tS (YV w)):=by
 refine Pure.intro (rs:= [ResultVar.tmp 2]) Tryz.func172 Y Y Y (E0:= [(0,(tS w))]) Y ?_
 obtain ⟨hlim,hmx,hmax⟩:=Qz
 refine sr (fO (OF.assign (VEv.str (⟨#[]⟩:ByteArray))) (nt (sr (fO (OF.assign (VEv.str (⟨#[]⟩:ByteArray))) (nt (sq (sr (fO (OF.assign (VEv.int .i32 97)) (nt (VRun.block ?_))))))))))
 refine VRun.loop (A:=Nat) (fun s_=> [(0,(tS w)),(2,(tS (⟨#[]⟩:ByteArray))),(3,(tS (Q4 (oL (Zo w) s_)))),(4,(T.int .i32 (97+(s_:Int))))]) (fun s_=>QV []) 0 (fun s_=>s_≤26∧(0<s_→Qm w)) (fun s_=>26 - s_) (0:Nat) ?_ (Wk.mk (fun k=>k) ?_ ?_ ?_) ?_
 ·exact ⟨Nat.zero_le _,fun e=>absurd e (Nat.lt_irrefl 0)⟩
 ·exact (b2 (b2 (bc ⟨(congrArg T.str (show (⟨#[]⟩:ByteArray)=Q4 (oL (Zo w) 0) from (by first | rfl | assumption | rfl | exact Qik fhc1 | (simp_all;done)))),rfl⟩ (bc ⟨(congrArg (T.int .i32) (show 97=97+(0:Int) from (by first | rfl | omega | rfl | exact Qik fhc1 | (simp;done) | (push_cast;omega)))),rfl⟩ bn))))
 ·exact bn
 ·exact nd Y
 rintro k (hI':k≤26∧(0<k→Qm w))
 show VRun _ _ _ [(0,(tS w)),(2,(tS (⟨#[]⟩:ByteArray))),(3,(tS (Q4 (oL (Zo w) k)))),(4,(T.int .i32 (97+(k:Int))))] (QV []) 0 _
 have hI1:=hI'.1
 have hI2:=hI'.2
 refine sq (sr (mO (T.int .i32 (97+(k:Int))) Y (fO (xle (tv (T.int .i32 (97+(k:Int))) Y) (VEv.int .i32 122)) (mO (tB (decide (97+(k:Int)≤122))) Y ?_))))
 refine gw (97+(k:Int)≤122) (fun fhg8_1=> ?_) fun fhg8_1=> ?_
 ·refine gF (dy fhg8_1) Y Y (OF.move (tv (tS w) Y)) ?_
  refine VRunO.chain (VWant.on Y Y (dy fhg8_1)) (cS (vc (tv (tS w) Y) vn) (Zg Y) (Zm (n+0) w (by first | (rw [QaW (by omega)]) | (rw [ByteArray.size_extract];omega) | assumption | omega)) Y Y) (fO (OF.pickT (VEv.tmpB Y (dy fhg8_1)) (tv (tB (decide (Qm w))) Y)) (nt ?_))
  refine cd (Qm w) Y (fun fhc0=> ?_) fun fhc0=> ?_
  ·have hww:Qm w:=by assumption
   have hw8:=hww.1.2
   refine sk (tn (sq (VRun.block (sr (fO (OF.assign (VEv.int .i64 0)) (nt (VRun.block ?_)))))))
   refine VRun.loop (A:=Nat) (fun s_=> [(0,(tS w)),(2,(tS (⟨#[]⟩:ByteArray))),(3,(tS (Q4 (oI w k s_)))),(4,(T.int .i32 (97+(k:Int)))),(5,(tN s_))]) (fun s_=>QV []) 0 (fun s_=>s_≤w.size) (fun s_=>w.size - s_) (0:Nat) ?_ (Wk.mk (fun k=>k) ?_ ?_ ?_) ?_
   ·first | trivial | (simp;done) | omega | (constructor<;>simp)
   ·exact (b2 (b2 (bc ⟨(congrArg T.str (show Q4 (oL (Zo w) k)=Q4 (oI w k 0) from (by first | rfl | assumption | exact QnZ w k | (refine Qow ?_ ?_<;>omega) | (refine Qom ?_ ?_<;>omega) | (simp_all;done)))),rfl⟩ (b2 (b2 bn)))))
   ·exact bn
   ·exact nd Y
   rintro i (hI':i≤w.size)
   show VRun _ _ _ [(0,(tS w)),(2,(tS (⟨#[]⟩:ByteArray))),(3,(tS (Q4 (oI w k i)))),(4,(T.int .i32 (97+(k:Int)))),(5,(tN i))] (QV []) 0 _
   have hJ1:=hI'
   have hsz:=Qo6 (i:=i) hw8 hI1
   refine sq (sr (mO (tN i) Y (mO (tS w) Y (lO (B.lenS (tv (tS w) Y) U9) (fO (Q9 (tv (tN i) Y) (tv (tN w.size) Y)) (nt ?_))))))
   refine cd (i<w.size) Y (fun fhc1=> ?_) fun fhc1=> ?_
   ·have hwb:=QpY hww (i:=i) (by omega)
    refine sk (tn (sq (VRun.block (sr (mO (tS w) Y (mO (tN i) Y ?_))))))
    have hb2:i<w.size:=(by first | (rw [QaW (by omega)]) | (rw [ByteArray.size_extract];omega) | omega)
    refine fO (xix (tv (tS w) Y) (tv (tN i) Y) hb2 U9) (fO (OF.convI (tv (T.int .u8 (Qy w i)) Y) (k0:= .u8) U5 U21) (mO (T.int .i32 (97+(k:Int))) Y (fO (Yn (tv (T.int .i32 (IntKind.i32.wrap (Qy w i))) Y) (tv (T.int .i32 (97+(k:Int))) Y)) (nt ?_))))
    refine cd (IntKind.i32.wrap (Qy w i)=97+(k:Int)) Y (fun fhc2=> ?_) fun fhc2=> ?_
    ·refine VRun.region ?_
     refine mO (tS (Q4 (oI w k i))) Y (mO (tS w) Y (mO (tN i) Y (mO (tN i) Y (fO (QB (tv (tN i) Y) (VEv.int .i64 1) (by first | (rw [QaW (by omega)]) | (rw [ByteArray.size_extract];omega) | omega)) (lO (OL.sliceS (i:=i) (j:=(i+1)) (tv (tS w) Y) (tv (tN i) Y) (tv (tN (i+1)) Y) Y Y (by first | (rw [QaW (by omega)]) | (rw [ByteArray.size_extract];omega) | omega | (simp only [List.length_map];omega) | (simp only [List.length_map,List.length_append,List.length_cons,List.length_nil,List.length_replicate,List.length_set,List.length_drop,List.length_take,Zk] at *;omega)) (by first | (rw [QaW (by omega)]) | (rw [ByteArray.size_extract];omega) | omega | (simp only [List.length_map];omega) | (simp only [List.length_map,List.length_append,List.length_cons,List.length_nil,List.length_replicate,List.length_set,List.length_drop,List.length_take,Zk] at *;omega)) U9) (fO (B.sadd (tv (tS (Q4 (oI w k i))) Y) (tv (tS (w.extract i (i+1))) Y) (by first | (rw [QaW (by omega)]) | (rw [ByteArray.size_extract];omega) | omega | (simp only [List.length_map];omega) | (simp only [List.length_map,List.length_append,List.length_cons,List.length_nil,List.length_replicate,List.length_set,List.length_drop,List.length_take,Zk] at *;omega))) (aO (tS (Q4 (oI w k i)++(w.extract i (i+1)))) Y (VRunO.nil (vinB.n (tn (VRun.region ?_)))))))))))
     refine mO (tN i) Y (fO (QB (tv (tN i) Y) (VEv.int .i64 1) (by first | (rw [QaW (by omega)]) | (rw [ByteArray.size_extract];omega) | omega)) (aO (tN (i+1)) Y (VRunO.nil (tn ?_))))
     refine ⟨(i+1:Nat),?_,?_,Wk.mk (fun k=>k) ?_ ?_ ?_⟩
     ·first | trivial | omega | (simp;done) | exact ⟨by omega,hI'.2⟩
     ·first | omega | (simp only [];omega) | (show _<_;omega) | (simp;omega)
     ·exact (b2 (b2 (bc ⟨(congrArg T.str (show (Q4 (oI w k i)++(w.extract i (i+1)))=Q4 (oI w k (i+1)) from (by first | rfl | assumption | exact QnZ w k | (refine Qow ?_ ?_<;>omega) | (refine Qom ?_ ?_<;>omega) | (simp_all;done)))),rfl⟩ (b2 (b2 bn)))))
     ·exact bn
     ·exact nd Y
    refine sk (vinB.n (tn (VRun.region (mO (tN i) Y (fO (QB (tv (tN i) Y) (VEv.int .i64 1) (by first | (rw [QaW (by omega)]) | (rw [ByteArray.size_extract];omega) | omega)) (aO (tN (i+1)) Y (VRunO.nil (tn ?_))))))))
    refine ⟨(i+1:Nat),?_,?_,Wk.mk (fun k=>k) ?_ ?_ ?_⟩
    ·first | trivial | omega | (simp;done) | exact ⟨by omega,hI'.2⟩
    ·first | omega | (simp only [];omega) | (show _<_;omega) | (simp;omega)
    ·exact (b2 (b2 (bc ⟨(congrArg T.str (show Q4 (oI w k i)=Q4 (oI w k (i+1)) from (by first | rfl | assumption | exact QnZ w k | (refine Qow ?_ ?_<;>omega) | (refine Qom ?_ ?_<;>omega) | (simp_all;done)))),rfl⟩ (b2 (b2 bn)))))
    ·exact bn
    ·exact nd Y
   refine VRun.exit (vthn.e (vthn.e (vinB.e (vinB.n (tn (VRun.region (mO (T.int .i32 (97+(k:Int))) Y (fO (B.add (n:=(97+(k:Int)+1)) (tv (T.int .i32 (97+(k:Int))) Y) (VEv.int .i32 1) (by first | (rw [QaW (by omega)]) | (rw [ByteArray.size_extract];omega) | rfl | (rw [Qs (by omega)];omega) | (rw [Qs (by omega)];done))) (aO (T.int .i32 (97+(k:Int)+1)) Y (VRunO.nil (tn ?_)))))))))))
   refine ⟨(k+1:Nat),?_,?_,Wk.mk (fun k=>k) ?_ ?_ ?_⟩
   ·exact ⟨by omega,fun _=>hww⟩
   ·first | omega | (simp only [];omega) | (show _<_;omega) | (simp;omega)
   ·exact (b2 (b2 (bc ⟨(congrArg T.str (show Q4 (oI w k i)=Q4 (oL (Zo w) (k+1)) from (by first | rfl | assumption | rfl | exact Qik fhc1 | (simp_all;done)))),rfl⟩ (bc ⟨(congrArg (T.int .i32) (show (97+(k:Int)+1)=97+((k+1):Int) from (by first | rfl | omega | rfl | exact Qik fhc1 | (simp;done) | (push_cast;omega)))),rfl⟩ bn))))
   ·exact bn
   ·exact nd Y
  refine VRun.exit (vthn.e (vthn.e (vinB.e (tn (sr (mO (tS (Q4 (oL (Zo w) k))) Y (aO (tS (Q4 (oL (Zo w) k))) Y (nt (rt ?_)))))))))
  refine vfin.eq (r':=(tS (Q4 (oL (Zo w) k)))) ?_ (vfin.r (VRes.tmp (t:=(tS (Q4 (oL (Zo w) k)))) Y VRes.nil) (Give.str _))
  refine congrArg T.str ?_
  first | (refine QkG ?_ hI2;assumption) | (by_cases hww:Qm w;exact Qnz (by omega) hww;exact QkG hww hI2)
 refine QD 2 2 true 8 (dz fhg8_1) Y Y Y (fO (OF.pickF (VEv.tmpB Y (dz fhg8_1)) (VEv.bool false)) (nt (cf Y (VRun.exit (vthn.e (vthn.e (vinB.e (tn (sr (mO (tS (Q4 (oL (Zo w) k))) Y (aO (tS (Q4 (oL (Zo w) k))) Y ?_)))))))))))
 refine nt (rt ?_)
 refine vfin.eq (r':=(tS (Q4 (oL (Zo w) k)))) ?_ (vfin.r (VRes.tmp (t:=(tS (Q4 (oL (Zo w) k)))) Y VRes.nil) (Give.str _))
 refine congrArg T.str ?_
 first | (refine QkG ?_ hI2;assumption) | (by_cases hww:Qm w;exact Qnz (by omega) hww;exact QkG hww hI2)
theorem Qar (n:Nat) (w:ByteArray) (hw:w.size≤maxLen):Pure (Qo Tryz.prog (n+6)) 174 [(tS w)] (tS (YV w)):=by
 refine Pure.intro (rs:= [ResultVar.tmp 2]) Tryz.func174 Y Y Y (E0:= [(0,(tS w))]) Y ?_
 obtain ⟨hlim,hmx,hmax⟩:=Qz
 refine sr (fO (OF.assign (VEv.str (⟨#[]⟩:ByteArray))) (nt (sq (sr (mO (tS w) Y (cO (cS (vc (tv (tS w) Y) vn) (Zg Y) (Zn (n+3) w (by first | (rw [Ya];omega) | (rw [Y0,Ya];omega) | assumption | omega)) Y Y) (fO (QU (tv (tB (decide (Qm w))) Y)) (nt ?_))))))))
 refine cn (Qm w) Y (fun fhc0=> ?_) fun fhc0=> ?_
 ·refine sr ?_
  refine fO (OF.assign (VEv.str (⟨#[]⟩:ByteArray))) (nt (rt (tr ?_)))
  refine vfin.eq (r':=(tS (⟨#[]⟩:ByteArray))) ?_ (vfin.r (VRes.tmp (t:=(tS (⟨#[]⟩:ByteArray))) Y VRes.nil) (Give.str _))
  refine congrArg T.str ?_
  exact (if_neg fhc0).symm
 have hw8:=fhc0.1.2
 refine sk (tn (sr (mO (tS w) Y (kO (B.convSB (tv (tS w) Y) U9 Qbg U5) (aO (T.os 1 0 0 (((Zo w).map (Qw true)).length)) Y (nt (sr (mO (T.os 1 0 0 (((Zo w).map (Qw true)).length)) Y (cO (OC.callMut (rows:=((Zo w).map (Qw true))) (rows':=((QK (Zo w)).map (Qw true))) Y (vc (tv (T.os 1 0 0 (((Zo w).map (Qw true)).length)) Y) vn) Y Y bn (ZS (fun _=>rfl) _) (ZS (fun _=>rfl) _) (QaZ (n+0) (Zo w) (by first | (rw [Ya];omega) | (rw [Y0,Ya];omega) | assumption | omega))) (nt (sr ?_)))))))))))
 refine mO (T.os 1 0 0 (((Zo w).map (Qw true)).length)) Y (lO (B.convBS (l:=QK (Zo w)) (tv (T.os 1 0 0 (((Zo w).map (Qw true)).length)) Y) Y (by simp only [List.length_map,List.length_reverse,List.length_set,Y0]) Qbg U5 U9) (aO (tS (Q4 (QK (Zo w)))) Y (nt (rt ?_))))
 refine vfin.eq (r':=(tS (Q4 (QK (Zo w))))) ?_ (vfin.r (VRes.tmp (t:=(tS (Q4 (QK (Zo w))))) Y VRes.nil) (Give.str _))
 refine congrArg T.str ?_
 exact (if_pos fhc0).symm
theorem Qcu (n:Nat) (a:ByteArray) (b:ByteArray) (ha:a.size≤maxLen) (hb:b.size≤maxLen):Pure (Qo Tryz.prog (n+4)) 151 [(tS a),(tS b)] (tB (decide (reB a b))):=by
 refine Pure.intro (rs:= [ResultVar.tmp 4]) Tryz.func151 Y Y Y (E0:= [(0,(tS a)),(1,(tS b))]) Y ?_
 obtain ⟨hlim,hmx,hmax⟩:=Qz
 refine sr (fO (OF.assign (VEv.bool false)) (nt (sr (mO (tS a) Y (cO (cS (vc (tv (tS a) Y) vn) (Zg Y) (Zm (n+1) a (by first | assumption | omega)) Y Y) (mO (tB (decide (Qm a))) Y ?_))))))
 refine VRunO.joinB 3 [8,9] 10 (tB (decide ((Qm a)∧(Qm b)))) ?_ ?_
 ·refine gw (Qm a) (fun fhg7_1=> ?_) fun fhg7_1=> ?_
  ·refine gF (dy fhg7_1) Y Y (OF.move (tv (tS b) Y)) ?_
   refine VRunO.chain (VWant.on Y Y (dy fhg7_1)) (cS (vc (tv (tS b) Y) vn) (Zg Y) (Zm (n+1) b (by first | assumption | omega)) Y Y) (fO (OF.pickT (VEv.tmpB Y (dy fhg7_1)) (tv (tB (decide (Qm b))) Y)) (VRunO.nil ?_))
   exact jq (congrArg T.bool (kAT fhg7_1 Y)) (js Y (js Y (jn)))
  ·refine QD 2 2 true 7 (dz fhg7_1) Y Y Y ?_
   refine fO (OF.pickF (VEv.tmpB Y (dz fhg7_1)) (VEv.bool false)) (VRunO.nil ?_)
   exact jq (congrArg T.bool (kAF fhg7_1)) (js Y (js Y (jn)))
 refine mO (tB (decide ((Qm a)∧(Qm b)))) Y ?_
 refine VRunO.joinB 4 [12,13,14] 15 (tB (decide (((Qm a)∧(Qm b))∧(¬(a=b))))) ?_ ?_
 ·refine gw ((Qm a)∧(Qm b)) (fun fhg11_2=> ?_) fun fhg11_2=> ?_
  ·refine gF (dy fhg11_2) Y Y (OF.move (tv (tS a) Y)) ?_
   refine gF (dy fhg11_2) Y Y (OF.move (tv (tS b) Y)) (gF (dy fhg11_2) Y Y (B.sneq (c:=(!(decide (a=b)))) (tv (tS a) Y) (tv (tS b) Y) Y) (fO (OF.pickT (VEv.tmpB Y (dy fhg11_2)) (tv (tB (!(decide (a=b)))) Y)) (VRunO.nil ?_)))
   exact jq (congrArg T.bool (kAT fhg11_2 dN)) (js Y (js Y (js Y (jn))))
  ·refine QD 3 6 true 11 (dz fhg11_2) Y Y Y ?_
   refine fO (OF.pickF (VEv.tmpB Y (dz fhg11_2)) (VEv.bool false)) (VRunO.nil ?_)
   exact jq (congrArg T.bool (kAF fhg11_2)) (js Y (js Y (js Y (jn))))
 refine mO (tB (decide (((Qm a)∧(Qm b))∧(¬(a=b))))) Y ?_
 refine VRunO.joinB 6 [17,18,19,20,21] 22 (tB (decide ((((Qm a)∧(Qm b))∧(¬(a=b)))∧(YV a=YV b)))) ?_ ?_
 ·refine gw (((Qm a)∧(Qm b))∧(¬(a=b))) (fun fhg16_3=> ?_) fun fhg16_3=> ?_
  ·refine gF (dy fhg16_3) Y Y (OF.move (tv (tS a) Y)) ?_
   refine VRunO.chain (VWant.on Y Y (dy fhg16_3)) (cS (vc (tv (tS a) Y) vn) (Zg Y) (Qaj (n+0) a (by first | assumption | omega)) Y Y) (gF (dy fhg16_3) Y Y (OF.move (tv (tS b) Y)) (VRunO.chain (VWant.on Y Y (dy fhg16_3)) (cS (vc (tv (tS b) Y) vn) (Zg Y) (Qaj (n+0) b (by first | assumption | omega)) Y Y) (gF (dy fhg16_3) Y Y (B.seql (c:=(decide (YV a=YV b))) (tv (tS (YV a)) Y) (tv (tS (YV b)) Y) Y) (fO (OF.pickT (VEv.tmpB Y (dy fhg16_3)) (tv (tB (decide (YV a=YV b))) Y)) (VRunO.nil ?_)))))
   exact jq (congrArg T.bool (kAT fhg16_3 Y)) (js Y (js Y (js Y (js Y (js Y (jn))))))
  ·refine QD 5 11 true 16 (dz fhg16_3) Y Y Y ?_
   refine fO (OF.pickF (VEv.tmpB Y (dz fhg16_3)) (VEv.bool false)) (VRunO.nil ?_)
   exact jq (congrArg T.bool (kAF fhg16_3)) (js Y (js Y (js Y (js Y (js Y (jn))))))
 refine aO (tB (decide ((((Qm a)∧(Qm b))∧(¬(a=b)))∧(YV a=YV b)))) Y (nt (rt (vb (b':=(decide ((((Qm a)∧(Qm b))∧(¬(a=b)))∧(YV a=YV b)))) Y ?_)))
 refine Qt ?_;unfold reB;exact and_assoc
theorem Qcp (n:Nat) (a:ByteArray) (b:ByteArray) (ha:a.size≤maxLen) (hb:b.size≤maxLen):Pure (Qo Tryz.prog (n+7)) 161 [(tS a),(tS b)] (tB (decide (reB a b))):=by
 refine Pure.intro (rs:= [ResultVar.tmp 4]) Tryz.func161 Y Y Y (E0:= [(0,(tS a)),(1,(tS b))]) Y ?_
 obtain ⟨hlim,hmx,hmax⟩:=Qz
 refine sr (fO (OF.assign (VEv.bool false)) (nt (sr (mO (tS a) Y (cO (cS (vc (tv (tS a) Y) vn) (Zg Y) (Zn (n+4) a (by first | assumption | omega)) Y Y) (mO (tB (decide (Qm a))) Y ?_))))))
 refine VRunO.joinB 3 [8,9] 10 (tB (decide ((Qm a)∧(Qm b)))) ?_ ?_
 ·refine gw (Qm a) (fun fhg7_1=> ?_) fun fhg7_1=> ?_
  ·refine gF (dy fhg7_1) Y Y (OF.move (tv (tS b) Y)) ?_
   refine VRunO.chain (VWant.on Y Y (dy fhg7_1)) (cS (vc (tv (tS b) Y) vn) (Zg Y) (Zn (n+4) b (by first | assumption | omega)) Y Y) (fO (OF.pickT (VEv.tmpB Y (dy fhg7_1)) (tv (tB (decide (Qm b))) Y)) (VRunO.nil ?_))
   exact jq (congrArg T.bool (kAT fhg7_1 Y)) (js Y (js Y (jn)))
  ·refine QD 2 2 true 7 (dz fhg7_1) Y Y Y ?_
   refine fO (OF.pickF (VEv.tmpB Y (dz fhg7_1)) (VEv.bool false)) (VRunO.nil ?_)
   exact jq (congrArg T.bool (kAF fhg7_1)) (js Y (js Y (jn)))
 refine mO (tB (decide ((Qm a)∧(Qm b)))) Y ?_
 refine VRunO.joinB 4 [12,13,14] 15 (tB (decide (((Qm a)∧(Qm b))∧(¬(a=b))))) ?_ ?_
 ·refine gw ((Qm a)∧(Qm b)) (fun fhg11_2=> ?_) fun fhg11_2=> ?_
  ·refine gF (dy fhg11_2) Y Y (OF.move (tv (tS a) Y)) ?_
   refine gF (dy fhg11_2) Y Y (OF.move (tv (tS b) Y)) (gF (dy fhg11_2) Y Y (B.sneq (c:=(!(decide (a=b)))) (tv (tS a) Y) (tv (tS b) Y) Y) (fO (OF.pickT (VEv.tmpB Y (dy fhg11_2)) (tv (tB (!(decide (a=b)))) Y)) (VRunO.nil ?_)))
   exact jq (congrArg T.bool (kAT fhg11_2 dN)) (js Y (js Y (js Y (jn))))
  ·refine QD 3 6 true 11 (dz fhg11_2) Y Y Y ?_
   refine fO (OF.pickF (VEv.tmpB Y (dz fhg11_2)) (VEv.bool false)) (VRunO.nil ?_)
   exact jq (congrArg T.bool (kAF fhg11_2)) (js Y (js Y (js Y (jn))))
 refine mO (tB (decide (((Qm a)∧(Qm b))∧(¬(a=b))))) Y ?_
 refine VRunO.joinB 6 [17,18,19,20,21] 22 (tB (decide ((((Qm a)∧(Qm b))∧(¬(a=b)))∧(YV a=YV b)))) ?_ ?_
 ·refine gw (((Qm a)∧(Qm b))∧(¬(a=b))) (fun fhg16_3=> ?_) fun fhg16_3=> ?_
  ·refine gF (dy fhg16_3) Y Y (OF.move (tv (tS a) Y)) ?_
   refine VRunO.chain (VWant.on Y Y (dy fhg16_3)) (cS (vc (tv (tS a) Y) vn) (Zg Y) (Qar (n+0) a (by first | assumption | omega)) Y Y) (gF (dy fhg16_3) Y Y (OF.move (tv (tS b) Y)) (VRunO.chain (VWant.on Y Y (dy fhg16_3)) (cS (vc (tv (tS b) Y) vn) (Zg Y) (Qar (n+0) b (by first | assumption | omega)) Y Y) (gF (dy fhg16_3) Y Y (B.seql (c:=(decide (YV a=YV b))) (tv (tS (YV a)) Y) (tv (tS (YV b)) Y) Y) (fO (OF.pickT (VEv.tmpB Y (dy fhg16_3)) (tv (tB (decide (YV a=YV b))) Y)) (VRunO.nil ?_)))))
   exact jq (congrArg T.bool (kAT fhg16_3 Y)) (js Y (js Y (js Y (js Y (js Y (jn))))))
  ·refine QD 5 11 true 16 (dz fhg16_3) Y Y Y ?_
   refine fO (OF.pickF (VEv.tmpB Y (dz fhg16_3)) (VEv.bool false)) (VRunO.nil ?_)
   exact jq (congrArg T.bool (kAF fhg16_3)) (js Y (js Y (js Y (js Y (js Y (jn))))))
 refine aO (tB (decide ((((Qm a)∧(Qm b))∧(¬(a=b)))∧(YV a=YV b)))) Y (nt (rt (vb (b':=(decide ((((Qm a)∧(Qm b))∧(¬(a=b)))∧(YV a=YV b)))) Y ?_)))
 refine Qt ?_;unfold reB;exact and_assoc
noncomputable section
theorem Qge (w:ByteArray):Qm w↔(1≤w.size∧w.size≤8)∧∀y∈Zo w,97≤y∧y≤122:=by
 refine ⟨fun h=>⟨h.1,Qbd h⟩,fun h=>⟨h.1,fun i hi=> ?_⟩⟩
 refine h.2 _ ?_
 have:=QhR hi
 exact List.mem_of_getElem? this
theorem Qie (w:ByteArray) (a b:Nat):∀y∈Zo (w.extract a b),y∈Zo w:=fun y hy=>by
 unfold Zo at *
 obtain ⟨z,hz,rfl⟩:=List.mem_map.1 hy
 rw [ByteArray.data_extract,Array.toList_extract,List.extract_eq_take_drop] at hz
 exact List.mem_map.2 ⟨z,List.mem_of_mem_drop (List.mem_of_mem_take hz),rfl⟩
theorem Qnf (a b:ByteArray):∀y∈Zo (a++b),y∈Zo a∨y∈Zo b:=fun y hy=>by
 unfold Zo at *
 rw [ByteArray.data_append,Array.toList_append,List.map_append] at hy
 exact List.mem_append.1 hy
theorem Qa8 {w:ByteArray} (h:Qm w) {a b:Nat} (h1:a<b) (h2:b≤w.size):Qm (w.extract a b):=by
 have hs:=h.1
 refine (Qge _).2 ⟨?_,fun y hy=>Qbd h y (Qie w a b y hy)⟩
 rw [ByteArray.size_extract]
 omega
theorem Qjd {w:ByteArray} (h:Qm w) {a b:Nat} (h0:1≤a) (h1:a<b) (h2:b<w.size):Qm (w.extract 0 a++w.extract b w.size):=by
 have hs:=h.1
 refine (Qge _).2 ⟨?_,fun y hy=> ?_⟩
 ·rw [ByteArray.size_append,ByteArray.size_extract,ByteArray.size_extract]
  omega
 ·rcases Qnf _ _ y hy with hy | hy
  ·exact Qbd h y (Qie w _ _ y hy)
  ·exact Qbd h y (Qie w _ _ y hy)
theorem Qhc {w:ByteArray} (h:Qm w):Qm (back w):=by
 have hs:=h.1
 have hb:w.size≤100:=by omega
 refine (Qge _).2 ⟨by rw [Qlc hb];exact hs,fun y hy=> ?_⟩
 unfold back at hy
 rw [if_pos hb] at hy
 unfold Zo at hy
 rw [QbP (Nat.le_refl _)] at hy
 obtain ⟨z,hz,rfl⟩:=List.mem_map.1 hy
 exact Qbd h _ (List.mem_map.2 ⟨z,List.mem_of_mem_take (List.mem_reverse.1 hz),rfl⟩)
theorem JN {l:List D.Step} {i:Nat} {x:D.Step} (h:QJ l) (hx:l[i]? =some x):(1≤x.Kind∧x.Kind≤9)∧x.Word.size≤8∧(0≤x.A∧x.A<((l.length:Nat):Int))∧(¬x.Kind=1→(x.A<(i:Int))∧((x.Kind=4∨x.Kind=5)→0≤x.B∧x.B<(i:Int))):=by
 have hi:=(List.getElem?_eq_some_iff.1 hx).1
 obtain ⟨y,hy,h1,h2,h3⟩:=h.2 i hi
 rw [hx] at hy
 obtain rfl:=Option.some.inj hy
 by_cases hk:x.Kind=1
 ·have h4:=h2 hk
  exact ⟨h1,h4.1.1.2,by omega,fun e=>absurd hk e⟩
 ·have h4:=h3 hk
  exact ⟨h1,by rw [h4.1];exact Nat.zero_le _,by omega,fun e=>⟨h4.2.1.2,fun e2=>h4.2.2.1 e2⟩⟩
def wAt (l:List D.Step) (i:Int):ByteArray:=match l[Int.toNat i]? with
 | some y=>y.Word
 | none=>⟨#[]⟩
theorem QfP {l:List D.Step} {i:Int} {y:D.Step} (h:l[Int.toNat i]? =some y):wAt l i=y.Word:=by rw [wAt,h]
def Yt (l:List D.Step):Nat→Int→ByteArray→Prop
 | 0,_,_=>False
 | d+1,i,w=>match l[Int.toNat i]? with
  | none=>False
  | some x=>if x.Kind=1 then w=x.Word else if x.Kind=2 then Yt l d x.A (back w) else if x.Kind=3 then reB (wAt l x.A) w
   else if x.Kind=4 then ∃k,1≤k∧k<w.size∧Yt l d x.A (w.extract 0 k)∧Yt l d x.B (w.extract k w.size)
   else if x.Kind=5 then ∃a b,(1≤a∧a<b∧b<w.size)∧Yt l d x.B (w.extract a b)∧Yt l d x.A (w.extract 0 a++w.extract b w.size)
   else if x.Kind=6 then w=hdS (wAt l x.A) else if x.Kind=7 then w=nhS (wAt l x.A) else if x.Kind=8 then w=ntS (wAt l x.A) else Qd2 w (wAt l x.A)
instance (l:List D.Step) (d:Nat) (i:Int) (w:ByteArray):Decidable (Yt l d i w):=Classical.propDecidable _
section
variable {l : List D.Step} {d : Nat} {i : Int} {w : ByteArray} {x y : D.Step} (hx : l[Int.toNat i]? = some x)
include hx
theorem Qa0 (h:x.Kind=1):Yt l (d+1) i w↔w=x.Word:=by rw [Yt,hx];simp only [h,if_true]
theorem Qa1 (h:x.Kind=2):Yt l (d+1) i w↔Yt l d x.A (back w):=by rw [Yt,hx];simp [h]
theorem QaP (hy:l[Int.toNat x.A]? =some y) (h:x.Kind=3):Yt l (d+1) i w↔reB y.Word w:=by rw [Yt,hx,← QfP hy];simp [h]
theorem YR (h:x.Kind=4):Yt l (d+1) i w↔∃k,1≤k∧k<w.size∧Yt l d x.A (w.extract 0 k)∧Yt l d x.B (w.extract k w.size):=by rw [Yt,hx];simp [h]
theorem YP (h:x.Kind=5):Yt l (d+1) i w↔∃a b,(1≤a∧a<b∧b<w.size)∧Yt l d x.B (w.extract a b)∧Yt l d x.A (w.extract 0 a++w.extract b w.size):=by rw [Yt,hx];simp [h]
theorem QaJ (hy:l[Int.toNat x.A]? =some y) (h:x.Kind=6):Yt l (d+1) i w↔w=hdS y.Word:=by rw [Yt,hx,← QfP hy];simp [h]
theorem Qa2 (hy:l[Int.toNat x.A]? =some y) (h:x.Kind=7):Yt l (d+1) i w↔w=nhS y.Word:=by rw [Yt,hx,← QfP hy];simp [h]
theorem QaT (hy:l[Int.toNat x.A]? =some y) (h:x.Kind=8):Yt l (d+1) i w↔w=ntS y.Word:=by rw [Yt,hx,← QfP hy];simp [h]
theorem QaR (hy:l[Int.toNat x.A]? =some y) (h1:¬x.Kind=1) (h2:¬x.Kind=2) (h3:¬x.Kind=3) (h4:¬x.Kind=4) (h5:¬x.Kind=5) (h6:¬x.Kind=6) (h7:¬x.Kind=7) (h8:¬x.Kind=8):Yt l (d+1) i w↔Qd2 w y.Word:=by rw [Yt,hx,← QfP hy];simp [h1,h2,h3,h4,h5,h6,h7,h8]
end
def jNo (l:List D.Step) (d:Nat) (x:D.Step) (w:ByteArray) (k:Nat):Prop:=∀m,1≤m→m<k→¬(Yt l d x.A (w.extract 0 m)∧Yt l d x.B (w.extract m w.size))
def iNo (l:List D.Step) (d:Nat) (x:D.Step) (w:ByteArray) (a b:Nat):Prop:=∀m,a<m→m<b→¬(Yt l d x.B (w.extract a m)∧Yt l d x.A (w.extract 0 a++w.extract m w.size))
def oNo (l:List D.Step) (d:Nat) (x:D.Step) (w:ByteArray) (a:Nat):Prop:=∀m,1≤m→m<a→iNo l d x w m w.size
theorem Qnt (l:List D.Step) (d:Nat) (x:D.Step) (w:ByteArray):jNo l d x w 1:=fun m h1 h2=>by omega
theorem QnD (l:List D.Step) (d:Nat) (x:D.Step) (w:ByteArray) (a:Nat):iNo l d x w a (a+1):=fun m h1 h2=>by omega
theorem QnB (l:List D.Step) (d:Nat) (x:D.Step) (w:ByteArray):oNo l d x w 1:=fun m h1 h2=>by omega
theorem QdK {l:List D.Step} {d:Nat} {x:D.Step} {w:ByteArray} {k:Nat} (h:jNo l d x w k) (hn:¬(Yt l d x.A (w.extract 0 k)∧Yt l d x.B (w.extract k w.size))):jNo l d x w (k+1):=fun m h1 h2=>by
 rcases Nat.lt_or_ge m k with h3 | h3
 ·exact h m h1 h3
 ·rw [show m=k by omega];exact hn
theorem Qdz {l:List D.Step} {d:Nat} {x:D.Step} {w:ByteArray} {a b:Nat} (h:iNo l d x w a b) (hn:¬(Yt l d x.B (w.extract a b)∧Yt l d x.A (w.extract 0 a++w.extract b w.size))):iNo l d x w a (b+1):=fun m h1 h2=>by
 rcases Nat.lt_or_ge m b with h3 | h3
 ·exact h m h1 h3
 ·rw [show m=b by omega];exact hn
theorem QiL {l:List D.Step} {d:Nat} {x:D.Step} {w:ByteArray} {a b:Nat} (h:oNo l d x w a) (hb:iNo l d x w a b) (hs:¬b<w.size):oNo l d x w (a+1):=fun m h1 h2=>by
 rcases Nat.lt_or_ge m a with h3 | h3
 ·exact h m h1 h3
 ·rw [show m=a by omega]
  exact fun k h4 h5=>hb k h4 (by omega)
theorem Yw {l:List D.Step} {d:Nat} {x:D.Step} {w:ByteArray} {k:Nat} (h:jNo l d x w k) (hk:¬k<w.size) (he:∃m,1≤m∧m<w.size∧Yt l d x.A (w.extract 0 m)∧Yt l d x.B (w.extract m w.size)):False:=by
 obtain ⟨m,h1,h2,h3⟩:=he
 exact h m h1 (by omega) h3
theorem Yx {l:List D.Step} {d:Nat} {x:D.Step} {w:ByteArray} {k:Nat} (h:oNo l d x w k) (hk:¬k<w.size) (he:∃a b,(1≤a∧a<b∧b<w.size)∧Yt l d x.B (w.extract a b)∧Yt l d x.A (w.extract 0 a++w.extract b w.size)):False:=by
 obtain ⟨a,b,⟨h1,h2,h3⟩,h4⟩:=he
 exact h a h1 (by omega) b h2 h3 h4
theorem dTr {p:Prop} [Decidable p] (h:p):true=decide p:=(decide_eq_true h).symm
theorem Jp {p:Prop} [Decidable p] (h:¬p):false=decide p:=(decide_eq_false h).symm
end
theorem Qii (n:Nat):∀(d:Nat) (l:List D.Step) (i:Int) (w:ByteArray) (hp:QJ l) (hz:zL Zc l≤mx) (hd:d≤9) (hi:0≤i∧i<(d:Int)∧i<(l.length:Int)) (hw:Qm w),Pure (Qo Tryz.prog (n+d+7)) 128 [(rd 4 Qd l),(tI i),(tS w)] (tB (decide (Yt l d i w))):=by
 intro d
 induction d with
 | zero=>intro l i w hp hz hd hi hw;exact absurd hi.2.1 (by omega)
 | succ d ih =>
 intro l i w hp hz hd hi hw
 refine Pure.intro (n:=n+d+7) (rs:= [ResultVar.tmp 6]) Tryz.func128 Y Y Y (E0:= [(0,(rd 4 Qd l)),(1,(tI i)),(2,(tS w))]) Y ?_
 obtain ⟨hlim,hmx,hmax⟩:=Qz
 have hl:=Q1 (z:=Zc) l
 have hw8:=hw.1
 refine sr (fO (OF.assign (VEv.bool false)) (nt (sr (mO (rd 4 Qd l) Y (mO (tI i) Y ?_)))))
 obtain ⟨x1,hx1⟩:∃x,l[(Int.toNat i)]? =some x:=⟨_,List.getElem?_eq_getElem (by first | (simp only [ByteArray.size_append,ByteArray.size_extract];omega) | omega)⟩
 have hb1:=JN hp hx1
 refine fO (OF.indexAddrR (row:=(Qd false x1)) (i:=(Int.toNat i)) (tv (rd 4 Qd l) Y) (tv (tI i) Y) (by omega) (Qu _ hx1) U62 ZE Yq) (lO (OL.loadRn (us:=(Qd false x1)) (tv (T.rp (Qd false x1)) Y) QbQ ZE (lb Y) Y) (kO (B.alloc (t:=(T.agg [(tN 0),(tS ByteArray.empty),(tN 0),(tN 0)])) (ts:= [(tN 0),(tS ByteArray.empty),(tN 0),(tN 0)]) QeR QeQ nofun (fun _=> .agg _ _ Y (YS (RL.cons (.int _ _) (RL.cons (.str _) (RL.cons (.int _ _) (RL.cons (.int _ _) (RL.nil _))))))) Y) (cO (B.storeW (us:=(Qd false x1)) (tv (T.op 0 0) Y) (tv (T.agg (Qd false x1)) Y) nofun Y Y Y Yq ZE (bc Y (bc Y (bc Y (bc Y bn))))) (nt (sq (sr (mO (tS w) Y (fO (B.seql (c:=(decide (w=(⟨#[]⟩:ByteArray)))) (tv (tS w) Y) (VEv.str (⟨#[]⟩:ByteArray)) Y) (nt ?_)))))))))
 refine cd (w=(⟨#[]⟩:ByteArray)) Y (fun fhc0=> ?_) fun fhc0=> ?_
 ·exact absurd hw (by rw [fhc0];exact Zy)
 refine sk (tn (sr (mO (rd 4 Qd l) Y (lf (tI x1.A) Y ZC Y Y QS ?_))))
 obtain ⟨x2,hx2⟩:∃x,l[(Int.toNat x1.A)]? =some x:=⟨_,List.getElem?_eq_getElem (by first | (simp only [ByteArray.size_append,ByteArray.size_extract];omega) | omega)⟩
 have hb2:=JN hp hx2
 refine fO (OF.indexAddrR (row:=(Qd false x2)) (i:=(Int.toNat x1.A)) (tv (rd 4 Qd l) Y) (tv (tI x1.A) Y) (by omega) (Qu _ hx2) U62 ZE Yq) (lr (tS x2.Word) Y (lb Y) Z3 Y ZG (aO (tS x2.Word) Y (nt (sq (sr (lf (tI x1.Kind) Y Zf Y Y QS (nt (VRun.block (sr (fO (Yn (tv (tI x1.Kind) Y) (VEv.int .i64 1)) (aO (tB (decide (x1.Kind=1))) Y ?_)))))))))))
 refine nt ?_
 refine cd (x1.Kind=1) Y (fun fhc1=> ?_) fun fhc1=> ?_
 ·refine sr ?_
  refine mO (tS w) Y (lf (tS x1.Word) Y Z3 Y Y ZG (fO (B.seql (c:=(decide (w=x1.Word))) (tv (tS w) Y) (tv (tS x1.Word) Y) Y) (aO (tB (decide (w=x1.Word))) Y (nt (rt (vinB.r (tr (vb (b':=(decide (w=x1.Word))) Y ?_))))))))
  first | exact Qt (Qa0 hx1 fhc1).symm | exact Qt (Qa1 hx1 fhc2).symm | exact Qt (QaP hx1 hx2 fhc3).symm | exact dTr ((YR hx1 fhc4).2 ⟨k,hI1.1,fhc5,fhg60_1,fhc6⟩) | exact Jp (fun h_=>Yw hI2 fhc5 ((YR hx1 fhc4).1 h_)) | exact dTr ((YP hx1 fhc7).2 ⟨a,b,⟨hJ1.1,hK1.1,fhc9⟩,fhg93_2,fhc10⟩) | exact Jp (fun h_=>Yx hJ2 fhc8 ((YP hx1 fhc7).1 h_)) | exact Qt (QaJ hx1 hx2 fhc11).symm | exact Qt (Qa2 hx1 hx2 fhc12).symm | exact Qt (QaT hx1 hx2 fhc13).symm | exact Qt (QaR hx1 hx2 fhc1 fhc2 fhc3 fhc4 fhc7 fhc11 fhc12 fhc13).symm | (exfalso;omega)
 have hkA:=hb1.2.2.2 fhc1
 refine sr (fO (Yn (tv (tI x1.Kind) Y) (VEv.int .i64 2)) (aO (tB (decide (x1.Kind=2))) Y (nt ?_)))
 refine cd (x1.Kind=2) Y (fun fhc2=> ?_) fun fhc2=> ?_
 ·have hwb:=Qhc hw
  refine sq (VRun.draw (B:= [[],[],[1],[],[3],[3,4,1,2,0],[0,2,1,4,3,5]]) (by kernel_rfl) (by kernel_rfl) (mD (rd 4 Qd l) Y Y (fD (OF.fieldAddrO (tv (T.op 0 0) Y) ZC) Y Y (lD (OL.loadO1 (t:=(tI x1.A)) (tv (T.op 0 2) Y) Y Y QS) Y Y (mD (tS w) Y Y (VRunD.quiet (bi:= [3]) Y VWant.always Y Y Y bn (cS (vc (tv (tS w) Y) vn) (Zg Y) (Qbn (n+d+5) w (by first | (simp only [ByteArray.size_append,ByteArray.size_extract];omega) | assumption | omega)) Y Y) (VRunD.quiet (bi:= [3,4,1,2,0]) Y VWant.always Y Y Y bn (cS (vc (tv (rd 4 Qd l) Y) (vc (tv (tI x1.A) Y) (vc (tv (tS (back w)) Y) vn))) (Zg Y) (ih l x1.A (back w) (by first | (simp only [ByteArray.size_append,ByteArray.size_extract];omega) | assumption | omega) (by first | (simp only [ByteArray.size_append,ByteArray.size_extract];omega) | assumption | omega) (by first | (simp only [ByteArray.size_append,ByteArray.size_extract];omega) | assumption | omega) (by first | (simp only [ByteArray.size_append,ByteArray.size_extract];omega) | assumption | omega) (by first | (simp only [ByteArray.size_append,ByteArray.size_extract];omega) | assumption | omega)) Y Y) (fD (OF.assign (tv (tB (decide (Yt l d x1.A (back w)))) Y)) Y Y (VRunD.nil (tn (rt ?_)))))))))))
  refine vinB.r (tr (vb (b':=(decide (Yt l d x1.A (back w)))) Y ?_))
  first | exact Qt (Qa0 hx1 fhc1).symm | exact Qt (Qa1 hx1 fhc2).symm | exact Qt (QaP hx1 hx2 fhc3).symm | exact dTr ((YR hx1 fhc4).2 ⟨k,hI1.1,fhc5,fhg60_1,fhc6⟩) | exact Jp (fun h_=>Yw hI2 fhc5 ((YR hx1 fhc4).1 h_)) | exact dTr ((YP hx1 fhc7).2 ⟨a,b,⟨hJ1.1,hK1.1,fhc9⟩,fhg93_2,fhc10⟩) | exact Jp (fun h_=>Yx hJ2 fhc8 ((YP hx1 fhc7).1 h_)) | exact Qt (QaJ hx1 hx2 fhc11).symm | exact Qt (Qa2 hx1 hx2 fhc12).symm | exact Qt (QaT hx1 hx2 fhc13).symm | exact Qt (QaR hx1 hx2 fhc1 fhc2 fhc3 fhc4 fhc7 fhc11 fhc12 fhc13).symm | (exfalso;omega)
 refine sr (fO (Yn (tv (tI x1.Kind) Y) (VEv.int .i64 3)) (aO (tB (decide (x1.Kind=3))) Y (nt ?_)))
 refine cd (x1.Kind=3) Y (fun fhc3=> ?_) fun fhc3=> ?_
 ·refine sr ?_
  refine mO (tS x2.Word) Y (mO (tS w) Y (cO (cS (vc (tv (tS x2.Word) Y) (vc (tv (tS w) Y) vn)) (Zg Y) (Qcp (n+d+0) x2.Word w (by first | (simp only [ByteArray.size_append,ByteArray.size_extract];omega) | assumption | omega) (by first | (simp only [ByteArray.size_append,ByteArray.size_extract];omega) | assumption | omega)) Y Y) (aO (tB (decide (reB x2.Word w))) Y (nt (rt (vinB.r (tr (vb (b':=(decide (reB x2.Word w))) Y ?_))))))))
  first | exact Qt (Qa0 hx1 fhc1).symm | exact Qt (Qa1 hx1 fhc2).symm | exact Qt (QaP hx1 hx2 fhc3).symm | exact dTr ((YR hx1 fhc4).2 ⟨k,hI1.1,fhc5,fhg60_1,fhc6⟩) | exact Jp (fun h_=>Yw hI2 fhc5 ((YR hx1 fhc4).1 h_)) | exact dTr ((YP hx1 fhc7).2 ⟨a,b,⟨hJ1.1,hK1.1,fhc9⟩,fhg93_2,fhc10⟩) | exact Jp (fun h_=>Yx hJ2 fhc8 ((YP hx1 fhc7).1 h_)) | exact Qt (QaJ hx1 hx2 fhc11).symm | exact Qt (Qa2 hx1 hx2 fhc12).symm | exact Qt (QaT hx1 hx2 fhc13).symm | exact Qt (QaR hx1 hx2 fhc1 fhc2 fhc3 fhc4 fhc7 fhc11 fhc12 fhc13).symm | (exfalso;omega)
 refine sr (fO (Yn (tv (tI x1.Kind) Y) (VEv.int .i64 4)) (aO (tB (decide (x1.Kind=4))) Y (nt ?_)))
 refine cd (x1.Kind=4) Y (fun fhc4=> ?_) fun fhc4=> ?_
 ·have hkB:=hkA.2 (.inl fhc4)
  refine sr (fO (OF.assign (VEv.int .i64 1)) (nt (VRun.block ?_)))
  refine VRun.loop (A:=Nat) (fun s_=> [(0,(rd 4 Qd l)),(2,(tS w)),(7,(T.op 0 0)),(9,(tN s_))]) (fun s_=>QV [(0,(Obj.cells (Qd false x1)))]) 1 (fun s_=>(1≤s_∧s_≤9)∧jNo l d x1 w s_) (fun s_=>w.size - s_) (1:Nat) ?_ (Wk.mk (fun k=>k) ?_ ?_ ?_) ?_
  ·exact ⟨⟨Nat.le_refl 1,by decide⟩,Qnt l d x1 w⟩
  ·exact (b2 (b2 (b2 (b2 bn))))
  ·exact (b3 bn)
  ·exact nd Y
  rintro k (hI':(1≤k∧k≤9)∧jNo l d x1 w k)
  show VRun _ _ _ [(0,(rd 4 Qd l)),(2,(tS w)),(7,(T.op 0 0)),(9,(tN k))] (QV [(0,(Obj.cells (Qd false x1)))]) 1 _
  have hI1:=hI'.1
  have hI2:=hI'.2
  refine sq (sr (mO (tN k) Y (mO (tS w) Y (lO (B.lenS (tv (tS w) Y) U9) (fO (Q9 (tv (tN k) Y) (tv (tN w.size) Y)) (nt ?_))))))
  refine cd (k<w.size) Y (fun fhc5=> ?_) fun fhc5=> ?_
  ·have hwl:=Qa8 hw (a:=0) (b:=k) (by omega) (by omega)
   have hwr:=Qa8 hw (a:=k) (b:=w.size) (by omega) (by omega)
   refine sk (tn (sq (VRun.block (sq (VRun.draw (B:= [[],[],[1],[],[],[4,3],[3,4,5,1,2,0],[0,2,1,5,4,3,6],[6,3,4,5,1,2,0,7],[6,3,4,5,1,2,0,7],[7,0,2,1,5,4,3,6,9],[6,3,4,5,1,2,0,7],[6,3,4,5,1,2,0,7],[12,7,0,2,1,5,4,3,6,11],[11,12,13,9,10,7,0,2,1,5,4,3,6,8],[8,10,9,13,12,11,14,6,3,4,5,1,2,0,7]]) (by kernel_rfl) (by kernel_rfl) (mD (rd 4 Qd l) Y Y (fD (OF.fieldAddrO (tv (T.op 0 0) Y) ZC) Y Y (lD (OL.loadO1 (t:=(tI x1.A)) (tv (T.op 0 2) Y) Y Y QS) Y Y (mD (tS w) Y Y (mD (tN k) Y Y (lD (OL.sliceSHi (j:=k) (tv (tS w) Y) (tv (tN k) Y) Y (by first | (simp only [ByteArray.size_append,ByteArray.size_extract];omega) | omega | (simp only [List.length_map];omega) | (simp only [List.length_map,List.length_append,List.length_cons,List.length_nil,List.length_replicate,List.length_set,List.length_drop,List.length_take,Zk] at *;omega)) U9) Y Y ?_)))))))))))
   refine VRunD.quiet (bi:= [3,4,5,1,2,0]) Y VWant.always Y Y Y bn (cS (vc (tv (rd 4 Qd l) Y) (vc (tv (tI x1.A) Y) (vc (tv (tS (w.extract 0 k)) Y) vn))) (Zg Y) (ih l x1.A (w.extract 0 k) (by first | (simp only [ByteArray.size_append,ByteArray.size_extract];omega) | assumption | omega) (by first | (simp only [ByteArray.size_append,ByteArray.size_extract];omega) | assumption | omega) (by first | (simp only [ByteArray.size_append,ByteArray.size_extract];omega) | assumption | omega) (by first | (simp only [ByteArray.size_append,ByteArray.size_extract];omega) | assumption | omega) (by first | (simp only [ByteArray.size_append,ByteArray.size_extract];omega) | assumption | omega)) Y Y) (mD (tB (decide (Yt l d x1.A (w.extract 0 k)))) Y Y ?_)
   refine gw (Yt l d x1.A (w.extract 0 k)) (fun fhg60_1=> ?_) fun fhg60_1=> ?_
   ·refine VRunD.free Y (VWant.on Y Y (dy fhg60_1)) Y (OF.move (tv (rd 4 Qd l) Y)) ?_
    refine VRunD.free Y (VWant.on Y Y (dy fhg60_1)) Y (OF.fieldAddrO (tv (T.op 0 0) Y) Z4) (VRunD.look Y (VWant.on Y Y (dy fhg60_1)) Y (OL.loadO1 (t:=(tI x1.B)) (tv (T.op 0 3) Y) Y Y QS) (VRunD.free Y (VWant.on Y Y (dy fhg60_1)) Y (OF.move (tv (tS w) Y)) (VRunD.free Y (VWant.on Y Y (dy fhg60_1)) Y (OF.move (tv (tN k) Y)) (VRunD.look Y (VWant.on Y Y (dy fhg60_1)) Y (OL.sliceSLo (i:=k) (tv (tS w) Y) (tv (tN k) Y) Y (by first | (simp only [ByteArray.size_append,ByteArray.size_extract];omega) | omega | (simp only [List.length_map];omega) | (simp only [List.length_map,List.length_append,List.length_cons,List.length_nil,List.length_replicate,List.length_set,List.length_drop,List.length_take,Zk] at *;omega)) U9) (VRunD.quiet (bi:= [11,12,13,9,10,7,0,2,1,5,4,3,6,8]) Y (VWant.on Y Y (dy fhg60_1)) Y Y Y bn (cS (vc (tv (rd 4 Qd l) Y) (vc (tv (tI x1.B) Y) (vc (tv (tS (w.extract k w.size)) Y) vn))) (Zg Y) (ih l x1.B (w.extract k w.size) (by first | (simp only [ByteArray.size_append,ByteArray.size_extract];omega) | assumption | omega) (by first | (simp only [ByteArray.size_append,ByteArray.size_extract];omega) | assumption | omega) (by first | (simp only [ByteArray.size_append,ByteArray.size_extract];omega) | assumption | omega) (by first | (simp only [ByteArray.size_append,ByteArray.size_extract];omega) | assumption | omega) (by first | (simp only [ByteArray.size_append,ByteArray.size_extract];omega) | assumption | omega)) Y Y) (fD (OF.pickT (VEv.tmpB Y (dy fhg60_1)) (tv (tB (decide (Yt l d x1.B (w.extract k w.size)))) Y)) Y Y (VRunD.nil (tn ?_))))))))
    refine cd (Yt l d x1.B (w.extract k w.size)) Y (fun fhc6=> ?_) fun fhc6=> ?_
    ·refine sr ?_
     refine fO (OF.assign (VEv.bool true)) (nt (rt (vinB.r (tr (tr (vinB.r (vinB.r (tr (vb (b':=true) Y ?_)))))))))
     first | exact Qt (Qa0 hx1 fhc1).symm | exact Qt (Qa1 hx1 fhc2).symm | exact Qt (QaP hx1 hx2 fhc3).symm | exact dTr ((YR hx1 fhc4).2 ⟨k,hI1.1,fhc5,fhg60_1,fhc6⟩) | exact Jp (fun h_=>Yw hI2 fhc5 ((YR hx1 fhc4).1 h_)) | exact dTr ((YP hx1 fhc7).2 ⟨a,b,⟨hJ1.1,hK1.1,fhc9⟩,fhg93_2,fhc10⟩) | exact Jp (fun h_=>Yx hJ2 fhc8 ((YP hx1 fhc7).1 h_)) | exact Qt (QaJ hx1 hx2 fhc11).symm | exact Qt (Qa2 hx1 hx2 fhc12).symm | exact Qt (QaT hx1 hx2 fhc13).symm | exact Qt (QaR hx1 hx2 fhc1 fhc2 fhc3 fhc4 fhc7 fhc11 fhc12 fhc13).symm | (exfalso;omega)
    refine sk (vinB.n (tn (VRun.region (mO (tN k) Y (fO (QB (tv (tN k) Y) (VEv.int .i64 1) (by first | (simp only [ByteArray.size_append,ByteArray.size_extract];omega) | omega)) (aO (tN (k+1)) Y (VRunO.nil (tn ?_))))))))
    refine ⟨(k+1:Nat),?_,?_,Wk.mk (fun k=>k) ?_ ?_ ?_⟩
    ·(refine ⟨?_,QdK hI2 (fun h_=> ?_)⟩;omega;first | (refine absurd h_.1 ?_;assumption) | (refine absurd h_.2 ?_;assumption))
    ·first | omega | (simp only [];omega) | (show _<_;omega) | (simp;omega)
    ·exact (b2 (b2 (b2 (b2 bn))))
    ·exact (b3 bn)
    ·exact nd Y
   refine oD Y Y (dz fhg60_1) Y (oD Y Y (dz fhg60_1) Y (oD Y Y (dz fhg60_1) Y (oD Y Y (dz fhg60_1) Y (oD Y Y (dz fhg60_1) Y (oD Y Y (dz fhg60_1) Y (oD Y Y (dz fhg60_1) Y (fD (OF.pickF (VEv.tmpB Y (dz fhg60_1)) (VEv.bool false)) Y Y (VRunD.nil (tn (cf Y (sk ?_)))))))))))
   refine vinB.n (tn (VRun.region (mO (tN k) Y (fO (QB (tv (tN k) Y) (VEv.int .i64 1) (by first | (simp only [ByteArray.size_append,ByteArray.size_extract];omega) | omega)) (aO (tN (k+1)) Y (VRunO.nil (tn ?_)))))))
   refine ⟨(k+1:Nat),?_,?_,Wk.mk (fun k=>k) ?_ ?_ ?_⟩
   ·(refine ⟨?_,QdK hI2 (fun h_=> ?_)⟩;omega;first | (refine absurd h_.1 ?_;assumption) | (refine absurd h_.2 ?_;assumption))
   ·first | omega | (simp only [];omega) | (show _<_;omega) | (simp;omega)
   ·exact (b2 (b2 (b2 (b2 bn))))
   ·exact (b3 bn)
   ·exact nd Y
  refine VRun.exit (vthn.e (vthn.e (vinB.e (vinB.n (tn (sr (fO (OF.assign (VEv.bool false)) (nt (rt (vb (b':=false) Y ?_))))))))))
  first | exact Qt (Qa0 hx1 fhc1).symm | exact Qt (Qa1 hx1 fhc2).symm | exact Qt (QaP hx1 hx2 fhc3).symm | exact dTr ((YR hx1 fhc4).2 ⟨k,hI1.1,fhc5,fhg60_1,fhc6⟩) | exact Jp (fun h_=>Yw hI2 fhc5 ((YR hx1 fhc4).1 h_)) | exact dTr ((YP hx1 fhc7).2 ⟨a,b,⟨hJ1.1,hK1.1,fhc9⟩,fhg93_2,fhc10⟩) | exact Jp (fun h_=>Yx hJ2 fhc8 ((YP hx1 fhc7).1 h_)) | exact Qt (QaJ hx1 hx2 fhc11).symm | exact Qt (Qa2 hx1 hx2 fhc12).symm | exact Qt (QaT hx1 hx2 fhc13).symm | exact Qt (QaR hx1 hx2 fhc1 fhc2 fhc3 fhc4 fhc7 fhc11 fhc12 fhc13).symm | (exfalso;omega)
 refine sr (fO (Yn (tv (tI x1.Kind) Y) (VEv.int .i64 5)) (aO (tB (decide (x1.Kind=5))) Y (nt ?_)))
 refine cd (x1.Kind=5) Y (fun fhc7=> ?_) fun fhc7=> ?_
 ·have hkB:=hkA.2 (.inr fhc7)
  refine sr (fO (OF.assign (VEv.int .i64 1)) (nt (VRun.block ?_)))
  refine VRun.loop (A:=Nat) (fun s_=> [(0,(rd 4 Qd l)),(2,(tS w)),(7,(T.op 0 0)),(10,(tN s_))]) (fun s_=>QV [(0,(Obj.cells (Qd false x1)))]) 1 (fun s_=>(1≤s_∧s_≤9)∧oNo l d x1 w s_) (fun s_=>w.size - s_) (1:Nat) ?_ (Wk.mk (fun k=>k) ?_ ?_ ?_) ?_
  ·exact ⟨⟨Nat.le_refl 1,by decide⟩,QnB l d x1 w⟩
  ·exact (b2 (b2 (b2 (b2 bn))))
  ·exact (b3 bn)
  ·exact nd Y
  rintro a (hI':(1≤a∧a≤9)∧oNo l d x1 w a)
  show VRun _ _ _ [(0,(rd 4 Qd l)),(2,(tS w)),(7,(T.op 0 0)),(10,(tN a))] (QV [(0,(Obj.cells (Qd false x1)))]) 1 _
  have hJ1:=hI'.1
  have hJ2:=hI'.2
  refine sq (sr (mO (tN a) Y (mO (tS w) Y (lO (B.lenS (tv (tS w) Y) U9) (fO (Q9 (tv (tN a) Y) (tv (tN w.size) Y)) (nt ?_))))))
  refine cd (a<w.size) Y (fun fhc8=> ?_) fun fhc8=> ?_
  ·refine sk ?_
   refine tn (sq (VRun.block (sr (mO (tN a) Y (fO (QB (tv (tN a) Y) (VEv.int .i64 1) (by first | (simp only [ByteArray.size_append,ByteArray.size_extract];omega) | omega)) (aO (tN (a+1)) Y (nt (VRun.block ?_))))))))
   refine VRun.loop (A:=Nat) (fun s_=> [(0,(rd 4 Qd l)),(2,(tS w)),(7,(T.op 0 0)),(10,(tN a)),(11,(tN s_))]) (fun s_=>QV [(0,(Obj.cells (Qd false x1)))]) 1 (fun s_=>(a<s_∧s_≤9)∧iNo l d x1 w a s_) (fun s_=>w.size - s_) (a+1:Nat) ?_ (Wk.mk (fun k=>k) ?_ ?_ ?_) ?_
   ·exact ⟨⟨by omega,by omega⟩,QnD l d x1 w a⟩
   ·exact (b2 (b2 (b2 (b2 (b2 bn)))))
   ·exact (b3 bn)
   ·exact nd Y
   rintro b (hI':(a<b∧b≤9)∧iNo l d x1 w a b)
   show VRun _ _ _ [(0,(rd 4 Qd l)),(2,(tS w)),(7,(T.op 0 0)),(10,(tN a)),(11,(tN b))] (QV [(0,(Obj.cells (Qd false x1)))]) 1 _
   have hK1:=hI'.1
   have hK2:=hI'.2
   refine sq (sr (mO (tN b) Y (mO (tS w) Y (lO (B.lenS (tv (tS w) Y) U9) (fO (Q9 (tv (tN b) Y) (tv (tN w.size) Y)) (nt ?_))))))
   refine cd (b<w.size) Y (fun fhc9=> ?_) fun fhc9=> ?_
   ·have hwm:=Qa8 hw (a:=a) (b:=b) (by omega) (by omega)
    have hwo:=Qjd hw (a:=a) (b:=b) (by omega) (by omega) (by omega)
    refine sk (tn (sq (VRun.block (sq (VRun.draw (B:= [[],[],[1],[],[],[],[5,4,3],[3,4,5,6,1,2,0],[0,2,1,6,5,4,3,7],[7,3,4,5,6,1,2,0,8],[7,3,4,5,6,1,2,0,8],[8,0,2,1,6,5,4,3,7,10],[7,3,4,5,6,1,2,0,8],[7,3,4,5,6,1,2,0,8],[13,8,0,2,1,6,5,4,3,7,12],[7,3,4,5,6,1,2,0,8],[7,3,4,5,6,1,2,0,8],[16,8,0,2,1,6,5,4,3,7,15],[15,16,17,12,7,3,4,5,6,1,2,0,8,13,14],[14,13,12,17,16,15,18,10,11,8,0,2,1,6,5,4,3,7,9],[9,11,10,18,15,16,17,12,13,14,19,7,3,4,5,6,1,2,0,8]]) (by kernel_rfl) (by kernel_rfl) (mD (rd 4 Qd l) Y Y (fD (OF.fieldAddrO (tv (T.op 0 0) Y) Z4) Y Y (lD (OL.loadO1 (t:=(tI x1.B)) (tv (T.op 0 3) Y) Y Y QS) Y Y (mD (tS w) Y Y (mD (tN a) Y Y (mD (tN b) Y Y ?_)))))))))))
    refine lD (OL.sliceS (i:=a) (j:=b) (tv (tS w) Y) (tv (tN a) Y) (tv (tN b) Y) Y Y (by first | (simp only [ByteArray.size_append,ByteArray.size_extract];omega) | omega | (simp only [List.length_map];omega) | (simp only [List.length_map,List.length_append,List.length_cons,List.length_nil,List.length_replicate,List.length_set,List.length_drop,List.length_take,Zk] at *;omega)) (by first | (simp only [ByteArray.size_append,ByteArray.size_extract];omega) | omega | (simp only [List.length_map];omega) | (simp only [List.length_map,List.length_append,List.length_cons,List.length_nil,List.length_replicate,List.length_set,List.length_drop,List.length_take,Zk] at *;omega)) U9) Y Y (VRunD.quiet (bi:= [3,4,5,6,1,2,0]) Y VWant.always Y Y Y bn (cS (vc (tv (rd 4 Qd l) Y) (vc (tv (tI x1.B) Y) (vc (tv (tS (w.extract a b)) Y) vn))) (Zg Y) (ih l x1.B (w.extract a b) (by first | (simp only [ByteArray.size_append,ByteArray.size_extract];omega) | assumption | omega) (by first | (simp only [ByteArray.size_append,ByteArray.size_extract];omega) | assumption | omega) (by first | (simp only [ByteArray.size_append,ByteArray.size_extract];omega) | assumption | omega) (by first | (simp only [ByteArray.size_append,ByteArray.size_extract];omega) | assumption | omega) (by first | (simp only [ByteArray.size_append,ByteArray.size_extract];omega) | assumption | omega)) Y Y) (mD (tB (decide (Yt l d x1.B (w.extract a b)))) Y Y ?_))
    refine gw (Yt l d x1.B (w.extract a b)) (fun fhg93_2=> ?_) fun fhg93_2=> ?_
    ·refine VRunD.free Y (VWant.on Y Y (dy fhg93_2)) Y (OF.move (tv (rd 4 Qd l) Y)) ?_
     refine VRunD.free Y (VWant.on Y Y (dy fhg93_2)) Y (OF.fieldAddrO (tv (T.op 0 0) Y) ZC) (VRunD.look Y (VWant.on Y Y (dy fhg93_2)) Y (OL.loadO1 (t:=(tI x1.A)) (tv (T.op 0 2) Y) Y Y QS) (VRunD.free Y (VWant.on Y Y (dy fhg93_2)) Y (OF.move (tv (tS w) Y)) (VRunD.free Y (VWant.on Y Y (dy fhg93_2)) Y (OF.move (tv (tN a) Y)) (VRunD.look Y (VWant.on Y Y (dy fhg93_2)) Y (OL.sliceSHi (j:=a) (tv (tS w) Y) (tv (tN a) Y) Y (by first | (simp only [ByteArray.size_append,ByteArray.size_extract];omega) | omega | (simp only [List.length_map];omega) | (simp only [List.length_map,List.length_append,List.length_cons,List.length_nil,List.length_replicate,List.length_set,List.length_drop,List.length_take,Zk] at *;omega)) U9) (VRunD.free Y (VWant.on Y Y (dy fhg93_2)) Y (OF.move (tv (tS w) Y)) (VRunD.free Y (VWant.on Y Y (dy fhg93_2)) Y (OF.move (tv (tN b) Y)) (VRunD.look Y (VWant.on Y Y (dy fhg93_2)) Y (OL.sliceSLo (i:=b) (tv (tS w) Y) (tv (tN b) Y) Y (by first | (simp only [ByteArray.size_append,ByteArray.size_extract];omega) | omega | (simp only [List.length_map];omega) | (simp only [List.length_map,List.length_append,List.length_cons,List.length_nil,List.length_replicate,List.length_set,List.length_drop,List.length_take,Zk] at *;omega)) U9) (VRunD.free Y (VWant.on Y Y (dy fhg93_2)) Y (B.sadd (tv (tS (w.extract 0 a)) Y) (tv (tS (w.extract b w.size)) Y) (by first | (simp only [ByteArray.size_append,ByteArray.size_extract];omega) | omega | (simp only [List.length_map];omega) | (simp only [List.length_map,List.length_append,List.length_cons,List.length_nil,List.length_replicate,List.length_set,List.length_drop,List.length_take,Zk] at *;omega))) (VRunD.quiet (bi:= [14,13,12,17,16,15,18,10,11,8,0,2,1,6,5,4,3,7,9]) Y (VWant.on Y Y (dy fhg93_2)) Y Y Y bn (cS (vc (tv (rd 4 Qd l) Y) (vc (tv (tI x1.A) Y) (vc (tv (tS ((w.extract 0 a)++(w.extract b w.size))) Y) vn))) (Zg Y) (ih l x1.A ((w.extract 0 a)++(w.extract b w.size)) (by first | (simp only [ByteArray.size_append,ByteArray.size_extract];omega) | assumption | omega) (by first | (simp only [ByteArray.size_append,ByteArray.size_extract];omega) | assumption | omega) (by first | (simp only [ByteArray.size_append,ByteArray.size_extract];omega) | assumption | omega) (by first | (simp only [ByteArray.size_append,ByteArray.size_extract];omega) | assumption | omega) (by first | (simp only [ByteArray.size_append,ByteArray.size_extract];omega) | assumption | omega)) Y Y) (fD (OF.pickT (VEv.tmpB Y (dy fhg93_2)) (tv (tB (decide (Yt l d x1.A ((w.extract 0 a)++(w.extract b w.size))))) Y)) Y Y (VRunD.nil ?_)))))))))))
     refine tn ?_
     refine cd (Yt l d x1.A ((w.extract 0 a)++(w.extract b w.size))) Y (fun fhc10=> ?_) fun fhc10=> ?_
     ·refine sr ?_
      refine fO (OF.assign (VEv.bool true)) (nt (rt (vinB.r (tr (tr (vinB.r (vinB.r (tr (tr (vinB.r (vinB.r ?_)))))))))))
      refine tr (vb (b':=true) Y ?_)
      first | exact Qt (Qa0 hx1 fhc1).symm | exact Qt (Qa1 hx1 fhc2).symm | exact Qt (QaP hx1 hx2 fhc3).symm | exact dTr ((YR hx1 fhc4).2 ⟨k,hI1.1,fhc5,fhg60_1,fhc6⟩) | exact Jp (fun h_=>Yw hI2 fhc5 ((YR hx1 fhc4).1 h_)) | exact dTr ((YP hx1 fhc7).2 ⟨a,b,⟨hJ1.1,hK1.1,fhc9⟩,fhg93_2,fhc10⟩) | exact Jp (fun h_=>Yx hJ2 fhc8 ((YP hx1 fhc7).1 h_)) | exact Qt (QaJ hx1 hx2 fhc11).symm | exact Qt (Qa2 hx1 hx2 fhc12).symm | exact Qt (QaT hx1 hx2 fhc13).symm | exact Qt (QaR hx1 hx2 fhc1 fhc2 fhc3 fhc4 fhc7 fhc11 fhc12 fhc13).symm | (exfalso;omega)
     refine sk (vinB.n (tn (VRun.region (mO (tN b) Y (fO (QB (tv (tN b) Y) (VEv.int .i64 1) (by first | (simp only [ByteArray.size_append,ByteArray.size_extract];omega) | omega)) (aO (tN (b+1)) Y (VRunO.nil (tn ?_))))))))
     refine ⟨(b+1:Nat),?_,?_,Wk.mk (fun k=>k) ?_ ?_ ?_⟩
     ·(refine ⟨?_,Qdz hK2 (fun h_=> ?_)⟩;omega;first | (refine absurd h_.1 ?_;assumption) | (refine absurd h_.2 ?_;assumption))
     ·first | omega | (simp only [];omega) | (show _<_;omega) | (simp;omega)
     ·exact (b2 (b2 (b2 (b2 (b2 bn)))))
     ·exact (b3 bn)
     ·exact nd Y
    refine oD Y Y (dz fhg93_2) Y (oD Y Y (dz fhg93_2) Y (oD Y Y (dz fhg93_2) Y (oD Y Y (dz fhg93_2) Y (oD Y Y (dz fhg93_2) Y (oD Y Y (dz fhg93_2) Y (oD Y Y (dz fhg93_2) Y (oD Y Y (dz fhg93_2) Y (oD Y Y (dz fhg93_2) Y (oD Y Y (dz fhg93_2) Y (oD Y Y (dz fhg93_2) Y (fD (OF.pickF (VEv.tmpB Y (dz fhg93_2)) (VEv.bool false)) Y Y ?_)))))))))))
    refine VRunD.nil (tn (cf Y (sk (vinB.n (tn (VRun.region (mO (tN b) Y (fO (QB (tv (tN b) Y) (VEv.int .i64 1) (by first | (simp only [ByteArray.size_append,ByteArray.size_extract];omega) | omega)) (aO (tN (b+1)) Y (VRunO.nil (tn ?_)))))))))))
    refine ⟨(b+1:Nat),?_,?_,Wk.mk (fun k=>k) ?_ ?_ ?_⟩
    ·(refine ⟨?_,Qdz hK2 (fun h_=> ?_)⟩;omega;first | (refine absurd h_.1 ?_;assumption) | (refine absurd h_.2 ?_;assumption))
    ·first | omega | (simp only [];omega) | (show _<_;omega) | (simp;omega)
    ·exact (b2 (b2 (b2 (b2 (b2 bn)))))
    ·exact (b3 bn)
    ·exact nd Y
   refine VRun.exit (vthn.e (vthn.e (vinB.e (vinB.n (tn (VRun.region (mO (tN a) Y (fO (QB (tv (tN a) Y) (VEv.int .i64 1) (by first | (simp only [ByteArray.size_append,ByteArray.size_extract];omega) | omega)) (aO (tN (a+1)) Y (VRunO.nil (tn ?_)))))))))))
   refine ⟨(a+1:Nat),?_,?_,Wk.mk (fun k=>k) ?_ ?_ ?_⟩
   ·(refine ⟨?_,QiL hJ2 hK2 ?_⟩<;>omega)
   ·first | omega | (simp only [];omega) | (show _<_;omega) | (simp;omega)
   ·exact (b2 (b2 (b2 (b2 bn))))
   ·exact (b3 bn)
   ·exact nd Y
  refine VRun.exit (vthn.e (vthn.e (vinB.e (vinB.n (tn (sr (fO (OF.assign (VEv.bool false)) (nt (rt (vb (b':=false) Y ?_))))))))))
  first | exact Qt (Qa0 hx1 fhc1).symm | exact Qt (Qa1 hx1 fhc2).symm | exact Qt (QaP hx1 hx2 fhc3).symm | exact dTr ((YR hx1 fhc4).2 ⟨k,hI1.1,fhc5,fhg60_1,fhc6⟩) | exact Jp (fun h_=>Yw hI2 fhc5 ((YR hx1 fhc4).1 h_)) | exact dTr ((YP hx1 fhc7).2 ⟨a,b,⟨hJ1.1,hK1.1,fhc9⟩,fhg93_2,fhc10⟩) | exact Jp (fun h_=>Yx hJ2 fhc8 ((YP hx1 fhc7).1 h_)) | exact Qt (QaJ hx1 hx2 fhc11).symm | exact Qt (Qa2 hx1 hx2 fhc12).symm | exact Qt (QaT hx1 hx2 fhc13).symm | exact Qt (QaR hx1 hx2 fhc1 fhc2 fhc3 fhc4 fhc7 fhc11 fhc12 fhc13).symm | (exfalso;omega)
 refine sr (fO (Yn (tv (tI x1.Kind) Y) (VEv.int .i64 6)) (aO (tB (decide (x1.Kind=6))) Y (nt ?_)))
 refine cd (x1.Kind=6) Y (fun fhc11=> ?_) fun fhc11=> ?_
 ·refine sr ?_
  refine mO (tS w) Y (mO (tS x2.Word) Y (cO (cS (vc (tv (tS x2.Word) Y) vn) (Zg Y) (QgV (n+d+4) x2.Word (by first | (simp only [ByteArray.size_append,ByteArray.size_extract];omega) | assumption | omega)) Y Y) (fO (B.seql (c:=(decide (w=hdS x2.Word))) (tv (tS w) Y) (tv (tS (hdS x2.Word)) Y) Y) (aO (tB (decide (w=hdS x2.Word))) Y (nt (rt (vinB.r (tr (vb (b':=(decide (w=hdS x2.Word))) Y ?_)))))))))
  first | exact Qt (Qa0 hx1 fhc1).symm | exact Qt (Qa1 hx1 fhc2).symm | exact Qt (QaP hx1 hx2 fhc3).symm | exact dTr ((YR hx1 fhc4).2 ⟨k,hI1.1,fhc5,fhg60_1,fhc6⟩) | exact Jp (fun h_=>Yw hI2 fhc5 ((YR hx1 fhc4).1 h_)) | exact dTr ((YP hx1 fhc7).2 ⟨a,b,⟨hJ1.1,hK1.1,fhc9⟩,fhg93_2,fhc10⟩) | exact Jp (fun h_=>Yx hJ2 fhc8 ((YP hx1 fhc7).1 h_)) | exact Qt (QaJ hx1 hx2 fhc11).symm | exact Qt (Qa2 hx1 hx2 fhc12).symm | exact Qt (QaT hx1 hx2 fhc13).symm | exact Qt (QaR hx1 hx2 fhc1 fhc2 fhc3 fhc4 fhc7 fhc11 fhc12 fhc13).symm | (exfalso;omega)
 refine sr (fO (Yn (tv (tI x1.Kind) Y) (VEv.int .i64 7)) (aO (tB (decide (x1.Kind=7))) Y (nt ?_)))
 refine cd (x1.Kind=7) Y (fun fhc12=> ?_) fun fhc12=> ?_
 ·refine sr ?_
  refine mO (tS w) Y (mO (tS x2.Word) Y (cO (cS (vc (tv (tS x2.Word) Y) vn) (Zg Y) (Qc4 (n+d+4) x2.Word (by first | (simp only [ByteArray.size_append,ByteArray.size_extract];omega) | assumption | omega)) Y Y) (fO (B.seql (c:=(decide (w=nhS x2.Word))) (tv (tS w) Y) (tv (tS (nhS x2.Word)) Y) Y) (aO (tB (decide (w=nhS x2.Word))) Y (nt (rt (vinB.r (tr (vb (b':=(decide (w=nhS x2.Word))) Y ?_)))))))))
  first | exact Qt (Qa0 hx1 fhc1).symm | exact Qt (Qa1 hx1 fhc2).symm | exact Qt (QaP hx1 hx2 fhc3).symm | exact dTr ((YR hx1 fhc4).2 ⟨k,hI1.1,fhc5,fhg60_1,fhc6⟩) | exact Jp (fun h_=>Yw hI2 fhc5 ((YR hx1 fhc4).1 h_)) | exact dTr ((YP hx1 fhc7).2 ⟨a,b,⟨hJ1.1,hK1.1,fhc9⟩,fhg93_2,fhc10⟩) | exact Jp (fun h_=>Yx hJ2 fhc8 ((YP hx1 fhc7).1 h_)) | exact Qt (QaJ hx1 hx2 fhc11).symm | exact Qt (Qa2 hx1 hx2 fhc12).symm | exact Qt (QaT hx1 hx2 fhc13).symm | exact Qt (QaR hx1 hx2 fhc1 fhc2 fhc3 fhc4 fhc7 fhc11 fhc12 fhc13).symm | (exfalso;omega)
 refine sr (fO (Yn (tv (tI x1.Kind) Y) (VEv.int .i64 8)) (aO (tB (decide (x1.Kind=8))) Y (nt ?_)))
 refine cd (x1.Kind=8) Y (fun fhc13=> ?_) fun fhc13=> ?_
 ·refine sr ?_
  refine mO (tS w) Y (mO (tS x2.Word) Y (cO (cS (vc (tv (tS x2.Word) Y) vn) (Zg Y) (Qc2 (n+d+4) x2.Word (by first | (simp only [ByteArray.size_append,ByteArray.size_extract];omega) | assumption | omega)) Y Y) (fO (B.seql (c:=(decide (w=ntS x2.Word))) (tv (tS w) Y) (tv (tS (ntS x2.Word)) Y) Y) (aO (tB (decide (w=ntS x2.Word))) Y (nt (rt (vinB.r (tr (vb (b':=(decide (w=ntS x2.Word))) Y ?_)))))))))
  first | exact Qt (Qa0 hx1 fhc1).symm | exact Qt (Qa1 hx1 fhc2).symm | exact Qt (QaP hx1 hx2 fhc3).symm | exact dTr ((YR hx1 fhc4).2 ⟨k,hI1.1,fhc5,fhg60_1,fhc6⟩) | exact Jp (fun h_=>Yw hI2 fhc5 ((YR hx1 fhc4).1 h_)) | exact dTr ((YP hx1 fhc7).2 ⟨a,b,⟨hJ1.1,hK1.1,fhc9⟩,fhg93_2,fhc10⟩) | exact Jp (fun h_=>Yx hJ2 fhc8 ((YP hx1 fhc7).1 h_)) | exact Qt (QaJ hx1 hx2 fhc11).symm | exact Qt (Qa2 hx1 hx2 fhc12).symm | exact Qt (QaT hx1 hx2 fhc13).symm | exact Qt (QaR hx1 hx2 fhc1 fhc2 fhc3 fhc4 fhc7 fhc11 fhc12 fhc13).symm | (exfalso;omega)
 refine sr (fO (Yn (tv (tI x1.Kind) Y) (VEv.int .i64 9)) (aO (tB (decide (x1.Kind=9))) Y (nt ?_)))
 refine cd (x1.Kind=9) Y (fun fhc14=> ?_) fun fhc14=> ?_
 ·refine sr ?_
  refine mO (tS w) Y (mO (tS x2.Word) Y (cO (cS (vc (tv (tS w) Y) (vc (tv (tS x2.Word) Y) vn)) (Zg Y) (Qfd (n+d+4) w x2.Word (by first | (simp only [ByteArray.size_append,ByteArray.size_extract];omega) | assumption | omega) (by first | (simp only [ByteArray.size_append,ByteArray.size_extract];omega) | assumption | omega)) Y Y) (aO (tB (decide (Qd2 w x2.Word))) Y (nt (rt (vinB.r (tr (vb (b':=(decide (Qd2 w x2.Word))) Y ?_))))))))
  first | exact Qt (Qa0 hx1 fhc1).symm | exact Qt (Qa1 hx1 fhc2).symm | exact Qt (QaP hx1 hx2 fhc3).symm | exact dTr ((YR hx1 fhc4).2 ⟨k,hI1.1,fhc5,fhg60_1,fhc6⟩) | exact Jp (fun h_=>Yw hI2 fhc5 ((YR hx1 fhc4).1 h_)) | exact dTr ((YP hx1 fhc7).2 ⟨a,b,⟨hJ1.1,hK1.1,fhc9⟩,fhg93_2,fhc10⟩) | exact Jp (fun h_=>Yx hJ2 fhc8 ((YP hx1 fhc7).1 h_)) | exact Qt (QaJ hx1 hx2 fhc11).symm | exact Qt (Qa2 hx1 hx2 fhc12).symm | exact Qt (QaT hx1 hx2 fhc13).symm | exact Qt (QaR hx1 hx2 fhc1 fhc2 fhc3 fhc4 fhc7 fhc11 fhc12 fhc13).symm | (exfalso;omega)
 refine sk (vinB.n (tn (sr (fO (OF.assign (VEv.bool false)) (nt (rt (vb (b':=false) Y ?_)))))))
 first | exact Qt (Qa0 hx1 fhc1).symm | exact Qt (Qa1 hx1 fhc2).symm | exact Qt (QaP hx1 hx2 fhc3).symm | exact dTr ((YR hx1 fhc4).2 ⟨k,hI1.1,fhc5,fhg60_1,fhc6⟩) | exact Jp (fun h_=>Yw hI2 fhc5 ((YR hx1 fhc4).1 h_)) | exact dTr ((YP hx1 fhc7).2 ⟨a,b,⟨hJ1.1,hK1.1,fhc9⟩,fhg93_2,fhc10⟩) | exact Jp (fun h_=>Yx hJ2 fhc8 ((YP hx1 fhc7).1 h_)) | exact Qt (QaJ hx1 hx2 fhc11).symm | exact Qt (Qa2 hx1 hx2 fhc12).symm | exact Qt (QaT hx1 hx2 fhc13).symm | exact Qt (QaR hx1 hx2 fhc1 fhc2 fhc3 fhc4 fhc7 fhc11 fhc12 fhc13).symm | (exfalso;omega)
noncomputable section
def jEx (l:List D.Step) (d:Nat) (x:D.Step) (w:ByteArray):Prop:=∃m,1≤m∧m<w.size∧Yt l d x.A (w.extract 0 m)∧Yt l d x.B (w.extract m w.size)
def iEx (l:List D.Step) (d:Nat) (x:D.Step) (w:ByteArray):Prop:=∃a b,(1≤a∧a<b∧b<w.size)∧Yt l d x.B (w.extract a b)∧Yt l d x.A (w.extract 0 a++w.extract b w.size)
instance (l:List D.Step) (d:Nat) (x:D.Step) (w:ByteArray):Decidable (jEx l d x w):=Classical.propDecidable _
instance (l:List D.Step) (d:Nat) (x:D.Step) (w:ByteArray):Decidable (iEx l d x w):=Classical.propDecidable _
theorem Yz {p:Prop} [Decidable p] {a b:ByteArray} (h:p↔b=a):decide (a=b)=decide p:=decide_eq_decide.2 ⟨fun e=>h.2 e.symm,fun e=>(h.1 e).symm⟩
def J5 (l:List D.Step) (w:ByteArray):Prop:=(QJ l∧Qm w)∧Yt l 9 (((l.length:Nat):Int) - 1) w
instance (l:List D.Step) (w:ByteArray):Decidable (J5 l w):=Classical.propDecidable _
end
theorem Qf4 (n:Nat) (d:Nat) (hM:∀(l:List D.Step) (i:Int) (w:ByteArray) (hp:QJ l) (hz:zL Zc l≤mx) (hd:d≤9) (hi:0≤i∧i<(d:Int)∧i<(l.length:Int)) (hw:Qm w),Pure (Qo Tryz.prog n) 123 [(rd 4 Qd l),(tI i),(tS w)] (tB (decide (Yt l d i w)))) (l:List D.Step) (x:D.Step) (w:ByteArray) (hp:QJ l) (hz:zL Zc l≤mx) (hd:d≤9) (ha:0≤x.A∧x.A<(d:Int)∧x.A<(l.length:Int)) (hb:0≤x.B∧x.B<(d:Int)∧x.B<(l.length:Int)) (hw:Qm w):Pure (Qo Tryz.prog (n+1)) 152 [(rd 4 Qd l),(T.agg (Qd false x)),(tS w)] (tB (decide (jEx l d x w))):=by
 refine Pure.intro (rs:= [ResultVar.tmp 6]) Tryz.func152 Y Y Y (E0:= [(0,(rd 4 Qd l)),(1,(T.agg (Qd false x))),(2,(tS w))]) Y ?_
 obtain ⟨hlim,hmx,hmax⟩:=Qz
 have hw8:=hw.1
 refine sr (kO (B.box (ts:=(Qd false x)) (tv (T.agg (Qd false x)) Y) nofun Y) (fO (OF.assign (VEv.bool false)) (nt (sq (sr (fO (OF.assign (VEv.int .i64 1)) (nt (VRun.block ?_))))))))
 refine VRun.loop (A:=Nat) (fun s_=> [(0,(rd 4 Qd l)),(2,(tS w)),(4,(T.op 0 0)),(7,(tN s_))]) (fun s_=>QV [(0,(Obj.cells (Qd false x)))]) 1 (fun s_=>(1≤s_∧s_≤9)∧jNo l d x w s_) (fun s_=>w.size - s_) (1:Nat) ?_ (Wk.mk (fun k=>k) ?_ ?_ ?_) ?_
 ·exact ⟨⟨Nat.le_refl 1,by decide⟩,Qnt l d x w⟩
 ·exact (b2 (b2 (b2 (b2 bn))))
 ·exact (b3 bn)
 ·exact nd Y
 rintro k (hI':(1≤k∧k≤9)∧jNo l d x w k)
 show VRun _ _ _ [(0,(rd 4 Qd l)),(2,(tS w)),(4,(T.op 0 0)),(7,(tN k))] (QV [(0,(Obj.cells (Qd false x)))]) 1 _
 have hI1:=hI'.1
 have hI2:=hI'.2
 refine sq (sr (mO (tN k) Y (mO (tS w) Y (lO (B.lenS (tv (tS w) Y) U9) (fO (Q9 (tv (tN k) Y) (tv (tN w.size) Y)) (nt ?_))))))
 refine cd (k<w.size) Y (fun fhc0=> ?_) fun fhc0=> ?_
 ·have hwl:=Qa8 hw (a:=0) (b:=k) (by omega) (by omega)
  have hwr:=Qa8 hw (a:=k) (b:=w.size) (by omega) (by omega)
  refine sk (tn (sq (VRun.block (sq (VRun.draw (B:= [[],[],[1],[],[],[4,3],[3,4,5,1,2,0],[0,2,1,5,4,3,6],[6,3,4,5,1,2,0,7],[6,3,4,5,1,2,0,7],[7,0,2,1,5,4,3,6,9],[6,3,4,5,1,2,0,7],[6,3,4,5,1,2,0,7],[12,7,0,2,1,5,4,3,6,11],[11,12,13,9,10,7,0,2,1,5,4,3,6,8],[8,10,9,13,12,11,14,6,3,4,5,1,2,0,7]]) (by kernel_rfl) (by kernel_rfl) (mD (rd 4 Qd l) Y Y (fD (OF.fieldAddrO (tv (T.op 0 0) Y) ZC) Y Y (lD (OL.loadO1 (t:=(tI x.A)) (tv (T.op 0 2) Y) Y Y QS) Y Y (mD (tS w) Y Y (mD (tN k) Y Y (lD (OL.sliceSHi (j:=k) (tv (tS w) Y) (tv (tN k) Y) Y (by first | omega | (simp only [List.length_map];omega) | (simp only [List.length_map,List.length_append,List.length_cons,List.length_nil,List.length_replicate,List.length_set,List.length_drop,List.length_take,Zk] at *;omega)) U9) Y Y ?_)))))))))))
  refine VRunD.quiet (bi:= [3,4,5,1,2,0]) Y VWant.always Y Y Y bn (cS (vc (tv (rd 4 Qd l) Y) (vc (tv (tI x.A) Y) (vc (tv (tS (w.extract 0 k)) Y) vn))) (Zg Y) (hM l x.A (w.extract 0 k) (by first | assumption | omega) (by first | assumption | omega) (by first | assumption | omega) (by first | assumption | omega) (by first | assumption | omega)) Y Y) (mD (tB (decide (Yt l d x.A (w.extract 0 k)))) Y Y ?_)
  refine gw (Yt l d x.A (w.extract 0 k)) (fun fhg21_1=> ?_) fun fhg21_1=> ?_
  ·refine VRunD.free Y (VWant.on Y Y (dy fhg21_1)) Y (OF.move (tv (rd 4 Qd l) Y)) ?_
   refine VRunD.free Y (VWant.on Y Y (dy fhg21_1)) Y (OF.fieldAddrO (tv (T.op 0 0) Y) Z4) (VRunD.look Y (VWant.on Y Y (dy fhg21_1)) Y (OL.loadO1 (t:=(tI x.B)) (tv (T.op 0 3) Y) Y Y QS) (VRunD.free Y (VWant.on Y Y (dy fhg21_1)) Y (OF.move (tv (tS w) Y)) (VRunD.free Y (VWant.on Y Y (dy fhg21_1)) Y (OF.move (tv (tN k) Y)) (VRunD.look Y (VWant.on Y Y (dy fhg21_1)) Y (OL.sliceSLo (i:=k) (tv (tS w) Y) (tv (tN k) Y) Y (by first | omega | (simp only [List.length_map];omega) | (simp only [List.length_map,List.length_append,List.length_cons,List.length_nil,List.length_replicate,List.length_set,List.length_drop,List.length_take,Zk] at *;omega)) U9) (VRunD.quiet (bi:= [11,12,13,9,10,7,0,2,1,5,4,3,6,8]) Y (VWant.on Y Y (dy fhg21_1)) Y Y Y bn (cS (vc (tv (rd 4 Qd l) Y) (vc (tv (tI x.B) Y) (vc (tv (tS (w.extract k w.size)) Y) vn))) (Zg Y) (hM l x.B (w.extract k w.size) (by first | assumption | omega) (by first | assumption | omega) (by first | assumption | omega) (by first | assumption | omega) (by first | assumption | omega)) Y Y) (fD (OF.pickT (VEv.tmpB Y (dy fhg21_1)) (tv (tB (decide (Yt l d x.B (w.extract k w.size)))) Y)) Y Y (VRunD.nil (tn ?_))))))))
   refine cd (Yt l d x.B (w.extract k w.size)) Y (fun fhc1=> ?_) fun fhc1=> ?_
   ·refine sr ?_
    refine fO (OF.assign (VEv.bool true)) (nt (rt (vinB.r (tr (tr (vinB.r (tr (vb (b':=true) Y ?_))))))))
    first | exact dTr ⟨k,hI1.1,fhc0,fhg21_1,fhc1⟩ | exact Jp (fun h_=>Yw hI2 fhc0 h_)
   refine sk (vinB.n (tn (VRun.region (mO (tN k) Y (fO (QB (tv (tN k) Y) (VEv.int .i64 1) (by omega)) (aO (tN (k+1)) Y (VRunO.nil (tn ?_))))))))
   refine ⟨(k+1:Nat),?_,?_,Wk.mk (fun k=>k) ?_ ?_ ?_⟩
   ·(refine ⟨?_,QdK hI2 (fun h_=> ?_)⟩;omega;first | (refine absurd h_.1 ?_;assumption) | (refine absurd h_.2 ?_;assumption))
   ·first | omega | (simp only [];omega) | (show _<_;omega) | (simp;omega)
   ·exact (b2 (b2 (b2 (b2 bn))))
   ·exact (b3 bn)
   ·exact nd Y
  refine oD Y Y (dz fhg21_1) Y (oD Y Y (dz fhg21_1) Y (oD Y Y (dz fhg21_1) Y (oD Y Y (dz fhg21_1) Y (oD Y Y (dz fhg21_1) Y (oD Y Y (dz fhg21_1) Y (oD Y Y (dz fhg21_1) Y (fD (OF.pickF (VEv.tmpB Y (dz fhg21_1)) (VEv.bool false)) Y Y (VRunD.nil (tn (cf Y (sk ?_)))))))))))
  refine vinB.n (tn (VRun.region (mO (tN k) Y (fO (QB (tv (tN k) Y) (VEv.int .i64 1) (by omega)) (aO (tN (k+1)) Y (VRunO.nil (tn ?_)))))))
  refine ⟨(k+1:Nat),?_,?_,Wk.mk (fun k=>k) ?_ ?_ ?_⟩
  ·(refine ⟨?_,QdK hI2 (fun h_=> ?_)⟩;omega;first | (refine absurd h_.1 ?_;assumption) | (refine absurd h_.2 ?_;assumption))
  ·first | omega | (simp only [];omega) | (show _<_;omega) | (simp;omega)
  ·exact (b2 (b2 (b2 (b2 bn))))
  ·exact (b3 bn)
  ·exact nd Y
 refine VRun.exit (vthn.e (vthn.e (vinB.e (tn (sr (fO (OF.assign (VEv.bool false)) (nt (rt (vb (b':=false) Y ?_)))))))))
 first | exact dTr ⟨k,hI1.1,fhc0,fhg21_1,fhc1⟩ | exact Jp (fun h_=>Yw hI2 fhc0 h_)
theorem Qh4 (n:Nat) (d:Nat) (hM:∀(l:List D.Step) (i:Int) (w:ByteArray) (hp:QJ l) (hz:zL Zc l≤mx) (hd:d≤9) (hi:0≤i∧i<(d:Int)∧i<(l.length:Int)) (hw:Qm w),Pure (Qo Tryz.prog n) 123 [(rd 4 Qd l),(tI i),(tS w)] (tB (decide (Yt l d i w)))) (l:List D.Step) (x:D.Step) (w:ByteArray) (hp:QJ l) (hz:zL Zc l≤mx) (hd:d≤9) (ha:0≤x.A∧x.A<(d:Int)∧x.A<(l.length:Int)) (hb:0≤x.B∧x.B<(d:Int)∧x.B<(l.length:Int)) (hw:Qm w):Pure (Qo Tryz.prog (n+1)) 153 [(rd 4 Qd l),(T.agg (Qd false x)),(tS w)] (tB (decide (iEx l d x w))):=by
 refine Pure.intro (rs:= [ResultVar.tmp 6]) Tryz.func153 Y Y Y (E0:= [(0,(rd 4 Qd l)),(1,(T.agg (Qd false x))),(2,(tS w))]) Y ?_
 obtain ⟨hlim,hmx,hmax⟩:=Qz
 have hw8:=hw.1
 refine sr (kO (B.box (ts:=(Qd false x)) (tv (T.agg (Qd false x)) Y) nofun Y) (fO (OF.assign (VEv.bool false)) (nt (sq (sr (fO (OF.assign (VEv.int .i64 1)) (nt (VRun.block ?_))))))))
 refine VRun.loop (A:=Nat) (fun s_=> [(0,(rd 4 Qd l)),(2,(tS w)),(4,(T.op 0 0)),(7,(tN s_))]) (fun s_=>QV [(0,(Obj.cells (Qd false x)))]) 1 (fun s_=>(1≤s_∧s_≤9)∧oNo l d x w s_) (fun s_=>w.size - s_) (1:Nat) ?_ (Wk.mk (fun k=>k) ?_ ?_ ?_) ?_
 ·exact ⟨⟨Nat.le_refl 1,by decide⟩,QnB l d x w⟩
 ·exact (b2 (b2 (b2 (b2 bn))))
 ·exact (b3 bn)
 ·exact nd Y
 rintro a (hI':(1≤a∧a≤9)∧oNo l d x w a)
 show VRun _ _ _ [(0,(rd 4 Qd l)),(2,(tS w)),(4,(T.op 0 0)),(7,(tN a))] (QV [(0,(Obj.cells (Qd false x)))]) 1 _
 have hJ1:=hI'.1
 have hJ2:=hI'.2
 refine sq (sr (mO (tN a) Y (mO (tS w) Y (lO (B.lenS (tv (tS w) Y) U9) (fO (Q9 (tv (tN a) Y) (tv (tN w.size) Y)) (nt ?_))))))
 refine cd (a<w.size) Y (fun fhc0=> ?_) fun fhc0=> ?_
 ·refine sk ?_
  refine tn (sq (VRun.block (sr (mO (tN a) Y (fO (QB (tv (tN a) Y) (VEv.int .i64 1) (by first | (simp only [ByteArray.size_append,ByteArray.size_extract];omega) | omega)) (aO (tN (a+1)) Y (nt (VRun.block ?_))))))))
  refine VRun.loop (A:=Nat) (fun s_=> [(0,(rd 4 Qd l)),(2,(tS w)),(4,(T.op 0 0)),(7,(tN a)),(8,(tN s_))]) (fun s_=>QV [(0,(Obj.cells (Qd false x)))]) 1 (fun s_=>(a<s_∧s_≤9)∧iNo l d x w a s_) (fun s_=>w.size - s_) (a+1:Nat) ?_ (Wk.mk (fun k=>k) ?_ ?_ ?_) ?_
  ·exact ⟨⟨by omega,by omega⟩,QnD l d x w a⟩
  ·exact (b2 (b2 (b2 (b2 (b2 bn)))))
  ·exact (b3 bn)
  ·exact nd Y
  rintro b (hI':(a<b∧b≤9)∧iNo l d x w a b)
  show VRun _ _ _ [(0,(rd 4 Qd l)),(2,(tS w)),(4,(T.op 0 0)),(7,(tN a)),(8,(tN b))] (QV [(0,(Obj.cells (Qd false x)))]) 1 _
  have hK1:=hI'.1
  have hK2:=hI'.2
  refine sq (sr (mO (tN b) Y (mO (tS w) Y (lO (B.lenS (tv (tS w) Y) U9) (fO (Q9 (tv (tN b) Y) (tv (tN w.size) Y)) (nt ?_))))))
  refine cd (b<w.size) Y (fun fhc1=> ?_) fun fhc1=> ?_
  ·have hwm:=Qa8 hw (a:=a) (b:=b) (by omega) (by omega)
   have hwo:=Qjd hw (a:=a) (b:=b) (by omega) (by omega) (by omega)
   refine sk (tn (sq (VRun.block (sq (VRun.draw (B:= [[],[],[1],[],[],[],[5,4,3],[3,4,5,6,1,2,0],[0,2,1,6,5,4,3,7],[7,3,4,5,6,1,2,0,8],[7,3,4,5,6,1,2,0,8],[8,0,2,1,6,5,4,3,7,10],[7,3,4,5,6,1,2,0,8],[7,3,4,5,6,1,2,0,8],[13,8,0,2,1,6,5,4,3,7,12],[7,3,4,5,6,1,2,0,8],[7,3,4,5,6,1,2,0,8],[16,8,0,2,1,6,5,4,3,7,15],[15,16,17,12,7,3,4,5,6,1,2,0,8,13,14],[14,13,12,17,16,15,18,10,11,8,0,2,1,6,5,4,3,7,9],[9,11,10,18,15,16,17,12,13,14,19,7,3,4,5,6,1,2,0,8]]) (by kernel_rfl) (by kernel_rfl) (mD (rd 4 Qd l) Y Y (fD (OF.fieldAddrO (tv (T.op 0 0) Y) Z4) Y Y (lD (OL.loadO1 (t:=(tI x.B)) (tv (T.op 0 3) Y) Y Y QS) Y Y (mD (tS w) Y Y (mD (tN a) Y Y (mD (tN b) Y Y ?_)))))))))))
   refine lD (OL.sliceS (i:=a) (j:=b) (tv (tS w) Y) (tv (tN a) Y) (tv (tN b) Y) Y Y (by first | (simp only [ByteArray.size_append,ByteArray.size_extract];omega) | omega | (simp only [List.length_map];omega) | (simp only [List.length_map,List.length_append,List.length_cons,List.length_nil,List.length_replicate,List.length_set,List.length_drop,List.length_take,Zk] at *;omega)) (by first | (simp only [ByteArray.size_append,ByteArray.size_extract];omega) | omega | (simp only [List.length_map];omega) | (simp only [List.length_map,List.length_append,List.length_cons,List.length_nil,List.length_replicate,List.length_set,List.length_drop,List.length_take,Zk] at *;omega)) U9) Y Y (VRunD.quiet (bi:= [3,4,5,6,1,2,0]) Y VWant.always Y Y Y bn (cS (vc (tv (rd 4 Qd l) Y) (vc (tv (tI x.B) Y) (vc (tv (tS (w.extract a b)) Y) vn))) (Zg Y) (hM l x.B (w.extract a b) (by first | (simp only [ByteArray.size_append,ByteArray.size_extract];omega) | assumption | omega) (by first | (simp only [ByteArray.size_append,ByteArray.size_extract];omega) | assumption | omega) (by first | (simp only [ByteArray.size_append,ByteArray.size_extract];omega) | assumption | omega) (by first | (simp only [ByteArray.size_append,ByteArray.size_extract];omega) | assumption | omega) (by first | (simp only [ByteArray.size_append,ByteArray.size_extract];omega) | assumption | omega)) Y Y) (mD (tB (decide (Yt l d x.B (w.extract a b)))) Y Y ?_))
   refine gw (Yt l d x.B (w.extract a b)) (fun fhg31_1=> ?_) fun fhg31_1=> ?_
   ·refine VRunD.free Y (VWant.on Y Y (dy fhg31_1)) Y (OF.move (tv (rd 4 Qd l) Y)) ?_
    refine VRunD.free Y (VWant.on Y Y (dy fhg31_1)) Y (OF.fieldAddrO (tv (T.op 0 0) Y) ZC) (VRunD.look Y (VWant.on Y Y (dy fhg31_1)) Y (OL.loadO1 (t:=(tI x.A)) (tv (T.op 0 2) Y) Y Y QS) (VRunD.free Y (VWant.on Y Y (dy fhg31_1)) Y (OF.move (tv (tS w) Y)) (VRunD.free Y (VWant.on Y Y (dy fhg31_1)) Y (OF.move (tv (tN a) Y)) (VRunD.look Y (VWant.on Y Y (dy fhg31_1)) Y (OL.sliceSHi (j:=a) (tv (tS w) Y) (tv (tN a) Y) Y (by first | (simp only [ByteArray.size_append,ByteArray.size_extract];omega) | omega | (simp only [List.length_map];omega) | (simp only [List.length_map,List.length_append,List.length_cons,List.length_nil,List.length_replicate,List.length_set,List.length_drop,List.length_take,Zk] at *;omega)) U9) (VRunD.free Y (VWant.on Y Y (dy fhg31_1)) Y (OF.move (tv (tS w) Y)) (VRunD.free Y (VWant.on Y Y (dy fhg31_1)) Y (OF.move (tv (tN b) Y)) (VRunD.look Y (VWant.on Y Y (dy fhg31_1)) Y (OL.sliceSLo (i:=b) (tv (tS w) Y) (tv (tN b) Y) Y (by first | (simp only [ByteArray.size_append,ByteArray.size_extract];omega) | omega | (simp only [List.length_map];omega) | (simp only [List.length_map,List.length_append,List.length_cons,List.length_nil,List.length_replicate,List.length_set,List.length_drop,List.length_take,Zk] at *;omega)) U9) (VRunD.free Y (VWant.on Y Y (dy fhg31_1)) Y (B.sadd (tv (tS (w.extract 0 a)) Y) (tv (tS (w.extract b w.size)) Y) (by first | (simp only [ByteArray.size_append,ByteArray.size_extract];omega) | omega | (simp only [List.length_map];omega) | (simp only [List.length_map,List.length_append,List.length_cons,List.length_nil,List.length_replicate,List.length_set,List.length_drop,List.length_take,Zk] at *;omega))) (VRunD.quiet (bi:= [14,13,12,17,16,15,18,10,11,8,0,2,1,6,5,4,3,7,9]) Y (VWant.on Y Y (dy fhg31_1)) Y Y Y bn (cS (vc (tv (rd 4 Qd l) Y) (vc (tv (tI x.A) Y) (vc (tv (tS ((w.extract 0 a)++(w.extract b w.size))) Y) vn))) (Zg Y) (hM l x.A ((w.extract 0 a)++(w.extract b w.size)) (by first | (simp only [ByteArray.size_append,ByteArray.size_extract];omega) | assumption | omega) (by first | (simp only [ByteArray.size_append,ByteArray.size_extract];omega) | assumption | omega) (by first | (simp only [ByteArray.size_append,ByteArray.size_extract];omega) | assumption | omega) (by first | (simp only [ByteArray.size_append,ByteArray.size_extract];omega) | assumption | omega) (by first | (simp only [ByteArray.size_append,ByteArray.size_extract];omega) | assumption | omega)) Y Y) (fD (OF.pickT (VEv.tmpB Y (dy fhg31_1)) (tv (tB (decide (Yt l d x.A ((w.extract 0 a)++(w.extract b w.size))))) Y)) Y Y (VRunD.nil ?_)))))))))))
    refine tn ?_
    refine cd (Yt l d x.A ((w.extract 0 a)++(w.extract b w.size))) Y (fun fhc2=> ?_) fun fhc2=> ?_
    ·refine sr ?_
     refine fO (OF.assign (VEv.bool true)) (nt (rt (vinB.r (tr (tr (vinB.r (vinB.r (tr (tr (vinB.r (tr ?_)))))))))))
     refine vb (b':=true) Y ?_
     first | exact dTr ⟨a,b,⟨hJ1.1,hK1.1,fhc1⟩,fhg31_1,fhc2⟩ | exact Jp (fun h_=>Yx hJ2 fhc0 h_)
    refine sk (vinB.n (tn (VRun.region (mO (tN b) Y (fO (QB (tv (tN b) Y) (VEv.int .i64 1) (by first | (simp only [ByteArray.size_append,ByteArray.size_extract];omega) | omega)) (aO (tN (b+1)) Y (VRunO.nil (tn ?_))))))))
    refine ⟨(b+1:Nat),?_,?_,Wk.mk (fun k=>k) ?_ ?_ ?_⟩
    ·(refine ⟨?_,Qdz hK2 (fun h_=> ?_)⟩;omega;first | (refine absurd h_.1 ?_;assumption) | (refine absurd h_.2 ?_;assumption))
    ·first | omega | (simp only [];omega) | (show _<_;omega) | (simp;omega)
    ·exact (b2 (b2 (b2 (b2 (b2 bn)))))
    ·exact (b3 bn)
    ·exact nd Y
   refine oD Y Y (dz fhg31_1) Y (oD Y Y (dz fhg31_1) Y (oD Y Y (dz fhg31_1) Y (oD Y Y (dz fhg31_1) Y (oD Y Y (dz fhg31_1) Y (oD Y Y (dz fhg31_1) Y (oD Y Y (dz fhg31_1) Y (oD Y Y (dz fhg31_1) Y (oD Y Y (dz fhg31_1) Y (oD Y Y (dz fhg31_1) Y (oD Y Y (dz fhg31_1) Y (fD (OF.pickF (VEv.tmpB Y (dz fhg31_1)) (VEv.bool false)) Y Y ?_)))))))))))
   refine VRunD.nil (tn (cf Y (sk (vinB.n (tn (VRun.region (mO (tN b) Y (fO (QB (tv (tN b) Y) (VEv.int .i64 1) (by first | (simp only [ByteArray.size_append,ByteArray.size_extract];omega) | omega)) (aO (tN (b+1)) Y (VRunO.nil (tn ?_)))))))))))
   refine ⟨(b+1:Nat),?_,?_,Wk.mk (fun k=>k) ?_ ?_ ?_⟩
   ·(refine ⟨?_,Qdz hK2 (fun h_=> ?_)⟩;omega;first | (refine absurd h_.1 ?_;assumption) | (refine absurd h_.2 ?_;assumption))
   ·first | omega | (simp only [];omega) | (show _<_;omega) | (simp;omega)
   ·exact (b2 (b2 (b2 (b2 (b2 bn)))))
   ·exact (b3 bn)
   ·exact nd Y
  refine VRun.exit (vthn.e (vthn.e (vinB.e (vinB.n (tn (VRun.region (mO (tN a) Y (fO (QB (tv (tN a) Y) (VEv.int .i64 1) (by first | (simp only [ByteArray.size_append,ByteArray.size_extract];omega) | omega)) (aO (tN (a+1)) Y (VRunO.nil (tn ?_)))))))))))
  refine ⟨(a+1:Nat),?_,?_,Wk.mk (fun k=>k) ?_ ?_ ?_⟩
  ·(refine ⟨?_,QiL hJ2 hK2 ?_⟩<;>omega)
  ·first | omega | (simp only [];omega) | (show _<_;omega) | (simp;omega)
  ·exact (b2 (b2 (b2 (b2 bn))))
  ·exact (b3 bn)
  ·exact nd Y
 refine VRun.exit (vthn.e (vthn.e (vinB.e (tn (sr (fO (OF.assign (VEv.bool false)) (nt (rt (vb (b':=false) Y ?_)))))))))
 first | exact dTr ⟨a,b,⟨hJ1.1,hK1.1,fhc1⟩,fhg31_1,fhc2⟩ | exact Jp (fun h_=>Yx hJ2 fhc0 h_)
theorem Qe7 (d:Nat):∀(m:Nat) (hm:2*d+5≤m) (l:List D.Step) (i:Int) (w:ByteArray) (hp:QJ l) (hz:zL Zc l≤mx) (hd:d≤9) (hi:0≤i∧i<(d:Int)∧i<(l.length:Int)) (hw:Qm w),Pure (Qo Tryz.prog m) 123 [(rd 4 Qd l),(tI i),(tS w)] (tB (decide (Yt l d i w))):=by
 induction d with
 | zero=>intro m hm l i w hp hz hd hi hw;exact absurd hi.2.1 (by omega)
 | succ d ih =>
 intro m hm l i w hp hz hd hi hw
 obtain ⟨n,rfl⟩:∃n,m=n+5:=⟨m - 5,by omega⟩
 refine Pure.intro (n:=n+4) (rs:= [ResultVar.tmp 6]) Tryz.func123 Y Y Y (E0:= [(0,(rd 4 Qd l)),(1,(tI i)),(2,(tS w))]) Y ?_
 obtain ⟨hlim,hmx,hmax⟩:=Qz
 have hl:=Q1 (z:=Zc) l
 have hw8:=hw.1
 refine sr (fO (OF.assign (VEv.bool false)) (nt (sr (mO (rd 4 Qd l) Y (mO (tI i) Y ?_)))))
 obtain ⟨x1,hx1⟩:∃x,l[(Int.toNat i)]? =some x:=⟨_,List.getElem?_eq_getElem (by omega)⟩
 have hb1:=JN hp hx1
 refine fO (OF.indexAddrR (row:=(Qd false x1)) (i:=(Int.toNat i)) (tv (rd 4 Qd l) Y) (tv (tI i) Y) (by omega) (Qu _ hx1) U62 ZE Yq) (lO (OL.loadRn (us:=(Qd false x1)) (tv (T.rp (Qd false x1)) Y) QbQ ZE (lb Y) Y) (kO (B.alloc (t:=(T.agg [(tN 0),(tS ByteArray.empty),(tN 0),(tN 0)])) (ts:= [(tN 0),(tS ByteArray.empty),(tN 0),(tN 0)]) QeR QeQ nofun (fun _=> .agg _ _ Y (YS (RL.cons (.int _ _) (RL.cons (.str _) (RL.cons (.int _ _) (RL.cons (.int _ _) (RL.nil _))))))) Y) (cO (B.storeW (us:=(Qd false x1)) (tv (T.op 0 0) Y) (tv (T.agg (Qd false x1)) Y) nofun Y Y Y Yq ZE (bc Y (bc Y (bc Y (bc Y bn))))) (nt (sq (sr (lf (tI x1.Kind) Y Zf Y Y QS (nt (VRun.block (sr (fO (Yn (tv (tI x1.Kind) Y) (VEv.int .i64 1)) ?_)))))))))))
 refine aO (tB (decide (x1.Kind=1))) Y (nt ?_)
 refine cd (x1.Kind=1) Y (fun fhc0=> ?_) fun fhc0=> ?_
 ·refine sr ?_
  refine lf (tS x1.Word) Y Z3 Y Y ZG (mO (tS w) Y (fO (B.seql (c:=(decide (x1.Word=w))) (tv (tS x1.Word) Y) (tv (tS w) Y) Y) (aO (tB (decide (x1.Word=w))) Y (nt (rt (vinB.r (tr (vb (b':=(decide (x1.Word=w))) Y ?_))))))))
  first | exact Yz (Qa0 hx1 fhc0) | exact Qt (Qa1 hx1 fhc1).symm | exact Qt (QaP hx1 hx2 fhc2).symm | exact Qt (YR hx1 fhc3).symm | exact Qt (YP hx1 fhc4).symm | exact Yz (QaJ hx1 hx2 fhc5) | exact Yz (Qa2 hx1 hx2 fhc6) | exact Yz (QaT hx1 hx2 fhc7) | exact Qt (QaR hx1 hx2 fhc0 fhc1 fhc2 fhc3 fhc4 fhc5 fhc6 fhc7).symm
 have hkA:=hb1.2.2.2 fhc0
 refine sr (fO (Yn (tv (tI x1.Kind) Y) (VEv.int .i64 2)) (aO (tB (decide (x1.Kind=2))) Y (nt ?_)))
 refine cd (x1.Kind=2) Y (fun fhc1=> ?_) fun fhc1=> ?_
 ·have hwb:=Qhc hw
  refine sq (VRun.draw (B:= [[],[],[1],[],[3],[3,4,1,2,0],[0,2,1,4,3,5]]) (by kernel_rfl) (by kernel_rfl) (mD (rd 4 Qd l) Y Y (fD (OF.fieldAddrO (tv (T.op 0 0) Y) ZC) Y Y (lD (OL.loadO1 (t:=(tI x1.A)) (tv (T.op 0 2) Y) Y Y QS) Y Y (mD (tS w) Y Y (VRunD.quiet (bi:= [3]) Y VWant.always Y Y Y bn (cS (vc (tv (tS w) Y) vn) (Zg Y) (Qbb (n+3) w (by first | assumption | omega)) Y Y) (VRunD.quiet (bi:= [3,4,1,2,0]) Y VWant.always Y Y Y bn (cS (vc (tv (rd 4 Qd l) Y) (vc (tv (tI x1.A) Y) (vc (tv (tS (back w)) Y) vn))) (Zg Y) (ih _ (by omega) l x1.A (back w) (by first | assumption | omega) (by first | assumption | omega) (by first | assumption | omega) (by first | assumption | omega) (by first | assumption | omega)) Y Y) (fD (OF.assign (tv (tB (decide (Yt l d x1.A (back w)))) Y)) Y Y (VRunD.nil (tn (rt ?_)))))))))))
  refine vinB.r (tr (vb (b':=(decide (Yt l d x1.A (back w)))) Y ?_))
  first | exact Yz (Qa0 hx1 fhc0) | exact Qt (Qa1 hx1 fhc1).symm | exact Qt (QaP hx1 hx2 fhc2).symm | exact Qt (YR hx1 fhc3).symm | exact Qt (YP hx1 fhc4).symm | exact Yz (QaJ hx1 hx2 fhc5) | exact Yz (Qa2 hx1 hx2 fhc6) | exact Yz (QaT hx1 hx2 fhc7) | exact Qt (QaR hx1 hx2 fhc0 fhc1 fhc2 fhc3 fhc4 fhc5 fhc6 fhc7).symm
 refine sr (fO (Yn (tv (tI x1.Kind) Y) (VEv.int .i64 3)) (aO (tB (decide (x1.Kind=3))) Y (nt ?_)))
 refine cd (x1.Kind=3) Y (fun fhc2=> ?_) fun fhc2=> ?_
 ·refine sr ?_
  refine mO (rd 4 Qd l) Y (lf (tI x1.A) Y ZC Y Y QS ?_)
  obtain ⟨x2,hx2⟩:∃x,l[(Int.toNat x1.A)]? =some x:=⟨_,List.getElem?_eq_getElem (by omega)⟩
  have hb2:=JN hp hx2
  refine fO (OF.indexAddrR (row:=(Qd false x2)) (i:=(Int.toNat x1.A)) (tv (rd 4 Qd l) Y) (tv (tI x1.A) Y) (by omega) (Qu _ hx2) U62 ZE Yq) (lr (tS x2.Word) Y (lb Y) Z3 Y ZG (mO (tS w) Y (cO (cS (vc (tv (tS x2.Word) Y) (vc (tv (tS w) Y) vn)) (Zg Y) (Qcu (n+0) x2.Word w (by first | assumption | omega) (by first | assumption | omega)) Y Y) (aO (tB (decide (reB x2.Word w))) Y (nt (rt (vinB.r (tr (vb (b':=(decide (reB x2.Word w))) Y ?_)))))))))
  first | exact Yz (Qa0 hx1 fhc0) | exact Qt (Qa1 hx1 fhc1).symm | exact Qt (QaP hx1 hx2 fhc2).symm | exact Qt (YR hx1 fhc3).symm | exact Qt (YP hx1 fhc4).symm | exact Yz (QaJ hx1 hx2 fhc5) | exact Yz (Qa2 hx1 hx2 fhc6) | exact Yz (QaT hx1 hx2 fhc7) | exact Qt (QaR hx1 hx2 fhc0 fhc1 fhc2 fhc3 fhc4 fhc5 fhc6 fhc7).symm
 refine sr (fO (Yn (tv (tI x1.Kind) Y) (VEv.int .i64 4)) (aO (tB (decide (x1.Kind=4))) Y (nt ?_)))
 refine cd (x1.Kind=4) Y (fun fhc3=> ?_) fun fhc3=> ?_
 ·have hkB:=hkA.2 (.inl fhc3)
  refine sr (mO (rd 4 Qd l) Y (lO (OL.loadOn (us:=(Qd false x1)) (tv (T.op 0 0) Y) Y QbQ ZE (lb Y) Y) (mO (tS w) Y (cO (cS (vc (tv (rd 4 Qd l) Y) (vc (tv (T.agg (Qd false x1)) Y) (vc (tv (tS w) Y) vn))) (lp Y (LendL.cons (lg okeStep) (lp Y ln))) (Qf4 (n+3) d (fun l i w hp hz hd hi hw=>ih _ (by omega) l i w hp hz hd hi hw) l x1 w (by first | assumption | omega) (by first | assumption | omega) (by first | assumption | omega) (by first | assumption | omega) (by first | assumption | omega) (by first | assumption | omega)) Y Y) (aO (tB (decide (jEx l d x1 w))) Y (nt (rt (vinB.r (tr (vb (b':=(decide (jEx l d x1 w))) Y ?_))))))))))
  first | exact Yz (Qa0 hx1 fhc0) | exact Qt (Qa1 hx1 fhc1).symm | exact Qt (QaP hx1 hx2 fhc2).symm | exact Qt (YR hx1 fhc3).symm | exact Qt (YP hx1 fhc4).symm | exact Yz (QaJ hx1 hx2 fhc5) | exact Yz (Qa2 hx1 hx2 fhc6) | exact Yz (QaT hx1 hx2 fhc7) | exact Qt (QaR hx1 hx2 fhc0 fhc1 fhc2 fhc3 fhc4 fhc5 fhc6 fhc7).symm
 refine sr (fO (Yn (tv (tI x1.Kind) Y) (VEv.int .i64 5)) (aO (tB (decide (x1.Kind=5))) Y (nt ?_)))
 refine cd (x1.Kind=5) Y (fun fhc4=> ?_) fun fhc4=> ?_
 ·have hkB:=hkA.2 (.inr fhc4)
  refine sr (mO (rd 4 Qd l) Y (lO (OL.loadOn (us:=(Qd false x1)) (tv (T.op 0 0) Y) Y QbQ ZE (lb Y) Y) (mO (tS w) Y (cO (cS (vc (tv (rd 4 Qd l) Y) (vc (tv (T.agg (Qd false x1)) Y) (vc (tv (tS w) Y) vn))) (lp Y (LendL.cons (lg okeStep) (lp Y ln))) (Qh4 (n+3) d (fun l i w hp hz hd hi hw=>ih _ (by omega) l i w hp hz hd hi hw) l x1 w (by first | assumption | omega) (by first | assumption | omega) (by first | assumption | omega) (by first | assumption | omega) (by first | assumption | omega) (by first | assumption | omega)) Y Y) (aO (tB (decide (iEx l d x1 w))) Y (nt (rt (vinB.r (tr (vb (b':=(decide (iEx l d x1 w))) Y ?_))))))))))
  first | exact Yz (Qa0 hx1 fhc0) | exact Qt (Qa1 hx1 fhc1).symm | exact Qt (QaP hx1 hx2 fhc2).symm | exact Qt (YR hx1 fhc3).symm | exact Qt (YP hx1 fhc4).symm | exact Yz (QaJ hx1 hx2 fhc5) | exact Yz (Qa2 hx1 hx2 fhc6) | exact Yz (QaT hx1 hx2 fhc7) | exact Qt (QaR hx1 hx2 fhc0 fhc1 fhc2 fhc3 fhc4 fhc5 fhc6 fhc7).symm
 refine sr (fO (Yn (tv (tI x1.Kind) Y) (VEv.int .i64 6)) (aO (tB (decide (x1.Kind=6))) Y (nt ?_)))
 refine cd (x1.Kind=6) Y (fun fhc5=> ?_) fun fhc5=> ?_
 ·refine sr ?_
  refine mO (rd 4 Qd l) Y (lf (tI x1.A) Y ZC Y Y QS ?_)
  obtain ⟨x2,hx2⟩:∃x,l[(Int.toNat x1.A)]? =some x:=⟨_,List.getElem?_eq_getElem (by omega)⟩
  have hb2:=JN hp hx2
  refine fO (OF.indexAddrR (row:=(Qd false x2)) (i:=(Int.toNat x1.A)) (tv (rd 4 Qd l) Y) (tv (tI x1.A) Y) (by omega) (Qu _ hx2) U62 ZE Yq) (lr (tS x2.Word) Y (lb Y) Z3 Y ZG (cO (cS (vc (tv (tS x2.Word) Y) vn) (Zg Y) (QgT (n+1) x2.Word (by first | assumption | omega)) Y Y) (mO (tS w) Y (fO (B.seql (c:=(decide (hdS x2.Word=w))) (tv (tS (hdS x2.Word)) Y) (tv (tS w) Y) Y) (aO (tB (decide (hdS x2.Word=w))) Y (nt (rt (vinB.r (tr (vb (b':=(decide (hdS x2.Word=w))) Y ?_))))))))))
  first | exact Yz (Qa0 hx1 fhc0) | exact Qt (Qa1 hx1 fhc1).symm | exact Qt (QaP hx1 hx2 fhc2).symm | exact Qt (YR hx1 fhc3).symm | exact Qt (YP hx1 fhc4).symm | exact Yz (QaJ hx1 hx2 fhc5) | exact Yz (Qa2 hx1 hx2 fhc6) | exact Yz (QaT hx1 hx2 fhc7) | exact Qt (QaR hx1 hx2 fhc0 fhc1 fhc2 fhc3 fhc4 fhc5 fhc6 fhc7).symm
 refine sr (fO (Yn (tv (tI x1.Kind) Y) (VEv.int .i64 7)) (aO (tB (decide (x1.Kind=7))) Y (nt ?_)))
 refine cd (x1.Kind=7) Y (fun fhc6=> ?_) fun fhc6=> ?_
 ·refine sr ?_
  refine mO (rd 4 Qd l) Y (lf (tI x1.A) Y ZC Y Y QS ?_)
  obtain ⟨x2,hx2⟩:∃x,l[(Int.toNat x1.A)]? =some x:=⟨_,List.getElem?_eq_getElem (by omega)⟩
  have hb2:=JN hp hx2
  refine fO (OF.indexAddrR (row:=(Qd false x2)) (i:=(Int.toNat x1.A)) (tv (rd 4 Qd l) Y) (tv (tI x1.A) Y) (by omega) (Qu _ hx2) U62 ZE Yq) (lr (tS x2.Word) Y (lb Y) Z3 Y ZG (cO (cS (vc (tv (tS x2.Word) Y) vn) (Zg Y) (QcY (n+1) x2.Word (by first | assumption | omega)) Y Y) (mO (tS w) Y (fO (B.seql (c:=(decide (nhS x2.Word=w))) (tv (tS (nhS x2.Word)) Y) (tv (tS w) Y) Y) (aO (tB (decide (nhS x2.Word=w))) Y (nt (rt (vinB.r (tr (vb (b':=(decide (nhS x2.Word=w))) Y ?_))))))))))
  first | exact Yz (Qa0 hx1 fhc0) | exact Qt (Qa1 hx1 fhc1).symm | exact Qt (QaP hx1 hx2 fhc2).symm | exact Qt (YR hx1 fhc3).symm | exact Qt (YP hx1 fhc4).symm | exact Yz (QaJ hx1 hx2 fhc5) | exact Yz (Qa2 hx1 hx2 fhc6) | exact Yz (QaT hx1 hx2 fhc7) | exact Qt (QaR hx1 hx2 fhc0 fhc1 fhc2 fhc3 fhc4 fhc5 fhc6 fhc7).symm
 refine sr (fO (Yn (tv (tI x1.Kind) Y) (VEv.int .i64 8)) (aO (tB (decide (x1.Kind=8))) Y (nt ?_)))
 refine cd (x1.Kind=8) Y (fun fhc7=> ?_) fun fhc7=> ?_
 ·refine sr ?_
  refine mO (rd 4 Qd l) Y (lf (tI x1.A) Y ZC Y Y QS ?_)
  obtain ⟨x2,hx2⟩:∃x,l[(Int.toNat x1.A)]? =some x:=⟨_,List.getElem?_eq_getElem (by omega)⟩
  have hb2:=JN hp hx2
  refine fO (OF.indexAddrR (row:=(Qd false x2)) (i:=(Int.toNat x1.A)) (tv (rd 4 Qd l) Y) (tv (tI x1.A) Y) (by omega) (Qu _ hx2) U62 ZE Yq) (lr (tS x2.Word) Y (lb Y) Z3 Y ZG (cO (cS (vc (tv (tS x2.Word) Y) vn) (Zg Y) (Qdf (n+1) x2.Word (by first | assumption | omega)) Y Y) (mO (tS w) Y (fO (B.seql (c:=(decide (ntS x2.Word=w))) (tv (tS (ntS x2.Word)) Y) (tv (tS w) Y) Y) (aO (tB (decide (ntS x2.Word=w))) Y (nt (rt (vinB.r (tr (vb (b':=(decide (ntS x2.Word=w))) Y ?_))))))))))
  first | exact Yz (Qa0 hx1 fhc0) | exact Qt (Qa1 hx1 fhc1).symm | exact Qt (QaP hx1 hx2 fhc2).symm | exact Qt (YR hx1 fhc3).symm | exact Qt (YP hx1 fhc4).symm | exact Yz (QaJ hx1 hx2 fhc5) | exact Yz (Qa2 hx1 hx2 fhc6) | exact Yz (QaT hx1 hx2 fhc7) | exact Qt (QaR hx1 hx2 fhc0 fhc1 fhc2 fhc3 fhc4 fhc5 fhc6 fhc7).symm
 refine sk (vinB.n (tn (sr (mO (tS w) Y (mO (rd 4 Qd l) Y (lf (tI x1.A) Y ZC Y Y QS ?_))))))
 obtain ⟨x2,hx2⟩:∃x,l[(Int.toNat x1.A)]? =some x:=⟨_,List.getElem?_eq_getElem (by omega)⟩
 have hb2:=JN hp hx2
 refine fO (OF.indexAddrR (row:=(Qd false x2)) (i:=(Int.toNat x1.A)) (tv (rd 4 Qd l) Y) (tv (tI x1.A) Y) (by omega) (Qu _ hx2) U62 ZE Yq) (lr (tS x2.Word) Y (lb Y) Z3 Y ZG (cO (cS (vc (tv (tS w) Y) (vc (tv (tS x2.Word) Y) vn)) (Zg Y) (Qfh (n+1) w x2.Word (by first | assumption | omega) (by first | assumption | omega)) Y Y) (aO (tB (decide (Qd2 w x2.Word))) Y (nt (rt (vb (b':=(decide (Qd2 w x2.Word))) Y ?_))))))
 first | exact Yz (Qa0 hx1 fhc0) | exact Qt (Qa1 hx1 fhc1).symm | exact Qt (QaP hx1 hx2 fhc2).symm | exact Qt (YR hx1 fhc3).symm | exact Qt (YP hx1 fhc4).symm | exact Yz (QaJ hx1 hx2 fhc5) | exact Yz (Qa2 hx1 hx2 fhc6) | exact Yz (QaT hx1 hx2 fhc7) | exact Qt (QaR hx1 hx2 fhc0 fhc1 fhc2 fhc3 fhc4 fhc5 fhc6 fhc7).symm
theorem Qdv (n:Nat) (l:List D.Step) (w:ByteArray) (hz:zL Zc l≤mx) (hw:w.size≤maxLen):Pure (Qo Tryz.prog (n+24)) 85 [(rd 4 Qd l),(tS w)] (tB (decide (J5 l w))):=by
 refine Pure.intro (rs:= [ResultVar.tmp 4]) Tryz.func85 Y Y Y (E0:= [(0,(rd 4 Qd l)),(1,(tS w))]) Y ?_
 obtain ⟨hlim,hmx,hmax⟩:=Qz
 have hl:=Q1 (z:=Zc) l
 refine sr (fO (OF.assign (VEv.bool false)) (nt (sr (mO (rd 4 Qd l) Y (cO (cS (vc (tv (rd 4 Qd l) Y) vn) (Zg Y) (QcC (n+19) l (by first | assumption | omega)) Y Y) (mO (tB (decide (QJ l))) Y ?_))))))
 refine gw (QJ l) (fun fhg7_1=> ?_) fun fhg7_1=> ?_
 ·have hpl:=fhg7_1.1
  refine gF (dy fhg7_1) Y Y (OF.move (tv (tS w) Y)) (VRunO.chain (VWant.on Y Y (dy fhg7_1)) (cS (vc (tv (tS w) Y) vn) (Zg Y) (Zm (n+21) w (by first | assumption | omega)) Y Y) (fO (OF.pickT (VEv.tmpB Y (dy fhg7_1)) (tv (tB (decide (Qm w))) Y)) (mO (tB (decide (Qm w))) Y ?_)))
  refine gw (Qm w) (fun fhg11_2=> ?_) fun fhg11_2=> ?_
  ·refine gF (dy fhg11_2) Y Y (OF.move (tv (rd 4 Qd l) Y)) ?_
   refine gF (dy fhg11_2) Y Y (OF.move (tv (rd 4 Qd l) Y)) (gL (dy fhg11_2) Y Y (B.lenR (m:=l.length) (tv (rd 4 Qd l) Y) U62 (List.length_map ..)) (gF (dy fhg11_2) Y Y (B.sub (n:=(((l.length:Nat):Int) - 1)) (tv (tN l.length) Y) (VEv.int .i64 1) (by first | rfl | (rw [Qs (by omega)];omega) | (rw [Qs (by omega)];done))) (gF (dy fhg11_2) Y Y (OF.move (tv (tS w) Y)) (VRunO.chain (VWant.on Y Y (dy fhg11_2)) (cS (vc (tv (rd 4 Qd l) Y) (vc (tv (tI (((l.length:Nat):Int) - 1)) Y) (vc (tv (tS w) Y) vn))) (Zg Y) (Qe7 9 (n+23) (by omega) l (((l.length:Nat):Int) - 1) w (by first | assumption | omega) (by first | assumption | omega) (by first | assumption | omega) (by first | assumption | omega) (by first | assumption | omega)) Y Y) (fO (OF.pickT (VEv.tmpB Y (dy fhg11_2)) (tv (tB (decide (Yt l 9 (((l.length:Nat):Int) - 1) w))) Y)) (aO (tB (decide (Yt l 9 (((l.length:Nat):Int) - 1) w))) Y (nt (rt (vb (b':=(decide (Yt l 9 (((l.length:Nat):Int) - 1) w))) Y ?_)))))))))
   first | exact Qt ⟨fun h_=>⟨⟨fhg7_1,fhg11_2⟩,h_⟩,fun h_=>h_.2⟩ | exact Jp (fun h_=>fhg11_2 h_.1.2) | exact Jp (fun h_=>fhg7_1 h_.1.1)
  refine QD 6 6 true 11 (dz fhg11_2) Y Y Y (fO (OF.pickF (VEv.tmpB Y (dz fhg11_2)) (VEv.bool false)) (aO (tB false) Y (nt (rt (vb (b':=false) Y ?_)))))
  first | exact Qt ⟨fun h_=>⟨⟨fhg7_1,fhg11_2⟩,h_⟩,fun h_=>h_.2⟩ | exact Jp (fun h_=>fhg11_2 h_.1.2) | exact Jp (fun h_=>fhg7_1 h_.1.1)
 refine QD 2 2 true 7 (dz fhg7_1) Y Y Y (fO (OF.pickF (VEv.tmpB Y (dz fhg7_1)) (VEv.bool false)) (mO (tB false) Y (QD 6 6 true 11 (b:=false) Y Y Y Y (fO (OF.pickF (tv (tB false) Y) (VEv.bool false)) (aO (tB false) Y (nt (rt (vb (b':=false) Y ?_))))))))
 first | exact Qt ⟨fun h_=>⟨⟨fhg7_1,fhg11_2⟩,h_⟩,fun h_=>h_.2⟩ | exact Jp (fun h_=>fhg11_2 h_.1.2) | exact Jp (fun h_=>fhg7_1 h_.1.1)
theorem Qds (n:Nat) (l:List D.Step) (w:ByteArray) (hz:zL Zc l≤mx) (hw:w.size≤maxLen):Pure (Qo Tryz.prog (n+17)) 93 [(rd 4 Qd l),(tS w)] (tB (decide (J5 l w))):=by
 refine Pure.intro (rs:= [ResultVar.tmp 4]) Tryz.func93 Y Y Y (E0:= [(0,(rd 4 Qd l)),(1,(tS w))]) Y ?_
 obtain ⟨hlim,hmx,hmax⟩:=Qz
 have hl:=Q1 (z:=Zc) l
 refine sr (fO (OF.assign (VEv.bool false)) (nt (sr (mO (rd 4 Qd l) Y (cO (cS (vc (tv (rd 4 Qd l) Y) vn) (Zg Y) (QcK (n+13) l (by first | assumption | omega)) Y Y) (mO (tB (decide (QJ l))) Y ?_))))))
 refine gw (QJ l) (fun fhg7_1=> ?_) fun fhg7_1=> ?_
 ·have hpl:=fhg7_1.1
  refine gF (dy fhg7_1) Y Y (OF.move (tv (tS w) Y)) (VRunO.chain (VWant.on Y Y (dy fhg7_1)) (cS (vc (tv (tS w) Y) vn) (Zg Y) (Zn (n+14) w (by first | assumption | omega)) Y Y) (fO (OF.pickT (VEv.tmpB Y (dy fhg7_1)) (tv (tB (decide (Qm w))) Y)) (mO (tB (decide (Qm w))) Y ?_)))
  refine gw (Qm w) (fun fhg11_2=> ?_) fun fhg11_2=> ?_
  ·refine gF (dy fhg11_2) Y Y (OF.move (tv (rd 4 Qd l) Y)) ?_
   refine gF (dy fhg11_2) Y Y (OF.move (tv (rd 4 Qd l) Y)) (gL (dy fhg11_2) Y Y (B.lenR (m:=l.length) (tv (rd 4 Qd l) Y) U62 (List.length_map ..)) (gF (dy fhg11_2) Y Y (B.sub (n:=(((l.length:Nat):Int) - 1)) (tv (tN l.length) Y) (VEv.int .i64 1) (by first | rfl | (rw [Qs (by omega)];omega) | (rw [Qs (by omega)];done))) (gF (dy fhg11_2) Y Y (OF.move (tv (tS w) Y)) (VRunO.chain (VWant.on Y Y (dy fhg11_2)) (cS (vc (tv (rd 4 Qd l) Y) (vc (tv (tI (((l.length:Nat):Int) - 1)) Y) (vc (tv (tS w) Y) vn))) (Zg Y) (Qii (n+0) 9 l (((l.length:Nat):Int) - 1) w (by first | assumption | omega) (by first | assumption | omega) (by first | assumption | omega) (by first | assumption | omega) (by first | assumption | omega)) Y Y) (fO (OF.pickT (VEv.tmpB Y (dy fhg11_2)) (tv (tB (decide (Yt l 9 (((l.length:Nat):Int) - 1) w))) Y)) (aO (tB (decide (Yt l 9 (((l.length:Nat):Int) - 1) w))) Y (nt (rt (vb (b':=(decide (Yt l 9 (((l.length:Nat):Int) - 1) w))) Y ?_)))))))))
   first | exact Qt ⟨fun h_=>⟨⟨fhg7_1,fhg11_2⟩,h_⟩,fun h_=>h_.2⟩ | exact Jp (fun h_=>fhg11_2 h_.1.2) | exact Jp (fun h_=>fhg7_1 h_.1.1)
  refine QD 6 6 true 11 (dz fhg11_2) Y Y Y (fO (OF.pickF (VEv.tmpB Y (dz fhg11_2)) (VEv.bool false)) (aO (tB false) Y (nt (rt (vb (b':=false) Y ?_)))))
  first | exact Qt ⟨fun h_=>⟨⟨fhg7_1,fhg11_2⟩,h_⟩,fun h_=>h_.2⟩ | exact Jp (fun h_=>fhg11_2 h_.1.2) | exact Jp (fun h_=>fhg7_1 h_.1.1)
 refine QD 2 2 true 7 (dz fhg7_1) Y Y Y (fO (OF.pickF (VEv.tmpB Y (dz fhg7_1)) (VEv.bool false)) (mO (tB false) Y (QD 6 6 true 11 (b:=false) Y Y Y Y (fO (OF.pickF (tv (tB false) Y) (VEv.bool false)) (aO (tB false) Y (nt (rt (vb (b':=false) Y ?_))))))))
 first | exact Qt ⟨fun h_=>⟨⟨fhg7_1,fhg11_2⟩,h_⟩,fun h_=>h_.2⟩ | exact Jp (fun h_=>fhg11_2 h_.1.2) | exact Jp (fun h_=>fhg7_1 h_.1.1)
noncomputable section
instance (w:ByteArray) (l:List ByteArray):Decidable (w∈l):=Classical.propDecidable _
theorem QiU {α:Type} {p:α→Prop} {a:List α} {w:α} (h:∀j y,j<a.length→a[j]? =some y→¬p y) (hm:w∈a):¬p w:=by
 obtain ⟨j,hj⟩:=List.getElem?_of_mem hm
 exact h j w (List.getElem?_eq_some_iff.1 hj).1 hj
def QbK (l:List ByteArray) (w:ByteArray):List ByteArray:=if w∈l then l else l++ [w]
def ZA (l:List ByteArray):List ByteArray:=l.foldl QbK []
theorem Qly (l:List ByteArray) (w:ByteArray):(QbK l w).length≤l.length+1:=by
 unfold QbK
 split
 ·omega
 ·simp
theorem Qhj : ∀(a l:List ByteArray),(a.foldl QbK l).length≤a.length+l.length
 | [],l=>by simp
 | w::a,l=>by
  have h1:=Qhj a (QbK l w)
  have h2:=Qly l w
  rw [List.foldl_cons,List.length_cons]
  omega
theorem Qhv (l:List ByteArray):(ZA l).length≤l.length:=by
 have:=Qhj l []
 exact this
theorem Ym {l:List ByteArray} {i:Nat} {w:ByteArray} (h:l[i]? =some w):ZA (l.take (i+1))=QbK (ZA (l.take i)) w:=by
 unfold ZA
 rw [List.take_add_one,h,List.foldl_append]
 rfl
end
theorem Qb6 (n:Nat) (a:List ByteArray) (w:ByteArray) (ha:a.length≤Zk):Pure (Qo Tryz.prog (n+1)) 67 [(rd 1 Qj a),(tS w)] (tB (decide (w∈a))):=by
 refine Pure.intro (rs:= [ResultVar.tmp 4]) Tryz.func67 Y Y Y (E0:= [(0,(rd 1 Qj a)),(1,(tS w))]) Y ?_
 obtain ⟨hlim,hmx,hmax⟩:=Qz
 refine sr (fO (OF.assign (VEv.bool false)) (nt (sq (sr (fO (OF.assign (VEv.int .i64 0)) (nt (VRun.block ?_)))))))
 refine VRun.loop (A:=Nat) (fun s_=> [(0,(rd 1 Qj a)),(1,(tS w)),(5,(tN s_))]) (fun s_=>QV []) 0 (fun s_=>NoneTo (fun y=>y=w) a s_) (fun s_=>a.length - s_) (0:Nat) ?_ (Wk.mk (fun k=>k) ?_ ?_ ?_) ?_
 ·exact NoneTo.start _ _
 ·exact (b2 (b2 (b2 bn)))
 ·exact bn
 ·exact nd Y
 rintro i (hI':NoneTo (fun y=>y=w) a i)
 show VRun _ _ _ [(0,(rd 1 Qj a)),(1,(tS w)),(5,(tN i))] (QV []) 0 _
 have hI1:=hI'.1
 refine sq (sr (mO (tN i) Y (mO (rd 1 Qj a) Y (lO (B.lenR (m:=a.length) (tv (rd 1 Qj a) Y) Jm (List.length_map ..)) (fO (Q9 (tv (tN i) Y) (tv (tN a.length) Y)) (nt ?_))))))
 refine cd (i<a.length) Y (fun fhc0=> ?_) fun fhc0=> ?_
 ·refine sk ?_
  refine tn (sq (VRun.block (sr (mO (rd 1 Qj a) Y (mO (tN i) Y ?_)))))
  obtain ⟨x1,hx1⟩:∃x,a[i]? =some x:=⟨_,List.getElem?_eq_getElem (by omega)⟩
  refine fO (OF.indexAddrR (row:=(Qj false x1)) (i:=i) (tv (rd 1 Qj a) Y) (tv (tN i) Y) Y (Qu _ hx1) Jm Ji if9) (lO (OL.loadR1 (t:=(tS x1)) (tv (T.rp [(tS x1)]) Y) Y ZG) (mO (tS w) Y (fO (B.seql (c:=(decide (x1=w))) (tv (tS x1) Y) (tv (tS w) Y) Y) (nt ?_))))
  refine cd (x1=w) Y (fun fhc1=> ?_) fun fhc1=> ?_
  ·refine sr ?_
   refine fO (OF.assign (VEv.bool true)) (nt (rt (vinB.r (tr (tr (vinB.r (tr (vb (b':=true) Y ?_))))))))
   exact dTr (fhc1▸List.mem_of_getElem? hx1)
  refine sk (vinB.n (tn (VRun.region (mO (tN i) Y (fO (QB (tv (tN i) Y) (VEv.int .i64 1) (by omega)) (aO (tN (i+1)) Y (VRunO.nil (tn ?_))))))))
  refine ⟨(i+1:Nat),?_,?_,Wk.mk (fun k=>k) ?_ ?_ ?_⟩
  ·exact hI'.next hx1 fhc1
  ·first | omega | (simp only [];omega) | (show _<_;omega) | (simp;omega)
  ·exact (b2 (b2 (b2 bn)))
  ·exact bn
  ·exact nd Y
 refine VRun.exit (vthn.e (vthn.e (vinB.e (tn (sr (fO (OF.assign (VEv.bool false)) (nt (rt (vb (b':=false) Y ?_)))))))))
 exact Jp (fun h_=>QiU (hI'.all fhc0) h_ Y)
theorem JS (n:Nat) (a:List ByteArray) (b:ByteArray) (ha:a.length≤Zk):Pure (Qo Tryz.prog (n+1)) 129 [(rd 1 Qj a),(tS b)] (tI (ixF (fun y=>b=y) a)):=by
 refine Pure.intro (rs:= [ResultVar.tmp 4]) Tryz.func129 Y Y Y (E0:= [(0,(rd 1 Qj a)),(1,(tS b))]) Y ?_
 obtain ⟨hlim,hmx,hmax⟩:=Qz
 refine sr (fO (OF.assign (VEv.int .i64 0)) (nt (sq (sr (mO (rd 1 Qj a) Y (lO (B.lenR (m:=a.length) (tv (rd 1 Qj a) Y) Jm (List.length_map ..)) (fO (OF.move (VEv.int .i64 0)) (nt (VRun.block ?_)))))))))
 refine VRun.loop (A:=Nat) (fun s_=> [(0,(rd 1 Qj a)),(1,(tS b)),(7,(tN a.length)),(8,(tN s_))]) (fun s_=>QV []) 0 (fun s_=>NoneTo (fun y=>b=y) a s_) (fun s_=>a.length - s_) (0:Nat) ?_ (Wk.mk (fun k=>k) ?_ ?_ ?_) ?_
 ·exact NoneTo.start _ _
 ·exact (b2 (b2 (b2 (b2 bn))))
 ·exact bn
 ·exact nd Y
 rintro i (hI':NoneTo (fun y=>b=y) a i)
 show VRun _ _ _ [(0,(rd 1 Qj a)),(1,(tS b)),(7,(tN a.length)),(8,(tN i))] (QV []) 0 _
 have hI1:=hI'.1
 refine sr (fO (Q9 (tv (tN i) Y) (tv (tN a.length) Y)) (nt (sq ?_)))
 refine cd (i<a.length) Y (fun fhc0=> ?_) fun fhc0=> ?_
 ·refine sk ?_
  refine tn (sq (VRun.block (sr (mO (tN i) Y (aO (tN i) Y (nt (sr (mO (tS b) Y (mO (rd 1 Qj a) Y (mO (tN i) Y ?_))))))))))
  obtain ⟨x1,hx1⟩:∃x,a[i]? =some x:=⟨_,List.getElem?_eq_getElem (by omega)⟩
  refine fO (OF.indexAddrR (row:=(Qj false x1)) (i:=i) (tv (rd 1 Qj a) Y) (tv (tN i) Y) Y (Qu _ hx1) Jm Ji if9) (lO (OL.loadR1 (t:=(tS x1)) (tv (T.rp [(tS x1)]) Y) Y ZG) (fO (B.seql (c:=(decide (b=x1))) (tv (tS b) Y) (tv (tS x1) Y) Y) (nt ?_)))
  refine cd (b=x1) Y (fun fhc1=> ?_) fun fhc1=> ?_
  ·refine sr ?_
   refine mO (tN i) Y (aO (tN i) Y (nt (rt (vinB.r (tr (tr (vinB.r (tr (vi (n':=((i:Nat):Int)) Y ?_)))))))))
   exact (Qbo hx1 fhc1 hI'.2).symm
  refine sk (vinB.n (tn (VRun.region (fO (QB (tv (tN i) Y) (VEv.int .i64 1) (by omega)) (mO (tN (i+1)) Y (VRunO.nil (tn ?_)))))))
  refine ⟨(i+1:Nat),?_,?_,Wk.mk (fun k=>k) ?_ ?_ ?_⟩
  ·exact hI'.next hx1 fhc1
  ·first | omega | (simp only [];omega) | (show _<_;omega) | (simp;omega)
  ·exact (b2 (b2 (b2 (b2 bn))))
  ·exact bn
  ·exact nd Y
 refine VRun.exit (vthn.e (vthn.e (vinB.e (tn (sr (fO (OF.assign (VEv.int .i64 (-1))) (nt (rt (vi (n':=(-1)) Y ?_)))))))))
 exact (QbS (hI'.all fhc0)).symm
theorem Z1 (n:Nat) (a:List ByteArray) (b:ByteArray) (ha:a.length≤Zk):Pure (Qo Tryz.prog (n+2)) 94 [(rd 1 Qj a),(tS b)] (tB (decide (b∈a))):=by
 refine Pure.intro (rs:= [ResultVar.tmp 4]) Tryz.func94 Y Y Y (E0:= [(0,(rd 1 Qj a)),(1,(tS b))]) Y ?_
 obtain ⟨hlim,hmx,hmax⟩:=Qz
 refine sr (fO (OF.assign (VEv.bool false)) (nt (sr (mO (rd 1 Qj a) Y (mO (tS b) Y (cO (cS (vc (tv (rd 1 Qj a) Y) (vc (tv (tS b) Y) vn)) (Zg Y) (JS (n+0) a b (by first | assumption | omega)) Y Y) (fO (xge (tv (tI (ixF (fun y=>b=y) a)) Y) (VEv.int .i64 0)) (aO (tB (decide (0≤ixF (fun y=>b=y) a))) Y (nt (rt (vb (b':=(decide (0≤ixF (fun y=>b=y) a))) Y ?_)))))))))))
 refine Qt ?_
 rw [Qfy]
 exact ⟨fun ⟨x,h1,h2⟩=>h2▸h1,fun h=>⟨b,h,rfl⟩⟩
theorem Ys (n:Nat) (a:List D.Meaning) (b:D.Meaning) (ha:a.length≤Zk):Pure (Qo Tryz.prog (n+1)) 159 [(rd 2 Qb a),(T.agg (Qb false b))] (tI (ixF (fun y=>b=y) a)):=by
 refine Pure.intro (rs:= [ResultVar.tmp 4]) Tryz.func159 Y Y Y (E0:= [(0,(rd 2 Qb a)),(1,(T.agg (Qb false b)))]) Y ?_
 obtain ⟨hlim,hmx,hmax⟩:=Qz
 refine sr (kO (B.box (ts:=(Qb false b)) (tv (T.agg (Qb false b)) Y) nofun Y) (fO (OF.assign (VEv.int .i64 0)) (nt (sq (sr (mO (rd 2 Qb a) Y (lO (B.lenR (m:=a.length) (tv (rd 2 Qb a) Y) U41 (List.length_map ..)) (fO (OF.move (VEv.int .i64 0)) (nt (VRun.block ?_))))))))))
 refine VRun.loop (A:=Nat) (fun s_=> [(0,(rd 2 Qb a)),(3,(T.op 0 0)),(7,(tN a.length)),(8,(tN s_))]) (fun s_=>QV [(0,(Obj.cells (Qb false b)))]) 1 (fun s_=>NoneTo (fun y=>b=y) a s_) (fun s_=>a.length - s_) (0:Nat) ?_ (Wk.mk (fun k=>k) ?_ ?_ ?_) ?_
 ·exact NoneTo.start _ _
 ·exact (b2 (b2 (b2 (b2 bn))))
 ·exact (b3 bn)
 ·exact nd Y
 rintro i (hI':NoneTo (fun y=>b=y) a i)
 show VRun _ _ _ [(0,(rd 2 Qb a)),(3,(T.op 0 0)),(7,(tN a.length)),(8,(tN i))] (QV [(0,(Obj.cells (Qb false b)))]) 1 _
 have hI1:=hI'.1
 refine sr (fO (Q9 (tv (tN i) Y) (tv (tN a.length) Y)) (nt (sq ?_)))
 refine cd (i<a.length) Y (fun fhc0=> ?_) fun fhc0=> ?_
 ·refine sk ?_
  refine tn (sq (VRun.block (sr (mO (tN i) Y (aO (tN i) Y (nt (sq (VRun.draw (B:= [[],[],[],[2,1],[1,2,3],[3,2,1,4,0]]) (by kernel_rfl) (by kernel_rfl) (lD (OL.loadOn (us:=(Qb false b)) (tv (T.op 0 0) Y) Y Qj1 Qb3 (lb Y) Y) Y Y (mD (rd 2 Qb a) Y Y (mD (tN i) Y Y ?_)))))))))))
  obtain ⟨x1,hx1⟩:∃x,a[i]? =some x:=⟨_,List.getElem?_eq_getElem (by omega)⟩
  refine fD (OF.indexAddrR (row:=(Qb false x1)) (i:=i) (tv (rd 2 Qb a) Y) (tv (tN i) Y) Y (Qu _ hx1) U41 Qb3 QiE) Y Y (lD (OL.loadRn (us:=(Qb false x1)) (tv (T.rp (Qb false x1)) Y) Qj1 Qb3 (lb Y) Y) Y Y (fD (B.eql92 (a:=b) (b:=x1) (m:=false) (m':=false) (tv (T.agg (Qb false b)) Y) (tv (T.agg (Qb false x1)) Y)) Y Y (VRunD.nil (tn ?_))))
  refine cd (b=x1) Y (fun fhc1=> ?_) fun fhc1=> ?_
  ·refine sr ?_
   refine mO (tN i) Y (aO (tN i) Y (nt (rt (vinB.r (tr (tr (vinB.r (tr (vi (n':=((i:Nat):Int)) Y ?_)))))))))
   exact (Qbo hx1 fhc1 hI'.2).symm
  refine sk (vinB.n (tn (VRun.region (fO (QB (tv (tN i) Y) (VEv.int .i64 1) (by omega)) (mO (tN (i+1)) Y (VRunO.nil (tn ?_)))))))
  refine ⟨(i+1:Nat),?_,?_,Wk.mk (fun k=>k) ?_ ?_ ?_⟩
  ·exact hI'.next hx1 fhc1
  ·first | omega | (simp only [];omega) | (show _<_;omega) | (simp;omega)
  ·exact (b2 (b2 (b2 (b2 bn))))
  ·exact (b3 bn)
  ·exact nd Y
 refine VRun.exit (vthn.e (vthn.e (vinB.e (tn (sr (fO (OF.assign (VEv.int .i64 (-1))) (nt (rt (vi (n':=(-1)) Y ?_)))))))))
 exact (QbS (hI'.all fhc0)).symm
theorem Yf (n:Nat) (a:List D.Meaning) (b:D.Meaning) (ha:a.length≤Zk):Pure (Qo Tryz.prog (n+2)) 127 [(rd 2 Qb a),(T.agg (Qb false b))] (tB (decide (b∈a))):=by
 refine Pure.intro (rs:= [ResultVar.tmp 4]) Tryz.func127 Y Y Y (E0:= [(0,(rd 2 Qb a)),(1,(T.agg (Qb false b)))]) Y ?_
 obtain ⟨hlim,hmx,hmax⟩:=Qz
 refine sr (kO (B.box (ts:=(Qb false b)) (tv (T.agg (Qb false b)) Y) nofun Y) (fO (OF.assign (VEv.bool false)) (nt (sr (mO (rd 2 Qb a) Y (lO (OL.loadOn (us:=(Qb false b)) (tv (T.op 0 0) Y) Y Qj1 Qb3 (lb Y) Y) (cO (cS (vc (tv (rd 2 Qb a) Y) (vc (tv (T.agg (Qb false b)) Y) vn)) (lp Y (LendL.cons (lg okeMeaning) ln)) (Ys (n+0) a b (by first | assumption | omega)) Y Y) (fO (xge (tv (tI (ixF (fun y=>b=y) a)) Y) (VEv.int .i64 0)) (aO (tB (decide (0≤ixF (fun y=>b=y) a))) Y (nt (rt ?_)))))))))))
 refine vb (b':=(decide (0≤ixF (fun y=>b=y) a))) Y (Qt ?_)
 rw [Qfy]
 exact ⟨fun ⟨x,h1,h2⟩=>h2▸h1,fun h=>⟨b,h,rfl⟩⟩
theorem QbF (n:Nat) (a:List D.Meaning) (w:ByteArray) (s:Int) (ha:a.length≤Zk):Pure (Qo Tryz.prog (n+1)) 84 [(rd 2 Qb a),(tS w),(tI s)] (tB (decide (D.Meaning.mk w s∈a))):=by
 refine Pure.intro (rs:= [ResultVar.tmp 6]) Tryz.func84 Y Y Y (E0:= [(0,(rd 2 Qb a)),(1,(tS w)),(2,(tI s))]) Y ?_
 obtain ⟨hlim,hmx,hmax⟩:=Qz
 refine sr (fO (OF.assign (VEv.bool false)) (nt (sq (sr (fO (OF.assign (VEv.int .i64 0)) (nt (VRun.block ?_)))))))
 refine VRun.loop (A:=Nat) (fun s_=> [(0,(rd 2 Qb a)),(1,(tS w)),(2,(tI s)),(7,(tN s_))]) (fun s_=>QV []) 0 (fun s_=>NoneTo (fun (y:D.Meaning)=>y.Word=w∧y.Sense=s) a s_) (fun s_=>a.length - s_) (0:Nat) ?_ (Wk.mk (fun k=>k) ?_ ?_ ?_) ?_
 ·exact NoneTo.start _ _
 ·exact (b2 (b2 (b2 (b2 bn))))
 ·exact bn
 ·exact nd Y
 rintro i (hI':NoneTo (fun (y:D.Meaning)=>y.Word=w∧y.Sense=s) a i)
 show VRun _ _ _ [(0,(rd 2 Qb a)),(1,(tS w)),(2,(tI s)),(7,(tN i))] (QV []) 0 _
 have hI1:=hI'.1
 refine sq (sr (mO (tN i) Y (mO (rd 2 Qb a) Y (lO (B.lenR (m:=a.length) (tv (rd 2 Qb a) Y) U41 (List.length_map ..)) (fO (Q9 (tv (tN i) Y) (tv (tN a.length) Y)) (nt ?_))))))
 refine cd (i<a.length) Y (fun fhc0=> ?_) fun fhc0=> ?_
 ·refine sk ?_
  refine tn (sq (VRun.block (sr (mO (rd 2 Qb a) Y (mO (tN i) Y ?_)))))
  obtain ⟨x1,hx1⟩:∃x,a[i]? =some x:=⟨_,List.getElem?_eq_getElem (by omega)⟩
  refine fO (OF.indexAddrR (row:=(Qb false x1)) (i:=i) (tv (rd 2 Qb a) Y) (tv (tN i) Y) Y (Qu _ hx1) U41 Qb3 QiE) (lr (tS x1.Word) Y (lb Y) Qif Y ZG (mO (tS w) Y (fO (B.seql (c:=(decide (x1.Word=w))) (tv (tS x1.Word) Y) (tv (tS w) Y) Y) (mO (tB (decide (x1.Word=w))) Y ?_))))
  refine VRunO.joinB 8 [22,23,24,25,26,27,28] 29 (tB (decide ((x1.Word=w)∧(x1.Sense=s)))) ?_ ?_
  ·refine gw (x1.Word=w) (fun fhg21_1=> ?_) fun fhg21_1=> ?_
   ·refine gF (dy fhg21_1) Y Y (OF.move (tv (rd 2 Qb a) Y)) ?_
    refine gF (dy fhg21_1) Y Y (OF.move (tv (tN i) Y)) (gF (dy fhg21_1) Y Y (OF.indexAddrR (row:=(Qb false x1)) (i:=i) (tv (rd 2 Qb a) Y) (tv (tN i) Y) Y (Qu _ hx1) U41 Qb3 QiE) (glr (tI x1.Sense) (dy fhg21_1) Y Y Y Y (lb Y) QhU Y QS (gF (dy fhg21_1) Y Y (OF.move (tv (tI s) Y)) (gF (dy fhg21_1) Y Y (Yn (tv (tI x1.Sense) Y) (tv (tI s) Y)) (fO (OF.pickT (VEv.tmpB Y (dy fhg21_1)) (tv (tB (decide (x1.Sense=s))) Y)) (VRunO.nil ?_))))))
    exact jq (congrArg T.bool (kAT fhg21_1 Y)) (js Y (js Y (js Y (js Y (js Y (js Y (js Y (jn))))))))
   ·refine QD 7 7 true 21 (dz fhg21_1) Y Y Y ?_
    refine fO (OF.pickF (VEv.tmpB Y (dz fhg21_1)) (VEv.bool false)) (VRunO.nil ?_)
    exact jq (congrArg T.bool (kAF fhg21_1)) (js Y (js Y (js Y (js Y (js Y (js Y (js Y (jn))))))))
  refine nt ?_
  refine cd ((x1.Word=w)∧(x1.Sense=s)) Y (fun fhc1=> ?_) fun fhc1=> ?_
  ·refine sr ?_
   refine fO (OF.assign (VEv.bool true)) (nt (rt (vinB.r (tr (tr (vinB.r (tr (vb (b':=true) Y ?_))))))))
   refine dTr ?_;have hm:=List.mem_of_getElem? hx1;rwa [show x1=D.Meaning.mk w s from by obtain ⟨c1,c2⟩:=x1;simp only at fhc1;rw [fhc1.1,fhc1.2]] at hm
  refine sk (vinB.n (tn (VRun.region (mO (tN i) Y (fO (QB (tv (tN i) Y) (VEv.int .i64 1) (by omega)) (aO (tN (i+1)) Y (VRunO.nil (tn ?_))))))))
  refine ⟨(i+1:Nat),?_,?_,Wk.mk (fun k=>k) ?_ ?_ ?_⟩
  ·exact hI'.next hx1 fhc1
  ·first | omega | (simp only [];omega) | (show _<_;omega) | (simp;omega)
  ·exact (b2 (b2 (b2 (b2 bn))))
  ·exact bn
  ·exact nd Y
 refine VRun.exit (vthn.e (vthn.e (vinB.e (tn (sr (fO (OF.assign (VEv.bool false)) (nt (rt (vb (b':=false) Y ?_)))))))))
 exact Jp (fun h_=>QiU (hI'.all fhc0) h_ ⟨rfl,rfl⟩)
theorem QbE (n:Nat) (a:List D.Meaning) (w:ByteArray) (s:Int) (ha:a.length≤Zk):Pure (Qo Tryz.prog (n+3)) 92 [(rd 2 Qb a),(tS w),(tI s)] (tB (decide (D.Meaning.mk w s∈a))):=by
 refine Pure.intro (rs:= [ResultVar.tmp 6]) Tryz.func92 Y Y Y (E0:= [(0,(rd 2 Qb a)),(1,(tS w)),(2,(tI s))]) Y ?_
 obtain ⟨hlim,hmx,hmax⟩:=Qz
 refine sr (fO (OF.assign (VEv.bool false)) (nt (sr (mO (rd 2 Qb a) Y (mO (tS w) Y (mO (tI s) Y (fO (OF.build (l:= [(0,(tS w)),(1,(tI s))]) (zs:= [(tS ByteArray.empty),(tN 0)]) (out:= [(tS w),(tI s)]) (VEvp.cons (i:=0) (tv (tS w) Y) (VEvp.cons (i:=1) (tv (tI s) Y) VEvp.nil)) (bc nofun (bc nofun bn)) Tryz.underlying92 QmT (fun _=>RL.cons (.str _) (RL.cons (.int _ _) (RL.nil _))) (by kernel_rfl) (by kernel_rfl)) (cO (cS (us:= [(rd 2 Qb a),(T.agg [(tS w),(tI s)])]) (vc (tv (rd 2 Qb a) Y) (vc (tv (T.agg [(tS w),(tI s)]) Y) vn)) (lp Y (LendL.cons (Lend.agg (LendL.cons (Lend.pl Y) (LendL.cons (Lend.pl Y) ln))) ln)) (Yf (n+0) a (D.Meaning.mk w s) (by first | assumption | omega)) Y Y) (aO (tB (decide ((D.Meaning.mk w s)∈a))) Y (nt (rt ?_)))))))))))
 refine vb (b':=(decide ((D.Meaning.mk w s)∈a))) Y ?_
 first | rfl | (exact Qt (by omega)) | (symm;rw [decide_eq_false_iff_not];omega) | (symm;rw [decide_eq_true_eq];omega) | (simp_all;done)
theorem QiT (n:Nat) (a:List ByteArray) (ha:a.length≤mx):Pure (Qo Tryz.prog (n+3)) 78 [(rd 1 Qj a)] (T.sl true 1 ((ZA a).map (Qj true))):=by
 refine Pure.intro (rs:= [ResultVar.tmp 2]) Tryz.func78 Y Y Y (E0:= [(0,(rd 1 Qj a))]) Y ?_
 obtain ⟨hlim,hmx,hmax⟩:=Qz
 refine sr (fO (OF.assign VEv.nils) (nt (sr (fO (OF.assign VEv.nils) (nt (sq (sr (mO (rd 1 Qj a) Y (lO (B.lenR (m:=a.length) (tv (rd 1 Qj a) Y) Jm (List.length_map ..)) (fO (OF.move (VEv.int .i64 0)) (nt ?_)))))))))))
 refine VRun.block (VRun.wk (Wk.phantom 3 1 Y) ?_)
 have he1: []=((ZA (a.take 0)).map (Qj true)):=by first | rfl | (rw [Ym hx1,QbK,if_neg (by assumption)]) | (rw [Ym hx1,QbK,if_pos (by assumption)]) | (rw [Ym hx1,QbK,if_pos (by simpa using fhc1)]) | (simp;done) | omega
 refine VRun.loop (A:=Nat) (fun s_=> [(2,T.nils),(3,(T.os 1 0 0 (((ZA (a.take s_)).map (Qj true)).length))),(6,(rd 1 Qj a)),(7,(tN a.length)),(8,(tN s_))]) (fun s_=>QV [(0,(Obj.rows 1 ((ZA (a.take s_)).map (Qj true))))]) 1 (fun s_=>s_≤a.length) (fun s_=>a.length - s_) (0:Nat) ?_ (Wk.mk (fun k=>k) ?_ ?_ ?_) ?_
 ·first | trivial | (simp;done) | omega | (constructor<;>simp)
 ·exact (b2 (bc ⟨(congrArg (fun n_=>T.os 1 0 0 n_) (show 0=((ZA (a.take 0)).map (Qj true)).length from (by first | rfl | (simp only [List.length_map];omega) | (simp only [List.length_map,List.length_set,List.length_append,List.length_take,List.length_replicate,List.length_cons,List.length_nil];omega)))),rfl⟩ (b2 (b2 (b2 bn)))))
 ·exact (bc ⟨(congrArg (fun l_=>some (Obj.rows 1 l_)) he1),(lb Y),rfl⟩ bn)
 ·exact nd Y
 rintro i (hI':i≤a.length)
 show VRun _ _ _ [(2,T.nils),(3,(T.os 1 0 0 (((ZA (a.take i)).map (Qj true)).length))),(6,(rd 1 Qj a)),(7,(tN a.length)),(8,(tN i))] (QV [(0,(Obj.rows 1 ((ZA (a.take i)).map (Qj true))))]) 1 _
 have hI1:=hI'
 have hI2:=Qhv (a.take i)
 have hI3:(a.take i).length≤a.length:=by rw [List.length_take];omega
 refine sr (fO (Q9 (tv (tN i) Y) (tv (tN a.length) Y)) (nt (sq ?_)))
 refine cd (i<a.length) Y (fun fhc0=> ?_) fun fhc0=> ?_
 ·refine sk ?_
  refine tn (sq (VRun.block (sr ?_)))
  obtain ⟨x1,hx1⟩:∃x,a[i]? =some x:=⟨_,List.getElem?_eq_getElem (by omega)⟩
  refine fO (OF.indexAddrR (row:=(Qj false x1)) (i:=i) (tv (rd 1 Qj a) Y) (tv (tN i) Y) Y (Qu _ hx1) Jm Ji if9) (lO (OL.loadR1 (t:=(tS x1)) (tv (T.rp [(tS x1)]) Y) Y ZG) (aO (tS x1) Y (nt (sr (mO (T.os 1 0 0 (((ZA (a.take i)).map (Qj true)).length)) Y (mO (tS x1) Y (cO (cS (us:= [(rd 1 Qj (ZA (a.take i))),(tS x1)]) (vc (tv (T.os 1 0 0 (((ZA (a.take i)).map (Qj true)).length)) Y) (vc (tv (tS x1) Y) vn)) (LendL.cons (Lend.os Y Y (okStr.fzMap _ _)) (lp Y ln)) (Z1 (n+0) (ZA (a.take i)) x1 (by first | assumption | omega)) Y Y) (fO (QU (tv (tB (decide (x1∈(ZA (a.take i))))) Y)) (nt ?_)))))))))
  refine cn (x1∈(ZA (a.take i))) Y (fun fhc1=> ?_) fun fhc1=> ?_
  ·refine VRun.region ?_
   refine mO (T.os 1 0 0 (((ZA (a.take i)).map (Qj true)).length)) Y (mO (tS x1) Y (kO (OM.buildSlice (l:= [(tS x1)]) (VEvp.cons (tv (tS x1) Y) VEvp.nil) Y (by decide) (bc (nofun) bn) (bc ((bc (Y) bn)) bn) (bc (Y) bn) Jm zo9 (by kernel_rfl) Y (by rw [Ji];decide) Ji (Nat.le_of_ble_eq_true Y)) (cO (B.append (rows:=((ZA (a.take i)).map (Qj true))) (rows2:= [[(tS x1)]]) (rows3:=((ZA (a.take i)++ [x1]).map (Qj true))) (VDst.own (tv (T.os 1 0 0 (((ZA (a.take i)).map (Qj true)).length)) Y) Y Y) (VSrc.own (tv (T.os 1 1 0 1) Y) Y Y Jm (bc (bc Y bn) bn)) (by decide) Jm Ji (by decide) zo9 Y (of_decide_eq_true (by kernel_rfl)) (by first | omega | (simp only [List.length_map];omega) | (simp only [List.length_map,List.length_append,List.length_cons,List.length_nil,List.length_replicate,List.length_set,List.length_drop,List.length_take,Zk] at *;omega)) ((List.map_append (f:=Qj true) (l₁:=ZA (a.take i)) (l₂:= [x1])).symm)) (aO (T.os 1 2 0 (((ZA (a.take i)++ [x1]).map (Qj true)).length)) Y (VRunO.nil (vinB.n (tn (VRun.region (fO (QB (tv (tN i) Y) (VEv.int .i64 1) (by omega)) (mO (tN (i+1)) Y (VRunO.nil ?_)))))))))))
   refine tn ?_
   have he2:(ZA (a.take i)++ [x1])=ZA (a.take (i+1)):=by first | rfl | (rw [Ym hx1,QbK,if_neg (by assumption)]) | (rw [Ym hx1,QbK,if_pos (by assumption)]) | (rw [Ym hx1,QbK,if_pos (by simpa using fhc1)]) | (simp;done) | omega
   refine ⟨(i+1:Nat),?_,?_,Wk.mk (fun k=>if k=0 then 2 else k) ?_ ?_ ?_⟩
   ·first | trivial | omega | (simp;done) | exact ⟨by omega,hI'.2⟩
   ·first | omega | (simp only [];omega) | (show _<_;omega) | (simp;omega)
   ·exact (b2 (bc ⟨(congrArg (fun l_=>T.os 1 2 0 (List.map (Qj true) l_).length) he2),rfl⟩ (b2 (b2 (b2 bn)))))
   ·exact (bc ⟨(congrArg (fun l_=>some (Obj.rows 1 (List.map (Qj true) l_))) he2),(lb Y),rfl⟩ bn)
   ·exact nd Y
  refine sk (vinB.n (tn (VRun.region (fO (QB (tv (tN i) Y) (VEv.int .i64 1) (by omega)) (mO (tN (i+1)) Y (VRunO.nil (tn ?_)))))))
  have he3:ZA (a.take i)=ZA (a.take (i+1)):=by first | rfl | (rw [Ym hx1,QbK,if_neg (by assumption)]) | (rw [Ym hx1,QbK,if_pos (by assumption)]) | (rw [Ym hx1,QbK,if_pos (by simpa using fhc1)]) | (simp;done) | omega
  refine ⟨(i+1:Nat),?_,?_,Wk.mk (fun k=>k) ?_ ?_ ?_⟩
  ·first | trivial | omega | (simp;done) | exact ⟨by omega,hI'.2⟩
  ·first | omega | (simp only [];omega) | (show _<_;omega) | (simp;omega)
  ·exact (b2 (bc ⟨(congrArg (fun l_=>T.os 1 0 0 (List.map (Qj true) l_).length) he3),rfl⟩ (b2 (b2 (b2 bn)))))
  ·exact (bc ⟨(congrArg (fun l_=>some (Obj.rows 1 (List.map (Qj true) l_))) he3),(lb Y),rfl⟩ bn)
  ·exact nd Y
 refine VRun.exit (vthn.e (vthn.e (vinB.e (tn (sr (mO (T.os 1 0 0 (((ZA (a.take i)).map (Qj true)).length)) Y (aO (T.os 1 0 0 (((ZA (a.take i)).map (Qj true)).length)) Y (nt (rt ?_)))))))))
 refine vfin.eq (r':=(T.sl true 1 ((ZA (a.take i)).map (Qj true)))) ?_ (vfin.r (VRes.tmp (t:=(T.os 1 0 0 (((ZA (a.take i)).map (Qj true)).length))) Y VRes.nil) (Give.os Y Y (okStr.cleanMap _)))
 refine congrArg (fun l_=>T.sl true 1 (List.map (Qj true) l_)) ?_
 rw [List.take_of_length_le (by omega)]
noncomputable section
def JP (c:D.Clue) (d:List D.Meaning) (w:ByteArray):Prop:=((1≤c.Sense∧c.Sense≤99)∧QJ c.Play)∧D.Meaning.mk w c.Sense∈d∧J5 c.Play w
instance (c:D.Clue) (d:List D.Meaning) (w:ByteArray):Decidable (JP c d w):=Classical.propDecidable _
theorem Qht (c:D.Clue) (d:List D.Meaning) (w:ByteArray):((((1≤c.Sense∧c.Sense≤99)∧QJ c.Play)∧D.Meaning.mk w c.Sense∈d)∧J5 c.Play w)↔JP c d w:=and_assoc
theorem QfM (l:List ByteArray) (w:ByteArray):ZA (l++ [w])=QbK (ZA l) w:=by
 unfold ZA
 rw [List.foldl_append]
 rfl
end
theorem Qe3 (n:Nat) (c:D.Clue) (d:List D.Meaning) (w:ByteArray) (hz:QO c≤mx) (hd:d.length≤Zk) (hw:w.size≤maxLen):Pure (Qo Tryz.prog (n+25)) 68 [(T.agg (Qi false c)),(rd 2 Qb d),(tS w)] (tB (decide (JP c d w))):=by
 refine Pure.intro (rs:= [ResultVar.tmp 6]) Tryz.func68 Y Y Y (E0:= [(0,(T.agg (Qi false c))),(1,(rd 2 Qb d)),(2,(tS w))]) Y ?_
 obtain ⟨hlim,hmx,hmax⟩:=Qz
 have hzz:=hz
 simp only [QO] at hzz
 refine sr (kO (B.box (ts:=(Qi false c)) (tv (T.agg (Qi false c)) Y) nofun Y) (fO (OF.assign (VEv.bool false)) (nt (sr (lO (OL.loadOn (us:=(Qi false c)) (tv (T.op 0 0) Y) Y Qbx Y7 (lb Y) Y) (cO (cS (vc (tv (T.agg (Qi false c)) Y) vn) (LendL.cons (lg okeClue) ln) (QaN (n+19) c (by first | assumption | omega)) Y Y) (mO (tB (decide ((1≤c.Sense∧c.Sense≤99)∧QJ c.Play))) Y ?_)))))))
 refine VRunO.joinB 6 [10,11,12,13,14] 15 (tB (decide (((1≤c.Sense∧c.Sense≤99)∧QJ c.Play)∧(D.Meaning.mk w c.Sense∈d)))) ?_ ?_
 ·refine gw ((1≤c.Sense∧c.Sense≤99)∧QJ c.Play) (fun fhg9_1=> ?_) fun fhg9_1=> ?_
  ·refine gF (dy fhg9_1) Y Y (OF.move (tv (rd 2 Qb d) Y)) ?_
   refine gF (dy fhg9_1) Y Y (OF.move (tv (tS w) Y)) (Yk (tI c.Sense) (dy fhg9_1) Y Y Y Y Qbz Y Y QS (VRunO.chain (VWant.on Y Y (dy fhg9_1)) (cS (vc (tv (rd 2 Qb d) Y) (vc (tv (tS w) Y) (vc (tv (tI c.Sense) Y) vn))) (Zg Y) (QbF (n+23) d w c.Sense (by first | assumption | omega)) Y Y) (fO (OF.pickT (VEv.tmpB Y (dy fhg9_1)) (tv (tB (decide (D.Meaning.mk w c.Sense∈d))) Y)) (VRunO.nil ?_))))
   exact jq (congrArg T.bool (kAT fhg9_1 Y)) (js Y (js Y (js Y (js Y (js Y (jn))))))
  ·refine QD 5 2 true 9 (dz fhg9_1) Y Y Y ?_
   refine fO (OF.pickF (VEv.tmpB Y (dz fhg9_1)) (VEv.bool false)) (VRunO.nil ?_)
   exact jq (congrArg T.bool (kAF fhg9_1)) (js Y (js Y (js Y (js Y (js Y (jn))))))
 refine mO (tB (decide (((1≤c.Sense∧c.Sense≤99)∧QJ c.Play)∧(D.Meaning.mk w c.Sense∈d)))) Y ?_
 refine VRunO.joinB 5 [17,18,19,20] 21 (tB (decide ((((1≤c.Sense∧c.Sense≤99)∧QJ c.Play)∧(D.Meaning.mk w c.Sense∈d))∧(J5 c.Play w)))) ?_ ?_
 ·refine gw (((1≤c.Sense∧c.Sense≤99)∧QJ c.Play)∧(D.Meaning.mk w c.Sense∈d)) (fun fhg16_2=> ?_) fun fhg16_2=> ?_
  ·refine Yk (rd 4 Qd c.Play) (dy fhg16_2) Y Y Y Y Qac Y Y QgP ?_
   refine gF (dy fhg16_2) Y Y (OF.move (tv (tS w) Y)) (VRunO.chain (VWant.on Y Y (dy fhg16_2)) (cS (vc (tv (rd 4 Qd c.Play) Y) (vc (tv (tS w) Y) vn)) (Zg Y) (Qdv (n+0) c.Play w (by first | assumption | omega) (by first | assumption | omega)) Y Y) (fO (OF.pickT (VEv.tmpB Y (dy fhg16_2)) (tv (tB (decide (J5 c.Play w))) Y)) (VRunO.nil ?_)))
   exact jq (congrArg T.bool (kAT fhg16_2 Y)) (js Y (js Y (js Y (js Y (jn)))))
  ·refine QD 4 9 true 16 (dz fhg16_2) Y Y Y ?_
   refine fO (OF.pickF (VEv.tmpB Y (dz fhg16_2)) (VEv.bool false)) (VRunO.nil ?_)
   exact jq (congrArg T.bool (kAF fhg16_2)) (js Y (js Y (js Y (js Y (jn)))))
 refine aO (tB (decide ((((1≤c.Sense∧c.Sense≤99)∧QJ c.Play)∧(D.Meaning.mk w c.Sense∈d))∧(J5 c.Play w)))) Y (nt (rt (vb (b':=(decide ((((1≤c.Sense∧c.Sense≤99)∧QJ c.Play)∧(D.Meaning.mk w c.Sense∈d))∧(J5 c.Play w)))) Y ?_)))
 exact Qt (Qht c d w)
theorem QeX (n:Nat) (c:D.Clue) (d:List D.Meaning) (w:ByteArray) (hz:QO c≤mx) (hd:d.length≤Zk) (hw:w.size≤maxLen):Pure (Qo Tryz.prog (n+18)) 77 [(T.agg (Qi false c)),(rd 2 Qb d),(tS w)] (tB (decide (JP c d w))):=by
 refine Pure.intro (rs:= [ResultVar.tmp 6]) Tryz.func77 Y Y Y (E0:= [(0,(T.agg (Qi false c))),(1,(rd 2 Qb d)),(2,(tS w))]) Y ?_
 obtain ⟨hlim,hmx,hmax⟩:=Qz
 have hzz:=hz
 simp only [QO] at hzz
 refine sr (kO (B.box (ts:=(Qi false c)) (tv (T.agg (Qi false c)) Y) nofun Y) (fO (OF.assign (VEv.bool false)) (nt (sr (lO (OL.loadOn (us:=(Qi false c)) (tv (T.op 0 0) Y) Y Qbx Y7 (lb Y) Y) (cO (cS (vc (tv (T.agg (Qi false c)) Y) vn) (LendL.cons (lg okeClue) ln) (QaS (n+13) c (by first | assumption | omega)) Y Y) (mO (tB (decide ((1≤c.Sense∧c.Sense≤99)∧QJ c.Play))) Y ?_)))))))
 refine VRunO.joinB 6 [10,11,12,13,14] 15 (tB (decide (((1≤c.Sense∧c.Sense≤99)∧QJ c.Play)∧(D.Meaning.mk w c.Sense∈d)))) ?_ ?_
 ·refine gw ((1≤c.Sense∧c.Sense≤99)∧QJ c.Play) (fun fhg9_1=> ?_) fun fhg9_1=> ?_
  ·refine gF (dy fhg9_1) Y Y (OF.move (tv (rd 2 Qb d) Y)) ?_
   refine gF (dy fhg9_1) Y Y (OF.move (tv (tS w) Y)) (Yk (tI c.Sense) (dy fhg9_1) Y Y Y Y Qbz Y Y QS (VRunO.chain (VWant.on Y Y (dy fhg9_1)) (cS (vc (tv (rd 2 Qb d) Y) (vc (tv (tS w) Y) (vc (tv (tI c.Sense) Y) vn))) (Zg Y) (QbE (n+14) d w c.Sense (by first | assumption | omega)) Y Y) (fO (OF.pickT (VEv.tmpB Y (dy fhg9_1)) (tv (tB (decide (D.Meaning.mk w c.Sense∈d))) Y)) (VRunO.nil ?_))))
   exact jq (congrArg T.bool (kAT fhg9_1 Y)) (js Y (js Y (js Y (js Y (js Y (jn))))))
  ·refine QD 5 2 true 9 (dz fhg9_1) Y Y Y ?_
   refine fO (OF.pickF (VEv.tmpB Y (dz fhg9_1)) (VEv.bool false)) (VRunO.nil ?_)
   exact jq (congrArg T.bool (kAF fhg9_1)) (js Y (js Y (js Y (js Y (js Y (jn))))))
 refine mO (tB (decide (((1≤c.Sense∧c.Sense≤99)∧QJ c.Play)∧(D.Meaning.mk w c.Sense∈d)))) Y ?_
 refine VRunO.joinB 5 [17,18,19,20] 21 (tB (decide ((((1≤c.Sense∧c.Sense≤99)∧QJ c.Play)∧(D.Meaning.mk w c.Sense∈d))∧(J5 c.Play w)))) ?_ ?_
 ·refine gw (((1≤c.Sense∧c.Sense≤99)∧QJ c.Play)∧(D.Meaning.mk w c.Sense∈d)) (fun fhg16_2=> ?_) fun fhg16_2=> ?_
  ·refine Yk (rd 4 Qd c.Play) (dy fhg16_2) Y Y Y Y Qac Y Y QgP ?_
   refine gF (dy fhg16_2) Y Y (OF.move (tv (tS w) Y)) (VRunO.chain (VWant.on Y Y (dy fhg16_2)) (cS (vc (tv (rd 4 Qd c.Play) Y) (vc (tv (tS w) Y) vn)) (Zg Y) (Qds (n+0) c.Play w (by first | assumption | omega) (by first | assumption | omega)) Y Y) (fO (OF.pickT (VEv.tmpB Y (dy fhg16_2)) (tv (tB (decide (J5 c.Play w))) Y)) (VRunO.nil ?_)))
   exact jq (congrArg T.bool (kAT fhg16_2 Y)) (js Y (js Y (js Y (js Y (jn)))))
  ·refine QD 4 9 true 16 (dz fhg16_2) Y Y Y ?_
   refine fO (OF.pickF (VEv.tmpB Y (dz fhg16_2)) (VEv.bool false)) (VRunO.nil ?_)
   exact jq (congrArg T.bool (kAF fhg16_2)) (js Y (js Y (js Y (js Y (jn)))))
 refine aO (tB (decide ((((1≤c.Sense∧c.Sense≤99)∧QJ c.Play)∧(D.Meaning.mk w c.Sense∈d))∧(J5 c.Play w)))) Y (nt (rt (vb (b':=(decide ((((1≤c.Sense∧c.Sense≤99)∧QJ c.Play)∧(D.Meaning.mk w c.Sense∈d))∧(J5 c.Play w)))) Y ?_)))
 exact Qt (Qht c d w)
end Go.Proofs.YtjpenecpopljoaaGreat.AE
