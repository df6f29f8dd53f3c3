/- A part of what the row of FnExactIsTested uses. Conditions: as each theorem states. -/
import Derived.Test.YtjpenecpopljoaaGreatZFnExactIsTestede
import Derived.Test.YtjpenecpopljoaaGreatProg
namespace Go.Proofs.YtjpenecpopljoaaGreat.AE
open Go Go.RowKit
set_option linter.unusedVariables false
set_option linter.unusedSimpArgs false
set_option maxRecDepth 20000
set_option maxHeartbeats 2000000
noncomputable section
def YG (w:ByteArray):ByteArray:=if Ql w then QY (QI (Zd w)) else ⟨#[]⟩
def oL (l:List Int):Nat→List Int
 | 0=> []
 | k+1=>oL l k++l.filter (fun y=>decide (y=97+(k:Int)))
theorem QkP {l:List Int} {y:Int}:∀ {k:Nat},y∈oL l k→y<97+(k:Int)
 | 0,h=>absurd h List.not_mem_nil
 | k+1,h=>by
  rcases List.mem_append.1 h with h | h
  ·have:=QkP h
   omega
  ·have:=of_decide_eq_true (List.mem_filter.1 h).2
   omega
theorem QlH (l:List Int):∀k,(oL l k).Pairwise (· ≤ ·)
 | 0=>List.Pairwise.nil
 | k+1=>by
  refine List.pairwise_append.2 ⟨QlH l k,?_,fun y hy z hz=> ?_⟩
  ·rw [List.pairwise_iff_forall_sublist]
   intro a b hs
   have h1:=of_decide_eq_true (List.mem_filter.1 (hs.subset (List.mem_cons_self ..))).2
   have h2:=of_decide_eq_true (List.mem_filter.1 (hs.subset (List.mem_cons_of_mem _ (List.mem_cons_self ..)))).2
   omega
  ·have h1:=QkP hy
   have h2:=of_decide_eq_true (List.mem_filter.1 hz).2
   omega
theorem QkZ (l:List Int) (y:Int):∀k:Nat,(oL l k).count y=if 97≤y∧y<97+(k:Int) then l.count y else 0
 | 0=>by
  rw [if_neg (by omega)]
  rfl
 | k+1=>by
  rw [oL,List.count_append,QkZ l y k]
  by_cases h:y=97+(k:Int)
  ·rw [if_neg (by omega),if_pos (by omega),List.count_filter (by simpa using h)]
   omega
  ·have h0:(l.filter (fun z=>decide (z=97+(k:Int)))).count y=0:=List.count_eq_zero.2 (fun hm=>h (of_decide_eq_true (List.mem_filter.1 hm).2))
   rw [h0,Nat.add_zero]
   by_cases h1:97≤y∧y<97+(k:Int)
   ·rw [if_pos h1,if_pos (by omega)]
   ·rw [if_neg h1,if_neg (by omega)]
theorem QnB {l:List Int} (h:∀y∈l,97≤y∧y≤122):oL l 26=QI l:=by
 refine List.Perm.eq_of_pairwise (fun a b _ _ h1 h2=>Int.le_antisymm h1 h2) (QlH l 26) (Qe2 l) (List.perm_iff_count.2 (fun y=> ?_))
 rw [QkZ,(QhJ l).count_eq]
 split
 ·rfl
 ·rename_i hn
  refine (List.count_eq_zero.2 (fun hm=>hn ?_)).symm
  have:=h y hm
  omega
theorem QaH {w:ByteArray} (h:Ql w):∀y∈Zd w,97≤y∧y≤122:=fun y hy=>by
 obtain ⟨i,hi,rfl⟩:=List.getElem_of_mem hy
 rw [ZY] at hi
 have:=Qhr hi
 rw [List.getElem?_eq_getElem (by rw [ZY];exact hi)] at this
 rw [Option.some.inj this]
 exact h.2 i hi
def oI (w:ByteArray) (k i:Nat):List Int:=oL (Zd w) k++((Zd w).take i).filter (fun y=>decide (y=97+(k:Int)))
theorem Qjm {w:ByteArray} {k i:Nat} (h:i<w.size):oI w k (i+1)=oI w k i++(if QD w i=97+(k:Int) then [QD w i] else []):=by
 unfold oI
 rw [← QfB h,List.filter_append,List.append_assoc]
 by_cases hp:QD w i=97+(k:Int)
 ·rw [if_pos hp];simp [hp]
 ·rw [if_neg hp];simp [hp]
theorem QkD (a b:List Int):QY (a++b)=QY a++QY b:=by
 apply ByteArray.ext
 apply Array.ext'
 rw [ByteArray.data_append,Array.toList_append,Yy,Yy,Yy,List.map_append]
theorem Qkr {w:ByteArray} {i:Nat} (h:i<w.size):QY [QD w i]=w.extract i (i+1):=by
 apply ByteArray.ext
 apply Array.ext'
 simp only [ByteArray.data_extract,Array.toList_extract,Yy,List.extract_eq_take_drop]
 rw [← Qiv w,← List.map_drop,← List.map_take]
 congr 1
 have h1:i<(Zd w).length:=by rw [ZY];exact h
 have h2:=Qhr h
 rw [List.getElem?_eq_getElem h1] at h2
 rw [List.drop_eq_getElem_cons h1,Option.some.inj h2,show i+1 - i=1 by omega]
 rfl
theorem Qlw (l:List Int):∀k,(oL l k).length≤l.length*k
 | 0=>Nat.zero_le _
 | k+1=>by
  have:=Qlw l k
  have h2:=List.length_filter_le (fun y=>decide (y=97+(k:Int))) l
  rw [oL,List.length_append,Nat.mul_succ]
  omega
theorem Qkn (l:List Int):(QY l).size=l.length:=by
 have:=congrArg List.length (Yy l)
 rw [List.length_map,Array.length_toList] at this
 exact this
theorem Qn6 {w:ByteArray} (h:w.size≤8) {k i:Nat} (hk:k≤26):(QY (oI w k i)).size≤216:=by
 have h1:=Qlw (Zd w) k
 have h2:=List.length_filter_le (fun y=>decide (y=97+(k:Int))) ((Zd w).take i)
 have h3:((Zd w).take i).length≤(Zd w).length:=by rw [List.length_take];omega
 have h4:(Zd w).length*k≤8*26:=Nat.mul_le_mul (by rw [ZY];exact h) hk
 rw [ZY] at *
 rw [Qkn,oI,List.length_append]
 omega
theorem Qm7 {w:ByteArray} {k i:Nat} (h:i<w.size) (hp:QD w i=97+(k:Int)):QY (oI w k i)++w.extract i (i+1)=QY (oI w k (i+1)):=by
 rw [Qjm h,if_pos hp,QkD,Qkr h]
theorem Qnu {w:ByteArray} {k i:Nat} (h:i<w.size) (hp:¬QD w i=97+(k:Int)):QY (oI w k i)=QY (oI w k (i+1)):=by
 rw [Qjm h,if_neg hp,List.append_nil]
theorem QnL (w:ByteArray) (k:Nat):QY (oL (Zd w) k)=QY (oI w k 0):=by rw [oI,List.take_zero,List.filter_nil,List.append_nil]
theorem Qhv {w:ByteArray} {k i:Nat} (h:¬i<w.size):QY (oI w k i)=QY (oL (Zd w) (k+1)):=by
 rw [oI,List.take_of_length_le (by rw [ZY];omega)]
 rfl
theorem QmI {w:ByteArray} {k:Nat} (hk:k=26) (h:Ql w):QY (oL (Zd w) k)=YG w:=by
 rw [hk,QnB (QaH h),YG,if_pos h]
theorem QjT {w:ByteArray} {k:Nat} (h:¬Ql w) (hk:0<k→Ql w):QY (oL (Zd w) k)=YG w:=by
 rcases Nat.eq_zero_or_pos k with rfl | h1
 ·rw [YG,if_neg h]
  rfl
 ·exact absurd (hk h1) h
theorem Qay {n:Int} (h: -2147483648≤n∧n<2147483648):IntKind.i32.wrap n=n:=by
 rw [IntKind.wrap_i32]
 omega
theorem QoN {w:ByteArray} (h:Ql w) {i:Nat} (hi:i<w.size):IntKind.i32.wrap (QD w i)=QD w i:=by
 have:=h.2 i hi
 exact Qay (by omega)
def reB (a b:ByteArray):Prop:=(Ql a∧Ql b)∧¬a=b∧YG a=YG b
instance (a b:ByteArray):Decidable (reB a b):=Classical.propDecidable _
end
theorem JR (n:Nat) (w:ByteArray) (hw:w.size≤maxLen):Pure (Qq Tryz.prog (n+3)) 172 [(tS w)] (tS (YG w)):=by
 refine Pure.intro (rs:= [ResultVar.tmp 2]) Tryz.func172 Y Y Y (E0:= [(0,(tS w))]) Y ?_
 obtain ⟨hlim,hmx,hmax⟩:=QC
 refine sr (fO (OF.assign (VEv.str (⟨#[]⟩:ByteArray))) (nt (sr (fO (OF.assign (VEv.str (⟨#[]⟩:ByteArray))) (nt (sq (sr (fO (OF.assign (VEv.int .i32 97)) (nt (VRun.block ?_))))))))))
 refine VRun.loop (A:=Nat) (fun s_=> [(0,(tS w)),(2,(tS (⟨#[]⟩:ByteArray))),(3,(tS (QY (oL (Zd w) s_)))),(4,(T.int .i32 (97+(s_:Int))))]) (fun s_=>QU []) 0 (fun s_=>s_≤26∧(0<s_→Ql w)) (fun s_=>26 - s_) (0:Nat) ?_ (Wk.mk (fun k=>k) ?_ ?_ ?_) ?_
 ·exact ⟨Nat.zero_le _,fun e=>absurd e (Nat.lt_irrefl 0)⟩
 ·exact (b2 (b2 (bc ⟨(congrArg T.str (show (⟨#[]⟩:ByteArray)=QY (oL (Zd w) 0) from (by first | rfl | assumption | rfl | exact Qhv fhc1 | (simp_all;done)))),rfl⟩ (bc ⟨(congrArg (T.int .i32) (show 97=97+(0:Int) from (by first | rfl | omega | rfl | exact Qhv fhc1 | (simp;done) | (push_cast;omega)))),rfl⟩ bn))))
 ·exact bn
 ·exact nd Y
 rintro k (hI':k≤26∧(0<k→Ql w))
 show VRun _ _ _ [(0,(tS w)),(2,(tS (⟨#[]⟩:ByteArray))),(3,(tS (QY (oL (Zd w) k)))),(4,(T.int .i32 (97+(k:Int))))] (QU []) 0 _
 have hI1:=hI'.1
 have hI2:=hI'.2
 refine sq (sr (mO (T.int .i32 (97+(k:Int))) Y (fO (xle (tv (T.int .i32 (97+(k:Int))) Y) (VEv.int .i32 122)) (mO (tB (decide (97+(k:Int)≤122))) Y ?_))))
 refine gw (97+(k:Int)≤122) (fun fhg8_1=> ?_) fun fhg8_1=> ?_
 ·refine gF (dy fhg8_1) Y Y (OF.move (tv (tS w) Y)) ?_
  refine VRunO.chain (VWant.on Y Y (dy fhg8_1)) (cS (vc (tv (tS w) Y) vn) (Q8 Y) (Q9 (n+0) w (by first | (rw [Qay (by omega)]) | (rw [ByteArray.size_extract];omega) | assumption | omega)) Y Y) (fO (OF.pickT (VEv.tmpB Y (dy fhg8_1)) (tv (tB (decide (Ql w))) Y)) (nt ?_))
  refine cd (Ql w) Y (fun fhc0=> ?_) fun fhc0=> ?_
  ·have hww:Ql w:=by assumption
   have hw8:=hww.1.2
   refine sk (tn (sq (VRun.block (sr (fO (OF.assign (VEv.int .i64 0)) (nt (VRun.block ?_)))))))
   refine VRun.loop (A:=Nat) (fun s_=> [(0,(tS w)),(2,(tS (⟨#[]⟩:ByteArray))),(3,(tS (QY (oI w k s_)))),(4,(T.int .i32 (97+(k:Int)))),(5,(tN s_))]) (fun s_=>QU []) 0 (fun s_=>s_≤w.size) (fun s_=>w.size - s_) (0:Nat) ?_ (Wk.mk (fun k=>k) ?_ ?_ ?_) ?_
   ·first | trivial | (simp;done) | omega | (constructor<;>simp)
   ·exact (b2 (b2 (bc ⟨(congrArg T.str (show QY (oL (Zd w) k)=QY (oI w k 0) from (by first | rfl | assumption | exact QnL w k | (refine Qm7 ?_ ?_<;>omega) | (refine Qnu ?_ ?_<;>omega) | (simp_all;done)))),rfl⟩ (b2 (b2 bn)))))
   ·exact bn
   ·exact nd Y
   rintro i (hI':i≤w.size)
   show VRun _ _ _ [(0,(tS w)),(2,(tS (⟨#[]⟩:ByteArray))),(3,(tS (QY (oI w k i)))),(4,(T.int .i32 (97+(k:Int)))),(5,(tN i))] (QU []) 0 _
   have hJ1:=hI'
   have hsz:=Qn6 (i:=i) hw8 hI1
   refine sq (sr (mO (tN i) Y (mO (tS w) Y (lO (B.lenS (tv (tS w) Y) U9) (fO (Q2 (tv (tN i) Y) (tv (tN w.size) Y)) (nt ?_))))))
   refine cd (i<w.size) Y (fun fhc1=> ?_) fun fhc1=> ?_
   ·have hwb:=QoN hww (i:=i) (by omega)
    refine sk (tn (sq (VRun.block (sr (mO (tS w) Y (mO (tN i) Y ?_))))))
    have hb2:i<w.size:=(by first | (rw [Qay (by omega)]) | (rw [ByteArray.size_extract];omega) | omega)
    refine fO (xix (tv (tS w) Y) (tv (tN i) Y) hb2 U9) (fO (OF.convI (tv (T.int .u8 (QD w i)) Y) (k0:= .u8) U5 U21) (mO (T.int .i32 (97+(k:Int))) Y (fO (Z7 (tv (T.int .i32 (IntKind.i32.wrap (QD w i))) Y) (tv (T.int .i32 (97+(k:Int))) Y)) (nt ?_))))
    refine cd (IntKind.i32.wrap (QD w i)=97+(k:Int)) Y (fun fhc2=> ?_) fun fhc2=> ?_
    ·refine VRun.region ?_
     refine mO (tS (QY (oI w k i))) Y (mO (tS w) Y (mO (tN i) Y (mO (tN i) Y (fO (Qx (tv (tN i) Y) (VEv.int .i64 1) (by first | (rw [Qay (by omega)]) | (rw [ByteArray.size_extract];omega) | omega)) (lO (OL.sliceS (i:=i) (j:=(i+1)) (tv (tS w) Y) (tv (tN i) Y) (tv (tN (i+1)) Y) Y Y (by first | (rw [Qay (by omega)]) | (rw [ByteArray.size_extract];omega) | omega | (simp only [List.length_map];omega) | (simp only [List.length_map,List.length_append,List.length_cons,List.length_nil,List.length_replicate,List.length_set,List.length_drop,List.length_take,Zk] at *;omega)) (by first | (rw [Qay (by omega)]) | (rw [ByteArray.size_extract];omega) | omega | (simp only [List.length_map];omega) | (simp only [List.length_map,List.length_append,List.length_cons,List.length_nil,List.length_replicate,List.length_set,List.length_drop,List.length_take,Zk] at *;omega)) U9) (fO (B.sadd (tv (tS (QY (oI w k i))) Y) (tv (tS (w.extract i (i+1))) Y) (by first | (rw [Qay (by omega)]) | (rw [ByteArray.size_extract];omega) | omega | (simp only [List.length_map];omega) | (simp only [List.length_map,List.length_append,List.length_cons,List.length_nil,List.length_replicate,List.length_set,List.length_drop,List.length_take,Zk] at *;omega))) (aO (tS (QY (oI w k i)++(w.extract i (i+1)))) Y (VRunO.nil (vinB.n (tn (VRun.region ?_)))))))))))
     refine mO (tN i) Y (fO (Qx (tv (tN i) Y) (VEv.int .i64 1) (by first | (rw [Qay (by omega)]) | (rw [ByteArray.size_extract];omega) | omega)) (aO (tN (i+1)) Y (VRunO.nil (tn ?_))))
     refine ⟨(i+1:Nat),?_,?_,Wk.mk (fun k=>k) ?_ ?_ ?_⟩
     ·first | trivial | omega | (simp;done) | exact ⟨by omega,hI'.2⟩
     ·first | omega | (simp only [];omega) | (show _<_;omega) | (simp;omega)
     ·exact (b2 (b2 (bc ⟨(congrArg T.str (show (QY (oI w k i)++(w.extract i (i+1)))=QY (oI w k (i+1)) from (by first | rfl | assumption | exact QnL w k | (refine Qm7 ?_ ?_<;>omega) | (refine Qnu ?_ ?_<;>omega) | (simp_all;done)))),rfl⟩ (b2 (b2 bn)))))
     ·exact bn
     ·exact nd Y
    refine sk (vinB.n (tn (VRun.region (mO (tN i) Y (fO (Qx (tv (tN i) Y) (VEv.int .i64 1) (by first | (rw [Qay (by omega)]) | (rw [ByteArray.size_extract];omega) | omega)) (aO (tN (i+1)) Y (VRunO.nil (tn ?_))))))))
    refine ⟨(i+1:Nat),?_,?_,Wk.mk (fun k=>k) ?_ ?_ ?_⟩
    ·first | trivial | omega | (simp;done) | exact ⟨by omega,hI'.2⟩
    ·first | omega | (simp only [];omega) | (show _<_;omega) | (simp;omega)
    ·exact (b2 (b2 (bc ⟨(congrArg T.str (show QY (oI w k i)=QY (oI w k (i+1)) from (by first | rfl | assumption | exact QnL w k | (refine Qm7 ?_ ?_<;>omega) | (refine Qnu ?_ ?_<;>omega) | (simp_all;done)))),rfl⟩ (b2 (b2 bn)))))
    ·exact bn
    ·exact nd Y
   refine VRun.exit (vthn.e (vthn.e (vinB.e (vinB.n (tn (VRun.region (mO (T.int .i32 (97+(k:Int))) Y (fO (B.add (n:=(97+(k:Int)+1)) (tv (T.int .i32 (97+(k:Int))) Y) (VEv.int .i32 1) (by first | (rw [Qay (by omega)]) | (rw [ByteArray.size_extract];omega) | rfl | (rw [Qs (by omega)];omega) | (rw [Qs (by omega)];done))) (aO (T.int .i32 (97+(k:Int)+1)) Y (VRunO.nil (tn ?_)))))))))))
   refine ⟨(k+1:Nat),?_,?_,Wk.mk (fun k=>k) ?_ ?_ ?_⟩
   ·exact ⟨by omega,fun _=>hww⟩
   ·first | omega | (simp only [];omega) | (show _<_;omega) | (simp;omega)
   ·exact (b2 (b2 (bc ⟨(congrArg T.str (show QY (oI w k i)=QY (oL (Zd w) (k+1)) from (by first | rfl | assumption | rfl | exact Qhv fhc1 | (simp_all;done)))),rfl⟩ (bc ⟨(congrArg (T.int .i32) (show (97+(k:Int)+1)=97+((k+1):Int) from (by first | rfl | omega | rfl | exact Qhv fhc1 | (simp;done) | (push_cast;omega)))),rfl⟩ bn))))
   ·exact bn
   ·exact nd Y
  refine VRun.exit (vthn.e (vthn.e (vinB.e (tn (sr (mO (tS (QY (oL (Zd w) k))) Y (aO (tS (QY (oL (Zd w) k))) Y (nt (rt ?_)))))))))
  refine vfin.eq (r':=(tS (QY (oL (Zd w) k)))) ?_ (vfin.r (VRes.tmp (t:=(tS (QY (oL (Zd w) k)))) Y VRes.nil) (Give.str _))
  refine congrArg T.str ?_
  first | (refine QjT ?_ hI2;assumption) | (by_cases hww:Ql w;exact QmI (by omega) hww;exact QjT hww hI2)
 refine Qz 2 2 true 8 (dz fhg8_1) Y Y Y (fO (OF.pickF (VEv.tmpB Y (dz fhg8_1)) (VEv.bool false)) (nt (cf Y (VRun.exit (vthn.e (vthn.e (vinB.e (tn (sr (mO (tS (QY (oL (Zd w) k))) Y (aO (tS (QY (oL (Zd w) k))) Y ?_)))))))))))
 refine nt (rt ?_)
 refine vfin.eq (r':=(tS (QY (oL (Zd w) k)))) ?_ (vfin.r (VRes.tmp (t:=(tS (QY (oL (Zd w) k)))) Y VRes.nil) (Give.str _))
 refine congrArg T.str ?_
 first | (refine QjT ?_ hI2;assumption) | (by_cases hww:Ql w;exact QmI (by omega) hww;exact QjT hww hI2)
theorem JV (n:Nat) (w:ByteArray) (hw:w.size≤maxLen):Pure (Qq Tryz.prog (n+6)) 174 [(tS w)] (tS (YG w)):=by
 refine Pure.intro (rs:= [ResultVar.tmp 2]) Tryz.func174 Y Y Y (E0:= [(0,(tS w))]) Y ?_
 obtain ⟨hlim,hmx,hmax⟩:=QC
 refine sr (fO (OF.assign (VEv.str (⟨#[]⟩:ByteArray))) (nt (sq (sr (mO (tS w) Y (cO (cS (vc (tv (tS w) Y) vn) (Q8 Y) (Za (n+3) w (by first | (rw [ZY];omega) | (rw [YN,ZY];omega) | assumption | omega)) Y Y) (fO (QW (tv (tB (decide (Ql w))) Y)) (nt ?_))))))))
 refine cn (Ql w) Y (fun fhc0=> ?_) fun fhc0=> ?_
 ·refine sr ?_
  refine fO (OF.assign (VEv.str (⟨#[]⟩:ByteArray))) (nt (rt (tr ?_)))
  refine vfin.eq (r':=(tS (⟨#[]⟩:ByteArray))) ?_ (vfin.r (VRes.tmp (t:=(tS (⟨#[]⟩:ByteArray))) Y VRes.nil) (Give.str _))
  refine congrArg T.str ?_
  exact (if_neg fhc0).symm
 have hw8:=fhc0.1.2
 refine sk (tn (sr (mO (tS w) Y (kO (B.convSB (tv (tS w) Y) U9 Qb4 U5) (aO (T.os 1 0 0 (((Zd w).map (Qw true)).length)) Y (nt (sr (mO (T.os 1 0 0 (((Zd w).map (Qw true)).length)) Y (cO (OC.callMut (rows:=((Zd w).map (Qw true))) (rows':=((QI (Zd w)).map (Qw true))) Y (vc (tv (T.os 1 0 0 (((Zd w).map (Qw true)).length)) Y) vn) Y Y bn (ZF (fun _=>rfl) _) (ZF (fun _=>rfl) _) (Qaj (n+0) (Zd w) (by first | (rw [ZY];omega) | (rw [YN,ZY];omega) | assumption | omega))) (nt (sr ?_)))))))))))
 refine mO (T.os 1 0 0 (((Zd w).map (Qw true)).length)) Y (lO (B.convBS (l:=QI (Zd w)) (tv (T.os 1 0 0 (((Zd w).map (Qw true)).length)) Y) Y (by simp only [List.length_map,List.length_reverse,List.length_set,YN]) Qb4 U5 U9) (aO (tS (QY (QI (Zd w)))) Y (nt (rt ?_))))
 refine vfin.eq (r':=(tS (QY (QI (Zd w))))) ?_ (vfin.r (VRes.tmp (t:=(tS (QY (QI (Zd w))))) Y VRes.nil) (Give.str _))
 refine congrArg T.str ?_
 exact (if_pos fhc0).symm
theorem QbZ (n:Nat) (a:ByteArray) (b:ByteArray) (ha:a.size≤maxLen) (hb:b.size≤maxLen):Pure (Qq Tryz.prog (n+4)) 151 [(tS a),(tS b)] (tB (decide (reB a b))):=by
 refine Pure.intro (rs:= [ResultVar.tmp 4]) Tryz.func151 Y Y Y (E0:= [(0,(tS a)),(1,(tS b))]) Y ?_
 obtain ⟨hlim,hmx,hmax⟩:=QC
 refine sr (fO (OF.assign (VEv.bool false)) (nt (sr (mO (tS a) Y (cO (cS (vc (tv (tS a) Y) vn) (Q8 Y) (Q9 (n+1) a (by first | assumption | omega)) Y Y) (mO (tB (decide (Ql a))) Y ?_))))))
 refine VRunO.joinB 3 [8,9] 10 (tB (decide ((Ql a)∧(Ql b)))) ?_ ?_
 ·refine gw (Ql a) (fun fhg7_1=> ?_) fun fhg7_1=> ?_
  ·refine gF (dy fhg7_1) Y Y (OF.move (tv (tS b) Y)) ?_
   refine VRunO.chain (VWant.on Y Y (dy fhg7_1)) (cS (vc (tv (tS b) Y) vn) (Q8 Y) (Q9 (n+1) b (by first | assumption | omega)) Y Y) (fO (OF.pickT (VEv.tmpB Y (dy fhg7_1)) (tv (tB (decide (Ql b))) Y)) (VRunO.nil ?_))
   exact jq (congrArg T.bool (kAT fhg7_1 Y)) (js Y (js Y (jn)))
  ·refine Qz 2 2 true 7 (dz fhg7_1) Y Y Y ?_
   refine fO (OF.pickF (VEv.tmpB Y (dz fhg7_1)) (VEv.bool false)) (VRunO.nil ?_)
   exact jq (congrArg T.bool (kAF fhg7_1)) (js Y (js Y (jn)))
 refine mO (tB (decide ((Ql a)∧(Ql b)))) Y ?_
 refine VRunO.joinB 4 [12,13,14] 15 (tB (decide (((Ql a)∧(Ql b))∧(¬(a=b))))) ?_ ?_
 ·refine gw ((Ql a)∧(Ql b)) (fun fhg11_2=> ?_) fun fhg11_2=> ?_
  ·refine gF (dy fhg11_2) Y Y (OF.move (tv (tS a) Y)) ?_
   refine gF (dy fhg11_2) Y Y (OF.move (tv (tS b) Y)) (gF (dy fhg11_2) Y Y (B.sneq (c:=(!(decide (a=b)))) (tv (tS a) Y) (tv (tS b) Y) Y) (fO (OF.pickT (VEv.tmpB Y (dy fhg11_2)) (tv (tB (!(decide (a=b)))) Y)) (VRunO.nil ?_)))
   exact jq (congrArg T.bool (kAT fhg11_2 dN)) (js Y (js Y (js Y (jn))))
  ·refine Qz 3 6 true 11 (dz fhg11_2) Y Y Y ?_
   refine fO (OF.pickF (VEv.tmpB Y (dz fhg11_2)) (VEv.bool false)) (VRunO.nil ?_)
   exact jq (congrArg T.bool (kAF fhg11_2)) (js Y (js Y (js Y (jn))))
 refine mO (tB (decide (((Ql a)∧(Ql b))∧(¬(a=b))))) Y ?_
 refine VRunO.joinB 6 [17,18,19,20,21] 22 (tB (decide ((((Ql a)∧(Ql b))∧(¬(a=b)))∧(YG a=YG b)))) ?_ ?_
 ·refine gw (((Ql a)∧(Ql b))∧(¬(a=b))) (fun fhg16_3=> ?_) fun fhg16_3=> ?_
  ·refine gF (dy fhg16_3) Y Y (OF.move (tv (tS a) Y)) ?_
   refine VRunO.chain (VWant.on Y Y (dy fhg16_3)) (cS (vc (tv (tS a) Y) vn) (Q8 Y) (JR (n+0) a (by first | assumption | omega)) Y Y) (gF (dy fhg16_3) Y Y (OF.move (tv (tS b) Y)) (VRunO.chain (VWant.on Y Y (dy fhg16_3)) (cS (vc (tv (tS b) Y) vn) (Q8 Y) (JR (n+0) b (by first | assumption | omega)) Y Y) (gF (dy fhg16_3) Y Y (B.seql (c:=(decide (YG a=YG b))) (tv (tS (YG a)) Y) (tv (tS (YG b)) Y) Y) (fO (OF.pickT (VEv.tmpB Y (dy fhg16_3)) (tv (tB (decide (YG a=YG b))) Y)) (VRunO.nil ?_)))))
   exact jq (congrArg T.bool (kAT fhg16_3 Y)) (js Y (js Y (js Y (js Y (js Y (jn))))))
  ·refine Qz 5 11 true 16 (dz fhg16_3) Y Y Y ?_
   refine fO (OF.pickF (VEv.tmpB Y (dz fhg16_3)) (VEv.bool false)) (VRunO.nil ?_)
   exact jq (congrArg T.bool (kAF fhg16_3)) (js Y (js Y (js Y (js Y (js Y (jn))))))
 refine aO (tB (decide ((((Ql a)∧(Ql b))∧(¬(a=b)))∧(YG a=YG b)))) Y (nt (rt (vb (b':=(decide ((((Ql a)∧(Ql b))∧(¬(a=b)))∧(YG a=YG b)))) Y ?_)))
 refine Qv ?_;unfold reB;exact and_assoc
theorem Qb3 (n:Nat) (a:ByteArray) (b:ByteArray) (ha:a.size≤maxLen) (hb:b.size≤maxLen):Pure (Qq Tryz.prog (n+7)) 161 [(tS a),(tS b)] (tB (decide (reB a b))):=by
 refine Pure.intro (rs:= [ResultVar.tmp 4]) Tryz.func161 Y Y Y (E0:= [(0,(tS a)),(1,(tS b))]) Y ?_
 obtain ⟨hlim,hmx,hmax⟩:=QC
 refine sr (fO (OF.assign (VEv.bool false)) (nt (sr (mO (tS a) Y (cO (cS (vc (tv (tS a) Y) vn) (Q8 Y) (Za (n+4) a (by first | assumption | omega)) Y Y) (mO (tB (decide (Ql a))) Y ?_))))))
 refine VRunO.joinB 3 [8,9] 10 (tB (decide ((Ql a)∧(Ql b)))) ?_ ?_
 ·refine gw (Ql a) (fun fhg7_1=> ?_) fun fhg7_1=> ?_
  ·refine gF (dy fhg7_1) Y Y (OF.move (tv (tS b) Y)) ?_
   refine VRunO.chain (VWant.on Y Y (dy fhg7_1)) (cS (vc (tv (tS b) Y) vn) (Q8 Y) (Za (n+4) b (by first | assumption | omega)) Y Y) (fO (OF.pickT (VEv.tmpB Y (dy fhg7_1)) (tv (tB (decide (Ql b))) Y)) (VRunO.nil ?_))
   exact jq (congrArg T.bool (kAT fhg7_1 Y)) (js Y (js Y (jn)))
  ·refine Qz 2 2 true 7 (dz fhg7_1) Y Y Y ?_
   refine fO (OF.pickF (VEv.tmpB Y (dz fhg7_1)) (VEv.bool false)) (VRunO.nil ?_)
   exact jq (congrArg T.bool (kAF fhg7_1)) (js Y (js Y (jn)))
 refine mO (tB (decide ((Ql a)∧(Ql b)))) Y ?_
 refine VRunO.joinB 4 [12,13,14] 15 (tB (decide (((Ql a)∧(Ql b))∧(¬(a=b))))) ?_ ?_
 ·refine gw ((Ql a)∧(Ql b)) (fun fhg11_2=> ?_) fun fhg11_2=> ?_
  ·refine gF (dy fhg11_2) Y Y (OF.move (tv (tS a) Y)) ?_
   refine gF (dy fhg11_2) Y Y (OF.move (tv (tS b) Y)) (gF (dy fhg11_2) Y Y (B.sneq (c:=(!(decide (a=b)))) (tv (tS a) Y) (tv (tS b) Y) Y) (fO (OF.pickT (VEv.tmpB Y (dy fhg11_2)) (tv (tB (!(decide (a=b)))) Y)) (VRunO.nil ?_)))
   exact jq (congrArg T.bool (kAT fhg11_2 dN)) (js Y (js Y (js Y (jn))))
  ·refine Qz 3 6 true 11 (dz fhg11_2) Y Y Y ?_
   refine fO (OF.pickF (VEv.tmpB Y (dz fhg11_2)) (VEv.bool false)) (VRunO.nil ?_)
   exact jq (congrArg T.bool (kAF fhg11_2)) (js Y (js Y (js Y (jn))))
 refine mO (tB (decide (((Ql a)∧(Ql b))∧(¬(a=b))))) Y ?_
 refine VRunO.joinB 6 [17,18,19,20,21] 22 (tB (decide ((((Ql a)∧(Ql b))∧(¬(a=b)))∧(YG a=YG b)))) ?_ ?_
 ·refine gw (((Ql a)∧(Ql b))∧(¬(a=b))) (fun fhg16_3=> ?_) fun fhg16_3=> ?_
  ·refine gF (dy fhg16_3) Y Y (OF.move (tv (tS a) Y)) ?_
   refine VRunO.chain (VWant.on Y Y (dy fhg16_3)) (cS (vc (tv (tS a) Y) vn) (Q8 Y) (JV (n+0) a (by first | assumption | omega)) Y Y) (gF (dy fhg16_3) Y Y (OF.move (tv (tS b) Y)) (VRunO.chain (VWant.on Y Y (dy fhg16_3)) (cS (vc (tv (tS b) Y) vn) (Q8 Y) (JV (n+0) b (by first | assumption | omega)) Y Y) (gF (dy fhg16_3) Y Y (B.seql (c:=(decide (YG a=YG b))) (tv (tS (YG a)) Y) (tv (tS (YG b)) Y) Y) (fO (OF.pickT (VEv.tmpB Y (dy fhg16_3)) (tv (tB (decide (YG a=YG b))) Y)) (VRunO.nil ?_)))))
   exact jq (congrArg T.bool (kAT fhg16_3 Y)) (js Y (js Y (js Y (js Y (js Y (jn))))))
  ·refine Qz 5 11 true 16 (dz fhg16_3) Y Y Y ?_
   refine fO (OF.pickF (VEv.tmpB Y (dz fhg16_3)) (VEv.bool false)) (VRunO.nil ?_)
   exact jq (congrArg T.bool (kAF fhg16_3)) (js Y (js Y (js Y (js Y (js Y (jn))))))
 refine aO (tB (decide ((((Ql a)∧(Ql b))∧(¬(a=b)))∧(YG a=YG b)))) Y (nt (rt (vb (b':=(decide ((((Ql a)∧(Ql b))∧(¬(a=b)))∧(YG a=YG b)))) Y ?_)))
 refine Qv ?_;unfold reB;exact and_assoc
noncomputable section
theorem QfF (w:ByteArray):Ql w↔(1≤w.size∧w.size≤8)∧∀y∈Zd w,97≤y∧y≤122:=by
 refine ⟨fun h=>⟨h.1,QaH h⟩,fun h=>⟨h.1,fun i hi=> ?_⟩⟩
 refine h.2 _ ?_
 have:=Qhr hi
 exact List.mem_of_getElem? this
theorem Qhq (w:ByteArray) (a b:Nat):∀y∈Zd (w.extract a b),y∈Zd w:=fun y hy=>by
 unfold Zd at *
 obtain ⟨z,hz,rfl⟩:=List.mem_map.1 hy
 rw [ByteArray.data_extract,Array.toList_extract,List.extract_eq_take_drop] at hz
 exact List.mem_map.2 ⟨z,List.mem_of_mem_drop (List.mem_of_mem_take hz),rfl⟩
theorem Qmr (a b:ByteArray):∀y∈Zd (a++b),y∈Zd a∨y∈Zd b:=fun y hy=>by
 unfold Zd at *
 rw [ByteArray.data_append,Array.toList_append,List.map_append] at hy
 exact List.mem_append.1 hy
theorem QaS {w:ByteArray} (h:Ql w) {a b:Nat} (h1:a<b) (h2:b≤w.size):Ql (w.extract a b):=by
 have hs:=h.1
 refine (QfF _).2 ⟨?_,fun y hy=>QaH h y (Qhq w a b y hy)⟩
 rw [ByteArray.size_extract]
 omega
theorem QhO {w:ByteArray} (h:Ql w) {a b:Nat} (h0:1≤a) (h1:a<b) (h2:b<w.size):Ql (w.extract 0 a++w.extract b w.size):=by
 have hs:=h.1
 refine (QfF _).2 ⟨?_,fun y hy=> ?_⟩
 ·rw [ByteArray.size_append,ByteArray.size_extract,ByteArray.size_extract]
  omega
 ·rcases Qmr _ _ y hy with hy | hy
  ·exact QaH h y (Qhq w _ _ y hy)
  ·exact QaH h y (Qhq w _ _ y hy)
theorem Qgx {w:ByteArray} (h:Ql w):Ql (back w):=by
 have hs:=h.1
 have hb:w.size≤100:=by omega
 refine (QfF _).2 ⟨by rw [Qj9 hb];exact hs,fun y hy=> ?_⟩
 unfold back at hy
 rw [if_pos hb] at hy
 unfold Zd at hy
 rw [Qbq (Nat.le_refl _)] at hy
 obtain ⟨z,hz,rfl⟩:=List.mem_map.1 hy
 exact QaH h _ (List.mem_map.2 ⟨z,List.mem_of_mem_take (List.mem_reverse.1 hz),rfl⟩)
theorem Ju {l:List D.Step} {i:Nat} {x:D.Step} (h:QR l) (hx:l[i]? =some x):(1≤x.Kind∧x.Kind≤9)∧x.Word.size≤8∧(0≤x.A∧x.A<((l.length:Nat):Int))∧(¬x.Kind=1→(x.A<(i:Int))∧((x.Kind=4∨x.Kind=5)→0≤x.B∧x.B<(i:Int))):=by
 have hi:=(List.getElem?_eq_some_iff.1 hx).1
 obtain ⟨y,hy,h1,h2,h3⟩:=h.2 i hi
 rw [hx] at hy
 obtain rfl:=Option.some.inj hy
 by_cases hk:x.Kind=1
 ·have h4:=h2 hk
  exact ⟨h1,h4.1.1.2,by omega,fun e=>absurd hk e⟩
 ·have h4:=h3 hk
  exact ⟨h1,by rw [h4.1];exact Nat.zero_le _,by omega,fun e=>⟨h4.2.1.2,fun e2=>h4.2.2.1 e2⟩⟩
def wAt (l:List D.Step) (i:Int):ByteArray:=match l[Int.toNat i]? with
 | some y=>y.Word
 | none=>⟨#[]⟩
theorem QfL {l:List D.Step} {i:Int} {y:D.Step} (h:l[Int.toNat i]? =some y):wAt l i=y.Word:=by rw [wAt,h]
def Yi (l:List D.Step):Nat→Int→ByteArray→Prop
 | 0,_,_=>False
 | d+1,i,w=>match l[Int.toNat i]? with
  | none=>False
  | some x=>if x.Kind=1 then w=x.Word else if x.Kind=2 then Yi l d x.A (back w) else if x.Kind=3 then reB (wAt l x.A) w
   else if x.Kind=4 then ∃k,1≤k∧k<w.size∧Yi l d x.A (w.extract 0 k)∧Yi l d x.B (w.extract k w.size)
   else if x.Kind=5 then ∃a b,(1≤a∧a<b∧b<w.size)∧Yi l d x.B (w.extract a b)∧Yi l d x.A (w.extract 0 a++w.extract b w.size)
   else if x.Kind=6 then w=hdS (wAt l x.A) else if x.Kind=7 then w=nhS (wAt l x.A) else if x.Kind=8 then w=ntS (wAt l x.A) else QdV w (wAt l x.A)
instance (l:List D.Step) (d:Nat) (i:Int) (w:ByteArray):Decidable (Yi l d i w):=Classical.propDecidable _
section
variable {l : List D.Step} {d : Nat} {i : Int} {w : ByteArray} {x y : D.Step} (hx : l[Int.toNat i]? = some x)
include hx
theorem Qau (h:x.Kind=1):Yi l (d+1) i w↔w=x.Word:=by rw [Yi,hx];simp only [h,if_true]
theorem Qax (h:x.Kind=2):Yi l (d+1) i w↔Yi l d x.A (back w):=by rw [Yi,hx];simp [h]
theorem Qal (hy:l[Int.toNat x.A]? =some y) (h:x.Kind=3):Yi l (d+1) i w↔reB y.Word w:=by rw [Yi,hx,← QfL hy];simp [h]
theorem YD (h:x.Kind=4):Yi l (d+1) i w↔∃k,1≤k∧k<w.size∧Yi l d x.A (w.extract 0 k)∧Yi l d x.B (w.extract k w.size):=by rw [Yi,hx];simp [h]
theorem YC (h:x.Kind=5):Yi l (d+1) i w↔∃a b,(1≤a∧a<b∧b<w.size)∧Yi l d x.B (w.extract a b)∧Yi l d x.A (w.extract 0 a++w.extract b w.size):=by rw [Yi,hx];simp [h]
theorem Qaq (hy:l[Int.toNat x.A]? =some y) (h:x.Kind=6):Yi l (d+1) i w↔w=hdS y.Word:=by rw [Yi,hx,← QfL hy];simp [h]
theorem Qao (hy:l[Int.toNat x.A]? =some y) (h:x.Kind=7):Yi l (d+1) i w↔w=nhS y.Word:=by rw [Yi,hx,← QfL hy];simp [h]
theorem Qas (hy:l[Int.toNat x.A]? =some y) (h:x.Kind=8):Yi l (d+1) i w↔w=ntS y.Word:=by rw [Yi,hx,← QfL hy];simp [h]
theorem Qam (hy:l[Int.toNat x.A]? =some y) (h1:¬x.Kind=1) (h2:¬x.Kind=2) (h3:¬x.Kind=3) (h4:¬x.Kind=4) (h5:¬x.Kind=5) (h6:¬x.Kind=6) (h7:¬x.Kind=7) (h8:¬x.Kind=8):Yi l (d+1) i w↔QdV w y.Word:=by rw [Yi,hx,← QfL hy];simp [h1,h2,h3,h4,h5,h6,h7,h8]
end
def jNo (l:List D.Step) (d:Nat) (x:D.Step) (w:ByteArray) (k:Nat):Prop:=∀m,1≤m→m<k→¬(Yi l d x.A (w.extract 0 m)∧Yi l d x.B (w.extract m w.size))
def iNo (l:List D.Step) (d:Nat) (x:D.Step) (w:ByteArray) (a b:Nat):Prop:=∀m,a<m→m<b→¬(Yi l d x.B (w.extract a m)∧Yi l d x.A (w.extract 0 a++w.extract m w.size))
def oNo (l:List D.Step) (d:Nat) (x:D.Step) (w:ByteArray) (a:Nat):Prop:=∀m,1≤m→m<a→iNo l d x w m w.size
theorem QmN (l:List D.Step) (d:Nat) (x:D.Step) (w:ByteArray):jNo l d x w 1:=fun m h1 h2=>by omega
theorem QmC (l:List D.Step) (d:Nat) (x:D.Step) (w:ByteArray) (a:Nat):iNo l d x w a (a+1):=fun m h1 h2=>by omega
theorem QmP (l:List D.Step) (d:Nat) (x:D.Step) (w:ByteArray):oNo l d x w 1:=fun m h1 h2=>by omega
theorem Qc6 {l:List D.Step} {d:Nat} {x:D.Step} {w:ByteArray} {k:Nat} (h:jNo l d x w k) (hn:¬(Yi l d x.A (w.extract 0 k)∧Yi l d x.B (w.extract k w.size))):jNo l d x w (k+1):=fun m h1 h2=>by
 rcases Nat.lt_or_ge m k with h3 | h3
 ·exact h m h1 h3
 ·rw [show m=k by omega];exact hn
theorem QcJ {l:List D.Step} {d:Nat} {x:D.Step} {w:ByteArray} {a b:Nat} (h:iNo l d x w a b) (hn:¬(Yi l d x.B (w.extract a b)∧Yi l d x.A (w.extract 0 a++w.extract b w.size))):iNo l d x w a (b+1):=fun m h1 h2=>by
 rcases Nat.lt_or_ge m b with h3 | h3
 ·exact h m h1 h3
 ·rw [show m=b by omega];exact hn
theorem Qix {l:List D.Step} {d:Nat} {x:D.Step} {w:ByteArray} {a b:Nat} (h:oNo l d x w a) (hb:iNo l d x w a b) (hs:¬b<w.size):oNo l d x w (a+1):=fun m h1 h2=>by
 rcases Nat.lt_or_ge m a with h3 | h3
 ·exact h m h1 h3
 ·rw [show m=a by omega]
  exact fun k h4 h5=>hb k h4 (by omega)
theorem Yn {l:List D.Step} {d:Nat} {x:D.Step} {w:ByteArray} {k:Nat} (h:jNo l d x w k) (hk:¬k<w.size) (he:∃m,1≤m∧m<w.size∧Yi l d x.A (w.extract 0 m)∧Yi l d x.B (w.extract m w.size)):False:=by
 obtain ⟨m,h1,h2,h3⟩:=he
 exact h m h1 (by omega) h3
theorem Yo {l:List D.Step} {d:Nat} {x:D.Step} {w:ByteArray} {k:Nat} (h:oNo l d x w k) (hk:¬k<w.size) (he:∃a b,(1≤a∧a<b∧b<w.size)∧Yi l d x.B (w.extract a b)∧Yi l d x.A (w.extract 0 a++w.extract b w.size)):False:=by
 obtain ⟨a,b,⟨h1,h2,h3⟩,h4⟩:=he
 exact h a h1 (by omega) b h2 h3 h4
theorem dTr {p:Prop} [Decidable p] (h:p):true=decide p:=(decide_eq_true h).symm
theorem Yc {p:Prop} [Decidable p] (h:¬p):false=decide p:=(decide_eq_false h).symm
end
theorem QgQ (n:Nat):∀(d:Nat) (l:List D.Step) (i:Int) (w:ByteArray) (hp:QR l) (hz:zL Ze l≤mx) (hd:d≤9) (hi:0≤i∧i<(d:Int)∧i<(l.length:Int)) (hw:Ql w),Pure (Qq Tryz.prog (n+d+7)) 128 [(rd 4 Qf l),(tI i),(tS w)] (tB (decide (Yi l d i w))):=by
 intro d
 induction d with
 | zero=>intro l i w hp hz hd hi hw;exact absurd hi.2.1 (by omega)
 | succ d ih =>
 intro l i w hp hz hd hi hw
 refine Pure.intro (n:=n+d+7) (rs:= [ResultVar.tmp 6]) Tryz.func128 Y Y Y (E0:= [(0,(rd 4 Qf l)),(1,(tI i)),(2,(tS w))]) Y ?_
 obtain ⟨hlim,hmx,hmax⟩:=QC
 have hl:=QV (z:=Ze) l
 have hw8:=hw.1
 refine sr (fO (OF.assign (VEv.bool false)) (nt (sr (mO (rd 4 Qf l) Y (mO (tI i) Y ?_)))))
 obtain ⟨x1,hx1⟩:∃x,l[(Int.toNat i)]? =some x:=⟨_,List.getElem?_eq_getElem (by first | (simp only [ByteArray.size_append,ByteArray.size_extract];omega) | omega)⟩
 have hb1:=Ju hp hx1
 refine fO (OF.indexAddrR (row:=(Qf false x1)) (i:=(Int.toNat i)) (tv (rd 4 Qf l) Y) (tv (tI i) Y) (by omega) (Qu _ hx1) U62 ZD YH) (lO (OL.loadRn (us:=(Qf false x1)) (tv (T.rp (Qf false x1)) Y) Qb9 ZD (lb Y) Y) (kO (B.alloc (t:=(T.agg [(tN 0),(tS ByteArray.empty),(tN 0),(tN 0)])) (ts:= [(tN 0),(tS ByteArray.empty),(tN 0),(tN 0)]) Qfk QfK nofun (fun _=> .agg _ _ Y (YK (RL.cons (.int _ _) (RL.cons (.str _) (RL.cons (.int _ _) (RL.cons (.int _ _) (RL.nil _))))))) Y) (cO (B.storeW (us:=(Qf false x1)) (tv (T.op 0 0) Y) (tv (T.agg (Qf false x1)) Y) nofun Y Y Y YH ZD (bc Y (bc Y (bc Y (bc Y bn))))) (nt (sq (sr (mO (tS w) Y (fO (B.seql (c:=(decide (w=(⟨#[]⟩:ByteArray)))) (tv (tS w) Y) (VEv.str (⟨#[]⟩:ByteArray)) Y) (nt ?_)))))))))
 refine cd (w=(⟨#[]⟩:ByteArray)) Y (fun fhc0=> ?_) fun fhc0=> ?_
 ·exact absurd hw (by rw [fhc0];exact Zo)
 refine sk (tn (sr (mO (rd 4 Qf l) Y (lf (tI x1.A) Y Zs Y Y QQ ?_))))
 obtain ⟨x2,hx2⟩:∃x,l[(Int.toNat x1.A)]? =some x:=⟨_,List.getElem?_eq_getElem (by first | (simp only [ByteArray.size_append,ByteArray.size_extract];omega) | omega)⟩
 have hb2:=Ju hp hx2
 refine fO (OF.indexAddrR (row:=(Qf false x2)) (i:=(Int.toNat x1.A)) (tv (rd 4 Qf l) Y) (tv (tI x1.A) Y) (by omega) (Qu _ hx2) U62 ZD YH) (lr (tS x2.Word) Y (lb Y) Yb Y ZH (aO (tS x2.Word) Y (nt (sq (sr (lf (tI x1.Kind) Y Q7 Y Y QQ (nt (VRun.block (sr (fO (Z7 (tv (tI x1.Kind) Y) (VEv.int .i64 1)) (aO (tB (decide (x1.Kind=1))) Y ?_)))))))))))
 refine nt ?_
 refine cd (x1.Kind=1) Y (fun fhc1=> ?_) fun fhc1=> ?_
 ·refine sr ?_
  refine mO (tS w) Y (lf (tS x1.Word) Y Yb Y Y ZH (fO (B.seql (c:=(decide (w=x1.Word))) (tv (tS w) Y) (tv (tS x1.Word) Y) Y) (aO (tB (decide (w=x1.Word))) Y (nt (rt (vinB.r (tr (vb (b':=(decide (w=x1.Word))) Y ?_))))))))
  first | exact Qv (Qau hx1 fhc1).symm | exact Qv (Qax hx1 fhc2).symm | exact Qv (Qal hx1 hx2 fhc3).symm | exact dTr ((YD hx1 fhc4).2 ⟨k,hI1.1,fhc5,fhg60_1,fhc6⟩) | exact Yc (fun h_=>Yn hI2 fhc5 ((YD hx1 fhc4).1 h_)) | exact dTr ((YC hx1 fhc7).2 ⟨a,b,⟨hJ1.1,hK1.1,fhc9⟩,fhg93_2,fhc10⟩) | exact Yc (fun h_=>Yo hJ2 fhc8 ((YC hx1 fhc7).1 h_)) | exact Qv (Qaq hx1 hx2 fhc11).symm | exact Qv (Qao hx1 hx2 fhc12).symm | exact Qv (Qas hx1 hx2 fhc13).symm | exact Qv (Qam hx1 hx2 fhc1 fhc2 fhc3 fhc4 fhc7 fhc11 fhc12 fhc13).symm | (exfalso;omega)
 have hkA:=hb1.2.2.2 fhc1
 refine sr (fO (Z7 (tv (tI x1.Kind) Y) (VEv.int .i64 2)) (aO (tB (decide (x1.Kind=2))) Y (nt ?_)))
 refine cd (x1.Kind=2) Y (fun fhc2=> ?_) fun fhc2=> ?_
 ·have hwb:=Qgx hw
  refine sq (VRun.draw (B:= [[],[],[1],[],[3],[3,4,1,2,0],[0,2,1,4,3,5]]) (by kernel_rfl) (by kernel_rfl) (mD (rd 4 Qf l) Y Y (fD (OF.fieldAddrO (tv (T.op 0 0) Y) Zs) Y Y (lD (OL.loadO1 (t:=(tI x1.A)) (tv (T.op 0 2) Y) Y Y QQ) Y Y (mD (tS w) Y Y (VRunD.quiet (bi:= [3]) Y VWant.always Y Y Y bn (cS (vc (tv (tS w) Y) vn) (Q8 Y) (QaP (n+d+5) w (by first | (simp only [ByteArray.size_append,ByteArray.size_extract];omega) | assumption | omega)) Y Y) (VRunD.quiet (bi:= [3,4,1,2,0]) Y VWant.always Y Y Y bn (cS (vc (tv (rd 4 Qf l) Y) (vc (tv (tI x1.A) Y) (vc (tv (tS (back w)) Y) vn))) (Q8 Y) (ih l x1.A (back w) (by first | (simp only [ByteArray.size_append,ByteArray.size_extract];omega) | assumption | omega) (by first | (simp only [ByteArray.size_append,ByteArray.size_extract];omega) | assumption | omega) (by first | (simp only [ByteArray.size_append,ByteArray.size_extract];omega) | assumption | omega) (by first | (simp only [ByteArray.size_append,ByteArray.size_extract];omega) | assumption | omega) (by first | (simp only [ByteArray.size_append,ByteArray.size_extract];omega) | assumption | omega)) Y Y) (fD (OF.assign (tv (tB (decide (Yi l d x1.A (back w)))) Y)) Y Y (VRunD.nil (tn (rt ?_)))))))))))
  refine vinB.r (tr (vb (b':=(decide (Yi l d x1.A (back w)))) Y ?_))
  first | exact Qv (Qau hx1 fhc1).symm | exact Qv (Qax hx1 fhc2).symm | exact Qv (Qal hx1 hx2 fhc3).symm | exact dTr ((YD hx1 fhc4).2 ⟨k,hI1.1,fhc5,fhg60_1,fhc6⟩) | exact Yc (fun h_=>Yn hI2 fhc5 ((YD hx1 fhc4).1 h_)) | exact dTr ((YC hx1 fhc7).2 ⟨a,b,⟨hJ1.1,hK1.1,fhc9⟩,fhg93_2,fhc10⟩) | exact Yc (fun h_=>Yo hJ2 fhc8 ((YC hx1 fhc7).1 h_)) | exact Qv (Qaq hx1 hx2 fhc11).symm | exact Qv (Qao hx1 hx2 fhc12).symm | exact Qv (Qas hx1 hx2 fhc13).symm | exact Qv (Qam hx1 hx2 fhc1 fhc2 fhc3 fhc4 fhc7 fhc11 fhc12 fhc13).symm | (exfalso;omega)
 refine sr (fO (Z7 (tv (tI x1.Kind) Y) (VEv.int .i64 3)) (aO (tB (decide (x1.Kind=3))) Y (nt ?_)))
 refine cd (x1.Kind=3) Y (fun fhc3=> ?_) fun fhc3=> ?_
 ·refine sr ?_
  refine mO (tS x2.Word) Y (mO (tS w) Y (cO (cS (vc (tv (tS x2.Word) Y) (vc (tv (tS w) Y) vn)) (Q8 Y) (Qb3 (n+d+0) x2.Word w (by first | (simp only [ByteArray.size_append,ByteArray.size_extract];omega) | assumption | omega) (by first | (simp only [ByteArray.size_append,ByteArray.size_extract];omega) | assumption | omega)) Y Y) (aO (tB (decide (reB x2.Word w))) Y (nt (rt (vinB.r (tr (vb (b':=(decide (reB x2.Word w))) Y ?_))))))))
  first | exact Qv (Qau hx1 fhc1).symm | exact Qv (Qax hx1 fhc2).symm | exact Qv (Qal hx1 hx2 fhc3).symm | exact dTr ((YD hx1 fhc4).2 ⟨k,hI1.1,fhc5,fhg60_1,fhc6⟩) | exact Yc (fun h_=>Yn hI2 fhc5 ((YD hx1 fhc4).1 h_)) | exact dTr ((YC hx1 fhc7).2 ⟨a,b,⟨hJ1.1,hK1.1,fhc9⟩,fhg93_2,fhc10⟩) | exact Yc (fun h_=>Yo hJ2 fhc8 ((YC hx1 fhc7).1 h_)) | exact Qv (Qaq hx1 hx2 fhc11).symm | exact Qv (Qao hx1 hx2 fhc12).symm | exact Qv (Qas hx1 hx2 fhc13).symm | exact Qv (Qam hx1 hx2 fhc1 fhc2 fhc3 fhc4 fhc7 fhc11 fhc12 fhc13).symm | (exfalso;omega)
 refine sr (fO (Z7 (tv (tI x1.Kind) Y) (VEv.int .i64 4)) (aO (tB (decide (x1.Kind=4))) Y (nt ?_)))
 refine cd (x1.Kind=4) Y (fun fhc4=> ?_) fun fhc4=> ?_
 ·have hkB:=hkA.2 (.inl fhc4)
  refine sr (fO (OF.assign (VEv.int .i64 1)) (nt (VRun.block ?_)))
  refine VRun.loop (A:=Nat) (fun s_=> [(0,(rd 4 Qf l)),(2,(tS w)),(7,(T.op 0 0)),(9,(tN s_))]) (fun s_=>QU [(0,(Obj.cells (Qf false x1)))]) 1 (fun s_=>(1≤s_∧s_≤9)∧jNo l d x1 w s_) (fun s_=>w.size - s_) (1:Nat) ?_ (Wk.mk (fun k=>k) ?_ ?_ ?_) ?_
  ·exact ⟨⟨Nat.le_refl 1,by decide⟩,QmN l d x1 w⟩
  ·exact (b2 (b2 (b2 (b2 bn))))
  ·exact (b3 bn)
  ·exact nd Y
  rintro k (hI':(1≤k∧k≤9)∧jNo l d x1 w k)
  show VRun _ _ _ [(0,(rd 4 Qf l)),(2,(tS w)),(7,(T.op 0 0)),(9,(tN k))] (QU [(0,(Obj.cells (Qf false x1)))]) 1 _
  have hI1:=hI'.1
  have hI2:=hI'.2
  refine sq (sr (mO (tN k) Y (mO (tS w) Y (lO (B.lenS (tv (tS w) Y) U9) (fO (Q2 (tv (tN k) Y) (tv (tN w.size) Y)) (nt ?_))))))
  refine cd (k<w.size) Y (fun fhc5=> ?_) fun fhc5=> ?_
  ·have hwl:=QaS hw (a:=0) (b:=k) (by omega) (by omega)
   have hwr:=QaS hw (a:=k) (b:=w.size) (by omega) (by omega)
   refine sk (tn (sq (VRun.block (sq (VRun.draw (B:= [[],[],[1],[],[],[4,3],[3,4,5,1,2,0],[0,2,1,5,4,3,6],[6,3,4,5,1,2,0,7],[6,3,4,5,1,2,0,7],[7,0,2,1,5,4,3,6,9],[6,3,4,5,1,2,0,7],[6,3,4,5,1,2,0,7],[12,7,0,2,1,5,4,3,6,11],[11,12,13,9,10,7,0,2,1,5,4,3,6,8],[8,10,9,13,12,11,14,6,3,4,5,1,2,0,7]]) (by kernel_rfl) (by kernel_rfl) (mD (rd 4 Qf l) Y Y (fD (OF.fieldAddrO (tv (T.op 0 0) Y) Zs) Y Y (lD (OL.loadO1 (t:=(tI x1.A)) (tv (T.op 0 2) Y) Y Y QQ) Y Y (mD (tS w) Y Y (mD (tN k) Y Y (lD (OL.sliceSHi (j:=k) (tv (tS w) Y) (tv (tN k) Y) Y (by first | (simp only [ByteArray.size_append,ByteArray.size_extract];omega) | omega | (simp only [List.length_map];omega) | (simp only [List.length_map,List.length_append,List.length_cons,List.length_nil,List.length_replicate,List.length_set,List.length_drop,List.length_take,Zk] at *;omega)) U9) Y Y ?_)))))))))))
   refine VRunD.quiet (bi:= [3,4,5,1,2,0]) Y VWant.always Y Y Y bn (cS (vc (tv (rd 4 Qf l) Y) (vc (tv (tI x1.A) Y) (vc (tv (tS (w.extract 0 k)) Y) vn))) (Q8 Y) (ih l x1.A (w.extract 0 k) (by first | (simp only [ByteArray.size_append,ByteArray.size_extract];omega) | assumption | omega) (by first | (simp only [ByteArray.size_append,ByteArray.size_extract];omega) | assumption | omega) (by first | (simp only [ByteArray.size_append,ByteArray.size_extract];omega) | assumption | omega) (by first | (simp only [ByteArray.size_append,ByteArray.size_extract];omega) | assumption | omega) (by first | (simp only [ByteArray.size_append,ByteArray.size_extract];omega) | assumption | omega)) Y Y) (mD (tB (decide (Yi l d x1.A (w.extract 0 k)))) Y Y ?_)
   refine gw (Yi l d x1.A (w.extract 0 k)) (fun fhg60_1=> ?_) fun fhg60_1=> ?_
   ·refine VRunD.free Y (VWant.on Y Y (dy fhg60_1)) Y (OF.move (tv (rd 4 Qf l) Y)) ?_
    refine VRunD.free Y (VWant.on Y Y (dy fhg60_1)) Y (OF.fieldAddrO (tv (T.op 0 0) Y) ZQ) (VRunD.look Y (VWant.on Y Y (dy fhg60_1)) Y (OL.loadO1 (t:=(tI x1.B)) (tv (T.op 0 3) Y) Y Y QQ) (VRunD.free Y (VWant.on Y Y (dy fhg60_1)) Y (OF.move (tv (tS w) Y)) (VRunD.free Y (VWant.on Y Y (dy fhg60_1)) Y (OF.move (tv (tN k) Y)) (VRunD.look Y (VWant.on Y Y (dy fhg60_1)) Y (OL.sliceSLo (i:=k) (tv (tS w) Y) (tv (tN k) Y) Y (by first | (simp only [ByteArray.size_append,ByteArray.size_extract];omega) | omega | (simp only [List.length_map];omega) | (simp only [List.length_map,List.length_append,List.length_cons,List.length_nil,List.length_replicate,List.length_set,List.length_drop,List.length_take,Zk] at *;omega)) U9) (VRunD.quiet (bi:= [11,12,13,9,10,7,0,2,1,5,4,3,6,8]) Y (VWant.on Y Y (dy fhg60_1)) Y Y Y bn (cS (vc (tv (rd 4 Qf l) Y) (vc (tv (tI x1.B) Y) (vc (tv (tS (w.extract k w.size)) Y) vn))) (Q8 Y) (ih l x1.B (w.extract k w.size) (by first | (simp only [ByteArray.size_append,ByteArray.size_extract];omega) | assumption | omega) (by first | (simp only [ByteArray.size_append,ByteArray.size_extract];omega) | assumption | omega) (by first | (simp only [ByteArray.size_append,ByteArray.size_extract];omega) | assumption | omega) (by first | (simp only [ByteArray.size_append,ByteArray.size_extract];omega) | assumption | omega) (by first | (simp only [ByteArray.size_append,ByteArray.size_extract];omega) | assumption | omega)) Y Y) (fD (OF.pickT (VEv.tmpB Y (dy fhg60_1)) (tv (tB (decide (Yi l d x1.B (w.extract k w.size)))) Y)) Y Y (VRunD.nil (tn ?_))))))))
    refine cd (Yi l d x1.B (w.extract k w.size)) Y (fun fhc6=> ?_) fun fhc6=> ?_
    ·refine sr ?_
     refine fO (OF.assign (VEv.bool true)) (nt (rt (vinB.r (tr (tr (vinB.r (vinB.r (tr (vb (b':=true) Y ?_)))))))))
     first | exact Qv (Qau hx1 fhc1).symm | exact Qv (Qax hx1 fhc2).symm | exact Qv (Qal hx1 hx2 fhc3).symm | exact dTr ((YD hx1 fhc4).2 ⟨k,hI1.1,fhc5,fhg60_1,fhc6⟩) | exact Yc (fun h_=>Yn hI2 fhc5 ((YD hx1 fhc4).1 h_)) | exact dTr ((YC hx1 fhc7).2 ⟨a,b,⟨hJ1.1,hK1.1,fhc9⟩,fhg93_2,fhc10⟩) | exact Yc (fun h_=>Yo hJ2 fhc8 ((YC hx1 fhc7).1 h_)) | exact Qv (Qaq hx1 hx2 fhc11).symm | exact Qv (Qao hx1 hx2 fhc12).symm | exact Qv (Qas hx1 hx2 fhc13).symm | exact Qv (Qam hx1 hx2 fhc1 fhc2 fhc3 fhc4 fhc7 fhc11 fhc12 fhc13).symm | (exfalso;omega)
    refine sk (vinB.n (tn (VRun.region (mO (tN k) Y (fO (Qx (tv (tN k) Y) (VEv.int .i64 1) (by first | (simp only [ByteArray.size_append,ByteArray.size_extract];omega) | omega)) (aO (tN (k+1)) Y (VRunO.nil (tn ?_))))))))
    refine ⟨(k+1:Nat),?_,?_,Wk.mk (fun k=>k) ?_ ?_ ?_⟩
    ·(refine ⟨?_,Qc6 hI2 (fun h_=> ?_)⟩;omega;first | (refine absurd h_.1 ?_;assumption) | (refine absurd h_.2 ?_;assumption))
    ·first | omega | (simp only [];omega) | (show _<_;omega) | (simp;omega)
    ·exact (b2 (b2 (b2 (b2 bn))))
    ·exact (b3 bn)
    ·exact nd Y
   refine oD Y Y (dz fhg60_1) Y (oD Y Y (dz fhg60_1) Y (oD Y Y (dz fhg60_1) Y (oD Y Y (dz fhg60_1) Y (oD Y Y (dz fhg60_1) Y (oD Y Y (dz fhg60_1) Y (oD Y Y (dz fhg60_1) Y (fD (OF.pickF (VEv.tmpB Y (dz fhg60_1)) (VEv.bool false)) Y Y (VRunD.nil (tn (cf Y (sk ?_)))))))))))
   refine vinB.n (tn (VRun.region (mO (tN k) Y (fO (Qx (tv (tN k) Y) (VEv.int .i64 1) (by first | (simp only [ByteArray.size_append,ByteArray.size_extract];omega) | omega)) (aO (tN (k+1)) Y (VRunO.nil (tn ?_)))))))
   refine ⟨(k+1:Nat),?_,?_,Wk.mk (fun k=>k) ?_ ?_ ?_⟩
   ·(refine ⟨?_,Qc6 hI2 (fun h_=> ?_)⟩;omega;first | (refine absurd h_.1 ?_;assumption) | (refine absurd h_.2 ?_;assumption))
   ·first | omega | (simp only [];omega) | (show _<_;omega) | (simp;omega)
   ·exact (b2 (b2 (b2 (b2 bn))))
   ·exact (b3 bn)
   ·exact nd Y
  refine VRun.exit (vthn.e (vthn.e (vinB.e (vinB.n (tn (sr (fO (OF.assign (VEv.bool false)) (nt (rt (vb (b':=false) Y ?_))))))))))
  first | exact Qv (Qau hx1 fhc1).symm | exact Qv (Qax hx1 fhc2).symm | exact Qv (Qal hx1 hx2 fhc3).symm | exact dTr ((YD hx1 fhc4).2 ⟨k,hI1.1,fhc5,fhg60_1,fhc6⟩) | exact Yc (fun h_=>Yn hI2 fhc5 ((YD hx1 fhc4).1 h_)) | exact dTr ((YC hx1 fhc7).2 ⟨a,b,⟨hJ1.1,hK1.1,fhc9⟩,fhg93_2,fhc10⟩) | exact Yc (fun h_=>Yo hJ2 fhc8 ((YC hx1 fhc7).1 h_)) | exact Qv (Qaq hx1 hx2 fhc11).symm | exact Qv (Qao hx1 hx2 fhc12).symm | exact Qv (Qas hx1 hx2 fhc13).symm | exact Qv (Qam hx1 hx2 fhc1 fhc2 fhc3 fhc4 fhc7 fhc11 fhc12 fhc13).symm | (exfalso;omega)
 refine sr (fO (Z7 (tv (tI x1.Kind) Y) (VEv.int .i64 5)) (aO (tB (decide (x1.Kind=5))) Y (nt ?_)))
 refine cd (x1.Kind=5) Y (fun fhc7=> ?_) fun fhc7=> ?_
 ·have hkB:=hkA.2 (.inr fhc7)
  refine sr (fO (OF.assign (VEv.int .i64 1)) (nt (VRun.block ?_)))
  refine VRun.loop (A:=Nat) (fun s_=> [(0,(rd 4 Qf l)),(2,(tS w)),(7,(T.op 0 0)),(10,(tN s_))]) (fun s_=>QU [(0,(Obj.cells (Qf false x1)))]) 1 (fun s_=>(1≤s_∧s_≤9)∧oNo l d x1 w s_) (fun s_=>w.size - s_) (1:Nat) ?_ (Wk.mk (fun k=>k) ?_ ?_ ?_) ?_
  ·exact ⟨⟨Nat.le_refl 1,by decide⟩,QmP l d x1 w⟩
  ·exact (b2 (b2 (b2 (b2 bn))))
  ·exact (b3 bn)
  ·exact nd Y
  rintro a (hI':(1≤a∧a≤9)∧oNo l d x1 w a)
  show VRun _ _ _ [(0,(rd 4 Qf l)),(2,(tS w)),(7,(T.op 0 0)),(10,(tN a))] (QU [(0,(Obj.cells (Qf false x1)))]) 1 _
  have hJ1:=hI'.1
  have hJ2:=hI'.2
  refine sq (sr (mO (tN a) Y (mO (tS w) Y (lO (B.lenS (tv (tS w) Y) U9) (fO (Q2 (tv (tN a) Y) (tv (tN w.size) Y)) (nt ?_))))))
  refine cd (a<w.size) Y (fun fhc8=> ?_) fun fhc8=> ?_
  ·refine sk ?_
   refine tn (sq (VRun.block (sr (mO (tN a) Y (fO (Qx (tv (tN a) Y) (VEv.int .i64 1) (by first | (simp only [ByteArray.size_append,ByteArray.size_extract];omega) | omega)) (aO (tN (a+1)) Y (nt (VRun.block ?_))))))))
   refine VRun.loop (A:=Nat) (fun s_=> [(0,(rd 4 Qf l)),(2,(tS w)),(7,(T.op 0 0)),(10,(tN a)),(11,(tN s_))]) (fun s_=>QU [(0,(Obj.cells (Qf false x1)))]) 1 (fun s_=>(a<s_∧s_≤9)∧iNo l d x1 w a s_) (fun s_=>w.size - s_) (a+1:Nat) ?_ (Wk.mk (fun k=>k) ?_ ?_ ?_) ?_
   ·exact ⟨⟨by omega,by omega⟩,QmC l d x1 w a⟩
   ·exact (b2 (b2 (b2 (b2 (b2 bn)))))
   ·exact (b3 bn)
   ·exact nd Y
   rintro b (hI':(a<b∧b≤9)∧iNo l d x1 w a b)
   show VRun _ _ _ [(0,(rd 4 Qf l)),(2,(tS w)),(7,(T.op 0 0)),(10,(tN a)),(11,(tN b))] (QU [(0,(Obj.cells (Qf false x1)))]) 1 _
   have hK1:=hI'.1
   have hK2:=hI'.2
   refine sq (sr (mO (tN b) Y (mO (tS w) Y (lO (B.lenS (tv (tS w) Y) U9) (fO (Q2 (tv (tN b) Y) (tv (tN w.size) Y)) (nt ?_))))))
   refine cd (b<w.size) Y (fun fhc9=> ?_) fun fhc9=> ?_
   ·have hwm:=QaS hw (a:=a) (b:=b) (by omega) (by omega)
    have hwo:=QhO hw (a:=a) (b:=b) (by omega) (by omega) (by omega)
    refine sk (tn (sq (VRun.block (sq (VRun.draw (B:= [[],[],[1],[],[],[],[5,4,3],[3,4,5,6,1,2,0],[0,2,1,6,5,4,3,7],[7,3,4,5,6,1,2,0,8],[7,3,4,5,6,1,2,0,8],[8,0,2,1,6,5,4,3,7,10],[7,3,4,5,6,1,2,0,8],[7,3,4,5,6,1,2,0,8],[13,8,0,2,1,6,5,4,3,7,12],[7,3,4,5,6,1,2,0,8],[7,3,4,5,6,1,2,0,8],[16,8,0,2,1,6,5,4,3,7,15],[15,16,17,12,7,3,4,5,6,1,2,0,8,13,14],[14,13,12,17,16,15,18,10,11,8,0,2,1,6,5,4,3,7,9],[9,11,10,18,15,16,17,12,13,14,19,7,3,4,5,6,1,2,0,8]]) (by kernel_rfl) (by kernel_rfl) (mD (rd 4 Qf l) Y Y (fD (OF.fieldAddrO (tv (T.op 0 0) Y) ZQ) Y Y (lD (OL.loadO1 (t:=(tI x1.B)) (tv (T.op 0 3) Y) Y Y QQ) Y Y (mD (tS w) Y Y (mD (tN a) Y Y (mD (tN b) Y Y ?_)))))))))))
    refine lD (OL.sliceS (i:=a) (j:=b) (tv (tS w) Y) (tv (tN a) Y) (tv (tN b) Y) Y Y (by first | (simp only [ByteArray.size_append,ByteArray.size_extract];omega) | omega | (simp only [List.length_map];omega) | (simp only [List.length_map,List.length_append,List.length_cons,List.length_nil,List.length_replicate,List.length_set,List.length_drop,List.length_take,Zk] at *;omega)) (by first | (simp only [ByteArray.size_append,ByteArray.size_extract];omega) | omega | (simp only [List.length_map];omega) | (simp only [List.length_map,List.length_append,List.length_cons,List.length_nil,List.length_replicate,List.length_set,List.length_drop,List.length_take,Zk] at *;omega)) U9) Y Y (VRunD.quiet (bi:= [3,4,5,6,1,2,0]) Y VWant.always Y Y Y bn (cS (vc (tv (rd 4 Qf l) Y) (vc (tv (tI x1.B) Y) (vc (tv (tS (w.extract a b)) Y) vn))) (Q8 Y) (ih l x1.B (w.extract a b) (by first | (simp only [ByteArray.size_append,ByteArray.size_extract];omega) | assumption | omega) (by first | (simp only [ByteArray.size_append,ByteArray.size_extract];omega) | assumption | omega) (by first | (simp only [ByteArray.size_append,ByteArray.size_extract];omega) | assumption | omega) (by first | (simp only [ByteArray.size_append,ByteArray.size_extract];omega) | assumption | omega) (by first | (simp only [ByteArray.size_append,ByteArray.size_extract];omega) | assumption | omega)) Y Y) (mD (tB (decide (Yi l d x1.B (w.extract a b)))) Y Y ?_))
    refine gw (Yi l d x1.B (w.extract a b)) (fun fhg93_2=> ?_) fun fhg93_2=> ?_
    ·refine VRunD.free Y (VWant.on Y Y (dy fhg93_2)) Y (OF.move (tv (rd 4 Qf l) Y)) ?_
     refine VRunD.free Y (VWant.on Y Y (dy fhg93_2)) Y (OF.fieldAddrO (tv (T.op 0 0) Y) Zs) (VRunD.look Y (VWant.on Y Y (dy fhg93_2)) Y (OL.loadO1 (t:=(tI x1.A)) (tv (T.op 0 2) Y) Y Y QQ) (VRunD.free Y (VWant.on Y Y (dy fhg93_2)) Y (OF.move (tv (tS w) Y)) (VRunD.free Y (VWant.on Y Y (dy fhg93_2)) Y (OF.move (tv (tN a) Y)) (VRunD.look Y (VWant.on Y Y (dy fhg93_2)) Y (OL.sliceSHi (j:=a) (tv (tS w) Y) (tv (tN a) Y) Y (by first | (simp only [ByteArray.size_append,ByteArray.size_extract];omega) | omega | (simp only [List.length_map];omega) | (simp only [List.length_map,List.length_append,List.length_cons,List.length_nil,List.length_replicate,List.length_set,List.length_drop,List.length_take,Zk] at *;omega)) U9) (VRunD.free Y (VWant.on Y Y (dy fhg93_2)) Y (OF.move (tv (tS w) Y)) (VRunD.free Y (VWant.on Y Y (dy fhg93_2)) Y (OF.move (tv (tN b) Y)) (VRunD.look Y (VWant.on Y Y (dy fhg93_2)) Y (OL.sliceSLo (i:=b) (tv (tS w) Y) (tv (tN b) Y) Y (by first | (simp only [ByteArray.size_append,ByteArray.size_extract];omega) | omega | (simp only [List.length_map];omega) | (simp only [List.length_map,List.length_append,List.length_cons,List.length_nil,List.length_replicate,List.length_set,List.length_drop,List.length_take,Zk] at *;omega)) U9) (VRunD.free Y (VWant.on Y Y (dy fhg93_2)) Y (B.sadd (tv (tS (w.extract 0 a)) Y) (tv (tS (w.extract b w.size)) Y) (by first | (simp only [ByteArray.size_append,ByteArray.size_extract];omega) | omega | (simp only [List.length_map];omega) | (simp only [List.length_map,List.length_append,List.length_cons,List.length_nil,List.length_replicate,List.length_set,List.length_drop,List.length_take,Zk] at *;omega))) (VRunD.quiet (bi:= [14,13,12,17,16,15,18,10,11,8,0,2,1,6,5,4,3,7,9]) Y (VWant.on Y Y (dy fhg93_2)) Y Y Y bn (cS (vc (tv (rd 4 Qf l) Y) (vc (tv (tI x1.A) Y) (vc (tv (tS ((w.extract 0 a)++(w.extract b w.size))) Y) vn))) (Q8 Y) (ih l x1.A ((w.extract 0 a)++(w.extract b w.size)) (by first | (simp only [ByteArray.size_append,ByteArray.size_extract];omega) | assumption | omega) (by first | (simp only [ByteArray.size_append,ByteArray.size_extract];omega) | assumption | omega) (by first | (simp only [ByteArray.size_append,ByteArray.size_extract];omega) | assumption | omega) (by first | (simp only [ByteArray.size_append,ByteArray.size_extract];omega) | assumption | omega) (by first | (simp only [ByteArray.size_append,ByteArray.size_extract];omega) | assumption | omega)) Y Y) (fD (OF.pickT (VEv.tmpB Y (dy fhg93_2)) (tv (tB (decide (Yi l d x1.A ((w.extract 0 a)++(w.extract b w.size))))) Y)) Y Y (VRunD.nil ?_)))))))))))
     refine tn ?_
     refine cd (Yi l d x1.A ((w.extract 0 a)++(w.extract b w.size))) Y (fun fhc10=> ?_) fun fhc10=> ?_
     ·refine sr ?_
      refine fO (OF.assign (VEv.bool true)) (nt (rt (vinB.r (tr (tr (vinB.r (vinB.r (tr (tr (vinB.r (vinB.r ?_)))))))))))
      refine tr (vb (b':=true) Y ?_)
      first | exact Qv (Qau hx1 fhc1).symm | exact Qv (Qax hx1 fhc2).symm | exact Qv (Qal hx1 hx2 fhc3).symm | exact dTr ((YD hx1 fhc4).2 ⟨k,hI1.1,fhc5,fhg60_1,fhc6⟩) | exact Yc (fun h_=>Yn hI2 fhc5 ((YD hx1 fhc4).1 h_)) | exact dTr ((YC hx1 fhc7).2 ⟨a,b,⟨hJ1.1,hK1.1,fhc9⟩,fhg93_2,fhc10⟩) | exact Yc (fun h_=>Yo hJ2 fhc8 ((YC hx1 fhc7).1 h_)) | exact Qv (Qaq hx1 hx2 fhc11).symm | exact Qv (Qao hx1 hx2 fhc12).symm | exact Qv (Qas hx1 hx2 fhc13).symm | exact Qv (Qam hx1 hx2 fhc1 fhc2 fhc3 fhc4 fhc7 fhc11 fhc12 fhc13).symm | (exfalso;omega)
     refine sk (vinB.n (tn (VRun.region (mO (tN b) Y (fO (Qx (tv (tN b) Y) (VEv.int .i64 1) (by first | (simp only [ByteArray.size_append,ByteArray.size_extract];omega) | omega)) (aO (tN (b+1)) Y (VRunO.nil (tn ?_))))))))
     refine ⟨(b+1:Nat),?_,?_,Wk.mk (fun k=>k) ?_ ?_ ?_⟩
     ·(refine ⟨?_,QcJ hK2 (fun h_=> ?_)⟩;omega;first | (refine absurd h_.1 ?_;assumption) | (refine absurd h_.2 ?_;assumption))
     ·first | omega | (simp only [];omega) | (show _<_;omega) | (simp;omega)
     ·exact (b2 (b2 (b2 (b2 (b2 bn)))))
     ·exact (b3 bn)
     ·exact nd Y
    refine oD Y Y (dz fhg93_2) Y (oD Y Y (dz fhg93_2) Y (oD Y Y (dz fhg93_2) Y (oD Y Y (dz fhg93_2) Y (oD Y Y (dz fhg93_2) Y (oD Y Y (dz fhg93_2) Y (oD Y Y (dz fhg93_2) Y (oD Y Y (dz fhg93_2) Y (oD Y Y (dz fhg93_2) Y (oD Y Y (dz fhg93_2) Y (oD Y Y (dz fhg93_2) Y (fD (OF.pickF (VEv.tmpB Y (dz fhg93_2)) (VEv.bool false)) Y Y ?_)))))))))))
    refine VRunD.nil (tn (cf Y (sk (vinB.n (tn (VRun.region (mO (tN b) Y (fO (Qx (tv (tN b) Y) (VEv.int .i64 1) (by first | (simp only [ByteArray.size_append,ByteArray.size_extract];omega) | omega)) (aO (tN (b+1)) Y (VRunO.nil (tn ?_)))))))))))
    refine ⟨(b+1:Nat),?_,?_,Wk.mk (fun k=>k) ?_ ?_ ?_⟩
    ·(refine ⟨?_,QcJ hK2 (fun h_=> ?_)⟩;omega;first | (refine absurd h_.1 ?_;assumption) | (refine absurd h_.2 ?_;assumption))
    ·first | omega | (simp only [];omega) | (show _<_;omega) | (simp;omega)
    ·exact (b2 (b2 (b2 (b2 (b2 bn)))))
    ·exact (b3 bn)
    ·exact nd Y
   refine VRun.exit (vthn.e (vthn.e (vinB.e (vinB.n (tn (VRun.region (mO (tN a) Y (fO (Qx (tv (tN a) Y) (VEv.int .i64 1) (by first | (simp only [ByteArray.size_append,ByteArray.size_extract];omega) | omega)) (aO (tN (a+1)) Y (VRunO.nil (tn ?_)))))))))))
   refine ⟨(a+1:Nat),?_,?_,Wk.mk (fun k=>k) ?_ ?_ ?_⟩
   ·(refine ⟨?_,Qix hJ2 hK2 ?_⟩<;>omega)
   ·first | omega | (simp only [];omega) | (show _<_;omega) | (simp;omega)
   ·exact (b2 (b2 (b2 (b2 bn))))
   ·exact (b3 bn)
   ·exact nd Y
  refine VRun.exit (vthn.e (vthn.e (vinB.e (vinB.n (tn (sr (fO (OF.assign (VEv.bool false)) (nt (rt (vb (b':=false) Y ?_))))))))))
  first | exact Qv (Qau hx1 fhc1).symm | exact Qv (Qax hx1 fhc2).symm | exact Qv (Qal hx1 hx2 fhc3).symm | exact dTr ((YD hx1 fhc4).2 ⟨k,hI1.1,fhc5,fhg60_1,fhc6⟩) | exact Yc (fun h_=>Yn hI2 fhc5 ((YD hx1 fhc4).1 h_)) | exact dTr ((YC hx1 fhc7).2 ⟨a,b,⟨hJ1.1,hK1.1,fhc9⟩,fhg93_2,fhc10⟩) | exact Yc (fun h_=>Yo hJ2 fhc8 ((YC hx1 fhc7).1 h_)) | exact Qv (Qaq hx1 hx2 fhc11).symm | exact Qv (Qao hx1 hx2 fhc12).symm | exact Qv (Qas hx1 hx2 fhc13).symm | exact Qv (Qam hx1 hx2 fhc1 fhc2 fhc3 fhc4 fhc7 fhc11 fhc12 fhc13).symm | (exfalso;omega)
 refine sr (fO (Z7 (tv (tI x1.Kind) Y) (VEv.int .i64 6)) (aO (tB (decide (x1.Kind=6))) Y (nt ?_)))
 refine cd (x1.Kind=6) Y (fun fhc11=> ?_) fun fhc11=> ?_
 ·refine sr ?_
  refine mO (tS w) Y (mO (tS x2.Word) Y (cO (cS (vc (tv (tS x2.Word) Y) vn) (Q8 Y) (Qgi (n+d+4) x2.Word (by first | (simp only [ByteArray.size_append,ByteArray.size_extract];omega) | assumption | omega)) Y Y) (fO (B.seql (c:=(decide (w=hdS x2.Word))) (tv (tS w) Y) (tv (tS (hdS x2.Word)) Y) Y) (aO (tB (decide (w=hdS x2.Word))) Y (nt (rt (vinB.r (tr (vb (b':=(decide (w=hdS x2.Word))) Y ?_)))))))))
  first | exact Qv (Qau hx1 fhc1).symm | exact Qv (Qax hx1 fhc2).symm | exact Qv (Qal hx1 hx2 fhc3).symm | exact dTr ((YD hx1 fhc4).2 ⟨k,hI1.1,fhc5,fhg60_1,fhc6⟩) | exact Yc (fun h_=>Yn hI2 fhc5 ((YD hx1 fhc4).1 h_)) | exact dTr ((YC hx1 fhc7).2 ⟨a,b,⟨hJ1.1,hK1.1,fhc9⟩,fhg93_2,fhc10⟩) | exact Yc (fun h_=>Yo hJ2 fhc8 ((YC hx1 fhc7).1 h_)) | exact Qv (Qaq hx1 hx2 fhc11).symm | exact Qv (Qao hx1 hx2 fhc12).symm | exact Qv (Qas hx1 hx2 fhc13).symm | exact Qv (Qam hx1 hx2 fhc1 fhc2 fhc3 fhc4 fhc7 fhc11 fhc12 fhc13).symm | (exfalso;omega)
 refine sr (fO (Z7 (tv (tI x1.Kind) Y) (VEv.int .i64 7)) (aO (tB (decide (x1.Kind=7))) Y (nt ?_)))
 refine cd (x1.Kind=7) Y (fun fhc12=> ?_) fun fhc12=> ?_
 ·refine sr ?_
  refine mO (tS w) Y (mO (tS x2.Word) Y (cO (cS (vc (tv (tS x2.Word) Y) vn) (Q8 Y) (QcD (n+d+4) x2.Word (by first | (simp only [ByteArray.size_append,ByteArray.size_extract];omega) | assumption | omega)) Y Y) (fO (B.seql (c:=(decide (w=nhS x2.Word))) (tv (tS w) Y) (tv (tS (nhS x2.Word)) Y) Y) (aO (tB (decide (w=nhS x2.Word))) Y (nt (rt (vinB.r (tr (vb (b':=(decide (w=nhS x2.Word))) Y ?_)))))))))
  first | exact Qv (Qau hx1 fhc1).symm | exact Qv (Qax hx1 fhc2).symm | exact Qv (Qal hx1 hx2 fhc3).symm | exact dTr ((YD hx1 fhc4).2 ⟨k,hI1.1,fhc5,fhg60_1,fhc6⟩) | exact Yc (fun h_=>Yn hI2 fhc5 ((YD hx1 fhc4).1 h_)) | exact dTr ((YC hx1 fhc7).2 ⟨a,b,⟨hJ1.1,hK1.1,fhc9⟩,fhg93_2,fhc10⟩) | exact Yc (fun h_=>Yo hJ2 fhc8 ((YC hx1 fhc7).1 h_)) | exact Qv (Qaq hx1 hx2 fhc11).symm | exact Qv (Qao hx1 hx2 fhc12).symm | exact Qv (Qas hx1 hx2 fhc13).symm | exact Qv (Qam hx1 hx2 fhc1 fhc2 fhc3 fhc4 fhc7 fhc11 fhc12 fhc13).symm | (exfalso;omega)
 refine sr (fO (Z7 (tv (tI x1.Kind) Y) (VEv.int .i64 8)) (aO (tB (decide (x1.Kind=8))) Y (nt ?_)))
 refine cd (x1.Kind=8) Y (fun fhc13=> ?_) fun fhc13=> ?_
 ·refine sr ?_
  refine mO (tS w) Y (mO (tS x2.Word) Y (cO (cS (vc (tv (tS x2.Word) Y) vn) (Q8 Y) (Qcv (n+d+4) x2.Word (by first | (simp only [ByteArray.size_append,ByteArray.size_extract];omega) | assumption | omega)) Y Y) (fO (B.seql (c:=(decide (w=ntS x2.Word))) (tv (tS w) Y) (tv (tS (ntS x2.Word)) Y) Y) (aO (tB (decide (w=ntS x2.Word))) Y (nt (rt (vinB.r (tr (vb (b':=(decide (w=ntS x2.Word))) Y ?_)))))))))
  first | exact Qv (Qau hx1 fhc1).symm | exact Qv (Qax hx1 fhc2).symm | exact Qv (Qal hx1 hx2 fhc3).symm | exact dTr ((YD hx1 fhc4).2 ⟨k,hI1.1,fhc5,fhg60_1,fhc6⟩) | exact Yc (fun h_=>Yn hI2 fhc5 ((YD hx1 fhc4).1 h_)) | exact dTr ((YC hx1 fhc7).2 ⟨a,b,⟨hJ1.1,hK1.1,fhc9⟩,fhg93_2,fhc10⟩) | exact Yc (fun h_=>Yo hJ2 fhc8 ((YC hx1 fhc7).1 h_)) | exact Qv (Qaq hx1 hx2 fhc11).symm | exact Qv (Qao hx1 hx2 fhc12).symm | exact Qv (Qas hx1 hx2 fhc13).symm | exact Qv (Qam hx1 hx2 fhc1 fhc2 fhc3 fhc4 fhc7 fhc11 fhc12 fhc13).symm | (exfalso;omega)
 refine sr (fO (Z7 (tv (tI x1.Kind) Y) (VEv.int .i64 9)) (aO (tB (decide (x1.Kind=9))) Y (nt ?_)))
 refine cd (x1.Kind=9) Y (fun fhc14=> ?_) fun fhc14=> ?_
 ·refine sr ?_
  refine mO (tS w) Y (mO (tS x2.Word) Y (cO (cS (vc (tv (tS w) Y) (vc (tv (tS x2.Word) Y) vn)) (Q8 Y) (Qer (n+d+4) w x2.Word (by first | (simp only [ByteArray.size_append,ByteArray.size_extract];omega) | assumption | omega) (by first | (simp only [ByteArray.size_append,ByteArray.size_extract];omega) | assumption | omega)) Y Y) (aO (tB (decide (QdV w x2.Word))) Y (nt (rt (vinB.r (tr (vb (b':=(decide (QdV w x2.Word))) Y ?_))))))))
  first | exact Qv (Qau hx1 fhc1).symm | exact Qv (Qax hx1 fhc2).symm | exact Qv (Qal hx1 hx2 fhc3).symm | exact dTr ((YD hx1 fhc4).2 ⟨k,hI1.1,fhc5,fhg60_1,fhc6⟩) | exact Yc (fun h_=>Yn hI2 fhc5 ((YD hx1 fhc4).1 h_)) | exact dTr ((YC hx1 fhc7).2 ⟨a,b,⟨hJ1.1,hK1.1,fhc9⟩,fhg93_2,fhc10⟩) | exact Yc (fun h_=>Yo hJ2 fhc8 ((YC hx1 fhc7).1 h_)) | exact Qv (Qaq hx1 hx2 fhc11).symm | exact Qv (Qao hx1 hx2 fhc12).symm | exact Qv (Qas hx1 hx2 fhc13).symm | exact Qv (Qam hx1 hx2 fhc1 fhc2 fhc3 fhc4 fhc7 fhc11 fhc12 fhc13).symm | (exfalso;omega)
 refine sk (vinB.n (tn (sr (fO (OF.assign (VEv.bool false)) (nt (rt (vb (b':=false) Y ?_)))))))
 first | exact Qv (Qau hx1 fhc1).symm | exact Qv (Qax hx1 fhc2).symm | exact Qv (Qal hx1 hx2 fhc3).symm | exact dTr ((YD hx1 fhc4).2 ⟨k,hI1.1,fhc5,fhg60_1,fhc6⟩) | exact Yc (fun h_=>Yn hI2 fhc5 ((YD hx1 fhc4).1 h_)) | exact dTr ((YC hx1 fhc7).2 ⟨a,b,⟨hJ1.1,hK1.1,fhc9⟩,fhg93_2,fhc10⟩) | exact Yc (fun h_=>Yo hJ2 fhc8 ((YC hx1 fhc7).1 h_)) | exact Qv (Qaq hx1 hx2 fhc11).symm | exact Qv (Qao hx1 hx2 fhc12).symm | exact Qv (Qas hx1 hx2 fhc13).symm | exact Qv (Qam hx1 hx2 fhc1 fhc2 fhc3 fhc4 fhc7 fhc11 fhc12 fhc13).symm | (exfalso;omega)
noncomputable section
def jEx (l:List D.Step) (d:Nat) (x:D.Step) (w:ByteArray):Prop:=∃m,1≤m∧m<w.size∧Yi l d x.A (w.extract 0 m)∧Yi l d x.B (w.extract m w.size)
def iEx (l:List D.Step) (d:Nat) (x:D.Step) (w:ByteArray):Prop:=∃a b,(1≤a∧a<b∧b<w.size)∧Yi l d x.B (w.extract a b)∧Yi l d x.A (w.extract 0 a++w.extract b w.size)
instance (l:List D.Step) (d:Nat) (x:D.Step) (w:ByteArray):Decidable (jEx l d x w):=Classical.propDecidable _
instance (l:List D.Step) (d:Nat) (x:D.Step) (w:ByteArray):Decidable (iEx l d x w):=Classical.propDecidable _
theorem Yp {p:Prop} [Decidable p] {a b:ByteArray} (h:p↔b=a):decide (a=b)=decide p:=decide_eq_decide.2 ⟨fun e=>h.2 e.symm,fun e=>(h.1 e).symm⟩
def QdR (l:List D.Step) (w:ByteArray):Prop:=(QR l∧Ql w)∧Yi l 9 (((l.length:Nat):Int) - 1) w
instance (l:List D.Step) (w:ByteArray):Decidable (QdR l w):=Classical.propDecidable _
end
theorem Qfl (n:Nat) (d:Nat) (hM:∀(l:List D.Step) (i:Int) (w:ByteArray) (hp:QR l) (hz:zL Ze l≤mx) (hd:d≤9) (hi:0≤i∧i<(d:Int)∧i<(l.length:Int)) (hw:Ql w),Pure (Qq Tryz.prog n) 123 [(rd 4 Qf l),(tI i),(tS w)] (tB (decide (Yi l d i w)))) (l:List D.Step) (x:D.Step) (w:ByteArray) (hp:QR l) (hz:zL Ze l≤mx) (hd:d≤9) (ha:0≤x.A∧x.A<(d:Int)∧x.A<(l.length:Int)) (hb:0≤x.B∧x.B<(d:Int)∧x.B<(l.length:Int)) (hw:Ql w):Pure (Qq Tryz.prog (n+1)) 152 [(rd 4 Qf l),(T.agg (Qf false x)),(tS w)] (tB (decide (jEx l d x w))):=by
 refine Pure.intro (rs:= [ResultVar.tmp 6]) Tryz.func152 Y Y Y (E0:= [(0,(rd 4 Qf l)),(1,(T.agg (Qf false x))),(2,(tS w))]) Y ?_
 obtain ⟨hlim,hmx,hmax⟩:=QC
 have hw8:=hw.1
 refine sr (kO (B.box (ts:=(Qf false x)) (tv (T.agg (Qf false x)) Y) nofun Y) (fO (OF.assign (VEv.bool false)) (nt (sq (sr (fO (OF.assign (VEv.int .i64 1)) (nt (VRun.block ?_))))))))
 refine VRun.loop (A:=Nat) (fun s_=> [(0,(rd 4 Qf l)),(2,(tS w)),(4,(T.op 0 0)),(7,(tN s_))]) (fun s_=>QU [(0,(Obj.cells (Qf false x)))]) 1 (fun s_=>(1≤s_∧s_≤9)∧jNo l d x w s_) (fun s_=>w.size - s_) (1:Nat) ?_ (Wk.mk (fun k=>k) ?_ ?_ ?_) ?_
 ·exact ⟨⟨Nat.le_refl 1,by decide⟩,QmN l d x w⟩
 ·exact (b2 (b2 (b2 (b2 bn))))
 ·exact (b3 bn)
 ·exact nd Y
 rintro k (hI':(1≤k∧k≤9)∧jNo l d x w k)
 show VRun _ _ _ [(0,(rd 4 Qf l)),(2,(tS w)),(4,(T.op 0 0)),(7,(tN k))] (QU [(0,(Obj.cells (Qf false x)))]) 1 _
 have hI1:=hI'.1
 have hI2:=hI'.2
 refine sq (sr (mO (tN k) Y (mO (tS w) Y (lO (B.lenS (tv (tS w) Y) U9) (fO (Q2 (tv (tN k) Y) (tv (tN w.size) Y)) (nt ?_))))))
 refine cd (k<w.size) Y (fun fhc0=> ?_) fun fhc0=> ?_
 ·have hwl:=QaS hw (a:=0) (b:=k) (by omega) (by omega)
  have hwr:=QaS hw (a:=k) (b:=w.size) (by omega) (by omega)
  refine sk (tn (sq (VRun.block (sq (VRun.draw (B:= [[],[],[1],[],[],[4,3],[3,4,5,1,2,0],[0,2,1,5,4,3,6],[6,3,4,5,1,2,0,7],[6,3,4,5,1,2,0,7],[7,0,2,1,5,4,3,6,9],[6,3,4,5,1,2,0,7],[6,3,4,5,1,2,0,7],[12,7,0,2,1,5,4,3,6,11],[11,12,13,9,10,7,0,2,1,5,4,3,6,8],[8,10,9,13,12,11,14,6,3,4,5,1,2,0,7]]) (by kernel_rfl) (by kernel_rfl) (mD (rd 4 Qf l) Y Y (fD (OF.fieldAddrO (tv (T.op 0 0) Y) Zs) Y Y (lD (OL.loadO1 (t:=(tI x.A)) (tv (T.op 0 2) Y) Y Y QQ) Y Y (mD (tS w) Y Y (mD (tN k) Y Y (lD (OL.sliceSHi (j:=k) (tv (tS w) Y) (tv (tN k) Y) Y (by first | omega | (simp only [List.length_map];omega) | (simp only [List.length_map,List.length_append,List.length_cons,List.length_nil,List.length_replicate,List.length_set,List.length_drop,List.length_take,Zk] at *;omega)) U9) Y Y ?_)))))))))))
  refine VRunD.quiet (bi:= [3,4,5,1,2,0]) Y VWant.always Y Y Y bn (cS (vc (tv (rd 4 Qf l) Y) (vc (tv (tI x.A) Y) (vc (tv (tS (w.extract 0 k)) Y) vn))) (Q8 Y) (hM l x.A (w.extract 0 k) (by first | assumption | omega) (by first | assumption | omega) (by first | assumption | omega) (by first | assumption | omega) (by first | assumption | omega)) Y Y) (mD (tB (decide (Yi l d x.A (w.extract 0 k)))) Y Y ?_)
  refine gw (Yi l d x.A (w.extract 0 k)) (fun fhg21_1=> ?_) fun fhg21_1=> ?_
  ·refine VRunD.free Y (VWant.on Y Y (dy fhg21_1)) Y (OF.move (tv (rd 4 Qf l) Y)) ?_
   refine VRunD.free Y (VWant.on Y Y (dy fhg21_1)) Y (OF.fieldAddrO (tv (T.op 0 0) Y) ZQ) (VRunD.look Y (VWant.on Y Y (dy fhg21_1)) Y (OL.loadO1 (t:=(tI x.B)) (tv (T.op 0 3) Y) Y Y QQ) (VRunD.free Y (VWant.on Y Y (dy fhg21_1)) Y (OF.move (tv (tS w) Y)) (VRunD.free Y (VWant.on Y Y (dy fhg21_1)) Y (OF.move (tv (tN k) Y)) (VRunD.look Y (VWant.on Y Y (dy fhg21_1)) Y (OL.sliceSLo (i:=k) (tv (tS w) Y) (tv (tN k) Y) Y (by first | omega | (simp only [List.length_map];omega) | (simp only [List.length_map,List.length_append,List.length_cons,List.length_nil,List.length_replicate,List.length_set,List.length_drop,List.length_take,Zk] at *;omega)) U9) (VRunD.quiet (bi:= [11,12,13,9,10,7,0,2,1,5,4,3,6,8]) Y (VWant.on Y Y (dy fhg21_1)) Y Y Y bn (cS (vc (tv (rd 4 Qf l) Y) (vc (tv (tI x.B) Y) (vc (tv (tS (w.extract k w.size)) Y) vn))) (Q8 Y) (hM l x.B (w.extract k w.size) (by first | assumption | omega) (by first | assumption | omega) (by first | assumption | omega) (by first | assumption | omega) (by first | assumption | omega)) Y Y) (fD (OF.pickT (VEv.tmpB Y (dy fhg21_1)) (tv (tB (decide (Yi l d x.B (w.extract k w.size)))) Y)) Y Y (VRunD.nil (tn ?_))))))))
   refine cd (Yi l d x.B (w.extract k w.size)) Y (fun fhc1=> ?_) fun fhc1=> ?_
   ·refine sr ?_
    refine fO (OF.assign (VEv.bool true)) (nt (rt (vinB.r (tr (tr (vinB.r (tr (vb (b':=true) Y ?_))))))))
    first | exact dTr ⟨k,hI1.1,fhc0,fhg21_1,fhc1⟩ | exact Yc (fun h_=>Yn hI2 fhc0 h_)
   refine sk (vinB.n (tn (VRun.region (mO (tN k) Y (fO (Qx (tv (tN k) Y) (VEv.int .i64 1) (by omega)) (aO (tN (k+1)) Y (VRunO.nil (tn ?_))))))))
   refine ⟨(k+1:Nat),?_,?_,Wk.mk (fun k=>k) ?_ ?_ ?_⟩
   ·(refine ⟨?_,Qc6 hI2 (fun h_=> ?_)⟩;omega;first | (refine absurd h_.1 ?_;assumption) | (refine absurd h_.2 ?_;assumption))
   ·first | omega | (simp only [];omega) | (show _<_;omega) | (simp;omega)
   ·exact (b2 (b2 (b2 (b2 bn))))
   ·exact (b3 bn)
   ·exact nd Y
  refine oD Y Y (dz fhg21_1) Y (oD Y Y (dz fhg21_1) Y (oD Y Y (dz fhg21_1) Y (oD Y Y (dz fhg21_1) Y (oD Y Y (dz fhg21_1) Y (oD Y Y (dz fhg21_1) Y (oD Y Y (dz fhg21_1) Y (fD (OF.pickF (VEv.tmpB Y (dz fhg21_1)) (VEv.bool false)) Y Y (VRunD.nil (tn (cf Y (sk ?_)))))))))))
  refine vinB.n (tn (VRun.region (mO (tN k) Y (fO (Qx (tv (tN k) Y) (VEv.int .i64 1) (by omega)) (aO (tN (k+1)) Y (VRunO.nil (tn ?_)))))))
  refine ⟨(k+1:Nat),?_,?_,Wk.mk (fun k=>k) ?_ ?_ ?_⟩
  ·(refine ⟨?_,Qc6 hI2 (fun h_=> ?_)⟩;omega;first | (refine absurd h_.1 ?_;assumption) | (refine absurd h_.2 ?_;assumption))
  ·first | omega | (simp only [];omega) | (show _<_;omega) | (simp;omega)
  ·exact (b2 (b2 (b2 (b2 bn))))
  ·exact (b3 bn)
  ·exact nd Y
 refine VRun.exit (vthn.e (vthn.e (vinB.e (tn (sr (fO (OF.assign (VEv.bool false)) (nt (rt (vb (b':=false) Y ?_)))))))))
 first | exact dTr ⟨k,hI1.1,fhc0,fhg21_1,fhc1⟩ | exact Yc (fun h_=>Yn hI2 fhc0 h_)
theorem QgW (n:Nat) (d:Nat) (hM:∀(l:List D.Step) (i:Int) (w:ByteArray) (hp:QR l) (hz:zL Ze l≤mx) (hd:d≤9) (hi:0≤i∧i<(d:Int)∧i<(l.length:Int)) (hw:Ql w),Pure (Qq Tryz.prog n) 123 [(rd 4 Qf l),(tI i),(tS w)] (tB (decide (Yi l d i w)))) (l:List D.Step) (x:D.Step) (w:ByteArray) (hp:QR l) (hz:zL Ze l≤mx) (hd:d≤9) (ha:0≤x.A∧x.A<(d:Int)∧x.A<(l.length:Int)) (hb:0≤x.B∧x.B<(d:Int)∧x.B<(l.length:Int)) (hw:Ql w):Pure (Qq Tryz.prog (n+1)) 153 [(rd 4 Qf l),(T.agg (Qf false x)),(tS w)] (tB (decide (iEx l d x w))):=by
 refine Pure.intro (rs:= [ResultVar.tmp 6]) Tryz.func153 Y Y Y (E0:= [(0,(rd 4 Qf l)),(1,(T.agg (Qf false x))),(2,(tS w))]) Y ?_
 obtain ⟨hlim,hmx,hmax⟩:=QC
 have hw8:=hw.1
 refine sr (kO (B.box (ts:=(Qf false x)) (tv (T.agg (Qf false x)) Y) nofun Y) (fO (OF.assign (VEv.bool false)) (nt (sq (sr (fO (OF.assign (VEv.int .i64 1)) (nt (VRun.block ?_))))))))
 refine VRun.loop (A:=Nat) (fun s_=> [(0,(rd 4 Qf l)),(2,(tS w)),(4,(T.op 0 0)),(7,(tN s_))]) (fun s_=>QU [(0,(Obj.cells (Qf false x)))]) 1 (fun s_=>(1≤s_∧s_≤9)∧oNo l d x w s_) (fun s_=>w.size - s_) (1:Nat) ?_ (Wk.mk (fun k=>k) ?_ ?_ ?_) ?_
 ·exact ⟨⟨Nat.le_refl 1,by decide⟩,QmP l d x w⟩
 ·exact (b2 (b2 (b2 (b2 bn))))
 ·exact (b3 bn)
 ·exact nd Y
 rintro a (hI':(1≤a∧a≤9)∧oNo l d x w a)
 show VRun _ _ _ [(0,(rd 4 Qf l)),(2,(tS w)),(4,(T.op 0 0)),(7,(tN a))] (QU [(0,(Obj.cells (Qf false x)))]) 1 _
 have hJ1:=hI'.1
 have hJ2:=hI'.2
 refine sq (sr (mO (tN a) Y (mO (tS w) Y (lO (B.lenS (tv (tS w) Y) U9) (fO (Q2 (tv (tN a) Y) (tv (tN w.size) Y)) (nt ?_))))))
 refine cd (a<w.size) Y (fun fhc0=> ?_) fun fhc0=> ?_
 ·refine sk ?_
  refine tn (sq (VRun.block (sr (mO (tN a) Y (fO (Qx (tv (tN a) Y) (VEv.int .i64 1) (by first | (simp only [ByteArray.size_append,ByteArray.size_extract];omega) | omega)) (aO (tN (a+1)) Y (nt (VRun.block ?_))))))))
  refine VRun.loop (A:=Nat) (fun s_=> [(0,(rd 4 Qf l)),(2,(tS w)),(4,(T.op 0 0)),(7,(tN a)),(8,(tN s_))]) (fun s_=>QU [(0,(Obj.cells (Qf false x)))]) 1 (fun s_=>(a<s_∧s_≤9)∧iNo l d x w a s_) (fun s_=>w.size - s_) (a+1:Nat) ?_ (Wk.mk (fun k=>k) ?_ ?_ ?_) ?_
  ·exact ⟨⟨by omega,by omega⟩,QmC l d x w a⟩
  ·exact (b2 (b2 (b2 (b2 (b2 bn)))))
  ·exact (b3 bn)
  ·exact nd Y
  rintro b (hI':(a<b∧b≤9)∧iNo l d x w a b)
  show VRun _ _ _ [(0,(rd 4 Qf l)),(2,(tS w)),(4,(T.op 0 0)),(7,(tN a)),(8,(tN b))] (QU [(0,(Obj.cells (Qf false x)))]) 1 _
  have hK1:=hI'.1
  have hK2:=hI'.2
  refine sq (sr (mO (tN b) Y (mO (tS w) Y (lO (B.lenS (tv (tS w) Y) U9) (fO (Q2 (tv (tN b) Y) (tv (tN w.size) Y)) (nt ?_))))))
  refine cd (b<w.size) Y (fun fhc1=> ?_) fun fhc1=> ?_
  ·have hwm:=QaS hw (a:=a) (b:=b) (by omega) (by omega)
   have hwo:=QhO hw (a:=a) (b:=b) (by omega) (by omega) (by omega)
   refine sk (tn (sq (VRun.block (sq (VRun.draw (B:= [[],[],[1],[],[],[],[5,4,3],[3,4,5,6,1,2,0],[0,2,1,6,5,4,3,7],[7,3,4,5,6,1,2,0,8],[7,3,4,5,6,1,2,0,8],[8,0,2,1,6,5,4,3,7,10],[7,3,4,5,6,1,2,0,8],[7,3,4,5,6,1,2,0,8],[13,8,0,2,1,6,5,4,3,7,12],[7,3,4,5,6,1,2,0,8],[7,3,4,5,6,1,2,0,8],[16,8,0,2,1,6,5,4,3,7,15],[15,16,17,12,7,3,4,5,6,1,2,0,8,13,14],[14,13,12,17,16,15,18,10,11,8,0,2,1,6,5,4,3,7,9],[9,11,10,18,15,16,17,12,13,14,19,7,3,4,5,6,1,2,0,8]]) (by kernel_rfl) (by kernel_rfl) (mD (rd 4 Qf l) Y Y (fD (OF.fieldAddrO (tv (T.op 0 0) Y) ZQ) Y Y (lD (OL.loadO1 (t:=(tI x.B)) (tv (T.op 0 3) Y) Y Y QQ) Y Y (mD (tS w) Y Y (mD (tN a) Y Y (mD (tN b) Y Y ?_)))))))))))
   refine lD (OL.sliceS (i:=a) (j:=b) (tv (tS w) Y) (tv (tN a) Y) (tv (tN b) Y) Y Y (by first | (simp only [ByteArray.size_append,ByteArray.size_extract];omega) | omega | (simp only [List.length_map];omega) | (simp only [List.length_map,List.length_append,List.length_cons,List.length_nil,List.length_replicate,List.length_set,List.length_drop,List.length_take,Zk] at *;omega)) (by first | (simp only [ByteArray.size_append,ByteArray.size_extract];omega) | omega | (simp only [List.length_map];omega) | (simp only [List.length_map,List.length_append,List.length_cons,List.length_nil,List.length_replicate,List.length_set,List.length_drop,List.length_take,Zk] at *;omega)) U9) Y Y (VRunD.quiet (bi:= [3,4,5,6,1,2,0]) Y VWant.always Y Y Y bn (cS (vc (tv (rd 4 Qf l) Y) (vc (tv (tI x.B) Y) (vc (tv (tS (w.extract a b)) Y) vn))) (Q8 Y) (hM l x.B (w.extract a b) (by first | (simp only [ByteArray.size_append,ByteArray.size_extract];omega) | assumption | omega) (by first | (simp only [ByteArray.size_append,ByteArray.size_extract];omega) | assumption | omega) (by first | (simp only [ByteArray.size_append,ByteArray.size_extract];omega) | assumption | omega) (by first | (simp only [ByteArray.size_append,ByteArray.size_extract];omega) | assumption | omega) (by first | (simp only [ByteArray.size_append,ByteArray.size_extract];omega) | assumption | omega)) Y Y) (mD (tB (decide (Yi l d x.B (w.extract a b)))) Y Y ?_))
   refine gw (Yi l d x.B (w.extract a b)) (fun fhg31_1=> ?_) fun fhg31_1=> ?_
   ·refine VRunD.free Y (VWant.on Y Y (dy fhg31_1)) Y (OF.move (tv (rd 4 Qf l) Y)) ?_
    refine VRunD.free Y (VWant.on Y Y (dy fhg31_1)) Y (OF.fieldAddrO (tv (T.op 0 0) Y) Zs) (VRunD.look Y (VWant.on Y Y (dy fhg31_1)) Y (OL.loadO1 (t:=(tI x.A)) (tv (T.op 0 2) Y) Y Y QQ) (VRunD.free Y (VWant.on Y Y (dy fhg31_1)) Y (OF.move (tv (tS w) Y)) (VRunD.free Y (VWant.on Y Y (dy fhg31_1)) Y (OF.move (tv (tN a) Y)) (VRunD.look Y (VWant.on Y Y (dy fhg31_1)) Y (OL.sliceSHi (j:=a) (tv (tS w) Y) (tv (tN a) Y) Y (by first | (simp only [ByteArray.size_append,ByteArray.size_extract];omega) | omega | (simp only [List.length_map];omega) | (simp only [List.length_map,List.length_append,List.length_cons,List.length_nil,List.length_replicate,List.length_set,List.length_drop,List.length_take,Zk] at *;omega)) U9) (VRunD.free Y (VWant.on Y Y (dy fhg31_1)) Y (OF.move (tv (tS w) Y)) (VRunD.free Y (VWant.on Y Y (dy fhg31_1)) Y (OF.move (tv (tN b) Y)) (VRunD.look Y (VWant.on Y Y (dy fhg31_1)) Y (OL.sliceSLo (i:=b) (tv (tS w) Y) (tv (tN b) Y) Y (by first | (simp only [ByteArray.size_append,ByteArray.size_extract];omega) | omega | (simp only [List.length_map];omega) | (simp only [List.length_map,List.length_append,List.length_cons,List.length_nil,List.length_replicate,List.length_set,List.length_drop,List.length_take,Zk] at *;omega)) U9) (VRunD.free Y (VWant.on Y Y (dy fhg31_1)) Y (B.sadd (tv (tS (w.extract 0 a)) Y) (tv (tS (w.extract b w.size)) Y) (by first | (simp only [ByteArray.size_append,ByteArray.size_extract];omega) | omega | (simp only [List.length_map];omega) | (simp only [List.length_map,List.length_append,List.length_cons,List.length_nil,List.length_replicate,List.length_set,List.length_drop,List.length_take,Zk] at *;omega))) (VRunD.quiet (bi:= [14,13,12,17,16,15,18,10,11,8,0,2,1,6,5,4,3,7,9]) Y (VWant.on Y Y (dy fhg31_1)) Y Y Y bn (cS (vc (tv (rd 4 Qf l) Y) (vc (tv (tI x.A) Y) (vc (tv (tS ((w.extract 0 a)++(w.extract b w.size))) Y) vn))) (Q8 Y) (hM l x.A ((w.extract 0 a)++(w.extract b w.size)) (by first | (simp only [ByteArray.size_append,ByteArray.size_extract];omega) | assumption | omega) (by first | (simp only [ByteArray.size_append,ByteArray.size_extract];omega) | assumption | omega) (by first | (simp only [ByteArray.size_append,ByteArray.size_extract];omega) | assumption | omega) (by first | (simp only [ByteArray.size_append,ByteArray.size_extract];omega) | assumption | omega) (by first | (simp only [ByteArray.size_append,ByteArray.size_extract];omega) | assumption | omega)) Y Y) (fD (OF.pickT (VEv.tmpB Y (dy fhg31_1)) (tv (tB (decide (Yi l d x.A ((w.extract 0 a)++(w.extract b w.size))))) Y)) Y Y (VRunD.nil ?_)))))))))))
    refine tn ?_
    refine cd (Yi l d x.A ((w.extract 0 a)++(w.extract b w.size))) Y (fun fhc2=> ?_) fun fhc2=> ?_
    ·refine sr ?_
     refine fO (OF.assign (VEv.bool true)) (nt (rt (vinB.r (tr (tr (vinB.r (vinB.r (tr (tr (vinB.r (tr ?_)))))))))))
     refine vb (b':=true) Y ?_
     first | exact dTr ⟨a,b,⟨hJ1.1,hK1.1,fhc1⟩,fhg31_1,fhc2⟩ | exact Yc (fun h_=>Yo hJ2 fhc0 h_)
    refine sk (vinB.n (tn (VRun.region (mO (tN b) Y (fO (Qx (tv (tN b) Y) (VEv.int .i64 1) (by first | (simp only [ByteArray.size_append,ByteArray.size_extract];omega) | omega)) (aO (tN (b+1)) Y (VRunO.nil (tn ?_))))))))
    refine ⟨(b+1:Nat),?_,?_,Wk.mk (fun k=>k) ?_ ?_ ?_⟩
    ·(refine ⟨?_,QcJ hK2 (fun h_=> ?_)⟩;omega;first | (refine absurd h_.1 ?_;assumption) | (refine absurd h_.2 ?_;assumption))
    ·first | omega | (simp only [];omega) | (show _<_;omega) | (simp;omega)
    ·exact (b2 (b2 (b2 (b2 (b2 bn)))))
    ·exact (b3 bn)
    ·exact nd Y
   refine oD Y Y (dz fhg31_1) Y (oD Y Y (dz fhg31_1) Y (oD Y Y (dz fhg31_1) Y (oD Y Y (dz fhg31_1) Y (oD Y Y (dz fhg31_1) Y (oD Y Y (dz fhg31_1) Y (oD Y Y (dz fhg31_1) Y (oD Y Y (dz fhg31_1) Y (oD Y Y (dz fhg31_1) Y (oD Y Y (dz fhg31_1) Y (oD Y Y (dz fhg31_1) Y (fD (OF.pickF (VEv.tmpB Y (dz fhg31_1)) (VEv.bool false)) Y Y ?_)))))))))))
   refine VRunD.nil (tn (cf Y (sk (vinB.n (tn (VRun.region (mO (tN b) Y (fO (Qx (tv (tN b) Y) (VEv.int .i64 1) (by first | (simp only [ByteArray.size_append,ByteArray.size_extract];omega) | omega)) (aO (tN (b+1)) Y (VRunO.nil (tn ?_)))))))))))
   refine ⟨(b+1:Nat),?_,?_,Wk.mk (fun k=>k) ?_ ?_ ?_⟩
   ·(refine ⟨?_,QcJ hK2 (fun h_=> ?_)⟩;omega;first | (refine absurd h_.1 ?_;assumption) | (refine absurd h_.2 ?_;assumption))
   ·first | omega | (simp only [];omega) | (show _<_;omega) | (simp;omega)
   ·exact (b2 (b2 (b2 (b2 (b2 bn)))))
   ·exact (b3 bn)
   ·exact nd Y
  refine VRun.exit (vthn.e (vthn.e (vinB.e (vinB.n (tn (VRun.region (mO (tN a) Y (fO (Qx (tv (tN a) Y) (VEv.int .i64 1) (by first | (simp only [ByteArray.size_append,ByteArray.size_extract];omega) | omega)) (aO (tN (a+1)) Y (VRunO.nil (tn ?_)))))))))))
  refine ⟨(a+1:Nat),?_,?_,Wk.mk (fun k=>k) ?_ ?_ ?_⟩
  ·(refine ⟨?_,Qix hJ2 hK2 ?_⟩<;>omega)
  ·first | omega | (simp only [];omega) | (show _<_;omega) | (simp;omega)
  ·exact (b2 (b2 (b2 (b2 bn))))
  ·exact (b3 bn)
  ·exact nd Y
 refine VRun.exit (vthn.e (vthn.e (vinB.e (tn (sr (fO (OF.assign (VEv.bool false)) (nt (rt (vb (b':=false) Y ?_)))))))))
 first | exact dTr ⟨a,b,⟨hJ1.1,hK1.1,fhc1⟩,fhg31_1,fhc2⟩ | exact Yc (fun h_=>Yo hJ2 fhc0 h_)
theorem Qew (d:Nat):∀(m:Nat) (hm:2*d+5≤m) (l:List D.Step) (i:Int) (w:ByteArray) (hp:QR l) (hz:zL Ze l≤mx) (hd:d≤9) (hi:0≤i∧i<(d:Int)∧i<(l.length:Int)) (hw:Ql w),Pure (Qq Tryz.prog m) 123 [(rd 4 Qf l),(tI i),(tS w)] (tB (decide (Yi l d i w))):=by
 induction d with
 | zero=>intro m hm l i w hp hz hd hi hw;exact absurd hi.2.1 (by omega)
 | succ d ih =>
 intro m hm l i w hp hz hd hi hw
 obtain ⟨n,rfl⟩:∃n,m=n+5:=⟨m - 5,by omega⟩
 refine Pure.intro (n:=n+4) (rs:= [ResultVar.tmp 6]) Tryz.func123 Y Y Y (E0:= [(0,(rd 4 Qf l)),(1,(tI i)),(2,(tS w))]) Y ?_
 obtain ⟨hlim,hmx,hmax⟩:=QC
 have hl:=QV (z:=Ze) l
 have hw8:=hw.1
 refine sr (fO (OF.assign (VEv.bool false)) (nt (sr (mO (rd 4 Qf l) Y (mO (tI i) Y ?_)))))
 obtain ⟨x1,hx1⟩:∃x,l[(Int.toNat i)]? =some x:=⟨_,List.getElem?_eq_getElem (by omega)⟩
 have hb1:=Ju hp hx1
 refine fO (OF.indexAddrR (row:=(Qf false x1)) (i:=(Int.toNat i)) (tv (rd 4 Qf l) Y) (tv (tI i) Y) (by omega) (Qu _ hx1) U62 ZD YH) (lO (OL.loadRn (us:=(Qf false x1)) (tv (T.rp (Qf false x1)) Y) Qb9 ZD (lb Y) Y) (kO (B.alloc (t:=(T.agg [(tN 0),(tS ByteArray.empty),(tN 0),(tN 0)])) (ts:= [(tN 0),(tS ByteArray.empty),(tN 0),(tN 0)]) Qfk QfK nofun (fun _=> .agg _ _ Y (YK (RL.cons (.int _ _) (RL.cons (.str _) (RL.cons (.int _ _) (RL.cons (.int _ _) (RL.nil _))))))) Y) (cO (B.storeW (us:=(Qf false x1)) (tv (T.op 0 0) Y) (tv (T.agg (Qf false x1)) Y) nofun Y Y Y YH ZD (bc Y (bc Y (bc Y (bc Y bn))))) (nt (sq (sr (lf (tI x1.Kind) Y Q7 Y Y QQ (nt (VRun.block (sr (fO (Z7 (tv (tI x1.Kind) Y) (VEv.int .i64 1)) ?_)))))))))))
 refine aO (tB (decide (x1.Kind=1))) Y (nt ?_)
 refine cd (x1.Kind=1) Y (fun fhc0=> ?_) fun fhc0=> ?_
 ·refine sr ?_
  refine lf (tS x1.Word) Y Yb Y Y ZH (mO (tS w) Y (fO (B.seql (c:=(decide (x1.Word=w))) (tv (tS x1.Word) Y) (tv (tS w) Y) Y) (aO (tB (decide (x1.Word=w))) Y (nt (rt (vinB.r (tr (vb (b':=(decide (x1.Word=w))) Y ?_))))))))
  first | exact Yp (Qau hx1 fhc0) | exact Qv (Qax hx1 fhc1).symm | exact Qv (Qal hx1 hx2 fhc2).symm | exact Qv (YD hx1 fhc3).symm | exact Qv (YC hx1 fhc4).symm | exact Yp (Qaq hx1 hx2 fhc5) | exact Yp (Qao hx1 hx2 fhc6) | exact Yp (Qas hx1 hx2 fhc7) | exact Qv (Qam hx1 hx2 fhc0 fhc1 fhc2 fhc3 fhc4 fhc5 fhc6 fhc7).symm
 have hkA:=hb1.2.2.2 fhc0
 refine sr (fO (Z7 (tv (tI x1.Kind) Y) (VEv.int .i64 2)) (aO (tB (decide (x1.Kind=2))) Y (nt ?_)))
 refine cd (x1.Kind=2) Y (fun fhc1=> ?_) fun fhc1=> ?_
 ·have hwb:=Qgx hw
  refine sq (VRun.draw (B:= [[],[],[1],[],[3],[3,4,1,2,0],[0,2,1,4,3,5]]) (by kernel_rfl) (by kernel_rfl) (mD (rd 4 Qf l) Y Y (fD (OF.fieldAddrO (tv (T.op 0 0) Y) Zs) Y Y (lD (OL.loadO1 (t:=(tI x1.A)) (tv (T.op 0 2) Y) Y Y QQ) Y Y (mD (tS w) Y Y (VRunD.quiet (bi:= [3]) Y VWant.always Y Y Y bn (cS (vc (tv (tS w) Y) vn) (Q8 Y) (QaR (n+3) w (by first | assumption | omega)) Y Y) (VRunD.quiet (bi:= [3,4,1,2,0]) Y VWant.always Y Y Y bn (cS (vc (tv (rd 4 Qf l) Y) (vc (tv (tI x1.A) Y) (vc (tv (tS (back w)) Y) vn))) (Q8 Y) (ih _ (by omega) l x1.A (back w) (by first | assumption | omega) (by first | assumption | omega) (by first | assumption | omega) (by first | assumption | omega) (by first | assumption | omega)) Y Y) (fD (OF.assign (tv (tB (decide (Yi l d x1.A (back w)))) Y)) Y Y (VRunD.nil (tn (rt ?_)))))))))))
  refine vinB.r (tr (vb (b':=(decide (Yi l d x1.A (back w)))) Y ?_))
  first | exact Yp (Qau hx1 fhc0) | exact Qv (Qax hx1 fhc1).symm | exact Qv (Qal hx1 hx2 fhc2).symm | exact Qv (YD hx1 fhc3).symm | exact Qv (YC hx1 fhc4).symm | exact Yp (Qaq hx1 hx2 fhc5) | exact Yp (Qao hx1 hx2 fhc6) | exact Yp (Qas hx1 hx2 fhc7) | exact Qv (Qam hx1 hx2 fhc0 fhc1 fhc2 fhc3 fhc4 fhc5 fhc6 fhc7).symm
 refine sr (fO (Z7 (tv (tI x1.Kind) Y) (VEv.int .i64 3)) (aO (tB (decide (x1.Kind=3))) Y (nt ?_)))
 refine cd (x1.Kind=3) Y (fun fhc2=> ?_) fun fhc2=> ?_
 ·refine sr ?_
  refine mO (rd 4 Qf l) Y (lf (tI x1.A) Y Zs Y Y QQ ?_)
  obtain ⟨x2,hx2⟩:∃x,l[(Int.toNat x1.A)]? =some x:=⟨_,List.getElem?_eq_getElem (by omega)⟩
  have hb2:=Ju hp hx2
  refine fO (OF.indexAddrR (row:=(Qf false x2)) (i:=(Int.toNat x1.A)) (tv (rd 4 Qf l) Y) (tv (tI x1.A) Y) (by omega) (Qu _ hx2) U62 ZD YH) (lr (tS x2.Word) Y (lb Y) Yb Y ZH (mO (tS w) Y (cO (cS (vc (tv (tS x2.Word) Y) (vc (tv (tS w) Y) vn)) (Q8 Y) (QbZ (n+0) x2.Word w (by first | assumption | omega) (by first | assumption | omega)) Y Y) (aO (tB (decide (reB x2.Word w))) Y (nt (rt (vinB.r (tr (vb (b':=(decide (reB x2.Word w))) Y ?_)))))))))
  first | exact Yp (Qau hx1 fhc0) | exact Qv (Qax hx1 fhc1).symm | exact Qv (Qal hx1 hx2 fhc2).symm | exact Qv (YD hx1 fhc3).symm | exact Qv (YC hx1 fhc4).symm | exact Yp (Qaq hx1 hx2 fhc5) | exact Yp (Qao hx1 hx2 fhc6) | exact Yp (Qas hx1 hx2 fhc7) | exact Qv (Qam hx1 hx2 fhc0 fhc1 fhc2 fhc3 fhc4 fhc5 fhc6 fhc7).symm
 refine sr (fO (Z7 (tv (tI x1.Kind) Y) (VEv.int .i64 4)) (aO (tB (decide (x1.Kind=4))) Y (nt ?_)))
 refine cd (x1.Kind=4) Y (fun fhc3=> ?_) fun fhc3=> ?_
 ·have hkB:=hkA.2 (.inl fhc3)
  refine sr (mO (rd 4 Qf l) Y (lO (OL.loadOn (us:=(Qf false x1)) (tv (T.op 0 0) Y) Y Qb9 ZD (lb Y) Y) (mO (tS w) Y (cO (cS (vc (tv (rd 4 Qf l) Y) (vc (tv (T.agg (Qf false x1)) Y) (vc (tv (tS w) Y) vn))) (lp Y (LendL.cons (lg okeStep) (lp Y ln))) (Qfl (n+3) d (fun l i w hp hz hd hi hw=>ih _ (by omega) l i w hp hz hd hi hw) l x1 w (by first | assumption | omega) (by first | assumption | omega) (by first | assumption | omega) (by first | assumption | omega) (by first | assumption | omega) (by first | assumption | omega)) Y Y) (aO (tB (decide (jEx l d x1 w))) Y (nt (rt (vinB.r (tr (vb (b':=(decide (jEx l d x1 w))) Y ?_))))))))))
  first | exact Yp (Qau hx1 fhc0) | exact Qv (Qax hx1 fhc1).symm | exact Qv (Qal hx1 hx2 fhc2).symm | exact Qv (YD hx1 fhc3).symm | exact Qv (YC hx1 fhc4).symm | exact Yp (Qaq hx1 hx2 fhc5) | exact Yp (Qao hx1 hx2 fhc6) | exact Yp (Qas hx1 hx2 fhc7) | exact Qv (Qam hx1 hx2 fhc0 fhc1 fhc2 fhc3 fhc4 fhc5 fhc6 fhc7).symm
 refine sr (fO (Z7 (tv (tI x1.Kind) Y) (VEv.int .i64 5)) (aO (tB (decide (x1.Kind=5))) Y (nt ?_)))
 refine cd (x1.Kind=5) Y (fun fhc4=> ?_) fun fhc4=> ?_
 ·have hkB:=hkA.2 (.inr fhc4)
  refine sr (mO (rd 4 Qf l) Y (lO (OL.loadOn (us:=(Qf false x1)) (tv (T.op 0 0) Y) Y Qb9 ZD (lb Y) Y) (mO (tS w) Y (cO (cS (vc (tv (rd 4 Qf l) Y) (vc (tv (T.agg (Qf false x1)) Y) (vc (tv (tS w) Y) vn))) (lp Y (LendL.cons (lg okeStep) (lp Y ln))) (QgW (n+3) d (fun l i w hp hz hd hi hw=>ih _ (by omega) l i w hp hz hd hi hw) l x1 w (by first | assumption | omega) (by first | assumption | omega) (by first | assumption | omega) (by first | assumption | omega) (by first | assumption | omega) (by first | assumption | omega)) Y Y) (aO (tB (decide (iEx l d x1 w))) Y (nt (rt (vinB.r (tr (vb (b':=(decide (iEx l d x1 w))) Y ?_))))))))))
  first | exact Yp (Qau hx1 fhc0) | exact Qv (Qax hx1 fhc1).symm | exact Qv (Qal hx1 hx2 fhc2).symm | exact Qv (YD hx1 fhc3).symm | exact Qv (YC hx1 fhc4).symm | exact Yp (Qaq hx1 hx2 fhc5) | exact Yp (Qao hx1 hx2 fhc6) | exact Yp (Qas hx1 hx2 fhc7) | exact Qv (Qam hx1 hx2 fhc0 fhc1 fhc2 fhc3 fhc4 fhc5 fhc6 fhc7).symm
 refine sr (fO (Z7 (tv (tI x1.Kind) Y) (VEv.int .i64 6)) (aO (tB (decide (x1.Kind=6))) Y (nt ?_)))
 refine cd (x1.Kind=6) Y (fun fhc5=> ?_) fun fhc5=> ?_
 ·refine sr ?_
  refine mO (rd 4 Qf l) Y (lf (tI x1.A) Y Zs Y Y QQ ?_)
  obtain ⟨x2,hx2⟩:∃x,l[(Int.toNat x1.A)]? =some x:=⟨_,List.getElem?_eq_getElem (by omega)⟩
  have hb2:=Ju hp hx2
  refine fO (OF.indexAddrR (row:=(Qf false x2)) (i:=(Int.toNat x1.A)) (tv (rd 4 Qf l) Y) (tv (tI x1.A) Y) (by omega) (Qu _ hx2) U62 ZD YH) (lr (tS x2.Word) Y (lb Y) Yb Y ZH (cO (cS (vc (tv (tS x2.Word) Y) vn) (Q8 Y) (Qf8 (n+1) x2.Word (by first | assumption | omega)) Y Y) (mO (tS w) Y (fO (B.seql (c:=(decide (hdS x2.Word=w))) (tv (tS (hdS x2.Word)) Y) (tv (tS w) Y) Y) (aO (tB (decide (hdS x2.Word=w))) Y (nt (rt (vinB.r (tr (vb (b':=(decide (hdS x2.Word=w))) Y ?_))))))))))
  first | exact Yp (Qau hx1 fhc0) | exact Qv (Qax hx1 fhc1).symm | exact Qv (Qal hx1 hx2 fhc2).symm | exact Qv (YD hx1 fhc3).symm | exact Qv (YC hx1 fhc4).symm | exact Yp (Qaq hx1 hx2 fhc5) | exact Yp (Qao hx1 hx2 fhc6) | exact Yp (Qas hx1 hx2 fhc7) | exact Qv (Qam hx1 hx2 fhc0 fhc1 fhc2 fhc3 fhc4 fhc5 fhc6 fhc7).symm
 refine sr (fO (Z7 (tv (tI x1.Kind) Y) (VEv.int .i64 7)) (aO (tB (decide (x1.Kind=7))) Y (nt ?_)))
 refine cd (x1.Kind=7) Y (fun fhc6=> ?_) fun fhc6=> ?_
 ·refine sr ?_
  refine mO (rd 4 Qf l) Y (lf (tI x1.A) Y Zs Y Y QQ ?_)
  obtain ⟨x2,hx2⟩:∃x,l[(Int.toNat x1.A)]? =some x:=⟨_,List.getElem?_eq_getElem (by omega)⟩
  have hb2:=Ju hp hx2
  refine fO (OF.indexAddrR (row:=(Qf false x2)) (i:=(Int.toNat x1.A)) (tv (rd 4 Qf l) Y) (tv (tI x1.A) Y) (by omega) (Qu _ hx2) U62 ZD YH) (lr (tS x2.Word) Y (lb Y) Yb Y ZH (cO (cS (vc (tv (tS x2.Word) Y) vn) (Q8 Y) (QcF (n+1) x2.Word (by first | assumption | omega)) Y Y) (mO (tS w) Y (fO (B.seql (c:=(decide (nhS x2.Word=w))) (tv (tS (nhS x2.Word)) Y) (tv (tS w) Y) Y) (aO (tB (decide (nhS x2.Word=w))) Y (nt (rt (vinB.r (tr (vb (b':=(decide (nhS x2.Word=w))) Y ?_))))))))))
  first | exact Yp (Qau hx1 fhc0) | exact Qv (Qax hx1 fhc1).symm | exact Qv (Qal hx1 hx2 fhc2).symm | exact Qv (YD hx1 fhc3).symm | exact Qv (YC hx1 fhc4).symm | exact Yp (Qaq hx1 hx2 fhc5) | exact Yp (Qao hx1 hx2 fhc6) | exact Yp (Qas hx1 hx2 fhc7) | exact Qv (Qam hx1 hx2 fhc0 fhc1 fhc2 fhc3 fhc4 fhc5 fhc6 fhc7).symm
 refine sr (fO (Z7 (tv (tI x1.Kind) Y) (VEv.int .i64 8)) (aO (tB (decide (x1.Kind=8))) Y (nt ?_)))
 refine cd (x1.Kind=8) Y (fun fhc7=> ?_) fun fhc7=> ?_
 ·refine sr ?_
  refine mO (rd 4 Qf l) Y (lf (tI x1.A) Y Zs Y Y QQ ?_)
  obtain ⟨x2,hx2⟩:∃x,l[(Int.toNat x1.A)]? =some x:=⟨_,List.getElem?_eq_getElem (by omega)⟩
  have hb2:=Ju hp hx2
  refine fO (OF.indexAddrR (row:=(Qf false x2)) (i:=(Int.toNat x1.A)) (tv (rd 4 Qf l) Y) (tv (tI x1.A) Y) (by omega) (Qu _ hx2) U62 ZD YH) (lr (tS x2.Word) Y (lb Y) Yb Y ZH (cO (cS (vc (tv (tS x2.Word) Y) vn) (Q8 Y) (Qcr (n+1) x2.Word (by first | assumption | omega)) Y Y) (mO (tS w) Y (fO (B.seql (c:=(decide (ntS x2.Word=w))) (tv (tS (ntS x2.Word)) Y) (tv (tS w) Y) Y) (aO (tB (decide (ntS x2.Word=w))) Y (nt (rt (vinB.r (tr (vb (b':=(decide (ntS x2.Word=w))) Y ?_))))))))))
  first | exact Yp (Qau hx1 fhc0) | exact Qv (Qax hx1 fhc1).symm | exact Qv (Qal hx1 hx2 fhc2).symm | exact Qv (YD hx1 fhc3).symm | exact Qv (YC hx1 fhc4).symm | exact Yp (Qaq hx1 hx2 fhc5) | exact Yp (Qao hx1 hx2 fhc6) | exact Yp (Qas hx1 hx2 fhc7) | exact Qv (Qam hx1 hx2 fhc0 fhc1 fhc2 fhc3 fhc4 fhc5 fhc6 fhc7).symm
 refine sk (vinB.n (tn (sr (mO (tS w) Y (mO (rd 4 Qf l) Y (lf (tI x1.A) Y Zs Y Y QQ ?_))))))
 obtain ⟨x2,hx2⟩:∃x,l[(Int.toNat x1.A)]? =some x:=⟨_,List.getElem?_eq_getElem (by omega)⟩
 have hb2:=Ju hp hx2
 refine fO (OF.indexAddrR (row:=(Qf false x2)) (i:=(Int.toNat x1.A)) (tv (rd 4 Qf l) Y) (tv (tI x1.A) Y) (by omega) (Qu _ hx2) U62 ZD YH) (lr (tS x2.Word) Y (lb Y) Yb Y ZH (cO (cS (vc (tv (tS w) Y) (vc (tv (tS x2.Word) Y) vn)) (Q8 Y) (Qet (n+1) w x2.Word (by first | assumption | omega) (by first | assumption | omega)) Y Y) (aO (tB (decide (QdV w x2.Word))) Y (nt (rt (vb (b':=(decide (QdV w x2.Word))) Y ?_))))))
 first | exact Yp (Qau hx1 fhc0) | exact Qv (Qax hx1 fhc1).symm | exact Qv (Qal hx1 hx2 fhc2).symm | exact Qv (YD hx1 fhc3).symm | exact Qv (YC hx1 fhc4).symm | exact Yp (Qaq hx1 hx2 fhc5) | exact Yp (Qao hx1 hx2 fhc6) | exact Yp (Qas hx1 hx2 fhc7) | exact Qv (Qam hx1 hx2 fhc0 fhc1 fhc2 fhc3 fhc4 fhc5 fhc6 fhc7).symm
theorem QhC (n:Nat) (l:List D.Step) (w:ByteArray) (hz:zL Ze l≤mx) (hw:w.size≤maxLen):Pure (Qq Tryz.prog (n+24)) 85 [(rd 4 Qf l),(tS w)] (tB (decide (QdR l w))):=by
 refine Pure.intro (rs:= [ResultVar.tmp 4]) Tryz.func85 Y Y Y (E0:= [(0,(rd 4 Qf l)),(1,(tS w))]) Y ?_
 obtain ⟨hlim,hmx,hmax⟩:=QC
 have hl:=QV (z:=Ze) l
 refine sr (fO (OF.assign (VEv.bool false)) (nt (sr (mO (rd 4 Qf l) Y (cO (cS (vc (tv (rd 4 Qf l) Y) vn) (Q8 Y) (Qb5 (n+19) l (by first | assumption | omega)) Y Y) (mO (tB (decide (QR l))) Y ?_))))))
 refine gw (QR l) (fun fhg7_1=> ?_) fun fhg7_1=> ?_
 ·have hpl:=fhg7_1.1
  refine gF (dy fhg7_1) Y Y (OF.move (tv (tS w) Y)) (VRunO.chain (VWant.on Y Y (dy fhg7_1)) (cS (vc (tv (tS w) Y) vn) (Q8 Y) (Q9 (n+21) w (by first | assumption | omega)) Y Y) (fO (OF.pickT (VEv.tmpB Y (dy fhg7_1)) (tv (tB (decide (Ql w))) Y)) (mO (tB (decide (Ql w))) Y ?_)))
  refine gw (Ql w) (fun fhg11_2=> ?_) fun fhg11_2=> ?_
  ·refine gF (dy fhg11_2) Y Y (OF.move (tv (rd 4 Qf l) Y)) ?_
   refine gF (dy fhg11_2) Y Y (OF.move (tv (rd 4 Qf l) Y)) (gL (dy fhg11_2) Y Y (B.lenR (m:=l.length) (tv (rd 4 Qf l) Y) U62 (List.length_map ..)) (gF (dy fhg11_2) Y Y (B.sub (n:=(((l.length:Nat):Int) - 1)) (tv (tN l.length) Y) (VEv.int .i64 1) (by first | rfl | (rw [Qs (by omega)];omega) | (rw [Qs (by omega)];done))) (gF (dy fhg11_2) Y Y (OF.move (tv (tS w) Y)) (VRunO.chain (VWant.on Y Y (dy fhg11_2)) (cS (vc (tv (rd 4 Qf l) Y) (vc (tv (tI (((l.length:Nat):Int) - 1)) Y) (vc (tv (tS w) Y) vn))) (Q8 Y) (Qew 9 (n+23) (by omega) l (((l.length:Nat):Int) - 1) w (by first | assumption | omega) (by first | assumption | omega) (by first | assumption | omega) (by first | assumption | omega) (by first | assumption | omega)) Y Y) (fO (OF.pickT (VEv.tmpB Y (dy fhg11_2)) (tv (tB (decide (Yi l 9 (((l.length:Nat):Int) - 1) w))) Y)) (aO (tB (decide (Yi l 9 (((l.length:Nat):Int) - 1) w))) Y (nt (rt (vb (b':=(decide (Yi l 9 (((l.length:Nat):Int) - 1) w))) Y ?_)))))))))
   first | exact Qv ⟨fun h_=>⟨⟨fhg7_1,fhg11_2⟩,h_⟩,fun h_=>h_.2⟩ | exact Yc (fun h_=>fhg11_2 h_.1.2) | exact Yc (fun h_=>fhg7_1 h_.1.1)
  refine Qz 6 6 true 11 (dz fhg11_2) Y Y Y (fO (OF.pickF (VEv.tmpB Y (dz fhg11_2)) (VEv.bool false)) (aO (tB false) Y (nt (rt (vb (b':=false) Y ?_)))))
  first | exact Qv ⟨fun h_=>⟨⟨fhg7_1,fhg11_2⟩,h_⟩,fun h_=>h_.2⟩ | exact Yc (fun h_=>fhg11_2 h_.1.2) | exact Yc (fun h_=>fhg7_1 h_.1.1)
 refine Qz 2 2 true 7 (dz fhg7_1) Y Y Y (fO (OF.pickF (VEv.tmpB Y (dz fhg7_1)) (VEv.bool false)) (mO (tB false) Y (Qz 6 6 true 11 (b:=false) Y Y Y Y (fO (OF.pickF (tv (tB false) Y) (VEv.bool false)) (aO (tB false) Y (nt (rt (vb (b':=false) Y ?_))))))))
 first | exact Qv ⟨fun h_=>⟨⟨fhg7_1,fhg11_2⟩,h_⟩,fun h_=>h_.2⟩ | exact Yc (fun h_=>fhg11_2 h_.1.2) | exact Yc (fun h_=>fhg7_1 h_.1.1)
theorem Qhl (n:Nat) (l:List D.Step) (w:ByteArray) (hz:zL Ze l≤mx) (hw:w.size≤maxLen):Pure (Qq Tryz.prog (n+17)) 93 [(rd 4 Qf l),(tS w)] (tB (decide (QdR l w))):=by
 refine Pure.intro (rs:= [ResultVar.tmp 4]) Tryz.func93 Y Y Y (E0:= [(0,(rd 4 Qf l)),(1,(tS w))]) Y ?_
 obtain ⟨hlim,hmx,hmax⟩:=QC
 have hl:=QV (z:=Ze) l
 refine sr (fO (OF.assign (VEv.bool false)) (nt (sr (mO (rd 4 Qf l) Y (cO (cS (vc (tv (rd 4 Qf l) Y) vn) (Q8 Y) (Qca (n+13) l (by first | assumption | omega)) Y Y) (mO (tB (decide (QR l))) Y ?_))))))
 refine gw (QR l) (fun fhg7_1=> ?_) fun fhg7_1=> ?_
 ·have hpl:=fhg7_1.1
  refine gF (dy fhg7_1) Y Y (OF.move (tv (tS w) Y)) (VRunO.chain (VWant.on Y Y (dy fhg7_1)) (cS (vc (tv (tS w) Y) vn) (Q8 Y) (Za (n+14) w (by first | assumption | omega)) Y Y) (fO (OF.pickT (VEv.tmpB Y (dy fhg7_1)) (tv (tB (decide (Ql w))) Y)) (mO (tB (decide (Ql w))) Y ?_)))
  refine gw (Ql w) (fun fhg11_2=> ?_) fun fhg11_2=> ?_
  ·refine gF (dy fhg11_2) Y Y (OF.move (tv (rd 4 Qf l) Y)) ?_
   refine gF (dy fhg11_2) Y Y (OF.move (tv (rd 4 Qf l) Y)) (gL (dy fhg11_2) Y Y (B.lenR (m:=l.length) (tv (rd 4 Qf l) Y) U62 (List.length_map ..)) (gF (dy fhg11_2) Y Y (B.sub (n:=(((l.length:Nat):Int) - 1)) (tv (tN l.length) Y) (VEv.int .i64 1) (by first | rfl | (rw [Qs (by omega)];omega) | (rw [Qs (by omega)];done))) (gF (dy fhg11_2) Y Y (OF.move (tv (tS w) Y)) (VRunO.chain (VWant.on Y Y (dy fhg11_2)) (cS (vc (tv (rd 4 Qf l) Y) (vc (tv (tI (((l.length:Nat):Int) - 1)) Y) (vc (tv (tS w) Y) vn))) (Q8 Y) (QgQ (n+0) 9 l (((l.length:Nat):Int) - 1) w (by first | assumption | omega) (by first | assumption | omega) (by first | assumption | omega) (by first | assumption | omega) (by first | assumption | omega)) Y Y) (fO (OF.pickT (VEv.tmpB Y (dy fhg11_2)) (tv (tB (decide (Yi l 9 (((l.length:Nat):Int) - 1) w))) Y)) (aO (tB (decide (Yi l 9 (((l.length:Nat):Int) - 1) w))) Y (nt (rt (vb (b':=(decide (Yi l 9 (((l.length:Nat):Int) - 1) w))) Y ?_)))))))))
   first | exact Qv ⟨fun h_=>⟨⟨fhg7_1,fhg11_2⟩,h_⟩,fun h_=>h_.2⟩ | exact Yc (fun h_=>fhg11_2 h_.1.2) | exact Yc (fun h_=>fhg7_1 h_.1.1)
  refine Qz 6 6 true 11 (dz fhg11_2) Y Y Y (fO (OF.pickF (VEv.tmpB Y (dz fhg11_2)) (VEv.bool false)) (aO (tB false) Y (nt (rt (vb (b':=false) Y ?_)))))
  first | exact Qv ⟨fun h_=>⟨⟨fhg7_1,fhg11_2⟩,h_⟩,fun h_=>h_.2⟩ | exact Yc (fun h_=>fhg11_2 h_.1.2) | exact Yc (fun h_=>fhg7_1 h_.1.1)
 refine Qz 2 2 true 7 (dz fhg7_1) Y Y Y (fO (OF.pickF (VEv.tmpB Y (dz fhg7_1)) (VEv.bool false)) (mO (tB false) Y (Qz 6 6 true 11 (b:=false) Y Y Y Y (fO (OF.pickF (tv (tB false) Y) (VEv.bool false)) (aO (tB false) Y (nt (rt (vb (b':=false) Y ?_))))))))
 first | exact Qv ⟨fun h_=>⟨⟨fhg7_1,fhg11_2⟩,h_⟩,fun h_=>h_.2⟩ | exact Yc (fun h_=>fhg11_2 h_.1.2) | exact Yc (fun h_=>fhg7_1 h_.1.1)
noncomputable section
instance (w:ByteArray) (l:List ByteArray):Decidable (w∈l):=Classical.propDecidable _
theorem QiE {α:Type} {p:α→Prop} {a:List α} {w:α} (h:∀j y,j<a.length→a[j]? =some y→¬p y) (hm:w∈a):¬p w:=by
 obtain ⟨j,hj⟩:=List.getElem?_of_mem hm
 exact h j w (List.getElem?_eq_some_iff.1 hj).1 hj
def Qbg (l:List ByteArray) (w:ByteArray):List ByteArray:=if w∈l then l else l++ [w]
def QG (l:List ByteArray):List ByteArray:=l.foldl Qbg []
theorem Qly (l:List ByteArray) (w:ByteArray):(Qbg l w).length≤l.length+1:=by
 unfold Qbg
 split
 ·omega
 ·simp
theorem Qgl : ∀(a l:List ByteArray),(a.foldl Qbg l).length≤a.length+l.length
 | [],l=>by simp
 | w::a,l=>by
  have h1:=Qgl a (Qbg l w)
  have h2:=Qly l w
  rw [List.foldl_cons,List.length_cons]
  omega
theorem Qd1 (l:List ByteArray):(QG l).length≤l.length:=by
 have:=Qgl l []
 exact this
theorem Ya {l:List ByteArray} {i:Nat} {w:ByteArray} (h:l[i]? =some w):QG (l.take (i+1))=Qbg (QG (l.take i)) w:=by
 unfold QG
 rw [List.take_add_one,h,List.foldl_append]
 rfl
end
theorem Qe1 (n:Nat) (a:List ByteArray) (w:ByteArray) (ha:a.length≤Zk):Pure (Qq Tryz.prog (n+1)) 67 [(rd 1 QF a),(tS w)] (tB (decide (w∈a))):=by
 refine Pure.intro (rs:= [ResultVar.tmp 4]) Tryz.func67 Y Y Y (E0:= [(0,(rd 1 QF a)),(1,(tS w))]) Y ?_
 obtain ⟨hlim,hmx,hmax⟩:=QC
 refine sr (fO (OF.assign (VEv.bool false)) (nt (sq (sr (fO (OF.assign (VEv.int .i64 0)) (nt (VRun.block ?_)))))))
 refine VRun.loop (A:=Nat) (fun s_=> [(0,(rd 1 QF a)),(1,(tS w)),(5,(tN s_))]) (fun s_=>QU []) 0 (fun s_=>NoneTo (fun y=>y=w) a s_) (fun s_=>a.length - s_) (0:Nat) ?_ (Wk.mk (fun k=>k) ?_ ?_ ?_) ?_
 ·exact NoneTo.start _ _
 ·exact (b2 (b2 (b2 bn)))
 ·exact bn
 ·exact nd Y
 rintro i (hI':NoneTo (fun y=>y=w) a i)
 show VRun _ _ _ [(0,(rd 1 QF a)),(1,(tS w)),(5,(tN i))] (QU []) 0 _
 have hI1:=hI'.1
 refine sq (sr (mO (tN i) Y (mO (rd 1 QF a) Y (lO (B.lenR (m:=a.length) (tv (rd 1 QF a) Y) U54 (List.length_map ..)) (fO (Q2 (tv (tN i) Y) (tv (tN a.length) Y)) (nt ?_))))))
 refine cd (i<a.length) Y (fun fhc0=> ?_) fun fhc0=> ?_
 ·refine sk ?_
  refine tn (sq (VRun.block (sr (mO (rd 1 QF a) Y (mO (tN i) Y ?_)))))
  obtain ⟨x1,hx1⟩:∃x,a[i]? =some x:=⟨_,List.getElem?_eq_getElem (by omega)⟩
  refine fO (OF.indexAddrR (row:=(QF false x1)) (i:=i) (tv (rd 1 QF a) Y) (tv (tN i) Y) Y (Qu _ hx1) U54 sz9 if9) (lO (OL.loadR1 (t:=(tS x1)) (tv (T.rp [(tS x1)]) Y) Y ZH) (mO (tS w) Y (fO (B.seql (c:=(decide (x1=w))) (tv (tS x1) Y) (tv (tS w) Y) Y) (nt ?_))))
  refine cd (x1=w) Y (fun fhc1=> ?_) fun fhc1=> ?_
  ·refine sr ?_
   refine fO (OF.assign (VEv.bool true)) (nt (rt (vinB.r (tr (tr (vinB.r (tr (vb (b':=true) Y ?_))))))))
   exact dTr (fhc1▸List.mem_of_getElem? hx1)
  refine sk (vinB.n (tn (VRun.region (mO (tN i) Y (fO (Qx (tv (tN i) Y) (VEv.int .i64 1) (by omega)) (aO (tN (i+1)) Y (VRunO.nil (tn ?_))))))))
  refine ⟨(i+1:Nat),?_,?_,Wk.mk (fun k=>k) ?_ ?_ ?_⟩
  ·exact hI'.next hx1 fhc1
  ·first | omega | (simp only [];omega) | (show _<_;omega) | (simp;omega)
  ·exact (b2 (b2 (b2 bn)))
  ·exact bn
  ·exact nd Y
 refine VRun.exit (vthn.e (vthn.e (vinB.e (tn (sr (fO (OF.assign (VEv.bool false)) (nt (rt (vb (b':=false) Y ?_)))))))))
 exact Yc (fun h_=>QiE (hI'.all fhc0) h_ Y)
theorem Jw (n:Nat) (a:List ByteArray) (b:ByteArray) (ha:a.length≤Zk):Pure (Qq Tryz.prog (n+1)) 129 [(rd 1 QF a),(tS b)] (tI (ixF (fun y=>b=y) a)):=by
 refine Pure.intro (rs:= [ResultVar.tmp 4]) Tryz.func129 Y Y Y (E0:= [(0,(rd 1 QF a)),(1,(tS b))]) Y ?_
 obtain ⟨hlim,hmx,hmax⟩:=QC
 refine sr (fO (OF.assign (VEv.int .i64 0)) (nt (sq (sr (mO (rd 1 QF a) Y (lO (B.lenR (m:=a.length) (tv (rd 1 QF a) Y) U54 (List.length_map ..)) (fO (OF.move (VEv.int .i64 0)) (nt (VRun.block ?_)))))))))
 refine VRun.loop (A:=Nat) (fun s_=> [(0,(rd 1 QF a)),(1,(tS b)),(7,(tN a.length)),(8,(tN s_))]) (fun s_=>QU []) 0 (fun s_=>NoneTo (fun y=>b=y) a s_) (fun s_=>a.length - s_) (0:Nat) ?_ (Wk.mk (fun k=>k) ?_ ?_ ?_) ?_
 ·exact NoneTo.start _ _
 ·exact (b2 (b2 (b2 (b2 bn))))
 ·exact bn
 ·exact nd Y
 rintro i (hI':NoneTo (fun y=>b=y) a i)
 show VRun _ _ _ [(0,(rd 1 QF a)),(1,(tS b)),(7,(tN a.length)),(8,(tN i))] (QU []) 0 _
 have hI1:=hI'.1
 refine sr (fO (Q2 (tv (tN i) Y) (tv (tN a.length) Y)) (nt (sq ?_)))
 refine cd (i<a.length) Y (fun fhc0=> ?_) fun fhc0=> ?_
 ·refine sk ?_
  refine tn (sq (VRun.block (sr (mO (tN i) Y (aO (tN i) Y (nt (sr (mO (tS b) Y (mO (rd 1 QF a) Y (mO (tN i) Y ?_))))))))))
  obtain ⟨x1,hx1⟩:∃x,a[i]? =some x:=⟨_,List.getElem?_eq_getElem (by omega)⟩
  refine fO (OF.indexAddrR (row:=(QF false x1)) (i:=i) (tv (rd 1 QF a) Y) (tv (tN i) Y) Y (Qu _ hx1) U54 sz9 if9) (lO (OL.loadR1 (t:=(tS x1)) (tv (T.rp [(tS x1)]) Y) Y ZH) (fO (B.seql (c:=(decide (b=x1))) (tv (tS b) Y) (tv (tS x1) Y) Y) (nt ?_)))
  refine cd (b=x1) Y (fun fhc1=> ?_) fun fhc1=> ?_
  ·refine sr ?_
   refine mO (tN i) Y (aO (tN i) Y (nt (rt (vinB.r (tr (tr (vinB.r (tr (vi (n':=((i:Nat):Int)) Y ?_)))))))))
   exact (QaW hx1 fhc1 hI'.2).symm
  refine sk (vinB.n (tn (VRun.region (fO (Qx (tv (tN i) Y) (VEv.int .i64 1) (by omega)) (mO (tN (i+1)) Y (VRunO.nil (tn ?_)))))))
  refine ⟨(i+1:Nat),?_,?_,Wk.mk (fun k=>k) ?_ ?_ ?_⟩
  ·exact hI'.next hx1 fhc1
  ·first | omega | (simp only [];omega) | (show _<_;omega) | (simp;omega)
  ·exact (b2 (b2 (b2 (b2 bn))))
  ·exact bn
  ·exact nd Y
 refine VRun.exit (vthn.e (vthn.e (vinB.e (tn (sr (fO (OF.assign (VEv.int .i64 (-1))) (nt (rt (vi (n':=(-1)) Y ?_)))))))))
 exact (QbM (hI'.all fhc0)).symm
theorem YY (n:Nat) (a:List ByteArray) (b:ByteArray) (ha:a.length≤Zk):Pure (Qq Tryz.prog (n+2)) 94 [(rd 1 QF a),(tS b)] (tB (decide (b∈a))):=by
 refine Pure.intro (rs:= [ResultVar.tmp 4]) Tryz.func94 Y Y Y (E0:= [(0,(rd 1 QF a)),(1,(tS b))]) Y ?_
 obtain ⟨hlim,hmx,hmax⟩:=QC
 refine sr (fO (OF.assign (VEv.bool false)) (nt (sr (mO (rd 1 QF a) Y (mO (tS b) Y (cO (cS (vc (tv (rd 1 QF a) Y) (vc (tv (tS b) Y) vn)) (Q8 Y) (Jw (n+0) a b (by first | assumption | omega)) Y Y) (fO (xge (tv (tI (ixF (fun y=>b=y) a)) Y) (VEv.int .i64 0)) (aO (tB (decide (0≤ixF (fun y=>b=y) a))) Y (nt (rt (vb (b':=(decide (0≤ixF (fun y=>b=y) a))) Y ?_)))))))))))
 refine Qv ?_
 rw [Qfn]
 exact ⟨fun ⟨x,h1,h2⟩=>h2▸h1,fun h=>⟨b,h,rfl⟩⟩
theorem Yd (n:Nat) (a:List D.Meaning) (b:D.Meaning) (ha:a.length≤Zk):Pure (Qq Tryz.prog (n+1)) 159 [(rd 2 Qb a),(T.agg (Qb false b))] (tI (ixF (fun y=>b=y) a)):=by
 refine Pure.intro (rs:= [ResultVar.tmp 4]) Tryz.func159 Y Y Y (E0:= [(0,(rd 2 Qb a)),(1,(T.agg (Qb false b)))]) Y ?_
 obtain ⟨hlim,hmx,hmax⟩:=QC
 refine sr (kO (B.box (ts:=(Qb false b)) (tv (T.agg (Qb false b)) Y) nofun Y) (fO (OF.assign (VEv.int .i64 0)) (nt (sq (sr (mO (rd 2 Qb a) Y (lO (B.lenR (m:=a.length) (tv (rd 2 Qb a) Y) U41 (List.length_map ..)) (fO (OF.move (VEv.int .i64 0)) (nt (VRun.block ?_))))))))))
 refine VRun.loop (A:=Nat) (fun s_=> [(0,(rd 2 Qb a)),(3,(T.op 0 0)),(7,(tN a.length)),(8,(tN s_))]) (fun s_=>QU [(0,(Obj.cells (Qb false b)))]) 1 (fun s_=>NoneTo (fun y=>b=y) a s_) (fun s_=>a.length - s_) (0:Nat) ?_ (Wk.mk (fun k=>k) ?_ ?_ ?_) ?_
 ·exact NoneTo.start _ _
 ·exact (b2 (b2 (b2 (b2 bn))))
 ·exact (b3 bn)
 ·exact nd Y
 rintro i (hI':NoneTo (fun y=>b=y) a i)
 show VRun _ _ _ [(0,(rd 2 Qb a)),(3,(T.op 0 0)),(7,(tN a.length)),(8,(tN i))] (QU [(0,(Obj.cells (Qb false b)))]) 1 _
 have hI1:=hI'.1
 refine sr (fO (Q2 (tv (tN i) Y) (tv (tN a.length) Y)) (nt (sq ?_)))
 refine cd (i<a.length) Y (fun fhc0=> ?_) fun fhc0=> ?_
 ·refine sk ?_
  refine tn (sq (VRun.block (sr (mO (tN i) Y (aO (tN i) Y (nt (sq (VRun.draw (B:= [[],[],[],[2,1],[1,2,3],[3,2,1,4,0]]) (by kernel_rfl) (by kernel_rfl) (lD (OL.loadOn (us:=(Qb false b)) (tv (T.op 0 0) Y) Y QiX QbD (lb Y) Y) Y Y (mD (rd 2 Qb a) Y Y (mD (tN i) Y Y ?_)))))))))))
  obtain ⟨x1,hx1⟩:∃x,a[i]? =some x:=⟨_,List.getElem?_eq_getElem (by omega)⟩
  refine fD (OF.indexAddrR (row:=(Qb false x1)) (i:=i) (tv (rd 2 Qb a) Y) (tv (tN i) Y) Y (Qu _ hx1) U41 QbD Qik) Y Y (lD (OL.loadRn (us:=(Qb false x1)) (tv (T.rp (Qb false x1)) Y) QiX QbD (lb Y) Y) Y Y (fD (B.eql92 (a:=b) (b:=x1) (m:=false) (m':=false) (tv (T.agg (Qb false b)) Y) (tv (T.agg (Qb false x1)) Y)) Y Y (VRunD.nil (tn ?_))))
  refine cd (b=x1) Y (fun fhc1=> ?_) fun fhc1=> ?_
  ·refine sr ?_
   refine mO (tN i) Y (aO (tN i) Y (nt (rt (vinB.r (tr (tr (vinB.r (tr (vi (n':=((i:Nat):Int)) Y ?_)))))))))
   exact (QaW hx1 fhc1 hI'.2).symm
  refine sk (vinB.n (tn (VRun.region (fO (Qx (tv (tN i) Y) (VEv.int .i64 1) (by omega)) (mO (tN (i+1)) Y (VRunO.nil (tn ?_)))))))
  refine ⟨(i+1:Nat),?_,?_,Wk.mk (fun k=>k) ?_ ?_ ?_⟩
  ·exact hI'.next hx1 fhc1
  ·first | omega | (simp only [];omega) | (show _<_;omega) | (simp;omega)
  ·exact (b2 (b2 (b2 (b2 bn))))
  ·exact (b3 bn)
  ·exact nd Y
 refine VRun.exit (vthn.e (vthn.e (vinB.e (tn (sr (fO (OF.assign (VEv.int .i64 (-1))) (nt (rt (vi (n':=(-1)) Y ?_)))))))))
 exact (QbM (hI'.all fhc0)).symm
theorem Z4 (n:Nat) (a:List D.Meaning) (b:D.Meaning) (ha:a.length≤Zk):Pure (Qq Tryz.prog (n+2)) 127 [(rd 2 Qb a),(T.agg (Qb false b))] (tB (decide (b∈a))):=by
 refine Pure.intro (rs:= [ResultVar.tmp 4]) Tryz.func127 Y Y Y (E0:= [(0,(rd 2 Qb a)),(1,(T.agg (Qb false b)))]) Y ?_
 obtain ⟨hlim,hmx,hmax⟩:=QC
 refine sr (kO (B.box (ts:=(Qb false b)) (tv (T.agg (Qb false b)) Y) nofun Y) (fO (OF.assign (VEv.bool false)) (nt (sr (mO (rd 2 Qb a) Y (lO (OL.loadOn (us:=(Qb false b)) (tv (T.op 0 0) Y) Y QiX QbD (lb Y) Y) (cO (cS (vc (tv (rd 2 Qb a) Y) (vc (tv (T.agg (Qb false b)) Y) vn)) (lp Y (LendL.cons (lg okeMeaning) ln)) (Yd (n+0) a b (by first | assumption | omega)) Y Y) (fO (xge (tv (tI (ixF (fun y=>b=y) a)) Y) (VEv.int .i64 0)) (aO (tB (decide (0≤ixF (fun y=>b=y) a))) Y (nt (rt ?_)))))))))))
 refine vb (b':=(decide (0≤ixF (fun y=>b=y) a))) Y (Qv ?_)
 rw [Qfn]
 exact ⟨fun ⟨x,h1,h2⟩=>h2▸h1,fun h=>⟨b,h,rfl⟩⟩
theorem Qex (n:Nat) (a:List D.Meaning) (w:ByteArray) (s:Int) (ha:a.length≤Zk):Pure (Qq Tryz.prog (n+1)) 84 [(rd 2 Qb a),(tS w),(tI s)] (tB (decide (D.Meaning.mk w s∈a))):=by
 refine Pure.intro (rs:= [ResultVar.tmp 6]) Tryz.func84 Y Y Y (E0:= [(0,(rd 2 Qb a)),(1,(tS w)),(2,(tI s))]) Y ?_
 obtain ⟨hlim,hmx,hmax⟩:=QC
 refine sr (fO (OF.assign (VEv.bool false)) (nt (sq (sr (fO (OF.assign (VEv.int .i64 0)) (nt (VRun.block ?_)))))))
 refine VRun.loop (A:=Nat) (fun s_=> [(0,(rd 2 Qb a)),(1,(tS w)),(2,(tI s)),(7,(tN s_))]) (fun s_=>QU []) 0 (fun s_=>NoneTo (fun (y:D.Meaning)=>y.Word=w∧y.Sense=s) a s_) (fun s_=>a.length - s_) (0:Nat) ?_ (Wk.mk (fun k=>k) ?_ ?_ ?_) ?_
 ·exact NoneTo.start _ _
 ·exact (b2 (b2 (b2 (b2 bn))))
 ·exact bn
 ·exact nd Y
 rintro i (hI':NoneTo (fun (y:D.Meaning)=>y.Word=w∧y.Sense=s) a i)
 show VRun _ _ _ [(0,(rd 2 Qb a)),(1,(tS w)),(2,(tI s)),(7,(tN i))] (QU []) 0 _
 have hI1:=hI'.1
 refine sq (sr (mO (tN i) Y (mO (rd 2 Qb a) Y (lO (B.lenR (m:=a.length) (tv (rd 2 Qb a) Y) U41 (List.length_map ..)) (fO (Q2 (tv (tN i) Y) (tv (tN a.length) Y)) (nt ?_))))))
 refine cd (i<a.length) Y (fun fhc0=> ?_) fun fhc0=> ?_
 ·refine sk ?_
  refine tn (sq (VRun.block (sr (mO (rd 2 Qb a) Y (mO (tN i) Y ?_)))))
  obtain ⟨x1,hx1⟩:∃x,a[i]? =some x:=⟨_,List.getElem?_eq_getElem (by omega)⟩
  refine fO (OF.indexAddrR (row:=(Qb false x1)) (i:=i) (tv (rd 2 Qb a) Y) (tv (tN i) Y) Y (Qu _ hx1) U41 QbD Qik) (lr (tS x1.Word) Y (lb Y) QgT Y ZH (mO (tS w) Y (fO (B.seql (c:=(decide (x1.Word=w))) (tv (tS x1.Word) Y) (tv (tS w) Y) Y) (mO (tB (decide (x1.Word=w))) Y ?_))))
  refine VRunO.joinB 8 [22,23,24,25,26,27,28] 29 (tB (decide ((x1.Word=w)∧(x1.Sense=s)))) ?_ ?_
  ·refine gw (x1.Word=w) (fun fhg21_1=> ?_) fun fhg21_1=> ?_
   ·refine gF (dy fhg21_1) Y Y (OF.move (tv (rd 2 Qb a) Y)) ?_
    refine gF (dy fhg21_1) Y Y (OF.move (tv (tN i) Y)) (gF (dy fhg21_1) Y Y (OF.indexAddrR (row:=(Qb false x1)) (i:=i) (tv (rd 2 Qb a) Y) (tv (tN i) Y) Y (Qu _ hx1) U41 QbD Qik) (glr (tI x1.Sense) (dy fhg21_1) Y Y Y Y (lb Y) Qg4 Y QQ (gF (dy fhg21_1) Y Y (OF.move (tv (tI s) Y)) (gF (dy fhg21_1) Y Y (Z7 (tv (tI x1.Sense) Y) (tv (tI s) Y)) (fO (OF.pickT (VEv.tmpB Y (dy fhg21_1)) (tv (tB (decide (x1.Sense=s))) Y)) (VRunO.nil ?_))))))
    exact jq (congrArg T.bool (kAT fhg21_1 Y)) (js Y (js Y (js Y (js Y (js Y (js Y (js Y (jn))))))))
   ·refine Qz 7 7 true 21 (dz fhg21_1) Y Y Y ?_
    refine fO (OF.pickF (VEv.tmpB Y (dz fhg21_1)) (VEv.bool false)) (VRunO.nil ?_)
    exact jq (congrArg T.bool (kAF fhg21_1)) (js Y (js Y (js Y (js Y (js Y (js Y (js Y (jn))))))))
  refine nt ?_
  refine cd ((x1.Word=w)∧(x1.Sense=s)) Y (fun fhc1=> ?_) fun fhc1=> ?_
  ·refine sr ?_
   refine fO (OF.assign (VEv.bool true)) (nt (rt (vinB.r (tr (tr (vinB.r (tr (vb (b':=true) Y ?_))))))))
   refine dTr ?_;have hm:=List.mem_of_getElem? hx1;rwa [show x1=D.Meaning.mk w s from by obtain ⟨c1,c2⟩:=x1;simp only at fhc1;rw [fhc1.1,fhc1.2]] at hm
  refine sk (vinB.n (tn (VRun.region (mO (tN i) Y (fO (Qx (tv (tN i) Y) (VEv.int .i64 1) (by omega)) (aO (tN (i+1)) Y (VRunO.nil (tn ?_))))))))
  refine ⟨(i+1:Nat),?_,?_,Wk.mk (fun k=>k) ?_ ?_ ?_⟩
  ·exact hI'.next hx1 fhc1
  ·first | omega | (simp only [];omega) | (show _<_;omega) | (simp;omega)
  ·exact (b2 (b2 (b2 (b2 bn))))
  ·exact bn
  ·exact nd Y
 refine VRun.exit (vthn.e (vthn.e (vinB.e (tn (sr (fO (OF.assign (VEv.bool false)) (nt (rt (vb (b':=false) Y ?_)))))))))
 exact Yc (fun h_=>QiE (hI'.all fhc0) h_ ⟨rfl,rfl⟩)
theorem QeA (n:Nat) (a:List D.Meaning) (w:ByteArray) (s:Int) (ha:a.length≤Zk):Pure (Qq Tryz.prog (n+3)) 92 [(rd 2 Qb a),(tS w),(tI s)] (tB (decide (D.Meaning.mk w s∈a))):=by
 refine Pure.intro (rs:= [ResultVar.tmp 6]) Tryz.func92 Y Y Y (E0:= [(0,(rd 2 Qb a)),(1,(tS w)),(2,(tI s))]) Y ?_
 obtain ⟨hlim,hmx,hmax⟩:=QC
 refine sr (fO (OF.assign (VEv.bool false)) (nt (sr (mO (rd 2 Qb a) Y (mO (tS w) Y (mO (tI s) Y (fO (OF.build (l:= [(0,(tS w)),(1,(tI s))]) (zs:= [(tS ByteArray.empty),(tN 0)]) (out:= [(tS w),(tI s)]) (VEvp.cons (i:=0) (tv (tS w) Y) (VEvp.cons (i:=1) (tv (tI s) Y) VEvp.nil)) (bc nofun (bc nofun bn)) Tryz.underlying92 Qmz (fun _=>RL.cons (.str _) (RL.cons (.int _ _) (RL.nil _))) (by kernel_rfl) (by kernel_rfl)) (cO (cS (us:= [(rd 2 Qb a),(T.agg [(tS w),(tI s)])]) (vc (tv (rd 2 Qb a) Y) (vc (tv (T.agg [(tS w),(tI s)]) Y) vn)) (lp Y (LendL.cons (Lend.agg (LendL.cons (Lend.pl Y) (LendL.cons (Lend.pl Y) ln))) ln)) (Z4 (n+0) a (D.Meaning.mk w s) (by first | assumption | omega)) Y Y) (aO (tB (decide ((D.Meaning.mk w s)∈a))) Y (nt (rt ?_)))))))))))
 refine vb (b':=(decide ((D.Meaning.mk w s)∈a))) Y ?_
 first | rfl | (exact Qv (by omega)) | (symm;rw [decide_eq_false_iff_not];omega) | (symm;rw [decide_eq_true_eq];omega) | (simp_all;done)
theorem Qie (n:Nat) (a:List ByteArray) (ha:a.length≤mx):Pure (Qq Tryz.prog (n+3)) 78 [(rd 1 QF a)] (T.sl true 1 ((QG a).map (QF true))):=by
 refine Pure.intro (rs:= [ResultVar.tmp 2]) Tryz.func78 Y Y Y (E0:= [(0,(rd 1 QF a))]) Y ?_
 obtain ⟨hlim,hmx,hmax⟩:=QC
 refine sr (fO (OF.assign VEv.nils) (nt (sr (fO (OF.assign VEv.nils) (nt (sq (sr (mO (rd 1 QF a) Y (lO (B.lenR (m:=a.length) (tv (rd 1 QF a) Y) U54 (List.length_map ..)) (fO (OF.move (VEv.int .i64 0)) (nt ?_)))))))))))
 refine VRun.block (VRun.wk (Wk.phantom 3 1 Y) ?_)
 have he1: []=((QG (a.take 0)).map (QF true)):=by first | rfl | (rw [Ya hx1,Qbg,if_neg (by assumption)]) | (rw [Ya hx1,Qbg,if_pos (by assumption)]) | (rw [Ya hx1,Qbg,if_pos (by simpa using fhc1)]) | (simp;done) | omega
 refine VRun.loop (A:=Nat) (fun s_=> [(2,T.nils),(3,(T.os 1 0 0 (((QG (a.take s_)).map (QF true)).length))),(6,(rd 1 QF a)),(7,(tN a.length)),(8,(tN s_))]) (fun s_=>QU [(0,(Obj.rows 1 ((QG (a.take s_)).map (QF true))))]) 1 (fun s_=>s_≤a.length) (fun s_=>a.length - s_) (0:Nat) ?_ (Wk.mk (fun k=>k) ?_ ?_ ?_) ?_
 ·first | trivial | (simp;done) | omega | (constructor<;>simp)
 ·exact (b2 (bc ⟨(congrArg (fun n_=>T.os 1 0 0 n_) (show 0=((QG (a.take 0)).map (QF true)).length from (by first | rfl | (simp only [List.length_map];omega) | (simp only [List.length_map,List.length_set,List.length_append,List.length_take,List.length_replicate,List.length_cons,List.length_nil];omega)))),rfl⟩ (b2 (b2 (b2 bn)))))
 ·exact (bc ⟨(congrArg (fun l_=>some (Obj.rows 1 l_)) he1),(lb Y),rfl⟩ bn)
 ·exact nd Y
 rintro i (hI':i≤a.length)
 show VRun _ _ _ [(2,T.nils),(3,(T.os 1 0 0 (((QG (a.take i)).map (QF true)).length))),(6,(rd 1 QF a)),(7,(tN a.length)),(8,(tN i))] (QU [(0,(Obj.rows 1 ((QG (a.take i)).map (QF true))))]) 1 _
 have hI1:=hI'
 have hI2:=Qd1 (a.take i)
 have hI3:(a.take i).length≤a.length:=by rw [List.length_take];omega
 refine sr (fO (Q2 (tv (tN i) Y) (tv (tN a.length) Y)) (nt (sq ?_)))
 refine cd (i<a.length) Y (fun fhc0=> ?_) fun fhc0=> ?_
 ·refine sk ?_
  refine tn (sq (VRun.block (sr ?_)))
  obtain ⟨x1,hx1⟩:∃x,a[i]? =some x:=⟨_,List.getElem?_eq_getElem (by omega)⟩
  refine fO (OF.indexAddrR (row:=(QF false x1)) (i:=i) (tv (rd 1 QF a) Y) (tv (tN i) Y) Y (Qu _ hx1) U54 sz9 if9) (lO (OL.loadR1 (t:=(tS x1)) (tv (T.rp [(tS x1)]) Y) Y ZH) (aO (tS x1) Y (nt (sr (mO (T.os 1 0 0 (((QG (a.take i)).map (QF true)).length)) Y (mO (tS x1) Y (cO (cS (us:= [(rd 1 QF (QG (a.take i))),(tS x1)]) (vc (tv (T.os 1 0 0 (((QG (a.take i)).map (QF true)).length)) Y) (vc (tv (tS x1) Y) vn)) (LendL.cons (Lend.os Y Y (okStr.fzMap _ _)) (lp Y ln)) (YY (n+0) (QG (a.take i)) x1 (by first | assumption | omega)) Y Y) (fO (QW (tv (tB (decide (x1∈(QG (a.take i))))) Y)) (nt ?_)))))))))
  refine cn (x1∈(QG (a.take i))) Y (fun fhc1=> ?_) fun fhc1=> ?_
  ·refine VRun.region ?_
   refine mO (T.os 1 0 0 (((QG (a.take i)).map (QF true)).length)) Y (mO (tS x1) Y (kO (OM.buildSlice (l:= [(tS x1)]) (VEvp.cons (tv (tS x1) Y) VEvp.nil) Y (by decide) (bc (nofun) bn) (bc ((bc (Y) bn)) bn) (bc (Y) bn) U54 zo9 (by kernel_rfl) Y (by rw [sz9];decide) sz9 (Nat.le_of_ble_eq_true Y)) (cO (B.append (rows:=((QG (a.take i)).map (QF true))) (rows2:= [[(tS x1)]]) (rows3:=((QG (a.take i)++ [x1]).map (QF true))) (VDst.own (tv (T.os 1 0 0 (((QG (a.take i)).map (QF true)).length)) Y) Y Y) (VSrc.own (tv (T.os 1 1 0 1) Y) Y Y U54 (bc (bc Y bn) bn)) (by decide) U54 sz9 (by decide) zo9 Y (of_decide_eq_true (by kernel_rfl)) (by first | omega | (simp only [List.length_map];omega) | (simp only [List.length_map,List.length_append,List.length_cons,List.length_nil,List.length_replicate,List.length_set,List.length_drop,List.length_take,Zk] at *;omega)) ((List.map_append (f:=QF true) (l₁:=QG (a.take i)) (l₂:= [x1])).symm)) (aO (T.os 1 2 0 (((QG (a.take i)++ [x1]).map (QF true)).length)) Y (VRunO.nil (vinB.n (tn (VRun.region (fO (Qx (tv (tN i) Y) (VEv.int .i64 1) (by omega)) (mO (tN (i+1)) Y (VRunO.nil ?_)))))))))))
   refine tn ?_
   have he2:(QG (a.take i)++ [x1])=QG (a.take (i+1)):=by first | rfl | (rw [Ya hx1,Qbg,if_neg (by assumption)]) | (rw [Ya hx1,Qbg,if_pos (by assumption)]) | (rw [Ya hx1,Qbg,if_pos (by simpa using fhc1)]) | (simp;done) | omega
   refine ⟨(i+1:Nat),?_,?_,Wk.mk (fun k=>if k=0 then 2 else k) ?_ ?_ ?_⟩
   ·first | trivial | omega | (simp;done) | exact ⟨by omega,hI'.2⟩
   ·first | omega | (simp only [];omega) | (show _<_;omega) | (simp;omega)
   ·exact (b2 (bc ⟨(congrArg (fun l_=>T.os 1 2 0 (List.map (QF true) l_).length) he2),rfl⟩ (b2 (b2 (b2 bn)))))
   ·exact (bc ⟨(congrArg (fun l_=>some (Obj.rows 1 (List.map (QF true) l_))) he2),(lb Y),rfl⟩ bn)
   ·exact nd Y
  refine sk (vinB.n (tn (VRun.region (fO (Qx (tv (tN i) Y) (VEv.int .i64 1) (by omega)) (mO (tN (i+1)) Y (VRunO.nil (tn ?_)))))))
  have he3:QG (a.take i)=QG (a.take (i+1)):=by first | rfl | (rw [Ya hx1,Qbg,if_neg (by assumption)]) | (rw [Ya hx1,Qbg,if_pos (by assumption)]) | (rw [Ya hx1,Qbg,if_pos (by simpa using fhc1)]) | (simp;done) | omega
  refine ⟨(i+1:Nat),?_,?_,Wk.mk (fun k=>k) ?_ ?_ ?_⟩
  ·first | trivial | omega | (simp;done) | exact ⟨by omega,hI'.2⟩
  ·first | omega | (simp only [];omega) | (show _<_;omega) | (simp;omega)
  ·exact (b2 (bc ⟨(congrArg (fun l_=>T.os 1 0 0 (List.map (QF true) l_).length) he3),rfl⟩ (b2 (b2 (b2 bn)))))
  ·exact (bc ⟨(congrArg (fun l_=>some (Obj.rows 1 (List.map (QF true) l_))) he3),(lb Y),rfl⟩ bn)
  ·exact nd Y
 refine VRun.exit (vthn.e (vthn.e (vinB.e (tn (sr (mO (T.os 1 0 0 (((QG (a.take i)).map (QF true)).length)) Y (aO (T.os 1 0 0 (((QG (a.take i)).map (QF true)).length)) Y (nt (rt ?_)))))))))
 refine vfin.eq (r':=(T.sl true 1 ((QG (a.take i)).map (QF true)))) ?_ (vfin.r (VRes.tmp (t:=(T.os 1 0 0 (((QG (a.take i)).map (QF true)).length))) Y VRes.nil) (Give.os Y Y (okStr.cleanMap _)))
 refine congrArg (fun l_=>T.sl true 1 (List.map (QF true) l_)) ?_
 rw [List.take_of_length_le (by omega)]
noncomputable section
def Qbp (c:D.Clue) (d:List D.Meaning) (w:ByteArray):Prop:=((1≤c.Sense∧c.Sense≤99)∧QR c.Play)∧D.Meaning.mk w c.Sense∈d∧QdR c.Play w
instance (c:D.Clue) (d:List D.Meaning) (w:ByteArray):Decidable (Qbp c d w):=Classical.propDecidable _
theorem Qgn (c:D.Clue) (d:List D.Meaning) (w:ByteArray):((((1≤c.Sense∧c.Sense≤99)∧QR c.Play)∧D.Meaning.mk w c.Sense∈d)∧QdR c.Play w)↔Qbp c d w:=and_assoc
def oaP (p:D.Puzzle) (d:List D.Meaning) (x:D.Report):Prop:=(x.Kind=2∧0≤x.Slot∧x.Slot<((p.Clues.length:Nat):Int))∧(∃c,p.Clues[Int.toNat x.Slot]? =some c∧Qbp c d x.Word)∧¬J4 p.Seals p.Salt x.Slot x.Word
instance (p:D.Puzzle) (d:List D.Meaning) (x:D.Report):Decidable (oaP p d x):=Classical.propDecidable _
def ZO (l:List D.Report) (p:D.Puzzle) (d:List D.Meaning):List ByteArray:=(l.filter (fun x=>decide (oaP p d x))).map (fun x=>x.Word)
def oaW (l:List D.Report) (p:D.Puzzle) (d:List D.Meaning):List ByteArray:=if YB p then QG (ZO l p d) else []
theorem Qhy (l:List D.Report) (p:D.Puzzle) (d:List D.Meaning):(ZO l p d).length≤l.length:=by
 rw [ZO,List.length_map]
 exact List.length_filter_le _ _
theorem Qd8 {l:List D.Report} {p:D.Puzzle} {d:List D.Meaning} {i:Nat} {x:D.Report} (h:l[i]? =some x) (hp:oaP p d x):ZO (l.take (i+1)) p d=ZO (l.take i) p d++ [x.Word]:=by
 unfold ZO
 rw [List.take_add_one,h,List.filter_append,List.map_append]
 simp [hp]
theorem Z9 {l:List D.Report} {p:D.Puzzle} {d:List D.Meaning} {i:Nat} {x:D.Report} (h:l[i]? =some x) (hp:¬oaP p d x):ZO (l.take (i+1)) p d=ZO (l.take i) p d:=by
 unfold ZO
 rw [List.take_add_one,h,List.filter_append,List.map_append]
 simp [hp]
theorem Jp {p:D.Puzzle} {d:List D.Meaning} {x:D.Report} {c:D.Clue} (h:p.Clues[Int.toNat x.Slot]? =some c) (hn:¬Qbp c d x.Word):¬oaP p d x:=fun h_=>by
 obtain ⟨c2,h1,h2⟩:=h_.2.1
 rw [h] at h1
 exact hn (Option.some.inj h1▸h2)
theorem Qe5 (l:List ByteArray) (w:ByteArray):QG (l++ [w])=Qbg (QG l) w:=by
 unfold QG
 rw [List.foldl_append]
 rfl
end
theorem QcC {l:List D.Report} {p:D.Puzzle} {d:List D.Meaning} {i:Nat} {x:D.Report} (h:l[i]? =some x) (hw:x.Word∈QG (ZO (l.take i) p d)):QG (ZO (l.take i) p d)=QG (ZO (l.take (i+1)) p d):=by
 by_cases hp:oaP p d x
 ·rw [Qd8 h hp,Qe5,Qbg,if_pos hw]
 ·rw [Z9 h hp]
theorem Qcy {l:List D.Report} {p:D.Puzzle} {d:List D.Meaning} {i:Nat} {x:D.Report} (h:l[i]? =some x) (hp:oaP p d x) (hw:¬x.Word∈QG (ZO (l.take i) p d)):QG (ZO (l.take i) p d)++ [x.Word]=QG (ZO (l.take (i+1)) p d):=by
 rw [Qd8 h hp,Qe5,Qbg,if_neg hw]
theorem ZW {l:List D.Report} {p:D.Puzzle} {d:List D.Meaning} {i:Nat} {x:D.Report} (h:l[i]? =some x) (hp:¬oaP p d x):QG (ZO (l.take i) p d)=QG (ZO (l.take (i+1)) p d):=by rw [Z9 h hp]
theorem QjS {l:List D.Report} {p:D.Puzzle} {d:List D.Meaning} {i:Nat} (h:YB p) (hi:l.length≤i):QG (ZO (l.take i) p d)=oaW l p d:=by rw [List.take_of_length_le hi,oaW,if_pos h]
theorem QjJ {l:List D.Report} {p:D.Puzzle} {d:List D.Meaning} {i:Nat} (h:¬YB p) (hi:0<i→YB p):QG (ZO (l.take i) p d)=oaW l p d:=by
 rcases Nat.eq_zero_or_pos i with rfl | h1
 ·rw [oaW,if_neg h]
  rfl
 ·exact absurd (hi h1) h
theorem Qeg (n:Nat) (c:D.Clue) (d:List D.Meaning) (w:ByteArray) (hz:QP c≤mx) (hd:d.length≤Zk) (hw:w.size≤maxLen):Pure (Qq Tryz.prog (n+25)) 68 [(T.agg (Qi false c)),(rd 2 Qb d),(tS w)] (tB (decide (Qbp c d w))):=by
 refine Pure.intro (rs:= [ResultVar.tmp 6]) Tryz.func68 Y Y Y (E0:= [(0,(T.agg (Qi false c))),(1,(rd 2 Qb d)),(2,(tS w))]) Y ?_
 obtain ⟨hlim,hmx,hmax⟩:=QC
 have hzz:=hz
 simp only [QP] at hzz
 refine sr (kO (B.box (ts:=(Qi false c)) (tv (T.agg (Qi false c)) Y) nofun Y) (fO (OF.assign (VEv.bool false)) (nt (sr (lO (OL.loadOn (us:=(Qi false c)) (tv (T.op 0 0) Y) Y Qft J5 (lb Y) Y) (cO (cS (vc (tv (T.agg (Qi false c)) Y) vn) (LendL.cons (lg okeClue) ln) (Qcf (n+19) c (by first | assumption | omega)) Y Y) (mO (tB (decide ((1≤c.Sense∧c.Sense≤99)∧QR c.Play))) Y ?_)))))))
 refine VRunO.joinB 6 [10,11,12,13,14] 15 (tB (decide (((1≤c.Sense∧c.Sense≤99)∧QR c.Play)∧(D.Meaning.mk w c.Sense∈d)))) ?_ ?_
 ·refine gw ((1≤c.Sense∧c.Sense≤99)∧QR c.Play) (fun fhg9_1=> ?_) fun fhg9_1=> ?_
  ·refine gF (dy fhg9_1) Y Y (OF.move (tv (rd 2 Qb d) Y)) ?_
   refine gF (dy fhg9_1) Y Y (OF.move (tv (tS w) Y)) (Yt (tI c.Sense) (dy fhg9_1) Y Y Y Y Qci Y Y QQ (VRunO.chain (VWant.on Y Y (dy fhg9_1)) (cS (vc (tv (rd 2 Qb d) Y) (vc (tv (tS w) Y) (vc (tv (tI c.Sense) Y) vn))) (Q8 Y) (Qex (n+23) d w c.Sense (by first | assumption | omega)) Y Y) (fO (OF.pickT (VEv.tmpB Y (dy fhg9_1)) (tv (tB (decide (D.Meaning.mk w c.Sense∈d))) Y)) (VRunO.nil ?_))))
   exact jq (congrArg T.bool (kAT fhg9_1 Y)) (js Y (js Y (js Y (js Y (js Y (jn))))))
  ·refine Qz 5 2 true 9 (dz fhg9_1) Y Y Y ?_
   refine fO (OF.pickF (VEv.tmpB Y (dz fhg9_1)) (VEv.bool false)) (VRunO.nil ?_)
   exact jq (congrArg T.bool (kAF fhg9_1)) (js Y (js Y (js Y (js Y (js Y (jn))))))
 refine mO (tB (decide (((1≤c.Sense∧c.Sense≤99)∧QR c.Play)∧(D.Meaning.mk w c.Sense∈d)))) Y ?_
 refine VRunO.joinB 5 [17,18,19,20] 21 (tB (decide ((((1≤c.Sense∧c.Sense≤99)∧QR c.Play)∧(D.Meaning.mk w c.Sense∈d))∧(QdR c.Play w)))) ?_ ?_
 ·refine gw (((1≤c.Sense∧c.Sense≤99)∧QR c.Play)∧(D.Meaning.mk w c.Sense∈d)) (fun fhg16_2=> ?_) fun fhg16_2=> ?_
  ·refine Yt (rd 4 Qf c.Play) (dy fhg16_2) Y Y Y Y Qcz Y Y Qks ?_
   refine gF (dy fhg16_2) Y Y (OF.move (tv (tS w) Y)) (VRunO.chain (VWant.on Y Y (dy fhg16_2)) (cS (vc (tv (rd 4 Qf c.Play) Y) (vc (tv (tS w) Y) vn)) (Q8 Y) (QhC (n+0) c.Play w (by first | assumption | omega) (by first | assumption | omega)) Y Y) (fO (OF.pickT (VEv.tmpB Y (dy fhg16_2)) (tv (tB (decide (QdR c.Play w))) Y)) (VRunO.nil ?_)))
   exact jq (congrArg T.bool (kAT fhg16_2 Y)) (js Y (js Y (js Y (js Y (jn)))))
  ·refine Qz 4 9 true 16 (dz fhg16_2) Y Y Y ?_
   refine fO (OF.pickF (VEv.tmpB Y (dz fhg16_2)) (VEv.bool false)) (VRunO.nil ?_)
   exact jq (congrArg T.bool (kAF fhg16_2)) (js Y (js Y (js Y (js Y (jn)))))
 refine aO (tB (decide ((((1≤c.Sense∧c.Sense≤99)∧QR c.Play)∧(D.Meaning.mk w c.Sense∈d))∧(QdR c.Play w)))) Y (nt (rt (vb (b':=(decide ((((1≤c.Sense∧c.Sense≤99)∧QR c.Play)∧(D.Meaning.mk w c.Sense∈d))∧(QdR c.Play w)))) Y ?_)))
 exact Qv (Qgn c d w)
theorem Qeu (n:Nat) (c:D.Clue) (d:List D.Meaning) (w:ByteArray) (hz:QP c≤mx) (hd:d.length≤Zk) (hw:w.size≤maxLen):Pure (Qq Tryz.prog (n+18)) 77 [(T.agg (Qi false c)),(rd 2 Qb d),(tS w)] (tB (decide (Qbp c d w))):=by
 refine Pure.intro (rs:= [ResultVar.tmp 6]) Tryz.func77 Y Y Y (E0:= [(0,(T.agg (Qi false c))),(1,(rd 2 Qb d)),(2,(tS w))]) Y ?_
 obtain ⟨hlim,hmx,hmax⟩:=QC
 have hzz:=hz
 simp only [QP] at hzz
 refine sr (kO (B.box (ts:=(Qi false c)) (tv (T.agg (Qi false c)) Y) nofun Y) (fO (OF.assign (VEv.bool false)) (nt (sr (lO (OL.loadOn (us:=(Qi false c)) (tv (T.op 0 0) Y) Y Qft J5 (lb Y) Y) (cO (cS (vc (tv (T.agg (Qi false c)) Y) vn) (LendL.cons (lg okeClue) ln) (Qcd (n+13) c (by first | assumption | omega)) Y Y) (mO (tB (decide ((1≤c.Sense∧c.Sense≤99)∧QR c.Play))) Y ?_)))))))
 refine VRunO.joinB 6 [10,11,12,13,14] 15 (tB (decide (((1≤c.Sense∧c.Sense≤99)∧QR c.Play)∧(D.Meaning.mk w c.Sense∈d)))) ?_ ?_
 ·refine gw ((1≤c.Sense∧c.Sense≤99)∧QR c.Play) (fun fhg9_1=> ?_) fun fhg9_1=> ?_
  ·refine gF (dy fhg9_1) Y Y (OF.move (tv (rd 2 Qb d) Y)) ?_
   refine gF (dy fhg9_1) Y Y (OF.move (tv (tS w) Y)) (Yt (tI c.Sense) (dy fhg9_1) Y Y Y Y Qci Y Y QQ (VRunO.chain (VWant.on Y Y (dy fhg9_1)) (cS (vc (tv (rd 2 Qb d) Y) (vc (tv (tS w) Y) (vc (tv (tI c.Sense) Y) vn))) (Q8 Y) (QeA (n+14) d w c.Sense (by first | assumption | omega)) Y Y) (fO (OF.pickT (VEv.tmpB Y (dy fhg9_1)) (tv (tB (decide (D.Meaning.mk w c.Sense∈d))) Y)) (VRunO.nil ?_))))
   exact jq (congrArg T.bool (kAT fhg9_1 Y)) (js Y (js Y (js Y (js Y (js Y (jn))))))
  ·refine Qz 5 2 true 9 (dz fhg9_1) Y Y Y ?_
   refine fO (OF.pickF (VEv.tmpB Y (dz fhg9_1)) (VEv.bool false)) (VRunO.nil ?_)
   exact jq (congrArg T.bool (kAF fhg9_1)) (js Y (js Y (js Y (js Y (js Y (jn))))))
 refine mO (tB (decide (((1≤c.Sense∧c.Sense≤99)∧QR c.Play)∧(D.Meaning.mk w c.Sense∈d)))) Y ?_
 refine VRunO.joinB 5 [17,18,19,20] 21 (tB (decide ((((1≤c.Sense∧c.Sense≤99)∧QR c.Play)∧(D.Meaning.mk w c.Sense∈d))∧(QdR c.Play w)))) ?_ ?_
 ·refine gw (((1≤c.Sense∧c.Sense≤99)∧QR c.Play)∧(D.Meaning.mk w c.Sense∈d)) (fun fhg16_2=> ?_) fun fhg16_2=> ?_
  ·refine Yt (rd 4 Qf c.Play) (dy fhg16_2) Y Y Y Y Qcz Y Y Qks ?_
   refine gF (dy fhg16_2) Y Y (OF.move (tv (tS w) Y)) (VRunO.chain (VWant.on Y Y (dy fhg16_2)) (cS (vc (tv (rd 4 Qf c.Play) Y) (vc (tv (tS w) Y) vn)) (Q8 Y) (Qhl (n+0) c.Play w (by first | assumption | omega) (by first | assumption | omega)) Y Y) (fO (OF.pickT (VEv.tmpB Y (dy fhg16_2)) (tv (tB (decide (QdR c.Play w))) Y)) (VRunO.nil ?_)))
   exact jq (congrArg T.bool (kAT fhg16_2 Y)) (js Y (js Y (js Y (js Y (jn)))))
  ·refine Qz 4 9 true 16 (dz fhg16_2) Y Y Y ?_
   refine fO (OF.pickF (VEv.tmpB Y (dz fhg16_2)) (VEv.bool false)) (VRunO.nil ?_)
   exact jq (congrArg T.bool (kAF fhg16_2)) (js Y (js Y (js Y (js Y (jn)))))
 refine aO (tB (decide ((((1≤c.Sense∧c.Sense≤99)∧QR c.Play)∧(D.Meaning.mk w c.Sense∈d))∧(QdR c.Play w)))) Y (nt (rt (vb (b':=(decide ((((1≤c.Sense∧c.Sense≤99)∧QR c.Play)∧(D.Meaning.mk w c.Sense∈d))∧(QdR c.Play w)))) Y ?_)))
 exact Qv (Qgn c d w)
theorem Qb0 (n:Nat) (l:List D.Report) (p:D.Puzzle) (d:List D.Meaning) (hl:zL QA l≤mx) (hp:QN p≤mx) (hd:d.length≤Zk):Pure (Qq Tryz.prog (n+43)) 43 [(rd 4 Qa l),(T.agg (Qt false p)),(rd 2 Qb d)] (T.sl true 1 ((oaW l p d).map (QF true))):=by
 refine Pure.intro (rs:= [ResultVar.tmp 6]) Tryz.func43 Y Y Y (E0:= [(0,(rd 4 Qa l)),(1,(T.agg (Qt false p))),(2,(rd 2 Qb d))]) Y ?_
 obtain ⟨hlim,hmx,hmax⟩:=QC
 have hll:=QV (z:=QA) l
 have hpp:=hp
 simp only [QN,ZC] at hpp
 have hcl:=QV (z:=QP) p.Clues
 have hsl:=QV (z:=zI) p.Seals
 refine sr (kO (B.box (ts:=(Qt false p)) (tv (T.agg (Qt false p)) Y) nofun Y) (fO (OF.assign VEv.nils) (nt (sq (sr (lO (OL.loadOn (us:=(Qt false p)) (tv (T.op 0 0) Y) Y Qgg QeI (lb Y) Y) (cO (cS (vc (tv (T.agg (Qt false p)) Y) vn) (LendL.cons (lg Yj) ln) (Qbd (n+0) p (by first | assumption | omega)) Y Y) (fO (QW (tv (tB (decide (YB p))) Y)) (nt ?_)))))))))
 refine cn (YB p) Y (fun fhc0=> ?_) fun fhc0=> ?_
 ·refine sr ?_
  refine fO (OF.assign VEv.nils) (nt (rt (tr ?_)))
  refine vfin.eq (r':=(T.sl true 1 [])) ?_ (vfin.r (VRes.tmp (t:=T.nils) Y VRes.nil) (Give.nils 1))
  refine congrArg (fun l_=>T.sl true 1 (List.map (QF true) l_)) (a₁:= []) ?_
  first | exact (if_neg fhc0).symm | (refine QjS fhc0 ?_;omega)
 refine sk (tn (sr (fO (OF.assign VEv.nils) (nt (sq (sr (mO (rd 4 Qa l) Y (lO (B.lenR (m:=l.length) (tv (rd 4 Qa l) Y) U34 (List.length_map ..)) (fO (OF.move (VEv.int .i64 0)) (nt (VRun.block ?_)))))))))))
 refine VRun.wk (Wk.phantom 7 1 Y) ?_
 have he1: []=((ZO (l.take 0) p d).map (QF true)):=by first | rfl | rfl | (rw [Qd8 hx1 ⟨⟨fhg22_2,fhg30_3⟩,⟨x2,hx2,fhg42_4⟩,fhc2⟩]) | (rw [Z9 hx1 (fun h_=>h_.2.2 fhc2)]) | (rw [Z9 hx1 (Jp hx2 fhg42_4)]) | (rw [Z9 hx1 (fun h_=>fhg30_3 h_.1.2)]) | (rw [Z9 hx1 (fun h_=>fhg22_2 h_.1.1)]) | (simp;done) | omega
 refine VRun.loop (A:=Nat) (fun s_=> [(2,(rd 2 Qb d)),(4,(T.op 0 0)),(6,T.nils),(7,(T.os 1 1 0 (((ZO (l.take s_) p d).map (QF true)).length))),(13,(rd 4 Qa l)),(14,(tN l.length)),(15,(tN s_))]) (fun s_=>QU [(0,(Obj.cells (Qt false p))),(1,(Obj.rows 1 ((ZO (l.take s_) p d).map (QF true))))]) 2 (fun s_=>s_≤l.length) (fun s_=>l.length - s_) (0:Nat) ?_ (Wk.mk (fun k=>k) ?_ ?_ ?_) ?_
 ·first | trivial | (simp;done) | omega | (constructor<;>simp)
 ·exact (b2 (b2 (b2 (bc ⟨(congrArg (fun n_=>T.os 1 1 0 n_) (show 0=((ZO (l.take 0) p d).map (QF true)).length from (by first | rfl | (simp only [List.length_map];omega) | (simp only [List.length_map,List.length_set,List.length_append,List.length_take,List.length_replicate,List.length_cons,List.length_nil];omega)))),rfl⟩ (b2 (b2 (b2 bn)))))))
 ·exact (b3 (bc ⟨(congrArg (fun l_=>some (Obj.rows 1 l_)) he1),(lb Y),rfl⟩ bn))
 ·exact nd Y
 rintro i (hI':i≤l.length)
 show VRun _ _ _ [(2,(rd 2 Qb d)),(4,(T.op 0 0)),(6,T.nils),(7,(T.os 1 1 0 (((ZO (l.take i) p d).map (QF true)).length))),(13,(rd 4 Qa l)),(14,(tN l.length)),(15,(tN i))] (QU [(0,(Obj.cells (Qt false p))),(1,(Obj.rows 1 ((ZO (l.take i) p d).map (QF true))))]) 2 _
 have hI1:=hI'
 have hI2:=Qhy (l.take i) p d
 have hI3:(l.take i).length≤l.length:=by rw [List.length_take];omega
 refine sr (fO (Q2 (tv (tN i) Y) (tv (tN l.length) Y)) (nt (sq ?_)))
 refine cd (i<l.length) Y (fun fhc1=> ?_) fun fhc1=> ?_
 ·refine sk ?_
  refine tn (sq (VRun.block (sr ?_)))
  obtain ⟨x1,hx1⟩:∃x,l[i]? =some x:=⟨_,List.getElem?_eq_getElem (by omega)⟩
  first | (have hz1:=JH (z:=QA) hx1;simp only [QA] at hz1) | (have hz1:=JH (z:=QP) hx1)
  refine fO (OF.indexAddrR (row:=(Qa false x1)) (i:=i) (tv (rd 4 Qa l) Y) (tv (tN i) Y) Y (Qu _ hx1) U34 YE QaT) (lO (OL.loadRn (us:=(Qa false x1)) (tv (T.rp (Qa false x1)) Y) QfZ YE (lb Y) Y) (kO (B.alloc (t:=(T.agg [(tN 0),(tN 0),(tN 0),(tS ByteArray.empty)])) (ts:= [(tN 0),(tN 0),(tN 0),(tS ByteArray.empty)]) QiU QiY nofun (fun _=> .agg _ _ Y (YK (RL.cons (.int _ _) (RL.cons (.int _ _) (RL.cons (.int _ _) (RL.cons (.str _) (RL.nil _))))))) Y) (cO (B.storeW (us:=(Qa false x1)) (tv (T.op 2 0) Y) (tv (T.agg (Qa false x1)) Y) nofun Y Y Y QaT YE (bc Y (bc Y (bc Y (bc Y bn))))) (nt (sq (VRun.draw (B:= [[],[0],[0,1],[1,0,2],[2,0,1,3],[3,1,0,2,4],[2,0,1,3],[3,1,0,2,6],[6,2,0,1,3,7],[7,6,8,4,2,0,1,3,5],[5,4,8,6,7,9,2,0,1,3],[3,1,0,2,9,7,6,8,4,5,10],[10,5,4,8,6,7,9,2,0,1,3,11],[11,3,1,0,2,9,7,6,8,4,5,10,12],[10,5,4,8,6,7,9,2,0,1,3,11],[11,3,1,0,2,9,7,6,8,4,5,10,14],[14,15,12,10,5,4,8,6,7,9,2,0,1,3,11,13],[13,11,3,1,0,2,9,7,6,8,4,5,10,12,15,14,16],[10,5,4,8,6,7,9,2,0,1,3,11],[10,5,4,8,6,7,9,2,0,1,3,11],[11,3,1,0,2,9,7,6,8,4,5,10,19],[19,20,18,16,14,15,12,10,5,4,8,6,7,9,2,0,1,3,11,13,17],[17,13,12,15,14,16,18,20,19,21,10,5,4,8,6,7,9,2,0,1,3,11],[11,3,1,0,2,9,7,6,8,4,5,10,21,19,20,18,16,14,15,12,13,17,22],[22,17,13,12,15,14,16,18,20,19,21,10,5,4,8,6,7,9,2,0,1,3,11,23],[23,11,3,1,0,2,9,7,6,8,4,5,10,21,19,20,18,16,14,15,12,13,17,22,24],[22,17,13,12,15,14,16,18,20,19,21,10,5,4,8,6,7,9,2,0,1,3,11,23],[23,11,3,1,0,2,9,7,6,8,4,5,10,21,19,20,18,16,14,15,12,13,17,22,26],[22,17,13,12,15,14,16,18,20,19,21,10,5,4,8,6,7,9,2,0,1,3,11,23],[23,11,3,1,0,2,9,7,6,8,4,5,10,21,19,20,18,16,14,15,12,13,17,22,28],[22,17,13,12,15,14,16,18,20,19,21,10,5,4,8,6,7,9,2,0,1,3,11,23],[23,11,3,1,0,2,9,7,6,8,4,5,10,21,19,20,18,16,14,15,12,13,17,22,30],[30,31,28,29,26,27,24,22,17,13,12,15,14,16,18,20,19,21,10,5,4,8,6,7,9,2,0,1,3,11,23,25],[25,23,11,3,1,0,2,9,7,6,8,4,5,10,21,19,20,18,16,14,15,12,13,17,22,24,27,26,29,28,31,30,32],[32,30,31,28,29,26,27,24,25,33,22,17,13,12,15,14,16,18,20,19,21,10,5,4,8,6,7,9,2,0,1,3,11,23]]) (by kernel_rfl) (by kernel_rfl) (fD (OF.fieldAddrO (tv (T.op 2 0) Y) Qa1) Y Y (lD (OL.loadO1 (t:=(tI x1.Kind)) (tv (T.op 2 2) Y) Y Y QQ) Y Y (fD (Z7 (tv (tI x1.Kind) Y) (VEv.int .i64 2)) Y Y (mD (tB (decide (x1.Kind=2))) Y Y ?_))))))))))
  refine gw (x1.Kind=2) (fun fhg22_2=> ?_) fun fhg22_2=> ?_
  ·refine VRunD.free Y (VWant.on Y Y (dy fhg22_2)) Y (OF.fieldAddrO (tv (T.op 2 0) Y) Jg) ?_
   refine VRunD.look Y (VWant.on Y Y (dy fhg22_2)) Y (OL.loadO1 (t:=(tI x1.Slot)) (tv (T.op 2 1) Y) Y Y QQ) (VRunD.free Y (VWant.on Y Y (dy fhg22_2)) Y (OF.fieldAddrO (tv (T.op 0 0) Y) Y5) (VRunD.look Y (VWant.on Y Y (dy fhg22_2)) Y (OL.loadO1 (t:=(rd 2 Qi p.Clues)) (tv (T.op 0 3) Y) Y Y QdI) (VRunD.look Y (VWant.on Y Y (dy fhg22_2)) Y (B.lenR (m:=p.Clues.length) (tv (rd 2 Qi p.Clues) Y) U37 (List.length_map ..)) (VRunD.quiet (bi:= [7,6,8,4,2,0,1,3,5]) Y (VWant.on Y Y (dy fhg22_2)) Y Y Y bn (cS (vc (tv (tI x1.Slot) Y) (vc (tv (tN p.Clues.length) Y) vn)) (Q8 Y) (YR (n+41) x1.Slot ((p.Clues.length:Nat):Int)) Y Y) (fD (OF.pickT (VEv.tmpB Y (dy fhg22_2)) (tv (tB (decide (0≤x1.Slot∧x1.Slot<((p.Clues.length:Nat):Int)))) Y)) Y Y (mD (tB (decide (0≤x1.Slot∧x1.Slot<((p.Clues.length:Nat):Int)))) Y Y ?_))))))
   refine gw (0≤x1.Slot∧x1.Slot<((p.Clues.length:Nat):Int)) (fun fhg30_3=> ?_) fun fhg30_3=> ?_
   ·refine VRunD.free Y (VWant.on Y Y (dy fhg30_3)) Y (OF.fieldAddrO (tv (T.op 0 0) Y) Y5) ?_
    refine VRunD.look Y (VWant.on Y Y (dy fhg30_3)) Y (OL.loadO1 (t:=(rd 2 Qi p.Clues)) (tv (T.op 0 3) Y) Y Y QdI) (VRunD.free Y (VWant.on Y Y (dy fhg30_3)) Y (OF.fieldAddrO (tv (T.op 2 0) Y) Jg) (VRunD.look Y (VWant.on Y Y (dy fhg30_3)) Y (OL.loadO1 (t:=(tI x1.Slot)) (tv (T.op 2 1) Y) Y Y QQ) ?_))
    obtain ⟨x2,hx2⟩:∃x,p.Clues[(Int.toNat x1.Slot)]? =some x:=⟨_,List.getElem?_eq_getElem (by omega)⟩
    first | (have hz2:=JH (z:=QA) hx2;simp only [QA] at hz2) | (have hz2:=JH (z:=QP) hx2)
    refine VRunD.free Y (VWant.on Y Y (dy fhg30_3)) Y (OF.indexAddrR (row:=(Qi false x2)) (i:=(Int.toNat x1.Slot)) (tv (rd 2 Qi p.Clues) Y) (tv (tI x1.Slot) Y) (by omega) (Qu _ hx2) U37 J5 Qhi) (VRunD.look Y (VWant.on Y Y (dy fhg30_3)) Y (OL.loadRn (us:=(Qi false x2)) (tv (T.rp (Qi false x2)) Y) Qft J5 (lb Y) Y) (VRunD.free Y (VWant.on Y Y (dy fhg30_3)) Y (OF.move (tv (rd 2 Qb d) Y)) (VRunD.free Y (VWant.on Y Y (dy fhg30_3)) Y (OF.fieldAddrO (tv (T.op 2 0) Y) JD) (VRunD.look Y (VWant.on Y Y (dy fhg30_3)) Y (OL.loadO1 (t:=(tS x1.Word)) (tv (T.op 2 3) Y) Y Y ZH) (VRunD.quiet (bi:= [19,20,18,16,14,15,12,10,5,4,8,6,7,9,2,0,1,3,11,13,17]) Y (VWant.on Y Y (dy fhg30_3)) Y Y Y bn (cS (vc (tv (T.agg (Qi false x2)) Y) (vc (tv (rd 2 Qb d) Y) (vc (tv (tS x1.Word) Y) vn))) (LendL.cons (lg okeClue) (lp Y (lp Y ln))) (Qeu (n+24) x2 d x1.Word (by first | assumption | omega) (by first | assumption | omega) (by first | assumption | omega)) Y Y) (fD (OF.pickT (VEv.tmpB Y (dy fhg30_3)) (tv (tB (decide (Qbp x2 d x1.Word))) Y)) Y Y (mD (tB (decide (Qbp x2 d x1.Word))) Y Y ?_)))))))
    refine gw (Qbp x2 d x1.Word) (fun fhg42_4=> ?_) fun fhg42_4=> ?_
    ·refine VRunD.free Y (VWant.on Y Y (dy fhg42_4)) Y (OF.fieldAddrO (tv (T.op 0 0) Y) Qa9) ?_
     refine VRunD.look Y (VWant.on Y Y (dy fhg42_4)) Y (OL.loadO1 (t:=(rd 1 Qe p.Seals)) (tv (T.op 0 4) Y) Y Y QdG) (VRunD.free Y (VWant.on Y Y (dy fhg42_4)) Y (OF.fieldAddrO (tv (T.op 0 0) Y) Qa3) (VRunD.look Y (VWant.on Y Y (dy fhg42_4)) Y (OL.loadO1 (t:=(tI p.Salt)) (tv (T.op 0 5) Y) Y Y QQ) (VRunD.free Y (VWant.on Y Y (dy fhg42_4)) Y (OF.fieldAddrO (tv (T.op 2 0) Y) Jg) (VRunD.look Y (VWant.on Y Y (dy fhg42_4)) Y (OL.loadO1 (t:=(tI x1.Slot)) (tv (T.op 2 1) Y) Y Y QQ) (VRunD.free Y (VWant.on Y Y (dy fhg42_4)) Y (OF.fieldAddrO (tv (T.op 2 0) Y) JD) (VRunD.look Y (VWant.on Y Y (dy fhg42_4)) Y (OL.loadO1 (t:=(tS x1.Word)) (tv (T.op 2 3) Y) Y Y ZH) (VRunD.quiet (bi:= [30,31,28,29,26,27,24,22,17,13,12,15,14,16,18,20,19,21,10,5,4,8,6,7,9,2,0,1,3,11,23,25]) Y (VWant.on Y Y (dy fhg42_4)) Y Y Y bn (cS (vc (tv (rd 1 Qe p.Seals) Y) (vc (tv (tI p.Salt) Y) (vc (tv (tI x1.Slot) Y) (vc (tv (tS x1.Word) Y) vn)))) (Q8 Y) (JG (n+37) p.Seals p.Salt x1.Slot x1.Word (by first | assumption | omega) (by first | assumption | omega)) Y Y) (VRunD.free Y (VWant.on Y Y (dy fhg42_4)) Y (QW (tv (tB (decide (J4 p.Seals p.Salt x1.Slot x1.Word))) Y)) (fD (OF.pickT (VEv.tmpB Y (dy fhg42_4)) (tv (tB (!(decide (J4 p.Seals p.Salt x1.Slot x1.Word)))) Y)) Y Y (VRunD.nil (tn ?_)))))))))))
     refine cn (J4 p.Seals p.Salt x1.Slot x1.Word) Y (fun fhc2=> ?_) fun fhc2=> ?_
     ·refine VRun.region ?_
      refine mO (T.os 1 1 0 (((ZO (l.take i) p d).map (QF true)).length)) Y (lf (tS x1.Word) Y JD Y Y ZH (kO (OM.buildSlice (l:= [(tS x1.Word)]) (VEvp.cons (tv (tS x1.Word) Y) VEvp.nil) Y (by decide) (bc (nofun) bn) (bc ((bc (Y) bn)) bn) (bc (Y) bn) U54 zo9 (by kernel_rfl) Y (by rw [sz9];decide) sz9 (Nat.le_of_ble_eq_true Y)) (cO (B.append (rows:=((ZO (l.take i) p d).map (QF true))) (rows2:= [[(tS x1.Word)]]) (rows3:=((ZO (l.take i) p d++ [x1.Word]).map (QF true))) (VDst.own (tv (T.os 1 1 0 (((ZO (l.take i) p d).map (QF true)).length)) Y) Y Y) (VSrc.own (tv (T.os 1 3 0 1) Y) Y Y U54 (bc (bc Y bn) bn)) (by decide) U54 sz9 (by decide) zo9 Y (of_decide_eq_true (by kernel_rfl)) (by first | omega | (simp only [List.length_map];omega) | (simp only [List.length_map,List.length_append,List.length_cons,List.length_nil,List.length_replicate,List.length_set,List.length_drop,List.length_take,Zk] at *;omega)) ((List.map_append (f:=QF true) (l₁:=ZO (l.take i) p d) (l₂:= [x1.Word])).symm)) (aO (T.os 1 4 0 (((ZO (l.take i) p d++ [x1.Word]).map (QF true)).length)) Y (VRunO.nil (vinB.n (tn (VRun.region (fO (Qx (tv (tN i) Y) (VEv.int .i64 1) (by omega)) (mO (tN (i+1)) Y (VRunO.nil ?_)))))))))))
      refine tn ?_
      have he5:(ZO (l.take i) p d++ [x1.Word])=ZO (l.take (i+1)) p d:=by first | rfl | rfl | (rw [Qd8 hx1 ⟨⟨fhg22_2,fhg30_3⟩,⟨x2,hx2,fhg42_4⟩,fhc2⟩]) | (rw [Z9 hx1 (fun h_=>h_.2.2 fhc2)]) | (rw [Z9 hx1 (Jp hx2 fhg42_4)]) | (rw [Z9 hx1 (fun h_=>fhg30_3 h_.1.2)]) | (rw [Z9 hx1 (fun h_=>fhg22_2 h_.1.1)]) | (simp;done) | omega
      refine ⟨(i+1:Nat),?_,?_,Wk.mk (fun k=>if k=1 then 4 else k) ?_ ?_ ?_⟩
      ·first | trivial | omega | (simp;done) | exact ⟨by omega,hI'.2⟩
      ·first | omega | (simp only [];omega) | (show _<_;omega) | (simp;omega)
      ·exact (b2 (b2 (b2 (bc ⟨(congrArg (fun l_=>T.os 1 4 0 (List.map (QF true) l_).length) he5),rfl⟩ (b2 (b2 (b2 bn)))))))
      ·exact (b3 (bc ⟨(congrArg (fun l_=>some (Obj.rows 1 (List.map (QF true) l_))) he5),(lb Y),rfl⟩ bn))
      ·exact nd Y
     refine sk (vinB.n (tn (VRun.region (fO (Qx (tv (tN i) Y) (VEv.int .i64 1) (by omega)) (mO (tN (i+1)) Y (VRunO.nil (tn ?_)))))))
     have he6:ZO (l.take i) p d=ZO (l.take (i+1)) p d:=by first | rfl | rfl | (rw [Qd8 hx1 ⟨⟨fhg22_2,fhg30_3⟩,⟨x2,hx2,fhg42_4⟩,fhc2⟩]) | (rw [Z9 hx1 (fun h_=>h_.2.2 fhc2)]) | (rw [Z9 hx1 (Jp hx2 fhg42_4)]) | (rw [Z9 hx1 (fun h_=>fhg30_3 h_.1.2)]) | (rw [Z9 hx1 (fun h_=>fhg22_2 h_.1.1)]) | (simp;done) | omega
     refine ⟨(i+1:Nat),?_,?_,Wk.mk (fun k=>k) ?_ ?_ ?_⟩
     ·first | trivial | omega | (simp;done) | exact ⟨by omega,hI'.2⟩
     ·first | omega | (simp only [];omega) | (show _<_;omega) | (simp;omega)
     ·exact (b2 (b2 (b2 (bc ⟨(congrArg (fun l_=>T.os 1 1 0 (List.map (QF true) l_).length) he6),rfl⟩ (b2 (b2 (b2 bn)))))))
     ·exact (b3 (bc ⟨(congrArg (fun l_=>some (Obj.rows 1 (List.map (QF true) l_))) he6),(lb Y),rfl⟩ bn))
     ·exact nd Y
    refine oD Y Y (dz fhg42_4) Y (oD Y Y (dz fhg42_4) Y (oD Y Y (dz fhg42_4) Y (oD Y Y (dz fhg42_4) Y (oD Y Y (dz fhg42_4) Y (oD Y Y (dz fhg42_4) Y (oD Y Y (dz fhg42_4) Y (oD Y Y (dz fhg42_4) Y (oD Y Y (dz fhg42_4) Y (oD Y Y (dz fhg42_4) Y (fD (OF.pickF (VEv.tmpB Y (dz fhg42_4)) (VEv.bool false)) Y Y (VRunD.nil ?_)))))))))))
    refine tn (cf Y (sk (vinB.n (tn (VRun.region (fO (Qx (tv (tN i) Y) (VEv.int .i64 1) (by omega)) (mO (tN (i+1)) Y (VRunO.nil (tn ?_)))))))))
    have he7:ZO (l.take i) p d=ZO (l.take (i+1)) p d:=by first | rfl | rfl | (rw [Qd8 hx1 ⟨⟨fhg22_2,fhg30_3⟩,⟨x2,hx2,fhg42_4⟩,fhc2⟩]) | (rw [Z9 hx1 (fun h_=>h_.2.2 fhc2)]) | (rw [Z9 hx1 (Jp hx2 fhg42_4)]) | (rw [Z9 hx1 (fun h_=>fhg30_3 h_.1.2)]) | (rw [Z9 hx1 (fun h_=>fhg22_2 h_.1.1)]) | (simp;done) | omega
    refine ⟨(i+1:Nat),?_,?_,Wk.mk (fun k=>k) ?_ ?_ ?_⟩
    ·first | trivial | omega | (simp;done) | exact ⟨by omega,hI'.2⟩
    ·first | omega | (simp only [];omega) | (show _<_;omega) | (simp;omega)
    ·exact (b2 (b2 (b2 (bc ⟨(congrArg (fun l_=>T.os 1 1 0 (List.map (QF true) l_).length) he7),rfl⟩ (b2 (b2 (b2 bn)))))))
    ·exact (b3 (bc ⟨(congrArg (fun l_=>some (Obj.rows 1 (List.map (QF true) l_))) he7),(lb Y),rfl⟩ bn))
    ·exact nd Y
   refine oD Y Y (dz fhg30_3) Y (oD Y Y (dz fhg30_3) Y (oD Y Y (dz fhg30_3) Y (oD Y Y (dz fhg30_3) Y (oD Y Y (dz fhg30_3) Y (oD Y Y (dz fhg30_3) Y (oD Y Y (dz fhg30_3) Y (oD Y Y (dz fhg30_3) Y (oD Y Y (dz fhg30_3) Y (oD Y Y (dz fhg30_3) Y (fD (OF.pickF (VEv.tmpB Y (dz fhg30_3)) (VEv.bool false)) Y Y (mD (tB false) Y Y ?_)))))))))))
   refine VRunD.off Y (VWant.not (b:=false) Y Y Y) (VRunD.off Y (VWant.not (b:=false) Y Y Y) (VRunD.off Y (VWant.not (b:=false) Y Y Y) (VRunD.off Y (VWant.not (b:=false) Y Y Y) (VRunD.off Y (VWant.not (b:=false) Y Y Y) (VRunD.off Y (VWant.not (b:=false) Y Y Y) (VRunD.off Y (VWant.not (b:=false) Y Y Y) (VRunD.off Y (VWant.not (b:=false) Y Y Y) (VRunD.off Y (VWant.not (b:=false) Y Y Y) (VRunD.off Y (VWant.not (b:=false) Y Y Y) (fD (OF.pickF (tv (tB false) Y) (VEv.bool false)) Y Y (VRunD.nil ?_)))))))))))
   refine tn (cf Y (sk (vinB.n (tn (VRun.region (fO (Qx (tv (tN i) Y) (VEv.int .i64 1) (by omega)) (mO (tN (i+1)) Y (VRunO.nil (tn ?_)))))))))
   have he8:ZO (l.take i) p d=ZO (l.take (i+1)) p d:=by first | rfl | rfl | (rw [Qd8 hx1 ⟨⟨fhg22_2,fhg30_3⟩,⟨x2,hx2,fhg42_4⟩,fhc2⟩]) | (rw [Z9 hx1 (fun h_=>h_.2.2 fhc2)]) | (rw [Z9 hx1 (Jp hx2 fhg42_4)]) | (rw [Z9 hx1 (fun h_=>fhg30_3 h_.1.2)]) | (rw [Z9 hx1 (fun h_=>fhg22_2 h_.1.1)]) | (simp;done) | omega
   refine ⟨(i+1:Nat),?_,?_,Wk.mk (fun k=>k) ?_ ?_ ?_⟩
   ·first | trivial | omega | (simp;done) | exact ⟨by omega,hI'.2⟩
   ·first | omega | (simp only [];omega) | (show _<_;omega) | (simp;omega)
   ·exact (b2 (b2 (b2 (bc ⟨(congrArg (fun l_=>T.os 1 1 0 (List.map (QF true) l_).length) he8),rfl⟩ (b2 (b2 (b2 bn)))))))
   ·exact (b3 (bc ⟨(congrArg (fun l_=>some (Obj.rows 1 (List.map (QF true) l_))) he8),(lb Y),rfl⟩ bn))
   ·exact nd Y
  refine oD Y Y (dz fhg22_2) Y (oD Y Y (dz fhg22_2) Y (oD Y Y (dz fhg22_2) Y (oD Y Y (dz fhg22_2) Y (oD Y Y (dz fhg22_2) Y (oD Y Y (dz fhg22_2) Y (fD (OF.pickF (VEv.tmpB Y (dz fhg22_2)) (VEv.bool false)) Y Y (mD (tB false) Y Y (VRunD.off Y (VWant.not (b:=false) Y Y Y) (VRunD.off Y (VWant.not (b:=false) Y Y Y) (VRunD.off Y (VWant.not (b:=false) Y Y Y) (VRunD.off Y (VWant.not (b:=false) Y Y Y) ?_)))))))))))
  refine VRunD.off Y (VWant.not (b:=false) Y Y Y) (VRunD.off Y (VWant.not (b:=false) Y Y Y) (VRunD.off Y (VWant.not (b:=false) Y Y Y) (VRunD.off Y (VWant.not (b:=false) Y Y Y) (VRunD.off Y (VWant.not (b:=false) Y Y Y) (VRunD.off Y (VWant.not (b:=false) Y Y Y) (fD (OF.pickF (tv (tB false) Y) (VEv.bool false)) Y Y (mD (tB false) Y Y (VRunD.off Y (VWant.not (b:=false) Y Y Y) (VRunD.off Y (VWant.not (b:=false) Y Y Y) (VRunD.off Y (VWant.not (b:=false) Y Y Y) (VRunD.off Y (VWant.not (b:=false) Y Y Y) ?_)))))))))))
  refine VRunD.off Y (VWant.not (b:=false) Y Y Y) (VRunD.off Y (VWant.not (b:=false) Y Y Y) (VRunD.off Y (VWant.not (b:=false) Y Y Y) (VRunD.off Y (VWant.not (b:=false) Y Y Y) (VRunD.off Y (VWant.not (b:=false) Y Y Y) (VRunD.off Y (VWant.not (b:=false) Y Y Y) (fD (OF.pickF (tv (tB false) Y) (VEv.bool false)) Y Y (VRunD.nil (tn (cf Y (sk (vinB.n ?_)))))))))))
  refine tn (VRun.region (fO (Qx (tv (tN i) Y) (VEv.int .i64 1) (by omega)) (mO (tN (i+1)) Y (VRunO.nil (tn ?_)))))
  have he9:ZO (l.take i) p d=ZO (l.take (i+1)) p d:=by first | rfl | rfl | (rw [Qd8 hx1 ⟨⟨fhg22_2,fhg30_3⟩,⟨x2,hx2,fhg42_4⟩,fhc2⟩]) | (rw [Z9 hx1 (fun h_=>h_.2.2 fhc2)]) | (rw [Z9 hx1 (Jp hx2 fhg42_4)]) | (rw [Z9 hx1 (fun h_=>fhg30_3 h_.1.2)]) | (rw [Z9 hx1 (fun h_=>fhg22_2 h_.1.1)]) | (simp;done) | omega
  refine ⟨(i+1:Nat),?_,?_,Wk.mk (fun k=>k) ?_ ?_ ?_⟩
  ·first | trivial | omega | (simp;done) | exact ⟨by omega,hI'.2⟩
  ·first | omega | (simp only [];omega) | (show _<_;omega) | (simp;omega)
  ·exact (b2 (b2 (b2 (bc ⟨(congrArg (fun l_=>T.os 1 1 0 (List.map (QF true) l_).length) he9),rfl⟩ (b2 (b2 (b2 bn)))))))
  ·exact (b3 (bc ⟨(congrArg (fun l_=>some (Obj.rows 1 (List.map (QF true) l_))) he9),(lb Y),rfl⟩ bn))
  ·exact nd Y
 refine VRun.exit (vthn.e (vthn.e (vinB.e (tn (sr (mO (T.os 1 1 0 (((ZO (l.take i) p d).map (QF true)).length)) Y (cO (OC.callF (us:= [(rd 1 QF (ZO (l.take i) p d))]) (r':=(T.os 1 2 0 (((QG (ZO (l.take i) p d)).map (QF true)).length))) (objs:= [(Obj.rows 1 ((QG (ZO (l.take i) p d)).map (QF true)))]) Y (vc (tv (T.os 1 1 0 (((ZO (l.take i) p d).map (QF true)).length)) Y) vn) (LendL.cons (Lend.os Y Y (okStr.fzMap _ _)) ln) (Qie (n+39) (ZO (l.take i) p d) (by first | assumption | omega)) Y) (aO (T.os 1 2 0 (((QG (ZO (l.take i) p d)).map (QF true)).length)) Y (nt (rt ?_))))))))))
 refine vfin.eq (r':=(T.sl true 1 ((QG (ZO (l.take i) p d)).map (QF true)))) ?_ (vfin.r (VRes.tmp (t:=(T.os 1 2 0 (((QG (ZO (l.take i) p d)).map (QF true)).length))) Y VRes.nil) (Give.os Y Y (okStr.cleanMap _)))
 refine congrArg (fun l_=>T.sl true 1 (List.map (QF true) l_)) ?_
 first | exact (if_neg fhc0).symm | (refine QjS fhc0 ?_;omega)
theorem Qb1 (n:Nat) (l:List D.Report) (p:D.Puzzle) (d:List D.Meaning) (hl:zL QA l≤mx) (hp:QN p≤mx) (hd:d.length≤Zk):Pure (Qq Tryz.prog (n+26)) 33 [(rd 4 Qa l),(T.agg (Qt false p)),(rd 2 Qb d)] (T.sl true 1 ((oaW l p d).map (QF true))):=by
 refine Pure.intro (rs:= [ResultVar.tmp 6]) Tryz.func33 Y Y Y (E0:= [(0,(rd 4 Qa l)),(1,(T.agg (Qt false p))),(2,(rd 2 Qb d))]) Y ?_
 obtain ⟨hlim,hmx,hmax⟩:=QC
 have hll:=QV (z:=QA) l
 have hpp:=hp
 simp only [QN,ZC] at hpp
 have hcl:=QV (z:=QP) p.Clues
 have hsl:=QV (z:=zI) p.Seals
 refine sr (kO (B.box (ts:=(Qt false p)) (tv (T.agg (Qt false p)) Y) nofun Y) (fO (OF.assign VEv.nils) (nt (sr (kO (OM.slice0 U54 zo9 (by kernel_rfl) Y (by rw [sz9];decide) sz9) (aO (T.os 1 1 0 0) Y (nt (sq (sr (fO (OF.assign (VEv.int .i64 0)) (nt ?_)))))))))))
 refine VRun.block ?_
 have he1: []=((QG (ZO (l.take 0) p d)).map (QF true)):=by first | rfl | rfl | (exact ZW hx1 (fun h_=>fhg28_3 h_.1.1)) | (refine ZW hx1 (fun h_=>fhg38_5 ?_);have:=h_.1.2;omega) | (exact QcC hx1 fhc1) | (refine Qcy hx1 ⟨⟨fhg28_3,?_⟩,⟨x2,hx2,fhg54_8⟩,fhc2⟩ fhc1;omega) | (exact ZW hx1 (fun h_=>h_.2.2 fhc2)) | (exact ZW hx1 (Jp hx2 fhg54_8)) | (simp;done) | omega
 refine VRun.loop (A:=Nat) (fun s_=> [(0,(rd 4 Qa l)),(2,(rd 2 Qb d)),(4,(T.op 0 0)),(6,T.nils),(7,(T.os 1 1 0 (((QG (ZO (l.take s_) p d)).map (QF true)).length))),(8,(tN s_))]) (fun s_=>QU [(0,(Obj.cells (Qt false p))),(1,(Obj.rows 1 ((QG (ZO (l.take s_) p d)).map (QF true))))]) 2 (fun s_=>s_≤l.length∧(0<s_→YB p)) (fun s_=>l.length - s_) (0:Nat) ?_ (Wk.mk (fun k=>k) ?_ ?_ ?_) ?_
 ·exact ⟨Nat.zero_le _,fun e=>absurd e (Nat.lt_irrefl 0)⟩
 ·exact (b2 (b2 (b2 (b2 (bc ⟨(congrArg (fun n_=>T.os 1 1 0 n_) (show 0=((QG (ZO (l.take 0) p d)).map (QF true)).length from (by first | rfl | (simp only [List.length_map];omega) | (simp only [List.length_map,List.length_set,List.length_append,List.length_take,List.length_replicate,List.length_cons,List.length_nil];omega)))),rfl⟩ (b2 bn))))))
 ·exact (b3 (bc ⟨(congrArg (fun l_=>some (Obj.rows 1 l_)) he1),(lb Y),rfl⟩ bn))
 ·exact nd Y
 rintro i (hI':i≤l.length∧(0<i→YB p))
 show VRun _ _ _ [(0,(rd 4 Qa l)),(2,(rd 2 Qb d)),(4,(T.op 0 0)),(6,T.nils),(7,(T.os 1 1 0 (((QG (ZO (l.take i) p d)).map (QF true)).length))),(8,(tN i))] (QU [(0,(Obj.cells (Qt false p))),(1,(Obj.rows 1 ((QG (ZO (l.take i) p d)).map (QF true))))]) 2 _
 have hI1:=hI'.1
 have hJ2:=hI'.2
 have hI2:=Qhy (l.take i) p d
 have hI4:=Qd1 (ZO (l.take i) p d)
 have hI3:(l.take i).length≤l.length:=by rw [List.length_take];omega
 refine sq (sr (mO (tN i) Y (mO (rd 4 Qa l) Y (lO (B.lenR (m:=l.length) (tv (rd 4 Qa l) Y) U34 (List.length_map ..)) (fO (Q2 (tv (tN i) Y) (tv (tN l.length) Y)) (mO (tB (decide (i<l.length))) Y ?_))))))
 refine gw (i<l.length) (fun fhg15_2=> ?_) fun fhg15_2=> ?_
 ·refine gL (dy fhg15_2) Y Y (OL.loadOn (us:=(Qt false p)) (tv (T.op 0 0) Y) Y Qgg QeI (lb Y) Y) ?_
  refine VRunO.chain (VWant.on Y Y (dy fhg15_2)) (cS (vc (tv (T.agg (Qt false p)) Y) vn) (LendL.cons (lg Yj) ln) (Qbb (n+15) p (by first | assumption | omega)) Y Y) (fO (OF.pickT (VEv.tmpB Y (dy fhg15_2)) (tv (tB (decide (YB p))) Y)) (nt ?_))
  refine cd (YB p) Y (fun fhc0=> ?_) fun fhc0=> ?_
  ·refine sk ?_
   refine tn (sq (VRun.block (sr (mO (rd 4 Qa l) Y (mO (tN i) Y ?_)))))
   obtain ⟨x1,hx1⟩:∃x,l[i]? =some x:=⟨_,List.getElem?_eq_getElem (by omega)⟩
   first | (have hz1:=JH (z:=QA) hx1;simp only [QA] at hz1) | (have hz1:=JH (z:=QP) hx1)
   refine fO (OF.indexAddrR (row:=(Qa false x1)) (i:=i) (tv (rd 4 Qa l) Y) (tv (tN i) Y) Y (Qu _ hx1) U34 YE QaT) (lO (OL.loadRn (us:=(Qa false x1)) (tv (T.rp (Qa false x1)) Y) QfZ YE (lb Y) Y) (kO (B.alloc (t:=(T.agg [(tN 0),(tN 0),(tN 0),(tS ByteArray.empty)])) (ts:= [(tN 0),(tN 0),(tN 0),(tS ByteArray.empty)]) QiU QiY nofun (fun _=> .agg _ _ Y (YK (RL.cons (.int _ _) (RL.cons (.int _ _) (RL.cons (.int _ _) (RL.cons (.str _) (RL.nil _))))))) Y) (cO (B.storeW (us:=(Qa false x1)) (tv (T.op 2 0) Y) (tv (T.agg (Qa false x1)) Y) nofun Y Y Y QaT YE (bc Y (bc Y (bc Y (bc Y bn))))) (nt (sq (sr (lf (tI x1.Kind) Y Qa1 Y Y QQ (fO (xne (tv (tI x1.Kind) Y) (VEv.int .i64 2)) (mO (tB (!(decide (x1.Kind=2)))) Y ?_)))))))))
   refine gn (x1.Kind=2) (fun fhg28_3=> ?_) fun fhg28_3=> ?_
   ·refine Qz 8 3 false 28 (ny fhg28_3) Y Y Y ?_
    refine fO (OF.pickT (VEv.tmpB Y (ny fhg28_3)) (VEv.bool true)) (mO (tB true) Y (Qz 4 13 false 38 (b:=true) Y Y Y Y (fO (OF.pickT (tv (tB true) Y) (VEv.bool true)) (nt (ct Y (VRun.exit (vthn.e (vinB.e (tn (VRun.region (mO (tN i) Y ?_)))))))))))
    refine fO (Qx (tv (tN i) Y) (VEv.int .i64 1) (by omega)) (aO (tN (i+1)) Y (VRunO.nil (tn ?_)))
    have he4:QG (ZO (l.take i) p d)=QG (ZO (l.take (i+1)) p d):=by first | rfl | rfl | (exact ZW hx1 (fun h_=>fhg28_3 h_.1.1)) | (refine ZW hx1 (fun h_=>fhg38_5 ?_);have:=h_.1.2;omega) | (exact QcC hx1 fhc1) | (refine Qcy hx1 ⟨⟨fhg28_3,?_⟩,⟨x2,hx2,fhg54_8⟩,fhc2⟩ fhc1;omega) | (exact ZW hx1 (fun h_=>h_.2.2 fhc2)) | (exact ZW hx1 (Jp hx2 fhg54_8)) | (simp;done) | omega
    refine ⟨(i+1:Nat),?_,?_,Wk.mk (fun k=>k) ?_ ?_ ?_⟩
    ·exact ⟨by omega,fun _=>fhc0⟩
    ·first | omega | (simp only [];omega) | (show _<_;omega) | (simp;omega)
    ·exact (b2 (b2 (b2 (b2 (bc ⟨(congrArg (fun l_=>T.os 1 1 0 (List.map (QF true) l_).length) he4),rfl⟩ (b2 bn))))))
    ·exact (b3 (bc ⟨(congrArg (fun l_=>some (Obj.rows 1 (List.map (QF true) l_))) he4),(lb Y),rfl⟩ bn))
    ·exact nd Y
   refine Yt (tI x1.Slot) (nz fhg28_3) Y Y Y Y Jg Y Y QQ (Yt (rd 2 Qi p.Clues) (nz fhg28_3) Y Y Y Y Y5 Y Y QdI (gL (nz fhg28_3) Y Y (B.lenR (m:=p.Clues.length) (tv (rd 2 Qi p.Clues) Y) U37 (List.length_map ..)) (gF (nz fhg28_3) Y Y (B.sub (n:=(((p.Clues.length:Nat):Int) - 1)) (tv (tN p.Clues.length) Y) (VEv.int .i64 1) (by first | rfl | (rw [Qs (by omega)];omega) | (rw [Qs (by omega)];done))) (VRunO.chain (VWant.on Y Y (nz fhg28_3)) (cS (vc (tv (tI x1.Slot) Y) (vc (VEv.int .i64 0) (vc (tv (tI (((p.Clues.length:Nat):Int) - 1)) Y) vn))) (Q8 Y) (Q0 (n+24) x1.Slot 0 (((p.Clues.length:Nat):Int) - 1)) Y Y) (gF (nz fhg28_3) Y Y (QW (tv (tB (decide (0≤x1.Slot∧x1.Slot≤(((p.Clues.length:Nat):Int) - 1)))) Y)) (fO (OF.pickF (VEv.tmpB Y (nz fhg28_3)) (tv (tB (!(decide (0≤x1.Slot∧x1.Slot≤(((p.Clues.length:Nat):Int) - 1))))) Y)) (mO (tB (!(decide (0≤x1.Slot∧x1.Slot≤(((p.Clues.length:Nat):Int) - 1))))) Y ?_)))))))
   refine gn (0≤x1.Slot∧x1.Slot≤(((p.Clues.length:Nat):Int) - 1)) (fun fhg38_5=> ?_) fun fhg38_5=> ?_
   ·refine Qz 4 13 false 38 (ny fhg38_5) Y Y Y ?_
    refine fO (OF.pickT (VEv.tmpB Y (ny fhg38_5)) (VEv.bool true)) (nt (ct Y (VRun.exit (vthn.e (vinB.e (tn (VRun.region (mO (tN i) Y (fO (Qx (tv (tN i) Y) (VEv.int .i64 1) (by omega)) (aO (tN (i+1)) Y (VRunO.nil ?_)))))))))))
    refine tn ?_
    have he6:QG (ZO (l.take i) p d)=QG (ZO (l.take (i+1)) p d):=by first | rfl | rfl | (exact ZW hx1 (fun h_=>fhg28_3 h_.1.1)) | (refine ZW hx1 (fun h_=>fhg38_5 ?_);have:=h_.1.2;omega) | (exact QcC hx1 fhc1) | (refine Qcy hx1 ⟨⟨fhg28_3,?_⟩,⟨x2,hx2,fhg54_8⟩,fhc2⟩ fhc1;omega) | (exact ZW hx1 (fun h_=>h_.2.2 fhc2)) | (exact ZW hx1 (Jp hx2 fhg54_8)) | (simp;done) | omega
    refine ⟨(i+1:Nat),?_,?_,Wk.mk (fun k=>k) ?_ ?_ ?_⟩
    ·exact ⟨by omega,fun _=>fhc0⟩
    ·first | omega | (simp only [];omega) | (show _<_;omega) | (simp;omega)
    ·exact (b2 (b2 (b2 (b2 (bc ⟨(congrArg (fun l_=>T.os 1 1 0 (List.map (QF true) l_).length) he6),rfl⟩ (b2 bn))))))
    ·exact (b3 (bc ⟨(congrArg (fun l_=>some (Obj.rows 1 (List.map (QF true) l_))) he6),(lb Y),rfl⟩ bn))
    ·exact nd Y
   refine gF (nz fhg38_5) Y Y (OF.move (tv (T.os 1 1 0 (((QG (ZO (l.take i) p d)).map (QF true)).length)) Y)) (Yt (tS x1.Word) (nz fhg38_5) Y Y Y Y JD Y Y ZH (VRunO.chain (VWant.on Y Y (nz fhg38_5)) (cS (us:= [(rd 1 QF (QG (ZO (l.take i) p d))),(tS x1.Word)]) (vc (tv (T.os 1 1 0 (((QG (ZO (l.take i) p d)).map (QF true)).length)) Y) (vc (tv (tS x1.Word) Y) vn)) (LendL.cons (Lend.os Y Y (okStr.fzMap _ _)) (lp Y ln)) (Qe1 (n+24) (QG (ZO (l.take i) p d)) x1.Word (by first | assumption | omega)) Y Y) (fO (OF.pickF (VEv.tmpB Y (nz fhg38_5)) (tv (tB (decide (x1.Word∈(QG (ZO (l.take i) p d))))) Y)) (nt ?_))))
   refine cd (x1.Word∈(QG (ZO (l.take i) p d))) Y (fun fhc1=> ?_) fun fhc1=> ?_
   ·refine VRun.exit ?_
    refine vthn.e (vinB.e (tn (VRun.region (mO (tN i) Y (fO (Qx (tv (tN i) Y) (VEv.int .i64 1) (by omega)) (aO (tN (i+1)) Y (VRunO.nil (tn ?_))))))))
    have he7:QG (ZO (l.take i) p d)=QG (ZO (l.take (i+1)) p d):=by first | rfl | rfl | (exact ZW hx1 (fun h_=>fhg28_3 h_.1.1)) | (refine ZW hx1 (fun h_=>fhg38_5 ?_);have:=h_.1.2;omega) | (exact QcC hx1 fhc1) | (refine Qcy hx1 ⟨⟨fhg28_3,?_⟩,⟨x2,hx2,fhg54_8⟩,fhc2⟩ fhc1;omega) | (exact ZW hx1 (fun h_=>h_.2.2 fhc2)) | (exact ZW hx1 (Jp hx2 fhg54_8)) | (simp;done) | omega
    refine ⟨(i+1:Nat),?_,?_,Wk.mk (fun k=>k) ?_ ?_ ?_⟩
    ·exact ⟨by omega,fun _=>fhc0⟩
    ·first | omega | (simp only [];omega) | (show _<_;omega) | (simp;omega)
    ·exact (b2 (b2 (b2 (b2 (bc ⟨(congrArg (fun l_=>T.os 1 1 0 (List.map (QF true) l_).length) he7),rfl⟩ (b2 bn))))))
    ·exact (b3 (bc ⟨(congrArg (fun l_=>some (Obj.rows 1 (List.map (QF true) l_))) he7),(lb Y),rfl⟩ bn))
    ·exact nd Y
   refine sk (tn (sq (VRun.draw (B:= [[],[0],[],[2],[2,3,0,1],[1,0,3,2,4],[],[],[7],[7,8,6,4,2,3,0,1,5],[5,1,0,3,2,4,6,8,7,9],[9,7,8,6,4,2,3,0,1,5,10],[10,5,1,0,3,2,4,6,8,7,9,11],[9,7,8,6,4,2,3,0,1,5,10],[10,5,1,0,3,2,4,6,8,7,9,13],[9,7,8,6,4,2,3,0,1,5,10],[10,5,1,0,3,2,4,6,8,7,9,15],[9,7,8,6,4,2,3,0,1,5,10],[10,5,1,0,3,2,4,6,8,7,9,17],[17,18,15,16,13,14,11,9,7,8,6,4,2,3,0,1,5,10,12],[12,10,5,1,0,3,2,4,6,8,7,9,11,14,13,16,15,18,17,19],[19,17,18,15,16,13,14,11,12,20,9,7,8,6,4,2,3,0,1,5,10]]) (by kernel_rfl) (by kernel_rfl) (fD (OF.fieldAddrO (tv (T.op 0 0) Y) Y5) Y Y (lD (OL.loadO1 (t:=(rd 2 Qi p.Clues)) (tv (T.op 0 3) Y) Y Y QdI) Y Y (fD (OF.fieldAddrO (tv (T.op 2 0) Y) Jg) Y Y (lD (OL.loadO1 (t:=(tI x1.Slot)) (tv (T.op 2 1) Y) Y Y QQ) Y Y ?_)))))))
   obtain ⟨x2,hx2⟩:∃x,p.Clues[(Int.toNat x1.Slot)]? =some x:=⟨_,List.getElem?_eq_getElem (by omega)⟩
   first | (have hz2:=JH (z:=QA) hx2;simp only [QA] at hz2) | (have hz2:=JH (z:=QP) hx2)
   refine fD (OF.indexAddrR (row:=(Qi false x2)) (i:=(Int.toNat x1.Slot)) (tv (rd 2 Qi p.Clues) Y) (tv (tI x1.Slot) Y) (by omega) (Qu _ hx2) U37 J5 Qhi) Y Y (lD (OL.loadRn (us:=(Qi false x2)) (tv (T.rp (Qi false x2)) Y) Qft J5 (lb Y) Y) Y Y (mD (rd 2 Qb d) Y Y (fD (OF.fieldAddrO (tv (T.op 2 0) Y) JD) Y Y (lD (OL.loadO1 (t:=(tS x1.Word)) (tv (T.op 2 3) Y) Y Y ZH) Y Y (VRunD.quiet (bi:= [7,8,6,4,2,3,0,1,5]) Y VWant.always Y Y Y bn (cS (vc (tv (T.agg (Qi false x2)) Y) (vc (tv (rd 2 Qb d) Y) (vc (tv (tS x1.Word) Y) vn))) (LendL.cons (lg okeClue) (lp Y (lp Y ln))) (Qeg (n+0) x2 d x1.Word (by first | assumption | omega) (by first | assumption | omega) (by first | assumption | omega)) Y Y) (mD (tB (decide (Qbp x2 d x1.Word))) Y Y ?_))))))
   refine gw (Qbp x2 d x1.Word) (fun fhg54_8=> ?_) fun fhg54_8=> ?_
   ·refine VRunD.free Y (VWant.on Y Y (dy fhg54_8)) Y (OF.fieldAddrO (tv (T.op 0 0) Y) Qa9) ?_
    refine VRunD.look Y (VWant.on Y Y (dy fhg54_8)) Y (OL.loadO1 (t:=(rd 1 Qe p.Seals)) (tv (T.op 0 4) Y) Y Y QdG) (VRunD.free Y (VWant.on Y Y (dy fhg54_8)) Y (OF.fieldAddrO (tv (T.op 0 0) Y) Qa3) (VRunD.look Y (VWant.on Y Y (dy fhg54_8)) Y (OL.loadO1 (t:=(tI p.Salt)) (tv (T.op 0 5) Y) Y Y QQ) (VRunD.free Y (VWant.on Y Y (dy fhg54_8)) Y (OF.fieldAddrO (tv (T.op 2 0) Y) Jg) (VRunD.look Y (VWant.on Y Y (dy fhg54_8)) Y (OL.loadO1 (t:=(tI x1.Slot)) (tv (T.op 2 1) Y) Y Y QQ) (VRunD.free Y (VWant.on Y Y (dy fhg54_8)) Y (OF.fieldAddrO (tv (T.op 2 0) Y) JD) (VRunD.look Y (VWant.on Y Y (dy fhg54_8)) Y (OL.loadO1 (t:=(tS x1.Word)) (tv (T.op 2 3) Y) Y Y ZH) (VRunD.quiet (bi:= [17,18,15,16,13,14,11,9,7,8,6,4,2,3,0,1,5,10,12]) Y (VWant.on Y Y (dy fhg54_8)) Y Y Y bn (cS (vc (tv (rd 1 Qe p.Seals) Y) (vc (tv (tI p.Salt) Y) (vc (tv (tI x1.Slot) Y) (vc (tv (tS x1.Word) Y) vn)))) (Q8 Y) (JJ (n+20) p.Seals p.Salt x1.Slot x1.Word (by first | assumption | omega) (by first | assumption | omega)) Y Y) (VRunD.free Y (VWant.on Y Y (dy fhg54_8)) Y (QW (tv (tB (decide (J4 p.Seals p.Salt x1.Slot x1.Word))) Y)) (fD (OF.pickT (VEv.tmpB Y (dy fhg54_8)) (tv (tB (!(decide (J4 p.Seals p.Salt x1.Slot x1.Word)))) Y)) Y Y (VRunD.nil (tn ?_)))))))))))
    refine cn (J4 p.Seals p.Salt x1.Slot x1.Word) Y (fun fhc2=> ?_) fun fhc2=> ?_
    ·refine VRun.region ?_
     refine mO (T.os 1 1 0 (((QG (ZO (l.take i) p d)).map (QF true)).length)) Y (lf (tS x1.Word) Y JD Y Y ZH (kO (OM.buildSlice (l:= [(tS x1.Word)]) (VEvp.cons (tv (tS x1.Word) Y) VEvp.nil) Y (by decide) (bc (nofun) bn) (bc ((bc (Y) bn)) bn) (bc (Y) bn) U54 zo9 (by kernel_rfl) Y (by rw [sz9];decide) sz9 (Nat.le_of_ble_eq_true Y)) (cO (B.append (rows:=((QG (ZO (l.take i) p d)).map (QF true))) (rows2:= [[(tS x1.Word)]]) (rows3:=((QG (ZO (l.take i) p d)++ [x1.Word]).map (QF true))) (VDst.own (tv (T.os 1 1 0 (((QG (ZO (l.take i) p d)).map (QF true)).length)) Y) Y Y) (VSrc.own (tv (T.os 1 3 0 1) Y) Y Y U54 (bc (bc Y bn) bn)) (by decide) U54 sz9 (by decide) zo9 Y (of_decide_eq_true (by kernel_rfl)) (by first | omega | (simp only [List.length_map];omega) | (simp only [List.length_map,List.length_append,List.length_cons,List.length_nil,List.length_replicate,List.length_set,List.length_drop,List.length_take,Zk] at *;omega)) ((List.map_append (f:=QF true) (l₁:=QG (ZO (l.take i) p d)) (l₂:= [x1.Word])).symm)) (aO (T.os 1 4 0 (((QG (ZO (l.take i) p d)++ [x1.Word]).map (QF true)).length)) Y (VRunO.nil (vinB.n (tn (VRun.region (mO (tN i) Y (fO (Qx (tv (tN i) Y) (VEv.int .i64 1) (by omega)) (aO (tN (i+1)) Y ?_)))))))))))
     refine VRunO.nil (tn ?_)
     have he9:(QG (ZO (l.take i) p d)++ [x1.Word])=QG (ZO (l.take (i+1)) p d):=by first | rfl | rfl | (exact ZW hx1 (fun h_=>fhg28_3 h_.1.1)) | (refine ZW hx1 (fun h_=>fhg38_5 ?_);have:=h_.1.2;omega) | (exact QcC hx1 fhc1) | (refine Qcy hx1 ⟨⟨fhg28_3,?_⟩,⟨x2,hx2,fhg54_8⟩,fhc2⟩ fhc1;omega) | (exact ZW hx1 (fun h_=>h_.2.2 fhc2)) | (exact ZW hx1 (Jp hx2 fhg54_8)) | (simp;done) | omega
     refine ⟨(i+1:Nat),?_,?_,Wk.mk (fun k=>if k=1 then 4 else k) ?_ ?_ ?_⟩
     ·exact ⟨by omega,fun _=>fhc0⟩
     ·first | omega | (simp only [];omega) | (show _<_;omega) | (simp;omega)
     ·exact (b2 (b2 (b2 (b2 (bc ⟨(congrArg (fun l_=>T.os 1 4 0 (List.map (QF true) l_).length) he9),rfl⟩ (b2 bn))))))
     ·exact (b3 (bc ⟨(congrArg (fun l_=>some (Obj.rows 1 (List.map (QF true) l_))) he9),(lb Y),rfl⟩ bn))
     ·exact nd Y
    refine sk (vinB.n (tn (VRun.region (mO (tN i) Y (fO (Qx (tv (tN i) Y) (VEv.int .i64 1) (by omega)) (aO (tN (i+1)) Y (VRunO.nil (tn ?_))))))))
    have he10:QG (ZO (l.take i) p d)=QG (ZO (l.take (i+1)) p d):=by first | rfl | rfl | (exact ZW hx1 (fun h_=>fhg28_3 h_.1.1)) | (refine ZW hx1 (fun h_=>fhg38_5 ?_);have:=h_.1.2;omega) | (exact QcC hx1 fhc1) | (refine Qcy hx1 ⟨⟨fhg28_3,?_⟩,⟨x2,hx2,fhg54_8⟩,fhc2⟩ fhc1;omega) | (exact ZW hx1 (fun h_=>h_.2.2 fhc2)) | (exact ZW hx1 (Jp hx2 fhg54_8)) | (simp;done) | omega
    refine ⟨(i+1:Nat),?_,?_,Wk.mk (fun k=>k) ?_ ?_ ?_⟩
    ·exact ⟨by omega,fun _=>fhc0⟩
    ·first | omega | (simp only [];omega) | (show _<_;omega) | (simp;omega)
    ·exact (b2 (b2 (b2 (b2 (bc ⟨(congrArg (fun l_=>T.os 1 1 0 (List.map (QF true) l_).length) he10),rfl⟩ (b2 bn))))))
    ·exact (b3 (bc ⟨(congrArg (fun l_=>some (Obj.rows 1 (List.map (QF true) l_))) he10),(lb Y),rfl⟩ bn))
    ·exact nd Y
   refine oD Y Y (dz fhg54_8) Y (oD Y Y (dz fhg54_8) Y (oD Y Y (dz fhg54_8) Y (oD Y Y (dz fhg54_8) Y (oD Y Y (dz fhg54_8) Y (oD Y Y (dz fhg54_8) Y (oD Y Y (dz fhg54_8) Y (oD Y Y (dz fhg54_8) Y (oD Y Y (dz fhg54_8) Y (oD Y Y (dz fhg54_8) Y (fD (OF.pickF (VEv.tmpB Y (dz fhg54_8)) (VEv.bool false)) Y Y (VRunD.nil ?_)))))))))))
   refine tn (cf Y (sk (vinB.n (tn (VRun.region (mO (tN i) Y (fO (Qx (tv (tN i) Y) (VEv.int .i64 1) (by omega)) (aO (tN (i+1)) Y (VRunO.nil (tn ?_))))))))))
   have he11:QG (ZO (l.take i) p d)=QG (ZO (l.take (i+1)) p d):=by first | rfl | rfl | (exact ZW hx1 (fun h_=>fhg28_3 h_.1.1)) | (refine ZW hx1 (fun h_=>fhg38_5 ?_);have:=h_.1.2;omega) | (exact QcC hx1 fhc1) | (refine Qcy hx1 ⟨⟨fhg28_3,?_⟩,⟨x2,hx2,fhg54_8⟩,fhc2⟩ fhc1;omega) | (exact ZW hx1 (fun h_=>h_.2.2 fhc2)) | (exact ZW hx1 (Jp hx2 fhg54_8)) | (simp;done) | omega
   refine ⟨(i+1:Nat),?_,?_,Wk.mk (fun k=>k) ?_ ?_ ?_⟩
   ·exact ⟨by omega,fun _=>fhc0⟩
   ·first | omega | (simp only [];omega) | (show _<_;omega) | (simp;omega)
   ·exact (b2 (b2 (b2 (b2 (bc ⟨(congrArg (fun l_=>T.os 1 1 0 (List.map (QF true) l_).length) he11),rfl⟩ (b2 bn))))))
   ·exact (b3 (bc ⟨(congrArg (fun l_=>some (Obj.rows 1 (List.map (QF true) l_))) he11),(lb Y),rfl⟩ bn))
   ·exact nd Y
  refine VRun.exit (vthn.e (vthn.e (vinB.e (tn (sr (mO (T.os 1 1 0 (((QG (ZO (l.take i) p d)).map (QF true)).length)) Y (aO (T.os 1 1 0 (((QG (ZO (l.take i) p d)).map (QF true)).length)) Y (nt (rt ?_)))))))))
  refine vfin.eq (r':=(T.sl true 1 ((QG (ZO (l.take i) p d)).map (QF true)))) ?_ (vfin.r (VRes.tmp (t:=(T.os 1 1 0 (((QG (ZO (l.take i) p d)).map (QF true)).length))) Y VRes.nil) (Give.os Y Y (okStr.cleanMap _)))
  refine congrArg (fun l_=>T.sl true 1 (List.map (QF true) l_)) ?_
  first | exact QjJ fhc0 hJ2 | (by_cases hpz:YB p;(refine QjS hpz ?_;omega);exact QjJ hpz hJ2)
 refine Qz 2 4 true 15 (dz fhg15_2) Y Y Y (fO (OF.pickF (VEv.tmpB Y (dz fhg15_2)) (VEv.bool false)) (nt (cf Y (VRun.exit (vthn.e (vthn.e (vinB.e (tn (sr (mO (T.os 1 1 0 (((QG (ZO (l.take i) p d)).map (QF true)).length)) Y (aO (T.os 1 1 0 (((QG (ZO (l.take i) p d)).map (QF true)).length)) Y ?_)))))))))))
 refine nt (rt ?_)
 refine vfin.eq (r':=(T.sl true 1 ((QG (ZO (l.take i) p d)).map (QF true)))) ?_ (vfin.r (VRes.tmp (t:=(T.os 1 1 0 (((QG (ZO (l.take i) p d)).map (QF true)).length))) Y VRes.nil) (Give.os Y Y (okStr.cleanMap _)))
 refine congrArg (fun l_=>T.sl true 1 (List.map (QF true) l_)) ?_
 first | exact QjJ fhc0 hJ2 | (by_cases hpz:YB p;(refine QjS hpz ?_;omega);exact QjJ hpz hJ2)
noncomputable section
def gdP (p:D.Puzzle) (s:Int) (x:D.Report):Prop:=(x.Slot=s∧x.Kind=1)∧J4 p.Seals p.Salt s x.Word
instance (p:D.Puzzle) (s:Int) (x:D.Report):Decidable (gdP p s x):=Classical.propDecidable _
def gdL (l:List D.Report) (p:D.Puzzle) (s:Int):List Int:=(l.filter (fun x=>decide (gdP p s x))).map (fun x=>x.Tester)
def gd (l:List D.Report) (p:D.Puzzle) (s:Int):Nat:=((gdL l p s).foldl Y2 []).length
theorem Qiu {l:List D.Report} {p:D.Puzzle} {s:Int} {i:Nat} {x:D.Report} (h:l[i]? =some x):gdL (l.take (i+1)) p s=gdL (l.take i) p s++(if gdP p s x then [x.Tester] else []):=by
 unfold gdL
 rw [List.take_add_one,h,List.filter_append,List.map_append]
 by_cases hp:gdP p s x
 ·simp [hp]
 ·simp [hp]
theorem QcY {l:List D.Report} {p:D.Puzzle} {s:Int} {i:Nat} {x:D.Report} {m:List (Int×Int)} (h:l[i]? =some x) (hm:m.map (·.1)=(gdL (l.take i) p s).foldl Y2 []):(if gdP p s x then Yf m x.Tester 1 else m).map (·.1)=(gdL (l.take (i+1)) p s).foldl Y2 []:=by
 rw [Qiu h,List.foldl_append,← hm]
 split
 ·rw [QgJ];rfl
 ·rfl
theorem Qc0 {l:List D.Report} {p:D.Puzzle} {s:Int} {i:Nat} {x:D.Report} {m:List Int} (h:l[i]? =some x) (hm:m=(gdL (l.take i) p s).foldl Q3 []):(if gdP p s x then Q3 m x.Tester else m)=(gdL (l.take (i+1)) p s).foldl Q3 []:=by
 rw [Qiu h,List.foldl_append,← hm]
 split<;>rfl
theorem QnK (l:List D.Report) (p:D.Puzzle) (s:Int):((gdL l p s).foldl Q3 []).length=gd l p s:=Qfe _ List.Pairwise.nil List.nodup_nil (fun _=>Iff.rfl)
def QaV (l:List D.Report) (p:D.Puzzle) (need:Int) (s:Nat):Prop:=¬((gd l p s:Nat):Int)<need∧¬gd l p s≤(cnt l s 3).length
def Qbv (l:List D.Report) (p:D.Puzzle) (d:List D.Meaning) (need:Int):Prop:=(YB p∧¬ 0<(oaW l p d).length)∧∀s,s<p.Clues.length→QaV l p need s
instance (l:List D.Report) (p:D.Puzzle) (d:List D.Meaning) (need:Int):Decidable (Qbv l p d need):=Classical.propDecidable _
theorem QbQ {l:List D.Report} {p:D.Puzzle} {s:Int} {k:Nat} {m:List Int} (h:m=(gdL (l.take k) p s).foldl Q3 []) (hk:¬k<l.length):m.length=gd l p s:=by
 rw [h,List.take_of_length_le (by omega),QnK]
theorem QhK {l:List D.Report} {p:D.Puzzle} {need:Int} {s:Nat} (h:∀j,j<s→QaV l p need j) (h1:QaV l p need s):∀j,j<s+1→QaV l p need j:=fun j hj=>by
 rcases Nat.lt_or_ge j s with h2 | h2
 ·exact h j h2
 ·rw [show j=s by omega];exact h1
theorem QgP {c:Prop} [Decidable c] {m:List Int} {n:Int} {i:Nat} (h:m.length≤i):(if c then Q3 m n else m).length≤i+1:=QbP h
theorem Qjq (l:List D.Report) (p:D.Puzzle) (d:List D.Meaning):(oaW l p d).length≤l.length:=by
 have h1:=Qhy l p d
 have h2:=Qd1 (ZO l p d)
 unfold oaW
 split
 ·omega
 ·exact Nat.zero_le _
end
theorem Qdi (n:Nat) (x:D.Report) (p:D.Puzzle) (s:Int) (hp:QN p≤mx) (hx:x.Word.size≤maxLen):Pure (Qq Tryz.prog (n+6)) 45 [(T.agg (Qa false x)),(T.rp [(tI p.Grid.Rows),(tI p.Grid.Cols),(tS p.Grid.Cells),(rd 2 Qi p.Clues),(rd 1 Qe p.Seals),(tI p.Salt)]),(T.rp [(tI s)])] (tB (decide (J4 p.Seals p.Salt s x.Word))):=by
 refine Pure.intro (rs:= [ResultVar.tmp 4]) Tryz.func45 Y Y Y (E0:= [(0,(T.agg (Qa false x))),(1,(T.rp [(tI p.Grid.Rows),(tI p.Grid.Cols),(tS p.Grid.Cells),(rd 2 Qi p.Clues),(rd 1 Qe p.Seals),(tI p.Salt)])),(2,(T.rp [(tI s)]))]) Y ?_
 obtain ⟨hlim,hmx,hmax⟩:=QC
 have hpp:=hp
 simp only [QN,ZC] at hpp
 have hsl:=QV (z:=zI) p.Seals
 refine sr (kO (B.box (ts:=(Qa false x)) (tv (T.agg (Qa false x)) Y) nofun Y) (fO (OF.assign (VEv.bool false)) (nt (sr (lr (rd 1 Qe p.Seals) Y (lb Y) Qa9 Y QdG (lr (tI p.Salt) Y (lb Y) Qa3 Y QQ (lO (OL.loadR1 (t:=(tI s)) (tv (T.rp [(tI s)]) Y) Y QQ) (lf (tS x.Word) Y JD Y Y ZH (cO (cS (vc (tv (rd 1 Qe p.Seals) Y) (vc (tv (tI p.Salt) Y) (vc (tv (tI s) Y) (vc (tv (tS x.Word) Y) vn)))) (Q8 Y) (JG (n+0) p.Seals p.Salt s x.Word (by first | assumption | omega) (by first | assumption | omega)) Y Y) (aO (tB (decide (J4 p.Seals p.Salt s x.Word))) Y (nt ?_)))))))))))
 refine rt ?_
 exact vb Y Y
theorem Jl (n:Nat) (a:List D.Report) (t:Int) (k:Int) (p:D.Puzzle) (s:Int) (hz:zL QA a≤mx) (hp:QN p≤mx) (hk:k=1) (ht:t=s):Pure (Qq Tryz.prog (n+7)) 44 [(rd 4 Qa a),(tI t),(tI k),(T.fn 45 [(T.rp [(tI p.Grid.Rows),(tI p.Grid.Cols),(tS p.Grid.Cells),(rd 2 Qi p.Clues),(rd 1 Qe p.Seals),(tI p.Salt)]),(T.rp [(tI s)])])] (tN (gd a p s)):=by
 refine Pure.intro (rs:= [ResultVar.tmp 8]) Tryz.func44 Y Y Y (E0:= [(0,(rd 4 Qa a)),(1,(tI t)),(2,(tI k)),(3,(T.fn 45 [(T.rp [(tI p.Grid.Rows),(tI p.Grid.Cols),(tS p.Grid.Cells),(rd 2 Qi p.Clues),(rd 1 Qe p.Seals),(tI p.Salt)]),(T.rp [(tI s)])]))]) Y ?_
 obtain ⟨hlim,hmx,hmax⟩:=QC
 have ha:=QV (z:=QA) a
 refine sr (fO (OF.assign (VEv.int .i64 0)) (nt (sr (kO B.makeMap (aO (T.om 0) Y (nt (sq (sr (mO (rd 4 Qa a) Y (lO (B.lenR (m:=a.length) (tv (rd 4 Qa a) Y) U34 (List.length_map ..)) (fO (OF.move (VEv.int .i64 0)) ?_)))))))))))
 refine nt (VRun.block ?_)
 have he1:([]:List (Int×Int))= []:=by first | rfl | (refine (if_pos ?_).symm;refine ⟨⟨?_,?_⟩,?_⟩<;>first | omega | assumption) | (refine (if_neg ?_).symm;rintro ⟨⟨_,_⟩,_⟩;first | omega | contradiction) | (simp;done) | omega
 refine VRun.loop (A:=Nat×(List (Int×Int))) (fun s_=> [(1,(tI t)),(2,(tI k)),(3,(T.fn 45 [(T.rp [(tI p.Grid.Rows),(tI p.Grid.Cols),(tS p.Grid.Cells),(rd 2 Qi p.Clues),(rd 1 Qe p.Seals),(tI p.Salt)]),(T.rp [(tI s)])])),(8,(tN 0)),(9,(T.om 0)),(13,(rd 4 Qa a)),(14,(tN a.length)),(15,(tN s_.1))]) (fun s_=>QU [(0,(Obj.map (eM s_.2)))]) 1 (fun s_=>s_.1≤a.length∧s_.2.map (·.1)=(gdL (a.take s_.1) p s).foldl Y2 []) (fun s_=>a.length - s_.1) ((0,[]):Nat×(List (Int×Int))) ?_ (Wk.mk (fun k=>k) ?_ ?_ ?_) ?_
 ·exact ⟨Nat.zero_le _,rfl⟩
 ·exact (b2 (b2 (b2 (b2 (b2 (b2 (b2 (b2 bn))))))))
 ·exact (bc ⟨(congrArg (fun l_=>some (Obj.map (eM l_))) he1),(lb Y),rfl⟩ bn)
 ·exact nd Y
 rintro ⟨i,m⟩ (hI':i≤a.length∧m.map (·.1)=(gdL (a.take i) p s).foldl Y2 [])
 show VRun _ _ _ [(1,(tI t)),(2,(tI k)),(3,(T.fn 45 [(T.rp [(tI p.Grid.Rows),(tI p.Grid.Cols),(tS p.Grid.Cells),(rd 2 Qi p.Clues),(rd 1 Qe p.Seals),(tI p.Salt)]),(T.rp [(tI s)])])),(8,(tN 0)),(9,(T.om 0)),(13,(rd 4 Qa a)),(14,(tN a.length)),(15,(tN i))] (QU [(0,(Obj.map (eM m)))]) 1 _
 have hI1:=hI'.1
 refine sr (fO (Q2 (tv (tN i) Y) (tv (tN a.length) Y)) (nt (sq ?_)))
 refine cd (i<a.length) Y (fun fhc0=> ?_) fun fhc0=> ?_
 ·refine sk ?_
  refine tn (sq (VRun.block (sr ?_)))
  obtain ⟨x1,hx1⟩:∃x,a[i]? =some x:=⟨_,List.getElem?_eq_getElem (by omega)⟩
  have hz1:=JH (z:=QA) hx1;simp only [QA] at hz1
  refine fO (OF.indexAddrR (row:=(Qa false x1)) (i:=i) (tv (rd 4 Qa a) Y) (tv (tN i) Y) Y (Qu _ hx1) U34 YE QaT) (lO (OL.loadRn (us:=(Qa false x1)) (tv (T.rp (Qa false x1)) Y) QfZ YE (lb Y) Y) (kO (B.alloc (t:=(T.agg [(tN 0),(tN 0),(tN 0),(tS ByteArray.empty)])) (ts:= [(tN 0),(tN 0),(tN 0),(tS ByteArray.empty)]) QiU QiY nofun (fun _=> .agg _ _ Y (YK (RL.cons (.int _ _) (RL.cons (.int _ _) (RL.cons (.int _ _) (RL.cons (.str _) (RL.nil _))))))) Y) (cO (B.storeW (us:=(Qa false x1)) (tv (T.op 1 0) Y) (tv (T.agg (Qa false x1)) Y) nofun Y Y Y QaT YE (bc Y (bc Y (bc Y (bc Y bn))))) (nt (sr (lf (tI x1.Slot) Y Jg Y Y QQ (mO (tI t) Y (fO (Z7 (tv (tI x1.Slot) Y) (tv (tI t) Y)) (mO (tB (decide (x1.Slot=t))) Y ?_)))))))))
  refine gw (x1.Slot=t) (fun fhg23_2=> ?_) fun fhg23_2=> ?_
  ·refine Yt (tI x1.Kind) (dy fhg23_2) Y Y Y Y Qa1 Y Y QQ ?_
   refine gF (dy fhg23_2) Y Y (OF.move (tv (tI k) Y)) (gF (dy fhg23_2) Y Y (Z7 (tv (tI x1.Kind) Y) (tv (tI k) Y)) (fO (OF.pickT (VEv.tmpB Y (dy fhg23_2)) (tv (tB (decide (x1.Kind=k))) Y)) (mO (tB (decide (x1.Kind=k))) Y ?_)))
   refine gw (x1.Kind=k) (fun fhg29_3=> ?_) fun fhg29_3=> ?_
   ·refine gF (dy fhg29_3) Y Y (OF.move (tv (T.fn 45 [(T.rp [(tI p.Grid.Rows),(tI p.Grid.Cols),(tS p.Grid.Cells),(rd 2 Qi p.Clues),(rd 1 Qe p.Seals),(tI p.Salt)]),(T.rp [(tI s)])]) Y)) ?_
    refine gL (dy fhg29_3) Y Y (OL.loadOn (us:=(Qa false x1)) (tv (T.op 1 0) Y) Y QfZ YE (lb Y) Y) (VRunO.chain (VWant.on Y Y (dy fhg29_3)) (OC.callv (us:= [(T.agg (Qa false x1))]) (ucaps:= [(T.rp [(tI p.Grid.Rows),(tI p.Grid.Cols),(tS p.Grid.Cells),(rd 2 Qi p.Clues),(rd 1 Qe p.Seals),(tI p.Salt)]),(T.rp [(tI s)])]) (r:=(tB (decide (J4 p.Seals p.Salt s x1.Word)))) (r':=(tB (decide (J4 p.Seals p.Salt s x1.Word)))) (objs:= []) Y Y (vc (tv (T.agg (Qa false x1)) Y) vn) (LendL.cons (lg okeReport) ln) (Q8 Y) (Qdi (n+0) x1 p s (by first | assumption | omega) (by first | assumption | omega)) Y) (fO (OF.pickT (VEv.tmpB Y (dy fhg29_3)) (tv (tB (decide (J4 p.Seals p.Salt s x1.Word))) Y)) (nt ?_)))
    refine cd (J4 p.Seals p.Salt s x1.Word) Y (fun fhc1=> ?_) fun fhc1=> ?_
    ·refine VRun.region ?_
     refine mO (T.om 0) Y (lf (tI x1.Tester) Y QcB Y Y QQ (cO (B.mapSet (l:=m) (l':=(Yf m x1.Tester 1)) (tv (T.om 0) Y) (tv (tI x1.Tester) Y) (VEv.int .i64 1) Y Qko U3 Y) (VRunO.nil (vinB.n (tn (VRun.region (fO (Qx (tv (tN i) Y) (VEv.int .i64 1) (by omega)) (mO (tN (i+1)) Y (VRunO.nil (tn ?_))))))))))
     have he4:(Yf m x1.Tester 1)=(if gdP p s x1 then Yf m x1.Tester 1 else m):=by first | rfl | (refine (if_pos ?_).symm;refine ⟨⟨?_,?_⟩,?_⟩<;>first | omega | assumption) | (refine (if_neg ?_).symm;rintro ⟨⟨_,_⟩,_⟩;first | omega | contradiction) | (simp;done) | omega
     refine ⟨((i+1,if gdP p s x1 then Yf m x1.Tester 1 else m):Nat×(List (Int×Int))),?_,?_,Wk.mk (fun k=>k) ?_ ?_ ?_⟩
     ·exact ⟨by omega,QcY hx1 hI'.2⟩
     ·first | omega | (simp only [];omega) | (show _<_;omega) | (simp;omega)
     ·exact (b2 (b2 (b2 (b2 (b2 (b2 (b2 (b2 bn))))))))
     ·exact (bc ⟨(congrArg (fun l_=>some (Obj.map (eM l_))) he4),(lb Y),rfl⟩ bn)
     ·exact nd Y
    refine sk (vinB.n (tn (VRun.region (fO (Qx (tv (tN i) Y) (VEv.int .i64 1) (by omega)) (mO (tN (i+1)) Y (VRunO.nil (tn ?_)))))))
    have he5:m=(if gdP p s x1 then Yf m x1.Tester 1 else m):=by first | rfl | (refine (if_pos ?_).symm;refine ⟨⟨?_,?_⟩,?_⟩<;>first | omega | assumption) | (refine (if_neg ?_).symm;rintro ⟨⟨_,_⟩,_⟩;first | omega | contradiction) | (simp;done) | omega
    refine ⟨((i+1,if gdP p s x1 then Yf m x1.Tester 1 else m):Nat×(List (Int×Int))),?_,?_,Wk.mk (fun k=>k) ?_ ?_ ?_⟩
    ·exact ⟨by omega,QcY hx1 hI'.2⟩
    ·first | omega | (simp only [];omega) | (show _<_;omega) | (simp;omega)
    ·exact (b2 (b2 (b2 (b2 (b2 (b2 (b2 (b2 bn))))))))
    ·exact (bc ⟨(congrArg (fun l_=>some (Obj.map (eM l_))) he5),(lb Y),rfl⟩ bn)
    ·exact nd Y
   refine Qz 3 10 true 29 (dz fhg29_3) Y Y Y (fO (OF.pickF (VEv.tmpB Y (dz fhg29_3)) (VEv.bool false)) (nt (cf Y (sk (vinB.n (tn (VRun.region (fO (Qx (tv (tN i) Y) (VEv.int .i64 1) (by omega)) (mO (tN (i+1)) Y (VRunO.nil (tn ?_)))))))))))
   have he6:m=(if gdP p s x1 then Yf m x1.Tester 1 else m):=by first | rfl | (refine (if_pos ?_).symm;refine ⟨⟨?_,?_⟩,?_⟩<;>first | omega | assumption) | (refine (if_neg ?_).symm;rintro ⟨⟨_,_⟩,_⟩;first | omega | contradiction) | (simp;done) | omega
   refine ⟨((i+1,if gdP p s x1 then Yf m x1.Tester 1 else m):Nat×(List (Int×Int))),?_,?_,Wk.mk (fun k=>k) ?_ ?_ ?_⟩
   ·exact ⟨by omega,QcY hx1 hI'.2⟩
   ·first | omega | (simp only [];omega) | (show _<_;omega) | (simp;omega)
   ·exact (b2 (b2 (b2 (b2 (b2 (b2 (b2 (b2 bn))))))))
   ·exact (bc ⟨(congrArg (fun l_=>some (Obj.map (eM l_))) he6),(lb Y),rfl⟩ bn)
   ·exact nd Y
  refine Qz 4 4 true 23 (dz fhg23_2) Y Y Y (fO (OF.pickF (VEv.tmpB Y (dz fhg23_2)) (VEv.bool false)) (mO (tB false) Y (Qz 3 10 true 29 (b:=false) Y Y Y Y (fO (OF.pickF (tv (tB false) Y) (VEv.bool false)) (nt (cf Y (sk (vinB.n (tn (VRun.region (fO (Qx (tv (tN i) Y) (VEv.int .i64 1) (by omega)) ?_)))))))))))
  refine mO (tN (i+1)) Y (VRunO.nil (tn ?_))
  have he7:m=(if gdP p s x1 then Yf m x1.Tester 1 else m):=by first | rfl | (refine (if_pos ?_).symm;refine ⟨⟨?_,?_⟩,?_⟩<;>first | omega | assumption) | (refine (if_neg ?_).symm;rintro ⟨⟨_,_⟩,_⟩;first | omega | contradiction) | (simp;done) | omega
  refine ⟨((i+1,if gdP p s x1 then Yf m x1.Tester 1 else m):Nat×(List (Int×Int))),?_,?_,Wk.mk (fun k=>k) ?_ ?_ ?_⟩
  ·exact ⟨by omega,QcY hx1 hI'.2⟩
  ·first | omega | (simp only [];omega) | (show _<_;omega) | (simp;omega)
  ·exact (b2 (b2 (b2 (b2 (b2 (b2 (b2 (b2 bn))))))))
  ·exact (bc ⟨(congrArg (fun l_=>some (Obj.map (eM l_))) he7),(lb Y),rfl⟩ bn)
  ·exact nd Y
 refine VRun.exit (vthn.e (vthn.e (vinB.e (tn (sr (mO (T.om 0) Y (lO (B.lenM (m:=m.length) (tv (T.om 0) Y) Y Qko Y) (aO (tN m.length) Y (nt (rt (vi (n':=((m.length:Nat):Int)) Y ?_)))))))))))
 have e:=congrArg List.length hI'.2
 rw [List.take_of_length_le (by omega),List.length_map] at e
 rw [e];rfl
theorem Qez (n:Nat) (l:List D.Report) (p:D.Puzzle) (d:List D.Meaning) (need:Int) (hl:zL QA l≤mx) (hp:QN p≤mx) (hd:d.length≤Zk):Pure (Qq Tryz.prog (n+44)) 12 [(rd 4 Qa l),(T.agg (Qt false p)),(rd 2 Qb d),(tI need)] (tB (decide (Qbv l p d need))):=by
 refine Pure.intro (rs:= [ResultVar.tmp 8]) Tryz.func12 Y Y Y (E0:= [(0,(rd 4 Qa l)),(1,(T.agg (Qt false p))),(2,(rd 2 Qb d)),(3,(tI need))]) Y ?_
 obtain ⟨hlim,hmx,hmax⟩:=QC
 have hll:=QV (z:=QA) l
 have hpp:=hp
 simp only [QN,ZC] at hpp
 have hcl:=QV (z:=QP) p.Clues
 have hol:=Qjq l p d
 refine sr (kO (B.box (ts:=(Qt false p)) (tv (T.agg (Qt false p)) Y) nofun Y) (fO (OF.assign (VEv.bool false)) (nt (sq (sr (lO (OL.loadOn (us:=(Qt false p)) (tv (T.op 0 0) Y) Y Qgg QeI (lb Y) Y) (cO (cS (vc (tv (T.agg (Qt false p)) Y) vn) (LendL.cons (lg Yj) ln) (Qbd (n+1) p (by first | assumption | omega)) Y Y) (fO (QW (tv (tB (decide (YB p))) Y)) (mO (tB (!(decide (YB p)))) Y ?_)))))))))
 refine gn (YB p) (fun fhg14_1=> ?_) fun fhg14_1=> ?_
 ·refine Qz 6 3 false 14 (ny fhg14_1) Y Y Y ?_
  refine fO (OF.pickT (VEv.tmpB Y (ny fhg14_1)) (VEv.bool true)) (nt (ct Y (sr (fO (OF.assign (VEv.bool false)) (nt (rt (tr (vb (b':=false) Y ?_))))))))
  first | exact Yc (fun h_=>fhg14_1 h_.1.1) | exact Yc (fun h_=>h_.1.2 fhc0) | exact Yc (fun h_=>(h_.2 s fhc1).1 fhg35_2) | exact Yc (fun h_=>(h_.2 s fhc1).2 fhc2) | exact dTr ⟨⟨fhg14_1,fhc0⟩,fun j hj=>hI2 j (by omega)⟩
 refine gF (nz fhg14_1) Y Y (OF.move (tv (rd 4 Qa l) Y)) (gL (nz fhg14_1) Y Y (OL.loadOn (us:=(Qt false p)) (tv (T.op 0 0) Y) Y Qgg QeI (lb Y) Y) (gF (nz fhg14_1) Y Y (OF.move (tv (rd 2 Qb d) Y)) (VRunO.chain (VWant.on Y Y (nz fhg14_1)) (OC.callF (r':=(T.os 1 1 0 (((oaW l p d).map (QF true)).length))) (objs:= [(Obj.rows 1 ((oaW l p d).map (QF true)))]) Y (vc (tv (rd 4 Qa l) Y) (vc (tv (T.agg (Qt false p)) Y) (vc (tv (rd 2 Qb d) Y) vn))) (lp Y (LendL.cons (lg Yj) (lp Y ln))) (Qb0 (n+0) l p d (by first | assumption | omega) (by first | assumption | omega) (by first | assumption | omega)) Y) (gL (nz fhg14_1) Y Y (B.lenO (m:=(oaW l p d).length) (tv (T.os 1 1 0 (((oaW l p d).map (QF true)).length)) Y) U54 (List.length_map ..)) (gF (nz fhg14_1) Y Y (B.gtr (c:=(decide (0<(oaW l p d).length))) (tv (tN ((oaW l p d).length)) Y) (VEv.int .i64 0) (Qv (by omega))) (fO (OF.pickF (VEv.tmpB Y (nz fhg14_1)) (tv (tB (decide (0<(oaW l p d).length))) Y)) (nt ?_)))))))
 refine cd (0<(oaW l p d).length) Y (fun fhc0=> ?_) fun fhc0=> ?_
 ·refine sr ?_
  refine fO (OF.assign (VEv.bool false)) (nt (rt (tr (vb (b':=false) Y ?_))))
  first | exact Yc (fun h_=>fhg14_1 h_.1.1) | exact Yc (fun h_=>h_.1.2 fhc0) | exact Yc (fun h_=>(h_.2 s fhc1).1 fhg35_2) | exact Yc (fun h_=>(h_.2 s fhc1).2 fhc2) | exact dTr ⟨⟨fhg14_1,fhc0⟩,fun j hj=>hI2 j (by omega)⟩
 refine sk (tn (sq (sr (lf (rd 2 Qi p.Clues) Y Y5 Y Y QdI (lO (B.lenR (m:=p.Clues.length) (tv (rd 2 Qi p.Clues) Y) U37 (List.length_map ..)) (fO (OF.move (VEv.int .i64 0)) (nt (VRun.block ?_))))))))
 refine VRun.loop (A:=Nat) (fun s_=> [(0,(rd 4 Qa l)),(3,(tI need)),(5,(T.op 0 0)),(24,(tN p.Clues.length)),(25,(tN s_))]) (fun s_=>QU [(0,(Obj.cells (Qt false p)))]) 1 (fun s_=>s_≤p.Clues.length∧∀j,j<s_→QaV l p need j) (fun s_=>p.Clues.length - s_) (0:Nat) ?_ (Wk.mk (fun k=>k) ?_ ?_ ?_) ?_
 ·exact ⟨Nat.zero_le _,fun j hj=>by omega⟩
 ·exact (b2 (b2 (b2 (b2 (b2 bn)))))
 ·exact (b3 bn)
 ·exact nd Y
 rintro s (hI':s≤p.Clues.length∧∀j,j<s→QaV l p need j)
 show VRun _ _ _ [(0,(rd 4 Qa l)),(3,(tI need)),(5,(T.op 0 0)),(24,(tN p.Clues.length)),(25,(tN s))] (QU [(0,(Obj.cells (Qt false p)))]) 1 _
 have hI1:=hI'.1
 have hI2:=hI'.2
 refine sr (fO (Q2 (tv (tN s) Y) (tv (tN p.Clues.length) Y)) (nt (sq ?_)))
 refine cd (s<p.Clues.length) Y (fun fhc1=> ?_) fun fhc1=> ?_
 ·refine sk ?_
  refine tn (sq (VRun.block (sr (mO (tN s) Y (kO (B.alloc (t:=(tN 0)) (ts:= [(tN 0)]) zo3 zc3 nofun (fun _=> .int _ _) Y) (cO (B.storeW (us:= [(tN s)]) (tv (T.op 1 0) Y) (tv (tN s) Y) nofun Y Y Y Jc Zu (bc Y bn)) (nt (sr (mO (rd 4 Qa l) Y (lO (OL.loadO1 (t:=(tN s)) (tv (T.op 1 0) Y) Y Y QQ) (fO (OF.makeFunc (vc (tv (T.op 0 0) Y) (vc (tv (T.op 1 0) Y) vn))) ?_)))))))))))
  refine cO (cS (us:= [(rd 4 Qa l),(tN s),(tN 1),(T.fn 45 [(T.rp (Qt false p)),(T.rp [(tN s)])])]) (vc (tv (rd 4 Qa l) Y) (vc (tv (tN s) Y) (vc (VEv.int .i64 1) (vc (tv (T.fn 45 [(T.op 0 0),(T.op 1 0)]) Y) vn)))) (lp Y (lp Y (lp Y (LendL.cons (Lend.fn (LendL.cons (Lend.op (us':=(Qt false p)) (ts:=(Qt false p)) Y (LendL.cons (Lend.pl Y) (LendL.cons (Lend.pl Y) (LendL.cons (Lend.pl Y) (LendL.cons (Lend.pl Y) (LendL.cons (Lend.pl Y) (LendL.cons (Lend.pl Y) ln)))))) (lb Y) Y) (LendL.cons (Lend.op (us':= [(tN s)]) (ts:= [(tN s)]) Y (LendL.cons (Lend.pl Y) ln) (lb Y) Y) ln))) ln)))) (Jl (n+36) l ((s:Nat):Int) 1 p ((s:Nat):Int) (by first | assumption | omega) (by first | assumption | omega) (by first | assumption | omega) (by first | assumption | omega)) Y Y) (aO (tN (gd l p ((s:Nat):Int))) Y (nt (sr (mO (tN (gd l p ((s:Nat):Int))) Y (mO (tI need) Y (fO (xls (tv (tN (gd l p ((s:Nat):Int))) Y) (tv (tI need) Y)) (mO (tB (decide (((gd l p ((s:Nat):Int):Nat):Int)<need))) Y ?_)))))))
  refine gw (((gd l p ((s:Nat):Int):Nat):Int)<need) (fun fhg35_2=> ?_) fun fhg35_2=> ?_
  ·refine Qz 5 3 false 35 (dy fhg35_2) Y Y Y ?_
   refine fO (OF.pickT (VEv.tmpB Y (dy fhg35_2)) (VEv.bool true)) (nt (ct Y (sr (fO (OF.assign (VEv.bool false)) (nt (rt (vinB.r (tr (tr (vinB.r (tr ?_)))))))))))
   refine vb (b':=false) Y ?_
   first | exact Yc (fun h_=>fhg14_1 h_.1.1) | exact Yc (fun h_=>h_.1.2 fhc0) | exact Yc (fun h_=>(h_.2 s fhc1).1 fhg35_2) | exact Yc (fun h_=>(h_.2 s fhc1).2 fhc2) | exact dTr ⟨⟨fhg14_1,fhc0⟩,fun j hj=>hI2 j (by omega)⟩
  refine gF (dz fhg35_2) Y Y (OF.move (tv (rd 4 Qa l) Y)) (gL (dz fhg35_2) Y Y (OL.loadO1 (t:=(tN s)) (tv (T.op 1 0) Y) Y Y QQ) (VRunO.chain (VWant.on Y Y (dz fhg35_2)) (cS (vc (tv (rd 4 Qa l) Y) (vc (tv (tN s) Y) (vc (VEv.int .i64 3) vn))) (Q8 Y) (Qdx (n+40) l ((s:Nat):Int) 3 (by first | assumption | omega)) Y Y) (gF (dz fhg35_2) Y Y (OF.move (tv (tN (gd l p ((s:Nat):Int))) Y)) (gF (dz fhg35_2) Y Y (QoE (tv (tN ((cnt l ((s:Nat):Int) 3).length)) Y) (tv (tN (gd l p ((s:Nat):Int))) Y)) (fO (OF.pickF (VEv.tmpB Y (dz fhg35_2)) (tv (tB (decide (gd l p ((s:Nat):Int)≤(cnt l ((s:Nat):Int) 3).length))) Y)) (nt ?_))))))
  refine cd (gd l p ((s:Nat):Int)≤(cnt l ((s:Nat):Int) 3).length) Y (fun fhc2=> ?_) fun fhc2=> ?_
  ·refine sr ?_
   refine fO (OF.assign (VEv.bool false)) (nt (rt (vinB.r (tr (tr (vinB.r (tr (vb (b':=false) Y ?_))))))))
   first | exact Yc (fun h_=>fhg14_1 h_.1.1) | exact Yc (fun h_=>h_.1.2 fhc0) | exact Yc (fun h_=>(h_.2 s fhc1).1 fhg35_2) | exact Yc (fun h_=>(h_.2 s fhc1).2 fhc2) | exact dTr ⟨⟨fhg14_1,fhc0⟩,fun j hj=>hI2 j (by omega)⟩
  refine sk (vinB.n (tn (VRun.region (fO (Qx (tv (tN s) Y) (VEv.int .i64 1) (by omega)) (mO (tN (s+1)) Y (VRunO.nil (tn ?_)))))))
  refine ⟨(s+1:Nat),?_,?_,Wk.mk (fun k=>k) ?_ ?_ ?_⟩
  ·exact ⟨by omega,QhK hI2 ⟨fhg35_2,fhc2⟩⟩
  ·first | omega | (simp only [];omega) | (show _<_;omega) | (simp;omega)
  ·exact (b2 (b2 (b2 (b2 (b2 bn)))))
  ·exact (b3 bn)
  ·exact nd Y
 refine VRun.exit (vthn.e (vthn.e (vinB.e (tn (sr (fO (OF.assign (VEv.bool true)) (nt (rt (vb (b':=true) Y ?_)))))))))
 first | exact Yc (fun h_=>fhg14_1 h_.1.1) | exact Yc (fun h_=>h_.1.2 fhc0) | exact Yc (fun h_=>(h_.2 s fhc1).1 fhg35_2) | exact Yc (fun h_=>(h_.2 s fhc1).2 fhc2) | exact dTr ⟨⟨fhg14_1,fhc0⟩,fun j hj=>hI2 j (by omega)⟩
theorem Qeo (n:Nat) (l:List D.Report) (p:D.Puzzle) (d:List D.Meaning) (need:Int) (hl:zL QA l≤mx) (hp:QN p≤mx) (hd:d.length≤Zk):Pure (Qq Tryz.prog (n+27)) 8 [(rd 4 Qa l),(T.agg (Qt false p)),(rd 2 Qb d),(tI need)] (tB (decide (Qbv l p d need))):=by
 refine Pure.intro (rs:= [ResultVar.tmp 8]) Tryz.func8 Y Y Y (E0:= [(0,(rd 4 Qa l)),(1,(T.agg (Qt false p))),(2,(rd 2 Qb d)),(3,(tI need))]) Y ?_
 obtain ⟨hlim,hmx,hmax⟩:=QC
 have hll:=QV (z:=QA) l
 have hpp:=hp
 simp only [QN,ZC] at hpp
 have hcl:=QV (z:=QP) p.Clues
 have hsl:=QV (z:=zI) p.Seals
 have hol:=Qjq l p d
 refine sr (kO (B.box (ts:=(Qt false p)) (tv (T.agg (Qt false p)) Y) nofun Y) (fO (OF.assign (VEv.bool false)) (nt (sq (sr (lO (OL.loadOn (us:=(Qt false p)) (tv (T.op 0 0) Y) Y Qgg QeI (lb Y) Y) (cO (cS (vc (tv (T.agg (Qt false p)) Y) vn) (LendL.cons (lg Yj) ln) (Qbb (n+16) p (by first | assumption | omega)) Y Y) (fO (QW (tv (tB (decide (YB p))) Y)) (mO (tB (!(decide (YB p)))) Y ?_)))))))))
 refine gn (YB p) (fun fhg15_1=> ?_) fun fhg15_1=> ?_
 ·refine Qz 6 3 false 15 (ny fhg15_1) Y Y Y ?_
  refine fO (OF.pickT (VEv.tmpB Y (ny fhg15_1)) (VEv.bool true)) (nt (ct Y (sr (fO (OF.assign (VEv.bool false)) (nt (rt (tr (vb (b':=false) Y ?_))))))))
  first | exact Yc (fun h_=>fhg15_1 h_.1.1) | exact Yc (fun h_=>h_.1.2 fhc0) | (refine Yc (fun h_=> ?_);have q1:=h_.2 s fhc1;have q2:=QbQ hK3 fhc2;unfold QaV at q1;omega) | exact dTr ⟨⟨fhg15_1,fhc0⟩,fun j hj=>hI2 j (by omega)⟩
 refine gF (nz fhg15_1) Y Y (OF.move (tv (rd 4 Qa l) Y)) (gL (nz fhg15_1) Y Y (OL.loadOn (us:=(Qt false p)) (tv (T.op 0 0) Y) Y Qgg QeI (lb Y) Y) (gF (nz fhg15_1) Y Y (OF.move (tv (rd 2 Qb d) Y)) (VRunO.chain (VWant.on Y Y (nz fhg15_1)) (OC.callF (r':=(T.os 1 1 0 (((oaW l p d).map (QF true)).length))) (objs:= [(Obj.rows 1 ((oaW l p d).map (QF true)))]) Y (vc (tv (rd 4 Qa l) Y) (vc (tv (T.agg (Qt false p)) Y) (vc (tv (rd 2 Qb d) Y) vn))) (lp Y (LendL.cons (lg Yj) (lp Y ln))) (Qb1 (n+0) l p d (by first | assumption | omega) (by first | assumption | omega) (by first | assumption | omega)) Y) (gL (nz fhg15_1) Y Y (B.lenO (m:=(oaW l p d).length) (tv (T.os 1 1 0 (((oaW l p d).map (QF true)).length)) Y) U54 (List.length_map ..)) (gF (nz fhg15_1) Y Y (B.gtr (c:=(decide (0<(oaW l p d).length))) (tv (tN ((oaW l p d).length)) Y) (VEv.int .i64 0) (Qv (by omega))) (fO (OF.pickF (VEv.tmpB Y (nz fhg15_1)) (tv (tB (decide (0<(oaW l p d).length))) Y)) (nt ?_)))))))
 refine cd (0<(oaW l p d).length) Y (fun fhc0=> ?_) fun fhc0=> ?_
 ·refine sr ?_
  refine fO (OF.assign (VEv.bool false)) (nt (rt (tr (vb (b':=false) Y ?_))))
  first | exact Yc (fun h_=>fhg15_1 h_.1.1) | exact Yc (fun h_=>h_.1.2 fhc0) | (refine Yc (fun h_=> ?_);have q1:=h_.2 s fhc1;have q2:=QbQ hK3 fhc2;unfold QaV at q1;omega) | exact dTr ⟨⟨fhg15_1,fhc0⟩,fun j hj=>hI2 j (by omega)⟩
 refine sk (tn (sq (sr (fO (OF.assign (VEv.int .i64 0)) (nt (VRun.block ?_))))))
 refine VRun.loop (A:=Nat) (fun s_=> [(0,(rd 4 Qa l)),(3,(tI need)),(5,(T.op 0 0)),(9,(tN s_))]) (fun s_=>QU [(0,(Obj.cells (Qt false p)))]) 1 (fun s_=>s_≤p.Clues.length∧∀j,j<s_→QaV l p need j) (fun s_=>p.Clues.length - s_) (0:Nat) ?_ (Wk.mk (fun k=>k) ?_ ?_ ?_) ?_
 ·exact ⟨Nat.zero_le _,fun j hj=>by omega⟩
 ·exact (b2 (b2 (b2 (b2 bn))))
 ·exact (b3 bn)
 ·exact nd Y
 rintro s (hI':s≤p.Clues.length∧∀j,j<s→QaV l p need j)
 show VRun _ _ _ [(0,(rd 4 Qa l)),(3,(tI need)),(5,(T.op 0 0)),(9,(tN s))] (QU [(0,(Obj.cells (Qt false p)))]) 1 _
 have hI1:=hI'.1
 have hI2:=hI'.2
 refine sq (sr (mO (tN s) Y (lf (rd 2 Qi p.Clues) Y Y5 Y Y QdI (lO (B.lenR (m:=p.Clues.length) (tv (rd 2 Qi p.Clues) Y) U37 (List.length_map ..)) (fO (Q2 (tv (tN s) Y) (tv (tN p.Clues.length) Y)) (nt ?_))))))
 refine cd (s<p.Clues.length) Y (fun fhc1=> ?_) fun fhc1=> ?_
 ·refine sk ?_
  refine tn (sq (VRun.block (sr (kO (OM.slice0 ZE zo3 (by kernel_rfl) Y (by rw [Zu];decide) Zu) (aO (T.os 1 1 0 0) Y (nt (sq (sr (fO (OF.assign (VEv.int .i64 0)) (nt (VRun.block ?_)))))))))))
  have he2: []=([].map (Qe true)):=by first | rfl | (refine (if_pos ?_).symm;refine ⟨⟨?_,?_⟩,?_⟩<;>first | omega | assumption) | (refine (if_neg ?_).symm;rintro ⟨⟨_,_⟩,_⟩;first | omega | contradiction) | (simp;done) | omega
  refine VRun.loop (A:=Nat×(List Int)) (fun s_=> [(0,(rd 4 Qa l)),(3,(tI need)),(5,(T.op 0 0)),(9,(tN s)),(10,(T.os 1 1 0 ((s_.2.map (Qe true)).length))),(11,(tN s_.1))]) (fun s_=>QU [(0,(Obj.cells (Qt false p))),(1,(Obj.rows 1 (s_.2.map (Qe true))))]) 2 (fun s_=>s_.1≤l.length∧s_.2.length≤s_.1∧s_.2=(gdL (l.take s_.1) p s).foldl Q3 []) (fun s_=>l.length - s_.1) ((0,[]):Nat×(List Int)) ?_ (Wk.mk (fun k=>k) ?_ ?_ ?_) ?_
  ·exact ⟨Nat.zero_le _,Nat.le_refl _,rfl⟩
  ·exact (b2 (b2 (b2 (b2 (bc ⟨(congrArg (fun n_=>T.os 1 1 0 n_) (show 0=([].map (Qe true)).length from (by first | rfl | (simp only [List.length_map];omega) | (simp only [List.length_map,List.length_set,List.length_append,List.length_take,List.length_replicate,List.length_cons,List.length_nil];omega)))),rfl⟩ (b2 bn))))))
  ·exact (b3 (bc ⟨(congrArg (fun l_=>some (Obj.rows 1 l_)) he2),(lb Y),rfl⟩ bn))
  ·exact nd Y
  rintro ⟨k,out⟩ (hI':k≤l.length∧out.length≤k∧out=(gdL (l.take k) p s).foldl Q3 [])
  show VRun _ _ _ [(0,(rd 4 Qa l)),(3,(tI need)),(5,(T.op 0 0)),(9,(tN s)),(10,(T.os 1 1 0 ((out.map (Qe true)).length))),(11,(tN k))] (QU [(0,(Obj.cells (Qt false p))),(1,(Obj.rows 1 (out.map (Qe true))))]) 2 _
  have hK1:=hI'.1
  have hK2:=hI'.2.1
  have hK3:=hI'.2.2
  refine sq (sr (mO (tN k) Y (mO (rd 4 Qa l) Y (lO (B.lenR (m:=l.length) (tv (rd 4 Qa l) Y) U34 (List.length_map ..)) (fO (Q2 (tv (tN k) Y) (tv (tN l.length) Y)) (nt ?_))))))
  refine cd (k<l.length) Y (fun fhc2=> ?_) fun fhc2=> ?_
  ·refine sk ?_
   refine tn (sq (VRun.block (sq (VRun.draw (B:= [[],[],[1,0],[0,1,2],[2,1,0,3],[],[5,3,0,1,2,4],[4,2,1,0,3,5,6],[6,5,3,0,1,2,4,7],[6,5,3,0,1,2,4,7],[9,7,4,2,1,0,3,5,6,8],[8,6,5,3,0,1,2,4,7,9,10],[10,9,7,4,2,1,0,3,5,6,8,11],[11,8,6,5,3,0,1,2,4,7,9,10,12],[12,10,9,8,11,13,6,5,3,0,1,2,4,7],[7,4,2,1,0,3,5,6,13,11,8,9,10,12,14],[14,12,10,9,8,11,13,6,5,3,0,1,2,4,7,15],[15,7,4,2,1,0,3,5,6,13,11,8,9,10,12,14,16],[14,12,10,9,8,11,13,6,5,3,0,1,2,4,7,15],[15,7,4,2,1,0,3,5,6,13,11,8,9,10,12,14,18],[14,12,10,9,8,11,13,6,5,3,0,1,2,4,7,15],[14,12,10,9,8,11,13,6,5,3,0,1,2,4,7,15],[14,12,10,9,8,11,13,6,5,3,0,1,2,4,7,15],[22,15,7,4,2,1,0,3,5,6,13,11,8,9,10,12,14,21],[21,14,12,10,9,8,11,13,6,5,3,0,1,2,4,7,15,22,23],[23,22,15,7,4,2,1,0,3,5,6,13,11,8,9,10,12,14,21,24],[24,21,22,23,25,20,18,19,16,14,12,10,9,8,11,13,6,5,3,0,1,2,4,7,15,17],[17,16,19,18,20,25,23,22,21,24,26,14,12,10,9,8,11,13,6,5,3,0,1,2,4,7,15]]) (by kernel_rfl) (by kernel_rfl) (mD (rd 4 Qa l) Y Y (mD (tN k) Y Y ?_))))))
   obtain ⟨x1,hx1⟩:∃x,l[k]? =some x:=⟨_,List.getElem?_eq_getElem (by omega)⟩
   have hz1:=JH (z:=QA) hx1;simp only [QA] at hz1
   refine fD (OF.indexAddrR (row:=(Qa false x1)) (i:=k) (tv (rd 4 Qa l) Y) (tv (tN k) Y) Y (Qu _ hx1) U34 YE QaT) Y Y (fD (B.fieldAddrR (us:=((Qa false x1).drop 1)) (tv (T.rp (Qa false x1)) Y) (lb Y) Jg Y) Y Y (lD (OL.loadR1 (t:=(tI x1.Slot)) (tv (T.rp ((Qa false x1).drop 1)) Y) Y QQ) Y Y (mD (tN s) Y Y (fD (Z7 (tv (tI x1.Slot) Y) (tv (tN s) Y)) Y Y (mD (tB (decide (x1.Slot=((s:Nat):Int)))) Y Y ?_)))))
   refine gw (x1.Slot=((s:Nat):Int)) (fun fhg44_3=> ?_) fun fhg44_3=> ?_
   ·refine VRunD.free Y (VWant.on Y Y (dy fhg44_3)) Y (OF.move (tv (rd 4 Qa l) Y)) ?_
    refine VRunD.free Y (VWant.on Y Y (dy fhg44_3)) Y (OF.move (tv (tN k) Y)) (VRunD.free Y (VWant.on Y Y (dy fhg44_3)) Y (OF.indexAddrR (row:=(Qa false x1)) (i:=k) (tv (rd 4 Qa l) Y) (tv (tN k) Y) Y (Qu _ hx1) U34 YE QaT) (VRunD.free Y (VWant.on Y Y (dy fhg44_3)) Y (B.fieldAddrR (us:=((Qa false x1).drop 2)) (tv (T.rp (Qa false x1)) Y) (lb Y) Qa1 Y) (VRunD.look Y (VWant.on Y Y (dy fhg44_3)) Y (OL.loadR1 (t:=(tI x1.Kind)) (tv (T.rp ((Qa false x1).drop 2)) Y) Y QQ) (VRunD.free Y (VWant.on Y Y (dy fhg44_3)) Y (Z7 (tv (tI x1.Kind) Y) (VEv.int .i64 1)) (fD (OF.pickT (VEv.tmpB Y (dy fhg44_3)) (tv (tB (decide (x1.Kind=1))) Y)) Y Y (mD (tB (decide (x1.Kind=1))) Y Y ?_))))))
    refine gw (x1.Kind=1) (fun fhg52_4=> ?_) fun fhg52_4=> ?_
    ·refine VRunD.free Y (VWant.on Y Y (dy fhg52_4)) Y (OF.fieldAddrO (tv (T.op 0 0) Y) Qa9) ?_
     refine VRunD.look Y (VWant.on Y Y (dy fhg52_4)) Y (OL.loadO1 (t:=(rd 1 Qe p.Seals)) (tv (T.op 0 4) Y) Y Y QdG) (VRunD.free Y (VWant.on Y Y (dy fhg52_4)) Y (OF.fieldAddrO (tv (T.op 0 0) Y) Qa3) (VRunD.look Y (VWant.on Y Y (dy fhg52_4)) Y (OL.loadO1 (t:=(tI p.Salt)) (tv (T.op 0 5) Y) Y Y QQ) (VRunD.free Y (VWant.on Y Y (dy fhg52_4)) Y (OF.move (tv (tN s) Y)) (VRunD.free Y (VWant.on Y Y (dy fhg52_4)) Y (OF.move (tv (rd 4 Qa l) Y)) (VRunD.free Y (VWant.on Y Y (dy fhg52_4)) Y (OF.move (tv (tN k) Y)) (VRunD.free Y (VWant.on Y Y (dy fhg52_4)) Y (OF.indexAddrR (row:=(Qa false x1)) (i:=k) (tv (rd 4 Qa l) Y) (tv (tN k) Y) Y (Qu _ hx1) U34 YE QaT) (VRunD.free Y (VWant.on Y Y (dy fhg52_4)) Y (B.fieldAddrR (us:= [(tS x1.Word)]) (tv (T.rp (Qa false x1)) Y) (lb Y) JD Y) (VRunD.look Y (VWant.on Y Y (dy fhg52_4)) Y (OL.loadR1 (t:=(tS x1.Word)) (tv (T.rp [(tS x1.Word)]) Y) Y ZH) (VRunD.quiet (bi:= [24,21,22,23,25,20,18,19,16,14,12,10,9,8,11,13,6,5,3,0,1,2,4,7,15,17]) Y (VWant.on Y Y (dy fhg52_4)) Y Y Y bn (cS (vc (tv (rd 1 Qe p.Seals) Y) (vc (tv (tI p.Salt) Y) (vc (tv (tN s) Y) (vc (tv (tS x1.Word) Y) vn)))) (Q8 Y) (JJ (n+21) p.Seals p.Salt ((s:Nat):Int) x1.Word (by first | assumption | omega) (by first | assumption | omega)) Y Y) (fD (OF.pickT (VEv.tmpB Y (dy fhg52_4)) (tv (tB (decide (J4 p.Seals p.Salt ((s:Nat):Int) x1.Word))) Y)) Y Y (VRunD.nil ?_)))))))))))
     refine tn ?_
     refine cd (J4 p.Seals p.Salt ((s:Nat):Int) x1.Word) Y (fun fhc3=> ?_) fun fhc3=> ?_
     ·refine VRun.region ?_
      refine mO (T.os 1 1 0 ((out.map (Qe true)).length)) Y (mO (rd 4 Qa l) Y (mO (tN k) Y (fO (OF.indexAddrR (row:=(Qa false x1)) (i:=k) (tv (rd 4 Qa l) Y) (tv (tN k) Y) Y (Qu _ hx1) U34 YE QaT) (lr (tI x1.Tester) Y (lb Y) QcB Y QQ (cO (OC.callF (us:= [(rd 1 Qe out),(tI x1.Tester)]) (r':=(T.os 1 2 0 (((Q3 out x1.Tester).map (Qe true)).length))) (objs:= [(Obj.rows 1 ((Q3 out x1.Tester).map (Qe true)))]) Y (vc (tv (T.os 1 1 0 ((out.map (Qe true)).length)) Y) (vc (tv (tI x1.Tester) Y) vn)) (LendL.cons (Lend.os Y Y (okInt.fzMap _ _)) (lp Y ln)) (Qc8 (n+25) out x1.Tester (by first | assumption | omega)) Y) (aO (T.os 1 2 0 (((Q3 out x1.Tester).map (Qe true)).length)) Y (VRunO.nil (vinB.n (tn (VRun.region (mO (tN k) Y ?_)))))))))))
      refine fO (Qx (tv (tN k) Y) (VEv.int .i64 1) (by omega)) (aO (tN (k+1)) Y (VRunO.nil (tn ?_)))
      have he5:Q3 out x1.Tester=(if gdP p s x1 then Q3 out x1.Tester else out):=by first | rfl | (refine (if_pos ?_).symm;refine ⟨⟨?_,?_⟩,?_⟩<;>first | omega | assumption) | (refine (if_neg ?_).symm;rintro ⟨⟨_,_⟩,_⟩;first | omega | contradiction) | (simp;done) | omega
      refine ⟨((k+1,if gdP p s x1 then Q3 out x1.Tester else out):Nat×(List Int)),?_,?_,Wk.mk (fun k=>if k=1 then 2 else k) ?_ ?_ ?_⟩
      ·exact ⟨by omega,QgP hK2,Qc0 hx1 hK3⟩
      ·first | omega | (simp only [];omega) | (show _<_;omega) | (simp;omega)
      ·exact (b2 (b2 (b2 (b2 (bc ⟨(congrArg (fun l_=>T.os 1 2 0 (List.map (Qe true) l_).length) he5),rfl⟩ (b2 bn))))))
      ·exact (b3 (bc ⟨(congrArg (fun l_=>some (Obj.rows 1 (List.map (Qe true) l_))) he5),(lb Y),rfl⟩ bn))
      ·exact nd Y
     refine sk (vinB.n (tn (VRun.region (mO (tN k) Y (fO (Qx (tv (tN k) Y) (VEv.int .i64 1) (by omega)) (aO (tN (k+1)) Y (VRunO.nil (tn ?_))))))))
     have he6:out=(if gdP p s x1 then Q3 out x1.Tester else out):=by first | rfl | (refine (if_pos ?_).symm;refine ⟨⟨?_,?_⟩,?_⟩<;>first | omega | assumption) | (refine (if_neg ?_).symm;rintro ⟨⟨_,_⟩,_⟩;first | omega | contradiction) | (simp;done) | omega
     refine ⟨((k+1,if gdP p s x1 then Q3 out x1.Tester else out):Nat×(List Int)),?_,?_,Wk.mk (fun k=>k) ?_ ?_ ?_⟩
     ·exact ⟨by omega,QgP hK2,Qc0 hx1 hK3⟩
     ·first | omega | (simp only [];omega) | (show _<_;omega) | (simp;omega)
     ·exact (b2 (b2 (b2 (b2 (bc ⟨(congrArg (fun l_=>T.os 1 1 0 (List.map (Qe true) l_).length) he6),rfl⟩ (b2 bn))))))
     ·exact (b3 (bc ⟨(congrArg (fun l_=>some (Obj.rows 1 (List.map (Qe true) l_))) he6),(lb Y),rfl⟩ bn))
     ·exact nd Y
    refine oD Y Y (dz fhg52_4) Y (oD Y Y (dz fhg52_4) Y (oD Y Y (dz fhg52_4) Y (oD Y Y (dz fhg52_4) Y (oD Y Y (dz fhg52_4) Y (oD Y Y (dz fhg52_4) Y (oD Y Y (dz fhg52_4) Y (oD Y Y (dz fhg52_4) Y (oD Y Y (dz fhg52_4) Y (oD Y Y (dz fhg52_4) Y (oD Y Y (dz fhg52_4) Y (fD (OF.pickF (VEv.tmpB Y (dz fhg52_4)) (VEv.bool false)) Y Y ?_)))))))))))
    refine VRunD.nil (tn (cf Y (sk (vinB.n (tn (VRun.region (mO (tN k) Y (fO (Qx (tv (tN k) Y) (VEv.int .i64 1) (by omega)) (aO (tN (k+1)) Y (VRunO.nil (tn ?_)))))))))))
    have he7:out=(if gdP p s x1 then Q3 out x1.Tester else out):=by first | rfl | (refine (if_pos ?_).symm;refine ⟨⟨?_,?_⟩,?_⟩<;>first | omega | assumption) | (refine (if_neg ?_).symm;rintro ⟨⟨_,_⟩,_⟩;first | omega | contradiction) | (simp;done) | omega
    refine ⟨((k+1,if gdP p s x1 then Q3 out x1.Tester else out):Nat×(List Int)),?_,?_,Wk.mk (fun k=>k) ?_ ?_ ?_⟩
    ·exact ⟨by omega,QgP hK2,Qc0 hx1 hK3⟩
    ·first | omega | (simp only [];omega) | (show _<_;omega) | (simp;omega)
    ·exact (b2 (b2 (b2 (b2 (bc ⟨(congrArg (fun l_=>T.os 1 1 0 (List.map (Qe true) l_).length) he7),rfl⟩ (b2 bn))))))
    ·exact (b3 (bc ⟨(congrArg (fun l_=>some (Obj.rows 1 (List.map (Qe true) l_))) he7),(lb Y),rfl⟩ bn))
    ·exact nd Y
   refine oD Y Y (dz fhg44_3) Y (oD Y Y (dz fhg44_3) Y (oD Y Y (dz fhg44_3) Y (oD Y Y (dz fhg44_3) Y (oD Y Y (dz fhg44_3) Y (oD Y Y (dz fhg44_3) Y (fD (OF.pickF (VEv.tmpB Y (dz fhg44_3)) (VEv.bool false)) Y Y (mD (tB false) Y Y (VRunD.off Y (VWant.not (b:=false) Y Y Y) (VRunD.off Y (VWant.not (b:=false) Y Y Y) (VRunD.off Y (VWant.not (b:=false) Y Y Y) (VRunD.off Y (VWant.not (b:=false) Y Y Y) ?_)))))))))))
   refine VRunD.off Y (VWant.not (b:=false) Y Y Y) (VRunD.off Y (VWant.not (b:=false) Y Y Y) (VRunD.off Y (VWant.not (b:=false) Y Y Y) (VRunD.off Y (VWant.not (b:=false) Y Y Y) (VRunD.off Y (VWant.not (b:=false) Y Y Y) (VRunD.off Y (VWant.not (b:=false) Y Y Y) (VRunD.off Y (VWant.not (b:=false) Y Y Y) (fD (OF.pickF (tv (tB false) Y) (VEv.bool false)) Y Y (VRunD.nil (tn (cf Y (sk ?_)))))))))))
   refine vinB.n (tn (VRun.region (mO (tN k) Y (fO (Qx (tv (tN k) Y) (VEv.int .i64 1) (by omega)) (aO (tN (k+1)) Y (VRunO.nil (tn ?_)))))))
   have he8:out=(if gdP p s x1 then Q3 out x1.Tester else out):=by first | rfl | (refine (if_pos ?_).symm;refine ⟨⟨?_,?_⟩,?_⟩<;>first | omega | assumption) | (refine (if_neg ?_).symm;rintro ⟨⟨_,_⟩,_⟩;first | omega | contradiction) | (simp;done) | omega
   refine ⟨((k+1,if gdP p s x1 then Q3 out x1.Tester else out):Nat×(List Int)),?_,?_,Wk.mk (fun k=>k) ?_ ?_ ?_⟩
   ·exact ⟨by omega,QgP hK2,Qc0 hx1 hK3⟩
   ·first | omega | (simp only [];omega) | (show _<_;omega) | (simp;omega)
   ·exact (b2 (b2 (b2 (b2 (bc ⟨(congrArg (fun l_=>T.os 1 1 0 (List.map (Qe true) l_).length) he8),rfl⟩ (b2 bn))))))
   ·exact (b3 (bc ⟨(congrArg (fun l_=>some (Obj.rows 1 (List.map (Qe true) l_))) he8),(lb Y),rfl⟩ bn))
   ·exact nd Y
  refine VRun.exit (vthn.e (vthn.e (vinB.e (tn (sr (mO (T.os 1 1 0 ((out.map (Qe true)).length)) Y (lO (B.lenO (m:=out.length) (tv (T.os 1 1 0 ((out.map (Qe true)).length)) Y) ZE (List.length_map ..)) (mO (tI need) Y (fO (xls (tv (tN out.length) Y) (tv (tI need) Y)) (mO (tB (decide (((out.length:Nat):Int)<need))) Y ?_))))))))))
  refine gw (((out.length:Nat):Int)<need) (fun fhg76_9=> ?_) fun fhg76_9=> ?_
  ·refine Qz 6 4 false 76 (dy fhg76_9) Y Y Y ?_
   refine fO (OF.pickT (VEv.tmpB Y (dy fhg76_9)) (VEv.bool true)) (nt (ct Y (sr (fO (OF.assign (VEv.bool false)) (nt (rt (vinB.r (tr (tr (vinB.r (tr ?_)))))))))))
   refine vb (b':=false) Y ?_
   first | exact Yc (fun h_=>fhg15_1 h_.1.1) | exact Yc (fun h_=>h_.1.2 fhc0) | (refine Yc (fun h_=> ?_);have q1:=h_.2 s fhc1;have q2:=QbQ hK3 fhc2;unfold QaV at q1;omega) | exact dTr ⟨⟨fhg15_1,fhc0⟩,fun j hj=>hI2 j (by omega)⟩
  refine gF (dz fhg76_9) Y Y (OF.move (tv (rd 4 Qa l) Y)) (gF (dz fhg76_9) Y Y (OF.move (tv (tN s) Y)) (VRunO.chain (VWant.on Y Y (dz fhg76_9)) (cS (vc (tv (rd 4 Qa l) Y) (vc (tv (tN s) Y) (vc (VEv.int .i64 3) vn))) (Q8 Y) (QdS (n+24) l ((s:Nat):Int) 3 (by first | assumption | omega)) Y Y) (gF (dz fhg76_9) Y Y (OF.move (tv (T.os 1 1 0 ((out.map (Qe true)).length)) Y)) (gL (dz fhg76_9) Y Y (B.lenO (m:=out.length) (tv (T.os 1 1 0 ((out.map (Qe true)).length)) Y) ZE (List.length_map ..)) (gF (dz fhg76_9) Y Y (QoE (tv (tN ((cnt l ((s:Nat):Int) 3).length)) Y) (tv (tN out.length) Y)) (fO (OF.pickF (VEv.tmpB Y (dz fhg76_9)) (tv (tB (decide (out.length≤(cnt l ((s:Nat):Int) 3).length))) Y)) (nt ?_)))))))
  refine cd (out.length≤(cnt l ((s:Nat):Int) 3).length) Y (fun fhc4=> ?_) fun fhc4=> ?_
  ·refine sr ?_
   refine fO (OF.assign (VEv.bool false)) (nt (rt (vinB.r (tr (tr (vinB.r (tr (vb (b':=false) Y ?_))))))))
   first | exact Yc (fun h_=>fhg15_1 h_.1.1) | exact Yc (fun h_=>h_.1.2 fhc0) | (refine Yc (fun h_=> ?_);have q1:=h_.2 s fhc1;have q2:=QbQ hK3 fhc2;unfold QaV at q1;omega) | exact dTr ⟨⟨fhg15_1,fhc0⟩,fun j hj=>hI2 j (by omega)⟩
  refine sk (vinB.n (tn (VRun.region (mO (tN s) Y (fO (Qx (tv (tN s) Y) (VEv.int .i64 1) (by omega)) (aO (tN (s+1)) Y (VRunO.nil (tn ?_))))))))
  refine ⟨(s+1:Nat),?_,?_,Wk.mk (fun k=>k) ?_ ?_ ?_⟩
  ·(have q2:=QbQ hK3 fhc2;refine ⟨by omega,QhK hI2 ⟨?_,?_⟩⟩<;>omega)
  ·first | omega | (simp only [];omega) | (show _<_;omega) | (simp;omega)
  ·exact (b2 (b2 (b2 (b2 bn))))
  ·exact (b3 bn)
  ·exact nd Y
 refine VRun.exit (vthn.e (vthn.e (vinB.e (tn (sr (fO (OF.assign (VEv.bool true)) (nt (rt (vb (b':=true) Y ?_)))))))))
 first | exact Yc (fun h_=>fhg15_1 h_.1.1) | exact Yc (fun h_=>h_.1.2 fhc0) | (refine Yc (fun h_=> ?_);have q1:=h_.2 s fhc1;have q2:=QbQ hK3 fhc2;unfold QaV at q1;omega) | exact dTr ⟨⟨fhg15_1,fhc0⟩,fun j hj=>hI2 j (by omega)⟩
theorem Qba (n:Nat) (a0:List D.Report) (a1:D.Puzzle) (a2:List D.Meaning) (a3:Int) (g0:(a0.length≤maxLen∧∀y∈a0,QeN y)) (g1:Qg6 a1) (g2:(a2.length≤maxLen∧∀y∈a2,QcX y)) (g3:(Lit.int .i64 a3).wf=true):Pure (Qq Tryz.prog (n+45)) 3 [(rd 4 Qa a0),(T.agg (Qt false a1)),(rd 2 Qb a2),(tI a3)] (tB true):=by
 refine Pure.intro (rs:= [ResultVar.tmp 8]) Tryz.func3 Y Y Y (E0:= [(0,(rd 4 Qa a0)),(1,(T.agg (Qt false a1))),(2,(rd 2 Qb a2)),(3,(tI a3))]) Y ?_
 obtain ⟨hlim,hmx,hmax⟩:=QC
 have hl0:=QV (z:=QA) a0
 have hl1_1:=QV (z:=QP) a1.Clues
 have hl1_2:=QV (z:=zI) a1.Seals
 have hl2:=QV (z:=Zt) a2
 refine sr (kO (B.box (ts:=(Qt false a1)) (tv (T.agg (Qt false a1)) Y) nofun Y) (fO (OF.assign (VEv.bool false)) (nt (sr (fO (OF.assign (VEv.int .i64 1048576)) (nt (sr (mO (rd 4 Qa a0) Y (mO (tN 1048576) Y (cO (cS (vc (tv (rd 4 Qa a0) Y) (vc (tv (tN 1048576) Y) vn)) (Q8 Y) (QdM (n+42) a0 1048576 (by first | exact g0.2 | exact g2.2 | exact QT _ _ _ _ | (simp only [QM];omega) | assumption | omega | (simp only [List.length_map];omega) | (simp only [List.length_map,List.length_append,List.length_cons,List.length_nil,List.length_replicate,List.length_set,List.length_drop,List.length_take,Zk] at *;omega)) (by first | exact g0.2 | exact g2.2 | exact QT _ _ _ _ | (simp only [QM];omega) | assumption | omega | (simp only [List.length_map];omega) | (simp only [List.length_map,List.length_append,List.length_cons,List.length_nil,List.length_replicate,List.length_set,List.length_drop,List.length_take,Zk] at *;omega)) (by first | exact g0.2 | exact g2.2 | exact QT _ _ _ _ | (simp only [QM];omega) | assumption | omega | (simp only [List.length_map];omega) | (simp only [List.length_map,List.length_append,List.length_cons,List.length_nil,List.length_replicate,List.length_set,List.length_drop,List.length_take,Zk] at *;omega))) Y Y) (aO (tI (Zl (zL QA a0) 1048576)) Y ?_)))))))))))
 refine nt (sq (sr (mO (tI (Zl (zL QA a0) 1048576)) Y (fO (xls (tv (tI (Zl (zL QA a0) 1048576)) Y) (VEv.int .i64 0)) (nt ?_)))))
 refine cd (Zl (zL QA a0) 1048576<0) Y (fun fhc0=> ?_) fun fhc0=> ?_
 ·refine sr ?_
  refine fO (OF.assign (VEv.bool true)) (nt (rt (tr ?_)))
  exact vb Y Y
 first | (have hz0:=YL fhc0) | skip
 refine sk (tn (sr (lO (OL.loadOn (us:=(Qt false a1)) (tv (T.op 0 0) Y) Y Qmx Ql8 (lb Y) Y) (mO (tI (Zl (zL QA a0) 1048576)) Y (cO (cS (vc (tv (T.agg (Qt false a1)) Y) (vc (tv (tI (Zl (zL QA a0) 1048576)) Y) vn)) (LendL.cons (lg Yj) (lp Y ln)) (Qep (n+39) a1 (Zl (zL QA a0) 1048576) (by first | exact g0.2 | exact g2.2 | exact QT _ _ _ _ | (simp only [QM];omega) | assumption | omega | (simp only [List.length_map];omega) | (simp only [List.length_map,List.length_append,List.length_cons,List.length_nil,List.length_replicate,List.length_set,List.length_drop,List.length_take,Zk] at *;omega)) (by first | exact g0.2 | exact g2.2 | exact QT _ _ _ _ | (simp only [QM];omega) | assumption | omega | (simp only [List.length_map];omega) | (simp only [List.length_map,List.length_append,List.length_cons,List.length_nil,List.length_replicate,List.length_set,List.length_drop,List.length_take,Zk] at *;omega)) (by first | exact g0.2 | exact g2.2 | exact QT _ _ _ _ | (simp only [QM];omega) | assumption | omega | (simp only [List.length_map];omega) | (simp only [List.length_map,List.length_append,List.length_cons,List.length_nil,List.length_replicate,List.length_set,List.length_drop,List.length_take,Zk] at *;omega))) Y Y) (aO (tI (Zl (QN a1) (Zl (zL QA a0) 1048576))) Y (nt (sq (sr (mO (tI (Zl (QN a1) (Zl (zL QA a0) 1048576))) Y (fO (xls (tv (tI (Zl (QN a1) (Zl (zL QA a0) 1048576))) Y) (VEv.int .i64 0)) ?_)))))))))))
 refine nt ?_
 refine cd (Zl (QN a1) (Zl (zL QA a0) 1048576)<0) Y (fun fhc1=> ?_) fun fhc1=> ?_
 ·refine sr ?_
  refine fO (OF.assign (VEv.bool true)) (nt (rt (tr ?_)))
  exact vb Y Y
 first | (have hz1:=YL fhc1) | skip
 refine sk (tn (sr (mO (rd 2 Qb a2) Y (mO (tI (Zl (QN a1) (Zl (zL QA a0) 1048576))) Y (cO (cS (vc (tv (rd 2 Qb a2) Y) (vc (tv (tI (Zl (QN a1) (Zl (zL QA a0) 1048576))) Y) vn)) (Q8 Y) (QcK (n+42) a2 (Zl (QN a1) (Zl (zL QA a0) 1048576)) (by first | exact g0.2 | exact g2.2 | exact QT _ _ _ _ | (simp only [QM];omega) | assumption | omega | (simp only [List.length_map];omega) | (simp only [List.length_map,List.length_append,List.length_cons,List.length_nil,List.length_replicate,List.length_set,List.length_drop,List.length_take,Zk] at *;omega)) (by first | exact g0.2 | exact g2.2 | exact QT _ _ _ _ | (simp only [QM];omega) | assumption | omega | (simp only [List.length_map];omega) | (simp only [List.length_map,List.length_append,List.length_cons,List.length_nil,List.length_replicate,List.length_set,List.length_drop,List.length_take,Zk] at *;omega)) (by first | exact g0.2 | exact g2.2 | exact QT _ _ _ _ | (simp only [QM];omega) | assumption | omega | (simp only [List.length_map];omega) | (simp only [List.length_map,List.length_append,List.length_cons,List.length_nil,List.length_replicate,List.length_set,List.length_drop,List.length_take,Zk] at *;omega))) Y Y) (aO (tI (Zl (zL Zt a2) (Zl (QN a1) (Zl (zL QA a0) 1048576)))) Y (nt (sq (sr (mO (tI (Zl (zL Zt a2) (Zl (QN a1) (Zl (zL QA a0) 1048576)))) Y (fO (xls (tv (tI (Zl (zL Zt a2) (Zl (QN a1) (Zl (zL QA a0) 1048576)))) Y) (VEv.int .i64 0)) ?_)))))))))))
 refine nt ?_
 refine cd (Zl (zL Zt a2) (Zl (QN a1) (Zl (zL QA a0) 1048576))<0) Y (fun fhc2=> ?_) fun fhc2=> ?_
 ·refine sr ?_
  refine fO (OF.assign (VEv.bool true)) (nt (rt (tr ?_)))
  exact vb Y Y
 first | (have hz2:=YL fhc2) | skip
 refine sk (tn (sq (VRun.draw (B:= [[],[0],[],[0,1,2],[],[2,1,0,3,4],[],[6,4,5,2,3,0,1],[1,0,3,2,5,4,6,7]]) (by kernel_rfl) (by kernel_rfl) (mD (rd 4 Qa a0) Y Y (VRunD.quiet (bi:= [0]) Y VWant.always Y Y Y bn (OC.callF (r':=(T.os 4 1 0 ((a0.map (Qa true)).length))) (objs:= [(Obj.rows 4 (a0.map (Qa true)))]) Y (vc (tv (rd 4 Qa a0) Y) vn) (Q8 Y) (Je (n+42) a0 (by first | exact g0.2 | exact g2.2 | exact QT _ _ _ _ | (simp only [QM];omega) | assumption | omega | (simp only [List.length_map];omega) | (simp only [List.length_map,List.length_append,List.length_cons,List.length_nil,List.length_replicate,List.length_set,List.length_drop,List.length_take,Zk] at *;omega))) Y) (lD (OL.loadOn (us:=(Qt false a1)) (tv (T.op 0 0) Y) Y Qmx Ql8 (lb Y) Y) Y Y (VRunD.quiet (bi:= [0,1,2]) Y VWant.always Y Y Y bn (OC.callF (r':=(T.agg [(tI a1.Grid.Rows),(tI a1.Grid.Cols),(tS a1.Grid.Cells),(T.os 2 2 0 ((a1.Clues.map (Qi true)).length)),(T.os 1 3 0 ((a1.Seals.map (Qe true)).length)),(tI a1.Salt)])) (objs:= [(Obj.rows 2 (a1.Clues.map (Qi true))),(Obj.rows 1 (a1.Seals.map (Qe true)))]) Y (vc (tv (T.agg (Qt false a1)) Y) vn) (LendL.cons (lg Yj) ln) (JB (n+39) a1 (by first | exact g0.2 | exact g2.2 | exact QT _ _ _ _ | (simp only [QM];omega) | assumption | omega | (simp only [List.length_map];omega) | (simp only [List.length_map,List.length_append,List.length_cons,List.length_nil,List.length_replicate,List.length_set,List.length_drop,List.length_take,Zk] at *;omega))) Y) (mD (rd 2 Qb a2) Y Y (VRunD.quiet (bi:= [2,1,0,3,4]) Y VWant.always Y Y Y bn (OC.callF (r':=(T.os 2 4 0 ((a2.map (Qb true)).length))) (objs:= [(Obj.rows 2 (a2.map (Qb true)))]) Y (vc (tv (rd 2 Qb a2) Y) vn) (Q8 Y) (YZ (n+42) a2 (by first | exact g0.2 | exact g2.2 | exact QT _ _ _ _ | (simp only [QM];omega) | assumption | omega | (simp only [List.length_map];omega) | (simp only [List.length_map,List.length_append,List.length_cons,List.length_nil,List.length_replicate,List.length_set,List.length_drop,List.length_take,Zk] at *;omega))) Y) (mD (tI a3) Y Y (VRunD.quiet (bi:= [6,4,5,2,3,0,1]) Y VWant.always Y Y Y bn (cS (us:= [(rd 4 Qa a0),(T.agg (Qt false a1)),(rd 2 Qb a2),(tI a3)]) (vc (tv (T.os 4 1 0 ((a0.map (Qa true)).length)) Y) (vc (tv (T.agg [(tI a1.Grid.Rows),(tI a1.Grid.Cols),(tS a1.Grid.Cells),(T.os 2 2 0 ((a1.Clues.map (Qi true)).length)),(T.os 1 3 0 ((a1.Seals.map (Qe true)).length)),(tI a1.Salt)]) Y) (vc (tv (T.os 2 4 0 ((a2.map (Qb true)).length)) Y) (vc (tv (tI a3) Y) vn)))) (LendL.cons (Lend.os Y Y (okeReport.fzMap _ _)) (LendL.cons (Lend.agg (LendL.cons (Lend.pl Y) (LendL.cons (Lend.pl Y) (LendL.cons (Lend.pl Y) (LendL.cons (Lend.os Y Y (okeClue.fzMap _ _)) (LendL.cons (Lend.os Y Y (okInt.fzMap _ _)) (LendL.cons (Lend.pl Y) ln))))))) (LendL.cons (Lend.os Y Y (okeMeaning.fzMap _ _)) (lp Y ln)))) (Qeo (n+17) a0 a1 a2 a3 (by first | exact g0.2 | exact g2.2 | exact QT _ _ _ _ | (simp only [QM];omega) | assumption | omega | (simp only [List.length_map];omega) | (simp only [List.length_map,List.length_append,List.length_cons,List.length_nil,List.length_replicate,List.length_set,List.length_drop,List.length_take,Zk] at *;omega)) (by first | exact g0.2 | exact g2.2 | exact QT _ _ _ _ | (simp only [QM];omega) | assumption | omega | (simp only [List.length_map];omega) | (simp only [List.length_map,List.length_append,List.length_cons,List.length_nil,List.length_replicate,List.length_set,List.length_drop,List.length_take,Zk] at *;omega)) (by first | exact g0.2 | exact g2.2 | exact QT _ _ _ _ | (simp only [QM];omega) | assumption | omega | (simp only [List.length_map];omega) | (simp only [List.length_map,List.length_append,List.length_cons,List.length_nil,List.length_replicate,List.length_set,List.length_drop,List.length_take,Zk] at *;omega))) Y Y) ?_)))))))))))
 refine fD (OF.assign (tv (tB (decide (Qbv a0 a1 a2 a3))) Y)) Y Y (VRunD.nil (tn (sr (mO (rd 4 Qa a0) Y (cO (OC.callF (r':=(T.os 4 5 0 ((a0.map (Qa true)).length))) (objs:= [(Obj.rows 4 (a0.map (Qa true)))]) Y (vc (tv (rd 4 Qa a0) Y) vn) (Q8 Y) (Je (n+42) a0 (by first | exact g0.2 | exact g2.2 | exact QT _ _ _ _ | (simp only [QM];omega) | assumption | omega | (simp only [List.length_map];omega) | (simp only [List.length_map,List.length_append,List.length_cons,List.length_nil,List.length_replicate,List.length_set,List.length_drop,List.length_take,Zk] at *;omega))) Y) (aO (T.os 4 5 0 ((a0.map (Qa true)).length)) Y (nt (sr (lO (OL.loadOn (us:=(Qt false a1)) (tv (T.op 0 0) Y) Y Qmx Ql8 (lb Y) Y) (cO (OC.callF (r':=(T.agg [(tI a1.Grid.Rows),(tI a1.Grid.Cols),(tS a1.Grid.Cells),(T.os 2 6 0 ((a1.Clues.map (Qi true)).length)),(T.os 1 7 0 ((a1.Seals.map (Qe true)).length)),(tI a1.Salt)])) (objs:= [(Obj.rows 2 (a1.Clues.map (Qi true))),(Obj.rows 1 (a1.Seals.map (Qe true)))]) Y (vc (tv (T.agg (Qt false a1)) Y) vn) (LendL.cons (lg Yj) ln) (JB (n+39) a1 (by first | exact g0.2 | exact g2.2 | exact QT _ _ _ _ | (simp only [QM];omega) | assumption | omega | (simp only [List.length_map];omega) | (simp only [List.length_map,List.length_append,List.length_cons,List.length_nil,List.length_replicate,List.length_set,List.length_drop,List.length_take,Zk] at *;omega))) Y) (kO (B.alloc (t:=(T.agg [(tN 0),(tN 0),(tS ByteArray.empty),T.nils,T.nils,(tN 0)])) (ts:= [(tN 0),(tN 0),(tS ByteArray.empty),T.nils,T.nils,(tN 0)]) QnE Qni nofun (fun _=> .agg _ _ Y (YK (RL.cons (.int _ _) (RL.cons (.int _ _) (RL.cons (.str _) (RL.cons (.nils) (RL.cons (.nils) (RL.cons (.int _ _) (RL.nil _))))))))) Y) ?_)))))))))))
 refine cO (B.storeW (us:= [(tI a1.Grid.Rows),(tI a1.Grid.Cols),(tS a1.Grid.Cells),(T.os 2 6 0 ((a1.Clues.map (Qi true)).length)),(T.os 1 7 0 ((a1.Seals.map (Qe true)).length)),(tI a1.Salt)]) (tv (T.op 8 0) Y) (tv (T.agg [(tI a1.Grid.Rows),(tI a1.Grid.Cols),(tS a1.Grid.Cells),(T.os 2 6 0 ((a1.Clues.map (Qi true)).length)),(T.os 1 7 0 ((a1.Seals.map (Qe true)).length)),(tI a1.Salt)]) Y) nofun Y Y Y Qon QeI (bc Y (bc Y (bc Y (bc Y (bc Y (bc Y bn))))))) (nt (sr (mO (rd 2 Qb a2) Y (cO (OC.callF (r':=(T.os 2 9 0 ((a2.map (Qb true)).length))) (objs:= [(Obj.rows 2 (a2.map (Qb true)))]) Y (vc (tv (rd 2 Qb a2) Y) vn) (Q8 Y) (YZ (n+42) a2 (by first | exact g0.2 | exact g2.2 | exact QT _ _ _ _ | (simp only [QM];omega) | assumption | omega | (simp only [List.length_map];omega) | (simp only [List.length_map,List.length_append,List.length_cons,List.length_nil,List.length_replicate,List.length_set,List.length_drop,List.length_take,Zk] at *;omega))) Y) (aO (T.os 2 9 0 ((a2.map (Qb true)).length)) Y (nt (sr (mO (T.os 4 5 0 ((a0.map (Qa true)).length)) Y (lO (OL.loadOn (us:= [(tI a1.Grid.Rows),(tI a1.Grid.Cols),(tS a1.Grid.Cells),(T.os 2 6 0 ((a1.Clues.map (Qi true)).length)),(T.os 1 7 0 ((a1.Seals.map (Qe true)).length)),(tI a1.Salt)]) (tv (T.op 8 0) Y) Y Qgg QeI (lb Y) Y) (mO (T.os 2 9 0 ((a2.map (Qb true)).length)) Y (mO (tI a3) Y ?_)))))))))))
 refine cO (cS (us:= [(rd 4 Qa a0),(T.agg (Qt false a1)),(rd 2 Qb a2),(tI a3)]) (vc (tv (T.os 4 5 0 ((a0.map (Qa true)).length)) Y) (vc (tv (T.agg [(tI a1.Grid.Rows),(tI a1.Grid.Cols),(tS a1.Grid.Cells),(T.os 2 6 0 ((a1.Clues.map (Qi true)).length)),(T.os 1 7 0 ((a1.Seals.map (Qe true)).length)),(tI a1.Salt)]) Y) (vc (tv (T.os 2 9 0 ((a2.map (Qb true)).length)) Y) (vc (tv (tI a3) Y) vn)))) (LendL.cons (Lend.os Y Y (okeReport.fzMap _ _)) (LendL.cons (Lend.agg (LendL.cons (Lend.pl Y) (LendL.cons (Lend.pl Y) (LendL.cons (Lend.pl Y) (LendL.cons (Lend.os Y Y (okeClue.fzMap _ _)) (LendL.cons (Lend.os Y Y (okInt.fzMap _ _)) (LendL.cons (Lend.pl Y) ln))))))) (LendL.cons (Lend.os Y Y (okeMeaning.fzMap _ _)) (lp Y ln)))) (Qez (n+0) a0 a1 a2 a3 (by first | exact g0.2 | exact g2.2 | exact QT _ _ _ _ | (simp only [QM];omega) | assumption | omega | (simp only [List.length_map];omega) | (simp only [List.length_map,List.length_append,List.length_cons,List.length_nil,List.length_replicate,List.length_set,List.length_drop,List.length_take,Zk] at *;omega)) (by first | exact g0.2 | exact g2.2 | exact QT _ _ _ _ | (simp only [QM];omega) | assumption | omega | (simp only [List.length_map];omega) | (simp only [List.length_map,List.length_append,List.length_cons,List.length_nil,List.length_replicate,List.length_set,List.length_drop,List.length_take,Zk] at *;omega)) (by first | exact g0.2 | exact g2.2 | exact QT _ _ _ _ | (simp only [QM];omega) | assumption | omega | (simp only [List.length_map];omega) | (simp only [List.length_map,List.length_append,List.length_cons,List.length_nil,List.length_replicate,List.length_set,List.length_drop,List.length_take,Zk] at *;omega))) Y Y) (aO (tB (decide (Qbv a0 a1 a2 a3))) Y (nt (sq (sr (mO (tB (decide (Qbv a0 a1 a2 a3))) Y (mO (tB (decide (Qbv a0 a1 a2 a3))) Y (fO (B.bneq U4 (c:=(!((decide (Qbv a0 a1 a2 a3)) == (decide (Qbv a0 a1 a2 a3))))) (tv (tB (decide (Qbv a0 a1 a2 a3))) Y) (tv (tB (decide (Qbv a0 a1 a2 a3))) Y) Y) (nt ?_))))))))
 refine VRun.cond (tv (tB (!((decide (Qbv a0 a1 a2 a3)) == (decide (Qbv a0 a1 a2 a3))))) Y) (fun hc3=> ?_) (fun hc3=> ?_)
 ·have fhc3:(!((decide (Qbv a0 a1 a2 a3)) == (decide (Qbv a0 a1 a2 a3))))=true:=hc3
  refine sr (fO (OF.assign (VEv.bool false)) (nt (rt (tr (vb (b':=false) Y ?_)))))
  first | rfl | (exfalso;omega) | (exfalso;(simp only [QM] at* <;>omega)) | (exfalso;simp only [QM,not_true_eq_false] at *;done) | (exfalso;simp_all;done)
 have fhc3:(!((decide (Qbv a0 a1 a2 a3)) == (decide (Qbv a0 a1 a2 a3))))=false:=hc3
 first | (have hz3:=YL fhc3) | skip
 refine sk (tn (sq (sr (mO (T.os 4 5 0 ((a0.map (Qa true)).length)) Y (mO (rd 4 Qa a0) Y (cO (OC.callF (r':=(T.os 4 10 0 ((a0.map (Qa true)).length))) (objs:= [(Obj.rows 4 (a0.map (Qa true)))]) Y (vc (tv (rd 4 Qa a0) Y) vn) (Q8 Y) (Je (n+42) a0 (by first | exact g0.2 | exact g2.2 | exact QT _ _ _ _ | (simp only [QM];omega) | assumption | omega | (simp only [List.length_map];omega) | (simp only [List.length_map,List.length_append,List.length_cons,List.length_nil,List.length_replicate,List.length_set,List.length_drop,List.length_take,Zk] at *;omega))) Y) (cO (cS (us:= [(rd 4 Qa a0),(rd 4 Qa a0)]) (vc (tv (T.os 4 5 0 ((a0.map (Qa true)).length)) Y) (vc (tv (T.os 4 10 0 ((a0.map (Qa true)).length)) Y) vn)) (LendL.cons (Lend.os Y Y (okeReport.fzMap _ _)) (LendL.cons (Lend.os Y Y (okeReport.fzMap _ _)) ln)) (QdC (n+42) a0 a0 (by first | exact g0.2 | exact g2.2 | exact QT _ _ _ _ | (simp only [QM];omega) | assumption | omega | (simp only [List.length_map];omega) | (simp only [List.length_map,List.length_append,List.length_cons,List.length_nil,List.length_replicate,List.length_set,List.length_drop,List.length_take,Zk] at *;omega)) (by first | exact g0.2 | exact g2.2 | exact QT _ _ _ _ | (simp only [QM];omega) | assumption | omega | (simp only [List.length_map];omega) | (simp only [List.length_map,List.length_append,List.length_cons,List.length_nil,List.length_replicate,List.length_set,List.length_drop,List.length_take,Zk] at *;omega))) Y Y) (fO (QW (tv (tB (decide (a0=a0))) Y)) (nt ?_)))))))))
 refine cn (a0=a0) Y (fun fhc4=> ?_) fun fhc4=> ?_
 ·refine sr ?_
  refine fO (OF.assign (VEv.bool false)) (nt (rt (tr (vb (b':=false) Y ?_))))
  first | rfl | (exfalso;omega) | (exfalso;(simp only [QM] at* <;>omega)) | (exfalso;simp only [QM,not_true_eq_false] at *;done) | (exfalso;simp_all;done)
 first | (have hz4:=YL fhc4) | skip
 refine sk (tn (sq (sq (VRun.draw (B:= [[],[],[1],[1,2,0],[0,2,1,3]]) (by kernel_rfl) (by kernel_rfl) (lD (OL.loadOn (us:= [(tI a1.Grid.Rows),(tI a1.Grid.Cols),(tS a1.Grid.Cells),(T.os 2 6 0 ((a1.Clues.map (Qi true)).length)),(T.os 1 7 0 ((a1.Seals.map (Qe true)).length)),(tI a1.Salt)]) (tv (T.op 8 0) Y) Y Qgg QeI (lb Y) Y) Y Y (lD (OL.loadOn (us:=(Qt false a1)) (tv (T.op 0 0) Y) Y Qmx Ql8 (lb Y) Y) Y Y (VRunD.quiet (bi:= [1]) Y VWant.always Y Y Y bn (OC.callF (r':=(T.agg [(tI a1.Grid.Rows),(tI a1.Grid.Cols),(tS a1.Grid.Cells),(T.os 2 11 0 ((a1.Clues.map (Qi true)).length)),(T.os 1 12 0 ((a1.Seals.map (Qe true)).length)),(tI a1.Salt)])) (objs:= [(Obj.rows 2 (a1.Clues.map (Qi true))),(Obj.rows 1 (a1.Seals.map (Qe true)))]) Y (vc (tv (T.agg (Qt false a1)) Y) vn) (LendL.cons (lg Yj) ln) (JB (n+39) a1 (by first | exact g0.2 | exact g2.2 | exact QT _ _ _ _ | (simp only [QM];omega) | assumption | omega | (simp only [List.length_map];omega) | (simp only [List.length_map,List.length_append,List.length_cons,List.length_nil,List.length_replicate,List.length_set,List.length_drop,List.length_take,Zk] at *;omega))) Y) (VRunD.quiet (bi:= [1,2,0]) Y VWant.always Y Y Y bn (cS (us:= [(T.agg (Qt false a1)),(T.agg (Qt false a1))]) (vc (tv (T.agg [(tI a1.Grid.Rows),(tI a1.Grid.Cols),(tS a1.Grid.Cells),(T.os 2 6 0 ((a1.Clues.map (Qi true)).length)),(T.os 1 7 0 ((a1.Seals.map (Qe true)).length)),(tI a1.Salt)]) Y) (vc (tv (T.agg [(tI a1.Grid.Rows),(tI a1.Grid.Cols),(tS a1.Grid.Cells),(T.os 2 11 0 ((a1.Clues.map (Qi true)).length)),(T.os 1 12 0 ((a1.Seals.map (Qe true)).length)),(tI a1.Salt)]) Y) vn)) (LendL.cons (Lend.agg (LendL.cons (Lend.pl Y) (LendL.cons (Lend.pl Y) (LendL.cons (Lend.pl Y) (LendL.cons (Lend.os Y Y (okeClue.fzMap _ _)) (LendL.cons (Lend.os Y Y (okInt.fzMap _ _)) (LendL.cons (Lend.pl Y) ln))))))) (LendL.cons (Lend.agg (LendL.cons (Lend.pl Y) (LendL.cons (Lend.pl Y) (LendL.cons (Lend.pl Y) (LendL.cons (Lend.os Y Y (okeClue.fzMap _ _)) (LendL.cons (Lend.os Y Y (okInt.fzMap _ _)) (LendL.cons (Lend.pl Y) ln))))))) ln)) (QeB (n+39) a1 a1 (by first | exact g0.2 | exact g2.2 | exact QT _ _ _ _ | (simp only [QM];omega) | assumption | omega | (simp only [List.length_map];omega) | (simp only [List.length_map,List.length_append,List.length_cons,List.length_nil,List.length_replicate,List.length_set,List.length_drop,List.length_take,Zk] at *;omega)) (by first | exact g0.2 | exact g2.2 | exact QT _ _ _ _ | (simp only [QM];omega) | assumption | omega | (simp only [List.length_map];omega) | (simp only [List.length_map,List.length_append,List.length_cons,List.length_nil,List.length_replicate,List.length_set,List.length_drop,List.length_take,Zk] at *;omega))) Y Y) (fD (QW (tv (tB (decide (a1=a1))) Y)) Y Y (VRunD.nil ?_))))))))))
 refine tn ?_
 refine cn (a1=a1) Y (fun fhc5=> ?_) fun fhc5=> ?_
 ·refine sr ?_
  refine fO (OF.assign (VEv.bool false)) (nt (rt (tr (vb (b':=false) Y ?_))))
  first | rfl | (exfalso;omega) | (exfalso;(simp only [QM] at* <;>omega)) | (exfalso;simp only [QM,not_true_eq_false] at *;done) | (exfalso;simp_all;done)
 first | (have hz5:=YL fhc5) | skip
 refine sk (tn (sq (sr (mO (T.os 2 9 0 ((a2.map (Qb true)).length)) Y (mO (rd 2 Qb a2) Y (cO (OC.callF (r':=(T.os 2 13 0 ((a2.map (Qb true)).length))) (objs:= [(Obj.rows 2 (a2.map (Qb true)))]) Y (vc (tv (rd 2 Qb a2) Y) vn) (Q8 Y) (YZ (n+42) a2 (by first | exact g0.2 | exact g2.2 | exact QT _ _ _ _ | (simp only [QM];omega) | assumption | omega | (simp only [List.length_map];omega) | (simp only [List.length_map,List.length_append,List.length_cons,List.length_nil,List.length_replicate,List.length_set,List.length_drop,List.length_take,Zk] at *;omega))) Y) (cO (cS (us:= [(rd 2 Qb a2),(rd 2 Qb a2)]) (vc (tv (T.os 2 9 0 ((a2.map (Qb true)).length)) Y) (vc (tv (T.os 2 13 0 ((a2.map (Qb true)).length)) Y) vn)) (LendL.cons (Lend.os Y Y (okeMeaning.fzMap _ _)) (LendL.cons (Lend.os Y Y (okeMeaning.fzMap _ _)) ln)) (Qdh (n+42) a2 a2 (by first | exact g0.2 | exact g2.2 | exact QT _ _ _ _ | (simp only [QM];omega) | assumption | omega | (simp only [List.length_map];omega) | (simp only [List.length_map,List.length_append,List.length_cons,List.length_nil,List.length_replicate,List.length_set,List.length_drop,List.length_take,Zk] at *;omega)) (by first | exact g0.2 | exact g2.2 | exact QT _ _ _ _ | (simp only [QM];omega) | assumption | omega | (simp only [List.length_map];omega) | (simp only [List.length_map,List.length_append,List.length_cons,List.length_nil,List.length_replicate,List.length_set,List.length_drop,List.length_take,Zk] at *;omega))) Y Y) (fO (QW (tv (tB (decide (a2=a2))) Y)) (nt ?_)))))))))
 refine cn (a2=a2) Y (fun fhc6=> ?_) fun fhc6=> ?_
 ·refine sr ?_
  refine fO (OF.assign (VEv.bool false)) (nt (rt (tr (vb (b':=false) Y ?_))))
  first | rfl | (exfalso;omega) | (exfalso;(simp only [QM] at* <;>omega)) | (exfalso;simp only [QM,not_true_eq_false] at *;done) | (exfalso;simp_all;done)
 first | (have hz6:=YL fhc6) | skip
 refine sk (tn (sr (fO (OF.assign (VEv.bool true)) (nt (rt ?_)))))
 exact vb Y Y
theorem QiW (a:Option Addr) (n c:Nat):(QeH (.slice a n c)).cells.toList= [QeH (.slice a n c)]:=by cases a<;>rfl
theorem QkV {α:Type} {d:AK α} {e:Bool→α→List T} {x:α} {t:T} {h:AH} {v:Value} (hk:RK d e) (he:e false x= [t]) (hr:d.R h x [v]):R h t v:=by
 have h1:=hk h x _ hr
 rw [he] at h1
 exact h1.tail.1
theorem Qh2 {α:Type} {d:AK α} {e:Bool→α→List T} {x:α} {t:T} {h:AH} {a:Option Addr} {n c:Nat} (hk:RK d e) (he:e false x= [t]) (hr:d.R h x (QeH (.slice a n c)).cells.toList):R h t (QeH (.slice a n c)):=by
 rw [QiW] at hr
 exact QkV hk he hr
theorem Qnn {α:Type} {d:AK α} {e:Bool→α→List T} {x:α} {h:AH} {cs:Array Value} (hk:RK d e) (hr:d.R h x (QeH (.agg cs)).cells.toList):R h (.agg (e false x)) (QeH (.agg cs)):=by
 have h1:=hk h x _ hr
 refine .agg _ _ (by simpa [Value.cells,QeH] using h1.1) (fun i hi=> ?_)
 have:=h1.2 i hi
 simpa [Value.cells,QeH,Array.getD_eq_getD_getElem?,List.getD_eq_getElem?_getD] using this
theorem Pure.bool {call:QS} {f:FuncId} {ts:List T} {b:Bool} (hp:Pure call f ts (.bool b)) {h:AH} {vs:List Value} (hfr:Fr 1 h) (hr:RL h ts vs):CallS call f vs h 1 (fun v _=>v= .bool b):=by
 refine (hp h 1 vs hfr hr).mono ?_
 rintro v h' ⟨_,N,hs,_⟩
 cases hs with
 | fz hr=>cases hr;rfl
open Go
theorem QmX : QiP Tryz.prog:=fun f h=>by cases h
end Go.Proofs.YtjpenecpopljoaaGreat.AE
