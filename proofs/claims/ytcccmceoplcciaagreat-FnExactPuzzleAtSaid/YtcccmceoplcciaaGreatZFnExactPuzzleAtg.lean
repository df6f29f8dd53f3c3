/- A part of what the row of FnExactPuzzleAt uses. Conditions: as each theorem states. -/
import Derived.Test.YtcccmceoplcciaaGreatZFnExactPuzzleAtf
import Derived.Test.YtcccmceoplcciaaGreatProg
import Derived.Shelf.Sort.Plain
import Derived.Shelf.Slices.In.SortNone
import Derived.Shelf.Slices.CompactI
namespace Go.Proofs.YtcccmceoplcciaaGreat.AE
open Go Go.RowKit
set_option linter.unusedVariables false
set_option linter.unusedSimpArgs false
set_option maxRecDepth 20000
set_option maxHeartbeats 2000000
theorem Qf0 (n:Nat) (a:D.Puzzle) (hz:QK a≤mx):Pure (Qs Tryz.prog (n+3)) 70 [(T.agg (Qv false a))] (T.agg (Qv true a)):=by
 refine Pure.intro (rs:= [ResultVar.cell 2 37]) Tryz.func70 Y Y Y (E0:= [(0,(T.agg (Qv false a)))]) Y ?_
 obtain ⟨hlim,hmx,hmax⟩:=QG
 simp only [QK,ZD] at hz
 have hl2:=QU (z:=zI) a.Seals
 refine sr (kO (B.box (ts:=(Qv false a)) (tv (T.agg (Qv false a)) Y) nofun Y) (kO (B.alloc (t:=(T.agg [(tN 0),(tN 0),(tS ByteArray.empty),T.nils,T.nils,(tN 0)])) (ts:= [(tN 0),(tN 0),(tS ByteArray.empty),T.nils,T.nils,(tN 0)]) Qc0 Qf4 nofun (fun _=> .agg _ _ Y (Yf (RL.cons (.int _ _) (RL.cons (.int _ _) (RL.cons (.str _) (RL.cons (.nils) (RL.cons (.nils) (RL.cons (.int _ _) (RL.nil _))))))))) Y) (nt (sq (VRun.draw (B:= [[],[0],[],[2],[2,3],[],[],[6],[3,2,4,6,7,5],[],[9],[9,10,5,7,6,8,3,2,4,0,1],[1,0,4,2,3,8,6,7,5,10,9,11]]) (by kernel_rfl) (by kernel_rfl) (fD (OF.fieldAddrO (tv (T.op 0 0) Y) Ju) Y Y (lD (OL.loadOn (us:=(Qe false a.Grid)) (tv (T.op 0 0) Y) Y Q4 QX (lb Y) Y) Y Y (fD (OF.fieldAddrO (tv (T.op 0 0) Y) Yu) Y Y (lD (OL.loadO1 (t:=(rd 2 Qd a.Clues)) (tv (T.op 0 3) Y) Y Y QbE) Y Y (VRunD.quiet (bi:= [2,3]) Y VWant.always Y Y Y bn (OC.callF (r':=(T.os 2 2 0 ((a.Clues.map (Qd true)).length))) (objs:= [(Obj.rows 2 (a.Clues.map (Qd true)))]) Y (vc (tv (rd 2 Qd a.Clues) Y) vn) (ZO Y) (QeQ (n+0) a.Clues (by omega)) Y) (VRunD.make Y VWant.always Y (OM.slice0 Zr JW (by kernel_rfl) Y (by rw [Zd];decide) Zd) ?_)))))))))))
 refine fD (OF.fieldAddrO (tv (T.op 0 0) Y) JH) Y Y (lD (OL.loadO1 (t:=(rd 1 Qb a.Seals)) (tv (T.op 0 4) Y) Y Y QbP) Y Y (VRunD.quiet (bi:= [3,2,4,6,7,5]) Y VWant.always Y Y Y (bc (lb Y) bn) (B.append (rows:= []) (rows2:=(a.Seals.map (Qb false))) (rows3:=(a.Seals.map (Qb true))) (VDst.own (tv (T.os 1 3 0 0) Y) Y Y) (VSrc.read (tv (rd 1 Qb a.Seals) Y) Zr (okInt.okMap _ _)) nofun Zr Zd (by decide) JW Y (of_decide_eq_true (by kernel_rfl)) (by (simp only [List.length_map,List.length_append,List.length_cons,List.length_nil,List.length_replicate,List.length_set,List.length_drop,List.length_take,YG] at *;omega)) (List.nil_append _)) (fD (OF.fieldAddrO (tv (T.op 0 0) Y) Qbm) Y Y (lD (OL.loadO1 (t:=(tI a.Salt)) (tv (T.op 0 5) Y) Y Y QQ) Y Y (fD (OF.build (l:= [(0,(T.agg (Qe false a.Grid))),(1,(T.os 2 2 0 ((a.Clues.map (Qd true)).length))),(2,(T.os 1 4 0 ((a.Seals.map (Qb true)).length))),(3,(tI a.Salt))]) (zs:= [(tN 0),(tN 0),(tS ByteArray.empty),T.nils,T.nils,(tN 0)]) (out:= [(tI a.Grid.Rows),(tI a.Grid.Cols),(tS a.Grid.Cells),(T.os 2 2 0 ((a.Clues.map (Qd true)).length)),(T.os 1 4 0 ((a.Seals.map (Qb true)).length)),(tI a.Salt)]) (VEvp.cons (i:=0) (tv (T.agg (Qe false a.Grid)) Y) (VEvp.cons (i:=1) (tv (T.os 2 2 0 ((a.Clues.map (Qd true)).length)) Y) (VEvp.cons (i:=2) (tv (T.os 1 4 0 ((a.Seals.map (Qb true)).length)) Y) (VEvp.cons (i:=3) (tv (tI a.Salt) Y) VEvp.nil)))) (bc nofun (bc nofun (bc nofun (bc nofun bn)))) Tryz.underlying37 Qc0 (fun _=>RL.cons (.int _ _) (RL.cons (.int _ _) (RL.cons (.str _) (RL.cons (.nils) (RL.cons (.nils) (RL.cons (.int _ _) (RL.nil _))))))) (by kernel_rfl) (by kernel_rfl)) Y Y (VRunD.chain (bi:= [1,0,4,2,3,8,6,7,5,10,9,11]) Y VWant.always Y Y Y (by kernel_rfl) (B.storeW (us:= [(tI a.Grid.Rows),(tI a.Grid.Cols),(tS a.Grid.Cells),(T.os 2 2 0 ((a.Clues.map (Qd true)).length)),(T.os 1 4 0 ((a.Seals.map (Qb true)).length)),(tI a.Salt)]) (tv (T.op 1 0) Y) (tv (T.agg [(tI a.Grid.Rows),(tI a.Grid.Cols),(tS a.Grid.Cells),(T.os 2 2 0 ((a.Clues.map (Qd true)).length)),(T.os 1 4 0 ((a.Seals.map (Qb true)).length)),(tI a.Salt)]) Y) nofun Y Y Y Qdl Yc (bc Y (bc Y (bc Y (bc Y (bc Y (bc Y bn))))))) (VRunD.nil (tn (rt ?_)))))))))
 refine vfin.eq (r':=(T.agg [(tI a.Grid.Rows),(tI a.Grid.Cols),(tS a.Grid.Cells),(T.sl true 2 (a.Clues.map (Qd true))),(T.sl true 1 (a.Seals.map (Qb true))),(tI a.Salt)])) ?_ (vfin.r (VRes.celln (ws:= [(tI a.Grid.Rows),(tI a.Grid.Cols),(tS a.Grid.Cells),(T.os 2 2 0 ((a.Clues.map (Qd true)).length)),(T.os 1 4 0 ((a.Seals.map (Qb true)).length)),(tI a.Salt)]) Y Y Jn Yc (lb Y) Y VRes.nil) (Give.agg (GiveL.cons (Give.int _ _) (GiveL.cons (Give.int _ _) (GiveL.cons (Give.str _) (GiveL.cons (Give.os Y Y (okeClue.cleanMap _)) (GiveL.cons (Give.os Y Y (okInt.cleanMap _)) (GiveL.cons (Give.int _ _) GiveL.nil (by decide)) (by decide)) (by decide)) (by decide)) (by decide)) (by decide))))
 rfl
theorem QdA (n:Nat) (a:D.Puzzle) (hz:QK a≤mx):Pure (Qs Tryz.prog (n+4)) 74 [(T.agg (Qv false a))] (T.agg (Qv true a)):=by
 refine Pure.intro (rs:= [ResultVar.cell 2 37]) Tryz.func74 Y Y Y (E0:= [(0,(T.agg (Qv false a)))]) Y ?_
 obtain ⟨hlim,hmx,hmax⟩:=QG
 simp only [QK,ZD] at hz
 have hl2:=QU (z:=zI) a.Seals
 refine sr (kO (B.box (ts:=(Qv false a)) (tv (T.agg (Qv false a)) Y) nofun Y) (kO (B.alloc (t:=(T.agg [(tN 0),(tN 0),(tS ByteArray.empty),T.nils,T.nils,(tN 0)])) (ts:= [(tN 0),(tN 0),(tS ByteArray.empty),T.nils,T.nils,(tN 0)]) Qc0 Qf4 nofun (fun _=> .agg _ _ Y (Yf (RL.cons (.int _ _) (RL.cons (.int _ _) (RL.cons (.str _) (RL.cons (.nils) (RL.cons (.nils) (RL.cons (.int _ _) (RL.nil _))))))))) Y) (nt (sq (VRun.draw (B:= [[],[0],[],[2],[2,3],[],[5],[3,2,4,5,6],[],[8],[8,9,6,5,7,3,2,4,0,1],[1,0,4,2,3,7,5,6,9,8,10]]) (by kernel_rfl) (by kernel_rfl) (fD (OF.fieldAddrO (tv (T.op 0 0) Y) Ju) Y Y (lD (OL.loadOn (us:=(Qe false a.Grid)) (tv (T.op 0 0) Y) Y Q4 QX (lb Y) Y) Y Y (fD (OF.fieldAddrO (tv (T.op 0 0) Y) Yu) Y Y (lD (OL.loadO1 (t:=(rd 2 Qd a.Clues)) (tv (T.op 0 3) Y) Y Y QbE) Y Y (VRunD.quiet (bi:= [2,3]) Y VWant.always Y Y Y bn (OC.callF (r':=(T.os 2 2 0 ((a.Clues.map (Qd true)).length))) (objs:= [(Obj.rows 2 (a.Clues.map (Qd true)))]) Y (vc (tv (rd 2 Qd a.Clues) Y) vn) (ZO Y) (Qei (n+0) a.Clues (by omega)) Y) (fD (OF.fieldAddrO (tv (T.op 0 0) Y) JH) Y Y ?_)))))))))))
 refine lD (OL.loadO1 (t:=(rd 1 Qb a.Seals)) (tv (T.op 0 4) Y) Y Y QbP) Y Y (VRunD.quiet (bi:= [3,2,4,5,6]) Y VWant.always Y Y Y bn (OC.callF (r':=(T.os 1 3 0 ((a.Seals.map (Qb true)).length))) (objs:= [(Obj.rows 1 (a.Seals.map (Qb true)))]) Y (vc (tv (rd 1 Qb a.Seals) Y) vn) (ZO Y) (Qa9 (n+2) a.Seals (by omega)) Y) (fD (OF.fieldAddrO (tv (T.op 0 0) Y) Qbm) Y Y (lD (OL.loadO1 (t:=(tI a.Salt)) (tv (T.op 0 5) Y) Y Y QQ) Y Y (fD (OF.build (l:= [(0,(T.agg (Qe false a.Grid))),(1,(T.os 2 2 0 ((a.Clues.map (Qd true)).length))),(2,(T.os 1 3 0 ((a.Seals.map (Qb true)).length))),(3,(tI a.Salt))]) (zs:= [(tN 0),(tN 0),(tS ByteArray.empty),T.nils,T.nils,(tN 0)]) (out:= [(tI a.Grid.Rows),(tI a.Grid.Cols),(tS a.Grid.Cells),(T.os 2 2 0 ((a.Clues.map (Qd true)).length)),(T.os 1 3 0 ((a.Seals.map (Qb true)).length)),(tI a.Salt)]) (VEvp.cons (i:=0) (tv (T.agg (Qe false a.Grid)) Y) (VEvp.cons (i:=1) (tv (T.os 2 2 0 ((a.Clues.map (Qd true)).length)) Y) (VEvp.cons (i:=2) (tv (T.os 1 3 0 ((a.Seals.map (Qb true)).length)) Y) (VEvp.cons (i:=3) (tv (tI a.Salt) Y) VEvp.nil)))) (bc nofun (bc nofun (bc nofun (bc nofun bn)))) Tryz.underlying37 Qc0 (fun _=>RL.cons (.int _ _) (RL.cons (.int _ _) (RL.cons (.str _) (RL.cons (.nils) (RL.cons (.nils) (RL.cons (.int _ _) (RL.nil _))))))) (by kernel_rfl) (by kernel_rfl)) Y Y (VRunD.chain (bi:= [1,0,4,2,3,7,5,6,9,8,10]) Y VWant.always Y Y Y (by kernel_rfl) (B.storeW (us:= [(tI a.Grid.Rows),(tI a.Grid.Cols),(tS a.Grid.Cells),(T.os 2 2 0 ((a.Clues.map (Qd true)).length)),(T.os 1 3 0 ((a.Seals.map (Qb true)).length)),(tI a.Salt)]) (tv (T.op 1 0) Y) (tv (T.agg [(tI a.Grid.Rows),(tI a.Grid.Cols),(tS a.Grid.Cells),(T.os 2 2 0 ((a.Clues.map (Qd true)).length)),(T.os 1 3 0 ((a.Seals.map (Qb true)).length)),(tI a.Salt)]) Y) nofun Y Y Y Qdl Yc (bc Y (bc Y (bc Y (bc Y (bc Y (bc Y bn))))))) (VRunD.nil (tn (rt ?_))))))))
 refine vfin.eq (r':=(T.agg [(tI a.Grid.Rows),(tI a.Grid.Cols),(tS a.Grid.Cells),(T.sl true 2 (a.Clues.map (Qd true))),(T.sl true 1 (a.Seals.map (Qb true))),(tI a.Salt)])) ?_ (vfin.r (VRes.celln (ws:= [(tI a.Grid.Rows),(tI a.Grid.Cols),(tS a.Grid.Cells),(T.os 2 2 0 ((a.Clues.map (Qd true)).length)),(T.os 1 3 0 ((a.Seals.map (Qb true)).length)),(tI a.Salt)]) Y Y Jn Yc (lb Y) Y VRes.nil) (Give.agg (GiveL.cons (Give.int _ _) (GiveL.cons (Give.int _ _) (GiveL.cons (Give.str _) (GiveL.cons (Give.os Y Y (okeClue.cleanMap _)) (GiveL.cons (Give.os Y Y (okInt.cleanMap _)) (GiveL.cons (Give.int _ _) GiveL.nil (by decide)) (by decide)) (by decide)) (by decide)) (by decide)) (by decide))))
 rfl
noncomputable section
def okH (a:D.Issue) (tk:Int) (c:D.Correction):Prop:=c.Issue=a.Number∧c.Tick≤tk∧c.Slot<((a.Puzzle.Clues.length:Nat):Int)
instance (a:D.Issue) (tk:Int) (c:D.Correction):Decidable (okH a tk c):=Classical.propDecidable _
def clS (a:D.Issue) (l:List D.Correction) (tk:Int):Nat→List D.Clue
 | 0=>a.Puzzle.Clues
 | i+1=>match l[i]? with | some c=>if okH a tk c then (clS a l tk i).set (Int.toNat c.Slot) c.Clue else clS a l tk i | none=>clS a l tk i
theorem Qb1 {a:D.Issue} {l:List D.Correction} {tk:Int} {i:Nat} {c:D.Correction} (h:l[i]? =some c):clS a l tk (i+1)=if okH a tk c then (clS a l tk i).set (Int.toNat c.Slot) c.Clue else clS a l tk i:=by rw [clS,h]
theorem Qcj (a:D.Issue) (l:List D.Correction) (tk:Int):∀i,(clS a l tk i).length=a.Puzzle.Clues.length
 | 0=>rfl
 | i+1=>by
  have ih:=Qcj a l tk i
  unfold clS
  split
  ·split
   ·rw [List.length_set,ih]
   ·exact ih
  ·exact ih
theorem Qnc (a:D.Issue) (l:List D.Correction) (tk:Int):∀i,zL QH (clS a l tk i)≤zL QH a.Puzzle.Clues+Jl Qn (l.take i)
 | 0=>Nat.le_add_right _ _
 | i+1=>by
  have ih:=Qnc a l tk i
  unfold clS
  split
  ·rename_i c hc
   have h2:=QdM (z:=Qn) hc
   have h3:QH c.Clue≤Qn c:=by simp only [Qn];omega
   split
   ·have:=QnT (z:=QH) (clS a l tk i) (Int.toNat c.Slot) c.Clue
    omega
   ·omega
  ·rename_i hc
   have:l.take (i+1)=l.take i:=by rw [List.take_add_one,hc];simp
   rw [this]
   exact ih
def clI (a:D.Issue) (l:List D.Correction) (tk:Int):Nat→List D.Clue
 | 0=>a.Puzzle.Clues
 | u+1=>match (Zo a l tk)[u]? with | some k=>if 0≤k then (match l[Int.toNat k]? with | some c=>(clI a l tk u).set u c.Clue | none=>clI a l tk u) else clI a l tk u | none=>clI a l tk u
theorem Qj6 {a:D.Issue} {l:List D.Correction} {tk:Int} {u:Nat} {k:Int} {c:D.Correction} (h:(Zo a l tk)[u]? =some k) (hk:0≤k) (hc:l[Int.toNat k]? =some c):clI a l tk (u+1)=(clI a l tk u).set u c.Clue:=by rw [clI,h];simp only;rw [if_pos hk,hc]
theorem Qk1 {a:D.Issue} {l:List D.Correction} {tk:Int} {u:Nat} {k:Int} (h:(Zo a l tk)[u]? =some k) (hk:¬ 0≤k):clI a l tk (u+1)=clI a l tk u:=by rw [clI,h];simp only;rw [if_neg hk]
theorem QdI (a:D.Issue) (l:List D.Correction) (tk:Int):∀i,(clI a l tk i).length=a.Puzzle.Clues.length
 | 0=>rfl
 | i+1=>by
  have ih:=QdI a l tk i
  unfold clI
  split
  ·split
   ·split
    ·rw [List.length_set,ih]
    ·exact ih
   ·exact ih
  ·exact ih
theorem QkE {a:D.Issue} {l:List D.Correction} {tk:Int} {u:Nat} (hg:YQ a l) (hu:u<a.Puzzle.Clues.length):(Zo a l tk)[u]? =some (cAt a l tk ((u:Nat):Int) l.length):=by
 have hv:Zo a l tk=Q0 a l tk a.Puzzle.Clues.length:=if_pos hg
 rw [hv,Q0,List.getElem?_map,List.getElem?_range hu,Option.map_some]
def clV (a:D.Issue) (l:List D.Correction) (tk:Int) (u i:Nat):Option D.Clue:=if 0≤cAt a l tk ((u:Nat):Int) i then (l[Int.toNat (cAt a l tk ((u:Nat):Int) i)]?).map (fun c=>c.Clue) else a.Puzzle.Clues[u]?
theorem Qkb {a:D.Issue} {l:List D.Correction} {tk:Int} (hg:YQ a l):∀i,i≤l.length→∀u,u<a.Puzzle.Clues.length→(clS a l tk i)[u]? =clV a l tk u i
 | 0,_,u,hu=>rfl
 | i+1,hi,u,hu=>by
  have ih:=Qkb (tk:=tk) hg i (by omega) u hu
  have hc:=List.getElem?_eq_getElem (show i<l.length by omega)
  generalize l[i]=c at hc
  obtain ⟨x,hx,_,h5,_⟩:=hg.2.2 i (by omega)
  rw [hc] at hx
  obtain rfl:=Option.some.inj hx
  have hlen:=Qcj a l tk i
  rw [Qb1 hc]
  unfold clV
  rw [QbH hc]
  by_cases hh:Qmh a tk c ((u:Nat):Int)
  ·rw [if_pos hh,if_pos ⟨hh.1,hh.2.2,by have:=hh.2.1;omega⟩,if_pos (by omega),Int.toNat_natCast,hc]
   have hs:=hh.2.1
   rw [show Int.toNat c.Slot=u by omega,List.getElem?_set_self (by omega)]
   rfl
  ·rw [if_neg hh]
   have:((if okH a tk c then (clS a l tk i).set (Int.toNat c.Slot) c.Clue else clS a l tk i))[u]? =(clS a l tk i)[u]? :=by
    split
    ·rename_i hok
     rw [List.getElem?_set_ne]
     intro e
     exact hh ⟨hok.1,by omega,hok.2.1⟩
    ·rfl
   rw [this]
   exact ih
theorem QjY {a:D.Issue} {l:List D.Correction} {tk:Int} (hg:YQ a l):∀w,w≤a.Puzzle.Clues.length→∀u,u<a.Puzzle.Clues.length→(clI a l tk w)[u]? =if u<w then clV a l tk u l.length else a.Puzzle.Clues[u]?
 | 0,_,u,hu=>rfl
 | w+1,hw,u,hu=>by
  have ih:=QjY (tk:=tk) hg w (by omega) u hu
  have hk:=QkE (tk:=tk) hg (show w<a.Puzzle.Clues.length by omega)
  have hlen:=QdI a l tk w
  have hb:=Qjn a l tk ((w:Nat):Int) l.length
  by_cases h0:0≤cAt a l tk ((w:Nat):Int) l.length
  ·have hc:=List.getElem?_eq_getElem (show Int.toNat (cAt a l tk ((w:Nat):Int) l.length)<l.length by omega)
   rw [Qj6 hk h0 hc]
   by_cases hu2:w=u
   ·subst hu2
    rw [List.getElem?_set_self (by omega),if_pos (by omega)]
    unfold clV
    rw [if_pos h0,hc]
    rfl
   ·rw [List.getElem?_set_ne hu2,ih]
    by_cases h3:u<w
    ·rw [if_pos h3,if_pos (by omega)]
    ·rw [if_neg h3,if_neg (by omega)]
  ·rw [Qk1 hk h0,ih]
   by_cases hu2:w=u
   ·subst hu2
    rw [if_neg (by omega),if_pos (by omega)]
    unfold clV
    rw [if_neg h0]
   ·by_cases h3:u<w
    ·rw [if_pos h3,if_pos (by omega)]
    ·rw [if_neg h3,if_neg (by omega)]
theorem Qm5 {a:D.Issue} {l:List D.Correction} {tk:Int} (hg:YQ a l):clI a l tk a.Puzzle.Clues.length=clS a l tk l.length:=by
 refine List.ext_getElem? (fun u=> ?_)
 rcases Nat.lt_or_ge u a.Puzzle.Clues.length with h | h
 ·rw [QjY hg _ (Nat.le_refl _) u h,if_pos h,Qkb hg _ (Nat.le_refl _) u h]
 ·rw [List.getElem?_eq_none (by rw [QdI];exact h),List.getElem?_eq_none (by rw [Qcj];exact h)]
def Qor : D.Puzzle:=D.Puzzle.mk (D.Grid.mk 0 0 ⟨#[]⟩) [] [] 0
def Qf (a:D.Issue) (l:List D.Correction) (tk:Int):D.Puzzle:=if YQ a l then D.Puzzle.mk a.Puzzle.Grid (clS a l tk l.length) a.Puzzle.Seals a.Puzzle.Salt else Qor
theorem QfY {a:D.Issue} {l:List D.Correction} {tk:Int} (h:¬YQ a l):Qf a l tk=Qor:=if_neg h
theorem QdW {a:D.Issue} {l:List D.Correction} {tk:Int} (h:YQ a l):Qf a l tk=D.Puzzle.mk a.Puzzle.Grid (clS a l tk l.length) a.Puzzle.Seals a.Puzzle.Salt:=if_pos h
theorem QmW (a:D.Issue) (l:List D.Correction) (tk:Int):QK (Qf a l tk)≤Q5 a+zL Qn l:=by
 by_cases h:YQ a l
 ·rw [QdW h]
  have h1:=Qnc a l tk l.length
  rw [List.take_of_length_le (Nat.le_refl _)] at h1
  have h2:Jl Qn l≤zL Qn l:=Nat.le_add_left _ _
  simp only [QK,Q5]
  omega
 ·rw [QfY h]
  exact Nat.zero_le _
theorem QkD {a:D.Issue} {l:List D.Correction} {tk k:Int} {u:Nat} (h:(Zo a l tk)[u]? =some k):k<((l.length:Nat):Int)∧u<a.Puzzle.Clues.length:=by
 have h1:=(List.getElem?_eq_some_iff.1 h).1
 have h2:=QfT a l tk
 unfold Zo at h
 split at h
 ·rename_i hg
  rw [Q0,List.getElem?_map,List.getElem?_range (by omega),Option.map_some] at h
  obtain rfl:=Option.some.inj h
  exact ⟨(Qjn a l tk ((u:Nat):Int) l.length).2,by omega⟩
 ·simp at h
theorem Qji {a:D.Issue} {l:List D.Correction} {tk:Int} (hg:YQ a l):(Zo a l tk).length=a.Puzzle.Clues.length:=by
 rw [show Zo a l tk=Q0 a l tk a.Puzzle.Clues.length from if_pos hg,Qaq]
end
theorem QeH (n:Nat) (a:D.Issue) (l:List D.Correction) (tk:Int) (hz:Q5 a≤mx) (hq:zL Qn l≤mx):Pure (Qs Tryz.prog (n+13)) 31 [(T.agg (Qz false a)),(rd 5 Qa l),(tI tk)] (T.agg (Qv true (Qf a l tk))):=by
 refine Pure.intro (rs:= [ResultVar.cell 6 37]) Tryz.func31 Y Y Y (E0:= [(0,(T.agg (Qz false a))),(1,(rd 5 Qa l)),(2,(tI tk))]) Y ?_
 obtain ⟨hlim,hmx,hmax⟩:=QG
 have hl:=QU (z:=Qn) l
 have hw:∀x∈l,QH x.Clue≤mx:=fun x hx=>by have h1:=Qeh (z:=Qn) hx;simp only [Qn] at h1;omega
 have hz2:=hz
 simp only [Q5,QK,ZD] at hz2
 have hlc:=QU (z:=QH) a.Puzzle.Clues
 have hz3:QK a.Puzzle≤mx:=by simp only [Q5] at hz;omega
 refine sr (kO (B.box (ts:=(Qz false a)) (tv (T.agg (Qz false a)) Y) nofun Y) (kO (B.alloc (t:=(T.agg [(tN 0),(tN 0),(tS ByteArray.empty),T.nils,T.nils,(tN 0)])) (ts:= [(tN 0),(tN 0),(tS ByteArray.empty),T.nils,T.nils,(tN 0)]) Qc0 Qf4 nofun (fun _=> .agg _ _ Y (Yf (RL.cons (.int _ _) (RL.cons (.int _ _) (RL.cons (.str _) (RL.cons (.nils) (RL.cons (.nils) (RL.cons (.int _ _) (RL.nil _))))))))) Y) (nt (sq (sr (lO (OL.loadOn (us:=(Qz false a)) (tv (T.op 0 0) Y) Y Qgg QeR (lb Y) Y) (cO (cS (vc (tv (T.agg (Qz false a)) Y) vn) (LendL.cons (lg YT) ln) (QbC (n+0) a (by assumption)) Y Y) (fO (Q1 (tv (tB (decide (Zi a))) Y)) (mO (tB (!(decide (Zi a)))) Y ?_)))))))))
 refine VRunO.joinB 4 [13,14,15] 16 (tB (decide ((¬(Zi a))∨(¬(QL l))))) ?_ ?_
 ·refine gn (Zi a) (fun fhg12_1=> ?_) fun fhg12_1=> ?_
  ·refine QE 3 3 false 12 (ny fhg12_1) Y Y Y ?_
   refine fO (OF.pickT (VEv.tmpB Y (ny fhg12_1)) (VEv.bool true)) (VRunO.nil ?_)
   exact jq (congrArg T.bool (kOT fhg12_1)) (js Y (js Y (js Y (jn))))
  ·refine gF (nz fhg12_1) Y Y (OF.move (tv (rd 5 Qa l) Y)) ?_
   refine VRunO.chain (VWant.on Y Y (nz fhg12_1)) (cS (vc (tv (rd 5 Qa l) Y) vn) (ZO Y) (Jq (n+6) l (by omega) (by assumption)) Y Y) (gF (nz fhg12_1) Y Y (Q1 (tv (tB (decide (QL l))) Y)) (fO (OF.pickF (VEv.tmpB Y (nz fhg12_1)) (tv (tB (!(decide (QL l)))) Y)) (VRunO.nil ?_)))
   exact jq (congrArg T.bool (kOF (not_not_intro fhg12_1) dN)) (js Y (js Y (js Y (jn))))
 refine nt ?_
 refine cd ((¬(Zi a))∨(¬(QL l))) Y (fun fhc0=> ?_) fun fhc0=> ?_
 ·refine sr ?_
  refine fO (OF.build (l:= []) (zs:= [(tN 0),(tN 0),(tS ByteArray.empty),T.nils,T.nils,(tN 0)]) (out:= [(tN 0),(tN 0),(tS ByteArray.empty),T.nils,T.nils,(tN 0)]) VEvp.nil bn Tryz.underlying37 Qc0 (fun _=>RL.cons (.int _ _) (RL.cons (.int _ _) (RL.cons (.str _) (RL.cons (.nils) (RL.cons (.nils) (RL.cons (.int _ _) (RL.nil _))))))) (by kernel_rfl) (by kernel_rfl)) (cO (B.storeW (us:= [(tN 0),(tN 0),(tS ByteArray.empty),T.nils,T.nils,(tN 0)]) (tv (T.op 1 0) Y) (tv (T.agg [(tN 0),(tN 0),(tS ByteArray.empty),T.nils,T.nils,(tN 0)]) Y) nofun Y Y Y Qdl Yc (bc Y (bc Y (bc Y (bc Y (bc Y (bc Y bn))))))) (nt (rt (tr ?_))))
  refine vfin.eq (r':=(T.agg [(tN 0),(tN 0),(tS ByteArray.empty),(T.sl true 2 []),(T.sl true 1 []),(tN 0)])) ?_ (vfin.r (VRes.celln (ws:= [(tN 0),(tN 0),(tS ByteArray.empty),T.nils,T.nils,(tN 0)]) Y Y Jn Yc (lb Y) Y VRes.nil) (Give.agg (GiveL.cons (Give.int _ _) (GiveL.cons (Give.int _ _) (GiveL.cons (Give.str _) (GiveL.cons (Give.nils 2) (GiveL.cons (Give.nils 1) (GiveL.cons (Give.int _ _) GiveL.nil (by decide)) (by decide)) (by decide)) (by decide)) (by decide)) (by decide))))
  rw [QfY (fun h=>by rcases fhc0 with h2 | h2<;>first | exact h2 h.1 | exact h2 h.2)];rfl
 have hg:YQ a l:=⟨Classical.byContradiction fun h=>fhc0 (.inl h),Classical.byContradiction fun h=>fhc0 (.inr h)⟩
 refine sk (tn (sr (fO (OF.fieldAddrO (tv (T.op 0 0) Y) QaV) (lO (OL.loadOn (us:=(Qv false a.Puzzle)) (tv (T.op 0 1) Y) Y Jn Yc (lb Y) Y) (cO (OC.callF (r':=(T.agg [(tI a.Puzzle.Grid.Rows),(tI a.Puzzle.Grid.Cols),(tS a.Puzzle.Grid.Cells),(T.os 2 2 0 ((a.Puzzle.Clues.map (Qd true)).length)),(T.os 1 3 0 ((a.Puzzle.Seals.map (Qb true)).length)),(tI a.Puzzle.Salt)])) (objs:= [(Obj.rows 2 (a.Puzzle.Clues.map (Qd true))),(Obj.rows 1 (a.Puzzle.Seals.map (Qb true)))]) Y (vc (tv (T.agg (Qv false a.Puzzle)) Y) vn) (LendL.cons (lg Yt) ln) (Qf0 (n+9) a.Puzzle (by assumption)) Y) (kO (B.alloc (t:=(T.agg [(tN 0),(tN 0),(tS ByteArray.empty),T.nils,T.nils,(tN 0)])) (ts:= [(tN 0),(tN 0),(tS ByteArray.empty),T.nils,T.nils,(tN 0)]) Qc0 Qf4 nofun (fun _=> .agg _ _ Y (Yf (RL.cons (.int _ _) (RL.cons (.int _ _) (RL.cons (.str _) (RL.cons (.nils) (RL.cons (.nils) (RL.cons (.int _ _) (RL.nil _))))))))) Y) (cO (B.storeW (us:= [(tI a.Puzzle.Grid.Rows),(tI a.Puzzle.Grid.Cols),(tS a.Puzzle.Grid.Cells),(T.os 2 2 0 ((a.Puzzle.Clues.map (Qd true)).length)),(T.os 1 3 0 ((a.Puzzle.Seals.map (Qb true)).length)),(tI a.Puzzle.Salt)]) (tv (T.op 4 0) Y) (tv (T.agg [(tI a.Puzzle.Grid.Rows),(tI a.Puzzle.Grid.Cols),(tS a.Puzzle.Grid.Cells),(T.os 2 2 0 ((a.Puzzle.Clues.map (Qd true)).length)),(T.os 1 3 0 ((a.Puzzle.Seals.map (Qb true)).length)),(tI a.Puzzle.Salt)]) Y) nofun Y Y Y Qdl Yc (bc Y (bc Y (bc Y (bc Y (bc Y (bc Y bn))))))) (nt (sq (sr (fO (OF.assign (VEv.int .i64 0)) ?_)))))))))))
 refine nt (VRun.block ?_)
 have he2:a.Puzzle.Clues=(clS a l tk 0):=by rfl
 refine VRun.loop (A:=Nat) (fun s_=> [(1,(rd 5 Qa l)),(2,(tI tk)),(3,(T.op 0 0)),(6,(T.op 1 0)),(7,(T.op 2 0)),(8,(tN s_))]) (fun s_=>QY [(0,(Obj.cells (Qz false a))),(1,(Obj.cells [(tN 0),(tN 0),(tS ByteArray.empty),T.nils,T.nils,(tN 0)])),(2,(Obj.cells [(tI a.Puzzle.Grid.Rows),(tI a.Puzzle.Grid.Cols),(tS a.Puzzle.Grid.Cells),(T.os 2 3 0 ((a.Puzzle.Clues.map (Qd true)).length)),(T.os 1 4 0 ((a.Puzzle.Seals.map (Qb true)).length)),(tI a.Puzzle.Salt)])),(3,(Obj.rows 2 ((clS a l tk s_).map (Qd true)))),(4,(Obj.rows 1 (a.Puzzle.Seals.map (Qb true))))]) 5 (fun s_=>s_≤l.length) (fun s_=>l.length - s_) (0:Nat) ?_ (Wk.mk (fun k=>if k=2 then 4 else if k=3 then 2 else if k=4 then 3 else k) ?_ ?_ ?_) ?_
 ·(simp;done)
 ·exact (b2 (b2 (b2 (b2 (b2 (b2 bn))))))
 ·exact (b3 (b3 (b3 (bc ⟨(congrArg (fun l_=>some (Obj.rows 2 (List.map (Qd true) l_))) he2),(lb Y),rfl⟩ (b3 bn)))))
 ·exact nd Y
 rintro i (hI':i≤l.length)
 show VRun _ _ _ [(1,(rd 5 Qa l)),(2,(tI tk)),(3,(T.op 0 0)),(6,(T.op 1 0)),(7,(T.op 2 0)),(8,(tN i))] (QY [(0,(Obj.cells (Qz false a))),(1,(Obj.cells [(tN 0),(tN 0),(tS ByteArray.empty),T.nils,T.nils,(tN 0)])),(2,(Obj.cells [(tI a.Puzzle.Grid.Rows),(tI a.Puzzle.Grid.Cols),(tS a.Puzzle.Grid.Cells),(T.os 2 3 0 ((a.Puzzle.Clues.map (Qd true)).length)),(T.os 1 4 0 ((a.Puzzle.Seals.map (Qb true)).length)),(tI a.Puzzle.Salt)])),(3,(Obj.rows 2 ((clS a l tk i).map (Qd true)))),(4,(Obj.rows 1 (a.Puzzle.Seals.map (Qb true))))]) 5 _
 have hI1:=hI'
 have hcl:=Qcj a l tk i
 refine sq (sr (mO (tN i) Y (mO (rd 5 Qa l) Y (lO (B.lenR (m:=l.length) (tv (rd 5 Qa l) Y) U41 (List.length_map ..)) (fO (Zb (tv (tN i) Y) (tv (tN l.length) Y)) (nt ?_))))))
 refine cd (i<l.length) Y (fun fhc1=> ?_) fun fhc1=> ?_
 ·refine sk ?_
  refine tn (sq (VRun.block (sq (VRun.draw (B:= [[],[],[1,0],[0,1,2],[2,1,0,3],[],[5],[5,6,3,0,1,2,4],[4,2,1,0,3,6,5,7],[7,5,6,3,0,1,2,4,8],[7,5,6,3,0,1,2,4,8],[10,8,4,2,1,0,3,6,5,7,9],[9,7,5,6,3,0,1,2,4,8,10,11],[11,10,8,4,2,1,0,3,6,5,7,9,12],[7,5,6,3,0,1,2,4,8],[14,12,9,7,5,6,3,0,1,2,4,8,10,11,13],[13,11,10,9,12,14,15,7,5,6,3,0,1,2,4,8],[8,4,2,1,0,3,6,5,7,15,14,12,9,10,11,13,16],[16,13,11,10,9,12,14,15,7,5,6,3,0,1,2,4,8,17],[16,13,11,10,9,12,14,15,7,5,6,3,0,1,2,4,8,17],[19,17,8,4,2,1,0,3,6,5,7,15,14,12,9,10,11,13,16,18],[18,16,13,11,10,9,12,14,15,7,5,6,3,0,1,2,4,8,17,19,20],[20,19,17,8,4,2,1,0,3,6,5,7,15,14,12,9,10,11,13,16,18,21],[16,13,11,10,9,12,14,15,7,5,6,3,0,1,2,4,8,17],[17,8,4,2,1,0,3,6,5,7,15,14,12,9,10,11,13,16,23],[23,16,13,11,10,9,12,14,15,7,5,6,3,0,1,2,4,8,17,24],[24,23,25,21,18,16,13,11,10,9,12,14,15,7,5,6,3,0,1,2,4,8,17,19,20,22],[22,20,19,18,21,25,23,24,26,16,13,11,10,9,12,14,15,7,5,6,3,0,1,2,4,8,17]]) (by kernel_rfl) (by kernel_rfl) (mD (rd 5 Qa l) Y Y (mD (tN i) Y Y ?_))))))
  obtain ⟨x1,hx1⟩:∃x,l[i]? =some x:=⟨_,List.getElem?_eq_getElem (by omega)⟩
  (have hs0:0≤x1.Slot:=by (obtain ⟨y,hy,_,h5,_⟩:=hg.2.2 i (by omega);rw [hx1] at hy;obtain rfl:=Option.some.inj hy;exact h5.1))
  refine fD (OF.indexAddrR (row:=(Qa false x1)) (i:=i) (tv (rd 5 Qa l) Y) (tv (tN i) Y) Y (Qt _ hx1) U41 Yv Jk) Y Y (fD (B.fieldAddrR (us:=(Qa false x1)) (tv (T.rp (Qa false x1)) Y) (lb Y) Qbg Y) Y Y (lD (OL.loadR1 (t:=(tI x1.Issue)) (tv (T.rp (Qa false x1)) Y) Y QQ) Y Y (fD (OF.fieldAddrO (tv (T.op 0 0) Y) QbF) Y Y (lD (OL.loadO1 (t:=(tI a.Number)) (tv (T.op 0 0) Y) Y Y QQ) Y Y (fD (Y9 (tv (tI x1.Issue) Y) (tv (tI a.Number) Y)) Y Y (mD (tB (decide (x1.Issue=a.Number))) Y Y ?_))))))
  refine gw (x1.Issue=a.Number) (fun fhg35_3=> ?_) fun fhg35_3=> ?_
  ·refine VRunD.free Y (VWant.on Y Y (dy fhg35_3)) Y (OF.move (tv (rd 5 Qa l) Y)) ?_
   refine VRunD.free Y (VWant.on Y Y (dy fhg35_3)) Y (OF.move (tv (tN i) Y)) (VRunD.free Y (VWant.on Y Y (dy fhg35_3)) Y (OF.indexAddrR (row:=(Qa false x1)) (i:=i) (tv (rd 5 Qa l) Y) (tv (tN i) Y) Y (Qt _ hx1) U41 Yv Jk) (VRunD.free Y (VWant.on Y Y (dy fhg35_3)) Y (B.fieldAddrR (us:= [(tI x1.Tick)]) (tv (T.rp (Qa false x1)) Y) (lb Y) Jz Y) (VRunD.look Y (VWant.on Y Y (dy fhg35_3)) Y (OL.loadR1 (t:=(tI x1.Tick)) (tv (T.rp [(tI x1.Tick)]) Y) Y QQ) (VRunD.free Y (VWant.on Y Y (dy fhg35_3)) Y (OF.move (tv (tI tk) Y)) (VRunD.free Y (VWant.on Y Y (dy fhg35_3)) Y (xle (tv (tI x1.Tick) Y) (tv (tI tk) Y)) (fD (OF.pickT (VEv.tmpB Y (dy fhg35_3)) (tv (tB (decide (x1.Tick≤tk))) Y)) Y Y (mD (tB (decide (x1.Tick≤tk))) Y Y ?_)))))))
   refine gw (x1.Tick≤tk) (fun fhg44_4=> ?_) fun fhg44_4=> ?_
   ·refine VRunD.free Y (VWant.on Y Y (dy fhg44_4)) Y (OF.move (tv (rd 5 Qa l) Y)) ?_
    refine VRunD.free Y (VWant.on Y Y (dy fhg44_4)) Y (OF.move (tv (tN i) Y)) (VRunD.free Y (VWant.on Y Y (dy fhg44_4)) Y (OF.indexAddrR (row:=(Qa false x1)) (i:=i) (tv (rd 5 Qa l) Y) (tv (tN i) Y) Y (Qt _ hx1) U41 Yv Jk) (VRunD.free Y (VWant.on Y Y (dy fhg44_4)) Y (B.fieldAddrR (us:=((Qa false x1).drop 1)) (tv (T.rp (Qa false x1)) Y) (lb Y) J6 Y) (VRunD.look Y (VWant.on Y Y (dy fhg44_4)) Y (OL.loadR1 (t:=(tI x1.Slot)) (tv (T.rp ((Qa false x1).drop 1)) Y) Y QQ) (VRunD.free Y (VWant.on Y Y (dy fhg44_4)) Y (OF.fieldAddrO (tv (T.op 2 0) Y) Yu) (VRunD.look Y (VWant.on Y Y (dy fhg44_4)) Y (OL.loadO1 (t:=(T.os 2 3 0 ((a.Puzzle.Clues.map (Qd true)).length))) (tv (T.op 2 3) Y) Y Y QbE) (VRunD.look Y (VWant.on Y Y (dy fhg44_4)) Y (B.lenO (m:=(clS a l tk i).length) (tv (T.os 2 3 0 ((a.Puzzle.Clues.map (Qd true)).length)) Y) U35 (by simp only [List.length_map,Qcj])) (VRunD.free Y (VWant.on Y Y (dy fhg44_4)) Y (xls (tv (tI x1.Slot) Y) (tv (tN ((clS a l tk i).length)) Y)) (fD (OF.pickT (VEv.tmpB Y (dy fhg44_4)) (tv (tB (decide (x1.Slot<(((clS a l tk i).length:Nat):Int)))) Y)) Y Y (VRunD.nil (tn ?_))))))))))
    refine cd (x1.Slot<(((clS a l tk i).length:Nat):Int)) Y (fun fhc2=> ?_) fun fhc2=> ?_
    ·refine VRun.draw (B:= [[],[0],[],[],[3,2],[2,3,4],[4,3,2,5],[],[],[8,7],[7,8,9],[9,8,7,10],[10,7,8,9,11],[12,11,10,9,8,7,5,2,3,4,6,0,1],[1,0,6,4,3,2,5,7,8,9,10,11,12,13]]) (by kernel_rfl) (by kernel_rfl) ?_
     refine fD (OF.fieldAddrO (tv (T.op 2 0) Y) Yu) Y Y (lD (OL.loadO1 (t:=(T.os 2 3 0 ((a.Puzzle.Clues.map (Qd true)).length))) (tv (T.op 2 3) Y) Y Y QbE) Y Y (mD (rd 5 Qa l) Y Y (mD (tN i) Y Y (fD (OF.indexAddrR (row:=(Qa false x1)) (i:=i) (tv (rd 5 Qa l) Y) (tv (tN i) Y) Y (Qt _ hx1) U41 Yv Jk) Y Y (fD (B.fieldAddrR (us:=((Qa false x1).drop 1)) (tv (T.rp (Qa false x1)) Y) (lb Y) J6 Y) Y Y (lD (OL.loadR1 (t:=(tI x1.Slot)) (tv (T.rp ((Qa false x1).drop 1)) Y) Y QQ) Y Y (mD (rd 5 Qa l) Y Y (mD (tN i) Y Y (fD (OF.indexAddrR (row:=(Qa false x1)) (i:=i) (tv (rd 5 Qa l) Y) (tv (tN i) Y) Y (Qt _ hx1) U41 Yv Jk) Y Y (fD (B.fieldAddrR (us:=((Qa false x1).drop 2)) (tv (T.rp (Qa false x1)) Y) (lb Y) Qbp Y) Y Y (lD (OL.loadRn (us:=(Qd false x1.Clue)) (tv (T.rp ((Qa false x1).drop 2)) Y) Qby ZP (lb Y) Y) Y Y ?_)))))))))))
     refine VRunD.quiet (bi:= [10,7,8,9,11]) Y VWant.always Y Y Y bn (OC.callF (r':=(T.agg [(tI x1.Clue.Sense),(T.os 4 5 0 ((x1.Clue.Play.map (Qg true)).length))])) (objs:= [(Obj.rows 4 (x1.Clue.Play.map (Qg true)))]) Y (vc (tv (T.agg (Qd false x1.Clue)) Y) vn) (LendL.cons (lg okeClue) ln) (QbL (n+11) x1.Clue (by exact hw _ (List.mem_of_getElem? hx1))) Y) ?_
     obtain ⟨x2,hx2⟩:∃x,(clS a l tk i)[(Int.toNat x1.Slot)]? =some x:=⟨_,List.getElem?_eq_getElem (by omega)⟩
     skip
     refine fD (B.indexAddrO (i:=(Int.toNat x1.Slot)) (tv (T.os 2 3 0 ((a.Puzzle.Clues.map (Qd true)).length)) Y) (tv (tI x1.Slot) Y) (by omega) (by (simp only [List.length_map];omega)) U35 ZP Qak) Y Y (VRunD.chain (bi:= [1,0,6,4,3,2,5,7,8,9,10,11,12,13]) Y VWant.always Y Y Y (by kernel_rfl) (B.storeB (us:= [(tI x1.Clue.Sense),(T.os 4 5 0 ((x1.Clue.Play.map (Qg true)).length))]) (ws:= [(tI x1.Clue.Sense),(T.sl true 4 (x1.Clue.Play.map (Qg true)))]) (rows':=(((clS a l tk i).set (Int.toNat x1.Slot) x1.Clue).map (Qd true))) (row:=(Qd true x2)) (tv (T.orp 2 3 (Int.toNat x1.Slot) 0) Y) (tv (T.agg [(tI x1.Clue.Sense),(T.os 4 5 0 ((x1.Clue.Play.map (Qg true)).length))]) Y) nofun Y (Qt _ hx2) Y (lb Y) Qak ZP (bc Y (bc Y bn)) (Bury.pl Y (Bury.os Y Y Bury.nil (by decide))) Y (by decide) (Ze Y)) (VRunD.nil (vinB.n (tn (VRun.region (mO (tN i) Y (fO (Qy (tv (tN i) Y) (VEv.int .i64 1) (by omega)) (aO (tN (i+1)) Y (VRunO.nil (tn ?_))))))))))
     have he5:((clS a l tk i).set (Int.toNat x1.Slot) x1.Clue)=(clS a l tk (i+1)):=by rw [Qb1 hx1,if_pos ⟨by assumption,by assumption,by omega⟩]
     refine ⟨(i+1:Nat),?_,?_,Wk.mk (fun k=>k) ?_ ?_ ?_⟩
     ·trivial
     ·omega
     ·exact (b2 (b2 (b2 (b2 (b2 (b2 bn))))))
     ·exact (b3 (b3 (b3 (bc ⟨(congrArg (fun l_=>some (Obj.rows 2 (List.map (Qd true) l_))) he5),(lb Y),rfl⟩ (b3 bn)))))
     ·exact nd Y
    refine sk (vinB.n (tn (VRun.region (mO (tN i) Y (fO (Qy (tv (tN i) Y) (VEv.int .i64 1) (by omega)) (aO (tN (i+1)) Y (VRunO.nil (tn ?_))))))))
    have he6:(clS a l tk i)=(clS a l tk (i+1)):=by rw [Qb1 hx1,if_neg (fun h=>absurd h.2.2 (by omega))]
    refine ⟨(i+1:Nat),?_,?_,Wk.mk (fun k=>k) ?_ ?_ ?_⟩
    ·trivial
    ·omega
    ·exact (b2 (b2 (b2 (b2 (b2 (b2 bn))))))
    ·exact (b3 (b3 (b3 (bc ⟨(congrArg (fun l_=>some (Obj.rows 2 (List.map (Qd true) l_))) he6),(lb Y),rfl⟩ (b3 bn)))))
    ·exact nd Y
   refine oD Y Y (dz fhg44_4) Y (oD Y Y (dz fhg44_4) Y (oD Y Y (dz fhg44_4) Y (oD Y Y (dz fhg44_4) Y (oD Y Y (dz fhg44_4) Y (oD Y Y (dz fhg44_4) Y (oD Y Y (dz fhg44_4) Y (oD Y Y (dz fhg44_4) Y (oD Y Y (dz fhg44_4) Y (fD (OF.pickF (VEv.tmpB Y (dz fhg44_4)) (VEv.bool false)) Y Y (VRunD.nil (tn ?_)))))))))))
   refine cf Y (sk (vinB.n (tn (VRun.region (mO (tN i) Y (fO (Qy (tv (tN i) Y) (VEv.int .i64 1) (by omega)) (aO (tN (i+1)) Y (VRunO.nil (tn ?_)))))))))
   have he7:(clS a l tk i)=(clS a l tk (i+1)):=by rw [Qb1 hx1,if_neg (fun h=>absurd h.2.1 (by assumption))]
   refine ⟨(i+1:Nat),?_,?_,Wk.mk (fun k=>k) ?_ ?_ ?_⟩
   ·trivial
   ·omega
   ·exact (b2 (b2 (b2 (b2 (b2 (b2 bn))))))
   ·exact (b3 (b3 (b3 (bc ⟨(congrArg (fun l_=>some (Obj.rows 2 (List.map (Qd true) l_))) he7),(lb Y),rfl⟩ (b3 bn)))))
   ·exact nd Y
  refine oD Y Y (dz fhg35_3) Y (oD Y Y (dz fhg35_3) Y (oD Y Y (dz fhg35_3) Y (oD Y Y (dz fhg35_3) Y (oD Y Y (dz fhg35_3) Y (oD Y Y (dz fhg35_3) Y (oD Y Y (dz fhg35_3) Y (fD (OF.pickF (VEv.tmpB Y (dz fhg35_3)) (VEv.bool false)) Y Y (mD (tB false) Y Y (VRunD.off Y (VWant.not (b:=false) Y Y Y) (VRunD.off Y (VWant.not (b:=false) Y Y Y) (VRunD.off Y (VWant.not (b:=false) Y Y Y) ?_)))))))))))
  refine VRunD.off Y (VWant.not (b:=false) Y Y Y) (VRunD.off Y (VWant.not (b:=false) Y Y Y) (VRunD.off Y (VWant.not (b:=false) Y Y Y) (VRunD.off Y (VWant.not (b:=false) Y Y Y) (VRunD.off Y (VWant.not (b:=false) Y Y Y) (VRunD.off Y (VWant.not (b:=false) Y Y Y) (fD (OF.pickF (tv (tB false) Y) (VEv.bool false)) Y Y (VRunD.nil (tn (cf Y (sk (vinB.n ?_)))))))))))
  refine tn (VRun.region (mO (tN i) Y (fO (Qy (tv (tN i) Y) (VEv.int .i64 1) (by omega)) (aO (tN (i+1)) Y (VRunO.nil (tn ?_))))))
  have he8:(clS a l tk i)=(clS a l tk (i+1)):=by rw [Qb1 hx1,if_neg (fun h=>absurd h.1 (by assumption))]
  refine ⟨(i+1:Nat),?_,?_,Wk.mk (fun k=>k) ?_ ?_ ?_⟩
  ·trivial
  ·omega
  ·exact (b2 (b2 (b2 (b2 (b2 (b2 bn))))))
  ·exact (b3 (b3 (b3 (bc ⟨(congrArg (fun l_=>some (Obj.rows 2 (List.map (Qd true) l_))) he8),(lb Y),rfl⟩ (b3 bn)))))
  ·exact nd Y
 refine VRun.exit (vthn.e (vthn.e (vinB.e (tn (sr (lO (OL.loadOn (us:= [(tI a.Puzzle.Grid.Rows),(tI a.Puzzle.Grid.Cols),(tS a.Puzzle.Grid.Cells),(T.os 2 3 0 ((a.Puzzle.Clues.map (Qd true)).length)),(T.os 1 4 0 ((a.Puzzle.Seals.map (Qb true)).length)),(tI a.Puzzle.Salt)]) (tv (T.op 2 0) Y) Y Jn Yc (lb Y) Y) (cO (B.storeW (us:= [(tI a.Puzzle.Grid.Rows),(tI a.Puzzle.Grid.Cols),(tS a.Puzzle.Grid.Cells),(T.os 2 3 0 ((a.Puzzle.Clues.map (Qd true)).length)),(T.os 1 4 0 ((a.Puzzle.Seals.map (Qb true)).length)),(tI a.Puzzle.Salt)]) (tv (T.op 1 0) Y) (tv (T.agg [(tI a.Puzzle.Grid.Rows),(tI a.Puzzle.Grid.Cols),(tS a.Puzzle.Grid.Cells),(T.os 2 3 0 ((a.Puzzle.Clues.map (Qd true)).length)),(T.os 1 4 0 ((a.Puzzle.Seals.map (Qb true)).length)),(tI a.Puzzle.Salt)]) Y) nofun Y Y Y Qdl Yc (bc Y (bc Y (bc Y (bc Y (bc Y (bc Y bn))))))) (nt (rt ?_)))))))))
 refine vfin.eq (r':=(T.agg [(tI a.Puzzle.Grid.Rows),(tI a.Puzzle.Grid.Cols),(tS a.Puzzle.Grid.Cells),(T.sl true 2 ((clS a l tk i).map (Qd true))),(T.sl true 1 (a.Puzzle.Seals.map (Qb true))),(tI a.Puzzle.Salt)])) ?_ (vfin.r (VRes.celln (ws:= [(tI a.Puzzle.Grid.Rows),(tI a.Puzzle.Grid.Cols),(tS a.Puzzle.Grid.Cells),(T.os 2 3 0 ((a.Puzzle.Clues.map (Qd true)).length)),(T.os 1 4 0 ((a.Puzzle.Seals.map (Qb true)).length)),(tI a.Puzzle.Salt)]) Y Y Jn Yc (lb Y) Y VRes.nil) (Give.agg (GiveL.cons (Give.int _ _) (GiveL.cons (Give.int _ _) (GiveL.cons (Give.str _) (GiveL.cons (Give.os Y (by simp only [List.length_map,List.length_set,Qcj]) (okeClue.cleanMap _)) (GiveL.cons (Give.os Y Y (okInt.cleanMap _)) (GiveL.cons (Give.int _ _) GiveL.nil (by decide)) (by decide)) (by decide)) (by decide)) (by decide)) (by decide))))
 rw [QdW hg,← show i=l.length by omega];rfl
theorem Qbr (n:Nat) (a:D.Issue) (l:List D.Correction) (tk:Int) (hz:Q5 a≤mx) (hq:zL Qn l≤mx):Pure (Qs Tryz.prog (n+46)) 32 [(T.agg (Qz false a)),(rd 5 Qa l),(tI tk)] (T.agg (Qv true (Qf a l tk))):=by
 refine Pure.intro (rs:= [ResultVar.cell 6 37]) Tryz.func32 Y Y Y (E0:= [(0,(T.agg (Qz false a))),(1,(rd 5 Qa l)),(2,(tI tk))]) Y ?_
 obtain ⟨hlim,hmx,hmax⟩:=QG
 have hl:=QU (z:=Qn) l
 have hw:∀x∈l,QH x.Clue≤mx:=fun x hx=>by have h1:=Qeh (z:=Qn) hx;simp only [Qn] at h1;omega
 have hz2:=hz
 simp only [Q5,QK,ZD] at hz2
 have hlc:=QU (z:=QH) a.Puzzle.Clues
 have hz3:QK a.Puzzle≤mx:=by simp only [Q5] at hz;omega
 have hca:=QfT a l tk
 refine sr (kO (B.box (ts:=(Qz false a)) (tv (T.agg (Qz false a)) Y) nofun Y) (kO (B.alloc (t:=(T.agg [(tN 0),(tN 0),(tS ByteArray.empty),T.nils,T.nils,(tN 0)])) (ts:= [(tN 0),(tN 0),(tS ByteArray.empty),T.nils,T.nils,(tN 0)]) Qc0 Qf4 nofun (fun _=> .agg _ _ Y (Yf (RL.cons (.int _ _) (RL.cons (.int _ _) (RL.cons (.str _) (RL.cons (.nils) (RL.cons (.nils) (RL.cons (.int _ _) (RL.nil _))))))))) Y) (nt (sq (sr (lO (OL.loadOn (us:=(Qz false a)) (tv (T.op 0 0) Y) Y Qgg QeR (lb Y) Y) (cO (cS (vc (tv (T.agg (Qz false a)) Y) vn) (LendL.cons (lg YT) ln) (QbZ (n+1) a (by assumption)) Y Y) (fO (Q1 (tv (tB (decide (Zi a))) Y)) (mO (tB (!(decide (Zi a)))) Y ?_)))))))))
 refine VRunO.joinB 4 [14,15,16] 17 (tB (decide ((¬(Zi a))∨(¬(QL l))))) ?_ ?_
 ·refine gn (Zi a) (fun fhg13_1=> ?_) fun fhg13_1=> ?_
  ·refine QE 3 3 false 13 (ny fhg13_1) Y Y Y ?_
   refine fO (OF.pickT (VEv.tmpB Y (ny fhg13_1)) (VEv.bool true)) (VRunO.nil ?_)
   exact jq (congrArg T.bool (kOT fhg13_1)) (js Y (js Y (js Y (jn))))
  ·refine gF (nz fhg13_1) Y Y (OF.move (tv (rd 5 Qa l) Y)) ?_
   refine VRunO.chain (VWant.on Y Y (nz fhg13_1)) (cS (vc (tv (rd 5 Qa l) Y) vn) (ZO Y) (Jr (n+40) l (by omega) (by assumption)) Y Y) (gF (nz fhg13_1) Y Y (Q1 (tv (tB (decide (QL l))) Y)) (fO (OF.pickF (VEv.tmpB Y (nz fhg13_1)) (tv (tB (!(decide (QL l)))) Y)) (VRunO.nil ?_)))
   exact jq (congrArg T.bool (kOF (not_not_intro fhg13_1) dN)) (js Y (js Y (js Y (jn))))
 refine nt ?_
 refine cd ((¬(Zi a))∨(¬(QL l))) Y (fun fhc0=> ?_) fun fhc0=> ?_
 ·refine sr ?_
  refine fO (OF.build (l:= []) (zs:= [(tN 0),(tN 0),(tS ByteArray.empty),T.nils,T.nils,(tN 0)]) (out:= [(tN 0),(tN 0),(tS ByteArray.empty),T.nils,T.nils,(tN 0)]) VEvp.nil bn Tryz.underlying37 Qc0 (fun _=>RL.cons (.int _ _) (RL.cons (.int _ _) (RL.cons (.str _) (RL.cons (.nils) (RL.cons (.nils) (RL.cons (.int _ _) (RL.nil _))))))) (by kernel_rfl) (by kernel_rfl)) (cO (B.storeW (us:= [(tN 0),(tN 0),(tS ByteArray.empty),T.nils,T.nils,(tN 0)]) (tv (T.op 1 0) Y) (tv (T.agg [(tN 0),(tN 0),(tS ByteArray.empty),T.nils,T.nils,(tN 0)]) Y) nofun Y Y Y Qdl Yc (bc Y (bc Y (bc Y (bc Y (bc Y (bc Y bn))))))) (nt (rt (tr ?_))))
  refine vfin.eq (r':=(T.agg [(tN 0),(tN 0),(tS ByteArray.empty),(T.sl true 2 []),(T.sl true 1 []),(tN 0)])) ?_ (vfin.r (VRes.celln (ws:= [(tN 0),(tN 0),(tS ByteArray.empty),T.nils,T.nils,(tN 0)]) Y Y Jn Yc (lb Y) Y VRes.nil) (Give.agg (GiveL.cons (Give.int _ _) (GiveL.cons (Give.int _ _) (GiveL.cons (Give.str _) (GiveL.cons (Give.nils 2) (GiveL.cons (Give.nils 1) (GiveL.cons (Give.int _ _) GiveL.nil (by decide)) (by decide)) (by decide)) (by decide)) (by decide)) (by decide))))
  rw [QfY (fun h=>by rcases fhc0 with h2 | h2<;>first | exact h2 h.1 | exact h2 h.2)];rfl
 have hg:YQ a l:=⟨Classical.byContradiction fun h=>fhc0 (.inl h),Classical.byContradiction fun h=>fhc0 (.inr h)⟩
 have hcn:=Qji (tk:=tk) hg
 refine sk (tn (sr (fO (OF.fieldAddrO (tv (T.op 0 0) Y) QaV) (lO (OL.loadOn (us:=(Qv false a.Puzzle)) (tv (T.op 0 1) Y) Y Jn Yc (lb Y) Y) (cO (OC.callF (r':=(T.agg [(tI a.Puzzle.Grid.Rows),(tI a.Puzzle.Grid.Cols),(tS a.Puzzle.Grid.Cells),(T.os 2 2 0 ((a.Puzzle.Clues.map (Qd true)).length)),(T.os 1 3 0 ((a.Puzzle.Seals.map (Qb true)).length)),(tI a.Puzzle.Salt)])) (objs:= [(Obj.rows 2 (a.Puzzle.Clues.map (Qd true))),(Obj.rows 1 (a.Puzzle.Seals.map (Qb true)))]) Y (vc (tv (T.agg (Qv false a.Puzzle)) Y) vn) (LendL.cons (lg Yt) ln) (QdA (n+41) a.Puzzle (by assumption)) Y) (kO (B.alloc (t:=(T.agg [(tN 0),(tN 0),(tS ByteArray.empty),T.nils,T.nils,(tN 0)])) (ts:= [(tN 0),(tN 0),(tS ByteArray.empty),T.nils,T.nils,(tN 0)]) Qc0 Qf4 nofun (fun _=> .agg _ _ Y (Yf (RL.cons (.int _ _) (RL.cons (.int _ _) (RL.cons (.str _) (RL.cons (.nils) (RL.cons (.nils) (RL.cons (.int _ _) (RL.nil _))))))))) Y) (cO (B.storeW (us:= [(tI a.Puzzle.Grid.Rows),(tI a.Puzzle.Grid.Cols),(tS a.Puzzle.Grid.Cells),(T.os 2 2 0 ((a.Puzzle.Clues.map (Qd true)).length)),(T.os 1 3 0 ((a.Puzzle.Seals.map (Qb true)).length)),(tI a.Puzzle.Salt)]) (tv (T.op 4 0) Y) (tv (T.agg [(tI a.Puzzle.Grid.Rows),(tI a.Puzzle.Grid.Cols),(tS a.Puzzle.Grid.Cells),(T.os 2 2 0 ((a.Puzzle.Clues.map (Qd true)).length)),(T.os 1 3 0 ((a.Puzzle.Seals.map (Qb true)).length)),(tI a.Puzzle.Salt)]) Y) nofun Y Y Y Qdl Yc (bc Y (bc Y (bc Y (bc Y (bc Y (bc Y bn))))))) (nt (sq (sr (lO (OL.loadOn (us:=(Qz false a)) (tv (T.op 0 0) Y) Y Qgg QeR (lb Y) Y) ?_)))))))))))
 refine mO (rd 5 Qa l) Y (mO (tI tk) Y (cO (OC.callF (r':=(T.os 1 5 0 (((Zo a l tk).map (Qb true)).length))) (objs:= [(Obj.rows 1 ((Zo a l tk).map (Qb true)))]) Y (vc (tv (T.agg (Qz false a)) Y) (vc (tv (rd 5 Qa l) Y) (vc (tv (tI tk) Y) vn))) (LendL.cons (lg YT) (lp Y (lp Y ln))) (Qc1 (n+0) a l tk (by assumption) (by assumption)) Y) (lO (B.lenO (m:=(Zo a l tk).length) (tv (T.os 1 5 0 (((Zo a l tk).map (Qb true)).length)) Y) Zr (List.length_map ..)) (fO (OF.move (VEv.int .i64 0)) (nt (VRun.block ?_))))))
 have he2:a.Puzzle.Clues=(clI a l tk 0):=by rfl
 refine VRun.loop (A:=Nat) (fun s_=> [(1,(rd 5 Qa l)),(6,(T.op 0 0)),(7,(T.op 1 0)),(25,(T.os 1 2 0 (((Zo a l tk).map (Qb true)).length))),(26,(tN ((Zo a l tk).length))),(27,(tN s_))]) (fun s_=>QY [(0,(Obj.cells [(tN 0),(tN 0),(tS ByteArray.empty),T.nils,T.nils,(tN 0)])),(1,(Obj.cells [(tI a.Puzzle.Grid.Rows),(tI a.Puzzle.Grid.Cols),(tS a.Puzzle.Grid.Cells),(T.os 2 3 0 ((a.Puzzle.Clues.map (Qd true)).length)),(T.os 1 4 0 ((a.Puzzle.Seals.map (Qb true)).length)),(tI a.Puzzle.Salt)])),(2,(Obj.rows 1 ((Zo a l tk).map (Qb true)))),(3,(Obj.rows 2 ((clI a l tk s_).map (Qd true)))),(4,(Obj.rows 1 (a.Puzzle.Seals.map (Qb true))))]) 5 (fun s_=>s_≤(Zo a l tk).length) (fun s_=>(Zo a l tk).length - s_) (0:Nat) ?_ (Wk.mk (fun k=>if k=0 then 1 else if k=1 then 4 else if k=2 then 5 else if k=3 then 2 else if k=4 then 3 else k) ?_ ?_ ?_) ?_
 ·(simp;done)
 ·exact (b2 (b2 (b2 (b2 (b2 (b2 bn))))))
 ·exact (b3 (b3 (b3 (bc ⟨(congrArg (fun l_=>some (Obj.rows 2 (List.map (Qd true) l_))) he2),(lb Y),rfl⟩ (b3 bn)))))
 ·exact nd Y
 rintro i (hI':i≤(Zo a l tk).length)
 show VRun _ _ _ [(1,(rd 5 Qa l)),(6,(T.op 0 0)),(7,(T.op 1 0)),(25,(T.os 1 2 0 (((Zo a l tk).map (Qb true)).length))),(26,(tN ((Zo a l tk).length))),(27,(tN i))] (QY [(0,(Obj.cells [(tN 0),(tN 0),(tS ByteArray.empty),T.nils,T.nils,(tN 0)])),(1,(Obj.cells [(tI a.Puzzle.Grid.Rows),(tI a.Puzzle.Grid.Cols),(tS a.Puzzle.Grid.Cells),(T.os 2 3 0 ((a.Puzzle.Clues.map (Qd true)).length)),(T.os 1 4 0 ((a.Puzzle.Seals.map (Qb true)).length)),(tI a.Puzzle.Salt)])),(2,(Obj.rows 1 ((Zo a l tk).map (Qb true)))),(3,(Obj.rows 2 ((clI a l tk i).map (Qd true)))),(4,(Obj.rows 1 (a.Puzzle.Seals.map (Qb true))))]) 5 _
 have hI1:=hI'
 have hcl:=QdI a l tk i
 refine sr (fO (Zb (tv (tN i) Y) (tv (tN ((Zo a l tk).length)) Y)) (nt (sq ?_)))
 refine cd (i<(Zo a l tk).length) Y (fun fhc1=> ?_) fun fhc1=> ?_
 ·refine sk ?_
  refine tn (sq (VRun.block (sr (mO (tN i) Y ?_))))
  obtain ⟨x1,hx1⟩:∃x,(Zo a l tk)[i]? =some x:=⟨_,List.getElem?_eq_getElem (by omega)⟩
  have hbd:=QkD hx1
  refine fO (B.indexAddrO (i:=i) (tv (T.os 1 2 0 (((Zo a l tk).map (Qb true)).length)) Y) (tv (tN i) Y) Y (by (simp only [List.length_map];omega)) Zr Zd Yo) (lO (OL.loadP1 (t:=(tI x1)) (row:=(Qb true x1)) (tv (T.orp 1 2 i 0) Y) Y (Qt _ hx1) Y Y QQ) (aO (tN i) Y (aO (tI x1) Y (nt (sr (mO (tI x1) Y (fO (xge (tv (tI x1) Y) (VEv.int .i64 0)) (nt ?_))))))))
  refine cd (0≤x1) Y (fun fhc2=> ?_) fun fhc2=> ?_
  ·refine VRun.draw (B:= [[],[0],[],[],[],[4,3],[3,4,5],[5,4,3,6],[6,3,4,5,7],[8,7,6,5,4,3,2,0,1],[1,0,2,3,4,5,6,7,8,9]]) (by kernel_rfl) (by kernel_rfl) ?_
   refine fD (OF.fieldAddrO (tv (T.op 1 0) Y) Yu) Y Y (lD (OL.loadO1 (t:=(T.os 2 3 0 ((a.Puzzle.Clues.map (Qd true)).length))) (tv (T.op 1 3) Y) Y Y QbE) Y Y (mD (tN i) Y Y (mD (rd 5 Qa l) Y Y (mD (tI x1) Y Y ?_))))
   obtain ⟨x2,hx2⟩:∃x,l[(Int.toNat x1)]? =some x:=⟨_,List.getElem?_eq_getElem (by omega)⟩
   skip
   refine fD (OF.indexAddrR (row:=(Qa false x2)) (i:=(Int.toNat x1)) (tv (rd 5 Qa l) Y) (tv (tI x1) Y) (by omega) (Qt _ hx2) U41 Yv Jk) Y Y (fD (B.fieldAddrR (us:=((Qa false x2).drop 2)) (tv (T.rp (Qa false x2)) Y) (lb Y) Qbp Y) Y Y (lD (OL.loadRn (us:=(Qd false x2.Clue)) (tv (T.rp ((Qa false x2).drop 2)) Y) Qby ZP (lb Y) Y) Y Y (VRunD.quiet (bi:= [6,3,4,5,7]) Y VWant.always Y Y Y bn (OC.callF (r':=(T.agg [(tI x2.Clue.Sense),(T.os 4 5 0 ((x2.Clue.Play.map (Qg true)).length))])) (objs:= [(Obj.rows 4 (x2.Clue.Play.map (Qg true)))]) Y (vc (tv (T.agg (Qd false x2.Clue)) Y) vn) (LendL.cons (lg okeClue) ln) (Qbv (n+43) x2.Clue (by exact hw _ (List.mem_of_getElem? hx2))) Y) ?_)))
   obtain ⟨x3,hx3⟩:∃x,(clI a l tk i)[i]? =some x:=⟨_,List.getElem?_eq_getElem (by omega)⟩
   skip
   refine fD (B.indexAddrO (i:=i) (tv (T.os 2 3 0 ((a.Puzzle.Clues.map (Qd true)).length)) Y) (tv (tN i) Y) Y (by (simp only [List.length_map];omega)) U35 ZP Qak) Y Y (VRunD.chain (bi:= [1,0,2,3,4,5,6,7,8,9]) Y VWant.always Y Y Y (by kernel_rfl) (B.storeB (us:= [(tI x2.Clue.Sense),(T.os 4 5 0 ((x2.Clue.Play.map (Qg true)).length))]) (ws:= [(tI x2.Clue.Sense),(T.sl true 4 (x2.Clue.Play.map (Qg true)))]) (rows':=(((clI a l tk i).set i x2.Clue).map (Qd true))) (row:=(Qd true x3)) (tv (T.orp 2 3 i 0) Y) (tv (T.agg [(tI x2.Clue.Sense),(T.os 4 5 0 ((x2.Clue.Play.map (Qg true)).length))]) Y) nofun Y (Qt _ hx3) Y (lb Y) Qak ZP (bc Y (bc Y bn)) (Bury.pl Y (Bury.os Y Y Bury.nil (by decide))) Y (by decide) (Ze Y)) (VRunD.nil (vinB.n (tn (VRun.region (fO (Qy (tv (tN i) Y) (VEv.int .i64 1) (by omega)) (mO (tN (i+1)) Y (VRunO.nil (tn ?_)))))))))
   have he3:((clI a l tk i).set i x2.Clue)=(clI a l tk (i+1)):=by exact (Qj6 hx1 (by assumption) hx2).symm
   refine ⟨(i+1:Nat),?_,?_,Wk.mk (fun k=>k) ?_ ?_ ?_⟩
   ·trivial
   ·omega
   ·exact (b2 (b2 (b2 (b2 (b2 (b2 bn))))))
   ·exact (b3 (b3 (b3 (bc ⟨(congrArg (fun l_=>some (Obj.rows 2 (List.map (Qd true) l_))) he3),(lb Y),rfl⟩ (b3 bn)))))
   ·exact nd Y
  refine sk (vinB.n (tn (VRun.region (fO (Qy (tv (tN i) Y) (VEv.int .i64 1) (by omega)) (mO (tN (i+1)) Y (VRunO.nil (tn ?_)))))))
  have he4:(clI a l tk i)=(clI a l tk (i+1)):=by exact (Qk1 hx1 (by assumption)).symm
  refine ⟨(i+1:Nat),?_,?_,Wk.mk (fun k=>k) ?_ ?_ ?_⟩
  ·trivial
  ·omega
  ·exact (b2 (b2 (b2 (b2 (b2 (b2 bn))))))
  ·exact (b3 (b3 (b3 (bc ⟨(congrArg (fun l_=>some (Obj.rows 2 (List.map (Qd true) l_))) he4),(lb Y),rfl⟩ (b3 bn)))))
  ·exact nd Y
 refine VRun.exit (vthn.e (vthn.e (vinB.e (tn (sr (lO (OL.loadOn (us:= [(tI a.Puzzle.Grid.Rows),(tI a.Puzzle.Grid.Cols),(tS a.Puzzle.Grid.Cells),(T.os 2 3 0 ((a.Puzzle.Clues.map (Qd true)).length)),(T.os 1 4 0 ((a.Puzzle.Seals.map (Qb true)).length)),(tI a.Puzzle.Salt)]) (tv (T.op 1 0) Y) Y Jn Yc (lb Y) Y) (cO (B.storeW (us:= [(tI a.Puzzle.Grid.Rows),(tI a.Puzzle.Grid.Cols),(tS a.Puzzle.Grid.Cells),(T.os 2 3 0 ((a.Puzzle.Clues.map (Qd true)).length)),(T.os 1 4 0 ((a.Puzzle.Seals.map (Qb true)).length)),(tI a.Puzzle.Salt)]) (tv (T.op 0 0) Y) (tv (T.agg [(tI a.Puzzle.Grid.Rows),(tI a.Puzzle.Grid.Cols),(tS a.Puzzle.Grid.Cells),(T.os 2 3 0 ((a.Puzzle.Clues.map (Qd true)).length)),(T.os 1 4 0 ((a.Puzzle.Seals.map (Qb true)).length)),(tI a.Puzzle.Salt)]) Y) nofun Y Y Y Qdl Yc (bc Y (bc Y (bc Y (bc Y (bc Y (bc Y bn))))))) (nt (rt ?_)))))))))
 refine vfin.eq (r':=(T.agg [(tI a.Puzzle.Grid.Rows),(tI a.Puzzle.Grid.Cols),(tS a.Puzzle.Grid.Cells),(T.sl true 2 ((clI a l tk i).map (Qd true))),(T.sl true 1 (a.Puzzle.Seals.map (Qb true))),(tI a.Puzzle.Salt)])) ?_ (vfin.r (VRes.celln (ws:= [(tI a.Puzzle.Grid.Rows),(tI a.Puzzle.Grid.Cols),(tS a.Puzzle.Grid.Cells),(T.os 2 3 0 ((a.Puzzle.Clues.map (Qd true)).length)),(T.os 1 4 0 ((a.Puzzle.Seals.map (Qb true)).length)),(tI a.Puzzle.Salt)]) Y Y Jn Yc (lb Y) Y VRes.nil) (Give.agg (GiveL.cons (Give.int _ _) (GiveL.cons (Give.int _ _) (GiveL.cons (Give.str _) (GiveL.cons (Give.os Y (by simp only [List.length_map,List.length_set,QdI]) (okeClue.cleanMap _)) (GiveL.cons (Give.os Y Y (okInt.cleanMap _)) (GiveL.cons (Give.int _ _) GiveL.nil (by decide)) (by decide)) (by decide)) (by decide)) (by decide)) (by decide))))
 rw [QdW hg,← Qm5 hg,← show i=a.Puzzle.Clues.length by omega];rfl
theorem Qbk (n:Nat) (a0:D.Issue) (a1:List D.Correction) (a2:Int) (g0:Qjx a0) (g1:(a1.length≤maxLen∧∀y∈a1,Qao y)) (g2:(Lit.int .i64 a2).wf=true):Pure (Qs Tryz.prog (n+47)) 5 [(T.agg (Qz false a0)),(rd 5 Qa a1),(tI a2)] (tB true):=by
 refine Pure.intro (rs:= [ResultVar.tmp 6]) Tryz.func5 Y Y Y (E0:= [(0,(T.agg (Qz false a0))),(1,(rd 5 Qa a1)),(2,(tI a2))]) Y ?_
 obtain ⟨hlim,hmx,hmax⟩:=QG
 have hl0_0:=QU (z:=QH) a0.Puzzle.Clues
 have hl0_1:=QU (z:=zI) a0.Puzzle.Seals
 have hl1:=QU (z:=Qn) a1
 have hx:=QmW a0 a1 a2
 have hm0:=Qfc 1 a0.Puzzle.Clues
 have hm1:=Qjq (Ql 1 a0.Puzzle.Clues+1*a0.Puzzle.Seals.length) a1
 have hd0:zL QH a0.Puzzle.Clues+zL zI a0.Puzzle.Seals≤Q5 a0:=by simp only [Q5,QK];omega
 have hm2:=Qfc 1 (Qf a0 a1 a2).Clues
 have hd1:zL QH (Qf a0 a1 a2).Clues+zL zI (Qf a0 a1 a2).Seals≤QK (Qf a0 a1 a2):=by simp only [QK];omega
 have hl9:=QU (z:=zI) (Qf a0 a1 a2).Seals
 refine sr (kO (B.box (ts:=(Qz false a0)) (tv (T.agg (Qz false a0)) Y) nofun Y) (fO (OF.assign (VEv.bool false)) (nt (sr (fO (OF.assign (VEv.int .i64 1048576)) (nt (sr (lO (OL.loadOn (us:=(Qz false a0)) (tv (T.op 0 0) Y) Y Ql3 Qk8 (lb Y) Y) (mO (tN 1048576) Y (cO (cS (vc (tv (T.agg (Qz false a0)) Y) (vc (tv (tN 1048576) Y) vn)) (LendL.cons (lg YT) (lp Y ln)) (QfP (n+40) a0 1048576 (by omega) (by omega) (by assumption)) Y Y) (aO (tI (Zs (Q5 a0) 1048576)) Y ?_)))))))))))
 refine nt (sq (sr (mO (tI (Zs (Q5 a0) 1048576)) Y (fO (xls (tv (tI (Zs (Q5 a0) 1048576)) Y) (VEv.int .i64 0)) (nt ?_)))))
 refine cd (Zs (Q5 a0) 1048576<0) Y (fun fhc0=> ?_) fun fhc0=> ?_
 ·refine sr ?_
  refine fO (OF.assign (VEv.bool true)) (nt (rt (tr ?_)))
  exact vb Y Y
 have hz0:=JP fhc0
 refine sk (tn (sr (mO (rd 5 Qa a1) Y (mO (tI (Zs (Q5 a0) 1048576)) Y (cO (cS (vc (tv (rd 5 Qa a1) Y) (vc (tv (tI (Zs (Q5 a0) 1048576)) Y) vn)) (ZO Y) (QbB (n+41) a1 (Zs (Q5 a0) 1048576) (by omega) (by omega) (by assumption)) Y Y) (aO (tI (Zs (zL Qn a1) (Zs (Q5 a0) 1048576))) Y (nt (sq (sr (mO (tI (Zs (zL Qn a1) (Zs (Q5 a0) 1048576))) Y (fO (xls (tv (tI (Zs (zL Qn a1) (Zs (Q5 a0) 1048576))) Y) (VEv.int .i64 0)) ?_)))))))))))
 refine nt ?_
 refine cd (Zs (zL Qn a1) (Zs (Q5 a0) 1048576)<0) Y (fun fhc1=> ?_) fun fhc1=> ?_
 ·refine sr ?_
  refine fO (OF.assign (VEv.bool true)) (nt (rt (tr ?_)))
  exact vb Y Y
 have hz1:=JP fhc1
 refine sk (tn (sr (lO (OL.loadOn (us:=(Qz false a0)) (tv (T.op 0 0) Y) Y Ql3 Qk8 (lb Y) Y) (cO (OC.callF (r':=(T.agg [(tI a0.Number),(tI a0.Puzzle.Grid.Rows),(tI a0.Puzzle.Grid.Cols),(tS a0.Puzzle.Grid.Cells),(T.os 2 1 0 ((a0.Puzzle.Clues.map (Qd true)).length)),(T.os 1 2 0 ((a0.Puzzle.Seals.map (Qb true)).length)),(tI a0.Puzzle.Salt),(tS a0.Fill),(tI a0.Open),(tI a0.Close)])) (objs:= [(Obj.rows 2 (a0.Puzzle.Clues.map (Qd true))),(Obj.rows 1 (a0.Puzzle.Seals.map (Qb true)))]) Y (vc (tv (T.agg (Qz false a0)) Y) vn) (LendL.cons (lg YT) ln) (Jf (n+40) a0 (by omega)) Y) (mO (rd 5 Qa a1) Y (cO (OC.callF (r':=(T.os 5 3 0 ((a1.map (Qa true)).length))) (objs:= [(Obj.rows 5 (a1.map (Qa true)))]) Y (vc (tv (rd 5 Qa a1) Y) vn) (ZO Y) (Z3 (n+41) a1 (by omega)) Y) (mO (tI a2) Y (cO (OC.callF (us:= [(T.agg (Qz false a0)),(rd 5 Qa a1),(tI a2)]) (r':=(T.agg [(tI ((Qf a0 a1 a2).Grid.Rows)),(tI ((Qf a0 a1 a2).Grid.Cols)),(tS ((Qf a0 a1 a2).Grid.Cells)),(T.os 2 4 0 ((((Qf a0 a1 a2).Clues).map (Qd true)).length)),(T.os 1 5 0 ((((Qf a0 a1 a2).Seals).map (Qb true)).length)),(tI ((Qf a0 a1 a2).Salt))])) (objs:= [(Obj.rows 2 (((Qf a0 a1 a2).Clues).map (Qd true))),(Obj.rows 1 (((Qf a0 a1 a2).Seals).map (Qb true)))]) Y (vc (tv (T.agg [(tI a0.Number),(tI a0.Puzzle.Grid.Rows),(tI a0.Puzzle.Grid.Cols),(tS a0.Puzzle.Grid.Cells),(T.os 2 1 0 ((a0.Puzzle.Clues.map (Qd true)).length)),(T.os 1 2 0 ((a0.Puzzle.Seals.map (Qb true)).length)),(tI a0.Puzzle.Salt),(tS a0.Fill),(tI a0.Open),(tI a0.Close)]) Y) (vc (tv (T.os 5 3 0 ((a1.map (Qa true)).length)) Y) (vc (tv (tI a2) Y) vn))) (LendL.cons (Lend.agg (LendL.cons (Lend.pl Y) (LendL.cons (Lend.pl Y) (LendL.cons (Lend.pl Y) (LendL.cons (Lend.pl Y) (LendL.cons (Lend.os Y Y (okeClue.fzMap _ _)) (LendL.cons (Lend.os Y Y (okInt.fzMap _ _)) (LendL.cons (Lend.pl Y) (LendL.cons (Lend.pl Y) (LendL.cons (Lend.pl Y) (LendL.cons (Lend.pl Y) ln))))))))))) (LendL.cons (Lend.os Y Y (okeCorrection.fzMap _ _)) (lp Y ln))) (QeH (n+33) a0 a1 a2 (by omega) (by omega)) Y) (kO (B.alloc (t:=(T.agg [(tN 0),(tN 0),(tS ByteArray.empty),T.nils,T.nils,(tN 0)])) (ts:= [(tN 0),(tN 0),(tS ByteArray.empty),T.nils,T.nils,(tN 0)]) Qc0 Qf4 nofun (fun _=> .agg _ _ Y (Yf (RL.cons (.int _ _) (RL.cons (.int _ _) (RL.cons (.str _) (RL.cons (.nils) (RL.cons (.nils) (RL.cons (.int _ _) (RL.nil _))))))))) Y) (cO (B.storeW (us:= [(tI ((Qf a0 a1 a2).Grid.Rows)),(tI ((Qf a0 a1 a2).Grid.Cols)),(tS ((Qf a0 a1 a2).Grid.Cells)),(T.os 2 4 0 ((((Qf a0 a1 a2).Clues).map (Qd true)).length)),(T.os 1 5 0 ((((Qf a0 a1 a2).Seals).map (Qb true)).length)),(tI ((Qf a0 a1 a2).Salt))]) (tv (T.op 6 0) Y) (tv (T.agg [(tI ((Qf a0 a1 a2).Grid.Rows)),(tI ((Qf a0 a1 a2).Grid.Cols)),(tS ((Qf a0 a1 a2).Grid.Cells)),(T.os 2 4 0 ((((Qf a0 a1 a2).Clues).map (Qd true)).length)),(T.os 1 5 0 ((((Qf a0 a1 a2).Seals).map (Qb true)).length)),(tI ((Qf a0 a1 a2).Salt))]) Y) nofun Y Y Y Qdl Yc (bc Y (bc Y (bc Y (bc Y (bc Y (bc Y bn))))))) ?_))))))))))
 refine nt (sr (lO (OL.loadOn (us:=(Qz false a0)) (tv (T.op 0 0) Y) Y Ql3 Qk8 (lb Y) Y) (cO (OC.callF (r':=(T.agg [(tI a0.Number),(tI a0.Puzzle.Grid.Rows),(tI a0.Puzzle.Grid.Cols),(tS a0.Puzzle.Grid.Cells),(T.os 2 7 0 ((a0.Puzzle.Clues.map (Qd true)).length)),(T.os 1 8 0 ((a0.Puzzle.Seals.map (Qb true)).length)),(tI a0.Puzzle.Salt),(tS a0.Fill),(tI a0.Open),(tI a0.Close)])) (objs:= [(Obj.rows 2 (a0.Puzzle.Clues.map (Qd true))),(Obj.rows 1 (a0.Puzzle.Seals.map (Qb true)))]) Y (vc (tv (T.agg (Qz false a0)) Y) vn) (LendL.cons (lg YT) ln) (Jf (n+40) a0 (by omega)) Y) (kO (B.alloc (t:=(T.agg [(tN 0),(tN 0),(tN 0),(tS ByteArray.empty),T.nils,T.nils,(tN 0),(tS ByteArray.empty),(tN 0),(tN 0)])) (ts:= [(tN 0),(tN 0),(tN 0),(tS ByteArray.empty),T.nils,T.nils,(tN 0),(tS ByteArray.empty),(tN 0),(tN 0)]) Qn1 QnZ nofun (fun _=> .agg _ _ Y (Yf (RL.cons (.int _ _) (RL.cons (.int _ _) (RL.cons (.int _ _) (RL.cons (.str _) (RL.cons (.nils) (RL.cons (.nils) (RL.cons (.int _ _) (RL.cons (.str _) (RL.cons (.int _ _) (RL.cons (.int _ _) (RL.nil _))))))))))))) Y) (cO (B.storeW (us:= [(tI a0.Number),(tI a0.Puzzle.Grid.Rows),(tI a0.Puzzle.Grid.Cols),(tS a0.Puzzle.Grid.Cells),(T.os 2 7 0 ((a0.Puzzle.Clues.map (Qd true)).length)),(T.os 1 8 0 ((a0.Puzzle.Seals.map (Qb true)).length)),(tI a0.Puzzle.Salt),(tS a0.Fill),(tI a0.Open),(tI a0.Close)]) (tv (T.op 9 0) Y) (tv (T.agg [(tI a0.Number),(tI a0.Puzzle.Grid.Rows),(tI a0.Puzzle.Grid.Cols),(tS a0.Puzzle.Grid.Cells),(T.os 2 7 0 ((a0.Puzzle.Clues.map (Qd true)).length)),(T.os 1 8 0 ((a0.Puzzle.Seals.map (Qb true)).length)),(tI a0.Puzzle.Salt),(tS a0.Fill),(tI a0.Open),(tI a0.Close)]) Y) nofun Y Y Y Qoy QeR (bc Y (bc Y (bc Y (bc Y (bc Y (bc Y (bc Y (bc Y (bc Y (bc Y bn))))))))))) (nt (sr (mO (rd 5 Qa a1) Y (cO (OC.callF (r':=(T.os 5 10 0 ((a1.map (Qa true)).length))) (objs:= [(Obj.rows 5 (a1.map (Qa true)))]) Y (vc (tv (rd 5 Qa a1) Y) vn) (ZO Y) (Z3 (n+41) a1 (by omega)) Y) (aO (T.os 5 10 0 ((a1.map (Qa true)).length)) Y (nt ?_)))))))))))
 refine sr (lO (OL.loadOn (us:= [(tI a0.Number),(tI a0.Puzzle.Grid.Rows),(tI a0.Puzzle.Grid.Cols),(tS a0.Puzzle.Grid.Cells),(T.os 2 7 0 ((a0.Puzzle.Clues.map (Qd true)).length)),(T.os 1 8 0 ((a0.Puzzle.Seals.map (Qb true)).length)),(tI a0.Puzzle.Salt),(tS a0.Fill),(tI a0.Open),(tI a0.Close)]) (tv (T.op 9 0) Y) Y Qgg QeR (lb Y) Y) (mO (T.os 5 10 0 ((a1.map (Qa true)).length)) Y (mO (tI a2) Y (cO (OC.callF (us:= [(T.agg (Qz false a0)),(rd 5 Qa a1),(tI a2)]) (r':=(T.agg [(tI ((Qf a0 a1 a2).Grid.Rows)),(tI ((Qf a0 a1 a2).Grid.Cols)),(tS ((Qf a0 a1 a2).Grid.Cells)),(T.os 2 11 0 ((((Qf a0 a1 a2).Clues).map (Qd true)).length)),(T.os 1 12 0 ((((Qf a0 a1 a2).Seals).map (Qb true)).length)),(tI ((Qf a0 a1 a2).Salt))])) (objs:= [(Obj.rows 2 (((Qf a0 a1 a2).Clues).map (Qd true))),(Obj.rows 1 (((Qf a0 a1 a2).Seals).map (Qb true)))]) Y (vc (tv (T.agg [(tI a0.Number),(tI a0.Puzzle.Grid.Rows),(tI a0.Puzzle.Grid.Cols),(tS a0.Puzzle.Grid.Cells),(T.os 2 7 0 ((a0.Puzzle.Clues.map (Qd true)).length)),(T.os 1 8 0 ((a0.Puzzle.Seals.map (Qb true)).length)),(tI a0.Puzzle.Salt),(tS a0.Fill),(tI a0.Open),(tI a0.Close)]) Y) (vc (tv (T.os 5 10 0 ((a1.map (Qa true)).length)) Y) (vc (tv (tI a2) Y) vn))) (LendL.cons (Lend.agg (LendL.cons (Lend.pl Y) (LendL.cons (Lend.pl Y) (LendL.cons (Lend.pl Y) (LendL.cons (Lend.pl Y) (LendL.cons (Lend.os Y Y (okeClue.fzMap _ _)) (LendL.cons (Lend.os Y Y (okInt.fzMap _ _)) (LendL.cons (Lend.pl Y) (LendL.cons (Lend.pl Y) (LendL.cons (Lend.pl Y) (LendL.cons (Lend.pl Y) ln))))))))))) (LendL.cons (Lend.os Y Y (okeCorrection.fzMap _ _)) (lp Y ln))) (Qbr (n+0) a0 a1 a2 (by omega) (by omega)) Y) (kO (B.alloc (t:=(T.agg [(tN 0),(tN 0),(tS ByteArray.empty),T.nils,T.nils,(tN 0)])) (ts:= [(tN 0),(tN 0),(tS ByteArray.empty),T.nils,T.nils,(tN 0)]) Qc0 Qf4 nofun (fun _=> .agg _ _ Y (Yf (RL.cons (.int _ _) (RL.cons (.int _ _) (RL.cons (.str _) (RL.cons (.nils) (RL.cons (.nils) (RL.cons (.int _ _) (RL.nil _))))))))) Y) (cO (B.storeW (us:= [(tI ((Qf a0 a1 a2).Grid.Rows)),(tI ((Qf a0 a1 a2).Grid.Cols)),(tS ((Qf a0 a1 a2).Grid.Cells)),(T.os 2 11 0 ((((Qf a0 a1 a2).Clues).map (Qd true)).length)),(T.os 1 12 0 ((((Qf a0 a1 a2).Seals).map (Qb true)).length)),(tI ((Qf a0 a1 a2).Salt))]) (tv (T.op 13 0) Y) (tv (T.agg [(tI ((Qf a0 a1 a2).Grid.Rows)),(tI ((Qf a0 a1 a2).Grid.Cols)),(tS ((Qf a0 a1 a2).Grid.Cells)),(T.os 2 11 0 ((((Qf a0 a1 a2).Clues).map (Qd true)).length)),(T.os 1 12 0 ((((Qf a0 a1 a2).Seals).map (Qb true)).length)),(tI ((Qf a0 a1 a2).Salt))]) Y) nofun Y Y Y Qdl Yc (bc Y (bc Y (bc Y (bc Y (bc Y (bc Y bn))))))) (nt (sq (sr (lO (OL.loadOn (us:= [(tI ((Qf a0 a1 a2).Grid.Rows)),(tI ((Qf a0 a1 a2).Grid.Cols)),(tS ((Qf a0 a1 a2).Grid.Cells)),(T.os 2 11 0 ((((Qf a0 a1 a2).Clues).map (Qd true)).length)),(T.os 1 12 0 ((((Qf a0 a1 a2).Seals).map (Qb true)).length)),(tI ((Qf a0 a1 a2).Salt))]) (tv (T.op 13 0) Y) Y Jn Yc (lb Y) Y) ?_))))))))))
 refine lO (OL.loadOn (us:= [(tI ((Qf a0 a1 a2).Grid.Rows)),(tI ((Qf a0 a1 a2).Grid.Cols)),(tS ((Qf a0 a1 a2).Grid.Cells)),(T.os 2 4 0 ((((Qf a0 a1 a2).Clues).map (Qd true)).length)),(T.os 1 5 0 ((((Qf a0 a1 a2).Seals).map (Qb true)).length)),(tI ((Qf a0 a1 a2).Salt))]) (tv (T.op 6 0) Y) Y Jn Yc (lb Y) Y) (cO (cS (us:= [(T.agg (Qv false (Qf a0 a1 a2))),(T.agg (Qv false (Qf a0 a1 a2)))]) (vc (tv (T.agg [(tI ((Qf a0 a1 a2).Grid.Rows)),(tI ((Qf a0 a1 a2).Grid.Cols)),(tS ((Qf a0 a1 a2).Grid.Cells)),(T.os 2 11 0 ((((Qf a0 a1 a2).Clues).map (Qd true)).length)),(T.os 1 12 0 ((((Qf a0 a1 a2).Seals).map (Qb true)).length)),(tI ((Qf a0 a1 a2).Salt))]) Y) (vc (tv (T.agg [(tI ((Qf a0 a1 a2).Grid.Rows)),(tI ((Qf a0 a1 a2).Grid.Cols)),(tS ((Qf a0 a1 a2).Grid.Cells)),(T.os 2 4 0 ((((Qf a0 a1 a2).Clues).map (Qd true)).length)),(T.os 1 5 0 ((((Qf a0 a1 a2).Seals).map (Qb true)).length)),(tI ((Qf a0 a1 a2).Salt))]) Y) vn)) (LendL.cons (Lend.agg (LendL.cons (Lend.pl Y) (LendL.cons (Lend.pl Y) (LendL.cons (Lend.pl Y) (LendL.cons (Lend.os Y Y (okeClue.fzMap _ _)) (LendL.cons (Lend.os Y Y (okInt.fzMap _ _)) (LendL.cons (Lend.pl Y) ln))))))) (LendL.cons (Lend.agg (LendL.cons (Lend.pl Y) (LendL.cons (Lend.pl Y) (LendL.cons (Lend.pl Y) (LendL.cons (Lend.os Y Y (okeClue.fzMap _ _)) (LendL.cons (Lend.os Y Y (okInt.fzMap _ _)) (LendL.cons (Lend.pl Y) ln))))))) ln)) (YX (n+41) (Qf a0 a1 a2) (Qf a0 a1 a2) (by omega) (by omega)) Y Y) (fO (Q1 (tv (tB (decide ((Qf a0 a1 a2)=(Qf a0 a1 a2)))) Y)) (nt ?_)))
 refine cn ((Qf a0 a1 a2)=(Qf a0 a1 a2)) Y (fun fhc2=> ?_) fun fhc2=> ?_
 ·refine sr ?_
  refine fO (OF.assign (VEv.bool false)) (nt (rt (tr (vb (b':=false) Y ?_))))
  (exfalso;simp only [ZE,ZF,not_true_eq_false] at *;done)
 skip
 refine sk (tn (sq (sq (VRun.draw (B:= [[],[],[1],[1,2,0],[0,2,1,3]]) (by kernel_rfl) (by kernel_rfl) (lD (OL.loadOn (us:= [(tI a0.Number),(tI a0.Puzzle.Grid.Rows),(tI a0.Puzzle.Grid.Cols),(tS a0.Puzzle.Grid.Cells),(T.os 2 7 0 ((a0.Puzzle.Clues.map (Qd true)).length)),(T.os 1 8 0 ((a0.Puzzle.Seals.map (Qb true)).length)),(tI a0.Puzzle.Salt),(tS a0.Fill),(tI a0.Open),(tI a0.Close)]) (tv (T.op 9 0) Y) Y Qgg QeR (lb Y) Y) Y Y (lD (OL.loadOn (us:=(Qz false a0)) (tv (T.op 0 0) Y) Y Ql3 Qk8 (lb Y) Y) Y Y (VRunD.quiet (bi:= [1]) Y VWant.always Y Y Y bn (OC.callF (r':=(T.agg [(tI a0.Number),(tI a0.Puzzle.Grid.Rows),(tI a0.Puzzle.Grid.Cols),(tS a0.Puzzle.Grid.Cells),(T.os 2 14 0 ((a0.Puzzle.Clues.map (Qd true)).length)),(T.os 1 15 0 ((a0.Puzzle.Seals.map (Qb true)).length)),(tI a0.Puzzle.Salt),(tS a0.Fill),(tI a0.Open),(tI a0.Close)])) (objs:= [(Obj.rows 2 (a0.Puzzle.Clues.map (Qd true))),(Obj.rows 1 (a0.Puzzle.Seals.map (Qb true)))]) Y (vc (tv (T.agg (Qz false a0)) Y) vn) (LendL.cons (lg YT) ln) (Jf (n+40) a0 (by omega)) Y) (VRunD.quiet (bi:= [1,2,0]) Y VWant.always Y Y Y bn (cS (us:= [(T.agg (Qz false a0)),(T.agg (Qz false a0))]) (vc (tv (T.agg [(tI a0.Number),(tI a0.Puzzle.Grid.Rows),(tI a0.Puzzle.Grid.Cols),(tS a0.Puzzle.Grid.Cells),(T.os 2 7 0 ((a0.Puzzle.Clues.map (Qd true)).length)),(T.os 1 8 0 ((a0.Puzzle.Seals.map (Qb true)).length)),(tI a0.Puzzle.Salt),(tS a0.Fill),(tI a0.Open),(tI a0.Close)]) Y) (vc (tv (T.agg [(tI a0.Number),(tI a0.Puzzle.Grid.Rows),(tI a0.Puzzle.Grid.Cols),(tS a0.Puzzle.Grid.Cells),(T.os 2 14 0 ((a0.Puzzle.Clues.map (Qd true)).length)),(T.os 1 15 0 ((a0.Puzzle.Seals.map (Qb true)).length)),(tI a0.Puzzle.Salt),(tS a0.Fill),(tI a0.Open),(tI a0.Close)]) Y) vn)) (LendL.cons (Lend.agg (LendL.cons (Lend.pl Y) (LendL.cons (Lend.pl Y) (LendL.cons (Lend.pl Y) (LendL.cons (Lend.pl Y) (LendL.cons (Lend.os Y Y (okeClue.fzMap _ _)) (LendL.cons (Lend.os Y Y (okInt.fzMap _ _)) (LendL.cons (Lend.pl Y) (LendL.cons (Lend.pl Y) (LendL.cons (Lend.pl Y) (LendL.cons (Lend.pl Y) ln))))))))))) (LendL.cons (Lend.agg (LendL.cons (Lend.pl Y) (LendL.cons (Lend.pl Y) (LendL.cons (Lend.pl Y) (LendL.cons (Lend.pl Y) (LendL.cons (Lend.os Y Y (okeClue.fzMap _ _)) (LendL.cons (Lend.os Y Y (okInt.fzMap _ _)) (LendL.cons (Lend.pl Y) (LendL.cons (Lend.pl Y) (LendL.cons (Lend.pl Y) (LendL.cons (Lend.pl Y) ln))))))))))) ln)) (QfD (n+40) a0 a0 (by omega) (by omega)) Y Y) (fD (Q1 (tv (tB (decide (a0=a0))) Y)) Y Y (VRunD.nil (tn ?_)))))))))))
 refine cn (a0=a0) Y (fun fhc3=> ?_) fun fhc3=> ?_
 ·refine sr ?_
  refine fO (OF.assign (VEv.bool false)) (nt (rt (tr (vb (b':=false) Y ?_))))
  (exfalso;simp only [ZE,ZF,not_true_eq_false] at *;done)
 skip
 refine sk (tn (sq (sr (mO (T.os 5 10 0 ((a1.map (Qa true)).length)) Y (mO (rd 5 Qa a1) Y (cO (OC.callF (r':=(T.os 5 16 0 ((a1.map (Qa true)).length))) (objs:= [(Obj.rows 5 (a1.map (Qa true)))]) Y (vc (tv (rd 5 Qa a1) Y) vn) (ZO Y) (Z3 (n+41) a1 (by omega)) Y) (cO (cS (us:= [(rd 5 Qa a1),(rd 5 Qa a1)]) (vc (tv (T.os 5 10 0 ((a1.map (Qa true)).length)) Y) (vc (tv (T.os 5 16 0 ((a1.map (Qa true)).length)) Y) vn)) (LendL.cons (Lend.os Y Y (okeCorrection.fzMap _ _)) (LendL.cons (Lend.os Y Y (okeCorrection.fzMap _ _)) ln)) (QbR (n+41) a1 a1 (by omega) (by omega)) Y Y) (fO (Q1 (tv (tB (decide (a1=a1))) Y)) (nt ?_)))))))))
 refine cn (a1=a1) Y (fun fhc4=> ?_) fun fhc4=> ?_
 ·refine sr ?_
  refine fO (OF.assign (VEv.bool false)) (nt (rt (tr (vb (b':=false) Y ?_))))
  (exfalso;simp only [ZE,ZF,not_true_eq_false] at *;done)
 skip
 refine sk (tn (sr (fO (OF.assign (VEv.int .i64 1)) (nt (sr (lO (OL.loadOn (us:= [(tI a0.Number),(tI a0.Puzzle.Grid.Rows),(tI a0.Puzzle.Grid.Cols),(tS a0.Puzzle.Grid.Cells),(T.os 2 7 0 ((a0.Puzzle.Clues.map (Qd true)).length)),(T.os 1 8 0 ((a0.Puzzle.Seals.map (Qb true)).length)),(tI a0.Puzzle.Salt),(tS a0.Fill),(tI a0.Open),(tI a0.Close)]) (tv (T.op 9 0) Y) Y Qgg QeR (lb Y) Y) (mO (tN 1) Y (cO (OC.callL (ts:= [(T.agg [(tI a0.Number),(tI a0.Puzzle.Grid.Rows),(tI a0.Puzzle.Grid.Cols),(tS a0.Puzzle.Grid.Cells),(T.os 2 0 0 ((a0.Puzzle.Clues.map (Qd true)).length)),(T.os 1 1 0 ((a0.Puzzle.Seals.map (Qb true)).length)),(tI a0.Puzzle.Salt),(tS a0.Fill),(tI a0.Open),(tI a0.Close)]),(tN 1)]) [7,8] (r:=(tN (Ql 1 a0.Puzzle.Clues+1*a0.Puzzle.Seals.length))) (L:= [(2,(a0.Puzzle.Clues.map (Qd true))),(1,(a0.Puzzle.Seals.map (Qb true)))]) [(2,((QI 1 a0.Puzzle.Clues).map (Qd true))),(1,((YH Zl 1 (Ql 1 a0.Puzzle.Clues) a0.Puzzle.Seals.length).map (Qb true)))] [(Obj.rows 2 (a0.Puzzle.Clues.map (Qd true))),(Obj.rows 1 (a0.Puzzle.Seals.map (Qb true)))] rfl (vc (tv (T.agg [(tI a0.Number),(tI a0.Puzzle.Grid.Rows),(tI a0.Puzzle.Grid.Cols),(tS a0.Puzzle.Grid.Cells),(T.os 2 7 0 ((a0.Puzzle.Clues.map (Qd true)).length)),(T.os 1 8 0 ((a0.Puzzle.Seals.map (Qb true)).length)),(tI a0.Puzzle.Salt),(tS a0.Fill),(tI a0.Open),(tI a0.Close)]) Y) (vc (tv (tN 1) Y) vn)) (by decide) Y (And.intro (And.intro Y Y) (And.intro (And.intro Y Y) (trivial))) (bc (okeClue.cleanMap _) (bc (okInt.cleanMap _) bn)) (bc (okeClue.cleanMap _) (bc (okInt.cleanMap _) bn)) Y Y (.int _ _) (QdR (n+41) a0 1 (by omega))) (aO (tN (Ql 1 a0.Puzzle.Clues+1*a0.Puzzle.Seals.length)) Y (nt (sr ?_)))))))))))
 refine mO (T.os 5 10 0 ((a1.map (Qa true)).length)) Y (mO (tN (Ql 1 a0.Puzzle.Clues+1*a0.Puzzle.Seals.length)) Y (cO (OC.callL (ts:= [(T.os 5 0 0 ((a1.map (Qa true)).length)),(tN (Ql 1 a0.Puzzle.Clues+1*a0.Puzzle.Seals.length))]) [10] (r:=(tN (Yz (Ql 1 a0.Puzzle.Clues+1*a0.Puzzle.Seals.length) a1))) (L:= [(5,(a1.map (Qa true)))]) [(5,((Qdg (Ql 1 a0.Puzzle.Clues+1*a0.Puzzle.Seals.length) a1).map (Qa true)))] [(Obj.rows 5 (a1.map (Qa true)))] rfl (vc (tv (T.os 5 10 0 ((a1.map (Qa true)).length)) Y) (vc (tv (tN (Ql 1 a0.Puzzle.Clues+1*a0.Puzzle.Seals.length)) Y) vn)) (by decide) Y (And.intro (And.intro Y Y) (trivial)) (bc (okeCorrection.cleanMap _) bn) (bc (okeCorrection.cleanMap _) bn) Y Y (.int _ _) (Qbj (n+43) a1 (Ql 1 a0.Puzzle.Clues+1*a0.Puzzle.Seals.length) (by omega))) (aO (tN (Yz (Ql 1 a0.Puzzle.Clues+1*a0.Puzzle.Seals.length) a1)) Y (nt (sq (sr (mO (tN (Yz (Ql 1 a0.Puzzle.Clues+1*a0.Puzzle.Seals.length) a1)) Y (fO (B.lss (c:=(decide (Yz (Ql 1 a0.Puzzle.Clues+1*a0.Puzzle.Seals.length) a1<0))) (tv (tN (Yz (Ql 1 a0.Puzzle.Clues+1*a0.Puzzle.Seals.length) a1)) Y) (VEv.int .i64 0) (by exact Q6 (by omega))) (mO (tB (decide (Yz (Ql 1 a0.Puzzle.Clues+1*a0.Puzzle.Seals.length) a1<0))) Y ?_)))))))))
 refine gw (Yz (Ql 1 a0.Puzzle.Clues+1*a0.Puzzle.Seals.length) a1<0) (fun fhg62_1=> ?_) fun fhg62_1=> ?_
 ·refine QE 4 2 false 62 (dy fhg62_1) Y Y Y ?_
  refine fO (OF.pickT (VEv.tmpB Y (dy fhg62_1)) (VEv.bool true)) (nt (ct Y (sr (fO (OF.assign (VEv.bool false)) (nt (rt (tr (vb (b':=false) Y ?_))))))))
  (exfalso;simp only [ZE,ZF] at* <;>omega)
 refine gL (dz fhg62_1) Y Y (OL.loadOn (us:= [(tI ((Qf a0 a1 a2).Grid.Rows)),(tI ((Qf a0 a1 a2).Grid.Cols)),(tS ((Qf a0 a1 a2).Grid.Cells)),(T.os 2 11 0 ((((Qf a0 a1 a2).Clues).map (Qd true)).length)),(T.os 1 12 0 ((((Qf a0 a1 a2).Seals).map (Qb true)).length)),(tI ((Qf a0 a1 a2).Salt))]) (tv (T.op 13 0) Y) Y Jn Yc (lb Y) Y) (gL (dz fhg62_1) Y Y (OL.loadOn (us:= [(tI ((Qf a0 a1 a2).Grid.Rows)),(tI ((Qf a0 a1 a2).Grid.Cols)),(tS ((Qf a0 a1 a2).Grid.Cells)),(T.os 2 4 0 ((((Qf a0 a1 a2).Clues).map (Qd true)).length)),(T.os 1 5 0 ((((Qf a0 a1 a2).Seals).map (Qb true)).length)),(tI ((Qf a0 a1 a2).Salt))]) (tv (T.op 6 0) Y) Y Jn Yc (lb Y) Y) (VRunO.chain (VWant.on Y Y (dz fhg62_1)) (cS (us:= [(T.agg (Qv false (Qf a0 a1 a2))),(T.agg (Qv false (Qf a0 a1 a2)))]) (vc (tv (T.agg [(tI ((Qf a0 a1 a2).Grid.Rows)),(tI ((Qf a0 a1 a2).Grid.Cols)),(tS ((Qf a0 a1 a2).Grid.Cells)),(T.os 2 11 0 ((((Qf a0 a1 a2).Clues).map (Qd true)).length)),(T.os 1 12 0 ((((Qf a0 a1 a2).Seals).map (Qb true)).length)),(tI ((Qf a0 a1 a2).Salt))]) Y) (vc (tv (T.agg [(tI ((Qf a0 a1 a2).Grid.Rows)),(tI ((Qf a0 a1 a2).Grid.Cols)),(tS ((Qf a0 a1 a2).Grid.Cells)),(T.os 2 4 0 ((((Qf a0 a1 a2).Clues).map (Qd true)).length)),(T.os 1 5 0 ((((Qf a0 a1 a2).Seals).map (Qb true)).length)),(tI ((Qf a0 a1 a2).Salt))]) Y) vn)) (LendL.cons (Lend.agg (LendL.cons (Lend.pl Y) (LendL.cons (Lend.pl Y) (LendL.cons (Lend.pl Y) (LendL.cons (Lend.os Y Y (okeClue.fzMap _ _)) (LendL.cons (Lend.os Y Y (okInt.fzMap _ _)) (LendL.cons (Lend.pl Y) ln))))))) (LendL.cons (Lend.agg (LendL.cons (Lend.pl Y) (LendL.cons (Lend.pl Y) (LendL.cons (Lend.pl Y) (LendL.cons (Lend.os Y Y (okeClue.fzMap _ _)) (LendL.cons (Lend.os Y Y (okInt.fzMap _ _)) (LendL.cons (Lend.pl Y) ln))))))) ln)) (YX (n+41) (Qf a0 a1 a2) (Qf a0 a1 a2) (by omega) (by omega)) Y Y) (gF (dz fhg62_1) Y Y (Q1 (tv (tB (decide ((Qf a0 a1 a2)=(Qf a0 a1 a2)))) Y)) (fO (OF.pickF (VEv.tmpB Y (dz fhg62_1)) (tv (tB (!(decide ((Qf a0 a1 a2)=(Qf a0 a1 a2))))) Y)) (nt (cg (nz fhc2) Y (sk (tn (sr (fO (OF.assign (VEv.int .i64 1)) (nt ?_)))))))))))
 refine sr (lO (OL.loadOn (us:= [(tI ((Qf a0 a1 a2).Grid.Rows)),(tI ((Qf a0 a1 a2).Grid.Cols)),(tS ((Qf a0 a1 a2).Grid.Cells)),(T.os 2 11 0 ((((Qf a0 a1 a2).Clues).map (Qd true)).length)),(T.os 1 12 0 ((((Qf a0 a1 a2).Seals).map (Qb true)).length)),(tI ((Qf a0 a1 a2).Salt))]) (tv (T.op 13 0) Y) Y Jn Yc (lb Y) Y) (mO (tN 1) Y (cO (OC.callL (ts:= [(T.agg [(tI ((Qf a0 a1 a2).Grid.Rows)),(tI ((Qf a0 a1 a2).Grid.Cols)),(tS ((Qf a0 a1 a2).Grid.Cells)),(T.os 2 0 0 ((((Qf a0 a1 a2).Clues).map (Qd true)).length)),(T.os 1 1 0 ((((Qf a0 a1 a2).Seals).map (Qb true)).length)),(tI ((Qf a0 a1 a2).Salt))]),(tN 1)]) [11,12] (r:=(tN (Ql 1 ((Qf a0 a1 a2).Clues)+1*((Qf a0 a1 a2).Seals).length))) (L:= [(2,(((Qf a0 a1 a2).Clues).map (Qd true))),(1,(((Qf a0 a1 a2).Seals).map (Qb true)))]) [(2,((QI 1 ((Qf a0 a1 a2).Clues)).map (Qd true))),(1,((YH Zl 1 (Ql 1 ((Qf a0 a1 a2).Clues)) ((Qf a0 a1 a2).Seals).length).map (Qb true)))] [(Obj.rows 2 (((Qf a0 a1 a2).Clues).map (Qd true))),(Obj.rows 1 (((Qf a0 a1 a2).Seals).map (Qb true)))] rfl (vc (tv (T.agg [(tI ((Qf a0 a1 a2).Grid.Rows)),(tI ((Qf a0 a1 a2).Grid.Cols)),(tS ((Qf a0 a1 a2).Grid.Cells)),(T.os 2 11 0 ((((Qf a0 a1 a2).Clues).map (Qd true)).length)),(T.os 1 12 0 ((((Qf a0 a1 a2).Seals).map (Qb true)).length)),(tI ((Qf a0 a1 a2).Salt))]) Y) (vc (tv (tN 1) Y) vn)) (by decide) Y (And.intro (And.intro Y Y) (And.intro (And.intro Y Y) (trivial))) (bc (okeClue.cleanMap _) (bc (okInt.cleanMap _) bn)) (bc (okeClue.cleanMap _) (bc (okInt.cleanMap _) bn)) Y Y (.int _ _) (Qax (n+42) (Qf a0 a1 a2) 1 (by omega))) (aO (tN (Ql 1 ((Qf a0 a1 a2).Clues)+1*((Qf a0 a1 a2).Seals).length)) Y (nt (sr (fO (OF.assign (VEv.int .i64 1)) (nt (sr (lO (OL.loadOn (us:= [(tI ((Qf a0 a1 a2).Grid.Rows)),(tI ((Qf a0 a1 a2).Grid.Cols)),(tS ((Qf a0 a1 a2).Grid.Cells)),(T.os 2 11 0 ((((Qf a0 a1 a2).Clues).map (Qd true)).length)),(T.os 1 12 0 ((((Qf a0 a1 a2).Seals).map (Qb true)).length)),(tI ((Qf a0 a1 a2).Salt))]) (tv (T.op 13 0) Y) Y Jn Yc (lb Y) Y) (mO (tN 1) Y ?_)))))))))))
 refine cO (cS (us:= [(T.agg [(tI ((Qf a0 a1 a2).Grid.Rows)),(tI ((Qf a0 a1 a2).Grid.Cols)),(tS ((Qf a0 a1 a2).Grid.Cells)),(rd 2 Qd (QI 1 ((Qf a0 a1 a2).Clues))),(rd 1 Qb (YH Zl 1 (Ql 1 ((Qf a0 a1 a2).Clues)) ((Qf a0 a1 a2).Seals).length)),(tI ((Qf a0 a1 a2).Salt))]),(tN 1)]) (vc (tv (T.agg [(tI ((Qf a0 a1 a2).Grid.Rows)),(tI ((Qf a0 a1 a2).Grid.Cols)),(tS ((Qf a0 a1 a2).Grid.Cells)),(T.os 2 11 0 ((((Qf a0 a1 a2).Clues).map (Qd true)).length)),(T.os 1 12 0 ((((Qf a0 a1 a2).Seals).map (Qb true)).length)),(tI ((Qf a0 a1 a2).Salt))]) Y) (vc (tv (tN 1) Y) vn)) (LendL.cons (Lend.agg (LendL.cons (Lend.pl Y) (LendL.cons (Lend.pl Y) (LendL.cons (Lend.pl Y) (LendL.cons (Lend.os Y (by simp only [List.length_map,Yl,List.length_set,Qal,Qau]) (okeClue.fzMap _ _)) (LendL.cons (Lend.os Y (by simp only [List.length_map,Yl,List.length_set,Qal,Qau]) (okInt.fzMap _ _)) (LendL.cons (Lend.pl Y) ln))))))) (lp Y ln)) (Qam (n+42) (D.Puzzle.mk ((Qf a0 a1 a2).Grid) (QI 1 ((Qf a0 a1 a2).Clues)) (YH Zl 1 (Ql 1 ((Qf a0 a1 a2).Clues)) ((Qf a0 a1 a2).Seals).length) ((Qf a0 a1 a2).Salt)) 1 (by exact QdH _ _) (by (simp only [ZE,ZF,Yl];done)) (by (simp only [ZE,ZF,Yl];omega))) Y Y) (aO (tN (Ql 1 (D.Puzzle.mk ((Qf a0 a1 a2).Grid) (QI 1 ((Qf a0 a1 a2).Clues)) (YH Zl 1 (Ql 1 ((Qf a0 a1 a2).Clues)) ((Qf a0 a1 a2).Seals).length) ((Qf a0 a1 a2).Salt)).Clues+1*(D.Puzzle.mk ((Qf a0 a1 a2).Grid) (QI 1 ((Qf a0 a1 a2).Clues)) (YH Zl 1 (Ql 1 ((Qf a0 a1 a2).Clues)) ((Qf a0 a1 a2).Seals).length) ((Qf a0 a1 a2).Salt)).Seals.length)) Y (nt (sq (sr (mO (tN (Ql 1 (D.Puzzle.mk ((Qf a0 a1 a2).Grid) (QI 1 ((Qf a0 a1 a2).Clues)) (YH Zl 1 (Ql 1 ((Qf a0 a1 a2).Clues)) ((Qf a0 a1 a2).Seals).length) ((Qf a0 a1 a2).Salt)).Clues+1*(D.Puzzle.mk ((Qf a0 a1 a2).Grid) (QI 1 ((Qf a0 a1 a2).Clues)) (YH Zl 1 (Ql 1 ((Qf a0 a1 a2).Clues)) ((Qf a0 a1 a2).Seals).length) ((Qf a0 a1 a2).Salt)).Seals.length)) Y (fO (B.lss (c:=(decide (Ql 1 (D.Puzzle.mk ((Qf a0 a1 a2).Grid) (QI 1 ((Qf a0 a1 a2).Clues)) (YH Zl 1 (Ql 1 ((Qf a0 a1 a2).Clues)) ((Qf a0 a1 a2).Seals).length) ((Qf a0 a1 a2).Salt)).Clues+1*(D.Puzzle.mk ((Qf a0 a1 a2).Grid) (QI 1 ((Qf a0 a1 a2).Clues)) (YH Zl 1 (Ql 1 ((Qf a0 a1 a2).Clues)) ((Qf a0 a1 a2).Seals).length) ((Qf a0 a1 a2).Salt)).Seals.length<0))) (tv (tN (Ql 1 (D.Puzzle.mk ((Qf a0 a1 a2).Grid) (QI 1 ((Qf a0 a1 a2).Clues)) (YH Zl 1 (Ql 1 ((Qf a0 a1 a2).Clues)) ((Qf a0 a1 a2).Seals).length) ((Qf a0 a1 a2).Salt)).Clues+1*(D.Puzzle.mk ((Qf a0 a1 a2).Grid) (QI 1 ((Qf a0 a1 a2).Clues)) (YH Zl 1 (Ql 1 ((Qf a0 a1 a2).Clues)) ((Qf a0 a1 a2).Seals).length) ((Qf a0 a1 a2).Salt)).Seals.length)) Y) (VEv.int .i64 0) (by exact Q6 (by omega))) ?_))))))
 refine nt ?_
 refine cd (Ql 1 (D.Puzzle.mk ((Qf a0 a1 a2).Grid) (QI 1 ((Qf a0 a1 a2).Clues)) (YH Zl 1 (Ql 1 ((Qf a0 a1 a2).Clues)) ((Qf a0 a1 a2).Seals).length) ((Qf a0 a1 a2).Salt)).Clues+1*(D.Puzzle.mk ((Qf a0 a1 a2).Grid) (QI 1 ((Qf a0 a1 a2).Clues)) (YH Zl 1 (Ql 1 ((Qf a0 a1 a2).Clues)) ((Qf a0 a1 a2).Seals).length) ((Qf a0 a1 a2).Salt)).Seals.length<0) Y (fun fhc6=> ?_) fun fhc6=> ?_
 ·refine sr ?_
  refine fO (OF.assign (VEv.bool false)) (nt (rt (tr (vb (b':=false) Y ?_))))
  (exfalso;simp only [ZE,ZF] at* <;>omega)
 skip
 refine sk (tn (sq (sr (mO (tN (Ql 1 (D.Puzzle.mk ((Qf a0 a1 a2).Grid) (QI 1 ((Qf a0 a1 a2).Clues)) (YH Zl 1 (Ql 1 ((Qf a0 a1 a2).Clues)) ((Qf a0 a1 a2).Seals).length) ((Qf a0 a1 a2).Salt)).Clues+1*(D.Puzzle.mk ((Qf a0 a1 a2).Grid) (QI 1 ((Qf a0 a1 a2).Clues)) (YH Zl 1 (Ql 1 ((Qf a0 a1 a2).Clues)) ((Qf a0 a1 a2).Seals).length) ((Qf a0 a1 a2).Salt)).Seals.length)) Y (mO (tN (Ql 1 ((Qf a0 a1 a2).Clues)+1*((Qf a0 a1 a2).Seals).length)) Y (fO (Qir (tv (tN (Ql 1 (D.Puzzle.mk ((Qf a0 a1 a2).Grid) (QI 1 ((Qf a0 a1 a2).Clues)) (YH Zl 1 (Ql 1 ((Qf a0 a1 a2).Clues)) ((Qf a0 a1 a2).Seals).length) ((Qf a0 a1 a2).Salt)).Clues+1*(D.Puzzle.mk ((Qf a0 a1 a2).Grid) (QI 1 ((Qf a0 a1 a2).Clues)) (YH Zl 1 (Ql 1 ((Qf a0 a1 a2).Clues)) ((Qf a0 a1 a2).Seals).length) ((Qf a0 a1 a2).Salt)).Seals.length)) Y) (tv (tN (Ql 1 ((Qf a0 a1 a2).Clues)+1*((Qf a0 a1 a2).Seals).length)) Y)) (nt ?_)))))))
 refine cn (Ql 1 (D.Puzzle.mk ((Qf a0 a1 a2).Grid) (QI 1 ((Qf a0 a1 a2).Clues)) (YH Zl 1 (Ql 1 ((Qf a0 a1 a2).Clues)) ((Qf a0 a1 a2).Seals).length) ((Qf a0 a1 a2).Salt)).Clues+1*(D.Puzzle.mk ((Qf a0 a1 a2).Grid) (QI 1 ((Qf a0 a1 a2).Clues)) (YH Zl 1 (Ql 1 ((Qf a0 a1 a2).Clues)) ((Qf a0 a1 a2).Seals).length) ((Qf a0 a1 a2).Salt)).Seals.length=Ql 1 ((Qf a0 a1 a2).Clues)+1*((Qf a0 a1 a2).Seals).length) Y (fun fhc7=> ?_) fun fhc7=> ?_
 ·refine sr ?_
  refine fO (OF.assign (VEv.bool false)) (nt (rt (tr (vb (b':=false) Y ?_))))
  (exfalso;simp only [ZE,ZF,Yl,not_true_eq_false] at *;done)
 skip
 refine sk (tn (sr (lO (OL.loadOn (us:=(Qz false a0)) (tv (T.op 0 0) Y) Y Ql3 Qk8 (lb Y) Y) (cO (OC.callF (r':=(T.agg [(tI a0.Number),(tI a0.Puzzle.Grid.Rows),(tI a0.Puzzle.Grid.Cols),(tS a0.Puzzle.Grid.Cells),(T.os 2 17 0 ((a0.Puzzle.Clues.map (Qd true)).length)),(T.os 1 18 0 ((a0.Puzzle.Seals.map (Qb true)).length)),(tI a0.Puzzle.Salt),(tS a0.Fill),(tI a0.Open),(tI a0.Close)])) (objs:= [(Obj.rows 2 (a0.Puzzle.Clues.map (Qd true))),(Obj.rows 1 (a0.Puzzle.Seals.map (Qb true)))]) Y (vc (tv (T.agg (Qz false a0)) Y) vn) (LendL.cons (lg YT) ln) (Jf (n+40) a0 (by omega)) Y) (mO (rd 5 Qa a1) Y (cO (OC.callF (r':=(T.os 5 19 0 ((a1.map (Qa true)).length))) (objs:= [(Obj.rows 5 (a1.map (Qa true)))]) Y (vc (tv (rd 5 Qa a1) Y) vn) (ZO Y) (Z3 (n+41) a1 (by omega)) Y) (mO (tI a2) Y (cO (OC.callF (us:= [(T.agg (Qz false a0)),(rd 5 Qa a1),(tI a2)]) (r':=(T.agg [(tI ((Qf a0 a1 a2).Grid.Rows)),(tI ((Qf a0 a1 a2).Grid.Cols)),(tS ((Qf a0 a1 a2).Grid.Cells)),(T.os 2 20 0 ((((Qf a0 a1 a2).Clues).map (Qd true)).length)),(T.os 1 21 0 ((((Qf a0 a1 a2).Seals).map (Qb true)).length)),(tI ((Qf a0 a1 a2).Salt))])) (objs:= [(Obj.rows 2 (((Qf a0 a1 a2).Clues).map (Qd true))),(Obj.rows 1 (((Qf a0 a1 a2).Seals).map (Qb true)))]) Y (vc (tv (T.agg [(tI a0.Number),(tI a0.Puzzle.Grid.Rows),(tI a0.Puzzle.Grid.Cols),(tS a0.Puzzle.Grid.Cells),(T.os 2 17 0 ((a0.Puzzle.Clues.map (Qd true)).length)),(T.os 1 18 0 ((a0.Puzzle.Seals.map (Qb true)).length)),(tI a0.Puzzle.Salt),(tS a0.Fill),(tI a0.Open),(tI a0.Close)]) Y) (vc (tv (T.os 5 19 0 ((a1.map (Qa true)).length)) Y) (vc (tv (tI a2) Y) vn))) (LendL.cons (Lend.agg (LendL.cons (Lend.pl Y) (LendL.cons (Lend.pl Y) (LendL.cons (Lend.pl Y) (LendL.cons (Lend.pl Y) (LendL.cons (Lend.os Y Y (okeClue.fzMap _ _)) (LendL.cons (Lend.os Y Y (okInt.fzMap _ _)) (LendL.cons (Lend.pl Y) (LendL.cons (Lend.pl Y) (LendL.cons (Lend.pl Y) (LendL.cons (Lend.pl Y) ln))))))))))) (LendL.cons (Lend.os Y Y (okeCorrection.fzMap _ _)) (lp Y ln))) (Qbr (n+0) a0 a1 a2 (by omega) (by omega)) Y) (kO (B.alloc (t:=(T.agg [(tN 0),(tN 0),(tS ByteArray.empty),T.nils,T.nils,(tN 0)])) (ts:= [(tN 0),(tN 0),(tS ByteArray.empty),T.nils,T.nils,(tN 0)]) Qc0 Qf4 nofun (fun _=> .agg _ _ Y (Yf (RL.cons (.int _ _) (RL.cons (.int _ _) (RL.cons (.str _) (RL.cons (.nils) (RL.cons (.nils) (RL.cons (.int _ _) (RL.nil _))))))))) Y) (cO (B.storeW (us:= [(tI ((Qf a0 a1 a2).Grid.Rows)),(tI ((Qf a0 a1 a2).Grid.Cols)),(tS ((Qf a0 a1 a2).Grid.Cells)),(T.os 2 20 0 ((((Qf a0 a1 a2).Clues).map (Qd true)).length)),(T.os 1 21 0 ((((Qf a0 a1 a2).Seals).map (Qb true)).length)),(tI ((Qf a0 a1 a2).Salt))]) (tv (T.op 22 0) Y) (tv (T.agg [(tI ((Qf a0 a1 a2).Grid.Rows)),(tI ((Qf a0 a1 a2).Grid.Cols)),(tS ((Qf a0 a1 a2).Grid.Cells)),(T.os 2 20 0 ((((Qf a0 a1 a2).Clues).map (Qd true)).length)),(T.os 1 21 0 ((((Qf a0 a1 a2).Seals).map (Qb true)).length)),(tI ((Qf a0 a1 a2).Salt))]) Y) nofun Y Y Y Qdl Yc (bc Y (bc Y (bc Y (bc Y (bc Y (bc Y bn))))))) ?_))))))))))
 refine nt (sq (sr (lO (OL.loadOn (us:= [(tI ((Qf a0 a1 a2).Grid.Rows)),(tI ((Qf a0 a1 a2).Grid.Cols)),(tS ((Qf a0 a1 a2).Grid.Cells)),(T.os 2 20 0 ((((Qf a0 a1 a2).Clues).map (Qd true)).length)),(T.os 1 21 0 ((((Qf a0 a1 a2).Seals).map (Qb true)).length)),(tI ((Qf a0 a1 a2).Salt))]) (tv (T.op 22 0) Y) Y Jn Yc (lb Y) Y) (lO (OL.loadOn (us:= [(tI ((Qf a0 a1 a2).Grid.Rows)),(tI ((Qf a0 a1 a2).Grid.Cols)),(tS ((Qf a0 a1 a2).Grid.Cells)),(T.os 2 4 0 ((((Qf a0 a1 a2).Clues).map (Qd true)).length)),(T.os 1 5 0 ((((Qf a0 a1 a2).Seals).map (Qb true)).length)),(tI ((Qf a0 a1 a2).Salt))]) (tv (T.op 6 0) Y) Y Jn Yc (lb Y) Y) (cO (cS (us:= [(T.agg (Qv false (Qf a0 a1 a2))),(T.agg (Qv false (Qf a0 a1 a2)))]) (vc (tv (T.agg [(tI ((Qf a0 a1 a2).Grid.Rows)),(tI ((Qf a0 a1 a2).Grid.Cols)),(tS ((Qf a0 a1 a2).Grid.Cells)),(T.os 2 20 0 ((((Qf a0 a1 a2).Clues).map (Qd true)).length)),(T.os 1 21 0 ((((Qf a0 a1 a2).Seals).map (Qb true)).length)),(tI ((Qf a0 a1 a2).Salt))]) Y) (vc (tv (T.agg [(tI ((Qf a0 a1 a2).Grid.Rows)),(tI ((Qf a0 a1 a2).Grid.Cols)),(tS ((Qf a0 a1 a2).Grid.Cells)),(T.os 2 4 0 ((((Qf a0 a1 a2).Clues).map (Qd true)).length)),(T.os 1 5 0 ((((Qf a0 a1 a2).Seals).map (Qb true)).length)),(tI ((Qf a0 a1 a2).Salt))]) Y) vn)) (LendL.cons (Lend.agg (LendL.cons (Lend.pl Y) (LendL.cons (Lend.pl Y) (LendL.cons (Lend.pl Y) (LendL.cons (Lend.os Y Y (okeClue.fzMap _ _)) (LendL.cons (Lend.os Y Y (okInt.fzMap _ _)) (LendL.cons (Lend.pl Y) ln))))))) (LendL.cons (Lend.agg (LendL.cons (Lend.pl Y) (LendL.cons (Lend.pl Y) (LendL.cons (Lend.pl Y) (LendL.cons (Lend.os Y Y (okeClue.fzMap _ _)) (LendL.cons (Lend.os Y Y (okInt.fzMap _ _)) (LendL.cons (Lend.pl Y) ln))))))) ln)) (YX (n+41) (Qf a0 a1 a2) (Qf a0 a1 a2) (by omega) (by omega)) Y Y) (fO (Q1 (tv (tB (decide ((Qf a0 a1 a2)=(Qf a0 a1 a2)))) Y)) (nt (cg (nz fhc2) Y (sk (tn (sr ?_)))))))))))
 refine fO (OF.assign (VEv.int .i64 1)) (nt (sr (lO (OL.loadOn (us:= [(tI ((Qf a0 a1 a2).Grid.Rows)),(tI ((Qf a0 a1 a2).Grid.Cols)),(tS ((Qf a0 a1 a2).Grid.Cells)),(T.os 2 11 0 ((((Qf a0 a1 a2).Clues).map (Qd true)).length)),(T.os 1 12 0 ((((Qf a0 a1 a2).Seals).map (Qb true)).length)),(tI ((Qf a0 a1 a2).Salt))]) (tv (T.op 13 0) Y) Y Jn Yc (lb Y) Y) (mO (tN 1) Y (cO (cS (us:= [(T.agg [(tI ((Qf a0 a1 a2).Grid.Rows)),(tI ((Qf a0 a1 a2).Grid.Cols)),(tS ((Qf a0 a1 a2).Grid.Cells)),(rd 2 Qd (QI 1 ((Qf a0 a1 a2).Clues))),(rd 1 Qb (YH Zl 1 (Ql 1 ((Qf a0 a1 a2).Clues)) ((Qf a0 a1 a2).Seals).length)),(tI ((Qf a0 a1 a2).Salt))]),(tN 1)]) (vc (tv (T.agg [(tI ((Qf a0 a1 a2).Grid.Rows)),(tI ((Qf a0 a1 a2).Grid.Cols)),(tS ((Qf a0 a1 a2).Grid.Cells)),(T.os 2 11 0 ((((Qf a0 a1 a2).Clues).map (Qd true)).length)),(T.os 1 12 0 ((((Qf a0 a1 a2).Seals).map (Qb true)).length)),(tI ((Qf a0 a1 a2).Salt))]) Y) (vc (tv (tN 1) Y) vn)) (LendL.cons (Lend.agg (LendL.cons (Lend.pl Y) (LendL.cons (Lend.pl Y) (LendL.cons (Lend.pl Y) (LendL.cons (Lend.os Y (by simp only [List.length_map,Yl,List.length_set,Qal,Qau]) (okeClue.fzMap _ _)) (LendL.cons (Lend.os Y (by simp only [List.length_map,Yl,List.length_set,Qal,Qau]) (okInt.fzMap _ _)) (LendL.cons (Lend.pl Y) ln))))))) (lp Y ln)) (Qam (n+42) (D.Puzzle.mk ((Qf a0 a1 a2).Grid) (QI 1 ((Qf a0 a1 a2).Clues)) (YH Zl 1 (Ql 1 ((Qf a0 a1 a2).Clues)) ((Qf a0 a1 a2).Seals).length) ((Qf a0 a1 a2).Salt)) 1 (by exact QdH _ _) (by (simp only [ZE,ZF,Yl];done)) (by (simp only [ZE,ZF,Yl];omega))) Y Y) (aO (tN (Ql 1 (D.Puzzle.mk ((Qf a0 a1 a2).Grid) (QI 1 ((Qf a0 a1 a2).Clues)) (YH Zl 1 (Ql 1 ((Qf a0 a1 a2).Clues)) ((Qf a0 a1 a2).Seals).length) ((Qf a0 a1 a2).Salt)).Clues+1*(D.Puzzle.mk ((Qf a0 a1 a2).Grid) (QI 1 ((Qf a0 a1 a2).Clues)) (YH Zl 1 (Ql 1 ((Qf a0 a1 a2).Clues)) ((Qf a0 a1 a2).Seals).length) ((Qf a0 a1 a2).Salt)).Seals.length)) Y (nt (sq (sr (mO (tN (Ql 1 (D.Puzzle.mk ((Qf a0 a1 a2).Grid) (QI 1 ((Qf a0 a1 a2).Clues)) (YH Zl 1 (Ql 1 ((Qf a0 a1 a2).Clues)) ((Qf a0 a1 a2).Seals).length) ((Qf a0 a1 a2).Salt)).Clues+1*(D.Puzzle.mk ((Qf a0 a1 a2).Grid) (QI 1 ((Qf a0 a1 a2).Clues)) (YH Zl 1 (Ql 1 ((Qf a0 a1 a2).Clues)) ((Qf a0 a1 a2).Seals).length) ((Qf a0 a1 a2).Salt)).Seals.length)) Y (fO (B.lss (c:=(decide (Ql 1 (D.Puzzle.mk ((Qf a0 a1 a2).Grid) (QI 1 ((Qf a0 a1 a2).Clues)) (YH Zl 1 (Ql 1 ((Qf a0 a1 a2).Clues)) ((Qf a0 a1 a2).Seals).length) ((Qf a0 a1 a2).Salt)).Clues+1*(D.Puzzle.mk ((Qf a0 a1 a2).Grid) (QI 1 ((Qf a0 a1 a2).Clues)) (YH Zl 1 (Ql 1 ((Qf a0 a1 a2).Clues)) ((Qf a0 a1 a2).Seals).length) ((Qf a0 a1 a2).Salt)).Seals.length<0))) (tv (tN (Ql 1 (D.Puzzle.mk ((Qf a0 a1 a2).Grid) (QI 1 ((Qf a0 a1 a2).Clues)) (YH Zl 1 (Ql 1 ((Qf a0 a1 a2).Clues)) ((Qf a0 a1 a2).Seals).length) ((Qf a0 a1 a2).Salt)).Clues+1*(D.Puzzle.mk ((Qf a0 a1 a2).Grid) (QI 1 ((Qf a0 a1 a2).Clues)) (YH Zl 1 (Ql 1 ((Qf a0 a1 a2).Clues)) ((Qf a0 a1 a2).Seals).length) ((Qf a0 a1 a2).Salt)).Seals.length)) Y) (VEv.int .i64 0) (by exact Q6 (by omega))) ?_)))))))))))
 refine nt (cg (dz fhc6) Y (sk (tn (sq (sr (mO (tN (Ql 1 (D.Puzzle.mk ((Qf a0 a1 a2).Grid) (QI 1 ((Qf a0 a1 a2).Clues)) (YH Zl 1 (Ql 1 ((Qf a0 a1 a2).Clues)) ((Qf a0 a1 a2).Seals).length) ((Qf a0 a1 a2).Salt)).Clues+1*(D.Puzzle.mk ((Qf a0 a1 a2).Grid) (QI 1 ((Qf a0 a1 a2).Clues)) (YH Zl 1 (Ql 1 ((Qf a0 a1 a2).Clues)) ((Qf a0 a1 a2).Seals).length) ((Qf a0 a1 a2).Salt)).Seals.length)) Y (mO (tN (Ql 1 ((Qf a0 a1 a2).Clues)+1*((Qf a0 a1 a2).Seals).length)) Y (fO (Qir (tv (tN (Ql 1 (D.Puzzle.mk ((Qf a0 a1 a2).Grid) (QI 1 ((Qf a0 a1 a2).Clues)) (YH Zl 1 (Ql 1 ((Qf a0 a1 a2).Clues)) ((Qf a0 a1 a2).Seals).length) ((Qf a0 a1 a2).Salt)).Clues+1*(D.Puzzle.mk ((Qf a0 a1 a2).Grid) (QI 1 ((Qf a0 a1 a2).Clues)) (YH Zl 1 (Ql 1 ((Qf a0 a1 a2).Clues)) ((Qf a0 a1 a2).Seals).length) ((Qf a0 a1 a2).Salt)).Seals.length)) Y) (tv (tN (Ql 1 ((Qf a0 a1 a2).Clues)+1*((Qf a0 a1 a2).Seals).length)) Y)) (nt (cg (nz fhc7) Y (sk ?_)))))))))))
 refine tn (sr (fO (OF.assign (VEv.bool true)) (nt (rt ?_))))
 exact vb Y Y
theorem Qi5 (a:Option Addr) (n c:Nat):(QeX (.slice a n c)).cells.toList= [QeX (.slice a n c)]:=by cases a<;>rfl
theorem QlD {α:Type} {d:AK α} {e:Bool→α→List T} {x:α} {t:T} {h:AH} {v:Value} (hk:RK d e) (he:e false x= [t]) (hr:d.R h x [v]):R h t v:=by
 have h1:=hk h x _ hr
 rw [he] at h1
 exact h1.tail.1
theorem Qmm {α:Type} {d:AK α} {e:Bool→α→List T} {x:α} {t:T} {h:AH} {a:Option Addr} {n c:Nat} (hk:RK d e) (he:e false x= [t]) (hr:d.R h x (QeX (.slice a n c)).cells.toList):R h t (QeX (.slice a n c)):=by
 rw [Qi5] at hr
 exact QlD hk he hr
theorem QnL {α:Type} {d:AK α} {e:Bool→α→List T} {x:α} {h:AH} {cs:Array Value} (hk:RK d e) (hr:d.R h x (QeX (.agg cs)).cells.toList):R h (.agg (e false x)) (QeX (.agg cs)):=by
 have h1:=hk h x _ hr
 refine .agg _ _ (by simpa [Value.cells,QeX] using h1.1) (fun i hi=> ?_)
 have:=h1.2 i hi
 simpa [Value.cells,QeX,Array.getD_eq_getD_getElem?,List.getD_eq_getElem?_getD] using this
theorem Pure.bool {call:QR} {f:FuncId} {ts:List T} {b:Bool} (hp:Pure call f ts (.bool b)) {h:AH} {vs:List Value} (hfr:Fr 1 h) (hr:RL h ts vs):CallS call f vs h 1 (fun v _=>v= .bool b):=by
 refine (hp h 1 vs hfr hr).mono ?_
 rintro v h' ⟨_,N,hs,_⟩
 cases hs with
 | fz hr=>cases hr;rfl
open Go Go.RowKit Go.Shelf Go.Proofs
def Qhy : Go.Shelf.Ren:=⟨fun | 189=>114 | 125=>144 | 257=>143 | 128=>174 | 129=>175 | 294=>165 | 295=>166 | 296=>167 | 297=>168 | 298=>169 | 299=>170 | 216=>171 | 300=>172 | 301=>173 | 328=>187 | 329=>188 | 330=>189 | 331=>190 | 332=>191 | 215=>192 | 343=>196 | n=>n,fun | 28=>25 | 3=>3 | 46=>148 | 0=>0 | 51=>170 | 53=>172 | 4=>4 | 183=>164 | 182=>163 | 131=>167 | 5=>5 | 9=>9 | 218=>179 | 222=>183 | 228=>186 | 229=>187 | n=>n,fun | n=>n⟩
theorem Qh2 : Go.Proofs.Lays.n189 Tryz.prog Qhy where
 mixed:=by kernel_rfl
 f125:=Tryz.func144.trans (congrArg some (by kernel_rfl))
 f128:=Tryz.func174.trans (congrArg some (by kernel_rfl))
 f129:=Tryz.func175.trans (congrArg some (by kernel_rfl))
 f189:=Tryz.func114.trans (congrArg some (by kernel_rfl))
 f215:=Tryz.func192.trans (congrArg some (by kernel_rfl))
 f216:=Tryz.func171.trans (congrArg some (by kernel_rfl))
 f257:=Tryz.func143.trans (congrArg some (by kernel_rfl))
 f294:=Tryz.func165.trans (congrArg some (by kernel_rfl))
 f295:=Tryz.func166.trans (congrArg some (by kernel_rfl))
 f296:=Tryz.func167.trans (congrArg some (by kernel_rfl))
 f297:=Tryz.func168.trans (congrArg some (by kernel_rfl))
 f298:=Tryz.func169.trans (congrArg some (by kernel_rfl))
 f299:=Tryz.func170.trans (congrArg some (by kernel_rfl))
 f300:=Tryz.func172.trans (congrArg some (by kernel_rfl))
 f301:=Tryz.func173.trans (congrArg some (by kernel_rfl))
 f328:=Tryz.func187.trans (congrArg some (by kernel_rfl))
 f329:=Tryz.func188.trans (congrArg some (by kernel_rfl))
 f330:=Tryz.func189.trans (congrArg some (by kernel_rfl))
 f331:=Tryz.func190.trans (congrArg some (by kernel_rfl))
 f332:=Tryz.func191.trans (congrArg some (by kernel_rfl))
 f343:=Tryz.func196.trans (congrArg some (by kernel_rfl))
 t0:=Tryz.underlying0
 a0:=Tryz.isAgg0
 z0:=Tryz.sizeOf0
 v0:=Tryz.zeroValue0
 t3:=Tryz.underlying3
 a3:=Tryz.isAgg3
 z3:=Tryz.sizeOf3
 v3:=Tryz.zeroValue3
 t4:=Tryz.underlying4
 a4:=Tryz.isAgg4
 z4:=Tryz.sizeOf4
 v4:=Tryz.zeroValue4
 t5:=Tryz.underlying5
 a5:=Tryz.isAgg5
 z5:=Tryz.sizeOf5
 v5:=Tryz.zeroValue5
 t9:=Tryz.underlying9
 a9:=Tryz.isAgg9
 z9:=Tryz.sizeOf9
 v9:=Tryz.zeroValue9
 t28:=Tryz.underlying25
 a28:=Tryz.isAgg25
 z28:=Tryz.sizeOf25
 v28:=Tryz.zeroValue25
 t46:=Tryz.underlying148
 a46:=Tryz.isAgg148
 z46:=Tryz.sizeOf148
 v46:=Tryz.zeroValue148
 t51:=Tryz.underlying170
 a51:=Tryz.isAgg170
 z51:=Tryz.sizeOf170
 v51:=Tryz.zeroValue170
 t53:=Tryz.underlying172
 a53:=Tryz.isAgg172
 z53:=Tryz.sizeOf172
 v53:=Tryz.zeroValue172
 t131:=Tryz.underlying167
 a131:=Tryz.isAgg167
 z131:=Tryz.sizeOf167
 v131:=Tryz.zeroValue167
 t182:=Tryz.underlying163
 a182:=Tryz.isAgg163
 z182:=Tryz.sizeOf163
 v182:=Tryz.zeroValue163
 t183:=Tryz.underlying164
 a183:=Tryz.isAgg164
 z183:=Tryz.sizeOf164
 v183:=Tryz.zeroValue164
 t218:=Tryz.underlying179
 a218:=Tryz.isAgg179
 z218:=Tryz.sizeOf179
 v218:=Tryz.zeroValue179
 t222:=Tryz.underlying183
 a222:=Tryz.isAgg183
 z222:=Tryz.sizeOf183
 v222:=Tryz.zeroValue183
 t228:=Tryz.underlying186
 a228:=Tryz.isAgg186
 z228:=Tryz.sizeOf186
 v228:=Tryz.zeroValue186
 t229:=Tryz.underlying187
 a229:=Tryz.isAgg187
 z229:=Tryz.sizeOf187
 v229:=Tryz.zeroValue187
def QhC : Go.Shelf.Ren:=⟨fun | 20=>115 | n=>n,fun | 22=>25 | 3=>3 | 4=>4 | 0=>0 | n=>n,fun | n=>n⟩
theorem Qiv : Go.Proofs.Lays2.n20 Tryz.prog QhC where
 mixed:=by kernel_rfl
 f20:=Tryz.func115.trans (congrArg some (by kernel_rfl))
 t0:=Tryz.underlying0
 a0:=Tryz.isAgg0
 z0:=Tryz.sizeOf0
 v0:=Tryz.zeroValue0
 t3:=Tryz.underlying3
 a3:=Tryz.isAgg3
 z3:=Tryz.sizeOf3
 v3:=Tryz.zeroValue3
 t4:=Tryz.underlying4
 a4:=Tryz.isAgg4
 z4:=Tryz.sizeOf4
 v4:=Tryz.zeroValue4
 t22:=Tryz.underlying25
 a22:=Tryz.isAgg25
 z22:=Tryz.sizeOf25
 v22:=Tryz.zeroValue25
 i3:=by kernel_rfl
theorem Qn4 : Qjl Tryz.prog:=by
 intro f hf
 by_cases h1:f=114
 ·subst h1
  exact Qh6 ⟨fun p cap w=>Any.slices_Sort_int_none Qh2 p cap w,fun blk off cap zs w h1 h2 h3=>Any.slices_Sort_int Qh2 blk off cap zs w h1 h2 h3⟩
 ·by_cases h2:f=115
  ·subst h2
   exact QiO ⟨fun a cap w=>Any.slices_Compact_int_empty Qiv a cap w,fun blk off cap zs w h1 h2 h3=>Any.slices_Compact_int Qiv blk off cap zs w h1 h2 h3⟩
  ·exfalso
   simp [QbT,h1,h2] at hf
end Go.Proofs.YtcccmceoplcciaaGreat.AE
