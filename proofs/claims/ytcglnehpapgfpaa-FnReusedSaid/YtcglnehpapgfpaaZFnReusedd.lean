/- A part of what the row of FnReused uses. Conditions: as each theorem states. -/
import Derived.Test.YtcglnehpapgfpaaZFnReusedc
import Derived.Shelf.Spec.SlicesInsertGrow
import Derived.Test.YtcglnehpapgfpaaProg
namespace Go.Proofs.Ytcglnehpapgfpaa.AE
open Go Go.RowKit
set_option linter.unusedVariables false
set_option linter.unusedSimpArgs false
set_option maxRecDepth 20000
set_option maxHeartbeats 2000000
theorem Qcq (n:Nat) (a:List Int):Pure (Qo Try.prog (n+1)) 4 [(rd 1 Qf a)] (tB (decide (1048576<a.length))):=by
 refine Pure.intro (rs:= [ResultVar.tmp 2]) Try.func4 Y Y Y (E0:= [(0,(rd 1 Qf a))]) Y ?_
 obtain ⟨hlim,hmx,hmax⟩:=QW
 refine sr (fO (OF.assign (VEv.bool false)) (nt (sr (mO (rd 1 Qf a) Y (lO (B.lenR (m:=a.length) (tv (rd 1 Qf a) Y) U22 (List.length_map ..)) (fO (B.gtr (c:=(decide (1048576<a.length))) (tv (tN a.length) Y) (VEv.int .i64 1048576) (Zl (by omega))) (aO (tB (decide (1048576<a.length))) Y (nt (rt ?_)))))))))
 exact vb Y Y
theorem Qar (n:Nat) (a:List ByteArray) (w:ByteArray) (ha:a.length≤ZQ):Pure (Qo Try.prog (n+3)) 9 [(rd 1 Qd a),(tS w)] (tB (decide (w∈a))):=by
 refine Pure.intro (rs:= [ResultVar.tmp 4]) Try.func9 Y Y Y (E0:= [(0,(rd 1 Qd a)),(1,(tS w))]) Y ?_
 obtain ⟨hlim,hmx,hmax⟩:=QW
 refine sr (fO (OF.assign (VEv.bool false)) (nt (sr (mO (rd 1 Qd a) Y (mO (tS w) Y (cO (cS (vc (tv (rd 1 Qd a) Y) (vc (tv (tS w) Y) vn)) (YC Y) (Zn (n+0) a w (by first | assumption | omega)) Y Y) (aO (tB (decide (w∈a))) Y (nt (rt ?_)))))))))
 exact vb Y Y
theorem Qen {k:Nat} {l:List D.Used} (h:gU k l):∀y∈l,Qa4 y:=fun y hy=>by
 have h1:=h.2 y hy
 refine ⟨Nat.le_trans h1.1 (by decide),?_⟩
 simp only [Lit.wf,Bool.and_eq_true,decide_eq_true_eq]
 exact ⟨Int.le_trans (by decide) h1.2.1,Int.le_trans h1.2.2 (by decide)⟩
theorem Qb5 {l:List D.Used} {ws:List ByteArray} {n g:Int} {w:ByteArray} (hw:w∈ws):w∈Qh l ws n g↔¬Qu l w n g:=by
 unfold Qh
 rw [List.mem_filter]
 simp [hw]
theorem QaZ {w:ByteArray}:∀ {l:List D.Used} {r:Int},r≤l.foldl (Q1 w) r∧∀x∈l,x.Word=w→x.Issue≤l.foldl (Q1 w) r
 | [],r=>⟨Int.le_refl _,fun x hx=>nomatch hx⟩
 | y::l,r=>by
  obtain ⟨h1,h2⟩:=QaZ (w:=w) (l:=l) (r:=Q1 w r y)
  have h3:r≤Q1 w r y:=by unfold Q1;split<;>omega
  refine ⟨Int.le_trans h3 h1,fun x hx hw=> ?_⟩
  rcases List.mem_cons.1 hx with rfl | hx
  ·refine Int.le_trans ?_ h1
   unfold Q1
   rw [if_pos hw];omega
  ·exact h2 x hx hw
theorem Qcv {l:List D.Used} {w:ByteArray} {n:Int} (h:D.Used.mk w n∈l):n≤Qc l w:=(QaZ (w:=w) (l:=l) (r:=0)).2 _ h Y
theorem Qdt {l:List D.Used} {x:D.Used}:x∈Zp l x:=by
 unfold Zp
 exact List.mem_append.2 (.inr List.mem_cons_self)
theorem Qce {n:Int} {w:ByteArray}:∀ {ws:List ByteArray} {l:List D.Used},w∈ws→D.Used.mk w n∈Qn l ws n
 | [],l,h=>nomatch h
 | v::r,l,h=>by
  show D.Used.mk w n∈Qn (Zp l (D.Used.mk v n)) r n
  rcases List.mem_cons.1 h with rfl | h
  ·exact (Qak n r _).mem Qdt
  ·exact Qce h
theorem YP (n:Int):∀(ws:List ByteArray) (l:List D.Used),(Qn l ws n).length=l.length+ws.length
 | [],l=>rfl
 | w::r,l=>by
  show (Qn (Zp l (D.Used.mk w n)) r n).length=_
  rw [YP n r]
  have hle:YB l (D.Used.mk w n)≤l.length:=by
   have h0:=congrArg List.length (List.takeWhile_append_dropWhile (p:=fun y=>QI y (D.Used.mk w n)) (l:=l))
   rw [List.length_append] at h0
   unfold YB;omega
  unfold Zp
  rw [List.length_append,List.length_cons,List.length_take,List.length_drop,List.length_cons];omega
theorem QdO {m P t:Prop} [Decidable m] [Decidable P] [Decidable t] (h1:m↔P) (h2:t↔¬m):¬((!decide m == decide P)=true∨(decide t == decide P)=true):=by
 by_cases h:m
 ·have hp:=h1.1 h
  have ht:¬t:=fun e=>h2.1 e h
  simp [h,hp,ht]
 ·have hp:¬P:=fun e=>h (h1.2 e)
  have ht:=h2.2 h
  simp [h,hp,ht]
theorem Qdr {k:Nat} {l:List ByteArray} (h:l.length≤k) (hs:∀y∈l,y.size≤10):zL ByteArray.size l≤11*k:=by
 have h1:∀l:List ByteArray,(∀x∈l,x.size≤10)→Zq ByteArray.size l≤10*l.length:=fun l=>by
  induction l with
  | nil=>exact fun _=>Nat.le_refl _
  | cons x r ih =>
   intro hl
   have h2:=ih (fun y hy=>hl y (List.mem_cons_of_mem _ hy))
   have h3:=hl x List.mem_cons_self
   simp only [Zq,List.length_cons];omega
 have h2:=h1 l hs
 simp only [zL];omega
theorem Qda (l:List D.Used) (ws:List ByteArray) (n:Int):(Qr l ws n).length≤l.length+ws.length:=by
 unfold Qr
 split
 ·rw [YP];exact Nat.le_refl _
 ·omega
theorem Qdf {l:List D.Used} {ws:List ByteArray} {n:Int} {w:ByteArray} (h:Ql (Qn l ws n)) (hw:w∈ws):n≤Qc (Qr l ws n) w:=by
 rw [QZ h]
 exact Qcv (Qce hw)
theorem Qaa (n:Nat) (a0:List Int) (g0:(a0.length≤maxLen∧∀y∈a0,(Lit.int .u8 y).wf=true)):Pure (Qo Try.prog (n+10)) 3 [(rd 1 Qf a0)] (tB true):=by
 refine Pure.intro (rs:= [ResultVar.tmp 2]) Try.func3 Y Y Y (E0:= [(0,(rd 1 Qf a0))]) Y ?_
 obtain ⟨hlim,hmx,hmax⟩:=QW
 refine sr (fO (OF.assign (VEv.bool false)) (nt (sq (sr (mO (rd 1 Qf a0) Y (cO (cS (vc (tv (rd 1 Qf a0) Y) vn) (YC Y) (Qcq (n+8) a0) Y Y) (nt ?_)))))))
 refine cd (1048576<a0.length) Y (fun fhc0=> ?_) fun fhc0=> ?_
 ·refine sr ?_
  refine fO (OF.assign (VEv.bool true)) (nt (rt (tr ?_)))
  exact vb Y Y
 refine sk (tn (sr (mO (rd 1 Qf a0) Y ?_)))
 refine eP (us:= [(rd 1 Qf a0)]) (r':=fun x_:List D.Used×List ByteArray×Int×Int=>(T.tup [(T.os 2 0 0 ((x_.1.map (Qa true)).length)),(T.os 1 1 0 ((x_.2.1.map (Qd true)).length)),(tI x_.2.2.1),(tI x_.2.2.2)])) (objs:=fun x_:List D.Used×List ByteArray×Int×Int=> [(Obj.rows 2 (x_.1.map (Qa true))),(Obj.rows 1 (x_.2.1.map (Qd true)))]) (m:=2) VWant.always (vc (tv (rd 1 Qf a0) Y) vn) (YC Y) (Je (n+0) a0 (by first | omega | assumption | omega | (simp only [List.length_cons,List.length_nil];omega))) Y (fun _=>rfl) (fun _=>rfl) fun e21 hs21=> ?_
 have hs21:gU 11 e21.1∧(e21.2.1.length≤7∧∀y∈e21.2.1,y.size≤10)∧(0≤e21.2.2.1∧e21.2.2.1≤1000)∧(-1≤e21.2.2.2∧e21.2.2.2≤1000):=hs21
 refine mO (T.tup [(T.os 2 0 0 ((e21.1.map (Qa true)).length)),(T.os 1 1 0 ((e21.2.1.map (Qd true)).length)),(tI e21.2.2.1),(tI e21.2.2.2)]) Y (fO (OF.extract (t:=(T.os 2 0 0 ((e21.1.map (Qa true)).length))) (tv (T.tup [(T.os 2 0 0 ((e21.1.map (Qa true)).length)),(T.os 1 1 0 ((e21.2.1.map (Qd true)).length)),(tI e21.2.2.1),(tI e21.2.2.2)]) Y) Y) (fO (OF.extract (t:=(T.os 1 1 0 ((e21.2.1.map (Qd true)).length))) (tv (T.tup [(T.os 2 0 0 ((e21.1.map (Qa true)).length)),(T.os 1 1 0 ((e21.2.1.map (Qd true)).length)),(tI e21.2.2.1),(tI e21.2.2.2)]) Y) Y) (fO (OF.extract (t:=(tI e21.2.2.1)) (tv (T.tup [(T.os 2 0 0 ((e21.1.map (Qa true)).length)),(T.os 1 1 0 ((e21.2.1.map (Qd true)).length)),(tI e21.2.2.1),(tI e21.2.2.2)]) Y) Y) (fO (OF.extract (t:=(tI e21.2.2.2)) (tv (T.tup [(T.os 2 0 0 ((e21.1.map (Qa true)).length)),(T.os 1 1 0 ((e21.2.1.map (Qd true)).length)),(tI e21.2.2.1),(tI e21.2.2.2)]) Y) Y) (aO (T.os 2 0 0 ((e21.1.map (Qa true)).length)) Y (aO (T.os 1 1 0 ((e21.2.1.map (Qd true)).length)) Y (aO (tI e21.2.2.1) Y (aO (tI e21.2.2.2) Y (nt ?_)))))))))
 have hl1:=hs21.1.1
 have hg1:=Qen hs21.1
 have hw1:=hs21.2.1.1
 have hi1:=hs21.2.2.1
 have hi2:=hs21.2.2.2
 have hts:=J7 e21.1 e21.2.1 e21.2.2.1 e21.2.2.2
 refine sr (mO (T.os 2 0 0 ((e21.1.map (Qa true)).length)) Y (mO (T.os 1 1 0 ((e21.2.1.map (Qd true)).length)) Y (mO (tI e21.2.2.1) Y (mO (tI e21.2.2.2) Y (cO (OC.callF (us:= [(rd 2 Qa e21.1),(rd 1 Qd e21.2.1),(tI e21.2.2.1),(tI e21.2.2.2)]) (r':=(T.os 1 2 0 (((Qh e21.1 e21.2.1 e21.2.2.1 e21.2.2.2).map (Qd true)).length))) (objs:= [(Obj.rows 1 ((Qh e21.1 e21.2.1 e21.2.2.1 e21.2.2.2).map (Qd true)))]) Y (vc (tv (T.os 2 0 0 ((e21.1.map (Qa true)).length)) Y) (vc (tv (T.os 1 1 0 ((e21.2.1.map (Qd true)).length)) Y) (vc (tv (tI e21.2.2.1) Y) (vc (tv (tI e21.2.2.2) Y) vn)))) (LendL.cons (Lend.os Y Y (okeUsed.fzMap _ _)) (LendL.cons (Lend.os Y Y (okStr.fzMap _ _)) (lp Y (lp Y ln)))) (Qaz (n+4) e21.1 e21.2.1 e21.2.2.1 e21.2.2.2 (by first | omega | assumption | omega) (by first | omega | assumption | omega) (by first | omega | assumption | omega)) Y) (aO (T.os 1 2 0 (((Qh e21.1 e21.2.1 e21.2.2.1 e21.2.2.2).map (Qd true)).length)) Y (nt (sq (sr (fO (OF.assign (VEv.int .i64 0)) (nt ?_)))))))))))
 refine VRun.block ?_
 refine VRun.loop (A:=Nat) (fun s_=> [(0,(rd 1 Qf a0)),(3,(T.os 2 0 0 ((e21.1.map (Qa true)).length))),(4,(T.os 1 1 0 ((e21.2.1.map (Qd true)).length))),(5,(tI e21.2.2.1)),(6,(tI e21.2.2.2)),(7,(T.os 1 2 0 (((Qh e21.1 e21.2.1 e21.2.2.1 e21.2.2.2).map (Qd true)).length))),(8,(tN s_))]) (fun s_=>YW [(0,(Obj.rows 2 (e21.1.map (Qa true)))),(1,(Obj.rows 1 (e21.2.1.map (Qd true)))),(2,(Obj.rows 1 ((Qh e21.1 e21.2.1 e21.2.2.1 e21.2.2.2).map (Qd true))))]) 3 (fun s_=>s_≤e21.2.1.length) (fun s_=>e21.2.1.length - s_) (0:Nat) ?_ (Wk.mk (fun k=>k) ?_ ?_ ?_) ?_
 ·first | trivial | (simp;done) | omega | (constructor<;>simp)
 ·exact (b2 (b2 (b2 (b2 (b2 (b2 (b2 bn)))))))
 ·exact (b3 (b3 (b3 bn)))
 ·exact nd Y
 rintro i (hI':i≤e21.2.1.length)
 show VRun _ _ _ [(0,(rd 1 Qf a0)),(3,(T.os 2 0 0 ((e21.1.map (Qa true)).length))),(4,(T.os 1 1 0 ((e21.2.1.map (Qd true)).length))),(5,(tI e21.2.2.1)),(6,(tI e21.2.2.2)),(7,(T.os 1 2 0 (((Qh e21.1 e21.2.1 e21.2.2.1 e21.2.2.2).map (Qd true)).length))),(8,(tN i))] (YW [(0,(Obj.rows 2 (e21.1.map (Qa true)))),(1,(Obj.rows 1 (e21.2.1.map (Qd true)))),(2,(Obj.rows 1 ((Qh e21.1 e21.2.1 e21.2.2.1 e21.2.2.2).map (Qd true))))]) 3 _
 have hI1:=hI'
 refine sq (sr (mO (tN i) Y (mO (T.os 1 1 0 ((e21.2.1.map (Qd true)).length)) Y (lO (B.lenO (m:=e21.2.1.length) (tv (T.os 1 1 0 ((e21.2.1.map (Qd true)).length)) Y) Jm (List.length_map ..)) (fO (YM (tv (tN i) Y) (tv (tN e21.2.1.length) Y)) (nt ?_))))))
 refine cd (i<e21.2.1.length) Y (fun fhc1=> ?_) fun fhc1=> ?_
 ·refine sk ?_
  refine tn (sq (VRun.block (sr (mO (T.os 2 0 0 ((e21.1.map (Qa true)).length)) Y (mO (T.os 1 1 0 ((e21.2.1.map (Qd true)).length)) Y (mO (tN i) Y ?_))))))
  obtain ⟨x1,hx1⟩:∃x,e21.2.1[i]? =some x:=⟨_,List.getElem?_eq_getElem (by first | omega | omega)⟩
  refine fO (B.indexAddrO (i:=i) (tv (T.os 1 1 0 ((e21.2.1.map (Qd true)).length)) Y) (tv (tN i) Y) Y (by first | omega | omega | (simp only [List.length_map];omega) | (simp only [List.length_map,List.length_append,List.length_cons,List.length_nil,List.length_replicate,List.length_set,List.length_drop,List.length_take,ZQ] at *;omega)) Jm JH if9) (lO (OL.loadP1 (t:=(tS x1)) (row:=(Qd true x1)) (tv (T.orp 1 1 i 0) Y) Y (QE _ hx1) Y Y st9) (cO (cS (us:= [(rd 2 Qa e21.1),(tS x1)]) (vc (tv (T.os 2 0 0 ((e21.1.map (Qa true)).length)) Y) (vc (tv (tS x1) Y) vn)) (LendL.cons (Lend.os Y Y (okeUsed.fzMap _ _)) (lp Y ln)) (ZX (n+8) e21.1 x1 (by first | omega | assumption | omega)) Y Y) (aO (tI (Qc e21.1 x1)) Y (nt (sr (mO (tI e21.2.2.1) Y (fO (xge (tv (tI e21.2.2.1) Y) (VEv.int .i64 1)) (mO (tB (decide (1≤e21.2.2.1))) Y ?_))))))))
  refine VRunO.joinB 3 [46,47] 48 (tB (decide ((1≤e21.2.2.1)∧(e21.2.2.1≤999)))) ?_ ?_
  ·refine gw (1≤e21.2.2.1) (fun fhg45_1=> ?_) fun fhg45_1=> ?_
   ·refine gF (dy fhg45_1) Y Y (OF.move (tv (tI e21.2.2.1) Y)) ?_
    refine gF (dy fhg45_1) Y Y (xle (tv (tI e21.2.2.1) Y) (VEv.int .i64 999)) (fO (OF.pickT (VEv.tmpB Y (dy fhg45_1)) (tv (tB (decide (e21.2.2.1≤999))) Y)) (VRunO.nil ?_))
    exact jq (congrArg T.bool (kAT fhg45_1 Y)) (js Y (js Y (jn)))
   ·refine Yo 2 2 true 45 (dz fhg45_1) Y Y Y ?_
    refine fO (OF.pickF (VEv.tmpB Y (dz fhg45_1)) (VEv.bool false)) (VRunO.nil ?_)
    exact jq (congrArg T.bool (kAF fhg45_1)) (js Y (js Y (jn)))
  refine mO (tB (decide ((1≤e21.2.2.1)∧(e21.2.2.1≤999)))) Y ?_
  refine VRunO.joinB 3 [50,51] 52 (tB (decide (((1≤e21.2.2.1)∧(e21.2.2.1≤999))∧(0≤e21.2.2.2)))) ?_ ?_
  ·refine gw ((1≤e21.2.2.1)∧(e21.2.2.1≤999)) (fun fhg49_2=> ?_) fun fhg49_2=> ?_
   ·refine gF (dy fhg49_2) Y Y (OF.move (tv (tI e21.2.2.2) Y)) ?_
    refine gF (dy fhg49_2) Y Y (xge (tv (tI e21.2.2.2) Y) (VEv.int .i64 0)) (fO (OF.pickT (VEv.tmpB Y (dy fhg49_2)) (tv (tB (decide (0≤e21.2.2.2))) Y)) (VRunO.nil ?_))
    exact jq (congrArg T.bool (kAT fhg49_2 Y)) (js Y (js Y (jn)))
   ·refine Yo 2 6 true 49 (dz fhg49_2) Y Y Y ?_
    refine fO (OF.pickF (VEv.tmpB Y (dz fhg49_2)) (VEv.bool false)) (VRunO.nil ?_)
    exact jq (congrArg T.bool (kAF fhg49_2)) (js Y (js Y (jn)))
  refine mO (tB (decide (((1≤e21.2.2.1)∧(e21.2.2.1≤999))∧(0≤e21.2.2.2)))) Y ?_
  refine VRunO.joinB 3 [54,55] 56 (tB (decide ((((1≤e21.2.2.1)∧(e21.2.2.1≤999))∧(0≤e21.2.2.2))∧(e21.2.2.2≤999)))) ?_ ?_
  ·refine gw (((1≤e21.2.2.1)∧(e21.2.2.1≤999))∧(0≤e21.2.2.2)) (fun fhg53_3=> ?_) fun fhg53_3=> ?_
   ·refine gF (dy fhg53_3) Y Y (OF.move (tv (tI e21.2.2.2) Y)) ?_
    refine gF (dy fhg53_3) Y Y (xle (tv (tI e21.2.2.2) Y) (VEv.int .i64 999)) (fO (OF.pickT (VEv.tmpB Y (dy fhg53_3)) (tv (tB (decide (e21.2.2.2≤999))) Y)) (VRunO.nil ?_))
    exact jq (congrArg T.bool (kAT fhg53_3 Y)) (js Y (js Y (jn)))
   ·refine Yo 2 10 true 53 (dz fhg53_3) Y Y Y ?_
    refine fO (OF.pickF (VEv.tmpB Y (dz fhg53_3)) (VEv.bool false)) (VRunO.nil ?_)
    exact jq (congrArg T.bool (kAF fhg53_3)) (js Y (js Y (jn)))
  refine mO (tB (decide ((((1≤e21.2.2.1)∧(e21.2.2.1≤999))∧(0≤e21.2.2.2))∧(e21.2.2.2≤999)))) Y ?_
  refine VRunO.joinB 10 [58,59,60,61,62,63,64,65,66] 67 (tB (decide (((((1≤e21.2.2.1)∧(e21.2.2.1≤999))∧(0≤e21.2.2.2))∧(e21.2.2.2≤999))∧((Qc e21.1 x1=0)∨(Qc e21.1 x1<(e21.2.2.1 - e21.2.2.2)))))) ?_ ?_
  ·refine gw ((((1≤e21.2.2.1)∧(e21.2.2.1≤999))∧(0≤e21.2.2.2))∧(e21.2.2.2≤999)) (fun fhg57_4=> ?_) fun fhg57_4=> ?_
   ·refine gF (dy fhg57_4) Y Y (OF.move (tv (tI (Qc e21.1 x1)) Y)) ?_
    refine gF (dy fhg57_4) Y Y (xeq (tv (tI (Qc e21.1 x1)) Y) (VEv.int .i64 0)) (gF (dy fhg57_4) Y Y (OF.move (tv (tB (decide (Qc e21.1 x1=0))) Y)) ?_)
    refine VRunO.joinB 6 [61,62,63,64,65] 66 (tB (decide ((Qc e21.1 x1=0)∨(Qc e21.1 x1<(e21.2.2.1 - e21.2.2.2))))) ?_ ?_
    ·refine gw (Qc e21.1 x1=0) (fun fhg60_5=> ?_) fun fhg60_5=> ?_
     ·refine Yo 5 17 false 60 (dy fhg60_5) Y Y Y ?_
      refine gF (dy fhg57_4) Y Y (OF.pickT (VEv.tmpB Y (dy fhg60_5)) (VEv.bool true)) (VRunO.nil ?_)
      exact jq (congrArg T.bool (kOT fhg60_5)) (js Y (js Y (js Y (js Y (js Y (jn))))))
     ·refine gF (dz fhg60_5) Y Y (OF.move (tv (tI e21.2.2.1) Y)) ?_
      refine gF (dz fhg60_5) Y Y (OF.move (tv (tI e21.2.2.2) Y)) (gF (dz fhg60_5) Y Y (B.sub (n:=(e21.2.2.1 - e21.2.2.2)) (tv (tI e21.2.2.1) Y) (tv (tI e21.2.2.2) Y) (by first | omega | rfl | (rw [Qm (by omega)];omega) | (rw [Qm (by omega)];done))) (gF (dz fhg60_5) Y Y (OF.move (tv (tI (Qc e21.1 x1)) Y)) (gF (dz fhg60_5) Y Y (xgt (tv (tI (e21.2.2.1 - e21.2.2.2)) Y) (tv (tI (Qc e21.1 x1)) Y)) (gF (dy fhg57_4) Y Y (OF.pickF (VEv.tmpB Y (dz fhg60_5)) (tv (tB (decide (Qc e21.1 x1<(e21.2.2.1 - e21.2.2.2)))) Y)) (VRunO.nil ?_)))))
      exact jq (congrArg T.bool (kOF fhg60_5 Y)) (js Y (js Y (js Y (js Y (js Y (jn))))))
    refine fO (OF.pickT (VEv.tmpB Y (dy fhg57_4)) (tv (tB (decide ((Qc e21.1 x1=0)∨(Qc e21.1 x1<(e21.2.2.1 - e21.2.2.2))))) Y)) (VRunO.nil ?_)
    exact jq (congrArg T.bool (kAT fhg57_4 Y)) (js Y (js Y (js Y (js Y (js Y (js Y (js Y (js Y (js Y (jn))))))))))
   ·refine Yo 3 14 true 57 (dz fhg57_4) Y Y Y ?_
    refine Qeg 5 17 false 60 Y Y Y (oO Y Y (dz fhg57_4) (fO (OF.pickF (VEv.tmpB Y (dz fhg57_4)) (VEv.bool false)) (VRunO.nil ?_)))
    exact jq (congrArg T.bool (kAF fhg57_4)) (js Y (js Y (js Y (js Y (js Y (js Y (js Y (js Y (js Y (jn))))))))))
  refine aO (tB (decide (((((1≤e21.2.2.1)∧(e21.2.2.1≤999))∧(0≤e21.2.2.2))∧(e21.2.2.2≤999))∧((Qc e21.1 x1=0)∨(Qc e21.1 x1<(e21.2.2.1 - e21.2.2.2)))))) Y (nt (sr (mO (T.os 2 0 0 ((e21.1.map (Qa true)).length)) Y (mO (T.os 1 1 0 ((e21.2.1.map (Qd true)).length)) Y (mO (tN i) Y (fO (B.indexAddrO (i:=i) (tv (T.os 1 1 0 ((e21.2.1.map (Qd true)).length)) Y) (tv (tN i) Y) Y (by first | omega | omega | (simp only [List.length_map];omega) | (simp only [List.length_map,List.length_append,List.length_cons,List.length_nil,List.length_replicate,List.length_set,List.length_drop,List.length_take,ZQ] at *;omega)) Jm JH if9) (lO (OL.loadP1 (t:=(tS x1)) (row:=(Qd true x1)) (tv (T.orp 1 1 i 0) Y) Y (QE _ hx1) Y Y st9) (mO (tI e21.2.2.1) Y (mO (tI e21.2.2.2) Y (cO (cS (us:= [(rd 2 Qa e21.1),(tS x1),(tI e21.2.2.1),(tI e21.2.2.2)]) (vc (tv (T.os 2 0 0 ((e21.1.map (Qa true)).length)) Y) (vc (tv (tS x1) Y) (vc (tv (tI e21.2.2.1) Y) (vc (tv (tI e21.2.2.2) Y) vn)))) (LendL.cons (Lend.os Y Y (okeUsed.fzMap _ _)) (lp Y (lp Y (lp Y ln)))) (Y6 (n+7) e21.1 x1 e21.2.2.1 e21.2.2.2 (by first | omega | assumption | omega) (by first | omega | assumption | omega)) Y Y) (mO (tB (decide (((((1≤e21.2.2.1)∧(e21.2.2.1≤999))∧(0≤e21.2.2.2))∧(e21.2.2.2≤999))∧((Qc e21.1 x1=0)∨(Qc e21.1 x1<(e21.2.2.1 - e21.2.2.2)))))) Y ?_)))))))))))
  refine fO (B.bneq U4 (c:=(!((decide (Qu e21.1 x1 e21.2.2.1 e21.2.2.2)) == (decide (((((1≤e21.2.2.1)∧(e21.2.2.1≤999))∧(0≤e21.2.2.2))∧(e21.2.2.2≤999))∧((Qc e21.1 x1=0)∨(Qc e21.1 x1<(e21.2.2.1 - e21.2.2.2)))))))) (tv (tB (decide (Qu e21.1 x1 e21.2.2.1 e21.2.2.2))) Y) (tv (tB (decide (((((1≤e21.2.2.1)∧(e21.2.2.1≤999))∧(0≤e21.2.2.2))∧(e21.2.2.2≤999))∧((Qc e21.1 x1=0)∨(Qc e21.1 x1<(e21.2.2.1 - e21.2.2.2)))))) Y) Y) (mO (tB (!((decide (Qu e21.1 x1 e21.2.2.1 e21.2.2.2)) == (decide (((((1≤e21.2.2.1)∧(e21.2.2.1≤999))∧(0≤e21.2.2.2))∧(e21.2.2.2≤999))∧((Qc e21.1 x1=0)∨(Qc e21.1 x1<(e21.2.2.1 - e21.2.2.2)))))))) Y ?_)
  refine VRunO.joinB 9 [79,80,81,82,83,84,85,86] 87 (tB (decide (((!((decide (Qu e21.1 x1 e21.2.2.1 e21.2.2.2)) == (decide (((((1≤e21.2.2.1)∧(e21.2.2.1≤999))∧(0≤e21.2.2.2))∧(e21.2.2.2≤999))∧((Qc e21.1 x1=0)∨(Qc e21.1 x1<(e21.2.2.1 - e21.2.2.2)))))))=true)∨(((decide (x1∈(Qh e21.1 e21.2.1 e21.2.2.1 e21.2.2.2))) == (decide (((((1≤e21.2.2.1)∧(e21.2.2.1≤999))∧(0≤e21.2.2.2))∧(e21.2.2.2≤999))∧((Qc e21.1 x1=0)∨(Qc e21.1 x1<(e21.2.2.1 - e21.2.2.2))))))=true)))) ?_ ?_
  ·refine QbS (!((decide (Qu e21.1 x1 e21.2.2.1 e21.2.2.2)) == (decide (((((1≤e21.2.2.1)∧(e21.2.2.1≤999))∧(0≤e21.2.2.2))∧(e21.2.2.2≤999))∧((Qc e21.1 x1=0)∨(Qc e21.1 x1<(e21.2.2.1 - e21.2.2.2))))))) (fun hg78_6=> ?_) (fun hg78_6=> ?_)
   ·have fhg78_6:(!((decide (Qu e21.1 x1 e21.2.2.1 e21.2.2.2)) == (decide (((((1≤e21.2.2.1)∧(e21.2.2.1≤999))∧(0≤e21.2.2.2))∧(e21.2.2.2≤999))∧((Qc e21.1 x1=0)∨(Qc e21.1 x1<(e21.2.2.1 - e21.2.2.2)))))))=true:=hg78_6
    refine Yo 8 10 false 78 hg78_6 Y Y Y (fO (OF.pickT (VEv.tmpB Y hg78_6) (VEv.bool true)) (VRunO.nil ?_))
    exact jq (congrArg T.bool (jOT (dT _) hg78_6)) (js Y (js Y (js Y (js Y (js Y (js Y (js Y (js Y (jn)))))))))
   ·have fhg78_6:(!((decide (Qu e21.1 x1 e21.2.2.1 e21.2.2.2)) == (decide (((((1≤e21.2.2.1)∧(e21.2.2.1≤999))∧(0≤e21.2.2.2))∧(e21.2.2.2≤999))∧((Qc e21.1 x1=0)∨(Qc e21.1 x1<(e21.2.2.1 - e21.2.2.2)))))))=false:=hg78_6
    refine gF hg78_6 Y Y (OF.move (tv (T.os 1 2 0 (((Qh e21.1 e21.2.1 e21.2.2.1 e21.2.2.2).map (Qd true)).length)) Y)) (gF hg78_6 Y Y (OF.move (tv (T.os 1 1 0 ((e21.2.1.map (Qd true)).length)) Y)) (gF hg78_6 Y Y (OF.move (tv (tN i) Y)) (gF hg78_6 Y Y (B.indexAddrO (i:=i) (tv (T.os 1 1 0 ((e21.2.1.map (Qd true)).length)) Y) (tv (tN i) Y) Y (by first | omega | omega | (simp only [List.length_map];omega) | (simp only [List.length_map,List.length_append,List.length_cons,List.length_nil,List.length_replicate,List.length_set,List.length_drop,List.length_take,ZQ] at *;omega)) Jm JH if9) (gL hg78_6 Y Y (OL.loadP1 (t:=(tS x1)) (row:=(Qd true x1)) (tv (T.orp 1 1 i 0) Y) Y (QE _ hx1) Y Y st9) (VRunO.chain (VWant.on Y Y hg78_6) (cS (us:= [(rd 1 Qd (Qh e21.1 e21.2.1 e21.2.2.1 e21.2.2.2)),(tS x1)]) (vc (tv (T.os 1 2 0 (((Qh e21.1 e21.2.1 e21.2.2.1 e21.2.2.2).map (Qd true)).length)) Y) (vc (tv (tS x1) Y) vn)) (LendL.cons (Lend.os Y Y (okStr.fzMap _ _)) (lp Y ln)) (Qar (n+6) (Qh e21.1 e21.2.1 e21.2.2.1 e21.2.2.2) x1 (by first | omega | assumption | omega)) Y Y) (gF hg78_6 Y Y (OF.move (tv (tB (decide (((((1≤e21.2.2.1)∧(e21.2.2.1≤999))∧(0≤e21.2.2.2))∧(e21.2.2.2≤999))∧((Qc e21.1 x1=0)∨(Qc e21.1 x1<(e21.2.2.1 - e21.2.2.2)))))) Y)) (gF hg78_6 Y Y (B.beql U4 (c:=((decide (x1∈(Qh e21.1 e21.2.1 e21.2.2.1 e21.2.2.2))) == (decide (((((1≤e21.2.2.1)∧(e21.2.2.1≤999))∧(0≤e21.2.2.2))∧(e21.2.2.2≤999))∧((Qc e21.1 x1=0)∨(Qc e21.1 x1<(e21.2.2.1 - e21.2.2.2))))))) (tv (tB (decide (x1∈(Qh e21.1 e21.2.1 e21.2.2.1 e21.2.2.2)))) Y) (tv (tB (decide (((((1≤e21.2.2.1)∧(e21.2.2.1≤999))∧(0≤e21.2.2.2))∧(e21.2.2.2≤999))∧((Qc e21.1 x1=0)∨(Qc e21.1 x1<(e21.2.2.1 - e21.2.2.2)))))) Y) Y) (fO (OF.pickF (VEv.tmpB Y hg78_6) (tv (tB ((decide (x1∈(Qh e21.1 e21.2.1 e21.2.2.1 e21.2.2.2))) == (decide (((((1≤e21.2.2.1)∧(e21.2.2.1≤999))∧(0≤e21.2.2.2))∧(e21.2.2.2≤999))∧((Qc e21.1 x1=0)∨(Qc e21.1 x1<(e21.2.2.1 - e21.2.2.2))))))) Y)) (VRunO.nil ?_)))))))))
    exact jq (congrArg T.bool (jOF (dT _) hg78_6 (dT _))) (js Y (js Y (js Y (js Y (js Y (js Y (js Y (js Y (jn)))))))))
  refine nt ?_
  refine cd (((!((decide (Qu e21.1 x1 e21.2.2.1 e21.2.2.2)) == (decide (((((1≤e21.2.2.1)∧(e21.2.2.1≤999))∧(0≤e21.2.2.2))∧(e21.2.2.2≤999))∧((Qc e21.1 x1=0)∨(Qc e21.1 x1<(e21.2.2.1 - e21.2.2.2)))))))=true)∨(((decide (x1∈(Qh e21.1 e21.2.1 e21.2.2.1 e21.2.2.2))) == (decide (((((1≤e21.2.2.1)∧(e21.2.2.1≤999))∧(0≤e21.2.2.2))∧(e21.2.2.2≤999))∧((Qc e21.1 x1=0)∨(Qc e21.1 x1<(e21.2.2.1 - e21.2.2.2))))))=true)) Y (fun fhc2=> ?_) fun fhc2=> ?_
  ·exact absurd fhc2 (QdO (by unfold Qu;omega) (Qb5 (List.mem_of_getElem? hx1)))
  refine sk (vinB.n (tn (VRun.region (mO (tN i) Y (fO (Yk (tv (tN i) Y) (VEv.int .i64 1) (by first | omega | omega)) (aO (tN (i+1)) Y (VRunO.nil (tn ?_))))))))
  refine ⟨(i+1:Nat),?_,?_,Wk.mk (fun k=>k) ?_ ?_ ?_⟩
  ·first | trivial | omega | (simp;done) | exact ⟨by omega,hI'.2⟩
  ·first | omega | (simp only [];omega) | (show _<_;omega) | (simp;omega)
  ·exact (b2 (b2 (b2 (b2 (b2 (b2 (b2 bn)))))))
  ·exact (b3 (b3 (b3 bn)))
  ·exact nd Y
 refine VRun.exit (vthn.e (vthn.e (vinB.e (tn (sr (mO (rd 1 Qf a0) Y ?_))))))
 refine eP (us:= [(rd 1 Qf a0)]) (r':=fun x_:List D.Used×List ByteArray×Int=>(T.tup [(T.os 2 3 0 ((x_.1.map (Qa true)).length)),(T.os 1 4 0 ((x_.2.1.map (Qd true)).length)),(tI x_.2.2)])) (objs:=fun x_:List D.Used×List ByteArray×Int=> [(Obj.rows 2 (x_.1.map (Qa true))),(Obj.rows 1 (x_.2.1.map (Qd true)))]) (m:=2) VWant.always (vc (tv (rd 1 Qf a0) Y) vn) (YC Y) (Jk (n+2) a0 (by first | omega | assumption | omega | (simp only [List.length_cons,List.length_nil];omega))) Y (fun _=>rfl) (fun _=>rfl) fun e90 hs90=> ?_
 have hs90:gU 11 e90.1∧(e90.2.1.length≤5∧∀y∈e90.2.1,y.size≤10)∧(0≤e90.2.2∧e90.2.2≤1000):=hs90
 refine mO (T.tup [(T.os 2 3 0 ((e90.1.map (Qa true)).length)),(T.os 1 4 0 ((e90.2.1.map (Qd true)).length)),(tI e90.2.2)]) Y (fO (OF.extract (t:=(T.os 2 3 0 ((e90.1.map (Qa true)).length))) (tv (T.tup [(T.os 2 3 0 ((e90.1.map (Qa true)).length)),(T.os 1 4 0 ((e90.2.1.map (Qd true)).length)),(tI e90.2.2)]) Y) Y) (fO (OF.extract (t:=(T.os 1 4 0 ((e90.2.1.map (Qd true)).length))) (tv (T.tup [(T.os 2 3 0 ((e90.1.map (Qa true)).length)),(T.os 1 4 0 ((e90.2.1.map (Qd true)).length)),(tI e90.2.2)]) Y) Y) (fO (OF.extract (t:=(tI e90.2.2)) (tv (T.tup [(T.os 2 3 0 ((e90.1.map (Qa true)).length)),(T.os 1 4 0 ((e90.2.1.map (Qd true)).length)),(tI e90.2.2)]) Y) Y) (aO (T.os 2 3 0 ((e90.1.map (Qa true)).length)) Y (aO (T.os 1 4 0 ((e90.2.1.map (Qd true)).length)) Y (aO (tI e90.2.2) Y (nt ?_)))))))
 have hl2:=hs90.1.1
 have hw2:=hs90.2.1.1
 have hi3:=hs90.2.2
 have hz2:=Qfp hs90.1
 have hz3:=Qdr hw2 hs90.2.1.2
 have hx3:=Qda e90.1 e90.2.1 e90.2.2
 have hx4:=Qeb e90.1 e90.2.1 e90.2.2
 refine sr (mO (T.os 2 3 0 ((e90.1.map (Qa true)).length)) Y (mO (T.os 1 4 0 ((e90.2.1.map (Qd true)).length)) Y (mO (tI e90.2.2) Y (cO (OC.callF (us:= [(rd 2 Qa e90.1),(rd 1 Qd e90.2.1),(tI e90.2.2)]) (r':=(T.tup [(T.os 2 5 0 (((Qr e90.1 e90.2.1 e90.2.2).map (Qa true)).length)),(tB (decide (Ql (Qn e90.1 e90.2.1 e90.2.2))))])) (objs:= [(Obj.rows 2 ((Qr e90.1 e90.2.1 e90.2.2).map (Qa true)))]) Y (vc (tv (T.os 2 3 0 ((e90.1.map (Qa true)).length)) Y) (vc (tv (T.os 1 4 0 ((e90.2.1.map (Qd true)).length)) Y) (vc (tv (tI e90.2.2) Y) vn))) (LendL.cons (Lend.os Y Y (okeUsed.fzMap _ _)) (LendL.cons (Lend.os Y Y (okStr.fzMap _ _)) (lp Y ln))) (Qam (n+5) e90.1 e90.2.1 e90.2.2 (by first | omega | assumption | omega)) Y) (mO (T.tup [(T.os 2 5 0 (((Qr e90.1 e90.2.1 e90.2.2).map (Qa true)).length)),(tB (decide (Ql (Qn e90.1 e90.2.1 e90.2.2))))]) Y (fO (OF.extract (t:=(T.os 2 5 0 (((Qr e90.1 e90.2.1 e90.2.2).map (Qa true)).length))) (tv (T.tup [(T.os 2 5 0 (((Qr e90.1 e90.2.1 e90.2.2).map (Qa true)).length)),(tB (decide (Ql (Qn e90.1 e90.2.1 e90.2.2))))]) Y) Y) (fO (OF.extract (t:=(tB (decide (Ql (Qn e90.1 e90.2.1 e90.2.2))))) (tv (T.tup [(T.os 2 5 0 (((Qr e90.1 e90.2.1 e90.2.2).map (Qa true)).length)),(tB (decide (Ql (Qn e90.1 e90.2.1 e90.2.2))))]) Y) Y) (aO (T.os 2 5 0 (((Qr e90.1 e90.2.1 e90.2.2).map (Qa true)).length)) Y (aO (tB (decide (Ql (Qn e90.1 e90.2.1 e90.2.2)))) Y (nt (sq ?_)))))))))))
 refine sr (mO (tB (decide (Ql (Qn e90.1 e90.2.1 e90.2.2)))) Y (fO (Jj (tv (tB (decide (Ql (Qn e90.1 e90.2.1 e90.2.2)))) Y)) (nt ?_)))
 refine cn (Ql (Qn e90.1 e90.2.1 e90.2.2)) Y (fun fhc3=> ?_) fun fhc3=> ?_
 ·refine sr ?_
  refine mO (T.os 2 5 0 (((Qr e90.1 e90.2.1 e90.2.2).map (Qa true)).length)) Y (lO (B.lenO (m:=(Qr e90.1 e90.2.1 e90.2.2).length) (tv (T.os 2 5 0 (((Qr e90.1 e90.2.1 e90.2.2).map (Qa true)).length)) Y) Zc (List.length_map ..)) (mO (T.os 2 3 0 ((e90.1.map (Qa true)).length)) Y (lO (B.lenO (m:=e90.1.length) (tv (T.os 2 3 0 ((e90.1.map (Qa true)).length)) Y) Zc (List.length_map ..)) (fO (Qfk (tv (tN ((Qr e90.1 e90.2.1 e90.2.2).length)) Y) (tv (tN e90.1.length) Y)) (aO (tB (decide ((Qr e90.1 e90.2.1 e90.2.2).length=e90.1.length))) Y (nt (rt (tr (vb (b':=(decide ((Qr e90.1 e90.2.1 e90.2.2).length=e90.1.length))) Y ?_)))))))))
  first | rfl | (rw [Yi fhc3];exact decide_eq_true Y) | (rw [QZ fhc3,YP];exact decide_eq_true Y) | (exfalso;rw [QZ fhc3] at *;contradiction)
 refine sk (tn (sq (sr (fO (OF.assign (VEv.int .i64 0)) (nt (VRun.block ?_))))))
 refine VRun.loop (A:=Nat) (fun s_=> [(11,(T.os 2 0 0 ((e90.1.map (Qa true)).length))),(12,(T.os 1 1 0 ((e90.2.1.map (Qd true)).length))),(13,(tI e90.2.2)),(14,(T.os 2 2 0 (((Qr e90.1 e90.2.1 e90.2.2).map (Qa true)).length))),(16,(tN s_))]) (fun s_=>YW [(0,(Obj.rows 2 (e90.1.map (Qa true)))),(1,(Obj.rows 1 (e90.2.1.map (Qd true)))),(2,(Obj.rows 2 ((Qr e90.1 e90.2.1 e90.2.2).map (Qa true))))]) 3 (fun s_=>s_≤e90.2.1.length) (fun s_=>e90.2.1.length - s_) (0:Nat) ?_ (Wk.mk (fun k=>if k=0 then 3 else if k=1 then 4 else if k=2 then 5 else k) ?_ ?_ ?_) ?_
 ·first | trivial | (simp;done) | omega | (constructor<;>simp)
 ·exact (b2 (b2 (b2 (b2 (b2 bn)))))
 ·exact (b3 (b3 (b3 bn)))
 ·exact nd Y
 rintro j (hI':j≤e90.2.1.length)
 show VRun _ _ _ [(11,(T.os 2 0 0 ((e90.1.map (Qa true)).length))),(12,(T.os 1 1 0 ((e90.2.1.map (Qd true)).length))),(13,(tI e90.2.2)),(14,(T.os 2 2 0 (((Qr e90.1 e90.2.1 e90.2.2).map (Qa true)).length))),(16,(tN j))] (YW [(0,(Obj.rows 2 (e90.1.map (Qa true)))),(1,(Obj.rows 1 (e90.2.1.map (Qd true)))),(2,(Obj.rows 2 ((Qr e90.1 e90.2.1 e90.2.2).map (Qa true))))]) 3 _
 have hJ1:=hI'
 refine sq (sr (mO (tN j) Y (mO (T.os 1 1 0 ((e90.2.1.map (Qd true)).length)) Y (lO (B.lenO (m:=e90.2.1.length) (tv (T.os 1 1 0 ((e90.2.1.map (Qd true)).length)) Y) Jm (List.length_map ..)) (fO (YM (tv (tN j) Y) (tv (tN e90.2.1.length) Y)) (nt ?_))))))
 refine cd (j<e90.2.1.length) Y (fun fhc4=> ?_) fun fhc4=> ?_
 ·refine sk ?_
  refine tn (sq (VRun.block (sr (mO (T.os 2 2 0 (((Qr e90.1 e90.2.1 e90.2.2).map (Qa true)).length)) Y (mO (T.os 1 1 0 ((e90.2.1.map (Qd true)).length)) Y (mO (tN j) Y ?_))))))
  obtain ⟨x1,hx1⟩:∃x,e90.2.1[j]? =some x:=⟨_,List.getElem?_eq_getElem (by first | omega | omega)⟩
  refine fO (B.indexAddrO (i:=j) (tv (T.os 1 1 0 ((e90.2.1.map (Qd true)).length)) Y) (tv (tN j) Y) Y (by first | omega | omega | (simp only [List.length_map];omega) | (simp only [List.length_map,List.length_append,List.length_cons,List.length_nil,List.length_replicate,List.length_set,List.length_drop,List.length_take,ZQ] at *;omega)) Jm JH if9) (lO (OL.loadP1 (t:=(tS x1)) (row:=(Qd true x1)) (tv (T.orp 1 1 j 0) Y) Y (QE _ hx1) Y Y st9) (cO (cS (us:= [(rd 2 Qa (Qr e90.1 e90.2.1 e90.2.2)),(tS x1)]) (vc (tv (T.os 2 2 0 (((Qr e90.1 e90.2.1 e90.2.2).map (Qa true)).length)) Y) (vc (tv (tS x1) Y) vn)) (LendL.cons (Lend.os Y Y (okeUsed.fzMap _ _)) (lp Y ln)) (ZX (n+8) (Qr e90.1 e90.2.1 e90.2.2) x1 (by first | omega | assumption | omega)) Y Y) (mO (tI e90.2.2) Y (fO (xls (tv (tI (Qc (Qr e90.1 e90.2.1 e90.2.2) x1)) Y) (tv (tI e90.2.2) Y)) (nt ?_)))))
  refine cd (Qc (Qr e90.1 e90.2.1 e90.2.2) x1<e90.2.2) Y (fun fhc5=> ?_) fun fhc5=> ?_
  ·have h5:=Qdf fhc3 (List.mem_of_getElem? hx1)
   exact absurd fhc5 (by omega)
  refine sk (vinB.n (tn (VRun.region (mO (tN j) Y (fO (Yk (tv (tN j) Y) (VEv.int .i64 1) (by first | omega | omega)) (aO (tN (j+1)) Y (VRunO.nil (tn ?_))))))))
  refine ⟨(j+1:Nat),?_,?_,Wk.mk (fun k=>k) ?_ ?_ ?_⟩
  ·first | trivial | omega | (simp;done) | exact ⟨by omega,hI'.2⟩
  ·first | omega | (simp only [];omega) | (show _<_;omega) | (simp;omega)
  ·exact (b2 (b2 (b2 (b2 (b2 bn)))))
  ·exact (b3 (b3 (b3 bn)))
  ·exact nd Y
 refine VRun.exit (vthn.e (vthn.e (vinB.e (tn (sr (mO (T.os 2 2 0 (((Qr e90.1 e90.2.1 e90.2.2).map (Qa true)).length)) Y (cO (cS (us:= [(rd 2 Qa (Qr e90.1 e90.2.1 e90.2.2))]) (vc (tv (T.os 2 2 0 (((Qr e90.1 e90.2.1 e90.2.2).map (Qa true)).length)) Y) vn) (LendL.cons (Lend.os Y Y (okeUsed.fzMap _ _)) ln) (YK (n+6) (Qr e90.1 e90.2.1 e90.2.2) (by first | omega | assumption | omega)) Y Y) (mO (tB (decide (Ql (Qr e90.1 e90.2.1 e90.2.2)))) Y ?_))))))))
 refine gw (Ql (Qr e90.1 e90.2.1 e90.2.2)) (fun fhg124_7=> ?_) fun fhg124_7=> ?_
 ·refine gF (dy fhg124_7) Y Y (OF.move (tv (T.os 2 2 0 (((Qr e90.1 e90.2.1 e90.2.2).map (Qa true)).length)) Y)) ?_
  refine gL (dy fhg124_7) Y Y (B.lenO (m:=(Qr e90.1 e90.2.1 e90.2.2).length) (tv (T.os 2 2 0 (((Qr e90.1 e90.2.1 e90.2.2).map (Qa true)).length)) Y) Zc (List.length_map ..)) (gF (dy fhg124_7) Y Y (OF.move (tv (T.os 2 0 0 ((e90.1.map (Qa true)).length)) Y)) (gL (dy fhg124_7) Y Y (B.lenO (m:=e90.1.length) (tv (T.os 2 0 0 ((e90.1.map (Qa true)).length)) Y) Zc (List.length_map ..)) (gF (dy fhg124_7) Y Y (OF.move (tv (T.os 1 1 0 ((e90.2.1.map (Qd true)).length)) Y)) (gL (dy fhg124_7) Y Y (B.lenO (m:=e90.2.1.length) (tv (T.os 1 1 0 ((e90.2.1.map (Qd true)).length)) Y) Jm (List.length_map ..)) (gF (dy fhg124_7) Y Y (B.add (n:=(((e90.1.length+e90.2.1.length):Nat):Int)) (tv (tN e90.1.length) Y) (tv (tN e90.2.1.length) Y) (by first | omega | rfl | (rw [Qm (by omega)];omega) | (rw [Qm (by omega)];done))) (gF (dy fhg124_7) Y Y (Qfk (tv (tN ((Qr e90.1 e90.2.1 e90.2.2).length)) Y) (tv (tN (e90.1.length+e90.2.1.length)) Y)) (fO (OF.pickT (VEv.tmpB Y (dy fhg124_7)) (tv (tB (decide ((Qr e90.1 e90.2.1 e90.2.2).length=(e90.1.length+e90.2.1.length)))) Y)) (aO (tB (decide ((Qr e90.1 e90.2.1 e90.2.2).length=(e90.1.length+e90.2.1.length)))) Y (nt (rt (vb (b':=(decide ((Qr e90.1 e90.2.1 e90.2.2).length=(e90.1.length+e90.2.1.length)))) Y ?_)))))))))))
  first | rfl | (rw [Yi fhc3];exact decide_eq_true Y) | (rw [QZ fhc3,YP];exact decide_eq_true Y) | (exfalso;rw [QZ fhc3] at *;contradiction)
 refine Yo 8 2 true 124 (dz fhg124_7) Y Y Y (fO (OF.pickF (VEv.tmpB Y (dz fhg124_7)) (VEv.bool false)) (aO (tB false) Y (nt (rt (vb (b':=false) Y ?_)))))
 first | rfl | (rw [Yi fhc3];exact decide_eq_true Y) | (rw [QZ fhc3,YP];exact decide_eq_true Y) | (exfalso;rw [QZ fhc3] at *;contradiction)
theorem Qcj (a:Option Addr) (n c:Nat):(Qco (.slice a n c)).cells.toList= [Qco (.slice a n c)]:=by cases a<;>rfl
theorem QeN {α:Type} {d:AK α} {e:Bool→α→List T} {x:α} {t:T} {h:AH} {v:Value} (hk:RK d e) (he:e false x= [t]) (hr:d.R h x [v]):R h t v:=by
 have h1:=hk h x _ hr
 rw [he] at h1
 exact h1.tail.1
theorem QdB {α:Type} {d:AK α} {e:Bool→α→List T} {x:α} {t:T} {h:AH} {a:Option Addr} {n c:Nat} (hk:RK d e) (he:e false x= [t]) (hr:d.R h x (Qco (.slice a n c)).cells.toList):R h t (Qco (.slice a n c)):=by
 rw [Qcj] at hr
 exact QeN hk he hr
theorem Pure.bool {call:Qq} {f:FuncId} {ts:List T} {b:Bool} (hp:Pure call f ts (.bool b)) {h:AH} {vs:List Value} (hfr:Fr 1 h) (hr:RL h ts vs):CallS call f vs h 1 (fun v _=>v= .bool b):=by
 refine (hp h 1 vs hfr hr).mono ?_
 rintro v h' ⟨_,N,hs,_⟩
 cases hs with
 | fz hr=>cases hr;rfl
open Go Go.RowKit Go.Shelf Go.Lib Go.Proofs
set_option maxHeartbeats 4000000
set_option maxRecDepth 100000
theorem ZA {P:Program} (w:World) (dT sT ty elem:TypeId) {size:Nat} (b o dLen dCap:Nat) (a:Addr) (sLen sCap:Nat) (cs:List Value)
  (hu:P.underlying dT=some (.slice elem)) (hs:∀w,(Go.sizeOf elem).run P w= .ok size w) (hn:cs.length=Nat.min sLen dLen*size)
  (hsrc:∀j v,cs[j]? =some v→w.cell? (a.add j)=some v) (hc:∀j,j<cs.length→(w.cell? ⟨b,o+j,none⟩).isSome=true) (hf:∀j,j<cs.length→w.frozen? ⟨b,o+j,none⟩=false) (h1:∀v∈cs,v.oneCell'=true) :
  (Builtin.copy_ #[dT,sT] ty #[.slice (some ⟨b,o,none⟩) dLen dCap, .slice (some a) sLen sCap]).run P w= .ok (goInt (Nat.min sLen dLen)) (w.setCells b o cs):=by
 have hl:=run_loadCells_list (P:=P) w a cs hsrc
 have hst:=run_storeCells_cells (P:=P) b o cs 0 w (by simpa using hc) (by simpa using hf) h1
 simp [Builtin.copy_,run_underlying hu,Builtin.lenOf,Builtin.firstCells,hs,← hn,hl,hst]
theorem Qc0 (base:Option Addr) (n c vb voff vc:Nat) (w:World) {v':Value} {W':World} (hn:base=none→n=0∧c=0) (hnc:n≤c)
  (hrun:(Builtin.append_ #[24,24] 24 #[.slice base n c, .slice (some ⟨vb,voff,none⟩) 1 vc]).run Try.prog w= .ok v' W') :
  Calls Try.prog 24 #[.slice base n c, .int .i64 n, .slice (some ⟨vb,voff,none⟩) 1 vc] w fun e w'=>e= .returned v'∧w'=W':=by
 have t0:=Try.underlying0;have u0:=run_underlying Try.underlying0
 have t3:=Try.underlying3;have u3:=run_underlying Try.underlying3
 have t4:=Try.underlying4;have u4:=run_underlying Try.underlying4
 have t24:=Try.underlying24;have u24:=run_underlying Try.underlying24
 have t43:=Try.underlying43;have u43:=run_underlying Try.underlying43
 have z0:∀w,(Go.sizeOf 0).run Try.prog w= .ok 1 w:=fun _=>by kernel_rfl
 have z3:∀w,(Go.sizeOf 3).run Try.prog w= .ok 1 w:=fun _=>by kernel_rfl
 have z4:∀w,(Go.sizeOf 4).run Try.prog w= .ok 1 w:=fun _=>by kernel_rfl
 have z24:∀w,(Go.sizeOf 24).run Try.prog w= .ok 1 w:=fun _=>by kernel_rfl
 have z43:∀w,(Go.sizeOf 43).run Try.prog w= .ok 2 w:=fun _=>by kernel_rfl
 have a0:∀w,(isAgg 0).run Try.prog w= .ok false w:=fun _=>by kernel_rfl
 have a3:∀w,(isAgg 3).run Try.prog w= .ok false w:=fun _=>by kernel_rfl
 have a4:∀w,(isAgg 4).run Try.prog w= .ok false w:=fun _=>by kernel_rfl
 have a24:∀w,(isAgg 24).run Try.prog w= .ok false w:=fun _=>by kernel_rfl
 have v24:∀w,(zeroValue 24).run Try.prog w= .ok (Value.slice none 0 0) w:=fun _=>by kernel_rfl
 have v3:∀w,(zeroValue 3).run Try.prog w= .ok (Value.int IntKind.i64 0) w:=fun _=>by kernel_rfl
 have mixed:Try.prog.follows .mixedOrders=true:=by kernel_rfl
 have hz1:¬((1:Int)=0):=by omega
 go_enter Try.func24,Try.ntmps24
 cases base with
 | none =>
  obtain ⟨h0,h1⟩:=hn Y
  subst h0
  subst h1
  go_wp2_with (at_builtin;refine Lib.wpList_append_run _ Y _ _ _ _ Y _ _ Y Y _ _ hrun ?_)
  go_ret
  exact ⟨rfl,rfl⟩
 | some a =>
  obtain ⟨ab,ao,asp⟩:=a
  go_wp2_with (at_builtin;refine Lib.wpList_append_run _ Y _ _ _ _ Y _ _ Y Y _ _ hrun ?_)
  all_goals (go_ret;exact ⟨rfl,rfl⟩)
theorem Qb1 (b off n c i vb voff vc:Nat) (cs vs:List Value) (w:World) (hi:i<n) (hroom:n+1≤c) (hn63:n<9223372036854775807) (hvb:vb≠b)
    (hcl:cs.length=n*2) (hvl:vs.length=2)
    (hcs:∀j v,cs[j]? =some v→w.cell? ⟨b,off+j,none⟩=some v) (hsp:∀j,j<(n+1)*2→(w.cell? ⟨b,off+j,none⟩).isSome=true) (hfz:∀j,j<(n+1)*2→w.frozen? ⟨b,off+j,none⟩=false)
    (hvs:∀j v,vs[j]? =some v→w.cell? ⟨vb,voff+j,none⟩=some v) (h1c:∀v∈cs,v.oneCell'=true) (h1v:∀v∈vs,v.oneCell'=true)
    (tA tB:TypeId) (kA kB:Nat) (hsa:w.shape? vb=some (tA,kA)) (hsb:w.shape? b=some (tB,kB)) (hkB:kB≠0) (hfa:w.frozen? ⟨vb,voff,none⟩=false) (hfe:w.frozen? ⟨vb,kA,none⟩=false) :
    Calls Try.prog 24 #[.slice (some ⟨b,off,none⟩) n c, .int .i64 i, .slice (some ⟨vb,voff,none⟩) 1 vc] w fun e w' =>
      e= .returned (.slice (some ⟨b,off,none⟩) (n+1) c)∧w'=(w.drew.setCells b (off+(i+1)*2) (cs.drop (i*2))).setCells b (off+i*2) vs:=by
  have t0:=Try.underlying0;have u0:=run_underlying Try.underlying0
  have t3:=Try.underlying3;have u3:=run_underlying Try.underlying3
  have t4:=Try.underlying4;have u4:=run_underlying Try.underlying4
  have t24:=Try.underlying24;have u24:=run_underlying Try.underlying24
  have t43:=Try.underlying43;have u43:=run_underlying Try.underlying43
  have z0:∀w,(Go.sizeOf 0).run Try.prog w= .ok 1 w:=fun _=>by kernel_rfl
  have z3:∀w,(Go.sizeOf 3).run Try.prog w= .ok 1 w:=fun _=>by kernel_rfl
  have z4:∀w,(Go.sizeOf 4).run Try.prog w= .ok 1 w:=fun _=>by kernel_rfl
  have z24:∀w,(Go.sizeOf 24).run Try.prog w= .ok 1 w:=fun _=>by kernel_rfl
  have z43:∀w,(Go.sizeOf 43).run Try.prog w= .ok 2 w:=fun _=>by kernel_rfl
  have a0:∀w,(isAgg 0).run Try.prog w= .ok false w:=fun _=>by kernel_rfl
  have a3:∀w,(isAgg 3).run Try.prog w= .ok false w:=fun _=>by kernel_rfl
  have a4:∀w,(isAgg 4).run Try.prog w= .ok false w:=fun _=>by kernel_rfl
  have a24:∀w,(isAgg 24).run Try.prog w= .ok false w:=fun _=>by kernel_rfl
  have v24:∀w,(zeroValue 24).run Try.prog w= .ok (Value.slice none 0 0) w:=fun _=>by kernel_rfl
  have v3:∀w,(zeroValue 3).run Try.prog w= .ok (Value.int IntKind.i64 0) w:=fun _=>by kernel_rfl
  have mixed:Try.prog.follows .mixedOrders=true:=by kernel_rfl
  have hz1:¬((1:Int)=0):=by omega
  have hz2:¬((i:Int)=(n:Int)):=by omega
  have hov:∀lb cb,(callFunc 32 #[.slice (some ⟨vb,voff,none⟩) 1 vc, .slice (some ⟨b,off+(i+1)*2,none⟩) lb cb]).run Try.prog w= .ok (.value (.bool false)) w:=fun lb cb=>by
    rw [run_callFunc_extern Try.func32 (by kernel_rfl) (by kernel_rfl) (by kernel_rfl) (e:=Extern.SlicesOverlaps.overlaps #[24,24] #[4]) (by kernel_rfl),
      Lib.run_overlaps_apart w 24 4 43 Try.underlying24 2 z43 ⟨vb,voff,none⟩ ⟨b,off+(i+1)*2,none⟩ 1 vc lb cb hvb tA tB kA kB hsa hsb hkB hfa hfe]
    rfl
  have hdl:(cs.drop (i*2)).length=(n - i)*2:=by rw [List.length_drop,hcl];omega
  have hw1:IntKind.i64.wrap ((i:Int)+1)=(i:Int)+1:=by rw [IntKind.wrap_i64];omega
  have hw2:IntKind.i64.wrap ((n:Int)+1)=(n:Int)+1:=by rw [IntKind.wrap_i64];omega
  have hb1:(0:Int)≤(i:Int)+1:=by omega
  have hin:i≤n:=by omega
  have htn:((i:Int)+1).toNat=i+1:=by omega
  have hb2:¬(c=i+1):=by omega
  have hb3:(i:Int)≤(n:Int)+1:=by omega
  have hb4:¬(c=i):=by omega
  have hcp1:∀ty dc sc,(Builtin.copy_ #[24,24] ty #[.slice (some ⟨b,off+(i+1)*2,none⟩) (n - i) dc, .slice (some ⟨b,off+i*2,none⟩) (n+1 - i) sc]).run Try.prog w.drew= .ok (goInt (Nat.min (n+1 - i) (n - i))) (w.drew.setCells b (off+(i+1)*2) (cs.drop (i*2))):=fun ty dc sc =>
    ZA w.drew _ _ ty 43 b (off+(i+1)*2) (n - i) dc ⟨b,off+i*2,none⟩ (n+1 - i) sc (cs.drop (i*2)) Try.underlying24 z43 (by rw [hdl];simp only [Nat.min_def];split<;>omega)
      (fun j v hj=>by rw [Addr.add_lit,Nat.add_assoc];exact hcs (i*2+j) v (by rwa [List.getElem?_drop] at hj))
      (fun j hj=>by rw [Nat.add_assoc];exact hsp _ (by omega)) (fun j hj=>by rw [Nat.add_assoc];exact hfz _ (by omega)) (fun v hv=>h1c v (List.mem_of_mem_drop hv))
  obtain ⟨W1,hW1⟩:∃W1,W1=w.drew.setCells b (off+(i+1)*2) (cs.drop (i*2)):=⟨_,rfl⟩
  have hsp1:∀k,k<(n+1)*2→(W1.cell? ⟨b,off+k,none⟩).isSome=true:=fun k hk=>by
    rw [hW1]
    exact isSome_setCells b _ _ _ (fun j hj=>by rw [Nat.add_assoc];exact hsp _ (by omega)) _ (hsp k hk)
  have hcp2:∀(W:World),(∀x,W.cell? x=W1.cell? x)→(∀x,W.frozen? x=W1.frozen? x)→∀ty dc,(Builtin.copy_ #[24,24] ty #[.slice (some ⟨b,off+i*2,none⟩) (n+1 - i) dc, .slice (some ⟨vb,voff,none⟩) 1 vc]).run Try.prog W= .ok (goInt (Nat.min 1 (n+1 - i))) (W.setCells b (off+i*2) vs):=fun W hWc hWf ty dc =>
    ZA W _ _ ty 43 b (off+i*2) (n+1 - i) dc ⟨vb,voff,none⟩ 1 vc vs Try.underlying24 z43 (by rw [hvl];simp only [Nat.min_def];split<;>omega)
      (fun j v hj=>by
        rw [Addr.add_lit,hWc,hW1,World.cell?_setCells_out b _ _ _ _ (fun h _=>absurd h hvb)]
        exact hvs j v hj)
      (fun j hj=>by rw [hWc,Nat.add_assoc];exact hsp1 _ (by omega)) (fun j hj=>by rw [hWf,hW1,World.frozen?_setCells,Nat.add_assoc];exact hfz _ (by omega)) h1v
  rw [← hW1] at hcp1
  go_enter Try.func24,Try.ntmps24
  go_wp2_with (simp only [hov])
  go_region_law_o (refine step_copy_runI Y _ _ 24 24 Y _ _ (by simp [Act.eval,Act.put]) (by simp [Act.eval,Act.put]) (hcp1 _ _ _) ?_)
  go_wp2_with (at_builtin;refine wpList_copy_runI _ Y _ _ 24 24 Y _ _ Y Y (hcp2 _ (fun _=>rfl) (fun _=>rfl) _ _) ?_)
  go_ret
  first | exact ⟨rfl,rfl⟩ | exact ⟨rfl,by rw [hW1]⟩
theorem QcC (b off n i vb voff vc:Nat) (cs vs:List Value) (w:World) (hi:i<n) (hn63:n<4611686018427387904) {i0:TypeInfo} {z:Value} (hi0:Try.prog.info? 43=some i0) (hz0:i0.zero=some z) (hzs:i0.size=2) (hzc:z.cells.size=2) (hbig:2*(n+1)*i0.bytes≤281474976710656)
    (hcl:cs.length=n*2) (hvl:vs.length=2)
    (hcs:∀j v,cs[j]? =some v→w.cell? ⟨b,off+j,none⟩=some v)
    (hvs:∀j v,vs[j]? =some v→w.cell? ⟨vb,voff+j,none⟩=some v) (h1c:∀v∈cs,v.oneCell'=true) (h1v:∀v∈vs,v.oneCell'=true) :
    Calls Try.prog 24 #[.slice (some ⟨b,off,none⟩) n n, .int .i64 i, .slice (some ⟨vb,voff,none⟩) 1 vc] w fun e w' =>
      e= .returned (.slice (some ⟨w.heap.size,0,none⟩) (n+1) (grownCap w (n+1) n 43)) ∧
      w'=(((w.alloc (.cells ((cs.take (i*2)).toArray++Builtin.zeroCells z.cells (n+1 - i)++Builtin.zeroCells z.cells (grownCap w (n+1) n 43 - (n+1))) 43)).drew.setCells w.heap.size (i*2) vs).drew).setCells w.heap.size ((i+1)*2) (cs.drop (i*2)):=by
  have t0:=Try.underlying0;have u0:=run_underlying Try.underlying0
  have t3:=Try.underlying3;have u3:=run_underlying Try.underlying3
  have t4:=Try.underlying4;have u4:=run_underlying Try.underlying4
  have t24:=Try.underlying24;have u24:=run_underlying Try.underlying24
  have t43:=Try.underlying43;have u43:=run_underlying Try.underlying43
  have z0:∀w,(Go.sizeOf 0).run Try.prog w= .ok 1 w:=fun _=>by kernel_rfl
  have z3:∀w,(Go.sizeOf 3).run Try.prog w= .ok 1 w:=fun _=>by kernel_rfl
  have z4:∀w,(Go.sizeOf 4).run Try.prog w= .ok 1 w:=fun _=>by kernel_rfl
  have z24:∀w,(Go.sizeOf 24).run Try.prog w= .ok 1 w:=fun _=>by kernel_rfl
  have z43:∀w,(Go.sizeOf 43).run Try.prog w= .ok 2 w:=fun _=>by kernel_rfl
  have a0:∀w,(isAgg 0).run Try.prog w= .ok false w:=fun _=>by kernel_rfl
  have a3:∀w,(isAgg 3).run Try.prog w= .ok false w:=fun _=>by kernel_rfl
  have a4:∀w,(isAgg 4).run Try.prog w= .ok false w:=fun _=>by kernel_rfl
  have a24:∀w,(isAgg 24).run Try.prog w= .ok false w:=fun _=>by kernel_rfl
  have v24:∀w,(zeroValue 24).run Try.prog w= .ok (Value.slice none 0 0) w:=fun _=>by kernel_rfl
  have v3:∀w,(zeroValue 3).run Try.prog w= .ok (Value.int IntKind.i64 0) w:=fun _=>by kernel_rfl
  have mixed:Try.prog.follows .mixedOrders=true:=by kernel_rfl
  have hz1:¬((1:Int)=0):=by omega
  have hz2:¬((i:Int)=(n:Int)):=by omega
  have hz3:(n:Int)<(n:Int)+1:=by omega
  have hbw:b<w.heap.size:=block_lt_of_cell (hcs 0 _ (List.getElem?_eq_getElem (by omega)))
  have hvw:vb<w.heap.size:=block_lt_of_cell (hvs 0 _ (List.getElem?_eq_getElem (by omega)))
  have hkk:(n:Int)+1 - (i:Int)=((n+1 - i:Nat):Int):=by omega
  have hik:i+(n+1 - i)=n+1:=by omega
  have hold:(Builtin.firstCells i0.size i (.slice (some ⟨b,off,none⟩) i n)).run Try.prog w.drew= .ok (cs.take (i*2)).toArray w.drew:=by
    rw [hzs]
    exact run_firstCells_some w.drew 2 i ⟨b,off,none⟩ i n (cs.take (i*2)) (by rw [List.length_take];omega) (fun j v hj=>by
      rw [Addr.add_lit]
      rw [List.getElem?_take] at hj
      split at hj
      · exact hcs j v hj
      · cases hj)
  have hbi:(n+1 - i)*i0.bytes≤281474976710656:=Nat.le_trans (Nat.mul_le_mul_right _ (by omega)) hbig
  have hfit:Builtin.nextslicecap (n+1) n*i0.bytes≤281474976710656:=Nat.le_trans (Nat.mul_le_mul_right _ (nextslicecap_le (by omega))) hbig
  have hrz:∀ty,(Builtin.append_ #[24,3] ty #[.slice (some ⟨b,off,none⟩) i n, .int .i64 ((n:Int)+1 - (i:Int))]).run Try.prog w =
      .ok (.slice (some ⟨w.heap.size,0,none⟩) (n+1) (grownCap w (n+1) n 43)) (w.drew.alloc (.cells ((cs.take (i*2)).toArray++Builtin.zeroCells z.cells (n+1 - i)++Builtin.zeroCells z.cells (grownCap w (n+1) n 43 - (n+1))) 43)):=fun ty=>by
    have h:=Lib.run_append_grow_zeros w 24 3 ty 43 i0 _ .i64 .i64 Try.underlying24 Try.underlying3 hi0 hz0 (some ⟨b,off,none⟩) i n (cs.take (i*2)) hold (n+1 - i) (by omega) (by omega) (by omega) (by omega) hbi (by rw [hik];exact hfit)
    rw [hik] at h
    rw [hkk]
    exact h
  obtain ⟨G,hG⟩:∃G,G=grownCap w (n+1) n 43:=⟨_,rfl⟩
  obtain ⟨ROW,hROW⟩:∃ROW:Array Value,ROW=(cs.take (i*2)).toArray++Builtin.zeroCells z.cells (n+1 - i)++Builtin.zeroCells z.cells (G - (n+1)):=⟨_,rfl⟩
  rw [← hG] at hrz ⊢
  rw [← hROW] at hrz ⊢
  have hRl:(n+1)*2≤ROW.size:=by
    rw [hROW]
    have hq:∀k,(Builtin.zeroCells z.cells k).size=k*z.cells.size:=fun k=>by simp [Builtin.zeroCells]
    rw [Array.size_append,Array.size_append,hq,hq,hzc,List.size_toArray,List.length_take,hcl]
    omega
  obtain ⟨W1,hW1⟩:∃W1,W1=w.drew.alloc (.cells ROW 43):=⟨_,rfl⟩
  rw [← hW1] at hrz
  have hN:∀j,j<(n+1)*2→(W1.cell? ⟨w.heap.size,j,none⟩).isSome=true:=fun j hj=>by
    rw [hW1,World.cell?_alloc_at (w:=w.drew) ROW _ w.heap.size j Y,Array.getElem?_eq_getElem (by omega)];rfl
  have hNf:∀j,W1.frozen? ⟨w.heap.size,j,none⟩=false:=fun j=>by rw [hW1];exact World.frozen?_alloc_at (w:=w.drew) ROW _ w.heap.size j Y
  have hOb:∀j v,w.cell? ⟨b,j,none⟩=some v→W1.cell? ⟨b,j,none⟩=some v:=fun j v h=>by rw [hW1,World.cell?_alloc_past (w:=w.drew) _ b j hbw];exact h
  have hOv:∀j v,w.cell? ⟨vb,j,none⟩=some v→W1.cell? ⟨vb,j,none⟩=some v:=fun j v h=>by rw [hW1,World.cell?_alloc_past (w:=w.drew) _ vb j hvw];exact h
  have hcpA:∀(W:World),(∀x,W.cell? x=W1.cell? x)→(∀x,W.frozen? x=W1.frozen? x)→∀ty dc,(Builtin.copy_ #[24,24] ty #[.slice (some ⟨w.heap.size,i*2,none⟩) (n+1 - i) dc, .slice (some ⟨vb,voff,none⟩) 1 vc]).run Try.prog W= .ok (goInt (Nat.min 1 (n+1 - i))) (W.setCells w.heap.size (i*2) vs):=fun W hWc hWf ty dc =>
    ZA W _ _ ty 43 w.heap.size (i*2) (n+1 - i) dc ⟨vb,voff,none⟩ 1 vc vs Try.underlying24 z43 (by rw [hvl];simp only [Nat.min_def];split<;>omega)
      (fun j v hj=>by rw [Addr.add_lit,hWc];exact hOv _ v (hvs j v hj))
      (fun j hj=>by rw [hWc];exact hN _ (by omega)) (fun j hj=>by rw [hWf];exact hNf _) h1v
  have hGn:n+1≤G:=by rw [hG];exact Z5 w _ _ _
  have hGi:¬(G=i):=by omega
  have hGim:¬(G=i+1):=by omega
  have hci:¬(n=i):=by omega
  have hbN:b≠w.heap.size:=by omega
  have hdl:(cs.drop (i*2)).length=(n - i)*2:=by rw [List.length_drop,hcl];omega
  have hcpB:∀(W:World),(∀x,W.cell? x=(W1.setCells w.heap.size (i*2) vs).cell? x)→(∀x,W.frozen? x=(W1.setCells w.heap.size (i*2) vs).frozen? x)→∀ty dc sc,(Builtin.copy_ #[24,24] ty #[.slice (some ⟨w.heap.size,(i+1)*2,none⟩) (n - i) dc, .slice (some ⟨b,off+i*2,none⟩) (n - i) sc]).run Try.prog W= .ok (goInt (Nat.min (n - i) (n - i))) (W.setCells w.heap.size ((i+1)*2) (cs.drop (i*2))):=fun W hWc hWf ty dc sc =>
    ZA W _ _ ty 43 w.heap.size ((i+1)*2) (n - i) dc ⟨b,off+i*2,none⟩ (n - i) sc (cs.drop (i*2)) Try.underlying24 z43 (by rw [hdl];simp only [Nat.min_def];split<;>omega)
      (fun j v hj=>by
        rw [Addr.add_lit,hWc,World.cell?_setCells_out _ _ _ _ _ (fun h _=>absurd h hbN),Nat.add_assoc]
        exact hOb _ v (hcs (i*2+j) v (by rwa [List.getElem?_drop] at hj)))
      (fun j hj=>by rw [hWc];exact isSome_setCells _ _ _ _ (fun t ht=>hN _ (by omega)) _ (hN _ (by omega)))
      (fun j hj=>by rw [hWf,World.frozen?_setCells];exact hNf _) (fun v hv=>h1c v (List.mem_of_mem_drop hv))
  subst hW1
  have hE1:∀x,((w.alloc (.cells ROW 43)).drew).cell? x=(w.drew.alloc (.cells ROW 43)).cell? x:=fun x=>rfl
  have hE2:∀x,((w.alloc (.cells ROW 43)).drew).frozen? x=(w.drew.alloc (.cells ROW 43)).frozen? x:=fun x=>rfl
  have hF1:∀x,(((w.alloc (.cells ROW 43)).drew.setCells w.heap.size (i*2) vs).drew).cell? x=((w.drew.alloc (.cells ROW 43)).setCells w.heap.size (i*2) vs).cell? x:=fun x=>rfl
  have hF2:∀x,(((w.alloc (.cells ROW 43)).drew.setCells w.heap.size (i*2) vs).drew).frozen? x=((w.drew.alloc (.cells ROW 43)).setCells w.heap.size (i*2) vs).frozen? x:=fun x=>rfl
  have hw1:IntKind.i64.wrap ((i:Int)+1)=(i:Int)+1:=by rw [IntKind.wrap_i64];omega
  have hw2:IntKind.i64.wrap ((n:Int)+1)=(n:Int)+1:=by rw [IntKind.wrap_i64];omega
  have hw3:IntKind.i64.wrap ((n:Int)+1 - (i:Int))=(n:Int)+1 - (i:Int):=by rw [IntKind.wrap_i64];omega
  have hb1:(0:Int)≤(i:Int)+1:=by omega
  have hin:i≤n:=by omega
  have htn:((i:Int)+1).toNat=i+1:=by omega
  have hb3:(i:Int)≤(n:Int):=by omega
  clear hkk hik hold hROW hG hRl
  go_enter Try.func24,Try.ntmps24
  go_wp2_with (first
    | (at_builtin;refine Lib.wpList_append_run _ Y _ _ _ _ Y _ _ Y Y _ _ (hrz _) ?_)
    | (at_builtin;refine wpList_copy_runI _ Y _ _ 24 24 Y _ _ Y Y (hcpA _ hE1 hE2 _ _) ?_)
    | (at_builtin;refine wpList_copy_runI _ Y _ _ 24 24 Y _ _ Y Y (hcpB _ (fun _=>rfl) (fun _=>rfl) _ _ _) ?_))
  go_region_law_o (refine step_copy_runI Y _ _ 24 24 Y (.slice (some ⟨w.heap.size,(i+1)*2,none⟩) (n - i) (G - (i+1))) (.slice (some ⟨b,off+i*2,none⟩) (n - i) (n - i)) (by simp [Act.eval,Act.put]) (by simp [Act.eval,Act.put]) (hcpB _ hF1 hF2 3 (G - (i+1)) (n - i)) ?_)
  go_wp2
  go_ret
  exact ⟨rfl,rfl⟩
theorem Qec : Qeu Try.prog 24 24 43 2 24 where
 ut:=Try.underlying24
 info:=⟨_,_,rfl,rfl,rfl,rfl,rfl⟩
 wide:=by decide
 fin base n c vb voff vc w _ _ h1 h2 h3:=Qc0 base n c vb voff vc w h1 h2 h3
 shift b off n c i vb voff vc cs vs w h1 h2 h3 h4 h5 h6 h7 h8 h9 h10 h11 h12 tA tB kA kB h13 h14 h15 h16 h17:=Qb1 b off n c i vb voff vc cs vs w h1 h2 h3 h4 h5 h6 h7 h8 h9 h10 h11 h12 tA tB kA kB h13 h14 h15 h16 h17
 grow b off n i vb voff vc cs vs w h1 h2 _ _ h3 h4 h5 h6 h7 h8 h9 h10 h11 h12 h13:=QcC b off n i vb voff vc cs vs w h1 h2 h3 h4 h5 h6 h7 h8 h9 h10 h11 h12 h13
open Go
theorem QeV : Qcu Try.prog:=by
 intro f hf
 by_cases h0:f=24
 ·subst h0
  exact Qcf Qec
 simp [Yc,h0] at hf
end Go.Proofs.Ytcglnehpapgfpaa.AE
