/- A part of what the row of FnHints uses. Conditions: as each theorem states. -/
import Derived.Test.YtcglnehpapgfpaaDoorZFnHintse
import Derived.Shelf.Spec.SlicesInsertGrow
import Derived.Test.YtcglnehpapgfpaaDoorProg
import Derived.Shelf.LaysM
import Derived.Shelf.Strings.Replace
namespace Go.Proofs.YtcglnehpapgfpaaDoor.AE
open Go Go.RowKit
set_option linter.unusedVariables false
set_option linter.unusedSimpArgs false
set_option maxRecDepth 20000
set_option maxHeartbeats 2000000
theorem QbD (n:Nat) (a0:List Int) (g0:(a0.length≤maxLen∧∀y∈a0,(Lit.int .u8 y).wf=true)):Pure (Qm Tryd.prog (n+12)) 3 [(rd 1 Qi a0)] (tB true):=by
 refine Pure.intro (rs:= [ResultVar.tmp 2]) Tryd.func3 Y Y Y (E0:= [(0,(rd 1 Qi a0))]) Y ?_
 obtain ⟨hlim,hmx,hmax⟩:=QG
 refine sr (fO (OF.assign (VEv.bool false)) (nt (sq (sr (mO (rd 1 Qi a0) Y (cO (cS (vc (tv (rd 1 Qi a0) Y) vn) (QR Y) (Qd5 (n+10) a0) Y Y) (nt ?_)))))))
 refine cd (1048576<a0.length) Y (fun fhc0=> ?_) fun fhc0=> ?_
 ·refine sr ?_
  refine fO (OF.assign (VEv.bool true)) (nt (rt (tr ?_)))
  exact vb Y Y
 refine sk (tn (sr (mO (rd 1 Qi a0) Y ?_)))
 refine eP (us:= [(rd 1 Qi a0)]) (r':=fun x_:D.Clue×ByteArray×Int=>(T.tup [(T.agg [(tI x_.1.Sense),(T.os 4 0 0 ((x_.1.Play.map (Qb true)).length))]),(tS x_.2.1),(tI x_.2.2)])) (objs:=fun x_:D.Clue×ByteArray×Int=> [(Obj.rows 4 (x_.1.Play.map (Qb true)))]) (m:=1) VWant.always (vc (tv (rd 1 Qi a0) Y) vn) (QR Y) (Yz (n+2) a0 (by first | omega | assumption | omega | (simp only [List.length_cons,List.length_nil];omega))) Y (fun _=>rfl) (fun _=>rfl) fun e19 hs19=> ?_
 have hs19:gC e19.1∧e19.2.1.size≤10:=hs19
 refine mO (T.tup [(T.agg [(tI e19.1.Sense),(T.os 4 0 0 ((e19.1.Play.map (Qb true)).length))]),(tS e19.2.1),(tI e19.2.2)]) Y (fO (OF.extract (t:=(T.agg [(tI e19.1.Sense),(T.os 4 0 0 ((e19.1.Play.map (Qb true)).length))])) (tv (T.tup [(T.agg [(tI e19.1.Sense),(T.os 4 0 0 ((e19.1.Play.map (Qb true)).length))]),(tS e19.2.1),(tI e19.2.2)]) Y) Y) (fO (OF.extract (t:=(tS e19.2.1)) (tv (T.tup [(T.agg [(tI e19.1.Sense),(T.os 4 0 0 ((e19.1.Play.map (Qb true)).length))]),(tS e19.2.1),(tI e19.2.2)]) Y) Y) (fO (OF.extract (t:=(tI e19.2.2)) (tv (T.tup [(T.agg [(tI e19.1.Sense),(T.os 4 0 0 ((e19.1.Play.map (Qb true)).length))]),(tS e19.2.1),(tI e19.2.2)]) Y) Y) (kO (B.alloc (t:=(T.agg [(tN 0),T.nils])) (ts:= [(tN 0),T.nils]) QaB QaI nofun (fun _=> .agg _ _ Y (Ys (RL.cons (.int _ _) (RL.cons (.nils) (RL.nil _))))) Y) (cO (B.storeW (us:= [(tI e19.1.Sense),(T.os 4 0 0 ((e19.1.Play.map (Qb true)).length))]) (tv (T.op 1 0) Y) (tv (T.agg [(tI e19.1.Sense),(T.os 4 0 0 ((e19.1.Play.map (Qb true)).length))]) Y) nofun Y Y Y Ji QQ (bc Y (bc Y bn))) (aO (tS e19.2.1) Y (aO (tI e19.2.2) Y (nt ?_))))))))
 have hz19:=QfX hs19.1
 have hw19:=hs19.2
 have hz4:=Qgz hw19
 simp only [JB] at hz4
 have hhs:=Qbt e19.1 e19.2.1 e19.2.2
 refine sr (lO (OL.loadOn (us:= [(tI e19.1.Sense),(T.os 4 0 0 ((e19.1.Play.map (Qb true)).length))]) (tv (T.op 1 0) Y) Y Zj QQ (lb Y) Y) (mO (tS e19.2.1) Y (mO (tI e19.2.2) Y (cO (cS (us:= [(T.agg (QA false e19.1)),(tS e19.2.1),(tI e19.2.2)]) (vc (tv (T.agg [(tI e19.1.Sense),(T.os 4 0 0 ((e19.1.Play.map (Qb true)).length))]) Y) (vc (tv (tS e19.2.1) Y) (vc (tv (tI e19.2.2) Y) vn))) (LendL.cons (Lend.agg (LendL.cons (Lend.pl Y) (LendL.cons (Lend.os Y Y (okeStep.fzMap _ _)) ln))) (lp Y (lp Y ln))) (JJ (n+5) e19.1 e19.2.1 e19.2.2 (by first | omega | assumption | omega) (by first | omega | assumption | omega)) Y Y) (aO (tS (Qd e19.1 e19.2.1 e19.2.2)) Y (nt (sq (sq (VRun.draw (B:= [[],[0],[],[0,1,2],[2,3,0,1]]) (by kernel_rfl) (by kernel_rfl) Y (lD (OL.loadOn (us:= [(tI e19.1.Sense),(T.os 4 0 0 ((e19.1.Play.map (Qb true)).length))]) (tv (T.op 1 0) Y) Y Zj QQ (lb Y) Y) Y Y (VRunD.quiet (bi:= [0]) Y VWant.always Y Y Y bn (cS (us:= [(T.agg (QA false e19.1))]) (vc (tv (T.agg [(tI e19.1.Sense),(T.os 4 0 0 ((e19.1.Play.map (Qb true)).length))]) Y) vn) (LendL.cons (Lend.agg (LendL.cons (Lend.pl Y) (LendL.cons (Lend.os Y Y (okeStep.fzMap _ _)) ln))) ln) (Y0 (n+7) e19.1 (by first | omega | assumption | omega)) Y Y) ?_)))))))))))
 refine lD (OL.loadOn (us:= [(tI e19.1.Sense),(T.os 4 0 0 ((e19.1.Play.map (Qb true)).length))]) (tv (T.op 1 0) Y) Y Zj QQ (lb Y) Y) Y Y (VRunD.quiet (bi:= [0,1,2]) Y VWant.always Y Y Y bn (cS (us:= [(T.agg (QA false e19.1))]) (vc (tv (T.agg [(tI e19.1.Sense),(T.os 4 0 0 ((e19.1.Play.map (Qb true)).length))]) Y) vn) (LendL.cons (Lend.agg (LendL.cons (Lend.pl Y) (LendL.cons (Lend.os Y Y (okeStep.fzMap _ _)) ln))) ln) (J6 (n+6) e19.1 (by first | omega | assumption | omega)) Y Y) (fD (B.bneq U4 (c:=(!((decide ((1≤e19.1.Sense∧e19.1.Sense≤99)∧Qp e19.1.Play)) == (decide ((1≤e19.1.Sense∧e19.1.Sense≤99)∧Qp e19.1.Play))))) (tv (tB (decide ((1≤e19.1.Sense∧e19.1.Sense≤99)∧Qp e19.1.Play))) Y) (tv (tB (decide ((1≤e19.1.Sense∧e19.1.Sense≤99)∧Qp e19.1.Play))) Y) Y) Y Y (VRunD.nil (tn ?_))))
 refine VRun.cond (tv (tB (!((decide ((1≤e19.1.Sense∧e19.1.Sense≤99)∧Qp e19.1.Play)) == (decide ((1≤e19.1.Sense∧e19.1.Sense≤99)∧Qp e19.1.Play))))) Y) (fun hc1=> ?_) (fun hc1=> ?_)
 ·have fhc1:(!((decide ((1≤e19.1.Sense∧e19.1.Sense≤99)∧Qp e19.1.Play)) == (decide ((1≤e19.1.Sense∧e19.1.Sense≤99)∧Qp e19.1.Play))))=true:=hc1
  refine sr (fO (OF.assign (VEv.bool false)) (nt (rt (tr (vb (b':=false) Y ?_)))))
  first | rfl | (exfalso;exact J4 fhc1) | (exfalso;exact Qb6 fhc2) | (exfalso;exact Qcc haf fhc4) | (exfalso;exact fhc8 (QK (List.mem_of_getElem? hx1)).1) | (exact decide_eq_true (fun y hy=>(QK hy).2)) | (exfalso;exact ‹¬x1=e19.2.1› (haf.2.2.1 ‹e19.2.2=4› x1 (List.mem_of_getElem? hx1))) | (exfalso;exact ‹¬QI x1=QI e19.2.1› (haf.2.2.2 ‹e19.2.2=3› x1 (List.mem_of_getElem? hx1))) | (exfalso;omega)
 have fhc1:(!((decide ((1≤e19.1.Sense∧e19.1.Sense≤99)∧Qp e19.1.Play)) == (decide ((1≤e19.1.Sense∧e19.1.Sense≤99)∧Qp e19.1.Play))))=false:=hc1
 refine sk (tn (sq (sr (mO (tS (Qd e19.1 e19.2.1 e19.2.2)) Y (fO (B.sneq (c:=(!(decide (Qd e19.1 e19.2.1 e19.2.2=(⟨#[]⟩:ByteArray))))) (tv (tS (Qd e19.1 e19.2.1 e19.2.2)) Y) (VEv.str (⟨#[]⟩:ByteArray)) Y) (lO (OL.loadOn (us:= [(tI e19.1.Sense),(T.os 4 0 0 ((e19.1.Play.map (Qb true)).length))]) (tv (T.op 1 0) Y) Y Zj QQ (lb Y) Y) (cO (cS (us:= [(T.agg (QA false e19.1))]) (vc (tv (T.agg [(tI e19.1.Sense),(T.os 4 0 0 ((e19.1.Play.map (Qb true)).length))]) Y) vn) (LendL.cons (Lend.agg (LendL.cons (Lend.pl Y) (LendL.cons (Lend.os Y Y (okeStep.fzMap _ _)) ln))) ln) (Y0 (n+7) e19.1 (by first | omega | assumption | omega)) Y Y) (mO (tB (decide ((1≤e19.1.Sense∧e19.1.Sense≤99)∧Qp e19.1.Play))) Y ?_))))))))
 refine VRunO.joinB 3 [37,38] 39 (tB (decide (((1≤e19.1.Sense∧e19.1.Sense≤99)∧Qp e19.1.Play)∧(Qr e19.2.1)))) ?_ ?_
 ·refine gw ((1≤e19.1.Sense∧e19.1.Sense≤99)∧Qp e19.1.Play) (fun fhg36_1=> ?_) fun fhg36_1=> ?_
  ·refine gF (dy fhg36_1) Y Y (OF.move (tv (tS e19.2.1) Y)) ?_
   refine VRunO.chain (VWant.on Y Y (dy fhg36_1)) (cS (vc (tv (tS e19.2.1) Y) vn) (QR Y) (Z3 (n+9) e19.2.1 (by first | omega | assumption | omega)) Y Y) (fO (OF.pickT (VEv.tmpB Y (dy fhg36_1)) (tv (tB (decide (Qr e19.2.1))) Y)) (VRunO.nil ?_))
   exact jq (congrArg T.bool (kAT fhg36_1 Y)) (js Y (js Y (jn)))
  ·refine QB 2 4 true 36 (dz fhg36_1) Y Y Y ?_
   refine fO (OF.pickF (VEv.tmpB Y (dz fhg36_1)) (VEv.bool false)) (VRunO.nil ?_)
   exact jq (congrArg T.bool (kAF fhg36_1)) (js Y (js Y (jn)))
 refine mO (tB (decide (((1≤e19.1.Sense∧e19.1.Sense≤99)∧Qp e19.1.Play)∧(Qr e19.2.1)))) Y ?_
 refine VRunO.joinB 4 [41,42,43] 44 (tB (decide ((((1≤e19.1.Sense∧e19.1.Sense≤99)∧Qp e19.1.Play)∧(Qr e19.2.1))∧(¬(hnS e19.2.2=(⟨#[]⟩:ByteArray)))))) ?_ ?_
 ·refine gw (((1≤e19.1.Sense∧e19.1.Sense≤99)∧Qp e19.1.Play)∧(Qr e19.2.1)) (fun fhg40_2=> ?_) fun fhg40_2=> ?_
  ·refine gF (dy fhg40_2) Y Y (OF.move (tv (tI e19.2.2) Y)) ?_
   refine VRunO.chain (VWant.on Y Y (dy fhg40_2)) (cS (vc (tv (tI e19.2.2) Y) vn) (QR Y) (Js (n+9) e19.2.2) Y Y) (gF (dy fhg40_2) Y Y (B.sneq (c:=(!(decide (hnS e19.2.2=(⟨#[]⟩:ByteArray))))) (tv (tS (hnS e19.2.2)) Y) (VEv.str (⟨#[]⟩:ByteArray)) Y) (fO (OF.pickT (VEv.tmpB Y (dy fhg40_2)) (tv (tB (!(decide (hnS e19.2.2=(⟨#[]⟩:ByteArray))))) Y)) (VRunO.nil ?_)))
   exact jq (congrArg T.bool (kAT fhg40_2 dN)) (js Y (js Y (js Y (jn))))
  ·refine QB 3 8 true 40 (dz fhg40_2) Y Y Y ?_
   refine fO (OF.pickF (VEv.tmpB Y (dz fhg40_2)) (VEv.bool false)) (VRunO.nil ?_)
   exact jq (congrArg T.bool (kAF fhg40_2)) (js Y (js Y (js Y (jn))))
 refine fO (B.bneq U4 (c:=(!((!(decide (Qd e19.1 e19.2.1 e19.2.2=(⟨#[]⟩:ByteArray)))) == (decide ((((1≤e19.1.Sense∧e19.1.Sense≤99)∧Qp e19.1.Play)∧(Qr e19.2.1))∧(¬(hnS e19.2.2=(⟨#[]⟩:ByteArray)))))))) (tv (tB (!(decide (Qd e19.1 e19.2.1 e19.2.2=(⟨#[]⟩:ByteArray))))) Y) (tv (tB (decide ((((1≤e19.1.Sense∧e19.1.Sense≤99)∧Qp e19.1.Play)∧(Qr e19.2.1))∧(¬(hnS e19.2.2=(⟨#[]⟩:ByteArray)))))) Y) Y) (mO (tB (!((!(decide (Qd e19.1 e19.2.1 e19.2.2=(⟨#[]⟩:ByteArray)))) == (decide ((((1≤e19.1.Sense∧e19.1.Sense≤99)∧Qp e19.1.Play)∧(Qr e19.2.1))∧(¬(hnS e19.2.2=(⟨#[]⟩:ByteArray)))))))) Y ?_)
 refine VRunO.joinB 8 [47,48,49,50,51,52,53] 54 (tB (decide (((!((!(decide (Qd e19.1 e19.2.1 e19.2.2=(⟨#[]⟩:ByteArray)))) == (decide ((((1≤e19.1.Sense∧e19.1.Sense≤99)∧Qp e19.1.Play)∧(Qr e19.2.1))∧(¬(hnS e19.2.2=(⟨#[]⟩:ByteArray)))))))=true)∨((!((decide (0<ZL e19.2.2)) == (!(decide (hnS e19.2.2=(⟨#[]⟩:ByteArray))))))=true)))) ?_ ?_
 ·refine Qau (!((!(decide (Qd e19.1 e19.2.1 e19.2.2=(⟨#[]⟩:ByteArray)))) == (decide ((((1≤e19.1.Sense∧e19.1.Sense≤99)∧Qp e19.1.Play)∧(Qr e19.2.1))∧(¬(hnS e19.2.2=(⟨#[]⟩:ByteArray))))))) (fun hg46_3=> ?_) (fun hg46_3=> ?_)
  ·have fhg46_3:(!((!(decide (Qd e19.1 e19.2.1 e19.2.2=(⟨#[]⟩:ByteArray)))) == (decide ((((1≤e19.1.Sense∧e19.1.Sense≤99)∧Qp e19.1.Play)∧(Qr e19.2.1))∧(¬(hnS e19.2.2=(⟨#[]⟩:ByteArray)))))))=true:=hg46_3
   refine QB 7 14 false 46 hg46_3 Y Y Y (fO (OF.pickT (VEv.tmpB Y hg46_3) (VEv.bool true)) (VRunO.nil ?_))
   exact jq (congrArg T.bool (jOT (dT _) hg46_3)) (js Y (js Y (js Y (js Y (js Y (js Y (js Y (jn))))))))
  ·have fhg46_3:(!((!(decide (Qd e19.1 e19.2.1 e19.2.2=(⟨#[]⟩:ByteArray)))) == (decide ((((1≤e19.1.Sense∧e19.1.Sense≤99)∧Qp e19.1.Play)∧(Qr e19.2.1))∧(¬(hnS e19.2.2=(⟨#[]⟩:ByteArray)))))))=false:=hg46_3
   refine gF hg46_3 Y Y (OF.move (tv (tI e19.2.2) Y)) (VRunO.chain (VWant.on Y Y hg46_3) (cS (vc (tv (tI e19.2.2) Y) vn) (QR Y) (Qb8 (n+9) e19.2.2) Y Y) (gF hg46_3 Y Y (xgt (tv (tI (ZL e19.2.2)) Y) (VEv.int .i64 0)) (gF hg46_3 Y Y (OF.move (tv (tI e19.2.2) Y)) (VRunO.chain (VWant.on Y Y hg46_3) (cS (vc (tv (tI e19.2.2) Y) vn) (QR Y) (Js (n+9) e19.2.2) Y Y) (gF hg46_3 Y Y (B.sneq (c:=(!(decide (hnS e19.2.2=(⟨#[]⟩:ByteArray))))) (tv (tS (hnS e19.2.2)) Y) (VEv.str (⟨#[]⟩:ByteArray)) Y) (gF hg46_3 Y Y (B.bneq U4 (c:=(!((decide (0<ZL e19.2.2)) == (!(decide (hnS e19.2.2=(⟨#[]⟩:ByteArray))))))) (tv (tB (decide (0<ZL e19.2.2))) Y) (tv (tB (!(decide (hnS e19.2.2=(⟨#[]⟩:ByteArray))))) Y) Y) (fO (OF.pickF (VEv.tmpB Y hg46_3) (tv (tB (!((decide (0<ZL e19.2.2)) == (!(decide (hnS e19.2.2=(⟨#[]⟩:ByteArray))))))) Y)) (VRunO.nil ?_))))))))
   exact jq (congrArg T.bool (jOF (dT _) hg46_3 (dT _))) (js Y (js Y (js Y (js Y (js Y (js Y (js Y (jn))))))))
 refine nt ?_
 refine cd (((!((!(decide (Qd e19.1 e19.2.1 e19.2.2=(⟨#[]⟩:ByteArray)))) == (decide ((((1≤e19.1.Sense∧e19.1.Sense≤99)∧Qp e19.1.Play)∧(Qr e19.2.1))∧(¬(hnS e19.2.2=(⟨#[]⟩:ByteArray)))))))=true)∨((!((decide (0<ZL e19.2.2)) == (!(decide (hnS e19.2.2=(⟨#[]⟩:ByteArray))))))=true)) Y (fun fhc2=> ?_) fun fhc2=> ?_
 ·refine sr ?_
  refine fO (OF.assign (VEv.bool false)) (nt (rt (tr (vb (b':=false) Y ?_))))
  first | rfl | (exfalso;exact J4 fhc1) | (exfalso;exact Qb6 fhc2) | (exfalso;exact Qcc haf fhc4) | (exfalso;exact fhc8 (QK (List.mem_of_getElem? hx1)).1) | (exact decide_eq_true (fun y hy=>(QK hy).2)) | (exfalso;exact ‹¬x1=e19.2.1› (haf.2.2.1 ‹e19.2.2=4› x1 (List.mem_of_getElem? hx1))) | (exfalso;exact ‹¬QI x1=QI e19.2.1› (haf.2.2.2 ‹e19.2.2=3› x1 (List.mem_of_getElem? hx1))) | (exfalso;omega)
 refine sk (tn (sq (sr (mO (tS (Qd e19.1 e19.2.1 e19.2.2)) Y (fO (B.sneq (c:=(!(decide (Qd e19.1 e19.2.1 e19.2.2=(⟨#[]⟩:ByteArray))))) (tv (tS (Qd e19.1 e19.2.1 e19.2.2)) Y) (VEv.str (⟨#[]⟩:ByteArray)) Y) (nt ?_))))))
 refine cn (Qd e19.1 e19.2.1 e19.2.2=(⟨#[]⟩:ByteArray)) Y (fun fhc3=> ?_) fun fhc3=> ?_
 ·have haf:=Qht fhc3
  have hal:=Jd e19.1 (JB e19.2.1) e19.2.2 (Qd e19.1 e19.2.1 e19.2.2)
  have hal4:(JB e19.2.1).length=4:=rfl
  rw [hal4] at hal
  have htl:=QgJ hw19
  simp only [JB] at haf hal htl
  refine sr (lO (OL.loadOn (us:= [(tI e19.1.Sense),(T.os 4 0 0 ((e19.1.Play.map (Qb true)).length))]) (tv (T.op 1 0) Y) Y Zj QQ (lb Y) Y) (mO (tS e19.2.1) Y (kO (OM.buildSlice (l:= [(tS (⟨#[99,97,116]⟩:ByteArray)),(tS e19.2.1),(tS (⟨#[116,101,110]⟩:ByteArray)),(tS (⟨#[116,101,97]⟩:ByteArray))]) (VEvp.cons (VEv.str (⟨#[99,97,116]⟩:ByteArray)) (VEvp.cons (tv (tS e19.2.1) Y) (VEvp.cons (VEv.str (⟨#[116,101,110]⟩:ByteArray)) (VEvp.cons (VEv.str (⟨#[116,101,97]⟩:ByteArray)) VEvp.nil)))) Y (by decide) (bc (nofun) (bc (nofun) (bc (nofun) (bc (nofun) bn)))) (bc ((bc (Y) bn)) (bc ((bc (Y) bn)) (bc ((bc (Y) bn)) (bc ((bc (Y) bn)) bn)))) (bc (Y) (bc (Y) (bc (Y) (bc (Y) bn)))) Y1 zo9 (by kernel_rfl) Y (by rw [Yx];decide) Yx (Nat.le_of_ble_eq_true Y)) (mO (tI e19.2.2) Y (mO (tS (Qd e19.1 e19.2.1 e19.2.2)) Y (cO (OC.callF (us:= [(T.agg (QA false e19.1)),(T.sl false 1 [[(tS (⟨#[99,97,116]⟩:ByteArray))],[(tS e19.2.1)],[(tS (⟨#[116,101,110]⟩:ByteArray))],[(tS (⟨#[116,101,97]⟩:ByteArray))]]),(tI e19.2.2),(tS (Qd e19.1 e19.2.1 e19.2.2))]) (r':=(T.os 1 3 0 (((Qc e19.1 [(⟨#[99,97,116]⟩:ByteArray),e19.2.1,(⟨#[116,101,110]⟩:ByteArray),(⟨#[116,101,97]⟩:ByteArray)] e19.2.2 (Qd e19.1 e19.2.1 e19.2.2)).map (Qf true)).length))) (objs:= [(Obj.rows 1 ((Qc e19.1 [(⟨#[99,97,116]⟩:ByteArray),e19.2.1,(⟨#[116,101,110]⟩:ByteArray),(⟨#[116,101,97]⟩:ByteArray)] e19.2.2 (Qd e19.1 e19.2.1 e19.2.2)).map (Qf true)))]) Y (vc (tv (T.agg [(tI e19.1.Sense),(T.os 4 0 0 ((e19.1.Play.map (Qb true)).length))]) Y) (vc (tv (T.os 1 2 0 4) Y) (vc (tv (tI e19.2.2) Y) (vc (tv (tS (Qd e19.1 e19.2.1 e19.2.2)) Y) vn)))) (LendL.cons (Lend.agg (LendL.cons (Lend.pl Y) (LendL.cons (Lend.os Y Y (okeStep.fzMap _ _)) ln))) (LendL.cons (Lend.os Y Y Y) (lp Y (lp Y ln)))) (ZX (n+1) e19.1 [(⟨#[99,97,116]⟩:ByteArray),e19.2.1,(⟨#[116,101,110]⟩:ByteArray),(⟨#[116,101,97]⟩:ByteArray)] e19.2.2 (Qd e19.1 e19.2.1 e19.2.2) (by first | omega | assumption | omega) (by first | omega | assumption | omega)) Y) (aO (T.os 1 3 0 (((Qc e19.1 [(⟨#[99,97,116]⟩:ByteArray),e19.2.1,(⟨#[116,101,110]⟩:ByteArray),(⟨#[116,101,97]⟩:ByteArray)] e19.2.2 (Qd e19.1 e19.2.1 e19.2.2)).map (Qf true)).length)) Y (nt (sq (sr (mO (T.os 1 3 0 (((Qc e19.1 [(⟨#[99,97,116]⟩:ByteArray),e19.2.1,(⟨#[116,101,110]⟩:ByteArray),(⟨#[116,101,97]⟩:ByteArray)] e19.2.2 (Qd e19.1 e19.2.1 e19.2.2)).map (Qf true)).length)) Y ?_)))))))))))
  refine mO (tS e19.2.1) Y (cO (cS (us:= [(rd 1 Qf (Qc e19.1 [(⟨#[99,97,116]⟩:ByteArray),e19.2.1,(⟨#[116,101,110]⟩:ByteArray),(⟨#[116,101,97]⟩:ByteArray)] e19.2.2 (Qd e19.1 e19.2.1 e19.2.2))),(tS e19.2.1)]) (vc (tv (T.os 1 3 0 (((Qc e19.1 [(⟨#[99,97,116]⟩:ByteArray),e19.2.1,(⟨#[116,101,110]⟩:ByteArray),(⟨#[116,101,97]⟩:ByteArray)] e19.2.2 (Qd e19.1 e19.2.1 e19.2.2)).map (Qf true)).length)) Y) (vc (tv (tS e19.2.1) Y) vn)) (LendL.cons (Lend.os Y Y (okStr.fzMap _ _)) (lp Y ln)) (JM (n+8) (Qc e19.1 [(⟨#[99,97,116]⟩:ByteArray),e19.2.1,(⟨#[116,101,110]⟩:ByteArray),(⟨#[116,101,97]⟩:ByteArray)] e19.2.2 (Qd e19.1 e19.2.1 e19.2.2)) e19.2.1 (by first | omega | assumption | omega)) Y Y) (fO (QZ (tv (tB (decide (e19.2.1∈(Qc e19.1 [(⟨#[99,97,116]⟩:ByteArray),e19.2.1,(⟨#[116,101,110]⟩:ByteArray),(⟨#[116,101,97]⟩:ByteArray)] e19.2.2 (Qd e19.1 e19.2.1 e19.2.2))))) Y)) (mO (tB (!(decide (e19.2.1∈(Qc e19.1 [(⟨#[99,97,116]⟩:ByteArray),e19.2.1,(⟨#[116,101,110]⟩:ByteArray),(⟨#[116,101,97]⟩:ByteArray)] e19.2.2 (Qd e19.1 e19.2.1 e19.2.2)))))) Y ?_)))
  refine VRunO.joinB 8 [68,69,70,71,72,73,74] 75 (tB (decide ((¬(e19.2.1∈(Qc e19.1 [(⟨#[99,97,116]⟩:ByteArray),e19.2.1,(⟨#[116,101,110]⟩:ByteArray),(⟨#[116,101,97]⟩:ByteArray)] e19.2.2 (Qd e19.1 e19.2.1 e19.2.2))))∨((e19.2.2≤2)∧(¬((Qc e19.1 [(⟨#[99,97,116]⟩:ByteArray),e19.2.1,(⟨#[116,101,110]⟩:ByteArray),(⟨#[116,101,97]⟩:ByteArray)] e19.2.2 (Qd e19.1 e19.2.1 e19.2.2)).length=4)))))) ?_ ?_
  ·refine gn (e19.2.1∈(Qc e19.1 [(⟨#[99,97,116]⟩:ByteArray),e19.2.1,(⟨#[116,101,110]⟩:ByteArray),(⟨#[116,101,97]⟩:ByteArray)] e19.2.2 (Qd e19.1 e19.2.1 e19.2.2))) (fun fhg67_4=> ?_) fun fhg67_4=> ?_
   ·refine QB 3 4 false 67 (ny fhg67_4) Y Y Y ?_
    refine JY 3 7 true 70 Y Y Y (oO Y Y (ny fhg67_4) (fO (OF.pickT (VEv.tmpB Y (ny fhg67_4)) (VEv.bool true)) (VRunO.nil ?_)))
    exact jq (congrArg T.bool (kOT fhg67_4)) (js Y (js Y (js Y (js Y (js Y (js Y (js Y (jn))))))))
   ·refine gF (nz fhg67_4) Y Y (OF.move (tv (tI e19.2.2) Y)) ?_
    refine gF (nz fhg67_4) Y Y (xle (tv (tI e19.2.2) Y) (VEv.int .i64 2)) (gF (nz fhg67_4) Y Y (OF.move (tv (tB (decide (e19.2.2≤2))) Y)) ?_)
    refine VRunO.joinB 4 [71,72,73] 74 (tB (decide ((e19.2.2≤2)∧(¬((Qc e19.1 [(⟨#[99,97,116]⟩:ByteArray),e19.2.1,(⟨#[116,101,110]⟩:ByteArray),(⟨#[116,101,97]⟩:ByteArray)] e19.2.2 (Qd e19.1 e19.2.1 e19.2.2)).length=4))))) ?_ ?_
    ·refine gw (e19.2.2≤2) (fun fhg70_5=> ?_) fun fhg70_5=> ?_
     ·refine gF (dy fhg70_5) Y Y (OF.move (tv (T.os 1 3 0 (((Qc e19.1 [(⟨#[99,97,116]⟩:ByteArray),e19.2.1,(⟨#[116,101,110]⟩:ByteArray),(⟨#[116,101,97]⟩:ByteArray)] e19.2.2 (Qd e19.1 e19.2.1 e19.2.2)).map (Qf true)).length)) Y)) ?_
      refine gL (dy fhg70_5) Y Y (B.lenO (m:=(Qc e19.1 [(⟨#[99,97,116]⟩:ByteArray),e19.2.1,(⟨#[116,101,110]⟩:ByteArray),(⟨#[116,101,97]⟩:ByteArray)] e19.2.2 (Qd e19.1 e19.2.1 e19.2.2)).length) (tv (T.os 1 3 0 (((Qc e19.1 [(⟨#[99,97,116]⟩:ByteArray),e19.2.1,(⟨#[116,101,110]⟩:ByteArray),(⟨#[116,101,97]⟩:ByteArray)] e19.2.2 (Qd e19.1 e19.2.1 e19.2.2)).map (Qf true)).length)) Y) Y1 (List.length_map ..)) (gF (dy fhg70_5) Y Y (B.neq (c:=(!(decide ((Qc e19.1 [(⟨#[99,97,116]⟩:ByteArray),e19.2.1,(⟨#[116,101,110]⟩:ByteArray),(⟨#[116,101,97]⟩:ByteArray)] e19.2.2 (Qd e19.1 e19.2.1 e19.2.2)).length=4)))) (tv (tN ((Qc e19.1 [(⟨#[99,97,116]⟩:ByteArray),e19.2.1,(⟨#[116,101,110]⟩:ByteArray),(⟨#[116,101,97]⟩:ByteArray)] e19.2.2 (Qd e19.1 e19.2.1 e19.2.2)).length)) Y) (VEv.int .i64 4) (by first | omega | (exact Qfw (by omega)))) (gF (nz fhg67_4) Y Y (OF.pickT (VEv.tmpB Y (dy fhg70_5)) (tv (tB (!(decide ((Qc e19.1 [(⟨#[99,97,116]⟩:ByteArray),e19.2.1,(⟨#[116,101,110]⟩:ByteArray),(⟨#[116,101,97]⟩:ByteArray)] e19.2.2 (Qd e19.1 e19.2.1 e19.2.2)).length=4)))) Y)) (VRunO.nil ?_)))
      exact jq (congrArg T.bool (kAT fhg70_5 dN)) (js Y (js Y (js Y (jn))))
     ·refine QB 3 7 true 70 (dz fhg70_5) Y Y Y ?_
      refine gF (nz fhg67_4) Y Y (OF.pickF (VEv.tmpB Y (dz fhg70_5)) (VEv.bool false)) (VRunO.nil ?_)
      exact jq (congrArg T.bool (kAF fhg70_5)) (js Y (js Y (js Y (jn))))
    refine fO (OF.pickF (VEv.tmpB Y (nz fhg67_4)) (tv (tB (decide ((e19.2.2≤2)∧(¬((Qc e19.1 [(⟨#[99,97,116]⟩:ByteArray),e19.2.1,(⟨#[116,101,110]⟩:ByteArray),(⟨#[116,101,97]⟩:ByteArray)] e19.2.2 (Qd e19.1 e19.2.1 e19.2.2)).length=4))))) Y)) (VRunO.nil ?_)
    exact jq (congrArg T.bool (kOF (not_not_intro fhg67_4) Y)) (js Y (js Y (js Y (js Y (js Y (js Y (js Y (jn))))))))
  refine mO (tB (decide ((¬(e19.2.1∈(Qc e19.1 [(⟨#[99,97,116]⟩:ByteArray),e19.2.1,(⟨#[116,101,110]⟩:ByteArray),(⟨#[116,101,97]⟩:ByteArray)] e19.2.2 (Qd e19.1 e19.2.1 e19.2.2))))∨((e19.2.2≤2)∧(¬((Qc e19.1 [(⟨#[99,97,116]⟩:ByteArray),e19.2.1,(⟨#[116,101,110]⟩:ByteArray),(⟨#[116,101,97]⟩:ByteArray)] e19.2.2 (Qd e19.1 e19.2.1 e19.2.2)).length=4)))))) Y ?_
  refine VRunO.joinB 15 [77,78,79,80,81,82,83,84,85,86,87,88,89,90] 91 (tB (decide (((¬(e19.2.1∈(Qc e19.1 [(⟨#[99,97,116]⟩:ByteArray),e19.2.1,(⟨#[116,101,110]⟩:ByteArray),(⟨#[116,101,97]⟩:ByteArray)] e19.2.2 (Qd e19.1 e19.2.1 e19.2.2))))∨((e19.2.2≤2)∧(¬((Qc e19.1 [(⟨#[99,97,116]⟩:ByteArray),e19.2.1,(⟨#[116,101,110]⟩:ByteArray),(⟨#[116,101,97]⟩:ByteArray)] e19.2.2 (Qd e19.1 e19.2.1 e19.2.2)).length=4))))∨((e19.2.2=4)∧(((Qc e19.1 [(⟨#[99,97,116]⟩:ByteArray),e19.2.1,(⟨#[116,101,110]⟩:ByteArray),(⟨#[116,101,97]⟩:ByteArray)] e19.2.2 (Qd e19.1 e19.2.1 e19.2.2)).length=0)∨(¬(((Qc e19.1 [(⟨#[99,97,116]⟩:ByteArray),e19.2.1,(⟨#[116,101,110]⟩:ByteArray),(⟨#[116,101,97]⟩:ByteArray)] e19.2.2 (Qd e19.1 e19.2.1 e19.2.2))[0]?.getD ByteArray.empty)=e19.2.1))))))) ?_ ?_
  ·refine gw ((¬(e19.2.1∈(Qc e19.1 [(⟨#[99,97,116]⟩:ByteArray),e19.2.1,(⟨#[116,101,110]⟩:ByteArray),(⟨#[116,101,97]⟩:ByteArray)] e19.2.2 (Qd e19.1 e19.2.1 e19.2.2))))∨((e19.2.2≤2)∧(¬((Qc e19.1 [(⟨#[99,97,116]⟩:ByteArray),e19.2.1,(⟨#[116,101,110]⟩:ByteArray),(⟨#[116,101,97]⟩:ByteArray)] e19.2.2 (Qd e19.1 e19.2.1 e19.2.2)).length=4)))) (fun fhg76_6=> ?_) fun fhg76_6=> ?_
   ·refine QB 3 13 false 76 (dy fhg76_6) Y Y Y ?_
    refine JY 4 16 true 79 Y Y Y (JY 5 20 false 83 Y Y Y (uO Y Y (oO Y Y (dy fhg76_6) (fO (OF.pickT (VEv.tmpB Y (dy fhg76_6)) (VEv.bool true)) (VRunO.nil ?_)))))
    exact jq (congrArg T.bool (kOT fhg76_6)) (js Y (js Y (js Y (js Y (js Y (js Y (js Y (js Y (js Y (js Y (js Y (js Y (js Y (js Y (jn)))))))))))))))
   ·refine gF (dz fhg76_6) Y Y (OF.move (tv (tI e19.2.2) Y)) ?_
    refine gF (dz fhg76_6) Y Y (ZU (tv (tI e19.2.2) Y) (VEv.int .i64 4)) (gF (dz fhg76_6) Y Y (OF.move (tv (tB (decide (e19.2.2=4))) Y)) ?_)
    refine VRunO.joinB 11 [80,81,82,83,84,85,86,87,88,89] 90 (tB (decide ((e19.2.2=4)∧(((Qc e19.1 [(⟨#[99,97,116]⟩:ByteArray),e19.2.1,(⟨#[116,101,110]⟩:ByteArray),(⟨#[116,101,97]⟩:ByteArray)] e19.2.2 (Qd e19.1 e19.2.1 e19.2.2)).length=0)∨(¬(((Qc e19.1 [(⟨#[99,97,116]⟩:ByteArray),e19.2.1,(⟨#[116,101,110]⟩:ByteArray),(⟨#[116,101,97]⟩:ByteArray)] e19.2.2 (Qd e19.1 e19.2.1 e19.2.2))[0]?.getD ByteArray.empty)=e19.2.1)))))) ?_ ?_
    ·refine gw (e19.2.2=4) (fun fhg79_7=> ?_) fun fhg79_7=> ?_
     ·refine gF (dy fhg79_7) Y Y (OF.move (tv (T.os 1 3 0 (((Qc e19.1 [(⟨#[99,97,116]⟩:ByteArray),e19.2.1,(⟨#[116,101,110]⟩:ByteArray),(⟨#[116,101,97]⟩:ByteArray)] e19.2.2 (Qd e19.1 e19.2.1 e19.2.2)).map (Qf true)).length)) Y)) ?_
      refine gL (dy fhg79_7) Y Y (B.lenO (m:=(Qc e19.1 [(⟨#[99,97,116]⟩:ByteArray),e19.2.1,(⟨#[116,101,110]⟩:ByteArray),(⟨#[116,101,97]⟩:ByteArray)] e19.2.2 (Qd e19.1 e19.2.1 e19.2.2)).length) (tv (T.os 1 3 0 (((Qc e19.1 [(⟨#[99,97,116]⟩:ByteArray),e19.2.1,(⟨#[116,101,110]⟩:ByteArray),(⟨#[116,101,97]⟩:ByteArray)] e19.2.2 (Qd e19.1 e19.2.1 e19.2.2)).map (Qf true)).length)) Y) Y1 (List.length_map ..)) (gF (dy fhg79_7) Y Y (B.eql (c:=(decide ((Qc e19.1 [(⟨#[99,97,116]⟩:ByteArray),e19.2.1,(⟨#[116,101,110]⟩:ByteArray),(⟨#[116,101,97]⟩:ByteArray)] e19.2.2 (Qd e19.1 e19.2.1 e19.2.2)).length=0))) (tv (tN ((Qc e19.1 [(⟨#[99,97,116]⟩:ByteArray),e19.2.1,(⟨#[116,101,110]⟩:ByteArray),(⟨#[116,101,97]⟩:ByteArray)] e19.2.2 (Qd e19.1 e19.2.1 e19.2.2)).length)) Y) (VEv.int .i64 0) (by first | omega | (exact Zp (by omega)))) (gF (dy fhg79_7) Y Y (OF.move (tv (tB (decide ((Qc e19.1 [(⟨#[99,97,116]⟩:ByteArray),e19.2.1,(⟨#[116,101,110]⟩:ByteArray),(⟨#[116,101,97]⟩:ByteArray)] e19.2.2 (Qd e19.1 e19.2.1 e19.2.2)).length=0))) Y)) ?_))
      refine VRunO.joinB 6 [84,85,86,87,88] 89 (tB (decide (((Qc e19.1 [(⟨#[99,97,116]⟩:ByteArray),e19.2.1,(⟨#[116,101,110]⟩:ByteArray),(⟨#[116,101,97]⟩:ByteArray)] e19.2.2 (Qd e19.1 e19.2.1 e19.2.2)).length=0)∨(¬(((Qc e19.1 [(⟨#[99,97,116]⟩:ByteArray),e19.2.1,(⟨#[116,101,110]⟩:ByteArray),(⟨#[116,101,97]⟩:ByteArray)] e19.2.2 (Qd e19.1 e19.2.1 e19.2.2))[0]?.getD ByteArray.empty)=e19.2.1))))) ?_ ?_
      ·refine gw ((Qc e19.1 [(⟨#[99,97,116]⟩:ByteArray),e19.2.1,(⟨#[116,101,110]⟩:ByteArray),(⟨#[116,101,97]⟩:ByteArray)] e19.2.2 (Qd e19.1 e19.2.1 e19.2.2)).length=0) (fun fhg83_8=> ?_) fun fhg83_8=> ?_
       ·refine QB 5 20 false 83 (dy fhg83_8) Y Y Y ?_
        refine gF (dy fhg79_7) Y Y (OF.pickT (VEv.tmpB Y (dy fhg83_8)) (VEv.bool true)) (VRunO.nil ?_)
        exact jq (congrArg T.bool (kOT fhg83_8)) (js Y (js Y (js Y (js Y (js Y (jn))))))
       ·refine gF (dz fhg83_8) Y Y (OF.move (tv (T.os 1 3 0 (((Qc e19.1 [(⟨#[99,97,116]⟩:ByteArray),e19.2.1,(⟨#[116,101,110]⟩:ByteArray),(⟨#[116,101,97]⟩:ByteArray)] e19.2.2 (Qd e19.1 e19.2.1 e19.2.2)).map (Qf true)).length)) Y)) ?_
        have hy9:(Qc e19.1 [(⟨#[99,97,116]⟩:ByteArray),e19.2.1,(⟨#[116,101,110]⟩:ByteArray),(⟨#[116,101,97]⟩:ByteArray)] e19.2.2 (Qd e19.1 e19.2.1 e19.2.2))[0]? =some ((Qc e19.1 [(⟨#[99,97,116]⟩:ByteArray),e19.2.1,(⟨#[116,101,110]⟩:ByteArray),(⟨#[116,101,97]⟩:ByteArray)] e19.2.2 (Qd e19.1 e19.2.1 e19.2.2))[0]?.getD ByteArray.empty):=QfR ByteArray.empty (by first | omega | omega)
        refine gF (dz fhg83_8) Y Y (B.indexAddrO (i:=0) (tv (T.os 1 3 0 (((Qc e19.1 [(⟨#[99,97,116]⟩:ByteArray),e19.2.1,(⟨#[116,101,110]⟩:ByteArray),(⟨#[116,101,97]⟩:ByteArray)] e19.2.2 (Qd e19.1 e19.2.1 e19.2.2)).map (Qf true)).length)) Y) (VEv.int .i64 0) Y (by first | omega | omega | (simp only [List.length_map];omega) | (simp only [List.length_map,List.length_append,List.length_cons,List.length_nil,List.length_replicate,List.length_set,List.length_drop,List.length_take,Zb] at *;omega)) Y1 Yx if9) (gL (dz fhg83_8) Y Y (OL.loadP1 (t:=(tS ((Qc e19.1 [(⟨#[99,97,116]⟩:ByteArray),e19.2.1,(⟨#[116,101,110]⟩:ByteArray),(⟨#[116,101,97]⟩:ByteArray)] e19.2.2 (Qd e19.1 e19.2.1 e19.2.2))[0]?.getD ByteArray.empty))) (row:=(Qf true ((Qc e19.1 [(⟨#[99,97,116]⟩:ByteArray),e19.2.1,(⟨#[116,101,110]⟩:ByteArray),(⟨#[116,101,97]⟩:ByteArray)] e19.2.2 (Qd e19.1 e19.2.1 e19.2.2))[0]?.getD ByteArray.empty))) (tv (T.orp 1 3 0 0) Y) Y (Qs _ hy9) Y Y st9) (gF (dz fhg83_8) Y Y (OF.move (tv (tS e19.2.1) Y)) (gF (dz fhg83_8) Y Y (B.sneq (c:=(!(decide (((Qc e19.1 [(⟨#[99,97,116]⟩:ByteArray),e19.2.1,(⟨#[116,101,110]⟩:ByteArray),(⟨#[116,101,97]⟩:ByteArray)] e19.2.2 (Qd e19.1 e19.2.1 e19.2.2))[0]?.getD ByteArray.empty)=e19.2.1)))) (tv (tS ((Qc e19.1 [(⟨#[99,97,116]⟩:ByteArray),e19.2.1,(⟨#[116,101,110]⟩:ByteArray),(⟨#[116,101,97]⟩:ByteArray)] e19.2.2 (Qd e19.1 e19.2.1 e19.2.2))[0]?.getD ByteArray.empty)) Y) (tv (tS e19.2.1) Y) Y) (gF (dy fhg79_7) Y Y (OF.pickF (VEv.tmpB Y (dz fhg83_8)) (tv (tB (!(decide (((Qc e19.1 [(⟨#[99,97,116]⟩:ByteArray),e19.2.1,(⟨#[116,101,110]⟩:ByteArray),(⟨#[116,101,97]⟩:ByteArray)] e19.2.2 (Qd e19.1 e19.2.1 e19.2.2))[0]?.getD ByteArray.empty)=e19.2.1)))) Y)) (VRunO.nil ?_)))))
        exact jq (congrArg T.bool (kOF fhg83_8 dN)) (js Y (js Y (js Y (js Y (js Y (jn))))))
      refine gF (dz fhg76_6) Y Y (OF.pickT (VEv.tmpB Y (dy fhg79_7)) (tv (tB (decide (((Qc e19.1 [(⟨#[99,97,116]⟩:ByteArray),e19.2.1,(⟨#[116,101,110]⟩:ByteArray),(⟨#[116,101,97]⟩:ByteArray)] e19.2.2 (Qd e19.1 e19.2.1 e19.2.2)).length=0)∨(¬(((Qc e19.1 [(⟨#[99,97,116]⟩:ByteArray),e19.2.1,(⟨#[116,101,110]⟩:ByteArray),(⟨#[116,101,97]⟩:ByteArray)] e19.2.2 (Qd e19.1 e19.2.1 e19.2.2))[0]?.getD ByteArray.empty)=e19.2.1))))) Y)) (VRunO.nil ?_)
      exact jq (congrArg T.bool (kAT fhg79_7 Y)) (js Y (js Y (js Y (js Y (js Y (js Y (js Y (js Y (js Y (js Y (jn)))))))))))
     ·refine QB 4 16 true 79 (dz fhg79_7) Y Y Y ?_
      refine JY 5 20 false 83 Y Y Y (oO Y Y (dz fhg79_7) (gF (dz fhg76_6) Y Y (OF.pickF (VEv.tmpB Y (dz fhg79_7)) (VEv.bool false)) (VRunO.nil ?_)))
      exact jq (congrArg T.bool (kAF fhg79_7)) (js Y (js Y (js Y (js Y (js Y (js Y (js Y (js Y (js Y (js Y (jn)))))))))))
    refine fO (OF.pickF (VEv.tmpB Y (dz fhg76_6)) (tv (tB (decide ((e19.2.2=4)∧(((Qc e19.1 [(⟨#[99,97,116]⟩:ByteArray),e19.2.1,(⟨#[116,101,110]⟩:ByteArray),(⟨#[116,101,97]⟩:ByteArray)] e19.2.2 (Qd e19.1 e19.2.1 e19.2.2)).length=0)∨(¬(((Qc e19.1 [(⟨#[99,97,116]⟩:ByteArray),e19.2.1,(⟨#[116,101,110]⟩:ByteArray),(⟨#[116,101,97]⟩:ByteArray)] e19.2.2 (Qd e19.1 e19.2.1 e19.2.2))[0]?.getD ByteArray.empty)=e19.2.1)))))) Y)) (VRunO.nil ?_)
    exact jq (congrArg T.bool (kOF fhg76_6 Y)) (js Y (js Y (js Y (js Y (js Y (js Y (js Y (js Y (js Y (js Y (js Y (js Y (js Y (js Y (jn)))))))))))))))
  refine nt ?_
  refine cd (((¬(e19.2.1∈(Qc e19.1 [(⟨#[99,97,116]⟩:ByteArray),e19.2.1,(⟨#[116,101,110]⟩:ByteArray),(⟨#[116,101,97]⟩:ByteArray)] e19.2.2 (Qd e19.1 e19.2.1 e19.2.2))))∨((e19.2.2≤2)∧(¬((Qc e19.1 [(⟨#[99,97,116]⟩:ByteArray),e19.2.1,(⟨#[116,101,110]⟩:ByteArray),(⟨#[116,101,97]⟩:ByteArray)] e19.2.2 (Qd e19.1 e19.2.1 e19.2.2)).length=4))))∨((e19.2.2=4)∧(((Qc e19.1 [(⟨#[99,97,116]⟩:ByteArray),e19.2.1,(⟨#[116,101,110]⟩:ByteArray),(⟨#[116,101,97]⟩:ByteArray)] e19.2.2 (Qd e19.1 e19.2.1 e19.2.2)).length=0)∨(¬(((Qc e19.1 [(⟨#[99,97,116]⟩:ByteArray),e19.2.1,(⟨#[116,101,110]⟩:ByteArray),(⟨#[116,101,97]⟩:ByteArray)] e19.2.2 (Qd e19.1 e19.2.1 e19.2.2))[0]?.getD ByteArray.empty)=e19.2.1))))) Y (fun fhc4=> ?_) fun fhc4=> ?_
  ·refine sr ?_
   refine fO (OF.assign (VEv.bool false)) (nt (rt (tr (tr (vb (b':=false) Y ?_)))))
   first | rfl | (exfalso;exact J4 fhc1) | (exfalso;exact Qb6 fhc2) | (exfalso;exact Qcc haf fhc4) | (exfalso;exact fhc8 (QK (List.mem_of_getElem? hx1)).1) | (exact decide_eq_true (fun y hy=>(QK hy).2)) | (exfalso;exact ‹¬x1=e19.2.1› (haf.2.2.1 ‹e19.2.2=4› x1 (List.mem_of_getElem? hx1))) | (exfalso;exact ‹¬QI x1=QI e19.2.1› (haf.2.2.2 ‹e19.2.2=3› x1 (List.mem_of_getElem? hx1))) | (exfalso;omega)
  refine sk (tn (sr (fO (OF.assign (VEv.int .i64 0)) (nt (VRun.block ?_)))))
  refine VRun.loop (A:=Nat) (fun s_=> [(0,(rd 1 Qi a0)),(4,(tS e19.2.1)),(5,(tI e19.2.2)),(7,(T.os 1 0 0 (((Qc e19.1 [(⟨#[99,97,116]⟩:ByteArray),e19.2.1,(⟨#[116,101,110]⟩:ByteArray),(⟨#[116,101,97]⟩:ByteArray)] e19.2.2 (Qd e19.1 e19.2.1 e19.2.2)).map (Qf true)).length))),(8,(tN s_))]) (fun s_=>ZR [(0,(Obj.rows 1 ((Qc e19.1 [(⟨#[99,97,116]⟩:ByteArray),e19.2.1,(⟨#[116,101,110]⟩:ByteArray),(⟨#[116,101,97]⟩:ByteArray)] e19.2.2 (Qd e19.1 e19.2.1 e19.2.2)).map (Qf true))))]) 1 (fun s_=>s_≤(Qc e19.1 [⟨#[99,97,116]⟩,e19.2.1,⟨#[116,101,110]⟩,⟨#[116,101,97]⟩] e19.2.2 (Qd e19.1 e19.2.1 e19.2.2)).length) (fun s_=>(Qc e19.1 [⟨#[99,97,116]⟩,e19.2.1,⟨#[116,101,110]⟩,⟨#[116,101,97]⟩] e19.2.2 (Qd e19.1 e19.2.1 e19.2.2)).length - s_) (0:Nat) ?_ (Wk.mk (fun k=>if k=0 then 3 else k) ?_ ?_ ?_) ?_
  ·first | trivial | (simp;done) | omega | (constructor<;>simp)
  ·exact (b2 (b2 (b2 (b2 (b2 bn)))))
  ·exact (b3 bn)
  ·exact nd Y
  rintro i (hI':i≤(Qc e19.1 [⟨#[99,97,116]⟩,e19.2.1,⟨#[116,101,110]⟩,⟨#[116,101,97]⟩] e19.2.2 (Qd e19.1 e19.2.1 e19.2.2)).length)
  show VRun _ _ _ [(0,(rd 1 Qi a0)),(4,(tS e19.2.1)),(5,(tI e19.2.2)),(7,(T.os 1 0 0 (((Qc e19.1 [(⟨#[99,97,116]⟩:ByteArray),e19.2.1,(⟨#[116,101,110]⟩:ByteArray),(⟨#[116,101,97]⟩:ByteArray)] e19.2.2 (Qd e19.1 e19.2.1 e19.2.2)).map (Qf true)).length))),(8,(tN i))] (ZR [(0,(Obj.rows 1 ((Qc e19.1 [(⟨#[99,97,116]⟩:ByteArray),e19.2.1,(⟨#[116,101,110]⟩:ByteArray),(⟨#[116,101,97]⟩:ByteArray)] e19.2.2 (Qd e19.1 e19.2.1 e19.2.2)).map (Qf true))))]) 1 _
  have hI1:=hI'
  refine sq (sr (mO (tN i) Y (mO (T.os 1 0 0 (((Qc e19.1 [(⟨#[99,97,116]⟩:ByteArray),e19.2.1,(⟨#[116,101,110]⟩:ByteArray),(⟨#[116,101,97]⟩:ByteArray)] e19.2.2 (Qd e19.1 e19.2.1 e19.2.2)).map (Qf true)).length)) Y (lO (B.lenO (m:=(Qc e19.1 [(⟨#[99,97,116]⟩:ByteArray),e19.2.1,(⟨#[116,101,110]⟩:ByteArray),(⟨#[116,101,97]⟩:ByteArray)] e19.2.2 (Qd e19.1 e19.2.1 e19.2.2)).length) (tv (T.os 1 0 0 (((Qc e19.1 [(⟨#[99,97,116]⟩:ByteArray),e19.2.1,(⟨#[116,101,110]⟩:ByteArray),(⟨#[116,101,97]⟩:ByteArray)] e19.2.2 (Qd e19.1 e19.2.1 e19.2.2)).map (Qf true)).length)) Y) Y1 (List.length_map ..)) (fO (Yr (tv (tN i) Y) (tv (tN ((Qc e19.1 [(⟨#[99,97,116]⟩:ByteArray),e19.2.1,(⟨#[116,101,110]⟩:ByteArray),(⟨#[116,101,97]⟩:ByteArray)] e19.2.2 (Qd e19.1 e19.2.1 e19.2.2)).length)) Y)) (nt ?_))))))
  refine cd (i<(Qc e19.1 [(⟨#[99,97,116]⟩:ByteArray),e19.2.1,(⟨#[116,101,110]⟩:ByteArray),(⟨#[116,101,97]⟩:ByteArray)] e19.2.2 (Qd e19.1 e19.2.1 e19.2.2)).length) Y (fun fhc5=> ?_) fun fhc5=> ?_
  ·refine sk ?_
   refine tn (sq (VRun.block (sr (mO (tI e19.2.2) Y (fO (ZU (tv (tI e19.2.2) Y) (VEv.int .i64 3)) (mO (tB (decide (e19.2.2=3))) Y ?_))))))
   refine gw (e19.2.2=3) (fun fhg100_10=> ?_) fun fhg100_10=> ?_
   ·refine gF (dy fhg100_10) Y Y (OF.move (tv (T.os 1 0 0 (((Qc e19.1 [(⟨#[99,97,116]⟩:ByteArray),e19.2.1,(⟨#[116,101,110]⟩:ByteArray),(⟨#[116,101,97]⟩:ByteArray)] e19.2.2 (Qd e19.1 e19.2.1 e19.2.2)).map (Qf true)).length)) Y)) ?_
    refine gF (dy fhg100_10) Y Y (OF.move (tv (tN i) Y)) ?_
    obtain ⟨x1,hx1⟩:∃x,(Qc e19.1 [(⟨#[99,97,116]⟩:ByteArray),e19.2.1,(⟨#[116,101,110]⟩:ByteArray),(⟨#[116,101,97]⟩:ByteArray)] e19.2.2 (Qd e19.1 e19.2.1 e19.2.2))[i]? =some x:=⟨_,List.getElem?_eq_getElem (by first | omega | omega)⟩
    have hz1:x1.size≤10:=QcH (by first | exact hs124.2.1.2 | exact htl) hx1
    refine gF (dy fhg100_10) Y Y (B.indexAddrO (i:=i) (tv (T.os 1 0 0 (((Qc e19.1 [(⟨#[99,97,116]⟩:ByteArray),e19.2.1,(⟨#[116,101,110]⟩:ByteArray),(⟨#[116,101,97]⟩:ByteArray)] e19.2.2 (Qd e19.1 e19.2.1 e19.2.2)).map (Qf true)).length)) Y) (tv (tN i) Y) Y (by first | omega | omega | (simp only [List.length_map];omega) | (simp only [List.length_map,List.length_append,List.length_cons,List.length_nil,List.length_replicate,List.length_set,List.length_drop,List.length_take,Zb] at *;omega)) Y1 Yx if9) (gL (dy fhg100_10) Y Y (OL.loadP1 (t:=(tS x1)) (row:=(Qf true x1)) (tv (T.orp 1 0 i 0) Y) Y (Qs _ hx1) Y Y st9) (VRunO.chain (VWant.on Y Y (dy fhg100_10)) (cS (vc (tv (tS x1) Y) vn) (QR Y) (YZ (n+8) x1 (by first | omega | assumption | omega)) Y Y) (gF (dy fhg100_10) Y Y (OF.move (tv (tS e19.2.1) Y)) (VRunO.chain (VWant.on Y Y (dy fhg100_10)) (cS (vc (tv (tS e19.2.1) Y) vn) (QR Y) (YZ (n+8) e19.2.1 (by first | omega | assumption | omega)) Y Y) (gF (dy fhg100_10) Y Y (B.sneq (c:=(!(decide (QI x1=QI e19.2.1)))) (tv (tS (QI x1)) Y) (tv (tS (QI e19.2.1)) Y) Y) (fO (OF.pickT (VEv.tmpB Y (dy fhg100_10)) (tv (tB (!(decide (QI x1=QI e19.2.1)))) Y)) (mO (tB (!(decide (QI x1=QI e19.2.1)))) Y ?_)))))))
    refine gn (QI x1=QI e19.2.1) (fun fhg110_11=> ?_) fun fhg110_11=> ?_
    ·refine QB 3 12 false 110 (ny fhg110_11) Y Y Y ?_
     refine JY 6 15 true 113 Y Y Y (oO Y Y (ny fhg110_11) (fO (OF.pickT (VEv.tmpB Y (ny fhg110_11)) (VEv.bool true)) (nt (ct Y (sr (fO (OF.assign (VEv.bool false)) (nt (rt (vinB.r (tr (tr ?_)))))))))))
     refine vinB.r (tr (vb (b':=false) Y ?_))
     first | rfl | (exfalso;exact J4 fhc1) | (exfalso;exact Qb6 fhc2) | (exfalso;exact Qcc haf fhc4) | (exfalso;exact fhc8 (QK (List.mem_of_getElem? hx1)).1) | (exact decide_eq_true (fun y hy=>(QK hy).2)) | (exfalso;exact ‹¬x1=e19.2.1› (haf.2.2.1 ‹e19.2.2=4› x1 (List.mem_of_getElem? hx1))) | (exfalso;exact ‹¬QI x1=QI e19.2.1› (haf.2.2.2 ‹e19.2.2=3› x1 (List.mem_of_getElem? hx1))) | (exfalso;omega)
    refine gF (nz fhg110_11) Y Y (OF.move (tv (tI e19.2.2) Y)) (gF (nz fhg110_11) Y Y (ZU (tv (tI e19.2.2) Y) (VEv.int .i64 4)) (gF (nz fhg110_11) Y Y (OF.move (tv (tB (decide (e19.2.2=4))) Y)) ?_))
    refine gw (e19.2.2=4) (fun fhg113_12=> ?_) fun fhg113_12=> ?_
    ·refine gF (dy fhg113_12) Y Y (OF.move (tv (T.os 1 0 0 (((Qc e19.1 [(⟨#[99,97,116]⟩:ByteArray),e19.2.1,(⟨#[116,101,110]⟩:ByteArray),(⟨#[116,101,97]⟩:ByteArray)] e19.2.2 (Qd e19.1 e19.2.1 e19.2.2)).map (Qf true)).length)) Y)) ?_
     refine gF (dy fhg113_12) Y Y (OF.move (tv (tN i) Y)) (gF (dy fhg113_12) Y Y (B.indexAddrO (i:=i) (tv (T.os 1 0 0 (((Qc e19.1 [(⟨#[99,97,116]⟩:ByteArray),e19.2.1,(⟨#[116,101,110]⟩:ByteArray),(⟨#[116,101,97]⟩:ByteArray)] e19.2.2 (Qd e19.1 e19.2.1 e19.2.2)).map (Qf true)).length)) Y) (tv (tN i) Y) Y (by first | omega | omega | (simp only [List.length_map];omega) | (simp only [List.length_map,List.length_append,List.length_cons,List.length_nil,List.length_replicate,List.length_set,List.length_drop,List.length_take,Zb] at *;omega)) Y1 Yx if9) (gL (dy fhg113_12) Y Y (OL.loadP1 (t:=(tS x1)) (row:=(Qf true x1)) (tv (T.orp 1 0 i 0) Y) Y (Qs _ hx1) Y Y st9) (gF (dy fhg113_12) Y Y (OF.move (tv (tS e19.2.1) Y)) (gF (dy fhg113_12) Y Y (B.sneq (c:=(!(decide (x1=e19.2.1)))) (tv (tS x1) Y) (tv (tS e19.2.1) Y) Y) (gF (nz fhg110_11) Y Y (OF.pickT (VEv.tmpB Y (dy fhg113_12)) (tv (tB (!(decide (x1=e19.2.1)))) Y)) (fO (OF.pickF (VEv.tmpB Y (nz fhg110_11)) (tv (tB (!(decide (x1=e19.2.1)))) Y)) (nt ?_)))))))
     refine cn (x1=e19.2.1) Y (fun fhc6=> ?_) fun fhc6=> ?_
     ·refine sr ?_
      refine fO (OF.assign (VEv.bool false)) (nt (rt (vinB.r (tr (tr (vinB.r (tr (vb (b':=false) Y ?_))))))))
      first | rfl | (exfalso;exact J4 fhc1) | (exfalso;exact Qb6 fhc2) | (exfalso;exact Qcc haf fhc4) | (exfalso;exact fhc8 (QK (List.mem_of_getElem? hx1)).1) | (exact decide_eq_true (fun y hy=>(QK hy).2)) | (exfalso;exact ‹¬x1=e19.2.1› (haf.2.2.1 ‹e19.2.2=4› x1 (List.mem_of_getElem? hx1))) | (exfalso;exact ‹¬QI x1=QI e19.2.1› (haf.2.2.2 ‹e19.2.2=3› x1 (List.mem_of_getElem? hx1))) | (exfalso;omega)
     refine sk (vinB.n (tn (VRun.region (mO (tN i) Y (fO (Zu (tv (tN i) Y) (VEv.int .i64 1) (by first | omega | omega)) (aO (tN (i+1)) Y (VRunO.nil (tn ?_))))))))
     refine ⟨(i+1:Nat),?_,?_,Wk.mk (fun k=>k) ?_ ?_ ?_⟩
     ·first | trivial | omega | (simp;done) | exact ⟨by omega,hI'.2⟩
     ·first | omega | (simp only [];omega) | (show _<_;omega) | (simp;omega)
     ·exact (b2 (b2 (b2 (b2 (b2 bn)))))
     ·exact (b3 bn)
     ·exact nd Y
    refine QB 6 15 true 113 (dz fhg113_12) Y Y Y (gF (nz fhg110_11) Y Y (OF.pickF (VEv.tmpB Y (dz fhg113_12)) (VEv.bool false)) (fO (OF.pickF (VEv.tmpB Y (nz fhg110_11)) (tv (tB false) Y)) (nt (cf Y (sk (vinB.n (tn (VRun.region (mO (tN i) Y (fO (Zu (tv (tN i) Y) (VEv.int .i64 1) (by first | omega | omega)) (aO (tN (i+1)) Y ?_)))))))))))
    refine VRunO.nil (tn ?_)
    refine ⟨(i+1:Nat),?_,?_,Wk.mk (fun k=>k) ?_ ?_ ?_⟩
    ·first | trivial | omega | (simp;done) | exact ⟨by omega,hI'.2⟩
    ·first | omega | (simp only [];omega) | (show _<_;omega) | (simp;omega)
    ·exact (b2 (b2 (b2 (b2 (b2 bn)))))
    ·exact (b3 bn)
    ·exact nd Y
   refine QB 8 2 true 100 (dz fhg100_10) Y Y Y (fO (OF.pickF (VEv.tmpB Y (dz fhg100_10)) (VEv.bool false)) (mO (tB false) Y (VRunO.free (VWant.on (b:=false) Y Y Y) (OF.move (tv (tI e19.2.2) Y)) (VRunO.free (VWant.on (b:=false) Y Y Y) (ZU (tv (tI e19.2.2) Y) (VEv.int .i64 4)) (VRunO.free (VWant.on (b:=false) Y Y Y) (OF.move (tv (tB (decide (e19.2.2=4))) Y)) ?_)))))
   refine gw (e19.2.2=4) (fun fhg113_13=> ?_) fun fhg113_13=> ?_
   ·refine gF (dy fhg113_13) Y Y (OF.move (tv (T.os 1 0 0 (((Qc e19.1 [(⟨#[99,97,116]⟩:ByteArray),e19.2.1,(⟨#[116,101,110]⟩:ByteArray),(⟨#[116,101,97]⟩:ByteArray)] e19.2.2 (Qd e19.1 e19.2.1 e19.2.2)).map (Qf true)).length)) Y)) ?_
    refine gF (dy fhg113_13) Y Y (OF.move (tv (tN i) Y)) ?_
    obtain ⟨x1,hx1⟩:∃x,(Qc e19.1 [(⟨#[99,97,116]⟩:ByteArray),e19.2.1,(⟨#[116,101,110]⟩:ByteArray),(⟨#[116,101,97]⟩:ByteArray)] e19.2.2 (Qd e19.1 e19.2.1 e19.2.2))[i]? =some x:=⟨_,List.getElem?_eq_getElem (by first | omega | omega)⟩
    have hz1:x1.size≤10:=QcH (by first | exact hs124.2.1.2 | exact htl) hx1
    refine gF (dy fhg113_13) Y Y (B.indexAddrO (i:=i) (tv (T.os 1 0 0 (((Qc e19.1 [(⟨#[99,97,116]⟩:ByteArray),e19.2.1,(⟨#[116,101,110]⟩:ByteArray),(⟨#[116,101,97]⟩:ByteArray)] e19.2.2 (Qd e19.1 e19.2.1 e19.2.2)).map (Qf true)).length)) Y) (tv (tN i) Y) Y (by first | omega | omega | (simp only [List.length_map];omega) | (simp only [List.length_map,List.length_append,List.length_cons,List.length_nil,List.length_replicate,List.length_set,List.length_drop,List.length_take,Zb] at *;omega)) Y1 Yx if9) (gL (dy fhg113_13) Y Y (OL.loadP1 (t:=(tS x1)) (row:=(Qf true x1)) (tv (T.orp 1 0 i 0) Y) Y (Qs _ hx1) Y Y st9) (gF (dy fhg113_13) Y Y (OF.move (tv (tS e19.2.1) Y)) (gF (dy fhg113_13) Y Y (B.sneq (c:=(!(decide (x1=e19.2.1)))) (tv (tS x1) Y) (tv (tS e19.2.1) Y) Y) (VRunO.free (VWant.on (b:=false) Y Y Y) (OF.pickT (VEv.tmpB Y (dy fhg113_13)) (tv (tB (!(decide (x1=e19.2.1)))) Y)) (fO (OF.pickF (tv (tB false) Y) (tv (tB (!(decide (x1=e19.2.1)))) Y)) (nt ?_))))))
    refine cn (x1=e19.2.1) Y (fun fhc6=> ?_) fun fhc6=> ?_
    ·refine sr ?_
     refine fO (OF.assign (VEv.bool false)) (nt (rt (vinB.r (tr (tr (vinB.r (tr (vb (b':=false) Y ?_))))))))
     first | rfl | (exfalso;exact J4 fhc1) | (exfalso;exact Qb6 fhc2) | (exfalso;exact Qcc haf fhc4) | (exfalso;exact fhc8 (QK (List.mem_of_getElem? hx1)).1) | (exact decide_eq_true (fun y hy=>(QK hy).2)) | (exfalso;exact ‹¬x1=e19.2.1› (haf.2.2.1 ‹e19.2.2=4› x1 (List.mem_of_getElem? hx1))) | (exfalso;exact ‹¬QI x1=QI e19.2.1› (haf.2.2.2 ‹e19.2.2=3› x1 (List.mem_of_getElem? hx1))) | (exfalso;omega)
    refine sk (vinB.n (tn (VRun.region (mO (tN i) Y (fO (Zu (tv (tN i) Y) (VEv.int .i64 1) (by first | omega | omega)) (aO (tN (i+1)) Y (VRunO.nil (tn ?_))))))))
    refine ⟨(i+1:Nat),?_,?_,Wk.mk (fun k=>k) ?_ ?_ ?_⟩
    ·first | trivial | omega | (simp;done) | exact ⟨by omega,hI'.2⟩
    ·first | omega | (simp only [];omega) | (show _<_;omega) | (simp;omega)
    ·exact (b2 (b2 (b2 (b2 (b2 bn)))))
    ·exact (b3 bn)
    ·exact nd Y
   refine QB 6 15 true 113 (dz fhg113_13) Y Y Y (VRunO.free (VWant.on (b:=false) Y Y Y) (OF.pickF (VEv.tmpB Y (dz fhg113_13)) (VEv.bool false)) (fO (OF.pickF (tv (tB false) Y) (tv (tB false) Y)) (nt (cf Y (sk (vinB.n (tn (VRun.region (mO (tN i) Y (fO (Zu (tv (tN i) Y) (VEv.int .i64 1) (by first | omega | omega)) (aO (tN (i+1)) Y ?_)))))))))))
   refine VRunO.nil (tn ?_)
   refine ⟨(i+1:Nat),?_,?_,Wk.mk (fun k=>k) ?_ ?_ ?_⟩
   ·first | trivial | omega | (simp;done) | exact ⟨by omega,hI'.2⟩
   ·first | omega | (simp only [];omega) | (show _<_;omega) | (simp;omega)
   ·exact (b2 (b2 (b2 (b2 (b2 bn)))))
   ·exact (b3 bn)
   ·exact nd Y
  refine VRun.exit (vthn.e (vthn.e (vinB.e (tn (sr (mO (rd 1 Qi a0) Y ?_))))))
  refine eP (us:= [(rd 1 Qi a0)]) (r':=fun x_:D.Clue×List ByteArray×Int×ByteArray=>(T.tup [(T.agg [(tI x_.1.Sense),(T.os 4 1 0 ((x_.1.Play.map (Qb true)).length))]),(T.os 1 2 0 ((x_.2.1.map (Qf true)).length)),(tI x_.2.2.1),(tS x_.2.2.2)])) (objs:=fun x_:D.Clue×List ByteArray×Int×ByteArray=> [(Obj.rows 4 (x_.1.Play.map (Qb true))),(Obj.rows 1 (x_.2.1.map (Qf true)))]) (m:=2) VWant.always (vc (tv (rd 1 Qi a0) Y) vn) (QR Y) (Z6 (n+0) a0 (by first | omega | assumption | omega | (simp only [List.length_cons,List.length_nil];omega))) Y (fun _=>rfl) (fun _=>rfl) fun e124 hs124=> ?_
  have hs124:gC e124.1∧(e124.2.1.length≤35∧∀y∈e124.2.1,y.size≤10)∧e124.2.2.2.size≤18:=hs124
  refine mO (T.tup [(T.agg [(tI e124.1.Sense),(T.os 4 1 0 ((e124.1.Play.map (Qb true)).length))]),(T.os 1 2 0 ((e124.2.1.map (Qf true)).length)),(tI e124.2.2.1),(tS e124.2.2.2)]) Y (fO (OF.extract (t:=(T.agg [(tI e124.1.Sense),(T.os 4 1 0 ((e124.1.Play.map (Qb true)).length))])) (tv (T.tup [(T.agg [(tI e124.1.Sense),(T.os 4 1 0 ((e124.1.Play.map (Qb true)).length))]),(T.os 1 2 0 ((e124.2.1.map (Qf true)).length)),(tI e124.2.2.1),(tS e124.2.2.2)]) Y) Y) (fO (OF.extract (t:=(T.os 1 2 0 ((e124.2.1.map (Qf true)).length))) (tv (T.tup [(T.agg [(tI e124.1.Sense),(T.os 4 1 0 ((e124.1.Play.map (Qb true)).length))]),(T.os 1 2 0 ((e124.2.1.map (Qf true)).length)),(tI e124.2.2.1),(tS e124.2.2.2)]) Y) Y) (fO (OF.extract (t:=(tI e124.2.2.1)) (tv (T.tup [(T.agg [(tI e124.1.Sense),(T.os 4 1 0 ((e124.1.Play.map (Qb true)).length))]),(T.os 1 2 0 ((e124.2.1.map (Qf true)).length)),(tI e124.2.2.1),(tS e124.2.2.2)]) Y) Y) (fO (OF.extract (t:=(tS e124.2.2.2)) (tv (T.tup [(T.agg [(tI e124.1.Sense),(T.os 4 1 0 ((e124.1.Play.map (Qb true)).length))]),(T.os 1 2 0 ((e124.2.1.map (Qf true)).length)),(tI e124.2.2.1),(tS e124.2.2.2)]) Y) Y) (kO (B.alloc (t:=(T.agg [(tN 0),T.nils])) (ts:= [(tN 0),T.nils]) QaB QaI nofun (fun _=> .agg _ _ Y (Ys (RL.cons (.int _ _) (RL.cons (.nils) (RL.nil _))))) Y) (cO (B.storeW (us:= [(tI e124.1.Sense),(T.os 4 1 0 ((e124.1.Play.map (Qb true)).length))]) (tv (T.op 3 0) Y) (tv (T.agg [(tI e124.1.Sense),(T.os 4 1 0 ((e124.1.Play.map (Qb true)).length))]) Y) nofun Y Y Y Ji QQ (bc Y (bc Y bn))) (aO (T.os 1 2 0 ((e124.2.1.map (Qf true)).length)) Y (aO (tI e124.2.2.1) Y (aO (tS e124.2.2.2) Y (nt ?_))))))))))
  have hz124:=QfX hs124.1
  have hw124:=hs124.2.2
  have hzw:=zW hs124.2.1
  have hal2:=Jd e124.1 e124.2.1 e124.2.2.1 e124.2.2.2
  have hwl:=hs124.2.1.1
  refine sr (lO (OL.loadOn (us:= [(tI e124.1.Sense),(T.os 4 1 0 ((e124.1.Play.map (Qb true)).length))]) (tv (T.op 3 0) Y) Y Zj QQ (lb Y) Y) (mO (T.os 1 2 0 ((e124.2.1.map (Qf true)).length)) Y (mO (tI e124.2.2.1) Y (mO (tS e124.2.2.2) Y (cO (OC.callF (us:= [(T.agg (QA false e124.1)),(rd 1 Qf e124.2.1),(tI e124.2.2.1),(tS e124.2.2.2)]) (r':=(T.os 1 4 0 (((Qc e124.1 e124.2.1 e124.2.2.1 e124.2.2.2).map (Qf true)).length))) (objs:= [(Obj.rows 1 ((Qc e124.1 e124.2.1 e124.2.2.1 e124.2.2.2).map (Qf true)))]) Y (vc (tv (T.agg [(tI e124.1.Sense),(T.os 4 1 0 ((e124.1.Play.map (Qb true)).length))]) Y) (vc (tv (T.os 1 2 0 ((e124.2.1.map (Qf true)).length)) Y) (vc (tv (tI e124.2.2.1) Y) (vc (tv (tS e124.2.2.2) Y) vn)))) (LendL.cons (Lend.agg (LendL.cons (Lend.pl Y) (LendL.cons (Lend.os Y Y (okeStep.fzMap _ _)) ln))) (LendL.cons (Lend.os Y Y (okStr.fzMap _ _)) (lp Y (lp Y ln)))) (ZX (n+1) e124.1 e124.2.1 e124.2.2.1 e124.2.2.2 (by first | omega | assumption | omega) (by first | omega | assumption | omega)) Y) (aO (T.os 1 4 0 (((Qc e124.1 e124.2.1 e124.2.2.1 e124.2.2.2).map (Qf true)).length)) Y (nt (sq (sr (fO (OF.assign (VEv.int .i64 0)) (nt ?_)))))))))))
  refine VRun.block ?_
  refine VRun.loop (A:=Nat) (fun s_=> [(9,(T.op 0 0)),(10,(T.os 1 1 0 ((e124.2.1.map (Qf true)).length))),(11,(tI e124.2.2.1)),(12,(tS e124.2.2.2)),(13,(T.os 1 2 0 (((Qc e124.1 e124.2.1 e124.2.2.1 e124.2.2.2).map (Qf true)).length))),(14,(tN s_))]) (fun s_=>ZR [(0,(Obj.cells [(tI e124.1.Sense),(T.os 4 3 0 ((e124.1.Play.map (Qb true)).length))])),(1,(Obj.rows 1 (e124.2.1.map (Qf true)))),(2,(Obj.rows 1 ((Qc e124.1 e124.2.1 e124.2.2.1 e124.2.2.2).map (Qf true)))),(3,(Obj.rows 4 (e124.1.Play.map (Qb true))))]) 4 (fun s_=>s_≤(Qc e124.1 e124.2.1 e124.2.2.1 e124.2.2.2).length) (fun s_=>(Qc e124.1 e124.2.1 e124.2.2.1 e124.2.2.2).length - s_) (0:Nat) ?_ (Wk.mk (fun k=>if k=0 then 3 else if k=1 then 2 else if k=2 then 4 else if k=3 then 1 else k) ?_ ?_ ?_) ?_
  ·first | trivial | (simp;done) | omega | (constructor<;>simp)
  ·exact (b2 (b2 (b2 (b2 (b2 (b2 bn))))))
  ·exact (b3 (b3 (b3 (b3 bn))))
  ·exact nd Y
  rintro k (hI':k≤(Qc e124.1 e124.2.1 e124.2.2.1 e124.2.2.2).length)
  show VRun _ _ _ [(9,(T.op 0 0)),(10,(T.os 1 1 0 ((e124.2.1.map (Qf true)).length))),(11,(tI e124.2.2.1)),(12,(tS e124.2.2.2)),(13,(T.os 1 2 0 (((Qc e124.1 e124.2.1 e124.2.2.1 e124.2.2.2).map (Qf true)).length))),(14,(tN k))] (ZR [(0,(Obj.cells [(tI e124.1.Sense),(T.os 4 3 0 ((e124.1.Play.map (Qb true)).length))])),(1,(Obj.rows 1 (e124.2.1.map (Qf true)))),(2,(Obj.rows 1 ((Qc e124.1 e124.2.1 e124.2.2.1 e124.2.2.2).map (Qf true)))),(3,(Obj.rows 4 (e124.1.Play.map (Qb true))))]) 4 _
  have hJ1:=hI'
  refine sq (sr (mO (tN k) Y (mO (T.os 1 2 0 (((Qc e124.1 e124.2.1 e124.2.2.1 e124.2.2.2).map (Qf true)).length)) Y (lO (B.lenO (m:=(Qc e124.1 e124.2.1 e124.2.2.1 e124.2.2.2).length) (tv (T.os 1 2 0 (((Qc e124.1 e124.2.1 e124.2.2.1 e124.2.2.2).map (Qf true)).length)) Y) Y1 (List.length_map ..)) (fO (Yr (tv (tN k) Y) (tv (tN ((Qc e124.1 e124.2.1 e124.2.2.1 e124.2.2.2).length)) Y)) (nt ?_))))))
  refine cd (k<(Qc e124.1 e124.2.1 e124.2.2.1 e124.2.2.2).length) Y (fun fhc7=> ?_) fun fhc7=> ?_
  ·refine sk ?_
   refine tn (sq (VRun.block (sq (VRun.draw (B:= [[],[],[],[2,1],[1,2,3],[],[],[6,5,3,2,1,4,0],[0,4,1,2,3,5,6,7]]) (by kernel_rfl) (by kernel_rfl) Y (lD (OL.loadOn (us:= [(tI e124.1.Sense),(T.os 4 3 0 ((e124.1.Play.map (Qb true)).length))]) (tv (T.op 0 0) Y) Y Zj QQ (lb Y) Y) Y Y (mD (T.os 1 2 0 (((Qc e124.1 e124.2.1 e124.2.2.1 e124.2.2.2).map (Qf true)).length)) Y Y (mD (tN k) Y Y ?_)))))))
   obtain ⟨x1,hx1⟩:∃x,(Qc e124.1 e124.2.1 e124.2.2.1 e124.2.2.2)[k]? =some x:=⟨_,List.getElem?_eq_getElem (by first | omega | omega)⟩
   have hz1:x1.size≤10:=QcH (by first | exact hs124.2.1.2 | exact htl) hx1
   refine fD (B.indexAddrO (i:=k) (tv (T.os 1 2 0 (((Qc e124.1 e124.2.1 e124.2.2.1 e124.2.2.2).map (Qf true)).length)) Y) (tv (tN k) Y) Y (by first | omega | omega | (simp only [List.length_map];omega) | (simp only [List.length_map,List.length_append,List.length_cons,List.length_nil,List.length_replicate,List.length_set,List.length_drop,List.length_take,Zb] at *;omega)) Y1 Yx if9) Y Y (lD (OL.loadP1 (t:=(tS x1)) (row:=(Qf true x1)) (tv (T.orp 1 2 k 0) Y) Y (Qs _ hx1) Y Y st9) Y Y (mD (tI e124.2.2.1) Y Y (mD (tS e124.2.2.2) Y Y (VRunD.quiet (bi:= [6,5,3,2,1,4,0]) Y VWant.always Y Y Y bn (cS (us:= [(T.agg (QA false e124.1)),(tS x1),(tI e124.2.2.1),(tS e124.2.2.2)]) (vc (tv (T.agg [(tI e124.1.Sense),(T.os 4 3 0 ((e124.1.Play.map (Qb true)).length))]) Y) (vc (tv (tS x1) Y) (vc (tv (tI e124.2.2.1) Y) (vc (tv (tS e124.2.2.2) Y) vn)))) (LendL.cons (Lend.agg (LendL.cons (Lend.pl Y) (LendL.cons (Lend.os Y Y (okeStep.fzMap _ _)) ln))) (lp Y (lp Y (lp Y ln)))) (Yl (n+4) e124.1 x1 e124.2.2.1 e124.2.2.2 (by first | omega | assumption | omega) (by first | omega | assumption | omega)) Y Y) (fD (QZ (tv (tB (decide (Z7 e124.1 x1 e124.2.2.1 e124.2.2.2))) Y)) Y Y (VRunD.nil (tn ?_)))))))
   refine cn (Z7 e124.1 x1 e124.2.2.1 e124.2.2.2) Y (fun fhc8=> ?_) fun fhc8=> ?_
   ·refine sr ?_
    refine fO (OF.assign (VEv.bool false)) (nt (rt (vinB.r (tr (tr (vinB.r (tr (vb (b':=false) Y ?_))))))))
    first | rfl | (exfalso;exact J4 fhc1) | (exfalso;exact Qb6 fhc2) | (exfalso;exact Qcc haf fhc4) | (exfalso;exact fhc8 (QK (List.mem_of_getElem? hx1)).1) | (exact decide_eq_true (fun y hy=>(QK hy).2)) | (exfalso;exact ‹¬x1=e19.2.1› (haf.2.2.1 ‹e19.2.2=4› x1 (List.mem_of_getElem? hx1))) | (exfalso;exact ‹¬QI x1=QI e19.2.1› (haf.2.2.2 ‹e19.2.2=3› x1 (List.mem_of_getElem? hx1))) | (exfalso;omega)
   refine sk (vinB.n (tn (VRun.region (mO (tN k) Y (fO (Zu (tv (tN k) Y) (VEv.int .i64 1) (by first | omega | omega)) (aO (tN (k+1)) Y (VRunO.nil (tn ?_))))))))
   refine ⟨(k+1:Nat),?_,?_,Wk.mk (fun k=>k) ?_ ?_ ?_⟩
   ·first | trivial | omega | (simp;done) | exact ⟨by omega,hI'.2⟩
   ·first | omega | (simp only [];omega) | (show _<_;omega) | (simp;omega)
   ·exact (b2 (b2 (b2 (b2 (b2 (b2 bn))))))
   ·exact (b3 (b3 (b3 (b3 bn))))
   ·exact nd Y
  refine VRun.exit (vthn.e (vthn.e (vinB.e (tn (sr (mO (T.os 1 2 0 (((Qc e124.1 e124.2.1 e124.2.2.1 e124.2.2.2).map (Qf true)).length)) Y (mO (T.os 1 1 0 ((e124.2.1.map (Qf true)).length)) Y (cO (cS (us:= [(rd 1 Qf (Qc e124.1 e124.2.1 e124.2.2.1 e124.2.2.2)),(rd 1 Qf e124.2.1)]) (vc (tv (T.os 1 2 0 (((Qc e124.1 e124.2.1 e124.2.2.1 e124.2.2.2).map (Qf true)).length)) Y) (vc (tv (T.os 1 1 0 ((e124.2.1.map (Qf true)).length)) Y) vn)) (LendL.cons (Lend.os Y Y (okStr.fzMap _ _)) (LendL.cons (Lend.os Y Y (okStr.fzMap _ _)) ln)) (J0 (n+7) (Qc e124.1 e124.2.1 e124.2.2.1 e124.2.2.2) e124.2.1 (by first | omega | assumption | omega) (by first | omega | assumption | omega)) Y Y) (aO (tB (decide (∀y∈(Qc e124.1 e124.2.1 e124.2.2.1 e124.2.2.2),y∈e124.2.1))) Y (nt (rt ?_)))))))))))
  refine vb (b':=(decide (∀y∈(Qc e124.1 e124.2.1 e124.2.2.1 e124.2.2.2),y∈e124.2.1))) Y ?_
  first | rfl | (exfalso;exact J4 fhc1) | (exfalso;exact Qb6 fhc2) | (exfalso;exact Qcc haf fhc4) | (exfalso;exact fhc8 (QK (List.mem_of_getElem? hx1)).1) | (exact decide_eq_true (fun y hy=>(QK hy).2)) | (exfalso;exact ‹¬x1=e19.2.1› (haf.2.2.1 ‹e19.2.2=4› x1 (List.mem_of_getElem? hx1))) | (exfalso;exact ‹¬QI x1=QI e19.2.1› (haf.2.2.2 ‹e19.2.2=3› x1 (List.mem_of_getElem? hx1))) | (exfalso;omega)
 refine sk (tn (sr (mO (rd 1 Qi a0) Y ?_)))
 refine eP (us:= [(rd 1 Qi a0)]) (r':=fun x_:D.Clue×List ByteArray×Int×ByteArray=>(T.tup [(T.agg [(tI x_.1.Sense),(T.os 4 2 0 ((x_.1.Play.map (Qb true)).length))]),(T.os 1 3 0 ((x_.2.1.map (Qf true)).length)),(tI x_.2.2.1),(tS x_.2.2.2)])) (objs:=fun x_:D.Clue×List ByteArray×Int×ByteArray=> [(Obj.rows 4 (x_.1.Play.map (Qb true))),(Obj.rows 1 (x_.2.1.map (Qf true)))]) (m:=2) VWant.always (vc (tv (rd 1 Qi a0) Y) vn) (QR Y) (Z6 (n+0) a0 (by first | omega | assumption | omega | (simp only [List.length_cons,List.length_nil];omega))) Y (fun _=>rfl) (fun _=>rfl) fun e124 hs124=> ?_
 have hs124:gC e124.1∧(e124.2.1.length≤35∧∀y∈e124.2.1,y.size≤10)∧e124.2.2.2.size≤18:=hs124
 refine mO (T.tup [(T.agg [(tI e124.1.Sense),(T.os 4 2 0 ((e124.1.Play.map (Qb true)).length))]),(T.os 1 3 0 ((e124.2.1.map (Qf true)).length)),(tI e124.2.2.1),(tS e124.2.2.2)]) Y (fO (OF.extract (t:=(T.agg [(tI e124.1.Sense),(T.os 4 2 0 ((e124.1.Play.map (Qb true)).length))])) (tv (T.tup [(T.agg [(tI e124.1.Sense),(T.os 4 2 0 ((e124.1.Play.map (Qb true)).length))]),(T.os 1 3 0 ((e124.2.1.map (Qf true)).length)),(tI e124.2.2.1),(tS e124.2.2.2)]) Y) Y) (fO (OF.extract (t:=(T.os 1 3 0 ((e124.2.1.map (Qf true)).length))) (tv (T.tup [(T.agg [(tI e124.1.Sense),(T.os 4 2 0 ((e124.1.Play.map (Qb true)).length))]),(T.os 1 3 0 ((e124.2.1.map (Qf true)).length)),(tI e124.2.2.1),(tS e124.2.2.2)]) Y) Y) (fO (OF.extract (t:=(tI e124.2.2.1)) (tv (T.tup [(T.agg [(tI e124.1.Sense),(T.os 4 2 0 ((e124.1.Play.map (Qb true)).length))]),(T.os 1 3 0 ((e124.2.1.map (Qf true)).length)),(tI e124.2.2.1),(tS e124.2.2.2)]) Y) Y) (fO (OF.extract (t:=(tS e124.2.2.2)) (tv (T.tup [(T.agg [(tI e124.1.Sense),(T.os 4 2 0 ((e124.1.Play.map (Qb true)).length))]),(T.os 1 3 0 ((e124.2.1.map (Qf true)).length)),(tI e124.2.2.1),(tS e124.2.2.2)]) Y) Y) (kO (B.alloc (t:=(T.agg [(tN 0),T.nils])) (ts:= [(tN 0),T.nils]) QaB QaI nofun (fun _=> .agg _ _ Y (Ys (RL.cons (.int _ _) (RL.cons (.nils) (RL.nil _))))) Y) (cO (B.storeW (us:= [(tI e124.1.Sense),(T.os 4 2 0 ((e124.1.Play.map (Qb true)).length))]) (tv (T.op 4 0) Y) (tv (T.agg [(tI e124.1.Sense),(T.os 4 2 0 ((e124.1.Play.map (Qb true)).length))]) Y) nofun Y Y Y Ji QQ (bc Y (bc Y bn))) (aO (T.os 1 3 0 ((e124.2.1.map (Qf true)).length)) Y (aO (tI e124.2.2.1) Y (aO (tS e124.2.2.2) Y (nt ?_))))))))))
 have hz124:=QfX hs124.1
 have hw124:=hs124.2.2
 have hzw:=zW hs124.2.1
 have hal2:=Jd e124.1 e124.2.1 e124.2.2.1 e124.2.2.2
 have hwl:=hs124.2.1.1
 refine sr (lO (OL.loadOn (us:= [(tI e124.1.Sense),(T.os 4 2 0 ((e124.1.Play.map (Qb true)).length))]) (tv (T.op 4 0) Y) Y Zj QQ (lb Y) Y) (mO (T.os 1 3 0 ((e124.2.1.map (Qf true)).length)) Y (mO (tI e124.2.2.1) Y (mO (tS e124.2.2.2) Y (cO (OC.callF (us:= [(T.agg (QA false e124.1)),(rd 1 Qf e124.2.1),(tI e124.2.2.1),(tS e124.2.2.2)]) (r':=(T.os 1 5 0 (((Qc e124.1 e124.2.1 e124.2.2.1 e124.2.2.2).map (Qf true)).length))) (objs:= [(Obj.rows 1 ((Qc e124.1 e124.2.1 e124.2.2.1 e124.2.2.2).map (Qf true)))]) Y (vc (tv (T.agg [(tI e124.1.Sense),(T.os 4 2 0 ((e124.1.Play.map (Qb true)).length))]) Y) (vc (tv (T.os 1 3 0 ((e124.2.1.map (Qf true)).length)) Y) (vc (tv (tI e124.2.2.1) Y) (vc (tv (tS e124.2.2.2) Y) vn)))) (LendL.cons (Lend.agg (LendL.cons (Lend.pl Y) (LendL.cons (Lend.os Y Y (okeStep.fzMap _ _)) ln))) (LendL.cons (Lend.os Y Y (okStr.fzMap _ _)) (lp Y (lp Y ln)))) (ZX (n+1) e124.1 e124.2.1 e124.2.2.1 e124.2.2.2 (by first | omega | assumption | omega) (by first | omega | assumption | omega)) Y) (aO (T.os 1 5 0 (((Qc e124.1 e124.2.1 e124.2.2.1 e124.2.2.2).map (Qf true)).length)) Y (nt (sq (sr (fO (OF.assign (VEv.int .i64 0)) (nt ?_)))))))))))
 refine VRun.block ?_
 refine VRun.loop (A:=Nat) (fun s_=> [(9,(T.op 0 0)),(10,(T.os 1 1 0 ((e124.2.1.map (Qf true)).length))),(11,(tI e124.2.2.1)),(12,(tS e124.2.2.2)),(13,(T.os 1 2 0 (((Qc e124.1 e124.2.1 e124.2.2.1 e124.2.2.2).map (Qf true)).length))),(14,(tN s_))]) (fun s_=>ZR [(0,(Obj.cells [(tI e124.1.Sense),(T.os 4 3 0 ((e124.1.Play.map (Qb true)).length))])),(1,(Obj.rows 1 (e124.2.1.map (Qf true)))),(2,(Obj.rows 1 ((Qc e124.1 e124.2.1 e124.2.2.1 e124.2.2.2).map (Qf true)))),(3,(Obj.rows 4 (e124.1.Play.map (Qb true))))]) 4 (fun s_=>s_≤(Qc e124.1 e124.2.1 e124.2.2.1 e124.2.2.2).length) (fun s_=>(Qc e124.1 e124.2.1 e124.2.2.1 e124.2.2.2).length - s_) (0:Nat) ?_ (Wk.mk (fun k=>if k=0 then 4 else if k=1 then 3 else if k=2 then 5 else if k=3 then 2 else k) ?_ ?_ ?_) ?_
 ·first | trivial | (simp;done) | omega | (constructor<;>simp)
 ·exact (b2 (b2 (b2 (b2 (b2 (b2 bn))))))
 ·exact (b3 (b3 (b3 (b3 bn))))
 ·exact nd Y
 rintro k (hI':k≤(Qc e124.1 e124.2.1 e124.2.2.1 e124.2.2.2).length)
 show VRun _ _ _ [(9,(T.op 0 0)),(10,(T.os 1 1 0 ((e124.2.1.map (Qf true)).length))),(11,(tI e124.2.2.1)),(12,(tS e124.2.2.2)),(13,(T.os 1 2 0 (((Qc e124.1 e124.2.1 e124.2.2.1 e124.2.2.2).map (Qf true)).length))),(14,(tN k))] (ZR [(0,(Obj.cells [(tI e124.1.Sense),(T.os 4 3 0 ((e124.1.Play.map (Qb true)).length))])),(1,(Obj.rows 1 (e124.2.1.map (Qf true)))),(2,(Obj.rows 1 ((Qc e124.1 e124.2.1 e124.2.2.1 e124.2.2.2).map (Qf true)))),(3,(Obj.rows 4 (e124.1.Play.map (Qb true))))]) 4 _
 have hJ1:=hI'
 refine sq (sr (mO (tN k) Y (mO (T.os 1 2 0 (((Qc e124.1 e124.2.1 e124.2.2.1 e124.2.2.2).map (Qf true)).length)) Y (lO (B.lenO (m:=(Qc e124.1 e124.2.1 e124.2.2.1 e124.2.2.2).length) (tv (T.os 1 2 0 (((Qc e124.1 e124.2.1 e124.2.2.1 e124.2.2.2).map (Qf true)).length)) Y) Y1 (List.length_map ..)) (fO (Yr (tv (tN k) Y) (tv (tN ((Qc e124.1 e124.2.1 e124.2.2.1 e124.2.2.2).length)) Y)) (nt ?_))))))
 refine cd (k<(Qc e124.1 e124.2.1 e124.2.2.1 e124.2.2.2).length) Y (fun fhc7=> ?_) fun fhc7=> ?_
 ·refine sk ?_
  refine tn (sq (VRun.block (sq (VRun.draw (B:= [[],[],[],[2,1],[1,2,3],[],[],[6,5,3,2,1,4,0],[0,4,1,2,3,5,6,7]]) (by kernel_rfl) (by kernel_rfl) Y (lD (OL.loadOn (us:= [(tI e124.1.Sense),(T.os 4 3 0 ((e124.1.Play.map (Qb true)).length))]) (tv (T.op 0 0) Y) Y Zj QQ (lb Y) Y) Y Y (mD (T.os 1 2 0 (((Qc e124.1 e124.2.1 e124.2.2.1 e124.2.2.2).map (Qf true)).length)) Y Y (mD (tN k) Y Y ?_)))))))
  obtain ⟨x1,hx1⟩:∃x,(Qc e124.1 e124.2.1 e124.2.2.1 e124.2.2.2)[k]? =some x:=⟨_,List.getElem?_eq_getElem (by first | omega | omega)⟩
  have hz1:x1.size≤10:=QcH (by first | exact hs124.2.1.2 | exact htl) hx1
  refine fD (B.indexAddrO (i:=k) (tv (T.os 1 2 0 (((Qc e124.1 e124.2.1 e124.2.2.1 e124.2.2.2).map (Qf true)).length)) Y) (tv (tN k) Y) Y (by first | omega | omega | (simp only [List.length_map];omega) | (simp only [List.length_map,List.length_append,List.length_cons,List.length_nil,List.length_replicate,List.length_set,List.length_drop,List.length_take,Zb] at *;omega)) Y1 Yx if9) Y Y (lD (OL.loadP1 (t:=(tS x1)) (row:=(Qf true x1)) (tv (T.orp 1 2 k 0) Y) Y (Qs _ hx1) Y Y st9) Y Y (mD (tI e124.2.2.1) Y Y (mD (tS e124.2.2.2) Y Y (VRunD.quiet (bi:= [6,5,3,2,1,4,0]) Y VWant.always Y Y Y bn (cS (us:= [(T.agg (QA false e124.1)),(tS x1),(tI e124.2.2.1),(tS e124.2.2.2)]) (vc (tv (T.agg [(tI e124.1.Sense),(T.os 4 3 0 ((e124.1.Play.map (Qb true)).length))]) Y) (vc (tv (tS x1) Y) (vc (tv (tI e124.2.2.1) Y) (vc (tv (tS e124.2.2.2) Y) vn)))) (LendL.cons (Lend.agg (LendL.cons (Lend.pl Y) (LendL.cons (Lend.os Y Y (okeStep.fzMap _ _)) ln))) (lp Y (lp Y (lp Y ln)))) (Yl (n+4) e124.1 x1 e124.2.2.1 e124.2.2.2 (by first | omega | assumption | omega) (by first | omega | assumption | omega)) Y Y) (fD (QZ (tv (tB (decide (Z7 e124.1 x1 e124.2.2.1 e124.2.2.2))) Y)) Y Y (VRunD.nil (tn ?_)))))))
  refine cn (Z7 e124.1 x1 e124.2.2.1 e124.2.2.2) Y (fun fhc8=> ?_) fun fhc8=> ?_
  ·refine sr ?_
   refine fO (OF.assign (VEv.bool false)) (nt (rt (vinB.r (tr (tr (vinB.r (tr (vb (b':=false) Y ?_))))))))
   first | rfl | (exfalso;exact J4 fhc1) | (exfalso;exact Qb6 fhc2) | (exfalso;exact Qcc haf fhc4) | (exfalso;exact fhc8 (QK (List.mem_of_getElem? hx1)).1) | (exact decide_eq_true (fun y hy=>(QK hy).2)) | (exfalso;exact ‹¬x1=e19.2.1› (haf.2.2.1 ‹e19.2.2=4› x1 (List.mem_of_getElem? hx1))) | (exfalso;exact ‹¬QI x1=QI e19.2.1› (haf.2.2.2 ‹e19.2.2=3› x1 (List.mem_of_getElem? hx1))) | (exfalso;omega)
  refine sk (vinB.n (tn (VRun.region (mO (tN k) Y (fO (Zu (tv (tN k) Y) (VEv.int .i64 1) (by first | omega | omega)) (aO (tN (k+1)) Y (VRunO.nil (tn ?_))))))))
  refine ⟨(k+1:Nat),?_,?_,Wk.mk (fun k=>k) ?_ ?_ ?_⟩
  ·first | trivial | omega | (simp;done) | exact ⟨by omega,hI'.2⟩
  ·first | omega | (simp only [];omega) | (show _<_;omega) | (simp;omega)
  ·exact (b2 (b2 (b2 (b2 (b2 (b2 bn))))))
  ·exact (b3 (b3 (b3 (b3 bn))))
  ·exact nd Y
 refine VRun.exit (vthn.e (vthn.e (vinB.e (tn (sr (mO (T.os 1 2 0 (((Qc e124.1 e124.2.1 e124.2.2.1 e124.2.2.2).map (Qf true)).length)) Y (mO (T.os 1 1 0 ((e124.2.1.map (Qf true)).length)) Y (cO (cS (us:= [(rd 1 Qf (Qc e124.1 e124.2.1 e124.2.2.1 e124.2.2.2)),(rd 1 Qf e124.2.1)]) (vc (tv (T.os 1 2 0 (((Qc e124.1 e124.2.1 e124.2.2.1 e124.2.2.2).map (Qf true)).length)) Y) (vc (tv (T.os 1 1 0 ((e124.2.1.map (Qf true)).length)) Y) vn)) (LendL.cons (Lend.os Y Y (okStr.fzMap _ _)) (LendL.cons (Lend.os Y Y (okStr.fzMap _ _)) ln)) (J0 (n+7) (Qc e124.1 e124.2.1 e124.2.2.1 e124.2.2.2) e124.2.1 (by first | omega | assumption | omega) (by first | omega | assumption | omega)) Y Y) (aO (tB (decide (∀y∈(Qc e124.1 e124.2.1 e124.2.2.1 e124.2.2.2),y∈e124.2.1))) Y (nt (rt ?_)))))))))))
 refine vb (b':=(decide (∀y∈(Qc e124.1 e124.2.1 e124.2.2.1 e124.2.2.2),y∈e124.2.1))) Y ?_
 first | rfl | (exfalso;exact J4 fhc1) | (exfalso;exact Qb6 fhc2) | (exfalso;exact Qcc haf fhc4) | (exfalso;exact fhc8 (QK (List.mem_of_getElem? hx1)).1) | (exact decide_eq_true (fun y hy=>(QK hy).2)) | (exfalso;exact ‹¬x1=e19.2.1› (haf.2.2.1 ‹e19.2.2=4› x1 (List.mem_of_getElem? hx1))) | (exfalso;exact ‹¬QI x1=QI e19.2.1› (haf.2.2.2 ‹e19.2.2=3› x1 (List.mem_of_getElem? hx1))) | (exfalso;omega)
theorem Qee (a:Option Addr) (n c:Nat):(QdT (.slice a n c)).cells.toList= [QdT (.slice a n c)]:=by cases a<;>rfl
theorem QgI {α:Type} {d:AK α} {e:Bool→α→List T} {x:α} {t:T} {h:AH} {v:Value} (hk:RK d e) (he:e false x= [t]) (hr:d.R h x [v]):R h t v:=by
 have h1:=hk h x _ hr
 rw [he] at h1
 exact h1.tail.1
theorem QeW {α:Type} {d:AK α} {e:Bool→α→List T} {x:α} {t:T} {h:AH} {a:Option Addr} {n c:Nat} (hk:RK d e) (he:e false x= [t]) (hr:d.R h x (QdT (.slice a n c)).cells.toList):R h t (QdT (.slice a n c)):=by
 rw [Qee] at hr
 exact QgI hk he hr
theorem Pure.bool {call:Qw} {f:FuncId} {ts:List T} {b:Bool} (hp:Pure call f ts (.bool b)) {h:AH} {vs:List Value} (hfr:Fr 1 h) (hr:RL h ts vs):CallS call f vs h 1 (fun v _=>v= .bool b):=by
 refine (hp h 1 vs hfr hr).mono ?_
 rintro v h' ⟨_,N,hs,_⟩
 cases hs with
 | fz hr=>cases hr;rfl
open Go Go.RowKit Go.Shelf Go.Lib Go.Proofs
set_option maxHeartbeats 4000000
set_option maxRecDepth 100000
theorem Z2 {P:Program} (w:World) (dT sT ty elem:TypeId) {size:Nat} (b o dLen dCap:Nat) (a:Addr) (sLen sCap:Nat) (cs:List Value)
  (hu:P.underlying dT=some (.slice elem)) (hs:∀w,(Go.sizeOf elem).run P w= .ok size w) (hn:cs.length=Nat.min sLen dLen*size)
  (hsrc:∀j v,cs[j]? =some v→w.cell? (a.add j)=some v) (hc:∀j,j<cs.length→(w.cell? ⟨b,o+j,none⟩).isSome=true) (hf:∀j,j<cs.length→w.frozen? ⟨b,o+j,none⟩=false) (h1:∀v∈cs,v.oneCell'=true) :
  (Builtin.copy_ #[dT,sT] ty #[.slice (some ⟨b,o,none⟩) dLen dCap, .slice (some a) sLen sCap]).run P w= .ok (goInt (Nat.min sLen dLen)) (w.setCells b o cs):=by
 have hl:=run_loadCells_list (P:=P) w a cs hsrc
 have hst:=run_storeCells_cells (P:=P) b o cs 0 w (by simpa using hc) (by simpa using hf) h1
 simp [Builtin.copy_,run_underlying hu,Builtin.lenOf,Builtin.firstCells,hs,← hn,hl,hst]
theorem Qet (base:Option Addr) (n c vb voff vc:Nat) (w:World) {v':Value} {W':World} (hn:base=none→n=0∧c=0) (hnc:n≤c)
  (hrun:(Builtin.append_ #[42,42] 42 #[.slice base n c, .slice (some ⟨vb,voff,none⟩) 1 vc]).run Tryd.prog w= .ok v' W') :
  Calls Tryd.prog 74 #[.slice base n c, .int .i64 n, .slice (some ⟨vb,voff,none⟩) 1 vc] w fun e w'=>e= .returned v'∧w'=W':=by
 have t0:=Tryd.underlying0;have u0:=run_underlying Tryd.underlying0
 have t3:=Tryd.underlying3;have u3:=run_underlying Tryd.underlying3
 have t4:=Tryd.underlying4;have u4:=run_underlying Tryd.underlying4
 have t42:=Tryd.underlying42;have u42:=run_underlying Tryd.underlying42
 have t49:=Tryd.underlying49;have u49:=run_underlying Tryd.underlying49
 have z0:∀w,(Go.sizeOf 0).run Tryd.prog w= .ok 1 w:=fun _=>by kernel_rfl
 have z3:∀w,(Go.sizeOf 3).run Tryd.prog w= .ok 1 w:=fun _=>by kernel_rfl
 have z4:∀w,(Go.sizeOf 4).run Tryd.prog w= .ok 1 w:=fun _=>by kernel_rfl
 have z42:∀w,(Go.sizeOf 42).run Tryd.prog w= .ok 1 w:=fun _=>by kernel_rfl
 have z49:∀w,(Go.sizeOf 49).run Tryd.prog w= .ok 4 w:=fun _=>by kernel_rfl
 have a0:∀w,(isAgg 0).run Tryd.prog w= .ok false w:=fun _=>by kernel_rfl
 have a3:∀w,(isAgg 3).run Tryd.prog w= .ok false w:=fun _=>by kernel_rfl
 have a4:∀w,(isAgg 4).run Tryd.prog w= .ok false w:=fun _=>by kernel_rfl
 have a42:∀w,(isAgg 42).run Tryd.prog w= .ok false w:=fun _=>by kernel_rfl
 have v42:∀w,(zeroValue 42).run Tryd.prog w= .ok (Value.slice none 0 0) w:=fun _=>by kernel_rfl
 have v3:∀w,(zeroValue 3).run Tryd.prog w= .ok (Value.int IntKind.i64 0) w:=fun _=>by kernel_rfl
 have mixed:Tryd.prog.follows .mixedOrders=true:=by kernel_rfl
 have hz1:¬((1:Int)=0):=by omega
 go_enter Tryd.func74,Tryd.ntmps74
 cases base with
 | none =>
  obtain ⟨h0,h1⟩:=hn Y
  subst h0
  subst h1
  go_wp2_with (at_builtin;refine Lib.wpList_append_run _ Y _ _ _ _ Y _ _ Y Y _ _ hrun ?_)
  go_ret
  exact ⟨rfl,rfl⟩
 | some a =>
  obtain ⟨ab,ao,asp⟩:=a
  go_wp2_with (at_builtin;refine Lib.wpList_append_run _ Y _ _ _ _ Y _ _ Y Y _ _ hrun ?_)
  all_goals (go_ret;exact ⟨rfl,rfl⟩)
theorem QdD (b off n c i vb voff vc:Nat) (cs vs:List Value) (w:World) (hi:i<n) (hroom:n+1≤c) (hn63:n<9223372036854775807) (hvb:vb≠b)
    (hcl:cs.length=n*4) (hvl:vs.length=4)
    (hcs:∀j v,cs[j]? =some v→w.cell? ⟨b,off+j,none⟩=some v) (hsp:∀j,j<(n+1)*4→(w.cell? ⟨b,off+j,none⟩).isSome=true) (hfz:∀j,j<(n+1)*4→w.frozen? ⟨b,off+j,none⟩=false)
    (hvs:∀j v,vs[j]? =some v→w.cell? ⟨vb,voff+j,none⟩=some v) (h1c:∀v∈cs,v.oneCell'=true) (h1v:∀v∈vs,v.oneCell'=true)
    (tA tB:TypeId) (kA kB:Nat) (hsa:w.shape? vb=some (tA,kA)) (hsb:w.shape? b=some (tB,kB)) (hkB:kB≠0) (hfa:w.frozen? ⟨vb,voff,none⟩=false) (hfe:w.frozen? ⟨vb,kA,none⟩=false) :
    Calls Tryd.prog 74 #[.slice (some ⟨b,off,none⟩) n c, .int .i64 i, .slice (some ⟨vb,voff,none⟩) 1 vc] w fun e w' =>
      e= .returned (.slice (some ⟨b,off,none⟩) (n+1) c)∧w'=(w.drew.setCells b (off+(i+1)*4) (cs.drop (i*4))).setCells b (off+i*4) vs:=by
  have t0:=Tryd.underlying0;have u0:=run_underlying Tryd.underlying0
  have t3:=Tryd.underlying3;have u3:=run_underlying Tryd.underlying3
  have t4:=Tryd.underlying4;have u4:=run_underlying Tryd.underlying4
  have t42:=Tryd.underlying42;have u42:=run_underlying Tryd.underlying42
  have t49:=Tryd.underlying49;have u49:=run_underlying Tryd.underlying49
  have z0:∀w,(Go.sizeOf 0).run Tryd.prog w= .ok 1 w:=fun _=>by kernel_rfl
  have z3:∀w,(Go.sizeOf 3).run Tryd.prog w= .ok 1 w:=fun _=>by kernel_rfl
  have z4:∀w,(Go.sizeOf 4).run Tryd.prog w= .ok 1 w:=fun _=>by kernel_rfl
  have z42:∀w,(Go.sizeOf 42).run Tryd.prog w= .ok 1 w:=fun _=>by kernel_rfl
  have z49:∀w,(Go.sizeOf 49).run Tryd.prog w= .ok 4 w:=fun _=>by kernel_rfl
  have a0:∀w,(isAgg 0).run Tryd.prog w= .ok false w:=fun _=>by kernel_rfl
  have a3:∀w,(isAgg 3).run Tryd.prog w= .ok false w:=fun _=>by kernel_rfl
  have a4:∀w,(isAgg 4).run Tryd.prog w= .ok false w:=fun _=>by kernel_rfl
  have a42:∀w,(isAgg 42).run Tryd.prog w= .ok false w:=fun _=>by kernel_rfl
  have v42:∀w,(zeroValue 42).run Tryd.prog w= .ok (Value.slice none 0 0) w:=fun _=>by kernel_rfl
  have v3:∀w,(zeroValue 3).run Tryd.prog w= .ok (Value.int IntKind.i64 0) w:=fun _=>by kernel_rfl
  have mixed:Tryd.prog.follows .mixedOrders=true:=by kernel_rfl
  have hz1:¬((1:Int)=0):=by omega
  have hz2:¬((i:Int)=(n:Int)):=by omega
  have hov:∀lb cb,(callFunc 88 #[.slice (some ⟨vb,voff,none⟩) 1 vc, .slice (some ⟨b,off+(i+1)*4,none⟩) lb cb]).run Tryd.prog w= .ok (.value (.bool false)) w:=fun lb cb=>by
    rw [run_callFunc_extern Tryd.func88 (by kernel_rfl) (by kernel_rfl) (by kernel_rfl) (e:=Extern.SlicesOverlaps.overlaps #[42,42] #[4]) (by kernel_rfl),
      Lib.run_overlaps_apart w 42 4 49 Tryd.underlying42 4 z49 ⟨vb,voff,none⟩ ⟨b,off+(i+1)*4,none⟩ 1 vc lb cb hvb tA tB kA kB hsa hsb hkB hfa hfe]
    rfl
  have hdl:(cs.drop (i*4)).length=(n - i)*4:=by rw [List.length_drop,hcl];omega
  have hw1:IntKind.i64.wrap ((i:Int)+1)=(i:Int)+1:=by rw [IntKind.wrap_i64];omega
  have hw2:IntKind.i64.wrap ((n:Int)+1)=(n:Int)+1:=by rw [IntKind.wrap_i64];omega
  have hb1:(0:Int)≤(i:Int)+1:=by omega
  have hin:i≤n:=by omega
  have htn:((i:Int)+1).toNat=i+1:=by omega
  have hb2:¬(c=i+1):=by omega
  have hb3:(i:Int)≤(n:Int)+1:=by omega
  have hb4:¬(c=i):=by omega
  have hcp1:∀ty dc sc,(Builtin.copy_ #[42,42] ty #[.slice (some ⟨b,off+(i+1)*4,none⟩) (n - i) dc, .slice (some ⟨b,off+i*4,none⟩) (n+1 - i) sc]).run Tryd.prog w.drew= .ok (goInt (Nat.min (n+1 - i) (n - i))) (w.drew.setCells b (off+(i+1)*4) (cs.drop (i*4))):=fun ty dc sc =>
    Z2 w.drew _ _ ty 49 b (off+(i+1)*4) (n - i) dc ⟨b,off+i*4,none⟩ (n+1 - i) sc (cs.drop (i*4)) Tryd.underlying42 z49 (by rw [hdl];simp only [Nat.min_def];split<;>omega)
      (fun j v hj=>by rw [Addr.add_lit,Nat.add_assoc];exact hcs (i*4+j) v (by rwa [List.getElem?_drop] at hj))
      (fun j hj=>by rw [Nat.add_assoc];exact hsp _ (by omega)) (fun j hj=>by rw [Nat.add_assoc];exact hfz _ (by omega)) (fun v hv=>h1c v (List.mem_of_mem_drop hv))
  obtain ⟨W1,hW1⟩:∃W1,W1=w.drew.setCells b (off+(i+1)*4) (cs.drop (i*4)):=⟨_,rfl⟩
  have hsp1:∀k,k<(n+1)*4→(W1.cell? ⟨b,off+k,none⟩).isSome=true:=fun k hk=>by
    rw [hW1]
    exact isSome_setCells b _ _ _ (fun j hj=>by rw [Nat.add_assoc];exact hsp _ (by omega)) _ (hsp k hk)
  have hcp2:∀(W:World),(∀x,W.cell? x=W1.cell? x)→(∀x,W.frozen? x=W1.frozen? x)→∀ty dc,(Builtin.copy_ #[42,42] ty #[.slice (some ⟨b,off+i*4,none⟩) (n+1 - i) dc, .slice (some ⟨vb,voff,none⟩) 1 vc]).run Tryd.prog W= .ok (goInt (Nat.min 1 (n+1 - i))) (W.setCells b (off+i*4) vs):=fun W hWc hWf ty dc =>
    Z2 W _ _ ty 49 b (off+i*4) (n+1 - i) dc ⟨vb,voff,none⟩ 1 vc vs Tryd.underlying42 z49 (by rw [hvl];simp only [Nat.min_def];split<;>omega)
      (fun j v hj=>by
        rw [Addr.add_lit,hWc,hW1,World.cell?_setCells_out b _ _ _ _ (fun h _=>absurd h hvb)]
        exact hvs j v hj)
      (fun j hj=>by rw [hWc,Nat.add_assoc];exact hsp1 _ (by omega)) (fun j hj=>by rw [hWf,hW1,World.frozen?_setCells,Nat.add_assoc];exact hfz _ (by omega)) h1v
  rw [← hW1] at hcp1
  go_enter Tryd.func74,Tryd.ntmps74
  go_wp2_with (simp only [hov])
  go_region_law_o (refine step_copy_runI Y _ _ 42 42 Y _ _ (by simp [Act.eval,Act.put]) (by simp [Act.eval,Act.put]) (hcp1 _ _ _) ?_)
  go_wp2_with (at_builtin;refine wpList_copy_runI _ Y _ _ 42 42 Y _ _ Y Y (hcp2 _ (fun _=>rfl) (fun _=>rfl) _ _) ?_)
  go_ret
  first | exact ⟨rfl,rfl⟩ | exact ⟨rfl,by rw [hW1]⟩
theorem Qd7 (b off n i vb voff vc:Nat) (cs vs:List Value) (w:World) (hi:i<n) (hn63:n<4611686018427387904) {i0:TypeInfo} {z:Value} (hi0:Tryd.prog.info? 49=some i0) (hz0:i0.zero=some z) (hzs:i0.size=4) (hzc:z.cells.size=4) (hbig:2*(n+1)*i0.bytes≤281474976710656)
    (hcl:cs.length=n*4) (hvl:vs.length=4)
    (hcs:∀j v,cs[j]? =some v→w.cell? ⟨b,off+j,none⟩=some v)
    (hvs:∀j v,vs[j]? =some v→w.cell? ⟨vb,voff+j,none⟩=some v) (h1c:∀v∈cs,v.oneCell'=true) (h1v:∀v∈vs,v.oneCell'=true) :
    Calls Tryd.prog 74 #[.slice (some ⟨b,off,none⟩) n n, .int .i64 i, .slice (some ⟨vb,voff,none⟩) 1 vc] w fun e w' =>
      e= .returned (.slice (some ⟨w.heap.size,0,none⟩) (n+1) (grownCap w (n+1) n 49)) ∧
      w'=(((w.alloc (.cells ((cs.take (i*4)).toArray++Builtin.zeroCells z.cells (n+1 - i)++Builtin.zeroCells z.cells (grownCap w (n+1) n 49 - (n+1))) 49)).drew.setCells w.heap.size (i*4) vs).drew).setCells w.heap.size ((i+1)*4) (cs.drop (i*4)):=by
  have t0:=Tryd.underlying0;have u0:=run_underlying Tryd.underlying0
  have t3:=Tryd.underlying3;have u3:=run_underlying Tryd.underlying3
  have t4:=Tryd.underlying4;have u4:=run_underlying Tryd.underlying4
  have t42:=Tryd.underlying42;have u42:=run_underlying Tryd.underlying42
  have t49:=Tryd.underlying49;have u49:=run_underlying Tryd.underlying49
  have z0:∀w,(Go.sizeOf 0).run Tryd.prog w= .ok 1 w:=fun _=>by kernel_rfl
  have z3:∀w,(Go.sizeOf 3).run Tryd.prog w= .ok 1 w:=fun _=>by kernel_rfl
  have z4:∀w,(Go.sizeOf 4).run Tryd.prog w= .ok 1 w:=fun _=>by kernel_rfl
  have z42:∀w,(Go.sizeOf 42).run Tryd.prog w= .ok 1 w:=fun _=>by kernel_rfl
  have z49:∀w,(Go.sizeOf 49).run Tryd.prog w= .ok 4 w:=fun _=>by kernel_rfl
  have a0:∀w,(isAgg 0).run Tryd.prog w= .ok false w:=fun _=>by kernel_rfl
  have a3:∀w,(isAgg 3).run Tryd.prog w= .ok false w:=fun _=>by kernel_rfl
  have a4:∀w,(isAgg 4).run Tryd.prog w= .ok false w:=fun _=>by kernel_rfl
  have a42:∀w,(isAgg 42).run Tryd.prog w= .ok false w:=fun _=>by kernel_rfl
  have v42:∀w,(zeroValue 42).run Tryd.prog w= .ok (Value.slice none 0 0) w:=fun _=>by kernel_rfl
  have v3:∀w,(zeroValue 3).run Tryd.prog w= .ok (Value.int IntKind.i64 0) w:=fun _=>by kernel_rfl
  have mixed:Tryd.prog.follows .mixedOrders=true:=by kernel_rfl
  have hz1:¬((1:Int)=0):=by omega
  have hz2:¬((i:Int)=(n:Int)):=by omega
  have hz3:(n:Int)<(n:Int)+1:=by omega
  have hbw:b<w.heap.size:=block_lt_of_cell (hcs 0 _ (List.getElem?_eq_getElem (by omega)))
  have hvw:vb<w.heap.size:=block_lt_of_cell (hvs 0 _ (List.getElem?_eq_getElem (by omega)))
  have hkk:(n:Int)+1 - (i:Int)=((n+1 - i:Nat):Int):=by omega
  have hik:i+(n+1 - i)=n+1:=by omega
  have hold:(Builtin.firstCells i0.size i (.slice (some ⟨b,off,none⟩) i n)).run Tryd.prog w.drew= .ok (cs.take (i*4)).toArray w.drew:=by
    rw [hzs]
    exact run_firstCells_some w.drew 4 i ⟨b,off,none⟩ i n (cs.take (i*4)) (by rw [List.length_take];omega) (fun j v hj=>by
      rw [Addr.add_lit]
      rw [List.getElem?_take] at hj
      split at hj
      · exact hcs j v hj
      · cases hj)
  have hbi:(n+1 - i)*i0.bytes≤281474976710656:=Nat.le_trans (Nat.mul_le_mul_right _ (by omega)) hbig
  have hfit:Builtin.nextslicecap (n+1) n*i0.bytes≤281474976710656:=Nat.le_trans (Nat.mul_le_mul_right _ (nextslicecap_le (by omega))) hbig
  have hrz:∀ty,(Builtin.append_ #[42,3] ty #[.slice (some ⟨b,off,none⟩) i n, .int .i64 ((n:Int)+1 - (i:Int))]).run Tryd.prog w =
      .ok (.slice (some ⟨w.heap.size,0,none⟩) (n+1) (grownCap w (n+1) n 49)) (w.drew.alloc (.cells ((cs.take (i*4)).toArray++Builtin.zeroCells z.cells (n+1 - i)++Builtin.zeroCells z.cells (grownCap w (n+1) n 49 - (n+1))) 49)):=fun ty=>by
    have h:=Lib.run_append_grow_zeros w 42 3 ty 49 i0 _ .i64 .i64 Tryd.underlying42 Tryd.underlying3 hi0 hz0 (some ⟨b,off,none⟩) i n (cs.take (i*4)) hold (n+1 - i) (by omega) (by omega) (by omega) (by omega) hbi (by rw [hik];exact hfit)
    rw [hik] at h
    rw [hkk]
    exact h
  obtain ⟨G,hG⟩:∃G,G=grownCap w (n+1) n 49:=⟨_,rfl⟩
  obtain ⟨ROW,hROW⟩:∃ROW:Array Value,ROW=(cs.take (i*4)).toArray++Builtin.zeroCells z.cells (n+1 - i)++Builtin.zeroCells z.cells (G - (n+1)):=⟨_,rfl⟩
  rw [← hG] at hrz ⊢
  rw [← hROW] at hrz ⊢
  have hRl:(n+1)*4≤ROW.size:=by
    rw [hROW]
    have hq:∀k,(Builtin.zeroCells z.cells k).size=k*z.cells.size:=fun k=>by simp [Builtin.zeroCells]
    rw [Array.size_append,Array.size_append,hq,hq,hzc,List.size_toArray,List.length_take,hcl]
    omega
  obtain ⟨W1,hW1⟩:∃W1,W1=w.drew.alloc (.cells ROW 49):=⟨_,rfl⟩
  rw [← hW1] at hrz
  have hN:∀j,j<(n+1)*4→(W1.cell? ⟨w.heap.size,j,none⟩).isSome=true:=fun j hj=>by
    rw [hW1,World.cell?_alloc_at (w:=w.drew) ROW _ w.heap.size j Y,Array.getElem?_eq_getElem (by omega)];rfl
  have hNf:∀j,W1.frozen? ⟨w.heap.size,j,none⟩=false:=fun j=>by rw [hW1];exact World.frozen?_alloc_at (w:=w.drew) ROW _ w.heap.size j Y
  have hOb:∀j v,w.cell? ⟨b,j,none⟩=some v→W1.cell? ⟨b,j,none⟩=some v:=fun j v h=>by rw [hW1,World.cell?_alloc_past (w:=w.drew) _ b j hbw];exact h
  have hOv:∀j v,w.cell? ⟨vb,j,none⟩=some v→W1.cell? ⟨vb,j,none⟩=some v:=fun j v h=>by rw [hW1,World.cell?_alloc_past (w:=w.drew) _ vb j hvw];exact h
  have hcpA:∀(W:World),(∀x,W.cell? x=W1.cell? x)→(∀x,W.frozen? x=W1.frozen? x)→∀ty dc,(Builtin.copy_ #[42,42] ty #[.slice (some ⟨w.heap.size,i*4,none⟩) (n+1 - i) dc, .slice (some ⟨vb,voff,none⟩) 1 vc]).run Tryd.prog W= .ok (goInt (Nat.min 1 (n+1 - i))) (W.setCells w.heap.size (i*4) vs):=fun W hWc hWf ty dc =>
    Z2 W _ _ ty 49 w.heap.size (i*4) (n+1 - i) dc ⟨vb,voff,none⟩ 1 vc vs Tryd.underlying42 z49 (by rw [hvl];simp only [Nat.min_def];split<;>omega)
      (fun j v hj=>by rw [Addr.add_lit,hWc];exact hOv _ v (hvs j v hj))
      (fun j hj=>by rw [hWc];exact hN _ (by omega)) (fun j hj=>by rw [hWf];exact hNf _) h1v
  have hGn:n+1≤G:=by rw [hG];exact YO w _ _ _
  have hGi:¬(G=i):=by omega
  have hGim:¬(G=i+1):=by omega
  have hci:¬(n=i):=by omega
  have hbN:b≠w.heap.size:=by omega
  have hdl:(cs.drop (i*4)).length=(n - i)*4:=by rw [List.length_drop,hcl];omega
  have hcpB:∀(W:World),(∀x,W.cell? x=(W1.setCells w.heap.size (i*4) vs).cell? x)→(∀x,W.frozen? x=(W1.setCells w.heap.size (i*4) vs).frozen? x)→∀ty dc sc,(Builtin.copy_ #[42,42] ty #[.slice (some ⟨w.heap.size,(i+1)*4,none⟩) (n - i) dc, .slice (some ⟨b,off+i*4,none⟩) (n - i) sc]).run Tryd.prog W= .ok (goInt (Nat.min (n - i) (n - i))) (W.setCells w.heap.size ((i+1)*4) (cs.drop (i*4))):=fun W hWc hWf ty dc sc =>
    Z2 W _ _ ty 49 w.heap.size ((i+1)*4) (n - i) dc ⟨b,off+i*4,none⟩ (n - i) sc (cs.drop (i*4)) Tryd.underlying42 z49 (by rw [hdl];simp only [Nat.min_def];split<;>omega)
      (fun j v hj=>by
        rw [Addr.add_lit,hWc,World.cell?_setCells_out _ _ _ _ _ (fun h _=>absurd h hbN),Nat.add_assoc]
        exact hOb _ v (hcs (i*4+j) v (by rwa [List.getElem?_drop] at hj)))
      (fun j hj=>by rw [hWc];exact isSome_setCells _ _ _ _ (fun t ht=>hN _ (by omega)) _ (hN _ (by omega)))
      (fun j hj=>by rw [hWf,World.frozen?_setCells];exact hNf _) (fun v hv=>h1c v (List.mem_of_mem_drop hv))
  subst hW1
  have hE1:∀x,((w.alloc (.cells ROW 49)).drew).cell? x=(w.drew.alloc (.cells ROW 49)).cell? x:=fun x=>rfl
  have hE2:∀x,((w.alloc (.cells ROW 49)).drew).frozen? x=(w.drew.alloc (.cells ROW 49)).frozen? x:=fun x=>rfl
  have hF1:∀x,(((w.alloc (.cells ROW 49)).drew.setCells w.heap.size (i*4) vs).drew).cell? x=((w.drew.alloc (.cells ROW 49)).setCells w.heap.size (i*4) vs).cell? x:=fun x=>rfl
  have hF2:∀x,(((w.alloc (.cells ROW 49)).drew.setCells w.heap.size (i*4) vs).drew).frozen? x=((w.drew.alloc (.cells ROW 49)).setCells w.heap.size (i*4) vs).frozen? x:=fun x=>rfl
  have hw1:IntKind.i64.wrap ((i:Int)+1)=(i:Int)+1:=by rw [IntKind.wrap_i64];omega
  have hw2:IntKind.i64.wrap ((n:Int)+1)=(n:Int)+1:=by rw [IntKind.wrap_i64];omega
  have hw3:IntKind.i64.wrap ((n:Int)+1 - (i:Int))=(n:Int)+1 - (i:Int):=by rw [IntKind.wrap_i64];omega
  have hb1:(0:Int)≤(i:Int)+1:=by omega
  have hin:i≤n:=by omega
  have htn:((i:Int)+1).toNat=i+1:=by omega
  have hb3:(i:Int)≤(n:Int):=by omega
  clear hkk hik hold hROW hG hRl
  go_enter Tryd.func74,Tryd.ntmps74
  go_wp2_with (first
    | (at_builtin;refine Lib.wpList_append_run _ Y _ _ _ _ Y _ _ Y Y _ _ (hrz _) ?_)
    | (at_builtin;refine wpList_copy_runI _ Y _ _ 42 42 Y _ _ Y Y (hcpA _ hE1 hE2 _ _) ?_)
    | (at_builtin;refine wpList_copy_runI _ Y _ _ 42 42 Y _ _ Y Y (hcpB _ (fun _=>rfl) (fun _=>rfl) _ _ _) ?_))
  go_region_law_o (refine step_copy_runI Y _ _ 42 42 Y (.slice (some ⟨w.heap.size,(i+1)*4,none⟩) (n - i) (G - (i+1))) (.slice (some ⟨b,off+i*4,none⟩) (n - i) (n - i)) (by simp [Act.eval,Act.put]) (by simp [Act.eval,Act.put]) (hcpB _ hF1 hF2 3 (G - (i+1)) (n - i)) ?_)
  go_wp2
  go_ret
  exact ⟨rfl,rfl⟩
theorem QfT : Qf4 Tryd.prog 74 42 49 4 40 where
 ut:=Tryd.underlying42
 info:=⟨_,_,rfl,rfl,rfl,rfl,rfl⟩
 wide:=by decide
 fin base n c vb voff vc w _ _ h1 h2 h3:=Qet base n c vb voff vc w h1 h2 h3
 shift b off n c i vb voff vc cs vs w h1 h2 h3 h4 h5 h6 h7 h8 h9 h10 h11 h12 tA tB kA kB h13 h14 h15 h16 h17:=QdD b off n c i vb voff vc cs vs w h1 h2 h3 h4 h5 h6 h7 h8 h9 h10 h11 h12 tA tB kA kB h13 h14 h15 h16 h17
 grow b off n i vb voff vc cs vs w h1 h2 _ _ h3 h4 h5 h6 h7 h8 h9 h10 h11 h12 h13:=Qd7 b off n i vb voff vc cs vs w h1 h2 h3 h4 h5 h6 h7 h8 h9 h10 h11 h12 h13
open Go Go.RowKit Go.Shelf Go.Proofs
def laysRepl_ren : Go.Shelf.Ren:=⟨fun | 155=>76 | 154=>92 | 138=>106 | 165=>107 | 143=>108 | 166=>109 | 197=>110 | 169=>111 | 195=>119 | 218=>120 | 240=>121 | 241=>122 | 219=>123 | 260=>124 | 276=>130 | 277=>131 | 217=>132 | 225=>133 | 224=>134 | 267=>135 | 266=>138 | 314=>139 | n=>n,fun | 9=>9 | 3=>3 | 4=>4 | 72=>124 | 0=>0 | 76=>128 | 105=>130 | 21=>21 | 5=>5 | 70=>122 | 20=>20 | 37=>22 | 75=>127 | 127=>143 | 164=>149 | 46=>109 | 119=>152 | 139=>155 | 138=>154 | 146=>157 | 51=>146 | 80=>132 | n=>n,fun | 1=>1 | 3=>2 | 4=>3 | n=>n⟩
theorem laysRepl : Go.Proofs.LaysM.n155 Tryd.prog laysRepl_ren where
 mixed:=by kernel_rfl
 f138:=Tryd.func106.trans (congrArg some (by kernel_rfl))
 f143:=Tryd.func108.trans (congrArg some (by kernel_rfl))
 f154:=Tryd.func92.trans (congrArg some (by kernel_rfl))
 f155:=Tryd.func76.trans (congrArg some (by kernel_rfl))
 f165:=Tryd.func107.trans (congrArg some (by kernel_rfl))
 f166:=Tryd.func109.trans (congrArg some (by kernel_rfl))
 f169:=Tryd.func111.trans (congrArg some (by kernel_rfl))
 f195:=Tryd.func119.trans (congrArg some (by kernel_rfl))
 f197:=Tryd.func110.trans (congrArg some (by kernel_rfl))
 f217:=Tryd.func132.trans (congrArg some (by kernel_rfl))
 f218:=Tryd.func120.trans (congrArg some (by kernel_rfl))
 f219:=Tryd.func123.trans (congrArg some (by kernel_rfl))
 f224:=Tryd.func134.trans (congrArg some (by kernel_rfl))
 f225:=Tryd.func133.trans (congrArg some (by kernel_rfl))
 f240:=Tryd.func121.trans (congrArg some (by kernel_rfl))
 f241:=Tryd.func122.trans (congrArg some (by kernel_rfl))
 f260:=Tryd.func124.trans (congrArg some (by kernel_rfl))
 f266:=Tryd.func138.trans (congrArg some (by kernel_rfl))
 f267:=Tryd.func135.trans (congrArg some (by kernel_rfl))
 f276:=Tryd.func130.trans (congrArg some (by kernel_rfl))
 f277:=Tryd.func131.trans (congrArg some (by kernel_rfl))
 f314:=Tryd.func139.trans (congrArg some (by kernel_rfl))
 t0:=Tryd.underlying0
 a0:=Tryd.isAgg0
 z0:=Tryd.sizeOf0
 v0:=Tryd.zeroValue0
 t3:=Tryd.underlying3
 a3:=Tryd.isAgg3
 z3:=Tryd.sizeOf3
 v3:=Tryd.zeroValue3
 t4:=Tryd.underlying4
 a4:=Tryd.isAgg4
 z4:=Tryd.sizeOf4
 v4:=Tryd.zeroValue4
 t5:=Tryd.underlying5
 a5:=Tryd.isAgg5
 z5:=Tryd.sizeOf5
 v5:=Tryd.zeroValue5
 t9:=Tryd.underlying9
 a9:=Tryd.isAgg9
 z9:=Tryd.sizeOf9
 v9:=Tryd.zeroValue9
 t20:=Tryd.underlying20
 a20:=Tryd.isAgg20
 z20:=Tryd.sizeOf20
 v20:=Tryd.zeroValue20
 t21:=Tryd.underlying21
 a21:=Tryd.isAgg21
 z21:=Tryd.sizeOf21
 v21:=Tryd.zeroValue21
 t37:=Tryd.underlying22
 a37:=Tryd.isAgg22
 z37:=Tryd.sizeOf22
 v37:=Tryd.zeroValue22
 t46:=Tryd.underlying109
 a46:=Tryd.isAgg109
 z46:=Tryd.sizeOf109
 v46:=Tryd.zeroValue109
 t51:=Tryd.underlying146
 a51:=Tryd.isAgg146
 z51:=Tryd.sizeOf146
 v51:=Tryd.zeroValue146
 t70:=Tryd.underlying122
 a70:=Tryd.isAgg122
 z70:=Tryd.sizeOf122
 v70:=Tryd.zeroValue122
 t72:=Tryd.underlying124
 a72:=Tryd.isAgg124
 z72:=Tryd.sizeOf124
 v72:=Tryd.zeroValue124
 t75:=Tryd.underlying127
 a75:=Tryd.isAgg127
 z75:=Tryd.sizeOf127
 v75:=Tryd.zeroValue127
 t76:=Tryd.underlying128
 a76:=Tryd.isAgg128
 z76:=Tryd.sizeOf128
 v76:=Tryd.zeroValue128
 t105:=Tryd.underlying130
 a105:=Tryd.isAgg130
 z105:=Tryd.sizeOf130
 v105:=Tryd.zeroValue130
 t119:=Tryd.underlying152
 a119:=Tryd.isAgg152
 z119:=Tryd.sizeOf152
 t127:=Tryd.underlying143
 a127:=Tryd.isAgg143
 z127:=Tryd.sizeOf143
 v127:=Tryd.zeroValue143
 t138:=Tryd.underlying154
 a138:=Tryd.isAgg154
 z138:=Tryd.sizeOf154
 v138:=Tryd.zeroValue154
 t139:=Tryd.underlying155
 a139:=Tryd.isAgg155
 z139:=Tryd.sizeOf155
 v139:=Tryd.zeroValue155
 t146:=Tryd.underlying157
 a146:=Tryd.isAgg157
 z146:=Tryd.sizeOf157
 v146:=Tryd.zeroValue157
 t164:=Tryd.underlying149
 a164:=Tryd.isAgg149
 z164:=Tryd.sizeOf149
 v164:=Tryd.zeroValue149
 g1:=by kernel_rfl
 g3:=by kernel_rfl
 g4:=by kernel_rfl
 t80:=Tryd.underlying132
 a80:=Tryd.isAgg132
 z80:=Tryd.sizeOf132
 v80:=Tryd.zeroValue132
 i0:=by kernel_rfl
 i3:=by kernel_rfl
 i4:=by kernel_rfl
 i5:=by kernel_rfl
 i9:=by kernel_rfl
 i20:=by kernel_rfl
 i21:=by kernel_rfl
 i37:=by kernel_rfl
 i46:=by kernel_rfl
 i51:=by kernel_rfl
 i70:=by kernel_rfl
 i72:=by kernel_rfl
 i75:=by kernel_rfl
 i76:=by kernel_rfl
 i80:=by kernel_rfl
 i105:=by kernel_rfl
 i127:=by kernel_rfl
 i138:=by kernel_rfl
 i139:=by kernel_rfl
 i146:=by kernel_rfl
 i164:=by kernel_rfl
 m1:=by kernel_rfl
 s1_3:=fun w h=>Go.Proofs.cell_of_shapedOpen_int (zero:= #[.int .i64 0]) (t:=3) h (of_decide_eq_true (by kernel_rfl)) (by kernel_rfl) Y (by kernel_rfl) (by kernel_rfl) Tryd.underlying3
 m3:=by kernel_rfl
 m4:=by kernel_rfl
theorem QeB : Builder.Extra Tryd.prog laysRepl_ren where
 sizeBuilder:=by kernel_rfl
 liesBuilder:=by kernel_rfl
 t5:=laysRepl.t5
 a5:=laysRepl.a5
 z5:=laysRepl.z5
 v5:=laysRepl.v5
 infoByte:=by kernel_rfl
 cellsByte:=by kernel_rfl
 sizeByte:=by kernel_rfl
 neB5:=by decide
theorem Qgo {W:World} (h:W.ShapedOpen Tryd.prog):GlobOk W.heap.size W:=by
 intro g hg
 obtain rfl:=List.mem_singleton.1 hg
 obtain ⟨m,hm⟩:=laysRepl.s1_3 W h
 refine ⟨?_,m,hm⟩
 unfold World.cell? at hm
 split at hm
 ·rename_i e;exact (Array.getElem?_eq_some_iff.1 e).1
 ·cases hm
theorem QgL : Qd8 Tryd.prog:=by
 intro f hf
 by_cases h0:f=76
 ·subst h0
  exact Qdx (g:=laysRepl_ren.g 1) (by decide) ⟨fun s o n m w h1 h2 h3 h4=>Any.strings_ReplaceAll laysRepl.ton155 QeB s o n m w h1 h2 h3 h4⟩
 by_cases h1:f=74
 ·subst h1
  exact Qd0 QfT
 exfalso
 simp [Jz,h0,h1] at hf
end Go.Proofs.YtcglnehpapgfpaaDoor.AE
