/- A part of what the row of FnExactAfterHint uses. Conditions: as each theorem states. -/
import Derived.Test.YthifchndolccgaaDoorZFnExactAfterHintc
import Derived.Test.YthifchndolccgaaDoorProg
import Derived.Shelf.LaysM
import Derived.Shelf.Strings.Replace
namespace Go.Proofs.YthifchndolccgaaDoor.AE
open Go Go.RowKit
set_option linter.unusedVariables false
set_option linter.unusedSimpArgs false
set_option maxRecDepth 20000
set_option maxHeartbeats 2000000
noncomputable section
def YH (k:Int):ByteArray:=if 1≤k∧k≤9 then (([⟨#[]⟩,⟨#[119,111,114,100]⟩,⟨#[98,97,99,107]⟩,⟨#[109,105,120]⟩,⟨#[106,111,105,110]⟩,⟨#[105,110]⟩,⟨#[104,101,97,100]⟩,⟨#[110,111,104,101,97,100]⟩,⟨#[110,111,116,97,105,108]⟩,⟨#[104,105,100,100,101,110]⟩]:List ByteArray)[Int.toNat k]?).getD ⟨#[]⟩ else ⟨#[]⟩
theorem Qcv {k:Int} {x:ByteArray} (h:1≤k∧k≤9) (hx:([⟨#[]⟩,⟨#[119,111,114,100]⟩,⟨#[98,97,99,107]⟩,⟨#[109,105,120]⟩,⟨#[106,111,105,110]⟩,⟨#[105,110]⟩,⟨#[104,101,97,100]⟩,⟨#[110,111,104,101,97,100]⟩,⟨#[110,111,116,97,105,108]⟩,⟨#[104,105,100,100,101,110]⟩]:List ByteArray)[Int.toNat k]? =some x):x=YH k:=by
 unfold YH
 rw [if_pos h,hx]
 rfl
theorem Qd9 {k:Int} {x:ByteArray} (h:0≤k∧k<10) (hx:([⟨#[]⟩,⟨#[119,111,114,100]⟩,⟨#[98,97,99,107]⟩,⟨#[109,105,120]⟩,⟨#[106,111,105,110]⟩,⟨#[105,110]⟩,⟨#[104,101,97,100]⟩,⟨#[110,111,104,101,97,100]⟩,⟨#[110,111,116,97,105,108]⟩,⟨#[104,105,100,100,101,110]⟩]:List ByteArray)[Int.toNat k]? =some x):x=YH k:=by
 by_cases h0:k=0
 ·subst h0
  have:=Option.some.inj hx
  rw [← this]
  unfold YH
  rw [if_neg (by omega)]
 ·exact Qcv (by omega) hx
def ZB (n:Int):ByteArray:=⟨#[UInt8.ofNat (48+Int.toNat n)]⟩
def JG (w:ByteArray):ByteArray:=if QE w then w.extract 0 1 else ⟨#[]⟩
end
theorem Qaw (n:Nat) (k:Int):Pure (Qo Tryd.prog (n+2)) 86 [(tI k)] (tS (YH k)):=by
 refine Pure.intro (rs:= [ResultVar.tmp 2]) Tryd.func86 Y Y Y (E0:= [(0,(tI k))]) Y ?_
 obtain ⟨hlim,hmx,hmax⟩:=QM
 have hl10:([⟨#[]⟩,⟨#[119,111,114,100]⟩,⟨#[98,97,99,107]⟩,⟨#[109,105,120]⟩,⟨#[106,111,105,110]⟩,⟨#[105,110]⟩,⟨#[104,101,97,100]⟩,⟨#[110,111,104,101,97,100]⟩,⟨#[110,111,116,97,105,108]⟩,⟨#[104,105,100,100,101,110]⟩]:List ByteArray).length=10:=rfl
 refine sr (fO (OF.assign (VEv.str (⟨#[]⟩:ByteArray))) (nt (sq (sr (mO (tI k) Y (cO (cS (vc (tv (tI k) Y) (vc (VEv.int .i64 1) (vc (VEv.int .i64 9) vn))) (Zj Y) (QP (n+0) k 1 9) Y Y) (fO (QZ (tv (tB (decide (1≤k∧k≤9))) Y)) (nt ?_))))))))
 refine cn (1≤k∧k≤9) Y (fun fhc0=> ?_) fun fhc0=> ?_
 ·refine sr ?_
  refine fO (OF.assign (VEv.str (⟨#[]⟩:ByteArray))) (nt (rt (tr ?_)))
  refine vfin.eq (r':=(tS (⟨#[]⟩:ByteArray))) ?_ (vfin.r (VRes.tmp (t:=(tS (⟨#[]⟩:ByteArray))) Y VRes.nil) (Give.str _))
  refine congrArg T.str ?_
  exact (if_neg fhc0).symm
 refine sk (tn (sr (kO (OM.buildSlice (l:= [(tS (⟨#[]⟩:ByteArray)),(tS (⟨#[119,111,114,100]⟩:ByteArray)),(tS (⟨#[98,97,99,107]⟩:ByteArray)),(tS (⟨#[109,105,120]⟩:ByteArray)),(tS (⟨#[106,111,105,110]⟩:ByteArray)),(tS (⟨#[105,110]⟩:ByteArray)),(tS (⟨#[104,101,97,100]⟩:ByteArray)),(tS (⟨#[110,111,104,101,97,100]⟩:ByteArray)),(tS (⟨#[110,111,116,97,105,108]⟩:ByteArray)),(tS (⟨#[104,105,100,100,101,110]⟩:ByteArray))]) (VEvp.cons (VEv.str (⟨#[]⟩:ByteArray)) (VEvp.cons (VEv.str (⟨#[119,111,114,100]⟩:ByteArray)) (VEvp.cons (VEv.str (⟨#[98,97,99,107]⟩:ByteArray)) (VEvp.cons (VEv.str (⟨#[109,105,120]⟩:ByteArray)) (VEvp.cons (VEv.str (⟨#[106,111,105,110]⟩:ByteArray)) (VEvp.cons (VEv.str (⟨#[105,110]⟩:ByteArray)) (VEvp.cons (VEv.str (⟨#[104,101,97,100]⟩:ByteArray)) (VEvp.cons (VEv.str (⟨#[110,111,104,101,97,100]⟩:ByteArray)) (VEvp.cons (VEv.str (⟨#[110,111,116,97,105,108]⟩:ByteArray)) (VEvp.cons (VEv.str (⟨#[104,105,100,100,101,110]⟩:ByteArray)) VEvp.nil)))))))))) Y (by decide) (bc (nofun) (bc (nofun) (bc (nofun) (bc (nofun) (bc (nofun) (bc (nofun) (bc (nofun) (bc (nofun) (bc (nofun) (bc (nofun) bn)))))))))) (bc ((bc (Y) bn)) (bc ((bc (Y) bn)) (bc ((bc (Y) bn)) (bc ((bc (Y) bn)) (bc ((bc (Y) bn)) (bc ((bc (Y) bn)) (bc ((bc (Y) bn)) (bc ((bc (Y) bn)) (bc ((bc (Y) bn)) (bc ((bc (Y) bn)) bn)))))))))) (bc (Y) (bc (Y) (bc (Y) (bc (Y) (bc (Y) (bc (Y) (bc (Y) (bc (Y) (bc (Y) (bc (Y) bn)))))))))) Y5 zo9 (by kernel_rfl) Y (by rw [Ji];decide) Ji (Nat.le_of_ble_eq_true Y)) (mO (tI k) Y ?_))))
 obtain ⟨x1,hx1⟩:∃x,([(⟨#[]⟩:ByteArray),(⟨#[119,111,114,100]⟩:ByteArray),(⟨#[98,97,99,107]⟩:ByteArray),(⟨#[109,105,120]⟩:ByteArray),(⟨#[106,111,105,110]⟩:ByteArray),(⟨#[105,110]⟩:ByteArray),(⟨#[104,101,97,100]⟩:ByteArray),(⟨#[110,111,104,101,97,100]⟩:ByteArray),(⟨#[110,111,116,97,105,108]⟩:ByteArray),(⟨#[104,105,100,100,101,110]⟩:ByteArray)]:List ByteArray)[(Int.toNat k)]? =some x:=⟨_,List.getElem?_eq_getElem (by omega)⟩
 refine fO (B.indexAddrO (i:=(Int.toNat k)) (tv (T.os 1 0 0 10) Y) (tv (tI k) Y) (by omega) (by first | omega | (simp only [List.length_map];omega) | (simp only [List.length_map,List.length_append,List.length_cons,List.length_nil,List.length_replicate,List.length_set,List.length_drop,List.length_take,QY] at *;omega)) Y5 Ji if9) (lO (OL.loadP1 (t:=(tS x1)) (row:=(Qd true x1)) (tv (T.orp 1 0 (Int.toNat k) 0) Y) Y (Qr (Qd true) hx1) Y Y st9) (aO (tS x1) Y (nt (rt ?_))))
 refine vfin.eq (r':=(tS x1)) ?_ (vfin.r (VRes.tmp (t:=(tS x1)) Y VRes.nil) (Give.str _))
 refine congrArg T.str ?_
 exact Qcv fhc0 hx1
theorem Qas (n:Nat) (k:Int):Pure (Qo Tryd.prog (n+2)) 92 [(tI k)] (tS (YH k)):=by
 refine Pure.intro (rs:= [ResultVar.tmp 2]) Tryd.func92 Y Y Y (E0:= [(0,(tI k))]) Y ?_
 obtain ⟨hlim,hmx,hmax⟩:=QM
 have hl10:([⟨#[]⟩,⟨#[119,111,114,100]⟩,⟨#[98,97,99,107]⟩,⟨#[109,105,120]⟩,⟨#[106,111,105,110]⟩,⟨#[105,110]⟩,⟨#[104,101,97,100]⟩,⟨#[110,111,104,101,97,100]⟩,⟨#[110,111,116,97,105,108]⟩,⟨#[104,105,100,100,101,110]⟩]:List ByteArray).length=10:=rfl
 refine sr (fO (OF.assign (VEv.str (⟨#[]⟩:ByteArray))) (nt (sr (kO (OM.buildSlice (l:= [(tS (⟨#[]⟩:ByteArray)),(tS (⟨#[119,111,114,100]⟩:ByteArray)),(tS (⟨#[98,97,99,107]⟩:ByteArray)),(tS (⟨#[109,105,120]⟩:ByteArray)),(tS (⟨#[106,111,105,110]⟩:ByteArray)),(tS (⟨#[105,110]⟩:ByteArray)),(tS (⟨#[104,101,97,100]⟩:ByteArray)),(tS (⟨#[110,111,104,101,97,100]⟩:ByteArray)),(tS (⟨#[110,111,116,97,105,108]⟩:ByteArray)),(tS (⟨#[104,105,100,100,101,110]⟩:ByteArray))]) (VEvp.cons (VEv.str (⟨#[]⟩:ByteArray)) (VEvp.cons (VEv.str (⟨#[119,111,114,100]⟩:ByteArray)) (VEvp.cons (VEv.str (⟨#[98,97,99,107]⟩:ByteArray)) (VEvp.cons (VEv.str (⟨#[109,105,120]⟩:ByteArray)) (VEvp.cons (VEv.str (⟨#[106,111,105,110]⟩:ByteArray)) (VEvp.cons (VEv.str (⟨#[105,110]⟩:ByteArray)) (VEvp.cons (VEv.str (⟨#[104,101,97,100]⟩:ByteArray)) (VEvp.cons (VEv.str (⟨#[110,111,104,101,97,100]⟩:ByteArray)) (VEvp.cons (VEv.str (⟨#[110,111,116,97,105,108]⟩:ByteArray)) (VEvp.cons (VEv.str (⟨#[104,105,100,100,101,110]⟩:ByteArray)) VEvp.nil)))))))))) Y (by decide) (bc (nofun) (bc (nofun) (bc (nofun) (bc (nofun) (bc (nofun) (bc (nofun) (bc (nofun) (bc (nofun) (bc (nofun) (bc (nofun) bn)))))))))) (bc ((bc (Y) bn)) (bc ((bc (Y) bn)) (bc ((bc (Y) bn)) (bc ((bc (Y) bn)) (bc ((bc (Y) bn)) (bc ((bc (Y) bn)) (bc ((bc (Y) bn)) (bc ((bc (Y) bn)) (bc ((bc (Y) bn)) (bc ((bc (Y) bn)) bn)))))))))) (bc (Y) (bc (Y) (bc (Y) (bc (Y) (bc (Y) (bc (Y) (bc (Y) (bc (Y) (bc (Y) (bc (Y) bn)))))))))) Y5 zo9 (by kernel_rfl) Y (by rw [Ji];decide) Ji (Nat.le_of_ble_eq_true Y)) (aO (T.os 1 0 0 10) Y (nt (sq (sr (mO (tI k) Y (mO (T.os 1 0 0 10) Y (lO (B.lenO (m:=10) (tv (T.os 1 0 0 10) Y) Y5 Y) ?_)))))))))))
 refine cO (cS (vc (tv (tI k) Y) (vc (tv (tN 10) Y) vn)) (Zj Y) (Y6 (n+0) k ((10:Nat):Int)) Y Y) (fO (QZ (tv (tB (decide (0≤k∧k<((10:Nat):Int)))) Y)) (nt ?_))
 refine cn (0≤k∧k<((10:Nat):Int)) Y (fun fhc0=> ?_) fun fhc0=> ?_
 ·refine sr ?_
  refine fO (OF.assign (VEv.str (⟨#[]⟩:ByteArray))) (nt (rt (tr ?_)))
  refine vfin.eq (r':=(tS (⟨#[]⟩:ByteArray))) ?_ (vfin.r (VRes.tmp (t:=(tS (⟨#[]⟩:ByteArray))) Y VRes.nil) (Give.str _))
  refine congrArg T.str ?_
  exact (if_neg (by omega)).symm
 refine sk (tn (sr (mO (T.os 1 0 0 10) Y (mO (tI k) Y ?_))))
 obtain ⟨x1,hx1⟩:∃x,([(⟨#[]⟩:ByteArray),(⟨#[119,111,114,100]⟩:ByteArray),(⟨#[98,97,99,107]⟩:ByteArray),(⟨#[109,105,120]⟩:ByteArray),(⟨#[106,111,105,110]⟩:ByteArray),(⟨#[105,110]⟩:ByteArray),(⟨#[104,101,97,100]⟩:ByteArray),(⟨#[110,111,104,101,97,100]⟩:ByteArray),(⟨#[110,111,116,97,105,108]⟩:ByteArray),(⟨#[104,105,100,100,101,110]⟩:ByteArray)]:List ByteArray)[(Int.toNat k)]? =some x:=⟨_,List.getElem?_eq_getElem (by omega)⟩
 refine fO (B.indexAddrO (i:=(Int.toNat k)) (tv (T.os 1 0 0 10) Y) (tv (tI k) Y) (by omega) (by first | omega | (simp only [List.length_map];omega) | (simp only [List.length_map,List.length_append,List.length_cons,List.length_nil,List.length_replicate,List.length_set,List.length_drop,List.length_take,QY] at *;omega)) Y5 Ji if9) (lO (OL.loadP1 (t:=(tS x1)) (row:=(Qd true x1)) (tv (T.orp 1 0 (Int.toNat k) 0) Y) Y (Qr (Qd true) hx1) Y Y st9) (aO (tS x1) Y (nt (rt ?_))))
 refine vfin.eq (r':=(tS x1)) ?_ (vfin.r (VRes.tmp (t:=(tS x1)) Y VRes.nil) (Give.str _))
 refine congrArg T.str ?_
 exact Qd9 fhc0 hx1
theorem QbH (n:Nat) (w:ByteArray) (hw:w.size≤maxLen):Pure (Qo Tryd.prog (n+3)) 89 [(tS w)] (tS (JG w)):=by
 refine Pure.intro (rs:= [ResultVar.tmp 2]) Tryd.func89 Y Y Y (E0:= [(0,(tS w))]) Y ?_
 obtain ⟨hlim,hmx,hmax⟩:=QM
 refine sr (fO (OF.assign (VEv.str (⟨#[]⟩:ByteArray))) (nt (sq (sr (mO (tS w) Y (cO (cS (vc (tv (tS w) Y) vn) (Zj Y) (Yp (n+0) w (by first | assumption | omega)) Y Y) (fO (QZ (tv (tB (decide (QE w))) Y)) (nt ?_))))))))
 refine cn (QE w) Y (fun fhc0=> ?_) fun fhc0=> ?_
 ·refine sr ?_
  refine fO (OF.assign (VEv.str (⟨#[]⟩:ByteArray))) (nt (rt (tr ?_)))
  refine vfin.eq (r':=(tS (⟨#[]⟩:ByteArray))) ?_ (vfin.r (VRes.tmp (t:=(tS (⟨#[]⟩:ByteArray))) Y VRes.nil) (Give.str _))
  refine congrArg T.str ?_
  exact (if_neg fhc0).symm
 have hw1:=fhc0.1
 refine sk (tn (sr (mO (tS w) Y (lO (OL.sliceSHi (j:=1) (tv (tS w) Y) (VEv.int .i64 1) Y (by first | omega | (simp only [List.length_map];omega) | (simp only [List.length_map,List.length_append,List.length_cons,List.length_nil,List.length_replicate,List.length_set,List.length_drop,List.length_take,QY] at *;omega)) U9) (aO (tS (w.extract 0 1)) Y (nt (rt ?_)))))))
 refine vfin.eq (r':=(tS (w.extract 0 1))) ?_ (vfin.r (VRes.tmp (t:=(tS (w.extract 0 1))) Y VRes.nil) (Give.str _))
 refine congrArg T.str ?_
 exact (if_pos fhc0).symm
theorem Qbx (n:Nat) (w:ByteArray) (hw:w.size≤maxLen):Pure (Qo Tryd.prog (n+3)) 95 [(tS w)] (tS (JG w)):=by
 refine Pure.intro (rs:= [ResultVar.tmp 2]) Tryd.func95 Y Y Y (E0:= [(0,(tS w))]) Y ?_
 obtain ⟨hlim,hmx,hmax⟩:=QM
 refine sr (fO (OF.assign (VEv.str (⟨#[]⟩:ByteArray))) (nt (sq (sr (mO (tS w) Y (cO (cS (vc (tv (tS w) Y) vn) (Zj Y) (Yo (n+0) w (by first | assumption | omega)) Y Y) (fO (QZ (tv (tB (decide (QE w))) Y)) (nt ?_))))))))
 refine cn (QE w) Y (fun fhc0=> ?_) fun fhc0=> ?_
 ·refine sr ?_
  refine fO (OF.assign (VEv.str (⟨#[]⟩:ByteArray))) (nt (rt (tr ?_)))
  refine vfin.eq (r':=(tS (⟨#[]⟩:ByteArray))) ?_ (vfin.r (VRes.tmp (t:=(tS (⟨#[]⟩:ByteArray))) Y VRes.nil) (Give.str _))
  refine congrArg T.str ?_
  exact (if_neg fhc0).symm
 have hw1:=fhc0.1
 refine sk (tn (sr (mO (tS w) Y (lO (OL.sliceSHi (j:=1) (tv (tS w) Y) (VEv.int .i64 1) Y (by first | omega | (simp only [List.length_map];omega) | (simp only [List.length_map,List.length_append,List.length_cons,List.length_nil,List.length_replicate,List.length_set,List.length_drop,List.length_take,QY] at *;omega)) U9) (aO (tS (w.extract 0 1)) Y (nt (rt ?_)))))))
 refine vfin.eq (r':=(tS (w.extract 0 1))) ?_ (vfin.r (VRes.tmp (t:=(tS (w.extract 0 1))) Y VRes.nil) (Give.str _))
 refine congrArg T.str ?_
 exact (if_pos fhc0).symm
noncomputable section
def Jr (n0:Int):Nat→Int
 | 0=>n0
 | _+1=>0
def JN (n0:Int):Nat→ByteArray
 | 0=>⟨#[]⟩
 | _+1=>ZB n0
theorem q10 {n0:Int} (h:0≤n0∧n0<10):n0.tdiv 10=0:=by
 rw [Int.tdiv_eq_ediv_of_nonneg h.1]
 omega
theorem r10 {n0:Int} (h:0≤n0∧n0<10):n0.tmod 10=n0:=by
 rw [Int.tmod_eq_emod_of_nonneg h.1]
 omega
theorem QfF {n0:Int} {j:Nat} (h:¬Jr n0 j=0):j=0:=by
 cases j with
 | zero=>rfl
 | succ j=>exact absurd Y h
theorem QeD {n0:Int} {j:Nat} (h0:¬n0=0) (h:Jr n0 j=0):JN n0 j=ZB n0:=by
 cases j with
 | zero=>exact absurd h h0
 | succ j=>rfl
theorem Ja {n0:Int} (h:0≤n0∧n0<10):n0=0∨n0=1∨n0=2∨n0=3∨n0=4∨n0=5∨n0=6∨n0=7∨n0=8∨n0=9:=by omega
end
theorem Yk (n:Nat) (n0:Int) (hn:0≤n0∧n0<10):Pure (Qo Tryd.prog (n+1)) 146 [(tI n0)] (tS (ZB n0)):=by
 refine Pure.intro (rs:= [ResultVar.tmp 2]) Tryd.func146 Y Y Y (E0:= [(0,(tI n0))]) Y ?_
 obtain ⟨hlim,hmx,hmax⟩:=QM
 have e36:(⟨#[48,49,50,51,52,53,54,55,56,57,97,98,99,100,101,102,103,104,105,106,107,108,109,110,111,112,113,114,115,116,117,118,119,120,121,122]⟩:ByteArray).size=36:=rfl
 refine sr (fO (OF.assign (VEv.str (⟨#[]⟩:ByteArray))) (nt (sq (sr (mO (tI n0) Y (fO (xls (tv (tI n0) Y) (VEv.int .i64 10)) (nt ?_)))))))
 refine cd (n0<10) Y (fun fhc0=> ?_) fun fhc0=> ?_
 ·refine sr ?_
  refine mO (tI n0) Y (mO (tI n0) Y (fO (B.add (n:=(n0+1)) (tv (tI n0) Y) (VEv.int .i64 1) (by first | rfl | (rw [Qq (by omega)];omega) | (rw [Qq (by omega)];done))) (lO (OL.sliceS (i:=(Int.toNat n0)) (j:=(Int.toNat (n0+1))) (VEv.str (⟨#[48,49,50,51,52,53,54,55,56,57,97,98,99,100,101,102,103,104,105,106,107,108,109,110,111,112,113,114,115,116,117,118,119,120,121,122]⟩:ByteArray)) (tv (tI n0) Y) (tv (tI (n0+1)) Y) (by omega) (by omega) (by first | omega | (simp only [List.length_map];omega) | (simp only [List.length_map,List.length_append,List.length_cons,List.length_nil,List.length_replicate,List.length_set,List.length_drop,List.length_take,QY] at *;omega)) (by first | omega | (simp only [List.length_map];omega) | (simp only [List.length_map,List.length_append,List.length_cons,List.length_nil,List.length_replicate,List.length_set,List.length_drop,List.length_take,QY] at *;omega)) U9) (aO (tS ((⟨#[48,49,50,51,52,53,54,55,56,57,97,98,99,100,101,102,103,104,105,106,107,108,109,110,111,112,113,114,115,116,117,118,119,120,121,122]⟩:ByteArray).extract (Int.toNat n0) (Int.toNat (n0+1)))) Y (nt (rt (tr ?_)))))))
  refine vfin.eq (r':=(tS ((⟨#[48,49,50,51,52,53,54,55,56,57,97,98,99,100,101,102,103,104,105,106,107,108,109,110,111,112,113,114,115,116,117,118,119,120,121,122]⟩:ByteArray).extract (Int.toNat n0) (Int.toNat (n0+1))))) ?_ (vfin.r (VRes.tmp (t:=(tS ((⟨#[48,49,50,51,52,53,54,55,56,57,97,98,99,100,101,102,103,104,105,106,107,108,109,110,111,112,113,114,115,116,117,118,119,120,121,122]⟩:ByteArray).extract (Int.toNat n0) (Int.toNat (n0+1))))) Y VRes.nil) (Give.str _))
  refine congrArg T.str ?_
  rcases Ja hn with rfl | rfl | rfl | rfl | rfl | rfl | rfl | rfl | rfl | rfl<;>rfl
 omega
theorem ZN (n:Nat) (n0:Int) (b0:Int) (hn:0≤n0∧n0<10) (hb:b0=10):Pure (Qo Tryd.prog (n+2)) 142 [(tI n0),(tI b0)] (tS (ZB n0)):=by
 refine Pure.intro (rs:= [ResultVar.tmp 4]) Tryd.func142 Y Y Y (E0:= [(0,(tI n0)),(1,(tI b0))]) Y ?_
 obtain ⟨hlim,hmx,hmax⟩:=QM
 refine sr (fO (OF.assign (VEv.str (⟨#[]⟩:ByteArray))) (nt (sq (sr (mO (tI b0) Y (fO (Jb (tv (tI b0) Y) (VEv.int .i64 10)) (nt ?_)))))))
 refine cd (b0=10) Y (fun fhc0=> ?_) fun fhc0=> ?_
 ·refine sq ?_
  refine sr (mO (tI n0) Y (fO (xle (VEv.int .i64 0) (tv (tI n0) Y)) (mO (tB (decide (0≤n0))) Y ?_)))
  refine VRunO.joinB 3 [15,16] 17 (tB (decide ((0≤n0)∧(n0<100)))) ?_ ?_
  ·refine gw (0≤n0) (fun fhg14_1=> ?_) fun fhg14_1=> ?_
   ·refine gF (dy fhg14_1) Y Y (OF.move (tv (tI n0) Y)) ?_
    refine gF (dy fhg14_1) Y Y (xls (tv (tI n0) Y) (VEv.int .i64 100)) (fO (OF.pickT (VEv.tmpB Y (dy fhg14_1)) (tv (tB (decide (n0<100))) Y)) (VRunO.nil ?_))
    exact jq (congrArg T.bool (kAT fhg14_1 Y)) (js Y (js Y (jn)))
   ·refine QN 2 2 true 14 (dz fhg14_1) Y Y Y ?_
    refine fO (OF.pickF (VEv.tmpB Y (dz fhg14_1)) (VEv.bool false)) (VRunO.nil ?_)
    exact jq (congrArg T.bool (kAF fhg14_1)) (js Y (js Y (jn)))
  refine nt ?_
  refine cd ((0≤n0)∧(n0<100)) Y (fun fhc1=> ?_) fun fhc1=> ?_
  ·refine sr ?_
   refine mO (tI n0) Y (cO (cS (vc (tv (tI n0) Y) vn) (Zj Y) (Yk (n+0) n0 (by first | assumption | omega)) Y Y) (aO (tS (ZB n0)) Y (nt (rt (tr (tr ?_))))))
   refine vfin.eq (r':=(tS (ZB n0))) ?_ (vfin.r (VRes.tmp (t:=(tS (ZB n0))) Y VRes.nil) (Give.str _))
   rfl
  omega
 omega
theorem Yx (n:Nat) (n0:Int) (hn:0≤n0∧n0<10):Pure (Qo Tryd.prog (n+3)) 133 [(tI n0)] (tS (ZB n0)):=by
 refine Pure.intro (rs:= [ResultVar.tmp 2]) Tryd.func133 Y Y Y (E0:= [(0,(tI n0))]) Y ?_
 obtain ⟨hlim,hmx,hmax⟩:=QM
 refine sr (fO (OF.assign (VEv.str (⟨#[]⟩:ByteArray))) (nt (sr (mO (tI n0) Y (cO (cS (vc (tv (tI n0) Y) (vc (VEv.int .i64 10) vn)) (Zj Y) (ZN (n+0) n0 10 (by first | assumption | omega) (by first | assumption | omega)) Y Y) (aO (tS (ZB n0)) Y (nt (rt ?_))))))))
 refine vfin.eq (r':=(tS (ZB n0))) ?_ (vfin.r (VRes.tmp (t:=(tS (ZB n0))) Y VRes.nil) (Give.str _))
 rfl
theorem QaP (n:Nat) (n0:Int) (hn:0≤n0∧n0<10):Pure (Qo Tryd.prog (n+4)) 115 [(tI n0)] (tS (ZB n0)):=by
 refine Pure.intro (rs:= [ResultVar.tmp 2]) Tryd.func115 Y Y Y (E0:= [(0,(tI n0))]) Y ?_
 obtain ⟨hlim,hmx,hmax⟩:=QM
 refine sr (fO (OF.assign (VEv.str (⟨#[]⟩:ByteArray))) (nt (sr (mO (tI n0) Y (cO (cS (vc (tv (tI n0) Y) vn) (Zj Y) (Yx (n+0) n0 (by first | assumption | omega)) Y Y) (aO (tS (ZB n0)) Y (nt (rt ?_))))))))
 refine vfin.eq (r':=(tS (ZB n0))) ?_ (vfin.r (VRes.tmp (t:=(tS (ZB n0))) Y VRes.nil) (Give.str _))
 rfl
theorem J6 (n:Nat) (n0:Int) (hn:0≤n0∧n0<10):Pure (Qo Tryd.prog (n+5)) 93 [(tI n0)] (tS (ZB n0)):=by
 refine Pure.intro (rs:= [ResultVar.tmp 2]) Tryd.func93 Y Y Y (E0:= [(0,(tI n0))]) Y ?_
 obtain ⟨hlim,hmx,hmax⟩:=QM
 refine sr (fO (OF.assign (VEv.str (⟨#[]⟩:ByteArray))) (nt (sr (mO (tI n0) Y (cO (cS (vc (tv (tI n0) Y) vn) (Zj Y) (QaP (n+0) n0 (by first | assumption | omega)) Y Y) (aO (tS (ZB n0)) Y (nt (rt ?_))))))))
 refine vfin.eq (r':=(tS (ZB n0))) ?_ (vfin.r (VRes.tmp (t:=(tS (ZB n0))) Y VRes.nil) (Give.str _))
 rfl
theorem JU (n:Nat) (n0:Int) (hn:0≤n0∧n0<10):Pure (Qo Tryd.prog (n+1)) 87 [(tI n0)] (tS (ZB n0)):=by
 refine Pure.intro (rs:= [ResultVar.tmp 2]) Tryd.func87 Y Y Y (E0:= [(0,(tI n0))]) Y ?_
 obtain ⟨hlim,hmx,hmax⟩:=QM
 refine sr (fO (OF.assign (VEv.str (⟨#[]⟩:ByteArray))) (nt (sq (sr (mO (tI n0) Y (fO (Jb (tv (tI n0) Y) (VEv.int .i64 0)) (nt ?_)))))))
 refine cd (n0=0) Y (fun fhc0=> ?_) fun fhc0=> ?_
 ·refine sr ?_
  refine fO (OF.assign (VEv.str (⟨#[48]⟩:ByteArray))) (nt (rt (tr ?_)))
  refine vfin.eq (r':=(tS (⟨#[48]⟩:ByteArray))) ?_ (vfin.r (VRes.tmp (t:=(tS (⟨#[48]⟩:ByteArray))) Y VRes.nil) (Give.str _))
  refine congrArg T.str ?_
  subst fhc0;rfl
 refine sk (tn (sr (fO (OF.assign (VEv.str (⟨#[]⟩:ByteArray))) (nt (sq (sr (mO (tI n0) Y (aO (tI n0) Y (nt (VRun.block ?_))))))))))
 refine VRun.loop (A:=Nat) (fun s_=> [(0,(tI n0)),(2,(tS (⟨#[]⟩:ByteArray))),(3,(tS (JN n0 s_))),(4,(tI (Jr n0 s_)))]) (fun s_=>Yc []) 0 (fun s_=>s_≤1) (fun s_=>1 - s_) (0:Nat) ?_ (Wk.mk (fun k=>k) ?_ ?_ ?_) ?_
 ·first | trivial | (simp;done) | omega | (constructor<;>simp)
 ·exact (b2 (b2 (bc ⟨(congrArg T.str (show (⟨#[]⟩:ByteArray)=JN n0 0 from (by first | rfl | assumption | rfl | (rw [hx0,q10 hn];rfl) | (rw [hj0];rcases Ja hn with rfl | rfl | rfl | rfl | rfl | rfl | rfl | rfl | rfl | rfl<;>rfl) | (simp_all;done)))),rfl⟩ (bc ⟨(congrArg (T.int .i64) (show n0=Jr n0 0 from (by first | rfl | omega | rfl | (rw [hx0,q10 hn];rfl) | (rw [hj0];rcases Ja hn with rfl | rfl | rfl | rfl | rfl | rfl | rfl | rfl | rfl | rfl<;>rfl) | (simp;done) | (push_cast;omega)))),rfl⟩ bn))))
 ·exact bn
 ·exact nd Y
 rintro j (hI':j≤1)
 show VRun _ _ _ [(0,(tI n0)),(2,(tS (⟨#[]⟩:ByteArray))),(3,(tS (JN n0 j))),(4,(tI (Jr n0 j)))] (Yc []) 0 _
 refine sq (sr (mO (tI (Jr n0 j)) Y (fO (xne (tv (tI (Jr n0 j)) Y) (VEv.int .i64 0)) (nt ?_))))
 refine cn (Jr n0 j=0) Y (fun fhc1=> ?_) fun fhc1=> ?_
 ·have hj0:=QfF fhc1
  have hx0:Jr n0 j=n0:=(by rw [hj0];rfl)
  have e1s:(ZO [IntKind.u8.wrap (48+n0)]).size=1:=rfl
  have e0s:(JN n0 j).size=0:=(by rw [hj0];rfl)
  refine sk (tn (sq (VRun.block (sr (mO (tI (Jr n0 j)) Y (fO (B.rem (n:=n0) (tv (tI (Jr n0 j)) Y) (VEv.int .i64 10) (by omega) (by first | (rw [hx0];exact r10 hn) | (rw [hx0,q10 hn];rfl) | (rw [hj0];rfl) | rfl | (rw [Qq (by omega)];omega) | (rw [Qq (by omega)];done))) (aO (tI n0) Y (nt (sq (sr (mO (tI n0) Y ?_)))))))))))
  refine fO (xls (tv (tI n0) Y) (VEv.int .i64 0)) (nt ?_)
  refine cd (n0<0) Y (fun fhc2=> ?_) fun fhc2=> ?_
  ·omega
  refine sk (tn (VRun.region (mO (tI n0) Y (fO (B.add (n:=(48+n0)) (VEv.int .i64 48) (tv (tI n0) Y) (by first | (rw [hx0];exact r10 hn) | (rw [hx0,q10 hn];rfl) | (rw [hj0];rfl) | rfl | (rw [Qq (by omega)];omega) | (rw [Qq (by omega)];done))) (fO (OF.convI (tv (tI (48+n0)) Y) (k0:= .i64) U3 U5) (kO (OM.buildSlice (l:= [(T.int .u8 (IntKind.u8.wrap (48+n0)))]) (VEvp.cons (tv (T.int .u8 (IntKind.u8.wrap (48+n0))) Y) VEvp.nil) Y (by decide) (bc (nofun) bn) (bc ((bc (Y) bn)) bn) (bc (Y) bn) U88 zo5 (by kernel_rfl) Y (by rw [sz5];decide) sz5 (Nat.le_of_ble_eq_true Y)) (lO (B.convBS (l:= [IntKind.u8.wrap (48+n0)]) (tv (T.os 1 0 0 1) Y) Y Y U88 U5 U9) (mO (tS (JN n0 j)) Y (fO (B.sadd (tv (tS (ZO [IntKind.u8.wrap (48+n0)])) Y) (tv (tS (JN n0 j)) Y) (by first | (rw [hx0];exact r10 hn) | (rw [hx0,q10 hn];rfl) | (rw [hj0];rfl) | omega | (simp only [List.length_map];omega) | (simp only [List.length_map,List.length_append,List.length_cons,List.length_nil,List.length_replicate,List.length_set,List.length_drop,List.length_take,QY] at *;omega))) (aO (tS ((ZO [IntKind.u8.wrap (48+n0)])++JN n0 j)) Y (VRunO.nil ?_)))))))))))
  refine vinB.n (tn (VRun.region (mO (tI (Jr n0 j)) Y (fO (B.quo (n:=(Jr n0 (j+1))) (tv (tI (Jr n0 j)) Y) (VEv.int .i64 10) (by omega) (by first | (rw [hx0];exact r10 hn) | (rw [hx0,q10 hn];rfl) | (rw [hj0];rfl) | rfl | (rw [Qq (by omega)];omega) | (rw [Qq (by omega)];done))) (aO (tI (Jr n0 (j+1))) Y (VRunO.nil (tn ?_)))))))
  refine ⟨(j+1:Nat),?_,?_,Wk.mk (fun k=>k) ?_ ?_ ?_⟩
  ·omega
  ·first | omega | (simp only [];omega) | (show _<_;omega) | (simp;omega)
  ·exact (b2 (b2 (bc ⟨(congrArg T.str (show ((ZO [IntKind.u8.wrap (48+n0)])++JN n0 j)=JN n0 (j+1) from (by first | rfl | assumption | rfl | (rw [hx0,q10 hn];rfl) | (rw [hj0];rcases Ja hn with rfl | rfl | rfl | rfl | rfl | rfl | rfl | rfl | rfl | rfl<;>rfl) | (simp_all;done)))),rfl⟩ (b2 bn))))
  ·exact bn
  ·exact nd Y
 refine VRun.exit (vthn.e (vthn.e (vinB.e (tn (sq (sr (mO (tI n0) Y (fO (xls (tv (tI n0) Y) (VEv.int .i64 0)) (nt ?_)))))))))
 refine cd (n0<0) Y (fun fhc3=> ?_) fun fhc3=> ?_
 ·omega
 refine sk (tn (sr (mO (tS (JN n0 j)) Y (aO (tS (JN n0 j)) Y (nt (rt ?_))))))
 refine vfin.eq (r':=(tS (JN n0 j))) ?_ (vfin.r (VRes.tmp (t:=(tS (JN n0 j))) Y VRes.nil) (Give.str _))
 refine congrArg T.str ?_
 exact QeD fhc0 fhc1
noncomputable section
def Zq (l:List D.Step):Nat→Nat→Bool
 | 0,k=>decide (k+1=l.length)
 | j+1,k=>match l[l.length - 1 - j]? with
  | some c=>if Zq l j (l.length - 1 - j)=true∧¬c.Kind=1 then (Zq l j k || decide (k=Int.toNat c.A) || (decide (c.Kind=4∨c.Kind=5) && decide (k=Int.toNat c.B))) else Zq l j k
  | none=>Zq l j k
theorem QeA {l:List D.Step} {j:Nat} {c:D.Step} (h:l[l.length - 1 - j]? =some c) (hn:¬(Zq l j (l.length - 1 - j)=true∧¬c.Kind=1)) (k:Nat):Zq l (j+1) k=Zq l j k:=by rw [Zq,h];simp only;rw [if_neg hn]
theorem Qdw {l:List D.Step} {j:Nat} {c:D.Step} (h:l[l.length - 1 - j]? =some c) (hy:Zq l j (l.length - 1 - j)=true∧¬c.Kind=1) (hp:¬(c.Kind=4∨c.Kind=5)) (k:Nat):Zq l (j+1) k=(Zq l j k || decide (k=Int.toNat c.A)):=by
 rw [Zq,h]
 simp only
 rw [if_pos hy,decide_eq_false hp]
 simp
theorem QdI {l:List D.Step} {j:Nat} {c:D.Step} (h:l[l.length - 1 - j]? =some c) (hy:Zq l j (l.length - 1 - j)=true∧¬c.Kind=1) (hp:c.Kind=4∨c.Kind=5) (k:Nat):Zq l (j+1) k=(Zq l j k || decide (k=Int.toNat c.A) || decide (k=Int.toNat c.B)):=by
 rw [Zq,h]
 simp only
 rw [if_pos hy,decide_eq_true hp]
 simp
def Q5 (l:List D.Step) (j:Nat):List Bool:=(List.range l.length).map (Zq l j)
theorem JI (l:List D.Step) (j:Nat):(Q5 l j).length=l.length:=by simp [Q5]
theorem Qch {l:List D.Step} {j k:Nat} {b:Bool} (h:(Q5 l j)[k]? =some b):b=Zq l j k:=by
 have h1:=(List.getElem?_eq_some_iff.1 h).1
 rw [JI] at h1
 rw [Q5,List.getElem?_map,List.getElem?_range h1,Option.map_some] at h
 exact (Option.some.inj h).symm
theorem QaG (n a:Nat) (f:Nat→Bool):((List.range n).map f).set a true=(List.range n).map (fun k=>f k || decide (k=a)):=by
 refine List.ext_getElem (by simp) (fun k h1 h2=> ?_)
 rw [List.getElem_set]
 simp only [List.getElem_map,List.getElem_range]
 by_cases e:a=k
 ·subst e
  simp
 ·rw [if_neg e,decide_eq_false (fun h=>e h.symm),Bool.or_false]
theorem Qcg {l:List D.Step} {j:Nat} {f:Nat→Bool} (h:∀k,Zq l j k=f k):Q5 l j=(List.range l.length).map f:=by unfold Q5;rw [show Zq l j=f from funext h]
theorem QcB (l:List D.Step):(List.replicate l.length false).set (l.length - 1) true=Q5 l 0:=by
 have h1:List.replicate l.length false=(List.range l.length).map (fun _=>false):=by rw [List.map_const',List.length_range]
 rw [h1,QaG]
 unfold Q5
 refine List.map_congr_left (fun k hk=> ?_)
 have:=List.mem_range.1 hk
 simp only [Zq,Bool.false_or]
 exact decide_eq_decide.2 (by omega)
theorem QeK {l:List D.Step} {j:Nat} {c:D.Step} (h:l[l.length - 1 - j]? =some c) (hn:¬(Zq l j (l.length - 1 - j)=true∧¬c.Kind=1)):Q5 l j=Q5 l (j+1):=(Qcg (fun k=>(QeA h hn k))).symm
theorem Qff {l:List D.Step} {j:Nat} {c:D.Step} (h:l[l.length - 1 - j]? =some c) (hy:Zq l j (l.length - 1 - j)=true∧¬c.Kind=1) (hp:¬(c.Kind=4∨c.Kind=5)):(Q5 l j).set (Int.toNat c.A) true=Q5 l (j+1):=by
 rw [Q5,QaG];exact (Qcg (Qdw h hy hp)).symm
theorem Qe7 {l:List D.Step} {j:Nat} {c:D.Step} (h:l[l.length - 1 - j]? =some c) (hy:Zq l j (l.length - 1 - j)=true∧¬c.Kind=1) (hp:c.Kind=4∨c.Kind=5):((Q5 l j).set (Int.toNat c.A) true).set (Int.toNat c.B) true=Q5 l (j+1):=by
 rw [Q5,QaG,QaG];exact (Qcg (QdI h hy hp)).symm
def Q7 (f:Nat→Bool):Nat→List Int
 | 0=> []
 | i+1=>if f i=true then Q7 f i++ [((i:Nat):Int)] else Q7 f i
theorem colN_mem {f:Nat→Bool} {y:Int}:∀ {i:Nat},y∈Q7 f i↔∃k:Nat,k<i∧f k=true∧y=((k:Nat):Int)
 | 0=>by simp [Q7]
 | i+1=>by
  have ih:=colN_mem (f:=f) (y:=y) (i:=i)
  unfold Q7
  constructor
  ·intro h
   split at h
   ·rcases List.mem_append.1 h with h | h
    ·obtain ⟨k,h1,h2⟩:=ih.1 h
     exact ⟨k,by omega,h2⟩
    ·exact ⟨i,by omega,by assumption,List.mem_singleton.1 h⟩
   ·obtain ⟨k,h1,h2⟩:=ih.1 h
    exact ⟨k,by omega,h2⟩
  ·rintro ⟨k,h1,h2,rfl⟩
   rcases Nat.lt_or_ge k i with h3 | h3
   ·have:=ih.2 ⟨k,h3,h2,rfl⟩
    split
    ·exact List.mem_append.2 (.inl this)
    ·exact this
   ·obtain rfl:k=i:=by omega
    rw [if_pos h2]
    exact List.mem_append.2 (.inr (List.mem_singleton.2 Y))
theorem YC (f:Nat→Bool):∀i,(Q7 f i).Pairwise (· < ·)
 | 0=>List.Pairwise.nil
 | i+1=>by
  have ih:=YC f i
  unfold Q7
  split
  ·refine List.pairwise_append.2 ⟨ih,List.pairwise_singleton _ _,fun y hy z hz=> ?_⟩
   obtain ⟨k,h1,_,rfl⟩:=colN_mem.1 hy
   obtain rfl:=List.mem_singleton.1 hz
   omega
  ·exact ih
theorem Qa2 (f:Nat→Bool):∀i,(Q7 f i).length≤i
 | 0=>Nat.le_refl _
 | i+1=>by
  have ih:=Qa2 f i
  unfold Q7
  split
  ·simp only [List.length_append,List.length_cons,List.length_nil];omega
  ·omega
theorem Qcb : ∀ {a b:List Int},a.Pairwise (· < ·)→b.Pairwise (· < ·)→(∀x,x∈a↔x∈b)→a=b
 | [],[],_,_,_=>rfl
 | [],y::s,_,_,h=>by have:=(h y).2 (by simp);simp at this
 | x::r,[],_,_,h=>by have:=(h x).1 (by simp);simp at this
 | x::r,y::s,h1,h2,h=>by
  have a1:=List.pairwise_cons.1 h1
  have b1:=List.pairwise_cons.1 h2
  have hxy:x=y:=by
   have e1:=(h x).1 (by simp)
   have e2:=(h y).2 (by simp)
   rcases List.mem_cons.1 e1 with e1 | e1
   ·exact e1
   ·rcases List.mem_cons.1 e2 with e2 | e2
    ·exact e2.symm
    ·have:=a1.1 y e2
     have:=b1.1 x e1
     omega
  subst hxy
  rw [Qcb a1.2 b1.2 (fun z=> ?_)]
  have hz:=h z
  simp only [List.mem_cons] at hz
  refine ⟨fun e=> ?_,fun e=> ?_⟩
  ·have:=a1.1 z e
   rcases hz.1 (.inr e) with e1 | e1
   ·omega
   ·exact e1
  ·have:=b1.1 z e
   rcases hz.2 (.inr e) with e1 | e1
   ·omega
   ·exact e1
def Zg (l:List D.Step) (j:Nat):List Int:=Q7 (Zq l j) l.length
theorem QdA (l:List D.Step) (j:Nat):(Zg l j).length≤l.length:=Qa2 _ _
theorem Qfg {l:List D.Step} {j:Nat} {i:Nat} (hi:i<l.length):(((i:Nat):Int)∈Zg l j)↔Zq l j i=true:=by
 unfold Zg
 rw [colN_mem]
 exact ⟨fun ⟨k,h1,h2,h3⟩=>(by have e:i=k:=(by omega);rw [e];exact h2),fun h=>⟨i,hi,h,rfl⟩⟩
theorem QcM {l:List D.Step} (h:1≤l.length): [((l.length:Nat):Int) - 1]=Zg l 0:=by
 refine Qcb (List.pairwise_singleton _ _) (YC _ _) (fun x=> ?_)
 rw [Zg,colN_mem,List.mem_singleton]
 refine ⟨fun e=>⟨l.length - 1,by omega,by simp [Zq];omega,by omega⟩,?_⟩
 rintro ⟨k,h1,h2,h3⟩
 have:k+1=l.length:=by simpa [Zq] using h2
 omega
theorem QeL {l:List D.Step} {j:Nat} {c:D.Step} (h:l[l.length - 1 - j]? =some c) (hn:¬(Zq l j (l.length - 1 - j)=true∧¬c.Kind=1)):Zg l j=Zg l (j+1):=by
 unfold Zg
 rw [show Zq l (j+1)=Zq l j from funext (QeA h hn)]
theorem Qe9 {l:List D.Step} {j:Nat} {c:D.Step} (h:l[l.length - 1 - j]? =some c) (hy:Zq l j (l.length - 1 - j)=true∧¬c.Kind=1) (hp:¬(c.Kind=4∨c.Kind=5)) (ha:0≤c.A∧c.A<((l.length:Nat):Int)):QF (Zg l j) c.A=Zg l (j+1):=by
 refine Qcb (J4 (YC _ _)) (YC _ _) (fun x=> ?_)
 rw [l9put_mem]
 unfold Zg
 rw [colN_mem,colN_mem,show Zq l (j+1)=_ from funext (Qdw h hy hp)]
 constructor
 ·rintro (⟨k,h1,h2,rfl⟩ | rfl)
  ·exact ⟨k,h1,by simp [h2],rfl⟩
  ·exact ⟨Int.toNat c.A,by omega,by simp,by omega⟩
 ·rintro ⟨k,h1,h2,rfl⟩
  rcases (Bool.or_eq_true _ _).mp h2 with h2 | h2
  ·exact .inl ⟨k,h1,h2,rfl⟩
  ·have:=of_decide_eq_true h2
   exact .inr (by omega)
theorem Qe0 {l:List D.Step} {j:Nat} {c:D.Step} (h:l[l.length - 1 - j]? =some c) (hy:Zq l j (l.length - 1 - j)=true∧¬c.Kind=1) (hp:c.Kind=4∨c.Kind=5) (ha:0≤c.A∧c.A<((l.length:Nat):Int)) (hb:0≤c.B∧c.B<((l.length:Nat):Int)):QF (QF (Zg l j) c.A) c.B=Zg l (j+1):=by
 refine Qcb (J4 (J4 (YC _ _))) (YC _ _) (fun x=> ?_)
 rw [l9put_mem,l9put_mem]
 unfold Zg
 rw [colN_mem,colN_mem,show Zq l (j+1)=_ from funext (QdI h hy hp)]
 constructor
 ·rintro ((⟨k,h1,h2,rfl⟩ | rfl) | rfl)
  ·exact ⟨k,h1,by simp [h2],rfl⟩
  ·exact ⟨Int.toNat c.A,by omega,by simp,by omega⟩
  ·exact ⟨Int.toNat c.B,by omega,by simp,by omega⟩
 ·rintro ⟨k,h1,h2,rfl⟩
  rcases (Bool.or_eq_true _ _).mp h2 with h2 | h2
  ·rcases (Bool.or_eq_true _ _).mp h2 with h2 | h2
   ·exact .inl (.inl ⟨k,h1,h2,rfl⟩)
   ·have:=of_decide_eq_true h2
    exact .inl (.inr (by omega))
  ·have:=of_decide_eq_true h2
   exact .inr (by omega)
def Q3 (l:List D.Step):List Int:=if QJ l then Zg l l.length else []
theorem QbX (l:List D.Step):(Q3 l).length<10:=by
 unfold Q3
 split
 ·rename_i h
  have:=QdA l l.length
  have:=h.1.2
  omega
 ·simp
theorem QaK {l:List D.Step} {i:Nat} {x:D.Step} (h:QJ l) (hx:l[i]? =some x) (hk:¬x.Kind=1):(0≤x.A∧x.A<((l.length:Nat):Int))∧((x.Kind=4∨x.Kind=5)→0≤x.B∧x.B<((l.length:Nat):Int)):=by
 have hi:=(List.getElem?_eq_some_iff.1 hx).1
 obtain ⟨y,hy,_,_,h3⟩:=h.2 i hi
 rw [hx] at hy
 obtain rfl:=Option.some.inj hy
 obtain ⟨_,h4,h5,_⟩:=h3 hk
 exact ⟨by omega,fun h6=>by have:=h5 h6;omega⟩
theorem Qba {n j:Nat} (h0:0≤((n:Nat):Int) - 1 - ((j:Nat):Int)):Int.toNat (((n:Nat):Int) - 1 - ((j:Nat):Int))=n - 1 - j:=by omega
theorem Qdh {l:List D.Step} {j:Nat} (h0:0≤((l.length:Nat):Int) - 1 - ((j:Nat):Int)):(((l.length:Nat):Int) - 1 - ((j:Nat):Int))∈Zg l j↔Zq l j (l.length - 1 - j)=true:=by
 rw [← Qfg (show l.length - 1 - j<l.length by omega),show (((l.length - 1 - j:Nat)):Int)=((l.length:Nat):Int) - 1 - ((j:Nat):Int) by omega]
theorem QeI {l:List D.Step} {j:Nat} (h0:0≤((l.length:Nat):Int) - 1 - ((j:Nat):Int)):∃c,l[l.length - 1 - j]? =some c:=⟨_,List.getElem?_eq_getElem (by omega)⟩
theorem JR {l:List D.Step} {j:Nat} (h0:0≤((l.length:Nat):Int) - 1 - ((j:Nat):Int)) (hn:¬(((l.length:Nat):Int) - 1 - ((j:Nat):Int))∈Zg l j):Zg l j=Zg l (j+1):=by
 obtain ⟨c,hc⟩:=QeI h0
 exact QeL hc (fun h=>hn ((Qdh h0).2 h.1))
theorem Jy {l:List D.Step} {j:Nat} {c:D.Step} (hx:l[Int.toNat (((l.length:Nat):Int) - 1 - ((j:Nat):Int))]? =some c) (h0:0≤((l.length:Nat):Int) - 1 - ((j:Nat):Int)) (hk:c.Kind=1):Zg l j=Zg l (j+1):=by
 rw [Qba h0] at hx
 exact QeL hx (fun h=>h.2 hk)
theorem Qa1 {l:List D.Step} {j:Nat} {c:D.Step} (hp:QJ l) (hx:l[Int.toNat (((l.length:Nat):Int) - 1 - ((j:Nat):Int))]? =some c) (h0:0≤((l.length:Nat):Int) - 1 - ((j:Nat):Int)) (hm:(((l.length:Nat):Int) - 1 - ((j:Nat):Int))∈Zg l j) (hk:¬c.Kind=1) (h2:¬(c.Kind=4∨c.Kind=5)):QF (Zg l j) c.A=Zg l (j+1):=by
 rw [Qba h0] at hx
 exact Qe9 hx ⟨(Qdh h0).1 hm,hk⟩ h2 (QaK hp hx hk).1
theorem Qbn {l:List D.Step} {j:Nat} {c:D.Step} (hp:QJ l) (hx:l[Int.toNat (((l.length:Nat):Int) - 1 - ((j:Nat):Int))]? =some c) (h0:0≤((l.length:Nat):Int) - 1 - ((j:Nat):Int)) (hm:(((l.length:Nat):Int) - 1 - ((j:Nat):Int))∈Zg l j) (hk:¬c.Kind=1) (h2:c.Kind=4∨c.Kind=5):QF (QF (Zg l j) c.A) c.B=Zg l (j+1):=by
 rw [Qba h0] at hx
 exact Qe0 hx ⟨(Qdh h0).1 hm,hk⟩ h2 (QaK hp hx hk).1 ((QaK hp hx hk).2 h2)
theorem JH {l:List D.Step} {j:Nat} {b:Bool} (h0:0≤((l.length:Nat):Int) - 1 - ((j:Nat):Int)) (hx:(Q5 l j)[Int.toNat (((l.length:Nat):Int) - 1 - ((j:Nat):Int))]? =some b) (hn:b=false):Q5 l j=Q5 l (j+1):=by
 obtain ⟨c,hc⟩:=QeI h0
 rw [Qba h0] at hx
 have:=Qch hx
 exact QeK hc (fun h=>by rw [← this,hn] at h;cases h.1)
theorem JF {l:List D.Step} {j:Nat} {c:D.Step} (hx:l[Int.toNat (((l.length:Nat):Int) - 1 - ((j:Nat):Int))]? =some c) (h0:0≤((l.length:Nat):Int) - 1 - ((j:Nat):Int)) (hk:c.Kind=1):Q5 l j=Q5 l (j+1):=by
 rw [Qba h0] at hx
 exact QeK hx (fun h=>h.2 hk)
theorem Qbh {l:List D.Step} {j:Nat} {c:D.Step} {b:Bool} (hx:l[Int.toNat (((l.length:Nat):Int) - 1 - ((j:Nat):Int))]? =some c) (h0:0≤((l.length:Nat):Int) - 1 - ((j:Nat):Int)) (hb:(Q5 l j)[Int.toNat (((l.length:Nat):Int) - 1 - ((j:Nat):Int))]? =some b) (ht:b=true) (hk:¬c.Kind=1) (h2:¬(c.Kind=4∨c.Kind=5)):(Q5 l j).set (Int.toNat c.A) true=Q5 l (j+1):=by
 rw [Qba h0] at hx hb
 exact Qff hx ⟨by rw [← Qch hb,ht],hk⟩ h2
theorem QaQ {l:List D.Step} {j:Nat} {c:D.Step} {b:Bool} (hx:l[Int.toNat (((l.length:Nat):Int) - 1 - ((j:Nat):Int))]? =some c) (h0:0≤((l.length:Nat):Int) - 1 - ((j:Nat):Int)) (hb:(Q5 l j)[Int.toNat (((l.length:Nat):Int) - 1 - ((j:Nat):Int))]? =some b) (ht:b=true) (hk:¬c.Kind=1) (h2:c.Kind=4∨c.Kind=5):((Q5 l j).set (Int.toNat c.A) true).set (Int.toNat c.B) true=Q5 l (j+1):=by
 rw [Qba h0] at hx hb
 exact Qe7 hx ⟨by rw [← Qch hb,ht],hk⟩ h2
theorem YB {l:List D.Step} {i j:Nat} {b:Bool} (hj:j=l.length) (h:(Q5 l j)[i]? =some b):Q7 (Zq l l.length) (i+1)=if b=true then Q7 (Zq l l.length) i++ [((i:Nat):Int)] else Q7 (Zq l l.length) i:=by
 subst hj
 rw [Qch h,Q7]
end
theorem J2 (n:Nat) (l:List D.Step) (hz:zL QD l≤mx):Pure (Qo Tryd.prog (n+5)) 88 [(rd 4 Qa l)] (T.sl true 1 ((Q3 l).map (Qe true))):=by
 refine Pure.intro (rs:= [ResultVar.tmp 2]) Tryd.func88 Y Y Y (E0:= [(0,(rd 4 Qa l))]) Y ?_
 obtain ⟨hlim,hmx,hmax⟩:=QM
 have hl:=Zr (z:=QD) l
 refine sr (fO (OF.assign VEv.nils) (nt (sr (kO (OM.slice0 YJ zo3 (by kernel_rfl) Y (by rw [Z9];decide) Z9) (aO (T.os 1 0 0 0) Y (nt (sq (sr (mO (rd 4 Qa l) Y (cO (cS (vc (tv (rd 4 Qa l) Y) vn) (Zj Y) (Jh (n+0) l (by first | assumption | omega)) Y Y) (fO (QZ (tv (tB (decide (QJ l))) Y)) ?_)))))))))))
 refine nt ?_
 refine cn (QJ l) Y (fun fhc0=> ?_) fun fhc0=> ?_
 ·refine sr ?_
  refine mO (T.os 1 0 0 0) Y (aO (T.os 1 0 0 0) Y (nt (rt (tr ?_))))
  refine vfin.eq (r':=(T.sl true 1 [])) ?_ (vfin.r (VRes.tmp (t:=(T.os 1 0 0 0)) Y VRes.nil) (Give.os Y Y bn))
  refine congrArg (fun l_=>T.sl true 1 (List.map (Qe true) l_)) (a₁:= []) ?_
  exact (if_neg (by assumption)).symm
 have hpl:QJ l:=fhc0
 have hn1:=hpl.1.1
 have hn9:=hpl.1.2
 refine sk (tn (sr (mO (T.os 1 0 0 0) Y (mO (rd 4 Qa l) Y (lO (B.lenR (m:=l.length) (tv (rd 4 Qa l) Y) YR (List.length_map ..)) (fO (B.sub (n:=(((l.length:Nat):Int) - 1)) (tv (tN l.length) Y) (VEv.int .i64 1) (by first | rfl | (rw [Qq (by omega)];omega) | (rw [Qq (by omega)];done))) (kO (OM.buildSlice (l:= [(tI (((l.length:Nat):Int) - 1))]) (VEvp.cons (tv (tI (((l.length:Nat):Int) - 1)) Y) VEvp.nil) Y (by decide) (bc (nofun) bn) (bc ((bc (Y) bn)) bn) (bc (Y) bn) YJ zo3 (by kernel_rfl) Y (by rw [Z9];decide) Z9 (Nat.le_of_ble_eq_true Y)) (cO (B.append (rows:= []) (rows2:= [[(tI (((l.length:Nat):Int) - 1))]]) (rows3:=([(((l.length:Nat):Int) - 1)].map (Qe true))) (VDst.own (tv (T.os 1 0 0 0) Y) Y Y) (VSrc.own (tv (T.os 1 1 0 1) Y) Y Y YJ (bc (bc Y bn) bn)) (by decide) YJ Z9 (by decide) zo3 Y (of_decide_eq_true (by kernel_rfl)) (by first | omega | (simp only [List.length_map];omega) | (simp only [List.length_map,List.length_append,List.length_cons,List.length_nil,List.length_replicate,List.length_set,List.length_drop,List.length_take,QY] at *;omega)) Y) (aO (T.os 1 2 0 (([(((l.length:Nat):Int) - 1)].map (Qe true)).length)) Y (nt (sq ?_)))))))))))
 refine sr (mO (rd 4 Qa l) Y (lO (B.lenR (m:=l.length) (tv (rd 4 Qa l) Y) YR (List.length_map ..)) (fO (B.sub (n:=(((l.length:Nat):Int) - 1)) (tv (tN l.length) Y) (VEv.int .i64 1) (by first | rfl | (rw [Qq (by omega)];omega) | (rw [Qq (by omega)];done))) (aO (tI (((l.length:Nat):Int) - 1)) Y (nt (VRun.block ?_))))))
 have he1: [(((l.length:Nat):Int) - 1)]=Zg l 0:=by first | rfl | (exact QcM hn1) | (exact JR fhc1 (by assumption)) | (exact Jy hx1 fhc1 (by assumption)) | (exact Qa1 hpl hx1 fhc1 (by assumption) (by assumption) (by assumption)) | (exact Qbn hpl hx1 fhc1 (by assumption) (by assumption) (by assumption)) | (simp;done) | omega
 refine VRun.loop (A:=Nat) (fun s_=> [(0,(rd 4 Qa l)),(2,T.nils),(3,(T.os 1 0 0 (((Zg l s_).map (Qe true)).length))),(4,(tI (((l.length:Nat):Int) - 1 - ((s_:Nat):Int))))]) (fun s_=>Yc [(0,(Obj.rows 1 ((Zg l s_).map (Qe true))))]) 1 (fun s_=>s_≤l.length) (fun s_=>l.length - s_) (0:Nat) ?_ (Wk.mk (fun k=>if k=0 then 2 else k) ?_ ?_ ?_) ?_
 ·first | trivial | (simp;done) | omega | (constructor<;>simp)
 ·exact (b2 (b2 (bc ⟨(congrArg (fun l_=>T.os 1 2 0 (List.map (Qe true) l_).length) he1),rfl⟩ (bc ⟨(congrArg (T.int .i64) (show (((l.length:Nat):Int) - 1)=((l.length:Nat):Int) - 1 - ((0:Nat):Int) from (by first | rfl | omega | (simp;done) | (push_cast;omega)))),rfl⟩ bn))))
 ·exact (bc ⟨(congrArg (fun l_=>some (Obj.rows 1 (List.map (Qe true) l_))) he1),(lb Y),rfl⟩ bn)
 ·exact nd Y
 rintro j (hI':j≤l.length)
 show VRun _ _ _ [(0,(rd 4 Qa l)),(2,T.nils),(3,(T.os 1 0 0 (((Zg l j).map (Qe true)).length))),(4,(tI (((l.length:Nat):Int) - 1 - ((j:Nat):Int))))] (Yc [(0,(Obj.rows 1 ((Zg l j).map (Qe true))))]) 1 _
 have hI1:=hI'
 have hul:=QdA l j
 refine sq (sr (mO (tI (((l.length:Nat):Int) - 1 - ((j:Nat):Int))) Y (fO (xge (tv (tI (((l.length:Nat):Int) - 1 - ((j:Nat):Int))) Y) (VEv.int .i64 0)) (nt ?_))))
 refine cd (0≤((l.length:Nat):Int) - 1 - ((j:Nat):Int)) Y (fun fhc1=> ?_) fun fhc1=> ?_
 ·refine sk ?_
  refine tn (sq (VRun.block (sq (sr (mO (T.os 1 0 0 (((Zg l j).map (Qe true)).length)) Y (mO (tI (((l.length:Nat):Int) - 1 - ((j:Nat):Int))) Y (cO (cS (us:= [(rd 1 Qe (Zg l j)),(tI (((l.length:Nat):Int) - 1 - ((j:Nat):Int)))]) (vc (tv (T.os 1 0 0 (((Zg l j).map (Qe true)).length)) Y) (vc (tv (tI (((l.length:Nat):Int) - 1 - ((j:Nat):Int))) Y) vn)) (LendL.cons (Lend.os Y Y (okInt.fzMap _ _)) (lp Y ln)) (Qcm (n+3) (Zg l j) (((l.length:Nat):Int) - 1 - ((j:Nat):Int)) (by first | assumption | omega)) Y Y) (fO (QZ (tv (tB (decide ((((l.length:Nat):Int) - 1 - ((j:Nat):Int))∈(Zg l j)))) Y)) (mO (tB (!(decide ((((l.length:Nat):Int) - 1 - ((j:Nat):Int))∈(Zg l j))))) Y ?_)))))))))
  refine gn ((((l.length:Nat):Int) - 1 - ((j:Nat):Int))∈(Zg l j)) (fun fhg27_2=> ?_) fun fhg27_2=> ?_
  ·refine QN 6 4 false 27 (ny fhg27_2) Y Y Y ?_
   refine fO (OF.pickT (VEv.tmpB Y (ny fhg27_2)) (VEv.bool true)) (nt (ct Y (VRun.exit (vthn.e (vinB.e (tn (VRun.region (mO (tI (((l.length:Nat):Int) - 1 - ((j:Nat):Int))) Y (fO (B.sub (n:=(((l.length:Nat):Int) - 1 - ((j:Nat):Int) - 1)) (tv (tI (((l.length:Nat):Int) - 1 - ((j:Nat):Int))) Y) (VEv.int .i64 1) (by first | rfl | (rw [Qq (by omega)];omega) | (rw [Qq (by omega)];done))) (aO (tI (((l.length:Nat):Int) - 1 - ((j:Nat):Int) - 1)) Y (VRunO.nil ?_)))))))))))
   refine tn ?_
   have he3:Zg l j=Zg l (j+1):=by first | rfl | (exact QcM hn1) | (exact JR fhc1 (by assumption)) | (exact Jy hx1 fhc1 (by assumption)) | (exact Qa1 hpl hx1 fhc1 (by assumption) (by assumption) (by assumption)) | (exact Qbn hpl hx1 fhc1 (by assumption) (by assumption) (by assumption)) | (simp;done) | omega
   refine ⟨(j+1:Nat),?_,?_,Wk.mk (fun k=>k) ?_ ?_ ?_⟩
   ·omega
   ·omega
   ·exact (b2 (b2 (bc ⟨(congrArg (fun l_=>T.os 1 0 0 (List.map (Qe true) l_).length) he3),rfl⟩ (bc ⟨(congrArg (T.int .i64) (show (((l.length:Nat):Int) - 1 - ((j:Nat):Int) - 1)=((l.length:Nat):Int) - 1 - (((j+1):Nat):Int) from (by first | rfl | omega | (simp;done) | (push_cast;omega)))),rfl⟩ bn))))
   ·exact (bc ⟨(congrArg (fun l_=>some (Obj.rows 1 (List.map (Qe true) l_))) he3),(lb Y),rfl⟩ bn)
   ·exact nd Y
  refine gF (nz fhg27_2) Y Y (OF.move (tv (rd 4 Qa l) Y)) (gF (nz fhg27_2) Y Y (OF.move (tv (tI (((l.length:Nat):Int) - 1 - ((j:Nat):Int))) Y)) ?_)
  obtain ⟨x1,hx1⟩:∃x,l[(Int.toNat (((l.length:Nat):Int) - 1 - ((j:Nat):Int)))]? =some x:=⟨_,List.getElem?_eq_getElem (by omega)⟩
  have hq1:=Qd3 (l:=Zg l j) (n:=x1.A)
  refine gF (nz fhg27_2) Y Y (OF.indexAddrR (row:=(Qa false x1)) (i:=(Int.toNat (((l.length:Nat):Int) - 1 - ((j:Nat):Int)))) (tv (rd 4 Qa l) Y) (tv (tI (((l.length:Nat):Int) - 1 - ((j:Nat):Int))) Y) (by omega) (Qr _ hx1) YR Zf ZR) (glr (tI x1.Kind) (nz fhg27_2) Y Y Y Y (lb Y) Qy Y Q4 (gF (nz fhg27_2) Y Y (Jb (tv (tI x1.Kind) Y) (VEv.int .i64 1)) (fO (OF.pickF (VEv.tmpB Y (nz fhg27_2)) (tv (tB (decide (x1.Kind=1))) Y)) (nt ?_))))
  refine cd (x1.Kind=1) Y (fun fhc2=> ?_) fun fhc2=> ?_
  ·refine VRun.exit ?_
   refine vthn.e (vinB.e (tn (VRun.region (mO (tI (((l.length:Nat):Int) - 1 - ((j:Nat):Int))) Y (fO (B.sub (n:=(((l.length:Nat):Int) - 1 - ((j:Nat):Int) - 1)) (tv (tI (((l.length:Nat):Int) - 1 - ((j:Nat):Int))) Y) (VEv.int .i64 1) (by first | rfl | (rw [Qq (by omega)];omega) | (rw [Qq (by omega)];done))) (aO (tI (((l.length:Nat):Int) - 1 - ((j:Nat):Int) - 1)) Y (VRunO.nil (tn ?_))))))))
   have he4:Zg l j=Zg l (j+1):=by first | rfl | (exact QcM hn1) | (exact JR fhc1 (by assumption)) | (exact Jy hx1 fhc1 (by assumption)) | (exact Qa1 hpl hx1 fhc1 (by assumption) (by assumption) (by assumption)) | (exact Qbn hpl hx1 fhc1 (by assumption) (by assumption) (by assumption)) | (simp;done) | omega
   refine ⟨(j+1:Nat),?_,?_,Wk.mk (fun k=>k) ?_ ?_ ?_⟩
   ·omega
   ·omega
   ·exact (b2 (b2 (bc ⟨(congrArg (fun l_=>T.os 1 0 0 (List.map (Qe true) l_).length) he4),rfl⟩ (bc ⟨(congrArg (T.int .i64) (show (((l.length:Nat):Int) - 1 - ((j:Nat):Int) - 1)=((l.length:Nat):Int) - 1 - (((j+1):Nat):Int) from (by first | rfl | omega | (simp;done) | (push_cast;omega)))),rfl⟩ bn))))
   ·exact (bc ⟨(congrArg (fun l_=>some (Obj.rows 1 (List.map (Qe true) l_))) he4),(lb Y),rfl⟩ bn)
   ·exact nd Y
  refine sk (tn (sr (mO (T.os 1 0 0 (((Zg l j).map (Qe true)).length)) Y (mO (rd 4 Qa l) Y (mO (tI (((l.length:Nat):Int) - 1 - ((j:Nat):Int))) Y (fO (OF.indexAddrR (row:=(Qa false x1)) (i:=(Int.toNat (((l.length:Nat):Int) - 1 - ((j:Nat):Int)))) (tv (rd 4 Qa l) Y) (tv (tI (((l.length:Nat):Int) - 1 - ((j:Nat):Int))) Y) (by omega) (Qr _ hx1) YR Zf ZR) (lr (tI x1.A) Y (lb Y) Zt Y Q4 (cO (OC.callF (us:= [(rd 1 Qe (Zg l j)),(tI x1.A)]) (r':=(T.os 1 1 0 (((QF (Zg l j) x1.A).map (Qe true)).length))) (objs:= [(Obj.rows 1 ((QF (Zg l j) x1.A).map (Qe true)))]) Y (vc (tv (T.os 1 0 0 (((Zg l j).map (Qe true)).length)) Y) (vc (tv (tI x1.A) Y) vn)) (LendL.cons (Lend.os Y Y (okInt.fzMap _ _)) (lp Y ln)) (JL (n+3) (Zg l j) x1.A (by first | assumption | omega)) Y) (aO (T.os 1 1 0 (((QF (Zg l j) x1.A).map (Qe true)).length)) Y (nt (sr ?_)))))))))))
  refine mO (rd 4 Qa l) Y (mO (tI (((l.length:Nat):Int) - 1 - ((j:Nat):Int))) Y (fO (OF.indexAddrR (row:=(Qa false x1)) (i:=(Int.toNat (((l.length:Nat):Int) - 1 - ((j:Nat):Int)))) (tv (rd 4 Qa l) Y) (tv (tI (((l.length:Nat):Int) - 1 - ((j:Nat):Int))) Y) (by omega) (Qr _ hx1) YR Zf ZR) (lr (tI x1.Kind) Y (lb Y) Qy Y Q4 (fO (Jb (tv (tI x1.Kind) Y) (VEv.int .i64 4)) (mO (tB (decide (x1.Kind=4))) Y ?_)))))
  refine VRunO.joinB 7 [49,50,51,52,53,54] 55 (tB (decide ((x1.Kind=4)∨(x1.Kind=5)))) ?_ ?_
  ·refine gw (x1.Kind=4) (fun fhg48_5=> ?_) fun fhg48_5=> ?_
   ·refine QN 6 6 false 48 (dy fhg48_5) Y Y Y ?_
    refine fO (OF.pickT (VEv.tmpB Y (dy fhg48_5)) (VEv.bool true)) (VRunO.nil ?_)
    exact jq (congrArg T.bool (kOT fhg48_5)) (js Y (js Y (js Y (js Y (js Y (js Y (jn)))))))
   ·refine gF (dz fhg48_5) Y Y (OF.move (tv (rd 4 Qa l) Y)) ?_
    refine gF (dz fhg48_5) Y Y (OF.move (tv (tI (((l.length:Nat):Int) - 1 - ((j:Nat):Int))) Y)) (gF (dz fhg48_5) Y Y (OF.indexAddrR (row:=(Qa false x1)) (i:=(Int.toNat (((l.length:Nat):Int) - 1 - ((j:Nat):Int)))) (tv (rd 4 Qa l) Y) (tv (tI (((l.length:Nat):Int) - 1 - ((j:Nat):Int))) Y) (by omega) (Qr _ hx1) YR Zf ZR) (glr (tI x1.Kind) (dz fhg48_5) Y Y Y Y (lb Y) Qy Y Q4 (gF (dz fhg48_5) Y Y (Jb (tv (tI x1.Kind) Y) (VEv.int .i64 5)) (fO (OF.pickF (VEv.tmpB Y (dz fhg48_5)) (tv (tB (decide (x1.Kind=5))) Y)) (VRunO.nil ?_)))))
    exact jq (congrArg T.bool (kOF fhg48_5 Y)) (js Y (js Y (js Y (js Y (js Y (js Y (jn)))))))
  refine nt ?_
  refine cd ((x1.Kind=4)∨(x1.Kind=5)) Y (fun fhc3=> ?_) fun fhc3=> ?_
  ·refine VRun.region ?_
   refine mO (T.os 1 1 0 (((QF (Zg l j) x1.A).map (Qe true)).length)) Y (mO (rd 4 Qa l) Y (mO (tI (((l.length:Nat):Int) - 1 - ((j:Nat):Int))) Y (fO (OF.indexAddrR (row:=(Qa false x1)) (i:=(Int.toNat (((l.length:Nat):Int) - 1 - ((j:Nat):Int)))) (tv (rd 4 Qa l) Y) (tv (tI (((l.length:Nat):Int) - 1 - ((j:Nat):Int))) Y) (by omega) (Qr _ hx1) YR Zf ZR) (lr (tI x1.B) Y (lb Y) Ze Y Q4 (cO (OC.callF (us:= [(rd 1 Qe (QF (Zg l j) x1.A)),(tI x1.B)]) (r':=(T.os 1 2 0 (((QF (QF (Zg l j) x1.A) x1.B).map (Qe true)).length))) (objs:= [(Obj.rows 1 ((QF (QF (Zg l j) x1.A) x1.B).map (Qe true)))]) Y (vc (tv (T.os 1 1 0 (((QF (Zg l j) x1.A).map (Qe true)).length)) Y) (vc (tv (tI x1.B) Y) vn)) (LendL.cons (Lend.os Y Y (okInt.fzMap _ _)) (lp Y ln)) (JL (n+3) (QF (Zg l j) x1.A) x1.B (by first | assumption | omega)) Y) (aO (T.os 1 2 0 (((QF (QF (Zg l j) x1.A) x1.B).map (Qe true)).length)) Y (VRunO.nil (vinB.n (tn (VRun.region (mO (tI (((l.length:Nat):Int) - 1 - ((j:Nat):Int))) Y ?_)))))))))))
   refine fO (B.sub (n:=(((l.length:Nat):Int) - 1 - ((j:Nat):Int) - 1)) (tv (tI (((l.length:Nat):Int) - 1 - ((j:Nat):Int))) Y) (VEv.int .i64 1) (by first | rfl | (rw [Qq (by omega)];omega) | (rw [Qq (by omega)];done))) (aO (tI (((l.length:Nat):Int) - 1 - ((j:Nat):Int) - 1)) Y (VRunO.nil (tn ?_)))
   have he6:QF (QF (Zg l j) x1.A) x1.B=Zg l (j+1):=by first | rfl | (exact QcM hn1) | (exact JR fhc1 (by assumption)) | (exact Jy hx1 fhc1 (by assumption)) | (exact Qa1 hpl hx1 fhc1 (by assumption) (by assumption) (by assumption)) | (exact Qbn hpl hx1 fhc1 (by assumption) (by assumption) (by assumption)) | (simp;done) | omega
   refine ⟨(j+1:Nat),?_,?_,Wk.mk (fun k=>if k=0 then 2 else k) ?_ ?_ ?_⟩
   ·omega
   ·omega
   ·exact (b2 (b2 (bc ⟨(congrArg (fun l_=>T.os 1 2 0 (List.map (Qe true) l_).length) he6),rfl⟩ (bc ⟨(congrArg (T.int .i64) (show (((l.length:Nat):Int) - 1 - ((j:Nat):Int) - 1)=((l.length:Nat):Int) - 1 - (((j+1):Nat):Int) from (by first | rfl | omega | (simp;done) | (push_cast;omega)))),rfl⟩ bn))))
   ·exact (bc ⟨(congrArg (fun l_=>some (Obj.rows 1 (List.map (Qe true) l_))) he6),(lb Y),rfl⟩ bn)
   ·exact nd Y
  refine sk (vinB.n (tn (VRun.region (mO (tI (((l.length:Nat):Int) - 1 - ((j:Nat):Int))) Y (fO (B.sub (n:=(((l.length:Nat):Int) - 1 - ((j:Nat):Int) - 1)) (tv (tI (((l.length:Nat):Int) - 1 - ((j:Nat):Int))) Y) (VEv.int .i64 1) (by first | rfl | (rw [Qq (by omega)];omega) | (rw [Qq (by omega)];done))) (aO (tI (((l.length:Nat):Int) - 1 - ((j:Nat):Int) - 1)) Y (VRunO.nil (tn ?_))))))))
  have he7:QF (Zg l j) x1.A=Zg l (j+1):=by first | rfl | (exact QcM hn1) | (exact JR fhc1 (by assumption)) | (exact Jy hx1 fhc1 (by assumption)) | (exact Qa1 hpl hx1 fhc1 (by assumption) (by assumption) (by assumption)) | (exact Qbn hpl hx1 fhc1 (by assumption) (by assumption) (by assumption)) | (simp;done) | omega
  refine ⟨(j+1:Nat),?_,?_,Wk.mk (fun k=>if k=0 then 1 else k) ?_ ?_ ?_⟩
  ·omega
  ·omega
  ·exact (b2 (b2 (bc ⟨(congrArg (fun l_=>T.os 1 1 0 (List.map (Qe true) l_).length) he7),rfl⟩ (bc ⟨(congrArg (T.int .i64) (show (((l.length:Nat):Int) - 1 - ((j:Nat):Int) - 1)=((l.length:Nat):Int) - 1 - (((j+1):Nat):Int) from (by first | rfl | omega | (simp;done) | (push_cast;omega)))),rfl⟩ bn))))
  ·exact (bc ⟨(congrArg (fun l_=>some (Obj.rows 1 (List.map (Qe true) l_))) he7),(lb Y),rfl⟩ bn)
  ·exact nd Y
 refine VRun.exit (vthn.e (vthn.e (vinB.e (tn (sr (mO (T.os 1 0 0 (((Zg l j).map (Qe true)).length)) Y (aO (T.os 1 0 0 (((Zg l j).map (Qe true)).length)) Y (nt (rt ?_)))))))))
 refine vfin.eq (r':=(T.sl true 1 ((Zg l j).map (Qe true)))) ?_ (vfin.r (VRes.tmp (t:=(T.os 1 0 0 (((Zg l j).map (Qe true)).length))) Y VRes.nil) (Give.os Y Y (okInt.cleanMap _)))
 refine congrArg (fun l_=>T.sl true 1 (List.map (Qe true) l_)) ?_
 rw [show j=l.length by omega];exact (if_pos hpl).symm
theorem Qac (n:Nat) (l:List D.Step) (hz:zL QD l≤mx):Pure (Qo Tryd.prog (n+4)) 94 [(rd 4 Qa l)] (T.sl true 1 ((Q3 l).map (Qe true))):=by
 refine Pure.intro (rs:= [ResultVar.tmp 2]) Tryd.func94 Y Y Y (E0:= [(0,(rd 4 Qa l))]) Y ?_
 obtain ⟨hlim,hmx,hmax⟩:=QM
 have hl:=Zr (z:=QD) l
 refine sr (fO (OF.assign VEv.nils) (nt (sq (sr (mO (rd 4 Qa l) Y (cO (cS (vc (tv (rd 4 Qa l) Y) vn) (Zj Y) (Jg (n+0) l (by first | assumption | omega)) Y Y) (fO (QZ (tv (tB (decide (QJ l))) Y)) (nt ?_))))))))
 refine cn (QJ l) Y (fun fhc0=> ?_) fun fhc0=> ?_
 ·refine sr ?_
  refine fO (OF.assign VEv.nils) (nt (rt (tr ?_)))
  refine vfin.eq (r':=(T.sl true 1 [])) ?_ (vfin.r (VRes.tmp (t:=T.nils) Y VRes.nil) (Give.nils 1))
  refine congrArg (fun l_=>T.sl true 1 (List.map (Qe true) l_)) (a₁:= []) ?_
  exact (if_neg (by assumption)).symm
 have hpl:QJ l:=fhc0
 have hn1:=hpl.1.1
 have hn9:=hpl.1.2
 refine sk (tn (sr (mO (rd 4 Qa l) Y (lO (B.lenR (m:=l.length) (tv (rd 4 Qa l) Y) YR (List.length_map ..)) (kO (B.makeZ (n:=l.length) (m:=((List.replicate l.length false).map (Qx true)).length) (rows:=((List.replicate l.length false).map (Qx true))) (zr:=(Qx true false)) (tv (tN l.length) Y) (tv (tN l.length) Y) Y Qdi zo4 zc4 Y (by rw [sz4];decide) (by first | omega | (simp only [List.length_map];omega) | (simp only [List.length_map,List.length_append,List.length_cons,List.length_nil,List.length_replicate,List.length_set,List.length_drop,List.length_take,QY] at *;omega)) (of_decide_eq_true (by kernel_rfl)) (Z0.bool Z0.nil) sz4 (List.map_replicate ..).symm (by rw [List.length_map,List.length_replicate])) (aO (T.os 1 0 0 (((List.replicate l.length false).map (Qx true)).length)) Y (nt (sr (mO (T.os 1 0 0 (((List.replicate l.length false).map (Qx true)).length)) Y (mO (rd 4 Qa l) Y (lO (B.lenR (m:=l.length) (tv (rd 4 Qa l) Y) YR (List.length_map ..)) ?_)))))))))))
 refine fO (B.sub (n:=(((l.length:Nat):Int) - 1)) (tv (tN l.length) Y) (VEv.int .i64 1) (by first | rfl | (rw [Qq (by omega)];omega) | (rw [Qq (by omega)];done))) ?_
 obtain ⟨x1,hx1⟩:∃x,(List.replicate l.length false)[(Int.toNat (((l.length:Nat):Int) - 1))]? =some x:=⟨_,List.getElem?_eq_getElem (by first | omega | (simp only [List.length_map];omega) | (simp only [List.length_map,List.length_append,List.length_cons,List.length_nil,List.length_replicate,List.length_set,List.length_drop,List.length_take,QY] at *;omega))⟩
 refine fO (B.indexAddrO (i:=(Int.toNat (((l.length:Nat):Int) - 1))) (tv (T.os 1 0 0 (((List.replicate l.length false).map (Qx true)).length)) Y) (tv (tI (((l.length:Nat):Int) - 1)) Y) (by omega) (by first | omega | (simp only [List.length_map];omega) | (simp only [List.length_map,List.length_append,List.length_cons,List.length_nil,List.length_replicate,List.length_set,List.length_drop,List.length_take,QY] at *;omega)) Qdi sz4 if4) (cO (B.storeP (us:= [(tB true)]) (rows':=(((List.replicate l.length false).set (Int.toNat (((l.length:Nat):Int) - 1)) true).map (Qx true))) (row:=(Qx true x1)) (tv (T.orp 1 0 (Int.toNat (((l.length:Nat):Int) - 1)) 0) Y) (VEv.bool true) nofun Y (Qr _ hx1) Y (lb Y) if4 sz4 (bc Y bn) (by intro r hr t ht;obtain ⟨x,_,rfl⟩:=List.mem_map.1 hr;rw [Qdu] at ht;exact Q0 (okBool.pl _ t ht)) (Zi Y)) (nt (sq (sr (mO (rd 4 Qa l) Y (lO (B.lenR (m:=l.length) (tv (rd 4 Qa l) Y) YR (List.length_map ..)) (fO (B.sub (n:=(((l.length:Nat):Int) - 1)) (tv (tN l.length) Y) (VEv.int .i64 1) (by first | rfl | (rw [Qq (by omega)];omega) | (rw [Qq (by omega)];done))) (aO (tI (((l.length:Nat):Int) - 1)) Y (nt (VRun.block ?_))))))))))
 have he1:((List.replicate l.length false).set (Int.toNat (((l.length:Nat):Int) - 1)) true)=Q5 l 0:=by first | rfl | (rw [← QcB];congr 1;omega) | (exact JH fhc1 hx3 (by assumption)) | (exact JF hx2 fhc1 (by assumption)) | (exact Qbh hx2 fhc1 hx3 (by assumption) (by assumption) (by assumption)) | (exact QaQ hx2 fhc1 hx3 (by assumption) (by assumption) (by assumption)) | (simp;done) | omega
 refine VRun.loop (A:=Nat) (fun s_=> [(0,(rd 4 Qa l)),(2,T.nils),(3,(T.os 1 0 0 (((Q5 l s_).map (Qx true)).length))),(4,(tI (((l.length:Nat):Int) - 1 - ((s_:Nat):Int))))]) (fun s_=>Yc [(0,(Obj.rows 1 ((Q5 l s_).map (Qx true))))]) 1 (fun s_=>s_≤l.length) (fun s_=>l.length - s_) (0:Nat) ?_ (Wk.mk (fun k=>k) ?_ ?_ ?_) ?_
 ·first | trivial | (simp;done) | omega | (constructor<;>simp)
 ·exact (b2 (b2 (bc ⟨(congrArg (fun n_=>T.os 1 0 0 n_) (show ((List.replicate l.length false).map (Qx true)).length=((Q5 l 0).map (Qx true)).length from (by first | rfl | (simp only [List.length_map,List.length_set,JI,List.length_replicate]) | (simp only [List.length_map];omega) | (simp only [List.length_map,List.length_set,List.length_append,List.length_take,List.length_replicate,List.length_cons,List.length_nil];omega)))),rfl⟩ (bc ⟨(congrArg (T.int .i64) (show (((l.length:Nat):Int) - 1)=((l.length:Nat):Int) - 1 - ((0:Nat):Int) from (by first | rfl | omega | (simp;done) | (push_cast;omega)))),rfl⟩ bn))))
 ·exact (bc ⟨(congrArg (fun l_=>some (Obj.rows 1 (List.map (Qx true) l_))) he1),(lb Y),rfl⟩ bn)
 ·exact nd Y
 rintro j (hI':j≤l.length)
 show VRun _ _ _ [(0,(rd 4 Qa l)),(2,T.nils),(3,(T.os 1 0 0 (((Q5 l j).map (Qx true)).length))),(4,(tI (((l.length:Nat):Int) - 1 - ((j:Nat):Int))))] (Yc [(0,(Obj.rows 1 ((Q5 l j).map (Qx true))))]) 1 _
 have hI1:=hI'
 have hul:=JI l j
 refine sq (sr (mO (tI (((l.length:Nat):Int) - 1 - ((j:Nat):Int))) Y (fO (xge (tv (tI (((l.length:Nat):Int) - 1 - ((j:Nat):Int))) Y) (VEv.int .i64 0)) (nt ?_))))
 refine cd (0≤((l.length:Nat):Int) - 1 - ((j:Nat):Int)) Y (fun fhc1=> ?_) fun fhc1=> ?_
 ·refine sk ?_
  refine tn (sq (VRun.block (sr (mO (rd 4 Qa l) Y (mO (tI (((l.length:Nat):Int) - 1 - ((j:Nat):Int))) Y ?_)))))
  obtain ⟨x2,hx2⟩:∃x,l[(Int.toNat (((l.length:Nat):Int) - 1 - ((j:Nat):Int)))]? =some x:=⟨_,List.getElem?_eq_getElem (by omega)⟩
  refine fO (OF.indexAddrR (row:=(Qa false x2)) (i:=(Int.toNat (((l.length:Nat):Int) - 1 - ((j:Nat):Int)))) (tv (rd 4 Qa l) Y) (tv (tI (((l.length:Nat):Int) - 1 - ((j:Nat):Int))) Y) (by omega) (Qr _ hx2) YR Zf ZR) (lO (OL.loadRn (us:=(Qa false x2)) (tv (T.rp (Qa false x2)) Y) Qdb Zf (lb Y) Y) (kO (B.alloc (t:=(T.agg [(tN 0),(tS ByteArray.empty),(tN 0),(tN 0)])) (ts:= [(tN 0),(tS ByteArray.empty),(tN 0),(tN 0)]) Qd0 Qd1 nofun (fun _=> .agg _ _ Y (Qaf (RL.cons (.int _ _) (RL.cons (.str _) (RL.cons (.int _ _) (RL.cons (.int _ _) (RL.nil _))))))) Y) (cO (B.storeW (us:=(Qa false x2)) (tv (T.op 1 0) Y) (tv (T.agg (Qa false x2)) Y) nofun Y Y Y ZR Zf (bc Y (bc Y (bc Y (bc Y bn))))) (nt (sr (mO (T.os 1 0 0 (((Q5 l j).map (Qx true)).length)) Y (mO (tI (((l.length:Nat):Int) - 1 - ((j:Nat):Int))) Y ?_)))))))
  obtain ⟨x3,hx3⟩:∃x,(Q5 l j)[(Int.toNat (((l.length:Nat):Int) - 1 - ((j:Nat):Int)))]? =some x:=⟨_,List.getElem?_eq_getElem (by omega)⟩
  refine fO (B.indexAddrO (i:=(Int.toNat (((l.length:Nat):Int) - 1 - ((j:Nat):Int)))) (tv (T.os 1 0 0 (((Q5 l j).map (Qx true)).length)) Y) (tv (tI (((l.length:Nat):Int) - 1 - ((j:Nat):Int))) Y) (by omega) (by first | omega | (simp only [List.length_map];omega) | (simp only [List.length_map,List.length_append,List.length_cons,List.length_nil,List.length_replicate,List.length_set,List.length_drop,List.length_take,QY] at *;omega)) Qdi sz4 if4) (lO (OL.loadP1 (t:=(tB x3)) (row:=(Qx true x3)) (tv (T.orp 1 0 (Int.toNat (((l.length:Nat):Int) - 1 - ((j:Nat):Int))) 0) Y) Y (Qr _ hx3) Y Y st4) (mO (tB x3) Y ?_))
  refine QcP x3 (fun hg35_2=> ?_) (fun hg35_2=> ?_)
  ·have fhg35_2:x3=true:=hg35_2
   refine glf (tI x2.Kind) hg35_2 Y Y Y Y Qy Y Y Q4 (gF hg35_2 Y Y (xne (tv (tI x2.Kind) Y) (VEv.int .i64 1)) (fO (OF.pickT (VEv.tmpB Y hg35_2) (tv (tB (!(decide (x2.Kind=1)))) Y)) (nt ?_)))
   refine cn (x2.Kind=1) Y (fun fhc2=> ?_) fun fhc2=> ?_
   ·have hpb:=QaK hpl hx2 fhc2
    refine sr (mO (T.os 1 0 0 (((Q5 l j).map (Qx true)).length)) Y (lf (tI x2.A) Y Zt Y Y Q4 ?_))
    obtain ⟨x4,hx4⟩:∃x,(Q5 l j)[(Int.toNat x2.A)]? =some x:=⟨_,List.getElem?_eq_getElem (by omega)⟩
    refine fO (B.indexAddrO (i:=(Int.toNat x2.A)) (tv (T.os 1 0 0 (((Q5 l j).map (Qx true)).length)) Y) (tv (tI x2.A) Y) (by omega) (by first | omega | (simp only [List.length_map];omega) | (simp only [List.length_map,List.length_append,List.length_cons,List.length_nil,List.length_replicate,List.length_set,List.length_drop,List.length_take,QY] at *;omega)) Qdi sz4 if4) (cO (B.storeP (us:= [(tB true)]) (rows':=(((Q5 l j).set (Int.toNat x2.A) true).map (Qx true))) (row:=(Qx true x4)) (tv (T.orp 1 0 (Int.toNat x2.A) 0) Y) (VEv.bool true) nofun Y (Qr _ hx4) Y (lb Y) if4 sz4 (bc Y bn) (by intro r hr t ht;obtain ⟨x,_,rfl⟩:=List.mem_map.1 hr;rw [Qdu] at ht;exact Q0 (okBool.pl _ t ht)) (Zi Y)) (nt (sr (lf (tI x2.Kind) Y Qy Y Y Q4 (cO (cS (vc (tv (tI x2.Kind) Y) vn) (Zj Y) (QV (n+2) x2.Kind) Y Y) (nt ?_))))))
    refine cd (x2.Kind=4∨x2.Kind=5) Y (fun fhc3=> ?_) fun fhc3=> ?_
    ·have hpb2:=hpb.2 fhc3
     refine VRun.region (mO (T.os 1 0 0 (((Q5 l j).map (Qx true)).length)) Y (lf (tI x2.B) Y Ze Y Y Q4 ?_))
     obtain ⟨x5,hx5⟩:∃x,((Q5 l j).set (Int.toNat x2.A) true)[(Int.toNat x2.B)]? =some x:=⟨_,List.getElem?_eq_getElem (by first | omega | (simp only [List.length_map];omega) | (simp only [List.length_map,List.length_append,List.length_cons,List.length_nil,List.length_replicate,List.length_set,List.length_drop,List.length_take,QY] at *;omega))⟩
     refine fO (B.indexAddrO (i:=(Int.toNat x2.B)) (tv (T.os 1 0 0 (((Q5 l j).map (Qx true)).length)) Y) (tv (tI x2.B) Y) (by omega) (by first | omega | (simp only [List.length_map];omega) | (simp only [List.length_map,List.length_append,List.length_cons,List.length_nil,List.length_replicate,List.length_set,List.length_drop,List.length_take,QY] at *;omega)) Qdi sz4 if4) (cO (B.storeP (us:= [(tB true)]) (rows':=((((Q5 l j).set (Int.toNat x2.A) true).set (Int.toNat x2.B) true).map (Qx true))) (row:=(Qx true x5)) (tv (T.orp 1 0 (Int.toNat x2.B) 0) Y) (VEv.bool true) nofun Y (Qr _ hx5) Y (lb Y) if4 sz4 (bc Y bn) (by intro r hr t ht;obtain ⟨x,_,rfl⟩:=List.mem_map.1 hr;rw [Qdu] at ht;exact Q0 (okBool.pl _ t ht)) (Zi Y)) (VRunO.nil (vinB.n (tn (VRun.region (mO (tI (((l.length:Nat):Int) - 1 - ((j:Nat):Int))) Y (fO (B.sub (n:=(((l.length:Nat):Int) - 1 - ((j:Nat):Int) - 1)) (tv (tI (((l.length:Nat):Int) - 1 - ((j:Nat):Int))) Y) (VEv.int .i64 1) (by first | rfl | (rw [Qq (by omega)];omega) | (rw [Qq (by omega)];done))) (aO (tI (((l.length:Nat):Int) - 1 - ((j:Nat):Int) - 1)) Y (VRunO.nil (tn ?_))))))))))
     have he3:(((Q5 l j).set (Int.toNat x2.A) true).set (Int.toNat x2.B) true)=Q5 l (j+1):=by first | rfl | (rw [← QcB];congr 1;omega) | (exact JH fhc1 hx3 (by assumption)) | (exact JF hx2 fhc1 (by assumption)) | (exact Qbh hx2 fhc1 hx3 (by assumption) (by assumption) (by assumption)) | (exact QaQ hx2 fhc1 hx3 (by assumption) (by assumption) (by assumption)) | (simp;done) | omega
     refine ⟨(j+1:Nat),?_,?_,Wk.mk (fun k=>k) ?_ ?_ ?_⟩
     ·omega
     ·omega
     ·exact (b2 (b2 (bc ⟨(congrArg (fun n_=>T.os 1 0 0 n_) (show ((Q5 l j).map (Qx true)).length=((Q5 l (j+1)).map (Qx true)).length from (by first | rfl | (simp only [List.length_map,List.length_set,JI,List.length_replicate]) | (simp only [List.length_map];omega) | (simp only [List.length_map,List.length_set,List.length_append,List.length_take,List.length_replicate,List.length_cons,List.length_nil];omega)))),rfl⟩ (bc ⟨(congrArg (T.int .i64) (show (((l.length:Nat):Int) - 1 - ((j:Nat):Int) - 1)=((l.length:Nat):Int) - 1 - (((j+1):Nat):Int) from (by first | rfl | omega | (simp;done) | (push_cast;omega)))),rfl⟩ bn))))
     ·exact (bc ⟨(congrArg (fun l_=>some (Obj.rows 1 (List.map (Qx true) l_))) he3),(lb Y),rfl⟩ bn)
     ·exact nd Y
    refine sk (vinB.n (tn (VRun.region (mO (tI (((l.length:Nat):Int) - 1 - ((j:Nat):Int))) Y (fO (B.sub (n:=(((l.length:Nat):Int) - 1 - ((j:Nat):Int) - 1)) (tv (tI (((l.length:Nat):Int) - 1 - ((j:Nat):Int))) Y) (VEv.int .i64 1) (by first | rfl | (rw [Qq (by omega)];omega) | (rw [Qq (by omega)];done))) (aO (tI (((l.length:Nat):Int) - 1 - ((j:Nat):Int) - 1)) Y (VRunO.nil (tn ?_))))))))
    have he4:((Q5 l j).set (Int.toNat x2.A) true)=Q5 l (j+1):=by first | rfl | (rw [← QcB];congr 1;omega) | (exact JH fhc1 hx3 (by assumption)) | (exact JF hx2 fhc1 (by assumption)) | (exact Qbh hx2 fhc1 hx3 (by assumption) (by assumption) (by assumption)) | (exact QaQ hx2 fhc1 hx3 (by assumption) (by assumption) (by assumption)) | (simp;done) | omega
    refine ⟨(j+1:Nat),?_,?_,Wk.mk (fun k=>k) ?_ ?_ ?_⟩
    ·omega
    ·omega
    ·exact (b2 (b2 (bc ⟨(congrArg (fun n_=>T.os 1 0 0 n_) (show ((Q5 l j).map (Qx true)).length=((Q5 l (j+1)).map (Qx true)).length from (by first | rfl | (simp only [List.length_map,List.length_set,JI,List.length_replicate]) | (simp only [List.length_map];omega) | (simp only [List.length_map,List.length_set,List.length_append,List.length_take,List.length_replicate,List.length_cons,List.length_nil];omega)))),rfl⟩ (bc ⟨(congrArg (T.int .i64) (show (((l.length:Nat):Int) - 1 - ((j:Nat):Int) - 1)=((l.length:Nat):Int) - 1 - (((j+1):Nat):Int) from (by first | rfl | omega | (simp;done) | (push_cast;omega)))),rfl⟩ bn))))
    ·exact (bc ⟨(congrArg (fun l_=>some (Obj.rows 1 (List.map (Qx true) l_))) he4),(lb Y),rfl⟩ bn)
    ·exact nd Y
   refine sk (vinB.n (tn (VRun.region (mO (tI (((l.length:Nat):Int) - 1 - ((j:Nat):Int))) Y (fO (B.sub (n:=(((l.length:Nat):Int) - 1 - ((j:Nat):Int) - 1)) (tv (tI (((l.length:Nat):Int) - 1 - ((j:Nat):Int))) Y) (VEv.int .i64 1) (by first | rfl | (rw [Qq (by omega)];omega) | (rw [Qq (by omega)];done))) (aO (tI (((l.length:Nat):Int) - 1 - ((j:Nat):Int) - 1)) Y (VRunO.nil (tn ?_))))))))
   have he5:Q5 l j=Q5 l (j+1):=by first | rfl | (rw [← QcB];congr 1;omega) | (exact JH fhc1 hx3 (by assumption)) | (exact JF hx2 fhc1 (by assumption)) | (exact Qbh hx2 fhc1 hx3 (by assumption) (by assumption) (by assumption)) | (exact QaQ hx2 fhc1 hx3 (by assumption) (by assumption) (by assumption)) | (simp;done) | omega
   refine ⟨(j+1:Nat),?_,?_,Wk.mk (fun k=>k) ?_ ?_ ?_⟩
   ·omega
   ·omega
   ·exact (b2 (b2 (bc ⟨(congrArg (fun l_=>T.os 1 0 0 (List.map (Qx true) l_).length) he5),rfl⟩ (bc ⟨(congrArg (T.int .i64) (show (((l.length:Nat):Int) - 1 - ((j:Nat):Int) - 1)=((l.length:Nat):Int) - 1 - (((j+1):Nat):Int) from (by first | rfl | omega | (simp;done) | (push_cast;omega)))),rfl⟩ bn))))
   ·exact (bc ⟨(congrArg (fun l_=>some (Obj.rows 1 (List.map (Qx true) l_))) he5),(lb Y),rfl⟩ bn)
   ·exact nd Y
  have fhg35_2:x3=false:=hg35_2
  refine QN 3 4 true 35 hg35_2 Y Y Y (fO (OF.pickF (VEv.tmpB Y hg35_2) (VEv.bool false)) (nt (cf Y (sk (vinB.n (tn (VRun.region (mO (tI (((l.length:Nat):Int) - 1 - ((j:Nat):Int))) Y (fO (B.sub (n:=(((l.length:Nat):Int) - 1 - ((j:Nat):Int) - 1)) (tv (tI (((l.length:Nat):Int) - 1 - ((j:Nat):Int))) Y) (VEv.int .i64 1) (by first | rfl | (rw [Qq (by omega)];omega) | (rw [Qq (by omega)];done))) (aO (tI (((l.length:Nat):Int) - 1 - ((j:Nat):Int) - 1)) Y (VRunO.nil ?_)))))))))))
  refine tn ?_
  have he6:Q5 l j=Q5 l (j+1):=by first | rfl | (rw [← QcB];congr 1;omega) | (exact JH fhc1 hx3 (by assumption)) | (exact JF hx2 fhc1 (by assumption)) | (exact Qbh hx2 fhc1 hx3 (by assumption) (by assumption) (by assumption)) | (exact QaQ hx2 fhc1 hx3 (by assumption) (by assumption) (by assumption)) | (simp;done) | omega
  refine ⟨(j+1:Nat),?_,?_,Wk.mk (fun k=>k) ?_ ?_ ?_⟩
  ·omega
  ·omega
  ·exact (b2 (b2 (bc ⟨(congrArg (fun l_=>T.os 1 0 0 (List.map (Qx true) l_).length) he6),rfl⟩ (bc ⟨(congrArg (T.int .i64) (show (((l.length:Nat):Int) - 1 - ((j:Nat):Int) - 1)=((l.length:Nat):Int) - 1 - (((j+1):Nat):Int) from (by first | rfl | omega | (simp;done) | (push_cast;omega)))),rfl⟩ bn))))
  ·exact (bc ⟨(congrArg (fun l_=>some (Obj.rows 1 (List.map (Qx true) l_))) he6),(lb Y),rfl⟩ bn)
  ·exact nd Y
 refine VRun.exit (vthn.e (vthn.e (vinB.e (tn (sr (fO (OF.assign VEv.nils) (nt (sq (sr (mO (T.os 1 0 0 (((Q5 l j).map (Qx true)).length)) Y (lO (B.lenO (m:=(Q5 l j).length) (tv (T.os 1 0 0 (((Q5 l j).map (Qx true)).length)) Y) Qdi (List.length_map ..)) ?_)))))))))))
 refine fO (OF.move (VEv.int .i64 0)) (nt (VRun.block (VRun.wk (Wk.phantom 6 1 Y) ?_)))
 have he7: []=((Q7 (Zq l l.length) 0).map (Qe true)):=by first | rfl | (rw [YB hjl hx2,if_pos (by assumption)]) | (rw [YB hjl hx2,if_neg (by simp_all)]) | (simp;done) | omega
 refine VRun.loop (A:=Nat) (fun s_=> [(2,T.nils),(6,(T.os 1 1 0 (((Q7 (Zq l l.length) s_).map (Qe true)).length))),(51,(T.os 1 0 0 (((Q5 l j).map (Qx true)).length))),(52,(tN ((Q5 l j).length))),(53,(tN s_))]) (fun s_=>Yc [(0,(Obj.rows 1 ((Q5 l j).map (Qx true)))),(1,(Obj.rows 1 ((Q7 (Zq l l.length) s_).map (Qe true))))]) 2 (fun s_=>s_≤l.length) (fun s_=>l.length - s_) (0:Nat) ?_ (Wk.mk (fun k=>k) ?_ ?_ ?_) ?_
 ·first | trivial | (simp;done) | omega | (constructor<;>simp)
 ·exact (b2 (bc ⟨(congrArg (fun n_=>T.os 1 1 0 n_) (show 0=((Q7 (Zq l l.length) 0).map (Qe true)).length from (by first | rfl | (simp only [List.length_map];omega) | (simp only [List.length_map,List.length_set,List.length_append,List.length_take,List.length_replicate,List.length_cons,List.length_nil];omega)))),rfl⟩ (b2 (b2 (b2 bn)))))
 ·exact (b3 (bc ⟨(congrArg (fun l_=>some (Obj.rows 1 l_)) he7),(lb Y),rfl⟩ bn))
 ·exact nd Y
 rintro i (hI':i≤l.length)
 show VRun _ _ _ [(2,T.nils),(6,(T.os 1 1 0 (((Q7 (Zq l l.length) i).map (Qe true)).length))),(51,(T.os 1 0 0 (((Q5 l j).map (Qx true)).length))),(52,(tN ((Q5 l j).length))),(53,(tN i))] (Yc [(0,(Obj.rows 1 ((Q5 l j).map (Qx true)))),(1,(Obj.rows 1 ((Q7 (Zq l l.length) i).map (Qe true))))]) 2 _
 have hJ1:=hI'
 have hjl:j=l.length:=(by omega)
 have hcl:=Qa2 (Zq l l.length) i
 refine sr (fO (YA (tv (tN i) Y) (tv (tN ((Q5 l j).length)) Y)) (nt (sq ?_)))
 refine cd (i<(Q5 l j).length) Y (fun fhc4=> ?_) fun fhc4=> ?_
 ·refine sk ?_
  refine tn (sq (VRun.block (sr (mO (tN i) Y ?_))))
  obtain ⟨x2,hx2⟩:∃x,(Q5 l j)[i]? =some x:=⟨_,List.getElem?_eq_getElem (by omega)⟩
  refine fO (B.indexAddrO (i:=i) (tv (T.os 1 0 0 (((Q5 l j).map (Qx true)).length)) Y) (tv (tN i) Y) Y (by first | omega | (simp only [List.length_map];omega) | (simp only [List.length_map,List.length_append,List.length_cons,List.length_nil,List.length_replicate,List.length_set,List.length_drop,List.length_take,QY] at *;omega)) Qdi sz4 if4) (lO (OL.loadP1 (t:=(tB x2)) (row:=(Qx true x2)) (tv (T.orp 1 0 i 0) Y) Y (Qr _ hx2) Y Y st4) (aO (tN i) Y (aO (tB x2) Y (nt (sr (mO (tB x2) Y (nt ?_)))))))
  refine VRun.cond (tv (tB x2) Y) (fun hc5=> ?_) (fun hc5=> ?_)
  ·have fhc5:x2=true:=hc5
   refine VRun.region (mO (T.os 1 1 0 (((Q7 (Zq l l.length) i).map (Qe true)).length)) Y (mO (tN i) Y (kO (OM.buildSlice (l:= [(tN i)]) (VEvp.cons (tv (tN i) Y) VEvp.nil) Y (by decide) (bc (nofun) bn) (bc ((bc (Y) bn)) bn) (bc (Y) bn) YJ zo3 (by kernel_rfl) Y (by rw [Z9];decide) Z9 (Nat.le_of_ble_eq_true Y)) (cO (B.append (rows:=((Q7 (Zq l l.length) i).map (Qe true))) (rows2:= [[(tN i)]]) (rows3:=((Q7 (Zq l l.length) i++ [((i:Nat):Int)]).map (Qe true))) (VDst.own (tv (T.os 1 1 0 (((Q7 (Zq l l.length) i).map (Qe true)).length)) Y) Y Y) (VSrc.own (tv (T.os 1 2 0 1) Y) Y Y YJ (bc (bc Y bn) bn)) (by decide) YJ Z9 (by decide) zo3 Y (of_decide_eq_true (by kernel_rfl)) (by first | omega | (simp only [List.length_map];omega) | (simp only [List.length_map,List.length_append,List.length_cons,List.length_nil,List.length_replicate,List.length_set,List.length_drop,List.length_take,QY] at *;omega)) ((List.map_append (f:=Qe true) (l₁:=Q7 (Zq l l.length) i) (l₂:= [((i:Nat):Int)])).symm)) (aO (T.os 1 3 0 (((Q7 (Zq l l.length) i++ [((i:Nat):Int)]).map (Qe true)).length)) Y (VRunO.nil (vinB.n (tn (VRun.region (fO (Zk (tv (tN i) Y) (VEv.int .i64 1) (by omega)) (mO (tN (i+1)) Y ?_)))))))))))
   refine VRunO.nil (tn ?_)
   have he8:(Q7 (Zq l l.length) i++ [((i:Nat):Int)])=Q7 (Zq l l.length) (i+1):=by first | rfl | (rw [YB hjl hx2,if_pos (by assumption)]) | (rw [YB hjl hx2,if_neg (by simp_all)]) | (simp;done) | omega
   refine ⟨(i+1:Nat),?_,?_,Wk.mk (fun k=>if k=1 then 3 else k) ?_ ?_ ?_⟩
   ·first | trivial | omega | (simp;done) | exact ⟨by omega,hI'.2⟩
   ·first | omega | (simp only [];omega) | (show _<_;omega) | (simp;omega)
   ·exact (b2 (bc ⟨(congrArg (fun l_=>T.os 1 3 0 (List.map (Qe true) l_).length) he8),rfl⟩ (b2 (b2 (b2 bn)))))
   ·exact (b3 (bc ⟨(congrArg (fun l_=>some (Obj.rows 1 (List.map (Qe true) l_))) he8),(lb Y),rfl⟩ bn))
   ·exact nd Y
  have fhc5:x2=false:=hc5
  refine sk (vinB.n (tn (VRun.region (fO (Zk (tv (tN i) Y) (VEv.int .i64 1) (by omega)) (mO (tN (i+1)) Y (VRunO.nil (tn ?_)))))))
  have he9:Q7 (Zq l l.length) i=Q7 (Zq l l.length) (i+1):=by first | rfl | (rw [YB hjl hx2,if_pos (by assumption)]) | (rw [YB hjl hx2,if_neg (by simp_all)]) | (simp;done) | omega
  refine ⟨(i+1:Nat),?_,?_,Wk.mk (fun k=>k) ?_ ?_ ?_⟩
  ·first | trivial | omega | (simp;done) | exact ⟨by omega,hI'.2⟩
  ·first | omega | (simp only [];omega) | (show _<_;omega) | (simp;omega)
  ·exact (b2 (bc ⟨(congrArg (fun l_=>T.os 1 1 0 (List.map (Qe true) l_).length) he9),rfl⟩ (b2 (b2 (b2 bn)))))
  ·exact (b3 (bc ⟨(congrArg (fun l_=>some (Obj.rows 1 (List.map (Qe true) l_))) he9),(lb Y),rfl⟩ bn))
  ·exact nd Y
 refine VRun.exit (vthn.e (vthn.e (vinB.e (tn (sr (mO (T.os 1 1 0 (((Q7 (Zq l l.length) i).map (Qe true)).length)) Y (aO (T.os 1 1 0 (((Q7 (Zq l l.length) i).map (Qe true)).length)) Y (nt (rt ?_)))))))))
 refine vfin.eq (r':=(T.sl true 1 ((Q7 (Zq l l.length) i).map (Qe true)))) ?_ (vfin.r (VRes.tmp (t:=(T.os 1 1 0 (((Q7 (Zq l l.length) i).map (Qe true)).length))) Y VRes.nil) (Give.os Y Y (okInt.cleanMap _)))
 refine congrArg (fun l_=>T.sl true 1 (List.map (Qe true) l_)) ?_
 rw [show i=l.length by omega];exact (if_pos hpl).symm
noncomputable section
def Qen (c:D.Clue):Int:=match c.Play[c.Play.length - 1]? with
 | some x=>x.Kind
 | none=>0
theorem QU {c:D.Clue} {x:D.Step} {z:Int} (hz:z=((c.Play.length:Nat):Int) - 1) (h1:1≤c.Play.length) (h:c.Play[Int.toNat z]? =some x):Qen c=x.Kind:=by
 unfold Qen
 rw [show Int.toNat z=c.Play.length - 1 by omega] at h
 rw [h]
def Qt (c:D.Clue) (w:ByteArray) (n:Int):ByteArray:=if ((1≤c.Sense∧c.Sense≤99)∧QJ c.Play)∧QE w then (if n=1 then YH (Qen c) else if n=2 then ZB ((Q3 c.Play).length:Nat) else if n=3 then JG w else if n=4 then w else ⟨#[]⟩) else ⟨#[]⟩
def Yf (c:D.Clue) (w:ByteArray) (n:Int) (h:ByteArray):Prop:=¬h=⟨#[]⟩∧Qt c w n=h
instance (c:D.Clue) (w:ByteArray) (n:Int) (h:ByteArray):Decidable (Yf c w n h):=Classical.propDecidable _
def Qb (c:D.Clue) (ws:List ByteArray) (n:Int) (h:ByteArray):List ByteArray:=ws.filter fun w=>decide (Yf c w n h)
theorem Jo (c:D.Clue) (ws:List ByteArray) (n:Int) (h:ByteArray):(Qb c ws n h).length≤ws.length:=List.length_filter_le _ _
theorem QI {c:D.Clue} {ws:List ByteArray} {n:Int} {h:ByteArray} {i:Nat} {w:ByteArray} (hi:ws[i]? =some w):Qb c (ws.take (i+1)) n h=Qb c (ws.take i) n h++(if Yf c w n h then [w] else []):=by
 unfold Qb
 rw [List.take_add_one,hi,List.filter_append]
 by_cases hp:Yf c w n h
 ·simp [hp]
 ·simp [hp]
end
theorem QaM (n:Nat) (c:D.Clue) (w:ByteArray) (v:Int) (hz:QK c≤mx) (hw:w.size≤maxLen):Pure (Qo Tryd.prog (n+6)) 66 [(T.agg (Qi false c)),(tS w),(tI v)] (tS (Qt c w v)):=by
 refine Pure.intro (rs:= [ResultVar.tmp 6]) Tryd.func66 Y Y Y (E0:= [(0,(T.agg (Qi false c))),(1,(tS w)),(2,(tI v))]) Y ?_
 obtain ⟨hlim,hmx,hmax⟩:=QM
 have hzz:=hz
 simp only [QK] at hzz
 have hul:=QbX c.Play
 have hlp:=Zr (z:=QD) c.Play
 refine sr (kO (B.box (ts:=(Qi false c)) (tv (T.agg (Qi false c)) Y) nofun Y) (fO (OF.assign (VEv.str (⟨#[]⟩:ByteArray))) (nt (sq (sr (lO (OL.loadOn (us:=(Qi false c)) (tv (T.op 0 0) Y) Y Qbj Qae (lb Y) Y) (cO (cS (vc (tv (T.agg (Qi false c)) Y) vn) (LendL.cons (lg Zw) ln) (Qbw (n+0) c (by first | assumption | omega)) Y Y) (fO (QZ (tv (tB (decide ((1≤c.Sense∧c.Sense≤99)∧QJ c.Play))) Y)) (mO (tB (!(decide ((1≤c.Sense∧c.Sense≤99)∧QJ c.Play)))) Y ?_)))))))))
 refine gn ((1≤c.Sense∧c.Sense≤99)∧QJ c.Play) (fun fhg10_1=> ?_) fun fhg10_1=> ?_
 ·refine QN 3 3 false 10 (ny fhg10_1) Y Y Y ?_
  refine fO (OF.pickT (VEv.tmpB Y (ny fhg10_1)) (VEv.bool true)) (nt (ct Y (sr (fO (OF.assign (VEv.str (⟨#[]⟩:ByteArray))) (nt (rt (tr ?_)))))))
  refine vfin.eq (r':=(tS (⟨#[]⟩:ByteArray))) ?_ (vfin.r (VRes.tmp (t:=(tS (⟨#[]⟩:ByteArray))) Y VRes.nil) (Give.str _))
  refine congrArg T.str ?_
  first | (unfold Qt;rw [if_neg (fun h_=>fhg10_1 h_.1)]) | (unfold Qt;rw [if_neg (fun h_=>fhc0 h_.2)]) | (unfold Qt;rw [if_pos ⟨fhg10_1,fhc0⟩];first | (rw [if_pos fhc1];done) | (rw [if_pos fhc1,QU Y hpl hx1];done) | (rw [if_neg fhc1,if_pos fhc2];done) | (rw [if_neg fhc1,if_neg fhc2,if_pos fhc3];done) | (rw [if_neg fhc1,if_neg fhc2,if_neg fhc3,if_pos fhc4];done) | (rw [if_neg fhc1,if_neg fhc2,if_neg fhc3,if_neg fhc4];done))
 refine gF (nz fhg10_1) Y Y (OF.move (tv (tS w) Y)) (VRunO.chain (VWant.on Y Y (nz fhg10_1)) (cS (vc (tv (tS w) Y) vn) (Zj Y) (Yp (n+3) w (by first | assumption | omega)) Y Y) (gF (nz fhg10_1) Y Y (QZ (tv (tB (decide (QE w))) Y)) (fO (OF.pickF (VEv.tmpB Y (nz fhg10_1)) (tv (tB (!(decide (QE w)))) Y)) (nt ?_))))
 refine cn (QE w) Y (fun fhc0=> ?_) fun fhc0=> ?_
 ·refine sr ?_
  refine fO (OF.assign (VEv.str (⟨#[]⟩:ByteArray))) (nt (rt (tr ?_)))
  refine vfin.eq (r':=(tS (⟨#[]⟩:ByteArray))) ?_ (vfin.r (VRes.tmp (t:=(tS (⟨#[]⟩:ByteArray))) Y VRes.nil) (Give.str _))
  refine congrArg T.str ?_
  first | (unfold Qt;rw [if_neg (fun h_=>fhg10_1 h_.1)]) | (unfold Qt;rw [if_neg (fun h_=>fhc0 h_.2)]) | (unfold Qt;rw [if_pos ⟨fhg10_1,fhc0⟩];first | (rw [if_pos fhc1];done) | (rw [if_pos fhc1,QU Y hpl hx1];done) | (rw [if_neg fhc1,if_pos fhc2];done) | (rw [if_neg fhc1,if_neg fhc2,if_pos fhc3];done) | (rw [if_neg fhc1,if_neg fhc2,if_neg fhc3,if_pos fhc4];done) | (rw [if_neg fhc1,if_neg fhc2,if_neg fhc3,if_neg fhc4];done))
 have hpl:1≤c.Play.length:=fhg10_1.2.1.1
 refine sk (tn (sq (sr (mO (tI v) Y (nt (VRun.block (sr (fO (Jb (tv (tI v) Y) (VEv.int .i64 1)) (aO (tB (decide (v=1))) Y (nt ?_))))))))))
 refine cd (v=1) Y (fun fhc1=> ?_) fun fhc1=> ?_
 ·refine sr ?_
  refine lf (rd 4 Qa c.Play) Y ZM Y Y Qa9 (lf (rd 4 Qa c.Play) Y ZM Y Y Qa9 (lO (B.lenR (m:=c.Play.length) (tv (rd 4 Qa c.Play) Y) YR (List.length_map ..)) (fO (B.sub (n:=(((c.Play.length:Nat):Int) - 1)) (tv (tN c.Play.length) Y) (VEv.int .i64 1) (by first | rfl | (rw [Qq (by omega)];omega) | (rw [Qq (by omega)];done))) ?_)))
  obtain ⟨x1,hx1⟩:∃x,c.Play[(Int.toNat (((c.Play.length:Nat):Int) - 1))]? =some x:=⟨_,List.getElem?_eq_getElem (by omega)⟩
  refine fO (OF.indexAddrR (row:=(Qa false x1)) (i:=(Int.toNat (((c.Play.length:Nat):Int) - 1))) (tv (rd 4 Qa c.Play) Y) (tv (tI (((c.Play.length:Nat):Int) - 1)) Y) (by omega) (Qr _ hx1) YR Zf ZR) (lr (tI x1.Kind) Y (lb Y) Qy Y Q4 (cO (cS (vc (tv (tI x1.Kind) Y) vn) (Zj Y) (Qaw (n+3) x1.Kind) Y Y) (aO (tS (YH x1.Kind)) Y (nt (rt (vinB.r (tr ?_)))))))
  refine vfin.eq (r':=(tS (YH x1.Kind))) ?_ (vfin.r (VRes.tmp (t:=(tS (YH x1.Kind))) Y VRes.nil) (Give.str _))
  refine congrArg T.str ?_
  first | (unfold Qt;rw [if_neg (fun h_=>fhg10_1 h_.1)]) | (unfold Qt;rw [if_neg (fun h_=>fhc0 h_.2)]) | (unfold Qt;rw [if_pos ⟨fhg10_1,fhc0⟩];first | (rw [if_pos fhc1];done) | (rw [if_pos fhc1,QU Y hpl hx1];done) | (rw [if_neg fhc1,if_pos fhc2];done) | (rw [if_neg fhc1,if_neg fhc2,if_pos fhc3];done) | (rw [if_neg fhc1,if_neg fhc2,if_neg fhc3,if_pos fhc4];done) | (rw [if_neg fhc1,if_neg fhc2,if_neg fhc3,if_neg fhc4];done))
 refine sr (fO (Jb (tv (tI v) Y) (VEv.int .i64 2)) (aO (tB (decide (v=2))) Y (nt ?_)))
 refine cd (v=2) Y (fun fhc2=> ?_) fun fhc2=> ?_
 ·refine sr ?_
  refine lf (rd 4 Qa c.Play) Y ZM Y Y Qa9 (cO (OC.callF (r':=(T.os 1 1 0 (((Q3 c.Play).map (Qe true)).length))) (objs:= [(Obj.rows 1 ((Q3 c.Play).map (Qe true)))]) Y (vc (tv (rd 4 Qa c.Play) Y) vn) (Zj Y) (J2 (n+0) c.Play (by first | assumption | omega)) Y) (lO (B.lenO (m:=(Q3 c.Play).length) (tv (T.os 1 1 0 (((Q3 c.Play).map (Qe true)).length)) Y) YJ (List.length_map ..)) (cO (cS (vc (tv (tN ((Q3 c.Play).length)) Y) vn) (Zj Y) (JU (n+4) (((Q3 c.Play).length:Nat):Int) (by first | assumption | omega)) Y Y) (aO (tS (ZB (((Q3 c.Play).length:Nat):Int))) Y (nt (rt (vinB.r (tr ?_))))))))
  refine vfin.eq (r':=(tS (ZB (((Q3 c.Play).length:Nat):Int)))) ?_ (vfin.r (VRes.tmp (t:=(tS (ZB (((Q3 c.Play).length:Nat):Int)))) Y VRes.nil) (Give.str _))
  refine congrArg T.str ?_
  first | (unfold Qt;rw [if_neg (fun h_=>fhg10_1 h_.1)]) | (unfold Qt;rw [if_neg (fun h_=>fhc0 h_.2)]) | (unfold Qt;rw [if_pos ⟨fhg10_1,fhc0⟩];first | (rw [if_pos fhc1];done) | (rw [if_pos fhc1,QU Y hpl hx1];done) | (rw [if_neg fhc1,if_pos fhc2];done) | (rw [if_neg fhc1,if_neg fhc2,if_pos fhc3];done) | (rw [if_neg fhc1,if_neg fhc2,if_neg fhc3,if_pos fhc4];done) | (rw [if_neg fhc1,if_neg fhc2,if_neg fhc3,if_neg fhc4];done))
 refine sr (fO (Jb (tv (tI v) Y) (VEv.int .i64 3)) (aO (tB (decide (v=3))) Y (nt ?_)))
 refine cd (v=3) Y (fun fhc3=> ?_) fun fhc3=> ?_
 ·refine sr ?_
  refine mO (tS w) Y (cO (cS (vc (tv (tS w) Y) vn) (Zj Y) (QbH (n+2) w (by first | assumption | omega)) Y Y) (aO (tS (JG w)) Y (nt (rt (vinB.r (tr ?_))))))
  refine vfin.eq (r':=(tS (JG w))) ?_ (vfin.r (VRes.tmp (t:=(tS (JG w))) Y VRes.nil) (Give.str _))
  refine congrArg T.str ?_
  first | (unfold Qt;rw [if_neg (fun h_=>fhg10_1 h_.1)]) | (unfold Qt;rw [if_neg (fun h_=>fhc0 h_.2)]) | (unfold Qt;rw [if_pos ⟨fhg10_1,fhc0⟩];first | (rw [if_pos fhc1];done) | (rw [if_pos fhc1,QU Y hpl hx1];done) | (rw [if_neg fhc1,if_pos fhc2];done) | (rw [if_neg fhc1,if_neg fhc2,if_pos fhc3];done) | (rw [if_neg fhc1,if_neg fhc2,if_neg fhc3,if_pos fhc4];done) | (rw [if_neg fhc1,if_neg fhc2,if_neg fhc3,if_neg fhc4];done))
 refine sr (fO (Jb (tv (tI v) Y) (VEv.int .i64 4)) (aO (tB (decide (v=4))) Y (nt ?_)))
 refine cd (v=4) Y (fun fhc4=> ?_) fun fhc4=> ?_
 ·refine sr ?_
  refine mO (tS w) Y (aO (tS w) Y (nt (rt (vinB.r (tr ?_)))))
  refine vfin.eq (r':=(tS w)) ?_ (vfin.r (VRes.tmp (t:=(tS w)) Y VRes.nil) (Give.str _))
  refine congrArg T.str ?_
  first | (unfold Qt;rw [if_neg (fun h_=>fhg10_1 h_.1)]) | (unfold Qt;rw [if_neg (fun h_=>fhc0 h_.2)]) | (unfold Qt;rw [if_pos ⟨fhg10_1,fhc0⟩];first | (rw [if_pos fhc1];done) | (rw [if_pos fhc1,QU Y hpl hx1];done) | (rw [if_neg fhc1,if_pos fhc2];done) | (rw [if_neg fhc1,if_neg fhc2,if_pos fhc3];done) | (rw [if_neg fhc1,if_neg fhc2,if_neg fhc3,if_pos fhc4];done) | (rw [if_neg fhc1,if_neg fhc2,if_neg fhc3,if_neg fhc4];done))
 refine sk (vinB.n (tn (sr (fO (OF.assign (VEv.str (⟨#[]⟩:ByteArray))) (nt (rt ?_))))))
 refine vfin.eq (r':=(tS (⟨#[]⟩:ByteArray))) ?_ (vfin.r (VRes.tmp (t:=(tS (⟨#[]⟩:ByteArray))) Y VRes.nil) (Give.str _))
 refine congrArg T.str ?_
 first | (unfold Qt;rw [if_neg (fun h_=>fhg10_1 h_.1)]) | (unfold Qt;rw [if_neg (fun h_=>fhc0 h_.2)]) | (unfold Qt;rw [if_pos ⟨fhg10_1,fhc0⟩];first | (rw [if_pos fhc1];done) | (rw [if_pos fhc1,QU Y hpl hx1];done) | (rw [if_neg fhc1,if_pos fhc2];done) | (rw [if_neg fhc1,if_neg fhc2,if_pos fhc3];done) | (rw [if_neg fhc1,if_neg fhc2,if_neg fhc3,if_pos fhc4];done) | (rw [if_neg fhc1,if_neg fhc2,if_neg fhc3,if_neg fhc4];done))
theorem Qa0 (n:Nat) (c:D.Clue) (w:ByteArray) (v:Int) (hz:QK c≤mx) (hw:w.size≤maxLen):Pure (Qo Tryd.prog (n+6)) 68 [(T.agg (Qi false c)),(tS w),(tI v)] (tS (Qt c w v)):=by
 refine Pure.intro (rs:= [ResultVar.tmp 6]) Tryd.func68 Y Y Y (E0:= [(0,(T.agg (Qi false c))),(1,(tS w)),(2,(tI v))]) Y ?_
 obtain ⟨hlim,hmx,hmax⟩:=QM
 have hzz:=hz
 simp only [QK] at hzz
 have hul:=QbX c.Play
 have hlp:=Zr (z:=QD) c.Play
 refine sr (kO (B.box (ts:=(Qi false c)) (tv (T.agg (Qi false c)) Y) nofun Y) (fO (OF.assign (VEv.str (⟨#[]⟩:ByteArray))) (nt (sq (sr (lO (OL.loadOn (us:=(Qi false c)) (tv (T.op 0 0) Y) Y Qbj Qae (lb Y) Y) (cO (cS (vc (tv (T.agg (Qi false c)) Y) vn) (LendL.cons (lg Zw) ln) (QbI (n+1) c (by first | assumption | omega)) Y Y) (fO (QZ (tv (tB (decide ((1≤c.Sense∧c.Sense≤99)∧QJ c.Play))) Y)) (mO (tB (!(decide ((1≤c.Sense∧c.Sense≤99)∧QJ c.Play)))) Y ?_)))))))))
 refine gn ((1≤c.Sense∧c.Sense≤99)∧QJ c.Play) (fun fhg10_1=> ?_) fun fhg10_1=> ?_
 ·refine QN 3 3 false 10 (ny fhg10_1) Y Y Y ?_
  refine fO (OF.pickT (VEv.tmpB Y (ny fhg10_1)) (VEv.bool true)) (nt (ct Y (sr (fO (OF.assign (VEv.str (⟨#[]⟩:ByteArray))) (nt (rt (tr ?_)))))))
  refine vfin.eq (r':=(tS (⟨#[]⟩:ByteArray))) ?_ (vfin.r (VRes.tmp (t:=(tS (⟨#[]⟩:ByteArray))) Y VRes.nil) (Give.str _))
  refine congrArg T.str ?_
  first | (unfold Qt;rw [if_neg (fun h_=>fhg10_1 h_.1)]) | (unfold Qt;rw [if_neg (fun h_=>fhc0 h_.2)]) | (unfold Qt;rw [if_pos ⟨fhg10_1,fhc0⟩];first | (rw [if_pos fhc1];done) | (rw [if_pos fhc1,QU Y hpl hx1];done) | (rw [if_neg fhc1,if_pos fhc2];done) | (rw [if_neg fhc1,if_neg fhc2,if_pos fhc3];done) | (rw [if_neg fhc1,if_neg fhc2,if_neg fhc3,if_pos fhc4];done) | (rw [if_neg fhc1,if_neg fhc2,if_neg fhc3,if_neg fhc4];done))
 refine gF (nz fhg10_1) Y Y (OF.move (tv (tS w) Y)) (VRunO.chain (VWant.on Y Y (nz fhg10_1)) (cS (vc (tv (tS w) Y) vn) (Zj Y) (Yo (n+3) w (by first | assumption | omega)) Y Y) (gF (nz fhg10_1) Y Y (QZ (tv (tB (decide (QE w))) Y)) (fO (OF.pickF (VEv.tmpB Y (nz fhg10_1)) (tv (tB (!(decide (QE w)))) Y)) (nt ?_))))
 refine cn (QE w) Y (fun fhc0=> ?_) fun fhc0=> ?_
 ·refine sr ?_
  refine fO (OF.assign (VEv.str (⟨#[]⟩:ByteArray))) (nt (rt (tr ?_)))
  refine vfin.eq (r':=(tS (⟨#[]⟩:ByteArray))) ?_ (vfin.r (VRes.tmp (t:=(tS (⟨#[]⟩:ByteArray))) Y VRes.nil) (Give.str _))
  refine congrArg T.str ?_
  first | (unfold Qt;rw [if_neg (fun h_=>fhg10_1 h_.1)]) | (unfold Qt;rw [if_neg (fun h_=>fhc0 h_.2)]) | (unfold Qt;rw [if_pos ⟨fhg10_1,fhc0⟩];first | (rw [if_pos fhc1];done) | (rw [if_pos fhc1,QU Y hpl hx1];done) | (rw [if_neg fhc1,if_pos fhc2];done) | (rw [if_neg fhc1,if_neg fhc2,if_pos fhc3];done) | (rw [if_neg fhc1,if_neg fhc2,if_neg fhc3,if_pos fhc4];done) | (rw [if_neg fhc1,if_neg fhc2,if_neg fhc3,if_neg fhc4];done))
 have hpl:1≤c.Play.length:=fhg10_1.2.1.1
 refine sk (tn (sq (sr (mO (tI v) Y (nt (VRun.block (sr (fO (Jb (tv (tI v) Y) (VEv.int .i64 1)) (aO (tB (decide (v=1))) Y (nt ?_))))))))))
 refine cd (v=1) Y (fun fhc1=> ?_) fun fhc1=> ?_
 ·refine sr ?_
  refine lf (rd 4 Qa c.Play) Y ZM Y Y Qa9 (lf (rd 4 Qa c.Play) Y ZM Y Y Qa9 (lO (B.lenR (m:=c.Play.length) (tv (rd 4 Qa c.Play) Y) YR (List.length_map ..)) (fO (B.sub (n:=(((c.Play.length:Nat):Int) - 1)) (tv (tN c.Play.length) Y) (VEv.int .i64 1) (by first | rfl | (rw [Qq (by omega)];omega) | (rw [Qq (by omega)];done))) ?_)))
  obtain ⟨x1,hx1⟩:∃x,c.Play[(Int.toNat (((c.Play.length:Nat):Int) - 1))]? =some x:=⟨_,List.getElem?_eq_getElem (by omega)⟩
  refine fO (OF.indexAddrR (row:=(Qa false x1)) (i:=(Int.toNat (((c.Play.length:Nat):Int) - 1))) (tv (rd 4 Qa c.Play) Y) (tv (tI (((c.Play.length:Nat):Int) - 1)) Y) (by omega) (Qr _ hx1) YR Zf ZR) (lr (tI x1.Kind) Y (lb Y) Qy Y Q4 (cO (cS (vc (tv (tI x1.Kind) Y) vn) (Zj Y) (Qas (n+3) x1.Kind) Y Y) (aO (tS (YH x1.Kind)) Y (nt (rt (vinB.r (tr ?_)))))))
  refine vfin.eq (r':=(tS (YH x1.Kind))) ?_ (vfin.r (VRes.tmp (t:=(tS (YH x1.Kind))) Y VRes.nil) (Give.str _))
  refine congrArg T.str ?_
  first | (unfold Qt;rw [if_neg (fun h_=>fhg10_1 h_.1)]) | (unfold Qt;rw [if_neg (fun h_=>fhc0 h_.2)]) | (unfold Qt;rw [if_pos ⟨fhg10_1,fhc0⟩];first | (rw [if_pos fhc1];done) | (rw [if_pos fhc1,QU Y hpl hx1];done) | (rw [if_neg fhc1,if_pos fhc2];done) | (rw [if_neg fhc1,if_neg fhc2,if_pos fhc3];done) | (rw [if_neg fhc1,if_neg fhc2,if_neg fhc3,if_pos fhc4];done) | (rw [if_neg fhc1,if_neg fhc2,if_neg fhc3,if_neg fhc4];done))
 refine sr (fO (Jb (tv (tI v) Y) (VEv.int .i64 2)) (aO (tB (decide (v=2))) Y (nt ?_)))
 refine cd (v=2) Y (fun fhc2=> ?_) fun fhc2=> ?_
 ·refine sr ?_
  refine lf (rd 4 Qa c.Play) Y ZM Y Y Qa9 (cO (OC.callF (r':=(T.os 1 1 0 (((Q3 c.Play).map (Qe true)).length))) (objs:= [(Obj.rows 1 ((Q3 c.Play).map (Qe true)))]) Y (vc (tv (rd 4 Qa c.Play) Y) vn) (Zj Y) (Qac (n+1) c.Play (by first | assumption | omega)) Y) (lO (B.lenO (m:=(Q3 c.Play).length) (tv (T.os 1 1 0 (((Q3 c.Play).map (Qe true)).length)) Y) YJ (List.length_map ..)) (cO (cS (vc (tv (tN ((Q3 c.Play).length)) Y) vn) (Zj Y) (J6 (n+0) (((Q3 c.Play).length:Nat):Int) (by first | assumption | omega)) Y Y) (aO (tS (ZB (((Q3 c.Play).length:Nat):Int))) Y (nt (rt (vinB.r (tr ?_))))))))
  refine vfin.eq (r':=(tS (ZB (((Q3 c.Play).length:Nat):Int)))) ?_ (vfin.r (VRes.tmp (t:=(tS (ZB (((Q3 c.Play).length:Nat):Int)))) Y VRes.nil) (Give.str _))
  refine congrArg T.str ?_
  first | (unfold Qt;rw [if_neg (fun h_=>fhg10_1 h_.1)]) | (unfold Qt;rw [if_neg (fun h_=>fhc0 h_.2)]) | (unfold Qt;rw [if_pos ⟨fhg10_1,fhc0⟩];first | (rw [if_pos fhc1];done) | (rw [if_pos fhc1,QU Y hpl hx1];done) | (rw [if_neg fhc1,if_pos fhc2];done) | (rw [if_neg fhc1,if_neg fhc2,if_pos fhc3];done) | (rw [if_neg fhc1,if_neg fhc2,if_neg fhc3,if_pos fhc4];done) | (rw [if_neg fhc1,if_neg fhc2,if_neg fhc3,if_neg fhc4];done))
 refine sr (fO (Jb (tv (tI v) Y) (VEv.int .i64 3)) (aO (tB (decide (v=3))) Y (nt ?_)))
 refine cd (v=3) Y (fun fhc3=> ?_) fun fhc3=> ?_
 ·refine sr ?_
  refine mO (tS w) Y (cO (cS (vc (tv (tS w) Y) vn) (Zj Y) (Qbx (n+2) w (by first | assumption | omega)) Y Y) (aO (tS (JG w)) Y (nt (rt (vinB.r (tr ?_))))))
  refine vfin.eq (r':=(tS (JG w))) ?_ (vfin.r (VRes.tmp (t:=(tS (JG w))) Y VRes.nil) (Give.str _))
  refine congrArg T.str ?_
  first | (unfold Qt;rw [if_neg (fun h_=>fhg10_1 h_.1)]) | (unfold Qt;rw [if_neg (fun h_=>fhc0 h_.2)]) | (unfold Qt;rw [if_pos ⟨fhg10_1,fhc0⟩];first | (rw [if_pos fhc1];done) | (rw [if_pos fhc1,QU Y hpl hx1];done) | (rw [if_neg fhc1,if_pos fhc2];done) | (rw [if_neg fhc1,if_neg fhc2,if_pos fhc3];done) | (rw [if_neg fhc1,if_neg fhc2,if_neg fhc3,if_pos fhc4];done) | (rw [if_neg fhc1,if_neg fhc2,if_neg fhc3,if_neg fhc4];done))
 refine sr (fO (Jb (tv (tI v) Y) (VEv.int .i64 4)) (aO (tB (decide (v=4))) Y (nt ?_)))
 refine cd (v=4) Y (fun fhc4=> ?_) fun fhc4=> ?_
 ·refine sr ?_
  refine mO (tS w) Y (aO (tS w) Y (nt (rt (vinB.r (tr ?_)))))
  refine vfin.eq (r':=(tS w)) ?_ (vfin.r (VRes.tmp (t:=(tS w)) Y VRes.nil) (Give.str _))
  refine congrArg T.str ?_
  first | (unfold Qt;rw [if_neg (fun h_=>fhg10_1 h_.1)]) | (unfold Qt;rw [if_neg (fun h_=>fhc0 h_.2)]) | (unfold Qt;rw [if_pos ⟨fhg10_1,fhc0⟩];first | (rw [if_pos fhc1];done) | (rw [if_pos fhc1,QU Y hpl hx1];done) | (rw [if_neg fhc1,if_pos fhc2];done) | (rw [if_neg fhc1,if_neg fhc2,if_pos fhc3];done) | (rw [if_neg fhc1,if_neg fhc2,if_neg fhc3,if_pos fhc4];done) | (rw [if_neg fhc1,if_neg fhc2,if_neg fhc3,if_neg fhc4];done))
 refine sk (vinB.n (tn (sr (fO (OF.assign (VEv.str (⟨#[]⟩:ByteArray))) (nt (rt ?_))))))
 refine vfin.eq (r':=(tS (⟨#[]⟩:ByteArray))) ?_ (vfin.r (VRes.tmp (t:=(tS (⟨#[]⟩:ByteArray))) Y VRes.nil) (Give.str _))
 refine congrArg T.str ?_
 first | (unfold Qt;rw [if_neg (fun h_=>fhg10_1 h_.1)]) | (unfold Qt;rw [if_neg (fun h_=>fhc0 h_.2)]) | (unfold Qt;rw [if_pos ⟨fhg10_1,fhc0⟩];first | (rw [if_pos fhc1];done) | (rw [if_pos fhc1,QU Y hpl hx1];done) | (rw [if_neg fhc1,if_pos fhc2];done) | (rw [if_neg fhc1,if_neg fhc2,if_pos fhc3];done) | (rw [if_neg fhc1,if_neg fhc2,if_neg fhc3,if_pos fhc4];done) | (rw [if_neg fhc1,if_neg fhc2,if_neg fhc3,if_neg fhc4];done))
theorem Zm {c:D.Clue} {w h:ByteArray} {n:Int} (e:h=⟨#[]⟩):false=decide (Yf c w n h):=(decide_eq_false (fun x=>x.1 e)).symm
theorem JO {c:D.Clue} {w h:ByteArray} {n:Int} (e:¬h=⟨#[]⟩):decide (Qt c w n=h)=decide (Yf c w n h):=decide_eq_decide.2 ⟨fun x=>⟨e,x⟩,fun x=>x.2⟩
theorem Qaz (n:Nat) (c:D.Clue) (w:ByteArray) (v:Int) (h:ByteArray) (hz:QK c≤mx) (hw:w.size≤maxLen):Pure (Qo Tryd.prog (n+7)) 41 [(T.agg (Qi false c)),(tS w),(tI v),(tS h)] (tB (decide (Yf c w v h))):=by
 refine Pure.intro (rs:= [ResultVar.tmp 8]) Tryd.func41 Y Y Y (E0:= [(0,(T.agg (Qi false c))),(1,(tS w)),(2,(tI v)),(3,(tS h))]) Y ?_
 obtain ⟨hlim,hmx,hmax⟩:=QM
 refine sr (kO (B.box (ts:=(Qi false c)) (tv (T.agg (Qi false c)) Y) nofun Y) (fO (OF.assign (VEv.bool false)) (nt (sr (mO (tS h) Y (fO (B.sneq (c:=(!(decide (h=(⟨#[]⟩:ByteArray))))) (tv (tS h) Y) (VEv.str (⟨#[]⟩:ByteArray)) Y) (mO (tB (!(decide (h=(⟨#[]⟩:ByteArray))))) Y ?_)))))))
 refine gn (h=(⟨#[]⟩:ByteArray)) (fun fhg11_1=> ?_) fun fhg11_1=> ?_
 ·refine gL (ny fhg11_1) Y Y (OL.loadOn (us:=(Qi false c)) (tv (T.op 0 0) Y) Y Qbj Qae (lb Y) Y) ?_
  refine gF (ny fhg11_1) Y Y (OF.move (tv (tS w) Y)) (gF (ny fhg11_1) Y Y (OF.move (tv (tI v) Y)) (VRunO.chain (VWant.on Y Y (ny fhg11_1)) (cS (vc (tv (T.agg (Qi false c)) Y) (vc (tv (tS w) Y) (vc (tv (tI v) Y) vn))) (LendL.cons (lg Zw) (lp Y (lp Y ln))) (QaM (n+0) c w v (by first | assumption | omega) (by first | assumption | omega)) Y Y) (gF (ny fhg11_1) Y Y (OF.move (tv (tS h) Y)) (gF (ny fhg11_1) Y Y (B.seql (c:=(decide (Qt c w v=h))) (tv (tS (Qt c w v)) Y) (tv (tS h) Y) Y) (fO (OF.pickT (VEv.tmpB Y (ny fhg11_1)) (tv (tB (decide (Qt c w v=h))) Y)) (aO (tB (decide (Qt c w v=h))) Y (nt (rt (vb (b':=(decide (Qt c w v=h))) Y ?_)))))))))
  first | exact Zm (by assumption) | exact Zm (by simpa using fhc0) | exact JO (by assumption)
 refine QN 6 2 true 11 (nz fhg11_1) Y Y Y (fO (OF.pickF (VEv.tmpB Y (nz fhg11_1)) (VEv.bool false)) (aO (tB false) Y (nt (rt (vb (b':=false) Y ?_)))))
 first | exact Zm (by assumption) | exact Zm (by simpa using fhc0) | exact JO (by assumption)
theorem Qat (n:Nat) (c:D.Clue) (w:ByteArray) (v:Int) (h:ByteArray) (hz:QK c≤mx) (hw:w.size≤maxLen):Pure (Qo Tryd.prog (n+7)) 45 [(T.agg (Qi false c)),(tS w),(tI v),(tS h)] (tB (decide (Yf c w v h))):=by
 refine Pure.intro (rs:= [ResultVar.tmp 8]) Tryd.func45 Y Y Y (E0:= [(0,(T.agg (Qi false c))),(1,(tS w)),(2,(tI v)),(3,(tS h))]) Y ?_
 obtain ⟨hlim,hmx,hmax⟩:=QM
 refine sr (kO (B.box (ts:=(Qi false c)) (tv (T.agg (Qi false c)) Y) nofun Y) (fO (OF.assign (VEv.bool false)) (nt (sr (mO (tS h) Y (fO (B.sneq (c:=(!(decide (h=(⟨#[]⟩:ByteArray))))) (tv (tS h) Y) (VEv.str (⟨#[]⟩:ByteArray)) Y) (mO (tB (!(decide (h=(⟨#[]⟩:ByteArray))))) Y ?_)))))))
 refine gn (h=(⟨#[]⟩:ByteArray)) (fun fhg11_1=> ?_) fun fhg11_1=> ?_
 ·refine gL (ny fhg11_1) Y Y (OL.loadOn (us:=(Qi false c)) (tv (T.op 0 0) Y) Y Qbj Qae (lb Y) Y) ?_
  refine gF (ny fhg11_1) Y Y (OF.move (tv (tS w) Y)) (gF (ny fhg11_1) Y Y (OF.move (tv (tI v) Y)) (VRunO.chain (VWant.on Y Y (ny fhg11_1)) (cS (vc (tv (T.agg (Qi false c)) Y) (vc (tv (tS w) Y) (vc (tv (tI v) Y) vn))) (LendL.cons (lg Zw) (lp Y (lp Y ln))) (Qa0 (n+0) c w v (by first | assumption | omega) (by first | assumption | omega)) Y Y) (gF (ny fhg11_1) Y Y (OF.move (tv (tS h) Y)) (gF (ny fhg11_1) Y Y (B.seql (c:=(decide (Qt c w v=h))) (tv (tS (Qt c w v)) Y) (tv (tS h) Y) Y) (fO (OF.pickT (VEv.tmpB Y (ny fhg11_1)) (tv (tB (decide (Qt c w v=h))) Y)) (aO (tB (decide (Qt c w v=h))) Y (nt (rt (vb (b':=(decide (Qt c w v=h))) Y ?_)))))))))
  first | exact Zm (by assumption) | exact Zm (by simpa using fhc0) | exact JO (by assumption)
 refine QN 6 2 true 11 (nz fhg11_1) Y Y Y (fO (OF.pickF (VEv.tmpB Y (nz fhg11_1)) (VEv.bool false)) (aO (tB false) Y (nt (rt (vb (b':=false) Y ?_)))))
 first | exact Zm (by assumption) | exact Zm (by simpa using fhc0) | exact JO (by assumption)
theorem J1 (n:Nat) (c:D.Clue) (ws:List ByteArray) (v:Int) (h:ByteArray) (hz:QK c≤mx) (hw:zL ByteArray.size ws≤mx):Pure (Qo Tryd.prog (n+8)) 15 [(T.agg (Qi false c)),(rd 1 Qd ws),(tI v),(tS h)] (T.sl true 1 ((Qb c ws v h).map (Qd true))):=by
 refine Pure.intro (rs:= [ResultVar.tmp 8]) Tryd.func15 Y Y Y (E0:= [(0,(T.agg (Qi false c))),(1,(rd 1 Qd ws)),(2,(tI v)),(3,(tS h))]) Y ?_
 obtain ⟨hlim,hmx,hmax⟩:=QM
 have hlw:=Zr (z:=ByteArray.size) ws
 refine sr (kO (B.box (ts:=(Qi false c)) (tv (T.agg (Qi false c)) Y) nofun Y) (fO (OF.assign VEv.nils) (nt (sr (kO (OM.slice0 Y5 zo9 (by kernel_rfl) Y (by rw [Ji];decide) Ji) (aO (T.os 1 1 0 0) Y (nt (sq (sr (fO (OF.assign (VEv.int .i64 0)) (nt ?_)))))))))))
 refine VRun.block ?_
 have he1: []=((Qb c (ws.take 0) v h).map (Qd true)):=by first | rfl | (rw [QI hx1,if_pos (by assumption)]) | (rw [QI hx1,if_neg (by assumption),List.append_nil]) | (simp;done) | omega
 refine VRun.loop (A:=Nat) (fun s_=> [(1,(rd 1 Qd ws)),(2,(tI v)),(3,(tS h)),(4,(T.op 0 0)),(8,T.nils),(9,(T.os 1 1 0 (((Qb c (ws.take s_) v h).map (Qd true)).length))),(10,(tN s_))]) (fun s_=>Yc [(0,(Obj.cells (Qi false c))),(1,(Obj.rows 1 ((Qb c (ws.take s_) v h).map (Qd true))))]) 2 (fun s_=>s_≤ws.length) (fun s_=>ws.length - s_) (0:Nat) ?_ (Wk.mk (fun k=>k) ?_ ?_ ?_) ?_
 ·first | trivial | (simp;done) | omega | (constructor<;>simp)
 ·exact (b2 (b2 (b2 (b2 (b2 (bc ⟨(congrArg (fun n_=>T.os 1 1 0 n_) (show 0=((Qb c (ws.take 0) v h).map (Qd true)).length from (by first | rfl | (simp only [List.length_map];omega) | (simp only [List.length_map,List.length_set,List.length_append,List.length_take,List.length_replicate,List.length_cons,List.length_nil];omega)))),rfl⟩ (b2 bn)))))))
 ·exact (b3 (bc ⟨(congrArg (fun l_=>some (Obj.rows 1 l_)) he1),(lb Y),rfl⟩ bn))
 ·exact nd Y
 rintro i (hI':i≤ws.length)
 show VRun _ _ _ [(1,(rd 1 Qd ws)),(2,(tI v)),(3,(tS h)),(4,(T.op 0 0)),(8,T.nils),(9,(T.os 1 1 0 (((Qb c (ws.take i) v h).map (Qd true)).length))),(10,(tN i))] (Yc [(0,(Obj.cells (Qi false c))),(1,(Obj.rows 1 ((Qb c (ws.take i) v h).map (Qd true))))]) 2 _
 have hI1:=hI'
 have hI2:=Jo c (ws.take i) v h
 have hI3:(ws.take i).length≤ws.length:=by rw [List.length_take];omega
 refine sq (sr (mO (tN i) Y (mO (rd 1 Qd ws) Y (lO (B.lenR (m:=ws.length) (tv (rd 1 Qd ws) Y) Y5 (List.length_map ..)) (fO (YA (tv (tN i) Y) (tv (tN ws.length) Y)) (nt ?_))))))
 refine cd (i<ws.length) Y (fun fhc0=> ?_) fun fhc0=> ?_
 ·refine sk ?_
  refine tn (sq (VRun.block (sq (VRun.draw (B:= [[],[],[],[2,1],[1,2,3],[],[],[6,5,3,2,1,4,0]]) (by kernel_rfl) (by kernel_rfl) (lD (OL.loadOn (us:=(Qi false c)) (tv (T.op 0 0) Y) Y Qbj Qae (lb Y) Y) Y Y (mD (rd 1 Qd ws) Y Y (mD (tN i) Y Y ?_)))))))
  obtain ⟨x1,hx1⟩:∃x,ws[i]? =some x:=⟨_,List.getElem?_eq_getElem (by omega)⟩
  have hz1:=Qeg (z:=ByteArray.size) hx1
  refine fD (OF.indexAddrR (row:=(Qd false x1)) (i:=i) (tv (rd 1 Qd ws) Y) (tv (tN i) Y) Y (Qr _ hx1) Y5 Ji if9) Y Y (lD (OL.loadR1 (t:=(tS x1)) (tv (T.rp [(tS x1)]) Y) Y st9) Y Y (mD (tI v) Y Y (mD (tS h) Y Y (VRunD.quiet (bi:= [6,5,3,2,1,4,0]) Y VWant.always Y Y Y bn (cS (vc (tv (T.agg (Qi false c)) Y) (vc (tv (tS x1) Y) (vc (tv (tI v) Y) (vc (tv (tS h) Y) vn)))) (LendL.cons (lg Zw) (lp Y (lp Y (lp Y ln)))) (Qaz (n+0) c x1 v h (by first | assumption | omega) (by first | assumption | omega)) Y Y) (VRunD.nil (tn ?_))))))
  refine cd (Yf c x1 v h) Y (fun fhc1=> ?_) fun fhc1=> ?_
  ·refine VRun.region ?_
   refine mO (T.os 1 1 0 (((Qb c (ws.take i) v h).map (Qd true)).length)) Y (mO (rd 1 Qd ws) Y (mO (tN i) Y (fO (OF.indexAddrR (row:=(Qd false x1)) (i:=i) (tv (rd 1 Qd ws) Y) (tv (tN i) Y) Y (Qr _ hx1) Y5 Ji if9) (lO (OL.loadR1 (t:=(tS x1)) (tv (T.rp [(tS x1)]) Y) Y st9) (kO (OM.buildSlice (l:= [(tS x1)]) (VEvp.cons (tv (tS x1) Y) VEvp.nil) Y (by decide) (bc (nofun) bn) (bc ((bc (Y) bn)) bn) (bc (Y) bn) Y5 zo9 (by kernel_rfl) Y (by rw [Ji];decide) Ji (Nat.le_of_ble_eq_true Y)) (cO (B.append (rows:=((Qb c (ws.take i) v h).map (Qd true))) (rows2:= [[(tS x1)]]) (rows3:=((Qb c (ws.take i) v h++ [x1]).map (Qd true))) (VDst.own (tv (T.os 1 1 0 (((Qb c (ws.take i) v h).map (Qd true)).length)) Y) Y Y) (VSrc.own (tv (T.os 1 2 0 1) Y) Y Y Y5 (bc (bc Y bn) bn)) (by decide) Y5 Ji (by decide) zo9 Y (of_decide_eq_true (by kernel_rfl)) (by first | omega | (simp only [List.length_map];omega) | (simp only [List.length_map,List.length_append,List.length_cons,List.length_nil,List.length_replicate,List.length_set,List.length_drop,List.length_take,QY] at *;omega)) ((List.map_append (f:=Qd true) (l₁:=Qb c (ws.take i) v h) (l₂:= [x1])).symm)) (aO (T.os 1 3 0 (((Qb c (ws.take i) v h++ [x1]).map (Qd true)).length)) Y (VRunO.nil (vinB.n (tn (VRun.region ?_)))))))))))
   refine mO (tN i) Y (fO (Zk (tv (tN i) Y) (VEv.int .i64 1) (by omega)) (aO (tN (i+1)) Y (VRunO.nil (tn ?_))))
   have he2:(Qb c (ws.take i) v h++ [x1])=Qb c (ws.take (i+1)) v h:=by first | rfl | (rw [QI hx1,if_pos (by assumption)]) | (rw [QI hx1,if_neg (by assumption),List.append_nil]) | (simp;done) | omega
   refine ⟨(i+1:Nat),?_,?_,Wk.mk (fun k=>if k=1 then 3 else k) ?_ ?_ ?_⟩
   ·first | trivial | omega | (simp;done) | exact ⟨by omega,hI'.2⟩
   ·first | omega | (simp only [];omega) | (show _<_;omega) | (simp;omega)
   ·exact (b2 (b2 (b2 (b2 (b2 (bc ⟨(congrArg (fun l_=>T.os 1 3 0 (List.map (Qd true) l_).length) he2),rfl⟩ (b2 bn)))))))
   ·exact (b3 (bc ⟨(congrArg (fun l_=>some (Obj.rows 1 (List.map (Qd true) l_))) he2),(lb Y),rfl⟩ bn))
   ·exact nd Y
  refine sk (vinB.n (tn (VRun.region (mO (tN i) Y (fO (Zk (tv (tN i) Y) (VEv.int .i64 1) (by omega)) (aO (tN (i+1)) Y (VRunO.nil (tn ?_))))))))
  have he3:Qb c (ws.take i) v h=Qb c (ws.take (i+1)) v h:=by first | rfl | (rw [QI hx1,if_pos (by assumption)]) | (rw [QI hx1,if_neg (by assumption),List.append_nil]) | (simp;done) | omega
  refine ⟨(i+1:Nat),?_,?_,Wk.mk (fun k=>k) ?_ ?_ ?_⟩
  ·first | trivial | omega | (simp;done) | exact ⟨by omega,hI'.2⟩
  ·first | omega | (simp only [];omega) | (show _<_;omega) | (simp;omega)
  ·exact (b2 (b2 (b2 (b2 (b2 (bc ⟨(congrArg (fun l_=>T.os 1 1 0 (List.map (Qd true) l_).length) he3),rfl⟩ (b2 bn)))))))
  ·exact (b3 (bc ⟨(congrArg (fun l_=>some (Obj.rows 1 (List.map (Qd true) l_))) he3),(lb Y),rfl⟩ bn))
  ·exact nd Y
 refine VRun.exit (vthn.e (vthn.e (vinB.e (tn (sr (mO (T.os 1 1 0 (((Qb c (ws.take i) v h).map (Qd true)).length)) Y (aO (T.os 1 1 0 (((Qb c (ws.take i) v h).map (Qd true)).length)) Y (nt (rt ?_)))))))))
 refine vfin.eq (r':=(T.sl true 1 ((Qb c (ws.take i) v h).map (Qd true)))) ?_ (vfin.r (VRes.tmp (t:=(T.os 1 1 0 (((Qb c (ws.take i) v h).map (Qd true)).length))) Y VRes.nil) (Give.os Y Y (okStr.cleanMap _)))
 refine congrArg (fun l_=>T.sl true 1 (List.map (Qd true) l_)) ?_
 rw [List.take_of_length_le (by omega)]
theorem Jn (n:Nat) (w:ByteArray) (c:D.Clue) (v:Int) (h:ByteArray) (hz:QK c≤mx) (hw:w.size≤maxLen):Pure (Qo Tryd.prog (n+8)) 44 [(tS w),(T.rp [(tI c.Sense),(rd 4 Qa c.Play)]),(T.rp [(tI v)]),(T.rp [(tS h)])] (tB (decide (Yf c w v h))):=by
 refine Pure.intro (rs:= [ResultVar.tmp 5]) Tryd.func44 Y Y Y (E0:= [(0,(tS w)),(1,(T.rp [(tI c.Sense),(rd 4 Qa c.Play)])),(2,(T.rp [(tI v)])),(3,(T.rp [(tS h)]))]) Y ?_
 obtain ⟨hlim,hmx,hmax⟩:=QM
 refine sr (fO (OF.assign (VEv.bool false)) (nt (sr (lO (OL.loadRn (us:=(Qi false c)) (tv (T.rp [(tI c.Sense),(rd 4 Qa c.Play)]) Y) Qbj Qae (lb Y) Y) (mO (tS w) Y (lO (OL.loadR1 (t:=(tI v)) (tv (T.rp [(tI v)]) Y) Y Q4) (lO (OL.loadR1 (t:=(tS h)) (tv (T.rp [(tS h)]) Y) Y st9) (cO (cS (vc (tv (T.agg (Qi false c)) Y) (vc (tv (tS w) Y) (vc (tv (tI v) Y) (vc (tv (tS h) Y) vn)))) (LendL.cons (lg Zw) (lp Y (lp Y (lp Y ln)))) (Qat (n+0) c w v h (by first | assumption | omega) (by first | assumption | omega)) Y Y) (aO (tB (decide (Yf c w v h))) Y (nt (rt ?_)))))))))))
 exact vb Y Y
theorem ZJ (n:Nat) (ws:List ByteArray) (c:D.Clue) (v:Int) (h:ByteArray) (hz:QK c≤mx) (hw:zL ByteArray.size ws≤mx):Pure (Qo Tryd.prog (n+9)) 43 [(rd 1 Qd ws),(T.fn 44 [(T.rp [(tI c.Sense),(rd 4 Qa c.Play)]),(T.rp [(tI v)]),(T.rp [(tS h)])])] (T.sl true 1 ((Qb c ws v h).map (Qd true))):=by
 refine Pure.intro (rs:= [ResultVar.tmp 4]) Tryd.func43 Y Y Y (E0:= [(0,(rd 1 Qd ws)),(1,(T.fn 44 [(T.rp [(tI c.Sense),(rd 4 Qa c.Play)]),(T.rp [(tI v)]),(T.rp [(tS h)])]))]) Y ?_
 obtain ⟨hlim,hmx,hmax⟩:=QM
 have hlw:=Zr (z:=ByteArray.size) ws
 refine sr (fO (OF.assign VEv.nils) (nt (sr (fO (OF.assign VEv.nils) (nt (sq (sr (mO (rd 1 Qd ws) Y (lO (B.lenR (m:=ws.length) (tv (rd 1 Qd ws) Y) Y5 (List.length_map ..)) (fO (OF.move (VEv.int .i64 0)) (nt ?_)))))))))))
 refine VRun.block (VRun.wk (Wk.phantom 5 1 Y) ?_)
 have he1: []=((Qb c (ws.take 0) v h).map (Qd true)):=by first | rfl | (rw [QI hx1,if_pos (by assumption)]) | (rw [QI hx1,if_neg (by assumption),List.append_nil]) | (simp;done) | omega
 refine VRun.loop (A:=Nat) (fun s_=> [(1,(T.fn 44 [(T.rp [(tI c.Sense),(rd 4 Qa c.Play)]),(T.rp [(tI v)]),(T.rp [(tS h)])])),(4,T.nils),(5,(T.os 1 0 0 (((Qb c (ws.take s_) v h).map (Qd true)).length))),(8,(rd 1 Qd ws)),(9,(tN ws.length)),(10,(tN s_))]) (fun s_=>Yc [(0,(Obj.rows 1 ((Qb c (ws.take s_) v h).map (Qd true))))]) 1 (fun s_=>s_≤ws.length) (fun s_=>ws.length - s_) (0:Nat) ?_ (Wk.mk (fun k=>k) ?_ ?_ ?_) ?_
 ·first | trivial | (simp;done) | omega | (constructor<;>simp)
 ·exact (b2 (b2 (bc ⟨(congrArg (fun n_=>T.os 1 0 0 n_) (show 0=((Qb c (ws.take 0) v h).map (Qd true)).length from (by first | rfl | (simp only [List.length_map];omega) | (simp only [List.length_map,List.length_set,List.length_append,List.length_take,List.length_replicate,List.length_cons,List.length_nil];omega)))),rfl⟩ (b2 (b2 (b2 bn))))))
 ·exact (bc ⟨(congrArg (fun l_=>some (Obj.rows 1 l_)) he1),(lb Y),rfl⟩ bn)
 ·exact nd Y
 rintro i (hI':i≤ws.length)
 show VRun _ _ _ [(1,(T.fn 44 [(T.rp [(tI c.Sense),(rd 4 Qa c.Play)]),(T.rp [(tI v)]),(T.rp [(tS h)])])),(4,T.nils),(5,(T.os 1 0 0 (((Qb c (ws.take i) v h).map (Qd true)).length))),(8,(rd 1 Qd ws)),(9,(tN ws.length)),(10,(tN i))] (Yc [(0,(Obj.rows 1 ((Qb c (ws.take i) v h).map (Qd true))))]) 1 _
 have hI1:=hI'
 have hI2:=Jo c (ws.take i) v h
 have hI3:(ws.take i).length≤ws.length:=by rw [List.length_take];omega
 refine sr (fO (YA (tv (tN i) Y) (tv (tN ws.length) Y)) (nt (sq ?_)))
 refine cd (i<ws.length) Y (fun fhc0=> ?_) fun fhc0=> ?_
 ·refine sk ?_
  refine tn (sq (VRun.block (sr ?_)))
  obtain ⟨x1,hx1⟩:∃x,ws[i]? =some x:=⟨_,List.getElem?_eq_getElem (by omega)⟩
  have hz1:=Qeg (z:=ByteArray.size) hx1
  refine fO (OF.indexAddrR (row:=(Qd false x1)) (i:=i) (tv (rd 1 Qd ws) Y) (tv (tN i) Y) Y (Qr _ hx1) Y5 Ji if9) (lO (OL.loadR1 (t:=(tS x1)) (tv (T.rp [(tS x1)]) Y) Y st9) (aO (tS x1) Y (nt (sr (mO (T.fn 44 [(T.rp [(tI c.Sense),(rd 4 Qa c.Play)]),(T.rp [(tI v)]),(T.rp [(tS h)])]) Y (mO (tS x1) Y (cO (OC.callv (us:= [(tS x1)]) (ucaps:= [(T.rp [(tI c.Sense),(rd 4 Qa c.Play)]),(T.rp [(tI v)]),(T.rp [(tS h)])]) (r:=(tB (decide (Yf c x1 v h)))) (r':=(tB (decide (Yf c x1 v h)))) (objs:= []) Y Y (vc (tv (tS x1) Y) vn) (Zj Y) (Zj Y) (Jn (n+0) x1 c v h (by first | assumption | omega) (by first | assumption | omega)) Y) (nt ?_))))))))
  refine cd (Yf c x1 v h) Y (fun fhc1=> ?_) fun fhc1=> ?_
  ·refine VRun.region ?_
   refine mO (T.os 1 0 0 (((Qb c (ws.take i) v h).map (Qd true)).length)) Y (mO (tS x1) Y (kO (OM.buildSlice (l:= [(tS x1)]) (VEvp.cons (tv (tS x1) Y) VEvp.nil) Y (by decide) (bc (nofun) bn) (bc ((bc (Y) bn)) bn) (bc (Y) bn) Y5 zo9 (by kernel_rfl) Y (by rw [Ji];decide) Ji (Nat.le_of_ble_eq_true Y)) (cO (B.append (rows:=((Qb c (ws.take i) v h).map (Qd true))) (rows2:= [[(tS x1)]]) (rows3:=((Qb c (ws.take i) v h++ [x1]).map (Qd true))) (VDst.own (tv (T.os 1 0 0 (((Qb c (ws.take i) v h).map (Qd true)).length)) Y) Y Y) (VSrc.own (tv (T.os 1 1 0 1) Y) Y Y Y5 (bc (bc Y bn) bn)) (by decide) Y5 Ji (by decide) zo9 Y (of_decide_eq_true (by kernel_rfl)) (by first | omega | (simp only [List.length_map];omega) | (simp only [List.length_map,List.length_append,List.length_cons,List.length_nil,List.length_replicate,List.length_set,List.length_drop,List.length_take,QY] at *;omega)) ((List.map_append (f:=Qd true) (l₁:=Qb c (ws.take i) v h) (l₂:= [x1])).symm)) (aO (T.os 1 2 0 (((Qb c (ws.take i) v h++ [x1]).map (Qd true)).length)) Y (VRunO.nil (vinB.n (tn (VRun.region (fO (Zk (tv (tN i) Y) (VEv.int .i64 1) (by omega)) (mO (tN (i+1)) Y (VRunO.nil ?_)))))))))))
   refine tn ?_
   have he2:(Qb c (ws.take i) v h++ [x1])=Qb c (ws.take (i+1)) v h:=by first | rfl | (rw [QI hx1,if_pos (by assumption)]) | (rw [QI hx1,if_neg (by assumption),List.append_nil]) | (simp;done) | omega
   refine ⟨(i+1:Nat),?_,?_,Wk.mk (fun k=>if k=0 then 2 else k) ?_ ?_ ?_⟩
   ·first | trivial | omega | (simp;done) | exact ⟨by omega,hI'.2⟩
   ·first | omega | (simp only [];omega) | (show _<_;omega) | (simp;omega)
   ·exact (b2 (b2 (bc ⟨(congrArg (fun l_=>T.os 1 2 0 (List.map (Qd true) l_).length) he2),rfl⟩ (b2 (b2 (b2 bn))))))
   ·exact (bc ⟨(congrArg (fun l_=>some (Obj.rows 1 (List.map (Qd true) l_))) he2),(lb Y),rfl⟩ bn)
   ·exact nd Y
  refine sk (vinB.n (tn (VRun.region (fO (Zk (tv (tN i) Y) (VEv.int .i64 1) (by omega)) (mO (tN (i+1)) Y (VRunO.nil (tn ?_)))))))
  have he3:Qb c (ws.take i) v h=Qb c (ws.take (i+1)) v h:=by first | rfl | (rw [QI hx1,if_pos (by assumption)]) | (rw [QI hx1,if_neg (by assumption),List.append_nil]) | (simp;done) | omega
  refine ⟨(i+1:Nat),?_,?_,Wk.mk (fun k=>k) ?_ ?_ ?_⟩
  ·first | trivial | omega | (simp;done) | exact ⟨by omega,hI'.2⟩
  ·first | omega | (simp only [];omega) | (show _<_;omega) | (simp;omega)
  ·exact (b2 (b2 (bc ⟨(congrArg (fun l_=>T.os 1 0 0 (List.map (Qd true) l_).length) he3),rfl⟩ (b2 (b2 (b2 bn))))))
  ·exact (bc ⟨(congrArg (fun l_=>some (Obj.rows 1 (List.map (Qd true) l_))) he3),(lb Y),rfl⟩ bn)
  ·exact nd Y
 refine VRun.exit (vthn.e (vthn.e (vinB.e (tn (sr (mO (T.os 1 0 0 (((Qb c (ws.take i) v h).map (Qd true)).length)) Y (aO (T.os 1 0 0 (((Qb c (ws.take i) v h).map (Qd true)).length)) Y (nt (rt ?_)))))))))
 refine vfin.eq (r':=(T.sl true 1 ((Qb c (ws.take i) v h).map (Qd true)))) ?_ (vfin.r (VRes.tmp (t:=(T.os 1 0 0 (((Qb c (ws.take i) v h).map (Qd true)).length))) Y VRes.nil) (Give.os Y Y (okStr.cleanMap _)))
 refine congrArg (fun l_=>T.sl true 1 (List.map (Qd true) l_)) ?_
 rw [List.take_of_length_le (by omega)]
theorem YE (n:Nat) (c:D.Clue) (ws:List ByteArray) (v:Int) (h:ByteArray) (hz:QK c≤mx) (hw:zL ByteArray.size ws≤mx):Pure (Qo Tryd.prog (n+10)) 18 [(T.agg (Qi false c)),(rd 1 Qd ws),(tI v),(tS h)] (T.sl true 1 ((Qb c ws v h).map (Qd true))):=by
 refine Pure.intro (rs:= [ResultVar.tmp 8]) Tryd.func18 Y Y Y (E0:= [(0,(T.agg (Qi false c))),(1,(rd 1 Qd ws)),(2,(tI v)),(3,(tS h))]) Y ?_
 obtain ⟨hlim,hmx,hmax⟩:=QM
 refine sr (kO (B.box (ts:=(Qi false c)) (tv (T.agg (Qi false c)) Y) nofun Y) (kO (B.box (ts:= [(tI v)]) (tv (tI v) Y) nofun Y) (kO (B.box (ts:= [(tS h)]) (tv (tS h) Y) nofun Y) (fO (OF.assign VEv.nils) (nt (sr (mO (rd 1 Qd ws) Y (fO (OF.makeFunc (vc (tv (T.op 0 0) Y) (vc (tv (T.op 1 0) Y) (vc (tv (T.op 2 0) Y) vn)))) (cO (OC.callF (us:= [(rd 1 Qd ws),(T.fn 44 [(T.rp (Qi false c)),(T.rp [(tI v)]),(T.rp [(tS h)])])]) (r':=(T.os 1 3 0 (((Qb c ws v h).map (Qd true)).length))) (objs:= [(Obj.rows 1 ((Qb c ws v h).map (Qd true)))]) Y (vc (tv (rd 1 Qd ws) Y) (vc (tv (T.fn 44 [(T.op 0 0),(T.op 1 0),(T.op 2 0)]) Y) vn)) (lp Y (LendL.cons (Lend.fn (LendL.cons (Lend.op (us':=(Qi false c)) (ts:=(Qi false c)) Y (LendL.cons (Lend.pl Y) (LendL.cons (Lend.pl Y) ln)) (lb Y) Y) (LendL.cons (Lend.op (us':= [(tI v)]) (ts:= [(tI v)]) Y (LendL.cons (Lend.pl Y) ln) (lb Y) Y) (LendL.cons (Lend.op (us':= [(tS h)]) (ts:= [(tS h)]) Y (LendL.cons (Lend.pl Y) ln) (lb Y) Y) ln)))) ln)) (ZJ (n+0) ws c v h (by first | assumption | omega) (by first | assumption | omega)) Y) (aO (T.os 1 3 0 (((Qb c ws v h).map (Qd true)).length)) Y (nt ?_)))))))))))
 refine rt ?_
 refine vfin.eq (r':=(T.sl true 1 ((Qb c ws v h).map (Qd true)))) ?_ (vfin.r (VRes.tmp (t:=(T.os 1 3 0 (((Qb c ws v h).map (Qd true)).length))) Y VRes.nil) (Give.os Y Y (okStr.cleanMap _)))
 rfl
theorem YG (n:Nat) (a0:D.Clue) (a1:List ByteArray) (a2:Int) (a3:ByteArray) (g0:Qef a0) (g1:(a1.length≤maxLen∧∀y∈a1,y.size≤maxLen)) (g2:(Lit.int .i64 a2).wf=true) (g3:a3.size≤maxLen):Pure (Qo Tryd.prog (n+11)) 4 [(T.agg (Qi false a0)),(rd 1 Qd a1),(tI a2),(tS a3)] (tB true):=by
 refine Pure.intro (rs:= [ResultVar.tmp 8]) Tryd.func4 Y Y Y (E0:= [(0,(T.agg (Qi false a0))),(1,(rd 1 Qd a1)),(2,(tI a2)),(3,(tS a3))]) Y ?_
 obtain ⟨hlim,hmx,hmax⟩:=QM
 have hl0_0:=Zr (z:=QD) a0.Play
 have hl1:=Zr (z:=ByteArray.size) a1
 have hx:=Jo a0 a1 a2 a3
 have hd0:zL QD a0.Play≤QK a0:=by simp only [QK];omega
 refine sr (kO (B.box (ts:=(Qi false a0)) (tv (T.agg (Qi false a0)) Y) nofun Y) (fO (OF.assign (VEv.bool false)) (nt (sq (sr (mO (tS a3) Y (lO (B.lenS (tv (tS a3) Y) U9) (fO (B.gtr (c:=(decide (1048576<a3.size))) (tv (tN a3.size) Y) (VEv.int .i64 1048576) (by first | exact g1.2 | exact Qj _ _ _ _ | (simp only [Qg];omega) | (exact Yv (by omega)))) (nt ?_)))))))))
 refine cd (1048576<a3.size) Y (fun fhc0=> ?_) fun fhc0=> ?_
 ·refine sr ?_
  refine fO (OF.assign (VEv.bool true)) (nt (rt (tr ?_)))
  exact vb Y Y
 first | (have hz0:=ZG fhc0) | skip
 refine sk (tn (sr (fO (OF.assign (VEv.int .i64 1048576)) (nt (sr (lO (OL.loadOn (us:=(Qi false a0)) (tv (T.op 0 0) Y) Y Qei Qel (lb Y) Y) (mO (tN 1048576) Y (cO (cS (vc (tv (T.agg (Qi false a0)) Y) (vc (tv (tN 1048576) Y) vn)) (LendL.cons (lg Zw) (lp Y ln)) (QbE (n+7) a0 1048576 (by first | exact g1.2 | exact Qj _ _ _ _ | (simp only [Qg];omega) | assumption | omega | (simp only [List.length_map];omega) | (simp only [List.length_map,List.length_append,List.length_cons,List.length_nil,List.length_replicate,List.length_set,List.length_drop,List.length_take,QY] at *;omega)) (by first | exact g1.2 | exact Qj _ _ _ _ | (simp only [Qg];omega) | assumption | omega | (simp only [List.length_map];omega) | (simp only [List.length_map,List.length_append,List.length_cons,List.length_nil,List.length_replicate,List.length_set,List.length_drop,List.length_take,QY] at *;omega)) (by first | exact g1.2 | exact Qj _ _ _ _ | (simp only [Qg];omega) | assumption | omega | (simp only [List.length_map];omega) | (simp only [List.length_map,List.length_append,List.length_cons,List.length_nil,List.length_replicate,List.length_set,List.length_drop,List.length_take,QY] at *;omega))) Y Y) (aO (tI (Ya (QK a0) 1048576)) Y (nt (sq ?_)))))))))))
 refine sr (mO (tI (Ya (QK a0) 1048576)) Y (fO (xls (tv (tI (Ya (QK a0) 1048576)) Y) (VEv.int .i64 0)) (nt ?_)))
 refine cd (Ya (QK a0) 1048576<0) Y (fun fhc1=> ?_) fun fhc1=> ?_
 ·refine sr ?_
  refine fO (OF.assign (VEv.bool true)) (nt (rt (tr ?_)))
  exact vb Y Y
 first | (have hz1:=ZG fhc1) | skip
 refine sk (tn (sr (mO (rd 1 Qd a1) Y (mO (tI (Ya (QK a0) 1048576)) Y (cO (cS (vc (tv (rd 1 Qd a1) Y) (vc (tv (tI (Ya (QK a0) 1048576)) Y) vn)) (Zj Y) (J5 (n+9) a1 (Ya (QK a0) 1048576) (by first | exact g1.2 | exact Qj _ _ _ _ | (simp only [Qg];omega) | assumption | omega | (simp only [List.length_map];omega) | (simp only [List.length_map,List.length_append,List.length_cons,List.length_nil,List.length_replicate,List.length_set,List.length_drop,List.length_take,QY] at *;omega)) (by first | exact g1.2 | exact Qj _ _ _ _ | (simp only [Qg];omega) | assumption | omega | (simp only [List.length_map];omega) | (simp only [List.length_map,List.length_append,List.length_cons,List.length_nil,List.length_replicate,List.length_set,List.length_drop,List.length_take,QY] at *;omega)) (by first | exact g1.2 | exact Qj _ _ _ _ | (simp only [Qg];omega) | assumption | omega | (simp only [List.length_map];omega) | (simp only [List.length_map,List.length_append,List.length_cons,List.length_nil,List.length_replicate,List.length_set,List.length_drop,List.length_take,QY] at *;omega))) Y Y) (aO (tI (Ya (zL ByteArray.size a1) (Ya (QK a0) 1048576))) Y (nt (sq (sr (mO (tI (Ya (zL ByteArray.size a1) (Ya (QK a0) 1048576))) Y (fO (xls (tv (tI (Ya (zL ByteArray.size a1) (Ya (QK a0) 1048576))) Y) (VEv.int .i64 0)) ?_)))))))))))
 refine nt ?_
 refine cd (Ya (zL ByteArray.size a1) (Ya (QK a0) 1048576)<0) Y (fun fhc2=> ?_) fun fhc2=> ?_
 ·refine sr ?_
  refine fO (OF.assign (VEv.bool true)) (nt (rt (tr ?_)))
  exact vb Y Y
 first | (have hz2:=ZG fhc2) | skip
 refine sk (tn (sr (lO (OL.loadOn (us:=(Qi false a0)) (tv (T.op 0 0) Y) Y Qei Qel (lb Y) Y) (cO (OC.callF (r':=(T.agg [(tI a0.Sense),(T.os 4 1 0 ((a0.Play.map (Qa true)).length))])) (objs:= [(Obj.rows 4 (a0.Play.map (Qa true)))]) Y (vc (tv (T.agg (Qi false a0)) Y) vn) (LendL.cons (lg Zw) ln) (ZH (n+7) a0 (by first | exact g1.2 | exact Qj _ _ _ _ | (simp only [Qg];omega) | assumption | omega | (simp only [List.length_map];omega) | (simp only [List.length_map,List.length_append,List.length_cons,List.length_nil,List.length_replicate,List.length_set,List.length_drop,List.length_take,QY] at *;omega))) Y) (mO (rd 1 Qd a1) Y (cO (OC.callF (r':=(T.os 1 2 0 ((a1.map (Qd true)).length))) (objs:= [(Obj.rows 1 (a1.map (Qd true)))]) Y (vc (tv (rd 1 Qd a1) Y) vn) (Zj Y) (Q9 (n+9) a1 (by first | exact g1.2 | exact Qj _ _ _ _ | (simp only [Qg];omega) | assumption | omega | (simp only [List.length_map];omega) | (simp only [List.length_map,List.length_append,List.length_cons,List.length_nil,List.length_replicate,List.length_set,List.length_drop,List.length_take,QY] at *;omega))) Y) (mO (tI a2) Y (mO (tS a3) Y (cO (OC.callF (us:= [(T.agg (Qi false a0)),(rd 1 Qd a1),(tI a2),(tS a3)]) (r':=(T.os 1 3 0 (((Qb a0 a1 a2 a3).map (Qd true)).length))) (objs:= [(Obj.rows 1 ((Qb a0 a1 a2 a3).map (Qd true)))]) Y (vc (tv (T.agg [(tI a0.Sense),(T.os 4 1 0 ((a0.Play.map (Qa true)).length))]) Y) (vc (tv (T.os 1 2 0 ((a1.map (Qd true)).length)) Y) (vc (tv (tI a2) Y) (vc (tv (tS a3) Y) vn)))) (LendL.cons (Lend.agg (LendL.cons (Lend.pl Y) (LendL.cons (Lend.os Y Y (okeStep.fzMap _ _)) ln))) (LendL.cons (Lend.os Y Y (okStr.fzMap _ _)) (lp Y (lp Y ln)))) (J1 (n+2) a0 a1 a2 a3 (by first | exact g1.2 | exact Qj _ _ _ _ | (simp only [Qg];omega) | assumption | omega | (simp only [List.length_map];omega) | (simp only [List.length_map,List.length_append,List.length_cons,List.length_nil,List.length_replicate,List.length_set,List.length_drop,List.length_take,QY] at *;omega)) (by first | exact g1.2 | exact Qj _ _ _ _ | (simp only [Qg];omega) | assumption | omega | (simp only [List.length_map];omega) | (simp only [List.length_map,List.length_append,List.length_cons,List.length_nil,List.length_replicate,List.length_set,List.length_drop,List.length_take,QY] at *;omega))) Y) (aO (T.os 1 3 0 (((Qb a0 a1 a2 a3).map (Qd true)).length)) Y (nt ?_)))))))))))
 refine sr (lO (OL.loadOn (us:=(Qi false a0)) (tv (T.op 0 0) Y) Y Qei Qel (lb Y) Y) (cO (OC.callF (r':=(T.agg [(tI a0.Sense),(T.os 4 4 0 ((a0.Play.map (Qa true)).length))])) (objs:= [(Obj.rows 4 (a0.Play.map (Qa true)))]) Y (vc (tv (T.agg (Qi false a0)) Y) vn) (LendL.cons (lg Zw) ln) (ZH (n+7) a0 (by first | exact g1.2 | exact Qj _ _ _ _ | (simp only [Qg];omega) | assumption | omega | (simp only [List.length_map];omega) | (simp only [List.length_map,List.length_append,List.length_cons,List.length_nil,List.length_replicate,List.length_set,List.length_drop,List.length_take,QY] at *;omega))) Y) (kO (B.alloc (t:=(T.agg [(tN 0),T.nils])) (ts:= [(tN 0),T.nils]) Qfy QfV nofun (fun _=> .agg _ _ Y (Qaf (RL.cons (.int _ _) (RL.cons (.nils) (RL.nil _))))) Y) (cO (B.storeW (us:= [(tI a0.Sense),(T.os 4 4 0 ((a0.Play.map (Qa true)).length))]) (tv (T.op 5 0) Y) (tv (T.agg [(tI a0.Sense),(T.os 4 4 0 ((a0.Play.map (Qa true)).length))]) Y) nofun Y Y Y Qgr Qae (bc Y (bc Y bn))) (nt (sr (mO (rd 1 Qd a1) Y (cO (OC.callF (r':=(T.os 1 6 0 ((a1.map (Qd true)).length))) (objs:= [(Obj.rows 1 (a1.map (Qd true)))]) Y (vc (tv (rd 1 Qd a1) Y) vn) (Zj Y) (Q9 (n+9) a1 (by first | exact g1.2 | exact Qj _ _ _ _ | (simp only [Qg];omega) | assumption | omega | (simp only [List.length_map];omega) | (simp only [List.length_map,List.length_append,List.length_cons,List.length_nil,List.length_replicate,List.length_set,List.length_drop,List.length_take,QY] at *;omega))) Y) (aO (T.os 1 6 0 ((a1.map (Qd true)).length)) Y (nt (sr ?_)))))))))))
 refine lO (OL.loadOn (us:= [(tI a0.Sense),(T.os 4 4 0 ((a0.Play.map (Qa true)).length))]) (tv (T.op 5 0) Y) Y Qbj Qae (lb Y) Y) (mO (T.os 1 6 0 ((a1.map (Qd true)).length)) Y (mO (tI a2) Y (mO (tS a3) Y (cO (OC.callF (us:= [(T.agg (Qi false a0)),(rd 1 Qd a1),(tI a2),(tS a3)]) (r':=(T.os 1 7 0 (((Qb a0 a1 a2 a3).map (Qd true)).length))) (objs:= [(Obj.rows 1 ((Qb a0 a1 a2 a3).map (Qd true)))]) Y (vc (tv (T.agg [(tI a0.Sense),(T.os 4 4 0 ((a0.Play.map (Qa true)).length))]) Y) (vc (tv (T.os 1 6 0 ((a1.map (Qd true)).length)) Y) (vc (tv (tI a2) Y) (vc (tv (tS a3) Y) vn)))) (LendL.cons (Lend.agg (LendL.cons (Lend.pl Y) (LendL.cons (Lend.os Y Y (okeStep.fzMap _ _)) ln))) (LendL.cons (Lend.os Y Y (okStr.fzMap _ _)) (lp Y (lp Y ln)))) (YE (n+0) a0 a1 a2 a3 (by first | exact g1.2 | exact Qj _ _ _ _ | (simp only [Qg];omega) | assumption | omega | (simp only [List.length_map];omega) | (simp only [List.length_map,List.length_append,List.length_cons,List.length_nil,List.length_replicate,List.length_set,List.length_drop,List.length_take,QY] at *;omega)) (by first | exact g1.2 | exact Qj _ _ _ _ | (simp only [Qg];omega) | assumption | omega | (simp only [List.length_map];omega) | (simp only [List.length_map,List.length_append,List.length_cons,List.length_nil,List.length_replicate,List.length_set,List.length_drop,List.length_take,QY] at *;omega))) Y) (aO (T.os 1 7 0 (((Qb a0 a1 a2 a3).map (Qd true)).length)) Y (nt (sq (sr (mO (T.os 1 7 0 (((Qb a0 a1 a2 a3).map (Qd true)).length)) Y (mO (T.os 1 3 0 (((Qb a0 a1 a2 a3).map (Qd true)).length)) Y (cO (cS (us:= [(rd 1 Qd (Qb a0 a1 a2 a3)),(rd 1 Qd (Qb a0 a1 a2 a3))]) (vc (tv (T.os 1 7 0 (((Qb a0 a1 a2 a3).map (Qd true)).length)) Y) (vc (tv (T.os 1 3 0 (((Qb a0 a1 a2 a3).map (Qd true)).length)) Y) vn)) (LendL.cons (Lend.os Y Y (okStr.fzMap _ _)) (LendL.cons (Lend.os Y Y (okStr.fzMap _ _)) ln)) (Q6 (n+9) (Qb a0 a1 a2 a3) (Qb a0 a1 a2 a3) (by first | exact g1.2 | exact Qj _ _ _ _ | (simp only [Qg];omega) | assumption | omega | (simp only [List.length_map];omega) | (simp only [List.length_map,List.length_append,List.length_cons,List.length_nil,List.length_replicate,List.length_set,List.length_drop,List.length_take,QY] at *;omega)) (by first | exact g1.2 | exact Qj _ _ _ _ | (simp only [Qg];omega) | assumption | omega | (simp only [List.length_map];omega) | (simp only [List.length_map,List.length_append,List.length_cons,List.length_nil,List.length_replicate,List.length_set,List.length_drop,List.length_take,QY] at *;omega))) Y Y) ?_)))))))))))
 refine fO (QZ (tv (tB (decide ((Qb a0 a1 a2 a3)=(Qb a0 a1 a2 a3)))) Y)) (nt ?_)
 refine cn ((Qb a0 a1 a2 a3)=(Qb a0 a1 a2 a3)) Y (fun fhc3=> ?_) fun fhc3=> ?_
 ·refine sr ?_
  refine fO (OF.assign (VEv.bool false)) (nt (rt (tr (vb (b':=false) Y ?_))))
  first | rfl | (exfalso;omega) | (exfalso;(simp only [Qg] at* <;>omega)) | (exfalso;simp only [Qg,not_true_eq_false] at *;done) | (exfalso;simp_all;done)
 first | (have hz3:=ZG fhc3) | skip
 refine sk (tn (sq (sq (VRun.draw (B:= [[],[],[1],[1,2,0],[0,2,1,3]]) (by kernel_rfl) (by kernel_rfl) (lD (OL.loadOn (us:= [(tI a0.Sense),(T.os 4 4 0 ((a0.Play.map (Qa true)).length))]) (tv (T.op 5 0) Y) Y Qbj Qae (lb Y) Y) Y Y (lD (OL.loadOn (us:=(Qi false a0)) (tv (T.op 0 0) Y) Y Qei Qel (lb Y) Y) Y Y (VRunD.quiet (bi:= [1]) Y VWant.always Y Y Y bn (OC.callF (r':=(T.agg [(tI a0.Sense),(T.os 4 8 0 ((a0.Play.map (Qa true)).length))])) (objs:= [(Obj.rows 4 (a0.Play.map (Qa true)))]) Y (vc (tv (T.agg (Qi false a0)) Y) vn) (LendL.cons (lg Zw) ln) (ZH (n+7) a0 (by first | exact g1.2 | exact Qj _ _ _ _ | (simp only [Qg];omega) | assumption | omega | (simp only [List.length_map];omega) | (simp only [List.length_map,List.length_append,List.length_cons,List.length_nil,List.length_replicate,List.length_set,List.length_drop,List.length_take,QY] at *;omega))) Y) (VRunD.quiet (bi:= [1,2,0]) Y VWant.always Y Y Y bn (cS (us:= [(T.agg (Qi false a0)),(T.agg (Qi false a0))]) (vc (tv (T.agg [(tI a0.Sense),(T.os 4 4 0 ((a0.Play.map (Qa true)).length))]) Y) (vc (tv (T.agg [(tI a0.Sense),(T.os 4 8 0 ((a0.Play.map (Qa true)).length))]) Y) vn)) (LendL.cons (Lend.agg (LendL.cons (Lend.pl Y) (LendL.cons (Lend.os Y Y (okeStep.fzMap _ _)) ln))) (LendL.cons (Lend.agg (LendL.cons (Lend.pl Y) (LendL.cons (Lend.os Y Y (okeStep.fzMap _ _)) ln))) ln)) (Qbv (n+7) a0 a0 (by first | exact g1.2 | exact Qj _ _ _ _ | (simp only [Qg];omega) | assumption | omega | (simp only [List.length_map];omega) | (simp only [List.length_map,List.length_append,List.length_cons,List.length_nil,List.length_replicate,List.length_set,List.length_drop,List.length_take,QY] at *;omega)) (by first | exact g1.2 | exact Qj _ _ _ _ | (simp only [Qg];omega) | assumption | omega | (simp only [List.length_map];omega) | (simp only [List.length_map,List.length_append,List.length_cons,List.length_nil,List.length_replicate,List.length_set,List.length_drop,List.length_take,QY] at *;omega))) Y Y) (fD (QZ (tv (tB (decide (a0=a0))) Y)) Y Y (VRunD.nil (tn ?_)))))))))))
 refine cn (a0=a0) Y (fun fhc4=> ?_) fun fhc4=> ?_
 ·refine sr ?_
  refine fO (OF.assign (VEv.bool false)) (nt (rt (tr (vb (b':=false) Y ?_))))
  first | rfl | (exfalso;omega) | (exfalso;(simp only [Qg] at* <;>omega)) | (exfalso;simp only [Qg,not_true_eq_false] at *;done) | (exfalso;simp_all;done)
 first | (have hz4:=ZG fhc4) | skip
 refine sk (tn (sq (sr (mO (T.os 1 6 0 ((a1.map (Qd true)).length)) Y (mO (rd 1 Qd a1) Y (cO (OC.callF (r':=(T.os 1 9 0 ((a1.map (Qd true)).length))) (objs:= [(Obj.rows 1 (a1.map (Qd true)))]) Y (vc (tv (rd 1 Qd a1) Y) vn) (Zj Y) (Q9 (n+9) a1 (by first | exact g1.2 | exact Qj _ _ _ _ | (simp only [Qg];omega) | assumption | omega | (simp only [List.length_map];omega) | (simp only [List.length_map,List.length_append,List.length_cons,List.length_nil,List.length_replicate,List.length_set,List.length_drop,List.length_take,QY] at *;omega))) Y) (cO (cS (us:= [(rd 1 Qd a1),(rd 1 Qd a1)]) (vc (tv (T.os 1 6 0 ((a1.map (Qd true)).length)) Y) (vc (tv (T.os 1 9 0 ((a1.map (Qd true)).length)) Y) vn)) (LendL.cons (Lend.os Y Y (okStr.fzMap _ _)) (LendL.cons (Lend.os Y Y (okStr.fzMap _ _)) ln)) (Q6 (n+9) a1 a1 (by first | exact g1.2 | exact Qj _ _ _ _ | (simp only [Qg];omega) | assumption | omega | (simp only [List.length_map];omega) | (simp only [List.length_map,List.length_append,List.length_cons,List.length_nil,List.length_replicate,List.length_set,List.length_drop,List.length_take,QY] at *;omega)) (by first | exact g1.2 | exact Qj _ _ _ _ | (simp only [Qg];omega) | assumption | omega | (simp only [List.length_map];omega) | (simp only [List.length_map,List.length_append,List.length_cons,List.length_nil,List.length_replicate,List.length_set,List.length_drop,List.length_take,QY] at *;omega))) Y Y) (fO (QZ (tv (tB (decide (a1=a1))) Y)) (nt ?_)))))))))
 refine cn (a1=a1) Y (fun fhc5=> ?_) fun fhc5=> ?_
 ·refine sr ?_
  refine fO (OF.assign (VEv.bool false)) (nt (rt (tr (vb (b':=false) Y ?_))))
  first | rfl | (exfalso;omega) | (exfalso;(simp only [Qg] at* <;>omega)) | (exfalso;simp only [Qg,not_true_eq_false] at *;done) | (exfalso;simp_all;done)
 first | (have hz5:=ZG fhc5) | skip
 refine sk (tn (sr (fO (OF.assign (VEv.int .i64 1)) (nt (sr (lO (OL.loadOn (us:= [(tI a0.Sense),(T.os 4 4 0 ((a0.Play.map (Qa true)).length))]) (tv (T.op 5 0) Y) Y Qbj Qae (lb Y) Y) (mO (tN 1) Y (cO (OC.callL (ts:= [(T.agg [(tI a0.Sense),(T.os 4 0 0 ((a0.Play.map (Qa true)).length))]),(tN 1)]) [4] (r:=(tN (1+4*a0.Play.length))) (L:= [(4,(a0.Play.map (Qa true)))]) [(4,((YF QH 4 1 a0.Play.length).map (Qa true)))] [(Obj.rows 4 (a0.Play.map (Qa true)))] rfl (vc (tv (T.agg [(tI a0.Sense),(T.os 4 4 0 ((a0.Play.map (Qa true)).length))]) Y) (vc (tv (tN 1) Y) vn)) (by decide) Y (And.intro (And.intro Y Y) (trivial)) (bc (okeStep.cleanMap _) bn) (bc (okeStep.cleanMap _) bn) Y Y (.int _ _) (QaA (n+7) a0 1 (by first | exact g1.2 | exact Qj _ _ _ _ | (simp only [Qg];omega) | assumption | omega | (simp only [List.length_map];omega) | (simp only [List.length_map,List.length_append,List.length_cons,List.length_nil,List.length_replicate,List.length_set,List.length_drop,List.length_take,QY] at *;omega)))) (aO (tN (1+4*a0.Play.length)) Y (nt (sr ?_)))))))))))
 refine mO (T.os 1 6 0 ((a1.map (Qd true)).length)) Y (mO (tN (1+4*a0.Play.length)) Y (cO (OC.callMut (rows:=(a1.map (Qd true))) (rows':=((YF Qn 1 (1+4*a0.Play.length) a1.length).map (Qd true))) Y (vc (tv (T.os 1 6 0 ((a1.map (Qd true)).length)) Y) (vc (tv (tN (1+4*a0.Play.length)) Y) vn)) Y Y (bc Y bn) (YP (fun _=>rfl) _) (YP (fun _=>rfl) _) (ZY (n+8) a1 (1+4*a0.Play.length) (by first | exact g1.2 | exact Qj _ _ _ _ | (simp only [Qg];omega) | assumption | omega))) (aO (tN ((1+4*a0.Play.length)+1*a1.length)) Y (nt (sq (sr (mO (tN ((1+4*a0.Play.length)+1*a1.length)) Y (fO (B.lss (c:=(decide ((1+4*a0.Play.length)+1*a1.length<0))) (tv (tN ((1+4*a0.Play.length)+1*a1.length)) Y) (VEv.int .i64 0) (by first | exact g1.2 | exact Qj _ _ _ _ | (simp only [Qg];omega) | (exact Yv (by omega)))) (mO (tB (decide ((1+4*a0.Play.length)+1*a1.length<0))) Y ?_)))))))))
 refine gw ((1+4*a0.Play.length)+1*a1.length<0) (fun fhg69_1=> ?_) fun fhg69_1=> ?_
 ·refine QN 4 2 false 69 (dy fhg69_1) Y Y Y ?_
  refine fO (OF.pickT (VEv.tmpB Y (dy fhg69_1)) (VEv.bool true)) (nt (ct Y (sr (fO (OF.assign (VEv.bool false)) (nt (rt (tr (vb (b':=false) Y ?_))))))))
  first | rfl | (exfalso;omega) | (exfalso;(simp only [Qg] at* <;>omega)) | (exfalso;simp only [Qg,not_true_eq_false] at *;done) | (exfalso;simp_all;done)
 refine gF (dz fhg69_1) Y Y (OF.move (tv (T.os 1 7 0 (((Qb a0 a1 a2 a3).map (Qd true)).length)) Y)) (gF (dz fhg69_1) Y Y (OF.move (tv (T.os 1 3 0 (((Qb a0 a1 a2 a3).map (Qd true)).length)) Y)) (VRunO.chain (VWant.on Y Y (dz fhg69_1)) (cS (us:= [(rd 1 Qd (Qb a0 a1 a2 a3)),(rd 1 Qd (Qb a0 a1 a2 a3))]) (vc (tv (T.os 1 7 0 (((Qb a0 a1 a2 a3).map (Qd true)).length)) Y) (vc (tv (T.os 1 3 0 (((Qb a0 a1 a2 a3).map (Qd true)).length)) Y) vn)) (LendL.cons (Lend.os Y Y (okStr.fzMap _ _)) (LendL.cons (Lend.os Y Y (okStr.fzMap _ _)) ln)) (Q6 (n+9) (Qb a0 a1 a2 a3) (Qb a0 a1 a2 a3) (by first | exact g1.2 | exact Qj _ _ _ _ | (simp only [Qg];omega) | assumption | omega | (simp only [List.length_map];omega) | (simp only [List.length_map,List.length_append,List.length_cons,List.length_nil,List.length_replicate,List.length_set,List.length_drop,List.length_take,QY] at *;omega)) (by first | exact g1.2 | exact Qj _ _ _ _ | (simp only [Qg];omega) | assumption | omega | (simp only [List.length_map];omega) | (simp only [List.length_map,List.length_append,List.length_cons,List.length_nil,List.length_replicate,List.length_set,List.length_drop,List.length_take,QY] at *;omega))) Y Y) (gF (dz fhg69_1) Y Y (QZ (tv (tB (decide ((Qb a0 a1 a2 a3)=(Qb a0 a1 a2 a3)))) Y)) (fO (OF.pickF (VEv.tmpB Y (dz fhg69_1)) (tv (tB (!(decide ((Qb a0 a1 a2 a3)=(Qb a0 a1 a2 a3))))) Y)) (nt (cg (nz fhc3) Y (sk (tn (sr (fO (OF.assign (VEv.int .i64 1)) (nt ?_)))))))))))
 refine sr (mO (T.os 1 7 0 (((Qb a0 a1 a2 a3).map (Qd true)).length)) Y (mO (tN 1) Y (cO (OC.callMut (rows:=((Qb a0 a1 a2 a3).map (Qd true))) (rows':=((YF Qn 1 1 (Qb a0 a1 a2 a3).length).map (Qd true))) Y (vc (tv (T.os 1 7 0 (((Qb a0 a1 a2 a3).map (Qd true)).length)) Y) (vc (tv (tN 1) Y) vn)) Y Y (bc Y bn) (YP (fun _=>rfl) _) (YP (fun _=>rfl) _) (ZY (n+8) (Qb a0 a1 a2 a3) 1 (by first | exact g1.2 | exact Qj _ _ _ _ | (simp only [Qg];omega) | assumption | omega))) (aO (tN (1+1*(Qb a0 a1 a2 a3).length)) Y (nt (sr (fO (OF.assign (VEv.int .i64 1)) (nt (sr (mO (T.os 1 7 0 (((Qb a0 a1 a2 a3).map (Qd true)).length)) Y (mO (tN 1) Y ?_)))))))))))
 refine cO (cS (us:= [(rd 1 Qd (YF Qn 1 1 (Qb a0 a1 a2 a3).length)),(tN 1)]) (vc (tv (T.os 1 7 0 (((Qb a0 a1 a2 a3).map (Qd true)).length)) Y) (vc (tv (tN 1) Y) vn)) (LendL.cons (Lend.os Y (by simp only [List.length_map,Qg,List.length_set]) (okStr.fzMap _ _)) (lp Y ln)) (Z5 (n+8) (YF Qn 1 1 (Qb a0 a1 a2 a3).length) 1 (by first | exact g1.2 | exact Qj _ _ _ _ | (simp only [Qg];omega) | assumption | omega | (simp only [List.length_map];omega) | (simp only [List.length_map,List.length_append,List.length_cons,List.length_nil,List.length_replicate,List.length_set,List.length_drop,List.length_take,QY] at *;omega)) (by first | exact g1.2 | exact Qj _ _ _ _ | (simp only [Qg];omega) | assumption | omega | (simp only [List.length_map];omega) | (simp only [List.length_map,List.length_append,List.length_cons,List.length_nil,List.length_replicate,List.length_set,List.length_drop,List.length_take,QY] at *;omega))) Y Y) (aO (tN (1+1*(YF Qn 1 1 (Qb a0 a1 a2 a3).length).length)) Y (nt (sq (sr (mO (tN (1+1*(YF Qn 1 1 (Qb a0 a1 a2 a3).length).length)) Y (fO (B.lss (c:=(decide (1+1*(YF Qn 1 1 (Qb a0 a1 a2 a3).length).length<0))) (tv (tN (1+1*(YF Qn 1 1 (Qb a0 a1 a2 a3).length).length)) Y) (VEv.int .i64 0) (by first | exact g1.2 | exact Qj _ _ _ _ | (simp only [Qg];omega) | (exact Yv (by omega)))) (nt ?_)))))))
 refine cd (1+1*(YF Qn 1 1 (Qb a0 a1 a2 a3).length).length<0) Y (fun fhc7=> ?_) fun fhc7=> ?_
 ·refine sr ?_
  refine fO (OF.assign (VEv.bool false)) (nt (rt (tr (vb (b':=false) Y ?_))))
  first | rfl | (exfalso;omega) | (exfalso;(simp only [Qg] at* <;>omega)) | (exfalso;simp only [Qg,not_true_eq_false] at *;done) | (exfalso;simp_all;done)
 first | (have hz7:=ZG fhc7) | skip
 refine sk (tn (sq (sr (mO (tN (1+1*(YF Qn 1 1 (Qb a0 a1 a2 a3).length).length)) Y (mO (tN (1+1*(Qb a0 a1 a2 a3).length)) Y (fO (Qe4 (tv (tN (1+1*(YF Qn 1 1 (Qb a0 a1 a2 a3).length).length)) Y) (tv (tN (1+1*(Qb a0 a1 a2 a3).length)) Y)) (nt ?_)))))))
 refine cn (1+1*(YF Qn 1 1 (Qb a0 a1 a2 a3).length).length=1+1*(Qb a0 a1 a2 a3).length) Y (fun fhc8=> ?_) fun fhc8=> ?_
 ·refine sr ?_
  refine fO (OF.assign (VEv.bool false)) (nt (rt (tr (vb (b':=false) Y ?_))))
  first | rfl | (exfalso;omega) | (exfalso;(simp only [Qg] at* <;>omega)) | (exfalso;simp only [Qg,not_true_eq_false] at *;done) | (exfalso;simp_all;done)
 first | (have hz8:=ZG fhc8) | skip
 refine sk (tn (sr (lO (OL.loadOn (us:=(Qi false a0)) (tv (T.op 0 0) Y) Y Qei Qel (lb Y) Y) (cO (OC.callF (r':=(T.agg [(tI a0.Sense),(T.os 4 10 0 ((a0.Play.map (Qa true)).length))])) (objs:= [(Obj.rows 4 (a0.Play.map (Qa true)))]) Y (vc (tv (T.agg (Qi false a0)) Y) vn) (LendL.cons (lg Zw) ln) (ZH (n+7) a0 (by first | exact g1.2 | exact Qj _ _ _ _ | (simp only [Qg];omega) | assumption | omega | (simp only [List.length_map];omega) | (simp only [List.length_map,List.length_append,List.length_cons,List.length_nil,List.length_replicate,List.length_set,List.length_drop,List.length_take,QY] at *;omega))) Y) (mO (rd 1 Qd a1) Y (cO (OC.callF (r':=(T.os 1 11 0 ((a1.map (Qd true)).length))) (objs:= [(Obj.rows 1 (a1.map (Qd true)))]) Y (vc (tv (rd 1 Qd a1) Y) vn) (Zj Y) (Q9 (n+9) a1 (by first | exact g1.2 | exact Qj _ _ _ _ | (simp only [Qg];omega) | assumption | omega | (simp only [List.length_map];omega) | (simp only [List.length_map,List.length_append,List.length_cons,List.length_nil,List.length_replicate,List.length_set,List.length_drop,List.length_take,QY] at *;omega))) Y) (mO (tI a2) Y (mO (tS a3) Y (cO (OC.callF (us:= [(T.agg (Qi false a0)),(rd 1 Qd a1),(tI a2),(tS a3)]) (r':=(T.os 1 12 0 (((Qb a0 a1 a2 a3).map (Qd true)).length))) (objs:= [(Obj.rows 1 ((Qb a0 a1 a2 a3).map (Qd true)))]) Y (vc (tv (T.agg [(tI a0.Sense),(T.os 4 10 0 ((a0.Play.map (Qa true)).length))]) Y) (vc (tv (T.os 1 11 0 ((a1.map (Qd true)).length)) Y) (vc (tv (tI a2) Y) (vc (tv (tS a3) Y) vn)))) (LendL.cons (Lend.agg (LendL.cons (Lend.pl Y) (LendL.cons (Lend.os Y Y (okeStep.fzMap _ _)) ln))) (LendL.cons (Lend.os Y Y (okStr.fzMap _ _)) (lp Y (lp Y ln)))) (YE (n+0) a0 a1 a2 a3 (by first | exact g1.2 | exact Qj _ _ _ _ | (simp only [Qg];omega) | assumption | omega | (simp only [List.length_map];omega) | (simp only [List.length_map,List.length_append,List.length_cons,List.length_nil,List.length_replicate,List.length_set,List.length_drop,List.length_take,QY] at *;omega)) (by first | exact g1.2 | exact Qj _ _ _ _ | (simp only [Qg];omega) | assumption | omega | (simp only [List.length_map];omega) | (simp only [List.length_map,List.length_append,List.length_cons,List.length_nil,List.length_replicate,List.length_set,List.length_drop,List.length_take,QY] at *;omega))) Y) (aO (T.os 1 12 0 (((Qb a0 a1 a2 a3).map (Qd true)).length)) Y (nt ?_)))))))))))
 refine sq (sr (mO (T.os 1 12 0 (((Qb a0 a1 a2 a3).map (Qd true)).length)) Y (mO (T.os 1 3 0 (((Qb a0 a1 a2 a3).map (Qd true)).length)) Y (cO (cS (us:= [(rd 1 Qd (Qb a0 a1 a2 a3)),(rd 1 Qd (Qb a0 a1 a2 a3))]) (vc (tv (T.os 1 12 0 (((Qb a0 a1 a2 a3).map (Qd true)).length)) Y) (vc (tv (T.os 1 3 0 (((Qb a0 a1 a2 a3).map (Qd true)).length)) Y) vn)) (LendL.cons (Lend.os Y Y (okStr.fzMap _ _)) (LendL.cons (Lend.os Y Y (okStr.fzMap _ _)) ln)) (Q6 (n+9) (Qb a0 a1 a2 a3) (Qb a0 a1 a2 a3) (by first | exact g1.2 | exact Qj _ _ _ _ | (simp only [Qg];omega) | assumption | omega | (simp only [List.length_map];omega) | (simp only [List.length_map,List.length_append,List.length_cons,List.length_nil,List.length_replicate,List.length_set,List.length_drop,List.length_take,QY] at *;omega)) (by first | exact g1.2 | exact Qj _ _ _ _ | (simp only [Qg];omega) | assumption | omega | (simp only [List.length_map];omega) | (simp only [List.length_map,List.length_append,List.length_cons,List.length_nil,List.length_replicate,List.length_set,List.length_drop,List.length_take,QY] at *;omega))) Y Y) (fO (QZ (tv (tB (decide ((Qb a0 a1 a2 a3)=(Qb a0 a1 a2 a3)))) Y)) (nt (cg (nz fhc3) Y (sk (tn (sr (fO (OF.assign (VEv.int .i64 1)) ?_)))))))))))
 refine nt (sr (mO (T.os 1 7 0 (((Qb a0 a1 a2 a3).map (Qd true)).length)) Y (mO (tN 1) Y (cO (cS (us:= [(rd 1 Qd (YF Qn 1 1 (Qb a0 a1 a2 a3).length)),(tN 1)]) (vc (tv (T.os 1 7 0 (((Qb a0 a1 a2 a3).map (Qd true)).length)) Y) (vc (tv (tN 1) Y) vn)) (LendL.cons (Lend.os Y (by simp only [List.length_map,Qg,List.length_set]) (okStr.fzMap _ _)) (lp Y ln)) (Z5 (n+8) (YF Qn 1 1 (Qb a0 a1 a2 a3).length) 1 (by first | exact g1.2 | exact Qj _ _ _ _ | (simp only [Qg];omega) | assumption | omega | (simp only [List.length_map];omega) | (simp only [List.length_map,List.length_append,List.length_cons,List.length_nil,List.length_replicate,List.length_set,List.length_drop,List.length_take,QY] at *;omega)) (by first | exact g1.2 | exact Qj _ _ _ _ | (simp only [Qg];omega) | assumption | omega | (simp only [List.length_map];omega) | (simp only [List.length_map,List.length_append,List.length_cons,List.length_nil,List.length_replicate,List.length_set,List.length_drop,List.length_take,QY] at *;omega))) Y Y) (aO (tN (1+1*(YF Qn 1 1 (Qb a0 a1 a2 a3).length).length)) Y (nt (sq (sr (mO (tN (1+1*(YF Qn 1 1 (Qb a0 a1 a2 a3).length).length)) Y (fO (B.lss (c:=(decide (1+1*(YF Qn 1 1 (Qb a0 a1 a2 a3).length).length<0))) (tv (tN (1+1*(YF Qn 1 1 (Qb a0 a1 a2 a3).length).length)) Y) (VEv.int .i64 0) (by first | exact g1.2 | exact Qj _ _ _ _ | (simp only [Qg];omega) | (exact Yv (by omega)))) (nt ?_)))))))))))
 refine cg (dz fhc7) Y (sk (tn (sq (sr (mO (tN (1+1*(YF Qn 1 1 (Qb a0 a1 a2 a3).length).length)) Y (mO (tN (1+1*(Qb a0 a1 a2 a3).length)) Y (fO (Qe4 (tv (tN (1+1*(YF Qn 1 1 (Qb a0 a1 a2 a3).length).length)) Y) (tv (tN (1+1*(Qb a0 a1 a2 a3).length)) Y)) (nt (cg (nz fhc8) Y (sk (tn ?_)))))))))))
 refine sr (fO (OF.assign (VEv.bool true)) (nt (rt ?_)))
 exact vb Y Y
theorem Qdm (a:Option Addr) (n c:Nat):(JZ (.slice a n c)).cells.toList= [JZ (.slice a n c)]:=by cases a<;>rfl
theorem Qdt {α:Type} {d:AK α} {e:Bool→α→List T} {x:α} {t:T} {h:AH} {v:Value} (hk:RK d e) (he:e false x= [t]) (hr:d.R h x [v]):R h t v:=by
 have h1:=hk h x _ hr
 rw [he] at h1
 exact h1.tail.1
theorem QeT {α:Type} {d:AK α} {e:Bool→α→List T} {x:α} {t:T} {h:AH} {a:Option Addr} {n c:Nat} (hk:RK d e) (he:e false x= [t]) (hr:d.R h x (JZ (.slice a n c)).cells.toList):R h t (JZ (.slice a n c)):=by
 rw [Qdm] at hr
 exact Qdt hk he hr
theorem Qfz {α:Type} {d:AK α} {e:Bool→α→List T} {x:α} {h:AH} {cs:Array Value} (hk:RK d e) (hr:d.R h x (JZ (.agg cs)).cells.toList):R h (.agg (e false x)) (JZ (.agg cs)):=by
 have h1:=hk h x _ hr
 refine .agg _ _ (by simpa [Value.cells,JZ] using h1.1) (fun i hi=> ?_)
 have:=h1.2 i hi
 simpa [Value.cells,JZ,Array.getD_eq_getD_getElem?,List.getD_eq_getElem?_getD] using this
theorem Pure.bool {call:Qs} {f:FuncId} {ts:List T} {b:Bool} (hp:Pure call f ts (.bool b)) {h:AH} {vs:List Value} (hfr:Fr 1 h) (hr:RL h ts vs):CallS call f vs h 1 (fun v _=>v= .bool b):=by
 refine (hp h 1 vs hfr hr).mono ?_
 rintro v h' ⟨_,N,hs,_⟩
 cases hs with
 | fz hr=>cases hr;rfl
open Go Go.RowKit Go.Shelf Go.Proofs
def laysRepl_ren : Go.Shelf.Ren:=⟨fun | 155=>63 | 154=>83 | 138=>105 | 165=>106 | 143=>107 | 166=>108 | 197=>109 | 169=>110 | 195=>125 | 218=>126 | 240=>127 | 241=>128 | 219=>129 | 260=>130 | 276=>136 | 277=>137 | 217=>138 | 225=>139 | 224=>140 | 267=>141 | 266=>144 | 314=>145 | n=>n,fun | 9=>9 | 3=>3 | 4=>4 | 72=>116 | 0=>0 | 76=>120 | 105=>122 | 21=>21 | 5=>5 | 70=>114 | 20=>20 | 37=>88 | 75=>119 | 127=>135 | 164=>138 | 46=>142 | 119=>143 | 139=>146 | 138=>145 | 146=>150 | 51=>149 | 80=>124 | n=>n,fun | 1=>0 | 3=>1 | 4=>2 | n=>n⟩
theorem laysRepl : Go.Proofs.LaysM.n155 Tryd.prog laysRepl_ren where
 mixed:=by kernel_rfl
 f138:=Tryd.func105.trans (congrArg some (by kernel_rfl))
 f143:=Tryd.func107.trans (congrArg some (by kernel_rfl))
 f154:=Tryd.func83.trans (congrArg some (by kernel_rfl))
 f155:=Tryd.func63.trans (congrArg some (by kernel_rfl))
 f165:=Tryd.func106.trans (congrArg some (by kernel_rfl))
 f166:=Tryd.func108.trans (congrArg some (by kernel_rfl))
 f169:=Tryd.func110.trans (congrArg some (by kernel_rfl))
 f195:=Tryd.func125.trans (congrArg some (by kernel_rfl))
 f197:=Tryd.func109.trans (congrArg some (by kernel_rfl))
 f217:=Tryd.func138.trans (congrArg some (by kernel_rfl))
 f218:=Tryd.func126.trans (congrArg some (by kernel_rfl))
 f219:=Tryd.func129.trans (congrArg some (by kernel_rfl))
 f224:=Tryd.func140.trans (congrArg some (by kernel_rfl))
 f225:=Tryd.func139.trans (congrArg some (by kernel_rfl))
 f240:=Tryd.func127.trans (congrArg some (by kernel_rfl))
 f241:=Tryd.func128.trans (congrArg some (by kernel_rfl))
 f260:=Tryd.func130.trans (congrArg some (by kernel_rfl))
 f266:=Tryd.func144.trans (congrArg some (by kernel_rfl))
 f267:=Tryd.func141.trans (congrArg some (by kernel_rfl))
 f276:=Tryd.func136.trans (congrArg some (by kernel_rfl))
 f277:=Tryd.func137.trans (congrArg some (by kernel_rfl))
 f314:=Tryd.func145.trans (congrArg some (by kernel_rfl))
 t0:=Tryd.underlying0
 a0:=Tryd.isAgg0
 z0:=Tryd.sizeOf0
 v0:=Tryd.zeroValue0
 t3:=Tryd.underlying3
 a3:=Tryd.isAgg3
 z3:=Tryd.sizeOf3
 v3:=Tryd.zeroValue3
 t4:=Tryd.underlying4
 a4:=Tryd.isAgg4
 z4:=Tryd.sizeOf4
 v4:=Tryd.zeroValue4
 t5:=Tryd.underlying5
 a5:=Tryd.isAgg5
 z5:=Tryd.sizeOf5
 v5:=Tryd.zeroValue5
 t9:=Tryd.underlying9
 a9:=Tryd.isAgg9
 z9:=Tryd.sizeOf9
 v9:=Tryd.zeroValue9
 t20:=Tryd.underlying20
 a20:=Tryd.isAgg20
 z20:=Tryd.sizeOf20
 v20:=Tryd.zeroValue20
 t21:=Tryd.underlying21
 a21:=Tryd.isAgg21
 z21:=Tryd.sizeOf21
 v21:=Tryd.zeroValue21
 t37:=Tryd.underlying88
 a37:=Tryd.isAgg88
 z37:=Tryd.sizeOf88
 v37:=Tryd.zeroValue88
 t46:=Tryd.underlying142
 a46:=Tryd.isAgg142
 z46:=Tryd.sizeOf142
 v46:=Tryd.zeroValue142
 t51:=Tryd.underlying149
 a51:=Tryd.isAgg149
 z51:=Tryd.sizeOf149
 v51:=Tryd.zeroValue149
 t70:=Tryd.underlying114
 a70:=Tryd.isAgg114
 z70:=Tryd.sizeOf114
 v70:=Tryd.zeroValue114
 t72:=Tryd.underlying116
 a72:=Tryd.isAgg116
 z72:=Tryd.sizeOf116
 v72:=Tryd.zeroValue116
 t75:=Tryd.underlying119
 a75:=Tryd.isAgg119
 z75:=Tryd.sizeOf119
 v75:=Tryd.zeroValue119
 t76:=Tryd.underlying120
 a76:=Tryd.isAgg120
 z76:=Tryd.sizeOf120
 v76:=Tryd.zeroValue120
 t105:=Tryd.underlying122
 a105:=Tryd.isAgg122
 z105:=Tryd.sizeOf122
 v105:=Tryd.zeroValue122
 t119:=Tryd.underlying143
 a119:=Tryd.isAgg143
 z119:=Tryd.sizeOf143
 t127:=Tryd.underlying135
 a127:=Tryd.isAgg135
 z127:=Tryd.sizeOf135
 v127:=Tryd.zeroValue135
 t138:=Tryd.underlying145
 a138:=Tryd.isAgg145
 z138:=Tryd.sizeOf145
 v138:=Tryd.zeroValue145
 t139:=Tryd.underlying146
 a139:=Tryd.isAgg146
 z139:=Tryd.sizeOf146
 v139:=Tryd.zeroValue146
 t146:=Tryd.underlying150
 a146:=Tryd.isAgg150
 z146:=Tryd.sizeOf150
 v146:=Tryd.zeroValue150
 t164:=Tryd.underlying138
 a164:=Tryd.isAgg138
 z164:=Tryd.sizeOf138
 v164:=Tryd.zeroValue138
 g1:=by kernel_rfl
 g3:=by kernel_rfl
 g4:=by kernel_rfl
 t80:=Tryd.underlying124
 a80:=Tryd.isAgg124
 z80:=Tryd.sizeOf124
 v80:=Tryd.zeroValue124
 i0:=by kernel_rfl
 i3:=by kernel_rfl
 i4:=by kernel_rfl
 i5:=by kernel_rfl
 i9:=by kernel_rfl
 i20:=by kernel_rfl
 i21:=by kernel_rfl
 i37:=by kernel_rfl
 i46:=by kernel_rfl
 i51:=by kernel_rfl
 i70:=by kernel_rfl
 i72:=by kernel_rfl
 i75:=by kernel_rfl
 i76:=by kernel_rfl
 i80:=by kernel_rfl
 i105:=by kernel_rfl
 i127:=by kernel_rfl
 i138:=by kernel_rfl
 i139:=by kernel_rfl
 i146:=by kernel_rfl
 i164:=by kernel_rfl
 m1:=by kernel_rfl
 s1_3:=fun w h=>Go.Proofs.cell_of_shapedOpen_int (zero:= #[.int .i64 0]) (t:=3) h (of_decide_eq_true (by kernel_rfl)) (by kernel_rfl) Y (by kernel_rfl) (by kernel_rfl) Tryd.underlying3
 m3:=by kernel_rfl
 m4:=by kernel_rfl
theorem QdO : Builder.Extra Tryd.prog laysRepl_ren where
 sizeBuilder:=by kernel_rfl
 liesBuilder:=by kernel_rfl
 t5:=laysRepl.t5
 a5:=laysRepl.a5
 z5:=laysRepl.z5
 v5:=laysRepl.v5
 infoByte:=by kernel_rfl
 cellsByte:=by kernel_rfl
 sizeByte:=by kernel_rfl
 neB5:=by decide
theorem QfG {W:World} (h:W.ShapedOpen Tryd.prog):GlobOk W.heap.size W:=by
 intro g hg
 obtain rfl:=List.mem_singleton.1 hg
 obtain ⟨m,hm⟩:=laysRepl.s1_3 W h
 refine ⟨?_,m,hm⟩
 unfold World.cell? at hm
 split at hm
 ·rename_i e;exact (Array.getElem?_eq_some_iff.1 e).1
 ·cases hm
theorem Qf3 : Qdf Tryd.prog:=by
 intro f hf
 by_cases h0:f=63
 ·subst h0
  exact QcC (g:=laysRepl_ren.g 1) (by decide) ⟨fun s o n m w h1 h2 h3 h4=>Any.strings_ReplaceAll laysRepl.ton155 QdO s o n m w h1 h2 h3 h4⟩
 exfalso
 simp [Jm,h0] at hf
end Go.Proofs.YthifchndolccgaaDoor.AE
