/- A part of what the row of FnHints uses. Conditions: as each theorem states. -/
import Derived.Test.YtcglnehpapgfpaaDoorZFnHintsc
namespace Go.Proofs.YtcglnehpapgfpaaDoor.AE
open Go Go.RowKit
set_option linter.unusedVariables false
set_option linter.unusedSimpArgs false
set_option maxRecDepth 20000
set_option maxHeartbeats 2000000
noncomputable section
def Yf (k:Int):ByteArray:=if 1≤k∧k≤9 then (([⟨#[]⟩,⟨#[119,111,114,100]⟩,⟨#[98,97,99,107]⟩,⟨#[109,105,120]⟩,⟨#[106,111,105,110]⟩,⟨#[105,110]⟩,⟨#[104,101,97,100]⟩,⟨#[110,111,104,101,97,100]⟩,⟨#[110,111,116,97,105,108]⟩,⟨#[104,105,100,100,101,110]⟩]:List ByteArray)[Int.toNat k]?).getD ⟨#[]⟩ else ⟨#[]⟩
theorem QdA {k:Int} {x:ByteArray} (h:1≤k∧k≤9) (hx:([⟨#[]⟩,⟨#[119,111,114,100]⟩,⟨#[98,97,99,107]⟩,⟨#[109,105,120]⟩,⟨#[106,111,105,110]⟩,⟨#[105,110]⟩,⟨#[104,101,97,100]⟩,⟨#[110,111,104,101,97,100]⟩,⟨#[110,111,116,97,105,108]⟩,⟨#[104,105,100,100,101,110]⟩]:List ByteArray)[Int.toNat k]? =some x):x=Yf k:=by
 unfold Yf
 rw [if_pos h,hx]
 rfl
theorem QeL {k:Int} {x:ByteArray} (h:0≤k∧k<10) (hx:([⟨#[]⟩,⟨#[119,111,114,100]⟩,⟨#[98,97,99,107]⟩,⟨#[109,105,120]⟩,⟨#[106,111,105,110]⟩,⟨#[105,110]⟩,⟨#[104,101,97,100]⟩,⟨#[110,111,104,101,97,100]⟩,⟨#[110,111,116,97,105,108]⟩,⟨#[104,105,100,100,101,110]⟩]:List ByteArray)[Int.toNat k]? =some x):x=Yf k:=by
 by_cases h0:k=0
 ·subst h0
  have:=Option.some.inj hx
  rw [← this]
  unfold Yf
  rw [if_neg (by omega)]
 ·exact QdA (by omega) hx
def ZP (n:Int):ByteArray:=⟨#[UInt8.ofNat (48+Int.toNat n)]⟩
def QI (w:ByteArray):ByteArray:=if Qr w then w.extract 0 1 else ⟨#[]⟩
end
theorem Qa8 (n:Nat) (k:Int):Pure (Qm Tryd.prog (n+2)) 83 [(tI k)] (tS (Yf k)):=by
 refine Pure.intro (rs:= [ResultVar.tmp 2]) Tryd.func83 Y Y Y (E0:= [(0,(tI k))]) Y ?_
 obtain ⟨hlim,hmx,hmax⟩:=QG
 have hl10:([⟨#[]⟩,⟨#[119,111,114,100]⟩,⟨#[98,97,99,107]⟩,⟨#[109,105,120]⟩,⟨#[106,111,105,110]⟩,⟨#[105,110]⟩,⟨#[104,101,97,100]⟩,⟨#[110,111,104,101,97,100]⟩,⟨#[110,111,116,97,105,108]⟩,⟨#[104,105,100,100,101,110]⟩]:List ByteArray).length=10:=rfl
 refine sr (fO (OF.assign (VEv.str (⟨#[]⟩:ByteArray))) (nt (sq (sr (mO (tI k) Y (cO (cS (vc (tv (tI k) Y) (vc (VEv.int .i64 1) (vc (VEv.int .i64 9) vn))) (QR Y) (QS (n+0) k 1 9) Y Y) (fO (QZ (tv (tB (decide (1≤k∧k≤9))) Y)) (nt ?_))))))))
 refine cn (1≤k∧k≤9) Y (fun fhc0=> ?_) fun fhc0=> ?_
 ·refine sr ?_
  refine fO (OF.assign (VEv.str (⟨#[]⟩:ByteArray))) (nt (rt (tr ?_)))
  refine vfin.eq (r':=(tS (⟨#[]⟩:ByteArray))) ?_ (vfin.r (VRes.tmp (t:=(tS (⟨#[]⟩:ByteArray))) Y VRes.nil) (Give.str _))
  refine congrArg T.str ?_
  exact (if_neg fhc0).symm
 refine sk (tn (sr (kO (OM.buildSlice (l:= [(tS (⟨#[]⟩:ByteArray)),(tS (⟨#[119,111,114,100]⟩:ByteArray)),(tS (⟨#[98,97,99,107]⟩:ByteArray)),(tS (⟨#[109,105,120]⟩:ByteArray)),(tS (⟨#[106,111,105,110]⟩:ByteArray)),(tS (⟨#[105,110]⟩:ByteArray)),(tS (⟨#[104,101,97,100]⟩:ByteArray)),(tS (⟨#[110,111,104,101,97,100]⟩:ByteArray)),(tS (⟨#[110,111,116,97,105,108]⟩:ByteArray)),(tS (⟨#[104,105,100,100,101,110]⟩:ByteArray))]) (VEvp.cons (VEv.str (⟨#[]⟩:ByteArray)) (VEvp.cons (VEv.str (⟨#[119,111,114,100]⟩:ByteArray)) (VEvp.cons (VEv.str (⟨#[98,97,99,107]⟩:ByteArray)) (VEvp.cons (VEv.str (⟨#[109,105,120]⟩:ByteArray)) (VEvp.cons (VEv.str (⟨#[106,111,105,110]⟩:ByteArray)) (VEvp.cons (VEv.str (⟨#[105,110]⟩:ByteArray)) (VEvp.cons (VEv.str (⟨#[104,101,97,100]⟩:ByteArray)) (VEvp.cons (VEv.str (⟨#[110,111,104,101,97,100]⟩:ByteArray)) (VEvp.cons (VEv.str (⟨#[110,111,116,97,105,108]⟩:ByteArray)) (VEvp.cons (VEv.str (⟨#[104,105,100,100,101,110]⟩:ByteArray)) VEvp.nil)))))))))) Y (by decide) (bc (nofun) (bc (nofun) (bc (nofun) (bc (nofun) (bc (nofun) (bc (nofun) (bc (nofun) (bc (nofun) (bc (nofun) (bc (nofun) bn)))))))))) (bc ((bc (Y) bn)) (bc ((bc (Y) bn)) (bc ((bc (Y) bn)) (bc ((bc (Y) bn)) (bc ((bc (Y) bn)) (bc ((bc (Y) bn)) (bc ((bc (Y) bn)) (bc ((bc (Y) bn)) (bc ((bc (Y) bn)) (bc ((bc (Y) bn)) bn)))))))))) (bc (Y) (bc (Y) (bc (Y) (bc (Y) (bc (Y) (bc (Y) (bc (Y) (bc (Y) (bc (Y) (bc (Y) bn)))))))))) Y1 zo9 (by kernel_rfl) Y (by rw [Yx];decide) Yx (Nat.le_of_ble_eq_true Y)) (mO (tI k) Y ?_))))
 obtain ⟨x1,hx1⟩:∃x,([(⟨#[]⟩:ByteArray),(⟨#[119,111,114,100]⟩:ByteArray),(⟨#[98,97,99,107]⟩:ByteArray),(⟨#[109,105,120]⟩:ByteArray),(⟨#[106,111,105,110]⟩:ByteArray),(⟨#[105,110]⟩:ByteArray),(⟨#[104,101,97,100]⟩:ByteArray),(⟨#[110,111,104,101,97,100]⟩:ByteArray),(⟨#[110,111,116,97,105,108]⟩:ByteArray),(⟨#[104,105,100,100,101,110]⟩:ByteArray)]:List ByteArray)[(Int.toNat k)]? =some x:=⟨_,List.getElem?_eq_getElem (by omega)⟩
 refine fO (B.indexAddrO (i:=(Int.toNat k)) (tv (T.os 1 0 0 10) Y) (tv (tI k) Y) (by omega) (by first | omega | (simp only [List.length_map];omega) | (simp only [List.length_map,List.length_append,List.length_cons,List.length_nil,List.length_replicate,List.length_set,List.length_drop,List.length_take,Zb] at *;omega)) Y1 Yx if9) (lO (OL.loadP1 (t:=(tS x1)) (row:=(Qf true x1)) (tv (T.orp 1 0 (Int.toNat k) 0) Y) Y (Qs (Qf true) hx1) Y Y st9) (aO (tS x1) Y (nt (rt ?_))))
 refine vfin.eq (r':=(tS x1)) ?_ (vfin.r (VRes.tmp (t:=(tS x1)) Y VRes.nil) (Give.str _))
 refine congrArg T.str ?_
 exact QdA fhc0 hx1
theorem Qbe (n:Nat) (k:Int):Pure (Qm Tryd.prog (n+2)) 32 [(tI k)] (tS (Yf k)):=by
 refine Pure.intro (rs:= [ResultVar.tmp 2]) Tryd.func32 Y Y Y (E0:= [(0,(tI k))]) Y ?_
 obtain ⟨hlim,hmx,hmax⟩:=QG
 have hl10:([⟨#[]⟩,⟨#[119,111,114,100]⟩,⟨#[98,97,99,107]⟩,⟨#[109,105,120]⟩,⟨#[106,111,105,110]⟩,⟨#[105,110]⟩,⟨#[104,101,97,100]⟩,⟨#[110,111,104,101,97,100]⟩,⟨#[110,111,116,97,105,108]⟩,⟨#[104,105,100,100,101,110]⟩]:List ByteArray).length=10:=rfl
 refine sr (fO (OF.assign (VEv.str (⟨#[]⟩:ByteArray))) (nt (sr (kO (OM.buildSlice (l:= [(tS (⟨#[]⟩:ByteArray)),(tS (⟨#[119,111,114,100]⟩:ByteArray)),(tS (⟨#[98,97,99,107]⟩:ByteArray)),(tS (⟨#[109,105,120]⟩:ByteArray)),(tS (⟨#[106,111,105,110]⟩:ByteArray)),(tS (⟨#[105,110]⟩:ByteArray)),(tS (⟨#[104,101,97,100]⟩:ByteArray)),(tS (⟨#[110,111,104,101,97,100]⟩:ByteArray)),(tS (⟨#[110,111,116,97,105,108]⟩:ByteArray)),(tS (⟨#[104,105,100,100,101,110]⟩:ByteArray))]) (VEvp.cons (VEv.str (⟨#[]⟩:ByteArray)) (VEvp.cons (VEv.str (⟨#[119,111,114,100]⟩:ByteArray)) (VEvp.cons (VEv.str (⟨#[98,97,99,107]⟩:ByteArray)) (VEvp.cons (VEv.str (⟨#[109,105,120]⟩:ByteArray)) (VEvp.cons (VEv.str (⟨#[106,111,105,110]⟩:ByteArray)) (VEvp.cons (VEv.str (⟨#[105,110]⟩:ByteArray)) (VEvp.cons (VEv.str (⟨#[104,101,97,100]⟩:ByteArray)) (VEvp.cons (VEv.str (⟨#[110,111,104,101,97,100]⟩:ByteArray)) (VEvp.cons (VEv.str (⟨#[110,111,116,97,105,108]⟩:ByteArray)) (VEvp.cons (VEv.str (⟨#[104,105,100,100,101,110]⟩:ByteArray)) VEvp.nil)))))))))) Y (by decide) (bc (nofun) (bc (nofun) (bc (nofun) (bc (nofun) (bc (nofun) (bc (nofun) (bc (nofun) (bc (nofun) (bc (nofun) (bc (nofun) bn)))))))))) (bc ((bc (Y) bn)) (bc ((bc (Y) bn)) (bc ((bc (Y) bn)) (bc ((bc (Y) bn)) (bc ((bc (Y) bn)) (bc ((bc (Y) bn)) (bc ((bc (Y) bn)) (bc ((bc (Y) bn)) (bc ((bc (Y) bn)) (bc ((bc (Y) bn)) bn)))))))))) (bc (Y) (bc (Y) (bc (Y) (bc (Y) (bc (Y) (bc (Y) (bc (Y) (bc (Y) (bc (Y) (bc (Y) bn)))))))))) Y1 zo9 (by kernel_rfl) Y (by rw [Yx];decide) Yx (Nat.le_of_ble_eq_true Y)) (aO (T.os 1 0 0 10) Y (nt (sq (sr (mO (tI k) Y (mO (T.os 1 0 0 10) Y (lO (B.lenO (m:=10) (tv (T.os 1 0 0 10) Y) Y1 Y) ?_)))))))))))
 refine cO (cS (vc (tv (tI k) Y) (vc (tv (tN 10) Y) vn)) (QR Y) (Ja (n+0) k ((10:Nat):Int)) Y Y) (fO (QZ (tv (tB (decide (0≤k∧k<((10:Nat):Int)))) Y)) (nt ?_))
 refine cn (0≤k∧k<((10:Nat):Int)) Y (fun fhc0=> ?_) fun fhc0=> ?_
 ·refine sr ?_
  refine fO (OF.assign (VEv.str (⟨#[]⟩:ByteArray))) (nt (rt (tr ?_)))
  refine vfin.eq (r':=(tS (⟨#[]⟩:ByteArray))) ?_ (vfin.r (VRes.tmp (t:=(tS (⟨#[]⟩:ByteArray))) Y VRes.nil) (Give.str _))
  refine congrArg T.str ?_
  exact (if_neg (by omega)).symm
 refine sk (tn (sr (mO (T.os 1 0 0 10) Y (mO (tI k) Y ?_))))
 obtain ⟨x1,hx1⟩:∃x,([(⟨#[]⟩:ByteArray),(⟨#[119,111,114,100]⟩:ByteArray),(⟨#[98,97,99,107]⟩:ByteArray),(⟨#[109,105,120]⟩:ByteArray),(⟨#[106,111,105,110]⟩:ByteArray),(⟨#[105,110]⟩:ByteArray),(⟨#[104,101,97,100]⟩:ByteArray),(⟨#[110,111,104,101,97,100]⟩:ByteArray),(⟨#[110,111,116,97,105,108]⟩:ByteArray),(⟨#[104,105,100,100,101,110]⟩:ByteArray)]:List ByteArray)[(Int.toNat k)]? =some x:=⟨_,List.getElem?_eq_getElem (by omega)⟩
 refine fO (B.indexAddrO (i:=(Int.toNat k)) (tv (T.os 1 0 0 10) Y) (tv (tI k) Y) (by omega) (by first | omega | (simp only [List.length_map];omega) | (simp only [List.length_map,List.length_append,List.length_cons,List.length_nil,List.length_replicate,List.length_set,List.length_drop,List.length_take,Zb] at *;omega)) Y1 Yx if9) (lO (OL.loadP1 (t:=(tS x1)) (row:=(Qf true x1)) (tv (T.orp 1 0 (Int.toNat k) 0) Y) Y (Qs (Qf true) hx1) Y Y st9) (aO (tS x1) Y (nt (rt ?_))))
 refine vfin.eq (r':=(tS x1)) ?_ (vfin.r (VRes.tmp (t:=(tS x1)) Y VRes.nil) (Give.str _))
 refine congrArg T.str ?_
 exact QeL fhc0 hx1
theorem Qcb (n:Nat) (w:ByteArray) (hw:w.size≤maxLen):Pure (Qm Tryd.prog (n+3)) 86 [(tS w)] (tS (QI w)):=by
 refine Pure.intro (rs:= [ResultVar.tmp 2]) Tryd.func86 Y Y Y (E0:= [(0,(tS w))]) Y ?_
 obtain ⟨hlim,hmx,hmax⟩:=QG
 refine sr (fO (OF.assign (VEv.str (⟨#[]⟩:ByteArray))) (nt (sq (sr (mO (tS w) Y (cO (cS (vc (tv (tS w) Y) vn) (QR Y) (Z5 (n+0) w (by first | assumption | omega)) Y Y) (fO (QZ (tv (tB (decide (Qr w))) Y)) (nt ?_))))))))
 refine cn (Qr w) Y (fun fhc0=> ?_) fun fhc0=> ?_
 ·refine sr ?_
  refine fO (OF.assign (VEv.str (⟨#[]⟩:ByteArray))) (nt (rt (tr ?_)))
  refine vfin.eq (r':=(tS (⟨#[]⟩:ByteArray))) ?_ (vfin.r (VRes.tmp (t:=(tS (⟨#[]⟩:ByteArray))) Y VRes.nil) (Give.str _))
  refine congrArg T.str ?_
  exact (if_neg fhc0).symm
 have hw1:=fhc0.1
 refine sk (tn (sr (mO (tS w) Y (lO (OL.sliceSHi (j:=1) (tv (tS w) Y) (VEv.int .i64 1) Y (by first | omega | (simp only [List.length_map];omega) | (simp only [List.length_map,List.length_append,List.length_cons,List.length_nil,List.length_replicate,List.length_set,List.length_drop,List.length_take,Zb] at *;omega)) U9) (aO (tS (w.extract 0 1)) Y (nt (rt ?_)))))))
 refine vfin.eq (r':=(tS (w.extract 0 1))) ?_ (vfin.r (VRes.tmp (t:=(tS (w.extract 0 1))) Y VRes.nil) (Give.str _))
 refine congrArg T.str ?_
 exact (if_pos fhc0).symm
theorem YZ (n:Nat) (w:ByteArray) (hw:w.size≤maxLen):Pure (Qm Tryd.prog (n+3)) 15 [(tS w)] (tS (QI w)):=by
 refine Pure.intro (rs:= [ResultVar.tmp 2]) Tryd.func15 Y Y Y (E0:= [(0,(tS w))]) Y ?_
 obtain ⟨hlim,hmx,hmax⟩:=QG
 refine sr (fO (OF.assign (VEv.str (⟨#[]⟩:ByteArray))) (nt (sq (sr (mO (tS w) Y (cO (cS (vc (tv (tS w) Y) vn) (QR Y) (Z3 (n+0) w (by first | assumption | omega)) Y Y) (fO (QZ (tv (tB (decide (Qr w))) Y)) (nt ?_))))))))
 refine cn (Qr w) Y (fun fhc0=> ?_) fun fhc0=> ?_
 ·refine sr ?_
  refine fO (OF.assign (VEv.str (⟨#[]⟩:ByteArray))) (nt (rt (tr ?_)))
  refine vfin.eq (r':=(tS (⟨#[]⟩:ByteArray))) ?_ (vfin.r (VRes.tmp (t:=(tS (⟨#[]⟩:ByteArray))) Y VRes.nil) (Give.str _))
  refine congrArg T.str ?_
  exact (if_neg fhc0).symm
 have hw1:=fhc0.1
 refine sk (tn (sr (mO (tS w) Y (lO (OL.sliceSHi (j:=1) (tv (tS w) Y) (VEv.int .i64 1) Y (by first | omega | (simp only [List.length_map];omega) | (simp only [List.length_map,List.length_append,List.length_cons,List.length_nil,List.length_replicate,List.length_set,List.length_drop,List.length_take,Zb] at *;omega)) U9) (aO (tS (w.extract 0 1)) Y (nt (rt ?_)))))))
 refine vfin.eq (r':=(tS (w.extract 0 1))) ?_ (vfin.r (VRes.tmp (t:=(tS (w.extract 0 1))) Y VRes.nil) (Give.str _))
 refine congrArg T.str ?_
 exact (if_pos fhc0).symm
noncomputable section
def J8 (n0:Int):Nat→Int
 | 0=>n0
 | _+1=>0
def Qap (n0:Int):Nat→ByteArray
 | 0=>⟨#[]⟩
 | _+1=>ZP n0
theorem q10 {n0:Int} (h:0≤n0∧n0<10):n0.tdiv 10=0:=by
 rw [Int.tdiv_eq_ediv_of_nonneg h.1]
 omega
theorem r10 {n0:Int} (h:0≤n0∧n0<10):n0.tmod 10=n0:=by
 rw [Int.tmod_eq_emod_of_nonneg h.1]
 omega
theorem QgO {n0:Int} {j:Nat} (h:¬J8 n0 j=0):j=0:=by
 cases j with
 | zero=>rfl
 | succ j=>exact absurd Y h
theorem QeY {n0:Int} {j:Nat} (h0:¬n0=0) (h:J8 n0 j=0):Qap n0 j=ZP n0:=by
 cases j with
 | zero=>exact absurd h h0
 | succ j=>rfl
theorem JS {n0:Int} (h:0≤n0∧n0<10):n0=0∨n0=1∨n0=2∨n0=3∨n0=4∨n0=5∨n0=6∨n0=7∨n0=8∨n0=9:=by omega
end
theorem YV (n:Nat) (n0:Int) (hn:0≤n0∧n0<10):Pure (Qm Tryd.prog (n+1)) 113 [(tI n0)] (tS (ZP n0)):=by
 refine Pure.intro (rs:= [ResultVar.tmp 2]) Tryd.func113 Y Y Y (E0:= [(0,(tI n0))]) Y ?_
 obtain ⟨hlim,hmx,hmax⟩:=QG
 have e36:(⟨#[48,49,50,51,52,53,54,55,56,57,97,98,99,100,101,102,103,104,105,106,107,108,109,110,111,112,113,114,115,116,117,118,119,120,121,122]⟩:ByteArray).size=36:=rfl
 refine sr (fO (OF.assign (VEv.str (⟨#[]⟩:ByteArray))) (nt (sq (sr (mO (tI n0) Y (fO (xls (tv (tI n0) Y) (VEv.int .i64 10)) (nt ?_)))))))
 refine cd (n0<10) Y (fun fhc0=> ?_) fun fhc0=> ?_
 ·refine sr ?_
  refine mO (tI n0) Y (mO (tI n0) Y (fO (B.add (n:=(n0+1)) (tv (tI n0) Y) (VEv.int .i64 1) (by first | rfl | (rw [Qg (by omega)];omega) | (rw [Qg (by omega)];done))) (lO (OL.sliceS (i:=(Int.toNat n0)) (j:=(Int.toNat (n0+1))) (VEv.str (⟨#[48,49,50,51,52,53,54,55,56,57,97,98,99,100,101,102,103,104,105,106,107,108,109,110,111,112,113,114,115,116,117,118,119,120,121,122]⟩:ByteArray)) (tv (tI n0) Y) (tv (tI (n0+1)) Y) (by omega) (by omega) (by first | omega | (simp only [List.length_map];omega) | (simp only [List.length_map,List.length_append,List.length_cons,List.length_nil,List.length_replicate,List.length_set,List.length_drop,List.length_take,Zb] at *;omega)) (by first | omega | (simp only [List.length_map];omega) | (simp only [List.length_map,List.length_append,List.length_cons,List.length_nil,List.length_replicate,List.length_set,List.length_drop,List.length_take,Zb] at *;omega)) U9) (aO (tS ((⟨#[48,49,50,51,52,53,54,55,56,57,97,98,99,100,101,102,103,104,105,106,107,108,109,110,111,112,113,114,115,116,117,118,119,120,121,122]⟩:ByteArray).extract (Int.toNat n0) (Int.toNat (n0+1)))) Y (nt (rt (tr ?_)))))))
  refine vfin.eq (r':=(tS ((⟨#[48,49,50,51,52,53,54,55,56,57,97,98,99,100,101,102,103,104,105,106,107,108,109,110,111,112,113,114,115,116,117,118,119,120,121,122]⟩:ByteArray).extract (Int.toNat n0) (Int.toNat (n0+1))))) ?_ (vfin.r (VRes.tmp (t:=(tS ((⟨#[48,49,50,51,52,53,54,55,56,57,97,98,99,100,101,102,103,104,105,106,107,108,109,110,111,112,113,114,115,116,117,118,119,120,121,122]⟩:ByteArray).extract (Int.toNat n0) (Int.toNat (n0+1))))) Y VRes.nil) (Give.str _))
  refine congrArg T.str ?_
  rcases JS hn with rfl | rfl | rfl | rfl | rfl | rfl | rfl | rfl | rfl | rfl<;>rfl
 omega
theorem Yj (n:Nat) (n0:Int) (b0:Int) (hn:0≤n0∧n0<10) (hb:b0=10):Pure (Qm Tryd.prog (n+2)) 98 [(tI n0),(tI b0)] (tS (ZP n0)):=by
 refine Pure.intro (rs:= [ResultVar.tmp 4]) Tryd.func98 Y Y Y (E0:= [(0,(tI n0)),(1,(tI b0))]) Y ?_
 obtain ⟨hlim,hmx,hmax⟩:=QG
 refine sr (fO (OF.assign (VEv.str (⟨#[]⟩:ByteArray))) (nt (sq (sr (mO (tI b0) Y (fO (ZU (tv (tI b0) Y) (VEv.int .i64 10)) (nt ?_)))))))
 refine cd (b0=10) Y (fun fhc0=> ?_) fun fhc0=> ?_
 ·refine sq ?_
  refine sr (mO (tI n0) Y (fO (xle (VEv.int .i64 0) (tv (tI n0) Y)) (mO (tB (decide (0≤n0))) Y ?_)))
  refine VRunO.joinB 3 [15,16] 17 (tB (decide ((0≤n0)∧(n0<100)))) ?_ ?_
  ·refine gw (0≤n0) (fun fhg14_1=> ?_) fun fhg14_1=> ?_
   ·refine gF (dy fhg14_1) Y Y (OF.move (tv (tI n0) Y)) ?_
    refine gF (dy fhg14_1) Y Y (xls (tv (tI n0) Y) (VEv.int .i64 100)) (fO (OF.pickT (VEv.tmpB Y (dy fhg14_1)) (tv (tB (decide (n0<100))) Y)) (VRunO.nil ?_))
    exact jq (congrArg T.bool (kAT fhg14_1 Y)) (js Y (js Y (jn)))
   ·refine QB 2 2 true 14 (dz fhg14_1) Y Y Y ?_
    refine fO (OF.pickF (VEv.tmpB Y (dz fhg14_1)) (VEv.bool false)) (VRunO.nil ?_)
    exact jq (congrArg T.bool (kAF fhg14_1)) (js Y (js Y (jn)))
  refine nt ?_
  refine cd ((0≤n0)∧(n0<100)) Y (fun fhc1=> ?_) fun fhc1=> ?_
  ·refine sr ?_
   refine mO (tI n0) Y (cO (cS (vc (tv (tI n0) Y) vn) (QR Y) (YV (n+0) n0 (by first | assumption | omega)) Y Y) (aO (tS (ZP n0)) Y (nt (rt (tr (tr ?_))))))
   refine vfin.eq (r':=(tS (ZP n0))) ?_ (vfin.r (VRes.tmp (t:=(tS (ZP n0))) Y VRes.nil) (Give.str _))
   rfl
  omega
 omega
theorem Y5 (n:Nat) (n0:Int) (hn:0≤n0∧n0<10):Pure (Qm Tryd.prog (n+3)) 81 [(tI n0)] (tS (ZP n0)):=by
 refine Pure.intro (rs:= [ResultVar.tmp 2]) Tryd.func81 Y Y Y (E0:= [(0,(tI n0))]) Y ?_
 obtain ⟨hlim,hmx,hmax⟩:=QG
 refine sr (fO (OF.assign (VEv.str (⟨#[]⟩:ByteArray))) (nt (sr (mO (tI n0) Y (cO (cS (vc (tv (tI n0) Y) (vc (VEv.int .i64 10) vn)) (QR Y) (Yj (n+0) n0 10 (by first | assumption | omega) (by first | assumption | omega)) Y Y) (aO (tS (ZP n0)) Y (nt (rt ?_))))))))
 refine vfin.eq (r':=(tS (ZP n0))) ?_ (vfin.r (VRes.tmp (t:=(tS (ZP n0))) Y VRes.nil) (Give.str _))
 rfl
theorem Qby (n:Nat) (n0:Int) (hn:0≤n0∧n0<10):Pure (Qm Tryd.prog (n+4)) 65 [(tI n0)] (tS (ZP n0)):=by
 refine Pure.intro (rs:= [ResultVar.tmp 2]) Tryd.func65 Y Y Y (E0:= [(0,(tI n0))]) Y ?_
 obtain ⟨hlim,hmx,hmax⟩:=QG
 refine sr (fO (OF.assign (VEv.str (⟨#[]⟩:ByteArray))) (nt (sr (mO (tI n0) Y (cO (cS (vc (tv (tI n0) Y) vn) (QR Y) (Y5 (n+0) n0 (by first | assumption | omega)) Y Y) (aO (tS (ZP n0)) Y (nt (rt ?_))))))))
 refine vfin.eq (r':=(tS (ZP n0))) ?_ (vfin.r (VRes.tmp (t:=(tS (ZP n0))) Y VRes.nil) (Give.str _))
 rfl
theorem QaU (n:Nat) (n0:Int) (hn:0≤n0∧n0<10):Pure (Qm Tryd.prog (n+5)) 33 [(tI n0)] (tS (ZP n0)):=by
 refine Pure.intro (rs:= [ResultVar.tmp 2]) Tryd.func33 Y Y Y (E0:= [(0,(tI n0))]) Y ?_
 obtain ⟨hlim,hmx,hmax⟩:=QG
 refine sr (fO (OF.assign (VEv.str (⟨#[]⟩:ByteArray))) (nt (sr (mO (tI n0) Y (cO (cS (vc (tv (tI n0) Y) vn) (QR Y) (Qby (n+0) n0 (by first | assumption | omega)) Y Y) (aO (tS (ZP n0)) Y (nt (rt ?_))))))))
 refine vfin.eq (r':=(tS (ZP n0))) ?_ (vfin.r (VRes.tmp (t:=(tS (ZP n0))) Y VRes.nil) (Give.str _))
 rfl
theorem QaX (n:Nat) (n0:Int) (hn:0≤n0∧n0<10):Pure (Qm Tryd.prog (n+1)) 84 [(tI n0)] (tS (ZP n0)):=by
 refine Pure.intro (rs:= [ResultVar.tmp 2]) Tryd.func84 Y Y Y (E0:= [(0,(tI n0))]) Y ?_
 obtain ⟨hlim,hmx,hmax⟩:=QG
 refine sr (fO (OF.assign (VEv.str (⟨#[]⟩:ByteArray))) (nt (sq (sr (mO (tI n0) Y (fO (ZU (tv (tI n0) Y) (VEv.int .i64 0)) (nt ?_)))))))
 refine cd (n0=0) Y (fun fhc0=> ?_) fun fhc0=> ?_
 ·refine sr ?_
  refine fO (OF.assign (VEv.str (⟨#[48]⟩:ByteArray))) (nt (rt (tr ?_)))
  refine vfin.eq (r':=(tS (⟨#[48]⟩:ByteArray))) ?_ (vfin.r (VRes.tmp (t:=(tS (⟨#[48]⟩:ByteArray))) Y VRes.nil) (Give.str _))
  refine congrArg T.str ?_
  subst fhc0;rfl
 refine sk (tn (sr (fO (OF.assign (VEv.str (⟨#[]⟩:ByteArray))) (nt (sq (sr (mO (tI n0) Y (aO (tI n0) Y (nt (VRun.block ?_))))))))))
 refine VRun.loop (A:=Nat) (fun s_=> [(0,(tI n0)),(2,(tS (⟨#[]⟩:ByteArray))),(3,(tS (Qap n0 s_))),(4,(tI (J8 n0 s_)))]) (fun s_=>ZR []) 0 (fun s_=>s_≤1) (fun s_=>1 - s_) (0:Nat) ?_ (Wk.mk (fun k=>k) ?_ ?_ ?_) ?_
 ·first | trivial | (simp;done) | omega | (constructor<;>simp)
 ·exact (b2 (b2 (bc ⟨(congrArg T.str (show (⟨#[]⟩:ByteArray)=Qap n0 0 from (by first | rfl | assumption | rfl | (rw [hx0,q10 hn];rfl) | (rw [hj0];rcases JS hn with rfl | rfl | rfl | rfl | rfl | rfl | rfl | rfl | rfl | rfl<;>rfl) | (simp_all;done)))),rfl⟩ (bc ⟨(congrArg (T.int .i64) (show n0=J8 n0 0 from (by first | rfl | omega | rfl | (rw [hx0,q10 hn];rfl) | (rw [hj0];rcases JS hn with rfl | rfl | rfl | rfl | rfl | rfl | rfl | rfl | rfl | rfl<;>rfl) | (simp;done) | (push_cast;omega)))),rfl⟩ bn))))
 ·exact bn
 ·exact nd Y
 rintro j (hI':j≤1)
 show VRun _ _ _ [(0,(tI n0)),(2,(tS (⟨#[]⟩:ByteArray))),(3,(tS (Qap n0 j))),(4,(tI (J8 n0 j)))] (ZR []) 0 _
 refine sq (sr (mO (tI (J8 n0 j)) Y (fO (xne (tv (tI (J8 n0 j)) Y) (VEv.int .i64 0)) (nt ?_))))
 refine cn (J8 n0 j=0) Y (fun fhc1=> ?_) fun fhc1=> ?_
 ·have hj0:=QgO fhc1
  have hx0:J8 n0 j=n0:=(by rw [hj0];rfl)
  have e1s:(Qbs [IntKind.u8.wrap (48+n0)]).size=1:=rfl
  have e0s:(Qap n0 j).size=0:=(by rw [hj0];rfl)
  refine sk (tn (sq (VRun.block (sr (mO (tI (J8 n0 j)) Y (fO (B.rem (n:=n0) (tv (tI (J8 n0 j)) Y) (VEv.int .i64 10) (by omega) (by first | (rw [hx0];exact r10 hn) | (rw [hx0,q10 hn];rfl) | (rw [hj0];rfl) | rfl | (rw [Qg (by omega)];omega) | (rw [Qg (by omega)];done))) (aO (tI n0) Y (nt (sq (sr (mO (tI n0) Y ?_)))))))))))
  refine fO (xls (tv (tI n0) Y) (VEv.int .i64 0)) (nt ?_)
  refine cd (n0<0) Y (fun fhc2=> ?_) fun fhc2=> ?_
  ·omega
  refine sk (tn (VRun.region (mO (tI n0) Y (fO (B.add (n:=(48+n0)) (VEv.int .i64 48) (tv (tI n0) Y) (by first | (rw [hx0];exact r10 hn) | (rw [hx0,q10 hn];rfl) | (rw [hj0];rfl) | rfl | (rw [Qg (by omega)];omega) | (rw [Qg (by omega)];done))) (fO (OF.convI (tv (tI (48+n0)) Y) (k0:= .i64) U3 U5) (kO (OM.buildSlice (l:= [(T.int .u8 (IntKind.u8.wrap (48+n0)))]) (VEvp.cons (tv (T.int .u8 (IntKind.u8.wrap (48+n0))) Y) VEvp.nil) Y (by decide) (bc (nofun) bn) (bc ((bc (Y) bn)) bn) (bc (Y) bn) U22 zo5 (by kernel_rfl) Y (by rw [sz5];decide) sz5 (Nat.le_of_ble_eq_true Y)) (lO (B.convBS (l:= [IntKind.u8.wrap (48+n0)]) (tv (T.os 1 0 0 1) Y) Y Y U22 U5 U9) (mO (tS (Qap n0 j)) Y (fO (B.sadd (tv (tS (Qbs [IntKind.u8.wrap (48+n0)])) Y) (tv (tS (Qap n0 j)) Y) (by first | (rw [hx0];exact r10 hn) | (rw [hx0,q10 hn];rfl) | (rw [hj0];rfl) | omega | (simp only [List.length_map];omega) | (simp only [List.length_map,List.length_append,List.length_cons,List.length_nil,List.length_replicate,List.length_set,List.length_drop,List.length_take,Zb] at *;omega))) (aO (tS ((Qbs [IntKind.u8.wrap (48+n0)])++Qap n0 j)) Y (VRunO.nil ?_)))))))))))
  refine vinB.n (tn (VRun.region (mO (tI (J8 n0 j)) Y (fO (B.quo (n:=(J8 n0 (j+1))) (tv (tI (J8 n0 j)) Y) (VEv.int .i64 10) (by omega) (by first | (rw [hx0];exact r10 hn) | (rw [hx0,q10 hn];rfl) | (rw [hj0];rfl) | rfl | (rw [Qg (by omega)];omega) | (rw [Qg (by omega)];done))) (aO (tI (J8 n0 (j+1))) Y (VRunO.nil (tn ?_)))))))
  refine ⟨(j+1:Nat),?_,?_,Wk.mk (fun k=>k) ?_ ?_ ?_⟩
  ·omega
  ·first | omega | (simp only [];omega) | (show _<_;omega) | (simp;omega)
  ·exact (b2 (b2 (bc ⟨(congrArg T.str (show ((Qbs [IntKind.u8.wrap (48+n0)])++Qap n0 j)=Qap n0 (j+1) from (by first | rfl | assumption | rfl | (rw [hx0,q10 hn];rfl) | (rw [hj0];rcases JS hn with rfl | rfl | rfl | rfl | rfl | rfl | rfl | rfl | rfl | rfl<;>rfl) | (simp_all;done)))),rfl⟩ (b2 bn))))
  ·exact bn
  ·exact nd Y
 refine VRun.exit (vthn.e (vthn.e (vinB.e (tn (sq (sr (mO (tI n0) Y (fO (xls (tv (tI n0) Y) (VEv.int .i64 0)) (nt ?_)))))))))
 refine cd (n0<0) Y (fun fhc3=> ?_) fun fhc3=> ?_
 ·omega
 refine sk (tn (sr (mO (tS (Qap n0 j)) Y (aO (tS (Qap n0 j)) Y (nt (rt ?_))))))
 refine vfin.eq (r':=(tS (Qap n0 j))) ?_ (vfin.r (VRes.tmp (t:=(tS (Qap n0 j))) Y VRes.nil) (Give.str _))
 refine congrArg T.str ?_
 exact QeY fhc0 fhc1
noncomputable section
def ZJ (l:List D.Step):Nat→Nat→Bool
 | 0,k=>decide (k+1=l.length)
 | j+1,k=>match l[l.length - 1 - j]? with
  | some c=>if ZJ l j (l.length - 1 - j)=true∧¬c.Kind=1 then (ZJ l j k || decide (k=Int.toNat c.A) || (decide (c.Kind=4∨c.Kind=5) && decide (k=Int.toNat c.B))) else ZJ l j k
  | none=>ZJ l j k
theorem Qfe {l:List D.Step} {j:Nat} {c:D.Step} (h:l[l.length - 1 - j]? =some c) (hn:¬(ZJ l j (l.length - 1 - j)=true∧¬c.Kind=1)) (k:Nat):ZJ l (j+1) k=ZJ l j k:=by rw [ZJ,h];simp only;rw [if_neg hn]
theorem Qej {l:List D.Step} {j:Nat} {c:D.Step} (h:l[l.length - 1 - j]? =some c) (hy:ZJ l j (l.length - 1 - j)=true∧¬c.Kind=1) (hp:¬(c.Kind=4∨c.Kind=5)) (k:Nat):ZJ l (j+1) k=(ZJ l j k || decide (k=Int.toNat c.A)):=by
 rw [ZJ,h]
 simp only
 rw [if_pos hy,decide_eq_false hp]
 simp
theorem Qem {l:List D.Step} {j:Nat} {c:D.Step} (h:l[l.length - 1 - j]? =some c) (hy:ZJ l j (l.length - 1 - j)=true∧¬c.Kind=1) (hp:c.Kind=4∨c.Kind=5) (k:Nat):ZJ l (j+1) k=(ZJ l j k || decide (k=Int.toNat c.A) || decide (k=Int.toNat c.B)):=by
 rw [ZJ,h]
 simp only
 rw [if_pos hy,decide_eq_true hp]
 simp
def Zm (l:List D.Step) (j:Nat):List Bool:=(List.range l.length).map (ZJ l j)
theorem Qaq (l:List D.Step) (j:Nat):(Zm l j).length=l.length:=by simp [Zm]
theorem QcD {l:List D.Step} {j k:Nat} {b:Bool} (h:(Zm l j)[k]? =some b):b=ZJ l j k:=by
 have h1:=(List.getElem?_eq_some_iff.1 h).1
 rw [Qaq] at h1
 rw [Zm,List.getElem?_map,List.getElem?_range h1,Option.map_some] at h
 exact (Option.some.inj h).symm
theorem Qbn (n a:Nat) (f:Nat→Bool):((List.range n).map f).set a true=(List.range n).map (fun k=>f k || decide (k=a)):=by
 refine List.ext_getElem (by simp) (fun k h1 h2=> ?_)
 rw [List.getElem_set]
 simp only [List.getElem_map,List.getElem_range]
 by_cases e:a=k
 ·subst e
  simp
 ·rw [if_neg e,decide_eq_false (fun h=>e h.symm),Bool.or_false]
theorem QcU {l:List D.Step} {j:Nat} {f:Nat→Bool} (h:∀k,ZJ l j k=f k):Zm l j=(List.range l.length).map f:=by unfold Zm;rw [show ZJ l j=f from funext h]
theorem Qdh (l:List D.Step):(List.replicate l.length false).set (l.length - 1) true=Zm l 0:=by
 have h1:List.replicate l.length false=(List.range l.length).map (fun _=>false):=by rw [List.map_const',List.length_range]
 rw [h1,Qbn]
 unfold Zm
 refine List.map_congr_left (fun k hk=> ?_)
 have:=List.mem_range.1 hk
 simp only [ZJ,Bool.false_or]
 exact decide_eq_decide.2 (by omega)
theorem Qfj {l:List D.Step} {j:Nat} {c:D.Step} (h:l[l.length - 1 - j]? =some c) (hn:¬(ZJ l j (l.length - 1 - j)=true∧¬c.Kind=1)):Zm l j=Zm l (j+1):=(QcU (fun k=>(Qfe h hn k))).symm
theorem QfC {l:List D.Step} {j:Nat} {c:D.Step} (h:l[l.length - 1 - j]? =some c) (hy:ZJ l j (l.length - 1 - j)=true∧¬c.Kind=1) (hp:¬(c.Kind=4∨c.Kind=5)):(Zm l j).set (Int.toNat c.A) true=Zm l (j+1):=by
 rw [Zm,Qbn];exact (QcU (Qej h hy hp)).symm
theorem QfQ {l:List D.Step} {j:Nat} {c:D.Step} (h:l[l.length - 1 - j]? =some c) (hy:ZJ l j (l.length - 1 - j)=true∧¬c.Kind=1) (hp:c.Kind=4∨c.Kind=5):((Zm l j).set (Int.toNat c.A) true).set (Int.toNat c.B) true=Zm l (j+1):=by
 rw [Zm,Qbn,Qbn];exact (QcU (Qem h hy hp)).symm
def Zo (f:Nat→Bool):Nat→List Int
 | 0=> []
 | i+1=>if f i=true then Zo f i++ [((i:Nat):Int)] else Zo f i
theorem colN_mem {f:Nat→Bool} {y:Int}:∀ {i:Nat},y∈Zo f i↔∃k:Nat,k<i∧f k=true∧y=((k:Nat):Int)
 | 0=>by simp [Zo]
 | i+1=>by
  have ih:=colN_mem (f:=f) (y:=y) (i:=i)
  unfold Zo
  constructor
  ·intro h
   split at h
   ·rcases List.mem_append.1 h with h | h
    ·obtain ⟨k,h1,h2⟩:=ih.1 h
     exact ⟨k,by omega,h2⟩
    ·exact ⟨i,by omega,by assumption,List.mem_singleton.1 h⟩
   ·obtain ⟨k,h1,h2⟩:=ih.1 h
    exact ⟨k,by omega,h2⟩
  ·rintro ⟨k,h1,h2,rfl⟩
   rcases Nat.lt_or_ge k i with h3 | h3
   ·have:=ih.2 ⟨k,h3,h2,rfl⟩
    split
    ·exact List.mem_append.2 (.inl this)
    ·exact this
   ·obtain rfl:k=i:=by omega
    rw [if_pos h2]
    exact List.mem_append.2 (.inr (List.mem_singleton.2 Y))
theorem Y8 (f:Nat→Bool):∀i,(Zo f i).Pairwise (· < ·)
 | 0=>List.Pairwise.nil
 | i+1=>by
  have ih:=Y8 f i
  unfold Zo
  split
  ·refine List.pairwise_append.2 ⟨ih,List.pairwise_singleton _ _,fun y hy z hz=> ?_⟩
   obtain ⟨k,h1,_,rfl⟩:=colN_mem.1 hy
   obtain rfl:=List.mem_singleton.1 hz
   omega
  ·exact ih
theorem Qbz (f:Nat→Bool):∀i,(Zo f i).length≤i
 | 0=>Nat.le_refl _
 | i+1=>by
  have ih:=Qbz f i
  unfold Zo
  split
  ·simp only [List.length_append,List.length_cons,List.length_nil];omega
  ·omega
theorem QcA : ∀ {a b:List Int},a.Pairwise (· < ·)→b.Pairwise (· < ·)→(∀x,x∈a↔x∈b)→a=b
 | [],[],_,_,_=>rfl
 | [],y::s,_,_,h=>by have:=(h y).2 (by simp);simp at this
 | x::r,[],_,_,h=>by have:=(h x).1 (by simp);simp at this
 | x::r,y::s,h1,h2,h=>by
  have a1:=List.pairwise_cons.1 h1
  have b1:=List.pairwise_cons.1 h2
  have hxy:x=y:=by
   have e1:=(h x).1 (by simp)
   have e2:=(h y).2 (by simp)
   rcases List.mem_cons.1 e1 with e1 | e1
   ·exact e1
   ·rcases List.mem_cons.1 e2 with e2 | e2
    ·exact e2.symm
    ·have:=a1.1 y e2
     have:=b1.1 x e1
     omega
  subst hxy
  rw [QcA a1.2 b1.2 (fun z=> ?_)]
  have hz:=h z
  simp only [List.mem_cons] at hz
  refine ⟨fun e=> ?_,fun e=> ?_⟩
  ·have:=a1.1 z e
   rcases hz.1 (.inr e) with e1 | e1
   ·omega
   ·exact e1
  ·have:=b1.1 z e
   rcases hz.2 (.inr e) with e1 | e1
   ·omega
   ·exact e1
def Zv (l:List D.Step) (j:Nat):List Int:=Zo (ZJ l j) l.length
theorem Qeo (l:List D.Step) (j:Nat):(Zv l j).length≤l.length:=Qbz _ _
theorem QfE {l:List D.Step} {j:Nat} {i:Nat} (hi:i<l.length):(((i:Nat):Int)∈Zv l j)↔ZJ l j i=true:=by
 unfold Zv
 rw [colN_mem]
 exact ⟨fun ⟨k,h1,h2,h3⟩=>(by have e:i=k:=(by omega);rw [e];exact h2),fun h=>⟨i,hi,h,rfl⟩⟩
theorem Qdr {l:List D.Step} (h:1≤l.length): [((l.length:Nat):Int) - 1]=Zv l 0:=by
 refine QcA (List.pairwise_singleton _ _) (Y8 _ _) (fun x=> ?_)
 rw [Zv,colN_mem,List.mem_singleton]
 refine ⟨fun e=>⟨l.length - 1,by omega,by simp [ZJ];omega,by omega⟩,?_⟩
 rintro ⟨k,h1,h2,h3⟩
 have:k+1=l.length:=by simpa [ZJ] using h2
 omega
theorem Qfs {l:List D.Step} {j:Nat} {c:D.Step} (h:l[l.length - 1 - j]? =some c) (hn:¬(ZJ l j (l.length - 1 - j)=true∧¬c.Kind=1)):Zv l j=Zv l (j+1):=by
 unfold Zv
 rw [show ZJ l (j+1)=ZJ l j from funext (Qfe h hn)]
theorem QfU {l:List D.Step} {j:Nat} {c:D.Step} (h:l[l.length - 1 - j]? =some c) (hy:ZJ l j (l.length - 1 - j)=true∧¬c.Kind=1) (hp:¬(c.Kind=4∨c.Kind=5)) (ha:0≤c.A∧c.A<((l.length:Nat):Int)):QN (Zv l j) c.A=Zv l (j+1):=by
 refine QcA (QaT (Y8 _ _)) (Y8 _ _) (fun x=> ?_)
 rw [l9put_mem]
 unfold Zv
 rw [colN_mem,colN_mem,show ZJ l (j+1)=_ from funext (Qej h hy hp)]
 constructor
 ·rintro (⟨k,h1,h2,rfl⟩ | rfl)
  ·exact ⟨k,h1,by simp [h2],rfl⟩
  ·exact ⟨Int.toNat c.A,by omega,by simp,by omega⟩
 ·rintro ⟨k,h1,h2,rfl⟩
  rcases (Bool.or_eq_true _ _).mp h2 with h2 | h2
  ·exact .inl ⟨k,h1,h2,rfl⟩
  ·have:=of_decide_eq_true h2
   exact .inr (by omega)
theorem QfL {l:List D.Step} {j:Nat} {c:D.Step} (h:l[l.length - 1 - j]? =some c) (hy:ZJ l j (l.length - 1 - j)=true∧¬c.Kind=1) (hp:c.Kind=4∨c.Kind=5) (ha:0≤c.A∧c.A<((l.length:Nat):Int)) (hb:0≤c.B∧c.B<((l.length:Nat):Int)):QN (QN (Zv l j) c.A) c.B=Zv l (j+1):=by
 refine QcA (QaT (QaT (Y8 _ _))) (Y8 _ _) (fun x=> ?_)
 rw [l9put_mem,l9put_mem]
 unfold Zv
 rw [colN_mem,colN_mem,show ZJ l (j+1)=_ from funext (Qem h hy hp)]
 constructor
 ·rintro ((⟨k,h1,h2,rfl⟩ | rfl) | rfl)
  ·exact ⟨k,h1,by simp [h2],rfl⟩
  ·exact ⟨Int.toNat c.A,by omega,by simp,by omega⟩
  ·exact ⟨Int.toNat c.B,by omega,by simp,by omega⟩
 ·rintro ⟨k,h1,h2,rfl⟩
  rcases (Bool.or_eq_true _ _).mp h2 with h2 | h2
  ·rcases (Bool.or_eq_true _ _).mp h2 with h2 | h2
   ·exact .inl (.inl ⟨k,h1,h2,rfl⟩)
   ·have:=of_decide_eq_true h2
    exact .inl (.inr (by omega))
  ·have:=of_decide_eq_true h2
   exact .inr (by omega)
def Zi (l:List D.Step):List Int:=if Qp l then Zv l l.length else []
theorem Qcp (l:List D.Step):(Zi l).length<10:=by
 unfold Zi
 split
 ·rename_i h
  have:=Qeo l l.length
  have:=h.1.2
  omega
 ·simp
theorem Qbm {l:List D.Step} {i:Nat} {x:D.Step} (h:Qp l) (hx:l[i]? =some x) (hk:¬x.Kind=1):(0≤x.A∧x.A<((l.length:Nat):Int))∧((x.Kind=4∨x.Kind=5)→0≤x.B∧x.B<((l.length:Nat):Int)):=by
 have hi:=(List.getElem?_eq_some_iff.1 hx).1
 obtain ⟨y,hy,_,_,h3⟩:=h.2 i hi
 rw [hx] at hy
 obtain rfl:=Option.some.inj hy
 obtain ⟨_,h4,h5,_⟩:=h3 hk
 exact ⟨by omega,fun h6=>by have:=h5 h6;omega⟩
theorem QbO {n j:Nat} (h0:0≤((n:Nat):Int) - 1 - ((j:Nat):Int)):Int.toNat (((n:Nat):Int) - 1 - ((j:Nat):Int))=n - 1 - j:=by omega
theorem QdK {l:List D.Step} {j:Nat} (h0:0≤((l.length:Nat):Int) - 1 - ((j:Nat):Int)):(((l.length:Nat):Int) - 1 - ((j:Nat):Int))∈Zv l j↔ZJ l j (l.length - 1 - j)=true:=by
 rw [← QfE (show l.length - 1 - j<l.length by omega),show (((l.length - 1 - j:Nat)):Int)=((l.length:Nat):Int) - 1 - ((j:Nat):Int) by omega]
theorem Qfk {l:List D.Step} {j:Nat} (h0:0≤((l.length:Nat):Int) - 1 - ((j:Nat):Int)):∃c,l[l.length - 1 - j]? =some c:=⟨_,List.getElem?_eq_getElem (by omega)⟩
theorem Qal {l:List D.Step} {j:Nat} (h0:0≤((l.length:Nat):Int) - 1 - ((j:Nat):Int)) (hn:¬(((l.length:Nat):Int) - 1 - ((j:Nat):Int))∈Zv l j):Zv l j=Zv l (j+1):=by
 obtain ⟨c,hc⟩:=Qfk h0
 exact Qfs hc (fun h=>hn ((QdK h0).2 h.1))
theorem Qan {l:List D.Step} {j:Nat} {c:D.Step} (hx:l[Int.toNat (((l.length:Nat):Int) - 1 - ((j:Nat):Int))]? =some c) (h0:0≤((l.length:Nat):Int) - 1 - ((j:Nat):Int)) (hk:c.Kind=1):Zv l j=Zv l (j+1):=by
 rw [QbO h0] at hx
 exact Qfs hx (fun h=>h.2 hk)
theorem Qb0 {l:List D.Step} {j:Nat} {c:D.Step} (hp:Qp l) (hx:l[Int.toNat (((l.length:Nat):Int) - 1 - ((j:Nat):Int))]? =some c) (h0:0≤((l.length:Nat):Int) - 1 - ((j:Nat):Int)) (hm:(((l.length:Nat):Int) - 1 - ((j:Nat):Int))∈Zv l j) (hk:¬c.Kind=1) (h2:¬(c.Kind=4∨c.Kind=5)):QN (Zv l j) c.A=Zv l (j+1):=by
 rw [QbO h0] at hx
 exact QfU hx ⟨(QdK h0).1 hm,hk⟩ h2 (Qbm hp hx hk).1
theorem QbT {l:List D.Step} {j:Nat} {c:D.Step} (hp:Qp l) (hx:l[Int.toNat (((l.length:Nat):Int) - 1 - ((j:Nat):Int))]? =some c) (h0:0≤((l.length:Nat):Int) - 1 - ((j:Nat):Int)) (hm:(((l.length:Nat):Int) - 1 - ((j:Nat):Int))∈Zv l j) (hk:¬c.Kind=1) (h2:c.Kind=4∨c.Kind=5):QN (QN (Zv l j) c.A) c.B=Zv l (j+1):=by
 rw [QbO h0] at hx
 exact QfL hx ⟨(QdK h0).1 hm,hk⟩ h2 (Qbm hp hx hk).1 ((Qbm hp hx hk).2 h2)
theorem Qaj {l:List D.Step} {j:Nat} {b:Bool} (h0:0≤((l.length:Nat):Int) - 1 - ((j:Nat):Int)) (hx:(Zm l j)[Int.toNat (((l.length:Nat):Int) - 1 - ((j:Nat):Int))]? =some b) (hn:b=false):Zm l j=Zm l (j+1):=by
 obtain ⟨c,hc⟩:=Qfk h0
 rw [QbO h0] at hx
 have:=QcD hx
 exact Qfj hc (fun h=>by rw [← this,hn] at h;cases h.1)
theorem Qaz {l:List D.Step} {j:Nat} {c:D.Step} (hx:l[Int.toNat (((l.length:Nat):Int) - 1 - ((j:Nat):Int))]? =some c) (h0:0≤((l.length:Nat):Int) - 1 - ((j:Nat):Int)) (hk:c.Kind=1):Zm l j=Zm l (j+1):=by
 rw [QbO h0] at hx
 exact Qfj hx (fun h=>h.2 hk)
theorem QbB {l:List D.Step} {j:Nat} {c:D.Step} {b:Bool} (hx:l[Int.toNat (((l.length:Nat):Int) - 1 - ((j:Nat):Int))]? =some c) (h0:0≤((l.length:Nat):Int) - 1 - ((j:Nat):Int)) (hb:(Zm l j)[Int.toNat (((l.length:Nat):Int) - 1 - ((j:Nat):Int))]? =some b) (ht:b=true) (hk:¬c.Kind=1) (h2:¬(c.Kind=4∨c.Kind=5)):(Zm l j).set (Int.toNat c.A) true=Zm l (j+1):=by
 rw [QbO h0] at hx hb
 exact QfC hx ⟨by rw [← QcD hb,ht],hk⟩ h2
theorem QbV {l:List D.Step} {j:Nat} {c:D.Step} {b:Bool} (hx:l[Int.toNat (((l.length:Nat):Int) - 1 - ((j:Nat):Int))]? =some c) (h0:0≤((l.length:Nat):Int) - 1 - ((j:Nat):Int)) (hb:(Zm l j)[Int.toNat (((l.length:Nat):Int) - 1 - ((j:Nat):Int))]? =some b) (ht:b=true) (hk:¬c.Kind=1) (h2:c.Kind=4∨c.Kind=5):((Zm l j).set (Int.toNat c.A) true).set (Int.toNat c.B) true=Zm l (j+1):=by
 rw [QbO h0] at hx hb
 exact QfQ hx ⟨by rw [← QcD hb,ht],hk⟩ h2
theorem Y7 {l:List D.Step} {i j:Nat} {b:Bool} (hj:j=l.length) (h:(Zm l j)[i]? =some b):Zo (ZJ l l.length) (i+1)=if b=true then Zo (ZJ l l.length) i++ [((i:Nat):Int)] else Zo (ZJ l l.length) i:=by
 subst hj
 rw [QcD h,Zo]
end
theorem QaR (n:Nat) (l:List D.Step) (hz:zL Zy l≤mx):Pure (Qm Tryd.prog (n+5)) 85 [(rd 4 Qb l)] (T.sl true 1 ((Zi l).map (Qh true))):=by
 refine Pure.intro (rs:= [ResultVar.tmp 2]) Tryd.func85 Y Y Y (E0:= [(0,(rd 4 Qb l))]) Y ?_
 obtain ⟨hlim,hmx,hmax⟩:=QG
 have hl:=JD (z:=Zy) l
 refine sr (fO (OF.assign VEv.nils) (nt (sr (kO (OM.slice0 Yn zo3 (by kernel_rfl) Y (by rw [Zg];decide) Zg) (aO (T.os 1 0 0 0) Y (nt (sq (sr (mO (rd 4 Qb l) Y (cO (cS (vc (tv (rd 4 Qb l) Y) vn) (QR Y) (J3 (n+0) l (by first | assumption | omega)) Y Y) (fO (QZ (tv (tB (decide (Qp l))) Y)) ?_)))))))))))
 refine nt ?_
 refine cn (Qp l) Y (fun fhc0=> ?_) fun fhc0=> ?_
 ·refine sr ?_
  refine mO (T.os 1 0 0 0) Y (aO (T.os 1 0 0 0) Y (nt (rt (tr ?_))))
  refine vfin.eq (r':=(T.sl true 1 [])) ?_ (vfin.r (VRes.tmp (t:=(T.os 1 0 0 0)) Y VRes.nil) (Give.os Y Y bn))
  refine congrArg (fun l_=>T.sl true 1 (List.map (Qh true) l_)) (a₁:= []) ?_
  exact (if_neg (by assumption)).symm
 have hpl:Qp l:=fhc0
 have hn1:=hpl.1.1
 have hn9:=hpl.1.2
 refine sk (tn (sr (mO (T.os 1 0 0 0) Y (mO (rd 4 Qb l) Y (lO (B.lenR (m:=l.length) (tv (rd 4 Qb l) Y) ZQ (List.length_map ..)) (fO (B.sub (n:=(((l.length:Nat):Int) - 1)) (tv (tN l.length) Y) (VEv.int .i64 1) (by first | rfl | (rw [Qg (by omega)];omega) | (rw [Qg (by omega)];done))) (kO (OM.buildSlice (l:= [(tI (((l.length:Nat):Int) - 1))]) (VEvp.cons (tv (tI (((l.length:Nat):Int) - 1)) Y) VEvp.nil) Y (by decide) (bc (nofun) bn) (bc ((bc (Y) bn)) bn) (bc (Y) bn) Yn zo3 (by kernel_rfl) Y (by rw [Zg];decide) Zg (Nat.le_of_ble_eq_true Y)) (cO (B.append (rows:= []) (rows2:= [[(tI (((l.length:Nat):Int) - 1))]]) (rows3:=([(((l.length:Nat):Int) - 1)].map (Qh true))) (VDst.own (tv (T.os 1 0 0 0) Y) Y Y) (VSrc.own (tv (T.os 1 1 0 1) Y) Y Y Yn (bc (bc Y bn) bn)) (by decide) Yn Zg (by decide) zo3 Y (of_decide_eq_true (by kernel_rfl)) (by first | omega | (simp only [List.length_map];omega) | (simp only [List.length_map,List.length_append,List.length_cons,List.length_nil,List.length_replicate,List.length_set,List.length_drop,List.length_take,Zb] at *;omega)) Y) (aO (T.os 1 2 0 (([(((l.length:Nat):Int) - 1)].map (Qh true)).length)) Y (nt (sq ?_)))))))))))
 refine sr (mO (rd 4 Qb l) Y (lO (B.lenR (m:=l.length) (tv (rd 4 Qb l) Y) ZQ (List.length_map ..)) (fO (B.sub (n:=(((l.length:Nat):Int) - 1)) (tv (tN l.length) Y) (VEv.int .i64 1) (by first | rfl | (rw [Qg (by omega)];omega) | (rw [Qg (by omega)];done))) (aO (tI (((l.length:Nat):Int) - 1)) Y (nt (VRun.block ?_))))))
 have he1: [(((l.length:Nat):Int) - 1)]=Zv l 0:=by first | rfl | (exact Qdr hn1) | (exact Qal fhc1 (by assumption)) | (exact Qan hx1 fhc1 (by assumption)) | (exact Qb0 hpl hx1 fhc1 (by assumption) (by assumption) (by assumption)) | (exact QbT hpl hx1 fhc1 (by assumption) (by assumption) (by assumption)) | (simp;done) | omega
 refine VRun.loop (A:=Nat) (fun s_=> [(0,(rd 4 Qb l)),(2,T.nils),(3,(T.os 1 0 0 (((Zv l s_).map (Qh true)).length))),(4,(tI (((l.length:Nat):Int) - 1 - ((s_:Nat):Int))))]) (fun s_=>ZR [(0,(Obj.rows 1 ((Zv l s_).map (Qh true))))]) 1 (fun s_=>s_≤l.length) (fun s_=>l.length - s_) (0:Nat) ?_ (Wk.mk (fun k=>if k=0 then 2 else k) ?_ ?_ ?_) ?_
 ·first | trivial | (simp;done) | omega | (constructor<;>simp)
 ·exact (b2 (b2 (bc ⟨(congrArg (fun l_=>T.os 1 2 0 (List.map (Qh true) l_).length) he1),rfl⟩ (bc ⟨(congrArg (T.int .i64) (show (((l.length:Nat):Int) - 1)=((l.length:Nat):Int) - 1 - ((0:Nat):Int) from (by first | rfl | omega | (simp;done) | (push_cast;omega)))),rfl⟩ bn))))
 ·exact (bc ⟨(congrArg (fun l_=>some (Obj.rows 1 (List.map (Qh true) l_))) he1),(lb Y),rfl⟩ bn)
 ·exact nd Y
 rintro j (hI':j≤l.length)
 show VRun _ _ _ [(0,(rd 4 Qb l)),(2,T.nils),(3,(T.os 1 0 0 (((Zv l j).map (Qh true)).length))),(4,(tI (((l.length:Nat):Int) - 1 - ((j:Nat):Int))))] (ZR [(0,(Obj.rows 1 ((Zv l j).map (Qh true))))]) 1 _
 have hI1:=hI'
 have hul:=Qeo l j
 refine sq (sr (mO (tI (((l.length:Nat):Int) - 1 - ((j:Nat):Int))) Y (fO (xge (tv (tI (((l.length:Nat):Int) - 1 - ((j:Nat):Int))) Y) (VEv.int .i64 0)) (nt ?_))))
 refine cd (0≤((l.length:Nat):Int) - 1 - ((j:Nat):Int)) Y (fun fhc1=> ?_) fun fhc1=> ?_
 ·refine sk ?_
  refine tn (sq (VRun.block (sq (sr (mO (T.os 1 0 0 (((Zv l j).map (Qh true)).length)) Y (mO (tI (((l.length:Nat):Int) - 1 - ((j:Nat):Int))) Y (cO (cS (us:= [(rd 1 Qh (Zv l j)),(tI (((l.length:Nat):Int) - 1 - ((j:Nat):Int)))]) (vc (tv (T.os 1 0 0 (((Zv l j).map (Qh true)).length)) Y) (vc (tv (tI (((l.length:Nat):Int) - 1 - ((j:Nat):Int))) Y) vn)) (LendL.cons (Lend.os Y Y (okInt.fzMap _ _)) (lp Y ln)) (QcG (n+3) (Zv l j) (((l.length:Nat):Int) - 1 - ((j:Nat):Int)) (by first | assumption | omega)) Y Y) (fO (QZ (tv (tB (decide ((((l.length:Nat):Int) - 1 - ((j:Nat):Int))∈(Zv l j)))) Y)) (mO (tB (!(decide ((((l.length:Nat):Int) - 1 - ((j:Nat):Int))∈(Zv l j))))) Y ?_)))))))))
  refine gn ((((l.length:Nat):Int) - 1 - ((j:Nat):Int))∈(Zv l j)) (fun fhg27_2=> ?_) fun fhg27_2=> ?_
  ·refine QB 6 4 false 27 (ny fhg27_2) Y Y Y ?_
   refine fO (OF.pickT (VEv.tmpB Y (ny fhg27_2)) (VEv.bool true)) (nt (ct Y (VRun.exit (vthn.e (vinB.e (tn (VRun.region (mO (tI (((l.length:Nat):Int) - 1 - ((j:Nat):Int))) Y (fO (B.sub (n:=(((l.length:Nat):Int) - 1 - ((j:Nat):Int) - 1)) (tv (tI (((l.length:Nat):Int) - 1 - ((j:Nat):Int))) Y) (VEv.int .i64 1) (by first | rfl | (rw [Qg (by omega)];omega) | (rw [Qg (by omega)];done))) (aO (tI (((l.length:Nat):Int) - 1 - ((j:Nat):Int) - 1)) Y (VRunO.nil ?_)))))))))))
   refine tn ?_
   have he3:Zv l j=Zv l (j+1):=by first | rfl | (exact Qdr hn1) | (exact Qal fhc1 (by assumption)) | (exact Qan hx1 fhc1 (by assumption)) | (exact Qb0 hpl hx1 fhc1 (by assumption) (by assumption) (by assumption)) | (exact QbT hpl hx1 fhc1 (by assumption) (by assumption) (by assumption)) | (simp;done) | omega
   refine ⟨(j+1:Nat),?_,?_,Wk.mk (fun k=>k) ?_ ?_ ?_⟩
   ·omega
   ·omega
   ·exact (b2 (b2 (bc ⟨(congrArg (fun l_=>T.os 1 0 0 (List.map (Qh true) l_).length) he3),rfl⟩ (bc ⟨(congrArg (T.int .i64) (show (((l.length:Nat):Int) - 1 - ((j:Nat):Int) - 1)=((l.length:Nat):Int) - 1 - (((j+1):Nat):Int) from (by first | rfl | omega | (simp;done) | (push_cast;omega)))),rfl⟩ bn))))
   ·exact (bc ⟨(congrArg (fun l_=>some (Obj.rows 1 (List.map (Qh true) l_))) he3),(lb Y),rfl⟩ bn)
   ·exact nd Y
  refine gF (nz fhg27_2) Y Y (OF.move (tv (rd 4 Qb l) Y)) (gF (nz fhg27_2) Y Y (OF.move (tv (tI (((l.length:Nat):Int) - 1 - ((j:Nat):Int))) Y)) ?_)
  obtain ⟨x1,hx1⟩:∃x,l[(Int.toNat (((l.length:Nat):Int) - 1 - ((j:Nat):Int)))]? =some x:=⟨_,List.getElem?_eq_getElem (by omega)⟩
  have hq1:=QeG (l:=Zv l j) (n:=x1.A)
  refine gF (nz fhg27_2) Y Y (OF.indexAddrR (row:=(Qb false x1)) (i:=(Int.toNat (((l.length:Nat):Int) - 1 - ((j:Nat):Int)))) (tv (rd 4 Qb l) Y) (tv (tI (((l.length:Nat):Int) - 1 - ((j:Nat):Int))) Y) (by omega) (Qs _ hx1) ZQ Qy Ze) (glr (tI x1.Kind) (nz fhg27_2) Y Y Y Y (lb Y) Qv Y QY (gF (nz fhg27_2) Y Y (ZU (tv (tI x1.Kind) Y) (VEv.int .i64 1)) (fO (OF.pickF (VEv.tmpB Y (nz fhg27_2)) (tv (tB (decide (x1.Kind=1))) Y)) (nt ?_))))
  refine cd (x1.Kind=1) Y (fun fhc2=> ?_) fun fhc2=> ?_
  ·refine VRun.exit ?_
   refine vthn.e (vinB.e (tn (VRun.region (mO (tI (((l.length:Nat):Int) - 1 - ((j:Nat):Int))) Y (fO (B.sub (n:=(((l.length:Nat):Int) - 1 - ((j:Nat):Int) - 1)) (tv (tI (((l.length:Nat):Int) - 1 - ((j:Nat):Int))) Y) (VEv.int .i64 1) (by first | rfl | (rw [Qg (by omega)];omega) | (rw [Qg (by omega)];done))) (aO (tI (((l.length:Nat):Int) - 1 - ((j:Nat):Int) - 1)) Y (VRunO.nil (tn ?_))))))))
   have he4:Zv l j=Zv l (j+1):=by first | rfl | (exact Qdr hn1) | (exact Qal fhc1 (by assumption)) | (exact Qan hx1 fhc1 (by assumption)) | (exact Qb0 hpl hx1 fhc1 (by assumption) (by assumption) (by assumption)) | (exact QbT hpl hx1 fhc1 (by assumption) (by assumption) (by assumption)) | (simp;done) | omega
   refine ⟨(j+1:Nat),?_,?_,Wk.mk (fun k=>k) ?_ ?_ ?_⟩
   ·omega
   ·omega
   ·exact (b2 (b2 (bc ⟨(congrArg (fun l_=>T.os 1 0 0 (List.map (Qh true) l_).length) he4),rfl⟩ (bc ⟨(congrArg (T.int .i64) (show (((l.length:Nat):Int) - 1 - ((j:Nat):Int) - 1)=((l.length:Nat):Int) - 1 - (((j+1):Nat):Int) from (by first | rfl | omega | (simp;done) | (push_cast;omega)))),rfl⟩ bn))))
   ·exact (bc ⟨(congrArg (fun l_=>some (Obj.rows 1 (List.map (Qh true) l_))) he4),(lb Y),rfl⟩ bn)
   ·exact nd Y
  refine sk (tn (sr (mO (T.os 1 0 0 (((Zv l j).map (Qh true)).length)) Y (mO (rd 4 Qb l) Y (mO (tI (((l.length:Nat):Int) - 1 - ((j:Nat):Int))) Y (fO (OF.indexAddrR (row:=(Qb false x1)) (i:=(Int.toNat (((l.length:Nat):Int) - 1 - ((j:Nat):Int)))) (tv (rd 4 Qb l) Y) (tv (tI (((l.length:Nat):Int) - 1 - ((j:Nat):Int))) Y) (by omega) (Qs _ hx1) ZQ Qy Ze) (lr (tI x1.A) Y (lb Y) QM Y QY (cO (OC.callF (us:= [(rd 1 Qh (Zv l j)),(tI x1.A)]) (r':=(T.os 1 1 0 (((QN (Zv l j) x1.A).map (Qh true)).length))) (objs:= [(Obj.rows 1 ((QN (Zv l j) x1.A).map (Qh true)))]) Y (vc (tv (T.os 1 0 0 (((Zv l j).map (Qh true)).length)) Y) (vc (tv (tI x1.A) Y) vn)) (LendL.cons (Lend.os Y Y (okInt.fzMap _ _)) (lp Y ln)) (QaA (n+3) (Zv l j) x1.A (by first | assumption | omega)) Y) (aO (T.os 1 1 0 (((QN (Zv l j) x1.A).map (Qh true)).length)) Y (nt (sr ?_)))))))))))
  refine mO (rd 4 Qb l) Y (mO (tI (((l.length:Nat):Int) - 1 - ((j:Nat):Int))) Y (fO (OF.indexAddrR (row:=(Qb false x1)) (i:=(Int.toNat (((l.length:Nat):Int) - 1 - ((j:Nat):Int)))) (tv (rd 4 Qb l) Y) (tv (tI (((l.length:Nat):Int) - 1 - ((j:Nat):Int))) Y) (by omega) (Qs _ hx1) ZQ Qy Ze) (lr (tI x1.Kind) Y (lb Y) Qv Y QY (fO (ZU (tv (tI x1.Kind) Y) (VEv.int .i64 4)) (mO (tB (decide (x1.Kind=4))) Y ?_)))))
  refine VRunO.joinB 7 [49,50,51,52,53,54] 55 (tB (decide ((x1.Kind=4)∨(x1.Kind=5)))) ?_ ?_
  ·refine gw (x1.Kind=4) (fun fhg48_5=> ?_) fun fhg48_5=> ?_
   ·refine QB 6 6 false 48 (dy fhg48_5) Y Y Y ?_
    refine fO (OF.pickT (VEv.tmpB Y (dy fhg48_5)) (VEv.bool true)) (VRunO.nil ?_)
    exact jq (congrArg T.bool (kOT fhg48_5)) (js Y (js Y (js Y (js Y (js Y (js Y (jn)))))))
   ·refine gF (dz fhg48_5) Y Y (OF.move (tv (rd 4 Qb l) Y)) ?_
    refine gF (dz fhg48_5) Y Y (OF.move (tv (tI (((l.length:Nat):Int) - 1 - ((j:Nat):Int))) Y)) (gF (dz fhg48_5) Y Y (OF.indexAddrR (row:=(Qb false x1)) (i:=(Int.toNat (((l.length:Nat):Int) - 1 - ((j:Nat):Int)))) (tv (rd 4 Qb l) Y) (tv (tI (((l.length:Nat):Int) - 1 - ((j:Nat):Int))) Y) (by omega) (Qs _ hx1) ZQ Qy Ze) (glr (tI x1.Kind) (dz fhg48_5) Y Y Y Y (lb Y) Qv Y QY (gF (dz fhg48_5) Y Y (ZU (tv (tI x1.Kind) Y) (VEv.int .i64 5)) (fO (OF.pickF (VEv.tmpB Y (dz fhg48_5)) (tv (tB (decide (x1.Kind=5))) Y)) (VRunO.nil ?_)))))
    exact jq (congrArg T.bool (kOF fhg48_5 Y)) (js Y (js Y (js Y (js Y (js Y (js Y (jn)))))))
  refine nt ?_
  refine cd ((x1.Kind=4)∨(x1.Kind=5)) Y (fun fhc3=> ?_) fun fhc3=> ?_
  ·refine VRun.region ?_
   refine mO (T.os 1 1 0 (((QN (Zv l j) x1.A).map (Qh true)).length)) Y (mO (rd 4 Qb l) Y (mO (tI (((l.length:Nat):Int) - 1 - ((j:Nat):Int))) Y (fO (OF.indexAddrR (row:=(Qb false x1)) (i:=(Int.toNat (((l.length:Nat):Int) - 1 - ((j:Nat):Int)))) (tv (rd 4 Qb l) Y) (tv (tI (((l.length:Nat):Int) - 1 - ((j:Nat):Int))) Y) (by omega) (Qs _ hx1) ZQ Qy Ze) (lr (tI x1.B) Y (lb Y) Zd Y QY (cO (OC.callF (us:= [(rd 1 Qh (QN (Zv l j) x1.A)),(tI x1.B)]) (r':=(T.os 1 2 0 (((QN (QN (Zv l j) x1.A) x1.B).map (Qh true)).length))) (objs:= [(Obj.rows 1 ((QN (QN (Zv l j) x1.A) x1.B).map (Qh true)))]) Y (vc (tv (T.os 1 1 0 (((QN (Zv l j) x1.A).map (Qh true)).length)) Y) (vc (tv (tI x1.B) Y) vn)) (LendL.cons (Lend.os Y Y (okInt.fzMap _ _)) (lp Y ln)) (QaA (n+3) (QN (Zv l j) x1.A) x1.B (by first | assumption | omega)) Y) (aO (T.os 1 2 0 (((QN (QN (Zv l j) x1.A) x1.B).map (Qh true)).length)) Y (VRunO.nil (vinB.n (tn (VRun.region (mO (tI (((l.length:Nat):Int) - 1 - ((j:Nat):Int))) Y ?_)))))))))))
   refine fO (B.sub (n:=(((l.length:Nat):Int) - 1 - ((j:Nat):Int) - 1)) (tv (tI (((l.length:Nat):Int) - 1 - ((j:Nat):Int))) Y) (VEv.int .i64 1) (by first | rfl | (rw [Qg (by omega)];omega) | (rw [Qg (by omega)];done))) (aO (tI (((l.length:Nat):Int) - 1 - ((j:Nat):Int) - 1)) Y (VRunO.nil (tn ?_)))
   have he6:QN (QN (Zv l j) x1.A) x1.B=Zv l (j+1):=by first | rfl | (exact Qdr hn1) | (exact Qal fhc1 (by assumption)) | (exact Qan hx1 fhc1 (by assumption)) | (exact Qb0 hpl hx1 fhc1 (by assumption) (by assumption) (by assumption)) | (exact QbT hpl hx1 fhc1 (by assumption) (by assumption) (by assumption)) | (simp;done) | omega
   refine ⟨(j+1:Nat),?_,?_,Wk.mk (fun k=>if k=0 then 2 else k) ?_ ?_ ?_⟩
   ·omega
   ·omega
   ·exact (b2 (b2 (bc ⟨(congrArg (fun l_=>T.os 1 2 0 (List.map (Qh true) l_).length) he6),rfl⟩ (bc ⟨(congrArg (T.int .i64) (show (((l.length:Nat):Int) - 1 - ((j:Nat):Int) - 1)=((l.length:Nat):Int) - 1 - (((j+1):Nat):Int) from (by first | rfl | omega | (simp;done) | (push_cast;omega)))),rfl⟩ bn))))
   ·exact (bc ⟨(congrArg (fun l_=>some (Obj.rows 1 (List.map (Qh true) l_))) he6),(lb Y),rfl⟩ bn)
   ·exact nd Y
  refine sk (vinB.n (tn (VRun.region (mO (tI (((l.length:Nat):Int) - 1 - ((j:Nat):Int))) Y (fO (B.sub (n:=(((l.length:Nat):Int) - 1 - ((j:Nat):Int) - 1)) (tv (tI (((l.length:Nat):Int) - 1 - ((j:Nat):Int))) Y) (VEv.int .i64 1) (by first | rfl | (rw [Qg (by omega)];omega) | (rw [Qg (by omega)];done))) (aO (tI (((l.length:Nat):Int) - 1 - ((j:Nat):Int) - 1)) Y (VRunO.nil (tn ?_))))))))
  have he7:QN (Zv l j) x1.A=Zv l (j+1):=by first | rfl | (exact Qdr hn1) | (exact Qal fhc1 (by assumption)) | (exact Qan hx1 fhc1 (by assumption)) | (exact Qb0 hpl hx1 fhc1 (by assumption) (by assumption) (by assumption)) | (exact QbT hpl hx1 fhc1 (by assumption) (by assumption) (by assumption)) | (simp;done) | omega
  refine ⟨(j+1:Nat),?_,?_,Wk.mk (fun k=>if k=0 then 1 else k) ?_ ?_ ?_⟩
  ·omega
  ·omega
  ·exact (b2 (b2 (bc ⟨(congrArg (fun l_=>T.os 1 1 0 (List.map (Qh true) l_).length) he7),rfl⟩ (bc ⟨(congrArg (T.int .i64) (show (((l.length:Nat):Int) - 1 - ((j:Nat):Int) - 1)=((l.length:Nat):Int) - 1 - (((j+1):Nat):Int) from (by first | rfl | omega | (simp;done) | (push_cast;omega)))),rfl⟩ bn))))
  ·exact (bc ⟨(congrArg (fun l_=>some (Obj.rows 1 (List.map (Qh true) l_))) he7),(lb Y),rfl⟩ bn)
  ·exact nd Y
 refine VRun.exit (vthn.e (vthn.e (vinB.e (tn (sr (mO (T.os 1 0 0 (((Zv l j).map (Qh true)).length)) Y (aO (T.os 1 0 0 (((Zv l j).map (Qh true)).length)) Y (nt (rt ?_)))))))))
 refine vfin.eq (r':=(T.sl true 1 ((Zv l j).map (Qh true)))) ?_ (vfin.r (VRes.tmp (t:=(T.os 1 0 0 (((Zv l j).map (Qh true)).length))) Y VRes.nil) (Give.os Y Y (okInt.cleanMap _)))
 refine congrArg (fun l_=>T.sl true 1 (List.map (Qh true) l_)) ?_
 rw [show j=l.length by omega];exact (if_pos hpl).symm
theorem QaV (n:Nat) (l:List D.Step) (hz:zL Zy l≤mx):Pure (Qm Tryd.prog (n+4)) 34 [(rd 4 Qb l)] (T.sl true 1 ((Zi l).map (Qh true))):=by
 refine Pure.intro (rs:= [ResultVar.tmp 2]) Tryd.func34 Y Y Y (E0:= [(0,(rd 4 Qb l))]) Y ?_
 obtain ⟨hlim,hmx,hmax⟩:=QG
 have hl:=JD (z:=Zy) l
 refine sr (fO (OF.assign VEv.nils) (nt (sq (sr (mO (rd 4 Qb l) Y (cO (cS (vc (tv (rd 4 Qb l) Y) vn) (QR Y) (J2 (n+0) l (by first | assumption | omega)) Y Y) (fO (QZ (tv (tB (decide (Qp l))) Y)) (nt ?_))))))))
 refine cn (Qp l) Y (fun fhc0=> ?_) fun fhc0=> ?_
 ·refine sr ?_
  refine fO (OF.assign VEv.nils) (nt (rt (tr ?_)))
  refine vfin.eq (r':=(T.sl true 1 [])) ?_ (vfin.r (VRes.tmp (t:=T.nils) Y VRes.nil) (Give.nils 1))
  refine congrArg (fun l_=>T.sl true 1 (List.map (Qh true) l_)) (a₁:= []) ?_
  exact (if_neg (by assumption)).symm
 have hpl:Qp l:=fhc0
 have hn1:=hpl.1.1
 have hn9:=hpl.1.2
 refine sk (tn (sr (mO (rd 4 Qb l) Y (lO (B.lenR (m:=l.length) (tv (rd 4 Qb l) Y) ZQ (List.length_map ..)) (kO (B.makeZ (n:=l.length) (m:=((List.replicate l.length false).map (QE true)).length) (rows:=((List.replicate l.length false).map (QE true))) (zr:=(QE true false)) (tv (tN l.length) Y) (tv (tN l.length) Y) Y U95 zo4 zc4 Y (by rw [sz4];decide) (by first | omega | (simp only [List.length_map];omega) | (simp only [List.length_map,List.length_append,List.length_cons,List.length_nil,List.length_replicate,List.length_set,List.length_drop,List.length_take,Zb] at *;omega)) (of_decide_eq_true (by kernel_rfl)) (Z0.bool Z0.nil) sz4 (List.map_replicate ..).symm (by rw [List.length_map,List.length_replicate])) (aO (T.os 1 0 0 (((List.replicate l.length false).map (QE true)).length)) Y (nt (sr (mO (T.os 1 0 0 (((List.replicate l.length false).map (QE true)).length)) Y (mO (rd 4 Qb l) Y (lO (B.lenR (m:=l.length) (tv (rd 4 Qb l) Y) ZQ (List.length_map ..)) ?_)))))))))))
 refine fO (B.sub (n:=(((l.length:Nat):Int) - 1)) (tv (tN l.length) Y) (VEv.int .i64 1) (by first | rfl | (rw [Qg (by omega)];omega) | (rw [Qg (by omega)];done))) ?_
 obtain ⟨x1,hx1⟩:∃x,(List.replicate l.length false)[(Int.toNat (((l.length:Nat):Int) - 1))]? =some x:=⟨_,List.getElem?_eq_getElem (by first | omega | (simp only [List.length_map];omega) | (simp only [List.length_map,List.length_append,List.length_cons,List.length_nil,List.length_replicate,List.length_set,List.length_drop,List.length_take,Zb] at *;omega))⟩
 refine fO (B.indexAddrO (i:=(Int.toNat (((l.length:Nat):Int) - 1))) (tv (T.os 1 0 0 (((List.replicate l.length false).map (QE true)).length)) Y) (tv (tI (((l.length:Nat):Int) - 1)) Y) (by omega) (by first | omega | (simp only [List.length_map];omega) | (simp only [List.length_map,List.length_append,List.length_cons,List.length_nil,List.length_replicate,List.length_set,List.length_drop,List.length_take,Zb] at *;omega)) U95 sz4 if4) (cO (B.storeP (us:= [(tB true)]) (rows':=(((List.replicate l.length false).set (Int.toNat (((l.length:Nat):Int) - 1)) true).map (QE true))) (row:=(QE true x1)) (tv (T.orp 1 0 (Int.toNat (((l.length:Nat):Int) - 1)) 0) Y) (VEv.bool true) nofun Y (Qs _ hx1) Y (lb Y) if4 sz4 (bc Y bn) (by intro r hr t ht;obtain ⟨x,_,rfl⟩:=List.mem_map.1 hr;rw [QdZ] at ht;exact ZS (okBool.pl _ t ht)) (YC Y)) (nt (sq (sr (mO (rd 4 Qb l) Y (lO (B.lenR (m:=l.length) (tv (rd 4 Qb l) Y) ZQ (List.length_map ..)) (fO (B.sub (n:=(((l.length:Nat):Int) - 1)) (tv (tN l.length) Y) (VEv.int .i64 1) (by first | rfl | (rw [Qg (by omega)];omega) | (rw [Qg (by omega)];done))) (aO (tI (((l.length:Nat):Int) - 1)) Y (nt (VRun.block ?_))))))))))
 have he1:((List.replicate l.length false).set (Int.toNat (((l.length:Nat):Int) - 1)) true)=Zm l 0:=by first | rfl | (rw [← Qdh];congr 1;omega) | (exact Qaj fhc1 hx3 (by assumption)) | (exact Qaz hx2 fhc1 (by assumption)) | (exact QbB hx2 fhc1 hx3 (by assumption) (by assumption) (by assumption)) | (exact QbV hx2 fhc1 hx3 (by assumption) (by assumption) (by assumption)) | (simp;done) | omega
 refine VRun.loop (A:=Nat) (fun s_=> [(0,(rd 4 Qb l)),(2,T.nils),(3,(T.os 1 0 0 (((Zm l s_).map (QE true)).length))),(4,(tI (((l.length:Nat):Int) - 1 - ((s_:Nat):Int))))]) (fun s_=>ZR [(0,(Obj.rows 1 ((Zm l s_).map (QE true))))]) 1 (fun s_=>s_≤l.length) (fun s_=>l.length - s_) (0:Nat) ?_ (Wk.mk (fun k=>k) ?_ ?_ ?_) ?_
 ·first | trivial | (simp;done) | omega | (constructor<;>simp)
 ·exact (b2 (b2 (bc ⟨(congrArg (fun n_=>T.os 1 0 0 n_) (show ((List.replicate l.length false).map (QE true)).length=((Zm l 0).map (QE true)).length from (by first | rfl | (simp only [List.length_map,List.length_set,Qaq,List.length_replicate]) | (simp only [List.length_map];omega) | (simp only [List.length_map,List.length_set,List.length_append,List.length_take,List.length_replicate,List.length_cons,List.length_nil];omega)))),rfl⟩ (bc ⟨(congrArg (T.int .i64) (show (((l.length:Nat):Int) - 1)=((l.length:Nat):Int) - 1 - ((0:Nat):Int) from (by first | rfl | omega | (simp;done) | (push_cast;omega)))),rfl⟩ bn))))
 ·exact (bc ⟨(congrArg (fun l_=>some (Obj.rows 1 (List.map (QE true) l_))) he1),(lb Y),rfl⟩ bn)
 ·exact nd Y
 rintro j (hI':j≤l.length)
 show VRun _ _ _ [(0,(rd 4 Qb l)),(2,T.nils),(3,(T.os 1 0 0 (((Zm l j).map (QE true)).length))),(4,(tI (((l.length:Nat):Int) - 1 - ((j:Nat):Int))))] (ZR [(0,(Obj.rows 1 ((Zm l j).map (QE true))))]) 1 _
 have hI1:=hI'
 have hul:=Qaq l j
 refine sq (sr (mO (tI (((l.length:Nat):Int) - 1 - ((j:Nat):Int))) Y (fO (xge (tv (tI (((l.length:Nat):Int) - 1 - ((j:Nat):Int))) Y) (VEv.int .i64 0)) (nt ?_))))
 refine cd (0≤((l.length:Nat):Int) - 1 - ((j:Nat):Int)) Y (fun fhc1=> ?_) fun fhc1=> ?_
 ·refine sk ?_
  refine tn (sq (VRun.block (sr (mO (rd 4 Qb l) Y (mO (tI (((l.length:Nat):Int) - 1 - ((j:Nat):Int))) Y ?_)))))
  obtain ⟨x2,hx2⟩:∃x,l[(Int.toNat (((l.length:Nat):Int) - 1 - ((j:Nat):Int)))]? =some x:=⟨_,List.getElem?_eq_getElem (by omega)⟩
  refine fO (OF.indexAddrR (row:=(Qb false x2)) (i:=(Int.toNat (((l.length:Nat):Int) - 1 - ((j:Nat):Int)))) (tv (rd 4 Qb l) Y) (tv (tI (((l.length:Nat):Int) - 1 - ((j:Nat):Int))) Y) (by omega) (Qs _ hx2) ZQ Qy Ze) (lO (OL.loadRn (us:=(Qb false x2)) (tv (T.rp (Qb false x2)) Y) Zs Qy (lb Y) Y) (kO (B.alloc (t:=(T.agg [(tN 0),(tS ByteArray.empty),(tN 0),(tN 0)])) (ts:= [(tN 0),(tS ByteArray.empty),(tN 0),(tN 0)]) Yb Qez nofun (fun _=> .agg _ _ Y (Ys (RL.cons (.int _ _) (RL.cons (.str _) (RL.cons (.int _ _) (RL.cons (.int _ _) (RL.nil _))))))) Y) (cO (B.storeW (us:=(Qb false x2)) (tv (T.op 1 0) Y) (tv (T.agg (Qb false x2)) Y) nofun Y Y Y Ze Qy (bc Y (bc Y (bc Y (bc Y bn))))) (nt (sr (mO (T.os 1 0 0 (((Zm l j).map (QE true)).length)) Y (mO (tI (((l.length:Nat):Int) - 1 - ((j:Nat):Int))) Y ?_)))))))
  obtain ⟨x3,hx3⟩:∃x,(Zm l j)[(Int.toNat (((l.length:Nat):Int) - 1 - ((j:Nat):Int)))]? =some x:=⟨_,List.getElem?_eq_getElem (by omega)⟩
  refine fO (B.indexAddrO (i:=(Int.toNat (((l.length:Nat):Int) - 1 - ((j:Nat):Int)))) (tv (T.os 1 0 0 (((Zm l j).map (QE true)).length)) Y) (tv (tI (((l.length:Nat):Int) - 1 - ((j:Nat):Int))) Y) (by omega) (by first | omega | (simp only [List.length_map];omega) | (simp only [List.length_map,List.length_append,List.length_cons,List.length_nil,List.length_replicate,List.length_set,List.length_drop,List.length_take,Zb] at *;omega)) U95 sz4 if4) (lO (OL.loadP1 (t:=(tB x3)) (row:=(QE true x3)) (tv (T.orp 1 0 (Int.toNat (((l.length:Nat):Int) - 1 - ((j:Nat):Int))) 0) Y) Y (Qs _ hx3) Y Y st4) (mO (tB x3) Y ?_))
  refine Qau x3 (fun hg35_2=> ?_) (fun hg35_2=> ?_)
  ·have fhg35_2:x3=true:=hg35_2
   refine JZ (tI x2.Kind) hg35_2 Y Y Y Y Qv Y Y QY (gF hg35_2 Y Y (xne (tv (tI x2.Kind) Y) (VEv.int .i64 1)) (fO (OF.pickT (VEv.tmpB Y hg35_2) (tv (tB (!(decide (x2.Kind=1)))) Y)) (nt ?_)))
   refine cn (x2.Kind=1) Y (fun fhc2=> ?_) fun fhc2=> ?_
   ·have hpb:=Qbm hpl hx2 fhc2
    refine sr (mO (T.os 1 0 0 (((Zm l j).map (QE true)).length)) Y (lf (tI x2.A) Y QM Y Y QY ?_))
    obtain ⟨x4,hx4⟩:∃x,(Zm l j)[(Int.toNat x2.A)]? =some x:=⟨_,List.getElem?_eq_getElem (by omega)⟩
    refine fO (B.indexAddrO (i:=(Int.toNat x2.A)) (tv (T.os 1 0 0 (((Zm l j).map (QE true)).length)) Y) (tv (tI x2.A) Y) (by omega) (by first | omega | (simp only [List.length_map];omega) | (simp only [List.length_map,List.length_append,List.length_cons,List.length_nil,List.length_replicate,List.length_set,List.length_drop,List.length_take,Zb] at *;omega)) U95 sz4 if4) (cO (B.storeP (us:= [(tB true)]) (rows':=(((Zm l j).set (Int.toNat x2.A) true).map (QE true))) (row:=(QE true x4)) (tv (T.orp 1 0 (Int.toNat x2.A) 0) Y) (VEv.bool true) nofun Y (Qs _ hx4) Y (lb Y) if4 sz4 (bc Y bn) (by intro r hr t ht;obtain ⟨x,_,rfl⟩:=List.mem_map.1 hr;rw [QdZ] at ht;exact ZS (okBool.pl _ t ht)) (YC Y)) (nt (sr (lf (tI x2.Kind) Y Qv Y Y QY (cO (cS (vc (tv (tI x2.Kind) Y) vn) (QR Y) (Q5 (n+2) x2.Kind) Y Y) (nt ?_))))))
    refine cd (x2.Kind=4∨x2.Kind=5) Y (fun fhc3=> ?_) fun fhc3=> ?_
    ·have hpb2:=hpb.2 fhc3
     refine VRun.region (mO (T.os 1 0 0 (((Zm l j).map (QE true)).length)) Y (lf (tI x2.B) Y Zd Y Y QY ?_))
     obtain ⟨x5,hx5⟩:∃x,((Zm l j).set (Int.toNat x2.A) true)[(Int.toNat x2.B)]? =some x:=⟨_,List.getElem?_eq_getElem (by first | omega | (simp only [List.length_map];omega) | (simp only [List.length_map,List.length_append,List.length_cons,List.length_nil,List.length_replicate,List.length_set,List.length_drop,List.length_take,Zb] at *;omega))⟩
     refine fO (B.indexAddrO (i:=(Int.toNat x2.B)) (tv (T.os 1 0 0 (((Zm l j).map (QE true)).length)) Y) (tv (tI x2.B) Y) (by omega) (by first | omega | (simp only [List.length_map];omega) | (simp only [List.length_map,List.length_append,List.length_cons,List.length_nil,List.length_replicate,List.length_set,List.length_drop,List.length_take,Zb] at *;omega)) U95 sz4 if4) (cO (B.storeP (us:= [(tB true)]) (rows':=((((Zm l j).set (Int.toNat x2.A) true).set (Int.toNat x2.B) true).map (QE true))) (row:=(QE true x5)) (tv (T.orp 1 0 (Int.toNat x2.B) 0) Y) (VEv.bool true) nofun Y (Qs _ hx5) Y (lb Y) if4 sz4 (bc Y bn) (by intro r hr t ht;obtain ⟨x,_,rfl⟩:=List.mem_map.1 hr;rw [QdZ] at ht;exact ZS (okBool.pl _ t ht)) (YC Y)) (VRunO.nil (vinB.n (tn (VRun.region (mO (tI (((l.length:Nat):Int) - 1 - ((j:Nat):Int))) Y (fO (B.sub (n:=(((l.length:Nat):Int) - 1 - ((j:Nat):Int) - 1)) (tv (tI (((l.length:Nat):Int) - 1 - ((j:Nat):Int))) Y) (VEv.int .i64 1) (by first | rfl | (rw [Qg (by omega)];omega) | (rw [Qg (by omega)];done))) (aO (tI (((l.length:Nat):Int) - 1 - ((j:Nat):Int) - 1)) Y (VRunO.nil (tn ?_))))))))))
     have he3:(((Zm l j).set (Int.toNat x2.A) true).set (Int.toNat x2.B) true)=Zm l (j+1):=by first | rfl | (rw [← Qdh];congr 1;omega) | (exact Qaj fhc1 hx3 (by assumption)) | (exact Qaz hx2 fhc1 (by assumption)) | (exact QbB hx2 fhc1 hx3 (by assumption) (by assumption) (by assumption)) | (exact QbV hx2 fhc1 hx3 (by assumption) (by assumption) (by assumption)) | (simp;done) | omega
     refine ⟨(j+1:Nat),?_,?_,Wk.mk (fun k=>k) ?_ ?_ ?_⟩
     ·omega
     ·omega
     ·exact (b2 (b2 (bc ⟨(congrArg (fun n_=>T.os 1 0 0 n_) (show ((Zm l j).map (QE true)).length=((Zm l (j+1)).map (QE true)).length from (by first | rfl | (simp only [List.length_map,List.length_set,Qaq,List.length_replicate]) | (simp only [List.length_map];omega) | (simp only [List.length_map,List.length_set,List.length_append,List.length_take,List.length_replicate,List.length_cons,List.length_nil];omega)))),rfl⟩ (bc ⟨(congrArg (T.int .i64) (show (((l.length:Nat):Int) - 1 - ((j:Nat):Int) - 1)=((l.length:Nat):Int) - 1 - (((j+1):Nat):Int) from (by first | rfl | omega | (simp;done) | (push_cast;omega)))),rfl⟩ bn))))
     ·exact (bc ⟨(congrArg (fun l_=>some (Obj.rows 1 (List.map (QE true) l_))) he3),(lb Y),rfl⟩ bn)
     ·exact nd Y
    refine sk (vinB.n (tn (VRun.region (mO (tI (((l.length:Nat):Int) - 1 - ((j:Nat):Int))) Y (fO (B.sub (n:=(((l.length:Nat):Int) - 1 - ((j:Nat):Int) - 1)) (tv (tI (((l.length:Nat):Int) - 1 - ((j:Nat):Int))) Y) (VEv.int .i64 1) (by first | rfl | (rw [Qg (by omega)];omega) | (rw [Qg (by omega)];done))) (aO (tI (((l.length:Nat):Int) - 1 - ((j:Nat):Int) - 1)) Y (VRunO.nil (tn ?_))))))))
    have he4:((Zm l j).set (Int.toNat x2.A) true)=Zm l (j+1):=by first | rfl | (rw [← Qdh];congr 1;omega) | (exact Qaj fhc1 hx3 (by assumption)) | (exact Qaz hx2 fhc1 (by assumption)) | (exact QbB hx2 fhc1 hx3 (by assumption) (by assumption) (by assumption)) | (exact QbV hx2 fhc1 hx3 (by assumption) (by assumption) (by assumption)) | (simp;done) | omega
    refine ⟨(j+1:Nat),?_,?_,Wk.mk (fun k=>k) ?_ ?_ ?_⟩
    ·omega
    ·omega
    ·exact (b2 (b2 (bc ⟨(congrArg (fun n_=>T.os 1 0 0 n_) (show ((Zm l j).map (QE true)).length=((Zm l (j+1)).map (QE true)).length from (by first | rfl | (simp only [List.length_map,List.length_set,Qaq,List.length_replicate]) | (simp only [List.length_map];omega) | (simp only [List.length_map,List.length_set,List.length_append,List.length_take,List.length_replicate,List.length_cons,List.length_nil];omega)))),rfl⟩ (bc ⟨(congrArg (T.int .i64) (show (((l.length:Nat):Int) - 1 - ((j:Nat):Int) - 1)=((l.length:Nat):Int) - 1 - (((j+1):Nat):Int) from (by first | rfl | omega | (simp;done) | (push_cast;omega)))),rfl⟩ bn))))
    ·exact (bc ⟨(congrArg (fun l_=>some (Obj.rows 1 (List.map (QE true) l_))) he4),(lb Y),rfl⟩ bn)
    ·exact nd Y
   refine sk (vinB.n (tn (VRun.region (mO (tI (((l.length:Nat):Int) - 1 - ((j:Nat):Int))) Y (fO (B.sub (n:=(((l.length:Nat):Int) - 1 - ((j:Nat):Int) - 1)) (tv (tI (((l.length:Nat):Int) - 1 - ((j:Nat):Int))) Y) (VEv.int .i64 1) (by first | rfl | (rw [Qg (by omega)];omega) | (rw [Qg (by omega)];done))) (aO (tI (((l.length:Nat):Int) - 1 - ((j:Nat):Int) - 1)) Y (VRunO.nil (tn ?_))))))))
   have he5:Zm l j=Zm l (j+1):=by first | rfl | (rw [← Qdh];congr 1;omega) | (exact Qaj fhc1 hx3 (by assumption)) | (exact Qaz hx2 fhc1 (by assumption)) | (exact QbB hx2 fhc1 hx3 (by assumption) (by assumption) (by assumption)) | (exact QbV hx2 fhc1 hx3 (by assumption) (by assumption) (by assumption)) | (simp;done) | omega
   refine ⟨(j+1:Nat),?_,?_,Wk.mk (fun k=>k) ?_ ?_ ?_⟩
   ·omega
   ·omega
   ·exact (b2 (b2 (bc ⟨(congrArg (fun l_=>T.os 1 0 0 (List.map (QE true) l_).length) he5),rfl⟩ (bc ⟨(congrArg (T.int .i64) (show (((l.length:Nat):Int) - 1 - ((j:Nat):Int) - 1)=((l.length:Nat):Int) - 1 - (((j+1):Nat):Int) from (by first | rfl | omega | (simp;done) | (push_cast;omega)))),rfl⟩ bn))))
   ·exact (bc ⟨(congrArg (fun l_=>some (Obj.rows 1 (List.map (QE true) l_))) he5),(lb Y),rfl⟩ bn)
   ·exact nd Y
  have fhg35_2:x3=false:=hg35_2
  refine QB 3 4 true 35 hg35_2 Y Y Y (fO (OF.pickF (VEv.tmpB Y hg35_2) (VEv.bool false)) (nt (cf Y (sk (vinB.n (tn (VRun.region (mO (tI (((l.length:Nat):Int) - 1 - ((j:Nat):Int))) Y (fO (B.sub (n:=(((l.length:Nat):Int) - 1 - ((j:Nat):Int) - 1)) (tv (tI (((l.length:Nat):Int) - 1 - ((j:Nat):Int))) Y) (VEv.int .i64 1) (by first | rfl | (rw [Qg (by omega)];omega) | (rw [Qg (by omega)];done))) (aO (tI (((l.length:Nat):Int) - 1 - ((j:Nat):Int) - 1)) Y (VRunO.nil ?_)))))))))))
  refine tn ?_
  have he6:Zm l j=Zm l (j+1):=by first | rfl | (rw [← Qdh];congr 1;omega) | (exact Qaj fhc1 hx3 (by assumption)) | (exact Qaz hx2 fhc1 (by assumption)) | (exact QbB hx2 fhc1 hx3 (by assumption) (by assumption) (by assumption)) | (exact QbV hx2 fhc1 hx3 (by assumption) (by assumption) (by assumption)) | (simp;done) | omega
  refine ⟨(j+1:Nat),?_,?_,Wk.mk (fun k=>k) ?_ ?_ ?_⟩
  ·omega
  ·omega
  ·exact (b2 (b2 (bc ⟨(congrArg (fun l_=>T.os 1 0 0 (List.map (QE true) l_).length) he6),rfl⟩ (bc ⟨(congrArg (T.int .i64) (show (((l.length:Nat):Int) - 1 - ((j:Nat):Int) - 1)=((l.length:Nat):Int) - 1 - (((j+1):Nat):Int) from (by first | rfl | omega | (simp;done) | (push_cast;omega)))),rfl⟩ bn))))
  ·exact (bc ⟨(congrArg (fun l_=>some (Obj.rows 1 (List.map (QE true) l_))) he6),(lb Y),rfl⟩ bn)
  ·exact nd Y
 refine VRun.exit (vthn.e (vthn.e (vinB.e (tn (sr (fO (OF.assign VEv.nils) (nt (sq (sr (mO (T.os 1 0 0 (((Zm l j).map (QE true)).length)) Y (lO (B.lenO (m:=(Zm l j).length) (tv (T.os 1 0 0 (((Zm l j).map (QE true)).length)) Y) U95 (List.length_map ..)) ?_)))))))))))
 refine fO (OF.move (VEv.int .i64 0)) (nt (VRun.block (VRun.wk (Wk.phantom 6 1 Y) ?_)))
 have he7: []=((Zo (ZJ l l.length) 0).map (Qh true)):=by first | rfl | (rw [Y7 hjl hx2,if_pos (by assumption)]) | (rw [Y7 hjl hx2,if_neg (by simp_all)]) | (simp;done) | omega
 refine VRun.loop (A:=Nat) (fun s_=> [(2,T.nils),(6,(T.os 1 1 0 (((Zo (ZJ l l.length) s_).map (Qh true)).length))),(51,(T.os 1 0 0 (((Zm l j).map (QE true)).length))),(52,(tN ((Zm l j).length))),(53,(tN s_))]) (fun s_=>ZR [(0,(Obj.rows 1 ((Zm l j).map (QE true)))),(1,(Obj.rows 1 ((Zo (ZJ l l.length) s_).map (Qh true))))]) 2 (fun s_=>s_≤l.length) (fun s_=>l.length - s_) (0:Nat) ?_ (Wk.mk (fun k=>k) ?_ ?_ ?_) ?_
 ·first | trivial | (simp;done) | omega | (constructor<;>simp)
 ·exact (b2 (bc ⟨(congrArg (fun n_=>T.os 1 1 0 n_) (show 0=((Zo (ZJ l l.length) 0).map (Qh true)).length from (by first | rfl | (simp only [List.length_map];omega) | (simp only [List.length_map,List.length_set,List.length_append,List.length_take,List.length_replicate,List.length_cons,List.length_nil];omega)))),rfl⟩ (b2 (b2 (b2 bn)))))
 ·exact (b3 (bc ⟨(congrArg (fun l_=>some (Obj.rows 1 l_)) he7),(lb Y),rfl⟩ bn))
 ·exact nd Y
 rintro i (hI':i≤l.length)
 show VRun _ _ _ [(2,T.nils),(6,(T.os 1 1 0 (((Zo (ZJ l l.length) i).map (Qh true)).length))),(51,(T.os 1 0 0 (((Zm l j).map (QE true)).length))),(52,(tN ((Zm l j).length))),(53,(tN i))] (ZR [(0,(Obj.rows 1 ((Zm l j).map (QE true)))),(1,(Obj.rows 1 ((Zo (ZJ l l.length) i).map (Qh true))))]) 2 _
 have hJ1:=hI'
 have hjl:j=l.length:=(by omega)
 have hcl:=Qbz (ZJ l l.length) i
 refine sr (fO (Yr (tv (tN i) Y) (tv (tN ((Zm l j).length)) Y)) (nt (sq ?_)))
 refine cd (i<(Zm l j).length) Y (fun fhc4=> ?_) fun fhc4=> ?_
 ·refine sk ?_
  refine tn (sq (VRun.block (sr (mO (tN i) Y ?_))))
  obtain ⟨x2,hx2⟩:∃x,(Zm l j)[i]? =some x:=⟨_,List.getElem?_eq_getElem (by omega)⟩
  refine fO (B.indexAddrO (i:=i) (tv (T.os 1 0 0 (((Zm l j).map (QE true)).length)) Y) (tv (tN i) Y) Y (by first | omega | (simp only [List.length_map];omega) | (simp only [List.length_map,List.length_append,List.length_cons,List.length_nil,List.length_replicate,List.length_set,List.length_drop,List.length_take,Zb] at *;omega)) U95 sz4 if4) (lO (OL.loadP1 (t:=(tB x2)) (row:=(QE true x2)) (tv (T.orp 1 0 i 0) Y) Y (Qs _ hx2) Y Y st4) (aO (tN i) Y (aO (tB x2) Y (nt (sr (mO (tB x2) Y (nt ?_)))))))
  refine VRun.cond (tv (tB x2) Y) (fun hc5=> ?_) (fun hc5=> ?_)
  ·have fhc5:x2=true:=hc5
   refine VRun.region (mO (T.os 1 1 0 (((Zo (ZJ l l.length) i).map (Qh true)).length)) Y (mO (tN i) Y (kO (OM.buildSlice (l:= [(tN i)]) (VEvp.cons (tv (tN i) Y) VEvp.nil) Y (by decide) (bc (nofun) bn) (bc ((bc (Y) bn)) bn) (bc (Y) bn) Yn zo3 (by kernel_rfl) Y (by rw [Zg];decide) Zg (Nat.le_of_ble_eq_true Y)) (cO (B.append (rows:=((Zo (ZJ l l.length) i).map (Qh true))) (rows2:= [[(tN i)]]) (rows3:=((Zo (ZJ l l.length) i++ [((i:Nat):Int)]).map (Qh true))) (VDst.own (tv (T.os 1 1 0 (((Zo (ZJ l l.length) i).map (Qh true)).length)) Y) Y Y) (VSrc.own (tv (T.os 1 2 0 1) Y) Y Y Yn (bc (bc Y bn) bn)) (by decide) Yn Zg (by decide) zo3 Y (of_decide_eq_true (by kernel_rfl)) (by first | omega | (simp only [List.length_map];omega) | (simp only [List.length_map,List.length_append,List.length_cons,List.length_nil,List.length_replicate,List.length_set,List.length_drop,List.length_take,Zb] at *;omega)) ((List.map_append (f:=Qh true) (l₁:=Zo (ZJ l l.length) i) (l₂:= [((i:Nat):Int)])).symm)) (aO (T.os 1 3 0 (((Zo (ZJ l l.length) i++ [((i:Nat):Int)]).map (Qh true)).length)) Y (VRunO.nil (vinB.n (tn (VRun.region (fO (Zu (tv (tN i) Y) (VEv.int .i64 1) (by omega)) (mO (tN (i+1)) Y ?_)))))))))))
   refine VRunO.nil (tn ?_)
   have he8:(Zo (ZJ l l.length) i++ [((i:Nat):Int)])=Zo (ZJ l l.length) (i+1):=by first | rfl | (rw [Y7 hjl hx2,if_pos (by assumption)]) | (rw [Y7 hjl hx2,if_neg (by simp_all)]) | (simp;done) | omega
   refine ⟨(i+1:Nat),?_,?_,Wk.mk (fun k=>if k=1 then 3 else k) ?_ ?_ ?_⟩
   ·first | trivial | omega | (simp;done) | exact ⟨by omega,hI'.2⟩
   ·first | omega | (simp only [];omega) | (show _<_;omega) | (simp;omega)
   ·exact (b2 (bc ⟨(congrArg (fun l_=>T.os 1 3 0 (List.map (Qh true) l_).length) he8),rfl⟩ (b2 (b2 (b2 bn)))))
   ·exact (b3 (bc ⟨(congrArg (fun l_=>some (Obj.rows 1 (List.map (Qh true) l_))) he8),(lb Y),rfl⟩ bn))
   ·exact nd Y
  have fhc5:x2=false:=hc5
  refine sk (vinB.n (tn (VRun.region (fO (Zu (tv (tN i) Y) (VEv.int .i64 1) (by omega)) (mO (tN (i+1)) Y (VRunO.nil (tn ?_)))))))
  have he9:Zo (ZJ l l.length) i=Zo (ZJ l l.length) (i+1):=by first | rfl | (rw [Y7 hjl hx2,if_pos (by assumption)]) | (rw [Y7 hjl hx2,if_neg (by simp_all)]) | (simp;done) | omega
  refine ⟨(i+1:Nat),?_,?_,Wk.mk (fun k=>k) ?_ ?_ ?_⟩
  ·first | trivial | omega | (simp;done) | exact ⟨by omega,hI'.2⟩
  ·first | omega | (simp only [];omega) | (show _<_;omega) | (simp;omega)
  ·exact (b2 (bc ⟨(congrArg (fun l_=>T.os 1 1 0 (List.map (Qh true) l_).length) he9),rfl⟩ (b2 (b2 (b2 bn)))))
  ·exact (b3 (bc ⟨(congrArg (fun l_=>some (Obj.rows 1 (List.map (Qh true) l_))) he9),(lb Y),rfl⟩ bn))
  ·exact nd Y
 refine VRun.exit (vthn.e (vthn.e (vinB.e (tn (sr (mO (T.os 1 1 0 (((Zo (ZJ l l.length) i).map (Qh true)).length)) Y (aO (T.os 1 1 0 (((Zo (ZJ l l.length) i).map (Qh true)).length)) Y (nt (rt ?_)))))))))
 refine vfin.eq (r':=(T.sl true 1 ((Zo (ZJ l l.length) i).map (Qh true)))) ?_ (vfin.r (VRes.tmp (t:=(T.os 1 1 0 (((Zo (ZJ l l.length) i).map (Qh true)).length))) Y VRes.nil) (Give.os Y Y (okInt.cleanMap _)))
 refine congrArg (fun l_=>T.sl true 1 (List.map (Qh true) l_)) ?_
 rw [show i=l.length by omega];exact (if_pos hpl).symm
noncomputable section
def Qbw (c:D.Clue):Int:=match c.Play[c.Play.length - 1]? with
 | some x=>x.Kind
 | none=>0
theorem Q2 {c:D.Clue} {x:D.Step} {z:Int} (hz:z=((c.Play.length:Nat):Int) - 1) (h1:1≤c.Play.length) (h:c.Play[Int.toNat z]? =some x):Qbw c=x.Kind:=by
 unfold Qbw
 rw [show Int.toNat z=c.Play.length - 1 by omega] at h
 rw [h]
def Qd (c:D.Clue) (w:ByteArray) (n:Int):ByteArray:=if ((1≤c.Sense∧c.Sense≤99)∧Qp c.Play)∧Qr w then (if n=1 then Yf (Qbw c) else if n=2 then ZP ((Zi c.Play).length:Nat) else if n=3 then QI w else if n=4 then w else ⟨#[]⟩) else ⟨#[]⟩
def Z7 (c:D.Clue) (w:ByteArray) (n:Int) (h:ByteArray):Prop:=¬h=⟨#[]⟩∧Qd c w n=h
instance (c:D.Clue) (w:ByteArray) (n:Int) (h:ByteArray):Decidable (Z7 c w n h):=Classical.propDecidable _
def Qc (c:D.Clue) (ws:List ByteArray) (n:Int) (h:ByteArray):List ByteArray:=ws.filter fun w=>decide (Z7 c w n h)
theorem Jd (c:D.Clue) (ws:List ByteArray) (n:Int) (h:ByteArray):(Qc c ws n h).length≤ws.length:=List.length_filter_le _ _
theorem ZD {c:D.Clue} {ws:List ByteArray} {n:Int} {h:ByteArray} {i:Nat} {w:ByteArray} (hi:ws[i]? =some w):Qc c (ws.take (i+1)) n h=Qc c (ws.take i) n h++(if Z7 c w n h then [w] else []):=by
 unfold Qc
 rw [List.take_add_one,hi,List.filter_append]
 by_cases hp:Z7 c w n h
 ·simp [hp]
 ·simp [hp]
end
theorem Qbq (n:Nat) (c:D.Clue) (w:ByteArray) (v:Int) (hz:Jc c≤mx) (hw:w.size≤maxLen):Pure (Qm Tryd.prog (n+6)) 70 [(T.agg (QA false c)),(tS w),(tI v)] (tS (Qd c w v)):=by
 refine Pure.intro (rs:= [ResultVar.tmp 6]) Tryd.func70 Y Y Y (E0:= [(0,(T.agg (QA false c))),(1,(tS w)),(2,(tI v))]) Y ?_
 obtain ⟨hlim,hmx,hmax⟩:=QG
 have hzz:=hz
 simp only [Jc] at hzz
 have hul:=Qcp c.Play
 have hlp:=JD (z:=Zy) c.Play
 refine sr (kO (B.box (ts:=(QA false c)) (tv (T.agg (QA false c)) Y) nofun Y) (fO (OF.assign (VEv.str (⟨#[]⟩:ByteArray))) (nt (sq (sr (lO (OL.loadOn (us:=(QA false c)) (tv (T.op 0 0) Y) Y Zj QQ (lb Y) Y) (cO (cS (vc (tv (T.agg (QA false c)) Y) vn) (LendL.cons (lg Qbl) ln) (J6 (n+0) c (by first | assumption | omega)) Y Y) (fO (QZ (tv (tB (decide ((1≤c.Sense∧c.Sense≤99)∧Qp c.Play))) Y)) (mO (tB (!(decide ((1≤c.Sense∧c.Sense≤99)∧Qp c.Play)))) Y ?_)))))))))
 refine gn ((1≤c.Sense∧c.Sense≤99)∧Qp c.Play) (fun fhg10_1=> ?_) fun fhg10_1=> ?_
 ·refine QB 3 3 false 10 (ny fhg10_1) Y Y Y ?_
  refine fO (OF.pickT (VEv.tmpB Y (ny fhg10_1)) (VEv.bool true)) (nt (ct Y (sr (fO (OF.assign (VEv.str (⟨#[]⟩:ByteArray))) (nt (rt (tr ?_)))))))
  refine vfin.eq (r':=(tS (⟨#[]⟩:ByteArray))) ?_ (vfin.r (VRes.tmp (t:=(tS (⟨#[]⟩:ByteArray))) Y VRes.nil) (Give.str _))
  refine congrArg T.str ?_
  first | (unfold Qd;rw [if_neg (fun h_=>fhg10_1 h_.1)]) | (unfold Qd;rw [if_neg (fun h_=>fhc0 h_.2)]) | (unfold Qd;rw [if_pos ⟨fhg10_1,fhc0⟩];first | (rw [if_pos fhc1];done) | (rw [if_pos fhc1,Q2 Y hpl hx1];done) | (rw [if_neg fhc1,if_pos fhc2];done) | (rw [if_neg fhc1,if_neg fhc2,if_pos fhc3];done) | (rw [if_neg fhc1,if_neg fhc2,if_neg fhc3,if_pos fhc4];done) | (rw [if_neg fhc1,if_neg fhc2,if_neg fhc3,if_neg fhc4];done))
 refine gF (nz fhg10_1) Y Y (OF.move (tv (tS w) Y)) (VRunO.chain (VWant.on Y Y (nz fhg10_1)) (cS (vc (tv (tS w) Y) vn) (QR Y) (Z5 (n+3) w (by first | assumption | omega)) Y Y) (gF (nz fhg10_1) Y Y (QZ (tv (tB (decide (Qr w))) Y)) (fO (OF.pickF (VEv.tmpB Y (nz fhg10_1)) (tv (tB (!(decide (Qr w)))) Y)) (nt ?_))))
 refine cn (Qr w) Y (fun fhc0=> ?_) fun fhc0=> ?_
 ·refine sr ?_
  refine fO (OF.assign (VEv.str (⟨#[]⟩:ByteArray))) (nt (rt (tr ?_)))
  refine vfin.eq (r':=(tS (⟨#[]⟩:ByteArray))) ?_ (vfin.r (VRes.tmp (t:=(tS (⟨#[]⟩:ByteArray))) Y VRes.nil) (Give.str _))
  refine congrArg T.str ?_
  first | (unfold Qd;rw [if_neg (fun h_=>fhg10_1 h_.1)]) | (unfold Qd;rw [if_neg (fun h_=>fhc0 h_.2)]) | (unfold Qd;rw [if_pos ⟨fhg10_1,fhc0⟩];first | (rw [if_pos fhc1];done) | (rw [if_pos fhc1,Q2 Y hpl hx1];done) | (rw [if_neg fhc1,if_pos fhc2];done) | (rw [if_neg fhc1,if_neg fhc2,if_pos fhc3];done) | (rw [if_neg fhc1,if_neg fhc2,if_neg fhc3,if_pos fhc4];done) | (rw [if_neg fhc1,if_neg fhc2,if_neg fhc3,if_neg fhc4];done))
 have hpl:1≤c.Play.length:=fhg10_1.2.1.1
 refine sk (tn (sq (sr (mO (tI v) Y (nt (VRun.block (sr (fO (ZU (tv (tI v) Y) (VEv.int .i64 1)) (aO (tB (decide (v=1))) Y (nt ?_))))))))))
 refine cd (v=1) Y (fun fhc1=> ?_) fun fhc1=> ?_
 ·refine sr ?_
  refine lf (rd 4 Qb c.Play) Y Jp Y Y Qdi (lf (rd 4 Qb c.Play) Y Jp Y Y Qdi (lO (B.lenR (m:=c.Play.length) (tv (rd 4 Qb c.Play) Y) ZQ (List.length_map ..)) (fO (B.sub (n:=(((c.Play.length:Nat):Int) - 1)) (tv (tN c.Play.length) Y) (VEv.int .i64 1) (by first | rfl | (rw [Qg (by omega)];omega) | (rw [Qg (by omega)];done))) ?_)))
  obtain ⟨x1,hx1⟩:∃x,c.Play[(Int.toNat (((c.Play.length:Nat):Int) - 1))]? =some x:=⟨_,List.getElem?_eq_getElem (by omega)⟩
  refine fO (OF.indexAddrR (row:=(Qb false x1)) (i:=(Int.toNat (((c.Play.length:Nat):Int) - 1))) (tv (rd 4 Qb c.Play) Y) (tv (tI (((c.Play.length:Nat):Int) - 1)) Y) (by omega) (Qs _ hx1) ZQ Qy Ze) (lr (tI x1.Kind) Y (lb Y) Qv Y QY (cO (cS (vc (tv (tI x1.Kind) Y) vn) (QR Y) (Qa8 (n+3) x1.Kind) Y Y) (aO (tS (Yf x1.Kind)) Y (nt (rt (vinB.r (tr ?_)))))))
  refine vfin.eq (r':=(tS (Yf x1.Kind))) ?_ (vfin.r (VRes.tmp (t:=(tS (Yf x1.Kind))) Y VRes.nil) (Give.str _))
  refine congrArg T.str ?_
  first | (unfold Qd;rw [if_neg (fun h_=>fhg10_1 h_.1)]) | (unfold Qd;rw [if_neg (fun h_=>fhc0 h_.2)]) | (unfold Qd;rw [if_pos ⟨fhg10_1,fhc0⟩];first | (rw [if_pos fhc1];done) | (rw [if_pos fhc1,Q2 Y hpl hx1];done) | (rw [if_neg fhc1,if_pos fhc2];done) | (rw [if_neg fhc1,if_neg fhc2,if_pos fhc3];done) | (rw [if_neg fhc1,if_neg fhc2,if_neg fhc3,if_pos fhc4];done) | (rw [if_neg fhc1,if_neg fhc2,if_neg fhc3,if_neg fhc4];done))
 refine sr (fO (ZU (tv (tI v) Y) (VEv.int .i64 2)) (aO (tB (decide (v=2))) Y (nt ?_)))
 refine cd (v=2) Y (fun fhc2=> ?_) fun fhc2=> ?_
 ·refine sr ?_
  refine lf (rd 4 Qb c.Play) Y Jp Y Y Qdi (cO (OC.callF (r':=(T.os 1 1 0 (((Zi c.Play).map (Qh true)).length))) (objs:= [(Obj.rows 1 ((Zi c.Play).map (Qh true)))]) Y (vc (tv (rd 4 Qb c.Play) Y) vn) (QR Y) (QaR (n+0) c.Play (by first | assumption | omega)) Y) (lO (B.lenO (m:=(Zi c.Play).length) (tv (T.os 1 1 0 (((Zi c.Play).map (Qh true)).length)) Y) Yn (List.length_map ..)) (cO (cS (vc (tv (tN ((Zi c.Play).length)) Y) vn) (QR Y) (QaX (n+4) (((Zi c.Play).length:Nat):Int) (by first | assumption | omega)) Y Y) (aO (tS (ZP (((Zi c.Play).length:Nat):Int))) Y (nt (rt (vinB.r (tr ?_))))))))
  refine vfin.eq (r':=(tS (ZP (((Zi c.Play).length:Nat):Int)))) ?_ (vfin.r (VRes.tmp (t:=(tS (ZP (((Zi c.Play).length:Nat):Int)))) Y VRes.nil) (Give.str _))
  refine congrArg T.str ?_
  first | (unfold Qd;rw [if_neg (fun h_=>fhg10_1 h_.1)]) | (unfold Qd;rw [if_neg (fun h_=>fhc0 h_.2)]) | (unfold Qd;rw [if_pos ⟨fhg10_1,fhc0⟩];first | (rw [if_pos fhc1];done) | (rw [if_pos fhc1,Q2 Y hpl hx1];done) | (rw [if_neg fhc1,if_pos fhc2];done) | (rw [if_neg fhc1,if_neg fhc2,if_pos fhc3];done) | (rw [if_neg fhc1,if_neg fhc2,if_neg fhc3,if_pos fhc4];done) | (rw [if_neg fhc1,if_neg fhc2,if_neg fhc3,if_neg fhc4];done))
 refine sr (fO (ZU (tv (tI v) Y) (VEv.int .i64 3)) (aO (tB (decide (v=3))) Y (nt ?_)))
 refine cd (v=3) Y (fun fhc3=> ?_) fun fhc3=> ?_
 ·refine sr ?_
  refine mO (tS w) Y (cO (cS (vc (tv (tS w) Y) vn) (QR Y) (Qcb (n+2) w (by first | assumption | omega)) Y Y) (aO (tS (QI w)) Y (nt (rt (vinB.r (tr ?_))))))
  refine vfin.eq (r':=(tS (QI w))) ?_ (vfin.r (VRes.tmp (t:=(tS (QI w))) Y VRes.nil) (Give.str _))
  refine congrArg T.str ?_
  first | (unfold Qd;rw [if_neg (fun h_=>fhg10_1 h_.1)]) | (unfold Qd;rw [if_neg (fun h_=>fhc0 h_.2)]) | (unfold Qd;rw [if_pos ⟨fhg10_1,fhc0⟩];first | (rw [if_pos fhc1];done) | (rw [if_pos fhc1,Q2 Y hpl hx1];done) | (rw [if_neg fhc1,if_pos fhc2];done) | (rw [if_neg fhc1,if_neg fhc2,if_pos fhc3];done) | (rw [if_neg fhc1,if_neg fhc2,if_neg fhc3,if_pos fhc4];done) | (rw [if_neg fhc1,if_neg fhc2,if_neg fhc3,if_neg fhc4];done))
 refine sr (fO (ZU (tv (tI v) Y) (VEv.int .i64 4)) (aO (tB (decide (v=4))) Y (nt ?_)))
 refine cd (v=4) Y (fun fhc4=> ?_) fun fhc4=> ?_
 ·refine sr ?_
  refine mO (tS w) Y (aO (tS w) Y (nt (rt (vinB.r (tr ?_)))))
  refine vfin.eq (r':=(tS w)) ?_ (vfin.r (VRes.tmp (t:=(tS w)) Y VRes.nil) (Give.str _))
  refine congrArg T.str ?_
  first | (unfold Qd;rw [if_neg (fun h_=>fhg10_1 h_.1)]) | (unfold Qd;rw [if_neg (fun h_=>fhc0 h_.2)]) | (unfold Qd;rw [if_pos ⟨fhg10_1,fhc0⟩];first | (rw [if_pos fhc1];done) | (rw [if_pos fhc1,Q2 Y hpl hx1];done) | (rw [if_neg fhc1,if_pos fhc2];done) | (rw [if_neg fhc1,if_neg fhc2,if_pos fhc3];done) | (rw [if_neg fhc1,if_neg fhc2,if_neg fhc3,if_pos fhc4];done) | (rw [if_neg fhc1,if_neg fhc2,if_neg fhc3,if_neg fhc4];done))
 refine sk (vinB.n (tn (sr (fO (OF.assign (VEv.str (⟨#[]⟩:ByteArray))) (nt (rt ?_))))))
 refine vfin.eq (r':=(tS (⟨#[]⟩:ByteArray))) ?_ (vfin.r (VRes.tmp (t:=(tS (⟨#[]⟩:ByteArray))) Y VRes.nil) (Give.str _))
 refine congrArg T.str ?_
 first | (unfold Qd;rw [if_neg (fun h_=>fhg10_1 h_.1)]) | (unfold Qd;rw [if_neg (fun h_=>fhc0 h_.2)]) | (unfold Qd;rw [if_pos ⟨fhg10_1,fhc0⟩];first | (rw [if_pos fhc1];done) | (rw [if_pos fhc1,Q2 Y hpl hx1];done) | (rw [if_neg fhc1,if_pos fhc2];done) | (rw [if_neg fhc1,if_neg fhc2,if_pos fhc3];done) | (rw [if_neg fhc1,if_neg fhc2,if_neg fhc3,if_pos fhc4];done) | (rw [if_neg fhc1,if_neg fhc2,if_neg fhc3,if_neg fhc4];done))
theorem JJ (n:Nat) (c:D.Clue) (w:ByteArray) (v:Int) (hz:Jc c≤mx) (hw:w.size≤maxLen):Pure (Qm Tryd.prog (n+6)) 7 [(T.agg (QA false c)),(tS w),(tI v)] (tS (Qd c w v)):=by
 refine Pure.intro (rs:= [ResultVar.tmp 6]) Tryd.func7 Y Y Y (E0:= [(0,(T.agg (QA false c))),(1,(tS w)),(2,(tI v))]) Y ?_
 obtain ⟨hlim,hmx,hmax⟩:=QG
 have hzz:=hz
 simp only [Jc] at hzz
 have hul:=Qcp c.Play
 have hlp:=JD (z:=Zy) c.Play
 refine sr (kO (B.box (ts:=(QA false c)) (tv (T.agg (QA false c)) Y) nofun Y) (fO (OF.assign (VEv.str (⟨#[]⟩:ByteArray))) (nt (sq (sr (lO (OL.loadOn (us:=(QA false c)) (tv (T.op 0 0) Y) Y Zj QQ (lb Y) Y) (cO (cS (vc (tv (T.agg (QA false c)) Y) vn) (LendL.cons (lg Qbl) ln) (Y0 (n+1) c (by first | assumption | omega)) Y Y) (fO (QZ (tv (tB (decide ((1≤c.Sense∧c.Sense≤99)∧Qp c.Play))) Y)) (mO (tB (!(decide ((1≤c.Sense∧c.Sense≤99)∧Qp c.Play)))) Y ?_)))))))))
 refine gn ((1≤c.Sense∧c.Sense≤99)∧Qp c.Play) (fun fhg10_1=> ?_) fun fhg10_1=> ?_
 ·refine QB 3 3 false 10 (ny fhg10_1) Y Y Y ?_
  refine fO (OF.pickT (VEv.tmpB Y (ny fhg10_1)) (VEv.bool true)) (nt (ct Y (sr (fO (OF.assign (VEv.str (⟨#[]⟩:ByteArray))) (nt (rt (tr ?_)))))))
  refine vfin.eq (r':=(tS (⟨#[]⟩:ByteArray))) ?_ (vfin.r (VRes.tmp (t:=(tS (⟨#[]⟩:ByteArray))) Y VRes.nil) (Give.str _))
  refine congrArg T.str ?_
  first | (unfold Qd;rw [if_neg (fun h_=>fhg10_1 h_.1)]) | (unfold Qd;rw [if_neg (fun h_=>fhc0 h_.2)]) | (unfold Qd;rw [if_pos ⟨fhg10_1,fhc0⟩];first | (rw [if_pos fhc1];done) | (rw [if_pos fhc1,Q2 Y hpl hx1];done) | (rw [if_neg fhc1,if_pos fhc2];done) | (rw [if_neg fhc1,if_neg fhc2,if_pos fhc3];done) | (rw [if_neg fhc1,if_neg fhc2,if_neg fhc3,if_pos fhc4];done) | (rw [if_neg fhc1,if_neg fhc2,if_neg fhc3,if_neg fhc4];done))
 refine gF (nz fhg10_1) Y Y (OF.move (tv (tS w) Y)) (VRunO.chain (VWant.on Y Y (nz fhg10_1)) (cS (vc (tv (tS w) Y) vn) (QR Y) (Z3 (n+3) w (by first | assumption | omega)) Y Y) (gF (nz fhg10_1) Y Y (QZ (tv (tB (decide (Qr w))) Y)) (fO (OF.pickF (VEv.tmpB Y (nz fhg10_1)) (tv (tB (!(decide (Qr w)))) Y)) (nt ?_))))
 refine cn (Qr w) Y (fun fhc0=> ?_) fun fhc0=> ?_
 ·refine sr ?_
  refine fO (OF.assign (VEv.str (⟨#[]⟩:ByteArray))) (nt (rt (tr ?_)))
  refine vfin.eq (r':=(tS (⟨#[]⟩:ByteArray))) ?_ (vfin.r (VRes.tmp (t:=(tS (⟨#[]⟩:ByteArray))) Y VRes.nil) (Give.str _))
  refine congrArg T.str ?_
  first | (unfold Qd;rw [if_neg (fun h_=>fhg10_1 h_.1)]) | (unfold Qd;rw [if_neg (fun h_=>fhc0 h_.2)]) | (unfold Qd;rw [if_pos ⟨fhg10_1,fhc0⟩];first | (rw [if_pos fhc1];done) | (rw [if_pos fhc1,Q2 Y hpl hx1];done) | (rw [if_neg fhc1,if_pos fhc2];done) | (rw [if_neg fhc1,if_neg fhc2,if_pos fhc3];done) | (rw [if_neg fhc1,if_neg fhc2,if_neg fhc3,if_pos fhc4];done) | (rw [if_neg fhc1,if_neg fhc2,if_neg fhc3,if_neg fhc4];done))
 have hpl:1≤c.Play.length:=fhg10_1.2.1.1
 refine sk (tn (sq (sr (mO (tI v) Y (nt (VRun.block (sr (fO (ZU (tv (tI v) Y) (VEv.int .i64 1)) (aO (tB (decide (v=1))) Y (nt ?_))))))))))
 refine cd (v=1) Y (fun fhc1=> ?_) fun fhc1=> ?_
 ·refine sr ?_
  refine lf (rd 4 Qb c.Play) Y Jp Y Y Qdi (lf (rd 4 Qb c.Play) Y Jp Y Y Qdi (lO (B.lenR (m:=c.Play.length) (tv (rd 4 Qb c.Play) Y) ZQ (List.length_map ..)) (fO (B.sub (n:=(((c.Play.length:Nat):Int) - 1)) (tv (tN c.Play.length) Y) (VEv.int .i64 1) (by first | rfl | (rw [Qg (by omega)];omega) | (rw [Qg (by omega)];done))) ?_)))
  obtain ⟨x1,hx1⟩:∃x,c.Play[(Int.toNat (((c.Play.length:Nat):Int) - 1))]? =some x:=⟨_,List.getElem?_eq_getElem (by omega)⟩
  refine fO (OF.indexAddrR (row:=(Qb false x1)) (i:=(Int.toNat (((c.Play.length:Nat):Int) - 1))) (tv (rd 4 Qb c.Play) Y) (tv (tI (((c.Play.length:Nat):Int) - 1)) Y) (by omega) (Qs _ hx1) ZQ Qy Ze) (lr (tI x1.Kind) Y (lb Y) Qv Y QY (cO (cS (vc (tv (tI x1.Kind) Y) vn) (QR Y) (Qbe (n+3) x1.Kind) Y Y) (aO (tS (Yf x1.Kind)) Y (nt (rt (vinB.r (tr ?_)))))))
  refine vfin.eq (r':=(tS (Yf x1.Kind))) ?_ (vfin.r (VRes.tmp (t:=(tS (Yf x1.Kind))) Y VRes.nil) (Give.str _))
  refine congrArg T.str ?_
  first | (unfold Qd;rw [if_neg (fun h_=>fhg10_1 h_.1)]) | (unfold Qd;rw [if_neg (fun h_=>fhc0 h_.2)]) | (unfold Qd;rw [if_pos ⟨fhg10_1,fhc0⟩];first | (rw [if_pos fhc1];done) | (rw [if_pos fhc1,Q2 Y hpl hx1];done) | (rw [if_neg fhc1,if_pos fhc2];done) | (rw [if_neg fhc1,if_neg fhc2,if_pos fhc3];done) | (rw [if_neg fhc1,if_neg fhc2,if_neg fhc3,if_pos fhc4];done) | (rw [if_neg fhc1,if_neg fhc2,if_neg fhc3,if_neg fhc4];done))
 refine sr (fO (ZU (tv (tI v) Y) (VEv.int .i64 2)) (aO (tB (decide (v=2))) Y (nt ?_)))
 refine cd (v=2) Y (fun fhc2=> ?_) fun fhc2=> ?_
 ·refine sr ?_
  refine lf (rd 4 Qb c.Play) Y Jp Y Y Qdi (cO (OC.callF (r':=(T.os 1 1 0 (((Zi c.Play).map (Qh true)).length))) (objs:= [(Obj.rows 1 ((Zi c.Play).map (Qh true)))]) Y (vc (tv (rd 4 Qb c.Play) Y) vn) (QR Y) (QaV (n+1) c.Play (by first | assumption | omega)) Y) (lO (B.lenO (m:=(Zi c.Play).length) (tv (T.os 1 1 0 (((Zi c.Play).map (Qh true)).length)) Y) Yn (List.length_map ..)) (cO (cS (vc (tv (tN ((Zi c.Play).length)) Y) vn) (QR Y) (QaU (n+0) (((Zi c.Play).length:Nat):Int) (by first | assumption | omega)) Y Y) (aO (tS (ZP (((Zi c.Play).length:Nat):Int))) Y (nt (rt (vinB.r (tr ?_))))))))
  refine vfin.eq (r':=(tS (ZP (((Zi c.Play).length:Nat):Int)))) ?_ (vfin.r (VRes.tmp (t:=(tS (ZP (((Zi c.Play).length:Nat):Int)))) Y VRes.nil) (Give.str _))
  refine congrArg T.str ?_
  first | (unfold Qd;rw [if_neg (fun h_=>fhg10_1 h_.1)]) | (unfold Qd;rw [if_neg (fun h_=>fhc0 h_.2)]) | (unfold Qd;rw [if_pos ⟨fhg10_1,fhc0⟩];first | (rw [if_pos fhc1];done) | (rw [if_pos fhc1,Q2 Y hpl hx1];done) | (rw [if_neg fhc1,if_pos fhc2];done) | (rw [if_neg fhc1,if_neg fhc2,if_pos fhc3];done) | (rw [if_neg fhc1,if_neg fhc2,if_neg fhc3,if_pos fhc4];done) | (rw [if_neg fhc1,if_neg fhc2,if_neg fhc3,if_neg fhc4];done))
 refine sr (fO (ZU (tv (tI v) Y) (VEv.int .i64 3)) (aO (tB (decide (v=3))) Y (nt ?_)))
 refine cd (v=3) Y (fun fhc3=> ?_) fun fhc3=> ?_
 ·refine sr ?_
  refine mO (tS w) Y (cO (cS (vc (tv (tS w) Y) vn) (QR Y) (YZ (n+2) w (by first | assumption | omega)) Y Y) (aO (tS (QI w)) Y (nt (rt (vinB.r (tr ?_))))))
  refine vfin.eq (r':=(tS (QI w))) ?_ (vfin.r (VRes.tmp (t:=(tS (QI w))) Y VRes.nil) (Give.str _))
  refine congrArg T.str ?_
  first | (unfold Qd;rw [if_neg (fun h_=>fhg10_1 h_.1)]) | (unfold Qd;rw [if_neg (fun h_=>fhc0 h_.2)]) | (unfold Qd;rw [if_pos ⟨fhg10_1,fhc0⟩];first | (rw [if_pos fhc1];done) | (rw [if_pos fhc1,Q2 Y hpl hx1];done) | (rw [if_neg fhc1,if_pos fhc2];done) | (rw [if_neg fhc1,if_neg fhc2,if_pos fhc3];done) | (rw [if_neg fhc1,if_neg fhc2,if_neg fhc3,if_pos fhc4];done) | (rw [if_neg fhc1,if_neg fhc2,if_neg fhc3,if_neg fhc4];done))
 refine sr (fO (ZU (tv (tI v) Y) (VEv.int .i64 4)) (aO (tB (decide (v=4))) Y (nt ?_)))
 refine cd (v=4) Y (fun fhc4=> ?_) fun fhc4=> ?_
 ·refine sr ?_
  refine mO (tS w) Y (aO (tS w) Y (nt (rt (vinB.r (tr ?_)))))
  refine vfin.eq (r':=(tS w)) ?_ (vfin.r (VRes.tmp (t:=(tS w)) Y VRes.nil) (Give.str _))
  refine congrArg T.str ?_
  first | (unfold Qd;rw [if_neg (fun h_=>fhg10_1 h_.1)]) | (unfold Qd;rw [if_neg (fun h_=>fhc0 h_.2)]) | (unfold Qd;rw [if_pos ⟨fhg10_1,fhc0⟩];first | (rw [if_pos fhc1];done) | (rw [if_pos fhc1,Q2 Y hpl hx1];done) | (rw [if_neg fhc1,if_pos fhc2];done) | (rw [if_neg fhc1,if_neg fhc2,if_pos fhc3];done) | (rw [if_neg fhc1,if_neg fhc2,if_neg fhc3,if_pos fhc4];done) | (rw [if_neg fhc1,if_neg fhc2,if_neg fhc3,if_neg fhc4];done))
 refine sk (vinB.n (tn (sr (fO (OF.assign (VEv.str (⟨#[]⟩:ByteArray))) (nt (rt ?_))))))
 refine vfin.eq (r':=(tS (⟨#[]⟩:ByteArray))) ?_ (vfin.r (VRes.tmp (t:=(tS (⟨#[]⟩:ByteArray))) Y VRes.nil) (Give.str _))
 refine congrArg T.str ?_
 first | (unfold Qd;rw [if_neg (fun h_=>fhg10_1 h_.1)]) | (unfold Qd;rw [if_neg (fun h_=>fhc0 h_.2)]) | (unfold Qd;rw [if_pos ⟨fhg10_1,fhc0⟩];first | (rw [if_pos fhc1];done) | (rw [if_pos fhc1,Q2 Y hpl hx1];done) | (rw [if_neg fhc1,if_pos fhc2];done) | (rw [if_neg fhc1,if_neg fhc2,if_pos fhc3];done) | (rw [if_neg fhc1,if_neg fhc2,if_neg fhc3,if_pos fhc4];done) | (rw [if_neg fhc1,if_neg fhc2,if_neg fhc3,if_neg fhc4];done))
theorem JP {c:D.Clue} {w h:ByteArray} {n:Int} (e:h=⟨#[]⟩):false=decide (Z7 c w n h):=(decide_eq_false (fun x=>x.1 e)).symm
theorem Qda {c:D.Clue} {w h:ByteArray} {n:Int} (e:¬h=⟨#[]⟩):decide (Qd c w n=h)=decide (Z7 c w n h):=decide_eq_decide.2 ⟨fun x=>⟨e,x⟩,fun x=>x.2⟩
theorem Yl (n:Nat) (c:D.Clue) (w:ByteArray) (v:Int) (h:ByteArray) (hz:Jc c≤mx) (hw:w.size≤maxLen):Pure (Qm Tryd.prog (n+7)) 17 [(T.agg (QA false c)),(tS w),(tI v),(tS h)] (tB (decide (Z7 c w v h))):=by
 refine Pure.intro (rs:= [ResultVar.tmp 8]) Tryd.func17 Y Y Y (E0:= [(0,(T.agg (QA false c))),(1,(tS w)),(2,(tI v)),(3,(tS h))]) Y ?_
 obtain ⟨hlim,hmx,hmax⟩:=QG
 refine sr (kO (B.box (ts:=(QA false c)) (tv (T.agg (QA false c)) Y) nofun Y) (fO (OF.assign (VEv.bool false)) (nt (sr (mO (tS h) Y (fO (B.sneq (c:=(!(decide (h=(⟨#[]⟩:ByteArray))))) (tv (tS h) Y) (VEv.str (⟨#[]⟩:ByteArray)) Y) (mO (tB (!(decide (h=(⟨#[]⟩:ByteArray))))) Y ?_)))))))
 refine gn (h=(⟨#[]⟩:ByteArray)) (fun fhg11_1=> ?_) fun fhg11_1=> ?_
 ·refine gL (ny fhg11_1) Y Y (OL.loadOn (us:=(QA false c)) (tv (T.op 0 0) Y) Y Zj QQ (lb Y) Y) ?_
  refine gF (ny fhg11_1) Y Y (OF.move (tv (tS w) Y)) (gF (ny fhg11_1) Y Y (OF.move (tv (tI v) Y)) (VRunO.chain (VWant.on Y Y (ny fhg11_1)) (cS (vc (tv (T.agg (QA false c)) Y) (vc (tv (tS w) Y) (vc (tv (tI v) Y) vn))) (LendL.cons (lg Qbl) (lp Y (lp Y ln))) (JJ (n+0) c w v (by first | assumption | omega) (by first | assumption | omega)) Y Y) (gF (ny fhg11_1) Y Y (OF.move (tv (tS h) Y)) (gF (ny fhg11_1) Y Y (B.seql (c:=(decide (Qd c w v=h))) (tv (tS (Qd c w v)) Y) (tv (tS h) Y) Y) (fO (OF.pickT (VEv.tmpB Y (ny fhg11_1)) (tv (tB (decide (Qd c w v=h))) Y)) (aO (tB (decide (Qd c w v=h))) Y (nt (rt (vb (b':=(decide (Qd c w v=h))) Y ?_)))))))))
  first | exact JP (by assumption) | exact JP (by simpa using fhc0) | exact Qda (by assumption)
 refine QB 6 2 true 11 (nz fhg11_1) Y Y Y (fO (OF.pickF (VEv.tmpB Y (nz fhg11_1)) (VEv.bool false)) (aO (tB false) Y (nt (rt (vb (b':=false) Y ?_)))))
 first | exact JP (by assumption) | exact JP (by simpa using fhc0) | exact Qda (by assumption)
theorem J9 (n:Nat) (w:ByteArray) (c:D.Clue) (v:Int) (h:ByteArray) (hz:Jc c≤mx) (hw:w.size≤maxLen):Pure (Qm Tryd.prog (n+8)) 42 [(tS w),(T.rp [(tI c.Sense),(rd 4 Qb c.Play)]),(T.rp [(tI v)]),(T.rp [(tS h)])] (tB (decide (Z7 c w v h))):=by
 refine Pure.intro (rs:= [ResultVar.tmp 5]) Tryd.func42 Y Y Y (E0:= [(0,(tS w)),(1,(T.rp [(tI c.Sense),(rd 4 Qb c.Play)])),(2,(T.rp [(tI v)])),(3,(T.rp [(tS h)]))]) Y ?_
 obtain ⟨hlim,hmx,hmax⟩:=QG
 refine sr (fO (OF.assign (VEv.bool false)) (nt (sr (lO (OL.loadRn (us:=(QA false c)) (tv (T.rp [(tI c.Sense),(rd 4 Qb c.Play)]) Y) Zj QQ (lb Y) Y) (mO (tS w) Y (lO (OL.loadR1 (t:=(tI v)) (tv (T.rp [(tI v)]) Y) Y QY) (lO (OL.loadR1 (t:=(tS h)) (tv (T.rp [(tS h)]) Y) Y st9) (cO (cS (vc (tv (T.agg (QA false c)) Y) (vc (tv (tS w) Y) (vc (tv (tI v) Y) (vc (tv (tS h) Y) vn)))) (LendL.cons (lg Qbl) (lp Y (lp Y (lp Y ln)))) (Yl (n+0) c w v h (by first | assumption | omega) (by first | assumption | omega)) Y Y) (aO (tB (decide (Z7 c w v h))) Y (nt (rt ?_)))))))))))
 exact vb Y Y
theorem Z9 (n:Nat) (ws:List ByteArray) (c:D.Clue) (v:Int) (h:ByteArray) (hz:Jc c≤mx) (hw:zL ByteArray.size ws≤mx):Pure (Qm Tryd.prog (n+9)) 41 [(rd 1 Qf ws),(T.fn 42 [(T.rp [(tI c.Sense),(rd 4 Qb c.Play)]),(T.rp [(tI v)]),(T.rp [(tS h)])])] (T.sl true 1 ((Qc c ws v h).map (Qf true))):=by
 refine Pure.intro (rs:= [ResultVar.tmp 4]) Tryd.func41 Y Y Y (E0:= [(0,(rd 1 Qf ws)),(1,(T.fn 42 [(T.rp [(tI c.Sense),(rd 4 Qb c.Play)]),(T.rp [(tI v)]),(T.rp [(tS h)])]))]) Y ?_
 obtain ⟨hlim,hmx,hmax⟩:=QG
 have hlw:=JD (z:=ByteArray.size) ws
 refine sr (fO (OF.assign VEv.nils) (nt (sr (fO (OF.assign VEv.nils) (nt (sq (sr (mO (rd 1 Qf ws) Y (lO (B.lenR (m:=ws.length) (tv (rd 1 Qf ws) Y) Y1 (List.length_map ..)) (fO (OF.move (VEv.int .i64 0)) (nt ?_)))))))))))
 refine VRun.block (VRun.wk (Wk.phantom 5 1 Y) ?_)
 have he1: []=((Qc c (ws.take 0) v h).map (Qf true)):=by first | rfl | (rw [ZD hx1,if_pos (by assumption)]) | (rw [ZD hx1,if_neg (by assumption),List.append_nil]) | (simp;done) | omega
 refine VRun.loop (A:=Nat) (fun s_=> [(1,(T.fn 42 [(T.rp [(tI c.Sense),(rd 4 Qb c.Play)]),(T.rp [(tI v)]),(T.rp [(tS h)])])),(4,T.nils),(5,(T.os 1 0 0 (((Qc c (ws.take s_) v h).map (Qf true)).length))),(8,(rd 1 Qf ws)),(9,(tN ws.length)),(10,(tN s_))]) (fun s_=>ZR [(0,(Obj.rows 1 ((Qc c (ws.take s_) v h).map (Qf true))))]) 1 (fun s_=>s_≤ws.length) (fun s_=>ws.length - s_) (0:Nat) ?_ (Wk.mk (fun k=>k) ?_ ?_ ?_) ?_
 ·first | trivial | (simp;done) | omega | (constructor<;>simp)
 ·exact (b2 (b2 (bc ⟨(congrArg (fun n_=>T.os 1 0 0 n_) (show 0=((Qc c (ws.take 0) v h).map (Qf true)).length from (by first | rfl | (simp only [List.length_map];omega) | (simp only [List.length_map,List.length_set,List.length_append,List.length_take,List.length_replicate,List.length_cons,List.length_nil];omega)))),rfl⟩ (b2 (b2 (b2 bn))))))
 ·exact (bc ⟨(congrArg (fun l_=>some (Obj.rows 1 l_)) he1),(lb Y),rfl⟩ bn)
 ·exact nd Y
 rintro i (hI':i≤ws.length)
 show VRun _ _ _ [(1,(T.fn 42 [(T.rp [(tI c.Sense),(rd 4 Qb c.Play)]),(T.rp [(tI v)]),(T.rp [(tS h)])])),(4,T.nils),(5,(T.os 1 0 0 (((Qc c (ws.take i) v h).map (Qf true)).length))),(8,(rd 1 Qf ws)),(9,(tN ws.length)),(10,(tN i))] (ZR [(0,(Obj.rows 1 ((Qc c (ws.take i) v h).map (Qf true))))]) 1 _
 have hI1:=hI'
 have hI2:=Jd c (ws.take i) v h
 have hI3:(ws.take i).length≤ws.length:=by rw [List.length_take];omega
 refine sr (fO (Yr (tv (tN i) Y) (tv (tN ws.length) Y)) (nt (sq ?_)))
 refine cd (i<ws.length) Y (fun fhc0=> ?_) fun fhc0=> ?_
 ·refine sk ?_
  refine tn (sq (VRun.block (sr ?_)))
  obtain ⟨x1,hx1⟩:∃x,ws[i]? =some x:=⟨_,List.getElem?_eq_getElem (by omega)⟩
  have hz1:=Qf0 (z:=ByteArray.size) hx1
  refine fO (OF.indexAddrR (row:=(Qf false x1)) (i:=i) (tv (rd 1 Qf ws) Y) (tv (tN i) Y) Y (Qs _ hx1) Y1 Yx if9) (lO (OL.loadR1 (t:=(tS x1)) (tv (T.rp [(tS x1)]) Y) Y st9) (aO (tS x1) Y (nt (sr (mO (T.fn 42 [(T.rp [(tI c.Sense),(rd 4 Qb c.Play)]),(T.rp [(tI v)]),(T.rp [(tS h)])]) Y (mO (tS x1) Y (cO (OC.callv (us:= [(tS x1)]) (ucaps:= [(T.rp [(tI c.Sense),(rd 4 Qb c.Play)]),(T.rp [(tI v)]),(T.rp [(tS h)])]) (r:=(tB (decide (Z7 c x1 v h)))) (r':=(tB (decide (Z7 c x1 v h)))) (objs:= []) Y Y (vc (tv (tS x1) Y) vn) (QR Y) (QR Y) (J9 (n+0) x1 c v h (by first | assumption | omega) (by first | assumption | omega)) Y) (nt ?_))))))))
  refine cd (Z7 c x1 v h) Y (fun fhc1=> ?_) fun fhc1=> ?_
  ·refine VRun.region ?_
   refine mO (T.os 1 0 0 (((Qc c (ws.take i) v h).map (Qf true)).length)) Y (mO (tS x1) Y (kO (OM.buildSlice (l:= [(tS x1)]) (VEvp.cons (tv (tS x1) Y) VEvp.nil) Y (by decide) (bc (nofun) bn) (bc ((bc (Y) bn)) bn) (bc (Y) bn) Y1 zo9 (by kernel_rfl) Y (by rw [Yx];decide) Yx (Nat.le_of_ble_eq_true Y)) (cO (B.append (rows:=((Qc c (ws.take i) v h).map (Qf true))) (rows2:= [[(tS x1)]]) (rows3:=((Qc c (ws.take i) v h++ [x1]).map (Qf true))) (VDst.own (tv (T.os 1 0 0 (((Qc c (ws.take i) v h).map (Qf true)).length)) Y) Y Y) (VSrc.own (tv (T.os 1 1 0 1) Y) Y Y Y1 (bc (bc Y bn) bn)) (by decide) Y1 Yx (by decide) zo9 Y (of_decide_eq_true (by kernel_rfl)) (by first | omega | (simp only [List.length_map];omega) | (simp only [List.length_map,List.length_append,List.length_cons,List.length_nil,List.length_replicate,List.length_set,List.length_drop,List.length_take,Zb] at *;omega)) ((List.map_append (f:=Qf true) (l₁:=Qc c (ws.take i) v h) (l₂:= [x1])).symm)) (aO (T.os 1 2 0 (((Qc c (ws.take i) v h++ [x1]).map (Qf true)).length)) Y (VRunO.nil (vinB.n (tn (VRun.region (fO (Zu (tv (tN i) Y) (VEv.int .i64 1) (by omega)) (mO (tN (i+1)) Y (VRunO.nil ?_)))))))))))
   refine tn ?_
   have he2:(Qc c (ws.take i) v h++ [x1])=Qc c (ws.take (i+1)) v h:=by first | rfl | (rw [ZD hx1,if_pos (by assumption)]) | (rw [ZD hx1,if_neg (by assumption),List.append_nil]) | (simp;done) | omega
   refine ⟨(i+1:Nat),?_,?_,Wk.mk (fun k=>if k=0 then 2 else k) ?_ ?_ ?_⟩
   ·first | trivial | omega | (simp;done) | exact ⟨by omega,hI'.2⟩
   ·first | omega | (simp only [];omega) | (show _<_;omega) | (simp;omega)
   ·exact (b2 (b2 (bc ⟨(congrArg (fun l_=>T.os 1 2 0 (List.map (Qf true) l_).length) he2),rfl⟩ (b2 (b2 (b2 bn))))))
   ·exact (bc ⟨(congrArg (fun l_=>some (Obj.rows 1 (List.map (Qf true) l_))) he2),(lb Y),rfl⟩ bn)
   ·exact nd Y
  refine sk (vinB.n (tn (VRun.region (fO (Zu (tv (tN i) Y) (VEv.int .i64 1) (by omega)) (mO (tN (i+1)) Y (VRunO.nil (tn ?_)))))))
  have he3:Qc c (ws.take i) v h=Qc c (ws.take (i+1)) v h:=by first | rfl | (rw [ZD hx1,if_pos (by assumption)]) | (rw [ZD hx1,if_neg (by assumption),List.append_nil]) | (simp;done) | omega
  refine ⟨(i+1:Nat),?_,?_,Wk.mk (fun k=>k) ?_ ?_ ?_⟩
  ·first | trivial | omega | (simp;done) | exact ⟨by omega,hI'.2⟩
  ·first | omega | (simp only [];omega) | (show _<_;omega) | (simp;omega)
  ·exact (b2 (b2 (bc ⟨(congrArg (fun l_=>T.os 1 0 0 (List.map (Qf true) l_).length) he3),rfl⟩ (b2 (b2 (b2 bn))))))
  ·exact (bc ⟨(congrArg (fun l_=>some (Obj.rows 1 (List.map (Qf true) l_))) he3),(lb Y),rfl⟩ bn)
  ·exact nd Y
 refine VRun.exit (vthn.e (vthn.e (vinB.e (tn (sr (mO (T.os 1 0 0 (((Qc c (ws.take i) v h).map (Qf true)).length)) Y (aO (T.os 1 0 0 (((Qc c (ws.take i) v h).map (Qf true)).length)) Y (nt (rt ?_)))))))))
 refine vfin.eq (r':=(T.sl true 1 ((Qc c (ws.take i) v h).map (Qf true)))) ?_ (vfin.r (VRes.tmp (t:=(T.os 1 0 0 (((Qc c (ws.take i) v h).map (Qf true)).length))) Y VRes.nil) (Give.os Y Y (okStr.cleanMap _)))
 refine congrArg (fun l_=>T.sl true 1 (List.map (Qf true) l_)) ?_
 rw [List.take_of_length_le (by omega)]
theorem ZX (n:Nat) (c:D.Clue) (ws:List ByteArray) (v:Int) (h:ByteArray) (hz:Jc c≤mx) (hw:zL ByteArray.size ws≤mx):Pure (Qm Tryd.prog (n+10)) 13 [(T.agg (QA false c)),(rd 1 Qf ws),(tI v),(tS h)] (T.sl true 1 ((Qc c ws v h).map (Qf true))):=by
 refine Pure.intro (rs:= [ResultVar.tmp 8]) Tryd.func13 Y Y Y (E0:= [(0,(T.agg (QA false c))),(1,(rd 1 Qf ws)),(2,(tI v)),(3,(tS h))]) Y ?_
 obtain ⟨hlim,hmx,hmax⟩:=QG
 refine sr (kO (B.box (ts:=(QA false c)) (tv (T.agg (QA false c)) Y) nofun Y) (kO (B.box (ts:= [(tI v)]) (tv (tI v) Y) nofun Y) (kO (B.box (ts:= [(tS h)]) (tv (tS h) Y) nofun Y) (fO (OF.assign VEv.nils) (nt (sr (mO (rd 1 Qf ws) Y (fO (OF.makeFunc (vc (tv (T.op 0 0) Y) (vc (tv (T.op 1 0) Y) (vc (tv (T.op 2 0) Y) vn)))) (cO (OC.callF (us:= [(rd 1 Qf ws),(T.fn 42 [(T.rp (QA false c)),(T.rp [(tI v)]),(T.rp [(tS h)])])]) (r':=(T.os 1 3 0 (((Qc c ws v h).map (Qf true)).length))) (objs:= [(Obj.rows 1 ((Qc c ws v h).map (Qf true)))]) Y (vc (tv (rd 1 Qf ws) Y) (vc (tv (T.fn 42 [(T.op 0 0),(T.op 1 0),(T.op 2 0)]) Y) vn)) (lp Y (LendL.cons (Lend.fn (LendL.cons (Lend.op (us':=(QA false c)) (ts:=(QA false c)) Y (LendL.cons (Lend.pl Y) (LendL.cons (Lend.pl Y) ln)) (lb Y) Y) (LendL.cons (Lend.op (us':= [(tI v)]) (ts:= [(tI v)]) Y (LendL.cons (Lend.pl Y) ln) (lb Y) Y) (LendL.cons (Lend.op (us':= [(tS h)]) (ts:= [(tS h)]) Y (LendL.cons (Lend.pl Y) ln) (lb Y) Y) ln)))) ln)) (Z9 (n+0) ws c v h (by first | assumption | omega) (by first | assumption | omega)) Y) (aO (T.os 1 3 0 (((Qc c ws v h).map (Qf true)).length)) Y (nt ?_)))))))))))
 refine rt ?_
 refine vfin.eq (r':=(T.sl true 1 ((Qc c ws v h).map (Qf true)))) ?_ (vfin.r (VRes.tmp (t:=(T.os 1 3 0 (((Qc c ws v h).map (Qf true)).length))) Y VRes.nil) (Give.os Y Y (okStr.cleanMap _)))
 rfl
end Go.Proofs.YtcglnehpapgfpaaDoor.AE
