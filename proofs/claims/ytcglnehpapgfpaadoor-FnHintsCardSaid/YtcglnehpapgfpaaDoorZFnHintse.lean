/- A part of what the row of FnHints uses. Conditions: as each theorem states. -/
import Derived.Test.YtcglnehpapgfpaaDoorZFnHintsd
namespace Go.Proofs.YtcglnehpapgfpaaDoor.AE
open Go Go.RowKit
set_option linter.unusedVariables false
set_option linter.unusedSimpArgs false
set_option maxRecDepth 20000
set_option maxHeartbeats 2000000
noncomputable section
def gS (k:Nat) (l:List D.Step):Prop:=l.length≤k∧∀y∈l,y.Word.size≤10
theorem Qg9 {k:Nat} {l:List D.Step} (h:gS k l):zL Zy l≤11*k:=by
 have h1:∀l:List D.Step,(∀x∈l,Zy x≤10)→QdH Zy l≤10*l.length:=fun l=>by
  induction l with
  | nil=>exact fun _=>Nat.le_refl _
  | cons x r ih =>
   intro hl
   have h2:=ih (fun y hy=>hl y (List.mem_cons_of_mem _ hy))
   have h3:=hl x List.mem_cons_self
   simp only [QdH,List.length_cons];omega
 have h2:=h1 l (fun x hx=>by simp only [Zy];exact h.2 x hx)
 have h3:=h.1
 simp only [zL];omega
theorem Ju {k m:Nat} {l:List D.Step} (h:gS k l) (hm:k≤m):gS m l:=⟨Nat.le_trans h.1 hm,h.2⟩
theorem Yg {k i:Nat} {l:List D.Step} {x:D.Step} (h:gS k l) (hx:x.Word.size≤10):gS k (l.set i x):=by
 refine ⟨by rw [List.length_set];exact h.1,fun y hy=> ?_⟩
 rcases List.mem_or_eq_of_mem_set hy with hy | rfl
 ·exact h.2 y hy
 ·exact hx
theorem QfW {k:Nat} {l:List D.Step} {x:D.Step} (h:gS k l) (hx:x.Word.size≤10):gS (k+1) (l++ [x]):=by
 refine ⟨by rw [List.length_append,List.length_singleton];have:=h.1;omega,Qek h.2 hx⟩
theorem gS1 {a:D.Step} (ha:a.Word.size≤10):gS 3 [a]:=⟨Nat.le_of_ble_eq_true Y,fun y hy=>by obtain rfl:=List.mem_singleton.1 hy;exact ha⟩
theorem gS2 {a b:D.Step} (ha:a.Word.size≤10) (hb:b.Word.size≤10):gS 3 [a,b]:=⟨Nat.le_of_ble_eq_true Y,fun y hy=>by
 simp only [List.mem_cons,List.not_mem_nil,or_false] at hy
 rcases hy with rfl | rfl<;>assumption⟩
theorem gS3 {a b c:D.Step} (ha:a.Word.size≤10) (hb:b.Word.size≤10) (hc:c.Word.size≤10):gS 3 [a,b,c]:=⟨Nat.le_of_ble_eq_true Y,fun y hy=>by
 simp only [List.mem_cons,List.not_mem_nil,or_false] at hy
 rcases hy with rfl | rfl | rfl<;>assumption⟩
theorem ZH {e x:ByteArray} (h:e.size≤9) (hx:x∈ [e,(⟨#[114]⟩:ByteArray),⟨#[115]⟩,⟨#[97,116]⟩,⟨#[101,97]⟩]):x.size≤10:=by
 simp only [List.mem_cons,List.not_mem_nil,or_false] at hx
 rcases hx with rfl | rfl | rfl | rfl | rfl<;>first | omega | decide
def w1S (l:List D.Step):Prop:=∀y,l[0]? =some y→y.Kind=1
theorem Qfd {l:List D.Step} {x:D.Step} (h:w1S l) (hx:l= []→x.Kind=1):w1S (l++ [x]):=fun y hy=>by
 cases l with
 | nil =>
  (obtain rfl:x=y:=by simpa using hy);exact hx Y
 | cons z r=>exact h y (by simpa using hy)
theorem Qcv {l:List D.Step} {a:Nat} {x:D.Step} (h:w1S l) (hx:l[a]? =some x) (hk:¬x.Kind=1):1≤a:=by
 rcases Nat.eq_zero_or_pos a with rfl | h0
 ·exact absurd (h x hx) hk
 ·exact h0
end
noncomputable section
def gM (k:Nat) (l:List D.Meaning):Prop:=l.length≤k∧∀y∈l,y.Word.size≤9
def Yc (a b:D.Meaning):Bool:=Jv a.Word b.Word || (decide (a.Word=b.Word) && decide (a.Sense<b.Sense))
theorem QdW {k:Nat} {l x:List D.Meaning} {m:D.Meaning} (h:gM k l) (hx:x.length≤l.length+1∧∀y∈x,y∈l∨y=m) (hm:m.Word.size≤9):gM (k+1) x:=by
 refine ⟨by have:=h.1;have:=hx.1;omega,fun y hy=> ?_⟩
 rcases hx.2 y hy with h1 | rfl
 ·exact h.2 y h1
 ·exact hm
theorem Qdz {k m:Nat} {l:List D.Meaning} (h:gM k l) (hm:k≤m):gM m l:=⟨Nat.le_trans h.1 hm,h.2⟩
theorem Q1 {l:List D.Meaning} {m:D.Meaning} {i:Nat} (hl:∀y∈l,y.Word.size≤9) (hm:m.Word.size≤9):∀y∈l.take i++ [m]++l.drop i,y.Word.size≤9:=fun y hy=>by
 rcases List.mem_append.1 hy with hy | hy
 ·rcases List.mem_append.1 hy with hy | hy
  ·exact hl y (List.mem_of_mem_take hy)
  ·obtain rfl:=List.mem_singleton.1 hy;exact hm
 ·exact hl y (List.mem_of_mem_drop hy)
theorem Qev {l:List D.Meaning} {m:D.Meaning} {i:Nat}:(l.take i++ [m]++l.drop i).length≤l.length+1∧∀y∈l.take i++ [m]++l.drop i,y∈l∨y=m:=by
 refine ⟨by simp only [List.length_append,List.length_take,List.length_drop,List.length_singleton];omega,fun y hy=> ?_⟩
 rcases List.mem_append.1 hy with hy | hy
 ·rcases List.mem_append.1 hy with hy | hy
  ·exact .inl (List.mem_of_mem_take hy)
  ·exact .inr (List.mem_singleton.1 hy)
 ·exact .inl (List.mem_of_mem_drop hy)
end
theorem Y3 (n:Nat) (a:D.Meaning) (b:D.Meaning):Pure (Qm Tryd.prog (n+2)) 93 [(T.agg (Qa false a)),(T.agg (Qa false b))] (tB (Yc a b)):=by
 refine Pure.intro (rs:= [ResultVar.tmp 4]) Tryd.func93 Y Y Y (E0:= [(0,(T.agg (Qa false a))),(1,(T.agg (Qa false b)))]) Y ?_
 obtain ⟨hlim,hmx,hmax⟩:=QG
 refine sr (kO (B.box (ts:=(Qa false a)) (tv (T.agg (Qa false a)) Y) nofun Y) (kO (B.box (ts:=(Qa false b)) (tv (T.agg (Qa false b)) Y) nofun Y) (fO (OF.assign (VEv.bool false)) (nt (sr (lf (tS a.Word) Y Yt Y Y st9 (lf (tS b.Word) Y Yt Y Y st9 (cO (cS (vc (tv (tS a.Word) Y) (vc (tv (tS b.Word) Y) vn)) (QR Y) (QaC (n+0) a.Word b.Word) Y Y) (mO (tB (Jv a.Word b.Word)) Y ?_)))))))))
 refine Qau (Jv a.Word b.Word) (fun hg10_1=> ?_) (fun hg10_1=> ?_)
 ·have fhg10_1:(Jv a.Word b.Word)=true:=hg10_1
  refine QB 6 5 false 10 hg10_1 Y Y Y (JY 5 11 true 16 Y Y Y (oO Y Y hg10_1 (fO (OF.pickT (VEv.tmpB Y hg10_1) (VEv.bool true)) (aO (tB true) Y (nt (rt (vb (b':=true) Y ?_)))))))
  first | (simp [Yc, *];done) | (unfold Yc;rw [‹Jv a.Word b.Word=false›,Bool.false_or,decide_eq_true ‹a.Word=b.Word›,Bool.true_and];done)
 have fhg10_1:(Jv a.Word b.Word)=false:=hg10_1
 refine JZ (tS a.Word) hg10_1 Y Y Y Y Yt Y Y st9 (JZ (tS b.Word) hg10_1 Y Y Y Y Yt Y Y st9 (gF hg10_1 Y Y (B.seql (c:=(decide (a.Word=b.Word))) (tv (tS a.Word) Y) (tv (tS b.Word) Y) Y) (gF hg10_1 Y Y (OF.move (tv (tB (decide (a.Word=b.Word))) Y)) ?_)))
 refine gw (a.Word=b.Word) (fun fhg16_2=> ?_) fun fhg16_2=> ?_
 ·refine JZ (tI a.Sense) (dy fhg16_2) Y Y Y Y Jf Y Y QY ?_
  refine JZ (tI b.Sense) (dy fhg16_2) Y Y Y Y Jf Y Y QY (gF (dy fhg16_2) Y Y (xls (tv (tI a.Sense) Y) (tv (tI b.Sense) Y)) (gF hg10_1 Y Y (OF.pickT (VEv.tmpB Y (dy fhg16_2)) (tv (tB (decide (a.Sense<b.Sense))) Y)) (fO (OF.pickF (VEv.tmpB Y hg10_1) (tv (tB (decide (a.Sense<b.Sense))) Y)) (aO (tB (decide (a.Sense<b.Sense))) Y (nt (rt (vb (b':=(decide (a.Sense<b.Sense))) Y ?_)))))))
  first | (simp [Yc, *];done) | (unfold Yc;rw [‹Jv a.Word b.Word=false›,Bool.false_or,decide_eq_true ‹a.Word=b.Word›,Bool.true_and];done)
 refine QB 5 11 true 16 (dz fhg16_2) Y Y Y (gF hg10_1 Y Y (OF.pickF (VEv.tmpB Y (dz fhg16_2)) (VEv.bool false)) (fO (OF.pickF (VEv.tmpB Y hg10_1) (tv (tB false) Y)) (aO (tB false) Y (nt (rt (vb (b':=false) Y ?_))))))
 first | (simp [Yc, *];done) | (unfold Yc;rw [‹Jv a.Word b.Word=false›,Bool.false_or,decide_eq_true ‹a.Word=b.Word›,Bool.true_and];done)
theorem Yo (n:Nat) (d:List D.Meaning) (hd:d.length≤mx) (hw:∀y∈d,y.Word.size≤9):PureE (Qm Tryd.prog (n+3)) 95 [(rd 2 Qa d)] (fun x:Bool=>True) (fun x:Bool=>(tB x)):=by
 refine PureE.intro (rs:= [ResultVar.tmp 2]) Tryd.func95 Y Y Y (E0:= [(0,(rd 2 Qa d))]) Y ?_
 obtain ⟨hlim,hmx,hmax⟩:=QG
 refine sr (fO (OF.assign (VEv.bool false)) (nt (sq (sr (fO (OF.assign (VEv.int .i64 0)) (nt (VRun.block ?_)))))))
 refine VRun.loop (A:=Nat) (fun s_=> [(0,(rd 2 Qa d)),(3,(tN s_))]) (fun s_=>ZR []) 0 (fun s_=>s_≤d.length) (fun s_=>d.length - s_) (0:Nat) ?_ (Wk.mk (fun k=>k) ?_ ?_ ?_) ?_
 ·first | trivial | (simp;done) | omega | (constructor<;>simp)
 ·exact (b2 (b2 bn))
 ·exact bn
 ·exact nd Y
 rintro i (hI':i≤d.length)
 show VRun _ _ _ [(0,(rd 2 Qa d)),(3,(tN i))] (ZR []) 0 _
 have hI1:=hI'
 refine sq (sr (mO (tN i) Y (mO (rd 2 Qa d) Y (lO (B.lenR (m:=d.length) (tv (rd 2 Qa d) Y) YB (List.length_map ..)) (fO (Yr (tv (tN i) Y) (tv (tN d.length) Y)) (nt ?_))))))
 refine cd (i<d.length) Y (fun fhc0=> ?_) fun fhc0=> ?_
 ·refine sk ?_
  refine tn (sq (VRun.block (sq (VRun.draw (B:= [[],[],[1,0],[0,1,2],[2,1,0,3],[3,0,1,2,4],[4,2,1,0,3,5],[5,3,0,1,2,4,6],[6,4,2,1,0,3,5,7],[6,4,2,1,0,3,5,7],[9,7,5,3,0,1,2,4,6,8],[8,6,4,2,1,0,3,5,7,9,10],[10,9,7,5,3,0,1,2,4,6,8,11],[11,8,6,4,2,1,0,3,5,7,9,10,12],[12,10,9,7,5,3,0,1,2,4,6,8,11,13],[13,11,8,9,10,12,14,6,4,2,1,0,3,5,7],[7,5,3,0,1,2,4,6,14,12,10,9,8,11,13,15],[15,13,11,8,9,10,12,14,6,4,2,1,0,3,5,7,16],[16,7,5,3,0,1,2,4,6,14,12,10,9,8,11,13,15,17],[17,15,13,11,8,9,10,12,14,6,4,2,1,0,3,5,7,16,18],[18,16,7,5,3,0,1,2,4,6,14,12,10,9,8,11,13,15,17,19],[18,16,7,5,3,0,1,2,4,6,14,12,10,9,8,11,13,15,17,19],[19,17,15,13,11,8,9,10,12,14,6,4,2,1,0,3,5,7,16,18,21],[21,22,19,17,15,13,11,8,9,10,12,14,6,4,2,1,0,3,5,7,16,18,20],[20,18,16,7,5,3,0,1,2,4,6,14,12,10,9,8,11,13,15,17,19,22,21,23],[18,16,7,5,3,0,1,2,4,6,14,12,10,9,8,11,13,15,17,19],[18,16,7,5,3,0,1,2,4,6,14,12,10,9,8,11,13,15,17,19],[26,19,17,15,13,11,8,9,10,12,14,6,4,2,1,0,3,5,7,16,18,25],[25,18,16,7,5,3,0,1,2,4,6,14,12,10,9,8,11,13,15,17,19,26,27],[27,26,25,28,23,21,22,19,17,15,13,11,8,9,10,12,14,6,4,2,1,0,3,5,7,16,18,20,24],[24,20,18,16,7,5,3,0,1,2,4,6,14,12,10,9,8,11,13,15,17,19,22,21,23,28,25,26,27,29],[29,27,26,25,28,23,21,22,20,24,30,18,16,7,5,3,0,1,2,4,6,14,12,10,9,8,11,13,15,17,19],[19,17,18,30,24,20,22,21,23,28,25,26,27,29,31,15,13,11,8,9,10,12,14,6,4,2,1,0,3,5,7,16]]) (by kernel_rfl) (by kernel_rfl) Y (mD (rd 2 Qa d) Y Y (mD (tN i) Y Y ?_))))))
  obtain ⟨x1,hx1⟩:∃x,d[i]? =some x:=⟨_,List.getElem?_eq_getElem (by omega)⟩
  have hz1:=hw _ (List.mem_of_getElem? hx1)
  refine fD (OF.indexAddrR (row:=(Qa false x1)) (i:=i) (tv (rd 2 Qa d) Y) (tv (tN i) Y) Y (Qs _ hx1) YB QF Y9) Y Y (fD (B.fieldAddrR (us:=(Qa false x1)) (tv (T.rp (Qa false x1)) Y) (lb Y) Yt Y) Y Y (lD (OL.loadR1 (t:=(tS x1.Word)) (tv (T.rp (Qa false x1)) Y) Y st9) Y Y (VRunD.quiet (bi:= [3,0,1,2,4]) Y VWant.always Y Y Y bn (cS (vc (tv (tS x1.Word) Y) vn) (QR Y) (Z5 (n+0) x1.Word (by first | assumption | omega)) Y Y) (fD (QZ (tv (tB (decide (Qr x1.Word))) Y)) Y Y (mD (tB (!(decide (Qr x1.Word)))) Y Y ?_)))))
  refine gn (Qr x1.Word) (fun fhg17_1=> ?_) fun fhg17_1=> ?_
  ·refine oD Y Y (ny fhg17_1) Y ?_
   refine oD Y Y (ny fhg17_1) Y (oD Y Y (ny fhg17_1) Y (oD Y Y (ny fhg17_1) Y (oD Y Y (ny fhg17_1) Y (oD Y Y (ny fhg17_1) Y (oD Y Y (ny fhg17_1) Y (fD (OF.pickT (VEv.tmpB Y (ny fhg17_1)) (VEv.bool true)) Y Y (mD (tB true) Y Y (VRunD.off Y (VWant.not (b:=true) Y Y Y) (VRunD.off Y (VWant.not (b:=true) Y Y Y) (VRunD.off Y (VWant.not (b:=true) Y Y Y) (uD Y Y Y ?_)))))))))))
   refine uD Y Y Y (uD Y Y Y (uD Y Y Y (uD Y Y Y (uD Y Y Y (uD Y Y Y (uD Y Y Y (uD Y Y Y (uD Y Y Y (uD Y Y Y (VRunD.off Y (VWant.not (b:=true) Y Y Y) (fD (OF.pickT (tv (tB true) Y) (VEv.bool true)) Y Y ?_)))))))))))
   refine VRunD.nil (tn (ct Y (sr (fO (OF.assign (VEv.bool false)) (nt (rt (vinB.r (tr (tr (vinB.r (tr ?_)))))))))))
   refine vfinE.r false ?_ (vfin.r (VRes.tmp (t:=(tB false)) Y VRes.nil) (Give.bool _))
   show True
   trivial
  refine VRunD.free Y (VWant.on Y Y (nz fhg17_1)) Y (OF.move (tv (rd 2 Qa d) Y)) (VRunD.free Y (VWant.on Y Y (nz fhg17_1)) Y (OF.move (tv (tN i) Y)) (VRunD.free Y (VWant.on Y Y (nz fhg17_1)) Y (OF.indexAddrR (row:=(Qa false x1)) (i:=i) (tv (rd 2 Qa d) Y) (tv (tN i) Y) Y (Qs _ hx1) YB QF Y9) (VRunD.free Y (VWant.on Y Y (nz fhg17_1)) Y (B.fieldAddrR (us:= [(tI x1.Sense)]) (tv (T.rp (Qa false x1)) Y) (lb Y) Jf Y) (VRunD.look Y (VWant.on Y Y (nz fhg17_1)) Y (OL.loadR1 (t:=(tI x1.Sense)) (tv (T.rp [(tI x1.Sense)]) Y) Y QY) (VRunD.quiet (bi:= [11,8,6,4,2,1,0,3,5,7,9,10,12]) Y (VWant.on Y Y (nz fhg17_1)) Y Y Y bn (cS (vc (tv (tI x1.Sense) Y) (vc (VEv.int .i64 1) (vc (VEv.int .i64 99) vn))) (QR Y) (QS (n+1) x1.Sense 1 99) Y Y) (VRunD.free Y (VWant.on Y Y (nz fhg17_1)) Y (QZ (tv (tB (decide (1≤x1.Sense∧x1.Sense≤99))) Y)) (fD (OF.pickF (VEv.tmpB Y (nz fhg17_1)) (tv (tB (!(decide (1≤x1.Sense∧x1.Sense≤99)))) Y)) Y Y (mD (tB (!(decide (1≤x1.Sense∧x1.Sense≤99)))) Y Y ?_))))))))
  refine gn (1≤x1.Sense∧x1.Sense≤99) (fun fhg26_2=> ?_) fun fhg26_2=> ?_
  ·refine oD Y Y (ny fhg26_2) Y ?_
   refine oD Y Y (ny fhg26_2) Y (oD Y Y (ny fhg26_2) Y (uD Y Y Y (uD Y Y Y (uD Y Y Y (uD Y Y Y (uD Y Y Y (uD Y Y Y (uD Y Y Y (uD Y Y Y (uD Y Y Y (uD Y Y Y ?_)))))))))))
   refine uD Y Y Y (oD Y Y (ny fhg26_2) Y (fD (OF.pickT (VEv.tmpB Y (ny fhg26_2)) (VEv.bool true)) Y Y (VRunD.nil (tn (ct Y (sr (fO (OF.assign (VEv.bool false)) (nt (rt (vinB.r (tr ?_)))))))))))
   refine tr (vinB.r (tr ?_))
   refine vfinE.r false ?_ (vfin.r (VRes.tmp (t:=(tB false)) Y VRes.nil) (Give.bool _))
   show True
   trivial
  refine VRunD.free Y (VWant.on Y Y (nz fhg26_2)) Y (OF.move (tv (tN i) Y)) (VRunD.free Y (VWant.on Y Y (nz fhg26_2)) Y (B.gtr (c:=(decide (0<i))) (tv (tN i) Y) (VEv.int .i64 0) (Zp (by omega))) (VRunD.free Y (VWant.on Y Y (nz fhg26_2)) Y (OF.move (tv (tB (decide (0<i))) Y)) ?_))
  refine gw (0<i) (fun fhg29_3=> ?_) fun fhg29_3=> ?_
  ·refine VRunD.free Y (VWant.on Y Y (dy fhg29_3)) Y (OF.move (tv (rd 2 Qa d) Y)) ?_
   refine VRunD.free Y (VWant.on Y Y (dy fhg29_3)) Y (OF.move (tv (tN i) Y)) (VRunD.free Y (VWant.on Y Y (dy fhg29_3)) Y (B.sub (n:=(((i:Nat):Int) - 1)) (tv (tN i) Y) (VEv.int .i64 1) (by first | rfl | (rw [Qg (by omega)];omega) | (rw [Qg (by omega)];done))) ?_)
   obtain ⟨x2,hx2⟩:∃x,d[(Int.toNat (((i:Nat):Int) - 1))]? =some x:=⟨_,List.getElem?_eq_getElem (by omega)⟩
   have hz2:=hw _ (List.mem_of_getElem? hx2)
   refine VRunD.free Y (VWant.on Y Y (dy fhg29_3)) Y (OF.indexAddrR (row:=(Qa false x2)) (i:=(Int.toNat (((i:Nat):Int) - 1))) (tv (rd 2 Qa d) Y) (tv (tI (((i:Nat):Int) - 1)) Y) (by omega) (Qs _ hx2) YB QF Y9) (VRunD.look Y (VWant.on Y Y (dy fhg29_3)) Y (OL.loadRn (us:=(Qa false x2)) (tv (T.rp (Qa false x2)) Y) Qcm QF (lb Y) Y) (VRunD.free Y (VWant.on Y Y (dy fhg29_3)) Y (OF.move (tv (rd 2 Qa d) Y)) (VRunD.free Y (VWant.on Y Y (dy fhg29_3)) Y (OF.move (tv (tN i) Y)) (VRunD.free Y (VWant.on Y Y (dy fhg29_3)) Y (OF.indexAddrR (row:=(Qa false x1)) (i:=i) (tv (rd 2 Qa d) Y) (tv (tN i) Y) Y (Qs _ hx1) YB QF Y9) (VRunD.look Y (VWant.on Y Y (dy fhg29_3)) Y (OL.loadRn (us:=(Qa false x1)) (tv (T.rp (Qa false x1)) Y) Qcm QF (lb Y) Y) (VRunD.quiet (bi:= [27,26,25,28,23,21,22,19,17,15,13,11,8,9,10,12,14,6,4,2,1,0,3,5,7,16,18,20,24]) Y (VWant.on Y Y (dy fhg29_3)) Y Y Y bn (cS (vc (tv (T.agg (Qa false x2)) Y) (vc (tv (T.agg (Qa false x1)) Y) vn)) (LendL.cons (lg okeMeaning) (LendL.cons (lg okeMeaning) ln)) (Y3 (n+0) x2 x1) Y Y) (VRunD.free Y (VWant.on Y Y (dy fhg29_3)) Y (QZ (tv (tB (Yc x2 x1)) Y)) (VRunD.free Y (VWant.on Y Y (nz fhg26_2)) Y (OF.pickT (VEv.tmpB Y (dy fhg29_3)) (tv (tB (!(Yc x2 x1))) Y)) (fD (OF.pickF (VEv.tmpB Y (nz fhg26_2)) (tv (tB (!(Yc x2 x1))) Y)) Y Y (VRunD.nil (tn ?_)))))))))))
   refine VRun.cond (tv (tB (!(Yc x2 x1))) Y) (fun hc1=> ?_) (fun hc1=> ?_)
   ·have fhc1:(Yc x2 x1)=false:=Qe1 hc1
    refine sr (fO (OF.assign (VEv.bool false)) (nt (rt (vinB.r (tr (tr (vinB.r (tr ?_))))))))
    refine vfinE.r false ?_ (vfin.r (VRes.tmp (t:=(tB false)) Y VRes.nil) (Give.bool _))
    show True
    trivial
   have fhc1:(Yc x2 x1)=true:=Qfp hc1
   refine sk (vinB.n (tn (VRun.region (mO (tN i) Y (fO (Zu (tv (tN i) Y) (VEv.int .i64 1) (by omega)) (aO (tN (i+1)) Y (VRunO.nil (tn ?_))))))))
   refine ⟨(i+1:Nat),?_,?_,Wk.mk (fun k=>k) ?_ ?_ ?_⟩
   ·first | trivial | omega | (simp;done) | exact ⟨by omega,hI'.2⟩
   ·first | omega | (simp only [];omega) | (show _<_;omega) | (simp;omega)
   ·exact (b2 (b2 bn))
   ·exact bn
   ·exact nd Y
  refine oD Y Y (dz fhg29_3) Y (oD Y Y (dz fhg29_3) Y (oD Y Y (dz fhg29_3) Y (oD Y Y (dz fhg29_3) Y (oD Y Y (dz fhg29_3) Y (oD Y Y (dz fhg29_3) Y (oD Y Y (dz fhg29_3) Y (oD Y Y (dz fhg29_3) Y (oD Y Y (dz fhg29_3) Y (oD Y Y (dz fhg29_3) Y (oD Y Y (dz fhg29_3) Y (VRunD.free Y (VWant.on Y Y (nz fhg26_2)) Y (OF.pickF (VEv.tmpB Y (dz fhg29_3)) (VEv.bool false)) ?_)))))))))))
  refine fD (OF.pickF (VEv.tmpB Y (nz fhg26_2)) (tv (tB false) Y)) Y Y (VRunD.nil (tn (cf Y (sk (vinB.n (tn (VRun.region (mO (tN i) Y (fO (Zu (tv (tN i) Y) (VEv.int .i64 1) (by omega)) (aO (tN (i+1)) Y (VRunO.nil ?_)))))))))))
  refine tn ?_
  refine ⟨(i+1:Nat),?_,?_,Wk.mk (fun k=>k) ?_ ?_ ?_⟩
  ·first | trivial | omega | (simp;done) | exact ⟨by omega,hI'.2⟩
  ·first | omega | (simp only [];omega) | (show _<_;omega) | (simp;omega)
  ·exact (b2 (b2 bn))
  ·exact bn
  ·exact nd Y
 refine VRun.exit (vthn.e (vthn.e (vinB.e (tn (sr (mO (rd 2 Qa d) Y (lO (B.lenR (m:=d.length) (tv (rd 2 Qa d) Y) YB (List.length_map ..)) (fO (B.leq (c:=(decide (d.length≤40))) (tv (tN d.length) Y) (VEv.int .i64 40) (Zp (by omega))) (aO (tB (decide (d.length≤40))) Y (nt (rt ?_)))))))))))
 refine vfinE.r (decide (d.length≤40)) ?_ (vfin.r (VRes.tmp (t:=(tB (decide (d.length≤40)))) Y VRes.nil) (Give.bool _))
 show True
 trivial
theorem YP (n:Nat) (d:List D.Meaning) (m:D.Meaning) (hd:d.length≤100) (hw:∀y∈d,y.Word.size≤9) (hm:m.Word.size≤9):PureE (Qm Tryd.prog (n+4)) 77 [(rd 2 Qa d),(T.agg (Qa false m))] (fun x:List D.Meaning×Bool=>x.1.length≤d.length+1∧∀y∈x.1,y∈d∨y=m) (fun x:List D.Meaning×Bool=>(T.tup [(T.sl true 2 (x.1.map (Qa true))),(tB x.2)])):=by
 refine PureE.intro (rs:= [ResultVar.tmp 4,ResultVar.tmp 5]) Tryd.func77 Y Y Y (E0:= [(0,(rd 2 Qa d)),(1,(T.agg (Qa false m)))]) Y ?_
 obtain ⟨hlim,hmx,hmax⟩:=QG
 refine sr (kO (B.box (ts:=(Qa false m)) (tv (T.agg (Qa false m)) Y) nofun Y) (fO (OF.assign VEv.nils) (fO (OF.assign (VEv.bool false)) (nt (sr (fO (OF.assign (VEv.int .i64 0)) (nt (sq (VRun.block ?_)))))))))
 refine VRun.loop (A:=Nat) (fun s_=> [(0,(rd 2 Qa d)),(3,(T.op 0 0)),(4,T.nils),(5,(tB false)),(6,(tN s_))]) (fun s_=>ZR [(0,(Obj.cells (Qa false m)))]) 1 (fun s_=>s_≤d.length) (fun s_=>d.length - s_) (0:Nat) ?_ (Wk.mk (fun k=>k) ?_ ?_ ?_) ?_
 ·first | trivial | (simp;done) | omega | (constructor<;>simp)
 ·exact (b2 (b2 (b2 (b2 (b2 bn)))))
 ·exact (b3 bn)
 ·exact nd Y
 rintro i (hI':i≤d.length)
 show VRun _ _ _ [(0,(rd 2 Qa d)),(3,(T.op 0 0)),(4,T.nils),(5,(tB false)),(6,(tN i))] (ZR [(0,(Obj.cells (Qa false m)))]) 1 _
 have hI1:=hI'
 refine sq (sq (VRun.draw (B:= [[],[],[1],[1,2,0],[0,2,1,3],[3,1,2,0,4],[3,1,2,0,4],[6,4,0,2,1,3,5],[5,3,1,2,0,4,6,7],[3,1,2,0,4],[9,7,6,4,0,2,1,3,5,8],[8,5,6,7,9,10,3,1,2,0,4]]) (by kernel_rfl) (by kernel_rfl) Y (mD (tN i) Y Y (mD (rd 2 Qa d) Y Y (lD (B.lenR (m:=d.length) (tv (rd 2 Qa d) Y) YB (List.length_map ..)) Y Y (fD (Yr (tv (tN i) Y) (tv (tN d.length) Y)) Y Y (mD (tB (decide (i<d.length))) Y Y ?_)))))))
 refine gw (i<d.length) (fun fhg12_1=> ?_) fun fhg12_1=> ?_
 ·refine VRunD.free Y (VWant.on Y Y (dy fhg12_1)) Y (OF.move (tv (rd 2 Qa d) Y)) ?_
  refine VRunD.free Y (VWant.on Y Y (dy fhg12_1)) Y (OF.move (tv (tN i) Y)) ?_
  obtain ⟨x1,hx1⟩:∃x,d[i]? =some x:=⟨_,List.getElem?_eq_getElem (by first | (simp only [List.length_append,List.length_take,List.length_drop,List.length_singleton];omega) | exact Q1 hw hm | omega)⟩
  refine VRunD.free Y (VWant.on Y Y (dy fhg12_1)) Y (OF.indexAddrR (row:=(Qa false x1)) (i:=i) (tv (rd 2 Qa d) Y) (tv (tN i) Y) Y (Qs _ hx1) YB QF Y9) (VRunD.look Y (VWant.on Y Y (dy fhg12_1)) Y (OL.loadRn (us:=(Qa false x1)) (tv (T.rp (Qa false x1)) Y) Qcm QF (lb Y) Y) (VRunD.look Y (VWant.on Y Y (dy fhg12_1)) Y (OL.loadOn (us:=(Qa false m)) (tv (T.op 0 0) Y) Y Qcm QF (lb Y) Y) (VRunD.quiet (bi:= [9,7,6,4,0,2,1,3,5,8]) Y (VWant.on Y Y (dy fhg12_1)) Y Y Y bn (cS (vc (tv (T.agg (Qa false x1)) Y) (vc (tv (T.agg (Qa false m)) Y) vn)) (LendL.cons (lg okeMeaning) (LendL.cons (lg okeMeaning) ln)) (Y3 (n+1) x1 m) Y Y) (fD (OF.pickT (VEv.tmpB Y (dy fhg12_1)) (tv (tB (Yc x1 m)) Y)) Y Y (VRunD.nil (tn ?_))))))
  refine VRun.cond (tv (tB (Yc x1 m)) Y) (fun hc0=> ?_) (fun hc0=> ?_)
  ·have fhc0:(Yc x1 m)=true:=hc0
   refine sk (tn (VRun.block (VRun.region (mO (tN i) Y (fO (Zu (tv (tN i) Y) (VEv.int .i64 1) (by first | (simp only [List.length_append,List.length_take,List.length_drop,List.length_singleton];omega) | exact Q1 hw hm | omega)) (aO (tN (i+1)) Y (VRunO.nil (vinB.n (tn ?_)))))))))
   refine ⟨(i+1:Nat),?_,?_,Wk.mk (fun k=>k) ?_ ?_ ?_⟩
   ·first | trivial | omega | (simp;done) | exact ⟨by omega,hI'.2⟩
   ·first | omega | (simp only [];omega) | (show _<_;omega) | (simp;omega)
   ·exact (b2 (b2 (b2 (b2 (b2 bn)))))
   ·exact (b3 bn)
   ·exact nd Y
  have fhc0:(Yc x1 m)=false:=hc0
  refine VRun.exit (vthn.e (vthn.e (vinB.e (tn (sq (VRun.draw (B:= [[],[],[],[2,1],[1,2,3,0],[],[5],[5,6,0,3,2,1,4],[],[],[9,8],[8,9,10,4,1,2,3,0,6,5,7],[7,5,6,0,3,2,1,4,10,9,8,11]]) (by kernel_rfl) (by kernel_rfl) Y (VRunD.make Y VWant.always Y (OM.slice0 YB Zz (by kernel_rfl) Y (by rw [QF];decide) QF) (mD (rd 2 Qa d) Y Y (mD (tN i) Y Y ?_)))))))))
  refine lD (show OL _ _ _ _ _ (T.sl false 2 ((d.take i).map (Qa false))) by rw [show (d.take i).map (Qa false)=(d.map (Qa false)).take i from List.map_take ..];exact (OL.sliceRHi (j:=i) (tv (rd 2 Qa d) Y) (tv (tN i) Y) Y (by first | (simp only [List.length_append,List.length_take,List.length_drop,List.length_singleton];omega) | exact Q1 hw hm | omega | (simp only [List.length_map];omega) | (simp only [List.length_map,List.length_append,List.length_cons,List.length_nil,List.length_replicate,List.length_set,List.length_drop,List.length_take,Zb] at *;omega)) YB QF Y9)) Y Y (VRunD.quiet (bi:= [1,2,3,0]) Y VWant.always Y Y Y (bc (lb Y) bn) (B.append (rows:= []) (rows2:=((d.take i).map (Qa false))) (rows3:=((d.take i).map (Qa true))) (VDst.own (tv (T.os 2 1 0 0) Y) Y Y) (VSrc.read (tv (rd 2 Qa (d.take i)) Y) YB (okeMeaning.okMap _ _)) nofun YB QF (by decide) Zz Y (of_decide_eq_true (by kernel_rfl)) (by first | (simp only [List.length_append,List.length_take,List.length_drop,List.length_singleton];omega) | exact Q1 hw hm | omega | (simp only [List.length_map];omega) | (simp only [List.length_map,List.length_append,List.length_cons,List.length_nil,List.length_replicate,List.length_set,List.length_drop,List.length_take,Zb] at *;omega)) (List.nil_append _)) (lD (OL.loadOn (us:=(Qa false m)) (tv (T.op 0 0) Y) Y Qcm QF (lb Y) Y) Y Y (VRunD.make Y VWant.always Y (OM.buildSlice (l:= [(T.agg (Qa false m))]) (VEvp.cons (tv (T.agg (Qa false m)) Y) VEvp.nil) Y (by decide) (bc (nofun) bn) (bc ((bc (Y) (bc (Y) bn))) bn) (bc (Y) bn) YB Zz (by kernel_rfl) Y (by rw [QF];decide) QF (Nat.le_of_ble_eq_true Y)) (VRunD.quiet (bi:= [5,6,0,3,2,1,4]) Y VWant.always Y Y Y (bc (lb Y) (bc (lb Y) bn)) (B.append (rows:=((d.take i).map (Qa true))) (rows2:= [[(tS m.Word),(tI m.Sense)]]) (rows3:=(((d.take i)++ [m]).map (Qa true))) (VDst.own (tv (T.os 2 2 0 (((d.take i).map (Qa true)).length)) Y) Y Y) (VSrc.own (tv (T.os 2 3 0 1) Y) Y Y YB (bc (bc Y (bc Y bn)) bn)) (by decide) YB QF (by decide) Zz Y (of_decide_eq_true (by kernel_rfl)) (by first | (simp only [List.length_append,List.length_take,List.length_drop,List.length_singleton];omega) | exact Q1 hw hm | omega | (simp only [List.length_map];omega) | (simp only [List.length_map,List.length_append,List.length_cons,List.length_nil,List.length_replicate,List.length_set,List.length_drop,List.length_take,Zb] at *;omega)) ((List.map_append (f:=Qa true) (l₁:=(d.take i)) (l₂:= [m])).symm)) (mD (rd 2 Qa d) Y Y (mD (tN i) Y Y ?_))))))
  refine lD (show OL _ _ _ _ _ (T.sl false 2 ((d.drop i).map (Qa false))) by rw [show (d.drop i).map (Qa false)=(d.map (Qa false)).drop i from List.map_drop ..];exact (OL.sliceRLo (i:=i) (tv (rd 2 Qa d) Y) (tv (tN i) Y) Y (by first | (simp only [List.length_append,List.length_take,List.length_drop,List.length_singleton];omega) | exact Q1 hw hm | omega | (simp only [List.length_map];omega) | (simp only [List.length_map,List.length_append,List.length_cons,List.length_nil,List.length_replicate,List.length_set,List.length_drop,List.length_take,Zb] at *;omega)) YB QF Y9)) Y Y (VRunD.quiet (bi:= [8,9,10,4,1,2,3,0,6,5,7]) Y VWant.always Y Y Y (bc (lb Y) bn) (B.append (rows:=(((d.take i)++ [m]).map (Qa true))) (rows2:=((d.drop i).map (Qa false))) (rows3:=((((d.take i)++ [m])++(d.drop i)).map (Qa true))) (VDst.own (tv (T.os 2 4 0 ((((d.take i)++ [m]).map (Qa true)).length)) Y) Y Y) (VSrc.read (tv (rd 2 Qa (d.drop i)) Y) YB (okeMeaning.okMap _ _)) nofun YB QF (by decide) Zz Y (of_decide_eq_true (by kernel_rfl)) (by first | (simp only [List.length_append,List.length_take,List.length_drop,List.length_singleton];omega) | exact Q1 hw hm | omega | (simp only [List.length_map];omega) | (simp only [List.length_map,List.length_append,List.length_cons,List.length_nil,List.length_replicate,List.length_set,List.length_drop,List.length_take,Zb] at *;omega)) ((List.map_append (f:=Qa true) (l₁:=((d.take i)++ [m])) (l₂:=(d.drop i))).symm)) (fD (OF.assign (tv (T.os 2 5 0 (((((d.take i)++ [m])++(d.drop i)).map (Qa true)).length)) Y)) Y Y (VRunD.nil (tn (sq (sr (mO (rd 2 Qa d) Y (lf (tS m.Word) Y Yt Y Y st9 (lf (tI m.Sense) Y Jf Y Y QY (cO (cS (vc (tv (rd 2 Qa d) Y) (vc (tv (tS m.Word) Y) (vc (tv (tI m.Sense) Y) vn))) (QR Y) (Jr (n+2) d m.Word m.Sense (by first | (simp only [List.length_append,List.length_take,List.length_drop,List.length_singleton];omega) | exact Q1 hw hm | assumption | omega)) Y Y) (mO (tB (decide (D.Meaning.mk m.Word m.Sense∈d))) Y ?_)))))))))))
  refine gw (D.Meaning.mk m.Word m.Sense∈d) (fun fhg40_2=> ?_) fun fhg40_2=> ?_
  ·refine QB 3 6 false 40 (dy fhg40_2) Y Y Y ?_
   refine fO (OF.pickT (VEv.tmpB Y (dy fhg40_2)) (VEv.bool true)) (nt (ct Y (sr (kO (OM.slice0 YB Zz (by kernel_rfl) Y (by rw [QF];decide) QF) (mO (rd 2 Qa d) Y (cO (B.append (rows:= []) (rows2:=(d.map (Qa false))) (rows3:=(d.map (Qa true))) (VDst.own (tv (T.os 2 6 0 0) Y) Y Y) (VSrc.read (tv (rd 2 Qa d) Y) YB (okeMeaning.okMap _ _)) nofun YB QF (by decide) Zz Y (of_decide_eq_true (by kernel_rfl)) (by first | (simp only [List.length_append,List.length_take,List.length_drop,List.length_singleton];omega) | exact Q1 hw hm | omega | (simp only [List.length_map];omega) | (simp only [List.length_map,List.length_append,List.length_cons,List.length_nil,List.length_replicate,List.length_set,List.length_drop,List.length_take,Zb] at *;omega)) (List.nil_append _)) (aO (T.os 2 7 0 ((d.map (Qa true)).length)) Y (fO (OF.assign (VEv.bool false)) (nt (rt (tr ?_)))))))))))
   refine vfinE.r (d,false) ?_ (vfin.r (VRes.tmp (t:=(T.os 2 7 0 ((d.map (Qa true)).length))) Y (VRes.tmp (t:=(tB false)) Y VRes.nil)) (Give.tup (GiveL.cons (Give.os Y Y (okeMeaning.cleanMap _)) (GiveL.cons (Give.bool _) GiveL.nil (by decide)) (by decide))))
   show d.length≤d.length+1∧∀y∈d,y∈d∨y=m
   first | exact ⟨Nat.le_succ _,fun y hy=> .inl hy⟩ | exact Qev
  refine gF (dz fhg40_2) Y Y (OF.move (tv (T.os 2 5 0 (((((d.take i)++ [m])++(d.drop i)).map (Qa true)).length)) Y)) ?_
  refine eP (us:= [(rd 2 Qa (((d.take i)++ [m])++(d.drop i)))]) (r':=fun x_:Bool=>(tB x_)) (objs:=fun x_:Bool=> []) (m:=0) (VWant.on Y Y (dz fhg40_2)) (vc (tv (T.os 2 5 0 (((((d.take i)++ [m])++(d.drop i)).map (Qa true)).length)) Y) vn) (LendL.cons (Lend.os Y Y (okeMeaning.fzMap _ _)) ln) (Yo (n+0) (((d.take i)++ [m])++(d.drop i)) (by first | (simp only [List.length_append,List.length_take,List.length_drop,List.length_singleton];omega) | exact Q1 hw hm | assumption | omega | (simp only [List.length_cons,List.length_nil];omega)) (by first | (simp only [List.length_append,List.length_take,List.length_drop,List.length_singleton];omega) | exact Q1 hw hm | assumption | omega | (simp only [List.length_cons,List.length_nil];omega))) Y (fun _=>rfl) (fun _=>rfl) fun e42 hs42=> ?_
  have hs42:True:=hs42
  refine gF (dz fhg40_2) Y Y (QZ (tv (tB e42) Y)) (fO (OF.pickF (VEv.tmpB Y (dz fhg40_2)) (tv (tB (!e42)) Y)) (nt ?_))
  refine VRun.cond (tv (tB (!e42)) Y) (fun hc1=> ?_) (fun hc1=> ?_)
  ·have fhc1:e42=false:=Qe1 hc1
   refine sr (kO (OM.slice0 YB Zz (by kernel_rfl) Y (by rw [QF];decide) QF) (mO (rd 2 Qa d) Y (cO (B.append (rows:= []) (rows2:=(d.map (Qa false))) (rows3:=(d.map (Qa true))) (VDst.own (tv (T.os 2 6 0 0) Y) Y Y) (VSrc.read (tv (rd 2 Qa d) Y) YB (okeMeaning.okMap _ _)) nofun YB QF (by decide) Zz Y (of_decide_eq_true (by kernel_rfl)) (by first | (simp only [List.length_append,List.length_take,List.length_drop,List.length_singleton];omega) | exact Q1 hw hm | omega | (simp only [List.length_map];omega) | (simp only [List.length_map,List.length_append,List.length_cons,List.length_nil,List.length_replicate,List.length_set,List.length_drop,List.length_take,Zb] at *;omega)) (List.nil_append _)) (aO (T.os 2 7 0 ((d.map (Qa true)).length)) Y (fO (OF.assign (VEv.bool false)) (nt (rt (tr ?_))))))))
   refine vfinE.r (d,false) ?_ (vfin.r (VRes.tmp (t:=(T.os 2 7 0 ((d.map (Qa true)).length))) Y (VRes.tmp (t:=(tB false)) Y VRes.nil)) (Give.tup (GiveL.cons (Give.os Y Y (okeMeaning.cleanMap _)) (GiveL.cons (Give.bool _) GiveL.nil (by decide)) (by decide))))
   show d.length≤d.length+1∧∀y∈d,y∈d∨y=m
   first | exact ⟨Nat.le_succ _,fun y hy=> .inl hy⟩ | exact Qev
  have fhc1:e42=true:=Qfp hc1
  refine sk (tn (sr (mO (T.os 2 5 0 (((((d.take i)++ [m])++(d.drop i)).map (Qa true)).length)) Y (aO (T.os 2 5 0 (((((d.take i)++ [m])++(d.drop i)).map (Qa true)).length)) Y (fO (OF.assign (VEv.bool true)) (nt (rt ?_)))))))
  refine vfinE.r ((((d.take i)++ [m])++(d.drop i)),true) ?_ (vfin.r (VRes.tmp (t:=(T.os 2 5 0 (((((d.take i)++ [m])++(d.drop i)).map (Qa true)).length))) Y (VRes.tmp (t:=(tB true)) Y VRes.nil)) (Give.tup (GiveL.cons (Give.os Y Y (okeMeaning.cleanMap _)) (GiveL.cons (Give.bool _) GiveL.nil (by decide)) (by decide))))
  show (((d.take i)++ [m])++(d.drop i)).length≤d.length+1∧∀y∈(((d.take i)++ [m])++(d.drop i)),y∈d∨y=m
  first | exact ⟨Nat.le_succ _,fun y hy=> .inl hy⟩ | exact Qev
 refine oD Y Y (dz fhg12_1) Y (oD Y Y (dz fhg12_1) Y (oD Y Y (dz fhg12_1) Y (oD Y Y (dz fhg12_1) Y (oD Y Y (dz fhg12_1) Y (oD Y Y (dz fhg12_1) Y (fD (OF.pickF (VEv.tmpB Y (dz fhg12_1)) (VEv.bool false)) Y Y (VRunD.nil (tn (cf Y (VRun.exit (vthn.e ?_)))))))))))
 refine vthn.e (vinB.e (tn (sq (VRun.draw (B:= [[],[],[],[2,1],[1,2,3,0],[],[5],[5,6,0,3,2,1,4],[],[],[9,8],[8,9,10,4,1,2,3,0,6,5,7],[7,5,6,0,3,2,1,4,10,9,8,11]]) (by kernel_rfl) (by kernel_rfl) Y (VRunD.make Y VWant.always Y (OM.slice0 YB Zz (by kernel_rfl) Y (by rw [QF];decide) QF) (mD (rd 2 Qa d) Y Y (mD (tN i) Y Y ?_)))))))
 refine lD (show OL _ _ _ _ _ (T.sl false 2 ((d.take i).map (Qa false))) by rw [show (d.take i).map (Qa false)=(d.map (Qa false)).take i from List.map_take ..];exact (OL.sliceRHi (j:=i) (tv (rd 2 Qa d) Y) (tv (tN i) Y) Y (by first | (simp only [List.length_append,List.length_take,List.length_drop,List.length_singleton];omega) | exact Q1 hw hm | omega | (simp only [List.length_map];omega) | (simp only [List.length_map,List.length_append,List.length_cons,List.length_nil,List.length_replicate,List.length_set,List.length_drop,List.length_take,Zb] at *;omega)) YB QF Y9)) Y Y (VRunD.quiet (bi:= [1,2,3,0]) Y VWant.always Y Y Y (bc (lb Y) bn) (B.append (rows:= []) (rows2:=((d.take i).map (Qa false))) (rows3:=((d.take i).map (Qa true))) (VDst.own (tv (T.os 2 1 0 0) Y) Y Y) (VSrc.read (tv (rd 2 Qa (d.take i)) Y) YB (okeMeaning.okMap _ _)) nofun YB QF (by decide) Zz Y (of_decide_eq_true (by kernel_rfl)) (by first | (simp only [List.length_append,List.length_take,List.length_drop,List.length_singleton];omega) | exact Q1 hw hm | omega | (simp only [List.length_map];omega) | (simp only [List.length_map,List.length_append,List.length_cons,List.length_nil,List.length_replicate,List.length_set,List.length_drop,List.length_take,Zb] at *;omega)) (List.nil_append _)) (lD (OL.loadOn (us:=(Qa false m)) (tv (T.op 0 0) Y) Y Qcm QF (lb Y) Y) Y Y (VRunD.make Y VWant.always Y (OM.buildSlice (l:= [(T.agg (Qa false m))]) (VEvp.cons (tv (T.agg (Qa false m)) Y) VEvp.nil) Y (by decide) (bc (nofun) bn) (bc ((bc (Y) (bc (Y) bn))) bn) (bc (Y) bn) YB Zz (by kernel_rfl) Y (by rw [QF];decide) QF (Nat.le_of_ble_eq_true Y)) (VRunD.quiet (bi:= [5,6,0,3,2,1,4]) Y VWant.always Y Y Y (bc (lb Y) (bc (lb Y) bn)) (B.append (rows:=((d.take i).map (Qa true))) (rows2:= [[(tS m.Word),(tI m.Sense)]]) (rows3:=(((d.take i)++ [m]).map (Qa true))) (VDst.own (tv (T.os 2 2 0 (((d.take i).map (Qa true)).length)) Y) Y Y) (VSrc.own (tv (T.os 2 3 0 1) Y) Y Y YB (bc (bc Y (bc Y bn)) bn)) (by decide) YB QF (by decide) Zz Y (of_decide_eq_true (by kernel_rfl)) (by first | (simp only [List.length_append,List.length_take,List.length_drop,List.length_singleton];omega) | exact Q1 hw hm | omega | (simp only [List.length_map];omega) | (simp only [List.length_map,List.length_append,List.length_cons,List.length_nil,List.length_replicate,List.length_set,List.length_drop,List.length_take,Zb] at *;omega)) ((List.map_append (f:=Qa true) (l₁:=(d.take i)) (l₂:= [m])).symm)) (mD (rd 2 Qa d) Y Y (mD (tN i) Y Y ?_))))))
 refine lD (show OL _ _ _ _ _ (T.sl false 2 ((d.drop i).map (Qa false))) by rw [show (d.drop i).map (Qa false)=(d.map (Qa false)).drop i from List.map_drop ..];exact (OL.sliceRLo (i:=i) (tv (rd 2 Qa d) Y) (tv (tN i) Y) Y (by first | (simp only [List.length_append,List.length_take,List.length_drop,List.length_singleton];omega) | exact Q1 hw hm | omega | (simp only [List.length_map];omega) | (simp only [List.length_map,List.length_append,List.length_cons,List.length_nil,List.length_replicate,List.length_set,List.length_drop,List.length_take,Zb] at *;omega)) YB QF Y9)) Y Y (VRunD.quiet (bi:= [8,9,10,4,1,2,3,0,6,5,7]) Y VWant.always Y Y Y (bc (lb Y) bn) (B.append (rows:=(((d.take i)++ [m]).map (Qa true))) (rows2:=((d.drop i).map (Qa false))) (rows3:=((((d.take i)++ [m])++(d.drop i)).map (Qa true))) (VDst.own (tv (T.os 2 4 0 ((((d.take i)++ [m]).map (Qa true)).length)) Y) Y Y) (VSrc.read (tv (rd 2 Qa (d.drop i)) Y) YB (okeMeaning.okMap _ _)) nofun YB QF (by decide) Zz Y (of_decide_eq_true (by kernel_rfl)) (by first | (simp only [List.length_append,List.length_take,List.length_drop,List.length_singleton];omega) | exact Q1 hw hm | omega | (simp only [List.length_map];omega) | (simp only [List.length_map,List.length_append,List.length_cons,List.length_nil,List.length_replicate,List.length_set,List.length_drop,List.length_take,Zb] at *;omega)) ((List.map_append (f:=Qa true) (l₁:=((d.take i)++ [m])) (l₂:=(d.drop i))).symm)) (fD (OF.assign (tv (T.os 2 5 0 (((((d.take i)++ [m])++(d.drop i)).map (Qa true)).length)) Y)) Y Y (VRunD.nil (tn (sq (sr (mO (rd 2 Qa d) Y (lf (tS m.Word) Y Yt Y Y st9 (lf (tI m.Sense) Y Jf Y Y QY (cO (cS (vc (tv (rd 2 Qa d) Y) (vc (tv (tS m.Word) Y) (vc (tv (tI m.Sense) Y) vn))) (QR Y) (Jr (n+2) d m.Word m.Sense (by first | (simp only [List.length_append,List.length_take,List.length_drop,List.length_singleton];omega) | exact Q1 hw hm | assumption | omega)) Y Y) (mO (tB (decide (D.Meaning.mk m.Word m.Sense∈d))) Y ?_)))))))))))
 refine gw (D.Meaning.mk m.Word m.Sense∈d) (fun fhg40_3=> ?_) fun fhg40_3=> ?_
 ·refine QB 3 6 false 40 (dy fhg40_3) Y Y Y ?_
  refine fO (OF.pickT (VEv.tmpB Y (dy fhg40_3)) (VEv.bool true)) (nt (ct Y (sr (kO (OM.slice0 YB Zz (by kernel_rfl) Y (by rw [QF];decide) QF) (mO (rd 2 Qa d) Y (cO (B.append (rows:= []) (rows2:=(d.map (Qa false))) (rows3:=(d.map (Qa true))) (VDst.own (tv (T.os 2 6 0 0) Y) Y Y) (VSrc.read (tv (rd 2 Qa d) Y) YB (okeMeaning.okMap _ _)) nofun YB QF (by decide) Zz Y (of_decide_eq_true (by kernel_rfl)) (by first | (simp only [List.length_append,List.length_take,List.length_drop,List.length_singleton];omega) | exact Q1 hw hm | omega | (simp only [List.length_map];omega) | (simp only [List.length_map,List.length_append,List.length_cons,List.length_nil,List.length_replicate,List.length_set,List.length_drop,List.length_take,Zb] at *;omega)) (List.nil_append _)) (aO (T.os 2 7 0 ((d.map (Qa true)).length)) Y (fO (OF.assign (VEv.bool false)) (nt (rt (tr ?_)))))))))))
  refine vfinE.r (d,false) ?_ (vfin.r (VRes.tmp (t:=(T.os 2 7 0 ((d.map (Qa true)).length))) Y (VRes.tmp (t:=(tB false)) Y VRes.nil)) (Give.tup (GiveL.cons (Give.os Y Y (okeMeaning.cleanMap _)) (GiveL.cons (Give.bool _) GiveL.nil (by decide)) (by decide))))
  show d.length≤d.length+1∧∀y∈d,y∈d∨y=m
  first | exact ⟨Nat.le_succ _,fun y hy=> .inl hy⟩ | exact Qev
 refine gF (dz fhg40_3) Y Y (OF.move (tv (T.os 2 5 0 (((((d.take i)++ [m])++(d.drop i)).map (Qa true)).length)) Y)) ?_
 refine eP (us:= [(rd 2 Qa (((d.take i)++ [m])++(d.drop i)))]) (r':=fun x_:Bool=>(tB x_)) (objs:=fun x_:Bool=> []) (m:=0) (VWant.on Y Y (dz fhg40_3)) (vc (tv (T.os 2 5 0 (((((d.take i)++ [m])++(d.drop i)).map (Qa true)).length)) Y) vn) (LendL.cons (Lend.os Y Y (okeMeaning.fzMap _ _)) ln) (Yo (n+0) (((d.take i)++ [m])++(d.drop i)) (by first | (simp only [List.length_append,List.length_take,List.length_drop,List.length_singleton];omega) | exact Q1 hw hm | assumption | omega | (simp only [List.length_cons,List.length_nil];omega)) (by first | (simp only [List.length_append,List.length_take,List.length_drop,List.length_singleton];omega) | exact Q1 hw hm | assumption | omega | (simp only [List.length_cons,List.length_nil];omega))) Y (fun _=>rfl) (fun _=>rfl) fun e42 hs42=> ?_
 have hs42:True:=hs42
 refine gF (dz fhg40_3) Y Y (QZ (tv (tB e42) Y)) (fO (OF.pickF (VEv.tmpB Y (dz fhg40_3)) (tv (tB (!e42)) Y)) (nt ?_))
 refine VRun.cond (tv (tB (!e42)) Y) (fun hc1=> ?_) (fun hc1=> ?_)
 ·have fhc1:e42=false:=Qe1 hc1
  refine sr (kO (OM.slice0 YB Zz (by kernel_rfl) Y (by rw [QF];decide) QF) (mO (rd 2 Qa d) Y (cO (B.append (rows:= []) (rows2:=(d.map (Qa false))) (rows3:=(d.map (Qa true))) (VDst.own (tv (T.os 2 6 0 0) Y) Y Y) (VSrc.read (tv (rd 2 Qa d) Y) YB (okeMeaning.okMap _ _)) nofun YB QF (by decide) Zz Y (of_decide_eq_true (by kernel_rfl)) (by first | (simp only [List.length_append,List.length_take,List.length_drop,List.length_singleton];omega) | exact Q1 hw hm | omega | (simp only [List.length_map];omega) | (simp only [List.length_map,List.length_append,List.length_cons,List.length_nil,List.length_replicate,List.length_set,List.length_drop,List.length_take,Zb] at *;omega)) (List.nil_append _)) (aO (T.os 2 7 0 ((d.map (Qa true)).length)) Y (fO (OF.assign (VEv.bool false)) (nt (rt (tr ?_))))))))
  refine vfinE.r (d,false) ?_ (vfin.r (VRes.tmp (t:=(T.os 2 7 0 ((d.map (Qa true)).length))) Y (VRes.tmp (t:=(tB false)) Y VRes.nil)) (Give.tup (GiveL.cons (Give.os Y Y (okeMeaning.cleanMap _)) (GiveL.cons (Give.bool _) GiveL.nil (by decide)) (by decide))))
  show d.length≤d.length+1∧∀y∈d,y∈d∨y=m
  first | exact ⟨Nat.le_succ _,fun y hy=> .inl hy⟩ | exact Qev
 have fhc1:e42=true:=Qfp hc1
 refine sk (tn (sr (mO (T.os 2 5 0 (((((d.take i)++ [m])++(d.drop i)).map (Qa true)).length)) Y (aO (T.os 2 5 0 (((((d.take i)++ [m])++(d.drop i)).map (Qa true)).length)) Y (fO (OF.assign (VEv.bool true)) (nt (rt ?_)))))))
 refine vfinE.r ((((d.take i)++ [m])++(d.drop i)),true) ?_ (vfin.r (VRes.tmp (t:=(T.os 2 5 0 (((((d.take i)++ [m])++(d.drop i)).map (Qa true)).length))) Y (VRes.tmp (t:=(tB true)) Y VRes.nil)) (Give.tup (GiveL.cons (Give.os Y Y (okeMeaning.cleanMap _)) (GiveL.cons (Give.bool _) GiveL.nil (by decide)) (by decide))))
 show (((d.take i)++ [m])++(d.drop i)).length≤d.length+1∧∀y∈(((d.take i)++ [m])++(d.drop i)),y∈d∨y=m
 first | exact ⟨Nat.le_succ _,fun y hy=> .inl hy⟩ | exact Qev
theorem QbU (n:Nat) (code:List Int) (hcl:code.length≤mx):CurE (Qm Tryd.prog (n+5)) 58 (rd 1 Qi code) code.length [] (fun x:List D.Meaning=>gM 40 x) (fun x:List D.Meaning=>(T.sl true 2 (x.map (Qa true)))):=by
 refine CurE.intro (rs:= [ResultVar.tmp 2]) Tryd.func58 Y Y Y (by kernel_rfl) (fun pb nb mb ci ch hci=> ?_)
 obtain ⟨hlim,hmx,hmax⟩:=QG
 show VRun _ _ _ [(0,(T.op 0 0))] [(0,some (Obj.cells [(T.ex pb nb mb (rd 1 Qi code)),(tN ci),(tI ch)]))] 1 _
 refine sr (fO (OF.assign VEv.nils) (nt (sr (kO (OM.slice0 YB Zz (by kernel_rfl) Y (by rw [QF];decide) QF) (aO (T.os 2 1 0 0) Y (nt (sr ?_)))))))
 refine eP (us:= []) (r':=fun x_:List ByteArray=>(T.os 1 2 0 ((x_.map (Qf true)).length))) (objs:=fun x_:List ByteArray=> [(Obj.rows 1 (x_.map (Qf true)))]) (m:=1) VWant.always vn ln (YE (n+3)) Y (fun _=>rfl) (fun _=>rfl) fun e8 hs8=> ?_
 have hs8:e8.length=35∧∀y∈e8,3≤y.size∧y.size≤9:=hs8
 refine aO (T.os 1 2 0 ((e8.map (Qf true)).length)) Y (nt (sq (sr (fO (OF.assign (VEv.int .i64 0)) (nt (VRun.block ?_))))))
 have he1: []=([].map (Qa true)):=by first | rfl | (simp;done) | omega
 refine VRun.loop (A:=Nat×(List D.Meaning)×Nat×Int) (fun s_=> [(0,(T.op 0 0)),(2,T.nils),(3,(T.os 2 2 0 ((s_.2.1.map (Qa true)).length))),(4,(T.os 1 1 0 ((e8.map (Qf true)).length))),(5,(tN s_.1))]) (fun s_=>ZR [(0,(Obj.cells [(T.ex pb nb mb (rd 1 Qi code)),(tN s_.2.2.1),(tI s_.2.2.2)])),(1,(Obj.rows 1 (e8.map (Qf true)))),(2,(Obj.rows 2 (s_.2.1.map (Qa true))))]) 3 (fun s_=>s_.2.2.1≤code.length∧(s_.1≤e8.length∧gM s_.1 s_.2.1)) (fun s_=>e8.length - s_.1) ((0,[],ci,ch):Nat×(List D.Meaning)×Nat×Int) ?_ (Wk.mk (fun k=>if k=1 then 2 else if k=2 then 1 else k) ?_ ?_ ?_) ?_
 ·refine ⟨by omega,?_⟩
  exact ⟨Nat.zero_le _,Nat.le_refl _,fun y hy=>nomatch hy⟩
 ·exact (b2 (b2 (bc ⟨(congrArg (fun n_=>T.os 2 1 0 n_) (show 0=([].map (Qa true)).length from (by first | rfl | (simp only [List.length_map];omega) | (simp only [List.length_map,List.length_set,List.length_append,List.length_take,List.length_replicate,List.length_cons,List.length_nil];omega)))),rfl⟩ (b2 (b2 bn)))))
 ·exact (b3 (b3 (bc ⟨(congrArg (fun l_=>some (Obj.rows 2 l_)) he1),(lb Y),rfl⟩ bn)))
 ·exact nd Y
 rintro ⟨i,d,ci0,ch0⟩ (hI':ci0≤code.length∧(i≤e8.length∧gM i d))
 show VRun _ _ _ [(0,(T.op 0 0)),(2,T.nils),(3,(T.os 2 2 0 ((d.map (Qa true)).length))),(4,(T.os 1 1 0 ((e8.map (Qf true)).length))),(5,(tN i))] (ZR [(0,(Obj.cells [(T.ex pb nb mb (rd 1 Qi code)),(tN ci0),(tI ch0)])),(1,(Obj.rows 1 (e8.map (Qf true)))),(2,(Obj.rows 2 (d.map (Qa true))))]) 3 _
 have hci0:=hI'.1
 have hI':=hI'.2
 have hI1:=hI'.1
 have hI2:=hI'.2
 have hI3:=hI2.1
 have hw1:=hs8.1
 refine sq (sr (mO (tN i) Y (mO (T.os 1 1 0 ((e8.map (Qf true)).length)) Y (lO (B.lenO (m:=e8.length) (tv (T.os 1 1 0 ((e8.map (Qf true)).length)) Y) Y1 (List.length_map ..)) (fO (Yr (tv (tN i) Y) (tv (tN e8.length) Y)) (nt ?_))))))
 refine cd (i<e8.length) Y (fun fhc0=> ?_) fun fhc0=> ?_
 ·refine sk ?_
  refine tn (sq (VRun.block (sr (mO (T.op 0 0) Y ?_))))
  refine eC (us:= [(tN 3)]) (r':=fun x_:Bool=>(tB x_)) (objs:=fun x_:Bool=> []) (m:=0) (k:=0) ci0 ch0 VWant.always (vc (tv (T.op 0 0) Y) (vc (VEv.int .i64 3) vn)) Y (by omega) (QR Y) (Z1 (n+1) code (3:Int) (by first | exact hI2.2 | exact hJ2.2 | exact (hs8.2 x1 (List.mem_of_getElem? hx1)).2 | exact hs40.2 | assumption | omega | (simp only [List.length_cons,List.length_nil];omega))) Y (fun _=>rfl) (fun _=>rfl) fun e16 i16 h16 hs16 hi16=> ?_
  have hs16:True:=hs16
  refine fO (QZ (tv (tB e16) Y)) (nt ?_)
  refine VRun.cond (tv (tB (!e16)) Y) (fun hc1=> ?_) (fun hc1=> ?_)
  ·have fhc1:e16=false:=Qe1 hc1
   refine VRun.drawC (us:= [(T.ex pb nb mb (rd 1 Qi code)),(tN i16),(tI h16)]) 0 [0,15] (B:= [[],[],[],[2,1],[1,2,3],[],[5],[5,6],[6,5,7,3,2,1,4],[4,1,2,3,7,5,6,8,0],[0,8,6,5,7,3,2,1,4,9],[9,4,1,2,3,7,5,6,8,0,10],[9,4,1,2,3,7,5,6,8,0,10],[10,0,8,6,5,7,3,2,1,4,9,11]]) (by kernel_rfl) (by kernel_rfl) Y (bc Y (bc Y bn)) Y Y (mD (T.os 2 2 0 ((d.map (Qa true)).length)) Y Y (mD (T.os 1 1 0 ((e8.map (Qf true)).length)) Y Y (mD (tN i) Y Y ?_)))
   obtain ⟨x1,hx1⟩:∃x,e8[i]? =some x:=⟨_,List.getElem?_eq_getElem (by first | exact hI2.2 | exact hJ2.2 | exact (hs8.2 x1 (List.mem_of_getElem? hx1)).2 | exact hs40.2 | omega)⟩
   refine fD (B.indexAddrO (i:=i) (tv (T.os 1 1 0 ((e8.map (Qf true)).length)) Y) (tv (tN i) Y) Y (by first | exact hI2.2 | exact hJ2.2 | exact (hs8.2 x1 (List.mem_of_getElem? hx1)).2 | exact hs40.2 | omega | (simp only [List.length_map];omega) | (simp only [List.length_map,List.length_append,List.length_cons,List.length_nil,List.length_replicate,List.length_set,List.length_drop,List.length_take,Zb] at *;omega)) Y1 Yx if9) Y Y (lD (OL.loadP1 (t:=(tS x1)) (row:=(Qf true x1)) (tv (T.orp 1 1 i 0) Y) Y (Qs _ hx1) Y Y st9) Y Y (mD (T.op 3 0) Y Y ?_))
   refine eDC (us:= [(tN 4)]) (r':=fun x_:Int=>(tI x_)) (objs:=fun x_:Int=> []) (m:=0) (k:=3) (bi:= [5]) i16 h16 Y VWant.always Y Y Y (lb Y) (vc (tv (T.op 3 0) Y) (vc (VEv.int .i64 4) vn)) Y (by omega) (QR Y) (Qj (n+2) code (4:Int) (by first | exact hI2.2 | exact hJ2.2 | exact (hs8.2 x1 (List.mem_of_getElem? hx1)).2 | exact hs40.2 | assumption | omega | (simp only [List.length_cons,List.length_nil];omega))) Y (fun _=>rfl) (fun _=>rfl) fun e25 i25 h25 hs25 hi25=> ?_
   have hs25:((4:Int)≤0→e25=0)∧(0<(4:Int)→0≤e25∧e25<(4:Int)):=hs25
   refine fD (B.add (n:=(1+e25)) (VEv.int .i64 1) (tv (tI e25) Y) (by first | exact hI2.2 | exact hJ2.2 | exact (hs8.2 x1 (List.mem_of_getElem? hx1)).2 | exact hs40.2 | rfl | (rw [Qg (by omega)];omega) | (rw [Qg (by omega)];done))) Y Y (fD (OF.build (l:= [(0,(tS x1)),(1,(tI (1+e25)))]) (zs:= [(tS ByteArray.empty),(tN 0)]) (out:= [(tS x1),(tI (1+e25))]) (VEvp.cons (i:=0) (tv (tS x1) Y) (VEvp.cons (i:=1) (tv (tI (1+e25)) Y) VEvp.nil)) (bc nofun (bc nofun bn)) Tryd.underlying106 Zz (fun _=>RL.cons (.str _) (RL.cons (.int _ _) (RL.nil _))) (by kernel_rfl) (by kernel_rfl)) Y Y ?_)
   refine eDP (us:= [(rd 2 Qa d),(T.agg [(tS x1),(tI (1+e25))])]) (r':=fun x_:List D.Meaning×Bool=>(T.tup [(T.os 2 4 0 ((x_.1.map (Qa true)).length)),(tB x_.2)])) (objs:=fun x_:List D.Meaning×Bool=> [(Obj.rows 2 (x_.1.map (Qa true)))]) (m:=1) (bi:= [4,1,2,3,7,5,6,8,0]) Y VWant.always Y Y Y (vc (tv (T.os 2 2 0 ((d.map (Qa true)).length)) Y) (vc (tv (T.agg [(tS x1),(tI (1+e25))]) Y) vn)) (LendL.cons (Lend.os Y Y (okeMeaning.fzMap _ _)) (LendL.cons (Lend.agg (LendL.cons (Lend.pl Y) (LendL.cons (Lend.pl Y) ln))) ln)) (YP (n+0) d (D.Meaning.mk x1 (1+e25)) (by first | exact hI2.2 | exact hJ2.2 | exact (hs8.2 x1 (List.mem_of_getElem? hx1)).2 | exact hs40.2 | assumption | omega | (simp only [List.length_cons,List.length_nil];omega)) (by first | exact hI2.2 | exact hJ2.2 | exact (hs8.2 x1 (List.mem_of_getElem? hx1)).2 | exact hs40.2 | assumption | omega | (simp only [List.length_cons,List.length_nil];omega)) (by first | exact hI2.2 | exact hJ2.2 | exact (hs8.2 x1 (List.mem_of_getElem? hx1)).2 | exact hs40.2 | assumption | omega | (simp only [List.length_cons,List.length_nil];omega))) Y (fun _=>rfl) (fun _=>rfl) fun e28 hs28=> ?_
   have hs28:e28.1.length≤d.length+1∧∀y∈e28.1,y∈d∨y=(D.Meaning.mk x1 (1+e25)):=hs28
   refine mD (T.tup [(T.os 2 4 0 ((e28.1.map (Qa true)).length)),(tB e28.2)]) Y Y (fD (OF.extract (t:=(T.os 2 4 0 ((e28.1.map (Qa true)).length))) (tv (T.tup [(T.os 2 4 0 ((e28.1.map (Qa true)).length)),(tB e28.2)]) Y) Y) Y Y (fD (OF.extract (t:=(tB e28.2)) (tv (T.tup [(T.os 2 4 0 ((e28.1.map (Qa true)).length)),(tB e28.2)]) Y) Y) Y Y (fD (OF.assign (tv (T.os 2 4 0 ((e28.1.map (Qa true)).length)) Y)) Y Y (VRunD.nil (vinB.n (tn (VRun.region (mO (tN i) Y (fO (Zu (tv (tN i) Y) (VEv.int .i64 1) (by first | exact hI2.2 | exact hJ2.2 | exact (hs8.2 x1 (List.mem_of_getElem? hx1)).2 | exact hs40.2 | omega)) (aO (tN (i+1)) Y (VRunO.nil ?_)))))))))))
   refine tn ?_
   refine ⟨((i+1,e28.1,i25,h25):Nat×(List D.Meaning)×Nat×Int),?_,?_,Wk.mk (fun k=>if k=0 then 3 else if k=2 then 4 else k) ?_ ?_ ?_⟩
   ·refine ⟨by omega,?_⟩
    first | exact ⟨by omega,QdW hI2 hs28 (hs8.2 x1 (List.mem_of_getElem? hx1)).2⟩ | exact ⟨by omega,Qdz hI2 (by omega)⟩
   ·first | omega | (simp only [];omega) | (show _<_;omega) | (simp;omega)
   ·exact (b2 (b2 (b2 (b2 (b2 bn)))))
   ·exact (b3 (b3 (b3 bn)))
   ·exact nd Y
  have fhc1:e16=true:=Qfp hc1
  refine sk (vinB.n (tn (VRun.region (mO (tN i) Y (fO (Zu (tv (tN i) Y) (VEv.int .i64 1) (by first | exact hI2.2 | exact hJ2.2 | exact (hs8.2 x1 (List.mem_of_getElem? hx1)).2 | exact hs40.2 | omega)) (aO (tN (i+1)) Y (VRunO.nil (tn ?_))))))))
  refine ⟨((i+1,d,i16,h16):Nat×(List D.Meaning)×Nat×Int),?_,?_,Wk.mk (fun k=>k) ?_ ?_ ?_⟩
  ·refine ⟨by omega,?_⟩
   first | exact ⟨by omega,QdW hI2 hs28 (hs8.2 x1 (List.mem_of_getElem? hx1)).2⟩ | exact ⟨by omega,Qdz hI2 (by omega)⟩
  ·first | omega | (simp only [];omega) | (show _<_;omega) | (simp;omega)
  ·exact (b2 (b2 (b2 (b2 (b2 bn)))))
  ·exact (b3 (b3 (b3 bn)))
  ·exact nd Y
 refine VRun.exit (vthn.e (vthn.e (vinB.e (tn (sq (sr (mO (T.op 0 0) Y ?_)))))))
 refine eC (us:= [(tN 6)]) (r':=fun x_:Int=>(tI x_)) (objs:=fun x_:Int=> []) (m:=0) (k:=0) ci0 ch0 VWant.always (vc (tv (T.op 0 0) Y) (vc (VEv.int .i64 6) vn)) Y (by omega) (QR Y) (Qj (n+2) code (6:Int) (by first | exact hI2.2 | exact hJ2.2 | exact (hs8.2 x1 (List.mem_of_getElem? hx1)).2 | exact hs40.2 | assumption | omega | (simp only [List.length_cons,List.length_nil];omega))) Y (fun _=>rfl) (fun _=>rfl) fun e32 i32 h32 hs32 hi32=> ?_
 have hs32:((6:Int)≤0→e32=0)∧(0<(6:Int)→0≤e32∧e32<(6:Int)):=hs32
 refine aO (tI e32) Y (nt (VRun.block ?_))
 refine VRun.loop (A:=Nat×(List D.Meaning)×Nat×Int) (fun s_=> [(0,(T.op 0 0)),(2,T.nils),(3,(T.os 2 1 0 ((s_.2.1.map (Qa true)).length))),(6,(tN s_.1))]) (fun s_=>ZR [(0,(Obj.cells [(T.ex pb nb mb (rd 1 Qi code)),(tN s_.2.2.1),(tI s_.2.2.2)])),(1,(Obj.rows 2 (s_.2.1.map (Qa true))))]) 2 (fun s_=>s_.2.2.1≤code.length∧(s_.1≤5∧gM (40 - s_.1) s_.2.1)) (fun s_=>s_.1) ((Int.toNat e32,d,i32,h32):Nat×(List D.Meaning)×Nat×Int) ?_ (Wk.mk (fun k=>if k=1 then 2 else k) ?_ ?_ ?_) ?_
 ·refine ⟨by omega,?_⟩
  have h2:=hs32.2 (by decide)
  exact ⟨by omega,Qdz hI2 (by omega)⟩
 ·exact (b2 (b2 (b2 (bc ⟨(congrArg (T.int .i64) (show e32=(((Int.toNat e32):Nat):Int) from (by first | rfl | omega | (simp;done) | (push_cast;omega)))),rfl⟩ bn))))
 ·exact (b3 (b3 bn))
 ·exact nd Y
 rintro ⟨k,g,ci1,ch1⟩ (hI':ci1≤code.length∧(k≤5∧gM (40 - k) g))
 show VRun _ _ _ [(0,(T.op 0 0)),(2,T.nils),(3,(T.os 2 1 0 ((g.map (Qa true)).length))),(6,(tN k))] (ZR [(0,(Obj.cells [(T.ex pb nb mb (rd 1 Qi code)),(tN ci1),(tI ch1)])),(1,(Obj.rows 2 (g.map (Qa true))))]) 2 _
 have hci1:=hI'.1
 have hI':=hI'.2
 have hJ1:=hI'.1
 have hJ2:=hI'.2
 have hJ3:=hJ2.1
 refine sq (sr (mO (tN k) Y (fO (B.gtr (c:=(decide (0<k))) (tv (tN k) Y) (VEv.int .i64 0) (by first | exact hI2.2 | exact hJ2.2 | exact (hs8.2 x1 (List.mem_of_getElem? hx1)).2 | exact hs40.2 | (exact Zp (by omega)))) (nt ?_))))
 refine cd (0<k) Y (fun fhc2=> ?_) fun fhc2=> ?_
 ·refine sk ?_
  refine tn (sq (VRun.block (VRun.region (mO (T.os 2 1 0 ((g.map (Qa true)).length)) Y (mO (T.op 0 0) Y ?_)))))
  refine eC (us:= []) (r':=fun x_:ByteArray=>(tS x_)) (objs:=fun x_:ByteArray=> []) (m:=0) (k:=0) ci1 ch1 VWant.always (vc (tv (T.op 0 0) Y) vn) Y (by omega) ln (Zh (n+0) code (by first | exact hI2.2 | exact hJ2.2 | exact (hs8.2 x1 (List.mem_of_getElem? hx1)).2 | exact hs40.2 | assumption | omega | (simp only [List.length_cons,List.length_nil];omega))) Y (fun _=>rfl) (fun _=>rfl) fun e40 i40 h40 hs40 hi40=> ?_
  have hs40:3≤e40.size∧e40.size≤9:=hs40
  refine mO (T.op 0 0) Y ?_
  refine eC (us:= [(tN 4)]) (r':=fun x_:Int=>(tI x_)) (objs:=fun x_:Int=> []) (m:=0) (k:=0) i40 h40 VWant.always (vc (tv (T.op 0 0) Y) (vc (VEv.int .i64 4) vn)) Y (by omega) (QR Y) (Qj (n+2) code (4:Int) (by first | exact hI2.2 | exact hJ2.2 | exact (hs8.2 x1 (List.mem_of_getElem? hx1)).2 | exact hs40.2 | assumption | omega | (simp only [List.length_cons,List.length_nil];omega))) Y (fun _=>rfl) (fun _=>rfl) fun e42 i42 h42 hs42 hi42=> ?_
  have hs42:((4:Int)≤0→e42=0)∧(0<(4:Int)→0≤e42∧e42<(4:Int)):=hs42
  refine fO (B.add (n:=(1+e42)) (VEv.int .i64 1) (tv (tI e42) Y) (by first | exact hI2.2 | exact hJ2.2 | exact (hs8.2 x1 (List.mem_of_getElem? hx1)).2 | exact hs40.2 | rfl | (rw [Qg (by omega)];omega) | (rw [Qg (by omega)];done))) (fO (OF.build (l:= [(0,(tS e40)),(1,(tI (1+e42)))]) (zs:= [(tS ByteArray.empty),(tN 0)]) (out:= [(tS e40),(tI (1+e42))]) (VEvp.cons (i:=0) (tv (tS e40) Y) (VEvp.cons (i:=1) (tv (tI (1+e42)) Y) VEvp.nil)) (bc nofun (bc nofun bn)) Tryd.underlying106 Zz (fun _=>RL.cons (.str _) (RL.cons (.int _ _) (RL.nil _))) (by kernel_rfl) (by kernel_rfl)) ?_)
  refine eP (us:= [(rd 2 Qa g),(T.agg [(tS e40),(tI (1+e42))])]) (r':=fun x_:List D.Meaning×Bool=>(T.tup [(T.os 2 2 0 ((x_.1.map (Qa true)).length)),(tB x_.2)])) (objs:=fun x_:List D.Meaning×Bool=> [(Obj.rows 2 (x_.1.map (Qa true)))]) (m:=1) VWant.always (vc (tv (T.os 2 1 0 ((g.map (Qa true)).length)) Y) (vc (tv (T.agg [(tS e40),(tI (1+e42))]) Y) vn)) (LendL.cons (Lend.os Y Y (okeMeaning.fzMap _ _)) (LendL.cons (Lend.agg (LendL.cons (Lend.pl Y) (LendL.cons (Lend.pl Y) ln))) ln)) (YP (n+0) g (D.Meaning.mk e40 (1+e42)) (by first | exact hI2.2 | exact hJ2.2 | exact (hs8.2 x1 (List.mem_of_getElem? hx1)).2 | exact hs40.2 | assumption | omega | (simp only [List.length_cons,List.length_nil];omega)) (by first | exact hI2.2 | exact hJ2.2 | exact (hs8.2 x1 (List.mem_of_getElem? hx1)).2 | exact hs40.2 | assumption | omega | (simp only [List.length_cons,List.length_nil];omega)) (by first | exact hI2.2 | exact hJ2.2 | exact (hs8.2 x1 (List.mem_of_getElem? hx1)).2 | exact hs40.2 | assumption | omega | (simp only [List.length_cons,List.length_nil];omega))) Y (fun _=>rfl) (fun _=>rfl) fun e45 hs45=> ?_
  have hs45:e45.1.length≤g.length+1∧∀y∈e45.1,y∈g∨y=(D.Meaning.mk e40 (1+e42)):=hs45
  refine mO (T.tup [(T.os 2 2 0 ((e45.1.map (Qa true)).length)),(tB e45.2)]) Y (fO (OF.extract (t:=(T.os 2 2 0 ((e45.1.map (Qa true)).length))) (tv (T.tup [(T.os 2 2 0 ((e45.1.map (Qa true)).length)),(tB e45.2)]) Y) Y) (fO (OF.extract (t:=(tB e45.2)) (tv (T.tup [(T.os 2 2 0 ((e45.1.map (Qa true)).length)),(tB e45.2)]) Y) Y) (aO (T.os 2 2 0 ((e45.1.map (Qa true)).length)) Y (VRunO.nil (vinB.n (tn (VRun.region (mO (tN k) Y (fO (B.sub (n:=(((k:Nat):Int) - 1)) (tv (tN k) Y) (VEv.int .i64 1) (by first | exact hI2.2 | exact hJ2.2 | exact (hs8.2 x1 (List.mem_of_getElem? hx1)).2 | exact hs40.2 | rfl | (rw [Qg (by omega)];omega) | (rw [Qg (by omega)];done))) (aO (tI (((k:Nat):Int) - 1)) Y (VRunO.nil ?_)))))))))))
  refine tn ?_
  refine ⟨((k - 1,e45.1,i42,h42):Nat×(List D.Meaning)×Nat×Int),?_,?_,Wk.mk (fun k=>if k=1 then 2 else k) ?_ ?_ ?_⟩
  ·refine ⟨by omega,?_⟩
   exact ⟨by omega,Qdz (QdW hJ2 hs45 hs40.2) (by omega)⟩
  ·first | omega | (simp only [];omega) | (show _<_;omega) | (simp;omega)
  ·exact (b2 (b2 (b2 (bc ⟨(congrArg (T.int .i64) (show (((k:Nat):Int) - 1)=(((k - 1):Nat):Int) from (by first | rfl | omega | (simp;done) | (push_cast;omega)))),rfl⟩ bn))))
  ·exact (b3 (b3 bn))
  ·exact nd Y
 refine VRun.exit (vthn.e (vthn.e (vinB.e (tn (sr (mO (T.os 2 1 0 ((g.map (Qa true)).length)) Y (aO (T.os 2 1 0 ((g.map (Qa true)).length)) Y (nt (rt ?_)))))))))
 refine vcur.r g 0 ci1 ch1 ?_ (VRes.tmp (t:=(T.os 2 1 0 ((g.map (Qa true)).length))) Y VRes.nil) (Give.os Y Y (okeMeaning.cleanMap _)) Y Y (by omega) (by decide)
 show gM 40 g
 exact Qdz hJ2 (by omega)
theorem QbQ (n:Nat) (code:List Int) (w:ByteArray) (hcl:code.length≤mx) (hw:2≤w.size∧w.size≤9):CurE (Qm Tryd.prog (n+3)) 78 (rd 1 Qi code) code.length [(tS w)] (fun x:List D.Step=>gS 3 x) (fun x:List D.Step=>(T.sl true 4 (x.map (Qb true)))):=by
 refine CurE.intro (rs:= [ResultVar.tmp 4]) Tryd.func78 Y Y Y (by kernel_rfl) (fun pb nb mb ci ch hci=> ?_)
 obtain ⟨hlim,hmx,hmax⟩:=QG
 show VRun _ _ _ [(0,(T.op 0 0)),(1,(tS w))] [(0,some (Obj.cells [(T.ex pb nb mb (rd 1 Qi code)),(tN ci),(tI ch)]))] 1 _
 have hbk:=QeI (s:=w) (by omega)
 refine sr (fO (OF.assign VEv.nils) (nt (sr (mO (tS w) Y (fO (OF.build (l:= [(0,(tN 1)),(1,(tS w))]) (zs:= [(tN 0),(tS ByteArray.empty),(tN 0),(tN 0)]) (out:= [(tN 1),(tS w),(tN 0),(tN 0)]) (VEvp.cons (i:=0) (VEv.int .i64 1) (VEvp.cons (i:=1) (tv (tS w) Y) VEvp.nil)) (bc nofun (bc nofun bn)) Tryd.underlying67 Yb (fun _=>RL.cons (.int _ _) (RL.cons (.str _) (RL.cons (.int _ _) (RL.cons (.int _ _) (RL.nil _))))) (by kernel_rfl) (by kernel_rfl)) (kO (B.alloc (t:=(T.agg [(tN 0),(tS ByteArray.empty),(tN 0),(tN 0)])) (ts:= [(tN 0),(tS ByteArray.empty),(tN 0),(tN 0)]) Yb Qez nofun (fun _=> .agg _ _ Y (Ys (RL.cons (.int _ _) (RL.cons (.str _) (RL.cons (.int _ _) (RL.cons (.int _ _) (RL.nil _))))))) Y) (cO (B.storeW (us:= [(tN 1),(tS w),(tN 0),(tN 0)]) (tv (T.op 1 0) Y) (tv (T.agg [(tN 1),(tS w),(tN 0),(tN 0)]) Y) nofun Y Y Y Ze Qy (bc Y (bc Y (bc Y (bc Y bn))))) (nt (sq (sr (mO (T.op 0 0) Y ?_)))))))))))
 refine eC (us:= [(tN 5)]) (r':=fun x_:Int=>(tI x_)) (objs:=fun x_:Int=> []) (m:=0) (k:=0) ci ch VWant.always (vc (tv (T.op 0 0) Y) (vc (VEv.int .i64 5) vn)) Y (by omega) (QR Y) (Qj (n+0) code (5:Int) (by first | (simp only [ByteArray.size_extract];omega) | assumption | omega | (simp only [List.length_cons,List.length_nil];omega))) Y (fun _=>rfl) (fun _=>rfl) fun e9 i9 h9 hs9 hi9=> ?_
 have hs9:((5:Int)≤0→e9=0)∧(0<(5:Int)→0≤e9∧e9<(5:Int)):=hs9
 refine nt (VRun.block (sr (fO (ZU (tv (tI e9) Y) (VEv.int .i64 0)) (aO (tB (decide (e9=0))) Y (nt ?_)))))
 refine cd (e9=0) Y (fun fhc0=> ?_) fun fhc0=> ?_
 ·refine sr ?_
  refine mO (tS w) Y (cO (cS (vc (tv (tS w) Y) vn) (QR Y) (QaN (n+1) w (by first | (simp only [ByteArray.size_extract];omega) | assumption | omega)) Y Y) (fO (OF.build (l:= [(0,(tN 1)),(1,(tS (back w)))]) (zs:= [(tN 0),(tS ByteArray.empty),(tN 0),(tN 0)]) (out:= [(tN 1),(tS (back w)),(tN 0),(tN 0)]) (VEvp.cons (i:=0) (VEv.int .i64 1) (VEvp.cons (i:=1) (tv (tS (back w)) Y) VEvp.nil)) (bc nofun (bc nofun bn)) Tryd.underlying67 Yb (fun _=>RL.cons (.int _ _) (RL.cons (.str _) (RL.cons (.int _ _) (RL.cons (.int _ _) (RL.nil _))))) (by kernel_rfl) (by kernel_rfl)) (fO (OF.build (l:= [(0,(tN 2))]) (zs:= [(tN 0),(tS ByteArray.empty),(tN 0),(tN 0)]) (out:= [(tN 2),(tS ByteArray.empty),(tN 0),(tN 0)]) (VEvp.cons (i:=0) (VEv.int .i64 2) VEvp.nil) (bc nofun bn) Tryd.underlying67 Yb (fun _=>RL.cons (.int _ _) (RL.cons (.str _) (RL.cons (.int _ _) (RL.cons (.int _ _) (RL.nil _))))) (by kernel_rfl) (by kernel_rfl)) (kO (OM.buildSlice (l:= [(T.agg [(tN 1),(tS (back w)),(tN 0),(tN 0)]),(T.agg [(tN 2),(tS ByteArray.empty),(tN 0),(tN 0)])]) (VEvp.cons (tv (T.agg [(tN 1),(tS (back w)),(tN 0),(tN 0)]) Y) (VEvp.cons (tv (T.agg [(tN 2),(tS ByteArray.empty),(tN 0),(tN 0)]) Y) VEvp.nil)) Y (by decide) (bc (nofun) (bc (nofun) bn)) (bc ((bc (Y) (bc (Y) (bc (Y) (bc (Y) bn))))) (bc ((bc (Y) (bc (Y) (bc (Y) (bc (Y) bn))))) bn)) (bc (Y) (bc (Y) bn)) ZQ Yb (by kernel_rfl) Y (by rw [Qy];decide) Qy (Nat.le_of_ble_eq_true Y)) (aO (T.os 4 2 0 2) Y (nt (rt (vinB.r (tr ?_)))))))))
  refine vcur.r [(D.Step.mk 1 (back w) 0 0),(D.Step.mk 2 ByteArray.empty 0 0)] 0 i9 h9 ?_ (VRes.tmp (t:=(T.os 4 2 0 2)) Y VRes.nil) (Give.os Y Y (bc (bc (.int _ _) (bc (.str _) (bc (.int _ _) (bc (.int _ _) bn)))) (bc (bc (.int _ _) (bc (.str _) (bc (.int _ _) (bc (.int _ _) bn)))) bn))) Y Y (by omega) (by decide)
  show gS 3 [(D.Step.mk 1 (back w) 0 0),(D.Step.mk 2 ByteArray.empty 0 0)]
  first | refine gS1 ?_ | refine gS2 ?_ ?_ | refine gS3 ?_ ?_ ?_
  all_goals first | exact Nat.zero_le _ | (show (back w).size≤10;omega) | (show (_:ByteArray).size≤10;simp only [ByteArray.size_append,ByteArray.size_extract];omega) | (show w.size≤10;omega)
 refine sr (fO (ZU (tv (tI e9) Y) (VEv.int .i64 1)) (aO (tB (decide (e9=1))) Y (nt ?_)))
 refine cd (e9=1) Y (fun fhc1=> ?_) fun fhc1=> ?_
 ·refine sq ?_
  refine VRun.draw (B:= [[],[0],[],[2],[2,3,0,1],[1,0,3,2,4],[],[6,4,2,3,0,1,5],[5,1,0,3,2,4,6,7]]) (by kernel_rfl) (by kernel_rfl) Y (mD (tS w) Y Y (lD (OL.sliceSLo (i:=1) (tv (tS w) Y) (VEv.int .i64 1) Y (by first | (simp only [ByteArray.size_extract];omega) | omega | (simp only [List.length_map];omega) | (simp only [List.length_map,List.length_append,List.length_cons,List.length_nil,List.length_replicate,List.length_set,List.length_drop,List.length_take,Zb] at *;omega)) U9) Y Y (mD (tS w) Y Y (lD (OL.sliceSHi (j:=1) (tv (tS w) Y) (VEv.int .i64 1) Y (by first | (simp only [ByteArray.size_extract];omega) | omega | (simp only [List.length_map];omega) | (simp only [List.length_map,List.length_append,List.length_cons,List.length_nil,List.length_replicate,List.length_set,List.length_drop,List.length_take,Zb] at *;omega)) U9) Y Y (fD (B.sadd (tv (tS (w.extract 1 w.size)) Y) (tv (tS (w.extract 0 1)) Y) (by first | (simp only [ByteArray.size_extract];omega) | omega | (simp only [List.length_map];omega) | (simp only [List.length_map,List.length_append,List.length_cons,List.length_nil,List.length_replicate,List.length_set,List.length_drop,List.length_take,Zb] at *;omega))) Y Y (fD (OF.build (l:= [(0,(tN 1)),(1,(tS ((w.extract 1 w.size)++(w.extract 0 1))))]) (zs:= [(tN 0),(tS ByteArray.empty),(tN 0),(tN 0)]) (out:= [(tN 1),(tS ((w.extract 1 w.size)++(w.extract 0 1))),(tN 0),(tN 0)]) (VEvp.cons (i:=0) (VEv.int .i64 1) (VEvp.cons (i:=1) (tv (tS ((w.extract 1 w.size)++(w.extract 0 1))) Y) VEvp.nil)) (bc nofun (bc nofun bn)) Tryd.underlying67 Yb (fun _=>RL.cons (.int _ _) (RL.cons (.str _) (RL.cons (.int _ _) (RL.cons (.int _ _) (RL.nil _))))) (by kernel_rfl) (by kernel_rfl)) Y Y (fD (OF.build (l:= [(0,(tN 3))]) (zs:= [(tN 0),(tS ByteArray.empty),(tN 0),(tN 0)]) (out:= [(tN 3),(tS ByteArray.empty),(tN 0),(tN 0)]) (VEvp.cons (i:=0) (VEv.int .i64 3) VEvp.nil) (bc nofun bn) Tryd.underlying67 Yb (fun _=>RL.cons (.int _ _) (RL.cons (.str _) (RL.cons (.int _ _) (RL.cons (.int _ _) (RL.nil _))))) (by kernel_rfl) (by kernel_rfl)) Y Y (VRunD.make Y VWant.always Y (OM.buildSlice (l:= [(T.agg [(tN 1),(tS ((w.extract 1 w.size)++(w.extract 0 1))),(tN 0),(tN 0)]),(T.agg [(tN 3),(tS ByteArray.empty),(tN 0),(tN 0)])]) (VEvp.cons (tv (T.agg [(tN 1),(tS ((w.extract 1 w.size)++(w.extract 0 1))),(tN 0),(tN 0)]) Y) (VEvp.cons (tv (T.agg [(tN 3),(tS ByteArray.empty),(tN 0),(tN 0)]) Y) VEvp.nil)) Y (by decide) (bc (nofun) (bc (nofun) bn)) (bc ((bc (Y) (bc (Y) (bc (Y) (bc (Y) bn))))) (bc ((bc (Y) (bc (Y) (bc (Y) (bc (Y) bn))))) bn)) (bc (Y) (bc (Y) bn)) ZQ Yb (by kernel_rfl) Y (by rw [Qy];decide) Qy (Nat.le_of_ble_eq_true Y)) (fD (OF.assign (tv (T.os 4 2 0 2) Y)) Y Y (VRunD.nil (tn ?_)))))))))))
  refine rt (vinB.r (tr ?_))
  refine vcur.r [(D.Step.mk 1 ((w.extract 1 w.size)++(w.extract 0 1)) 0 0),(D.Step.mk 3 ByteArray.empty 0 0)] 0 i9 h9 ?_ (VRes.tmp (t:=(T.os 4 2 0 2)) Y VRes.nil) (Give.os Y Y (bc (bc (.int _ _) (bc (.str _) (bc (.int _ _) (bc (.int _ _) bn)))) (bc (bc (.int _ _) (bc (.str _) (bc (.int _ _) (bc (.int _ _) bn)))) bn))) Y Y (by omega) (by decide)
  show gS 3 [(D.Step.mk 1 ((w.extract 1 w.size)++(w.extract 0 1)) 0 0),(D.Step.mk 3 ByteArray.empty 0 0)]
  first | refine gS1 ?_ | refine gS2 ?_ ?_ | refine gS3 ?_ ?_ ?_
  all_goals first | exact Nat.zero_le _ | (show (back w).size≤10;omega) | (show (_:ByteArray).size≤10;simp only [ByteArray.size_append,ByteArray.size_extract];omega) | (show w.size≤10;omega)
 refine sr (fO (ZU (tv (tI e9) Y) (VEv.int .i64 2)) (aO (tB (decide (e9=2))) Y (nt ?_)))
 refine cd (e9=2) Y (fun fhc2=> ?_) fun fhc2=> ?_
 ·refine sq ?_
  refine VRun.draw (B:= [[],[0],[0,1],[],[3],[3,4],[],[6,4,3,5,1,0,2],[2,0,1,5,3,4,6,7]]) (by kernel_rfl) (by kernel_rfl) Y (mD (tS w) Y Y (lD (OL.sliceSHi (j:=1) (tv (tS w) Y) (VEv.int .i64 1) Y (by first | (simp only [ByteArray.size_extract];omega) | omega | (simp only [List.length_map];omega) | (simp only [List.length_map,List.length_append,List.length_cons,List.length_nil,List.length_replicate,List.length_set,List.length_drop,List.length_take,Zb] at *;omega)) U9) Y Y (fD (OF.build (l:= [(0,(tN 1)),(1,(tS (w.extract 0 1)))]) (zs:= [(tN 0),(tS ByteArray.empty),(tN 0),(tN 0)]) (out:= [(tN 1),(tS (w.extract 0 1)),(tN 0),(tN 0)]) (VEvp.cons (i:=0) (VEv.int .i64 1) (VEvp.cons (i:=1) (tv (tS (w.extract 0 1)) Y) VEvp.nil)) (bc nofun (bc nofun bn)) Tryd.underlying67 Yb (fun _=>RL.cons (.int _ _) (RL.cons (.str _) (RL.cons (.int _ _) (RL.cons (.int _ _) (RL.nil _))))) (by kernel_rfl) (by kernel_rfl)) Y Y (mD (tS w) Y Y (lD (OL.sliceSLo (i:=1) (tv (tS w) Y) (VEv.int .i64 1) Y (by first | (simp only [ByteArray.size_extract];omega) | omega | (simp only [List.length_map];omega) | (simp only [List.length_map,List.length_append,List.length_cons,List.length_nil,List.length_replicate,List.length_set,List.length_drop,List.length_take,Zb] at *;omega)) U9) Y Y (fD (OF.build (l:= [(0,(tN 1)),(1,(tS (w.extract 1 w.size)))]) (zs:= [(tN 0),(tS ByteArray.empty),(tN 0),(tN 0)]) (out:= [(tN 1),(tS (w.extract 1 w.size)),(tN 0),(tN 0)]) (VEvp.cons (i:=0) (VEv.int .i64 1) (VEvp.cons (i:=1) (tv (tS (w.extract 1 w.size)) Y) VEvp.nil)) (bc nofun (bc nofun bn)) Tryd.underlying67 Yb (fun _=>RL.cons (.int _ _) (RL.cons (.str _) (RL.cons (.int _ _) (RL.cons (.int _ _) (RL.nil _))))) (by kernel_rfl) (by kernel_rfl)) Y Y (fD (OF.build (l:= [(0,(tN 4)),(3,(tN 1))]) (zs:= [(tN 0),(tS ByteArray.empty),(tN 0),(tN 0)]) (out:= [(tN 4),(tS ByteArray.empty),(tN 0),(tN 1)]) (VEvp.cons (i:=0) (VEv.int .i64 4) (VEvp.cons (i:=3) (VEv.int .i64 1) VEvp.nil)) (bc nofun (bc nofun bn)) Tryd.underlying67 Yb (fun _=>RL.cons (.int _ _) (RL.cons (.str _) (RL.cons (.int _ _) (RL.cons (.int _ _) (RL.nil _))))) (by kernel_rfl) (by kernel_rfl)) Y Y (VRunD.make Y VWant.always Y (OM.buildSlice (l:= [(T.agg [(tN 1),(tS (w.extract 0 1)),(tN 0),(tN 0)]),(T.agg [(tN 1),(tS (w.extract 1 w.size)),(tN 0),(tN 0)]),(T.agg [(tN 4),(tS ByteArray.empty),(tN 0),(tN 1)])]) (VEvp.cons (tv (T.agg [(tN 1),(tS (w.extract 0 1)),(tN 0),(tN 0)]) Y) (VEvp.cons (tv (T.agg [(tN 1),(tS (w.extract 1 w.size)),(tN 0),(tN 0)]) Y) (VEvp.cons (tv (T.agg [(tN 4),(tS ByteArray.empty),(tN 0),(tN 1)]) Y) VEvp.nil))) Y (by decide) (bc (nofun) (bc (nofun) (bc (nofun) bn))) (bc ((bc (Y) (bc (Y) (bc (Y) (bc (Y) bn))))) (bc ((bc (Y) (bc (Y) (bc (Y) (bc (Y) bn))))) (bc ((bc (Y) (bc (Y) (bc (Y) (bc (Y) bn))))) bn))) (bc (Y) (bc (Y) (bc (Y) bn))) ZQ Yb (by kernel_rfl) Y (by rw [Qy];decide) Qy (Nat.le_of_ble_eq_true Y)) ?_))))))))
  refine fD (OF.assign (tv (T.os 4 2 0 3) Y)) Y Y (VRunD.nil (tn (rt (vinB.r (tr ?_)))))
  refine vcur.r [(D.Step.mk 1 (w.extract 0 1) 0 0),(D.Step.mk 1 (w.extract 1 w.size) 0 0),(D.Step.mk 4 ByteArray.empty 0 1)] 0 i9 h9 ?_ (VRes.tmp (t:=(T.os 4 2 0 3)) Y VRes.nil) (Give.os Y Y (bc (bc (.int _ _) (bc (.str _) (bc (.int _ _) (bc (.int _ _) bn)))) (bc (bc (.int _ _) (bc (.str _) (bc (.int _ _) (bc (.int _ _) bn)))) (bc (bc (.int _ _) (bc (.str _) (bc (.int _ _) (bc (.int _ _) bn)))) bn)))) Y Y (by omega) (by decide)
  show gS 3 [(D.Step.mk 1 (w.extract 0 1) 0 0),(D.Step.mk 1 (w.extract 1 w.size) 0 0),(D.Step.mk 4 ByteArray.empty 0 1)]
  first | refine gS1 ?_ | refine gS2 ?_ ?_ | refine gS3 ?_ ?_ ?_
  all_goals first | exact Nat.zero_le _ | (show (back w).size≤10;omega) | (show (_:ByteArray).size≤10;simp only [ByteArray.size_append,ByteArray.size_extract];omega) | (show w.size≤10;omega)
 refine sr (fO (ZU (tv (tI e9) Y) (VEv.int .i64 3)) (aO (tB (decide (e9=3))) Y (nt ?_)))
 refine cd (e9=3) Y (fun fhc3=> ?_) fun fhc3=> ?_
 ·refine sq ?_
  refine VRun.draw (B:= [[],[0],[],[2],[2,3,0,1],[1,0,3,2,4],[],[6],[6,7],[],[9,7,6,8,4,2,3,0,1,5],[5,1,0,3,2,4,8,6,7,9,10]]) (by kernel_rfl) (by kernel_rfl) Y (mD (tS w) Y Y (lD (OL.sliceSHi (j:=1) (tv (tS w) Y) (VEv.int .i64 1) Y (by first | (simp only [ByteArray.size_extract];omega) | omega | (simp only [List.length_map];omega) | (simp only [List.length_map,List.length_append,List.length_cons,List.length_nil,List.length_replicate,List.length_set,List.length_drop,List.length_take,Zb] at *;omega)) U9) Y Y (mD (tS w) Y Y (lD (OL.sliceSLo (i:=2) (tv (tS w) Y) (VEv.int .i64 2) Y (by first | (simp only [ByteArray.size_extract];omega) | omega | (simp only [List.length_map];omega) | (simp only [List.length_map,List.length_append,List.length_cons,List.length_nil,List.length_replicate,List.length_set,List.length_drop,List.length_take,Zb] at *;omega)) U9) Y Y (fD (B.sadd (tv (tS (w.extract 0 1)) Y) (tv (tS (w.extract 2 w.size)) Y) (by first | (simp only [ByteArray.size_extract];omega) | omega | (simp only [List.length_map];omega) | (simp only [List.length_map,List.length_append,List.length_cons,List.length_nil,List.length_replicate,List.length_set,List.length_drop,List.length_take,Zb] at *;omega))) Y Y (fD (OF.build (l:= [(0,(tN 1)),(1,(tS ((w.extract 0 1)++(w.extract 2 w.size))))]) (zs:= [(tN 0),(tS ByteArray.empty),(tN 0),(tN 0)]) (out:= [(tN 1),(tS ((w.extract 0 1)++(w.extract 2 w.size))),(tN 0),(tN 0)]) (VEvp.cons (i:=0) (VEv.int .i64 1) (VEvp.cons (i:=1) (tv (tS ((w.extract 0 1)++(w.extract 2 w.size))) Y) VEvp.nil)) (bc nofun (bc nofun bn)) Tryd.underlying67 Yb (fun _=>RL.cons (.int _ _) (RL.cons (.str _) (RL.cons (.int _ _) (RL.cons (.int _ _) (RL.nil _))))) (by kernel_rfl) (by kernel_rfl)) Y Y (mD (tS w) Y Y (lD (OL.sliceS (i:=1) (j:=2) (tv (tS w) Y) (VEv.int .i64 1) (VEv.int .i64 2) Y Y (by first | (simp only [ByteArray.size_extract];omega) | omega | (simp only [List.length_map];omega) | (simp only [List.length_map,List.length_append,List.length_cons,List.length_nil,List.length_replicate,List.length_set,List.length_drop,List.length_take,Zb] at *;omega)) (by first | (simp only [ByteArray.size_extract];omega) | omega | (simp only [List.length_map];omega) | (simp only [List.length_map,List.length_append,List.length_cons,List.length_nil,List.length_replicate,List.length_set,List.length_drop,List.length_take,Zb] at *;omega)) U9) Y Y (fD (OF.build (l:= [(0,(tN 1)),(1,(tS (w.extract 1 2)))]) (zs:= [(tN 0),(tS ByteArray.empty),(tN 0),(tN 0)]) (out:= [(tN 1),(tS (w.extract 1 2)),(tN 0),(tN 0)]) (VEvp.cons (i:=0) (VEv.int .i64 1) (VEvp.cons (i:=1) (tv (tS (w.extract 1 2)) Y) VEvp.nil)) (bc nofun (bc nofun bn)) Tryd.underlying67 Yb (fun _=>RL.cons (.int _ _) (RL.cons (.str _) (RL.cons (.int _ _) (RL.cons (.int _ _) (RL.nil _))))) (by kernel_rfl) (by kernel_rfl)) Y Y (fD (OF.build (l:= [(0,(tN 5)),(3,(tN 1))]) (zs:= [(tN 0),(tS ByteArray.empty),(tN 0),(tN 0)]) (out:= [(tN 5),(tS ByteArray.empty),(tN 0),(tN 1)]) (VEvp.cons (i:=0) (VEv.int .i64 5) (VEvp.cons (i:=3) (VEv.int .i64 1) VEvp.nil)) (bc nofun (bc nofun bn)) Tryd.underlying67 Yb (fun _=>RL.cons (.int _ _) (RL.cons (.str _) (RL.cons (.int _ _) (RL.cons (.int _ _) (RL.nil _))))) (by kernel_rfl) (by kernel_rfl)) Y Y ?_))))))))))
  refine VRunD.make Y VWant.always Y (OM.buildSlice (l:= [(T.agg [(tN 1),(tS ((w.extract 0 1)++(w.extract 2 w.size))),(tN 0),(tN 0)]),(T.agg [(tN 1),(tS (w.extract 1 2)),(tN 0),(tN 0)]),(T.agg [(tN 5),(tS ByteArray.empty),(tN 0),(tN 1)])]) (VEvp.cons (tv (T.agg [(tN 1),(tS ((w.extract 0 1)++(w.extract 2 w.size))),(tN 0),(tN 0)]) Y) (VEvp.cons (tv (T.agg [(tN 1),(tS (w.extract 1 2)),(tN 0),(tN 0)]) Y) (VEvp.cons (tv (T.agg [(tN 5),(tS ByteArray.empty),(tN 0),(tN 1)]) Y) VEvp.nil))) Y (by decide) (bc (nofun) (bc (nofun) (bc (nofun) bn))) (bc ((bc (Y) (bc (Y) (bc (Y) (bc (Y) bn))))) (bc ((bc (Y) (bc (Y) (bc (Y) (bc (Y) bn))))) (bc ((bc (Y) (bc (Y) (bc (Y) (bc (Y) bn))))) bn))) (bc (Y) (bc (Y) (bc (Y) bn))) ZQ Yb (by kernel_rfl) Y (by rw [Qy];decide) Qy (Nat.le_of_ble_eq_true Y)) (fD (OF.assign (tv (T.os 4 2 0 3) Y)) Y Y (VRunD.nil (tn (rt (vinB.r (tr ?_))))))
  refine vcur.r [(D.Step.mk 1 ((w.extract 0 1)++(w.extract 2 w.size)) 0 0),(D.Step.mk 1 (w.extract 1 2) 0 0),(D.Step.mk 5 ByteArray.empty 0 1)] 0 i9 h9 ?_ (VRes.tmp (t:=(T.os 4 2 0 3)) Y VRes.nil) (Give.os Y Y (bc (bc (.int _ _) (bc (.str _) (bc (.int _ _) (bc (.int _ _) bn)))) (bc (bc (.int _ _) (bc (.str _) (bc (.int _ _) (bc (.int _ _) bn)))) (bc (bc (.int _ _) (bc (.str _) (bc (.int _ _) (bc (.int _ _) bn)))) bn)))) Y Y (by omega) (by decide)
  show gS 3 [(D.Step.mk 1 ((w.extract 0 1)++(w.extract 2 w.size)) 0 0),(D.Step.mk 1 (w.extract 1 2) 0 0),(D.Step.mk 5 ByteArray.empty 0 1)]
  first | refine gS1 ?_ | refine gS2 ?_ ?_ | refine gS3 ?_ ?_ ?_
  all_goals first | exact Nat.zero_le _ | (show (back w).size≤10;omega) | (show (_:ByteArray).size≤10;simp only [ByteArray.size_append,ByteArray.size_extract];omega) | (show w.size≤10;omega)
 refine sk (vinB.n (tn (sr (lO (OL.loadOn (us:= [(tN 1),(tS w),(tN 0),(tN 0)]) (tv (T.op 1 0) Y) Y Zs Qy (lb Y) Y) (kO (OM.buildSlice (l:= [(T.agg [(tN 1),(tS w),(tN 0),(tN 0)])]) (VEvp.cons (tv (T.agg [(tN 1),(tS w),(tN 0),(tN 0)]) Y) VEvp.nil) Y (by decide) (bc (nofun) bn) (bc ((bc (Y) (bc (Y) (bc (Y) (bc (Y) bn))))) bn) (bc (Y) bn) ZQ Yb (by kernel_rfl) Y (by rw [Qy];decide) Qy (Nat.le_of_ble_eq_true Y)) (aO (T.os 4 2 0 1) Y (nt (rt ?_))))))))
 refine vcur.r [(D.Step.mk 1 w 0 0)] 0 i9 h9 ?_ (VRes.tmp (t:=(T.os 4 2 0 1)) Y VRes.nil) (Give.os Y Y (bc (bc (.int _ _) (bc (.str _) (bc (.int _ _) (bc (.int _ _) bn)))) bn)) Y Y (by omega) (by decide)
 show gS 3 [(D.Step.mk 1 w 0 0)]
 first | refine gS1 ?_ | refine gS2 ?_ ?_ | refine gS3 ?_ ?_ ?_
 all_goals first | exact Nat.zero_le _ | (show (back w).size≤10;omega) | (show (_:ByteArray).size≤10;simp only [ByteArray.size_append,ByteArray.size_extract];omega) | (show w.size≤10;omega)
theorem Qbd (n:Nat) (d:List D.Meaning) (w:ByteArray) (hd:d.length≤mx):PureE (Qm Tryd.prog (n+1)) 79 [(rd 2 Qa d),(tS w)] (fun x:List Int=>x.length≤d.length) (fun x:List Int=>(T.sl true 1 (x.map (Qh true)))):=by
 refine PureE.intro (rs:= [ResultVar.tmp 4]) Tryd.func79 Y Y Y (E0:= [(0,(rd 2 Qa d)),(1,(tS w))]) Y ?_
 obtain ⟨hlim,hmx,hmax⟩:=QG
 refine sr (fO (OF.assign VEv.nils) (nt (sr (kO (OM.slice0 Yn zo3 (by kernel_rfl) Y (by rw [Zg];decide) Zg) (aO (T.os 1 0 0 0) Y (nt (sq (sr (fO (OF.assign (VEv.int .i64 0)) (nt (VRun.block ?_)))))))))))
 have he1: []=([].map (Qh true)):=by first | rfl | (simp;done) | omega
 refine VRun.loop (A:=Nat×(List Int)) (fun s_=> [(0,(rd 2 Qa d)),(1,(tS w)),(4,T.nils),(5,(T.os 1 0 0 ((s_.2.map (Qh true)).length))),(6,(tN s_.1))]) (fun s_=>ZR [(0,(Obj.rows 1 (s_.2.map (Qh true))))]) 1 (fun s_=>s_.1≤d.length∧s_.2.length≤s_.1) (fun s_=>d.length - s_.1) ((0,[]):Nat×(List Int)) ?_ (Wk.mk (fun k=>k) ?_ ?_ ?_) ?_
 ·exact ⟨Nat.zero_le _,Nat.le_refl _⟩
 ·exact (b2 (b2 (b2 (bc ⟨(congrArg (fun n_=>T.os 1 0 0 n_) (show 0=([].map (Qh true)).length from (by first | rfl | (simp only [List.length_map];omega) | (simp only [List.length_map,List.length_set,List.length_append,List.length_take,List.length_replicate,List.length_cons,List.length_nil];omega)))),rfl⟩ (b2 bn)))))
 ·exact (bc ⟨(congrArg (fun l_=>some (Obj.rows 1 l_)) he1),(lb Y),rfl⟩ bn)
 ·exact nd Y
 rintro ⟨i,a⟩ (hI':i≤d.length∧a.length≤i)
 show VRun _ _ _ [(0,(rd 2 Qa d)),(1,(tS w)),(4,T.nils),(5,(T.os 1 0 0 ((a.map (Qh true)).length))),(6,(tN i))] (ZR [(0,(Obj.rows 1 (a.map (Qh true))))]) 1 _
 have hI1:=hI'.1
 have hI2:=hI'.2
 refine sq (sr (mO (tN i) Y (mO (rd 2 Qa d) Y (lO (B.lenR (m:=d.length) (tv (rd 2 Qa d) Y) YB (List.length_map ..)) (fO (Yr (tv (tN i) Y) (tv (tN d.length) Y)) (nt ?_))))))
 refine cd (i<d.length) Y (fun fhc0=> ?_) fun fhc0=> ?_
 ·refine sk ?_
  refine tn (sq (VRun.block (sr (mO (rd 2 Qa d) Y (mO (tN i) Y ?_)))))
  obtain ⟨x1,hx1⟩:∃x,d[i]? =some x:=⟨_,List.getElem?_eq_getElem (by omega)⟩
  refine fO (OF.indexAddrR (row:=(Qa false x1)) (i:=i) (tv (rd 2 Qa d) Y) (tv (tN i) Y) Y (Qs _ hx1) YB QF Y9) (lr (tS x1.Word) Y (lb Y) Yt Y st9 (mO (tS w) Y (fO (B.seql (c:=(decide (x1.Word=w))) (tv (tS x1.Word) Y) (tv (tS w) Y) Y) (nt ?_))))
  refine cd (x1.Word=w) Y (fun fhc1=> ?_) fun fhc1=> ?_
  ·refine VRun.region ?_
   refine mO (T.os 1 0 0 ((a.map (Qh true)).length)) Y (mO (rd 2 Qa d) Y (mO (tN i) Y (fO (OF.indexAddrR (row:=(Qa false x1)) (i:=i) (tv (rd 2 Qa d) Y) (tv (tN i) Y) Y (Qs _ hx1) YB QF Y9) (lr (tI x1.Sense) Y (lb Y) Jf Y QY (kO (OM.buildSlice (l:= [(tI x1.Sense)]) (VEvp.cons (tv (tI x1.Sense) Y) VEvp.nil) Y (by decide) (bc (nofun) bn) (bc ((bc (Y) bn)) bn) (bc (Y) bn) Yn zo3 (by kernel_rfl) Y (by rw [Zg];decide) Zg (Nat.le_of_ble_eq_true Y)) (cO (B.append (rows:=(a.map (Qh true))) (rows2:= [[(tI x1.Sense)]]) (rows3:=((a++ [x1.Sense]).map (Qh true))) (VDst.own (tv (T.os 1 0 0 ((a.map (Qh true)).length)) Y) Y Y) (VSrc.own (tv (T.os 1 1 0 1) Y) Y Y Yn (bc (bc Y bn) bn)) (by decide) Yn Zg (by decide) zo3 Y (of_decide_eq_true (by kernel_rfl)) (by first | omega | (simp only [List.length_map];omega) | (simp only [List.length_map,List.length_append,List.length_cons,List.length_nil,List.length_replicate,List.length_set,List.length_drop,List.length_take,Zb] at *;omega)) ((List.map_append (f:=Qh true) (l₁:=a) (l₂:= [x1.Sense])).symm)) (aO (T.os 1 2 0 (((a++ [x1.Sense]).map (Qh true)).length)) Y (VRunO.nil (vinB.n (tn (VRun.region ?_)))))))))))
   refine mO (tN i) Y (fO (Zu (tv (tN i) Y) (VEv.int .i64 1) (by omega)) (aO (tN (i+1)) Y (VRunO.nil (tn ?_))))
   refine ⟨((i+1,(a++ [x1.Sense])):Nat×(List Int)),?_,?_,Wk.mk (fun k=>if k=0 then 2 else k) ?_ ?_ ?_⟩
   ·first | exact ⟨by omega,by omega⟩ | exact ⟨by omega,by simp only [List.length_append,List.length_singleton];omega⟩
   ·first | omega | (simp only [];omega) | (show _<_;omega) | (simp;omega)
   ·exact (b2 (b2 (b2 (b2 (b2 bn)))))
   ·exact (b3 bn)
   ·exact nd Y
  refine sk (vinB.n (tn (VRun.region (mO (tN i) Y (fO (Zu (tv (tN i) Y) (VEv.int .i64 1) (by omega)) (aO (tN (i+1)) Y (VRunO.nil (tn ?_))))))))
  refine ⟨((i+1,a):Nat×(List Int)),?_,?_,Wk.mk (fun k=>k) ?_ ?_ ?_⟩
  ·first | exact ⟨by omega,by omega⟩ | exact ⟨by omega,by simp only [List.length_append,List.length_singleton];omega⟩
  ·first | omega | (simp only [];omega) | (show _<_;omega) | (simp;omega)
  ·exact (b2 (b2 (b2 (b2 (b2 bn)))))
  ·exact (b3 bn)
  ·exact nd Y
 refine VRun.exit (vthn.e (vthn.e (vinB.e (tn (sr (mO (T.os 1 0 0 ((a.map (Qh true)).length)) Y (aO (T.os 1 0 0 ((a.map (Qh true)).length)) Y (nt (rt ?_)))))))))
 refine vfinE.r a ?_ (vfin.r (VRes.tmp (t:=(T.os 1 0 0 ((a.map (Qh true)).length))) Y VRes.nil) (Give.os Y Y (okInt.cleanMap _)))
 show a.length≤d.length
 omega
theorem Qb4 (n:Nat) (code:List Int) (d:List D.Meaning) (w:ByteArray) (hcl:code.length≤mx) (hw:2≤w.size∧w.size≤9) (hd:d.length≤100):CurE (Qm Tryd.prog (n+4)) 60 (rd 1 Qi code) code.length [(rd 2 Qa d),(tS w)] (fun x:D.Clue=>gS 3 x.Play) (fun x:D.Clue=>(T.agg (QA true x))):=by
 refine CurE.intro (rs:= [ResultVar.cell 6 26]) Tryd.func60 Y Y Y (by kernel_rfl) (fun pb nb mb ci ch hci=> ?_)
 obtain ⟨hlim,hmx,hmax⟩:=QG
 show VRun _ _ _ [(0,(T.op 0 0)),(1,(rd 2 Qa d)),(2,(tS w))] [(0,some (Obj.cells [(T.ex pb nb mb (rd 1 Qi code)),(tN ci),(tI ch)]))] 1 _
 refine sr (kO (B.alloc (t:=(T.agg [(tN 0),T.nils])) (ts:= [(tN 0),T.nils]) QaB QaI nofun (fun _=> .agg _ _ Y (Ys (RL.cons (.int _ _) (RL.cons (.nils) (RL.nil _))))) Y) (nt (sr (mO (T.op 0 0) Y ?_))))
 refine eC (us:= [(tN 4)]) (r':=fun x_:Int=>(tI x_)) (objs:=fun x_:Int=> []) (m:=0) (k:=0) ci ch VWant.always (vc (tv (T.op 0 0) Y) (vc (VEv.int .i64 4) vn)) Y (by omega) (QR Y) (Qj (n+1) code (4:Int) (by first | assumption | omega | (simp only [List.length_cons,List.length_nil];omega))) Y (fun _=>rfl) (fun _=>rfl) fun e10 i10 h10 hs10 hi10=> ?_
 have hs10:((4:Int)≤0→e10=0)∧(0<(4:Int)→0≤e10∧e10<(4:Int)):=hs10
 refine fO (B.add (n:=(1+e10)) (VEv.int .i64 1) (tv (tI e10) Y) (by first | rfl | (rw [Qg (by omega)];omega) | (rw [Qg (by omega)];done))) (mO (T.op 0 0) Y (mO (tS w) Y ?_))
 refine eC (us:= [(tS w)]) (r':=fun x_:List D.Step=>(T.os 4 2 0 ((x_.map (Qb true)).length))) (objs:=fun x_:List D.Step=> [(Obj.rows 4 (x_.map (Qb true)))]) (m:=1) (k:=0) i10 h10 VWant.always (vc (tv (T.op 0 0) Y) (vc (tv (tS w) Y) vn)) Y (by omega) (QR Y) (QbQ (n+0) code w (by first | assumption | omega | (simp only [List.length_cons,List.length_nil];omega)) (by first | assumption | omega | (simp only [List.length_cons,List.length_nil];omega))) Y (fun _=>rfl) (fun _=>rfl) fun e14 i14 h14 hs14 hi14=> ?_
 have hs14:gS 3 e14:=hs14
 refine fO (OF.build (l:= [(0,(tI (1+e10))),(1,(T.os 4 2 0 ((e14.map (Qb true)).length)))]) (zs:= [(tN 0),T.nils]) (out:= [(tI (1+e10)),(T.os 4 2 0 ((e14.map (Qb true)).length))]) (VEvp.cons (i:=0) (tv (tI (1+e10)) Y) (VEvp.cons (i:=1) (tv (T.os 4 2 0 ((e14.map (Qb true)).length)) Y) VEvp.nil)) (bc nofun (bc nofun bn)) Tryd.underlying26 QaB (fun _=>RL.cons (.int _ _) (RL.cons (.nils) (RL.nil _))) (by kernel_rfl) (by kernel_rfl)) (kO (B.alloc (t:=(T.agg [(tN 0),T.nils])) (ts:= [(tN 0),T.nils]) QaB QaI nofun (fun _=> .agg _ _ Y (Ys (RL.cons (.int _ _) (RL.cons (.nils) (RL.nil _))))) Y) (cO (B.storeW (us:= [(tI (1+e10)),(T.os 4 2 0 ((e14.map (Qb true)).length))]) (tv (T.op 3 0) Y) (tv (T.agg [(tI (1+e10)),(T.os 4 2 0 ((e14.map (Qb true)).length))]) Y) nofun Y Y Y Ji QQ (bc Y (bc Y bn))) (nt (sq (sr (mO (rd 2 Qa d) Y (mO (tS w) Y ?_)))))))
 refine eP (us:= [(rd 2 Qa d),(tS w)]) (r':=fun x_:List Int=>(T.os 1 4 0 ((x_.map (Qh true)).length))) (objs:=fun x_:List Int=> [(Obj.rows 1 (x_.map (Qh true)))]) (m:=1) VWant.always (vc (tv (rd 2 Qa d) Y) (vc (tv (tS w) Y) vn)) (QR Y) (Qbd (n+2) d w (by first | assumption | omega | (simp only [List.length_cons,List.length_nil];omega))) Y (fun _=>rfl) (fun _=>rfl) fun e18 hs18=> ?_
 have hs18:e18.length≤d.length:=hs18
 refine aO (T.os 1 4 0 ((e18.map (Qh true)).length)) Y (nt (sr (mO (T.os 1 4 0 ((e18.map (Qh true)).length)) Y (lO (B.lenO (m:=e18.length) (tv (T.os 1 4 0 ((e18.map (Qh true)).length)) Y) Yn (List.length_map ..)) (fO (B.gtr (c:=(decide (0<e18.length))) (tv (tN e18.length) Y) (VEv.int .i64 0) (Zp (by omega))) (mO (tB (decide (0<e18.length))) Y ?_))))))
 refine gw (0<e18.length) (fun fhg22_1=> ?_) fun fhg22_1=> ?_
 ·refine gF (dy fhg22_1) Y Y (OF.move (tv (T.op 0 0) Y)) ?_
  refine eC (us:= [(tN 8)]) (r':=fun x_:Bool=>(tB x_)) (objs:=fun x_:Bool=> []) (m:=0) (k:=0) i14 h14 (VWant.on Y Y (dy fhg22_1)) (vc (tv (T.op 0 0) Y) (vc (VEv.int .i64 8) vn)) Y (by omega) (QR Y) (Z1 (n+0) code (8:Int) (by first | assumption | omega | (simp only [List.length_cons,List.length_nil];omega))) Y (fun _=>rfl) (fun _=>rfl) fun e24 i24 h24 hs24 hi24=> ?_
  have hs24:True:=hs24
  refine gF (dy fhg22_1) Y Y (QZ (tv (tB e24) Y)) (fO (OF.pickT (VEv.tmpB Y (dy fhg22_1)) (tv (tB (!e24)) Y)) (nt ?_))
  refine VRun.cond (tv (tB (!e24)) Y) (fun hc0=> ?_) (fun hc0=> ?_)
  ·have fhc0:e24=false:=Qe1 hc0
   refine VRun.region (mO (T.os 1 4 0 ((e18.map (Qh true)).length)) Y (mO (T.op 0 0) Y (mO (T.os 1 4 0 ((e18.map (Qh true)).length)) Y (lO (B.lenO (m:=e18.length) (tv (T.os 1 4 0 ((e18.map (Qh true)).length)) Y) Yn (List.length_map ..)) ?_))))
   refine eC (us:= [(tN e18.length)]) (r':=fun x_:Int=>(tI x_)) (objs:=fun x_:Int=> []) (m:=0) (k:=0) i24 h24 VWant.always (vc (tv (T.op 0 0) Y) (vc (tv (tN e18.length) Y) vn)) Y (by omega) (QR Y) (Qj (n+1) code ((e18.length:Nat):Int) (by first | assumption | omega | (simp only [List.length_cons,List.length_nil];omega))) Y (fun _=>rfl) (fun _=>rfl) fun e31 i31 h31 hs31 hi31=> ?_
   have hs31:(((e18.length:Nat):Int)≤0→e31=0)∧(0<((e18.length:Nat):Int)→0≤e31∧e31<((e18.length:Nat):Int)):=hs31
   obtain ⟨x1,hx1⟩:∃x,e18[(Int.toNat e31)]? =some x:=⟨_,List.getElem?_eq_getElem (by omega)⟩
   refine fO (B.indexAddrO (i:=(Int.toNat e31)) (tv (T.os 1 4 0 ((e18.map (Qh true)).length)) Y) (tv (tI e31) Y) (by omega) (by first | omega | (simp only [List.length_map];omega) | (simp only [List.length_map,List.length_append,List.length_cons,List.length_nil,List.length_replicate,List.length_set,List.length_drop,List.length_take,Zb] at *;omega)) Yn Zg YY) (lO (OL.loadP1 (t:=(tI x1)) (row:=(Qh true x1)) (tv (T.orp 1 4 (Int.toNat e31) 0) Y) Y (Qs _ hx1) Y Y QY) (fO (OF.fieldAddrO (tv (T.op 3 0) Y) QcL) (cO (B.storeO (us:= [(tI x1)]) (ws:= [(tI x1),(T.os 4 2 0 ((e14.map (Qb true)).length))]) (tv (T.op 3 0) Y) (tv (tI x1) Y) nofun Y Y (lb Y) YY Zg (bc Y bn) Y) (VRunO.nil (tn (sr (lO (OL.loadOn (us:= [(tI x1),(T.os 4 2 0 ((e14.map (Qb true)).length))]) (tv (T.op 3 0) Y) Y Zj QQ (lb Y) Y) (cO (B.storeW (us:= [(tI x1),(T.os 4 2 0 ((e14.map (Qb true)).length))]) (tv (T.op 1 0) Y) (tv (T.agg [(tI x1),(T.os 4 2 0 ((e14.map (Qb true)).length))]) Y) nofun Y Y Y Ji QQ (bc Y (bc Y bn))) (nt (rt ?_))))))))))
   refine vcur.r (D.Clue.mk x1 e14) 0 i31 h31 ?_ (VRes.celln (ws:= [(tI x1),(T.os 4 2 0 ((e14.map (Qb true)).length))]) Y Y Zj QQ (lb Y) Y VRes.nil) (Give.agg (GiveL.cons (Give.int _ _) (GiveL.cons (Give.os Y Y (okeStep.cleanMap _)) GiveL.nil (by decide)) (by decide))) Y Y (by omega) (by decide)
   show gS 3 (D.Clue.mk x1 e14).Play
   exact hs14
  have fhc0:e24=true:=Qfp hc0
  refine sk (tn (sr (lO (OL.loadOn (us:= [(tI (1+e10)),(T.os 4 2 0 ((e14.map (Qb true)).length))]) (tv (T.op 3 0) Y) Y Zj QQ (lb Y) Y) (cO (B.storeW (us:= [(tI (1+e10)),(T.os 4 2 0 ((e14.map (Qb true)).length))]) (tv (T.op 1 0) Y) (tv (T.agg [(tI (1+e10)),(T.os 4 2 0 ((e14.map (Qb true)).length))]) Y) nofun Y Y Y Ji QQ (bc Y (bc Y bn))) (nt (rt ?_))))))
  refine vcur.r (D.Clue.mk (1+e10) e14) 0 i24 h24 ?_ (VRes.celln (ws:= [(tI (1+e10)),(T.os 4 2 0 ((e14.map (Qb true)).length))]) Y Y Zj QQ (lb Y) Y VRes.nil) (Give.agg (GiveL.cons (Give.int _ _) (GiveL.cons (Give.os Y Y (okeStep.cleanMap _)) GiveL.nil (by decide)) (by decide))) Y Y (by omega) (by decide)
  show gS 3 (D.Clue.mk (1+e10) e14).Play
  exact hs14
 refine QB 3 3 true 22 (dz fhg22_1) Y Y Y (fO (OF.pickF (VEv.tmpB Y (dz fhg22_1)) (VEv.bool false)) (nt (cf Y (sk (tn (sr (lO (OL.loadOn (us:= [(tI (1+e10)),(T.os 4 2 0 ((e14.map (Qb true)).length))]) (tv (T.op 3 0) Y) Y Zj QQ (lb Y) Y) (cO (B.storeW (us:= [(tI (1+e10)),(T.os 4 2 0 ((e14.map (Qb true)).length))]) (tv (T.op 1 0) Y) (tv (T.agg [(tI (1+e10)),(T.os 4 2 0 ((e14.map (Qb true)).length))]) Y) nofun Y Y Y Ji QQ (bc Y (bc Y bn))) (nt (rt ?_))))))))))
 refine vcur.r (D.Clue.mk (1+e10) e14) 0 i14 h14 ?_ (VRes.celln (ws:= [(tI (1+e10)),(T.os 4 2 0 ((e14.map (Qb true)).length))]) Y Y Zj QQ (lb Y) Y VRes.nil) (Give.agg (GiveL.cons (Give.int _ _) (GiveL.cons (Give.os Y Y (okeStep.cleanMap _)) GiveL.nil (by decide)) (by decide))) Y Y (by omega) (by decide)
 show gS 3 (D.Clue.mk (1+e10) e14).Play
 exact hs14
theorem QbS (n:Nat) (code:List Int) (l:List D.Step) (hcl:code.length≤mx) (hl:gS 9 l) (h1:w1S l):CurE (Qm Tryd.prog (n+5)) 97 (rd 1 Qi code) code.length [(rd 4 Qb l)] (fun x:D.Step=>x.Word.size≤10∧(l= []→x.Kind=1)) (fun x:D.Step=>(T.agg (Qb true x))):=by
 refine CurE.intro (rs:= [ResultVar.cell 4 67]) Tryd.func97 Y Y Y (by kernel_rfl) (fun pb nb mb ci ch hci=> ?_)
 obtain ⟨hlim,hmx,hmax⟩:=QG
 show VRun _ _ _ [(0,(T.op 0 0)),(1,(rd 4 Qb l))] [(0,some (Obj.cells [(T.ex pb nb mb (rd 1 Qi code)),(tN ci),(tI ch)]))] 1 _
 have hl9:=hl.1
 refine sr (kO (B.alloc (t:=(T.agg [(tN 0),(tS ByteArray.empty),(tN 0),(tN 0)])) (ts:= [(tN 0),(tS ByteArray.empty),(tN 0),(tN 0)]) Yb Qez nofun (fun _=> .agg _ _ Y (Ys (RL.cons (.int _ _) (RL.cons (.str _) (RL.cons (.int _ _) (RL.cons (.int _ _) (RL.nil _))))))) Y) (nt (sr (mO (T.op 0 0) Y ?_))))
 refine eC (us:= [(tN 9)]) (r':=fun x_:Int=>(tI x_)) (objs:=fun x_:Int=> []) (m:=0) (k:=0) ci ch VWant.always (vc (tv (T.op 0 0) Y) (vc (VEv.int .i64 9) vn)) Y (by omega) (QR Y) (Qj (n+2) code (9:Int) (by first | assumption | omega | (simp only [List.length_cons,List.length_nil];omega))) Y (fun _=>rfl) (fun _=>rfl) fun e7 i7 h7 hs7 hi7=> ?_
 have hs7:((9:Int)≤0→e7=0)∧(0<(9:Int)→0≤e7∧e7<(9:Int)):=hs7
 refine fO (B.add (n:=(1+e7)) (VEv.int .i64 1) (tv (tI e7) Y) (by first | rfl | (rw [Qg (by omega)];omega) | (rw [Qg (by omega)];done))) (fO (OF.build (l:= [(0,(tI (1+e7)))]) (zs:= [(tN 0),(tS ByteArray.empty),(tN 0),(tN 0)]) (out:= [(tI (1+e7)),(tS ByteArray.empty),(tN 0),(tN 0)]) (VEvp.cons (i:=0) (tv (tI (1+e7)) Y) VEvp.nil) (bc nofun bn) Tryd.underlying67 Yb (fun _=>RL.cons (.int _ _) (RL.cons (.str _) (RL.cons (.int _ _) (RL.cons (.int _ _) (RL.nil _))))) (by kernel_rfl) (by kernel_rfl)) (kO (B.alloc (t:=(T.agg [(tN 0),(tS ByteArray.empty),(tN 0),(tN 0)])) (ts:= [(tN 0),(tS ByteArray.empty),(tN 0),(tN 0)]) Yb Qez nofun (fun _=> .agg _ _ Y (Ys (RL.cons (.int _ _) (RL.cons (.str _) (RL.cons (.int _ _) (RL.cons (.int _ _) (RL.nil _))))))) Y) (cO (B.storeW (us:= [(tI (1+e7)),(tS ByteArray.empty),(tN 0),(tN 0)]) (tv (T.op 2 0) Y) (tv (T.agg [(tI (1+e7)),(tS ByteArray.empty),(tN 0),(tN 0)]) Y) nofun Y Y Y Ze Qy (bc Y (bc Y (bc Y (bc Y bn))))) (nt (sq (sr (mO (rd 4 Qb l) Y (lO (B.lenR (m:=l.length) (tv (rd 4 Qb l) Y) ZQ (List.length_map ..)) (fO (B.eql (c:=(decide (l.length=0))) (tv (tN l.length) Y) (VEv.int .i64 0) (Zp (by omega))) (mO (tB (decide (l.length=0))) Y ?_))))))))))
 refine gw (l.length=0) (fun fhg13_1=> ?_) fun fhg13_1=> ?_
 ·refine QB 2 3 false 13 (dy fhg13_1) Y Y Y ?_
  refine fO (OF.pickT (VEv.tmpB Y (dy fhg13_1)) (VEv.bool true)) (nt (ct Y (VRun.region (fO (OF.fieldAddrO (tv (T.op 2 0) Y) Qv) (cO (B.storeO (us:= [(tN 1)]) (ws:= [(tN 1),(tS ByteArray.empty),(tN 0),(tN 0)]) (tv (T.op 2 0) Y) (VEv.int .i64 1) nofun Y Y (lb Y) YY Zg (bc Y bn) Y) (VRunO.nil (tn (sq (sr (lf (tN 1) Y Qv Y Y QY (fO (B.eql (c:=(decide (1=1))) (tv (tN 1) Y) (VEv.int .i64 1) (Zp (by omega))) ?_)))))))))))
  refine nt ?_
  refine cd (1=1) Y (fun fhc1=> ?_) fun fhc1=> ?_
  ·refine sr ?_
   refine mO (T.op 0 0) Y (mO (T.op 0 0) Y ?_)
   refine eC (us:= []) (r':=fun x_:ByteArray=>(tS x_)) (objs:=fun x_:ByteArray=> []) (m:=0) (k:=0) i7 h7 VWant.always (vc (tv (T.op 0 0) Y) vn) Y (by omega) ln (Zh (n+0) code (by first | assumption | omega | (simp only [List.length_cons,List.length_nil];omega))) Y (fun _=>rfl) (fun _=>rfl) fun e23 i23 h23 hs23 hi23=> ?_
   have hs23:3≤e23.size∧e23.size≤9:=hs23
   refine kO (OM.buildSlice (l:= [(tS e23),(tS (⟨#[114]⟩:ByteArray)),(tS (⟨#[115]⟩:ByteArray)),(tS (⟨#[97,116]⟩:ByteArray)),(tS (⟨#[101,97]⟩:ByteArray))]) (VEvp.cons (tv (tS e23) Y) (VEvp.cons (VEv.str (⟨#[114]⟩:ByteArray)) (VEvp.cons (VEv.str (⟨#[115]⟩:ByteArray)) (VEvp.cons (VEv.str (⟨#[97,116]⟩:ByteArray)) (VEvp.cons (VEv.str (⟨#[101,97]⟩:ByteArray)) VEvp.nil))))) Y (by decide) (bc (nofun) (bc (nofun) (bc (nofun) (bc (nofun) (bc (nofun) bn))))) (bc ((bc (Y) bn)) (bc ((bc (Y) bn)) (bc ((bc (Y) bn)) (bc ((bc (Y) bn)) (bc ((bc (Y) bn)) bn))))) (bc (Y) (bc (Y) (bc (Y) (bc (Y) (bc (Y) bn))))) Y1 zo9 (by kernel_rfl) Y (by rw [Yx];decide) Yx (Nat.le_of_ble_eq_true Y)) ?_
   refine eC (us:= [(T.sl false 1 [[(tS e23)],[(tS (⟨#[114]⟩:ByteArray))],[(tS (⟨#[115]⟩:ByteArray))],[(tS (⟨#[97,116]⟩:ByteArray))],[(tS (⟨#[101,97]⟩:ByteArray))]])]) (r':=fun x_:ByteArray=>(tS x_)) (objs:=fun x_:ByteArray=> []) (m:=0) (k:=0) i23 h23 VWant.always (vc (tv (T.op 0 0) Y) (vc (tv (T.os 1 3 0 5) Y) vn)) Y (by omega) (LendL.cons (Lend.os Y Y Y) ln) (Zn (n+1) code [e23,(⟨#[114]⟩:ByteArray),(⟨#[115]⟩:ByteArray),(⟨#[97,116]⟩:ByteArray),(⟨#[101,97]⟩:ByteArray)] (by first | assumption | omega | (simp only [List.length_cons,List.length_nil];omega)) (by first | assumption | omega | (simp only [List.length_cons,List.length_nil];omega)) (by first | assumption | omega | (simp only [List.length_cons,List.length_nil];omega))) Y (fun _=>rfl) (fun _=>rfl) fun e25 i25 h25 hs25 hi25=> ?_
   have hs25:e25∈ [e23,(⟨#[114]⟩:ByteArray),(⟨#[115]⟩:ByteArray),(⟨#[97,116]⟩:ByteArray),(⟨#[101,97]⟩:ByteArray)]:=hs25
   refine fO (OF.fieldAddrO (tv (T.op 2 0) Y) JK) (cO (B.storeO (us:= [(tS e25)]) (ws:= [(tN 1),(tS e25),(tN 0),(tN 0)]) (tv (T.op 2 1) Y) (tv (tS e25) Y) nofun Y Y (lb Y) if9 Yx (bc Y bn) Y) (nt (sr (lO (OL.loadOn (us:= [(tN 1),(tS e25),(tN 0),(tN 0)]) (tv (T.op 2 0) Y) Y Zs Qy (lb Y) Y) (cO (B.storeW (us:= [(tN 1),(tS e25),(tN 0),(tN 0)]) (tv (T.op 1 0) Y) (tv (T.agg [(tN 1),(tS e25),(tN 0),(tN 0)]) Y) nofun Y Y Y Ze Qy (bc Y (bc Y (bc Y (bc Y bn))))) (nt (rt (tr ?_))))))))
   refine vcur.r (D.Step.mk 1 e25 0 0) 0 i25 h25 ?_ (VRes.celln (ws:= [(tN 1),(tS e25),(tN 0),(tN 0)]) Y Y Zs Qy (lb Y) Y VRes.nil) (Give.agg (GiveL.cons (Give.int _ _) (GiveL.cons (Give.str _) (GiveL.cons (Give.int _ _) (GiveL.cons (Give.int _ _) GiveL.nil (by decide)) (by decide)) (by decide)) (by decide))) Y Y (by omega) (by decide)
   show (D.Step.mk 1 e25 0 0).Word.size≤10∧(l= []→(D.Step.mk 1 e25 0 0).Kind=1)
   first | exact ⟨ZH hs23.2 hs25,fun _=>rfl⟩ | exact ⟨ZH hs23.2 hs25,fun _=>fhc1⟩ | exact absurd Y fhc1 | exact ⟨Nat.zero_le _,fun h_=>absurd (show l.length=0 from h_▸Y) fhg13_1⟩
  refine sk (tn (sr (mO (rd 4 Qb l) Y (lO (B.lenR (m:=l.length) (tv (rd 4 Qb l) Y) ZQ (List.length_map ..)) (fO (B.sub (n:=(((l.length:Nat):Int) - 1)) (tv (tN l.length) Y) (VEv.int .i64 1) (by first | rfl | (rw [Qg (by omega)];omega) | (rw [Qg (by omega)];done))) (fO (OF.fieldAddrO (tv (T.op 2 0) Y) QM) (cO (B.storeO (us:= [(tI (((l.length:Nat):Int) - 1))]) (ws:= [(tN 1),(tS ByteArray.empty),(tI (((l.length:Nat):Int) - 1)),(tN 0)]) (tv (T.op 2 2) Y) (tv (tI (((l.length:Nat):Int) - 1)) Y) nofun Y Y (lb Y) YY Zg (bc Y bn) Y) (nt (sq (sr (lf (tN 1) Y Qv Y Y QY ?_)))))))))))
  refine fO (B.eql (c:=(decide (1=4))) (tv (tN 1) Y) (VEv.int .i64 4) (Zp (by omega))) (mO (tB (decide (1=4))) Y ?_)
  refine gw (1=4) (fun fhg35_2=> ?_) fun fhg35_2=> ?_
  ·refine QB 3 3 false 35 (dy fhg35_2) Y Y Y ?_
   refine fO (OF.pickT (VEv.tmpB Y (dy fhg35_2)) (VEv.bool true)) (nt (ct Y (sr (mO (T.op 0 0) Y (mO (rd 4 Qb l) Y (lO (B.lenR (m:=l.length) (tv (rd 4 Qb l) Y) ZQ (List.length_map ..)) ?_))))))
   refine eC (us:= [(tN l.length)]) (r':=fun x_:Int=>(tI x_)) (objs:=fun x_:Int=> []) (m:=0) (k:=0) i7 h7 VWant.always (vc (tv (T.op 0 0) Y) (vc (tv (tN l.length) Y) vn)) Y (by omega) (QR Y) (Qj (n+2) code ((l.length:Nat):Int) (by first | assumption | omega | (simp only [List.length_cons,List.length_nil];omega))) Y (fun _=>rfl) (fun _=>rfl) fun e43 i43 h43 hs43 hi43=> ?_
   have hs43:(((l.length:Nat):Int)≤0→e43=0)∧(0<((l.length:Nat):Int)→0≤e43∧e43<((l.length:Nat):Int)):=hs43
   refine fO (OF.fieldAddrO (tv (T.op 2 0) Y) QM) (cO (B.storeO (us:= [(tI e43)]) (ws:= [(tN 1),(tS ByteArray.empty),(tI e43),(tN 0)]) (tv (T.op 2 2) Y) (tv (tI e43) Y) nofun Y Y (lb Y) YY Zg (bc Y bn) Y) (nt (sr (mO (T.op 0 0) Y (mO (rd 4 Qb l) Y (lO (B.lenR (m:=l.length) (tv (rd 4 Qb l) Y) ZQ (List.length_map ..)) ?_))))))
   refine eC (us:= [(tN l.length)]) (r':=fun x_:Int=>(tI x_)) (objs:=fun x_:Int=> []) (m:=0) (k:=0) i43 h43 VWant.always (vc (tv (T.op 0 0) Y) (vc (tv (tN l.length) Y) vn)) Y (by omega) (QR Y) (Qj (n+2) code ((l.length:Nat):Int) (by first | assumption | omega | (simp only [List.length_cons,List.length_nil];omega))) Y (fun _=>rfl) (fun _=>rfl) fun e48 i48 h48 hs48 hi48=> ?_
   have hs48:(((l.length:Nat):Int)≤0→e48=0)∧(0<((l.length:Nat):Int)→0≤e48∧e48<((l.length:Nat):Int)):=hs48
   refine fO (OF.fieldAddrO (tv (T.op 2 0) Y) Zd) (cO (B.storeO (us:= [(tI e48)]) (ws:= [(tN 1),(tS ByteArray.empty),(tI e43),(tI e48)]) (tv (T.op 2 3) Y) (tv (tI e48) Y) nofun Y Y (lb Y) YY Zg (bc Y bn) Y) (nt (sr (lO (OL.loadOn (us:= [(tN 1),(tS ByteArray.empty),(tI e43),(tI e48)]) (tv (T.op 2 0) Y) Y Zs Qy (lb Y) Y) (cO (B.storeW (us:= [(tN 1),(tS ByteArray.empty),(tI e43),(tI e48)]) (tv (T.op 1 0) Y) (tv (T.agg [(tN 1),(tS ByteArray.empty),(tI e43),(tI e48)]) Y) nofun Y Y Y Ze Qy (bc Y (bc Y (bc Y (bc Y bn))))) (nt (rt (tr ?_))))))))
   refine vcur.r (D.Step.mk 1 ByteArray.empty e43 e48) 0 i48 h48 ?_ (VRes.celln (ws:= [(tN 1),(tS ByteArray.empty),(tI e43),(tI e48)]) Y Y Zs Qy (lb Y) Y VRes.nil) (Give.agg (GiveL.cons (Give.int _ _) (GiveL.cons (Give.str _) (GiveL.cons (Give.int _ _) (GiveL.cons (Give.int _ _) GiveL.nil (by decide)) (by decide)) (by decide)) (by decide))) Y Y (by omega) (by decide)
   show (D.Step.mk 1 ByteArray.empty e43 e48).Word.size≤10∧(l= []→(D.Step.mk 1 ByteArray.empty e43 e48).Kind=1)
   first | exact ⟨ZH hs23.2 hs25,fun _=>rfl⟩ | exact ⟨ZH hs23.2 hs25,fun _=>fhc1⟩ | exact absurd Y fhc1 | exact ⟨Nat.zero_le _,fun h_=>absurd (show l.length=0 from h_▸Y) fhg13_1⟩
  refine JZ (tN 1) (dz fhg35_2) Y Y Y Y Qv Y Y QY (gF (dz fhg35_2) Y Y (B.eql (c:=(decide (1=5))) (tv (tN 1) Y) (VEv.int .i64 5) (Zp (by omega))) (fO (OF.pickF (VEv.tmpB Y (dz fhg35_2)) (tv (tB (decide (1=5))) Y)) (nt ?_)))
  refine cd (1=5) Y (fun fhc2=> ?_) fun fhc2=> ?_
  ·refine sr ?_
   refine mO (T.op 0 0) Y (mO (rd 4 Qb l) Y (lO (B.lenR (m:=l.length) (tv (rd 4 Qb l) Y) ZQ (List.length_map ..)) ?_))
   refine eC (us:= [(tN l.length)]) (r':=fun x_:Int=>(tI x_)) (objs:=fun x_:Int=> []) (m:=0) (k:=0) i7 h7 VWant.always (vc (tv (T.op 0 0) Y) (vc (tv (tN l.length) Y) vn)) Y (by omega) (QR Y) (Qj (n+2) code ((l.length:Nat):Int) (by first | assumption | omega | (simp only [List.length_cons,List.length_nil];omega))) Y (fun _=>rfl) (fun _=>rfl) fun e43 i43 h43 hs43 hi43=> ?_
   have hs43:(((l.length:Nat):Int)≤0→e43=0)∧(0<((l.length:Nat):Int)→0≤e43∧e43<((l.length:Nat):Int)):=hs43
   refine fO (OF.fieldAddrO (tv (T.op 2 0) Y) QM) (cO (B.storeO (us:= [(tI e43)]) (ws:= [(tN 1),(tS ByteArray.empty),(tI e43),(tN 0)]) (tv (T.op 2 2) Y) (tv (tI e43) Y) nofun Y Y (lb Y) YY Zg (bc Y bn) Y) (nt (sr (mO (T.op 0 0) Y (mO (rd 4 Qb l) Y (lO (B.lenR (m:=l.length) (tv (rd 4 Qb l) Y) ZQ (List.length_map ..)) ?_))))))
   refine eC (us:= [(tN l.length)]) (r':=fun x_:Int=>(tI x_)) (objs:=fun x_:Int=> []) (m:=0) (k:=0) i43 h43 VWant.always (vc (tv (T.op 0 0) Y) (vc (tv (tN l.length) Y) vn)) Y (by omega) (QR Y) (Qj (n+2) code ((l.length:Nat):Int) (by first | assumption | omega | (simp only [List.length_cons,List.length_nil];omega))) Y (fun _=>rfl) (fun _=>rfl) fun e48 i48 h48 hs48 hi48=> ?_
   have hs48:(((l.length:Nat):Int)≤0→e48=0)∧(0<((l.length:Nat):Int)→0≤e48∧e48<((l.length:Nat):Int)):=hs48
   refine fO (OF.fieldAddrO (tv (T.op 2 0) Y) Zd) (cO (B.storeO (us:= [(tI e48)]) (ws:= [(tN 1),(tS ByteArray.empty),(tI e43),(tI e48)]) (tv (T.op 2 3) Y) (tv (tI e48) Y) nofun Y Y (lb Y) YY Zg (bc Y bn) Y) (nt (sr (lO (OL.loadOn (us:= [(tN 1),(tS ByteArray.empty),(tI e43),(tI e48)]) (tv (T.op 2 0) Y) Y Zs Qy (lb Y) Y) (cO (B.storeW (us:= [(tN 1),(tS ByteArray.empty),(tI e43),(tI e48)]) (tv (T.op 1 0) Y) (tv (T.agg [(tN 1),(tS ByteArray.empty),(tI e43),(tI e48)]) Y) nofun Y Y Y Ze Qy (bc Y (bc Y (bc Y (bc Y bn))))) (nt (rt (tr ?_))))))))
   refine vcur.r (D.Step.mk 1 ByteArray.empty e43 e48) 0 i48 h48 ?_ (VRes.celln (ws:= [(tN 1),(tS ByteArray.empty),(tI e43),(tI e48)]) Y Y Zs Qy (lb Y) Y VRes.nil) (Give.agg (GiveL.cons (Give.int _ _) (GiveL.cons (Give.str _) (GiveL.cons (Give.int _ _) (GiveL.cons (Give.int _ _) GiveL.nil (by decide)) (by decide)) (by decide)) (by decide))) Y Y (by omega) (by decide)
   show (D.Step.mk 1 ByteArray.empty e43 e48).Word.size≤10∧(l= []→(D.Step.mk 1 ByteArray.empty e43 e48).Kind=1)
   first | exact ⟨ZH hs23.2 hs25,fun _=>rfl⟩ | exact ⟨ZH hs23.2 hs25,fun _=>fhc1⟩ | exact absurd Y fhc1 | exact ⟨Nat.zero_le _,fun h_=>absurd (show l.length=0 from h_▸Y) fhg13_1⟩
  refine sk (tn (sq (VRun.block ?_)))
  have he3:(((l.length:Nat):Int) - 1)=(((l.length - 1):Nat):Int):=by first | rfl | (simp;done) | omega
  refine VRun.loop (A:=Nat) (fun s_=> [(0,(T.op 0 0)),(1,(rd 4 Qb l)),(4,(T.op 1 0)),(5,(T.op 2 0))]) (fun s_=>ZR [(0,(Obj.cells [(T.ex pb nb mb (rd 1 Qi code)),(tN i7),(tI h7)])),(1,(Obj.cells [(tN 0),(tS ByteArray.empty),(tN 0),(tN 0)])),(2,(Obj.cells [(tN 1),(tS ByteArray.empty),(tN s_),(tN 0)]))]) 3 (fun s_=>s_<l.length) (fun s_=>s_) (l.length - 1:Nat) ?_ (Wk.mk (fun k=>k) ?_ ?_ ?_) ?_
  ·first | trivial | (simp;done) | omega | (constructor<;>simp)
  ·exact (b2 (b2 (b2 (b2 bn))))
  ·exact (b3 (b3 (bc ⟨(congrArg (fun l_=>some (Obj.cells [(tN 1),(tS ByteArray.empty),(tI l_),(tN 0)])) he3),(lb Y),rfl⟩ bn)))
  ·exact nd Y
  rintro a (hI':a<l.length)
  show VRun _ _ _ [(0,(T.op 0 0)),(1,(rd 4 Qb l)),(4,(T.op 1 0)),(5,(T.op 2 0))] (ZR [(0,(Obj.cells [(T.ex pb nb mb (rd 1 Qi code)),(tN i7),(tI h7)])),(1,(Obj.cells [(tN 0),(tS ByteArray.empty),(tN 0),(tN 0)])),(2,(Obj.cells [(tN 1),(tS ByteArray.empty),(tN a),(tN 0)]))]) 3 _
  have hI1:=hI'
  refine sq (sr (lf (tN 1) Y Qv Y Y QY (fO (B.neq (c:=(!(decide (1=2)))) (tv (tN 1) Y) (VEv.int .i64 2) (Qfw (by omega))) (mO (tB (!(decide (1=2)))) Y ?_))))
  refine gn (1=2) (fun fhg54_4=> ?_) fun fhg54_4=> ?_
  ·refine gF (ny fhg54_4) Y Y (OF.move (tv (rd 4 Qb l) Y)) ?_
   refine JZ (tN a) (ny fhg54_4) Y Y Y Y QM Y Y QY ?_
   obtain ⟨x1,hx1⟩:∃x,l[a]? =some x:=⟨_,List.getElem?_eq_getElem (by omega)⟩
   refine gF (ny fhg54_4) Y Y (OF.indexAddrR (row:=(Qb false x1)) (i:=a) (tv (rd 4 Qb l) Y) (tv (tN a) Y) Y (Qs _ hx1) ZQ Qy Ze) (glr (tI x1.Kind) (ny fhg54_4) Y Y Y Y (lb Y) Qv Y QY (gF (ny fhg54_4) Y Y (xne (tv (tI x1.Kind) Y) (VEv.int .i64 1)) (fO (OF.pickT (VEv.tmpB Y (ny fhg54_4)) (tv (tB (!(decide (x1.Kind=1)))) Y)) (nt ?_))))
   refine cn (x1.Kind=1) Y (fun fhc3=> ?_) fun fhc3=> ?_
   ·refine sk ?_
    refine tn (VRun.block (VRun.region (lf (tN a) Y QM Y Y QY (fO (B.sub (n:=(((a:Nat):Int) - 1)) (tv (tN a) Y) (VEv.int .i64 1) (by first | rfl | (rw [Qg (by omega)];omega) | (rw [Qg (by omega)];done))) (fO (OF.fieldAddrO (tv (T.op 2 0) Y) QM) (cO (B.storeO (us:= [(tI (((a:Nat):Int) - 1))]) (ws:= [(tN 1),(tS ByteArray.empty),(tI (((a:Nat):Int) - 1)),(tN 0)]) (tv (T.op 2 2) Y) (tv (tI (((a:Nat):Int) - 1)) Y) nofun Y Y (lb Y) YY Zg (bc Y bn) Y) (VRunO.nil (vinB.n (tn ?_)))))))))
    have ha0:=Qcv h1 hx1 fhc3
    have he5:(((a:Nat):Int) - 1)=(((a - 1):Nat):Int):=by first | rfl | (simp;done) | omega
    refine ⟨(a - 1:Nat),?_,?_,Wk.mk (fun k=>k) ?_ ?_ ?_⟩
    ·first | trivial | omega | (simp;done) | exact ⟨by omega,hI'.2⟩
    ·first | omega | (simp only [];omega) | (show _<_;omega) | (simp;omega)
    ·exact (b2 (b2 (b2 (b2 bn))))
    ·exact (b3 (b3 (bc ⟨(congrArg (fun l_=>some (Obj.cells [(tN 1),(tS ByteArray.empty),(tI l_),(tN 0)])) he5),(lb Y),rfl⟩ bn)))
    ·exact nd Y
   refine VRun.exit (vthn.e (vthn.e (vinB.e (tn (sr (lO (OL.loadOn (us:= [(tN 1),(tS ByteArray.empty),(tN a),(tN 0)]) (tv (T.op 2 0) Y) Y Zs Qy (lb Y) Y) (cO (B.storeW (us:= [(tN 1),(tS ByteArray.empty),(tN a),(tN 0)]) (tv (T.op 1 0) Y) (tv (T.agg [(tN 1),(tS ByteArray.empty),(tN a),(tN 0)]) Y) nofun Y Y Y Ze Qy (bc Y (bc Y (bc Y (bc Y bn))))) (nt (rt ?_)))))))))
   refine vcur.r (D.Step.mk 1 ByteArray.empty ((a:Nat):Int) 0) 0 i7 h7 ?_ (VRes.celln (ws:= [(tN 1),(tS ByteArray.empty),(tN a),(tN 0)]) Y Y Zs Qy (lb Y) Y VRes.nil) (Give.agg (GiveL.cons (Give.int _ _) (GiveL.cons (Give.str _) (GiveL.cons (Give.int _ _) (GiveL.cons (Give.int _ _) GiveL.nil (by decide)) (by decide)) (by decide)) (by decide))) Y Y (by omega) (by decide)
   show (D.Step.mk 1 ByteArray.empty ((a:Nat):Int) 0).Word.size≤10∧(l= []→(D.Step.mk 1 ByteArray.empty ((a:Nat):Int) 0).Kind=1)
   first | exact ⟨ZH hs23.2 hs25,fun _=>rfl⟩ | exact ⟨ZH hs23.2 hs25,fun _=>fhc1⟩ | exact absurd Y fhc1 | exact ⟨Nat.zero_le _,fun h_=>absurd (show l.length=0 from h_▸Y) fhg13_1⟩
  refine QB 7 3 true 54 (nz fhg54_4) Y Y Y (fO (OF.pickF (VEv.tmpB Y (nz fhg54_4)) (VEv.bool false)) (nt (cf Y (VRun.exit (vthn.e (vthn.e (vinB.e (tn (sr (lO (OL.loadOn (us:= [(tN 1),(tS ByteArray.empty),(tN a),(tN 0)]) (tv (T.op 2 0) Y) Y Zs Qy (lb Y) Y) (cO (B.storeW (us:= [(tN 1),(tS ByteArray.empty),(tN a),(tN 0)]) (tv (T.op 1 0) Y) (tv (T.agg [(tN 1),(tS ByteArray.empty),(tN a),(tN 0)]) Y) nofun Y Y Y Ze Qy (bc Y (bc Y (bc Y (bc Y bn))))) ?_)))))))))))
  refine nt (rt ?_)
  refine vcur.r (D.Step.mk 1 ByteArray.empty ((a:Nat):Int) 0) 0 i7 h7 ?_ (VRes.celln (ws:= [(tN 1),(tS ByteArray.empty),(tN a),(tN 0)]) Y Y Zs Qy (lb Y) Y VRes.nil) (Give.agg (GiveL.cons (Give.int _ _) (GiveL.cons (Give.str _) (GiveL.cons (Give.int _ _) (GiveL.cons (Give.int _ _) GiveL.nil (by decide)) (by decide)) (by decide)) (by decide))) Y Y (by omega) (by decide)
  show (D.Step.mk 1 ByteArray.empty ((a:Nat):Int) 0).Word.size≤10∧(l= []→(D.Step.mk 1 ByteArray.empty ((a:Nat):Int) 0).Kind=1)
  first | exact ⟨ZH hs23.2 hs25,fun _=>rfl⟩ | exact ⟨ZH hs23.2 hs25,fun _=>fhc1⟩ | exact absurd Y fhc1 | exact ⟨Nat.zero_le _,fun h_=>absurd (show l.length=0 from h_▸Y) fhg13_1⟩
 refine gF (dz fhg13_1) Y Y (OF.move (tv (T.op 0 0) Y)) ?_
 refine eC (us:= [(tN 3)]) (r':=fun x_:Bool=>(tB x_)) (objs:=fun x_:Bool=> []) (m:=0) (k:=0) i7 h7 (VWant.on Y Y (dz fhg13_1)) (vc (tv (T.op 0 0) Y) (vc (VEv.int .i64 3) vn)) Y (by omega) (QR Y) (Z1 (n+1) code (3:Int) (by first | assumption | omega | (simp only [List.length_cons,List.length_nil];omega))) Y (fun _=>rfl) (fun _=>rfl) fun e15 i15 h15 hs15 hi15=> ?_
 have hs15:True:=hs15
 refine fO (OF.pickF (VEv.tmpB Y (dz fhg13_1)) (tv (tB e15) Y)) (nt ?_)
 refine VRun.cond (tv (tB e15) Y) (fun hc0=> ?_) (fun hc0=> ?_)
 ·have fhc0:e15=true:=hc0
  refine VRun.region (fO (OF.fieldAddrO (tv (T.op 2 0) Y) Qv) (cO (B.storeO (us:= [(tN 1)]) (ws:= [(tN 1),(tS ByteArray.empty),(tN 0),(tN 0)]) (tv (T.op 2 0) Y) (VEv.int .i64 1) nofun Y Y (lb Y) YY Zg (bc Y bn) Y) (VRunO.nil (tn (sq (sr (lf (tN 1) Y Qv Y Y QY (fO (B.eql (c:=(decide (1=1))) (tv (tN 1) Y) (VEv.int .i64 1) (Zp (by omega))) (nt ?_)))))))))
  refine cd (1=1) Y (fun fhc1=> ?_) fun fhc1=> ?_
  ·refine sr ?_
   refine mO (T.op 0 0) Y (mO (T.op 0 0) Y ?_)
   refine eC (us:= []) (r':=fun x_:ByteArray=>(tS x_)) (objs:=fun x_:ByteArray=> []) (m:=0) (k:=0) i15 h15 VWant.always (vc (tv (T.op 0 0) Y) vn) Y (by omega) ln (Zh (n+0) code (by first | assumption | omega | (simp only [List.length_cons,List.length_nil];omega))) Y (fun _=>rfl) (fun _=>rfl) fun e23 i23 h23 hs23 hi23=> ?_
   have hs23:3≤e23.size∧e23.size≤9:=hs23
   refine kO (OM.buildSlice (l:= [(tS e23),(tS (⟨#[114]⟩:ByteArray)),(tS (⟨#[115]⟩:ByteArray)),(tS (⟨#[97,116]⟩:ByteArray)),(tS (⟨#[101,97]⟩:ByteArray))]) (VEvp.cons (tv (tS e23) Y) (VEvp.cons (VEv.str (⟨#[114]⟩:ByteArray)) (VEvp.cons (VEv.str (⟨#[115]⟩:ByteArray)) (VEvp.cons (VEv.str (⟨#[97,116]⟩:ByteArray)) (VEvp.cons (VEv.str (⟨#[101,97]⟩:ByteArray)) VEvp.nil))))) Y (by decide) (bc (nofun) (bc (nofun) (bc (nofun) (bc (nofun) (bc (nofun) bn))))) (bc ((bc (Y) bn)) (bc ((bc (Y) bn)) (bc ((bc (Y) bn)) (bc ((bc (Y) bn)) (bc ((bc (Y) bn)) bn))))) (bc (Y) (bc (Y) (bc (Y) (bc (Y) (bc (Y) bn))))) Y1 zo9 (by kernel_rfl) Y (by rw [Yx];decide) Yx (Nat.le_of_ble_eq_true Y)) ?_
   refine eC (us:= [(T.sl false 1 [[(tS e23)],[(tS (⟨#[114]⟩:ByteArray))],[(tS (⟨#[115]⟩:ByteArray))],[(tS (⟨#[97,116]⟩:ByteArray))],[(tS (⟨#[101,97]⟩:ByteArray))]])]) (r':=fun x_:ByteArray=>(tS x_)) (objs:=fun x_:ByteArray=> []) (m:=0) (k:=0) i23 h23 VWant.always (vc (tv (T.op 0 0) Y) (vc (tv (T.os 1 3 0 5) Y) vn)) Y (by omega) (LendL.cons (Lend.os Y Y Y) ln) (Zn (n+1) code [e23,(⟨#[114]⟩:ByteArray),(⟨#[115]⟩:ByteArray),(⟨#[97,116]⟩:ByteArray),(⟨#[101,97]⟩:ByteArray)] (by first | assumption | omega | (simp only [List.length_cons,List.length_nil];omega)) (by first | assumption | omega | (simp only [List.length_cons,List.length_nil];omega)) (by first | assumption | omega | (simp only [List.length_cons,List.length_nil];omega))) Y (fun _=>rfl) (fun _=>rfl) fun e25 i25 h25 hs25 hi25=> ?_
   have hs25:e25∈ [e23,(⟨#[114]⟩:ByteArray),(⟨#[115]⟩:ByteArray),(⟨#[97,116]⟩:ByteArray),(⟨#[101,97]⟩:ByteArray)]:=hs25
   refine fO (OF.fieldAddrO (tv (T.op 2 0) Y) JK) (cO (B.storeO (us:= [(tS e25)]) (ws:= [(tN 1),(tS e25),(tN 0),(tN 0)]) (tv (T.op 2 1) Y) (tv (tS e25) Y) nofun Y Y (lb Y) if9 Yx (bc Y bn) Y) (nt (sr (lO (OL.loadOn (us:= [(tN 1),(tS e25),(tN 0),(tN 0)]) (tv (T.op 2 0) Y) Y Zs Qy (lb Y) Y) (cO (B.storeW (us:= [(tN 1),(tS e25),(tN 0),(tN 0)]) (tv (T.op 1 0) Y) (tv (T.agg [(tN 1),(tS e25),(tN 0),(tN 0)]) Y) nofun Y Y Y Ze Qy (bc Y (bc Y (bc Y (bc Y bn))))) (nt (rt (tr ?_))))))))
   refine vcur.r (D.Step.mk 1 e25 0 0) 0 i25 h25 ?_ (VRes.celln (ws:= [(tN 1),(tS e25),(tN 0),(tN 0)]) Y Y Zs Qy (lb Y) Y VRes.nil) (Give.agg (GiveL.cons (Give.int _ _) (GiveL.cons (Give.str _) (GiveL.cons (Give.int _ _) (GiveL.cons (Give.int _ _) GiveL.nil (by decide)) (by decide)) (by decide)) (by decide))) Y Y (by omega) (by decide)
   show (D.Step.mk 1 e25 0 0).Word.size≤10∧(l= []→(D.Step.mk 1 e25 0 0).Kind=1)
   first | exact ⟨ZH hs23.2 hs25,fun _=>rfl⟩ | exact ⟨ZH hs23.2 hs25,fun _=>fhc1⟩ | exact absurd Y fhc1 | exact ⟨Nat.zero_le _,fun h_=>absurd (show l.length=0 from h_▸Y) fhg13_1⟩
  refine sk (tn (sr (mO (rd 4 Qb l) Y (lO (B.lenR (m:=l.length) (tv (rd 4 Qb l) Y) ZQ (List.length_map ..)) (fO (B.sub (n:=(((l.length:Nat):Int) - 1)) (tv (tN l.length) Y) (VEv.int .i64 1) (by first | rfl | (rw [Qg (by omega)];omega) | (rw [Qg (by omega)];done))) (fO (OF.fieldAddrO (tv (T.op 2 0) Y) QM) (cO (B.storeO (us:= [(tI (((l.length:Nat):Int) - 1))]) (ws:= [(tN 1),(tS ByteArray.empty),(tI (((l.length:Nat):Int) - 1)),(tN 0)]) (tv (T.op 2 2) Y) (tv (tI (((l.length:Nat):Int) - 1)) Y) nofun Y Y (lb Y) YY Zg (bc Y bn) Y) (nt (sq (sr (lf (tN 1) Y Qv Y Y QY ?_)))))))))))
  refine fO (B.eql (c:=(decide (1=4))) (tv (tN 1) Y) (VEv.int .i64 4) (Zp (by omega))) (mO (tB (decide (1=4))) Y ?_)
  refine gw (1=4) (fun fhg35_6=> ?_) fun fhg35_6=> ?_
  ·refine QB 3 3 false 35 (dy fhg35_6) Y Y Y ?_
   refine fO (OF.pickT (VEv.tmpB Y (dy fhg35_6)) (VEv.bool true)) (nt (ct Y (sr (mO (T.op 0 0) Y (mO (rd 4 Qb l) Y (lO (B.lenR (m:=l.length) (tv (rd 4 Qb l) Y) ZQ (List.length_map ..)) ?_))))))
   refine eC (us:= [(tN l.length)]) (r':=fun x_:Int=>(tI x_)) (objs:=fun x_:Int=> []) (m:=0) (k:=0) i15 h15 VWant.always (vc (tv (T.op 0 0) Y) (vc (tv (tN l.length) Y) vn)) Y (by omega) (QR Y) (Qj (n+2) code ((l.length:Nat):Int) (by first | assumption | omega | (simp only [List.length_cons,List.length_nil];omega))) Y (fun _=>rfl) (fun _=>rfl) fun e43 i43 h43 hs43 hi43=> ?_
   have hs43:(((l.length:Nat):Int)≤0→e43=0)∧(0<((l.length:Nat):Int)→0≤e43∧e43<((l.length:Nat):Int)):=hs43
   refine fO (OF.fieldAddrO (tv (T.op 2 0) Y) QM) (cO (B.storeO (us:= [(tI e43)]) (ws:= [(tN 1),(tS ByteArray.empty),(tI e43),(tN 0)]) (tv (T.op 2 2) Y) (tv (tI e43) Y) nofun Y Y (lb Y) YY Zg (bc Y bn) Y) (nt (sr (mO (T.op 0 0) Y (mO (rd 4 Qb l) Y (lO (B.lenR (m:=l.length) (tv (rd 4 Qb l) Y) ZQ (List.length_map ..)) ?_))))))
   refine eC (us:= [(tN l.length)]) (r':=fun x_:Int=>(tI x_)) (objs:=fun x_:Int=> []) (m:=0) (k:=0) i43 h43 VWant.always (vc (tv (T.op 0 0) Y) (vc (tv (tN l.length) Y) vn)) Y (by omega) (QR Y) (Qj (n+2) code ((l.length:Nat):Int) (by first | assumption | omega | (simp only [List.length_cons,List.length_nil];omega))) Y (fun _=>rfl) (fun _=>rfl) fun e48 i48 h48 hs48 hi48=> ?_
   have hs48:(((l.length:Nat):Int)≤0→e48=0)∧(0<((l.length:Nat):Int)→0≤e48∧e48<((l.length:Nat):Int)):=hs48
   refine fO (OF.fieldAddrO (tv (T.op 2 0) Y) Zd) (cO (B.storeO (us:= [(tI e48)]) (ws:= [(tN 1),(tS ByteArray.empty),(tI e43),(tI e48)]) (tv (T.op 2 3) Y) (tv (tI e48) Y) nofun Y Y (lb Y) YY Zg (bc Y bn) Y) (nt (sr (lO (OL.loadOn (us:= [(tN 1),(tS ByteArray.empty),(tI e43),(tI e48)]) (tv (T.op 2 0) Y) Y Zs Qy (lb Y) Y) (cO (B.storeW (us:= [(tN 1),(tS ByteArray.empty),(tI e43),(tI e48)]) (tv (T.op 1 0) Y) (tv (T.agg [(tN 1),(tS ByteArray.empty),(tI e43),(tI e48)]) Y) nofun Y Y Y Ze Qy (bc Y (bc Y (bc Y (bc Y bn))))) (nt (rt (tr ?_))))))))
   refine vcur.r (D.Step.mk 1 ByteArray.empty e43 e48) 0 i48 h48 ?_ (VRes.celln (ws:= [(tN 1),(tS ByteArray.empty),(tI e43),(tI e48)]) Y Y Zs Qy (lb Y) Y VRes.nil) (Give.agg (GiveL.cons (Give.int _ _) (GiveL.cons (Give.str _) (GiveL.cons (Give.int _ _) (GiveL.cons (Give.int _ _) GiveL.nil (by decide)) (by decide)) (by decide)) (by decide))) Y Y (by omega) (by decide)
   show (D.Step.mk 1 ByteArray.empty e43 e48).Word.size≤10∧(l= []→(D.Step.mk 1 ByteArray.empty e43 e48).Kind=1)
   first | exact ⟨ZH hs23.2 hs25,fun _=>rfl⟩ | exact ⟨ZH hs23.2 hs25,fun _=>fhc1⟩ | exact absurd Y fhc1 | exact ⟨Nat.zero_le _,fun h_=>absurd (show l.length=0 from h_▸Y) fhg13_1⟩
  refine JZ (tN 1) (dz fhg35_6) Y Y Y Y Qv Y Y QY (gF (dz fhg35_6) Y Y (B.eql (c:=(decide (1=5))) (tv (tN 1) Y) (VEv.int .i64 5) (Zp (by omega))) (fO (OF.pickF (VEv.tmpB Y (dz fhg35_6)) (tv (tB (decide (1=5))) Y)) (nt ?_)))
  refine cd (1=5) Y (fun fhc2=> ?_) fun fhc2=> ?_
  ·refine sr ?_
   refine mO (T.op 0 0) Y (mO (rd 4 Qb l) Y (lO (B.lenR (m:=l.length) (tv (rd 4 Qb l) Y) ZQ (List.length_map ..)) ?_))
   refine eC (us:= [(tN l.length)]) (r':=fun x_:Int=>(tI x_)) (objs:=fun x_:Int=> []) (m:=0) (k:=0) i15 h15 VWant.always (vc (tv (T.op 0 0) Y) (vc (tv (tN l.length) Y) vn)) Y (by omega) (QR Y) (Qj (n+2) code ((l.length:Nat):Int) (by first | assumption | omega | (simp only [List.length_cons,List.length_nil];omega))) Y (fun _=>rfl) (fun _=>rfl) fun e43 i43 h43 hs43 hi43=> ?_
   have hs43:(((l.length:Nat):Int)≤0→e43=0)∧(0<((l.length:Nat):Int)→0≤e43∧e43<((l.length:Nat):Int)):=hs43
   refine fO (OF.fieldAddrO (tv (T.op 2 0) Y) QM) (cO (B.storeO (us:= [(tI e43)]) (ws:= [(tN 1),(tS ByteArray.empty),(tI e43),(tN 0)]) (tv (T.op 2 2) Y) (tv (tI e43) Y) nofun Y Y (lb Y) YY Zg (bc Y bn) Y) (nt (sr (mO (T.op 0 0) Y (mO (rd 4 Qb l) Y (lO (B.lenR (m:=l.length) (tv (rd 4 Qb l) Y) ZQ (List.length_map ..)) ?_))))))
   refine eC (us:= [(tN l.length)]) (r':=fun x_:Int=>(tI x_)) (objs:=fun x_:Int=> []) (m:=0) (k:=0) i43 h43 VWant.always (vc (tv (T.op 0 0) Y) (vc (tv (tN l.length) Y) vn)) Y (by omega) (QR Y) (Qj (n+2) code ((l.length:Nat):Int) (by first | assumption | omega | (simp only [List.length_cons,List.length_nil];omega))) Y (fun _=>rfl) (fun _=>rfl) fun e48 i48 h48 hs48 hi48=> ?_
   have hs48:(((l.length:Nat):Int)≤0→e48=0)∧(0<((l.length:Nat):Int)→0≤e48∧e48<((l.length:Nat):Int)):=hs48
   refine fO (OF.fieldAddrO (tv (T.op 2 0) Y) Zd) (cO (B.storeO (us:= [(tI e48)]) (ws:= [(tN 1),(tS ByteArray.empty),(tI e43),(tI e48)]) (tv (T.op 2 3) Y) (tv (tI e48) Y) nofun Y Y (lb Y) YY Zg (bc Y bn) Y) (nt (sr (lO (OL.loadOn (us:= [(tN 1),(tS ByteArray.empty),(tI e43),(tI e48)]) (tv (T.op 2 0) Y) Y Zs Qy (lb Y) Y) (cO (B.storeW (us:= [(tN 1),(tS ByteArray.empty),(tI e43),(tI e48)]) (tv (T.op 1 0) Y) (tv (T.agg [(tN 1),(tS ByteArray.empty),(tI e43),(tI e48)]) Y) nofun Y Y Y Ze Qy (bc Y (bc Y (bc Y (bc Y bn))))) (nt (rt (tr ?_))))))))
   refine vcur.r (D.Step.mk 1 ByteArray.empty e43 e48) 0 i48 h48 ?_ (VRes.celln (ws:= [(tN 1),(tS ByteArray.empty),(tI e43),(tI e48)]) Y Y Zs Qy (lb Y) Y VRes.nil) (Give.agg (GiveL.cons (Give.int _ _) (GiveL.cons (Give.str _) (GiveL.cons (Give.int _ _) (GiveL.cons (Give.int _ _) GiveL.nil (by decide)) (by decide)) (by decide)) (by decide))) Y Y (by omega) (by decide)
   show (D.Step.mk 1 ByteArray.empty e43 e48).Word.size≤10∧(l= []→(D.Step.mk 1 ByteArray.empty e43 e48).Kind=1)
   first | exact ⟨ZH hs23.2 hs25,fun _=>rfl⟩ | exact ⟨ZH hs23.2 hs25,fun _=>fhc1⟩ | exact absurd Y fhc1 | exact ⟨Nat.zero_le _,fun h_=>absurd (show l.length=0 from h_▸Y) fhg13_1⟩
  refine sk (tn (sq (VRun.block ?_)))
  have he7:(((l.length:Nat):Int) - 1)=(((l.length - 1):Nat):Int):=by first | rfl | (simp;done) | omega
  refine VRun.loop (A:=Nat) (fun s_=> [(0,(T.op 0 0)),(1,(rd 4 Qb l)),(4,(T.op 1 0)),(5,(T.op 2 0))]) (fun s_=>ZR [(0,(Obj.cells [(T.ex pb nb mb (rd 1 Qi code)),(tN i15),(tI h15)])),(1,(Obj.cells [(tN 0),(tS ByteArray.empty),(tN 0),(tN 0)])),(2,(Obj.cells [(tN 1),(tS ByteArray.empty),(tN s_),(tN 0)]))]) 3 (fun s_=>s_<l.length) (fun s_=>s_) (l.length - 1:Nat) ?_ (Wk.mk (fun k=>k) ?_ ?_ ?_) ?_
  ·first | trivial | (simp;done) | omega | (constructor<;>simp)
  ·exact (b2 (b2 (b2 (b2 bn))))
  ·exact (b3 (b3 (bc ⟨(congrArg (fun l_=>some (Obj.cells [(tN 1),(tS ByteArray.empty),(tI l_),(tN 0)])) he7),(lb Y),rfl⟩ bn)))
  ·exact nd Y
  rintro a (hI':a<l.length)
  show VRun _ _ _ [(0,(T.op 0 0)),(1,(rd 4 Qb l)),(4,(T.op 1 0)),(5,(T.op 2 0))] (ZR [(0,(Obj.cells [(T.ex pb nb mb (rd 1 Qi code)),(tN i15),(tI h15)])),(1,(Obj.cells [(tN 0),(tS ByteArray.empty),(tN 0),(tN 0)])),(2,(Obj.cells [(tN 1),(tS ByteArray.empty),(tN a),(tN 0)]))]) 3 _
  have hI1:=hI'
  refine sq (sr (lf (tN 1) Y Qv Y Y QY (fO (B.neq (c:=(!(decide (1=2)))) (tv (tN 1) Y) (VEv.int .i64 2) (Qfw (by omega))) (mO (tB (!(decide (1=2)))) Y ?_))))
  refine gn (1=2) (fun fhg54_8=> ?_) fun fhg54_8=> ?_
  ·refine gF (ny fhg54_8) Y Y (OF.move (tv (rd 4 Qb l) Y)) ?_
   refine JZ (tN a) (ny fhg54_8) Y Y Y Y QM Y Y QY ?_
   obtain ⟨x1,hx1⟩:∃x,l[a]? =some x:=⟨_,List.getElem?_eq_getElem (by omega)⟩
   refine gF (ny fhg54_8) Y Y (OF.indexAddrR (row:=(Qb false x1)) (i:=a) (tv (rd 4 Qb l) Y) (tv (tN a) Y) Y (Qs _ hx1) ZQ Qy Ze) (glr (tI x1.Kind) (ny fhg54_8) Y Y Y Y (lb Y) Qv Y QY (gF (ny fhg54_8) Y Y (xne (tv (tI x1.Kind) Y) (VEv.int .i64 1)) (fO (OF.pickT (VEv.tmpB Y (ny fhg54_8)) (tv (tB (!(decide (x1.Kind=1)))) Y)) (nt ?_))))
   refine cn (x1.Kind=1) Y (fun fhc3=> ?_) fun fhc3=> ?_
   ·refine sk ?_
    refine tn (VRun.block (VRun.region (lf (tN a) Y QM Y Y QY (fO (B.sub (n:=(((a:Nat):Int) - 1)) (tv (tN a) Y) (VEv.int .i64 1) (by first | rfl | (rw [Qg (by omega)];omega) | (rw [Qg (by omega)];done))) (fO (OF.fieldAddrO (tv (T.op 2 0) Y) QM) (cO (B.storeO (us:= [(tI (((a:Nat):Int) - 1))]) (ws:= [(tN 1),(tS ByteArray.empty),(tI (((a:Nat):Int) - 1)),(tN 0)]) (tv (T.op 2 2) Y) (tv (tI (((a:Nat):Int) - 1)) Y) nofun Y Y (lb Y) YY Zg (bc Y bn) Y) (VRunO.nil (vinB.n (tn ?_)))))))))
    have ha0:=Qcv h1 hx1 fhc3
    have he9:(((a:Nat):Int) - 1)=(((a - 1):Nat):Int):=by first | rfl | (simp;done) | omega
    refine ⟨(a - 1:Nat),?_,?_,Wk.mk (fun k=>k) ?_ ?_ ?_⟩
    ·first | trivial | omega | (simp;done) | exact ⟨by omega,hI'.2⟩
    ·first | omega | (simp only [];omega) | (show _<_;omega) | (simp;omega)
    ·exact (b2 (b2 (b2 (b2 bn))))
    ·exact (b3 (b3 (bc ⟨(congrArg (fun l_=>some (Obj.cells [(tN 1),(tS ByteArray.empty),(tI l_),(tN 0)])) he9),(lb Y),rfl⟩ bn)))
    ·exact nd Y
   refine VRun.exit (vthn.e (vthn.e (vinB.e (tn (sr (lO (OL.loadOn (us:= [(tN 1),(tS ByteArray.empty),(tN a),(tN 0)]) (tv (T.op 2 0) Y) Y Zs Qy (lb Y) Y) (cO (B.storeW (us:= [(tN 1),(tS ByteArray.empty),(tN a),(tN 0)]) (tv (T.op 1 0) Y) (tv (T.agg [(tN 1),(tS ByteArray.empty),(tN a),(tN 0)]) Y) nofun Y Y Y Ze Qy (bc Y (bc Y (bc Y (bc Y bn))))) (nt (rt ?_)))))))))
   refine vcur.r (D.Step.mk 1 ByteArray.empty ((a:Nat):Int) 0) 0 i15 h15 ?_ (VRes.celln (ws:= [(tN 1),(tS ByteArray.empty),(tN a),(tN 0)]) Y Y Zs Qy (lb Y) Y VRes.nil) (Give.agg (GiveL.cons (Give.int _ _) (GiveL.cons (Give.str _) (GiveL.cons (Give.int _ _) (GiveL.cons (Give.int _ _) GiveL.nil (by decide)) (by decide)) (by decide)) (by decide))) Y Y (by omega) (by decide)
   show (D.Step.mk 1 ByteArray.empty ((a:Nat):Int) 0).Word.size≤10∧(l= []→(D.Step.mk 1 ByteArray.empty ((a:Nat):Int) 0).Kind=1)
   first | exact ⟨ZH hs23.2 hs25,fun _=>rfl⟩ | exact ⟨ZH hs23.2 hs25,fun _=>fhc1⟩ | exact absurd Y fhc1 | exact ⟨Nat.zero_le _,fun h_=>absurd (show l.length=0 from h_▸Y) fhg13_1⟩
  refine QB 7 3 true 54 (nz fhg54_8) Y Y Y (fO (OF.pickF (VEv.tmpB Y (nz fhg54_8)) (VEv.bool false)) (nt (cf Y (VRun.exit (vthn.e (vthn.e (vinB.e (tn (sr (lO (OL.loadOn (us:= [(tN 1),(tS ByteArray.empty),(tN a),(tN 0)]) (tv (T.op 2 0) Y) Y Zs Qy (lb Y) Y) (cO (B.storeW (us:= [(tN 1),(tS ByteArray.empty),(tN a),(tN 0)]) (tv (T.op 1 0) Y) (tv (T.agg [(tN 1),(tS ByteArray.empty),(tN a),(tN 0)]) Y) nofun Y Y Y Ze Qy (bc Y (bc Y (bc Y (bc Y bn))))) ?_)))))))))))
  refine nt (rt ?_)
  refine vcur.r (D.Step.mk 1 ByteArray.empty ((a:Nat):Int) 0) 0 i15 h15 ?_ (VRes.celln (ws:= [(tN 1),(tS ByteArray.empty),(tN a),(tN 0)]) Y Y Zs Qy (lb Y) Y VRes.nil) (Give.agg (GiveL.cons (Give.int _ _) (GiveL.cons (Give.str _) (GiveL.cons (Give.int _ _) (GiveL.cons (Give.int _ _) GiveL.nil (by decide)) (by decide)) (by decide)) (by decide))) Y Y (by omega) (by decide)
  show (D.Step.mk 1 ByteArray.empty ((a:Nat):Int) 0).Word.size≤10∧(l= []→(D.Step.mk 1 ByteArray.empty ((a:Nat):Int) 0).Kind=1)
  first | exact ⟨ZH hs23.2 hs25,fun _=>rfl⟩ | exact ⟨ZH hs23.2 hs25,fun _=>fhc1⟩ | exact absurd Y fhc1 | exact ⟨Nat.zero_le _,fun h_=>absurd (show l.length=0 from h_▸Y) fhg13_1⟩
 have fhc0:e15=false:=hc0
 refine sk (tn (sq (sr (lf (tI (1+e7)) Y Qv Y Y QY (fO (ZU (tv (tI (1+e7)) Y) (VEv.int .i64 1)) (nt ?_))))))
 refine cd ((1+e7)=1) Y (fun fhc1=> ?_) fun fhc1=> ?_
 ·refine sr ?_
  refine mO (T.op 0 0) Y (mO (T.op 0 0) Y ?_)
  refine eC (us:= []) (r':=fun x_:ByteArray=>(tS x_)) (objs:=fun x_:ByteArray=> []) (m:=0) (k:=0) i15 h15 VWant.always (vc (tv (T.op 0 0) Y) vn) Y (by omega) ln (Zh (n+0) code (by first | assumption | omega | (simp only [List.length_cons,List.length_nil];omega))) Y (fun _=>rfl) (fun _=>rfl) fun e23 i23 h23 hs23 hi23=> ?_
  have hs23:3≤e23.size∧e23.size≤9:=hs23
  refine kO (OM.buildSlice (l:= [(tS e23),(tS (⟨#[114]⟩:ByteArray)),(tS (⟨#[115]⟩:ByteArray)),(tS (⟨#[97,116]⟩:ByteArray)),(tS (⟨#[101,97]⟩:ByteArray))]) (VEvp.cons (tv (tS e23) Y) (VEvp.cons (VEv.str (⟨#[114]⟩:ByteArray)) (VEvp.cons (VEv.str (⟨#[115]⟩:ByteArray)) (VEvp.cons (VEv.str (⟨#[97,116]⟩:ByteArray)) (VEvp.cons (VEv.str (⟨#[101,97]⟩:ByteArray)) VEvp.nil))))) Y (by decide) (bc (nofun) (bc (nofun) (bc (nofun) (bc (nofun) (bc (nofun) bn))))) (bc ((bc (Y) bn)) (bc ((bc (Y) bn)) (bc ((bc (Y) bn)) (bc ((bc (Y) bn)) (bc ((bc (Y) bn)) bn))))) (bc (Y) (bc (Y) (bc (Y) (bc (Y) (bc (Y) bn))))) Y1 zo9 (by kernel_rfl) Y (by rw [Yx];decide) Yx (Nat.le_of_ble_eq_true Y)) ?_
  refine eC (us:= [(T.sl false 1 [[(tS e23)],[(tS (⟨#[114]⟩:ByteArray))],[(tS (⟨#[115]⟩:ByteArray))],[(tS (⟨#[97,116]⟩:ByteArray))],[(tS (⟨#[101,97]⟩:ByteArray))]])]) (r':=fun x_:ByteArray=>(tS x_)) (objs:=fun x_:ByteArray=> []) (m:=0) (k:=0) i23 h23 VWant.always (vc (tv (T.op 0 0) Y) (vc (tv (T.os 1 3 0 5) Y) vn)) Y (by omega) (LendL.cons (Lend.os Y Y Y) ln) (Zn (n+1) code [e23,(⟨#[114]⟩:ByteArray),(⟨#[115]⟩:ByteArray),(⟨#[97,116]⟩:ByteArray),(⟨#[101,97]⟩:ByteArray)] (by first | assumption | omega | (simp only [List.length_cons,List.length_nil];omega)) (by first | assumption | omega | (simp only [List.length_cons,List.length_nil];omega)) (by first | assumption | omega | (simp only [List.length_cons,List.length_nil];omega))) Y (fun _=>rfl) (fun _=>rfl) fun e25 i25 h25 hs25 hi25=> ?_
  have hs25:e25∈ [e23,(⟨#[114]⟩:ByteArray),(⟨#[115]⟩:ByteArray),(⟨#[97,116]⟩:ByteArray),(⟨#[101,97]⟩:ByteArray)]:=hs25
  refine fO (OF.fieldAddrO (tv (T.op 2 0) Y) JK) (cO (B.storeO (us:= [(tS e25)]) (ws:= [(tI (1+e7)),(tS e25),(tN 0),(tN 0)]) (tv (T.op 2 1) Y) (tv (tS e25) Y) nofun Y Y (lb Y) if9 Yx (bc Y bn) Y) (nt (sr (lO (OL.loadOn (us:= [(tI (1+e7)),(tS e25),(tN 0),(tN 0)]) (tv (T.op 2 0) Y) Y Zs Qy (lb Y) Y) (cO (B.storeW (us:= [(tI (1+e7)),(tS e25),(tN 0),(tN 0)]) (tv (T.op 1 0) Y) (tv (T.agg [(tI (1+e7)),(tS e25),(tN 0),(tN 0)]) Y) nofun Y Y Y Ze Qy (bc Y (bc Y (bc Y (bc Y bn))))) (nt (rt (tr ?_))))))))
  refine vcur.r (D.Step.mk (1+e7) e25 0 0) 0 i25 h25 ?_ (VRes.celln (ws:= [(tI (1+e7)),(tS e25),(tN 0),(tN 0)]) Y Y Zs Qy (lb Y) Y VRes.nil) (Give.agg (GiveL.cons (Give.int _ _) (GiveL.cons (Give.str _) (GiveL.cons (Give.int _ _) (GiveL.cons (Give.int _ _) GiveL.nil (by decide)) (by decide)) (by decide)) (by decide))) Y Y (by omega) (by decide)
  show (D.Step.mk (1+e7) e25 0 0).Word.size≤10∧(l= []→(D.Step.mk (1+e7) e25 0 0).Kind=1)
  first | exact ⟨ZH hs23.2 hs25,fun _=>rfl⟩ | exact ⟨ZH hs23.2 hs25,fun _=>fhc1⟩ | exact absurd Y fhc1 | exact ⟨Nat.zero_le _,fun h_=>absurd (show l.length=0 from h_▸Y) fhg13_1⟩
 refine sk (tn (sr (mO (rd 4 Qb l) Y (lO (B.lenR (m:=l.length) (tv (rd 4 Qb l) Y) ZQ (List.length_map ..)) (fO (B.sub (n:=(((l.length:Nat):Int) - 1)) (tv (tN l.length) Y) (VEv.int .i64 1) (by first | rfl | (rw [Qg (by omega)];omega) | (rw [Qg (by omega)];done))) (fO (OF.fieldAddrO (tv (T.op 2 0) Y) QM) (cO (B.storeO (us:= [(tI (((l.length:Nat):Int) - 1))]) (ws:= [(tI (1+e7)),(tS ByteArray.empty),(tI (((l.length:Nat):Int) - 1)),(tN 0)]) (tv (T.op 2 2) Y) (tv (tI (((l.length:Nat):Int) - 1)) Y) nofun Y Y (lb Y) YY Zg (bc Y bn) Y) (nt (sq (sr (lf (tI (1+e7)) Y Qv Y Y QY ?_)))))))))))
 refine fO (ZU (tv (tI (1+e7)) Y) (VEv.int .i64 4)) (mO (tB (decide ((1+e7)=4))) Y ?_)
 refine gw ((1+e7)=4) (fun fhg35_10=> ?_) fun fhg35_10=> ?_
 ·refine QB 3 3 false 35 (dy fhg35_10) Y Y Y ?_
  refine fO (OF.pickT (VEv.tmpB Y (dy fhg35_10)) (VEv.bool true)) (nt (ct Y (sr (mO (T.op 0 0) Y (mO (rd 4 Qb l) Y (lO (B.lenR (m:=l.length) (tv (rd 4 Qb l) Y) ZQ (List.length_map ..)) ?_))))))
  refine eC (us:= [(tN l.length)]) (r':=fun x_:Int=>(tI x_)) (objs:=fun x_:Int=> []) (m:=0) (k:=0) i15 h15 VWant.always (vc (tv (T.op 0 0) Y) (vc (tv (tN l.length) Y) vn)) Y (by omega) (QR Y) (Qj (n+2) code ((l.length:Nat):Int) (by first | assumption | omega | (simp only [List.length_cons,List.length_nil];omega))) Y (fun _=>rfl) (fun _=>rfl) fun e43 i43 h43 hs43 hi43=> ?_
  have hs43:(((l.length:Nat):Int)≤0→e43=0)∧(0<((l.length:Nat):Int)→0≤e43∧e43<((l.length:Nat):Int)):=hs43
  refine fO (OF.fieldAddrO (tv (T.op 2 0) Y) QM) (cO (B.storeO (us:= [(tI e43)]) (ws:= [(tI (1+e7)),(tS ByteArray.empty),(tI e43),(tN 0)]) (tv (T.op 2 2) Y) (tv (tI e43) Y) nofun Y Y (lb Y) YY Zg (bc Y bn) Y) (nt (sr (mO (T.op 0 0) Y (mO (rd 4 Qb l) Y (lO (B.lenR (m:=l.length) (tv (rd 4 Qb l) Y) ZQ (List.length_map ..)) ?_))))))
  refine eC (us:= [(tN l.length)]) (r':=fun x_:Int=>(tI x_)) (objs:=fun x_:Int=> []) (m:=0) (k:=0) i43 h43 VWant.always (vc (tv (T.op 0 0) Y) (vc (tv (tN l.length) Y) vn)) Y (by omega) (QR Y) (Qj (n+2) code ((l.length:Nat):Int) (by first | assumption | omega | (simp only [List.length_cons,List.length_nil];omega))) Y (fun _=>rfl) (fun _=>rfl) fun e48 i48 h48 hs48 hi48=> ?_
  have hs48:(((l.length:Nat):Int)≤0→e48=0)∧(0<((l.length:Nat):Int)→0≤e48∧e48<((l.length:Nat):Int)):=hs48
  refine fO (OF.fieldAddrO (tv (T.op 2 0) Y) Zd) (cO (B.storeO (us:= [(tI e48)]) (ws:= [(tI (1+e7)),(tS ByteArray.empty),(tI e43),(tI e48)]) (tv (T.op 2 3) Y) (tv (tI e48) Y) nofun Y Y (lb Y) YY Zg (bc Y bn) Y) (nt (sr (lO (OL.loadOn (us:= [(tI (1+e7)),(tS ByteArray.empty),(tI e43),(tI e48)]) (tv (T.op 2 0) Y) Y Zs Qy (lb Y) Y) (cO (B.storeW (us:= [(tI (1+e7)),(tS ByteArray.empty),(tI e43),(tI e48)]) (tv (T.op 1 0) Y) (tv (T.agg [(tI (1+e7)),(tS ByteArray.empty),(tI e43),(tI e48)]) Y) nofun Y Y Y Ze Qy (bc Y (bc Y (bc Y (bc Y bn))))) (nt (rt (tr ?_))))))))
  refine vcur.r (D.Step.mk (1+e7) ByteArray.empty e43 e48) 0 i48 h48 ?_ (VRes.celln (ws:= [(tI (1+e7)),(tS ByteArray.empty),(tI e43),(tI e48)]) Y Y Zs Qy (lb Y) Y VRes.nil) (Give.agg (GiveL.cons (Give.int _ _) (GiveL.cons (Give.str _) (GiveL.cons (Give.int _ _) (GiveL.cons (Give.int _ _) GiveL.nil (by decide)) (by decide)) (by decide)) (by decide))) Y Y (by omega) (by decide)
  show (D.Step.mk (1+e7) ByteArray.empty e43 e48).Word.size≤10∧(l= []→(D.Step.mk (1+e7) ByteArray.empty e43 e48).Kind=1)
  first | exact ⟨ZH hs23.2 hs25,fun _=>rfl⟩ | exact ⟨ZH hs23.2 hs25,fun _=>fhc1⟩ | exact absurd Y fhc1 | exact ⟨Nat.zero_le _,fun h_=>absurd (show l.length=0 from h_▸Y) fhg13_1⟩
 refine JZ (tI (1+e7)) (dz fhg35_10) Y Y Y Y Qv Y Y QY (gF (dz fhg35_10) Y Y (ZU (tv (tI (1+e7)) Y) (VEv.int .i64 5)) (fO (OF.pickF (VEv.tmpB Y (dz fhg35_10)) (tv (tB (decide ((1+e7)=5))) Y)) (nt ?_)))
 refine cd ((1+e7)=5) Y (fun fhc2=> ?_) fun fhc2=> ?_
 ·refine sr ?_
  refine mO (T.op 0 0) Y (mO (rd 4 Qb l) Y (lO (B.lenR (m:=l.length) (tv (rd 4 Qb l) Y) ZQ (List.length_map ..)) ?_))
  refine eC (us:= [(tN l.length)]) (r':=fun x_:Int=>(tI x_)) (objs:=fun x_:Int=> []) (m:=0) (k:=0) i15 h15 VWant.always (vc (tv (T.op 0 0) Y) (vc (tv (tN l.length) Y) vn)) Y (by omega) (QR Y) (Qj (n+2) code ((l.length:Nat):Int) (by first | assumption | omega | (simp only [List.length_cons,List.length_nil];omega))) Y (fun _=>rfl) (fun _=>rfl) fun e43 i43 h43 hs43 hi43=> ?_
  have hs43:(((l.length:Nat):Int)≤0→e43=0)∧(0<((l.length:Nat):Int)→0≤e43∧e43<((l.length:Nat):Int)):=hs43
  refine fO (OF.fieldAddrO (tv (T.op 2 0) Y) QM) (cO (B.storeO (us:= [(tI e43)]) (ws:= [(tI (1+e7)),(tS ByteArray.empty),(tI e43),(tN 0)]) (tv (T.op 2 2) Y) (tv (tI e43) Y) nofun Y Y (lb Y) YY Zg (bc Y bn) Y) (nt (sr (mO (T.op 0 0) Y (mO (rd 4 Qb l) Y (lO (B.lenR (m:=l.length) (tv (rd 4 Qb l) Y) ZQ (List.length_map ..)) ?_))))))
  refine eC (us:= [(tN l.length)]) (r':=fun x_:Int=>(tI x_)) (objs:=fun x_:Int=> []) (m:=0) (k:=0) i43 h43 VWant.always (vc (tv (T.op 0 0) Y) (vc (tv (tN l.length) Y) vn)) Y (by omega) (QR Y) (Qj (n+2) code ((l.length:Nat):Int) (by first | assumption | omega | (simp only [List.length_cons,List.length_nil];omega))) Y (fun _=>rfl) (fun _=>rfl) fun e48 i48 h48 hs48 hi48=> ?_
  have hs48:(((l.length:Nat):Int)≤0→e48=0)∧(0<((l.length:Nat):Int)→0≤e48∧e48<((l.length:Nat):Int)):=hs48
  refine fO (OF.fieldAddrO (tv (T.op 2 0) Y) Zd) (cO (B.storeO (us:= [(tI e48)]) (ws:= [(tI (1+e7)),(tS ByteArray.empty),(tI e43),(tI e48)]) (tv (T.op 2 3) Y) (tv (tI e48) Y) nofun Y Y (lb Y) YY Zg (bc Y bn) Y) (nt (sr (lO (OL.loadOn (us:= [(tI (1+e7)),(tS ByteArray.empty),(tI e43),(tI e48)]) (tv (T.op 2 0) Y) Y Zs Qy (lb Y) Y) (cO (B.storeW (us:= [(tI (1+e7)),(tS ByteArray.empty),(tI e43),(tI e48)]) (tv (T.op 1 0) Y) (tv (T.agg [(tI (1+e7)),(tS ByteArray.empty),(tI e43),(tI e48)]) Y) nofun Y Y Y Ze Qy (bc Y (bc Y (bc Y (bc Y bn))))) (nt (rt (tr ?_))))))))
  refine vcur.r (D.Step.mk (1+e7) ByteArray.empty e43 e48) 0 i48 h48 ?_ (VRes.celln (ws:= [(tI (1+e7)),(tS ByteArray.empty),(tI e43),(tI e48)]) Y Y Zs Qy (lb Y) Y VRes.nil) (Give.agg (GiveL.cons (Give.int _ _) (GiveL.cons (Give.str _) (GiveL.cons (Give.int _ _) (GiveL.cons (Give.int _ _) GiveL.nil (by decide)) (by decide)) (by decide)) (by decide))) Y Y (by omega) (by decide)
  show (D.Step.mk (1+e7) ByteArray.empty e43 e48).Word.size≤10∧(l= []→(D.Step.mk (1+e7) ByteArray.empty e43 e48).Kind=1)
  first | exact ⟨ZH hs23.2 hs25,fun _=>rfl⟩ | exact ⟨ZH hs23.2 hs25,fun _=>fhc1⟩ | exact absurd Y fhc1 | exact ⟨Nat.zero_le _,fun h_=>absurd (show l.length=0 from h_▸Y) fhg13_1⟩
 refine sk (tn (sq (VRun.block ?_)))
 have he11:(((l.length:Nat):Int) - 1)=(((l.length - 1):Nat):Int):=by first | rfl | (simp;done) | omega
 refine VRun.loop (A:=Nat) (fun s_=> [(0,(T.op 0 0)),(1,(rd 4 Qb l)),(4,(T.op 1 0)),(5,(T.op 2 0))]) (fun s_=>ZR [(0,(Obj.cells [(T.ex pb nb mb (rd 1 Qi code)),(tN i15),(tI h15)])),(1,(Obj.cells [(tN 0),(tS ByteArray.empty),(tN 0),(tN 0)])),(2,(Obj.cells [(tI (1+e7)),(tS ByteArray.empty),(tN s_),(tN 0)]))]) 3 (fun s_=>s_<l.length) (fun s_=>s_) (l.length - 1:Nat) ?_ (Wk.mk (fun k=>k) ?_ ?_ ?_) ?_
 ·first | trivial | (simp;done) | omega | (constructor<;>simp)
 ·exact (b2 (b2 (b2 (b2 bn))))
 ·exact (b3 (b3 (bc ⟨(congrArg (fun l_=>some (Obj.cells [(tI (1+e7)),(tS ByteArray.empty),(tI l_),(tN 0)])) he11),(lb Y),rfl⟩ bn)))
 ·exact nd Y
 rintro a (hI':a<l.length)
 show VRun _ _ _ [(0,(T.op 0 0)),(1,(rd 4 Qb l)),(4,(T.op 1 0)),(5,(T.op 2 0))] (ZR [(0,(Obj.cells [(T.ex pb nb mb (rd 1 Qi code)),(tN i15),(tI h15)])),(1,(Obj.cells [(tN 0),(tS ByteArray.empty),(tN 0),(tN 0)])),(2,(Obj.cells [(tI (1+e7)),(tS ByteArray.empty),(tN a),(tN 0)]))]) 3 _
 have hI1:=hI'
 refine sq (sr (lf (tI (1+e7)) Y Qv Y Y QY (fO (xne (tv (tI (1+e7)) Y) (VEv.int .i64 2)) (mO (tB (!(decide ((1+e7)=2)))) Y ?_))))
 refine gn ((1+e7)=2) (fun fhg54_12=> ?_) fun fhg54_12=> ?_
 ·refine gF (ny fhg54_12) Y Y (OF.move (tv (rd 4 Qb l) Y)) ?_
  refine JZ (tN a) (ny fhg54_12) Y Y Y Y QM Y Y QY ?_
  obtain ⟨x1,hx1⟩:∃x,l[a]? =some x:=⟨_,List.getElem?_eq_getElem (by omega)⟩
  refine gF (ny fhg54_12) Y Y (OF.indexAddrR (row:=(Qb false x1)) (i:=a) (tv (rd 4 Qb l) Y) (tv (tN a) Y) Y (Qs _ hx1) ZQ Qy Ze) (glr (tI x1.Kind) (ny fhg54_12) Y Y Y Y (lb Y) Qv Y QY (gF (ny fhg54_12) Y Y (xne (tv (tI x1.Kind) Y) (VEv.int .i64 1)) (fO (OF.pickT (VEv.tmpB Y (ny fhg54_12)) (tv (tB (!(decide (x1.Kind=1)))) Y)) (nt ?_))))
  refine cn (x1.Kind=1) Y (fun fhc3=> ?_) fun fhc3=> ?_
  ·refine sk ?_
   refine tn (VRun.block (VRun.region (lf (tN a) Y QM Y Y QY (fO (B.sub (n:=(((a:Nat):Int) - 1)) (tv (tN a) Y) (VEv.int .i64 1) (by first | rfl | (rw [Qg (by omega)];omega) | (rw [Qg (by omega)];done))) (fO (OF.fieldAddrO (tv (T.op 2 0) Y) QM) (cO (B.storeO (us:= [(tI (((a:Nat):Int) - 1))]) (ws:= [(tI (1+e7)),(tS ByteArray.empty),(tI (((a:Nat):Int) - 1)),(tN 0)]) (tv (T.op 2 2) Y) (tv (tI (((a:Nat):Int) - 1)) Y) nofun Y Y (lb Y) YY Zg (bc Y bn) Y) (VRunO.nil (vinB.n (tn ?_)))))))))
   have ha0:=Qcv h1 hx1 fhc3
   have he13:(((a:Nat):Int) - 1)=(((a - 1):Nat):Int):=by first | rfl | (simp;done) | omega
   refine ⟨(a - 1:Nat),?_,?_,Wk.mk (fun k=>k) ?_ ?_ ?_⟩
   ·first | trivial | omega | (simp;done) | exact ⟨by omega,hI'.2⟩
   ·first | omega | (simp only [];omega) | (show _<_;omega) | (simp;omega)
   ·exact (b2 (b2 (b2 (b2 bn))))
   ·exact (b3 (b3 (bc ⟨(congrArg (fun l_=>some (Obj.cells [(tI (1+e7)),(tS ByteArray.empty),(tI l_),(tN 0)])) he13),(lb Y),rfl⟩ bn)))
   ·exact nd Y
  refine VRun.exit (vthn.e (vthn.e (vinB.e (tn (sr (lO (OL.loadOn (us:= [(tI (1+e7)),(tS ByteArray.empty),(tN a),(tN 0)]) (tv (T.op 2 0) Y) Y Zs Qy (lb Y) Y) (cO (B.storeW (us:= [(tI (1+e7)),(tS ByteArray.empty),(tN a),(tN 0)]) (tv (T.op 1 0) Y) (tv (T.agg [(tI (1+e7)),(tS ByteArray.empty),(tN a),(tN 0)]) Y) nofun Y Y Y Ze Qy (bc Y (bc Y (bc Y (bc Y bn))))) (nt (rt ?_)))))))))
  refine vcur.r (D.Step.mk (1+e7) ByteArray.empty ((a:Nat):Int) 0) 0 i15 h15 ?_ (VRes.celln (ws:= [(tI (1+e7)),(tS ByteArray.empty),(tN a),(tN 0)]) Y Y Zs Qy (lb Y) Y VRes.nil) (Give.agg (GiveL.cons (Give.int _ _) (GiveL.cons (Give.str _) (GiveL.cons (Give.int _ _) (GiveL.cons (Give.int _ _) GiveL.nil (by decide)) (by decide)) (by decide)) (by decide))) Y Y (by omega) (by decide)
  show (D.Step.mk (1+e7) ByteArray.empty ((a:Nat):Int) 0).Word.size≤10∧(l= []→(D.Step.mk (1+e7) ByteArray.empty ((a:Nat):Int) 0).Kind=1)
  first | exact ⟨ZH hs23.2 hs25,fun _=>rfl⟩ | exact ⟨ZH hs23.2 hs25,fun _=>fhc1⟩ | exact absurd Y fhc1 | exact ⟨Nat.zero_le _,fun h_=>absurd (show l.length=0 from h_▸Y) fhg13_1⟩
 refine QB 7 3 true 54 (nz fhg54_12) Y Y Y (fO (OF.pickF (VEv.tmpB Y (nz fhg54_12)) (VEv.bool false)) (nt (cf Y (VRun.exit (vthn.e (vthn.e (vinB.e (tn (sr (lO (OL.loadOn (us:= [(tI (1+e7)),(tS ByteArray.empty),(tN a),(tN 0)]) (tv (T.op 2 0) Y) Y Zs Qy (lb Y) Y) (cO (B.storeW (us:= [(tI (1+e7)),(tS ByteArray.empty),(tN a),(tN 0)]) (tv (T.op 1 0) Y) (tv (T.agg [(tI (1+e7)),(tS ByteArray.empty),(tN a),(tN 0)]) Y) nofun Y Y Y Ze Qy (bc Y (bc Y (bc Y (bc Y bn))))) ?_)))))))))))
 refine nt (rt ?_)
 refine vcur.r (D.Step.mk (1+e7) ByteArray.empty ((a:Nat):Int) 0) 0 i15 h15 ?_ (VRes.celln (ws:= [(tI (1+e7)),(tS ByteArray.empty),(tN a),(tN 0)]) Y Y Zs Qy (lb Y) Y VRes.nil) (Give.agg (GiveL.cons (Give.int _ _) (GiveL.cons (Give.str _) (GiveL.cons (Give.int _ _) (GiveL.cons (Give.int _ _) GiveL.nil (by decide)) (by decide)) (by decide)) (by decide))) Y Y (by omega) (by decide)
 show (D.Step.mk (1+e7) ByteArray.empty ((a:Nat):Int) 0).Word.size≤10∧(l= []→(D.Step.mk (1+e7) ByteArray.empty ((a:Nat):Int) 0).Kind=1)
 first | exact ⟨ZH hs23.2 hs25,fun _=>rfl⟩ | exact ⟨ZH hs23.2 hs25,fun _=>fhc1⟩ | exact absurd Y fhc1 | exact ⟨Nat.zero_le _,fun h_=>absurd (show l.length=0 from h_▸Y) fhg13_1⟩
theorem QbR (n:Nat) (code:List Int) (hcl:code.length≤mx):CurE (Qm Tryd.prog (n+6)) 80 (rd 1 Qi code) code.length [] (fun x:List D.Step=>gS 5 x∧1≤x.length) (fun x:List D.Step=>(T.sl true 4 (x.map (Qb true)))):=by
 refine CurE.intro (rs:= [ResultVar.tmp 2]) Tryd.func80 Y Y Y (by kernel_rfl) (fun pb nb mb ci ch hci=> ?_)
 obtain ⟨hlim,hmx,hmax⟩:=QG
 show VRun _ _ _ [(0,(T.op 0 0))] [(0,some (Obj.cells [(T.ex pb nb mb (rd 1 Qi code)),(tN ci),(tI ch)]))] 1 _
 refine sr (fO (OF.assign VEv.nils) (nt (sr (kO (OM.slice0 ZQ Yb (by kernel_rfl) Y (by rw [Qy];decide) Qy) (aO (T.os 4 1 0 0) Y (nt (sq (sr (mO (T.op 0 0) Y ?_)))))))))
 refine eC (us:= [(tN 5)]) (r':=fun x_:Int=>(tI x_)) (objs:=fun x_:Int=> []) (m:=0) (k:=0) ci ch VWant.always (vc (tv (T.op 0 0) Y) (vc (VEv.int .i64 5) vn)) Y (by omega) (QR Y) (Qj (n+3) code (5:Int) (by first | assumption | omega | (simp only [List.length_cons,List.length_nil];omega))) Y (fun _=>rfl) (fun _=>rfl) fun e7 i7 h7 hs7 hi7=> ?_
 have hs7:((5:Int)≤0→e7=0)∧(0<(5:Int)→0≤e7∧e7<(5:Int)):=hs7
 refine fO (B.add (n:=(1+e7)) (VEv.int .i64 1) (tv (tI e7) Y) (by first | rfl | (rw [Qg (by omega)];omega) | (rw [Qg (by omega)];done))) (aO (tI (1+e7)) Y (nt (VRun.block ?_)))
 have he1: []=([].map (Qb true)):=by first | rfl | (simp;done) | omega
 refine VRun.loop (A:=Nat×(List D.Step)×Nat×Int) (fun s_=> [(0,(T.op 0 0)),(2,T.nils),(3,(T.os 4 1 0 ((s_.2.1.map (Qb true)).length))),(4,(tN s_.1))]) (fun s_=>ZR [(0,(Obj.cells [(T.ex pb nb mb (rd 1 Qi code)),(tN s_.2.2.1),(tI s_.2.2.2)])),(1,(Obj.rows 4 (s_.2.1.map (Qb true))))]) 2 (fun s_=>s_.2.2.1≤code.length∧((s_.1≤5∧s_.2.1.length+s_.1=1+Int.toNat e7)∧gS (5 - s_.1) s_.2.1∧w1S s_.2.1)) (fun s_=>s_.1) ((1+Int.toNat e7,[],i7,h7):Nat×(List D.Step)×Nat×Int) ?_ (Wk.mk (fun k=>k) ?_ ?_ ?_) ?_
 ·refine ⟨by omega,?_⟩
  have h2:=hs7.2 (by decide)
  exact ⟨⟨by omega,by simp only [List.length_nil];omega⟩,⟨by simp only [List.length_nil];omega,fun y hy=>nomatch hy⟩,fun y hy=>nomatch hy⟩
 ·exact (b2 (b2 (bc ⟨(congrArg (fun n_=>T.os 4 1 0 n_) (show 0=([].map (Qb true)).length from (by first | rfl | (simp only [List.length_map];omega) | (simp only [List.length_map,List.length_set,List.length_append,List.length_take,List.length_replicate,List.length_cons,List.length_nil];omega)))),rfl⟩ (bc ⟨(congrArg (T.int .i64) (show (1+e7)=(((1+Int.toNat e7):Nat):Int) from (by first | rfl | omega | (simp;done) | (push_cast;omega)))),rfl⟩ bn))))
 ·exact (b3 (bc ⟨(congrArg (fun l_=>some (Obj.rows 4 l_)) he1),(lb Y),rfl⟩ bn))
 ·exact nd Y
 rintro ⟨k,l,ci0,ch0⟩ (hI':ci0≤code.length∧((k≤5∧l.length+k=1+Int.toNat e7)∧gS (5 - k) l∧w1S l))
 show VRun _ _ _ [(0,(T.op 0 0)),(2,T.nils),(3,(T.os 4 1 0 ((l.map (Qb true)).length))),(4,(tN k))] (ZR [(0,(Obj.cells [(T.ex pb nb mb (rd 1 Qi code)),(tN ci0),(tI ch0)])),(1,(Obj.rows 4 (l.map (Qb true))))]) 2 _
 have hci0:=hI'.1
 have hI':=hI'.2
 have hI1:=hI'.1
 have hI2:=hI'.2.1
 have hI3:=hI'.2.2
 have hz1:=Qg9 hI2
 have hI4:gS 9 l:=Ju hI2 (by omega)
 refine sq (sr (mO (tN k) Y (fO (B.gtr (c:=(decide (0<k))) (tv (tN k) Y) (VEv.int .i64 0) (Zp (by omega))) (nt ?_))))
 refine cd (0<k) Y (fun fhc0=> ?_) fun fhc0=> ?_
 ·refine sk ?_
  refine tn (sq (VRun.block (VRun.region (mO (T.os 4 1 0 ((l.map (Qb true)).length)) Y (mO (T.op 0 0) Y (mO (T.os 4 1 0 ((l.map (Qb true)).length)) Y ?_))))))
  refine eC (us:= [(rd 4 Qb l)]) (r':=fun x_:D.Step=>(T.agg (Qb true x_))) (objs:=fun x_:D.Step=> []) (m:=0) (k:=0) ci0 ch0 VWant.always (vc (tv (T.op 0 0) Y) (vc (tv (T.os 4 1 0 ((l.map (Qb true)).length)) Y) vn)) Y (by omega) (LendL.cons (Lend.os Y Y (okeStep.fzMap _ _)) ln) (QbS (n+0) code l (by first | assumption | omega | (simp only [List.length_cons,List.length_nil];omega)) (by first | assumption | omega | (simp only [List.length_cons,List.length_nil];omega)) (by first | assumption | omega | (simp only [List.length_cons,List.length_nil];omega))) Y (fun _=>rfl) (fun _=>rfl) fun e16 i16 h16 hs16 hi16=> ?_
  have hs16:e16.Word.size≤10∧(l= []→e16.Kind=1):=hs16
  refine kO (OM.buildSlice (l:= [(T.agg (Qb true e16))]) (VEvp.cons (tv (T.agg (Qb true e16)) Y) VEvp.nil) Y (by decide) (bc (nofun) bn) (bc ((bc (Y) (bc (Y) (bc (Y) (bc (Y) bn))))) bn) (bc (Y) bn) ZQ Yb (by kernel_rfl) Y (by rw [Qy];decide) Qy (Nat.le_of_ble_eq_true Y)) (cO (B.append (rows:=(l.map (Qb true))) (rows2:= [[(tI e16.Kind),(tS e16.Word),(tI e16.A),(tI e16.B)]]) (rows3:=((l++ [e16]).map (Qb true))) (VDst.own (tv (T.os 4 1 0 ((l.map (Qb true)).length)) Y) Y Y) (VSrc.own (tv (T.os 4 2 0 1) Y) Y Y ZQ (bc (bc Y (bc Y (bc Y (bc Y bn)))) bn)) (by decide) ZQ Qy (by decide) Yb Y (of_decide_eq_true (by kernel_rfl)) (by first | omega | (simp only [List.length_map];omega) | (simp only [List.length_map,List.length_append,List.length_cons,List.length_nil,List.length_replicate,List.length_set,List.length_drop,List.length_take,Zb] at *;omega)) ((List.map_append (f:=Qb true) (l₁:=l) (l₂:= [e16])).symm)) (aO (T.os 4 3 0 (((l++ [e16]).map (Qb true)).length)) Y (VRunO.nil (vinB.n (tn (VRun.region (mO (tN k) Y (fO (B.sub (n:=(((k:Nat):Int) - 1)) (tv (tN k) Y) (VEv.int .i64 1) (by first | rfl | (rw [Qg (by omega)];omega) | (rw [Qg (by omega)];done))) (aO (tI (((k:Nat):Int) - 1)) Y (VRunO.nil (tn ?_)))))))))))
  refine ⟨((k - 1,(l++ [e16]),i16,h16):Nat×(List D.Step)×Nat×Int),?_,?_,Wk.mk (fun k=>if k=1 then 3 else k) ?_ ?_ ?_⟩
  ·refine ⟨by omega,?_⟩
   exact ⟨⟨by omega,by simp only [List.length_append,List.length_singleton];omega⟩,Ju (QfW hI2 hs16.1) (by omega),Qfd hI3 hs16.2⟩
  ·first | omega | (simp only [];omega) | (show _<_;omega) | (simp;omega)
  ·exact (b2 (b2 (b2 (bc ⟨(congrArg (T.int .i64) (show (((k:Nat):Int) - 1)=(((k - 1):Nat):Int) from (by first | rfl | omega | (simp;done) | (push_cast;omega)))),rfl⟩ bn))))
  ·exact (b3 (b3 bn))
  ·exact nd Y
 refine VRun.exit (vthn.e (vthn.e (vinB.e (tn (sr (mO (T.os 4 1 0 ((l.map (Qb true)).length)) Y (aO (T.os 4 1 0 ((l.map (Qb true)).length)) Y (nt (rt ?_)))))))))
 refine vcur.r l 0 ci0 ch0 ?_ (VRes.tmp (t:=(T.os 4 1 0 ((l.map (Qb true)).length))) Y VRes.nil) (Give.os Y Y (okeStep.cleanMap _)) Y Y (by omega) (by decide)
 show gS 5 l∧1≤l.length
 exact ⟨Ju hI2 (by omega),by omega⟩
theorem Qca (n:Nat) (code:List Int) (hcl:code.length≤mx):CurE (Qm Tryd.prog (n+7)) 62 (rd 1 Qi code) code.length [] (fun x:List D.Step=>gS 5 x) (fun x:List D.Step=>(T.sl true 4 (x.map (Qb true)))):=by
 refine CurE.intro (rs:= [ResultVar.tmp 2]) Tryd.func62 Y Y Y (by kernel_rfl) (fun pb nb mb ci ch hci=> ?_)
 obtain ⟨hlim,hmx,hmax⟩:=QG
 show VRun _ _ _ [(0,(T.op 0 0))] [(0,some (Obj.cells [(T.ex pb nb mb (rd 1 Qi code)),(tN ci),(tI ch)]))] 1 _
 refine sr (fO (OF.assign VEv.nils) (nt (sr (mO (T.op 0 0) Y ?_))))
 refine eC (us:= []) (r':=fun x_:List D.Step=>(T.os 4 1 0 ((x_.map (Qb true)).length))) (objs:=fun x_:List D.Step=> [(Obj.rows 4 (x_.map (Qb true)))]) (m:=1) (k:=0) ci ch VWant.always (vc (tv (T.op 0 0) Y) vn) Y (by omega) ln (QbR (n+0) code (by first | assumption | omega | (simp only [List.length_cons,List.length_nil];omega))) Y (fun _=>rfl) (fun _=>rfl) fun e6 i6 h6 hs6 hi6=> ?_
 have hs6:gS 5 e6∧1≤e6.length:=hs6
 refine aO (T.os 4 1 0 ((e6.map (Qb true)).length)) Y (nt (sr (mO (T.op 0 0) Y (mO (T.os 4 1 0 ((e6.map (Qb true)).length)) Y (lO (B.lenO (m:=e6.length) (tv (T.os 4 1 0 ((e6.map (Qb true)).length)) Y) ZQ (List.length_map ..)) ?_)))))
 refine eC (us:= [(tN e6.length)]) (r':=fun x_:Int=>(tI x_)) (objs:=fun x_:Int=> []) (m:=0) (k:=0) i6 h6 VWant.always (vc (tv (T.op 0 0) Y) (vc (tv (tN e6.length) Y) vn)) Y (by omega) (QR Y) (Qj (n+4) code ((e6.length:Nat):Int) (by first | assumption | omega | (simp only [List.length_cons,List.length_nil];omega))) Y (fun _=>rfl) (fun _=>rfl) fun e10 i10 h10 hs10 hi10=> ?_
 have hs10:(((e6.length:Nat):Int)≤0→e10=0)∧(0<((e6.length:Nat):Int)→0≤e10∧e10<((e6.length:Nat):Int)):=hs10
 refine aO (tI e10) Y (nt (sq ?_))
 have hl6:=hs6.2
 have hp10:=hs10.2 (by omega)
 refine sr (mO (T.op 0 0) Y ?_)
 refine eC (us:= [(tN 12)]) (r':=fun x_:Int=>(tI x_)) (objs:=fun x_:Int=> []) (m:=0) (k:=0) i10 h10 VWant.always (vc (tv (T.op 0 0) Y) (vc (VEv.int .i64 12) vn)) Y (by omega) (QR Y) (Qj (n+4) code (12:Int) (by first | assumption | omega | (simp only [List.length_cons,List.length_nil];omega))) Y (fun _=>rfl) (fun _=>rfl) fun e12 i12 h12 hs12 hi12=> ?_
 have hs12:((12:Int)≤0→e12=0)∧(0<(12:Int)→0≤e12∧e12<(12:Int)):=hs12
 refine nt (VRun.block (sr (fO (ZU (tv (tI e12) Y) (VEv.int .i64 0)) (aO (tB (decide (e12=0))) Y (nt ?_)))))
 refine cd (e12=0) Y (fun fhc0=> ?_) fun fhc0=> ?_
 ·refine VRun.region ?_
  refine mO (T.os 4 1 0 ((e6.map (Qb true)).length)) Y (mO (tI e10) Y (mO (T.op 0 0) Y (kO (OM.buildSlice (l:= [(tN 0),(tN 10),(tN 3),(tN 5)]) (VEvp.cons (VEv.int .i64 0) (VEvp.cons (VEv.int .i64 10) (VEvp.cons (VEv.int .i64 3) (VEvp.cons (VEv.int .i64 5) VEvp.nil)))) Y (by decide) (bc (nofun) (bc (nofun) (bc (nofun) (bc (nofun) bn)))) (bc ((bc (Y) bn)) (bc ((bc (Y) bn)) (bc ((bc (Y) bn)) (bc ((bc (Y) bn)) bn)))) (bc (Y) (bc (Y) (bc (Y) (bc (Y) bn)))) Yn zo3 (by kernel_rfl) Y (by rw [Zg];decide) Zg (Nat.le_of_ble_eq_true Y)) ?_)))
  refine eC (us:= [(T.sl false 1 [[(tN 0)],[(tN 10)],[(tN 3)],[(tN 5)]])]) (r':=fun x_:Int=>(tI x_)) (objs:=fun x_:Int=> []) (m:=0) (k:=0) i12 h12 VWant.always (vc (tv (T.op 0 0) Y) (vc (tv (T.os 1 2 0 4) Y) vn)) Y (by omega) (LendL.cons (Lend.os Y Y Y) ln) (Qar (n+3) code [0,10,3,5] (by first | assumption | omega | (simp only [List.length_cons,List.length_nil];omega)) (by first | assumption | omega | (simp only [List.length_cons,List.length_nil];omega)) (by first | assumption | omega | (simp only [List.length_cons,List.length_nil];omega))) Y (fun _=>rfl) (fun _=>rfl) fun e19 i19 h19 hs19 hi19=> ?_
  have hs19:e19∈ [0,10,3,5]:=hs19
  obtain ⟨x1,hx1⟩:∃x,e6[(Int.toNat e10)]? =some x:=⟨_,List.getElem?_eq_getElem (by omega)⟩
  refine fO (B.indexAddrO (i:=(Int.toNat e10)) (tv (T.os 4 1 0 ((e6.map (Qb true)).length)) Y) (tv (tI e10) Y) (by omega) (by first | omega | (simp only [List.length_map];omega) | (simp only [List.length_map,List.length_append,List.length_cons,List.length_nil,List.length_replicate,List.length_set,List.length_drop,List.length_take,Zb] at *;omega)) ZQ Qy Ze) (fO (OF.fieldAddrP (tv (T.orp 4 1 (Int.toNat e10) 0) Y) Qv) (cO (B.storeP (us:= [(tI e19)]) (rows':=((e6.set (Int.toNat e10) (D.Step.mk e19 x1.Word x1.A x1.B)).map (Qb true))) (row:=(Qb true x1)) (tv (T.orp 4 1 (Int.toNat e10) 0) Y) (tv (tI e19) Y) nofun Y (Qs _ hx1) Y (lb Y) YY Zg (bc Y bn) (by intro r hr t ht;obtain ⟨x,_,rfl⟩:=List.mem_map.1 hr;rw [QcE] at ht;exact ZS (okeStep.pl _ t ht)) (YC Y)) (VRunO.nil (vinB.n (tn (sr (mO (T.os 4 1 0 ((e6.map (Qb true)).length)) Y (aO (T.os 4 1 0 ((e6.map (Qb true)).length)) Y (nt (rt ?_))))))))))
  refine vcur.r (e6.set (Int.toNat e10) (D.Step.mk e19 x1.Word x1.A x1.B)) 0 i19 h19 ?_ (VRes.tmp (t:=(T.os 4 1 0 ((e6.map (Qb true)).length))) Y VRes.nil) (Give.os Y (by simp only [List.length_map,List.length_set]) (okeStep.cleanMap _)) Y Y (by omega) (by decide)
  show gS 5 (e6.set (Int.toNat e10) (D.Step.mk e19 x1.Word x1.A x1.B))
  first | exact hs6.1 | (refine Yg hs6.1 ?_;exact hs6.1.2 x1 (List.mem_of_getElem? hx1)) | (refine Yg hs6.1 ?_;exact hs27) | exact ⟨Nat.zero_le _,fun y hy=>nomatch hy⟩
 refine sr (fO (ZU (tv (tI e12) Y) (VEv.int .i64 1)) (aO (tB (decide (e12=1))) Y (nt ?_)))
 refine cd (e12=1) Y (fun fhc1=> ?_) fun fhc1=> ?_
 ·refine VRun.region ?_
  refine mO (T.os 4 1 0 ((e6.map (Qb true)).length)) Y (mO (tI e10) Y (mO (T.op 0 0) Y ?_))
  refine eC (us:= []) (r':=fun x_:ByteArray=>(tS x_)) (objs:=fun x_:ByteArray=> []) (m:=0) (k:=0) i12 h12 VWant.always (vc (tv (T.op 0 0) Y) vn) Y (by omega) ln (Jk (n+1) code (by first | assumption | omega | (simp only [List.length_cons,List.length_nil];omega))) Y (fun _=>rfl) (fun _=>rfl) fun e27 i27 h27 hs27 hi27=> ?_
  have hs27:e27.size≤10:=hs27
  obtain ⟨x1,hx1⟩:∃x,e6[(Int.toNat e10)]? =some x:=⟨_,List.getElem?_eq_getElem (by omega)⟩
  refine fO (B.indexAddrO (i:=(Int.toNat e10)) (tv (T.os 4 1 0 ((e6.map (Qb true)).length)) Y) (tv (tI e10) Y) (by omega) (by first | omega | (simp only [List.length_map];omega) | (simp only [List.length_map,List.length_append,List.length_cons,List.length_nil,List.length_replicate,List.length_set,List.length_drop,List.length_take,Zb] at *;omega)) ZQ Qy Ze) (fO (OF.fieldAddrP (tv (T.orp 4 1 (Int.toNat e10) 0) Y) JK) (cO (B.storeP (us:= [(tS e27)]) (rows':=((e6.set (Int.toNat e10) (D.Step.mk x1.Kind e27 x1.A x1.B)).map (Qb true))) (row:=(Qb true x1)) (tv (T.orp 4 1 (Int.toNat e10) 1) Y) (tv (tS e27) Y) nofun Y (Qs _ hx1) Y (lb Y) if9 Yx (bc Y bn) (by intro r hr t ht;obtain ⟨x,_,rfl⟩:=List.mem_map.1 hr;rw [QcE] at ht;exact ZS (okeStep.pl _ t ht)) (YC Y)) (VRunO.nil (vinB.n (tn (sr (mO (T.os 4 1 0 ((e6.map (Qb true)).length)) Y (aO (T.os 4 1 0 ((e6.map (Qb true)).length)) Y (nt (rt ?_))))))))))
  refine vcur.r (e6.set (Int.toNat e10) (D.Step.mk x1.Kind e27 x1.A x1.B)) 0 i27 h27 ?_ (VRes.tmp (t:=(T.os 4 1 0 ((e6.map (Qb true)).length))) Y VRes.nil) (Give.os Y (by simp only [List.length_map,List.length_set]) (okeStep.cleanMap _)) Y Y (by omega) (by decide)
  show gS 5 (e6.set (Int.toNat e10) (D.Step.mk x1.Kind e27 x1.A x1.B))
  first | exact hs6.1 | (refine Yg hs6.1 ?_;exact hs6.1.2 x1 (List.mem_of_getElem? hx1)) | (refine Yg hs6.1 ?_;exact hs27) | exact ⟨Nat.zero_le _,fun y hy=>nomatch hy⟩
 refine sr (fO (ZU (tv (tI e12) Y) (VEv.int .i64 2)) (aO (tB (decide (e12=2))) Y (nt ?_)))
 refine cd (e12=2) Y (fun fhc2=> ?_) fun fhc2=> ?_
 ·refine VRun.region ?_
  refine mO (T.os 4 1 0 ((e6.map (Qb true)).length)) Y (mO (tI e10) Y (mO (T.op 0 0) Y ?_))
  refine eC (us:= []) (r':=fun x_:Int=>(tI x_)) (objs:=fun x_:Int=> []) (m:=0) (k:=0) i12 h12 VWant.always (vc (tv (T.op 0 0) Y) vn) Y (by omega) ln (Jl (n+2) code (by first | assumption | omega | (simp only [List.length_cons,List.length_nil];omega))) Y (fun _=>rfl) (fun _=>rfl) fun e35 i35 h35 hs35 hi35=> ?_
  have hs35:True:=hs35
  obtain ⟨x1,hx1⟩:∃x,e6[(Int.toNat e10)]? =some x:=⟨_,List.getElem?_eq_getElem (by omega)⟩
  refine fO (B.indexAddrO (i:=(Int.toNat e10)) (tv (T.os 4 1 0 ((e6.map (Qb true)).length)) Y) (tv (tI e10) Y) (by omega) (by first | omega | (simp only [List.length_map];omega) | (simp only [List.length_map,List.length_append,List.length_cons,List.length_nil,List.length_replicate,List.length_set,List.length_drop,List.length_take,Zb] at *;omega)) ZQ Qy Ze) (fO (OF.fieldAddrP (tv (T.orp 4 1 (Int.toNat e10) 0) Y) QM) (cO (B.storeP (us:= [(tI e35)]) (rows':=((e6.set (Int.toNat e10) (D.Step.mk x1.Kind x1.Word e35 x1.B)).map (Qb true))) (row:=(Qb true x1)) (tv (T.orp 4 1 (Int.toNat e10) 2) Y) (tv (tI e35) Y) nofun Y (Qs _ hx1) Y (lb Y) YY Zg (bc Y bn) (by intro r hr t ht;obtain ⟨x,_,rfl⟩:=List.mem_map.1 hr;rw [QcE] at ht;exact ZS (okeStep.pl _ t ht)) (YC Y)) (VRunO.nil (vinB.n (tn (sr (mO (T.os 4 1 0 ((e6.map (Qb true)).length)) Y (aO (T.os 4 1 0 ((e6.map (Qb true)).length)) Y (nt (rt ?_))))))))))
  refine vcur.r (e6.set (Int.toNat e10) (D.Step.mk x1.Kind x1.Word e35 x1.B)) 0 i35 h35 ?_ (VRes.tmp (t:=(T.os 4 1 0 ((e6.map (Qb true)).length))) Y VRes.nil) (Give.os Y (by simp only [List.length_map,List.length_set]) (okeStep.cleanMap _)) Y Y (by omega) (by decide)
  show gS 5 (e6.set (Int.toNat e10) (D.Step.mk x1.Kind x1.Word e35 x1.B))
  first | exact hs6.1 | (refine Yg hs6.1 ?_;exact hs6.1.2 x1 (List.mem_of_getElem? hx1)) | (refine Yg hs6.1 ?_;exact hs27) | exact ⟨Nat.zero_le _,fun y hy=>nomatch hy⟩
 refine sr (fO (ZU (tv (tI e12) Y) (VEv.int .i64 3)) (aO (tB (decide (e12=3))) Y (nt ?_)))
 refine cd (e12=3) Y (fun fhc3=> ?_) fun fhc3=> ?_
 ·refine VRun.region ?_
  refine mO (T.os 4 1 0 ((e6.map (Qb true)).length)) Y (mO (tI e10) Y (mO (T.op 0 0) Y ?_))
  refine eC (us:= []) (r':=fun x_:Int=>(tI x_)) (objs:=fun x_:Int=> []) (m:=0) (k:=0) i12 h12 VWant.always (vc (tv (T.op 0 0) Y) vn) Y (by omega) ln (Jl (n+2) code (by first | assumption | omega | (simp only [List.length_cons,List.length_nil];omega))) Y (fun _=>rfl) (fun _=>rfl) fun e43 i43 h43 hs43 hi43=> ?_
  have hs43:True:=hs43
  obtain ⟨x1,hx1⟩:∃x,e6[(Int.toNat e10)]? =some x:=⟨_,List.getElem?_eq_getElem (by omega)⟩
  refine fO (B.indexAddrO (i:=(Int.toNat e10)) (tv (T.os 4 1 0 ((e6.map (Qb true)).length)) Y) (tv (tI e10) Y) (by omega) (by first | omega | (simp only [List.length_map];omega) | (simp only [List.length_map,List.length_append,List.length_cons,List.length_nil,List.length_replicate,List.length_set,List.length_drop,List.length_take,Zb] at *;omega)) ZQ Qy Ze) (fO (OF.fieldAddrP (tv (T.orp 4 1 (Int.toNat e10) 0) Y) Zd) (cO (B.storeP (us:= [(tI e43)]) (rows':=((e6.set (Int.toNat e10) (D.Step.mk x1.Kind x1.Word x1.A e43)).map (Qb true))) (row:=(Qb true x1)) (tv (T.orp 4 1 (Int.toNat e10) 3) Y) (tv (tI e43) Y) nofun Y (Qs _ hx1) Y (lb Y) YY Zg (bc Y bn) (by intro r hr t ht;obtain ⟨x,_,rfl⟩:=List.mem_map.1 hr;rw [QcE] at ht;exact ZS (okeStep.pl _ t ht)) (YC Y)) (VRunO.nil (vinB.n (tn (sr (mO (T.os 4 1 0 ((e6.map (Qb true)).length)) Y (aO (T.os 4 1 0 ((e6.map (Qb true)).length)) Y (nt (rt ?_))))))))))
  refine vcur.r (e6.set (Int.toNat e10) (D.Step.mk x1.Kind x1.Word x1.A e43)) 0 i43 h43 ?_ (VRes.tmp (t:=(T.os 4 1 0 ((e6.map (Qb true)).length))) Y VRes.nil) (Give.os Y (by simp only [List.length_map,List.length_set]) (okeStep.cleanMap _)) Y Y (by omega) (by decide)
  show gS 5 (e6.set (Int.toNat e10) (D.Step.mk x1.Kind x1.Word x1.A e43))
  first | exact hs6.1 | (refine Yg hs6.1 ?_;exact hs6.1.2 x1 (List.mem_of_getElem? hx1)) | (refine Yg hs6.1 ?_;exact hs27) | exact ⟨Nat.zero_le _,fun y hy=>nomatch hy⟩
 refine sr (fO (ZU (tv (tI e12) Y) (VEv.int .i64 4)) (aO (tB (decide (e12=4))) Y (nt ?_)))
 refine cd (e12=4) Y (fun fhc4=> ?_) fun fhc4=> ?_
 ·refine VRun.region ?_
  refine fO (OF.assign VEv.nils) (VRunO.nil (vinB.n (tn (sr (mO T.nils Y (aO T.nils Y (nt (rt ?_))))))))
  refine vcur.r [] 0 i12 h12 ?_ (VRes.tmp (t:=T.nils) Y VRes.nil) (Give.nils 4) Y Y (by omega) (by decide)
  show gS 5 []
  first | exact hs6.1 | (refine Yg hs6.1 ?_;exact hs6.1.2 x1 (List.mem_of_getElem? hx1)) | (refine Yg hs6.1 ?_;exact hs27) | exact ⟨Nat.zero_le _,fun y hy=>nomatch hy⟩
 refine sk (vinB.n (tn (sr (mO (T.os 4 1 0 ((e6.map (Qb true)).length)) Y (aO (T.os 4 1 0 ((e6.map (Qb true)).length)) Y (nt (rt ?_)))))))
 refine vcur.r e6 0 i12 h12 ?_ (VRes.tmp (t:=(T.os 4 1 0 ((e6.map (Qb true)).length))) Y VRes.nil) (Give.os Y Y (okeStep.cleanMap _)) Y Y (by omega) (by decide)
 show gS 5 e6
 first | exact hs6.1 | (refine Yg hs6.1 ?_;exact hs6.1.2 x1 (List.mem_of_getElem? hx1)) | (refine Yg hs6.1 ?_;exact hs27) | exact ⟨Nat.zero_le _,fun y hy=>nomatch hy⟩
noncomputable section
def gC (x:D.Clue):Prop:=gS 5 x.Play
theorem QfX {c:D.Clue} (h:gC c):Jc c≤55:=Qg9 h
end
theorem Qb1 (n:Nat) (code:List Int) (hcl:code.length≤mx):CurE (Qm Tryd.prog (n+8)) 30 (rd 1 Qi code) code.length [] (fun x:D.Clue×List D.Meaning×ByteArray=>gC x.1∧gM 40 x.2.1∧x.2.2.size≤10) (fun x:D.Clue×List D.Meaning×ByteArray=>(T.tup [(T.agg (QA true x.1)),(T.sl true 2 (x.2.1.map (Qa true))),(tS x.2.2)])):=by
 refine CurE.intro (rs:= [ResultVar.cell 2 26,ResultVar.tmp 3,ResultVar.tmp 4]) Tryd.func30 Y Y Y (by kernel_rfl) (fun pb nb mb ci ch hci=> ?_)
 obtain ⟨hlim,hmx,hmax⟩:=QG
 show VRun _ _ _ [(0,(T.op 0 0))] [(0,some (Obj.cells [(T.ex pb nb mb (rd 1 Qi code)),(tN ci),(tI ch)]))] 1 _
 refine sr (kO (B.alloc (t:=(T.agg [(tN 0),T.nils])) (ts:= [(tN 0),T.nils]) QaB QaI nofun (fun _=> .agg _ _ Y (Ys (RL.cons (.int _ _) (RL.cons (.nils) (RL.nil _))))) Y) (fO (OF.assign VEv.nils) (fO (OF.assign (VEv.str (⟨#[]⟩:ByteArray))) (nt (sr (mO (T.op 0 0) Y ?_))))))
 refine eC (us:= []) (r':=fun x_:List D.Meaning=>(T.os 2 2 0 ((x_.map (Qa true)).length))) (objs:=fun x_:List D.Meaning=> [(Obj.rows 2 (x_.map (Qa true)))]) (m:=1) (k:=0) ci ch VWant.always (vc (tv (T.op 0 0) Y) vn) Y (by omega) ln (QbU (n+2) code (by first | assumption | omega | (simp only [List.length_cons,List.length_nil];omega))) Y (fun _=>rfl) (fun _=>rfl) fun e9 i9 h9 hs9 hi9=> ?_
 have hs9:gM 40 e9:=hs9
 refine aO (T.os 2 2 0 ((e9.map (Qa true)).length)) Y (nt (sr (mO (T.op 0 0) Y ?_)))
 refine eC (us:= []) (r':=fun x_:ByteArray=>(tS x_)) (objs:=fun x_:ByteArray=> []) (m:=0) (k:=0) i9 h9 VWant.always (vc (tv (T.op 0 0) Y) vn) Y (by omega) ln (Zh (n+3) code (by first | assumption | omega | (simp only [List.length_cons,List.length_nil];omega))) Y (fun _=>rfl) (fun _=>rfl) fun e11 i11 h11 hs11 hi11=> ?_
 have hs11:3≤e11.size∧e11.size≤9:=hs11
 refine aO (tS e11) Y (nt ?_)
 have hd9:=hs9.1
 refine sr (mO (T.op 0 0) Y (mO (T.os 2 2 0 ((e9.map (Qa true)).length)) Y (mO (tS e11) Y ?_)))
 refine eC (us:= [(rd 2 Qa e9),(tS e11)]) (r':=fun x_:D.Clue=>(T.agg [(tI x_.Sense),(T.os 4 3 0 ((x_.Play.map (Qb true)).length))])) (objs:=fun x_:D.Clue=> [(Obj.rows 4 (x_.Play.map (Qb true)))]) (m:=1) (k:=0) i11 h11 VWant.always (vc (tv (T.op 0 0) Y) (vc (tv (T.os 2 2 0 ((e9.map (Qa true)).length)) Y) (vc (tv (tS e11) Y) vn))) Y (by omega) (LendL.cons (Lend.os Y Y (okeMeaning.fzMap _ _)) (lp Y ln)) (Qb4 (n+3) code e9 e11 (by first | assumption | omega | (simp only [List.length_cons,List.length_nil];omega)) (by first | assumption | omega | (simp only [List.length_cons,List.length_nil];omega)) (by first | assumption | omega | (simp only [List.length_cons,List.length_nil];omega))) Y (fun _=>rfl) (fun _=>rfl) fun e15 i15 h15 hs15 hi15=> ?_
 have hs15:gS 3 e15.Play:=hs15
 refine kO (B.alloc (t:=(T.agg [(tN 0),T.nils])) (ts:= [(tN 0),T.nils]) QaB QaI nofun (fun _=> .agg _ _ Y (Ys (RL.cons (.int _ _) (RL.cons (.nils) (RL.nil _))))) Y) (cO (B.storeW (us:= [(tI e15.Sense),(T.os 4 3 0 ((e15.Play.map (Qb true)).length))]) (tv (T.op 4 0) Y) (tv (T.agg [(tI e15.Sense),(T.os 4 3 0 ((e15.Play.map (Qb true)).length))]) Y) nofun Y Y Y Ji QQ (bc Y (bc Y bn))) (nt (sq (sr (mO (T.op 0 0) Y ?_)))))
 refine eC (us:= [(tN 8)]) (r':=fun x_:Int=>(tI x_)) (objs:=fun x_:Int=> []) (m:=0) (k:=0) i15 h15 VWant.always (vc (tv (T.op 0 0) Y) (vc (VEv.int .i64 8) vn)) Y (by omega) (QR Y) (Qj (n+5) code (8:Int) (by first | assumption | omega | (simp only [List.length_cons,List.length_nil];omega))) Y (fun _=>rfl) (fun _=>rfl) fun e17 i17 h17 hs17 hi17=> ?_
 have hs17:((8:Int)≤0→e17=0)∧(0<(8:Int)→0≤e17∧e17<(8:Int)):=hs17
 refine nt (VRun.block (sr (fO (ZU (tv (tI e17) Y) (VEv.int .i64 0)) (aO (tB (decide (e17=0))) Y (nt ?_)))))
 refine cd (e17=0) Y (fun fhc0=> ?_) fun fhc0=> ?_
 ·refine VRun.region ?_
  refine mO (T.op 0 0) Y ?_
  refine eC (us:= []) (r':=fun x_:Int=>(tI x_)) (objs:=fun x_:Int=> []) (m:=0) (k:=0) i17 h17 VWant.always (vc (tv (T.op 0 0) Y) vn) Y (by omega) ln (Jl (n+3) code (by first | assumption | omega | (simp only [List.length_cons,List.length_nil];omega))) Y (fun _=>rfl) (fun _=>rfl) fun e21 i21 h21 hs21 hi21=> ?_
  have hs21:True:=hs21
  refine fO (OF.fieldAddrO (tv (T.op 4 0) Y) QcL) (cO (B.storeO (us:= [(tI e21)]) (ws:= [(tI e21),(T.os 4 3 0 ((e15.Play.map (Qb true)).length))]) (tv (T.op 4 0) Y) (tv (tI e21) Y) nofun Y Y (lb Y) YY Zg (bc Y bn) Y) (VRunO.nil (vinB.n (tn (sr (lO (OL.loadOn (us:= [(tI e21),(T.os 4 3 0 ((e15.Play.map (Qb true)).length))]) (tv (T.op 4 0) Y) Y Zj QQ (lb Y) Y) (mO (T.os 2 2 0 ((e9.map (Qa true)).length)) Y (mO (tS e11) Y (cO (B.storeW (us:= [(tI e21),(T.os 4 3 0 ((e15.Play.map (Qb true)).length))]) (tv (T.op 1 0) Y) (tv (T.agg [(tI e21),(T.os 4 3 0 ((e15.Play.map (Qb true)).length))]) Y) nofun Y Y Y Ji QQ (bc Y (bc Y bn))) (aO (T.os 2 2 0 ((e9.map (Qa true)).length)) Y (aO (tS e11) Y ?_)))))))))))
  refine nt (rt ?_)
  refine vcur.r ((D.Clue.mk e21 e15.Play),e9,e11) 0 i21 h21 ?_ (VRes.celln (ws:= [(tI e21),(T.os 4 3 0 ((e15.Play.map (Qb true)).length))]) Y Y Zj QQ (lb Y) Y (VRes.tmp (t:=(T.os 2 2 0 ((e9.map (Qa true)).length))) Y (VRes.tmp (t:=(tS e11)) Y VRes.nil))) (Give.tup (GiveL.cons (Give.agg (GiveL.cons (Give.int _ _) (GiveL.cons (Give.os Y Y (okeStep.cleanMap _)) GiveL.nil (by decide)) (by decide))) (GiveL.cons (Give.os Y Y (okeMeaning.cleanMap _)) (GiveL.cons (Give.str _) GiveL.nil (by decide)) (by decide)) (by decide))) Y Y (by omega) (by decide)
  show gC (D.Clue.mk e21 e15.Play)∧gM 40 e9∧e11.size≤10
  first | exact ⟨Ju hs15 (by decide),hs9,Nat.le_trans hs11.2 (by decide)⟩ | exact ⟨hs26,hs9,Nat.le_trans hs11.2 (by decide)⟩ | exact ⟨Ju hs15 (by decide),hs9,hs31⟩
 refine sr (fO (ZU (tv (tI e17) Y) (VEv.int .i64 1)) (aO (tB (decide (e17=1))) Y (nt ?_)))
 refine cd (e17=1) Y (fun fhc1=> ?_) fun fhc1=> ?_
 ·refine VRun.region ?_
  refine mO (T.op 0 0) Y ?_
  refine eC (us:= []) (r':=fun x_:List D.Step=>(T.os 4 5 0 ((x_.map (Qb true)).length))) (objs:=fun x_:List D.Step=> [(Obj.rows 4 (x_.map (Qb true)))]) (m:=1) (k:=0) i17 h17 VWant.always (vc (tv (T.op 0 0) Y) vn) Y (by omega) ln (Qca (n+0) code (by first | assumption | omega | (simp only [List.length_cons,List.length_nil];omega))) Y (fun _=>rfl) (fun _=>rfl) fun e26 i26 h26 hs26 hi26=> ?_
  have hs26:gS 5 e26:=hs26
  refine fO (OF.fieldAddrO (tv (T.op 4 0) Y) Jp) (cO (B.storeO (us:= [(T.os 4 5 0 ((e26.map (Qb true)).length))]) (ws:= [(tI e15.Sense),(T.os 4 5 0 ((e26.map (Qb true)).length))]) (tv (T.op 4 1) Y) (tv (T.os 4 5 0 ((e26.map (Qb true)).length)) Y) nofun Y Y (lb Y) Qg1 QgY (bc Y bn) Y) (VRunO.nil (vinB.n (tn (sr (lO (OL.loadOn (us:= [(tI e15.Sense),(T.os 4 5 0 ((e26.map (Qb true)).length))]) (tv (T.op 4 0) Y) Y Zj QQ (lb Y) Y) (mO (T.os 2 2 0 ((e9.map (Qa true)).length)) Y (mO (tS e11) Y (cO (B.storeW (us:= [(tI e15.Sense),(T.os 4 5 0 ((e26.map (Qb true)).length))]) (tv (T.op 1 0) Y) (tv (T.agg [(tI e15.Sense),(T.os 4 5 0 ((e26.map (Qb true)).length))]) Y) nofun Y Y Y Ji QQ (bc Y (bc Y bn))) (aO (T.os 2 2 0 ((e9.map (Qa true)).length)) Y (aO (tS e11) Y ?_)))))))))))
  refine nt (rt ?_)
  refine vcur.r ((D.Clue.mk e15.Sense e26),e9,e11) 0 i26 h26 ?_ (VRes.celln (ws:= [(tI e15.Sense),(T.os 4 5 0 ((e26.map (Qb true)).length))]) Y Y Zj QQ (lb Y) Y (VRes.tmp (t:=(T.os 2 2 0 ((e9.map (Qa true)).length))) Y (VRes.tmp (t:=(tS e11)) Y VRes.nil))) (Give.tup (GiveL.cons (Give.agg (GiveL.cons (Give.int _ _) (GiveL.cons (Give.os Y Y (okeStep.cleanMap _)) GiveL.nil (by decide)) (by decide))) (GiveL.cons (Give.os Y Y (okeMeaning.cleanMap _)) (GiveL.cons (Give.str _) GiveL.nil (by decide)) (by decide)) (by decide))) Y Y (by omega) (by decide)
  show gC (D.Clue.mk e15.Sense e26)∧gM 40 e9∧e11.size≤10
  first | exact ⟨Ju hs15 (by decide),hs9,Nat.le_trans hs11.2 (by decide)⟩ | exact ⟨hs26,hs9,Nat.le_trans hs11.2 (by decide)⟩ | exact ⟨Ju hs15 (by decide),hs9,hs31⟩
 refine sr (fO (ZU (tv (tI e17) Y) (VEv.int .i64 2)) (aO (tB (decide (e17=2))) Y (nt ?_)))
 refine cd (e17=2) Y (fun fhc2=> ?_) fun fhc2=> ?_
 ·refine VRun.region ?_
  refine mO (T.op 0 0) Y ?_
  refine eC (us:= []) (r':=fun x_:ByteArray=>(tS x_)) (objs:=fun x_:ByteArray=> []) (m:=0) (k:=0) i17 h17 VWant.always (vc (tv (T.op 0 0) Y) vn) Y (by omega) ln (Jk (n+2) code (by first | assumption | omega | (simp only [List.length_cons,List.length_nil];omega))) Y (fun _=>rfl) (fun _=>rfl) fun e31 i31 h31 hs31 hi31=> ?_
  have hs31:e31.size≤10:=hs31
  refine aO (tS e31) Y (VRunO.nil (vinB.n (tn (sr (lO (OL.loadOn (us:= [(tI e15.Sense),(T.os 4 3 0 ((e15.Play.map (Qb true)).length))]) (tv (T.op 4 0) Y) Y Zj QQ (lb Y) Y) (mO (T.os 2 2 0 ((e9.map (Qa true)).length)) Y (mO (tS e31) Y (cO (B.storeW (us:= [(tI e15.Sense),(T.os 4 3 0 ((e15.Play.map (Qb true)).length))]) (tv (T.op 1 0) Y) (tv (T.agg [(tI e15.Sense),(T.os 4 3 0 ((e15.Play.map (Qb true)).length))]) Y) nofun Y Y Y Ji QQ (bc Y (bc Y bn))) (aO (T.os 2 2 0 ((e9.map (Qa true)).length)) Y (aO (tS e31) Y (nt ?_)))))))))))
  refine rt ?_
  refine vcur.r (e15,e9,e31) 0 i31 h31 ?_ (VRes.celln (ws:= [(tI e15.Sense),(T.os 4 3 0 ((e15.Play.map (Qb true)).length))]) Y Y Zj QQ (lb Y) Y (VRes.tmp (t:=(T.os 2 2 0 ((e9.map (Qa true)).length))) Y (VRes.tmp (t:=(tS e31)) Y VRes.nil))) (Give.tup (GiveL.cons (Give.agg (GiveL.cons (Give.int _ _) (GiveL.cons (Give.os Y Y (okeStep.cleanMap _)) GiveL.nil (by decide)) (by decide))) (GiveL.cons (Give.os Y Y (okeMeaning.cleanMap _)) (GiveL.cons (Give.str _) GiveL.nil (by decide)) (by decide)) (by decide))) Y Y (by omega) (by decide)
  show gC e15∧gM 40 e9∧e31.size≤10
  first | exact ⟨Ju hs15 (by decide),hs9,Nat.le_trans hs11.2 (by decide)⟩ | exact ⟨hs26,hs9,Nat.le_trans hs11.2 (by decide)⟩ | exact ⟨Ju hs15 (by decide),hs9,hs31⟩
 refine sk (vinB.n (tn (sr (lO (OL.loadOn (us:= [(tI e15.Sense),(T.os 4 3 0 ((e15.Play.map (Qb true)).length))]) (tv (T.op 4 0) Y) Y Zj QQ (lb Y) Y) (mO (T.os 2 2 0 ((e9.map (Qa true)).length)) Y (mO (tS e11) Y (cO (B.storeW (us:= [(tI e15.Sense),(T.os 4 3 0 ((e15.Play.map (Qb true)).length))]) (tv (T.op 1 0) Y) (tv (T.agg [(tI e15.Sense),(T.os 4 3 0 ((e15.Play.map (Qb true)).length))]) Y) nofun Y Y Y Ji QQ (bc Y (bc Y bn))) (aO (T.os 2 2 0 ((e9.map (Qa true)).length)) Y (aO (tS e11) Y (nt (rt ?_)))))))))))
 refine vcur.r (e15,e9,e11) 0 i17 h17 ?_ (VRes.celln (ws:= [(tI e15.Sense),(T.os 4 3 0 ((e15.Play.map (Qb true)).length))]) Y Y Zj QQ (lb Y) Y (VRes.tmp (t:=(T.os 2 2 0 ((e9.map (Qa true)).length))) Y (VRes.tmp (t:=(tS e11)) Y VRes.nil))) (Give.tup (GiveL.cons (Give.agg (GiveL.cons (Give.int _ _) (GiveL.cons (Give.os Y Y (okeStep.cleanMap _)) GiveL.nil (by decide)) (by decide))) (GiveL.cons (Give.os Y Y (okeMeaning.cleanMap _)) (GiveL.cons (Give.str _) GiveL.nil (by decide)) (by decide)) (by decide))) Y Y (by omega) (by decide)
 show gC e15∧gM 40 e9∧e11.size≤10
 first | exact ⟨Ju hs15 (by decide),hs9,Nat.le_trans hs11.2 (by decide)⟩ | exact ⟨hs26,hs9,Nat.le_trans hs11.2 (by decide)⟩ | exact ⟨Ju hs15 (by decide),hs9,hs31⟩
theorem Yz (n:Nat) (code:List Int) (hcl:code.length≤mx):PureE (Qm Tryd.prog (n+9)) 6 [(rd 1 Qi code)] (fun x:D.Clue×ByteArray×Int=>gC x.1∧x.2.1.size≤10) (fun x:D.Clue×ByteArray×Int=>(T.tup [(T.agg (QA true x.1)),(tS x.2.1),(tI x.2.2)])):=by
 refine PureE.intro (rs:= [ResultVar.cell 2 26,ResultVar.tmp 3,ResultVar.tmp 4]) Tryd.func6 Y Y Y (E0:= [(0,(rd 1 Qi code))]) Y ?_
 obtain ⟨hlim,hmx,hmax⟩:=QG
 refine sr (kO (B.alloc (t:=(T.agg [(tN 0),T.nils])) (ts:= [(tN 0),T.nils]) QaB QaI nofun (fun _=> .agg _ _ Y (Ys (RL.cons (.int _ _) (RL.cons (.nils) (RL.nil _))))) Y) (fO (OF.assign (VEv.str (⟨#[]⟩:ByteArray))) (fO (OF.assign (VEv.int .i64 0)) (nt (sr (mO (rd 1 Qi code) Y ?_))))))
 refine eN VWant.always (vc (tv (rd 1 Qi code) Y) vn) (Jn (n+7) code (by first | assumption | omega)) Y fun pb10 nb10 mb10 hn10=> ?_
 refine aO (T.op 1 0) Y (nt (sr (mO (T.op 1 0) Y ?_)))
 refine eC (us:= []) (r':=fun x_:D.Clue×List D.Meaning×ByteArray=>(T.tup [(T.agg [(tI x_.1.Sense),(T.os 4 2 0 ((x_.1.Play.map (Qb true)).length))]),(T.os 2 3 0 ((x_.2.1.map (Qa true)).length)),(tS x_.2.2)])) (objs:=fun x_:D.Clue×List D.Meaning×ByteArray=> [(Obj.rows 4 (x_.1.Play.map (Qb true))),(Obj.rows 2 (x_.2.1.map (Qa true)))]) (m:=2) (k:=1) 0 hn10 VWant.always (vc (tv (T.op 1 0) Y) vn) Y (by omega) ln (Qb1 (n+0) code (by first | assumption | omega | (simp only [List.length_cons,List.length_nil];omega))) Y (fun _=>rfl) (fun _=>rfl) fun e13 i13 h13 hs13 hi13=> ?_
 have hs13:gC e13.1∧gM 40 e13.2.1∧e13.2.2.size≤10:=hs13
 refine mO (T.tup [(T.agg [(tI e13.1.Sense),(T.os 4 2 0 ((e13.1.Play.map (Qb true)).length))]),(T.os 2 3 0 ((e13.2.1.map (Qa true)).length)),(tS e13.2.2)]) Y (fO (OF.extract (t:=(T.agg [(tI e13.1.Sense),(T.os 4 2 0 ((e13.1.Play.map (Qb true)).length))])) (tv (T.tup [(T.agg [(tI e13.1.Sense),(T.os 4 2 0 ((e13.1.Play.map (Qb true)).length))]),(T.os 2 3 0 ((e13.2.1.map (Qa true)).length)),(tS e13.2.2)]) Y) Y) (fO (OF.extract (t:=(T.os 2 3 0 ((e13.2.1.map (Qa true)).length))) (tv (T.tup [(T.agg [(tI e13.1.Sense),(T.os 4 2 0 ((e13.1.Play.map (Qb true)).length))]),(T.os 2 3 0 ((e13.2.1.map (Qa true)).length)),(tS e13.2.2)]) Y) Y) (fO (OF.extract (t:=(tS e13.2.2)) (tv (T.tup [(T.agg [(tI e13.1.Sense),(T.os 4 2 0 ((e13.1.Play.map (Qb true)).length))]),(T.os 2 3 0 ((e13.2.1.map (Qa true)).length)),(tS e13.2.2)]) Y) Y) (kO (B.alloc (t:=(T.agg [(tN 0),T.nils])) (ts:= [(tN 0),T.nils]) QaB QaI nofun (fun _=> .agg _ _ Y (Ys (RL.cons (.int _ _) (RL.cons (.nils) (RL.nil _))))) Y) (cO (B.storeW (us:= [(tI e13.1.Sense),(T.os 4 2 0 ((e13.1.Play.map (Qb true)).length))]) (tv (T.op 4 0) Y) (tv (T.agg [(tI e13.1.Sense),(T.os 4 2 0 ((e13.1.Play.map (Qb true)).length))]) Y) nofun Y Y Y Ji QQ (bc Y (bc Y bn))) (aO (T.os 2 3 0 ((e13.2.1.map (Qa true)).length)) Y (aO (tS e13.2.2) Y (nt (sq (VRun.drawC (us:= [(T.ex pb10 nb10 mb10 (rd 1 Qi code)),(tN i13),(tI h13)]) 1 [5,10,12] (B:= [[],[],[],[2],[2,3,0],[0,3,2,4,1],[1,4,0,5,2,3]]) (by kernel_rfl) (by kernel_rfl) Y (bc Y (bc Y (bc Y bn))) Y Y (lD (OL.loadOn (us:= [(tI e13.1.Sense),(T.os 4 2 0 ((e13.1.Play.map (Qb true)).length))]) (tv (T.op 4 0) Y) Y Zj QQ (lb Y) Y) Y Y ?_)))))))))))
 refine mD (tS e13.2.2) Y Y (mD (T.op 5 0) Y Y ?_)
 refine eDC (us:= [(tN 6)]) (r':=fun x_:Int=>(tI x_)) (objs:=fun x_:Int=> []) (m:=0) (k:=5) (bi:= [2]) i13 h13 Y VWant.always Y Y Y (lb Y) (vc (tv (T.op 5 0) Y) (vc (VEv.int .i64 6) vn)) Y (by omega) (QR Y) (Qj (n+6) code (6:Int) (by first | assumption | omega | (simp only [List.length_cons,List.length_nil];omega))) Y (fun _=>rfl) (fun _=>rfl) fun e20 i20 h20 hs20 hi20=> ?_
 have hs20:((6:Int)≤0→e20=0)∧(0<(6:Int)→0≤e20∧e20<(6:Int)):=hs20
 refine VRunD.chain (bi:= [2,3,0]) Y VWant.always Y Y Y (by kernel_rfl) (B.storeW (us:= [(tI e13.1.Sense),(T.os 4 2 0 ((e13.1.Play.map (Qb true)).length))]) (tv (T.op 0 0) Y) (tv (T.agg [(tI e13.1.Sense),(T.os 4 2 0 ((e13.1.Play.map (Qb true)).length))]) Y) nofun Y Y Y Ji QQ (bc Y (bc Y bn))) (fD (OF.assign (tv (tS e13.2.2) Y)) Y Y (fD (OF.assign (tv (tI e20) Y)) Y Y (VRunD.nil (tn (rt ?_)))))
 refine vfinE.r (e13.1,e13.2.2,e20) ?_ (vfin.r (VRes.celln (ws:= [(tI e13.1.Sense),(T.os 4 2 0 ((e13.1.Play.map (Qb true)).length))]) Y Y Zj QQ (lb Y) Y (VRes.tmp (t:=(tS e13.2.2)) Y (VRes.tmp (t:=(tI e20)) Y VRes.nil))) (Give.tup (GiveL.cons (Give.agg (GiveL.cons (Give.int _ _) (GiveL.cons (Give.os Y Y (okeStep.cleanMap _)) GiveL.nil (by decide)) (by decide))) (GiveL.cons (Give.str _) (GiveL.cons (Give.int _ _) GiveL.nil (by decide)) (by decide)) (by decide))))
 show gC e13.1∧e13.2.2.size≤10
 exact ⟨hs13.1,hs13.2.2⟩
theorem Qbt (c:D.Clue) (w:ByteArray) (v:Int):(Qd c w v).size≤w.size+8:=by
 have hk:∀k,(Yf k).size≤8:=fun k=>by
  unfold Yf
  split
  ·rename_i h
   have:k=1∨k=2∨k=3∨k=4∨k=5∨k=6∨k=7∨k=8∨k=9:=by omega
   rcases this with rfl | rfl | rfl | rfl | rfl | rfl | rfl | rfl | rfl<;>decide
  ·decide
 have hh:(QI w).size≤w.size:=by
  unfold QI
  split
  ·rw [ByteArray.size_extract];omega
  ·exact Nat.zero_le _
 unfold Qd
 split
 ·split
  ·exact Nat.le_trans (hk _) (by omega)
  ·split
   ·exact Nat.le_trans (show (ZP _).size≤1 from Nat.le_refl _) (by omega)
   ·split
    ·omega
    ·split
     ·omega
     ·exact Nat.zero_le _
 ·exact Nat.zero_le _
theorem Qhr {e x:ByteArray} (h:e.size≤18) (hx:x∈ [e,e,(⟨#[97]⟩:ByteArray),⟨#[119,111,114,100]⟩,⟨#[50]⟩,⟨#[]⟩,⟨#[99,97,116]⟩]):x.size≤18:=by
 simp only [List.mem_cons,List.not_mem_nil,or_false] at hx
 rcases hx with rfl | rfl | rfl | rfl | rfl | rfl | rfl<;>first | omega | decide
theorem JX (n:Nat) (code:List Int) (hcl:code.length≤mx):PureE (Qm Tryd.prog (n+10)) 44 [(rd 1 Qi code)] (fun x:D.Clue×ByteArray×Int×ByteArray=>gC x.1∧x.2.1.size≤10∧x.2.2.2.size≤18) (fun x:D.Clue×ByteArray×Int×ByteArray=>(T.tup [(T.agg (QA true x.1)),(tS x.2.1),(tI x.2.2.1),(tS x.2.2.2)])):=by
 refine PureE.intro (rs:= [ResultVar.cell 2 26,ResultVar.tmp 3,ResultVar.tmp 4,ResultVar.tmp 5]) Tryd.func44 Y Y Y (E0:= [(0,(rd 1 Qi code))]) Y ?_
 obtain ⟨hlim,hmx,hmax⟩:=QG
 refine sr (kO (B.alloc (t:=(T.agg [(tN 0),T.nils])) (ts:= [(tN 0),T.nils]) QaB QaI nofun (fun _=> .agg _ _ Y (Ys (RL.cons (.int _ _) (RL.cons (.nils) (RL.nil _))))) Y) (fO (OF.assign (VEv.str (⟨#[]⟩:ByteArray))) (fO (OF.assign (VEv.int .i64 0)) (fO (OF.assign (VEv.str (⟨#[]⟩:ByteArray))) (nt (sr (mO (rd 1 Qi code) Y ?_)))))))
 refine eP (us:= [(rd 1 Qi code)]) (r':=fun x_:D.Clue×ByteArray×Int=>(T.tup [(T.agg [(tI x_.1.Sense),(T.os 4 1 0 ((x_.1.Play.map (Qb true)).length))]),(tS x_.2.1),(tI x_.2.2)])) (objs:=fun x_:D.Clue×ByteArray×Int=> [(Obj.rows 4 (x_.1.Play.map (Qb true)))]) (m:=1) VWant.always (vc (tv (rd 1 Qi code) Y) vn) (QR Y) (Yz (n+0) code (by first | assumption | omega | (simp only [List.length_cons,List.length_nil];omega))) Y (fun _=>rfl) (fun _=>rfl) fun e13 hs13=> ?_
 have hs13:gC e13.1∧e13.2.1.size≤10:=hs13
 refine mO (T.tup [(T.agg [(tI e13.1.Sense),(T.os 4 1 0 ((e13.1.Play.map (Qb true)).length))]),(tS e13.2.1),(tI e13.2.2)]) Y (fO (OF.extract (t:=(T.agg [(tI e13.1.Sense),(T.os 4 1 0 ((e13.1.Play.map (Qb true)).length))])) (tv (T.tup [(T.agg [(tI e13.1.Sense),(T.os 4 1 0 ((e13.1.Play.map (Qb true)).length))]),(tS e13.2.1),(tI e13.2.2)]) Y) Y) (fO (OF.extract (t:=(tS e13.2.1)) (tv (T.tup [(T.agg [(tI e13.1.Sense),(T.os 4 1 0 ((e13.1.Play.map (Qb true)).length))]),(tS e13.2.1),(tI e13.2.2)]) Y) Y) (fO (OF.extract (t:=(tI e13.2.2)) (tv (T.tup [(T.agg [(tI e13.1.Sense),(T.os 4 1 0 ((e13.1.Play.map (Qb true)).length))]),(tS e13.2.1),(tI e13.2.2)]) Y) Y) (kO (B.alloc (t:=(T.agg [(tN 0),T.nils])) (ts:= [(tN 0),T.nils]) QaB QaI nofun (fun _=> .agg _ _ Y (Ys (RL.cons (.int _ _) (RL.cons (.nils) (RL.nil _))))) Y) (cO (B.storeW (us:= [(tI e13.1.Sense),(T.os 4 1 0 ((e13.1.Play.map (Qb true)).length))]) (tv (T.op 2 0) Y) (tv (T.agg [(tI e13.1.Sense),(T.os 4 1 0 ((e13.1.Play.map (Qb true)).length))]) Y) nofun Y Y Y Ji QQ (bc Y (bc Y bn))) (aO (tS e13.2.1) Y (aO (tI e13.2.2) Y (nt ?_))))))))
 have hz13:=QfX hs13.1
 have hw13:=hs13.2
 refine sr (mO (rd 1 Qi code) Y ?_)
 refine eN VWant.always (vc (tv (rd 1 Qi code) Y) vn) (Jn (n+8) code (by first | assumption | omega)) Y fun pb18 nb18 mb18 hn18=> ?_
 refine aO (T.op 3 0) Y (nt (sr (lO (OL.loadOn (us:= [(tI e13.1.Sense),(T.os 4 1 0 ((e13.1.Play.map (Qb true)).length))]) (tv (T.op 2 0) Y) Y Zj QQ (lb Y) Y) (mO (tS e13.2.1) Y (mO (tI e13.2.2) Y (cO (cS (us:= [(T.agg (QA false e13.1)),(tS e13.2.1),(tI e13.2.2)]) (vc (tv (T.agg [(tI e13.1.Sense),(T.os 4 1 0 ((e13.1.Play.map (Qb true)).length))]) Y) (vc (tv (tS e13.2.1) Y) (vc (tv (tI e13.2.2) Y) vn))) (LendL.cons (Lend.agg (LendL.cons (Lend.pl Y) (LendL.cons (Lend.os Y Y (okeStep.fzMap _ _)) ln))) (lp Y (lp Y ln))) (Qbq (n+3) e13.1 e13.2.1 e13.2.2 (by first | assumption | omega) (by first | assumption | omega)) Y Y) (aO (tS (Qd e13.1 e13.2.1 e13.2.2)) Y (nt (sq (VRun.drawC (us:= [(T.ex pb18 nb18 mb18 (rd 1 Qi code)),(tN 0),(tI hn18)]) 3 [9,18] (B:= [[],[],[],[],[],[],[5,4],[4,5,6,3],[3,6,5,4,7,0],[0,7,4,5,6,3,8,1],[1,8,3,6,5,4,7,0,9,2],[2,9,0,8,1,10,3,6,5,4,7]]) (by kernel_rfl) (by kernel_rfl) Y (bc Y (bc Y bn)) Y Y (lD (OL.loadOn (us:= [(tI e13.1.Sense),(T.os 4 1 0 ((e13.1.Play.map (Qb true)).length))]) (tv (T.op 2 0) Y) Y Zj QQ (lb Y) Y) Y Y ?_)))))))))))
 refine mD (tS e13.2.1) Y Y (mD (tI e13.2.2) Y Y (mD (T.op 4 0) Y Y (mD (tS (Qd e13.1 e13.2.1 e13.2.2)) Y Y (mD (tS (Qd e13.1 e13.2.1 e13.2.2)) Y Y (VRunD.make Y VWant.always Y (OM.buildSlice (l:= [(tS (Qd e13.1 e13.2.1 e13.2.2)),(tS (Qd e13.1 e13.2.1 e13.2.2)),(tS (⟨#[97]⟩:ByteArray)),(tS (⟨#[119,111,114,100]⟩:ByteArray)),(tS (⟨#[50]⟩:ByteArray)),(tS (⟨#[]⟩:ByteArray)),(tS (⟨#[99,97,116]⟩:ByteArray))]) (VEvp.cons (tv (tS (Qd e13.1 e13.2.1 e13.2.2)) Y) (VEvp.cons (tv (tS (Qd e13.1 e13.2.1 e13.2.2)) Y) (VEvp.cons (VEv.str (⟨#[97]⟩:ByteArray)) (VEvp.cons (VEv.str (⟨#[119,111,114,100]⟩:ByteArray)) (VEvp.cons (VEv.str (⟨#[50]⟩:ByteArray)) (VEvp.cons (VEv.str (⟨#[]⟩:ByteArray)) (VEvp.cons (VEv.str (⟨#[99,97,116]⟩:ByteArray)) VEvp.nil))))))) Y (by decide) (bc (nofun) (bc (nofun) (bc (nofun) (bc (nofun) (bc (nofun) (bc (nofun) (bc (nofun) bn))))))) (bc ((bc (Y) bn)) (bc ((bc (Y) bn)) (bc ((bc (Y) bn)) (bc ((bc (Y) bn)) (bc ((bc (Y) bn)) (bc ((bc (Y) bn)) (bc ((bc (Y) bn)) bn))))))) (bc (Y) (bc (Y) (bc (Y) (bc (Y) (bc (Y) (bc (Y) (bc (Y) bn))))))) Y1 zo9 (by kernel_rfl) Y (by rw [Yx];decide) Yx (Nat.le_of_ble_eq_true Y)) ?_)))))
 refine eDC (us:= [(T.sl false 1 [[(tS (Qd e13.1 e13.2.1 e13.2.2))],[(tS (Qd e13.1 e13.2.1 e13.2.2))],[(tS (⟨#[97]⟩:ByteArray))],[(tS (⟨#[119,111,114,100]⟩:ByteArray))],[(tS (⟨#[50]⟩:ByteArray))],[(tS (⟨#[]⟩:ByteArray))],[(tS (⟨#[99,97,116]⟩:ByteArray))]])]) (r':=fun x_:ByteArray=>(tS x_)) (objs:=fun x_:ByteArray=> []) (m:=0) (k:=4) (bi:= [4,5,6,3]) 0 hn18 Y VWant.always Y Y Y (lb Y) (vc (tv (T.op 4 0) Y) (vc (tv (T.os 1 5 0 7) Y) vn)) Y (by omega) (LendL.cons (Lend.os Y Y Y) ln) (Zn (n+6) code [Qd e13.1 e13.2.1 e13.2.2,Qd e13.1 e13.2.1 e13.2.2,(⟨#[97]⟩:ByteArray),(⟨#[119,111,114,100]⟩:ByteArray),(⟨#[50]⟩:ByteArray),(⟨#[]⟩:ByteArray),(⟨#[99,97,116]⟩:ByteArray)] (by first | assumption | omega | (simp only [List.length_cons,List.length_nil];omega)) (by first | assumption | omega | (simp only [List.length_cons,List.length_nil];omega)) (by first | assumption | omega | (simp only [List.length_cons,List.length_nil];omega))) Y (fun _=>rfl) (fun _=>rfl) fun e30 i30 h30 hs30 hi30=> ?_
 have hs30:e30∈ [Qd e13.1 e13.2.1 e13.2.2,Qd e13.1 e13.2.1 e13.2.2,(⟨#[97]⟩:ByteArray),(⟨#[119,111,114,100]⟩:ByteArray),(⟨#[50]⟩:ByteArray),(⟨#[]⟩:ByteArray),(⟨#[99,97,116]⟩:ByteArray)]:=hs30
 refine VRunD.chain (bi:= [3,6,5,4,7,0]) Y VWant.always Y Y Y (by kernel_rfl) (B.storeW (us:= [(tI e13.1.Sense),(T.os 4 1 0 ((e13.1.Play.map (Qb true)).length))]) (tv (T.op 0 0) Y) (tv (T.agg [(tI e13.1.Sense),(T.os 4 1 0 ((e13.1.Play.map (Qb true)).length))]) Y) nofun Y Y Y Ji QQ (bc Y (bc Y bn))) (fD (OF.assign (tv (tS e13.2.1) Y)) Y Y (fD (OF.assign (tv (tI e13.2.2) Y)) Y Y (fD (OF.assign (tv (tS e30) Y)) Y Y (VRunD.nil (tn (rt ?_))))))
 refine vfinE.r (e13.1,e13.2.1,e13.2.2,e30) ?_ (vfin.r (VRes.celln (ws:= [(tI e13.1.Sense),(T.os 4 1 0 ((e13.1.Play.map (Qb true)).length))]) Y Y Zj QQ (lb Y) Y (VRes.tmp (t:=(tS e13.2.1)) Y (VRes.tmp (t:=(tI e13.2.2)) Y (VRes.tmp (t:=(tS e30)) Y VRes.nil)))) (Give.tup (GiveL.cons (Give.agg (GiveL.cons (Give.int _ _) (GiveL.cons (Give.os Y Y (okeStep.cleanMap _)) GiveL.nil (by decide)) (by decide))) (GiveL.cons (Give.str _) (GiveL.cons (Give.int _ _) (GiveL.cons (Give.str _) GiveL.nil (by decide)) (by decide)) (by decide)) (by decide))))
 show gC e13.1∧e13.2.1.size≤10∧e30.size≤18
 exact ⟨hs13.1,hs13.2,Qhr (Nat.le_trans (Qbt _ _ _) (Nat.add_le_add_right hw13 8)) hs30⟩
theorem Z6 (n:Nat) (code:List Int) (hcl:code.length≤mx):PureE (Qm Tryd.prog (n+11)) 16 [(rd 1 Qi code)] (fun x:D.Clue×List ByteArray×Int×ByteArray=>gC x.1∧(x.2.1.length≤35∧∀y∈x.2.1,y.size≤10)∧x.2.2.2.size≤18) (fun x:D.Clue×List ByteArray×Int×ByteArray=>(T.tup [(T.agg (QA true x.1)),(T.sl true 1 (x.2.1.map (Qf true))),(tI x.2.2.1),(tS x.2.2.2)])):=by
 refine PureE.intro (rs:= [ResultVar.cell 2 26,ResultVar.tmp 3,ResultVar.tmp 4,ResultVar.tmp 5]) Tryd.func16 Y Y Y (E0:= [(0,(rd 1 Qi code))]) Y ?_
 obtain ⟨hlim,hmx,hmax⟩:=QG
 refine sr (kO (B.alloc (t:=(T.agg [(tN 0),T.nils])) (ts:= [(tN 0),T.nils]) QaB QaI nofun (fun _=> .agg _ _ Y (Ys (RL.cons (.int _ _) (RL.cons (.nils) (RL.nil _))))) Y) (fO (OF.assign VEv.nils) (fO (OF.assign (VEv.int .i64 0)) (fO (OF.assign (VEv.str (⟨#[]⟩:ByteArray))) (nt (sr (mO (rd 1 Qi code) Y ?_)))))))
 refine eP (us:= [(rd 1 Qi code)]) (r':=fun x_:D.Clue×ByteArray×Int×ByteArray=>(T.tup [(T.agg [(tI x_.1.Sense),(T.os 4 1 0 ((x_.1.Play.map (Qb true)).length))]),(tS x_.2.1),(tI x_.2.2.1),(tS x_.2.2.2)])) (objs:=fun x_:D.Clue×ByteArray×Int×ByteArray=> [(Obj.rows 4 (x_.1.Play.map (Qb true)))]) (m:=1) VWant.always (vc (tv (rd 1 Qi code) Y) vn) (QR Y) (JX (n+0) code (by first | assumption | omega | (simp only [List.length_cons,List.length_nil];omega))) Y (fun _=>rfl) (fun _=>rfl) fun e13 hs13=> ?_
 have hs13:gC e13.1∧e13.2.1.size≤10∧e13.2.2.2.size≤18:=hs13
 refine mO (T.tup [(T.agg [(tI e13.1.Sense),(T.os 4 1 0 ((e13.1.Play.map (Qb true)).length))]),(tS e13.2.1),(tI e13.2.2.1),(tS e13.2.2.2)]) Y (fO (OF.extract (t:=(T.agg [(tI e13.1.Sense),(T.os 4 1 0 ((e13.1.Play.map (Qb true)).length))])) (tv (T.tup [(T.agg [(tI e13.1.Sense),(T.os 4 1 0 ((e13.1.Play.map (Qb true)).length))]),(tS e13.2.1),(tI e13.2.2.1),(tS e13.2.2.2)]) Y) Y) (fO (OF.extract (t:=(tS e13.2.1)) (tv (T.tup [(T.agg [(tI e13.1.Sense),(T.os 4 1 0 ((e13.1.Play.map (Qb true)).length))]),(tS e13.2.1),(tI e13.2.2.1),(tS e13.2.2.2)]) Y) Y) (fO (OF.extract (t:=(tI e13.2.2.1)) (tv (T.tup [(T.agg [(tI e13.1.Sense),(T.os 4 1 0 ((e13.1.Play.map (Qb true)).length))]),(tS e13.2.1),(tI e13.2.2.1),(tS e13.2.2.2)]) Y) Y) (fO (OF.extract (t:=(tS e13.2.2.2)) (tv (T.tup [(T.agg [(tI e13.1.Sense),(T.os 4 1 0 ((e13.1.Play.map (Qb true)).length))]),(tS e13.2.1),(tI e13.2.2.1),(tS e13.2.2.2)]) Y) Y) (kO (B.alloc (t:=(T.agg [(tN 0),T.nils])) (ts:= [(tN 0),T.nils]) QaB QaI nofun (fun _=> .agg _ _ Y (Ys (RL.cons (.int _ _) (RL.cons (.nils) (RL.nil _))))) Y) (cO (B.storeW (us:= [(tI e13.1.Sense),(T.os 4 1 0 ((e13.1.Play.map (Qb true)).length))]) (tv (T.op 2 0) Y) (tv (T.agg [(tI e13.1.Sense),(T.os 4 1 0 ((e13.1.Play.map (Qb true)).length))]) Y) nofun Y Y Y Ji QQ (bc Y (bc Y bn))) (aO (tS e13.2.1) Y (aO (tI e13.2.2.1) Y (aO (tS e13.2.2.2) Y (nt (sr ?_)))))))))))
 refine mO (rd 1 Qi code) Y ?_
 refine eN VWant.always (vc (tv (rd 1 Qi code) Y) vn) (Jn (n+9) code (by first | assumption | omega)) Y fun pb19 nb19 mb19 hn19=> ?_
 refine aO (T.op 3 0) Y (nt (sq (sr (mO (T.op 3 0) Y ?_))))
 refine eC (us:= [(tN 2)]) (r':=fun x_:Bool=>(tB x_)) (objs:=fun x_:Bool=> []) (m:=0) (k:=3) 0 hn19 VWant.always (vc (tv (T.op 3 0) Y) (vc (VEv.int .i64 2) vn)) Y (by omega) (QR Y) (Z1 (n+7) code (2:Int) (by first | assumption | omega | (simp only [List.length_cons,List.length_nil];omega))) Y (fun _=>rfl) (fun _=>rfl) fun e21 i21 h21 hs21 hi21=> ?_
 have hs21:True:=hs21
 refine nt ?_
 refine VRun.cond (tv (tB e21) Y) (fun hc0=> ?_) (fun hc0=> ?_)
 ·have fhc0:e21=true:=hc0
  refine sq (VRun.draw (B:= [[],[],[],[],[1,0],[0,4,1],[1,4,0,5,2],[2,5,0,4,1,6,3]]) (by kernel_rfl) (by kernel_rfl) Y (lD (OL.loadOn (us:= [(tI e13.1.Sense),(T.os 4 1 0 ((e13.1.Play.map (Qb true)).length))]) (tv (T.op 2 0) Y) Y Zj QQ (lb Y) Y) Y Y ?_))
  refine eDP (us:= []) (r':=fun x_:List ByteArray=>(T.os 1 4 0 ((x_.map (Qf true)).length))) (objs:=fun x_:List ByteArray=> [(Obj.rows 1 (x_.map (Qf true)))]) (m:=1) (bi:= []) Y VWant.always Y Y Y vn ln (YE (n+9)) Y (fun _=>rfl) (fun _=>rfl) fun e23 hs23=> ?_
  have hs23:e23.length=35∧∀y∈e23,3≤y.size∧y.size≤9:=hs23
  refine mD (tI e13.2.2.1) Y Y (mD (tS e13.2.2.2) Y Y (VRunD.chain (bi:= [1,0]) Y VWant.always Y Y Y (by kernel_rfl) (B.storeW (us:= [(tI e13.1.Sense),(T.os 4 1 0 ((e13.1.Play.map (Qb true)).length))]) (tv (T.op 0 0) Y) (tv (T.agg [(tI e13.1.Sense),(T.os 4 1 0 ((e13.1.Play.map (Qb true)).length))]) Y) nofun Y Y Y Ji QQ (bc Y (bc Y bn))) (fD (OF.assign (tv (T.os 1 4 0 ((e23.map (Qf true)).length)) Y)) Y Y (fD (OF.assign (tv (tI e13.2.2.1) Y)) Y Y (fD (OF.assign (tv (tS e13.2.2.2) Y)) Y Y (VRunD.nil (tn (rt (tr ?_)))))))))
  refine vfinE.r (e13.1,e23,e13.2.2.1,e13.2.2.2) ?_ (vfin.r (VRes.celln (ws:= [(tI e13.1.Sense),(T.os 4 1 0 ((e13.1.Play.map (Qb true)).length))]) Y Y Zj QQ (lb Y) Y (VRes.tmp (t:=(T.os 1 4 0 ((e23.map (Qf true)).length))) Y (VRes.tmp (t:=(tI e13.2.2.1)) Y (VRes.tmp (t:=(tS e13.2.2.2)) Y VRes.nil)))) (Give.tup (GiveL.cons (Give.agg (GiveL.cons (Give.int _ _) (GiveL.cons (Give.os Y Y (okeStep.cleanMap _)) GiveL.nil (by decide)) (by decide))) (GiveL.cons (Give.os Y Y (okStr.cleanMap _)) (GiveL.cons (Give.int _ _) (GiveL.cons (Give.str _) GiveL.nil (by decide)) (by decide)) (by decide)) (by decide))))
  show gC e13.1∧(e23.length≤35∧∀y∈e23,y.size≤10)∧e13.2.2.2.size≤18
  first | exact ⟨hs13.1,⟨Nat.le_of_eq hs23.1,fun y hy=>Nat.le_trans (hs23.2 y hy).2 (Nat.le_of_ble_eq_true Y)⟩,hs13.2.2⟩ | exact ⟨hs13.1,⟨Nat.le_trans hs28.1 (Nat.le_of_ble_eq_true Y),hs28.2⟩,hs13.2.2⟩
 have fhc0:e21=false:=hc0
 refine sk (tn (sq (VRun.drawC (us:= [(T.ex pb19 nb19 mb19 (rd 1 Qi code)),(tN i21),(tI h21)]) 3 [10,19,20] (B:= [[],[],[1],[],[],[1,2,0],[0,5,1,2],[2,1,5,0,6,3],[3,6,0,5,1,2,7,4]]) (by kernel_rfl) (by kernel_rfl) Y (bc Y (bc Y (bc Y bn))) Y Y (lD (OL.loadOn (us:= [(tI e13.1.Sense),(T.os 4 1 0 ((e13.1.Play.map (Qb true)).length))]) (tv (T.op 2 0) Y) Y Zj QQ (lb Y) Y) Y Y (mD (T.op 4 0) Y Y ?_)))))
 refine eDC (us:= []) (r':=fun x_:List ByteArray=>(T.os 1 5 0 ((x_.map (Qf true)).length))) (objs:=fun x_:List ByteArray=> [(Obj.rows 1 (x_.map (Qf true)))]) (m:=1) (k:=4) (bi:= [1]) i21 h21 Y VWant.always Y Y Y (lb Y) (vc (tv (T.op 4 0) Y) vn) Y (by omega) ln (Qb9 (n+4) code (by first | assumption | omega | (simp only [List.length_cons,List.length_nil];omega))) Y (fun _=>rfl) (fun _=>rfl) fun e28 i28 h28 hs28 hi28=> ?_
 have hs28:e28.length≤5∧∀y∈e28,y.size≤10:=hs28
 refine mD (tI e13.2.2.1) Y Y (mD (tS e13.2.2.2) Y Y (VRunD.chain (bi:= [1,2,0]) Y VWant.always Y Y Y (by kernel_rfl) (B.storeW (us:= [(tI e13.1.Sense),(T.os 4 1 0 ((e13.1.Play.map (Qb true)).length))]) (tv (T.op 0 0) Y) (tv (T.agg [(tI e13.1.Sense),(T.os 4 1 0 ((e13.1.Play.map (Qb true)).length))]) Y) nofun Y Y Y Ji QQ (bc Y (bc Y bn))) (fD (OF.assign (tv (T.os 1 5 0 ((e28.map (Qf true)).length)) Y)) Y Y (fD (OF.assign (tv (tI e13.2.2.1) Y)) Y Y (fD (OF.assign (tv (tS e13.2.2.2) Y)) Y Y (VRunD.nil (tn (rt ?_))))))))
 refine vfinE.r (e13.1,e28,e13.2.2.1,e13.2.2.2) ?_ (vfin.r (VRes.celln (ws:= [(tI e13.1.Sense),(T.os 4 1 0 ((e13.1.Play.map (Qb true)).length))]) Y Y Zj QQ (lb Y) Y (VRes.tmp (t:=(T.os 1 5 0 ((e28.map (Qf true)).length))) Y (VRes.tmp (t:=(tI e13.2.2.1)) Y (VRes.tmp (t:=(tS e13.2.2.2)) Y VRes.nil)))) (Give.tup (GiveL.cons (Give.agg (GiveL.cons (Give.int _ _) (GiveL.cons (Give.os Y Y (okeStep.cleanMap _)) GiveL.nil (by decide)) (by decide))) (GiveL.cons (Give.os Y Y (okStr.cleanMap _)) (GiveL.cons (Give.int _ _) (GiveL.cons (Give.str _) GiveL.nil (by decide)) (by decide)) (by decide)) (by decide))))
 show gC e13.1∧(e28.length≤35∧∀y∈e28,y.size≤10)∧e13.2.2.2.size≤18
 first | exact ⟨hs13.1,⟨Nat.le_of_eq hs23.1,fun y hy=>Nat.le_trans (hs23.2 y hy).2 (Nat.le_of_ble_eq_true Y)⟩,hs13.2.2⟩ | exact ⟨hs13.1,⟨Nat.le_trans hs28.1 (Nat.le_of_ble_eq_true Y),hs28.2⟩,hs13.2.2⟩
noncomputable section
def hnS (k:Int):ByteArray:=if 1≤k∧k≤4 then (([⟨#[]⟩,⟨#[107,105,110,100]⟩,⟨#[115,116,101,112,115]⟩,⟨#[104,101,97,100]⟩,⟨#[97,110,115,119,101,114]⟩]:List ByteArray)[Int.toNat k]?).getD ⟨#[]⟩ else ⟨#[]⟩
theorem Qfi {k:Int} {x:ByteArray} (h:0≤k∧k<5) (hx:([⟨#[]⟩,⟨#[107,105,110,100]⟩,⟨#[115,116,101,112,115]⟩,⟨#[104,101,97,100]⟩,⟨#[97,110,115,119,101,114]⟩]:List ByteArray)[Int.toNat k]? =some x):x=hnS k:=by
 have hk:k=0∨k=1∨k=2∨k=3∨k=4:=by omega
 rcases hk with rfl | rfl | rfl | rfl | rfl<;>(obtain rfl:=Option.some.inj hx;rfl)
theorem Qe6 (k:Int):hnS k=(⟨#[]⟩:ByteArray)↔¬(1≤k∧k≤4):=by
 by_cases h:1≤k∧k≤4
 ·have hk:k=1∨k=2∨k=3∨k=4:=by omega
  rcases hk with rfl | rfl | rfl | rfl<;>decide
 ·exact ⟨fun _=>h,fun _=>if_neg h⟩
end
theorem Js (n:Nat) (k:Int):Pure (Qm Tryd.prog (n+2)) 11 [(tI k)] (tS (hnS k)):=by
 refine Pure.intro (rs:= [ResultVar.tmp 2]) Tryd.func11 Y Y Y (E0:= [(0,(tI k))]) Y ?_
 obtain ⟨hlim,hmx,hmax⟩:=QG
 have hl5:([⟨#[]⟩,⟨#[107,105,110,100]⟩,⟨#[115,116,101,112,115]⟩,⟨#[104,101,97,100]⟩,⟨#[97,110,115,119,101,114]⟩]:List ByteArray).length=5:=rfl
 refine sr (fO (OF.assign (VEv.str (⟨#[]⟩:ByteArray))) (nt (sr (kO (OM.buildSlice (l:= [(tS (⟨#[]⟩:ByteArray)),(tS (⟨#[107,105,110,100]⟩:ByteArray)),(tS (⟨#[115,116,101,112,115]⟩:ByteArray)),(tS (⟨#[104,101,97,100]⟩:ByteArray)),(tS (⟨#[97,110,115,119,101,114]⟩:ByteArray))]) (VEvp.cons (VEv.str (⟨#[]⟩:ByteArray)) (VEvp.cons (VEv.str (⟨#[107,105,110,100]⟩:ByteArray)) (VEvp.cons (VEv.str (⟨#[115,116,101,112,115]⟩:ByteArray)) (VEvp.cons (VEv.str (⟨#[104,101,97,100]⟩:ByteArray)) (VEvp.cons (VEv.str (⟨#[97,110,115,119,101,114]⟩:ByteArray)) VEvp.nil))))) Y (by decide) (bc (nofun) (bc (nofun) (bc (nofun) (bc (nofun) (bc (nofun) bn))))) (bc ((bc (Y) bn)) (bc ((bc (Y) bn)) (bc ((bc (Y) bn)) (bc ((bc (Y) bn)) (bc ((bc (Y) bn)) bn))))) (bc (Y) (bc (Y) (bc (Y) (bc (Y) (bc (Y) bn))))) Y1 zo9 (by kernel_rfl) Y (by rw [Yx];decide) Yx (Nat.le_of_ble_eq_true Y)) (aO (T.os 1 0 0 5) Y (nt (sq (sr (mO (tI k) Y (mO (T.os 1 0 0 5) Y (lO (B.lenO (m:=5) (tv (T.os 1 0 0 5) Y) Y1 Y) ?_)))))))))))
 refine cO (cS (vc (tv (tI k) Y) (vc (tv (tN 5) Y) vn)) (QR Y) (Ja (n+0) k ((5:Nat):Int)) Y Y) (fO (QZ (tv (tB (decide (0≤k∧k<((5:Nat):Int)))) Y)) (nt ?_))
 refine cn (0≤k∧k<((5:Nat):Int)) Y (fun fhc0=> ?_) fun fhc0=> ?_
 ·refine sr ?_
  refine fO (OF.assign (VEv.str (⟨#[]⟩:ByteArray))) (nt (rt (tr ?_)))
  refine vfin.eq (r':=(tS (⟨#[]⟩:ByteArray))) ?_ (vfin.r (VRes.tmp (t:=(tS (⟨#[]⟩:ByteArray))) Y VRes.nil) (Give.str _))
  refine congrArg T.str ?_
  first | exact (if_neg (fun h_=>fhc0 ⟨Int.le_trans (Int.le_of_lt Int.zero_lt_one) h_.1,Int.lt_of_le_of_lt h_.2 (Int.lt_add_one_of_le (Int.le_refl 4))⟩)).symm | exact Qfi fhc0 hx1
 refine sk (tn (sr (mO (T.os 1 0 0 5) Y (mO (tI k) Y ?_))))
 obtain ⟨x1,hx1⟩:∃x,([(⟨#[]⟩:ByteArray),(⟨#[107,105,110,100]⟩:ByteArray),(⟨#[115,116,101,112,115]⟩:ByteArray),(⟨#[104,101,97,100]⟩:ByteArray),(⟨#[97,110,115,119,101,114]⟩:ByteArray)]:List ByteArray)[(Int.toNat k)]? =some x:=⟨_,List.getElem?_eq_getElem (by omega)⟩
 refine fO (B.indexAddrO (i:=(Int.toNat k)) (tv (T.os 1 0 0 5) Y) (tv (tI k) Y) (by omega) (by first | omega | (simp only [List.length_map];omega) | (simp only [List.length_map,List.length_append,List.length_cons,List.length_nil,List.length_replicate,List.length_set,List.length_drop,List.length_take,Zb] at *;omega)) Y1 Yx if9) (lO (OL.loadP1 (t:=(tS x1)) (row:=(Qf true x1)) (tv (T.orp 1 0 (Int.toNat k) 0) Y) Y (Qs (Qf true) hx1) Y Y st9) (aO (tS x1) Y (nt (rt ?_))))
 refine vfin.eq (r':=(tS x1)) ?_ (vfin.r (VRes.tmp (t:=(tS x1)) Y VRes.nil) (Give.str _))
 refine congrArg T.str ?_
 first | exact (if_neg (fun h_=>fhc0 ⟨Int.le_trans (Int.le_of_lt Int.zero_lt_one) h_.1,Int.lt_of_le_of_lt h_.2 (Int.lt_add_one_of_le (Int.le_refl 4))⟩)).symm | exact Qfi fhc0 hx1
noncomputable section
theorem zW {k:Nat} {l:List ByteArray} (h:l.length≤k∧∀y∈l,y.size≤10):zL ByteArray.size l≤11*k:=by
 have h1:∀l:List ByteArray,(∀x∈l,x.size≤10)→QdH ByteArray.size l≤10*l.length:=fun l=>by
  induction l with
  | nil=>exact fun _=>Nat.le_refl _
  | cons x r ih =>
   intro hl
   have h2:=ih (fun y hy=>hl y (List.mem_cons_of_mem _ hy))
   have h3:=hl x List.mem_cons_self
   simp only [QdH,List.length_cons];omega
 have h2:=h1 l h.2
 have h3:=h.1
 simp only [zL];omega
theorem Qfv {k:Int} (h:1≤k∧k≤9):¬Yf k=⟨#[]⟩:=by
 have hk:k=1∨k=2∨k=3∨k=4∨k=5∨k=6∨k=7∨k=8∨k=9:=by omega
 rcases hk with rfl | rfl | rfl | rfl | rfl | rfl | rfl | rfl | rfl<;>decide
theorem Qc1 {s:ByteArray} (h:1≤s.size):¬s=⟨#[]⟩:=fun e=>by subst e;exact absurd h (by decide)
theorem Qff {c:D.Clue} (h:Qp c.Play):1≤Qbw c∧Qbw c≤9:=by
 have h1:=h.1.1
 obtain ⟨x,hx,hk,_⟩:=h.2 (c.Play.length - 1) (by omega)
 rw [Qbw,hx]
 exact hk
theorem hintF_ne {c:D.Clue} {w:ByteArray} {v:Int}:¬Qd c w v=⟨#[]⟩↔(((1≤c.Sense∧c.Sense≤99)∧Qp c.Play)∧Qr w)∧(1≤v∧v≤4):=by
 unfold Qd
 by_cases h:((1≤c.Sense∧c.Sense≤99)∧Qp c.Play)∧Qr w
 ·rw [if_pos h]
  have hw:1≤w.size:=by have:=h.2.1.1;omega
  by_cases h1:v=1
  ·rw [if_pos h1];exact ⟨fun _=>⟨h,by omega⟩,fun _=>Qfv (Qff h.1.2)⟩
  ·rw [if_neg h1]
   by_cases h2:v=2
   ·rw [if_pos h2];exact ⟨fun _=>⟨h,by omega⟩,fun _=>Qc1 (Nat.le_refl 1)⟩
   ·rw [if_neg h2]
    by_cases h3:v=3
    ·rw [if_pos h3]
     refine ⟨fun _=>⟨h,by omega⟩,fun _=>Qc1 ?_⟩
     rw [QI,if_pos h.2,ByteArray.size_extract];omega
    ·rw [if_neg h3]
     by_cases h4:v=4
     ·rw [if_pos h4];exact ⟨fun _=>⟨h,by omega⟩,fun _=>Qc1 hw⟩
     ·rw [if_neg h4];exact ⟨fun e=>absurd Y e,fun e=>by have:=e.2;omega⟩
 ·rw [if_neg h];exact ⟨fun e=>absurd Y e,fun e=>absurd e.1 h⟩
theorem Qeb (v:Int):0<ZL v↔1≤v∧v≤4:=by unfold ZL;(repeat' split)<;>omega
def JB (w:ByteArray):List ByteArray:= [⟨#[99,97,116]⟩,w,⟨#[116,101,110]⟩,⟨#[116,101,97]⟩]
theorem Qgz {w:ByteArray} (h:w.size≤10):zL ByteArray.size (JB w)≤44:=by
 refine zW (k:=4) ⟨Nat.le_refl _,fun y hy=> ?_⟩
 simp only [JB,List.mem_cons,List.not_mem_nil,or_false] at hy
 rcases hy with rfl | rfl | rfl | rfl<;>first | omega | decide
theorem QdQ : Qr (⟨#[99,97,116]⟩:ByteArray):=⟨by decide,by decide⟩
theorem QdG : Qr (⟨#[116,101,110]⟩:ByteArray):=⟨by decide,by decide⟩
theorem Qec : Qr (⟨#[116,101,97]⟩:ByteArray):=⟨by decide,by decide⟩
theorem QdU {w y:ByteArray} (h:Qr w) (hy:y∈JB w):Qr y:=by
 simp only [JB,List.mem_cons,List.not_mem_nil,or_false] at hy
 rcases hy with rfl | rfl | rfl | rfl
 ·exact QdQ
 ·exact h
 ·exact QdG
 ·exact Qec
theorem Qfu {c:D.Clue} {w y:ByteArray} {v:Int} (hw:Qr w) (hy:Qr y) (hv:v≤2):Qd c w v=Qd c y v:=by
 by_cases h:(1≤c.Sense∧c.Sense≤99)∧Qp c.Play
 ·have e:∀y,Qr y→Qd c y v=if v=1 then Yf (Qbw c) else if v=2 then ZP ((Zi c.Play).length:Nat) else ⟨#[]⟩:=fun y hy=>by
   unfold Qd
   rw [if_pos (show ((1≤c.Sense∧c.Sense≤99)∧Qp c.Play)∧Qr y from ⟨h,hy⟩),if_neg (show ¬v=3 by omega),if_neg (show ¬v=4 by omega)]
  rw [e w hw,e y hy]
 ·have e:∀y,Qd c y v=⟨#[]⟩:=fun y=>if_neg (fun e=>h e.1)
  rw [e w,e y]
theorem Qht {c:D.Clue} {w:ByteArray} {v:Int} (h:¬Qd c w v=⟨#[]⟩):w∈Qc c (JB w) v (Qd c w v)∧(v≤2→(Qc c (JB w) v (Qd c w v)).length=4)∧(v=4→∀y∈Qc c (JB w) v (Qd c w v),y=w)∧(v=3→∀y∈Qc c (JB w) v (Qd c w v),QI y=QI w):=by
 have hq:=hintF_ne.1 h
 have hw:=hq.1.2
 refine ⟨List.mem_filter.2 ⟨by simp [JB],decide_eq_true ⟨h,rfl⟩⟩,fun hv=> ?_,fun hv y hy=> ?_,fun hv y hy=> ?_⟩
 ·have e:Qc c (JB w) v (Qd c w v)=JB w:=List.filter_eq_self.2 (fun y hy=>decide_eq_true ⟨h,Qfu (QdU hw hy) hw hv⟩)
  rw [e];rfl
 ·obtain ⟨h1,h2⟩:=List.mem_filter.1 hy
  have h3:=(of_decide_eq_true h2).2
  have hy1:=QdU hw h1
  subst hv
  unfold Qd at h3
  rw [if_pos ⟨hq.1.1,hy1⟩,if_pos hq.1] at h3
  simpa using h3
 ·obtain ⟨h1,h2⟩:=List.mem_filter.1 hy
  have h3:=(of_decide_eq_true h2).2
  have hy1:=QdU hw h1
  subst hv
  unfold Qd at h3
  rw [if_pos ⟨hq.1.1,hy1⟩,if_pos hq.1] at h3
  simpa using h3
theorem bx2 {p q:Prop} [Decidable p] [Decidable q] (e:q↔¬p) (h:(!((!(decide p)) == decide q))=true):False:=by
 by_cases hp:p<;>by_cases hq:q<;>simp_all
theorem bx3 {p q:Prop} [Decidable p] [Decidable q] (e:q↔¬p) (h:(!(decide p == !(decide q)))=true):False:=by
 by_cases hp:p<;>by_cases hq:q<;>simp_all
theorem Qb6 {c:D.Clue} {w:ByteArray} {v:Int} (h:(!((!(decide (Qd c w v=(⟨#[]⟩:ByteArray)))) == (decide ((((1≤c.Sense∧c.Sense≤99)∧Qp c.Play)∧Qr w)∧¬hnS v=(⟨#[]⟩:ByteArray)))))=true∨(!((decide (0<ZL v)) == (!(decide (hnS v=(⟨#[]⟩:ByteArray))))))=true):False:=by
 have e1:hnS v=(⟨#[]⟩:ByteArray)↔¬ 0<ZL v:=by rw [Qe6,Qeb]
 have e2:(((1≤c.Sense∧c.Sense≤99)∧Qp c.Play)∧Qr w)∧¬hnS v=(⟨#[]⟩:ByteArray)↔¬Qd c w v=(⟨#[]⟩:ByteArray):=by
  rw [hintF_ne,Qe6]
  exact ⟨fun x=>⟨x.1,Classical.byContradiction x.2⟩,fun x=>⟨x.1,fun y=>y x.2⟩⟩
 rcases h with h | h
 ·exact bx2 e2 h
 ·exact bx3 e1 h
theorem Qcc {A:List ByteArray} {w:ByteArray} {v:Int} {Q:Prop} (haf:w∈A∧(v≤2→A.length=4)∧(v=4→∀y∈A,y=w)∧Q) (h:(¬w∈A∨(v≤2∧¬A.length=4))∨(v=4∧(A.length=0∨¬A[0]?.getD ByteArray.empty=w))):False:=by
 rcases h with (h | h) | ⟨h1,h⟩
 ·exact h haf.1
 ·exact h.2 (haf.2.1 h.1)
 ·cases A with
  | nil=>exact absurd haf.1 (by simp)
  | cons x r =>
   rcases h with h | h
   ·simp at h
   ·exact h (haf.2.2.1 h1 x List.mem_cons_self)
theorem J4 {b:Bool} (h:(!(b == b))=true):False:=by cases b<;>simp at h
theorem QcH {c:D.Clue} {ws:List ByteArray} {v:Int} {h x:ByteArray} {i:Nat} (hw:∀y∈ws,y.size≤10) (hx:(Qc c ws v h)[i]? =some x):x.size≤10:=hw x (List.mem_filter.1 (List.mem_of_getElem? hx)).1
theorem QgJ {w:ByteArray} (h:w.size≤10):∀y∈JB w,y.size≤10:=fun y hy=>by
 simp only [JB,List.mem_cons,List.not_mem_nil,or_false] at hy
 rcases hy with rfl | rfl | rfl | rfl<;>first | omega | decide
theorem QK {c:D.Clue} {ws:List ByteArray} {v:Int} {h y:ByteArray} (hy:y∈Qc c ws v h):Z7 c y v h∧y∈ws:=⟨of_decide_eq_true (List.mem_filter.1 hy).2,(List.mem_filter.1 hy).1⟩
end
theorem J0 (n:Nat) (a:List ByteArray) (b:List ByteArray) (ha:a.length≤mx) (hb:b.length≤mx):Pure (Qm Tryd.prog (n+4)) 18 [(rd 1 Qf a),(rd 1 Qf b)] (tB (decide (∀y∈a,y∈b))):=by
 refine Pure.intro (rs:= [ResultVar.tmp 4]) Tryd.func18 Y Y Y (E0:= [(0,(rd 1 Qf a)),(1,(rd 1 Qf b))]) Y ?_
 obtain ⟨hlim,hmx,hmax⟩:=QG
 refine sr (fO (OF.assign (VEv.bool false)) (nt (sq (sr (fO (OF.assign (VEv.int .i64 0)) (nt (VRun.block ?_)))))))
 refine VRun.loop (A:=Nat) (fun s_=> [(0,(rd 1 Qf a)),(1,(rd 1 Qf b)),(5,(tN s_))]) (fun s_=>ZR []) 0 (fun s_=>NoneTo (fun y=>¬y∈b) a s_) (fun s_=>a.length - s_) (0:Nat) ?_ (Wk.mk (fun k=>k) ?_ ?_ ?_) ?_
 ·exact NoneTo.start _ _
 ·exact (b2 (b2 (b2 bn)))
 ·exact bn
 ·exact nd Y
 rintro i (hI':NoneTo (fun y=>¬y∈b) a i)
 show VRun _ _ _ [(0,(rd 1 Qf a)),(1,(rd 1 Qf b)),(5,(tN i))] (ZR []) 0 _
 have hI1:=hI'.1
 refine sq (sr (mO (tN i) Y (mO (rd 1 Qf a) Y (lO (B.lenR (m:=a.length) (tv (rd 1 Qf a) Y) Y1 (List.length_map ..)) (fO (Yr (tv (tN i) Y) (tv (tN a.length) Y)) (nt ?_))))))
 refine cd (i<a.length) Y (fun fhc0=> ?_) fun fhc0=> ?_
 ·refine sk ?_
  refine tn (sq (VRun.block (sr (mO (rd 1 Qf b) Y (mO (rd 1 Qf a) Y (mO (tN i) Y ?_))))))
  obtain ⟨x1,hx1⟩:∃x,a[i]? =some x:=⟨_,List.getElem?_eq_getElem (by omega)⟩
  refine fO (OF.indexAddrR (row:=(Qf false x1)) (i:=i) (tv (rd 1 Qf a) Y) (tv (tN i) Y) Y (Qs _ hx1) Y1 Yx if9) (lO (OL.loadR1 (t:=(tS x1)) (tv (T.rp [(tS x1)]) Y) Y st9) (cO (cS (vc (tv (rd 1 Qf b) Y) (vc (tv (tS x1) Y) vn)) (QR Y) (JM (n+0) b x1 (by first | assumption | omega)) Y Y) (fO (QZ (tv (tB (decide (x1∈b))) Y)) (nt ?_))))
  refine cn (x1∈b) Y (fun fhc1=> ?_) fun fhc1=> ?_
  ·refine sr ?_
   refine fO (OF.assign (VEv.bool false)) (nt (rt (vinB.r (tr (tr (vinB.r (tr (vb (b':=false) Y ?_))))))))
   exact dFa (fun h_=>fhc1 (h_ x1 (List.mem_of_getElem? hx1)))
  refine sk (vinB.n (tn (VRun.region (mO (tN i) Y (fO (Zu (tv (tN i) Y) (VEv.int .i64 1) (by omega)) (aO (tN (i+1)) Y (VRunO.nil (tn ?_))))))))
  refine ⟨(i+1:Nat),?_,?_,Wk.mk (fun k=>k) ?_ ?_ ?_⟩
  ·exact hI'.next hx1 (fun h_=>h_ fhc1)
  ·first | omega | (simp only [];omega) | (show _<_;omega) | (simp;omega)
  ·exact (b2 (b2 (b2 bn)))
  ·exact bn
  ·exact nd Y
 refine VRun.exit (vthn.e (vthn.e (vinB.e (tn (sr (fO (OF.assign (VEv.bool true)) (nt (rt (vb (b':=true) Y ?_)))))))))
 exact dTr (fun y hy=>by obtain ⟨j,hj⟩:=List.getElem?_of_mem hy;exact Classical.byContradiction fun h_=>hI'.all fhc0 j y (List.getElem?_eq_some_iff.1 hj).1 hj h_)
end Go.Proofs.YtcglnehpapgfpaaDoor.AE
